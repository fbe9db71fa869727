/- Part U2 of the proof: see the last part. -/
import Derived.Test.YtjheoaemhdpoeaaGreatDoorU1
import Derived.Test.YtjheoaemhdpoeaaGreatDoorA3
import Derived.DataReads
import Derived.ChangeArms
import Derived.OpenShut
set_option linter.unusedVariables false
namespace Go.AM
open Go
variable {α:Type} {P:Program} {X:Td} {nt:Nat} {rnd:Option Nat}
def noRF:Code->Bool
 | .skip=>true
 | .region _ ops draw=>draw||(qBg ops.toList).isNone
 | .seq a b=>noRF a&&noRF b
 | .cond _ a b=>noRF a&&noRF b
 | .block _ b=>noRF b
 | .loop b=>(qBn b).isNone&&noRF b
 | .exit _=>true
 | .ret=>true
 |_=>false
def reMs(ms:List Mk):Out->Out
 | .exit e T _=>.exit e T ms
 | .val v=>.val v
def reO(ms:List Mk):Option (Out×AH)->Option (Out×AH)
 |some (o,H)=>some (reMs ms o,H)
 |none=>none
theorem qMZ:∀(n:Nat) (c:Code),noRF c=true->∀(T:Tmps) (ms:List Mk) (H:AH),run P X n (.code nt rnd c T ms) H=reO ms (run P X n (.code nt rnd c T []) H)
 | 0,_,_,_,_,_=>rfl
 | n+1,c,hc,T,ms,H=>by
   show qBI P (run P X n) nt rnd c T ms H=reO ms (qBI P (run P X n) nt rnd c T [] H);have ih:=λc hc T ms H=>qMZ n c hc T ms H;cases c with
   |skip=>rfl
   |exit id=>rfl
   |ret=>rfl
   | region id ops draw=>
     simp only[noRF,Bool.or_eq_true]at hc;simp only[qBI];cases draw with
     | false=>
       have hd:qBg ops.toList=none:=by
        rcases hc with h|h
        ·cases h
        ·simpa using h
       simp only[cond_false,hd];unfold bd;cases opsA P (run P X n) nt ops.toList ops.toList T H with
       |none=>rfl
       |some p=>rfl
     | true=>
       simp only[cond_true];unfold bd;cases(cond (qCd ops.toList) (opsD P (run P X n) nt ops ops.toList (masks ops.toList []) [] T) fail:M Tmps) H with
       |none=>rfl
       |some p=>rfl
   | seq a b=>
     simp only[noRF,Bool.and_eq_true]at hc;simp only[qBI,bd];rw[ih a hc.1 T ms H];have e0:=ih a hc.1 T [] H;cases hq:run P X n (.code nt rnd a T []) H with
     |none=>rfl
     | some p=>
       obtain⟨o,H1⟩:=p;rw[hq]at e0;simp only[reO,Option.some.injEq,Prod.mk.injEq,and_true]at e0;simp only[reO];cases o with
       |val v=>rfl
       | exit e T1 ms1=>
         simp only[reMs,Out.exit.injEq,true_and]at e0;subst e0;cases e with
         |nrm=>exact ih b hc.2 T1 ms H1
         |ret=>rfl
         |exit id=>rfl
   | cond x a b=>
     simp only[noRF,Bool.and_eq_true]at hc;simp only[qBI];cases ev T x with
     |none=>rfl
     | some v=>
       cases v with
       | bool t=>cases t with
         |true=>exact ih a hc.1 T ms H
         |false=>exact ih b hc.2 T ms H
       |_=>rfl
   | block id b=>
     simp only[noRF]at hc;simp only[qBI,bd];rw[ih b hc T ms H];cases hq:run P X n (.code nt rnd b T []) H with
     |none=>rfl
     | some p=>
       obtain⟨o,H1⟩:=p;cases o with
       |val v=>rfl
       | exit e T1 ms1=>
         cases e with
         |nrm=>rfl
         |ret=>rfl
         | exit id'=>
           simp only[reO,reMs];cases Nat.beq id' id<;>rfl
   | loop b=>
     simp only[noRF,Bool.and_eq_true]at hc;have hm:qBn b=none:=by simpa using hc.1
     simp only[qBI,hm,bd];rw[ih b hc.2 T ms H];have e0:=ih b hc.2 T [] H;cases hq:run P X n (.code nt rnd b T []) H with
     |none=>rfl
     | some p=>
       obtain⟨o,H1⟩:=p;rw[hq]at e0;simp only[reO,Option.some.injEq,Prod.mk.injEq,and_true]at e0;simp only[reO];cases o with
       |val v=>rfl
       | exit e T1 ms1=>
         simp only[reMs,Out.exit.injEq,true_and]at e0;subst e0;cases e with
         |nrm=>exact ih (.loop b) (by simp[noRF,hm,hc.2]) T1 ms H1
         |ret=>rfl
         |exit id=>rfl
   |scope _=>cases hc
   |label _=>cases hc
   |goto _=>cases hc
   |refuse _=>cases hc
   |rangeFunc _ _ _ _=>cases hc
theorem wpF.both{m:Nat->M α}{Q:α->Hq->Prop}{R:α->Prop}{s:Hq}(h:wpF m Q s)(hR:∀n H a H',m n H=some (a,H')->R a):wpF m (λa s=>Q a s/\R a) s:=λH hH=>by obtain⟨n,a,H',h1,s',h2,h3,h4⟩:=h H hH;exact⟨n,a,H',h1,s',h2,h3,h4,hR n H a H' h1⟩
theorem qSC{c:Code}(hc:noRF c=true){T:Tmps}{Q:Out->Hq->Prop}{s:Hq}(ms:List Mk)(h:wpF (λn=>run P X n (.code nt rnd c T [])) Q s):
  wpF (λn=>run P X n (.code nt rnd c T ms)) (λo s=>∃o',o=reMs ms o'/\o'=reMs [] o'/\Q o' s) s:=λH hH=>by
 obtain⟨n,a,H',h1,s',h2,h3,h4⟩:=h H hH;have e0:=qMZ (P:=P) (X:=X) (nt:=nt) (rnd:=rnd) n c hc T [] H;have h1:run P X n (.code nt rnd c T []) H=some (a,H'):=h1;rw[h1]at e0;simp only[reO,Option.some.injEq,Prod.mk.injEq,and_true]at e0;refine⟨n,reMs ms a,H',?_,s',h2,h3,a,rfl,e0,h4⟩;show run P X n (.code nt rnd c T ms) H=_;rw[qMZ n c hc T ms H,h1];rfl
theorem qJJ{n b:Nat}:∀{l:List Nat},hasN n (l ++ [b])=(hasN n l||Nat.beq n b)
 |[]=>by unfold hasN;simp[hasN]
 | m::l=>by
   show(Nat.beq n m||hasN n (l ++ [b]))=((Nat.beq n m||hasN n l)||Nat.beq n b)
   rw[qJJ,Bool.or_assoc]
theorem qNY{seen:List Nat}:∀{es:List AEnt}{e:AEnt},e∈qGh seen es->e∈es/\hasN e.born seen=false
 | x::es,e,h=>by
   unfold qGh at h;cases c:hasN x.born seen with
   | true=>
     rw[c]at h;obtain⟨h1,h2⟩:=qNY h;exact⟨mO _ h1,h2⟩
   | false=>
     rw[c]at h;rcases mC h with rfl|h
     ·exact⟨List.mem_cons_self,c⟩
     ·obtain⟨h1,h2⟩:=qNY h
      exact⟨mO _ h1,h2⟩
theorem qTV{seen:List Nat}{b:Nat}:∀{es:List AEnt},(qGh (seen ++ [b]) es).length<=(qGh seen es).length
 |[]=>Nat.le_refl _
 | x::es=>by
   unfold qGh;rw[qJJ];have:=qTV (seen:=seen) (b:=b) (es:=es);cases c:hasN x.born seen with
   |true=>exact this
   | false=>
     cases d:Nat.beq x.born b with
     |true=>simp only[Bool.or_true,cond_true,cond_false,List.length_cons];omega
     |false=>simp only[Bool.or_false,cond_false,List.length_cons];omega
theorem qPM{seen:List Nat}:∀{es:List AEnt}{e:AEnt},e∈qGh seen es->(qGh (seen ++ [e.born]) es).length<(qGh seen es).length
 | x::es,e,h=>by
   have hle:=qTV (seen:=seen) (b:=e.born) (es:=es);unfold qGh at h ⊢;rw[qJJ];cases c:hasN x.born seen with
   | true=>
     rw[c]at h;exact qPM h
   | false=>
     rw[c]at h;rcases mC h with rfl|h
     ·simp only[Nat.beq_refl,Bool.or_true,cond_true,cond_false,List.length_cons];omega
     ·have:=qPM h
      cases d:Nat.beq x.born e.born with
      |true=>simp only[Bool.or_true,cond_true,cond_false,List.length_cons];omega
      |false=>simp only[Bool.or_false,cond_false,List.length_cons];omega
theorem qQR:∀es:List AEnt,qGh [] es=es
 |[]=>rfl
 | x::es=>by
   show cond (hasN x.born []) (qGh [] es) (x::qGh [] es)=_;rw[qQR es];rfl
end Go.AM
namespace Go.AM
open Go
theorem ClE.keep{s0:Hq}{H0 H H':AH}{r:Nat}{es:List (Nat×Bool)}(h:ClE s0 H0 r H)(d:Does es H H')(hw:∀i,(i,true)∈es->H.next<=i):ClE s0 H0 r H'/\∀i,i<H.next->H'.blks.get i=H.blks.get i:=by
 have same:∀i,i<H.next->H'.blks.get i=H.blks.get i:=λi hi=>d.same i λhm=>by have:=hw i hm;omega
 refine⟨⟨⟨by rw[d.lo];exact Nat.le_trans h.rel.lo d.next,λi hi=>?_,λi t b hi=>?_⟩,Nat.le_trans h.next d.next,d.lo.trans h.lo,λi hi=>?_,λi hi hr=>(same i (Nat.lt_of_lt_of_le hi h.next)).trans (h.kept i hi hr)⟩,same⟩
 ·rcases d.gone i hi with e|e
  ·exact Nat.lt_of_lt_of_le (h.rel.wf i e) d.next
  ·exact e.2
 ·obtain⟨k1,ab,k2,k3⟩:=h.rel.at_ i t b hi
  exact⟨λq=>by rw[d.lo];exact k1 q,ab,by rw[same i (h.rel.wf i (by rw[k2];simp))];exact k2,k3⟩
 ·rw[d.log]at hi
  rcases mP hi with hi|hi
  ·exact .inr (Nat.le_trans h.next (hw i hi))
  ·exact h.log i hi
theorem qQg{b:Nat}:∀{l:List Nat},qQW (l ++ [b])=some b
 |[]=>rfl
 |[x]=>rfl
 | x::y::l=>by
   show qQW (y::l ++ [b])=some b;exact qQg
def qSO(s0:Hq)(mo:Option Nat)(c:Nat)(es:List AEnt):Prop:=match mo with
 |none=>es=[]
 |some m=>∃t,s0 m=some (t,.map es c)
theorem qOc{T:Tmps}{env:Env}(h:TR T env)(i:Nat)(v:AV):TR (T.put i (some v)) (upd env i v):=λj=>by
 unfold tget upd;rw[Tr.get_put];cases e:Nat.beq j i with
 | true=>
   have:=bE e;subst this;rw[if_pos rfl];rfl
 | false=>
   have hne:¬i=j:=λq=>by subst q;rw[Nat.beq_refl]at e;cases e
   rw[if_neg hne];exact h j
abbrev zAES(st:MapStep)(env:Env)(e:AEnt):Env:=upd (upd env st.nx (.tup [.bool true,e.key,e.val])) st.more (.bool true)
abbrev zAEk(st:MapStep)(env:Env):Env:=upd (upd env st.nx (.tup [.bool false])) st.more (.bool false)
end Go.AM
namespace Go.AM
open Go
def mixE(slots:List Nat)(f env:Env):Env:=λj=>cond (memN j slots) (f j) (env j)
def qOr:List Oper->List Nat
 |[]=>[]
 | o::os=>match o.dst with
   |some d=>d::qOr os
   |none=>qOr os
def assigned:Code->List Nat
 | .region _ ops _=>qOr ops.toList
 | .seq a b=>assigned a++assigned b
 | .cond _ a b=>assigned a++assigned b
 | .block _ b=>assigned b
 | .loop b=>assigned b
 |_=>[]
def qHX:Code->Nat
 | .region id _ _=>id
 | .seq a _=>qHX a
 | .block _ b=>qHX b
 | .loop b=>qHX b
 | .cond _ a _=>qHX a
 |_=>0
def qUs(ls slots:List Nat)(body:Env->(AExit->Env->Hq->Prop)->Hq->Prop)(env:Env)(K:AExit->Env->Hq->Prop)(s:Hq):Prop:=
 ∃I:List AV->Hq->Nat->Prop,(∃m,I (ls.map env) s m)/\∀(f:Env) (s:Hq) (m:Nat),I (ls.map f) s m->
  body (mixE slots f env) (λe env' s'=>match e with
   | .nrm=>∃m',m'<m/\I (ls.map env') s' m'
   |e=>K e env' s') s
def zAE7(l:Nat)(s:Hq):Prop:=match s l with
 |some (_,.loop _ _ _ _ _ _ _ _)=>True
 |_=>False
def zAE8(l:Nat)(K:AExit->Hq->Prop)(s:Hq):Prop:=match s l with
 | some (false,.loop st pd _ _ _ _ _ _)=>st≠.busy/\(match pd with
   |none=>K .nrm (hdel s l)
   |some .ret=>K .ret (hdel s l)
   |some (.exit id)=>K (.exit id) (hdel s l)
   |some _=>False)
 |_=>False
def qRV(s:Hq)(x:AV):Option (Nat×Option Nat×Nat×Nat×List AEnt):=match x with
 | .ptr r 0=>match s r with
   |some (false,.iter none since [] stepped)=>cond (Nat.ble since stepped) (some (r,none,since,since,[])) none
   | some (false,.iter (some m) since [] stepped)=>match s m with
     |some (_,.map es c)=>cond (Nat.ble since stepped&&(Nat.ble since c&&(qF3 since es&&Nat.blt es.length 900))) (some (r,some m,since,c,es)) none
     |_=>none
   |_=>none
 |_=>none
section
variable (P : Program) (X : Td)
def qTZ(A:Nat->List Nat)(ops:List Oper):List Nat:=A (1000000+(match qOr ops with|d::_=>d|[]=>0))
def wpC(A:Nat->List Nat)(nt:Nat)(rnd:Option Nat):Code->Env->(AExit->Env->Hq->Prop)->Hq->Prop
 | .skip,env,K,s=>K .nrm env s
 | .region _ ops draw,env,K,s=>cond ((ops.toList.all λo=>okOp o.op)&&(draw||(qBg ops.toList).isNone))
   (cond draw (cond (qCd ops.toList&&qMo (qTZ A ops.toList) ops (clsL P ops.toList) (masks ops.toList [])) (opsQ P X (qTZ A ops.toList) nt ops.toList (clsL P ops.toList) (masks ops.toList []) ops.toList 0 [] [] [] env (λenv s=>K .nrm env s) s) False)
    (opsE P X nt ops.toList ops.toList [] env (λenv s=>K .nrm env s) s)) False
 | .seq a b,env,K,s=>wpC A nt rnd a env (λe env s=>match e with
   | .nrm=>wpC A nt rnd b env K s
   |e=>K e env s) s
 | .cond c a b,env,K,s=>cond (okX c) (qAJ (evD env c) (wpC A nt rnd a env K s) (wpC A nt rnd b env K s)) False
 | .block id b,env,K,s=>wpC A nt rnd b env (λe env s=>match e with
   | .exit id'=>cond (Nat.beq id' id) (K .nrm env s) (K (.exit id') env s)
   |e=>K e env s) s
 | .loop b,env,K,s=>match qBn b with
   |some _=>False
   |none=>qUs (A (2*qHX b)) (assigned b) (λenv K s=>wpC A nt rnd b env K s) env K s
 | .exit id,env,K,s=>K (.exit id) env s
 | .ret,env,K,s=>K .ret env s
 |_,_,_,_=>False
def resK:List ResultVar->Env->(List AV->Prop)->Hq->Prop
 |[],_,k,_=>k []
 | .tmp t::rs,env,k,s=>resK rs env (λvs=>k (env t::vs)) s
 | .cell a t::rs,env,k,s=>qPL P t (env a) (λv=>resK rs env (λvs=>k (v::vs)) s) s
def retK(e:AExit)(p:Prop):Prop:=match e with
 | .exit _=>False
 |_=>p
end
variable {α:Type} {P:Program} {X:Td} {A:Nat→List Nat} {nt:Nat} {rnd:Option Nat}
def mkH(ms:List Nat):Hq:=λi=>if i∈ms then some (false,.deferred true)else none
theorem qKi{ms:List Nat}{i:Nat}:mkH ms i≠none↔i∈ms:=by unfold mkH;by_cases h:i∈ms<;>simp[h]
theorem qGo{i:Nat}:∀{l:List Nat},memN i l=true↔i∈l
 |[]=>by simp[memN]
 | j::l=>by
   unfold memN;cases h:Nat.beq i j with
   |true=>simp[bE h]
   | false=>
     have:i≠j:=λe=>by rw[e,Nat.beq_refl]at h;cases h
     simp[qGo (l:=l),this]
theorem qHU:∀{l:List Oper}{o:Oper}{d:Nat},o∈l->o.dst=some d->d∈qOr l
 |[],_,_,h,_=>by cases h
 | p::l,o,d,h,hd=>by
   unfold qOr;rcases mC h with rfl|h
   ·rw[hd];exact List.mem_cons_self ..
   ·cases p.dst with
    |none=>exact qHU h hd
    |some _=>exact mO _ (qHU h hd)
theorem qIy:∀(os:List Oper) (acc:List Nat),(masks os acc).length=acc.length+os.length
 |[],acc=>by simp[masks]
 |o::os,acc=>by rw[masks,qIy];simp;omega
def mkm(ms:List Nat):List Mk:=ms.map Mk.mark
def qZS(c:Code)(env:Env)(K:AExit->Env->Hq->Prop)(ms:List Nat)(rnd:Option Nat)(o:Out)(S:Hq):Prop:=
 ∃e T' env' ms' s',o=.exit e T' (mkm (ms'++ms))/\TR T' env'/\S=add s' (mkH (ms'++ms))/\(∀i∈ms'++ms,s' i=none)/\(ms'++ms).Nodup/\(∀j,j ∉ assigned c->env' j=env j)/\(rnd≠none->ms'=[])/\K e env' s'
def qJZ(P:Program)(X:Td)(A:Nat->List Nat)(nt:Nat)(rnd:Option Nat)(c:Code):Prop:=∀(env:Env) (K:AExit->Env->Hq->Prop) (s:Hq),wpC P X A nt rnd c env K s->∀(T:Tmps) (ms:List Nat),TR T env->(∀i∈ms,s i=none)->ms.Nodup->
 wpF (λn=>run P X n (.code nt rnd c T (mkm ms))) (qZS c env K ms rnd) (add s (mkH ms))
theorem wpF.succ{m:Nat->M α}{m':Nat->M α}{Q:α->Hq->Prop}{s:Hq}(h:wpF m Q s)(e:∀n,m' (n+1)=m n):wpF m' Q s:=λH hH=>by obtain⟨n,a,H',h1,h2⟩:=h H hH;exact⟨n+1,a,H',by rw[e];exact h1,h2⟩
theorem qEv{c:Code}{T:Tmps}{ms:List Mk}{Q:Out->Hq->Prop}{s:Hq}(h:wpF (λn=>qBI P (run P X n) nt rnd c T ms) Q s):wpF (λn=>run P X n (.code nt rnd c T ms)) Q s:=h.succ λ_=>rfl
theorem qZS.stay{c:Code}{env:Env}{K:AExit->Env->Hq->Prop}{ms:List Nat}{e:AExit}{T:Tmps}{s:Hq}(hT:TR T env)(hm:∀i∈ms,s i=none)(hnd:ms.Nodup)(h:K e env s):qZS c env K ms rnd (.exit e T (mkm ms)) (add s (mkH ms)):=
 ⟨e,T,env,[],s,rfl,hT,rfl,hm,hnd,λ_ _=>rfl,λ_=>rfl,h⟩
theorem zAC2:qJZ P X A nt rnd .skip:=λenv K s h T ms hT hm hnd=>qEv (wpF.ret (.stay hT hm hnd h))
theorem zACx{id:Nat}:qJZ P X A nt rnd (.exit id):=λenv K s h T ms hT hm hnd=>qEv (wpF.ret (.stay hT hm hnd h))
theorem zAEp:qJZ P X A nt rnd .ret:=λenv K s h T ms hT hm hnd=>qEv (wpF.ret (.stay hT hm hnd h))
theorem qYZ(hX:FrX X){id:Nat}{ops:Array Oper}{draw:Bool}:qJZ P X A nt rnd (.region id ops draw):=by
 intro env K s h T ms hT hm hnd;refine qEv ?_;unfold wpC at h;cases hokd:((ops.toList.all λo=>okOp o.op)&&(draw||(qBg ops.toList).isNone))with
 |false=>rw[hokd]at h;exact h.elim
 | true=>
   rw[hokd,cond_true]at h;obtain⟨hok,hdn⟩:=Bool.and_eq_true_iff.1 hokd;have fin:∀m:Nat->M Tmps,(∀n,Fr (m n))->Mono m->wpF m (λT' s'=>∃env',TR T' env'/\K .nrm env' s'/\∀j,(∀o∈ops.toList,o.dst≠some j)->env' j=env j) s->
     wpF (λn=>bd (m n) λT=>ret (Out.exit .nrm T (mkm ms))) (qZS (.region id ops draw) env K ms rnd) (add s (mkH ms)):=by
    intro m hfr hmo hw;refine wpF.bd (f:=λ_ T=>ret (Out.exit .nrm T (mkm ms))) hmo (λ_=>.const _) ((wpF.frame hfr hw λi hi=>hm i (qKi.1 hi)).mono ?_);rintro T' S ⟨s',rfl,hs',env',q1,q2,q3⟩;refine wpF.ret ⟨.nrm,T',env',[],s',rfl,q1,rfl,λi hi=>hs' i (qKi.2 hi),hnd,λj hj=>q3 j λo ho hd=>hj ?_,λ_=>rfl,q2⟩;exact qHU ho hd
   unfold qBI;cases draw with
   | false=>
     simp only[cond_false]at h ⊢;have hdn:qBg ops.toList=none:=by simpa using hdn
     rw[hdn];exact fin _ (λn=>qQB P (qEl P hX n) _ _ _ _) (qNa _ _ _ _) (qRz _ _ _ _ _ hok hT .nil h)
   | true=>
     simp only[cond_true]at h ⊢;cases hr:(qCd ops.toList&&qMo (qTZ A ops.toList) ops (clsL P ops.toList) (masks ops.toList []))with
     |false=>rw[hr]at h;exact h.elim
     | true=>
       rw[hr,cond_true]at h;obtain⟨h1,h2⟩:=Bool.and_eq_true_iff.1 hr;simp only[h1,cond_true];have hlen:(masks ops.toList []).length=ops.size:=by rw[qIy];simp
       refine fin _ (λn=>qMw P (qEl P hX n) _ _ _ _ _ _) (qNZ _ _ _ _ _) λH hH=>?_;obtain⟨n,T',H',q1,s',env',q2,q3,q4,q5,q6⟩:=qSp hX hlen h2 ops.toList 0 [] [] [] env s T [] rfl hok hT .nil h H hH ⟨rfl,by simp,by simp,by simp,by simp,by simp⟩;exact⟨n,T',H',q1,s',q2,q3,env',q4,q5,q6⟩
theorem zAEw{a b:Code}(ha:qJZ P X A nt rnd a)(hb:qJZ P X A nt rnd b):qJZ P X A nt rnd (.seq a b):=by
 intro env K s h T ms hT hm hnd;refine qEv ?_;unfold wpC at h;unfold qBI;refine wpF.bd (m:=λn=>run P X n (.code nt rnd a T (mkm ms))) (f:=λn o=>match o with
  | .exit .nrm T ms=>run P X n (.code nt rnd b T ms)
  |o=>ret o) (qCq _) (λo=>?_) ((ha env _ s h T ms hT hm hnd).mono ?_)
 ·cases o with
  | exit e T ms=>cases e with
    |nrm=>exact qCq _
    |_=>exact .const _
  |val v=>exact .const _
 ·rintro o S ⟨e,T1,env1,ms1,s1,rfl,q1,rfl,q2,q3,q4,q5,q6⟩
  cases e with
  | nrm=>
    refine(hb env1 K s1 q6 T1 (ms1++ms) q1 q2 q3).mono ?_;rintro o S ⟨e,T2,env2,ms2,s2,rfl,r1,rfl,r2,r3,r4,r5,r6⟩;refine⟨e,T2,env2,ms2++ms1,s2,by rw[List.append_assoc],r1,by rw[List.append_assoc],by rw[List.append_assoc];exact r2,by rw[List.append_assoc];exact r3,λj hj=>?_,λhr=>by rw[r5 hr,q5 hr];rfl,r6⟩;simp only[assigned,List.mem_append,not_or]at hj;rw[r4 j hj.2,q4 j hj.1]
  |exit id=>exact wpF.ret ⟨_,T1,env1,ms1,s1,rfl,q1,rfl,q2,q3,λj hj=>q4 j (by simp only[assigned,List.mem_append,not_or]at hj;exact hj.1),q5,q6⟩
  |ret=>exact wpF.ret ⟨_,T1,env1,ms1,s1,rfl,q1,rfl,q2,q3,λj hj=>q4 j (by simp only[assigned,List.mem_append,not_or]at hj;exact hj.1),q5,q6⟩
theorem zADe{c:Operand}{a b:Code}(ha:qJZ P X A nt rnd a)(hb:qJZ P X A nt rnd b):qJZ P X A nt rnd (.cond c a b):=by
 intro env K s h T ms hT hm hnd;refine qEv ?_;unfold wpC at h;cases hok:okX c with
 |false=>rw[hok]at h;exact h.elim
 | true=>
   rw[hok,cond_true]at h;unfold qBI;simp only[qIk hT hok];unfold qAJ at h;split at h
   ·rename_i e
    simp only[e,cond_true];refine(ha env K s h T ms hT hm hnd).mono ?_;rintro o S ⟨e,T2,env2,ms2,s2,rfl,r1,rfl,r2,r3,r4,r5,r6⟩;exact⟨e,T2,env2,ms2,s2,rfl,r1,rfl,r2,r3,λj hj=>r4 j (by simp only[assigned,List.mem_append,not_or]at hj;exact hj.1),r5,r6⟩
   ·rename_i e
    simp only[e,cond_false];refine(hb env K s h T ms hT hm hnd).mono ?_;rintro o S ⟨e,T2,env2,ms2,s2,rfl,r1,rfl,r2,r3,r4,r5,r6⟩;exact⟨e,T2,env2,ms2,s2,rfl,r1,rfl,r2,r3,λj hj=>r4 j (by simp only[assigned,List.mem_append,not_or]at hj;exact hj.2),r5,r6⟩
   ·exact h.elim
theorem zAAq{id:Nat}{b:Code}(hb:qJZ P X A nt rnd b):qJZ P X A nt rnd (.block id b):=by
 intro env K s h T ms hT hm hnd;refine qEv ?_;unfold wpC at h;unfold qBI;refine wpF.bd (m:=λn=>run P X n (.code nt rnd b T (mkm ms))) (f:=λ_ o=>match o with
  | .exit (.exit id') T ms=>cond (Nat.beq id' id) (ret (.exit .nrm T ms)) (ret (.exit (.exit id') T ms))
  |o=>ret o) (qCq _) (λ_=>.const _) ((hb env _ s h T ms hT hm hnd).mono ?_)
 rintro o S ⟨e,T1,env1,ms1,s1,rfl,q1,rfl,q2,q3,q4,q5,q6⟩;cases e with
 | exit id'=>
   simp only at q6 ⊢;cases hb:Nat.beq id' id with
   |true=>rw[hb]at q6;exact wpF.ret ⟨_,T1,env1,ms1,s1,rfl,q1,rfl,q2,q3,q4,q5,q6⟩
   |false=>rw[hb]at q6;exact wpF.ret ⟨_,T1,env1,ms1,s1,rfl,q1,rfl,q2,q3,q4,q5,q6⟩
 |nrm=>exact wpF.ret ⟨_,T1,env1,ms1,s1,rfl,q1,rfl,q2,q3,q4,q5,q6⟩
 |ret=>exact wpF.ret ⟨_,T1,env1,ms1,s1,rfl,q1,rfl,q2,q3,q4,q5,q6⟩
theorem qR1{s:Hq}{x:AV}{r since c:Nat}{mo:Option Nat}{es:List AEnt}(h:qRV s x=some (r,mo,since,c,es)):x=.ptr r 0/\∃stepped,s r=some (false,.iter mo since [] stepped)/\since<=stepped/\since<=c/\qF3 since es=true/\es.length<900/\qSO (hdel s r) mo c es:=by
 unfold qRV at h;split at h
 ·rename_i r'
  split at h
  ·rename_i since stepped hr
   cases e:Nat.ble since stepped with
   |false=>rw[e]at h;cases h
   | true=>
     rw[e]at h;cases h;exact⟨rfl,stepped,hr,Nat.le_of_ble_eq_true e,Nat.le_refl _,rfl,by simp,rfl⟩
  ·rename_i m since stepped hr
   split at h
   ·rename_i t es' c hm
    cases e:(Nat.ble since stepped&&(Nat.ble since c&&(qF3 since es'&&Nat.blt es'.length 900)))with
    |false=>rw[e]at h;cases h
    | true=>
      rw[e]at h;cases h;simp only[Bool.and_eq_true,Nat.blt_eq]at e;refine⟨rfl,stepped,hr,Nat.le_of_ble_eq_true e.1,Nat.le_of_ble_eq_true e.2.1,e.2.2.1,e.2.2.2,t,?_⟩;show(if m=r then none else s m)=_;rw[if_neg λq=>by rw[q,hr]at hm;cases hm];exact hm
   ·cases h
  ·cases h
 ·cases h
theorem qHp{b:Code}{st:MapStep}(h:qBn b=some st):∃a,b=.seq a st.rest:=by
 unfold qBn at h;split at h
 ·rename_i id ops rest
  split at h
  ·rename_i nx it ty1 pos1 af1 more nx' ty2 pos2 af2 hops
   cases e:Nat.beq nx nx' with
   |false=>rw[e]at h;cases h
   |true=>rw[e]at h;cases h;exact⟨_,rfl⟩
  ·cases h
 ·cases h
theorem qLE(s:Hq):add s (mkH [])=s:=by funext i;unfold add mkH;cases s i<;>simp
theorem zAC3(hX:FrX X){b:Code}(hb:qJZ P X A nt rnd b)(hr:∀st,qBn b=some st->qJZ P X A nt rnd st.rest):qJZ P X A nt rnd (.loop b):=by
 intro env K s h T ms hT hm hnd;unfold wpC at h;cases hms:qBn b with
 | some st=>
   rw[hms]at h;exact h.elim
 |none=>
 rw[hms]at h;simp only at h;unfold qUs at h;obtain⟨I,⟨m,h0⟩,hstep⟩:=h;have key:∀(m:Nat) (env1:Env) (s1:Hq) (T1:Tmps) (ms1:List Nat),I ((A (2*qHX b)).map env1) s1 m->(∀j,j ∉ assigned b->env1 j=env j)->TR T1 env1->(∀i∈ms1,s1 i=none)->ms1.Nodup->
   wpF (λn=>run P X n (.code nt rnd (.loop b) T1 (mkm ms1))) (λo S=>∃e T' env' ms' s',o=.exit e T' (mkm (ms'++ms1))/\TR T' env'/\S=add s' (mkH (ms'++ms1))/\(∀i∈ms'++ms1,s' i=none)/\(ms'++ms1).Nodup/\(∀j,j ∉ assigned b->env' j=env j)/\(rnd≠none->ms'=[])/\K e env' s') (add s1 (mkH ms1)):=by
  intro m
  induction m using Nat.strongRecOn with
  | _ m ih=>
    intro env1 s1 T1 ms1 hI hag hT1 hm1 hnd1;refine qEv ?_;have hmix:mixE (assigned b) env1 env=env1:=by
     funext j
     unfold mixE;cases hj:memN j (assigned b)with
     |true=>rfl
     |false=>exact(hag j λq=>by rw[qGo.2 q]at hj;cases hj).symm
    have hbody:=hstep env1 s1 m hI;rw[hmix]at hbody;unfold qBI;simp only[hms];refine wpF.bd (m:=λn=>run P X n (.code nt rnd b T1 (mkm ms1))) (f:=λn o=>match o with
     | .exit .nrm T ms=>run P X n (.code nt rnd (.loop b) T ms)
     |o=>ret o) (qCq _) (λo=>?_) ((hb env1 _ s1 hbody T1 ms1 hT1 hm1 hnd1).mono ?_)
    ·cases o with
     | exit e T ms=>cases e with
       |nrm=>exact qCq _
       |_=>exact .const _
     |val v=>exact .const _
    ·rintro o S ⟨e,T2,env2,ms2,s2,rfl,q1,rfl,q2,q3,q4,q5,q6⟩
     have hag2:∀j,j ∉ assigned b->env2 j=env j:=λj hj=>(q4 j hj).trans (hag j hj);cases e with
     | nrm=>
       obtain⟨m',hlt,hI'⟩:=q6;refine(ih m' hlt env2 s2 T2 (ms2++ms1) hI' hag2 q1 q2 q3).mono ?_;rintro o S ⟨e,T3,env3,ms3,s3,rfl,r1,rfl,r2,r3,r4,r5,r6⟩;exact⟨e,T3,env3,ms3++ms2,s3,by rw[List.append_assoc],r1,by rw[List.append_assoc],by rw[List.append_assoc];exact r2,by rw[List.append_assoc];exact r3,r4,λhr=>by rw[r5 hr,q5 hr];rfl,r6⟩
     |exit id=>exact wpF.ret ⟨_,T2,env2,ms2,s2,rfl,q1,rfl,q2,q3,hag2,q5,q6⟩
     |ret=>exact wpF.ret ⟨_,T2,env2,ms2,s2,rfl,q1,rfl,q2,q3,hag2,q5,q6⟩
 exact key m env s T ms h0 (λ_ _=>rfl) hT hm hnd
end Go.AM
namespace Go.AM
open Go
variable {α:Type} {P:Program} {X:Td} {A:Nat→List Nat} {nt:Nat} {rnd:Option Nat}
theorem wpF.drop{m:Nat->M α}{Q:α->Hq->Prop}{s t:Hq}(h:wpF m Q t)(hs:Sub t s)(hp:Pers s t):wpF m Q s:=λH hH=>by obtain⟨n,a,H',h1,s',h2,h3,h4⟩:=h H (hH.sub hs);exact⟨n,a,H',h1,s',h2,hp.trans h3,h4⟩
theorem qHm{s:Hq}{b:Nat}{e:Bool×Blk}:hset s b e b=some e:=if_pos rfl
theorem qFT{s:Hq}{b i:Nat}{e:Bool×Blk}(h:i≠b):hset s b e i=s i:=if_neg h
theorem qD3{s:Hq}{b i:Nat}(h:i≠b):hdel s b i=s i:=if_neg h
theorem qK7{s:Hq}{b:Nat}:hdel s b b=none:=if_pos rfl
theorem qGY(hX:FrX X):∀c:Code,qJZ P X A nt rnd c
 | .skip=>zAC2
 | .region _ _ _=>qYZ hX
 | .seq a b=>zAEw (qGY hX a) (qGY hX b)
 | .cond _ a b=>zADe (qGY hX a) (qGY hX b)
 | .block _ b=>zAAq (qGY hX b)
 | .loop b=>zAC3 hX (qGY hX b) (match b with
   | .seq _ r=>
     have hr:=qGY hX r
     λst h=>by
      obtain⟨a',e⟩:=qHp h
      injection e with _ e2
      rw[<- e2];exact hr
   | .skip | .region _ _ _ | .cond _ _ _ | .block _ _ | .loop _ | .exit _ | .ret | .rangeFunc _ _ _ _ | .scope _ | .label _ | .goto _ | .refuse _=>λst h=>by obtain⟨a',e⟩:=qHp h;cases e)
 | .exit _=>zACx
 | .ret=>zAEp
 | .rangeFunc _ _ _ _=>λ_ _ _ h=>h.elim
 | .scope _=>λ_ _ _ h=>h.elim
 | .label _=>λ_ _ _ h=>h.elim
 | .goto _=>λ_ _ _ h=>h.elim
 | .refuse _=>λ_ _ _ h=>h.elim
theorem qEF(l:List Mk):Mono λn=>qAu P (run P X n) l:=qBw λn=>qCo (qC4 n) l
theorem qI3{s:Hq}{Q:Hq->Prop}:∀(ms:List Nat) (S:Hq),ms.Nodup->(∀i∈ms,S i=some (false,.deferred true))->Sub s S->Pers S s->(∀i∈ms,s i=none)->Q s->wpF (λn=>qAu P (run P X n) (mkm ms)) (λ_ s'=>Q s') S
 |[],S,_,_,hs,hp,_,h=>wpF.drop (wpF.ret h) hs hp
 | r::ms,S,hnd,hS,hs,hp,hm,h=>by
   have hr:=hS r (by simp);show wpF (λn=>qAu P (run P X n) (Mk.mark r::mkm ms)) _ S;unfold qAu;refine wpF.bd (f:=λn blk=>match blk with
    | .deferred true=>bd (wr r (.deferred false)) λ_=>qAu P (run P X n) (mkm ms)
    |_=>fail) (.const _) (λblk=>qBw λn=>?_) (wpF.rd hr λab hab=>?_)
   ·split
    ·exact LeM.bd (LeM.refl _) λ_=>qCo (qC4 n) _
    ·exact LeM.refl _
   cases ab with
   | deferred b=>
     cases hab;refine wpF.bd (.const _) (λ_=>qEF _) (wpF.wr hr (x:=.deferred false) rfl (qI3 ms _ (List.nodup_cons.1 hnd).2 (λi hi=>?_) (λi e hi=>?_) (λi b hi=>?_) (λi hi=>hm i (by simp[hi])) h))
     ·rw[qFT (show i≠r from λe=>(List.nodup_cons.1 hnd).1 (e ▸ hi))];exact hS i (by simp[hi])
     ·rw[qFT (show i≠r from λq=>by rw[q,hm r (by simp)]at hi;cases hi)];exact hs i e hi
     ·by_cases q:i=r
      ·subst q;rw[qHm]at hi;cases hi
      ·rw[qFT q]at hi;exact hp i b hi
   |_=>exact hab.elim
theorem qKC(args:List AV):TR (Tr.ofListAt .nil 0 args) (qJU args):=by
 intro i;unfold tget qJU;rw[Tr.get_ofListAt];split
 ·rw[List.getD_eq_getElem?_getD];rfl
 ·rename_i h
  rw[Tr.get_nil,List.getD_eq_getElem?_getD,List.getElem?_eq_none (by omega)]
theorem qQO{o:Option α}{K K':α->Prop}(hk:∀a,K a->K' a)(h:oK o K):oK o K':=by
 cases o with
 |none=>exact h
 |some a=>exact hk a h
theorem qUN{t:TypeId}{p:AV}{K K':AV->Prop}{s:Hq}(hk:∀v,K v->K' v)(h:qPL P t p K s):qPL P t p K' s:=by
 unfold qPL at h ⊢;split at h
 ·exact qQO (λl hl=>hk _ hl) h
 ·exact qQO hk h
 ·exact h
theorem qEg{T:Tmps}{env:Env}(hT:TR T env):∀(rs:List ResultVar) (k:List AV->Prop) (s:Hq),resK P rs env k s->wpF (λ_=>qBK P T rs) (λvs s'=>s'=s/\k vs) s
 |[],k,s,h=>wpF.ret ⟨rfl,h⟩
 | .tmp t::rs,k,s,h=>by
   unfold qBK;refine wpF.bd (.const _) (λ_=>.const _) ((qEg hT rs _ s h).mono ?_);rintro vs s' ⟨rfl,hk⟩;refine wpF.ret ⟨rfl,?_⟩;have:=hT t;unfold tget at this;cases hg:T.get t with
   |none=>rw[hg]at this;simp only[Option.getD_none]at this;simp only[this];exact hk
   |some v=>rw[hg]at this;simp only[Option.getD_some]at this;simp only[this];exact hk
 | .cell a t::rs,k,s,h=>by
   unfold resK at h;unfold qBK;have hg:∀b o,env a=.ptr b o->T.get a=some (.ptr b o):=by
    intro b o e;have:=hT a;unfold tget at this;cases hg:T.get a with
    |none=>rw[hg,e]at this;cases this
    |some v=>rw[hg,e]at this;simp only[Option.getD_some]at this;rw[this]
   have hp:∃b o,env a=.ptr b o:=by
    unfold qPL at h;split at h
    ·obtain⟨l,e,_⟩:=qAl h
     unfold rdN at e;split at e
     ·rename_i b o q;exact⟨b,o,q⟩
     ·cases e
    ·obtain⟨l,e,_⟩:=qAl h
     unfold rd1 at e;split at e
     ·rename_i b o q;exact⟨b,o,q⟩
     ·cases e
    ·exact h.elim
   obtain⟨b,o,e⟩:=hp;simp only[hg b o e];rw[e]at h;have hld:wpF (λ_=>qHh P t b o) (λv s'=>s'=s/\resK P rs env (λvs=>k (v::vs)) s) s:=qWZ (p:=.ptr b o) (Q:=λv s'=>s'=s/\resK P rs env (λvs=>k (v::vs)) s) (qUN (λv hv=>⟨rfl,hv⟩) h);refine wpF.bd (.const _) (λ_=>.const _) (hld.mono ?_);rintro v s' ⟨rfl,hv⟩;refine wpF.bd (.const _) (λ_=>.const _) ((qEg hT rs _ _ hv).mono ?_);rintro vs s' ⟨rfl,hk⟩;exact wpF.ret ⟨rfl,hk⟩
theorem qMp(hX:FrX X)(A:Nat->List Nat){f:FuncId}(hXf:X f=none){fn:Func}{c:Code}(hf:P.funcs[f]?=some fn)(hb:fn.body=some c){args:List AV}(hl:Nat.ble args.length fn.ntmps=true){K:AV->Hq->Prop}{s:Hq}
  (h:wpC P X A fn.ntmps none c (qJU args) (λe env s=>retK e (resK P fn.results.toList env (λvs=>K (oneV vs) s) s)) s):wC P X f args K s:=by
 unfold wC wpT;refine wpF.succ (m:=λn=>qCI P (run P X n) f args) ?_ (λn=>by
  show(match X f with
   |some g=>bd (g args) λv=>ret (Out.val v)
   |none=>qCI P (run P X n) f args)=_
  rw[hXf])
 unfold qCI;simp only[hf,hb];refine wpF.cond hl ?_;have hc:=qGY (P:=P) (A:=A) (nt:=fn.ntmps) (rnd:=none) hX c (qJU args) _ s h (Tr.ofListAt .nil 0 args) [] (qKC args) (by simp) List.nodup_nil;have e0:add s (mkH [])=s:=by funext i;unfold add mkH;cases s i<;>simp
 rw[e0]at hc;refine wpF.bd (m:=λn=>run P X n (.code fn.ntmps none c (Tr.ofListAt .nil 0 args) [])) (qCq _) (λo=>qBw λn=>?_) (hc.mono ?_)
 ·split
  ·split
   ·exact LeM.refl _
   ·exact LeM.bd (qCo (qC4 n) _) λ_=>LeM.refl _
  ·exact LeM.refl _
 rintro o S ⟨e,T',env',ms',s',rfl,q1,rfl,q2,q3,_,_,q6⟩;simp only[List.append_nil]at q2 q3 ⊢;have body:resK P fn.results.toList env' (λvs=>K (oneV vs) s') s'->wpF (λn=>bd (qAu P (run P X n) (mkm ms')) λ_=>bd (qBK P T' fn.results.toList) λvs=>ret (Out.val (oneV vs))) (λo s'=>∃v,o=.val v/\K v s') (add s' (mkH ms')):=by
  intro hr;refine wpF.bd (qEF _) (λ_=>.const _) ((qI3 (Q:=λt=>t=s') ms' _ q3 (λi hi=>?_) (λi e hi=>qAi hi) (λi b hi=>?_) q2 rfl).mono ?_)
  ·rw[qAn (q2 i hi)];unfold mkH;rw[if_pos hi]
  ·cases q:s' i with
   |some x=>rw[qAi q]at hi;exact hi
   | none=>
     rw[qAn q]at hi;unfold mkH at hi;split at hi<;>cases hi
  ·rintro _ t rfl
   refine wpF.bd (.const _) (λ_=>.const _) ((qEg q1 _ _ _ hr).mono ?_);rintro vs s'' ⟨rfl,hk⟩;exact wpF.ret ⟨_,rfl,hk⟩
 cases e with
 |exit id=>exact q6.elim
 |nrm=>exact body q6
 |ret=>exact body q6
end Go.AM
namespace Go.AM
open Go Go.RowKit Go.ChangeShapes Go.WideShapes Go.ChangeAt
def tiles(P:Program)(total:Nat):Nat->List Field->Bool
 |off,[]=>Nat.beq off total
 |off,f::fs=>Nat.beq f.offset off&&tiles P total (off+P.cellsOf f.type) fs
def plainT(P:Program):Nat->TypeId->Bool
 | 0,_=>false
 | d+1,t=>match P.underlying t with
   |some .bool|some (.int _)|some .string=>true
   |some (.slice e)=>Nat.blt 0 (P.cellsOf e)&&plainT P d e
   |some (.struct fs)=>tiles P (P.cellsOf t) 0 fs.toList&&fs.toList.all λf=>plainT P d f.type
   |some (.array n e)=>Nat.beq (P.cellsOf t) (n*P.cellsOf e)&&(Nat.blt 0 (P.cellsOf e)&&plainT P d e)
   |_=>false
def Inp(P:Program)(s:Hq):Nat->TypeId->List AV->Prop
 | 0,_,_=>False
 | d+1,t,xs=>match P.underlying t with
   |some .bool=>∃b,xs=[.bool b]
   |some (.int k)=>∃n,xs=[.int k n]/\(Lit.int k n).wf=true
   |some .string=>∃v,xs=[.str v]/\v.size<=maxLen
   |some (.slice e)=>xs=[.nilslc]∨∃b len cap,xs=[.slc b 0 len (some cap) (P.cellsOf e)]/\len<=cap/\cap<=maxLen/\
     (0<cap->∃el l,s b=some (true,.cells el l)/\l.length=cap*P.cellsOf e/\∀i,i<cap->Inp P s d e ((l.drop (i*P.cellsOf e)).take (P.cellsOf e)))
   |some (.struct fs)=>xs.length=P.cellsOf t/\∀f∈fs.toList,Inp P s d f.type ((xs.drop f.offset).take (P.cellsOf f.type))
   |some (.array n e)=>xs.length=P.cellsOf t/\∀i,i<n->Inp P s d e ((xs.drop (i*P.cellsOf e)).take (P.cellsOf e))
   |_=>False
abbrev IB:=List (Loc×TypeId×List AV)
def rhoB(B:IB):Ren:=λid=>match id with
 | 0=>some ⟨0,0,0⟩
 | i+1=>match B[i]? with
   |some x=>some x.1
   |none=>none
def qKJ(B:IB):Hq:=λid=>match id with
 | 0=>none
 | i+1=>match B[i]? with
   |some x=>some (true,.cells x.2.1 x.2.2)
   |none=>none
theorem qNj(B C:IB):Le (rhoB B) (rhoB (B++C)):=by
 intro id L h;cases id with
 |zero=>exact h
 | succ i=>
   unfold rhoB at h ⊢;simp only at h ⊢;cases e:B[i]? with
   |none=>rw[e]at h;cases h
   |some x=>rw[e]at h;rw[List.getElem?_append_left (gS e).1,e];exact h
theorem qKN(B C:IB):Sub (qKJ B) (qKJ (B++C)):=by
 intro id L h;cases id with
 |zero=>exact h
 | succ i=>
   unfold qKJ at h ⊢;simp only at h ⊢;cases e:B[i]? with
   |none=>rw[e]at h;cases h
   |some x=>rw[e]at h;rw[List.getElem?_append_left (gS e).1,e];exact h
theorem Inp.sub{P:Program}{s s':Hq}(hs:Sub s s'):∀(d:Nat) (t:TypeId) (xs:List AV),Inp P s d t xs->Inp P s' d t xs
 | 0,_,_,h=>h
 | d+1,t,xs,h=>by
   unfold Inp at h ⊢;split at h
   ·exact h
   ·exact h
   ·exact h
   ·rcases h with h|⟨b,len,cap,h1,h2,h3,h4⟩
    ·exact .inl h
    ·refine .inr ⟨b,len,cap,h1,h2,h3,λhc=>?_⟩
     obtain⟨el,l,q1,q2,q3⟩:=h4 hc;exact⟨el,l,hs _ _ q1,q2,λi hi=>Inp.sub hs d _ _ (q3 i hi)⟩
   ·exact⟨h.1,λf hf=>Inp.sub hs d _ _ (h.2 f hf)⟩
   ·exact⟨h.1,λi hi=>Inp.sub hs d _ _ (h.2 i hi)⟩
   ·exact h
def VB(σ:Nat->Value)(B:IB)(W:World):Prop:=∀(i:Nat) (x:Loc×TypeId×List AV),B[i]?=some x->∃(cc:Array Value) (fr:Nat×Nat),W.heap[x.1.blk]?=some (.cells cc x.2.1 fr)/\cc.size=x.1.sz/\x.1.sh+x.2.2.length<=cc.size/\qAZ x.2.2=true/\
 ∀(j:Nat) (v:AV),x.2.2[j]?=some v->∃v',cc[x.1.sh+j]?=some v'/\Rel σ (rhoB B) v v'/\v'.oneCell'=true
theorem VB.snoc{σ:Nat->Value}{B:IB}{W:World}(h:VB σ B W)(x:Loc×TypeId×List AV)
  (hx:∃(cc:Array Value) (fr:Nat×Nat),W.heap[x.1.blk]?=some (.cells cc x.2.1 fr)/\cc.size=x.1.sz/\x.1.sh+x.2.2.length<=cc.size/\qAZ x.2.2=true/\∀(j:Nat) (v:AV),x.2.2[j]?=some v->∃v',cc[x.1.sh+j]?=some v'/\Rel σ (rhoB B) v v'/\v'.oneCell'=true):VB σ (B ++ [x]) W:=by
 intro i y hy;rw[List.getElem?_append]at hy;split at hy
 ·obtain⟨cc,fr,h1,h2,h3,h4,h5⟩:=h i y hy
  exact⟨cc,fr,h1,h2,h3,h4,λj v hv=>let ⟨v',q1,q2,q3⟩:=h5 j v hv;⟨v',q1,Rel.mono (qNj B [x]) _ _ q2,q3⟩⟩
 ·have:y=x:=by
   cases e:i-B.length with
   |zero=>rw[e]at hy;exact(Option.some.inj hy).symm
   |succ k=>rw[e]at hy;cases hy
  subst this;obtain⟨cc,fr,h1,h2,h3,h4,h5⟩:=hx;exact⟨cc,fr,h1,h2,h3,h4,λj v hv=>let ⟨v',q1,q2,q3⟩:=h5 j v hv;⟨v',q1,Rel.mono (qNj B [y]) _ _ q2,q3⟩⟩
section
variable {H:Type} {enc:TypeId × Value→H} {P:Program} {W:World} {σ:Nat→Value}
theorem qM2(hσ:One σ)(Q:Nat->List AV->Hq->Prop)(hQ:∀i xs s s',Sub s s'->Q i xs s->Q i xs s')(css:Nat->List Value):∀(n:Nat) (B:IB),VB σ B W->
  (∀i,i<n->∀B,VB σ B W->∃xs C,VB σ (B++C) W/\RelL σ (rhoB (B++C)) xs (css i)/\qAZ xs=true/\Q i xs (qKJ (B++C)))->
  ∃(xss:Nat->List AV) (C:IB),VB σ (B++C) W/\∀i,i<n->RelL σ (rhoB (B++C)) (xss i) (css i)/\qAZ (xss i)=true/\Q i (xss i) (qKJ (B++C))
 | 0,B,hB,_=>⟨λ_=>[],[],by simpa using hB,λi hi=>by omega⟩
 | n+1,B,hB,h=>by
   obtain⟨xss,C,h1,h2⟩:=qM2 hσ Q hQ css n B hB λi hi=>h i (by omega);obtain⟨xs,D,g1,g2,g3,g4⟩:=h n (by omega) (B++C) h1;refine⟨λi=>if i=n then xs else xss i,C++D,by rw[<- List.append_assoc];exact g1,λi hi=>?_⟩;rw[<- List.append_assoc]
   by_cases e:i=n
   ·subst e
    simp only[if_true];exact⟨g2,g3,g4⟩
   ·simp only[if_neg e]
    obtain⟨q1,q2,q3⟩:=h2 i (by omega);exact⟨RelL.mono (qNj (B++C) D) _ _ q1,q2,hQ _ _ _ _ (qKN (B++C) D) q3⟩
def pieces(xss:Nat->List AV)(es n:Nat):List AV:=(List.range (n*es)).map λj=>(xss (j / es)).getD (j % es) .undef
theorem qCm(xss:Nat->List AV)(es n:Nat):(pieces xss es n).length=n*es:=by simp[pieces]
theorem qHa(xss:Nat->List AV)(es n j:Nat)(h:j<n*es):(pieces xss es n)[j]?=some ((xss (j / es)).getD (j % es) .undef):=by simp[pieces,h]
theorem qN3(xss:Nat->List AV)(es n i:Nat)(h0:0<es)(hi:i<n)(hl:(xss i).length=es):((pieces xss es n).drop (i*es)).take es=xss i:=by
 have hm:(i+1)*es<=n*es:=Nat.mul_le_mul_right _ hi;rw[Nat.add_mul,Nat.one_mul]at hm;apply List.ext_getElem?;intro j;rw[List.getElem?_take];split
 ·rename_i hj
  rw[List.getElem?_drop,qHa _ _ _ _ (by omega)];have e1:(i*es+j) / es=i:=by rw[Nat.mul_comm,Nat.mul_add_div h0,Nat.div_eq_of_lt hj];omega
  have e2:(i*es+j) % es=j:=by rw[Nat.mul_comm,Nat.mul_add_mod,Nat.mod_eq_of_lt hj]
  rw[e1,e2,List.getD_eq_getElem?_getD,gEY (by omega)];rfl
 ·rw[List.getElem?_eq_none (by omega)]
theorem qQn{l:List AV}(h:∀(j:Nat) (v:AV),l[j]?=some v->v.one=true):qAZ l=true:=qJE λx hx=>by obtain⟨i,hi⟩:=List.getElem?_of_mem hx;exact h i x hi
theorem qTe{P:Program}{total:Nat}:∀{fs:List Field}{off:Nat},tiles P total off fs=true->off<=total
 |[],off,h=>by have:=bE h;omega
 | f::fs,off,h=>by
   unfold tiles at h;have:=qTe (Bool.and_eq_true_iff.1 h).2;omega
theorem qNz(hσ:One σ)(d:Nat)(cs:List Value)(total:Nat)(hl:cs.length=total):∀(fs:List Field) (off:Nat) (B:IB),VB σ B W->tiles P total off fs=true->
  (∀f∈fs,∀B,VB σ B W->∃xs C,VB σ (B++C) W/\RelL σ (rhoB (B++C)) xs ((cs.drop f.offset).take (P.cellsOf f.type))/\qAZ xs=true/\Inp P (qKJ (B++C)) d f.type xs)->
  ∃xs C,VB σ (B++C) W/\RelL σ (rhoB (B++C)) xs (cs.drop off)/\qAZ xs=true/\∀f∈fs,off<=f.offset/\Inp P (qKJ (B++C)) d f.type ((xs.drop (f.offset-off)).take (P.cellsOf f.type))
 | [],off,B,hB,ht,_=>by
   refine⟨[],[],by simpa using hB,?_,rfl,by simp⟩;have:=bE ht;rw[List.drop_eq_nil_of_le (by omega)];exact .nil
 | f::fs,off,B,hB,ht,h=>by
   unfold tiles at ht;obtain⟨h1,h2⟩:=Bool.and_eq_true_iff.1 ht;have ho:=bE h1;have hle:=qTe h2;obtain⟨xs,C,g1,g2,g3,g4⟩:=h f (by simp) B hB;obtain⟨ys,D,k1,k2,k3,k4⟩:=qNz hσ d cs total hl fs (off+P.cellsOf f.type) (B++C) g1 h2 λf' hf'=>h f' (by simp[hf']);have hx:xs.length=P.cellsOf f.type:=by have:=g2.length;rw[<- this,List.length_take,List.length_drop,ho];omega
   refine⟨xs++ys,C++D,by rw[<- List.append_assoc];exact k1,?_,qDS g3 k3,λf' hf'=>?_⟩
   ·rw[<- List.append_assoc]
    have e:cs.drop off=(cs.drop f.offset).take (P.cellsOf f.type)++cs.drop (off+P.cellsOf f.type):=by rw[ho,<- List.drop_drop,List.take_append_drop]
    rw[e];exact RelL.append (RelL.mono (qNj (B++C) D) _ _ g2) k2
   ·rw[<- List.append_assoc]
    rcases mC hf' with rfl|hf'
    ·refine⟨by omega,?_⟩
     rw[ho,Nat.sub_self,List.drop_zero,<- hx,List.take_left];exact Inp.sub (qKN (B++C) D) _ _ _ g4
    ·obtain⟨q1,q2⟩:=k4 f' hf'
     refine⟨by omega,?_⟩;have e:(xs++ys).drop (f'.offset-off)=ys.drop (f'.offset-(off+P.cellsOf f.type)):=by
      rw[List.drop_append,List.drop_eq_nil_of_le (by omega),List.nil_append,hx]
      congr 1;omega
     rw[e];exact q2
theorem qPE(hσ:One σ):∀(d:Nat) (t:TypeId) (cs:List Value) (fuel:Nat) (x:DataW H×List MemPlace),plainT P d t=true->DataW.trod enc P W 0 (λ_=>true) true fuel t cs=some x->
  ∀B,VB σ B W->∃xs C,VB σ (B++C) W/\RelL σ (rhoB (B++C)) xs cs/\qAZ xs=true/\Inp P (qKJ (B++C)) d t xs
 | 0,_,_,_,_,hp,_,_,_=>by cases hp
 | d+1,t,cs,fuel,x,hp,h,B,hB=>by
   unfold plainT at hp;unfold Inp;split at hp
   ·rename_i hu
    obtain⟨b,rfl,_⟩:=DataW.trod_bool hu h;refine⟨[.bool b],[],by simpa using hB,.cons (by unfold Rel;rfl) .nil,rfl,?_⟩;exact⟨b,rfl⟩
   ·rename_i k hu
    obtain⟨n,rfl,_,hw⟩:=DataW.trod_int hu h;refine⟨[.int k n],[],by simpa using hB,.cons (by unfold Rel;rfl) .nil,rfl,?_⟩;exact⟨n,rfl,hw⟩
   ·rename_i hu
    obtain⟨v,rfl,_,hv⟩:=DataW.trod_string hu h;refine⟨[.str v],[],by simpa using hB,.cons (by unfold Rel;rfl) .nil,rfl,?_⟩;exact⟨v,rfl,hv⟩
   ·rename_i e hu
    obtain⟨hp1,hp2⟩:=Bool.and_eq_true_iff.1 hp;have hes:0<P.cellsOf e:=by rwa [Nat.blt_eq]at hp1
    rcases DataW.trod_slice hu h with⟨rfl,_⟩|⟨a,len,cap,elems,rest,n,_,rfl,_,_,hlc,hcm,hel,hrd,hsp,_⟩
    ·exact⟨[.nilslc],[],by simpa using hB,.cons (by unfold Rel;rfl) .nil,rfl,.inl rfl⟩
    ·obtain⟨hrl,hrd2⟩:=hsp rfl
     have each:∀i,i<cap->∃y,(W.cells? 0 (a.add (i*P.cellsOf e)) (P.cellsOf e)).bind (DataW.trod enc P W 0 (λ_=>true) true n e)=some y:=by
      intro i hi
      by_cases hil:i<len
      ·rw[hrd i hil];exact⟨_,gEY (by omega)⟩
      ·have:=hrd2 (i-len) (by omega)
       rw[show len+(i-len)=i by omega]at this;rw[this];exact⟨_,gEY (by omega)⟩
     by_cases hc:cap=0
     ·subst hc
      have hl0:len=0:=by omega
      subst hl0;refine⟨[.slc 0 0 0 (some 0) (P.cellsOf e)],[],by simpa using hB,.cons ?_ .nil,rfl,.inr ⟨0,0,0,rfl,Nat.le_refl _,hcm,λh=>by omega⟩⟩;unfold Rel;exact⟨⟨0,0,0⟩,a,0,rfl,rfl,.inr ⟨rfl,rfl⟩,Nat.le_refl _,λk hk=>by cases hk;rfl⟩
     ·have css:∀i,i<cap->∃c,W.cells? 0 (a.add (i*P.cellsOf e)) (P.cellsOf e)=some c/\∃y,DataW.trod enc P W 0 (λ_=>true) true n e c=some y:=by
       intro i hi;obtain⟨y,hy⟩:=each i hi;rw[Option.bind_eq_some_iff]at hy;obtain⟨c,h1,h2⟩:=hy;exact⟨c,h1,y,h2⟩
      obtain⟨xss,C,h1,h2⟩:=qM2 (W:=W) hσ (λ_ xs s=>Inp P s d e xs) (λi xs s s' hs h=>Inp.sub hs d e xs h) (λi=>(W.cells? 0 (a.add (i*P.cellsOf e)) (P.cellsOf e)).getD []) cap B hB λi hi B hB=>by obtain⟨c,g1,y,g2⟩:=css i hi;rw[g1];exact qPE hσ d e c n y hp2 g2 B hB
      have cell:∀i j,i<cap->j<P.cellsOf e->∃v,W.cell? (a.add (i*P.cellsOf e+j))=some v/\((W.cells? 0 (a.add (i*P.cellsOf e)) (P.cellsOf e)).getD [])[j]?=some v:=by
       intro i j hi hj;obtain⟨c,g1,_⟩:=css i hi;obtain⟨_,g2,g3⟩:=World.cells?_some g1;have g4:=g3 j hj;rw[gEY (by omega)]at g4;refine⟨c[j]'(by omega),?_,by rw[g1];simp⟩;rw[<- g4]
       congr 1
       unfold Addr.add
       by_cases z1:i*P.cellsOf e=0
       ·by_cases z2:j=0
        ·simp[z1,z2]
        ·simp[z1,z2]
       ·by_cases z2:j=0
        ·simp[z1,z2]
        ·simp[z1,z2,Nat.add_assoc]
      obtain⟨v0,hv0,_⟩:=cell 0 0 (by omega) hes;rw[Nat.zero_mul,zA]at hv0;have hblk:∃cc el fr,W.heap[a.block]?=some (.cells cc el fr)/\a.spot=none:=by
       have e0:a.add 0=a:=by simp[Addr.add]
       rw[e0]at hv0;unfold World.cell? at hv0;split at hv0
       ·rename_i cc el fr hb
        cases hs:a.spot with
        |none=>exact⟨cc,el,fr,hb,rfl⟩
        |some k=>rw[hs]at hv0;simp at hv0
       ·cases hv0
      obtain⟨cc,el,fr,hb,hspot⟩:=hblk;have ha:a=⟨a.block,a.off,none⟩:=by cases a;simp only at hspot;rw[hspot]
      have at_:∀k,k<cap*P.cellsOf e->∃v,cc[a.off+k]?=some v/\((W.cells? 0 (a.add ((k / P.cellsOf e)*P.cellsOf e)) (P.cellsOf e)).getD [])[k % P.cellsOf e]?=some v:=by
       intro k hk;have hq:k / P.cellsOf e<cap:=by rw[Nat.div_lt_iff_lt_mul hes];exact hk
       obtain⟨v,g1,g2⟩:=cell (k / P.cellsOf e) (k % P.cellsOf e) hq (Nat.mod_lt _ hes);refine⟨v,?_,g2⟩;rw[Nat.mul_comm,Nat.div_add_mod,ha,qEP,qJ6 hb]at g1;exact g1
      have hlen:∀i,i<cap->(xss i).length=P.cellsOf e:=by intro i hi;have:=(h2 i hi).1.length;obtain⟨c,g1,_⟩:=css i hi;rw[g1]at this;rw[<- this];exact(World.cells?_some g1).2.1
      have hsz:a.off+cap*P.cellsOf e<=cc.size:=by have hpos:0<cap*P.cellsOf e:=Nat.mul_pos (by omega) hes;obtain⟨v,g1,_⟩:=at_ (cap*P.cellsOf e-1) (by omega);have:=(Array.getElem?_eq_some_iff.1 g1).1;omega
      have hvb:VB σ ((B++C) ++ [(⟨a.block,a.off,cc.size⟩,el,pieces xss (P.cellsOf e) cap)]) W:=by
       refine h1.snoc _ ⟨cc,fr,hb,rfl,by rw[qCm];exact hsz,?_,λj v hv=>?_⟩
       ·refine qQn λj v hv=>?_
        have hj:j<cap*P.cellsOf e:=by have:=(gS hv).1;rwa [qCm]at this
        rw[qHa _ _ _ _ hj]at hv;have hq:j / P.cellsOf e<cap:=by rw[Nat.div_lt_iff_lt_mul hes];exact hj
        have hm:j % P.cellsOf e<(xss (j / P.cellsOf e)).length:=by rw[hlen _ hq];exact Nat.mod_lt _ hes
        rw[List.getD_eq_getElem?_getD,gEY hm]at hv;cases hv;exact qFH (h2 _ hq).2.1 _ (List.getElem_mem hm)
       ·have hj:j<cap*P.cellsOf e:=by have:=(gS hv).1;rwa [qCm]at this
        rw[qHa _ _ _ _ hj]at hv;have hq:j / P.cellsOf e<cap:=by rw[Nat.div_lt_iff_lt_mul hes];exact hj
        have hm:j % P.cellsOf e<(xss (j / P.cellsOf e)).length:=by rw[hlen _ hq];exact Nat.mod_lt _ hes
        rw[List.getD_eq_getElem?_getD,gEY hm]at hv;cases hv;obtain⟨r1,r2,_⟩:=h2 _ hq;obtain⟨y,g1,g2⟩:=r1.get (j % P.cellsOf e) _ (gEY hm);obtain⟨v',k1,k2⟩:=at_ j hj;rw[g1]at k2;cases k2;exact⟨y,k1,g2,qPl hσ g2 (qFH r2 _ (List.getElem_mem hm))⟩
      refine⟨[.slc ((B++C).length+1) 0 len (some cap) (P.cellsOf e)],C ++ [(⟨a.block,a.off,cc.size⟩,el,pieces xss (P.cellsOf e) cap)],by rw[<- List.append_assoc];exact hvb,?_,rfl,.inr ⟨_,len,cap,rfl,hlc,hcm,λ_=>⟨el,pieces xss (P.cellsOf e) cap,?_,qCm _ _ _,λi hi=>?_⟩⟩⟩
      ·rw[<- List.append_assoc]
       refine .cons ?_ .nil;unfold Rel;refine⟨⟨a.block,a.off,cc.size⟩,a,cap,?_,rfl,.inl ⟨ha,by simpa using hsz⟩,hlc,λk hk=>by cases hk;rfl⟩;unfold rhoB;simp
      ·rw[<- List.append_assoc]
       unfold qKJ;simp
      ·rw[qN3 _ _ _ _ hes hi (hlen i hi),<- List.append_assoc]
       exact Inp.sub (qKN (B++C) _) _ _ _ (h2 i hi).2.2
   ·rename_i fs hu
    obtain⟨hp1,hp2⟩:=Bool.and_eq_true_iff.1 hp;obtain⟨xs,n,_,_,hl,hxl,hx⟩:=DataW.trod_struct hu h;obtain⟨ys,C,g1,g2,g3,g4⟩:=qNz (W:=W) (P:=P) hσ d cs (P.cellsOf t) hl fs.toList 0 B hB hp1 λf hf B hB=>by
     obtain⟨i,hi⟩:=List.getElem?_of_mem hf;have hi':fs[i]?=some f:=by simpa using hi
     have:=hx i f hi';rw[gEY (by rw[hxl];exact(Array.getElem?_eq_some_iff.1 hi').1)]at this;exact qPE hσ d f.type _ n _ (List.all_eq_true.1 hp2 f hf) this B hB
    rw[List.drop_zero]at g2;exact⟨ys,C,g1,g2,g3,by rw[<- g2.length];exact hl,λf hf=>by simpa using(g4 f hf).2⟩
   ·rename_i n e hu
    obtain⟨hp1,hp2⟩:=Bool.and_eq_true_iff.1 hp;obtain⟨hp2,hp3⟩:=Bool.and_eq_true_iff.1 hp2;have hes:0<P.cellsOf e:=by rwa [Nat.blt_eq]at hp2
    have htot:=bE hp1;obtain⟨ys,m,_,_,hl,hyl,hy⟩:=DataW.trod_array hu h;obtain⟨xss,C,h1,h2⟩:=qM2 (W:=W) hσ (λ_ xs s=>Inp P s d e xs) (λi xs s s' hs h=>Inp.sub hs d e xs h) (λi=>(cs.drop (i*P.cellsOf e)).take (P.cellsOf e)) n B hB λi hi B hB=>by have:=hy i hi;rw[gEY (by omega)]at this;exact qPE hσ d e _ m _ hp3 this B hB
    have hlen:∀i,i<n->(xss i).length=P.cellsOf e:=by intro i hi;have:=(h2 i hi).1.length;rw[<- this,List.length_take,List.length_drop,hl,htot];have:(i+1)*P.cellsOf e<=n*P.cellsOf e:=Nat.mul_le_mul_right _ hi;rw[Nat.add_mul,Nat.one_mul]at this;omega
    refine⟨pieces xss (P.cellsOf e) n,C,h1,?_,?_,by rw[qCm,htot],λi hi=>?_⟩
    ·refine RelL.of_get (by rw[qCm,hl,htot]) λj x y hx hy'=>?_
     have hj:j<n*P.cellsOf e:=by have:=(gS hx).1;rwa [qCm]at this
     rw[qHa _ _ _ _ hj]at hx;have hq:j / P.cellsOf e<n:=by rw[Nat.div_lt_iff_lt_mul hes];exact hj
     have hm:j % P.cellsOf e<(xss (j / P.cellsOf e)).length:=by rw[hlen _ hq];exact Nat.mod_lt _ hes
     rw[List.getD_eq_getElem?_getD,gEY hm]at hx;cases hx;obtain⟨y',g1,g2⟩:=(h2 _ hq).1.get (j % P.cellsOf e) _ (gEY hm);rw[List.getElem?_take,if_pos (Nat.mod_lt _ hes),List.getElem?_drop,Nat.mul_comm,Nat.div_add_mod,hy']at g1;cases g1;exact g2
    ·refine qQn λj v hv=>?_
     have hj:j<n*P.cellsOf e:=by have:=(gS hv).1;rwa [qCm]at this
     rw[qHa _ _ _ _ hj]at hv;have hq:j / P.cellsOf e<n:=by rw[Nat.div_lt_iff_lt_mul hes];exact hj
     have hm:j % P.cellsOf e<(xss (j / P.cellsOf e)).length:=by rw[hlen _ hq];exact Nat.mod_lt _ hes
     rw[List.getD_eq_getElem?_getD,gEY hm]at hv;cases hv;exact qFH (h2 _ hq).2.1 _ (List.getElem_mem hm)
    ·rw[qN3 _ _ _ _ hes hi (hlen i hi)]
     exact(h2 i hi).2.2
   ·cases hp
end
end Go.AM
namespace Go.AM
open Go Go.RowKit Go.ChangeShapes Go.WideShapes Go.ChangeAt
section
variable {H:Type} {enc:TypeId × Value→H} {P:Program} {W W':World} {σ:Nat→Value}
theorem qHV{α β:Type}{f g:α->Option β}:∀{l:List α}{ys:List β},l.mapM f=some ys->(∀x∈l,∀y∈ys,f x=some y->g x=some y)->l.mapM g=some ys
 |[],ys,h,_=>by simpa using h
 | a::l,ys,h,hg=>by
   rw[List.mapM_cons]at h ⊢;cases ha:f a with
   |none=>rw[ha]at h;cases h
   | some b=>
     rw[ha]at h;cases hl:l.mapM f with
     |none=>rw[hl]at h;cases h
     | some bs=>
       rw[hl]at h;cases h;rw[hg a (by simp) b (by simp) ha,qHV hl λx hx y hy=>hg x (by simp[hx]) y (by simp[hy])];rfl
theorem qUl(hb:Below W.heap.size W W'){a:Addr}{n:Nat}{cs:List Value}(h:W.cells? 0 a n=some cs):W'.cells? 0 a n=some cs:=by
 unfold World.cells? at h ⊢;rw[if_pos (Nat.zero_le _)]at h ⊢;refine qHV h λi _ v _ hv=>?_;have hlt:(a.add i).block<W.heap.size:=by
  unfold World.cell? at hv;cases hq:W.heap[(a.add i).block]? with
  |none=>rw[hq]at hv;cases hv
  |some o=>exact(Array.getElem?_eq_some_iff.1 hq).1
 rw[<- hv];exact hb.cell hlt
theorem qKT(hb:Below W.heap.size W W')(sp:Nat->Bool):∀(d:Nat) (t:TypeId) (cs:List Value) (fuel:Nat) (x:DataW H×List MemPlace),plainT P d t=true->DataW.trod enc P W 0 (λ_=>true) true fuel t cs=some x->
  (∀p∈x.2,sp p.block=true)->DataW.trod enc P W' 0 sp true fuel t cs=some x
 | 0,_,_,_,_,hp,_,_=>by cases hp
 | d+1,t,cs,fuel,x,hp,h,hsp=>by
   unfold plainT at hp;cases fuel with
   |zero=>cases h
   |succ fuel=>
   split at hp
   ·rename_i hu
    obtain⟨b,rfl,rfl⟩:=DataW.trod_bool hu h;simp only[DataW.trod,hu]
   ·rename_i k hu
    obtain⟨n,rfl,rfl,hw⟩:=DataW.trod_int hu h;simp[DataW.trod,hu,hw]
   ·rename_i hu
    obtain⟨v,rfl,rfl,hv⟩:=DataW.trod_string hu h;simp[DataW.trod,hu,hv]
   ·rename_i e hu
    obtain⟨hp1,hp2⟩:=Bool.and_eq_true_iff.1 hp;have hes:0<P.cellsOf e:=by rwa [Nat.blt_eq]at hp1
    rcases DataW.trod_slice hu h with⟨rfl,rfl⟩|⟨a,len,cap,elems,rest,n,hn,rfl,rfl,_,hlc,hcm,hel,_,hspare,_⟩
    ·simp only[DataW.trod,hu]
    ·obtain⟨hrl,_⟩:=hspare rfl
     have h0:=h;simp only[DataW.trod,hu,if_true,Nat.zero_le,true_and]at h ⊢;rw[if_pos ⟨hlc,hcm⟩]at h ⊢;rw[Option.bind_eq_some_iff]at h;obtain⟨el2,g1,g2⟩:=h;rw[Option.map_eq_some_iff]at g2;obtain⟨re2,g2,g3⟩:=g2;have hlen1:el2.length=len:=by rw[mapM_some_length g1];simp
     have hlen2:re2.length=cap-len:=by rw[mapM_some_length g2];simp
     simp only[Prod.mk.injEq,DataW.slice.injEq]at g3;obtain⟨⟨g31,g32⟩,g4⟩:=g3;have keepE:∀y,(y∈el2∨y∈re2)->∀c,DataW.trod enc P W 0 (λ_=>true) true fuel e c=some y->DataW.trod enc P W' 0 sp true fuel e c=some y:=by
      intro y hy c hc;refine qKT hb sp d e c fuel y hp2 hc λp hpm=>hsp p ?_;simp only;rw[<- g4];refine List.mem_append_right _ (List.mem_flatMap.2 ⟨y,?_,hpm⟩);rcases hy with hy|hy
      ·exact List.mem_append_left _ hy
      ·exact List.mem_append_right _ hy
     have keepB:∀i y,(y∈el2∨y∈re2)->(W.cells? 0 (a.add (i*P.cellsOf e)) (P.cellsOf e)).bind (DataW.trod enc P W 0 (λ_=>true) true fuel e)=some y->
       (W'.cells? 0 (a.add (i*P.cellsOf e)) (P.cellsOf e)).bind (DataW.trod enc P W' 0 sp true fuel e)=some y:=by
      intro i y hy hi;rw[Option.bind_eq_some_iff]at hi ⊢;obtain⟨c,c1,c2⟩:=hi;exact⟨c,qUl hb c1,keepE y hy c c2⟩
     rw[qHV g1 λi _ y hy hi=>keepB i y (.inl hy) hi];simp only[Option.bind_some]
     by_cases hz:cap-len=0
     ·have:re2=[]:=List.eq_nil_of_length_eq_zero (by omega)
      subst this;simp only[hz,List.range_zero,List.mapM_nil];simp only[<- g31,<- g32,<- g4,List.map_nil];split<;>simp
     ·have hblk:sp a.block=true:=by
       refine hsp (.cell a.block (a.off+0)) ?_;simp only;refine List.mem_append_left _ ?_;unfold MemPlace.row;refine List.mem_map.2 ⟨0,?_,rfl⟩;rw[List.mem_range,hel,hrl];exact Nat.mul_pos (by omega) hes
      rw[if_pos hblk,qHV g2 λi _ y hy hi=>keepB (len+i) y (.inr hy) hi];simp only[Option.map_some,<- g31,<- g32,<- g4]
   ·rename_i fs hu
    obtain⟨_,hp2⟩:=Bool.and_eq_true_iff.1 hp;obtain⟨xs,n,_,rfl,hl,hxl,hx⟩:=DataW.trod_struct hu h;simp only[DataW.trod,hu]at h ⊢;rw[if_pos hl]at h ⊢;rw[Option.map_eq_some_iff]at h ⊢;obtain⟨ys,h1,h2⟩:=h;refine⟨ys,qHV h1 λf hf y hy hfy=>?_,h2⟩;refine qKT hb sp d f.type _ fuel y (List.all_eq_true.1 hp2 f hf) hfy λp hpm=>hsp p ?_;simp only[Prod.mk.injEq]at h2 ⊢;rw[<- h2.2];exact List.mem_flatMap.2 ⟨y,hy,hpm⟩
   ·rename_i n e hu
    obtain⟨_,hp2⟩:=Bool.and_eq_true_iff.1 hp;obtain⟨_,hp3⟩:=Bool.and_eq_true_iff.1 hp2;obtain⟨xs,m,_,rfl,hl,hxl,hx⟩:=DataW.trod_array hu h;simp only[DataW.trod,hu]at h ⊢;rw[if_pos hl]at h ⊢;rw[Option.map_eq_some_iff]at h ⊢;obtain⟨ys,h1,h2⟩:=h;refine⟨ys,qHV h1 λi _ y hy hfy=>?_,h2⟩;refine qKT hb sp d e _ fuel y hp3 hfy λp hpm=>hsp p ?_;simp only[Prod.mk.injEq]at h2 ⊢;rw[<- h2.2];exact List.mem_flatMap.2 ⟨y,hy,hpm⟩
   ·cases hp
theorem trodAll_keep(hb:Below W.heap.size W W')(sp:Nat->Bool)(d:Nat):∀(ts:List TypeId) (vs:List Value) (ds:List (DataW H)) (ps:List MemPlace),(ts.all λt=>plainT P d t)=true->DataW.TrodAll enc P W 0 (λ_=>true) true ts vs ds ps->
  (∀p∈ps,sp p.block=true)->DataW.TrodAll enc P W' 0 sp true ts vs ds ps
 | [],vs,ds,ps,_,h,_=>by
   cases vs<;>cases ds<;>first|exact h|exact h.elim
 |t::ts,[],ds,ps,_,h,_=>by cases ds<;>exact h.elim
 |t::ts,v::vs,[],ps,_,h,_=>h.elim
 | t::ts,v::vs,x::ds,ps,hp,h,hsp=>by
   simp only[List.all_cons,Bool.and_eq_true]at hp;obtain⟨p,q,⟨fuel,h1⟩,h2,rfl⟩:=h;exact⟨p,q,⟨fuel,qKT hb sp d t _ fuel _ hp.1 h1 λp hpm=>hsp p (by simp[hpm])⟩,trodAll_keep hb sp d ts vs ds q hp.2 h2 λp hpm=>hsp p (by simp[hpm]),rfl⟩
def Arg(P:Program)(s:Hq)(d:Nat)(t:TypeId)(v:AV):Prop:=Inp P s d t v.cells/\(qDz P t=some true->∃l,v=.agg l/\qAZ l=true)/\(qDz P t≠some true->v.cells=[v])
def ArgL(P:Program)(s:Hq)(d:Nat):List TypeId->List AV->Prop
 |[],[]=>True
 |t::ts,v::vs=>Arg P s d t v/\ArgL P s d ts vs
 |_,_=>False
theorem Arg.sub{s s':Hq}(hs:Sub s s'){d:Nat}{t:TypeId}{v:AV}(h:Arg P s d t v):Arg P s' d t v:=⟨Inp.sub hs _ _ _ h.1,h.2⟩
theorem qRK{base:Nat}{t:TypeId}{v:Value}{d:Nat}(hp:plainT P d t=true)(h:Value.okWide P W .any base t v):(qDz P t=some true/\∃cs,v=.agg cs)∨(qDz P t≠some true/\v.cells=#[v]):=by
 cases d with
 |zero=>cases hp
 | succ d=>
   unfold plainT at hp;unfold Value.okWide at h;unfold qDz;split at hp<;>rename_i hu
   all_goals (try rw[hu]at h)
   all_goals (try simp only at h)
   ·right
    refine⟨by rw[hu];simp,?_⟩;unfold Cell.okWide Cell.ok at h;simp only[hu]at h;cases v<;>simp_all<;>rfl
   ·right
    refine⟨by rw[hu];simp,?_⟩;unfold Cell.okWide Cell.ok at h;simp only[hu]at h;cases v<;>simp_all<;>rfl
   ·right
    refine⟨by rw[hu];simp,?_⟩;unfold Cell.okWide Cell.ok at h;simp only[hu]at h;cases v<;>simp_all<;>rfl
   ·right
    refine⟨by rw[hu];simp,?_⟩;unfold Cell.okWide Cell.ok at h;simp only[hu]at h;cases v<;>simp_all<;>rfl
   ·left
    obtain⟨cs,e,_⟩:=h;exact⟨by rw[hu],cs,e⟩
   ·left
    obtain⟨cs,e,_⟩:=h;exact⟨by rw[hu],cs,e⟩
   ·cases hp
theorem qQH(hσ:One σ)(d:Nat)(base:Nat):∀(ts:List TypeId) (vs:List Value) (ds:List (DataW H)) (ps:List MemPlace) (B:IB),VB σ B W->(ts.all λt=>plainT P d t)=true->DataW.TrodAll enc P W 0 (λ_=>true) true ts vs ds ps->
  (∀(j:Nat) t v,ts[j]?=some t->vs[j]?=some v->Value.okWide P W .any base t v)->∃xs C,VB σ (B++C) W/\RelL σ (rhoB (B++C)) xs vs/\ArgL P (qKJ (B++C)) d ts xs
 | [],vs,ds,ps,B,hB,_,h,_=>by
   cases vs with
   |nil=>exact⟨[],[],by simpa using hB,.nil,trivial⟩
   |cons v vs=>cases ds<;>exact h.elim
 |t::ts,[],ds,ps,B,hB,_,h,_=>by cases ds<;>exact h.elim
 |t::ts,v::vs,[],ps,B,hB,_,h,_=>h.elim
 | t::ts,v::vs,x::ds,ps,B,hB,hp,h,hv=>by
   simp only[List.all_cons,Bool.and_eq_true]at hp;obtain⟨p,q,⟨fuel,h1⟩,h2,rfl⟩:=h;obtain⟨xs,C,g1,g2,g3,g4⟩:=qPE hσ d t _ fuel _ hp.1 h1 B hB;obtain⟨ys,D,k1,k2,k3⟩:=qQH hσ d base ts vs ds q (B++C) g1 hp.2 h2 λj t v hj hv'=>hv (j+1) t v (by simpa using hj) (by simpa using hv');have hsub:=qKN (B++C) D;have hle:=qNj (B++C) D;rcases qRK hp.1 (hv 0 t v rfl rfl)with⟨ha,cs,rfl⟩|⟨ha,hc⟩
   ·refine⟨.agg xs::ys,C++D,by rw[<- List.append_assoc];exact k1,?_,?_⟩
    ·rw[<- List.append_assoc]
     exact .cons (by unfold Rel;exact⟨cs,rfl,RelL.mono hle _ _ g2⟩) k2
    ·rw[<- List.append_assoc]
     exact⟨⟨Inp.sub hsub _ _ _ g4,λ_=>⟨xs,rfl,g3⟩,λh=>absurd ha h⟩,k3⟩
   ·rw[hc]at g2
    obtain⟨y,rfl⟩:∃y,xs=[y]:=by
     have:=g2.length;cases xs with
     |nil=>simp at this
     | cons y r=>cases r with
       |nil=>exact⟨y,rfl⟩
       |cons _ _=>simp at this
    have hr:Rel σ (rhoB (B++C)) y v:=by unfold RelL at g2;obtain⟨_,_,e,r,_⟩:=g2;cases e;exact r
    have hy:y.one=true:=by simpa [qAZ]using g3
    refine⟨y::ys,C++D,by rw[<- List.append_assoc];exact k1,?_,?_⟩
    ·rw[<- List.append_assoc]
     exact .cons (Rel.mono hle _ _ hr) k2
    ·rw[<- List.append_assoc]
     refine⟨⟨?_,λh=>absurd h ha,λ_=>qHn hy⟩,k3⟩;rw[qHn hy];exact Inp.sub hsub _ _ _ g4
end
def memB(B:IB):AH:={ blks:=Tr.ofListAt .nil 1 (B.map λx=>.cells x.2.1 (Tr.ofListAt .nil 0 x.2.2) x.2.2.length),next:=B.length+1,lo:=B.length+1,log:=[] }
theorem qPm(B:IB)(id:Nat):(memB B).blks.get id=match id with
  | 0=>none
  | i+1=>match B[i]? with
    |some x=>some (.cells x.2.1 (Tr.ofListAt .nil 0 x.2.2) x.2.2.length)
    |none=>none:=by
 unfold memB;simp only;rw[Tr.get_ofListAt];cases id with
 |zero=>rw[if_neg (by omega),Tr.get_nil]
 | succ i=>
   by_cases h:i<B.length
   ·rw[if_pos (by simp;omega)]
    simp[gEY h]
   ·rw[if_neg (by simp;omega),Tr.get_nil]
    have:B[i]?=none:=List.getElem?_eq_none (by omega);simp only[this]
theorem zAAa(B:IB){σ:Nat->Value}{W:World}(h:VB σ B W):HRel (qKJ B) (memB B):=by
 refine⟨Nat.le_refl _,λi hi=>?_,λi t b hi=>?_⟩
 ·rw[qPm]at hi
  cases i with
  |zero=>exact absurd rfl hi
  | succ i=>
    simp only at hi;cases e:B[i]? with
    |none=>rw[e]at hi;exact absurd rfl hi
    |some x=>have:=(gS e).1;show i+1<B.length+1;omega
 ·cases i with
  |zero=>cases hi
  | succ i=>
    unfold qKJ at hi;simp only at hi;cases e:B[i]? with
    |none=>rw[e]at hi;cases hi
    | some x=>
      rw[e]at hi;cases hi;obtain⟨_,_,_,_,_,h4,_⟩:=h i x e;have e2:(memB B).blks.get (i+1)=some (.cells x.2.1 (Tr.ofListAt .nil 0 x.2.2) x.2.2.length):=by rw[qPm];simp only[e]
      exact⟨by simp,_,e2,rfl,rfl,h4,λj hj=>qIr _ _ hj⟩
theorem zABK(B:IB){σ:Nat->Value}{W:World}(h:VB σ B W):WR σ (rhoB B) W.heap.size (memB B) W:=by
 have key:∀id b,(memB B).blks.get id=some b->∃i x,id=i+1/\B[i]?=some x/\b=.cells x.2.1 (Tr.ofListAt .nil 0 x.2.2) x.2.2.length:=by
  intro id b hb;rw[qPm]at hb;cases id with
  |zero=>cases hb
  | succ i=>
    simp only at hb;cases e:B[i]? with
    |none=>rw[e]at hb;cases hb
    |some x=>rw[e]at hb;cases hb;exact⟨i,x,rfl,e,rfl⟩
 have lo:∀id b,(memB B).blks.get id=some b->¬(memB B).lo<=id:=by intro id b hb;obtain⟨i,x,rfl,e,_⟩:=key id b hb;have:=(gS e).1;show ¬B.length+1<=i+1;omega
 refine⟨λid b hb=>?_,λid b L hb _ hl=>absurd hl (lo id b hb),λi j bi bj Li Lj hi _ _ _ hl _=>absurd hl (lo i bi hi),Nat.le_refl _⟩;obtain⟨i,x,rfl,e,rfl⟩:=key id b hb;refine⟨x.1,by unfold rhoB;simp[e],?_⟩;obtain⟨cc,fr,h1,h2,h3,_,h5⟩:=h i x e;refine⟨cc,fr,h1,λhl=>absurd hl (lo _ _ hb),h2,h3,λj v hj=>?_⟩;have hlt:j<x.2.2.length:=by
  rcases Nat.lt_or_ge j x.2.2.length with h|h
  ·exact h
  ·rw[Tr.get_ofListAt,if_neg (by omega),Tr.get_nil]at hj;cases hj
 rw[qIr _ _ hlt]at hj;exact h5 j v hj
end Go.AM
namespace Go.AM
open Go Go.RowKit Go.ChangeShapes Go.WideShapes Go.ChangeAt
theorem qMQ{σ:Nat->Value}{ρ:Ren}{base:Nat}{H:AH}{w w':World}(h:WR σ ρ base H w)(hb:Below w.heap.size w w'):WR σ ρ base H w':=by refine⟨λid b hid=>?_,h.own,h.inj,Nat.le_trans h.base hb.size⟩;obtain⟨L,h1,h2⟩:=h.blk id b hid;refine⟨L,h1,?_⟩;have hlt:=qJ4 h hid h1;rw[hb.block L.blk hlt];exact h2
theorem wC.mono{P:Program}{X:Td}{f:FuncId}{args:List AV}{K K':AV->Hq->Prop}{s:Hq}(h:wC P X f args K s)(hk:∀v s',K v s'->K' v s'):wC P X f args K' s:=
 wpF.mono h λ_ s' ⟨v,e,hv⟩=>⟨v,e,hk v s' hv⟩
end Go.AM
namespace Go.AM
open Go
def qA5(fn:Func):Code:=match fn.body with
 |some c=>c
 |none=>.refuse ""
variable {α:Type} {K:α→Prop} {s s':Hq}
@[simp] theorem qAA{a:α}:oK (some a) K=K a:=id rfl
theorem qAD{o:Option α}{a:α}(h:o=some a)(hk:K a):oK o K:=by rw[h];exact hk
@[simp] theorem qAY{p q:Prop}:qAJ (.bool true) p q=p:=id rfl
@[simp] theorem qAO{p q:Prop}:qAJ (.bool false) p q=q:=id rfl
theorem qAE{b:Bool}{p q:Prop}(h1:b=true->p)(h2:b=false->q):qAJ (.bool b) p q:=by cases b;exact h2 rfl;exact h1 rfl
@[simp] theorem qAc{a b:AV}:qAS (.bool true) a b=some a:=id rfl
@[simp] theorem qAU{a b:AV}:qAS (.bool false) a b=some b:=id rfl
@[simp] theorem qCN{b o:Nat}:qAj (.ptr b o)=some (.ptr b o):=id rfl
@[simp] theorem qAG{b o k:Nat}:qAF k (.ptr b o)=some (.ptr b (o+k)):=id rfl
@[simp] theorem nat?_mk{k:IntKind}{n:Nat}:nat? (.int k (n:Int))=some n:=id rfl
@[simp] theorem qDb{k:IntKind}:qB9 k k=true:=by cases k<;>rfl
@[simp] theorem qAN{k:IntKind}{x y:Int}:qAB .add (.int k x) (.int k y)=some (.int k (k.wrap (x+y))):=by simp[qAB,arith,qBq,qBY]
@[simp] theorem qBs{k:IntKind}{x y:Int}:qAB .sub (.int k x) (.int k y)=some (.int k (k.wrap (x-y))):=by simp[qAB,arith,qBq,qBY]
@[simp] theorem qIn{k:IntKind}{x y:Int}:qAB .mul (.int k x) (.int k y)=some (.int k (k.wrap (x*y))):=by simp[qAB,arith,qBq,qBY]
theorem qM7{k:IntKind}{x y:Int}(h:y≠0):qAB .quo (.int k x) (.int k y)=some (.int k (k.wrap (x.tdiv y))):=by
 have:(y == 0)=false:=by simpa using h
 simp[qAB,arith,qBq,qBY,qEs,this]
theorem qNO{k:IntKind}{x y:Int}(h:y≠0):qAB .rem (.int k x) (.int k y)=some (.int k (x.tmod y)):=by
 have:(y == 0)=false:=by simpa using h
 simp[qAB,arith,qBq,qEs,this]
@[simp] theorem qAQ{k:IntKind}{x y:Int}:qAB .lss (.int k x) (.int k y)=some (.bool (decide (x<y))):=by simp[qAB,arith,qHR]
@[simp] theorem qBf{k:IntKind}{x y:Int}:qAB .gtr (.int k x) (.int k y)=some (.bool (decide (y<x))):=by simp[qAB,arith,qHR]
@[simp] theorem qCr{k:IntKind}{x y:Int}:qAB .leq (.int k x) (.int k y)=some (.bool (decide (x<=y))):=by
 simp only[qAB,arith,qHR,qDb,cond_true]
 by_cases h:x<=y
 ·simp[h,Int.not_lt.2 h]
 ·simp[h,Int.not_le.1 h]
@[simp] theorem qAr{k:IntKind}{x y:Int}:qAB .geq (.int k x) (.int k y)=some (.bool (decide (y<=x))):=by
 simp only[qAB,arith,qHR,qDb,cond_true]
 by_cases h:y<=x
 ·simp[h,Int.not_lt.2 h]
 ·simp[h,Int.not_le.1 h]
@[simp] theorem qAa{c:Bool}{k:IntKind}{x y:Int}:eqV 0 c (.int k x) (.int k y)=some (x == y):=by simp[eqV,qEs]
@[simp] theorem zAEF{c:Bool}{x y:Bool}:eqV 1 c (.bool x) (.bool y)=some (x == y):=id rfl
@[simp] theorem qVX{c:Bool}{b o:Nat}:eqV 3 c (.ptr b o) .nilptr=some false:=id rfl
@[simp] theorem qOn{c:Bool}:eqV 3 c .nilptr .nilptr=some true:=id rfl
@[simp] theorem qAX{n b:Bool}:negB n (some b)=some (.bool (n != b)):=by cases n<;>cases b<;>rfl
@[simp] theorem qAq{b:Bool}:qBV .not (.bool b)=some (.bool !b):=id rfl
theorem qAL{b o:Nat}{t:Bool}{e:TypeId}{l:List AV}(h:s b=some (t,.cells e l)):rd1 s (.ptr b o)=l[o]?:=by simp[rd1,h]
theorem zAAh{b o:Nat}{e:TypeId}{l:List AV}{v:AV}(h:s b=some (false,.cells e l))(hl:o<l.length)(hv:v.one=true):wr1 s (.ptr b o) v=some (hset s b (false,.cells e (l.set o v))):=by
 have:Nat.blt o l.length=true:=by rw[Nat.blt_eq];exact hl
 simp[wr1,h,hv,this]
@[simp] theorem zAEZ{k:IntKind}{n:Int}:(AV.int k n).one=true:=id rfl
@[simp] theorem zAEG{b:Bool}:(AV.bool b).one=true:=id rfl
@[simp] theorem qKo{l:List AV}:(AV.agg l).cells=l:=id rfl
@[simp] theorem zACZ:qAZ []=true:=id rfl
@[simp] theorem qSo{v:AV}{l:List AV}:qAZ (v::l)=(v.one&&qAZ l):=id rfl
theorem qAV{n:Int}(h1:-9223372036854775808<=n)(h2:n<=9223372036854775807):IntKind.i64.wrap n=n:=by rw[<- qBY];simp only[qAw];rw[qDs _ _ _ (by omega) (by omega)];split<;>omega
def qAf(fp:Nat->Prop)(s s':Hq):Prop:=∀b e,s b=some e->¬fp b->s' b=some e
theorem qAf.refl(fp:Nat->Prop)(s:Hq):qAf fp s s:=λ_ _ h _=>h
theorem qAf.trans{fp:Nat->Prop}{a b c:Hq}(h:qAf fp a b)(k:qAf fp b c):qAf fp a c:=λi e hi hf=>k i e (h i e hi hf) hf
theorem qAf.mono{fp fp':Nat->Prop}{a b:Hq}(h:qAf fp a b)(hf:∀i,fp i->fp' i):qAf fp' a b:=λi e hi hn=>h i e hi λk=>hn (hf i k)
theorem Sub.keep{fp:Nat->Prop}{a b:Hq}(h:Sub a b):qAf fp a b:=λi e hi _=>h i e hi
theorem Sub.refl(s:Hq):Sub s s:=λ_ _ h=>h
theorem Sub.trans{a b c:Hq}(h:Sub a b)(k:Sub b c):Sub a c:=λi e hi=>k i e (h i e hi)
theorem qHB{b:Nat}{e:Bool×Blk}(h:s b=none):Sub s (hset s b e):=λi x hi=>by
 unfold hset;have:i≠b:=λq=>by rw[q,h]at hi;cases hi
 rw[if_neg this];exact hi
@[simp] theorem qBa{b:Nat}{e:Bool×Blk}:hset s b e b=some e:=if_pos rfl
theorem qAx{b i:Nat}{e:Bool×Blk}(h:i≠b):hset s b e i=s i:=if_neg h
theorem qDG{b i:Nat}{e:Bool×Blk}(hb:s b=none)(hi:s i=some e):i≠b:=λq=>by rw[q,hb]at hi;cases hi
theorem qPw{s t:Hq}{b:Nat}{e:Bool×Blk}(h:s b=some e)(ht:t b=some e):cutH [(s,t)] t b=some e:=by show(if s b=none/\t b≠none then none else t b)=_;rw[if_neg (by rw[h];simp)];exact ht
theorem qSq{s:Hq}:add s (frz s)=s:=by
 funext b
 unfold add frz;cases s b<;>rfl
theorem qJt{s t:Hq}:Sub s (add s t):=λi e hi=>qAi hi
theorem qUx{P:Program}{X:Td}{k:FuncId}{first cap args:List AV}{K:AV->Hq->Prop}{s:Hq}(hk:isFn P k=true)(h:wC P X k (first++args++cap) K s):funK P X (.fn (.func k) first cap) args K s:=⟨hk,h⟩
theorem qVq{b:Nat}{e:TypeId}{l cs:List AV}{n:Nat}{s:Hq}(h:s b=some (false,.cells e l))(hl:cs.length=l.length)(hn:l.length=n)(ho:qAZ cs=true):qBS s n (.ptr b 0) (.agg cs)=some (hset s b (false,.cells e cs)):=by
 have e1:Nat.beq cs.length n=true:=by rw[hl,hn];exact Nat.beq_refl _
 have e2:Nat.ble (0+cs.length) l.length=true:=bL (by omega);have e3:qBZ l 0 cs=cs:=by unfold qBZ;rw[List.drop_eq_nil_of_le (by omega)];simp
 simp only[qBS,qKo,e1,cond_true,wrN,h,e2,ho,Bool.and_self,e3]
theorem qAb{b:Nat}{t:Bool}{e:TypeId}{l:List AV}{n:Nat}{s:Hq}(h:s b=some (t,.cells e l))(hn:l.length=n):rdN s n (.ptr b 0)=some l:=by have e1:Nat.ble (0+n) l.length=true:=bL (by omega);simp only[rdN,h,qIm,e1,cond_true,List.drop_zero];rw[List.take_of_length_le (by omega)]
theorem qYh{elem:TypeId}{v:AV}{K:AV->Hq->Prop}{s:Hq}(hv:v.one=true)(h:∀b,s b=none->K (.ptr b 0) (hset s b (false,.cells elem [v]))):boxK elem v K s:=by unfold boxK;rw[qHn hv];exact⟨by simp[hv],h⟩
def Upto(b:Nat)(s s':Hq):Prop:=∀i,i≠b->s' i=s i
theorem Upto.keep{fp:Nat->Prop}{b:Nat}{s s':Hq}(h:Upto b s s')(hb:fp b):qAf fp s s':=λi e hi hn=>by rw[h i λq=>hn (q ▸ hb)];exact hi
theorem Upto.sub{b:Nat}{s s':Hq}(h:Upto b s s')(hb:s b=none):Sub s s':=λi e hi=>by rw[h i (qDG hb hi)];exact hi
theorem Upto.at{b i:Nat}{s s':Hq}{e:Bool×Blk}(h:Upto b s s')(hi:s i=some e)(hb:s b=none):s' i=some e:=h.sub hb i e hi
theorem qAK{elem:TypeId}{cs:List AV}{K:Nat->Hq->Prop}{s:Hq}(h:∀b s',s b=none->s' b=some (false,.cells elem cs)->Upto b s s'->K b s'):newK elem cs K s:=
 λb hb=>h b _ hb qBa λ_ hi=>qAx hi
theorem qA9{b o:Nat}{e:TypeId}{l:List AV}{v:AV}{K:Hq->Prop}{s:Hq}(h:s b=some (false,.cells e l))(ho:o<l.length)(hv:v.one=true)(hk:∀s',s' b=some (false,.cells e (l.set o v))->Upto b s s'->K s'):oK (wr1 s (.ptr b o) v) K:=
 qAD (zAAh h ho hv) (hk _ qBa λ_ hi=>qAx hi)
theorem qAT{b:Nat}{e:TypeId}{l cs:List AV}{n:Nat}{K:Hq->Prop}{s:Hq}(h:s b=some (false,.cells e l))(hl:cs.length=l.length)(hn:l.length=n)(ho:qAZ cs=true)(hk:∀s',s' b=some (false,.cells e cs)->Upto b s s'->K s'):oK (qBS s n (.ptr b 0) (.agg cs)) K:=
 qAD (qVq h hl hn ho) (hk _ qBa λ_ hi=>qAx hi)
theorem qKy{elem:TypeId}{v:AV}{K:AV->Hq->Prop}{s:Hq}(hv:v.one=true)(h:∀b s',s b=none->s' b=some (false,.cells elem [v])->Upto b s s'->K (.ptr b 0) s'):boxK elem v K s:=
 qYh hv λb hb=>h b _ hb qBa λ_ hi=>qAx hi
end Go.AM
namespace Go.AM
open Go
def Sl(s:Hq)(v:AV)(l:List AV):Prop:=(v=.nilslc/\l=[])∨∃b o cap,v=.slc b o l.length cap 1/\(∀c,cap=some c->l.length<=c)/\
 (l≠[]->∃t e cs,s b=some (t,.cells e cs)/\o+l.length<=cs.length/\∀i,i<l.length->cs[o+i]?=l[i]?)
variable {s s':Hq} {v:AV} {l:List AV}
theorem Sl.len(h:Sl s v l):qAP v=some l.length:=by
 rcases h with⟨rfl,rfl⟩|⟨b,o,cap,rfl,_⟩
 ·rfl
 ·rfl
theorem Sl.get(h:Sl s v l){i:Nat}(hi:i<l.length):∃p,qAH 1 v (.int .i64 (i:Int))=some p/\rd1 s p=l[i]?:=by
 rcases h with⟨rfl,rfl⟩|⟨b,o,cap,rfl,_,h⟩
 ·simp at hi
 ·obtain⟨t,e,cs,h1,h2,h3⟩:=h (by rintro rfl;simp at hi)
  refine⟨.ptr b (o+i),?_,by rw[qAL h1,h3 i hi]⟩;have:Nat.blt i l.length=true:=by rw[Nat.blt_eq];exact hi
  simp[qAH,this]
theorem Sl.rd(h:Sl s v l):rdSl s 1 v=some l:=by
 rcases h with⟨rfl,rfl⟩|⟨b,o,cap,rfl,_,h⟩
 ·rfl
 ·cases l with
  |nil=>rfl
  | cons x r=>
    obtain⟨t,e,cs,h1,h2,h3⟩:=h (by simp);have e1:Nat.beq ((x::r).length*1) 0=false:=rfl;have e2:Nat.ble (o+(x::r).length*1) cs.length=true:=bL (by omega);simp only[rdSl,Nat.beq_refl,cond_true,e1,cond_false,h1,qIm,e2]
    congr 1
    apply List.ext_getElem?;intro i;rw[List.getElem?_take];split
    ·rename_i hi
     rw[List.getElem?_drop,h3 i (by omega)]
    ·rw[List.getElem?_eq_none (by omega)]
theorem Sl.sub(h:Sl s v l)(hs:Sub s s'):Sl s' v l:=by
 rcases h with h|⟨b,o,cap,h1,h2,h3⟩
 ·exact .inl h
 ·refine .inr ⟨b,o,cap,h1,h2,λhl=>?_⟩
  obtain⟨t,e,cs,q1,q2⟩:=h3 hl;exact⟨t,e,cs,hs _ _ q1,q2⟩
theorem Sl.keep{fp:Nat->Prop}(h:Sl s v l)(hs:qAf fp s s')(hn:∀b o n c,v=.slc b o n c 1->l≠[]->¬fp b):Sl s' v l:=by
 rcases h with h|⟨b,o,cap,h1,h2,h3⟩
 ·exact .inl h
 ·refine .inr ⟨b,o,cap,h1,h2,λhl=>?_⟩
  obtain⟨t,e,cs,q1,q2⟩:=h3 hl;exact⟨t,e,cs,hs _ _ q1 (hn b o _ cap h1 hl),q2⟩
theorem Sl.mk{b:Nat}{t:Bool}{e:TypeId}{n:Nat}{cap:Option Nat}(h:s b=some (t,.cells e l))(hn:n=l.length)(hc:∀c,cap=some c->l.length<=c):Sl s (.slc b 0 n cap 1) l:=by subst hn;exact .inr ⟨b,0,cap,rfl,hc,λ_=>⟨t,e,l,h,by omega,λi _=>by rw[zA]⟩⟩
def Acc(elem:TypeId)(s0 s:Hq)(v:AV)(l:List AV):Prop:=(v=.nilslc/\l=[])∨∃b,s0 b=none/\v=.slc b 0 l.length none 1/\s b=some (false,.cells elem l)
theorem Acc.sl{elem:TypeId}{s0:Hq}(h:Acc elem s0 s v l):Sl s v l:=by
 rcases h with h|⟨b,_,rfl,h⟩
 ·exact .inl h
 ·exact Sl.mk h rfl (by simp)
theorem Acc.app{elem:TypeId}{s0:Hq}{y:AV}{m:List AV}{K:AV->Hq->Prop}(h:Acc elem s0 s v l)(hy:Sl s y m)(hm:m≠[])(hl:l.length+m.length<=16777216)(hdom:∀i,s0 i≠none->s i≠none)
  (hK:∀v' s',Acc elem s0 s' v' (l++m)->(∀i e,s i=some e->(∀b,v=.slc b 0 l.length none 1->i≠b)->s' i=some e)->K v' s'):appK elem 1 v y K s:=by
 obtain⟨k,hk⟩:∃k,m.length=k+1:=by cases m with|nil=>exact absurd rfl hm|cons a r=>exact⟨r.length,rfl⟩
 refine qAD hy.rd (qAD hy.len ?_);rcases h with⟨rfl,rfl⟩|⟨b,hb0,rfl,hb⟩
 ·simp only
  rw[hk];refine⟨by simp at hl;omega,qAK λc s1 hc h1 u1=>hK _ _ (.inr ⟨c,?_,?_,by simpa using h1⟩) λi e hi _=>u1.at hi hc⟩
  ·cases q:s0 c with
   |none=>rfl
   |some x=>exact absurd hc (hdom c (by rw[q];simp))
  ·simp[hk]
 ·refine⟨rfl,?_⟩
  simp only;rw[hk];simp only;refine qAD (Sl.rd (Sl.mk (l:=l) hb rfl (by simp))) ?_;unfold qT6;rw[hb];refine⟨rfl,by omega,qAK λc s1 hc h1 u1=>hK _ _ (.inr ⟨c,?_,by simp[hk],h1⟩) λi e hi hib=>?_⟩
  ·by_cases e:c=b
   ·rw[e];exact hb0
   ·have hc':s c=none:=by rw[<- hc];exact(if_neg e).symm
    cases q:s0 c with
    |none=>rfl
    |some x=>exact absurd hc' (hdom c (by rw[q];simp))
  ·have hne:=hib b rfl
   have:hdel s b i=some e:=by rw[<- hi];exact if_neg hne
   exact u1.at this hc
theorem qHc{elem:TypeId}{z v:AV}{K:Nat->Hq->Prop}(hz:z.one=true)(hv:v.one=true)(hK:∀b s',s b=none->s' b=some (false,.cells elem [v])->Upto b s s'->K b s'):
  oK (qBC (repl 1 [z]) [(0,1,v)]) λc=>qAZ c=true/\newK elem c K s:=by
 refine qAD (a:=[v]) ?_ ⟨by simp[hv],qAK hK⟩;show cond (Nat.beq v.cells.length 1&&Nat.ble (0+v.cells.length) 1) (qBC (qBZ [z] 0 v.cells) []) none=_;rw[qHn hv];rfl
theorem qTP(z:AV):∀n,repl n [z]=List.replicate n z
 | 0=>rfl
 |n+1=>by rw[repl,qTP z n];rfl
end Go.AM
namespace Go.AM
open Go
section
variable {P:Program} {s:Hq} {d:Nat} {t e:TypeId} {v:AV}
theorem qXY{k:IntKind}(hu:P.underlying t=some (.int k))(h:Arg P s (d+1) t v):∃n,v=.int k n/\(Lit.int k n).wf=true:=by
 obtain⟨h1,_,h3⟩:=h;have:qDz P t≠some true:=by unfold qDz;rw[hu];simp
 rw[h3 this]at h1;unfold Inp at h1;simp only[hu]at h1;obtain⟨n,e,hn⟩:=h1;exact⟨n,by simpa using e,hn⟩
theorem qXi(hu:P.underlying t=some (.slice e))(hc:P.cellsOf e=1){A:Type}(f:A->AV)(Q:A->Prop)(he:∀xs,Inp P s d e xs->∃a,xs=[f a]/\Q a){xs:List AV}(h:Inp P s (d+1) t xs):∃v,xs=[v]/\∃l:List A,Sl s v (l.map f)/\(∀a∈l,Q a)/\l.length<=maxLen:=by
 unfold Inp at h;simp only[hu]at h;rcases h with rfl|⟨b,len,cap,rfl,h1,h2,h3⟩
 ·exact⟨_,rfl,[],.inl ⟨rfl,rfl⟩,by simp,by simp⟩
 ·refine⟨_,rfl,?_⟩
  rw[hc]at h3 ⊢
  by_cases hz:cap=0
  ·subst hz
   have:len=0:=by omega
   subst this;exact⟨[],.inr ⟨b,0,some 0,rfl,by simp,by simp⟩,by simp,by simp⟩
  ·obtain⟨el,l,g1,g2,g3⟩:=h3 (by omega)
   simp only[Nat.mul_one]at g2 g3;have each:∀i,i<cap->∃a,l[i]?=some (f a)/\Q a:=by intro i hi;obtain⟨a,q1,q2⟩:=he _ (g3 i hi);refine⟨a,?_,q2⟩;have:=congrArg (λr:List AV=>r[0]?) q1;simpa [List.getElem?_take,List.getElem?_drop]using this
   have mk:∀n,n<=cap->∃r:List A,r.length=n/\(∀i,i<n->l[i]?=(r.map f)[i]?)/\∀a∈r,Q a:=by
    intro n
    induction n with
    |zero=>exact λ_=>⟨[],rfl,by simp,by simp⟩
    | succ n ih=>
      intro hn;obtain⟨r,r1,r2,r3⟩:=ih (by omega);obtain⟨a,a1,a2⟩:=each n (by omega);refine⟨r ++ [a],by simp[r1],λi hi=>?_,λb hb=>?_⟩
      ·by_cases e:i=n
       ·subst e;rw[a1];simp[<- r1]
       ·rw[r2 i (by omega)];simp[List.getElem?_append,r1,show i<n by omega]
      ·rcases mP hb with hb|hb
       ·exact r3 b hb
       ·rw[List.mem_singleton.1 hb];exact a2
   obtain⟨r,r1,r2,r3⟩:=mk len h1;refine⟨r,.inr ⟨b,0,some cap,by simp[r1],by simp[r1];exact h1,λ_=>⟨true,el,l,g1,by simp[r1];omega,λi hi=>?_⟩⟩,r3,by omega⟩;rw[zA];exact r2 i (by simpa [r1]using hi)
theorem qWs(hu:P.underlying t=some (.slice e))(hc:P.cellsOf e=1){A:Type}(f:A->AV)(Q:A->Prop)(he:∀xs,Inp P s d e xs->∃a,xs=[f a]/\Q a)(h:Arg P s (d+1) t v):∃l:List A,Sl s v (l.map f)/\(∀a∈l,Q a)/\l.length<=maxLen:=by
 obtain⟨h1,_,h3⟩:=h;have:qDz P t≠some true:=by unfold qDz;rw[hu];simp
 rw[h3 this]at h1;obtain⟨v',e1,h4⟩:=qXi hu hc f Q he h1;cases e1;exact h4
theorem zABc{k:IntKind}(hu:P.underlying t=some (.int k)){xs:List AV}(h:Inp P s (d+1) t xs):∃n,xs=[.int k n]/\(Lit.int k n).wf=true:=by unfold Inp at h;simp only[hu]at h;exact h
end
theorem zAEL{P:Program}{s:Hq}{d:Nat}{t u w:TypeId}{xs:List AV}(h:ArgL P s d [t,u,w] xs):∃a b c,xs=[a,b,c]/\Arg P s d t a/\Arg P s d u b/\Arg P s d w c:=by
 match xs,h with
 |[a,b,c],⟨h1,h2,h3,_⟩=>exact⟨a,b,c,rfl,h1,h2,h3⟩
end Go.AM
namespace Go.AM
open Go Go.RowKit Go.ChangeShapes Go.WideShapes Go.ChangeAt
section
variable {H:Type}
end
end Go.AM
namespace Go.AM
open Go Go.RowKit Go.ChangeShapes Go.WideShapes Go.ChangeAt
def orX(X Y:Td):Td:=λf=>match X f with
 |some g=>some g
 |none=>Y f
theorem orX_ok{P:Program}{X Y:Td}(hX:ExtOK P X)(hY:ExtOK P Y):ExtOK P (orX X Y):=by
 refine⟨λf g args h=>?_,λf g h=>?_⟩
 ·unfold orX at h
  cases hx:X f with
  |some g'=>rw[hx]at h;cases h;exact hX.1 f _ args hx
  |none=>rw[hx]at h;exact hY.1 f g args h
 ·unfold orX at h
  cases hx:X f with
  |some g'=>rw[hx]at h;cases h;exact hX.2 f _ hx
  |none=>rw[hx]at h;exact hY.2 f g h
end Go.AM
namespace Go.AM
open Go
variable {P:Program} {X:Td}
structure Cov(K H:AH):Prop where
 next:H.next=K.next
 lo:H.lo<=K.lo
 sub:∀i b,K.blks.get i=some b->H.blks.get i=some b
 top:∀i,H.next<=i->H.blks.get i=none
theorem Fr.cov{α:Type}{m:M α}(hf:Fr m){K K1 H:AH}{a:α}(h:m K=some (a,K1))(c:Cov K H):∃H1,m H=some (a,H1)/\Cov K1 H1:=by
 obtain⟨es,d,q⟩:=hf K a K1 h;obtain⟨H1,e,d2,n,ag⟩:=q H c.next c.lo (λid b hm=>by
  cases hk:K.blks.get id with
  |some x=>exact c.sub id x hk
  | none=>
    rcases d.touch id b hm with h1|⟨h1,_⟩
    ·exact absurd hk h1
    ·exact c.top id (by rw[c.next];exact h1))
 refine⟨H1,e,n,by rw[d2.lo,d.lo];exact c.lo,λi b hi=>?_,λi hi=>?_⟩
 ·by_cases hm:(i,true)∈es
  ·rw[ag i true hm];exact hi
  ·rw[d2.same i hm]
   rw[d.same i hm]at hi;exact c.sub i b hi
 ·cases hk:H1.blks.get i with
  |none=>rfl
  | some x=>
    have n1:=d2.next;rcases d2.gone i (by rw[hk];simp)with h1|⟨_,h2⟩
    ·exact absurd (c.top i (by omega)) h1
    ·omega
def eqT:Tmps->Tmps->Bool
 | .nil,.nil=>true
 | .node v l r,.node v' l' r'=>(match v,v' with|none,none=>true|some a,some b=>eqA a b|_,_=>false)&&(eqT l l'&&eqT r r')
 |_,_=>false
theorem qTf:∀{a b:Tmps},eqT a b=true->a=b
 | .nil,.nil,_=>rfl
 | .nil,.node _ _ _,h=>by cases h
 | .node _ _ _,.nil,h=>by cases h
 | .node v l r,.node v' l' r',h=>by
   unfold eqT at h;obtain⟨h1,h2⟩:=Bool.and_eq_true_iff.1 h;obtain⟨h2,h3⟩:=Bool.and_eq_true_iff.1 h2;rw[qTf h2,qTf h3];cases v<;>cases v'<;>first|rfl|(cases h1;done)|(simp only at h1;rw[qOs h1])
def eqB:ABlk->ABlk->Bool
 | .cells e c n,.cells e' c' n'=>Nat.beq e e'&&(eqT c c'&&Nat.beq n n')
 | .map es k,.map es' k'=>eqEs es es'&&Nat.beq k k'
 | .one v,.one v'=>eqA v v'
 | .deferred a,.deferred b=>a == b
 |_,_=>false
theorem zAD2{a b:ABlk}(h:eqB a b=true):a=b:=by
 unfold eqB at h;split at h
 ·simp only[Bool.and_eq_true]at h
  rw[bE h.1,qTf h.2.1,bE h.2.2]
 ·simp only[Bool.and_eq_true]at h
  rw[qVS h.1,bE h.2]
 ·rw[qOs h]
 ·rw[eq_of_beq h]
 ·cases h
noncomputable def mkB(l:List (Nat×ABlk)):Tr ABlk:=List.rec (motive:=λ_=>Tr ABlk) .nil (λp _ ih=>ih.putR p.1 (some p.2)) l
noncomputable def mkK(l:List (Nat×ABlk))(n:Nat):AH:={ blks:=mkB l,next:=n,lo:=0,log:=[] }
theorem qW5:∀{l:List (Nat×ABlk)}{i:Nat}{b:ABlk},(mkB l).get i=some b->(i,b)∈l
 | [],i,b,h=>by
   have:(Tr.nil:Tr ABlk).get i=some b:=h;rw[Tr.get_nil]at this;cases this
 | (j,c)::l,i,b,h=>by
   have:((mkB l).putR j (some c)).get i=some b:=h;rw[Tr.putR_eq,Tr.get_put]at this;split at this
   ·rename_i e;cases this;subst e;exact List.mem_cons_self ..
   ·exact mO _ (qW5 this)
noncomputable def subB(l:List (Nat×ABlk))(t:Tr ABlk):Bool:=List.rec (motive:=λ_=>Bool) true (λp _ ih=>match t.getR p.1 with
 |some b=>eqB b p.2&&ih
 |none=>false) l
theorem qTa{t:Tr ABlk}:∀{l:List (Nat×ABlk)},subB l t=true->∀p∈l,t.get p.1=some p.2
 |[],_,_,h=>by cases h
 | q::l,h,p,hp=>by
   have h:(match t.getR q.1 with|some b=>eqB b q.2&&subB l t|none=>false)=true:=h;rw[Tr.getR_eq]at h;cases e:t.get q.1 with
   |none=>simp only[e]at h;cases h
   | some b=>
     simp only[e]at h;obtain⟨h1,h2⟩:=Bool.and_eq_true_iff.1 h;rcases mC hp with rfl|hp
     ·rw[e,zAD2 h1]
     ·exact qTa h2 p hp
def qHe:Nat->Code->List Code×Code
 |k+1,.seq a b=>(a::(qHe k b).1,(qHe k b).2)
 |_,c=>([],c)
noncomputable def runL(P:Program)(X:Td)(n nt:Nat):List Code->Tmps->M Tmps
 |[],T=>ret T
 | c::cs,T=>bd (runR P X n (.code nt none c T [])) λo=>match o with
   | .exit .nrm T []=>runL P X n nt cs T
   |_=>fail
def epi(P:Program)(X:Td)(n:Nat)(fn:Func)(o:Out):M Out:=match o with
 | .exit e T ms=>match e with
   | .exit _=>fail
   |_=>bd (qAu P (run P X n) ms) λ_=>bd (qBK P T fn.results.toList) λvs=>ret (.val (oneV vs))
 |_=>fail
def endF(P:Program)(X:Td)(fn:Func)(n:Nat)(c:Code)(T:Tmps):M Out:=bd (run P X n (.code fn.ntmps none c T [])) (epi P X n fn)
theorem qXH(hX:FrX X)(n nt:Nat):∀(cs:List Code) (T:Tmps),Fr (runL P X n nt cs T)
 |[],_=>qAp _
 | c::cs,T=>qBE (by rw[qPP];exact qEl P hX n _) λo=>by
   split
   ·exact qXH hX n nt cs _
   ·exact qAd
theorem qRI(fn:Func)(c:Code)(T:Tmps):Mono λn=>endF P X fn n c T:=qBw λn=>LeM.bd (qC4 n _) λo=>by
 unfold epi;split
 ·split
  ·exact LeM.refl _
  ·exact LeM.bd (qCo (qC4 n) _) λ_=>LeM.refl _
 ·exact LeM.refl _
def Good(P:Program)(X:Td)(fn:Func)(c:Code)(T:Tmps)(K:AH):Prop:=∀H,Cov K H->∃n H1,endF P X fn n c T H=some (.val (.bool true),H1)
theorem qYY{fn:Func}{n:Nat}{r:Out×AH}{T1:Tmps}{H1:AH}:∀(k:Nat) (c:Code) (T:Tmps) (H:AH),runL P X n fn.ntmps (qHe k c).1 T H=some (T1,H1)->(∃n2,endF P X fn n2 (qHe k c).2 T1 H1=some r)->∃n3,endF P X fn n3 c T H=some r:=by
 intro k
 induction k with
 | zero=>
   intro c T H h he;have e:qHe 0 c=([],c):=by unfold qHe;rfl
   rw[e]at h he;cases h;exact he
 | succ k ih=>
   intro c T H h he
   by_cases hs:∃a b,c=.seq a b
   ·obtain⟨a,b,rfl⟩:=hs
    have e:qHe (k+1) (.seq a b)=(a::(qHe k b).1,(qHe k b).2):=by rw[qHe]
    rw[e]at h he;obtain⟨o,Ha,h1,h2⟩:=qAM (H:=H) h;rw[qPP]at h1;split at h2
    ·rename_i Ta
     obtain⟨n3,h3⟩:=ih b Ta Ha h2 he;have m1:=qCq (P:=P) (X:=X) (.code fn.ntmps none a T []) n (max n n3) H _ (Nat.le_max_left _ _) h1;have m2:=qRI (P:=P) (X:=X) fn b Ta n3 (max n n3) Ha _ (Nat.le_max_right _ _) h3;have m3:=qRI (P:=P) (X:=X) fn b Ta n3 (max n n3+1) Ha _ (by omega) h3;refine⟨max n n3+1,?_⟩;obtain⟨o2,Hb,m4,m5⟩:=qAM (H:=Ha) m2;have m6:run P X (max n n3+1) (.code fn.ntmps none (.seq a b) T []) H=some (o2,Hb):=by
      show bd (run P X (max n n3) (.code fn.ntmps none a T [])) (λo=>match o with
       | .exit .nrm T ms=>run P X (max n n3) (.code fn.ntmps none b T ms)
       |o=>ret o) H=_
      unfold bd;simp only at m1;rw[m1];exact m4
     have m7:epi P X (max n n3+1) fn o2 Hb=some r:=by obtain⟨o3,Hc,m8,m9⟩:=qAM (H:=Ha) m3;have:=qCq (P:=P) (X:=X) (.code fn.ntmps none b Ta []) (max n n3) (max n n3+1) Ha _ (by omega) m4;simp only at this;rw[m8]at this;cases this;exact m9
     show bd (run P X (max n n3+1) (.code fn.ntmps none (.seq a b) T [])) (epi P X (max n n3+1) fn) H=some r;unfold bd;rw[m6];exact m7
    ·exact(qAC h2).elim
   ·have e:qHe (k+1) c=([],c):=by
     cases c<;>first|(exact absurd ⟨_,_,rfl⟩ hs)|rfl
    rw[e]at h he;cases h;exact he
noncomputable def chk(P:Program)(X:Td)(n nt:Nat)(cs:List Code)(T:Tmps)(K:AH)(T2:Tmps)(l:List (Nat×ABlk))(nx:Nat):Bool:=match runL P X n nt cs T K with
 |some (T1,K1)=>eqT T1 T2&&(Nat.beq K1.next nx&&(Nat.beq K1.lo 0&&subB l K1.blks))
 |none=>false
theorem Good.cut(hX:FrX X){fn:Func}{c:Code}{T T2:Tmps}{K:AH}{l:List (Nat×ABlk)}{nx n k:Nat}(h:chk P X n fn.ntmps (qHe k c).1 T K T2 l nx=true)(g:Good P X fn (qHe k c).2 T2 (mkK l nx)):Good P X fn c T K:=by
 intro H hc;unfold chk at h;split at h
 ·rename_i T1 K1 e
  simp only[Bool.and_eq_true]at h;obtain⟨h1,h2,h3,h4⟩:=h;have h1:=qTf h1;subst h1;obtain⟨H1,e1,c1⟩:=(qXH hX n fn.ntmps _ T).cov e hc;have c2:Cov (mkK l nx) H1:=⟨by rw[c1.next];exact bE h2,by have:=c1.lo;rw[bE h3]at this;exact this,λi b hi=>c1.sub i b (qTa h4 (i,b) (qW5 hi)),c1.top⟩
  obtain⟨n2,H2,e2⟩:=g H1 c2;obtain⟨n3,e3⟩:=qYY k c T H e1 ⟨n2,e2⟩;exact⟨n3,H2,e3⟩
 ·cases h
end Go.AM
namespace Go.AM
open Go Go.RowKit Go.ChangeShapes Go.WideShapes Go.ChangeAt
def qJW:AV->Value
 | .bool b=>.bool b
 | .int k n=>.int k n
 |_=>.bool false
def plainC:List AV->Bool
 |[]=>true
 | .bool _::l=>plainC l
 | .int _ _::l=>plainC l
 |_=>false
theorem qLW{σ:Nat->Value}{ρ:Ren}:∀{l:List AV},plainC l=true->RelL σ ρ l (l.map qJW)/\∀x∈l.map qJW,x.oneCell'=true
 |[],_=>⟨.nil,by simp⟩
 | x::l,h=>by
   cases x<;>first|(cases h;done)|skip
   all_goals
    obtain⟨h1,h2⟩:=qLW (σ:=σ) (ρ:=ρ) (l:=l) h;refine⟨.cons (by unfold Rel;rfl) h1,λy hy=>?_⟩;rw[List.map_cons]at hy;rcases mC hy with rfl|hy
    ·rfl
    ·exact h2 y hy
def gHeap(g:Nat)(v:AV):AH:={ blks:=Tr.put .nil g (some (.glob g v)),next:=g+1,lo:=g+1,log:=[] }
def gRen(g:Nat):Ren:=λi=>if i=g then some ⟨g,0,0⟩else none
theorem qM1{g:Nat}{v:AV}{i:Nat}{b:ABlk}(h:(gHeap g v).blks.get i=some b):i=g/\b=.glob g v:=by
 have:(Tr.put .nil g (some (.glob g v)):Tr ABlk).get i=some b:=h;rw[Tr.get_put]at this;split at this
 ·rename_i e;cases this;exact⟨e.symm,rfl⟩
 ·rw[Tr.get_nil]at this;cases this
theorem zAB1{σ:Nat->Value}{w:World}{g:Nat}{v:AV}{elem:TypeId}{fr:Nat×Nat}(hp:plainC v.cells=true)(hw:w.heap[g]?=some (.cells (v.cells.map qJW).toArray elem fr)):WR σ (gRen g) w.heap.size (gHeap g v) w:=by
 obtain⟨h1,h2⟩:=qLW (σ:=σ) (ρ:=gRen g) hp;refine⟨λi b h=>?_,λi b L h _ hl=>?_,λi j bi bj Li Lj h _ _ _ hl=>?_,Nat.le_refl _⟩
 ·obtain⟨rfl,rfl⟩:=qM1 h
  exact⟨⟨i,0,0⟩,if_pos rfl,rfl,_,elem,fr,hw,h1,h2⟩
 ·obtain⟨rfl,rfl⟩:=qM1 h
  exact absurd hl (by show ¬i+1<=i;omega)
 ·obtain⟨rfl,rfl⟩:=qM1 h
  exact absurd hl (by show ¬i+1<=i;omega)
theorem qSv{P:Program}(hm:P.follows .mixedOrders=true)(hname:noNumB P=true){X:Td}(hX:ExtOK P X)(n:Nat){f:FuncId}(args:List AV){g:Nat}{v:AV}(h:isTrue (runR P X n (.call f args) (gHeap g v))=true)(hp:plainC v.cells=true)(σ:Nat->Value)(hσ:One σ)(args':Array Value)(hr:RelL σ (λ_=>none) args args'.toList)(w:World)
  {elem:TypeId}{fr:Nat×Nat}(hw:w.heap[g]?=some (.cells (v.cells.map qJW).toArray elem fr)) :
  Calls P f args' w λe w'=>e=.returned (.bool true)/\Below w.heap.size w w':=by
 rw[qPP]at h;obtain⟨H',h⟩:=qS4 h;refine(qLr hm (noNum_of hname) hX h σ hσ (gRen g) w (zAB1 hp hw) (λi h1 _=>if_neg (by have h1:g+1<=i:=h1;omega)) args' (RelL.mono (λ_ _ h=>by cases h) _ _ hr)).mono ?_;rintro e w' ⟨v',ρ',rfl,hv,_,hb⟩;unfold Rel at hv;rw[hv];exact⟨rfl,hb⟩
end Go.AM
namespace Go.AM
open Go Go.RowKit Go.ChangeShapes Go.WideShapes
def flats(f:DataW Unit->Option (List AV))(c:Nat):List (DataW Unit)->Option (List AV)
 |[]=>some []
 | d::ds=>match f d,flats f c ds with
   |some l,some r=>cond (Nat.beq l.length c) (some (l++r)) none
   |_,_=>none
def qTr(P:Program)(f:TypeId->DataW Unit->Option (List AV)):Nat->List Field->List (DataW Unit)->Option (List AV)
 |_,[],[]=>some []
 | off,fd::fs,d::ds=>match f fd.type d,qTr P f (off+P.cellsOf fd.type) fs ds with
   |some l,some r=>cond (Nat.beq fd.offset off&&Nat.beq l.length (P.cellsOf fd.type)) (some (l++r)) none
   |_,_=>none
 |_,_,_=>none
def flatD(P:Program):Nat->TypeId->DataW Unit->Option (List AV)
 | 0,_,_=>none
 | n+1,t,d=>match P.underlying t,d with
   |some (.int k),.lit (.int k' x)=>cond (qB9 k k') (some [.int k x]) none
   | some (.array len e),.agg ds=>match flats (flatD P n e) (P.cellsOf e) ds with
     |some l=>cond (Nat.beq ds.length len&&Nat.beq l.length (P.cellsOf t)) (some l) none
     |none=>none
   | some (.struct fs),.agg ds=>match qTr P (flatD P n) 0 fs.toList ds with
     |some l=>cond (Nat.beq l.length (P.cellsOf t)) (some l) none
     |none=>none
   |_,_=>none
theorem qLg{f:DataW Unit->Option (List AV)}{c:Nat}:∀{ds:List (DataW Unit)}{l:List AV},flats f c ds=some l->l.length=ds.length*c
 |[],l,h=>by cases h;simp
 | d::ds,l,h=>by
   unfold flats at h;split at h
   ·rename_i l1 r h1 h2
    obtain⟨hc,h⟩:=qAR h;cases h;have:=qLg h2;rw[lAp,this,bE hc,List.length_cons,Nat.succ_mul];omega
   ·cases h
theorem qNt{f:DataW Unit->Option (List AV)}{c:Nat}:∀{ds:List (DataW Unit)}{l:List AV}{cs:List Value},flats f c ds=some l->cs.length=ds.length*c->
  (∀(i:Nat) (d:DataW Unit) (l0:List AV),ds[i]?=some d->f d=some l0->(cs.drop (i*c)).take c=l0.map qJW)->cs=l.map qJW
 | [],l,cs,h,hl,_=>by
   cases h;have:cs=[]:=List.eq_nil_of_length_eq_zero (by simpa using hl);rw[this];rfl
 | d::ds,l,cs,h,hl,hi=>by
   unfold flats at h;split at h
   ·rename_i l1 r h1 h2
    obtain⟨hc,h⟩:=qAR h;cases h;have e1:cs.take c=l1.map qJW:=by have:=hi 0 d l1 rfl h1;simpa using this
    have e2:cs.drop c=r.map qJW:=qNt h2 (by rw[List.length_drop,hl,List.length_cons,Nat.succ_mul];omega) λi d' l0 hd hf=>by have:=hi (i+1) d' l0 (by simpa using hd) hf;rw[List.drop_drop];rw[Nat.succ_mul]at this;rw[Nat.add_comm c];exact this
    rw[List.map_append,<- e1,<- e2,List.take_append_drop]
   ·cases h
theorem qLh{P:Program}{f:TypeId->DataW Unit->Option (List AV)}:∀{fs:List Field}{ds:List (DataW Unit)}{off:Nat}{l:List AV}{cs:List Value},qTr P f off fs ds=some l->cs.length=off+l.length->
  (∀(i:Nat) (fd:Field) (d:DataW Unit) (l0:List AV),fs[i]?=some fd->ds[i]?=some d->f fd.type d=some l0->(cs.drop fd.offset).take (P.cellsOf fd.type)=l0.map qJW)->cs.drop off=l.map qJW
 | [],[],off,l,cs,h,hl,_=>by
   cases h;have:cs.length<=off:=by simpa using Nat.le_of_eq hl
   rw[List.drop_eq_nil_of_le this];rfl
 |[],_::_,_,_,_,h,_,_=>by cases h
 |_::_,[],_,_,_,h,_,_=>by cases h
 | fd::fs,d::ds,off,l,cs,h,hl,hi=>by
   unfold qTr at h;split at h
   ·rename_i l1 r h1 h2
    obtain⟨hc,h⟩:=qAR h;cases h;obtain⟨c1,c2⟩:=Bool.and_eq_true_iff.1 hc;have c1:=bE c1;have c2:=bE c2;have e1:=hi 0 fd d l1 rfl rfl h1;rw[c1]at e1;have e2:=qLh (cs:=cs) h2 (by rw[hl,lAp,c2];omega) λi fd' d' l0 a b c=>hi (i+1) fd' d' l0 (by simpa using a) (by simpa using b) c;rw[List.map_append,<- e1,<- e2,<- List.drop_drop,List.take_append_drop]
   ·cases h
theorem qMl{P:Program}{enc:TypeId×Value->Unit}{w:World}{base:Nat}{sp:Nat->Bool}{hd:Bool}:∀(n:Nat) {t:TypeId}{d:DataW Unit}{l:List AV}{cs:List Value}{fuel:Nat}{p:List MemPlace},
  flatD P n t d=some l->DataW.trod enc P w base sp hd fuel t cs=some (d,p)->cs=l.map qJW
 | 0,_,_,_,_,_,_,h,_=>by cases h
 | n+1,t,d,l,cs,fuel,p,h,ht=>by
   unfold flatD at h;generalize hu:P.underlying t=u at h;split at h
   ·obtain⟨hk,h'⟩:=qAR h
    clear h;have:=qIp hk;subst this;cases h';obtain⟨x,e1,e2,_⟩:=DataW.trod_int hu ht;cases e2;rw[e1];rfl
   ·rename_i len e ds
    split at h
    ·rename_i l' h1
     obtain⟨hc,h⟩:=qAR h;cases h;obtain⟨c1,c2⟩:=Bool.and_eq_true_iff.1 hc;have c1:=bE c1;have c2:=bE c2;obtain⟨xs,m,_,e2,e3,e4,e5⟩:=DataW.trod_array hu ht;have hds:ds=xs.map (·.1):=by have:=congrArg Prod.fst e2;injection this
     refine qNt h1 (by rw[e3,<- c2,qLg h1]) λi d' l0 hd hf=>?_;rw[hds,List.getElem?_map]at hd;cases hx:xs[i]? with
     |none=>rw[hx]at hd;cases hd
     | some x=>
       rw[hx]at hd;cases hd;have hin:i<len:=by rw[<- e4];exact(gS hx).1
       have:=e5 i hin;rw[hx]at this;exact qMl n hf this
    ·cases h
   ·rename_i fs ds
    split at h
    ·rename_i l' h1
     obtain⟨hc,h⟩:=qAR h;cases h;have c2:=bE hc;obtain⟨xs,m,_,e2,e3,e4,e5⟩:=DataW.trod_struct hu ht;have hds:ds=xs.map (·.1):=by have:=congrArg Prod.fst e2;injection this
     have:=qLh (cs:=cs) h1 (by rw[e3,c2];omega) λi fd d' l0 hfd hd hf=>by
      rw[hds,List.getElem?_map]at hd;cases hx:xs[i]? with
      |none=>rw[hx]at hd;cases hd
      | some x=>
        rw[hx]at hd;cases hd;have:=e5 i fd (by simpa using hfd);rw[hx]at this;exact qMl n hf this
     simpa using this
    ·cases h
   ·cases h
theorem laid_block{P:Program}{W:World}{name:String}{d:DataW Unit}{g:Nat}{t:TypeId}{n:Nat}{l:List AV}(h:laidMet P [(name,d)] W)(hg:P.globalNamed name=some g)(ht:(P.globals[g]?).map (·.type)=some t)(hf:flatD P n t d=some l):
  ∃elem fr,W.heap[g]?=some (.cells (l.map qJW).toArray elem fr):=by
 obtain⟨ps,⟨g1,t1,cs,fuel,p,q,hg1,ht1,hv,hd,_⟩,_⟩:=h;rw[hg]at hg1;cases hg1;rw[ht]at ht1;cases ht1;have hcs:=qMl n hf hd;simp only[World.var?,hg,Option.bind_some]at hv;split at hv
 ·rename_i cs' elem fr hb
  cases hv;exact⟨elem,fr,by rw[hb,<- hcs]⟩
 ·cases hv
end Go.AM
namespace Go.AM
open Go Go.RowKit Go.ChangeShapes Go.WideShapes Go.ChangeAt
section
variable {s s2:Hq} {v:AV} {l:List AV}
theorem newM{l:List (Hq×Hq)}{elem:TypeId}{cs:List AV}{R:Nat->Hq->Prop}(h:∀b s2,s b=none->add s s2 b=some (false,.cells elem cs)->Upto b s (add s s2)->R b s2):
  newK elem cs (λb s2=>(∀i,s i≠none->cutH l s i=none->s2 i=none)->R b s2) (frz (cutH l s)):=by
 refine qAK λb s2 hb h2 u2 hq=>?_;have hsb:s b=none:=by
  cases e:s b with
  |none=>rfl
  | some x=>
    have:=hq b (by rw[e];simp) (qJF.1 hb);rw[this]at h2;cases h2
 refine h b s2 hsb (by rw[qAn hsb];exact h2) λi hi=>?_;cases e:s i with
 |some x=>rw[qAi e]
 |none=>rw[qAn e,u2 i hi,qJF.2 (qNH e)]
theorem Sl.addf(h:Sl s2 v l)(hs:Sub (frz s) s2):Sl (add s s2) v l:=by
 rcases h with h|⟨b,o,cap,h1,h2,h3⟩
 ·exact .inl h
 ·refine .inr ⟨b,o,cap,h1,h2,λhl=>?_⟩
  obtain⟨t,e,cs,q1,q2⟩:=h3 hl;cases hb:s b with
  |none=>exact⟨t,e,cs,by rw[qAn hb];exact q1,q2⟩
  | some x=>
    obtain⟨t',x⟩:=x;have:=hs b _ (qMP hb);rw[q1]at this;cases this;exact⟨t',e,cs,by rw[qAi hb],q2⟩
theorem Sl.frz(h:Sl s v l):Sl (frz s) v l:=by
 rcases h with h|⟨b,o,cap,h1,h2,h3⟩
 ·exact .inl h
 ·refine .inr ⟨b,o,cap,h1,h2,λhl=>?_⟩
  obtain⟨t,e,cs,q1,q2⟩:=h3 hl;exact⟨true,e,cs,qMP q1,q2⟩
theorem Sl.ne(h:Sl s v l){b:Nat}(hb:s b=none):∀b' o n c,v=.slc b' o n c 1->l≠[]->¬b'=b:=by
 rintro b' o n c rfl hl rfl;rcases h with⟨h,_⟩|⟨b,o,cap,h1,h2,h3⟩
 ·cases h
 ·cases h1
  obtain⟨t,e,cs,q1,q2⟩:=h3 hl;rw[hb]at q1;cases q1
theorem Sl.one{v:AV}{l:List AV}(h:Sl s v l):v.one=true:=by rcases h with⟨rfl,_⟩|⟨b,o,cap,rfl,_⟩<;>rfl
end
end Go.AM
namespace Go.AM
open Go Go.RowKit Go.ChangeShapes Go.WideShapes Go.ChangeAt
def qFI:List AV->List AV->Bool
 |[],[]=>true
 | .bool a::l,.bool b::m=>(a == b)&&qFI l m
 | .int k a::l,.int k' b::m=>qB9 k k'&&(a == b)&&qFI l m
 |_,_=>false
theorem qLG:∀{l m:List AV},qFI l m=true->l=m
 |[],[],_=>rfl
 |[],_::_,h=>by simp[qFI]at h
 |x::l,[],h=>by cases x<;>simp[qFI]at h
 | x::l,y::m,h=>by
   cases x with
   | bool a=>cases y with
     | bool b=>
       simp only[qFI,Bool.and_eq_true]at h;rw[eq_of_beq h.1,qLG h.2]
     |_=>simp[qFI]at h
   | int k a=>cases y with
     | int k' b=>
       simp only[qFI,Bool.and_eq_true]at h;rw[qIp h.1.1,eq_of_beq h.1.2,qLG h.2]
     |_=>simp[qFI]at h
   |_=>cases y<;>simp[qFI]at h
theorem qL1:∀{l:List AV},plainC l=true->qFI l l=true
 |[],_=>rfl
 | x::l,h=>by
   cases x<;>first|(cases h;done)|skip
   all_goals
    have:=qL1 (l:=l) h;simp[qFI,this]
def isV(l0:List AV):AV->Bool
 | .agg l=>qFI l l0
 |_=>false
def qG8(g:Nat)(l0:List AV)(l:List FuncId):Td:=λf=>cond (memN f l) (some λargs=>match args with
 | []=>bd (rd g) λblk=>match blk with
   | .glob g' v=>cond (Nat.beq g g'&&isV l0 v) (ret (.bool true)) fail
   |_=>fail
 |_=>fail) none
theorem qO1(g:Nat)(l0:List AV)(l:List FuncId):FrX (qG8 g l0 l):=by
 intro f h args hh;unfold qG8 at hh;cases hm:memN f l with
 |false=>rw[hm]at hh;cases hh
 | true=>
   rw[hm]at hh;cases hh;cases args with
   | nil=>
     refine qBE (qGi _) λblk=>?_;cases blk<;>first|exact qAd|skip
     simp only;exact qBQ _ (qAp _) qAd
   |cons _ _=>exact qAd
theorem qO2{σ:Nat->Value}{ρ:Ren}:∀{l:List AV}{vs:List Value},plainC l=true->RelL σ ρ l vs->vs=l.map qJW
 |[],vs,_,h=>by unfold RelL at h;rw[h];rfl
 | x::l,vs,hp,h=>by
   unfold RelL at h;obtain⟨y,ys,rfl,h1,h2⟩:=h;cases x<;>first|(cases hp;done)|skip
   all_goals
    unfold Rel at h1;rw[h1,qO2 (l:=l) hp h2];rfl
theorem closedG_ok{P:Program}(hm:P.follows .mixedOrders=true)(hname:noNumB P=true){X:Td}(hX:ExtOK P X){g:Nat}{l0:List AV}(hp:plainC l0=true)(l:List FuncId)(h:∀f∈l,∃n,isTrue (runR P X n (.call f []) (gHeap g (.agg l0)))=true):ExtOK P (qG8 g l0 l):=by
 refine⟨qO1 g l0 l,λf gg hg args H v H' hr σ ρ base w args' hσ hwr hf hra=>?_⟩;unfold qG8 at hg;cases hmem:memN f l with
 |false=>rw[hmem]at hg;cases hg
 | true=>
   rw[hmem]at hg;cases hg;cases args with
   |cons _ _=>exact(qAC (H:=H) hr).elim
   | nil=>
     obtain⟨blk,H1,h1,h2⟩:=qAM hr;cases hb:H.blks.get g with
     |none=>unfold rd at h1;rw[hb]at h1;cases h1
     | some x=>
       unfold rd at h1;rw[hb]at h1;simp only[Option.some.injEq,Prod.mk.injEq]at h1;obtain⟨rfl,rfl⟩:=h1;cases x with
       | glob g' vv=>
         simp only at h2;cases hc:(Nat.beq g g'&&isV l0 vv)with
         |false=>rw[hc]at h2;exact(qAC (H:={ H with log:=(g,false)::H.log }) h2).elim
         | true=>
           rw[hc,cond_true]at h2;cases qAI h2;obtain⟨e1,e2⟩:=Bool.and_eq_true_iff.1 hc;obtain rfl:=bE e1;cases vv with
           | agg l1=>
             obtain rfl:l1=l0:=qLG e2;obtain⟨L,hL,hLg,vs,elem,fr,hw,hrel,_⟩:=hwr.blk g _ hb;obtain rfl:vs=l1.map qJW:=qO2 hp hrel;rw[hLg]at hw;obtain⟨n,hn⟩:=h f (qGo.1 hmem);have ha:args'=#[]:=by unfold RelL at hra;cases args';simp_all
             subst ha;refine callsIn_wide.2 ((qSv (v:=.agg l1) hm hname hX n [] hn hp (λ_=>.bool true) (λ_=>rfl) #[] .nil w hw).mono ?_);rintro e w' ⟨rfl,hbw⟩;have hwr':=qMQ hwr hbw;exact⟨_,ρ,rfl,⟨.refl _ _ _,⟨hwr'.blk,hwr'.own,hwr'.inj,hwr'.base⟩,hbw.mono hwr.base⟩,by unfold Rel;rfl⟩
           |_=>cases e2
       |_=>exact(qAC (H:={ H with log:=(g,false)::H.log }) h2).elim
def memG(v:AV)(B:IB):AH:={ memB B with blks:=(memB B).blks.put 0 (some (.glob 0 v)) }
def zABq(v:AV)(B:IB):Hq:=λi=>match i with
 | 0=>some (true,.glob 0 v)
 |i+1=>qKJ B (i+1)
theorem qMc(v:AV)(B:IB)(i:Nat):(memG v B).blks.get i=if 0=i then some (.glob 0 v)else(memB B).blks.get i:=by show((memB B).blks.put 0 (some (.glob 0 v))).get i=_;rw[Tr.get_put]
theorem qWv(v:AV)(B:IB):Sub (qKJ B) (zABq v B):=λi e h=>by
 cases i with
 |zero=>cases h
 |succ i=>exact h
theorem zADM(v:AV)(B:IB){σ:Nat->Value}{W:World}(h:VB σ B W):HRel (zABq v B) (memG v B):=by
 have hb:=zAAa B h;refine⟨hb.lo,λi hi=>?_,λi t b hi=>?_⟩
 ·rw[qMc]at hi
  split at hi
  ·rename_i e;subst e;show 0<B.length+1;omega
  ·exact hb.wf i hi
 ·cases i with
  | zero=>
    cases hi;exact⟨λe=>(by cases e),.glob 0 v,by rw[qMc,if_pos rfl],rfl,rfl⟩
  | succ i=>
    obtain⟨h1,ab,h2,h3⟩:=hb.at_ (i+1) t b hi;exact⟨h1,ab,by rw[qMc,if_neg (by omega)];exact h2,h3⟩
theorem zAAz(v:AV)(B:IB){σ:Nat->Value}{W:World}(h:VB σ B W)(hp:plainC v.cells=true){elem:TypeId}{fr:Nat×Nat}(hw:W.heap[0]?=some (.cells (v.cells.map qJW).toArray elem fr)):WR σ (rhoB B) W.heap.size (memG v B) W:=by
 have hb:=zABK B h;obtain⟨r1,r2⟩:=qLW (σ:=σ) (ρ:=rhoB B) hp;have get:∀i b,(memG v B).blks.get i=some b->(i=0/\b=.glob 0 v)∨(memB B).blks.get i=some b:=by
  intro i b hi;rw[qMc]at hi;split at hi
  ·rename_i e;cases hi;exact .inl ⟨e.symm,rfl⟩
  ·exact .inr hi
 have lo0:¬(memG v B).lo<=0:=by show ¬B.length+1<=0;omega
 refine⟨λi b hi=>?_,λi b L hi hL hl=>?_,λi j bi bj Li Lj hi hj hLi hLj hl hij=>?_,hb.base⟩
 ·rcases get i b hi with⟨rfl,rfl⟩|hi
  ·exact⟨⟨0,0,0⟩,rfl,rfl,_,elem,fr,hw,r1,r2⟩
  ·exact hb.blk i b hi
 ·rcases get i b hi with⟨rfl,rfl⟩|hi
  ·exact absurd hl lo0
  ·exact hb.own i b L hi hL hl
 ·rcases get i bi hi with⟨rfl,rfl⟩|hi
  ·exact absurd hl lo0
  ·exfalso
   obtain⟨L,_,hbr⟩:=hb.blk i bi hi;have:i<B.length+1:=(zAAa B h).wf i (by rw[hi];simp);have hl':B.length+1<=i:=hl;omega
theorem ArgL.sub{P:Program}{s s':Hq}(hs:Sub s s'){d:Nat}:∀{ts:List TypeId}{xs:List AV},ArgL P s d ts xs->ArgL P s' d ts xs
 |[],[],_=>trivial
 |[],_::_,h=>h.elim
 |_::_,[],h=>h.elim
 |_::_,_::_,⟨h1,h2⟩=>⟨Arg.sub hs h1,ArgL.sub hs h2⟩
theorem law_of_wpG{H:Type}{enc:TypeId×Value->H}{P:Program}{X:Td}(hm:P.follows .mixedOrders=true)(hname:noNumB P=true)(hX:ExtOK P X){f:FuncId}{ts:List TypeId}(d:Nat)(hp:(ts.all λt=>plainT P d t)=true){g:AV}(hgp:plainC g.cells=true)
  (h:∀(s:Hq) (xs:List AV),s 0=some (true,.glob 0 g)->ArgL P s d ts xs->wC P X f xs (λv _=>v=.bool true) s) {W:World}{elem:TypeId}{fr:Nat×Nat}(hw:W.heap[0]?=some (.cells (g.cells.map qJW).toArray elem fr)) {base:Nat}{args:Array Value}{ds:List (DataW H)}{ps:List MemPlace}
  (hA:DataW.TrodAll enc P W 0 (λ_=>true) true ts args.toList ds ps) (hv:∀(j:Nat) t v,ts[j]?=some t->args[j]?=some v->Value.okWide P W .any base t v) :
  Calls P f args W λe W'=>e=.returned (.bool true)/\Below W.heap.size W W':=by
 have hσ:One (λ_=>Value.bool true):=λ_=>rfl;obtain⟨xs,C,h1,h2,h3⟩:=qQH (W:=W) hσ d base ts args.toList ds ps [] (λi x hx=>by simp at hx) hp hA λj t v hj hj'=>hv j t v hj (by simpa using hj');rw[List.nil_append]at h1 h2 h3;obtain⟨n,o,H',hrun,s',_,_,v,rfl,rfl⟩:=h (zABq g C) xs rfl (h3.sub (qWv g C)) (memG g C) (zADM g C h1);refine(qLr hm (noNum_of hname) hX hrun _ hσ (rhoB C) W (zAAz g C h1 hgp hw) (λid hlo _=>?_) args h2).mono ?_
 ·cases id with
  |zero=>exact absurd hlo (by show ¬C.length+1<=0;omega)
  | succ i=>
    have:C.length+1<=i+1:=hlo;unfold rhoB;simp only;rw[List.getElem?_eq_none (by omega)]
 ·rintro e W' ⟨v',ρ',rfl,hr,_,hb⟩
  unfold Rel at hr;subst hr;exact⟨rfl,hb⟩
end Go.AM
namespace Go.AM
open Go
variable {P:Program} {X:Td} {A:Nat→List Nat}
def setE:Env->List Tmp->List AV->Env
 |e,p::ps,v::vs=>setE (upd e p v) ps vs
 |e,_,_=>e
def qO7(l:Nat)(K:Hq->Prop)(s:Hq):Prop:=match s l with
 |some (false,.loop .ready pd nt keep ps as bo d)=>K (hset s l (false,.loop .busy pd nt keep ps as bo d))
 |_=>False
def endK(l:Nat)(e:AExit)(K:AV->Hq->Prop)(s:Hq):Prop:=match s l with
 | some (false,.loop _ _ nt keep ps as bo d)=>(match e with
   | .nrm=>K (.bool true) (hset s l (false,.loop .ready none nt keep ps as bo d))
   | .ret=>K (.bool false) (hset s l (false,.loop .done (some .ret) nt keep ps as bo d))
   | .exit id=>K (.bool false) (hset s l (false,.loop .done (some (.exit id)) nt keep ps as bo d)))
 |_=>False
theorem qL3{nt:Nat}:∀(ps:List Tmp) (vs:List AV) (T:Tmps) (env:Env),TR T env->ps.length=vs.length->(ps.all λp=>Nat.blt p nt)=true->∃T',qEk nt T ps vs=some T'/\TR T' (setE env ps vs)
 |[],[],T,env,hT,_,_=>⟨T,rfl,hT⟩
 |[],_::_,_,_,_,h,_=>by cases h
 |_::_,[],_,_,_,h,_=>by cases h
 | p::ps,v::vs,T,env,hT,hl,hp=>by
   simp only[List.all_cons,Bool.and_eq_true]at hp;have hT':TR (T.put p (some v)) (upd env p v):=λi=>by
    unfold tget upd;rw[Tr.get_put]
    by_cases e:p=i
    ·subst e;simp
    ·have:Nat.beq i p=false:=by
      cases hq:Nat.beq i p with
      |false=>rfl
      |true=>exact absurd (bE hq).symm e
     rw[if_neg e,this];exact hT i
   obtain⟨T',h1,h2⟩:=qL3 ps vs _ _ hT' (by simpa using hl) hp.2;exact⟨T',by simp only[qEk,hp.1,cond_true];exact h1,h2⟩
theorem qS3{l:Nat}{e:AExit}{K:AV->Hq->Prop}{s:Hq}(h:endK l e K s):wpF (λ_=>qEx l e) (λo s'=>∃v,o=.val v/\K v s') s:=by
 unfold endK at h;split at h
 ·rename_i st pd nt keep ps as bo d hs
  unfold qEx;refine wpF.bd (.const _) (λ_=>.const _) (wpF.rd hs λab hab=>?_);cases ab with
  | loop st' pd' nt' T' ps' as' bo' d'=>
    obtain⟨_,_,rfl,hk,rfl,rfl,rfl,rfl⟩:=hab;cases e with
    |nrm=>exact wpF.bd (.const _) (λ_=>.const _) (wpF.wr hs (x:=.loop .ready none nt keep ps as bo d) ⟨rfl,rfl,rfl,hk,rfl,rfl,rfl,rfl⟩ (wpF.ret ⟨_,rfl,h⟩))
    |ret=>exact wpF.bd (.const _) (λ_=>.const _) (wpF.wr hs (x:=.loop .done (some .ret) nt keep ps as bo d) ⟨rfl,rfl,rfl,hk,rfl,rfl,rfl,rfl⟩ (wpF.ret ⟨_,rfl,h⟩))
    |exit id=>exact wpF.bd (.const _) (λ_=>.const _) (wpF.wr hs (x:=.loop .done (some (.exit id)) nt keep ps as bo d) ⟨rfl,rfl,rfl,hk,rfl,rfl,rfl,rfl⟩ (wpF.ret ⟨_,rfl,h⟩))
  |_=>exact hab.elim
 ·exact h.elim
theorem qZN{l:Nat}{K:Hq->Prop}{s:Hq}(h:qO7 l K s):wpF (λ_=>qLj l) (λ_ s'=>K s') s:=by
 unfold qO7 at h;split at h
 ·rename_i pd nt keep ps as bo d hs
  unfold qLj;refine wpF.bd (.const _) (λ_=>.const _) (wpF.rd hs λab hab=>?_);cases ab with
  | loop st' pd' nt' T' ps' as' bo' d'=>
    obtain⟨rfl,rfl,rfl,hk,rfl,rfl,rfl,rfl⟩:=hab;exact wpF.wr hs (x:=.loop .busy pd nt keep ps as bo d) ⟨rfl,rfl,rfl,hk,rfl,rfl,rfl,rfl⟩ h
  |_=>exact hab.elim
 ·exact h.elim
theorem qU4(hX:FrX X)(A:Nat->List Nat){l:Nat}{args:List AV}{K:AV->Hq->Prop}{s:Hq}{t:Bool}{st:LoopState}{pd:Option Code}{nt:Nat}{keep:List (Nat×AV)}{ps:List Tmp}{as bo:Code}{d:Nat}
  (hs:s l=some (t,.loop st pd nt keep ps as bo d)) (hl:ps.length=args.length) (hnt:(ps.all λp=>Nat.blt p nt)=true)
  (h:∀f:Env,(∀p∈keep,f p.1=p.2)->wpC P X A nt (some l) as (setE f ps args) (λe env s=>e=.nrm/\qO7 l (λs=>wpC P X A nt (some l) bo env (λe _ s=>endK l e K s) s) s) s):qMy P X l args K s:=by
 unfold qMy wpT;refine wpF.succ (m:=λn=>qFZ (run P X n) l args) ?_ (λ_=>rfl);unfold qFZ;have monoE:∀(o:Out),Mono λn=>(match o with
     | .exit e _ _=>qEx l e
     |_=>fail:M Out):=λo=>.const _
 have mono2:∀(o:Out),Mono λn=>(match o with
   | .exit .nrm T []=>bd (qLj l) λ_=>bd (run P X n (.code nt (some l) bo T [])) λo=>match o with
     | .exit e _ _=>qEx l e
     |_=>fail
   |_=>fail:M Out):=λo=>qBw λn=>by
  split
  ·exact LeM.bd (LeM.refl _) λ_=>LeM.bd (qC4 n _) λ_=>LeM.refl _
  ·exact LeM.refl _
 refine wpF.bd (m:=λ_=>rd l) (.const _) (λblk=>qBw λn=>?_) (wpF.rd hs λab hab=>?_)
 ·split
  ·split
   ·exact LeM.bd (qC4 n _) λo=>by
     split
     ·exact LeM.bd (LeM.refl _) λ_=>LeM.bd (qC4 n _) λ_=>LeM.refl _
     ·exact LeM.refl _
   ·exact LeM.refl _
  ·exact LeM.refl _
 cases ab with
 | loop st' pd' nt' T' ps' as' bo' d'=>
   obtain⟨rfl,rfl,rfl,hk,rfl,rfl,rfl,rfl⟩:=hab;obtain⟨T1,h1,h2⟩:=qL3 (nt:=nt) ps args T' (tget T') (λ_=>rfl) hl hnt;simp only[h1];have e0:∀s:Hq,add s (mkH [])=s:=λs=>by funext i;unfold add mkH;cases s i<;>simp
   have hc:=qGY (P:=P) (A:=A) (nt:=nt) (rnd:=some l) hX as _ _ s (h (tget T') hk) T1 [] h2 (by simp) List.nodup_nil;rw[e0]at hc;refine wpF.bd (m:=λn=>run P X n (.code nt (some l) as T1 [])) (qCq _) mono2 (hc.mono ?_);rintro o S ⟨e,T2,env2,ms2,s2,rfl,q1,rfl,q2,q3,_,q5,rfl,q6⟩;obtain rfl:=q5 (by simp);simp only[List.append_nil,mkm,List.map_nil];rw[e0];refine wpF.bd (m:=λ_=>qLj l) (.const _) (λ_=>qR6 (qCq _) λo=>monoE o) ((qZN q6).mono λ_ s3 h3=>?_);have hc2:=qGY (P:=P) (A:=A) (nt:=nt) (rnd:=some l) hX bo _ _ s3 h3 T2 [] q1 (by simp) List.nodup_nil;rw[e0]at hc2;refine wpF.bd (m:=λn=>run P X n (.code nt (some l) bo T2 [])) (qCq _) monoE (hc2.mono ?_);rintro o S ⟨e,T4,env4,ms4,s4,rfl,p1,rfl,p2,p3,_,p5,p6⟩;obtain rfl:=p5 (by simp);simp only[List.append_nil];rw[e0];exact qS3 p6
 |_=>exact hab.elim
def qOQ:Code->List (Array Tmp×Code×Code)
 | .seq a b=>qOQ a++qOQ b
 | .cond _ a b=>qOQ a++qOQ b
 | .block _ b=>qOQ b
 | .loop b=>qOQ b
 | .rangeFunc _ ps as bo=>(ps,as,bo)::(qOQ as++qOQ bo)
 |_=>[]
def rfAs(j:Nat)(c:Code):Code:=match (qOQ c)[j]? with
 |some (_,as,_)=>as
 |none=>.skip
def rfBo(j:Nat)(c:Code):Code:=match (qOQ c)[j]? with
 |some (_,_,bo)=>bo
 |none=>.skip
end Go.AM
namespace Go.AM
open Go
def SlR(es:Nat)(s:Hq)(v:AV)(rows:List (List AV)):Prop:=(∀r∈rows,r.length=es)/\((v=.nilslc/\rows=[])∨∃b o cap,v=.slc b o rows.length cap es/\(∀c,cap=some c->rows.length<=c)/\
 (rows≠[]->∃t e cs,s b=some (t,.cells e cs)/\o+rows.length*es<=cs.length/\(cs.drop o).take (rows.length*es)=rows.flatten))
theorem qJI{es:Nat}:∀{rows:List (List AV)},(∀r∈rows,r.length=es)->rows.flatten.length=rows.length*es
 |[],_=>by simp
 | r::rows,h=>by
   rw[List.flatten_cons,lAp,qJI λq hq=>h q (by simp[hq]),h r (by simp),List.length_cons,Nat.succ_mul,Nat.add_comm]
theorem qTU{es:Nat}:∀{rows:List (List AV)}{i:Nat}{r:List AV},(∀r∈rows,r.length=es)->rows[i]?=some r->(rows.flatten.drop (i*es)).take es=r
 |[],_,_,_,h=>by simp at h
 | q::rows,0,r,hl,h=>by
   simp only[g0Y,Option.some.injEq]at h;subst h;have:=hl q (by simp);rw[Nat.zero_mul,List.drop_zero,List.flatten_cons,List.take_append_of_le_length (by omega),List.take_of_length_le (by omega)]
 | q::rows,i+1,r,hl,h=>by
   have hq:=hl q (by simp);have e1:(i+1)*es=i*es+es:=Nat.succ_mul _ _;rw[List.flatten_cons,List.drop_append,List.drop_eq_nil_of_le (by omega),List.nil_append,hq,e1,Nat.add_sub_cancel];exact qTU (λr hr=>hl r (by simp[hr])) (by simpa using h)
variable {s s':Hq} {v:AV} {rows:List (List AV)} {es:Nat}
theorem SlR.len(h:SlR es s v rows):qAP v=some rows.length:=by
 rcases h.2 with⟨rfl,rfl⟩|⟨b,o,cap,rfl,_⟩
 ·rfl
 ·rfl
theorem SlR.one(h:SlR es s v rows):v.one=true:=by rcases h.2 with⟨rfl,_⟩|⟨b,o,cap,rfl,_⟩<;>rfl
theorem SlR.get(h:SlR es s v rows){i:Nat}{r:List AV}(hi:rows[i]?=some r):∃b o,qAH es v (.int .i64 (i:Int))=some (.ptr b o)/\rdN s es (.ptr b o)=some r/\∀j,j<es->rd1 s (.ptr b (o+j))=r[j]?:=by
 have hlt:=(gS hi).1;obtain⟨hl,h⟩:=h;rcases h with⟨rfl,rfl⟩|⟨b,o,cap,rfl,_,h⟩
 ·simp at hlt
 ·obtain⟨t,e,cs,h1,h2,h3⟩:=h (by rintro rfl;simp at hlt)
  have e1:Nat.blt i rows.length=true:=by rw[Nat.blt_eq];exact hlt
  have e2:(i+1)*es<=rows.length*es:=Nat.mul_le_mul_right _ hlt;rw[Nat.succ_mul]at e2;have row:(cs.drop (o+i*es)).take es=r:=by rw[<- qTU hl hi,<- h3,List.drop_take,List.take_take,List.drop_drop,Nat.min_eq_left (by omega)]
  refine⟨b,o+i*es,by simp[qAH,e1],?_,λj hj=>?_⟩
  ·have e3:Nat.ble (o+i*es+es) cs.length=true:=bL (by omega)
   simp only[rdN,h1,qIm,e3,cond_true,row]
  ·rw[qAL h1,<- row,List.getElem?_take,if_pos hj,List.getElem?_drop]
theorem SlR.rd(h:SlR es s v rows):rdSl s es v=some rows.flatten:=by
 obtain⟨hl,h⟩:=h;rcases h with⟨rfl,rfl⟩|⟨b,o,cap,rfl,_,h⟩
 ·rfl
 ·simp only[rdSl,Nat.beq_refl,cond_true]
  cases hz:Nat.beq (rows.length*es) 0 with
  | true=>
    rw[cond_true];have:=qJI hl;rw[bE hz]at this;rw[List.eq_nil_of_length_eq_zero this]
  | false=>
    rw[cond_false];obtain⟨t,e,cs,h1,h2,h3⟩:=h (by rintro rfl;simp at hz);have e2:Nat.ble (o+rows.length*es) cs.length=true:=bL h2;simp only[h1,qIm,e2,cond_true,h3]
theorem SlR.sub(h:SlR es s v rows)(hs:Sub s s'):SlR es s' v rows:=by
 refine⟨h.1,?_⟩;rcases h.2 with h|⟨b,o,cap,h1,h2,h3⟩
 ·exact .inl h
 ·refine .inr ⟨b,o,cap,h1,h2,λhl=>?_⟩
  obtain⟨t,e,cs,q1,q2⟩:=h3 hl;exact⟨t,e,cs,hs _ _ q1,q2⟩
theorem SlR.frz(h:SlR es s v rows):SlR es (frz s) v rows:=by
 refine⟨h.1,?_⟩;rcases h.2 with h|⟨b,o,cap,h1,h2,h3⟩
 ·exact .inl h
 ·refine .inr ⟨b,o,cap,h1,h2,λhl=>?_⟩
  obtain⟨t,e,cs,q1,q2⟩:=h3 hl;exact⟨true,e,cs,qMP q1,q2⟩
theorem SlR.keep{fp:Nat->Prop}(h:SlR es s v rows)(hs:qAf fp s s')(hn:∀b o n c,v=.slc b o n c es->rows≠[]->¬fp b):SlR es s' v rows:=by
 refine⟨h.1,?_⟩;rcases h.2 with h|⟨b,o,cap,h1,h2,h3⟩
 ·exact .inl h
 ·refine .inr ⟨b,o,cap,h1,h2,λhl=>?_⟩
  obtain⟨t,e,cs,q1,q2⟩:=h3 hl;exact⟨t,e,cs,hs _ _ q1 (hn b o _ cap h1 hl),q2⟩
theorem SlR.mk{b:Nat}{t:Bool}{e:TypeId}{n:Nat}{cap:Option Nat}(hl:∀r∈rows,r.length=es)(h:s b=some (t,.cells e rows.flatten))(hn:n=rows.length)(hc:∀c,cap=some c->rows.length<=c):SlR es s (.slc b 0 n cap es) rows:=by subst hn;refine⟨hl,.inr ⟨b,0,cap,rfl,hc,λ_=>⟨t,e,_,h,by rw[qJI hl];omega,?_⟩⟩⟩;rw[List.drop_zero,<- qJI hl,List.take_of_length_le (Nat.le_refl _)]
theorem SlR.empty{b o:Nat}{c:Nat}:SlR es s (.slc b o 0 (some c) es) []:=⟨by simp,.inr ⟨b,o,some c,rfl,by simp,λh=>absurd rfl h⟩⟩
theorem SlR.drop(h:SlR es s v rows){k:Nat}(hk:k<=rows.length)(hne:rows≠[]):∃v',qCM es v (some (.int .i64 (k:Int))) none none=some v'/\SlR es s v' (rows.drop k)/\∀b o n c,v'=.slc b o n c es->∃o n c,v=.slc b o n c es:=by
 obtain⟨hl,h⟩:=h;rcases h with⟨rfl,rfl⟩|⟨b,o,cap,rfl,hc,h⟩
 ·exact absurd rfl hne
 ·obtain⟨t,e,cs,h1,h2,h3⟩:=h hne
  have hrow:∀r∈rows.drop k,r.length=es:=λr hr=>hl r (List.mem_of_mem_drop hr);have hlen:(rows.drop k).length=rows.length-k:=List.length_drop;have data:rows.drop k≠[]->∃t e cs,s b=some (t,.cells e cs)/\o+k*es+(rows.drop k).length*es<=cs.length/\(cs.drop (o+k*es)).take ((rows.drop k).length*es)=(rows.drop k).flatten:=λ_=>by
   have e2:k*es+(rows.length-k)*es=rows.length*es:=by rw[<- Nat.add_mul];congr 1;omega
   refine⟨t,e,cs,h1,by rw[hlen];omega,?_⟩;have e3:rows.flatten.drop (k*es)=(rows.drop k).flatten:=by
    have:rows.flatten=(rows.take k).flatten++(rows.drop k).flatten:=by rw[<- List.flatten_append,List.take_append_drop]
    have hk2:(rows.take k).flatten.length=k*es:=by rw[qJI λr hr=>hl r (List.mem_of_mem_take hr),List.length_take,Nat.min_eq_left hk]
    rw[this,<- hk2,List.drop_left]
   rw[<- e3,<- h3,List.drop_take,List.drop_drop,hlen]
   congr 1
   omega
  have b1:bound (some (.int .i64 (k:Int))) 0 rows.length=some k:=by simp[bound,bL hk]
  cases cap with
  | none=>
    refine⟨.slc b (o+k*es) (rows.length-k) none es,?_,⟨hrow,.inr ⟨b,o+k*es,none,by rw[hlen],by simp,data⟩⟩,λb' o' n' c' e=>by cases e;exact⟨_,_,_,rfl⟩⟩;simp[qCM,bound,bL hk]
  | some c=>
    have hc':=hc c rfl;refine⟨.slc b (o+k*es) (rows.length-k) (some (c-k)) es,?_,⟨hrow,.inr ⟨b,o+k*es,some (c-k),by rw[hlen],λd hd=>by cases hd;rw[hlen];omega,data⟩⟩,λb' o' n' c' e=>by cases e;exact⟨_,_,_,rfl⟩⟩;simp[qCM,bound,bL hk,bL hc']
end Go.AM
namespace Go.AM
open Go
variable {s s':Hq} {v:AV} {rows:List (List AV)} {es:Nat}
theorem SlR.take(h:SlR es s v rows){k:Nat}(hk:k<=rows.length)(hne:rows≠[]):∃v',qCM es v none (some (.int .i64 (k:Int))) none=some v'/\SlR es s v' (rows.take k)/\∀b o n c,v'=.slc b o n c es->∃o n c,v=.slc b o n c es:=by
 obtain⟨hl,h⟩:=h;rcases h with⟨rfl,rfl⟩|⟨b,o,cap,rfl,hc,h⟩
 ·exact absurd rfl hne
 ·obtain⟨t,e,cs,h1,h2,h3⟩:=h hne
  have hrow:∀r∈rows.take k,r.length=es:=λr hr=>hl r (List.mem_of_mem_take hr);have hlen:(rows.take k).length=k:=by rw[List.length_take,Nat.min_eq_left hk]
  have e2:k*es<=rows.length*es:=Nat.mul_le_mul_right _ hk;have data:rows.take k≠[]->∃t e cs,s b=some (t,.cells e cs)/\o+(rows.take k).length*es<=cs.length/\(cs.drop o).take ((rows.take k).length*es)=(rows.take k).flatten:=λ_=>by
   refine⟨t,e,cs,h1,by rw[hlen];omega,?_⟩;have e3:rows.flatten.take (k*es)=(rows.take k).flatten:=by
    have:rows.flatten=(rows.take k).flatten++(rows.drop k).flatten:=by rw[<- List.flatten_append,List.take_append_drop]
    have hk2:(rows.take k).flatten.length=k*es:=by rw[qJI hrow,hlen]
    rw[this,<- hk2,List.take_left]
   rw[<- e3,<- h3,List.take_take,hlen,Nat.min_eq_left e2]
  cases cap with
  | none=>
    refine⟨.slc b o k none es,?_,⟨hrow,.inr ⟨b,o,none,by rw[hlen],by simp,data⟩⟩,λb' o' n' c' e=>by cases e;exact⟨_,_,_,rfl⟩⟩;simp[qCM,bound,bL hk]
  | some c=>
    have hc':=hc c rfl;refine⟨.slc b o k (some c) es,?_,⟨hrow,.inr ⟨b,o,some c,by rw[hlen],λd hd=>by cases hd;rw[hlen];omega,data⟩⟩,λb' o' n' c' e=>by cases e;exact⟨_,_,_,rfl⟩⟩;simp[qCM,bound,bL (Nat.le_trans hk hc')]
def AccR(elem:TypeId)(es:Nat)(s0 s:Hq)(v:AV)(rows:List (List AV)):Prop:=(∀r∈rows,r.length=es)/\((v=.nilslc/\rows=[])∨∃b,s0 b=none/\v=.slc b 0 rows.length none es/\s b=some (false,.cells elem rows.flatten))
theorem AccR.sl{elem:TypeId}{s0:Hq}(h:AccR elem es s0 s v rows):SlR es s v rows:=by
 obtain⟨hl,h⟩:=h;rcases h with h|⟨b,_,rfl,h⟩
 ·exact⟨hl,.inl h⟩
 ·exact SlR.mk hl h rfl (by simp)
theorem AccR.sub{elem:TypeId}{s0 s s':Hq}(h:AccR elem es s0 s v rows)(hs:Sub s s'):AccR elem es s0 s' v rows:=by
 obtain⟨hl,h⟩:=h;rcases h with h|⟨b,h0,rfl,h⟩
 ·exact⟨hl,.inl h⟩
 ·exact⟨hl,.inr ⟨b,h0,rfl,hs _ _ h⟩⟩
theorem AccR.app{elem:TypeId}{s0:Hq}{y:AV}{m:List (List AV)}{K:AV->Hq->Prop}(h:AccR elem es s0 s v rows)(hy:SlR es s y m)(hm:m≠[])(hl:rows.length+m.length<=16777216)(hdom:Sub s0 s)
  (hK:∀v' s',AccR elem es s0 s' v' (rows++m)->Sub s0 s'->K v' s'):appK elem es v y K s:=by
 obtain⟨k,hk⟩:∃k,m.length=k+1:=by cases m with|nil=>exact absurd rfl hm|cons a r=>exact⟨r.length,rfl⟩
 refine qAD hy.rd (qAD hy.len ?_);obtain⟨hrow,h⟩:=h;have hrow2:∀r∈rows++m,r.length=es:=λr hr=>by rcases mP hr with hr|hr;exact hrow r hr;exact hy.1 r hr
 rcases h with⟨rfl,rfl⟩|⟨b,hb0,rfl,hb⟩
 ·simp only
  rw[hk];refine⟨by simp at hl;omega,qAK λc s1 hc h1 u1=>hK _ _ ⟨hrow2,.inr ⟨c,?_,by simp[hk],by simpa using h1⟩⟩ (hdom.trans (u1.sub hc))⟩;cases q:s0 c with
  |none=>rfl
  |some x=>rw[hdom c x q]at hc;cases hc
 ·refine⟨rfl,?_⟩
  simp only;rw[hk];simp only;refine qAD (SlR.rd (SlR.mk hrow hb rfl (by simp))) ?_;unfold qT6;rw[hb];have hdel0:Sub s0 (hdel s b):=λi e hi=>by have hib:i≠b:=qDG hb0 hi;rw[<- hdom i e hi];exact if_neg hib
  refine⟨rfl,by omega,qAK λc s1 hc h1 u1=>hK _ _ ⟨hrow2,.inr ⟨c,?_,by simp[hk],by simpa using h1⟩⟩ (hdel0.trans (u1.sub hc))⟩;cases q:s0 c with
  |none=>rfl
  |some x=>rw[hdel0 c x q]at hc;cases hc
theorem qPQ{elem:TypeId}{s0:Hq}{y:AV}{m:List (List AV)}{K:AV->Hq->Prop}(h:(rows=[]/\∃b,v=.slc b 0 0 (some 0) es)∨AccR elem es s0 s v rows)(hy:SlR es s y m)(hl:rows.length+m.length<=16777216)(hdom:Sub s0 s)
  (hK:∀v' s',((rows++m=[]/\∃b,v'=.slc b 0 0 (some 0) es)∨AccR elem es s0 s' v' (rows++m))->Sub s0 s'->K v' s'):appK elem es v y K s:=by
 cases m with
 | nil=>
   refine qAD hy.rd (qAD hy.len ?_);rw[List.append_nil]at hK;rcases h with⟨rfl,b,rfl⟩|h
   ·exact⟨rfl,Nat.le_refl _,hK _ _ (.inl ⟨rfl,b,rfl⟩) hdom⟩
   ·have hk:=hK v s (.inr h) hdom
    obtain⟨_,h⟩:=h;rcases h with⟨rfl,rfl⟩|⟨b,_,rfl,_⟩
    ·exact hk
    ·exact⟨rfl,trivial,hk⟩
 | cons x r=>
   rcases h with⟨rfl,b,rfl⟩|h
   ·refine qAD hy.rd (qAD hy.len ⟨rfl,?_⟩)
    have e0:Nat.ble (0+(r.length+1)) 0=false:=by rw[zA];rfl
    simp only[List.length_cons,e0,cond_false];have hx:rdSl s es (.slc b 0 0 (some 0) es)=some []:=by simp[rdSl]
    refine qAD hx ⟨by simp at hl;omega,qAK λc s1 hc h1 u1=>hK _ _ (.inr ⟨by simpa using hy.1,.inr ⟨c,?_,by simp,by simpa using h1⟩⟩) (hdom.trans (u1.sub hc))⟩;cases q:s0 c with
    |none=>rfl
    |some x=>rw[hdom c x q]at hc;cases hc
   ·exact h.app hy (by simp) hl hdom λv' s' a b=>hK v' s' (.inr a) b
end Go.AM
namespace Go.AM
open Go
def qXt:Code->Option (List Oper×List Oper×Call)
 | .region _ ops false=>match qBg ops.toList with
   |some p=>some (ops.toList,p.1,p.2)
   |none=>none
 |_=>none
def qXw(c:Call):Option Operand:=match c.callee with
 | .value f=>cond (c.args.toList.isEmpty&&okX f) (some f) none
 |_=>none
end Go.AM
namespace Go.AM
open Go
variable {P:Program} {X:Td}
theorem wC.frame(hX:FrX X){f:FuncId}{args:List AV}{K:AV->Hq->Prop}{r s:Hq}(hsub:Sub r s)
  (h:wC P X f args (λv s1=>(∀i,s i≠none->r i=none->s1 i=none)->K v (add s1 (rest s r))) r):wC P X f args K s:=by
 intro H hH;obtain⟨n,o,H1,s1,es,h1,h2,h3,h4,d,kno,out⟩:=wpF.framed (λn=>qEl P hX n (.call f args)) h (hH.sub hsub);obtain⟨v,rfl,hK⟩:=h4;have hout:∀i,s i≠none->r i=none->s1 i=none:=λi hi hr=>(out i hr (hH.lt hi)).1;refine⟨n,.val v,H1,h1,add s1 (rest s r),?_,?_,v,rfl,hK hout⟩
 ·refine⟨h2.lo,h2.wf,λid t b hid=>?_⟩
  cases q:s1 id with
  | some x=>
    rw[qAi q]at hid;exact h2.at_ id t b (by rw[q];exact hid)
  | none=>
    rw[qAn q]at hid;unfold rest at hid;split at hid
    ·rename_i e
     obtain⟨k1,k2⟩:=hH.at_ id t b hid;have hlt:=hH.lt (i:=id) (by rw[hid];exact Option.some_ne_none _);rw[d.lo,(out id e hlt).2];exact⟨k1,k2⟩
    ·cases hid
 ·intro id b hid
  cases q:r id with
  | some x=>
    have e1:=hsub id x q;rw[hid]at e1;cases e1;exact qAi (h3 id b q)
  | none=>
    have hlt:=hH.lt (i:=id) (by rw[hid];exact Option.some_ne_none _);rw[qAn (out id q hlt).1];unfold rest;rw[if_pos q];exact hid
theorem wC.part(hX:FrX X){f:FuncId}{args:List AV}{K:AV->Hq->Prop}{r s:Hq}(hsub:Sub r s)
  (h:wC P X f args (λv s1=>∀s',Sub s1 s'->(∀i,r i=none->s i≠none->s' i=s i/\s1 i=none)->K v s') r):wC P X f args K s:=by
 refine wC.frame hX hsub (wpF.mono h λo s1 ⟨v,e,hv⟩=>⟨v,e,λhout=>hv _ qJt λi hr hi=>?_⟩);have:=hout i hi hr;refine⟨?_,this⟩;rw[qAn this];unfold rest;rw[if_pos hr]
end Go.AM
namespace Go.AM
open Go
variable {P:Program} {X:Td} {A:Nat→List Nat} {nt:Nat} {rnd:Option Nat}
def qZf(P:Program)(X:Td)(k:FuncId)(args:List AV)(Q:Hq->Prop)(s:Hq):Prop:=wpF (λn=>qJl P (run P X n) k args) (λ_ s=>Q s) s
def runK(P:Program)(X:Td)(v:AV)(Q:Hq->Prop)(s:Hq):Prop:=match v with
 | .fn (.func k) first cap=>qZf P X k (first++cap) Q s
 |_=>False
def qV6(P:Program)(v:AV):Prop:=match v with
 | .fn (.func k) _ _=>isFn P k=true
 |_=>False
def qQr(c:Code):Code:=match qHW c with
 |some (_,r)=>r
 |none=>.skip
def qTB(c:Code)(env:Env):Env:=match qHW c with
 |some (t,_)=>upd env t .nilIface
 |none=>env
def qYr(c:Code)(nt:Nat):Bool:=match qHW c with
 |some (t,r)=>noRF r&&Nat.blt t nt
 |none=>false
theorem qVI(hX:FrX X)(A:Nat->List Nat){k:FuncId}{fn:Func}{c:Code}(hf:P.funcs[k]?=some fn)(hb:fn.body=some c)(hr:fn.results.toList=[])(hc:qYr c fn.ntmps=true){args:List AV}(hl:Nat.ble args.length fn.ntmps=true){K:AV->Hq->Prop}{s:Hq}
  (h:wpC P X A fn.ntmps none (qQr c) (qTB c (qJU args)) (λe env s=>retK e (resK P fn.results.toList env (λvs=>K (oneV vs) s) s)) s):qZf P X k args (λs=>K (.tup []) s) s:=by
 unfold qYr at hc;unfold qQr qTB at h;cases hq:qHW c with
 |none=>rw[hq]at hc;cases hc
 |some p=>
 obtain⟨t,r⟩:=p;rw[hq]at hc h;simp only at hc h;obtain⟨hno,hlt⟩:=Bool.and_eq_true_iff.1 hc;rw[hr]at h;unfold qZf qJl;simp only[hf,hb,hr];refine wpF.cond hl ?_;have hd:qN6 fn (Tr.ofListAt .nil 0 args) c=some (r,(Tr.ofListAt .nil 0 args).put t (some .nilIface)):=by unfold qN6;rw[hq];simp only[hlt,cond_true]
 rw[hd];simp only;have hT:=qOc (qKC args) t .nilIface;have e0:∀s:Hq,add s (mkH [])=s:=λs=>by funext i;unfold add mkH;cases s i<;>simp
 have hcode:=qGY (P:=P) (X:=X) (A:=A) (nt:=fn.ntmps) (rnd:=none) hX r _ _ s h _ [] hT (by simp) List.nodup_nil;rw[e0]at hcode;refine wpF.bd (qCq _) (λo=>.const _) ((qSC hno [] hcode).mono ?_);rintro o S ⟨o',rfl,hno',e,T2,env2,ms',s2,rfl,q1,rfl,_,_,_,_,q6⟩;simp only[reMs,Out.exit.injEq,true_and,List.append_nil]at hno';have hms:ms'=[]:=by
  cases ms' with
  |nil=>rfl
  |cons _ _=>cases hno'
 subst hms;rw[List.append_nil,e0];cases e with
 |nrm=>exact wpF.ret q6
 |ret=>exact wpF.ret q6
 |exit id=>exact q6.elim
end Go.AM
namespace Go.AM
open Go
end Go.AM
namespace Go.AM
open Go Go.RowKit
section
variable {P:Program} {σ:Nat→Value} {base nt:Nat} {ih:Task→M Out}
def qKU(pre:List Oper):Bool:=pre.all λo=>match o.guard with
 |none=>true
 |some (j,_)=>Nat.blt j pre.length
def zAAI(full:List Oper)(m:Nat):Bool:=(List.range m).all λi=>Nat.testBit ((masks full []).getD m 0) i
theorem qKc{pre:Array Oper}{oL:Oper}{j:Nat}(h:j<pre.size):(pre.push oL)[j]?=pre[j]?:=by rw[Array.getElem?_push];rw[if_neg (by omega)]
theorem qQ4{pre:Array Oper}{oL:Oper}{tm:Array Value}{j:Nat}(h:j<pre.size):yielded (pre.push oL) tm j=yielded pre tm j:=by unfold yielded;rw[qKc h]
theorem qR2{pre:Array Oper}{oL o:Oper}{tm:Array Value}(hg:qKU pre.toList=true)(ho:o∈pre.toList):Region.wanted o (yielded (pre.push oL) tm)=Region.wanted o (yielded pre tm):=by
 have:=List.all_eq_true.1 hg o ho;unfold Region.wanted;cases e:o.guard with
 |none=>rfl
 | some p=>
   obtain⟨j,w⟩:=p;rw[e]at this;simp only at this ⊢;rw[qQ4 (by simpa [Nat.blt_eq]using this)]
theorem qSg{F:Fence}{n:Nat}{pre:Array Oper}{oL:Oper}{Q:Exit->Act->World->Prop}{j:Nat}{K:Act->World->Prop}{a:Act}{w:World}(hg:qKU pre.toList=true)(hj:j<pre.size)(h:wpOpIn F n P pre Q j K a w):wpOpIn F n P (pre.push oL) Q j K a w:=by unfold wpOpIn at h ⊢;rw[qKc hj];have ho:pre[j]?=some pre[j]:=Array.getElem?_eq_getElem hj;rw[ho]at h ⊢;simp only at h ⊢;rw[qR2 hg (by simp)];exact h
theorem qU3{F:Fence}{n:Nat}{ops:Array Oper}{Q:Exit->Act->World->Prop}{listed:Array Bool}{a:Act}{w:World}(hr:Region.ready .any ops listed=[])(h:Q .normal a w):∀fuel,wpAnyIn F n P .any ops Q fuel listed a w
 | 0=>⟨hr,h⟩
 |fuel+1=>⟨λ_=>h,λi hi=>by rw[hr]at hi;cases hi⟩
variable {pre:Array Oper} {oL:Oper} {Ts:Nat→Tmps} {Hs:Nat→AH} {vs:Nat→AV} {es:Nat→List (Nat × Bool)}
theorem qYm(hc:qGq P ih)(hr:qEm P ih)(hname:qE6 P)(hfr:∀t,Fr (ih t))(hσ:One σ)(tr:Trace P ih nt pre Ts Hs vs es)(hg:qKU pre.toList=true)(hback:∀(j:Nat) (o:Oper),(pre.push oL)[j]?=some o->∀e∈o.after,Region.binds .any e=true->e.on<j)
  {mk:Nat}(hmk:(masks (pre.push oL).toList [])[pre.size]?=some mk) (hcov:∀i,i<pre.size->Nat.testBit mk i=true) {r:Option Nat}{Q:Exit->Act->World->Prop}
  {ρ0:Ren}{w0:World}{d0:Act}(hQ:∀a' w' ρ',Ext ρ0 ρ' (Hs 0).next (Hs pre.size).next->WR σ ρ' base (Hs pre.size) w'->Below base w0 w'->TRel σ ρ' nt (Ts pre.size) a'.tmps->a'.defers=d0.defers->wpOpIn (FR r) 0 P (pre.push oL) Q pre.size (Q .normal) a' w') :
  ∀(fuel:Nat) (listed:Array Bool) (T:Tmps) (H:AH) (ρ:Ren) (w:World) (a:Act),listed.size=(pre.push oL).size->listed.getD pre.size true=false->cntF listed.toList<=fuel->Inv σ base nt pre Ts Hs vs es ρ0 w0 d0 (λi=>i<pre.size/\Done listed i) T H ρ w a->wpAnyIn (FR r) 0 P .any (pre.push oL) Q fuel listed a w:=by
 have hsz:(pre.push oL).size=pre.size+1:=Array.size_push _;have lastO:(pre.push oL)[pre.size]?=some oL:=by simp
 have fin:∀(listed:Array Bool) (T:Tmps) (H:AH) (ρ:Ren) (w:World) (a:Act),(∀i,i<pre.size->Done listed i)->Inv σ base nt pre Ts Hs vs es ρ0 w0 d0 (λi=>i<pre.size/\Done listed i) T H ρ w a->wpOpIn (FR r) 0 P (pre.push oL) Q pre.size (Q .normal) a w:=by
  intro listed T H ρ w a hall hi;have hall':∀i,i<pre.size->i<pre.size/\Done listed i:=λi h=>⟨h,hall i h⟩
  refine hQ a w ρ hi.ext (hi.wr.same (λid=>?_) ?_) hi.below (hi.rel.same λt=>?_) hi.defers
  ·rw[hi.blks,tr.blk_all hall' id pre.size (Nat.le_refl _)]
  ·rw[hi.lo,tr.lo_eq _ (Nat.le_refl _)]
  ·rw[hi.tmps,tr.tmp_all hall' t pre.size (Nat.le_refl _)]
 have ready:∀(listed:Array Bool),listed.size=(pre.push oL).size->Region.ready .any (pre.push oL) listed=[]->∀i,i<(pre.push oL).size->Done listed i:=by
  intro listed hs hnil i
  induction i using Nat.strongRecOn with
  | _ i ih2=>
    intro hi;unfold Done;cases hg:listed.getD i true with
    |true=>rfl
    | false=>
      exfalso;have ho:(pre.push oL)[i]?=some (pre.push oL)[i]:=Array.getElem?_eq_getElem hi;have:i∈Region.ready .any (pre.push oL) listed:=mem_ready.2 ⟨hg,_,ho,λe he hb=>by have hlt:=hback i _ ho e he hb;have:=ih2 e.on hlt (by omega);unfold Done at this;simp[Array.getElem?_eq_getElem (by omega:e.on<listed.size)]at this ⊢;exact this⟩
      rw[hnil]at this;cases this
 intro fuel
 induction fuel with
 | zero=>
   intro listed T H ρ w a hs hm hcnt hi;exact absurd (undone hm) (qNs _ (by omega) pre.size)
 | succ fuel ih2=>
   intro listed T H ρ w a hs hm hcnt hi;refine⟨λhnil=>?_,λj hj=>?_⟩
   ·have:=ready listed hs hnil pre.size (by omega)
    unfold Done at this;rw[hm]at this;cases this
   ·obtain⟨hjun,o,ho,hall⟩:=mem_ready.1 hj
    have hjlt:=(Array.getElem?_eq_some_iff.1 ho).1
    by_cases hjm:j=pre.size
    ·subst hjm
     rw[lastO]at ho;cases ho;have hcl:∀(j:Nat) (o:Oper),(pre.push oL)[j]?=some o->(j<pre.size/\Done listed j)->∀e∈o.after,Region.binds .any e=true->(e.on<pre.size/\Done listed e.on):=λj o ho hd e he hb=>hi.closed j o (by rw[qKc hd.1]at ho;exact ho) hd e he hb;have hdone:∀i,i<pre.size->Done listed i:=λi hi'=>
      (qKF hback (λi=>i<pre.size/\Done listed i) hcl pre.size oL mk i lastO hmk (hcov i hi') λe he hb=>⟨hback pre.size oL lastO e he hb,qIJ (hall e he hb)⟩).2
     refine wpOpIn_mono (λa' w' hq=>?_) (fin listed T H ρ w a hdone hi);refine qU3 ?_ hq fuel;cases hrd:Region.ready .any (pre.push oL) (listed.setIfInBounds pre.size true)with
     |nil=>rfl
     | cons x xs=>
       exfalso;have hx:x∈Region.ready .any (pre.push oL) (listed.setIfInBounds pre.size true):=by rw[hrd];simp
       obtain⟨h1,o,ho,_⟩:=mem_ready.1 hx;have hxlt:=(Array.getElem?_eq_some_iff.1 ho).1;have:Done (listed.setIfInBounds pre.size true) x:=by
        rw[qMV hm]
        by_cases e:x=pre.size
        ·exact .inl e
        ·exact .inr (hdone x (by omega))
       unfold Done at this;rw[h1]at this;cases this
    ·have hj':j<pre.size:=by omega
     rw[qKc hj']at ho;have hjx:¬(j<pre.size/\Done listed j):=by unfold Done;rw[hjun];simp
     refine qSg hg hj' ?_;refine qTq hc hr hname hfr hσ tr hi ho hjx (λe he hb=>⟨by have:=hback j o (by rw[qKc hj'];exact ho) e he hb;omega,qIJ (hall e he hb)⟩) ?_;intro a' w' T' H' ρ' hi';refine ih2 _ T' H' ρ' w' a' (by simp[hs]) ?_ ?_ ?_
     ·have:Done (listed.setIfInBounds j true) pre.size↔(pre.size=j∨Done listed pre.size):=by rw[qMV hjun]
      cases e:(listed.setIfInBounds j true).getD pre.size true with
      |false=>rfl
      | true=>
        exfalso;rcases this.1 e with q|q
        ·exact hjm q.symm
        ·unfold Done at q;rw[hm]at q;cases q
     ·have:=qPC _ _ (undone hjun)
      rw[Array.toList_setIfInBounds];omega
     ·have e:(λi=>i<pre.size/\Done (listed.setIfInBounds j true) i)=λi=>i=j∨(i<pre.size/\Done listed i):=by
       rw[qMV hjun]
       funext i
       apply propext;constructor
       ·rintro ⟨h1,h2⟩
        rcases h2 with h2|h2
        ·exact .inl h2
        ·exact .inr ⟨h1,h2⟩
       ·rintro (h1|h1)
        ·exact⟨by omega,.inl h1⟩
        ·exact⟨h1.1,.inr h1.2⟩
      rw[e];exact hi'
theorem qO9(hm:P.follows .mixedOrders=true)(hc:qGq P ih)(hr:qEm P ih)(hname:qE6 P)(hfr:∀t,Fr (ih t))(hσ:One σ){id:Nat}{r:Option Nat}{Q:Exit->Act->World->Prop}{T T1:Tmps}{H K1:AH}{ρ:Ren}{w:World}{a:Act}
  (hok:qCd (pre.push oL).toList=true) (hokp:qCd pre.toList=true) (hg:qKU pre.toList=true) (hcov:zAAI (pre.push oL).toList pre.size=true) (h:opsD P ih nt pre pre.toList (masks pre.toList []) [] T H=some (T1,K1)) (hT:TRel σ ρ nt T a.tmps) (hwr:WR σ ρ base H w) (hf:Free ρ H.next K1.next)
  (hQ:∀a' w' ρ',Post σ ρ ρ' base H K1 w w'->TRel σ ρ' nt T1 a'.tmps->a'.defers=a.defers->wpOpIn (FR r) 0 P (pre.push oL) Q pre.size (Q .normal) a' w'):(Code.region id (pre.push oL) true).wpIn (FR r) 0 P Q a w:=by
 have hsz:(pre.push oL).size=pre.size+1:=Array.size_push _;have hback:=(qIK hok).1;have hbackp:=(qIK hokp).1;obtain⟨Ts,Hs,vs,es,a1,a2,a3,a4,a5⟩:=trace hfr pre.toList _ [] 0 T H T1 K1 rfl h;simp only[zA,Array.length_toList]at a3 a4 a5;have a5':∀j o,pre[j]?=some o->_:=λj o ho=>a5 j o (by rw[Array.getElem?_toList];exact ho);have tr:Trace P ih nt pre Ts Hs vs es:=by
  refine⟨λj o ho=>(a5' j o ho).1,λj o ho e he hb=>?_,λi j p o hij hp ho=>?_⟩
  ·have:=qFY pre.toList 0 hbackp j o (by rw[Array.getElem?_toList];exact ho) e he hb
   omega
  ·obtain⟨_,mk,h1,_,h3⟩:=a5' j o ho
   exact⟨mk,h1,h3 i p hij (by rw[Array.getElem?_toList];exact hp)⟩
 subst a1 a2 a3 a4;have hb:∀(j:Nat) (o:Oper),(pre.push oL)[j]?=some o->∀e∈o.after,Region.binds .any e=true->e.on<j:=λj o ho e he hb=>by have:=qFY (pre.push oL).toList 0 hback j o (by rw[Array.getElem?_toList];exact ho) e he hb;omega
 obtain⟨mk,hmk⟩:∃mk,(masks (pre.push oL).toList [])[pre.size]?=some mk:=by
  have hl:(masks (pre.push oL).toList []).length=pre.size+1:=by obtain⟨L,h1,h2,_⟩:=qOf (pre.push oL).toList [];rw[h1,lAp,h2];simp
  exact⟨_,gEY (by omega)⟩
 have hcov':∀i,i<pre.size->Nat.testBit mk i=true:=λi hi=>by have:=List.all_eq_true.1 hcov i (by simpa using hi);rw[List.getD_eq_getElem?_getD,hmk]at this;exact this
 refine wpIn_region_any hm (qYm (base:=base) hc hr hname hfr hσ tr hg hb hmk hcov' (ρ0:=ρ) (w0:=w) (d0:=a) ?_ (pre.push oL).size _ (Ts 0) (Hs 0) ρ _ a (by simp) (by simp) (by simp[qJg]) ?_)
 ·intro a' w' ρ' h1 h2 h3 h4 h5
  exact hQ a' w' ρ' ⟨h1,h2,h3⟩ h4 h5
 ·have hno:∀i,i<pre.size->¬(i<pre.size/\Done (Array.replicate (pre.push oL).size false) i):=by
   intro i hi hd;have:=hd.2;unfold Done at this;simp[show i<pre.size+1 by omega]at this
  have hle:∀i k,i<=k->k<=pre.size->(Hs i).next<=(Hs k).next:=λi k h1 h2=>by
   have:=tr.next_le (k-i) i (by omega)
   rwa [show i+(k-i)=k from by omega]at this
  refine⟨?_,?_,?_,rfl,?_,.refl _ _ _,?_,?_,hT,rfl⟩
  ·intro j o ho hj
   exact absurd hj (hno j (Array.getElem?_eq_some_iff.1 ho).1)
  ·intro i
   have:∀n,n<=pre.size->cut Hs es (λi=>i<pre.size/\Done (Array.replicate (pre.push oL).size false) i) n i=(Hs 0).blks.get i:=by
    intro n
    induction n with
    |zero=>intro _;rfl
    |succ n ih2=>intro hn;rw[qJk (λk=>absurd k (hno n (by omega))),ih2 (by omega)]
   rw[this _ (Nat.le_refl _)]
  ·intro t
   have:∀n,n<=pre.size->cutT pre Ts vs (λi=>i<pre.size/\Done (Array.replicate (pre.push oL).size false) i) n t=tget (Ts 0) t:=by
    intro n
    induction n with
    |zero=>intro _;rfl
    |succ n ih2=>intro hn;rw[qHE (λk=>absurd k (hno n (by omega))),ih2 (by omega)]
   rw[this _ (Nat.le_refl _)]
  ·intro j hj _ i h1 h2
   exact hf i (Nat.le_trans (hle 0 j (by omega) (by omega)) h1) (Nat.lt_of_lt_of_le h2 (hle (j+1) pre.size (by omega) (by omega)))
  ·obtain⟨x1,x2,x3,x4⟩:=hwr
   exact⟨x1,x2,x3,x4⟩
  ·exact⟨rfl,rfl,rfl,Nat.le_refl _,λ_ _=>rfl⟩
end
end Go.AM
namespace Go.AM
open Go Go.RowKit
inductive PO where
 |done (o:Out)
 |pan (v:AV) (T:Tmps) (ms:List Mk)
inductive PTask where
 |code (nt:Nat) (c:Code) (T:Tmps) (ms:List Mk)
 |call (f:FuncId) (args:List AV)
section
variable (P : Program) (X : Td) (S : FuncId → Bool)
def setP(nt:Nat)(T:Tmps)(ms:List Mk)(dst:Option Tmp)(v:AV):M PO:=bd (lift (setT nt T dst v)) λT=>ret (.done (.exit .nrm T ms))
def qYE(nt:Nat)(T:Tmps)(ms:List Mk)(dst:Option Tmp):PO->M PO
 | .done (.val v)=>setP nt T ms dst v
 | .pan v _ _=>ret (.pan v T ms)
 |_=>fail
def isS(T:Tmps)(c:Call):Bool:=match c.callee with
 | .value f=>match ev T f with
   |some (.fn (.func k) _ _)=>S k
   |_=>false
 |_=>false
def qMC(ih:PTask->M PO)(nt:Nat)(T:Tmps)(ms:List Mk)(dst:Option Tmp)(nx:ANext):M PO:=match nx with
 | .enter f args=>bd (ih (.call f args)) (qYE nt T ms dst)
 |_=>fail
def qG0(old:Task->M Out)(nt:Nat)(all:List Oper)(o:Oper)(T:Tmps)(ms:List Mk):M PO:=bd (qHt P old nt all o T) λT=>ret (.done (.exit .nrm T ms))
def opP(old:Task->M Out)(ih:PTask->M PO)(nt:Nat)(all:List Oper)(o:Oper)(T:Tmps)(ms:List Mk):M PO:=match qCU all T o.guard with
 | some true=>match o.op with
   | .panic x=>match ev T x with
     |some (.ifc t v)=>ret (.pan (.ifc t v) T ms)
     |_=>fail
   | .call c=>cond (isS S T c) (bd (opA P T (.call c)) (qMC ih nt T ms o.dst)) (qG0 P old nt all o T ms)
   |_=>qG0 P old nt all o T ms
 |_=>qG0 P old nt all o T ms
def opsP(old:Task->M Out)(ih:PTask->M PO)(nt:Nat)(all:List Oper)(ms:List Mk):List Oper->Tmps->M PO
 |[],T=>ret (.done (.exit .nrm T ms))
 | o::os,T=>bd (opP P S old ih nt all o T ms) λr=>match r with
   | .done (.exit .nrm T _)=>opsP old ih nt all ms os T
   |r=>ret r
def qQp(ops:List Oper):Bool:=match ops.getLast? with
 | some o=>match o.guard,o.op with
   | none,.call c=>(match c.callee with
     | .value (.func k)=>S k
     |_=>false)
   |_,_=>false
 |none=>false
def qOY(ops:Array Oper):Bool:=qCd ops.toList&&(qCd ops.pop.toList&&(qKU ops.pop.toList&&zAAI ops.toList ops.pop.size))
def oldP(old:Task->M Out)(nt:Nat)(c:Code)(T:Tmps)(ms:List Mk):M PO:=bd (old (.code nt none c T ms)) λo=>ret (.done o)
def qJc(old:Task->M Out)(ih:PTask->M PO)(nt:Nat)(c:Code)(T:Tmps)(ms:List Mk):M PO:=match c with
 | .region id ops draw=>cond (draw&&qQp S ops.toList)
   (cond (qOY ops) (bd (opsD P old nt ops.pop ops.pop.toList (masks ops.pop.toList []) [] T) λT=>opsP P S old ih nt ops.toList ms (ops.toList.drop ops.pop.size) T) fail)
   (cond (draw||(qBg ops.toList).isSome) (oldP old nt (.region id ops draw) T ms) (opsP P S old ih nt ops.toList ms ops.toList T))
 | .seq a b=>bd (ih (.code nt a T ms)) λr=>match r with
   | .done (.exit .nrm T ms)=>ih (.code nt b T ms)
   |r=>ret r
 | .cond x a b=>match ev T x with
   |some (.bool t)=>ih (.code nt (cond t a b) T ms)
   |_=>fail
 | .block id b=>bd (ih (.code nt b T ms)) λr=>match r with
   | .done (.exit (.exit id') T ms)=>cond (Nat.beq id' id) (ret (.done (.exit .nrm T ms))) (ret (.done (.exit (.exit id') T ms)))
   |r=>ret r
 | .loop b=>match qBn b with
   |some _=>oldP old nt (.loop b) T ms
   | none=>bd (ih (.code nt b T ms)) λr=>match r with
     | .done (.exit .nrm T ms)=>ih (.code nt (.loop b) T ms)
     |r=>ret r
 |c=>oldP old nt c T ms
def qMt(fn:Func)(T:Tmps)(v:AV)(c:Code):Option (Code×Tmps):=match qHW c with
 |some (t,rest)=>cond (Nat.blt t fn.ntmps) (some (rest,T.put t (some v))) none
 |none=>none
def qIo(old:Task->M Out)(k:FuncId)(args:List AV)(v:AV):M Unit:=match P.funcs[k]? with
 | some fn=>match fn.body,fn.results.toList with
   | some c,[]=>cond (Nat.ble args.length fn.ntmps) (match qMt fn (Tr.ofListAt .nil 0 args) v c with
     |some p=>bd (old (.code fn.ntmps none p.1 p.2 [])) qKl
     |none=>fail) fail
   |_,_=>fail
 |none=>fail
def endP(old:Task->M Out)(rs:List ResultVar):PO->M PO
 | .done (.exit e T ms)=>match e with
   | .exit _=>fail
   |_=>bd (qAu P old ms) λ_=>bd (qBK P T rs) λvs=>ret (.done (.val (oneV vs)))
 | .pan v T ms=>match ms with
   |[]=>ret (.pan v .nil [])
   |[.call k as]=>bd (qIo P old k as v) λ_=>bd (qBK P T rs) λvs=>ret (.done (.val (oneV vs)))
   |_=>fail
 |_=>fail
def fnP(old:Task->M Out)(ih:PTask->M PO)(f:FuncId)(args:List AV):M PO:=match P.funcs[f]? with
 | some fn=>match fn.body with
   |some c=>cond (Nat.ble args.length fn.ntmps) (bd (ih (.code fn.ntmps c (Tr.ofListAt .nil 0 args) [])) (endP P old fn.results.toList)) fail
   |none=>fail
 |none=>fail
def runP:Nat->PTask->M PO
 | 0,_=>fail
 |n+1,.code nt c T ms=>qJc P S (run P X n) (runP n) nt c T ms
 |n+1,.call f args=>fnP P (run P X n) (runP n) f args
end
section
variable {P:Program} {X:Td} {S:FuncId→Bool} {old old':Task→M Out} {ih ih':PTask→M PO}
theorem zABi(nt:Nat)(T:Tmps)(ms:List Mk)(dst:Option Tmp)(v:AV):Fr (setP nt T ms dst v):=qBE (qH0 _) λ_=>qAp _
theorem qZx(nt:Nat)(T:Tmps)(ms:List Mk)(dst:Option Tmp)(r:PO):Fr (qYE nt T ms dst r):=by
 unfold qYE;split
 ·exact zABi _ _ _ _ _
 ·exact qAp _
 ·exact qAd
theorem qTx(hi:∀t,Fr (ih t))(nt:Nat)(T:Tmps)(ms:List Mk)(dst:Option Tmp)(nx:ANext):Fr (qMC ih nt T ms dst nx):=by
 unfold qMC;split
 ·exact qBE (hi _) λ_=>qZx _ _ _ _ _
 ·exact qAd
theorem qNR(ho:∀t,Fr (old t))(nt:Nat)(all:List Oper)(o:Oper)(T:Tmps)(ms:List Mk):Fr (qG0 P old nt all o T ms):=qBE (qKX P ho _ _ _ _) λ_=>qAp _
theorem zAAL(ho:∀t,Fr (old t))(hi:∀t,Fr (ih t))(nt:Nat)(all:List Oper)(o:Oper)(T:Tmps)(ms:List Mk):Fr (opP P S old ih nt all o T ms):=by
 unfold opP;split
 ·split
  ·split
   ·exact qAp _
   ·exact qAd
  ·exact qBQ _ (qBE (qTA P _ _) λ_=>qTx hi _ _ _ _ _) (qNR ho _ _ _ _ _)
  ·exact qNR ho _ _ _ _ _
 ·exact qNR ho _ _ _ _ _
theorem qMj(ho:∀t,Fr (old t))(hi:∀t,Fr (ih t))(nt:Nat)(all:List Oper)(ms:List Mk):∀(os:List Oper) (T:Tmps),Fr (opsP P S old ih nt all ms os T)
 |[],_=>qAp _
 | o::os,T=>qBE (zAAL ho hi _ _ _ _ _) λr=>by
   split
   ·exact qMj ho hi nt all ms os _
   ·exact qAp _
theorem qSl(ho:∀t,Fr (old t))(nt:Nat)(c:Code)(T:Tmps)(ms:List Mk):Fr (oldP old nt c T ms):=qBE (ho _) λ_=>qAp _
theorem qYz(ho:∀t,Fr (old t))(hi:∀t,Fr (ih t))(nt:Nat)(c:Code)(T:Tmps)(ms:List Mk):Fr (qJc P S old ih nt c T ms):=by
 unfold qJc;split
 ·exact qBQ _ (qBQ _ (qBE (qMw P ho _ _ _ _ _ _) λ_=>qMj ho hi _ _ _ _ _) qAd) (qBQ _ (qSl ho _ _ _ _) (qMj ho hi _ _ _ _ _))
 ·exact qBE (hi _) λr=>by split;exact hi _;exact qAp _
 ·split;exact hi _;exact qAd
 ·exact qBE (hi _) λr=>by split;exact qBQ _ (qAp _) (qAp _);exact qAp _
 ·split
  ·exact qSl ho _ _ _ _
  ·exact qBE (hi _) λr=>by split;exact hi _;exact qAp _
 ·exact qSl ho _ _ _ _
theorem qQc(ho:∀t,Fr (old t))(k:FuncId)(args:List AV)(v:AV):Fr (qIo P old k args v):=by
 unfold qIo
 repeat' first|exact qAd|(refine qBQ _ ?_ ?_)|(refine qBE (ho _) λ_=>?_)|split
 unfold qKl
 repeat' first|exact qAd|exact qAp _|split
theorem zACE(ho:∀t,Fr (old t))(rs:List ResultVar)(r:PO):Fr (endP P old rs r):=by
 unfold endP;split
 ·split
  ·exact qAd
  ·exact qBE (qB7 P ho _) λ_=>qBE (qCG P _ _) λ_=>qAp _
 ·split
  ·exact qAp _
  ·exact qBE (qQc ho _ _ _) λ_=>qBE (qCG P _ _) λ_=>qAp _
  ·exact qAd
 ·exact qAd
theorem zACk(ho:∀t,Fr (old t))(hi:∀t,Fr (ih t))(f:FuncId)(args:List AV):Fr (fnP P old ih f args):=by
 unfold fnP;split
 ·split
  ·exact qBQ _ (qBE (hi _) λ_=>zACE ho _ _) qAd
  ·exact qAd
 ·exact qAd
theorem qPB(hX:FrX X):∀(n:Nat) (t:PTask),Fr (runP P X S n t)
 | 0,_=>qAd
 |n+1,.code nt c T ms=>qYz (qEl P hX n) (qPB hX n) nt c T ms
 |n+1,.call f args=>zACk (qEl P hX n) (qPB hX n) f args
theorem qT3(hi:∀t,LeM (ih t) (ih' t))(nt:Nat)(T:Tmps)(ms:List Mk)(dst:Option Tmp)(nx:ANext):LeM (qMC ih nt T ms dst nx) (qMC ih' nt T ms dst nx):=by
 unfold qMC;split
 ·exact LeM.bd (hi _) λ_=>LeM.refl _
 ·exact LeM.refl _
theorem qN0(ho:∀t,LeM (old t) (old' t))(nt:Nat)(all:List Oper)(o:Oper)(T:Tmps)(ms:List Mk):LeM (qG0 P old nt all o T ms) (qG0 P old' nt all o T ms):=LeM.bd (qJS ho _ _ _ _) λ_=>LeM.refl _
theorem zAAY(ho:∀t,LeM (old t) (old' t))(hi:∀t,LeM (ih t) (ih' t))(nt:Nat)(all:List Oper)(o:Oper)(T:Tmps)(ms:List Mk):LeM (opP P S old ih nt all o T ms) (opP P S old' ih' nt all o T ms):=by
 unfold opP;split
 ·split
  ·exact LeM.refl _
  ·exact LeM.cond (LeM.bd (LeM.refl _) λ_=>qT3 hi _ _ _ _ _) (qN0 ho _ _ _ _ _)
  ·exact qN0 ho _ _ _ _ _
 ·exact qN0 ho _ _ _ _ _
theorem qNl(ho:∀t,LeM (old t) (old' t))(hi:∀t,LeM (ih t) (ih' t))(nt:Nat)(all:List Oper)(ms:List Mk):∀(os:List Oper) (T:Tmps),LeM (opsP P S old ih nt all ms os T) (opsP P S old' ih' nt all ms os T)
 |[],_=>LeM.refl _
 | o::os,T=>LeM.bd (zAAY ho hi _ _ _ _ _) λr=>by
   split
   ·exact qNl ho hi nt all ms os _
   ·exact LeM.refl _
theorem qRw(ho:∀t,LeM (old t) (old' t))(nt:Nat)(c:Code)(T:Tmps)(ms:List Mk):LeM (oldP old nt c T ms) (oldP old' nt c T ms):=LeM.bd (ho _) λ_=>LeM.refl _
theorem qZp(ho:∀t,LeM (old t) (old' t))(hi:∀t,LeM (ih t) (ih' t))(nt:Nat)(c:Code)(T:Tmps)(ms:List Mk):LeM (qJc P S old ih nt c T ms) (qJc P S old' ih' nt c T ms):=by
 unfold qJc;split
 ·exact LeM.cond (LeM.cond (LeM.bd (qPh ho _ _ _ _ _ _) λ_=>qNl ho hi _ _ _ _ _) (LeM.refl _)) (LeM.cond (qRw ho _ _ _ _) (qNl ho hi _ _ _ _ _))
 ·exact LeM.bd (hi _) λr=>by split;exact hi _;exact LeM.refl _
 ·split;exact hi _;exact LeM.refl _
 ·exact LeM.bd (hi _) λr=>LeM.refl _
 ·split
  ·exact qRw ho _ _ _ _
  ·exact LeM.bd (hi _) λr=>by split;exact hi _;exact LeM.refl _
 ·exact qRw ho _ _ _ _
theorem qQQ(ho:∀t,LeM (old t) (old' t))(k:FuncId)(args:List AV)(v:AV):LeM (qIo P old k args v) (qIo P old' k args v):=by
 unfold qIo
 repeat' first|exact LeM.refl _|(refine LeM.cond ?_ ?_)|(refine LeM.bd (ho _) λ_=>?_)|split
theorem qRs(ho:∀t,LeM (old t) (old' t))(rs:List ResultVar)(r:PO):LeM (endP P old rs r) (endP P old' rs r):=by
 unfold endP;split
 ·split
  ·exact LeM.refl _
  ·exact LeM.bd (qCo ho _) λ_=>LeM.refl _
 ·split
  ·exact LeM.refl _
  ·exact LeM.bd (qQQ ho _ _ _) λ_=>LeM.refl _
  ·exact LeM.refl _
 ·exact LeM.refl _
theorem zADQ(ho:∀t,LeM (old t) (old' t))(hi:∀t,LeM (ih t) (ih' t))(f:FuncId)(args:List AV):LeM (fnP P old ih f args) (fnP P old' ih' f args):=by
 unfold fnP;split
 ·split
  ·exact LeM.cond (LeM.bd (hi _) λ_=>qRs ho _ _) (LeM.refl _)
  ·exact LeM.refl _
 ·exact LeM.refl _
theorem qHH:∀(n:Nat) (t:PTask),LeM (runP P X S n t) (runP P X S (n+1) t)
 | 0,_=>λ_ _ h=>by cases h
 |n+1,.code nt c T ms=>qZp (qC4 n) (qHH n) nt c T ms
 |n+1,.call f args=>zADQ (qC4 n) (qHH n) f args
theorem qEI(t:PTask):Mono λn=>runP P X S n t:=qBw λn=>qHH n t
end
end Go.AM
namespace Go.AM
open Go Go.RowKit
section
variable {P:Program} {σ:Nat→Value} {ρ:Ren} {base nt:Nat} {H H':AH} {w:World} {T:Tmps} {a:Act} {old:Task→M Out} {ih:PTask→M PO} {S:FuncId→Bool}
def qKD(v:Value):List PanicEntry:=[{ v,recovered:=false }]
def zACC(P:Program)(n nt:Nat)(c:Code)(T:Tmps)(ms:List Mk)(H:AH)(r:PO)(H':AH):Prop:=
 (∃e T' ms',r=.done (.exit e T' ms')/\∀(σ:Nat->Value) (ρ:Ren) (base:Nat) (w:World) (a:Act) (Q:Exit->Act->World->Prop),One σ->WR σ ρ base H w->Free ρ H.next H'.next->TRel σ ρ nt T a.tmps->DRel σ ρ ms a.defers->
  (∀a' w' ρ',CodePost σ ρ base nt H H' w T' ms' ρ' a' w'->Q (qSh e) a' w')->ACode none n P c Q a w)∨
 ∃v T' ms',r=.pan v T' ms'/\∀(σ:Nat->Value) (ρ:Ren) (base:Nat) (w:World) (a:Act) (Q:Exit->Act->World->Prop),One σ->WR σ ρ base H w->Free ρ H.next H'.next->TRel σ ρ nt T a.tmps->DRel σ ρ ms a.defers->
  (∀a' w' ρ' v',CodePost σ ρ base nt H H' w T' ms' ρ' a' w'->Rel σ ρ' v v'->Q (.panic (qKD v')) a' w')->ACode none n P c Q a w
def qSk(σ:Nat->Value)(ρ:Ren)(base:Nat)(H H':AH)(w:World)(v:AV):Ending->World->Prop:=
 λe w'=>∃v' ρ',e=.panicked (qKD v')/\Post σ ρ ρ' base H H' w w'/\Rel σ ρ' v v'
def FnP(P:Program)(f:FuncId)(args:List AV)(H:AH)(r:PO)(H':AH):Prop:=
 (∃v,r=.done (.val v)/\∀(σ:Nat->Value) (ρ:Ren) (base:Nat) (w:World) (args':Array Value),One σ->WR σ ρ base H w->Free ρ H.next H'.next->RelL σ ρ args args'.toList->CallsIn Fence.wide 0 P f args' w (qCu σ ρ base H H' w v))∨
 ∃v,r=.pan v .nil []/\∀(σ:Nat->Value) (ρ:Ren) (base:Nat) (w:World) (args':Array Value),One σ->WR σ ρ base H w->Free ρ H.next H'.next->RelL σ ρ args args'.toList->CallsIn Fence.wide 0 P f args' w (qSk σ ρ base H H' w v)
def OKP(P:Program)(n:Nat)(ih:PTask->M PO):Prop:=(∀(nt:Nat) (c:Code) (T:Tmps) (ms:List Mk) (H:AH) (r:PO) (H':AH),ih (.code nt c T ms) H=some (r,H')->zACC P n nt c T ms H r H')/\
 ∀(f:FuncId) (args:List AV) (H:AH) (r:PO) (H':AH),ih (.call f args) H=some (r,H')->FnP P f args H r H'
theorem qJT(hfr:∀t,Fr (ih t)){t:PTask}{r:PO}(h:ih t H=some (r,H')):H.next<=H'.next:=by obtain⟨es,d,_⟩:=hfr t H r H' h;exact d.next
def OpsP(P:Program)(nt:Nat)(ops:Array Oper)(l:List Nat)(T:Tmps)(ms:List Mk)(H:AH)(r:PO)(H':AH):Prop:=
 (∃T',r=.done (.exit .nrm T' ms)/\∀(σ:Nat->Value) (ρ:Ren) (base:Nat) (w:World) (a:Act) (Q:Exit->Act->World->Prop) (rest:List Nat),One σ->WR σ ρ base H w->Free ρ H.next H'.next->TRel σ ρ nt T a.tmps->
  (∀a' w' ρ',Post σ ρ ρ' base H H' w w'->TRel σ ρ' nt T' a'.tmps->a'.defers=a.defers->wpOpsIn (FR none) 0 P ops Q rest a' w')->wpOpsIn (FR none) 0 P ops Q (l++rest) a w)∨
 ∃v T',r=.pan v T' ms/\∀(σ:Nat->Value) (ρ:Ren) (base:Nat) (w:World) (a:Act) (Q:Exit->Act->World->Prop) (rest:List Nat),One σ->WR σ ρ base H w->Free ρ H.next H'.next->TRel σ ρ nt T a.tmps->
  (∀a' w' ρ' v',Post σ ρ ρ' base H H' w w'->TRel σ ρ' nt T' a'.tmps->a'.defers=a.defers->Rel σ ρ' v v'->Q (.panic (qKD v')) a' w')->wpOpsIn (FR none) 0 P ops Q (l++rest) a w
theorem qMT(hc:qGq P old)(hr:qEm P old)(hname:qE6 P)(hfr:∀t,Fr (old t)){ops:Array Oper}{k:Nat}{o:Oper}{ms:List Mk}{r:PO}(ho:ops[k]?=some o)(h:qG0 P old nt ops.toList o T ms H=some (r,H')):OpsP P nt ops [k] T ms H r H':=by obtain⟨T1,K,h1,h2⟩:=qAM h;cases qAI h2;obtain⟨v,h3,h4⟩:=qK9 h1;refine .inl ⟨T1,rfl,λσ ρ base w a Q rest hσ hwr hf hT hQ=>?_⟩;simp only[List.cons_append,List.nil_append,wpOpsIn,ho];refine qMO hc hr hname h3 hfr hT hσ hwr hf λv' w1 ρ1 hp hv=>?_;exact hQ _ w1 ρ1 hp (qFu h4 (hT.mono hp.ext.le) hv) (qCb _ _ _)
theorem zACw(hc:qGq P old)(hr:qEm P old)(hname:qE6 P)(hfr:∀t,Fr (old t)){n:Nat}(hi:OKP P n ih)(hfi:∀t,Fr (ih t)){ops:Array Oper}{k:Nat}{o:Oper}{ms:List Mk}{r:PO}(ho:ops[k]?=some o)(h:opP P S old ih nt ops.toList o T ms H=some (r,H')):OpsP P nt ops [k] T ms H r H':=by
 unfold opP at h;cases hw:qCU ops.toList T o.guard with
 |none=>simp only[hw]at h;exact qMT hc hr hname hfr ho h
 |some wb=>
 cases wb with
 |false=>simp only[hw]at h;exact qMT hc hr hname hfr ho h
 |true=>
 simp only[hw]at h;cases hop:o.op with
 | panic x=>
   simp only[hop]at h;generalize hx:ev T x=y at h;have bad:(fail:M PO) H=some (r,H')->False:=λh=>qAC h;cases y with
   |none=>exact(bad h).elim
   |some y=>
   cases y<;>try exact(bad h).elim
   case ifc t v=>
   cases qAI h;refine .inr ⟨_,T,rfl,λσ ρ base w a Q rest hσ hwr hf hT hQ=>?_⟩;simp only[List.cons_append,List.nil_append,wpOpsIn,ho];rw[if_pos (qHl hw hT)];refine⟨qDD,?_⟩;have hv:=qA2 (a:=a) hx hT;have hv':=hv;unfold Rel at hv';obtain⟨y,hy,_⟩:=hv';have e1:((o.semAt (FR none).round a.eval).run P w)=.halt (.panic (a.eval x)) w:=by show((o.semAt none a.eval).run P w)=_;rw[Oper.semAt_none];simp only[execOp,hop];rw[hy];rfl
   rw[e1,Oper.uponIn_panic];exact hQ a w ρ _ ⟨.refl _ _ _,hwr,.refl _ _⟩ hT rfl hv
 | call c=>
   simp only[hop]at h;cases hS:isS S T c with
   |false=>rw[hS,cond_false]at h;exact qMT hc hr hname hfr ho h
   |true=>
   rw[hS,cond_true]at h;obtain⟨nx,K,h1,h2⟩:=qAM h;have m1:H.next<=K.next:=by obtain⟨es,d,_⟩:=qTA P T (.call c) H nx K h1;exact d.next
   have m2:K.next<=H'.next:=by obtain⟨es,d,_⟩:=qTx hfi nt T ms o.dst nx K r H' h2;exact d.next
   unfold qMC at h2;cases nx with
   |val u=>exact(qAC h2).elim
   |round l args=>exact(qAC h2).elim
   |enter f args=>
   simp only at h2;obtain⟨q,K2,h3,h4⟩:=qAM h2;have m3:K.next<=K2.next:=qJT hfi h3;have step:∀(σ:Nat->Value) (ρ:Ren) (base:Nat) (w:World) (a:Act),One σ->WR σ ρ base H w->Free ρ H.next K2.next->TRel σ ρ nt T a.tmps->
     ∃w1 ρ1 args',Post σ ρ ρ1 base H K w w1/\RelL σ ρ1 args args'.toList/\((o.semAt (FR none).round a.eval).run P w)=.ok (.enter f args') w1:=by
    intro σ ρ base w a hσ hwr hf hT;obtain⟨nx',w1,ρ1,e1,x1,x2,x3,x4⟩:=zACM (P:=P) (a:=a) (o:=o) hname (by rw[hop];exact h1) hT hσ hwr (hf.left m3);obtain⟨args',rfl,hargs⟩:=x4;refine⟨w1,ρ1,args',⟨x1,x2,x3⟩,hargs,?_⟩;show((o.semAt none a.eval).run P w)=_;rw[Oper.semAt_none];exact e1
   rcases hi.2 f args K q K2 h3 with⟨v,rfl,hv⟩|⟨v,rfl,hv⟩
   ·obtain⟨T1,K3,h5,h6⟩:=qAM h4
    obtain⟨T2,h7,e⟩:=qDA h5;cases e;cases qAI h6;refine .inl ⟨T1,rfl,λσ ρ base w a Q rest hσ hwr hf hT hQ=>?_⟩;simp only[List.cons_append,List.nil_append,wpOpsIn,ho];rw[if_pos (qHl hw hT)];obtain⟨w1,ρ1,args',p1,hargs,e1⟩:=step σ ρ base w a hσ hwr hf hT;refine⟨qDD,?_⟩;rw[e1,Oper.uponIn_enter];refine⟨λh=>by simp[FR,Fence.wide]at h,?_⟩;have h8:CallsIn (FR none) 0 P f args' w1 (qCu σ ρ1 base K H' w1 v):=hv σ ρ1 base w1 args' hσ p1.wr (p1.ext.free hf m1) hargs;refine h8.mono ?_;rintro e w2 ⟨v',ρ',rfl,hp,hv'⟩;have pall:=p1.trans hp m1 m3;exact hQ _ w2 ρ' pall (qFu h7 (hT.mono pall.ext.le) hv') (qCb _ _ _)
   ·cases qAI h4
    refine .inr ⟨v,T,rfl,λσ ρ base w a Q rest hσ hwr hf hT hQ=>?_⟩;simp only[List.cons_append,List.nil_append,wpOpsIn,ho];rw[if_pos (qHl hw hT)];obtain⟨w1,ρ1,args',p1,hargs,e1⟩:=step σ ρ base w a hσ hwr hf hT;refine⟨qDD,?_⟩;rw[e1,Oper.uponIn_enter];refine⟨λh=>by simp[FR,Fence.wide]at h,?_⟩;have h8:CallsIn (FR none) 0 P f args' w1 (qSk σ ρ1 base K H' w1 v):=hv σ ρ1 base w1 args' hσ p1.wr (p1.ext.free hf m1) hargs;refine h8.mono ?_;rintro e w2 ⟨v',ρ',rfl,hp,hv'⟩;have pall:=p1.trans hp m1 m3;exact hQ a w2 ρ' v' pall (hT.mono pall.ext.le) rfl hv'
 | _=>
   simp only[hop]at h;exact qMT hc hr hname hfr ho h
theorem qR0(hc:qGq P old)(hr:qEm P old)(hname:qE6 P)(hfr:∀t,Fr (old t)){n:Nat}(hi:OKP P n ih)(hfi:∀t,Fr (ih t)){ops:Array Oper}{ms:List Mk}:∀(os:List Oper) (k:Nat) (T:Tmps) (H:AH) (r:PO) (H':AH),(∀j,j<os.length->os[j]?=ops[k+j]?)->opsP P S old ih nt ops.toList ms os T H=some (r,H')->OpsP P nt ops (List.range' k os.length) T ms H r H'
 | [],k,T,H,r,H',_,h=>by
   cases qAI h;exact .inl ⟨T,rfl,λσ ρ base w a Q rest hσ hwr hf hT hQ=>hQ a w ρ ⟨.refl _ _ _,hwr,.refl _ _⟩ hT rfl⟩
 | o::os,k,T,H,r,H',hk,h=>by
   obtain⟨q,K,h1,h2⟩:=qAM h;have h0:ops[k]?=some o:=by have:=hk 0 (by simp);simpa using this.symm
   have m1:H.next<=K.next:=by obtain⟨es,d,_⟩:=zAAL (P:=P) (S:=S) hfr hfi nt ops.toList o T ms H q K h1;exact d.next
   have er:List.range' k (o::os).length=k::List.range' (k+1) os.length:=by rw[List.length_cons,List.range'_succ]
   rw[er];rcases zACw hc hr hname hfr hi hfi h0 h1 with⟨T1,rfl,k1⟩|⟨v,T1,rfl,k1⟩
   ·have m2:K.next<=H'.next:=by obtain⟨es,d,_⟩:=qMj (P:=P) (S:=S) hfr hfi nt ops.toList ms os T1 K r H' h2;exact d.next
    rcases qR0 hc hr hname hfr hi hfi os (k+1) T1 K r H' (λj hj=>by have:=hk (j+1) (by simpa using hj);rw[show k+1+j=k+(j+1)from by omega];simpa using this) h2 with⟨T2,rfl,k2⟩|⟨v,T2,rfl,k2⟩
    ·refine .inl ⟨T2,rfl,λσ ρ base w a Q rest hσ hwr hf hT hQ=>?_⟩
     refine k1 σ ρ base w a Q (List.range' (k+1) os.length++rest) hσ hwr (hf.left m2) hT λa1 w1 ρ1 p1 t1 d1=>?_;refine k2 σ ρ1 base w1 a1 Q rest hσ p1.wr (p1.ext.free hf m1) t1 λa2 w2 ρ2 p2 t2 d2=>?_;exact hQ a2 w2 ρ2 (p1.trans p2 m1 m2) t2 (d2.trans d1)
    ·refine .inr ⟨v,T2,rfl,λσ ρ base w a Q rest hσ hwr hf hT hQ=>?_⟩
     refine k1 σ ρ base w a Q (List.range' (k+1) os.length++rest) hσ hwr (hf.left m2) hT λa1 w1 ρ1 p1 t1 d1=>?_;refine k2 σ ρ1 base w1 a1 Q rest hσ p1.wr (p1.ext.free hf m1) t1 λa2 w2 ρ2 v' p2 t2 d2 hv=>?_;exact hQ a2 w2 ρ2 v' (p1.trans p2 m1 m2) t2 (d2.trans d1) hv
   ·cases qAI h2
    refine .inr ⟨v,T1,rfl,λσ ρ base w a Q rest hσ hwr hf hT hQ=>?_⟩;exact k1 σ ρ base w a Q (List.range' (k+1) os.length++rest) hσ hwr hf hT hQ
end
end Go.AM
namespace Go.AM
open Go Go.RowKit
section
variable {P:Program} {σ:Nat→Value} {ρ:Ren} {base nt:Nat} {H H':AH} {w:World} {T:Tmps} {a:Act} {old:Task→M Out} {ih:PTask→M PO} {S:FuncId→Bool} {n:Nat}
theorem qYI{r:Option Nat}{c:Code}{Q:Exit->Act->World->Prop}(h:ACode r n P c Q a w)(hm:∀b,c=.loop b->(qBn b).isSome=true):ACode r (n+1) P c Q a w:=by
 cases c<;>try exact h
 case loop b=>
 have:=hm b rfl;unfold ACode at h ⊢;simp only at h ⊢;cases e:qBn b with
 |none=>rw[e]at this;cases this
 |some s=>rw[e]at h;exact h
theorem qSW(hco:qGQ P n old){c:Code}(hm:∀b,c=.loop b->(qBn b).isSome=true){ms:List Mk}{r:PO}(h:oldP old nt c T ms H=some (r,H')):zACC P (n+1) nt c T ms H r H':=by obtain⟨o,K,h1,h2⟩:=qAM h;cases qAI h2;obtain⟨e,T',ms',rfl,k⟩:=hco _ _ _ _ _ _ _ _ h1;exact .inl ⟨e,T',ms',rfl,λσ ρ base w a Q hσ hwr hf hT hd hQ=>qYI (k σ ρ base w a none Q hσ hwr hf hT rfl hd hQ) hm⟩
theorem qXa{ops:Array Oper}(h:qQp S ops.toList=true):∃oL,ops=ops.pop.push oL/\ops.toList.drop ops.pop.size=[oL]:=by
 unfold qQp at h;cases e:ops.toList.getLast? with
 |none=>rw[e]at h;cases h
 | some oL=>
   have h1:ops.toList=ops.toList.dropLast ++ [oL]:=by
    have hne:ops.toList≠[]:=λq=>by rw[q]at e;cases e
    rw[List.getLast?_eq_some_getLast hne]at e;have:=(List.dropLast_concat_getLast hne).symm;rw[Option.some.inj e]at this;exact this
   refine⟨oL,?_,?_⟩
   ·apply Array.toList_inj.1
    rw[Array.toList_push,Array.toList_pop];exact h1
   ·have h2:ops.pop.size=ops.toList.dropLast.length:=by simp
    rw[h2]
    conv=>lhs;rw[h1]
    simp
theorem qZ2(hmo:P.follows .mixedOrders=true)(hco:qGQ P n old)(hc:qGq P old)(hr:qEm P old)(hname:qE6 P)(hfr:∀t,Fr (old t))(hi:OKP P n ih)(hfi:∀t,Fr (ih t)){c:Code}{ms:List Mk}{r:PO}(h:qJc P S old ih nt c T ms H=some (r,H')):zACC P (n+1) nt c T ms H r H':=by
 cases c with
 | region id ops draw=>
   have e0:qJc P S old ih nt (.region id ops draw) T ms=cond (draw&&qQp S ops.toList)
    (cond (qOY ops) (bd (opsD P old nt ops.pop ops.pop.toList (masks ops.pop.toList []) [] T) λT=>opsP P S old ih nt ops.toList ms (ops.toList.drop ops.pop.size) T) fail)
    (cond (draw||(qBg ops.toList).isSome) (oldP old nt (.region id ops draw) T ms) (opsP P S old ih nt ops.toList ms ops.toList T)):=rfl
   rw[e0]at h;cases hdl:(draw&&qQp S ops.toList)with
   | true=>
     rw[hdl,cond_true]at h;obtain⟨hd1,hl⟩:=Bool.and_eq_true_iff.1 hdl;subst hd1;obtain⟨hok,h⟩:=qAk h;obtain⟨T1,K,h1,h2⟩:=qAM h;obtain⟨oL,hpush,hdrop⟩:=qXa hl;unfold qOY at hok;simp only[Bool.and_eq_true]at hok;obtain⟨k1,k2,k3,k4⟩:=hok;rw[hdrop]at h2;have m1:H.next<=K.next:=by obtain⟨es,d,_⟩:=qMw P hfr nt ops.pop ops.pop.toList (masks ops.pop.toList []) [] T H T1 K h1;exact d.next
     have m2:K.next<=H'.next:=by obtain⟨es,d,_⟩:=qMj (P:=P) (S:=S) hfr hfi nt ops.toList ms [oL] T1 K r H' h2;exact d.next
     have hget:ops[ops.pop.size]?=some oL:=by
      have q:(ops.pop.push oL)[ops.pop.size]?=some oL:=by rw[Array.getElem?_push,if_pos rfl]
      rwa [<- hpush]at q
     have hk:∀j,j < [oL].length->[oL][j]?=ops[ops.pop.size+j]?:=λj hj=>by
      have:j=0:=by simpa using hj
      subst this;simpa using hget.symm
     have er:List.range' ops.pop.size [oL].length ++ []=[ops.pop.size]:=rfl;have hop:∀{Q:Exit->Act->World->Prop}{a:Act}{w:World},wpOpsIn (FR none) 0 P ops Q (List.range' ops.pop.size [oL].length ++ []) a w->wpOpIn (FR none) 0 P (ops.pop.push oL) Q ops.pop.size (Q .normal) a w:=fun {Q a w} hq=>by rw[er,wpOpsIn_cons]at hq;rw[<- hpush];exact hq
     rcases qR0 hc hr hname hfr hi hfi [oL] ops.pop.size T1 K r H' hk h2 with⟨T2,rfl,q⟩|⟨v,T2,rfl,q⟩
     ·refine .inl ⟨.nrm,T2,ms,rfl,λσ ρ base w a Q hσ hwr hf hT hd hQ=>?_⟩
      show(Code.region id ops true).wpIn (FR none) 0 P Q a w;rw[hpush];refine qO9 (base:=base) hmo hc hr hname hfr hσ (by rw[<- hpush];exact k1) k2 k3 (by rw[<- hpush];exact k4) h1 hT hwr (hf.left m2) λa1 w1 ρ1 p1 t1 d1=>hop ?_;refine q σ ρ1 base w1 a1 Q [] hσ p1.wr (p1.ext.free hf m1) t1 λa2 w2 ρ2 p2 t2 d2=>?_;have pall:=p1.trans p2 m1 m2;exact hQ a2 w2 ρ2 ⟨pall,t2,by rw[d2,d1];exact hd.mono pall.ext.le⟩
     ·refine .inr ⟨v,T2,ms,rfl,λσ ρ base w a Q hσ hwr hf hT hd hQ=>?_⟩
      show(Code.region id ops true).wpIn (FR none) 0 P Q a w;rw[hpush];refine qO9 (base:=base) hmo hc hr hname hfr hσ (by rw[<- hpush];exact k1) k2 k3 (by rw[<- hpush];exact k4) h1 hT hwr (hf.left m2) λa1 w1 ρ1 p1 t1 d1=>hop ?_;refine q σ ρ1 base w1 a1 Q [] hσ p1.wr (p1.ext.free hf m1) t1 λa2 w2 ρ2 v' p2 t2 d2 hv=>?_;have pall:=p1.trans p2 m1 m2;exact hQ a2 w2 ρ2 v' ⟨pall,t2,by rw[d2,d1];exact hd.mono pall.ext.le⟩ hv
   |false=>
   rw[hdl,cond_false]at h;cases hd:(draw||(qBg ops.toList).isSome)with
   |true=>rw[hd,cond_true]at h;exact qSW hco (λ_ e=>by cases e) h
   | false=>
     rw[hd,cond_false]at h;obtain⟨hd1,_⟩:=Bool.or_eq_false_iff.1 hd;subst hd1;have hk:∀j,j<ops.toList.length->ops.toList[j]?=ops[0+j]?:=λj _=>by simp
     have er:List.range ops.size=List.range' 0 ops.toList.length ++ []:=by rw[List.range_eq_range',List.append_nil,Array.length_toList]
     rcases qR0 hc hr hname hfr hi hfi ops.toList 0 T H r H' hk h with⟨T1,rfl,k1⟩|⟨v,T1,rfl,k1⟩
     ·refine .inl ⟨.nrm,T1,ms,rfl,λσ ρ base w a Q hσ hwr hf hT hd hQ=>wpIn_region ?_⟩
      rw[er];refine k1 σ ρ base w a Q [] hσ hwr hf hT λa1 w1 ρ1 p1 t1 d1=>?_;exact hQ a1 w1 ρ1 ⟨p1,t1,by rw[d1];exact hd.mono p1.ext.le⟩
     ·refine .inr ⟨v,T1,ms,rfl,λσ ρ base w a Q hσ hwr hf hT hd hQ=>wpIn_region ?_⟩
      rw[er];refine k1 σ ρ base w a Q [] hσ hwr hf hT λa1 w1 ρ1 v' p1 t1 d1 hv=>?_;exact hQ a1 w1 ρ1 v' ⟨p1,t1,by rw[d1];exact hd.mono p1.ext.le⟩ hv
 | seq x y=>
   obtain⟨q,K,h1,h2⟩:=qAM h;have m1:=qJT hfi h1;rcases hi.1 _ _ _ _ _ _ _ h1 with⟨e,T1,ms1,rfl,k1⟩|⟨v,T1,ms1,rfl,k1⟩
   ·cases e with
    | nrm=>
      have m2:=qJT hfi h2;rcases hi.1 _ _ _ _ _ _ _ h2 with⟨e,T2,ms2,rfl,k2⟩|⟨v,T2,ms2,rfl,k2⟩
      ·refine .inl ⟨e,T2,ms2,rfl,λσ ρ base w a Q hσ hwr hf hT hd hQ=>wpIn_seq (ACode.wp (n:=n) ?_)⟩
       refine k1 σ ρ base w a _ hσ hwr (hf.left m2) hT hd λa1 w1 ρ1 p1=>?_;exact ACode.wp (n:=n) (k2 σ ρ1 base w1 a1 Q hσ p1.post.wr (p1.post.ext.free hf m1) p1.tmps p1.defers λa2 w2 ρ2 p2=>hQ a2 w2 ρ2 (p1.trans p2 m1 m2))
      ·refine .inr ⟨v,T2,ms2,rfl,λσ ρ base w a Q hσ hwr hf hT hd hQ=>wpIn_seq (ACode.wp (n:=n) ?_)⟩
       refine k1 σ ρ base w a _ hσ hwr (hf.left m2) hT hd λa1 w1 ρ1 p1=>?_;exact ACode.wp (n:=n) (k2 σ ρ1 base w1 a1 Q hσ p1.post.wr (p1.post.ext.free hf m1) p1.tmps p1.defers λa2 w2 ρ2 v' p2 hv=>hQ a2 w2 ρ2 v' (p1.trans p2 m1 m2) hv)
    | exit id=>
      cases qAI h2;exact .inl ⟨.exit id,T1,ms1,rfl,λσ ρ base w a Q hσ hwr hf hT hd hQ=>wpIn_seq (ACode.wp (n:=n) (k1 σ ρ base w a _ hσ hwr hf hT hd λa1 w1 ρ1 p1=>hQ a1 w1 ρ1 p1))⟩
    | ret=>
      cases qAI h2;exact .inl ⟨.ret,T1,ms1,rfl,λσ ρ base w a Q hσ hwr hf hT hd hQ=>wpIn_seq (ACode.wp (n:=n) (k1 σ ρ base w a _ hσ hwr hf hT hd λa1 w1 ρ1 p1=>hQ a1 w1 ρ1 p1))⟩
   ·cases qAI h2
    exact .inr ⟨v,T1,ms1,rfl,λσ ρ base w a Q hσ hwr hf hT hd hQ=>wpIn_seq (ACode.wp (n:=n) (k1 σ ρ base w a _ hσ hwr hf hT hd λa1 w1 ρ1 v' p1 hv=>hQ a1 w1 ρ1 v' p1 hv))⟩
 | cond x y z=>
   unfold qJc at h;simp only at h;generalize hx:ev T x=v at h;have bad:(fail:M PO) H=some (r,H')->False:=λh=>qAC h;cases v with
   |none=>exact(bad h).elim
   |some v=>
   cases v<;>try exact(bad h).elim
   case bool t=>
   rcases hi.1 _ _ _ _ _ _ _ h with⟨e,T1,ms1,rfl,k1⟩|⟨v,T1,ms1,rfl,k1⟩
   ·refine .inl ⟨e,T1,ms1,rfl,λσ ρ base w a Q hσ hwr hf hT hd hQ=>?_⟩
    have hv:=qA2 (a:=a) hx hT;unfold Rel at hv;refine wpIn_cond hv ?_;have:=ACode.wp (n:=n) (k1 σ ρ base w a Q hσ hwr hf hT hd hQ);cases t<;>exact this
   ·refine .inr ⟨v,T1,ms1,rfl,λσ ρ base w a Q hσ hwr hf hT hd hQ=>?_⟩
    have hv:=qA2 (a:=a) hx hT;unfold Rel at hv;refine wpIn_cond hv ?_;have:=ACode.wp (n:=n) (k1 σ ρ base w a Q hσ hwr hf hT hd hQ);cases t<;>exact this
 | block id c=>
   obtain⟨q,K,h1,h2⟩:=qAM h;rcases hi.1 _ _ _ _ _ _ _ h1 with⟨e,T1,ms1,rfl,k1⟩|⟨v,T1,ms1,rfl,k1⟩
   ·cases e with
    | nrm=>
      cases qAI h2;exact .inl ⟨.nrm,T1,ms1,rfl,λσ ρ base w a Q hσ hwr hf hT hd hQ=>wpIn_block (ACode.wp (n:=n) (k1 σ ρ base w a _ hσ hwr hf hT hd λa1 w1 ρ1 p1=>hQ a1 w1 ρ1 p1))⟩
    | ret=>
      cases qAI h2;exact .inl ⟨.ret,T1,ms1,rfl,λσ ρ base w a Q hσ hwr hf hT hd hQ=>wpIn_block (ACode.wp (n:=n) (k1 σ ρ base w a _ hσ hwr hf hT hd λa1 w1 ρ1 p1=>hQ a1 w1 ρ1 p1))⟩
    | exit id'=>
      cases hb:Nat.beq id' id with
      | true=>
        simp only[hb,cond_true]at h2;cases qAI h2;have e:=bE hb;exact .inl ⟨.nrm,T1,ms1,rfl,λσ ρ base w a Q hσ hwr hf hT hd hQ=>wpIn_block (ACode.wp (n:=n) (k1 σ ρ base w a _ hσ hwr hf hT hd λa1 w1 ρ1 p1=>by show(if id'=id then _ else _);rw[if_pos e];exact hQ a1 w1 ρ1 p1))⟩
      | false=>
        simp only[hb,cond_false]at h2;cases qAI h2;have e:id'≠id:=λe=>by subst e;simp at hb
        exact .inl ⟨.exit id',T1,ms1,rfl,λσ ρ base w a Q hσ hwr hf hT hd hQ=>wpIn_block (ACode.wp (n:=n) (k1 σ ρ base w a _ hσ hwr hf hT hd λa1 w1 ρ1 p1=>by show(if id'=id then _ else _);rw[if_neg e];exact hQ a1 w1 ρ1 p1))⟩
   ·cases qAI h2
    exact .inr ⟨v,T1,ms1,rfl,λσ ρ base w a Q hσ hwr hf hT hd hQ=>wpIn_block (ACode.wp (n:=n) (k1 σ ρ base w a _ hσ hwr hf hT hd λa1 w1 ρ1 v' p1 hv=>hQ a1 w1 ρ1 v' p1 hv))⟩
 | loop c=>
   have e0:qJc P S old ih nt (.loop c) T ms=(match qBn c with
    |some _=>oldP old nt (.loop c) T ms
    | none=>bd (ih (.code nt c T ms)) λr=>match r with
      | .done (.exit .nrm T ms)=>ih (.code nt (.loop c) T ms)
      |r=>ret r):=rfl
   rw[e0]at h;cases hs:qBn c with
   |some s=>rw[hs]at h;exact qSW hco (λb e=>by cases e;rw[hs];rfl) h
   |none=>
   rw[hs]at h;obtain⟨q,K,h1,h2⟩:=qAM h;have m1:=qJT hfi h1;have hA:∀(Q:Exit->Act->World->Prop) (a:Act) (w:World) (k:Nat),ACode none k P (.loop c) Q a w=Code.roundsIn (FR none) 0 P c Q k a w:=λQ a w k=>by unfold ACode;simp only[hs]
   rcases hi.1 _ _ _ _ _ _ _ h1 with⟨e,T1,ms1,rfl,k1⟩|⟨v,T1,ms1,rfl,k1⟩
   ·cases e with
    | nrm=>
      have m2:=qJT hfi h2;rcases hi.1 _ _ _ _ _ _ _ h2 with⟨e,T2,ms2,rfl,k2⟩|⟨v,T2,ms2,rfl,k2⟩
      ·refine .inl ⟨e,T2,ms2,rfl,λσ ρ base w a Q hσ hwr hf hT hd hQ=>(hA Q a w (n+1)).mpr (ACode.wp (n:=n) (c:=c) ?_)⟩
       refine k1 σ ρ base w a _ hσ hwr (hf.left m2) hT hd λa1 w1 ρ1 p1=>?_;exact(hA Q a1 w1 n).mp (k2 σ ρ1 base w1 a1 Q hσ p1.post.wr (p1.post.ext.free hf m1) p1.tmps p1.defers λa2 w2 ρ2 p2=>hQ a2 w2 ρ2 (p1.trans p2 m1 m2))
      ·refine .inr ⟨v,T2,ms2,rfl,λσ ρ base w a Q hσ hwr hf hT hd hQ=>(hA Q a w (n+1)).mpr (ACode.wp (n:=n) (c:=c) ?_)⟩
       refine k1 σ ρ base w a _ hσ hwr (hf.left m2) hT hd λa1 w1 ρ1 p1=>?_;exact(hA Q a1 w1 n).mp (k2 σ ρ1 base w1 a1 Q hσ p1.post.wr (p1.post.ext.free hf m1) p1.tmps p1.defers λa2 w2 ρ2 v' p2 hv=>hQ a2 w2 ρ2 v' (p1.trans p2 m1 m2) hv)
    | exit id=>
      cases qAI h2;exact .inl ⟨.exit id,T1,ms1,rfl,λσ ρ base w a Q hσ hwr hf hT hd hQ=>(hA Q a w (n+1)).mpr (ACode.wp (n:=n) (c:=c) (k1 σ ρ base w a _ hσ hwr hf hT hd λa1 w1 ρ1 p1=>hQ a1 w1 ρ1 p1))⟩
    | ret=>
      cases qAI h2;exact .inl ⟨.ret,T1,ms1,rfl,λσ ρ base w a Q hσ hwr hf hT hd hQ=>(hA Q a w (n+1)).mpr (ACode.wp (n:=n) (c:=c) (k1 σ ρ base w a _ hσ hwr hf hT hd λa1 w1 ρ1 p1=>hQ a1 w1 ρ1 p1))⟩
   ·cases qAI h2
    exact .inr ⟨v,T1,ms1,rfl,λσ ρ base w a Q hσ hwr hf hT hd hQ=>(hA Q a w (n+1)).mpr (ACode.wp (n:=n) (c:=c) (k1 σ ρ base w a _ hσ hwr hf hT hd λa1 w1 ρ1 v' p1 hv=>hQ a1 w1 ρ1 v' p1 hv))⟩
 |_=>exact qSW hco (λ_ e=>by cases e) h
end
end Go.AM
namespace Go.AM
open Go Go.RowKit
section
variable {P:Program} {σ:Nat→Value} {ρ:Ren} {base nt:Nat} {H H':AH} {w:World} {T:Tmps} {old:Task→M Out} {ih:PTask→M PO} {S:FuncId→Bool} {n:Nat}
theorem qWj(hco:qGQ P n old)(hfr:∀t,Fr (old t))(hname:qE6 P){k:FuncId}{args:List AV}{v:AV}{v':Value}{u:Unit}(h:qIo P old k args v H=some (u,H')){args':Array Value}(hσ:One σ)(hwr:WR σ ρ base H w)(hf:Free ρ H.next H'.next)(hr:RelL σ ρ args args'.toList)(hv:Rel σ ρ v v')
  {R:Ending->FrameMode->World->Prop}(hR:∀z ρ' w',Post σ ρ ρ' base H H' w w'->R (.returned z) (.panicking [{ v:=v',recovered:=true }]) w'):isFn P k=true/\CallsDIn Fence.wide 0 P k args' (.panicking (qKD v')) w R:=by
 unfold qIo at h;cases hfn:P.funcs[k]? with
 |none=>simp only[hfn]at h;exact(qAC h).elim
 | some fn=>
   simp only[hfn]at h;cases hb:fn.body with
   |none=>simp only[hb]at h;exact(qAC h).elim
   | some c=>
     simp only[hb]at h;generalize hrs:fn.results.toList=rs at h;cases rs with
     |cons _ _=>exact(qAC h).elim
     | nil=>
       obtain⟨hle,h⟩:=qAk h;have hle:args.length<=fn.ntmps:=by simpa [Nat.ble_eq]using hle
       refine⟨by unfold isFn;rw[hfn];simp[hb],?_⟩;generalize hdc:qMt fn (Tr.ofListAt .nil 0 args) v c=dc at h;cases dc with
       |none=>exact(qAC h).elim
       | some p=>
         obtain⟨c',T'⟩:=p;obtain⟨o,K,h1,h2⟩:=qAM h;obtain⟨e,T1,ms1,rfl,k1⟩:=hco _ _ _ _ _ _ _ _ h1;have hK:K=H'/\ms1=[]/\(∀i,e≠.exit i):=by
          cases e with
          | nrm=>cases ms1 with
            |nil=>cases qAI h2;exact⟨rfl,rfl,by simp⟩
            |cons _ _=>exact(qAC (H:=K) h2).elim
          | ret=>cases ms1 with
            |nil=>cases qAI h2;exact⟨rfl,rfl,by simp⟩
            |cons _ _=>exact(qAC (H:=K) h2).elim
          |exit i=>exact(qAC (H:=K) h2).elim
         obtain⟨rfl,rfl,hne⟩:=hK;have hstart:=qDK (nt:=fn.ntmps) hr hle;have hres:fn.results=#[]:=by apply Array.toList_inj.1;rw[hrs]
         refine callsDIn_of_wpSIn hfn hb trivial λc₀ cs hu=>?_;have fin:∀(a0:Act),a0.defers=[]->TRel σ ρ fn.ntmps T' a0.tmps->c'.wpSIn Fence.wide 0 P (bodyPostS P fn c₀ cs R) a0 ({ c₀ with mode:=.panicking [{ v:=v',recovered:=true }] }::cs) w:=by
          intro a0 hd0 hT0;refine wpSIn_of_wpIn rfl (ACode.wp (n:=n) (k1 σ ρ base w a0 none _ hσ hwr hf hT0 rfl (by rw[hd0];rfl) λa1 w1 ρ1 p1=>?_));have hd1:a1.defers=[]:=p1.defers;have main:a1.defers=[]/\∃u',({ c₀ with mode:=.panicking [{ v:=v',recovered:=true }] }::cs)={ c₀ with mode:=u' }::cs/\∃z,(results fn a1.tmps).run P w1=.ok z w1/\R (.returned z) u' w1:=
           ⟨hd1,.panicking [{ v:=v',recovered:=true }],rfl,.tuple #[],by simp[results,hres],hR _ ρ1 w1 p1.post⟩
          cases e with
          |nrm=>exact main
          |ret=>exact main
          |exit i=>exact absurd rfl (hne i)
         unfold qMt at hdc;cases hrt:qHW c with
         |none=>rw[hrt]at hdc;cases hdc
         | some q=>
           obtain⟨t,rest⟩:=q;rw[hrt]at hdc;obtain⟨hlt,hdc⟩:=qAR hdc;cases hdc;unfold qHW at hrt;split at hrt
           ·rename_i id ops rest'
            split at hrt
            ·rename_i t' ts ty pos af hops
             cases hrt;have e0:ops=#[⟨some t,.call ⟨.builtin .recover,#[],ts⟩,ty,pos,af,none⟩]:=by apply Array.toList_inj.1;rw[hops]
             subst e0;refine wpSIn_seq (wpSIn_region ?_);simp only[List.size_toArray,List.length_cons,List.length_nil,zA,show List.range 1=[0]from rfl,wpOpsSIn,List.getElem?_toArray,g0Y];refine⟨qDD,?_⟩;rw[if_pos (by unfold Region.wanted;rfl),qTj];have hrec:recoverD (c₀::cs)=some (v',{ c₀ with mode:=.panicking [{ v:=v',recovered:=true }] }::cs):=by simp[recoverD,hu,qKD]
             simp only[hrec];refine fin _ (qCb _ _ _) ?_;exact qFu (v:=v) (v':=v') (dst:=some t) (by simp only[setT];rw[hlt];rfl) hstart hv
            ·cases hrt
           ·cases hrt
theorem zADs(hco:qGQ P n old)(hfr:∀t,Fr (old t))(hname:qE6 P)(hi:OKP P n ih)(hfi:∀t,Fr (ih t)){f:FuncId}{args:List AV}{r:PO}(h:fnP P old ih f args H=some (r,H')):FnP P f args H r H':=by
 unfold fnP at h;cases hfn:P.funcs[f]? with
 |none=>simp only[hfn]at h;exact(qAC h).elim
 | some fn=>
   simp only[hfn]at h;cases hb:fn.body with
   |none=>simp only[hb]at h;exact(qAC h).elim
   | some c=>
     simp only[hb]at h;obtain⟨hle,h⟩:=qAk h;have hle:args.length<=fn.ntmps:=by simpa [Nat.ble_eq]using hle
     obtain⟨q,K,h1,h2⟩:=qAM h;have m1:=qJT hfi h1;rcases hi.1 _ _ _ _ _ _ _ h1 with⟨e,T1,ms1,rfl,k1⟩|⟨v,T1,ms1,rfl,k1⟩
     ·have main:(∀i,e≠.exit i)->bd (qAu P old ms1) (λ_=>bd (qBK P T1 fn.results.toList) λvs=>ret (PO.done (.val (oneV vs)))) K=some (r,H')->FnP P f args H r H':=by
       intro hne h3;obtain⟨u,K2,h4,h5⟩:=qAM h3;obtain⟨vs,K3,h6,h7⟩:=qAM h5;cases qAI h7;have m2:K.next<=K2.next:=by obtain⟨es,d,_⟩:=qB7 P hfr ms1 K () K2 h4;exact d.next
       have m3:K2.next<=H'.next:=by obtain⟨es,d,_⟩:=qCG P T1 fn.results.toList K2 vs H' h6;exact d.next
       refine .inl ⟨oneV vs,rfl,λσ ρ base w args' hσ hwr hf hr=>?_⟩;refine callsIn_of_wp_marks hfn hb trivial ?_ rfl;have hstart:=qDK (nt:=fn.ntmps) hr hle;refine ACode.wp (n:=n) (k1 σ ρ base w { tmps:=args'++Array.replicate (fn.ntmps-args'.size) undef,defers:=[] } _ hσ hwr (hf.left (by omega)) hstart rfl λa1 w1 ρ1 p1=>?_);have key:LeavesInM Fence.wide 0 P fn a1.tmps (qCu σ ρ base H H' w (oneV vs)) a1.defers .returning w1:=by refine qKO (fn:=fn) (tmps:=a1.tmps) (R:=qCu σ ρ base H H' w (oneV vs)) hco hfr hname hσ h4 p1.post.wr ((p1.post.ext.free hf m1).left m3) p1.defers λρ2 w2 p2=>?_;obtain⟨b1,b2,b3,vs',b4,b5⟩:=qFJ (P:=P) (p1.tmps.mono p2.ext.le) p2.wr _ K2 _ vs rfl rfl h6;refine⟨_,qGZ b4,_,ρ2,rfl,⟨?_,p2.wr.log b1 b2,p1.post.below.trans p2.below⟩,qKe b5⟩;rw[b3];exact p1.post.ext.trans p2.ext m1 m2
       cases e with
       |exit id=>exact absurd rfl (hne id)
       |nrm=>exact key
       |ret=>exact key
      cases e with
      |exit id=>exact(qAC (H:=K) h2).elim
      |nrm=>exact main (by simp) h2
      |ret=>exact main (by simp) h2
     ·cases ms1 with
      | nil=>
        cases qAI h2;refine .inr ⟨v,rfl,λσ ρ base w args' hσ hwr hf hr=>?_⟩;refine callsIn_of_wp_marks hfn hb trivial ?_ rfl;have hstart:=qDK (nt:=fn.ntmps) hr hle;refine ACode.wp (n:=n) (k1 σ ρ base w { tmps:=args'++Array.replicate (fn.ntmps-args'.size) undef,defers:=[] } _ hσ hwr hf hstart rfl λa1 w1 ρ1 v' p1 hv=>?_);have hd:a1.defers=[]:=p1.defers;show LeavesInM Fence.wide 0 P fn a1.tmps (qSk σ ρ base H H' w v) a1.defers (.panicking (qKD v')) w1;rw[hd];exact⟨v',ρ1,rfl,p1.post,hv⟩
      |cons m ms=>
      cases m with
      |mark i=>exact(qAC (H:=K) h2).elim
      |call k as=>
      cases ms with
      |cons _ _=>exact(qAC (H:=K) h2).elim
      | nil=>
        obtain⟨u,K2,h4,h5⟩:=qAM h2;obtain⟨vs,K3,h6,h7⟩:=qAM h5;cases qAI h7;have m2:K.next<=K2.next:=by obtain⟨es,d,_⟩:=qQc (P:=P) hfr k as v K () K2 h4;exact d.next
        have m3:K2.next<=H'.next:=by obtain⟨es,d,_⟩:=qCG P T1 fn.results.toList K2 vs H' h6;exact d.next
        refine .inl ⟨oneV vs,rfl,λσ ρ base w args' hσ hwr hf hr=>?_⟩;refine callsIn_of_wp_marks hfn hb trivial ?_ rfl;have hstart:=qDK (nt:=fn.ntmps) hr hle;refine ACode.wp (n:=n) (k1 σ ρ base w { tmps:=args'++Array.replicate (fn.ntmps-args'.size) undef,defers:=[] } _ hσ hwr (hf.left (by omega)) hstart rfl λa1 w1 ρ1 v' p1 hv=>?_);have hd:=p1.defers;unfold DRel at hd;obtain⟨cs,fs,ds',hd,hrel,hd'⟩:=hd;unfold DRel at hd';subst hd';show LeavesInM Fence.wide 0 P fn a1.tmps (qCu σ ρ base H H' w (oneV vs)) a1.defers (.panicking (qKD v')) w1;rw[hd];obtain⟨q1,q2⟩:=qWj (R:=fun
         | .returned _,u',w'=>LeavesInM Fence.wide 0 P fn a1.tmps (qCu σ ρ base H H' w (oneV vs)) [] (settle u') w'
         | .panicked chain,u',w'=>LeavesInM Fence.wide 0 P fn a1.tmps (qCu σ ρ base H H' w (oneV vs)) [] (raised u' chain) w'
         | .outgrown,_,w'=>qCu σ ρ base H H' w (oneV vs) .outgrown w') hco hfr hname h4 hσ p1.post.wr ((p1.post.ext.free hf m1).left m3) hrel hv λz ρ2 w2 p2=>by
           show LeavesInM Fence.wide 0 P fn a1.tmps (qCu σ ρ base H H' w (oneV vs)) [] .returning w2;obtain⟨b1,b2,b3,vs',b4,b5⟩:=qFJ (P:=P) (p1.tmps.mono p2.ext.le) p2.wr _ K2 _ vs rfl rfl h6;refine⟨_,qGZ b4,_,ρ2,rfl,⟨?_,p2.wr.log b1 b2,p1.post.below.trans p2.below⟩,qKe b5⟩;rw[b3];exact p1.post.ext.trans p2.ext m1 m2
        unfold LeavesInM;refine⟨by simp,.inr ⟨λh=>by simp[Fence.wide]at h,.func k,cs,k,fs++cs,rfl,?_,λ_ _=>trivial,q2⟩⟩;simp only[invoke];exact qMW hname q1 _ w1
theorem qVr(hm:P.follows .mixedOrders=true)(hname:qE6 P){X:Td}(hX:ExtOK P X)(S:FuncId->Bool):∀n,OKP P n (runP P X S n)
 | 0=>⟨λ_ _ _ _ H _ _ h=>(qAC (H:=H) h).elim,λ_ _ H _ _ h=>(qAC (H:=H) h).elim⟩
 | n+1=>by
   obtain⟨h1,h2,h3⟩:=qQZ hm hname hX n;have ih:=qVr hm hname hX S n;have fo:=qEl P hX.1 n;have fi:=qPB (P:=P) (S:=S) hX.1 n;exact⟨λnt c T ms H r H' h=>qZ2 hm h1 h2 h3 hname fo ih fi h,λf args H r H' h=>zADs h1 fo hname ih fi h⟩
end
end Go.AM
namespace Go.AM
open Go
section
variable (P : Program) (X : Td) (S : FuncId → Bool)
def qAg(f:FuncId)(args:List AV)(K R:AV->Hq->Prop)(s:Hq):Prop:=
 wpF (λn=>runP P X S n (.call f args)) (λr s'=>(∃v,r=.done (.val v)/\K v s')∨∃v,r=.pan v .nil []/\R v s') s
def qT5(v:AV)(args:List AV)(K R:AV->Hq->Prop)(s:Hq):Prop:=match v with
 | .fn (.func k) first cap=>cond (S k) (isFn P k=true/\qAg P X S k (first++args++cap) K R s) (funK P X (.fn (.func k) first cap) args K s)
 |v=>funK P X v args K s
def panK(v:AV)(R:AV->Hq->Prop)(s:Hq):Prop:=match v with
 | .ifc t u=>R (.ifc t u) s
 |_=>False
def qWd(env:Env)(K R:AV->Hq->Prop)(s:Hq):Op->Prop
 | .panic x=>panK (evD env x) R s
 | .call c=>match c.callee with
   | .value f=>match f with
     | .func k=>cond (S k) (cond (isFn P k) (qAg P X S k (c.args.toList.map (evD env)) K R s) False) (cond (isFn P k) (wC P X k (c.args.toList.map (evD env)) K s) False)
     |f=>qT5 P X S (evD env f) (c.args.toList.map (evD env)) K R s
   |_=>wpOp P X env K s (.call c)
 |o=>wpOp P X env K s o
def qSF(nt:Nat)(all:List Oper):List Oper->Kn->Env->(Env->Hq->Prop)->(AV->Env->Hq->Prop)->Hq->Prop
 |[],_,env,K,_,s=>K env s
 |o::os,kn,env,K,R,s=>qO5 all o.guard kn env
   (λkn=>qWd P X S env (λv s=>setK nt o.dst env v λenv=>qSF nt all os (forget kn o.dst) env K R s) (λv s=>R v env s) s o.op)
   (λkn=>setK nt o.dst env .undef λenv=>qSF nt all os (mark kn o.dst) env K R s)
def wpCP(A:Nat->List Nat)(nt:Nat):Code->Env->(AExit->Env->Hq->Prop)->(AV->Env->Hq->Prop)->Hq->Prop
 | .region id ops draw,env,K,R,s=>cond (draw&&qQp S ops.toList)
   (cond (qOY ops&&(ops.toList.drop ops.pop.size).all λo=>okOp o.op) (wpC P X A nt none (.region id ops.pop true) env (λe env s=>match e with
    | .nrm=>qSF P X S nt ops.toList (ops.toList.drop ops.pop.size) [] env (λenv s=>K .nrm env s) R s
    |_=>False) s) False)
   (cond (draw||(qBg ops.toList).isSome) (wpC P X A nt none (.region id ops draw) env K s)
   (cond (ops.toList.all λo=>okOp o.op) (qSF P X S nt ops.toList ops.toList [] env (λenv s=>K .nrm env s) R s) False))
 | .seq a b,env,K,R,s=>wpCP A nt a env (λe env s=>match e with
   | .nrm=>wpCP A nt b env K R s
   |e=>K e env s) R s
 | .cond c a b,env,K,R,s=>cond (okX c) (qAJ (evD env c) (wpCP A nt a env K R s) (wpCP A nt b env K R s)) False
 | .block id b,env,K,R,s=>wpCP A nt b env (λe env s=>match e with
   | .exit id'=>cond (Nat.beq id' id) (K .nrm env s) (K (.exit id') env s)
   |e=>K e env s) R s
 | .loop b,env,K,R,s=>match qBn b with
   |some _=>False
   |none=>qUs (A (2*qHX b)) (assigned b) (λenv K s=>wpCP A nt b env K R s) env K s
 |c,env,K,_,s=>wpC P X A nt none c env K s
end
variable {P:Program} {X:Td} {S:FuncId→Bool} {nt:Nat} {env:Env} {T:Tmps} {s:Hq}
theorem qTh{c:Call}{f:Operand}(hT:TR T env)(hc:c.callee=.value f)(hf:okX f=true):isS S T c=match evD env f with
  | .fn (.func k) _ _=>S k
  |_=>false:=by
 unfold isS;rw[hc];simp only[qIk hT hf];cases evD env f<;>try rfl
 case fn g a b=>cases g<;>rfl
theorem zACc{all:List Oper}{o:Oper}{ms:List Mk}{K R:AV->Hq->Prop}{Q:Tmps->Hq->Prop}(hT:TR T env)(ho:okOp o.op=true)(hw:qCU all T o.guard=some true)(h:qWd P X S env K R s o.op)(hQ:∀v s',K v s'->∃T',setT nt T o.dst v=some T'/\Q T' s'):
  wpF (λn=>opP P S (run P X n) (runP P X S n) nt all o T ms) (λr s'=>(∃T',r=.done (.exit .nrm T' ms)/\Q T' s')∨∃v,r=.pan v T ms/\R v s') s:=by
 have plain:wpOp P X env K s o.op->wpF (λn=>qG0 P (run P X n) nt all o T ms) (λr s'=>(∃T',r=.done (.exit .nrm T' ms)/\Q T' s')∨∃v,r=.pan v T ms/\R v s') s:=by intro h;have mono1:Mono λn=>qHt P (run P X n) nt all o T:=qBw λn=>qJS (qC4 n) _ _ _ _;refine wpF.bd (f:=λ_ T=>ret (PO.done (.exit .nrm T ms))) mono1 (λ_=>.const _) ((qPe (qEy hw hT ho h) hQ).mono λT' s' hq=>?_);exact wpF.ret (.inl ⟨T',rfl,hq⟩)
 cases hop:o.op with
 | panic x=>
   rw[hop]at h ho;have hx:okX x=true:=qOZ ho (by simp[Op.operands]);have h:panK (evD env x) R s:=h;generalize hv:evD env x=y at h;cases y<;>try exact h.elim
   case ifc t v=>
   refine wpF.congr (m:=λ_=>ret (PO.pan (.ifc t v) T ms)) (wpF.ret (.inr ⟨_,rfl,h⟩)) λn=>?_;unfold opP;simp only[hw,hop,qIk hT hx,hv]
 | call c=>
   rw[hop]at h ho plain;have e0:∀n,opP P S (run P X n) (runP P X S n) nt all o T ms=cond (isS S T c) (bd (opA P T (.call c)) (qMC (runP P X S n) nt T ms o.dst)) (qG0 P (run P X n) nt all o T ms):=λn=>by unfold opP;simp only[hw,hop]
   refine wpF.congr (m:=λn=>cond (isS S T c) (bd (opA P T (.call c)) (qMC (runP P X S n) nt T ms o.dst)) (qG0 P (run P X n) nt all o T ms)) ?_ (λn=>(e0 n).symm);have ho':c.operands.toList.all okX=true:=by
    have:=qMa ho λt g e=>by cases e
    simpa [Op.operands]using this
   have hargs:c.args.toList.all okX=true:=
    List.all_eq_true.2 λx hx=>List.all_eq_true.1 ho' x (by unfold Call.operands;simp only[Array.toList_append,List.mem_append];exact .inr hx)
   cases hc:c.callee with
   | builtin b=>
     have hS:isS S T c=false:=by unfold isS;rw[hc]
     simp only[qWd,hc]at h;rw[hS];exact plain h
   | invoke r name=>
     have hS:isS S T c=false:=by unfold isS;rw[hc]
     simp only[qWd,hc]at h;rw[hS];exact plain h
   | value f=>
     have hf:okX f=true:=List.all_eq_true.1 ho' f (by simp[Call.operands,hc]);simp only[qWd,hc]at h;have main:∀(k:FuncId) (first cap:List AV),evD env f=.fn (.func k) first cap->S k=true->isFn P k=true->qAg P X S k (first++c.args.toList.map (evD env)++cap) K R s->
       wpF (λn=>cond (isS S T c) (bd (opA P T (.call c)) (qMC (runP P X S n) nt T ms o.dst)) (qG0 P (run P X n) nt all o T ms)) (λr s'=>(∃T',r=.done (.exit .nrm T' ms)/\Q T' s')∨∃v,r=.pan v T ms/\R v s') s:=by
      intro k first cap he hS hk hcall
      have hS':isS S T c=true:=by rw[qTh hT hc hf,he];exact hS
      rw[hS'];have ec:opA P T (.call c)=ret (.enter k (first++c.args.toList.map (evD env)++cap)):=by show qH2 P T c=_;unfold qH2;simp only[qOk hT hargs,hc,qIk hT hf,he];unfold goA;rw[hk];rfl
      simp only[cond_true];rw[ec];refine wpF.bd (m:=λ_=>ret (ANext.enter k (first++c.args.toList.map (evD env)++cap))) (f:=λn nx=>qMC (runP P X S n) nt T ms o.dst nx) (.const _) (λnx=>qBw λn=>qT3 (qHH n) _ _ _ _ _) (wpF.ret ?_);refine wpF.bd (m:=λn=>runP P X S n (.call k (first++c.args.toList.map (evD env)++cap))) (f:=λ_ r=>qYE nt T ms o.dst r) (qEI _) (λ_=>.const _) (hcall.mono ?_);rintro r s' (⟨v,rfl,hK⟩|⟨v,rfl,hR⟩)
      ·obtain⟨T',h1,h2⟩:=hQ v s' hK
       refine wpF.bd (m:=λ_=>lift (setT nt T o.dst v)) (f:=λ_ T=>ret (PO.done (.exit .nrm T ms))) (.const _) (λ_=>.const _) (wpF.lift h1 (wpF.ret (.inl ⟨T',rfl,h2⟩)))
      ·exact wpF.ret (.inr ⟨v,rfl,hR⟩)
     have mainF:qT5 P X S (evD env f) (c.args.toList.map (evD env)) K R s->(wpOp P X env K s (.call c)=funK P X (evD env f) (c.args.toList.map (evD env)) K s)->wpF (λn=>cond (isS S T c) (bd (opA P T (.call c)) (qMC (runP P X S n) nt T ms o.dst)) (qG0 P (run P X n) nt all o T ms)) (λr s'=>(∃T',r=.done (.exit .nrm T' ms)/\Q T' s')∨∃v,r=.pan v T ms/\R v s') s:=by
      intro h hop';unfold qT5 at h;split at h
      ·rename_i k first cap he
       cases hS:S k with
       | true=>
         rw[hS,cond_true]at h;exact main k first cap he hS h.1 h.2
       | false=>
         rw[hS,cond_false,<- he]at h;have hS':isS S T c=false:=by rw[qTh hT hc hf,he];exact hS
         rw[hS'];exact plain (by rw[hop'];exact h)
      ·rename_i hne
       have hS':isS S T c=false:=by
        rw[qTh hT hc hf];split
        ·rename_i k' a b he
         exact absurd he (hne _ _ _)
        ·rfl
       rw[hS'];exact plain (by rw[hop'];exact h)
     cases f with
     | func k=>
       simp only at h;have he:evD env (.func k)=.fn (.func k) [] []:=rfl;cases hS:S k with
       | true=>
         rw[hS,cond_true]at h;cases hk:isFn P k with
         |false=>rw[hk]at h;exact h.elim
         | true=>
           rw[hk,cond_true]at h;exact main k [] [] he hS hk (by rw[List.nil_append,List.append_nil];exact h)
       | false=>
         rw[hS,cond_false]at h;have hS':isS S T c=false:=by rw[qTh hT hc hf,he];exact hS
         rw[hS'];refine plain ?_;unfold wpOp;simp only[hc];exact h
     |tmp t=>exact mainF h (by unfold wpOp;simp only[hc])
     |const l=>exact mainF h (by unfold wpOp;simp only[hc])
     |_=>exact mainF h (by unfold wpOp;simp only[hc])
 | _=>
   rw[hop]at h plain;refine wpF.congr (m:=λn=>qG0 P (run P X n) nt all o T ms) (plain h) (λn=>by unfold opP;simp only[hw,hop])
end Go.AM
namespace Go.AM
open Go
variable {P:Program} {X:Td} {S:FuncId→Bool} {nt:Nat} {A:Nat→List Nat}
theorem qWf(all:List Oper)(ms:List Mk)(l:List Oper)(T:Tmps):Mono λn=>opsP P S (run P X n) (runP P X S n) nt all ms l T:=qBw λn=>qNl (qC4 n) (qHH n) nt all ms l T
theorem qPf{all:List Oper}{ms:List Mk}{K:Env->Hq->Prop}{R:AV->Env->Hq->Prop}:∀(os:List Oper) (kn:Kn) (env:Env) (s:Hq) (T:Tmps),(os.all λo=>okOp o.op)=true->TR T env->KnOk kn env->qSF P X S nt all os kn env K R s->
  wpF (λn=>opsP P S (run P X n) (runP P X S n) nt all ms os T) (λr s'=>(∃T' env',r=.done (.exit .nrm T' ms)/\TR T' env'/\K env' s'/\∀j,(∀o∈os,o.dst≠some j)->env' j=env j)∨∃v T' env',r=.pan v T' ms/\TR T' env'/\R v env' s'/\∀j,(∀o∈os,o.dst≠some j)->env' j=env j) s
 |[],_,env,s,T,_,hT,_,h=>wpF.ret (.inl ⟨T,env,rfl,hT,h,λ_ _=>rfl⟩)
 | o::os,kn,env,s,T,ha,hT,hk,h=>by
   simp only[List.all_cons,Bool.and_eq_true]at ha;obtain⟨kn',hk',hcase⟩:=qKP hT hk h;have next:∀(v:AV) (kn2:Kn),(∀env',(∀d,o.dst≠some d->env' d=env d)->(∀d,o.dst=some d->env' d=v)->KnOk kn2 env')->∀(s':Hq),(setK nt o.dst env v λenv=>qSF P X S nt all os kn2 env K R s')->∃T',setT nt T o.dst v=some T'/\wpF (λn=>opsP P S (run P X n) (runP P X S n) nt all ms os T') (λr s'=>(∃T' env',r=.done (.exit .nrm T' ms)/\TR T' env'/\K env' s'/\∀j,(∀o_1∈o::os,o_1.dst≠some j)->env' j=env j)∨∃v T' env',r=.pan v T' ms/\TR T' env'/\R v env' s'/\∀j,(∀o_1∈o::os,o_1.dst≠some j)->env' j=env j) s':=by
    intro v kn2 hk2 s' hv;obtain⟨T',env',e1,e2,e3,e4,e5⟩:=qPH hT hv;refine⟨T',e1,(qPf os _ env' s' T' ha.2 e2 (hk2 env' e4 e5) e3).mono ?_⟩;rintro r s2 (⟨T2,env2,rfl,q1,q2,q3⟩|⟨v,T2,env2,rfl,q1,q2,q3⟩)
    ·exact .inl ⟨T2,env2,rfl,q1,q2,λj hj=>(q3 j λp hp=>hj p (by simp[hp])).trans (e4 j (hj o (by simp)))⟩
    ·exact .inr ⟨v,T2,env2,rfl,q1,q2,λj hj=>(q3 j λp hp=>hj p (by simp[hp])).trans (e4 j (hj o (by simp)))⟩
   have mono1:Mono λn=>opP P S (run P X n) (runP P X S n) nt all o T ms:=qBw λn=>zAAY (qC4 n) (qHH n) _ _ _ _ _;refine wpF.bd (f:=λn r=>match r with
    | .done (.exit .nrm T _)=>opsP P S (run P X n) (runP P X S n) nt all ms os T
    | r=>ret r) mono1 (λr=>qBw λn=>by
      split
      ·exact qNl (qC4 n) (qHH n) nt all ms os _
      ·exact LeM.refl _) ?_
   rcases hcase with⟨hw,h⟩|⟨hw,h⟩
   ·refine(zACc (Q:=λT' s'=>wpF (λn=>opsP P S (run P X n) (runP P X S n) nt all ms os T') _ s') hT ha.1 hw h λv s' hv=>next v _ (λenv' e4 _=>hk'.forget e4) s' hv).mono ?_
    rintro r s' (⟨T',rfl,hq⟩|⟨v,rfl,hR⟩)
    ·exact hq
    ·exact wpF.ret (.inr ⟨v,T,env,rfl,hT,hR,λ_ _=>rfl⟩)
   ·obtain⟨T',h1,h2⟩:=next .undef _ (λenv' e4 e5=>hk'.mark e4 λd hd=>by rw[e5 d hd]) s h
    have e0:∀n,opP P S (run P X n) (runP P X S n) nt all o T ms=ret (.done (.exit .nrm T' ms)):=λn=>by
     unfold opP qG0 qHt qD9;simp only[hw]
     funext H
     simp only[bd,ret,lift,h1]
    exact(wpF.ret (s:=s) (Q:=λr s'=>wpF (λn=>match r with
    | .done (.exit .nrm T _)=>opsP P S (run P X n) (runP P X S n) nt all ms os T
    |r=>ret r) _ s') h2).congr λn=>(e0 n).symm
def zAAt(c:Code)(env:Env)(K:AExit->Env->Hq->Prop)(R:AV->Env->Hq->Prop)(ms:List Mk)(r:PO)(s':Hq):Prop:=
 (∃e T' env',r=.done (.exit e T' ms)/\TR T' env'/\(∀j,j ∉ assigned c->env' j=env j)/\K e env' s')∨
 ∃v T' env',r=.pan v T' ms/\TR T' env'/\(∀j,j ∉ assigned c->env' j=env j)/\R v env' s'
def zAC6(P:Program)(X:Td)(S:FuncId->Bool)(A:Nat->List Nat)(nt:Nat)(c:Code):Prop:=∀(env:Env) (K:AExit->Env->Hq->Prop) (R:AV->Env->Hq->Prop) (s:Hq),noRF c=true->wpCP P X S A nt c env K R s->∀(T:Tmps) (ms:List Mk),TR T env->
 wpF (λn=>runP P X S n (.code nt c T ms)) (zAAt c env K R ms) s
theorem qDd{c:Code}{T:Tmps}{ms:List Mk}{Q:PO->Hq->Prop}{s:Hq}(h:wpF (λn=>qJc P S (run P X n) (runP P X S n) nt c T ms) Q s):wpF (λn=>runP P X S n (.code nt c T ms)) Q s:=h.succ λ_=>rfl
theorem qTC(hX:FrX X){c:Code}{env:Env}{K:AExit->Env->Hq->Prop}{R:AV->Env->Hq->Prop}{s:Hq}{T:Tmps}{ms:List Mk}(hn:noRF c=true)(h:wpC P X A nt none c env K s)(hT:TR T env):
  wpF (λn=>oldP (run P X n) nt c T ms) (zAAt c env K R ms) s:=by
 have h1:=qGY (P:=P) (X:=X) (A:=A) (nt:=nt) (rnd:=none) hX c env K s h T [] hT (by simp) List.nodup_nil;rw[qLE]at h1;refine wpF.bd (m:=λn=>run P X n (.code nt none c T ms)) (f:=λ_ o=>ret (PO.done o)) (qCq _) (λ_=>.const _) ((qSC hn ms h1).mono ?_);rintro o S' ⟨o',rfl,hno,e,T2,env2,ms',s2,rfl,q1,rfl,_,_,q4,_,q6⟩;simp only[reMs,Out.exit.injEq,true_and,List.append_nil]at hno;have hms:ms'=[]:=by
  cases ms' with
  |nil=>rfl
  |cons _ _=>cases hno
 subst hms;rw[List.append_nil,qLE];exact wpF.ret (.inl ⟨e,T2,env2,rfl,q1,q4,q6⟩)
theorem qIC(hX:FrX X):∀c:Code,zAC6 P X S A nt c
 | .region id ops draw=>λenv K R s hn h T ms hT=>by
   refine qDd ?_;unfold wpCP at h;refine wpF.congr (m:=λn=>cond (draw&&qQp S ops.toList)
    (cond (qOY ops) (bd (opsD P (run P X n) nt ops.pop ops.pop.toList (masks ops.pop.toList []) [] T) λT=>opsP P S (run P X n) (runP P X S n) nt ops.toList ms (ops.toList.drop ops.pop.size) T) fail)
    (cond (draw||(qBg ops.toList).isSome) (oldP (run P X n) nt (.region id ops draw) T ms) (opsP P S (run P X n) (runP P X S n) nt ops.toList ms ops.toList T))) ?_ (λn=>rfl)
   have out:∀j,j ∉ assigned (.region id ops draw)->∀o∈ops.toList,o.dst≠some j:=λj hj o ho hd=>hj (qHU ho hd);cases hdl:(draw&&qQp S ops.toList)with
   | true=>
     rw[hdl,cond_true]at h;simp only[cond_true];cases hok:(qOY ops&&(ops.toList.drop ops.pop.size).all λo=>okOp o.op)with
     |false=>rw[hok]at h;exact h.elim
     |true=>
     rw[hok,cond_true]at h;obtain⟨k1,k2⟩:=Bool.and_eq_true_iff.1 hok;simp only[k1,cond_true];unfold wpC at h;cases hokd:((ops.pop.toList.all λo=>okOp o.op)&&(true||(qBg ops.pop.toList).isNone))with
     |false=>rw[hokd]at h;exact h.elim
     |true=>
     rw[hokd,cond_true,cond_true]at h;obtain⟨hok1,_⟩:=Bool.and_eq_true_iff.1 hokd;cases hr:(qCd ops.pop.toList&&qMo (qTZ A ops.pop.toList) ops.pop (clsL P ops.pop.toList) (masks ops.pop.toList []))with
     |false=>rw[hr]at h;exact h.elim
     |true=>
     rw[hr,cond_true]at h;obtain⟨h1,h2⟩:=Bool.and_eq_true_iff.1 hr;have hlen:(masks ops.pop.toList []).length=ops.pop.size:=by rw[qIy];simp
     have hpre:wpF (λn=>opsD P (run P X n) nt ops.pop ops.pop.toList (masks ops.pop.toList []) [] T) (λT' s'=>∃env',TR T' env'/\qSF P X S nt ops.toList (ops.toList.drop ops.pop.size) [] env' (λenv s=>K .nrm env s) R s'/\∀j,(∀o∈ops.pop.toList,o.dst≠some j)->env' j=env j) s:=λH hH=>by obtain⟨n,T',H',q1,s',env',q2,q3,q4,q5,q6⟩:=qSp hX hlen h2 ops.pop.toList 0 [] [] [] env s T [] rfl hok1 hT .nil h H hH ⟨rfl,by simp,by simp,by simp,by simp,by simp⟩;exact⟨n,T',H',q1,s',q2,q3,env',q4,q5,q6⟩
     refine wpF.bd (f:=λn T=>opsP P S (run P X n) (runP P X S n) nt ops.toList ms (ops.toList.drop ops.pop.size) T) (qNZ _ _ _ _ _) (λT=>qWf _ _ _ _) (hpre.mono ?_);rintro T1 s1 ⟨env1,t1,e1,f1⟩;have sub1:∀o,o∈ops.pop.toList->o∈ops.toList:=λo ho=>by rw[Array.toList_pop]at ho;exact(List.dropLast_sublist _).subset ho
     refine(qPf _ [] env1 s1 T1 k2 t1 .nil e1).mono ?_;rintro r s' (⟨T',env',rfl,q1,q2,q3⟩|⟨v,T',env',rfl,q1,q2,q3⟩)
     ·exact .inl ⟨.nrm,T',env',rfl,q1,λj hj=>(q3 j λo ho=>out j hj o (List.mem_of_mem_drop ho)).trans (f1 j λo ho=>out j hj o (sub1 o ho)),q2⟩
     ·exact .inr ⟨v,T',env',rfl,q1,λj hj=>(q3 j λo ho=>out j hj o (List.mem_of_mem_drop ho)).trans (f1 j λo ho=>out j hj o (sub1 o ho)),q2⟩
   |false=>
   rw[hdl,cond_false]at h;simp only[cond_false];cases hd:(draw||(qBg ops.toList).isSome)with
   | true=>
     rw[hd,cond_true]at h;simp only[cond_true];exact qTC hX hn h hT
   | false=>
     rw[hd,cond_false]at h;simp only[cond_false];cases hok:(ops.toList.all λo=>okOp o.op)with
     |false=>rw[hok]at h;exact h.elim
     |true=>
     rw[hok,cond_true]at h;refine(qPf ops.toList [] env s T hok hT .nil h).mono ?_;rintro r s' (⟨T',env',rfl,q1,q2,q3⟩|⟨v,T',env',rfl,q1,q2,q3⟩)
     ·exact .inl ⟨.nrm,T',env',rfl,q1,λj hj=>q3 j (out j hj),q2⟩
     ·exact .inr ⟨v,T',env',rfl,q1,λj hj=>q3 j (out j hj),q2⟩
 | .seq a b=>λenv K R s hn h T ms hT=>by
   unfold noRF at hn;obtain⟨hn1,hn2⟩:=Bool.and_eq_true_iff.1 hn;refine qDd ?_;unfold wpCP at h;unfold qJc;refine wpF.bd (m:=λn=>runP P X S n (.code nt a T ms)) (f:=λn r=>match r with
    | .done (.exit .nrm T ms)=>runP P X S n (.code nt b T ms)
    | r=>ret r) (qEI _) (λr=>qBw λn=>by
      split
      ·exact qHH n _
      ·exact LeM.refl _) ((qIC hX a env _ R s hn1 h T ms hT).mono ?_)
   rintro r s1 (⟨e,T1,env1,rfl,q1,q2,q3⟩|⟨v,T1,env1,rfl,q1,q2,q3⟩)
   ·cases e with
    | nrm=>
      refine(qIC hX b env1 K R s1 hn2 q3 T1 ms q1).mono ?_;rintro r s2 (⟨e,T2,env2,rfl,r1,r2,r3⟩|⟨v,T2,env2,rfl,r1,r2,r3⟩)
      ·exact .inl ⟨e,T2,env2,rfl,r1,λj hj=>by simp only[assigned,List.mem_append,not_or]at hj;rw[r2 j hj.2,q2 j hj.1],r3⟩
      ·exact .inr ⟨v,T2,env2,rfl,r1,λj hj=>by simp only[assigned,List.mem_append,not_or]at hj;rw[r2 j hj.2,q2 j hj.1],r3⟩
    |exit id=>exact wpF.ret (.inl ⟨_,T1,env1,rfl,q1,λj hj=>q2 j (by simp only[assigned,List.mem_append,not_or]at hj;exact hj.1),q3⟩)
    |ret=>exact wpF.ret (.inl ⟨_,T1,env1,rfl,q1,λj hj=>q2 j (by simp only[assigned,List.mem_append,not_or]at hj;exact hj.1),q3⟩)
   ·exact wpF.ret (.inr ⟨v,T1,env1,rfl,q1,λj hj=>q2 j (by simp only[assigned,List.mem_append,not_or]at hj;exact hj.1),q3⟩)
 | .cond c a b=>λenv K R s hn h T ms hT=>by
   unfold noRF at hn;obtain⟨hn1,hn2⟩:=Bool.and_eq_true_iff.1 hn;refine qDd ?_;unfold wpCP at h;cases hok:okX c with
   |false=>rw[hok]at h;exact h.elim
   |true=>
   rw[hok,cond_true]at h;unfold qJc;simp only[qIk hT hok];unfold qAJ at h;split at h
   ·rename_i e
    simp only[e,cond_true];refine(qIC hX a env K R s hn1 h T ms hT).mono ?_;rintro r s' (⟨e,T2,env2,rfl,r1,r2,r3⟩|⟨v,T2,env2,rfl,r1,r2,r3⟩)
    ·exact .inl ⟨e,T2,env2,rfl,r1,λj hj=>r2 j (by simp only[assigned,List.mem_append,not_or]at hj;exact hj.1),r3⟩
    ·exact .inr ⟨v,T2,env2,rfl,r1,λj hj=>r2 j (by simp only[assigned,List.mem_append,not_or]at hj;exact hj.1),r3⟩
   ·rename_i e
    simp only[e,cond_false];refine(qIC hX b env K R s hn2 h T ms hT).mono ?_;rintro r s' (⟨e,T2,env2,rfl,r1,r2,r3⟩|⟨v,T2,env2,rfl,r1,r2,r3⟩)
    ·exact .inl ⟨e,T2,env2,rfl,r1,λj hj=>r2 j (by simp only[assigned,List.mem_append,not_or]at hj;exact hj.2),r3⟩
    ·exact .inr ⟨v,T2,env2,rfl,r1,λj hj=>r2 j (by simp only[assigned,List.mem_append,not_or]at hj;exact hj.2),r3⟩
   ·exact h.elim
 | .block id b=>λenv K R s hn h T ms hT=>by
   unfold noRF at hn;refine qDd ?_;unfold wpCP at h;unfold qJc;refine wpF.bd (m:=λn=>runP P X S n (.code nt b T ms)) (f:=λ_ r=>match r with
    | .done (.exit (.exit id') T ms)=>cond (Nat.beq id' id) (ret (.done (.exit .nrm T ms))) (ret (.done (.exit (.exit id') T ms)))
    |r=>ret r) (qEI _) (λ_=>.const _) ((qIC hX b env _ R s hn h T ms hT).mono ?_)
   rintro r s1 (⟨e,T1,env1,rfl,q1,q2,q3⟩|⟨v,T1,env1,rfl,q1,q2,q3⟩)
   ·cases e with
    | exit id'=>
      simp only at q3 ⊢;cases hb:Nat.beq id' id with
      |true=>rw[hb]at q3;exact wpF.ret (.inl ⟨_,T1,env1,rfl,q1,q2,q3⟩)
      |false=>rw[hb]at q3;exact wpF.ret (.inl ⟨_,T1,env1,rfl,q1,q2,q3⟩)
    |nrm=>exact wpF.ret (.inl ⟨_,T1,env1,rfl,q1,q2,q3⟩)
    |ret=>exact wpF.ret (.inl ⟨_,T1,env1,rfl,q1,q2,q3⟩)
   ·exact wpF.ret (.inr ⟨v,T1,env1,rfl,q1,q2,q3⟩)
 | .loop b=>λenv K R s hn h T ms hT=>by
   unfold noRF at hn;obtain⟨hn1,hn2⟩:=Bool.and_eq_true_iff.1 hn;have hms:qBn b=none:=by simpa using hn1
   unfold wpCP at h;rw[hms]at h;simp only at h;unfold qUs at h;obtain⟨I,⟨m,h0⟩,hstep⟩:=h;have key:∀(m:Nat) (env1:Env) (s1:Hq) (T1:Tmps),I ((A (2*qHX b)).map env1) s1 m->(∀j,j ∉ assigned b->env1 j=env j)->TR T1 env1->wpF (λn=>runP P X S n (.code nt (.loop b) T1 ms)) (zAAt (.loop b) env K R ms) s1:=by
    intro m
    induction m using Nat.strongRecOn with
    | _ m ih=>
      intro env1 s1 T1 hI hag hT1;refine qDd ?_;have hmix:mixE (assigned b) env1 env=env1:=by
       funext j
       unfold mixE;cases hj:memN j (assigned b)with
       |true=>rfl
       |false=>exact(hag j λq=>by rw[qGo.2 q]at hj;cases hj).symm
      have hbody:=hstep env1 s1 m hI;rw[hmix]at hbody;unfold qJc;simp only[hms];refine wpF.bd (m:=λn=>runP P X S n (.code nt b T1 ms)) (f:=λn r=>match r with
       | .done (.exit .nrm T ms)=>runP P X S n (.code nt (.loop b) T ms)
       | r=>ret r) (qEI _) (λr=>qBw λn=>by
         split
         ·exact qHH n _
         ·exact LeM.refl _) ((qIC hX b env1 _ R s1 hn2 hbody T1 ms hT1).mono ?_)
      rintro r s2 (⟨e,T2,env2,rfl,q1,q2,q3⟩|⟨v,T2,env2,rfl,q1,q2,q3⟩)
      ·have hag2:∀j,j ∉ assigned b->env2 j=env j:=λj hj=>(q2 j hj).trans (hag j hj)
       cases e with
       | nrm=>
         obtain⟨m',hlt,hI'⟩:=q3;exact ih m' hlt env2 s2 T2 hI' hag2 q1
       |exit id=>exact wpF.ret (.inl ⟨_,T2,env2,rfl,q1,hag2,q3⟩)
       |ret=>exact wpF.ret (.inl ⟨_,T2,env2,rfl,q1,hag2,q3⟩)
      ·exact wpF.ret (.inr ⟨v,T2,env2,rfl,q1,λj hj=>(q2 j hj).trans (hag j hj),q3⟩)
   exact key m env s T h0 (λ_ _=>rfl) hT
 | .skip=>λenv K R s hn h T ms hT=>qDd (qTC hX hn h hT)
 | .exit _=>λenv K R s hn h T ms hT=>qDd (qTC hX hn h hT)
 | .ret=>λenv K R s hn h T ms hT=>qDd (qTC hX hn h hT)
 | .rangeFunc _ _ _ _=>λenv K R s hn h T ms hT=>by cases hn
 | .scope _=>λenv K R s hn h T ms hT=>by cases hn
 | .label _=>λenv K R s hn h T ms hT=>by cases hn
 | .goto _=>λenv K R s hn h T ms hT=>by cases hn
 | .refuse _=>λenv K R s hn h T ms hT=>by cases hn
theorem qCf(hX:FrX X)(A:Nat->List Nat){f:FuncId}{fn:Func}{c:Code}(hf:P.funcs[f]?=some fn)(hb:fn.body=some c)(hn:noRF c=true){args:List AV}(hl:Nat.ble args.length fn.ntmps=true){K R:AV->Hq->Prop}{s:Hq}
  (h:wpCP P X S A fn.ntmps c (qJU args) (λe env s=>retK e (resK P fn.results.toList env (λvs=>K (oneV vs) s) s)) (λv _ s=>R v s) s):qAg P X S f args K R s:=by
 unfold qAg;refine wpF.succ (m:=λn=>fnP P (run P X n) (runP P X S n) f args) ?_ (λ_=>rfl);unfold fnP;simp only[hf,hb];refine wpF.cond hl ?_;refine wpF.bd (m:=λn=>runP P X S n (.code fn.ntmps c (Tr.ofListAt .nil 0 args) [])) (f:=λn r=>endP P (run P X n) fn.results.toList r) (qEI _) (λr=>qBw λn=>qRs (qC4 n) _ _) ((qIC hX c _ _ _ s hn h (Tr.ofListAt .nil 0 args) [] (qKC args)).mono ?_);rintro r s' (⟨e,T',env',rfl,q1,_,q3⟩|⟨v,T',env',rfl,q1,_,q3⟩)
 ·have body:resK P fn.results.toList env' (λvs=>K (oneV vs) s') s'->wpF (λn=>bd (qAu P (run P X n) []) λ_=>bd (qBK P T' fn.results.toList) λvs=>ret (PO.done (.val (oneV vs)))) (λr s'=>(∃v,r=.done (.val v)/\K v s')∨∃v,r=.pan v .nil []/\R v s') s':=by
   intro hr;unfold qAu;refine wpF.bd (m:=λ_=>ret ()) (f:=λ_ _=>bd (qBK P T' fn.results.toList) λvs=>ret (PO.done (.val (oneV vs)))) (.const _) (λ_=>.const _) (wpF.ret ?_);refine wpF.bd (m:=λ_=>qBK P T' fn.results.toList) (f:=λ_ vs=>ret (PO.done (.val (oneV vs)))) (.const _) (λ_=>.const _) ((qEg q1 _ _ _ hr).mono ?_);rintro vs s'' ⟨rfl,hk⟩;exact wpF.ret (.inl ⟨_,rfl,hk⟩)
  cases e with
  |exit id=>exact q3.elim
  |nrm=>exact body q3
  |ret=>exact body q3
 ·exact wpF.ret (.inr ⟨v,rfl,q3⟩)
end Go.AM
namespace Go.AM
open Go
variable {P:Program} {X:Td} {S:FuncId→Bool} {nt:Nat} {A:Nat→List Nat}
def qWH(P:Program)(X:Td)(k:FuncId)(args:List AV)(v:AV)(Q:Hq->Prop)(s:Hq):Prop:=wpF (λn=>qIo P (run P X n) k args v) (λ_ s=>Q s) s
def recK(P:Program)(X:Td)(fv:AV)(v:AV)(Q:Hq->Prop)(s:Hq):Prop:=match fv with
 | .fn (.func k) first cap=>qWH P X k (first++cap) v Q s
 |_=>False
def qMs(c:Code)(env:Env)(v:AV):Env:=match qHW c with
 |some (t,_)=>upd env t v
 |none=>env
theorem qUF(hX:FrX X)(A:Nat->List Nat){k:FuncId}{fn:Func}{c:Code}(hf:P.funcs[k]?=some fn)(hb:fn.body=some c)(hr:fn.results.toList=[])(hc:qYr c fn.ntmps=true){args:List AV}{v:AV}(hl:Nat.ble args.length fn.ntmps=true){K:AV->Hq->Prop}{s:Hq}
  (h:wpC P X A fn.ntmps none (qQr c) (qMs c (qJU args) v) (λe env s=>retK e (resK P fn.results.toList env (λvs=>K (oneV vs) s) s)) s):qWH P X k args v (λs=>K (.tup []) s) s:=by
 unfold qYr at hc;unfold qQr qMs at h;cases hq:qHW c with
 |none=>rw[hq]at hc;cases hc
 |some p=>
 obtain⟨t,r⟩:=p;rw[hq]at hc h;simp only at hc h;obtain⟨hno,hlt⟩:=Bool.and_eq_true_iff.1 hc;rw[hr]at h;unfold qWH qIo;simp only[hf,hb,hr];refine wpF.cond hl ?_;have hd:qMt fn (Tr.ofListAt .nil 0 args) v c=some (r,(Tr.ofListAt .nil 0 args).put t (some v)):=by unfold qMt;rw[hq];simp only[hlt,cond_true]
 rw[hd];simp only;have hT:=qOc (qKC args) t v;have hcode:=qGY (P:=P) (X:=X) (A:=A) (nt:=fn.ntmps) (rnd:=none) hX r _ _ s h _ [] hT (by simp) List.nodup_nil;rw[qLE]at hcode;refine wpF.bd (qCq _) (λo=>.const _) ((qSC hno [] hcode).mono ?_);rintro o S ⟨o',rfl,hno',e,T2,env2,ms',s2,rfl,q1,rfl,_,_,_,_,q6⟩;simp only[reMs,Out.exit.injEq,true_and,List.append_nil]at hno';have hms:ms'=[]:=by
  cases ms' with
  |nil=>rfl
  |cons _ _=>cases hno'
 subst hms;rw[List.append_nil,qLE];cases e with
 |nrm=>exact wpF.ret q6
 |ret=>exact wpF.ret q6
 |exit id=>exact q6.elim
def wpDP(P:Program)(X:Td)(S:FuncId->Bool)(A:Nat->List Nat)(nt:Nat):Code->Env->(AV->AExit->Env->Hq->Prop)->(AV->AV->Env->Hq->Prop)->Hq->Prop
 | .seq a b,env,K,R,s=>match qXt a with
   | some (all,l,c)=>match qXw c with
     |some f=>cond ((l.all λo=>okOp o.op)&&noRF b) (opsE P X nt all l [] env (λenv s=>qV6 P (evD env f)/\wpCP P X S A nt b env (K (evD env f)) (R (evD env f)) s) s) False
     |none=>False
   | none=>cond (noRF a) (wpCP P X S A nt a env (λe env s=>match e with
     | .nrm=>wpDP P X S A nt b env K R s
     |_=>False) (λ_ _ _=>False) s) False
 |_,_,_,_,_=>False
def zADo(P:Program)(K:AV->AExit->Env->Hq->Prop)(R:AV->AV->Env->Hq->Prop)(r:PO)(s:Hq):Prop:=∃T env k first cap,TR T env/\isFn P k=true/\
 ((∃e,r=.done (.exit e T [.call k (first++cap)])/\K (.fn (.func k) first cap) e env s)∨∃v,r=.pan v T [.call k (first++cap)]/\R (.fn (.func k) first cap) v env s)
theorem qX4(hX:FrX X):∀(c:Code) (env:Env) (K:AV->AExit->Env->Hq->Prop) (R:AV->AV->Env->Hq->Prop) (s:Hq) (T:Tmps),TR T env->wpDP P X S A nt c env K R s->wpF (λn=>runP P X S n (.code nt c T [])) (zADo P K R) s
 | .seq a b,env,K,R,s,T,hT,h=>by
   refine qDd ?_;unfold wpDP at h;unfold qJc;have monoB:∀r:PO,Mono λn=>(match r with
    | .done (.exit .nrm T ms)=>runP P X S n (.code nt b T ms)
    | r=>ret r:M PO):=λr=>qBw λn=>by
      split
      ·exact qHH n _
      ·exact LeM.refl _
   cases hd:qXt a with
   | some p=>
     obtain⟨all,l,c⟩:=p;rw[hd]at h;simp only at h;cases hf:qXw c with
     |none=>rw[hf]at h;exact h.elim
     |some f=>
     rw[hf]at h;simp only at h;cases hok:((l.all λo=>okOp o.op)&&noRF b)with
     |false=>rw[hok]at h;exact h.elim
     |true=>
     rw[hok,cond_true]at h;obtain⟨hok1,hok2⟩:=Bool.and_eq_true_iff.1 hok;refine wpF.bd (m:=λn=>runP P X S n (.code nt a T [])) (qEI _) monoB ?_;cases a with
     | region id ops draw=>
       cases draw with
       |true=>cases hd
       |false=>
       simp only[qXt]at hd;cases hq:qBg ops.toList with
       |none=>rw[hq]at hd;cases hd
       |some q=>
       rw[hq]at hd;simp only[Option.some.injEq,Prod.mk.injEq]at hd;obtain⟨rfl,rfl,rfl⟩:=hd;refine qDd ?_;refine wpF.congr (m:=λn=>oldP (run P X n) nt (.region id ops false) T []) ?_ (λn=>by show _=cond (false||(qBg ops.toList).isSome) _ _;rw[hq];rfl)
       refine wpF.bd (m:=λn=>run P X n (.code nt none (.region id ops false) T [])) (f:=λ_ o=>ret (PO.done o)) (qCq _) (λ_=>.const _) (qEv ?_);unfold qBI;simp only[cond_false,hq];refine wpF.bd (qNa _ _ _ _) (λT=>.const _) ((qRz _ _ _ _ _ hok1 hT .nil h).mono ?_);rintro T1 s1 ⟨env1,hT1,⟨h1,h2⟩,_⟩;unfold qV6 at h1;split at h1
       ·rename_i k first cap hv
        have x2:=h1;unfold qXw at hf;split at hf
        ·rename_i f' hcal
         cases hz:(q.2.args.toList.isEmpty&&okX f')with
         |false=>rw[hz]at hf;cases hf
         |true=>
         rw[hz]at hf;cases hf;obtain⟨z1,z2⟩:=Bool.and_eq_true_iff.1 hz;have z1:q.2.args.toList=[]:=by simpa using z1
         have hda:qJn P T1 q.2=some (.call k (first++cap)):=by unfold qJn;rw[hcal,z1];simp only[evs,qIk hT1 z2,hv,x2,cond_true,List.append_nil]
         rw[hda];refine wpF.ret (wpF.ret ?_);simp only;rw[hv]at h2;refine(qIC hX b env1 _ _ s1 hok2 h2 T1 [.call k (first++cap)] hT1).mono ?_;rintro r s2 (⟨e,T2,env2,rfl,q1,_,q3⟩|⟨v,T2,env2,rfl,q1,_,q3⟩)
         ·exact⟨T2,env2,k,first,cap,q1,x2,.inl ⟨e,rfl,q3⟩⟩
         ·exact⟨T2,env2,k,first,cap,q1,x2,.inr ⟨v,rfl,q3⟩⟩
        ·cases hf
       ·exact h1.elim
     |_=>cases hd
   | none=>
     rw[hd]at h;simp only at h;cases hn:noRF a with
     |false=>rw[hn]at h;exact h.elim
     |true=>
     rw[hn,cond_true]at h;have ha:=qIC (P:=P) (X:=X) (S:=S) (A:=A) (nt:=nt) hX a env _ _ s hn h T [] hT;refine wpF.bd (m:=λn=>runP P X S n (.code nt a T [])) (qEI _) monoB (ha.mono ?_);rintro r s1 (⟨e,T1,env1,rfl,q1,_,q3⟩|⟨v,T1,env1,rfl,q1,_,q3⟩)
     ·cases e with
      |nrm=>exact qX4 hX b env1 K R s1 T1 q1 q3
      |ret=>exact q3.elim
      |exit id=>exact q3.elim
     ·exact q3.elim
 | .skip,_,_,_,_,_,_,h=>h.elim
 | .region _ _ _,_,_,_,_,_,_,h=>h.elim
 | .cond _ _ _,_,_,_,_,_,_,h=>h.elim
 | .block _ _,_,_,_,_,_,_,h=>h.elim
 | .loop _,_,_,_,_,_,_,h=>h.elim
 | .exit _,_,_,_,_,_,_,h=>h.elim
 | .ret,_,_,_,_,_,_,h=>h.elim
 | .rangeFunc _ _ _ _,_,_,_,_,_,_,h=>h.elim
 | .scope _,_,_,_,_,_,_,h=>h.elim
 | .label _,_,_,_,_,_,_,h=>h.elim
 | .goto _,_,_,_,_,_,_,h=>h.elim
 | .refuse _,_,_,_,_,_,_,h=>h.elim
theorem qPx(hX:FrX X)(A:Nat->List Nat){f:FuncId}{fn:Func}{c:Code}(hf:P.funcs[f]?=some fn)(hb:fn.body=some c){args:List AV}(hl:Nat.ble args.length fn.ntmps=true){K R:AV->Hq->Prop}{s:Hq}
  (h:wpDP P X S A fn.ntmps c (qJU args) (λdv e env s=>retK e (runK P X dv (λs=>resK P fn.results.toList env (λvs=>K (oneV vs) s) s) s)) (λdv v env s=>recK P X dv v (λs=>resK P fn.results.toList env (λvs=>K (oneV vs) s) s) s) s):qAg P X S f args K R s:=by
 unfold qAg;refine wpF.succ (m:=λn=>fnP P (run P X n) (runP P X S n) f args) ?_ (λ_=>rfl);unfold fnP;simp only[hf,hb];refine wpF.cond hl ?_;refine wpF.bd (m:=λn=>runP P X S n (.code fn.ntmps c (Tr.ofListAt .nil 0 args) [])) (f:=λn r=>endP P (run P X n) fn.results.toList r) (qEI _) (λr=>qBw λn=>qRs (qC4 n) _ _) ((qX4 hX c _ _ _ s _ (qKC args) h).mono ?_);rintro r s' ⟨T',env',k,first,cap,q1,x2,(⟨e,rfl,q3⟩|⟨v,rfl,q3⟩)⟩
 ·have body:runK P X (.fn (.func k) first cap) (λs=>resK P fn.results.toList env' (λvs=>K (oneV vs) s) s) s'->wpF (λn=>bd (qAu P (run P X n) [.call k (first++cap)]) λ_=>bd (qBK P T' fn.results.toList) λvs=>ret (PO.done (.val (oneV vs)))) (λr s'=>(∃v,r=.done (.val v)/\K v s')∨∃v,r=.pan v .nil []/\R v s') s':=by
   intro hcall;refine wpF.bd (qEF _) (λ_=>.const _) ?_;unfold qAu;refine wpF.bd (f:=λn _=>qAu P (run P X n) []) (qBw λn=>qRS (qC4 n) _ _) (λ_=>qEF _) (wpF.mono hcall ?_);rintro _ s1 hr;refine wpF.ret ?_;refine wpF.bd (.const _) (λ_=>.const _) ((qEg q1 _ _ _ hr).mono ?_);rintro vs s'' ⟨rfl,hk⟩;exact wpF.ret (.inl ⟨_,rfl,hk⟩)
  cases e with
  |exit id=>exact q3.elim
  |nrm=>exact body q3
  |ret=>exact body q3
 ·have hcall:qWH P X k (first++cap) v (λs=>resK P fn.results.toList env' (λvs=>K (oneV vs) s) s) s':=q3
  refine wpF.bd (m:=λn=>qIo P (run P X n) k (first++cap) v) (f:=λ_ _=>bd (qBK P T' fn.results.toList) λvs=>ret (PO.done (.val (oneV vs)))) (qBw λn=>qQQ (qC4 n) _ _ _) (λ_=>.const _) (wpF.mono hcall ?_);rintro _ s1 hr;refine wpF.bd (.const _) (λ_=>.const _) ((qEg q1 _ _ _ hr).mono ?_);rintro vs s'' ⟨rfl,hk⟩;exact wpF.ret (.inl ⟨_,rfl,hk⟩)
end Go.AM
namespace Go.AM
open Go Go.RowKit
section
variable (P : Program) (X : Td) (S : FuncId → Bool)
open Classical in
noncomputable def limP(f:FuncId)(args:List AV):M AV:=λH=>
 if h:∃r:AV×AH,∃n,runP P X S n (.call f args) H=some (.done (.val r.1),r.2)then some (Classical.choose h)else none
noncomputable def limX(l:List FuncId):Td:=λf=>cond (memN f l) (some (limP P X S f)) none
end
variable {P:Program} {X Y:Td} {S:FuncId→Bool}
theorem qQb{f:FuncId}{args:List AV}{H H':AH}{v:AV}(h:limP P X S f args H=some (v,H')):∃n,runP P X S n (.call f args) H=some (.done (.val v),H'):=by
 unfold limP at h;split at h
 ·rename_i hex
  obtain⟨n,hn⟩:=Classical.choose_spec hex;have e:Classical.choose hex=(v,H'):=Option.some.inj h;rw[e]at hn;exact⟨n,hn⟩
 ·cases h
theorem qWz{f:FuncId}{args:List AV}{H H':AH}{v:AV}{n:Nat}(h:runP P X S n (.call f args) H=some (.done (.val v),H')):limP P X S f args H=some (v,H'):=by
 have hex:∃r:AV×AH,∃n,runP P X S n (.call f args) H=some (.done (.val r.1),r.2):=⟨(v,H'),n,h⟩
 unfold limP;rw[dif_pos hex];obtain⟨m,hm⟩:=Classical.choose_spec hex;have h1:=qEI (P:=P) (X:=X) (S:=S) (.call f args) n (max n m) H _ (Nat.le_max_left _ _) h;have h2:=qEI (P:=P) (X:=X) (S:=S) (.call f args) m (max n m) H _ (Nat.le_max_right _ _) hm;rw[h1]at h2;simp only[Option.some.injEq,Prod.mk.injEq,PO.done.injEq,Out.val.injEq]at h2;rw[h2.1,h2.2]
theorem zABS(hX:FrX X)(f:FuncId)(args:List AV):Fr (limP P X S f args):=by intro H1 a H1' h;obtain⟨n,hn⟩:=qQb h;obtain⟨es,d,k⟩:=qPB (P:=P) (S:=S) hX n (.call f args) H1 _ H1' hn;refine⟨es,d,λH2 h1 h2 h3=>?_⟩;obtain⟨H2',q1,q2,q3,q4⟩:=k H2 h1 h2 h3;exact⟨H2',qWz q1,q2,q3,q4⟩
theorem qXg(hX:FrX X)(l:List FuncId):FrX (limX P X S l):=λf g args h=>by
 unfold limX at h;cases hm:memN f l with
 |false=>rw[hm]at h;cases h
 |true=>rw[hm]at h;cases h;exact zABS hX f args
theorem limX_ok(hm:P.follows .mixedOrders=true)(hname:noNumB P=true)(hX:ExtOK P X)(l:List FuncId):ExtOK P (limX P X S l):=by
 refine⟨qXg hX.1 l,λf g hg args H v H' hr σ ρ base w args' hσ hwr hf hra=>?_⟩;unfold limX at hg;cases hmem:memN f l with
 |false=>rw[hmem]at hg;cases hg
 | true=>
   rw[hmem]at hg;cases hg;obtain⟨n,hn⟩:=qQb hr;rcases(qVr hm (noNum_of hname) hX S n).2 f args H _ H' hn with⟨v1,e,k⟩|⟨v1,e,_⟩
   ·cases e
    exact k σ ρ base w args' hσ hwr hf hra
   ·cases e
theorem zAAe(hX:FrX X)(hY:FrX Y):FrX (orX X Y):=λf g args h=>by
 unfold orX at h;cases hx:X f with
 |some g'=>rw[hx]at h;cases h;exact hX f _ args hx
 |none=>rw[hx]at h;exact hY f g args h
theorem zADL{l:List FuncId}{f:FuncId}{args:List AV}{K:AV->Hq->Prop}{s:Hq}(hf:memN f l=true)(h:qAg P X S f args K (λ_ _=>False) s):wC P (orX (limX P X S l) Y) f args K s:=by
 intro H hH;obtain⟨n,r,H',h1,s',h2,h3,h4⟩:=h H hH;rcases h4 with⟨v,rfl,hK⟩|⟨v,_,h5⟩
 ·refine⟨1,.val v,H',?_,s',h2,h3,v,rfl,hK⟩
  show(match orX (limX P X S l) Y f with
   |some g=>bd (g args) λv=>ret (Out.val v)
   |none=>qCI P (run P (orX (limX P X S l) Y) 0) f args) H=_
  have:orX (limX P X S l) Y f=some (limP P X S f):=by unfold orX limX;rw[hf];rfl
  rw[this];simp only[bd,qWz h1,ret]
 ·exact h5.elim
theorem qSL{g:Nat}{l0:List AV}{l:List FuncId}{f:FuncId}(hn:Y f=none)(hf:memN f l=true)(hp:plainC l0=true){K:AV->Hq->Prop}{s:Hq}{t:Bool}(hg:s g=some (t,.glob g (.agg l0)))(h:K (.bool true) s):wC P (orX Y (qG8 g l0 l)) f [] K s:=by
 intro H hH;obtain⟨_,ab,h1,h2⟩:=hH.at_ g t _ hg;cases ab with
 | glob g' v'=>
   obtain⟨rfl,rfl⟩:=h2;refine⟨1,.val (.bool true),{ H with log:=(g,false)::H.log },?_,s,hH.eqv rfl rfl λ_=>rfl,.refl _,_,rfl,h⟩;show(match orX Y (qG8 g l0 l) f with
    |some gg=>bd (gg []) λv=>ret (Out.val v)
    |none=>qCI P (run P (orX Y (qG8 g l0 l)) 0) f []) H=_
   have:orX Y (qG8 g l0 l) f=some λargs=>match args with
    | []=>bd (rd g) λblk=>match blk with
      | .glob g' v=>cond (Nat.beq g g'&&isV l0 v) (ret (.bool true)) fail
      |_=>fail
    |_=>fail:=by unfold orX;rw[hn];unfold qG8;rw[hf];rfl
   rw[this];have e1:Nat.beq g g=true:=Nat.beq_refl g;have e2:isV l0 (.agg l0)=true:=qL1 hp;simp only[bd,rd,h1,e1,e2,Bool.and_self,cond_true,ret]
 |_=>exact h2.elim
end Go.AM
namespace Go.AM
open Go Go.RowKit
structure Fit(σ:Nat->Value)(ρ:Ren)(base:Nat)(s t:Hq)(H:AH)(w:World):Prop where
 one:One σ
 rel:HRel (add s t) H
 wr:WR σ ρ base H w
 free:∀id,H.next<=id->ρ id=none
 dis:∀i,t i≠none->s i=none
structure Stp(σ:Nat->Value)(ρ ρ':Ren)(base:Nat)(s s' t:Hq)(H H':AH)(w w':World):Prop where
 post:Post σ ρ ρ' base H H' w w'
 next:H.next<=H'.next
 lo:H'.lo=H.lo
 pers:Pers s s'
 fit:Fit σ ρ' base s' t H' w'
variable {σ:Nat→Value} {ρ ρ' ρ1 ρ2:Ren} {base nt:Nat} {s s' s1 s2 t:Hq} {H H' H1 H2:AH} {w w' w1 w2:World} {P:Program} {X:Td} {A:Nat→List Nat}
theorem Stp.refl(h:Fit σ ρ base s t H w):Stp σ ρ ρ base s s t H H w w:=⟨⟨.refl _ _ _,h.wr,.refl _ _⟩,Nat.le_refl _,rfl,.refl _,h⟩
theorem Stp.trans(h:Stp σ ρ ρ1 base s s1 t H H1 w w1)(k:Stp σ ρ1 ρ2 base s1 s2 t H1 H2 w1 w2):Stp σ ρ ρ2 base s s2 t H H2 w w2:=
 ⟨h.post.trans k.post h.next k.next,Nat.le_trans h.next k.next,k.lo.trans h.lo,h.pers.trans k.pers,k.fit⟩
theorem Fit.freeTo(h:Fit σ ρ base s t H w)(b:Nat):Free ρ H.next b:=λid hid _=>h.free id hid
theorem Fit.sub(h:Fit σ ρ base s t H w)(hs:Sub s' s):Fit σ ρ base s' t H w:=
 ⟨h.one,h.rel.sub λi e hi=>by
  cases q:s' i with
  |some x=>rw[qAi q]at hi;cases hi;exact qAi (hs i _ q)
  | none=>
    rw[qAn q]at hi;rw[qAn (h.dis i (by rw[hi];simp))];exact hi,h.wr,h.free,λi hi=>by
  cases q:s' i with
  |none=>rfl
  |some x=>have:=hs i x q;rw[h.dis i hi]at this;cases this⟩
theorem qTT{es:List (Nat×Bool)}(hf:Fit σ ρ base s t H w)(hp:Post σ ρ ρ' base H H' w w')(d:Does es H H')(hr:HRel (add s' t) H')(hd:∀i,t i≠none->s' i=none)(hpe:Pers (add s t) (add s' t)):Stp σ ρ ρ' base s s' t H H' w w':=by
 refine⟨hp,d.next,d.lo,λi b hi=>?_,hf.one,hr,hp.wr,λid hid=>?_,hd⟩
 ·have:=hpe i b (qAi hi)
  cases q:s' i with
  |some x=>rw[qAi q]at this;exact this
  | none=>
    rw[qAn q]at this;have:=hf.dis i (by rw[this];simp);rw[hi]at this;cases this
 ·rw[hp.ext.out id (.inr hid)]
  exact hf.free id (Nat.le_trans d.next hid)
structure Grd(P:Program)(X:Td):Prop where
 mixed:P.follows .mixedOrders=true
 nonum:qE6 P
 ext:ExtOK P X
def wpW(P:Program)(X:Td)(f:FuncId)(args:List AV)(K:AV->Hq->Prop)(s:Hq):Prop:=Grd P X->∀(t:Hq) (σ:Nat->Value) (ρ:Ren) (base:Nat) (H:AH) (w:World) (args':Array Value),Fit σ ρ base s t H w->RelL σ ρ args args'.toList->
 CallsIn Fence.wide 0 P f args' w (λe w'=>∃v v' s' ρ' H',e=.returned v'/\Rel σ ρ' v v'/\Stp σ ρ ρ' base s s' t H H' w w'/\K v s')
theorem wpW.mono{f:FuncId}{args:List AV}{K K':AV->Hq->Prop}(h:wpW P X f args K s)(hk:∀v s',K v s'->K' v s'):wpW P X f args K' s:=λg t σ ρ base H w args' hf hr=>
 (h g t σ ρ base H w args' hf hr).mono λ_ _ ⟨v,v',s',ρ',H',e,r,st,k⟩=>⟨v,v',s',ρ',H',e,r,st,hk v s' k⟩
theorem wpW.part{f:FuncId}{args:List AV}{K:AV->Hq->Prop}{r:Hq}(hsub:Sub r s)
  (h:wpW P X f args (λv s1=>∀s',Sub s1 s'->(∀i,r i=none->s i≠none->s' i=s i/\s1 i=none)->K v s') r):wpW P X f args K s:=λg t σ ρ base H w args' hf hr=>by
 have e1:add r (add (rest s r) t)=add s t:=by
  funext i
  cases q:r i with
  |some x=>rw[qAi q,qAi (hsub i x q)]
  | none=>
    rw[qAn q];cases q2:s i with
    |some y=>rw[qAi q2,qAi (show rest s r i=some y by unfold rest;rw[if_pos q,q2])]
    |none=>rw[qAn q2,qAn (show rest s r i=none by unfold rest;rw[if_pos q,q2])]
 have hf2:Fit σ ρ base r (add (rest s r) t) H w:=⟨hf.one,by rw[e1];exact hf.rel,hf.wr,hf.free,λi hi=>by
  cases q:rest s r i with
  |some x=>unfold rest at q;split at q
           ·assumption
           ·cases q
  | none=>
    rw[qAn q]at hi;cases q2:r i with
    |none=>rfl
    |some x=>have:=hsub i x q2;rw[hf.dis i hi]at this;cases this⟩
 refine(h g _ σ ρ base H w args' hf2 hr).mono ?_;rintro e w' ⟨v,v',s1,ρ',H',rfl,hv,st,k⟩;have hd1:∀i,rest s r i≠none->s1 i=none:=λi hi=>st.fit.dis i (by
  cases q:rest s r i with
  |none=>exact absurd q hi
  |some x=>rw[qAi q];simp)
 have hd2:∀i,t i≠none->s1 i=none:=λi hi=>st.fit.dis i (by
  cases q:rest s r i with
  |some x=>rw[qAi q];simp
  |none=>rw[qAn q];exact hi)
 have e2:add s1 (add (rest s r) t)=add (add s1 (rest s r)) t:=by
  funext i
  cases q:s1 i with
  |some x=>rw[qAi q,qAi (qAi q)]
  | none=>
    rw[qAn q];cases q2:rest s r i with
    |some y=>rw[qAi q2,qAi (by rw[qAn q];exact q2)]
    |none=>rw[qAn q2,qAn (by rw[qAn q];exact q2)]
 refine⟨v,v',add s1 (rest s r),ρ',H',rfl,hv,⟨st.post,st.next,st.lo,λi b hi=>?_,st.fit.one,by rw[<- e2];exact st.fit.rel,st.fit.wr,st.fit.free,λi hi=>?_⟩,k _ qJt λi hr hi=>?_⟩
 ·cases q:r i with
  | some x=>
    have:=hsub i x q;rw[hi]at this;cases this;exact qAi (st.pers i b q)
  | none=>
    have hre:rest s r i=some (true,b):=by unfold rest;rw[if_pos q];exact hi
    rw[qAn (hd1 i (by rw[hre];simp))];exact hre
 ·rw[qAn (hd2 i hi)]
  unfold rest;split
  ·exact hf.dis i hi
  ·rfl
 ·have hre:rest s r i=s i:=by unfold rest;rw[if_pos hr]
  have:=hd1 i (by rw[hre];exact hi);exact⟨by rw[qAn this];exact hre,this⟩
def CW(P:Program)(X:Td)(nt:Nat)(c:Code)(env:Env)(K:AExit->Env->Hq->Prop)(s:Hq):Prop:=Grd P X->∀(t:Hq) (σ:Nat->Value) (ρ:Ren) (base:Nat) (H:AH) (w:World) (T:Tmps) (a:Act) (Q:Exit->Act->World->Prop),
 Fit σ ρ base s t H w->TR T env->TRel σ ρ nt T a.tmps->a.defers=[]->
 (∀e env' s' T' ρ' H' a' w',K e env' s'->TR T' env'->(∀j,j ∉ assigned c->env' j=env j)->Stp σ ρ ρ' base s s' t H H' w w'->TRel σ ρ' nt T' a'.tmps->a'.defers=[]->Q (qSh e) a' w')->c.wpIn (FR none) 0 P Q a w
theorem qZw{c:Code}(hrf:noRF c=true){env:Env}{K:AExit->Env->Hq->Prop}(hX:FrX X)(h:wpC P X A nt none c env K s){T:Tmps}(hT:TR T env):
  wpF (λn=>run P X n (.code nt none c T [])) (λo s'=>∃e T' env',o=.exit e T' []/\TR T' env'/\(∀j,j ∉ assigned c->env' j=env j)/\K e env' s') s:=by
 have:=qGY (A:=A) (nt:=nt) (rnd:=none) hX c env K s h T [] hT (by simp) List.nodup_nil;rw[qLE]at this;refine(wpF.both (R:=λo=>o=reMs [] o) this λn H a H' hrun=>?_).mono ?_
 ·have e0:=qMZ (P:=P) (X:=X) (nt:=nt) (rnd:=none) n c hrf T [] H
  have hrun:run P X n (.code nt none c T []) H=some (a,H'):=hrun;rw[hrun]at e0;simp only[reO,Option.some.injEq,Prod.mk.injEq,and_true]at e0;exact e0
 ·rintro o S' ⟨⟨e,T',env',ms',s',rfl,j1,rfl,j4,_,j2,_,j3⟩,hR⟩
  have hm:ms'=[]:=by
   have hR:Out.exit e T' (mkm (ms' ++ []))=.exit e T' []:=hR;simp only[List.append_nil,Out.exit.injEq,true_and]at hR;cases ms' with
   |nil=>rfl
   |cons _ _=>simp[mkm]at hR
  subst hm;exact⟨e,T',env',hR,j1,j2,by rw[List.nil_append,qLE];exact j3⟩
theorem CW.lift{c:Code}(hrf:noRF c=true){env:Env}{K:AExit->Env->Hq->Prop}(h:wpC P X A nt none c env K s):CW P X nt c env K s:=λg t σ ρ base H w T a Q hf hT hTr hd hQ=>by have hfr:=λn=>qEl P g.ext.1 n (.code nt none c T []);obtain⟨n,o,H',h1,S,h2,h3,s',rfl,h5,e,T',env',rfl,j1,j2,j3⟩:=wpF.frame hfr (qZw hrf g.ext.1 h hT) hf.dis H hf.rel;obtain⟨es,d,_⟩:=hfr n H _ H' h1;obtain⟨e2,T2,ms2,he,k⟩:=(qQZ g.mixed g.nonum g.ext n).1 _ _ _ _ _ _ _ _ h1;cases he;refine ACode.wp (n:=n) (k σ ρ base w a none Q hf.one hf.wr (hf.freeTo _) hTr rfl (by unfold DRel;exact hd) λa' w' ρ' p=>?_);have hd':=p.defers;unfold DRel at hd';exact hQ e env' s' T' ρ' H' a' w' j3 j1 j2 (qTT hf p.post d h2 h5 h3) p.tmps hd'
section
variable (P X)
def opW(W:List Nat)(env:Env)(K:AV->Hq->Prop)(s:Hq)(o:Op):Prop:=match o with
 | .call c=>match c.callee with
   | .value (.func k)=>cond (memN k W) (cond (isFn P k) (wpW P X k (c.args.toList.map (evD env)) K s) False) (wpOp P X env K s (.call c))
   |_=>wpOp P X env K s (.call c)
 |o=>wpOp P X env K s o
def opsW(W:List Nat)(nt:Nat)(all:List Oper):List Oper->Kn->Env->(Env->Hq->Prop)->Hq->Prop
 |[],_,env,K,s=>K env s
 |o::os,kn,env,K,s=>qO5 all o.guard kn env
   (λkn=>opW P X W env (λv s=>setK nt o.dst env v λenv=>opsW W nt all os (forget kn o.dst) env K s) s o.op)
   (λkn=>setK nt o.dst env .undef λenv=>opsW W nt all os (mark kn o.dst) env K s)
end
theorem qXV{W:List Nat}{env:Env}{K:AV->Hq->Prop}{o:Op}(h:opW P X W env K s o):
  wpOp P X env K s o∨∃c k,o=.call c/\c.callee=.value (.func k)/\isFn P k=true/\wpW P X k (c.args.toList.map (evD env)) K s:=by
 unfold opW at h;split at h
 ·rename_i c
  split at h
  ·rename_i k hc
   cases hm:memN k W with
   |false=>rw[hm]at h;exact .inl h
   | true=>
     rw[hm,cond_true]at h;cases hk:isFn P k with
     |false=>rw[hk]at h;exact h.elim
     |true=>rw[hk]at h;exact .inr ⟨c,k,rfl,hc,hk,h⟩
  ·exact .inl h
 ·exact .inl h
theorem qVN{W:List Nat}{ops:Array Oper}{K:Env->Hq->Prop}(g:Grd P X){Q:Exit->Act->World->Prop}:∀(os:List Oper) (k:Nat) (kn:Kn) (env:Env) (s:Hq) (ρ:Ren) (H:AH) (w:World) (T:Tmps) (a:Act),(∀j,j<os.length->os[j]?=ops[k+j]?)->
  (os.all λo=>okOp o.op)=true->KnOk kn env->opsW P X W nt ops.toList os kn env K s->Fit σ ρ base s t H w->TR T env->TRel σ ρ nt T a.tmps->a.defers=[]->
  (∀env' s' T' ρ' H' a' w',K env' s'->TR T' env'->(∀j,(∀o∈os,o.dst≠some j)->env' j=env j)->Stp σ ρ ρ' base s s' t H H' w w'->TRel σ ρ' nt T' a'.tmps->a'.defers=[]->Q .normal a' w')->
  wpOpsIn (FR none) 0 P ops Q (List.range' k os.length) a w
 | [],k,kn,env,s,ρ,H,w,T,a,_,_,_,h,hf,hT,hTr,hd,hQ=>by
   simp only[List.length_nil,List.range'_zero];exact hQ env s T ρ H a w h hT (λ_ _=>rfl) (.refl hf) hTr hd
 | o::os,k,kn,env,s,ρ,H,w,T,a,hk,ha,hkn,h,hf,hT,hTr,hd,hQ=>by
   simp only[List.all_cons,Bool.and_eq_true]at ha;have h0:ops[k]?=some o:=by have:=hk 0 (by simp);simpa using this.symm
   obtain⟨kn',hkn',hcase⟩:=qKP hT hkn h;simp only[List.length_cons,List.range'_succ,wpOpsIn,h0];have next:∀(v:AV) (v':Value) (kn2:Kn) (s1:Hq) (ρ1:Ren) (H1:AH) (w1:World),(∀env',(∀d,o.dst≠some d->env' d=env d)->(∀d,o.dst=some d->env' d=v)->KnOk kn2 env')->(setK nt o.dst env v λenv=>opsW P X W nt ops.toList os kn2 env K s1)->
     Stp σ ρ ρ1 base s s1 t H H1 w w1->Rel σ ρ1 v v'->wpOpsIn (FR none) 0 P ops Q (List.range' (k+1) os.length) (a.put o.dst v') w1:=by
    intro v v' kn2 s1 ρ1 H1 w1 hk2 hv st hrel;obtain⟨T',env',e1,e2,e3,e4,e5⟩:=qPH hT hv;refine qVN g os (k+1) kn2 env' s1 ρ1 H1 w1 T' _ (λj hj=>by have:=hk (j+1) (by simpa using hj);rw[show k+1+j=k+(j+1)from by omega];simpa using this) ha.2 (hk2 env' e4 e5) e3 st.fit e2 (qFu e1 (hTr.mono st.post.ext.le) hrel) (by rw[qCb];exact hd) ?_;intro env2 s2 T2 ρ2 H2 a2 w2 k1 k2 k3 k4 k5 k6;exact hQ env2 s2 T2 ρ2 H2 a2 w2 k1 k2 (λj hj=>(k3 j λp hp=>hj p (by simp[hp])).trans (e4 j (hj o (by simp)))) (st.trans k4) k5 k6
   have go:∀{Qv:AV->Hq->Prop},wpF (λn=>qD9 P (run P X n) ops.toList o T) Qv s->(∀v v' s1 ρ1 H1 w1,Qv v s1->Stp σ ρ ρ1 base s s1 t H H1 w w1->Rel σ ρ1 v v'->wpOpsIn (FR none) 0 P ops Q (List.range' (k+1) os.length) (a.put o.dst v') w1)->
     if Region.wanted o (yielded ops a.tmps)then o.wpIn (FR none) 0 P a w (λa w=>wpOpsIn (FR none) 0 P ops Q (List.range' (k+1) os.length) a w) Q else(∀f,o.about P w a.eval=some f->(FR none).fn f)/\wpOpsIn (FR none) 0 P ops Q (List.range' (k+1) os.length) (a.put o.dst undef) w:=by
    intro Qv hw hn;have hfr:=λn=>qKa P (qEl P g.ext.1 n) ops.toList o T;obtain⟨n,v,H1,h1,S,h2,h3,s1,rfl,h5,hv⟩:=wpF.frame hfr hw hf.dis H hf.rel;obtain⟨es,d,_⟩:=hfr n H _ H1 h1;obtain⟨_,r2,r3⟩:=qQZ g.mixed g.nonum g.ext n;exact qMO (K:=λa w=>wpOpsIn (FR none) 0 P ops Q (List.range' (k+1) os.length) a w) r2 r3 g.nonum h1 (qEl P g.ext.1 n) hTr hf.one hf.wr (hf.freeTo _) λv' w1 ρ1 hp hrel=>hn v v' s1 ρ1 H1 w1 hv (qTT hf hp d h2 h5 h3) hrel
   rcases hcase with⟨hw,h⟩|⟨hw,h⟩
   ·rcases qXV h with h|⟨c,f,hop,hce,hfn,h⟩
    ·exact go (qEy hw hT ha.1 h) λv v' s1 ρ1 H1 w1 hv st hrel=>next v v' _ s1 ρ1 H1 w1 (λenv' e4 _=>hkn'.forget e4) hv st hrel
    ·rw[qHl hw hTr]
     simp only[if_true];have hoo:=qMa ha.1 (by rw[hop];intro t g;simp);rw[hop]at hoo;have hargs:c.args.toList.all okX=true:=List.all_eq_true.2 λx hx=>List.all_eq_true.1 hoo x (by show x∈c.operands.toList;unfold Call.operands;simp only[Array.toList_append,List.mem_append];exact .inr hx)
     have hopA:opA P T o.op H=some (.enter f (c.args.toList.map (evD env)),H):=by rw[hop];show qH2 P T c H=_;unfold qH2;rw[qOk hT hargs];simp only[hce,ev,List.nil_append,List.append_nil];unfold goA;rw[hfn];rfl
     have hnd:∀c,o.op≠.defer c:=λc e=>by rw[hop]at e;cases e
     obtain⟨nx,w1,ρ1,e1,x1,x2,x3,x4⟩:=zACM (P:=P) (a:=a) g.nonum hopA hTr hf.one hf.wr (hf.freeTo _);obtain⟨args',rfl,hra⟩:=x4;refine⟨qDD,?_⟩;rw[Oper.semAt_eq _ _ _ hnd,e1];have hf1:Fit σ ρ1 base s t H w1:=⟨hf.one,hf.rel,x2,λid hid=>by rw[x1.out id (.inr hid)];exact hf.free id hid,hf.dis⟩
     have st0:Stp σ ρ ρ1 base s s t H H w w1:=⟨⟨x1,x2,x3⟩,Nat.le_refl _,rfl,.refl _,hf1⟩
     refine⟨λh=>by simp[FR,Fence.wide]at h,?_⟩;have h5:CallsIn (FR none) 0 P f args' w1 _:=h g t σ ρ1 base H w1 args' hf1 hra;refine h5.mono ?_;rintro e w2 ⟨v,v',s2,ρ2,H2,rfl,hv,st,hk⟩;exact next v v' _ s2 ρ2 H2 w2 (λenv' e4 _=>hkn'.forget e4) hk (st0.trans st) hv
   ·exact go (qJ9 (s:=s) (Q:=λv s'=>v=.undef/\s'=s) hw ⟨rfl,rfl⟩) λv v' s1 ρ1 H1 w1 hv st hrel=>by obtain⟨rfl,rfl⟩:=hv;exact next .undef v' _ s1 ρ1 H1 w1 (λenv' e4 e5=>hkn'.mark e4 λd hd=>e5 d hd) h st hrel
end Go.AM
namespace Go.AM
open Go Go.RowKit
variable {σ:Nat→Value} {ρ ρ' ρ1 ρ2:Ren} {base nt:Nat} {s s' s1 s2 t:Hq} {H H' H1 H2:AH} {w w' w1 w2:World} {P:Program} {X:Td} {A:Nat→List Nat} {W:List Nat}
def qTO(st:MapStep)(ls slots:List Nat)(body:Env->(AExit->Env->Hq->Prop)->Hq->Prop)(env:Env)(K:AExit->Env->Hq->Prop)(s:Hq):Prop:=
 oK (qRV s (env st.it)) λp=>∃I:List Nat->List AV->Hq->Prop,I [] (ls.map env) (hdel s p.1)/\
  ∀(sn:List Nat) (f:Env) (s1:Hq),I sn (ls.map f) s1->s1 p.1=none->qSO s1 p.2.1 p.2.2.2.1 p.2.2.2.2/\
   (∀e∈p.2.2.2.2,hasN e.born sn=false->body (zAES st (mixE slots f env) e) (λex env' s2=>match ex with
    | .nrm=>I (sn ++ [e.born]) (ls.map env') (hdel s2 p.1)
    |ex=>K ex env' (hdel s2 p.1)) (hset s1 p.1 (true,.iter p.2.1 p.2.2.1 (sn ++ [e.born]) p.2.2.2.1)))/\
   ((∀e∈p.2.2.2.2,hasN e.born sn=true)->body (zAEk st (mixE slots f env)) (λex env' s2=>match ex with
     | .nrm=>False
     |ex=>K ex env' s2) s1)
def qTL(nt:Nat)(st:MapStep)(slots:List Nat):Bool:=(!memN st.it slots)&&((memN st.nx slots&&memN st.more slots)&&(Nat.blt st.nx nt&&Nat.blt st.more nt))
def wpCW(P:Program)(X:Td)(W:List Nat)(A:Nat->List Nat)(nt:Nat):Code->Env->(AExit->Env->Hq->Prop)->Hq->Prop
 | .skip,env,K,s=>K .nrm env s
 | .region id ops draw,env,K,s=>cond draw (wpC P X A nt none (.region id ops true) env K s)
   (cond ((ops.toList.all λo=>okOp o.op)&&(qBg ops.toList).isNone) (opsW P X W nt ops.toList ops.toList [] env (λenv s=>K .nrm env s) s) False)
 | .seq a b,env,K,s=>wpCW P X W A nt a env (λe env s=>match e with
   | .nrm=>wpCW P X W A nt b env K s
   |e=>K e env s) s
 | .cond c a b,env,K,s=>cond (okX c) (qAJ (evD env c) (wpCW P X W A nt a env K s) (wpCW P X W A nt b env K s)) False
 | .block id b,env,K,s=>wpCW P X W A nt b env (λe env s=>match e with
   | .exit id'=>cond (Nat.beq id' id) (K .nrm env s) (K (.exit id') env s)
   |e=>K e env s) s
 | .loop b,env,K,s=>match qBn b with
   | some st=>cond (qTL nt st (assigned b)) (qTO st (A (2*qHX b)) (assigned b) (match b with
     | .seq _ r=>λenv K s=>wpCW P X W A nt r env K s
     |_=>λ_ _ _=>False) env K s) False
   |none=>qUs (A (2*qHX b)) (assigned b) (λenv K s=>wpCW P X W A nt b env K s) env K s
 | .exit id,env,K,s=>K (.exit id) env s
 | .ret,env,K,s=>K .ret env s
 |_,_,_,_=>False
def qMB(P:Program)(X:Td)(W:List Nat)(A:Nat->List Nat)(nt:Nat)(c:Code):Prop:=∀(env:Env) (K:AExit->Env->Hq->Prop) (s:Hq),wpCW P X W A nt c env K s->CW P X nt c env K s
theorem zACD{id:Nat}{ops:Array Oper}{draw:Bool}:qMB P X W A nt (.region id ops draw):=by
 intro env K s h;unfold wpCW at h;cases draw with
 | true=>
   rw[cond_true]at h;exact CW.lift rfl h
 | false=>
   rw[cond_false]at h;cases hok:((ops.toList.all λo=>okOp o.op)&&(qBg ops.toList).isNone)with
   |false=>rw[hok]at h;exact h.elim
   | true=>
     rw[hok,cond_true]at h;obtain⟨hok,hdn⟩:=Bool.and_eq_true_iff.1 hok;intro g t σ ρ base H w T a Q hf hT hTr hd hQ;refine wpIn_region ?_;rw[qTi];have:=qVN (W:=W) (ops:=ops) (Q:=Q) (K:=λenv s=>K .nrm env s) g ops.toList 0 [] env s ρ H w T a (λj _=>by simp) hok .nil h hf hT hTr hd λenv' s' T' ρ' H' a' w' k1 k2 k3 k4 k5 k6=>
      hQ .nrm env' s' T' ρ' H' a' w' k1 k2 (λj hj=>k3 j λo ho hd=>hj (qHU ho hd)) k4 k5 k6
     simpa using this
theorem seqW{a b:Code}(ha:qMB P X W A nt a)(hb:qMB P X W A nt b):qMB P X W A nt (.seq a b):=by
 intro env K s h g t σ ρ base H w T ac Q hf hT hTr hd hQ;unfold wpCW at h;refine wpIn_seq (ha env _ s h g t σ ρ base H w T ac _ hf hT hTr hd λe env1 s1 T1 ρ1 H1 a1 w1 k1 k2 k3 k4 k5 k6=>?_);cases e with
 | nrm=>
   refine hb env1 K s1 k1 g t σ ρ1 base H1 w1 T1 a1 Q k4.fit k2 k5 k6 λe env2 s2 T2 ρ2 H2 a2 w2 j1 j2 j3 j4 j5 j6=>?_;exact hQ e env2 s2 T2 ρ2 H2 a2 w2 j1 j2 (λj hj=>by simp only[assigned,List.mem_append,not_or]at hj;exact(j3 j hj.2).trans (k3 j hj.1)) (k4.trans j4) j5 j6
 |exit id=>exact hQ _ env1 s1 T1 ρ1 H1 a1 w1 k1 k2 (λj hj=>by simp only[assigned,List.mem_append,not_or]at hj;exact k3 j hj.1) k4 k5 k6
 |ret=>exact hQ _ env1 s1 T1 ρ1 H1 a1 w1 k1 k2 (λj hj=>by simp only[assigned,List.mem_append,not_or]at hj;exact k3 j hj.1) k4 k5 k6
theorem zAEn{c:Operand}{a b:Code}(ha:qMB P X W A nt a)(hb:qMB P X W A nt b):qMB P X W A nt (.cond c a b):=by
 intro env K s h g t σ ρ base H w T ac Q hf hT hTr hd hQ;unfold wpCW at h;cases hok:okX c with
 |false=>rw[hok]at h;exact h.elim
 | true=>
   rw[hok,cond_true]at h;have hv:=qA2 (a:=ac) (qIk hT hok) hTr;unfold qAJ at h;split at h
   ·rename_i e
    rw[e]at hv;unfold Rel at hv;exact wpIn_cond hv (ha env K s h g t σ ρ base H w T ac Q hf hT hTr hd λe env1 s1 T1 ρ1 H1 a1 w1 k1 k2 k3 k4 k5 k6=>hQ e env1 s1 T1 ρ1 H1 a1 w1 k1 k2 (λj hj=>k3 j λq=>hj (by simp[assigned,q])) k4 k5 k6)
   ·rename_i e
    rw[e]at hv;unfold Rel at hv;exact wpIn_cond hv (hb env K s h g t σ ρ base H w T ac Q hf hT hTr hd λe env1 s1 T1 ρ1 H1 a1 w1 k1 k2 k3 k4 k5 k6=>hQ e env1 s1 T1 ρ1 H1 a1 w1 k1 k2 (λj hj=>k3 j λq=>hj (by simp[assigned,q])) k4 k5 k6)
   ·exact h.elim
theorem zACi{id:Nat}{b:Code}(hb:qMB P X W A nt b):qMB P X W A nt (.block id b):=by
 intro env K s h g t σ ρ base H w T ac Q hf hT hTr hd hQ;unfold wpCW at h;refine wpIn_block (hb env _ s h g t σ ρ base H w T ac _ hf hT hTr hd λe env1 s1 T1 ρ1 H1 a1 w1 k1 k2 k3 k4 k5 k6=>?_);cases e with
 | exit id'=>
   simp only at k1;cases hb:Nat.beq id' id with
   | true=>
     rw[hb]at k1;have e:=bE hb;show(if id'=id then _ else _);rw[if_pos e];exact hQ .nrm env1 s1 T1 ρ1 H1 a1 w1 k1 k2 k3 k4 k5 k6
   | false=>
     rw[hb]at k1;have e:id'≠id:=λe=>by subst e;simp at hb
     show(if id'=id then _ else _);rw[if_neg e];exact hQ (.exit id') env1 s1 T1 ρ1 H1 a1 w1 k1 k2 k3 k4 k5 k6
 |nrm=>exact hQ .nrm env1 s1 T1 ρ1 H1 a1 w1 k1 k2 k3 k4 k5 k6
 |ret=>exact hQ .ret env1 s1 T1 ρ1 H1 a1 w1 k1 k2 k3 k4 k5 k6
theorem zABC{c:Code}{e:AExit}(hc:∀(Q:Exit->Act->World->Prop) (a:Act) (w:World),Q (qSh e) a w->c.wpIn (FR none) 0 P Q a w){env:Env}{K:AExit->Env->Hq->Prop}{s:Hq}(h:K e env s):CW P X nt c env K s:=
 λ_ _ _ ρ _ H w T a Q hf hT hTr hd hQ=>hc Q a w (hQ e env s T ρ H a w h hT (λ_ _=>rfl) (.refl hf) hTr hd)
theorem zADJ{b:Code}(hb:qMB P X W A nt b){ls:List Nat}{env:Env}{K:AExit->Env->Hq->Prop}{s:Hq}(h:qUs ls (assigned b) (λenv K s=>wpCW P X W A nt b env K s) env K s):CW P X nt (.loop b) env K s:=by
 intro g t σ ρ base H w T a Q hf hT hTr hd hQ;obtain⟨I,⟨m,h0⟩,hstep⟩:=h;refine wpIn_loop_rounds (m+1) ?_;have key:∀(k m:Nat) (env1:Env) (s1:Hq) (T1:Tmps) (ρ1:Ren) (H1:AH) (a1:Act) (w1:World),m<k->I (ls.map env1) s1 m->TR T1 env1->(∀j,j ∉ assigned b->env1 j=env j)->Stp σ ρ ρ1 base s s1 t H H1 w w1->TRel σ ρ1 nt T1 a1.tmps->a1.defers=[]->Code.roundsIn (FR none) 0 P b Q k a1 w1:=by
  intro k
  induction k with
  |zero=>intro m env1 s1 T1 ρ1 H1 a1 w1 hm;omega
  | succ k ih=>
    intro m env1 s1 T1 ρ1 H1 a1 w1 hm hI hT1 hoff st hTr1 hd1;rw[roundsIn_succ];have hbody:=hstep env1 s1 m hI;have hmix:mixE (assigned b) env1 env=env1:=by
     funext j
     unfold mixE;cases hj:memN j (assigned b)with
     |true=>rfl
     |false=>exact(hoff j λq=>by rw[qGo.2 q]at hj;cases hj).symm
    rw[hmix]at hbody;refine hb env1 _ s1 hbody g t σ ρ1 base H1 w1 T1 a1 _ st.fit hT1 hTr1 hd1 λe env2 s2 T2 ρ2 H2 a2 w2 k1 k2 k3 k4 k5 k6=>?_;have hoff2:∀j,j ∉ assigned b->env2 j=env j:=λj hj=>(k3 j hj).trans (hoff j hj);cases e with
    | nrm=>
      obtain⟨m',hlt,hI'⟩:=k1;exact ih m' env2 s2 T2 ρ2 H2 a2 w2 (by omega) hI' k2 hoff2 (st.trans k4) k5 k6
    |exit id=>exact hQ _ env2 s2 T2 ρ2 H2 a2 w2 k1 k2 hoff2 (st.trans k4) k5 k6
    |ret=>exact hQ _ env2 s2 T2 ρ2 H2 a2 w2 k1 k2 hoff2 (st.trans k4) k5 k6
 exact key (m+1) m env s T ρ H a w (Nat.lt_succ_self _) h0 hT (λ_ _=>rfl) (.refl hf) hTr hd
theorem qQ6{seen:List Nat}:∀{es:List AEnt},qGh seen es=[]->∀e∈es,hasN e.born seen=true
 | x::es,h,e,he=>by
   unfold qGh at h;cases c:hasN x.born seen with
   |false=>rw[c]at h;cases h
   | true=>
     rw[c]at h;rcases mC he with rfl|he
     ·exact c
     ·exact qQ6 h e he
theorem zAEQ{s0:Hq}{r stp:Nat}{mo:Option Nat}{since c:Nat}{sn:List Nat}{es:List AEnt}(hrel:HRel s0 H)(hit:H.blks.get r=some (.iter mo since sn stp))(hst:since<=stp)(hmap:qSO s0 mo c es)(hold:qF3 since es=true):
  ∃d H1,qZO (.ptr r 0) H=some ((d,qGh sn es),H1)/\d.b=r/\∀m,mo=some m->d.m=m/\d.since=since/\d.seen=sn/\d.clock=c:=by
 cases mo with
 | none=>
   have hmap:es=[]:=hmap;subst hmap;refine⟨⟨r,0,0,[],0⟩,{ H with log:=[(r,false)]++H.log },?_,rfl,λm e=>by cases e⟩;show bd (rd r) _ H=_;unfold bd rd;rw[hit];rfl
 | some m=>
   obtain⟨tg,hm⟩:=hmap;obtain⟨_,ab,g1,g2⟩:=hrel.at_ m tg _ hm;cases ab<;>first|exact g2.elim|skip
   obtain⟨rfl,rfl⟩:=g2;refine⟨⟨r,m,since,sn,c⟩,{ H with log:=[(m,false),(r,false)]++H.log },?_,rfl,λm' e=>by cases e;exact⟨rfl,rfl,rfl,rfl⟩⟩;show bd (rd r) _ H=_;unfold bd rd;rw[hit];simp only;rw[g1];simp only[bL hst,hold,Bool.and_self,cond_true];rfl
theorem qSO.add{s0:Hq}{mo:Option Nat}{c:Nat}{es:List AEnt}(h:qSO s0 mo c es)(t:Hq):qSO (add s0 t) mo c es:=by
 cases mo with
 |none=>exact h
 |some m=>obtain⟨tg,hm⟩:=h;exact⟨tg,qAi hm⟩
theorem qSD{b:Code}{st:MapStep}(hms:qBn b=some st)(hb:qMB P X W A nt st.rest)(hok:qTL nt st (assigned b)=true){ls:List Nat}{env:Env}{K:AExit->Env->Hq->Prop}{s:Hq}
  (h:qTO st ls (assigned b) (λenv K s=>wpCW P X W A nt st.rest env K s) env K s):CW P X nt (.loop b) env K s:=by
 intro g t σ ρ base H w T a Q hf hT hTr hd hQ;unfold qTL at hok;simp only[Bool.and_eq_true,Bool.not_eq_true']at hok;obtain⟨hits,⟨k3,k4⟩,k5,k6⟩:=hok;obtain⟨p,hp,I,hI0,hstep⟩:=qAl h;obtain⟨r,mo,since,c,es⟩:=p;simp only at hI0 hstep;obtain⟨hit,stepped,q1,q2,q3,q4,_,_⟩:=qR1 hp;obtain⟨b0,hseq⟩:=qHp hms;have hsub:∀j,memN j (assigned b)=false->j ∉ assigned st.rest/\Nat.beq j st.nx=false/\Nat.beq j st.more=false:=λj hj=>by
  refine⟨λhm=>?_,?_,?_⟩
  ·rw[hseq]at hj
   have:memN j (assigned b0++assigned st.rest)=true:=qGo.2 (List.mem_append_right _ hm);rw[show assigned (.seq b0 st.rest)=assigned b0++assigned st.rest from rfl]at hj;rw[hj]at this;cases this
  ·cases e:Nat.beq j st.nx with
   |false=>rfl
   |true=>rw[bE e,k3]at hj;cases hj
  ·cases e:Nat.beq j st.more with
   |false=>rfl
   |true=>rw[bE e,k4]at hj;cases hj
 have hmix:∀env1,Off (assigned b) env env1->mixE (assigned b) env1 env=env1:=λenv1 ho=>by
  funext j
  unfold mixE;cases hj:memN j (assigned b)with
  |true=>rfl
  |false=>exact(ho j hj).symm
 have offs:∀{env1 env':Env}{v u:AV},Off (assigned b) env env1->(∀j,j ∉ assigned st.rest->env' j=upd (upd env1 st.nx v) st.more u j)->Off (assigned b) env env':=fun {env1 env' v u} ho hj j hm=>by obtain⟨z1,z2,z3⟩:=hsub j hm;rw[hj j z1];unfold upd;rw[z3,z2];exact ho j hm
 have toOff:∀{env':Env},Off (assigned b) env env'->∀j,j ∉ assigned (.loop b)->env' j=env j:=fun {env'} ho j hj=>by
  refine ho j ?_;cases e:memN j (assigned b)with
  |false=>rfl
  |true=>exact absurd (qGo.1 e) hj
 have htr:t r=none:=by
  cases e:t r with
  |none=>rfl
  |some x=>have:=hf.dis r (by rw[e];simp);rw[q1]at this;cases this
 obtain⟨lo1,ab,g1,g2⟩:=hf.rel.at_ r false _ (qAi q1);cases ab<;>first|exact g2.elim|skip
 obtain⟨rfl,rfl,rfl,rfl⟩:=g2;have hdsub:Sub (hdel s r) s:=λi e hi=>by
  unfold hdel at hi;split at hi
  ·cases hi
  ·exact hi
 have hf0:Fit σ ρ base (hdel s r) t H w:=hf.sub hdsub;have hQ2:∀e env' s' T' ρ' H' a' w',K e env' s'->TR T' env'->Off (assigned b) env env'->Stp σ ρ ρ' base (hdel s r) s' t H H' w w'->TRel σ ρ' nt T' a'.tmps->a'.defers=[]->Q (qSh e) a' w':=λe env' s' T' ρ' H' a' w' j1 j2 j3 j4 j5 j6=>
  hQ e env' s' T' ρ' H' a' w' j1 j2 (toOff j3) ⟨j4.post,j4.next,j4.lo,λi bk hi=>j4.pers i bk (by show(if i=r then none else s i)=_;rw[if_neg λq=>by rw[q,q1]at hi;cases hi];exact hi),j4.fit⟩ j5 j6
 refine wpIn_loop_rounds (es.length+1) ?_;have key:∀(k:Nat) (sn:List Nat) (env1:Env) (s1:Hq) (stp:Nat) (T1:Tmps) (ρ1:Ren) (H1:AH) (a1:Act) (w1:World),(qGh sn es).length<k->I sn (ls.map env1) s1->s1 r=none->H1.blks.get r=some (.iter mo since sn stp)->since<=stp->
   TR T1 env1->Off (assigned b) env env1->Stp σ ρ ρ1 base (hdel s r) s1 t H H1 w w1->TRel σ ρ1 nt T1 a1.tmps->a1.defers=[]->Code.roundsIn (FR none) 0 P b Q k a1 w1:=by
  intro k
  induction k with
  |zero=>intro sn env1 s1 stp T1 ρ1 H1 a1 w1 hk;omega
  | succ k ih=>
    intro sn env1 s1 stp T1 ρ1 H1 a1 w1 hk hI hs1 hb1 hstp hT1 hoff sp hTr1 hd1;rw[roundsIn_succ];obtain⟨hmap,hmore,hdone⟩:=hstep sn env1 s1 hI hs1;rw[hmix env1 hoff]at hmore hdone;obtain⟨d,HA,z1,z2,z3⟩:=zAEQ sp.fit.rel hb1 hstp (hmap.add t) q4;have hx:=hTr1.at_ st.it;rw[hT1 st.it,hoff st.it hits,hit]at hx;obtain⟨c1,c2,c3,c4⟩:=zABM (P:=P) z1 hx sp.fit.wr;have n1:st.nx<nt:=by simpa [Nat.blt_eq]using k5
    have n2:st.more<nt:=by simpa [Nat.blt_eq]using k6
    rcases c4 with⟨hl,c5⟩|⟨e,he,e',w2,c5,c6,c7⟩
    ·refine qXF (t:=false) hms (by rw[hTr1.size];exact n1) c5 rfl ?_
     have hput:TRel σ ρ1 nt ((T1.put st.nx (some (.tup [.bool false]))).put st.more (some (.bool false))) ((a1.put (some st.nx) (.tuple #[.bool false])).put (some st.more) (.bool false)).tmps:=
      qFu (v:=.bool false) (v':=.bool false) (dst:=some st.more) (T:=T1.put st.nx (some (.tup [.bool false]))) (by simp only[setT];rw[k6];rfl)
       (qFu (v:=.tup [.bool false]) (v':=.tuple #[.bool false]) (dst:=some st.nx) (T:=T1) (by simp only[setT];rw[k5];rfl) hTr1 (by unfold Rel;exact⟨_,rfl,.cons (by unfold Rel;rfl) .nil⟩)) (by unfold Rel;rfl)
     refine hb _ _ s1 (hdone (qQ6 hl)) g t σ ρ1 base H1 w1 _ _ _ sp.fit (qOc (qOc hT1 st.nx (.tup [.bool false])) st.more (.bool false)) hput (by rw[qCb,qCb];exact hd1) λex env2 s2 T2 ρ2 H2 a2 w2 j1 j2 j3 j4 j5 j6=>?_;cases ex with
     |nrm=>exact j1.elim
     |exit id=>exact hQ2 _ env2 s2 T2 ρ2 H2 a2 w2 j1 j2 (offs hoff j3) (sp.trans j4) j5 j6
     |ret=>exact hQ2 _ env2 s2 T2 ρ2 H2 a2 w2 j1 j2 (offs hoff j3) (sp.trans j4) j5 j6
    ·obtain⟨m1,m2⟩:=qNY he
     obtain⟨m,rfl⟩:∃m,mo=some m:=by
      cases mo with
      |none=>have hmap:es=[]:=hmap;rw[hmap]at m1;cases m1
      |some m=>exact⟨m,rfl⟩
     obtain⟨dm,dsi,dse,dcl⟩:=z3 m rfl;have hlo:H1.lo<=r:=by rw[sp.lo];exact lo1 rfl
     have ht:qWV d e HA=some ((),{ HA with blks:=HA.blks.put r (some (.iter (some m) since (sn ++ [e.born]) c)),log:=(r,true)::HA.log }):=by unfold qWV wr;rw[z2,c2,bL hlo,cond_true,c1,hb1,dm,dsi,dse,dcl]
     obtain⟨y1,y2,y3⟩:=c7 _ () ht;generalize hH2:({ HA with blks:=HA.blks.put r (some (.iter (some m) since (sn ++ [e.born]) c)),log:=(r,true)::HA.log }:AH)=HB at y1 y2 ht;have b1:∀i,HB.blks.get i=if r=i then some (.iter (some m) since (sn ++ [e.born]) c)else H1.blks.get i:=λi=>by rw[<- hH2];show(HA.blks.put r _).get i=_;rw[Tr.get_put,c1]
     have b2:HB.lo=H1.lo:=by rw[<- hH2];exact c2
     have f2:Fit σ ρ1 base (hset s1 r (true,.iter (some m) since (sn ++ [e.born]) c)) t HB w2:=by
      refine⟨hf.one,⟨by rw[b2,y1];exact sp.fit.rel.lo,λi hi=>?_,λi tg bk hi=>?_⟩,y2,λid hid=>sp.fit.free id (by rw[<- y1];exact hid),λi hi=>?_⟩
      ·rw[y1]
       rw[b1]at hi;split at hi
       ·rename_i q;subst q;exact sp.fit.rel.wf r (by rw[hb1];simp)
       ·exact sp.fit.rel.wf i hi
      ·rw[b1,b2]
       by_cases q:i=r
       ·subst q
        rw[if_pos rfl];rw[qAi qHm]at hi;cases hi;exact⟨(λq=>by cases q),_,rfl,rfl,rfl,rfl,rfl⟩
       ·rw[if_neg (Ne.symm q)]
        refine sp.fit.rel.at_ i tg bk ?_;rw[<- hi];unfold add;rw[qFT q]
      ·have:i≠r:=λq=>by subst q;exact hi htr
       rw[qFT this];exact sp.fit.dis i hi
     have hput:TRel σ ρ1 nt ((T1.put st.nx (some (.tup [.bool true,e.key,e.val]))).put st.more (some (.bool true))) ((a1.put (some st.nx) (.tuple #[.bool true,e'.key,e'.val])).put (some st.more) (.bool true)).tmps:=
      qFu (v:=.bool true) (v':=.bool true) (dst:=some st.more) (T:=T1.put st.nx (some (.tup [.bool true,e.key,e.val]))) (by simp only[setT];rw[k6];rfl)
       (qFu (v:=.tup [.bool true,e.key,e.val]) (v':=.tuple #[.bool true,e'.key,e'.val]) (dst:=some st.nx) (T:=T1) (by simp only[setT];rw[k5];rfl) hTr1 (by unfold Rel;exact⟨_,rfl,.cons (by unfold Rel;rfl) (.cons c5.key (.cons c5.val .nil))⟩)) (by unfold Rel;rfl)
     refine qXF (t:=true) hms (by rw[hTr1.size];exact n1) c6 rfl ?_;refine hb _ _ _ (hmore e m1 m2) g t σ ρ1 base HB w2 _ _ _ f2 (qOc (qOc hT1 st.nx (.tup [.bool true,e.key,e.val])) st.more (.bool true)) hput (by rw[qCb,qCb];exact hd1) λex env2 s2 T2 ρ2 H2 a2 w3 j1 j2 j3 j4 j5 j6=>?_;have hr2:s2 r=some (true,.iter (some m) since (sn ++ [e.born]) c):=j4.pers r _ qHm;have f3:Fit σ ρ2 base (hdel s2 r) t H2 w3:=j4.fit.sub λi x hi=>by
      unfold hdel at hi;split at hi
      ·cases hi
      ·exact hi
     have sp2:Stp σ ρ ρ2 base (hdel s r) (hdel s2 r) t H H2 w w3:=by
      have po:Post σ ρ1 ρ1 base H1 HB w1 w2:=⟨by rw[y1];exact .refl _ _ _,y2,y3⟩
      refine⟨(sp.post.trans po sp.next (by rw[y1];exact Nat.le_refl _)).trans j4.post (by rw[y1];exact sp.next) j4.next,Nat.le_trans sp.next (by rw[<- y1];exact j4.next),j4.lo.trans (b2.trans sp.lo),λi bk hi=>?_,f3⟩;have hne:i≠r:=λq=>by subst q;rw[qK7]at hi;cases hi
      rw[qD3 hne];refine j4.pers i bk ?_;rw[qFT hne];exact sp.pers i bk hi
     cases ex with
     | nrm=>
       obtain⟨_,ab,g1,g2⟩:=j4.fit.rel.at_ r true _ (qAi hr2);cases ab<;>first|exact g2.elim|skip
       obtain⟨rfl,rfl,rfl,rfl⟩:=g2;have:=qPM he;exact ih (sn ++ [e.born]) env2 (hdel s2 r) c T2 ρ2 H2 a2 w3 (by omega) j1 qK7 g1 q3 j2 (offs hoff j3) sp2 j5 j6
     |exit id=>exact hQ2 _ env2 _ T2 ρ2 H2 a2 w3 j1 j2 (offs hoff j3) sp2 j5 j6
     |ret=>exact hQ2 _ env2 _ T2 ρ2 H2 a2 w3 j1 j2 (offs hoff j3) sp2 j5 j6
 exact key (es.length+1) [] env (hdel s r) stepped T ρ H a w (by rw[qQR];omega) hI0 qK7 g1 q2 hT (λ_ _=>rfl) (.refl hf0) hTr hd
theorem qLc:∀c:Code,qMB P X W A nt c
 | .skip=>λ_ _ _ h=>zABC (e:=.nrm) (λ_ _ _ h=>wpIn_skip h) h
 | .region _ _ _=>zACD
 | .seq a b=>seqW (qLc a) (qLc b)
 | .cond _ a b=>zAEn (qLc a) (qLc b)
 | .block _ b=>zACi (qLc b)
 | .loop b=>λenv K s h=>by
   have hb:=qLc b;unfold wpCW at h;cases hms:qBn b with
   |none=>rw[hms]at h;exact zADJ hb h
   | some st=>
     rw[hms]at h;simp only at h;cases hok:qTL nt st (assigned b)with
     |false=>rw[hok]at h;exact h.elim
     | true=>
       rw[hok,cond_true]at h;obtain⟨a,hseq⟩:=qHp hms;subst hseq;exact qSD hms (qLc st.rest) hok h
 | .exit id=>λ_ _ _ h=>zABC (e:=.exit id) (λ_ _ _ h=>wpIn_exit h) h
 | .ret=>λ_ _ _ h=>zABC (e:=.ret) (λ_ _ _ h=>wpIn_ret h) h
 | .rangeFunc _ _ _ _=>λ_ _ _ h=>h.elim
 | .scope _=>λ_ _ _ h=>h.elim
 | .label _=>λ_ _ _ h=>h.elim
 | .goto _=>λ_ _ _ h=>h.elim
 | .refuse _=>λ_ _ _ h=>h.elim
end Go.AM
namespace Go.AM
open Go Go.RowKit Go.ChangeShapes Go.WideShapes Go.ChangeAt
variable {σ:Nat→Value} {ρ ρ' ρ1:Ren} {base:Nat} {s s' s1 t:Hq} {H H' H1 H2:AH} {w w' w1:World} {P:Program} {X:Td} {W:List Nat}
theorem qPs(A:Nat->List Nat){f:FuncId}{fn:Func}{c:Code}(hfn:P.funcs[f]?=some fn)(hb:fn.body=some c){args:List AV}(hl:Nat.ble args.length fn.ntmps=true){K:AV->Hq->Prop}{s:Hq}
  (h:wpCW P X W A fn.ntmps c (qJU args) (λe env s=>retK e (resK P fn.results.toList env (λvs=>K (oneV vs) s) s)) s):wpW P X f args K s:=by
 intro g t σ ρ base H w args' hf hr;have hle:args.length<=fn.ntmps:=Nat.le_of_ble_eq_true hl;refine callsIn_of_wp_marks hfn hb trivial ?_ rfl;refine qLc c _ _ s h g t σ ρ base H w (Tr.ofListAt .nil 0 args) { tmps:=args'++Array.replicate (fn.ntmps-args'.size) undef,defers:=[] } _ hf (qKC args) (qDK hr hle) rfl λe env1 s1 T1 ρ1 H1 a1 w1 k1 k2 k3 k4 k5 k6=>?_;have body:resK P fn.results.toList env1 (λvs=>K (oneV vs) s1) s1->LeavesInM Fence.wide 0 P fn a1.tmps (λe w'=>∃v v' s' ρ' H',e=.returned v'/\Rel σ ρ' v v'/\Stp σ ρ ρ' base s s' t H H' w w'/\K v s') a1.defers .returning w1:=by intro hr;rw[k6];obtain⟨n,vs,H2,h1,s',h2,_,rfl,hK⟩:=qEg k2 _ _ _ hr H1 (k4.fit.rel.sub λi e hi=>qAi hi);obtain⟨b1,b2,b3,vs',b4,b5⟩:=qFJ (P:=P) k5 k4.fit.wr _ H1 _ vs rfl rfl h1;refine⟨_,qGZ b4,oneV vs,_,s',ρ1,H2,rfl,qKe b5,?_,hK⟩;refine⟨⟨by rw[b3];exact k4.post.ext,k4.post.wr.log b1 b2,k4.post.below⟩,by rw[b3];exact k4.next,b2.trans k4.lo,k4.pers,hf.one,k4.fit.rel.eqv b3 b2 (λi=>by rw[b1]),k4.fit.wr.log b1 b2,λid hid=>k4.fit.free id (by rw[<- b3];exact hid),k4.fit.dis⟩
 cases e with
 |exit id=>exact k1.elim
 |nrm=>exact body k1
 |ret=>exact body k1
end Go.AM
namespace Go.AM
open Go Go.RowKit Go.ChangeShapes Go.WideShapes Go.ChangeAt
variable {σ:Nat→Value} {ρ ρ' ρ1 ρ2:Ren} {base nt:Nat} {s s' s1 s2 t:Hq} {H H' H1 H2:AH} {w w' w1 w2:World} {P:Program} {X:Td} {A:Nat→List Nat}
def qY7(l:Nat)(J:Hq->Prop)(s:Hq):Prop:=match s l with
 |some (false,.loop st pd _ _ _ _ _ _)=>st≠.busy/\pd=none/\J (hdel s l)
 |_=>False
def qUR(s:Hq)(r l:Nat)(x:Bool×Blk):Hq:=hset (hset s r (false,.deferred true)) l x
theorem qZm{T:Tmps}{env:List (Nat×AV)}(hT:∀p∈env,tget T p.1=p.2){ps:List Tmp}{as bo:Code}:
  wpF (λ_=>bd (qO0 none) λdm=>bd (nw (.loop .ready none nt T ps as bo dm.1)) λl=>ret (dm,l)) (λq s'=>∃r,q.1.2=[r]/\s r=none/\s q.2=none/\q.2≠r/\s'=qUR s r q.2 (false,.loop .ready none nt env ps as bo q.1.1)) s:=by
 refine wpF.bd (.const _) (λ_=>.const _) ?_;unfold qO0;refine wpF.bd (.const _) (λ_=>.const _) (wpF.nw (x:=.deferred true) rfl λr hr=>wpF.ret ?_);refine wpF.bd (.const _) (λ_=>.const _) (wpF.nw (x:=.loop .ready none nt env ps as bo r) ⟨rfl,rfl,rfl,hT,rfl,rfl,rfl,rfl⟩ λl hl=>wpF.ret ?_);have hlr:l≠r:=λe=>by rw[e,qHm]at hl;cases hl
 exact⟨r,rfl,hr,by rw[qFT hlr]at hl;exact hl,hlr,rfl⟩
theorem qVk{T:Tmps}{ps:List Tmp}{as bo:Code}:Fr (bd (qO0 none) λdm=>bd (nw (.loop .ready none nt T ps as bo dm.1)) λl=>ret (dm,l)):=
 qBE (qRc none) λ_=>qBE (qR4 _) λ_=>qAp _
theorem qXj{α:Type}{m:Nat->M α}(hfr:∀n,Fr (m n)){Q:α->Hq->Prop}(hw:wpF m Q s)(hf:Fit σ ρ base s t H w):∃n a H' es s',m n H=some (a,H')/\Does es H H'/\HRel (add s' t) H'/\Pers (add s t) (add s' t)/\(∀i,t i≠none->s' i=none)/\Q a s':=by obtain⟨n,a,H',h1,S,h2,h3,s',rfl,h5,hq⟩:=wpF.frame hfr hw hf.dis H hf.rel;obtain⟨es,d,_⟩:=hfr n H _ H' h1;exact⟨n,a,H',es,s',h1,d,h2,h3,h5,hq⟩
theorem zABB{r l:Nat}{x:Bool×Blk}(hr:s r=none)(htr:t r=none)(hlr:l≠r):add (qUR s r l x) t=add (hset s l x) (add t (mkH [r])):=by
 funext i
 unfold add qUR hset mkH
 by_cases h1:i=l
 ·simp[h1]
 ·by_cases h2:i=r
  ·subst h2
   simp[h1,hr,htr]
  ·have h3:i ∉ [r]:=by simpa using h2
   simp only[if_neg h1,if_neg h2,if_neg h3];cases s i with
   |some y=>rfl
   |none=>cases t i<;>rfl
theorem zAEI{r:Nat}{S:Hq}(hr:S r=none)(htr:t r=none):add (add S (mkH [r])) t=add S (add t (mkH [r])):=by
 funext i
 unfold add mkH
 by_cases h2:i=r
 ·subst h2
  simp[hr,htr]
 ·have h3:i ∉ [r]:=by simpa using h2
  simp only[if_neg h3];cases S i with
  |some y=>rfl
  |none=>cases t i<;>rfl
theorem zACS(g:Grd P X){fn:Func}{post:Code}{env:Env}{K:AV->Hq->Prop}{r:Nat}{S:Hq}{T:Tmps}{a:Act}{R:Ending->World->Prop}
  (h:wpC P X A fn.ntmps none post env (λe env s=>retK e (resK P fn.results.toList env (λvs=>K (oneV vs) s) s)) S) (hT:TR T env) (hTr:TRel σ ρ fn.ntmps T a.tmps) (hd:DRel σ ρ [.mark r] a.defers) (hr:S r=none) (hf:Fit σ ρ base (add S (mkH [r])) t H w)
  (hR:∀v v' s' ρ' H' w',Rel σ ρ' v v'->Stp σ ρ ρ' base (add S (mkH [r])) s' t H H' w w'->K v s'->R (.returned v') w') :
  post.wpIn (FR none) 0 P (bodyPostM (FR none) 0 P fn R) a w:=by
 have hX:=g.ext.1
 let m:Nat->M Out:=λn=>bd (run P X n (.code fn.ntmps none post T (mkm [r]))) λo=>match o with
  | .exit e T' ms'=>match e with
    | .exit _=>fail
    |_=>bd (qAu P (run P X n) ms') λ_=>bd (qBK P T' fn.results.toList) λvs=>ret (Out.val (oneV vs))
  |_=>fail
 have hfr:∀n,Fr (m n):=λn=>by
  refine qBE (qEl P hX n _) λo=>?_;split
  ·split
   ·exact qAd
   ·exact qBE (qB7 P (qEl P hX n) _) λ_=>qBE (qCG P _ _) λvs=>qAp _
  ·exact qAd
 have hw:wpF m (λo s'=>∃v,o=.val v/\K v s') (add S (mkH [r])):=by
  have hc:=qGY (P:=P) (A:=A) (nt:=fn.ntmps) (rnd:=none) hX post env _ S h T [r] hT (by simpa using hr) (by simp);refine wpF.bd (m:=λn=>run P X n (.code fn.ntmps none post T (mkm [r]))) (qCq _) (λo=>qBw λn=>?_) (hc.mono ?_)
  ·split
   ·split
    ·exact LeM.refl _
    ·exact LeM.bd (qCo (qC4 n) _) λ_=>LeM.refl _
   ·exact LeM.refl _
  rintro o S' ⟨e,T',env',ms',s',rfl,q1,rfl,q2,q3,_,_,q6⟩;have body:resK P fn.results.toList env' (λvs=>K (oneV vs) s') s'->wpF (λn=>bd (qAu P (run P X n) (mkm (ms' ++ [r]))) λ_=>bd (qBK P T' fn.results.toList) λvs=>ret (Out.val (oneV vs))) (λo s'=>∃v,o=.val v/\K v s') (add s' (mkH (ms' ++ [r]))):=by
   intro hr;refine wpF.bd (qEF _) (λ_=>.const _) ((qI3 (Q:=λt=>t=s') (ms' ++ [r]) _ q3 (λi hi=>?_) (λi e hi=>qAi hi) (λi b hi=>?_) q2 rfl).mono ?_)
   ·rw[qAn (q2 i hi)];unfold mkH;rw[if_pos hi]
   ·cases q:s' i with
    |some x=>rw[qAi q]at hi;exact hi
    | none=>
      rw[qAn q]at hi;unfold mkH at hi;split at hi<;>cases hi
   ·rintro _ t rfl
    refine wpF.bd (.const _) (λ_=>.const _) ((qEg q1 _ _ _ hr).mono ?_);rintro vs s'' ⟨rfl,hk⟩;exact wpF.ret ⟨_,rfl,hk⟩
  cases e with
  |exit id=>exact q6.elim
  |nrm=>exact body q6
  |ret=>exact body q6
 obtain⟨n,o,H6,es,s',h1,d,h2,h3,h5,v,rfl,hK⟩:=qXj hfr hw hf;obtain⟨o,K6,r1,r2⟩:=qAM h1;have hfr':=λt=>qEl P hX n t;have rok:=qQZ g.mixed g.nonum g.ext n;obtain⟨e,T2,ms2,rfl,k⟩:=rok.1 _ _ _ _ _ _ _ _ r1;have m1:=qIj hfr' r1;have key:∀a1 w1 ρ1,CodePost σ ρ base fn.ntmps H K6 w T2 ms2 ρ1 a1 w1->bd (qAu P (run P X n) ms2) (λ_=>bd (qBK P T2 fn.results.toList) λvs=>ret (Out.val (oneV vs))) K6=some (Out.val v,H6)->LeavesInM Fence.wide 0 P fn a1.tmps R a1.defers .returning w1:=by
  intro a1 w1 ρ1 p1 h3';obtain⟨u,K7,h4,h5'⟩:=qAM h3';obtain⟨vs,K8,h6,h7⟩:=qAM h5';cases qAI h7;have m2:K6.next<=K7.next:=by obtain⟨es,d,_⟩:=qB7 P hfr' ms2 K6 () K7 h4;exact d.next
  have m3:K7.next<=H6.next:=by obtain⟨es,d,_⟩:=qCG P T2 fn.results.toList K7 vs H6 h6;exact d.next
  have hfree:Free ρ H.next H6.next:=hf.freeTo _;refine qKO (fn:=fn) (tmps:=a1.tmps) rok.1 hfr' g.nonum hf.one h4 p1.post.wr ((p1.post.ext.free hfree m1).left m3) p1.defers λρ2 w2 p2=>?_;obtain⟨b1,b2,b3,vs',b4,b5⟩:=qFJ (P:=P) (p1.tmps.mono p2.ext.le) p2.wr _ K7 _ vs rfl rfl h6;refine⟨_,qGZ b4,hR _ _ s' ρ2 H6 w2 (qKe b5) (qTT hf ⟨?_,p2.wr.log b1 b2,p1.post.below.trans p2.below⟩ d h2 h5 h3) hK⟩;rw[b3];exact p1.post.ext.trans p2.ext m1 m2
 have hnext:∀h3:bd (qAu P (run P X n) ms2) (λ_=>bd (qBK P T2 fn.results.toList) λvs=>ret (Out.val (oneV vs))) K6=some (.val v,H6),K6.next<=H6.next:=λh3=>by obtain⟨es,d,_⟩:=qBE (qB7 P hfr' ms2) (λ_=>qBE (qCG P T2 fn.results.toList) λvs=>qAp (Out.val (oneV vs))) K6 _ H6 h3;exact d.next
 cases e with
 |exit id=>exact(qAC r2).elim
 |nrm=>exact ACode.wp (n:=n) (k σ ρ base w a none _ hf.one hf.wr ((hf.freeTo _).left (hnext r2)) hTr rfl hd λa1 w1 ρ1 p1=>key a1 w1 ρ1 p1 r2)
 |ret=>exact ACode.wp (n:=n) (k σ ρ base w a none _ hf.one hf.wr ((hf.freeTo _).left (hnext r2)) hTr rfl hd λa1 w1 ρ1 p1=>key a1 w1 ρ1 p1 r2)
theorem zADk{f:FuncId}{fn:Func}{c a1 a2 post asg bo:Code}{bid:Nat}{x:Operand}{ps:Array Tmp}(hfn:P.funcs[f]?=some fn)(hb:fn.body=some c)(hc:c=.seq a1 (.seq (.seq a2 (.block bid (.rangeFunc x ps asg bo))) post))(n1:noRF a1=true)(n2:noRF a2=true){args:List AV}(hl:Nat.ble args.length fn.ntmps=true){K:AV->Hq->Prop}
  (h:wpC P X A fn.ntmps none a1 (qJU args) (λe env s=>e=.nrm/\wpC P X A fn.ntmps none a2 env (λe env s=>e=.nrm/\okX x=true/\match evD env x with
   | .fn (.func k) first cap=>isFn P k=true/\∀l d,s l=none->wpW P X k (first ++ [.yield l]++cap) (λ_ s'=>qY7 l (λs=>wpC P X A fn.ntmps none post env (λe env s=>retK e (resK P fn.results.toList env (λvs=>K (oneV vs) s) s)) s) s') (hset s l (false,.loop .ready none fn.ntmps ((A (2*qHX bo+1)).map λi=>(i,env i)) ps.toList asg bo d))
   |_=>False) s) s):wpW P X f args K s:=by
 intro g t σ ρ base H w args' hf hr;have hle:args.length<=fn.ntmps:=Nat.le_of_ble_eq_true hl;have hX:=g.ext.1;refine callsIn_of_wp_marks hfn hb trivial ?_ rfl;subst hc;refine wpIn_seq (CW.lift n1 h g t σ ρ base H w (Tr.ofListAt .nil 0 args) _ _ hf (qKC args) (qDK hr hle) rfl λe env1 s1 T1 ρ1 H1 ac1 w1 k1 k2 k3 k4 k5 k6=>?_);obtain⟨rfl,k1⟩:=k1;refine wpIn_seq (wpIn_seq (CW.lift n2 k1 g t σ ρ1 base H1 w1 T1 ac1 _ k4.fit k2 k5 k6 λe env2 s2 T2 ρ2 H2 ac2 w2 j1 j2 j3 j4 j5 j6=>?_));obtain⟨rfl,hok,j1⟩:=j1;refine wpIn_block ?_;have hev:=qIk (T:=T2) j2 hok;split at j1
 rotate_left
 ·exact j1.elim
 rename_i k first cap hfv
 rw[hfv]at hev;obtain⟨hk,hW⟩:=j1;refine wpIn_rangeFunc λfn' _=>?_;obtain⟨nE,q,K2,es2,sL,e1,d2,rel2,pers2,dis2,r,hq1,hsr,hsl,hlr,rfl⟩:=qXj (λ_=>qVk (nt:=fn.ntmps)) (qZm (T:=T2) (env:=(A (2*qHX bo+1)).map λi=>(i,env2 i)) (λp hp=>by obtain⟨i,_,rfl⟩:=List.mem_map.1 hp;exact j2 i) (ps:=ps.toList) (as:=asg) (bo:=bo) (s:=s2)) j4.fit;obtain⟨⟨d0,ms0⟩,K1,g1,g2⟩:=qAM e1;obtain⟨l,K2',g3,g4⟩:=qAM g2;cases qAI g4;obtain rfl:ms0=[r]:=hq1;simp only at hsl hlr rel2 pers2 dis2 g3;obtain⟨L,mark,w3,ρ3,run3,p3,hL,hdm⟩:=qZv (P:=P) (fn:=fn') (rA:=none) (r:=none) rfl g1 g3 j4.fit.wr (j4.fit.freeTo _) j5;generalize hXX:(false,Blk.loop .ready none fn.ntmps ((A (2*qHX bo+1)).map λi=>(i,env2 i)) ps.toList asg bo d0)=XB at rel2 pers2 dis2;have hXX2:∀i,i≠l->hset s2 l XB i=s2 i:=λi hi=>qFT hi;have htr:t r=none:=by
  cases e:t r with
  |none=>rfl
  | some y=>
    have:=dis2 r (by rw[e];simp);unfold qUR at this;rw[qFT (Ne.symm hlr),qHm]at this;cases this
 have htl:t l=none:=by
  cases e:t l with
  |none=>rfl
  | some y=>
    have:=dis2 l (by rw[e];simp);unfold qUR at this;rw[qHm]at this;cases this
 have stE:Stp σ ρ2 ρ3 base s2 (qUR s2 r l XB) t H2 K2 w2 w3:=qTT j4.fit p3 d2 rel2 dis2 pers2;have hm:∀{i},add t (mkH [r]) i≠none->t i≠none∨i=r:=fun {i} hi=>by
  cases e:t i with
  |some y=>exact .inl (by simp)
  | none=>
    rw[qAn e]at hi;have:=qKi.1 hi;exact .inr (by simpa using this)
 have hfH:Fit σ ρ3 base (hset s2 l XB) (add t (mkH [r])) K2 w3:=⟨hf.one,by rw[<- zABB hsr htr hlr];exact rel2,p3.wr,stE.fit.free,λi hi=>by
  rcases hm hi with h1|rfl
  ·have h2:=j4.fit.dis i h1
   rw[qFT (λe=>by rw[e,htl]at h1;exact h1 rfl)];exact h2
  ·rw[qFT (Ne.symm hlr)];exact hsr⟩
 have hv:=qA2 (a:=ac2) hev j5;unfold Rel at hv;obtain⟨fs,cs,he,q1,q2⟩:=hv;have hres:(resolve ac2.eval (rangeCall x L.blk) 0).run P w3=.ok { target:=.fn (.func k) cs,args:=fs ++ #[.func (.yield L.blk) #[] #[]] } w3:=by
  have e1:(#[Operand.const (.func (.yield L.blk) #[] #[])].map ac2.eval:Array Value)=#[.func (.yield L.blk) #[] #[]]:=by simp[Act.eval]
  simp only[resolve,e1,he,Deferred.ofValue,Sem.run_pure]
 have hyl:Rel σ ρ3 (.yield l) (.func (.yield L.blk) #[] #[]):=by unfold Rel;exact⟨L,hL,rfl⟩
 have hargs:RelL σ ρ3 (first ++ [.yield l]++cap) (fs ++ #[Value.func (.yield L.blk) #[] #[]]++cs).toList:=by have:=((RelL.mono p3.ext.le _ _ q1).append (.cons hyl .nil)).append (RelL.mono p3.ext.le _ _ q2);simpa using this
 have hcall:=hW l d0 hsl;rw[hXX]at hcall;have hcall:=hcall g (add t (mkH [r])) σ ρ3 base K2 w3 _ hfH hargs;refine⟨L.blk,mark,w3,_,w3,k,fs ++ #[Value.func (.yield L.blk) #[] #[]]++cs,w3,run3,hres,λ_ _=>trivial,?_,λh=>by simp[Fence.wide]at h,?_⟩
 ·simp only[invoke]
  exact qMW g.nonum hk _ w3
 have h5':CallsIn (FR none) 0 P k (fs ++ #[Value.func (.yield L.blk) #[] #[]]++cs) w3 _:=hcall;refine h5'.mono ?_;rintro en w4 ⟨v,v',s3,ρ4,H4,rfl,_,st4,hdone⟩;unfold qY7 at hdone;split at hdone
 rotate_left
 ·exact hdone.elim
 rename_i st pd nt' en' ps' as' bo' d' hl3;obtain⟨hst,rfl,hpost⟩:=hdone;have hl4:add s3 (add t (mkH [r])) l=some (false,.loop st none nt' en' ps' as' bo' d'):=qAi hl3;obtain⟨hlo4,ab,hb4,hab⟩:=st4.fit.rel.at_ l _ _ hl4;cases ab<;>first|exact hab.elim|skip
 rename_i st2 pd2 nt2 T5 ps2 as2 bo2 d5;obtain⟨rfl,rfl,rfl,hT5,rfl,rfl,rfl,rfl⟩:=hab;obtain⟨n5',u5,K5,h5,S5,rel5,pers5,hS5⟩:=wpF.wr (Q:=λ_ S=>S=hset (add s3 (add t (mkH [r]))) l (false,.loop .exhausted none nt' en' ps' as' bo' d')) hl4 (x:=.loop .exhausted none nt' en' ps' as' bo' d') (ab:=.loop .exhausted none nt' T5 ps' as' bo' d') ⟨rfl,rfl,rfl,hT5,rfl,rfl,rfl,rfl⟩ rfl H4 st4.fit.rel;subst hS5;have h5:wr l (.loop .exhausted none nt' T5 ps' as' bo' d') H4=some (u5,K5):=h5;have hL4:ρ4 l=some L:=st4.post.ext.le _ _ hL;obtain⟨n5,rc,b1,b2,b3,b4,b5⟩:=qNq st4.fit.wr hL4 hb4 h5;obtain⟨es5,d5',_⟩:=qQ1 l _ H4 _ K5 h5;refine⟨none,w4.putObj L.blk (.loop { rc with state:=.exhausted }),by rw[<- b3];exact run_endLoop b1 (by rw[b2];exact hst),?_⟩;have erc:{ rc with state:=LoopState.exhausted,pending:=none }={ rc with state:=LoopState.exhausted }:=by rw[<- b3]
 rw[erc]at b4 b5;have hs3r:s3 r=none:=st4.fit.dis r (by rw[qAn htr];exact qKi.2 (by simp));have hdr:hdel s3 l r=none:=by rw[qD3 (Ne.symm hlr)];exact hs3r
 have httl:add t (mkH [r]) l=none:=by
  rw[qAn htl];cases e:mkH [r] l with
  |none=>rfl
  |some y=>exact absurd (by simpa using qKi.1 (show mkH [r] l≠none by rw[e];simp)) hlr
 have hfit5:Fit σ ρ4 base (add (hdel s3 l) (mkH [r])) t K5 (w4.putObj L.blk (.loop { rc with state:=.exhausted })):=by
  refine⟨hf.one,?_,b4,λid hid=>st4.fit.free id (by rw[<- n5];exact hid),λi hi=>?_⟩
  ·rw[zAEI hdr htr]
   refine rel5.sub λi e hi=>?_
   by_cases hil:i=l
   ·subst hil
    rw[qAn qK7,httl]at hi;cases hi
   ·rw[qFT hil]
    cases q:s3 i with
    | some y=>
      rw[qAi (show hdel s3 l i=some y by rw[qD3 hil];exact q)]at hi;rw[qAi q];exact hi
    | none=>
      rw[qAn (show hdel s3 l i=none by rw[qD3 hil];exact q)]at hi;rw[qAn q];exact hi
  ·have h1:i≠r:=λe=>by rw[e,htr]at hi;exact hi rfl
   have h2:s3 i=none:=st4.fit.dis i (by
    cases e:t i with
    |none=>exact absurd e hi
    |some y=>rw[qAi e];simp)
   have h3:hdel s3 l i=none:=by
    unfold hdel;split
    ·rfl
    ·exact h2
   rw[qAn h3];unfold mkH;rw[if_neg (by simpa using h1)]
 have stM:Stp σ ρ2 ρ4 base s2 (add (hdel s3 l) (mkH [r])) t H2 K5 w2 (w4.putObj L.blk (.loop { rc with state:=.exhausted })):=by
  have pa:=p3.trans st4.post stE.next st4.next;refine⟨⟨?_,b4,pa.below.trans b5⟩,Nat.le_trans (Nat.le_trans stE.next st4.next) (by rw[n5];exact Nat.le_refl _),d5'.lo.trans (st4.lo.trans stE.lo),λi b hi=>?_,hfit5⟩
  ·rw[n5];exact pa.ext
  ·have hil:i≠l:=λe=>by rw[e,hsl]at hi;cases hi
   have h1:=st4.pers i b (by rw[qFT hil];exact hi);exact qAi (by rw[qD3 hil];exact h1)
 show post.wpIn (FR none) 0 P _ _ _;refine zACS g hpost j2 (j5.mono (p3.ext.le.trans st4.post.ext.le)) ?_ hdr hfit5 λv v' s' ρ' H' w' hv' st' hK=>⟨v,v',s',ρ',H',rfl,hv',k4.trans (j4.trans (stM.trans st')),hK⟩
 show DRel σ ρ4 [.mark r] (mark++ac2.defers);rw[j6,List.append_nil];exact hdm.mono st4.post.ext.le
end Go.AM
namespace Go.AM
open Go Go.RowKit Go.WideShapes Go.ChangeAt
def insU(n:Int):List Int->List Int
 |[]=>[n]
 |m::l=>cond (ltI m n) (m::insU n l) (n::m::l)
def qLQ:List Int->List Int
 |[]=>[]
 |n::l=>insU n (qLQ l)
def us32:List Int->List AV
 |[]=>[]
 |n::l=>.int .u32 n::us32 l
def qL8:List AEnt->Option (List Int)
 |[]=>some []
 | e::es=>match e.key,e.val with
   | .int .u32 n,.bool _=>match qL8 es with
     |some l=>some (n::l)
     |none=>none
   |_,_=>none
def ndB:List AEnt->List Nat->Bool
 |[],_=>true
 |e::es,bs=>!hasN e.born bs&&ndB es (e.born::bs)
def qJG(it:FuncId)(bt et:TypeId)(args:List AV):M AV:=match args with
 | [.fn (.func k) [] [.ptr b 0]]=>cond (Nat.beq k it) (bd (rd b) λblk=>match blk with
   | .cells e c 1=>cond (Nat.beq e bt) (match c.get 0 with
     | some (.map m)=>bd (rd m) λblk=>match blk with
       | .map es clock=>match qL8 es with
         | some ks=>cond (Nat.ble es.length 255&&(qF3 clock es&&(ndB es []&&!Nat.beq b m))) (match qLQ ks with
           |[]=>ret .nilslc
           |x::l=>bd (qBc et (us32 (x::l))) λid=>ret (.slc id 0 (l.length+1) none 1)) fail
         |none=>fail
       |_=>fail
     |_=>fail) fail
   |_=>fail) fail
 |_=>fail
theorem qRv(it:FuncId)(bt et:TypeId)(args:List AV):Fr (qJG it bt et args):=by
 unfold qJG
 repeat' first|exact qAd|exact qAp _|exact qGi _|exact qEX _ _|(refine qBQ _ ?_ ?_)|(refine qBE ?_ λ_=>?_)|split
theorem qP5:∀l:List Int,us32 l=l.map (AV.int .u32)
 |[]=>rfl
 |n::l=>by rw[us32,qP5 l];rfl
theorem qTI(n:Int):∀l,(insU n l).length=l.length+1
 |[]=>rfl
 | m::l=>by
   unfold insU;cases ltI m n with
   |true=>rw[cond_true,List.length_cons,qTI n l];rfl
   |false=>rfl
theorem qQ3:∀l,(qLQ l).length=l.length
 |[]=>rfl
 |n::l=>by rw[qLQ,qTI,qQ3 l];rfl
theorem qNx(n:Int):∀l,(insU n l).Perm (n::l)
 |[]=>.refl _
 | m::l=>by
   unfold insU;cases ltI m n with
   |true=>exact((qNx n l).cons m).trans (.swap n m l)
   |false=>exact .refl _
theorem qLI:∀l,(qLQ l).Perm l
 |[]=>.refl _
 |n::l=>(qNx n _).trans ((qLI l).cons n)
theorem qM9(n:Int):∀l:List Int,l.Pairwise (·<=·)->(insU n l).Pairwise (·<=·)
 |[],_=>by simp[insU]
 | m::l,h=>by
   obtain⟨h1,h2⟩:=List.pairwise_cons.1 h;unfold insU;rw[qHR]
   by_cases hmn:m<n
   ·rw[decide_eq_true hmn,cond_true]
    refine List.pairwise_cons.2 ⟨λy hy=>?_,qM9 n l h2⟩;rcases mC ((qNx n l).mem_iff.1 hy)with rfl|hy
    ·omega
    ·exact h1 y hy
   ·rw[decide_eq_false hmn,cond_false]
    refine List.pairwise_cons.2 ⟨λy hy=>?_,h⟩;rcases mC hy with rfl|hy
    ·omega
    ·have:=h1 y hy;omega
theorem qIh:∀l:List Int,(qLQ l).Pairwise (·<=·)
 |[]=>.nil
 |n::l=>qM9 n _ (qIh l)
theorem qNg{a b:List Int}(h:a.Perm b)(ha:a.Pairwise (·<=·))(hb:b.Pairwise (·<=·)):a=b:=
 List.Perm.eq_of_pairwise (λx y _ _ h1 h2=>Int.le_antisymm h1 h2) ha hb h
section
variable {P:Program} {X:Td} {σ:Nat→Value} {ρ ρ0:Ren} {base:Nat}
theorem qKS:∀{es:List AEnt}{ks:List Int},qL8 es=some ks->ks.length=es.length/\∀(i:Nat) (e:AEnt),es[i]?=some e->∃n b,e.key=.int .u32 n/\e.val=.bool b/\ks[i]?=some n
 |[],ks,h=>by cases h;exact⟨rfl,λi e h=>by simp at h⟩
 | e::es,ks,h=>by
   unfold qL8 at h;split at h
   ·rename_i n b e1 e2
    split at h
    ·rename_i l hl
     cases h;obtain⟨h1,h2⟩:=qKS hl;refine⟨by simp[h1],λi e' hi=>?_⟩;cases i with
     |zero=>cases hi;exact⟨n,b,e1,e2,rfl⟩
     |succ i=>exact h2 i e' hi
    ·cases h
   ·cases h
theorem qXA{es:List AEnt}{es':List MapEntry}{ks:List Int}(h:EsRel σ ρ es es')(hk:qL8 es=some ks):EsRel σ ρ0 es es':=⟨h.len,λi e e' h1 h2=>by
 obtain⟨n,b,e1,e2,_⟩:=(qKS hk).2 i e h1;obtain⟨a1,a2,a3⟩:=h.at_ i e e' h1 h2;refine⟨?_,?_,a3⟩
 ·rw[e1]at a1 ⊢;unfold Rel at a1 ⊢;exact a1
 ·rw[e2]at a2 ⊢;unfold Rel at a2 ⊢;exact a2⟩
structure KSorted(P:Program)(X:Td)(f it:FuncId)(bt et:TypeId):Prop where
 run:∀(es:List AEnt) (c:Nat) (ks:List Int) (s:Hq) (b m:Nat),qL8 es=some ks->es.length<=255->qF3 c es=true->ndB es []=true->b≠m->s b=some (true,.cells bt [.map m])->s m=some (true,.map es c)->
  wpW P X f [.fn (.func it) [] [.ptr b 0]] (λv s'=>(ks=[]->v=.nilslc)/\(ks≠[]->∃d,v=.slc d 0 ks.length none 1/\s' d=some (false,.cells et (us32 (qLQ ks))))) s
def sortedUX(f it:FuncId)(bt et:TypeId):Td:=λk=>cond (Nat.beq k f) (some (qJG it bt et)) none
theorem qNU(f it:FuncId)(bt et:TypeId):FrX (sortedUX f it bt et):=λk gg args h=>by
 unfold sortedUX at h;cases hb:Nat.beq k f with
 |true=>rw[hb]at h;cases h;exact qRv _ _ _ _
 |false=>rw[hb]at h;cases h
theorem sortedUX_ok{f it:FuncId}{bt et:TypeId}(g:Grd P X)(hP:KSorted P X f it bt et):ExtOK P (sortedUX f it bt et):=by
 refine⟨qNU f it bt et,λk gg hg args H v H' hr σ ρ base w args' hσ hwr hf hra=>?_⟩;unfold sortedUX at hg;cases hb:Nat.beq k f with
 |false=>rw[hb]at hg;cases hg
 |true=>
 rw[hb]at hg;cases hg;obtain rfl:=bE hb;unfold qJG at hr;split at hr
 rotate_left
 ·exact(qAC (H:=H) hr).elim
 rename_i k' b;obtain⟨hk,hr2⟩:=qAk hr;clear hr;obtain rfl:=bE hk;obtain⟨blk,K1,h1,h2⟩:=qAM hr2;obtain⟨hb1,e1,e2,e3⟩:=qCF h1;split at h2
 rotate_left
 ·exact(qAC (H:=K1) h2).elim
 rename_i e c;obtain⟨he,h2b⟩:=qAk h2;clear h2;obtain rfl:=bE he;generalize hc0:c.get 0=c0 at h2b;cases c0 with
 |none=>exact(qAC (H:=K1) h2b).elim
 |some y0=>
 cases y0<;>first|exact(qAC (H:=K1) h2b).elim|skip
 rename_i m;obtain⟨blk2,K2,h3,h4⟩:=qAM h2b;obtain⟨hb2,f1,f2,f3⟩:=qCF h3;rw[e1]at hb2;cases blk2<;>first|exact(qAC (H:=K2) h4).elim|skip
 rename_i es clock;simp only at h4;generalize hks:qL8 es=kk at h4;cases kk with
 |none=>exact(qAC (H:=K2) h4).elim
 |some ks=>
 obtain⟨hg0,h5⟩:=qAk h4;simp only[Bool.and_eq_true,Bool.not_eq_true']at hg0;obtain⟨g1,g2,g3,g4⟩:=hg0;have hlen:es.length<=255:=Nat.le_of_ble_eq_true g1;have hbm:b≠m:=λq=>by rw[q,Nat.beq_refl]at g4;cases g4
 have harg:∃L,ρ b=some L/\∃x,args'.toList=[x]/\∀ ρ0:Ren,ρ0 b=some L->Rel σ ρ0 (.fn (.func k') [] [.ptr b 0]) x:=by
  unfold RelL at hra;obtain⟨y,ys,z1,z2,z3⟩:=hra;unfold RelL at z3;subst z3;unfold Rel at z2;obtain⟨as',bs',rfl,z4,z5⟩:=z2;unfold RelL at z4;unfold RelL at z5;obtain⟨u,us,z6,z7,z8⟩:=z5;unfold RelL at z8;subst z8;unfold Rel at z7;obtain⟨L,hL,rfl⟩:=z7;refine⟨L,hL,_,z1,λρ0 h0=>?_⟩;unfold Rel;refine⟨_,_,rfl,?_,?_⟩
  ·unfold RelL;exact z4
  ·unfold RelL
   refine⟨_,_,z6,?_,?_⟩
   ·unfold Rel;exact⟨L,h0,rfl⟩
   ·unfold RelL;rfl
 obtain⟨L,hL,x,hx,hrelx⟩:=harg;obtain⟨L',hL',cc,fr,q1,q2,q3,q4,q5⟩:=hwr.blk _ _ hb1;rw[hL]at hL';cases hL';obtain⟨mv,q6,q7,q8⟩:=q5 0 _ hc0;unfold Rel at q7;obtain⟨D,hD,rfl⟩:=q7;obtain⟨D',hD',es',p1,p2⟩:=hwr.blk _ _ hb2;rw[hD]at hD';cases hD'
 let ρ0:Ren:=λi=>if i=b then some L else if i=m then some D else none
 let T0:Tr ABlk:=(Tr.nil.put b (some (.cells e (Tr.ofListAt .nil 0 [.map m]) 1))).put m (some (.map es clock))
 let H0:AH:={ blks:=T0,next:=b+m+1,lo:=b+m+1,log:=[] }
 let s0:Hq:=λi=>if i=b then some (true,.cells e [.map m])else if i=m then some (true,.map es clock)else none
 have r0b:ρ0 b=some L:=if_pos rfl;have r0m:ρ0 m=some D:=by show(if m=b then _ else _)=_;rw[if_neg (Ne.symm hbm),if_pos rfl]
 have gT:∀i,T0.get i=if m=i then some (.map es clock)else if b=i then some (.cells e (Tr.ofListAt .nil 0 [.map m]) 1)else none:=λi=>by show(Tr.put _ m _).get i=_;rw[Tr.get_put,Tr.get_put,Tr.get_nil]
 have gT2:∀i y,T0.get i=some y->i=m∨i=b:=λi y h=>by
  rw[gT]at h;split at h
  ·exact .inl (Eq.symm ‹_›)
  ·split at h
   ·exact .inr (Eq.symm ‹_›)
   ·cases h
 have hes:EsRel σ ρ0 es es'.toList:=qXA p2 hks;have hwr0:WR σ ρ0 w.heap.size H0 w:=by
  refine⟨λi y hi=>?_,λi y Li hi _ hlo=>?_,λi j bi bj Li Lj hi _ _ _ hlo _=>?_,Nat.le_refl _⟩
  ·rcases gT2 i y hi with rfl|rfl
   ·rw[show T0.get i=_ from gT i,if_pos rfl]at hi
    cases hi;exact⟨D,r0m,es',p1,hes⟩
   ·rw[show T0.get i=_ from gT i,if_neg (Ne.symm hbm),if_pos rfl]at hi
    cases hi;refine⟨L,r0b,cc,fr,q1,λho=>absurd ho (by show ¬(i+m+1<=i);omega),q3,q4,λj u hu=>?_⟩;rw[Tr.get_ofListAt]at hu;split at hu
    ·rename_i hj
     have hj0:j=0:=by have:j-0<1:=by simpa using hj.2
                      omega
     subst hj0;have hu:some (AV.map m)=some u:=by simpa using hu
     cases hu;exact⟨_,q6,by unfold Rel;exact⟨D,r0m,rfl⟩,q8⟩
    ·rw[Tr.get_nil]at hu;cases hu
  ·have:b+m+1<=i:=hlo
   rcases gT2 i y hi with rfl|rfl<;>omega
  ·have:b+m+1<=i:=hlo
   rcases gT2 i bi hi with rfl|rfl<;>omega
 have hfit:Fit σ ρ0 w.heap.size s0 (λ_=>none) H0 w:=by
  refine⟨hσ,⟨Nat.le_refl _,λi hi=>?_,λi t y hi=>?_⟩,hwr0,λi hi=>?_,λi hi=>absurd rfl hi⟩
  ·cases q:T0.get i with
   |none=>exact absurd q hi
   | some y=>
     show i<b+m+1;rcases gT2 i y q with rfl|rfl<;>omega
  ·have hi:s0 i=some (t,y):=by
    cases q:s0 i with
    |none=>rw[qAn q]at hi;cases hi
    |some z=>rw[qAi q]at hi;exact hi
   have hi:(if i=b then some (true,Blk.cells e [.map m])else if i=m then some (true,.map es clock)else none)=some (t,y):=hi
   by_cases q:i=b
   ·subst q
    rw[if_pos rfl]at hi;cases hi;refine⟨λq=>(by cases q),.cells e (Tr.ofListAt .nil 0 [.map m]) 1,(gT i).trans (by rw[if_neg (Ne.symm hbm),if_pos rfl]),rfl,rfl,rfl,λj hj=>?_⟩
    have hj0:j=0:=by have:j<1:=hj
                     omega
    subst hj0;rw[Tr.get_ofListAt];simp
   ·rw[if_neg q]at hi
    by_cases q2:i=m
    ·subst q2
     rw[if_pos rfl]at hi;cases hi;exact⟨λq=>(by cases q),.map es clock,(gT i).trans (by rw[if_pos rfl]),rfl,rfl⟩
    ·rw[if_neg q2]at hi
     cases hi
  ·have hi:b+m+1<=i:=hi
   show(if i=b then _ else _)=_;rw[if_neg (by omega),if_neg (by omega)]
 have hcall:=hP.run es clock ks s0 b m hks hlen g2 g3 hbm (if_pos rfl) (by show(if m=b then _ else _)=_;rw[if_neg (Ne.symm hbm),if_pos rfl]) g (λ_=>none) σ ρ0 w.heap.size H0 w args' hfit (by rw[hx];exact .cons (hrelx ρ0 r0b) .nil);refine hcall.mono ?_;rintro en w' ⟨v1,v1',s',ρ1,H1,rfl,hv1,st,hK1,hK2⟩;have hbel:Below w.heap.size w w':=st.post.below;have hwr':=(qMQ hwr hbel).log (K:=K2) (by rw[f1,e1]) (by rw[f2,e2]);have hnx:K2.next=H.next:=by rw[f3,e3]
 have hkl:=qQ3 ks;cases hs:qLQ ks with
 | nil=>
   rw[hs]at h5 hkl;cases qAI h5;have hk0:ks=[]:=List.eq_nil_of_length_eq_zero hkl.symm;rw[hK1 hk0]at hv1;refine⟨v1',ρ,rfl,⟨by rw[hnx];exact .refl _ _ _,hwr',hbel.mono hwr.base⟩,?_⟩;unfold Rel at hv1 ⊢;exact hv1
 | cons y l=>
   have hkl2:ks.length=l.length+1:=by rw[hs]at hkl;exact hkl.symm
   obtain⟨d,rfl,hd⟩:=hK2 (λq=>by rw[q]at hkl2;cases hkl2);rw[hs]at h5 hd;obtain⟨id,K3,h6,h7⟩:=qAM h5;cases qAI h7;obtain⟨_,h8⟩:=qAk h6;obtain⟨rfl,hlo,hk3,hkl3,hkn⟩:=qJv h8;obtain⟨hlod,ab,hab,hbr⟩:=st.fit.rel.at_ d false _ (qAi hd);cases ab<;>first|exact hbr.elim|skip
   rename_i e9 c9 n9;obtain⟨rfl,rfl,_,hget⟩:=hbr;obtain⟨Ld,hLd,carr,fr9,o1,o2,o3,o4,o5⟩:=st.post.wr.blk d _ hab;have hbase:w.heap.size<=Ld.blk:=st.post.wr.own d _ Ld hab hLd (hlod rfl);have hn:ρ K2.next=none:=hf K2.next (by omega) (by omega);have hu:Upd w' Ld.blk (.cells carr et fr9) w':=⟨rfl,rfl,rfl,Nat.le_refl _,o1,λ_ _=>rfl⟩
   obtain⟨ρ',x1,x2,x3,x4⟩:=hwr'.new (K:=H') (w':=w') (L:=Ld) (b:=.cells et (Tr.ofListAt .nil 0 (us32 (y::l))) (us32 (y::l)).length) hn
    (λj bj Lj hj hLj=>by rw[f1,e1]at hj;exact Nat.ne_of_lt (Nat.lt_of_lt_of_le (qJ4 hwr hj hLj) hbase)) (Nat.le_trans hwr.base hbase) hu
    (λρ' hle _=>⟨carr,fr9,rfl,λ_=>o2 (hlod rfl),o3,o4,λi u hu=>by
     rw[Tr.get_ofListAt]at hu;split at hu
     ·rename_i hi
      rw[Nat.sub_zero]at hu;have hi2:i<(us32 (y::l)).length:=(gS hu).1;obtain⟨u',o6,o7,o8⟩:=o5 i u ((hget i hi2).trans hu);refine⟨u',o6,?_,o8⟩;rw[qP5,List.getElem?_map]at hu;obtain⟨z,_,rfl⟩:=Option.map_eq_some_iff.1 hu;unfold Rel at o7 ⊢;exact o7
     ·rw[Tr.get_nil]at hu;cases hu⟩) hk3 hkl3 hkn
   refine⟨_,ρ',rfl,⟨by rw[<- hnx];exact x1,x3,hbel.mono hwr.base⟩,?_⟩;unfold Rel at hv1 ⊢;obtain⟨L1,a,cp,z1,z2,z3,z4,z5⟩:=hv1;rw[hLd]at z1;cases z1;rw[hkl2]at z2 z3 z4;exact⟨Ld,a,cp,x2,z2,z3,z4,z5⟩
end
end Go.AM
