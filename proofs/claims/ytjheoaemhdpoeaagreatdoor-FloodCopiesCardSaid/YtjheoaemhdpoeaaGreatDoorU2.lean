/- Part U2 of a calculus over a small memory that is proved to answer as the program does, and of its use for the functions that the law reaches: see the last part. -/
import Derived.Test.YtjheoaemhdpoeaaGreatDoorU1
import Derived.Test.YtjheoaemhdpoeaaGreatDoorA3
import Derived.DataReads
import Derived.ChangeArms
import Derived.OpenShut
set_option linter.unusedVariables false
namespace Go.AM
open Go
variable {α β : Type} {P : Program} {X : Td} {nt : Nat} {rnd : Option Nat}
def noRF:Code→Bool
 | .skip=>true
 | .region _ ops draw=>draw||(qBN ops.toList).isNone
 | .seq a b=>noRF a&&noRF b
 | .cond _ a b=>noRF a&&noRF b
 | .block _ b=>noRF b
 | .loop b=>(qBM b).isNone&&noRF b
 | .exit _=>true
 | .ret=>true
 | _=>false
def reMs (ms:List Mk):Out→Out
 | .exit e T _=>.exit e T ms
 | .val v=>.val v
def reO (ms:List Mk):Option (Out × AH)→Option (Out × AH)
 | some (o,H)=>some (reMs ms o,H)
 | none=>none
theorem qKb:∀ (n:Nat) (c:Code),noRF c=true→∀ (T:Tmps) (ms:List Mk) (H:AH),run P X n (.code nt rnd c T ms) H=reO ms (run P X n (.code nt rnd c T []) H)
 | 0,_,_,_,_,_=>rfl
 | n+1,c,hc,T,ms,H=>by
   show qAv P (run P X n) nt rnd c T ms H=reO ms (qAv P (run P X n) nt rnd c T [] H)
   have ih:=λc hc T ms H=>qKb n c hc T ms H
   cases c with
   | skip=>rfl
   | exit id=>rfl
   | ret=>rfl
   | region id ops draw=>
     simp only [noRF,Bool.or_eq_true] at hc
     simp only [qAv]
     cases draw with
     | false=>
       have hd:qBN ops.toList=none:=by
        rcases hc with h | h
        ·cases h
        ·simpa using h
       simp only [cond_false,hd]
       unfold bd
       cases opsA P (run P X n) nt ops.toList ops.toList T H with
       | none=>rfl
       | some p=>rfl
     | true=>
       simp only [cond_true]
       unfold bd
       cases (cond (qBp ops.toList) (opsD P (run P X n) nt ops ops.toList (masks ops.toList []) [] T) fail:M Tmps) H with
       | none=>rfl
       | some p=>rfl
   | seq a b=>
     simp only [noRF,Bool.and_eq_true] at hc
     simp only [qAv,bd]
     rw [ih a hc.1 T ms H]
     have e0:=ih a hc.1 T [] H
     cases hq:run P X n (.code nt rnd a T []) H with
     | none=>rfl
     | some p=>
       obtain ⟨o,H1⟩:=p
       rw [hq] at e0
       simp only [reO,Option.some.injEq,Prod.mk.injEq,and_true] at e0
       simp only [reO]
       cases o with
       | val v=>rfl
       | exit e T1 ms1=>
         simp only [reMs,Out.exit.injEq,true_and] at e0
         subst e0
         cases e with
         | nrm=>exact ih b hc.2 T1 ms H1
         | ret=>rfl
         | exit id=>rfl
   | cond x a b=>
     simp only [noRF,Bool.and_eq_true] at hc
     simp only [qAv]
     cases ev T x with
     | none=>rfl
     | some v=>
       cases v with
       | bool t=>cases t with
         | true=>exact ih a hc.1 T ms H
         | false=>exact ih b hc.2 T ms H
       | _=>rfl
   | block id b=>
     simp only [noRF] at hc
     simp only [qAv,bd]
     rw [ih b hc T ms H]
     cases hq:run P X n (.code nt rnd b T []) H with
     | none=>rfl
     | some p=>
       obtain ⟨o,H1⟩:=p
       cases o with
       | val v=>rfl
       | exit e T1 ms1=>
         cases e with
         | nrm=>rfl
         | ret=>rfl
         | exit id'=>
           simp only [reO,reMs]
           cases Nat.beq id' id <;> rfl
   | loop b=>
     simp only [noRF,Bool.and_eq_true] at hc
     have hm:qBM b=none:=by simpa using hc.1
     simp only [qAv,hm,bd]
     rw [ih b hc.2 T ms H]
     have e0:=ih b hc.2 T [] H
     cases hq:run P X n (.code nt rnd b T []) H with
     | none=>rfl
     | some p=>
       obtain ⟨o,H1⟩:=p
       rw [hq] at e0
       simp only [reO,Option.some.injEq,Prod.mk.injEq,and_true] at e0
       simp only [reO]
       cases o with
       | val v=>rfl
       | exit e T1 ms1=>
         simp only [reMs,Out.exit.injEq,true_and] at e0
         subst e0
         cases e with
         | nrm=>exact ih (.loop b) (by simp [noRF,hm,hc.2]) T1 ms H1
         | ret=>rfl
         | exit id=>rfl
   | scope _=>cases hc
   | label _=>cases hc
   | goto _=>cases hc
   | refuse _=>cases hc
   | rangeFunc _ _ _ _=>cases hc
theorem wpF.both {m:Nat→M α} {Q:α→Hq→Prop} {R:α→Prop} {s:Hq} (h:wpF m Q s) (hR:∀ n H a H',m n H=some (a,H')→R a):wpF m (λa s=>Q a s∧R a) s:=λH hH=>by
 obtain ⟨n,a,H',h1,s',h2,h3,h4⟩:=h H hH
 exact ⟨n,a,H',h1,s',h2,h3,h4,hR n H a H' h1⟩
theorem qUB {c:Code} (hc:noRF c=true) {T:Tmps} {Q:Out→Hq→Prop} {s:Hq} (ms:List Mk) (h:wpF (λn=>run P X n (.code nt rnd c T [])) Q s) :
  wpF (λn=>run P X n (.code nt rnd c T ms)) (λo s=>∃ o',o=reMs ms o'∧o'=reMs [] o'∧Q o' s) s:=λH hH=>by
 obtain ⟨n,a,H',h1,s',h2,h3,h4⟩:=h H hH
 have e0:=qKb (P:=P) (X:=X) (nt:=nt) (rnd:=rnd) n c hc T [] H
 have h1:run P X n (.code nt rnd c T []) H=some (a,H'):=h1
 rw [h1] at e0
 simp only [reO,Option.some.injEq,Prod.mk.injEq,and_true] at e0
 refine ⟨n,reMs ms a,H',?_,s',h2,h3,a,rfl,e0,h4⟩
 show run P X n (.code nt rnd c T ms) H=_
 rw [qKb n c hc T ms H,h1];rfl
theorem qVB {γ δ:Type} {f:Nat→γ→N δ} {G:δ × AH→Prop}:∀ (l:List (γ × AH)),l≠[]→(∀ p∈l,∃ n0 L,(∀ n,n0≤n→f n p.1 p.2=some L)∧L≠[]∧∀ q∈L,G q)→
  ∃ n0 L,(∀ n,n0≤n→allN (f n) l=some L)∧L≠[]∧∀ q∈L,G q
 | [],h,_=>absurd rfl h
 | [(a,K)],_,h=>by
   obtain ⟨n0,L,h1,h2,h3⟩:=h (a,K) List.mem_cons_self
   exact ⟨n0,L,λn hn=>by simp only [allN];rw [h1 n hn];simp,h2,h3⟩
 | (a,K) :: p :: l,_,h=>by
   obtain ⟨n0,L,h1,h2,h3⟩:=h (a,K) List.mem_cons_self
   obtain ⟨n1,L1,k1,k2,k3⟩:=qVB (p :: l) (by simp) λq hq=>h q (List.mem_cons_of_mem _ hq)
   refine ⟨max n0 n1,L ++ L1,λn hn=>?_,by simp [h2],λq hq=>?_⟩
   ·unfold allN
    rw [h1 n (by omega),k1 n (by omega)]
   ·rcases List.mem_append.1 hq with hq | hq
    ·exact h3 q hq
    ·exact k3 q hq
theorem qOv {γ:Type} {H:AH}:∀ {l:List γ} {p:γ × AH},p∈qJu H l→p.1∈l∧p.2=H
 | a :: l,p,h=>by
   unfold qJu at h
   rcases List.mem_cons.1 h with rfl | h
   ·exact ⟨List.mem_cons_self,rfl⟩
   ·obtain ⟨h1,h2⟩:=qOv h
    exact ⟨List.mem_cons_of_mem _ h1,h2⟩
theorem qPt {n b:Nat}:∀ {l:List Nat},hasN n (l ++ [b])=(hasN n l||Nat.beq n b)
 | []=>by unfold hasN;simp [hasN]
 | m :: l=>by
   show (Nat.beq n m||hasN n (l ++ [b]))=((Nat.beq n m||hasN n l)||Nat.beq n b)
   rw [qPt,Bool.or_assoc]
theorem qMX {seen:List Nat}:∀ {es:List AEnt} {e:AEnt},e∈qGZ seen es→e∈es∧hasN e.born seen=false
 | x :: es,e,h=>by
   unfold qGZ at h
   cases c:hasN x.born seen with
   | true=>
     rw [c] at h
     obtain ⟨h1,h2⟩:=qMX h
     exact ⟨List.mem_cons_of_mem _ h1,h2⟩
   | false=>
     rw [c] at h
     rcases List.mem_cons.1 h with rfl | h
     ·exact ⟨List.mem_cons_self,c⟩
     ·obtain ⟨h1,h2⟩:=qMX h
      exact ⟨List.mem_cons_of_mem _ h1,h2⟩
theorem qVG {seen:List Nat} {b:Nat}:∀ {es:List AEnt},(qGZ (seen ++ [b]) es).length≤(qGZ seen es).length
 | []=>Nat.le_refl _
 | x :: es=>by
   unfold qGZ
   rw [qPt]
   have:=qVG (seen:=seen) (b:=b) (es:=es)
   cases c:hasN x.born seen with
   | true=>exact this
   | false=>
     cases d:Nat.beq x.born b with
     | true=>simp only [Bool.or_true,cond_true,cond_false,List.length_cons];omega
     | false=>simp only [Bool.or_false,cond_false,List.length_cons];omega
theorem qQf {seen:List Nat}:∀ {es:List AEnt} {e:AEnt},e∈qGZ seen es→(qGZ (seen ++ [e.born]) es).length < (qGZ seen es).length
 | x :: es,e,h=>by
   have hle:=qVG (seen:=seen) (b:=e.born) (es:=es)
   unfold qGZ at h ⊢
   rw [qPt]
   cases c:hasN x.born seen with
   | true=>
     rw [c] at h
     exact qQf h
   | false=>
     rw [c] at h
     rcases List.mem_cons.1 h with rfl | h
     ·simp only [Nat.beq_refl,Bool.or_true,cond_true,cond_false,List.length_cons];omega
     ·have:=qQf h
      cases d:Nat.beq x.born e.born with
      | true=>simp only [Bool.or_true,cond_true,cond_false,List.length_cons];omega
      | false=>simp only [Bool.or_false,cond_false,List.length_cons];omega
theorem qN5:∀ es:List AEnt,qGZ [] es=es
 | []=>rfl
 | x :: es=>by
   show cond (hasN x.born []) (qGZ [] es) (x :: qGZ [] es)=_
   rw [qN5 es];rfl
end Go.AM
namespace Go.AM
open Go
variable {α β : Type} {P : Program} {X : Td} {nt : Nat} {rnd : Option Nat}
theorem ClE.keep {s0:Hq} {H0 H H':AH} {r:Nat} {es:List (Nat × Bool)} (h:ClE s0 H0 r H) (d:Does es H H') (hw:∀ i,(i,true)∈es→H.next≤i):ClE s0 H0 r H'∧∀ i,i < H.next→H'.blks.get i=H.blks.get i:=by
 have same:∀ i,i < H.next→H'.blks.get i=H.blks.get i:=λi hi=>d.same i λhm=>by have:=hw i hm;omega
 refine ⟨⟨⟨by rw [d.lo];exact Nat.le_trans h.rel.lo d.next,λi hi=>?_,λi t b hi=>?_⟩,Nat.le_trans h.next d.next,d.lo.trans h.lo,λi hi=>?_,λi hi hr=>(same i (Nat.lt_of_lt_of_le hi h.next)).trans (h.kept i hi hr)⟩,same⟩
 ·rcases d.gone i hi with e | e
  ·exact Nat.lt_of_lt_of_le (h.rel.wf i e) d.next
  ·exact e.2
 ·obtain ⟨k1,ab,k2,k3⟩:=h.rel.at_ i t b hi
  exact ⟨λq=>by rw [d.lo];exact k1 q,ab,by rw [same i (h.rel.wf i (by rw [k2];simp))];exact k2,k3⟩
 ·rw [d.log] at hi
  rcases List.mem_append.1 hi with hi | hi
  ·exact .inr (Nat.le_trans h.next (hw i hi))
  ·exact h.log i hi
theorem qQ9 {b:Nat}:∀ {l:List Nat},qOL (l ++ [b])=some b
 | []=>rfl
 | [x]=>rfl
 | x :: y :: l=>by
   show qOL (y :: l ++ [b])=some b
   exact qQ9
structure Cl (s0:Hq) (H0:AH) (r:Nat) (mo:Option Nat) (since:Nat) (seen:List Nat) (H:AH):Prop where
 e:ClE s0 H0 r H
 it:∃ stepped,H.blks.get r=some (.iter mo since seen stepped)∧since≤stepped
 lr:H.lo≤r
theorem ClE.read {s0:Hq} {H0 H:AH} {r:Nat} {l:List (Nat × Bool)} (h:ClE s0 H0 r H) (hl:∀ i,(i,true) ∉ l):ClE s0 H0 r { H with log:=l ++ H.log }:=
 ⟨⟨h.rel.lo,h.rel.wf,h.rel.at_⟩,h.next,h.lo,λi hi=>by
   rcases List.mem_append.1 hi with q | q
   ·exact absurd q (hl i)
   ·exact h.log i q,h.kept⟩
def zABs (s0:Hq) (mo:Option Nat) (c:Nat) (es:List AEnt):Prop:=match mo with
 | none=>es=[]
 | some m=>∃ t,s0 m=some (t,.map es c)
theorem qZI {s0:Hq} {H0 H:AH} {r:Nat} {mo:Option Nat} {since c:Nat} {seen:List Nat} {es:List AEnt} (h:Cl s0 H0 r mo since seen H)
  (hmap:zABs s0 mo c es) (hold:qKM since es=true) :
  ∃ d H1,qTP (.ptr r 0) H=some ((d,qGZ seen es),H1)∧Cl s0 H0 r mo since seen H1∧d.b=r∧∀ m,mo=some m→d.m=m∧d.since=since∧d.seen=seen∧d.clock=c:=by
 obtain ⟨st,hit,hst⟩:=h.it
 cases mo with
 | none=>
   have hmap:es=[]:=hmap
   subst hmap
   refine ⟨⟨r,0,0,[],0⟩,{ H with log:=[(r,false)] ++ H.log },?_,⟨h.e.read (by simp),⟨st,hit,hst⟩,h.lr⟩,rfl,λm e=>by cases e⟩
   show bd (rd r) _ H=_
   unfold bd rd
   rw [hit]
   rfl
 | some m=>
   obtain ⟨t,hm⟩:=hmap
   obtain ⟨_,ab,g1,g2⟩:=h.e.rel.at_ m t _ hm
   cases ab <;> first | exact g2.elim | skip
   obtain ⟨rfl,rfl⟩:=g2
   refine ⟨⟨r,m,since,seen,c⟩,{ H with log:=[(m,false),(r,false)] ++ H.log },?_,⟨h.e.read (by simp),⟨st,hit,hst⟩,h.lr⟩,rfl,λm' e=>by cases e;exact ⟨rfl,rfl,rfl,rfl⟩⟩
   show bd (rd r) _ H=_
   unfold bd rd
   rw [hit]
   simp only
   rw [g1]
   simp only [Nat.ble_eq_true_of_le hst,hold,Bool.and_self,cond_true]
   rfl
theorem qPD {T:Tmps} {env:Env} (h:TR T env) (i:Nat) (v:AV):TR (T.put i (some v)) (upd env i v):=λj=>by
 unfold tget upd
 rw [Tr.get_put]
 cases e:Nat.beq j i with
 | true=>
   have:=Nat.eq_of_beq_eq_true e
   subst this
   rw [if_pos rfl];rfl
 | false=>
   have hne:¬ i=j:=λq=>by subst q;rw [Nat.beq_refl] at e;cases e
   rw [if_neg hne]
   exact h j
def qR5 (ih:Task→M Out) (nt:Nat) (rnd:Option Nat) (st:MapStep) (k:Nat) (T:Tmps) (ms:List Mk) (d:IterD) (e:AEnt):N Out:=
 bdN (oneN (bd (qWJ d e) λ_=>ih (.code nt rnd st.rest ((T.put st.nx (some (.tup [.bool true,e.key,e.val]))).put st.more (some (.bool true))) ms))) λo=>match o with
  | .exit .nrm T ms=>qBJ ih nt rnd st k T ms
  | o=>oneN (ret o)
abbrev zADW (st:MapStep) (env:Env) (e:AEnt):Env:=upd (upd env st.nx (.tup [.bool true,e.key,e.val])) st.more (.bool true)
abbrev zADj (st:MapStep) (env:Env):Env:=upd (upd env st.nx (.tup [.bool false])) st.more (.bool false)
theorem qZK (hX:FrX X) {st:MapStep} (hno:noRF st.rest=true) {env:Env} {s0:Hq} {H0:AH} {r:Nat} (hr:s0 r=none) (hit:env st.it=.ptr r 0) {slots:List Nat} (hits:memN st.it slots=false) {mo:Option Nat} {since c:Nat} {es:List AEnt}
  (hmap:zABs s0 mo c es) (hold:qKM since es=true) (hsc:since≤c) {S S2:List AV} {e0:AExit} (he0:e0≠.nrm)
  (hbody:∀ e∈es,∀ sn:List Nat,qOL sn=some e.born→∀ (env1:Env) (T1:Tmps),TR T1 (zADW st env1 e)→Off slots env env1→(slots.map env1=slots.map env∨shEs (slots.map env1) S=true)→
   wpF (λn=>run P X n (.code nt rnd st.rest T1 [])) (λo _=>∃ T' env',o=.exit .nrm T' []∧TR T' env'∧Off slots env env'∧shEs (slots.map env') S=true) (frz (hset s0 r (true,.iter mo since sn c))))
  (hfin:∀ (env1:Env) (T1:Tmps),TR T1 (zADj st env1)→Off slots env env1→((es=[]∧slots.map env1=slots.map env)∨(es≠[]∧shEs (slots.map env1) S=true))→
   wpF (λn=>run P X n (.code nt rnd st.rest T1 [])) (λo _=>∃ T' env',o=.exit e0 T' []∧TR T' env'∧Off slots env env'∧(es≠[]→shEs (slots.map env') S2=true)) (frz s0)) (ms:List Mk) :
  ∀ (k:Nat) (seen:List Nat) (H:AH) (env1:Env) (T1:Tmps),Cl s0 H0 r mo since seen H→TR T1 env1→Off slots env env1→((seen=[]∧slots.map env1=slots.map env)∨(es≠[]∧shEs (slots.map env1) S=true))→(qGZ seen es).length < k→
   ∃ n0 L,(∀ n,n0≤n→qBJ (run P X n) nt rnd st k T1 ms H=some L)∧L≠[]∧(es=[]→∃ p,L=[p])∧∀ p∈L,(∃ T' env',p.1=.exit e0 T' ms∧TR T' env'∧Off slots env env'∧(es≠[]→shEs (slots.map env') S2=true))∧ClE s0 H0 r p.2:=by
 intro k
 induction k with
 | zero=>intro seen H env1 T1 _ _ _ _ hk;omega
 | succ k ih=>
 intro seen H env1 T1 hc hT hoff hsh hk
 obtain ⟨d,H1,g1,g2,g3,g4⟩:=qZI hc hmap hold
 have htg:tget' T1 st.it=.ptr r 0:=by
  have:=hT st.it
  unfold tget at this
  unfold tget'
  rw [hoff st.it hits,hit] at this
  cases q:T1.get st.it with
  | none=>rw [q] at this;cases this
  | some v=>rw [q] at this;exact this
 have run_ms:∀ (n:Nat) (T:Tmps) (H H':AH) (e:AExit) (T':Tmps),run P X n (.code nt rnd st.rest T []) H=some (.exit e T' [],H')→run P X n (.code nt rnd st.rest T ms) H=some (.exit e T' ms,H'):=λn T H H' e T' h=>by
  rw [qKb n st.rest hno T ms H,h];rfl
 have up:∀ {n n':Nat} {T:Tmps} {H:AH} {x:Out × AH},n≤n'→run P X n (.code nt rnd st.rest T ms) H=some x→run P X n' (.code nt rnd st.rest T ms) H=some x:=fun {n n' T H x} hn h=>qCb (P:=P) (X:=X) (.code nt rnd st.rest T ms) n n' H x hn h
 cases hleft:qGZ seen es with
 | nil=>
   have hT2:=qPD (qPD hT st.nx (.tup [.bool false])) st.more (.bool false)
   have hcase:(es=[]∧slots.map env1=slots.map env)∨(es≠[]∧shEs (slots.map env1) S=true):=by
    rcases hsh with ⟨q1,q2⟩ | q
    ·subst q1
     rw [qN5] at hleft
     exact .inl ⟨hleft,q2⟩
    ·exact .inr q
   obtain ⟨n,o,H2,s2,es',j1,j2,_,j4,_,⟨T',env',j5,j6,j7,j8⟩,_⟩:=qQJ (λn=>qEr P hX n _) (hfin env1 _ hT2 hoff hcase) g2.e.rel
   subst j5
   have r1:=run_ms n _ _ _ _ _ j1
   obtain ⟨k1,_⟩:=g2.e.keep j2 j4
   refine ⟨n,[(.exit e0 T' ms,H2)],λn' hn=>?_,by simp,λ_=>⟨_,rfl⟩,λp hp=>?_⟩
   ·unfold qBJ
    unfold bdN oneN
    rw [htg,g1]
    simp only [allN,hleft]
    unfold bd
    rw [up hn r1]
    cases e0 with
    | nrm=>exact absurd rfl he0
    | exit _=>rfl
    | ret=>rfl
   ·rw [List.mem_singleton] at hp
    subst hp
    exact ⟨⟨T',env',rfl,j6,j7,j8⟩,k1⟩
 | cons e es1=>
   have hes:es≠[]:=λq=>by rw [q] at hleft;cases hleft
   obtain ⟨m,rfl⟩:∃ m,mo=some m:=by
    cases mo with
    | none=>exact absurd hmap hes
    | some m=>exact ⟨m,rfl⟩
   obtain ⟨dm,dsi,dse,dcl⟩:=g4 m rfl
   obtain ⟨stp,hit1,hst1⟩:=g2.it
   have each:∀ p∈qJu H1 (e :: es1),∃ n0 L,(∀ n,n0≤n→qR5 (run P X n) nt rnd st k T1 ms d p.1 p.2=some L)∧L≠[]∧∀ q∈L,(∃ T' env',q.1=.exit e0 T' ms∧TR T' env'∧Off slots env env'∧(es≠[]→shEs (slots.map env') S2=true))∧ClE s0 H0 r q.2:=by
    intro p hp
    obtain ⟨p1,p2⟩:=qOv hp
    obtain ⟨e',K⟩:=p
    simp only at p1 p2 ⊢
    subst p2
    rw [← hleft] at p1
    obtain ⟨m1,m2⟩:=qMX p1
    have ht:qWJ d e' K=some ((),{ K with blks:=K.blks.put r (some (.iter (some m) since (seen ++ [e'.born]) c)),log:=(r,true) :: K.log }):=by
     unfold qWJ wr
     rw [g3,Nat.ble_eq_true_of_le g2.lr,cond_true,hit1,dm,dsi,dse,dcl]
    have hc2:Cl s0 H0 r (some m) since (seen ++ [e'.born]) { K with blks:=K.blks.put r (some (.iter (some m) since (seen ++ [e'.born]) c)),log:=(r,true) :: K.log }:=by
     refine ⟨⟨⟨g2.e.rel.lo,λi hi=>?_,λi t b hi=>?_⟩,g2.e.next,g2.e.lo,λi hi=>?_,λi hi hne=>?_⟩,⟨c,by show (K.blks.put r _).get r=_;rw [Tr.get_put,if_pos rfl],hsc⟩,g2.lr⟩
     ·have hi:(K.blks.put r (some (.iter (some m) since (seen ++ [e'.born]) c))).get i≠none:=hi
      rw [Tr.get_put] at hi
      split at hi
      ·rename_i q
       subst q
       exact g2.e.rel.wf r (by rw [hit1];simp)
      ·exact g2.e.rel.wf i hi
     ·obtain ⟨k1,ab,k2,k3⟩:=g2.e.rel.at_ i t b hi
      refine ⟨k1,ab,?_,k3⟩
      show (K.blks.put r _).get i=_
      rw [Tr.get_put,if_neg λq=>by rw [← q,hr] at hi;cases hi]
      exact k2
     ·rcases List.mem_cons.1 hi with q | q
      ·cases q;exact .inl rfl
      ·exact g2.e.log i q
     ·show (K.blks.put r _).get i=_
      rw [Tr.get_put,if_neg λq=>hne q.symm]
      exact g2.e.kept i hi hne
    have hT2:=qPD (qPD hT st.nx (.tup [.bool true,e'.key,e'.val])) st.more (.bool true)
    have hrel2:HRel (hset s0 r (true,.iter (some m) since (seen ++ [e'.born]) c)) { K with blks:=K.blks.put r (some (.iter (some m) since (seen ++ [e'.born]) c)),log:=(r,true) :: K.log }:=by
     refine ⟨hc2.e.rel.lo,hc2.e.rel.wf,λi t b hi=>?_⟩
     unfold hset at hi
     split at hi
     ·rename_i q
      subst q
      cases hi
      exact ⟨(λq=>by cases q),.iter (some m) since (seen ++ [e'.born]) c,(by show (K.blks.put i _).get i=_;rw [Tr.get_put,if_pos rfl]),rfl,rfl,rfl,rfl⟩
     ·exact hc2.e.rel.at_ i t b hi
    obtain ⟨n,o,H3,s3,es',j1,j2,_,j4,_,⟨T',env',j5,j6,j7,j8⟩,_⟩:=qQJ (λn=>qEr P hX n _) (hbody e' m1 (seen ++ [e'.born]) qQ9 env1 _ hT2 hoff (hsh.imp (λq=>q.2) (λq=>q.2))) hrel2
    subst j5
    have r1:=run_ms n _ _ _ _ _ j1
    obtain ⟨k1,k2⟩:=hc2.e.keep j2 j4
    obtain ⟨stp2,hit2,hst2⟩:=hc2.it
    have hc3:Cl s0 H0 r (some m) since (seen ++ [e'.born]) H3:=⟨k1,⟨stp2,by rw [k2 r (hc2.e.rel.wf r (by rw [hit2];simp))];exact hit2,hst2⟩,by rw [j2.lo];exact hc2.lr⟩
    have hlt:=qQf p1
    obtain ⟨n1,L,i1,i2,_,i4⟩:=ih (seen ++ [e'.born]) H3 env' T' hc3 j6 j7 (.inr ⟨hes,j8⟩) (by omega)
    refine ⟨max n n1,L,λn' hn=>?_,i2,i4⟩
    unfold qR5 bdN oneN bd
    rw [ht]
    simp only
    rw [up (by omega) r1]
    simp only [allN]
    rw [i1 n' (by omega)]
    simp
   obtain ⟨n0,L,i1,i2,i3⟩:=qVB (f:=λn=>qR5 (run P X n) nt rnd st k T1 ms d) (G:=λq=>(∃ T' env',q.1=.exit e0 T' ms∧TR T' env'∧Off slots env env'∧(es≠[]→shEs (slots.map env') S2=true))∧ClE s0 H0 r q.2) (qJu H1 (e :: es1)) (by simp [qJu]) each
   refine ⟨n0,L,λn hn=>?_,i2,λq=>absurd q hes,i3⟩
   have i1:allN (qR5 (run P X n) nt rnd st k T1 ms d) (qJu H1 (e :: es1))=some L:=i1 n hn
   show bdN (oneN (qTP (tget' T1 st.it))) (λh=>match h.2 with
    | []=>_
    | e :: es=>bdN (zAAA (e :: es)) (qR5 (run P X n) nt rnd st k T1 ms h.1)) H=_
   unfold bdN oneN
   rw [htg,g1]
   simp only [allN,hleft]
   unfold zAAA
   simp only
   rw [i1]
   simp
end Go.AM
namespace Go.AM
open Go
def mixE (slots:List Nat) (f env:Env):Env:=λj=>cond (memN j slots) (f j) (env j)
def qPR:List Oper→List Nat
 | []=>[]
 | o :: os=>match o.dst with
   | some d=>d :: qPR os
   | none=>qPR os
def assigned:Code→List Nat
 | .region _ ops _=>qPR ops.toList
 | .seq a b=>assigned a ++ assigned b
 | .cond _ a b=>assigned a ++ assigned b
 | .block _ b=>assigned b
 | .loop b=>assigned b
 | _=>[]
def qIO:Code→Nat
 | .region id _ _=>id
 | .seq a _=>qIO a
 | .block _ b=>qIO b
 | .loop b=>qIO b
 | .cond _ a _=>qIO a
 | _=>0
def zAAy (ls slots:List Nat) (body:Env→(AExit→Env→Hq→Prop)→Hq→Prop) (env:Env) (K:AExit→Env→Hq→Prop) (s:Hq):Prop:=
 ∃ I:List AV→Hq→Nat→Prop,(∃ m,I (ls.map env) s m)∧∀ (f:Env) (s:Hq) (m:Nat),I (ls.map f) s m→
  body (mixE slots f env) (λe env' s'=>match e with
   | .nrm=>∃ m',m' < m∧I (ls.map env') s' m'
   | e=>K e env' s') s
def zABJ (l:Nat) (s:Hq):Prop:=match s l with
 | some (_,.loop _ _ _ _ _ _ _ _)=>True
 | _=>False
def zACR (l:Nat) (K:AExit→Hq→Prop) (s:Hq):Prop:=match s l with
 | some (false,.loop st pd _ _ _ _ _ _)=>st≠.busy∧(match pd with
   | none=>K .nrm (hdel s l)
   | some .ret=>K .ret (hdel s l)
   | some (.exit id)=>K (.exit id) (hdel s l)
   | some _=>False)
 | _=>False
def rndK (rnd:Option Nat) (s:Hq):Prop:=match rnd with
 | none=>True
 | some l=>zABJ l s
def qXv (s:Hq) (x:AV):Option (Nat × Option Nat × Nat × Nat × List AEnt):=match x with
 | .ptr r 0=>match s r with
   | some (false,.iter none since [] stepped)=>cond (Nat.ble since stepped) (some (r,none,since,since,[])) none
   | some (false,.iter (some m) since [] stepped)=>match s m with
     | some (_,.map es c)=>cond (Nat.ble since stepped&&(Nat.ble since c&&(qKM since es&&Nat.blt es.length 900))) (some (r,some m,since,c,es)) none
     | _=>none
   | _=>none
 | _=>none
def zAEk:Code→Option Nat
 | .seq (.cond _ _ (.exit id)) _=>some id
 | .cond _ _ (.exit id)=>some id
 | _=>none
def qUu (st:MapStep) (slots:List Nat) (id:Nat) (body:Env→(AExit→Env→Hq→Prop)→Hq→Prop) (env:Env) (K:AExit→Env→Hq→Prop) (s:Hq):Prop:=
 oK (qXv s (env st.it)) λp=>∃ S S2:List AV,
  (∀ e∈p.2.2.2.2,∀ sn:List Nat,qOL sn=some e.born→∀ f:Env,(slots.map f=slots.map env∨shEs (slots.map f) S=true)→body (zADW st (mixE slots f env) e) (λex env' _=>ex=.nrm∧shEs (slots.map env') S=true) (frz (hset (hdel s p.1) p.1 (true,.iter p.2.1 p.2.2.1 sn p.2.2.2.1))))∧
  (∀ f:Env,((p.2.2.2.2=[]∧slots.map f=slots.map env)∨(p.2.2.2.2≠[]∧shEs (slots.map f) S=true))→body (zADj st (mixE slots f env)) (λex env' _=>ex=.exit id∧(p.2.2.2.2≠[]→shEs (slots.map env') S2=true)) (frz (hdel s p.1)))∧
  ∀ f:Env,K (.exit id) (mixE slots f env) (hdel s p.1)
def zAAz (nt:Nat) (st:MapStep) (slots:List Nat):Bool:=noRF st.rest&&((!memN st.it slots)&&((memN st.nx slots&&memN st.more slots)&&(Nat.blt st.nx nt&&Nat.blt st.more nt)))
section
variable (P : Program) (X : Td)
def zABN (A:Nat→List Nat) (nt:Nat) (rnd:Option Nat) (f:AV) (ps:Array Tmp) (as bo:Code) (env:Env) (K:AExit→Hq→Prop) (s:Hq):Prop:=match f with
 | .fn (.func k) first cap=>isFn P k=true∧rndK rnd s∧∀ l d,s l=none→wC P X k (first ++ [.yield l] ++ cap) (λ_ s=>zACR l K s) (hset s l (false,.loop .ready none nt ((A (2 * qIO bo+1)).map λi=>(i,env i)) ps.toList as bo d))
 | _=>False
def qVS (A:Nat→List Nat) (ops:List Oper):List Nat:=A (1000000+(match qPR ops with | d :: _=>d | []=>0))
def wpC (A:Nat→List Nat) (nt:Nat) (rnd:Option Nat):Code→Env→(AExit→Env→Hq→Prop)→Hq→Prop
 | .skip,env,K,s=>K .nrm env s
 | .region _ ops draw,env,K,s=>cond ((ops.toList.all λo=>okOp o.op)&&(draw||(qBN ops.toList).isNone))
   (cond draw (cond (qBp ops.toList&&qNt (qVS A ops.toList) ops (clsL P ops.toList) (masks ops.toList [])) (opsQ P X (qVS A ops.toList) nt ops.toList (clsL P ops.toList) (masks ops.toList []) ops.toList 0 [] [] [] env (λenv s=>K .nrm env s) s) False)
    (opsE P X nt ops.toList ops.toList [] env (λenv s=>K .nrm env s) s)) False
 | .seq a b,env,K,s=>wpC A nt rnd a env (λe env s=>match e with
   | .nrm=>wpC A nt rnd b env K s
   | e=>K e env s) s
 | .cond c a b,env,K,s=>cond (okX c) (qAQ (evD env c) (wpC A nt rnd a env K s) (wpC A nt rnd b env K s)) False
 | .block id b,env,K,s=>wpC A nt rnd b env (λe env s=>match e with
   | .exit id'=>cond (Nat.beq id' id) (K .nrm env s) (K (.exit id') env s)
   | e=>K e env s) s
 | .loop b,env,K,s=>match qBM b with
   | some st=>cond (zAAz nt st (assigned b)) (oK (zAEk st.rest) λid=>qUu st (assigned b) id (match b with
     | .seq _ r=>λenv K s=>wpC A nt rnd r env K s
     | _=>λ_ _ _=>False) env K s) False
   | none=>zAAy (A (2 * qIO b)) (assigned b) (λenv K s=>wpC A nt rnd b env K s) env K s
 | .exit id,env,K,s=>K (.exit id) env s
 | .ret,env,K,s=>K .ret env s
 | .rangeFunc f ps as bo,env,K,s=>cond (okX f) (zABN P X A nt rnd (evD env f) ps as bo env (λe s=>K e env s) s) False
 | _,_,_,_=>False
def resK:List ResultVar→Env→(List AV→Prop)→Hq→Prop
 | [],_,k,_=>k []
 | .tmp t :: rs,env,k,s=>resK rs env (λvs=>k (env t :: vs)) s
 | .cell a t :: rs,env,k,s=>qPk P t (env a) (λv=>resK rs env (λvs=>k (v :: vs)) s) s
def retK (e:AExit) (p:Prop):Prop:=match e with
 | .exit _=>False
 | _=>p
end
variable {α β : Type} {P : Program} {X : Td} {A : Nat → List Nat} {nt : Nat} {rnd : Option Nat}
def mkH (ms:List Nat):Hq:=λi=>if i∈ms then some (false,.deferred true) else none
theorem qHW {ms:List Nat} {i:Nat}:mkH ms i≠none↔i∈ms:=by unfold mkH;by_cases h:i∈ms <;> simp [h]
theorem qHA {i:Nat}:∀ {l:List Nat},memN i l=true↔i∈l
 | []=>by simp [memN]
 | j :: l=>by
   unfold memN
   cases h:Nat.beq i j with
   | true=>simp [Nat.eq_of_beq_eq_true h]
   | false=>
     have:i≠j:=λe=>by rw [e,Nat.beq_refl] at h;cases h
     simp [qHA (l:=l),this]
theorem qIj:∀ {l:List Oper} {o:Oper} {d:Nat},o∈l→o.dst=some d→d∈qPR l
 | [],_,_,h,_=>by cases h
 | p :: l,o,d,h,hd=>by
   unfold qPR
   rcases List.mem_cons.1 h with rfl | h
   ·rw [hd];exact List.mem_cons_self ..
   ·cases p.dst with
    | none=>exact qIj h hd
    | some _=>exact List.mem_cons_of_mem _ (qIj h hd)
theorem qIY:∀ (os:List Oper) (acc:List Nat),(masks os acc).length=acc.length+os.length
 | [],acc=>by simp [masks]
 | o :: os,acc=>by rw [masks,qIY];simp;omega
def mkm (ms:List Nat):List Mk:=ms.map Mk.mark
def qRg (c:Code) (env:Env) (K:AExit→Env→Hq→Prop) (ms:List Nat) (rnd:Option Nat) (o:Out) (S:Hq):Prop:=
 ∃ e T' env' ms' s',o=.exit e T' (mkm (ms' ++ ms))∧TR T' env'∧S=add s' (mkH (ms' ++ ms))∧(∀ i∈ms' ++ ms,s' i=none)∧(ms' ++ ms).Nodup∧(∀ j,j ∉ assigned c→env' j=env j)∧(rnd≠none→ms'=[])∧K e env' s'
def qHx (P:Program) (X:Td) (A:Nat→List Nat) (nt:Nat) (rnd:Option Nat) (c:Code):Prop:=∀ (env:Env) (K:AExit→Env→Hq→Prop) (s:Hq),wpC P X A nt rnd c env K s→∀ (T:Tmps) (ms:List Nat),TR T env→(∀ i∈ms,s i=none)→ms.Nodup→
 wpF (λn=>run P X n (.code nt rnd c T (mkm ms))) (qRg c env K ms rnd) (add s (mkH ms))
theorem wpF.succ {m:Nat→M α} {m':Nat→M α} {Q:α→Hq→Prop} {s:Hq} (h:wpF m Q s) (e:∀ n,m' (n+1)=m n):wpF m' Q s:=λH hH=>by
 obtain ⟨n,a,H',h1,h2⟩:=h H hH
 exact ⟨n+1,a,H',by rw [e];exact h1,h2⟩
theorem qB8 {c:Code} {T:Tmps} {ms:List Mk} {Q:Out→Hq→Prop} {s:Hq} (h:wpF (λn=>qAv P (run P X n) nt rnd c T ms) Q s):wpF (λn=>run P X n (.code nt rnd c T ms)) Q s:=h.succ λ_=>rfl
theorem qRg.stay {c:Code} {env:Env} {K:AExit→Env→Hq→Prop} {ms:List Nat} {e:AExit} {T:Tmps} {s:Hq} (hT:TR T env) (hm:∀ i∈ms,s i=none) (hnd:ms.Nodup) (h:K e env s):qRg c env K ms rnd (.exit e T (mkm ms)) (add s (mkH ms)):=
 ⟨e,T,env,[],s,rfl,hT,rfl,hm,hnd,λ_ _=>rfl,λ_=>rfl,h⟩
theorem zADJ:qHx P X A nt rnd .skip:=λenv K s h T ms hT hm hnd=>qB8 (wpF.ret (.stay hT hm hnd h))
theorem zADU {id:Nat}:qHx P X A nt rnd (.exit id):=λenv K s h T ms hT hm hnd=>qB8 (wpF.ret (.stay hT hm hnd h))
theorem zAE8:qHx P X A nt rnd .ret:=λenv K s h T ms hT hm hnd=>qB8 (wpF.ret (.stay hT hm hnd h))
theorem zAAT (hX:FrX X) {id:Nat} {ops:Array Oper} {draw:Bool}:qHx P X A nt rnd (.region id ops draw):=by
 intro env K s h T ms hT hm hnd
 refine qB8 ?_
 unfold wpC at h
 cases hokd:((ops.toList.all λo=>okOp o.op)&&(draw||(qBN ops.toList).isNone)) with
 | false=>rw [hokd] at h;exact h.elim
 | true=>
   rw [hokd,cond_true] at h
   obtain ⟨hok,hdn⟩:=Bool.and_eq_true_iff.1 hokd
   have fin:∀ m:Nat→M Tmps,(∀ n,Fr (m n))→Mono m→wpF m (λT' s'=>∃ env',TR T' env'∧K .nrm env' s'∧∀ j,(∀ o∈ops.toList,o.dst≠some j)→env' j=env j) s→
     wpF (λn=>bd (m n) λT=>ret (Out.exit .nrm T (mkm ms))) (qRg (.region id ops draw) env K ms rnd) (add s (mkH ms)):=by
    intro m hfr hmo hw
    refine wpF.bd (f:=λ_ T=>ret (Out.exit .nrm T (mkm ms))) hmo (λ_=>.const _) ((wpF.frame hfr hw λi hi=>hm i (qHW.1 hi)).mono ?_)
    rintro T' S ⟨s',rfl,hs',env',q1,q2,q3⟩
    refine wpF.ret ⟨.nrm,T',env',[],s',rfl,q1,rfl,λi hi=>hs' i (qHW.2 hi),hnd,λj hj=>q3 j λo ho hd=>hj ?_,λ_=>rfl,q2⟩
    exact qIj ho hd
   unfold qAv
   cases draw with
   | false=>
     simp only [cond_false] at h ⊢
     have hdn:qBN ops.toList=none:=by simpa using hdn
     rw [hdn]
     exact fin _ (λn=>qQ2 P (qEr P hX n) _ _ _ _) (qMr _ _ _ _) (qTq _ _ _ _ _ hok hT .nil h)
   | true=>
     simp only [cond_true] at h ⊢
     cases hr:(qBp ops.toList&&qNt (qVS A ops.toList) ops (clsL P ops.toList) (masks ops.toList [])) with
     | false=>rw [hr] at h;exact h.elim
     | true=>
       rw [hr,cond_true] at h
       obtain ⟨h1,h2⟩:=Bool.and_eq_true_iff.1 hr
       simp only [h1,cond_true]
       have hlen:(masks ops.toList []).length=ops.size:=by rw [qIY];simp
       refine fin _ (λn=>qOI P (qEr P hX n) _ _ _ _ _ _) (qNC _ _ _ _ _) λH hH=>?_
       obtain ⟨n,T',H',q1,s',env',q2,q3,q4,q5,q6⟩:=qTU hX hlen h2 ops.toList 0 [] [] [] env s T [] rfl hok hT .nil h H hH ⟨rfl,by simp,by simp,by simp,by simp,by simp⟩
       exact ⟨n,T',H',q1,s',q2,q3,env',q4,q5,q6⟩
theorem zAE2 {a b:Code} (ha:qHx P X A nt rnd a) (hb:qHx P X A nt rnd b):qHx P X A nt rnd (.seq a b):=by
 intro env K s h T ms hT hm hnd
 refine qB8 ?_
 unfold wpC at h
 unfold qAv
 refine wpF.bd (m:=λn=>run P X n (.code nt rnd a T (mkm ms))) (f:=λn o=>match o with
  | .exit .nrm T ms=>run P X n (.code nt rnd b T ms)
  | o=>ret o) (qCb _) (λo=>?_) ((ha env _ s h T ms hT hm hnd).mono ?_)
 ·cases o with
  | exit e T ms=>cases e with
    | nrm=>exact qCb _
    | _=>exact .const _
  | val v=>exact .const _
 ·rintro o S ⟨e,T1,env1,ms1,s1,rfl,q1,rfl,q2,q3,q4,q5,q6⟩
  cases e with
  | nrm=>
    refine (hb env1 K s1 q6 T1 (ms1 ++ ms) q1 q2 q3).mono ?_
    rintro o S ⟨e,T2,env2,ms2,s2,rfl,r1,rfl,r2,r3,r4,r5,r6⟩
    refine ⟨e,T2,env2,ms2 ++ ms1,s2,by rw [List.append_assoc],r1,by rw [List.append_assoc],by rw [List.append_assoc];exact r2,by rw [List.append_assoc];exact r3,λj hj=>?_,λhr=>by rw [r5 hr,q5 hr];rfl,r6⟩
    simp only [assigned,List.mem_append,not_or] at hj
    rw [r4 j hj.2,q4 j hj.1]
  | exit id=>exact wpF.ret ⟨_,T1,env1,ms1,s1,rfl,q1,rfl,q2,q3,λj hj=>q4 j (by simp only [assigned,List.mem_append,not_or] at hj;exact hj.1),q5,q6⟩
  | ret=>exact wpF.ret ⟨_,T1,env1,ms1,s1,rfl,q1,rfl,q2,q3,λj hj=>q4 j (by simp only [assigned,List.mem_append,not_or] at hj;exact hj.1),q5,q6⟩
theorem zAD4 {c:Operand} {a b:Code} (ha:qHx P X A nt rnd a) (hb:qHx P X A nt rnd b):qHx P X A nt rnd (.cond c a b):=by
 intro env K s h T ms hT hm hnd
 refine qB8 ?_
 unfold wpC at h
 cases hok:okX c with
 | false=>rw [hok] at h;exact h.elim
 | true=>
   rw [hok,cond_true] at h
   unfold qAv
   simp only [qI9 hT hok]
   unfold qAQ at h
   split at h
   ·rename_i e
    simp only [e,cond_true]
    refine (ha env K s h T ms hT hm hnd).mono ?_
    rintro o S ⟨e,T2,env2,ms2,s2,rfl,r1,rfl,r2,r3,r4,r5,r6⟩
    exact ⟨e,T2,env2,ms2,s2,rfl,r1,rfl,r2,r3,λj hj=>r4 j (by simp only [assigned,List.mem_append,not_or] at hj;exact hj.1),r5,r6⟩
   ·rename_i e
    simp only [e,cond_false]
    refine (hb env K s h T ms hT hm hnd).mono ?_
    rintro o S ⟨e,T2,env2,ms2,s2,rfl,r1,rfl,r2,r3,r4,r5,r6⟩
    exact ⟨e,T2,env2,ms2,s2,rfl,r1,rfl,r2,r3,λj hj=>r4 j (by simp only [assigned,List.mem_append,not_or] at hj;exact hj.2),r5,r6⟩
   ·exact h.elim
theorem zABr {id:Nat} {b:Code} (hb:qHx P X A nt rnd b):qHx P X A nt rnd (.block id b):=by
 intro env K s h T ms hT hm hnd
 refine qB8 ?_
 unfold wpC at h
 unfold qAv
 refine wpF.bd (m:=λn=>run P X n (.code nt rnd b T (mkm ms))) (f:=λ_ o=>match o with
  | .exit (.exit id') T ms=>cond (Nat.beq id' id) (ret (.exit .nrm T ms)) (ret (.exit (.exit id') T ms))
  | o=>ret o) (qCb _) (λ_=>.const _) ((hb env _ s h T ms hT hm hnd).mono ?_)
 rintro o S ⟨e,T1,env1,ms1,s1,rfl,q1,rfl,q2,q3,q4,q5,q6⟩
 cases e with
 | exit id'=>
   simp only at q6 ⊢
   cases hb:Nat.beq id' id with
   | true=>rw [hb] at q6;exact wpF.ret ⟨_,T1,env1,ms1,s1,rfl,q1,rfl,q2,q3,q4,q5,q6⟩
   | false=>rw [hb] at q6;exact wpF.ret ⟨_,T1,env1,ms1,s1,rfl,q1,rfl,q2,q3,q4,q5,q6⟩
 | nrm=>exact wpF.ret ⟨_,T1,env1,ms1,s1,rfl,q1,rfl,q2,q3,q4,q5,q6⟩
 | ret=>exact wpF.ret ⟨_,T1,env1,ms1,s1,rfl,q1,rfl,q2,q3,q4,q5,q6⟩
theorem qT0 {s:Hq} {x:AV} {r since c:Nat} {mo:Option Nat} {es:List AEnt} (h:qXv s x=some (r,mo,since,c,es)):x=.ptr r 0∧∃ stepped,s r=some (false,.iter mo since [] stepped)∧since≤stepped∧since≤c∧qKM since es=true∧es.length < 900∧zABs (hdel s r) mo c es:=by
 unfold qXv at h
 split at h
 ·rename_i r'
  split at h
  ·rename_i since stepped hr
   cases e:Nat.ble since stepped with
   | false=>rw [e] at h;cases h
   | true=>
     rw [e] at h
     cases h
     exact ⟨rfl,stepped,hr,Nat.le_of_ble_eq_true e,Nat.le_refl _,rfl,by simp,rfl⟩
  ·rename_i m since stepped hr
   split at h
   ·rename_i t es' c hm
    cases e:(Nat.ble since stepped&&(Nat.ble since c&&(qKM since es'&&Nat.blt es'.length 900))) with
    | false=>rw [e] at h;cases h
    | true=>
      rw [e] at h
      cases h
      simp only [Bool.and_eq_true,Nat.blt_eq] at e
      refine ⟨rfl,stepped,hr,Nat.le_of_ble_eq_true e.1,Nat.le_of_ble_eq_true e.2.1,e.2.2.1,e.2.2.2,t,?_⟩
      show (if m=r then none else s m)=_
      rw [if_neg λq=>by rw [q,hr] at hm;cases hm]
      exact hm
   ·cases h
  ·cases h
 ·cases h
theorem qHY {b:Code} {st:MapStep} (h:qBM b=some st):∃ a,b=.seq a st.rest:=by
 unfold qBM at h
 split at h
 ·rename_i id ops rest
  split at h
  ·rename_i nx it ty1 pos1 af1 more nx' ty2 pos2 af2 hops
   cases e:Nat.beq nx nx' with
   | false=>rw [e] at h;cases h
   | true=>rw [e] at h;cases h;exact ⟨_,rfl⟩
  ·cases h
 ·cases h
theorem qNM (s:Hq):add s (mkH [])=s:=by funext i;unfold add mkH;cases s i <;> simp
theorem qYJ (hX:FrX X) {b:Code} {st:MapStep} (hms:qBM b=some st) (hb:qHx P X A nt rnd st.rest) {env:Env} {K:AExit→Env→Hq→Prop} {s:Hq} {T:Tmps} {ms:List Nat} (hok:zAAz nt st (assigned b)=true)
  {id:Nat} (h:qUu st (assigned b) id (λenv K s=>wpC P X A nt rnd st.rest env K s) env K s) (hT:TR T env) (hm:∀ i∈ms,s i=none) (hnd:ms.Nodup) :
  wpF (λn=>run P X n (.code nt rnd (.loop b) T (mkm ms))) (qRg (.loop b) env K ms rnd) (add s (mkH ms)):=by
 refine qB8 ?_
 unfold zAAz at hok
 simp only [Bool.and_eq_true,Bool.not_eq_true'] at hok
 obtain ⟨k1,k2,⟨k3,k4⟩,k5,k6⟩:=hok
 obtain ⟨p,hp,S,S2,h1,h2,h3⟩:=qAh h
 obtain ⟨r,mo,since,c,es⟩:=p
 simp only at h1 h2 h3
 have he0:AExit.exit id≠.nrm:=by simp
 generalize AExit.exit id=e0 at h2 h3 he0
 obtain ⟨hit,stepped,q1,q2,q3,q4,q5,q6⟩:=qT0 hp
 obtain ⟨a,hseq⟩:=qHY hms
 have hsub:∀ j,memN j (assigned b)=false→j ∉ assigned st.rest∧Nat.beq j st.nx=false∧Nat.beq j st.more=false:=λj hj=>by
  refine ⟨λhm=>?_,?_,?_⟩
  ·rw [hseq] at hj
   have:memN j (assigned a ++ assigned st.rest)=true:=qHA.2 (List.mem_append_right _ hm)
   rw [show assigned (.seq a st.rest)=assigned a ++ assigned st.rest from rfl] at hj
   rw [hj] at this;cases this
  ·cases e:Nat.beq j st.nx with
   | false=>rfl
   | true=>rw [Nat.eq_of_beq_eq_true e,k3] at hj;cases hj
  ·cases e:Nat.beq j st.more with
   | false=>rfl
   | true=>rw [Nat.eq_of_beq_eq_true e,k4] at hj;cases hj
 have hmix:∀ env1,Off (assigned b) env env1→mixE (assigned b) env1 env=env1:=λenv1 ho=>by
  funext j
  unfold mixE
  cases hj:memN j (assigned b) with
  | true=>rfl
  | false=>exact (ho j hj).symm
 have marks:∀ {env1:Env} {T1:Tmps} {K1:AExit→Env→Hq→Prop} {s1:Hq},TR T1 env1→wpC P X A nt rnd st.rest env1 K1 s1→wpF (λn=>run P X n (.code nt rnd st.rest T1 [])) (λo _=>∃ e T' env' s',o=.exit e T' []∧TR T' env'∧(∀ j,j ∉ assigned st.rest→env' j=env1 j)∧K1 e env' s') s1:=fun {env1 T1 K1 s1} ht hw=>by
  have:=hb env1 K1 s1 hw T1 [] ht (by simp) List.nodup_nil
  rw [qNM] at this
  refine (wpF.both (R:=λo=>o=reMs [] o) this λn H a H' hrun=>?_).mono ?_
  ·have e0:=qKb (P:=P) (X:=X) (nt:=nt) (rnd:=rnd) n st.rest k1 T1 [] H
   have hrun:run P X n (.code nt rnd st.rest T1 []) H=some (a,H'):=hrun
   rw [hrun] at e0
   simp only [reO,Option.some.injEq,Prod.mk.injEq,and_true] at e0
   exact e0
  ·rintro o S' ⟨⟨e,T',env',ms',s',rfl,j1,_,_,_,j2,_,j3⟩,hR⟩
   exact ⟨e,T',env',s',hR,j1,j2,j3⟩
 have offs:∀ {env1 env':Env} {v w:AV},Off (assigned b) env env1→(∀ j,j ∉ assigned st.rest→env' j=upd (upd env1 st.nx v) st.more w j)→Off (assigned b) env env':=fun {env1 env' v w} ho hj j hm=>by
  obtain ⟨z1,z2,z3⟩:=hsub j hm
  rw [hj j z1]
  unfold upd
  rw [z3,z2]
  exact ho j hm
 intro H hH
 have hs:HRel s { H with log:=[] }:=(HRel.sub ⟨hH.lo,hH.wf,hH.at_⟩ λi e hi=>by unfold add;rw [hi])
 obtain ⟨lo1,ab,g1,g2⟩:=hs.at_ r false _ q1
 cases ab <;> first | exact g2.elim | skip
 obtain ⟨rfl,rfl,rfl,rfl⟩:=g2
 have hs0:HRel (hdel s r) { H with log:=[] }:=hs.sub λi e hi=>by
  unfold hdel at hi
  split at hi
  ·cases hi
  ·exact hi
 have cl:Cl (hdel s r) { H with log:=[] } r mo since [] { H with log:=[] }:=⟨⟨hs0,Nat.le_refl _,rfl,by simp,λ_ _ _=>rfl⟩,⟨stepped,g1,q2⟩,lo1 rfl⟩
 obtain ⟨n0,L,i1,i2,i3,i4⟩:=qZK (rnd:=rnd) (nt:=nt) hX k1 (if_pos rfl) hit k2 q6 q4 q3 he0 (S:=S) (S2:=S2)
  (λe he sn hsn env1 T1 t1 o1 sh1=>(marks (K1:=λex env' _=>ex=.nrm∧shEs ((assigned b).map env') S=true) t1 (by have:=h1 e he sn hsn env1 sh1;rw [hmix env1 o1] at this;exact this)).mono λo _ ⟨e',T',env',s',j1,j2,j3,j4,j5⟩=>⟨T',env',by rw [j1,j4],j2,offs o1 j3,j5⟩)
  (λenv1 T1 t1 o1 sh1=>(marks (K1:=λex env' _=>ex=e0∧(es≠[]→shEs ((assigned b).map env') S2=true)) t1 (by have:=h2 env1 sh1;rw [hmix env1 o1] at this;exact this)).mono λo _ ⟨e',T',env',s',j1,j2,j3,j4,j5⟩=>⟨T',env',by rw [j1,j4],j2,offs o1 j3,j5⟩) (mkm ms)
  1000 [] { H with log:=[] } env T cl hT (λ_ _=>rfl) (.inl ⟨rfl,rfl⟩) (by rw [qN5];omega)
 have hrm:r ∉ ms:=λhr=>by rw [hm r hr] at q1;cases q1
 have ht:HRel (hdel (add s (mkH ms)) r) H:=hH.sub λi e hi=>by
  unfold hdel at hi
  split at hi
  ·cases hi
  ·exact hi
 have hway:(∃ p,L=[p]∧∃ T' env',p.1=.exit e0 T' (mkm ms)∧TR T' env'∧Off (assigned b) env env')∨∀ p∈L,Way (assigned b) S2 env e0 (mkm ms) p.1:=by
  by_cases hes:es=[]
  ·obtain ⟨p,hpL⟩:=i3 hes
   obtain ⟨⟨T',env',j1,j2,j3,_⟩,_⟩:=i4 p (by rw [hpL];exact List.mem_cons_self)
   exact .inl ⟨p,hpL,T',env',j1,j2,j3⟩
  ·exact .inr λp hp=>by
    obtain ⟨⟨T',env',j1,j2,j3,j4⟩,_⟩:=i4 p hp
    exact ⟨T',env',j1,j2,j3,j4 hes⟩
 obtain ⟨U,g,H',u1,u2,u3,u4⟩:=qVz (s0:=hdel s r) (t:=hdel (add s (mkH ms)) r) (H0:=H) (if_pos rfl) ht i2 hway λp hp=>by
  have:=(i4 p hp).2
  exact ⟨this.rel,this.next,this.lo,this.log,this.kept⟩
 refine ⟨n0,.exit e0 U (mkm ms),H',?_,hdel (add s (mkH ms)) r,u4,?_,e0,U,g,[],hdel s r,rfl,u2,?_,?_,hnd,λj hj=>?_,λ_=>rfl,?_⟩
 ·unfold qAv
  simp only [hms]
  unfold qGU
  rw [k5,k6]
  simp only [Bool.and_self,cond_true]
  rw [i1 n0 (Nat.le_refl _)]
  exact u1
 ·intro i x hi
  show (if i=r then none else add s (mkH ms) i)=_
  rw [if_neg λq=>?_]
  ·exact hi
  ·subst q
   unfold add at hi
   rw [q1] at hi
   cases hi
 ·funext i
  show (if i=r then none else add s (mkH ms) i)=add (hdel s r) (mkH ms) i
  unfold add hdel
  by_cases q:i=r
  ·subst q
   rw [if_pos rfl,if_pos rfl]
   show none=mkH ms i
   unfold mkH
   rw [if_neg hrm]
  ·rw [if_neg q,if_neg q]
 ·intro i hi
  show (if i=r then none else s i)=none
  split
  ·rfl
  ·exact hm i hi
 ·refine u3 j ?_
  cases e:memN j (assigned b) with
  | false=>rfl
  | true=>exact absurd (qHA.1 e) hj
 ·have:=h3 g
  rw [hmix g u3] at this
  exact this
theorem zADm (hX:FrX X) {b:Code} (hb:qHx P X A nt rnd b) (hr:∀ st,qBM b=some st→qHx P X A nt rnd st.rest):qHx P X A nt rnd (.loop b):=by
 intro env K s h T ms hT hm hnd
 unfold wpC at h
 cases hms:qBM b with
 | some st=>
   rw [hms] at h
   simp only at h
   cases hok:zAAz nt st (assigned b) with
   | false=>rw [hok] at h;exact h.elim
   | true=>
     rw [hok,cond_true] at h
     obtain ⟨a,hseq⟩:=qHY hms
     subst hseq
     obtain ⟨id,_,h⟩:=qAh h
     exact qYJ hX hms (hr st hms) hok h hT hm hnd
 | none=>
 rw [hms] at h
 simp only at h
 unfold zAAy at h
 obtain ⟨I,⟨m,h0⟩,hstep⟩:=h
 have key:∀ (m:Nat) (env1:Env) (s1:Hq) (T1:Tmps) (ms1:List Nat),I ((A (2 * qIO b)).map env1) s1 m→(∀ j,j ∉ assigned b→env1 j=env j)→TR T1 env1→(∀ i∈ms1,s1 i=none)→ms1.Nodup→
   wpF (λn=>run P X n (.code nt rnd (.loop b) T1 (mkm ms1))) (λo S=>∃ e T' env' ms' s',o=.exit e T' (mkm (ms' ++ ms1))∧TR T' env'∧S=add s' (mkH (ms' ++ ms1))∧(∀ i∈ms' ++ ms1,s' i=none)∧(ms' ++ ms1).Nodup∧(∀ j,j ∉ assigned b→env' j=env j)∧(rnd≠none→ms'=[])∧K e env' s') (add s1 (mkH ms1)):=by
  intro m
  induction m using Nat.strongRecOn with
  | _ m ih=>
    intro env1 s1 T1 ms1 hI hag hT1 hm1 hnd1
    refine qB8 ?_
    have hmix:mixE (assigned b) env1 env=env1:=by
     funext j
     unfold mixE
     cases hj:memN j (assigned b) with
     | true=>rfl
     | false=>exact (hag j λq=>by rw [qHA.2 q] at hj;cases hj).symm
    have hbody:=hstep env1 s1 m hI
    rw [hmix] at hbody
    unfold qAv
    simp only [hms]
    refine wpF.bd (m:=λn=>run P X n (.code nt rnd b T1 (mkm ms1))) (f:=λn o=>match o with
     | .exit .nrm T ms=>run P X n (.code nt rnd (.loop b) T ms)
     | o=>ret o) (qCb _) (λo=>?_) ((hb env1 _ s1 hbody T1 ms1 hT1 hm1 hnd1).mono ?_)
    ·cases o with
     | exit e T ms=>cases e with
       | nrm=>exact qCb _
       | _=>exact .const _
     | val v=>exact .const _
    ·rintro o S ⟨e,T2,env2,ms2,s2,rfl,q1,rfl,q2,q3,q4,q5,q6⟩
     have hag2:∀ j,j ∉ assigned b→env2 j=env j:=λj hj=>(q4 j hj).trans (hag j hj)
     cases e with
     | nrm=>
       obtain ⟨m',hlt,hI'⟩:=q6
       refine (ih m' hlt env2 s2 T2 (ms2 ++ ms1) hI' hag2 q1 q2 q3).mono ?_
       rintro o S ⟨e,T3,env3,ms3,s3,rfl,r1,rfl,r2,r3,r4,r5,r6⟩
       exact ⟨e,T3,env3,ms3 ++ ms2,s3,by rw [List.append_assoc],r1,by rw [List.append_assoc],by rw [List.append_assoc];exact r2,by rw [List.append_assoc];exact r3,r4,λhr=>by rw [r5 hr,q5 hr];rfl,r6⟩
     | exit id=>exact wpF.ret ⟨_,T2,env2,ms2,s2,rfl,q1,rfl,q2,q3,hag2,q5,q6⟩
     | ret=>exact wpF.ret ⟨_,T2,env2,ms2,s2,rfl,q1,rfl,q2,q3,hag2,q5,q6⟩
 exact key m env s T ms h0 (λ_ _=>rfl) hT hm hnd
end Go.AM
namespace Go.AM
open Go
variable {α β : Type} {P : Program} {X : Td} {A : Nat → List Nat} {nt : Nat} {rnd : Option Nat}
theorem wpF.drop {m:Nat→M α} {Q:α→Hq→Prop} {s t:Hq} (h:wpF m Q t) (hs:Sub t s) (hp:Pers s t):wpF m Q s:=λH hH=>by
 obtain ⟨n,a,H',h1,s',h2,h3,h4⟩:=h H (hH.sub hs)
 exact ⟨n,a,H',h1,s',h2,hp.trans h3,h4⟩
theorem qJ3 {s:Hq} {b:Nat} {e:Bool × Blk}:hset s b e b=some e:=if_pos rfl
theorem qIc {s:Hq} {b i:Nat} {e:Bool × Blk} (h:i≠b):hset s b e i=s i:=if_neg h
theorem qHV {s:Hq} {b i:Nat} (h:i≠b):hdel s b i=s i:=if_neg h
theorem qZM {s:Hq} {b:Nat}:hdel s b b=none:=if_pos rfl
theorem zAAa {s:Hq} {ms:List Nat} {b:Nat} {e:Bool × Blk}:hset (add s (mkH ms)) b e=add (hset s b e) (mkH ms):=by
 funext i
 by_cases h:i=b
 ·subst h;rw [qJ3];exact (qAz qJ3).symm
 ·rw [qIc h];unfold add;rw [qIc h]
theorem qZs {s:Hq} {ms:List Nat} {r:Nat} (h:s r=none):hset (add s (mkH ms)) r (false,.deferred true)=add s (mkH (r :: ms)):=by
 funext i
 unfold hset add mkH
 by_cases e:i=r
 ·rw [if_pos e,e,h];simp
 ·rw [if_neg e];simp [e]
theorem qMa (t:Task):Mono λn=>outVal (run P X n t):=qBF λn=>LeM.outVal (qB3 n t)
theorem qVV {l:Nat} {K:AExit→Hq→Prop} {s:Hq} (h:zACR l K s):∃ st pd nt env ps as bo d,s l=some (false,.loop st pd nt env ps as bo d)∧st≠.busy∧
  (match pd with | none=>K .nrm (hdel s l) | some .ret=>K .ret (hdel s l) | some (.exit id)=>K (.exit id) (hdel s l) | some _=>False):=by
 unfold zACR at h
 split at h
 ·rename_i st pd nt env ps as bo d e
  exact ⟨st,pd,nt,env,ps,as,bo,d,e,h.1,h.2⟩
 ·exact h.elim
theorem qT7 (hX:FrX X) {f:Operand} {ps:Array Tmp} {as bo:Code}:qHx P X A nt rnd (.rangeFunc f ps as bo):=by
 intro env K s h T ms hT hm hnd
 refine qB8 ?_
 unfold wpC at h
 cases hok:okX f with
 | false=>rw [hok] at h;exact h.elim
 | true=>
   rw [hok,cond_true] at h
   unfold zABN at h
   split at h
   ·rename_i k first cap hf
    obtain ⟨hk,hrnd,h⟩:=h
    unfold qAv
    simp only [qI9 hT hok,hf]
    refine wpF.cond hk ?_
    have rest:∀ (d:Nat) (ms0:List Nat),(∀ i∈ms0 ++ ms,s i=none)→(ms0 ++ ms).Nodup→(rnd≠none→ms0=[])→
      wpF (λn=>bd (nw (.loop .ready none nt T ps.toList as bo d)) λl=>bd (outVal (run P X n (.call k (first ++ [.yield l] ++ cap)))) λ_=>bd (rd l) λblk=>match blk with
       | .loop st pend nt' T' ps' as' bo' d'=>match st with
         | .busy=>fail
         | _=>bd (wr l (.loop .exhausted pend nt' T' ps' as' bo' d')) λ_=>match pend with
           | none=>ret (.exit .nrm T (mkm (ms0 ++ ms)))
           | some c=>run P X n (.code nt rnd c T (mkm (ms0 ++ ms)))
       | _=>fail) (qRg (.rangeFunc f ps as bo) env K ms rnd) (add s (mkH (ms0 ++ ms))):=by
     intro d ms0 hm0 hnd0 hr0
     have mono3:∀ (l:Nat) (blk:ABlk),Mono λn=>(match blk with
       | .loop st pend nt' T' ps' as' bo' d'=>match st with
         | .busy=>fail
         | _=>bd (wr l (.loop .exhausted pend nt' T' ps' as' bo' d')) λ_=>match pend with
           | none=>ret (.exit .nrm T (mkm (ms0 ++ ms)))
           | some c=>run P X n (.code nt rnd c T (mkm (ms0 ++ ms)))
       | _=>fail:M Out):=by
      intro l blk
      refine qBF λn=>?_
      split
      ·split
       ·exact LeM.refl _
       ·refine LeM.bd (LeM.refl _) λ_=>?_
        split
        ·exact LeM.refl _
        ·exact qB3 n _
      ·exact LeM.refl _
     refine wpF.bd (.const _) (λl=>qM6 (qMa _) λ_=>qM6 (.const _) λblk=>mono3 l blk) (wpF.nw (x:=.loop .ready none nt ((A (2 * qIO bo+1)).map λi=>(i,env i)) ps.toList as bo d) ⟨rfl,rfl,rfl,λp hp=>by obtain ⟨i,_,rfl⟩:=List.mem_map.1 hp;exact hT i,rfl,rfl,rfl,rfl⟩ λl hl=>?_)
     rw [zAAa]
     have hls:s l=none:=by
      cases e:s l with
      | none=>rfl
      | some x=>rw [qAz e] at hl;cases hl
     have hlm:l ∉ ms0 ++ ms:=λe=>by
      rw [qA8 hls] at hl
      exact qHW.2 e hl
     have hdis:∀ i,mkH (ms0 ++ ms) i≠none→hset s l (false,.loop .ready none nt ((A (2 * qIO bo+1)).map λi=>(i,env i)) ps.toList as bo d) i=none:=λi hi=>by
      have hi':=qHW.1 hi
      rw [qIc (show i≠l from λe=>hlm (e ▸ hi'))];exact hm0 i hi'
     refine wpF.bd (f:=λn _=>bd (rd l) λblk=>match blk with
       | .loop st pend nt' T' ps' as' bo' d'=>match st with
         | .busy=>fail
         | _=>bd (wr l (.loop .exhausted pend nt' T' ps' as' bo' d')) λ_=>match pend with
           | none=>ret (.exit .nrm T (mkm (ms0 ++ ms)))
           | some c=>run P X n (.code nt rnd c T (mkm (ms0 ++ ms)))
       | _=>fail) (qMa _) (λ_=>qM6 (.const _) λblk=>mono3 l blk) ((wpF.frame (λn=>qNf (qEr P hX n _)) (qYo (h l d hls)) hdis).mono ?_)
     rintro u S ⟨s',rfl,hs',hdone⟩
     obtain ⟨st,pd,nt',env',ps',as',bo',d',hl',hst,hK⟩:=qVV hdone
     have hl2:add s' (mkH (ms0 ++ ms)) l=some (false,.loop st pd nt' env' ps' as' bo' d'):=qAz hl'
     refine wpF.bd (.const _) (λblk=>mono3 l blk) (wpF.rd hl2 λab hab=>?_)
     cases ab with
     | loop st2 pd2 nt2 T2 ps2 as2 bo2 d2=>
       obtain ⟨rfl,rfl,rfl,hT2,rfl,rfl,rfl,rfl⟩:=hab
       have fin:wpF (λn=>(match (generalizing:=false) pd with
         | none=>ret (.exit .nrm T (mkm (ms0 ++ ms)))
         | some c=>run P X n (.code nt rnd c T (mkm (ms0 ++ ms))):M Out)) (qRg (.rangeFunc f ps as bo) env K ms rnd) (add (hdel s' l) (mkH (ms0 ++ ms))):=by
        have hm2:∀ i∈ms0 ++ ms,hdel s' l i=none:=λi hi=>by
         rw [qHV (show i≠l from λe=>hlm (e ▸ hi))];exact hs' i (qHW.2 hi)
        cases pd with
        | none=>exact wpF.ret ⟨.nrm,T,env,ms0,_,rfl,hT,rfl,hm2,hnd0,λ_ _=>rfl,hr0,hK⟩
        | some c=>
          cases c with
          | ret=>exact qB8 (wpF.ret ⟨.ret,T,env,ms0,_,rfl,hT,rfl,hm2,hnd0,λ_ _=>rfl,hr0,hK⟩)
          | exit id=>exact qB8 (wpF.ret ⟨.exit id,T,env,ms0,_,rfl,hT,rfl,hm2,hnd0,λ_ _=>rfl,hr0,hK⟩)
          | _=>exact hK.elim
       have fin2:wpF (λn=>bd (wr l (.loop .exhausted pd nt' T2 ps' as' bo' d')) λ_=>(match (generalizing:=false) pd with
         | none=>ret (.exit .nrm T (mkm (ms0 ++ ms)))
         | some c=>run P X n (.code nt rnd c T (mkm (ms0 ++ ms))):M Out)) (qRg (.rangeFunc f ps as bo) env K ms rnd) (add s' (mkH (ms0 ++ ms))):=by
        refine wpF.bd (.const _) (λ_=>qBF λn=>?_) (wpF.wr hl2 (x:=.loop .exhausted pd nt' env' ps' as' bo' d') ⟨rfl,rfl,rfl,hT2,rfl,rfl,rfl,rfl⟩ (wpF.drop fin ?_ ?_))
        ·split
         ·exact LeM.refl _
         ·exact qB3 n _
        ·intro i e hi
         by_cases hil:i=l
         ·subst hil
          rw [qA8 qZM] at hi
          exact absurd (qHW.1 (by rw [hi];simp)) hlm
         ·rw [qIc hil]
          cases q:s' i with
          | none=>rw [qA8 (by rw [qHV hil];exact q)] at hi;rw [qA8 q];exact hi
          | some x=>rw [qAz (by rw [qHV hil];exact q)] at hi;rw [qAz q];exact hi
        ·intro i b hi
         by_cases hil:i=l
         ·subst hil;rw [qJ3] at hi;cases hi
         ·rw [qIc hil] at hi
          cases q:s' i with
          | none=>rw [qA8 q] at hi;rw [qA8 (by rw [qHV hil];exact q)];exact hi
          | some x=>rw [qAz q] at hi;rw [qAz (by rw [qHV hil];exact q)];exact hi
       cases st <;> first | exact absurd rfl hst | exact fin2
     | _=>exact hab.elim
    have mono1:∀ dm:Nat × List Nat,Mono λn=>bd (nw (.loop .ready none nt T ps.toList as bo dm.1)) λl=>bd (outVal (run P X n (.call k (first ++ [.yield l] ++ cap)))) λ_=>bd (rd l) λblk=>match blk with
       | .loop st pend nt' T' ps' as' bo' d'=>match st with
         | .busy=>fail
         | _=>bd (wr l (.loop .exhausted pend nt' T' ps' as' bo' d')) λ_=>match pend with
           | none=>ret (.exit .nrm T (dm.2.map Mk.mark ++ mkm ms))
           | some c=>run P X n (.code nt rnd c T (dm.2.map Mk.mark ++ mkm ms))
       | _=>(fail:M Out):=by
     intro dm
     refine qBF λn=>LeM.bd (LeM.refl _) λl=>LeM.bd (LeM.outVal (qB3 n _)) λ_=>LeM.bd (LeM.refl _) λblk=>?_
     split
     ·split
      ·exact LeM.refl _
      ·refine LeM.bd (LeM.refl _) λ_=>?_
       split
       ·exact LeM.refl _
       ·exact qB3 n _
     ·exact LeM.refl _
    refine wpF.bd (m:=λ_=>qNB rnd) (.const _) mono1 ?_
    cases rnd with
    | none=>
      unfold qNB
      simp only
      refine wpF.bd (.const _) (λ_=>.const _) (wpF.nw (x:=.deferred true) rfl λr hr=>wpF.ret ?_)
      have hrs:s r=none:=by
       cases e:s r with
       | none=>rfl
       | some x=>rw [qAz e] at hr;cases hr
      have hrm:r ∉ ms:=λe=>by
       rw [qA8 hrs] at hr
       exact qHW.2 e hr
      rw [qZs hrs]
      refine rest r [r] (λi hi=>?_) (by simpa using ⟨hrm,hnd⟩) (λe=>absurd rfl e)
      rcases List.mem_cons.1 hi with rfl | hi
      ·exact hrs
      ·exact hm i hi
    | some l0=>
      unfold qNB
      simp only
      have:∃ tg st pd nt2 en2 ps2 as2 bo2 d2,s l0=some (tg,.loop st pd nt2 en2 ps2 as2 bo2 d2):=by
       simp only [rndK,zABJ] at hrnd
       split at hrnd
       ·rename_i tg st pd nt2 en2 ps2 as2 bo2 d2 e;exact ⟨tg,st,pd,nt2,en2,ps2,as2,bo2,d2,e⟩
       ·exact hrnd.elim
      obtain ⟨tg,st,pd,nt2,en2,ps2,as2,bo2,d2,hl0⟩:=this
      refine wpF.bd (.const _) (λ_=>.const _) (wpF.rd (qAz hl0) λab hab=>?_)
      cases ab with
      | loop st3 pd3 nt3 T3 ps3 as3 bo3 d3=>exact wpF.ret (rest d3 [] hm hnd λ_=>rfl)
      | _=>exact hab.elim
   ·exact h.elim
theorem qIb (hX:FrX X):∀ c:Code,qHx P X A nt rnd c
 | .skip=>zADJ
 | .region _ _ _=>zAAT hX
 | .seq a b=>zAE2 (qIb hX a) (qIb hX b)
 | .cond _ a b=>zAD4 (qIb hX a) (qIb hX b)
 | .block _ b=>zABr (qIb hX b)
 | .loop b=>zADm hX (qIb hX b) (match b with
   | .seq _ r=>
     have hr:=qIb hX r
     λst h=>by
      obtain ⟨a',e⟩:=qHY h
      injection e with _ e2
      rw [← e2];exact hr
   | .skip | .region _ _ _ | .cond _ _ _ | .block _ _ | .loop _ | .exit _ | .ret | .rangeFunc _ _ _ _ | .scope _ | .label _ | .goto _ | .refuse _=>λst h=>by obtain ⟨a',e⟩:=qHY h;cases e)
 | .exit _=>zADU
 | .ret=>zAE8
 | .rangeFunc _ _ _ _=>qT7 hX
 | .scope _=>λ_ _ _ h=>h.elim
 | .label _=>λ_ _ _ h=>h.elim
 | .goto _=>λ_ _ _ h=>h.elim
 | .refuse _=>λ_ _ _ h=>h.elim
theorem qEB (l:List Mk):Mono λn=>qAx P (run P X n) l:=qBF λn=>qCB (qB3 n) l
theorem qLc {s:Hq} {Q:Hq→Prop}:∀ (ms:List Nat) (S:Hq),ms.Nodup→(∀ i∈ms,S i=some (false,.deferred true))→Sub s S→Pers S s→(∀ i∈ms,s i=none)→Q s→wpF (λn=>qAx P (run P X n) (mkm ms)) (λ_ s'=>Q s') S
 | [],S,_,_,hs,hp,_,h=>wpF.drop (wpF.ret h) hs hp
 | r :: ms,S,hnd,hS,hs,hp,hm,h=>by
   have hr:=hS r (by simp)
   show wpF (λn=>qAx P (run P X n) (Mk.mark r :: mkm ms)) _ S
   unfold qAx
   refine wpF.bd (f:=λn blk=>match blk with
    | .deferred true=>bd (wr r (.deferred false)) λ_=>qAx P (run P X n) (mkm ms)
    | _=>fail) (.const _) (λblk=>qBF λn=>?_) (wpF.rd hr λab hab=>?_)
   ·split
    ·exact LeM.bd (LeM.refl _) λ_=>qCB (qB3 n) _
    ·exact LeM.refl _
   cases ab with
   | deferred b=>
     cases hab
     refine wpF.bd (.const _) (λ_=>qEB _) (wpF.wr hr (x:=.deferred false) rfl (qLc ms _ (List.nodup_cons.1 hnd).2 (λi hi=>?_) (λi e hi=>?_) (λi b hi=>?_) (λi hi=>hm i (by simp [hi])) h))
     ·rw [qIc (show i≠r from λe=>(List.nodup_cons.1 hnd).1 (e ▸ hi))];exact hS i (by simp [hi])
     ·rw [qIc (show i≠r from λq=>by rw [q,hm r (by simp)] at hi;cases hi)];exact hs i e hi
     ·by_cases q:i=r
      ·subst q;rw [qJ3] at hi;cases hi
      ·rw [qIc q] at hi;exact hp i b hi
   | _=>exact hab.elim
theorem qMZ (args:List AV):TR (Tr.ofListAt .nil 0 args) (qJf args):=by
 intro i
 unfold tget qJf
 rw [Tr.get_ofListAt]
 split
 ·rw [List.getD_eq_getElem?_getD];rfl
 ·rename_i h
  rw [Tr.get_nil,List.getD_eq_getElem?_getD,List.getElem?_eq_none (by omega)]
theorem qSC {o:Option α} {K K':α→Prop} (hk:∀ a,K a→K' a) (h:oK o K):oK o K':=by
 cases o with
 | none=>exact h
 | some a=>exact hk a h
theorem qWa {t:TypeId} {p:AV} {K K':AV→Prop} {s:Hq} (hk:∀ v,K v→K' v) (h:qPk P t p K s):qPk P t p K' s:=by
 unfold qPk at h ⊢
 split at h
 ·exact qSC (λl hl=>hk _ hl) h
 ·exact qSC hk h
 ·exact h
theorem qFP {T:Tmps} {env:Env} (hT:TR T env):∀ (rs:List ResultVar) (k:List AV→Prop) (s:Hq),resK P rs env k s→wpF (λ_=>qBB P T rs) (λvs s'=>s'=s∧k vs) s
 | [],k,s,h=>wpF.ret ⟨rfl,h⟩
 | .tmp t :: rs,k,s,h=>by
   unfold qBB
   refine wpF.bd (.const _) (λ_=>.const _) ((qFP hT rs _ s h).mono ?_)
   rintro vs s' ⟨rfl,hk⟩
   refine wpF.ret ⟨rfl,?_⟩
   have:=hT t
   unfold tget at this
   cases hg:T.get t with
   | none=>rw [hg] at this;simp only [Option.getD_none] at this;simp only [this];exact hk
   | some v=>rw [hg] at this;simp only [Option.getD_some] at this;simp only [this];exact hk
 | .cell a t :: rs,k,s,h=>by
   unfold resK at h
   unfold qBB
   have hg:∀ b o,env a=.ptr b o→T.get a=some (.ptr b o):=by
    intro b o e
    have:=hT a
    unfold tget at this
    cases hg:T.get a with
    | none=>rw [hg,e] at this;cases this
    | some v=>rw [hg,e] at this;simp only [Option.getD_some] at this;rw [this]
   have hp:∃ b o,env a=.ptr b o:=by
    unfold qPk at h
    split at h
    ·obtain ⟨l,e,_⟩:=qAh h
     unfold rdN at e
     split at e
     ·rename_i b o q;exact ⟨b,o,q⟩
     ·cases e
    ·obtain ⟨l,e,_⟩:=qAh h
     unfold rd1 at e
     split at e
     ·rename_i b o q;exact ⟨b,o,q⟩
     ·cases e
    ·exact h.elim
   obtain ⟨b,o,e⟩:=hp
   simp only [hg b o e]
   rw [e] at h
   have hld:wpF (λ_=>qGT P t b o) (λv s'=>s'=s∧resK P rs env (λvs=>k (v :: vs)) s) s:=qXJ (p:=.ptr b o) (Q:=λv s'=>s'=s∧resK P rs env (λvs=>k (v :: vs)) s) (qWa (λv hv=>⟨rfl,hv⟩) h)
   refine wpF.bd (.const _) (λ_=>.const _) (hld.mono ?_)
   rintro v s' ⟨rfl,hv⟩
   refine wpF.bd (.const _) (λ_=>.const _) ((qFP hT rs _ _ hv).mono ?_)
   rintro vs s' ⟨rfl,hk⟩
   exact wpF.ret ⟨rfl,hk⟩
theorem qAL (hX:FrX X) (A:Nat→List Nat) {f:FuncId} (hXf:X f=none) {fn:Func} {c:Code} (hf:P.funcs[f]?=some fn) (hb:fn.body=some c) {args:List AV} (hl:Nat.ble args.length fn.ntmps=true) {K:AV→Hq→Prop} {s:Hq}
  (h:wpC P X A fn.ntmps none c (qJf args) (λe env s=>retK e (resK P fn.results.toList env (λvs=>K (oneV vs) s) s)) s):wC P X f args K s:=by
 unfold wC wpT
 refine wpF.succ (m:=λn=>qBg P (run P X n) f args) ?_ (λn=>by
  show (match X f with
   | some g=>bd (g args) λv=>ret (Out.val v)
   | none=>qBg P (run P X n) f args)=_
  rw [hXf])
 unfold qBg
 simp only [hf,hb]
 refine wpF.cond hl ?_
 have hc:=qIb (P:=P) (A:=A) (nt:=fn.ntmps) (rnd:=none) hX c (qJf args) _ s h (Tr.ofListAt .nil 0 args) [] (qMZ args) (by simp) List.nodup_nil
 have e0:add s (mkH [])=s:=by funext i;unfold add mkH;cases s i <;> simp
 rw [e0] at hc
 refine wpF.bd (m:=λn=>run P X n (.code fn.ntmps none c (Tr.ofListAt .nil 0 args) [])) (qCb _) (λo=>qBF λn=>?_) (hc.mono ?_)
 ·split
  ·split
   ·exact LeM.refl _
   ·exact LeM.bd (qCB (qB3 n) _) λ_=>LeM.refl _
  ·exact LeM.refl _
 rintro o S ⟨e,T',env',ms',s',rfl,q1,rfl,q2,q3,_,_,q6⟩
 simp only [List.append_nil] at q2 q3 ⊢
 have body:resK P fn.results.toList env' (λvs=>K (oneV vs) s') s'→wpF (λn=>bd (qAx P (run P X n) (mkm ms')) λ_=>bd (qBB P T' fn.results.toList) λvs=>ret (Out.val (oneV vs))) (λo s'=>∃ v,o=.val v∧K v s') (add s' (mkH ms')):=by
  intro hr
  refine wpF.bd (qEB _) (λ_=>.const _) ((qLc (Q:=λt=>t=s') ms' _ q3 (λi hi=>?_) (λi e hi=>qAz hi) (λi b hi=>?_) q2 rfl).mono ?_)
  ·rw [qA8 (q2 i hi)];unfold mkH;rw [if_pos hi]
  ·cases q:s' i with
   | some x=>rw [qAz q] at hi;exact hi
   | none=>
     rw [qA8 q] at hi
     unfold mkH at hi
     split at hi <;> cases hi
  ·rintro _ t rfl
   refine wpF.bd (.const _) (λ_=>.const _) ((qFP q1 _ _ _ hr).mono ?_)
   rintro vs s'' ⟨rfl,hk⟩
   exact wpF.ret ⟨_,rfl,hk⟩
 cases e with
 | exit id=>exact q6.elim
 | nrm=>exact body q6
 | ret=>exact body q6
end Go.AM
namespace Go.AM
open Go Go.RowKit Go.ChangeShapes Go.WideShapes Go.ChangeAt
def tiles (P:Program) (total:Nat):Nat→List Field→Bool
 | off,[]=>Nat.beq off total
 | off,f :: fs=>Nat.beq f.offset off&&tiles P total (off+P.cellsOf f.type) fs
def plainT (P:Program):Nat→TypeId→Bool
 | 0,_=>false
 | d+1,t=>match P.underlying t with
   | some .bool | some (.int _) | some .string=>true
   | some (.slice e)=>Nat.blt 0 (P.cellsOf e)&&plainT P d e
   | some (.struct fs)=>tiles P (P.cellsOf t) 0 fs.toList&&fs.toList.all λf=>plainT P d f.type
   | some (.array n e)=>Nat.beq (P.cellsOf t) (n * P.cellsOf e)&&(Nat.blt 0 (P.cellsOf e)&&plainT P d e)
   | _=>false
def Inp (P:Program) (s:Hq):Nat→TypeId→List AV→Prop
 | 0,_,_=>False
 | d+1,t,xs=>match P.underlying t with
   | some .bool=>∃ b,xs=[.bool b]
   | some (.int k)=>∃ n,xs=[.int k n]∧(Lit.int k n).wf=true
   | some .string=>∃ v,xs=[.str v]∧v.size≤maxLen
   | some (.slice e)=>xs=[.nilslc]∨∃ b len cap,xs=[.slc b 0 len (some cap) (P.cellsOf e)]∧len≤cap∧cap≤maxLen∧
     (0 < cap→∃ el l,s b=some (true,.cells el l)∧l.length=cap * P.cellsOf e∧∀ i,i < cap→Inp P s d e ((l.drop (i * P.cellsOf e)).take (P.cellsOf e)))
   | some (.struct fs)=>xs.length=P.cellsOf t∧∀ f∈fs.toList,Inp P s d f.type ((xs.drop f.offset).take (P.cellsOf f.type))
   | some (.array n e)=>xs.length=P.cellsOf t∧∀ i,i < n→Inp P s d e ((xs.drop (i * P.cellsOf e)).take (P.cellsOf e))
   | _=>False
abbrev IB:=List (Loc × TypeId × List AV)
def rhoB (B:IB):Ren:=λid=>match id with
 | 0=>some ⟨0,0,0⟩
 | i+1=>match B[i]? with
   | some x=>some x.1
   | none=>none
def qKZ (B:IB):Hq:=λid=>match id with
 | 0=>none
 | i+1=>match B[i]? with
   | some x=>some (true,.cells x.2.1 x.2.2)
   | none=>none
theorem qMt (B C:IB):Le (rhoB B) (rhoB (B ++ C)):=by
 intro id L h
 cases id with
 | zero=>exact h
 | succ i=>
   unfold rhoB at h ⊢
   simp only at h ⊢
   cases e:B[i]? with
   | none=>rw [e] at h;cases h
   | some x=>rw [e] at h;rw [List.getElem?_append_left (List.getElem?_eq_some_iff.1 e).1,e];exact h
theorem qJ0 (B C:IB):Sub (qKZ B) (qKZ (B ++ C)):=by
 intro id L h
 cases id with
 | zero=>exact h
 | succ i=>
   unfold qKZ at h ⊢
   simp only at h ⊢
   cases e:B[i]? with
   | none=>rw [e] at h;cases h
   | some x=>rw [e] at h;rw [List.getElem?_append_left (List.getElem?_eq_some_iff.1 e).1,e];exact h
theorem Inp.sub {P:Program} {s s':Hq} (hs:Sub s s'):∀ (d:Nat) (t:TypeId) (xs:List AV),Inp P s d t xs→Inp P s' d t xs
 | 0,_,_,h=>h
 | d+1,t,xs,h=>by
   unfold Inp at h ⊢
   split at h
   ·exact h
   ·exact h
   ·exact h
   ·rcases h with h | ⟨b,len,cap,h1,h2,h3,h4⟩
    ·exact .inl h
    ·refine .inr ⟨b,len,cap,h1,h2,h3,λhc=>?_⟩
     obtain ⟨el,l,q1,q2,q3⟩:=h4 hc
     exact ⟨el,l,hs _ _ q1,q2,λi hi=>Inp.sub hs d _ _ (q3 i hi)⟩
   ·exact ⟨h.1,λf hf=>Inp.sub hs d _ _ (h.2 f hf)⟩
   ·exact ⟨h.1,λi hi=>Inp.sub hs d _ _ (h.2 i hi)⟩
   ·exact h
def VB (σ:Nat→Value) (B:IB) (W:World):Prop:=∀ (i:Nat) (x:Loc × TypeId × List AV),B[i]?=some x→∃ (cc:Array Value) (fr:Nat × Nat),W.heap[x.1.blk]?=some (.cells cc x.2.1 fr)∧cc.size=x.1.sz∧x.1.sh+x.2.2.length≤cc.size∧qAg x.2.2=true∧
 ∀ (j:Nat) (v:AV),x.2.2[j]?=some v→∃ v',cc[x.1.sh+j]?=some v'∧Rel σ (rhoB B) v v'∧v'.oneCell'=true
theorem VB.snoc {σ:Nat→Value} {B:IB} {W:World} (h:VB σ B W) (x:Loc × TypeId × List AV)
  (hx:∃ (cc:Array Value) (fr:Nat × Nat),W.heap[x.1.blk]?=some (.cells cc x.2.1 fr)∧cc.size=x.1.sz∧x.1.sh+x.2.2.length≤cc.size∧qAg x.2.2=true∧∀ (j:Nat) (v:AV),x.2.2[j]?=some v→∃ v',cc[x.1.sh+j]?=some v'∧Rel σ (rhoB B) v v'∧v'.oneCell'=true):VB σ (B ++ [x]) W:=by
 intro i y hy
 rw [List.getElem?_append] at hy
 split at hy
 ·obtain ⟨cc,fr,h1,h2,h3,h4,h5⟩:=h i y hy
  exact ⟨cc,fr,h1,h2,h3,h4,λj v hv=>let ⟨v',q1,q2,q3⟩:=h5 j v hv;⟨v',q1,Rel.mono (qMt B [x]) _ _ q2,q3⟩⟩
 ·have:y=x:=by
   cases e:i - B.length with
   | zero=>rw [e] at hy;exact (Option.some.inj hy).symm
   | succ k=>rw [e] at hy;cases hy
  subst this
  obtain ⟨cc,fr,h1,h2,h3,h4,h5⟩:=hx
  exact ⟨cc,fr,h1,h2,h3,h4,λj v hv=>let ⟨v',q1,q2,q3⟩:=h5 j v hv;⟨v',q1,Rel.mono (qMt B [y]) _ _ q2,q3⟩⟩
section
variable {H : Type} {enc : TypeId × Value → H} {P : Program} {W : World} {σ : Nat → Value}
theorem qNF (hσ:One σ) (Q:Nat→List AV→Hq→Prop) (hQ:∀ i xs s s',Sub s s'→Q i xs s→Q i xs s') (css:Nat→List Value):∀ (n:Nat) (B:IB),VB σ B W→
  (∀ i,i < n→∀ B,VB σ B W→∃ xs C,VB σ (B ++ C) W∧RelL σ (rhoB (B ++ C)) xs (css i)∧qAg xs=true∧Q i xs (qKZ (B ++ C)))→
  ∃ (xss:Nat→List AV) (C:IB),VB σ (B ++ C) W∧∀ i,i < n→RelL σ (rhoB (B ++ C)) (xss i) (css i)∧qAg (xss i)=true∧Q i (xss i) (qKZ (B ++ C))
 | 0,B,hB,_=>⟨λ_=>[],[],by simpa using hB,λi hi=>by omega⟩
 | n+1,B,hB,h=>by
   obtain ⟨xss,C,h1,h2⟩:=qNF hσ Q hQ css n B hB λi hi=>h i (by omega)
   obtain ⟨xs,D,g1,g2,g3,g4⟩:=h n (by omega) (B ++ C) h1
   refine ⟨λi=>if i=n then xs else xss i,C ++ D,by rw [← List.append_assoc];exact g1,λi hi=>?_⟩
   rw [← List.append_assoc]
   by_cases e:i=n
   ·subst e
    simp only [if_true]
    exact ⟨g2,g3,g4⟩
   ·simp only [if_neg e]
    obtain ⟨q1,q2,q3⟩:=h2 i (by omega)
    exact ⟨RelL.mono (qMt (B ++ C) D) _ _ q1,q2,hQ _ _ _ _ (qJ0 (B ++ C) D) q3⟩
def pieces (xss:Nat→List AV) (es n:Nat):List AV:=(List.range (n * es)).map λj=>(xss (j / es)).getD (j % es) .undef
theorem qBx (xss:Nat→List AV) (es n:Nat):(pieces xss es n).length=n * es:=by simp [pieces]
theorem qGt (xss:Nat→List AV) (es n j:Nat) (h:j < n * es):(pieces xss es n)[j]?=some ((xss (j / es)).getD (j % es) .undef):=by simp [pieces,h]
theorem qMj (xss:Nat→List AV) (es n i:Nat) (h0:0 < es) (hi:i < n) (hl:(xss i).length=es):((pieces xss es n).drop (i * es)).take es=xss i:=by
 have hm:(i+1) * es≤n * es:=Nat.mul_le_mul_right _ hi
 rw [Nat.add_mul,Nat.one_mul] at hm
 apply List.ext_getElem?
 intro j
 rw [List.getElem?_take]
 split
 ·rename_i hj
  rw [List.getElem?_drop,qGt _ _ _ _ (by omega)]
  have e1:(i * es+j) / es=i:=by rw [Nat.mul_comm,Nat.mul_add_div h0,Nat.div_eq_of_lt hj];omega
  have e2:(i * es+j) % es=j:=by rw [Nat.mul_comm,Nat.mul_add_mod,Nat.mod_eq_of_lt hj]
  rw [e1,e2,List.getD_eq_getElem?_getD,List.getElem?_eq_getElem (by omega)];rfl
 ·rw [List.getElem?_eq_none (by omega)]
theorem qRL {l:List AV} (h:∀ (j:Nat) (v:AV),l[j]?=some v→v.one=true):qAg l=true:=qHz λx hx=>by
 obtain ⟨i,hi⟩:=List.getElem?_of_mem hx
 exact h i x hi
theorem qUh {P:Program} {total:Nat}:∀ {fs:List Field} {off:Nat},tiles P total off fs=true→off≤total
 | [],off,h=>by have:=Nat.eq_of_beq_eq_true h;omega
 | f :: fs,off,h=>by
   unfold tiles at h
   have:=qUh (Bool.and_eq_true_iff.1 h).2
   omega
theorem qN3 (hσ:One σ) (d:Nat) (cs:List Value) (total:Nat) (hl:cs.length=total):∀ (fs:List Field) (off:Nat) (B:IB),VB σ B W→tiles P total off fs=true→
  (∀ f∈fs,∀ B,VB σ B W→∃ xs C,VB σ (B ++ C) W∧RelL σ (rhoB (B ++ C)) xs ((cs.drop f.offset).take (P.cellsOf f.type))∧qAg xs=true∧Inp P (qKZ (B ++ C)) d f.type xs)→
  ∃ xs C,VB σ (B ++ C) W∧RelL σ (rhoB (B ++ C)) xs (cs.drop off)∧qAg xs=true∧∀ f∈fs,off≤f.offset∧Inp P (qKZ (B ++ C)) d f.type ((xs.drop (f.offset - off)).take (P.cellsOf f.type))
 | [],off,B,hB,ht,_=>by
   refine ⟨[],[],by simpa using hB,?_,rfl,by simp⟩
   have:=Nat.eq_of_beq_eq_true ht
   rw [List.drop_eq_nil_of_le (by omega)]
   exact .nil
 | f :: fs,off,B,hB,ht,h=>by
   unfold tiles at ht
   obtain ⟨h1,h2⟩:=Bool.and_eq_true_iff.1 ht
   have ho:=Nat.eq_of_beq_eq_true h1
   have hle:=qUh h2
   obtain ⟨xs,C,g1,g2,g3,g4⟩:=h f (by simp) B hB
   obtain ⟨ys,D,k1,k2,k3,k4⟩:=qN3 hσ d cs total hl fs (off+P.cellsOf f.type) (B ++ C) g1 h2 λf' hf'=>h f' (by simp [hf'])
   have hx:xs.length=P.cellsOf f.type:=by
    have:=g2.length
    rw [← this,List.length_take,List.length_drop,ho];omega
   refine ⟨xs ++ ys,C ++ D,by rw [← List.append_assoc];exact k1,?_,qCJ g3 k3,λf' hf'=>?_⟩
   ·rw [← List.append_assoc]
    have e:cs.drop off=(cs.drop f.offset).take (P.cellsOf f.type) ++ cs.drop (off+P.cellsOf f.type):=by
     rw [ho,← List.drop_drop,List.take_append_drop]
    rw [e]
    exact RelL.append (RelL.mono (qMt (B ++ C) D) _ _ g2) k2
   ·rw [← List.append_assoc]
    rcases List.mem_cons.1 hf' with rfl | hf'
    ·refine ⟨by omega,?_⟩
     rw [ho,Nat.sub_self,List.drop_zero,← hx,List.take_left]
     exact Inp.sub (qJ0 (B ++ C) D) _ _ _ g4
    ·obtain ⟨q1,q2⟩:=k4 f' hf'
     refine ⟨by omega,?_⟩
     have e:(xs ++ ys).drop (f'.offset - off)=ys.drop (f'.offset - (off+P.cellsOf f.type)):=by
      rw [List.drop_append,List.drop_eq_nil_of_le (by omega),List.nil_append,hx]
      congr 1;omega
     rw [e]
     exact q2
theorem qQG (hσ:One σ):∀ (d:Nat) (t:TypeId) (cs:List Value) (fuel:Nat) (x:DataW H × List MemPlace),plainT P d t=true→DataW.trod enc P W 0 (λ_=>true) true fuel t cs=some x→
  ∀ B,VB σ B W→∃ xs C,VB σ (B ++ C) W∧RelL σ (rhoB (B ++ C)) xs cs∧qAg xs=true∧Inp P (qKZ (B ++ C)) d t xs
 | 0,_,_,_,_,hp,_,_,_=>by cases hp
 | d+1,t,cs,fuel,x,hp,h,B,hB=>by
   unfold plainT at hp
   unfold Inp
   split at hp
   ·rename_i hu
    obtain ⟨b,rfl,_⟩:=DataW.trod_bool hu h
    refine ⟨[.bool b],[],by simpa using hB,.cons (by unfold Rel;rfl) .nil,rfl,?_⟩
    exact ⟨b,rfl⟩
   ·rename_i k hu
    obtain ⟨n,rfl,_,hw⟩:=DataW.trod_int hu h
    refine ⟨[.int k n],[],by simpa using hB,.cons (by unfold Rel;rfl) .nil,rfl,?_⟩
    exact ⟨n,rfl,hw⟩
   ·rename_i hu
    obtain ⟨v,rfl,_,hv⟩:=DataW.trod_string hu h
    refine ⟨[.str v],[],by simpa using hB,.cons (by unfold Rel;rfl) .nil,rfl,?_⟩
    exact ⟨v,rfl,hv⟩
   ·rename_i e hu
    obtain ⟨hp1,hp2⟩:=Bool.and_eq_true_iff.1 hp
    have hes:0 < P.cellsOf e:=by rwa [Nat.blt_eq] at hp1
    rcases DataW.trod_slice hu h with ⟨rfl,_⟩ | ⟨a,len,cap,elems,rest,n,_,rfl,_,_,hlc,hcm,hel,hrd,hsp,_⟩
    ·exact ⟨[.nilslc],[],by simpa using hB,.cons (by unfold Rel;rfl) .nil,rfl,.inl rfl⟩
    ·obtain ⟨hrl,hrd2⟩:=hsp rfl
     have each:∀ i,i < cap→∃ y,(W.cells? 0 (a.add (i * P.cellsOf e)) (P.cellsOf e)).bind (DataW.trod enc P W 0 (λ_=>true) true n e)=some y:=by
      intro i hi
      by_cases hil:i < len
      ·rw [hrd i hil];exact ⟨_,List.getElem?_eq_getElem (by omega)⟩
      ·have:=hrd2 (i - len) (by omega)
       rw [show len+(i - len)=i by omega] at this
       rw [this];exact ⟨_,List.getElem?_eq_getElem (by omega)⟩
     by_cases hc:cap=0
     ·subst hc
      have hl0:len=0:=by omega
      subst hl0
      refine ⟨[.slc 0 0 0 (some 0) (P.cellsOf e)],[],by simpa using hB,.cons ?_ .nil,rfl,.inr ⟨0,0,0,rfl,Nat.le_refl _,hcm,λh=>by omega⟩⟩
      unfold Rel
      exact ⟨⟨0,0,0⟩,a,0,rfl,rfl,.inr ⟨rfl,rfl⟩,Nat.le_refl _,λk hk=>by cases hk;rfl⟩
     ·have css:∀ i,i < cap→∃ c,W.cells? 0 (a.add (i * P.cellsOf e)) (P.cellsOf e)=some c∧∃ y,DataW.trod enc P W 0 (λ_=>true) true n e c=some y:=by
       intro i hi
       obtain ⟨y,hy⟩:=each i hi
       rw [Option.bind_eq_some_iff] at hy
       obtain ⟨c,h1,h2⟩:=hy
       exact ⟨c,h1,y,h2⟩
      obtain ⟨xss,C,h1,h2⟩:=qNF (W:=W) hσ (λ_ xs s=>Inp P s d e xs) (λi xs s s' hs h=>Inp.sub hs d e xs h) (λi=>(W.cells? 0 (a.add (i * P.cellsOf e)) (P.cellsOf e)).getD []) cap B hB λi hi B hB=>by
       obtain ⟨c,g1,y,g2⟩:=css i hi
       rw [g1]
       exact qQG hσ d e c n y hp2 g2 B hB
      have cell:∀ i j,i < cap→j < P.cellsOf e→∃ v,W.cell? (a.add (i * P.cellsOf e+j))=some v∧((W.cells? 0 (a.add (i * P.cellsOf e)) (P.cellsOf e)).getD [])[j]?=some v:=by
       intro i j hi hj
       obtain ⟨c,g1,_⟩:=css i hi
       obtain ⟨_,g2,g3⟩:=World.cells?_some g1
       have g4:=g3 j hj
       rw [List.getElem?_eq_getElem (by omega)] at g4
       refine ⟨c[j]'(by omega),?_,by rw [g1];simp⟩
       rw [← g4]
       congr 1
       unfold Addr.add
       by_cases z1:i * P.cellsOf e=0
       ·by_cases z2:j=0
        ·simp [z1,z2]
        ·simp [z1,z2]
       ·by_cases z2:j=0
        ·simp [z1,z2]
        ·simp [z1,z2,Nat.add_assoc]
      obtain ⟨v0,hv0,_⟩:=cell 0 0 (by omega) hes
      rw [Nat.zero_mul,Nat.zero_add] at hv0
      have hblk:∃ cc el fr,W.heap[a.block]?=some (.cells cc el fr)∧a.spot=none:=by
       have e0:a.add 0=a:=by simp [Addr.add]
       rw [e0] at hv0
       unfold World.cell? at hv0
       split at hv0
       ·rename_i cc el fr hb
        cases hs:a.spot with
        | none=>exact ⟨cc,el,fr,hb,rfl⟩
        | some k=>rw [hs] at hv0;simp at hv0
       ·cases hv0
      obtain ⟨cc,el,fr,hb,hspot⟩:=hblk
      have ha:a=⟨a.block,a.off,none⟩:=by cases a;simp only at hspot;rw [hspot]
      have at_:∀ k,k < cap * P.cellsOf e→∃ v,cc[a.off+k]?=some v∧((W.cells? 0 (a.add ((k / P.cellsOf e) * P.cellsOf e)) (P.cellsOf e)).getD [])[k % P.cellsOf e]?=some v:=by
       intro k hk
       have hq:k / P.cellsOf e < cap:=by rw [Nat.div_lt_iff_lt_mul hes];exact hk
       obtain ⟨v,g1,g2⟩:=cell (k / P.cellsOf e) (k % P.cellsOf e) hq (Nat.mod_lt _ hes)
       refine ⟨v,?_,g2⟩
       rw [Nat.mul_comm,Nat.div_add_mod,ha,qCc,qJl hb] at g1
       exact g1
      have hlen:∀ i,i < cap→(xss i).length=P.cellsOf e:=by
       intro i hi
       have:=(h2 i hi).1.length
       obtain ⟨c,g1,_⟩:=css i hi
       rw [g1] at this
       rw [← this]
       exact (World.cells?_some g1).2.1
      have hsz:a.off+cap * P.cellsOf e≤cc.size:=by
       have hpos:0 < cap * P.cellsOf e:=Nat.mul_pos (by omega) hes
       obtain ⟨v,g1,_⟩:=at_ (cap * P.cellsOf e - 1) (by omega)
       have:=(Array.getElem?_eq_some_iff.1 g1).1
       omega
      have hvb:VB σ ((B ++ C) ++ [(⟨a.block,a.off,cc.size⟩,el,pieces xss (P.cellsOf e) cap)]) W:=by
       refine h1.snoc _ ⟨cc,fr,hb,rfl,by rw [qBx];exact hsz,?_,λj v hv=>?_⟩
       ·refine qRL λj v hv=>?_
        have hj:j < cap * P.cellsOf e:=by have:=(List.getElem?_eq_some_iff.1 hv).1;rwa [qBx] at this
        rw [qGt _ _ _ _ hj] at hv
        have hq:j / P.cellsOf e < cap:=by rw [Nat.div_lt_iff_lt_mul hes];exact hj
        have hm:j % P.cellsOf e < (xss (j / P.cellsOf e)).length:=by rw [hlen _ hq];exact Nat.mod_lt _ hes
        rw [List.getD_eq_getElem?_getD,List.getElem?_eq_getElem hm] at hv
        cases hv
        exact qDz (h2 _ hq).2.1 _ (List.getElem_mem hm)
       ·have hj:j < cap * P.cellsOf e:=by have:=(List.getElem?_eq_some_iff.1 hv).1;rwa [qBx] at this
        rw [qGt _ _ _ _ hj] at hv
        have hq:j / P.cellsOf e < cap:=by rw [Nat.div_lt_iff_lt_mul hes];exact hj
        have hm:j % P.cellsOf e < (xss (j / P.cellsOf e)).length:=by rw [hlen _ hq];exact Nat.mod_lt _ hes
        rw [List.getD_eq_getElem?_getD,List.getElem?_eq_getElem hm] at hv
        cases hv
        obtain ⟨r1,r2,_⟩:=h2 _ hq
        obtain ⟨y,g1,g2⟩:=r1.get (j % P.cellsOf e) _ (List.getElem?_eq_getElem hm)
        obtain ⟨v',k1,k2⟩:=at_ j hj
        rw [g1] at k2
        cases k2
        exact ⟨y,k1,g2,qJw hσ g2 (qDz r2 _ (List.getElem_mem hm))⟩
      refine ⟨[.slc ((B ++ C).length+1) 0 len (some cap) (P.cellsOf e)],C ++ [(⟨a.block,a.off,cc.size⟩,el,pieces xss (P.cellsOf e) cap)],by rw [← List.append_assoc];exact hvb,?_,rfl,.inr ⟨_,len,cap,rfl,hlc,hcm,λ_=>⟨el,pieces xss (P.cellsOf e) cap,?_,qBx _ _ _,λi hi=>?_⟩⟩⟩
      ·rw [← List.append_assoc]
       refine .cons ?_ .nil
       unfold Rel
       refine ⟨⟨a.block,a.off,cc.size⟩,a,cap,?_,rfl,.inl ⟨ha,by simpa using hsz⟩,hlc,λk hk=>by cases hk;rfl⟩
       unfold rhoB
       simp
      ·rw [← List.append_assoc]
       unfold qKZ
       simp
      ·rw [qMj _ _ _ _ hes hi (hlen i hi),← List.append_assoc]
       exact Inp.sub (qJ0 (B ++ C) _) _ _ _ (h2 i hi).2.2
   ·rename_i fs hu
    obtain ⟨hp1,hp2⟩:=Bool.and_eq_true_iff.1 hp
    obtain ⟨xs,n,_,_,hl,hxl,hx⟩:=DataW.trod_struct hu h
    obtain ⟨ys,C,g1,g2,g3,g4⟩:=qN3 (W:=W) (P:=P) hσ d cs (P.cellsOf t) hl fs.toList 0 B hB hp1 λf hf B hB=>by
     obtain ⟨i,hi⟩:=List.getElem?_of_mem hf
     have hi':fs[i]?=some f:=by simpa using hi
     have:=hx i f hi'
     rw [List.getElem?_eq_getElem (by rw [hxl];exact (Array.getElem?_eq_some_iff.1 hi').1)] at this
     exact qQG hσ d f.type _ n _ (List.all_eq_true.1 hp2 f hf) this B hB
    rw [List.drop_zero] at g2
    exact ⟨ys,C,g1,g2,g3,by rw [← g2.length];exact hl,λf hf=>by simpa using (g4 f hf).2⟩
   ·rename_i n e hu
    obtain ⟨hp1,hp2⟩:=Bool.and_eq_true_iff.1 hp
    obtain ⟨hp2,hp3⟩:=Bool.and_eq_true_iff.1 hp2
    have hes:0 < P.cellsOf e:=by rwa [Nat.blt_eq] at hp2
    have htot:=Nat.eq_of_beq_eq_true hp1
    obtain ⟨ys,m,_,_,hl,hyl,hy⟩:=DataW.trod_array hu h
    obtain ⟨xss,C,h1,h2⟩:=qNF (W:=W) hσ (λ_ xs s=>Inp P s d e xs) (λi xs s s' hs h=>Inp.sub hs d e xs h) (λi=>(cs.drop (i * P.cellsOf e)).take (P.cellsOf e)) n B hB λi hi B hB=>by
     have:=hy i hi
     rw [List.getElem?_eq_getElem (by omega)] at this
     exact qQG hσ d e _ m _ hp3 this B hB
    have hlen:∀ i,i < n→(xss i).length=P.cellsOf e:=by
     intro i hi
     have:=(h2 i hi).1.length
     rw [← this,List.length_take,List.length_drop,hl,htot]
     have:(i+1) * P.cellsOf e≤n * P.cellsOf e:=Nat.mul_le_mul_right _ hi
     rw [Nat.add_mul,Nat.one_mul] at this
     omega
    refine ⟨pieces xss (P.cellsOf e) n,C,h1,?_,?_,by rw [qBx,htot],λi hi=>?_⟩
    ·refine RelL.of_get (by rw [qBx,hl,htot]) λj x y hx hy'=>?_
     have hj:j < n * P.cellsOf e:=by have:=(List.getElem?_eq_some_iff.1 hx).1;rwa [qBx] at this
     rw [qGt _ _ _ _ hj] at hx
     have hq:j / P.cellsOf e < n:=by rw [Nat.div_lt_iff_lt_mul hes];exact hj
     have hm:j % P.cellsOf e < (xss (j / P.cellsOf e)).length:=by rw [hlen _ hq];exact Nat.mod_lt _ hes
     rw [List.getD_eq_getElem?_getD,List.getElem?_eq_getElem hm] at hx
     cases hx
     obtain ⟨y',g1,g2⟩:=(h2 _ hq).1.get (j % P.cellsOf e) _ (List.getElem?_eq_getElem hm)
     rw [List.getElem?_take,if_pos (Nat.mod_lt _ hes),List.getElem?_drop,Nat.mul_comm,Nat.div_add_mod,hy'] at g1
     cases g1
     exact g2
    ·refine qRL λj v hv=>?_
     have hj:j < n * P.cellsOf e:=by have:=(List.getElem?_eq_some_iff.1 hv).1;rwa [qBx] at this
     rw [qGt _ _ _ _ hj] at hv
     have hq:j / P.cellsOf e < n:=by rw [Nat.div_lt_iff_lt_mul hes];exact hj
     have hm:j % P.cellsOf e < (xss (j / P.cellsOf e)).length:=by rw [hlen _ hq];exact Nat.mod_lt _ hes
     rw [List.getD_eq_getElem?_getD,List.getElem?_eq_getElem hm] at hv
     cases hv
     exact qDz (h2 _ hq).2.1 _ (List.getElem_mem hm)
    ·rw [qMj _ _ _ _ hes hi (hlen i hi)]
     exact (h2 i hi).2.2
   ·cases hp
end
end Go.AM
namespace Go.AM
open Go Go.RowKit Go.ChangeShapes Go.WideShapes Go.ChangeAt
section
variable {H : Type} {enc : TypeId × Value → H} {P : Program} {W W' : World} {σ : Nat → Value}
theorem qG2 {α β:Type} {f g:α→Option β}:∀ {l:List α} {ys:List β},l.mapM f=some ys→(∀ x∈l,∀ y∈ys,f x=some y→g x=some y)→l.mapM g=some ys
 | [],ys,h,_=>by simpa using h
 | a :: l,ys,h,hg=>by
   rw [List.mapM_cons] at h ⊢
   cases ha:f a with
   | none=>rw [ha] at h;cases h
   | some b=>
     rw [ha] at h
     cases hl:l.mapM f with
     | none=>rw [hl] at h;cases h
     | some bs=>
       rw [hl] at h
       cases h
       rw [hg a (by simp) b (by simp) ha,qG2 hl λx hx y hy=>hg x (by simp [hx]) y (by simp [hy])]
       rfl
theorem qV7 (hb:Below W.heap.size W W') {a:Addr} {n:Nat} {cs:List Value} (h:W.cells? 0 a n=some cs):W'.cells? 0 a n=some cs:=by
 unfold World.cells? at h ⊢
 rw [if_pos (Nat.zero_le _)] at h ⊢
 refine qG2 h λi _ v _ hv=>?_
 have hlt:(a.add i).block < W.heap.size:=by
  unfold World.cell? at hv
  cases hq:W.heap[(a.add i).block]? with
  | none=>rw [hq] at hv;cases hv
  | some o=>exact (Array.getElem?_eq_some_iff.1 hq).1
 rw [← hv]
 exact hb.cell hlt
theorem qKO (hb:Below W.heap.size W W') (sp:Nat→Bool):∀ (d:Nat) (t:TypeId) (cs:List Value) (fuel:Nat) (x:DataW H × List MemPlace),plainT P d t=true→DataW.trod enc P W 0 (λ_=>true) true fuel t cs=some x→
  (∀ p∈x.2,sp p.block=true)→DataW.trod enc P W' 0 sp true fuel t cs=some x
 | 0,_,_,_,_,hp,_,_=>by cases hp
 | d+1,t,cs,fuel,x,hp,h,hsp=>by
   unfold plainT at hp
   cases fuel with
   | zero=>cases h
   | succ fuel=>
   split at hp
   ·rename_i hu
    obtain ⟨b,rfl,rfl⟩:=DataW.trod_bool hu h
    simp only [DataW.trod,hu]
   ·rename_i k hu
    obtain ⟨n,rfl,rfl,hw⟩:=DataW.trod_int hu h
    simp [DataW.trod,hu,hw]
   ·rename_i hu
    obtain ⟨v,rfl,rfl,hv⟩:=DataW.trod_string hu h
    simp [DataW.trod,hu,hv]
   ·rename_i e hu
    obtain ⟨hp1,hp2⟩:=Bool.and_eq_true_iff.1 hp
    have hes:0 < P.cellsOf e:=by rwa [Nat.blt_eq] at hp1
    rcases DataW.trod_slice hu h with ⟨rfl,rfl⟩ | ⟨a,len,cap,elems,rest,n,hn,rfl,rfl,_,hlc,hcm,hel,_,hspare,_⟩
    ·simp only [DataW.trod,hu]
    ·obtain ⟨hrl,_⟩:=hspare rfl
     have h0:=h
     simp only [DataW.trod,hu,if_true,Nat.zero_le,true_and] at h ⊢
     rw [if_pos ⟨hlc,hcm⟩] at h ⊢
     rw [Option.bind_eq_some_iff] at h
     obtain ⟨el2,g1,g2⟩:=h
     rw [Option.map_eq_some_iff] at g2
     obtain ⟨re2,g2,g3⟩:=g2
     have hlen1:el2.length=len:=by rw [mapM_some_length g1];simp
     have hlen2:re2.length=cap - len:=by rw [mapM_some_length g2];simp
     simp only [Prod.mk.injEq,DataW.slice.injEq] at g3
     obtain ⟨⟨g31,g32⟩,g4⟩:=g3
     have keepE:∀ y,(y∈el2∨y∈re2)→∀ c,DataW.trod enc P W 0 (λ_=>true) true fuel e c=some y→DataW.trod enc P W' 0 sp true fuel e c=some y:=by
      intro y hy c hc
      refine qKO hb sp d e c fuel y hp2 hc λp hpm=>hsp p ?_
      simp only
      rw [← g4]
      refine List.mem_append_right _ (List.mem_flatMap.2 ⟨y,?_,hpm⟩)
      rcases hy with hy | hy
      ·exact List.mem_append_left _ hy
      ·exact List.mem_append_right _ hy
     have keepB:∀ i y,(y∈el2∨y∈re2)→(W.cells? 0 (a.add (i * P.cellsOf e)) (P.cellsOf e)).bind (DataW.trod enc P W 0 (λ_=>true) true fuel e)=some y→
       (W'.cells? 0 (a.add (i * P.cellsOf e)) (P.cellsOf e)).bind (DataW.trod enc P W' 0 sp true fuel e)=some y:=by
      intro i y hy hi
      rw [Option.bind_eq_some_iff] at hi ⊢
      obtain ⟨c,c1,c2⟩:=hi
      exact ⟨c,qV7 hb c1,keepE y hy c c2⟩
     rw [qG2 g1 λi _ y hy hi=>keepB i y (.inl hy) hi]
     simp only [Option.bind_some]
     by_cases hz:cap - len=0
     ·have:re2=[]:=List.eq_nil_of_length_eq_zero (by omega)
      subst this
      simp only [hz,List.range_zero,List.mapM_nil]
      simp only [← g31,← g32,← g4,List.map_nil]
      split <;> simp
     ·have hblk:sp a.block=true:=by
       refine hsp (.cell a.block (a.off+0)) ?_
       simp only
       refine List.mem_append_left _ ?_
       unfold MemPlace.row
       refine List.mem_map.2 ⟨0,?_,rfl⟩
       rw [List.mem_range,hel,hrl]
       exact Nat.mul_pos (by omega) hes
      rw [if_pos hblk,qG2 g2 λi _ y hy hi=>keepB (len+i) y (.inr hy) hi]
      simp only [Option.map_some,← g31,← g32,← g4]
   ·rename_i fs hu
    obtain ⟨_,hp2⟩:=Bool.and_eq_true_iff.1 hp
    obtain ⟨xs,n,_,rfl,hl,hxl,hx⟩:=DataW.trod_struct hu h
    simp only [DataW.trod,hu] at h ⊢
    rw [if_pos hl] at h ⊢
    rw [Option.map_eq_some_iff] at h ⊢
    obtain ⟨ys,h1,h2⟩:=h
    refine ⟨ys,qG2 h1 λf hf y hy hfy=>?_,h2⟩
    refine qKO hb sp d f.type _ fuel y (List.all_eq_true.1 hp2 f hf) hfy λp hpm=>hsp p ?_
    simp only [Prod.mk.injEq] at h2 ⊢
    rw [← h2.2]
    exact List.mem_flatMap.2 ⟨y,hy,hpm⟩
   ·rename_i n e hu
    obtain ⟨_,hp2⟩:=Bool.and_eq_true_iff.1 hp
    obtain ⟨_,hp3⟩:=Bool.and_eq_true_iff.1 hp2
    obtain ⟨xs,m,_,rfl,hl,hxl,hx⟩:=DataW.trod_array hu h
    simp only [DataW.trod,hu] at h ⊢
    rw [if_pos hl] at h ⊢
    rw [Option.map_eq_some_iff] at h ⊢
    obtain ⟨ys,h1,h2⟩:=h
    refine ⟨ys,qG2 h1 λi _ y hy hfy=>?_,h2⟩
    refine qKO hb sp d e _ fuel y hp3 hfy λp hpm=>hsp p ?_
    simp only [Prod.mk.injEq] at h2 ⊢
    rw [← h2.2]
    exact List.mem_flatMap.2 ⟨y,hy,hpm⟩
   ·cases hp
theorem trodAll_keep (hb:Below W.heap.size W W') (sp:Nat→Bool) (d:Nat):∀ (ts:List TypeId) (vs:List Value) (ds:List (DataW H)) (ps:List MemPlace),(ts.all λt=>plainT P d t)=true→DataW.TrodAll enc P W 0 (λ_=>true) true ts vs ds ps→
  (∀ p∈ps,sp p.block=true)→DataW.TrodAll enc P W' 0 sp true ts vs ds ps
 | [],vs,ds,ps,_,h,_=>by
   cases vs <;> cases ds <;> first | exact h | exact h.elim
 | t :: ts,[],ds,ps,_,h,_=>by cases ds <;> exact h.elim
 | t :: ts,v :: vs,[],ps,_,h,_=>h.elim
 | t :: ts,v :: vs,x :: ds,ps,hp,h,hsp=>by
   simp only [List.all_cons,Bool.and_eq_true] at hp
   obtain ⟨p,q,⟨fuel,h1⟩,h2,rfl⟩:=h
   exact ⟨p,q,⟨fuel,qKO hb sp d t _ fuel _ hp.1 h1 λp hpm=>hsp p (by simp [hpm])⟩,trodAll_keep hb sp d ts vs ds q hp.2 h2 λp hpm=>hsp p (by simp [hpm]),rfl⟩
def Arg (P:Program) (s:Hq) (d:Nat) (t:TypeId) (v:AV):Prop:=Inp P s d t v.cells∧(qBE P t=some true→∃ l,v=.agg l∧qAg l=true)∧(qBE P t≠some true→v.cells=[v])
def ArgL (P:Program) (s:Hq) (d:Nat):List TypeId→List AV→Prop
 | [],[]=>True
 | t :: ts,v :: vs=>Arg P s d t v∧ArgL P s d ts vs
 | _,_=>False
theorem Arg.sub {s s':Hq} (hs:Sub s s') {d:Nat} {t:TypeId} {v:AV} (h:Arg P s d t v):Arg P s' d t v:=⟨Inp.sub hs _ _ _ h.1,h.2⟩
theorem qRV {base:Nat} {t:TypeId} {v:Value} {d:Nat} (hp:plainT P d t=true) (h:Value.okWide P W .any base t v):(qBE P t=some true∧∃ cs,v=.agg cs)∨(qBE P t≠some true∧v.cells=#[v]):=by
 cases d with
 | zero=>cases hp
 | succ d=>
   unfold plainT at hp
   unfold Value.okWide at h
   unfold qBE
   split at hp <;> rename_i hu
   all_goals (try rw [hu] at h)
   all_goals (try simp only at h)
   ·right
    refine ⟨by rw [hu];simp,?_⟩
    unfold Cell.okWide Cell.ok at h
    simp only [hu] at h
    cases v <;> simp_all <;> rfl
   ·right
    refine ⟨by rw [hu];simp,?_⟩
    unfold Cell.okWide Cell.ok at h
    simp only [hu] at h
    cases v <;> simp_all <;> rfl
   ·right
    refine ⟨by rw [hu];simp,?_⟩
    unfold Cell.okWide Cell.ok at h
    simp only [hu] at h
    cases v <;> simp_all <;> rfl
   ·right
    refine ⟨by rw [hu];simp,?_⟩
    unfold Cell.okWide Cell.ok at h
    simp only [hu] at h
    cases v <;> simp_all <;> rfl
   ·left
    obtain ⟨cs,e,_⟩:=h
    exact ⟨by rw [hu],cs,e⟩
   ·left
    obtain ⟨cs,e,_⟩:=h
    exact ⟨by rw [hu],cs,e⟩
   ·cases hp
theorem qRZ (hσ:One σ) (d:Nat) (base:Nat):∀ (ts:List TypeId) (vs:List Value) (ds:List (DataW H)) (ps:List MemPlace) (B:IB),VB σ B W→(ts.all λt=>plainT P d t)=true→DataW.TrodAll enc P W 0 (λ_=>true) true ts vs ds ps→
  (∀ (j:Nat) t v,ts[j]?=some t→vs[j]?=some v→Value.okWide P W .any base t v)→∃ xs C,VB σ (B ++ C) W∧RelL σ (rhoB (B ++ C)) xs vs∧ArgL P (qKZ (B ++ C)) d ts xs
 | [],vs,ds,ps,B,hB,_,h,_=>by
   cases vs with
   | nil=>exact ⟨[],[],by simpa using hB,.nil,trivial⟩
   | cons v vs=>cases ds <;> exact h.elim
 | t :: ts,[],ds,ps,B,hB,_,h,_=>by cases ds <;> exact h.elim
 | t :: ts,v :: vs,[],ps,B,hB,_,h,_=>h.elim
 | t :: ts,v :: vs,x :: ds,ps,B,hB,hp,h,hv=>by
   simp only [List.all_cons,Bool.and_eq_true] at hp
   obtain ⟨p,q,⟨fuel,h1⟩,h2,rfl⟩:=h
   obtain ⟨xs,C,g1,g2,g3,g4⟩:=qQG hσ d t _ fuel _ hp.1 h1 B hB
   obtain ⟨ys,D,k1,k2,k3⟩:=qRZ hσ d base ts vs ds q (B ++ C) g1 hp.2 h2 λj t v hj hv'=>hv (j+1) t v (by simpa using hj) (by simpa using hv')
   have hsub:=qJ0 (B ++ C) D
   have hle:=qMt (B ++ C) D
   rcases qRV hp.1 (hv 0 t v rfl rfl) with ⟨ha,cs,rfl⟩ | ⟨ha,hc⟩
   ·refine ⟨.agg xs :: ys,C ++ D,by rw [← List.append_assoc];exact k1,?_,?_⟩
    ·rw [← List.append_assoc]
     exact .cons (by unfold Rel;exact ⟨cs,rfl,RelL.mono hle _ _ g2⟩) k2
    ·rw [← List.append_assoc]
     exact ⟨⟨Inp.sub hsub _ _ _ g4,λ_=>⟨xs,rfl,g3⟩,λh=>absurd ha h⟩,k3⟩
   ·rw [hc] at g2
    obtain ⟨y,rfl⟩:∃ y,xs=[y]:=by
     have:=g2.length
     cases xs with
     | nil=>simp at this
     | cons y r=>cases r with
       | nil=>exact ⟨y,rfl⟩
       | cons _ _=>simp at this
    have hr:Rel σ (rhoB (B ++ C)) y v:=by
     unfold RelL at g2
     obtain ⟨_,_,e,r,_⟩:=g2
     cases e;exact r
    have hy:y.one=true:=by simpa [qAg] using g3
    refine ⟨y :: ys,C ++ D,by rw [← List.append_assoc];exact k1,?_,?_⟩
    ·rw [← List.append_assoc]
     exact .cons (Rel.mono hle _ _ hr) k2
    ·rw [← List.append_assoc]
     refine ⟨⟨?_,λh=>absurd h ha,λ_=>qIM hy⟩,k3⟩
     rw [qIM hy]
     exact Inp.sub hsub _ _ _ g4
end
def memB (B:IB):AH:={ blks:=Tr.ofListAt .nil 1 (B.map λx=>.cells x.2.1 (Tr.ofListAt .nil 0 x.2.2) x.2.2.length),next:=B.length+1,lo:=B.length+1,log:=[] }
theorem qQX (B:IB) (id:Nat):(memB B).blks.get id=match id with
  | 0=>none
  | i+1=>match B[i]? with
    | some x=>some (.cells x.2.1 (Tr.ofListAt .nil 0 x.2.2) x.2.2.length)
    | none=>none:=by
 unfold memB
 simp only
 rw [Tr.get_ofListAt]
 cases id with
 | zero=>rw [if_neg (by omega),Tr.get_nil]
 | succ i=>
   by_cases h:i < B.length
   ·rw [if_pos (by simp;omega)]
    simp [List.getElem?_eq_getElem h]
   ·rw [if_neg (by simp;omega),Tr.get_nil]
    have:B[i]?=none:=List.getElem?_eq_none (by omega)
    simp only [this]
theorem zABO (B:IB) {σ:Nat→Value} {W:World} (h:VB σ B W):HRel (qKZ B) (memB B):=by
 refine ⟨Nat.le_refl _,λi hi=>?_,λi t b hi=>?_⟩
 ·rw [qQX] at hi
  cases i with
  | zero=>exact absurd rfl hi
  | succ i=>
    simp only at hi
    cases e:B[i]? with
    | none=>rw [e] at hi;exact absurd rfl hi
    | some x=>have:=(List.getElem?_eq_some_iff.1 e).1;show i+1 < B.length+1;omega
 ·cases i with
  | zero=>cases hi
  | succ i=>
    unfold qKZ at hi
    simp only at hi
    cases e:B[i]? with
    | none=>rw [e] at hi;cases hi
    | some x=>
      rw [e] at hi
      cases hi
      obtain ⟨_,_,_,_,_,h4,_⟩:=h i x e
      have e2:(memB B).blks.get (i+1)=some (.cells x.2.1 (Tr.ofListAt .nil 0 x.2.2) x.2.2.length):=by rw [qQX];simp only [e]
      exact ⟨by simp,_,e2,rfl,rfl,h4,λj hj=>qH2 _ _ hj⟩
theorem zACc (B:IB) {σ:Nat→Value} {W:World} (h:VB σ B W):WR σ (rhoB B) W.heap.size (memB B) W:=by
 have key:∀ id b,(memB B).blks.get id=some b→∃ i x,id=i+1∧B[i]?=some x∧b=.cells x.2.1 (Tr.ofListAt .nil 0 x.2.2) x.2.2.length:=by
  intro id b hb
  rw [qQX] at hb
  cases id with
  | zero=>cases hb
  | succ i=>
    simp only at hb
    cases e:B[i]? with
    | none=>rw [e] at hb;cases hb
    | some x=>rw [e] at hb;cases hb;exact ⟨i,x,rfl,e,rfl⟩
 have lo:∀ id b,(memB B).blks.get id=some b→¬ (memB B).lo≤id:=by
  intro id b hb
  obtain ⟨i,x,rfl,e,_⟩:=key id b hb
  have:=(List.getElem?_eq_some_iff.1 e).1
  show ¬ B.length+1≤i+1
  omega
 refine ⟨λid b hb=>?_,λid b L hb _ hl=>absurd hl (lo id b hb),λi j bi bj Li Lj hi _ _ _ hl _=>absurd hl (lo i bi hi),Nat.le_refl _⟩
 obtain ⟨i,x,rfl,e,rfl⟩:=key id b hb
 refine ⟨x.1,by unfold rhoB;simp [e],?_⟩
 obtain ⟨cc,fr,h1,h2,h3,_,h5⟩:=h i x e
 refine ⟨cc,fr,h1,λhl=>absurd hl (lo _ _ hb),h2,h3,λj v hj=>?_⟩
 have hlt:j < x.2.2.length:=by
  rcases Nat.lt_or_ge j x.2.2.length with h | h
  ·exact h
  ·rw [Tr.get_ofListAt,if_neg (by omega),Tr.get_nil] at hj;cases hj
 rw [qH2 _ _ hlt] at hj
 exact h5 j v hj
end Go.AM
namespace Go.AM
open Go Go.RowKit Go.ChangeShapes Go.WideShapes Go.ChangeAt
theorem qPo {σ:Nat→Value} {ρ:Ren} {base:Nat} {H:AH} {w w':World} (h:WR σ ρ base H w) (hb:Below w.heap.size w w'):WR σ ρ base H w':=by
 refine ⟨λid b hid=>?_,h.own,h.inj,Nat.le_trans h.base hb.size⟩
 obtain ⟨L,h1,h2⟩:=h.blk id b hid
 refine ⟨L,h1,?_⟩
 have hlt:=qK8 h hid h1
 rw [hb.block L.blk hlt];exact h2
theorem wC.mono {P:Program} {X:Td} {f:FuncId} {args:List AV} {K K':AV→Hq→Prop} {s:Hq} (h:wC P X f args K s) (hk:∀ v s',K v s'→K' v s'):wC P X f args K' s:=
 wpF.mono h λ_ s' ⟨v,e,hv⟩=>⟨v,e,hk v s' hv⟩
end Go.AM
namespace Go.AM
open Go
def qAU (fn:Func):Code:=match fn.body with
 | some c=>c
 | none=>.refuse ""
variable {α : Type} {K : α → Prop} {s s' : Hq}
@[simp] theorem qAA {a:α}:oK (some a) K=K a:=id rfl
theorem qAJ {o:Option α} {a:α} (h:o=some a) (hk:K a):oK o K:=by rw [h];exact hk
@[simp] theorem qAM {p q:Prop}:qAQ (.bool true) p q=p:=id rfl
@[simp] theorem qAE {p q:Prop}:qAQ (.bool false) p q=q:=id rfl
theorem qAK {b:Bool} {p q:Prop} (h1:b=true→p) (h2:b=false→q):qAQ (.bool b) p q:=by cases b;exact h2 rfl;exact h1 rfl
@[simp] theorem qAP {a b:AV}:qAT (.bool true) a b=some a:=id rfl
@[simp] theorem qAF {a b:AV}:qAT (.bool false) a b=some b:=id rfl
@[simp] theorem qIW {b o:Nat}:qBI (.ptr b o)=some (.ptr b o):=id rfl
@[simp] theorem qAD {b o k:Nat}:qAC k (.ptr b o)=some (.ptr b (o+k)):=id rfl
@[simp] theorem nat?_mk {k:IntKind} {n:Nat}:nat? (.int k (n:Int))=some n:=id rfl
@[simp] theorem qCU {k:IntKind}:qBH k k=true:=by cases k <;> rfl
@[simp] theorem qAW {k:IntKind} {x y:Int}:qAH .add (.int k x) (.int k y)=some (.int k (k.wrap (x+y))):=by simp [qAH,arith,qBu,qBQ]
@[simp] theorem qAw {k:IntKind} {x y:Int}:qAH .sub (.int k x) (.int k y)=some (.int k (k.wrap (x - y))):=by simp [qAH,arith,qBu,qBQ]
@[simp] theorem qKH {k:IntKind} {x y:Int}:qAH .mul (.int k x) (.int k y)=some (.int k (k.wrap (x * y))):=by simp [qAH,arith,qBu,qBQ]
theorem zAEV {k:IntKind} {x y:Int} (h:y≠0):qAH .quo (.int k x) (.int k y)=some (.int k (k.wrap (x.tdiv y))):=by
 have:(y == 0)=false:=by simpa using h
 simp [qAH,arith,qBu,qBQ,qDp,this]
theorem qRS {k:IntKind} {x y:Int} (h:y≠0):qAH .rem (.int k x) (.int k y)=some (.int k (x.tmod y)):=by
 have:(y == 0)=false:=by simpa using h
 simp [qAH,arith,qBu,qDp,this]
@[simp] theorem qAV {k:IntKind} {x y:Int}:qAH .lss (.int k x) (.int k y)=some (.bool (decide (x < y))):=by simp [qAH,arith,qHs]
@[simp] theorem qAr {k:IntKind} {x y:Int}:qAH .gtr (.int k x) (.int k y)=some (.bool (decide (y < x))):=by simp [qAH,arith,qHs]
@[simp] theorem qES {k:IntKind} {x y:Int}:qAH .leq (.int k x) (.int k y)=some (.bool (decide (x≤y))):=by
 simp only [qAH,arith,qHs,qCU,cond_true]
 by_cases h:x≤y
 ·simp [h,Int.not_lt.2 h]
 ·simp [h,Int.not_le.1 h]
@[simp] theorem qBA {k:IntKind} {x y:Int}:qAH .geq (.int k x) (.int k y)=some (.bool (decide (y≤x))):=by
 simp only [qAH,arith,qHs,qCU,cond_true]
 by_cases h:y≤x
 ·simp [h,Int.not_lt.2 h]
 ·simp [h,Int.not_le.1 h]
@[simp] theorem qAc {c:Bool} {k:IntKind} {x y:Int}:eqV 0 c (.int k x) (.int k y)=some (x == y):=by simp [eqV,qDp]
@[simp] theorem zAEn {c:Bool} {x y:Bool}:eqV 1 c (.bool x) (.bool y)=some (x == y):=id rfl
@[simp] theorem qAY {n b:Bool}:negB n (some b)=some (.bool (n != b)):=by cases n <;> cases b <;> rfl
@[simp] theorem qAX {b:Bool}:qAo .not (.bool b)=some (.bool !b):=id rfl
theorem qAI {b o:Nat} {t:Bool} {e:TypeId} {l:List AV} (h:s b=some (t,.cells e l)):rd1 s (.ptr b o)=l[o]?:=by simp [rd1,h]
theorem zADl {b o:Nat} {e:TypeId} {l:List AV} {v:AV} (h:s b=some (false,.cells e l)) (hl:o < l.length) (hv:v.one=true):wr1 s (.ptr b o) v=some (hset s b (false,.cells e (l.set o v))):=by
 have:Nat.blt o l.length=true:=by rw [Nat.blt_eq];exact hl
 simp [wr1,h,hv,this]
@[simp] theorem zAE3 {k:IntKind} {n:Int}:(AV.int k n).one=true:=id rfl
@[simp] theorem zAEo {b:Bool}:(AV.bool b).one=true:=id rfl
@[simp] theorem qIK {l:List AV}:(AV.agg l).cells=l:=id rfl
@[simp] theorem zADG:qAg []=true:=id rfl
@[simp] theorem zACH {v:AV} {l:List AV}:qAg (v :: l)=(v.one&&qAg l):=id rfl
theorem qAk {n:Int} (h1:-9223372036854775808≤n) (h2:n≤9223372036854775807):IntKind.i64.wrap n=n:=by
 rw [← qBQ]
 simp only [qBK]
 rw [qI0 _ _ _ (by omega) (by omega)]
 split <;> omega
def qBy (fp:Nat→Prop) (s s':Hq):Prop:=∀ b e,s b=some e→¬ fp b→s' b=some e
theorem qBy.refl (fp:Nat→Prop) (s:Hq):qBy fp s s:=λ_ _ h _=>h
theorem qBy.trans {fp:Nat→Prop} {a b c:Hq} (h:qBy fp a b) (k:qBy fp b c):qBy fp a c:=λi e hi hf=>k i e (h i e hi hf) hf
theorem qBy.mono {fp fp':Nat→Prop} {a b:Hq} (h:qBy fp a b) (hf:∀ i,fp i→fp' i):qBy fp' a b:=λi e hi hn=>h i e hi λk=>hn (hf i k)
theorem Sub.keep {fp:Nat→Prop} {a b:Hq} (h:Sub a b):qBy fp a b:=λi e hi _=>h i e hi
theorem Sub.refl (s:Hq):Sub s s:=λ_ _ h=>h
theorem Sub.trans {a b c:Hq} (h:Sub a b) (k:Sub b c):Sub a c:=λi e hi=>k i e (h i e hi)
theorem qNz {b:Nat} {e:Bool × Blk} (h:s b=none):Sub s (hset s b e):=λi x hi=>by
 unfold hset
 have:i≠b:=λq=>by rw [q,h] at hi;cases hi
 rw [if_neg this];exact hi
@[simp] theorem qCX {b:Nat} {e:Bool × Blk}:hset s b e b=some e:=if_pos rfl
theorem qBd {b i:Nat} {e:Bool × Blk} (h:i≠b):hset s b e i=s i:=if_neg h
theorem qIq {b i:Nat} {e:Bool × Blk} (hb:s b=none) (hi:s i=some e):i≠b:=λq=>by rw [q,hb] at hi;cases hi
theorem qQq {s t:Hq} {b:Nat} {e:Bool × Blk} (h:s b=some e) (ht:t b=some e):cutH [(s,t)] t b=some e:=by
 show (if s b=none∧t b≠none then none else t b)=_
 rw [if_neg (by rw [h];simp)];exact ht
theorem qM9 {s:Hq}:add s (frz s)=s:=by
 funext b
 unfold add frz
 cases s b <;> rfl
theorem qGQ {s t:Hq}:Sub s (add s t):=λi e hi=>qAz hi
theorem qWM {P:Program} {X:Td} {k:FuncId} {first cap args:List AV} {K:AV→Hq→Prop} {s:Hq} (hk:isFn P k=true) (h:wC P X k (first ++ args ++ cap) K s):funK P X (.fn (.func k) first cap) args K s:=⟨hk,h⟩
theorem qXi {b:Nat} {e:TypeId} {l cs:List AV} {n:Nat} {s:Hq} (h:s b=some (false,.cells e l)) (hl:cs.length=l.length) (hn:l.length=n) (ho:qAg cs=true):qBY s n (.ptr b 0) (.agg cs)=some (hset s b (false,.cells e cs)):=by
 have e1:Nat.beq cs.length n=true:=by rw [hl,hn];exact Nat.beq_refl _
 have e2:Nat.ble (0+cs.length) l.length=true:=Nat.ble_eq_true_of_le (by omega)
 have e3:qBZ l 0 cs=cs:=by unfold qBZ;rw [List.drop_eq_nil_of_le (by omega)];simp
 simp only [qBY,qIK,e1,cond_true,wrN,h,e2,ho,Bool.and_self,e3]
theorem qAa {b:Nat} {t:Bool} {e:TypeId} {l:List AV} {n:Nat} {s:Hq} (h:s b=some (t,.cells e l)) (hn:l.length=n):rdN s n (.ptr b 0)=some l:=by
 have e1:Nat.ble (0+n) l.length=true:=Nat.ble_eq_true_of_le (by omega)
 simp only [rdN,h,qIi,e1,cond_true,List.drop_zero]
 rw [List.take_of_length_le (by omega)]
theorem qZp {elem:TypeId} {v:AV} {K:AV→Hq→Prop} {s:Hq} (hv:v.one=true) (h:∀ b,s b=none→K (.ptr b 0) (hset s b (false,.cells elem [v]))):boxK elem v K s:=by
 unfold boxK
 rw [qIM hv]
 exact ⟨by simp [hv],h⟩
def Upto (b:Nat) (s s':Hq):Prop:=∀ i,i≠b→s' i=s i
theorem Upto.keep {fp:Nat→Prop} {b:Nat} {s s':Hq} (h:Upto b s s') (hb:fp b):qBy fp s s':=λi e hi hn=>by
 rw [h i λq=>hn (q ▸ hb)];exact hi
theorem Upto.sub {b:Nat} {s s':Hq} (h:Upto b s s') (hb:s b=none):Sub s s':=λi e hi=>by
 rw [h i (qIq hb hi)];exact hi
theorem Upto.at {b i:Nat} {s s':Hq} {e:Bool × Blk} (h:Upto b s s') (hi:s i=some e) (hb:s b=none):s' i=some e:=h.sub hb i e hi
theorem qAO {elem:TypeId} {cs:List AV} {K:Nat→Hq→Prop} {s:Hq} (h:∀ b s',s b=none→s' b=some (false,.cells elem cs)→Upto b s s'→K b s'):newK elem cs K s:=
 λb hb=>h b _ hb qCX λ_ hi=>qBd hi
theorem qCo {b o:Nat} {e:TypeId} {l:List AV} {v:AV} {K:Hq→Prop} {s:Hq} (h:s b=some (false,.cells e l)) (ho:o < l.length) (hv:v.one=true) (hk:∀ s',s' b=some (false,.cells e (l.set o v))→Upto b s s'→K s'):oK (wr1 s (.ptr b o) v) K:=
 qAJ (zADl h ho hv) (hk _ qCX λ_ hi=>qBd hi)
theorem qAd {b:Nat} {e:TypeId} {l cs:List AV} {n:Nat} {K:Hq→Prop} {s:Hq} (h:s b=some (false,.cells e l)) (hl:cs.length=l.length) (hn:l.length=n) (ho:qAg cs=true) (hk:∀ s',s' b=some (false,.cells e cs)→Upto b s s'→K s'):oK (qBY s n (.ptr b 0) (.agg cs)) K:=
 qAJ (qXi h hl hn ho) (hk _ qCX λ_ hi=>qBd hi)
theorem qP8 {elem:TypeId} {v:AV} {K:AV→Hq→Prop} {s:Hq} (hv:v.one=true) (h:∀ b s',s b=none→s' b=some (false,.cells elem [v])→Upto b s s'→K (.ptr b 0) s'):boxK elem v K s:=
 qZp hv λb hb=>h b _ hb qCX λ_ hi=>qBd hi
end Go.AM
namespace Go.AM
open Go
def Sl (s:Hq) (v:AV) (l:List AV):Prop:=(v=.nilslc∧l=[])∨∃ b o cap,v=.slc b o l.length cap 1∧(∀ c,cap=some c→l.length≤c)∧
 (l≠[]→∃ t e cs,s b=some (t,.cells e cs)∧o+l.length≤cs.length∧∀ i,i < l.length→cs[o+i]?=l[i]?)
variable {s s' : Hq} {v : AV} {l : List AV}
theorem Sl.len (h:Sl s v l):qAR v=some l.length:=by
 rcases h with ⟨rfl,rfl⟩ | ⟨b,o,cap,rfl,_⟩
 ·rfl
 ·rfl
theorem Sl.get (h:Sl s v l) {i:Nat} (hi:i < l.length):∃ p,qAZ 1 v (.int .i64 (i:Int))=some p∧rd1 s p=l[i]?:=by
 rcases h with ⟨rfl,rfl⟩ | ⟨b,o,cap,rfl,_,h⟩
 ·simp at hi
 ·obtain ⟨t,e,cs,h1,h2,h3⟩:=h (by rintro rfl;simp at hi)
  refine ⟨.ptr b (o+i),?_,by rw [qAI h1,h3 i hi]⟩
  have:Nat.blt i l.length=true:=by rw [Nat.blt_eq];exact hi
  simp [qAZ,this]
theorem Sl.rd (h:Sl s v l):rdSl s 1 v=some l:=by
 rcases h with ⟨rfl,rfl⟩ | ⟨b,o,cap,rfl,_,h⟩
 ·rfl
 ·cases l with
  | nil=>rfl
  | cons x r=>
    obtain ⟨t,e,cs,h1,h2,h3⟩:=h (by simp)
    have e1:Nat.beq ((x :: r).length * 1) 0=false:=rfl
    have e2:Nat.ble (o+(x :: r).length * 1) cs.length=true:=Nat.ble_eq_true_of_le (by omega)
    simp only [rdSl,Nat.beq_refl,cond_true,e1,cond_false,h1,qIi,e2]
    congr 1
    apply List.ext_getElem?
    intro i
    rw [List.getElem?_take]
    split
    ·rename_i hi
     rw [List.getElem?_drop,h3 i (by omega)]
    ·rw [List.getElem?_eq_none (by omega)]
theorem Sl.sub (h:Sl s v l) (hs:Sub s s'):Sl s' v l:=by
 rcases h with h | ⟨b,o,cap,h1,h2,h3⟩
 ·exact .inl h
 ·refine .inr ⟨b,o,cap,h1,h2,λhl=>?_⟩
  obtain ⟨t,e,cs,q1,q2⟩:=h3 hl
  exact ⟨t,e,cs,hs _ _ q1,q2⟩
theorem Sl.keep {fp:Nat→Prop} (h:Sl s v l) (hs:qBy fp s s') (hn:∀ b o n c,v=.slc b o n c 1→l≠[]→¬ fp b):Sl s' v l:=by
 rcases h with h | ⟨b,o,cap,h1,h2,h3⟩
 ·exact .inl h
 ·refine .inr ⟨b,o,cap,h1,h2,λhl=>?_⟩
  obtain ⟨t,e,cs,q1,q2⟩:=h3 hl
  exact ⟨t,e,cs,hs _ _ q1 (hn b o _ cap h1 hl),q2⟩
theorem Sl.mk {b:Nat} {t:Bool} {e:TypeId} {n:Nat} {cap:Option Nat} (h:s b=some (t,.cells e l)) (hn:n=l.length) (hc:∀ c,cap=some c→l.length≤c):Sl s (.slc b 0 n cap 1) l:=by
 subst hn
 exact .inr ⟨b,0,cap,rfl,hc,λ_=>⟨t,e,l,h,by omega,λi _=>by rw [Nat.zero_add]⟩⟩
def Acc (elem:TypeId) (s0 s:Hq) (v:AV) (l:List AV):Prop:=(v=.nilslc∧l=[])∨∃ b,s0 b=none∧v=.slc b 0 l.length none 1∧s b=some (false,.cells elem l)
theorem Acc.sl {elem:TypeId} {s0:Hq} (h:Acc elem s0 s v l):Sl s v l:=by
 rcases h with h | ⟨b,_,rfl,h⟩
 ·exact .inl h
 ·exact Sl.mk h rfl (by simp)
theorem Acc.app {elem:TypeId} {s0:Hq} {y:AV} {m:List AV} {K:AV→Hq→Prop} (h:Acc elem s0 s v l) (hy:Sl s y m) (hm:m≠[]) (hl:l.length+m.length≤16777216) (hdom:∀ i,s0 i≠none→s i≠none)
  (hK:∀ v' s',Acc elem s0 s' v' (l ++ m)→(∀ i e,s i=some e→(∀ b,v=.slc b 0 l.length none 1→i≠b)→s' i=some e)→K v' s'):appK elem 1 v y K s:=by
 obtain ⟨k,hk⟩:∃ k,m.length=k+1:=by cases m with | nil=>exact absurd rfl hm | cons a r=>exact ⟨r.length,rfl⟩
 refine qAJ hy.rd (qAJ hy.len ?_)
 rcases h with ⟨rfl,rfl⟩ | ⟨b,hb0,rfl,hb⟩
 ·simp only
  rw [hk]
  refine ⟨by simp at hl;omega,qAO λc s1 hc h1 u1=>hK _ _ (.inr ⟨c,?_,?_,by simpa using h1⟩) λi e hi _=>u1.at hi hc⟩
  ·cases q:s0 c with
   | none=>rfl
   | some x=>exact absurd hc (hdom c (by rw [q];simp))
  ·simp [hk]
 ·refine ⟨rfl,?_⟩
  simp only
  rw [hk]
  simp only
  refine qAJ (Sl.rd (Sl.mk (l:=l) hb rfl (by simp))) ?_
  unfold qWi
  rw [hb]
  refine ⟨rfl,by omega,qAO λc s1 hc h1 u1=>hK _ _ (.inr ⟨c,?_,by simp [hk],h1⟩) λi e hi hib=>?_⟩
  ·by_cases e:c=b
   ·rw [e];exact hb0
   ·have hc':s c=none:=by rw [← hc];exact (if_neg e).symm
    cases q:s0 c with
    | none=>rfl
    | some x=>exact absurd hc' (hdom c (by rw [q];simp))
  ·have hne:=hib b rfl
   have:hdel s b i=some e:=by rw [← hi];exact if_neg hne
   exact u1.at this hc
theorem qRy {elem:TypeId} {z v:AV} {K:Nat→Hq→Prop} (hz:z.one=true) (hv:v.one=true) (hK:∀ b s',s b=none→s' b=some (false,.cells elem [v])→Upto b s s'→K b s') :
  oK (qCA (repl 1 [z]) [(0,1,v)]) λc=>qAg c=true∧newK elem c K s:=by
 refine qAJ (a:=[v]) ?_ ⟨by simp [hv],qAO hK⟩
 show cond (Nat.beq v.cells.length 1&&Nat.ble (0+v.cells.length) 1) (qCA (qBZ [z] 0 v.cells) []) none=_
 rw [qIM hv]
 rfl
theorem qUX (z:AV):∀ n,repl n [z]=List.replicate n z
 | 0=>rfl
 | n+1=>by rw [repl,qUX z n];rfl
end Go.AM
namespace Go.AM
open Go
section
variable {P : Program} {s : Hq} {d : Nat} {t e : TypeId} {v : AV}
theorem qYu {k:IntKind} (hu:P.underlying t=some (.int k)) (h:Arg P s (d+1) t v):∃ n,v=.int k n∧(Lit.int k n).wf=true:=by
 obtain ⟨h1,_,h3⟩:=h
 have:qBE P t≠some true:=by unfold qBE;rw [hu];simp
 rw [h3 this] at h1
 unfold Inp at h1
 simp only [hu] at h1
 obtain ⟨n,e,hn⟩:=h1
 exact ⟨n,by simpa using e,hn⟩
theorem qZB (hu:P.underlying t=some (.slice e)) (hc:P.cellsOf e=1) {A:Type} (f:A→AV) (Q:A→Prop) (he:∀ xs,Inp P s d e xs→∃ a,xs=[f a]∧Q a) {xs:List AV} (h:Inp P s (d+1) t xs):∃ v,xs=[v]∧∃ l:List A,Sl s v (l.map f)∧(∀ a∈l,Q a)∧l.length≤maxLen:=by
 unfold Inp at h
 simp only [hu] at h
 rcases h with rfl | ⟨b,len,cap,rfl,h1,h2,h3⟩
 ·exact ⟨_,rfl,[],.inl ⟨rfl,rfl⟩,by simp,by simp⟩
 ·refine ⟨_,rfl,?_⟩
  rw [hc] at h3 ⊢
  by_cases hz:cap=0
  ·subst hz
   have:len=0:=by omega
   subst this
   exact ⟨[],.inr ⟨b,0,some 0,rfl,by simp,by simp⟩,by simp,by simp⟩
  ·obtain ⟨el,l,g1,g2,g3⟩:=h3 (by omega)
   simp only [Nat.mul_one] at g2 g3
   have each:∀ i,i < cap→∃ a,l[i]?=some (f a)∧Q a:=by
    intro i hi
    obtain ⟨a,q1,q2⟩:=he _ (g3 i hi)
    refine ⟨a,?_,q2⟩
    have:=congrArg (λr:List AV=>r[0]?) q1
    simpa [List.getElem?_take,List.getElem?_drop] using this
   have mk:∀ n,n≤cap→∃ r:List A,r.length=n∧(∀ i,i < n→l[i]?=(r.map f)[i]?)∧∀ a∈r,Q a:=by
    intro n
    induction n with
    | zero=>exact λ_=>⟨[],rfl,by simp,by simp⟩
    | succ n ih=>
      intro hn
      obtain ⟨r,r1,r2,r3⟩:=ih (by omega)
      obtain ⟨a,a1,a2⟩:=each n (by omega)
      refine ⟨r ++ [a],by simp [r1],λi hi=>?_,λb hb=>?_⟩
      ·by_cases e:i=n
       ·subst e;rw [a1];simp [← r1]
       ·rw [r2 i (by omega)];simp [List.getElem?_append,r1,show i < n by omega]
      ·rcases List.mem_append.1 hb with hb | hb
       ·exact r3 b hb
       ·rw [List.mem_singleton.1 hb];exact a2
   obtain ⟨r,r1,r2,r3⟩:=mk len h1
   refine ⟨r,.inr ⟨b,0,some cap,by simp [r1],by simp [r1];exact h1,λ_=>⟨true,el,l,g1,by simp [r1];omega,λi hi=>?_⟩⟩,r3,by omega⟩
   rw [Nat.zero_add]
   exact r2 i (by simpa [r1] using hi)
theorem qQ6 (hu:P.underlying t=some (.slice e)) (hc:P.cellsOf e=1) {A:Type} (f:A→AV) (Q:A→Prop) (he:∀ xs,Inp P s d e xs→∃ a,xs=[f a]∧Q a) (h:Arg P s (d+1) t v):∃ l:List A,Sl s v (l.map f)∧(∀ a∈l,Q a)∧l.length≤maxLen:=by
 obtain ⟨h1,_,h3⟩:=h
 have:qBE P t≠some true:=by unfold qBE;rw [hu];simp
 rw [h3 this] at h1
 obtain ⟨v',e1,h4⟩:=qZB hu hc f Q he h1
 cases e1
 exact h4
theorem qZF {k:IntKind} (hu:P.underlying t=some (.int k)) {xs:List AV} (h:Inp P s (d+1) t xs):∃ n,xs=[.int k n]∧(Lit.int k n).wf=true:=by
 unfold Inp at h
 simp only [hu] at h
 exact h
end
end Go.AM
namespace Go.AM
open Go Go.RowKit Go.ChangeShapes Go.WideShapes Go.ChangeAt
section
variable {H : Type} {enc : TypeId × Value → H} {P : Program} {W : World}
theorem qG8 {s:Hq} {d:Nat} {t:TypeId} {xs:List AV} (ha:qBE P t=some true) (h:Inp P s d t xs):xs.length=P.cellsOf t:=by
 cases d with
 | zero=>exact h.elim
 | succ d=>
   unfold Inp at h
   unfold qBE at ha
   split at h <;> first | exact h.elim | exact h.1 | (rename_i hu;rw [hu] at ha;cases ha)
end
end Go.AM
namespace Go.AM
open Go Go.RowKit Go.ChangeShapes Go.WideShapes Go.ChangeAt
def orX (X Y:Td):Td:=λf=>match X f with
 | some g=>some g
 | none=>Y f
theorem orX_ok {P:Program} {X Y:Td} (hX:ExtOK P X) (hY:ExtOK P Y):ExtOK P (orX X Y):=by
 refine ⟨λf g args h=>?_,λf g h=>?_⟩
 ·unfold orX at h
  cases hx:X f with
  | some g'=>rw [hx] at h;cases h;exact hX.1 f _ args hx
  | none=>rw [hx] at h;exact hY.1 f g args h
 ·unfold orX at h
  cases hx:X f with
  | some g'=>rw [hx] at h;cases h;exact hX.2 f _ hx
  | none=>rw [hx] at h;exact hY.2 f g h
end Go.AM
namespace Go.AM
open Go
variable {P : Program} {X : Td}
structure Cov (K H:AH):Prop where
 next:H.next=K.next
 lo:H.lo≤K.lo
 sub:∀ i b,K.blks.get i=some b→H.blks.get i=some b
 top:∀ i,H.next≤i→H.blks.get i=none
theorem Fr.cov {α:Type} {m:M α} (hf:Fr m) {K K1 H:AH} {a:α} (h:m K=some (a,K1)) (c:Cov K H):∃ H1,m H=some (a,H1)∧Cov K1 H1:=by
 obtain ⟨es,d,q⟩:=hf K a K1 h
 obtain ⟨H1,e,d2,n,ag⟩:=q H c.next c.lo (λid b hm=>by
  cases hk:K.blks.get id with
  | some x=>exact c.sub id x hk
  | none=>
    rcases d.touch id b hm with h1 | ⟨h1,_⟩
    ·exact absurd hk h1
    ·exact c.top id (by rw [c.next];exact h1))
 refine ⟨H1,e,n,by rw [d2.lo,d.lo];exact c.lo,λi b hi=>?_,λi hi=>?_⟩
 ·by_cases hm:(i,true)∈es
  ·rw [ag i true hm];exact hi
  ·rw [d2.same i hm]
   rw [d.same i hm] at hi
   exact c.sub i b hi
 ·cases hk:H1.blks.get i with
  | none=>rfl
  | some x=>
    have n1:=d2.next
    rcases d2.gone i (by rw [hk];simp) with h1 | ⟨_,h2⟩
    ·exact absurd (c.top i (by omega)) h1
    ·omega
def eqT:Tmps→Tmps→Bool
 | .nil,.nil=>true
 | .node v l r,.node v' l' r'=>(match v,v' with | none,none=>true | some a,some b=>eqA a b | _,_=>false)&&(eqT l l'&&eqT r r')
 | _,_=>false
theorem qU2:∀ {a b:Tmps},eqT a b=true→a=b
 | .nil,.nil,_=>rfl
 | .nil,.node _ _ _,h=>by cases h
 | .node _ _ _,.nil,h=>by cases h
 | .node v l r,.node v' l' r',h=>by
   unfold eqT at h
   obtain ⟨h1,h2⟩:=Bool.and_eq_true_iff.1 h
   obtain ⟨h2,h3⟩:=Bool.and_eq_true_iff.1 h2
   rw [qU2 h2,qU2 h3]
   cases v <;> cases v' <;> first | rfl | (cases h1;done) | (simp only at h1;rw [qNK h1])
def eqB:ABlk→ABlk→Bool
 | .cells e c n,.cells e' c' n'=>Nat.beq e e'&&(eqT c c'&&Nat.beq n n')
 | .map es k,.map es' k'=>eqEs es es'&&Nat.beq k k'
 | .one v,.one v'=>eqA v v'
 | .deferred a,.deferred b=>a == b
 | _,_=>false
theorem zADP {a b:ABlk} (h:eqB a b=true):a=b:=by
 unfold eqB at h
 split at h
 ·simp only [Bool.and_eq_true] at h
  rw [Nat.eq_of_beq_eq_true h.1,qU2 h.2.1,Nat.eq_of_beq_eq_true h.2.2]
 ·simp only [Bool.and_eq_true] at h
  rw [qUV h.1,Nat.eq_of_beq_eq_true h.2]
 ·rw [qNK h]
 ·rw [eq_of_beq h]
 ·cases h
noncomputable def mkB (l:List (Nat × ABlk)):Tr ABlk:=List.rec (motive:=λ_=>Tr ABlk) .nil (λp _ ih=>ih.putR p.1 (some p.2)) l
noncomputable def mkK (l:List (Nat × ABlk)) (n:Nat):AH:={ blks:=mkB l,next:=n,lo:=0,log:=[] }
theorem qX0:∀ {l:List (Nat × ABlk)} {i:Nat} {b:ABlk},(mkB l).get i=some b→(i,b)∈l
 | [],i,b,h=>by
   have:(Tr.nil:Tr ABlk).get i=some b:=h
   rw [Tr.get_nil] at this;cases this
 | (j,c) :: l,i,b,h=>by
   have:((mkB l).putR j (some c)).get i=some b:=h
   rw [Tr.putR_eq,Tr.get_put] at this
   split at this
   ·rename_i e;cases this;subst e;exact List.mem_cons_self ..
   ·exact List.mem_cons_of_mem _ (qX0 this)
noncomputable def subB (l:List (Nat × ABlk)) (t:Tr ABlk):Bool:=List.rec (motive:=λ_=>Bool) true (λp _ ih=>match t.getR p.1 with
 | some b=>eqB b p.2&&ih
 | none=>false) l
theorem qUm {t:Tr ABlk}:∀ {l:List (Nat × ABlk)},subB l t=true→∀ p∈l,t.get p.1=some p.2
 | [],_,_,h=>by cases h
 | q :: l,h,p,hp=>by
   have h:(match t.getR q.1 with | some b=>eqB b q.2&&subB l t | none=>false)=true:=h
   rw [Tr.getR_eq] at h
   cases e:t.get q.1 with
   | none=>simp only [e] at h;cases h
   | some b=>
     simp only [e] at h
     obtain ⟨h1,h2⟩:=Bool.and_eq_true_iff.1 h
     rcases List.mem_cons.1 hp with rfl | hp
     ·rw [e,zADP h1]
     ·exact qUm h2 p hp
def qGl:Nat→Code→List Code × Code
 | k+1,.seq a b=>(a :: (qGl k b).1,(qGl k b).2)
 | _,c=>([],c)
noncomputable def runL (P:Program) (X:Td) (n nt:Nat):List Code→Tmps→M Tmps
 | [],T=>ret T
 | c :: cs,T=>bd (runR P X n (.code nt none c T [])) λo=>match o with
   | .exit .nrm T []=>runL P X n nt cs T
   | _=>fail
def epi (P:Program) (X:Td) (n:Nat) (fn:Func) (o:Out):M Out:=match o with
 | .exit e T ms=>match e with
   | .exit _=>fail
   | _=>bd (qAx P (run P X n) ms) λ_=>bd (qBB P T fn.results.toList) λvs=>ret (.val (oneV vs))
 | _=>fail
def endF (P:Program) (X:Td) (fn:Func) (n:Nat) (c:Code) (T:Tmps):M Out:=bd (run P X n (.code fn.ntmps none c T [])) (epi P X n fn)
theorem qXz (hX:FrX X) (n nt:Nat):∀ (cs:List Code) (T:Tmps),Fr (runL P X n nt cs T)
 | [],_=>qAl _
 | c :: cs,T=>qA3 (by rw [qQv];exact qEr P hX n _) λo=>by
   split
   ·exact qXz hX n nt cs _
   ·exact qAe
theorem qSG (fn:Func) (c:Code) (T:Tmps):Mono λn=>endF P X fn n c T:=qBF λn=>LeM.bd (qB3 n _) λo=>by
 unfold epi
 split
 ·split
  ·exact LeM.refl _
  ·exact LeM.bd (qCB (qB3 n) _) λ_=>LeM.refl _
 ·exact LeM.refl _
def Good (P:Program) (X:Td) (fn:Func) (c:Code) (T:Tmps) (K:AH):Prop:=∀ H,Cov K H→∃ n H1,endF P X fn n c T H=some (.val (.bool true),H1)
theorem zAAZ {fn:Func} {n:Nat} {r:Out × AH} {T1:Tmps} {H1:AH}:∀ (k:Nat) (c:Code) (T:Tmps) (H:AH),runL P X n fn.ntmps (qGl k c).1 T H=some (T1,H1)→(∃ n2,endF P X fn n2 (qGl k c).2 T1 H1=some r)→∃ n3,endF P X fn n3 c T H=some r:=by
 intro k
 induction k with
 | zero=>
   intro c T H h he
   have e:qGl 0 c=([],c):=by unfold qGl;rfl
   rw [e] at h he
   cases h
   exact he
 | succ k ih=>
   intro c T H h he
   by_cases hs:∃ a b,c=.seq a b
   ·obtain ⟨a,b,rfl⟩:=hs
    have e:qGl (k+1) (.seq a b)=(a :: (qGl k b).1,(qGl k b).2):=by rw [qGl]
    rw [e] at h he
    obtain ⟨o,Ha,h1,h2⟩:=qAN (H:=H) h
    rw [qQv] at h1
    split at h2
    ·rename_i Ta
     obtain ⟨n3,h3⟩:=ih b Ta Ha h2 he
     have m1:=qCb (P:=P) (X:=X) (.code fn.ntmps none a T []) n (max n n3) H _ (Nat.le_max_left _ _) h1
     have m2:=qSG (P:=P) (X:=X) fn b Ta n3 (max n n3) Ha _ (Nat.le_max_right _ _) h3
     have m3:=qSG (P:=P) (X:=X) fn b Ta n3 (max n n3+1) Ha _ (by omega) h3
     refine ⟨max n n3+1,?_⟩
     obtain ⟨o2,Hb,m4,m5⟩:=qAN (H:=Ha) m2
     have m6:run P X (max n n3+1) (.code fn.ntmps none (.seq a b) T []) H=some (o2,Hb):=by
      show bd (run P X (max n n3) (.code fn.ntmps none a T [])) (λo=>match o with
       | .exit .nrm T ms=>run P X (max n n3) (.code fn.ntmps none b T ms)
       | o=>ret o) H=_
      unfold bd
      simp only at m1
      rw [m1]
      exact m4
     have m7:epi P X (max n n3+1) fn o2 Hb=some r:=by
      obtain ⟨o3,Hc,m8,m9⟩:=qAN (H:=Ha) m3
      have:=qCb (P:=P) (X:=X) (.code fn.ntmps none b Ta []) (max n n3) (max n n3+1) Ha _ (by omega) m4
      simp only at this
      rw [m8] at this
      cases this
      exact m9
     show bd (run P X (max n n3+1) (.code fn.ntmps none (.seq a b) T [])) (epi P X (max n n3+1) fn) H=some r
     unfold bd
     rw [m6]
     exact m7
    ·exact (qAB h2).elim
   ·have e:qGl (k+1) c=([],c):=by
     cases c <;> first | (exact absurd ⟨_,_,rfl⟩ hs) | rfl
    rw [e] at h he
    cases h
    exact he
noncomputable def chk (P:Program) (X:Td) (n nt:Nat) (cs:List Code) (T:Tmps) (K:AH) (T2:Tmps) (l:List (Nat × ABlk)) (nx:Nat):Bool:=match runL P X n nt cs T K with
 | some (T1,K1)=>eqT T1 T2&&(Nat.beq K1.next nx&&(Nat.beq K1.lo 0&&subB l K1.blks))
 | none=>false
theorem Good.cut (hX:FrX X) {fn:Func} {c:Code} {T T2:Tmps} {K:AH} {l:List (Nat × ABlk)} {nx n k:Nat} (h:chk P X n fn.ntmps (qGl k c).1 T K T2 l nx=true) (g:Good P X fn (qGl k c).2 T2 (mkK l nx)):Good P X fn c T K:=by
 intro H hc
 unfold chk at h
 split at h
 ·rename_i T1 K1 e
  simp only [Bool.and_eq_true] at h
  obtain ⟨h1,h2,h3,h4⟩:=h
  have h1:=qU2 h1
  subst h1
  obtain ⟨H1,e1,c1⟩:=(qXz hX n fn.ntmps _ T).cov e hc
  have c2:Cov (mkK l nx) H1:=⟨by rw [c1.next];exact Nat.eq_of_beq_eq_true h2,by
   have:=c1.lo;rw [Nat.eq_of_beq_eq_true h3] at this;exact this,λi b hi=>c1.sub i b (qUm h4 (i,b) (qX0 hi)),c1.top⟩
  obtain ⟨n2,H2,e2⟩:=g H1 c2
  obtain ⟨n3,e3⟩:=zAAZ k c T H e1 ⟨n2,e2⟩
  exact ⟨n3,H2,e3⟩
 ·cases h
end Go.AM
namespace Go.AM
open Go Go.RowKit Go.ChangeShapes Go.WideShapes Go.ChangeAt
def qJA:AV→Value
 | .bool b=>.bool b
 | .int k n=>.int k n
 | _=>.bool false
def plainC:List AV→Bool
 | []=>true
 | .bool _ :: l=>plainC l
 | .int _ _ :: l=>plainC l
 | _=>false
theorem qK0 {σ:Nat→Value} {ρ:Ren}:∀ {l:List AV},plainC l=true→RelL σ ρ l (l.map qJA)∧∀ x∈l.map qJA,x.oneCell'=true
 | [],_=>⟨.nil,by simp⟩
 | x :: l,h=>by
   cases x <;> first | (cases h;done) | skip
   all_goals
    obtain ⟨h1,h2⟩:=qK0 (σ:=σ) (ρ:=ρ) (l:=l) h
    refine ⟨.cons (by unfold Rel;rfl) h1,λy hy=>?_⟩
    rw [List.map_cons] at hy
    rcases List.mem_cons.1 hy with rfl | hy
    ·rfl
    ·exact h2 y hy
def gHeap (g:Nat) (v:AV):AH:={ blks:=Tr.put .nil g (some (.glob g v)),next:=g+1,lo:=g+1,log:=[] }
def gRen (g:Nat):Ren:=λi=>if i=g then some ⟨g,0,0⟩ else none
theorem qMg {g:Nat} {v:AV} {i:Nat} {b:ABlk} (h:(gHeap g v).blks.get i=some b):i=g∧b=.glob g v:=by
 have:(Tr.put .nil g (some (.glob g v)):Tr ABlk).get i=some b:=h
 rw [Tr.get_put] at this
 split at this
 ·rename_i e;cases this;exact ⟨e.symm,rfl⟩
 ·rw [Tr.get_nil] at this;cases this
theorem zACL {σ:Nat→Value} {w:World} {g:Nat} {v:AV} {elem:TypeId} {fr:Nat × Nat} (hp:plainC v.cells=true) (hw:w.heap[g]?=some (.cells (v.cells.map qJA).toArray elem fr)):WR σ (gRen g) w.heap.size (gHeap g v) w:=by
 obtain ⟨h1,h2⟩:=qK0 (σ:=σ) (ρ:=gRen g) hp
 refine ⟨λi b h=>?_,λi b L h _ hl=>?_,λi j bi bj Li Lj h _ _ _ hl=>?_,Nat.le_refl _⟩
 ·obtain ⟨rfl,rfl⟩:=qMg h
  exact ⟨⟨i,0,0⟩,if_pos rfl,rfl,_,elem,fr,hw,h1,h2⟩
 ·obtain ⟨rfl,rfl⟩:=qMg h
  exact absurd hl (by show ¬ i+1≤i;omega)
 ·obtain ⟨rfl,rfl⟩:=qMg h
  exact absurd hl (by show ¬ i+1≤i;omega)
theorem qTA {P:Program} (hm:P.follows .mixedOrders=true) (hname:noNumB P=true) {X:Td} (hX:ExtOK P X) (n:Nat) {f:FuncId} (args:List AV) {g:Nat} {v:AV} (h:isTrue (runR P X n (.call f args) (gHeap g v))=true) (hp:plainC v.cells=true) (σ:Nat→Value) (hσ:One σ) (args':Array Value) (hr:RelL σ (λ_=>none) args args'.toList) (w:World)
  {elem:TypeId} {fr:Nat × Nat} (hw:w.heap[g]?=some (.cells (v.cells.map qJA).toArray elem fr)) :
  Calls P f args' w λe w'=>e=.returned (.bool true)∧Below w.heap.size w w':=by
 rw [qQv] at h
 obtain ⟨H',h⟩:=qS6 h
 refine (qLM hm (qQC hname) hX h σ hσ (gRen g) w (zACL hp hw) (λi h1 _=>if_neg (by have h1:g+1≤i:=h1;omega)) args' (RelL.mono (λ_ _ h=>by cases h) _ _ hr)).mono ?_
 rintro e w' ⟨v',ρ',rfl,hv,_,hb⟩
 unfold Rel at hv
 rw [hv]
 exact ⟨rfl,hb⟩
end Go.AM
namespace Go.AM
open Go Go.RowKit Go.ChangeShapes Go.WideShapes
def flats (f:DataW Unit→Option (List AV)) (c:Nat):List (DataW Unit)→Option (List AV)
 | []=>some []
 | d :: ds=>match f d,flats f c ds with
   | some l,some r=>cond (Nat.beq l.length c) (some (l ++ r)) none
   | _,_=>none
def qVR (P:Program) (f:TypeId→DataW Unit→Option (List AV)):Nat→List Field→List (DataW Unit)→Option (List AV)
 | _,[],[]=>some []
 | off,fd :: fs,d :: ds=>match f fd.type d,qVR P f (off+P.cellsOf fd.type) fs ds with
   | some l,some r=>cond (Nat.beq fd.offset off&&Nat.beq l.length (P.cellsOf fd.type)) (some (l ++ r)) none
   | _,_=>none
 | _,_,_=>none
def flatD (P:Program):Nat→TypeId→DataW Unit→Option (List AV)
 | 0,_,_=>none
 | n+1,t,d=>match P.underlying t,d with
   | some (.int k),.lit (.int k' x)=>cond (qBH k k') (some [.int k x]) none
   | some (.array len e),.agg ds=>match flats (flatD P n e) (P.cellsOf e) ds with
     | some l=>cond (Nat.beq ds.length len&&Nat.beq l.length (P.cellsOf t)) (some l) none
     | none=>none
   | some (.struct fs),.agg ds=>match qVR P (flatD P n) 0 fs.toList ds with
     | some l=>cond (Nat.beq l.length (P.cellsOf t)) (some l) none
     | none=>none
   | _,_=>none
theorem qLY {f:DataW Unit→Option (List AV)} {c:Nat}:∀ {ds:List (DataW Unit)} {l:List AV},flats f c ds=some l→l.length=ds.length * c
 | [],l,h=>by cases h;simp
 | d :: ds,l,h=>by
   unfold flats at h
   split at h
   ·rename_i l1 r h1 h2
    obtain ⟨hc,h⟩:=qAS h
    cases h
    have:=qLY h2
    rw [List.length_append,this,Nat.eq_of_beq_eq_true hc,List.length_cons,Nat.succ_mul];omega
   ·cases h
theorem qMl {f:DataW Unit→Option (List AV)} {c:Nat}:∀ {ds:List (DataW Unit)} {l:List AV} {cs:List Value},flats f c ds=some l→cs.length=ds.length * c→
  (∀ (i:Nat) (d:DataW Unit) (l0:List AV),ds[i]?=some d→f d=some l0→(cs.drop (i * c)).take c=l0.map qJA)→cs=l.map qJA
 | [],l,cs,h,hl,_=>by
   cases h
   have:cs=[]:=List.eq_nil_of_length_eq_zero (by simpa using hl)
   rw [this];rfl
 | d :: ds,l,cs,h,hl,hi=>by
   unfold flats at h
   split at h
   ·rename_i l1 r h1 h2
    obtain ⟨hc,h⟩:=qAS h
    cases h
    have e1:cs.take c=l1.map qJA:=by have:=hi 0 d l1 rfl h1;simpa using this
    have e2:cs.drop c=r.map qJA:=qMl h2 (by rw [List.length_drop,hl,List.length_cons,Nat.succ_mul];omega) λi d' l0 hd hf=>by
     have:=hi (i+1) d' l0 (by simpa using hd) hf
     rw [List.drop_drop]
     rw [Nat.succ_mul] at this
     rw [Nat.add_comm c]
     exact this
    rw [List.map_append,← e1,← e2,List.take_append_drop]
   ·cases h
theorem qLi {P:Program} {f:TypeId→DataW Unit→Option (List AV)}:∀ {fs:List Field} {ds:List (DataW Unit)} {off:Nat} {l:List AV} {cs:List Value},qVR P f off fs ds=some l→cs.length=off+l.length→
  (∀ (i:Nat) (fd:Field) (d:DataW Unit) (l0:List AV),fs[i]?=some fd→ds[i]?=some d→f fd.type d=some l0→(cs.drop fd.offset).take (P.cellsOf fd.type)=l0.map qJA)→cs.drop off=l.map qJA
 | [],[],off,l,cs,h,hl,_=>by
   cases h
   have:cs.length≤off:=by simpa using Nat.le_of_eq hl
   rw [List.drop_eq_nil_of_le this];rfl
 | [],_ :: _,_,_,_,h,_,_=>by cases h
 | _ :: _,[],_,_,_,h,_,_=>by cases h
 | fd :: fs,d :: ds,off,l,cs,h,hl,hi=>by
   unfold qVR at h
   split at h
   ·rename_i l1 r h1 h2
    obtain ⟨hc,h⟩:=qAS h
    cases h
    obtain ⟨c1,c2⟩:=Bool.and_eq_true_iff.1 hc
    have c1:=Nat.eq_of_beq_eq_true c1
    have c2:=Nat.eq_of_beq_eq_true c2
    have e1:=hi 0 fd d l1 rfl rfl h1
    rw [c1] at e1
    have e2:=qLi (cs:=cs) h2 (by rw [hl,List.length_append,c2];omega) λi fd' d' l0 a b c=>hi (i+1) fd' d' l0 (by simpa using a) (by simpa using b) c
    rw [List.map_append,← e1,← e2,← List.drop_drop,List.take_append_drop]
   ·cases h
theorem qOB {P:Program} {enc:TypeId × Value→Unit} {w:World} {base:Nat} {sp:Nat→Bool} {hd:Bool}:∀ (n:Nat) {t:TypeId} {d:DataW Unit} {l:List AV} {cs:List Value} {fuel:Nat} {p:List MemPlace},
  flatD P n t d=some l→DataW.trod enc P w base sp hd fuel t cs=some (d,p)→cs=l.map qJA
 | 0,_,_,_,_,_,_,h,_=>by cases h
 | n+1,t,d,l,cs,fuel,p,h,ht=>by
   unfold flatD at h
   generalize hu:P.underlying t=u at h
   split at h
   ·obtain ⟨hk,h'⟩:=qAS h
    clear h
    have:=qIU hk;subst this
    cases h'
    obtain ⟨x,e1,e2,_⟩:=DataW.trod_int hu ht
    cases e2
    rw [e1];rfl
   ·rename_i len e ds
    split at h
    ·rename_i l' h1
     obtain ⟨hc,h⟩:=qAS h
     cases h
     obtain ⟨c1,c2⟩:=Bool.and_eq_true_iff.1 hc
     have c1:=Nat.eq_of_beq_eq_true c1
     have c2:=Nat.eq_of_beq_eq_true c2
     obtain ⟨xs,m,_,e2,e3,e4,e5⟩:=DataW.trod_array hu ht
     have hds:ds=xs.map (·.1):=by have:=congrArg Prod.fst e2;injection this
     refine qMl h1 (by rw [e3,← c2,qLY h1]) λi d' l0 hd hf=>?_
     rw [hds,List.getElem?_map] at hd
     cases hx:xs[i]? with
     | none=>rw [hx] at hd;cases hd
     | some x=>
       rw [hx] at hd
       cases hd
       have hin:i < len:=by rw [← e4];exact (List.getElem?_eq_some_iff.1 hx).1
       have:=e5 i hin
       rw [hx] at this
       exact qOB n hf this
    ·cases h
   ·rename_i fs ds
    split at h
    ·rename_i l' h1
     obtain ⟨hc,h⟩:=qAS h
     cases h
     have c2:=Nat.eq_of_beq_eq_true hc
     obtain ⟨xs,m,_,e2,e3,e4,e5⟩:=DataW.trod_struct hu ht
     have hds:ds=xs.map (·.1):=by have:=congrArg Prod.fst e2;injection this
     have:=qLi (cs:=cs) h1 (by rw [e3,c2];omega) λi fd d' l0 hfd hd hf=>by
      rw [hds,List.getElem?_map] at hd
      cases hx:xs[i]? with
      | none=>rw [hx] at hd;cases hd
      | some x=>
        rw [hx] at hd
        cases hd
        have:=e5 i fd (by simpa using hfd)
        rw [hx] at this
        exact qOB n hf this
     simpa using this
    ·cases h
   ·cases h
theorem laid_block {P:Program} {W:World} {name:String} {d:DataW Unit} {g:Nat} {t:TypeId} {n:Nat} {l:List AV} (h:laidMet P [(name,d)] W) (hg:P.globalNamed name=some g) (ht:(P.globals[g]?).map (·.type)=some t) (hf:flatD P n t d=some l) :
  ∃ elem fr,W.heap[g]?=some (.cells (l.map qJA).toArray elem fr):=by
 obtain ⟨ps,⟨g1,t1,cs,fuel,p,q,hg1,ht1,hv,hd,_⟩,_⟩:=h
 rw [hg] at hg1;cases hg1
 rw [ht] at ht1;cases ht1
 have hcs:=qOB n hf hd
 simp only [World.var?,hg,Option.bind_some] at hv
 split at hv
 ·rename_i cs' elem fr hb
  cases hv
  exact ⟨elem,fr,by rw [hb,← hcs]⟩
 ·cases hv
end Go.AM
namespace Go.AM
open Go Go.RowKit Go.ChangeShapes Go.WideShapes Go.ChangeAt
section
variable {s s2 : Hq} {v : AV} {l : List AV}
theorem newM {l:List (Hq × Hq)} {elem:TypeId} {cs:List AV} {R:Nat→Hq→Prop} (h:∀ b s2,s b=none→add s s2 b=some (false,.cells elem cs)→Upto b s (add s s2)→R b s2) :
  newK elem cs (λb s2=>(∀ i,s i≠none→cutH l s i=none→s2 i=none)→R b s2) (frz (cutH l s)):=by
 refine qAO λb s2 hb h2 u2 hq=>?_
 have hsb:s b=none:=by
  cases e:s b with
  | none=>rfl
  | some x=>
    have:=hq b (by rw [e];simp) (qI7.1 hb)
    rw [this] at h2;cases h2
 refine h b s2 hsb (by rw [qA8 hsb];exact h2) λi hi=>?_
 cases e:s i with
 | some x=>rw [qAz e]
 | none=>rw [qA8 e,u2 i hi,qI7.2 (qNI e)]
theorem Sl.addf (h:Sl s2 v l) (hs:Sub (frz s) s2):Sl (add s s2) v l:=by
 rcases h with h | ⟨b,o,cap,h1,h2,h3⟩
 ·exact .inl h
 ·refine .inr ⟨b,o,cap,h1,h2,λhl=>?_⟩
  obtain ⟨t,e,cs,q1,q2⟩:=h3 hl
  cases hb:s b with
  | none=>exact ⟨t,e,cs,by rw [qA8 hb];exact q1,q2⟩
  | some x=>
    obtain ⟨t',x⟩:=x
    have:=hs b _ (qKl hb)
    rw [q1] at this
    cases this
    exact ⟨t',e,cs,by rw [qAz hb],q2⟩
theorem Sl.frz (h:Sl s v l):Sl (frz s) v l:=by
 rcases h with h | ⟨b,o,cap,h1,h2,h3⟩
 ·exact .inl h
 ·refine .inr ⟨b,o,cap,h1,h2,λhl=>?_⟩
  obtain ⟨t,e,cs,q1,q2⟩:=h3 hl
  exact ⟨true,e,cs,qKl q1,q2⟩
theorem Sl.ne (h:Sl s v l) {b:Nat} (hb:s b=none):∀ b' o n c,v=.slc b' o n c 1→l≠[]→¬ b'=b:=by
 rintro b' o n c rfl hl rfl
 rcases h with ⟨h,_⟩ | ⟨b,o,cap,h1,h2,h3⟩
 ·cases h
 ·cases h1
  obtain ⟨t,e,cs,q1,q2⟩:=h3 hl
  rw [hb] at q1;cases q1
theorem Sl.one {v:AV} {l:List AV} (h:Sl s v l):v.one=true:=by
 rcases h with ⟨rfl,_⟩ | ⟨b,o,cap,rfl,_⟩ <;> rfl
end
end Go.AM
namespace Go.AM
open Go Go.RowKit Go.ChangeShapes Go.WideShapes Go.ChangeAt
def qD2:List AV→List AV→Bool
 | [],[]=>true
 | .bool a :: l,.bool b :: m=>(a == b)&&qD2 l m
 | .int k a :: l,.int k' b :: m=>qBH k k'&&(a == b)&&qD2 l m
 | _,_=>false
theorem qKv:∀ {l m:List AV},qD2 l m=true→l=m
 | [],[],_=>rfl
 | [],_ :: _,h=>by simp [qD2] at h
 | x :: l,[],h=>by cases x <;> simp [qD2] at h
 | x :: l,y :: m,h=>by
   cases x with
   | bool a=>cases y with
     | bool b=>
       simp only [qD2,Bool.and_eq_true] at h
       rw [eq_of_beq h.1,qKv h.2]
     | _=>simp [qD2] at h
   | int k a=>cases y with
     | int k' b=>
       simp only [qD2,Bool.and_eq_true] at h
       rw [qIU h.1.1,eq_of_beq h.1.2,qKv h.2]
     | _=>simp [qD2] at h
   | _=>cases y <;> simp [qD2] at h
theorem qLO:∀ {l:List AV},plainC l=true→qD2 l l=true
 | [],_=>rfl
 | x :: l,h=>by
   cases x <;> first | (cases h;done) | skip
   all_goals
    have:=qLO (l:=l) h
    simp [qD2,this]
def isV (l0:List AV):AV→Bool
 | .agg l=>qD2 l l0
 | _=>false
def qGW (g:Nat) (l0:List AV) (l:List FuncId):Td:=λf=>cond (memN f l) (some λargs=>match args with
 | []=>bd (rd g) λblk=>match blk with
   | .glob g' v=>cond (Nat.beq g g'&&isV l0 v) (ret (.bool true)) fail
   | _=>fail
 | _=>fail) none
theorem qOq (g:Nat) (l0:List AV) (l:List FuncId):FrX (qGW g l0 l):=by
 intro f h args hh
 unfold qGW at hh
 cases hm:memN f l with
 | false=>rw [hm] at hh;cases hh
 | true=>
   rw [hm] at hh
   cases hh
   cases args with
   | nil=>
     refine qA3 (qFZ _) λblk=>?_
     cases blk <;> first | exact qAe | skip
     simp only
     exact qAy _ (qAl _) qAe
   | cons _ _=>exact qAe
theorem qOy {σ:Nat→Value} {ρ:Ren}:∀ {l:List AV} {vs:List Value},plainC l=true→RelL σ ρ l vs→vs=l.map qJA
 | [],vs,_,h=>by unfold RelL at h;rw [h];rfl
 | x :: l,vs,hp,h=>by
   unfold RelL at h
   obtain ⟨y,ys,rfl,h1,h2⟩:=h
   cases x <;> first | (cases hp;done) | skip
   all_goals
    unfold Rel at h1
    rw [h1,qOy (l:=l) hp h2];rfl
theorem closedG_ok {P:Program} (hm:P.follows .mixedOrders=true) (hname:noNumB P=true) {X:Td} (hX:ExtOK P X) {g:Nat} {l0:List AV} (hp:plainC l0=true) (l:List FuncId) (h:∀ f∈l,∃ n,isTrue (runR P X n (.call f []) (gHeap g (.agg l0)))=true):ExtOK P (qGW g l0 l):=by
 refine ⟨qOq g l0 l,λf gg hg args H v H' hr σ ρ base w args' hσ hwr hf hra=>?_⟩
 unfold qGW at hg
 cases hmem:memN f l with
 | false=>rw [hmem] at hg;cases hg
 | true=>
   rw [hmem] at hg
   cases hg
   cases args with
   | cons _ _=>exact (qAB (H:=H) hr).elim
   | nil=>
     obtain ⟨blk,H1,h1,h2⟩:=qAN hr
     cases hb:H.blks.get g with
     | none=>unfold rd at h1;rw [hb] at h1;cases h1
     | some x=>
       unfold rd at h1
       rw [hb] at h1
       simp only [Option.some.injEq,Prod.mk.injEq] at h1
       obtain ⟨rfl,rfl⟩:=h1
       cases x with
       | glob g' vv=>
         simp only at h2
         cases hc:(Nat.beq g g'&&isV l0 vv) with
         | false=>rw [hc] at h2;exact (qAB (H:={ H with log:=(g,false) :: H.log }) h2).elim
         | true=>
           rw [hc,cond_true] at h2
           cases qAG h2
           obtain ⟨e1,e2⟩:=Bool.and_eq_true_iff.1 hc
           obtain rfl:=Nat.eq_of_beq_eq_true e1
           cases vv with
           | agg l1=>
             obtain rfl:l1=l0:=qKv e2
             obtain ⟨L,hL,hLg,vs,elem,fr,hw,hrel,_⟩:=hwr.blk g _ hb
             obtain rfl:vs=l1.map qJA:=qOy hp hrel
             rw [hLg] at hw
             obtain ⟨n,hn⟩:=h f (qHA.1 hmem)
             have ha:args'=#[]:=by
              unfold RelL at hra
              cases args';simp_all
             subst ha
             refine callsIn_wide.2 ((qTA (v:=.agg l1) hm hname hX n [] hn hp (λ_=>.bool true) (λ_=>rfl) #[] .nil w hw).mono ?_)
             rintro e w' ⟨rfl,hbw⟩
             have hwr':=qPo hwr hbw
             exact ⟨_,ρ,rfl,⟨.refl _ _ _,⟨hwr'.blk,hwr'.own,hwr'.inj,hwr'.base⟩,hbw.mono hwr.base⟩,by unfold Rel;rfl⟩
           | _=>cases e2
       | _=>exact (qAB (H:={ H with log:=(g,false) :: H.log }) h2).elim
def memG (v:AV) (B:IB):AH:={ memB B with blks:=(memB B).blks.put 0 (some (.glob 0 v)) }
def zACI (v:AV) (B:IB):Hq:=λi=>match i with
 | 0=>some (true,.glob 0 v)
 | i+1=>qKZ B (i+1)
theorem qMC (v:AV) (B:IB) (i:Nat):(memG v B).blks.get i=if 0=i then some (.glob 0 v) else (memB B).blks.get i:=by
 show ((memB B).blks.put 0 (some (.glob 0 v))).get i=_
 rw [Tr.get_put]
theorem qX9 (v:AV) (B:IB):Sub (qKZ B) (zACI v B):=λi e h=>by
 cases i with
 | zero=>cases h
 | succ i=>exact h
theorem zAEN (v:AV) (B:IB) {σ:Nat→Value} {W:World} (h:VB σ B W):HRel (zACI v B) (memG v B):=by
 have hb:=zABO B h
 refine ⟨hb.lo,λi hi=>?_,λi t b hi=>?_⟩
 ·rw [qMC] at hi
  split at hi
  ·rename_i e;subst e;show 0 < B.length+1;omega
  ·exact hb.wf i hi
 ·cases i with
  | zero=>
    cases hi
    exact ⟨λe=>(by cases e),.glob 0 v,by rw [qMC,if_pos rfl],rfl,rfl⟩
  | succ i=>
    obtain ⟨h1,ab,h2,h3⟩:=hb.at_ (i+1) t b hi
    exact ⟨h1,ab,by rw [qMC,if_neg (by omega)];exact h2,h3⟩
theorem zACQ (v:AV) (B:IB) {σ:Nat→Value} {W:World} (h:VB σ B W) (hp:plainC v.cells=true) {elem:TypeId} {fr:Nat × Nat} (hw:W.heap[0]?=some (.cells (v.cells.map qJA).toArray elem fr)):WR σ (rhoB B) W.heap.size (memG v B) W:=by
 have hb:=zACc B h
 obtain ⟨r1,r2⟩:=qK0 (σ:=σ) (ρ:=rhoB B) hp
 have get:∀ i b,(memG v B).blks.get i=some b→(i=0∧b=.glob 0 v)∨(memB B).blks.get i=some b:=by
  intro i b hi
  rw [qMC] at hi
  split at hi
  ·rename_i e;cases hi;exact .inl ⟨e.symm,rfl⟩
  ·exact .inr hi
 have lo0:¬ (memG v B).lo≤0:=by show ¬ B.length+1≤0;omega
 refine ⟨λi b hi=>?_,λi b L hi hL hl=>?_,λi j bi bj Li Lj hi hj hLi hLj hl hij=>?_,hb.base⟩
 ·rcases get i b hi with ⟨rfl,rfl⟩ | hi
  ·exact ⟨⟨0,0,0⟩,rfl,rfl,_,elem,fr,hw,r1,r2⟩
  ·exact hb.blk i b hi
 ·rcases get i b hi with ⟨rfl,rfl⟩ | hi
  ·exact absurd hl lo0
  ·exact hb.own i b L hi hL hl
 ·rcases get i bi hi with ⟨rfl,rfl⟩ | hi
  ·exact absurd hl lo0
  ·exfalso
   obtain ⟨L,_,hbr⟩:=hb.blk i bi hi
   have:i < B.length+1:=(zABO B h).wf i (by rw [hi];simp)
   have hl':B.length+1≤i:=hl
   omega
theorem ArgL.sub {P:Program} {s s':Hq} (hs:Sub s s') {d:Nat}:∀ {ts:List TypeId} {xs:List AV},ArgL P s d ts xs→ArgL P s' d ts xs
 | [],[],_=>trivial
 | [],_ :: _,h=>h.elim
 | _ :: _,[],h=>h.elim
 | _ :: _,_ :: _,⟨h1,h2⟩=>⟨Arg.sub hs h1,ArgL.sub hs h2⟩
theorem law_of_wpG {H:Type} {enc:TypeId × Value→H} {P:Program} {X:Td} (hm:P.follows .mixedOrders=true) (hname:noNumB P=true) (hX:ExtOK P X) {f:FuncId} {ts:List TypeId} (d:Nat) (hp:(ts.all λt=>plainT P d t)=true) {g:AV} (hgp:plainC g.cells=true)
  (h:∀ (s:Hq) (xs:List AV),s 0=some (true,.glob 0 g)→ArgL P s d ts xs→wC P X f xs (λv _=>v=.bool true) s) {W:World} {elem:TypeId} {fr:Nat × Nat} (hw:W.heap[0]?=some (.cells (g.cells.map qJA).toArray elem fr)) {base:Nat} {args:Array Value} {ds:List (DataW H)} {ps:List MemPlace}
  (hA:DataW.TrodAll enc P W 0 (λ_=>true) true ts args.toList ds ps) (hv:∀ (j:Nat) t v,ts[j]?=some t→args[j]?=some v→Value.okWide P W .any base t v) :
  Calls P f args W λe W'=>e=.returned (.bool true)∧Below W.heap.size W W':=by
 have hσ:One (λ_=>Value.bool true):=λ_=>rfl
 obtain ⟨xs,C,h1,h2,h3⟩:=qRZ (W:=W) hσ d base ts args.toList ds ps [] (λi x hx=>by simp at hx) hp hA λj t v hj hj'=>hv j t v hj (by simpa using hj')
 rw [List.nil_append] at h1 h2 h3
 obtain ⟨n,o,H',hrun,s',_,_,v,rfl,rfl⟩:=h (zACI g C) xs rfl (h3.sub (qX9 g C)) (memG g C) (zAEN g C h1)
 refine (qLM hm (qQC hname) hX hrun _ hσ (rhoB C) W (zACQ g C h1 hgp hw) (λid hlo _=>?_) args h2).mono ?_
 ·cases id with
  | zero=>exact absurd hlo (by show ¬ C.length+1≤0;omega)
  | succ i=>
    have:C.length+1≤i+1:=hlo
    unfold rhoB
    simp only
    rw [List.getElem?_eq_none (by omega)]
 ·rintro e W' ⟨v',ρ',rfl,hr,_,hb⟩
  unfold Rel at hr
  subst hr
  exact ⟨rfl,hb⟩
end Go.AM
namespace Go.AM
open Go
variable {P : Program} {X : Td} {A : Nat → List Nat}
end Go.AM
namespace Go.AM
open Go
def SlR (es:Nat) (s:Hq) (v:AV) (rows:List (List AV)):Prop:=(∀ r∈rows,r.length=es)∧((v=.nilslc∧rows=[])∨∃ b o cap,v=.slc b o rows.length cap es∧(∀ c,cap=some c→rows.length≤c)∧
 (rows≠[]→∃ t e cs,s b=some (t,.cells e cs)∧o+rows.length * es≤cs.length∧(cs.drop o).take (rows.length * es)=rows.flatten))
theorem qI3 {es:Nat}:∀ {rows:List (List AV)},(∀ r∈rows,r.length=es)→rows.flatten.length=rows.length * es
 | [],_=>by simp
 | r :: rows,h=>by
   rw [List.flatten_cons,List.length_append,qI3 λq hq=>h q (by simp [hq]),h r (by simp),List.length_cons,Nat.succ_mul,Nat.add_comm]
theorem qUq {es:Nat}:∀ {rows:List (List AV)} {i:Nat} {r:List AV},(∀ r∈rows,r.length=es)→rows[i]?=some r→(rows.flatten.drop (i * es)).take es=r
 | [],_,_,_,h=>by simp at h
 | q :: rows,0,r,hl,h=>by
   simp only [List.getElem?_cons_zero,Option.some.injEq] at h
   subst h
   have:=hl q (by simp)
   rw [Nat.zero_mul,List.drop_zero,List.flatten_cons,List.take_append_of_le_length (by omega),List.take_of_length_le (by omega)]
 | q :: rows,i+1,r,hl,h=>by
   have hq:=hl q (by simp)
   have e1:(i+1) * es=i * es+es:=Nat.succ_mul _ _
   rw [List.flatten_cons,List.drop_append,List.drop_eq_nil_of_le (by omega),List.nil_append,hq,e1,Nat.add_sub_cancel]
   exact qUq (λr hr=>hl r (by simp [hr])) (by simpa using h)
variable {s s2 s' : Hq} {v : AV} {rows : List (List AV)} {es : Nat}
theorem SlR.len (h:SlR es s v rows):qAR v=some rows.length:=by
 rcases h.2 with ⟨rfl,rfl⟩ | ⟨b,o,cap,rfl,_⟩
 ·rfl
 ·rfl
theorem SlR.one (h:SlR es s v rows):v.one=true:=by
 rcases h.2 with ⟨rfl,_⟩ | ⟨b,o,cap,rfl,_⟩ <;> rfl
theorem SlR.get (h:SlR es s v rows) {i:Nat} {r:List AV} (hi:rows[i]?=some r):∃ b o,qAZ es v (.int .i64 (i:Int))=some (.ptr b o)∧rdN s es (.ptr b o)=some r∧∀ j,j < es→rd1 s (.ptr b (o+j))=r[j]?:=by
 have hlt:=(List.getElem?_eq_some_iff.1 hi).1
 obtain ⟨hl,h⟩:=h
 rcases h with ⟨rfl,rfl⟩ | ⟨b,o,cap,rfl,_,h⟩
 ·simp at hlt
 ·obtain ⟨t,e,cs,h1,h2,h3⟩:=h (by rintro rfl;simp at hlt)
  have e1:Nat.blt i rows.length=true:=by rw [Nat.blt_eq];exact hlt
  have e2:(i+1) * es≤rows.length * es:=Nat.mul_le_mul_right _ hlt
  rw [Nat.succ_mul] at e2
  have row:(cs.drop (o+i * es)).take es=r:=by
   rw [← qUq hl hi,← h3,List.drop_take,List.take_take,List.drop_drop,Nat.min_eq_left (by omega)]
  refine ⟨b,o+i * es,by simp [qAZ,e1],?_,λj hj=>?_⟩
  ·have e3:Nat.ble (o+i * es+es) cs.length=true:=Nat.ble_eq_true_of_le (by omega)
   simp only [rdN,h1,qIi,e3,cond_true,row]
  ·rw [qAI h1,← row,List.getElem?_take,if_pos hj,List.getElem?_drop]
theorem SlR.rd (h:SlR es s v rows):rdSl s es v=some rows.flatten:=by
 obtain ⟨hl,h⟩:=h
 rcases h with ⟨rfl,rfl⟩ | ⟨b,o,cap,rfl,_,h⟩
 ·rfl
 ·simp only [rdSl,Nat.beq_refl,cond_true]
  cases hz:Nat.beq (rows.length * es) 0 with
  | true=>
    rw [cond_true]
    have:=qI3 hl
    rw [Nat.eq_of_beq_eq_true hz] at this
    rw [List.eq_nil_of_length_eq_zero this]
  | false=>
    rw [cond_false]
    obtain ⟨t,e,cs,h1,h2,h3⟩:=h (by rintro rfl;simp at hz)
    have e2:Nat.ble (o+rows.length * es) cs.length=true:=Nat.ble_eq_true_of_le h2
    simp only [h1,qIi,e2,cond_true,h3]
theorem SlR.sub (h:SlR es s v rows) (hs:Sub s s'):SlR es s' v rows:=by
 refine ⟨h.1,?_⟩
 rcases h.2 with h | ⟨b,o,cap,h1,h2,h3⟩
 ·exact .inl h
 ·refine .inr ⟨b,o,cap,h1,h2,λhl=>?_⟩
  obtain ⟨t,e,cs,q1,q2⟩:=h3 hl
  exact ⟨t,e,cs,hs _ _ q1,q2⟩
theorem SlR.frz (h:SlR es s v rows):SlR es (frz s) v rows:=by
 refine ⟨h.1,?_⟩
 rcases h.2 with h | ⟨b,o,cap,h1,h2,h3⟩
 ·exact .inl h
 ·refine .inr ⟨b,o,cap,h1,h2,λhl=>?_⟩
  obtain ⟨t,e,cs,q1,q2⟩:=h3 hl
  exact ⟨true,e,cs,qKl q1,q2⟩
theorem SlR.keep {fp:Nat→Prop} (h:SlR es s v rows) (hs:qBy fp s s') (hn:∀ b o n c,v=.slc b o n c es→rows≠[]→¬ fp b):SlR es s' v rows:=by
 refine ⟨h.1,?_⟩
 rcases h.2 with h | ⟨b,o,cap,h1,h2,h3⟩
 ·exact .inl h
 ·refine .inr ⟨b,o,cap,h1,h2,λhl=>?_⟩
  obtain ⟨t,e,cs,q1,q2⟩:=h3 hl
  exact ⟨t,e,cs,hs _ _ q1 (hn b o _ cap h1 hl),q2⟩
theorem SlR.mk {b:Nat} {t:Bool} {e:TypeId} {n:Nat} {cap:Option Nat} (hl:∀ r∈rows,r.length=es) (h:s b=some (t,.cells e rows.flatten)) (hn:n=rows.length) (hc:∀ c,cap=some c→rows.length≤c):SlR es s (.slc b 0 n cap es) rows:=by
 subst hn
 refine ⟨hl,.inr ⟨b,0,cap,rfl,hc,λ_=>⟨t,e,_,h,by rw [qI3 hl];omega,?_⟩⟩⟩
 rw [List.drop_zero,← qI3 hl,List.take_of_length_le (Nat.le_refl _)]
theorem SlR.empty {b o:Nat} {c:Nat}:SlR es s (.slc b o 0 (some c) es) []:=⟨by simp,.inr ⟨b,o,some c,rfl,by simp,λh=>absurd rfl h⟩⟩
theorem SlR.drop (h:SlR es s v rows) {k:Nat} (hk:k≤rows.length) (hne:rows≠[]):∃ v',qJR es v (some (.int .i64 (k:Int))) none none=some v'∧SlR es s v' (rows.drop k)∧∀ b o n c,v'=.slc b o n c es→∃ o n c,v=.slc b o n c es:=by
 obtain ⟨hl,h⟩:=h
 rcases h with ⟨rfl,rfl⟩ | ⟨b,o,cap,rfl,hc,h⟩
 ·exact absurd rfl hne
 ·obtain ⟨t,e,cs,h1,h2,h3⟩:=h hne
  have hrow:∀ r∈rows.drop k,r.length=es:=λr hr=>hl r (List.mem_of_mem_drop hr)
  have hlen:(rows.drop k).length=rows.length - k:=List.length_drop
  have data:rows.drop k≠[]→∃ t e cs,s b=some (t,.cells e cs)∧o+k * es+(rows.drop k).length * es≤cs.length∧(cs.drop (o+k * es)).take ((rows.drop k).length * es)=(rows.drop k).flatten:=λ_=>by
   have e2:k * es+(rows.length - k) * es=rows.length * es:=by rw [← Nat.add_mul];congr 1;omega
   refine ⟨t,e,cs,h1,by rw [hlen];omega,?_⟩
   have e3:rows.flatten.drop (k * es)=(rows.drop k).flatten:=by
    have:rows.flatten=(rows.take k).flatten ++ (rows.drop k).flatten:=by rw [← List.flatten_append,List.take_append_drop]
    have hk2:(rows.take k).flatten.length=k * es:=by rw [qI3 λr hr=>hl r (List.mem_of_mem_take hr),List.length_take,Nat.min_eq_left hk]
    rw [this,← hk2,List.drop_left]
   rw [← e3,← h3,List.drop_take,List.drop_drop,hlen]
   congr 1
   omega
  have b1:bound (some (.int .i64 (k:Int))) 0 rows.length=some k:=by
   simp [bound,Nat.ble_eq_true_of_le hk]
  cases cap with
  | none=>
    refine ⟨.slc b (o+k * es) (rows.length - k) none es,?_,⟨hrow,.inr ⟨b,o+k * es,none,by rw [hlen],by simp,data⟩⟩,λb' o' n' c' e=>by cases e;exact ⟨_,_,_,rfl⟩⟩
    simp [qJR,bound,Nat.ble_eq_true_of_le hk]
  | some c=>
    have hc':=hc c rfl
    refine ⟨.slc b (o+k * es) (rows.length - k) (some (c - k)) es,?_,⟨hrow,.inr ⟨b,o+k * es,some (c - k),by rw [hlen],λd hd=>by cases hd;rw [hlen];omega,data⟩⟩,λb' o' n' c' e=>by cases e;exact ⟨_,_,_,rfl⟩⟩
    simp [qJR,bound,Nat.ble_eq_true_of_le hk,Nat.ble_eq_true_of_le hc']
theorem inpR {P:Program} {d:Nat} {t e:TypeId} (hu:P.underlying t=some (.slice e)) {A:Type} (f:A→List AV) (Q:A→Prop) (hf:∀ a,(f a).length=P.cellsOf e) (he:∀ xs,Inp P s d e xs→∃ a,xs=f a∧Q a) {xs:List AV} (h:Inp P s (d+1) t xs):∃ v,xs=[v]∧∃ l:List A,SlR (P.cellsOf e) s v (l.map f)∧(∀ a∈l,Q a)∧l.length≤maxLen:=by
 unfold Inp at h
 simp only [hu] at h
 have hrow:∀ (l:List A),∀ r∈l.map f,r.length=P.cellsOf e:=λl r hr=>by obtain ⟨a,_,rfl⟩:=List.mem_map.1 hr;exact hf a
 rcases h with rfl | ⟨b,len,cap,rfl,h1,h2,h3⟩
 ·exact ⟨_,rfl,[],⟨hrow [],.inl ⟨rfl,rfl⟩⟩,by simp,by simp⟩
 ·refine ⟨_,rfl,?_⟩
  by_cases hz:cap=0
  ·subst hz
   have:len=0:=by omega
   subst this
   exact ⟨[],.empty,by simp,by simp⟩
  ·obtain ⟨el,l,g1,g2,g3⟩:=h3 (by omega)
   have mk:∀ n,n≤cap→∃ r:List A,r.length=n∧(r.map f).flatten=l.take (n * P.cellsOf e)∧∀ a∈r,Q a:=by
    intro n
    induction n with
    | zero=>exact λ_=>⟨[],rfl,by simp,by simp⟩
    | succ n ih=>
      intro hn
      obtain ⟨r,r1,r2,r3⟩:=ih (by omega)
      obtain ⟨a,a1,a2⟩:=he _ (g3 n (by omega))
      refine ⟨r ++ [a],by simp [r1],?_,λb hb=>?_⟩
      ·rw [List.map_append,List.flatten_append,r2,List.map_singleton,List.flatten_singleton,← a1,Nat.succ_mul,List.take_add]
      ·rcases List.mem_append.1 hb with hb | hb
       ·exact r3 b hb
       ·rw [List.mem_singleton.1 hb];exact a2
   obtain ⟨r,r1,r2,r3⟩:=mk len h1
   refine ⟨r,⟨hrow r,.inr ⟨b,0,some cap,by simp [r1],by simp [r1];exact h1,λ_=>⟨true,el,l,g1,?_,?_⟩⟩⟩,r3,by omega⟩
   ·rw [List.length_map,r1,g2,Nat.zero_add];exact Nat.mul_le_mul_right _ h1
   ·rw [List.length_map,r1,List.drop_zero,r2]
theorem argR {P:Program} {d:Nat} {t e:TypeId} {v:AV} (hu:P.underlying t=some (.slice e)) {A:Type} (f:A→List AV) (Q:A→Prop) (hf:∀ a,(f a).length=P.cellsOf e) (he:∀ xs,Inp P s d e xs→∃ a,xs=f a∧Q a) (h:Arg P s (d+1) t v):∃ l:List A,SlR (P.cellsOf e) s v (l.map f)∧(∀ a∈l,Q a)∧l.length≤maxLen:=by
 obtain ⟨h1,_,h3⟩:=h
 have:qBE P t≠some true:=by unfold qBE;rw [hu];simp
 rw [h3 this] at h1
 obtain ⟨v',e1,h4⟩:=inpR hu f Q hf he h1
 cases e1
 exact h4
end Go.AM
namespace Go.AM
open Go
variable {s s2 s' : Hq} {v : AV} {rows : List (List AV)} {es : Nat}
theorem SlR.take (h:SlR es s v rows) {k:Nat} (hk:k≤rows.length) (hne:rows≠[]):∃ v',qJR es v none (some (.int .i64 (k:Int))) none=some v'∧SlR es s v' (rows.take k)∧∀ b o n c,v'=.slc b o n c es→∃ o n c,v=.slc b o n c es:=by
 obtain ⟨hl,h⟩:=h
 rcases h with ⟨rfl,rfl⟩ | ⟨b,o,cap,rfl,hc,h⟩
 ·exact absurd rfl hne
 ·obtain ⟨t,e,cs,h1,h2,h3⟩:=h hne
  have hrow:∀ r∈rows.take k,r.length=es:=λr hr=>hl r (List.mem_of_mem_take hr)
  have hlen:(rows.take k).length=k:=by rw [List.length_take,Nat.min_eq_left hk]
  have e2:k * es≤rows.length * es:=Nat.mul_le_mul_right _ hk
  have data:rows.take k≠[]→∃ t e cs,s b=some (t,.cells e cs)∧o+(rows.take k).length * es≤cs.length∧(cs.drop o).take ((rows.take k).length * es)=(rows.take k).flatten:=λ_=>by
   refine ⟨t,e,cs,h1,by rw [hlen];omega,?_⟩
   have e3:rows.flatten.take (k * es)=(rows.take k).flatten:=by
    have:rows.flatten=(rows.take k).flatten ++ (rows.drop k).flatten:=by rw [← List.flatten_append,List.take_append_drop]
    have hk2:(rows.take k).flatten.length=k * es:=by rw [qI3 hrow,hlen]
    rw [this,← hk2,List.take_left]
   rw [← e3,← h3,List.take_take,hlen,Nat.min_eq_left e2]
  cases cap with
  | none=>
    refine ⟨.slc b o k none es,?_,⟨hrow,.inr ⟨b,o,none,by rw [hlen],by simp,data⟩⟩,λb' o' n' c' e=>by cases e;exact ⟨_,_,_,rfl⟩⟩
    simp [qJR,bound,Nat.ble_eq_true_of_le hk]
  | some c=>
    have hc':=hc c rfl
    refine ⟨.slc b o k (some c) es,?_,⟨hrow,.inr ⟨b,o,some c,by rw [hlen],λd hd=>by cases hd;rw [hlen];omega,data⟩⟩,λb' o' n' c' e=>by cases e;exact ⟨_,_,_,rfl⟩⟩
    simp [qJR,bound,Nat.ble_eq_true_of_le (Nat.le_trans hk hc')]
def AccR (elem:TypeId) (es:Nat) (s0 s:Hq) (v:AV) (rows:List (List AV)):Prop:=(∀ r∈rows,r.length=es)∧((v=.nilslc∧rows=[])∨∃ b,s0 b=none∧v=.slc b 0 rows.length none es∧s b=some (false,.cells elem rows.flatten))
theorem AccR.sl {elem:TypeId} {s0:Hq} (h:AccR elem es s0 s v rows):SlR es s v rows:=by
 obtain ⟨hl,h⟩:=h
 rcases h with h | ⟨b,_,rfl,h⟩
 ·exact ⟨hl,.inl h⟩
 ·exact SlR.mk hl h rfl (by simp)
theorem AccR.sub {elem:TypeId} {s0 s s':Hq} (h:AccR elem es s0 s v rows) (hs:Sub s s'):AccR elem es s0 s' v rows:=by
 obtain ⟨hl,h⟩:=h
 rcases h with h | ⟨b,h0,rfl,h⟩
 ·exact ⟨hl,.inl h⟩
 ·exact ⟨hl,.inr ⟨b,h0,rfl,hs _ _ h⟩⟩
theorem AccR.app {elem:TypeId} {s0:Hq} {y:AV} {m:List (List AV)} {K:AV→Hq→Prop} (h:AccR elem es s0 s v rows) (hy:SlR es s y m) (hm:m≠[]) (hl:rows.length+m.length≤16777216) (hdom:Sub s0 s)
  (hK:∀ v' s',AccR elem es s0 s' v' (rows ++ m)→Sub s0 s'→K v' s'):appK elem es v y K s:=by
 obtain ⟨k,hk⟩:∃ k,m.length=k+1:=by cases m with | nil=>exact absurd rfl hm | cons a r=>exact ⟨r.length,rfl⟩
 refine qAJ hy.rd (qAJ hy.len ?_)
 obtain ⟨hrow,h⟩:=h
 have hrow2:∀ r∈rows ++ m,r.length=es:=λr hr=>by rcases List.mem_append.1 hr with hr | hr;exact hrow r hr;exact hy.1 r hr
 rcases h with ⟨rfl,rfl⟩ | ⟨b,hb0,rfl,hb⟩
 ·simp only
  rw [hk]
  refine ⟨by simp at hl;omega,qAO λc s1 hc h1 u1=>hK _ _ ⟨hrow2,.inr ⟨c,?_,by simp [hk],by simpa using h1⟩⟩ (hdom.trans (u1.sub hc))⟩
  cases q:s0 c with
  | none=>rfl
  | some x=>rw [hdom c x q] at hc;cases hc
 ·refine ⟨rfl,?_⟩
  simp only
  rw [hk]
  simp only
  refine qAJ (SlR.rd (SlR.mk hrow hb rfl (by simp))) ?_
  unfold qWi
  rw [hb]
  have hdel0:Sub s0 (hdel s b):=λi e hi=>by
   have hib:i≠b:=qIq hb0 hi
   rw [← hdom i e hi];exact if_neg hib
  refine ⟨rfl,by omega,qAO λc s1 hc h1 u1=>hK _ _ ⟨hrow2,.inr ⟨c,?_,by simp [hk],by simpa using h1⟩⟩ (hdel0.trans (u1.sub hc))⟩
  cases q:s0 c with
  | none=>rfl
  | some x=>rw [hdel0 c x q] at hc;cases hc
end Go.AM
namespace Go.AM
open Go
variable {α β : Type} {P : Program} {X : Td} {A : Nat → List Nat} {nt : Nat} {rnd : Option Nat}
def qXM:Code→Option (List Oper × List Oper × Call)
 | .region _ ops false=>match qBN ops.toList with
   | some p=>some (ops.toList,p.1,p.2)
   | none=>none
 | _=>none
def qYe (c:Call):Option Operand:=match c.callee with
 | .value f=>cond (c.args.toList.isEmpty&&okX f) (some f) none
 | _=>none
end Go.AM
namespace Go.AM
open Go
variable {P : Program} {X : Td}
theorem wC.frame (hX:FrX X) {f:FuncId} {args:List AV} {K:AV→Hq→Prop} {r s:Hq} (hsub:Sub r s)
  (h:wC P X f args (λv s1=>(∀ i,s i≠none→r i=none→s1 i=none)→K v (add s1 (rest s r))) r):wC P X f args K s:=by
 intro H hH
 obtain ⟨n,o,H1,s1,es,h1,h2,h3,h4,d,kno,out⟩:=wpF.framed (λn=>qEr P hX n (.call f args)) h (hH.sub hsub)
 obtain ⟨v,rfl,hK⟩:=h4
 have hout:∀ i,s i≠none→r i=none→s1 i=none:=λi hi hr=>(out i hr (hH.lt hi)).1
 refine ⟨n,.val v,H1,h1,add s1 (rest s r),?_,?_,v,rfl,hK hout⟩
 ·refine ⟨h2.lo,h2.wf,λid t b hid=>?_⟩
  cases q:s1 id with
  | some x=>
    rw [qAz q] at hid
    exact h2.at_ id t b (by rw [q];exact hid)
  | none=>
    rw [qA8 q] at hid
    unfold rest at hid
    split at hid
    ·rename_i e
     obtain ⟨k1,k2⟩:=hH.at_ id t b hid
     have hlt:=hH.lt (i:=id) (by rw [hid];exact Option.some_ne_none _)
     rw [d.lo,(out id e hlt).2]
     exact ⟨k1,k2⟩
    ·cases hid
 ·intro id b hid
  cases q:r id with
  | some x=>
    have e1:=hsub id x q
    rw [hid] at e1
    cases e1
    exact qAz (h3 id b q)
  | none=>
    have hlt:=hH.lt (i:=id) (by rw [hid];exact Option.some_ne_none _)
    rw [qA8 (out id q hlt).1]
    unfold rest
    rw [if_pos q];exact hid
theorem wC.part (hX:FrX X) {f:FuncId} {args:List AV} {K:AV→Hq→Prop} {r s:Hq} (hsub:Sub r s)
  (h:wC P X f args (λv s1=>∀ s',Sub s1 s'→(∀ i,r i=none→s i≠none→s' i=s i∧s1 i=none)→K v s') r):wC P X f args K s:=by
 refine wC.frame hX hsub (wpF.mono h λo s1 ⟨v,e,hv⟩=>⟨v,e,λhout=>hv _ qGQ λi hr hi=>?_⟩)
 have:=hout i hi hr
 refine ⟨?_,this⟩
 rw [qA8 this]
 unfold rest
 rw [if_pos hr]
end Go.AM
namespace Go.AM
open Go
variable {α β : Type} {P : Program} {X : Td} {A : Nat → List Nat} {nt : Nat} {rnd : Option Nat}
def zAAY (P:Program) (X:Td) (k:FuncId) (args:List AV) (Q:Hq→Prop) (s:Hq):Prop:=wpF (λn=>qJT P (run P X n) k args) (λ_ s=>Q s) s
def runK (P:Program) (X:Td) (v:AV) (Q:Hq→Prop) (s:Hq):Prop:=match v with
 | .fn (.func k) first cap=>zAAY P X k (first ++ cap) Q s
 | _=>False
def qW9 (P:Program) (v:AV):Prop:=match v with
 | .fn (.func k) _ _=>isFn P k=true
 | _=>False
def qSB (c:Code):Code:=match qGz c with
 | some (_,r)=>r
 | none=>.skip
def qVO (c:Code) (env:Env):Env:=match qGz c with
 | some (t,_)=>upd env t .nilIface
 | none=>env
def zAAj (c:Code) (nt:Nat):Bool:=match qGz c with
 | some (t,r)=>noRF r&&Nat.blt t nt
 | none=>false
theorem qV4 (hX:FrX X) (A:Nat→List Nat) {k:FuncId} {fn:Func} {c:Code} (hf:P.funcs[k]?=some fn) (hb:fn.body=some c) (hr:fn.results.toList=[]) (hc:zAAj c fn.ntmps=true) {args:List AV} (hl:Nat.ble args.length fn.ntmps=true) {K:AV→Hq→Prop} {s:Hq}
  (h:wpC P X A fn.ntmps none (qSB c) (qVO c (qJf args)) (λe env s=>retK e (resK P fn.results.toList env (λvs=>K (oneV vs) s) s)) s):zAAY P X k args (λs=>K (.tup []) s) s:=by
 unfold zAAj at hc
 unfold qSB qVO at h
 cases hq:qGz c with
 | none=>rw [hq] at hc;cases hc
 | some p=>
 obtain ⟨t,r⟩:=p
 rw [hq] at hc h
 simp only at hc h
 obtain ⟨hno,hlt⟩:=Bool.and_eq_true_iff.1 hc
 rw [hr] at h
 unfold zAAY qJT
 simp only [hf,hb,hr]
 refine wpF.cond hl ?_
 have hd:qNd fn (Tr.ofListAt .nil 0 args) c=some (r,(Tr.ofListAt .nil 0 args).put t (some .nilIface)):=by
  unfold qNd
  rw [hq]
  simp only [hlt,cond_true]
 rw [hd]
 simp only
 have hT:=qPD (qMZ args) t .nilIface
 have e0:∀ s:Hq,add s (mkH [])=s:=λs=>by funext i;unfold add mkH;cases s i <;> simp
 have hcode:=qIb (P:=P) (X:=X) (A:=A) (nt:=fn.ntmps) (rnd:=none) hX r _ _ s h _ [] hT (by simp) List.nodup_nil
 rw [e0] at hcode
 refine wpF.bd (qCb _) (λo=>.const _) ((qUB hno [] hcode).mono ?_)
 rintro o S ⟨o',rfl,hno',e,T2,env2,ms',s2,rfl,q1,rfl,_,_,_,_,q6⟩
 simp only [reMs,Out.exit.injEq,true_and,List.append_nil] at hno'
 have hms:ms'=[]:=by
  cases ms' with
  | nil=>rfl
  | cons _ _=>cases hno'
 subst hms
 rw [List.append_nil,e0]
 cases e with
 | nrm=>exact wpF.ret q6
 | ret=>exact wpF.ret q6
 | exit id=>exact q6.elim
end Go.AM
namespace Go.AM
open Go
def qBV:Nat→Code→Code
 | 0,c=>c
 | d+1,.seq _ b=>qBV d b
 | _+1,c=>c
def qYa:Nat→Code→Bool
 | 0,_=>true
 | d+1,.seq _ b=>qYa d b
 | _+1,_=>false
def wpCD (P:Program) (X:Td) (A:Nat→List Nat) (nt:Nat) (rnd:Option Nat):Nat→(Env→Hq→Prop)→Code→Env→(AExit→Env→Hq→Prop)→Hq→Prop
 | 0,J,_,env,_,s=>J env s
 | d+1,J,.seq a b,env,K,s=>wpC P X A nt rnd a env (λe env s=>match e with
   | .nrm=>wpCD P X A nt rnd d J b env K s
   | e=>K e env s) s
 | _+1,_,_,_,_,_=>False
theorem qBa {P:Program} {X:Td} {A:Nat→List Nat} {nt:Nat} {rnd:Option Nat} {K:AExit→Env→Hq→Prop}:∀ (d:Nat) (J:Env→Hq→Prop) (c:Code),qYa d c=true→(∀ env s,wpC P X A nt rnd (qBV d c) env K s=J env s)→∀ env s,wpC P X A nt rnd c env K s=wpCD P X A nt rnd d J c env K s
 | 0,J,c,_,h,env,s=>h env s
 | d+1,J,c,hs,h,env,s=>by
   cases c with
   | seq a b=>
     have ih:=qBa (P:=P) (X:=X) (A:=A) (nt:=nt) (rnd:=rnd) (K:=K) d J b hs h
     show wpC P X A nt rnd a env _ s=wpC P X A nt rnd a env _ s
     congr 1
     funext e env s
     cases e with
     | nrm=>exact ih env s
     | ret=>rfl
     | exit id=>rfl
   | _=>cases hs
end Go.AM
namespace Go.AM
open Go Go.RowKit
section
variable {P : Program} {σ : Nat → Value} {base nt : Nat} {ih : Task → M Out}
def qKB (pre:List Oper):Bool:=pre.all λo=>match o.guard with
 | none=>true
 | some (j,_)=>Nat.blt j pre.length
def zABi (full:List Oper) (m:Nat):Bool:=(List.range m).all λi=>Nat.testBit ((masks full []).getD m 0) i
theorem qKA {pre:Array Oper} {oL:Oper} {j:Nat} (h:j < pre.size):(pre.push oL)[j]?=pre[j]?:=by
 rw [Array.getElem?_push]
 rw [if_neg (by omega)]
theorem qSf {pre:Array Oper} {oL:Oper} {tm:Array Value} {j:Nat} (h:j < pre.size):yielded (pre.push oL) tm j=yielded pre tm j:=by
 unfold yielded
 rw [qKA h]
theorem qS2 {pre:Array Oper} {oL o:Oper} {tm:Array Value} (hg:qKB pre.toList=true) (ho:o∈pre.toList):Region.wanted o (yielded (pre.push oL) tm)=Region.wanted o (yielded pre tm):=by
 have:=List.all_eq_true.1 hg o ho
 unfold Region.wanted
 cases e:o.guard with
 | none=>rfl
 | some p=>
   obtain ⟨j,w⟩:=p
   rw [e] at this
   simp only at this ⊢
   rw [qSf (by simpa [Nat.blt_eq] using this)]
theorem qTf {F:Fence} {n:Nat} {pre:Array Oper} {oL:Oper} {Q:Exit→Act→World→Prop} {j:Nat} {K:Act→World→Prop} {a:Act} {w:World} (hg:qKB pre.toList=true) (hj:j < pre.size) (h:wpOpIn F n P pre Q j K a w):wpOpIn F n P (pre.push oL) Q j K a w:=by
 unfold wpOpIn at h ⊢
 rw [qKA hj]
 have ho:pre[j]?=some pre[j]:=Array.getElem?_eq_getElem hj
 rw [ho] at h ⊢
 simp only at h ⊢
 rw [qS2 hg (by simp)]
 exact h
theorem qVd {F:Fence} {n:Nat} {ops:Array Oper} {Q:Exit→Act→World→Prop} {listed:Array Bool} {a:Act} {w:World} (hr:Region.ready .any ops listed=[]) (h:Q .normal a w):∀ fuel,wpAnyIn F n P .any ops Q fuel listed a w
 | 0=>⟨hr,h⟩
 | fuel+1=>⟨λ_=>h,λi hi=>by rw [hr] at hi;cases hi⟩
variable {pre : Array Oper} {oL : Oper} {Ts : Nat → Tmps} {Hs : Nat → AH} {vs : Nat → AV} {es : Nat → List (Nat × Bool)}
theorem zAA5 (hc:qFf P ih) (hr:qDa P ih) (hname:qDn P) (hfr:∀ t,Fr (ih t)) (hσ:One σ) (tr:Trace P ih nt pre Ts Hs vs es) (hg:qKB pre.toList=true) (hback:∀ (j:Nat) (o:Oper),(pre.push oL)[j]?=some o→∀ e∈o.after,Region.binds .any e=true→e.on < j)
  {mk:Nat} (hmk:(masks (pre.push oL).toList [])[pre.size]?=some mk) (hcov:∀ i,i < pre.size→Nat.testBit mk i=true) {r:Option Nat} {Q:Exit→Act→World→Prop}
  {ρ0:Ren} {w0:World} {d0:Act} (hQ:∀ a' w' ρ',Ext ρ0 ρ' (Hs 0).next (Hs pre.size).next→WR σ ρ' base (Hs pre.size) w'→Below base w0 w'→TRel σ ρ' nt (Ts pre.size) a'.tmps→a'.defers=d0.defers→wpOpIn (FR r) 0 P (pre.push oL) Q pre.size (Q .normal) a' w') :
  ∀ (fuel:Nat) (listed:Array Bool) (T:Tmps) (H:AH) (ρ:Ren) (w:World) (a:Act),listed.size=(pre.push oL).size→listed.getD pre.size true=false→cntF listed.toList≤fuel→Inv σ base nt pre Ts Hs vs es ρ0 w0 d0 (λi=>i < pre.size∧Done listed i) T H ρ w a→wpAnyIn (FR r) 0 P .any (pre.push oL) Q fuel listed a w:=by
 have hsz:(pre.push oL).size=pre.size+1:=Array.size_push _
 have lastO:(pre.push oL)[pre.size]?=some oL:=by simp
 have fin:∀ (listed:Array Bool) (T:Tmps) (H:AH) (ρ:Ren) (w:World) (a:Act),(∀ i,i < pre.size→Done listed i)→Inv σ base nt pre Ts Hs vs es ρ0 w0 d0 (λi=>i < pre.size∧Done listed i) T H ρ w a→wpOpIn (FR r) 0 P (pre.push oL) Q pre.size (Q .normal) a w:=by
  intro listed T H ρ w a hall hi
  have hall':∀ i,i < pre.size→i < pre.size∧Done listed i:=λi h=>⟨h,hall i h⟩
  refine hQ a w ρ hi.ext (hi.wr.same (λid=>?_) ?_) hi.below (hi.rel.same λt=>?_) hi.defers
  ·rw [hi.blks,tr.blk_all hall' id pre.size (Nat.le_refl _)]
  ·rw [hi.lo,tr.lo_eq _ (Nat.le_refl _)]
  ·rw [hi.tmps,tr.tmp_all hall' t pre.size (Nat.le_refl _)]
 have ready:∀ (listed:Array Bool),listed.size=(pre.push oL).size→Region.ready .any (pre.push oL) listed=[]→∀ i,i < (pre.push oL).size→Done listed i:=by
  intro listed hs hnil i
  induction i using Nat.strongRecOn with
  | _ i ih2=>
    intro hi
    unfold Done
    cases hg:listed.getD i true with
    | true=>rfl
    | false=>
      exfalso
      have ho:(pre.push oL)[i]?=some (pre.push oL)[i]:=Array.getElem?_eq_getElem hi
      have:i∈Region.ready .any (pre.push oL) listed:=mem_ready.2 ⟨hg,_,ho,λe he hb=>by
       have hlt:=hback i _ ho e he hb
       have:=ih2 e.on hlt (by omega)
       unfold Done at this
       simp [Array.getElem?_eq_getElem (by omega:e.on < listed.size)] at this ⊢
       exact this⟩
      rw [hnil] at this;cases this
 intro fuel
 induction fuel with
 | zero=>
   intro listed T H ρ w a hs hm hcnt hi
   exact absurd (undone hm) (qMw _ (by omega) pre.size)
 | succ fuel ih2=>
   intro listed T H ρ w a hs hm hcnt hi
   refine ⟨λhnil=>?_,λj hj=>?_⟩
   ·have:=ready listed hs hnil pre.size (by omega)
    unfold Done at this
    rw [hm] at this;cases this
   ·obtain ⟨hjun,o,ho,hall⟩:=mem_ready.1 hj
    have hjlt:=(Array.getElem?_eq_some_iff.1 ho).1
    by_cases hjm:j=pre.size
    ·subst hjm
     rw [lastO] at ho
     cases ho
     have hcl:∀ (j:Nat) (o:Oper),(pre.push oL)[j]?=some o→(j < pre.size∧Done listed j)→∀ e∈o.after,Region.binds .any e=true→(e.on < pre.size∧Done listed e.on):=λj o ho hd e he hb=>hi.closed j o (by rw [qKA hd.1] at ho;exact ho) hd e he hb
     have hdone:∀ i,i < pre.size→Done listed i:=λi hi'=>
      (qJt hback (λi=>i < pre.size∧Done listed i) hcl pre.size oL mk i lastO hmk (hcov i hi') λe he hb=>⟨hback pre.size oL lastO e he hb,qHO (hall e he hb)⟩).2
     refine wpOpIn_mono (λa' w' hq=>?_) (fin listed T H ρ w a hdone hi)
     refine qVd ?_ hq fuel
     cases hrd:Region.ready .any (pre.push oL) (listed.setIfInBounds pre.size true) with
     | nil=>rfl
     | cons x xs=>
       exfalso
       have hx:x∈Region.ready .any (pre.push oL) (listed.setIfInBounds pre.size true):=by rw [hrd];simp
       obtain ⟨h1,o,ho,_⟩:=mem_ready.1 hx
       have hxlt:=(Array.getElem?_eq_some_iff.1 ho).1
       have:Done (listed.setIfInBounds pre.size true) x:=by
        rw [qMQ hm]
        by_cases e:x=pre.size
        ·exact .inl e
        ·exact .inr (hdone x (by omega))
       unfold Done at this
       rw [h1] at this;cases this
    ·have hj':j < pre.size:=by omega
     rw [qKA hj'] at ho
     have hjx:¬ (j < pre.size∧Done listed j):=by unfold Done;rw [hjun];simp
     refine qTf hg hj' ?_
     refine qU1 hc hr hname hfr hσ tr hi ho hjx (λe he hb=>⟨by have:=hback j o (by rw [qKA hj'];exact ho) e he hb;omega,qHO (hall e he hb)⟩) ?_
     intro a' w' T' H' ρ' hi'
     refine ih2 _ T' H' ρ' w' a' (by simp [hs]) ?_ ?_ ?_
     ·have:Done (listed.setIfInBounds j true) pre.size↔(pre.size=j∨Done listed pre.size):=by rw [qMQ hjun]
      cases e:(listed.setIfInBounds j true).getD pre.size true with
      | false=>rfl
      | true=>
        exfalso
        rcases this.1 e with q | q
        ·exact hjm q.symm
        ·unfold Done at q;rw [hm] at q;cases q
     ·have:=qPr _ _ (undone hjun)
      rw [Array.toList_setIfInBounds]
      omega
     ·have e:(λi=>i < pre.size∧Done (listed.setIfInBounds j true) i)=λi=>i=j∨(i < pre.size∧Done listed i):=by
       rw [qMQ hjun]
       funext i
       apply propext
       constructor
       ·rintro ⟨h1,h2⟩
        rcases h2 with h2 | h2
        ·exact .inl h2
        ·exact .inr ⟨h1,h2⟩
       ·rintro (h1 | h1)
        ·exact ⟨by omega,.inl h1⟩
        ·exact ⟨h1.1,.inr h1.2⟩
      rw [e]
      exact hi'
theorem qOx (hm:P.follows .mixedOrders=true) (hc:qFf P ih) (hr:qDa P ih) (hname:qDn P) (hfr:∀ t,Fr (ih t)) (hσ:One σ) {id:Nat} {r:Option Nat} {Q:Exit→Act→World→Prop} {T T1:Tmps} {H K1:AH} {ρ:Ren} {w:World} {a:Act}
  (hok:qBp (pre.push oL).toList=true) (hokp:qBp pre.toList=true) (hg:qKB pre.toList=true) (hcov:zABi (pre.push oL).toList pre.size=true) (h:opsD P ih nt pre pre.toList (masks pre.toList []) [] T H=some (T1,K1)) (hT:TRel σ ρ nt T a.tmps) (hwr:WR σ ρ base H w) (hf:Free ρ H.next K1.next)
  (hQ:∀ a' w' ρ',Post σ ρ ρ' base H K1 w w'→TRel σ ρ' nt T1 a'.tmps→a'.defers=a.defers→wpOpIn (FR r) 0 P (pre.push oL) Q pre.size (Q .normal) a' w'):(Code.region id (pre.push oL) true).wpIn (FR r) 0 P Q a w:=by
 have hsz:(pre.push oL).size=pre.size+1:=Array.size_push _
 have hback:=(qHn hok).1
 have hbackp:=(qHn hokp).1
 obtain ⟨Ts,Hs,vs,es,a1,a2,a3,a4,a5⟩:=trace hfr pre.toList _ [] 0 T H T1 K1 rfl h
 simp only [Nat.zero_add,Array.length_toList] at a3 a4 a5
 have a5':∀ j o,pre[j]?=some o→_:=λj o ho=>a5 j o (by rw [Array.getElem?_toList];exact ho)
 have tr:Trace P ih nt pre Ts Hs vs es:=by
  refine ⟨λj o ho=>(a5' j o ho).1,λj o ho e he hb=>?_,λi j p o hij hp ho=>?_⟩
  ·have:=qEC pre.toList 0 hbackp j o (by rw [Array.getElem?_toList];exact ho) e he hb
   omega
  ·obtain ⟨_,mk,h1,_,h3⟩:=a5' j o ho
   exact ⟨mk,h1,h3 i p hij (by rw [Array.getElem?_toList];exact hp)⟩
 subst a1 a2 a3 a4
 have hb:∀ (j:Nat) (o:Oper),(pre.push oL)[j]?=some o→∀ e∈o.after,Region.binds .any e=true→e.on < j:=λj o ho e he hb=>by
  have:=qEC (pre.push oL).toList 0 hback j o (by rw [Array.getElem?_toList];exact ho) e he hb
  omega
 obtain ⟨mk,hmk⟩:∃ mk,(masks (pre.push oL).toList [])[pre.size]?=some mk:=by
  have hl:(masks (pre.push oL).toList []).length=pre.size+1:=by
   obtain ⟨L,h1,h2,_⟩:=qPE (pre.push oL).toList []
   rw [h1,List.length_append,h2]
   simp
  exact ⟨_,List.getElem?_eq_getElem (by omega)⟩
 have hcov':∀ i,i < pre.size→Nat.testBit mk i=true:=λi hi=>by
  have:=List.all_eq_true.1 hcov i (by simpa using hi)
  rw [List.getD_eq_getElem?_getD,hmk] at this
  exact this
 refine wpIn_region_any hm (zAA5 (base:=base) hc hr hname hfr hσ tr hg hb hmk hcov' (ρ0:=ρ) (w0:=w) (d0:=a) ?_ (pre.push oL).size _ (Ts 0) (Hs 0) ρ _ a (by simp) (by simp) (by simp [qJW]) ?_)
 ·intro a' w' ρ' h1 h2 h3 h4 h5
  exact hQ a' w' ρ' ⟨h1,h2,h3⟩ h4 h5
 ·have hno:∀ i,i < pre.size→¬ (i < pre.size∧Done (Array.replicate (pre.push oL).size false) i):=by
   intro i hi hd
   have:=hd.2
   unfold Done at this
   simp [show i < pre.size+1 by omega] at this
  have hle:∀ i k,i≤k→k≤pre.size→(Hs i).next≤(Hs k).next:=λi k h1 h2=>by
   have:=tr.next_le (k - i) i (by omega)
   rwa [show i+(k - i)=k from by omega] at this
  refine ⟨?_,?_,?_,rfl,?_,.refl _ _ _,?_,?_,hT,rfl⟩
  ·intro j o ho hj
   exact absurd hj (hno j (Array.getElem?_eq_some_iff.1 ho).1)
  ·intro i
   have:∀ n,n≤pre.size→cut Hs es (λi=>i < pre.size∧Done (Array.replicate (pre.push oL).size false) i) n i=(Hs 0).blks.get i:=by
    intro n
    induction n with
    | zero=>intro _;rfl
    | succ n ih2=>intro hn;rw [qJJ (λk=>absurd k (hno n (by omega))),ih2 (by omega)]
   rw [this _ (Nat.le_refl _)]
  ·intro t
   have:∀ n,n≤pre.size→cutT pre Ts vs (λi=>i < pre.size∧Done (Array.replicate (pre.push oL).size false) i) n t=tget (Ts 0) t:=by
    intro n
    induction n with
    | zero=>intro _;rfl
    | succ n ih2=>intro hn;rw [qGS (λk=>absurd k (hno n (by omega))),ih2 (by omega)]
   rw [this _ (Nat.le_refl _)]
  ·intro j hj _ i h1 h2
   exact hf i (Nat.le_trans (hle 0 j (by omega) (by omega)) h1) (Nat.lt_of_lt_of_le h2 (hle (j+1) pre.size (by omega) (by omega)))
  ·obtain ⟨x1,x2,x3,x4⟩:=hwr
   exact ⟨x1,x2,x3,x4⟩
  ·exact ⟨rfl,rfl,rfl,Nat.le_refl _,λ_ _=>rfl⟩
end
end Go.AM
namespace Go.AM
open Go Go.RowKit
inductive PO where
 | done (o:Out)
 | pan (v:AV) (T:Tmps) (ms:List Mk)
inductive PTask where
 | code (nt:Nat) (c:Code) (T:Tmps) (ms:List Mk)
 | call (f:FuncId) (args:List AV)
section
variable (P : Program) (X : Td) (S : FuncId → Bool)
def setP (nt:Nat) (T:Tmps) (ms:List Mk) (dst:Option Tmp) (v:AV):M PO:=bd (lift (setT nt T dst v)) λT=>ret (.done (.exit .nrm T ms))
def zAAS (nt:Nat) (T:Tmps) (ms:List Mk) (dst:Option Tmp):PO→M PO
 | .done (.val v)=>setP nt T ms dst v
 | .pan v _ _=>ret (.pan v T ms)
 | _=>fail
def isS (T:Tmps) (c:Call):Bool:=match c.callee with
 | .value f=>match ev T f with
   | some (.fn (.func k) _ _)=>S k
   | _=>false
 | _=>false
def qL8 (ih:PTask→M PO) (nt:Nat) (T:Tmps) (ms:List Mk) (dst:Option Tmp) (nx:ANext):M PO:=match nx with
 | .enter f args=>bd (ih (.call f args)) (zAAS nt T ms dst)
 | _=>fail
def qF0 (old:Task→M Out) (nt:Nat) (all:List Oper) (o:Oper) (T:Tmps) (ms:List Mk):M PO:=bd (qHf P old nt all o T) λT=>ret (.done (.exit .nrm T ms))
def opP (old:Task→M Out) (ih:PTask→M PO) (nt:Nat) (all:List Oper) (o:Oper) (T:Tmps) (ms:List Mk):M PO:=match qBf all T o.guard with
 | some true=>match o.op with
   | .panic x=>match ev T x with
     | some (.ifc t v)=>ret (.pan (.ifc t v) T ms)
     | _=>fail
   | .call c=>cond (isS S T c) (bd (opA P T (.call c)) (qL8 ih nt T ms o.dst)) (qF0 P old nt all o T ms)
   | _=>qF0 P old nt all o T ms
 | _=>qF0 P old nt all o T ms
def opsP (old:Task→M Out) (ih:PTask→M PO) (nt:Nat) (all:List Oper) (ms:List Mk):List Oper→Tmps→M PO
 | [],T=>ret (.done (.exit .nrm T ms))
 | o :: os,T=>bd (opP P S old ih nt all o T ms) λr=>match r with
   | .done (.exit .nrm T _)=>opsP old ih nt all ms os T
   | r=>ret r
def qSJ (ops:List Oper):Bool:=match ops.getLast? with
 | some o=>match o.guard,o.op with
   | none,.call c=>(match c.callee with
     | .value (.func k)=>S k
     | _=>false)
   | _,_=>false
 | none=>false
def qPA (ops:Array Oper):Bool:=qBp ops.toList&&(qBp ops.pop.toList&&(qKB ops.pop.toList&&zABi ops.toList ops.pop.size))
def oldP (old:Task→M Out) (nt:Nat) (c:Code) (T:Tmps) (ms:List Mk):M PO:=bd (old (.code nt none c T ms)) λo=>ret (.done o)
def qJC (old:Task→M Out) (ih:PTask→M PO) (nt:Nat) (c:Code) (T:Tmps) (ms:List Mk):M PO:=match c with
 | .region id ops draw=>cond (draw&&qSJ S ops.toList)
   (cond (qPA ops) (bd (opsD P old nt ops.pop ops.pop.toList (masks ops.pop.toList []) [] T) λT=>opsP P S old ih nt ops.toList ms (ops.toList.drop ops.pop.size) T) fail)
   (cond (draw||(qBN ops.toList).isSome) (oldP old nt (.region id ops draw) T ms) (opsP P S old ih nt ops.toList ms ops.toList T))
 | .seq a b=>bd (ih (.code nt a T ms)) λr=>match r with
   | .done (.exit .nrm T ms)=>ih (.code nt b T ms)
   | r=>ret r
 | .cond x a b=>match ev T x with
   | some (.bool t)=>ih (.code nt (cond t a b) T ms)
   | _=>fail
 | .block id b=>bd (ih (.code nt b T ms)) λr=>match r with
   | .done (.exit (.exit id') T ms)=>cond (Nat.beq id' id) (ret (.done (.exit .nrm T ms))) (ret (.done (.exit (.exit id') T ms)))
   | r=>ret r
 | .loop b=>match qBM b with
   | some _=>oldP old nt (.loop b) T ms
   | none=>bd (ih (.code nt b T ms)) λr=>match r with
     | .done (.exit .nrm T ms)=>ih (.code nt (.loop b) T ms)
     | r=>ret r
 | c=>oldP old nt c T ms
def qMk (fn:Func) (T:Tmps) (v:AV) (c:Code):Option (Code × Tmps):=match qGz c with
 | some (t,rest)=>cond (Nat.blt t fn.ntmps) (some (rest,T.put t (some v))) none
 | none=>none
def qH5 (old:Task→M Out) (k:FuncId) (args:List AV) (v:AV):M Unit:=match P.funcs[k]? with
 | some fn=>match fn.body,fn.results.toList with
   | some c,[]=>cond (Nat.ble args.length fn.ntmps) (match qMk fn (Tr.ofListAt .nil 0 args) v c with
     | some p=>bd (old (.code fn.ntmps none p.1 p.2 [])) qKV
     | none=>fail) fail
   | _,_=>fail
 | none=>fail
def endP (old:Task→M Out) (rs:List ResultVar):PO→M PO
 | .done (.exit e T ms)=>match e with
   | .exit _=>fail
   | _=>bd (qAx P old ms) λ_=>bd (qBB P T rs) λvs=>ret (.done (.val (oneV vs)))
 | .pan v T ms=>match ms with
   | []=>ret (.pan v .nil [])
   | [.call k as]=>bd (qH5 P old k as v) λ_=>bd (qBB P T rs) λvs=>ret (.done (.val (oneV vs)))
   | _=>fail
 | _=>fail
def fnP (old:Task→M Out) (ih:PTask→M PO) (f:FuncId) (args:List AV):M PO:=match P.funcs[f]? with
 | some fn=>match fn.body with
   | some c=>cond (Nat.ble args.length fn.ntmps) (bd (ih (.code fn.ntmps c (Tr.ofListAt .nil 0 args) [])) (endP P old fn.results.toList)) fail
   | none=>fail
 | none=>fail
def runP:Nat→PTask→M PO
 | 0,_=>fail
 | n+1,.code nt c T ms=>qJC P S (run P X n) (runP n) nt c T ms
 | n+1,.call f args=>fnP P (run P X n) (runP n) f args
end
section
variable {P : Program} {X : Td} {S : FuncId → Bool} {old old' : Task → M Out} {ih ih' : PTask → M PO}
theorem zABv (nt:Nat) (T:Tmps) (ms:List Mk) (dst:Option Tmp) (v:AV):Fr (setP nt T ms dst v):=qA3 (qGa _) λ_=>qAl _
theorem qZ0 (nt:Nat) (T:Tmps) (ms:List Mk) (dst:Option Tmp) (r:PO):Fr (zAAS nt T ms dst r):=by
 unfold zAAS;split
 ·exact zABv _ _ _ _ _
 ·exact qAl _
 ·exact qAe
theorem qVQ (hi:∀ t,Fr (ih t)) (nt:Nat) (T:Tmps) (ms:List Mk) (dst:Option Tmp) (nx:ANext):Fr (qL8 ih nt T ms dst nx):=by
 unfold qL8;split
 ·exact qA3 (hi _) λ_=>qZ0 _ _ _ _ _
 ·exact qAe
theorem qNr (ho:∀ t,Fr (old t)) (nt:Nat) (all:List Oper) (o:Oper) (T:Tmps) (ms:List Mk):Fr (qF0 P old nt all o T ms):=qA3 (qKk P ho _ _ _ _) λ_=>qAl _
theorem zABm (ho:∀ t,Fr (old t)) (hi:∀ t,Fr (ih t)) (nt:Nat) (all:List Oper) (o:Oper) (T:Tmps) (ms:List Mk):Fr (opP P S old ih nt all o T ms):=by
 unfold opP;split
 ·split
  ·split
   ·exact qAl _
   ·exact qAe
  ·exact qAy _ (qA3 (qVP P _ _) λ_=>qVQ hi _ _ _ _ _) (qNr ho _ _ _ _ _)
  ·exact qNr ho _ _ _ _ _
 ·exact qNr ho _ _ _ _ _
theorem qMh (ho:∀ t,Fr (old t)) (hi:∀ t,Fr (ih t)) (nt:Nat) (all:List Oper) (ms:List Mk):∀ (os:List Oper) (T:Tmps),Fr (opsP P S old ih nt all ms os T)
 | [],_=>qAl _
 | o :: os,T=>qA3 (zABm ho hi _ _ _ _ _) λr=>by
   split
   ·exact qMh ho hi nt all ms os _
   ·exact qAl _
theorem qTB (ho:∀ t,Fr (old t)) (nt:Nat) (c:Code) (T:Tmps) (ms:List Mk):Fr (oldP old nt c T ms):=qA3 (ho _) λ_=>qAl _
theorem zAAb (ho:∀ t,Fr (old t)) (hi:∀ t,Fr (ih t)) (nt:Nat) (c:Code) (T:Tmps) (ms:List Mk):Fr (qJC P S old ih nt c T ms):=by
 unfold qJC
 split
 ·exact qAy _ (qAy _ (qA3 (qOI P ho _ _ _ _ _ _) λ_=>qMh ho hi _ _ _ _ _) qAe) (qAy _ (qTB ho _ _ _ _) (qMh ho hi _ _ _ _ _))
 ·exact qA3 (hi _) λr=>by split;exact hi _;exact qAl _
 ·split;exact hi _;exact qAe
 ·exact qA3 (hi _) λr=>by split;exact qAy _ (qAl _) (qAl _);exact qAl _
 ·split
  ·exact qTB ho _ _ _ _
  ·exact qA3 (hi _) λr=>by split;exact hi _;exact qAl _
 ·exact qTB ho _ _ _ _
theorem qR0 (ho:∀ t,Fr (old t)) (k:FuncId) (args:List AV) (v:AV):Fr (qH5 P old k args v):=by
 unfold qH5
 repeat' first | exact qAe | (refine qAy _ ?_ ?_) | (refine qA3 (ho _) λ_=>?_) | split
 unfold qKV
 repeat' first | exact qAe | exact qAl _ | split
theorem zAC3 (ho:∀ t,Fr (old t)) (rs:List ResultVar) (r:PO):Fr (endP P old rs r):=by
 unfold endP
 split
 ·split
  ·exact qAe
  ·exact qA3 (qCC P ho _) λ_=>qA3 (qCM P _ _) λ_=>qAl _
 ·split
  ·exact qAl _
  ·exact qA3 (qR0 ho _ _ _) λ_=>qA3 (qCM P _ _) λ_=>qAl _
  ·exact qAe
 ·exact qAe
theorem zAD1 (ho:∀ t,Fr (old t)) (hi:∀ t,Fr (ih t)) (f:FuncId) (args:List AV):Fr (fnP P old ih f args):=by
 unfold fnP
 split
 ·split
  ·exact qAy _ (qA3 (hi _) λ_=>zAC3 ho _ _) qAe
  ·exact qAe
 ·exact qAe
theorem qPe (hX:FrX X):∀ (n:Nat) (t:PTask),Fr (runP P X S n t)
 | 0,_=>qAe
 | n+1,.code nt c T ms=>zAAb (qEr P hX n) (qPe hX n) nt c T ms
 | n+1,.call f args=>zAD1 (qEr P hX n) (qPe hX n) f args
theorem qUk (hi:∀ t,LeM (ih t) (ih' t)) (nt:Nat) (T:Tmps) (ms:List Mk) (dst:Option Tmp) (nx:ANext):LeM (qL8 ih nt T ms dst nx) (qL8 ih' nt T ms dst nx):=by
 unfold qL8;split
 ·exact LeM.bd (hi _) λ_=>LeM.refl _
 ·exact LeM.refl _
theorem qNi (ho:∀ t,LeM (old t) (old' t)) (nt:Nat) (all:List Oper) (o:Oper) (T:Tmps) (ms:List Mk):LeM (qF0 P old nt all o T ms) (qF0 P old' nt all o T ms):=LeM.bd (qIu ho _ _ _ _) λ_=>LeM.refl _
theorem zABn (ho:∀ t,LeM (old t) (old' t)) (hi:∀ t,LeM (ih t) (ih' t)) (nt:Nat) (all:List Oper) (o:Oper) (T:Tmps) (ms:List Mk):LeM (opP P S old ih nt all o T ms) (opP P S old' ih' nt all o T ms):=by
 unfold opP;split
 ·split
  ·exact LeM.refl _
  ·exact LeM.cond (LeM.bd (LeM.refl _) λ_=>qUk hi _ _ _ _ _) (qNi ho _ _ _ _ _)
  ·exact qNi ho _ _ _ _ _
 ·exact qNi ho _ _ _ _ _
theorem qN2 (ho:∀ t,LeM (old t) (old' t)) (hi:∀ t,LeM (ih t) (ih' t)) (nt:Nat) (all:List Oper) (ms:List Mk):∀ (os:List Oper) (T:Tmps),LeM (opsP P S old ih nt all ms os T) (opsP P S old' ih' nt all ms os T)
 | [],_=>LeM.refl _
 | o :: os,T=>LeM.bd (zABn ho hi _ _ _ _ _) λr=>by
   split
   ·exact qN2 ho hi nt all ms os _
   ·exact LeM.refl _
theorem qTb (ho:∀ t,LeM (old t) (old' t)) (nt:Nat) (c:Code) (T:Tmps) (ms:List Mk):LeM (oldP old nt c T ms) (oldP old' nt c T ms):=LeM.bd (ho _) λ_=>LeM.refl _
theorem zAAk (ho:∀ t,LeM (old t) (old' t)) (hi:∀ t,LeM (ih t) (ih' t)) (nt:Nat) (c:Code) (T:Tmps) (ms:List Mk):LeM (qJC P S old ih nt c T ms) (qJC P S old' ih' nt c T ms):=by
 unfold qJC
 split
 ·exact LeM.cond (LeM.cond (LeM.bd (qP4 ho _ _ _ _ _ _) λ_=>qN2 ho hi _ _ _ _ _) (LeM.refl _)) (LeM.cond (qTb ho _ _ _ _) (qN2 ho hi _ _ _ _ _))
 ·exact LeM.bd (hi _) λr=>by split;exact hi _;exact LeM.refl _
 ·split;exact hi _;exact LeM.refl _
 ·exact LeM.bd (hi _) λr=>LeM.refl _
 ·split
  ·exact qTb ho _ _ _ _
  ·exact LeM.bd (hi _) λr=>by split;exact hi _;exact LeM.refl _
 ·exact qTb ho _ _ _ _
theorem qSn (ho:∀ t,LeM (old t) (old' t)) (k:FuncId) (args:List AV) (v:AV):LeM (qH5 P old k args v) (qH5 P old' k args v):=by
 unfold qH5
 repeat' first | exact LeM.refl _ | (refine LeM.cond ?_ ?_) | (refine LeM.bd (ho _) λ_=>?_) | split
theorem qTY (ho:∀ t,LeM (old t) (old' t)) (rs:List ResultVar) (r:PO):LeM (endP P old rs r) (endP P old' rs r):=by
 unfold endP
 split
 ·split
  ·exact LeM.refl _
  ·exact LeM.bd (qCB ho _) λ_=>LeM.refl _
 ·split
  ·exact LeM.refl _
  ·exact LeM.bd (qSn ho _ _ _) λ_=>LeM.refl _
  ·exact LeM.refl _
 ·exact LeM.refl _
theorem zADY (ho:∀ t,LeM (old t) (old' t)) (hi:∀ t,LeM (ih t) (ih' t)) (f:FuncId) (args:List AV):LeM (fnP P old ih f args) (fnP P old' ih' f args):=by
 unfold fnP
 split
 ·split
  ·exact LeM.cond (LeM.bd (hi _) λ_=>qTY ho _ _) (LeM.refl _)
  ·exact LeM.refl _
 ·exact LeM.refl _
theorem qGM:∀ (n:Nat) (t:PTask),LeM (runP P X S n t) (runP P X S (n+1) t)
 | 0,_=>λ_ _ h=>by cases h
 | n+1,.code nt c T ms=>zAAk (qB3 n) (qGM n) nt c T ms
 | n+1,.call f args=>zADY (qB3 n) (qGM n) f args
theorem qC7 (t:PTask):Mono λn=>runP P X S n t:=qBF λn=>qGM n t
end
end Go.AM
namespace Go.AM
open Go Go.RowKit
section
variable {P : Program} {σ : Nat → Value} {ρ : Ren} {base nt : Nat} {H H' : AH} {w : World} {T : Tmps} {a : Act} {old : Task → M Out} {ih : PTask → M PO} {S : FuncId → Bool}
def qJv (v:Value):List PanicEntry:=[{ v,recovered:=false }]
def zACS (P:Program) (n nt:Nat) (c:Code) (T:Tmps) (ms:List Mk) (H:AH) (r:PO) (H':AH):Prop:=
 (∃ e T' ms',r=.done (.exit e T' ms')∧∀ (σ:Nat→Value) (ρ:Ren) (base:Nat) (w:World) (a:Act) (Q:Exit→Act→World→Prop),One σ→WR σ ρ base H w→Free ρ H.next H'.next→TRel σ ρ nt T a.tmps→DRel σ ρ ms a.defers→
  (∀ a' w' ρ',CodePost σ ρ base nt H H' w T' ms' ρ' a' w'→Q (qRT e) a' w')→ACode none n P c Q a w)∨
 ∃ v T' ms',r=.pan v T' ms'∧∀ (σ:Nat→Value) (ρ:Ren) (base:Nat) (w:World) (a:Act) (Q:Exit→Act→World→Prop),One σ→WR σ ρ base H w→Free ρ H.next H'.next→TRel σ ρ nt T a.tmps→DRel σ ρ ms a.defers→
  (∀ a' w' ρ' v',CodePost σ ρ base nt H H' w T' ms' ρ' a' w'→Rel σ ρ' v v'→Q (.panic (qJv v')) a' w')→ACode none n P c Q a w
def qTa (σ:Nat→Value) (ρ:Ren) (base:Nat) (H H':AH) (w:World) (v:AV):Ending→World→Prop:=
 λe w'=>∃ v' ρ',e=.panicked (qJv v')∧Post σ ρ ρ' base H H' w w'∧Rel σ ρ' v v'
def FnP (P:Program) (f:FuncId) (args:List AV) (H:AH) (r:PO) (H':AH):Prop:=
 (∃ v,r=.done (.val v)∧∀ (σ:Nat→Value) (ρ:Ren) (base:Nat) (w:World) (args':Array Value),One σ→WR σ ρ base H w→Free ρ H.next H'.next→RelL σ ρ args args'.toList→CallsIn Fence.wide 0 P f args' w (qBl σ ρ base H H' w v))∨
 ∃ v,r=.pan v .nil []∧∀ (σ:Nat→Value) (ρ:Ren) (base:Nat) (w:World) (args':Array Value),One σ→WR σ ρ base H w→Free ρ H.next H'.next→RelL σ ρ args args'.toList→CallsIn Fence.wide 0 P f args' w (qTa σ ρ base H H' w v)
def OKP (P:Program) (n:Nat) (ih:PTask→M PO):Prop:=(∀ (nt:Nat) (c:Code) (T:Tmps) (ms:List Mk) (H:AH) (r:PO) (H':AH),ih (.code nt c T ms) H=some (r,H')→zACS P n nt c T ms H r H')∧
 ∀ (f:FuncId) (args:List AV) (H:AH) (r:PO) (H':AH),ih (.call f args) H=some (r,H')→FnP P f args H r H'
theorem qI5 (hfr:∀ t,Fr (ih t)) {t:PTask} {r:PO} (h:ih t H=some (r,H')):H.next≤H'.next:=by obtain ⟨es,d,_⟩:=hfr t H r H' h;exact d.next
def OpsP (P:Program) (nt:Nat) (ops:Array Oper) (l:List Nat) (T:Tmps) (ms:List Mk) (H:AH) (r:PO) (H':AH):Prop:=
 (∃ T',r=.done (.exit .nrm T' ms)∧∀ (σ:Nat→Value) (ρ:Ren) (base:Nat) (w:World) (a:Act) (Q:Exit→Act→World→Prop) (rest:List Nat),One σ→WR σ ρ base H w→Free ρ H.next H'.next→TRel σ ρ nt T a.tmps→
  (∀ a' w' ρ',Post σ ρ ρ' base H H' w w'→TRel σ ρ' nt T' a'.tmps→a'.defers=a.defers→wpOpsIn (FR none) 0 P ops Q rest a' w')→wpOpsIn (FR none) 0 P ops Q (l ++ rest) a w)∨
 ∃ v T',r=.pan v T' ms∧∀ (σ:Nat→Value) (ρ:Ren) (base:Nat) (w:World) (a:Act) (Q:Exit→Act→World→Prop) (rest:List Nat),One σ→WR σ ρ base H w→Free ρ H.next H'.next→TRel σ ρ nt T a.tmps→
  (∀ a' w' ρ' v',Post σ ρ ρ' base H H' w w'→TRel σ ρ' nt T' a'.tmps→a'.defers=a.defers→Rel σ ρ' v v'→Q (.panic (qJv v')) a' w')→wpOpsIn (FR none) 0 P ops Q (l ++ rest) a w
theorem qMF (hc:qFf P old) (hr:qDa P old) (hname:qDn P) (hfr:∀ t,Fr (old t)) {ops:Array Oper} {k:Nat} {o:Oper} {ms:List Mk} {r:PO} (ho:ops[k]?=some o) (h:qF0 P old nt ops.toList o T ms H=some (r,H')):OpsP P nt ops [k] T ms H r H':=by
 obtain ⟨T1,K,h1,h2⟩:=qAN h
 cases qAG h2
 obtain ⟨v,h3,h4⟩:=qKm h1
 refine .inl ⟨T1,rfl,λσ ρ base w a Q rest hσ hwr hf hT hQ=>?_⟩
 simp only [List.cons_append,List.nil_append,wpOpsIn,ho]
 refine qQE hc hr hname h3 hfr hT hσ hwr hf λv' w1 ρ1 hp hv=>?_
 exact hQ _ w1 ρ1 hp (qFU h4 (hT.mono hp.ext.le) hv) (qB4 _ _ _)
theorem zADy (hc:qFf P old) (hr:qDa P old) (hname:qDn P) (hfr:∀ t,Fr (old t)) {n:Nat} (hi:OKP P n ih) (hfi:∀ t,Fr (ih t)) {ops:Array Oper} {k:Nat} {o:Oper} {ms:List Mk} {r:PO} (ho:ops[k]?=some o) (h:opP P S old ih nt ops.toList o T ms H=some (r,H')):OpsP P nt ops [k] T ms H r H':=by
 unfold opP at h
 cases hw:qBf ops.toList T o.guard with
 | none=>simp only [hw] at h;exact qMF hc hr hname hfr ho h
 | some wb=>
 cases wb with
 | false=>simp only [hw] at h;exact qMF hc hr hname hfr ho h
 | true=>
 simp only [hw] at h
 cases hop:o.op with
 | panic x=>
   simp only [hop] at h
   generalize hx:ev T x=y at h
   have bad:(fail:M PO) H=some (r,H')→False:=λh=>qAB h
   cases y with
   | none=>exact (bad h).elim
   | some y=>
   cases y <;> try exact (bad h).elim
   case ifc t v=>
   cases qAG h
   refine .inr ⟨_,T,rfl,λσ ρ base w a Q rest hσ hwr hf hT hQ=>?_⟩
   simp only [List.cons_append,List.nil_append,wpOpsIn,ho]
   rw [if_pos (qIm hw hT)]
   refine ⟨qCW,?_⟩
   have hv:=qAu (a:=a) hx hT
   have hv':=hv
   unfold Rel at hv'
   obtain ⟨y,hy,_⟩:=hv'
   have e1:((o.semAt (FR none).round a.eval).run P w)=.halt (.panic (a.eval x)) w:=by
    show ((o.semAt none a.eval).run P w)=_
    rw [Oper.semAt_none]
    simp only [execOp,hop]
    rw [hy]
    rfl
   rw [e1,Oper.uponIn_panic]
   exact hQ a w ρ _ ⟨.refl _ _ _,hwr,.refl _ _⟩ hT rfl hv
 | call c=>
   simp only [hop] at h
   cases hS:isS S T c with
   | false=>rw [hS,cond_false] at h;exact qMF hc hr hname hfr ho h
   | true=>
   rw [hS,cond_true] at h
   obtain ⟨nx,K,h1,h2⟩:=qAN h
   have m1:H.next≤K.next:=by obtain ⟨es,d,_⟩:=qVP P T (.call c) H nx K h1;exact d.next
   have m2:K.next≤H'.next:=by obtain ⟨es,d,_⟩:=qVQ hfi nt T ms o.dst nx K r H' h2;exact d.next
   unfold qL8 at h2
   cases nx with
   | val u=>exact (qAB h2).elim
   | round l args=>exact (qAB h2).elim
   | enter f args=>
   simp only at h2
   obtain ⟨q,K2,h3,h4⟩:=qAN h2
   have m3:K.next≤K2.next:=qI5 hfi h3
   have step:∀ (σ:Nat→Value) (ρ:Ren) (base:Nat) (w:World) (a:Act),One σ→WR σ ρ base H w→Free ρ H.next K2.next→TRel σ ρ nt T a.tmps→
     ∃ w1 ρ1 args',Post σ ρ ρ1 base H K w w1∧RelL σ ρ1 args args'.toList∧((o.semAt (FR none).round a.eval).run P w)=.ok (.enter f args') w1:=by
    intro σ ρ base w a hσ hwr hf hT
    obtain ⟨nx',w1,ρ1,e1,x1,x2,x3,x4⟩:=zADs (P:=P) (a:=a) (o:=o) hname (by rw [hop];exact h1) hT hσ hwr (hf.left m3)
    obtain ⟨args',rfl,hargs⟩:=x4
    refine ⟨w1,ρ1,args',⟨x1,x2,x3⟩,hargs,?_⟩
    show ((o.semAt none a.eval).run P w)=_
    rw [Oper.semAt_none]
    exact e1
   rcases hi.2 f args K q K2 h3 with ⟨v,rfl,hv⟩ | ⟨v,rfl,hv⟩
   ·obtain ⟨T1,K3,h5,h6⟩:=qAN h4
    obtain ⟨T2,h7,e⟩:=qBv h5
    cases e
    cases qAG h6
    refine .inl ⟨T1,rfl,λσ ρ base w a Q rest hσ hwr hf hT hQ=>?_⟩
    simp only [List.cons_append,List.nil_append,wpOpsIn,ho]
    rw [if_pos (qIm hw hT)]
    obtain ⟨w1,ρ1,args',p1,hargs,e1⟩:=step σ ρ base w a hσ hwr hf hT
    refine ⟨qCW,?_⟩
    rw [e1,Oper.uponIn_enter]
    refine ⟨λh=>by simp [FR,Fence.wide] at h,?_⟩
    have h8:CallsIn (FR none) 0 P f args' w1 (qBl σ ρ1 base K H' w1 v):=hv σ ρ1 base w1 args' hσ p1.wr (p1.ext.free hf m1) hargs
    refine h8.mono ?_
    rintro e w2 ⟨v',ρ',rfl,hp,hv'⟩
    have pall:=p1.trans hp m1 m3
    exact hQ _ w2 ρ' pall (qFU h7 (hT.mono pall.ext.le) hv') (qB4 _ _ _)
   ·cases qAG h4
    refine .inr ⟨v,T,rfl,λσ ρ base w a Q rest hσ hwr hf hT hQ=>?_⟩
    simp only [List.cons_append,List.nil_append,wpOpsIn,ho]
    rw [if_pos (qIm hw hT)]
    obtain ⟨w1,ρ1,args',p1,hargs,e1⟩:=step σ ρ base w a hσ hwr hf hT
    refine ⟨qCW,?_⟩
    rw [e1,Oper.uponIn_enter]
    refine ⟨λh=>by simp [FR,Fence.wide] at h,?_⟩
    have h8:CallsIn (FR none) 0 P f args' w1 (qTa σ ρ1 base K H' w1 v):=hv σ ρ1 base w1 args' hσ p1.wr (p1.ext.free hf m1) hargs
    refine h8.mono ?_
    rintro e w2 ⟨v',ρ',rfl,hp,hv'⟩
    have pall:=p1.trans hp m1 m3
    exact hQ a w2 ρ' v' pall (hT.mono pall.ext.le) rfl hv'
 | _=>
   simp only [hop] at h
   exact qMF hc hr hname hfr ho h
theorem qTh (hc:qFf P old) (hr:qDa P old) (hname:qDn P) (hfr:∀ t,Fr (old t)) {n:Nat} (hi:OKP P n ih) (hfi:∀ t,Fr (ih t)) {ops:Array Oper} {ms:List Mk}:∀ (os:List Oper) (k:Nat) (T:Tmps) (H:AH) (r:PO) (H':AH),(∀ j,j < os.length→os[j]?=ops[k+j]?)→opsP P S old ih nt ops.toList ms os T H=some (r,H')→OpsP P nt ops (List.range' k os.length) T ms H r H'
 | [],k,T,H,r,H',_,h=>by
   cases qAG h
   exact .inl ⟨T,rfl,λσ ρ base w a Q rest hσ hwr hf hT hQ=>hQ a w ρ ⟨.refl _ _ _,hwr,.refl _ _⟩ hT rfl⟩
 | o :: os,k,T,H,r,H',hk,h=>by
   obtain ⟨q,K,h1,h2⟩:=qAN h
   have h0:ops[k]?=some o:=by have:=hk 0 (by simp);simpa using this.symm
   have m1:H.next≤K.next:=by obtain ⟨es,d,_⟩:=zABm (P:=P) (S:=S) hfr hfi nt ops.toList o T ms H q K h1;exact d.next
   have er:List.range' k (o :: os).length=k :: List.range' (k+1) os.length:=by rw [List.length_cons,List.range'_succ]
   rw [er]
   rcases zADy hc hr hname hfr hi hfi h0 h1 with ⟨T1,rfl,k1⟩ | ⟨v,T1,rfl,k1⟩
   ·have m2:K.next≤H'.next:=by obtain ⟨es,d,_⟩:=qMh (P:=P) (S:=S) hfr hfi nt ops.toList ms os T1 K r H' h2;exact d.next
    rcases qTh hc hr hname hfr hi hfi os (k+1) T1 K r H' (λj hj=>by have:=hk (j+1) (by simpa using hj);rw [show k+1+j=k+(j+1) from by omega];simpa using this) h2 with ⟨T2,rfl,k2⟩ | ⟨v,T2,rfl,k2⟩
    ·refine .inl ⟨T2,rfl,λσ ρ base w a Q rest hσ hwr hf hT hQ=>?_⟩
     refine k1 σ ρ base w a Q (List.range' (k+1) os.length ++ rest) hσ hwr (hf.left m2) hT λa1 w1 ρ1 p1 t1 d1=>?_
     refine k2 σ ρ1 base w1 a1 Q rest hσ p1.wr (p1.ext.free hf m1) t1 λa2 w2 ρ2 p2 t2 d2=>?_
     exact hQ a2 w2 ρ2 (p1.trans p2 m1 m2) t2 (d2.trans d1)
    ·refine .inr ⟨v,T2,rfl,λσ ρ base w a Q rest hσ hwr hf hT hQ=>?_⟩
     refine k1 σ ρ base w a Q (List.range' (k+1) os.length ++ rest) hσ hwr (hf.left m2) hT λa1 w1 ρ1 p1 t1 d1=>?_
     refine k2 σ ρ1 base w1 a1 Q rest hσ p1.wr (p1.ext.free hf m1) t1 λa2 w2 ρ2 v' p2 t2 d2 hv=>?_
     exact hQ a2 w2 ρ2 v' (p1.trans p2 m1 m2) t2 (d2.trans d1) hv
   ·cases qAG h2
    refine .inr ⟨v,T1,rfl,λσ ρ base w a Q rest hσ hwr hf hT hQ=>?_⟩
    exact k1 σ ρ base w a Q (List.range' (k+1) os.length ++ rest) hσ hwr hf hT hQ
end
end Go.AM
namespace Go.AM
open Go Go.RowKit
section
variable {P : Program} {σ : Nat → Value} {ρ : Ren} {base nt : Nat} {H H' : AH} {w : World} {T : Tmps} {a : Act} {old : Task → M Out} {ih : PTask → M PO} {S : FuncId → Bool} {n : Nat}
theorem qZa {r:Option Nat} {c:Code} {Q:Exit→Act→World→Prop} (h:ACode r n P c Q a w) (hm:∀ b,c=.loop b→(qBM b).isSome=true):ACode r (n+1) P c Q a w:=by
 cases c <;> try exact h
 case loop b=>
 have:=hm b rfl
 unfold ACode at h ⊢
 simp only at h ⊢
 cases e:qBM b with
 | none=>rw [e] at this;cases this
 | some s=>rw [e] at h;exact h
theorem qTd (hco:qDq P n old) {c:Code} (hm:∀ b,c=.loop b→(qBM b).isSome=true) {ms:List Mk} {r:PO} (h:oldP old nt c T ms H=some (r,H')):zACS P (n+1) nt c T ms H r H':=by
 obtain ⟨o,K,h1,h2⟩:=qAN h
 cases qAG h2
 obtain ⟨e,T',ms',rfl,k⟩:=hco _ _ _ _ _ _ _ _ h1
 exact .inl ⟨e,T',ms',rfl,λσ ρ base w a Q hσ hwr hf hT hd hQ=>qZa (k σ ρ base w a none Q hσ hwr hf hT rfl hd hQ) hm⟩
theorem qZO {ops:Array Oper} (h:qSJ S ops.toList=true):∃ oL,ops=ops.pop.push oL∧ops.toList.drop ops.pop.size=[oL]:=by
 unfold qSJ at h
 cases e:ops.toList.getLast? with
 | none=>rw [e] at h;cases h
 | some oL=>
   have h1:ops.toList=ops.toList.dropLast ++ [oL]:=by
    have hne:ops.toList≠[]:=λq=>by rw [q] at e;cases e
    rw [List.getLast?_eq_some_getLast hne] at e
    have:=(List.dropLast_concat_getLast hne).symm
    rw [Option.some.inj e] at this
    exact this
   refine ⟨oL,?_,?_⟩
   ·apply Array.toList_inj.1
    rw [Array.toList_push,Array.toList_pop]
    exact h1
   ·have h2:ops.pop.size=ops.toList.dropLast.length:=by simp
    rw [h2]
    conv=>lhs;rw [h1]
    simp
theorem zAAX (hmo:P.follows .mixedOrders=true) (hco:qDq P n old) (hc:qFf P old) (hr:qDa P old) (hname:qDn P) (hfr:∀ t,Fr (old t)) (hi:OKP P n ih) (hfi:∀ t,Fr (ih t)) {c:Code} {ms:List Mk} {r:PO} (h:qJC P S old ih nt c T ms H=some (r,H')):zACS P (n+1) nt c T ms H r H':=by
 cases c with
 | region id ops draw=>
   have e0:qJC P S old ih nt (.region id ops draw) T ms=cond (draw&&qSJ S ops.toList)
    (cond (qPA ops) (bd (opsD P old nt ops.pop ops.pop.toList (masks ops.pop.toList []) [] T) λT=>opsP P S old ih nt ops.toList ms (ops.toList.drop ops.pop.size) T) fail)
    (cond (draw||(qBN ops.toList).isSome) (oldP old nt (.region id ops draw) T ms) (opsP P S old ih nt ops.toList ms ops.toList T)):=rfl
   rw [e0] at h
   cases hdl:(draw&&qSJ S ops.toList) with
   | true=>
     rw [hdl,cond_true] at h
     obtain ⟨hd1,hl⟩:=Bool.and_eq_true_iff.1 hdl
     subst hd1
     obtain ⟨hok,h⟩:=qAj h
     obtain ⟨T1,K,h1,h2⟩:=qAN h
     obtain ⟨oL,hpush,hdrop⟩:=qZO hl
     unfold qPA at hok
     simp only [Bool.and_eq_true] at hok
     obtain ⟨k1,k2,k3,k4⟩:=hok
     rw [hdrop] at h2
     have m1:H.next≤K.next:=by obtain ⟨es,d,_⟩:=qOI P hfr nt ops.pop ops.pop.toList (masks ops.pop.toList []) [] T H T1 K h1;exact d.next
     have m2:K.next≤H'.next:=by obtain ⟨es,d,_⟩:=qMh (P:=P) (S:=S) hfr hfi nt ops.toList ms [oL] T1 K r H' h2;exact d.next
     have hget:ops[ops.pop.size]?=some oL:=by
      have q:(ops.pop.push oL)[ops.pop.size]?=some oL:=by rw [Array.getElem?_push,if_pos rfl]
      rwa [← hpush] at q
     have hk:∀ j,j < [oL].length→[oL][j]?=ops[ops.pop.size+j]?:=λj hj=>by
      have:j=0:=by simpa using hj
      subst this
      simpa using hget.symm
     have er:List.range' ops.pop.size [oL].length ++ []=[ops.pop.size]:=rfl
     have hop:∀ {Q:Exit→Act→World→Prop} {a:Act} {w:World},wpOpsIn (FR none) 0 P ops Q (List.range' ops.pop.size [oL].length ++ []) a w→wpOpIn (FR none) 0 P (ops.pop.push oL) Q ops.pop.size (Q .normal) a w:=fun {Q a w} hq=>by
      rw [er,wpOpsIn_cons] at hq
      rw [← hpush]
      exact hq
     rcases qTh hc hr hname hfr hi hfi [oL] ops.pop.size T1 K r H' hk h2 with ⟨T2,rfl,q⟩ | ⟨v,T2,rfl,q⟩
     ·refine .inl ⟨.nrm,T2,ms,rfl,λσ ρ base w a Q hσ hwr hf hT hd hQ=>?_⟩
      show (Code.region id ops true).wpIn (FR none) 0 P Q a w
      rw [hpush]
      refine qOx (base:=base) hmo hc hr hname hfr hσ (by rw [← hpush];exact k1) k2 k3 (by rw [← hpush];exact k4) h1 hT hwr (hf.left m2) λa1 w1 ρ1 p1 t1 d1=>hop ?_
      refine q σ ρ1 base w1 a1 Q [] hσ p1.wr (p1.ext.free hf m1) t1 λa2 w2 ρ2 p2 t2 d2=>?_
      have pall:=p1.trans p2 m1 m2
      exact hQ a2 w2 ρ2 ⟨pall,t2,by rw [d2,d1];exact hd.mono pall.ext.le⟩
     ·refine .inr ⟨v,T2,ms,rfl,λσ ρ base w a Q hσ hwr hf hT hd hQ=>?_⟩
      show (Code.region id ops true).wpIn (FR none) 0 P Q a w
      rw [hpush]
      refine qOx (base:=base) hmo hc hr hname hfr hσ (by rw [← hpush];exact k1) k2 k3 (by rw [← hpush];exact k4) h1 hT hwr (hf.left m2) λa1 w1 ρ1 p1 t1 d1=>hop ?_
      refine q σ ρ1 base w1 a1 Q [] hσ p1.wr (p1.ext.free hf m1) t1 λa2 w2 ρ2 v' p2 t2 d2 hv=>?_
      have pall:=p1.trans p2 m1 m2
      exact hQ a2 w2 ρ2 v' ⟨pall,t2,by rw [d2,d1];exact hd.mono pall.ext.le⟩ hv
   | false=>
   rw [hdl,cond_false] at h
   cases hd:(draw||(qBN ops.toList).isSome) with
   | true=>rw [hd,cond_true] at h;exact qTd hco (λ_ e=>by cases e) h
   | false=>
     rw [hd,cond_false] at h
     obtain ⟨hd1,_⟩:=Bool.or_eq_false_iff.1 hd
     subst hd1
     have hk:∀ j,j < ops.toList.length→ops.toList[j]?=ops[0+j]?:=λj _=>by simp
     have er:List.range ops.size=List.range' 0 ops.toList.length ++ []:=by rw [List.range_eq_range',List.append_nil,Array.length_toList]
     rcases qTh hc hr hname hfr hi hfi ops.toList 0 T H r H' hk h with ⟨T1,rfl,k1⟩ | ⟨v,T1,rfl,k1⟩
     ·refine .inl ⟨.nrm,T1,ms,rfl,λσ ρ base w a Q hσ hwr hf hT hd hQ=>wpIn_region ?_⟩
      rw [er]
      refine k1 σ ρ base w a Q [] hσ hwr hf hT λa1 w1 ρ1 p1 t1 d1=>?_
      exact hQ a1 w1 ρ1 ⟨p1,t1,by rw [d1];exact hd.mono p1.ext.le⟩
     ·refine .inr ⟨v,T1,ms,rfl,λσ ρ base w a Q hσ hwr hf hT hd hQ=>wpIn_region ?_⟩
      rw [er]
      refine k1 σ ρ base w a Q [] hσ hwr hf hT λa1 w1 ρ1 v' p1 t1 d1 hv=>?_
      exact hQ a1 w1 ρ1 v' ⟨p1,t1,by rw [d1];exact hd.mono p1.ext.le⟩ hv
 | seq x y=>
   obtain ⟨q,K,h1,h2⟩:=qAN h
   have m1:=qI5 hfi h1
   rcases hi.1 _ _ _ _ _ _ _ h1 with ⟨e,T1,ms1,rfl,k1⟩ | ⟨v,T1,ms1,rfl,k1⟩
   ·cases e with
    | nrm=>
      have m2:=qI5 hfi h2
      rcases hi.1 _ _ _ _ _ _ _ h2 with ⟨e,T2,ms2,rfl,k2⟩ | ⟨v,T2,ms2,rfl,k2⟩
      ·refine .inl ⟨e,T2,ms2,rfl,λσ ρ base w a Q hσ hwr hf hT hd hQ=>wpIn_seq (ACode.wp (n:=n) ?_)⟩
       refine k1 σ ρ base w a _ hσ hwr (hf.left m2) hT hd λa1 w1 ρ1 p1=>?_
       exact ACode.wp (n:=n) (k2 σ ρ1 base w1 a1 Q hσ p1.post.wr (p1.post.ext.free hf m1) p1.tmps p1.defers λa2 w2 ρ2 p2=>hQ a2 w2 ρ2 (p1.trans p2 m1 m2))
      ·refine .inr ⟨v,T2,ms2,rfl,λσ ρ base w a Q hσ hwr hf hT hd hQ=>wpIn_seq (ACode.wp (n:=n) ?_)⟩
       refine k1 σ ρ base w a _ hσ hwr (hf.left m2) hT hd λa1 w1 ρ1 p1=>?_
       exact ACode.wp (n:=n) (k2 σ ρ1 base w1 a1 Q hσ p1.post.wr (p1.post.ext.free hf m1) p1.tmps p1.defers λa2 w2 ρ2 v' p2 hv=>hQ a2 w2 ρ2 v' (p1.trans p2 m1 m2) hv)
    | exit id=>
      cases qAG h2
      exact .inl ⟨.exit id,T1,ms1,rfl,λσ ρ base w a Q hσ hwr hf hT hd hQ=>wpIn_seq (ACode.wp (n:=n) (k1 σ ρ base w a _ hσ hwr hf hT hd λa1 w1 ρ1 p1=>hQ a1 w1 ρ1 p1))⟩
    | ret=>
      cases qAG h2
      exact .inl ⟨.ret,T1,ms1,rfl,λσ ρ base w a Q hσ hwr hf hT hd hQ=>wpIn_seq (ACode.wp (n:=n) (k1 σ ρ base w a _ hσ hwr hf hT hd λa1 w1 ρ1 p1=>hQ a1 w1 ρ1 p1))⟩
   ·cases qAG h2
    exact .inr ⟨v,T1,ms1,rfl,λσ ρ base w a Q hσ hwr hf hT hd hQ=>wpIn_seq (ACode.wp (n:=n) (k1 σ ρ base w a _ hσ hwr hf hT hd λa1 w1 ρ1 v' p1 hv=>hQ a1 w1 ρ1 v' p1 hv))⟩
 | cond x y z=>
   unfold qJC at h
   simp only at h
   generalize hx:ev T x=v at h
   have bad:(fail:M PO) H=some (r,H')→False:=λh=>qAB h
   cases v with
   | none=>exact (bad h).elim
   | some v=>
   cases v <;> try exact (bad h).elim
   case bool t=>
   rcases hi.1 _ _ _ _ _ _ _ h with ⟨e,T1,ms1,rfl,k1⟩ | ⟨v,T1,ms1,rfl,k1⟩
   ·refine .inl ⟨e,T1,ms1,rfl,λσ ρ base w a Q hσ hwr hf hT hd hQ=>?_⟩
    have hv:=qAu (a:=a) hx hT
    unfold Rel at hv
    refine wpIn_cond hv ?_
    have:=ACode.wp (n:=n) (k1 σ ρ base w a Q hσ hwr hf hT hd hQ)
    cases t <;> exact this
   ·refine .inr ⟨v,T1,ms1,rfl,λσ ρ base w a Q hσ hwr hf hT hd hQ=>?_⟩
    have hv:=qAu (a:=a) hx hT
    unfold Rel at hv
    refine wpIn_cond hv ?_
    have:=ACode.wp (n:=n) (k1 σ ρ base w a Q hσ hwr hf hT hd hQ)
    cases t <;> exact this
 | block id c=>
   obtain ⟨q,K,h1,h2⟩:=qAN h
   rcases hi.1 _ _ _ _ _ _ _ h1 with ⟨e,T1,ms1,rfl,k1⟩ | ⟨v,T1,ms1,rfl,k1⟩
   ·cases e with
    | nrm=>
      cases qAG h2
      exact .inl ⟨.nrm,T1,ms1,rfl,λσ ρ base w a Q hσ hwr hf hT hd hQ=>wpIn_block (ACode.wp (n:=n) (k1 σ ρ base w a _ hσ hwr hf hT hd λa1 w1 ρ1 p1=>hQ a1 w1 ρ1 p1))⟩
    | ret=>
      cases qAG h2
      exact .inl ⟨.ret,T1,ms1,rfl,λσ ρ base w a Q hσ hwr hf hT hd hQ=>wpIn_block (ACode.wp (n:=n) (k1 σ ρ base w a _ hσ hwr hf hT hd λa1 w1 ρ1 p1=>hQ a1 w1 ρ1 p1))⟩
    | exit id'=>
      cases hb:Nat.beq id' id with
      | true=>
        simp only [hb,cond_true] at h2
        cases qAG h2
        have e:=Nat.eq_of_beq_eq_true hb
        exact .inl ⟨.nrm,T1,ms1,rfl,λσ ρ base w a Q hσ hwr hf hT hd hQ=>wpIn_block (ACode.wp (n:=n) (k1 σ ρ base w a _ hσ hwr hf hT hd λa1 w1 ρ1 p1=>by
         show (if id'=id then _ else _)
         rw [if_pos e];exact hQ a1 w1 ρ1 p1))⟩
      | false=>
        simp only [hb,cond_false] at h2
        cases qAG h2
        have e:id'≠id:=λe=>by subst e;simp at hb
        exact .inl ⟨.exit id',T1,ms1,rfl,λσ ρ base w a Q hσ hwr hf hT hd hQ=>wpIn_block (ACode.wp (n:=n) (k1 σ ρ base w a _ hσ hwr hf hT hd λa1 w1 ρ1 p1=>by
         show (if id'=id then _ else _)
         rw [if_neg e];exact hQ a1 w1 ρ1 p1))⟩
   ·cases qAG h2
    exact .inr ⟨v,T1,ms1,rfl,λσ ρ base w a Q hσ hwr hf hT hd hQ=>wpIn_block (ACode.wp (n:=n) (k1 σ ρ base w a _ hσ hwr hf hT hd λa1 w1 ρ1 v' p1 hv=>hQ a1 w1 ρ1 v' p1 hv))⟩
 | loop c=>
   have e0:qJC P S old ih nt (.loop c) T ms=(match qBM c with
    | some _=>oldP old nt (.loop c) T ms
    | none=>bd (ih (.code nt c T ms)) λr=>match r with
      | .done (.exit .nrm T ms)=>ih (.code nt (.loop c) T ms)
      | r=>ret r):=rfl
   rw [e0] at h
   cases hs:qBM c with
   | some s=>rw [hs] at h;exact qTd hco (λb e=>by cases e;rw [hs];rfl) h
   | none=>
   rw [hs] at h
   obtain ⟨q,K,h1,h2⟩:=qAN h
   have m1:=qI5 hfi h1
   have hA:∀ (Q:Exit→Act→World→Prop) (a:Act) (w:World) (k:Nat),ACode none k P (.loop c) Q a w=Code.roundsIn (FR none) 0 P c Q k a w:=λQ a w k=>by unfold ACode;simp only [hs]
   rcases hi.1 _ _ _ _ _ _ _ h1 with ⟨e,T1,ms1,rfl,k1⟩ | ⟨v,T1,ms1,rfl,k1⟩
   ·cases e with
    | nrm=>
      have m2:=qI5 hfi h2
      rcases hi.1 _ _ _ _ _ _ _ h2 with ⟨e,T2,ms2,rfl,k2⟩ | ⟨v,T2,ms2,rfl,k2⟩
      ·refine .inl ⟨e,T2,ms2,rfl,λσ ρ base w a Q hσ hwr hf hT hd hQ=>(hA Q a w (n+1)).mpr (ACode.wp (n:=n) (c:=c) ?_)⟩
       refine k1 σ ρ base w a _ hσ hwr (hf.left m2) hT hd λa1 w1 ρ1 p1=>?_
       exact (hA Q a1 w1 n).mp (k2 σ ρ1 base w1 a1 Q hσ p1.post.wr (p1.post.ext.free hf m1) p1.tmps p1.defers λa2 w2 ρ2 p2=>hQ a2 w2 ρ2 (p1.trans p2 m1 m2))
      ·refine .inr ⟨v,T2,ms2,rfl,λσ ρ base w a Q hσ hwr hf hT hd hQ=>(hA Q a w (n+1)).mpr (ACode.wp (n:=n) (c:=c) ?_)⟩
       refine k1 σ ρ base w a _ hσ hwr (hf.left m2) hT hd λa1 w1 ρ1 p1=>?_
       exact (hA Q a1 w1 n).mp (k2 σ ρ1 base w1 a1 Q hσ p1.post.wr (p1.post.ext.free hf m1) p1.tmps p1.defers λa2 w2 ρ2 v' p2 hv=>hQ a2 w2 ρ2 v' (p1.trans p2 m1 m2) hv)
    | exit id=>
      cases qAG h2
      exact .inl ⟨.exit id,T1,ms1,rfl,λσ ρ base w a Q hσ hwr hf hT hd hQ=>(hA Q a w (n+1)).mpr (ACode.wp (n:=n) (c:=c) (k1 σ ρ base w a _ hσ hwr hf hT hd λa1 w1 ρ1 p1=>hQ a1 w1 ρ1 p1))⟩
    | ret=>
      cases qAG h2
      exact .inl ⟨.ret,T1,ms1,rfl,λσ ρ base w a Q hσ hwr hf hT hd hQ=>(hA Q a w (n+1)).mpr (ACode.wp (n:=n) (c:=c) (k1 σ ρ base w a _ hσ hwr hf hT hd λa1 w1 ρ1 p1=>hQ a1 w1 ρ1 p1))⟩
   ·cases qAG h2
    exact .inr ⟨v,T1,ms1,rfl,λσ ρ base w a Q hσ hwr hf hT hd hQ=>(hA Q a w (n+1)).mpr (ACode.wp (n:=n) (c:=c) (k1 σ ρ base w a _ hσ hwr hf hT hd λa1 w1 ρ1 v' p1 hv=>hQ a1 w1 ρ1 v' p1 hv))⟩
 | _=>exact qTd hco (λ_ e=>by cases e) h
end
end Go.AM
namespace Go.AM
open Go Go.RowKit
section
variable {P : Program} {σ : Nat → Value} {ρ : Ren} {base nt : Nat} {H H' : AH} {w : World} {T : Tmps} {a : Act} {old : Task → M Out} {ih : PTask → M PO} {S : FuncId → Bool} {n : Nat}
theorem qXB (hco:qDq P n old) (hfr:∀ t,Fr (old t)) (hname:qDn P) {k:FuncId} {args:List AV} {v:AV} {v':Value} {u:Unit} (h:qH5 P old k args v H=some (u,H')) {args':Array Value} (hσ:One σ) (hwr:WR σ ρ base H w) (hf:Free ρ H.next H'.next) (hr:RelL σ ρ args args'.toList) (hv:Rel σ ρ v v')
  {R:Ending→FrameMode→World→Prop} (hR:∀ z ρ' w',Post σ ρ ρ' base H H' w w'→R (.returned z) (.panicking [{ v:=v',recovered:=true }]) w'):isFn P k=true∧CallsDIn Fence.wide 0 P k args' (.panicking (qJv v')) w R:=by
 unfold qH5 at h
 cases hfn:P.funcs[k]? with
 | none=>simp only [hfn] at h;exact (qAB h).elim
 | some fn=>
   simp only [hfn] at h
   cases hb:fn.body with
   | none=>simp only [hb] at h;exact (qAB h).elim
   | some c=>
     simp only [hb] at h
     generalize hrs:fn.results.toList=rs at h
     cases rs with
     | cons _ _=>exact (qAB h).elim
     | nil=>
       obtain ⟨hle,h⟩:=qAj h
       have hle:args.length≤fn.ntmps:=by simpa [Nat.ble_eq] using hle
       refine ⟨by unfold isFn;rw [hfn];simp [hb],?_⟩
       generalize hdc:qMk fn (Tr.ofListAt .nil 0 args) v c=dc at h
       cases dc with
       | none=>exact (qAB h).elim
       | some p=>
         obtain ⟨c',T'⟩:=p
         obtain ⟨o,K,h1,h2⟩:=qAN h
         obtain ⟨e,T1,ms1,rfl,k1⟩:=hco _ _ _ _ _ _ _ _ h1
         have hK:K=H'∧ms1=[]∧(∀ i,e≠.exit i):=by
          cases e with
          | nrm=>cases ms1 with
            | nil=>cases qAG h2;exact ⟨rfl,rfl,by simp⟩
            | cons _ _=>exact (qAB (H:=K) h2).elim
          | ret=>cases ms1 with
            | nil=>cases qAG h2;exact ⟨rfl,rfl,by simp⟩
            | cons _ _=>exact (qAB (H:=K) h2).elim
          | exit i=>exact (qAB (H:=K) h2).elim
         obtain ⟨rfl,rfl,hne⟩:=hK
         have hstart:=qDI (nt:=fn.ntmps) hr hle
         have hres:fn.results=#[]:=by apply Array.toList_inj.1;rw [hrs]
         refine callsDIn_of_wpSIn hfn hb trivial λc₀ cs hu=>?_
         have fin:∀ (a0:Act),a0.defers=[]→TRel σ ρ fn.ntmps T' a0.tmps→c'.wpSIn Fence.wide 0 P (bodyPostS P fn c₀ cs R) a0 ({ c₀ with mode:=.panicking [{ v:=v',recovered:=true }] } :: cs) w:=by
          intro a0 hd0 hT0
          refine wpSIn_of_wpIn rfl (ACode.wp (n:=n) (k1 σ ρ base w a0 none _ hσ hwr hf hT0 rfl (by rw [hd0];rfl) λa1 w1 ρ1 p1=>?_))
          have hd1:a1.defers=[]:=p1.defers
          have main:a1.defers=[]∧∃ u',({ c₀ with mode:=.panicking [{ v:=v',recovered:=true }] } :: cs)={ c₀ with mode:=u' } :: cs∧∃ z,(results fn a1.tmps).run P w1=.ok z w1∧R (.returned z) u' w1:=
           ⟨hd1,.panicking [{ v:=v',recovered:=true }],rfl,.tuple #[],by simp [results,hres],hR _ ρ1 w1 p1.post⟩
          cases e with
          | nrm=>exact main
          | ret=>exact main
          | exit i=>exact absurd rfl (hne i)
         unfold qMk at hdc
         cases hrt:qGz c with
         | none=>rw [hrt] at hdc;cases hdc
         | some q=>
           obtain ⟨t,rest⟩:=q
           rw [hrt] at hdc
           obtain ⟨hlt,hdc⟩:=qAS hdc
           cases hdc
           unfold qGz at hrt
           split at hrt
           ·rename_i id ops rest'
            split at hrt
            ·rename_i t' ts ty pos af hops
             cases hrt
             have e0:ops=#[⟨some t,.call ⟨.builtin .recover,#[],ts⟩,ty,pos,af,none⟩]:=by apply Array.toList_inj.1;rw [hops]
             subst e0
             refine wpSIn_seq (wpSIn_region ?_)
             simp only [List.size_toArray,List.length_cons,List.length_nil,Nat.zero_add,show List.range 1=[0] from rfl,wpOpsSIn,List.getElem?_toArray,List.getElem?_cons_zero]
             refine ⟨qCW,?_⟩
             rw [if_pos (by unfold Region.wanted;rfl),qU7]
             have hrec:recoverD (c₀ :: cs)=some (v',{ c₀ with mode:=.panicking [{ v:=v',recovered:=true }] } :: cs):=by
              simp [recoverD,hu,qJv]
             simp only [hrec]
             refine fin _ (qB4 _ _ _) ?_
             exact qFU (v:=v) (v':=v') (dst:=some t) (by simp only [setT];rw [hlt];rfl) hstart hv
            ·cases hrt
           ·cases hrt
theorem zAEK (hco:qDq P n old) (hfr:∀ t,Fr (old t)) (hname:qDn P) (hi:OKP P n ih) (hfi:∀ t,Fr (ih t)) {f:FuncId} {args:List AV} {r:PO} (h:fnP P old ih f args H=some (r,H')):FnP P f args H r H':=by
 unfold fnP at h
 cases hfn:P.funcs[f]? with
 | none=>simp only [hfn] at h;exact (qAB h).elim
 | some fn=>
   simp only [hfn] at h
   cases hb:fn.body with
   | none=>simp only [hb] at h;exact (qAB h).elim
   | some c=>
     simp only [hb] at h
     obtain ⟨hle,h⟩:=qAj h
     have hle:args.length≤fn.ntmps:=by simpa [Nat.ble_eq] using hle
     obtain ⟨q,K,h1,h2⟩:=qAN h
     have m1:=qI5 hfi h1
     rcases hi.1 _ _ _ _ _ _ _ h1 with ⟨e,T1,ms1,rfl,k1⟩ | ⟨v,T1,ms1,rfl,k1⟩
     ·have main:(∀ i,e≠.exit i)→bd (qAx P old ms1) (λ_=>bd (qBB P T1 fn.results.toList) λvs=>ret (PO.done (.val (oneV vs)))) K=some (r,H')→FnP P f args H r H':=by
       intro hne h3
       obtain ⟨u,K2,h4,h5⟩:=qAN h3
       obtain ⟨vs,K3,h6,h7⟩:=qAN h5
       cases qAG h7
       have m2:K.next≤K2.next:=by obtain ⟨es,d,_⟩:=qCC P hfr ms1 K () K2 h4;exact d.next
       have m3:K2.next≤H'.next:=by obtain ⟨es,d,_⟩:=qCM P T1 fn.results.toList K2 vs H' h6;exact d.next
       refine .inl ⟨oneV vs,rfl,λσ ρ base w args' hσ hwr hf hr=>?_⟩
       refine callsIn_of_wp_marks hfn hb trivial ?_ rfl
       have hstart:=qDI (nt:=fn.ntmps) hr hle
       refine ACode.wp (n:=n) (k1 σ ρ base w { tmps:=args' ++ Array.replicate (fn.ntmps - args'.size) undef,defers:=[] } _ hσ hwr (hf.left (by omega)) hstart rfl λa1 w1 ρ1 p1=>?_)
       have key:LeavesInM Fence.wide 0 P fn a1.tmps (qBl σ ρ base H H' w (oneV vs)) a1.defers .returning w1:=by
        refine qMI (fn:=fn) (tmps:=a1.tmps) (R:=qBl σ ρ base H H' w (oneV vs)) hco hfr hname hσ h4 p1.post.wr ((p1.post.ext.free hf m1).left m3) p1.defers λρ2 w2 p2=>?_
        obtain ⟨b1,b2,b3,vs',b4,b5⟩:=qG1 (P:=P) (p1.tmps.mono p2.ext.le) p2.wr _ K2 _ vs rfl rfl h6
        refine ⟨_,qJp b4,_,ρ2,rfl,⟨?_,p2.wr.log b1 b2,p1.post.below.trans p2.below⟩,qQp b5⟩
        rw [b3]
        exact p1.post.ext.trans p2.ext m1 m2
       cases e with
       | exit id=>exact absurd rfl (hne id)
       | nrm=>exact key
       | ret=>exact key
      cases e with
      | exit id=>exact (qAB (H:=K) h2).elim
      | nrm=>exact main (by simp) h2
      | ret=>exact main (by simp) h2
     ·cases ms1 with
      | nil=>
        cases qAG h2
        refine .inr ⟨v,rfl,λσ ρ base w args' hσ hwr hf hr=>?_⟩
        refine callsIn_of_wp_marks hfn hb trivial ?_ rfl
        have hstart:=qDI (nt:=fn.ntmps) hr hle
        refine ACode.wp (n:=n) (k1 σ ρ base w { tmps:=args' ++ Array.replicate (fn.ntmps - args'.size) undef,defers:=[] } _ hσ hwr hf hstart rfl λa1 w1 ρ1 v' p1 hv=>?_)
        have hd:a1.defers=[]:=p1.defers
        show LeavesInM Fence.wide 0 P fn a1.tmps (qTa σ ρ base H H' w v) a1.defers (.panicking (qJv v')) w1
        rw [hd]
        exact ⟨v',ρ1,rfl,p1.post,hv⟩
      | cons m ms=>
      cases m with
      | mark i=>exact (qAB (H:=K) h2).elim
      | call k as=>
      cases ms with
      | cons _ _=>exact (qAB (H:=K) h2).elim
      | nil=>
        obtain ⟨u,K2,h4,h5⟩:=qAN h2
        obtain ⟨vs,K3,h6,h7⟩:=qAN h5
        cases qAG h7
        have m2:K.next≤K2.next:=by obtain ⟨es,d,_⟩:=qR0 (P:=P) hfr k as v K () K2 h4;exact d.next
        have m3:K2.next≤H'.next:=by obtain ⟨es,d,_⟩:=qCM P T1 fn.results.toList K2 vs H' h6;exact d.next
        refine .inl ⟨oneV vs,rfl,λσ ρ base w args' hσ hwr hf hr=>?_⟩
        refine callsIn_of_wp_marks hfn hb trivial ?_ rfl
        have hstart:=qDI (nt:=fn.ntmps) hr hle
        refine ACode.wp (n:=n) (k1 σ ρ base w { tmps:=args' ++ Array.replicate (fn.ntmps - args'.size) undef,defers:=[] } _ hσ hwr (hf.left (by omega)) hstart rfl λa1 w1 ρ1 v' p1 hv=>?_)
        have hd:=p1.defers
        unfold DRel at hd
        obtain ⟨cs,fs,ds',hd,hrel,hd'⟩:=hd
        unfold DRel at hd'
        subst hd'
        show LeavesInM Fence.wide 0 P fn a1.tmps (qBl σ ρ base H H' w (oneV vs)) a1.defers (.panicking (qJv v')) w1
        rw [hd]
        obtain ⟨q1,q2⟩:=qXB (R:=fun
         | .returned _,u',w'=>LeavesInM Fence.wide 0 P fn a1.tmps (qBl σ ρ base H H' w (oneV vs)) [] (settle u') w'
         | .panicked chain,u',w'=>LeavesInM Fence.wide 0 P fn a1.tmps (qBl σ ρ base H H' w (oneV vs)) [] (raised u' chain) w'
         | .outgrown,_,w'=>qBl σ ρ base H H' w (oneV vs) .outgrown w') hco hfr hname h4 hσ p1.post.wr ((p1.post.ext.free hf m1).left m3) hrel hv λz ρ2 w2 p2=>by
           show LeavesInM Fence.wide 0 P fn a1.tmps (qBl σ ρ base H H' w (oneV vs)) [] .returning w2
           obtain ⟨b1,b2,b3,vs',b4,b5⟩:=qG1 (P:=P) (p1.tmps.mono p2.ext.le) p2.wr _ K2 _ vs rfl rfl h6
           refine ⟨_,qJp b4,_,ρ2,rfl,⟨?_,p2.wr.log b1 b2,p1.post.below.trans p2.below⟩,qQp b5⟩
           rw [b3]
           exact p1.post.ext.trans p2.ext m1 m2
        unfold LeavesInM
        refine ⟨by simp,.inr ⟨λh=>by simp [Fence.wide] at h,.func k,cs,k,fs ++ cs,rfl,?_,λ_ _=>trivial,q2⟩⟩
        simp only [invoke]
        exact qMR hname q1 _ w1
theorem qXx (hm:P.follows .mixedOrders=true) (hname:qDn P) {X:Td} (hX:ExtOK P X) (S:FuncId→Bool):∀ n,OKP P n (runP P X S n)
 | 0=>⟨λ_ _ _ _ H _ _ h=>(qAB (H:=H) h).elim,λ_ _ H _ _ h=>(qAB (H:=H) h).elim⟩
 | n+1=>by
   obtain ⟨h1,h2,h3⟩:=zABW hm hname hX n
   have ih:=qXx hm hname hX S n
   have fo:=qEr P hX.1 n
   have fi:=qPe (P:=P) (S:=S) hX.1 n
   exact ⟨λnt c T ms H r H' h=>zAAX hm h1 h2 h3 hname fo ih fi h,λf args H r H' h=>zAEK h1 fo hname ih fi h⟩
end
end Go.AM
namespace Go.AM
open Go
section
variable (P : Program) (X : Td) (S : FuncId → Bool)
def qAf (f:FuncId) (args:List AV) (K R:AV→Hq→Prop) (s:Hq):Prop:=
 wpF (λn=>runP P X S n (.call f args)) (λr s'=>(∃ v,r=.done (.val v)∧K v s')∨∃ v,r=.pan v .nil []∧R v s') s
def qWB (v:AV) (args:List AV) (K R:AV→Hq→Prop) (s:Hq):Prop:=match v with
 | .fn (.func k) first cap=>cond (S k) (isFn P k=true∧qAf P X S k (first ++ args ++ cap) K R s) (funK P X (.fn (.func k) first cap) args K s)
 | v=>funK P X v args K s
def panK (v:AV) (R:AV→Hq→Prop) (s:Hq):Prop:=match v with
 | .ifc t u=>R (.ifc t u) s
 | _=>False
def qW6 (env:Env) (K R:AV→Hq→Prop) (s:Hq):Op→Prop
 | .panic x=>panK (evD env x) R s
 | .call c=>match c.callee with
   | .value f=>match f with
     | .func k=>cond (S k) (cond (isFn P k) (qAf P X S k (c.args.toList.map (evD env)) K R s) False) (cond (isFn P k) (wC P X k (c.args.toList.map (evD env)) K s) False)
     | f=>qWB P X S (evD env f) (c.args.toList.map (evD env)) K R s
   | _=>wpOp P X env K s (.call c)
 | o=>wpOp P X env K s o
def qTX (nt:Nat) (all:List Oper):List Oper→Kn→Env→(Env→Hq→Prop)→(AV→Env→Hq→Prop)→Hq→Prop
 | [],_,env,K,_,s=>K env s
 | o :: os,kn,env,K,R,s=>qRz all o.guard kn env
   (λkn=>qW6 P X S env (λv s=>setK nt o.dst env v λenv=>qTX nt all os (forget kn o.dst) env K R s) (λv s=>R v env s) s o.op)
   (λkn=>setK nt o.dst env .undef λenv=>qTX nt all os (mark kn o.dst) env K R s)
def wpCP (A:Nat→List Nat) (nt:Nat):Code→Env→(AExit→Env→Hq→Prop)→(AV→Env→Hq→Prop)→Hq→Prop
 | .region id ops draw,env,K,R,s=>cond (draw&&qSJ S ops.toList)
   (cond (qPA ops&&(ops.toList.drop ops.pop.size).all λo=>okOp o.op) (wpC P X A nt none (.region id ops.pop true) env (λe env s=>match e with
    | .nrm=>qTX P X S nt ops.toList (ops.toList.drop ops.pop.size) [] env (λenv s=>K .nrm env s) R s
    | _=>False) s) False)
   (cond (draw||(qBN ops.toList).isSome) (wpC P X A nt none (.region id ops draw) env K s)
   (cond (ops.toList.all λo=>okOp o.op) (qTX P X S nt ops.toList ops.toList [] env (λenv s=>K .nrm env s) R s) False))
 | .seq a b,env,K,R,s=>wpCP A nt a env (λe env s=>match e with
   | .nrm=>wpCP A nt b env K R s
   | e=>K e env s) R s
 | .cond c a b,env,K,R,s=>cond (okX c) (qAQ (evD env c) (wpCP A nt a env K R s) (wpCP A nt b env K R s)) False
 | .block id b,env,K,R,s=>wpCP A nt b env (λe env s=>match e with
   | .exit id'=>cond (Nat.beq id' id) (K .nrm env s) (K (.exit id') env s)
   | e=>K e env s) R s
 | .loop b,env,K,R,s=>match qBM b with
   | some _=>False
   | none=>zAAy (A (2 * qIO b)) (assigned b) (λenv K s=>wpCP A nt b env K R s) env K s
 | c,env,K,_,s=>wpC P X A nt none c env K s
end
variable {P : Program} {X : Td} {S : FuncId → Bool} {nt : Nat} {A : Nat → List Nat} {env : Env} {T : Tmps} {s : Hq}
theorem qUi {c:Call} {f:Operand} (hT:TR T env) (hc:c.callee=.value f) (hf:okX f=true):isS S T c=match evD env f with
  | .fn (.func k) _ _=>S k
  | _=>false:=by
 unfold isS
 rw [hc]
 simp only [qI9 hT hf]
 cases evD env f <;> try rfl
 case fn g a b=>cases g <;> rfl
theorem zAEZ {all:List Oper} {o:Oper} {ms:List Mk} {K R:AV→Hq→Prop} {Q:Tmps→Hq→Prop} (hT:TR T env) (ho:okOp o.op=true) (hw:qBf all T o.guard=some true) (h:qW6 P X S env K R s o.op) (hQ:∀ v s',K v s'→∃ T',setT nt T o.dst v=some T'∧Q T' s') :
  wpF (λn=>opP P S (run P X n) (runP P X S n) nt all o T ms) (λr s'=>(∃ T',r=.done (.exit .nrm T' ms)∧Q T' s')∨∃ v,r=.pan v T ms∧R v s') s:=by
 have plain:wpOp P X env K s o.op→wpF (λn=>qF0 P (run P X n) nt all o T ms) (λr s'=>(∃ T',r=.done (.exit .nrm T' ms)∧Q T' s')∨∃ v,r=.pan v T ms∧R v s') s:=by
  intro h
  have mono1:Mono λn=>qHf P (run P X n) nt all o T:=qBF λn=>qIu (qB3 n) _ _ _ _
  refine wpF.bd (f:=λ_ T=>ret (PO.done (.exit .nrm T ms))) mono1 (λ_=>.const _) ((qQD (qEK hw hT ho h) hQ).mono λT' s' hq=>?_)
  exact wpF.ret (.inl ⟨T',rfl,hq⟩)
 cases hop:o.op with
 | panic x=>
   rw [hop] at h ho
   have hx:okX x=true:=qPM ho (by simp [Op.operands])
   have h:panK (evD env x) R s:=h
   generalize hv:evD env x=y at h
   cases y <;> try exact h.elim
   case ifc t v=>
   refine wpF.congr (m:=λ_=>ret (PO.pan (.ifc t v) T ms)) (wpF.ret (.inr ⟨_,rfl,h⟩)) λn=>?_
   unfold opP
   simp only [hw,hop,qI9 hT hx,hv]
 | call c=>
   rw [hop] at h ho plain
   have e0:∀ n,opP P S (run P X n) (runP P X S n) nt all o T ms=cond (isS S T c) (bd (opA P T (.call c)) (qL8 (runP P X S n) nt T ms o.dst)) (qF0 P (run P X n) nt all o T ms):=λn=>by unfold opP;simp only [hw,hop]
   refine wpF.congr (m:=λn=>cond (isS S T c) (bd (opA P T (.call c)) (qL8 (runP P X S n) nt T ms o.dst)) (qF0 P (run P X n) nt all o T ms)) ?_ (λn=>(e0 n).symm)
   have ho':c.operands.toList.all okX=true:=by
    have:=qPi ho λt g e=>by cases e
    simpa [Op.operands] using this
   have hargs:c.args.toList.all okX=true:=
    List.all_eq_true.2 λx hx=>List.all_eq_true.1 ho' x (by unfold Call.operands;simp only [Array.toList_append,List.mem_append];exact .inr hx)
   cases hc:c.callee with
   | builtin b=>
     have hS:isS S T c=false:=by unfold isS;rw [hc]
     simp only [qW6,hc] at h
     rw [hS]
     exact plain h
   | invoke r name=>
     have hS:isS S T c=false:=by unfold isS;rw [hc]
     simp only [qW6,hc] at h
     rw [hS]
     exact plain h
   | value f=>
     have hf:okX f=true:=List.all_eq_true.1 ho' f (by simp [Call.operands,hc])
     simp only [qW6,hc] at h
     have main:∀ (k:FuncId) (first cap:List AV),evD env f=.fn (.func k) first cap→S k=true→isFn P k=true→qAf P X S k (first ++ c.args.toList.map (evD env) ++ cap) K R s→
       wpF (λn=>cond (isS S T c) (bd (opA P T (.call c)) (qL8 (runP P X S n) nt T ms o.dst)) (qF0 P (run P X n) nt all o T ms)) (λr s'=>(∃ T',r=.done (.exit .nrm T' ms)∧Q T' s')∨∃ v,r=.pan v T ms∧R v s') s:=by
      intro k first cap he hS hk hcall
      have hS':isS S T c=true:=by rw [qUi hT hc hf,he];exact hS
      rw [hS']
      have ec:opA P T (.call c)=ret (.enter k (first ++ c.args.toList.map (evD env) ++ cap)):=by
       show qIB P T c=_
       unfold qIB
       simp only [qRM hT hargs,hc,qI9 hT hf,he]
       unfold goA
       rw [hk];rfl
      simp only [cond_true]
      rw [ec]
      refine wpF.bd (m:=λ_=>ret (ANext.enter k (first ++ c.args.toList.map (evD env) ++ cap))) (f:=λn nx=>qL8 (runP P X S n) nt T ms o.dst nx) (.const _) (λnx=>qBF λn=>qUk (qGM n) _ _ _ _ _) (wpF.ret ?_)
      refine wpF.bd (m:=λn=>runP P X S n (.call k (first ++ c.args.toList.map (evD env) ++ cap))) (f:=λ_ r=>zAAS nt T ms o.dst r) (qC7 _) (λ_=>.const _) (hcall.mono ?_)
      rintro r s' (⟨v,rfl,hK⟩ | ⟨v,rfl,hR⟩)
      ·obtain ⟨T',h1,h2⟩:=hQ v s' hK
       refine wpF.bd (m:=λ_=>lift (setT nt T o.dst v)) (f:=λ_ T=>ret (PO.done (.exit .nrm T ms))) (.const _) (λ_=>.const _) (wpF.lift h1 (wpF.ret (.inl ⟨T',rfl,h2⟩)))
      ·exact wpF.ret (.inr ⟨v,rfl,hR⟩)
     have mainF:qWB P X S (evD env f) (c.args.toList.map (evD env)) K R s→(wpOp P X env K s (.call c)=funK P X (evD env f) (c.args.toList.map (evD env)) K s)→wpF (λn=>cond (isS S T c) (bd (opA P T (.call c)) (qL8 (runP P X S n) nt T ms o.dst)) (qF0 P (run P X n) nt all o T ms)) (λr s'=>(∃ T',r=.done (.exit .nrm T' ms)∧Q T' s')∨∃ v,r=.pan v T ms∧R v s') s:=by
      intro h hop'
      unfold qWB at h
      split at h
      ·rename_i k first cap he
       cases hS:S k with
       | true=>
         rw [hS,cond_true] at h
         exact main k first cap he hS h.1 h.2
       | false=>
         rw [hS,cond_false,← he] at h
         have hS':isS S T c=false:=by rw [qUi hT hc hf,he];exact hS
         rw [hS']
         exact plain (by rw [hop'];exact h)
      ·rename_i hne
       have hS':isS S T c=false:=by
        rw [qUi hT hc hf]
        split
        ·rename_i k' a b he
         exact absurd he (hne _ _ _)
        ·rfl
       rw [hS']
       exact plain (by rw [hop'];exact h)
     cases f with
     | func k=>
       simp only at h
       have he:evD env (.func k)=.fn (.func k) [] []:=rfl
       cases hS:S k with
       | true=>
         rw [hS,cond_true] at h
         cases hk:isFn P k with
         | false=>rw [hk] at h;exact h.elim
         | true=>
           rw [hk,cond_true] at h
           exact main k [] [] he hS hk (by rw [List.nil_append,List.append_nil];exact h)
       | false=>
         rw [hS,cond_false] at h
         have hS':isS S T c=false:=by rw [qUi hT hc hf,he];exact hS
         rw [hS']
         refine plain ?_
         unfold wpOp
         simp only [hc]
         exact h
     | tmp t=>exact mainF h (by unfold wpOp;simp only [hc])
     | const l=>exact mainF h (by unfold wpOp;simp only [hc])
     | _=>exact mainF h (by unfold wpOp;simp only [hc])
 | _=>
   rw [hop] at h plain
   refine wpF.congr (m:=λn=>qF0 P (run P X n) nt all o T ms) (plain h) (λn=>by unfold opP;simp only [hw,hop])
end Go.AM
namespace Go.AM
open Go
variable {P : Program} {X : Td} {S : FuncId → Bool} {nt : Nat} {A : Nat → List Nat}
theorem qW8 (all:List Oper) (ms:List Mk) (l:List Oper) (T:Tmps):Mono λn=>opsP P S (run P X n) (runP P X S n) nt all ms l T:=qBF λn=>qN2 (qB3 n) (qGM n) nt all ms l T
theorem qPg {all:List Oper} {ms:List Mk} {K:Env→Hq→Prop} {R:AV→Env→Hq→Prop}:∀ (os:List Oper) (kn:Kn) (env:Env) (s:Hq) (T:Tmps),(os.all λo=>okOp o.op)=true→TR T env→KnOk kn env→qTX P X S nt all os kn env K R s→
  wpF (λn=>opsP P S (run P X n) (runP P X S n) nt all ms os T) (λr s'=>(∃ T' env',r=.done (.exit .nrm T' ms)∧TR T' env'∧K env' s'∧∀ j,(∀ o∈os,o.dst≠some j)→env' j=env j)∨∃ v T' env',r=.pan v T' ms∧TR T' env'∧R v env' s'∧∀ j,(∀ o∈os,o.dst≠some j)→env' j=env j) s
 | [],_,env,s,T,_,hT,_,h=>wpF.ret (.inl ⟨T,env,rfl,hT,h,λ_ _=>rfl⟩)
 | o :: os,kn,env,s,T,ha,hT,hk,h=>by
   simp only [List.all_cons,Bool.and_eq_true] at ha
   obtain ⟨kn',hk',hcase⟩:=qMo hT hk h
   have next:∀ (v:AV) (kn2:Kn),(∀ env',(∀ d,o.dst≠some d→env' d=env d)→(∀ d,o.dst=some d→env' d=v)→KnOk kn2 env')→∀ (s':Hq),(setK nt o.dst env v λenv=>qTX P X S nt all os kn2 env K R s')→∃ T',setT nt T o.dst v=some T'∧wpF (λn=>opsP P S (run P X n) (runP P X S n) nt all ms os T') (λr s'=>(∃ T' env',r=.done (.exit .nrm T' ms)∧TR T' env'∧K env' s'∧∀ j,(∀ o_1∈o :: os,o_1.dst≠some j)→env' j=env j)∨∃ v T' env',r=.pan v T' ms∧TR T' env'∧R v env' s'∧∀ j,(∀ o_1∈o :: os,o_1.dst≠some j)→env' j=env j) s':=by
    intro v kn2 hk2 s' hv
    obtain ⟨T',env',e1,e2,e3,e4,e5⟩:=qTH hT hv
    refine ⟨T',e1,(qPg os _ env' s' T' ha.2 e2 (hk2 env' e4 e5) e3).mono ?_⟩
    rintro r s2 (⟨T2,env2,rfl,q1,q2,q3⟩ | ⟨v,T2,env2,rfl,q1,q2,q3⟩)
    ·exact .inl ⟨T2,env2,rfl,q1,q2,λj hj=>(q3 j λp hp=>hj p (by simp [hp])).trans (e4 j (hj o (by simp)))⟩
    ·exact .inr ⟨v,T2,env2,rfl,q1,q2,λj hj=>(q3 j λp hp=>hj p (by simp [hp])).trans (e4 j (hj o (by simp)))⟩
   have mono1:Mono λn=>opP P S (run P X n) (runP P X S n) nt all o T ms:=qBF λn=>zABn (qB3 n) (qGM n) _ _ _ _ _
   refine wpF.bd (f:=λn r=>match r with
    | .done (.exit .nrm T _)=>opsP P S (run P X n) (runP P X S n) nt all ms os T
    | r=>ret r) mono1 (λr=>qBF λn=>by
      split
      ·exact qN2 (qB3 n) (qGM n) nt all ms os _
      ·exact LeM.refl _) ?_
   rcases hcase with ⟨hw,h⟩ | ⟨hw,h⟩
   ·refine (zAEZ (Q:=λT' s'=>wpF (λn=>opsP P S (run P X n) (runP P X S n) nt all ms os T') _ s') hT ha.1 hw h λv s' hv=>next v _ (λenv' e4 _=>hk'.forget e4) s' hv).mono ?_
    rintro r s' (⟨T',rfl,hq⟩ | ⟨v,rfl,hR⟩)
    ·exact hq
    ·exact wpF.ret (.inr ⟨v,T,env,rfl,hT,hR,λ_ _=>rfl⟩)
   ·obtain ⟨T',h1,h2⟩:=next .undef _ (λenv' e4 e5=>hk'.mark e4 λd hd=>by rw [e5 d hd]) s h
    have e0:∀ n,opP P S (run P X n) (runP P X S n) nt all o T ms=ret (.done (.exit .nrm T' ms)):=λn=>by
     unfold opP qF0 qHf qC1
     simp only [hw]
     funext H
     simp only [bd,ret,lift,h1]
    exact (wpF.ret (s:=s) (Q:=λr s'=>wpF (λn=>match r with
    | .done (.exit .nrm T _)=>opsP P S (run P X n) (runP P X S n) nt all ms os T
    | r=>ret r) _ s') h2).congr λn=>(e0 n).symm
def zABt (c:Code) (env:Env) (K:AExit→Env→Hq→Prop) (R:AV→Env→Hq→Prop) (ms:List Mk) (r:PO) (s':Hq):Prop:=
 (∃ e T' env',r=.done (.exit e T' ms)∧TR T' env'∧(∀ j,j ∉ assigned c→env' j=env j)∧K e env' s')∨
 ∃ v T' env',r=.pan v T' ms∧TR T' env'∧(∀ j,j ∉ assigned c→env' j=env j)∧R v env' s'
def zADS (P:Program) (X:Td) (S:FuncId→Bool) (A:Nat→List Nat) (nt:Nat) (c:Code):Prop:=∀ (env:Env) (K:AExit→Env→Hq→Prop) (R:AV→Env→Hq→Prop) (s:Hq),noRF c=true→wpCP P X S A nt c env K R s→∀ (T:Tmps) (ms:List Mk),TR T env→
 wpF (λn=>runP P X S n (.code nt c T ms)) (zABt c env K R ms) s
theorem qCT {c:Code} {T:Tmps} {ms:List Mk} {Q:PO→Hq→Prop} {s:Hq} (h:wpF (λn=>qJC P S (run P X n) (runP P X S n) nt c T ms) Q s):wpF (λn=>runP P X S n (.code nt c T ms)) Q s:=h.succ λ_=>rfl
theorem qVH (hX:FrX X) {c:Code} {env:Env} {K:AExit→Env→Hq→Prop} {R:AV→Env→Hq→Prop} {s:Hq} {T:Tmps} {ms:List Mk} (hn:noRF c=true) (h:wpC P X A nt none c env K s) (hT:TR T env) :
  wpF (λn=>oldP (run P X n) nt c T ms) (zABt c env K R ms) s:=by
 have h1:=qIb (P:=P) (X:=X) (A:=A) (nt:=nt) (rnd:=none) hX c env K s h T [] hT (by simp) List.nodup_nil
 rw [qNM] at h1
 refine wpF.bd (m:=λn=>run P X n (.code nt none c T ms)) (f:=λ_ o=>ret (PO.done o)) (qCb _) (λ_=>.const _) ((qUB hn ms h1).mono ?_)
 rintro o S' ⟨o',rfl,hno,e,T2,env2,ms',s2,rfl,q1,rfl,_,_,q4,_,q6⟩
 simp only [reMs,Out.exit.injEq,true_and,List.append_nil] at hno
 have hms:ms'=[]:=by
  cases ms' with
  | nil=>rfl
  | cons _ _=>cases hno
 subst hms
 rw [List.append_nil,qNM]
 exact wpF.ret (.inl ⟨e,T2,env2,rfl,q1,q4,q6⟩)
theorem qHI (hX:FrX X):∀ c:Code,zADS P X S A nt c
 | .region id ops draw=>λenv K R s hn h T ms hT=>by
   refine qCT ?_
   unfold wpCP at h
   refine wpF.congr (m:=λn=>cond (draw&&qSJ S ops.toList)
    (cond (qPA ops) (bd (opsD P (run P X n) nt ops.pop ops.pop.toList (masks ops.pop.toList []) [] T) λT=>opsP P S (run P X n) (runP P X S n) nt ops.toList ms (ops.toList.drop ops.pop.size) T) fail)
    (cond (draw||(qBN ops.toList).isSome) (oldP (run P X n) nt (.region id ops draw) T ms) (opsP P S (run P X n) (runP P X S n) nt ops.toList ms ops.toList T))) ?_ (λn=>rfl)
   have out:∀ j,j ∉ assigned (.region id ops draw)→∀ o∈ops.toList,o.dst≠some j:=λj hj o ho hd=>hj (qIj ho hd)
   cases hdl:(draw&&qSJ S ops.toList) with
   | true=>
     rw [hdl,cond_true] at h
     simp only [cond_true]
     cases hok:(qPA ops&&(ops.toList.drop ops.pop.size).all λo=>okOp o.op) with
     | false=>rw [hok] at h;exact h.elim
     | true=>
     rw [hok,cond_true] at h
     obtain ⟨k1,k2⟩:=Bool.and_eq_true_iff.1 hok
     simp only [k1,cond_true]
     unfold wpC at h
     cases hokd:((ops.pop.toList.all λo=>okOp o.op)&&(true||(qBN ops.pop.toList).isNone)) with
     | false=>rw [hokd] at h;exact h.elim
     | true=>
     rw [hokd,cond_true,cond_true] at h
     obtain ⟨hok1,_⟩:=Bool.and_eq_true_iff.1 hokd
     cases hr:(qBp ops.pop.toList&&qNt (qVS A ops.pop.toList) ops.pop (clsL P ops.pop.toList) (masks ops.pop.toList [])) with
     | false=>rw [hr] at h;exact h.elim
     | true=>
     rw [hr,cond_true] at h
     obtain ⟨h1,h2⟩:=Bool.and_eq_true_iff.1 hr
     have hlen:(masks ops.pop.toList []).length=ops.pop.size:=by rw [qIY];simp
     have hpre:wpF (λn=>opsD P (run P X n) nt ops.pop ops.pop.toList (masks ops.pop.toList []) [] T) (λT' s'=>∃ env',TR T' env'∧qTX P X S nt ops.toList (ops.toList.drop ops.pop.size) [] env' (λenv s=>K .nrm env s) R s'∧∀ j,(∀ o∈ops.pop.toList,o.dst≠some j)→env' j=env j) s:=λH hH=>by
      obtain ⟨n,T',H',q1,s',env',q2,q3,q4,q5,q6⟩:=qTU hX hlen h2 ops.pop.toList 0 [] [] [] env s T [] rfl hok1 hT .nil h H hH ⟨rfl,by simp,by simp,by simp,by simp,by simp⟩
      exact ⟨n,T',H',q1,s',q2,q3,env',q4,q5,q6⟩
     refine wpF.bd (f:=λn T=>opsP P S (run P X n) (runP P X S n) nt ops.toList ms (ops.toList.drop ops.pop.size) T) (qNC _ _ _ _ _) (λT=>qW8 _ _ _ _) (hpre.mono ?_)
     rintro T1 s1 ⟨env1,t1,e1,f1⟩
     have sub1:∀ o,o∈ops.pop.toList→o∈ops.toList:=λo ho=>by
      rw [Array.toList_pop] at ho
      exact (List.dropLast_sublist _).subset ho
     refine (qPg _ [] env1 s1 T1 k2 t1 .nil e1).mono ?_
     rintro r s' (⟨T',env',rfl,q1,q2,q3⟩ | ⟨v,T',env',rfl,q1,q2,q3⟩)
     ·exact .inl ⟨.nrm,T',env',rfl,q1,λj hj=>(q3 j λo ho=>out j hj o (List.mem_of_mem_drop ho)).trans (f1 j λo ho=>out j hj o (sub1 o ho)),q2⟩
     ·exact .inr ⟨v,T',env',rfl,q1,λj hj=>(q3 j λo ho=>out j hj o (List.mem_of_mem_drop ho)).trans (f1 j λo ho=>out j hj o (sub1 o ho)),q2⟩
   | false=>
   rw [hdl,cond_false] at h
   simp only [cond_false]
   cases hd:(draw||(qBN ops.toList).isSome) with
   | true=>
     rw [hd,cond_true] at h
     simp only [cond_true]
     exact qVH hX hn h hT
   | false=>
     rw [hd,cond_false] at h
     simp only [cond_false]
     cases hok:(ops.toList.all λo=>okOp o.op) with
     | false=>rw [hok] at h;exact h.elim
     | true=>
     rw [hok,cond_true] at h
     refine (qPg ops.toList [] env s T hok hT .nil h).mono ?_
     rintro r s' (⟨T',env',rfl,q1,q2,q3⟩ | ⟨v,T',env',rfl,q1,q2,q3⟩)
     ·exact .inl ⟨.nrm,T',env',rfl,q1,λj hj=>q3 j (out j hj),q2⟩
     ·exact .inr ⟨v,T',env',rfl,q1,λj hj=>q3 j (out j hj),q2⟩
 | .seq a b=>λenv K R s hn h T ms hT=>by
   unfold noRF at hn
   obtain ⟨hn1,hn2⟩:=Bool.and_eq_true_iff.1 hn
   refine qCT ?_
   unfold wpCP at h
   unfold qJC
   refine wpF.bd (m:=λn=>runP P X S n (.code nt a T ms)) (f:=λn r=>match r with
    | .done (.exit .nrm T ms)=>runP P X S n (.code nt b T ms)
    | r=>ret r) (qC7 _) (λr=>qBF λn=>by
      split
      ·exact qGM n _
      ·exact LeM.refl _) ((qHI hX a env _ R s hn1 h T ms hT).mono ?_)
   rintro r s1 (⟨e,T1,env1,rfl,q1,q2,q3⟩ | ⟨v,T1,env1,rfl,q1,q2,q3⟩)
   ·cases e with
    | nrm=>
      refine (qHI hX b env1 K R s1 hn2 q3 T1 ms q1).mono ?_
      rintro r s2 (⟨e,T2,env2,rfl,r1,r2,r3⟩ | ⟨v,T2,env2,rfl,r1,r2,r3⟩)
      ·exact .inl ⟨e,T2,env2,rfl,r1,λj hj=>by
        simp only [assigned,List.mem_append,not_or] at hj
        rw [r2 j hj.2,q2 j hj.1],r3⟩
      ·exact .inr ⟨v,T2,env2,rfl,r1,λj hj=>by
        simp only [assigned,List.mem_append,not_or] at hj
        rw [r2 j hj.2,q2 j hj.1],r3⟩
    | exit id=>exact wpF.ret (.inl ⟨_,T1,env1,rfl,q1,λj hj=>q2 j (by simp only [assigned,List.mem_append,not_or] at hj;exact hj.1),q3⟩)
    | ret=>exact wpF.ret (.inl ⟨_,T1,env1,rfl,q1,λj hj=>q2 j (by simp only [assigned,List.mem_append,not_or] at hj;exact hj.1),q3⟩)
   ·exact wpF.ret (.inr ⟨v,T1,env1,rfl,q1,λj hj=>q2 j (by simp only [assigned,List.mem_append,not_or] at hj;exact hj.1),q3⟩)
 | .cond c a b=>λenv K R s hn h T ms hT=>by
   unfold noRF at hn
   obtain ⟨hn1,hn2⟩:=Bool.and_eq_true_iff.1 hn
   refine qCT ?_
   unfold wpCP at h
   cases hok:okX c with
   | false=>rw [hok] at h;exact h.elim
   | true=>
   rw [hok,cond_true] at h
   unfold qJC
   simp only [qI9 hT hok]
   unfold qAQ at h
   split at h
   ·rename_i e
    simp only [e,cond_true]
    refine (qHI hX a env K R s hn1 h T ms hT).mono ?_
    rintro r s' (⟨e,T2,env2,rfl,r1,r2,r3⟩ | ⟨v,T2,env2,rfl,r1,r2,r3⟩)
    ·exact .inl ⟨e,T2,env2,rfl,r1,λj hj=>r2 j (by simp only [assigned,List.mem_append,not_or] at hj;exact hj.1),r3⟩
    ·exact .inr ⟨v,T2,env2,rfl,r1,λj hj=>r2 j (by simp only [assigned,List.mem_append,not_or] at hj;exact hj.1),r3⟩
   ·rename_i e
    simp only [e,cond_false]
    refine (qHI hX b env K R s hn2 h T ms hT).mono ?_
    rintro r s' (⟨e,T2,env2,rfl,r1,r2,r3⟩ | ⟨v,T2,env2,rfl,r1,r2,r3⟩)
    ·exact .inl ⟨e,T2,env2,rfl,r1,λj hj=>r2 j (by simp only [assigned,List.mem_append,not_or] at hj;exact hj.2),r3⟩
    ·exact .inr ⟨v,T2,env2,rfl,r1,λj hj=>r2 j (by simp only [assigned,List.mem_append,not_or] at hj;exact hj.2),r3⟩
   ·exact h.elim
 | .block id b=>λenv K R s hn h T ms hT=>by
   unfold noRF at hn
   refine qCT ?_
   unfold wpCP at h
   unfold qJC
   refine wpF.bd (m:=λn=>runP P X S n (.code nt b T ms)) (f:=λ_ r=>match r with
    | .done (.exit (.exit id') T ms)=>cond (Nat.beq id' id) (ret (.done (.exit .nrm T ms))) (ret (.done (.exit (.exit id') T ms)))
    | r=>ret r) (qC7 _) (λ_=>.const _) ((qHI hX b env _ R s hn h T ms hT).mono ?_)
   rintro r s1 (⟨e,T1,env1,rfl,q1,q2,q3⟩ | ⟨v,T1,env1,rfl,q1,q2,q3⟩)
   ·cases e with
    | exit id'=>
      simp only at q3 ⊢
      cases hb:Nat.beq id' id with
      | true=>rw [hb] at q3;exact wpF.ret (.inl ⟨_,T1,env1,rfl,q1,q2,q3⟩)
      | false=>rw [hb] at q3;exact wpF.ret (.inl ⟨_,T1,env1,rfl,q1,q2,q3⟩)
    | nrm=>exact wpF.ret (.inl ⟨_,T1,env1,rfl,q1,q2,q3⟩)
    | ret=>exact wpF.ret (.inl ⟨_,T1,env1,rfl,q1,q2,q3⟩)
   ·exact wpF.ret (.inr ⟨v,T1,env1,rfl,q1,q2,q3⟩)
 | .loop b=>λenv K R s hn h T ms hT=>by
   unfold noRF at hn
   obtain ⟨hn1,hn2⟩:=Bool.and_eq_true_iff.1 hn
   have hms:qBM b=none:=by simpa using hn1
   unfold wpCP at h
   rw [hms] at h
   simp only at h
   unfold zAAy at h
   obtain ⟨I,⟨m,h0⟩,hstep⟩:=h
   have key:∀ (m:Nat) (env1:Env) (s1:Hq) (T1:Tmps),I ((A (2 * qIO b)).map env1) s1 m→(∀ j,j ∉ assigned b→env1 j=env j)→TR T1 env1→wpF (λn=>runP P X S n (.code nt (.loop b) T1 ms)) (zABt (.loop b) env K R ms) s1:=by
    intro m
    induction m using Nat.strongRecOn with
    | _ m ih=>
      intro env1 s1 T1 hI hag hT1
      refine qCT ?_
      have hmix:mixE (assigned b) env1 env=env1:=by
       funext j
       unfold mixE
       cases hj:memN j (assigned b) with
       | true=>rfl
       | false=>exact (hag j λq=>by rw [qHA.2 q] at hj;cases hj).symm
      have hbody:=hstep env1 s1 m hI
      rw [hmix] at hbody
      unfold qJC
      simp only [hms]
      refine wpF.bd (m:=λn=>runP P X S n (.code nt b T1 ms)) (f:=λn r=>match r with
       | .done (.exit .nrm T ms)=>runP P X S n (.code nt (.loop b) T ms)
       | r=>ret r) (qC7 _) (λr=>qBF λn=>by
         split
         ·exact qGM n _
         ·exact LeM.refl _) ((qHI hX b env1 _ R s1 hn2 hbody T1 ms hT1).mono ?_)
      rintro r s2 (⟨e,T2,env2,rfl,q1,q2,q3⟩ | ⟨v,T2,env2,rfl,q1,q2,q3⟩)
      ·have hag2:∀ j,j ∉ assigned b→env2 j=env j:=λj hj=>(q2 j hj).trans (hag j hj)
       cases e with
       | nrm=>
         obtain ⟨m',hlt,hI'⟩:=q3
         exact ih m' hlt env2 s2 T2 hI' hag2 q1
       | exit id=>exact wpF.ret (.inl ⟨_,T2,env2,rfl,q1,hag2,q3⟩)
       | ret=>exact wpF.ret (.inl ⟨_,T2,env2,rfl,q1,hag2,q3⟩)
      ·exact wpF.ret (.inr ⟨v,T2,env2,rfl,q1,λj hj=>(q2 j hj).trans (hag j hj),q3⟩)
   exact key m env s T h0 (λ_ _=>rfl) hT
 | .skip=>λenv K R s hn h T ms hT=>qCT (qVH hX hn h hT)
 | .exit _=>λenv K R s hn h T ms hT=>qCT (qVH hX hn h hT)
 | .ret=>λenv K R s hn h T ms hT=>qCT (qVH hX hn h hT)
 | .rangeFunc _ _ _ _=>λenv K R s hn h T ms hT=>by cases hn
 | .scope _=>λenv K R s hn h T ms hT=>by cases hn
 | .label _=>λenv K R s hn h T ms hT=>by cases hn
 | .goto _=>λenv K R s hn h T ms hT=>by cases hn
 | .refuse _=>λenv K R s hn h T ms hT=>by cases hn
theorem qBo (hX:FrX X) (A:Nat→List Nat) {f:FuncId} {fn:Func} {c:Code} (hf:P.funcs[f]?=some fn) (hb:fn.body=some c) (hn:noRF c=true) {args:List AV} (hl:Nat.ble args.length fn.ntmps=true) {K R:AV→Hq→Prop} {s:Hq}
  (h:wpCP P X S A fn.ntmps c (qJf args) (λe env s=>retK e (resK P fn.results.toList env (λvs=>K (oneV vs) s) s)) (λv _ s=>R v s) s):qAf P X S f args K R s:=by
 unfold qAf
 refine wpF.succ (m:=λn=>fnP P (run P X n) (runP P X S n) f args) ?_ (λ_=>rfl)
 unfold fnP
 simp only [hf,hb]
 refine wpF.cond hl ?_
 refine wpF.bd (m:=λn=>runP P X S n (.code fn.ntmps c (Tr.ofListAt .nil 0 args) [])) (f:=λn r=>endP P (run P X n) fn.results.toList r) (qC7 _) (λr=>qBF λn=>qTY (qB3 n) _ _) ((qHI hX c _ _ _ s hn h (Tr.ofListAt .nil 0 args) [] (qMZ args)).mono ?_)
 rintro r s' (⟨e,T',env',rfl,q1,_,q3⟩ | ⟨v,T',env',rfl,q1,_,q3⟩)
 ·have body:resK P fn.results.toList env' (λvs=>K (oneV vs) s') s'→wpF (λn=>bd (qAx P (run P X n) []) λ_=>bd (qBB P T' fn.results.toList) λvs=>ret (PO.done (.val (oneV vs)))) (λr s'=>(∃ v,r=.done (.val v)∧K v s')∨∃ v,r=.pan v .nil []∧R v s') s':=by
   intro hr
   unfold qAx
   refine wpF.bd (m:=λ_=>ret ()) (f:=λ_ _=>bd (qBB P T' fn.results.toList) λvs=>ret (PO.done (.val (oneV vs)))) (.const _) (λ_=>.const _) (wpF.ret ?_)
   refine wpF.bd (m:=λ_=>qBB P T' fn.results.toList) (f:=λ_ vs=>ret (PO.done (.val (oneV vs)))) (.const _) (λ_=>.const _) ((qFP q1 _ _ _ hr).mono ?_)
   rintro vs s'' ⟨rfl,hk⟩
   exact wpF.ret (.inl ⟨_,rfl,hk⟩)
  cases e with
  | exit id=>exact q3.elim
  | nrm=>exact body q3
  | ret=>exact body q3
 ·exact wpF.ret (.inr ⟨v,rfl,q3⟩)
end Go.AM
namespace Go.AM
open Go
variable {P : Program} {X : Td} {S : FuncId → Bool} {nt : Nat} {A : Nat → List Nat}
def qXb (P:Program) (X:Td) (k:FuncId) (args:List AV) (v:AV) (Q:Hq→Prop) (s:Hq):Prop:=wpF (λn=>qH5 P (run P X n) k args v) (λ_ s=>Q s) s
def recK (P:Program) (X:Td) (fv:AV) (v:AV) (Q:Hq→Prop) (s:Hq):Prop:=match fv with
 | .fn (.func k) first cap=>qXb P X k (first ++ cap) v Q s
 | _=>False
def qNo (c:Code) (env:Env) (v:AV):Env:=match qGz c with
 | some (t,_)=>upd env t v
 | none=>env
theorem qWV (hX:FrX X) (A:Nat→List Nat) {k:FuncId} {fn:Func} {c:Code} (hf:P.funcs[k]?=some fn) (hb:fn.body=some c) (hr:fn.results.toList=[]) (hc:zAAj c fn.ntmps=true) {args:List AV} {v:AV} (hl:Nat.ble args.length fn.ntmps=true) {K:AV→Hq→Prop} {s:Hq}
  (h:wpC P X A fn.ntmps none (qSB c) (qNo c (qJf args) v) (λe env s=>retK e (resK P fn.results.toList env (λvs=>K (oneV vs) s) s)) s):qXb P X k args v (λs=>K (.tup []) s) s:=by
 unfold zAAj at hc
 unfold qSB qNo at h
 cases hq:qGz c with
 | none=>rw [hq] at hc;cases hc
 | some p=>
 obtain ⟨t,r⟩:=p
 rw [hq] at hc h
 simp only at hc h
 obtain ⟨hno,hlt⟩:=Bool.and_eq_true_iff.1 hc
 rw [hr] at h
 unfold qXb qH5
 simp only [hf,hb,hr]
 refine wpF.cond hl ?_
 have hd:qMk fn (Tr.ofListAt .nil 0 args) v c=some (r,(Tr.ofListAt .nil 0 args).put t (some v)):=by
  unfold qMk
  rw [hq]
  simp only [hlt,cond_true]
 rw [hd]
 simp only
 have hT:=qPD (qMZ args) t v
 have hcode:=qIb (P:=P) (X:=X) (A:=A) (nt:=fn.ntmps) (rnd:=none) hX r _ _ s h _ [] hT (by simp) List.nodup_nil
 rw [qNM] at hcode
 refine wpF.bd (qCb _) (λo=>.const _) ((qUB hno [] hcode).mono ?_)
 rintro o S ⟨o',rfl,hno',e,T2,env2,ms',s2,rfl,q1,rfl,_,_,_,_,q6⟩
 simp only [reMs,Out.exit.injEq,true_and,List.append_nil] at hno'
 have hms:ms'=[]:=by
  cases ms' with
  | nil=>rfl
  | cons _ _=>cases hno'
 subst hms
 rw [List.append_nil,qNM]
 cases e with
 | nrm=>exact wpF.ret q6
 | ret=>exact wpF.ret q6
 | exit id=>exact q6.elim
def wpDP (P:Program) (X:Td) (S:FuncId→Bool) (A:Nat→List Nat) (nt:Nat):Code→Env→(AV→AExit→Env→Hq→Prop)→(AV→AV→Env→Hq→Prop)→Hq→Prop
 | .seq a b,env,K,R,s=>match qXM a with
   | some (all,l,c)=>match qYe c with
     | some f=>cond ((l.all λo=>okOp o.op)&&noRF b) (opsE P X nt all l [] env (λenv s=>qW9 P (evD env f)∧wpCP P X S A nt b env (K (evD env f)) (R (evD env f)) s) s) False
     | none=>False
   | none=>cond (noRF a) (wpCP P X S A nt a env (λe env s=>match e with
     | .nrm=>wpDP P X S A nt b env K R s
     | _=>False) (λ_ _ _=>False) s) False
 | _,_,_,_,_=>False
def zADZ (P:Program) (K:AV→AExit→Env→Hq→Prop) (R:AV→AV→Env→Hq→Prop) (r:PO) (s:Hq):Prop:=∃ T env k first cap,TR T env∧isFn P k=true∧
 ((∃ e,r=.done (.exit e T [.call k (first ++ cap)])∧K (.fn (.func k) first cap) e env s)∨∃ v,r=.pan v T [.call k (first ++ cap)]∧R (.fn (.func k) first cap) v env s)
theorem qYw (hX:FrX X):∀ (c:Code) (env:Env) (K:AV→AExit→Env→Hq→Prop) (R:AV→AV→Env→Hq→Prop) (s:Hq) (T:Tmps),TR T env→wpDP P X S A nt c env K R s→wpF (λn=>runP P X S n (.code nt c T [])) (zADZ P K R) s
 | .seq a b,env,K,R,s,T,hT,h=>by
   refine qCT ?_
   unfold wpDP at h
   unfold qJC
   have monoB:∀ r:PO,Mono λn=>(match r with
    | .done (.exit .nrm T ms)=>runP P X S n (.code nt b T ms)
    | r=>ret r:M PO):=λr=>qBF λn=>by
      split
      ·exact qGM n _
      ·exact LeM.refl _
   cases hd:qXM a with
   | some p=>
     obtain ⟨all,l,c⟩:=p
     rw [hd] at h
     simp only at h
     cases hf:qYe c with
     | none=>rw [hf] at h;exact h.elim
     | some f=>
     rw [hf] at h
     simp only at h
     cases hok:((l.all λo=>okOp o.op)&&noRF b) with
     | false=>rw [hok] at h;exact h.elim
     | true=>
     rw [hok,cond_true] at h
     obtain ⟨hok1,hok2⟩:=Bool.and_eq_true_iff.1 hok
     refine wpF.bd (m:=λn=>runP P X S n (.code nt a T [])) (qC7 _) monoB ?_
     cases a with
     | region id ops draw=>
       cases draw with
       | true=>cases hd
       | false=>
       simp only [qXM] at hd
       cases hq:qBN ops.toList with
       | none=>rw [hq] at hd;cases hd
       | some q=>
       rw [hq] at hd
       simp only [Option.some.injEq,Prod.mk.injEq] at hd
       obtain ⟨rfl,rfl,rfl⟩:=hd
       refine qCT ?_
       refine wpF.congr (m:=λn=>oldP (run P X n) nt (.region id ops false) T []) ?_ (λn=>by
        show _=cond (false||(qBN ops.toList).isSome) _ _
        rw [hq];rfl)
       refine wpF.bd (m:=λn=>run P X n (.code nt none (.region id ops false) T [])) (f:=λ_ o=>ret (PO.done o)) (qCb _) (λ_=>.const _) (qB8 ?_)
       unfold qAv
       simp only [cond_false,hq]
       refine wpF.bd (qMr _ _ _ _) (λT=>.const _) ((qTq _ _ _ _ _ hok1 hT .nil h).mono ?_)
       rintro T1 s1 ⟨env1,hT1,⟨h1,h2⟩,_⟩
       unfold qW9 at h1
       split at h1
       ·rename_i k first cap hv
        have x2:=h1
        unfold qYe at hf
        split at hf
        ·rename_i f' hcal
         cases hz:(q.2.args.toList.isEmpty&&okX f') with
         | false=>rw [hz] at hf;cases hf
         | true=>
         rw [hz] at hf
         cases hf
         obtain ⟨z1,z2⟩:=Bool.and_eq_true_iff.1 hz
         have z1:q.2.args.toList=[]:=by simpa using z1
         have hda:qJN P T1 q.2=some (.call k (first ++ cap)):=by
          unfold qJN
          rw [hcal,z1]
          simp only [evs,qI9 hT1 z2,hv,x2,cond_true,List.append_nil]
         rw [hda]
         refine wpF.ret (wpF.ret ?_)
         simp only
         rw [hv] at h2
         refine (qHI hX b env1 _ _ s1 hok2 h2 T1 [.call k (first ++ cap)] hT1).mono ?_
         rintro r s2 (⟨e,T2,env2,rfl,q1,_,q3⟩ | ⟨v,T2,env2,rfl,q1,_,q3⟩)
         ·exact ⟨T2,env2,k,first,cap,q1,x2,.inl ⟨e,rfl,q3⟩⟩
         ·exact ⟨T2,env2,k,first,cap,q1,x2,.inr ⟨v,rfl,q3⟩⟩
        ·cases hf
       ·exact h1.elim
     | _=>cases hd
   | none=>
     rw [hd] at h
     simp only at h
     cases hn:noRF a with
     | false=>rw [hn] at h;exact h.elim
     | true=>
     rw [hn,cond_true] at h
     have ha:=qHI (P:=P) (X:=X) (S:=S) (A:=A) (nt:=nt) hX a env _ _ s hn h T [] hT
     refine wpF.bd (m:=λn=>runP P X S n (.code nt a T [])) (qC7 _) monoB (ha.mono ?_)
     rintro r s1 (⟨e,T1,env1,rfl,q1,_,q3⟩ | ⟨v,T1,env1,rfl,q1,_,q3⟩)
     ·cases e with
      | nrm=>exact qYw hX b env1 K R s1 T1 q1 q3
      | ret=>exact q3.elim
      | exit id=>exact q3.elim
     ·exact q3.elim
 | .skip,_,_,_,_,_,_,h=>h.elim
 | .region _ _ _,_,_,_,_,_,_,h=>h.elim
 | .cond _ _ _,_,_,_,_,_,_,h=>h.elim
 | .block _ _,_,_,_,_,_,_,h=>h.elim
 | .loop _,_,_,_,_,_,_,h=>h.elim
 | .exit _,_,_,_,_,_,_,h=>h.elim
 | .ret,_,_,_,_,_,_,h=>h.elim
 | .rangeFunc _ _ _ _,_,_,_,_,_,_,h=>h.elim
 | .scope _,_,_,_,_,_,_,h=>h.elim
 | .label _,_,_,_,_,_,_,h=>h.elim
 | .goto _,_,_,_,_,_,_,h=>h.elim
 | .refuse _,_,_,_,_,_,_,h=>h.elim
theorem qPn (hX:FrX X) (A:Nat→List Nat) {f:FuncId} {fn:Func} {c:Code} (hf:P.funcs[f]?=some fn) (hb:fn.body=some c) {args:List AV} (hl:Nat.ble args.length fn.ntmps=true) {K R:AV→Hq→Prop} {s:Hq}
  (h:wpDP P X S A fn.ntmps c (qJf args) (λdv e env s=>retK e (runK P X dv (λs=>resK P fn.results.toList env (λvs=>K (oneV vs) s) s) s)) (λdv v env s=>recK P X dv v (λs=>resK P fn.results.toList env (λvs=>K (oneV vs) s) s) s) s):qAf P X S f args K R s:=by
 unfold qAf
 refine wpF.succ (m:=λn=>fnP P (run P X n) (runP P X S n) f args) ?_ (λ_=>rfl)
 unfold fnP
 simp only [hf,hb]
 refine wpF.cond hl ?_
 refine wpF.bd (m:=λn=>runP P X S n (.code fn.ntmps c (Tr.ofListAt .nil 0 args) [])) (f:=λn r=>endP P (run P X n) fn.results.toList r) (qC7 _) (λr=>qBF λn=>qTY (qB3 n) _ _) ((qYw hX c _ _ _ s _ (qMZ args) h).mono ?_)
 rintro r s' ⟨T',env',k,first,cap,q1,x2,(⟨e,rfl,q3⟩ | ⟨v,rfl,q3⟩)⟩
 ·have body:runK P X (.fn (.func k) first cap) (λs=>resK P fn.results.toList env' (λvs=>K (oneV vs) s) s) s'→wpF (λn=>bd (qAx P (run P X n) [.call k (first ++ cap)]) λ_=>bd (qBB P T' fn.results.toList) λvs=>ret (PO.done (.val (oneV vs)))) (λr s'=>(∃ v,r=.done (.val v)∧K v s')∨∃ v,r=.pan v .nil []∧R v s') s':=by
   intro hcall
   refine wpF.bd (qEB _) (λ_=>.const _) ?_
   unfold qAx
   refine wpF.bd (f:=λn _=>qAx P (run P X n) []) (qBF λn=>qSt (qB3 n) _ _) (λ_=>qEB _) (wpF.mono hcall ?_)
   rintro _ s1 hr
   refine wpF.ret ?_
   refine wpF.bd (.const _) (λ_=>.const _) ((qFP q1 _ _ _ hr).mono ?_)
   rintro vs s'' ⟨rfl,hk⟩
   exact wpF.ret (.inl ⟨_,rfl,hk⟩)
  cases e with
  | exit id=>exact q3.elim
  | nrm=>exact body q3
  | ret=>exact body q3
 ·have hcall:qXb P X k (first ++ cap) v (λs=>resK P fn.results.toList env' (λvs=>K (oneV vs) s) s) s':=q3
  refine wpF.bd (m:=λn=>qH5 P (run P X n) k (first ++ cap) v) (f:=λ_ _=>bd (qBB P T' fn.results.toList) λvs=>ret (PO.done (.val (oneV vs)))) (qBF λn=>qSn (qB3 n) _ _ _) (λ_=>.const _) (wpF.mono hcall ?_)
  rintro _ s1 hr
  refine wpF.bd (.const _) (λ_=>.const _) ((qFP q1 _ _ _ hr).mono ?_)
  rintro vs s'' ⟨rfl,hk⟩
  exact wpF.ret (.inl ⟨_,rfl,hk⟩)
end Go.AM
namespace Go.AM
open Go Go.RowKit
section
variable (P : Program) (X : Td) (S : FuncId → Bool)
open Classical in
noncomputable def limP (f:FuncId) (args:List AV):M AV:=λH=>
 if h:∃ r:AV × AH,∃ n,runP P X S n (.call f args) H=some (.done (.val r.1),r.2) then some (Classical.choose h) else none
noncomputable def limX (l:List FuncId):Td:=λf=>cond (memN f l) (some (limP P X S f)) none
end
variable {P : Program} {X Y : Td} {S : FuncId → Bool}
theorem qSi {f:FuncId} {args:List AV} {H H':AH} {v:AV} (h:limP P X S f args H=some (v,H')):∃ n,runP P X S n (.call f args) H=some (.done (.val v),H'):=by
 unfold limP at h
 split at h
 ·rename_i hex
  obtain ⟨n,hn⟩:=Classical.choose_spec hex
  have e:Classical.choose hex=(v,H'):=Option.some.inj h
  rw [e] at hn
  exact ⟨n,hn⟩
 ·cases h
theorem qX2 {f:FuncId} {args:List AV} {H H':AH} {v:AV} {n:Nat} (h:runP P X S n (.call f args) H=some (.done (.val v),H')):limP P X S f args H=some (v,H'):=by
 have hex:∃ r:AV × AH,∃ n,runP P X S n (.call f args) H=some (.done (.val r.1),r.2):=⟨(v,H'),n,h⟩
 unfold limP
 rw [dif_pos hex]
 obtain ⟨m,hm⟩:=Classical.choose_spec hex
 have h1:=qC7 (P:=P) (X:=X) (S:=S) (.call f args) n (max n m) H _ (Nat.le_max_left _ _) h
 have h2:=qC7 (P:=P) (X:=X) (S:=S) (.call f args) m (max n m) H _ (Nat.le_max_right _ _) hm
 rw [h1] at h2
 simp only [Option.some.injEq,Prod.mk.injEq,PO.done.injEq,Out.val.injEq] at h2
 rw [h2.1,h2.2]
theorem zACf (hX:FrX X) (f:FuncId) (args:List AV):Fr (limP P X S f args):=by
 intro H1 a H1' h
 obtain ⟨n,hn⟩:=qSi h
 obtain ⟨es,d,k⟩:=qPe (P:=P) (S:=S) hX n (.call f args) H1 _ H1' hn
 refine ⟨es,d,λH2 h1 h2 h3=>?_⟩
 obtain ⟨H2',q1,q2,q3,q4⟩:=k H2 h1 h2 h3
 exact ⟨H2',qX2 q1,q2,q3,q4⟩
theorem qXD (hX:FrX X) (l:List FuncId):FrX (limX P X S l):=λf g args h=>by
 unfold limX at h
 cases hm:memN f l with
 | false=>rw [hm] at h;cases h
 | true=>rw [hm] at h;cases h;exact zACf hX f args
theorem limX_ok (hm:P.follows .mixedOrders=true) (hname:noNumB P=true) (hX:ExtOK P X) (l:List FuncId):ExtOK P (limX P X S l):=by
 refine ⟨qXD hX.1 l,λf g hg args H v H' hr σ ρ base w args' hσ hwr hf hra=>?_⟩
 unfold limX at hg
 cases hmem:memN f l with
 | false=>rw [hmem] at hg;cases hg
 | true=>
   rw [hmem] at hg
   cases hg
   obtain ⟨n,hn⟩:=qSi hr
   rcases (qXx hm (qQC hname) hX S n).2 f args H _ H' hn with ⟨v1,e,k⟩ | ⟨v1,e,_⟩
   ·cases e
    exact k σ ρ base w args' hσ hwr hf hra
   ·cases e
theorem zAEL (hX:FrX X) (hY:FrX Y):FrX (orX X Y):=λf g args h=>by
 unfold orX at h
 cases hx:X f with
 | some g'=>rw [hx] at h;cases h;exact hX f _ args hx
 | none=>rw [hx] at h;exact hY f g args h
theorem zAES {l:List FuncId} {f:FuncId} {args:List AV} {K:AV→Hq→Prop} {s:Hq} (hf:memN f l=true) (h:qAf P X S f args K (λ_ _=>False) s):wC P (orX (limX P X S l) Y) f args K s:=by
 intro H hH
 obtain ⟨n,r,H',h1,s',h2,h3,h4⟩:=h H hH
 rcases h4 with ⟨v,rfl,hK⟩ | ⟨v,_,h5⟩
 ·refine ⟨1,.val v,H',?_,s',h2,h3,v,rfl,hK⟩
  show (match orX (limX P X S l) Y f with
   | some g=>bd (g args) λv=>ret (Out.val v)
   | none=>qBg P (run P (orX (limX P X S l) Y) 0) f args) H=_
  have:orX (limX P X S l) Y f=some (limP P X S f):=by
   unfold orX limX
   rw [hf];rfl
  rw [this]
  simp only [bd,qX2 h1,ret]
 ·exact h5.elim
theorem qUK {g:Nat} {l0:List AV} {l:List FuncId} {f:FuncId} (hn:Y f=none) (hf:memN f l=true) (hp:plainC l0=true) {K:AV→Hq→Prop} {s:Hq} {t:Bool} (hg:s g=some (t,.glob g (.agg l0))) (h:K (.bool true) s):wC P (orX Y (qGW g l0 l)) f [] K s:=by
 intro H hH
 obtain ⟨_,ab,h1,h2⟩:=hH.at_ g t _ hg
 cases ab with
 | glob g' v'=>
   obtain ⟨rfl,rfl⟩:=h2
   refine ⟨1,.val (.bool true),{ H with log:=(g,false) :: H.log },?_,s,hH.eqv rfl rfl λ_=>rfl,.refl _,_,rfl,h⟩
   show (match orX Y (qGW g l0 l) f with
    | some gg=>bd (gg []) λv=>ret (Out.val v)
    | none=>qBg P (run P (orX Y (qGW g l0 l)) 0) f []) H=_
   have:orX Y (qGW g l0 l) f=some λargs=>match args with
    | []=>bd (rd g) λblk=>match blk with
      | .glob g' v=>cond (Nat.beq g g'&&isV l0 v) (ret (.bool true)) fail
      | _=>fail
    | _=>fail:=by unfold orX;rw [hn];unfold qGW;rw [hf];rfl
   rw [this]
   have e1:Nat.beq g g=true:=Nat.beq_refl g
   have e2:isV l0 (.agg l0)=true:=qLO hp
   simp only [bd,rd,h1,e1,e2,Bool.and_self,cond_true,ret]
 | _=>exact h2.elim
end Go.AM
