/- Part A2 of a calculus over a small memory that is proved to answer as the program does, and of its use for the functions that the law reaches: see the last part. -/
import Derived.Test.YtnbgeelhoakjgaaGreatA1
import Derived.ChangeKeysEq
import Derived.MapKept
import Derived.Laws.MakeOwn
import Derived.Great.BuildSlice
import Derived.Laws.Append
import Derived.Laws.AppendOwn
set_option linter.unusedVariables false
namespace Go.AM
open Go
variable {P:Program} {X:Td} {nt:Nat} {wl:List Nat}
theorem qF7:∀ {l:List (Hq × Hq)} {s:Hq} {b:Nat},cutH l s b≠none→s b≠none∧(∀ p∈l,¬ (p.1 b=none∧p.2 b≠none))∧cutH l s b=s b
 | [],s,b,h=>⟨h,by simp,rfl⟩
 | p :: l,s,b,h=>by
   obtain ⟨h1,h2,h3⟩:=qF7 (l:=l) h
   by_cases e:p.1 b=none∧p.2 b≠none
   ·exact absurd (if_pos e) h1
   ·rw [if_neg e] at h1 h3
    exact ⟨h1,λq hq=>by rcases mC hq with rfl | hq;exact e;exact h2 q hq,h3⟩
theorem qK7 (l:List (Hq × Hq)) (s:Hq):Sub (cutH l s) s:=λi e hi=>by
 obtain ⟨_,_,h⟩:=qF7 (l:=l) (s:=s) (b:=i) (by rw [hi];simp)
 rw [← h];exact hi
theorem qNN {l:List (Hq × Hq)} {s:Hq} {b:Nat} (h:s b=none):cutH l s b=none:=by
 cases e:cutH l s b with
 | none=>rfl
 | some x=>exact absurd h (qF7 (l:=l) (s:=s) (b:=b) (by rw [e];simp)).1
theorem qMa:∀ {l:List (Hq × Hq)} {s:Hq} {b:Nat},s b≠none→(∀ p∈l,¬ (p.1 b=none∧p.2 b≠none))→cutH l s b≠none
 | [],_,_,h,_=>h
 | p :: l,s,b,h,hl=>by
   unfold cutH
   refine qMa (l:=l) ?_ λq hq=>hl q (by simp [hq])
   rw [if_neg (hl p (by simp))]
   exact h
theorem qJp {mk k:Nat} {b a:Hq}:∀ {l:List (Nat × Hq × Hq)},(k,b,a)∈l→Nat.testBit mk k=false→(b,a)∈qCs mk l
 | [],h,_=>by cases h
 | p :: l,h,hk=>by
   unfold qCs
   rcases mC h with rfl | h
   ·simp only [hk];exact List.mem_cons_self ..
   ·cases Nat.testBit mk p.1 with
    | true=>exact qJp h hk
    | false=>exact mO _ (qJp h hk)
theorem qM9:∀ {a b:List (Nat × Bool)},(∀ id x y,(id,x)∈a→(id,y)∈b→x=false∧y=false)→clash a b=false
 | [],_,_=>rfl
 | e :: es,b,h=>by
   have h1:qND e b=false:=by
    have:∀ l:List (Nat × Bool),(∀ f∈l,f∈b)→qND e l=false:=by
     intro l
     induction l with
     | nil=>intro _;rfl
     | cons f fs ih=>
       intro hl
       unfold qND
       rw [ih λg hg=>hl g (by simp [hg]),Bool.or_false]
       cases hq:Nat.beq e.1 f.1 with
       | false=>rfl
       | true=>
         have e1:=bE hq
         obtain ⟨k1,k2⟩:=h e.1 e.2 f.2 (by simp) (by rw [e1];exact hl f (by simp))
         rw [k1,k2];rfl
    exact this b λ_ h=>h
   unfold clash
   rw [h1,qM9 λid x y hx hy=>h id x y (by simp [hx]) hy];rfl
theorem qOX {all:Array Oper} {o:Oper} {mk:Nat} {es:List (Nat × Bool)}:∀ (l:List (Oper × List (Nat × Bool))) (i:Nat),
  (∀ k p,l[k]?=some p→Nat.testBit mk (i+k)=true∨(Oper.apart all p.1 o=true∧clash p.2 es=false))→against all o mk es l i=true
 | [],_,_=>rfl
 | p :: l,i,h=>by
   unfold against
   rw [qOX l (i+1) λk q hq=>by
    have:=h (k+1) q (by simpa using hq)
    rwa [show i+(k+1)=i+1+k by omega] at this]
   rcases h 0 p rfl with h1 | ⟨h1,h2⟩
   ·simp only [Nat.add_zero] at h1;simp [h1]
   ·simp [h1,h2]
theorem qT5 {ops:Array Oper} {cs mks:List Nat} (h:qOe wl ops cs mks=true) {i j:Nat} (hj:j < cs.length) (hij:i < j):Nat.testBit (mks.getD j 0) i=true∨
  ∃ p o,ops[i]?=some p∧ops[j]?=some o∧Oper.apart ops p o=true∧(cs.getD i 0=0∨cs.getD j 0=0∨(soft wl ops.toList cs mks i=true∧mild wl cs mks j=true)∨(tch wl ops.toList cs mks i=true∧sft wl ops.toList cs mks j=true)):=by
 unfold qOe at h
 have h1:=List.all_eq_true.1 h j (by simpa using hj)
 have h2:=List.all_eq_true.1 h1 i (by simpa using hij)
 rcases Bool.or_eq_true_iff.1 h2 with h3 | h3
 ·exact .inl h3
 ·right
  split at h3
  ·rename_i p o hp ho
   simp only [Bool.and_eq_true,Bool.or_eq_true] at h3
   refine ⟨p,o,hp,ho,h3.1,?_⟩
   rcases h3.2 with e | e | e | e
   ·exact .inl (bE e)
   ·exact .inr (.inl (bE e))
   ·exact .inr (.inr (.inl e))
   ·exact .inr (.inr (.inr e))
  ·cases h3
structure QInv (wl:List Nat) (all:Array Oper) (cs mks:List Nat) (i:Nat) (D:List (Oper × List (Nat × Bool))) (done rds:List (Nat × Hq × Hq)) (s:Hq) (next:Nat):Prop where
 len:D.length=i
 op:∀ (k:Nat) p,D[k]?=some p→all[k]?=some p.1
 lt:∀ (k:Nat) p,D[k]?=some p→∀ id b,(id,b)∈p.2→id < next
 zero:∀ (k:Nat) p,D[k]?=some p→cs.getD k 0=0→p.2=[]
 wrote:∀ (k:Nat) p,D[k]?=some p→soft wl all.toList cs mks k=true→∀ id,(id,true)∈p.2→∃ b a,(k,b,a)∈done∧(s id≠none→b id=none∧a id≠none)
 touched:∀ (k:Nat) p,D[k]?=some p→tch wl all.toList cs mks k=true→∀ id x,(id,x)∈p.2→∃ b a,(k,b,a)∈done ++ rds∧(s id≠none→b id=none∧a id≠none)
theorem QInv.step {all:Array Oper} {cs mks:List Nat} {i:Nat} {D:List (Oper × List (Nat × Bool))} {done done' rds rds':List (Nat × Hq × Hq)} {s s':Hq} {next next':Nat} (h:QInv wl all cs mks i D done rds s next)
  {o:Oper} {es:List (Nat × Bool)} (ho:all[i]?=some o) (hn:next≤next') (hlt:∀ id b,(id,b)∈es→id < next') (h0:cs.getD i 0=0→es=[]) (hd:∀ p∈done,p∈done') (hr:∀ p∈rds,p∈rds') (hs:∀ id,id < next→s' id≠none→s id≠none)
  (hw:soft wl all.toList cs mks i=true→∀ id,(id,true)∈es→∃ b a,(i,b,a)∈done'∧(s' id≠none→b id=none∧a id≠none))
  (ht:tch wl all.toList cs mks i=true→∀ id x,(id,x)∈es→∃ b a,(i,b,a)∈done' ++ rds'∧(s' id≠none→b id=none∧a id≠none)):QInv wl all cs mks (i+1) (D ++ [(o,es)]) done' rds' s' next':=by
 have key:∀ (k:Nat) p,(D ++ [(o,es)])[k]?=some p→D[k]?=some p∨(k=i∧p=(o,es)):=by
  intro k p hk
  rw [List.getElem?_append] at hk
  split at hk
  ·exact .inl hk
  ·rename_i hge
   rw [h.len] at hk hge
   have:k - i=0:=by
    rcases Nat.eq_zero_or_pos (k - i) with e | e
    ·exact e
    ·rw [List.getElem?_eq_none (by simp;omega)] at hk;cases hk
   rw [this] at hk
   cases hk
   exact .inr ⟨by omega,rfl⟩
 refine ⟨by simp [h.len],λk p hk=>?_,λk p hk id b hb=>?_,λk p hk h3=>?_,λk p hk h3 id hid=>?_,λk p hk h3 id x hid=>?_⟩
 ·rcases key k p hk with e | ⟨rfl,rfl⟩
  ·exact h.op k p e
  ·exact ho
 ·rcases key k p hk with e | ⟨rfl,rfl⟩
  ·exact Nat.lt_of_lt_of_le (h.lt k p e id b hb) hn
  ·exact hlt id b hb
 ·rcases key k p hk with e | ⟨rfl,rfl⟩
  ·exact h.zero k p e h3
  ·exact h0 h3
 ·rcases key k p hk with e | ⟨rfl,rfl⟩
  ·obtain ⟨b,a,h1,h2⟩:=h.wrote k p e h3 id hid
   exact ⟨b,a,hd _ h1,λhne=>h2 (hs id (h.lt k p e id true hid) hne)⟩
  ·exact hw h3 id hid
 ·rcases key k p hk with e | ⟨rfl,rfl⟩
  ·obtain ⟨b,a,h1,h2⟩:=h.touched k p e h3 id x hid
   refine ⟨b,a,?_,λhne=>h2 (hs id (h.lt k p e id x hid) hne)⟩
   rcases mP h1 with h1 | h1
   ·exact List.mem_append_left _ (hd _ h1)
   ·exact List.mem_append_right _ (hr _ h1)
  ·exact ht h3 id x hid
theorem QInv.against {all:Array Oper} {cs mks:List Nat} {i:Nat} {D:List (Oper × List (Nat × Bool))} {done rds:List (Nat × Hq × Hq)} {s:Hq} {next:Nat} (h:QInv wl all cs mks i D done rds s next) (hd:qOe wl all cs mks=true) (hi:i < cs.length)
  {o:Oper} {es:List (Nat × Bool)} (ho:all[i]?=some o) (h0:cs.getD i 0=0→es=[])
  (hm:mild wl cs mks i=true→(∀ id b,(id,b)∈es→cutH (qCs (mks.getD i 0) done) s id≠none∨next≤id)∧(∀ id,(id,true)∈es→next≤id))
  (hst:sft wl all.toList cs mks i=true→∀ id b,(id,b)∈es→cutH (qCs (mks.getD i 0) (done ++ rds)) s id≠none∨next≤id):AM.against all o (mks.getD i 0) es D 0=true:=by
 refine qOX D 0 λk p hk=>?_
 rw [zA]
 have hki:k < i:=by rw [← h.len];exact (gS hk).1
 rcases qT5 hd hi hki with e | ⟨p',o',hp',ho',hap,hc⟩
 ·exact .inl e
 ·by_cases hb:Nat.testBit (mks.getD i 0) k=true
  ·exact .inl hb
  ·right
   rw [h.op k p hk] at hp'
   rw [ho] at ho'
   cases hp';cases ho'
   refine ⟨hap,qM9 λid x y hx hy=>?_⟩
   rcases hc with hc | hc | ⟨hc1,hc2⟩ | ⟨hc1,hc2⟩
   ·rw [h.zero k p hk hc] at hx;cases hx
   ·rw [h0 hc] at hy;cases hy
   ·obtain ⟨m1,m2⟩:=hm hc2
    have hlt:=h.lt k p hk id x hx
    have hyf:y=false:=by
     cases y with
     | false=>rfl
     | true=>have:=m2 id hy;omega
    refine ⟨?_,hyf⟩
    cases x with
    | false=>rfl
    | true=>
      obtain ⟨b,a,q1,q2⟩:=h.wrote k p hk hc1 id hx
      rcases m1 id y hy with e | e
      ·obtain ⟨r1,r2,_⟩:=qF7 e
       exact absurd (q2 r1) (r2 _ (qJp q1 (by simpa using hb)))
      ·omega
   ·obtain ⟨b,a,q1,q2⟩:=h.touched k p hk hc1 id x hx
    rcases hst hc2 id y hy with e | e
    ·obtain ⟨r1,r2,_⟩:=qF7 e
     exact absurd (q2 r1) (r2 _ (qJp q1 (by simpa using hb)))
    ·have:=h.lt k p hk id x hx
     omega
theorem qQE (all:Array Oper) (l:List Oper) (mks:List Nat) (D:List (Oper × List (Nat × Bool))) (T:Tmps):Mono λn=>opsD P (run P X n) nt all l mks D T:=qDV λn=>qRn (qDt n) nt all l mks D T
theorem zABm {all:Array Oper} {o:Oper} {os:List Oper} {mk:Nat} {mks:List Nat} {D:List (Oper × List (Nat × Bool))} {T T1:Tmps} {H H1:AH} {v:AV} {n1:Nat} {es:List (Nat × Bool)} {R:Tmps→AH→Prop} (hX:FrX X)
  (h1:qDc P (run P X n1) all.toList o T H=some (v,H1)) (hset:setT nt T o.dst v=some T1) (hd:Does es H H1) (hag:against all o mk es D 0=true)
  (hih:∀ H2:AH,H2.next=H1.next→H2.lo=H1.lo→(∀ i,H2.blks.get i=H1.blks.get i)→∃ n2 T' H',opsD P (run P X n2) nt all os mks (D ++ [(o,es)]) T1 H2=some (T',H')∧R T' H') :
  ∃ n T' H',opsD P (run P X n) nt all (o :: os) (mk :: mks) D T H=some (T',H')∧R T' H':=by
 have h2:qJ5 P (run P X n1) nt all.toList o T H=some (T1,H1):=by
  simp only [qJ5,bd,h1,lift,hset]
 obtain ⟨H2,h3,e1,e2,e3⟩:=qTz (qMT P (qFo P hX n1) nt all.toList o T) h2 hd.log
 obtain ⟨n2,T',H',h4,h5⟩:=hih H2 e1 e2 e3
 refine ⟨max n1 n2,T',H',?_,h5⟩
 have m1:Mono λn=>capture (qJ5 P (run P X n) nt all.toList o T):=qDV λn=>LeM.capture (qMX (qDt n) _ _ _ _)
 unfold opsD
 show AM.bd _ _ _=_
 unfold AM.bd
 have h3':capture (qJ5 P (run P X (max n1 n2)) nt all.toList o T) H=some ((T1,es),H2):=m1 n1 (max n1 n2) H _ (Nat.le_max_left _ _) h3
 rw [h3']
 simp only [hag,cond_true]
 exact qQE all os mks _ T1 n2 (max n1 n2) H2 _ (Nat.le_max_right _ _) h4
theorem qZu {all:Array Oper} {i:Nat} {o:Oper} (ho:all[i]?=some o):(clsL P all.toList).getD i 0=cls P o.op∧i < (clsL P all.toList).length:=by
 have h1:all.toList[i]?=some o:=by simpa using ho
 refine ⟨?_,?_⟩
 ·simp [clsL,List.getD_eq_getElem?_getD,h1]
 ·simpa [clsL] using (gS h1).1
theorem qUU {all:List Oper} {cs mks:List Nat} {i:Nat} (h:sft wl all cs mks i=false) (hs:soft wl all cs mks i=true):mild wl cs mks i=true:=by
 unfold soft at hs
 rw [h,Bool.or_false] at hs
 exact hs
theorem qRr {all:List Oper} {cs mks:List Nat} {i:Nat} {o:Oper} (ho:all[i]?=some o) (h:sft wl all cs mks i=true) (hw:wld wl cs i=false):isSt o.op=true:=by
 unfold sft at h
 rw [ho] at h
 simp only [hw,Bool.or_false] at h
 exact (Bool.and_eq_true_iff.1 h).1
theorem qZz {all:List Oper} {cs mks:List Nat} {i:Nat} {o:Oper} (ho:all[i]?=some o) (hw:wld wl cs i=true):sft wl all cs mks i=true:=by
 unfold sft
 rw [ho]
 simp only [hw,Bool.or_true]
theorem qYq {cs:List Nat} {i:Nat} (h:cs.getD i 0≠2):wld wl cs i=false:=by
 cases e:wld wl cs i with
 | false=>rfl
 | true=>
   unfold wld at e
   exact absurd (bE (Bool.and_eq_true_iff.1 e).2) h
theorem qYB {cs mks:List Nat} {i:Nat} (h:mild wl cs mks i=true):wld wl cs i=false:=by
 cases e:wld wl cs i with
 | false=>rfl
 | true=>
   unfold wld at e
   obtain ⟨e1,e2⟩:=Bool.and_eq_true_iff.1 e
   have e3:=bE e2
   unfold mild at h
   rw [e3,e1] at h
   simp at h
theorem qM7 {all:List Oper} {cs mks:List Nat} {i:Nat} {o:Oper} (ho:all[i]?=some o) (h:watched wl all cs mks i=true):isLd o.op=true:=by
 unfold watched at h
 rw [ho] at h
 exact (Bool.and_eq_true_iff.1 h).1
theorem qYT {o:Op} (h:isSt o=true):cls P o=3:=by cases o <;> first | rfl | cases h
theorem zAAf {o:Op} (h:isLd o=true):cls P o=1:=by cases o <;> first | rfl | cases h
theorem zAAt {o:Op} (h:isNw o=true):cls P o=2:=by cases o <;> first | rfl | cases h
theorem zAAs {all:List Oper} {cs mks:List Nat} {i:Nat} {o:Oper} (ho:all[i]?=some o) (h:cls P o.op≠3) (hw:wld wl cs i=false):sft wl all cs mks i=false:=by
 cases e:sft wl all cs mks i with
 | false=>rfl
 | true=>exact absurd (qYT (qRr ho e hw)) h
theorem qT7 {all:List Oper} {cs mks:List Nat} {i:Nat} {o:Oper} (ho:all[i]?=some o) (h:cls P o.op≠1):watched wl all cs mks i=false:=by
 cases e:watched wl all cs mks i with
 | false=>rfl
 | true=>exact absurd (zAAf (qM7 ho e)) h
theorem qNp {all:List Oper} {cs mks:List Nat} {i:Nat} {o:Oper} (ho:all[i]?=some o) (h:tch wl all cs mks i=true):watched wl all cs mks i=true∨sft wl all cs mks i=true∨(mild wl cs mks i=true∧isNw o.op=true):=by
 unfold tch at h
 rw [ho] at h
 simp only [Bool.or_eq_true,Bool.and_eq_true] at h
 rcases h with (h | h) | h
 ·exact .inl h
 ·exact .inr (.inl h)
 ·exact .inr (.inr h)
theorem qVK {all:Array Oper} {mks:List Nat} (hX:FrX X) (hlen:mks.length=all.size) (hd:qOe wl all (clsL P all.toList) mks=true) {K:Env→Hq→Prop} :
  ∀ (os:List Oper) (i:Nat) (done rds:List (Nat × Hq × Hq)) (kn:Kn) (env:Env) (s:Hq) (T:Tmps) (D:List (Oper × List (Nat × Bool))),os=all.toList.drop i→(os.all λo=>okOp o.op)=true→TR T env→KnOk kn env→
   opsQ P X wl nt all.toList (clsL P all.toList) mks os i done rds kn env K s→∀ H,HRel s H→QInv wl all (clsL P all.toList) mks i D done rds s H.next→
   ∃ n T' H',opsD P (run P X n) nt all os (mks.drop i) D T H=some (T',H')∧∃ s' env',HRel s' H'∧Pers s s'∧TR T' env'∧K env' s'∧∀ j,(∀ o∈os,o.dst≠some j)→env' j=env j
 | [],i,done,rds,kn,env,s,T,D,hos,_,hT,_,h,H,hH,_=>⟨0,T,H,by simp [opsD,ret],s,env,hH,.refl _,hT,h,λ_ _=>rfl⟩
 | o :: os,i,done,rds,kn,env,s,T,D,hos,ha,hT,hk,h,H,hH,hq=>by
   simp only [List.all_cons,Bool.and_eq_true] at ha
   have hi:i < all.size:=by
    rcases Nat.lt_or_ge i all.size with e | e
    ·exact e
    ·rw [List.drop_eq_nil_of_le (by simpa using e)] at hos;cases hos
   have hcons:=List.drop_eq_getElem_cons (l:=all.toList) (i:=i) (by simpa using hi)
   rw [hcons] at hos
   have ho:all[i]?=some o:=by
    have:o=all.toList[i]'(by simpa using hi):=(List.cons.inj hos).1
    rw [this];simp
   have hol:all.toList[i]?=some o:=by simpa using ho
   have hos':os=all.toList.drop (i+1):=(List.cons.inj hos).2
   have hmk:mks.drop i=mks.getD i 0 :: mks.drop (i+1):=by
    rw [List.drop_eq_getElem_cons (by omega),List.getD_eq_getElem?_getD,gE (by omega)];rfl
   obtain ⟨hcls,hcl⟩:=qZu ho
   rw [hmk]
   obtain ⟨kn',hk',hcase⟩:=qMz hT hk h
   have go:∀ (done' rds':List (Nat × Hq × Hq)) (v:AV) (s1:Hq) (n1:Nat) (H1:AH) (es:List (Nat × Bool)) (kn2:Kn),(∀ env',(∀ d,o.dst≠some d→env' d=env d)→(∀ d,o.dst=some d→env' d=v)→KnOk kn2 env')→qDc P (run P X n1) all.toList o T H=some (v,H1)→Does es H H1→HRel s1 H1→Pers s s1→
     (setK nt o.dst env v λenv=>opsQ P X wl nt all.toList (clsL P all.toList) mks os (i+1) done' rds' kn2 env K s1)→(cls P o.op=0→es=[])→(∀ p∈done,p∈done')→(∀ p∈rds,p∈rds')→(∀ id,id < H.next→s1 id≠none→s id≠none)→
     (mild wl (clsL P all.toList) mks i=true→(∀ id b,(id,b)∈es→cutH (qCs (mks.getD i 0) done) s id≠none∨H.next≤id)∧(∀ id,(id,true)∈es→H.next≤id))→
     (sft wl all.toList (clsL P all.toList) mks i=true→∀ id b,(id,b)∈es→cutH (qCs (mks.getD i 0) (done ++ rds)) s id≠none∨H.next≤id)→
     (soft wl all.toList (clsL P all.toList) mks i=true→∀ id,(id,true)∈es→∃ b a,(i,b,a)∈done'∧(s1 id≠none→b id=none∧a id≠none))→
     (tch wl all.toList (clsL P all.toList) mks i=true→∀ id x,(id,x)∈es→∃ b a,(i,b,a)∈done' ++ rds'∧(s1 id≠none→b id=none∧a id≠none))→
     ∃ n T' H',opsD P (run P X n) nt all (o :: os) (mks.getD i 0 :: mks.drop (i+1)) D T H=some (T',H')∧∃ s' env',HRel s' H'∧Pers s s'∧TR T' env'∧K env' s'∧∀ j,(∀ o_1∈o :: os,o_1.dst≠some j)→env' j=env j:=by
    intro done' rds' v s1 n1 H1 es kn2 hk2 h1 d hH1 hp hset h0 hdone hrds hs hm hst hw ht
    obtain ⟨T1,env1,g1,g2,g3,g4,g5⟩:=qSB hT hset
    refine zABm hX h1 g1 d (hq.against hd hcl ho (λe=>h0 (hcls ▸ e)) hm hst) λH2 e1 e2 e3=>?_
    have hH2:HRel s1 H2:=hH1.eqv e1 e2 e3
    have hq2:QInv wl all (clsL P all.toList) mks (i+1) (D ++ [(o,es)]) done' rds' s1 H2.next:=by
     rw [e1]
     refine hq.step ho d.next (λid b hb=>?_) (λe=>h0 (hcls ▸ e)) hdone hrds hs hw ht
     rcases d.touch id b hb with e | e
     ·exact Nat.lt_of_lt_of_le (hH.wf id e) d.next
     ·exact e.2
    obtain ⟨n2,T',H',q1,s',env',q2,q3,q4,q5,q6⟩:=qVK hX hlen hd os (i+1) done' rds' _ env1 s1 T1 (D ++ [(o,es)]) hos' ha.2 g2 (hk2 env1 g4 g5) g3 H2 hH2 hq2
    exact ⟨n2,T',H',q1,s',env',q2,hp.trans q3,q4,q5,λj hj=>(q6 j λp hp=>hj p (by simp [hp])).trans (g4 j (hj o (by simp)))⟩
   have hfr:∀ n,Fr (qDc P (run P X n) all.toList o T):=λn=>qJl P (qFo P hX n) _ _ _
   have nil0:∀ (done' rds':List (Nat × Hq × Hq)) (s1:Hq),(tch wl all.toList (clsL P all.toList) mks i=true→∀ id x,(id,x)∈([]:List (Nat × Bool))→∃ b a,(i,b,a)∈done' ++ rds'∧(s1 id≠none→b id=none∧a id≠none)):=λ_ _ _ _ _ _ h=>by cases h
   rcases hcase with ⟨hw,h⟩ | ⟨hw,h⟩
   ·try simp only at h
    by_cases c0:cls P o.op=0
    ·simp only [c0] at h
     obtain ⟨n1,v,H1,h1,_,_,_,h4⟩:=qEf hw hT ha.1 h H hH
     have e:=qX1 c0 H v H1 h1
     subst e
     exact go done rds v s n1 _ [] _ (λ_ e _=>hk'.forget e) h1 (.refl _) hH (.refl _) h4 (λ_=>rfl) (λ_ h=>h) (λ_ h=>h) (λ_ _ h=>h) (λ_=>⟨by simp,by simp⟩) (λ_=>by simp) (λ_=>by simp) (nil0 _ _ _)
    ·by_cases c1:cls P o.op=1
     ·simp only [c1] at h
      have hsub:=qK7 (qCs (mks.getD i 0) done) s
      obtain ⟨n1,v,H1,_,es,h1,_,_,h4,d,kno,_⟩:=wpF.framed hfr (qEf hw hT ha.1 h) (hH.sub hsub)
      obtain ⟨es',r1,r2⟩:=qX7 c1 H v H1 h1
      have he:es=es':=by
       have:=d.log
       rw [r2] at this
       exact (List.append_cancel_right this).symm
      subst he
      have nowr:∀ id,(id,true)∈es→False:=λid hid=>by have:=r1 _ hid;cases this
      have hsf:sft wl all.toList (clsL P all.toList) mks i=false:=zAAs hol (by rw [c1];decide) (qYq (by rw [hcls,c1];decide))
      refine go done _ v s n1 H1 es _ (λ_ e _=>hk'.forget e) h1 d (hH.eqv (by rw [r2]) (by rw [r2]) (by rw [r2];exact λ_=>rfl)) (.refl _) h4 (λe=>absurd e c0) (λ_ h=>h) (λp hp=>?_) (λ_ _ h=>h) (λ_=>⟨kno,λid hid=>(nowr id hid).elim⟩) (λe=>by rw [hsf] at e;cases e) (λ_ id hid=>(nowr id hid).elim) (λhtc id x hid=>?_)
      ·cases watched wl all.toList (clsL P all.toList) mks i with
       | false=>exact hp
       | true=>exact List.mem_append_left _ hp
      ·rcases qNp hol htc with hwt | hwt | ⟨_,hwt⟩
       ·rw [hwt,cond_true]
        refine ⟨hdel s (qLc env o.op),s,List.mem_append_right _ (by simp),λhne=>⟨?_,hne⟩⟩
        obtain ⟨es2,r3,r4⟩:=qYG (ih:=run P X n1) (all:=all.toList) hT ha.1 (.inl (qM7 hol hwt)) H v H1 h1
        have he:es=es2:=List.append_cancel_right (d.log.symm.trans r4)
        subst he
        have:=r3 _ hid
        unfold hdel
        exact if_pos this
       ·rw [hsf] at hwt;cases hwt
       ·have:=zAAt (P:=P) hwt;omega
     ·have h:cond (mild wl (clsL P all.toList) mks i)
        (wpOp P X env (λv s2=>(∀ b,s b≠none→cutH (qCs (mks.getD i 0) done) s b=none→s2 b=none)→setK nt o.dst env v λenv=>opsQ P X wl nt all.toList (clsL P all.toList) mks os (i+1) (done ++ [(i,s,add s s2)]) rds (forget kn' o.dst) env K (add s s2)) (frz (cutH (qCs (mks.getD i 0) done) s)) o.op)
        (cond (wld wl (clsL P all.toList) i)
         (∃ h:Hq,(∀ b,h b≠none→s b≠none)∧wpOp P X env (λv s2=>(∀ b,s b≠none→cutH (qCs (mks.getD i 0) (done ++ rds)) (minus s h) b=none→s2 b=none)→setK nt o.dst env v λenv=>opsQ P X wl nt all.toList (clsL P all.toList) mks os (i+1) (done ++ [(i,h,qRB)]) rds (forget kn' o.dst) env K (add s2 (rest s (cutH (qCs (mks.getD i 0) (done ++ rds)) (minus s h))))) (cutH (qCs (mks.getD i 0) (done ++ rds)) (minus s h)) o.op)
        (cond (sft wl all.toList (clsL P all.toList) mks i)
         (cutH (qCs (mks.getD i 0) (done ++ rds)) s (qLc env o.op)≠none∧wpOp P X env (λv s2=>setK nt o.dst env v λenv'=>opsQ P X wl nt all.toList (clsL P all.toList) mks os (i+1) (done ++ [(i,hdel s (qLc env o.op),s)]) rds (forget kn' o.dst) env' K s2) s o.op)
         (wpOp P X env (λv s=>setK nt o.dst env v λenv=>opsQ P X wl nt all.toList (clsL P all.toList) mks os (i+1) done rds (forget kn' o.dst) env K s) s o.op))):=by
       revert h
       generalize cls P o.op=c at *
       match c with
       | 0=>exact absurd rfl c0
       | 1=>exact absurd rfl c1
       | c+2=>exact id
      have hwn:watched wl all.toList (clsL P all.toList) mks i=false:=qT7 hol c1
      cases hmi:mild wl (clsL P all.toList) mks i with
      | true=>
        rw [hmi,cond_true] at h
        have hsf:sft wl all.toList (clsL P all.toList) mks i=false:=by
         cases e:sft wl all.toList (clsL P all.toList) mks i with
         | false=>rfl
         | true=>
           have c3:=qYT (P:=P) (qRr hol e (qYB hmi))
           unfold mild at hmi
           rw [hcls,c3] at hmi
           cases hmi
        have hsub:=qK7 (qCs (mks.getD i 0) done) s
        obtain ⟨n1,v,H1,s2,es,h1,d,kno,wrn,out,h4,nw⟩:=qXD hfr (qEf hw hT ha.1 h) (hH.sub hsub)
        obtain ⟨a1,a2⟩:=qZa hH (λi hi=>qNN hi) d wrn nw
        have hout:∀ id,id < H.next→add s s2 id≠none→s id≠none:=by
         intro id hid hne e
         rw [qAX e] at hne
         exact hne (out id (qNN e) hid)
        have fresh:∀ id,H.next≤id→s id=none:=by
         intro id hid
         cases e:s id with
         | none=>rfl
         | some x=>have:=hH.lt (i:=id) (by rw [e];simp);omega
        refine go (done ++ [(i,s,add s s2)]) rds v (add s s2) n1 H1 es _ (λ_ e _=>hk'.forget e) h1 d a1 a2 (h4 λb hb hc=>out b hc (hH.lt hb)) (λe=>absurd e c0) (λp hp=>by simp [hp]) (λ_ h=>h) hout (λ_=>⟨kno,wrn⟩) (λe=>by rw [hsf] at e;cases e) (λ_ id hid=>⟨s,add s s2,by simp,λhne=>⟨fresh id (wrn id hid),hne⟩⟩) (λhtc id x hid=>?_)
        rcases qNp hol htc with hwt | hwt | ⟨_,hwt⟩
        ·rw [hwn] at hwt;cases hwt
        ·rw [hsf] at hwt;cases hwt
        ·obtain ⟨es2,r3,r4⟩:=zAAw (P:=P) (ih:=run P X n1) (all:=all.toList) (T:=T) hwt H v H1 h1
         have he:es=es2:=List.append_cancel_right (d.log.symm.trans r4)
         subst he
         exact ⟨s,add s s2,by simp,λhne=>⟨fresh id (r3 _ hid),hne⟩⟩
      | false=>
        rw [hmi,cond_false] at h
        cases hwd:wld wl (clsL P all.toList) i with
        | true=>
          rw [hwd,cond_true] at h
          obtain ⟨hd,hds,h⟩:=h
          have hsf:sft wl all.toList (clsL P all.toList) mks i=true:=qZz hol hwd
          have hsub0:Sub (minus s hd) s:=λb e hb=>by
           unfold minus at hb
           split at hb
           ·exact hb
           ·cases hb
          have hsub:=(λb e hb=>hsub0 b e (qK7 (qCs (mks.getD i 0) (done ++ rds)) (minus s hd) b e hb):Sub _ s)
          obtain ⟨n1,v,H1,s1,es,h1,h2,h3,h4,d,kno,out⟩:=wpF.framed hfr (qEf hw hT ha.1 h) (hH.sub hsub)
          revert h1 h2 h3 h4 d kno out hsub
          generalize hr:cutH (qCs (mks.getD i 0) (done ++ rds)) (minus s hd)=r at *
          intro hsub h1 h2 h3 h4 d kno out
          have inr:∀ id,r id≠none→s id≠none∧hd id=none∧cutH (qCs (mks.getD i 0) (done ++ rds)) s id≠none:=by
           intro id hne
           rw [← hr] at hne
           obtain ⟨g1,g2,_⟩:=qF7 hne
           unfold minus at g1
           split at g1
           ·rename_i e;exact ⟨g1,e,qMa g1 g2⟩
           ·exact absurd rfl g1
          have alone:∀ id x,(id,x)∈es→hd id=none:=by
           intro id x hid
           rcases kno id x hid with e | e
           ·exact (inr id e).2.1
           ·cases q:hd id with
            | none=>rfl
            | some y=>
              have:=hH.lt (hds id (by rw [q];exact Option.some_ne_none _))
              omega
          have hHS:HRel (add s1 (rest s r)) H1:=by
           refine ⟨h2.lo,h2.wf,λid t b hid=>?_⟩
           cases q:s1 id with
           | some x=>
             rw [qAZ q] at hid
             exact h2.at_ id t b (by rw [q];exact hid)
           | none=>
             rw [qAX q] at hid
             unfold rest at hid
             split at hid
             ·rename_i e
              obtain ⟨k1,k2⟩:=hH.at_ id t b hid
              have hlt:=hH.lt (i:=id) (by rw [hid];exact Option.some_ne_none _)
              rw [d.lo,(out id e hlt).2]
              exact ⟨k1,k2⟩
             ·cases hid
          have hPS:Pers s (add s1 (rest s r)):=by
           intro id b hid
           cases q:r id with
           | some x=>
             have e1:=hsub id x q
             rw [hid] at e1
             cases e1
             exact qAZ (h3 id b q)
           | none=>
             have hlt:=hH.lt (i:=id) (by rw [hid];exact Option.some_ne_none _)
             rw [qAX (out id q hlt).1]
             unfold rest
             rw [if_pos q];exact hid
          refine go (done ++ [(i,hd,qRB)]) rds v _ n1 H1 es _ (λ_ e _=>hk'.forget e) h1 d hHS hPS (h4 λb hb hc=>(out b hc (hH.lt hb)).1) (λe=>absurd e c0) (λp hp=>by simp [hp]) (λ_ h=>h) (λid hid hne e=>?_) (λe=>by rw [hmi] at e;cases e) (λ_ id b hid=>?_) (λ_ id hid=>⟨hd,qRB,by simp,λ_=>⟨alone id _ hid,by simp [qRB]⟩⟩) (λ_ id x hid=>⟨hd,qRB,by simp,λ_=>⟨alone id _ hid,by simp [qRB]⟩⟩)
          ·have q1:r id=none:=by
            cases q:r id with
            | none=>rfl
            | some y=>have:=hsub id y q;rw [e] at this;cases this
           rw [qAX (out id q1 hid).1] at hne
           unfold rest at hne
           rw [if_pos q1] at hne
           exact hne e
          ·rcases kno id b hid with e | e
           ·exact .inl (inr id e).2.2
           ·exact .inr e
        | false=>
        rw [hwd,cond_false] at h
        cases hsf:sft wl all.toList (clsL P all.toList) mks i with
        | true=>
          rw [hsf,cond_true] at h
          obtain ⟨hcut,h⟩:=h
          obtain ⟨n1,v,H1,s1,es,h1,h2,h3,h4,d,kno,out⟩:=wpF.framed hfr (qEf hw hT ha.1 h) hH
          obtain ⟨es2,r3,r4⟩:=qYG (ih:=run P X n1) (all:=all.toList) hT ha.1 (.inr (qRr hol hsf hwd)) H v H1 h1
          have he:es=es2:=List.append_cancel_right (d.log.symm.trans r4)
          subst he
          have hb0:=(qF7 hcut).1
          refine go (done ++ [(i,hdel s (qLc env o.op),s)]) rds v s1 n1 H1 es _ (λ_ e _=>hk'.forget e) h1 d h2 h3 h4 (λe=>absurd e c0) (λp hp=>by simp [hp]) (λ_ h=>h) (λid hid hne e=>hne (out id e hid).1) (λe=>by rw [hmi] at e;cases e) (λ_ id b hid=>by have hh:=r3 _ hid;simp only at hh;rw [hh];exact .inl hcut) (λ_ id hid=>⟨hdel s (qLc env o.op),s,by simp,λ_=>?_⟩) (λ_ id x hid=>⟨hdel s (qLc env o.op),s,by simp,λ_=>?_⟩)
          ·have:=r3 _ hid
           simp only at this
           subst this
           exact ⟨if_pos rfl,hb0⟩
          ·have:=r3 _ hid
           simp only at this
           subst this
           exact ⟨if_pos rfl,hb0⟩
        | false=>
          rw [hsf,cond_false] at h
          obtain ⟨n1,v,H1,s1,es,h1,h2,h3,h4,d,kno,out⟩:=wpF.framed hfr (qEf hw hT ha.1 h) hH
          refine go done rds v s1 n1 H1 es _ (λ_ e _=>hk'.forget e) h1 d h2 h3 h4 (λe=>absurd e c0) (λ_ h=>h) (λ_ h=>h) (λid hid hne e=>hne (out id e hid).1) (λe=>by rw [hmi] at e;cases e) (λe=>by rw [hsf] at e;cases e) (λe=>by rw [qUU hsf e] at hmi;cases hmi) (λhtc=>?_)
          rcases qNp hol htc with hwt | hwt | ⟨hwt,_⟩
          ·rw [hwn] at hwt;cases hwt
          ·rw [hsf] at hwt;cases hwt
          ·rw [hmi] at hwt;cases hwt
   ·obtain ⟨n1,v,H1,h1,s1,h2,h3,h4⟩:=qKO (P:=P) (X:=X) (s:=s) (Q:=λv s'=>v=.undef∧s'=s) hw ⟨rfl,rfl⟩ H hH
    obtain ⟨rfl,rfl⟩:=h4
    have e:H1=H:=by
     unfold qDc at h1
     rw [hw] at h1
     cases qAK h1;rfl
    subst e
    exact go done rds .undef _ n1 _ [] _ (λ_ e e5=>hk'.mark e e5) h1 (.refl _) hH (.refl _) h (λ_=>rfl) (λ_ h=>h) (λ_ h=>h) (λ_ _ h=>h) (λ_=>⟨by simp,by simp⟩) (λ_=>by simp) (λ_=>by simp) (nil0 _ _ _)
end Go.AM
namespace Go.AM
open Go
end Go.AM
namespace Go.AM
open Go
def Off (slots:List Nat) (env env':Env):Prop:=∀ j,memN j slots=false→env' j=env j
structure ClE (s0:Hq) (H0:AH) (r:Nat) (K:AH):Prop where
 rel:HRel s0 K
 next:H0.next≤K.next
 lo:K.lo=H0.lo
 log:∀ i,(i,true)∈K.log→i=r∨H0.next≤i
 kept:∀ i,i < H0.next→i≠r→K.blks.get i=H0.blks.get i
theorem ClE.any {s0 t:Hq} {H0 K:AH} {r:Nat} (h:ClE s0 H0 r K) (ht:HRel t H0) (hr:t r=none):HRel t K:=
 ⟨h.rel.lo,h.rel.wf,λi x b hi=>by
  obtain ⟨k1,ab,k2,k3⟩:=ht.at_ i x b hi
  refine ⟨λq=>by rw [h.lo];exact k1 q,ab,?_,k3⟩
  rw [h.kept i (ht.lt (by rw [hi];simp)) λq=>by rw [q,hr] at hi;cases hi]
  exact k2⟩
end Go.AM
namespace Go.AM
open Go
variable {α:Type} {P:Program} {X:Td} {nt:Nat} {rnd:Option Nat}
def noRF:Code→Bool
 | .skip=>true
 | .region _ ops draw=>draw||(qC1 ops.toList).isNone
 | .seq a b=>noRF a&&noRF b
 | .cond _ a b=>noRF a&&noRF b
 | .block _ b=>noRF b
 | .loop b=>(qCb b).isNone&&noRF b
 | .exit _=>true
 | .ret=>true
 | _=>false
def reMs (ms:List Mk):Out→Out
 | .exit e T _=>.exit e T ms
 | .val v=>.val v
def reO (ms:List Mk):Option (Out × AH)→Option (Out × AH)
 | some (o,H)=>some (reMs ms o,H)
 | none=>none
theorem qTE:∀ (n:Nat) (c:Code),noRF c=true→∀ (T:Tmps) (ms:List Mk) (H:AH),run P X n (.code nt rnd c T ms) H=reO ms (run P X n (.code nt rnd c T []) H)
 | 0,_,_,_,_,_=>rfl
 | n+1,c,hc,T,ms,H=>by
   show qBF P (run P X n) nt rnd c T ms H=reO ms (qBF P (run P X n) nt rnd c T [] H)
   have ih:=λc hc T ms H=>qTE n c hc T ms H
   cases c with
   | skip=>rfl
   | exit id=>rfl
   | ret=>rfl
   | region id ops draw=>
     simp only [noRF,Bool.or_eq_true] at hc
     simp only [qBF]
     cases draw with
     | false=>
       have hd:qC1 ops.toList=none:=by
        rcases hc with h | h
        ·cases h
        ·simpa using h
       simp only [cond_false,hd]
       unfold bd
       cases opsA P (run P X n) nt ops.toList ops.toList T H with
       | none=>rfl
       | some p=>rfl
     | true=>
       simp only [cond_true]
       unfold bd
       cases (cond (qDM ops.toList) (opsD P (run P X n) nt ops ops.toList (masks ops.toList []) [] T) fail:M Tmps) H with
       | none=>rfl
       | some p=>rfl
   | seq a b=>
     simp only [noRF,Bool.and_eq_true] at hc
     simp only [qBF,bd]
     rw [ih a hc.1 T ms H]
     have e0:=ih a hc.1 T [] H
     cases hq:run P X n (.code nt rnd a T []) H with
     | none=>rfl
     | some p=>
       obtain ⟨o,H1⟩:=p
       rw [hq] at e0
       simp only [reO,Option.some.injEq,Prod.mk.injEq,and_true] at e0
       simp only [reO]
       cases o with
       | val v=>rfl
       | exit e T1 ms1=>
         simp only [reMs,Out.exit.injEq,true_and] at e0
         subst e0
         cases e with
         | nrm=>exact ih b hc.2 T1 ms H1
         | ret=>rfl
         | exit id=>rfl
   | cond x a b=>
     simp only [noRF,Bool.and_eq_true] at hc
     simp only [qBF]
     cases ev T x with
     | none=>rfl
     | some v=>
       cases v with
       | bool t=>cases t with
         | true=>exact ih a hc.1 T ms H
         | false=>exact ih b hc.2 T ms H
       | _=>rfl
   | block id b=>
     simp only [noRF] at hc
     simp only [qBF,bd]
     rw [ih b hc T ms H]
     cases hq:run P X n (.code nt rnd b T []) H with
     | none=>rfl
     | some p=>
       obtain ⟨o,H1⟩:=p
       cases o with
       | val v=>rfl
       | exit e T1 ms1=>
         cases e with
         | nrm=>rfl
         | ret=>rfl
         | exit id'=>
           simp only [reO,reMs]
           cases Nat.beq id' id <;> rfl
   | loop b=>
     simp only [noRF,Bool.and_eq_true] at hc
     have hm:qCb b=none:=by simpa using hc.1
     simp only [qBF,hm,bd]
     rw [ih b hc.2 T ms H]
     have e0:=ih b hc.2 T [] H
     cases hq:run P X n (.code nt rnd b T []) H with
     | none=>rfl
     | some p=>
       obtain ⟨o,H1⟩:=p
       rw [hq] at e0
       simp only [reO,Option.some.injEq,Prod.mk.injEq,and_true] at e0
       simp only [reO]
       cases o with
       | val v=>rfl
       | exit e T1 ms1=>
         simp only [reMs,Out.exit.injEq,true_and] at e0
         subst e0
         cases e with
         | nrm=>exact ih (.loop b) (by simp [noRF,hm,hc.2]) T1 ms H1
         | ret=>rfl
         | exit id=>rfl
   | scope _=>cases hc
   | label _=>cases hc
   | goto _=>cases hc
   | refuse _=>cases hc
   | rangeFunc _ _ _ _=>cases hc
theorem wpF.both {m:Nat→M α} {Q:α→Hq→Prop} {R:α→Prop} {s:Hq} (h:wpF m Q s) (hR:∀ n H a H',m n H=some (a,H')→R a):wpF m (λa s=>Q a s∧R a) s:=λH hH=>by
 obtain ⟨n,a,H',h1,s',h2,h3,h4⟩:=h H hH
 exact ⟨n,a,H',h1,s',h2,h3,h4,hR n H a H' h1⟩
theorem qKz {n b:Nat}:∀ {l:List Nat},hasN n (l ++ [b])=(hasN n l||Nat.beq n b)
 | []=>by unfold hasN;simp [hasN]
 | m :: l=>by
   show (Nat.beq n m||hasN n (l ++ [b]))=((Nat.beq n m||hasN n l)||Nat.beq n b)
   rw [qKz,Bool.or_assoc]
theorem qNB {seen:List Nat}:∀ {es:List AEnt} {e:AEnt},e∈qGb seen es→e∈es∧hasN e.born seen=false
 | x :: es,e,h=>by
   unfold qGb at h
   cases c:hasN x.born seen with
   | true=>
     rw [c] at h
     obtain ⟨h1,h2⟩:=qNB h
     exact ⟨mO _ h1,h2⟩
   | false=>
     rw [c] at h
     rcases mC h with rfl | h
     ·exact ⟨List.mem_cons_self,c⟩
     ·obtain ⟨h1,h2⟩:=qNB h
      exact ⟨mO _ h1,h2⟩
theorem qSn {seen:List Nat} {b:Nat}:∀ {es:List AEnt},(qGb (seen ++ [b]) es).length≤(qGb seen es).length
 | []=>Nat.le_refl _
 | x :: es=>by
   unfold qGb
   rw [qKz]
   have:=qSn (seen:=seen) (b:=b) (es:=es)
   cases c:hasN x.born seen with
   | true=>exact this
   | false=>
     cases d:Nat.beq x.born b with
     | true=>simp only [Bool.or_true,cond_true,cond_false,List.length_cons];omega
     | false=>simp only [Bool.or_false,cond_false,List.length_cons];omega
theorem qPI {seen:List Nat}:∀ {es:List AEnt} {e:AEnt},e∈qGb seen es→(qGb (seen ++ [e.born]) es).length < (qGb seen es).length
 | x :: es,e,h=>by
   have hle:=qSn (seen:=seen) (b:=e.born) (es:=es)
   unfold qGb at h ⊢
   rw [qKz]
   cases c:hasN x.born seen with
   | true=>
     rw [c] at h
     exact qPI h
   | false=>
     rw [c] at h
     rcases mC h with rfl | h
     ·simp only [Nat.beq_refl,Bool.or_true,cond_true,cond_false,List.length_cons];omega
     ·have:=qPI h
      cases d:Nat.beq x.born e.born with
      | true=>simp only [Bool.or_true,cond_true,cond_false,List.length_cons];omega
      | false=>simp only [Bool.or_false,cond_false,List.length_cons];omega
theorem qQm:∀ es:List AEnt,qGb [] es=es
 | []=>rfl
 | x :: es=>by
   show cond (hasN x.born []) (qGb [] es) (x :: qGb [] es)=_
   rw [qQm es];rfl
end Go.AM
namespace Go.AM
open Go
theorem ClE.keep {s0:Hq} {H0 H H':AH} {r:Nat} {es:List (Nat × Bool)} (h:ClE s0 H0 r H) (d:Does es H H') (hw:∀ i,(i,true)∈es→H.next≤i):ClE s0 H0 r H'∧∀ i,i < H.next→H'.blks.get i=H.blks.get i:=by
 have same:∀ i,i < H.next→H'.blks.get i=H.blks.get i:=λi hi=>d.same i λhm=>by have:=hw i hm;omega
 refine ⟨⟨⟨by rw [d.lo];exact Nat.le_trans h.rel.lo d.next,λi hi=>?_,λi t b hi=>?_⟩,Nat.le_trans h.next d.next,d.lo.trans h.lo,λi hi=>?_,λi hi hr=>(same i (Nat.lt_of_lt_of_le hi h.next)).trans (h.kept i hi hr)⟩,same⟩
 ·rcases d.gone i hi with e | e
  ·exact Nat.lt_of_lt_of_le (h.rel.wf i e) d.next
  ·exact e.2
 ·obtain ⟨k1,ab,k2,k3⟩:=h.rel.at_ i t b hi
  exact ⟨λq=>by rw [d.lo];exact k1 q,ab,by rw [same i (h.rel.wf i (by rw [k2];simp))];exact k2,k3⟩
 ·rw [d.log] at hi
  rcases mP hi with hi | hi
  ·exact .inr (Nat.le_trans h.next (hw i hi))
  ·exact h.log i hi
theorem qNq {b:Nat}:∀ {l:List Nat},qQN (l ++ [b])=some b
 | []=>rfl
 | [x]=>rfl
 | x :: y :: l=>by
   show qQN (y :: l ++ [b])=some b
   exact qNq
def qQf (s0:Hq) (mo:Option Nat) (c:Nat) (es:List AEnt):Prop:=match mo with
 | none=>es=[]
 | some m=>∃ t,s0 m=some (t,.map es c)
theorem qNv {T:Tmps} {env:Env} (h:TR T env) (i:Nat) (v:AV):TR (T.put i (some v)) (upd env i v):=λj=>by
 unfold tget upd
 rw [Tr.get_put]
 cases e:Nat.beq j i with
 | true=>
   have:=bE e
   subst this
   rw [if_pos rfl];rfl
 | false=>
   have hne:¬ i=j:=λq=>by subst q;rw [Nat.beq_refl] at e;cases e
   rw [if_neg hne]
   exact h j
abbrev zABi (st:MapStep) (env:Env) (e:AEnt):Env:=upd (upd env st.nx (.tup [.bool true,e.key,e.val])) st.more (.bool true)
abbrev zABv (st:MapStep) (env:Env):Env:=upd (upd env st.nx (.tup [.bool false])) st.more (.bool false)
end Go.AM
namespace Go.AM
open Go
def mixE (slots:List Nat) (f env:Env):Env:=λj=>cond (memN j slots) (f j) (env j)
def qOn:List Oper→List Nat
 | []=>[]
 | o :: os=>match o.dst with
   | some d=>d :: qOn os
   | none=>qOn os
def assigned:Code→List Nat
 | .region _ ops _=>qOn ops.toList
 | .seq a b=>assigned a ++ assigned b
 | .cond _ a b=>assigned a ++ assigned b
 | .block _ b=>assigned b
 | .loop b=>assigned b
 | _=>[]
def qIx:Code→Nat
 | .region id _ _=>id
 | .seq a _=>qIx a
 | .block _ b=>qIx b
 | .loop b=>qIx b
 | .cond _ a _=>qIx a
 | _=>0
def qXI (ls slots:List Nat) (body:Env→(AExit→Env→Hq→Prop)→Hq→Prop) (env:Env) (K:AExit→Env→Hq→Prop) (s:Hq):Prop:=
 ∃ I:List AV→Hq→Nat→Prop,(∃ m,I (ls.map env) s m)∧∀ (f:Env) (s:Hq) (m:Nat),I (ls.map f) s m→
  body (mixE slots f env) (λe env' s'=>match e with
   | .nrm=>∃ m',m' < m∧I (ls.map env') s' m'
   | e=>K e env' s') s
def qYO (l:Nat) (s:Hq):Prop:=match s l with
 | some (_,.loop _ _ _ _ _ _ _ _)=>True
 | _=>False
def qZZ (l:Nat) (K:AExit→Hq→Prop) (s:Hq):Prop:=match s l with
 | some (false,.loop st pd _ _ _ _ _ _)=>st≠.busy∧(match pd with
   | none=>K .nrm (hdel s l)
   | some .ret=>K .ret (hdel s l)
   | some (.exit id)=>K (.exit id) (hdel s l)
   | some _=>False)
 | _=>False
def rndK (rnd:Option Nat) (s:Hq):Prop:=match rnd with
 | none=>True
 | some l=>qYO l s
def qNS (s:Hq) (x:AV):Option (Nat × Option Nat × Nat × Nat × List AEnt):=match x with
 | .ptr r 0=>match s r with
   | some (false,.iter none since [] stepped)=>cond (Nat.ble since stepped) (some (r,none,since,since,[])) none
   | some (false,.iter (some m) since [] stepped)=>match s m with
     | some (_,.map es c)=>cond (Nat.ble since stepped&&(Nat.ble since c&&(qIe since es&&Nat.blt es.length 900))) (some (r,some m,since,c,es)) none
     | _=>none
   | _=>none
 | _=>none
section
variable (P : Program) (X : Td)
def qYU (A:Nat→List Nat) (nt:Nat) (rnd:Option Nat) (f:AV) (ps:Array Tmp) (as bo:Code) (env:Env) (K:AExit→Hq→Prop) (s:Hq):Prop:=match f with
 | .fn (.func k) first cap=>isFn P k=true∧rndK rnd s∧∀ l d,s l=none→wC P X k (first ++ [.yield l] ++ cap) (λ_ s=>qZZ l K s) (hset s l (false,.loop .ready none nt ((A (2 * qIx bo+1)).map λi=>(i,env i)) ps.toList as bo d))
 | _=>False
def qUC (A:Nat→List Nat) (ops:List Oper):List Nat:=A (1000000+(match qOn ops with | d :: _=>d | []=>0))
def wpC (A:Nat→List Nat) (nt:Nat) (rnd:Option Nat):Code→Env→(AExit→Env→Hq→Prop)→Hq→Prop
 | .skip,env,K,s=>K .nrm env s
 | .region _ ops draw,env,K,s=>cond ((ops.toList.all λo=>okOp o.op)&&(draw||(qC1 ops.toList).isNone))
   (cond draw (cond (qDM ops.toList&&qOe (qUC A ops.toList) ops (clsL P ops.toList) (masks ops.toList [])) (opsQ P X (qUC A ops.toList) nt ops.toList (clsL P ops.toList) (masks ops.toList []) ops.toList 0 [] [] [] env (λenv s=>K .nrm env s) s) False)
    (opsE P X nt ops.toList ops.toList [] env (λenv s=>K .nrm env s) s)) False
 | .seq a b,env,K,s=>wpC A nt rnd a env (λe env s=>match e with
   | .nrm=>wpC A nt rnd b env K s
   | e=>K e env s) s
 | .cond c a b,env,K,s=>cond (okX c) (qAP (evD env c) (wpC A nt rnd a env K s) (wpC A nt rnd b env K s)) False
 | .block id b,env,K,s=>wpC A nt rnd b env (λe env s=>match e with
   | .exit id'=>cond (Nat.beq id' id) (K .nrm env s) (K (.exit id') env s)
   | e=>K e env s) s
 | .loop b,env,K,s=>match qCb b with
   | some _=>False
   | none=>qXI (A (2 * qIx b)) (assigned b) (λenv K s=>wpC A nt rnd b env K s) env K s
 | .exit id,env,K,s=>K (.exit id) env s
 | .ret,env,K,s=>K .ret env s
 | .rangeFunc f ps as bo,env,K,s=>cond (okX f) (qYU P X A nt rnd (evD env f) ps as bo env (λe s=>K e env s) s) False
 | _,_,_,_=>False
def resK:List ResultVar→Env→(List AV→Prop)→Hq→Prop
 | [],_,k,_=>k []
 | .tmp t :: rs,env,k,s=>resK rs env (λvs=>k (env t :: vs)) s
 | .cell a t :: rs,env,k,s=>qNy P t (env a) (λv=>resK rs env (λvs=>k (v :: vs)) s) s
def retK (e:AExit) (p:Prop):Prop:=match e with
 | .exit _=>False
 | _=>p
end
variable {α:Type} {P:Program} {X:Td} {A:Nat→List Nat} {nt:Nat} {rnd:Option Nat}
def mkH (ms:List Nat):Hq:=λi=>if i∈ms then some (false,.deferred true) else none
theorem qIG {ms:List Nat} {i:Nat}:mkH ms i≠none↔i∈ms:=by unfold mkH;by_cases h:i∈ms <;> simp [h]
theorem qH6 {i:Nat}:∀ {l:List Nat},memN i l=true↔i∈l
 | []=>by simp [memN]
 | j :: l=>by
   unfold memN
   cases h:Nat.beq i j with
   | true=>simp [bE h]
   | false=>
     have:i≠j:=λe=>by rw [e,Nat.beq_refl] at h;cases h
     simp [qH6 (l:=l),this]
theorem qHe:∀ {l:List Oper} {o:Oper} {d:Nat},o∈l→o.dst=some d→d∈qOn l
 | [],_,_,h,_=>by cases h
 | p :: l,o,d,h,hd=>by
   unfold qOn
   rcases mC h with rfl | h
   ·rw [hd];exact List.mem_cons_self ..
   ·cases p.dst with
    | none=>exact qHe h hd
    | some _=>exact mO _ (qHe h hd)
theorem qL8:∀ (os:List Oper) (acc:List Nat),(masks os acc).length=acc.length+os.length
 | [],acc=>by simp [masks]
 | o :: os,acc=>by rw [masks,qL8];simp;omega
def mkm (ms:List Nat):List Mk:=ms.map Mk.mark
def qRt (c:Code) (env:Env) (K:AExit→Env→Hq→Prop) (ms:List Nat) (rnd:Option Nat) (o:Out) (S:Hq):Prop:=
 ∃ e T' env' ms' s',o=.exit e T' (mkm (ms' ++ ms))∧TR T' env'∧S=add s' (mkH (ms' ++ ms))∧(∀ i∈ms' ++ ms,s' i=none)∧(ms' ++ ms).Nodup∧(∀ j,j ∉ assigned c→env' j=env j)∧(rnd≠none→ms'=[])∧K e env' s'
def qJI (P:Program) (X:Td) (A:Nat→List Nat) (nt:Nat) (rnd:Option Nat) (c:Code):Prop:=∀ (env:Env) (K:AExit→Env→Hq→Prop) (s:Hq),wpC P X A nt rnd c env K s→∀ (T:Tmps) (ms:List Nat),TR T env→(∀ i∈ms,s i=none)→ms.Nodup→
 wpF (λn=>run P X n (.code nt rnd c T (mkm ms))) (qRt c env K ms rnd) (add s (mkH ms))
theorem wpF.succ {m:Nat→M α} {m':Nat→M α} {Q:α→Hq→Prop} {s:Hq} (h:wpF m Q s) (e:∀ n,m' (n+1)=m n):wpF m' Q s:=λH hH=>by
 obtain ⟨n,a,H',h1,h2⟩:=h H hH
 exact ⟨n+1,a,H',by rw [e];exact h1,h2⟩
theorem qDP {c:Code} {T:Tmps} {ms:List Mk} {Q:Out→Hq→Prop} {s:Hq} (h:wpF (λn=>qBF P (run P X n) nt rnd c T ms) Q s):wpF (λn=>run P X n (.code nt rnd c T ms)) Q s:=h.succ λ_=>rfl
theorem qRt.stay {c:Code} {env:Env} {K:AExit→Env→Hq→Prop} {ms:List Nat} {e:AExit} {T:Tmps} {s:Hq} (hT:TR T env) (hm:∀ i∈ms,s i=none) (hnd:ms.Nodup) (h:K e env s):qRt c env K ms rnd (.exit e T (mkm ms)) (add s (mkH ms)):=
 ⟨e,T,env,[],s,rfl,hT,rfl,hm,hnd,λ_ _=>rfl,λ_=>rfl,h⟩
theorem zABL:qJI P X A nt rnd .skip:=λenv K s h T ms hT hm hnd=>qDP (wpF.ret (.stay hT hm hnd h))
theorem zABJ {id:Nat}:qJI P X A nt rnd (.exit id):=λenv K s h T ms hT hm hnd=>qDP (wpF.ret (.stay hT hm hnd h))
theorem zAB6:qJI P X A nt rnd .ret:=λenv K s h T ms hT hm hnd=>qDP (wpF.ret (.stay hT hm hnd h))
theorem qWc (hX:FrX X) {id:Nat} {ops:Array Oper} {draw:Bool}:qJI P X A nt rnd (.region id ops draw):=by
 intro env K s h T ms hT hm hnd
 refine qDP ?_
 unfold wpC at h
 cases hokd:((ops.toList.all λo=>okOp o.op)&&(draw||(qC1 ops.toList).isNone)) with
 | false=>rw [hokd] at h;exact h.elim
 | true=>
   rw [hokd,cond_true] at h
   obtain ⟨hok,hdn⟩:=Bool.and_eq_true_iff.1 hokd
   have fin:∀ m:Nat→M Tmps,(∀ n,Fr (m n))→Mono m→wpF m (λT' s'=>∃ env',TR T' env'∧K .nrm env' s'∧∀ j,(∀ o∈ops.toList,o.dst≠some j)→env' j=env j) s→
     wpF (λn=>bd (m n) λT=>ret (Out.exit .nrm T (mkm ms))) (qRt (.region id ops draw) env K ms rnd) (add s (mkH ms)):=by
    intro m hfr hmo hw
    refine wpF.bd (f:=λ_ T=>ret (Out.exit .nrm T (mkm ms))) hmo (λ_=>.const _) ((wpF.frame hfr hw λi hi=>hm i (qIG.1 hi)).mono ?_)
    rintro T' S ⟨s',rfl,hs',env',q1,q2,q3⟩
    refine wpF.ret ⟨.nrm,T',env',[],s',rfl,q1,rfl,λi hi=>hs' i (qIG.2 hi),hnd,λj hj=>q3 j λo ho hd=>hj ?_,λ_=>rfl,q2⟩
    exact qHe ho hd
   unfold qBF
   cases draw with
   | false=>
     simp only [cond_false] at h ⊢
     have hdn:qC1 ops.toList=none:=by simpa using hdn
     rw [hdn]
     exact fin _ (λn=>qOr P (qFo P hX n) _ _ _ _) (qQh _ _ _ _) (qUR _ _ _ _ _ hok hT .nil h)
   | true=>
     simp only [cond_true] at h ⊢
     cases hr:(qDM ops.toList&&qOe (qUC A ops.toList) ops (clsL P ops.toList) (masks ops.toList [])) with
     | false=>rw [hr] at h;exact h.elim
     | true=>
       rw [hr,cond_true] at h
       obtain ⟨h1,h2⟩:=Bool.and_eq_true_iff.1 hr
       simp only [h1,cond_true]
       have hlen:(masks ops.toList []).length=ops.size:=by rw [qL8];simp
       refine fin _ (λn=>qSH P (qFo P hX n) _ _ _ _ _ _) (qQE _ _ _ _ _) λH hH=>?_
       obtain ⟨n,T',H',q1,s',env',q2,q3,q4,q5,q6⟩:=qVK hX hlen h2 ops.toList 0 [] [] [] env s T [] rfl hok hT .nil h H hH ⟨rfl,by simp,by simp,by simp,by simp,by simp⟩
       exact ⟨n,T',H',q1,s',q2,q3,env',q4,q5,q6⟩
theorem zABd {a b:Code} (ha:qJI P X A nt rnd a) (hb:qJI P X A nt rnd b):qJI P X A nt rnd (.seq a b):=by
 intro env K s h T ms hT hm hnd
 refine qDP ?_
 unfold wpC at h
 unfold qBF
 refine wpF.bd (m:=λn=>run P X n (.code nt rnd a T (mkm ms))) (f:=λn o=>match o with
  | .exit .nrm T ms=>run P X n (.code nt rnd b T ms)
  | o=>ret o) (qDy _) (λo=>?_) ((ha env _ s h T ms hT hm hnd).mono ?_)
 ·cases o with
  | exit e T ms=>cases e with
    | nrm=>exact qDy _
    | _=>exact .const _
  | val v=>exact .const _
 ·rintro o S ⟨e,T1,env1,ms1,s1,rfl,q1,rfl,q2,q3,q4,q5,q6⟩
  cases e with
  | nrm=>
    refine (hb env1 K s1 q6 T1 (ms1 ++ ms) q1 q2 q3).mono ?_
    rintro o S ⟨e,T2,env2,ms2,s2,rfl,r1,rfl,r2,r3,r4,r5,r6⟩
    refine ⟨e,T2,env2,ms2 ++ ms1,s2,by rw [List.append_assoc],r1,by rw [List.append_assoc],by rw [List.append_assoc];exact r2,by rw [List.append_assoc];exact r3,λj hj=>?_,λhr=>by rw [r5 hr,q5 hr];rfl,r6⟩
    simp only [assigned,List.mem_append,not_or] at hj
    rw [r4 j hj.2,q4 j hj.1]
  | exit id=>exact wpF.ret ⟨_,T1,env1,ms1,s1,rfl,q1,rfl,q2,q3,λj hj=>q4 j (by simp only [assigned,List.mem_append,not_or] at hj;exact hj.1),q5,q6⟩
  | ret=>exact wpF.ret ⟨_,T1,env1,ms1,s1,rfl,q1,rfl,q2,q3,λj hj=>q4 j (by simp only [assigned,List.mem_append,not_or] at hj;exact hj.1),q5,q6⟩
theorem zAA3 {c:Operand} {a b:Code} (ha:qJI P X A nt rnd a) (hb:qJI P X A nt rnd b):qJI P X A nt rnd (.cond c a b):=by
 intro env K s h T ms hT hm hnd
 refine qDP ?_
 unfold wpC at h
 cases hok:okX c with
 | false=>rw [hok] at h;exact h.elim
 | true=>
   rw [hok,cond_true] at h
   unfold qBF
   simp only [qMK hT hok]
   unfold qAP at h
   split at h
   ·rename_i e
    simp only [e,cond_true]
    refine (ha env K s h T ms hT hm hnd).mono ?_
    rintro o S ⟨e,T2,env2,ms2,s2,rfl,r1,rfl,r2,r3,r4,r5,r6⟩
    exact ⟨e,T2,env2,ms2,s2,rfl,r1,rfl,r2,r3,λj hj=>r4 j (by simp only [assigned,List.mem_append,not_or] at hj;exact hj.1),r5,r6⟩
   ·rename_i e
    simp only [e,cond_false]
    refine (hb env K s h T ms hT hm hnd).mono ?_
    rintro o S ⟨e,T2,env2,ms2,s2,rfl,r1,rfl,r2,r3,r4,r5,r6⟩
    exact ⟨e,T2,env2,ms2,s2,rfl,r1,rfl,r2,r3,λj hj=>r4 j (by simp only [assigned,List.mem_append,not_or] at hj;exact hj.2),r5,r6⟩
   ·exact h.elim
theorem qZP {id:Nat} {b:Code} (hb:qJI P X A nt rnd b):qJI P X A nt rnd (.block id b):=by
 intro env K s h T ms hT hm hnd
 refine qDP ?_
 unfold wpC at h
 unfold qBF
 refine wpF.bd (m:=λn=>run P X n (.code nt rnd b T (mkm ms))) (f:=λ_ o=>match o with
  | .exit (.exit id') T ms=>cond (Nat.beq id' id) (ret (.exit .nrm T ms)) (ret (.exit (.exit id') T ms))
  | o=>ret o) (qDy _) (λ_=>.const _) ((hb env _ s h T ms hT hm hnd).mono ?_)
 rintro o S ⟨e,T1,env1,ms1,s1,rfl,q1,rfl,q2,q3,q4,q5,q6⟩
 cases e with
 | exit id'=>
   simp only at q6 ⊢
   cases hb:Nat.beq id' id with
   | true=>rw [hb] at q6;exact wpF.ret ⟨_,T1,env1,ms1,s1,rfl,q1,rfl,q2,q3,q4,q5,q6⟩
   | false=>rw [hb] at q6;exact wpF.ret ⟨_,T1,env1,ms1,s1,rfl,q1,rfl,q2,q3,q4,q5,q6⟩
 | nrm=>exact wpF.ret ⟨_,T1,env1,ms1,s1,rfl,q1,rfl,q2,q3,q4,q5,q6⟩
 | ret=>exact wpF.ret ⟨_,T1,env1,ms1,s1,rfl,q1,rfl,q2,q3,q4,q5,q6⟩
theorem qR7 {s:Hq} {x:AV} {r since c:Nat} {mo:Option Nat} {es:List AEnt} (h:qNS s x=some (r,mo,since,c,es)):x=.ptr r 0∧∃ stepped,s r=some (false,.iter mo since [] stepped)∧since≤stepped∧since≤c∧qIe since es=true∧es.length < 900∧qQf (hdel s r) mo c es:=by
 unfold qNS at h
 split at h
 ·rename_i r'
  split at h
  ·rename_i since stepped hr
   cases e:Nat.ble since stepped with
   | false=>rw [e] at h;cases h
   | true=>
     rw [e] at h
     cases h
     exact ⟨rfl,stepped,hr,Nat.le_of_ble_eq_true e,Nat.le_refl _,rfl,by simp,rfl⟩
  ·rename_i m since stepped hr
   split at h
   ·rename_i t es' c hm
    cases e:(Nat.ble since stepped&&(Nat.ble since c&&(qIe since es'&&Nat.blt es'.length 900))) with
    | false=>rw [e] at h;cases h
    | true=>
      rw [e] at h
      cases h
      simp only [Bool.and_eq_true,Nat.blt_eq] at e
      refine ⟨rfl,stepped,hr,Nat.le_of_ble_eq_true e.1,Nat.le_of_ble_eq_true e.2.1,e.2.2.1,e.2.2.2,t,?_⟩
      show (if m=r then none else s m)=_
      rw [if_neg λq=>by rw [q,hr] at hm;cases hm]
      exact hm
   ·cases h
  ·cases h
 ·cases h
theorem qH3 {b:Code} {st:MapStep} (h:qCb b=some st):∃ a,b=.seq a st.rest:=by
 unfold qCb at h
 split at h
 ·rename_i id ops rest
  split at h
  ·rename_i nx it ty1 pos1 af1 more nx' ty2 pos2 af2 hops
   cases e:Nat.beq nx nx' with
   | false=>rw [e] at h;cases h
   | true=>rw [e] at h;cases h;exact ⟨_,rfl⟩
  ·cases h
 ·cases h
theorem qUP (s:Hq):add s (mkH [])=s:=by funext i;unfold add mkH;cases s i <;> simp
theorem zAA8 (hX:FrX X) {b:Code} (hb:qJI P X A nt rnd b) (hr:∀ st,qCb b=some st→qJI P X A nt rnd st.rest):qJI P X A nt rnd (.loop b):=by
 intro env K s h T ms hT hm hnd
 unfold wpC at h
 cases hms:qCb b with
 | some st=>
   rw [hms] at h
   exact h.elim
 | none=>
 rw [hms] at h
 simp only at h
 unfold qXI at h
 obtain ⟨I,⟨m,h0⟩,hstep⟩:=h
 have key:∀ (m:Nat) (env1:Env) (s1:Hq) (T1:Tmps) (ms1:List Nat),I ((A (2 * qIx b)).map env1) s1 m→(∀ j,j ∉ assigned b→env1 j=env j)→TR T1 env1→(∀ i∈ms1,s1 i=none)→ms1.Nodup→
   wpF (λn=>run P X n (.code nt rnd (.loop b) T1 (mkm ms1))) (λo S=>∃ e T' env' ms' s',o=.exit e T' (mkm (ms' ++ ms1))∧TR T' env'∧S=add s' (mkH (ms' ++ ms1))∧(∀ i∈ms' ++ ms1,s' i=none)∧(ms' ++ ms1).Nodup∧(∀ j,j ∉ assigned b→env' j=env j)∧(rnd≠none→ms'=[])∧K e env' s') (add s1 (mkH ms1)):=by
  intro m
  induction m using Nat.strongRecOn with
  | _ m ih=>
    intro env1 s1 T1 ms1 hI hag hT1 hm1 hnd1
    refine qDP ?_
    have hmix:mixE (assigned b) env1 env=env1:=by
     funext j
     unfold mixE
     cases hj:memN j (assigned b) with
     | true=>rfl
     | false=>exact (hag j λq=>by rw [qH6.2 q] at hj;cases hj).symm
    have hbody:=hstep env1 s1 m hI
    rw [hmix] at hbody
    unfold qBF
    simp only [hms]
    refine wpF.bd (m:=λn=>run P X n (.code nt rnd b T1 (mkm ms1))) (f:=λn o=>match o with
     | .exit .nrm T ms=>run P X n (.code nt rnd (.loop b) T ms)
     | o=>ret o) (qDy _) (λo=>?_) ((hb env1 _ s1 hbody T1 ms1 hT1 hm1 hnd1).mono ?_)
    ·cases o with
     | exit e T ms=>cases e with
       | nrm=>exact qDy _
       | _=>exact .const _
     | val v=>exact .const _
    ·rintro o S ⟨e,T2,env2,ms2,s2,rfl,q1,rfl,q2,q3,q4,q5,q6⟩
     have hag2:∀ j,j ∉ assigned b→env2 j=env j:=λj hj=>(q4 j hj).trans (hag j hj)
     cases e with
     | nrm=>
       obtain ⟨m',hlt,hI'⟩:=q6
       refine (ih m' hlt env2 s2 T2 (ms2 ++ ms1) hI' hag2 q1 q2 q3).mono ?_
       rintro o S ⟨e,T3,env3,ms3,s3,rfl,r1,rfl,r2,r3,r4,r5,r6⟩
       exact ⟨e,T3,env3,ms3 ++ ms2,s3,by rw [List.append_assoc],r1,by rw [List.append_assoc],by rw [List.append_assoc];exact r2,by rw [List.append_assoc];exact r3,r4,λhr=>by rw [r5 hr,q5 hr];rfl,r6⟩
     | exit id=>exact wpF.ret ⟨_,T2,env2,ms2,s2,rfl,q1,rfl,q2,q3,hag2,q5,q6⟩
     | ret=>exact wpF.ret ⟨_,T2,env2,ms2,s2,rfl,q1,rfl,q2,q3,hag2,q5,q6⟩
 exact key m env s T ms h0 (λ_ _=>rfl) hT hm hnd
end Go.AM
namespace Go.AM
open Go
variable {α:Type} {P:Program} {X:Td} {A:Nat→List Nat} {nt:Nat} {rnd:Option Nat}
theorem wpF.drop {m:Nat→M α} {Q:α→Hq→Prop} {s t:Hq} (h:wpF m Q t) (hs:Sub t s) (hp:Pers s t):wpF m Q s:=λH hH=>by
 obtain ⟨n,a,H',h1,s',h2,h3,h4⟩:=h H (hH.sub hs)
 exact ⟨n,a,H',h1,s',h2,hp.trans h3,h4⟩
theorem qHl {s:Hq} {b:Nat} {e:Bool × Blk}:hset s b e b=some e:=if_pos rfl
theorem qGT {s:Hq} {b i:Nat} {e:Bool × Blk} (h:i≠b):hset s b e i=s i:=if_neg h
theorem qGu {s:Hq} {b i:Nat} (h:i≠b):hdel s b i=s i:=if_neg h
theorem qKq {s:Hq} {b:Nat}:hdel s b b=none:=if_pos rfl
theorem qWj {s:Hq} {ms:List Nat} {b:Nat} {e:Bool × Blk}:hset (add s (mkH ms)) b e=add (hset s b e) (mkH ms):=by
 funext i
 by_cases h:i=b
 ·subst h;rw [qHl];exact (qAZ qHl).symm
 ·rw [qGT h];unfold add;rw [qGT h]
theorem qXC {s:Hq} {ms:List Nat} {r:Nat} (h:s r=none):hset (add s (mkH ms)) r (false,.deferred true)=add s (mkH (r :: ms)):=by
 funext i
 unfold hset add mkH
 by_cases e:i=r
 ·rw [if_pos e,e,h];simp
 ·rw [if_neg e];simp [e]
theorem qNc (t:Task):Mono λn=>outVal (run P X n t):=qDV λn=>LeM.outVal (qDt n t)
theorem qTM {l:Nat} {K:AExit→Hq→Prop} {s:Hq} (h:qZZ l K s):∃ st pd nt env ps as bo d,s l=some (false,.loop st pd nt env ps as bo d)∧st≠.busy∧
  (match pd with | none=>K .nrm (hdel s l) | some .ret=>K .ret (hdel s l) | some (.exit id)=>K (.exit id) (hdel s l) | some _=>False):=by
 unfold qZZ at h
 split at h
 ·rename_i st pd nt env ps as bo d e
  exact ⟨st,pd,nt,env,ps,as,bo,d,e,h.1,h.2⟩
 ·exact h.elim
theorem qRL (hX:FrX X) {f:Operand} {ps:Array Tmp} {as bo:Code}:qJI P X A nt rnd (.rangeFunc f ps as bo):=by
 intro env K s h T ms hT hm hnd
 refine qDP ?_
 unfold wpC at h
 cases hok:okX f with
 | false=>rw [hok] at h;exact h.elim
 | true=>
   rw [hok,cond_true] at h
   unfold qYU at h
   split at h
   ·rename_i k first cap hf
    obtain ⟨hk,hrnd,h⟩:=h
    unfold qBF
    simp only [qMK hT hok,hf]
    refine wpF.cond hk ?_
    have rest:∀ (d:Nat) (ms0:List Nat),(∀ i∈ms0 ++ ms,s i=none)→(ms0 ++ ms).Nodup→(rnd≠none→ms0=[])→
      wpF (λn=>bd (nw (.loop .ready none nt T ps.toList as bo d)) λl=>bd (outVal (run P X n (.call k (first ++ [.yield l] ++ cap)))) λ_=>bd (rd l) λblk=>match blk with
       | .loop st pend nt' T' ps' as' bo' d'=>match st with
         | .busy=>fail
         | _=>bd (wr l (.loop .exhausted pend nt' T' ps' as' bo' d')) λ_=>match pend with
           | none=>ret (.exit .nrm T (mkm (ms0 ++ ms)))
           | some c=>run P X n (.code nt rnd c T (mkm (ms0 ++ ms)))
       | _=>fail) (qRt (.rangeFunc f ps as bo) env K ms rnd) (add s (mkH (ms0 ++ ms))):=by
     intro d ms0 hm0 hnd0 hr0
     have mono3:∀ (l:Nat) (blk:ABlk),Mono λn=>(match blk with
       | .loop st pend nt' T' ps' as' bo' d'=>match st with
         | .busy=>fail
         | _=>bd (wr l (.loop .exhausted pend nt' T' ps' as' bo' d')) λ_=>match pend with
           | none=>ret (.exit .nrm T (mkm (ms0 ++ ms)))
           | some c=>run P X n (.code nt rnd c T (mkm (ms0 ++ ms)))
       | _=>fail:M Out):=by
      intro l blk
      refine qDV λn=>?_
      split
      ·split
       ·exact LeM.refl _
       ·refine LeM.bd (LeM.refl _) λ_=>?_
        split
        ·exact LeM.refl _
        ·exact qDt n _
      ·exact LeM.refl _
     refine wpF.bd (.const _) (λl=>qLi (qNc _) λ_=>qLi (.const _) λblk=>mono3 l blk) (wpF.nw (x:=.loop .ready none nt ((A (2 * qIx bo+1)).map λi=>(i,env i)) ps.toList as bo d) ⟨rfl,rfl,rfl,λp hp=>by obtain ⟨i,_,rfl⟩:=List.mem_map.1 hp;exact hT i,rfl,rfl,rfl,rfl⟩ λl hl=>?_)
     rw [qWj]
     have hls:s l=none:=by
      cases e:s l with
      | none=>rfl
      | some x=>rw [qAZ e] at hl;cases hl
     have hlm:l ∉ ms0 ++ ms:=λe=>by
      rw [qAX hls] at hl
      exact qIG.2 e hl
     have hdis:∀ i,mkH (ms0 ++ ms) i≠none→hset s l (false,.loop .ready none nt ((A (2 * qIx bo+1)).map λi=>(i,env i)) ps.toList as bo d) i=none:=λi hi=>by
      have hi':=qIG.1 hi
      rw [qGT (show i≠l from λe=>hlm (e ▸ hi'))];exact hm0 i hi'
     refine wpF.bd (f:=λn _=>bd (rd l) λblk=>match blk with
       | .loop st pend nt' T' ps' as' bo' d'=>match st with
         | .busy=>fail
         | _=>bd (wr l (.loop .exhausted pend nt' T' ps' as' bo' d')) λ_=>match pend with
           | none=>ret (.exit .nrm T (mkm (ms0 ++ ms)))
           | some c=>run P X n (.code nt rnd c T (mkm (ms0 ++ ms)))
       | _=>fail) (qNc _) (λ_=>qLi (.const _) λblk=>mono3 l blk) ((wpF.frame (λn=>qNJ (qFo P hX n _)) (qV9 (h l d hls)) hdis).mono ?_)
     rintro u S ⟨s',rfl,hs',hdone⟩
     obtain ⟨st,pd,nt',env',ps',as',bo',d',hl',hst,hK⟩:=qTM hdone
     have hl2:add s' (mkH (ms0 ++ ms)) l=some (false,.loop st pd nt' env' ps' as' bo' d'):=qAZ hl'
     refine wpF.bd (.const _) (λblk=>mono3 l blk) (wpF.rd hl2 λab hab=>?_)
     cases ab with
     | loop st2 pd2 nt2 T2 ps2 as2 bo2 d2=>
       obtain ⟨rfl,rfl,rfl,hT2,rfl,rfl,rfl,rfl⟩:=hab
       have fin:wpF (λn=>(match (generalizing:=false) pd with
         | none=>ret (.exit .nrm T (mkm (ms0 ++ ms)))
         | some c=>run P X n (.code nt rnd c T (mkm (ms0 ++ ms))):M Out)) (qRt (.rangeFunc f ps as bo) env K ms rnd) (add (hdel s' l) (mkH (ms0 ++ ms))):=by
        have hm2:∀ i∈ms0 ++ ms,hdel s' l i=none:=λi hi=>by
         rw [qGu (show i≠l from λe=>hlm (e ▸ hi))];exact hs' i (qIG.2 hi)
        cases pd with
        | none=>exact wpF.ret ⟨.nrm,T,env,ms0,_,rfl,hT,rfl,hm2,hnd0,λ_ _=>rfl,hr0,hK⟩
        | some c=>
          cases c with
          | ret=>exact qDP (wpF.ret ⟨.ret,T,env,ms0,_,rfl,hT,rfl,hm2,hnd0,λ_ _=>rfl,hr0,hK⟩)
          | exit id=>exact qDP (wpF.ret ⟨.exit id,T,env,ms0,_,rfl,hT,rfl,hm2,hnd0,λ_ _=>rfl,hr0,hK⟩)
          | _=>exact hK.elim
       have fin2:wpF (λn=>bd (wr l (.loop .exhausted pd nt' T2 ps' as' bo' d')) λ_=>(match (generalizing:=false) pd with
         | none=>ret (.exit .nrm T (mkm (ms0 ++ ms)))
         | some c=>run P X n (.code nt rnd c T (mkm (ms0 ++ ms))):M Out)) (qRt (.rangeFunc f ps as bo) env K ms rnd) (add s' (mkH (ms0 ++ ms))):=by
        refine wpF.bd (.const _) (λ_=>qDV λn=>?_) (wpF.wr hl2 (x:=.loop .exhausted pd nt' env' ps' as' bo' d') ⟨rfl,rfl,rfl,hT2,rfl,rfl,rfl,rfl⟩ (wpF.drop fin ?_ ?_))
        ·split
         ·exact LeM.refl _
         ·exact qDt n _
        ·intro i e hi
         by_cases hil:i=l
         ·subst hil
          rw [qAX qKq] at hi
          exact absurd (qIG.1 (by rw [hi];simp)) hlm
         ·rw [qGT hil]
          cases q:s' i with
          | none=>rw [qAX (by rw [qGu hil];exact q)] at hi;rw [qAX q];exact hi
          | some x=>rw [qAZ (by rw [qGu hil];exact q)] at hi;rw [qAZ q];exact hi
        ·intro i b hi
         by_cases hil:i=l
         ·subst hil;rw [qHl] at hi;cases hi
         ·rw [qGT hil] at hi
          cases q:s' i with
          | none=>rw [qAX q] at hi;rw [qAX (by rw [qGu hil];exact q)];exact hi
          | some x=>rw [qAZ q] at hi;rw [qAZ (by rw [qGu hil];exact q)];exact hi
       cases st <;> first | exact absurd rfl hst | exact fin2
     | _=>exact hab.elim
    have mono1:∀ dm:Nat × List Nat,Mono λn=>bd (nw (.loop .ready none nt T ps.toList as bo dm.1)) λl=>bd (outVal (run P X n (.call k (first ++ [.yield l] ++ cap)))) λ_=>bd (rd l) λblk=>match blk with
       | .loop st pend nt' T' ps' as' bo' d'=>match st with
         | .busy=>fail
         | _=>bd (wr l (.loop .exhausted pend nt' T' ps' as' bo' d')) λ_=>match pend with
           | none=>ret (.exit .nrm T (dm.2.map Mk.mark ++ mkm ms))
           | some c=>run P X n (.code nt rnd c T (dm.2.map Mk.mark ++ mkm ms))
       | _=>(fail:M Out):=by
     intro dm
     refine qDV λn=>LeM.bd (LeM.refl _) λl=>LeM.bd (LeM.outVal (qDt n _)) λ_=>LeM.bd (LeM.refl _) λblk=>?_
     split
     ·split
      ·exact LeM.refl _
      ·refine LeM.bd (LeM.refl _) λ_=>?_
       split
       ·exact LeM.refl _
       ·exact qDt n _
     ·exact LeM.refl _
    refine wpF.bd (m:=λ_=>qNs rnd) (.const _) mono1 ?_
    cases rnd with
    | none=>
      unfold qNs
      simp only
      refine wpF.bd (.const _) (λ_=>.const _) (wpF.nw (x:=.deferred true) rfl λr hr=>wpF.ret ?_)
      have hrs:s r=none:=by
       cases e:s r with
       | none=>rfl
       | some x=>rw [qAZ e] at hr;cases hr
      have hrm:r ∉ ms:=λe=>by
       rw [qAX hrs] at hr
       exact qIG.2 e hr
      rw [qXC hrs]
      refine rest r [r] (λi hi=>?_) (by simpa using ⟨hrm,hnd⟩) (λe=>absurd rfl e)
      rcases mC hi with rfl | hi
      ·exact hrs
      ·exact hm i hi
    | some l0=>
      unfold qNs
      simp only
      have:∃ tg st pd nt2 en2 ps2 as2 bo2 d2,s l0=some (tg,.loop st pd nt2 en2 ps2 as2 bo2 d2):=by
       simp only [rndK,qYO] at hrnd
       split at hrnd
       ·rename_i tg st pd nt2 en2 ps2 as2 bo2 d2 e;exact ⟨tg,st,pd,nt2,en2,ps2,as2,bo2,d2,e⟩
       ·exact hrnd.elim
      obtain ⟨tg,st,pd,nt2,en2,ps2,as2,bo2,d2,hl0⟩:=this
      refine wpF.bd (.const _) (λ_=>.const _) (wpF.rd (qAZ hl0) λab hab=>?_)
      cases ab with
      | loop st3 pd3 nt3 T3 ps3 as3 bo3 d3=>exact wpF.ret (rest d3 [] hm hnd λ_=>rfl)
      | _=>exact hab.elim
   ·exact h.elim
theorem qJJ (hX:FrX X):∀ c:Code,qJI P X A nt rnd c
 | .skip=>zABL
 | .region _ _ _=>qWc hX
 | .seq a b=>zABd (qJJ hX a) (qJJ hX b)
 | .cond _ a b=>zAA3 (qJJ hX a) (qJJ hX b)
 | .block _ b=>qZP (qJJ hX b)
 | .loop b=>zAA8 hX (qJJ hX b) (match b with
   | .seq _ r=>
     have hr:=qJJ hX r
     λst h=>by
      obtain ⟨a',e⟩:=qH3 h
      injection e with _ e2
      rw [← e2];exact hr
   | .skip | .region _ _ _ | .cond _ _ _ | .block _ _ | .loop _ | .exit _ | .ret | .rangeFunc _ _ _ _ | .scope _ | .label _ | .goto _ | .refuse _=>λst h=>by obtain ⟨a',e⟩:=qH3 h;cases e)
 | .exit _=>zABJ
 | .ret=>zAB6
 | .rangeFunc _ _ _ _=>qRL hX
 | .scope _=>λ_ _ _ h=>h.elim
 | .label _=>λ_ _ _ h=>h.elim
 | .goto _=>λ_ _ _ h=>h.elim
 | .refuse _=>λ_ _ _ h=>h.elim
theorem qKD (l:List Mk):Mono λn=>qBw P (run P X n) l:=qDV λn=>qDW (qDt n) l
theorem qL2 {s:Hq} {Q:Hq→Prop}:∀ (ms:List Nat) (S:Hq),ms.Nodup→(∀ i∈ms,S i=some (false,.deferred true))→Sub s S→Pers S s→(∀ i∈ms,s i=none)→Q s→wpF (λn=>qBw P (run P X n) (mkm ms)) (λ_ s'=>Q s') S
 | [],S,_,_,hs,hp,_,h=>wpF.drop (wpF.ret h) hs hp
 | r :: ms,S,hnd,hS,hs,hp,hm,h=>by
   have hr:=hS r (by simp)
   show wpF (λn=>qBw P (run P X n) (Mk.mark r :: mkm ms)) _ S
   unfold qBw
   refine wpF.bd (f:=λn blk=>match blk with
    | .deferred true=>bd (wr r (.deferred false)) λ_=>qBw P (run P X n) (mkm ms)
    | _=>fail) (.const _) (λblk=>qDV λn=>?_) (wpF.rd hr λab hab=>?_)
   ·split
    ·exact LeM.bd (LeM.refl _) λ_=>qDW (qDt n) _
    ·exact LeM.refl _
   cases ab with
   | deferred b=>
     cases hab
     refine wpF.bd (.const _) (λ_=>qKD _) (wpF.wr hr (x:=.deferred false) rfl (qL2 ms _ (List.nodup_cons.1 hnd).2 (λi hi=>?_) (λi e hi=>?_) (λi b hi=>?_) (λi hi=>hm i (by simp [hi])) h))
     ·rw [qGT (show i≠r from λe=>(List.nodup_cons.1 hnd).1 (e ▸ hi))];exact hS i (by simp [hi])
     ·rw [qGT (show i≠r from λq=>by rw [q,hm r (by simp)] at hi;cases hi)];exact hs i e hi
     ·by_cases q:i=r
      ·subst q;rw [qHl] at hi;cases hi
      ·rw [qGT q] at hi;exact hp i b hi
   | _=>exact hab.elim
theorem qWN (args:List AV):TR (Tr.ofListAt .nil 0 args) (qPM args):=by
 intro i
 unfold tget qPM
 rw [Tr.get_ofListAt]
 split
 ·rw [List.getD_eq_getElem?_getD];rfl
 ·rename_i h
  rw [Tr.get_nil,List.getD_eq_getElem?_getD,List.getElem?_eq_none (by omega)]
theorem qQI {o:Option α} {K K':α→Prop} (hk:∀ a,K a→K' a) (h:oK o K):oK o K':=by
 cases o with
 | none=>exact h
 | some a=>exact hk a h
theorem qT4 {t:TypeId} {p:AV} {K K':AV→Prop} {s:Hq} (hk:∀ v,K v→K' v) (h:qNy P t p K s):qNy P t p K' s:=by
 unfold qNy at h ⊢
 split at h
 ·exact qQI (λl hl=>hk _ hl) h
 ·exact qQI hk h
 ·exact h
theorem qJr {T:Tmps} {env:Env} (hT:TR T env):∀ (rs:List ResultVar) (k:List AV→Prop) (s:Hq),resK P rs env k s→wpF (λ_=>qC7 P T rs) (λvs s'=>s'=s∧k vs) s
 | [],k,s,h=>wpF.ret ⟨rfl,h⟩
 | .tmp t :: rs,k,s,h=>by
   unfold qC7
   refine wpF.bd (.const _) (λ_=>.const _) ((qJr hT rs _ s h).mono ?_)
   rintro vs s' ⟨rfl,hk⟩
   refine wpF.ret ⟨rfl,?_⟩
   have:=hT t
   unfold tget at this
   cases hg:T.get t with
   | none=>rw [hg] at this;simp only [Option.getD_none] at this;simp only [this];exact hk
   | some v=>rw [hg] at this;simp only [Option.getD_some] at this;simp only [this];exact hk
 | .cell a t :: rs,k,s,h=>by
   unfold resK at h
   unfold qC7
   have hg:∀ b o,env a=.ptr b o→T.get a=some (.ptr b o):=by
    intro b o e
    have:=hT a
    unfold tget at this
    cases hg:T.get a with
    | none=>rw [hg,e] at this;cases this
    | some v=>rw [hg,e] at this;simp only [Option.getD_some] at this;rw [this]
   have hp:∃ b o,env a=.ptr b o:=by
    unfold qNy at h
    split at h
    ·obtain ⟨l,e,_⟩:=qAo h
     unfold rdN at e
     split at e
     ·rename_i b o q;exact ⟨b,o,q⟩
     ·cases e
    ·obtain ⟨l,e,_⟩:=qAo h
     unfold rd1 at e
     split at e
     ·rename_i b o q;exact ⟨b,o,q⟩
     ·cases e
    ·exact h.elim
   obtain ⟨b,o,e⟩:=hp
   simp only [hg b o e]
   rw [e] at h
   have hld:wpF (λ_=>qFa P t b o) (λv s'=>s'=s∧resK P rs env (λvs=>k (v :: vs)) s) s:=qRo (p:=.ptr b o) (Q:=λv s'=>s'=s∧resK P rs env (λvs=>k (v :: vs)) s) (qT4 (λv hv=>⟨rfl,hv⟩) h)
   refine wpF.bd (.const _) (λ_=>.const _) (hld.mono ?_)
   rintro v s' ⟨rfl,hv⟩
   refine wpF.bd (.const _) (λ_=>.const _) ((qJr hT rs _ _ hv).mono ?_)
   rintro vs s' ⟨rfl,hk⟩
   exact wpF.ret ⟨rfl,hk⟩
theorem qRJ (hX:FrX X) (A:Nat→List Nat) {f:FuncId} (hXf:X f=none) {fn:Func} {c:Code} (hf:P.funcs[f]?=some fn) (hb:fn.body=some c) {args:List AV} (hl:Nat.ble args.length fn.ntmps=true) {K:AV→Hq→Prop} {s:Hq}
  (h:wpC P X A fn.ntmps none c (qPM args) (λe env s=>retK e (resK P fn.results.toList env (λvs=>K (oneV vs) s) s)) s):wC P X f args K s:=by
 unfold wC wpT
 refine wpF.succ (m:=λn=>qCV P (run P X n) f args) ?_ (λn=>by
  show (match X f with
   | some g=>bd (g args) λv=>ret (Out.val v)
   | none=>qCV P (run P X n) f args)=_
  rw [hXf])
 unfold qCV
 simp only [hf,hb]
 refine wpF.cond hl ?_
 have hc:=qJJ (P:=P) (A:=A) (nt:=fn.ntmps) (rnd:=none) hX c (qPM args) _ s h (Tr.ofListAt .nil 0 args) [] (qWN args) (by simp) List.nodup_nil
 have e0:add s (mkH [])=s:=by funext i;unfold add mkH;cases s i <;> simp
 rw [e0] at hc
 refine wpF.bd (m:=λn=>run P X n (.code fn.ntmps none c (Tr.ofListAt .nil 0 args) [])) (qDy _) (λo=>qDV λn=>?_) (hc.mono ?_)
 ·split
  ·split
   ·exact LeM.refl _
   ·exact LeM.bd (qDW (qDt n) _) λ_=>LeM.refl _
  ·exact LeM.refl _
 rintro o S ⟨e,T',env',ms',s',rfl,q1,rfl,q2,q3,_,_,q6⟩
 simp only [List.append_nil] at q2 q3 ⊢
 have body:resK P fn.results.toList env' (λvs=>K (oneV vs) s') s'→wpF (λn=>bd (qBw P (run P X n) (mkm ms')) λ_=>bd (qC7 P T' fn.results.toList) λvs=>ret (Out.val (oneV vs))) (λo s'=>∃ v,o=.val v∧K v s') (add s' (mkH ms')):=by
  intro hr
  refine wpF.bd (qKD _) (λ_=>.const _) ((qL2 (Q:=λt=>t=s') ms' _ q3 (λi hi=>?_) (λi e hi=>qAZ hi) (λi b hi=>?_) q2 rfl).mono ?_)
  ·rw [qAX (q2 i hi)];unfold mkH;rw [if_pos hi]
  ·cases q:s' i with
   | some x=>rw [qAZ q] at hi;exact hi
   | none=>
     rw [qAX q] at hi
     unfold mkH at hi
     split at hi <;> cases hi
  ·rintro _ t rfl
   refine wpF.bd (.const _) (λ_=>.const _) ((qJr q1 _ _ _ hr).mono ?_)
   rintro vs s'' ⟨rfl,hk⟩
   exact wpF.ret ⟨_,rfl,hk⟩
 cases e with
 | exit id=>exact q6.elim
 | nrm=>exact body q6
 | ret=>exact body q6
end Go.AM
namespace Go.AM
open Go Go.RowKit
section
variable {P:Program}
theorem qDk {t:TypeId} {n:Nat} (h:sz P t=some n) (w:World):(sizeOf t).run P w=.ok n w:=by
 unfold sz at h
 cases hi:P.info? t with
 | none=>simp [hi] at h
 | some i=>simp only [hi,Option.some.injEq] at h;subst h;simp [sizeOf,typeInfo,hi]
theorem qXU {t:TypeId} {i:TypeInfo} (h:P.info? t=some i) (w:World):(typeInfo t).run P w=.ok i w:=by simp [typeInfo,h]
theorem qHS {t:TypeId} {b:Bool} (h:qDX P t=some b) (w:World):(isAgg t).run P w=.ok b w:=by
 unfold qDX at h
 cases hu:P.underlying t with
 | none=>simp [hu] at h
 | some d=>
   simp only [hu] at h
   cases d <;> simp at h <;> subst h <;> simp [isAgg,run_underlying hu]
theorem qRC {σ:Nat→Value} {ρ:Ren}:∀ (d:Nat) (v:Value) (x:AV),ofV d v=some x→Rel σ ρ x v:=by
 have mapM:∀ (d:Nat),(∀ v x,ofV d v=some x→Rel σ ρ x v)→∀ (l:List Value) (r:List AV),l.mapM (ofV d)=some r→RelL σ ρ r l:=by
  intro d hd l
  induction l with
  | nil=>intro r h;simp at h;subst h;exact .nil
  | cons v l ih=>
    intro r h
    rw [List.mapM_cons] at h
    cases h1:ofV d v with
    | none=>simp [h1] at h
    | some x=>
      cases h2:l.mapM (ofV d) with
      | none=>simp [h1,h2] at h
      | some xs=>simp [h1,h2] at h;subst h;exact .cons (hd _ _ h1) (ih _ h2)
 intro d
 induction d with
 | zero=>
   intro v x h
   cases v with
   | pointer a=>cases a <;> simp [ofV] at h;subst h;unfold Rel;rfl
   | slice a l c=>
     cases a with
     | some a=>simp [ofV] at h
     | none=>cases l with
       | succ l=>simp [ofV] at h
       | zero=>cases c with
         | succ c=>simp [ofV] at h
         | zero=>simp [ofV] at h;subst h;unfold Rel;rfl
   | map r=>cases r <;> simp [ofV] at h;subst h;unfold Rel;rfl
   | _=>simp [ofV] at h <;> (try subst h) <;> (try (unfold Rel;rfl))
 | succ d ih=>
   intro v x h
   cases v with
   | pointer a=>cases a <;> simp [ofV] at h;subst h;unfold Rel;rfl
   | slice a l c=>
     cases a with
     | some a=>simp [ofV] at h
     | none=>cases l with
       | succ l=>simp [ofV] at h
       | zero=>cases c with
         | succ c=>simp [ofV] at h
         | zero=>simp [ofV] at h;subst h;unfold Rel;rfl
   | map r=>cases r <;> simp [ofV] at h;subst h;unfold Rel;rfl
   | agg cs=>
     simp only [ofV,Option.map_eq_some_iff] at h
     obtain ⟨r,h1,rfl⟩:=h
     unfold Rel;exact ⟨cs,rfl,mapM d ih _ _ h1⟩
   | tuple cs=>
     simp only [ofV,Option.map_eq_some_iff] at h
     obtain ⟨r,h1,rfl⟩:=h
     unfold Rel;exact ⟨cs,rfl,mapM d ih _ _ h1⟩
   | _=>simp [ofV] at h <;> (try subst h) <;> (try (unfold Rel;rfl))
theorem qLN {t:TypeId} {z:AV} (h:qEp P t=some z):∃ v,(∀ w,(zeroValue t).run P w=.ok v w)∧∀ (σ:Nat→Value) (ρ:Ren),Rel σ ρ z v:=by
 unfold qEp at h
 cases hi:P.info? t with
 | none=>simp [hi] at h
 | some i=>
   simp only [hi] at h
   cases hz:i.zero with
   | none=>simp [hz] at h
   | some v=>simp only [hz] at h;exact ⟨v,λw=>by simp [zeroValue,typeInfo,hi,hz],λσ ρ=>qRC 2 v z h⟩
variable {σ:Nat→Value} {ρ:Ren}
theorem qF3 {t:TypeId} {cs:List AV} {cs':Array Value} {off:Nat} {x:AV} (h:qGh P t cs off=some x) (hr:RelL σ ρ cs cs'.toList) (w:World) :
  ∃ v,(part t cs' off).run P w=.ok v w∧Rel σ ρ x v:=by
 unfold qGh at h
 cases ha:qDX P t with
 | none=>simp [ha] at h
 | some b=>
   cases b with
   | true=>
     simp only [ha] at h
     cases hs:sz P t with
     | none=>simp [hs] at h
     | some n=>
       simp only [hs] at h
       obtain ⟨hle,h⟩:=qAY h
       cases h
       refine ⟨.agg (cs'.extract off (off+n)),by simp [part,qHS ha,qDk hs],?_⟩
       unfold Rel
       refine ⟨_,rfl,?_⟩
       have e:(cs'.extract off (off+n)).toList=(cs'.toList.drop off).take n:=by
        rw [Array.toList_extract,List.extract_eq_take_drop]
        congr 1;omega
       rw [e]
       exact (hr.drop off).take n
   | false=>
     simp only [ha] at h
     obtain ⟨v,hv,hrel⟩:=hr.get off x h
     have hv':cs'[off]?=some v:=by rw [← Array.getElem?_toList];exact hv
     exact ⟨v,by simp [part,qHS ha,hv'],hrel⟩
theorem qLZ {k k':IntKind} (h:qCQ k k'=true):k=k':=by cases k <;> cases k' <;> simp [qCQ] at h <;> rfl
theorem qQe {eq:TypeId→AV→AV→Option Bool} (D:Nat)
  (heq:∀ t x y b x' y',eq t x y=some b→Rel σ ρ x x'→Rel σ ρ y y'→∀ w,(Op.equalIn D t x' y').run P w=.ok b w) (w:World)
  {xs ys:List AV} {xs' ys':Array Value} (hx:RelL σ ρ xs xs'.toList) (hy:RelL σ ρ ys ys'.toList) :
  ∀ (fs:List Field) (b:Bool),eqFields P eq xs ys fs=some b→(Op.eqFields D xs' ys' fs).run P w=.ok b w:=by
 intro fs
 induction fs with
 | nil=>intro b h;simp [eqFields] at h;subst h;simp [Op.eqFields]
 | cons f fs ih=>
   intro b h
   unfold eqFields at h
   cases hn:f.name == "_" with
   | true=>
     simp only [hn,cond_true] at h
     have:f.name="_":=by simpa using hn
     simp [Op.eqFields,this,ih b h]
   | false=>
     simp only [hn,cond_false] at h
     have hne:¬ f.name="_":=by simpa using hn
     cases h1:qGh P f.type xs f.offset with
     | none=>simp [h1] at h
     | some x=>
       cases h2:qGh P f.type ys f.offset with
       | none=>simp [h1,h2] at h
       | some y=>
         simp only [h1,h2] at h
         obtain ⟨x',e1,r1⟩:=qF3 h1 hx w
         obtain ⟨y',e2,r2⟩:=qF3 h2 hy w
         cases h3:eq f.type x y with
         | none=>simp [h3] at h
         | some r=>
           have e3:=heq _ _ _ _ _ _ h3 r1 r2 w
           cases r with
           | true=>simp only [h3] at h;simp [Op.eqFields,hne,e1,e2,e3,ih b h]
           | false=>simp only [h3,Option.some.injEq] at h;subst h;simp [Op.eqFields,hne,e1,e2,e3]
theorem qSE {eq:TypeId→AV→AV→Option Bool} (D:Nat) {e:TypeId} {c:Nat}
  (heq:∀ t x y b x' y',eq t x y=some b→Rel σ ρ x x'→Rel σ ρ y y'→∀ w,(Op.equalIn D t x' y').run P w=.ok b w) (w:World)
  {xs ys:List AV} {xs' ys':Array Value} (hx:RelL σ ρ xs xs'.toList) (hy:RelL σ ρ ys ys'.toList) :
  ∀ (len i:Nat) (b:Bool),qNt P eq e c xs ys len i=some b→(Op.eqItems D e c xs' ys' (List.range' i len)).run P w=.ok b w:=by
 intro len
 induction len with
 | zero=>intro i b h;simp [qNt] at h;subst h;simp [Op.eqItems]
 | succ len ih=>
   intro i b h
   unfold qNt at h
   cases h1:qGh P e xs (i * c) with
   | none=>simp [h1] at h
   | some x=>
     cases h2:qGh P e ys (i * c) with
     | none=>simp [h1,h2] at h
     | some y=>
       simp only [h1,h2] at h
       obtain ⟨x',e1,r1⟩:=qF3 h1 hx w
       obtain ⟨y',e2,r2⟩:=qF3 h2 hy w
       rw [List.range'_succ]
       cases h3:eq e x y with
       | none=>simp [h3] at h
       | some r=>
         have e3:=heq _ _ _ _ _ _ h3 r1 r2 w
         cases r with
         | true=>simp only [h3] at h;simp [Op.eqItems,e1,e2,e3,ih _ b h]
         | false=>simp only [h3,Option.some.injEq] at h;subst h;simp [Op.eqItems,e1,e2,e3]
theorem qUZ:∀ (d:Nat) (t:TypeId) (x y:AV) (b:Bool) (x' y':Value),aEq P d t x y=some b→Rel σ ρ x x'→Rel σ ρ y y'→
  ∀ (D:Nat),d≤D→∀ w,(Op.equalIn D t x' y').run P w=.ok b w:=by
 intro d
 induction d with
 | zero=>intro t x y b x' y' h;simp [aEq] at h
 | succ d ih=>
   intro t x y b x' y' h hx hy D hD w
   obtain ⟨D,rfl⟩:∃ k,D=k+1:=⟨D - 1,by omega⟩
   unfold aEq at h
   split at h
   case h_10=>
    rename_i fields xs ys hu
    have hst:P.stoodInHeld t=false:=by
     cases hs:P.stoodInHeld t with
     | true=>simp [hs] at h
     | false=>rfl
    simp only [hst,cond_false] at h
    unfold Rel at hx hy
    obtain ⟨xs',rfl,hx⟩:=hx
    obtain ⟨ys',rfl,hy⟩:=hy
    have hf:P.fieldsOf t=fields:=by simp [Program.fieldsOf,hu]
    rw [run_equalIn_struct w D t xs' ys' (by rw [hf];exact hu) hst,hf]
    exact qQe D (λt x y b x' y' h r1 r2 w=>ih t x y b x' y' h r1 r2 D (by omega) w) w hx hy _ _ h
   case h_11=>
    rename_i len elem xs ys hu
    cases hs:sz P elem with
    | none=>simp [hs] at h
    | some n=>
      simp only [hs] at h
      unfold Rel at hx hy
      obtain ⟨xs',rfl,hx⟩:=hx
      obtain ⟨ys',rfl,hy⟩:=hy
      have hs':=hs
      unfold sz at hs'
      cases hi:P.info? elem with
      | none=>simp [hi] at hs'
      | some i=>
        have hc:P.cellsOf elem=n:=by simp [hi] at hs';simp [Program.cellsOf,hi,hs']
        rw [run_equalIn_array w D xs' ys' hu hi,hc,List.range_eq_range']
        exact qSE D (λt x y b x' y' h r1 r2 w=>ih t x y b x' y' h r1 r2 D (by omega) w) w hx hy _ _ _ h
   all_goals (first | (cases h;done) | skip)
   all_goals (rename_i hu;unfold Rel at hx hy)
   all_goals (first
    | (subst hx;subst hy)
    | (subst hx;obtain ⟨_,_,rfl⟩:=hy)
    | (obtain ⟨_,_,rfl⟩:=hx;subst hy)
    | (subst hx;obtain ⟨_,rfl,_⟩:=hy)
    | (obtain ⟨_,rfl,_⟩:=hx;subst hy)
    | (subst hx;obtain ⟨_,_,_,_,rfl,_⟩:=hy)
    | (obtain ⟨_,_,_,_,rfl,_⟩:=hx;subst hy)
    | (subst hx;obtain ⟨_,_,rfl,_⟩:=hy)
    | (obtain ⟨_,_,rfl,_⟩:=hx;subst hy)
    | skip)
   all_goals (try (have hc:=qAY h;clear h;obtain ⟨hk,h⟩:=hc;replace hk:=qLZ hk;subst hk))
   all_goals (try (cases h;done))
   all_goals (simp only [Option.some.injEq] at h;subst h)
   all_goals (simp [Op.equalIn,run_underlying hu,qGn])
end
end Go.AM
namespace Go.AM
open Go Go.RowKit
section
variable {P:Program} {σ:Nat→Value} {ρ:Ren}
theorem qVB {op:BinOp} {k:IntKind} {x y:Int} {v:AV} (h:arith op k x y=some v) (t:TypeId) (w:World) :
  (op≠.shl∧op≠.shr)∧∃ v',(binOp op t (.int k x) (.int k y)).run P w=.ok v' w∧Rel σ ρ v v':=by
 cases op
 case add=>simp only [arith,qDL,qCH,Option.some.injEq] at h;subst h;exact ⟨by simp,_,by simp [binOp,Op.intArith];rfl,by unfold Rel;rfl⟩
 case sub=>simp only [arith,qDL,qCH,Option.some.injEq] at h;subst h;exact ⟨by simp,_,by simp [binOp,Op.intArith];rfl,by unfold Rel;rfl⟩
 case mul=>simp only [arith,qDL,qCH,Option.some.injEq] at h;subst h;exact ⟨by simp,_,by simp [binOp,Op.intArith];rfl,by unfold Rel;rfl⟩
 case quo=>
  simp only [arith,qDL,qCH] at h
  cases hy:eqI y 0 with
  | true=>simp [hy] at h
  | false=>
    have h0:¬ y=0:=by rw [qGn] at hy;simpa using hy
    simp only [hy,cond_false,Option.some.injEq] at h;subst h
    exact ⟨by simp,_,by simp [binOp,Op.intDiv,h0];rfl,by unfold Rel;rfl⟩
 case rem=>
  simp only [arith,qDL] at h
  cases hy:eqI y 0 with
  | true=>simp [hy] at h
  | false=>
    have h0:¬ y=0:=by rw [qGn] at hy;simpa using hy
    simp only [hy,cond_false,Option.some.injEq] at h;subst h
    exact ⟨by simp,_,by simp [binOp,Op.intDiv,h0];rfl,by unfold Rel;rfl⟩
 case and=>simp only [arith,qDL,qCH,Option.some.injEq] at h;subst h;exact ⟨by simp,_,by simp only [binOp,ne_eq,not_true_eq_false,if_false,Op.intBits];rfl,by unfold Rel;rfl⟩
 case or=>simp only [arith,qDL,qCH,Option.some.injEq] at h;subst h;exact ⟨by simp,_,by simp only [binOp,ne_eq,not_true_eq_false,if_false,Op.intBits];rfl,by unfold Rel;rfl⟩
 case xor=>simp only [arith,qDL,qCH,Option.some.injEq] at h;subst h;exact ⟨by simp,_,by simp only [binOp,ne_eq,not_true_eq_false,if_false,Op.intBits];rfl,by unfold Rel;rfl⟩
 case andNot=>simp only [arith,qDL,qCH,Option.some.injEq] at h;subst h;exact ⟨by simp,_,by simp only [binOp,ne_eq,not_true_eq_false,if_false,Op.intBits];rfl,by unfold Rel;rfl⟩
 case eql=>simp only [arith,Option.some.injEq] at h;subst h;exact ⟨by simp,_,by simp [binOp,Op.intCmp];rfl,by unfold Rel;rw [qGn]⟩
 case neq=>simp only [arith,Option.some.injEq] at h;subst h;exact ⟨by simp,_,by simp [binOp,Op.intCmp];rfl,by unfold Rel;rw [qGn];rfl⟩
 case lss=>simp only [arith,Option.some.injEq] at h;subst h;exact ⟨by simp,_,by simp [binOp,Op.intCmp];rfl,by unfold Rel;rw [qIZ]⟩
 case leq=>simp only [arith,Option.some.injEq] at h;subst h;exact ⟨by simp,_,by simp [binOp,Op.intCmp];rfl,by unfold Rel;rw [qIZ];congr 1;rw [Bool.eq_iff_iff];simp⟩
 case gtr=>simp only [arith,Option.some.injEq] at h;subst h;exact ⟨by simp,_,by simp [binOp,Op.intCmp];rfl,by unfold Rel;rw [qIZ]⟩
 case geq=>simp only [arith,Option.some.injEq] at h;subst h;exact ⟨by simp,_,by simp [binOp,Op.intCmp];rfl,by unfold Rel;rw [qIZ];congr 1;rw [Bool.eq_iff_iff];simp⟩
 case shl=>simp [arith] at h
 case shr=>simp [arith] at h
theorem qQO {op:BinOp} {k k':IntKind} {x y:Int} {v:AV} (h:qMs op k x y=some v) (t:TypeId) (w:World) :
  ∃ v',(binOp op t (.int k x) (.int k' y)).run P w=.ok v' w∧Rel σ ρ v v':=by
 cases y with
 | negSucc m=>simp [qMs] at h
 | ofNat m=>
   have h0:¬ (Int.ofNat m < 0):=by simp
   cases op <;> simp only [qMs,qDL,qCH] at h <;> first | (cases h;done) | skip
   ·simp only [Option.some.injEq] at h;subst h
    exact ⟨_,by simp only [binOp,Op.shift,h0,if_false];rfl,by unfold Rel;simp [Int.natCast_pow]⟩
   ·simp only [Option.some.injEq] at h;subst h
    exact ⟨_,by simp only [binOp,Op.shift,h0,if_false];rfl,by unfold Rel;simp [Int.natCast_pow]⟩
theorem qU9 {x:AV} {v:Value} (h:Rel σ ρ x v) (h1:x≠.nilIface) (h2:∀ cs,x≠.agg cs) (h3:∀ i,x≠.opq i):v≠.nilIface∧∀ cs,v≠.agg cs:=by
 cases x <;> unfold Rel at h <;> first
  | exact absurd rfl h1
  | exact absurd rfl (h2 _)
  | exact absurd rfl (h3 _)
  | (subst h;exact ⟨by simp,by simp⟩)
  | (obtain ⟨_,_,rfl⟩:=h;exact ⟨by simp,by simp⟩)
  | (obtain ⟨_,_,_,_,rfl,_⟩:=h;exact ⟨by simp,by simp⟩)
  | (obtain ⟨_,_,rfl,_⟩:=h;exact ⟨by simp,by simp⟩)
  | (obtain ⟨_,rfl,_⟩:=h;exact ⟨by simp,by simp⟩)
theorem qIK {op:BinOp} {t:TypeId} {x y:Operand} {a b:Value} (w:World)
  (h:(match a,b with
   | .nilIface,.nilIface=>(x matches .const _)||(y matches .const _)
   | .agg _,.agg _=>!P.eqGuardType P.depth t
   | _,_=>true)=true):(eqGuard op t x y a b).run P w=.ok () w:=by
 unfold eqGuard
 cases op <;> simp only [Bool.not_true,Bool.not_false,Bool.false_eq_true,if_false,if_true] <;> first | rfl | skip
 all_goals
  split
  ·cases x <;> cases y <;> first | (simp at h;done) | rfl
  ·have hg:P.eqGuardType P.depth t=false:=by simpa using h
   simp [hg]
  ·rfl
theorem qOD {op:BinOp} {t:TypeId} {x y:Operand} {a b:Value} (w:World)
  (h:(a≠.nilIface∧∀ cs,a≠.agg cs)∨(b≠.nilIface∧∀ cs,b≠.agg cs)):(eqGuard op t x y a b).run P w=.ok () w:=by
 refine qIK w ?_
 split
 ·rcases h with h | h <;> exact absurd rfl h.1
 ·rcases h with h | h <;> exact absurd rfl (h.2 _)
 ·rfl
theorem qNR {x:AV} {v:Value} (hp:qNH x=true) (h:Rel σ ρ x v):v≠.nilIface∧∀ cs,v≠.agg cs:=
 qU9 h (λe=>by subst e;simp [qNH] at hp) (λ_ e=>by subst e;simp [qNH] at hp) (λ_ e=>by subst e;simp [qNH] at hp)
theorem qQu {op:BinOp} {t:TypeId} {x y:Operand} {a b:AV} {a' b':Value} (h:qCY P t x y a b=true) (ha:Rel σ ρ a a') (hb:Rel σ ρ b b') (w:World) :
  (eqGuard op t x y a' b').run P w=.ok () w:=by
 unfold qCY at h
 split at h
 ·unfold Rel at ha hb;subst ha;subst hb
  exact qIK w h
 ·unfold Rel at ha hb
  obtain ⟨xs,rfl,_⟩:=ha
  obtain ⟨ys,rfl,_⟩:=hb
  exact qIK w h
 ·rw [Bool.or_eq_true] at h
  exact qOD w (h.imp (λh=>qNR h ha) (λh=>qNR h hb))
def shape:Value→Bool
 | .int _ _ | .float _ _ | .complex _ _ _ | .string _=>false
 | _=>true
theorem qY8 (t:TypeId) (a b:Value) (h:shape a=true):binOp .eql t a b=(do pure (.bool (← Op.equal t a b))):=by
 cases a <;> first | (simp [shape] at h;done) | rfl
theorem qZc (t:TypeId) (a b:Value) (h:shape a=true):binOp .neq t a b=(do pure (.bool (!(← Op.equal t a b)))):=by
 cases a <;> first | (simp [shape] at h;done) | rfl
theorem qVS {x:AV} {v:Value} (h:Rel σ ρ x v) (h1:∀ k n,x≠.int k n) (h2:∀ s,x≠.str s) (h3:∀ i,x≠.opq i):shape v=true:=by
 cases x <;> unfold Rel at h <;> first
  | exact absurd rfl (h1 _ _)
  | exact absurd rfl (h2 _)
  | exact absurd rfl (h3 _)
  | (subst h;rfl)
  | (obtain ⟨_,_,rfl⟩:=h;rfl)
  | (obtain ⟨_,_,_,_,rfl,_⟩:=h;rfl)
  | (obtain ⟨_,_,rfl,_⟩:=h;rfl)
  | (obtain ⟨_,rfl,_⟩:=h;rfl)
theorem qZs {d:Nat} {t:TypeId} {k:IntKind} {n:Int} {y:AV} {b:Bool} (h:aEq P d t (.int k n) y=some b):∃ k' m,y=.int k' m:=by
 cases d with
 | zero=>simp [aEq] at h
 | succ d=>
   unfold aEq at h
   split at h <;> first | exact ⟨_,_,rfl⟩ | (simp at h;done) | (rename_i h1;simp at h1;done) | skip
   all_goals simp_all
theorem qYn {d:Nat} {t:TypeId} {s:ByteArray} {y:AV} {b:Bool} (h:aEq P d t (.str s) y=some b):∃ s',y=.str s'∧b=(s == s'):=by
 cases d with
 | zero=>simp [aEq] at h
 | succ d=>
   unfold aEq at h
   split at h <;> simp_all
theorem qZL {d:Nat} {t:TypeId} {i:Nat} {y:AV} {b:Bool} (h:aEq P d t (.opq i) y=some b):False:=by
 cases d with
 | zero=>simp [aEq] at h
 | succ d=>
   unfold aEq at h
   split at h <;> simp_all
theorem qYW {t:TypeId} {a b:AV} {r:Bool} {a' b':Value} (h:aEq P 30 t a b=some r) (hne:∀ k m k' n,a=.int k m→b≠.int k' n) (ha:Rel σ ρ a a') (hb:Rel σ ρ b b') (w:World) :
  (binOp .eql t a' b').run P w=.ok (.bool r) w∧(binOp .neq t a' b').run P w=.ok (.bool !r) w:=by
 by_cases hs:∃ s,a=.str s
 ·obtain ⟨s,rfl⟩:=hs
  obtain ⟨s',rfl,rfl⟩:=qYn h
  unfold Rel at ha hb;subst ha;subst hb
  simp [binOp,Op.stringOp,beq_toListBytes]
 ·have hsh:shape a'=true:=qVS ha
   (λk n e=>by subst e;obtain ⟨k',m,rfl⟩:=qZs h;exact hne _ _ _ _ rfl rfl)
   (λs e=>hs ⟨s,e⟩) (λi e=>by subst e;exact qZL h)
  have hq:(Op.equal t a' b').run P w=.ok r w:=qUZ 30 t a b r a' b' h ha hb 10000 (by decide) w
  rw [qY8 _ _ _ hsh,qZc _ _ _ hsh]
  simp [hq]
theorem qTI {op:BinOp} {t:TypeId} {x y:Operand} {a b:AV} (hii:¬ ∃ k m k' n,a=.int k m∧b=.int k' n):binA P op t x y a b=match op with
   | .eql=>cond (qCY P t x y a b) ((aEq P 30 t a b).map .bool) none
   | .neq=>cond (qCY P t x y a b) ((aEq P 30 t a b).map λr=>.bool !r) none
   | _=>none:=by
 unfold binA
 split
 ·exact absurd ⟨_,_,_,_,rfl,rfl⟩ hii
 ·rfl
theorem qX3 {op:BinOp} {t:TypeId} {x y:Operand} {a b v:AV} {a' b':Value} (h:binA P op t x y a b=some v) (ha:Rel σ ρ a a') (hb:Rel σ ρ b b') (w:World) :
  ∃ v',(do eqGuard op t x y a' b';binOp op t a' b':Sem Value).run P w=.ok v' w∧Rel σ ρ v v':=by
 by_cases hii:∃ k m k' n,a=.int k m∧b=.int k' n
 ·obtain ⟨k,m,k',n,rfl,rfl⟩:=hii
  have hg:(eqGuard op t x y a' b').run P w=.ok () w:=qOD w (.inl (qNR rfl ha))
  unfold Rel at ha hb;subst ha;subst hb
  simp only [binA] at h
  have key:∃ v',(binOp op t (.int k m) (.int k' n)).run P w=.ok v' w∧Rel σ ρ v v':=by
   split at h
   ·exact qQO h t w
   ·exact qQO h t w
   ·have hc:=qAY h
    clear h
    obtain ⟨hk,h⟩:=hc
    replace hk:=qLZ hk;subst hk
    exact (qVB h t w).2
  obtain ⟨v',e,r⟩:=key
  exact ⟨v',by simp [hg,e],r⟩
 ·have hne:∀ k m k' n,a=.int k m→b≠.int k' n:=λk m k' n e1 e2=>hii ⟨k,m,k',n,e1,e2⟩
  rw [qTI hii] at h
  split at h
  ·obtain ⟨hg,h⟩:=qAY h
   simp only [Option.map_eq_some_iff] at h
   obtain ⟨r,hr,rfl⟩:=h
   exact ⟨.bool r,by simp [qQu hg ha hb w,(qYW hr hne ha hb w).1],by unfold Rel;rfl⟩
  ·obtain ⟨hg,h⟩:=qAY h
   simp only [Option.map_eq_some_iff] at h
   obtain ⟨r,hr,rfl⟩:=h
   exact ⟨.bool !r,by simp [qQu hg ha hb w,(qYW hr hne ha hb w).2],by unfold Rel;rfl⟩
  ·cases h
theorem qUa {op:UnOp} {x v:AV} {x':Value} (h:qBd op x=some v) (hx:Rel σ ρ x x') (w:World):∃ v',(Op.unary op x').run P w=.ok v' w∧Rel σ ρ v v':=by
 unfold qBd at h
 split at h
 ·unfold Rel at hx;subst hx
  simp only [arith,qDL,qCH,Option.some.injEq] at h;subst h
  exact ⟨_,by simp [Op.unary,Op.intArith];rfl,by unfold Rel;simp⟩
 ·unfold Rel at hx;subst hx
  cases h
  exact ⟨_,by simp [Op.unary];rfl,by unfold Rel;rfl⟩
 ·unfold Rel at hx;subst hx
  simp only [arith,qDL,qCH,Option.some.injEq] at h;subst h
  exact ⟨_,by simp only [Op.unary,Op.intBits];rfl,by unfold Rel;rfl⟩
 ·cases h
theorem qRm {s d:TypeId} {x v:AV} {x':Value} (h:qF1 P s d x=some v) (hx:Rel σ ρ x x') (w:World):∃ v',(convert s d x').run P w=.ok v' w∧Rel σ ρ v v':=by
 unfold qF1 at h
 split at h
 ·rename_i h1 h2
  unfold Rel at hx;subst hx
  simp only [qDL,qCH,Option.some.injEq] at h;subst h
  exact ⟨_,by simp [convert,run_underlying h1,run_underlying h2,Conv.intToInt];rfl,by unfold Rel;rfl⟩
 ·rename_i h1 h2
  unfold Rel at hx;subst hx
  cases h
  exact ⟨_,by simp [convert,run_underlying h1,run_underlying h2];rfl,by unfold Rel;rfl⟩
 ·cases h
theorem qDK (B k i:Nat):(⟨B,k,none⟩:Addr).add i=⟨B,k+i,none⟩:=by
 unfold Addr.add
 split
 ·rename_i h;subst h;rfl
 ·rfl
theorem qPD {s:TypeId} {x v:AV} {f:Nat} {x':Value} (h:qDG P s x f=some v) (hx:Rel σ ρ x x') (w:World):∃ v',(Instr.fieldAt s x' f).run P w=.ok v' w∧Rel σ ρ v v':=by
 unfold qDG at h
 split at h
 ·rename_i fields b o hu
  split at h
  ·rename_i fd hf
   split at h
   ·rename_i n hs
    simp only [qA6,Option.some.injEq] at h;subst h
    unfold Rel at hx
    obtain ⟨L,hL,rfl⟩:=hx
    refine ⟨.pointer (some ⟨L.blk,L.sh+o+fd.offset,none⟩),?_,?_⟩
    ·simp [Instr.fieldAt,run_underlying hu,hf,Instr.sureAddr,fieldPlace,qDk hs,qDK]
    ·unfold Rel;exact ⟨L,hL,by rw [Nat.add_assoc]⟩
   ·cases h
  ·cases h
 ·cases h
theorem qWF {s:TypeId} {x v:AV} {f:Nat} {x':Value} (h:qOc P s x f=some v) (hx:Rel σ ρ x x') (w:World):∃ v',(Instr.field s x' f).run P w=.ok v' w∧Rel σ ρ v v':=by
 unfold qOc at h
 split at h
 ·rename_i fields cs hu
  split at h
  ·rename_i fd hf
   unfold Rel at hx
   obtain ⟨cs',rfl,hx⟩:=hx
   obtain ⟨v',e,r⟩:=qF3 h hx w
   exact ⟨v',by simp [Instr.field,run_underlying hu,hf,asAgg,e],r⟩
  ·cases h
 ·cases h
theorem nat?_rel {x:AV} {n:Nat} {x':Value} (h:nat? x=some n) (hx:Rel σ ρ x x'):∃ k,x'=.int k (n:Int):=by
 unfold nat? at h
 split at h
 ·cases h;unfold Rel at hx;exact ⟨_,hx⟩
 ·cases h
theorem qPU {t:TypeId} {x i v:AV} {x' i':Value} (h:qDe P t x i=some v) (hx:Rel σ ρ x x') (hi:Rel σ ρ i i') (w:World) :
  ∃ v',(Instr.indexAt t x' i').run P w=.ok v' w∧Rel σ ρ v v':=by
 unfold qDe at h
 split at h
 ·rename_i len elem b o n hu hn
  obtain ⟨k,rfl⟩:=nat?_rel hn hi
  split at h
  ·rename_i c hs
   obtain ⟨hlt,h⟩:=qAY h
   simp only [qA6,Option.some.injEq] at h;subst h
   have hlt:n < len:=by simpa [Nat.blt_eq] using hlt
   unfold Rel at hx
   obtain ⟨L,hL,rfl⟩:=hx
   refine ⟨.pointer (some ⟨L.blk,L.sh+o+n * c,none⟩),?_,?_⟩
   ·have h2:¬ len≤n:=by omega
    have hlt':n < len:=by omega
    simp [Instr.indexAt,asIntOf,run_underlying hu,Instr.sureAddr,qDk hs,hlt',qDK]
   ·unfold Rel;exact ⟨L,hL,by rw [Nat.add_assoc]⟩
  ·cases h
 ·rename_i elem b o len cap es n hu hn
  obtain ⟨k,rfl⟩:=nat?_rel hn hi
  split at h
  ·rename_i c hs
   obtain ⟨hlt,h⟩:=qAY h
   simp only [qA6,Option.some.injEq] at h;subst h
   rw [Bool.and_eq_true] at hlt
   have hlt1:n < len:=by simpa [Nat.blt_eq] using hlt.1
   unfold Rel at hx
   obtain ⟨L,a,cc,hL,rfl,hoff,hcap,_⟩:=hx
   have hoff:a=⟨L.blk,L.sh+o,none⟩:=by rcases hoff with h | h;exact h.1;omega
   subst hoff
   refine ⟨.pointer (some ⟨L.blk,L.sh+o+n * c,none⟩),?_,?_⟩
   ·have h2:¬ len≤n:=by omega
    have hlt':n < len:=by omega
    simp [Instr.indexAt,asIntOf,run_underlying hu,qDk hs,hlt',qDK]
   ·unfold Rel;exact ⟨L,hL,by rw [Nat.add_assoc]⟩
  ·cases h
 ·cases h
theorem qVR {t:TypeId} {x i v:AV} {x' i':Value} (h:qLK P t x i=some v) (hx:Rel σ ρ x x') (hi:Rel σ ρ i i') (w:World) :
  ∃ v',(Instr.index t x' i').run P w=.ok v' w∧Rel σ ρ v v':=by
 unfold qLK at h
 split at h
 ·rename_i len elem cs n hu hn
  obtain ⟨k,rfl⟩:=nat?_rel hn hi
  split at h
  ·rename_i c hs
   obtain ⟨hlt,h⟩:=qAY h
   have hlt:n < len:=by simpa [Nat.blt_eq] using hlt
   unfold Rel at hx
   obtain ⟨cs',rfl,hx⟩:=hx
   obtain ⟨v',e,r⟩:=qF3 h hx w
   have hlt':n < len:=by omega
   exact ⟨v',by simp [Instr.index,asIntOf,run_underlying hu,qDk hs,hlt',e],r⟩
  ·cases h
 ·rename_i s n hu hn
  obtain ⟨k,rfl⟩:=nat?_rel hn hi
  unfold Rel at hx;subst hx
  split at h
  ·rename_i c hc
   simp only [qA6,Option.some.injEq] at h;subst h
   exact ⟨.int .u8 (c.toNat:Int),by simp [Instr.index,asIntOf,run_underlying hu,hc],by unfold Rel;rfl⟩
  ·cases h
 ·cases h
theorem qPk {t:TypeId} {x v:AV} {x':Value} (h:qF9 P t x=some v) (hx:Rel σ ρ x x') (w:World):∃ v',(Instr.makeInterface t x').run P w=.ok v' w∧Rel σ ρ v v':=by
 unfold qF9 at h
 split at h
 ·cases h
 ·rename_i d hni hu
  cases h
  refine ⟨.iface t x',?_,by unfold Rel;exact ⟨x',rfl,hx⟩⟩
  simp only [Instr.makeInterface,Sem.run_bind,run_underlying hu,Result.andThen_ok]
  cases d <;> first | exact absurd rfl (hni _) | rfl
 ·cases h
theorem qRQ {x v:AV} {i:Nat} {x':Value} (h:qAN x i=some v) (hx:Rel σ ρ x x') (w:World):∃ v',(Instr.extract x' i).run P w=.ok v' w∧Rel σ ρ v v':=by
 unfold qAN at h
 split at h
 ·unfold Rel at hx
  obtain ⟨cs,rfl,hx⟩:=hx
  obtain ⟨y,hy,r⟩:=hx.get i v h
  have hy':cs[i]?=some y:=by rw [← Array.getElem?_toList];exact hy
  exact ⟨y,by simp [Instr.extract,hy'],r⟩
 ·cases h
theorem qN8 {x v:AV} {xt as_:TypeId} {ok:Bool} {x':Value} (h:qEA P x as_ ok=some v) (hx:Rel σ ρ x x') (w:World) :
  ∃ v',(Instr.typeAssert x' xt as_ ok).run P w=.ok v' w∧Rel σ ρ v v':=by
 have zeroCase:∀ z,qEp P as_=some z→∃ zv,(∀ w,(zeroValue as_).run P w=.ok zv w)∧Rel σ ρ (.tup [z,.bool false]) (.tuple #[zv,.bool false]):=by
  intro z hz
  obtain ⟨zv,e,r⟩:=qLN hz
  refine ⟨zv,e,?_⟩
  unfold Rel
  exact ⟨_,rfl,.cons (r σ ρ) (.cons (by unfold Rel;rfl) .nil)⟩
 unfold qEA at h
 split at h
 ·cases h
 ·rename_i d t y hni hu
  unfold Rel at hx
  obtain ⟨y',rfl,hy⟩:=hx
  have hd:∀ ms,d≠.interface ms:=λms e=>hni ms e
  cases hb:Nat.beq t as_ with
  | true=>
    have:t=as_:=bE hb
    subst this
    simp only [hb,cond_true,Option.some.injEq] at h
    cases ok with
    | true=>
      simp only [cond_true] at h;subst h
      refine ⟨.tuple #[y',.bool true],?_,by unfold Rel;exact ⟨_,rfl,.cons hy (.cons (by unfold Rel;rfl) .nil)⟩⟩
      simp only [Instr.typeAssert,Sem.run_bind,run_underlying hu,Result.andThen_ok]
      cases d <;> first | exact absurd rfl (hd _) | simp
    | false=>
      simp only [cond_false] at h;subst h
      refine ⟨y',?_,hy⟩
      simp only [Instr.typeAssert,Sem.run_bind,run_underlying hu,Result.andThen_ok]
      cases d <;> first | exact absurd rfl (hd _) | simp
  | false=>
    have hne:¬ t=as_:=λe=>by subst e;rw [Nat.beq_refl] at hb;cases hb
    simp only [hb,cond_false] at h
    obtain ⟨hok,h⟩:=qAY h
    subst hok
    split at h
    ·rename_i z hz
     cases h
     obtain ⟨zv,e,r⟩:=zeroCase z hz
     refine ⟨_,?_,r⟩
     simp only [Instr.typeAssert,Sem.run_bind,run_underlying hu,Result.andThen_ok]
     cases d <;> first | exact absurd rfl (hd _) | simp [hne,e]
    ·cases h
 ·rename_i d hni hu
  unfold Rel at hx;subst hx
  have hd:∀ ms,d≠.interface ms:=λms e=>hni ms e
  obtain ⟨hok,h⟩:=qAY h
  subst hok
  split at h
  ·rename_i z hz
   cases h
   obtain ⟨zv,e,r⟩:=zeroCase z hz
   refine ⟨_,?_,r⟩
   simp only [Instr.typeAssert,Sem.run_bind,run_underlying hu,Result.andThen_ok]
   cases d <;> first | exact absurd rfl (hd _) | simp [e]
  ·cases h
 ·cases h
end
end Go.AM
namespace Go.AM
open Go Go.RowKit
section
variable {P:Program} {σ:Nat→Value} {ρ:Ren}
inductive ORel (σ:Nat→Value) (ρ:Ren):Option AV→Option Value→Prop
 | none:ORel σ ρ none none
 | some {x v} (h:Rel σ ρ x v):ORel σ ρ (some x) (some v)
theorem qFW {x:Option AV} {x':Option Value} {d y n:Nat} (h:bound x d y=some n) (hx:ORel σ ρ x x') :
  (x=none∧x'=none∧n=d)∨∃ k,x.isSome=true∧x'=some (.int k (n:Int))∧n≤y:=by
 cases hx with
 | none=>simp [bound] at h;exact .inl ⟨rfl,rfl,h.symm⟩
 | some hr=>
   simp only [bound] at h
   split at h
   ·rename_i m hm
    have hc:=qAY h
    obtain ⟨hle,hh⟩:=hc
    cases hh
    obtain ⟨k,rfl⟩:=nat?_rel hm hr
    exact .inr ⟨k,rfl,rfl,by simpa [Nat.ble_eq] using hle⟩
   ·cases h
theorem sb {i y:Nat} (k:IntKind) (h:i≤y) (code:BoundsCode) (w:World):(Instr.sliceBound (.int k (i:Int)) y code).run P w=.ok i w:=by
 have:=run_sliceBound (P:=P) w k (i:Int) y code (by omega) (by omega)
 simpa using this
theorem qGV {lo hi mx:Option AV} {lo' hi' mx':Option Value} (hlo:ORel σ ρ lo lo') (hhi:ORel σ ρ hi hi') (hmx:ORel σ ρ mx mx') {b:Bool} {len c dm y m h l:Nat}
  (e1:bound mx dm y=some m) (hy:y≤c) (hdm:mx=none→m≤c) (e2:bound hi len m=some h) (e3:bound lo 0 h=some l) (hg:(mx.isNone||hi.isSome)=true) (w:World) :
  (Instr.sliceBounds b len c lo' hi' mx').run P w=.ok (l,h,if mx.isNone then c else m) w:=by
 rcases qFW e1 hmx with ⟨rfl,rfl,hm⟩ | ⟨km,hms,rfl,hm⟩
 ·have hmc:=hdm rfl
  rcases qFW e2 hhi with ⟨rfl,rfl,hh⟩ | ⟨kh,_,rfl,hh⟩
  ·subst hh
   rcases qFW e3 hlo with ⟨rfl,rfl,hl⟩ | ⟨kl,_,rfl,hl⟩
   ·subst hl;simp [Instr.sliceBounds]
   ·simp [Instr.sliceBounds,sb kl hl]
  ·have hhc:h≤c:=by omega
   rcases qFW e3 hlo with ⟨rfl,rfl,hl⟩ | ⟨kl,_,rfl,hl⟩
   ·subst hl;simp [Instr.sliceBounds,sb kh hhc]
   ·simp [Instr.sliceBounds,sb kh hhc,sb kl hl]
 ·obtain ⟨mv,rfl⟩:=Option.isSome_iff_exists.1 hms
  have hhs:hi.isSome=true:=by simpa using hg
  have hmc:m≤c:=by omega
  rcases qFW e2 hhi with ⟨rfl,_,_⟩ | ⟨kh,_,rfl,hh⟩
  ·cases hhs
  ·rcases qFW e3 hlo with ⟨rfl,rfl,hl⟩ | ⟨kl,_,rfl,hl⟩
   ·subst hl;simp [Instr.sliceBounds,sb km hmc,sb kh hh]
   ·simp [Instr.sliceBounds,sb km hmc,sb kh hh,sb kl hl]
theorem qGr {x:Option AV} {d y n:Nat} (h:bound x d y=some n):n≤d∨n≤y:=by
 cases x with
 | none=>simp [bound] at h;omega
 | some x=>
   simp only [bound] at h
   split at h
   ·obtain ⟨hle,hh⟩:=qAY h;cases hh;right;simpa [Nat.ble_eq] using hle
   ·cases h
theorem qQ0 {t:TypeId} {x v:AV} {lo hi mx:Option AV} {x':Value} {lo' hi' mx':Option Value} (hh:qMn P t x lo hi mx=some v) (hx:Rel σ ρ x x')
  (hlo:ORel σ ρ lo lo') (hhi:ORel σ ρ hi hi') (hmx:ORel σ ρ mx mx') (w:World)
  (hsz:∀ n elem b o L es,P.underlying t=some (.array n elem)→x=.ptr b o→ρ b=some L→sz P elem=some es→L.sh+o+n * es≤L.sz) :
  ∃ v',(Instr.sliceAt t x' lo' hi' mx').run P w=.ok v' w∧Rel σ ρ v v':=by
 unfold qMn at hh
 split at hh
 ·rename_i n elem b o hu
  split at hh
  ·rename_i es m hs e1
   split at hh
   ·rename_i h e2
    split at hh
    ·rename_i l e3
     obtain ⟨hg,hh⟩:=qAY hh
     simp only [qA6,Option.some.injEq] at hh;subst hh
     unfold Rel at hx
     obtain ⟨L,hL,rfl⟩:=hx
     have hb:=qGV (P:=P) hlo hhi hmx (b:=false) (len:=n) e1 (Nat.le_refl n) (λhn=>by subst hn;simp [bound] at e1;omega) e2 e3 hg w
     have hmn:(if mx.isNone=true then n else m)=m:=by
      split
      ·rename_i hn
       cases mx with
       | none=>simp [bound] at e1;exact e1
       | some _=>cases hn
      ·rfl
     rw [hmn] at hb
     have hm:m≤n:=by rcases qGr e1 with h | h <;> exact h
     have hhm:h≤m∨h≤n:=by rcases qGr e2 with h | h <;> omega
     have hhm':h≤m:=by
      cases hi with
      | none=>
        simp [bound] at e2
        cases mx with
        | none=>simp [bound] at e1;omega
        | some _=>simp at hg
      | some hv=>rcases qFW (σ:=σ) (ρ:=ρ) e2 hhi with ⟨h1,_⟩ | ⟨_,_,_,h1⟩;cases h1;exact h1
     have hlh:l≤h:=by rcases qGr e3 with h | h <;> omega
     have hz:=hsz n elem b o L es hu rfl hL hs
     refine ⟨.slice (some (if m=l then ⟨L.blk,L.sh+o,none⟩ else (⟨L.blk,L.sh+o,none⟩:Addr).add (l * es))) (h - l) (m - l),?_,?_⟩
     ·simp [Instr.sliceAt,run_underlying hu,Instr.sureAddr,hb,qDk hs]
     ·unfold Rel
      have hmul:l * es≤n * es:=Nat.mul_le_mul_right _ (by omega)
      have hmul2:l * es+(m - l) * es=m * es:=by rw [← Nat.add_mul];congr 1;omega
      have hmul3:m * es≤n * es:=Nat.mul_le_mul_right _ hm
      split
      ·rename_i hml
       exact ⟨L,_,_,hL,rfl,.inr ⟨by omega,by omega⟩,by omega,λk hk=>by cases hk;rfl⟩
      ·rw [qDK]
       exact ⟨L,_,_,hL,rfl,.inl ⟨by rw [Nat.add_assoc],by omega⟩,by omega,λk hk=>by cases hk;rfl⟩
    ·cases hh
   ·cases hh
  ·cases hh
 ·rename_i elem b o len cap es hu
  split at hh
  ·rename_i es' m hs e1
   split at hh
   ·rename_i h e2
    split at hh
    ·rename_i l e3
     have hcc:=qAY hh
     clear hh
     obtain ⟨hg,hh⟩:=hcc
     rw [Bool.and_eq_true] at hg
     have hes:es=es':=bE hg.2
     subst hes
     simp only [qA6] at hh
     unfold Rel at hx
     obtain ⟨L,a,c,hL,rfl,hoff,hlc,hcap⟩:=hx
     have hcl:cap.getD len≤c:=by
      cases cap with
      | none=>exact hlc
      | some c'=>rw [hcap c' rfl];exact Nat.le_refl _
     have hb:=qGV (P:=P) hlo hhi hmx (b:=true) (len:=len) e1 hcl (λhn=>by subst hn;simp [bound] at e1;omega) e2 e3 hg.1 w
     have hm:m≤cap.getD len:=by rcases qGr e1 with h | h <;> exact h
     have hhm':h≤m∨(h=len∧cap.getD len=m):=by
      cases hi with
      | none=>
        simp [bound] at e2
        cases mx with
        | none=>simp [bound] at e1;right;exact ⟨e2.symm,e1⟩
        | some _=>simp at hg
      | some hv=>rcases qFW (σ:=σ) (ρ:=ρ) e2 hhi with ⟨h1,_⟩ | ⟨_,_,_,h1⟩;cases h1;exact .inl h1
     have hll:len≤cap.getD len:=by
      cases cap with
      | none=>exact Nat.le_refl _
      | some c'=>rw [hcap c' rfl] at hlc;exact hlc
     have hlh:l≤h:=by rcases qGr e3 with h | h <;> omega
     generalize hM:(if mx.isNone=true then c else m)=M at hb
     have hMc:M≤c:=by rw [← hM];split <;> omega
     have hhM:h≤M:=by rw [← hM];split <;> omega
     have hmul2:l * es+(M - l) * es=M * es:=by rw [← Nat.add_mul];congr 1;omega
     have hmul3:M * es≤c * es:=Nat.mul_le_mul_right _ hMc
     have hmul4:l * es≤M * es:=Nat.mul_le_mul_right _ (by omega)
     refine ⟨.slice (if M=l then some a else some (a.add (l * es))) (h - l) (M - l),?_,?_⟩
     ·simp [Instr.sliceAt,Instr.slice,run_underlying hu,hb,qDk hs]
     ·have hv:∃ q,v=.slc b (o+l * es) (h - l) q es∧∀ k,q=some k→M - l=k:=by
       cases cap with
       | none=>
         cases mx with
         | none=>exact ⟨none,(Option.some.inj hh).symm,λk hk=>by cases hk⟩
         | some mv=>refine ⟨some (m - l),(Option.some.inj hh).symm,λk hk=>?_⟩;cases hk;rw [← hM];simp
       | some c'=>
         refine ⟨some (m - l),by cases mx <;> exact (Option.some.inj hh).symm,λk hk=>?_⟩
         cases hk
         have hcc:=hcap c' rfl
         rw [← hM]
         split
         ·rename_i hn
          cases mx with
          | none=>simp [bound] at e1;omega
          | some _=>cases hn
         ·rfl
      obtain ⟨q,rfl,hq⟩:=hv
      unfold Rel
      split
      ·rename_i hml
       exact ⟨L,a,_,hL,rfl,.inr ⟨by omega,by omega⟩,by omega,hq⟩
      ·rcases hoff with ⟨rfl,hoc⟩ | ⟨_,h0⟩
       ·rw [qDK]
        exact ⟨L,_,_,hL,rfl,.inl ⟨by rw [Nat.add_assoc],by omega⟩,by omega,hq⟩
       ·omega
    ·cases hh
   ·cases hh
  ·cases hh
 ·rename_i elem hu
  split at hh
  ·rename_i l h m e3 e2 e1
   obtain ⟨hg,hh⟩:=qAY hh
   rw [Bool.and_eq_true] at hg
   cases hh
   unfold Rel at hx;subst hx
   have hm0:m=0:=by rcases qGr e1 with h | h <;> omega
   have hh0:h=0:=by rcases qGr e2 with h | h <;> omega
   have hl0:l=0:=by rcases qGr e3 with h | h <;> omega
   subst hm0;subst hh0;subst hl0
   have hb:=qGV (P:=P) hlo hhi hmx (b:=true) (len:=0) (c:=0) e1 (Nat.le_refl 0) (λ_=>Nat.le_refl 0) e2 e3 hg.1 w
   have:(if mx.isNone=true then 0 else 0)=0:=by split <;> rfl
   rw [this] at hb
   obtain ⟨i,hi'⟩:=Option.isSome_iff_exists.1 hg.2
   refine ⟨.slice none 0 0,?_,by unfold Rel;rfl⟩
   simp [Instr.sliceAt,Instr.slice,run_underlying hu,hb,sizeOf,typeInfo,hi']
  ·cases hh
 ·cases hh
end
end Go.AM
namespace Go.AM
open Go Go.RowKit
section
variable {P:Program} {σ:Nat→Value} {ρ:Ren} {base:Nat} {H H':AH} {w:World}
def Okay (σ:Nat→Value) (ρ:Ren) (base:Nat) (H H':AH) (w:World) {β:Type} (R:Ren→β→Prop) (r:Result β):Prop:=
 ∃ b w' ρ',r=.ok b w'∧Ext ρ ρ' H.next H'.next∧WR σ ρ' base H' w'∧Below base w w'∧R ρ' b
theorem Okay.same {β:Type} {R:Ren→β→Prop} {r:Result β} {b:β} (hr:r=.ok b w) (hwr:WR σ ρ base H w) (hb:H'.blks=H.blks) (hl:H'.lo=H.lo) (h:R ρ b):Okay σ ρ base H H' w R r:=
 ⟨b,w,ρ,hr,.refl _ _ _,hwr.log hb hl,.refl _ _,h⟩
theorem qCL {id:Nat} {b:ABlk} (h:rd id H=some (b,H')):H.blks.get id=some b∧H'.blks=H.blks∧H'.lo=H.lo∧H'.next=H.next:=by
 unfold rd at h
 split at h
 ·cases h
 ·rename_i b' hb;cases h;exact ⟨hb,rfl,rfl,rfl⟩
theorem qG1 {id:Nat} {b:ABlk} {u:Unit} (h:wr id b H=some (u,H')):H.lo≤id∧(∃ b0,H.blks.get id=some b0)∧(∀ j,H'.blks.get j=if id=j then some b else H.blks.get j)∧H'.lo=H.lo∧H'.next=H.next:=by
 unfold wr at h
 have hc:=qAY h
 clear h
 obtain ⟨hlo,h⟩:=hc
 split at h
 ·cases h
 ·rename_i b0 hb;cases h
  exact ⟨by simpa [Nat.ble_eq] using hlo,⟨b0,hb⟩,λj=>Tr.get_put _ _ _ _,rfl,rfl⟩
theorem qV0 {id:Nat} {u:Unit} (h:kill id H=some (u,H')):H.lo≤id∧(∃ b0,H.blks.get id=some b0)∧(∀ j,H'.blks.get j=if id=j then none else H.blks.get j)∧H'.lo=H.lo∧H'.next=H.next:=by
 unfold kill at h
 have hc:=qAY h
 clear h
 obtain ⟨hlo,h⟩:=hc
 split at h
 ·cases h
 ·rename_i b0 hb;cases h
  exact ⟨by simpa [Nat.ble_eq] using hlo,⟨b0,hb⟩,λj=>Tr.get_put _ _ _ _,rfl,rfl⟩
theorem qLY {b:ABlk} {n:Nat} (h:nw b H=some (n,H')):n=H.next∧H.lo≤H.next∧(∀ j,H'.blks.get j=if H.next=j then some b else H.blks.get j)∧H'.lo=H.lo∧H'.next=H.next+1:=by
 unfold nw at h
 rw [qA6] at h
 have hc:=qAY h
 clear h
 obtain ⟨hlo,h⟩:=hc
 cases h
 exact ⟨rfl,by simpa [Nat.ble_eq] using hlo,λj=>Tr.get_put _ _ _ _,rfl,rfl⟩
theorem qKb {B:Nat} {cc:Array Value} {e:TypeId} {fr:Nat × Nat} (h:w.heap[B]?=some (.cells cc e fr)) (k:Nat):w.cell? ⟨B,k,none⟩=cc[k]?:=by
 simp [World.cell?,h]
theorem qUb {B:Nat} {cc:Array Value} {e:TypeId} (h:w.heap[B]?=some (.cells cc e (0,0))) (k:Nat):w.frozen? ⟨B,k,none⟩=false:=by
 simp [World.frozen?,h]
theorem qR0 {B k:Nat} {cc:Array Value} {e:TypeId} {fr:Nat × Nat} (v:Value) (h:w.heap[B]?=some (.cells cc e fr)) :
  Upd w B (.cells (cc.setIfInBounds k v) e fr) (w.setCell ⟨B,k,none⟩ v):=by
 refine ⟨rfl,rfl,rfl,by simp,?_,λj hj=>Below.heap_setCell _ _ _ _ hj⟩
 simp [World.setCell,Array.getElem?_modify,h]
theorem Upd.trans {w1 w2:World} {B:Nat} {o1 o2:Obj} (h:Upd w B o1 w1) (k:Upd w1 B o2 w2):Upd w B o2 w2:=
 ⟨k.os.trans h.os,k.tape.trans h.tape,k.output.trans h.output,Nat.le_trans h.size k.size,k.at_,λj hj=>(k.other j hj).trans (h.other j hj)⟩
theorem Upd.self {B:Nat} {o:Obj} (h:w.heap[B]?=some o):Upd w B o w:=⟨rfl,rfl,rfl,Nat.le_refl _,h,λ_ _=>rfl⟩
theorem qKH {B k:Nat} {e:TypeId}:∀ (vs:List Value) (i:Nat) (w:World) (cc:Array Value),w.heap[B]?=some (.cells cc e (0,0))→k+i+vs.length≤cc.size→
  (∀ v∈vs,v.oneCell'=true)→∃ w' cc',(storeCells ⟨B,k,none⟩ vs i).run P w=.ok () w'∧Upd w B (.cells cc' e (0,0)) w'∧cc'.size=cc.size∧
   ∀ j,cc'[j]?=if k+i≤j∧j < k+i+vs.length then vs[j - (k+i)]? else cc[j]?:=by
 intro vs
 induction vs with
 | nil=>
   intro i w cc h _ _
   refine ⟨w,cc,by simp [storeCells],Upd.self h,rfl,λj=>?_⟩
   rw [if_neg (by simp only [List.length_nil];omega)]
 | cons v vs ih=>
   intro i w cc h hl h1
   simp only [List.length_cons] at hl
   have hlt:k+i < cc.size:=by omega
   have hcell:w.cell? ⟨B,k+i,none⟩=some cc[k+i]:=by rw [qKb h];exact Array.getElem?_eq_getElem hlt
   have hst:(store ((⟨B,k,none⟩:Addr).add i) v).run P w=.ok () (w.setCell ⟨B,k+i,none⟩ v):=by
    rw [qDK,run_store P w _ v _ (h1 v (by simp)),hcell]
    simp [qUb h]
   have hu:=qR0 (w:=w) (k:=k+i) v h
   obtain ⟨w',cc',e1,u1,s1,g1⟩:=ih (i+1) (w.setCell ⟨B,k+i,none⟩ v) _ hu.at_ (by simp;omega) (λx hx=>h1 x (by simp [hx]))
   refine ⟨w',cc',by simp [storeCells,hst,e1],hu.trans u1,by simpa using s1,λj=>?_⟩
   rw [g1 j]
   by_cases hj:j=k+i
   ·subst hj
    rw [if_neg (by omega),if_pos (by simp)]
    simp [hlt]
   ·by_cases hj2:k+(i+1)≤j∧j < k+(i+1)+vs.length
    ·rw [if_pos hj2,if_pos (by simp only [List.length_cons];omega)]
     have:j - (k+i)=(j - (k+(i+1)))+1:=by omega
     rw [this,g1Y]
    ·rw [if_neg hj2,if_neg (by simp only [List.length_cons];omega)]
     rw [Array.getElem?_setIfInBounds_ne (by omega)]
theorem qQL {c:Tr AV}:∀ (n o:Nat) (l:List AV),qEy c o n=some l→l.length=n∧∀ i x,l[i]?=some x→c.get (o+i)=some x:=by
 intro n
 induction n with
 | zero=>intro o l h;cases h;exact ⟨rfl,λi x h=>by simp at h⟩
 | succ n ih=>
   intro o l h
   unfold qEy at h
   split at h
   ·cases h
   ·rename_i v hv
    split at h
    ·cases h
    ·rename_i vs hvs
     cases h
     obtain ⟨h1,h2⟩:=ih _ _ hvs
     refine ⟨by simp [h1],λi x hx=>?_⟩
     cases i with
     | zero=>simp at hx;subst hx;exact hv
     | succ i=>simp at hx;have:=h2 i x hx;rw [show o+(i+1)=o+1+i from by omega];exact this
theorem qTv {b o n:Nat} {l:List AV} {e:TypeId} {c:Tr AV} {N:Nat} {L:Loc} (hwr:WR σ ρ base H w) (hb:H.blks.get b=some (.cells e c N)) (hL:ρ b=some L) (hl:qEy c o n=some l) :
  ∃ vs:List Value,vs.length=n∧RelL σ ρ l vs∧(∀ v∈vs,v.oneCell'=true)∧∀ j v,vs[j]?=some v→w.cell? ((⟨L.blk,L.sh+o,none⟩:Addr).add j)=some v:=by
 obtain ⟨L',hL',cc,fr,h1,_,_,_,h5⟩:=hwr.blk b _ hb
 rw [hL] at hL';cases hL'
 obtain ⟨hlen,hget⟩:=qQL n o l hl
 have key:∀ i x,l[i]?=some x→∃ v,cc[L.sh+o+i]?=some v∧Rel σ ρ x v∧v.oneCell'=true:=by
  intro i x hx
  obtain ⟨v,a,b,c⟩:=h5 _ _ (hget i x hx)
  exact ⟨v,by rw [Nat.add_assoc];exact a,b,c⟩
 refine ⟨(List.range n).map λi=>(cc[L.sh+o+i]?).getD undef,by simp,?_,?_,?_⟩
 ·refine RelL.of_get (by simp [hlen]) λi x y hx hy=>?_
  obtain ⟨v,a,b,_⟩:=key i x hx
  have hi:i < n:=by rw [← hlen];exact (gS hx).1
  simp [List.getElem?_map,List.getElem?_range hi,a] at hy
  subst hy;exact b
 ·intro v hv
  simp only [List.mem_map,List.mem_range] at hv
  obtain ⟨i,hi,rfl⟩:=hv
  have:l[i]?=some l[i]:=gE (by omega)
  obtain ⟨v,a,_,c⟩:=key i _ this
  rw [a];exact c
 ·intro j v hv
  have hj:j < n:=by have:=(gS hv).1;simpa using this
  have:l[j]?=some l[j]:=gE (by omega)
  obtain ⟨v',a,_,_⟩:=key j _ this
  simp [List.getElem?_map,List.getElem?_range hj,a] at hv
  subst hv
  rw [qDK,qKb h1];exact a
theorem qKx {b o n:Nat} {l:List AV} {L:Loc} (h:qCk b o n H=some (l,H')) (hwr:WR σ ρ base H w) (hL:ρ b=some L) :
  H'.blks=H.blks∧H'.lo=H.lo∧H'.next=H.next∧∃ vs:List Value,vs.length=n∧RelL σ ρ l vs∧(∀ v∈vs,v.oneCell'=true)∧(∀ j v,vs[j]?=some v→w.cell? ((⟨L.blk,L.sh+o,none⟩:Addr).add j)=some v)∧
   (loadCells ⟨L.blk,L.sh+o,none⟩ n).run P w=.ok vs.toArray w:=by
 obtain ⟨blk,K,h1,h2⟩:=qAR h
 obtain ⟨hb,e1,e2,e3⟩:=qCL h1
 split at h2
 ·rename_i e c N
  obtain ⟨l',hl,e⟩:=qCl h2
  cases e
  obtain ⟨vs,a1,a2,a3,a4⟩:=qTv hwr hb hL hl
  refine ⟨e1,e2,e3,vs,a1,a2,a3,a4,?_⟩
  have:=run_loadCells_list (P:=P) (w:=w) ⟨L.blk,L.sh+o,none⟩ vs a4
  rw [a1] at this;exact this
 ·exact (qAD h2).elim
theorem qMd {t:TypeId} {b o:Nat} {v:AV} {L:Loc} (h:qFa P t b o H=some (v,H')) (hwr:WR σ ρ base H w) (hL:ρ b=some L) :
  H'.blks=H.blks∧H'.lo=H.lo∧H'.next=H.next∧∃ v',(loadVar t ⟨L.blk,L.sh+o,none⟩).run P w=.ok v' w∧Rel σ ρ v v':=by
 unfold qFa at h
 cases ha:qDX P t with
 | none=>simp only [ha] at h;exact (qAD h).elim
 | some g=>
   cases g with
   | true=>
     simp only [ha] at h
     cases hs:sz P t with
     | none=>simp only [hs] at h;exact (qAD h).elim
     | some n=>
       simp only [hs] at h
       obtain ⟨l,K,h1,h2⟩:=qAR h
       cases qAK h2
       obtain ⟨e1,e2,e3,vs,_,r,_,_,e⟩:=qKx (P:=P) h1 hwr hL
       exact ⟨e1,e2,e3,.agg vs.toArray,by simp [loadVar,qHS ha,qDk hs,e],by unfold Rel;exact ⟨_,rfl,by simpa using r⟩⟩
   | false=>
     simp only [ha] at h
     obtain ⟨blk,K,h1,h2⟩:=qAR h
     obtain ⟨hb,e1,e2,e3⟩:=qCL h1
     cases blk with
     | cells e c N=>
       simp only at h2
       obtain ⟨x,hx,e⟩:=qCl h2
       cases e
       obtain ⟨L',hL',cc,fr,h1,_,_,_,h5⟩:=hwr.blk b _ hb
       rw [hL] at hL';cases hL'
       obtain ⟨v',a,r,_⟩:=h5 _ _ hx
       exact ⟨e1,e2,e3,v',by simp [loadVar,qHS ha,qKb h1,a],r⟩
     | _=>exact (qAD h2).elim
theorem qVm {t:TypeId} {g:Nat} {v:AV} (h:qKB P t g H=some (v,H')) (hwr:WR σ ρ base H w) :
  H'.blks=H.blks∧H'.lo=H.lo∧H'.next=H.next∧∃ v',(loadVar t ⟨g,0,none⟩).run P w=.ok v' w∧Rel σ ρ v v':=by
 obtain ⟨blk,K,h1,h2⟩:=qAR h
 obtain ⟨hb,e1,e2,e3⟩:=qCL h1
 cases blk with
 | glob g' x=>
   simp only at h2
   have hcs:=qAy h2
   clear h2
   obtain ⟨hg,h2⟩:=hcs
   replace hg:=bE hg
   subst hg
   obtain ⟨L,hL,hbk,vs,e,fr,ho,hr,hone⟩:=hwr.blk g _ hb
   rw [hbk] at ho
   cases ha:qDX P t with
   | none=>simp only [ha] at h2;exact (qAD h2).elim
   | some q=>
     cases q with
     | true=>
       simp only [ha] at h2
       cases x with
       | agg l=>
         simp only at h2
         cases hs:sz P t with
         | none=>simp only [hs] at h2;exact (qAD h2).elim
         | some n=>
           simp only [hs] at h2
           obtain ⟨hn,h3⟩:=qAy h2
           have hn:=bE hn
           cases qAK h3
           have hr:RelL σ ρ l vs:=hr
           have hlen:vs.length=n:=by rw [hr.length,hn]
           have hl:=run_loadCells_list (P:=P) (w:=w) ⟨g,0,none⟩ vs (λj y hj=>by
            rw [qDK,qKb ho]
            simpa using hj)
           rw [hlen] at hl
           exact ⟨e1,e2,e3,.agg vs.toArray,by simp [loadVar,qHS ha,qDk hs,hl],by unfold Rel;exact ⟨_,rfl,by simpa using hr⟩⟩
       | _=>exact (qAD h2).elim
     | false=>
       simp only [ha] at h2
       obtain ⟨hx,h3⟩:=qAy h2
       cases qAK h3
       have hc:v.cells=[v]:=by cases v <;> first | rfl | cases hx
       rw [hc] at hr
       unfold RelL at hr
       obtain ⟨y,ys,rfl,hy,hys⟩:=hr
       exact ⟨e1,e2,e3,y,by simp [loadVar,qHS ha,qKb ho],hy⟩
 | _=>exact (qAD h2).elim
theorem qNX {l:List AV} (h:qAb l=true):∀ x∈l,x.one=true:=by
 induction l with
 | nil=>simp
 | cons y ys ih=>
   simp only [qAb,Bool.and_eq_true] at h
   intro x hx
   rcases mC hx with rfl | hx
   ·exact h.1
   ·exact ih h.2 x hx
theorem qUf {l:List AV} {vs:List Value} (hσ:One σ) (h:qAb l=true) (hr:RelL σ ρ l vs):∀ v∈vs,v.oneCell'=true:=by
 intro v hv
 obtain ⟨i,hi⟩:=List.getElem?_of_mem hv
 have hlt:i < l.length:=by rw [← hr.length];exact (gS hi).1
 have hx:l[i]?=some l[i]:=gE hlt
 obtain ⟨y,hy,r⟩:=hr.get i _ hx
 rw [hi] at hy;cases hy
 exact qKi hσ r (qNX h _ (List.getElem_mem hlt))
theorem qFB {b o:Nat} {vs:List AV} {u:Unit} {L:Loc} {vs':List Value} (h:qCR b o vs H=some (u,H')) (hσ:One σ) (hwr:WR σ ρ base H w) (hL:ρ b=some L) (hr:RelL σ ρ vs vs') :
  H'.next=H.next∧H'.lo=H.lo∧∃ w',(storeCells ⟨L.blk,L.sh+o,none⟩ vs').run P w=.ok () w'∧WR σ ρ base H' w'∧Below base w w':=by
 obtain ⟨blk,K,h1,h2⟩:=qAR h
 obtain ⟨hb,e1,e2,e3⟩:=qCL h1
 split at h2
 ·rename_i e c N
  obtain ⟨hc,h2⟩:=qAy h2
  rw [Bool.and_eq_true] at hc
  have hle:o+vs.length≤N:=by simpa [Nat.ble_eq] using hc.1
  obtain ⟨hlo,_,hk,hkl,hkn⟩:=qG1 h2
  rw [e2] at hlo
  obtain ⟨L',hL',cc,fr,p1,p2,p3,p4,p5⟩:=hwr.blk b _ hb
  rw [hL] at hL';cases hL'
  have hfr:=p2 hlo
  subst hfr
  have hlen:=hr.length
  obtain ⟨w',cc',q1,q2,q3,q4⟩:=qKH (P:=P) (k:=L.sh+o) vs' 0 w cc p1 (by rw [hlen];omega) (qUf hσ hc.2 hr)
  have hput:=hwr.put (K:=H') (b:=.cells e (Tr.ofListAt c o vs) N) hb hL hlo q2 (by
   refine ⟨cc',(0,0),rfl,λ_=>rfl,by rw [q3,p3],by rw [q3];exact p4,λi v hv=>?_⟩
   rw [Tr.get_ofListAt] at hv
   rw [q4]
   split at hv
   ·rename_i hi
    rw [if_pos (by rw [hlen];omega)]
    obtain ⟨y,hy,r⟩:=hr.get _ _ hv
    refine ⟨y,?_,r,qUf hσ hc.2 hr y (mG hy)⟩
    rw [← hy];congr 1;omega
   ·rename_i hi
    rw [if_neg (by rw [hlen];omega)]
    exact p5 i v hv) (λj=>by rw [hk,e1]) (hkl.trans e2)
  exact ⟨hkn.trans e3,hkl.trans e2,w',q1,hput.1,hput.2⟩
 ·exact (qAD h2).elim
theorem qNk {j:Nat} {bj:ABlk} {Lj:Loc} (hwr:WR σ ρ base H w) (h:H.blks.get j=some bj) (hL:ρ j=some Lj):Lj.blk < w.heap.size:=by
 obtain ⟨L',hL',hb⟩:=hwr.blk j _ h
 rw [hL] at hL';cases hL'
 obtain ⟨o,ho⟩:=hb.some
 exact qK4 ho
theorem qNQ {elem:TypeId} {cs:List AV} {id:Nat} (h:qB0 elem cs H=some (id,H')) (hσ:One σ) (hwr:WR σ ρ base H w) (hf:Free ρ H.next H'.next) {B sh:Nat} {cc:Array Value} {w':World}
  (hu:Upd w B (.cells cc elem (0,0)) w') (hB:base≤B) (hdead:∀ j bj Lj,H.blks.get j=some bj→ρ j=some Lj→Lj.blk≠B) (hlen:sh+cs.length≤cc.size)
  (hrel:∀ i x,cs[i]?=some x→∃ v,cc[sh+i]?=some v∧Rel σ ρ x v) :
  id=H.next∧H'.next=H.next+1∧H'.lo=H.lo∧∃ ρ',Ext ρ ρ' H.next H'.next∧ρ' id=some ⟨B,sh,cc.size⟩∧WR σ ρ' base H' w'∧Below base w w':=by
 obtain ⟨hc,h⟩:=qAy h
 obtain ⟨rfl,hlo,hk,hkl,hkn⟩:=qLY h
 have hn:ρ H.next=none:=hf H.next (Nat.le_refl _) (by omega)
 obtain ⟨ρ',x1,x2,x3,x4⟩:=hwr.new (L:=⟨B,sh,cc.size⟩) (b:=.cells elem (Tr.ofListAt .nil 0 cs) cs.length) hn hdead hB hu (λρ' hle _=>by
  refine ⟨cc,(0,0),rfl,λ_=>rfl,rfl,hlen,λi v hv=>?_⟩
  rw [Tr.get_ofListAt,Tr.get_nil] at hv
  split at hv
  ·obtain ⟨y,hy,r⟩:=hrel _ _ hv
   have:i - 0=i:=by omega
   rw [this] at hy hv
   exact ⟨y,hy,Rel.mono hle _ _ r,qKi hσ r (qNX hc _ (mG hv))⟩
  ·cases hv) hk hkl hkn
 exact ⟨rfl,hkn,hkl,ρ',x1,x2,x3,x4⟩
theorem qMf (w:World) (o:Obj):Upd w w.heap.size o (w.alloc o):=
 ⟨rfl,rfl,rfl,by simp,by show (w.heap.push o)[w.heap.size]?=some o;simp,λk hk=>by
  show (w.heap.push o)[k]?=w.heap[k]?;rw [Array.getElem?_push,if_neg hk]⟩
theorem qK3 {elem:TypeId} {cs:List AV} {id:Nat} (h:qB0 elem cs H=some (id,H')) (hσ:One σ) (hwr:WR σ ρ base H w) (hf:Free ρ H.next H'.next) {vs:List Value} (rest:List Value) (hr:RelL σ ρ cs vs) :
  id=H.next∧H'.next=H.next+1∧H'.lo=H.lo∧∃ ρ',Ext ρ ρ' H.next H'.next∧ρ' id=some ⟨w.heap.size,0,vs.length+rest.length⟩∧WR σ ρ' base H' (w.alloc (.cells (vs ++ rest).toArray elem))∧Below base w (w.alloc (.cells (vs ++ rest).toArray elem)):=by
 have hl:=hr.length
 have:=qNQ h hσ hwr hf (sh:=0) (qMf w (.cells (vs ++ rest).toArray elem)) hwr.base (λj bj Lj hj hLj=>Nat.ne_of_lt (qNk hwr hj hLj)) (by simp [hl]) (λi x hx=>by
  obtain ⟨y,hy,r⟩:=hr.get i x hx
  refine ⟨y,?_,r⟩
  have hi:i < vs.length:=(gS hy).1
  simp [List.getElem?_append_left hi,hy])
 simpa using this
end
end Go.AM
namespace Go.AM
open Go Go.RowKit
section
variable {P:Program} {σ:Nat→Value} {ρ:Ren} {base:Nat} {H H':AH} {w:World}
def qKn (n:Nat) (z:List Value):List Value:=match n with
 | 0=>[]
 | n+1=>z ++ qKn n z
theorem qGl (n:Nat) (z:List Value):(qKn n z).length=n * z.length:=by
 induction n with
 | zero=>simp [qKn]
 | succ n ih=>simp [qKn,ih,Nat.add_mul];omega
theorem qVs (n:Nat) (z:List Value) (i:Nat) (hi:i < n * z.length):(qKn n z)[i]?=z[i % z.length]?:=by
 induction n generalizing i with
 | zero=>simp at hi
 | succ n ih=>
   have hz:0 < z.length:=by
    rcases Nat.eq_zero_or_pos z.length with h | h
    ·rw [h] at hi;simp at hi
    ·exact h
   simp only [qKn]
   by_cases h:i < z.length
   ·rw [List.getElem?_append_left h,Nat.mod_eq_of_lt h]
   ·rw [List.getElem?_append_right (by omega),ih _ (by rw [Nat.add_mul] at hi;omega)]
    rw [Nat.mod_eq_sub_mod (a:=i) (by omega)]
theorem qX6 {z:List AV} {z':List Value} (h:RelL σ ρ z z') (n:Nat):RelL σ ρ (repl n z) (qKn n z'):=by
 induction n with
 | zero=>exact .nil
 | succ n ih=>exact h.append ih
theorem qPa (z:Array Value) (n:Nat):((Array.range (n * z.size)).map (z[· % z.size]!))=(qKn n z.toList).toArray:=by
 apply Array.ext
 ·simp [qGl]
 ·intro i h1 h2
  simp only [Array.size_map,Array.size_range] at h1
  have hz:0 < z.size:=by
   rcases Nat.eq_zero_or_pos z.size with h | h
   ·rw [h] at h1;simp at h1
   ·exact h
  have hg:=qVs n z.toList i (by simpa using h1)
  have hm:i % z.size < z.size:=Nat.mod_lt _ hz
  simp only [Array.getElem_map,Array.getElem_range,List.getElem_toArray]
  have h2':i < (qKn n z.toList).length:=by simpa using h2
  rw [gE h2'] at hg
  simp only [Array.length_toList,Array.getElem?_toList,Array.getElem?_eq_getElem hm,Option.some.injEq] at hg
  rw [hg]
  simp [hm]
structure Zeros (P:Program) (σ:Nat→Value) (ρ:Ren) (elem:TypeId) (n:Nat) (cs:List AV) (es:Nat) (i:TypeInfo) (z:Value):Prop where
 info:P.info? elem=some i
 zero:i.zero=some z
 size:i.size=es
 zsize:z.cells.size=es
 rel:RelL σ ρ cs (qKn n z.cells.toList)
theorem qHQ {elem:TypeId} {n:Nat} {cs:List AV} {es:Nat} (h:zeros P elem n=some (cs,es)) (hσ:One σ):∃ i z,Zeros P σ ρ elem n cs es i z:=by
 unfold zeros at h
 split at h
 ·rename_i za m hz hs
  obtain ⟨hb,h⟩:=qAY h
  cases h
  have hb:=bE hb
  unfold qEp at hz
  cases hi:P.info? elem with
  | none=>simp [hi] at hz
  | some i=>
    simp only [hi] at hz
    cases hzv:i.zero with
    | none=>simp [hzv] at hz
    | some z=>
      simp only [hzv] at hz
      have hr:=qGS hσ (qRC (σ:=σ) (ρ:=ρ) 2 z za hz)
      refine ⟨i,z,hi,hzv,?_,?_,qX6 hr n⟩
      ·simp [sz,hi] at hs;exact hs
      ·have:=hr.length;simp at this;omega
 ·cases h
theorem qWo {t:TypeId} {v:AV} (h:qME P t H=some (v,H')) (hσ:One σ) (hwr:WR σ ρ base H w) (hf:Free ρ H.next H'.next) :
  Okay σ ρ base H H' w (λρ' v'=>Rel σ ρ' v v') ((Instr.alloc t true (.tuple #[])).run P w):=by
 unfold qME at h
 cases hz:qEp P t with
 | none=>simp only [hz] at h;exact (qAD h).elim
 | some z=>
   simp only [hz] at h
   obtain ⟨id,K,h1,h2⟩:=qAR h
   cases qAK h2
   obtain ⟨zv,e,r⟩:=qLN hz
   have:=qK3 h1 hσ hwr hf [] (qGS hσ (r σ ρ))
   obtain ⟨rfl,hn,hl,ρ',x1,x2,x3,x4⟩:=this
   refine ⟨.pointer (some ⟨w.heap.size,0,none⟩),_,ρ',?_,x1,x3,x4,?_⟩
   ·simp [Instr.alloc,e,newVar,newRow]
   ·unfold Rel;exact ⟨_,x2,rfl⟩
theorem zAAz {t:TypeId} {x v:AV} {x':Value} (h:boxA t x H=some (v,H')) (hx:Rel σ ρ x x') (hσ:One σ) (hwr:WR σ ρ base H w) (hf:Free ρ H.next H'.next) :
  Okay σ ρ base H H' w (λρ' v'=>Rel σ ρ' v v') ((Instr.box t x').run P w):=by
 obtain ⟨id,K,h1,h2⟩:=qAR h
 cases qAK h2
 obtain ⟨rfl,hn,hl,ρ',x1,x2,x3,x4⟩:=qK3 h1 hσ hwr hf [] (qGS hσ hx)
 refine ⟨.pointer (some ⟨w.heap.size,0,none⟩),_,ρ',?_,x1,x3,x4,?_⟩
 ·simp [Instr.box,newVar,newRow]
 ·unfold Rel;exact ⟨_,x2,rfl⟩
theorem zABD (l:List Value):∀ (n off:Nat) (a:Array Value),off+n+l.length≤a.size→
  ((l.zipIdx n).foldl (λ(cs:Array Value) (x:Value × Nat)=>cs.setIfInBounds (off+x.2) x.1) a).size=a.size∧
  ∀ j:Nat,((l.zipIdx n).foldl (λ(cs:Array Value) (x:Value × Nat)=>cs.setIfInBounds (off+x.2) x.1) a)[j]?=if off+n≤j∧j < off+n+l.length then l[j - (off+n)]? else a[j]?:=by
 induction l with
 | nil=>intro n off a h;refine ⟨rfl,λj=>?_⟩;simp only [List.zipIdx_nil,List.foldl_nil,List.length_nil];rw [if_neg (by omega)]
 | cons v l ih=>
   intro n off a h
   simp only [List.length_cons] at h
   obtain ⟨h1,h2⟩:=ih (n+1) off (a.setIfInBounds (off+n) v) (by simp;omega)
   simp only [List.zipIdx_cons,List.foldl_cons]
   refine ⟨by rw [h1];simp,λj=>?_⟩
   rw [h2 j]
   by_cases hj:j=off+n
   ·subst hj
    rw [if_neg (by omega),if_pos (by simp)]
    have:off+n < a.size:=by omega
    simp [this]
   ·by_cases hj2:off+(n+1)≤j∧j < off+(n+1)+l.length
    ·rw [if_pos hj2,if_pos (by simp only [List.length_cons];omega)]
     have:j - (off+n)=(j - (off+(n+1)))+1:=by omega
     rw [this,g1Y]
    ·rw [if_neg hj2,if_neg (by simp only [List.length_cons];omega),Array.getElem?_setIfInBounds_ne (by omega)]
theorem qQj {cs vs:List AV} {cs':Array Value} {vs':Array Value} {off:Nat} (h:RelL σ ρ cs cs'.toList) (hv:RelL σ ρ vs vs'.toList) (hl:off+vs.length≤cs.length) :
  RelL σ ρ (qAu cs off vs) (vs'.zipIdx.foldl (λ(cs:Array Value) (x:Value × Nat)=>cs.setIfInBounds (off+x.2) x.1) cs').toList:=by
 have e1:=h.length
 have e2:=hv.length
 simp only [Array.length_toList] at e1 e2
 obtain ⟨s1,s2⟩:=zABD vs'.toList 0 off cs' (by simp;omega)
 have hfold:vs'.zipIdx.foldl (λ(cs:Array Value) (x:Value × Nat)=>cs.setIfInBounds (off+x.2) x.1) cs'=(vs'.toList.zipIdx 0).foldl (λ(cs:Array Value) (x:Value × Nat)=>cs.setIfInBounds (off+x.2) x.1) cs':=by
  rw [← Array.foldl_toList];simp
 rw [hfold]
 refine RelL.of_get ?_ λi x y hx hy=>?_
 ·simp only [Array.length_toList,s1,qAu,lAp,List.length_take,List.length_drop];omega
 ·rw [Array.getElem?_toList,s2] at hy
  unfold qAu at hx
  by_cases hi:off≤i∧i < off+vs.length
  ·rw [if_pos (by simp;omega)] at hy
   rw [List.append_assoc,List.getElem?_append_right (by simp;omega),List.getElem?_append_left (by simp;omega)] at hx
   simp only [List.length_take] at hx
   have:i - min off cs.length=i - (off+0):=by omega
   rw [this] at hx
   obtain ⟨z,hz,r⟩:=hv.get _ _ hx
   rw [hz] at hy;cases hy;exact r
  ·rw [if_neg (by simp;omega)] at hy
   have hx':cs[i]?=some x:=by
    by_cases h2:i < off
    ·rw [List.append_assoc,List.getElem?_append_left (by simp;omega),List.getElem?_take,if_pos h2] at hx;exact hx
    ·rw [List.getElem?_append_right (by simp;omega),List.getElem?_drop] at hx
     rw [← hx];congr 1;simp;omega
   obtain ⟨z,hz,r⟩:=h.get _ _ hx'
   rw [Array.getElem?_toList] at hz
   rw [hz] at hy;cases hy;exact r
inductive PRel (σ:Nat→Value) (ρ:Ren):List (Nat × AV)→List (Nat × Value)→Prop
 | nil:PRel σ ρ [] []
 | cons {i x v l l'} (h:Rel σ ρ x v) (t:PRel σ ρ l l'):PRel σ ρ ((i,x) :: l) ((i,v) :: l')
theorem qPP {place:Nat→Option (Nat × Nat)} (hσ:One σ):∀ (l:List (Nat × AV)) (l':List (Nat × Value)) (cs r:List AV) (cs':Array Value),PRel σ ρ l l'→qNm place cs l=some r→RelL σ ρ cs cs'.toList→
  ∃ r':Array Value,Instr.fill place cs' l'=some r'∧RelL σ ρ r r'.toList:=by
 intro l
 induction l with
 | nil=>intro l' cs r cs' hp h hr;cases hp;cases h;exact ⟨cs',rfl,hr⟩
 | cons p l ih=>
   intro l' cs r cs' hp h hr
   cases hp with
   | cons hx ht=>
     rename_i i x v l'
     simp only [qNm] at h
     split at h
     ·cases h
     ·rename_i off size hpl
      obtain ⟨hc,h⟩:=qAY h
      rw [Bool.and_eq_true] at hc
      have h1:x.cells.length=size:=bE hc.1
      have h2:off+x.cells.length≤cs.length:=by simpa [Nat.ble_eq] using hc.2
      have hv:=qGS hσ hx
      have e1:=hr.length
      have e2:=hv.length
      simp only [Array.length_toList] at e1 e2
      obtain ⟨r',g1,g2⟩:=ih _ _ _ _ ht h (qQj hr hv h2)
      refine ⟨r',?_,g2⟩
      unfold Instr.fill
      simp only [hpl]
      rw [if_neg (by simp only [ne_eq,Bool.or_eq_true,decide_eq_true_eq,not_or];omega)]
      exact g1
theorem qZT {fields:Array Field} (h:(fields.toList.all λf=>(sz P f.type).isSome)=true) (w:World) :
  (fields.mapM λf=>(do pure (f.offset,← sizeOf f.type):Sem (Nat × Nat))).run P w=.ok (fields.map λf=>(f.offset,P.cellsOf f.type)) w:=by
 rw [Array.mapM_eq_mapM_toList]
 simp only [Sem.run_map]
 have key:∀ l:List Field,(l.all λf=>(sz P f.type).isSome)=true→(l.mapM λf=>(do pure (f.offset,← sizeOf f.type):Sem (Nat × Nat))).run P w=.ok (l.map λf=>(f.offset,P.cellsOf f.type)) w:=by
  intro l
  induction l with
  | nil=>intro _;simp
  | cons f l ih=>
    intro hl
    simp only [List.all_cons,Bool.and_eq_true] at hl
    obtain ⟨n,hn⟩:=Option.isSome_iff_exists.1 hl.1
    have hc:P.cellsOf f.type=n:=by
     unfold sz at hn
     cases hi:P.info? f.type with
     | none=>simp [hi] at hn
     | some i=>simp [hi] at hn;simp [Program.cellsOf,hi,hn]
    simp only [List.mapM_cons,Sem.run_bind,qDk hn,Result.andThen_ok,ih hl.2,Sem.run_pure,List.map_cons,hc]
 rw [key _ h]
 simp only [Result.andThen_ok]
 congr 1
 apply Array.ext'
 simp
theorem qWC {t:TypeId} {l:List (Nat × AV)} {parts:Array (Nat × Value)} {v:AV} (h:qOV P t l=some v) (hp:PRel σ ρ l parts.toList) (hσ:One σ) (w:World) :
  ∃ v',(Instr.build t parts).run P w=.ok v' w∧Rel σ ρ v v':=by
 unfold qOV at h
 split at h
 ·rename_i z fields hz hu
  obtain ⟨hall,h⟩:=qAY h
  simp only [Option.map_eq_some_iff] at h
  obtain ⟨r,hr,rfl⟩:=h
  obtain ⟨zv,e,hrel⟩:=qLN hz
  obtain ⟨r',g1,g2⟩:=qPP hσ l parts.toList _ _ zv.cells hp hr (qGS hσ (hrel σ ρ))
  have hplace:(λi=>(fields.map λf=>(f.offset,P.cellsOf f.type))[i]?)=qMq P fields.toList:=by
   funext i
   simp only [qMq,Array.getElem?_map,Array.getElem?_toList]
   cases hf:fields[i]? with
   | none=>rfl
   | some f=>
     have hm:f∈fields.toList:=by
      have:=Array.mem_of_getElem? hf
      exact Array.mem_def.1 this
     have hs:=List.all_eq_true.1 hall f hm
     obtain ⟨n,hn⟩:=Option.isSome_iff_exists.1 hs
     have hc:P.cellsOf f.type=n:=by
      have hn':=hn
      unfold sz at hn'
      cases hi:P.info? f.type with
      | none=>simp [hi] at hn'
      | some i=>simp [hi] at hn';simp [Program.cellsOf,hi,hn']
     simp [hn,hc]
  refine ⟨.agg r',?_,by unfold Rel;exact ⟨_,rfl,g2⟩⟩
  simp only [Instr.build,Sem.run_bind,e,Result.andThen_ok,run_underlying hu,qZT hall]
  rw [hplace,g1]
  rfl
 ·rename_i z n elem hz hu
  split at h
  ·rename_i c hs
   simp only [Option.map_eq_some_iff] at h
   obtain ⟨r,hr,rfl⟩:=h
   obtain ⟨zv,e,hrel⟩:=qLN hz
   obtain ⟨r',g1,g2⟩:=qPP hσ l parts.toList _ _ zv.cells hp hr (qGS hσ (hrel σ ρ))
   refine ⟨.agg r',?_,by unfold Rel;exact ⟨_,rfl,g2⟩⟩
   simp [Instr.build,e,run_underlying hu,qDk hs,g1]
  ·cases h
 ·cases h
theorem qPW {t:TypeId} {n:Nat} {l:List (Nat × AV)} {parts:Array (Nat × Value)} {v:AV} (h:qD8 P t n l H=some (v,H')) (hp:PRel σ ρ l parts.toList) (hσ:One σ) (hwr:WR σ ρ base H w) (hf:Free ρ H.next H'.next) :
  Okay σ ρ base H H' w (λρ' v'=>Rel σ ρ' v v') ((Instr.buildSlice t n parts).run P w):=by
 unfold qD8 at h
 cases hu:P.underlying t with
 | none=>simp only [hu] at h;exact (qAD h).elim
 | some d=>
   cases d with
   | slice elem=>
     simp only [hu] at h
     cases hz:zeros P elem n with
     | none=>simp only [hz] at h;exact (qAD h).elim
     | some p=>
       obtain ⟨cs,es⟩:=p
       simp only [hz] at h
       obtain ⟨hle,h⟩:=qAy h
       have hle:n * es≤16777216:=by simpa [Nat.ble_eq] using hle
       cases hfl:qNm (λi=>some (i * es,es)) cs l with
       | none=>simp only [hfl] at h;exact (qAD h).elim
       | some r=>
         simp only [hfl] at h
         obtain ⟨id,K,h1,h2⟩:=qAR h
         cases qAK h2
         obtain ⟨i,z,zz⟩:=qHQ (σ:=σ) (ρ:=ρ) hz hσ
         obtain ⟨r',g1,g2⟩:=qPP hσ l parts.toList _ _ (qKn n z.cells.toList).toArray hp hfl (by simpa using zz.rel)
         obtain ⟨rfl,hn,hl,ρ',x1,x2,x3,x4⟩:=qK3 h1 hσ hwr hf [] g2
         have hs:sz P elem=some es:=by simp [sz,zz.info,zz.size]
         have hlen:r'.size=n * es:=by
          have a:=g2.length
          simp only [Array.length_toList] at a
          have b:∀ (l:List (Nat × AV)) (cs r:List AV),qNm (λi=>some (i * es,es)) cs l=some r→r.length=cs.length:=by
           intro l
           induction l with
           | nil=>intro cs r h;cases h;rfl
           | cons p l ih=>
             intro cs r h
             obtain ⟨i,v⟩:=p
             simp only [qNm] at h
             obtain ⟨hc,h⟩:=qAY h
             rw [Bool.and_eq_true] at hc
             have h2:i * es+v.cells.length≤cs.length:=by simpa [Nat.ble_eq] using hc.2
             rw [ih _ _ h]
             simp only [qAu,lAp,List.length_take,List.length_drop];omega
          have c:=zz.rel.length
          rw [qGl] at c
          have:=b _ _ _ hfl
          have d:=zz.zsize
          simp only [Array.length_toList] at c
          rw [d] at c
          omega
         refine ⟨.slice (some ⟨w.heap.size,0,none⟩) n n,_,ρ',?_,x1,x3,x4,?_⟩
         ·have hbig:¬ (n * es > 2 ^ 24):=by simp;omega
          by_cases h0:n * es=0
          ·have hc:(qKn n z.cells.toList).toArray=#[]:=by
            apply Array.eq_empty_of_size_eq_zero
            simp only [List.size_toArray,qGl,Array.length_toList,zz.zsize];exact h0
           rw [hc] at g1
           simp [Instr.buildSlice,run_underlying hu,qDk hs,h0,g1,newRow,show (Array.range 0)=(#[]:Array Nat) from rfl]
          ·have hcy:=qPa z.cells n
           rw [zz.zsize] at hcy
           simp [Instr.buildSlice,run_underlying hu,qDk hs,hbig,h0,zeroValue,typeInfo,zz.info,zz.zero,newRow,zz.zsize,hcy,g1]
         ·unfold Rel
          refine ⟨_,_,n,x2,rfl,.inl ⟨rfl,?_⟩,Nat.le_refl _,λk hk=>by cases hk;rfl⟩
          simp [hlen]
   | _=>simp only [hu] at h;exact (qAD h).elim
end
end Go.AM
namespace Go.AM
open Go Go.RowKit
section
variable {P:Program} {σ:Nat→Value} {ρ:Ren} {base:Nat} {H H':AH} {w:World}
theorem qQS {t:TypeId} {l c v:AV} {l' c':Value} (h:qEP P t l c H=some (v,H')) (hl:Rel σ ρ l l') (hc:Rel σ ρ c c') (hσ:One σ) (hwr:WR σ ρ base H w) (hf:Free ρ H.next H'.next) :
  Okay σ ρ base H H' w (λρ' v'=>Rel σ ρ' v v') ((Instr.makeSlice t l' c').run P w):=by
 unfold qEP at h
 cases hu:P.underlying t with
 | none=>simp only [hu] at h;exact (qAD h).elim
 | some d=>
   cases hnl:nat? l with
   | none=>cases d <;> simp only [hu,hnl] at h <;> exact (qAD h).elim
   | some n=>
     cases hnc:nat? c with
     | none=>cases d <;> simp only [hu,hnl,hnc] at h <;> exact (qAD h).elim
     | some m=>
       cases d with
       | slice elem=>
         simp only [hu,hnl,hnc] at h
         cases hz:zeros P elem m with
         | none=>simp only [hz] at h;exact (qAD h).elim
         | some p=>
           obtain ⟨cs,es⟩:=p
           cases hb:qFj P elem with
           | none=>simp only [hz,hb] at h;exact (qAD h).elim
           | some by_=>
             simp only [hz,hb] at h
             obtain ⟨hcd,h⟩:=qAy h
             rw [Bool.and_eq_true,Bool.and_eq_true] at hcd
             have hnm:n≤m:=by simpa [Nat.ble_eq] using hcd.1
             have hm:m≤4294967296:=by simpa [Nat.ble_eq] using hcd.2.1
             have hby:by_≤32768:=by simpa [Nat.ble_eq] using hcd.2.2
             obtain ⟨id,K,h1,h2⟩:=qAR h
             simp only [qA6] at h2
             cases qAK h2
             obtain ⟨i,z,zz⟩:=qHQ (σ:=σ) (ρ:=ρ) hz hσ
             obtain ⟨kl,rfl⟩:=nat?_rel hnl hl
             obtain ⟨kc,rfl⟩:=nat?_rel hnc hc
             obtain ⟨rfl,hn,hl,ρ',x1,x2,x3,x4⟩:=qK3 h1 hσ hwr hf [] zz.rel
             have hbi:i.bytes=by_:=by simp [qFj,zz.info] at hb;exact hb
             have hbytes:(i.bytes:Int) * (m:Int)≤281474976710656:=by
              rw [hbi]
              have:by_ * m≤32768 * 4294967296:=Nat.mul_le_mul hby hm
              have h2:((by_ * m:Nat):Int)≤281474976710656:=by omega
              simpa using h2
             have hrun:=run_make w t elem i z hu zz.info zz.zero kl kc (n:Int) (m:Int) (by omega) (by omega) hbytes (by omega)
             simp only [Int.toNat_natCast] at hrun
             have hcy:=qPa z.cells m
             have hmc:madeCells z.cells (m * i.size)=(qKn m z.cells.toList).toArray:=by
              unfold madeCells;rw [zz.size,← zz.zsize];exact hcy
             rw [hmc] at hrun
             refine ⟨_,_,ρ',hrun,x1,by simpa using x3,by simpa using x4,?_⟩
             unfold Rel
             refine ⟨_,_,m,x2,rfl,.inl ⟨rfl,?_⟩,hnm,λk hk=>by cases hk;rfl⟩
             simp [qGl,zz.zsize]
       | _=>simp only [hu,hnl,hnc] at h;exact (qAD h).elim
theorem qGX {es n:Nat} {x:AV} {l:List AV} {x':Value} {len:Nat} (h:qJh es n x H=some (l,H')) (hx:Rel σ ρ x x') (hlen:qAa x=some len) (hn:n≤len) (hwr:WR σ ρ base H w) :
  H'.blks=H.blks∧H'.lo=H.lo∧H'.next=H.next∧∃ vs:List Value,vs.length=n * es∧RelL σ ρ l vs∧(∀ v∈vs,v.oneCell'=true)∧
   (∀ b off,x'=.slice (some b) len off→∀ j v,vs[j]?=some v→w.cell? (b.add j)=some v)∧
   ∀ w2:World,w2.heap=w.heap→(Builtin.firstCells es n x').run P w2=.ok vs.toArray w2:=by
 unfold qJh at h
 split at h
 ·rename_i b o ln cap es'
  have hcs:=qAy h
  clear h
  obtain ⟨he,h⟩:=hcs
  have he:=bE he
  subst he
  cases hlen
  unfold Rel at hx
  obtain ⟨L,a,c,hL,rfl,hoff,hlc,_⟩:=hx
  cases hz:Nat.beq (n * es) 0 with
  | true=>
    rw [hz] at h
    cases qAK h
    have hne:=bE hz
    refine ⟨rfl,rfl,rfl,[],by simp [hne],.nil,by simp,λ_ _ _ j v hv=>by simp at hv,λw2 hw2=>?_⟩
    simp [Builtin.firstCells,loadCells,hne,loadCellsFrom]
  | false=>
  rw [hz] at h
  have h:qCk b o (n * es) H=some (l,H'):=h
  obtain ⟨e1,e2,e3,vs,a1,a2,a3,a4,a5⟩:=qKx (P:=P) h hwr hL
  rcases hoff with ⟨rfl,_⟩ | ⟨h0,hc0⟩
  ·refine ⟨e1,e2,e3,vs,a1,a2,a3,λb off hb=>by cases hb;exact a4,λw2 hw2=>?_⟩
   have hcell:∀ a:Addr,w2.cell? a=w.cell? a:=λa=>by simp [World.cell?,hw2]
   exact run_firstCells_some (P:=P) w2 es n _ _ c vs a1 (λj v hv=>by rw [hcell];exact a4 j v hv)
  ·have hn0:n=0:=by omega
   subst hn0
   have hv:vs=[]:=List.eq_nil_of_length_eq_zero (by rw [a1];simp)
   subst hv
   exact ⟨e1,e2,e3,[],a1,a2,a3,λ_ _ _ j v hv=>by simp at hv,λw2 hw2=>by simp [Builtin.firstCells,loadCells,loadCellsFrom]⟩
 ·cases qAK h
  cases hlen
  have hn0:n=0:=by omega
  subst hn0
  unfold Rel at hx;subst hx
  exact ⟨rfl,rfl,rfl,[],by simp,.nil,by simp,(λb off hb=>by cases hb),λw2 _=>by simp [Builtin.firstCells]⟩
 ·exact (qAD h).elim
theorem qQn {x:AV} {x':Value} {n:Nat} (h:qAa x=some n) (hx:Rel σ ρ x x') (w:World):(Builtin.lenOf x').run P w=.ok n w:=by
 unfold qAa at h
 split at h
 ·cases h;unfold Rel at hx;obtain ⟨L,off,c,hL,rfl,_⟩:=hx;rfl
 ·cases h;unfold Rel at hx;subst hx;rfl
 ·cases h
end
end Go.AM
namespace Go.AM
open Go Go.RowKit
section
variable {P:Program} {σ:Nat→Value} {ρ:Ren} {base:Nat} {H H':AH} {w:World}
theorem qKF (a:Addr) (w:World):(storeCells a []).run P w=.ok () w:=by simp [storeCells]
theorem qHv {t u ty elem:TypeId} {xd:TypeDesc} {es:Nat} (ht:P.underlying t=some (.slice elem)) (hu:P.underlying u=some xd) (hxd:∀ k,xd≠.int k) (hs:sz P elem=some es)
  {a:Option Addr} {len c n:Nat} {x':Value} {vs:List Value} (hx:∀ w,(Builtin.lenOf x').run P w=.ok n w) (hf:(Builtin.firstCells es n x').run P w=.ok vs.toArray w) (hle:len+n≤c) :
  (Builtin.append_ #[t,u] ty #[.slice a len c,x']).run P w=(match a with
   | some a=>((storeCells (a.add (len * es)) vs).run P w).andThen λ_ w'=>.ok (.slice (some a) (len+n) c) w'
   | none=>.ok (.slice none (len+n) c) w):=by
 have hm:(match xd with | .int _=>true | _=>false)=false:=by cases xd <;> first | rfl | exact absurd rfl (hxd _)
 cases a with
 | none=>simp [Builtin.append_,run_underlying ht,run_underlying hu,qDk hs,hx,hf,hle]
 | some a=>simp [Builtin.append_,run_underlying ht,run_underlying hu,qDk hs,hx,hf,hle]
theorem qRP {t u ty elem:TypeId} {xd:TypeDesc} {es:Nat} {i:TypeInfo} {z:Value} (ht:P.underlying t=some (.slice elem)) (hu:P.underlying u=some xd) (hxd:∀ k,xd≠.int k) (hi:P.info? elem=some i) (hz:i.zero=some z) (hes:i.size=es)
  {a:Option Addr} {len c n:Nat} {x':Value} {olds vs:List Value} (hx:∀ w,(Builtin.lenOf x').run P w=.ok n w) (hf:∀ w2:World,w2.heap=w.heap→(Builtin.firstCells es n x').run P w2=.ok vs.toArray w2)
  (ho:∀ w2:World,w2.heap=w.heap→(Builtin.firstCells es len (.slice a len c)).run P w2=.ok olds.toArray w2) (hgt:c < len+n) (hneed:len+n≤16777216) (hby:i.bytes≤65536) :
  (Builtin.append_ #[t,u] ty #[.slice a len c,x']).run P w=.ok (.slice (some ⟨w.heap.size,0,none⟩) (len+n) (grownCap w (len+n) c elem))
    (w.drew.alloc (.cells ((olds ++ vs) ++ (Builtin.zeroCells z.cells (grownCap w (len+n) c elem - (len+n))).toList).toArray elem)):=by
 subst hes
 have hm:(match xd with | .int _=>true | _=>false)=false:=by cases xd <;> first | rfl | exact absurd rfl (hxd _)
 have hn:¬ (len+n≤c):=by omega
 have h63':¬ (9223372036854775807 < ((len:Int)+(n:Int))):=by omega
 have hfit:Builtin.nextslicecap (len+n) c * i.bytes≤281474976710656:=by
  refine growslice_fits hgt ?_
  have:(len+n) * i.bytes≤16777216 * 65536:=Nat.mul_le_mul hneed hby
  omega
 have h48':¬ (281474976710656 < Builtin.nextslicecap (len+n) c * i.bytes):=by omega
 have hf1:=hf w.drew rfl
 have ho1:=ho w.drew rfl
 simp [Builtin.append_,run_underlying ht,run_underlying hu,sizeOf,typeInfo,zeroValue,hi,hz,hx,hn,h63',h48',Question.forced,hf1,ho1,newRow,grownCap]
 congr 2
 apply Array.ext'
 simp
theorem qN2 (z:Array Value) (n:Nat):(Builtin.zeroCells z n).size=n * z.size:=by simp [Builtin.zeroCells]
theorem qTf {B:Nat} {w w':World} (h:Below B w.drew w'):Below B w w':=⟨h.os,h.tape,h.output,h.size,h.block⟩
theorem WR.drew (h:WR σ ρ base H w):WR σ ρ base H w.drew:=⟨h.blk,h.own,h.inj,h.base⟩
theorem qRS {t u ty elem:TypeId} {xd:TypeDesc} {es by_:Nat} {cs0:List AV} (ht:P.underlying t=some (.slice elem)) (hu:P.underlying u=some xd) (hxd:∀ k,xd≠.int k) (hz:zeros P elem 0=some (cs0,es)) (hb:qFj P elem=some by_)
  {a:Option Addr} {len c n:Nat} {x':Value} {olds vs:List Value} {lo ln:List AV} (hx:∀ w,(Builtin.lenOf x').run P w=.ok n w) (hf:∀ w2:World,w2.heap=w.heap→(Builtin.firstCells es n x').run P w2=.ok vs.toArray w2)
  (ho:∀ w2:World,w2.heap=w.heap→(Builtin.firstCells es len (.slice a len c)).run P w2=.ok olds.toArray w2) (hgt:c < len+n) (hneed:len+n≤16777216) (hby:by_≤65536)
  (hlo:RelL σ ρ lo olds) (hln:RelL σ ρ ln vs) (hol:olds.length=len * es) (hvl:vs.length=n * es) (hσ:One σ) (hwr:WR σ ρ base H w) (hfr:Free ρ H.next H'.next) {id:Nat} (h:qB0 elem (lo ++ ln) H=some (id,H')) :
  Okay σ ρ base H H' w (λρ' v'=>Rel σ ρ' (.slc id 0 (len+n) none es) v') ((Builtin.append_ #[t,u] ty #[.slice a len c,x']).run P w):=by
 obtain ⟨i,z,zz⟩:=qHQ (σ:=σ) (ρ:=ρ) hz hσ
 have hbi:i.bytes=by_:=by simp [qFj,zz.info] at hb;exact hb
 have hrun:=qRP (ty:=ty) ht hu hxd zz.info zz.zero zz.size hx hf ho hgt hneed (by rw [hbi];exact hby)
 obtain ⟨rfl,hn,hl,ρ',x1,x2,x3,x4⟩:=qK3 h hσ hwr.drew hfr (Builtin.zeroCells z.cells (grownCap w (len+n) c elem - (len+n))).toList (hlo.append hln)
 refine ⟨_,_,ρ',hrun,x1,x3,qTf x4,?_⟩
 unfold Rel
 have hge:=grownCap_ge w (len+n) c elem
 refine ⟨_,_,_,x2,rfl,.inl ⟨rfl,?_⟩,hge,λk hk=>by cases hk⟩
 simp only [lAp,hol,hvl,Array.length_toList,qN2,zz.zsize,zA]
 rw [← Nat.add_mul,← Nat.add_mul]
 exact Nat.mul_le_mul_right _ (by omega)
theorem qWT {st xt:TypeId} {s x v:AV} {s' x':Value} {ty:TypeId} (h:qJA P st xt s x H=some (v,H')) (hs:Rel σ ρ s s') (hx:Rel σ ρ x x') (hσ:One σ) (hwr:WR σ ρ base H w) (hf:Free ρ H.next H'.next) :
  Okay σ ρ base H H' w (λρ' v'=>Rel σ ρ' v v') ((Builtin.append_ #[st,xt] ty #[s',x']).run P w):=by
 unfold qJA at h
 cases hu:P.underlying st with
 | none=>simp only [hu] at h;exact (qAD h).elim
 | some d=>
   cases hu2:P.underlying xt with
   | none=>cases d <;> simp only [hu,hu2] at h <;> exact (qAD h).elim
   | some xd=>
     cases d with
     | slice elem=>
       simp only [hu,hu2] at h
       cases hn:lenX xd x with
       | none=>simp only [hn] at h;exact (qAD h).elim
       | some n=>
         have hxd:∀ k,xd≠.int k:=by intro k e;subst e;cases hn
         have hlen:qAa x=some n:=by cases xd <;> first | exact hn | cases hn
         cases hz:zeros P elem 0 with
         | none=>simp only [hn,hz] at h;exact (qAD h).elim
         | some p=>
           obtain ⟨cs0,es⟩:=p
           cases hb:qFj P elem with
           | none=>simp only [hn,hz,hb] at h;exact (qAD h).elim
           | some by_=>
             simp only [hn,hz,hb,qA6] at h
             have hsz:sz P elem=some es:=by
              obtain ⟨i,z,zz⟩:=qHQ (σ:=σ) (ρ:=ρ) hz hσ
              simp [sz,zz.info,zz.size]
             have hlo:=qQn (P:=P) hlen hx
             split at h
             ·-- a nil slice
              unfold Rel at hs;subst hs
              split at h
              ·cases qAK h
               have hv:∃ vs:List Value,vs=[]∧(Builtin.firstCells es 0 x').run P w=.ok vs.toArray w:=by
                refine ⟨[],rfl,?_⟩
                unfold qAa at hlen
                split at hlen
                ·cases hlen
                 unfold Rel at hx;obtain ⟨L,off,c,hL,rfl,_⟩:=hx
                 simp [Builtin.firstCells,loadCells,loadCellsFrom]
                ·unfold Rel at hx;subst hx;simp [Builtin.firstCells]
                ·cases hlen
               obtain ⟨vs,rfl,hv⟩:=hv
               have:=qHv (ty:=ty) (a:=none) (len:=0) (c:=0) hu hu2 hxd hsz hlo hv (by omega)
               exact .same this hwr rfl rfl (by unfold Rel;rfl)
              ·rename_i m
               obtain ⟨hcd,h⟩:=qAy h
               rw [Bool.and_eq_true] at hcd
               obtain ⟨l,K,h1,h2⟩:=qAR h
               obtain ⟨id,K2,h3,h4⟩:=qAR h2
               cases qAK h4
               obtain ⟨e1,e2,e3,vs,a1,a2,a3,a4,a5⟩:=qGX (P:=P) h1 hx hlen (Nat.le_refl _) hwr
               have hwr':=hwr.log e1 e2
               have:=qRS (P:=P) (ty:=ty) (H:=K) (H':=H') (a:=none) (len:=0) (c:=0) (olds:=[]) (lo:=[]) (es:=es) hu hu2 hxd hz hb hlo a5 (λw2 _=>by simp [Builtin.firstCells]) (by omega) (by simpa [Nat.ble_eq] using hcd.1) (by simpa [Nat.ble_eq] using hcd.2)
                .nil a2 (by simp) a1 hσ hwr' (by rw [e3];exact hf) (by simpa using h3)
               obtain ⟨b,w',ρ',p1,p2,p3,p4,p5⟩:=this
               exact ⟨b,w',ρ',p1,by rw [← e3];exact p2,p3,p4,by simpa using p5⟩
             ·-- a slice
              rename_i b o len cap es'
              have hcs:=qAy h
              clear h
              obtain ⟨he,h⟩:=hcs
              have he:=bE he
              subst he
              have hsrel:=hs
              unfold Rel at hs
              obtain ⟨L,a,c,hL,rfl,hoff,hlc,hcap⟩:=hs
              have hway:(∃ dead,wayA cap len n=(true,dead)∧len+n≤c)∨
                (wayA cap len n=(false,false)∧c < len+n)∨
                (wayA cap len n=(false,true)∧n≠0):=by
               cases cap with
               | none=>
                 cases hb:Nat.beq n 0 with
                 | true=>have:=bE hb;exact .inl ⟨true,by simp [wayA,hb],by omega⟩
                 | false=>exact .inr (.inr ⟨by simp [wayA,hb],λe=>by subst e;simp at hb⟩)
               | some c'=>
                 have:=hcap c' rfl
                 cases hb:Nat.ble (len+n) c' with
                 | true=>exact .inl ⟨false,by simp [wayA,hb],by rw [this];simpa [Nat.ble_eq] using hb⟩
                 | false=>exact .inr (.inl ⟨by simp [wayA,hb],by rw [this];rw [← Nat.not_le,← Nat.ble_eq,hb];simp⟩)
              rcases hway with ⟨dead,hw1,hle⟩ | ⟨hw1,hgt⟩ | ⟨hw1,hn0⟩
              ·-- in place,for sure
               simp only [hw1] at h
               split at h
               ·cases qAK h
                have hv:(Builtin.firstCells es 0 x').run P w=.ok ([]:List Value).toArray w:=by
                 unfold qAa at hlen
                 split at hlen
                 ·cases hlen
                  unfold Rel at hx;obtain ⟨L,off,c,hL,rfl,_⟩:=hx
                  simp [Builtin.firstCells,loadCells,loadCellsFrom]
                 ·unfold Rel at hx;subst hx;simp [Builtin.firstCells]
                 ·cases hlen
                have:=qHv (ty:=ty) (a:=some a) hu hu2 hxd hsz hlo hv hle
                simp only [qKF,Result.andThen_ok] at this
                exact .same this hwr rfl rfl hsrel
               ·rename_i m
                obtain ⟨l,K,h1,h2⟩:=qAR h
                obtain ⟨_,K2,h3,h4⟩:=qAR h2
                cases qAK h4
                obtain ⟨e1,e2,e3,vs,a1,a2,a3,a4,a5⟩:=qGX (P:=P) h1 hx hlen (Nat.le_refl _) hwr
                obtain ⟨rfl,hoc⟩:a=⟨L.blk,L.sh+o,none⟩∧L.sh+o+c * es≤L.sz:=by rcases hoff with h | h;exact h;omega
                have hwr':=hwr.log e1 e2
                obtain ⟨n1,l1,w',s1,s2,s3⟩:=qFB (P:=P) h3 hσ hwr' hL a2
                have:=qHv (ty:=ty) (a:=some ⟨L.blk,L.sh+o,none⟩) hu hu2 hxd hsz hlo (a5 w rfl) hle
                simp only [qDK,Nat.add_assoc,s1,Result.andThen_ok] at this
                refine ⟨_,w',ρ,this,.refl _ _ _,s2,s3,?_⟩
                unfold Rel
                exact ⟨L,_,c,hL,rfl,.inl ⟨rfl,hoc⟩,hle,hcap⟩
              ·-- a new row,for sure
               simp only [hw1] at h
               have hcs:=qAy h
               clear h
               obtain ⟨hcd,h⟩:=hcs
               rw [Bool.and_eq_true] at hcd
               obtain ⟨lo,K,h1,h2⟩:=qAR h
               obtain ⟨l,K2,h3,h4⟩:=qAR h2
               obtain ⟨_,K3,h5,h6⟩:=qAR h4
               simp only [cond_false] at h5
               cases qAK h5
               obtain ⟨id,K4,h7,h8⟩:=qAR h6
               cases qAK h8
               obtain ⟨e1,e2,e3,olds,b1,b2,b3,b4,b5⟩:=qGX (P:=P) h1 hsrel rfl (Nat.le_refl _) hwr
               have hwr1:=hwr.log e1 e2
               obtain ⟨f1,f2,f3,vs,a1,a2,a3,a4,a5⟩:=qGX (P:=P) h3 hx hlen (Nat.le_refl _) hwr1
               have hwr2:=hwr1.log f1 f2
               have:=qRS (P:=P) (ty:=ty) hu hu2 hxd hz hb hlo a5 b5 hgt (by simpa [Nat.ble_eq] using hcd.1) (by simpa [Nat.ble_eq] using hcd.2) b2 a2 b1 a1 hσ hwr2 (by rw [f3,e3];exact hf) h7
               obtain ⟨b,w',ρ',p1,p2,p3,p4,p5⟩:=this
               exact ⟨b,w',ρ',p1,by rw [← e3,← f3];exact p2,p3,p4,p5⟩
              ·-- nobody knows
               simp only [hw1] at h
               have hcs:=qAy h
               clear h
               obtain ⟨hcd,h⟩:=hcs
               rw [Bool.and_eq_true] at hcd
               obtain ⟨lo,K,h1,h2⟩:=qAR h
               obtain ⟨l,K2,h3,h4⟩:=qAR h2
               obtain ⟨_,K3,h5,h6⟩:=qAR h4
               simp only [cond_true] at h5
               obtain ⟨id,K4,h7,h8⟩:=qAR h6
               cases qAK h8
               obtain ⟨e1,e2,e3,olds,b1,b2,b3,b4,b5⟩:=qGX (P:=P) h1 hsrel rfl (Nat.le_refl _) hwr
               have hwr1:=hwr.log e1 e2
               obtain ⟨f1,f2,f3,vs,a1,a2,a3,a4,a5⟩:=qGX (P:=P) h3 hx hlen (Nat.le_refl _) hwr1
               have hwr2:=hwr1.log f1 f2
               obtain ⟨bk,Kr,g1,g2⟩:=qAR h5
               obtain ⟨gb,g3,g4,g5⟩:=qCL g1
               cases bk with
               | cells e2 ct N=>
                 obtain ⟨hee,g2'⟩:=qAy g2
                 clear g2
                 have hee:=bE hee
                 subst hee
                 obtain ⟨k1,_,k3,k4,k5⟩:=qV0 g2'
                 rw [g4] at k1 k4
                 have k3:∀ j,K3.blks.get j=if b=j then none else K2.blks.get j:=λj=>by rw [k3,g3]
                 have hwr3:=hwr2.kill k3 k4
                 have hn3:K3.next=H.next:=by rw [k5,g5,f3,e3]
                 have hf3:Free ρ K3.next H'.next:=by rw [hn3];exact hf
                 by_cases hroom:c < len+n
                 ·have:=qRS (P:=P) (ty:=ty) hu hu2 hxd hz hb hlo a5 b5 hroom (by simpa [Nat.ble_eq] using hcd.1) (by simpa [Nat.ble_eq] using hcd.2) b2 a2 b1 a1 hσ hwr3 hf3 h7
                  obtain ⟨b,w',ρ',p1,p2,p3,p4,p5⟩:=this
                  exact ⟨b,w',ρ',p1,by rw [← hn3];exact p2,p3,p4,p5⟩
                 ·have hle:len+n≤c:=by omega
                  obtain ⟨rfl,hoc⟩:a=⟨L.blk,L.sh+o,none⟩∧L.sh+o+c * es≤L.sz:=by rcases hoff with h | h;exact h;omega
                  obtain ⟨L',hL',cc,fr,q1,q2,q3,q4,q5⟩:=hwr2.blk b _ gb
                  rw [hL] at hL';cases hL'
                  have hfr:=q2 k1
                  subst hfr
                  have hbase:=hwr2.own b _ L gb hL k1
                  have hmul:(len+n) * es≤c * es:=Nat.mul_le_mul_right _ hle
                  rw [Nat.add_mul] at hmul
                  obtain ⟨w',cc',s1,s2,s3,s4⟩:=qKH (P:=P) (k:=L.sh+o+len * es) vs 0 w cc q1 (by rw [q3];omega) a3
                  have hrun:=qHv (ty:=ty) (a:=some ⟨L.blk,L.sh+o,none⟩) hu hu2 hxd hsz hlo (a5 w rfl) hle
                  simp only [qDK,s1,Result.andThen_ok] at hrun
                  obtain ⟨rfl,hn,hl,ρ',x1,x2,x3,x4⟩:=qNQ h7 hσ hwr3 hf3 (sh:=L.sh+o) s2 hbase (λj bj Lj hj hLj=>by
                    rw [k3] at hj
                    by_cases hbj:b=j
                    ·rw [if_pos hbj] at hj;cases hj
                    ·rw [if_neg hbj] at hj
                     exact (hwr2.inj b j _ _ L Lj gb hj hL hLj k1 hbj).symm) (by
                    have:=b2.length;have:=a2.length
                    simp only [lAp];rw [s3,q3];omega) (λi x hx'=>by
                    have l1:=b2.length
                    have l2:=a2.length
                    by_cases hi:i < lo.length
                    ·rw [List.getElem?_append_left hi] at hx'
                     obtain ⟨y,hy,r⟩:=b2.get i x hx'
                     refine ⟨y,?_,r⟩
                     rw [s4,if_neg (by omega)]
                     have hc:=b4 _ _ rfl i y hy
                     rw [qDK,qKb q1] at hc
                     exact hc
                    ·rw [List.getElem?_append_right (by omega)] at hx'
                     obtain ⟨y,hy,r⟩:=a2.get _ x hx'
                     refine ⟨y,?_,r⟩
                     have hlt:=(gS hy).1
                     rw [s4,if_pos (by omega),← hy]
                     congr 1;omega)
                  refine ⟨_,w',ρ',hrun,by rw [← hn3];exact x1,x3,x4,?_⟩
                  unfold Rel
                  exact ⟨_,_,c,x2,rfl,.inl ⟨rfl,by simp only [Nat.add_zero];rw [s3,q3];exact hoc⟩,hle,λk hk=>by cases hk⟩
               | _=>exact (qAD g2).elim
             ·exact (qAD h).elim
     | _=>simp only [hu,hu2] at h;exact (qAD h).elim
end
end Go.AM
