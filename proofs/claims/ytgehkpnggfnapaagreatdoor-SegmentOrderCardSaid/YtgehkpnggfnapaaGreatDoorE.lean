/- Part E of a calculus over a small memory that is proved to answer as the program does, and of its use for the functions that the law reaches: see the last part. -/
import Derived.Test.YtgehkpnggfnapaaGreatDoorC
import Derived.Test.YtgehkpnggfnapaaGreatDoorG
set_option linter.unusedVariables false
set_option maxRecDepth 100000
namespace Go.AM.FW
open Go Go.Proofs Go.AM.TN
variable {K : AV → Hq → Prop} {s s' s0 : Hq} {v w : AV} {cs : List AV} {F : FG} {R : List SG.Rt} {S : List (List Int × List Int)}
def esN (i:Nat):SG.Es:=⟨3,0,0,0,0,0,0,0,0,(i:Int)+1⟩
theorem zACY {i:Nat} (hi:i < 64) (hK:∀ s',Sub s s'→K (.tup [.agg (esN i).R,.int .i64 0]) s'):wC Tryz.prog XX 40 [.int .i64 (i:Int)] K s:=by
 refine qJR (qAJ λb s1 hb h1 u1=>?_)
 have c1:decide ((i:Int) < 0)=false:=decide_eq_false (by omega)
 have c2:decide ((64:Int)≤(i:Int))=false:=decide_eq_false (by omega)
 simp only [qAM,qAz,qAA,c1,c2,qAQ,qDq,qAf,qAK]
 rw [qAT (by omega) (by omega)]
 have e:qBf .u8 (.int .i64 ((i:Int)+1))=some (.int .u8 ((i:Int)+1)):=by
  show some (AV.int .u8 (qAw .u8 ((i:Int)+1)))=_
  rw [EL.wu8,Int.emod_eq_of_lt (by omega) (by omega)]
 rw [e]
 simp only [qAA]
 refine qAF (a:=(esN i).R) rfl (qAR h1 rfl rfl rfl λs2 h2 u2=>qAF (qAW h2 rfl) ?_)
 exact hK s2 (qAb (u1.sub hb) u2 hb)
noncomputable abbrev Cn (R:List SG.Rt) (i:Nat):List SG.Cd:=SG.qOR (SG.cds (SG.qs Tryz.prog (esN i) R))
noncomputable abbrev Al (R:List SG.Rt) (i:Nat):Int:=SG.fin3 (SG.pG (SG.qs Tryz.prog (esN i) R)) (SG.pA (SG.qs Tryz.prog (esN i) R))
abbrev Fw:=Nat × Int × Int
noncomputable def one (R:List SG.Rt) (i:Nat) (bd:Int):List Fw:=if (EL.elect (Al R i) (Cn R i) bd).2=true then [(i,bd,(EL.elect (Al R i) (Cn R i) bd).1)] else []
noncomputable def seg (R:List SG.Rt) (i:Nat) (x:List Int × List Int):List Fw:=if x.1.length < 2 then [] else (x.2.map (one R i)).flatten
noncomputable def fwL (S:List (List Int × List Int)) (R:List SG.Rt):Nat→List Fw
 | 0=>[]
 | n+1=>fwL S R n ++ (match S[n]? with
   | some x=>seg R n x
   | none=>[])
def fwR (p:Fw):List AV:=(esN p.1).R ++ [.int .i64 p.2.1,.int .u32 p.2.2]
theorem qZK {l:List Int} {n:Int} (h:l.Pairwise (· < ·)) (h2:∀ x∈l,0≤x∧x < n):(l.length:Int)≤n∨l=[]:=by
 have key:∀ (j:Nat) (hj:j < l.length),(j:Int)≤l[j]:=by
  intro j
  induction j with
  | zero=>exact λhj=>(h2 _ (List.getElem_mem hj)).1
  | succ j ih=>
    intro hj
    have h3:=ih (by omega)
    have h4:=(List.pairwise_iff_getElem.1 h) j (j+1) (by omega) hj (by omega)
    omega
 by_cases e:l=[]
 ·exact .inr e
 ·have hl:0 < l.length:=List.length_pos_iff.2 e
  have h3:=key (l.length - 1) (by omega)
  have h4:=(h2 _ (List.getElem_mem (show l.length - 1 < l.length by omega))).2
  exact .inl (by omega)
theorem zAEo {i:Nat} {bd:Int}:(one R i bd).length≤1:=by unfold one;split <;> simp
theorem qWE {i:Nat} (l:List Int):((l.map (one R i)).flatten).length≤l.length:=by
 induction l with
 | nil=>simp
 | cons x l ih=>
   have:=zAEo (R:=R) (i:=i) (bd:=x)
   simp only [List.map_cons,List.flatten_cons,List.length_append,List.length_cons]
   omega
theorem qUA (h:∀ x∈S,x.2.length≤32):∀ n:Nat,(fwL S R n).length≤32 * n
 | 0=>by simp [fwL]
 | n+1=>by
   have ih:=qUA h n
   unfold fwL
   rw [List.length_append]
   cases e:S[n]? with
   | none=>simp only [List.length_nil];omega
   | some x=>
     have h1:=h x (List.mem_of_getElem? e)
     have:(seg R n x).length≤x.2.length:=by
      unfold seg
      split
      ·simp
      ·exact qWE _
     simp only
     omega
theorem zACq {P:Program} {x:SG.Es}:SG.qs P x (R.filter λr=>r.kd == 4)=SG.qs P x R:=by
 unfold SG.qs
 rw [List.filter_filter]
 congr 1
 refine List.filter_congr λr _=>?_
 unfold SG.abt
 cases r.kd == 4 <;> simp
theorem qZY {p:AV} {k:Nat} {l:List AV} (hs:Sub s s') (e:rdN s k p=some l):rdN s' k p=some l:=by
 unfold rdN at e ⊢
 split at e
 ·rename_i b o
  split at e
  ·rename_i t ty cs h
   rw [hs _ _ h]
   exact e
  ·cases e
 ·cases e
theorem qKW {zs c:List AV} (h:c.length=zs.length):qBO (repl 1 zs) [(0,zs.length,.agg c)]=some c:=by
 have e0:repl 1 zs=zs:=by simp [repl]
 rw [e0]
 have e2:Nat.beq c.length zs.length=true:=by rw [h];exact Nat.beq_refl _
 have e3:Nat.ble (0+c.length) zs.length=true:=Nat.ble_eq_true_of_le (by omega)
 simp only [qBO,qGx,e2,e3,Bool.and_self,cond_true]
 unfold qAq
 rw [List.take_zero,List.nil_append,List.drop_eq_nil_of_le (by omega),List.append_nil]
theorem qQu {es:Nat} {e:TypeId} {b:Nat} {t:Bool} {r:List AV} (h:s b=some (t,.cells e r)) (hl:r.length=es):SlR es s (.slc b 0 1 (some 1) es) [r]:=
 SlR.mk (λx hx=>by rw [List.mem_singleton.1 hx];exact hl) (by simpa using h) rfl (λc e=>by cases e;simp)
def OwR (s0 s:Hq) (v:AV) (R:List SG.Rt):Prop:=∃ rows:List (List AV),AccR 51 38 s0 s v rows∧rows.length=R.length∧∀ (j:Nat) (r:SG.Rt),R[j]?=some r→∃ p q m,rows[j]?=some (r.row p q m)∧SG.RtAt s0 r p q m
theorem OwR.sub (h:OwR s0 s v R) (k:Sub s s'):OwR s0 s' v R:=by
 obtain ⟨rows,h1,h2,h3⟩:=h
 exact ⟨rows,h1.sub k,h2,h3⟩
theorem OwR.rts (h:OwR s0 s v R) (k:Sub s0 s):SG.Rts s v R:=by
 obtain ⟨rows,h1,h2,h3⟩:=h
 exact ⟨rows,h1.sl,h2,λj r hj=>by obtain ⟨p,q,m,a,b⟩:=h3 j r hj;exact ⟨p,q,m,a,b.sub k⟩⟩
def offV (v:AV) (t:Hq):Hq:=match v with
 | .slc b _ _ _ _=>λi=>if i=b then none else t i
 | _=>t
theorem qHS {t:Hq}:Sub (offV v t) t:=λi x hi=>by
 unfold offV at hi
 split at hi
 ·split at hi
  ·cases hi
  ·exact hi
 ·exact hi
theorem _root_.Go.AM.AccR.base {e:TypeId} {es:Nat} {rows:List (List AV)} {t:Hq} (h:AccR e es s0 s v rows) (k:Sub t s0):AccR e es t s v rows:=by
 obtain ⟨h1,h2⟩:=h
 refine ⟨h1,?_⟩
 rcases h2 with h2 | ⟨b,a1,a2,a3⟩
 ·exact .inl h2
 ·refine .inr ⟨b,?_,a2,a3⟩
  cases q:t b with
  | none=>rfl
  | some x=>rw [k _ _ q] at a1;cases a1
theorem _root_.Go.AM.AccR.off {e:TypeId} {es:Nat} {rows:List (List AV)} {t t2:Hq} (h:AccR e es t s v rows) (k:Sub t t2):Sub t (offV v t2):=λi x hi=>by
 rcases h.2 with ⟨rfl,_⟩ | ⟨b,a1,rfl,_⟩
 ·exact k _ _ hi
 ·unfold offV
  simp only
  rw [if_neg (qBe a1 hi)]
  exact k _ _ hi
theorem _root_.Go.AM.AccR.off1 {e:TypeId} {es:Nat} {rows:List (List AV)} {t t2:Hq} {c:Nat} {x:Bool × Blk} (h:AccR e es t s v rows) (hc:s c=none) (hx:t2 c=some x):offV v t2 c=some x:=by
 rcases h.2 with ⟨rfl,_⟩ | ⟨b,a1,rfl,a3⟩
 ·exact hx
 ·unfold offV
  simp only
  rw [if_neg,hx]
  rintro rfl
  rw [hc] at a3;cases a3
theorem _root_.Go.AM.AccR.after {e:TypeId} {es:Nat} {rows:List (List AV)} {t t2 s1 s2:Hq} (h:AccR e es t s v rows) (hk:Sub s t2) (h1:∀ i,offV v t2 i=none→t2 i≠none→s2 i=t2 i∧s1 i=none):AccR e es s1 s2 v rows:=by
 refine ⟨h.1,?_⟩
 rcases h.2 with h2 | ⟨b,a1,rfl,a3⟩
 ·exact .inl h2
 ·have q:=hk _ _ a3
  obtain ⟨z1,z2⟩:=h1 b (by unfold offV;simp) (by rw [q];simp)
  exact .inr ⟨b,z2,rfl,by rw [z1];exact q⟩
theorem zAAM {i:Nat} {r:SG.Rt} {f:SG.Rt→Bool} (h:R[i]?=some r):(R.take (i+1)).filter f=(R.take i).filter f ++ (if f r=true then [r] else []):=by
 rw [List.take_add_one,h,List.filter_append]
 congr 1
 simp only [Option.toList_some,List.filter_cons,List.filter_nil]
theorem qLY (hv0:Valid F) (z:Sz F) (hF:FabR s cs F) (hR:SG.Rts s v R) (hG:SG.GlK s) (hok:∀ r∈R,r.ok) (hl:R.length≤100) (h0:¬ Valid F→∀ s',Sub s s'→K .nilslc s') (hK:Valid F→∀ v' s',Sub s s'→SlR 12 s' v' ((fwL F.S R F.S.length).map fwR)→K v' s'):wC Tryz.prog XX 19 [.agg cs,v] K s:=by
 obtain ⟨v2,v3,v4,v5,v6,v7,rfl,hL⟩:=hF
 refine qNX ⟨hL.all,qAJ λb0 s1 hb0 q0 u0=>?_⟩
 have q0:s1 b0=some (false,.cells 68 (csG F v2 v3 v4 v5 v6 v7)):=q0
 have k1:=u0.sub hb0
 refine qAF (qAW q0 rfl) (qVD hv0 z ⟨v2,v3,v4,v5,v6,v7,rfl,hL.sub k1⟩ (λhv s4 k4=>?_) (λhv e p i s4 he k4=>?_))
 rotate_left
 ·refine qAF (a:=.int .i64 e) rfl (qAF (a:=.str p) rfl (qAF (a:=.int .i64 i) rfl ?_))
  have:(!(e == 0))=true:=by simpa using he
  simp only [qAe,qAZ,Bool.true_bne,qAA,this,qAh]
  exact h0 hv s4 (k1.trans k4)
 refine qAF (a:=.int .i64 0) rfl (qAF (a:=.str ⟨#[]⟩) rfl (qAF (a:=.int .i64 0) rfl ?_))
 refine qAF (a:=.bool false) rfl ?_
 simp only [qAQ]
 have hok5:SegOk F:=hv 5 (by omega)
 have hdm:DomOk F:=hv 4 (by omega)
 have hb32:∀ x∈F.S,x.2.length≤32:=λx hx=>by
  have row:=hok5.row x hx
  have:=hdm.n
  rcases qZK row.2.2.2 row.2.1.2 with h | h
  ·omega
  ·exact absurd h row.1.2
 have k14:Sub s s4:=k1.trans k4
 have hR4:=hR.sub k14
 have q04:=k4 _ _ q0
 simp only [hR4.len,qAA]
 refine ⟨λys t m=>∃ (i:Nat) (w:AV),ys=[w,.int .i64 (i:Int)]∧i≤R.length∧m=R.length - i∧Sub s4 t∧OwR s4 t w ((R.take i).filter λr=>r.kd == 4),⟨_,0,_,rfl,by omega,rfl,.refl _,[],⟨(λr h=>by cases h),.inl ⟨rfl,rfl⟩⟩,by simp,λj r h=>by simp at h⟩,?_⟩
 rintro f t m ⟨i,w,hy,hi,rfl,kt,how⟩
 simp only [List.cons.injEq,and_true] at hy
 rw [hy.1,hy.2]
 clear hy
 simp only [qI3,qAM,qAA]
 refine qAC (λhlt=>?_) (λhge=>?_)
 ·have hlt:i < R.length:=by have:=of_decide_eq_true hlt;omega
  have hr:R[i]?=some R[i]:=List.getElem?_eq_getElem hlt
  generalize R[i]=r at hr
  obtain ⟨b,o,p,pq,mm,e1,e2,_,e4⟩:=hR4.get hr
  simp only [e1,qZY kt e2,qAA]
  refine qAJ λb14 s15 hb14 h15 u15=>qAR h15 rfl rfl e4.one λs16 h16 u16=>?_
  have k16:Sub t s16:=qAb (u15.sub hb14) u16 hb14
  have hkd:rd1 s16 (.ptr b14 0)=some (.int .i64 r.kd):=by rw [qAO h16];rfl
  simp only [qAG,Nat.zero_add,qAA,hkd,qAe,qAZ,Bool.false_bne]
  have hstep:=zAAM (f:=λr=>r.kd == 4) hr
  refine qAC (λq=>?_) (λq=>?_)
  ·rw [qAW h16 (SG.Rt.row_len r)]
   simp only [qAA]
   refine qAF (a:=r.row p pq mm) (qKW rfl) ⟨e4.one,qAJ λb24 s25 hb24 h25 u25=>?_⟩
   have k25:Sub t s25:=k16.trans (u25.sub hb24)
   obtain ⟨rows,a1,a2,a3⟩:=how
   refine (a1.sub k25).app (m:=[r.row p pq mm]) (qQu h25 (SG.Rt.row_len r)) (by simp) ?_ (kt.trans k25) λv26 s27 a4 k27=>?_
   ·have:=List.length_filter_le (λr:SG.Rt=>r.kd == 4) (R.take i)
    rw [List.length_take] at this
    simp only [List.length_cons,List.length_nil]
    omega
   simp only [qEU,qAK,qAA]
   rw [qAT (by omega) (by omega)]
   refine ⟨_,by omega,i+1,_,rfl,by omega,rfl,k27,?_⟩
   rw [hstep,if_pos q]
   refine ⟨rows ++ [r.row p pq mm],a4,by simp [a2],λj r' hj=>?_⟩
   by_cases hj':j < rows.length
   ·rw [List.getElem?_append_left (by rw [← a2];exact hj')] at hj
    obtain ⟨p',q',m',z1,z2⟩:=a3 j r' hj
    exact ⟨p',q',m',by rw [List.getElem?_append_left hj'];exact z1,z2⟩
   ·rw [List.getElem?_append_right (by omega)] at hj
    have:j=rows.length:=by
     have:=(List.getElem?_eq_some_iff.1 hj).1
     simp only [List.length_singleton] at this
     omega
    subst this
    rw [a2,Nat.sub_self] at hj
    simp only [List.getElem?_cons_zero,Option.some.injEq] at hj
    subst hj
    exact ⟨p,pq,mm,by rw [List.getElem?_append_right (by omega),Nat.sub_self];rfl,e4⟩
  ·simp only [qEU,qAK,qAA]
   rw [qAT (by omega) (by omega)]
   refine ⟨_,by omega,i+1,_,rfl,by omega,rfl,kt.trans k16,?_⟩
   rw [hstep,if_neg (by rw [q];simp),List.append_nil]
   exact how.sub k16
 ·have hge:i=R.length:=by have:=of_decide_eq_false hge;omega
  subst hge
  rw [List.take_length] at how
  have ownR:=how.rts kt
  have q0t:=kt _ _ q04
  have hLt:=hL.sub (k14.trans kt)
  have lenS:qAS v5=some F.S.length:=hL.S.len
  simp only [qAG,Nat.zero_add,qAA,qAO q0t,csG5,lenS]
  refine ⟨λys t2 m=>∃ (i:Nat) (w2:AV),ys=[w2,.int .i64 (i:Int)]∧i≤F.S.length∧m=F.S.length - i∧Sub t t2∧AccR 56 12 t t2 w2 ((fwL F.S R i).map fwR),⟨_,0,_,rfl,by omega,rfl,.refl _,λr h=>(by cases h),.inl ⟨rfl,rfl⟩⟩,?_⟩
  rintro f2 t2 m ⟨i,w2,hy,hi2,rfl,kt2,acc⟩
  simp only [List.cons.injEq,and_true] at hy
  rw [hy.1,hy.2]
  clear hy
  simp only [qI4,qAM,qAA]
  have hfl:=qUA (R:=R) hb32 i
  have hS64:=hok5.n
  refine qAC (λhlt=>?_) (λhge=>?_)
  rotate_left
  ·have hge:i=F.S.length:=by have:=of_decide_eq_false hge;omega
   subst hge
   exact hK hv _ _ (k14.trans (kt.trans kt2)) acc.sl
  have hlt:i < F.S.length:=by have:=of_decide_eq_true hlt;omega
  have hx:F.S[i]?=some F.S[i]:=List.getElem?_eq_getElem hlt
  have hx32:=hb32 _ (List.getElem_mem hlt)
  generalize F.S[i]=x at hx hx32
  obtain ⟨pb,po,l1,l2,e1,e2,_,_,g1,g2⟩:=hLt.S.at hx
  simp only [e1,qZY kt2 e2,qAA]
  refine qAJ λb36 s37 hb36 h36 u36=>qAR h36 rfl rfl (by simp [g1.one,g2.one]) λs38 h38 u38=>?_
  have k38:Sub t2 s38:=qAb (u36.sub hb36) u38 hb36
  have a0:rd1 s38 (.ptr b36 0)=some l1:=by rw [qAO h38];rfl
  have n1:qAS l1=some x.1.length:=by rw [g1.len,qH0]
  have n2:qAS l2=some x.2.length:=by rw [g2.len,qH0]
  have enext:fwL F.S R (i+1)=fwL F.S R i ++ seg R i x:=by
   show fwL F.S R i ++ _=_
   rw [hx]
  simp only [qAG,Nat.zero_add,qAA,a0,n1,qAM]
  refine qAC (λq=>?_) (λq=>?_)
  ·have q:x.1.length < 2:=by have:=of_decide_eq_true q;omega
   simp only [qEO,qAK,qAA]
   rw [qAT (by omega) (by omega)]
   refine ⟨_,by omega,i+1,_,rfl,by omega,rfl,kt2.trans k38,?_⟩
   rw [enext]
   unfold seg
   rw [if_pos q,List.append_nil]
   exact acc.sub k38
  ·have q:¬ x.1.length < 2:=by have:=of_decide_eq_false q;omega
   refine zACY (by omega) λs45 k45=>?_
   refine qAF (a:=.agg (esN i).R) rfl (qAF (a:=.int .i64 0) rfl ?_)
   refine qAJ λb48 s49 hb48 h49 u49=>qAR h49 rfl rfl rfl λs50 h50 u50=>?_
   have k50:Sub s45 s50:=qAb (u49.sub hb48) u50 hb48
   refine qAF (qAW h50 rfl) ?_
   have kt50:Sub t s50:=kt2.trans (k38.trans (k45.trans k50))
   have hGt:SG.GlK s50:=hG.sub (k14.trans (kt.trans kt50))
   have accs:=acc.sub (k38.trans (k45.trans k50))
   have koff:Sub t (offV w2 s50):=acc.off kt50
   have n48:t2 b48=none:=by
    cases e:t2 b48 with
    | none=>rfl
    | some y=>rw [k45 _ _ (k38 _ _ e)] at hb48;cases hb48
   have n36:t2 b36=none:=hb36
   have o48:offV w2 s50 b48=_:=acc.off1 n48 h50
   have o36:offV w2 s50 b36=_:=acc.off1 n36 (k50 _ _ (k45 _ _ h38))
   refine wC.part qAy qHS (SG.qTj (x:=esN i) (ownR.sub koff) (hG.sub (k14.trans (kt.trans koff))) (λr hr=>hok r ((List.mem_filter.1 hr).1)) (by have:=List.length_filter_le (λr:SG.Rt=>r.kd == 4) R;omega) λv52 s51 k51 hc s53 k53 hout=>?_)
   rw [zACq] at hc
   rw [zACq]
   have acc53:=acc.after (k38.trans (k45.trans k50)) hout
   refine qAF (a:=v52) rfl (qAF (a:=.int .i64 (Al R i)) rfl ?_)
   have h38':=k53 _ _ (k51 _ _ o36)
   have a1:rd1 s53 (.ptr b36 1)=some l2:=by rw [qAO h38'];rfl
   simp only [qAG,Nat.zero_add,qAA,a1,n2]
   have hcl:(Cn R i).length≤1000:=by
    have h1:=SG.qQD (SG.cds (SG.qs Tryz.prog (esN i) R))
    rw [SG.qRm] at h1
    have h2:=SG.qVM (P:=Tryz.prog) (x:=esN i) (R:=R)
    exact Nat.le_trans h1 (by omega)
   have kb:Sub t s51:=koff.trans k51
   have h51:s51 b48=_:=k51 _ _ o48
   refine ⟨λys t3 m=>∃ (k:Nat) (w3:AV),ys=[w3,.int .i64 (k:Int)]∧k≤x.2.length∧m=x.2.length - k∧Sub s51 t3∧AccR 56 12 s51 t3 w3 ((fwL F.S R i ++ ((x.2.take k).map (one R i)).flatten).map fwR),⟨_,0,_,rfl,by omega,rfl,k53,?_⟩,?_⟩
   ·rw [List.take_zero,List.map_nil,List.flatten_nil,List.append_nil]
    exact acc53
   rintro f3 t3 m ⟨k,w3,hy,hk3,rfl,k3,acc3⟩
   simp only [List.cons.injEq,and_true] at hy
   rw [hy.1,hy.2]
   clear hy
   simp only [qI2,qAM,qAA]
   refine qAC (λhlt3=>?_) (λhge3=>?_)
   rotate_left
   ·have hge3:k=x.2.length:=by have:=of_decide_eq_false hge3;omega
    subst hge3
    simp only [qEO,qAK,qAA]
    rw [qAT (by omega) (by omega)]
    refine ⟨_,by omega,i+1,_,rfl,by omega,rfl,kb.trans k3,?_⟩
    rw [enext]
    unfold seg
    rw [if_neg q]
    rw [List.take_length] at acc3
    exact acc3.base kb
   have hlt3:k < x.2.length:=by have:=of_decide_eq_true hlt3;omega
   obtain ⟨p61,c1,c2⟩:=(g2.sub (kb.trans k3)).get (i:=k) (by rw [qH0];exact hlt3)
   rw [qQQ hlt3] at c2
   have hbd:x.2[k]?=some x.2[k]:=List.getElem?_eq_getElem hlt3
   generalize x.2[k]=bd at c2 hbd
   rw [c1]
   simp only [qAA,c2]
   have kn:((x.2.take (k+1)).map (one R i)).flatten=((x.2.take k).map (one R i)).flatten ++ one R i bd:=by
    rw [List.take_add_one,hbd]
    simp
   have hlen3:(fwL F.S R i ++ ((x.2.take k).map (one R i)).flatten).length+1≤16777216:=by
    have:=qWE (R:=R) (i:=i) (x.2.take k)
    rw [List.length_take] at this
    rw [List.length_append]
    omega
   have koff3:Sub s51 (offV w3 t3):=acc3.off k3
   refine wC.part qAy qHS (EL.zAAX (l:=Cn R i) (hc.sub koff3) hcl λs63 k63 s64 k64 hout3=>?_)
   have acc4:=acc3.after (.refl _) hout3
   have kb4:Sub s51 s63:=koff3.trans k63
   refine qAF (a:=.int .u32 (EL.elect (Al R i) (Cn R i) bd).1) rfl (qAF (a:=.bool (EL.elect (Al R i) (Cn R i) bd).2) rfl ?_)
   refine qAC (λe=>?_) (λe=>?_)
   ·refine qAF (qAW (k64 _ _ (kb4 _ _ h51)) rfl) (qAF (a:=fwR (i,bd,(EL.elect (Al R i) (Cn R i) bd).1)) rfl (qAF (a:=fwR (i,bd,(EL.elect (Al R i) (Cn R i) bd).1)) (qKW rfl) ⟨rfl,qAJ λb71 s72 hb71 h72 u72=>?_⟩))
    have k72:=u72.sub hb71
    refine (acc4.sub k72).app (m:=[fwR (i,bd,(EL.elect (Al R i) (Cn R i) bd).1)]) (qQu h72 rfl) (by simp) (by rw [List.length_map];exact hlen3) (k64.trans k72) λv73 s74 a4 k74=>?_
    simp only [qES,qAK,qAA]
    rw [qAT (by omega) (by omega)]
    refine ⟨_,by omega,k+1,_,rfl,by omega,rfl,kb4.trans k74,?_⟩
    rw [kn]
    unfold one at a4 ⊢
    rw [if_pos e]
    rw [← List.append_assoc,List.map_append]
    exact a4.base kb4
   ·simp only [qES,qAK,qAA]
    rw [qAT (by omega) (by omega)]
    refine ⟨_,by omega,k+1,_,rfl,by omega,rfl,kb4.trans k64,?_⟩
    rw [kn]
    have:one R i bd=[]:=by
     unfold one
     rw [if_neg (by rw [e];simp)]
    rw [this,List.append_nil]
    exact acc4.base kb4
end Go.AM.FW
set_option maxRecDepth 100000
namespace Go.AM.TN
open Go Go.Proofs
variable {K : AV → Hq → Prop} {s s' : Hq} {cs : List AV}
theorem qPO {α β γ:Type} {f:Nat→α→β} {g:β→γ} {l:List α}:(l.mapIdx f).map g=l.mapIdx λi x=>g (f i x):=by
 apply List.ext_getElem?
 intro i
 simp only [List.getElem?_map,List.getElem?_mapIdx,Option.map_map]
 rfl
def ni (l:List Nat):List Int:=l.map λ(n:Nat)=>(n:Int)
theorem zAG0 {l:List Nat}:ix (ni l)=iz l:=by unfold ix ni iz;simp
def tgN (i:Nat):Int × Int:=(100+(i:Int),900+(i:Int))
def bgN (i:Nat) (x:Bd):BG:=((x.1:Int),10+(i:Int),500+(i:Int),subN i x.2,lenN x.2,gwN i x.2)
def hgN (i:Nat) (x:Hst):R4:=(2199023951872+(i:Int),ipN i x,(x.1:Int),sgN x)
def ggN (x:Lkg):R4:=((x.1:Int),(x.2.1:Int),pfN x.2.2,plN x.2.2)
def NFab.toG (F:NFab):FG:=⟨F.x.lf,F.x.sp,F.x.el,F.x.hz,F.x.ro,F.x.su,F.x.tr,F.x.de,9,F.x.ag,20,5,30,F.L,(List.range F.n).map tgN,F.B.mapIdx bgN,F.S.map λx=>(ni x.1,ni x.2),F.H.mapIdx hgN,F.G.map ggN⟩
theorem NFR.fab {F:NFab} (h:NFR s cs F):FabR s cs F.toG:=by
 obtain ⟨v2,v3,v4,v5,v6,v7,rfl,h2,h3,h4,h5,h6,h7⟩:=h.ex
 refine ⟨v2,v3,v4,v5,v6,v7,rfl,⟨h2,?_,?_,?_,?_,?_⟩⟩
 ·show SlR 2 s v3 (((List.range F.n).map tgN).map tgC)
  rw [List.map_map]
  exact h3
 ·show SlR 6 s v4 ((F.B.mapIdx bgN).map bgC)
  rw [qPO]
  exact h4
 ·obtain ⟨vs,a1,a2,a3⟩:=h5
  refine ⟨vs,a1,by show vs.length=(F.S.map _).length;rw [a2,List.length_map],λi q x hq hx=>?_⟩
  have hx:(F.S.map λx=>(ni x.1,ni x.2))[i]?=some x:=hx
  rw [List.getElem?_map] at hx
  cases e:F.S[i]? with
  | none=>rw [e] at hx;cases hx
  | some y=>
    rw [e] at hx
    cases hx
    obtain ⟨b1,b2⟩:=a3 i q y hq e
    simp only [zAG0]
    exact ⟨b1,b2⟩
 ·show SlR 4 s v6 ((F.H.mapIdx hgN).map hgC)
  rw [qPO]
  exact h6
 ·show SlR 4 s v7 ((F.G.map ggN).map ggC)
  rw [List.map_map]
  exact h7
theorem qYz {l:List Nat} {x:Int}:x∈ni l↔∃ n∈l,(n:Int)=x:=by unfold ni;simp
theorem qZh {l:List Nat} (h:l.Pairwise (· < ·)):(ni l).Pairwise (· < ·):=by
 unfold ni
 rw [List.pairwise_map]
 exact h.imp λh=>by omega
theorem qYb:∀ i:Nat,i < 4→qH6 (167772160+(i:Int) * 65536) 24=true∧qH6 (167772160+(i:Int) * 65536) 16=true∧qLf (167772160+(i:Int) * 65536) 24 (167772160+(i:Int) * 65536+1)=true:=by decide +kernel
theorem zAFr:∀ i:Nat,i < 4→∀ j:Nat,j < i→qE2 (167772160+(i:Int) * 65536) 24 (167772160+(j:Int) * 65536)=false∧qE2 (167772160+(j:Int) * 65536) 24 (167772160+(i:Int) * 65536)=false:=by decide +kernel
theorem zAFb:∀ j:Nat,j < 4→∀ i:Nat,i < 8→qLf (167772160+(j:Int) * 65536) 24 (167772160+(j:Int) * 65536+(10+(i:Int)))=true:=by decide +kernel
theorem zAGi:∀ i:Nat,i < 8→qXO (2199023951872+(i:Int))=false:=by decide +kernel
theorem zAD1:qH6 0 0=true:=by decide +kernel
theorem qGy {α β:Type} {f:Nat→α→β} {l:List α} {i:Nat} {y:β} (h:y∈(l.mapIdx f).take i):∃ j x,j < i∧l[j]?=some x∧y=f j x:=by
 obtain ⟨j,hj,e⟩:=List.getElem_of_mem h
 rw [List.length_take,List.length_mapIdx] at hj
 rw [List.getElem_take,List.getElem_mapIdx] at e
 exact ⟨j,l[j],by omega,List.getElem?_eq_getElem (by omega),e.symm⟩
theorem qL9 {α β:Type} {f:Nat→α→β} {l:List α} {i:Nat} {y:β} (h:(l.mapIdx f)[i]?=some y):∃ x,l[i]?=some x∧y=f i x:=by
 rw [List.getElem?_mapIdx] at h
 cases e:l[i]? with
 | none=>rw [e] at h;cases h
 | some x=>rw [e] at h;cases h;exact ⟨x,rfl,rfl⟩
theorem qQN {α:Type} {f:α→List Int} {n:Int}:∀ {l:List α},(∀ x∈l,(f x).Nodup)→((l.map f).flatten).count n≤l.length
 | [],_=>by simp
 | x :: l,h=>by
   have ih:=qQN (n:=n) (λy hy=>h y (List.mem_cons_of_mem _ hy))
   have h1:(f x).count n≤1:=List.nodup_iff_count.1 (h x List.mem_cons_self) n
   simp only [List.map_cons,List.flatten_cons,List.count_append,List.length_cons]
   omega
theorem NFok.valid {F:NFab} (h:NFok F):Valid F.toG:=by
 have hx:=h.x
 intro i hi
 match i,hi with
 | 0,_=>
   have:=hx.lf;have:=hx.sp;have:=hx.el;have:=hx.hz;have:=hx.ro
   exact ⟨by show 1≤(F.x.lf:Int)∧(F.x.lf:Int)≤32;omega,by show 0≤(F.x.sp:Int)∧(F.x.sp:Int)≤32;omega,by show (F.x.lf:Int)+F.x.sp≤32;omega,by show 0≤(F.x.el:Int)∧(F.x.el:Int)≤2;omega,by show 0≤(F.x.hz:Int)∧(F.x.hz:Int)≤1;omega,by show 0≤(F.x.ro:Int)∧(F.x.ro:Int)≤1;omega⟩
 | 1,_=>
   have:=hx.de;have:=hx.ag
   exact ⟨by show 1≤(F.x.de:Int)∧(F.x.de:Int)≤100;omega,by show (3:Int)≤9∧(9:Int)≤1000;omega,by show 1≤(F.x.ag:Int)∧(F.x.ag:Int)≤10000;omega,by show (0:Int)≤20∧(20:Int)≤1000;omega,by show (1:Int)≤5∧(5:Int)≤100;omega,by show (1:Int)≤30∧(30:Int)≤10000;omega⟩
 | 2,_=>
   refine ⟨Nat.le_trans h.Ln (by omega),λi x hi=>⟨?_,?_⟩⟩
   ·have hi:F.L[i]?=some x:=hi
    obtain ⟨a,b,c⟩:=h.L.2 x (List.mem_of_getElem? hi)
    exact ⟨a,⟨b.1,by have:=b.2;show x.2.1 < (F.x.lf:Int)+F.x.sp;omega⟩,c.1,by omega⟩
   ·have hi:F.L[i]?=some x:=hi
    show (x.1,x.2.1) ∉ (F.L.take i).map λx=>(x.1,x.2.1)
    rw [List.map_take]
    exact qQI h.L.1 i _ (by rw [List.getElem?_map,hi];rfl)
 | 3,_=>
   have hn:=h.n
   have at_:∀ (i:Nat) x,((List.range F.n).map tgN)[i]?=some x→i < F.n∧x=tgN i:=λi x hi=>by
    rw [List.getElem?_map] at hi
    by_cases e:i < F.n
    ·rw [List.getElem?_range e] at hi;cases hi;exact ⟨e,rfl⟩
    ·rw [List.getElem?_eq_none (by simpa using e)] at hi;cases hi
   have tk:∀ (i:Nat) y,y∈((List.range F.n).map tgN).take i→∃ j,j < i∧y=tgN j:=λi y hy=>by
    obtain ⟨j,hj,e⟩:=List.getElem_of_mem hy
    rw [List.length_take] at hj
    rw [List.getElem_take] at e
    refine ⟨j,by omega,?_⟩
    rw [← e]
    simp
   refine ⟨by show ((List.range F.n).map tgN).length≤16;simp;omega,λi x hi=>?_⟩
   obtain ⟨a,rfl⟩:=at_ i x hi
   refine ⟨⟨by show (1:Int)≤100+(i:Int);omega,by show (100:Int)+(i:Int)≤16777215;omega,by show (900:Int)+(i:Int)≠0;omega⟩,?_,?_⟩
   ·intro hm
    obtain ⟨y,hy,e⟩:=List.mem_map.1 hm
    obtain ⟨j,hj,rfl⟩:=tk i y hy
    have e:(100:Int)+(j:Int)=100+(i:Int):=e
    omega
   ·intro hm
    obtain ⟨y,hy,e⟩:=List.mem_map.1 hm
    obtain ⟨j,hj,rfl⟩:=tk i y hy
    have e:(900:Int)+(j:Int)=900+(i:Int):=e
    omega
 | 4,_=>
   have hB:=h.Bn
   have hT:∀ y∈(List.range F.n).map tgN,∃ j:Nat,y=tgN j:=λy hy=>by
    obtain ⟨j,_,e⟩:=List.mem_map.1 hy
    exact ⟨j,e.symm⟩
   refine ⟨by show (F.B.mapIdx bgN).length≤32;simp;omega,λi y hi=>?_⟩
   have hi:(F.B.mapIdx bgN)[i]?=some y:=hi
   obtain ⟨x,hx,rfl⟩:=qL9 hi
   have hi4:i < 4:=by have:=(List.getElem?_eq_some_iff.1 hx).1;omega
   have hxn:=h.B x (List.mem_of_getElem? hx)
   refine ⟨⟨⟨by show (0:Int)≤(x.1:Int);omega,by show (x.1:Int) < (((List.range F.n).map tgN).length:Int);simp;exact hxn⟩,⟨by show (1:Int)≤10+(i:Int);omega,by show 10+(i:Int)≤16777215;omega⟩,by show 500+(i:Int)≠0;omega⟩,?_,?_,?_,?_,?_⟩
   ·intro hm
    obtain ⟨y,hy,e⟩:=List.mem_map.1 hm
    obtain ⟨j,x',hj,_,rfl⟩:=qGy hy
    have e:(10:Int)+(j:Int)=10+(i:Int):=e
    omega
   ·intro hm
    obtain ⟨y,hy,e⟩:=List.mem_map.1 hm
    obtain ⟨j,x',hj,_,rfl⟩:=qGy hy
    have e:(500:Int)+(j:Int)=500+(i:Int):=e
    omega
   ·refine List.any_eq_false.2 λy hy=>?_
    obtain ⟨j,rfl⟩:=hT y hy
    show ¬ (((100:Int)+(j:Int) == 10+(i:Int))=true)
    rw [beq_iff_eq];omega
   ·refine List.any_eq_false.2 λy hy=>?_
    obtain ⟨j,hj,rfl⟩:∃ j:Nat,j < F.n∧y=tgN j:=by
     obtain ⟨j,hj,e⟩:=List.mem_map.1 hy
     exact ⟨j,List.mem_range.1 hj,e.symm⟩
    have:=h.n
    show ¬ (((900:Int)+(j:Int) == 500+(i:Int))=true)
    rw [beq_iff_eq];omega
   ·show (gwN i x.2=0→subN i x.2=0∧lenN x.2=0)∧(gwN i x.2≠0→qH6 (subN i x.2) (lenN x.2)=true∧(8≤lenN x.2∧lenN x.2≤30)∧qLf (subN i x.2) (lenN x.2) (gwN i x.2)=true∧((F.B.mapIdx bgN).take i).any (qYv (bgN i x))=false)
    unfold gwN subN lenN
    cases hr:x.2 with
    | false=>exact ⟨λ_=>⟨rfl,rfl⟩,λq=>absurd rfl q⟩
    | true=>
      simp only [if_true]
      obtain ⟨c1,_,c3⟩:=qYb i hi4
      refine ⟨λq=>by omega,λ_=>⟨c1,⟨by omega,by omega⟩,c3,?_⟩⟩
      refine List.any_eq_false.2 λy hy=>?_
      obtain ⟨j,x',hj,_,rfl⟩:=qGy hy
      show ¬ ((((x'.1:Int) == (x.1:Int))&&(gwN j x'.2 != 0)&&(qE2 (subN j x'.2) (lenN x'.2) (subN i x.2)||qE2 (subN i x.2) (lenN x.2) (subN j x'.2)))=true)
      unfold gwN subN lenN
      cases x'.2 with
      | false=>simp
      | true=>
        obtain ⟨d1,d2⟩:=zAFr i hi4 j hj
        rw [hr]
        simp only [if_true,d1,d2,Bool.or_self,Bool.and_false,Bool.false_eq_true,not_false_eq_true]
 | 5,_=>
   have hS:=h.Sn
   refine ⟨by show (F.S.map _).length≤64;rw [List.length_map];omega,λy hy=>?_,λn=>?_⟩
   ·have hy:y∈F.S.map λx=>(ni x.1,ni x.2):=hy
    obtain ⟨x,hx,rfl⟩:=List.mem_map.1 hy
    obtain ⟨a1,a2,a3,_,a5,a6,a7,_⟩:=h.S x hx
    refine ⟨⟨λe=>a2 (List.map_eq_nil_iff.1 e),λe=>a6 (List.map_eq_nil_iff.1 e)⟩,⟨λn hn=>?_,λn hn=>?_⟩,qZh a1,qZh a5⟩
    ·obtain ⟨m,hm,rfl⟩:=qYz.1 hn
     have:=a3 m hm
     exact ⟨by omega,by show (m:Int) < (F.x.lf:Int);omega⟩
    ·obtain ⟨m,hm,rfl⟩:=qYz.1 hn
     have:=a7 m hm
     exact ⟨by omega,by show (m:Int) < ((F.B.mapIdx bgN).length:Int);rw [List.length_mapIdx];omega⟩
   ·show (((F.S.map λx=>(ni x.1,ni x.2)).map (·.1)).flatten).count n≤32
    rw [List.map_map]
    refine Nat.le_trans (qQN λx hx=>?_) (by omega)
    exact (qZh (h.S x hx).1).imp λh=>by omega
 | 6,_=>
   have hH:=h.Hn
   have hB:=h.Bn
   refine ⟨by show (F.H.mapIdx hgN).length≤128;simp;omega,λi y hi=>?_⟩
   have hi:(F.H.mapIdx hgN)[i]?=some y:=hi
   obtain ⟨x,hx,rfl⟩:=qL9 hi
   have hi8:i < 8:=by have:=(List.getElem?_eq_some_iff.1 hx).1;omega
   obtain ⟨⟨g,hg,hxg⟩,hip⟩:=h.H x (List.mem_of_getElem? hx)
   obtain ⟨_,_,_,_,_,_,a7,_⟩:=h.S g (List.mem_of_getElem? hg)
   have hbd:=a7 x.1 hxg
   have hsl:=(List.getElem?_eq_some_iff.1 hg).1
   refine ⟨⟨by show 2199023951872+(i:Int)≠0;omega,by show 2199023951872+(i:Int)≤281474976710655;omega,zAGi i hi8⟩,⟨⟨by show (0:Int)≤(x.1:Int);omega,by show (x.1:Int) < ((F.B.mapIdx bgN).length:Int);rw [List.length_mapIdx];omega⟩,?_⟩,?_,⟨⟨by show 2199023951872+(i:Int)≠1577058561;omega,?_⟩,?_⟩,?_,?_⟩
   ·show -1≤sgN x∧sgN x≤((F.S.map λx=>(ni x.1,ni x.2)).length:Int) - 1
    rw [List.length_map]
    unfold sgN
    split <;> omega
   ·show sgN x≠-1→∀ y,(F.S.map λx=>(ni x.1,ni x.2))[(sgN x).toNat]?=some y→(x.1:Int)∈y.2
    unfold sgN
    split
    ·intro q;exact absurd rfl q
    ·intro _ y hy
     rw [Int.toNat_natCast,List.getElem?_map,hg] at hy
     cases hy
     exact qYz.2 ⟨x.1,hxg,rfl⟩
   ·show (!(decide (2199023951872+(i:Int) < 2199023255552)||decide (2199023255584≤2199023951872+(i:Int))))=false
    have:decide ((2199023255584:Int)≤2199023951872+(i:Int))=true:=decide_eq_true (by omega)
    rw [this];simp
   ·intro d hd
    have hd:(F.B.mapIdx bgN)[((x.1:Nat):Int).toNat]?=some d:=hd
    rw [Int.toNat_natCast] at hd
    obtain ⟨xb,hxb,rfl⟩:=qL9 hd
    show ((ipN i x == 0)||((gwN x.1 xb.2 != 0)&&(ipN i x != gwN x.1 xb.2)&&qLf (subN x.1 xb.2) (lenN xb.2) (ipN i x)))=true
    unfold ipN
    cases hr:x.2.2.1 with
    | false=>rfl
    | true=>
      obtain ⟨d',q1,q2⟩:=hip hr
      rw [hxb] at q1
      cases q1
      have hc:=zAFb x.1 (by omega) i hi8
      unfold gwN subN lenN
      rw [q2]
      simp only [if_true,hc,Bool.and_true,Bool.or_eq_true,beq_iff_eq,Bool.and_eq_true,bne_iff_ne]
      exact .inr ⟨by omega,by omega⟩
   ·intro hm
    obtain ⟨y,hy,e⟩:=List.mem_map.1 hm
    obtain ⟨j,x',hj,_,rfl⟩:=qGy hy
    have e:((x'.1:Int),2199023951872+(j:Int))=((x.1:Int),2199023951872+(i:Int)):=e
    simp only [Prod.mk.injEq] at e
    omega
   ·intro hne hm
    obtain ⟨y,hy,e⟩:=List.mem_map.1 hm
    obtain ⟨j,x',hj,_,rfl⟩:=qGy hy
    have e:((x'.1:Int),ipN j x')=((x.1:Int),ipN i x):=e
    have hne:ipN i x≠0:=hne
    simp only [Prod.mk.injEq] at e
    obtain ⟨e1,e2⟩:=e
    unfold ipN at e2 hne
    cases hr:x.2.2.1 with
    | false=>rw [hr] at hne;exact hne rfl
    | true=>
      rw [hr] at e2
      cases hr':x'.2.2.1 with
      | false=>rw [hr'] at e2;simp only [if_true,Bool.false_eq_true,if_false] at e2;omega
      | true=>rw [hr'] at e2;simp only [if_true] at e2;omega
 | 7,_=>
   have hG:=h.G
   have hGn:=h.Gn
   refine ⟨by show (F.G.map ggN).length≤256;rw [List.length_map];omega,λi y hi=>?_⟩
   have hi:(F.G.map ggN)[i]?=some y:=hi
   rw [List.getElem?_map] at hi
   cases hx:F.G[i]? with
   | none=>rw [hx] at hi;cases hi
   | some x=>
     rw [hx] at hi
     cases hi
     obtain ⟨b1,b2,b3,b4⟩:=hG.2 x (List.mem_of_getElem? hx)
     have hlen:(((List.range F.n).map tgN).length:Int)=(F.n:Int):=by simp
     refine ⟨⟨⟨by show (0:Int)≤(x.1:Int);omega,by show (x.1:Int) < (((List.range F.n).map tgN).length:Int);rw [hlen];omega⟩,⟨by show (0:Int)≤(x.2.1:Int);omega,by show (x.2.1:Int) < (((List.range F.n).map tgN).length:Int);rw [hlen];omega⟩⟩,⟨by show (x.1:Int)≠(x.2.1:Int);omega,?_⟩,?_⟩
     ·show qH6 (pfN x.2.2) (plN x.2.2)=true
      cases hp:x.2.2 with
      | none=>exact zAD1
      | some j=>exact (qYb j (b4 j hp)).2.1
     ·intro hm
      have hm:ggN x∈(F.G.map ggN).take i:=hm
      rw [← List.map_take] at hm
      obtain ⟨y,hy,e⟩:=List.mem_map.1 hm
      have:y=x:=by
       obtain ⟨y1,y2,y3⟩:=y
       obtain ⟨x1,x2,x3⟩:=x
       have e:((y1:Int),(y2:Int),pfN y3,plN y3)=((x1:Int),(x2:Int),pfN x3,plN x3):=e
       simp only [Prod.mk.injEq] at e
       obtain ⟨e1,e2,e3,e4⟩:=e
       have h1:y1=x1:=by omega
       have h2:y2=x2:=by omega
       have h3:y3=x3:=by
        cases y3 <;> cases x3 <;> simp only [pfN,plN] at e3 e4
        ·rfl
        ·omega
        ·omega
        ·congr 1;omega
       rw [h1,h2,h3]
      subst this
      exact qQI hG.1 i y hx hy
 | n+8,hi=>omega
theorem NFok.sz {F:NFab} (h:NFok F):Sz F.toG:=by
 have:=h.Ln;have:=h.n;have:=h.Bn;have:=h.Sn;have:=h.Hn;have:=h.Gn
 refine ⟨by show F.L.length≤_;omega,by show ((List.range F.n).map tgN).length≤_;simp;omega,by show (F.B.mapIdx bgN).length≤_;simp;omega,by show (F.S.map _).length≤_;rw [List.length_map];omega,by show (F.H.mapIdx hgN).length≤_;simp;omega,by show (F.G.map ggN).length≤_;rw [List.length_map];omega,λy hy=>?_,λy hy=>?_⟩
 ·have hy:y∈F.S.map λx=>(ni x.1,ni x.2):=hy
  obtain ⟨x,hx,rfl⟩:=List.mem_map.1 hy
  obtain ⟨_,_,_,a4,_,_,_,a8⟩:=h.S x hx
  unfold ni
  simp only [List.length_map]
  omega
 ·have hy:y∈F.H.mapIdx hgN:=hy
  obtain ⟨i,hi⟩:=List.getElem?_of_mem hy
  obtain ⟨x,hx,rfl⟩:=qL9 hi
  have hi8:=(List.getElem?_eq_some_iff.1 hx).1
  obtain ⟨⟨g,hg,hxg⟩,_⟩:=h.H x (List.mem_of_getElem? hx)
  obtain ⟨_,_,_,_,_,_,a7,_⟩:=h.S g (List.mem_of_getElem? hg)
  have:=a7 x.1 hxg
  show 0≤ipN i x∧ipN i x < 4294967296
  unfold ipN
  split <;> omega
end Go.AM.TN
set_option maxRecDepth 100000
namespace Go.AM.FW
open Go Go.Proofs Go.AM.TN
variable {K : AV → Hq → Prop} {s s' s0 : Hq} {v w : AV} {cs : List AV} {F : FG} {R : List SG.Rt}
theorem qOE {x:Int} {n:Nat} (hn:1≤n) (hn2:n≤1000000) (hK:∀ r:Nat,r < n→(r:Int)=x % (n:Int)→K (.int .i64 (r:Int)) s):wC Tryz.prog XX 22 [.int .i64 x,.int .i64 (n:Int)] K s:=by
 refine qWy ?_
 have h1:=Int.tmod_lt_of_pos x (show (0:Int) < (n:Int) by omega)
 have h2:-(n:Int) < x.tmod n:=by
  have:=Int.tmod_lt_of_pos (-x) (show (0:Int) < (n:Int) by omega)
  rw [Int.neg_tmod] at this
  omega
 have h3:=Int.emod_nonneg x (show (n:Int)≠0 by omega)
 have h4:=Int.emod_lt_of_pos x (show (0:Int) < (n:Int) by omega)
 have h5:x.tmod n=x % n∨x.tmod n=x % n - n:=by
  have e1:=Int.tmod_add_mul_tdiv x n
  have e2:=Int.emod_add_mul_ediv x n
  have e3:x.tmod n=x - n * x.tdiv n:=by omega
  have e4:x % n=x - n * (x / n):=by omega
  have hd:x / (n:Int)=x.tdiv n∨x / (n:Int)=x.tdiv n - 1:=by
   have q1:(n:Int) * (x.tdiv n) - n < x:=by omega
   have q2:x < (n:Int) * (x.tdiv n)+n:=by omega
   have q3:x.tdiv n - 1≤x / n:=by
    rw [Int.le_ediv_iff_mul_le (by omega)]
    have:(x.tdiv n - 1) * (n:Int)=n * x.tdiv n - n:=by rw [Int.sub_mul,Int.mul_comm];omega
    omega
   have q4:x / n < x.tdiv n+1:=by
    rw [Int.ediv_lt_iff_lt_mul (by omega)]
    have:(x.tdiv n+1) * (n:Int)=n * x.tdiv n+n:=by rw [Int.add_mul,Int.mul_comm];omega
    omega
   omega
  rcases hd with hd | hd
  ·left;rw [e3,e4,hd]
  ·right;rw [e3,e4,hd,Int.mul_sub];omega
 simp only [qVA,qMR (show (n:Int)≠0 by omega),qAM,qAA]
 have fin:∀ z:Int,z=x % (n:Int)→K (.int .i64 z) s:=λz hz=>by
  obtain ⟨r,hr⟩:∃ r:Nat,z=r:=⟨z.toNat,by omega⟩
  rw [hr]
  exact hK r (by omega) (by omega)
 refine qAC (λq=>?_) (λq=>?_)
 ·have q:=of_decide_eq_true q
  simp only [qAK,qAA,qMl]
  rw [qAT (by omega) (by omega)]
  exact fin _ (by omega)
 ·have q:=of_decide_eq_false q
  exact fin _ (by omega)
def lpN (n:Nat):Int:=184483841+(n:Int)
theorem qXg {n:Nat} (hn:n < 32) (hK:∀ s',Sub s s'→K (.int .u32 (lpN n)) s'):wC Tryz.prog XX 14 [.int .i64 (n:Int)] K s:=by
 refine qW3 ?_
 unfold qT3
 refine qLK ?_
 have c1:decide ((n:Int) < 0)=false:=decide_eq_false (by omega)
 have c2:decide ((32:Int)≤(n:Int))=false:=decide_eq_false (by omega)
 have e:qBf .u32 (.int .i64 (n:Int))=some (.int .u32 (n:Int)):=by
  show some (AV.int .u32 (qAw .u32 (n:Int)))=_
  rw [EL.wu32,Int.emod_eq_of_lt (by omega) (by omega)]
 have a1:qAB .add (.int .u32 184483840) (.int .u32 (n:Int))=some (.int .u32 (184483840+(n:Int))):=by
  rw [qAK,← qCG,EL.wu32,Int.emod_eq_of_lt (by omega) (by omega)]
 have a2:qAB .add (.int .u32 (184483840+(n:Int))) (.int .u32 1)=some (.int .u32 (lpN n)):=by
  rw [qAK,← qCG,EL.wu32,Int.emod_eq_of_lt (by omega) (by omega)]
  unfold lpN
  congr 2
  omega
 simp only [qF3,qAM,qAz,qAA,c1,c2,qAQ,qEn,qAf,e,a1,a2]
 exact qAF (a:=.int .u32 (lpN n)) rfl (qAF (a:=.int .i64 0) rfl (hK s (.refl _)))
theorem qOU {i:Nat} (hi:i < 64) (hK:∀ s',Sub s s'→K (.agg (esN i).R) s'):wC Tryz.prog XX 11 [.int .i64 (i:Int)] K s:=by
 refine zAAI (qAJ λb0 s1 hb0 h1 u1=>zACY hi λs3 k3=>?_)
 have k1:=u1.sub hb0
 refine qAF (a:=.agg (esN i).R) rfl (qAF (a:=.int .i64 0) rfl (qAJ λb6 s7 hb6 h7 u7=>qAR h7 rfl rfl rfl λs8 h8 u8=>qAF (qAW h8 rfl) ?_))
 have k8:Sub s3 s8:=qAb (u7.sub hb6) u8 hb6
 refine qAR (k8 _ _ (k3 _ _ h1)) rfl rfl rfl λs10 h10 u10=>qAF (qAW h10 rfl) ?_
 refine hK s10 (qAb (k1.trans (k3.trans k8)) u10 hb0)
def Byt (l:List AV):Prop:=l.length=8∧∀ x∈l,∃ n:Nat,n < 256∧x=SG.u8 n
theorem Byt.one {l:List AV} (h:Byt l):qAY l=true:=qH3 λx hx=>by
 obtain ⟨n,_,rfl⟩:=h.2 x hx
 rfl
theorem Byt.cm {l:List AV} (h:Byt l):∃ c:SG.Cm,c.ok∧l=SG.cmR c:=by
 obtain ⟨h1,h2⟩:=h
 match l,h1 with
 | [x0,x1,x2,x3,x4,x5,x6,x7],_=>
   obtain ⟨n0,a0,rfl⟩:=h2 x0 (by simp)
   obtain ⟨n1,a1,rfl⟩:=h2 x1 (by simp)
   obtain ⟨n2,a2,rfl⟩:=h2 x2 (by simp)
   obtain ⟨n3,a3,rfl⟩:=h2 x3 (by simp)
   obtain ⟨n4,a4,rfl⟩:=h2 x4 (by simp)
   obtain ⟨n5,a5,rfl⟩:=h2 x5 (by simp)
   obtain ⟨n6,a6,rfl⟩:=h2 x6 (by simp)
   obtain ⟨n7,a7,rfl⟩:=h2 x7 (by simp)
   exact ⟨⟨n0,n1,n2,n3,n4,n5,n6,n7⟩,⟨a0,a1,a2,a3,a4,a5,a6,a7⟩,rfl⟩
theorem Byt.set {l:List AV} (h:Byt l) (i:Nat) {n:Nat} (hn:n < 256):Byt (l.set i (SG.u8 n)):=by
 refine ⟨by rw [List.length_set];exact h.1,λx hx=>?_⟩
 rcases List.mem_or_eq_of_mem_set hx with hx | rfl
 ·exact h.2 x hx
 ·exact ⟨n,hn,rfl⟩
theorem Byt.zero:Byt (repl 8 [.int .u8 0]):=by
 refine ⟨rfl,λx hx=>⟨0,by omega,?_⟩⟩
 have:∀ x∈repl 8 [AV.int .u8 0],x=SG.u8 0:=by
  intro x hx
  simp [repl] at hx
  rw [hx]
  rfl
 exact this x hx
theorem zAEE {b n:Nat} (h:n < 8):qHA 8 1 (.ptr b 0) (.int .i64 (n:Int))=some (.ptr b n):=by
 have:Nat.blt n 8=true:=by rw [Nat.blt_eq];exact h
 simp [qHA,this]
def psz (k:Nat):Nat:=[1,3,2].getD k 0
def pat (k:Nat):Nat:=[2,3,6,8].getD k 8
theorem zABz {a p:Int} (hG:SG.GlK s) (hv:SlR 2 s v [[.int .i64 1,.int .u64 a],[.int .i64 3,.int .u64 0],[.int .i64 2,.int .u64 p]]) (hK:∀ l s',Byt l→Sub s s'→K (.agg l) s'):wC Tryz.prog XX 68 [.int .i64 7,v] K s:=by
 refine qNk (qAJ λb0 s1 hb0 h1 u1=>qAJ λb2 s3 hb2 h3 u3=>?_)
 have k1:=u1.sub hb0
 have k3:=u3.sub hb2
 have kk:=k1.trans k3
 rw [(hG.sub kk).rd]
 simp only [qAA]
 have h13:=k3 _ _ h1
 have n0:s b0=none:=hb0
 have n2:s b2=none:=by
  cases e:s b2 with
  | none=>rfl
  | some x=>rw [k1 _ _ e] at hb2;cases hb2
 have d02:b0≠b2:=λe=>by rw [← e,h1] at hb2;cases hb2
 have keepS:∀ {t:Hq},qAa (λj=>j=b2) s3 t→Sub s t:=fun {t} kp i e hi=>kp i e (kk i e hi) (qBe n2 hi)
 refine ⟨λys t m=>∃ (i:Nat) (l:List AV),ys=[.int .i64 (i:Int)]∧i≤7∧m=7 - i∧qAa (λj=>j=b2) s3 t∧t b2=some (false,.cells 104 l)∧Byt l,⟨_,0,_,rfl,by omega,rfl,.refl _ _,h3,Byt.zero⟩,?_⟩
 rintro f t m ⟨i,l,hy,hi,rfl,kp,hb,hl⟩
 simp only [List.cons.injEq,and_true] at hy
 rw [hy]
 clear hy
 simp only [qIx,qAM,qAA]
 refine qAC (λhlt=>?_) (λhge=>?_)
 ·have hlt:i < 7:=by have:=of_decide_eq_true hlt;omega
  rw [SG.qTK hlt]
  simp only [qAA]
  refine qAJ λb7 s8 hb7 h8 u8=>qAR h8 rfl rfl rfl λs9 h9 u9=>?_
  have k9:Sub t s9:=qAb (u8.sub hb7) u9 hb7
  have e0:rd1 s9 (.ptr b7 0)=some (.int .i64 ((i+1:Nat):Int)):=by rw [qAO h9];rfl
  simp only [qAG,Nat.zero_add,qAA,e0,qAe,qAZ,Bool.false_bne]
  have next:∀ {t2:Hq} {l2:List AV},qAa (λj=>j=b2) s3 t2→t2 b2=some (false,.cells 104 l2)→Byt l2→qEP XX (.int .i64 (i:Int)) (λys t m=>∃ (i:Nat) (l:List AV),ys=[.int .i64 (i:Int)]∧i≤7∧m=7 - i∧qAa (λj=>j=b2) s3 t∧t b2=some (false,.cells 104 l)∧Byt l) (7 - i) K t2:=fun {t2 l2} z1 z2 z3=>by
   simp only [qEP,qAK,qAA]
   rw [qAT (by omega) (by omega)]
   exact ⟨_,by omega,i+1,l2,rfl,by omega,rfl,z1,z2,z3⟩
  have hb9:=k9 _ _ hb
  refine qAC (λq=>?_) (λq=>?_)
  ·have p1:qG4 s9 8 1 (.ptr b2 0) none none none=some (.slc b2 0 8 (some 8) 1):=by
    unfold qG4
    simp only [hb9]
    have:Nat.ble (0+8 * 1) l.length=true:=by rw [hl.1];rfl
    rw [this]
    rfl
   have p2:qG4 s9 2 1 (.ptr b7 1) none none none=some (.slc b7 1 2 (some 2) 1):=by
    unfold qG4
    simp only [h9]
    rfl
   have p3:rdSl s9 1 (.slc b7 1 2 (some 2) 1)=some [SG.u8 (SG.hdN i).1,SG.u8 (SG.hdN i).2]:=by
    unfold rdSl
    simp only [rdN,h9]
    rfl
   simp only [p1,p2,qAA,qAG]
   refine qAF (a:=2) rfl ⟨rfl,by omega,?_⟩
   rw [p3]
   simp only [qAA]
   have hh:(SG.hdN i).1 < 256∧(SG.hdN i).2 < 256:=by
    have:i=0∨i=1∨i=2∨i=3∨i=4∨i=5∨i=6:=by omega
    rcases this with rfl | rfl | rfl | rfl | rfl | rfl | rfl <;> exact ⟨by decide,by decide⟩
   have hl2:Byt (qAq l 0 [SG.u8 (SG.hdN i).1,SG.u8 (SG.hdN i).2]):=by
    refine ⟨by unfold qAq;simp [hl.1],λx hx=>?_⟩
    unfold qAq at hx
    rw [List.take_zero,List.nil_append] at hx
    rcases List.mem_append.1 hx with hx | hx
    ·simp only [List.mem_cons,List.not_mem_nil,or_false] at hx
     rcases hx with rfl | rfl
     ·exact ⟨_,hh.1,rfl⟩
     ·exact ⟨_,hh.2,rfl⟩
    ·exact hl.2 x (List.mem_of_mem_drop hx)
   refine qAF (a:=hset s9 b2 (false,.cells 104 (qAq l 0 [SG.u8 (SG.hdN i).1,SG.u8 (SG.hdN i).2]))) ?_ (next (λj e hj hn=>?_) qCe hl2)
   ·unfold wrN
    simp only [hb9]
    have:(Nat.ble (0+[SG.u8 (SG.hdN i).1,SG.u8 (SG.hdN i).2].length) l.length&&qAY [SG.u8 (SG.hdN i).1,SG.u8 (SG.hdN i).2])=true:=by rw [hl.1];rfl
    rw [this]
    rfl
   ·have hn':j≠b2:=hn
    rw [qBW hn']
    exact k9 _ _ (kp j e hj hn)
  ·exact next (kp.trans k9.keep) hb9 hl
 ·have hge:i=7:=by have:=of_decide_eq_false hge;omega
  have hvt:=hv.sub (keepS kp)
  have lenv:qAS v=some 3:=hvt.len
  simp only [lenv,qAA]
  refine ⟨λys t2 m=>∃ (k:Nat) (l:List AV),ys=[.int .i64 ((pat k:Nat):Int),.int .i64 (k:Int)]∧k≤3∧m=3 - k∧qAa (λj=>j=b2) s3 t2∧t2 b2=some (false,.cells 104 l)∧Byt l,⟨_,0,_,rfl,by omega,rfl,kp,hb,hl⟩,?_⟩
  rintro f2 t2 m ⟨k,l2,hy,hk,rfl,kp2,hb2',hl2⟩
  simp only [List.cons.injEq,and_true] at hy
  rw [hy.1,hy.2]
  clear hy
  simp only [qI9,qAM,qAA]
  refine qAC (λhlt=>?_) (λhge=>?_)
  rotate_left
  ·rw [qAW hb2' hl2.1]
   simp only [qAA]
   have h0:t2 b0=some (false,.cells 104 (repl 8 [.int .u8 0])):=kp2 _ _ h13 d02
   refine qAR h0 (by rw [hl2.1];rfl) rfl hl2.one λs48 h48 u48=>qAF (qAW h48 hl2.1) ?_
   exact hK l2 s48 hl2 (qAb (keepS kp2) u48 n0)
  have hlt:k < 3:=by have:=of_decide_eq_true hlt;omega
  obtain ⟨x,hx⟩:∃ x:Int,([[.int .i64 1,.int .u64 a],[.int .i64 3,.int .u64 0],[.int .i64 2,.int .u64 p]]:List (List AV))[k]?=some [.int .i64 ((psz k:Nat):Int),.int .u64 x]:=by
   have:k=0∨k=1∨k=2:=by omega
   rcases this with rfl | rfl | rfl
   ·exact ⟨a,rfl⟩
   ·exact ⟨0,rfl⟩
   ·exact ⟨p,rfl⟩
  obtain ⟨pb,po,e1,e2,_⟩:=(hv.sub (keepS kp2)).get hx
  have hz:pat k+psz k=pat (k+1)∧pat (k+1)≤8∧psz k≤3:=by
   have:k=0∨k=1∨k=2:=by omega
   rcases this with rfl | rfl | rfl <;> decide
  rw [e1]
  simp only [qAA,e2]
  refine qAJ λb24 s25 hb24 h25 u25=>qAR h25 rfl rfl rfl λs26 h26 u26=>?_
  have k26:Sub t2 s26:=qAb (u25.sub hb24) u26 hb24
  have r0:∀ {t3:Hq},t3 b24=s26 b24→rd1 t3 (.ptr b24 0)=some (.int .i64 ((psz k:Nat):Int)):=fun {t3} e=>by
   rw [qAO (e.trans h26)];rfl
  have r1:∀ {t3:Hq},t3 b24=s26 b24→rd1 t3 (.ptr b24 1)=some (.int .u64 x):=fun {t3} e=>by
   rw [qAO (e.trans h26)];rfl
  simp only [qAG,Nat.zero_add,qAA,r0 rfl]
  have d24:b24≠b2:=λe=>by rw [e,hb2'] at hb24;cases hb24
  refine ⟨λys t3 m=>∃ (i:Nat) (l:List AV),ys=[.int .i64 (i:Int)]∧i≤psz k∧m=psz k - i∧qAa (λj=>j=b2) s26 t3∧t3 b2=some (false,.cells 104 l)∧Byt l,⟨_,0,_,rfl,by omega,rfl,.refl _ _,k26 _ _ hb2',hl2⟩,?_⟩
  rintro f3 t3 m ⟨j,l3,hy,hj,rfl,kp3,hb3,hl3⟩
  simp only [List.cons.injEq,and_true] at hy
  rw [hy]
  clear hy
  have h24:t3 b24=s26 b24:=by rw [h26];exact kp3 _ _ h26 d24
  simp only [qI6,qAM,qAA]
  refine qAC (λhlt3=>?_) (λhge3=>?_)
  ·have hlt3:j < psz k:=by have:=of_decide_eq_true hlt3;omega
   simp only [qAG,Nat.zero_add,qAA,r0 h24,r1 h24,qAK,qAo,qHB]
   rw [show IntKind.i64.wrap (((pat k:Nat):Int)+(j:Int))=((pat k:Nat):Int)+(j:Int) from qAT (by omega) (by omega),show IntKind.i64.wrap (((psz k:Nat):Int) - 1)=((psz k:Nat):Int) - 1 from qAT (by omega) (by omega),show IntKind.i64.wrap (((psz k:Nat):Int) - 1 - (j:Int))=((psz k:Nat):Int) - 1 - (j:Int) from qAT (by omega) (by omega),qAT (by omega) (by omega)]
   obtain ⟨z,hz2⟩:∃ z:Int,qBk .shr (.int .u64 x) (.int .i64 (8 * (((psz k:Nat):Int) - 1 - (j:Int))))=some (.int .u64 z):=by
    obtain ⟨q,hq⟩:∃ q:Nat,8 * (((psz k:Nat):Int) - 1 - (j:Int))=(q:Int):=⟨(8 * (((psz k:Nat):Int) - 1 - (j:Int))).toNat,by omega⟩
    rw [hq]
    refine ⟨x.fdiv ((2 ^ (min q (IntKind.bits .u64)):Nat):Int),?_⟩
    show frc (x.fdiv ((2 ^ (min (Int.toNat (q:Int)) (IntKind.bits .u64)):Nat):Int)) (λn=>some (AV.int .u64 n))=_
    rw [qBc];rfl
   rw [hz2]
   simp only [qAA]
   have hbyte:∃ n:Nat,n < 256∧qBf .u8 (.int .u64 z)=some (SG.u8 n):=by
    refine ⟨(z % 256).toNat,by omega,?_⟩
    show some (AV.int .u8 (qAw .u8 z))=_
    rw [EL.wu8]
    show _=some (AV.int .u8 (((z % 256).toNat:Nat):Int))
    congr 2
    omega
   obtain ⟨n,hn,hc⟩:=hbyte
   rw [hc]
   simp only [qAA]
   have hia:qHA 8 1 (.ptr b2 0) (.int .i64 (((pat k:Nat):Int)+(j:Int)))=some (.ptr b2 (pat k+j)):=by
    have e:((pat k:Nat):Int)+(j:Int)=((pat k+j:Nat):Int):=by omega
    rw [e]
    exact zAEE (by omega)
   rw [hia]
   simp only [qAA]
   refine qBv hb3 (by rw [hl3.1];omega) rfl λs41 h41 u41=>?_
   rw [qAT (by omega) (by omega)]
   exact ⟨_,by omega,j+1,_,rfl,by omega,rfl,kp3.trans (u41.keep rfl),h41,hl3.set _ hn⟩
  ·have hge3:j=psz k:=by have:=of_decide_eq_false hge3;omega
   simp only [qAG,Nat.zero_add,qAA,r0 h24,qAK]
   rw [qAT (by omega) (by omega),qAT (by omega) (by omega)]
   have q1:((pat k:Nat):Int)+((psz k:Nat):Int)=((pat (k+1):Nat):Int):=by
    have:=hz.1
    omega
   have q2:(k:Int)+1=((k+1:Nat):Int):=by omega
   rw [q1,q2]
   refine ⟨_,by omega,k+1,l3,rfl,by omega,rfl,kp2.trans (k26.keep.trans kp3),hb3,hl3⟩
theorem qUi {alg pref:Nat} (hG:SG.GlK s) (ha:alg < 32) (hp:pref < 65536) (hK:∀ c s',SG.Cm.ok c→Sub s s'→K (.tup [.agg (SG.cmR c),.int .i64 0]) s'):wC Tryz.prog XX 42 [.int .i64 (alg:Int),.int .i64 (pref:Int)] K s:=by
 refine qLC (qAJ λb0 s1 hb0 h1 u1=>?_)
 have k1:=u1.sub hb0
 have c1:decide ((alg:Int) < 0)=false:=decide_eq_false (by omega)
 have c2:decide ((31:Int) < (alg:Int))=false:=decide_eq_false (by omega)
 have c3:decide ((pref:Int) < 0)=false:=decide_eq_false (by omega)
 have c4:decide ((65535:Int) < (pref:Int))=false:=decide_eq_false (by omega)
 simp only [qAM,qA4,qAA,c1,c2,c3,c4,qAQ,qEX,qEd,qEi,qAf]
 refine qAF (a:=.int .u64 (qAw .u64 (alg:Int))) rfl (qAF (a:=[.int .i64 1,.int .u64 (qAw .u64 (alg:Int))]) rfl (qAF (a:=[.int .i64 3,.int .u64 0]) rfl (qAF (a:=.int .u64 (qAw .u64 (pref:Int))) rfl (qAF (a:=[.int .i64 2,.int .u64 (qAw .u64 (pref:Int))]) rfl (qAF (a:=[.int .i64 1,.int .u64 (qAw .u64 (alg:Int)),.int .i64 3,.int .u64 0,.int .i64 2,.int .u64 (qAw .u64 (pref:Int))]) rfl ⟨rfl,qAJ λb15 s16 hb15 h16 u16=>?_⟩)))))
 have k16:=u16.sub hb15
 refine zABz (hG.sub (k1.trans k16)) (SlR.mk (λr hr=>by simp only [List.mem_cons,List.not_mem_nil,or_false] at hr;rcases hr with rfl | rfl | rfl <;> rfl) h16 rfl (λc e=>by cases e;simp)) λl s18 hl k18=>?_
 obtain ⟨c,hc,rfl⟩:=hl.cm
 refine qAR (k18 _ _ (k16 _ _ h1)) rfl rfl hl.one λs19 h19 u19=>qAF (qAW h19 rfl) ?_
 exact hK c s19 hc (qAb (k1.trans (k16.trans k18)) u19 hb0)
end Go.AM.FW
set_option maxRecDepth 100000
namespace Go.AM.FW
open Go Go.Proofs Go.AM.TN
variable {K : AV → Hq → Prop} {s s' s0 t : Hq} {v w : AV} {cs : List AV} {F : FG} {R : List SG.Rt}
def rtN (leaf sg:Nat) (cm:List SG.Cm):SG.Rt:={ kd:=4,rd:=leaf,es:=esN sg,tag:=0,mac:=0,ip:=lpN leaf,hip:=true,px:=0,pl:=0,gw:=0,la:=0,lb:=0,og:=0,nx:=lpN leaf,hm:=false,md:=0,hp:=false,pf:=0,ho:=false,orr:=0,tk:=0,tl:=0,tr:=0,tg:=0,pe:=0,st:=false,path:=[],cl:=[],cm:=cm }
theorem zAAa {leaf sg pref:Nat} {alg:Int} (hG:SG.GlK s) (h1:leaf < 32) (h2:sg < 64) (h3:pref < 65536) (h4:-1≤alg∧alg < 32) (hK:∀ s' m cm,Sub s s'→SlR 8 s' m (cm.map SG.cmR)→(∀ c∈cm,SG.Cm.ok c)→cm.length≤1→K (.agg ((rtN leaf sg cm).row .nilslc .nilslc m)) s'):wC Tryz.prog XX 16 [.int .i64 (leaf:Int),.int .i64 (sg:Int),.int .i64 alg,.int .i64 (pref:Int)] K s:=by
 refine qUl (qAJ λb0 s1 hb0 q1 u1=>?_)
 have k1:=u1.sub hb0
 have e:qBf .u64 (.int .i64 (leaf:Int))=some (.int .u64 (leaf:Int)):=by
  show some (AV.int .u64 (qAw .u64 (leaf:Int)))=_
  rw [EL.wu64,Int.emod_eq_of_lt (by omega) (by omega)]
 rw [e]
 simp only [qAA]
 refine qOU h2 λs4 k4=>qXg h1 λs6 k6=>?_
 refine qAF (a:=(rtN leaf sg []).N) rfl (qXg h1 λs9 k9=>?_)
 refine qAF (a:=(rtN leaf sg []).A .nilslc .nilslc .nilslc) rfl (qAF (a:=(rtN leaf sg []).row .nilslc .nilslc .nilslc) rfl ?_)
 refine qAJ λb12 s13 hb12 q13 u13=>qAR q13 rfl rfl rfl λs14 q14 u14=>?_
 have k14:Sub s9 s14:=qAb (u13.sub hb12) u14 hb12
 have kk:Sub s1 s14:=k4.trans (k6.trans (k9.trans k14))
 have fin:∀ {t:Hq} {m:AV} {cm:List SG.Cm},Sub s t→t b0=s1 b0→t b12=some (false,.cells 51 ((rtN leaf sg cm).row .nilslc .nilslc m))→m.one=true→(∀ s17,Upto b0 t s17→SlR 8 s17 m (cm.map SG.cmR))→(∀ c∈cm,SG.Cm.ok c)→cm.length≤1→qIN XX (.ptr b0 0) (.ptr b12 0) K t:=fun {t m cm} z1 z2 z3 z4 z5 z6 z7=>by
  unfold qIN
  rw [qAW z3 (SG.Rt.row_len _)]
  simp only [qAA]
  have ho:qAY ((rtN leaf sg cm).row .nilslc .nilslc m)=true:=SG.Rt.row_one _ rfl rfl z4
  refine qAR (z2.trans q1) rfl rfl ho λs17 q17 u17=>qAF (qAW q17 (SG.Rt.row_len _)) ?_
  exact hK s17 m cm (qAb z1 u17 hb0) (z5 s17 u17) z6 z7
 simp only [qAz,qAA]
 refine qAC (λq=>?_) (λq=>?_)
 ·have q:=of_decide_eq_true q
  obtain ⟨a,ha⟩:∃ a:Nat,alg=a:=⟨alg.toNat,by omega⟩
  rw [ha]
  refine qUi (hG.sub (k1.trans kk)) (by omega) h3 λc s20 hc k20=>?_
  refine qAF (a:=.agg (SG.cmR c)) rfl (qAF (a:=.int .i64 0) rfl ?_)
  refine qAJ λb23 s24 hb23 q23 u23=>qAR q23 rfl rfl rfl λs25 q25 u25=>qAF (qAW q25 rfl) ?_
  have k25:Sub s20 s25:=qAb (u23.sub hb23) u25 hb23
  refine qAF (a:=SG.cmR c) (qKW rfl) ⟨rfl,qAJ λb28 s29 hb28 q28 u28=>?_⟩
  have k29:=u28.sub hb28
  have k1429:Sub s14 s29:=k20.trans (k25.trans k29)
  simp only [qAG,Nat.zero_add,qAA]
  have q14':=k1429 _ _ q14
  have n12:s1 b12=none:=by
   cases e:s1 b12 with
   | none=>rfl
   | some x=>rw [k9 _ _ (k6 _ _ (k4 _ _ e))] at hb12;cases hb12
  have ns12:s b12=none:=by
   cases e:s b12 with
   | none=>rfl
   | some x=>rw [k1 _ _ e] at n12;cases n12
  have d0:b0≠b12:=λe=>by rw [← e,q1] at n12;cases n12
  have d28:b28≠b12:=λe=>by rw [e,(k20.trans k25) _ _ q14] at hb28;cases hb28
  have d280:b28≠b0:=λe=>by rw [e,(kk.trans (k20.trans k25)) _ _ q1] at hb28;cases hb28
  refine qBv q14' (by rw [SG.Rt.row_len];decide) rfl λs32 q32 u32=>?_
  refine fin (cm:=[c]) (qAb (k1.trans (kk.trans k1429)) u32 ns12) ?_ q32 rfl (λs17 u17=>?_) (λd hd=>by rw [List.mem_singleton.1 hd];exact hc) (by simp)
  ·rw [u32 _ d0,q1]
   exact k1429 _ _ (kk _ _ q1)
  ·exact qQu (by rw [u17 _ d280,u32 _ d28];exact q28) rfl
 ·exact fin (k1.trans kk) (by rw [q1];exact kk _ _ q1) q14 rfl (λ_ _=>⟨(λr h=>by cases h),.inl ⟨rfl,rfl⟩⟩) (λc h=>by cases h) (by simp)
end Go.AM.FW
set_option maxRecDepth 100000
namespace Go.AM.FW
open Go Go.Proofs Go.AM.TN
variable {K : AV → Hq → Prop} {s s' s0 t : Hq} {v w : AV} {cs : List AV} {F : FG} {R : List SG.Rt}
theorem eq27 (x y:SG.Es):qGQ Tryz.prog 27 (.agg x.R) (.agg y.R)=cond (eqI x.x0 y.x0) (cond (eqI x.x1 y.x1) (cond (eqI x.x2 y.x2) (cond (eqI x.x3 y.x3) (cond (eqI x.x4 y.x4) (cond (eqI x.x5 y.x5) (cond (eqI x.x6 y.x6) (cond (eqI x.x7 y.x7) (cond (eqI x.x8 y.x8) (cond (eqI x.x9 y.x9) (some true) (some false)) (some false)) (some false)) (some false)) (some false)) (some false)) (some false)) (some false)) (some false)) (some false):=by kernel_rfl
theorem zACA (a:Int):eqI a a=true:=by rw [qD4];simp
theorem qYc (i j:Nat):SG.eqE Tryz.prog (esN i) (esN j)=decide (i=j):=by
 have h:=SG.qZL (esN i) (esN j)
 rw [eq27] at h
 have e:eqI (esN i).x9 (esN j).x9=decide (i=j):=by
  rw [qD4]
  show decide ((i:Int)+1=(j:Int)+1)=_
  congr 1
  exact propext ⟨λh=>by omega,λh=>by omega⟩
 have z:∀ a:Int,eqI a a=true:=zACA
 rw [e,show eqI (esN i).x0 (esN j).x0=true from z 3,show eqI (esN i).x1 (esN j).x1=true from z 0,show eqI (esN i).x2 (esN j).x2=true from z 0,show eqI (esN i).x3 (esN j).x3=true from z 0,show eqI (esN i).x4 (esN j).x4=true from z 0,show eqI (esN i).x5 (esN j).x5=true from z 0,show eqI (esN i).x6 (esN j).x6=true from z 0,show eqI (esN i).x7 (esN j).x7=true from z 0,show eqI (esN i).x8 (esN j).x8=true from z 0] at h
 simp only [cond_true] at h
 cases hd:decide (i=j) with
 | true=>rw [hd] at h;simpa using h.symm
 | false=>rw [hd] at h;simpa using h.symm
def OwQ (s t:Hq) (w:AV) (R:List SG.Rt):Prop:=∃ b0:Hq,Sub s b0∧Sub b0 t∧OwR b0 t w R
theorem OwQ.nil:OwQ s s .nilslc []:=⟨s,.refl _,.refl _,[],⟨(λr h=>by cases h),.inl ⟨rfl,rfl⟩⟩,by simp,λj r h=>by simp at h⟩
theorem OwQ.more (h:OwQ s t w R) (k:Sub t s'):OwQ s s' w R:=by
 obtain ⟨b0,h1,h2,h3⟩:=h
 exact ⟨b0,h1,h2.trans k,h3.sub k⟩
theorem OwQ.rts (h:OwQ s t w R):SG.Rts t w R:=by
 obtain ⟨b0,h1,h2,h3⟩:=h
 exact h3.rts h2
theorem OwQ.off (h:OwQ s t w R) (k:Sub t s'):Sub s (offV w s'):=by
 obtain ⟨b0,h1,h2,rows,h3,_⟩:=h
 exact h1.trans (h3.off (h2.trans k))
theorem OwQ.put {r:SG.Rt} {p q m y:AV} (h:OwQ s t w R) (hr:SG.RtAt (offV w t) r p q m) (hy:SlR 38 t y [r.row p q m]) (hl:R.length≤1000) (hK:∀ v' s',OwQ s s' v' (R ++ [r])→K v' s'):appK 51 38 w y K t:=by
 obtain ⟨b0,h1,h2,rows,h3,h4,h5⟩:=h
 have koff:Sub b0 (offV w t):=h3.off h2
 have acc:AccR 51 38 (offV w t) t w rows:=by
  refine ⟨h3.1,?_⟩
  rcases h3.2 with z | ⟨b,a1,rfl,a3⟩
  ·exact .inl z
  ·exact .inr ⟨b,by unfold offV;simp,rfl,a3⟩
 refine acc.app hy (by simp) (by rw [h4];simp;omega) qHS λv' s' a4 k4=>hK v' s' ⟨offV w t,h1.trans koff,k4,rows ++ [r.row p q m],a4,by simp [h4],λj r' hj=>?_⟩
 by_cases hj':j < rows.length
 ·rw [List.getElem?_append_left (by rw [← h4];exact hj')] at hj
  obtain ⟨p',q',m',z1,z2⟩:=h5 j r' hj
  exact ⟨p',q',m',by rw [List.getElem?_append_left hj'];exact z1,z2.sub koff⟩
 ·rw [List.getElem?_append_right (by omega)] at hj
  have:j=rows.length:=by
   have:=(List.getElem?_eq_some_iff.1 hj).1
   simp only [List.length_singleton] at this
   omega
  subst this
  rw [h4,Nat.sub_self] at hj
  simp only [List.getElem?_cons_zero,Option.some.injEq] at hj
  subst hj
  exact ⟨p,q,m,by rw [List.getElem?_append_right (by omega),Nat.sub_self];rfl,hr⟩
theorem OwQ.own (h:OwQ s t w R) {b o n c e} (hw:w=.slc b o n c e):t b≠none:=by
 obtain ⟨b0,_,_,rows,h3,_⟩:=h
 rcases h3.2 with ⟨z,_⟩ | ⟨b',_,z,a3⟩
 ·rw [hw] at z;cases z
 ·rw [hw] at z;cases z;rw [a3];simp
theorem qPG {i:Nat} (h:∀ o n c e,w≠.slc i o n c e):offV w t i=t i:=by
 unfold offV
 split
 ·rename_i b o n c e
  rw [if_neg (λhb=>by subst hb;exact h _ _ _ _ rfl)]
 ·rfl
theorem qRN {b o n c e}:offV (.slc b o n c e) t b=none:=by unfold offV;simp
theorem zAEf {s25 s1:Hq} (h:OwQ s0 s w R) (h1:Sub s1 s25) (h2:∀ i,offV w (frz s) i=none→frz s i≠none→s25 i=frz s i∧s1 i=none):Sub (add (offV w s) s1) (offV w (add s s25)):=by
 intro i e hi
 have hfr:∀ {x},s i=some x→frz s i≠none:=fun {x} hx=>by unfold frz;rw [hx];simp
 by_cases hw:∃ o n c z,w=.slc i o n c z
 ·obtain ⟨o,n,c,z,rfl⟩:=hw
  rw [qBw qRN] at hi
  have hne:=h.own rfl
  cases hs:s i with
  | none=>exact absurd hs hne
  | some x=>
    rw [(h2 i qRN (hfr hs)).2] at hi
    cases hi
 ·have hw':∀ o n c z,w≠.slc i o n c z:=λo n c z hq=>hw ⟨o,n,c,z,hq⟩
  rw [qPG hw']
  cases hs:s i with
  | none=>
    rw [qBw (by rw [qPG hw'];exact hs)] at hi
    rw [qBw hs]
    exact h1 _ _ hi
  | some x=>
    rw [qBM (by rw [qPG hw'];exact hs)] at hi
    rw [qBM hs]
    exact hi
theorem qYI:frz (offV w s)=offV w (frz s):=by
 funext i
 cases w with
 | slc b o n c e=>
   show (match (if i=b then none else s i) with | some (_,x)=>some (true,x) | none=>none)=if i=b then none else frz s i
   by_cases h:i=b
   ·rw [if_pos h,if_pos h]
   ·rw [if_neg h,if_neg h];rfl
 | _=>rfl
theorem qU7:cutH [] t=t:=rfl
theorem qRk {l:List (Hq × Hq)}:cutH ((s,s) :: l) t=cutH l t:=by
 show cutH l (λb=>if s b=none∧s b≠none then none else t b)=_
 congr 1
 funext b
 rw [if_neg]
 rintro ⟨h1,h2⟩
 exact h2 h1
theorem _root_.Go.AM.SG.GlK.frz (h:SG.GlK s):SG.GlK (AM.frz s):=by
 obtain ⟨t,h⟩:=h
 exact ⟨true,by unfold AM.frz;rw [h]⟩
theorem qZN {b o n k j:Nat} {l:List AV} (h:rdN s n (.ptr b o)=some l) (hj:j+k≤n):rdN s k (.ptr b (o+j))=some ((l.drop j).take k):=by
 unfold rdN at h ⊢
 simp only at h ⊢
 split at h
 ·rename_i t e cs hb
  unfold qJm at h ⊢
  cases hc:Nat.ble (o+n) cs.length with
  | false=>rw [hc] at h;cases h
  | true=>
    rw [hc] at h
    have hle:=Nat.le_of_ble_eq_true hc
    cases h
    rw [Nat.ble_eq_true_of_le (show o+j+k≤cs.length by omega)]
    simp only [cond_true,Option.some.injEq]
    apply List.ext_getElem?
    intro i
    simp only [List.getElem?_take,List.getElem?_drop]
    by_cases hi:i < k
    ·rw [if_pos hi,if_pos hi,if_pos (by omega),Nat.add_assoc]
    ·rw [if_neg hi,if_neg hi]
 ·cases h
abbrev Mb:=Int × Int × Int × Int
def mC (x:Mb):List AV:=[.int .i64 x.1,.int .i64 x.2.1,.int .i64 x.2.2.1,.int .i64 x.2.2.2]
structure RtG (r:SG.Rt):Prop where
 ok:r.ok
 kd:r.kd=4
 nx:∃ n:Nat,n < 8∧r.nx=lpN n
 es:∃ n:Nat,n < 6∧r.es=esN n
def Dst (R:List SG.Rt):Prop:=R.Pairwise λa b=>a.nx≠b.nx∨a.es≠b.es
theorem zADt {i j:Nat} (h:esN i=esN j):i=j:=by
 have:=congrArg SG.Es.x9 h
 have:(i:Int)+1=(j:Int)+1:=this
 omega
theorem zAG9 {leaf sg:Nat} {cm:List SG.Cm} (h1:leaf < 8) (h2:sg < 6) (h3:∀ c∈cm,SG.Cm.ok c) (h4:cm.length≤1):RtG (rtN leaf sg cm):=
 ⟨⟨h3,by show ([]:List Int).length≤20;simp,by show ([]:List Int).length≤20;simp,by show cm.length≤20;omega⟩,rfl,⟨leaf,h1,rfl⟩,⟨sg,h2,rfl⟩⟩
theorem qXo {l:List Mb} (hG:SG.GlK s) (hv:SlR 4 s v (l.map mC)) (hK:∀ v' s' R,Sub s s'→SG.Rts s' v' R→(∀ r∈R,RtG r)→Dst R→R.length≤60→K v' s'):wC Tryz.prog XX 21 [v] K s:=by
 refine qSm ?_
 unfold qMK
 have lenv:qAS v=some l.length:=by rw [hv.len,List.length_map]
 rw [lenv]
 simp only [qAA,qA4]
 refine qAC (λq=>?_) (λq=>?_)
 ·exact hK _ s [] (.refl _) ⟨[],⟨(λr h=>by cases h),.inl ⟨rfl,rfl⟩⟩,rfl,λi r h=>by simp at h⟩ (λr h=>by cases h) .nil (by simp)
 have hl60:l.length≤60:=by have:=of_decide_eq_false q;omega
 unfold qHc
 refine ⟨λys t m=>∃ (i:Nat) (w:AV) (R:List SG.Rt),ys=[w,.int .i64 (i:Int)]∧i≤l.length∧m=l.length - i∧Sub s t∧OwQ s t w R∧(∀ r∈R,RtG r)∧Dst R∧R.length≤i,⟨_,0,_,[],rfl,by omega,rfl,.refl _,.nil,(λr h=>by cases h),.nil,by simp⟩,?_⟩
 rintro f t m ⟨i,w,R,hy,hi,rfl,kt,how,hg,hd,hRl⟩
 simp only [List.cons.injEq,and_true] at hy
 rw [hy.1,hy.2]
 clear hy
 simp only [qM0,lenv,qAM,qAA]
 refine qAC (λhlt=>?_) (λhge=>?_)
 rotate_left
 ·exact hK w t R kt how.rts hg hd (by omega)
 have hlt:i < l.length:=by have:=of_decide_eq_true hlt;omega
 have hx:l[i]?=some l[i]:=List.getElem?_eq_getElem hlt
 generalize l[i]=x at hx
 obtain ⟨pb,po,e1,e2,e3⟩:=(hv.sub kt).get (i:=i) (r:=mC x) (by rw [List.getElem?_map,hx];rfl)
 have f0:rd1 t (.ptr pb po)=some (.int .i64 x.1):=e3 0 (by omega)
 have f1:rd1 t (.ptr pb (po+1))=some (.int .i64 x.2.1):=e3 1 (by omega)
 have f2:rd1 t (.ptr pb (po+2))=some (.int .i64 x.2.2.1):=e3 2 (by omega)
 have f3:rd1 t (.ptr pb (po+3))=some (.int .i64 x.2.2.2):=e3 3 (by omega)
 have j3:∀ alg:Int,-1≤alg∧alg < 32→qHZ XX v w (.int .i64 (i:Int)) (.int .i64 alg) (λys t m=>∃ (i:Nat) (w:AV) (R:List SG.Rt),ys=[w,.int .i64 (i:Int)]∧i≤l.length∧m=l.length - i∧Sub s t∧OwQ s t w R∧(∀ r∈R,RtG r)∧Dst R∧R.length≤i) (l.length - i) K t:=λalg ha=>by
  unfold qHZ
  simp only [e1,qAG,Nat.zero_add,Nat.add_zero,qAA,f0]
  refine qOE (n:=8) (by omega) (by omega) λleaf hleaf _=>?_
  intro _
  simp only [qOb,qRk,qU7,qAA,f1]
  refine qOE (n:=6) (by omega) (by omega) λsg hsg _=>?_
  intro _
  simp only [qOb,qRk,qU7,qAA,f3]
  refine qOE (n:=65536) (by omega) (by omega) λpref hpref _=>?_
  intro _
  simp only [qOb,qRk,qU7,qAA]
  have koff:Sub s (offV w t):=how.off (.refl _)
  refine wC.part qAy (r:=offV w (frz t)) qHS (zAAa (by rw [← qYI];exact (hG.sub koff).frz) (by omega) (by omega) hpref ha λs1 m cm k1 hm hc hcl s25 k25 hout=>?_)
  intro _
  have T:Sub t (add t s25):=qFc
  refine qAJ λb26 s27 hb26 h27 u27=>?_
  intro hnew
  have n26:add t s25 b26=none:=by
   cases q:add t s25 b26 with
   | none=>rfl
   | some z=>
     cases q2:cutH [(t,add t s25)] (add t s25) b26 with
     | none=>
       have:=hnew b26 (by rw [q];simp) q2
       rw [this] at h27;cases h27
     | some z2=>
       have:frz (cutH [(t,add t s25)] (add t s25)) b26≠none:=by unfold frz;rw [q2];simp
       exact absurd hb26 this
  have h27p:=(qBw (r:=s27) n26).trans h27
  have kT:Sub (add t s25) (add (add t s25) s27):=qFc
  have hrow:qAY ((rtN leaf sg cm).row .nilslc .nilslc m)=true:=SG.Rt.row_one _ rfl rfl hm.one
  refine qAR h27p rfl rfl hrow λs28 h28 u28=>?_
  have k28:Sub (add t s25) s28:=qAb kT u28 n26
  have how28:OwQ s s28 w R:=how.more (T.trans k28)
  have hoff:Sub (add (offV w t) s1) (offV w (add t s25)):=zAEf how k25 hout
  have hm2:SlR 8 (add (offV w t) s1) m (cm.map SG.cmR):=SG.SlR.addf hm (by rw [qYI];exact k1)
  have hmo:SlR 8 (offV w s28) m (cm.map SG.cmR):=(hm2.sub hoff).sub (by
   intro i e hi
   by_cases hw:∃ o n c z,w=.slc i o n c z
   ·obtain ⟨o,n,c,z,rfl⟩:=hw
    rw [qRN] at hi;cases hi
   ·have hw':∀ o n c z,w≠.slc i o n c z:=λo n c z hq=>hw ⟨o,n,c,z,hq⟩
    rw [qPG hw'] at hi ⊢
    exact k28 _ _ hi)
  have hg28:RtG (rtN leaf sg cm):=zAG9 hleaf hsg hc hcl
  have e28:rd1 s28 (.ptr b26 23)=some (.int .u32 (lpN leaf)):=by rw [qAO h28];rfl
  have r28:rdN s28 10 (.ptr b26 2)=some (esN sg).R:=by
   simp only [rdN,h28]
   rfl
  have hrts:=how28.rts
  refine ⟨λys t3 m=>∃ (k:Nat) (fb:Bool),ys=[.bool fb,.int .i64 (k:Int)]∧k≤R.length∧m=R.length - k∧t3=s28∧(fb=true↔∀ (j:Nat) y,j < k→R[j]?=some y→y.nx≠lpN leaf∨y.es≠esN sg),⟨_,0,true,rfl,by omega,rfl,rfl,by simp⟩,?_⟩
  rintro f3 t3 m3 ⟨k,fb,hy,hk,rfl,rfl,hfb⟩
  simp only [List.cons.injEq,and_true] at hy
  rw [hy.1,hy.2]
  clear hy
  simp only [qNK,hrts.len,qAM,qAA]
  refine qAC (λhlt3=>?_) (λhge3=>?_)
  ·have hlt3:k < R.length:=by have:=of_decide_eq_true hlt3;omega
   have hyk:R[k]?=some R[k]:=List.getElem?_eq_getElem hlt3
   have hym:R[k]∈R:=List.getElem_mem hlt3
   generalize R[k]=y at hyk hym
   obtain ⟨n2,hn2,hye⟩:=(hg y hym).es
   obtain ⟨yb,yo,p,q,mm,y1,y2,y3,_⟩:=hrts.get hyk
   have g23:rd1 t3 (.ptr yb (yo+21+2))=some (.int .u32 y.nx):=by rw [Nat.add_assoc];exact y3 23 (by omega)
   have g2:rdN t3 10 (.ptr yb (yo+2))=some y.es.R:=qZN (j:=2) (k:=10) y2 (by omega)
   have nextK:∀ fb2:Bool,(fb2=true↔(fb=true∧(y.nx≠lpN leaf∨y.es≠esN sg)))→(fb2=true↔∀ (j:Nat) y',j < k+1→R[j]?=some y'→y'.nx≠lpN leaf∨y'.es≠esN sg):=λfb2 h=>by
    rw [h,hfb]
    constructor
    ·rintro ⟨a1,a2⟩ j y' hj hy'
     by_cases e:j < k
     ·exact a1 j y' e hy'
     ·have:j=k:=by omega
      subst this
      rw [hyk] at hy';cases hy'
      exact a2
    ·intro a1
     exact ⟨λj y' hj hy'=>a1 j y' (by omega) hy',a1 k y (by omega) hyk⟩
   refine qAC (λhf=>?_) (λhf=>?_)
   ·refine qAF y1 (qAF (a:=.ptr yb (yo+21)) rfl (qAF (a:=.ptr yb (yo+21+2)) rfl (qAF g23 (qAF (a:=.ptr b26 21) rfl (qAF (a:=.ptr b26 23) rfl (qAF e28 ?_))))))
    have j5:∀ (p q:AV) (b2:Bool),qAc p (.bool true) q=some (.bool b2)→(b2=true↔(y.nx≠lpN leaf∨y.es≠esN sg))→qHU XX (.int .i64 (k:Int)) (.bool fb) p q (λys t' m=>∃ (k:Nat) (fb:Bool),ys=[.bool fb,.int .i64 (k:Int)]∧k≤R.length∧m=R.length - k∧t'=t3∧(fb=true↔∀ (j:Nat) y,j < k→R[j]?=some y→y.nx≠lpN leaf∨y.es≠esN sg)) (R.length - k) (λys t m=>∃ (i:Nat) (w:AV) (R:List SG.Rt),ys=[w,.int .i64 (i:Int)]∧i≤l.length∧m=l.length - i∧Sub s t∧OwQ s t w R∧(∀ r∈R,RtG r)∧Dst R∧R.length≤i) (l.length - i) K t3:=λp q b2 h h2=>by
     unfold qHU
     rw [h]
     simp only [qAA]
     refine qAF (a:=.bool b2) (by rw [hf];rfl) ?_
     simp only [qAK,qAA]
     rw [qAT (by omega) (by omega)]
     exact ⟨_,by omega,k+1,b2,rfl,by omega,rfl,(by trivial),nextK b2 (by rw [h2,hf];simp)⟩
    simp only [qAe,qAZ,Bool.true_bne,qAA]
    refine qAC (λhq=>?_) (λhq=>?_)
    ·exact j5 _ _ true (by rw [hq];rfl) (by
      have:y.nx≠lpN leaf:=by simpa using hq
      simp [this])
    ·have hnx:y.nx=lpN leaf:=by simpa using hq
     refine qAF y1 (qAF (a:=.ptr yb yo) rfl (qAF (a:=.ptr yb (yo+2)) rfl (qAF g2 (qAF (a:=.ptr b26 0) rfl (qAF (a:=.ptr b26 2) rfl (qAF r28 ?_))))))
     rw [SG.qZL,hye,qYc]
     simp only [qAZ,Bool.true_bne,qAA]
     refine j5 _ _ (!decide (n2=sg)) (by rw [hq];rfl) ?_
     rw [hye]
     have:(esN n2≠esN sg)↔n2≠sg:=⟨λh e=>h (by rw [e]),λh e=>h (zADt e)⟩
     simp [hnx,this]
   ·refine qAF (a:=.bool false) (by rw [hf];rfl) ?_
    simp only [qAK,qAA]
    rw [qAT (by omega) (by omega)]
    exact ⟨_,by omega,k+1,false,rfl,by omega,rfl,(by trivial),nextK false (by rw [hf];simp)⟩
  ·have hge3:k=R.length:=by have:=of_decide_eq_false hge3;omega
   subst hge3
   have qRb:∀ {t4:Hq} {w4:AV} {R4:List SG.Rt},Sub s t4→OwQ s t4 w4 R4→(∀ r∈R4,RtG r)→Dst R4→R4.length≤i+1→qHi XX w4 (.int .i64 (i:Int)) (λys t m=>∃ (i:Nat) (w:AV) (R:List SG.Rt),ys=[w,.int .i64 (i:Int)]∧i≤l.length∧m=l.length - i∧Sub s t∧OwQ s t w R∧(∀ r∈R,RtG r)∧Dst R∧R.length≤i) (l.length - i) K t4:=fun {t4 w4 R4} z1 z2 z3 z4 z5=>by
    simp only [qHi,qAK,qAA]
    rw [qAT (by omega) (by omega)]
    exact ⟨_,by omega,i+1,w4,R4,rfl,by omega,rfl,z1,z2,z3,z4,z5⟩
   refine qAC (λhf=>?_) (λhf=>?_)
   ·rw [qAW h28 (SG.Rt.row_len _)]
    simp only [qAA]
    refine qAF (a:=(rtN leaf sg cm).row .nilslc .nilslc m) (qKW rfl) ⟨hrow,qAJ λb56 s57 hb56 h57 u57=>?_⟩
    have k57:=u57.sub hb56
    have hoff57:Sub (offV w t3) (offV w s57):=by
     intro i e hi
     by_cases hw:∃ o n c z,w=.slc i o n c z
     ·obtain ⟨o,n,c,z,rfl⟩:=hw
      rw [qRN] at hi;cases hi
     ·have hw':∀ o n c z,w≠.slc i o n c z:=λo n c z hq=>hw ⟨o,n,c,z,hq⟩
      rw [qPG hw'] at hi ⊢
      exact k57 _ _ hi
    have nilS:∀ {h:Hq},Sl h .nilslc (SG.us []):=fun {h}=>.inl ⟨rfl,rfl⟩
    refine (how28.more k57).put (r:=rtN leaf sg cm) (p:=.nilslc) (q:=.nilslc) (m:=m) ⟨nilS,nilS,hmo.sub hoff57⟩ (qQu h57 (SG.Rt.row_len _)) (by omega) λv58 s59 how59=>?_
    refine qRb ?_ how59 (λr hr=>?_) ?_ (by simp;omega)
    ·obtain ⟨z0,z1,z2,_⟩:=how59
     exact z1.trans z2
    ·rcases List.mem_append.1 hr with hr | hr
     ·exact hg r hr
     ·rw [List.mem_singleton.1 hr];exact hg28
    ·refine List.pairwise_append.2 ⟨hd,List.pairwise_singleton _ _,λa ha b hb=>?_⟩
     rw [List.mem_singleton.1 hb]
     obtain ⟨j,hj⟩:=List.getElem?_of_mem ha
     exact hfb.1 hf j a (List.getElem?_eq_some_iff.1 hj).1 hj
   ·exact qRb (kt.trans (T.trans k28)) how28 hg hd (by omega)
 refine qAF e1 ?_
 simp only [qAG,qAA,f2]
 refine qOE (n:=5) (by omega) (by omega) λa ha _=>?_
 simp only [qAe,qAZ,Bool.false_bne,qAA]
 refine qAC (λq=>j3 _ (by omega)) (λq=>j3 _ (by omega))
end Go.AM.FW
set_option maxRecDepth 100000
namespace Go.AM.FW
open Go Go.Proofs Go.AM.TN
variable {K : AV → Hq → Prop} {s s' s0 t : Hq} {v w : AV} {cs : List AV} {F : FG} {R : List SG.Rt} {S : List (List Int × List Int)}
theorem qRu (key:EL.Cand→Int):∀ (l:List EL.Cand) (b:EL.Cand),EL.grt key b l∈b :: l
 | [],b=>by simp [EL.grt]
 | x :: r,b=>by
   rw [EL.qQW]
   split
   ·exact List.mem_cons_of_mem _ (qRu key r x)
   ·rcases List.mem_cons.1 (qRu key r b) with h | h
    ·rw [h];simp
    ·exact List.mem_cons_of_mem _ (List.mem_cons_of_mem _ h)
theorem zABR (alg bd:Int) (c:EL.Cand) (l:List EL.Cand):EL.pick alg bd c l∈c :: l:=by
 unfold EL.pick
 split
 ·cases h:(c :: l)[(bd % ((c :: l).length:Int)).toNat]? with
  | none=>simp
  | some x=>exact List.mem_of_getElem? h
 ·split
  ·exact qRu _ _ _
  ·exact qRu _ _ _
theorem qX5:∀ {l:List EL.Cand},SG.Sct l→EL.ascB l=true
 | [],_=>rfl
 | [_],_=>rfl
 | x :: y :: r,h=>by
   show (decide (x.1 < y.1)&&EL.ascB (y :: r))=true
   have h':=List.pairwise_cons.1 h
   rw [qX5 h'.2,decide_eq_true (h'.1 y (by simp))]
   rfl
theorem zAGj (R:List SG.Rt) (i:Nat):0≤Al R i∧Al R i < 3:=by
 show 0≤SG.fin3 _ _∧SG.fin3 _ _ < 3
 unfold SG.fin3
 split
 ·omega
 ·rename_i h
  have h1:=λq=>h (.inr (.inl q))
  have h2:=λq=>h (.inr (.inr q))
  omega
theorem qVR {i:Nat} {bd:Int} (h:Cn R i≠[]) (hb:0≤bd):∃ ip,ip∈(Cn R i).map (·.1)∧one R i bd=[(i,bd,ip)]:=by
 have srt:SG.Sct (Cn R i):=(SG.qJW _).srt
 have ha:=zAGj R i
 unfold one
 generalize Cn R i=l at h srt ⊢
 cases l with
 | nil=>exact absurd rfl h
 | cons c r=>
   rw [EL.qMu,if_neg (show ¬ (Al R i < 0∨3≤Al R i∨bd < 0) by omega),qX5 srt,if_pos (rfl:true=true)]
   simp only [if_true]
   exact ⟨_,List.mem_map.2 ⟨_,zABR (Al R i) bd c r,rfl⟩,rfl⟩
theorem zADL {i k:Nat} {x:List Int × List Int} {bd:Int} (h2:2≤x.1.length) (hne:Cn R i≠[]) (h0:∀ b∈x.2,0≤b) (hk:x.2[k]?=some bd):(seg R i x).length=x.2.length∧∃ ip,ip∈(Cn R i).map (·.1)∧(seg R i x)[k]?=some (i,bd,ip):=by
 have hs:seg R i x=(x.2.map (one R i)).flatten:=by unfold seg;rw [if_neg (by omega)]
 rw [hs]
 generalize x.2=l at h0 hk
 induction l generalizing k with
 | nil=>simp at hk
 | cons b l ih=>
   obtain ⟨ip,m1,m2⟩:=qVR (R:=R) (i:=i) hne (h0 b List.mem_cons_self)
   have hlen:∀ l:List Int,(∀ b∈l,0≤b)→((l.map (one R i)).flatten).length=l.length:=by
    intro l
    induction l with
    | nil=>intro _;rfl
    | cons b l ih2=>
      intro h
      obtain ⟨ip,_,m⟩:=qVR (R:=R) (i:=i) hne (h b List.mem_cons_self)
      rw [List.map_cons,List.flatten_cons,m,List.length_append,ih2 λb hb=>h b (List.mem_cons_of_mem _ hb)]
      simp only [List.length_cons,List.length_nil]
      omega
   refine ⟨hlen _ h0,?_⟩
   rw [List.map_cons,List.flatten_cons,m2]
   cases k with
   | zero=>
     simp only [List.getElem?_cons_zero,Option.some.injEq] at hk
     subst hk
     exact ⟨ip,m1,rfl⟩
   | succ k=>
     rw [List.getElem?_cons_succ] at hk
     obtain ⟨_,ip2,n1,n2⟩:=ih (λb hb=>h0 b (List.mem_cons_of_mem _ hb)) hk
     refine ⟨ip2,n1,?_⟩
     show ([(i,b,ip)] ++ _)[k+1]?=_
     rw [List.singleton_append,List.getElem?_cons_succ]
     exact n2
theorem qPM {i:Nat} {x:List Int × List Int} (h2:2≤x.1.length) (hne:Cn R i≠[]) (h0:∀ b∈x.2,0≤b):(seg R i x).length=x.2.length:=by
 cases hx:x.2 with
 | nil=>unfold seg;rw [if_neg (by omega),hx];rfl
 | cons b l=>
   have:=(zADL (R:=R) (i:=i) (k:=0) (bd:=b) h2 hne h0 (by rw [hx];rfl)).1
   rw [this,hx]
end Go.AM.FW
set_option maxRecDepth 100000
namespace Go.AM.FW
open Go Go.Proofs Go.AM.TN
variable {K : AV → Hq → Prop} {s s' s0 t : Hq} {v w : AV} {cs : List AV} {F : FG} {R : List SG.Rt} {S : List (List Int × List Int)} {v2 v3 v4 v5 v6 v7 : AV} {x : List Int × List Int}
theorem zAEb (h:SgG s v S):SgG (AM.frz s) v S:=by
 obtain ⟨vs,h1,h2,h3⟩:=h
 exact ⟨vs,h1.frz,h2,λi q x a c=>⟨(h3 i q x a c).1.frz,(h3 i q x a c).2.frz⟩⟩
theorem zAFT (h:FL s F v2 v3 v4 v5 v6 v7):FL (AM.frz s) F v2 v3 v4 v5 v6 v7:=⟨h.L.frz,h.T.frz,h.B.frz,zAEb h.S,h.H.frz,h.G.frz⟩
theorem qQ9 (z:Sz F) (hv:Valid F) (hL:FL s F v2 v3 v4 v5 v6 v7) (hK:∀ s',Sub s s'→K (.bool true) s'):wC Tryz.prog XX 64 [.agg (csG F v2 v3 v4 v5 v6 v7)] K s:=by
 refine qTv ⟨hL.all,qAJ λb0 s1 hb0 q0 u0=>?_⟩
 have q0:s1 b0=some (false,.cells 68 (csG F v2 v3 v4 v5 v6 v7)):=q0
 have k1:=u0.sub hb0
 refine qAF (qAW q0 rfl) (qVD hv z ⟨v2,v3,v4,v5,v6,v7,rfl,hL.sub k1⟩ (λ_ s4 k4=>?_) (λh=>absurd hv h))
 refine qAF (a:=.int .i64 0) rfl (qAF (a:=.str ⟨#[]⟩) rfl (qAF (a:=.int .i64 0) rfl (qAF (a:=.bool true) rfl ?_)))
 exact hK s4 (k1.trans k4)
end Go.AM.FW
set_option maxRecDepth 100000
namespace Go.AM.FW
open Go Go.Proofs Go.AM.TN
variable {K : AV → Hq → Prop} {s s' s0 t : Hq} {v w lv mv : AV} {cs : List AV} {F : FG} {R : List SG.Rt} {S : List (List Int × List Int)} {v2 v3 v4 v5 v6 v7 : AV} {x : List Int × List Int}
theorem zACD (h:SG.GlK s) (hK:K (.bool true) s):wC Tryz.prog XX 3 [] K s:=by
 obtain ⟨t,h⟩:=h
 exact qXF rfl (by decide) h hK
end Go.AM.FW
set_option maxRecDepth 100000
namespace Go.AM.FW
open Go Go.Proofs Go.AM.TN
variable {s : Hq} {v : AV}
theorem wf64 {n:Int} (h:(Lit.int .i64 n).wf=true):-9223372036854775808≤n∧n≤9223372036854775807:=by
 unfold Lit.wf at h
 simpa [IntKind.min,IntKind.max,IntKind.bits,IntKind.signed] using h
theorem zABQ {d:Nat} (h:Arg Tryz.prog s (d+2) 70 v):∃ l:List Int,Sl s v (l.map (AV.int .i64))∧(∀ x∈l,-9223372036854775808≤x∧x≤9223372036854775807)∧l.length≤maxLen:=
 qXh (d:=d+1) Tryz.underlying70 (by kernel_rfl) (AV.int .i64) (λn=>-9223372036854775808≤n∧n≤9223372036854775807) (λxs h=>by obtain ⟨n,e,w⟩:=zAEn Tryz.underlying3 h;exact ⟨n,e,wf64 w⟩) h
theorem zAFg {xs:List AV} (h:Inp Tryz.prog s 39 116 xs):∃ x:Mb,xs=mC x:=by
 have hl:=zAEY (by kernel_rfl:qCj Tryz.prog 116=some true) h
 rw [show Tryz.prog.cellsOf 116=4 by kernel_rfl] at hl
 obtain ⟨n0,h0,_⟩:=SG.qVg (j:=0) (k:=.i64) h (by kernel_rfl)
 obtain ⟨n1,h1,_⟩:=SG.qVg (j:=1) (k:=.i64) h (by kernel_rfl)
 obtain ⟨n2,h2,_⟩:=SG.qVg (j:=2) (k:=.i64) h (by kernel_rfl)
 obtain ⟨n3,h3,_⟩:=SG.qVg (j:=3) (k:=.i64) h (by kernel_rfl)
 refine ⟨(n0,n1,n2,n3),SG.zAD7 hl λj hj=>?_⟩
 match j,hj with
 | 0,_=>exact h0
 | 1,_=>exact h1
 | 2,_=>exact h2
 | 3,_=>exact h3
theorem zADZ (h:Arg Tryz.prog s 40 71 v):∃ l:List Mb,SlR 4 s v (l.map mC):=by
 obtain ⟨l,h1,_⟩:=argR (d:=39) Tryz.underlying71 mC (λ_=>True) (λa=>by rw [show Tryz.prog.cellsOf 116=4 by kernel_rfl];rfl) (λxs h=>by obtain ⟨x,e⟩:=zAFg h;exact ⟨x,e,trivial⟩) h
 rw [show Tryz.prog.cellsOf 116=4 by kernel_rfl] at h1
 exact ⟨l,h1⟩
end Go.AM.FW
namespace Go.AM
open Go Go.Proofs
end Go.AM
set_option maxRecDepth 100000
namespace Go.AM.FW
open Go Go.Proofs Go.AM.TN
variable {K : AV → Hq → Prop} {s s' s0 : Hq} {v w : AV} {R R' : List SG.Rt} {S : List (List Int × List Int)}
theorem zAAb {α:Type} {f:α→Int} {l:List α} {x:Int} (h:l.Pairwise λa b=>f a≠f b) (hx:∀ a∈l,f a=x):l.length≤1:=by
 match l,h,hx with
 | [],_,_=>simp
 | [_],_,_=>simp
 | a :: b :: r,h,hx=>
   have:=List.rel_of_pairwise_cons h (a':=b) (by simp)
   exact absurd ((hx a (by simp)).trans (hx b (by simp)).symm) this
theorem zABq {α:Type} {l l':List α} (h:l.Perm l') (hl:l.length≤1):l'=l:=by
 match l,hl,h with
 | [],_,h=>exact h.symm.eq_nil
 | [a],_,h=>exact (List.perm_singleton.1 h.symm)
 | _ :: _ :: _,hl,_=>simp at hl
theorem zACH {l l':List SG.Cd} (h:l.Perm l') (hn:l.Pairwise λa b=>a.1≠b.1):SG.Stb l l':=λx=>
 zABq (h.filter λc:SG.Cd=>decide (c.1=x)) (zAAb (f:=λc:SG.Cd=>c.1) (x:=x) (hn.filter _) λa ha=>(SG.qNS.1 ha).2)
theorem qUo {P:Program} {x:SG.Es} (h:R.Perm R'):(SG.qs P x R).Perm (SG.qs P x R'):=(h.filter _).map _
theorem zACf {i:Nat} {r:SG.Rt} (hr:RtG r) (h:SG.abt Tryz.prog (esN i) r=true):r.es=esN i:=by
 unfold SG.abt at h
 simp only [Bool.and_eq_true] at h
 obtain ⟨j,_,e⟩:=hr.es
 have h2:=h.2
 rw [e,qYc] at h2
 rw [e,of_decide_eq_true h2]
theorem zAGM {i:Nat} (hg:∀ r∈R,RtG r) (hd:Dst R):(SG.qs Tryz.prog (esN i) R).Pairwise λa b=>a.1≠b.1:=by
 unfold SG.qs
 rw [List.pairwise_map]
 have h1:(R.filter (SG.abt Tryz.prog (esN i))).Pairwise λa b=>a.nx≠b.nx∨a.es≠b.es:=hd.filter _
 refine h1.imp_of_mem fun {a b} ha hb h=>?_
 obtain ⟨a1,a2⟩:=List.mem_filter.1 ha
 obtain ⟨b1,b2⟩:=List.mem_filter.1 hb
 rcases h with h | h
 ·exact h
 ·exact absurd ((zACf (hg a a1) a2).trans (zACf (hg b b1) b2).symm) h
theorem qXl {i:Nat} (h:R.Perm R') (hg:∀ r∈R,RtG r) (hd:Dst R):Cn R' i=Cn R i:=by
 refine ((SG.qJW _).same (SG.qJW _) (zACH ((qUo h).map _) ?_)).symm
 rw [List.pairwise_map]
 exact zAGM hg hd
theorem zAFt {q:List SG.Qr} (h:SG.pG q=true):∀ x∈q,x.2.2.2=true∧x.2.1=SG.pA q:=λx hx=>by
 have:=List.all_eq_true.1 h x hx
 simpa using this
theorem zAFc {q:List SG.Qr} (h:q≠[]):∃ x∈q,x.2.1=SG.pA q:=by
 cases q with
 | nil=>exact absurd rfl h
 | cons x q=>exact ⟨x,by simp,rfl⟩
theorem qY7 {q q':List SG.Qr} (h:q.Perm q') (hq:SG.pG q=true):SG.pG q'=true∧SG.pA q'=SG.pA q:=by
 have ha:=zAFt hq
 by_cases e:q'=[]
 ·subst e
  rw [h.eq_nil]
  exact ⟨rfl,rfl⟩
 ·obtain ⟨x,hx,e1⟩:=zAFc e
  have e2:SG.pA q'=SG.pA q:=by rw [← e1];exact (ha x (h.mem_iff.2 hx)).2
  refine ⟨List.all_eq_true.2 λy hy=>?_,e2⟩
  have:=ha y (h.mem_iff.2 hy)
  simp [this.1,this.2,e2]
theorem qVN {q q':List SG.Qr} (h:q.Perm q'):SG.fin3 (SG.pG q') (SG.pA q')=SG.fin3 (SG.pG q) (SG.pA q):=by
 cases e:SG.pG q with
 | true=>
   obtain ⟨h1,h2⟩:=qY7 h e
   rw [h1,h2]
 | false=>
   cases e':SG.pG q' with
   | true=>rw [(qY7 h.symm e').1] at e;cases e
   | false=>rfl
theorem zAEJ {i:Nat} (h:R.Perm R'):Al R' i=Al R i:=qVN (qUo h)
theorem zABy {i:Nat} {bd:Int} (h:R.Perm R') (hg:∀ r∈R,RtG r) (hd:Dst R):one R' i bd=one R i bd:=by
 unfold one
 rw [qXl h hg hd,zAEJ h]
theorem qVQ (h:R.Perm R') (hg:∀ r∈R,RtG r) (hd:Dst R):∀ n:Nat,fwL S R' n=fwL S R n
 | 0=>rfl
 | n+1=>by
   unfold fwL
   rw [qVQ h hg hd n]
   congr 1
   cases S[n]? with
   | none=>rfl
   | some x=>
     simp only [seg]
     split
     ·rfl
     ·rw [show one R' n=one R n from funext λbd=>zABy h hg hd]
theorem zAB7 {l:List Int} (h:Sl s v (SG.us l)) (h':Sl s w (SG.us l)) (hl:l.length≤1000) (hK:K (.bool true) s):wC Tryz.prog XX 25 [v,w] K s:=by
 refine qL1 ?_
 simp only [qG7,h.len,h'.len,List.length_map,qAe,beq_self_eq_true,qAZ,Bool.true_bne,Bool.not_true,qAQ,qAA]
 refine ⟨λys t m=>∃ i:Nat,ys=[.int .i64 (i:Int)]∧t=s∧i≤l.length∧m=l.length - i,⟨_,0,rfl,rfl,by omega,rfl⟩,?_⟩
 rintro e t m ⟨i,hy,rfl,hi,rfl⟩
 simp only [List.cons.injEq,and_true] at hy
 rw [hy]
 simp only [qHO,h.len,List.length_map,qAM,qAA]
 refine qAC (λhlt=>?_) (λ_=>hK)
 have hlt:i < l.length:=by have:=of_decide_eq_true hlt;omega
 obtain ⟨a,e1,e2⟩:=h.get (i:=i) (by simpa using hlt)
 obtain ⟨b,e3,e4⟩:=h'.get (i:=i) (by simpa using hlt)
 rw [List.getElem?_map,List.getElem?_eq_getElem hlt] at e2 e4
 simp only [e1,e2,e3,e4,Option.map_some,qAe,beq_self_eq_true,qAZ,Bool.true_bne,Bool.not_true,qAQ,qAK,qAA]
 rw [qAT (by omega) (by omega)]
 exact ⟨_,by omega,i+1,rfl,(by trivial),by omega,rfl⟩
theorem zACG {l:List SG.Cd} (h:SlR 2 s v (l.map SG.cR)) (h':SlR 2 s w (l.map SG.cR)) (hl:l.length≤1000) (hK:K (.bool true) s):wC Tryz.prog XX 24 [v,w] K s:=by
 refine qHm ?_
 simp only [qDa,h.len,h'.len,List.length_map,qAe,beq_self_eq_true,qAZ,Bool.true_bne,Bool.not_true,qAQ,qAA]
 refine ⟨λys t m=>∃ i:Nat,ys=[.int .i64 (i:Int)]∧t=s∧i≤l.length∧m=l.length - i,⟨_,0,rfl,rfl,by omega,rfl⟩,?_⟩
 rintro e t m ⟨i,hy,rfl,hi,rfl⟩
 simp only [List.cons.injEq,and_true] at hy
 rw [hy]
 simp only [qEL,h.len,List.length_map,qAM,qAA]
 refine qAC (λhlt=>?_) (λ_=>hK)
 have hlt:i < l.length:=by have:=of_decide_eq_true hlt;omega
 obtain ⟨a,o,e1,e2,_⟩:=h.get (i:=i) (r:=SG.cR l[i]) (by simp [hlt])
 obtain ⟨b,o',e3,e4,_⟩:=h'.get (i:=i) (r:=SG.cR l[i]) (by simp [hlt])
 have hq:∀ c:SG.Cd,qGQ Tryz.prog 36 (.agg (SG.cR c)) (.agg (SG.cR c))=some true:=λc=>SG.qQM (by kernel_rfl)
 simp only [e1,e2,e3,e4,hq,qAZ,Bool.true_bne,Bool.not_true,qAQ,qAK,qAA]
 rw [qAT (by omega) (by omega)]
 exact ⟨_,by omega,i+1,rfl,(by trivial),by omega,rfl⟩
theorem zAB6 {l:List Fw} (h:SlR 12 s v (l.map fwR)) (h':SlR 12 s w (l.map fwR)) (hl:l.length≤100000) (hK:K (.bool true) s):wC Tryz.prog XX 18 [v,w] K s:=by
 refine qHn ?_
 simp only [qDe,h.len,h'.len,List.length_map,qAe,beq_self_eq_true,qAZ,Bool.true_bne,Bool.not_true,qAQ,qAA]
 refine ⟨λys t m=>∃ i:Nat,ys=[.int .i64 (i:Int)]∧t=s∧i≤l.length∧m=l.length - i,⟨_,0,rfl,rfl,by omega,rfl⟩,?_⟩
 rintro e t m ⟨i,hy,rfl,hi,rfl⟩
 simp only [List.cons.injEq,and_true] at hy
 rw [hy]
 simp only [qEC,h.len,List.length_map,qAM,qAA]
 refine qAC (λhlt=>?_) (λ_=>hK)
 have hlt:i < l.length:=by have:=of_decide_eq_true hlt;omega
 obtain ⟨a,o,e1,e2,_⟩:=h.get (i:=i) (r:=fwR l[i]) (by simp [hlt])
 obtain ⟨b,o',e3,e4,_⟩:=h'.get (i:=i) (r:=fwR l[i]) (by simp [hlt])
 have hq:∀ c:Fw,qGQ Tryz.prog 56 (.agg (fwR c)) (.agg (fwR c))=some true:=λc=>SG.qQM (by kernel_rfl)
 simp only [e1,e2,e3,e4,hq,qAZ,Bool.true_bne,Bool.not_true,qAQ,qAK,qAA]
 rw [qAT (by omega) (by omega)]
 exact ⟨_,by omega,i+1,rfl,(by trivial),by omega,rfl⟩
end Go.AM.FW
set_option maxRecDepth 100000
namespace Go.AM.FW
open Go Go.Proofs Go.AM.TN
variable {K : AV → Hq → Prop} {s s' s0 t : Hq} {v w lv mv : AV} {R R' : List SG.Rt}
theorem zACw {es:Nat} {r:List AV} (hr:r.length=es):∀ {rows:List (List AV)} {i:Nat},(∀ x∈rows,x.length=es)→i < rows.length→qAq rows.flatten (i * es) r=(rows.set i r).flatten
 | x :: rows,0,hl,_=>by
   have hx:x.length=es:=hl x (by simp)
   unfold qAq
   simp only [Nat.zero_mul,List.take_zero,List.nil_append,Nat.zero_add,List.flatten_cons,List.set_cons_zero]
   rw [hr,← hx,List.drop_left]
 | x :: rows,i+1,hl,hi=>by
   have hx:x.length=es:=hl x (by simp)
   have ih:=zACw hr (rows:=rows) (i:=i) (λy hy=>hl y (by simp [hy])) (by simpa using hi)
   simp only [List.set_cons_succ,List.flatten_cons]
   rw [← ih]
   have e:(i+1) * es=x.length+i * es:=by rw [Nat.add_mul,hx];omega
   unfold qAq
   rw [e,List.take_length_add_append,Nat.add_assoc,List.drop_length_add_append]
   simp only [List.append_assoc]
theorem zADy {elem:TypeId} {es:Nat} {rows:List (List AV)} (h:AccR elem es s0 s v rows) (hdom:Sub s0 s) {i:Nat} {r:List AV} {p:AV} (hi:i < rows.length) (hp:qAH es v (.int .i64 (i:Int))=some p) (hr:r.length=es) (ho:qAY r=true) {R:Hq→Prop}
  (hR:∀ s',AccR elem es s0 s' v (rows.set i r)→Sub s0 s'→R s'):oK (qAn s es p (.agg r)) R:=by
 obtain ⟨hl,h⟩:=h
 rcases h with ⟨_,rfl⟩ | ⟨b,hb0,rfl,hb⟩
 ·simp at hi
 have e1:Nat.blt i rows.length=true:=by rw [Nat.blt_eq];exact hi
 have hp2:p=.ptr b (0+i * es):=by
  have:qAH es (.slc b 0 rows.length none es) (.int .i64 (i:Int))=some (.ptr b (0+i * es)):=by simp [qAH,e1]
  rw [this] at hp
  exact (Option.some.inj hp).symm
 subst hp2
 have hle:0+i * es+r.length≤rows.flatten.length:=by
  rw [qHV hl,hr,Nat.zero_add,← Nat.succ_mul]
  exact Nat.mul_le_mul_right _ hi
 have e2:qAn s es (.ptr b (0+i * es)) (.agg r)=some (hset s b (false,.cells elem (qAq rows.flatten (i * es) r))):=by
  unfold qAn wrN
  simp only [qGx,hr,Nat.beq_refl,cond_true,hb]
  rw [hr] at hle
  rw [Nat.ble_eq_true_of_le hle,ho,Nat.zero_add]
  rfl
 refine qAF e2 (hR _ ⟨λx hx=>?_,.inr ⟨b,hb0,by rw [List.length_set],?_⟩⟩ λi e hi=>?_)
 ·rcases List.mem_or_eq_of_mem_set hx with hx | rfl
  ·exact hl x hx
  ·exact hr
 ·rw [qSc,zACw hr hl hi]
 ·rw [qQg (qBe hb0 hi)]
  exact hdom i e hi
theorem OwR.set (h:OwR s0 s v R) (hdom:Sub s0 s) {i:Nat} {r:SG.Rt} {pi:AV} (hi:i < R.length) (hpi:qAH 38 v (.int .i64 (i:Int))=some pi) {T:Hq→Prop}
  (hR:∀ s',OwR s0 s' v (R.set i r)→Sub s0 s'→T s'):∀ x,(∃ p q m,x=r.row p q m∧SG.RtAt s0 r p q m)→oK (qAn s 38 pi (.agg x)) T:=by
 rintro x ⟨p,q,m,rfl,hat⟩
 obtain ⟨rows,h1,h2,h3⟩:=h
 refine zADy h1 hdom (by rw [h2];exact hi) hpi (SG.Rt.row_len r) hat.one λs' a1 k=>hR s' ⟨_,a1,by rw [List.length_set,List.length_set,h2],λn r' hn=>?_⟩ k
 by_cases e:i=n
 ·subst e
  rw [List.getElem?_set_self hi] at hn
  cases hn
  exact ⟨p,q,m,by rw [List.getElem?_set_self (by rw [h2];exact hi)],hat⟩
 ·rw [List.getElem?_set_ne e] at hn ⊢
  exact h3 n r' hn
theorem OwR.get (h:OwR s0 s v R) {i:Nat} {r:SG.Rt} (hi:R[i]?=some r):∃ pi x,qAH 38 v (.int .i64 (i:Int))=some pi∧rdN s 38 pi=some x∧∃ p q m,x=r.row p q m∧SG.RtAt s0 r p q m:=by
 obtain ⟨rows,h1,h2,h3⟩:=h
 obtain ⟨p,q,m,q1,q2⟩:=h3 i r hi
 obtain ⟨b,o,e1,e2,e3⟩:=h1.sl.get q1
 exact ⟨_,_,e1,e2,p,q,m,rfl,q2⟩
theorem Rts.frz (h:SG.Rts s v R):SG.Rts (AM.frz s) v R:=by
 obtain ⟨rows,h1,h2,h3⟩:=h
 exact ⟨rows,h1.frz,h2,λi r hi=>by
  obtain ⟨p,q,m,a,b⟩:=h3 i r hi
  exact ⟨p,q,m,a,b.pa.frz,b.cl.frz,b.cm.frz⟩⟩
theorem qZD {i j:Nat} {a b:SG.Rt} (hi:R[i]?=some a) (hj:R[j]?=some b):((R.set i b).set j a).Perm R:=by
 obtain ⟨h1,rfl⟩:=List.getElem?_eq_some_iff.1 hi
 obtain ⟨h2,rfl⟩:=List.getElem?_eq_some_iff.1 hj
 exact List.set_set_perm h1 h2
end Go.AM.FW
set_option maxRecDepth 100000
namespace Go.AM.FW
open Go Go.Proofs Go.AM.TN
variable {K : AV → Hq → Prop} {s s' s0 t : Hq} {v w lv mv : AV} {R R' : List SG.Rt}
theorem zAEX {l:List Int} (hG:SG.GlK s) (hl:Sl s lv (l.map (AV.int .i64))) (hlen:l.length≤9000000000000000000) (hb:∀ x∈l,-9223372036854775808≤x∧x≤9223372036854775807) (ha:SG.Rts s v R) (hw:SG.Rts s w R') (hp:R.Perm R') (hg:∀ r∈R,RtG r) (hd:Dst R) (h60:R.length≤60) (hK:∀ s',K (.bool true) s'):qCx XX lv (.bool true) v w K s:=by
 unfold qCx
 refine qX2 hl hlen hb λt3 cs NF k3 ok nfr=>?_
 obtain ⟨v2,v3,v4,v5,v6,v7,rfl,hL⟩:=nfr.fab
 have z:=ok.sz
 have hv:=ok.valid
 generalize NF.toG=F at hL z hv ⊢
 refine qAJ λb19 s20 hb19 h20 u20=>qAR h20 rfl rfl hL.all λs21 h21 u21=>?_
 have k21:Sub t3 s21:=qAb (u20.sub hb19) u21 hb19
 have kk:Sub s s21:=k3.trans k21
 have hG21:=hG.sub kk
 have ha21:=ha.sub kk
 have hw21:=hw.sub kk
 have hL21:=hL.sub k21
 have hg':∀ r∈R',RtG r:=λr hr=>hg r (hp.mem_iff.2 hr)
 have hlp:=hp.length_eq
 have hok5:SegOk F:=hv 5 (by omega)
 have hdm:DomOk F:=hv 4 (by omega)
 have hS64:=hok5.n
 have hb32:∀ x∈F.S,x.2.length≤32:=λx hx=>by
  have row:=hok5.row x hx
  have:=hdm.n
  rcases qZK row.2.2.2 row.2.1.2 with h | h
  ·omega
  ·exact absurd h row.1.2
 have hAl:=qUA (R:=R) hb32 F.S.length
 simp only [qAh]
 refine qAF (qAW h21 rfl) (qLY hv z ⟨v2,v3,v4,v5,v6,v7,rfl,zAFT hL21⟩ (Rts.frz ha21) hG21.frz (λr hr=>(hg r hr).ok) (by omega) (λh=>absurd hv h) λ_ vA sA kA hA=>?_)
 intro _
 have kT:Sub s21 (add s21 sA):=qFc
 refine qAF (qAW (EL.zAEV (.refl _) _ _ h21) rfl) ?_
 have hA2:=SG.SlR.addf hA kA
 generalize add s21 sA=T at kT hA2 ⊢
 refine qLY hv z ⟨v2,v3,v4,v5,v6,v7,rfl,hL21.sub kT⟩ (hw21.sub kT) (hG21.sub kT) (λr hr=>(hg' r hr).ok) (by omega) (λh=>absurd hv h) λ_ vB sB kB hB=>?_
 rw [qVQ hp hg hd] at hB
 refine zAB6 (hA2.sub kB) hB (by omega) ?_
 simp only [qAg,qAA]
 exact hK _
theorem zADb {l:List Int} (hG:SG.GlK s) (hl:Sl s lv (l.map (AV.int .i64))) (hlen:l.length≤9000000000000000000) (hb:∀ x∈l,-9223372036854775808≤x∧x≤9223372036854775807) (ha:SG.Rts s v R) (hw:SG.Rts s w R') (hp:R.Perm R') (hg:∀ r∈R,RtG r) (hd:Dst R) (h60:R.length≤60) (hK:∀ s',K (.bool true) s'):qBo XX lv (.bool true) v w K s:=by
 unfold qBo
 refine ⟨λys t m=>∃ i:Nat,ys=[.int .i64 (i:Int)]∧i≤6∧m=6 - i∧Sub s t,⟨_,0,rfl,by omega,rfl,.refl _⟩,?_⟩
 rintro f t m ⟨i,hy,hi,rfl,kt⟩
 simp only [List.cons.injEq,and_true] at hy
 rw [hy]
 clear hy
 have hg':∀ r∈R',RtG r:=λr hr=>hg r (hp.mem_iff.2 hr)
 have hlp:=hp.length_eq
 simp only [qHN,qAM,qAA]
 refine qAC (λhlt=>?_) (λ_=>zAEX (hG.sub kt) (hl.sub kt) hlen hb (ha.sub kt) (hw.sub kt) hp hg hd h60 hK)
 have hlt:i < 6:=by have:=of_decide_eq_true hlt;omega
 have e1:Cn R' i=Cn R i:=qXl hp hg hd
 have hcl:(Cn R i).length≤60:=by
  have h1:=SG.qQD (SG.cds (SG.qs Tryz.prog (esN i) R))
  rw [SG.qRm] at h1
  have h2:=SG.qVM (P:=Tryz.prog) (x:=esN i) (R:=R)
  exact Nat.le_trans h1 (by omega)
 refine qOU (by omega) λs34 k34=>?_
 have q34:=kt.trans k34
 refine SG.qTj (x:=esN i) (ha.sub q34) (hG.sub q34) (λr hr=>(hg r hr).ok) (by omega) λv36 s36 k36 hA=>?_
 refine qAF (a:=v36) rfl (qAF rfl (qOU (by omega) λs40 k40=>?_))
 have q40:=q34.trans (k36.trans k40)
 refine SG.qTj (x:=esN i) (hw.sub q40) (hG.sub q40) (λr hr=>(hg' r hr).ok) (by omega) λv42 s42 k42 hB=>?_
 refine qAF (a:=v42) rfl (qAF rfl ?_)
 have e2:SG.fin3 (SG.pG (SG.qs Tryz.prog (esN i) R')) (SG.pA (SG.qs Tryz.prog (esN i) R'))=SG.fin3 (SG.pG (SG.qs Tryz.prog (esN i) R)) (SG.pA (SG.qs Tryz.prog (esN i) R)):=qVN (qUo hp)
 rw [e2]
 have hB:SlR 2 s42 v42 ((Cn R' i).map SG.cR):=hB
 rw [e1] at hB
 refine zACG (l:=Cn R i) (hA.sub (k40.trans k42)) hB (by omega) ?_
 simp only [qAs,Bool.not_true,qAA,qAQ,qAe,beq_self_eq_true,qAZ,Bool.true_bne,qE6,qAf]
 have q42:=q40.trans k42
 refine qOU (by omega) λs52 k52=>SG.zACo (x:=esN i) (ha.sub (q42.trans k52)) (by omega) λv53 s54 k54 hC=>qOU (by omega) λs56 k56=>?_
 have q56:=q42.trans (k52.trans (k54.trans k56))
 refine SG.zACo (x:=esN i) (hw.sub q56) (by omega) λv57 s58 k58 hD=>?_
 have hD:Sl s58 v57 (SG.us ((Cn R' i).map (·.1))):=hD
 rw [e1] at hD
 refine zAB7 (l:=(Cn R i).map (·.1)) (hC.sub (k56.trans k58)) hD (by rw [List.length_map];omega) ?_
 simp only [qAs,Bool.not_true,qAA,qFG,qAf,qAQ,qAK]
 rw [qAT (by omega) (by omega)]
 exact ⟨_,by omega,i+1,rfl,by omega,rfl,q56.trans k58⟩
theorem zABU {k:Nat} {rows:List (List AV)} (h2:rows.length=R.length) (h3:∀ (i:Nat) (r:SG.Rt),R[i]?=some r→∃ p q m,rows[i]?=some (r.row p q m)∧SG.RtAt s r p q m):∀ (j:Nat) (r:SG.Rt),(R.drop k ++ R.take k)[j]?=some r→∃ p q m,(rows.drop k ++ rows.take k)[j]?=some (r.row p q m)∧SG.RtAt s r p q m:=λj r hj=>by
 by_cases e:j < R.length - k
 ·rw [List.getElem?_append_left (by rw [List.length_drop];exact e),List.getElem?_drop] at hj
  obtain ⟨p,q,m,a,b⟩:=h3 _ _ hj
  exact ⟨p,q,m,by rw [List.getElem?_append_left (by rw [List.length_drop,h2];exact e),List.getElem?_drop];exact a,b⟩
 ·rw [List.getElem?_append_right (by rw [List.length_drop];omega),List.length_drop,List.getElem?_take] at hj
  split at hj
  ·rename_i hlt
   obtain ⟨p,q,m,a,b⟩:=h3 _ _ hj
   exact ⟨p,q,m,by rw [List.getElem?_append_right (by rw [List.length_drop,h2];omega),List.length_drop,h2,List.getElem?_take,if_pos hlt];exact a,b⟩
  ·cases hj
theorem zABc {l:List Int} {ms:List Mb} {turn:Int} {back:Bool} (hG:SG.GlK s) (hl:Sl s lv (l.map (AV.int .i64))) (hb:∀ x∈l,-9223372036854775808≤x∧x≤9223372036854775807) (hm:SlR 4 s mv (ms.map mC)) (hK:∀ s',K (.bool true) s'):wC Tryz.prog XX 4 [lv,mv,.int .i64 turn,.bool back] K s:=by
 refine qL2 (zACD hG ?_)
 have len:qAS lv=some l.length:=by rw [hl.len,List.length_map]
 rw [len]
 simp only [qAA,qA4]
 refine qAC (λ_=>hK _) (λq200=>?_)
 have hlen:l.length≤9000000000000000000:=by have:=of_decide_eq_false q200;omega
 unfold qDg
 refine qXo hG hm λv2 s3 R k3 hR hg hd h60=>?_
 have lenR:=hR.len
 simp only [lenR,qAA,qAe,qAZ,Bool.false_bne]
 refine qAC (λ_=>hK _) (λq0=>?_)
 have hpos:1≤R.length:=by
  have:((R.length:Int) == 0)=false:=q0
  have:=beq_eq_false_iff_ne.1 this
  omega
 have hne:R≠[]:=λe=>by rw [e] at hpos;simp at hpos
 unfold qDo
 simp only [lenR,qAA]
 refine qOE (n:=R.length) hpos (by omega) λk hk _=>?_
 refine qAF (a:=[]) rfl ⟨rfl,qAJ λb9 s10 hb9 h10 u10=>?_⟩
 have k10:=u10.sub hb9
 obtain ⟨rows,r1,r2,r3⟩:=hR.sub k10
 have rne:rows≠[]:=λe=>by rw [e] at r2;exact hne (List.length_eq_zero_iff.1 r2.symm)
 obtain ⟨v11,e11,d11,_⟩:=r1.drop (k:=k) (by omega) rne
 obtain ⟨v14,e14,d14,_⟩:=r1.take (k:=k) (by omega) rne
 rw [e11]
 simp only [qAA]
 refine qVt (s0:=s10) (.inl ⟨rfl,b9,rfl⟩) d11 (by rw [List.length_drop];simp only [List.length_nil];omega) (.refl _) λv12 s13 o13 k13=>?_
 rw [e14]
 simp only [qAA,List.nil_append] at o13 ⊢
 refine qVt (s0:=s10) o13 (d14.sub k13) (by rw [List.length_drop,List.length_take];omega) k13 λv15 s16 o16 k16=>?_
 have own:OwR s10 s16 v15 (R.drop k ++ R.take k):=by
  rcases o16 with ⟨e,_⟩ | o16
  ·have:=congrArg List.length e
   rw [List.length_append,List.length_drop,List.length_take] at this
   simp only [List.length_nil] at this
   omega
  ·exact ⟨_,o16,by simp only [List.length_append,List.length_drop,List.length_take,r2],zABU r2 r3⟩
 have hp:R.Perm (R.drop k ++ R.take k):=by
  have:=List.perm_append_comm (l₁:=R.take k) (l₂:=R.drop k)
  rwa [List.take_append_drop] at this
 have ks:Sub s s10:=k3.trans k10
 have fin:∀ {t:Hq} {R2:List SG.Rt},Sub s10 t→OwR s10 t v15 R2→R.Perm R2→qBo XX lv (.bool true) v2 v15 K t:=λkt o p=>zADb (hG.sub (ks.trans kt)) (hl.sub (ks.trans kt)) hlen hb (hR.sub (k10.trans kt)) (o.rts kt) p hg hd h60 hK
 cases back with
 | false=>exact fin k16 own hp
 | true=>
   simp only [qAh]
   refine ⟨λys t m=>∃ (i:Nat) (R2:List SG.Rt),ys=[.int .i64 (i:Int)]∧i≤R.length / 2∧m=R.length / 2 - i∧Sub s10 t∧OwR s10 t v15 R2∧R.Perm R2,⟨_,0,_,rfl,by omega,rfl,k16,own,hp⟩,?_⟩
   rintro f t m ⟨i,R2,hy,hi,rfl,kt,o,p⟩
   simp only [List.cons.injEq,and_true] at hy
   rw [hy]
   clear hy
   have pl:=p.length_eq
   have lenW:qAS v15=some R.length:=by rw [(o.rts kt).len,pl]
   have eq2:((R.length:Int).tdiv 2)=((R.length / 2:Nat):Int):=rfl
   simp only [qHY,lenW,qAA,qL5 (show (2:Int)≠0 by decide),eq2]
   rw [qAT (by omega) (by omega)]
   simp only [qAM,qAA]
   refine qAC (λhlt=>?_) (λ_=>fin kt o p)
   have hlt:i < R.length / 2:=by have:=of_decide_eq_true hlt;omega
   have ej:(R.length:Int) - 1 - (i:Int)=((R.length - 1 - i:Nat):Int):=by omega
   have hj:R.length - 1 - i < R2.length:=by omega
   have hi2:i < R2.length:=by omega
   obtain ⟨pj,xj,g1,g2,g3⟩:=o.get (List.getElem?_eq_getElem hj)
   obtain ⟨pi,xi,g4,g5,g6⟩:=o.get (List.getElem?_eq_getElem hi2)
   simp only [qAo,qAA]
   rw [show IntKind.i64.wrap ((R.length:Int) - 1)=(R.length:Int) - 1 from qAT (by omega) (by omega),show IntKind.i64.wrap ((R.length:Int) - 1 - (i:Int))=(R.length:Int) - 1 - (i:Int) from qAT (by omega) (by omega),ej]
   simp only [g1,g2,g4,g5,qAA]
   refine o.set kt (r:=R2[R.length - 1 - i]) hi2 g4 (λs80 o80 k80=>?_) xj g3
   refine o80.set k80 (r:=R2[i]) (by rw [List.length_set];exact hj) g1 (λs82 o82 k82=>?_) xi g6
   simp only [qAK,qAA]
   rw [qAT (by omega) (by omega)]
   exact ⟨_,by omega,i+1,_,rfl,by omega,rfl,k82,o82,p.trans (qZD (List.getElem?_eq_getElem hi2) (List.getElem?_eq_getElem hj)).symm⟩
end Go.AM.FW
set_option maxRecDepth 100000
namespace Go.AM
open Go Go.Proofs
theorem Order_wp (s:Hq) (xs:List AV) (hg:s 0=some (true,.glob 0 (.agg kindsL))) (h:ArgL Tryz.prog s 40 [70,71,3,4] xs):wC Tryz.prog XX 4 xs (λv _=>v=.bool true) s:=by
 obtain ⟨a,b,c,d,rfl,h1,h2,h3,h4⟩:=zAGn h
 obtain ⟨l,hl,hb,hn⟩:=FW.zABQ (d:=38) h1
 obtain ⟨m,hm⟩:=FW.zADZ h2
 obtain ⟨turn,rfl,_⟩:=zAD6 (d:=39) Tryz.underlying3 h3
 obtain ⟨back,rfl⟩:=zAAi (d:=39) Tryz.underlying4 h4
 exact FW.zABc ⟨true,hg⟩ hl hb hm λ_=>rfl
end Go.AM
