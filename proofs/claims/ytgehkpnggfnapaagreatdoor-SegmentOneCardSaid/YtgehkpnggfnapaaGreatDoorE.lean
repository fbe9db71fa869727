/- Part E of a calculus over a small memory that is proved to answer as the program does, and of its use for the functions that the law reaches: see the last part. -/
import Derived.Test.YtgehkpnggfnapaaGreatDoorC
import Derived.Test.YtgehkpnggfnapaaGreatDoorG
set_option linter.unusedVariables false
set_option maxRecDepth 100000
namespace Go.AM.FW
open Go Go.Proofs Go.AM.TN
variable {K : AV → Hq → Prop} {s s' s0 : Hq} {v w : AV} {cs : List AV} {F : FG} {R : List SG.Rt} {S : List (List Int × List Int)}
def esN (i:Nat):SG.Es:=⟨3,0,0,0,0,0,0,0,0,(i:Int)+1⟩
theorem qYk {i:Nat} (hi:i < 64) (hK:∀ s',Sub s s'→K (.tup [.agg (esN i).R,.int .i64 0]) s'):wC Tryz.prog XX 40 [.int .i64 (i:Int)] K s:=by
 refine qJo (qAJ λb s1 hb h1 u1=>?_)
 have c1:decide ((i:Int) < 0)=false:=decide_eq_false (by omega)
 have c2:decide ((64:Int)≤(i:Int))=false:=decide_eq_false (by omega)
 simp only [qAM,qAv,qAA,c1,c2,qAR,qDo,qAd,qAL]
 rw [qAT (by omega) (by omega)]
 have e:qBg .u8 (.int .i64 ((i:Int)+1))=some (.int .u8 ((i:Int)+1)):=by
  show some (AV.int .u8 (qAw .u8 ((i:Int)+1)))=_
  rw [EL.wu8,Int.emod_eq_of_lt (by omega) (by omega)]
 rw [e]
 simp only [qAA]
 refine qAF (a:=(esN i).R) rfl (qAP h1 rfl rfl rfl λs2 h2 u2=>qAF (qAW h2 rfl) ?_)
 exact hK s2 (qAX (u1.sub hb) u2 hb)
noncomputable abbrev Cn (R:List SG.Rt) (i:Nat):List SG.Cd:=SG.qNR (SG.cds (SG.qs Tryz.prog (esN i) R))
noncomputable abbrev Al (R:List SG.Rt) (i:Nat):Int:=SG.fin3 (SG.pG (SG.qs Tryz.prog (esN i) R)) (SG.pA (SG.qs Tryz.prog (esN i) R))
abbrev Fw:=Nat × Int × Int
noncomputable def one (R:List SG.Rt) (i:Nat) (bd:Int):List Fw:=if (EL.elect (Al R i) (Cn R i) bd).2=true then [(i,bd,(EL.elect (Al R i) (Cn R i) bd).1)] else []
noncomputable def seg (R:List SG.Rt) (i:Nat) (x:List Int × List Int):List Fw:=if x.1.length < 2 then [] else (x.2.map (one R i)).flatten
noncomputable def fwL (S:List (List Int × List Int)) (R:List SG.Rt):Nat→List Fw
 | 0=>[]
 | n+1=>fwL S R n ++ (match S[n]? with
   | some x=>seg R n x
   | none=>[])
def fwR (p:Fw):List AV:=(esN p.1).R ++ [.int .i64 p.2.1,.int .u32 p.2.2]
theorem qX9 {l:List Int} {n:Int} (h:l.Pairwise (· < ·)) (h2:∀ x∈l,0≤x∧x < n):(l.length:Int)≤n∨l=[]:=by
 have key:∀ (j:Nat) (hj:j < l.length),(j:Int)≤l[j]:=by
  intro j
  induction j with
  | zero=>exact λhj=>(h2 _ (List.getElem_mem hj)).1
  | succ j ih=>
    intro hj
    have h3:=ih (by omega)
    have h4:=(List.pairwise_iff_getElem.1 h) j (j+1) (by omega) hj (by omega)
    omega
 by_cases e:l=[]
 ·exact .inr e
 ·have hl:0 < l.length:=List.length_pos_iff.2 e
  have h3:=key (l.length - 1) (by omega)
  have h4:=(h2 _ (List.getElem_mem (show l.length - 1 < l.length by omega))).2
  exact .inl (by omega)
theorem zAEN {i:Nat} {bd:Int}:(one R i bd).length≤1:=by unfold one;split <;> simp
theorem qWE {i:Nat} (l:List Int):((l.map (one R i)).flatten).length≤l.length:=by
 induction l with
 | nil=>simp
 | cons x l ih=>
   have:=zAEN (R:=R) (i:=i) (bd:=x)
   simp only [List.map_cons,List.flatten_cons,List.length_append,List.length_cons]
   omega
theorem qRl (h:∀ x∈S,x.2.length≤32):∀ n:Nat,(fwL S R n).length≤32 * n
 | 0=>by simp [fwL]
 | n+1=>by
   have ih:=qRl h n
   unfold fwL
   rw [List.length_append]
   cases e:S[n]? with
   | none=>simp only [List.length_nil];omega
   | some x=>
     have h1:=h x (List.mem_of_getElem? e)
     have:(seg R n x).length≤x.2.length:=by
      unfold seg
      split
      ·simp
      ·exact qWE _
     simp only
     omega
theorem zACk {P:Program} {x:SG.Es}:SG.qs P x (R.filter λr=>r.kd == 4)=SG.qs P x R:=by
 unfold SG.qs
 rw [List.filter_filter]
 congr 1
 refine List.filter_congr λr _=>?_
 unfold SG.abt
 cases r.kd == 4 <;> simp
theorem qU0 {p:AV} {k:Nat} {l:List AV} (hs:Sub s s') (e:rdN s k p=some l):rdN s' k p=some l:=by
 unfold rdN at e ⊢
 split at e
 ·rename_i b o
  split at e
  ·rename_i t ty cs h
   rw [hs _ _ h]
   exact e
  ·cases e
 ·cases e
theorem qIT {zs c:List AV} (h:c.length=zs.length):qBN (repl 1 zs) [(0,zs.length,.agg c)]=some c:=by
 have e0:repl 1 zs=zs:=by simp [repl]
 rw [e0]
 have e2:Nat.beq c.length zs.length=true:=by rw [h];exact Nat.beq_refl _
 have e3:Nat.ble (0+c.length) zs.length=true:=Nat.ble_eq_true_of_le (by omega)
 simp only [qBN,qH2,e2,e3,Bool.and_self,cond_true]
 unfold qA0
 rw [List.take_zero,List.nil_append,List.drop_eq_nil_of_le (by omega),List.append_nil]
theorem qPU {es:Nat} {e:TypeId} {b:Nat} {t:Bool} {r:List AV} (h:s b=some (t,.cells e r)) (hl:r.length=es):SlR es s (.slc b 0 1 (some 1) es) [r]:=
 SlR.mk (λx hx=>by rw [List.mem_singleton.1 hx];exact hl) (by simpa using h) rfl (λc e=>by cases e;simp)
def OwR (s0 s:Hq) (v:AV) (R:List SG.Rt):Prop:=∃ rows:List (List AV),AccR 51 38 s0 s v rows∧rows.length=R.length∧∀ (j:Nat) (r:SG.Rt),R[j]?=some r→∃ p q m,rows[j]?=some (r.row p q m)∧SG.RtAt s0 r p q m
theorem OwR.sub (h:OwR s0 s v R) (k:Sub s s'):OwR s0 s' v R:=by
 obtain ⟨rows,h1,h2,h3⟩:=h
 exact ⟨rows,h1.sub k,h2,h3⟩
theorem OwR.rts (h:OwR s0 s v R) (k:Sub s0 s):SG.Rts s v R:=by
 obtain ⟨rows,h1,h2,h3⟩:=h
 exact ⟨rows,h1.sl,h2,λj r hj=>by obtain ⟨p,q,m,a,b⟩:=h3 j r hj;exact ⟨p,q,m,a,b.sub k⟩⟩
def offV (v:AV) (t:Hq):Hq:=match v with
 | .slc b _ _ _ _=>λi=>if i=b then none else t i
 | _=>t
theorem qHU {t:Hq}:Sub (offV v t) t:=λi x hi=>by
 unfold offV at hi
 split at hi
 ·split at hi
  ·cases hi
  ·exact hi
 ·exact hi
theorem _root_.Go.AM.AccR.base {e:TypeId} {es:Nat} {rows:List (List AV)} {t:Hq} (h:AccR e es s0 s v rows) (k:Sub t s0):AccR e es t s v rows:=by
 obtain ⟨h1,h2⟩:=h
 refine ⟨h1,?_⟩
 rcases h2 with h2 | ⟨b,a1,a2,a3⟩
 ·exact .inl h2
 ·refine .inr ⟨b,?_,a2,a3⟩
  cases q:t b with
  | none=>rfl
  | some x=>rw [k _ _ q] at a1;cases a1
theorem _root_.Go.AM.AccR.off {e:TypeId} {es:Nat} {rows:List (List AV)} {t t2:Hq} (h:AccR e es t s v rows) (k:Sub t t2):Sub t (offV v t2):=λi x hi=>by
 rcases h.2 with ⟨rfl,_⟩ | ⟨b,a1,rfl,_⟩
 ·exact k _ _ hi
 ·unfold offV
  simp only
  rw [if_neg (qBn a1 hi)]
  exact k _ _ hi
theorem _root_.Go.AM.AccR.off1 {e:TypeId} {es:Nat} {rows:List (List AV)} {t t2:Hq} {c:Nat} {x:Bool × Blk} (h:AccR e es t s v rows) (hc:s c=none) (hx:t2 c=some x):offV v t2 c=some x:=by
 rcases h.2 with ⟨rfl,_⟩ | ⟨b,a1,rfl,a3⟩
 ·exact hx
 ·unfold offV
  simp only
  rw [if_neg,hx]
  rintro rfl
  rw [hc] at a3;cases a3
theorem _root_.Go.AM.AccR.after {e:TypeId} {es:Nat} {rows:List (List AV)} {t t2 s1 s2:Hq} (h:AccR e es t s v rows) (hk:Sub s t2) (h1:∀ i,offV v t2 i=none→t2 i≠none→s2 i=t2 i∧s1 i=none):AccR e es s1 s2 v rows:=by
 refine ⟨h.1,?_⟩
 rcases h.2 with h2 | ⟨b,a1,rfl,a3⟩
 ·exact .inl h2
 ·have q:=hk _ _ a3
  obtain ⟨z1,z2⟩:=h1 b (by unfold offV;simp) (by rw [q];simp)
  exact .inr ⟨b,z2,rfl,by rw [z1];exact q⟩
theorem qTb {i:Nat} {r:SG.Rt} {f:SG.Rt→Bool} (h:R[i]?=some r):(R.take (i+1)).filter f=(R.take i).filter f ++ (if f r=true then [r] else []):=by
 rw [List.take_add_one,h,List.filter_append]
 congr 1
 simp only [Option.toList_some,List.filter_cons,List.filter_nil]
theorem qLp (hv0:Valid F) (z:Sz F) (hF:FabR s cs F) (hR:SG.Rts s v R) (hG:SG.GlK s) (hok:∀ r∈R,r.ok) (hl:R.length≤100) (h0:¬ Valid F→∀ s',Sub s s'→K .nilslc s') (hK:Valid F→∀ v' s',Sub s s'→SlR 12 s' v' ((fwL F.S R F.S.length).map fwR)→K v' s'):wC Tryz.prog XX 19 [.agg cs,v] K s:=by
 obtain ⟨v2,v3,v4,v5,v6,v7,rfl,hL⟩:=hF
 refine qNe ⟨hL.all,qAJ λb0 s1 hb0 q0 u0=>?_⟩
 have q0:s1 b0=some (false,.cells 68 (csG F v2 v3 v4 v5 v6 v7)):=q0
 have k1:=u0.sub hb0
 refine qAF (qAW q0 rfl) (qVc hv0 z ⟨v2,v3,v4,v5,v6,v7,rfl,hL.sub k1⟩ (λhv s4 k4=>?_) (λhv e p i s4 he k4=>?_))
 rotate_left
 ·refine qAF (a:=.int .i64 e) rfl (qAF (a:=.str p) rfl (qAF (a:=.int .i64 i) rfl ?_))
  have:(!(e == 0))=true:=by simpa using he
  simp only [qAg,qAc,Bool.true_bne,qAA,this,qAh]
  exact h0 hv s4 (k1.trans k4)
 refine qAF (a:=.int .i64 0) rfl (qAF (a:=.str ⟨#[]⟩) rfl (qAF (a:=.int .i64 0) rfl ?_))
 refine qAF (a:=.bool false) rfl ?_
 simp only [qAR]
 have hok5:SegOk F:=hv 5 (by omega)
 have hdm:DomOk F:=hv 4 (by omega)
 have hb32:∀ x∈F.S,x.2.length≤32:=λx hx=>by
  have row:=hok5.row x hx
  have:=hdm.n
  rcases qX9 row.2.2.2 row.2.1.2 with h | h
  ·omega
  ·exact absurd h row.1.2
 have k14:Sub s s4:=k1.trans k4
 have hR4:=hR.sub k14
 have q04:=k4 _ _ q0
 simp only [hR4.len,qAA]
 refine ⟨λys t m=>∃ (i:Nat) (w:AV),ys=[w,.int .i64 (i:Int)]∧i≤R.length∧m=R.length - i∧Sub s4 t∧OwR s4 t w ((R.take i).filter λr=>r.kd == 4),⟨_,0,_,rfl,by omega,rfl,.refl _,[],⟨(λr h=>by cases h),.inl ⟨rfl,rfl⟩⟩,by simp,λj r h=>by simp at h⟩,?_⟩
 rintro f t m ⟨i,w,hy,hi,rfl,kt,how⟩
 simp only [List.cons.injEq,and_true] at hy
 rw [hy.1,hy.2]
 clear hy
 simp only [qI3,qAM,qAA]
 refine qAC (λhlt=>?_) (λhge=>?_)
 ·have hlt:i < R.length:=by have:=of_decide_eq_true hlt;omega
  have hr:R[i]?=some R[i]:=List.getElem?_eq_getElem hlt
  generalize R[i]=r at hr
  obtain ⟨b,o,p,pq,mm,e1,e2,_,e4⟩:=hR4.get hr
  simp only [e1,qU0 kt e2,qAA]
  refine qAJ λb14 s15 hb14 h15 u15=>qAP h15 rfl rfl e4.one λs16 h16 u16=>?_
  have k16:Sub t s16:=qAX (u15.sub hb14) u16 hb14
  have hkd:rd1 s16 (.ptr b14 0)=some (.int .i64 r.kd):=by rw [qAO h16];rfl
  simp only [qAG,Nat.zero_add,qAA,hkd,qAg,qAc,Bool.false_bne]
  have hstep:=qTb (f:=λr=>r.kd == 4) hr
  refine qAC (λq=>?_) (λq=>?_)
  ·rw [qAW h16 (SG.Rt.row_len r)]
   simp only [qAA]
   refine qAF (a:=r.row p pq mm) (qIT rfl) ⟨e4.one,qAJ λb24 s25 hb24 h25 u25=>?_⟩
   have k25:Sub t s25:=k16.trans (u25.sub hb24)
   obtain ⟨rows,a1,a2,a3⟩:=how
   refine (a1.sub k25).app (m:=[r.row p pq mm]) (qPU h25 (SG.Rt.row_len r)) (by simp) ?_ (kt.trans k25) λv26 s27 a4 k27=>?_
   ·have:=List.length_filter_le (λr:SG.Rt=>r.kd == 4) (R.take i)
    rw [List.length_take] at this
    simp only [List.length_cons,List.length_nil]
    omega
   simp only [qEN,qAL,qAA]
   rw [qAT (by omega) (by omega)]
   refine ⟨_,by omega,i+1,_,rfl,by omega,rfl,k27,?_⟩
   rw [hstep,if_pos q]
   refine ⟨rows ++ [r.row p pq mm],a4,by simp [a2],λj r' hj=>?_⟩
   by_cases hj':j < rows.length
   ·rw [List.getElem?_append_left (by rw [← a2];exact hj')] at hj
    obtain ⟨p',q',m',z1,z2⟩:=a3 j r' hj
    exact ⟨p',q',m',by rw [List.getElem?_append_left hj'];exact z1,z2⟩
   ·rw [List.getElem?_append_right (by omega)] at hj
    have:j=rows.length:=by
     have:=(List.getElem?_eq_some_iff.1 hj).1
     simp only [List.length_singleton] at this
     omega
    subst this
    rw [a2,Nat.sub_self] at hj
    simp only [List.getElem?_cons_zero,Option.some.injEq] at hj
    subst hj
    exact ⟨p,pq,mm,by rw [List.getElem?_append_right (by omega),Nat.sub_self];rfl,e4⟩
  ·simp only [qEN,qAL,qAA]
   rw [qAT (by omega) (by omega)]
   refine ⟨_,by omega,i+1,_,rfl,by omega,rfl,kt.trans k16,?_⟩
   rw [hstep,if_neg (by rw [q];simp),List.append_nil]
   exact how.sub k16
 ·have hge:i=R.length:=by have:=of_decide_eq_false hge;omega
  subst hge
  rw [List.take_length] at how
  have ownR:=how.rts kt
  have q0t:=kt _ _ q04
  have hLt:=hL.sub (k14.trans kt)
  have lenS:qAS v5=some F.S.length:=hL.S.len
  simp only [qAG,Nat.zero_add,qAA,qAO q0t,csG5,lenS]
  refine ⟨λys t2 m=>∃ (i:Nat) (w2:AV),ys=[w2,.int .i64 (i:Int)]∧i≤F.S.length∧m=F.S.length - i∧Sub t t2∧AccR 56 12 t t2 w2 ((fwL F.S R i).map fwR),⟨_,0,_,rfl,by omega,rfl,.refl _,λr h=>(by cases h),.inl ⟨rfl,rfl⟩⟩,?_⟩
  rintro f2 t2 m ⟨i,w2,hy,hi2,rfl,kt2,acc⟩
  simp only [List.cons.injEq,and_true] at hy
  rw [hy.1,hy.2]
  clear hy
  simp only [qIx,qAM,qAA]
  have hfl:=qRl (R:=R) hb32 i
  have hS64:=hok5.n
  refine qAC (λhlt=>?_) (λhge=>?_)
  rotate_left
  ·have hge:i=F.S.length:=by have:=of_decide_eq_false hge;omega
   subst hge
   exact hK hv _ _ (k14.trans (kt.trans kt2)) acc.sl
  have hlt:i < F.S.length:=by have:=of_decide_eq_true hlt;omega
  have hx:F.S[i]?=some F.S[i]:=List.getElem?_eq_getElem hlt
  have hx32:=hb32 _ (List.getElem_mem hlt)
  generalize F.S[i]=x at hx hx32
  obtain ⟨pb,po,l1,l2,e1,e2,_,_,g1,g2⟩:=hLt.S.at hx
  simp only [e1,qU0 kt2 e2,qAA]
  refine qAJ λb36 s37 hb36 h36 u36=>qAP h36 rfl rfl (by simp [g1.one,g2.one]) λs38 h38 u38=>?_
  have k38:Sub t2 s38:=qAX (u36.sub hb36) u38 hb36
  have a0:rd1 s38 (.ptr b36 0)=some l1:=by rw [qAO h38];rfl
  have n1:qAS l1=some x.1.length:=by rw [g1.len,qGN]
  have n2:qAS l2=some x.2.length:=by rw [g2.len,qGN]
  have enext:fwL F.S R (i+1)=fwL F.S R i ++ seg R i x:=by
   show fwL F.S R i ++ _=_
   rw [hx]
  simp only [qAG,Nat.zero_add,qAA,a0,n1,qAM]
  refine qAC (λq=>?_) (λq=>?_)
  ·have q:x.1.length < 2:=by have:=of_decide_eq_true q;omega
   simp only [qES,qAL,qAA]
   rw [qAT (by omega) (by omega)]
   refine ⟨_,by omega,i+1,_,rfl,by omega,rfl,kt2.trans k38,?_⟩
   rw [enext]
   unfold seg
   rw [if_pos q,List.append_nil]
   exact acc.sub k38
  ·have q:¬ x.1.length < 2:=by have:=of_decide_eq_false q;omega
   refine qYk (by omega) λs45 k45=>?_
   refine qAF (a:=.agg (esN i).R) rfl (qAF (a:=.int .i64 0) rfl ?_)
   refine qAJ λb48 s49 hb48 h49 u49=>qAP h49 rfl rfl rfl λs50 h50 u50=>?_
   have k50:Sub s45 s50:=qAX (u49.sub hb48) u50 hb48
   refine qAF (qAW h50 rfl) ?_
   have kt50:Sub t s50:=kt2.trans (k38.trans (k45.trans k50))
   have hGt:SG.GlK s50:=hG.sub (k14.trans (kt.trans kt50))
   have accs:=acc.sub (k38.trans (k45.trans k50))
   have koff:Sub t (offV w2 s50):=acc.off kt50
   have n48:t2 b48=none:=by
    cases e:t2 b48 with
    | none=>rfl
    | some y=>rw [k45 _ _ (k38 _ _ e)] at hb48;cases hb48
   have n36:t2 b36=none:=hb36
   have o48:offV w2 s50 b48=_:=acc.off1 n48 h50
   have o36:offV w2 s50 b36=_:=acc.off1 n36 (k50 _ _ (k45 _ _ h38))
   refine wC.part qAx qHU (SG.zAEX (x:=esN i) (ownR.sub koff) (hG.sub (k14.trans (kt.trans koff))) (λr hr=>hok r ((List.mem_filter.1 hr).1)) (by have:=List.length_filter_le (λr:SG.Rt=>r.kd == 4) R;omega) λv52 s51 k51 hc s53 k53 hout=>?_)
   rw [zACk] at hc
   rw [zACk]
   have acc53:=acc.after (k38.trans (k45.trans k50)) hout
   refine qAF (a:=v52) rfl (qAF (a:=.int .i64 (Al R i)) rfl ?_)
   have h38':=k53 _ _ (k51 _ _ o36)
   have a1:rd1 s53 (.ptr b36 1)=some l2:=by rw [qAO h38'];rfl
   simp only [qAG,Nat.zero_add,qAA,a1,n2]
   have hcl:(Cn R i).length≤1000:=by
    have h1:=SG.qQA (SG.cds (SG.qs Tryz.prog (esN i) R))
    rw [SG.qQn] at h1
    have h2:=SG.qVW (P:=Tryz.prog) (x:=esN i) (R:=R)
    exact Nat.le_trans h1 (by omega)
   have kb:Sub t s51:=koff.trans k51
   have h51:s51 b48=_:=k51 _ _ o48
   refine ⟨λys t3 m=>∃ (k:Nat) (w3:AV),ys=[w3,.int .i64 (k:Int)]∧k≤x.2.length∧m=x.2.length - k∧Sub s51 t3∧AccR 56 12 s51 t3 w3 ((fwL F.S R i ++ ((x.2.take k).map (one R i)).flatten).map fwR),⟨_,0,_,rfl,by omega,rfl,k53,?_⟩,?_⟩
   ·rw [List.take_zero,List.map_nil,List.flatten_nil,List.append_nil]
    exact acc53
   rintro f3 t3 m ⟨k,w3,hy,hk3,rfl,k3,acc3⟩
   simp only [List.cons.injEq,and_true] at hy
   rw [hy.1,hy.2]
   clear hy
   simp only [qIu,qAM,qAA]
   refine qAC (λhlt3=>?_) (λhge3=>?_)
   rotate_left
   ·have hge3:k=x.2.length:=by have:=of_decide_eq_false hge3;omega
    subst hge3
    simp only [qES,qAL,qAA]
    rw [qAT (by omega) (by omega)]
    refine ⟨_,by omega,i+1,_,rfl,by omega,rfl,kb.trans k3,?_⟩
    rw [enext]
    unfold seg
    rw [if_neg q]
    rw [List.take_length] at acc3
    exact acc3.base kb
   have hlt3:k < x.2.length:=by have:=of_decide_eq_true hlt3;omega
   obtain ⟨p61,c1,c2⟩:=(g2.sub (kb.trans k3)).get (i:=k) (by rw [qGN];exact hlt3)
   rw [qQM hlt3] at c2
   have hbd:x.2[k]?=some x.2[k]:=List.getElem?_eq_getElem hlt3
   generalize x.2[k]=bd at c2 hbd
   rw [c1]
   simp only [qAA,c2]
   have kn:((x.2.take (k+1)).map (one R i)).flatten=((x.2.take k).map (one R i)).flatten ++ one R i bd:=by
    rw [List.take_add_one,hbd]
    simp
   have hlen3:(fwL F.S R i ++ ((x.2.take k).map (one R i)).flatten).length+1≤16777216:=by
    have:=qWE (R:=R) (i:=i) (x.2.take k)
    rw [List.length_take] at this
    rw [List.length_append]
    omega
   have koff3:Sub s51 (offV w3 t3):=acc3.off k3
   refine wC.part qAx qHU (EL.zABM (l:=Cn R i) (hc.sub koff3) hcl λs63 k63 s64 k64 hout3=>?_)
   have acc4:=acc3.after (.refl _) hout3
   have kb4:Sub s51 s63:=koff3.trans k63
   refine qAF (a:=.int .u32 (EL.elect (Al R i) (Cn R i) bd).1) rfl (qAF (a:=.bool (EL.elect (Al R i) (Cn R i) bd).2) rfl ?_)
   refine qAC (λe=>?_) (λe=>?_)
   ·refine qAF (qAW (k64 _ _ (kb4 _ _ h51)) rfl) (qAF (a:=fwR (i,bd,(EL.elect (Al R i) (Cn R i) bd).1)) rfl (qAF (a:=fwR (i,bd,(EL.elect (Al R i) (Cn R i) bd).1)) (qIT rfl) ⟨rfl,qAJ λb71 s72 hb71 h72 u72=>?_⟩))
    have k72:=u72.sub hb71
    refine (acc4.sub k72).app (m:=[fwR (i,bd,(EL.elect (Al R i) (Cn R i) bd).1)]) (qPU h72 rfl) (by simp) (by rw [List.length_map];exact hlen3) (k64.trans k72) λv73 s74 a4 k74=>?_
    simp only [qEO,qAL,qAA]
    rw [qAT (by omega) (by omega)]
    refine ⟨_,by omega,k+1,_,rfl,by omega,rfl,kb4.trans k74,?_⟩
    rw [kn]
    unfold one at a4 ⊢
    rw [if_pos e]
    rw [← List.append_assoc,List.map_append]
    exact a4.base kb4
   ·simp only [qEO,qAL,qAA]
    rw [qAT (by omega) (by omega)]
    refine ⟨_,by omega,k+1,_,rfl,by omega,rfl,kb4.trans k64,?_⟩
    rw [kn]
    have:one R i bd=[]:=by
     unfold one
     rw [if_neg (by rw [e];simp)]
    rw [this,List.append_nil]
    exact acc4.base kb4
end Go.AM.FW
set_option maxRecDepth 100000
namespace Go.AM.TN
open Go Go.Proofs
variable {K : AV → Hq → Prop} {s s' : Hq} {cs : List AV}
theorem qPC {α β γ:Type} {f:Nat→α→β} {g:β→γ} {l:List α}:(l.mapIdx f).map g=l.mapIdx λi x=>g (f i x):=by
 apply List.ext_getElem?
 intro i
 simp only [List.getElem?_map,List.getElem?_mapIdx,Option.map_map]
 rfl
def ni (l:List Nat):List Int:=l.map λ(n:Nat)=>(n:Int)
theorem zAG3 {l:List Nat}:ix (ni l)=iz l:=by unfold ix ni iz;simp
def tgN (i:Nat):Int × Int:=(100+(i:Int),900+(i:Int))
def bgN (i:Nat) (x:Bd):BG:=((x.1:Int),10+(i:Int),500+(i:Int),subN i x.2,lenN x.2,gwN i x.2)
def hgN (i:Nat) (x:Hst):R4:=(2199023951872+(i:Int),ipN i x,(x.1:Int),sgN x)
def ggN (x:Lkg):R4:=((x.1:Int),(x.2.1:Int),pfN x.2.2,plN x.2.2)
def NFab.toG (F:NFab):FG:=⟨F.x.lf,F.x.sp,F.x.el,F.x.hz,F.x.ro,F.x.su,F.x.tr,F.x.de,9,F.x.ag,20,5,30,F.L,(List.range F.n).map tgN,F.B.mapIdx bgN,F.S.map λx=>(ni x.1,ni x.2),F.H.mapIdx hgN,F.G.map ggN⟩
theorem NFR.fab {F:NFab} (h:NFR s cs F):FabR s cs F.toG:=by
 obtain ⟨v2,v3,v4,v5,v6,v7,rfl,h2,h3,h4,h5,h6,h7⟩:=h.ex
 refine ⟨v2,v3,v4,v5,v6,v7,rfl,⟨h2,?_,?_,?_,?_,?_⟩⟩
 ·show SlR 2 s v3 (((List.range F.n).map tgN).map tgC)
  rw [List.map_map]
  exact h3
 ·show SlR 6 s v4 ((F.B.mapIdx bgN).map bgC)
  rw [qPC]
  exact h4
 ·obtain ⟨vs,a1,a2,a3⟩:=h5
  refine ⟨vs,a1,by show vs.length=(F.S.map _).length;rw [a2,List.length_map],λi q x hq hx=>?_⟩
  have hx:(F.S.map λx=>(ni x.1,ni x.2))[i]?=some x:=hx
  rw [List.getElem?_map] at hx
  cases e:F.S[i]? with
  | none=>rw [e] at hx;cases hx
  | some y=>
    rw [e] at hx
    cases hx
    obtain ⟨b1,b2⟩:=a3 i q y hq e
    simp only [zAG3]
    exact ⟨b1,b2⟩
 ·show SlR 4 s v6 ((F.H.mapIdx hgN).map hgC)
  rw [qPC]
  exact h6
 ·show SlR 4 s v7 ((F.G.map ggN).map ggC)
  rw [List.map_map]
  exact h7
theorem qYG {l:List Nat} {x:Int}:x∈ni l↔∃ n∈l,(n:Int)=x:=by unfold ni;simp
theorem qYe {l:List Nat} (h:l.Pairwise (· < ·)):(ni l).Pairwise (· < ·):=by
 unfold ni
 rw [List.pairwise_map]
 exact h.imp λh=>by omega
theorem qYY:∀ i:Nat,i < 4→qHt (167772160+(i:Int) * 65536) 24=true∧qHt (167772160+(i:Int) * 65536) 16=true∧qL5 (167772160+(i:Int) * 65536) 24 (167772160+(i:Int) * 65536+1)=true:=by decide +kernel
theorem zAGB:∀ i:Nat,i < 4→∀ j:Nat,j < i→qE2 (167772160+(i:Int) * 65536) 24 (167772160+(j:Int) * 65536)=false∧qE2 (167772160+(j:Int) * 65536) 24 (167772160+(i:Int) * 65536)=false:=by decide +kernel
theorem zAFV:∀ j:Nat,j < 4→∀ i:Nat,i < 8→qL5 (167772160+(j:Int) * 65536) 24 (167772160+(j:Int) * 65536+(10+(i:Int)))=true:=by decide +kernel
theorem zAGi:∀ i:Nat,i < 8→qWs (2199023951872+(i:Int))=false:=by decide +kernel
theorem zADK:qHt 0 0=true:=by decide +kernel
theorem qG5 {α β:Type} {f:Nat→α→β} {l:List α} {i:Nat} {y:β} (h:y∈(l.mapIdx f).take i):∃ j x,j < i∧l[j]?=some x∧y=f j x:=by
 obtain ⟨j,hj,e⟩:=List.getElem_of_mem h
 rw [List.length_take,List.length_mapIdx] at hj
 rw [List.getElem_take,List.getElem_mapIdx] at e
 exact ⟨j,l[j],by omega,List.getElem?_eq_getElem (by omega),e.symm⟩
theorem qLW {α β:Type} {f:Nat→α→β} {l:List α} {i:Nat} {y:β} (h:(l.mapIdx f)[i]?=some y):∃ x,l[i]?=some x∧y=f i x:=by
 rw [List.getElem?_mapIdx] at h
 cases e:l[i]? with
 | none=>rw [e] at h;cases h
 | some x=>rw [e] at h;cases h;exact ⟨x,rfl,rfl⟩
theorem qP6 {α:Type} {f:α→List Int} {n:Int}:∀ {l:List α},(∀ x∈l,(f x).Nodup)→((l.map f).flatten).count n≤l.length
 | [],_=>by simp
 | x :: l,h=>by
   have ih:=qP6 (n:=n) (λy hy=>h y (List.mem_cons_of_mem _ hy))
   have h1:(f x).count n≤1:=List.nodup_iff_count.1 (h x List.mem_cons_self) n
   simp only [List.map_cons,List.flatten_cons,List.count_append,List.length_cons]
   omega
theorem NFok.valid {F:NFab} (h:NFok F):Valid F.toG:=by
 have hx:=h.x
 intro i hi
 match i,hi with
 | 0,_=>
   have:=hx.lf;have:=hx.sp;have:=hx.el;have:=hx.hz;have:=hx.ro
   exact ⟨by show 1≤(F.x.lf:Int)∧(F.x.lf:Int)≤32;omega,by show 0≤(F.x.sp:Int)∧(F.x.sp:Int)≤32;omega,by show (F.x.lf:Int)+F.x.sp≤32;omega,by show 0≤(F.x.el:Int)∧(F.x.el:Int)≤2;omega,by show 0≤(F.x.hz:Int)∧(F.x.hz:Int)≤1;omega,by show 0≤(F.x.ro:Int)∧(F.x.ro:Int)≤1;omega⟩
 | 1,_=>
   have:=hx.de;have:=hx.ag
   exact ⟨by show 1≤(F.x.de:Int)∧(F.x.de:Int)≤100;omega,by show (3:Int)≤9∧(9:Int)≤1000;omega,by show 1≤(F.x.ag:Int)∧(F.x.ag:Int)≤10000;omega,by show (0:Int)≤20∧(20:Int)≤1000;omega,by show (1:Int)≤5∧(5:Int)≤100;omega,by show (1:Int)≤30∧(30:Int)≤10000;omega⟩
 | 2,_=>
   refine ⟨Nat.le_trans h.Ln (by omega),λi x hi=>⟨?_,?_⟩⟩
   ·have hi:F.L[i]?=some x:=hi
    obtain ⟨a,b,c⟩:=h.L.2 x (List.mem_of_getElem? hi)
    exact ⟨a,⟨b.1,by have:=b.2;show x.2.1 < (F.x.lf:Int)+F.x.sp;omega⟩,c.1,by omega⟩
   ·have hi:F.L[i]?=some x:=hi
    show (x.1,x.2.1) ∉ (F.L.take i).map λx=>(x.1,x.2.1)
    rw [List.map_take]
    exact qQE h.L.1 i _ (by rw [List.getElem?_map,hi];rfl)
 | 3,_=>
   have hn:=h.n
   have at_:∀ (i:Nat) x,((List.range F.n).map tgN)[i]?=some x→i < F.n∧x=tgN i:=λi x hi=>by
    rw [List.getElem?_map] at hi
    by_cases e:i < F.n
    ·rw [List.getElem?_range e] at hi;cases hi;exact ⟨e,rfl⟩
    ·rw [List.getElem?_eq_none (by simpa using e)] at hi;cases hi
   have tk:∀ (i:Nat) y,y∈((List.range F.n).map tgN).take i→∃ j,j < i∧y=tgN j:=λi y hy=>by
    obtain ⟨j,hj,e⟩:=List.getElem_of_mem hy
    rw [List.length_take] at hj
    rw [List.getElem_take] at e
    refine ⟨j,by omega,?_⟩
    rw [← e]
    simp
   refine ⟨by show ((List.range F.n).map tgN).length≤16;simp;omega,λi x hi=>?_⟩
   obtain ⟨a,rfl⟩:=at_ i x hi
   refine ⟨⟨by show (1:Int)≤100+(i:Int);omega,by show (100:Int)+(i:Int)≤16777215;omega,by show (900:Int)+(i:Int)≠0;omega⟩,?_,?_⟩
   ·intro hm
    obtain ⟨y,hy,e⟩:=List.mem_map.1 hm
    obtain ⟨j,hj,rfl⟩:=tk i y hy
    have e:(100:Int)+(j:Int)=100+(i:Int):=e
    omega
   ·intro hm
    obtain ⟨y,hy,e⟩:=List.mem_map.1 hm
    obtain ⟨j,hj,rfl⟩:=tk i y hy
    have e:(900:Int)+(j:Int)=900+(i:Int):=e
    omega
 | 4,_=>
   have hB:=h.Bn
   have hT:∀ y∈(List.range F.n).map tgN,∃ j:Nat,y=tgN j:=λy hy=>by
    obtain ⟨j,_,e⟩:=List.mem_map.1 hy
    exact ⟨j,e.symm⟩
   refine ⟨by show (F.B.mapIdx bgN).length≤32;simp;omega,λi y hi=>?_⟩
   have hi:(F.B.mapIdx bgN)[i]?=some y:=hi
   obtain ⟨x,hx,rfl⟩:=qLW hi
   have hi4:i < 4:=by have:=(List.getElem?_eq_some_iff.1 hx).1;omega
   have hxn:=h.B x (List.mem_of_getElem? hx)
   refine ⟨⟨⟨by show (0:Int)≤(x.1:Int);omega,by show (x.1:Int) < (((List.range F.n).map tgN).length:Int);simp;exact hxn⟩,⟨by show (1:Int)≤10+(i:Int);omega,by show 10+(i:Int)≤16777215;omega⟩,by show 500+(i:Int)≠0;omega⟩,?_,?_,?_,?_,?_⟩
   ·intro hm
    obtain ⟨y,hy,e⟩:=List.mem_map.1 hm
    obtain ⟨j,x',hj,_,rfl⟩:=qG5 hy
    have e:(10:Int)+(j:Int)=10+(i:Int):=e
    omega
   ·intro hm
    obtain ⟨y,hy,e⟩:=List.mem_map.1 hm
    obtain ⟨j,x',hj,_,rfl⟩:=qG5 hy
    have e:(500:Int)+(j:Int)=500+(i:Int):=e
    omega
   ·refine List.any_eq_false.2 λy hy=>?_
    obtain ⟨j,rfl⟩:=hT y hy
    show ¬ (((100:Int)+(j:Int) == 10+(i:Int))=true)
    rw [beq_iff_eq];omega
   ·refine List.any_eq_false.2 λy hy=>?_
    obtain ⟨j,hj,rfl⟩:∃ j:Nat,j < F.n∧y=tgN j:=by
     obtain ⟨j,hj,e⟩:=List.mem_map.1 hy
     exact ⟨j,List.mem_range.1 hj,e.symm⟩
    have:=h.n
    show ¬ (((900:Int)+(j:Int) == 500+(i:Int))=true)
    rw [beq_iff_eq];omega
   ·show (gwN i x.2=0→subN i x.2=0∧lenN x.2=0)∧(gwN i x.2≠0→qHt (subN i x.2) (lenN x.2)=true∧(8≤lenN x.2∧lenN x.2≤30)∧qL5 (subN i x.2) (lenN x.2) (gwN i x.2)=true∧((F.B.mapIdx bgN).take i).any (qZq (bgN i x))=false)
    unfold gwN subN lenN
    cases hr:x.2 with
    | false=>exact ⟨λ_=>⟨rfl,rfl⟩,λq=>absurd rfl q⟩
    | true=>
      simp only [if_true]
      obtain ⟨c1,_,c3⟩:=qYY i hi4
      refine ⟨λq=>by omega,λ_=>⟨c1,⟨by omega,by omega⟩,c3,?_⟩⟩
      refine List.any_eq_false.2 λy hy=>?_
      obtain ⟨j,x',hj,_,rfl⟩:=qG5 hy
      show ¬ ((((x'.1:Int) == (x.1:Int))&&(gwN j x'.2 != 0)&&(qE2 (subN j x'.2) (lenN x'.2) (subN i x.2)||qE2 (subN i x.2) (lenN x.2) (subN j x'.2)))=true)
      unfold gwN subN lenN
      cases x'.2 with
      | false=>simp
      | true=>
        obtain ⟨d1,d2⟩:=zAGB i hi4 j hj
        rw [hr]
        simp only [if_true,d1,d2,Bool.or_self,Bool.and_false,Bool.false_eq_true,not_false_eq_true]
 | 5,_=>
   have hS:=h.Sn
   refine ⟨by show (F.S.map _).length≤64;rw [List.length_map];omega,λy hy=>?_,λn=>?_⟩
   ·have hy:y∈F.S.map λx=>(ni x.1,ni x.2):=hy
    obtain ⟨x,hx,rfl⟩:=List.mem_map.1 hy
    obtain ⟨a1,a2,a3,_,a5,a6,a7,_⟩:=h.S x hx
    refine ⟨⟨λe=>a2 (List.map_eq_nil_iff.1 e),λe=>a6 (List.map_eq_nil_iff.1 e)⟩,⟨λn hn=>?_,λn hn=>?_⟩,qYe a1,qYe a5⟩
    ·obtain ⟨m,hm,rfl⟩:=qYG.1 hn
     have:=a3 m hm
     exact ⟨by omega,by show (m:Int) < (F.x.lf:Int);omega⟩
    ·obtain ⟨m,hm,rfl⟩:=qYG.1 hn
     have:=a7 m hm
     exact ⟨by omega,by show (m:Int) < ((F.B.mapIdx bgN).length:Int);rw [List.length_mapIdx];omega⟩
   ·show (((F.S.map λx=>(ni x.1,ni x.2)).map (·.1)).flatten).count n≤32
    rw [List.map_map]
    refine Nat.le_trans (qP6 λx hx=>?_) (by omega)
    exact (qYe (h.S x hx).1).imp λh=>by omega
 | 6,_=>
   have hH:=h.Hn
   have hB:=h.Bn
   refine ⟨by show (F.H.mapIdx hgN).length≤128;simp;omega,λi y hi=>?_⟩
   have hi:(F.H.mapIdx hgN)[i]?=some y:=hi
   obtain ⟨x,hx,rfl⟩:=qLW hi
   have hi8:i < 8:=by have:=(List.getElem?_eq_some_iff.1 hx).1;omega
   obtain ⟨⟨g,hg,hxg⟩,hip⟩:=h.H x (List.mem_of_getElem? hx)
   obtain ⟨_,_,_,_,_,_,a7,_⟩:=h.S g (List.mem_of_getElem? hg)
   have hbd:=a7 x.1 hxg
   have hsl:=(List.getElem?_eq_some_iff.1 hg).1
   refine ⟨⟨by show 2199023951872+(i:Int)≠0;omega,by show 2199023951872+(i:Int)≤281474976710655;omega,zAGi i hi8⟩,⟨⟨by show (0:Int)≤(x.1:Int);omega,by show (x.1:Int) < ((F.B.mapIdx bgN).length:Int);rw [List.length_mapIdx];omega⟩,?_⟩,?_,⟨⟨by show 2199023951872+(i:Int)≠1577058561;omega,?_⟩,?_⟩,?_,?_⟩
   ·show -1≤sgN x∧sgN x≤((F.S.map λx=>(ni x.1,ni x.2)).length:Int) - 1
    rw [List.length_map]
    unfold sgN
    split <;> omega
   ·show sgN x≠-1→∀ y,(F.S.map λx=>(ni x.1,ni x.2))[(sgN x).toNat]?=some y→(x.1:Int)∈y.2
    unfold sgN
    split
    ·intro q;exact absurd rfl q
    ·intro _ y hy
     rw [Int.toNat_natCast,List.getElem?_map,hg] at hy
     cases hy
     exact qYG.2 ⟨x.1,hxg,rfl⟩
   ·show (!(decide (2199023951872+(i:Int) < 2199023255552)||decide (2199023255584≤2199023951872+(i:Int))))=false
    have:decide ((2199023255584:Int)≤2199023951872+(i:Int))=true:=decide_eq_true (by omega)
    rw [this];simp
   ·intro d hd
    have hd:(F.B.mapIdx bgN)[((x.1:Nat):Int).toNat]?=some d:=hd
    rw [Int.toNat_natCast] at hd
    obtain ⟨xb,hxb,rfl⟩:=qLW hd
    show ((ipN i x == 0)||((gwN x.1 xb.2 != 0)&&(ipN i x != gwN x.1 xb.2)&&qL5 (subN x.1 xb.2) (lenN xb.2) (ipN i x)))=true
    unfold ipN
    cases hr:x.2.2.1 with
    | false=>rfl
    | true=>
      obtain ⟨d',q1,q2⟩:=hip hr
      rw [hxb] at q1
      cases q1
      have hc:=zAFV x.1 (by omega) i hi8
      unfold gwN subN lenN
      rw [q2]
      simp only [if_true,hc,Bool.and_true,Bool.or_eq_true,beq_iff_eq,Bool.and_eq_true,bne_iff_ne]
      exact .inr ⟨by omega,by omega⟩
   ·intro hm
    obtain ⟨y,hy,e⟩:=List.mem_map.1 hm
    obtain ⟨j,x',hj,_,rfl⟩:=qG5 hy
    have e:((x'.1:Int),2199023951872+(j:Int))=((x.1:Int),2199023951872+(i:Int)):=e
    simp only [Prod.mk.injEq] at e
    omega
   ·intro hne hm
    obtain ⟨y,hy,e⟩:=List.mem_map.1 hm
    obtain ⟨j,x',hj,_,rfl⟩:=qG5 hy
    have e:((x'.1:Int),ipN j x')=((x.1:Int),ipN i x):=e
    have hne:ipN i x≠0:=hne
    simp only [Prod.mk.injEq] at e
    obtain ⟨e1,e2⟩:=e
    unfold ipN at e2 hne
    cases hr:x.2.2.1 with
    | false=>rw [hr] at hne;exact hne rfl
    | true=>
      rw [hr] at e2
      cases hr':x'.2.2.1 with
      | false=>rw [hr'] at e2;simp only [if_true,Bool.false_eq_true,if_false] at e2;omega
      | true=>rw [hr'] at e2;simp only [if_true] at e2;omega
 | 7,_=>
   have hG:=h.G
   have hGn:=h.Gn
   refine ⟨by show (F.G.map ggN).length≤256;rw [List.length_map];omega,λi y hi=>?_⟩
   have hi:(F.G.map ggN)[i]?=some y:=hi
   rw [List.getElem?_map] at hi
   cases hx:F.G[i]? with
   | none=>rw [hx] at hi;cases hi
   | some x=>
     rw [hx] at hi
     cases hi
     obtain ⟨b1,b2,b3,b4⟩:=hG.2 x (List.mem_of_getElem? hx)
     have hlen:(((List.range F.n).map tgN).length:Int)=(F.n:Int):=by simp
     refine ⟨⟨⟨by show (0:Int)≤(x.1:Int);omega,by show (x.1:Int) < (((List.range F.n).map tgN).length:Int);rw [hlen];omega⟩,⟨by show (0:Int)≤(x.2.1:Int);omega,by show (x.2.1:Int) < (((List.range F.n).map tgN).length:Int);rw [hlen];omega⟩⟩,⟨by show (x.1:Int)≠(x.2.1:Int);omega,?_⟩,?_⟩
     ·show qHt (pfN x.2.2) (plN x.2.2)=true
      cases hp:x.2.2 with
      | none=>exact zADK
      | some j=>exact (qYY j (b4 j hp)).2.1
     ·intro hm
      have hm:ggN x∈(F.G.map ggN).take i:=hm
      rw [← List.map_take] at hm
      obtain ⟨y,hy,e⟩:=List.mem_map.1 hm
      have:y=x:=by
       obtain ⟨y1,y2,y3⟩:=y
       obtain ⟨x1,x2,x3⟩:=x
       have e:((y1:Int),(y2:Int),pfN y3,plN y3)=((x1:Int),(x2:Int),pfN x3,plN x3):=e
       simp only [Prod.mk.injEq] at e
       obtain ⟨e1,e2,e3,e4⟩:=e
       have h1:y1=x1:=by omega
       have h2:y2=x2:=by omega
       have h3:y3=x3:=by
        cases y3 <;> cases x3 <;> simp only [pfN,plN] at e3 e4
        ·rfl
        ·omega
        ·omega
        ·congr 1;omega
       rw [h1,h2,h3]
      subst this
      exact qQE hG.1 i y hx hy
 | n+8,hi=>omega
theorem NFok.sz {F:NFab} (h:NFok F):Sz F.toG:=by
 have:=h.Ln;have:=h.n;have:=h.Bn;have:=h.Sn;have:=h.Hn;have:=h.Gn
 refine ⟨by show F.L.length≤_;omega,by show ((List.range F.n).map tgN).length≤_;simp;omega,by show (F.B.mapIdx bgN).length≤_;simp;omega,by show (F.S.map _).length≤_;rw [List.length_map];omega,by show (F.H.mapIdx hgN).length≤_;simp;omega,by show (F.G.map ggN).length≤_;rw [List.length_map];omega,λy hy=>?_,λy hy=>?_⟩
 ·have hy:y∈F.S.map λx=>(ni x.1,ni x.2):=hy
  obtain ⟨x,hx,rfl⟩:=List.mem_map.1 hy
  obtain ⟨_,_,_,a4,_,_,_,a8⟩:=h.S x hx
  unfold ni
  simp only [List.length_map]
  omega
 ·have hy:y∈F.H.mapIdx hgN:=hy
  obtain ⟨i,hi⟩:=List.getElem?_of_mem hy
  obtain ⟨x,hx,rfl⟩:=qLW hi
  have hi8:=(List.getElem?_eq_some_iff.1 hx).1
  obtain ⟨⟨g,hg,hxg⟩,_⟩:=h.H x (List.mem_of_getElem? hx)
  obtain ⟨_,_,_,_,_,_,a7,_⟩:=h.S g (List.mem_of_getElem? hg)
  have:=a7 x.1 hxg
  show 0≤ipN i x∧ipN i x < 4294967296
  unfold ipN
  split <;> omega
end Go.AM.TN
set_option maxRecDepth 100000
namespace Go.AM.FW
open Go Go.Proofs Go.AM.TN
variable {K : AV → Hq → Prop} {s s' s0 : Hq} {v w : AV} {cs : List AV} {F : FG} {R : List SG.Rt}
theorem qOq {x:Int} {n:Nat} (hn:1≤n) (hn2:n≤1000000) (hK:∀ r:Nat,r < n→(r:Int)=x % (n:Int)→K (.int .i64 (r:Int)) s):wC Tryz.prog XX 22 [.int .i64 x,.int .i64 (n:Int)] K s:=by
 refine qWt ?_
 have h1:=Int.tmod_lt_of_pos x (show (0:Int) < (n:Int) by omega)
 have h2:-(n:Int) < x.tmod n:=by
  have:=Int.tmod_lt_of_pos (-x) (show (0:Int) < (n:Int) by omega)
  rw [Int.neg_tmod] at this
  omega
 have h3:=Int.emod_nonneg x (show (n:Int)≠0 by omega)
 have h4:=Int.emod_lt_of_pos x (show (0:Int) < (n:Int) by omega)
 have h5:x.tmod n=x % n∨x.tmod n=x % n - n:=by
  have e1:=Int.tmod_add_mul_tdiv x n
  have e2:=Int.emod_add_mul_ediv x n
  have e3:x.tmod n=x - n * x.tdiv n:=by omega
  have e4:x % n=x - n * (x / n):=by omega
  have hd:x / (n:Int)=x.tdiv n∨x / (n:Int)=x.tdiv n - 1:=by
   have q1:(n:Int) * (x.tdiv n) - n < x:=by omega
   have q2:x < (n:Int) * (x.tdiv n)+n:=by omega
   have q3:x.tdiv n - 1≤x / n:=by
    rw [Int.le_ediv_iff_mul_le (by omega)]
    have:(x.tdiv n - 1) * (n:Int)=n * x.tdiv n - n:=by rw [Int.sub_mul,Int.mul_comm];omega
    omega
   have q4:x / n < x.tdiv n+1:=by
    rw [Int.ediv_lt_iff_lt_mul (by omega)]
    have:(x.tdiv n+1) * (n:Int)=n * x.tdiv n+n:=by rw [Int.add_mul,Int.mul_comm];omega
    omega
   omega
  rcases hd with hd | hd
  ·left;rw [e3,e4,hd]
  ·right;rw [e3,e4,hd,Int.mul_sub];omega
 simp only [qU2,qLx (show (n:Int)≠0 by omega),qAM,qAA]
 have fin:∀ z:Int,z=x % (n:Int)→K (.int .i64 z) s:=λz hz=>by
  obtain ⟨r,hr⟩:∃ r:Nat,z=r:=⟨z.toNat,by omega⟩
  rw [hr]
  exact hK r (by omega) (by omega)
 refine qAC (λq=>?_) (λq=>?_)
 ·have q:=of_decide_eq_true q
  simp only [qAL,qAA,qMu]
  rw [qAT (by omega) (by omega)]
  exact fin _ (by omega)
 ·have q:=of_decide_eq_false q
  exact fin _ (by omega)
def lpN (n:Nat):Int:=184483841+(n:Int)
theorem qUQ {n:Nat} (hn:n < 32) (hK:∀ s',Sub s s'→K (.int .u32 (lpN n)) s'):wC Tryz.prog XX 14 [.int .i64 (n:Int)] K s:=by
 refine qXD ?_
 unfold qTw
 refine qK3 ?_
 have c1:decide ((n:Int) < 0)=false:=decide_eq_false (by omega)
 have c2:decide ((32:Int)≤(n:Int))=false:=decide_eq_false (by omega)
 have e:qBg .u32 (.int .i64 (n:Int))=some (.int .u32 (n:Int)):=by
  show some (AV.int .u32 (qAw .u32 (n:Int)))=_
  rw [EL.wu32,Int.emod_eq_of_lt (by omega) (by omega)]
 have a1:qAB .add (.int .u32 184483840) (.int .u32 (n:Int))=some (.int .u32 (184483840+(n:Int))):=by
  rw [qAL,← qCE,EL.wu32,Int.emod_eq_of_lt (by omega) (by omega)]
 have a2:qAB .add (.int .u32 (184483840+(n:Int))) (.int .u32 1)=some (.int .u32 (lpN n)):=by
  rw [qAL,← qCE,EL.wu32,Int.emod_eq_of_lt (by omega) (by omega)]
  unfold lpN
  congr 2
  omega
 simp only [qGG,qAM,qAv,qAA,c1,c2,qAR,qEV,qAd,e,a1,a2]
 exact qAF (a:=.int .u32 (lpN n)) rfl (qAF (a:=.int .i64 0) rfl (hK s (.refl _)))
theorem zADx {i:Nat} (hi:i < 64) (hK:∀ s',Sub s s'→K (.agg (esN i).R) s'):wC Tryz.prog XX 11 [.int .i64 (i:Int)] K s:=by
 refine qY3 (qAJ λb0 s1 hb0 h1 u1=>qYk hi λs3 k3=>?_)
 have k1:=u1.sub hb0
 refine qAF (a:=.agg (esN i).R) rfl (qAF (a:=.int .i64 0) rfl (qAJ λb6 s7 hb6 h7 u7=>qAP h7 rfl rfl rfl λs8 h8 u8=>qAF (qAW h8 rfl) ?_))
 have k8:Sub s3 s8:=qAX (u7.sub hb6) u8 hb6
 refine qAP (k8 _ _ (k3 _ _ h1)) rfl rfl rfl λs10 h10 u10=>qAF (qAW h10 rfl) ?_
 refine hK s10 (qAX (k1.trans (k3.trans k8)) u10 hb0)
def Byt (l:List AV):Prop:=l.length=8∧∀ x∈l,∃ n:Nat,n < 256∧x=SG.u8 n
theorem Byt.one {l:List AV} (h:Byt l):qAY l=true:=qH3 λx hx=>by
 obtain ⟨n,_,rfl⟩:=h.2 x hx
 rfl
theorem Byt.cm {l:List AV} (h:Byt l):∃ c:SG.Cm,c.ok∧l=SG.cmR c:=by
 obtain ⟨h1,h2⟩:=h
 match l,h1 with
 | [x0,x1,x2,x3,x4,x5,x6,x7],_=>
   obtain ⟨n0,a0,rfl⟩:=h2 x0 (by simp)
   obtain ⟨n1,a1,rfl⟩:=h2 x1 (by simp)
   obtain ⟨n2,a2,rfl⟩:=h2 x2 (by simp)
   obtain ⟨n3,a3,rfl⟩:=h2 x3 (by simp)
   obtain ⟨n4,a4,rfl⟩:=h2 x4 (by simp)
   obtain ⟨n5,a5,rfl⟩:=h2 x5 (by simp)
   obtain ⟨n6,a6,rfl⟩:=h2 x6 (by simp)
   obtain ⟨n7,a7,rfl⟩:=h2 x7 (by simp)
   exact ⟨⟨n0,n1,n2,n3,n4,n5,n6,n7⟩,⟨a0,a1,a2,a3,a4,a5,a6,a7⟩,rfl⟩
theorem Byt.set {l:List AV} (h:Byt l) (i:Nat) {n:Nat} (hn:n < 256):Byt (l.set i (SG.u8 n)):=by
 refine ⟨by rw [List.length_set];exact h.1,λx hx=>?_⟩
 rcases List.mem_or_eq_of_mem_set hx with hx | rfl
 ·exact h.2 x hx
 ·exact ⟨n,hn,rfl⟩
theorem Byt.zero:Byt (repl 8 [.int .u8 0]):=by
 refine ⟨rfl,λx hx=>⟨0,by omega,?_⟩⟩
 have:∀ x∈repl 8 [AV.int .u8 0],x=SG.u8 0:=by
  intro x hx
  simp [repl] at hx
  rw [hx]
  rfl
 exact this x hx
theorem zADq {b n:Nat} (h:n < 8):qGo 8 1 (.ptr b 0) (.int .i64 (n:Int))=some (.ptr b n):=by
 have:Nat.blt n 8=true:=by rw [Nat.blt_eq];exact h
 simp [qGo,this]
def psz (k:Nat):Nat:=[1,3,2].getD k 0
def pat (k:Nat):Nat:=[2,3,6,8].getD k 8
theorem zABO {a p:Int} (hG:SG.GlK s) (hv:SlR 2 s v [[.int .i64 1,.int .u64 a],[.int .i64 3,.int .u64 0],[.int .i64 2,.int .u64 p]]) (hK:∀ l s',Byt l→Sub s s'→K (.agg l) s'):wC Tryz.prog XX 68 [.int .i64 7,v] K s:=by
 refine qNl (qAJ λb0 s1 hb0 h1 u1=>qAJ λb2 s3 hb2 h3 u3=>?_)
 have k1:=u1.sub hb0
 have k3:=u3.sub hb2
 have kk:=k1.trans k3
 rw [(hG.sub kk).rd]
 simp only [qAA]
 have h13:=k3 _ _ h1
 have n0:s b0=none:=hb0
 have n2:s b2=none:=by
  cases e:s b2 with
  | none=>rfl
  | some x=>rw [k1 _ _ e] at hb2;cases hb2
 have d02:b0≠b2:=λe=>by rw [← e,h1] at hb2;cases hb2
 have keepS:∀ {t:Hq},qAb (λj=>j=b2) s3 t→Sub s t:=fun {t} kp i e hi=>kp i e (kk i e hi) (qBn n2 hi)
 refine ⟨λys t m=>∃ (i:Nat) (l:List AV),ys=[.int .i64 (i:Int)]∧i≤7∧m=7 - i∧qAb (λj=>j=b2) s3 t∧t b2=some (false,.cells 104 l)∧Byt l,⟨_,0,_,rfl,by omega,rfl,.refl _ _,h3,Byt.zero⟩,?_⟩
 rintro f t m ⟨i,l,hy,hi,rfl,kp,hb,hl⟩
 simp only [List.cons.injEq,and_true] at hy
 rw [hy]
 clear hy
 simp only [qI0,qAM,qAA]
 refine qAC (λhlt=>?_) (λhge=>?_)
 ·have hlt:i < 7:=by have:=of_decide_eq_true hlt;omega
  rw [SG.qSs hlt]
  simp only [qAA]
  refine qAJ λb7 s8 hb7 h8 u8=>qAP h8 rfl rfl rfl λs9 h9 u9=>?_
  have k9:Sub t s9:=qAX (u8.sub hb7) u9 hb7
  have e0:rd1 s9 (.ptr b7 0)=some (.int .i64 ((i+1:Nat):Int)):=by rw [qAO h9];rfl
  simp only [qAG,Nat.zero_add,qAA,e0,qAg,qAc,Bool.false_bne]
  have next:∀ {t2:Hq} {l2:List AV},qAb (λj=>j=b2) s3 t2→t2 b2=some (false,.cells 104 l2)→Byt l2→qEH XX (.int .i64 (i:Int)) (λys t m=>∃ (i:Nat) (l:List AV),ys=[.int .i64 (i:Int)]∧i≤7∧m=7 - i∧qAb (λj=>j=b2) s3 t∧t b2=some (false,.cells 104 l)∧Byt l) (7 - i) K t2:=fun {t2 l2} z1 z2 z3=>by
   simp only [qEH,qAL,qAA]
   rw [qAT (by omega) (by omega)]
   exact ⟨_,by omega,i+1,l2,rfl,by omega,rfl,z1,z2,z3⟩
  have hb9:=k9 _ _ hb
  refine qAC (λq=>?_) (λq=>?_)
  ·have p1:qGp s9 8 1 (.ptr b2 0) none none none=some (.slc b2 0 8 (some 8) 1):=by
    unfold qGp
    simp only [hb9]
    have:Nat.ble (0+8 * 1) l.length=true:=by rw [hl.1];rfl
    rw [this]
    rfl
   have p2:qGp s9 2 1 (.ptr b7 1) none none none=some (.slc b7 1 2 (some 2) 1):=by
    unfold qGp
    simp only [h9]
    rfl
   have p3:rdSl s9 1 (.slc b7 1 2 (some 2) 1)=some [SG.u8 (SG.hdN i).1,SG.u8 (SG.hdN i).2]:=by
    unfold rdSl
    simp only [rdN,h9]
    rfl
   simp only [p1,p2,qAA,qAG]
   refine qAF (a:=2) rfl ⟨rfl,by omega,?_⟩
   rw [p3]
   simp only [qAA]
   have hh:(SG.hdN i).1 < 256∧(SG.hdN i).2 < 256:=by
    have:i=0∨i=1∨i=2∨i=3∨i=4∨i=5∨i=6:=by omega
    rcases this with rfl | rfl | rfl | rfl | rfl | rfl | rfl <;> exact ⟨by decide,by decide⟩
   have hl2:Byt (qA0 l 0 [SG.u8 (SG.hdN i).1,SG.u8 (SG.hdN i).2]):=by
    refine ⟨by unfold qA0;simp [hl.1],λx hx=>?_⟩
    unfold qA0 at hx
    rw [List.take_zero,List.nil_append] at hx
    rcases List.mem_append.1 hx with hx | hx
    ·simp only [List.mem_cons,List.not_mem_nil,or_false] at hx
     rcases hx with rfl | rfl
     ·exact ⟨_,hh.1,rfl⟩
     ·exact ⟨_,hh.2,rfl⟩
    ·exact hl.2 x (List.mem_of_mem_drop hx)
   refine qAF (a:=hset s9 b2 (false,.cells 104 (qA0 l 0 [SG.u8 (SG.hdN i).1,SG.u8 (SG.hdN i).2]))) ?_ (next (λj e hj hn=>?_) qCW hl2)
   ·unfold wrN
    simp only [hb9]
    have:(Nat.ble (0+[SG.u8 (SG.hdN i).1,SG.u8 (SG.hdN i).2].length) l.length&&qAY [SG.u8 (SG.hdN i).1,SG.u8 (SG.hdN i).2])=true:=by rw [hl.1];rfl
    rw [this]
    rfl
   ·have hn':j≠b2:=hn
    rw [qBW hn']
    exact k9 _ _ (kp j e hj hn)
  ·exact next (kp.trans k9.keep) hb9 hl
 ·have hge:i=7:=by have:=of_decide_eq_false hge;omega
  have hvt:=hv.sub (keepS kp)
  have lenv:qAS v=some 3:=hvt.len
  simp only [lenv,qAA]
  refine ⟨λys t2 m=>∃ (k:Nat) (l:List AV),ys=[.int .i64 ((pat k:Nat):Int),.int .i64 (k:Int)]∧k≤3∧m=3 - k∧qAb (λj=>j=b2) s3 t2∧t2 b2=some (false,.cells 104 l)∧Byt l,⟨_,0,_,rfl,by omega,rfl,kp,hb,hl⟩,?_⟩
  rintro f2 t2 m ⟨k,l2,hy,hk,rfl,kp2,hb2',hl2⟩
  simp only [List.cons.injEq,and_true] at hy
  rw [hy.1,hy.2]
  clear hy
  simp only [qI1,qAM,qAA]
  refine qAC (λhlt=>?_) (λhge=>?_)
  rotate_left
  ·rw [qAW hb2' hl2.1]
   simp only [qAA]
   have h0:t2 b0=some (false,.cells 104 (repl 8 [.int .u8 0])):=kp2 _ _ h13 d02
   refine qAP h0 (by rw [hl2.1];rfl) rfl hl2.one λs48 h48 u48=>qAF (qAW h48 hl2.1) ?_
   exact hK l2 s48 hl2 (qAX (keepS kp2) u48 n0)
  have hlt:k < 3:=by have:=of_decide_eq_true hlt;omega
  obtain ⟨x,hx⟩:∃ x:Int,([[.int .i64 1,.int .u64 a],[.int .i64 3,.int .u64 0],[.int .i64 2,.int .u64 p]]:List (List AV))[k]?=some [.int .i64 ((psz k:Nat):Int),.int .u64 x]:=by
   have:k=0∨k=1∨k=2:=by omega
   rcases this with rfl | rfl | rfl
   ·exact ⟨a,rfl⟩
   ·exact ⟨0,rfl⟩
   ·exact ⟨p,rfl⟩
  obtain ⟨pb,po,e1,e2,_⟩:=(hv.sub (keepS kp2)).get hx
  have hz:pat k+psz k=pat (k+1)∧pat (k+1)≤8∧psz k≤3:=by
   have:k=0∨k=1∨k=2:=by omega
   rcases this with rfl | rfl | rfl <;> decide
  rw [e1]
  simp only [qAA,e2]
  refine qAJ λb24 s25 hb24 h25 u25=>qAP h25 rfl rfl rfl λs26 h26 u26=>?_
  have k26:Sub t2 s26:=qAX (u25.sub hb24) u26 hb24
  have r0:∀ {t3:Hq},t3 b24=s26 b24→rd1 t3 (.ptr b24 0)=some (.int .i64 ((psz k:Nat):Int)):=fun {t3} e=>by
   rw [qAO (e.trans h26)];rfl
  have r1:∀ {t3:Hq},t3 b24=s26 b24→rd1 t3 (.ptr b24 1)=some (.int .u64 x):=fun {t3} e=>by
   rw [qAO (e.trans h26)];rfl
  simp only [qAG,Nat.zero_add,qAA,r0 rfl]
  have d24:b24≠b2:=λe=>by rw [e,hb2'] at hb24;cases hb24
  refine ⟨λys t3 m=>∃ (i:Nat) (l:List AV),ys=[.int .i64 (i:Int)]∧i≤psz k∧m=psz k - i∧qAb (λj=>j=b2) s26 t3∧t3 b2=some (false,.cells 104 l)∧Byt l,⟨_,0,_,rfl,by omega,rfl,.refl _ _,k26 _ _ hb2',hl2⟩,?_⟩
  rintro f3 t3 m ⟨j,l3,hy,hj,rfl,kp3,hb3,hl3⟩
  simp only [List.cons.injEq,and_true] at hy
  rw [hy]
  clear hy
  have h24:t3 b24=s26 b24:=by rw [h26];exact kp3 _ _ h26 d24
  simp only [qIt,qAM,qAA]
  refine qAC (λhlt3=>?_) (λhge3=>?_)
  ·have hlt3:j < psz k:=by have:=of_decide_eq_true hlt3;omega
   simp only [qAG,Nat.zero_add,qAA,r0 h24,r1 h24,qAL,qAq,qHB]
   rw [show IntKind.i64.wrap (((pat k:Nat):Int)+(j:Int))=((pat k:Nat):Int)+(j:Int) from qAT (by omega) (by omega),show IntKind.i64.wrap (((psz k:Nat):Int) - 1)=((psz k:Nat):Int) - 1 from qAT (by omega) (by omega),show IntKind.i64.wrap (((psz k:Nat):Int) - 1 - (j:Int))=((psz k:Nat):Int) - 1 - (j:Int) from qAT (by omega) (by omega),qAT (by omega) (by omega)]
   obtain ⟨z,hz2⟩:∃ z:Int,qBk .shr (.int .u64 x) (.int .i64 (8 * (((psz k:Nat):Int) - 1 - (j:Int))))=some (.int .u64 z):=by
    obtain ⟨q,hq⟩:∃ q:Nat,8 * (((psz k:Nat):Int) - 1 - (j:Int))=(q:Int):=⟨(8 * (((psz k:Nat):Int) - 1 - (j:Int))).toNat,by omega⟩
    rw [hq]
    refine ⟨x.fdiv ((2 ^ (min q (IntKind.bits .u64)):Nat):Int),?_⟩
    show frc (x.fdiv ((2 ^ (min (Int.toNat (q:Int)) (IntKind.bits .u64)):Nat):Int)) (λn=>some (AV.int .u64 n))=_
    rw [qBc];rfl
   rw [hz2]
   simp only [qAA]
   have hbyte:∃ n:Nat,n < 256∧qBg .u8 (.int .u64 z)=some (SG.u8 n):=by
    refine ⟨(z % 256).toNat,by omega,?_⟩
    show some (AV.int .u8 (qAw .u8 z))=_
    rw [EL.wu8]
    show _=some (AV.int .u8 (((z % 256).toNat:Nat):Int))
    congr 2
    omega
   obtain ⟨n,hn,hc⟩:=hbyte
   rw [hc]
   simp only [qAA]
   have hia:qGo 8 1 (.ptr b2 0) (.int .i64 (((pat k:Nat):Int)+(j:Int)))=some (.ptr b2 (pat k+j)):=by
    have e:((pat k:Nat):Int)+(j:Int)=((pat k+j:Nat):Int):=by omega
    rw [e]
    exact zADq (by omega)
   rw [hia]
   simp only [qAA]
   refine qBu hb3 (by rw [hl3.1];omega) rfl λs41 h41 u41=>?_
   rw [qAT (by omega) (by omega)]
   exact ⟨_,by omega,j+1,_,rfl,by omega,rfl,kp3.trans (u41.keep rfl),h41,hl3.set _ hn⟩
  ·have hge3:j=psz k:=by have:=of_decide_eq_false hge3;omega
   simp only [qAG,Nat.zero_add,qAA,r0 h24,qAL]
   rw [qAT (by omega) (by omega),qAT (by omega) (by omega)]
   have q1:((pat k:Nat):Int)+((psz k:Nat):Int)=((pat (k+1):Nat):Int):=by
    have:=hz.1
    omega
   have q2:(k:Int)+1=((k+1:Nat):Int):=by omega
   rw [q1,q2]
   refine ⟨_,by omega,k+1,l3,rfl,by omega,rfl,kp2.trans (k26.keep.trans kp3),hb3,hl3⟩
theorem qTq {alg pref:Nat} (hG:SG.GlK s) (ha:alg < 32) (hp:pref < 65536) (hK:∀ c s',SG.Cm.ok c→Sub s s'→K (.tup [.agg (SG.cmR c),.int .i64 0]) s'):wC Tryz.prog XX 42 [.int .i64 (alg:Int),.int .i64 (pref:Int)] K s:=by
 refine qLA (qAJ λb0 s1 hb0 h1 u1=>?_)
 have k1:=u1.sub hb0
 have c1:decide ((alg:Int) < 0)=false:=decide_eq_false (by omega)
 have c2:decide ((31:Int) < (alg:Int))=false:=decide_eq_false (by omega)
 have c3:decide ((pref:Int) < 0)=false:=decide_eq_false (by omega)
 have c4:decide ((65535:Int) < (pref:Int))=false:=decide_eq_false (by omega)
 simp only [qAM,qAy,qAA,c1,c2,c3,c4,qAR,qEe,qEc,qEi,qAd]
 refine qAF (a:=.int .u64 (qAw .u64 (alg:Int))) rfl (qAF (a:=[.int .i64 1,.int .u64 (qAw .u64 (alg:Int))]) rfl (qAF (a:=[.int .i64 3,.int .u64 0]) rfl (qAF (a:=.int .u64 (qAw .u64 (pref:Int))) rfl (qAF (a:=[.int .i64 2,.int .u64 (qAw .u64 (pref:Int))]) rfl (qAF (a:=[.int .i64 1,.int .u64 (qAw .u64 (alg:Int)),.int .i64 3,.int .u64 0,.int .i64 2,.int .u64 (qAw .u64 (pref:Int))]) rfl ⟨rfl,qAJ λb15 s16 hb15 h16 u16=>?_⟩)))))
 have k16:=u16.sub hb15
 refine zABO (hG.sub (k1.trans k16)) (SlR.mk (λr hr=>by simp only [List.mem_cons,List.not_mem_nil,or_false] at hr;rcases hr with rfl | rfl | rfl <;> rfl) h16 rfl (λc e=>by cases e;simp)) λl s18 hl k18=>?_
 obtain ⟨c,hc,rfl⟩:=hl.cm
 refine qAP (k18 _ _ (k16 _ _ h1)) rfl rfl hl.one λs19 h19 u19=>qAF (qAW h19 rfl) ?_
 exact hK c s19 hc (qAX (k1.trans (k16.trans k18)) u19 hb0)
end Go.AM.FW
set_option maxRecDepth 100000
namespace Go.AM.FW
open Go Go.Proofs Go.AM.TN
variable {K : AV → Hq → Prop} {s s' s0 t : Hq} {v w : AV} {cs : List AV} {F : FG} {R : List SG.Rt}
def rtN (leaf sg:Nat) (cm:List SG.Cm):SG.Rt:={ kd:=4,rd:=leaf,es:=esN sg,tag:=0,mac:=0,ip:=lpN leaf,hip:=true,px:=0,pl:=0,gw:=0,la:=0,lb:=0,og:=0,nx:=lpN leaf,hm:=false,md:=0,hp:=false,pf:=0,ho:=false,orr:=0,tk:=0,tl:=0,tr:=0,tg:=0,pe:=0,st:=false,path:=[],cl:=[],cm:=cm }
theorem zABt {leaf sg pref:Nat} {alg:Int} (hG:SG.GlK s) (h1:leaf < 32) (h2:sg < 64) (h3:pref < 65536) (h4:-1≤alg∧alg < 32) (hK:∀ s' m cm,Sub s s'→SlR 8 s' m (cm.map SG.cmR)→(∀ c∈cm,SG.Cm.ok c)→cm.length≤1→K (.agg ((rtN leaf sg cm).row .nilslc .nilslc m)) s'):wC Tryz.prog XX 16 [.int .i64 (leaf:Int),.int .i64 (sg:Int),.int .i64 alg,.int .i64 (pref:Int)] K s:=by
 refine qVC (qAJ λb0 s1 hb0 q1 u1=>?_)
 have k1:=u1.sub hb0
 have e:qBg .u64 (.int .i64 (leaf:Int))=some (.int .u64 (leaf:Int)):=by
  show some (AV.int .u64 (qAw .u64 (leaf:Int)))=_
  rw [EL.wu64,Int.emod_eq_of_lt (by omega) (by omega)]
 rw [e]
 simp only [qAA]
 refine zADx h2 λs4 k4=>qUQ h1 λs6 k6=>?_
 refine qAF (a:=(rtN leaf sg []).N) rfl (qUQ h1 λs9 k9=>?_)
 refine qAF (a:=(rtN leaf sg []).A .nilslc .nilslc .nilslc) rfl (qAF (a:=(rtN leaf sg []).row .nilslc .nilslc .nilslc) rfl ?_)
 refine qAJ λb12 s13 hb12 q13 u13=>qAP q13 rfl rfl rfl λs14 q14 u14=>?_
 have k14:Sub s9 s14:=qAX (u13.sub hb12) u14 hb12
 have kk:Sub s1 s14:=k4.trans (k6.trans (k9.trans k14))
 have fin:∀ {t:Hq} {m:AV} {cm:List SG.Cm},Sub s t→t b0=s1 b0→t b12=some (false,.cells 51 ((rtN leaf sg cm).row .nilslc .nilslc m))→m.one=true→(∀ s17,Upto b0 t s17→SlR 8 s17 m (cm.map SG.cmR))→(∀ c∈cm,SG.Cm.ok c)→cm.length≤1→qId XX (.ptr b0 0) (.ptr b12 0) K t:=fun {t m cm} z1 z2 z3 z4 z5 z6 z7=>by
  unfold qId
  rw [qAW z3 (SG.Rt.row_len _)]
  simp only [qAA]
  have ho:qAY ((rtN leaf sg cm).row .nilslc .nilslc m)=true:=SG.Rt.row_one _ rfl rfl z4
  refine qAP (z2.trans q1) rfl rfl ho λs17 q17 u17=>qAF (qAW q17 (SG.Rt.row_len _)) ?_
  exact hK s17 m cm (qAX z1 u17 hb0) (z5 s17 u17) z6 z7
 simp only [qAv,qAA]
 refine qAC (λq=>?_) (λq=>?_)
 ·have q:=of_decide_eq_true q
  obtain ⟨a,ha⟩:∃ a:Nat,alg=a:=⟨alg.toNat,by omega⟩
  rw [ha]
  refine qTq (hG.sub (k1.trans kk)) (by omega) h3 λc s20 hc k20=>?_
  refine qAF (a:=.agg (SG.cmR c)) rfl (qAF (a:=.int .i64 0) rfl ?_)
  refine qAJ λb23 s24 hb23 q23 u23=>qAP q23 rfl rfl rfl λs25 q25 u25=>qAF (qAW q25 rfl) ?_
  have k25:Sub s20 s25:=qAX (u23.sub hb23) u25 hb23
  refine qAF (a:=SG.cmR c) (qIT rfl) ⟨rfl,qAJ λb28 s29 hb28 q28 u28=>?_⟩
  have k29:=u28.sub hb28
  have k1429:Sub s14 s29:=k20.trans (k25.trans k29)
  simp only [qAG,Nat.zero_add,qAA]
  have q14':=k1429 _ _ q14
  have n12:s1 b12=none:=by
   cases e:s1 b12 with
   | none=>rfl
   | some x=>rw [k9 _ _ (k6 _ _ (k4 _ _ e))] at hb12;cases hb12
  have ns12:s b12=none:=by
   cases e:s b12 with
   | none=>rfl
   | some x=>rw [k1 _ _ e] at n12;cases n12
  have d0:b0≠b12:=λe=>by rw [← e,q1] at n12;cases n12
  have d28:b28≠b12:=λe=>by rw [e,(k20.trans k25) _ _ q14] at hb28;cases hb28
  have d280:b28≠b0:=λe=>by rw [e,(kk.trans (k20.trans k25)) _ _ q1] at hb28;cases hb28
  refine qBu q14' (by rw [SG.Rt.row_len];decide) rfl λs32 q32 u32=>?_
  refine fin (cm:=[c]) (qAX (k1.trans (kk.trans k1429)) u32 ns12) ?_ q32 rfl (λs17 u17=>?_) (λd hd=>by rw [List.mem_singleton.1 hd];exact hc) (by simp)
  ·rw [u32 _ d0,q1]
   exact k1429 _ _ (kk _ _ q1)
  ·exact qPU (by rw [u17 _ d280,u32 _ d28];exact q28) rfl
 ·exact fin (k1.trans kk) (by rw [q1];exact kk _ _ q1) q14 rfl (λ_ _=>⟨(λr h=>by cases h),.inl ⟨rfl,rfl⟩⟩) (λc h=>by cases h) (by simp)
end Go.AM.FW
set_option maxRecDepth 100000
namespace Go.AM.FW
open Go Go.Proofs Go.AM.TN
variable {K : AV → Hq → Prop} {s s' s0 t : Hq} {v w : AV} {cs : List AV} {F : FG} {R : List SG.Rt}
theorem eq27 (x y:SG.Es):qHr Tryz.prog 27 (.agg x.R) (.agg y.R)=cond (eqI x.x0 y.x0) (cond (eqI x.x1 y.x1) (cond (eqI x.x2 y.x2) (cond (eqI x.x3 y.x3) (cond (eqI x.x4 y.x4) (cond (eqI x.x5 y.x5) (cond (eqI x.x6 y.x6) (cond (eqI x.x7 y.x7) (cond (eqI x.x8 y.x8) (cond (eqI x.x9 y.x9) (some true) (some false)) (some false)) (some false)) (some false)) (some false)) (some false)) (some false)) (some false)) (some false)) (some false):=by kernel_rfl
theorem zAAU (a:Int):eqI a a=true:=by rw [qD1];simp
theorem qZL (i j:Nat):SG.eqE Tryz.prog (esN i) (esN j)=decide (i=j):=by
 have h:=SG.qVp (esN i) (esN j)
 rw [eq27] at h
 have e:eqI (esN i).x9 (esN j).x9=decide (i=j):=by
  rw [qD1]
  show decide ((i:Int)+1=(j:Int)+1)=_
  congr 1
  exact propext ⟨λh=>by omega,λh=>by omega⟩
 have z:∀ a:Int,eqI a a=true:=zAAU
 rw [e,show eqI (esN i).x0 (esN j).x0=true from z 3,show eqI (esN i).x1 (esN j).x1=true from z 0,show eqI (esN i).x2 (esN j).x2=true from z 0,show eqI (esN i).x3 (esN j).x3=true from z 0,show eqI (esN i).x4 (esN j).x4=true from z 0,show eqI (esN i).x5 (esN j).x5=true from z 0,show eqI (esN i).x6 (esN j).x6=true from z 0,show eqI (esN i).x7 (esN j).x7=true from z 0,show eqI (esN i).x8 (esN j).x8=true from z 0] at h
 simp only [cond_true] at h
 cases hd:decide (i=j) with
 | true=>rw [hd] at h;simpa using h.symm
 | false=>rw [hd] at h;simpa using h.symm
def OwQ (s t:Hq) (w:AV) (R:List SG.Rt):Prop:=∃ b0:Hq,Sub s b0∧Sub b0 t∧OwR b0 t w R
theorem OwQ.nil:OwQ s s .nilslc []:=⟨s,.refl _,.refl _,[],⟨(λr h=>by cases h),.inl ⟨rfl,rfl⟩⟩,by simp,λj r h=>by simp at h⟩
theorem OwQ.more (h:OwQ s t w R) (k:Sub t s'):OwQ s s' w R:=by
 obtain ⟨b0,h1,h2,h3⟩:=h
 exact ⟨b0,h1,h2.trans k,h3.sub k⟩
theorem OwQ.rts (h:OwQ s t w R):SG.Rts t w R:=by
 obtain ⟨b0,h1,h2,h3⟩:=h
 exact h3.rts h2
theorem OwQ.off (h:OwQ s t w R) (k:Sub t s'):Sub s (offV w s'):=by
 obtain ⟨b0,h1,h2,rows,h3,_⟩:=h
 exact h1.trans (h3.off (h2.trans k))
theorem OwQ.put {r:SG.Rt} {p q m y:AV} (h:OwQ s t w R) (hr:SG.RtAt (offV w t) r p q m) (hy:SlR 38 t y [r.row p q m]) (hl:R.length≤1000) (hK:∀ v' s',OwQ s s' v' (R ++ [r])→K v' s'):appK 51 38 w y K t:=by
 obtain ⟨b0,h1,h2,rows,h3,h4,h5⟩:=h
 have koff:Sub b0 (offV w t):=h3.off h2
 have acc:AccR 51 38 (offV w t) t w rows:=by
  refine ⟨h3.1,?_⟩
  rcases h3.2 with z | ⟨b,a1,rfl,a3⟩
  ·exact .inl z
  ·exact .inr ⟨b,by unfold offV;simp,rfl,a3⟩
 refine acc.app hy (by simp) (by rw [h4];simp;omega) qHU λv' s' a4 k4=>hK v' s' ⟨offV w t,h1.trans koff,k4,rows ++ [r.row p q m],a4,by simp [h4],λj r' hj=>?_⟩
 by_cases hj':j < rows.length
 ·rw [List.getElem?_append_left (by rw [← h4];exact hj')] at hj
  obtain ⟨p',q',m',z1,z2⟩:=h5 j r' hj
  exact ⟨p',q',m',by rw [List.getElem?_append_left hj'];exact z1,z2.sub koff⟩
 ·rw [List.getElem?_append_right (by omega)] at hj
  have:j=rows.length:=by
   have:=(List.getElem?_eq_some_iff.1 hj).1
   simp only [List.length_singleton] at this
   omega
  subst this
  rw [h4,Nat.sub_self] at hj
  simp only [List.getElem?_cons_zero,Option.some.injEq] at hj
  subst hj
  exact ⟨p,q,m,by rw [List.getElem?_append_right (by omega),Nat.sub_self];rfl,hr⟩
theorem OwQ.own (h:OwQ s t w R) {b o n c e} (hw:w=.slc b o n c e):t b≠none:=by
 obtain ⟨b0,_,_,rows,h3,_⟩:=h
 rcases h3.2 with ⟨z,_⟩ | ⟨b',_,z,a3⟩
 ·rw [hw] at z;cases z
 ·rw [hw] at z;cases z;rw [a3];simp
theorem qPP {i:Nat} (h:∀ o n c e,w≠.slc i o n c e):offV w t i=t i:=by
 unfold offV
 split
 ·rename_i b o n c e
  rw [if_neg (λhb=>by subst hb;exact h _ _ _ _ rfl)]
 ·rfl
theorem qRj {b o n c e}:offV (.slc b o n c e) t b=none:=by unfold offV;simp
theorem zAEZ {s25 s1:Hq} (h:OwQ s0 s w R) (h1:Sub s1 s25) (h2:∀ i,offV w (frz s) i=none→frz s i≠none→s25 i=frz s i∧s1 i=none):Sub (add (offV w s) s1) (offV w (add s s25)):=by
 intro i e hi
 have hfr:∀ {x},s i=some x→frz s i≠none:=fun {x} hx=>by unfold frz;rw [hx];simp
 by_cases hw:∃ o n c z,w=.slc i o n c z
 ·obtain ⟨o,n,c,z,rfl⟩:=hw
  rw [qBv qRj] at hi
  have hne:=h.own rfl
  cases hs:s i with
  | none=>exact absurd hs hne
  | some x=>
    rw [(h2 i qRj (hfr hs)).2] at hi
    cases hi
 ·have hw':∀ o n c z,w≠.slc i o n c z:=λo n c z hq=>hw ⟨o,n,c,z,hq⟩
  rw [qPP hw']
  cases hs:s i with
  | none=>
    rw [qBv (by rw [qPP hw'];exact hs)] at hi
    rw [qBv hs]
    exact h1 _ _ hi
  | some x=>
    rw [qBP (by rw [qPP hw'];exact hs)] at hi
    rw [qBP hs]
    exact hi
theorem qZ8:frz (offV w s)=offV w (frz s):=by
 funext i
 cases w with
 | slc b o n c e=>
   show (match (if i=b then none else s i) with | some (_,x)=>some (true,x) | none=>none)=if i=b then none else frz s i
   by_cases h:i=b
   ·rw [if_pos h,if_pos h]
   ·rw [if_neg h,if_neg h];rfl
 | _=>rfl
theorem qTl:cutH [] t=t:=rfl
theorem qQr {l:List (Hq × Hq)}:cutH ((s,s) :: l) t=cutH l t:=by
 show cutH l (λb=>if s b=none∧s b≠none then none else t b)=_
 congr 1
 funext b
 rw [if_neg]
 rintro ⟨h1,h2⟩
 exact h2 h1
theorem _root_.Go.AM.SG.GlK.frz (h:SG.GlK s):SG.GlK (AM.frz s):=by
 obtain ⟨t,h⟩:=h
 exact ⟨true,by unfold AM.frz;rw [h]⟩
theorem qS2 {b o n k j:Nat} {l:List AV} (h:rdN s n (.ptr b o)=some l) (hj:j+k≤n):rdN s k (.ptr b (o+j))=some ((l.drop j).take k):=by
 unfold rdN at h ⊢
 simp only at h ⊢
 split at h
 ·rename_i t e cs hb
  unfold qJR at h ⊢
  cases hc:Nat.ble (o+n) cs.length with
  | false=>rw [hc] at h;cases h
  | true=>
    rw [hc] at h
    have hle:=Nat.le_of_ble_eq_true hc
    cases h
    rw [Nat.ble_eq_true_of_le (show o+j+k≤cs.length by omega)]
    simp only [cond_true,Option.some.injEq]
    apply List.ext_getElem?
    intro i
    simp only [List.getElem?_take,List.getElem?_drop]
    by_cases hi:i < k
    ·rw [if_pos hi,if_pos hi,if_pos (by omega),Nat.add_assoc]
    ·rw [if_neg hi,if_neg hi]
 ·cases h
abbrev Mb:=Int × Int × Int × Int
def mC (x:Mb):List AV:=[.int .i64 x.1,.int .i64 x.2.1,.int .i64 x.2.2.1,.int .i64 x.2.2.2]
structure RtG (r:SG.Rt):Prop where
 ok:r.ok
 kd:r.kd=4
 nx:∃ n:Nat,n < 8∧r.nx=lpN n
 es:∃ n:Nat,n < 6∧r.es=esN n
def Dst (R:List SG.Rt):Prop:=R.Pairwise λa b=>a.nx≠b.nx∨a.es≠b.es
theorem zAEc {i j:Nat} (h:esN i=esN j):i=j:=by
 have:=congrArg SG.Es.x9 h
 have:(i:Int)+1=(j:Int)+1:=this
 omega
theorem zAG4 {leaf sg:Nat} {cm:List SG.Cm} (h1:leaf < 8) (h2:sg < 6) (h3:∀ c∈cm,SG.Cm.ok c) (h4:cm.length≤1):RtG (rtN leaf sg cm):=
 ⟨⟨h3,by show ([]:List Int).length≤20;simp,by show ([]:List Int).length≤20;simp,by show cm.length≤20;omega⟩,rfl,⟨leaf,h1,rfl⟩,⟨sg,h2,rfl⟩⟩
theorem qXq {l:List Mb} (hG:SG.GlK s) (hv:SlR 4 s v (l.map mC)) (hK:∀ v' s' R,Sub s s'→SG.Rts s' v' R→(∀ r∈R,RtG r)→Dst R→R.length≤60→K v' s'):wC Tryz.prog XX 21 [v] K s:=by
 refine qR8 ?_
 unfold qLl
 have lenv:qAS v=some l.length:=by rw [hv.len,List.length_map]
 rw [lenv]
 simp only [qAA,qAy]
 refine qAC (λq=>?_) (λq=>?_)
 ·exact hK _ s [] (.refl _) ⟨[],⟨(λr h=>by cases h),.inl ⟨rfl,rfl⟩⟩,rfl,λi r h=>by simp at h⟩ (λr h=>by cases h) .nil (by simp)
 have hl60:l.length≤60:=by have:=of_decide_eq_false q;omega
 unfold qHH
 refine ⟨λys t m=>∃ (i:Nat) (w:AV) (R:List SG.Rt),ys=[w,.int .i64 (i:Int)]∧i≤l.length∧m=l.length - i∧Sub s t∧OwQ s t w R∧(∀ r∈R,RtG r)∧Dst R∧R.length≤i,⟨_,0,_,[],rfl,by omega,rfl,.refl _,.nil,(λr h=>by cases h),.nil,by simp⟩,?_⟩
 rintro f t m ⟨i,w,R,hy,hi,rfl,kt,how,hg,hd,hRl⟩
 simp only [List.cons.injEq,and_true] at hy
 rw [hy.1,hy.2]
 clear hy
 simp only [qM5,lenv,qAM,qAA]
 refine qAC (λhlt=>?_) (λhge=>?_)
 rotate_left
 ·exact hK w t R kt how.rts hg hd (by omega)
 have hlt:i < l.length:=by have:=of_decide_eq_true hlt;omega
 have hx:l[i]?=some l[i]:=List.getElem?_eq_getElem hlt
 generalize l[i]=x at hx
 obtain ⟨pb,po,e1,e2,e3⟩:=(hv.sub kt).get (i:=i) (r:=mC x) (by rw [List.getElem?_map,hx];rfl)
 have f0:rd1 t (.ptr pb po)=some (.int .i64 x.1):=e3 0 (by omega)
 have f1:rd1 t (.ptr pb (po+1))=some (.int .i64 x.2.1):=e3 1 (by omega)
 have f2:rd1 t (.ptr pb (po+2))=some (.int .i64 x.2.2.1):=e3 2 (by omega)
 have f3:rd1 t (.ptr pb (po+3))=some (.int .i64 x.2.2.2):=e3 3 (by omega)
 have j3:∀ alg:Int,-1≤alg∧alg < 32→qHK XX v w (.int .i64 (i:Int)) (.int .i64 alg) (λys t m=>∃ (i:Nat) (w:AV) (R:List SG.Rt),ys=[w,.int .i64 (i:Int)]∧i≤l.length∧m=l.length - i∧Sub s t∧OwQ s t w R∧(∀ r∈R,RtG r)∧Dst R∧R.length≤i) (l.length - i) K t:=λalg ha=>by
  unfold qHK
  simp only [e1,qAG,Nat.zero_add,Nat.add_zero,qAA,f0]
  refine qOq (n:=8) (by omega) (by omega) λleaf hleaf _=>?_
  intro _
  simp only [qOk,qQr,qTl,qAA,f1]
  refine qOq (n:=6) (by omega) (by omega) λsg hsg _=>?_
  intro _
  simp only [qOk,qQr,qTl,qAA,f3]
  refine qOq (n:=65536) (by omega) (by omega) λpref hpref _=>?_
  intro _
  simp only [qOk,qQr,qTl,qAA]
  have koff:Sub s (offV w t):=how.off (.refl _)
  refine wC.part qAx (r:=offV w (frz t)) qHU (zABt (by rw [← qZ8];exact (hG.sub koff).frz) (by omega) (by omega) hpref ha λs1 m cm k1 hm hc hcl s25 k25 hout=>?_)
  intro _
  have T:Sub t (add t s25):=qFS
  refine qAJ λb26 s27 hb26 h27 u27=>?_
  intro hnew
  have n26:add t s25 b26=none:=by
   cases q:add t s25 b26 with
   | none=>rfl
   | some z=>
     cases q2:cutH [(t,add t s25)] (add t s25) b26 with
     | none=>
       have:=hnew b26 (by rw [q];simp) q2
       rw [this] at h27;cases h27
     | some z2=>
       have:frz (cutH [(t,add t s25)] (add t s25)) b26≠none:=by unfold frz;rw [q2];simp
       exact absurd hb26 this
  have h27p:=(qBv (r:=s27) n26).trans h27
  have kT:Sub (add t s25) (add (add t s25) s27):=qFS
  have hrow:qAY ((rtN leaf sg cm).row .nilslc .nilslc m)=true:=SG.Rt.row_one _ rfl rfl hm.one
  refine qAP h27p rfl rfl hrow λs28 h28 u28=>?_
  have k28:Sub (add t s25) s28:=qAX kT u28 n26
  have how28:OwQ s s28 w R:=how.more (T.trans k28)
  have hoff:Sub (add (offV w t) s1) (offV w (add t s25)):=zAEZ how k25 hout
  have hm2:SlR 8 (add (offV w t) s1) m (cm.map SG.cmR):=SG.SlR.addf hm (by rw [qZ8];exact k1)
  have hmo:SlR 8 (offV w s28) m (cm.map SG.cmR):=(hm2.sub hoff).sub (by
   intro i e hi
   by_cases hw:∃ o n c z,w=.slc i o n c z
   ·obtain ⟨o,n,c,z,rfl⟩:=hw
    rw [qRj] at hi;cases hi
   ·have hw':∀ o n c z,w≠.slc i o n c z:=λo n c z hq=>hw ⟨o,n,c,z,hq⟩
    rw [qPP hw'] at hi ⊢
    exact k28 _ _ hi)
  have hg28:RtG (rtN leaf sg cm):=zAG4 hleaf hsg hc hcl
  have e28:rd1 s28 (.ptr b26 23)=some (.int .u32 (lpN leaf)):=by rw [qAO h28];rfl
  have r28:rdN s28 10 (.ptr b26 2)=some (esN sg).R:=by
   simp only [rdN,h28]
   rfl
  have hrts:=how28.rts
  refine ⟨λys t3 m=>∃ (k:Nat) (fb:Bool),ys=[.bool fb,.int .i64 (k:Int)]∧k≤R.length∧m=R.length - k∧t3=s28∧(fb=true↔∀ (j:Nat) y,j < k→R[j]?=some y→y.nx≠lpN leaf∨y.es≠esN sg),⟨_,0,true,rfl,by omega,rfl,rfl,by simp⟩,?_⟩
  rintro f3 t3 m3 ⟨k,fb,hy,hk,rfl,rfl,hfb⟩
  simp only [List.cons.injEq,and_true] at hy
  rw [hy.1,hy.2]
  clear hy
  simp only [qM1,hrts.len,qAM,qAA]
  refine qAC (λhlt3=>?_) (λhge3=>?_)
  ·have hlt3:k < R.length:=by have:=of_decide_eq_true hlt3;omega
   have hyk:R[k]?=some R[k]:=List.getElem?_eq_getElem hlt3
   have hym:R[k]∈R:=List.getElem_mem hlt3
   generalize R[k]=y at hyk hym
   obtain ⟨n2,hn2,hye⟩:=(hg y hym).es
   obtain ⟨yb,yo,p,q,mm,y1,y2,y3,_⟩:=hrts.get hyk
   have g23:rd1 t3 (.ptr yb (yo+21+2))=some (.int .u32 y.nx):=by rw [Nat.add_assoc];exact y3 23 (by omega)
   have g2:rdN t3 10 (.ptr yb (yo+2))=some y.es.R:=qS2 (j:=2) (k:=10) y2 (by omega)
   have nextK:∀ fb2:Bool,(fb2=true↔(fb=true∧(y.nx≠lpN leaf∨y.es≠esN sg)))→(fb2=true↔∀ (j:Nat) y',j < k+1→R[j]?=some y'→y'.nx≠lpN leaf∨y'.es≠esN sg):=λfb2 h=>by
    rw [h,hfb]
    constructor
    ·rintro ⟨a1,a2⟩ j y' hj hy'
     by_cases e:j < k
     ·exact a1 j y' e hy'
     ·have:j=k:=by omega
      subst this
      rw [hyk] at hy';cases hy'
      exact a2
    ·intro a1
     exact ⟨λj y' hj hy'=>a1 j y' (by omega) hy',a1 k y (by omega) hyk⟩
   refine qAC (λhf=>?_) (λhf=>?_)
   ·refine qAF y1 (qAF (a:=.ptr yb (yo+21)) rfl (qAF (a:=.ptr yb (yo+21+2)) rfl (qAF g23 (qAF (a:=.ptr b26 21) rfl (qAF (a:=.ptr b26 23) rfl (qAF e28 ?_))))))
    have j5:∀ (p q:AV) (b2:Bool),qAZ p (.bool true) q=some (.bool b2)→(b2=true↔(y.nx≠lpN leaf∨y.es≠esN sg))→qHY XX (.int .i64 (k:Int)) (.bool fb) p q (λys t' m=>∃ (k:Nat) (fb:Bool),ys=[.bool fb,.int .i64 (k:Int)]∧k≤R.length∧m=R.length - k∧t'=t3∧(fb=true↔∀ (j:Nat) y,j < k→R[j]?=some y→y.nx≠lpN leaf∨y.es≠esN sg)) (R.length - k) (λys t m=>∃ (i:Nat) (w:AV) (R:List SG.Rt),ys=[w,.int .i64 (i:Int)]∧i≤l.length∧m=l.length - i∧Sub s t∧OwQ s t w R∧(∀ r∈R,RtG r)∧Dst R∧R.length≤i) (l.length - i) K t3:=λp q b2 h h2=>by
     unfold qHY
     rw [h]
     simp only [qAA]
     refine qAF (a:=.bool b2) (by rw [hf];rfl) ?_
     simp only [qAL,qAA]
     rw [qAT (by omega) (by omega)]
     exact ⟨_,by omega,k+1,b2,rfl,by omega,rfl,(by trivial),nextK b2 (by rw [h2,hf];simp)⟩
    simp only [qAg,qAc,Bool.true_bne,qAA]
    refine qAC (λhq=>?_) (λhq=>?_)
    ·exact j5 _ _ true (by rw [hq];rfl) (by
      have:y.nx≠lpN leaf:=by simpa using hq
      simp [this])
    ·have hnx:y.nx=lpN leaf:=by simpa using hq
     refine qAF y1 (qAF (a:=.ptr yb yo) rfl (qAF (a:=.ptr yb (yo+2)) rfl (qAF g2 (qAF (a:=.ptr b26 0) rfl (qAF (a:=.ptr b26 2) rfl (qAF r28 ?_))))))
     rw [SG.qVp,hye,qZL]
     simp only [qAc,Bool.true_bne,qAA]
     refine j5 _ _ (!decide (n2=sg)) (by rw [hq];rfl) ?_
     rw [hye]
     have:(esN n2≠esN sg)↔n2≠sg:=⟨λh e=>h (by rw [e]),λh e=>h (zAEc e)⟩
     simp [hnx,this]
   ·refine qAF (a:=.bool false) (by rw [hf];rfl) ?_
    simp only [qAL,qAA]
    rw [qAT (by omega) (by omega)]
    exact ⟨_,by omega,k+1,false,rfl,by omega,rfl,(by trivial),nextK false (by rw [hf];simp)⟩
  ·have hge3:k=R.length:=by have:=of_decide_eq_false hge3;omega
   subst hge3
   have qRx:∀ {t4:Hq} {w4:AV} {R4:List SG.Rt},Sub s t4→OwQ s t4 w4 R4→(∀ r∈R4,RtG r)→Dst R4→R4.length≤i+1→qHT XX w4 (.int .i64 (i:Int)) (λys t m=>∃ (i:Nat) (w:AV) (R:List SG.Rt),ys=[w,.int .i64 (i:Int)]∧i≤l.length∧m=l.length - i∧Sub s t∧OwQ s t w R∧(∀ r∈R,RtG r)∧Dst R∧R.length≤i) (l.length - i) K t4:=fun {t4 w4 R4} z1 z2 z3 z4 z5=>by
    simp only [qHT,qAL,qAA]
    rw [qAT (by omega) (by omega)]
    exact ⟨_,by omega,i+1,w4,R4,rfl,by omega,rfl,z1,z2,z3,z4,z5⟩
   refine qAC (λhf=>?_) (λhf=>?_)
   ·rw [qAW h28 (SG.Rt.row_len _)]
    simp only [qAA]
    refine qAF (a:=(rtN leaf sg cm).row .nilslc .nilslc m) (qIT rfl) ⟨hrow,qAJ λb56 s57 hb56 h57 u57=>?_⟩
    have k57:=u57.sub hb56
    have hoff57:Sub (offV w t3) (offV w s57):=by
     intro i e hi
     by_cases hw:∃ o n c z,w=.slc i o n c z
     ·obtain ⟨o,n,c,z,rfl⟩:=hw
      rw [qRj] at hi;cases hi
     ·have hw':∀ o n c z,w≠.slc i o n c z:=λo n c z hq=>hw ⟨o,n,c,z,hq⟩
      rw [qPP hw'] at hi ⊢
      exact k57 _ _ hi
    have nilS:∀ {h:Hq},Sl h .nilslc (SG.us []):=fun {h}=>.inl ⟨rfl,rfl⟩
    refine (how28.more k57).put (r:=rtN leaf sg cm) (p:=.nilslc) (q:=.nilslc) (m:=m) ⟨nilS,nilS,hmo.sub hoff57⟩ (qPU h57 (SG.Rt.row_len _)) (by omega) λv58 s59 how59=>?_
    refine qRx ?_ how59 (λr hr=>?_) ?_ (by simp;omega)
    ·obtain ⟨z0,z1,z2,_⟩:=how59
     exact z1.trans z2
    ·rcases List.mem_append.1 hr with hr | hr
     ·exact hg r hr
     ·rw [List.mem_singleton.1 hr];exact hg28
    ·refine List.pairwise_append.2 ⟨hd,List.pairwise_singleton _ _,λa ha b hb=>?_⟩
     rw [List.mem_singleton.1 hb]
     obtain ⟨j,hj⟩:=List.getElem?_of_mem ha
     exact hfb.1 hf j a (List.getElem?_eq_some_iff.1 hj).1 hj
   ·exact qRx (kt.trans (T.trans k28)) how28 hg hd (by omega)
 refine qAF e1 ?_
 simp only [qAG,qAA,f2]
 refine qOq (n:=5) (by omega) (by omega) λa ha _=>?_
 simp only [qAg,qAc,Bool.false_bne,qAA]
 refine qAC (λq=>j3 _ (by omega)) (λq=>j3 _ (by omega))
end Go.AM.FW
set_option maxRecDepth 100000
namespace Go.AM.FW
open Go Go.Proofs Go.AM.TN
variable {K : AV → Hq → Prop} {s s' s0 t : Hq} {v w : AV} {cs : List AV} {F : FG} {R : List SG.Rt} {S : List (List Int × List Int)}
theorem qRV (key:EL.Cand→Int):∀ (l:List EL.Cand) (b:EL.Cand),EL.grt key b l∈b :: l
 | [],b=>by simp [EL.grt]
 | x :: r,b=>by
   rw [EL.qRv]
   split
   ·exact List.mem_cons_of_mem _ (qRV key r x)
   ·rcases List.mem_cons.1 (qRV key r b) with h | h
    ·rw [h];simp
    ·exact List.mem_cons_of_mem _ (List.mem_cons_of_mem _ h)
theorem qV5 (alg bd:Int) (c:EL.Cand) (l:List EL.Cand):EL.pick alg bd c l∈c :: l:=by
 unfold EL.pick
 split
 ·cases h:(c :: l)[(bd % ((c :: l).length:Int)).toNat]? with
  | none=>simp
  | some x=>exact List.mem_of_getElem? h
 ·split
  ·exact qRV _ _ _
  ·exact qRV _ _ _
theorem qZ2:∀ {l:List EL.Cand},SG.Sct l→EL.ascB l=true
 | [],_=>rfl
 | [_],_=>rfl
 | x :: y :: r,h=>by
   show (decide (x.1 < y.1)&&EL.ascB (y :: r))=true
   have h':=List.pairwise_cons.1 h
   rw [qZ2 h'.2,decide_eq_true (h'.1 y (by simp))]
   rfl
theorem zAGV (R:List SG.Rt) (i:Nat):0≤Al R i∧Al R i < 3:=by
 show 0≤SG.fin3 _ _∧SG.fin3 _ _ < 3
 unfold SG.fin3
 split
 ·omega
 ·rename_i h
  have h1:=λq=>h (.inr (.inl q))
  have h2:=λq=>h (.inr (.inr q))
  omega
theorem zADQ {i:Nat} {bd:Int} (h:Cn R i=[]):one R i bd=[]:=by
 unfold one
 rw [h]
 rfl
theorem qWD {i:Nat} {bd:Int} (h:Cn R i≠[]) (hb:0≤bd):∃ ip,ip∈(Cn R i).map (·.1)∧one R i bd=[(i,bd,ip)]:=by
 have srt:SG.Sct (Cn R i):=(SG.qMP _).srt
 have ha:=zAGV R i
 unfold one
 generalize Cn R i=l at h srt ⊢
 cases l with
 | nil=>exact absurd rfl h
 | cons c r=>
   rw [EL.qKI,if_neg (show ¬ (Al R i < 0∨3≤Al R i∨bd < 0) by omega),qZ2 srt,if_pos (rfl:true=true)]
   simp only [if_true]
   exact ⟨_,List.mem_map.2 ⟨_,qV5 (Al R i) bd c r,rfl⟩,rfl⟩
theorem zAGD {i:Nat} {y:Int}:y∈(Cn R i).map (·.1)↔∃ r∈R,SG.abt Tryz.prog (esN i) r=true∧r.nx=y:=by
 show y∈(SG.qNR (SG.cds (SG.qs Tryz.prog (esN i) R))).map (·.1)↔_
 rw [SG.qUy (SG.qMP _)]
 unfold SG.cds SG.qs
 simp only [List.map_map,List.mem_map,List.mem_filter,Function.comp_apply]
 exact ⟨λ⟨r,⟨h1,h2⟩,h3⟩=>⟨r,h1,h2,h3⟩,λ⟨r,h1,h2,h3⟩=>⟨r,⟨h1,h2⟩,h3⟩⟩
theorem zAFz {i:Nat} {bd:Int} {p:Fw} (hp:p∈one R i bd):∃ r∈R,r.nx=p.2.2:=by
 by_cases hb:(EL.elect (Al R i) (Cn R i) bd).2=true
 ·unfold one at hp
  rw [if_pos hb,List.mem_singleton] at hp
  rw [hp]
  generalize hl:Cn R i=l at hb
  cases l with
  | nil=>cases hb
  | cons c r=>
    rw [EL.qKI] at hb ⊢
    split at hb
    ·cases hb
    ·split at hb
     ·rename_i h1 h2
      rw [if_neg h1,if_pos h2]
      have:(EL.pick (Al R i) bd c r).1∈(Cn R i).map (·.1):=by
       rw [hl]
       exact List.mem_map.2 ⟨_,qV5 (Al R i) bd c r,rfl⟩
      obtain ⟨q,h3,_,h5⟩:=zAGD.1 this
      exact ⟨q,h3,h5⟩
     ·cases hb
 ·unfold one at hp
  rw [if_neg hb] at hp
  cases hp
theorem zACP:∀ {n:Nat} {p:Fw},p∈fwL S R n→∃ r∈R,r.nx=p.2.2
 | 0,p,h=>by simp [fwL] at h
 | n+1,p,h=>by
   unfold fwL at h
   rcases List.mem_append.1 h with h | h
   ·exact zACP h
   ·cases e:S[n]? with
    | none=>rw [e] at h;cases h
    | some x=>
      rw [e] at h
      have h:p∈seg R n x:=h
      unfold seg at h
      split at h
      ·cases h
      ·obtain ⟨l,hl,hp⟩:=List.mem_flatten.1 h
       obtain ⟨bd,_,rfl⟩:=List.mem_map.1 hl
       exact zAFz hp
theorem zAEh {n m:Nat} (h:n≤m):∃ r,fwL S R m=fwL S R n ++ r:=by
 induction m with
 | zero=>exact ⟨[],by have:n=0:=by omega
                      subst this;simp⟩
 | succ m ih=>
   by_cases e:n=m+1
   ·exact ⟨[],by rw [e,List.append_nil]⟩
   ·obtain ⟨r,hr⟩:=ih (by omega)
    refine ⟨r ++ (match S[m]? with | some x=>seg R m x | none=>[]),?_⟩
    show fwL S R m ++ _=_
    rw [hr]
    exact List.append_assoc _ _ _
theorem zAB4 {i:Nat} {x:List Int × List Int} (hx:S[i]?=some x):fwL S R (i+1)=fwL S R i ++ seg R i x:=by
 show fwL S R i ++ _=_
 rw [hx]
theorem qXo {i k:Nat} {x:List Int × List Int} {bd:Int} (h2:2≤x.1.length) (hne:Cn R i≠[]) (h0:∀ b∈x.2,0≤b) (hk:x.2[k]?=some bd):(seg R i x).length=x.2.length∧∃ ip,ip∈(Cn R i).map (·.1)∧(seg R i x)[k]?=some (i,bd,ip):=by
 have hs:seg R i x=(x.2.map (one R i)).flatten:=by unfold seg;rw [if_neg (by omega)]
 rw [hs]
 generalize x.2=l at h0 hk
 induction l generalizing k with
 | nil=>simp at hk
 | cons b l ih=>
   obtain ⟨ip,m1,m2⟩:=qWD (R:=R) (i:=i) hne (h0 b List.mem_cons_self)
   have hlen:∀ l:List Int,(∀ b∈l,0≤b)→((l.map (one R i)).flatten).length=l.length:=by
    intro l
    induction l with
    | nil=>intro _;rfl
    | cons b l ih2=>
      intro h
      obtain ⟨ip,_,m⟩:=qWD (R:=R) (i:=i) hne (h b List.mem_cons_self)
      rw [List.map_cons,List.flatten_cons,m,List.length_append,ih2 λb hb=>h b (List.mem_cons_of_mem _ hb)]
      simp only [List.length_cons,List.length_nil]
      omega
   refine ⟨hlen _ h0,?_⟩
   rw [List.map_cons,List.flatten_cons,m2]
   cases k with
   | zero=>
     simp only [List.getElem?_cons_zero,Option.some.injEq] at hk
     subst hk
     exact ⟨ip,m1,rfl⟩
   | succ k=>
     rw [List.getElem?_cons_succ] at hk
     obtain ⟨_,ip2,n1,n2⟩:=ih (λb hb=>h0 b (List.mem_cons_of_mem _ hb)) hk
     refine ⟨ip2,n1,?_⟩
     show ([(i,b,ip)] ++ _)[k+1]?=_
     rw [List.singleton_append,List.getElem?_cons_succ]
     exact n2
theorem qMo {i:Nat} {x:List Int × List Int} (h2:2≤x.1.length) (hne:Cn R i≠[]) (h0:∀ b∈x.2,0≤b):(seg R i x).length=x.2.length:=by
 cases hx:x.2 with
 | nil=>unfold seg;rw [if_neg (by omega),hx];rfl
 | cons b l=>
   have:=(qXo (R:=R) (i:=i) (k:=0) (bd:=b) h2 hne h0 (by rw [hx];rfl)).1
   rw [this,hx]
theorem zABb {i:Nat} {x:List Int × List Int} (h:¬ (2≤x.1.length∧Cn R i≠[])):seg R i x=[]:=by
 unfold seg
 split
 ·rfl
 ·rename_i h2
  have hc:Cn R i=[]:=Classical.byContradiction λq=>h ⟨by omega,q⟩
  have:∀ l:List Int,(l.map (one R i)).flatten=[]:=by
   intro l
   induction l with
   | nil=>rfl
   | cons b l ih=>rw [List.map_cons,List.flatten_cons,zADQ hc,ih];rfl
  exact this _
end Go.AM.FW
set_option maxRecDepth 100000
namespace Go.AM.FW
open Go Go.Proofs Go.AM.TN
variable {K : AV → Hq → Prop} {s s' s0 t : Hq} {v w : AV} {cs : List AV} {F : FG} {R : List SG.Rt} {S : List (List Int × List Int)} {v2 v3 v4 v5 v6 v7 : AV} {x : List Int × List Int}
theorem zADT (h:SgG s v S):SgG (AM.frz s) v S:=by
 obtain ⟨vs,h1,h2,h3⟩:=h
 exact ⟨vs,h1.frz,h2,λi q x a c=>⟨(h3 i q x a c).1.frz,(h3 i q x a c).2.frz⟩⟩
theorem zAFU (h:FL s F v2 v3 v4 v5 v6 v7):FL (AM.frz s) F v2 v3 v4 v5 v6 v7:=⟨h.L.frz,h.T.frz,h.B.frz,zADT h.S,h.H.frz,h.G.frz⟩
theorem qZ3 {l:List Int}:(SG.us l).length=l.length:=by unfold SG.us;simp
theorem qLd (z:Sz F) (hv:Valid F) (hL:FL s F v2 v3 v4 v5 v6 v7) (hK:∀ s',Sub s s'→K (.bool true) s'):wC Tryz.prog XX 64 [.agg (csG F v2 v3 v4 v5 v6 v7)] K s:=by
 refine qT3 ⟨hL.all,qAJ λb0 s1 hb0 q0 u0=>?_⟩
 have q0:s1 b0=some (false,.cells 68 (csG F v2 v3 v4 v5 v6 v7)):=q0
 have k1:=u0.sub hb0
 refine qAF (qAW q0 rfl) (qVc hv z ⟨v2,v3,v4,v5,v6,v7,rfl,hL.sub k1⟩ (λ_ s4 k4=>?_) (λh=>absurd hv h))
 refine qAF (a:=.int .i64 0) rfl (qAF (a:=.str ⟨#[]⟩) rfl (qAF (a:=.int .i64 0) rfl (qAF (a:=.bool true) rfl ?_)))
 exact hK s4 (k1.trans k4)
theorem zAFN {i:Nat} (hx:F.S[i]?=some x) (hL:FL s F v2 v3 v4 v5 v6 v7) (hK:∀ s',Sub s s'→K (.bool (decide (1 < (x.1.length:Int)))) s'):wC Tryz.prog XX 65 [.agg (csG F v2 v3 v4 v5 v6 v7),.int .i64 (i:Int)] K s:=by
 refine qNU ⟨hL.all,qAJ λb0 s1 hb0 q0 u0=>?_⟩
 have q0:s1 b0=some (false,.cells 68 (csG F v2 v3 v4 v5 v6 v7)):=q0
 have k1:=u0.sub hb0
 have lenS:qAS v5=some F.S.length:=hL.S.len
 have hi:=(List.getElem?_eq_some_iff.1 hx).1
 simp only [qAG,Nat.zero_add,qAA,qAO q0,csG5,lenS]
 refine qFn XX_0 ?_
 have hin:inB (i:Int) (F.S.length:Int)=true:=qMB.2 (by omega)
 rw [hin]
 simp only [qAh,qAG,Nat.zero_add,qAA,qAO q0,csG5]
 obtain ⟨pb,po,l1,l2,e1,_,e3,_,g1,_⟩:=(hL.S.sub k1).at hx
 have n1:qAS l1=some x.1.length:=by rw [g1.len,qGN]
 simp only [e1,qAG,Nat.add_zero,Nat.zero_add,qAA,e3,n1,qAy,qF0,qAf]
 exact hK s1 k1
theorem qRZ {i:Nat} (z:Sz F) (hv:Valid F) (hx:F.S[i]?=some x) (hL:FL s F v2 v3 v4 v5 v6 v7) (hK:∀ s',Sub s s'→K (.bool (decide (1 < (x.1.length:Int)))) s'):wC Tryz.prog XX 36 [.agg (csG F v2 v3 v4 v5 v6 v7),.int .i64 (i:Int)] K s:=by
 refine qNx ⟨hL.all,qAJ λb0 s1 hb0 q0 u0=>?_⟩
 have q0:s1 b0=some (false,.cells 68 (csG F v2 v3 v4 v5 v6 v7)):=q0
 have k1:=u0.sub hb0
 refine qAF (qAW q0 rfl) (qLd z hv (hL.sub k1) λs4 k4=>?_)
 simp only [qAh]
 refine qAF (qAW (k4 _ _ q0) rfl) (zAFN hx (hL.sub (k1.trans k4)) λs8 k8=>?_)
 unfold qGE
 simp only [qAf,qAA]
 exact hK s8 (k1.trans (k4.trans k8))
def esZ:SG.Es:=⟨0,0,0,0,0,0,0,0,0,0⟩
theorem zACa {i:Nat} (z:Sz F) (hv:Valid F) (hx:F.S[i]?=some x) (hL:FL s F v2 v3 v4 v5 v6 v7) (hK:∀ s',Sub s s'→K (.agg (if 2≤x.1.length then esN i else esZ).R) s'):wC Tryz.prog XX 35 [.agg (csG F v2 v3 v4 v5 v6 v7),.int .i64 (i:Int)] K s:=by
 refine qZG ⟨hL.all,qAJ λb0 s1 hb0 q0 u0=>qAJ λb2 s3 hb2 q2 u2=>?_⟩
 have q0:s1 b0=some (false,.cells 68 (csG F v2 v3 v4 v5 v6 v7)):=q0
 have k1:=u0.sub hb0
 have k3:=u2.sub hb2
 have hi:=(List.getElem?_eq_some_iff.1 hx).1
 have h64:F.S.length≤64:=(show SegOk F from hv 5 (by omega)).n
 have n2:s b2=none:=by
  cases e:s b2 with
  | none=>rfl
  | some y=>rw [k1 _ _ e] at hb2;cases hb2
 refine qAF (qAW (k3 _ _ q0) rfl) (qLd z hv (hL.sub (k1.trans k3)) λs6 k6=>?_)
 simp only [qAp,Bool.not_true,qAA,qAR]
 refine qAF (qAW (k6 _ _ (k3 _ _ q0)) rfl) (zAFN hx (hL.sub (k1.trans (k3.trans k6))) λs24 k24=>?_)
 have q2':=k24 _ _ (k6 _ _ q2)
 have kk:Sub s s24:=k1.trans (k3.trans (k6.trans k24))
 unfold qOv
 simp only [qAp,qAd,qAA]
 refine qAC (λq=>?_) (λq=>?_)
 ·have q:¬ 2≤x.1.length:=by
   have:decide (1 < (x.1.length:Int))=false:=by simpa using q
   have:=of_decide_eq_false this
   omega
  rw [if_neg q] at hK
  refine qAF (a:=esZ.R) rfl (qAP q2' rfl rfl rfl λs10 q10 u10=>qAF (qAW q10 rfl) ?_)
  exact hK s10 (qAX kk u10 n2)
 ·have q:2≤x.1.length:=by
   have:decide (1 < (x.1.length:Int))=true:=by simpa using q
   have:=of_decide_eq_true this
   omega
  rw [if_pos q] at hK
  refine qYk (by omega) λs13 k13=>?_
  refine qAF (a:=.agg (esN i).R) rfl (qAF (a:=.int .i64 0) rfl (qAJ λb16 s17 hb16 q16 u16=>qAP q16 rfl rfl rfl λs18 q18 u18=>qAF (qAW q18 rfl) ?_))
  have k18:Sub s13 s18:=qAX (u16.sub hb16) u18 hb16
  refine qAP (k18 _ _ (k13 _ _ q2')) rfl rfl rfl λs20 q20 u20=>qAF (qAW q20 rfl) ?_
  exact hK s20 (qAX (kk.trans (k13.trans k18)) u20 n2)
theorem zAEm {l:List Int} {y:Int} (hl:l.length≤1000000) (h:Sl s v (SG.us l)) (hK:K (.bool (decide (y∈l))) s):wC Tryz.prog XX 29 [v,.int .u32 y] K s:=by
 refine qMc ?_
 unfold qHh
 have len:qAS v=some l.length:=by rw [h.len,qZ3]
 refine ⟨λys t m=>∃ i:Nat,ys=[.int .i64 (i:Int)]∧i≤l.length∧m=l.length - i∧t=s∧y ∉ l.take i,⟨_,0,rfl,by omega,rfl,rfl,by simp⟩,?_⟩
 rintro f t m ⟨i,hy,hi,rfl,rfl,hall⟩
 simp only [List.cons.injEq,and_true] at hy
 rw [hy]
 simp only [qHn,len,qAM,qAA]
 refine qAC (λhlt=>?_) (λhge=>?_)
 rotate_left
 ·have hge:i=l.length:=by have:=of_decide_eq_false hge;omega
  subst hge
  rw [List.take_length] at hall
  rw [decide_eq_false hall] at hK
  exact hK
 have hlt:i < l.length:=by have:=of_decide_eq_true hlt;omega
 obtain ⟨pp,g1,g2⟩:=h.get (i:=i) (by rw [qZ3];exact hlt)
 have g2':rd1 t pp=some (.int .u32 l[i]):=by rw [g2];unfold SG.us;simp [hlt]
 simp only [g1,g2',qAA,qAg,qAc,Bool.false_bne]
 refine qAC (λq=>?_) (λq=>?_)
 ·have q:l[i]=y:=by simpa using q
  have:y∈l:=by rw [← q];exact List.getElem_mem hlt
  rw [decide_eq_true this] at hK
  exact hK
 ·simp only [qAL,qAA]
  rw [qAT (by omega) (by omega)]
  refine ⟨_,by omega,i+1,rfl,by omega,rfl,(by trivial),?_⟩
  rw [List.take_add_one,List.getElem?_eq_getElem hlt]
  simp only [Option.toList_some,List.mem_append,List.mem_singleton,not_or]
  exact ⟨hall,λe=>by rw [e] at q;simp at q⟩
end Go.AM.FW
set_option maxRecDepth 100000
namespace Go.AM.FW
open Go Go.Proofs Go.AM.TN
variable {K : AV → Hq → Prop} {s s' s0 t : Hq} {v w lv mv : AV} {cs : List AV} {F : FG} {R : List SG.Rt} {S : List (List Int × List Int)} {v2 v3 v4 v5 v6 v7 : AV} {x : List Int × List Int}
theorem zAAr (h:SG.GlK s) (hK:K (.bool true) s):wC Tryz.prog XX 3 [] K s:=by
 obtain ⟨t,h⟩:=h
 exact qWR rfl (by decide) h hK
theorem zAFy {l:List Int} {ms:List Mb} {leaf:Int} (hG:SG.GlK s) (hl:Sl s lv (l.map (AV.int .i64))) (hb:∀ x∈l,-9223372036854775808≤x∧x≤9223372036854775807) (hm:SlR 4 s mv (ms.map mC)) (hK:∀ s',K (.bool true) s'):wC Tryz.prog XX 8 [lv,mv,.int .i64 leaf] K s:=by
 refine qNn (zAAr hG ?_)
 have len:qAS lv=some l.length:=by rw [hl.len,List.length_map]
 rw [len]
 simp only [qAA,qAy]
 refine qAC (λ_=>hK _) (λq200=>?_)
 have hlen:l.length≤9000000000000000000:=by have:=of_decide_eq_false q200;omega
 refine zAAN hl hlen hb λt3 cs NF k3 ok nfr=>?_
 obtain ⟨v2,v3,v4,v5,v6,v7,rfl,hL⟩:=nfr.fab
 have z:=ok.sz
 have hv:=ok.valid
 generalize NF.toG=F at hL z hv ⊢
 refine qAJ λb4 s5 hb4 h5 u5=>qAP h5 rfl rfl hL.all λs6 h6 u6=>?_
 have k6:Sub t3 s6:=qAX (u5.sub hb4) u6 hb4
 have hG6:=hG.sub (k3.trans k6)
 refine qXq hG6 (hm.sub (k3.trans k6)) λv7' s8 R k8 hR hg hd hRl=>?_
 have h8:=k8 _ _ h6
 refine qAF (qAW h8 rfl) ?_
 have hL8:=hL.sub (k6.trans k8)
 refine qLp hv z ⟨v2,v3,v4,v5,v6,v7,rfl,hL8⟩ hR (hG6.sub k8) (λr hr=>(hg r hr).ok) (by omega) (λh=>absurd hv h) λ_ vA s11 k11 hA=>?_
 have hok5:SegOk F:=hv 5 (by omega)
 have hdm:DomOk F:=hv 4 (by omega)
 have hS64:=hok5.n
 have hb32:∀ x∈F.S,x.2.length≤32:=λx hx=>by
  have row:=hok5.row x hx
  have:=hdm.n
  rcases qX9 row.2.2.2 row.2.1.2 with h | h
  ·omega
  ·exact absurd h row.1.2
 have hAl:=qRl (R:=R) hb32 F.S.length
 have lenA:qAS vA=some (fwL F.S R F.S.length).length:=by rw [hA.len,List.length_map]
 have h11:=k11 _ _ h8
 have hL11:=hL8.sub k11
 have hR11:=hR.sub k11
 have lenS:qAS v5=some F.S.length:=hL.S.len
 refine ⟨λys t m=>∃ i:Nat,ys=[.int .i64 ((fwL F.S R i).length:Int),.int .i64 (i:Int)]∧i≤F.S.length∧m=F.S.length - i∧Sub s11 t,⟨_,0,rfl,by omega,rfl,.refl _⟩,?_⟩
 rintro f t m ⟨i,hy,hi,rfl,kt⟩
 simp only [List.cons.injEq,and_true] at hy
 rw [hy.1,hy.2]
 clear hy
 have ht:=kt _ _ h11
 simp only [qIw,qAG,Nat.zero_add,qAA,qAO ht,csG5,lenS,qAM]
 refine qAC (λhlt=>?_) (λhge=>?_)
 ·have hlt:i < F.S.length:=by have:=of_decide_eq_true hlt;omega
  have hx:F.S[i]?=some F.S[i]:=List.getElem?_eq_getElem hlt
  have hxm:F.S[i]∈F.S:=List.getElem_mem hlt
  generalize F.S[i]=x at hx hxm
  have hx32:=hb32 x hxm
  have row:=hok5.row x hxm
  have hpos:∀ b∈x.2,0≤b:=λb hb=>(row.2.1.2 b hb).1
  have hstep:=zAB4 (R:=R) hx
  obtain ⟨rest,hrest⟩:=zAEh (S:=F.S) (R:=R) (show i+1≤F.S.length by omega)
  refine qAF (qAW ht rfl) (zACa z hv hx (hL11.sub kt) λs54 k54=>?_)
  have hR54:=hR11.sub (kt.trans k54)
  refine SG.zAFc (x:=if 2≤x.1.length then esN i else esZ) hR54 (by omega) λv55 s56 k56 hmem=>?_
  have kt56:Sub s11 s56:=kt.trans (k54.trans k56)
  have exit:∀ {t2:Hq} {n:Nat},Sub s56 t2→n=(fwL F.S R (i+1)).length→oK (qAB .add (.int .i64 (i:Int)) (.int .i64 1)) λv_132=>∃ m',m' < F.S.length - i∧∃ i:Nat,[AV.int .i64 (n:Int),v_132]=[.int .i64 ((fwL F.S R i).length:Int),.int .i64 (i:Int)]∧i≤F.S.length∧m'=F.S.length - i∧Sub s11 t2:=fun {t2 n} k2 hn=>by
   simp only [qAL,qAA]
   rw [qAT (by omega) (by omega)]
   exact ⟨_,by omega,i+1,by rw [hn];rfl,by omega,rfl,kt56.trans k2⟩
  refine ⟨λys t2 m=>∃ k:Nat,ys=[.int .i64 (((fwL F.S R i).length+k:Nat):Int),.int .i64 (k:Int)]∧(2≤x.1.length∧Cn R i≠[]→k≤x.2.length)∧(¬ (2≤x.1.length∧Cn R i≠[])→k=0)∧m=x.2.length - k∧Sub s56 t2,⟨_,0,rfl,λ_=>by omega,λ_=>rfl,rfl,.refl _⟩,?_⟩
  rintro f2 t2 m2 ⟨k,hy,hk1,hk2,rfl,kt2⟩
  simp only [List.cons.injEq,and_true] at hy
  rw [hy.1,hy.2]
  clear hy
  have kall:Sub s11 t2:=kt56.trans kt2
  have ht2:=kall _ _ h11
  have hL2:=hL11.sub kall
  unfold qI2
  refine qAF (qAW ht2 rfl) (qRZ z hv hx hL2 λs59 k59=>?_)
  have bad:¬ (2≤x.1.length∧Cn R i≠[])→∀ {t3:Hq},Sub s56 t3→qC8 XX (.ptr b4 0) vA (.int .i64 (((fwL F.S R i).length+k:Nat):Int)) (.int .i64 (i:Int)) v55 (.int .i64 (k:Int)) (.bool false) .undef (λys t2 m=>∃ k:Nat,ys=[.int .i64 (((fwL F.S R i).length+k:Nat):Int),.int .i64 (k:Int)]∧(2≤x.1.length∧Cn R i≠[]→k≤x.2.length)∧(¬ (2≤x.1.length∧Cn R i≠[])→k=0)∧m=x.2.length - k∧Sub s56 t2) (x.2.length - k) (λys t m=>∃ i:Nat,ys=[.int .i64 ((fwL F.S R i).length:Int),.int .i64 (i:Int)]∧i≤F.S.length∧m=F.S.length - i∧Sub s11 t) (F.S.length - i) K t3:=λh {t3} k3=>by
   unfold qC8
   simp only [qAd,qAA,qAR]
   refine exit k3 ?_
   rw [hk2 h,hstep,zABb h,List.append_nil]
   rfl
  refine qAC (λq=>?_) (λq=>?_)
  rotate_left
  ·have hno:¬ (2≤x.1.length∧Cn R i≠[]):=λh=>by have:=of_decide_eq_false q;omega
   rw [q]
   unfold qDt
   simp only [qAd,qAA,qAR]
   exact bad hno (kt2.trans k59)
  have hmh:2≤x.1.length:=by have:=of_decide_eq_true q;omega
  rw [q]
  rw [if_pos hmh] at hmem
  have lenM:qAS v55=some (Cn R i).length:=by rw [hmem.len,qZ3,List.length_map]
  rw [lenM]
  simp only [qAA,qAy,qDt,qAf]
  refine qAC (λq2=>?_) (λq2=>?_)
  rotate_left
  ·rw [q2]
   refine bad (λh=>h.2 (List.length_eq_zero_iff.1 ?_)) (kt2.trans k59)
   have:=of_decide_eq_false q2
   omega
  have hne:Cn R i≠[]:=λe=>by rw [e] at q2;simp at q2
  have hk:=hk1 ⟨hmh,hne⟩
  have hslen:=qMo (R:=R) hmh hne hpos
  have ht59:=k59 _ _ ht2
  have hL59:=hL2.sub k59
  obtain ⟨sb,so,l1,l2,c1,_,_,c4,_,g2⟩:=hL59.S.at hx
  have n2:qAS l2=some x.2.length:=by rw [g2.len,qGN]
  simp only [qAG,Nat.zero_add,qAA,qAO ht59,csG5,c1,c4,n2,qAM]
  rw [q2]
  unfold qC8
  simp only [qAf,qAA]
  refine qAC (λq3=>?_) (λq3=>?_)
  rotate_left
  ·have:k=x.2.length:=by have:=of_decide_eq_false q3;omega
   refine exit (kt2.trans k59) ?_
   rw [hstep,List.length_append,hslen,this]
  have hklt:k < x.2.length:=by have:=of_decide_eq_true q3;omega
  have hbk:x.2[k]?=some x.2[k]:=List.getElem?_eq_getElem hklt
  generalize x.2[k]=bd at hbk
  obtain ⟨_,ip,hip,hseg⟩:=qXo (R:=R) hmh hne hpos hbk
  have hAt:(fwL F.S R F.S.length)[(fwL F.S R i).length+k]?=some (i,bd,ip):=by
   rw [hrest,hstep,List.append_assoc,List.getElem?_append_right (by omega),Nat.add_sub_cancel_left,List.getElem?_append_left (by omega)]
   exact hseg
  have hAlt:=(List.getElem?_eq_some_iff.1 hAt).1
  obtain ⟨ab,ao,a1,a2,a3⟩:=(hA.sub (kall.trans k59)).get (i:=(fwL F.S R i).length+k) (r:=fwR (i,bd,ip)) (by rw [List.getElem?_map,hAt];rfl)
  have cge:decide (((fwL F.S R F.S.length).length:Int)≤(((fwL F.S R i).length+k:Nat):Int))=false:=decide_eq_false (by omega)
  have r10:rdN s59 10 (.ptr ab ao)=some (esN i).R:=qS2 (j:=0) a2 (by omega)
  simp only [lenA,qAA,qAv,cge,qAR,a1,qAG,Nat.add_zero,r10]
  refine qAF (qAW ht59 rfl) (zACa z hv hx (zAFU hL59) λs92 k92=>?_)
  intro _
  rw [if_pos hmh]
  have kT:Sub s59 (add s59 s92):=qFS
  generalize add s59 s92=T at kT
  have b10:rd1 T (.ptr ab (ao+10))=some (.int .i64 bd):=qLS (a3 10 (by omega)) kT
  have b11:rd1 T (.ptr ab (ao+11))=some (.int .u32 ip):=qLS (a3 11 (by omega)) kT
  rw [SG.qVp,qZL,decide_eq_true (rfl:i=i)]
  obtain ⟨p84,d1,d2⟩:=(g2.sub kT).get (i:=k) (by rw [qGN];exact hklt)
  have d2':rd1 T p84=some (.int .i64 bd):=by
   rw [d2]
   unfold ix
   rw [List.getElem?_map,hbk]
   rfl
  have c4':=qLS c4 kT
  simp only [qAc,Bool.true_bne,Bool.not_true,qAA,qAd,qAR,b10,qAG,Nat.zero_add,qAO (kT _ _ ht59),csG5,c1,c4',d1,d2',qAg,beq_self_eq_true,b11]
  have hmem':Sl T v55 (SG.us ((Cn R i).map (·.1))):=hmem.sub (kt2.trans (k59.trans kT))
  refine zAEm ?_ hmem' ?_
  ·have h1:=SG.qQA (SG.cds (SG.qs Tryz.prog (esN i) R))
   rw [SG.qQn] at h1
   have h2:=SG.qVW (P:=Tryz.prog) (x:=esN i) (R:=R)
   rw [List.length_map]
   exact Nat.le_trans h1 (by omega)
  rw [decide_eq_true hip]
  simp only [qAp,Bool.not_true,qAA,qAd,qAR,qAL]
  rw [qAT (by omega) (by omega),qAT (by omega) (by omega)]
  refine ⟨_,by omega,k+1,?_,λ_=>by omega,λh=>absurd ⟨hmh,hne⟩ h,rfl,kt2.trans (k59.trans kT)⟩
  simp only [List.cons.injEq,AV.int.injEq,true_and,and_true]
  omega
 ·have hge:i=F.S.length:=by have:=of_decide_eq_false hge;omega
  subst hge
  unfold qEI
  refine qOq (n:=8) (by omega) (by omega) λlf hlf _=>qUQ (by omega) λs15 k15=>?_
  have hR15:=hR11.sub (kt.trans k15)
  have h15:=k15 _ _ ht
  have hG15:SG.GlK s15:=hG6.sub (k8.trans (k11.trans (kt.trans k15)))
  have hL15:=hL11.sub (kt.trans k15)
  have lenA15:qAS vA=some (fwL F.S R F.S.length).length:=lenA
  generalize lpN lf=gone at *
  refine ⟨λys t m=>∃ (i:Nat) (w:AV),ys=[w,.int .i64 (i:Int)]∧i≤R.length∧m=R.length - i∧Sub s15 t∧OwR s15 t w ((R.take i).filter λr=>r.nx != gone),⟨_,0,_,rfl,by omega,rfl,.refl _,[],⟨(λr h=>by cases h),.inl ⟨rfl,rfl⟩⟩,by simp,λj r h=>by simp at h⟩,?_⟩
  rintro f t2 m ⟨i,w,hy,hi,rfl,kt2,how⟩
  simp only [List.cons.injEq,and_true] at hy
  rw [hy.1,hy.2]
  clear hy
  simp only [qI8,hR15.len,qAM,qAA]
  refine qAC (λhlt=>?_) (λhge=>?_)
  ·have hlt:i < R.length:=by have:=of_decide_eq_true hlt;omega
   have hr:R[i]?=some R[i]:=List.getElem?_eq_getElem hlt
   generalize R[i]=r at hr
   obtain ⟨b,o,p,pq,mm,e1,e2,e3,e4⟩:=hR15.get hr
   have hstep:=qTb (f:=λr=>r.nx != gone) hr
   have g23:rd1 t2 (.ptr b (o+21+2))=some (.int .u32 r.nx):=by rw [Nat.add_assoc];exact qLS (e3 23 (by omega)) kt2
   refine qAF e1 (qAF (a:=.ptr b (o+21)) rfl (qAF (a:=.ptr b (o+21+2)) rfl (qAF g23 ?_)))
   simp only [qAg,qAc,Bool.true_bne,qAA]
   refine qAC (λq=>?_) (λq=>?_)
   ·refine qAF e1 (qAF (qU0 kt2 e2) (qAF (a:=r.row p pq mm) (qIT rfl) ⟨e4.one,qAJ λb24 s25 hb24 h25 u25=>?_⟩))
    have k25:Sub t2 s25:=u25.sub hb24
    obtain ⟨rows,a1,a2,a3⟩:=how
    refine (a1.sub k25).app (m:=[r.row p pq mm]) (qPU h25 (SG.Rt.row_len r)) (by simp) ?_ (kt2.trans k25) λv26 s27 a4 k27=>?_
    ·have:=List.length_filter_le (λr:SG.Rt=>r.nx != gone) (R.take i)
     rw [List.length_take] at this
     simp only [List.length_cons,List.length_nil]
     omega
    simp only [qEM,qAL,qAA]
    rw [qAT (by omega) (by omega)]
    refine ⟨_,by omega,i+1,_,rfl,by omega,rfl,k27,?_⟩
    rw [hstep,if_pos (show (r.nx != gone)=true from q)]
    refine ⟨rows ++ [r.row p pq mm],a4,by simp [a2],λj r' hj=>?_⟩
    by_cases hj':j < rows.length
    ·rw [List.getElem?_append_left (by rw [← a2];exact hj')] at hj
     obtain ⟨p',q',m',z1,z2⟩:=a3 j r' hj
     exact ⟨p',q',m',by rw [List.getElem?_append_left hj'];exact z1,z2⟩
    ·rw [List.getElem?_append_right (by omega)] at hj
     have:j=rows.length:=by
      have:=(List.getElem?_eq_some_iff.1 hj).1
      simp only [List.length_singleton] at this
      omega
     subst this
     rw [a2,Nat.sub_self] at hj
     simp only [List.getElem?_cons_zero,Option.some.injEq] at hj
     subst hj
     exact ⟨p,pq,mm,by rw [List.getElem?_append_right (by omega),Nat.sub_self];rfl,e4⟩
   ·simp only [qEM,qAL,qAA]
    rw [qAT (by omega) (by omega)]
    refine ⟨_,by omega,i+1,_,rfl,by omega,rfl,kt2,?_⟩
    have q':¬ ((r.nx != gone)=true):=by
     have:(!(r.nx == gone))=false:=q
     rw [show (r.nx != gone)=(!(r.nx == gone)) from rfl,this]
     simp
    rw [hstep,if_neg q',List.append_nil]
    exact how
  ·have hge:i=R.length:=by have:=of_decide_eq_false hge;omega
   subst hge
   rw [List.take_length] at how
   have ownR:=how.rts kt2
   have hml:∀ r∈R.filter (λr=>r.nx != gone),r∈R∧r.nx≠gone:=λr hr=>by
    obtain ⟨q1,q2⟩:=List.mem_filter.1 hr
    exact ⟨q1,by simpa using q2⟩
   unfold qEL
   refine qAF (qAW (kt2 _ _ h15) rfl) (qLp hv z ⟨v2,v3,v4,v5,v6,v7,rfl,hL15.sub kt2⟩ ownR (hG15.sub kt2) (λr hr=>(hg r (hml r hr).1).ok) (by have:=List.length_filter_le (λr:SG.Rt=>r.nx != gone) R;omega) (λh=>absurd hv h) λ_ vB s18 k18 hB=>?_)
   generalize hR':R.filter (λr=>r.nx != gone)=R' at hml hB
   have hBl:=qRl (R:=R') hb32 F.S.length
   have lenB:qAS vB=some (fwL F.S R' F.S.length).length:=by rw [hB.len,List.length_map]
   refine ⟨λys t m=>∃ k:Nat,ys=[.int .i64 (k:Int)]∧k≤(fwL F.S R' F.S.length).length∧m=(fwL F.S R' F.S.length).length - k∧t=s18,⟨_,0,rfl,by omega,rfl,rfl⟩,?_⟩
   rintro f t3 m ⟨k,hy,hk,rfl,rfl⟩
   simp only [List.cons.injEq,and_true] at hy
   rw [hy]
   clear hy
   simp only [qI6,lenB,qAM,qAA]
   refine qAC (λhlt=>?_) (λhge=>?_)
   ·have hlt:k < (fwL F.S R' F.S.length).length:=by have:=of_decide_eq_true hlt;omega
    have hp:(fwL F.S R' F.S.length)[k]?=some (fwL F.S R' F.S.length)[k]:=List.getElem?_eq_getElem hlt
    have hpm:(fwL F.S R' F.S.length)[k]∈fwL F.S R' F.S.length:=List.getElem_mem hlt
    generalize (fwL F.S R' F.S.length)[k]=p at hp hpm
    obtain ⟨r,hr,hrx⟩:=zACP hpm
    obtain ⟨pb,po,e1,_,e3⟩:=hB.get (i:=k) (r:=fwR p) (by rw [List.getElem?_map,hp];rfl)
    have g11:rd1 t3 (.ptr pb (po+11))=some (.int .u32 p.2.2):=e3 11 (by omega)
    have hne:(p.2.2 == gone)=false:=by
     have:=(hml r hr).2
     rw [hrx] at this
     simpa using this
    simp only [e1,qAG,qAA,g11,qAg,qAc,Bool.false_bne,hne,qAR,qAL]
    rw [qAT (by omega) (by omega)]
    exact ⟨_,by omega,k+1,rfl,by omega,rfl,(by trivial)⟩
   ·unfold qER
    simp only [qAh,lenA15,qAA,qAg,qAc,Bool.false_bne,beq_self_eq_true,qGI,qAf]
    exact hK _
end Go.AM.FW
set_option maxRecDepth 100000
namespace Go.AM.FW
open Go Go.Proofs Go.AM.TN
variable {s : Hq} {v : AV}
theorem wf64 {n:Int} (h:(Lit.int .i64 n).wf=true):-9223372036854775808≤n∧n≤9223372036854775807:=by
 unfold Lit.wf at h
 simpa [IntKind.min,IntKind.max,IntKind.bits,IntKind.signed] using h
theorem zAB3 {d:Nat} (h:Arg Tryz.prog s (d+2) 70 v):∃ l:List Int,Sl s v (l.map (AV.int .i64))∧(∀ x∈l,-9223372036854775808≤x∧x≤9223372036854775807)∧l.length≤maxLen:=
 qXw (d:=d+1) Tryz.underlying70 (by kernel_rfl) (AV.int .i64) (λn=>-9223372036854775808≤n∧n≤9223372036854775807) (λxs h=>by obtain ⟨n,e,w⟩:=zAEK Tryz.underlying3 h;exact ⟨n,e,wf64 w⟩) h
theorem zAE2 {xs:List AV} (h:Inp Tryz.prog s 39 116 xs):∃ x:Mb,xs=mC x:=by
 have hl:=zADV (by kernel_rfl:qC1 Tryz.prog 116=some true) h
 rw [show Tryz.prog.cellsOf 116=4 by kernel_rfl] at hl
 obtain ⟨n0,h0,_⟩:=SG.qVZ (j:=0) (k:=.i64) h (by kernel_rfl)
 obtain ⟨n1,h1,_⟩:=SG.qVZ (j:=1) (k:=.i64) h (by kernel_rfl)
 obtain ⟨n2,h2,_⟩:=SG.qVZ (j:=2) (k:=.i64) h (by kernel_rfl)
 obtain ⟨n3,h3,_⟩:=SG.qVZ (j:=3) (k:=.i64) h (by kernel_rfl)
 refine ⟨(n0,n1,n2,n3),SG.zADP hl λj hj=>?_⟩
 match j,hj with
 | 0,_=>exact h0
 | 1,_=>exact h1
 | 2,_=>exact h2
 | 3,_=>exact h3
theorem zAEL (h:Arg Tryz.prog s 40 71 v):∃ l:List Mb,SlR 4 s v (l.map mC):=by
 obtain ⟨l,h1,_⟩:=argR (d:=39) Tryz.underlying71 mC (λ_=>True) (λa=>by rw [show Tryz.prog.cellsOf 116=4 by kernel_rfl];rfl) (λxs h=>by obtain ⟨x,e⟩:=zAE2 h;exact ⟨x,e,trivial⟩) h
 rw [show Tryz.prog.cellsOf 116=4 by kernel_rfl] at h1
 exact ⟨l,h1⟩
end Go.AM.FW
namespace Go.AM
open Go Go.Proofs
theorem One_wp (s:Hq) (xs:List AV) (hg:s 0=some (true,.glob 0 (.agg kindsL))) (h:ArgL Tryz.prog s 40 [70,71,3] xs):wC Tryz.prog XX 8 xs (λv _=>v=.bool true) s:=by
 obtain ⟨a,b,c,rfl,h1,h2,h3⟩:=zAGZ h
 obtain ⟨l,hl,hb,hn⟩:=FW.zAB3 (d:=38) h1
 obtain ⟨m,hm⟩:=FW.zAEL h2
 obtain ⟨leaf,rfl,_⟩:=zAC7 (d:=39) Tryz.underlying3 h3
 exact FW.zAFy ⟨true,hg⟩ hl hb hm λ_=>rfl
end Go.AM
