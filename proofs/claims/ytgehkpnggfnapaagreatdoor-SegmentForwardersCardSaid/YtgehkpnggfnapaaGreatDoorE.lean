/- Part E of a calculus over a small memory that is proved to answer as the program does, and of its use for the functions that the law reaches: see the last part. -/
import Derived.Test.YtgehkpnggfnapaaGreatDoorC
import Derived.Test.YtgehkpnggfnapaaGreatDoorG
set_option linter.unusedVariables false
set_option maxRecDepth 100000
namespace Go.AM.FW
open Go Go.Proofs Go.AM.TN
variable {K : AV → Hq → Prop} {s s' s0 : Hq} {v w : AV} {cs : List AV} {F : FG} {R : List SG.Rt} {S : List (List Int × List Int)}
def esN (i:Nat):SG.Es:=⟨3,0,0,0,0,0,0,0,0,(i:Int)+1⟩
theorem zAFi {i:Nat} (hi:i < 64) (hK:∀ s',Sub s s'→K (.tup [.agg (esN i).R,.int .i64 0]) s'):wC Tryz.prog XX 40 [.int .i64 (i:Int)] K s:=by
 refine qJO (qAL λb s1 hb h1 u1=>?_)
 have c1:decide ((i:Int) < 0)=false:=decide_eq_false (by omega)
 have c2:decide ((64:Int)≤(i:Int))=false:=decide_eq_false (by omega)
 simp only [qAP,qBn,qAA,c1,c2,qAF,qDY,qAI,qAT]
 rw [qAX (by omega) (by omega)]
 have e:qBx .u8 (.int .i64 ((i:Int)+1))=some (.int .u8 ((i:Int)+1)):=by
  show some (AV.int .u8 (qAx .u8 ((i:Int)+1)))=_
  rw [EL.wu8,Int.emod_eq_of_lt (by omega) (by omega)]
 rw [e]
 simp only [qAA]
 refine qAH (a:=(esN i).R) rfl (qAU h1 rfl rfl rfl λs2 h2 u2=>qAH (qAY h2 rfl) ?_)
 exact hK s2 (qAc (u1.sub hb) u2 hb)
noncomputable abbrev Cn (R:List SG.Rt) (i:Nat):List SG.Cd:=SG.qI4 (SG.cds (SG.qs Tryz.prog (esN i) R))
noncomputable abbrev Al (R:List SG.Rt) (i:Nat):Int:=SG.fin3 (SG.pG (SG.qs Tryz.prog (esN i) R)) (SG.pA (SG.qs Tryz.prog (esN i) R))
abbrev Fw:=Nat × Int × Int
noncomputable def one (R:List SG.Rt) (i:Nat) (bd:Int):List Fw:=if (EL.elect (Al R i) (Cn R i) bd).2=true then [(i,bd,(EL.elect (Al R i) (Cn R i) bd).1)] else []
noncomputable def seg (R:List SG.Rt) (i:Nat) (x:List Int × List Int):List Fw:=if x.1.length < 2 then [] else (x.2.map (one R i)).flatten
noncomputable def fwL (S:List (List Int × List Int)) (R:List SG.Rt):Nat→List Fw
 | 0=>[]
 | n+1=>fwL S R n ++ (match S[n]? with
   | some x=>seg R n x
   | none=>[])
def fwR (p:Fw):List AV:=(esN p.1).R ++ [.int .i64 p.2.1,.int .u32 p.2.2]
theorem qTm {l:List Int} {n:Int} (h:l.Pairwise (· < ·)) (h2:∀ x∈l,0≤x∧x < n):(l.length:Int)≤n∨l=[]:=by
 have key:∀ (j:Nat) (hj:j < l.length),(j:Int)≤l[j]:=by
  intro j
  induction j with
  | zero=>exact λhj=>(h2 _ (List.getElem_mem hj)).1
  | succ j ih=>
    intro hj
    have h3:=ih (by omega)
    have h4:=(List.pairwise_iff_getElem.1 h) j (j+1) (by omega) hj (by omega)
    omega
 by_cases e:l=[]
 ·exact .inr e
 ·have hl:0 < l.length:=List.length_pos_iff.2 e
  have h3:=key (l.length - 1) (by omega)
  have h4:=(h2 _ (List.getElem_mem (show l.length - 1 < l.length by omega))).2
  exact .inl (by omega)
theorem zADE {i:Nat} {bd:Int}:(one R i bd).length≤1:=by unfold one;split <;> simp
theorem qQw {i:Nat} (l:List Int):((l.map (one R i)).flatten).length≤l.length:=by
 induction l with
 | nil=>simp
 | cons x l ih=>
   have:=zADE (R:=R) (i:=i) (bd:=x)
   simp only [List.map_cons,List.flatten_cons,lAp,List.length_cons]
   omega
theorem qQq (h:∀ x∈S,x.2.length≤32):∀ n:Nat,(fwL S R n).length≤32 * n
 | 0=>by simp [fwL]
 | n+1=>by
   have ih:=qQq h n
   unfold fwL
   rw [lAp]
   cases e:S[n]? with
   | none=>simp only [List.length_nil];omega
   | some x=>
     have h1:=h x (List.mem_of_getElem? e)
     have:(seg R n x).length≤x.2.length:=by
      unfold seg
      split
      ·simp
      ·exact qQw _
     simp only
     omega
theorem zABq {P:Program} {x:SG.Es}:SG.qs P x (R.filter λr=>r.kd == 4)=SG.qs P x R:=by
 unfold SG.qs
 rw [List.filter_filter]
 congr 1
 refine List.filter_congr λr _=>?_
 unfold SG.abt
 cases r.kd == 4 <;> simp
theorem qZg {p:AV} {k:Nat} {l:List AV} (hs:Sub s s') (e:rdN s k p=some l):rdN s' k p=some l:=by
 unfold rdN at e ⊢
 split at e
 ·rename_i b o
  split at e
  ·rename_i t ty cs h
   rw [hs _ _ h]
   exact e
  ·cases e
 ·cases e
theorem qLQ {zs c:List AV} (h:c.length=zs.length):qBi (repl 1 zs) [(0,zs.length,.agg c)]=some c:=by
 have e0:repl 1 zs=zs:=by simp [repl]
 rw [e0]
 have e2:Nat.beq c.length zs.length=true:=by rw [h];exact Nat.beq_refl _
 have e3:Nat.ble (0+c.length) zs.length=true:=Nat.ble_eq_true_of_le (by omega)
 simp only [qBi,qHp,e2,e3,Bool.and_self,cond_true]
 unfold qBY
 rw [List.take_zero,List.nil_append,List.drop_eq_nil_of_le (by omega),List.append_nil]
theorem qTl {es:Nat} {e:TypeId} {b:Nat} {t:Bool} {r:List AV} (h:s b=some (t,.cells e r)) (hl:r.length=es):SlR es s (.slc b 0 1 (some 1) es) [r]:=
 SlR.mk (λx hx=>by rw [List.mem_singleton.1 hx];exact hl) (by simpa using h) rfl (λc e=>by cases e;simp)
def OwR (s0 s:Hq) (v:AV) (R:List SG.Rt):Prop:=∃ rows:List (List AV),AccR 51 38 s0 s v rows∧rows.length=R.length∧∀ (j:Nat) (r:SG.Rt),R[j]?=some r→∃ p q m,rows[j]?=some (r.row p q m)∧SG.RtAt s0 r p q m
theorem OwR.sub (h:OwR s0 s v R) (k:Sub s s'):OwR s0 s' v R:=by
 obtain ⟨rows,h1,h2,h3⟩:=h
 exact ⟨rows,h1.sub k,h2,h3⟩
theorem OwR.rts (h:OwR s0 s v R) (k:Sub s0 s):SG.Rts s v R:=by
 obtain ⟨rows,h1,h2,h3⟩:=h
 exact ⟨rows,h1.sl,h2,λj r hj=>by obtain ⟨p,q,m,a,b⟩:=h3 j r hj;exact ⟨p,q,m,a,b.sub k⟩⟩
def offV (v:AV) (t:Hq):Hq:=match v with
 | .slc b _ _ _ _=>λi=>if i=b then none else t i
 | _=>t
theorem qLK {t:Hq}:Sub (offV v t) t:=λi x hi=>by
 unfold offV at hi
 split at hi
 ·split at hi
  ·cases hi
  ·exact hi
 ·exact hi
theorem _root_.Go.AM.AccR.base {e:TypeId} {es:Nat} {rows:List (List AV)} {t:Hq} (h:AccR e es s0 s v rows) (k:Sub t s0):AccR e es t s v rows:=by
 obtain ⟨h1,h2⟩:=h
 refine ⟨h1,?_⟩
 rcases h2 with h2 | ⟨b,a1,a2,a3⟩
 ·exact .inl h2
 ·refine .inr ⟨b,?_,a2,a3⟩
  cases q:t b with
  | none=>rfl
  | some x=>rw [k _ _ q] at a1;cases a1
theorem _root_.Go.AM.AccR.off {e:TypeId} {es:Nat} {rows:List (List AV)} {t t2:Hq} (h:AccR e es t s v rows) (k:Sub t t2):Sub t (offV v t2):=λi x hi=>by
 rcases h.2 with ⟨rfl,_⟩ | ⟨b,a1,rfl,_⟩
 ·exact k _ _ hi
 ·unfold offV
  simp only
  rw [if_neg (qCF a1 hi)]
  exact k _ _ hi
theorem _root_.Go.AM.AccR.off1 {e:TypeId} {es:Nat} {rows:List (List AV)} {t t2:Hq} {c:Nat} {x:Bool × Blk} (h:AccR e es t s v rows) (hc:s c=none) (hx:t2 c=some x):offV v t2 c=some x:=by
 rcases h.2 with ⟨rfl,_⟩ | ⟨b,a1,rfl,a3⟩
 ·exact hx
 ·unfold offV
  simp only
  rw [if_neg,hx]
  rintro rfl
  rw [hc] at a3;cases a3
theorem _root_.Go.AM.AccR.after {e:TypeId} {es:Nat} {rows:List (List AV)} {t t2 s1 s2:Hq} (h:AccR e es t s v rows) (hk:Sub s t2) (h1:∀ i,offV v t2 i=none→t2 i≠none→s2 i=t2 i∧s1 i=none):AccR e es s1 s2 v rows:=by
 refine ⟨h.1,?_⟩
 rcases h.2 with h2 | ⟨b,a1,rfl,a3⟩
 ·exact .inl h2
 ·have q:=hk _ _ a3
  obtain ⟨z1,z2⟩:=h1 b (by unfold offV;simp) (by rw [q];simp)
  exact .inr ⟨b,z2,rfl,by rw [z1];exact q⟩
theorem qZI {i:Nat} {r:SG.Rt} {f:SG.Rt→Bool} (h:R[i]?=some r):(R.take (i+1)).filter f=(R.take i).filter f ++ (if f r=true then [r] else []):=by
 rw [List.take_add_one,h,List.filter_append]
 congr 1
 simp only [Option.toList_some,List.filter_cons,List.filter_nil]
theorem qRU (z:Sz F) (hF:FabR s cs F) (hR:SG.Rts s v R) (hG:SG.GlK s) (hok:∀ r∈R,r.ok) (hl:R.length≤100) (h0:¬ Valid F→∀ s',Sub s s'→K .nilslc s') (hK:Valid F→∀ v' s',Sub s s'→SlR 12 s' v' ((fwL F.S R F.S.length).map fwR)→K v' s'):wC Tryz.prog XX 19 [.agg cs,v] K s:=by
 obtain ⟨v2,v3,v4,v5,v6,v7,rfl,hL⟩:=hF
 refine qM1 ⟨hL.all,qAL λb0 s1 hb0 q0 u0=>?_⟩
 have q0:s1 b0=some (false,.cells 68 (csG F v2 v3 v4 v5 v6 v7)):=q0
 have k1:=u0.sub hb0
 refine qAH (qAY q0 rfl) (zAAw z ⟨v2,v3,v4,v5,v6,v7,rfl,hL.sub k1⟩ (λhv s4 k4=>?_) (λhv e p i s4 he k4=>?_))
 rotate_left
 ·refine qAH (a:=.int .i64 e) rfl (qAH (a:=.str p) rfl (qAH (a:=.int .i64 i) rfl ?_))
  have:(!(e == 0))=true:=by simpa using he
  simp only [qAa,qAW,Bool.true_bne,qAA,this,qAK]
  exact h0 hv s4 (k1.trans k4)
 refine qAH (a:=.int .i64 0) rfl (qAH (a:=.str ⟨#[]⟩) rfl (qAH (a:=.int .i64 0) rfl ?_))
 refine qAH (a:=.bool false) rfl ?_
 simp only [qAF]
 have hok5:SegOk F:=hv 5 (by omega)
 have hdm:DomOk F:=hv 4 (by omega)
 have hb32:∀ x∈F.S,x.2.length≤32:=λx hx=>by
  have row:=hok5.row x hx
  have:=hdm.n
  rcases qTm row.2.2.2 row.2.1.2 with h | h
  ·omega
  ·exact absurd h row.1.2
 have k14:Sub s s4:=k1.trans k4
 have hR4:=hR.sub k14
 have q04:=k4 _ _ q0
 simp only [hR4.len,qAA]
 refine ⟨λys t m=>∃ (i:Nat) (w:AV),ys=[w,.int .i64 (i:Int)]∧i≤R.length∧m=R.length - i∧Sub s4 t∧OwR s4 t w ((R.take i).filter λr=>r.kd == 4),⟨_,0,_,rfl,by omega,rfl,.refl _,[],⟨(λr h=>by cases h),.inl ⟨rfl,rfl⟩⟩,by simp,λj r h=>by simp at h⟩,?_⟩
 rintro f t m ⟨i,w,hy,hi,rfl,kt,how⟩
 simp only [cI,and_true] at hy
 rw [hy.1,hy.2]
 clear hy
 simp only [qI6,qAP,qAA]
 refine qAG (λhlt=>?_) (λhge=>?_)
 ·have hlt:i < R.length:=by have:=oT hlt;omega
  have hr:R[i]?=some R[i]:=gE hlt
  generalize R[i]=r at hr
  obtain ⟨b,o,p,pq,mm,e1,e2,_,e4⟩:=hR4.get hr
  simp only [e1,qZg kt e2,qAA]
  refine qAL λb14 s15 hb14 h15 u15=>qAU h15 rfl rfl e4.one λs16 h16 u16=>?_
  have k16:Sub t s16:=qAc (u15.sub hb14) u16 hb14
  have hkd:rd1 s16 (.ptr b14 0)=some (.int .i64 r.kd):=by rw [qAJ h16];rfl
  simp only [qAB,zA,qAA,hkd,qAa,qAW,Bool.false_bne]
  have hstep:=qZI (f:=λr=>r.kd == 4) hr
  refine qAG (λq=>?_) (λq=>?_)
  ·rw [qAY h16 (SG.Rt.row_len r)]
   simp only [qAA]
   refine qAH (a:=r.row p pq mm) (qLQ rfl) ⟨e4.one,qAL λb24 s25 hb24 h25 u25=>?_⟩
   have k25:Sub t s25:=k16.trans (u25.sub hb24)
   obtain ⟨rows,a1,a2,a3⟩:=how
   refine (a1.sub k25).app (m:=[r.row p pq mm]) (qTl h25 (SG.Rt.row_len r)) (by simp) ?_ (kt.trans k25) λv26 s27 a4 k27=>?_
   ·have:=List.length_filter_le (λr:SG.Rt=>r.kd == 4) (R.take i)
    rw [List.length_take] at this
    simp only [List.length_cons,List.length_nil]
    omega
   simp only [qEH,qAT,qAA]
   rw [qAX (by omega) (by omega)]
   refine ⟨_,by omega,i+1,_,rfl,by omega,rfl,k27,?_⟩
   rw [hstep,if_pos q]
   refine ⟨rows ++ [r.row p pq mm],a4,by simp [a2],λj r' hj=>?_⟩
   by_cases hj':j < rows.length
   ·rw [List.getElem?_append_left (by rw [← a2];exact hj')] at hj
    obtain ⟨p',q',m',z1,z2⟩:=a3 j r' hj
    exact ⟨p',q',m',by rw [List.getElem?_append_left hj'];exact z1,z2⟩
   ·rw [List.getElem?_append_right (by omega)] at hj
    have:j=rows.length:=by
     have:=(gS hj).1
     simp only [List.length_singleton] at this
     omega
    subst this
    rw [a2,Nat.sub_self] at hj
    simp only [List.getElem?_cons_zero,Option.some.injEq] at hj
    subst hj
    exact ⟨p,pq,mm,by rw [List.getElem?_append_right (by omega),Nat.sub_self];rfl,e4⟩
  ·simp only [qEH,qAT,qAA]
   rw [qAX (by omega) (by omega)]
   refine ⟨_,by omega,i+1,_,rfl,by omega,rfl,kt.trans k16,?_⟩
   rw [hstep,if_neg (by rw [q];simp),List.append_nil]
   exact how.sub k16
 ·have hge:i=R.length:=by have:=oF hge;omega
  subst hge
  rw [List.take_length] at how
  have ownR:=how.rts kt
  have q0t:=kt _ _ q04
  have hLt:=hL.sub (k14.trans kt)
  have lenS:qAQ v5=some F.S.length:=hL.S.len
  simp only [qAB,zA,qAA,qAJ q0t,csG5,lenS]
  refine ⟨λys t2 m=>∃ (i:Nat) (w2:AV),ys=[w2,.int .i64 (i:Int)]∧i≤F.S.length∧m=F.S.length - i∧Sub t t2∧AccR 56 12 t t2 w2 ((fwL F.S R i).map fwR),⟨_,0,_,rfl,by omega,rfl,.refl _,λr h=>(by cases h),.inl ⟨rfl,rfl⟩⟩,?_⟩
  rintro f2 t2 m ⟨i,w2,hy,hi2,rfl,kt2,acc⟩
  simp only [cI,and_true] at hy
  rw [hy.1,hy.2]
  clear hy
  simp only [qI2,qAP,qAA]
  have hfl:=qQq (R:=R) hb32 i
  have hS64:=hok5.n
  refine qAG (λhlt=>?_) (λhge=>?_)
  rotate_left
  ·have hge:i=F.S.length:=by have:=oF hge;omega
   subst hge
   exact hK hv _ _ (k14.trans (kt.trans kt2)) acc.sl
  have hlt:i < F.S.length:=by have:=oT hlt;omega
  have hx:F.S[i]?=some F.S[i]:=gE hlt
  have hx32:=hb32 _ (List.getElem_mem hlt)
  generalize F.S[i]=x at hx hx32
  obtain ⟨pb,po,l1,l2,e1,e2,_,_,g1,g2⟩:=hLt.S.at hx
  simp only [e1,qZg kt2 e2,qAA]
  refine qAL λb36 s37 hb36 h36 u36=>qAU h36 rfl rfl (by simp [g1.one,g2.one]) λs38 h38 u38=>?_
  have k38:Sub t2 s38:=qAc (u36.sub hb36) u38 hb36
  have a0:rd1 s38 (.ptr b36 0)=some l1:=by rw [qAJ h38];rfl
  have n1:qAQ l1=some x.1.length:=by rw [g1.len,qCG]
  have n2:qAQ l2=some x.2.length:=by rw [g2.len,qCG]
  have enext:fwL F.S R (i+1)=fwL F.S R i ++ seg R i x:=by
   show fwL F.S R i ++ _=_
   rw [hx]
  simp only [qAB,zA,qAA,a0,n1]
  refine qAG (λq=>?_) (λq=>?_)
  ·have q:x.1.length < 2:=by have:=oT q;omega
   simp only [qEA,qAT,qAA]
   rw [qAX (by omega) (by omega)]
   refine ⟨_,by omega,i+1,_,rfl,by omega,rfl,kt2.trans k38,?_⟩
   rw [enext]
   unfold seg
   rw [if_pos q,List.append_nil]
   exact acc.sub k38
  ·have q:¬ x.1.length < 2:=by have:=oF q;omega
   refine zAFi (by omega) λs45 k45=>?_
   refine qAH (a:=.agg (esN i).R) rfl (qAH (a:=.int .i64 0) rfl ?_)
   refine qAL λb48 s49 hb48 h49 u49=>qAU h49 rfl rfl rfl λs50 h50 u50=>?_
   have k50:Sub s45 s50:=qAc (u49.sub hb48) u50 hb48
   refine qAH (qAY h50 rfl) ?_
   have kt50:Sub t s50:=kt2.trans (k38.trans (k45.trans k50))
   have hGt:SG.GlK s50:=hG.sub (k14.trans (kt.trans kt50))
   have accs:=acc.sub (k38.trans (k45.trans k50))
   have koff:Sub t (offV w2 s50):=acc.off kt50
   have n48:t2 b48=none:=by
    cases e:t2 b48 with
    | none=>rfl
    | some y=>rw [k45 _ _ (k38 _ _ e)] at hb48;cases hb48
   have n36:t2 b36=none:=hb36
   have o48:offV w2 s50 b48=_:=acc.off1 n48 h50
   have o36:offV w2 s50 b36=_:=acc.off1 n36 (k50 _ _ (k45 _ _ h38))
   refine wC.part qA3 qLK (SG.zADu (x:=esN i) (ownR.sub koff) (hG.sub (k14.trans (kt.trans koff))) (λr hr=>hok r ((List.mem_filter.1 hr).1)) (by have:=List.length_filter_le (λr:SG.Rt=>r.kd == 4) R;omega) λv52 s51 k51 hc s53 k53 hout=>?_)
   rw [zABq] at hc
   rw [zABq]
   have acc53:=acc.after (k38.trans (k45.trans k50)) hout
   refine qAH (a:=v52) rfl (qAH (a:=.int .i64 (Al R i)) rfl ?_)
   have h38':=k53 _ _ (k51 _ _ o36)
   have a1:rd1 s53 (.ptr b36 1)=some l2:=by rw [qAJ h38'];rfl
   simp only [qAA,a1,n2]
   have hcl:(Cn R i).length≤1000:=by
    have h1:=SG.qML (SG.cds (SG.qs Tryz.prog (esN i) R))
    rw [SG.qOy] at h1
    have h2:=SG.qVK (P:=Tryz.prog) (x:=esN i) (R:=R)
    exact Nat.le_trans h1 (by omega)
   have kb:Sub t s51:=koff.trans k51
   have h51:s51 b48=_:=k51 _ _ o48
   refine ⟨λys t3 m=>∃ (k:Nat) (w3:AV),ys=[w3,.int .i64 (k:Int)]∧k≤x.2.length∧m=x.2.length - k∧Sub s51 t3∧AccR 56 12 s51 t3 w3 ((fwL F.S R i ++ ((x.2.take k).map (one R i)).flatten).map fwR),⟨_,0,_,rfl,by omega,rfl,k53,?_⟩,?_⟩
   ·rw [List.take_zero,List.map_nil,List.flatten_nil,List.append_nil]
    exact acc53
   rintro f3 t3 m ⟨k,w3,hy,hk3,rfl,k3,acc3⟩
   simp only [cI,and_true] at hy
   rw [hy.1,hy.2]
   clear hy
   simp only [qI5,qAP,qAA]
   refine qAG (λhlt3=>?_) (λhge3=>?_)
   rotate_left
   ·have hge3:k=x.2.length:=by have:=oF hge3;omega
    subst hge3
    simp only [qEA,qAT,qAA]
    rw [qAX (by omega) (by omega)]
    refine ⟨_,by omega,i+1,_,rfl,by omega,rfl,kb.trans k3,?_⟩
    rw [enext]
    unfold seg
    rw [if_neg q]
    rw [List.take_length] at acc3
    exact acc3.base kb
   have hlt3:k < x.2.length:=by have:=oT hlt3;omega
   obtain ⟨p61,c1,c2⟩:=(g2.sub (kb.trans k3)).get (i:=k) (by rw [qCG];exact hlt3)
   rw [qH7 hlt3] at c2
   have hbd:x.2[k]?=some x.2[k]:=gE hlt3
   generalize x.2[k]=bd at c2 hbd
   rw [c1]
   simp only [qAA,c2]
   have kn:((x.2.take (k+1)).map (one R i)).flatten=((x.2.take k).map (one R i)).flatten ++ one R i bd:=by
    rw [List.take_add_one,hbd]
    simp
   have hlen3:(fwL F.S R i ++ ((x.2.take k).map (one R i)).flatten).length+1≤16777216:=by
    have:=qQw (R:=R) (i:=i) (x.2.take k)
    rw [List.length_take] at this
    rw [lAp]
    omega
   have koff3:Sub s51 (offV w3 t3):=acc3.off k3
   refine wC.part qA3 qLK (EL.zAAC (l:=Cn R i) (hc.sub koff3) hcl λs63 k63 s64 k64 hout3=>?_)
   have acc4:=acc3.after (.refl _) hout3
   have kb4:Sub s51 s63:=koff3.trans k63
   refine qAH (a:=.int .u32 (EL.elect (Al R i) (Cn R i) bd).1) rfl (qAH (a:=.bool (EL.elect (Al R i) (Cn R i) bd).2) rfl ?_)
   refine qAG (λe=>?_) (λe=>?_)
   ·refine qAH (qAY (k64 _ _ (kb4 _ _ h51)) rfl) (qAH (a:=fwR (i,bd,(EL.elect (Al R i) (Cn R i) bd).1)) rfl (qAH (a:=fwR (i,bd,(EL.elect (Al R i) (Cn R i) bd).1)) (qLQ rfl) ⟨rfl,qAL λb71 s72 hb71 h72 u72=>?_⟩))
    have k72:=u72.sub hb71
    refine (acc4.sub k72).app (m:=[fwR (i,bd,(EL.elect (Al R i) (Cn R i) bd).1)]) (qTl h72 rfl) (by simp) (by rw [List.length_map];exact hlen3) (k64.trans k72) λv73 s74 a4 k74=>?_
    simp only [qED,qAT,qAA]
    rw [qAX (by omega) (by omega)]
    refine ⟨_,by omega,k+1,_,rfl,by omega,rfl,kb4.trans k74,?_⟩
    rw [kn]
    unfold one at a4 ⊢
    rw [if_pos e]
    rw [← List.append_assoc,List.map_append]
    exact a4.base kb4
   ·simp only [qED,qAT,qAA]
    rw [qAX (by omega) (by omega)]
    refine ⟨_,by omega,k+1,_,rfl,by omega,rfl,kb4.trans k64,?_⟩
    rw [kn]
    have:one R i bd=[]:=by
     unfold one
     rw [if_neg (by rw [e];simp)]
    rw [this,List.append_nil]
    exact acc4.base kb4
end Go.AM.FW
set_option maxRecDepth 100000
namespace Go.AM.TN
open Go Go.Proofs
variable {K : AV → Hq → Prop} {s s' s0 : Hq} {lv uv v y w k : AV} {b c : Nat} {cs : List AV} {F : FG} {v2 v3 v4 v5 v6 v7 : AV} {t : Bool}
theorem cutR {s:Hq}:cutH [(s,s)] s=s:=by
 show (λb=>if s b=none∧s b≠none then none else s b)=s
 funext b
 rw [if_neg]
 rintro ⟨h1,h2⟩
 exact h2 h1
theorem qAw {n lo hi:Int} (hK:K (.bool (!outB n lo hi)) s):wC Tryz.prog XX 89 [.int .i64 n,.int .i64 lo,.int .i64 hi] K s:=by
 refine qSj ?_
 have e:(!outB n lo hi)=(decide (lo≤n)&&decide (n≤hi)):=by
  unfold outB
  rw [Bool.eq_iff_iff]
  simp
 rw [e] at hK
 simp only [qS3,qBn,qAA]
 refine qAG (λq=>?_) (λq=>?_)
 ·simp only [qCs,qAA,qG9]
  rw [q] at hK ⊢
  exact hK
 ·simp only [qG9]
  rw [q] at hK ⊢
  exact hK
theorem qRr {ip len:Int} (hK:∀ s',Sub s s'→K (.bool (qF5 len)) s'):wC Tryz.prog XX 182 [.agg (pfC ip len)] K s:=by
 refine qHc ⟨rfl,qAL λb s1 hb h1 u1=>?_⟩
 have h1:s1 b=some (false,.cells 41 (pfC ip len)):=h1
 have e1:(pfC ip len)[1]?=some (.int .i64 len):=rfl
 have k1:=u1.sub hb
 simp only [qAB,zA,qAA,qAJ h1,e1,qBn,qCs]
 have hk:=hK s1 k1
 unfold qF5 at hk
 refine qAG (λe=>?_) (λe=>?_)
 ·rw [e] at hk ⊢;exact hk
 ·rw [e] at hk ⊢;exact hk
def lowU (len:Int):Int:=IntKind.u32.wrap (shlU 1 (32 - len).toNat - 1)
theorem qW5 {x:Int}:qAq .xor (.int .u32 x)=some (.int .u32 (xorU 4294967295 x)):=by
 show arith .xor .u32 4294967295 x=_
 simp only [arith,qBX]
 rfl
theorem mskR {len:Int} (h:0≤len∧len≤32):xorU 4294967295 (lowU len)=mskU len:=by
 obtain ⟨n,rfl⟩:∃ n:Nat,len=n:=⟨len.toNat,by omega⟩
 have:((List.range 33).all λn=>xorU 4294967295 (lowU (n:Int)) == mskU (n:Int))=true:=by kernel_rfl
 have:=List.all_eq_true.1 this n (List.mem_range.2 (by omega))
 exact eq_of_beq this
theorem qQg {len:Int} (h:0≤len∧len≤32) (hK:K (.int .u32 (mskU len)) s):wC Tryz.prog XX 183 [.int .i64 len] K s:=by
 refine qHx ?_
 unfold qFq
 simp only [qAf,qAA]
 rw [qAX (by omega) (by omega),qVC h.2]
 simp only [qAf,qAA]
 rw [show IntKind.u32.wrap (shlU 1 (32 - len).toNat - 1)=lowU len from rfl,qW5,mskR h]
 exact hK
theorem qNX {x y:Int}:andU x y=((BitVec.ofInt 32 x &&& BitVec.ofInt 32 y).toNat:Int):=by
 unfold andU
 rw [EL.wu32,Int.emod_eq_of_lt (by omega) (by have:=(BitVec.ofInt 32 x &&& BitVec.ofInt 32 y).isLt;omega)]
theorem qUx {x y:Int}:xorU x y=((BitVec.ofInt 32 x ^^^ BitVec.ofInt 32 y).toNat:Int):=by
 unfold xorU
 rw [EL.wu32,Int.emod_eq_of_lt (by omega) (by have:=(BitVec.ofInt 32 x ^^^ BitVec.ofInt 32 y).isLt;omega)]
theorem zAEB {x y:Int}:orU x y=((BitVec.ofInt 32 x ||| BitVec.ofInt 32 y).toNat:Int):=by
 unfold orU
 rw [EL.wu32,Int.emod_eq_of_lt (by omega) (by have:=(BitVec.ofInt 32 x ||| BitVec.ofInt 32 y).isLt;omega)]
theorem qUw {x:BitVec 32}:BitVec.ofInt 32 (x.toNat:Int)=x:=by
 rw [BitVec.ofInt_natCast,BitVec.ofNat_toNat,BitVec.setWidth_eq]
theorem zAGC {a b m:Int}:(andU a m == andU b m)=(andU (xorU a b) m == 0):=by
 rw [Bool.eq_iff_iff,beq_iff_eq,beq_iff_eq,qNX,qNX,qNX,qUx,qUw]
 generalize BitVec.ofInt 32 a=A
 generalize BitVec.ofInt 32 b=B
 generalize BitVec.ofInt 32 m=M
 have e:(A ^^^ B) &&& M=(A &&& M) ^^^ (B &&& M):=by
  ext i hi
  simp only [BitVec.getElem_and,BitVec.getElem_xor]
  cases A[i] <;> cases B[i] <;> cases M[i] <;> rfl
 rw [e]
 constructor
 ·intro h
  have h:(A &&& M).toNat=(B &&& M).toNat:=by omega
  rw [BitVec.eq_of_toNat_eq h,BitVec.xor_self]
  rfl
 ·intro h
  have h:((A &&& M) ^^^ (B &&& M))=0#32:=BitVec.eq_of_toNat_eq (by rw [show (0#32).toNat=0 from rfl];omega)
  rw [BitVec.xor_eq_zero_iff.1 h]
theorem qHK {ip len x:Int} (hK:∀ s',Sub s s'→K (.bool (qCL ip len x)) s'):wC Tryz.prog XX 162 [.agg (pfC ip len),.int .u32 x] K s:=by
 refine qF8 ⟨rfl,qAL λb s1 hb h1 u1=>?_⟩
 have h1:s1 b=some (false,.cells 41 (pfC ip len)):=h1
 have k1:=u1.sub hb
 refine qAH (qAY h1 rfl) (qRr λs4 k4=>?_)
 have h4:=k4 _ _ h1
 have e0:(pfC ip len)[0]?=some (.int .u32 ip):=rfl
 have e1:(pfC ip len)[1]?=some (.int .i64 len):=rfl
 have hk:=hK s4 (k1.trans k4)
 unfold qCL at hk
 refine qAG (λe=>?_) (λe=>?_)
 ·simp only [qAB,zA,qAA,qAJ h4,e0,e1]
  refine qQg (qLE.1 e) λ_=>?_
  simp only [qH6,qAA,qO5,cutR,qAJ h4,e1]
  refine qQg (qLE.1 e) λ_=>?_
  rw [e] at hk
  rw [← zAGC] at hk
  simp only [qH6,qAA,qAa,qAW,Bool.false_bne,e,qAO,qO5]
  exact hk
 ·rw [e] at hk ⊢
  exact hk
theorem qYe {ip len:Int} (h1:qF5 len=false→∀ s',Sub s s'→K (.tup [.agg (pfC 0 0),.int .i64 2]) s') (h2:qF5 len=true→∀ s',Sub s s'→K (.tup [.agg (pfC (andU ip (mskU len)) len),.int .i64 0]) s'):wC Tryz.prog XX 181 [.agg (pfC ip len)] K s:=by
 refine qHh ⟨rfl,qAL λb s1 hb q1 u1=>qAL λb2 s3 hb2 q3 u3=>?_⟩
 have q1:s1 b=some (false,.cells 41 (pfC ip len)):=q1
 have k1:=u1.sub hb
 have k3:=u3.sub hb2
 refine qAH (qAY (k3 _ _ q1) rfl) (qRr λs6 k6=>?_)
 have q6:=k6 _ _ (k3 _ _ q1)
 have z6:=k6 _ _ q3
 have e0:(pfC ip len)[0]?=some (.int .u32 ip):=rfl
 have e1:(pfC ip len)[1]?=some (.int .i64 len):=rfl
 have sb2:s b2=none:=qHN k1 hb2
 have k06:Sub s s6:=k1.trans (k3.trans k6)
 simp only [qAb,qAA]
 refine qAG (λe=>?_) (λe=>?_)
 ·have e:qF5 len=false:=by simpa using e
  refine qAH (a:=[.int .u32 0,.int .i64 0]) rfl (qAU z6 rfl rfl rfl λs9 h9 u9=>qAH (qAY h9 rfl) ?_)
  exact h1 e s9 (qAc k06 u9 sb2)
 ·have e:qF5 len=true:=by simpa using e
  simp only [qAB,zA,qAA,qAJ q6,e0,e1]
  refine qQg (qLE.1 e) λ_=>?_
  simp only [qH6,qAA,qO5,cutR,qAJ q6,e1]
  refine qAH (a:=pfC (andU ip (mskU len)) len) rfl (qAU z6 rfl rfl rfl λs9 h9 u9=>qAH (qAY h9 rfl) ?_)
  exact h2 e s9 (qAc k06 u9 sb2)
theorem qSz {ip len:Int} (hK:∀ s',Sub s s'→K (.bool (qEe ip len)) s'):wC Tryz.prog XX 161 [.agg (pfC ip len)] K s:=by
 refine qTi ⟨rfl,qAL λb s1 hb q1 u1=>?_⟩
 have q1:s1 b=some (false,.cells 41 (pfC ip len)):=q1
 have k1:=u1.sub hb
 refine qAH (qAY q1 rfl) (qYe (λe s4 k4=>?_) λe s4 k4=>?_)
 ·refine qAH (a:=.agg (pfC 0 0)) rfl (qAH (a:=.int .i64 2) rfl (qAL λb7 s8 hb7 h8 u8=>qAU h8 rfl rfl rfl λs9 h9 u9=>?_))
  have hk:=hK s9 (k1.trans (k4.trans (qAc (u8.sub hb7) u9 hb7)))
  unfold qEe at hk
  rw [e] at hk
  simp only [qAa,qAW,Bool.false_bne,qAA]
  exact hk
 ·refine qAH (a:=.agg (pfC (andU ip (mskU len)) len)) rfl (qAH (a:=.int .i64 0) rfl (qAL λb7 s8 hb7 h8 u8=>qAU h8 rfl rfl rfl λs9 h9 u9=>?_))
  have k9:Sub s4 s9:=qAc (u8.sub hb7) u9 hb7
  have hk:=hK s9 (k1.trans (k4.trans k9))
  unfold qEe at hk
  rw [e] at hk
  have q9:=k9 _ _ (k4 _ _ q1)
  simp only [qAa,qAW,Bool.false_bne,qAA]
  show qAM (.bool true) _ _
  rw [qAK]
  refine qAH (qAY h9 rfl) (qAH (qAY q9 rfl) ?_)
  rw [eq41']
  simp only [qAW,Bool.false_bne,qAA]
  have:(andU ip (mskU len) == ip&&len == len)=(andU ip (mskU len) == ip):=by simp
  rw [this]
  exact hk
theorem qXD {ip len:Int} (hc:qEe ip len=true) (h:8≤len∧len≤30):IntKind.u32.wrap (ip+lowU len)=qSI ip len:=by
 unfold qEe at hc
 simp only [Bool.and_eq_true,beq_iff_eq] at hc
 obtain ⟨_,hc⟩:=hc
 have hm:=mskR (len:=len) (by omega)
 rw [← hm,qNX,qUx,qUw] at hc
 unfold qSI
 rw [show IntKind.u32.wrap (shlU 1 (32 - len).toNat - 1)=lowU len from rfl,zAEB,← qB2,EL.wu32]
 have hi:∃ A:BitVec 32,ip=(A.toNat:Int):=⟨_,hc.symm⟩
 obtain ⟨A,rfl⟩:=hi
 have hl:∃ B:BitVec 32,lowU len=(B.toNat:Int):=by
  unfold lowU
  rw [← qB2,EL.wu32]
  refine ⟨BitVec.ofNat 32 ((shlU 1 (32 - len).toNat - 1) % 4294967296).toNat,?_⟩
  rw [BitVec.toNat_ofNat]
  omega
 obtain ⟨B,hB⟩:=hl
 rw [hB] at hc ⊢
 rw [qUw,qUw] at hc ⊢
 have h1:A &&& ~~~B=A:=BitVec.eq_of_toNat_eq (by
  have e:BitVec.ofInt 32 4294967295 ^^^ B= ~~~B:=by
   rw [show BitVec.ofInt 32 4294967295=BitVec.allOnes 32 from by decide,BitVec.allOnes_xor]
  rw [e] at hc
  omega)
 have h2:A &&& B=0#32:=by
  rw [← h1,BitVec.and_assoc]
  ext i hi
  simp
 have h3:=BitVec.add_eq_or_of_and_eq_zero A B h2
 rw [← h3,BitVec.toNat_add]
 omega
theorem qVo {ip len:Int} (h:0≤len∧len≤32) (hK:∀ s',Sub s s'→K (.int .u32 (IntKind.u32.wrap (ip+lowU len))) s'):wC Tryz.prog XX 163 [.agg (pfC ip len)] K s:=by
 refine qWe ⟨rfl,qAL λb s1 hb h1 u1=>?_⟩
 have h1:s1 b=some (false,.cells 41 (pfC ip len)):=h1
 have e0:(pfC ip len)[0]?=some (.int .u32 ip):=rfl
 have e1:(pfC ip len)[1]?=some (.int .i64 len):=rfl
 simp only [qAB,zA,qAA,qAJ h1,e0,e1,qAf]
 rw [qAX (by omega) (by omega),qVC h.2]
 simp only [qAf,qAA,qAT]
 exact hK s1 (u1.sub hb)
theorem qTj {ip len ip' len':Int} (hK:∀ s',Sub s s'→K (.bool (qCL ip len ip'||qCL ip' len' ip)) s'):wC Tryz.prog XX 164 [.agg (pfC ip len),.agg (pfC ip' len')] K s:=by
 refine qQI ⟨rfl,qAL λb s1 hb h1 u1=>⟨rfl,qAL λb2 s3 hb2 h3 u3=>?_⟩⟩
 have h1:s1 b=some (false,.cells 41 (pfC ip len)):=h1
 have h3:s3 b2=some (false,.cells 41 (pfC ip' len')):=h3
 have k1:=u1.sub hb
 have k3:=u3.sub hb2
 have e0:(pfC ip len)[0]?=some (.int .u32 ip):=rfl
 have e0':(pfC ip' len')[0]?=some (.int .u32 ip'):=rfl
 refine qAH (qAY (k3 _ _ h1) rfl) ?_
 simp only [qAB,zA,qAA,qAJ h3,e0']
 refine qHK λs8 k8=>?_
 have hk:=λs' (q:Sub s8 s')=>hK s' (k1.trans (k3.trans (k8.trans q)))
 refine qAG (λe=>?_) (λe=>?_)
 ·rw [e] at hk ⊢
  exact hk s8 (.refl _)
 ·rw [e] at hk ⊢
  refine qAH (qAY (k8 _ _ h3) rfl) ?_
  simp only [qAA,qAJ (k8 _ _ (k3 _ _ h1)),e0]
  exact qHK λs14 k14=>hk s14 k14
theorem zAAT {m:Int} (hK:K (.bool (qRp m)) s):wC Tryz.prog XX 167 [.int .u64 m] K s:=by
 refine qFy ?_
 unfold qDq
 have e1:∀ x:Int,(andL x 1 != 0)=(andL x 1 == 1):=λx=>by
  have:andL x 1=((BitVec.ofInt 64 x &&& 1#64).toNat:Int):=by
   unfold andL
   rw [show qAx .u64 ((BitVec.ofInt 64 x &&& BitVec.ofInt 64 1).toNat:Nat)=(((BitVec.ofInt 64 x &&& BitVec.ofInt 64 1).toNat:Nat):Int) % 18446744073709551616 from by rw [qB2];simp [IntKind.wrap,IntKind.signed,IntKind.bits],Int.emod_eq_of_lt (by omega) (by have:=(BitVec.ofInt 64 x &&& BitVec.ofInt 64 1).isLt;omega)]
   rfl
  rw [this,BitVec.toNat_and,show (1#64).toNat=1 from rfl,Nat.and_one_is_mod]
  rcases Nat.mod_two_eq_zero_or_one (BitVec.ofInt 64 x).toNat with h | h <;> rw [h] <;> rfl
 unfold qRp at hK
 rw [e1] at hK
 simp only [qCs,qAA]
 refine qAG (λe=>?_) (λe=>?_)
 ·rw [zAEQ]
  simp only [qAA,qPw,qAa,qAW,Bool.false_bne]
  rw [e] at hK ⊢
  exact hK
 ·rw [e] at hK ⊢
  exact hK
theorem qVy {m:Int} (hK:∀ r,K (.tup [.int .i64 r,.bool (qFF m)]) s):wC Tryz.prog XX 168 [.int .u64 m] K s:=by
 refine qFa ?_
 unfold qDc
 unfold qFF at hK
 simp only [qAP,qAA]
 have j0:∀ (p q:AV) (bd:Bool),qAV p (.bool true) q=some (.bool bd)→(decide (m < 2199023255552)||decide (2199023255584≤m))=bd→qBO XX (.int .u64 m) p q K s:=λp q bd h he=>by
  unfold qBO
  rw [h]
  rw [he] at hK
  simp only [qAA]
  refine qAG (λe=>?_) (λe=>?_)
  ·rw [e] at hK;exact hK 0
  ·rw [e] at hK
   simp only [qAf,qAA]
   exact hK _
 refine qAG (λe=>?_) (λe=>?_)
 ·exact j0 _ _ true (by rw [e];rfl) (by rw [e];rfl)
 ·simp only [qBn,qAA]
  exact j0 _ _ (decide (2199023255584≤m)) (by rw [e];rfl) (by rw [e];rfl)
theorem qY0 {l:List Int} {n:Int} (h:Sl s lv (ix l)) (hl:l.length≤4294967296) (hK:K (.bool (decide (n∈l))) s):wC Tryz.prog XX 166 [lv,.int .i64 n] K s:=by
 refine qYf ?_
 unfold zABv
 refine ⟨λys t m=>∃ i:Nat,ys=[.int .i64 (i:Int)]∧t=s∧i≤l.length∧m=l.length - i∧n ∉ l.take i,⟨_,0,rfl,rfl,by omega,rfl,by simp⟩,?_⟩
 rintro e t m ⟨i,hy,rfl,hi,rfl,hn⟩
 simp only [cI,and_true] at hy
 rw [hy]
 simp only [qTG,h.len,qCG,qAP,qAA]
 refine qAG (λhlt=>?_) (λhge=>?_)
 ·have hlt:i < l.length:=by have:=oT hlt;omega
  obtain ⟨p,e1,e2⟩:=h.get (i:=i) (by rw [qCG];exact hlt)
  rw [qH7 hlt] at e2
  simp only [e1,e2,qAA,qAa,qAW,Bool.false_bne]
  refine qAG (λq=>?_) (λq=>?_)
  ·have q:l[i]=n:=eq_of_beq q
   have:decide (n∈l)=true:=decide_eq_true (q ▸ List.getElem_mem hlt)
   rw [this] at hK
   exact hK
  ·have q:l[i]≠n:=by simpa using q
   simp only [qAT,qAA]
   rw [qAX (by omega) (by omega)]
   refine ⟨_,by omega,i+1,rfl,(by trivial),by omega,rfl,λhm=>?_⟩
   rw [List.take_succ_eq_append_getElem hlt,List.mem_append,List.mem_singleton] at hm
   rcases hm with hm | hm
   ·exact hn hm
   ·exact q hm.symm
 ·have hge:i=l.length:=by have:=oF hge;omega
  subst hge
  rw [List.take_length] at hn
  rw [decide_eq_false hn] at hK
  exact hK
theorem qXc {l:List Int} (h:Sl s lv (ix l)) (hl:l.length≤4294967296) (hK:∀ r,(r=true↔l.Pairwise (· < ·))→K (.bool r) s):wC Tryz.prog XX 165 [lv] K s:=by
 refine qOC ?_
 unfold qMW
 refine ⟨λys t m=>∃ i:Nat,ys=[.int .i64 ((i+1:Nat):Int)]∧t=s∧i≤l.length∧m=l.length - i∧(l.take (i+1)).Pairwise (· < ·),⟨_,0,rfl,rfl,by omega,rfl,by cases l <;> simp⟩,?_⟩
 rintro e t m ⟨i,hy,rfl,hi,rfl,hn⟩
 simp only [cI,and_true] at hy
 rw [hy]
 simp only [qJw,h.len,qCG,qAP,qAA]
 refine qAG (λhlt=>?_) (λhge=>?_)
 ·have hlt:i+1 < l.length:=by have:=oT hlt;omega
  have hlt0:i < l.length:=by omega
  obtain ⟨p,e1,e2⟩:=h.get (i:=i+1) (by rw [qCG];exact hlt)
  rw [qH7 hlt] at e2
  obtain ⟨p',e3,e4⟩:=h.get (i:=i) (by rw [qCG];exact hlt0)
  rw [qH7 hlt0] at e4
  simp only [qAf,qAA]
  rw [qAX (by omega) (by omega),show ((i+1:Nat):Int) - 1=(i:Int) from by omega]
  simp only [e1,e2,e3,e4,qAA,qCs]
  refine qAG (λq=>?_) (λq=>?_)
  ·refine hK false ⟨λh=>(by cases h),λh=>?_⟩
   have:=List.pairwise_iff_getElem.1 h i (i+1) hlt0 hlt (by omega)
   have:=oT q
   omega
  ·have q:=oF q
   simp only [qAT,qAA]
   rw [qAX (by omega) (by omega)]
   refine ⟨_,by omega,i+1,rfl,(by trivial),by omega,rfl,?_⟩
   rw [List.take_succ_eq_append_getElem hlt,List.pairwise_append]
   refine ⟨hn,by simp,λa ha b hb=>?_⟩
   rw [List.mem_singleton] at hb
   subst hb
   rw [List.take_succ_eq_append_getElem hlt0] at hn ha
   rcases List.mem_append.1 ha with ha | ha
   ·have:=(List.pairwise_append.1 hn).2.2 a ha l[i] (by simp)
    omega
   ·rw [List.mem_singleton] at ha
    omega
 ·have hge:l.length≤i+1:=by have:=oF hge;omega
  rw [List.take_of_length_le hge] at hn
  exact hK true ⟨λ_=>hn,λ_=>rfl⟩
end Go.AM.TN
set_option maxRecDepth 100000
namespace Go.AM.TN
open Go Go.Proofs
variable {K : AV → Hq → Prop} {s s' s0 : Hq} {lv uv v y w k : AV} {b c : Nat} {cs : List AV} {F : FG} {v2 v3 v4 v5 v6 v7 : AV} {t : Bool} {P : Prop}
abbrev Rok (s:Hq) (P:Prop) (K:AV→Hq→Prop):Prop:=∀ (e:Int) (s':Hq),Sub s s'→(e=0↔P)→K (.int .i64 e) s'
theorem Rok.bad (h:Rok s P K) {e:Int} (he:e≠0) (k:Sub s s') (hn:¬ P):K (.int .i64 e) s':=h e s' k ⟨λh=>absurd h he,λh=>absurd h hn⟩
theorem Rok.good (h:Rok s P K) (k:Sub s s') (hp:P):K (.int .i64 0) s':=h 0 s' k ⟨λ_=>hp,λ_=>rfl⟩
theorem nit {A B:Type} {f:A→B} {l:List A} {k:Nat} {a:A} {b:B} (h:l[k]?=some a):b∈(l.take (k+1)).map f↔b∈(l.take k).map f∨b=f a:=by
 rw [List.take_add_one,h]
 simp
theorem qTV (hF:FabR s cs F) (hK:Rok s (FabOk F) K):wC Tryz.prog XX 85 [.agg cs] K s:=by
 obtain ⟨v2,v3,v4,v5,v6,v7,rfl,hL⟩:=hF
 refine qQ1 ⟨hL.all,qAL λb s1 hb h1 u1=>?_⟩
 have h1:s1 b=some (false,.cells 68 (csG F v2 v3 v4 v5 v6 v7)):=h1
 have k1:=u1.sub hb
 simp only [qAB,zA,qAA,qAJ h1,csG0]
 refine qAw ?_
 simp only [qAb,qAA,Bool.not_not]
 cases a0:outB F.lf 1 32 with
 | true=>
   simp only [qAK,qEk,qDj,qC5,qCY,qCX,qAO,qAA]
   exact hK.bad (by decide) k1 λg=>by rw [qAk.2 g.lf] at a0;cases a0
 | false=>
 have g0:=qAk.1 a0
 simp only [qAF,qAA,qAJ h1,csG1]
 refine qAw ?_
 simp only [qAb,qAA,Bool.not_not]
 cases a1:outB F.sp 0 32 with
 | true=>
   simp only [qAK,qEk,qDj,qC5,qCY,qCX,qAO,qAI,qAA]
   exact hK.bad (by decide) k1 λg=>by rw [qAk.2 g.sp] at a1;cases a1
 | false=>
 have g1:=qAk.1 a1
 simp only [qEk,qAI,qAF,qAB,zA,qAA,qAJ h1,csG0,csG1,qAT,qAg]
 rw [qAX (by omega) (by omega)]
 cases a2:decide (32 < F.lf+F.sp) with
 | true=>
   simp only [qAK,qDj,qC5,qCY,qCX,qAO,qAI,qAA]
   exact hK.bad (by decide) k1 λg=>by have:=oT a2;have:=g.sum;omega
 | false=>
 have g2:=oF a2
 simp only [qDj,qAI,qAF,qAB,zA,qAA,qAJ h1,csG8]
 refine qAw ?_
 simp only [qAb,qAA,Bool.not_not]
 cases a3:outB F.el 0 2 with
 | true=>
   simp only [qAK,qC5,qCY,qCX,qAO,qAI,qAA]
   exact hK.bad (by decide) k1 λg=>by rw [qAk.2 g.el] at a3;cases a3
 | false=>
 have g3:=qAk.1 a3
 simp only [qC5,qAI,qAF,qAB,zA,qAA,qAJ h1,csG9]
 refine qAw ?_
 simp only [qAb,qAA,Bool.not_not]
 cases a4:outB F.hz 0 1 with
 | true=>
   simp only [qAK,qCY,qCX,qAO,qAI,qAA]
   exact hK.bad (by decide) k1 λg=>by rw [qAk.2 g.hz] at a4;cases a4
 | false=>
 have g4:=qAk.1 a4
 simp only [qCY,qAI,qAF,qAB,zA,qAA,qAJ h1,zAFK]
 refine qAw ?_
 simp only [qAb,qAA,Bool.not_not,qCX,qAI]
 refine qAG (λq=>?_) (λq=>?_)
 ·exact hK.bad (by decide) k1 λg=>by rw [qAk.2 g.ro] at q;cases q
 ·exact hK.good k1 ⟨g0,g1,by omega,g3,g4,qAk.1 q⟩
theorem qW9 (hK:Rok s (TimOk F) K):wC Tryz.prog XX 86 [.agg [.int .i64 F.de,.int .i64 F.ho,.int .i64 F.ag,.int .i64 F.re,.int .i64 F.mo,.int .i64 F.wi]] K s:=by
 refine qSn ⟨rfl,qAL λb s1 hb h1 u1=>?_⟩
 generalize hcs:[AV.int .i64 F.de,.int .i64 F.ho,.int .i64 F.ag,.int .i64 F.re,.int .i64 F.mo,.int .i64 F.wi]=cs at h1
 have h1:s1 b=some (false,.cells 66 cs):=h1
 have c0:cs[0]?=some (.int .i64 F.de):=by rw [← hcs];rfl
 have c1:cs[1]?=some (.int .i64 F.ho):=by rw [← hcs];rfl
 have c2:cs[2]?=some (.int .i64 F.ag):=by rw [← hcs];rfl
 have c3:cs[3]?=some (.int .i64 F.re):=by rw [← hcs];rfl
 have c4:cs[4]?=some (.int .i64 F.mo):=by rw [← hcs];rfl
 have c5:cs[5]?=some (.int .i64 F.wi):=by rw [← hcs];rfl
 have k1:=u1.sub hb
 simp only [qAB,zA,qAA,qAJ h1,c0]
 refine qAw ?_
 simp only [qAb,qAA,Bool.not_not]
 cases a0:outB F.de 1 100 with
 | true=>
   simp only [qAK,qFj,qEa,qDZ,qC1,qCy,qAO,qAA]
   exact hK.bad (by decide) k1 λg=>by rw [qAk.2 g.de] at a0;cases a0
 | false=>
 simp only [qAF,qAA,qAJ h1,c1]
 refine qAw ?_
 simp only [qAb,qAA,Bool.not_not]
 cases a1:outB F.ho 3 1000 with
 | true=>
   simp only [qAK,qFj,qEa,qDZ,qC1,qCy,qAO,qAI,qAA]
   exact hK.bad (by decide) k1 λg=>by rw [qAk.2 g.ho] at a1;cases a1
 | false=>
 simp only [qFj,qAI,qAF,qAB,zA,qAA,qAJ h1,c2]
 refine qAw ?_
 simp only [qAb,qAA,Bool.not_not]
 cases a2:outB F.ag 1 10000 with
 | true=>
   simp only [qAK,qEa,qDZ,qC1,qCy,qAO,qAI,qAA]
   exact hK.bad (by decide) k1 λg=>by rw [qAk.2 g.ag] at a2;cases a2
 | false=>
 simp only [qEa,qAI,qAF,qAB,zA,qAA,qAJ h1,c3]
 refine qAw ?_
 simp only [qAb,qAA,Bool.not_not]
 cases a3:outB F.re 0 1000 with
 | true=>
   simp only [qAK,qDZ,qC1,qCy,qAO,qAI,qAA]
   exact hK.bad (by decide) k1 λg=>by rw [qAk.2 g.re] at a3;cases a3
 | false=>
 simp only [qDZ,qAI,qAF,qAB,zA,qAA,qAJ h1,c4]
 refine qAw ?_
 simp only [qAb,qAA,Bool.not_not]
 cases a4:outB F.mo 1 100 with
 | true=>
   simp only [qAK,qC1,qCy,qAO,qAI,qAA]
   exact hK.bad (by decide) k1 λg=>by rw [qAk.2 g.mo] at a4;cases a4
 | false=>
 simp only [qC1,qAI,qAF,qAB,zA,qAA,qAJ h1,c5]
 refine qAw ?_
 simp only [qAb,qAA,Bool.not_not,qCy,qAI]
 refine qAG (λq=>?_) (λq=>?_)
 ·exact hK.bad (by decide) k1 λg=>by rw [qAk.2 g.wi] at q;cases q
 ·exact hK.good k1 ⟨qAk.1 a0,qAk.1 a1,qAk.1 a2,qAk.1 a3,qAk.1 a4,qAk.1 q⟩
theorem zABM (hf:FabOk F) (hn:F.L.length≤4294967296) (hF:FabR s cs F) {i:Nat} {x:RLk} (hx:F.L[i]?=some x) (hK:Rok s (LkG F x∧(x.1,x.2.1) ∉ (F.L.take i).map λx=>(x.1,x.2.1)) K):wC Tryz.prog XX 119 [.agg cs,.int .i64 (i:Int)] K s:=by
 obtain ⟨v2,v3,v4,v5,v6,v7,rfl,hL⟩:=hF
 refine qWU ⟨hL.all,qAL λb s1 hb h1 u1=>?_⟩
 have h1:s1 b=some (false,.cells 68 (csG F v2 v3 v4 v5 v6 v7)):=h1
 have k1:=u1.sub hb
 have hi:=(gS hx).1
 obtain ⟨pb,po,e1,e2,e3⟩:=(hL.sub k1).L.get (i:=i) (r:=lkC x) (by rw [List.getElem?_map,hx];rfl)
 simp only [qAB,zA,qAA,qAJ h1,csG2,e1,e2]
 refine qAL λb6 s7 hb6 h7 u7=>qAU h7 rfl rfl rfl λs8 h8 u8=>?_
 have k8:Sub s1 s8:=qAc (u7.sub hb6) u8 hb6
 have h18:=k8 _ _ h1
 have L8:=(hL.sub (k1.trans k8)).L
 have kS:=k1.trans k8
 have x0:(lkC x)[0]?=some (.int .i64 x.1):=rfl
 have x1:(lkC x)[1]?=some (.int .i64 x.2.1):=rfl
 have x2:(lkC x)[2]?=some (.int .i64 x.2.2):=rfl
 have hlf:=hf.lf
 have hsp:=hf.sp
 simp only [qAA,qAJ h8,x0,qAJ h18,csG0,qAf]
 rw [qAX (by omega) (by omega)]
 refine qAw ?_
 simp only [qAb,qAA,Bool.not_not]
 cases a0:outB x.1 0 (F.lf - 1) with
 | true=>
   simp only [qAK,qHw,qGZ,qAO,qAA]
   refine hK.bad (by decide) kS λg=>?_
   have:=g.1.1
   rw [qAk.2 (by omega)] at a0;cases a0
 | false=>
 have g0:=qAk.1 a0
 simp only [qAF,qAA,qAJ h8,x1,qAJ h18,csG0,csG1,qAT]
 rw [qAX (by omega) (by omega)]
 simp only [qAf,qAA]
 rw [qAX (by omega) (by omega)]
 refine qAw ?_
 simp only [qAb,qAA,Bool.not_not]
 cases a1:outB x.2.1 F.lf (F.lf+F.sp - 1) with
 | true=>
   simp only [qAK,qHw,qGZ,qAO,qAI,qAA]
   refine hK.bad (by decide) kS λg=>?_
   have:=g.1.2.1
   rw [qAk.2 (by omega)] at a1;cases a1
 | false=>
 have g1:=qAk.1 a1
 simp only [qHw,qAI,qAF,qAB,zA,qAA,qAJ h8,x2]
 refine qAw ?_
 simp only [qAb,qAA,Bool.not_not]
 cases a2:outB x.2.2 1 1000 with
 | true=>
   simp only [qAK,qGZ,qAI,qAA]
   refine hK.bad (by decide) kS λg=>?_
   rw [qAk.2 g.1.2.2] at a2;cases a2
 | false=>
 have hg:LkG F x:=⟨by omega,by omega,qAk.1 a2⟩
 simp only [qGZ,qAI,qAF,qAA,qJ2]
 refine ⟨λys t m=>∃ k:Nat,ys=[.int .i64 (k:Int)]∧t=s8∧k≤i∧m=i - k∧(x.1,x.2.1) ∉ (F.L.take k).map λx=>(x.1,x.2.1),⟨_,0,rfl,rfl,by omega,rfl,by simp⟩,?_⟩
 rintro e t m ⟨k,hy,rfl,hki,rfl,hno⟩
 simp only [cI,and_true] at hy
 rw [hy]
 simp only [qPt,qAP,qAA]
 refine qAG (λhlt=>?_) (λhge=>?_)
 ·have hlt:k < i:=by have:=oT hlt;omega
  have hk:F.L[k]?=some F.L[k]:=gE (by omega)
  generalize F.L[k]=z at hk
  obtain ⟨pb,po,e1,e2,e3⟩:=L8.get (i:=k) (r:=lkC z) (by rw [List.getElem?_map,hk];rfl)
  have z0:rd1 t (.ptr pb po)=some (.int .i64 z.1):=e3 0 (by omega)
  have z1:rd1 t (.ptr pb (po+1))=some (.int .i64 z.2.1):=e3 1 (by omega)
  have next:(x.1,x.2.1)≠(z.1,z.2.1)→oK (qAC .add (.int .i64 (k:Int)) (.int .i64 1)) λv_19=>∃ m',m' < i - k∧∃ k:Nat,[v_19]=[AV.int .i64 (k:Int)]∧True∧k≤i∧m'=i - k∧(x.1,x.2.1) ∉ (F.L.take k).map λx=>(x.1,x.2.1):=λhne=>by
   simp only [qAT,qAA]
   rw [qAX (by omega) (by omega)]
   exact ⟨_,by omega,k+1,rfl,trivial,by omega,rfl,λhm=>by
    rcases (nit hk).1 hm with hm | hm
    ·exact hno hm
    ·exact hne hm⟩
  simp only [qAB,Nat.add_zero,zA,qAA,qAJ h18,csG2,e1,z0,qAJ h8,x0,qAa,qAW,Bool.false_bne]
  cases q:(z.1 == x.1) with
  | false=>
    simp only [qAF,qJ1,qAI,qAA]
    exact next λh=>by
     have:=congrArg Prod.fst h
     simp only at this
     rw [this] at q
     simp at q
  | true=>
    have q:z.1=x.1:=eq_of_beq q
    simp only [qAK,qAA,z1,x1,qAa,qAW,Bool.false_bne,qJ1,qAO]
    refine qAG (λq2=>?_) (λq2=>?_)
    ·have q2:z.2.1=x.2.1:=eq_of_beq q2
     refine hK.bad (by decide) kS λg=>g.2 ?_
     refine List.mem_map.2 ⟨z,List.mem_of_getElem? (i:=k) (by rw [List.getElem?_take,if_pos hlt];exact hk),by rw [q,q2]⟩
    ·exact next λh=>by
      have:=congrArg Prod.snd h
      simp only at this
      rw [this] at q2
      simp at q2
 ·have hge:k=i:=by have:=oF hge;omega
  subst hge
  unfold qKO
  exact hK.good kS ⟨hg,hno⟩
theorem qWS (hn:F.T.length≤4294967296) (hF:FabR s cs F) {i:Nat} {x:Int × Int} (hx:F.T[i]?=some x) (hK:Rok s (TnG x∧x.1 ∉ (F.T.take i).map (·.1)∧x.2 ∉ (F.T.take i).map (·.2)) K):wC Tryz.prog XX 120 [.agg cs,.int .i64 (i:Int)] K s:=by
 obtain ⟨v2,v3,v4,v5,v6,v7,rfl,hL⟩:=hF
 refine qSK ⟨hL.all,qAL λb s1 hb h1 u1=>?_⟩
 have h1:s1 b=some (false,.cells 68 (csG F v2 v3 v4 v5 v6 v7)):=h1
 have k1:=u1.sub hb
 have hi:=(gS hx).1
 obtain ⟨pb,po,e1,e2,e3⟩:=(hL.sub k1).T.get (i:=i) (r:=tgC x) (by rw [List.getElem?_map,hx];rfl)
 simp only [qAB,zA,qAA,qAJ h1,csG3,e1,e2]
 refine qAL λb6 s7 hb6 h7 u7=>qAU h7 rfl rfl rfl λs8 h8 u8=>?_
 have k8:Sub s1 s8:=qAc (u7.sub hb6) u8 hb6
 have h18:=k8 _ _ h1
 have T8:=(hL.sub (k1.trans k8)).T
 have kS:=k1.trans k8
 have x0:(tgC x)[0]?=some (.int .u32 x.1):=rfl
 have x1:(tgC x)[1]?=some (.int .u32 x.2):=rfl
 simp only [qAA,qAJ h8,x0,qAP]
 cases a0:decide (x.1 < 1) with
 | true=>
   simp only [qAK,qFp,qEX,qAO,qAA]
   refine hK.bad (by decide) kS λg=>?_
   have:=g.1.1
   have:=oT a0
   omega
 | false=>
 have g0:=oF a0
 simp only [qAF,qAA,qAg]
 cases a1:decide (16777215 < x.1) with
 | true=>
   simp only [qAK,qFp,qEX,qAO,qAI,qAA]
   refine hK.bad (by decide) kS λg=>?_
   have:=g.1.2.1
   have:=oT a1
   omega
 | false=>
 have g1:=oF a1
 simp only [qFp,qAI,qAF,qAB,zA,qAA,qAJ h8,x1,qAa,qAW,Bool.false_bne]
 cases a2:(x.2 == 0) with
 | true=>
   simp only [qAK,qEX,qAI,qAA]
   exact hK.bad (by decide) kS λg=>g.1.2.2 (eq_of_beq a2)
 | false=>
 have hg:TnG x:=⟨by omega,by omega,by simpa using a2⟩
 simp only [qEX,qAI,qAF,qAA,qHB]
 refine ⟨λys t m=>∃ k:Nat,ys=[.int .i64 (k:Int)]∧t=s8∧k≤i∧m=i - k∧x.1 ∉ (F.T.take k).map (·.1)∧x.2 ∉ (F.T.take k).map (·.2),⟨_,0,rfl,rfl,by omega,rfl,by simp,by simp⟩,?_⟩
 rintro e t m ⟨k,hy,rfl,hki,rfl,hn1,hn2⟩
 simp only [cI,and_true] at hy
 rw [hy]
 simp only [qMg,qAP,qAA]
 refine qAG (λhlt=>?_) (λhge=>?_)
 ·have hlt:k < i:=by have:=oT hlt;omega
  have hk:F.T[k]?=some F.T[k]:=gE (by omega)
  generalize F.T[k]=z at hk
  have hzm:z∈F.T.take i:=List.mem_of_getElem? (i:=k) (by rw [List.getElem?_take,if_pos hlt];exact hk)
  obtain ⟨pb,po,e1,e2,e3⟩:=T8.get (i:=k) (r:=tgC z) (by rw [List.getElem?_map,hk];rfl)
  have z0:rd1 t (.ptr pb po)=some (.int .u32 z.1):=e3 0 (by omega)
  have z1:rd1 t (.ptr pb (po+1))=some (.int .u32 z.2):=e3 1 (by omega)
  simp only [qAB,Nat.add_zero,zA,qAA,qAJ h18,csG3,e1,z0,qAJ h8,x0,qAa,qAW,Bool.false_bne]
  cases q:(z.1 == x.1) with
  | true=>
    have q:z.1=x.1:=eq_of_beq q
    simp only [qAK,qG8,qAO,qAA]
    exact hK.bad (by decide) kS λg=>g.2.1 (List.mem_map.2 ⟨z,hzm,q⟩)
  | false=>
    simp only [qAF,qAA,z1,x1,qAa,qAW,Bool.false_bne,qG8,qAI]
    refine qAG (λq2=>?_) (λq2=>?_)
    ·have q2:z.2=x.2:=eq_of_beq q2
     exact hK.bad (by decide) kS λg=>g.2.2 (List.mem_map.2 ⟨z,hzm,q2⟩)
    ·simp only [qAT,qAA]
     rw [qAX (by omega) (by omega)]
     refine ⟨_,by omega,k+1,rfl,(by trivial),by omega,rfl,λhm=>?_,λhm=>?_⟩
     ·rcases (nit hk).1 hm with hm | hm
      ·exact hn1 hm
      ·rw [hm] at q;simp at q
     ·rcases (nit hk).1 hm with hm | hm
      ·exact hn2 hm
      ·rw [hm] at q2;simp at q2
 ·have hge:k=i:=by have:=oF hge;omega
  subst hge
  unfold qHR
  exact hK.good kS ⟨hg,hn1,hn2⟩
end Go.AM.TN
set_option maxRecDepth 100000
namespace Go.AM.TN
open Go Go.Proofs
variable {K : AV → Hq → Prop} {s s' s0 : Hq} {lv uv v y w k : AV} {b c b6 b11 : Nat} {cs : List AV} {F : FG} {v2 v3 v4 v5 v6 v7 : AV} {t : Bool} {P Q : Prop} {i : Nat} {x : BG}
theorem Rok.imp (h:Rok s P K) (k:Sub s s') (e:Q↔P):Rok s' Q K:=λe' s2 k2 h2=>h e' s2 (k.trans k2) (h2.trans e)
theorem qT5 {b o n k j:Nat} {l:List AV} (h:rdN s n (.ptr b o)=some l) (hj:j+k≤n):rdN s k (.ptr b (o+j))=some ((l.drop j).take k):=by
 unfold rdN at h ⊢
 simp only at h ⊢
 split at h
 ·rename_i t e cs hb
  unfold qJj at h ⊢
  cases hc:Nat.ble (o+n) cs.length with
  | false=>rw [hc] at h;cases h
  | true=>
    rw [hc] at h
    have hle:=Nat.le_of_ble_eq_true hc
    cases h
    rw [Nat.ble_eq_true_of_le (show o+j+k≤cs.length by omega)]
    simp only [cond_true,Option.some.injEq]
    apply List.ext_getElem?
    intro i
    simp only [List.getElem?_take,List.getElem?_drop]
    by_cases hi:i < k
    ·rw [if_pos hi,if_pos hi,if_pos (by omega),Nat.add_assoc]
    ·rw [if_neg hi,if_neg hi]
 ·cases h
theorem qLR {A:Type} {p:A→Bool} {l:List A} {k:Nat} {a:A} (h:l[k]?=some a):(l.take (k+1)).any p=((l.take k).any p||p a):=by
 rw [List.take_add_one,h]
 simp
theorem zAE1 {A:Type} {p:A→Bool} {l:List A} {k i:Nat} {a:A} (h:l[k]?=some a) (hk:k < i) (hp:p a=true):(l.take i).any p=true:=
 List.any_eq_true.2 ⟨a,List.mem_of_getElem? (i:=k) (by rw [List.getElem?_take,if_pos hk];exact h),hp⟩
theorem zADz (hn:F.B.length≤4294967296) (hi:i < F.B.length) (h1:s b=some (false,.cells 68 (csG F v2 v3 v4 v5 v6 v7))) (h6:s b6=some (false,.cells 114 (bgC x))) (hB:SlR 6 s v4 (F.B.map bgC)) (hg:x.2.2.2.2.2≠0) (hK:Rok s (BdS F i x) K):qFo XX (.int .i64 (i:Int)) (.ptr b 0) (.ptr b6 0) K s:=by
 unfold qFo
 have d:BdS F i x↔qEe x.2.2.2.1 x.2.2.2.2.1=true∧(8≤x.2.2.2.2.1∧x.2.2.2.2.1≤30)∧qKe x.2.2.2.1 x.2.2.2.2.1 x.2.2.2.2.2=true∧(F.B.take i).any (qN3 x)=false:=⟨λh=>h.2 hg,λh=>⟨λe=>absurd e hg,λ_=>h⟩⟩
 rw [d] at hK
 clear d
 have x5:(bgC x)[5]?=some (.int .u32 x.2.2.2.2.2):=rfl
 have x0:(bgC x)[0]?=some (.int .i64 x.1):=rfl
 have rd:rdN s 2 (.ptr b6 3)=some (pfC x.2.2.2.1 x.2.2.2.2.1):=by simp only [rdN,h6];rfl
 simp only [qAB,zA,qAA,rd]
 refine qAL λb11 s12 hb11 h12 u12=>qAU h12 rfl rfl rfl λs13 h13 u13=>qAH (qAY h13 rfl) ?_
 have k13:Sub s s13:=qAc (u12.sub hb11) u13 hb11
 refine qSz λs42 k42=>?_
 have h11:=k42 _ _ h13
 have p0:(pfC x.2.2.2.1 x.2.2.2.2.1)[0]?=some (.int .u32 x.2.2.2.1):=rfl
 have p1:(pfC x.2.2.2.1 x.2.2.2.2.1)[1]?=some (.int .i64 x.2.2.2.2.1):=rfl
 have q42:=k13.trans k42
 simp only [qAb,qAA]
 cases a0:qEe x.2.2.2.1 x.2.2.2.2.1 with
 | false=>
   simp only [Bool.not_false,qAK,qFi,qDf,qDC,qAO,qAA]
   exact hK.bad (by decide) q42 λg=>by rw [g.1] at a0;cases a0
 | true=>
 simp only [Bool.not_true,qAF,qAA,qAJ h11,p1]
 refine qAw ?_
 simp only [qAb,qAA,Bool.not_not]
 cases a1:outB x.2.2.2.2.1 8 30 with
 | true=>
   simp only [qAK,qFi,qDf,qDC,qAO,qAI,qAA]
   exact hK.bad (by decide) q42 λg=>by rw [qAk.2 g.2.1] at a1;cases a1
 | false=>
 have g1:=qAk.1 a1
 have h6':=q42 _ _ h6
 simp only [qFi,qAI,qAF,qAA]
 refine qAH (qAY h11 rfl) ?_
 simp only [qAB,zA,qAA,qAJ h6',x5]
 refine qHK λs64 k64=>?_
 have q64:=q42.trans k64
 have h11:=k64 _ _ h11
 have h6':=q64 _ _ h6
 simp only [qAb,qAA]
 have inn:∀ (p q r:Bool),qCL x.2.2.2.1 x.2.2.2.2.1 x.2.2.2.2.2=p→(x.2.2.2.2.2 == x.2.2.2.1)=q→(x.2.2.2.2.2 == qSI x.2.2.2.1 x.2.2.2.2.1)=r→qKe x.2.2.2.1 x.2.2.2.2.1 x.2.2.2.2.2=(p&&!q&&!r):=λp q r hp hq hr=>by
  unfold qKe
  rw [hp,bne,hq,bne,hr]
 cases a2:qCL x.2.2.2.1 x.2.2.2.2.1 x.2.2.2.2.2 with
 | false=>
   simp only [Bool.not_false,qAK,qDf,qDC,qAO,qAI,qAA]
   exact hK.bad (by decide) q64 λg=>by
    have:=g.2.2.1
    rw [inn _ _ _ a2 rfl rfl] at this
    simp at this
 | true=>
 simp only [Bool.not_true,qAF,qDf,qAI,qAB,zA,qAA,qAJ h6',x5,qAJ h11,p0,qAa,qAW,Bool.false_bne]
 cases a3:(x.2.2.2.2.2 == x.2.2.2.1) with
 | true=>
   simp only [qAK,qDC,qAO,qAI,qAA]
   exact hK.bad (by decide) q64 λg=>by
    have:=g.2.2.1
    rw [inn _ _ _ a2 a3 rfl] at this
    simp at this
 | false=>
 simp only [qDC,qAI,qAF,qAA,qAB,zA,qAJ h6',x5]
 refine qAH (qAY h11 rfl) (qVo (by omega) λs52 k52=>?_)
 intro _
 rw [qXD a0 g1]
 have kT:Sub s64 (add s64 s52):=qDQ
 generalize add s64 s52=T at kT
 have qT:=q64.trans kT
 have h11:=kT _ _ h11
 have h6':=qT _ _ h6
 have h1':=qT _ _ h1
 have B':=hB.sub qT
 simp only [qAa,qAW,Bool.false_bne,qAA]
 cases a4:(x.2.2.2.2.2 == qSI x.2.2.2.1 x.2.2.2.2.1) with
 | true=>
   simp only [qAK]
   exact hK.bad (by decide) qT λg=>by
    have:=g.2.2.1
    rw [inn _ _ _ a2 a3 a4] at this
    simp at this
 | false=>
 have hin:qKe x.2.2.2.1 x.2.2.2.2.1 x.2.2.2.2.2=true:=by rw [inn _ _ _ a2 a3 a4];rfl
 simp only [qAF,qFe]
 refine ⟨λys t m=>∃ k:Nat,ys=[.int .i64 (k:Int)]∧Sub T t∧k≤i∧m=i - k∧(F.B.take k).any (qN3 x)=false,⟨_,0,rfl,.refl _,by omega,rfl,rfl⟩,?_⟩
 rintro e t m ⟨k,hy,kt,hki,rfl,hno⟩
 simp only [cI,and_true] at hy
 rw [hy]
 have ht1:=kt _ _ h1'
 have ht6:=kt _ _ h6'
 have ht11:=kt _ _ h11
 have qt:=qT.trans kt
 simp only [qMt,qAP,qAA]
 refine qAG (λhlt=>?_) (λhge=>?_)
 ·have hlt:k < i:=by have:=oT hlt;omega
  have hk:F.B[k]?=some F.B[k]:=gE (by omega)
  generalize F.B[k]=z at hk
  obtain ⟨pb,po,e1,e2,e3⟩:=(B'.sub kt).get (i:=k) (r:=bgC z) (by rw [List.getElem?_map,hk];rfl)
  have z0:rd1 t (.ptr pb po)=some (.int .i64 z.1):=e3 0 (by omega)
  have z5:rd1 t (.ptr pb (po+5))=some (.int .u32 z.2.2.2.2.2):=e3 5 (by omega)
  have zp:rdN t 2 (.ptr pb (po+3))=some (pfC z.2.2.2.1 z.2.2.2.2.1):=qT5 (j:=3) (k:=2) e2 (by omega)
  have next:∀ {t2:Hq},Sub t t2→qN3 x z=false→oK (qAC .add (.int .i64 (k:Int)) (.int .i64 1)) λv_25=>∃ m',m' < i - k∧∃ k:Nat,[v_25]=[AV.int .i64 (k:Int)]∧Sub T t2∧k≤i∧m'=i - k∧(F.B.take k).any (qN3 x)=false:=λk2 ho=>by
   simp only [qAT,qAA]
   rw [qAX (by omega) (by omega)]
   exact ⟨_,by omega,k+1,rfl,kt.trans k2,by omega,rfl,by rw [qLR hk,hno,ho];rfl⟩
  have hov:∀ p q r:Bool,(z.1 == x.1)=p→(z.2.2.2.2.2 != 0)=q→(qCL z.2.2.2.1 z.2.2.2.2.1 x.2.2.2.1||qCL x.2.2.2.1 x.2.2.2.2.1 z.2.2.2.1)=r→qN3 x z=(p&&q&&r):=λp q r h1 h2 h3=>by
   unfold qN3
   rw [h1,h2,h3]
  simp only [qAB,Nat.add_zero,zA,qAA,qAJ ht1,csG4,e1,z0,qAJ ht6,x0,qAa,qAW,Bool.false_bne]
  cases q:(z.1 == x.1) with
  | false=>
    simp only [qAF,qHD,qFl,qAI,qAA]
    exact next (.refl _) (by rw [hov _ _ _ q rfl rfl];rfl)
  | true=>
  simp only [qAK,qAB,zA,qAA,qAJ ht1,csG4,e1,z5,qAa,qAW,Bool.true_bne,qHD,qAO]
  cases q2:(z.2.2.2.2.2 == 0) with
  | true=>
    simp only [Bool.not_true,qAF,qFl,qAI,qAA]
    exact next (.refl _) (by rw [hov _ _ _ q (by rw [bne,q2]) rfl];rfl)
  | false=>
  simp only [Bool.not_false,qAK,qAA,zp]
  refine qAH (qAY ht11 rfl) (qTj λs33 k33=>?_)
  simp only [qFl,qAO,qAA]
  refine qAG (λq3=>?_) (λq3=>?_)
  ·exact hK.bad (by decide) (qt.trans k33) λg=>by
    have:=zAE1 (p:=qN3 x) hk hlt (by rw [hov _ _ _ q (by rw [bne,q2]) q3];rfl)
    rw [g.2.2.2] at this
    cases this
  ·exact next k33 (by rw [hov _ _ _ q (by rw [bne,q2]) q3];rfl)
 ·have hge:k=i:=by have:=oF hge;omega
  subst hge
  unfold qHF
  exact hK.good qt ⟨a0,g1,hin,hno⟩
theorem zAD0 (hn:F.B.length≤4294967296) (hi:i < F.B.length) (h1:s b=some (false,.cells 68 (csG F v2 v3 v4 v5 v6 v7))) (h6:s b6=some (false,.cells 114 (bgC x))) (hB:SlR 6 s v4 (F.B.map bgC)) (hK:Rok s (BdS F i x) K):qFh XX (.int .i64 (i:Int)) (.ptr b 0) (.ptr b6 0) K s:=by
 unfold qFh
 have x5:(bgC x)[5]?=some (.int .u32 x.2.2.2.2.2):=rfl
 have rd:rdN s 2 (.ptr b6 3)=some (pfC x.2.2.2.1 x.2.2.2.2.1):=by simp only [rdN,h6];rfl
 simp only [qAB,zA,qAA,qAJ h6,x5,qAa,qAW,Bool.false_bne]
 refine qAG (λq=>?_) (λq=>zADz hn hi h1 h6 hB (by simpa using q) hK)
 have q:x.2.2.2.2.2=0:=eq_of_beq q
 refine qAH rd (qAH (a:=[.int .u32 0,.int .i64 0]) rfl ?_)
 rw [eq41']
 simp only [qAW,Bool.true_bne,qAA]
 cases a:(x.2.2.2.1 == 0&&x.2.2.2.2.1 == 0) with
 | false=>
   simp only [Bool.not_false,qAK]
   exact hK.bad (by decide) (.refl _) λg=>by
    obtain ⟨e1,e2⟩:=g.1 q
    rw [e1,e2] at a
    cases a
 | true=>
   simp only [Bool.not_true,qAF]
   simp only [Bool.and_eq_true,beq_iff_eq] at a
   exact hK.good (.refl _) ⟨λ_=>a,λh=>absurd q h⟩
theorem zAEH (hn:F.B.length≤4294967296) (hi:i < F.B.length) (h1:s b=some (false,.cells 68 (csG F v2 v3 v4 v5 v6 v7))) (h6:s b6=some (false,.cells 114 (bgC x))) (hB:SlR 6 s v4 (F.B.map bgC)) (hK:Rok s ((x.2.1 ∉ (F.B.take i).map (·.2.1)∧x.2.2.1 ∉ (F.B.take i).map (·.2.2.1))∧BdS F i x) K):qFY XX (.int .i64 (i:Int)) (.ptr b 0) (.ptr b6 0) K s:=by
 unfold qFY
 have x1:(bgC x)[1]?=some (.int .u32 x.2.1):=rfl
 have x2:(bgC x)[2]?=some (.int .u32 x.2.2.1):=rfl
 refine ⟨λys t m=>∃ k:Nat,ys=[.int .i64 (k:Int)]∧t=s∧k≤i∧m=i - k∧x.2.1 ∉ (F.B.take k).map (·.2.1)∧x.2.2.1 ∉ (F.B.take k).map (·.2.2.1),⟨_,0,rfl,rfl,by omega,rfl,by simp,by simp⟩,?_⟩
 rintro e t m ⟨k,hy,rfl,hki,rfl,hn1,hn2⟩
 simp only [cI,and_true] at hy
 rw [hy]
 simp only [qLd,qAP,qAA]
 refine qAG (λhlt=>?_) (λhge=>?_)
 ·have hlt:k < i:=by have:=oT hlt;omega
  have hk:F.B[k]?=some F.B[k]:=gE (by omega)
  generalize F.B[k]=z at hk
  have hzm:z∈F.B.take i:=List.mem_of_getElem? (i:=k) (by rw [List.getElem?_take,if_pos hlt];exact hk)
  obtain ⟨pb,po,e1,e2,e3⟩:=hB.get (i:=k) (r:=bgC z) (by rw [List.getElem?_map,hk];rfl)
  have z1:rd1 t (.ptr pb (po+1))=some (.int .u32 z.2.1):=e3 1 (by omega)
  have z2:rd1 t (.ptr pb (po+2))=some (.int .u32 z.2.2.1):=e3 2 (by omega)
  simp only [qAB,zA,qAA,qAJ h1,csG4,e1,z1,qAJ h6,x1,qAa,qAW,Bool.false_bne]
  cases q:(z.2.1 == x.2.1) with
  | true=>
    have q:z.2.1=x.2.1:=eq_of_beq q
    simp only [qAK,qGF,qAO,qAA]
    exact hK.bad (by decide) (.refl _) λg=>g.1.1 (List.mem_map.2 ⟨z,hzm,q⟩)
  | false=>
    simp only [qAF,qAA,z2,x2,qAa,qAW,Bool.false_bne,qGF,qAI]
    refine qAG (λq2=>?_) (λq2=>?_)
    ·have q2:z.2.2.1=x.2.2.1:=eq_of_beq q2
     exact hK.bad (by decide) (.refl _) λg=>g.1.2 (List.mem_map.2 ⟨z,hzm,q2⟩)
    ·simp only [qAT,qAA]
     rw [qAX (by omega) (by omega)]
     refine ⟨_,by omega,k+1,rfl,(by trivial),by omega,rfl,λhm=>?_,λhm=>?_⟩
     ·rcases (nit hk).1 hm with hm | hm
      ·exact hn1 hm
      ·rw [hm] at q;simp at q
     ·rcases (nit hk).1 hm with hm | hm
      ·exact hn2 hm
      ·rw [hm] at q2;simp at q2
 ·have hge:k=i:=by have:=oF hge;omega
  subst hge
  exact zAD0 hn hi h1 h6 hB (hK.imp (.refl _) ⟨λh=>⟨⟨hn1,hn2⟩,h⟩,λh=>h.2⟩)
theorem zAD1 (hT:F.T.length≤4294967296) (hn:F.B.length≤4294967296) (hi:i < F.B.length) (h1:s b=some (false,.cells 68 (csG F v2 v3 v4 v5 v6 v7))) (h6:s b6=some (false,.cells 114 (bgC x))) (hTn:SlR 2 s v3 (F.T.map tgC)) (hB:SlR 6 s v4 (F.B.map bgC)) (hK:Rok s ((F.T.any (λy=>y.1 == x.2.1)=false∧F.T.any (λy=>y.2 == x.2.2.1)=false)∧(x.2.1 ∉ (F.B.take i).map (·.2.1)∧x.2.2.1 ∉ (F.B.take i).map (·.2.2.1))∧BdS F i x) K):qFV XX (.int .i64 (i:Int)) (.ptr b 0) (.ptr b6 0) K s:=by
 unfold qFV
 have x1:(bgC x)[1]?=some (.int .u32 x.2.1):=rfl
 have x2:(bgC x)[2]?=some (.int .u32 x.2.2.1):=rfl
 have lenT:qAQ v3=some F.T.length:=by rw [hTn.len,List.length_map]
 refine ⟨λys t m=>∃ k:Nat,ys=[.int .i64 (k:Int)]∧t=s∧k≤F.T.length∧m=F.T.length - k∧(F.T.take k).any (λy=>y.1 == x.2.1)=false∧(F.T.take k).any (λy=>y.2 == x.2.2.1)=false,⟨_,0,rfl,rfl,by omega,rfl,rfl,rfl⟩,?_⟩
 rintro e t m ⟨k,hy,rfl,hki,rfl,hn1,hn2⟩
 simp only [cI,and_true] at hy
 rw [hy]
 simp only [qLY,qAB,zA,qAJ h1,csG3,lenT,qAP,qAA]
 refine qAG (λhlt=>?_) (λhge=>?_)
 ·have hlt:k < F.T.length:=by have:=oT hlt;omega
  have hk:F.T[k]?=some F.T[k]:=gE (by omega)
  generalize F.T[k]=z at hk
  have hzm:z∈F.T:=List.mem_of_getElem? hk
  obtain ⟨pb,po,e1,e2,e3⟩:=hTn.get (i:=k) (r:=tgC z) (by rw [List.getElem?_map,hk];rfl)
  have z0:rd1 t (.ptr pb po)=some (.int .u32 z.1):=e3 0 (by omega)
  have z1:rd1 t (.ptr pb (po+1))=some (.int .u32 z.2):=e3 1 (by omega)
  simp only [qAB,Nat.add_zero,qAA,e1,z0,qAJ h6,x1,qAa,qAW,Bool.false_bne]
  cases q:(z.1 == x.2.1) with
  | true=>
    simp only [qAK,qGT,qAO,qAA]
    exact hK.bad (by decide) (.refl _) λg=>by
     have:=g.1.1
     rw [List.any_eq_true.2 ⟨z,hzm,q⟩] at this
     cases this
  | false=>
    simp only [qAF,qAA,z1,x2,qAa,qAW,Bool.false_bne,qGT,qAI]
    refine qAG (λq2=>?_) (λq2=>?_)
    ·exact hK.bad (by decide) (.refl _) λg=>by
      have:=g.1.2
      rw [List.any_eq_true.2 ⟨z,hzm,q2⟩] at this
      cases this
    ·simp only [qAT,qAA]
     rw [qAX (by omega) (by omega)]
     exact ⟨_,by omega,k+1,rfl,(by trivial),by omega,rfl,by rw [qLR hk,hn1,q];rfl,by rw [qLR hk,hn2,q2];rfl⟩
 ·have hge:k=F.T.length:=by have:=oF hge;omega
  subst hge
  rw [List.take_length] at hn1 hn2
  exact zAEH hn hi h1 h6 hB (hK.imp (.refl _) ⟨λh=>⟨⟨hn1,hn2⟩,h⟩,λh=>h.2⟩)
theorem qWh (hT:F.T.length≤4294967296) (hn:F.B.length≤4294967296) (hF:FabR s cs F) (hx:F.B[i]?=some x) (hK:Rok s (BdRow F i x) K):wC Tryz.prog XX 121 [.agg cs,.int .i64 (i:Int)] K s:=by
 obtain ⟨v2,v3,v4,v5,v6,v7,rfl,hL⟩:=hF
 refine qTJ ⟨hL.all,qAL λb s1 hb h1 u1=>?_⟩
 have h1:s1 b=some (false,.cells 68 (csG F v2 v3 v4 v5 v6 v7)):=h1
 have k1:=u1.sub hb
 have hi:=(gS hx).1
 obtain ⟨pb,po,e1,e2,e3⟩:=(hL.sub k1).B.get (i:=i) (r:=bgC x) (by rw [List.getElem?_map,hx];rfl)
 simp only [qAB,zA,qAA,qAJ h1,csG4,e1,e2]
 refine qAL λb6 s7 hb6 h7 u7=>qAU h7 rfl rfl rfl λs8 h8 u8=>?_
 have k8:Sub s1 s8:=qAc (u7.sub hb6) u8 hb6
 have h18:=k8 _ _ h1
 have kS:=k1.trans k8
 have L8:=hL.sub kS
 have lenT:qAQ v3=some F.T.length:=by rw [L8.T.len,List.length_map]
 have x0:(bgC x)[0]?=some (.int .i64 x.1):=rfl
 have x1:(bgC x)[1]?=some (.int .u32 x.2.1):=rfl
 have x2:(bgC x)[2]?=some (.int .u32 x.2.2.1):=rfl
 simp only [qAA,qAJ h8,x0,qAJ h18,csG3,lenT,qAf]
 rw [qAX (by omega) (by omega)]
 refine qAw ?_
 simp only [qAb,qAA,Bool.not_not]
 cases a0:outB x.1 0 ((F.T.length:Int) - 1) with
 | true=>
   simp only [qAK,qEg,qDg,qC3,qAO,qAA]
   refine hK.bad (by decide) kS λg=>?_
   have:=g.g.1
   rw [qAk.2 (by omega)] at a0;cases a0
 | false=>
 have g0:=qAk.1 a0
 simp only [qAF,qAA,qAJ h8,x1,qAP]
 cases a1:decide (x.2.1 < 1) with
 | true=>
   simp only [qAK,qEg,qDg,qC3,qAO,qAI,qAA]
   refine hK.bad (by decide) kS λg=>?_
   have:=g.g.2.1
   have:=oT a1
   omega
 | false=>
 have g1:=oF a1
 simp only [qEg,qAI,qAF,qAB,zA,qAA,qAJ h8,x1,qAg]
 cases a2:decide (16777215 < x.2.1) with
 | true=>
   simp only [qAK,qDg,qC3,qAO,qAI,qAA]
   refine hK.bad (by decide) kS λg=>?_
   have:=g.g.2.1
   have:=oT a2
   omega
 | false=>
 have g2:=oF a2
 simp only [qDg,qAI,qAF,qAB,zA,qAA,qAJ h8,x2,qAa,qAW,Bool.false_bne]
 cases a3:(x.2.2.1 == 0) with
 | true=>
   simp only [qAK,qC3,qAI,qAA]
   exact hK.bad (by decide) kS λg=>g.g.2.2 (eq_of_beq a3)
 | false=>
 have hg:BdG F x:=⟨by omega,by omega,by simpa using a3⟩
 simp only [qC3,qAI,qAF,qAA]
 exact zAD1 hT hn hi h18 h8 L8.T L8.B (hK.imp kS ⟨λh=>⟨hg,h.2.1.1,h.2.1.2,h.1.1,h.1.2,h.2.2⟩,λh=>⟨⟨h.tv,h.tt⟩,⟨h.vn,h.tg⟩,h.s⟩⟩)
end Go.AM.TN
set_option maxRecDepth 100000
namespace Go.AM.TN
open Go Go.Proofs
variable {K : AV → Hq → Prop} {s s' s0 : Hq} {lv uv v y w k l1 l2 : AV} {b c b6 b8 b11 : Nat} {cs : List AV} {F : FG} {v2 v3 v4 v5 v6 v7 : AV} {t : Bool} {P Q : Prop} {i : Nat}
theorem qLI {A:Type} {p:A→Prop} {l:List A} {k:Nat} (hlt:k < l.length) (h:∀ n∈l.take k,p n) (hp:p l[k]):∀ n∈l.take (k+1),p n:=λn hn=>by
 rw [List.take_succ_eq_append_getElem hlt,List.mem_append,List.mem_singleton] at hn
 rcases hn with hn | rfl
 ·exact h n hn
 ·exact hp
def cnS (S:List (List Int × List Int)) (j:Nat) (n:Int):Nat:=(S.take j).countP λy=>decide (n∈y.1)
theorem qVl {S:List (List Int × List Int)} {j:Nat} {y:List Int × List Int} (h:S[j]?=some y) (n:Int):cnS S (j+1) n=cnS S j n+(if n∈y.1 then 1 else 0):=by
 unfold cnS
 rw [List.take_add_one,h]
 simp [List.countP_cons]
theorem zAEd {S:List (List Int × List Int)} {j:Nat} {n:Int}:cnS S j n≤j:=by
 unfold cnS
 have:=List.countP_le_length (p:=λy:List Int × List Int=>decide (n∈y.1)) (l:=S.take j)
 rw [List.length_take] at this
 omega
section
variable {x : List Int × List Int} (h1 : s b = some (false, .cells 68 (csG F v2 v3 v4 v5 v6 v7))) (h6 : s b6 = some (false, .cells 93 [l1, l2])) (g1 : Sl s l1 (ix x.1)) (g2 : Sl s l2 (ix x.2)) (z1 : x.1.length ≤ 4294967296) (z2 : x.2.length ≤ 4294967296)
include h1 h6 g1 z1 in
theorem zAF9 (hS:SgG s v5 F.S) (hx:F.S[i]?=some x) (hn:F.S.length≤4294967296) (zz:∀ x∈F.S,x.1.length≤4294967296) (hK:Rok s (∀ n∈x.1,cnS F.S (i+1) n≤32) K):qEi XX (.int .i64 (i:Int)) (.ptr b 0) (.ptr b6 0) K s:=by
 unfold qEi
 have hi:=(gS hx).1
 have a0:[l1,l2][0]?=some l1:=rfl
 refine ⟨λys t m=>∃ k:Nat,ys=[.int .i64 (k:Int)]∧t=s∧k≤x.1.length∧m=x.1.length - k∧∀ n∈x.1.take k,cnS F.S (i+1) n≤32,⟨_,0,rfl,rfl,by omega,rfl,by simp⟩,?_⟩
 rintro e t m ⟨k,hy,rfl,hki,rfl,hno⟩
 simp only [cI,and_true] at hy
 rw [hy]
 simp only [qLL,qAB,zA,qAJ h6,a0,g1.len,qCG,qAP,qAA]
 refine qAG (λhlt=>?_) (λhge=>?_)
 ·have hlt:k < x.1.length:=by have:=oT hlt;omega
  obtain ⟨p,e1,e2⟩:=g1.get (i:=k) (by rw [qCG];exact hlt)
  rw [qH7 hlt] at e2
  refine ⟨λys t2 m=>∃ j:Nat,ys=[.int .i64 (cnS F.S j x.1[k]:Int),.int .i64 (j:Int)]∧t2=t∧j≤i+1∧m=i+1 - j,⟨_,0,rfl,rfl,by omega,rfl⟩,?_⟩
  rintro e' t2 m2 ⟨j,hy,rfl,hji,rfl⟩
  simp only [cI,and_true] at hy
  rw [hy.1,hy.2]
  have hc:=zAEd (S:=F.S) (j:=j) (n:=x.1[k])
  simp only [qLN,qCs,qAA]
  refine qAG (λhlt2=>?_) (λhge2=>?_)
  ·have hlt2:j≤i:=by have:=oT hlt2;omega
   have hj:F.S[j]?=some F.S[j]:=gE (by omega)
   have hjm:F.S[j]∈F.S:=List.getElem_mem _
   generalize F.S[j]=y at hj hjm
   obtain ⟨pb,po,m1,m2,q1,q2,q3,q4,q5,q6⟩:=hS.at hj
   have hstep:=qVl hj x.1[k]
   simp only [qAB,Nat.add_zero,zA,qAA,qAJ h1,csG5,q1,q3,qAJ h6,a0,e1,e2]
   refine qY0 q5 (zz y hjm) ?_
   refine qAG (λq=>?_) (λq=>?_)
   ·have q:x.1[k]∈y.1:=oT q
    rw [if_pos q] at hstep
    simp only [qAT,qAA,qGD]
    rw [qAX (by omega) (by omega),qAX (by omega) (by omega)]
    exact ⟨_,by omega,j+1,by rw [hstep];rfl,(by trivial),by omega,rfl⟩
   ·have q:¬ x.1[k]∈y.1:=oF q
    rw [if_neg q] at hstep
    simp only [qAT,qAA,qGD]
    rw [qAX (by omega) (by omega)]
    exact ⟨_,by omega,j+1,by rw [hstep];rfl,(by trivial),by omega,rfl⟩
  ·have hge2:j=i+1:=by have:=oF hge2;omega
   subst hge2
   simp only [qAg,qAA]
   refine qAG (λq=>?_) (λq=>?_)
   ·exact hK.bad (by decide) (.refl _) λg=>by
     have:=g _ (List.getElem_mem hlt)
     have:=oT q
     omega
   ·have q:=oF q
    simp only [qAT,qAA]
    rw [qAX (by omega) (by omega)]
    exact ⟨_,by omega,k+1,rfl,(by trivial),by omega,rfl,qLI hlt hno (by omega)⟩
 ·have hge:k=x.1.length:=by have:=oF hge;omega
  subst hge
  rw [List.take_length] at hno
  unfold qGE
  exact hK.good (.refl _) hno
include h1 h6 g1 g2 z1 z2 in
theorem zAFl (hS:SgG s v5 F.S) (hx:F.S[i]?=some x) (hn:F.S.length≤4294967296) (zz:∀ x∈F.S,x.1.length≤4294967296) (hK:Rok s ((x.1.Pairwise (· < ·)∧x.2.Pairwise (· < ·))∧∀ n∈x.1,cnS F.S (i+1) n≤32) K):qEw XX (.int .i64 (i:Int)) (.ptr b 0) (.ptr b6 0) K s:=by
 unfold qEw
 have a0:[l1,l2][0]?=some l1:=rfl
 have a1:[l1,l2][1]?=some l2:=rfl
 simp only [qAB,zA,qAJ h6,a0,qAA]
 refine qXc g1 z1 λr hr=>?_
 simp only [qAb,qAA]
 cases r with
 | false=>
   simp only [Bool.not_false,qAK,qGP,qAO,qAA]
   exact hK.bad (by decide) (.refl _) λg=>by have:=hr.2 g.1.1;cases this
 | true=>
 have hr:=hr.1 rfl
 simp only [Bool.not_true,qAF,qAJ h6,a1,qAA]
 refine qXc g2 z2 λr hr2=>?_
 simp only [qAb,qAA,qGP,qAI]
 cases r with
 | false=>
   simp only [Bool.not_false,qAK]
   exact hK.bad (by decide) (.refl _) λg=>by have:=hr2.2 g.1.2;cases this
 | true=>
 simp only [Bool.not_true,qAF]
 exact zAF9 h1 h6 g1 z1 hS hx hn zz (hK.imp (.refl _) ⟨λh=>⟨⟨hr,hr2.1 rfl⟩,h⟩,λh=>h.2⟩)
include h1 h6 g1 g2 z1 z2 in
theorem zAEZ (hB:SlR 6 s v4 (F.B.map bgC)) (hBn:F.B.length≤4294967296) (hS:SgG s v5 F.S) (hx:F.S[i]?=some x) (hn:F.S.length≤4294967296) (zz:∀ x∈F.S,x.1.length≤4294967296) (hK:Rok s ((∀ n∈x.2,0≤n∧n < (F.B.length:Int))∧(x.1.Pairwise (· < ·)∧x.2.Pairwise (· < ·))∧∀ n∈x.1,cnS F.S (i+1) n≤32) K):qEs XX (.int .i64 (i:Int)) (.ptr b 0) (.ptr b6 0) K s:=by
 unfold qEs
 have a1:[l1,l2][1]?=some l2:=rfl
 have lenB:qAQ v4=some F.B.length:=by rw [hB.len,List.length_map]
 refine ⟨λys t m=>∃ k:Nat,ys=[.int .i64 (k:Int)]∧t=s∧k≤x.2.length∧m=x.2.length - k∧∀ n∈x.2.take k,0≤n∧n < (F.B.length:Int),⟨_,0,rfl,rfl,by omega,rfl,by simp⟩,?_⟩
 rintro e t m ⟨k,hy,rfl,hki,rfl,hno⟩
 simp only [cI,and_true] at hy
 rw [hy]
 simp only [qLc,qAB,zA,qAJ h6,a1,g2.len,qCG,qAP,qAA]
 refine qAG (λhlt=>?_) (λhge=>?_)
 ·have hlt:k < x.2.length:=by have:=oT hlt;omega
  obtain ⟨p,e1,e2⟩:=g2.get (i:=k) (by rw [qCG];exact hlt)
  rw [qH7 hlt] at e2
  simp only [e1,e2,qAJ h1,csG4,lenB,qAf,qAA]
  rw [qAX (by omega) (by omega)]
  refine qAw ?_
  simp only [qAb,qAA,Bool.not_not]
  refine qAG (λq=>?_) (λq=>?_)
  ·exact hK.bad (by decide) (.refl _) λg=>by
    have:=g.1 _ (List.getElem_mem hlt)
    rw [qAk.2 (by omega)] at q;cases q
  ·have q:=qAk.1 q
   simp only [qAT,qAA]
   rw [qAX (by omega) (by omega)]
   exact ⟨_,by omega,k+1,rfl,(by trivial),by omega,rfl,qLI hlt hno (by omega)⟩
 ·have hge:k=x.2.length:=by have:=oF hge;omega
  subst hge
  rw [List.take_length] at hno
  exact zAFl h1 h6 g1 g2 z1 z2 hS hx hn zz (hK.imp (.refl _) ⟨λh=>⟨hno,h⟩,λh=>h.2⟩)
include h1 h6 g1 g2 z1 z2 in
theorem zAF5 (hf:FabOk F) (hB:SlR 6 s v4 (F.B.map bgC)) (hBn:F.B.length≤4294967296) (hS:SgG s v5 F.S) (hx:F.S[i]?=some x) (hn:F.S.length≤4294967296) (zz:∀ x∈F.S,x.1.length≤4294967296) (hK:Rok s ((∀ n∈x.1,0≤n∧n < F.lf)∧(∀ n∈x.2,0≤n∧n < (F.B.length:Int))∧(x.1.Pairwise (· < ·)∧x.2.Pairwise (· < ·))∧∀ n∈x.1,cnS F.S (i+1) n≤32) K):qDi XX (.int .i64 (i:Int)) (.ptr b 0) (.ptr b6 0) K s:=by
 unfold qDi
 have a0:[l1,l2][0]?=some l1:=rfl
 have hlf:=hf.lf
 refine ⟨λys t m=>∃ k:Nat,ys=[.int .i64 (k:Int)]∧t=s∧k≤x.1.length∧m=x.1.length - k∧∀ n∈x.1.take k,0≤n∧n < F.lf,⟨_,0,rfl,rfl,by omega,rfl,by simp⟩,?_⟩
 rintro e t m ⟨k,hy,rfl,hki,rfl,hno⟩
 simp only [cI,and_true] at hy
 rw [hy]
 simp only [qKh,qAB,zA,qAJ h6,a0,g1.len,qCG,qAP,qAA]
 refine qAG (λhlt=>?_) (λhge=>?_)
 ·have hlt:k < x.1.length:=by have:=oT hlt;omega
  obtain ⟨p,e1,e2⟩:=g1.get (i:=k) (by rw [qCG];exact hlt)
  rw [qH7 hlt] at e2
  simp only [e1,e2,qAJ h1,csG0,qAf,qAA]
  rw [qAX (by omega) (by omega)]
  refine qAw ?_
  simp only [qAb,qAA,Bool.not_not]
  refine qAG (λq=>?_) (λq=>?_)
  ·exact hK.bad (by decide) (.refl _) λg=>by
    have:=g.1 _ (List.getElem_mem hlt)
    rw [qAk.2 (by omega)] at q;cases q
  ·have q:=qAk.1 q
   simp only [qAT,qAA]
   rw [qAX (by omega) (by omega)]
   exact ⟨_,by omega,k+1,rfl,(by trivial),by omega,rfl,qLI hlt hno (by omega)⟩
 ·have hge:k=x.1.length:=by have:=oF hge;omega
  subst hge
  rw [List.take_length] at hno
  exact zAEZ h1 h6 g1 g2 z1 z2 hB hBn hS hx hn zz (hK.imp (.refl _) ⟨λh=>⟨hno,h⟩,λh=>h.2⟩)
end
theorem qUT (hf:FabOk F) (z:Sz F) (hF:FabR s cs F) {x:List Int × List Int} (hx:F.S[i]?=some x) (hK:Rok s (qMH F x∧∀ n∈x.1,cnS F.S (i+1) n≤32) K):wC Tryz.prog XX 122 [.agg cs,.int .i64 (i:Int)] K s:=by
 obtain ⟨v2,v3,v4,v5,v6,v7,rfl,hL⟩:=hF
 refine qQn ⟨hL.all,qAL λb s1 hb h1 u1=>?_⟩
 have h1:s1 b=some (false,.cells 68 (csG F v2 v3 v4 v5 v6 v7)):=h1
 have k1:=u1.sub hb
 have hi:=(gS hx).1
 have hxm:x∈F.S:=List.mem_of_getElem? hx
 obtain ⟨pb,po,l1,l2,e1,e2,e3,e4,g1,g2⟩:=(hL.sub k1).S.at hx
 simp only [qAB,zA,qAA,qAJ h1,csG5,e1,e2]
 refine qAL λb6 s7 hb6 h7 u7=>qAU h7 rfl rfl (by simp [g1.one,g2.one]) λs8 h8 u8=>?_
 have k8:Sub s1 s8:=qAc (u7.sub hb6) u8 hb6
 have h18:=k8 _ _ h1
 have kS:=k1.trans k8
 have L8:=hL.sub kS
 have g1:=g1.sub k8
 have g2:=g2.sub k8
 have a0:[l1,l2][0]?=some l1:=rfl
 have a1:[l1,l2][1]?=some l2:=rfl
 have fin:∀ (x1:x.1≠[]) (x2:x.2≠[]),qDi XX (.int .i64 (i:Int)) (.ptr b 0) (.ptr b6 0) K s8:=λx1 x2=>zAF5 h18 h8 g1 g2 (z.N x hxm).1 (z.N x hxm).2 hf L8.B z.B L8.S hx z.S (λy hy=>(z.N y hy).1) (hK.imp kS ⟨λh=>⟨⟨⟨x1,x2⟩,⟨h.1,h.2.1⟩,h.2.2.1⟩,h.2.2.2⟩,λh=>⟨h.1.2.1.1,h.1.2.1.2,h.1.2.2,h.2⟩⟩)
 have em:∀ {l:List Int},((l.length:Int) == 0)=false→l≠[]:=λh e=>by rw [e] at h;cases h
 have em':∀ {l:List Int},((l.length:Int) == 0)=true→l=[]:=λh=>List.length_eq_zero_iff.1 (by have:=eq_of_beq h;omega)
 simp only [qAA,qAJ h8,a0,g1.len,qCG,qAa,qAW,Bool.false_bne]
 cases q:((x.1.length:Int) == 0) with
 | true=>
   simp only [qAK,qFK,qAO,qAA]
   exact hK.bad (by decide) kS λg=>g.1.1.1 (em' q)
 | false=>
 simp only [qAF,qAA,a1,g2.len,qCG,qFK,qAI]
 refine qAG (λq2=>?_) (λq2=>fin (em q) (em q2))
 exact hK.bad (by decide) kS λg=>g.1.1.2 (em' q2)
theorem qZD {S:List (List Int × List Int)} (h:∀ x∈S,x.1.Pairwise (· < ·)) (n:Int):((S.map (·.1)).flatten).count n=cnS S S.length n:=by
 unfold cnS
 rw [List.take_length]
 induction S with
 | nil=>rfl
 | cons x S ih=>
   rw [List.map_cons,List.flatten_cons,List.count_append,ih λy hy=>h y (by simp [hy]),List.countP_cons]
   have:x.1.count n=if decide (n∈x.1)=true then 1 else 0:=by
    by_cases hm:n∈x.1
    ·rw [if_pos (decide_eq_true hm)]
     have hd:x.1.Nodup:=(h x (by simp)).imp λh=>by omega
     have h1:=List.nodup_iff_count.1 hd n
     have h2:=List.count_pos_iff.2 hm
     omega
    ·rw [if_neg (by simpa using hm),List.count_eq_zero.2 hm]
   omega
theorem qUr {S:List (List Int × List Int)} (h:∀ (i:Nat) x,S[i]?=some x→∀ n∈x.1,cnS S (i+1) n≤32) (n:Int):∀ j,j≤S.length→cnS S j n≤32
 | 0,_=>by unfold cnS;simp
 | j+1,hj=>by
   have hx:S[j]?=some S[j]:=gE (by omega)
   by_cases hm:n∈S[j].1
   ·exact h j _ hx n hm
   ·rw [qVl hx,if_neg hm]
    exact qUr h n j (by omega)
theorem zADj {S:List (List Int × List Int)} {n:Int} {j k:Nat} (h:j≤k):cnS S j n≤cnS S k n:=by
 unfold cnS
 have:(S.take j)=(S.take k).take j:=by rw [List.take_take,Nat.min_eq_left h]
 rw [this]
 exact (List.take_sublist _ _).countP_le
theorem qSo:SegOk F↔F.S.length≤64∧∀ (i:Nat) x,F.S[i]?=some x→qMH F x∧∀ n∈x.1,cnS F.S (i+1) n≤32:=by
 constructor
 ·intro h
  refine ⟨h.n,λi x hx=>⟨h.row x (List.mem_of_getElem? hx),λn hn=>?_⟩⟩
  have:=h.port n
  rw [qZD (λy hy=>(h.row y hy).2.2.1)] at this
  exact Nat.le_trans (zADj (gS hx).1) this
 ·rintro ⟨h1,h2⟩
  have hr:∀ x∈F.S,qMH F x:=λx hx=>by
   obtain ⟨i,hi,rfl⟩:=List.mem_iff_getElem.1 hx
   exact (h2 i _ (gE hi)).1
  refine ⟨h1,hr,λn=>?_⟩
  rw [qZD (λy hy=>(hr y hy).2.2.1)]
  exact qUr (λi x hx=>(h2 i x hx).2) n _ (by omega)
end Go.AM.TN
set_option maxRecDepth 100000
namespace Go.AM.TN
open Go Go.Proofs
variable {K : AV → Hq → Prop} {s s' s0 : Hq} {lv uv v y w k l1 l2 : AV} {b c b6 b8 b11 : Nat} {cs : List AV} {F : FG} {v2 v3 v4 v5 v6 v7 : AV} {t : Bool} {P Q : Prop} {i : Nat} {x : R4} {d : BG}
theorem zAES (hn:F.H.length≤4294967296) (hi:i < F.H.length) (h1:s b=some (false,.cells 68 (csG F v2 v3 v4 v5 v6 v7))) (h6:s b6=some (false,.cells 136 (hgC x))) (hH:SlR 4 s v6 (F.H.map hgC)) (hK:Rok s ((x.2.2.1,x.1) ∉ ((F.H.take i).map λy=>(y.2.2.1,y.1))∧(x.2.1≠0→(x.2.2.1,x.2.1) ∉ (F.H.take i).map λy=>(y.2.2.1,y.2.1))) K):qDk XX (.int .i64 (i:Int)) (.ptr b 0) (.ptr b6 0) K s:=by
 unfold qDk
 have x0:(hgC x)[0]?=some (.int .u64 x.1):=rfl
 have x1:(hgC x)[1]?=some (.int .u32 x.2.1):=rfl
 have x2:(hgC x)[2]?=some (.int .i64 x.2.2.1):=rfl
 refine ⟨λys t m=>∃ k:Nat,ys=[.int .i64 (k:Int)]∧Sub s t∧k≤i∧m=i - k∧(x.2.2.1,x.1) ∉ ((F.H.take k).map λy=>(y.2.2.1,y.1))∧(x.2.1≠0→(x.2.2.1,x.2.1) ∉ (F.H.take k).map λy=>(y.2.2.1,y.2.1)),⟨_,0,rfl,.refl _,by omega,rfl,by simp,by simp⟩,?_⟩
 rintro e t m ⟨k,hy,kt,hki,rfl,hn1,hn2⟩
 simp only [cI,and_true] at hy
 rw [hy]
 have ht1:=kt _ _ h1
 simp only [qP4,qAP,qAA]
 refine qAG (λhlt=>?_) (λhge=>?_)
 ·have hlt:k < i:=by have:=oT hlt;omega
  have hk:F.H[k]?=some F.H[k]:=gE (by omega)
  generalize F.H[k]=z at hk
  have hzm:z∈F.H.take i:=List.mem_of_getElem? (i:=k) (by rw [List.getElem?_take,if_pos hlt];exact hk)
  obtain ⟨pb,po,e1,e2,e3⟩:=(hH.sub kt).get (i:=k) (r:=hgC z) (by rw [List.getElem?_map,hk];rfl)
  simp only [qAB,zA,qAA,qAJ ht1,csG6,e1,e2]
  refine qAL λb29 s30 hb29 h30 u30=>qAU h30 rfl rfl rfl λs31 h31 u31=>?_
  have k31:Sub t s31:=qAc (u30.sub hb29) u31 hb29
  have kT:=kt.trans k31
  have h6':=kT _ _ h6
  have z0:(hgC z)[0]?=some (.int .u64 z.1):=rfl
  have z1:(hgC z)[1]?=some (.int .u32 z.2.1):=rfl
  have z2:(hgC z)[2]?=some (.int .i64 z.2.2.1):=rfl
  have next:¬ (x.2.2.1=z.2.2.1∧x.1=z.1)→¬ (x.2.1≠0∧x.2.2.1=z.2.2.1∧x.2.1=z.2.1)→oK (qAC .add (.int .i64 (k:Int)) (.int .i64 1)) λv_25=>∃ m',m' < i - k∧∃ k:Nat,[v_25]=[AV.int .i64 (k:Int)]∧Sub s s31∧k≤i∧m'=i - k∧(x.2.2.1,x.1) ∉ ((F.H.take k).map λy=>(y.2.2.1,y.1))∧(x.2.1≠0→(x.2.2.1,x.2.1) ∉ (F.H.take k).map λy=>(y.2.2.1,y.2.1)):=λq1 q2=>by
   simp only [qAT,qAA]
   rw [qAX (by omega) (by omega)]
   refine ⟨_,by omega,k+1,rfl,kT,by omega,rfl,λhm=>?_,λh0 hm=>?_⟩
   ·rcases (nit (f:=λy:R4=>(y.2.2.1,y.1)) hk).1 hm with hm | hm
    ·exact hn1 hm
    ·simp only [Prod.mk.injEq] at hm;exact q1 hm
   ·rcases (nit (f:=λy:R4=>(y.2.2.1,y.2.1)) hk).1 hm with hm | hm
    ·exact hn2 h0 hm
    ·simp only [Prod.mk.injEq] at hm;exact q2 ⟨h0,hm⟩
  simp only [qAA,qAJ h31,z2,qAJ h6',x2,qAa,qAW,Bool.false_bne]
  cases q:(z.2.2.1 == x.2.2.1) with
  | false=>
    have q:z.2.2.1≠x.2.2.1:=by simpa using q
    simp only [qAF,qAI,qAA]
    exact next (λh=>q h.1.symm) λh=>q h.2.1.symm
  | true=>
  have q:z.2.2.1=x.2.2.1:=eq_of_beq q
  simp only [qAK,qAA,z0,x0,qAa,qAW,Bool.false_bne]
  cases q2:(z.1 == x.1) with
  | true=>
    have q2:z.1=x.1:=eq_of_beq q2
    simp only [qAK,qAO,qAA]
    exact hK.bad (by decide) kT λg=>g.1 (List.mem_map.2 ⟨z,hzm,by rw [q,q2]⟩)
  | false=>
  have q2:z.1≠x.1:=by simpa using q2
  simp only [qAF,qAA,x1,qAa,qAW,Bool.true_bne]
  cases q3:(x.2.1 == 0) with
  | true=>
    have q3:x.2.1=0:=eq_of_beq q3
    simp only [Bool.not_true,qAF,qJ5,qAI,qAO,qAA]
    exact next (λh=>q2 h.2.symm) λh=>h.1 q3
  | false=>
  have q3:x.2.1≠0:=by simpa using q3
  simp only [Bool.not_false,qAK,qAA,z1,qAa,qAW,Bool.false_bne,qJ5,qAI,qAO]
  refine qAG (λq4=>?_) (λq4=>?_)
  ·have q4:z.2.1=x.2.1:=eq_of_beq q4
   exact hK.bad (by decide) kT λg=>g.2 q3 (List.mem_map.2 ⟨z,hzm,by rw [q,q4]⟩)
  ·have q4:z.2.1≠x.2.1:=by simpa using q4
   exact next (λh=>q2 h.2.symm) λh=>q4 h.2.2.symm
 ·have hge:k=i:=by have:=oF hge;omega
  subst hge
  unfold qJ3
  exact hK.good kt ⟨hn1,hn2⟩
theorem zAFj {D:Prop} (hn:F.H.length≤4294967296) (hi:i < F.H.length) (h1:s b=some (false,.cells 68 (csG F v2 v3 v4 v5 v6 v7))) (h6:s b6=some (false,.cells 136 (hgC x))) (h8:s b8=some (false,.cells 114 (bgC d))) (hH:SlR 4 s v6 (F.H.map hgC)) (hD:D↔(x.2.2.1,x.1) ∉ ((F.H.take i).map λy=>(y.2.2.1,y.1))∧(x.2.1≠0→(x.2.2.1,x.2.1) ∉ (F.H.take i).map λy=>(y.2.2.1,y.2.1))) (h0:d.2.2.2.2.2=0→x.2.1=0) (hd:d.2.2.2.2.2≠0→qEe d.2.2.2.1 d.2.2.2.2.1=true∧8≤d.2.2.2.2.1∧d.2.2.2.2.1≤30) (hK:Rok s (qKr d x.2.1=true∧D) K):qE9 XX (.int .i64 (i:Int)) (.ptr b 0) (.ptr b6 0) (.ptr b8 0) K s:=by
 unfold qE9
 have x1:(hgC x)[1]?=some (.int .u32 x.2.1):=rfl
 have d5:(bgC d)[5]?=some (.int .u32 d.2.2.2.2.2):=rfl
 have go:∀ {t:Hq},Sub s t→qKr d x.2.1=true→qDk XX (.int .i64 (i:Int)) (.ptr b 0) (.ptr b6 0) K t:=λk ha=>zAES hn hi (k _ _ h1) (k _ _ h6) (hH.sub k) (hK.imp k ⟨λh=>⟨ha,hD.2 h⟩,λh=>hD.1 h.2⟩)
 simp only [qAB,zA,qAA,qAJ h8,d5,qAa,qAW,Bool.true_bne]
 cases q:(d.2.2.2.2.2 == 0) with
 | true=>
   have q:d.2.2.2.2.2=0:=eq_of_beq q
   simp only [Bool.not_true,qAF,qJ4,qAI,qAA]
   exact go (.refl _) (by unfold qKr;rw [h0 q];rfl)
 | false=>
 have q':d.2.2.2.2.2≠0:=by simpa using q
 obtain ⟨hc,hl⟩:=hd q'
 simp only [Bool.not_false,qAK,qAB,zA,qAA,qAJ h6,x1,qAa,qAW,Bool.true_bne,qJ4,qAO]
 cases q2:(x.2.1 == 0) with
 | true=>
   have q2:x.2.1=0:=eq_of_beq q2
   simp only [Bool.not_true,qAF,qAI,qAA]
   exact go (.refl _) (by unfold qKr;rw [q2];rfl)
 | false=>
 have ad:∀ p q r u:Bool,qCL d.2.2.2.1 d.2.2.2.2.1 x.2.1=p→(x.2.1 == d.2.2.2.1)=q→(x.2.1 == qSI d.2.2.2.1 d.2.2.2.2.1)=r→(x.2.1 == d.2.2.2.2.2)=u→qKr d x.2.1=(!u&&(p&&!q&&!r)):=λp q' r u e1 e2 e3 e4=>by
  unfold qKr qKe
  rw [e1,bne,bne,bne,bne,q,q2,e2,e3,e4]
  simp
 have rd:rdN s 2 (.ptr b8 3)=some (pfC d.2.2.2.1 d.2.2.2.2.1):=by simp only [rdN,h8];rfl
 simp only [Bool.not_false,qAK,qAA,rd]
 refine qHK λs68 k68=>?_
 have h6':=k68 _ _ h6
 have h8':=k68 _ _ h8
 have d3:(bgC d)[3]?=some (.int .u32 d.2.2.2.1):=rfl
 simp only [qAb,qAA]
 cases a0:qCL d.2.2.2.1 d.2.2.2.2.1 x.2.1 with
 | false=>
   simp only [Bool.not_false,qAK,qH9,qKA,qAO,qAA]
   exact hK.bad (by decide) k68 λg=>by
    have:=g.1
    rw [ad _ _ _ _ a0 rfl rfl rfl] at this
    simp at this
 | true=>
 simp only [Bool.not_true,qAF,Nat.add_zero,qAA,qAJ h6',x1,qAJ h8',d3,qAa,qAW,Bool.false_bne]
 cases a1:(x.2.1 == d.2.2.2.1) with
 | true=>
   simp only [qAK,qH9,qKA,qAO,qAI,qAA]
   exact hK.bad (by decide) k68 λg=>by
    have:=g.1
    rw [ad _ _ _ _ a0 a1 rfl rfl] at this
    simp at this
 | false=>
 have rd':rdN s68 2 (.ptr b8 3)=some (pfC d.2.2.2.1 d.2.2.2.2.1):=by simp only [rdN,h8'];rfl
 simp only [qH9,qAI,qAF,qAB,zA,qAA,qAJ h6',x1,rd']
 refine qVo (by omega) λs84 k84=>?_
 intro _
 rw [qXD hc hl]
 have kT:Sub s68 (add s68 s84):=qDQ
 generalize add s68 s84=T at kT
 have qT:=k68.trans kT
 have h6':=qT _ _ h6
 have h8':=qT _ _ h8
 simp only [qAa,qAW,Bool.false_bne,qAA]
 cases a2:(x.2.1 == qSI d.2.2.2.1 d.2.2.2.2.1) with
 | true=>
   simp only [qAK,qAO,qAA]
   exact hK.bad (by decide) qT λg=>by
    have:=g.1
    rw [ad _ _ _ _ a0 a1 a2 rfl] at this
    simp at this
 | false=>
 simp only [qAF,qAA,qAJ h6',x1,qAJ h8',d5,qAa,qAW,Bool.false_bne,qAI,qAO]
 refine qAG (λa3=>?_) (λa3=>?_)
 ·exact hK.bad (by decide) qT λg=>by
   have:=g.1
   rw [ad _ _ _ _ a0 a1 a2 a3] at this
   simp at this
 ·exact go qT (by rw [ad _ _ _ _ a0 a1 a2 a3];rfl)
theorem zAEv {D:Prop} (hn:F.H.length≤4294967296) (hi:i < F.H.length) (h1:s b=some (false,.cells 68 (csG F v2 v3 v4 v5 v6 v7))) (h6:s b6=some (false,.cells 136 (hgC x))) (hB:SlR 6 s v4 (F.B.map bgC)) (hH:SlR 4 s v6 (F.H.map hgC)) (hp:0≤x.2.2.1) (hb:F.B[x.2.2.1.toNat]?=some d) (hD:D↔(x.2.2.1,x.1) ∉ ((F.H.take i).map λy=>(y.2.2.1,y.1))∧(x.2.1≠0→(x.2.2.1,x.2.1) ∉ (F.H.take i).map λy=>(y.2.2.1,y.2.1))) (hd:d.2.2.2.2.2≠0→qEe d.2.2.2.1 d.2.2.2.2.1=true∧8≤d.2.2.2.2.1∧d.2.2.2.2.1≤30) (hK:Rok s (((x.1≠1577058561∧qFF x.1=false)∧qKr d x.2.1=true)∧D) K):qGW XX (.int .i64 (i:Int)) (.ptr b 0) (.ptr b6 0) K s:=by
 unfold qGW
 have x0:(hgC x)[0]?=some (.int .u64 x.1):=rfl
 have x1:(hgC x)[1]?=some (.int .u32 x.2.1):=rfl
 have x2:(hgC x)[2]?=some (.int .i64 x.2.2.1):=rfl
 have d5:(bgC d)[5]?=some (.int .u32 d.2.2.2.2.2):=rfl
 obtain ⟨pb,po,e1,e2,e3⟩:=hB.get (i:=x.2.2.1.toNat) (r:=bgC d) (by rw [List.getElem?_map,hb];rfl)
 rw [Int.toNat_of_nonneg hp] at e1
 simp only [qAB,zA,qAA,qAJ h6,x0]
 refine qVy λr=>?_
 refine qAH (a:=.int .i64 r) rfl (qAH (a:=.bool (qFF x.1)) rfl ?_)
 simp only [qAA,qAJ h1,csG4,qAJ h6,x2,e1,e2]
 refine qAL λb21 s22 hb21 h22 u22=>qAU h22 rfl rfl rfl λs23 h23 u23=>?_
 have k23:Sub s s23:=qAc (u22.sub hb21) u23 hb21
 have h6':=k23 _ _ h6
 have go:(x.1≠1577058561∧qFF x.1=false)→(d.2.2.2.2.2=0→x.2.1=0)→qE9 XX (.int .i64 (i:Int)) (.ptr b 0) (.ptr b6 0) (.ptr b21 0) K s23:=λha h0=>zAFj hn hi (k23 _ _ h1) h6' h23 (hH.sub k23) hD h0 hd (hK.imp k23 ⟨λh=>⟨⟨ha,h.1⟩,h.2⟩,λh=>⟨h.1.2,h.2⟩⟩)
 simp only [qAA,qAJ h6',x0,qAa,qAW,Bool.false_bne]
 cases q:(x.1 == 1577058561) with
 | true=>
   simp only [qAK,qIR,qAO,qAA]
   exact hK.bad (by decide) k23 λg=>g.1.1.1 (eq_of_beq q)
 | false=>
 have q:x.1≠1577058561:=by simpa using q
 simp only [qAF,qIR,qAI,qAA]
 cases q2:qFF x.1 with
 | true=>
   simp only [qAK,qAO,qAA]
   exact hK.bad (by decide) k23 λg=>by rw [g.1.1.2] at q2;cases q2
 | false=>
 simp only [qAF,qAB,zA,qAA,qAJ h23,d5,qAa,qAW,Bool.false_bne]
 cases q3:(d.2.2.2.2.2 == 0) with
 | false=>
   have q3:d.2.2.2.2.2≠0:=by simpa using q3
   simp only [qAF,qIN,qAI,qAA]
   exact go ⟨q,q2⟩ λh=>absurd h q3
 | true=>
 have q3':d.2.2.2.2.2=0:=eq_of_beq q3
 simp only [qAK,qAA,qAJ h6',x1,qAa,qAW,Bool.true_bne,qIN,qAO,qAI]
 cases q4:(x.2.1 == 0) with
 | true=>
   simp only [Bool.not_true,qAF]
   exact go ⟨q,q2⟩ λ_=>eq_of_beq q4
 | false=>
   simp only [Bool.not_false,qAK]
   exact hK.bad (by decide) k23 λg=>by
    have:=g.1.2
    unfold qKr at this
    rw [bne,q3,q4] at this
    cases this
theorem zAAy (z:Sz F) (hDo:DomOk F) (hF:FabR s cs F) (hx:F.H[i]?=some x) (hK:Rok s (HoRow F i x) K):wC Tryz.prog XX 123 [.agg cs,.int .i64 (i:Int)] K s:=by
 obtain ⟨v2,v3,v4,v5,v6,v7,rfl,hL⟩:=hF
 refine qV6 ⟨hL.all,qAL λb s1 hb h1 u1=>?_⟩
 have h1:s1 b=some (false,.cells 68 (csG F v2 v3 v4 v5 v6 v7)):=h1
 have k1:=u1.sub hb
 have hi:=(gS hx).1
 have hn:=z.H
 have hBn:=hDo.n
 have hSn:=z.S
 obtain ⟨pb,po,e1,e2,e3⟩:=(hL.sub k1).H.get (i:=i) (r:=hgC x) (by rw [List.getElem?_map,hx];rfl)
 simp only [qAB,zA,qAA,qAJ h1,csG6,e1,e2]
 refine qAL λb6 s7 hb6 h7 u7=>qAU h7 rfl rfl rfl λs8 h8 u8=>?_
 have k8:Sub s1 s8:=qAc (u7.sub hb6) u8 hb6
 have h18:=k8 _ _ h1
 have kS:=k1.trans k8
 have L8:=hL.sub kS
 have lenB:qAQ v4=some F.B.length:=by rw [L8.B.len,List.length_map]
 have lenS:qAQ v5=some F.S.length:=L8.S.len
 have x0:(hgC x)[0]?=some (.int .u64 x.1):=rfl
 have x2:(hgC x)[2]?=some (.int .i64 x.2.2.1):=rfl
 have x3:(hgC x)[3]?=some (.int .i64 x.2.2.2):=rfl
 simp only [qAA,qAJ h8,x0,qAa,qAW,Bool.false_bne]
 cases a0:(x.1 == 0) with
 | true=>
   simp only [qAK,qGn,qFI,qEM,qDV,qAO,qAA]
   exact hK.bad (by decide) kS λg=>g.m.1 (eq_of_beq a0)
 | false=>
 have g0:x.1≠0:=by simpa using a0
 simp only [qAF,qAA,qAg]
 cases a1:decide (281474976710655 < x.1) with
 | true=>
   simp only [qAK,qGn,qFI,qEM,qDV,qAO,qAI,qAA]
   exact hK.bad (by decide) kS λg=>by
    have:=g.m.2.1
    have:=oT a1
    omega
 | false=>
 have g1:=oF a1
 simp only [qGn,qAI,qAF,qAB,zA,qAA,qAJ h8,x0]
 refine zAAT ?_
 cases a2:qRp x.1 with
 | true=>
   simp only [qAK,qFI,qEM,qDV,qAO,qAI,qAA]
   exact hK.bad (by decide) kS λg=>by rw [g.m.2.2] at a2;cases a2
 | false=>
 simp only [qFI,qAI,qAF,qAB,zA,qAA,qAJ h8,x2,qAJ h18,csG4,lenB,qAf]
 rw [qAX (by omega) (by omega)]
 refine qAw ?_
 simp only [qAb,qAA,Bool.not_not]
 cases a3:outB x.2.2.1 0 ((F.B.length:Int) - 1) with
 | true=>
   simp only [qAK,qEM,qDV,qAO,qAI,qAA]
   exact hK.bad (by decide) kS λg=>by
    have:=g.r.1
    rw [qAk.2 (by omega)] at a3;cases a3
 | false=>
 have g3:=qAk.1 a3
 simp only [qEM,qAI,qAF,qAB,zA,qAA,qAJ h8,x3,qAJ h18,csG5,lenS,qAf]
 rw [qAX (by omega) (by omega)]
 refine qAw ?_
 simp only [qAb,qAA,Bool.not_not]
 cases a4:outB x.2.2.2 (-1) ((F.S.length:Int) - 1) with
 | true=>
   simp only [qAK,qDV,qAI,qAA]
   exact hK.bad (by decide) kS λg=>by
    have:=g.r.2
    rw [qAk.2 (by omega)] at a4;cases a4
 | false=>
 have g4:=qAk.1 a4
 have hbd:F.B[x.2.2.1.toNat]?=some F.B[x.2.2.1.toNat]:=gE (by omega)
 have hbm:F.B[x.2.2.1.toNat]∈F.B:=List.getElem_mem _
 have hrow:=hDo.row _ _ hbd
 generalize F.B[x.2.2.1.toNat]=d at hbd hbm hrow
 have hsub:d.2.2.2.2.2≠0→qEe d.2.2.2.1 d.2.2.2.2.1=true∧8≤d.2.2.2.2.1∧d.2.2.2.2.1≤30:=λh=>⟨(hrow.s.2 h).1,(hrow.s.2 h).2.1⟩
 have go:(x.2.2.2≠-1→∀ y,F.S[x.2.2.2.toNat]?=some y→x.2.2.1∈y.2)→qGW XX (.int .i64 (i:Int)) (.ptr b 0) (.ptr b6 0) K s8:=λhs=>zAEv hn hi h18 h8 L8.B L8.H g3.1 hbd Iff.rfl hsub (hK.imp kS ⟨λh=>⟨⟨g0,by omega,a2⟩,⟨by omega,by omega⟩,hs,⟨h.1.1,λd' hd'=>by rw [hbd] at hd';cases hd';exact h.1.2⟩,h.2.1,h.2.2⟩,λh=>⟨⟨h.a.1,h.a.2 d hbd⟩,h.dm,h.di⟩⟩)
 simp only [qDV,qAI,qAF,qAA,qJ9,qAB,zA,qAJ h8,x3,qAa,qAW,Bool.true_bne]
 cases a5:(x.2.2.2 == -1) with
 | true=>
   have a5:x.2.2.2=-1:=eq_of_beq a5
   simp only [Bool.not_true,qAF,qIv,qAI,qAA]
   exact go λh=>absurd a5 h
 | false=>
 have a5:x.2.2.2≠-1:=by simpa using a5
 have hsg:F.S[x.2.2.2.toNat]?=some F.S[x.2.2.2.toNat]:=gE (by omega)
 have hsm:F.S[x.2.2.2.toNat]∈F.S:=List.getElem_mem _
 generalize F.S[x.2.2.2.toNat]=y at hsg hsm
 obtain ⟨pb,po,m1,m2,q1,q2,q3,q4,q5,q6⟩:=L8.S.at hsg
 rw [Int.toNat_of_nonneg (by omega)] at q1
 simp only [Bool.not_false,qAK,qAB,qAA,x2,qAJ h18,csG5,q1,q4]
 refine qY0 q6 (z.N y hsm).2 ?_
 simp only [qAb,qAA,qIv,qAO]
 cases a6:decide (x.2.2.1∈y.2) with
 | false=>
   simp only [Bool.not_false,qAK]
   exact hK.bad (by decide) kS λg=>oF a6 (g.s a5 y hsg)
 | true=>
   simp only [Bool.not_true,qAF]
   exact go λ_ y' hy'=>by rw [hsg] at hy';cases hy';exact oT a6
end Go.AM.TN
set_option maxRecDepth 100000
namespace Go.AM.TN
open Go Go.Proofs
variable {K : AV → Hq → Prop} {s s' s0 : Hq} {lv uv v y w k l1 l2 : AV} {b c b6 b8 b11 : Nat} {cs : List AV} {F : FG} {v2 v3 v4 v5 v6 v7 : AV} {t : Bool} {P Q : Prop} {i : Nat}
theorem zAFF (a c p q a' c' p' q':Int):qFb Tryz.prog 140 (.agg [.int .i64 a,.int .i64 c,.int .u32 p,.int .i64 q]) (.agg [.int .i64 a',.int .i64 c',.int .u32 p',.int .i64 q'])=mB (some (eqI a a')) (mB (some (eqI c c')) (mB (mB (some (eqI p p')) (mB (some (eqI q q')) (some true))) (some true))):=by kernel_rfl
theorem zAGr {x y:R4}:qFb Tryz.prog 140 (.agg (ggC x)) (.agg (ggC y))=some (decide (x=y)):=by
 obtain ⟨a,c,p,q⟩:=x
 obtain ⟨a',c',p',q'⟩:=y
 show qFb Tryz.prog 140 (.agg [.int .i64 a,.int .i64 c,.int .u32 p,.int .i64 q]) (.agg [.int .i64 a',.int .i64 c',.int .u32 p',.int .i64 q'])=_
 rw [zAFF,qEN,qEN,qEN,qEN]
 by_cases h1:a=a' <;> by_cases h2:c=c' <;> by_cases h3:p=p' <;> by_cases h4:q=q' <;> simp [mB,h1,h2,h3,h4]
theorem zABo {x:R4} (z:Sz F) (hF:FabR s cs F) (hx:F.G[i]?=some x) (hK:Rok s (LeRow F i x) K):wC Tryz.prog XX 124 [.agg cs,.int .i64 (i:Int)] K s:=by
 obtain ⟨v2,v3,v4,v5,v6,v7,rfl,hL⟩:=hF
 refine qW8 ⟨hL.all,qAL λb s1 hb h1 u1=>?_⟩
 have h1:s1 b=some (false,.cells 68 (csG F v2 v3 v4 v5 v6 v7)):=h1
 have k1:=u1.sub hb
 have hi:=(gS hx).1
 have hn:=z.G
 have hT:=z.T
 obtain ⟨pb,po,e1,e2,e3⟩:=(hL.sub k1).G.get (i:=i) (r:=ggC x) (by rw [List.getElem?_map,hx];rfl)
 simp only [qAB,zA,qAA,qAJ h1,csG7,e1,e2]
 refine qAL λb6 s7 hb6 h7 u7=>qAU h7 rfl rfl rfl λs8 h8 u8=>?_
 have k8:Sub s1 s8:=qAc (u7.sub hb6) u8 hb6
 have h18:=k8 _ _ h1
 have kS:=k1.trans k8
 have L8:=hL.sub kS
 have lenT:qAQ v3=some F.T.length:=by rw [L8.T.len,List.length_map]
 have x0:(ggC x)[0]?=some (.int .i64 x.1):=rfl
 have x1:(ggC x)[1]?=some (.int .i64 x.2.1):=rfl
 have rd:rdN s8 2 (.ptr b6 2)=some (pfC x.2.2.1 x.2.2.2):=by simp only [rdN,h8];rfl
 simp only [qAA,qAJ h8,x0,qAJ h18,csG3,lenT,qAf]
 rw [qAX (by omega) (by omega)]
 refine qAw ?_
 simp only [qAb,qAA,Bool.not_not]
 cases a0:outB x.1 0 ((F.T.length:Int) - 1) with
 | true=>
   simp only [qAK,qHv,qAO,qAA]
   exact hK.bad (by decide) kS λg=>by
    have:=g.r.1
    rw [qAk.2 (by omega)] at a0;cases a0
 | false=>
 have g0:=qAk.1 a0
 simp only [qAF,qAA,qAJ h8,x1,qAJ h18,csG3,lenT]
 rw [qAX (by omega) (by omega)]
 refine qAw ?_
 simp only [qAb,qAA,Bool.not_not]
 cases a1:outB x.2.1 0 ((F.T.length:Int) - 1) with
 | true=>
   simp only [qAK,qHv,qAI,qAA]
   exact hK.bad (by decide) kS λg=>by
    have:=g.r.2
    rw [qAk.2 (by omega)] at a1;cases a1
 | false=>
 have g1:=qAk.1 a1
 simp only [qHv,qAI,qAF,qAA,qKI,qAB,zA,qAJ h8,x0,x1,qAa,qAW,Bool.false_bne]
 cases a2:(x.1 == x.2.1) with
 | true=>
   simp only [qAK,qKM,qAO,qAA]
   exact hK.bad (by decide) kS λg=>g.p.1 (eq_of_beq a2)
 | false=>
 have g2:x.1≠x.2.1:=by simpa using a2
 simp only [qAF,qAA,rd]
 refine qSz λs26 k26=>?_
 have kT:=kS.trans k26
 have h18:=k26 _ _ h18
 have h8:=k26 _ _ h8
 have G8:=(L8.sub k26).G
 simp only [qAb,qAA,qKM,qAI]
 cases a3:qEe x.2.2.1 x.2.2.2 with
 | false=>
   simp only [Bool.not_false,qAK]
   exact hK.bad (by decide) kT λg=>by rw [g.p.2] at a3;cases a3
 | true=>
 simp only [Bool.not_true,qAF,qKF]
 refine ⟨λys t m=>∃ k:Nat,ys=[.int .i64 (k:Int)]∧t=s26∧k≤i∧m=i - k∧x ∉ F.G.take k,⟨_,0,rfl,rfl,by omega,rfl,by simp⟩,?_⟩
 rintro e t m ⟨k,hy,rfl,hki,rfl,hno⟩
 simp only [cI,and_true] at hy
 rw [hy]
 simp only [qPm,qAP,qAA]
 refine qAG (λhlt=>?_) (λhge=>?_)
 ·have hlt:k < i:=by have:=oT hlt;omega
  have hk:F.G[k]?=some F.G[k]:=gE (by omega)
  generalize F.G[k]=y at hk
  have hym:y∈F.G.take i:=List.mem_of_getElem? (i:=k) (by rw [List.getElem?_take,if_pos hlt];exact hk)
  obtain ⟨pb,po,e1,e2,e3⟩:=G8.get (i:=k) (r:=ggC y) (by rw [List.getElem?_map,hk];rfl)
  simp only [qAB,zA,qAA,qAJ h18,csG7,e1,e2]
  refine qAH (qAY h8 rfl) ?_
  rw [zAGr]
  simp only [qAW,Bool.false_bne,qAA]
  refine qAG (λq=>?_) (λq=>?_)
  ·have q:y=x:=oT q
   exact hK.bad (by decide) kT λg=>g.d (q ▸ hym)
  ·have q:y≠x:=oF q
   simp only [qAT,qAA]
   rw [qAX (by omega) (by omega)]
   refine ⟨_,by omega,k+1,rfl,(by trivial),by omega,rfl,λhm=>?_⟩
   rw [List.take_add_one,hk] at hm
   rcases List.mem_append.1 hm with hm | hm
   ·exact hno hm
   ·simp at hm;exact q hm.symm
 ·have hge:k=i:=by have:=oF hge;omega
  subst hge
  unfold qKB
  exact hK.good kT ⟨⟨by omega,by omega⟩,⟨g2,a3⟩,hno⟩
def EL (F:FG):Nat→Nat
 | 0=>F.L.length
 | 1=>F.T.length
 | 2=>F.B.length
 | 3=>F.S.length
 | 4=>F.H.length
 | _=>F.G.length
def EM:Nat→Nat
 | 0=>128
 | 1=>16
 | 2=>32
 | 3=>64
 | 4=>128
 | _=>256
def EP (F:FG) (p i:Nat):Prop:=
 match p with
 | 0=>∀ x,F.L[i]?=some x→LkG F x∧(x.1,x.2.1) ∉ (F.L.take i).map λx=>(x.1,x.2.1)
 | 1=>∀ x,F.T[i]?=some x→TnG x∧x.1 ∉ (F.T.take i).map (·.1)∧x.2 ∉ (F.T.take i).map (·.2)
 | 2=>∀ x,F.B[i]?=some x→BdRow F i x
 | 3=>∀ x,F.S[i]?=some x→qMH F x∧∀ n∈x.1,cnS F.S (i+1) n≤32
 | 4=>∀ x,F.H[i]?=some x→HoRow F i x
 | _=>∀ x,F.G[i]?=some x→LeRow F i x
def EQ (F:FG) (p:Nat):Prop:=EL F p≤EM p∧∀ i,i < EL F p→EP F p i
theorem qWf {A:Type} {l:List A} {x:A} {Q:A→Prop} (h:l[i]?=some x):(∀ x',l[i]?=some x'→Q x')↔Q x:=⟨λf=>f x h,λq x' h'=>by rw [h] at h';cases h';exact q⟩
theorem qNB {A:Type} {l:List A} {Q:Nat→A→Prop}:(∀ (i:Nat) x,l[i]?=some x→Q i x)↔∀ i,i < l.length→∀ x,l[i]?=some x→Q i x:=⟨λh i _=>h i,λh i x hx=>h i (gS hx).1 x hx⟩
theorem zADB:DomOk F↔EQ F 2:=⟨λh=>⟨h.n,qNB.1 h.row⟩,λh=>⟨h.1,qNB.2 h.2⟩⟩
theorem zADq:Valid F↔FabOk F∧TimOk F∧∀ p,p < 6→EQ F p:=by
 constructor
 ·intro h
  refine ⟨h 0 (by omega),h 1 (by omega),λp hp=>?_⟩
  match p,hp with
  | 0,_=>have g:LinksOk F:=h 2 (by omega);exact ⟨g.n,qNB.1 g.row⟩
  | 1,_=>have g:TenOk F:=h 3 (by omega);exact ⟨g.n,qNB.1 g.row⟩
  | 2,_=>exact zADB.1 (h 4 (by omega))
  | 3,_=>have g:=qSo.1 (h 5 (by omega));exact ⟨g.1,qNB.1 g.2⟩
  | 4,_=>have g:HosOk F:=h 6 (by omega);exact ⟨g.n,qNB.1 g.row⟩
  | 5,_=>have g:LeaOk F:=h 7 (by omega);exact ⟨g.n,qNB.1 g.row⟩
 ·rintro ⟨h0,h1,h2⟩ i hi
  match i,hi with
  | 0,_=>exact h0
  | 1,_=>exact h1
  | 2,_=>exact ⟨(h2 0 (by omega)).1,qNB.2 (h2 0 (by omega)).2⟩
  | 3,_=>exact ⟨(h2 1 (by omega)).1,qNB.2 (h2 1 (by omega)).2⟩
  | 4,_=>exact zADB.2 (h2 2 (by omega))
  | 5,_=>exact qSo.2 ⟨(h2 3 (by omega)).1,qNB.2 (h2 3 (by omega)).2⟩
  | 6,_=>exact ⟨(h2 4 (by omega)).1,qNB.2 (h2 4 (by omega)).2⟩
  | 7,_=>exact ⟨(h2 5 (by omega)).1,qNB.2 (h2 5 (by omega)).2⟩
theorem qTX {p:Nat} (hp:p < 6) (z:Sz F) (hf:FabOk F) (hD:4≤p→DomOk F) (hF:FabR s cs F) (hi:i < EL F p) (hK:Rok s (EP F p i) K):wC Tryz.prog XX 87 [.agg cs,.int .i64 (p:Int),.int .i64 (i:Int)] K s:=by
 obtain ⟨v2,v3,v4,v5,v6,v7,rfl,hL⟩:=hF
 refine qQH ⟨hL.all,qAL λb s1 hb h1 u1=>?_⟩
 have h1:s1 b=some (false,.cells 68 (csG F v2 v3 v4 v5 v6 v7)):=h1
 have k1:=u1.sub hb
 have hF1:FabR s1 (csG F v2 v3 v4 v5 v6 v7) F:=⟨v2,v3,v4,v5,v6,v7,rfl,hL.sub k1⟩
 match p,hp with
 | 0,_=>
   have hi:i < F.L.length:=hi
   have hx:F.L[i]?=some F.L[i]:=gE hi
   refine qAH (a:=.bool true) rfl ?_
   rw [qAK]
   exact qAH (qAY h1 rfl) (zABM hf z.L hF1 hx (hK.imp k1 (qWf (Q:=λx=>LkG F x∧(x.1,x.2.1) ∉ (F.L.take i).map λx=>(x.1,x.2.1)) hx).symm))
 | 1,_=>
   have hi:i < F.T.length:=hi
   have hx:F.T[i]?=some F.T[i]:=gE hi
   refine qAH (a:=.bool false) rfl ?_
   rw [qAF]
   refine qAH (a:=.bool true) rfl ?_
   rw [qAK]
   exact qAH (qAY h1 rfl) (qWS z.T hF1 hx (hK.imp k1 (qWf (Q:=λx=>TnG x∧x.1 ∉ (F.T.take i).map (·.1)∧x.2 ∉ (F.T.take i).map (·.2)) hx).symm))
 | 2,_=>
   have hi:i < F.B.length:=hi
   have hx:F.B[i]?=some F.B[i]:=gE hi
   refine qAH (a:=.bool false) rfl ?_
   rw [qAF]
   refine qAH (a:=.bool false) rfl ?_
   rw [qAF]
   refine qAH (a:=.bool true) rfl ?_
   rw [qAK]
   exact qAH (qAY h1 rfl) (qWh z.T z.B hF1 hx (hK.imp k1 (qWf hx).symm))
 | 3,_=>
   have hi:i < F.S.length:=hi
   have hx:F.S[i]?=some F.S[i]:=gE hi
   refine qAH (a:=.bool false) rfl ?_
   rw [qAF]
   refine qAH (a:=.bool false) rfl ?_
   rw [qAF]
   refine qAH (a:=.bool false) rfl ?_
   rw [qAF]
   refine qAH (a:=.bool true) rfl ?_
   rw [qAK]
   exact qAH (qAY h1 rfl) (qUT hf z hF1 hx (hK.imp k1 (qWf (Q:=λx=>qMH F x∧∀ n∈x.1,cnS F.S (i+1) n≤32) hx).symm))
 | 4,_=>
   have hi:i < F.H.length:=hi
   have hx:F.H[i]?=some F.H[i]:=gE hi
   refine qAH (a:=.bool false) rfl ?_
   rw [qAF]
   refine qAH (a:=.bool false) rfl ?_
   rw [qAF]
   refine qAH (a:=.bool false) rfl ?_
   rw [qAF]
   refine qAH (a:=.bool false) rfl ?_
   rw [qAF]
   refine qAH (a:=.bool true) rfl ?_
   rw [qAK]
   exact qAH (qAY h1 rfl) (zAAy z (hD (by omega)) hF1 hx (hK.imp k1 (qWf hx).symm))
 | 5,_=>
   have hi:i < F.G.length:=hi
   have hx:F.G[i]?=some F.G[i]:=gE hi
   refine qAH (a:=.bool false) rfl ?_
   rw [qAF]
   refine qAH (a:=.bool false) rfl ?_
   rw [qAF]
   refine qAH (a:=.bool false) rfl ?_
   rw [qAF]
   refine qAH (a:=.bool false) rfl ?_
   rw [qAF]
   refine qAH (a:=.bool false) rfl ?_
   rw [qAF]
   exact qAH (qAY h1 rfl) (zABo z hF1 hx (hK.imp k1 (qWf hx).symm))
def zACp (F:FG):List AV:=[.int .i64 F.L.length,.int .i64 F.T.length,.int .i64 F.B.length,.int .i64 F.S.length,.int .i64 F.H.length,.int .i64 F.G.length]
def zACw:List AV:=[.int .i64 128,.int .i64 16,.int .i64 32,.int .i64 64,.int .i64 128,.int .i64 256]
theorem qU0 {p:Nat} (hp:p < 6):(zACp F)[p]?=some (.int .i64 (EL F p:Int)):=by
 match p,hp with
 | 0,_=>rfl
 | 1,_=>rfl
 | 2,_=>rfl
 | 3,_=>rfl
 | 4,_=>rfl
 | 5,_=>rfl
theorem qZ5 {p:Nat} (hp:p < 6):zACw[p]?=some (.int .i64 (EM p:Int)):=by
 match p,hp with
 | 0,_=>rfl
 | 1,_=>rfl
 | 2,_=>rfl
 | 3,_=>rfl
 | 4,_=>rfl
 | 5,_=>rfl
theorem zAGe {p:Nat} (z:Sz F) (hp:p < 6):EL F p≤4294967296:=by
 match p,hp with
 | 0,_=>exact z.L
 | 1,_=>exact z.T
 | 2,_=>exact z.B
 | 3,_=>exact z.S
 | 4,_=>exact z.H
 | 5,_=>exact z.G
theorem qRz (z:Sz F) (hF:FabR s cs F) (hK:∀ (e:Int) (v:AV) (j:Int) (s':Hq),Sub s s'→(e=0↔Valid F)→K (.tup [.int .i64 e,v,.int .i64 j]) s'):wC Tryz.prog XX 58 [.agg cs] K s:=by
 obtain ⟨v2,v3,v4,v5,v6,v7,rfl,hL⟩:=hF
 refine qUi ⟨hL.all,qAL λb s1 hb h1 u1=>?_⟩
 have h1:s1 b=some (false,.cells 68 (csG F v2 v3 v4 v5 v6 v7)):=h1
 have k1:=u1.sub hb
 rw [zADq] at hK
 refine qAH (qAY h1 rfl) (qTV ⟨v2,v3,v4,v5,v6,v7,rfl,hL.sub k1⟩ λe s4 k4 he=>?_)
 have q4:=k1.trans k4
 have h14:=k4 _ _ h1
 simp only [qAa,qAW,Bool.true_bne,qAA]
 cases a0:(e == 0) with
 | false=>
   have a0:e≠0:=by simpa using a0
   simp only [Bool.not_false,qAK]
   exact hK _ _ _ _ q4 ⟨λh=>absurd h a0,λg=>absurd (he.2 g.1) a0⟩
 | true=>
 have hf:FabOk F:=he.1 (eq_of_beq a0)
 have rt:rdN s4 6 (.ptr b 13)=some [.int .i64 F.de,.int .i64 F.ho,.int .i64 F.ag,.int .i64 F.re,.int .i64 F.mo,.int .i64 F.wi]:=by
  simp only [rdN,h14]
  rfl
 simp only [Bool.not_true,qAF,qAB,zA,qAA,rt]
 refine qW9 λe s9 k9 he=>?_
 have q9:=q4.trans k9
 have h19:=k9 _ _ h14
 simp only [qAa,qAW,Bool.true_bne,qAA]
 cases a1:(e == 0) with
 | false=>
   have a1:e≠0:=by simpa using a1
   simp only [Bool.not_false,qAK]
   exact hK _ _ _ _ q9 ⟨λh=>absurd h a1,λg=>absurd (he.2 g.2.1) a1⟩
 | true=>
 have ht:TimOk F:=he.1 (eq_of_beq a1)
 have L9:=hL.sub q9
 have n2:qAQ v2=some F.L.length:=by rw [L9.L.len,List.length_map]
 have n3:qAQ v3=some F.T.length:=by rw [L9.T.len,List.length_map]
 have n4:qAQ v4=some F.B.length:=by rw [L9.B.len,List.length_map]
 have n5:qAQ v5=some F.S.length:=L9.S.len
 have n6:qAQ v6=some F.H.length:=by rw [L9.H.len,List.length_map]
 have n7:qAQ v7=some F.G.length:=by rw [L9.G.len,List.length_map]
 simp only [Bool.not_true,qAF]
 refine qAH (a:=[.str ⟨#[108,105,110,107,115]⟩,.str ⟨#[116,101,110,97,110,116,115]⟩,.str ⟨#[100,111,109,97,105,110,115]⟩,.str ⟨#[115,101,103,109,101,110,116,115]⟩,.str ⟨#[104,111,115,116,115]⟩,.str ⟨#[108,101,97,107,115]⟩]) rfl ⟨rfl,qAL λb12 s13 hb12 h13 u13=>?_⟩
 have k13:=u13.sub hb12
 have h113:=k13 _ _ h19
 simp only [qAA,qAJ h113,csG2,csG3,csG4,csG5,csG6,csG7,n2,n3,n4,n5,n6,n7]
 refine qAH (a:=zACp F) rfl ⟨rfl,qAL λb39 s40 hb39 h40 u40=>?_⟩
 refine qAH (a:=zACw) rfl ⟨rfl,qAL λb42 s43 hb42 h43 u43=>?_⟩
 have k40:=u40.sub hb39
 have k43:=u43.sub hb42
 have q43:=q9.trans (k13.trans (k40.trans k43))
 have g1:=k43 _ _ (k40 _ _ h113)
 have g39:=k43 _ _ h40
 have g12:=k43 _ _ (k40 _ _ h13)
 clear h113 h19 h14 h1 h13 h40
 have sP:∃ l:List AV,l.length=6∧Sl s43 (.slc b12 0 6 (some 6) 1) l:=⟨_,by rfl,Sl.mk g12 rfl (by intro c hc;cases hc;exact Nat.le_refl _)⟩
 obtain ⟨lp,lp6,sP⟩:=sP
 have sM:Sl s43 (.slc b39 0 6 (some 6) 1) (zACp F):=Sl.mk g39 rfl (by intro c hc;cases hc;exact Nat.le_refl _)
 have sX:Sl s43 (.slc b42 0 6 (some 6) 1) zACw:=Sl.mk h43 rfl (by intro c hc;cases hc;exact Nat.le_refl _)
 refine ⟨λys t m=>∃ p:Nat,ys=[.int .i64 (p:Int)]∧Sub s43 t∧p≤6∧m=6 - p∧∀ q,q < p→EQ F q,⟨_,0,rfl,.refl _,by omega,rfl,λq hq=>by omega⟩,?_⟩
 rintro en t m ⟨p,hy,kt,hp6,rfl,hall⟩
 simp only [cI,and_true] at hy
 rw [hy]
 clear hy
 have sP':=sP.sub kt
 have sM':=sM.sub kt
 have sX':=sX.sub kt
 have lenP:qAQ (.slc b12 0 6 (some 6) 1)=some 6:=by rw [sP'.len,lp6]
 simp only [qNd,lenP,qAP,qAA]
 refine qAG (λhlt=>?_) (λhge=>?_)
 ·have hp:p < 6:=by have:=oT hlt;omega
  obtain ⟨pm,m1,m2⟩:=sM'.get (i:=p) hp
  obtain ⟨px,x1,x2⟩:=sX'.get (i:=p) hp
  obtain ⟨pp,p1,p2⟩:=sP'.get (i:=p) (by omega)
  rw [qU0 hp] at m2
  rw [qZ5 hp] at x2
  have hlp:lp[p]?=some lp[p]:=gE (by omega)
  rw [hlp] at p2
  simp only [m1,m2,x1,x2,qAA,qAg]
  refine qAG (λq=>?_) (λq=>?_)
  ·simp only [p1,p2,qAA]
   refine hK 7 _ _ _ (q43.trans kt) ⟨λh=>absurd h (by decide),λg=>?_⟩
   have:=(g.2.2 p hp).1
   have:=oT q
   omega
  ·have hle:EL F p≤EM p:=by have:=oF q;omega
   have hel:=zAGe z hp
   refine ⟨λys t2 m=>∃ i:Nat,ys=[.int .i64 (i:Int)]∧Sub s43 t2∧i≤EL F p∧m=EL F p - i∧∀ j,j < i→EP F p j,⟨_,0,rfl,kt,by omega,rfl,λj hj=>by omega⟩,?_⟩
   rintro en2 t2 m2 ⟨i,hy,kt2,hi,rfl,hrow⟩
   simp only [cI,and_true] at hy
   rw [hy]
   clear hy
   have m2':=(sM.sub kt2).get (i:=p) hp
   obtain ⟨pm,m1,m2⟩:=m2'
   rw [qU0 hp] at m2
   simp only [qOQ,m1,m2,qAP,qAA]
   refine qAG (λhlt2=>?_) (λhge2=>?_)
   ·have hlt2:i < EL F p:=by have:=oT hlt2;omega
    have q2:=q43.trans kt2
    refine qAH (qAY (kt2 _ _ g1) rfl) (qTX hp z hf (λh4=>zADB.2 (hall 2 (by omega))) ⟨v2,v3,v4,v5,v6,v7,rfl,hL.sub q2⟩ hlt2 λe s61 k61 he=>?_)
    simp only [qAa,qAW,Bool.true_bne,qAA]
    cases a2:(e == 0) with
    | false=>
      have a2:e≠0:=by simpa using a2
      obtain ⟨pp,p1,p2⟩:=(sP.sub (kt2.trans k61)).get (i:=p) (by omega)
      rw [hlp] at p2
      simp only [Bool.not_false,qAK,p1,p2,qAA]
      exact hK _ _ _ _ (q2.trans k61) ⟨λh=>absurd h a2,λg=>absurd (he.2 ((g.2.2 p hp).2 i hlt2)) a2⟩
    | true=>
    simp only [Bool.not_true,qAF,qAT,qAA]
    rw [qAX (by omega) (by omega)]
    refine ⟨_,by omega,i+1,rfl,kt2.trans k61,by omega,rfl,λj hj=>?_⟩
    by_cases e:j=i
    ·subst e;exact he.1 (eq_of_beq a2)
    ·exact hrow j (by omega)
   ·have hge2:i=EL F p:=by have:=oF hge2;omega
    subst hge2
    simp only [qAT,qAA]
    rw [qAX (by omega) (by omega)]
    refine ⟨_,by omega,p+1,rfl,kt2,by omega,rfl,λq hq=>?_⟩
    by_cases e:q=p
    ·subst e;exact ⟨hle,hrow⟩
    ·exact hall q (by omega)
 ·have hge:p=6:=by have:=oF hge;omega
  subst hge
  exact hK _ _ _ _ (q43.trans kt) ⟨λ_=>⟨hf,ht,hall⟩,λ_=>rfl⟩
end Go.AM.TN
set_option maxRecDepth 100000
namespace Go.AM.FW
open Go Go.Proofs Go.AM.TN
variable {K : AV → Hq → Prop} {s s' s0 : Hq} {v w : AV} {cs : List AV} {F : FG} {R : List SG.Rt} {S : List (List Int × List Int)} {i : Nat} {x : List Int × List Int}
theorem qUY (z:Sz F) (hF:FabR s cs F) (hK:∀ b s',Sub s s'→(b=true↔Valid F)→K (.bool b) s'):wC Tryz.prog XX 88 [.agg cs] K s:=by
 obtain ⟨v2,v3,v4,v5,v6,v7,rfl,hL⟩:=hF
 refine qUn ⟨hL.all,qAL λb s1 hb h1 u1=>?_⟩
 have h1:s1 b=some (false,.cells 68 (csG F v2 v3 v4 v5 v6 v7)):=h1
 have k1:=u1.sub hb
 refine qAH (qAY h1 rfl) (qRz z ⟨v2,v3,v4,v5,v6,v7,rfl,hL.sub k1⟩ λe p j s4 k4 he=>?_)
 refine qAH (a:=.int .i64 e) rfl (qAH (a:=p) rfl (qAH (a:=.int .i64 j) rfl ?_))
 simp only [qAa,qAW,Bool.false_bne,qAA]
 exact hK _ s4 (k1.trans k4) (by rw [beq_iff_eq];exact he)
theorem qKm (z:Sz F) (hv:Valid F) (hF:FabR s cs F) (hx:F.S[i]?=some x) (hK:∀ s',Sub s s'→K (.bool (decide (1 < (x.1.length:Int)))) s'):wC Tryz.prog XX 59 [.agg cs,.int .i64 (i:Int)] K s:=by
 obtain ⟨v2,v3,v4,v5,v6,v7,rfl,hL⟩:=hF
 refine qMz ⟨hL.all,qAL λb s1 hb h1 u1=>?_⟩
 have h1:s1 b=some (false,.cells 68 (csG F v2 v3 v4 v5 v6 v7)):=h1
 have k1:=u1.sub hb
 have hi:=(gS hx).1
 have hS:=z.S
 refine qAH (qAY h1 rfl) (qUY z ⟨v2,v3,v4,v5,v6,v7,rfl,hL.sub k1⟩ λb s4 k4 hb=>?_)
 obtain rfl:b=true:=hb.2 hv
 have h14:=k4 _ _ h1
 have L4:=(hL.sub (k1.trans k4)).S
 have lenS:qAQ v5=some F.S.length:=L4.len
 obtain ⟨pb,po,l1,l2,e1,_,e3,_,g1,_⟩:=L4.at hx
 have n1:qAQ l1=some x.1.length:=by rw [g1.len,qCG]
 simp only [qAK,qAB,zA,qAA,qAJ h14,csG5,lenS,qAf]
 rw [qAX (by omega) (by omega)]
 refine qAw ?_
 rw [qAk.2 (show (0:Int)≤(i:Int)∧(i:Int)≤(F.S.length:Int) - 1 by omega)]
 simp only [Bool.not_false,qF0,qAO,qAA,qAK,qAB,Nat.add_zero,zA,qAJ h14,csG5,e1,e3,n1,qAg,qFw]
 exact hK s4 (k1.trans k4)
theorem zADv (hi:i < 64) (hK:∀ s',Sub s s'→K (.tup [.agg (esN i).R,.int .i64 0]) s'):wC Tryz.prog XX 90 [.int .i64 (i:Int)] K s:=by
 refine qFn (qAL λb s1 hb h1 u1=>?_)
 have c1:decide ((i:Int) < 0)=false:=decide_eq_false (by omega)
 have c2:decide ((64:Int)≤(i:Int))=false:=decide_eq_false (by omega)
 simp only [qAP,qBn,qAA,c1,c2,qAF,qBy,qAI,qAT]
 rw [qAX (by omega) (by omega)]
 have e:qBx .u8 (.int .i64 ((i:Int)+1))=some (.int .u8 ((i:Int)+1)):=by
  show some (AV.int .u8 (qAx .u8 ((i:Int)+1)))=_
  rw [EL.wu8,Int.emod_eq_of_lt (by omega) (by omega)]
 rw [e]
 simp only [qAA]
 refine qAH (a:=(esN i).R) rfl (qAU h1 rfl rfl rfl λs2 h2 u2=>qAH (qAY h2 rfl) ?_)
 exact hK s2 (qAc (u1.sub hb) u2 hb)
theorem zACd (z:Sz F) (hv:Valid F) (hF:FabR s cs F) (hx:F.S[i]?=some x) (h2:2≤x.1.length) (hK:∀ s',Sub s s'→K (.agg (esN i).R) s'):wC Tryz.prog XX 60 [.agg cs,.int .i64 (i:Int)] K s:=by
 obtain ⟨v2,v3,v4,v5,v6,v7,rfl,hL⟩:=hF
 refine qYB ⟨hL.all,qAL λb0 s1 hb0 q0 u0=>qAL λb2 s3 hb2 q2 u2=>?_⟩
 have q0:s1 b0=some (false,.cells 68 (csG F v2 v3 v4 v5 v6 v7)):=q0
 have k1:=u0.sub hb0
 have k3:=u2.sub hb2
 have hi:=(gS hx).1
 have h64:F.S.length≤64:=(show SegOk F from hv 5 (by omega)).n
 have n2:s b2=none:=qHN k1 hb2
 refine qAH (qAY (k3 _ _ q0) rfl) (qKm z hv ⟨v2,v3,v4,v5,v6,v7,rfl,hL.sub (k1.trans k3)⟩ hx λs6 k6=>?_)
 rw [decide_eq_true (show (1:Int) < (x.1.length:Int) by omega)]
 simp only [qAb,Bool.not_true,qAA,qAF]
 refine zADv (by omega) λs12 k12=>?_
 refine qAH (a:=.agg (esN i).R) rfl (qAH (a:=.int .i64 0) rfl (qAL λb15 s16 hb15 h16 u16=>qAU h16 rfl rfl rfl λs17 h17 u17=>qAH (qAY h17 rfl) ?_))
 have k17:Sub s12 s17:=qAc (u16.sub hb15) u17 hb15
 have q2':=k17 _ _ (k12 _ _ (k6 _ _ q2))
 refine qAU q2' rfl rfl rfl λs19 h19 u19=>qAH (qAY h19 rfl) ?_
 exact hK s19 (qAc (k1.trans (k3.trans (k6.trans (k12.trans k17)))) u19 n2)
theorem zAAs {c d:SG.Cd} {o:List SG.Cd} (h:c∈SG.putL o d):c=d∨c∈o:=by
 unfold SG.putL at h
 split at h
 ·exact .inr h
 ·rcases List.mem_append.1 h with h | h
  ·exact .inr (List.mem_of_mem_take h)
  ·rcases List.mem_cons.1 h with h | h
   ·exact .inl h
   ·exact .inr (List.mem_of_mem_drop h)
theorem qWJ {c:SG.Cd} {l:List SG.Cd} (h:c∈SG.qI4 l):c∈l:=by
 have:∀ (m o:List SG.Cd),c∈m.foldl SG.putL o→c∈m∨c∈o:=by
  intro m
  induction m with
  | nil=>exact λo h=>.inr h
  | cons d m ih=>
    intro o h
    rcases ih _ h with h | h
    ·exact .inl (by simp [h])
    ·rcases zAAs h with h | h
     ·exact .inl (by simp [h])
     ·exact .inr h
 rcases this l [] h with h | h
 ·exact h
 ·cases h
theorem zAGk (hip:∀ r∈R,0≤r.nx∧r.nx < 4294967296):∀ c∈Cn R i,0≤c.1∧c.1 < 4294967296:=λc hc=>by
 have h:=qWJ hc
 unfold SG.cds SG.qs at h
 rw [List.map_map] at h
 obtain ⟨r,hr,rfl⟩:=List.mem_map.1 h
 exact hip r (List.mem_filter.1 hr).1
theorem qPL (z:Sz F) (hF:FabR s cs F) (hR:SG.Rts s v R) (hok:∀ r∈R,r.ok) (hip:∀ r∈R,0≤r.nx∧r.nx < 4294967296) (hl:R.length≤100) (h0:¬ Valid F→∀ s',Sub s s'→K .nilslc s') (hK:Valid F→∀ v' s',Sub s s'→SlR 12 s' v' ((fwL F.S R F.S.length).map fwR)→K v' s'):wC Tryz.prog XX 32 [.agg cs,v] K s:=by
 obtain ⟨v2,v3,v4,v5,v6,v7,rfl,hL⟩:=hF
 refine qFk ⟨hL.all,qAL λb0 s1 hb0 q0 u0=>?_⟩
 have q0:s1 b0=some (false,.cells 68 (csG F v2 v3 v4 v5 v6 v7)):=q0
 have k1:=u0.sub hb0
 refine qAH (qAY q0 rfl) (qRz z ⟨v2,v3,v4,v5,v6,v7,rfl,hL.sub k1⟩ λe p j s4 k4 he=>?_)
 refine qAH (a:=.int .i64 e) rfl (qAH (a:=p) rfl (qAH (a:=.int .i64 j) rfl ?_))
 have k14:Sub s s4:=k1.trans k4
 simp only [qAa,qAW,Bool.true_bne,qAA]
 cases e0:(e == 0) with
 | false=>
   simp only [Bool.not_false,qAK]
   refine h0 (λg=>?_) s4 k14
   rw [he.2 g] at e0
   cases e0
 | true=>
 have hv:Valid F:=he.1 (eq_of_beq e0)
 simp only [Bool.not_true,qAF]
 have hok5:SegOk F:=hv 5 (by omega)
 have hdm:DomOk F:=hv 4 (by omega)
 have hb32:∀ x∈F.S,x.2.length≤32:=λx hx=>by
  have row:=hok5.row x hx
  have:=hdm.n
  rcases qTm row.2.2.2 row.2.1.2 with h | h
  ·omega
  ·exact absurd h row.1.2
 have hR4:=hR.sub k14
 have q04:=k4 _ _ q0
 have hL4:=hL.sub k14
 have lenS:qAQ v5=some F.S.length:=hL.S.len
 refine ⟨λys t2 m=>∃ (i:Nat) (w2:AV),ys=[w2,.int .i64 (i:Int)]∧i≤F.S.length∧m=F.S.length - i∧Sub s4 t2∧AccR 56 12 s4 t2 w2 ((fwL F.S R i).map fwR),⟨_,0,_,rfl,by omega,rfl,.refl _,λr h=>(by cases h),.inl ⟨rfl,rfl⟩⟩,?_⟩
 rintro f2 t2 m ⟨i,w2,hy,hi2,rfl,kt2,acc⟩
 simp only [cI,and_true] at hy
 rw [hy.1,hy.2]
 clear hy
 have q0t:=kt2 _ _ q04
 simp only [qCw,qAB,zA,qAA,qAJ q0t,csG5,lenS,qAP]
 have hfl:=qQq (R:=R) hb32 i
 have hS64:=hok5.n
 refine qAG (λhlt=>?_) (λhge=>?_)
 rotate_left
 ·have hge:i=F.S.length:=by have:=oF hge;omega
  subst hge
  exact hK hv _ _ (k14.trans kt2) acc.sl
 have hlt:i < F.S.length:=by have:=oT hlt;omega
 have hx:F.S[i]?=some F.S[i]:=gE hlt
 have hx32:=hb32 _ (List.getElem_mem hlt)
 generalize F.S[i]=x at hx hx32
 have enext:fwL F.S R (i+1)=fwL F.S R i ++ seg R i x:=by
  show fwL F.S R i ++ _=_
  rw [hx]
 refine qAH (qAY q0t rfl) (qKm z hv ⟨v2,v3,v4,v5,v6,v7,rfl,hL4.sub kt2⟩ hx λs17 k17=>?_)
 have q017:=k17 _ _ q0t
 simp only [qAb,qAA]
 cases q:decide (1 < (x.1.length:Int)) with
 | false=>
   have q:x.1.length < 2:=by have:=oF q;omega
   simp only [Bool.not_false,qAK,qBN,qAT,qAA]
   rw [qAX (by omega) (by omega)]
   refine ⟨_,by omega,i+1,_,rfl,by omega,rfl,kt2.trans k17,?_⟩
   rw [enext]
   unfold seg
   rw [if_pos q,List.append_nil]
   exact acc.sub k17
 | true=>
 have q:¬ x.1.length < 2:=by have:=oT q;omega
 simp only [Bool.not_true,qAF]
 refine qAH (qAY q017 rfl) (zACd z hv ⟨v2,v3,v4,v5,v6,v7,rfl,hL4.sub (kt2.trans k17)⟩ hx (by omega) λs21 k21=>?_)
 refine qAL λb22 s23 hb22 h23 u23=>qAU h23 rfl rfl rfl λs24 h24 u24=>?_
 have k24:Sub s21 s24:=qAc (u23.sub hb22) u24 hb22
 refine qAH (qAY h24 rfl) ?_
 have ka:Sub t2 s24:=k17.trans (k21.trans k24)
 have kt24:Sub s4 s24:=kt2.trans ka
 have koff:Sub s4 (offV w2 s24):=acc.off kt24
 have n22:t2 b22=none:=by
  cases e:t2 b22 with
  | none=>rfl
  | some y=>rw [k21 _ _ (k17 _ _ e)] at hb22;cases hb22
 have o22:offV w2 s24 b22=_:=acc.off1 n22 h24
 refine wC.part qA3 qLK (SG.zABH (x:=esN i) (hR4.sub koff) hok hl λv26 s51 k51 hc s53 k53 hout=>?_)
 rw [← SG.zAEt]
 have acc53:=acc.after ka hout
 refine qAH (a:=v26) rfl (qAH (a:=.int .i64 (Al R i)) rfl ?_)
 have hcl:(Cn R i).length≤1000:=by
  have h1:=SG.qML (SG.cds (SG.qs Tryz.prog (esN i) R))
  rw [SG.qOy] at h1
  have h2:=SG.qVK (P:=Tryz.prog) (x:=esN i) (R:=R)
  exact Nat.le_trans h1 (by omega)
 have kb:Sub s4 s51:=koff.trans k51
 have h51:s51 b22=_:=k51 _ _ o22
 have q051:=kb _ _ q04
 refine ⟨λys t3 m=>∃ (k:Nat) (w3:AV),ys=[w3,.int .i64 (k:Int)]∧k≤x.2.length∧m=x.2.length - k∧Sub s51 t3∧AccR 56 12 s51 t3 w3 ((fwL F.S R i ++ ((x.2.take k).map (one R i)).flatten).map fwR),⟨_,0,_,rfl,by omega,rfl,k53,?_⟩,?_⟩
 ·rw [List.take_zero,List.map_nil,List.flatten_nil,List.append_nil]
  exact acc53
 rintro f3 t3 m ⟨k,w3,hy,hk3,rfl,k3,acc3⟩
 simp only [cI,and_true] at hy
 rw [hy.1,hy.2]
 clear hy
 have q03:=k3 _ _ q051
 obtain ⟨pb,po,l1,l2,e1,_,_,e4,_,g2⟩:=(hL4.sub (kb.trans k3)).S.at hx
 have n2:qAQ l2=some x.2.length:=by rw [g2.len,qCG]
 simp only [qCv,qAB,zA,qAA,qAJ q03,csG5,e1,e4,n2,qAP]
 refine qAG (λhlt3=>?_) (λhge3=>?_)
 rotate_left
 ·have hge3:k=x.2.length:=by have:=oF hge3;omega
  subst hge3
  simp only [qBN,qAT,qAA]
  rw [qAX (by omega) (by omega)]
  refine ⟨_,by omega,i+1,_,rfl,by omega,rfl,kb.trans k3,?_⟩
  rw [enext]
  unfold seg
  rw [if_neg q]
  rw [List.take_length] at acc3
  exact acc3.base kb
 have hlt3:k < x.2.length:=by have:=oT hlt3;omega
 obtain ⟨p61,c1,c2⟩:=g2.get (i:=k) (by rw [qCG];exact hlt3)
 rw [qH7 hlt3] at c2
 have hbd:x.2[k]?=some x.2[k]:=gE hlt3
 generalize x.2[k]=bd at c2 hbd
 simp only [c1,c2,qAA]
 have kn:((x.2.take (k+1)).map (one R i)).flatten=((x.2.take k).map (one R i)).flatten ++ one R i bd:=by
  rw [List.take_add_one,hbd]
  simp
 have hlen3:(fwL F.S R i ++ ((x.2.take k).map (one R i)).flatten).length+1≤16777216:=by
  have:=qQw (R:=R) (i:=i) (x.2.take k)
  rw [List.length_take] at this
  rw [lAp]
  omega
 have koff3:Sub s51 (offV w3 t3):=acc3.off k3
 refine wC.part qA3 qLK (EL.qXa (l:=Cn R i) (hc.sub koff3) hcl (zAGk hip) λs63 k63 s64 k64 hout3=>?_)
 have acc4:=acc3.after (.refl _) hout3
 have kb4:Sub s51 s63:=koff3.trans k63
 refine qAH (a:=.int .u32 (EL.elect (Al R i) (Cn R i) bd).1) rfl (qAH (a:=.bool (EL.elect (Al R i) (Cn R i) bd).2) rfl ?_)
 refine qAG (λe=>?_) (λe=>?_)
 ·refine qAH (qAY (k64 _ _ (kb4 _ _ h51)) rfl) (qAH (a:=fwR (i,bd,(EL.elect (Al R i) (Cn R i) bd).1)) rfl (qAH (a:=fwR (i,bd,(EL.elect (Al R i) (Cn R i) bd).1)) (qLQ rfl) ⟨rfl,qAL λb71 s72 hb71 h72 u72=>?_⟩))
  have k72:=u72.sub hb71
  refine (acc4.sub k72).app (m:=[fwR (i,bd,(EL.elect (Al R i) (Cn R i) bd).1)]) (qTl h72 rfl) (by simp) (by rw [List.length_map];exact hlen3) (k64.trans k72) λv73 s74 a4 k74=>?_
  simp only [qBM,qAT,qAA]
  rw [qAX (by omega) (by omega)]
  refine ⟨_,by omega,k+1,_,rfl,by omega,rfl,kb4.trans k74,?_⟩
  rw [kn]
  unfold one at a4 ⊢
  rw [if_pos e]
  rw [← List.append_assoc,List.map_append]
  exact a4.base kb4
 ·simp only [qBM,qAT,qAA]
  rw [qAX (by omega) (by omega)]
  refine ⟨_,by omega,k+1,_,rfl,by omega,rfl,kb4.trans k64,?_⟩
  rw [kn]
  have:one R i bd=[]:=by
   unfold one
   rw [if_neg (by rw [e];simp)]
  rw [this,List.append_nil]
  exact acc4.base kb4
end Go.AM.FW
set_option maxRecDepth 100000
namespace Go.AM.FW
open Go Go.Proofs Go.AM.TN
variable {K : AV → Hq → Prop} {s s' s0 : Hq} {v w : AV} {cs : List AV} {F : FG} {R : List SG.Rt} {S : List (List Int × List Int)} {i : Nat} {x : List Int × List Int} {v2 v3 v4 v5 v6 v7 : AV} {e e' : SG.Es} {bd ip bd' ip' : Int} {L : List Fw}
def fwX (e:SG.Es) (bd ip:Int):List AV:=e.R ++ [.int .i64 bd,.int .u32 ip]
theorem zADW {a b:Bool}:mB (some a) (some b)=some (a&&b):=by cases a <;> rfl
theorem zAEn (a0 a1 a2 a3 a4 a5 a6 a7 a8 a9 b0 b1 b2 b3 b4 b5 b6 b7 b8 b9 x y x' y':Int):qFb Tryz.prog 56 (.agg [.int .u8 a0,.int .u8 a1,.int .u8 a2,.int .u8 a3,.int .u8 a4,.int .u8 a5,.int .u8 a6,.int .u8 a7,.int .u8 a8,.int .u8 a9,.int .i64 x,.int .u32 y]) (.agg [.int .u8 b0,.int .u8 b1,.int .u8 b2,.int .u8 b3,.int .u8 b4,.int .u8 b5,.int .u8 b6,.int .u8 b7,.int .u8 b8,.int .u8 b9,.int .i64 x',.int .u32 y'])=mB (mB (some (eqI a0 b0)) (mB (some (eqI a1 b1)) (mB (some (eqI a2 b2)) (mB (some (eqI a3 b3)) (mB (some (eqI a4 b4)) (mB (some (eqI a5 b5)) (mB (some (eqI a6 b6)) (mB (some (eqI a7 b7)) (mB (some (eqI a8 b8)) (mB (some (eqI a9 b9)) (some true))))))))))) (mB (some (eqI x x')) (mB (some (eqI y y')) (some true))):=by kernel_rfl
def esB (e e':SG.Es):Bool:=decide (e.x0=e'.x0)&&(decide (e.x1=e'.x1)&&(decide (e.x2=e'.x2)&&(decide (e.x3=e'.x3)&&(decide (e.x4=e'.x4)&&(decide (e.x5=e'.x5)&&(decide (e.x6=e'.x6)&&(decide (e.x7=e'.x7)&&(decide (e.x8=e'.x8)&&(decide (e.x9=e'.x9)&&true)))))))))
def fxB (e:SG.Es) (bd ip:Int) (e':SG.Es) (bd' ip':Int):Bool:=esB e e'&&(decide (bd=bd')&&(decide (ip=ip')&&true))
theorem zACi:qFb Tryz.prog 56 (.agg (fwX e bd ip)) (.agg (fwX e' bd' ip'))=some (fxB e bd ip e' bd' ip'):=by
 refine (zAEn e.x0 e.x1 e.x2 e.x3 e.x4 e.x5 e.x6 e.x7 e.x8 e.x9 e'.x0 e'.x1 e'.x2 e'.x3 e'.x4 e'.x5 e'.x6 e'.x7 e'.x8 e'.x9 bd ip bd' ip').trans ?_
 simp only [qEN,zADW]
 rfl
theorem qVQ:fxB e bd ip e' bd' ip'=fxB e' bd' ip' e bd ip:=by
 have c:∀ a b:Int,decide (a=b)=decide (b=a):=λa b=>by
  by_cases h:a=b
  ·rw [h]
  ·rw [decide_eq_false h,decide_eq_false (Ne.symm h)]
 unfold fxB esB
 rw [c e.x0,c e.x1,c e.x2,c e.x3,c e.x4,c e.x5,c e.x6,c e.x7,c e.x8,c e.x9,c bd,c ip]
theorem qU9:fxB e bd ip e bd ip=true:=by unfold fxB esB;simp
def isB (L:List Fw) (e:SG.Es) (bd ip:Int):Bool:=L.any λp=>fxB (esN p.1) p.2.1 p.2.2 e bd ip
theorem zACr {p:Fw} (h:p∈L):isB L (esN p.1) p.2.1 p.2.2=true:=List.any_eq_true.2 ⟨p,h,qU9⟩
theorem zAFg (h:SlR 12 s v (L.map fwR)) (hl:L.length≤1000000) (hK:∀ s' (r:Int),Sub s s'→decide (0≤r)=isB L e bd ip→K (.int .i64 r) s'):wC Tryz.prog XX 94 [v,.agg (fwX e bd ip)] K s:=by
 refine qDG ⟨rfl,qAL λb s1 hb h1 u1=>?_⟩
 have h1:s1 b=some (false,.cells 56 (fwX e bd ip)):=h1
 have k1:=u1.sub hb
 have h':=h.sub k1
 simp only [h'.len,List.length_map,qAA]
 refine ⟨λys t m=>∃ k:Nat,ys=[.int .i64 (k:Int)]∧t=s1∧k≤L.length∧m=L.length - k∧isB (L.take k) e bd ip=false,⟨_,0,rfl,rfl,by omega,rfl,rfl⟩,?_⟩
 rintro en t m ⟨k,hy,rfl,hki,rfl,hno⟩
 simp only [cI,and_true] at hy
 rw [hy]
 simp only [qBg,qAP,qAA]
 refine qAG (λhlt=>?_) (λhge=>?_)
 ·have hlt:k < L.length:=by have:=oT hlt;omega
  have hk:L[k]?=some L[k]:=gE hlt
  generalize L[k]=p at hk
  obtain ⟨pb,po,e1,e2,_⟩:=h'.get (i:=k) (r:=fwR p) (by rw [List.getElem?_map,hk];rfl)
  refine qAH (qAY h1 rfl) (qAH e1 (qAH e2 ?_))
  rw [show fwR p=fwX (esN p.1) p.2.1 p.2.2 from rfl,zACi]
  simp only [qAW,Bool.false_bne,qAA]
  refine qAG (λq=>?_) (λq=>?_)
  ·refine hK _ _ k1 ?_
   rw [decide_eq_true (show (0:Int)≤(k:Int) by omega)]
   exact (List.any_eq_true.2 ⟨p,List.mem_of_getElem? hk,by rw [qVQ];exact q⟩).symm
  ·simp only [qAT,qAA]
   rw [qAX (by omega) (by omega)]
   refine ⟨_,by omega,k+1,rfl,(by trivial),by omega,rfl,?_⟩
   unfold isB at hno ⊢
   rw [qLR hk,hno,qVQ,q]
   rfl
 ·have hge:k=L.length:=by have:=oF hge;omega
  subst hge
  rw [List.take_length] at hno
  exact hK _ _ k1 (by rw [hno];rfl)
theorem zAEJ (h:SlR 12 s v (L.map fwR)) (hl:L.length≤1000000) (hK:∀ s',Sub s s'→K (.bool (isB L e bd ip)) s'):wC Tryz.prog XX 33 [v,.agg e.R,.int .i64 bd,.int .u32 ip] K s:=by
 refine zABh ⟨rfl,qAL λb s1 hb h1 u1=>?_⟩
 have h1:s1 b=some (false,.cells 27 e.R):=h1
 have k1:=u1.sub hb
 refine qAH (qAY h1 rfl) (qAH (a:=fwX e bd ip) rfl ?_)
 refine qCt ⟨rfl,qAL λb2 s2 hb2 h2 u2=>?_⟩
 have h2:s2 b2=some (false,.cells 56 (fwX e bd ip)):=h2
 have k2:=u2.sub hb2
 refine qAH (qAY h2 rfl) (zAFg (h.sub (k1.trans k2)) hl λs4 r k4 hr=>?_)
 simp only [qBn,qAA]
 rw [hr]
 exact hK s4 (k1.trans (k2.trans k4))
theorem zABs (h:SlR 12 s v (L.map fwR)) (hl:L.length≤1000000) (hK:∀ s',Sub s s'→K (.bool (isB L e bd ip)) s'):wC Tryz.prog XX 34 [v,.agg e.R,.int .i64 bd,.int .u32 ip] K s:=by
 refine qJD ⟨rfl,qAL λb s1 hb h1 u1=>?_⟩
 have h1:s1 b=some (false,.cells 27 e.R):=h1
 have k1:=u1.sub hb
 have h':=h.sub k1
 refine ⟨λys t m=>∃ k:Nat,ys=[.int .i64 (k:Int)]∧t=s1∧k≤L.length∧m=L.length - k∧isB (L.take k) e bd ip=false,⟨_,0,rfl,rfl,by omega,rfl,rfl⟩,?_⟩
 rintro en t m ⟨k,hy,rfl,hki,rfl,hno⟩
 simp only [cI,and_true] at hy
 rw [hy]
 simp only [qE3,h'.len,List.length_map,qAP,qAA]
 refine qAG (λhlt=>?_) (λhge=>?_)
 ·have hlt:k < L.length:=by have:=oT hlt;omega
  have hk:L[k]?=some L[k]:=gE hlt
  generalize L[k]=p at hk
  obtain ⟨pb,po,e1,e2,_⟩:=h'.get (i:=k) (r:=fwR p) (by rw [List.getElem?_map,hk];rfl)
  refine qAH e1 (qAH e2 (qAH (qAY h1 rfl) (qAH (a:=fwX e bd ip) rfl ?_)))
  rw [show fwR p=fwX (esN p.1) p.2.1 p.2.2 from rfl,zACi]
  simp only [qAW,Bool.false_bne,qAA]
  refine qAG (λq=>?_) (λq=>?_)
  ·have:isB L e bd ip=true:=List.any_eq_true.2 ⟨p,List.mem_of_getElem? hk,q⟩
   rw [← this]
   exact hK _ k1
  ·simp only [qAT,qAA]
   rw [qAX (by omega) (by omega)]
   refine ⟨_,by omega,k+1,rfl,(by trivial),by omega,rfl,?_⟩
   unfold isB at hno ⊢
   rw [qLR hk,hno,q]
   rfl
 ·have hge:k=L.length:=by have:=oF hge;omega
  subst hge
  rw [List.take_length] at hno
  rw [← hno]
  exact hK _ k1
structure Sml (F:FG):Prop where
 L:F.L.length≤40
 T:F.T.length≤40
 B:F.B.length≤40
 S:F.S.length≤40
 H:F.H.length≤40
 G:F.G.length≤40
 N:∀ x∈F.S,x.1.length≤20∧x.2.length≤20
theorem zADd (hS:F.S.length≤9223372036854775807) (hF:FabR s cs F) (hK:∀ b s',Sub s s'→(b=false→Sml F)→K (.bool b) s'):wC Tryz.prog XX 30 [.agg cs] K s:=by
 obtain ⟨v2,v3,v4,v5,v6,v7,rfl,hL⟩:=hF
 refine qWK ⟨hL.all,qAL λb s1 hb h1 u1=>?_⟩
 have h1:s1 b=some (false,.cells 68 (csG F v2 v3 v4 v5 v6 v7)):=h1
 have k1:=u1.sub hb
 have L1:=hL.sub k1
 have n2:qAQ v2=some F.L.length:=by rw [L1.L.len,List.length_map]
 have n3:qAQ v3=some F.T.length:=by rw [L1.T.len,List.length_map]
 have n4:qAQ v4=some F.B.length:=by rw [L1.B.len,List.length_map]
 have n5:qAQ v5=some F.S.length:=L1.S.len
 have n6:qAQ v6=some F.H.length:=by rw [L1.H.len,List.length_map]
 have n7:qAQ v7=some F.G.length:=by rw [L1.G.len,List.length_map]
 have yes:K (.bool true) s1:=hK true s1 k1 λh=>by cases h
 simp only [qAB,zA,qAA,qAJ h1,csG2,n2,qAg]
 cases a0:decide ((40:Int) < (F.L.length:Int)) with
 | true=>
   simp only [qAK,qH8,qGV,qFC,qES,qET,qAO,qAA]
   exact yes
 | false=>
 simp only [qAF,qAA,csG3,n3]
 cases a1:decide ((40:Int) < (F.T.length:Int)) with
 | true=>
   simp only [qAK,qH8,qGV,qFC,qES,qET,qAO,qAI,qAA]
   exact yes
 | false=>
 simp only [qH8,qAI,qAF,qAB,zA,qAA,qAJ h1,csG4,n4,qAg]
 cases a2:decide ((40:Int) < (F.B.length:Int)) with
 | true=>
   simp only [qAK,qGV,qFC,qES,qET,qAO,qAI,qAA]
   exact yes
 | false=>
 simp only [qGV,qAI,qAF,qAB,zA,qAA,qAJ h1,csG5,n5,qAg]
 cases a3:decide ((40:Int) < (F.S.length:Int)) with
 | true=>
   simp only [qAK,qFC,qES,qET,qAO,qAI,qAA]
   exact yes
 | false=>
 simp only [qFC,qAI,qAF,qAB,zA,qAA,qAJ h1,csG6,n6,qAg]
 cases a4:decide ((40:Int) < (F.H.length:Int)) with
 | true=>
   simp only [qAK,qES,qET,qAO,qAI,qAA]
   exact yes
 | false=>
 simp only [qES,qAI,qAF,qAB,zA,qAA,qAJ h1,csG7,n7,qAg,qET]
 refine qAG (λ_=>yes) (λa5=>?_)
 refine ⟨λys t m=>∃ k:Nat,ys=[.int .i64 (k:Int)]∧t=s1∧k≤F.S.length∧m=F.S.length - k∧∀ x∈F.S.take k,x.1.length≤20∧x.2.length≤20,⟨_,0,rfl,rfl,by omega,rfl,by simp⟩,?_⟩
 rintro en t m ⟨k,hy,rfl,hki,rfl,hno⟩
 simp only [cI,and_true] at hy
 rw [hy]
 simp only [qP0,qAB,zA,qAJ h1,csG5,n5,qAP,qAA]
 refine qAG (λhlt=>?_) (λhge=>?_)
 ·have hlt:k < F.S.length:=by have:=oT hlt;omega
  have hx:F.S[k]?=some F.S[k]:=gE hlt
  obtain ⟨pb,po,l1,l2,e1,_,e3,e4,g1,g2⟩:=L1.S.at hx
  have m1:qAQ l1=some F.S[k].1.length:=by rw [g1.len,qCG]
  have m2:qAQ l2=some F.S[k].2.length:=by rw [g2.len,qCG]
  simp only [qAB,Nat.add_zero,qAA,e1,e3,m1,qAg]
  cases q:decide ((20:Int) < (F.S[k].1.length:Int)) with
  | true=>
    simp only [qAK,qKK,qAO,qAA]
    exact yes
  | false=>
  simp only [qAF,qAA,e4,m2,qKK,qAI]
  refine qAG (λ_=>yes) (λq2=>?_)
  simp only [qAT,qAA]
  rw [qAX (by omega) (by omega)]
  refine ⟨_,by omega,k+1,rfl,(by trivial),by omega,rfl,qLI hlt hno ?_⟩
  have:=oF q
  have:=oF q2
  omega
 ·have hge:k=F.S.length:=by have:=oF hge;omega
  subst hge
  rw [List.take_length] at hno
  have:=oF a0
  have:=oF a1
  have:=oF a2
  have:=oF a3
  have:=oF a4
  have:=oF a5
  exact hK false _ k1 λ_=>⟨by omega,by omega,by omega,by omega,by omega,by omega,hno⟩
theorem zACt (hR:SG.Rts s v R) (hK:∀ b,(b=false→R.length≤60∧∀ r∈R,r.path.length≤20∧r.cl.length≤20∧r.cm.length≤20)→K (.bool b) s):wC Tryz.prog XX 31 [v] K s:=by
 refine qNF ?_
 unfold qLU
 have yes:K (.bool true) s:=hK true λh=>by cases h
 simp only [hR.len,qAA,qAg]
 refine qAG (λ_=>yes) (λa0=>?_)
 have a0:=oF a0
 refine ⟨λys t m=>∃ k:Nat,ys=[.int .i64 (k:Int)]∧t=s∧k≤R.length∧m=R.length - k∧∀ r∈R.take k,r.path.length≤20∧r.cl.length≤20∧r.cm.length≤20,⟨_,0,rfl,rfl,by omega,rfl,by simp⟩,?_⟩
 rintro en t m ⟨k,hy,rfl,hki,rfl,hno⟩
 simp only [cI,and_true] at hy
 rw [hy]
 simp only [qJA,hR.len,qAP,qAA]
 refine qAG (λhlt=>?_) (λhge=>?_)
 ·have hlt:k < R.length:=by have:=oT hlt;omega
  have hr:R[k]?=some R[k]:=gE hlt
  obtain ⟨b,o,p,q,m,e1,_,e3,e4⟩:=hR.get hr
  have np:qAQ p=some R[k].path.length:=by rw [e4.pa.len];unfold SG.us;rw [List.length_map]
  have nq:qAQ q=some R[k].cl.length:=by rw [e4.cl.len];unfold SG.us;rw [List.length_map]
  have nm:qAQ m=some R[k].cm.length:=by rw [e4.cm.len,List.length_map]
  have rp:rd1 t (.ptr b (o+22))=some p:=e3 22 (by omega)
  have rq:rd1 t (.ptr b (o+30))=some q:=e3 30 (by omega)
  have rm:rd1 t (.ptr b (o+31))=some m:=e3 31 (by omega)
  simp only [e1,qAB,Nat.add_assoc,Nat.reduceAdd,rp,np,qAA,qAg]
  cases q1:decide ((20:Int) < (R[k].path.length:Int)) with
  | true=>
    simp only [qAK,qDJ,qDH,qAO,qAA]
    exact yes
  | false=>
  simp only [qAF,rq,nq,qAA]
  cases q2:decide ((20:Int) < (R[k].cl.length:Int)) with
  | true=>
    simp only [qAK,qDJ,qDH,qAO,qAI,qAA]
    exact yes
  | false=>
  simp only [qDJ,qAI,qAF,e1,qAB,Nat.add_assoc,Nat.reduceAdd,rm,nm,qAA,qAg,qDH]
  refine qAG (λ_=>yes) (λq3=>?_)
  simp only [qAT,qAA]
  rw [qAX (by omega) (by omega)]
  refine ⟨_,by omega,k+1,rfl,(by trivial),by omega,rfl,qLI hlt hno ?_⟩
  have:=oF q1
  have:=oF q2
  have:=oF q3
  omega
 ·have hge:k=R.length:=by have:=oF hge;omega
  subst hge
  rw [List.take_length] at hno
  exact hK false λ_=>⟨by omega,hno⟩
end Go.AM.FW
set_option maxRecDepth 100000
namespace Go.AM.FW
open Go Go.Proofs Go.AM.TN
variable {K : AV → Hq → Prop} {s s' s0 : Hq} {v w : AV} {cs : List AV} {F : FG} {R : List SG.Rt} {S : List (List Int × List Int)} {i : Nat} {x : List Int × List Int} {v2 v3 v4 v5 v6 v7 : AV} {e : SG.Es} {bd ip : Int} {L : List Fw}
theorem zAEy (h:SgG s v S):SgG (AM.frz s) v S:=by
 obtain ⟨vs,h1,h2,h3⟩:=h
 exact ⟨vs,h1.frz,h2,λi q x a c=>⟨(h3 i q x a c).1.frz,(h3 i q x a c).2.frz⟩⟩
theorem zAGb (h:FL s F v2 v3 v4 v5 v6 v7):FL (AM.frz s) F v2 v3 v4 v5 v6 v7:=⟨h.L.frz,h.T.frz,h.B.frz,zAEy h.S,h.H.frz,h.G.frz⟩
theorem zAFz (h:FabR s cs F):FabR (AM.frz s) cs F:=by
 obtain ⟨v2,v3,v4,v5,v6,v7,e,h⟩:=h
 exact ⟨v2,v3,v4,v5,v6,v7,e,zAGb h⟩
theorem zAGa (h:SG.GlK s):SG.GlK (AM.frz s):=by
 obtain ⟨t,h⟩:=h
 exact ⟨true,by unfold AM.frz;rw [h]⟩
theorem zAET (h:SG.Rts s v R):SG.Rts (AM.frz s) v R:=by
 obtain ⟨rows,h1,h2,h3⟩:=h
 exact ⟨rows,h1.frz,h2,λi r hi=>by
  obtain ⟨p,q,m,a,b⟩:=h3 i r hi
  exact ⟨p,q,m,a,b.pa.frz,b.cl.frz,b.cm.frz⟩⟩
theorem qZ0 (h:SG.GlK s) (hK:K (.bool true) s):wC Tryz.prog XX 17 [] K s:=by
 obtain ⟨t,h⟩:=h
 exact qTd rfl rfl (by decide) h hK
theorem qZy {l:List Fw} (h:SlR 12 s v (l.map fwR)) (h':SlR 12 s w (l.map fwR)) (hl:l.length≤100000) (hK:K (.bool true) s):wC Tryz.prog XX 18 [v,w] K s:=by
 refine qHW ?_
 simp only [qE1,h.len,h'.len,List.length_map,qAa,beq_self_eq_true,qAW,Bool.true_bne,Bool.not_true,qAF,qAA]
 refine ⟨λys t m=>∃ i:Nat,ys=[.int .i64 (i:Int)]∧t=s∧i≤l.length∧m=l.length - i,⟨_,0,rfl,rfl,by omega,rfl⟩,?_⟩
 rintro e t m ⟨i,hy,rfl,hi,rfl⟩
 simp only [cI,and_true] at hy
 rw [hy]
 simp only [qD3,h.len,List.length_map,qAP,qAA]
 refine qAG (λhlt=>?_) (λ_=>hK)
 have hlt:i < l.length:=by have:=oT hlt;omega
 obtain ⟨a,o,e1,e2,_⟩:=h.get (i:=i) (r:=fwR l[i]) (by simp [hlt])
 obtain ⟨b,o',e3,e4,_⟩:=h'.get (i:=i) (r:=fwR l[i]) (by simp [hlt])
 have hq:∀ c:Fw,qFb Tryz.prog 56 (.agg (fwR c)) (.agg (fwR c))=some true:=λc=>by
  rw [show fwR c=fwX (esN c.1) c.2.1 c.2.2 from rfl,zACi,qU9]
 simp only [e1,e2,e3,e4,hq,qAW,Bool.true_bne,Bool.not_true,qAF,qAT,qAA]
 rw [qAX (by omega) (by omega)]
 exact ⟨_,by omega,i+1,rfl,(by trivial),by omega,rfl⟩
noncomputable def fwA (F:FG) (R:List SG.Rt):List Fw:=by
 classical
 exact if Valid F then fwL F.S R F.S.length else []
theorem zADN (h:Valid F):fwA F R=fwL F.S R F.S.length:=by unfold fwA;rw [if_pos h]
theorem zADY (h:¬ Valid F):fwA F R=[]:=by unfold fwA;rw [if_neg h]
theorem zADP:(fwA F R).length≤2048:=by
 by_cases hv:Valid F
 ·rw [zADN hv]
  have hok5:SegOk F:=hv 5 (by omega)
  have hdm:DomOk F:=hv 4 (by omega)
  have hS64:=hok5.n
  have:=qQq (R:=R) (S:=F.S) (λx hx=>by
   have row:=hok5.row x hx
   have:=hdm.n
   rcases qTm row.2.2.2 row.2.1.2 with h | h
   ·omega
   ·exact absurd h row.1.2) F.S.length
  omega
 ·rw [zADY hv];simp
theorem zABt {s:Hq}:SlR 12 s .nilslc (([]:List Fw).map fwR):=⟨by simp,.inl ⟨rfl,rfl⟩⟩
theorem zAEi (z:Sz F) (hF:FabR s cs F) (hR:SG.Rts s v R) (hG:SG.GlK s) (hok:∀ r∈R,r.ok) (hl:R.length≤100) (hK:∀ v' s',Sub s s'→SlR 12 s' v' ((fwA F R).map fwR)→K v' s'):wC Tryz.prog XX 19 [.agg cs,v] K s:=
 qRU z hF hR hG hok hl (λhv s' k=>hK _ _ k (by rw [zADY hv];exact zABt)) λhv v' s' k h=>hK _ _ k (by rw [zADN hv];exact h)
theorem zAEI (z:Sz F) (hF:FabR s cs F) (hR:SG.Rts s v R) (hok:∀ r∈R,r.ok) (hip:∀ r∈R,0≤r.nx∧r.nx < 4294967296) (hl:R.length≤100) (hK:∀ v' s',Sub s s'→SlR 12 s' v' ((fwA F R).map fwR)→K v' s'):wC Tryz.prog XX 32 [.agg cs,v] K s:=
 qPL z hF hR hok hip hl (λhv s' k=>hK _ _ k (by rw [zADY hv];exact zABt)) λhv v' s' k h=>hK _ _ k (by rw [zADN hv];exact h)
theorem zAE6 (hS:F.S.length≤9223372036854775807) (hI:∀ x∈F.H,0≤x.2.1∧x.2.1 < 4294967296) (hF:FabR s cs F) (hR:SG.Rts s v R) (hcm:∀ r∈R,∀ c∈r.cm,SG.Cm.ok c) (hip:∀ r∈R,0≤r.nx∧r.nx < 4294967296) (hG:SG.GlK s) (hK:∀ s',K (.bool true) s'):wC Tryz.prog XX 7 [.agg cs,v,.agg (fwX e bd ip)] K s:=by
 obtain ⟨v2,v3,v4,v5,v6,v7,rfl,hL⟩:=hF
 refine qIu ⟨hL.all,qAL λb0 s1 hb0 h1 u1=>⟨rfl,qAL λb2 s3 hb2 h3 u3=>?_⟩⟩
 have h1:s1 b0=some (false,.cells 68 (csG F v2 v3 v4 v5 v6 v7)):=h1
 have h3:s3 b2=some (false,.cells 56 (fwX e bd ip)):=h3
 have k3:=u3.sub hb2
 have q3:=(u1.sub hb0).trans k3
 have h13:=k3 _ _ h1
 refine qAH (qAY h13 rfl) (zADd hS ⟨v2,v3,v4,v5,v6,v7,rfl,hL.sub q3⟩ λb s80 k80 hb=>?_)
 have q80:=q3.trans k80
 have aw:∀ {t:Hq},Sub s t→wC Tryz.prog XX 17 [] (λv_82 s_83=>K v_82 s_83) t:=λk=>qZ0 (hG.sub k) (hK _)
 cases b with
 | true=>
   simp only [qAK,qBc,qAO,qAA]
   exact aw q80
 | false=>
 have sm:=hb rfl
 simp only [qAF]
 refine zACt (hR.sub q80) λb hb=>?_
 cases b with
 | true=>
   simp only [qAK,qBc,qAI,qAA]
   exact aw q80
 | false=>
 obtain ⟨h60,hlen⟩:=hb rfl
 have z:Sz F:=by
  have:=sm.L;have:=sm.T;have:=sm.B;have:=sm.S;have:=sm.H;have:=sm.G
  exact ⟨by omega,by omega,by omega,by omega,by omega,by omega,λx hx=>by have:=sm.N x hx;omega,hI⟩
 have hok:∀ r∈R,r.ok:=λr hr=>⟨hcm r hr,hlen r hr⟩
 simp only [qAF,qBc,qAI,qAA,qB9]
 have h180:=k80 _ _ h13
 have h280:=k80 _ _ h3
 have F80:FabR s80 (csG F v2 v3 v4 v5 v6 v7) F:=⟨v2,v3,v4,v5,v6,v7,rfl,hL.sub q80⟩
 refine qAH (qAY h180 rfl) (zAEi z (zAFz F80) (zAET (hR.sub q80)) (zAGa (hG.sub q80)) hok (by omega) λvA sA kA hA=>?_)
 intro _
 have kT:Sub s80 (add s80 sA):=qDQ
 refine qAH (qAY (EL.qQv (.refl _) _ _ h180) rfl) ?_
 have hA2:=SG.SlR.addf hA kA
 generalize add s80 sA=T at kT hA2 ⊢
 have qT:=q80.trans kT
 refine zAEI z (F80.sub kT) (hR.sub qT) hok hip (by omega) λvB sB kB hB=>?_
 have hAB:=hA2.sub kB
 have hlen2:(fwA F R).length≤2048:=zADP
 generalize hLs:fwA F R=L at hAB hB hlen2
 refine qZy hAB hB (by omega) ?_
 have h2B:=kB _ _ (kT _ _ h280)
 have qB:=qT.trans kB
 have row:∀ {t:Hq},t b2=some (false,.cells 56 (fwX e bd ip))→rdN t 10 (.ptr b2 0)=some e.R∧rd1 t (.ptr b2 10)=some (.int .i64 bd)∧rd1 t (.ptr b2 11)=some (.int .u32 ip):=fun {t} h=>⟨qT5 (n:=12) (j:=0) (k:=10) (qAY h rfl) (by omega),by rw [qAJ h];rfl,by rw [qAJ h];rfl⟩
 have loop:∀ {t:Hq},Sub sB t→qBB XX vA vB K t:=fun {t0} kt0=>by
  unfold qBB
  refine ⟨λys t m=>∃ k:Nat,ys=[.int .i64 (k:Int)]∧Sub sB t∧k≤L.length∧m=L.length - k,⟨_,0,rfl,kt0,by omega,rfl⟩,?_⟩
  rintro en t m ⟨k,hy,kt,hki,rfl⟩
  simp only [cI,and_true] at hy
  rw [hy]
  have hAt:=hAB.sub kt
  have hBt:=hB.sub kt
  simp only [qEn,hBt.len,List.length_map,qAP,qAA]
  refine qAG (λhlt=>?_) (λ_=>?_)
  ·have hlt:k < L.length:=by have:=oT hlt;omega
   have hp:L[k]?=some L[k]:=gE hlt
   have hpm:L[k]∈L:=List.getElem_mem hlt
   generalize L[k]=p at hp hpm
   have cell:∀ {t:Hq},Sub sB t→∃ b o,qAS 12 vB (.int .i64 (k:Int))=some (.ptr b o)∧rdN t 10 (.ptr b o)=some (esN p.1).R∧rd1 t (.ptr b (o+10))=some (.int .i64 p.2.1)∧rd1 t (.ptr b (o+11))=some (.int .u32 p.2.2):=fun {t} k=>by
    obtain ⟨b,o,a1,a2,a3⟩:=(hB.sub k).get (i:=‹Nat›) (r:=fwR p) (by rw [List.getElem?_map,hp];rfl)
    exact ⟨b,o,a1,qT5 (j:=0) (k:=10) a2 (by omega),a3 10 (by omega),a3 11 (by omega)⟩
   obtain ⟨b,o,a1,a2,a3,a4⟩:=cell kt
   simp only [a1,qAB,Nat.add_zero,a2,a3,a4,qAA]
   refine zAEJ hAt (by omega) λs25 k25=>?_
   rw [zACr hpm]
   have kt25:=kt.trans k25
   obtain ⟨b',o',c1,c2,c3,c4⟩:=cell kt25
   rw [a1] at c1
   cases c1
   simp only [qAb,Bool.not_true,qAA,qAF,c2,c3,c4,qAT]
   refine zAEJ (hAB.sub kt25).frz (by omega) λs40 k40=>?_
   intro _
   have kT2:Sub s25 (add s25 s40):=qDQ
   obtain ⟨b',o',c1,c2,c3,c4⟩:=cell (kt25.trans (EL.qQv (s2:=s40) (.refl s25)))
   rw [a1] at c1
   cases c1
   simp only [c2,c3,c4,qAT,qAA]
   generalize add s25 s40=T2 at kT2
   refine zABs ((hB.sub kt25).sub kT2) (by omega) λs52 k52=>?_
   simp only [qVT,qAW,beq_self_eq_true,Bool.true_bne,Bool.not_true,qAA,qAI,qAF]
   rw [qAX (by omega) (by omega)]
   exact ⟨_,by omega,k+1,rfl,kt25.trans (kT2.trans k52),by omega,rfl⟩
  ·unfold qB7
   exact aw (qB.trans kt)
 obtain ⟨r1,r2,r3⟩:=row h2B
 simp only [qAb,Bool.not_true,qAA,qAF,qAB,zA,r1,r2,r3]
 refine zAEJ hAB.frz (by omega) λs67 k67=>?_
 intro _
 have kT2:Sub sB (add sB s67):=qDQ
 obtain ⟨r1,r2,r3⟩:=row (EL.qQv (s2:=s67) (.refl sB) _ _ h2B)
 simp only [r1,r2,r3,qAA]
 generalize add sB s67=T2 at kT2
 refine zABs (hB.sub kT2) (by omega) λs75 k75=>?_
 simp only [qVT,qAW,beq_self_eq_true,Bool.true_bne,Bool.not_true,qAA,qAI,qAF]
 exact loop (kT2.trans k75)
end Go.AM.FW
set_option maxRecDepth 100000
namespace Go.AM.FW
open Go Go.Proofs Go.AM.TN
variable {s : Hq} {v : AV}
theorem zAFx {xs:List AV} (h:Inp Tryz.prog s 38 110 xs):∃ x:RLk,xs=lkC x:=by
 have hl:=qHg (by kernel_rfl:qBk Tryz.prog 110=some true) h
 rw [show Tryz.prog.cellsOf 110=3 by kernel_rfl] at hl
 obtain ⟨n0,h0,w0⟩:=SG.qAi (j:=0) (k:=.i64) h (by kernel_rfl)
 obtain ⟨n1,h1,w1⟩:=SG.qAi (j:=1) (k:=.i64) h (by kernel_rfl)
 obtain ⟨n2,h2,w2⟩:=SG.qAi (j:=2) (k:=.i64) h (by kernel_rfl)
 refine ⟨(n0,n1,n2),SG.qHj hl λj hj=>?_⟩
 match j,hj with
 | 0,_=>exact h0
 | 1,_=>exact h1
 | 2,_=>exact h2
theorem zAFf {xs:List AV} (h:Inp Tryz.prog s 38 112 xs):∃ x:Int × Int,xs=tgC x:=by
 have hl:=qHg (by kernel_rfl:qBk Tryz.prog 112=some true) h
 rw [show Tryz.prog.cellsOf 112=2 by kernel_rfl] at hl
 obtain ⟨n0,h0,w0⟩:=SG.qAi (j:=0) (k:=.u32) h (by kernel_rfl)
 obtain ⟨n1,h1,w1⟩:=SG.qAi (j:=1) (k:=.u32) h (by kernel_rfl)
 refine ⟨(n0,n1),SG.qHj hl λj hj=>?_⟩
 match j,hj with
 | 0,_=>exact h0
 | 1,_=>exact h1
theorem zAFa {xs:List AV} (h:Inp Tryz.prog s 38 114 xs):∃ x:BG,xs=bgC x:=by
 have hl:=qHg (by kernel_rfl:qBk Tryz.prog 114=some true) h
 rw [show Tryz.prog.cellsOf 114=6 by kernel_rfl] at hl
 obtain ⟨n0,h0,w0⟩:=SG.qAi (j:=0) (k:=.i64) h (by kernel_rfl)
 obtain ⟨n1,h1,w1⟩:=SG.qAi (j:=1) (k:=.u32) h (by kernel_rfl)
 obtain ⟨n2,h2,w2⟩:=SG.qAi (j:=2) (k:=.u32) h (by kernel_rfl)
 obtain ⟨n3,h3,w3⟩:=SG.qAi (j:=3) (k:=.u32) h (by kernel_rfl)
 obtain ⟨n4,h4,w4⟩:=SG.qAi (j:=4) (k:=.i64) h (by kernel_rfl)
 obtain ⟨n5,h5,w5⟩:=SG.qAi (j:=5) (k:=.u32) h (by kernel_rfl)
 refine ⟨(n0,n1,n2,n3,n4,n5),SG.qHj hl λj hj=>?_⟩
 match j,hj with
 | 0,_=>exact h0
 | 1,_=>exact h1
 | 2,_=>exact h2
 | 3,_=>exact h3
 | 4,_=>exact h4
 | 5,_=>exact h5
theorem zAEr {xs:List AV} (h:Inp Tryz.prog s 38 136 xs):∃ x:R4,xs=hgC x∧0≤x.2.1∧x.2.1 < 4294967296:=by
 have hl:=qHg (by kernel_rfl:qBk Tryz.prog 136=some true) h
 rw [show Tryz.prog.cellsOf 136=4 by kernel_rfl] at hl
 obtain ⟨n0,h0,w0⟩:=SG.qAi (j:=0) (k:=.u64) h (by kernel_rfl)
 obtain ⟨n1,h1,w1⟩:=SG.qAi (j:=1) (k:=.u32) h (by kernel_rfl)
 obtain ⟨n2,h2,w2⟩:=SG.qAi (j:=2) (k:=.i64) h (by kernel_rfl)
 obtain ⟨n3,h3,w3⟩:=SG.qAi (j:=3) (k:=.i64) h (by kernel_rfl)
 refine ⟨(n0,n1,n2,n3),SG.qHj hl λj hj=>?_,SG.wf32 w1⟩
 match j,hj with
 | 0,_=>exact h0
 | 1,_=>exact h1
 | 2,_=>exact h2
 | 3,_=>exact h3
theorem zAEe {xs:List AV} (h:Inp Tryz.prog s 38 140 xs):∃ x:R4,xs=ggC x:=by
 have hl:=qHg (by kernel_rfl:qBk Tryz.prog 140=some true) h
 rw [show Tryz.prog.cellsOf 140=4 by kernel_rfl] at hl
 obtain ⟨n0,h0,w0⟩:=SG.qAi (j:=0) (k:=.i64) h (by kernel_rfl)
 obtain ⟨n1,h1,w1⟩:=SG.qAi (j:=1) (k:=.i64) h (by kernel_rfl)
 obtain ⟨n2,h2,w2⟩:=SG.qAi (j:=2) (k:=.u32) h (by kernel_rfl)
 obtain ⟨n3,h3,w3⟩:=SG.qAi (j:=3) (k:=.i64) h (by kernel_rfl)
 refine ⟨(n0,n1,n2,n3),SG.qHj hl λj hj=>?_⟩
 match j,hj with
 | 0,_=>exact h0
 | 1,_=>exact h1
 | 2,_=>exact h2
 | 3,_=>exact h3
theorem zAFv {xs:List AV} (h:Inp Tryz.prog s 38 93 xs):∃ a:(AV × AV) × (List Int × List Int),xs=[a.1.1,a.1.2]∧Sl s a.1.1 (ix a.2.1)∧Sl s a.1.2 (ix a.2.2):=by
 have hl:=qHg (by kernel_rfl:qBk Tryz.prog 93=some true) h
 rw [show Tryz.prog.cellsOf 93=2 by kernel_rfl] at hl
 obtain ⟨n0,h0,w0⟩:=SG.qJl (j:=0) (d':=37) (t':=70) h (by kernel_rfl)
 obtain ⟨n1,h1,w1⟩:=SG.qJl (j:=1) (d':=37) (t':=70) h (by kernel_rfl)
 have key:∀ {x:AV},Inp Tryz.prog s 37 70 [x]→∃ l:List Int,Sl s x (ix l):=λw=>by
  obtain ⟨l,h,_⟩:=qNp (d:=36) Tryz.underlying70 (by kernel_rfl) (AV.int .i64) (λ_=>True) (λxs h=>by obtain ⟨n,e,_⟩:=qTf Tryz.underlying3 h;exact ⟨n,e,trivial⟩) (SG.qD6 Tryz.underlying70 w)
  exact ⟨l,h⟩
 obtain ⟨l0,q0⟩:=key w0
 obtain ⟨l1,q1⟩:=key w1
 refine ⟨((n0,n1),(l0,l1)),SG.qHj hl λj hj=>?_,q0,q1⟩
 match j,hj with
 | 0,_=>exact h0
 | 1,_=>exact h1
theorem zAEE {xs:List AV} (h:Inp Tryz.prog s 40 68 xs):∃ F:FG,FabR s xs F∧F.S.length≤9223372036854775807∧∀ x∈F.H,0≤x.2.1∧x.2.1 < 4294967296:=by
 have hl:=qHg (by kernel_rfl:qBk Tryz.prog 68=some true) h
 rw [show Tryz.prog.cellsOf 68=19 by kernel_rfl] at hl
 obtain ⟨n0,h0,w0⟩:=SG.qAi (j:=0) (k:=.i64) h (by kernel_rfl)
 obtain ⟨n1,h1,w1⟩:=SG.qAi (j:=1) (k:=.i64) h (by kernel_rfl)
 obtain ⟨n2,h2,w2⟩:=SG.qJl (j:=2) (d':=39) (t':=59) h (by kernel_rfl)
 obtain ⟨n3,h3,w3⟩:=SG.qJl (j:=3) (d':=39) (t':=60) h (by kernel_rfl)
 obtain ⟨n4,h4,w4⟩:=SG.qJl (j:=4) (d':=39) (t':=61) h (by kernel_rfl)
 obtain ⟨n5,h5,w5⟩:=SG.qJl (j:=5) (d':=39) (t':=62) h (by kernel_rfl)
 obtain ⟨n6,h6,w6⟩:=SG.qJl (j:=6) (d':=39) (t':=63) h (by kernel_rfl)
 obtain ⟨n7,h7,w7⟩:=SG.qJl (j:=7) (d':=39) (t':=64) h (by kernel_rfl)
 obtain ⟨n8,h8,w8⟩:=SG.qAi (j:=8) (k:=.i64) h (by kernel_rfl)
 obtain ⟨n9,h9,w9⟩:=SG.qAi (j:=9) (k:=.i64) h (by kernel_rfl)
 obtain ⟨n10,h10,w10⟩:=SG.qAi (j:=10) (k:=.i64) h (by kernel_rfl)
 obtain ⟨n11,h11⟩:=SG.qNx (j:=11) h (by kernel_rfl)
 obtain ⟨n12,h12⟩:=SG.qNx (j:=12) h (by kernel_rfl)
 obtain ⟨n13,h13,w13⟩:=SG.qAi (j:=13) (k:=.i64) h (by kernel_rfl)
 obtain ⟨n14,h14,w14⟩:=SG.qAi (j:=14) (k:=.i64) h (by kernel_rfl)
 obtain ⟨n15,h15,w15⟩:=SG.qAi (j:=15) (k:=.i64) h (by kernel_rfl)
 obtain ⟨n16,h16,w16⟩:=SG.qAi (j:=16) (k:=.i64) h (by kernel_rfl)
 obtain ⟨n17,h17,w17⟩:=SG.qAi (j:=17) (k:=.i64) h (by kernel_rfl)
 obtain ⟨n18,h18,w18⟩:=SG.qAi (j:=18) (k:=.i64) h (by kernel_rfl)
 obtain ⟨lL,qL,_⟩:=argR (d:=38) Tryz.underlying59 lkC (λ_=>True) (λa=>by rw [show Tryz.prog.cellsOf 110=3 by kernel_rfl];rfl) (λxs h=>by obtain ⟨x,e⟩:=zAFx h;exact ⟨x,e,trivial⟩) (SG.qD6 Tryz.underlying59 w2)
 obtain ⟨lT,qT,_⟩:=argR (d:=38) Tryz.underlying60 tgC (λ_=>True) (λa=>by rw [show Tryz.prog.cellsOf 112=2 by kernel_rfl];rfl) (λxs h=>by obtain ⟨x,e⟩:=zAFf h;exact ⟨x,e,trivial⟩) (SG.qD6 Tryz.underlying60 w3)
 obtain ⟨lB,qB,_⟩:=argR (d:=38) Tryz.underlying61 bgC (λ_=>True) (λa=>by rw [show Tryz.prog.cellsOf 114=6 by kernel_rfl];rfl) (λxs h=>by obtain ⟨x,e⟩:=zAFa h;exact ⟨x,e,trivial⟩) (SG.qD6 Tryz.underlying61 w4)
 obtain ⟨lS,qS,oS,mS⟩:=argR (d:=38) Tryz.underlying62 (λa:(AV × AV) × (List Int × List Int)=>[a.1.1,a.1.2]) (λa=>Sl s a.1.1 (ix a.2.1)∧Sl s a.1.2 (ix a.2.2)) (λa=>by rw [show Tryz.prog.cellsOf 93=2 by kernel_rfl];rfl) (λxs h=>zAFv h) (SG.qD6 Tryz.underlying62 w5)
 obtain ⟨lH,qH,oH,_⟩:=argR (d:=38) Tryz.underlying63 hgC (λx:R4=>0≤x.2.1∧x.2.1 < 4294967296) (λa=>by rw [show Tryz.prog.cellsOf 136=4 by kernel_rfl];rfl) (λxs h=>zAEr h) (SG.qD6 Tryz.underlying63 w6)
 obtain ⟨lG,qG,_⟩:=argR (d:=38) Tryz.underlying64 ggC (λ_=>True) (λa=>by rw [show Tryz.prog.cellsOf 140=4 by kernel_rfl];rfl) (λxs h=>by obtain ⟨x,e⟩:=zAEe h;exact ⟨x,e,trivial⟩) (SG.qD6 Tryz.underlying64 w7)
 rw [show Tryz.prog.cellsOf 110=3 by kernel_rfl] at qL
 rw [show Tryz.prog.cellsOf 112=2 by kernel_rfl] at qT
 rw [show Tryz.prog.cellsOf 114=6 by kernel_rfl] at qB
 rw [show Tryz.prog.cellsOf 93=2 by kernel_rfl] at qS
 rw [show Tryz.prog.cellsOf 136=4 by kernel_rfl] at qH
 rw [show Tryz.prog.cellsOf 140=4 by kernel_rfl] at qG
 have sS:SgG s n5 (lS.map (·.2)):=⟨lS.map (·.1),by rw [List.map_map];exact qS,by simp,λi q x hq hx=>by
  rw [List.getElem?_map] at hq hx
  cases e:lS[i]? with
  | none=>rw [e] at hq;cases hq
  | some a=>
    rw [e] at hq hx
    cases hq
    cases hx
    exact oS a (List.mem_of_getElem? e)⟩
 refine ⟨⟨n0,n1,n8,n9,n10,n11,n12,n13,n14,n15,n16,n17,n18,lL,lT,lB,lS.map (·.2),lH,lG⟩,⟨n2,n3,n4,n5,n6,n7,SG.qHj hl λj hj=>?_,qL,qT,qB,sS,qH,qG⟩,?_,oH⟩
 ·match j,hj with
  | 0,_=>exact h0
  | 1,_=>exact h1
  | 2,_=>exact h2
  | 3,_=>exact h3
  | 4,_=>exact h4
  | 5,_=>exact h5
  | 6,_=>exact h6
  | 7,_=>exact h7
  | 8,_=>exact h8
  | 9,_=>exact h9
  | 10,_=>exact h10
  | 11,_=>exact h11
  | 12,_=>exact h12
  | 13,_=>exact h13
  | 14,_=>exact h14
  | 15,_=>exact h15
  | 16,_=>exact h16
  | 17,_=>exact h17
  | 18,_=>exact h18
  | j+19,q=>exact absurd q (by show ¬ j+19 < 19;omega)
 ·show (lS.map (·.2)).length≤_
  rw [List.length_map]
  exact Nat.le_trans mS (by decide)
theorem zADM (h:Arg Tryz.prog s 40 68 v):∃ (cs:List AV) (F:FG),v=.agg cs∧FabR s cs F∧F.S.length≤9223372036854775807∧∀ x∈F.H,0≤x.2.1∧x.2.1 < 4294967296:=by
 obtain ⟨h1,h2,_⟩:=h
 obtain ⟨l,rfl,_⟩:=h2 (by kernel_rfl)
 rw [qHp] at h1
 obtain ⟨F,hF⟩:=zAEE h1
 exact ⟨l,F,rfl,hF⟩
theorem zAFe (h:Arg Tryz.prog s 40 56 v):∃ (e:SG.Es) (bd ip:Int),v=.agg (fwX e bd ip):=by
 obtain ⟨h1,h2,_⟩:=h
 obtain ⟨l,rfl,_⟩:=h2 (by kernel_rfl)
 rw [qHp] at h1
 have h:=h1
 have hl:=qHg (by kernel_rfl:qBk Tryz.prog 56=some true) h
 rw [show Tryz.prog.cellsOf 56=12 by kernel_rfl] at hl
 obtain ⟨n0,h0,w0⟩:=SG.qAi (j:=0) (k:=.u8) h (by kernel_rfl)
 obtain ⟨n1,h1,w1⟩:=SG.qAi (j:=1) (k:=.u8) h (by kernel_rfl)
 obtain ⟨n2,h2,w2⟩:=SG.qAi (j:=2) (k:=.u8) h (by kernel_rfl)
 obtain ⟨n3,h3,w3⟩:=SG.qAi (j:=3) (k:=.u8) h (by kernel_rfl)
 obtain ⟨n4,h4,w4⟩:=SG.qAi (j:=4) (k:=.u8) h (by kernel_rfl)
 obtain ⟨n5,h5,w5⟩:=SG.qAi (j:=5) (k:=.u8) h (by kernel_rfl)
 obtain ⟨n6,h6,w6⟩:=SG.qAi (j:=6) (k:=.u8) h (by kernel_rfl)
 obtain ⟨n7,h7,w7⟩:=SG.qAi (j:=7) (k:=.u8) h (by kernel_rfl)
 obtain ⟨n8,h8,w8⟩:=SG.qAi (j:=8) (k:=.u8) h (by kernel_rfl)
 obtain ⟨n9,h9,w9⟩:=SG.qAi (j:=9) (k:=.u8) h (by kernel_rfl)
 obtain ⟨n10,h10,w10⟩:=SG.qAi (j:=10) (k:=.i64) h (by kernel_rfl)
 obtain ⟨n11,h11,w11⟩:=SG.qAi (j:=11) (k:=.u32) h (by kernel_rfl)
 refine ⟨⟨n0,n1,n2,n3,n4,n5,n6,n7,n8,n9⟩,n10,n11,congrArg AV.agg (SG.qHj hl λj hj=>?_)⟩
 match j,hj with
 | 0,_=>exact h0
 | 1,_=>exact h1
 | 2,_=>exact h2
 | 3,_=>exact h3
 | 4,_=>exact h4
 | 5,_=>exact h5
 | 6,_=>exact h6
 | 7,_=>exact h7
 | 8,_=>exact h8
 | 9,_=>exact h9
 | 10,_=>exact h10
 | 11,_=>exact h11
 | j+12,q=>exact absurd q (by show ¬ j+12 < 12;omega)
end Go.AM.FW
namespace Go.AM
open Go Go.Proofs
theorem SFw_wp (s:Hq) (xs:List AV) (hg:s 0=some (true,.glob 0 (.agg kindsL))) (h:ArgL Tryz.prog s 40 [68,24,56] xs):wC Tryz.prog XX 7 xs (λv _=>v=.bool true) s:=by
 obtain ⟨a,b,c,rfl,h1,h2,h3⟩:=zAGF h
 obtain ⟨cs,F,rfl,hF,hS,hI⟩:=FW.zADM h1
 obtain ⟨R,hR,hr,_⟩:=SG.zAEC h2
 obtain ⟨e,bd,ip,rfl⟩:=FW.zAFe h3
 exact FW.zAE6 hS hI hF hR (λr q=>(hr r q).1) (λr q=>(hr r q).2) ⟨true,hg⟩ λ_=>rfl
end Go.AM
