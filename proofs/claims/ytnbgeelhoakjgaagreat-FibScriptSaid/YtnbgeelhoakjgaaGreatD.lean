/- Part D of a calculus over a small memory that is proved to answer as the program does, and of its use for the functions that the law reaches: see the last part. -/
import Derived.Test.YtnbgeelhoakjgaaGreatV
import Derived.Test.YtnbgeelhoakjgaaGreatU1
set_option linter.unusedVariables false
namespace Go.AM.WH
open Go Go.Proofs
abbrev Shr:=Int × Int
def key (x:Shr):Int:=x.2 * 1000+x.1
def at0 (q:List Shr) (j:Nat):Shr:=q.getD j (0,0)
def ky (q:List Shr) (j:Nat):Int:=key (at0 q j)
def swp (q:List Shr) (i j:Nat):List Shr:=(q.set i (at0 q j)).set j (at0 q i)
theorem qD3 (q:List Shr) (i j:Nat):(swp q i j).length=q.length:=by simp [swp]
theorem qBe {q:List Shr} {j:Nat} (h:j < q.length):at0 q j=q[j]:=by simp [at0,h]
theorem qGP {q:List Shr} {i j:Nat} {x:Shr} (hi:i < q.length):at0 (q.set i x) j=if j=i then x else at0 q j:=by
 unfold at0
 rw [List.getD_eq_getElem?_getD,List.getElem?_set,List.getD_eq_getElem?_getD]
 by_cases e:i=j
 ·subst e;simp [hi]
 ·rw [if_neg e,if_neg (Ne.symm e)]
theorem qO0 {q:List Shr} {i j m:Nat} (hi:i < q.length) (hj:j < q.length):at0 (swp q i j) m=if m=j then at0 q i else if m=i then at0 q j else at0 q m:=by
 unfold swp
 rw [qGP (by simpa using hj),qGP hi]
theorem qEu {q:List Shr} {i j m:Nat} (hi:i < q.length) (hj:j < q.length):ky (swp q i j) m=if m=j then ky q i else if m=i then ky q j else ky q m:=by
 unfold ky
 rw [qO0 hi hj]
 split
 ·rfl
 ·split <;> rfl
theorem qIM:∀ {q:List Shr} {i:Nat} {x:Shr} (h:i < q.length),(q[i] :: q.set i x).Perm (x :: q)
 | y :: q,0,x,_=>List.Perm.swap x y q
 | y :: q,i+1,x,h=>by
   have hi:i < q.length:=by simpa using h
   have ih:=qIM (q:=q) (i:=i) (x:=x) hi
   show (q[i] :: y :: q.set i x).Perm (x :: y :: q)
   exact (List.Perm.swap _ _ _).trans ((ih.cons y).trans (List.Perm.swap _ _ _))
theorem qH1 {q:List Shr} {i j:Nat} (hi:i < q.length) (hj:j < q.length):(swp q i j).Perm q:=by
 by_cases e:i=j
 ·subst e
  unfold swp
  rw [qBe hi,List.set_set,List.set_getElem_self]
 ·have h1:=qIM (q:=q) (i:=i) (x:=at0 q j) hi
  have hj':j < (q.set i (at0 q j)).length:=by simpa using hj
  have h2:=qIM (q:=q.set i (at0 q j)) (i:=j) (x:=at0 q i) hj'
  have e1:(q.set i (at0 q j))[j]=at0 q j:=by
   rw [List.getElem_set_ne e]
   exact (qBe hj).symm
  rw [e1] at h2
  rw [← qBe hi] at h1
  have h3:(at0 q j :: swp q i j).Perm (at0 q j :: q):=h2.trans h1
  exact h3.cons_inv
def Hp (q:List Shr) (k:Nat):Prop:=∀ j,0 < j→j < q.length→k≤(j - 1) / 2→ky q ((j - 1) / 2)≤ky q j
structure Dn (q:List Shr) (i0 i:Nat):Prop where
 ok:∀ j,0 < j→j < q.length→i0≤(j - 1) / 2→(j - 1) / 2≠i→ky q ((j - 1) / 2)≤ky q j
 gr:i≠i0→∀ j,0 < j→j < q.length→(j - 1) / 2=i→ky q ((i - 1) / 2)≤ky q j
 le:i0≤i
 pr:i≠i0→i0≤(i - 1) / 2
theorem Hp.dn {q:List Shr} {i0:Nat} (h:Hp q (i0+1)):Dn q i0 i0:=⟨λj h0 h1 h2 h3=>h j h0 h1 (by omega),λe=>absurd rfl e,Nat.le_refl _,λe=>absurd rfl e⟩
theorem Dn.done {q:List Shr} {i0 i:Nat} (h:Dn q i0 i) (hc:∀ j,0 < j→j < q.length→(j - 1) / 2=i→ky q i≤ky q j):Hp q i0:=λj h0 h1 h2=>by
 by_cases e:(j - 1) / 2=i
 ·rw [e];exact hc j h0 h1 e
 ·exact h.ok j h0 h1 h2 e
theorem Dn.swap {q:List Shr} {i0 i j:Nat} (h:Dn q i0 i) (hj:j < q.length) (hc:j=2 * i+1∨j=2 * i+2) (hlt:ky q j < ky q i) (hmin:∀ m,0 < m→m < q.length→(m - 1) / 2=i→ky q j≤ky q m):Dn (swp q i j) i0 j:=by
 have hi:i < q.length:=by omega
 have hle:=h.le
 refine ⟨λm h0 h1 h2 h3=>?_,λ_ m h0 h1 h2=>?_,by omega,λ_=>by omega⟩
 ·rw [qD3] at h1
  rw [qEu hi hj,qEu hi hj]
  by_cases e1:m=j
  ·rw [if_neg (show (m - 1) / 2≠j by omega),if_pos (show (m - 1) / 2=i by omega),if_pos e1]
   omega
  ·rw [if_neg h3,if_neg e1]
   by_cases e2:(m - 1) / 2=i
   ·rw [if_pos e2,if_neg (show m≠i by omega)]
    exact hmin m h0 h1 e2
   ·rw [if_neg e2]
    by_cases e3:m=i
    ·rw [if_pos e3]
     have hne:i≠i0:=by omega
     subst e3
     exact h.gr hne j (by omega) hj (by omega)
    ·rw [if_neg e3]
     exact h.ok m h0 h1 h2 e2
 ·rw [qD3] at h1
  rw [qEu hi hj,qEu hi hj]
  rw [if_neg (show (j - 1) / 2≠j by omega),if_pos (show (j - 1) / 2=i by omega),if_neg (show m≠j by omega),if_neg (show m≠i by omega)]
  have:=h.ok m h0 h1 (by omega) (by omega)
  rw [h2] at this
  exact this
structure Up (q:List Shr) (j:Nat):Prop where
 ok:∀ m,0 < m→m < q.length→m≠j→ky q ((m - 1) / 2)≤ky q m
 gr:0 < j→∀ m,0 < m→m < q.length→(m - 1) / 2=j→ky q ((j - 1) / 2)≤ky q m
theorem Up.done {q:List Shr} {j:Nat} (h:Up q j) (hc:0 < j→ky q ((j - 1) / 2)≤ky q j):Hp q 0:=λm h0 h1 _=>by
 by_cases e:m=j
 ·subst e;exact hc h0
 ·exact h.ok m h0 h1 e
theorem Up.swap {q:List Shr} {j:Nat} (h:Up q j) (hj:j < q.length) (h0:0 < j) (hlt:ky q j < ky q ((j - 1) / 2)):Up (swp q ((j - 1) / 2) j) ((j - 1) / 2):=by
 have hi:(j - 1) / 2 < q.length:=by omega
 refine ⟨λm m0 m1 m2=>?_,λi0 m m0 m1 m2=>?_⟩
 ·rw [qD3] at m1
  rw [qEu hi hj,qEu hi hj]
  by_cases e1:m=j
  ·rw [if_neg (show (m - 1) / 2≠j by omega),if_pos (show (m - 1) / 2=(j - 1) / 2 by rw [e1]),if_pos e1]
   omega
  ·rw [if_neg e1,if_neg m2]
   by_cases e2:(m - 1) / 2=j
   ·rw [if_pos e2]
    exact h.gr h0 m m0 m1 e2
   ·rw [if_neg e2]
    by_cases e3:(m - 1) / 2=(j - 1) / 2
    ·rw [if_pos e3]
     have:=h.ok m m0 m1 e1
     rw [e3] at this
     omega
    ·rw [if_neg e3]
     exact h.ok m m0 m1 e1
 ·rw [qD3] at m1
  rw [qEu hi hj,qEu hi hj]
  rw [if_neg (show ((j - 1) / 2 - 1) / 2≠j by omega),if_neg (show ((j - 1) / 2 - 1) / 2≠(j - 1) / 2 by omega)]
  have hp:=h.ok ((j - 1) / 2) i0 hi (by omega)
  by_cases e1:m=j
  ·rw [if_pos e1];exact hp
  ·rw [if_neg e1,if_neg (show m≠(j - 1) / 2 by omega)]
   have:=h.ok m m0 m1 e1
   rw [m2] at this
   omega
theorem Hp.root {q:List Shr} (h:Hp q 0):∀ j,j < q.length→ky q 0≤ky q j
 | 0,_=>Int.le_refl _
 | j+1,hj=>by
   have h1:=h (j+1) (by omega) hj (by omega)
   have h2:=Hp.root h ((j+1 - 1) / 2) (by omega)
   omega
theorem Hp.leaf {q:List Shr} {k:Nat} (h:q.length≤2 * k+1):Hp q k:=λj h0 h1 h2=>by omega
end Go.AM.WH
namespace Go.AM.WH
open Go Go.Proofs
variable {K:AV→Hq→Prop} {s:Hq}
def shR (x:Shr):List AV:=[.int .i64 x.1,.int .i64 x.2]
abbrev qBm (q:List Shr):List AV:=(q.map shR).flatten
theorem qLa (q:List Shr):∀ r∈q.map shR,r.length=2:=λr hr=>by obtain ⟨x,_,rfl⟩:=List.mem_map.1 hr;rfl
theorem qDq (q:List Shr):(qBm q).length=q.length * 2:=by rw [qF0 (qLa q),lMY]
theorem qIz {x:Shr}:∀ {q:List Shr} {i:Nat},i < q.length→qAu (qBm q) (i * 2) (shR x)=qBm (q.set i x)
 | y :: q,0,_=>by simp [qAu,shR,qBm]
 | y :: q,i+1,h=>by
   have ih:=qIz (x:=x) (q:=q) (i:=i) (by simpa using h)
   have e:qBm (y :: q)=.int .i64 y.1 :: .int .i64 y.2 :: qBm q:=rfl
   have e2:qBm ((y :: q).set (i+1) x)=.int .i64 y.1 :: .int .i64 y.2 :: qBm (q.set i x):=rfl
   rw [e,e2,← ih]
   have e3:(i+1) * 2=i * 2+2:=by omega
   rw [e3]
   simp [qAu,shR,List.take_succ_cons,Nat.add_right_comm _ 2]
theorem qLp {v:Int}:∀ {q:List Shr} {i:Nat},i < q.length→(qBm q).set (i * 2+1) (.int .i64 v)=qBm (q.set i ((at0 q i).1,v))
 | y :: q,0,_=>rfl
 | y :: q,i+1,h=>by
   have ih:=qLp (v:=v) (q:=q) (i:=i) (by simpa using h)
   have e3:(i+1) * 2+1=(i * 2+1)+2:=by omega
   rw [e3]
   exact congrArg (λt=>AV.int .i64 y.1 :: AV.int .i64 y.2 :: t) ih
theorem qOE {v:Int}:∀ {q:List Shr} {i:Nat},i < q.length→(qBm q).set (i * 2) (.int .i64 v)=qBm (q.set i (v,(at0 q i).2))
 | y :: q,0,_=>rfl
 | y :: q,i+1,h=>by
   have ih:=qOE (v:=v) (q:=q) (i:=i) (by simpa using h)
   have e3:(i+1) * 2=i * 2+2:=by omega
   rw [e3]
   exact congrArg (λt=>AV.int .i64 y.1 :: AV.int .i64 y.2 :: t) ih
structure QAt (s:Hq) (o sb:Nat) (q:List Shr):Prop where
 ob:∃ t,s o=some (t,.cells 154 [.slc sb 0 q.length (some q.length) 2])
 dt:s sb=some (false,.cells 156 (qBm q))
 rg:∀ x∈q,0≤x.1∧x.1 < 1000
 ln:q.length≤1000
variable {o sb:Nat} {q:List Shr}
theorem QAt.sub {s':Hq} (h:QAt s o sb q) (hs:Sub s s'):QAt s' o sb q:=by
 obtain ⟨⟨t,h1⟩,h2,h3,h4⟩:=h
 exact ⟨⟨t,hs _ _ h1⟩,hs _ _ h2,h3,h4⟩
theorem qEX {n i:Nat} (hi:i < n):qAO 2 (.slc sb 0 n (some n) 2) (.int .i64 (i:Int))=some (.ptr sb (i * 2)):=by
 have:Nat.blt i n=true:=by rw [Nat.blt_eq];exact hi
 simp [qAO,this]
theorem QAt.row (h:QAt s o sb q) {i:Nat} (hi:i < q.length):rdN s 2 (.ptr sb (i * 2))=some (shR (at0 q i))∧rd1 s (.ptr sb (i * 2))=some (.int .i64 (at0 q i).1)∧rd1 s (.ptr sb (i * 2+1))=some (.int .i64 (at0 q i).2):=by
 have hs:SlR 2 s (.slc sb 0 q.length (some q.length) 2) (q.map shR):=SlR.mk (qLa q) h.dt (by simp) (by simp)
 obtain ⟨b,p,h1,h2,h3⟩:=hs.get (i:=i) (r:=shR (at0 q i)) (by simp [qBe hi,hi])
 rw [qEX hi] at h1
 cases h1
 exact ⟨h2,h3 0 (by omega),h3 1 (by omega)⟩
theorem qVn {s:Hq} {b:Nat} (hb:s b=none):∀ {l:List (Hq × Hq)} {t:Hq},(∀ p∈l,p.2=s)→t b≠none→cutH l t b≠none
 | [],_,_,h=>h
 | p :: l,t,hp,h=>by
   refine qVn hb (l:=l) (t:=λb=>if p.1 b=none∧p.2 b≠none then none else t b) (λr hr=>hp r (by simp [hr])) ?_
   show (if p.1 b=none∧p.2 b≠none then none else t b)≠none
   rw [if_neg (by rintro ⟨_,h⟩;rw [hp p (by simp)] at h;exact h hb)]
   exact h
theorem zABh {a b:Shr} (ha:0≤a.1∧a.1 < 1000) (hb:0≤b.1∧b.1 < 1000):decide (key a < key b)=if (a.2 == b.2)=true then decide (a.1 < b.1) else decide (a.2 < b.2):=by
 unfold key
 by_cases e:a.2=b.2
 ·rw [if_pos (by simpa using e),e];congr 1;apply propext;omega
 ·rw [if_neg (by simpa using e)];congr 1;apply propext;omega
theorem qWP {i j:Nat} (h:QAt s o sb q) (hi:i < q.length) (hj:j < q.length) (hK:∀ s',Sub s s'→K (.bool (decide (ky q i < ky q j))) s'):wC TP XX 99 [.ptr o 0,.int .i64 (i:Int),.int .i64 (j:Int)] K s:=by
 obtain ⟨t,ho⟩:=h.ob
 have ri:=(h.row hi).1
 have rj:=(h.row hj).1
 refine qH8 ?_
 simp only [qFx,qAJ,qAE,qAA,qAM ho,zA,g0Y,qEX hi,qEX hj,ri,rj]
 refine newM (l:=[]) λx s1 hx hx1 ux=>newM (l:=[(s,add s s1)]) λy s2 hy hy2 uy=>⟨?_,?_⟩
 ·refine qVn hx (λp hp=>by simp only [List.mem_cons,List.not_mem_nil,or_false] at hp;rcases hp with rfl | rfl <;> rfl) ?_
  rw [qFk x _ hx1];simp
 ·have hyx:y≠x:=by rintro rfl;rw [hx1] at hy;cases hy
  refine qAl (qFk x _ hx1) rfl rfl rfl λs3 hx3 u3=>?_
  refine qAl ((u3 y hyx).trans hy2) rfl rfl rfl λs4 hy4 u4=>?_
  have hx4:s4 x=_:=(u4 x hyx.symm).trans hx3
  have sub4:Sub s s4:=λi e hi=>by
   have hiA:add s s1 i=some e:=qFk i e hi
   rw [u4 i (qBl hy hiA),u3 i (qBl hx hi)]
   exact qFk i e hiA
  have hk:=hK _ sub4
  have e:=zABh (h.rg _ (List.getElem_mem hi)) (h.rg _ (List.getElem_mem hj))
  rw [← qBe hi,← qBe hj] at e
  unfold ky at hk
  rw [e] at hk
  simp only [qAE,qAA,qAM hx4,qAM hy4,zA,shR,g0Y,g1Y,qAv,qAi,Bool.true_bne,qAQ]
  cases hq:((at0 q i).2 == (at0 q j).2) with
  | true=>rw [hq,if_pos rfl] at hk;simp only [Bool.not_true,qAB];exact hk
  | false=>rw [hq,if_neg (by simp)] at hk;simp only [Bool.not_false,qAI];exact hk
theorem zAAK {i j:Nat} (h:QAt s o sb q) (hi:i < q.length) (hj:j < q.length) (hK:∀ s',QAt s' o sb (swp q i j)→qAg (λb=>b=sb) s s'→K (.tup []) s'):wC TP XX 121 [.ptr o 0,.int .i64 (i:Int),.int .i64 (j:Int)] K s:=by
 obtain ⟨t,ho⟩:=h.ob
 have ri:=(h.row hi).1
 have rj:=(h.row hj).1
 refine qHu ?_
 simp only [qFs,qAJ,qAE,qAA,qAM ho,zA,g0Y,qEX hi,qEX hj,ri,rj]
 have hos:o≠sb:=by rintro rfl;rw [h.dt] at ho;cases ho
 have wr:∀ {s:Hq} {q:List Shr} {i:Nat} {x:Shr} {R:Hq→Prop},s sb=some (false,.cells 156 (qBm q))→i < q.length→(∀ s',s' sb=some (false,.cells 156 (qBm (q.set i x)))→Upto sb s s'→R s')→oK (qBo s 2 (.ptr sb (i * 2)) (.agg (shR x))) R:=by
  intro s q i x R hs hi hR
  have e1:Nat.ble (i * 2+(shR x).length) (qBm q).length=true:=bL (by rw [qDq];show i * 2+2≤_;omega)
  have e2:qBo s 2 (.ptr sb (i * 2)) (.agg (shR x))=some (hset s sb (false,.cells 156 (qBm (q.set i x)))):=by
   rw [← qIz hi]
   simp only [qBo,qK2,show Nat.beq (shR x).length 2=true from rfl,cond_true,wrN,hs,e1,show qAb (shR x)=true from rfl,Bool.and_self]
  exact qAW e2 (hR _ qCN λ_ hi=>qAt hi)
 refine wr h.dt hi λs1 h1 u1=>wr h1 (by simpa using hj) λs2 h2 u2=>?_
 refine hK _ ⟨⟨t,?_⟩,h2,λx hx=>h.rg x ((qH1 hi hj).mem_iff.1 hx),by rw [qD3];exact h.ln⟩ ((u1.keep (fp:=λb=>b=sb) rfl).trans (u2.keep (fp:=λb=>b=sb) rfl))
 rw [u2 o hos,u1 o hos,qD3];exact ho
abbrev qv (o:Nat):AV:=.ifc 123 (.agg [.ptr o 0])
theorem qPT:qBq TP 123 (.agg [.ptr o 0]) "Len"=ret (120,.ptr o 0):=by kernel_rfl
theorem qM6:qBq TP 123 (.agg [.ptr o 0]) "Less"=ret (99,.ptr o 0):=by kernel_rfl
theorem qNb:qBq TP 123 (.agg [.ptr o 0]) "Swap"=ret (121,.ptr o 0):=by kernel_rfl
theorem qLn (h:QAt s o sb q) (hK:K (.int .i64 (q.length:Int)) s):qD4 TP XX (qv o) "Len" [] K s:=by
 show wpF (λ_=>qBq TP 123 (.agg [.ptr o 0]) "Len") _ s
 rw [qPT]
 obtain ⟨t,ho⟩:=h.ob
 refine wpF.ret ⟨by kernel_rfl,qIu ?_⟩
 simp only [qGC,qAJ,qAE,qAA,qAM ho,zA,g0Y,qBJ]
 exact hK
theorem qKr {i j:Nat} (h:QAt s o sb q) (hi:i < q.length) (hj:j < q.length) (hK:∀ s',Sub s s'→K (.bool (decide (ky q i < ky q j))) s'):qD4 TP XX (qv o) "Less" [.int .i64 (i:Int),.int .i64 (j:Int)] K s:=by
 show wpF (λ_=>qBq TP 123 (.agg [.ptr o 0]) "Less") _ s
 rw [qM6]
 exact wpF.ret ⟨by kernel_rfl,qWP h hi hj hK⟩
theorem qKw {i j:Nat} (h:QAt s o sb q) (hi:i < q.length) (hj:j < q.length) (hK:∀ s',QAt s' o sb (swp q i j)→qAg (λb=>b=sb) s s'→K (.tup []) s'):qD4 TP XX (qv o) "Swap" [.int .i64 (i:Int),.int .i64 (j:Int)] K s:=by
 show wpF (λ_=>qBq TP 123 (.agg [.ptr o 0]) "Swap") _ s
 rw [qNb]
 exact wpF.ret ⟨by kernel_rfl,zAAK h hi hj hK⟩
end Go.AM.WH
namespace Go.AM.WH
open Go Go.Proofs
variable {K:AV→Hq→Prop} {s:Hq} {o sb:Nat} {q:List Shr}
theorem QAt.of {q:List Shr} (h:QAt s o sb q) {s':Hq} {q':List Shr} (hd:s' sb=some (false,.cells 156 (qBm q'))) (hp:q'.length=q.length) (hr:∀ x∈q',0≤x.1∧x.1 < 1000) (hk:qAg (λb=>b=sb) s s'):QAt s' o sb q':=by
 obtain ⟨t,ho⟩:=h.ob
 have hos:¬ o=sb:=by rintro rfl;rw [h.dt] at ho;cases ho
 exact ⟨⟨t,by rw [hp];exact hk _ _ ho hos⟩,hd,hr,by rw [hp];exact h.ln⟩
theorem qM1 {i0:Nat} (h:QAt s o sb q) (hd:Hp q (i0+1)) (h0:i0 < q.length) (hK:∀ s' q' b,QAt s' o sb q'→q'.Perm q→Hp q' i0→qAg (λb=>b=sb) s s'→(b=false→q'=q)→((∀ j,0 < j→j < q.length→(j - 1) / 2=i0→ky q i0≤ky q j)→b=false)→K (.bool b) s'):wC TP XX 94 [qv o,.int .i64 (i0:Int),.int .i64 (q.length:Int)] K s:=by
 refine qCc ?_
 refine ⟨λys s1 n=>∃ (i:Nat) (q1:List Shr),ys=[.int .i64 i]∧n=q.length - i∧i < q.length∧QAt s1 o sb q1∧q1.Perm q∧Dn q1 i0 i∧qAg (λb=>b=sb) s s1∧(i=i0→q1=q)∧((∀ j,0 < j→j < q.length→(j - 1) / 2=i0→ky q i0≤ky q j)→i=i0),⟨_,i0,q,rfl,rfl,h0,h,.refl q,hd.dn,.refl _ s,λ_=>rfl,λ_=>rfl⟩,?_⟩
 rintro f s1 n ⟨i,q1,hy,rfl,hi,z,hp,dn,kp,same,stay⟩
 simp only [cI,and_true] at hy
 rw [hy]
 have hlen:=hp.length_eq
 have hl:=h.ln
 have m1:IntKind.i64.wrap (2 * (i:Int))=((2 * i:Nat):Int):=by rw [qAf (by omega) (by omega)];omega
 have m2:IntKind.i64.wrap (((2 * i:Nat):Int)+1)=((2 * i+1:Nat):Int):=by rw [qAf (by omega) (by omega)];omega
 have m3:IntKind.i64.wrap (((2 * i+1:Nat):Int)+1)=((2 * i+2:Nat):Int):=by rw [qAf (by omega) (by omega)];omega
 simp only [qBs,qHp,qAA,m1,qAT,m2,qA8,qAQ]
 have fin:∀ s2,Sub s1 s2→(∀ j,0 < j→j < q1.length→(j - 1) / 2=i→ky q1 i≤ky q1 j)→qA4 XX (.int .i64 (i0:Int)) (.int .i64 (i:Int)) K s2:=by
  intro s2 hs hc
  simp only [qA4,qAx,qAA]
  refine hK s2 q1 _ (z.sub hs) hp (dn.done hc) (kp.trans hs.keep) (λhb=>same ?_) λhst=>?_
  ·have:=oF hb
   have:=dn.le
   omega
  ·rw [stay hst,decide_eq_false_iff_not]
   omega
 by_cases hc:q.length≤2 * i+1
 ·have e1:decide ((q.length:Int)≤((2 * i+1:Nat):Int))=true:=by rw [decide_eq_true_eq];omega
  rw [e1]
  simp only [qAI,qA3,qAV,qAA]
  exact fin s1 (.refl s1) λj a b c=>by omega
 ·have e1:decide ((q.length:Int)≤((2 * i+1:Nat):Int))=false:=by rw [decide_eq_false_iff_not];omega
  have e2:decide (((2 * i+1:Nat):Int) < 0)=false:=by rw [decide_eq_false_iff_not];omega
  rw [e1,e2]
  simp only [qAB,qA3,qAL,qAA,qAT,m3,qAQ]
  have go:∀ (s2:Hq) (j:Nat),Sub s1 s2→j < q1.length→(j=2 * i+1∨j=2 * i+2)→(∀ m,0 < m→m < q1.length→(m - 1) / 2=i→ky q1 j≤ky q1 m)→
    qBC XX (qv o) (.int .i64 (i0:Int)) (.int .i64 (i:Int)) (.int .i64 (j:Int)) (λys s1 n=>∃ (i:Nat) (q1:List Shr),ys=[.int .i64 i]∧n=q.length - i∧i < q.length∧QAt s1 o sb q1∧q1.Perm q∧Dn q1 i0 i∧qAg (λb=>b=sb) s s1∧(i=i0→q1=q)∧((∀ j,0 < j→j < q.length→(j - 1) / 2=i0→ky q i0≤ky q j)→i=i0)) (q.length - i) K s2:=by
   intro s2 j hs hj hc2 hmin
   unfold qBC
   refine qKr (z.sub hs) hj (by omega) λs3 hs3=>?_
   simp only [qAj,qAA]
   refine qAU (λhb=>?_) (λhb=>?_)
   ·have hb:¬ ky q1 j < ky q1 i:=by simpa using hb
    exact fin s3 (hs.trans hs3) λm a b c=>by have:=hmin m a b c;omega
   ·have hb:ky q1 j < ky q1 i:=by simpa using hb
    refine qKw (z.sub (hs.trans hs3)) (by omega) hj λs4 z4 k4=>?_
    refine ⟨_,?_,j,_,rfl,rfl,by omega,z4,(qH1 (by omega) hj).trans hp,dn.swap hj hc2 hb hmin,(kp.trans (hs.trans hs3).keep).trans k4,λe=>?_,λhst=>?_⟩
    ·omega
    ·have:=dn.le;omega
    ·have e1:=stay hst
     have e2:=same e1
     subst e1
     rw [e2] at hb
     have:=hst j (by omega) (by omega) (by omega)
     omega
  refine qAU (λhb=>?_) (λhb=>?_)
  ·have hb2:2 * i+2 < q.length:=by have:=oT hb;omega
   rw [hb]
   refine qKr z (by omega) (by omega) λs2 hs2=>?_
   simp only [qBB,qAV,qAA]
   refine qAU (λhl2=>?_) (λhl2=>?_)
   ·have hl2:=oT hl2
    exact go s2 (2 * i+2) hs2 (by omega) (.inr rfl) λm a b c=>by
     have:m=2 * i+1∨m=2 * i+2:=by omega
     rcases this with rfl | rfl
     ·omega
     ·exact Int.le_refl _
   ·have hl2:=oF hl2
    exact go s2 (2 * i+1) hs2 (by omega) (.inl rfl) λm a b c=>by
     have:m=2 * i+1∨m=2 * i+2:=by omega
     rcases this with rfl | rfl
     ·exact Int.le_refl _
     ·omega
  ·have hb2:¬ 2 * i+2 < q.length:=by have:=oF hb;omega
   rw [hb]
   simp only [qBB,qAL,qAA,qAB]
   exact go s1 (2 * i+1) (.refl s1) (by omega) (.inl rfl) λm a b c=>by
    have:m=2 * i+1:=by omega
    subst this
    exact Int.le_refl _
theorem qWY {j0:Nat} (h:QAt s o sb q) (hu:Up q j0) (h0:j0 < q.length) (hK:∀ s' q',QAt s' o sb q'→q'.Perm q→Hp q' 0→qAg (λb=>b=sb) s s'→K (.tup []) s'):wC TP XX 95 [qv o,.int .i64 (j0:Int)] K s:=by
 refine qEa ?_
 refine ⟨λys s1 n=>∃ (j:Nat) (q1:List Shr),ys=[.int .i64 j]∧n=j∧j < q.length∧QAt s1 o sb q1∧q1.Perm q∧Up q1 j∧qAg (λb=>b=sb) s s1,⟨_,j0,q,rfl,rfl,h0,h,.refl q,hu,.refl _ s⟩,?_⟩
 rintro f s1 n ⟨j,q1,hy,rfl,hj,z,hp,up,kp⟩
 simp only [cI,and_true] at hy
 rw [hy]
 have hlen:=hp.length_eq
 have hl:=h.ln
 simp only [qC5,qBO,qAA]
 rw [qAf (by omega) (by omega)]
 simp only [qMl (show (2:Int)≠0 by omega),qAA]
 have e1:((n:Int) - 1).tdiv 2=(((n - 1) / 2:Nat):Int):=by
  cases n with
  | zero=>rfl
  | succ m=>
    rw [show ((m+1:Nat):Int) - 1=(m:Int) by omega,show m+1 - 1=m by omega,Int.tdiv_eq_ediv_of_nonneg (by omega)]
    rfl
 rw [e1,qAf (by omega) (by omega)]
 simp only [qAv,qAi,Bool.false_bne,qAA]
 cases n with
 | zero=>
   simp only [show ((((0 - 1) / 2:Nat):Int) == ((0:Nat):Int))=true from rfl,qAI,qBL,qAV,qAA]
   exact hK s1 q1 z hp (up.done λh=>absurd h (by omega)) kp
 | succ m=>
   have e2:((((m+1 - 1) / 2:Nat):Int) == ((m+1:Nat):Int))=false:=by
    cases hq:((((m+1 - 1) / 2:Nat):Int) == ((m+1:Nat):Int)) with
    | false=>rfl
    | true=>have:=eq_of_beq hq;omega
   rw [e2]
   simp only [qAB]
   refine qKr z (by omega) (by omega) λs2 hs2=>?_
   simp only [qAj,qAA,qBL,qAL]
   refine qAU (λhb=>?_) (λhb=>?_)
   ·have hb:¬ ky q1 (m+1) < ky q1 ((m+1 - 1) / 2):=by simpa using hb
    exact hK s2 q1 (z.sub hs2) hp (up.done λ_=>by omega) (kp.trans hs2.keep)
   ·have hb:ky q1 (m+1) < ky q1 ((m+1 - 1) / 2):=by simpa using hb
    refine qKw (z.sub hs2) (by omega) (by omega) λs3 z3 k3=>?_
    exact ⟨_,by omega,_,_,rfl,rfl,by omega,z3,(qH1 (by omega) (by omega)).trans hp,up.swap (by omega) (by omega) hb,(kp.trans hs2.keep).trans k3⟩
theorem qYp (h:QAt s o sb q) (hK:∀ s' q',QAt s' o sb q'→q'.Perm q→Hp q' 0→qAg (λb=>b=sb) s s'→K (.tup []) s'):wC TP XX 97 [qv o] K s:=by
 refine qG9 (qLn h ?_)
 have hl:=h.ln
 have e1:(q.length:Int).tdiv 2=((q.length / 2:Nat):Int):=by rw [Int.tdiv_eq_ediv_of_nonneg (by omega)];rfl
 simp only [qMl (show (2:Int)≠0 by omega),qAA,e1]
 rw [qAf (by omega) (by omega)]
 simp only [qBO,qAA]
 rw [qAf (by omega) (by omega)]
 refine ⟨λys s1 n=>∃ (j:Nat) (q1:List Shr),ys=[.int .i64 ((j:Int) - 1)]∧n=j∧j≤q.length / 2∧QAt s1 o sb q1∧q1.Perm q∧Hp q1 j∧qAg (λb=>b=sb) s s1,⟨_,q.length / 2,q,rfl,rfl,by omega,h,.refl q,.leaf (by omega),.refl _ s⟩,?_⟩
 rintro f s1 n ⟨j,q1,hy,rfl,hj,z,hp,hh,kp⟩
 simp only [cI,and_true] at hy
 rw [hy]
 have hlen:=hp.length_eq
 simp only [qDr,qA8,qAA]
 refine qAU (λhb=>?_) (λhb=>?_)
 ·have hb:=oT hb
  obtain ⟨i,rfl⟩:∃ i,n=i+1:=⟨n - 1,by omega⟩
  rw [show ((i+1:Nat):Int) - 1=(i:Int) by omega,← hlen]
  refine qM1 z hh (by omega) λs2 q2 b z2 p2 h2 k2 _ _=>?_
  simp only [qBO,qAA]
  rw [qAf (by omega) (by omega)]
  exact ⟨_,by omega,i,q2,rfl,rfl,by omega,z2,p2.trans hp,h2,kp.trans k2⟩
 ·have hb:=oF hb
  obtain rfl:n=0:=by omega
  exact hK s1 q1 z hp hh kp
end Go.AM.WH
namespace Go.AM.WH
open Go Go.Proofs
variable {K:AV→Hq→Prop} {s:Hq} {o sb:Nat} {q:List Shr}
def upd2 (q:List Shr) (i:Nat) (d:Int):List Shr:=q.set i ((at0 q i).1,(at0 q i).2+d)
theorem qDa (q:List Shr) (i:Nat) (d:Int):(upd2 q i d).length=q.length:=by simp [upd2]
theorem qG2 {i m:Nat} {d:Int} (hi:i < q.length):ky (upd2 q i d) m=if m=i then ky q i+d * 1000 else ky q m:=by
 unfold ky upd2
 rw [qGP hi]
 split
 ·unfold key;simp only;omega
 ·rfl
theorem qYg {i:Nat} {d:Int} (hi:i < q.length) (hr:∀ x∈q,0≤x.1∧x.1 < 1000):∀ x∈upd2 q i d,0≤x.1∧x.1 < 1000:=λx hx=>by
 rcases List.mem_or_eq_of_mem_set hx with h | rfl
 ·exact hr x h
 ·exact hr (at0 q i) (by rw [qBe hi];exact List.getElem_mem hi)
theorem qQc {i:Nat} {d:Int} (h:QAt s o sb q) (hi:i < q.length) (hd:-1≤d∧d≤1) (hb:0≤(at0 q i).2∧(at0 q i).2≤100000)
  (hK:∀ s',QAt s' o sb (upd2 q i d)→qAg (λb=>b=sb) s s'→wC TP XX 98 [qv o,.int .i64 (i:Int)] (λ_ s''=>K (.tup []) s'') s'):wC TP XX 84 [.agg [.ptr o 0],.int .i64 (i:Int),.int .i64 d] K s:=by
 refine qGy ⟨rfl,qAS λb s1 hb1 h1 u1=>?_⟩
 have z1:=h.sub (u1.sub hb1)
 obtain ⟨t,ho⟩:=z1.ob
 have h1:s1 b=some (false,.cells 123 [.ptr o 0]):=h1
 have r:=(z1.row hi).2.2
 simp only [qAE,qAA,qAM h1,qAM ho,zA,g0Y,qAJ,qEX hi,r,qAT]
 rw [qAf (by omega) (by omega)]
 refine qAm z1.dt (by rw [qDq];omega) rfl λs2 h2 u2=>?_
 have hbs:b≠sb:=by rintro rfl;rw [h.dt] at hb1;cases hb1
 refine qAW (qA7 ((u2 b hbs).trans h1) rfl) ?_
 refine hK s2 (z1.of (by rw [qLp hi] at h2;exact h2) (qDa _ _ _) (qYg hi h.rg) (u2.keep (fp:=λb=>b=sb) rfl)) ((u1.sub hb1).keep.trans (u2.keep (fp:=λb=>b=sb) rfl))
theorem qOl (h:QAt s o sb q) (hh:Hp q 0) (hi:0 < q.length) (hb:0≤(at0 q 0).2∧(at0 q 0).2≤100000)
  (hK:∀ s' q',QAt s' o sb q'→q'.Perm (upd2 q 0 1)→Hp q' 0→qAg (λb=>b=sb) s s'→K (.tup []) s'):wC TP XX 84 [.agg [.ptr o 0],.int .i64 0,.int .i64 1] K s:=by
 refine qQc (i:=0) h hi (by omega) hb λs1 z1 k1=>?_
 refine qEN (qLn z1 ?_)
 have hd:Hp (upd2 q 0 1) 1:=λj h0 h1 h2=>by
  rw [qDa] at h1
  rw [qG2 hi,qG2 hi,if_neg (by omega),if_neg (by omega)]
  exact hh j h0 h1 (by omega)
 refine qM1 (i0:=0) z1 hd (by rw [qDa];exact hi) λs2 q2 b z2 p2 h2 k2 same _=>?_
 simp only [qAj,qAA]
 refine qAU (λ_=>?_) (λ_=>hK s2 q2 z2 p2 h2 (k1.trans k2))
 refine qWY (j0:=0) z2 ⟨λm m0 m1 _=>h2 m m0 m1 (by omega),λh=>absurd h (by omega)⟩ (by rw [p2.length_eq,qDa];exact hi) λs3 q3 z3 p3 h3 k3=>hK s3 q3 z3 (p3.trans p2) h3 ((k1.trans k2).trans k3)
theorem qUA {i:Nat} (h:QAt s o sb q) (hh:Hp q 0) (hi:i < q.length) (hb:0≤(at0 q i).2∧(at0 q i).2≤100000)
  (hK:∀ s' q',QAt s' o sb q'→q'.Perm (upd2 q i (-1))→Hp q' 0→qAg (λb=>b=sb) s s'→K (.tup []) s'):wC TP XX 84 [.agg [.ptr o 0],.int .i64 (i:Int),.int .i64 (-1)] K s:=by
 refine qQc h hi (by omega) hb λs1 z1 k1=>?_
 refine qEN (qLn z1 ?_)
 have hd:Hp (upd2 q i (-1)) (i+1):=λj h0 h1 h2=>by
  rw [qDa] at h1
  rw [qG2 hi,qG2 hi,if_neg (by omega),if_neg (by omega)]
  exact hh j h0 h1 (by omega)
 have hi1:i < (upd2 q i (-1)).length:=by rw [qDa];exact hi
 refine qM1 (i0:=i) z1 hd hi1 λs2 q2 b z2 p2 h2 k2 same stay=>?_
 have hb:b=false:=stay λj h0 h1 h2=>by
  rw [qDa] at h1
  rw [qG2 hi,qG2 hi,if_pos rfl,if_neg (by omega)]
  have:=hh j h0 h1 (by omega)
  rw [h2] at this
  omega
 subst hb
 have e2:=same rfl
 subst e2
 simp only [qAj,Bool.not_false,qAA,qAI]
 refine qWY (j0:=i) z2 ⟨λm m0 m1 m2=>?_,λi0 m m0 m1 m2=>?_⟩ hi1 λs3 q3 z3 p3 h3 k3=>hK s3 q3 z3 p3 h3 ((k1.trans k2).trans k3)
 ·rw [qDa] at m1
  rw [qG2 hi,qG2 hi,if_neg m2]
  have:=hh m m0 m1 (by omega)
  split
  ·rename_i e;rw [e] at this;omega
  ·exact this
 ·rw [qDa] at m1
  rw [qG2 hi,qG2 hi,if_neg (show (i - 1) / 2≠i by omega),if_neg (show m≠i by omega)]
  have a:=hh m m0 m1 (by omega)
  have b:=hh i i0 hi (by omega)
  rw [m2] at a
  omega
theorem qYk (h:QAt s o sb q) (hq:0 < q.length) (hK:∀ s' (m:Nat),Sub s s'→m < q.length→(∀ j,j < q.length→ky q j≤ky q m)→K (.int .i64 (m:Int)) s'):wC TP XX 85 [.agg [.ptr o 0]] K s:=by
 refine qH7 ⟨rfl,qAS λb s1 hb1 h1 u1=>?_⟩
 have sub1:=u1.sub hb1
 have z1:=h.sub sub1
 obtain ⟨t,ho⟩:=z1.ob
 have h1:s1 b=some (false,.cells 123 [.ptr o 0]):=h1
 have hl:=h.ln
 simp only [qAE,qAA,qAM h1,qAM ho,zA,g0Y,qAJ,qBJ]
 refine ⟨λys s2 n=>∃ (m i:Nat),ys=[.int .i64 m,.int .i64 i]∧n=q.length - i∧i≤q.length∧m < q.length∧(∀ j,j < i→ky q j≤ky q m)∧Sub s1 s2,⟨_,0,0,rfl,rfl,by omega,hq,by omega,.refl s1⟩,?_⟩
 rintro f s2 n ⟨m,i,hy,rfl,hi,hm,hb,sub2⟩
 simp only [cI,and_true] at hy
 rw [hy.1,hy.2]
 have z2:=z1.sub sub2
 simp only [qEn,qAQ,qAA]
 refine qAU (λhlt=>?_) (λhge=>?_)
 ·have hlt:i < q.length:=by have:=oT hlt;omega
  simp only [qAE,qAA,qAM (sub2 _ _ h1),zA,g0Y]
  refine qWP z2 hm hlt λs3 sub3=>?_
  simp only [qC2,qAT,qAA]
  rw [qAf (by omega) (by omega)]
  refine qAU (λhb2=>?_) (λhb2=>?_)
  ·have hb2:=oT hb2
   refine ⟨_,by omega,i,i+1,rfl,rfl,by omega,hlt,λj hj=>?_,sub2.trans sub3⟩
   by_cases e:j=i
   ·subst e;exact Int.le_refl _
   ·have:=hb j (by omega);omega
  ·have hb2:=oF hb2
   refine ⟨_,by omega,m,i+1,rfl,rfl,by omega,hm,λj hj=>?_,sub2.trans sub3⟩
   by_cases e:j=i
   ·subst e;omega
   ·exact hb j (by omega)
 ·have hge:q.length≤i:=by have:=oF hge;omega
  exact hK s2 m (sub1.trans sub2) hm λj hj=>hb j (by omega)
theorem qXr (h:QAt s o sb q) (hK:∀ s' q',QAt s' o sb q'→q'.Perm q→Hp q' 0→qAg (λb=>b=sb) s s'→K (.tup []) s'):wC TP XX 83 [.agg [.ptr o 0]] K s:=by
 refine qHa ⟨rfl,qAS λb s1 hb1 h1 u1=>qAW (qA7 h1 rfl) ?_⟩
 exact qYp (h.sub (u1.sub hb1)) λs2 q2 z2 p2 h2 k2=>hK s2 q2 z2 p2 h2 ((u1.sub hb1).keep.trans k2)
end Go.AM.WH
namespace Go.AM.WH
open Go Go.Proofs
variable {K:AV→Hq→Prop} {s:Hq}
abbrev Sli (s:Hq) (v:AV) (l:List Int):Prop:=Sl s v (l.map (AV.int .i64))
theorem qKG {v:AV} {l:List Int} (h:Sli s v l) {k:Nat} (hk:k < l.length):∃ p,qAO 1 v (.int .i64 (k:Int))=some p∧rd1 s p=some (.int .i64 l[k]):=by
 obtain ⟨p,h1,h2⟩:=h.get (i:=k) (by simpa using hk)
 exact ⟨p,h1,by rw [h2];simp [hk]⟩
abbrev ints (l:List Int):List AV:=l.map (AV.int .i64)
theorem b_addr {bb n i:Nat} {cap:Option Nat} (hi:i < n):qAO 1 (.slc bb 0 n cap 1) (.int .i64 (i:Int))=some (.ptr bb i):=by
 have:Nat.blt i n=true:=by rw [Nat.blt_eq];exact hi
 simp [qAO,this]
theorem ints_at {B:List Int} {i:Nat} (hi:i < B.length):(ints B)[i]?=some (.int .i64 B[i]):=by simp [ints,hi]
theorem qKu {B:List Int} {i:Nat} {v:Int}:(ints B).set i (.int .i64 v)=ints (B.set i v):=by simp [ints,List.map_set]
theorem _root_.Go.AM.Sub.upto {s s' s'':Hq} {b:Nat} (h:Sub s s') (u:Upto b s' s'') (hb:s b=none):Sub s s'':=λi e hi=>by rw [u i (qBl hb hi)];exact h i e hi
def ld (B:List Int) (m:Int):Nat:=B.count (m+1)
structure WAt (s:Hq) (w bb:Nat) (mv:AV) (cap:Option Nat) (B M:List Int):Prop where
 wb:s w=some (false,.cells 120 [.slc bb 0 B.length cap 1,mv])
 bs:s bb=some (false,.cells 3 (ints B))
 ms:Sli s mv M
 cp:∀ c,cap=some c→B.length≤c
 pos:1≤B.length∧B.length≤256
variable {w bb:Nat} {mv:AV} {cap:Option Nat} {B M:List Int}
theorem WAt.sub {s':Hq} (h:WAt s w bb mv cap B M) (hs:Sub s s'):WAt s' w bb mv cap B M:=⟨hs _ _ h.wb,hs _ _ h.bs,h.ms.sub hs,h.cp,h.pos⟩
theorem WAt.ne (h:WAt s w bb mv cap B M):w≠bb:=by
 rintro rfl
 have:=h.wb
 rw [h.bs] at this
 cases this
theorem valid_rd {t1:Bool} {n:Nat} (hw:s w=some (t1,.cells 120 [.slc bb 0 n cap 1,mv])) (hp:1≤n) (hK:K (.bool true) s):wC TP XX 59 [.ptr w 0] K s:=by
 refine qEK ?_
 have hp:decide ((0:Int) < (n:Int))=true:=by rw [decide_eq_true_eq];omega
 simp only [qDQ,qPc,qAi,Bool.bne_false,qAA,qAI,qAJ,qAE,qAM hw,zA,g0Y,qBJ,qAx,hp,qBz,qAV]
 exact hK
theorem qDx (h:WAt s w bb mv cap B M) (hK:K (.bool true) s):wC TP XX 59 [.ptr w 0] K s:=by
 refine qEK ?_
 have hp:decide ((0:Int) < (B.length:Int))=true:=by have:=h.pos;rw [decide_eq_true_eq];omega
 simp only [qDQ,qPc,qAi,Bool.bne_false,qAA,qAI,qAJ,qAE,qAM h.wb,zA,g0Y,qBJ,qAx,hp,qBz,qAV]
 exact hK
theorem New_in {n:Nat} (h1:1≤n) (h2:n≤256) (hK:∀ w bb s',s w=none→s bb=none→Sub s s'→WAt s' w bb .nilslc (some n) (List.replicate n 0) []→K (.tup [.ptr w 0,.int .i64 0]) s'):wC TP XX 58 [.int .i64 (n:Int)] K s:=by
 refine qMM ?_
 have e1:decide ((n:Int) < 1)=false:=by rw [decide_eq_false_iff_not];omega
 have e2:decide ((256:Int) < (n:Int))=false:=by rw [decide_eq_false_iff_not];omega
 simp only [qLO,qAQ,qAx,e1,e2,qAA,qAB,qFi,qAL,nat?_mk]
 refine ⟨⟨Nat.le_refl _,by omega⟩,qAS λbb s1 hb hb1 u1=>?_⟩
 refine qAW (a:=[.slc bb 0 n (some n) 1,.nilslc]) rfl ⟨rfl,qAS λw s2 hw hw2 u2=>?_⟩
 have hbb:s2 bb=some (false,.cells 3 (ints (List.replicate n 0))):=by
  rw [u2.at hb1 hw,qFE]
  simp [ints]
 have hws:s w=none:=by
  cases e:s w with
  | none=>rfl
  | some x=>rw [u1.sub hb w x e] at hw;cases hw
 refine hK w bb s2 hws hb ((u1.sub hb).trans (u2.sub hw)) ⟨?_,hbb,.inl ⟨rfl,rfl⟩,λc e=>by cases e;simp,by simp;omega⟩
 rw [List.length_replicate];exact hw2
theorem Clone_in {v:AV} {l:List Int} (h:Sli s v l) (hl:l.length≤100000) (hK:∀ v' s',Sub s s'→Sli s' v' l→(l≠[]→∃ c,s c=none∧v'=.slc c 0 l.length none 1∧s' c=some (false,.cells 3 (ints l)))→K v' s'):wC TP XX 36 [v] K s:=by
 refine qIl ?_
 have cases0:(v=.nilslc∧l=[])∨∃ b o c,v=.slc b o l.length c 1:=by
  rcases h with ⟨a,b⟩ | ⟨b,o,c,a,_⟩
  ·exact .inl ⟨a,by simpa using b⟩
  ·exact .inr ⟨b,o,c,by simpa using a⟩
 rcases cases0 with ⟨rfl,rfl⟩ | ⟨b,o,c,rfl⟩
 ·simp only [qD1,qJq,qAi,Bool.false_bne,qAA,qAI]
  exact hK _ _ (.refl s) (.inl ⟨rfl,rfl⟩) λh=>absurd rfl h
 ·simp only [qD1,qOy,qAi,Bool.false_bne,qAA,qAB]
  refine qAW (a:=[]) rfl ⟨rfl,qAS λd s1 hd h1 u1=>?_⟩
  refine qIJ (h.sub (u1.sub hd)) (by simp;omega) λv' s2 sub2 g1 g2=>hK _ _ ((u1.sub hd).trans sub2) ?_ λhne=>?_
  ·by_cases hm:l.map (AV.int .i64)=[]
   ·rw [g1 hm]
    unfold Sli;rw [hm]
    exact .inr ⟨d,0,some 0,rfl,by simp,λh=>absurd rfl h⟩
   ·obtain ⟨c,_,rfl,hc⟩:=g2 hm
    exact Sl.mk hc rfl (by simp)
  ·obtain ⟨c,hc0,e,hc⟩:=g2 (by simpa using hne)
   refine ⟨c,?_,by simpa using e,hc⟩
   cases q:s c with
   | none=>rfl
   | some x=>rw [u1.sub hd c x q] at hc0;cases hc0
end Go.AM.WH
namespace Go.AM.WH
open Go Go.Proofs
variable {K:AV→Hq→Prop} {s:Hq} {w bb:Nat} {mv:AV} {cap:Option Nat} {B M:List Int}
def Asc (l:List Int):Prop:=l.Pairwise (· < ·)∧∀ x∈l,0≤x∧x < 128
theorem qWk {v:AV} {l:List Int} (h:WAt s w bb mv cap B M) (hl:Sli s v l) (ha:Asc l) (hlen:l.length≤B.length) (hK:K (.int .i64 0) s):wC TP XX 60 [.ptr w 0,v] K s:=by
 refine qHm ?_
 have hp:=h.pos
 simp only [qFL,hl.len,qAA,lMY]
 refine ⟨λys s1 n=>∃ k:Nat,ys=[.int .i64 k]∧s1=s∧k≤l.length∧n=l.length - k,⟨_,0,rfl,rfl,by omega,rfl⟩,?_⟩
 rintro f s1 n ⟨k,hy,rfl,hk,rfl⟩
 simp only [cI,and_true] at hy
 rw [hy]
 simp only [qES,qAA,qAQ]
 refine qAU (λhlt=>?_) (λhge=>?_)
 ·have hlt:k < l.length:=by have:=oT hlt;omega
  obtain ⟨p,g1,g2⟩:=qKG hl hlt
  have hr:=ha.2 _ (List.getElem_mem hlt)
  have e1:decide (l[k] < 0)=false:=by rw [decide_eq_false_iff_not];omega
  have e2:decide ((128:Int)≤l[k])=false:=by rw [decide_eq_false_iff_not];omega
  have fin:oK (qAG .add (.int .i64 (k:Int)) (.int .i64 1)) λv_9=>∃ m',m' < l.length - k∧∃ k_1:Nat,[v_9]=[AV.int .i64 k_1]∧True∧k_1≤l.length∧m'=l.length - k_1:=by
   simp only [qAT,qAA]
   rw [qAf (by omega) (by omega)]
   exact ⟨_,by omega,k+1,by simp,by trivial,by omega,rfl⟩
  simp only [g1,g2,qAA,qAQ,qA8,e1,e2,qAB,qCj,qAL,qAx]
  refine qAU (λhp=>?_) (λhp=>?_)
  ·rw [hp]
   have hp:0 < k:=by have:=oT hp;omega
   obtain ⟨q,g3,g4⟩:=qKG hl (k:=k - 1) (by omega)
   have ew:IntKind.i64.wrap ((k:Int) - 1)=((k - 1:Nat):Int):=by rw [qAf (by omega) (by omega)];omega
   have hlt2:l[k - 1] < l[k]:=List.pairwise_iff_getElem.1 ha.1 (k - 1) k (by omega) hlt (by omega)
   have e3:decide (l[k]≤l[k - 1])=false:=by rw [decide_eq_false_iff_not];omega
   simp only [qBO,ew,g3,g4,qAA,qI1,e3,qB1,qAV,qAB]
   exact fin
  ·rw [hp]
   simp only [qB1,qAL,qAA,qAB]
   exact fin
 ·have e3:decide ((B.length:Int) < (l.length:Int))=false:=by rw [decide_eq_false_iff_not];omega
  simp only [hl.len,lMY,qAA,qAJ,qAE,qAM h.wb,zA,g0Y,qBJ,qAx,e3,qAB]
  exact hK
theorem qZK {m:Int} {t1 t2:Bool} {mv:AV} (hw:s w=some (t1,.cells 120 [.slc bb 0 B.length cap 1,mv])) (hbs:s bb=some (t2,.cells 3 (ints B))) (hp:1≤B.length∧B.length≤256) (hm:0≤m∧m < 128) (hin:m+1∈B) (hK:∀ i:Nat,∀ hi:i < B.length,B[i]=m+1→(∀ k (hk:k < B.length),i < k→B[k]≠m+1)→K (.int .i64 (i:Int)) s):wC TP XX 86 [.ptr w 0,.int .i64 m] K s:=by
 refine qII ?_
 simp only [qFv,qAJ,qAE,qAM hw,zA,g0Y,qBJ,qAA,qBO]
 rw [qAf (by omega) (by omega)]
 refine ⟨λys s1 n=>∃ k:Nat,ys=[.int .i64 k]∧s1=s∧n=k∧k < B.length∧m+1∈B.take (k+1)∧∀ j (hj:j < B.length),k < j→B[j]≠m+1,⟨_,B.length - 1,by simp;omega,rfl,rfl,by omega,by rw [List.take_of_length_le (by omega)];exact hin,λj hj h=>by omega⟩,?_⟩
 rintro f s1 n ⟨k,hy,rfl,rfl,hk,hmem,hlast⟩
 simp only [cI,and_true] at hy
 rw [hy]
 rw [List.take_succ_eq_append_getElem hk,List.mem_append,List.mem_singleton] at hmem
 simp only [qEW,qAx,qAA]
 refine qAU (λhg=>?_) (λhg=>?_)
 ·rw [hg]
  have hg:=oT hg
  simp only [qAJ,qAE,qAM hw,zA,g0Y,qAA,b_addr hk,qAM hbs,ints_at hk,qAT]
  rw [qAf (n:=m+1) (by omega) (by omega)]
  simp only [qAv,qAi,Bool.true_bne,qAA,qCE,qAV]
  cases hq:(B[n] == m+1) with
  | true=>
    simp only [Bool.not_true,qAB]
    exact hK n hk (eq_of_beq hq) hlast
  | false=>
    have hne:¬ m+1=B[n]:=λe=>by rw [e] at hq;simp at hq
    simp only [Bool.not_false,qAI,qBO,qAA]
    rw [qAf (by omega) (by omega)]
    refine ⟨n - 1,by omega,n - 1,by simp;omega,by trivial,rfl,by omega,?_,λj hj hjk=>?_⟩
    ·rw [show n - 1+1=n by omega]
     exact hmem.resolve_right hne
    ·by_cases e:j=n
     ·subst e;exact λe=>hne e.symm
     ·exact hlast j hj (by omega)
 ·rw [hg]
  have hg:=oF hg
  have:n=0:=by omega
  subst this
  simp only [qCE,qAL,qAA,qAB]
  refine hK 0 hk ?_ λj hj h=>hlast j hj h
  rcases hmem with h | h
  ·simp at h
  ·exact h.symm
def clr (M B:List Int):List Int:=B.map λb=>if b - 1∈M then b else 0
theorem qHw (M B:List Int):(clr M B).length=B.length:=by simp [clr]
def QF (q:List Shr) (M:List Int) (f:Int→Int):Prop:=(q.map (·.1)).Perm M∧∀ x∈q,x.2=f x.1
abbrev QM (q:List Shr) (M B:List Int):Prop:=QF q M λm=>(ld B m:Nat)
theorem QF.perm {q q':List Shr} {f:Int→Int} (h:QF q M f) (hp:q'.Perm q):QF q' M f:=⟨(hp.map _).trans h.1,λx hx=>h.2 x (hp.mem_iff.1 hx)⟩
theorem qVW {i:Nat} {v m:Int} (hi:i < B.length):ld (B.set i v) m+(if B[i]=m+1 then 1 else 0)=ld B m+(if v=m+1 then 1 else 0):=by
 unfold ld
 have e1:B=B.take i ++ B[i] :: B.drop (i+1):=by
  conv=>lhs;rw [← List.take_append_drop i B,List.drop_eq_getElem_cons hi]
 have e2:B.set i v=B.take i ++ v :: B.drop (i+1):=by
  rw [List.set_eq_take_append_cons_drop,if_pos hi]
 rw [e2]
 conv=>rhs;rw [e1]
 simp only [List.count_append,List.count_cons,beq_iff_eq]
 omega
theorem QF.upd {q:List Shr} {j:Nat} {d:Int} {f f':Int→Int} (h:QF q M f) (hnd:M.Nodup) (hj:j < q.length) (h1:f' (at0 q j).1=f (at0 q j).1+d) (h2:∀ m∈M,m≠(at0 q j).1→f' m=f m):QF (upd2 q j d) M f':=by
 have e1:(upd2 q j d).map (·.1)=q.map (·.1):=by
  unfold upd2
  rw [List.map_set]
  apply List.ext_getElem (by simp)
  intro n n1 n2
  rw [List.getElem_set]
  split
  ·rename_i e;subst e;simp [qBe hj]
  ·rfl
 refine ⟨by rw [e1];exact h.1,λx hx=>?_⟩
 obtain ⟨n,hn,rfl⟩:=List.getElem_of_mem hx
 have hn':n < q.length:=by rw [qDa] at hn;exact hn
 by_cases e:n=j
 ·subst e
  have:(upd2 q n d)[n]=((at0 q n).1,(at0 q n).2+d):=by simp [upd2]
  rw [this]
  simp only
  rw [h1,h.2 (at0 q n) (by rw [qBe hj];exact List.getElem_mem hj)]
 ·have hx':(upd2 q j d)[n]=q[n]:=by
   simp [upd2,List.getElem_set_ne (Ne.symm e)]
  rw [hx']
  have hnd2:(q.map (·.1)).Nodup:=h.1.nodup_iff.2 hnd
  have hne:q[n].1≠(at0 q j).1:=by
   intro e2
   rw [qBe hj] at e2
   have hn2:n < (q.map (·.1)).length:=by simpa using hn'
   have hj2:j < (q.map (·.1)).length:=by simpa using hj
   rcases Nat.lt_or_gt_of_ne e with hlt | hlt
   ·exact List.pairwise_iff_getElem.1 hnd2 n j hn2 hj2 hlt (by simpa using e2)
   ·exact List.pairwise_iff_getElem.1 hnd2 j n hj2 hn2 hlt (by simpa using e2.symm)
  have hm:q[n].1∈M:=h.1.mem_iff.1 (List.mem_map.2 ⟨_,List.getElem_mem hn',rfl⟩)
  rw [h.2 _ (List.getElem_mem hn'),h2 _ hm hne]
end Go.AM.WH
namespace Go.AM.WH
open Go Go.Proofs
variable {K:AV→Hq→Prop} {s:Hq} {w bb:Nat} {mv:AV} {cap:Option Nat} {B M:List Int}
structure Qb (s:Hq) (t2 pb db ob qb n:Nat) (pl:List Int) (Q:List Shr):Prop where
 a:s t2=some (false,.cells 123 [.nilptr])
 p:s pb=some (false,.cells 151 (ints pl))
 d:s db=some (false,.cells 156 (qBm Q))
 o:s ob=some (false,.cells 154 [.slc db 0 n (some n) 2])
 q:s qb=some (false,.cells 123 [.ptr ob 0])
variable {t2 pb db ob qb n:Nat} {pl:List Int} {Q:List Shr}
theorem Qb.setP {s':Hq} {pl':List Int} (h:Qb s t2 pb db ob qb n pl Q) (u:Upto pb s s') (hp:s' pb=some (false,.cells 151 (ints pl'))):Qb s' t2 pb db ob qb n pl' Q:=by
 obtain ⟨h1,h2,h3,h4,h5⟩:=h
 have n1:t2≠pb:=by rintro rfl;rw [h1] at h2;cases h2
 have n2:db≠pb:=by rintro rfl;rw [h3] at h2;cases h2
 have n3:ob≠pb:=by rintro rfl;rw [h4] at h2;cases h2
 have n4:qb≠pb:=by rintro rfl;rw [h5] at h2;cases h2
 exact ⟨(u _ n1).trans h1,hp,(u _ n2).trans h3,(u _ n3).trans h4,(u _ n4).trans h5⟩
theorem Qb.setD {s':Hq} {Q':List Shr} (h:Qb s t2 pb db ob qb n pl Q) (u:Upto db s s') (hp:s' db=some (false,.cells 156 (qBm Q'))):Qb s' t2 pb db ob qb n pl Q':=by
 obtain ⟨h1,h2,h3,h4,h5⟩:=h
 have n1:t2≠db:=by rintro rfl;rw [h1] at h3;cases h3
 have n2:pb≠db:=by rintro rfl;rw [h2] at h3;cases h3
 have n3:ob≠db:=by rintro rfl;rw [h4] at h3;cases h3
 have n4:qb≠db:=by rintro rfl;rw [h5] at h3;cases h3
 exact ⟨(u _ n1).trans h1,(u _ n2).trans h2,hp,(u _ n3).trans h4,(u _ n4).trans h5⟩
theorem Qb.setB {s':Hq} {b:Nat} {l:List AV} (h:Qb s t2 pb db ob qb n pl Q) (u:Upto b s s') (hb:s b=some (false,.cells 3 l)):Qb s' t2 pb db ob qb n pl Q:=by
 obtain ⟨h1,h2,h3,h4,h5⟩:=h
 have n1:t2≠b:=by rintro rfl;rw [h1] at hb;cases hb
 have n2:pb≠b:=by rintro rfl;rw [h2] at hb;cases hb
 have n3:db≠b:=by rintro rfl;rw [h3] at hb;cases hb
 have n4:ob≠b:=by rintro rfl;rw [h4] at hb;cases hb
 have n5:qb≠b:=by rintro rfl;rw [h5] at hb;cases hb
 exact ⟨(u _ n1).trans h1,(u _ n2).trans h2,(u _ n3).trans h3,(u _ n4).trans h4,(u _ n5).trans h5⟩
theorem Qb.sub {s':Hq} (h:Qb s t2 pb db ob qb n pl Q) (hs:Sub s s'):Qb s' t2 pb db ob qb n pl Q:=⟨hs _ _ h.a,hs _ _ h.p,hs _ _ h.d,hs _ _ h.o,hs _ _ h.q⟩
def Pl (M:List Int) (i:Nat) (pl:List Int):Prop:=pl.length=128∧(∀ j (hj:j < M.length),j < i→pl[M[j].toNat]?=some ((j:Int)+1))∧∀ k:Nat,k < 128→(∀ j (hj:j < M.length),j < i→M[j]≠(k:Int))→pl[k]?=some 0
theorem Pl.step {i:Nat} (ha:Asc M) (hi:i < M.length) (h:Pl M i pl):Pl M (i+1) (pl.set M[i].toNat ((i:Int)+1)):=by
 obtain ⟨h1,h2,h3⟩:=h
 have hr:=ha.2 _ (List.getElem_mem hi)
 refine ⟨by rw [List.length_set];exact h1,λj hj hji=>?_,λk hk hno=>?_⟩
 ·by_cases e:j=i
  ·subst e
   rw [List.getElem?_set,if_pos rfl,if_pos (by omega)]
  ·have hlt:M[j] < M[i]:=List.pairwise_iff_getElem.1 ha.1 j i hj hi (by omega)
   have hr2:=ha.2 _ (List.getElem_mem hj)
   rw [List.getElem?_set,if_neg (by omega)]
   exact h2 j hj (by omega)
 ·have hne:=hno i hi (by omega)
  rw [List.getElem?_set,if_neg (by omega)]
  exact h3 k hk λj hj hji=>hno j hj (by omega)
def Q1 (M:List Int) (i:Nat) (Q:List Shr):Prop:=Q.length=M.length∧(∀ j (hj:j < M.length),j < i→at0 Q j=(M[j],0))∧∀ j,j < M.length→i≤j→at0 Q j=(0,0)
theorem Q1.step {i:Nat} (hi:i < M.length) (h:Q1 M i Q):Q1 M (i+1) (Q.set i (M[i],(at0 Q i).2)):=by
 obtain ⟨h1,h2,h3⟩:=h
 have e0:=h3 i hi (Nat.le_refl _)
 refine ⟨by rw [List.length_set];exact h1,λj hj hji=>?_,λj hj hij=>?_⟩
 ·rw [qGP (by omega),e0]
  split
  ·rename_i e;subst e;rfl
  ·exact h2 j hj (by omega)
 ·rw [qGP (by omega),if_neg (by omega)]
  exact h3 j hj (by omega)
def Q2 (M B:List Int) (Q:List Shr):Prop:=Q.length=M.length∧∀ j (hj:j < M.length),at0 Q j=(M[j],((ld (clr M B) M[j]:Nat):Int))
theorem qLq {b m:Int}:ld (clr M (B ++ [b])) m=ld (clr M B) m+(if (if b - 1∈M then b else 0)=m+1 then 1 else 0):=by
 unfold ld clr
 rw [List.map_append,List.count_append]
 simp [List.count_singleton]
theorem Q2.qm (ha:Asc M) (h:Q2 M B Q):QM Q M (clr M B):=by
 have e:Q.map (·.1)=M:=by
  apply List.ext_getElem (by simp [h.1])
  intro j h1 h2
  rw [List.getElem_map,← qBe (by simpa using h1),h.2 j h2]
 refine ⟨by rw [e],λx hx=>?_⟩
 obtain ⟨j,hj,rfl⟩:=List.getElem_of_mem hx
 rw [← qBe hj,h.2 j (by rw [← h.1];exact hj)]
theorem qSq {pb k:Nat} (hk:k < 128):qGE 128 1 (.ptr pb 0) (.int .i64 (k:Int))=some (.ptr pb k):=by
 have:Nat.blt k 128=true:=by rw [Nat.blt_eq];exact hk
 simp [qGE,this]
theorem qXq (h:WAt s w bb mv cap B M) (ha:Asc M) (hM:M.length≤256) (hr:∀ b∈B,0≤b∧b≤128) (hfree:∀ b o n c,mv=.slc b o n c 1→M≠[]→¬ b=bb)
  (hK:∀ s' o sb q,WAt s' w bb mv cap (clr M B) M→QAt s' o sb q→QM q M (clr M B)→Hp q 0→s sb=none→s o=none→qAg (λb=>b=bb) s s'→K (.agg [.ptr o 0]) s'):wC TP XX 61 [.ptr w 0] K s:=by
 have hp:=h.pos
 refine qHc (qAS λt2 s1 ht h1 u1=>qAS λpb s2 hpb h2 u2=>?_)
 have sub2:=(u1.sub ht).trans (u2.sub hpb)
 have z2:=h.sub sub2
 simp only [qAJ,qAE,qAM z2.wb,zA,g0Y,g1Y,qAA,z2.ms.len,lMY,nat?_mk]
 refine ⟨⟨Nat.le_refl _,by omega⟩,qAS λdb s3 hdb h3 u3=>?_⟩
 refine qAW (a:=[.slc db 0 M.length (some M.length) 2]) rfl ⟨rfl,qAS λob s4 hob h4 u4=>?_⟩
 refine qAW (a:=[.ptr ob 0]) rfl (qAS λqb s5 hqb h5 u5=>qAl h5 rfl rfl rfl λs6 h6 u6=>?_)
 have sub3:=sub2.trans (u3.sub hdb)
 have sub4:=sub3.trans (u4.sub hob)
 have fresh:∀ {b:Nat} {s':Hq},Sub s s'→s' b=none→s b=none:=fun {b s'} hs hb=>by
  cases e:s b with
  | none=>rfl
  | some x=>rw [hs b x e] at hb;cases hb
 have ft:=ht
 have fp:=fresh (u1.sub ht) hpb
 have fd:=fresh sub2 hdb
 have fo:=fresh sub3 hob
 have fq:=fresh sub4 hqb
 have sub6:Sub s s6:=(sub4.trans (u5.sub hqb)).upto u6 fq
 have h2:s2 pb=some (false,.cells 151 (ints (List.replicate 128 0))):=h2
 have z6:Qb s6 t2 pb db ob qb M.length (List.replicate 128 0) (List.replicate M.length (0,0)):=by
  have e1:s4 t2=_:=u4.at (u3.at (u2.at h1 hpb) hdb) hob
  have e2:s4 pb=_:=u4.at (u3.at h2 hdb) hob
  have e3:s4 db=_:=u4.at h3 hob
  have n1:t2≠qb:=qBl hqb e1
  have n2:pb≠qb:=qBl hqb e2
  have n3:db≠qb:=qBl hqb e3
  have n4:ob≠qb:=qBl hqb h4
  refine ⟨by rw [u6 _ n1];exact u5.at e1 hqb,by rw [u6 _ n2];exact u5.at e2 hqb,?_,by rw [u6 _ n4];exact u5.at h4 hqb,h6⟩
  rw [u6 _ n3,u5.at e3 hqb]
  have:∀ k,repl k [AV.int .i64 0,.int .i64 0]=qBm (List.replicate k (0,0)):=by
   intro k
   induction k with
   | zero=>rfl
   | succ k ih=>rw [repl,ih];rfl
  rw [this]
 have z:=h.sub sub6
 simp only [qAM z.wb,g0Y,g1Y,qAA,z.ms.len,lMY]
 refine ⟨λys s' m=>∃ (i:Nat) (pl:List Int) (Q:List Shr),ys=[.int .i64 i]∧i≤M.length∧m=M.length - i∧Sub s s'∧Qb s' t2 pb db ob qb M.length pl Q∧Pl M i pl∧Q1 M i Q,⟨_,0,_,_,rfl,by omega,rfl,sub6,z6,⟨rfl,λj hj h=>by omega,λk hk _=>by rw [List.getElem?_replicate,if_pos hk]⟩,⟨by simp,λj hj h=>by omega,λj hj _=>by simp [at0,hj]⟩⟩,?_⟩
 rintro f s7 m ⟨i,pl,Q,hy,hi,rfl,sub7,z7,hpl,hq1⟩
 simp only [cI,and_true] at hy
 rw [hy]
 simp only [qEM,qAQ,qAA]
 have w7:=h.sub sub7
 refine qAU (λhlt=>?_) (λhge=>?_)
 ·have hlt:i < M.length:=by have:=oT hlt;omega
  obtain ⟨pp,g1,g2⟩:=qKG w7.ms hlt
  have hmi:=ha.2 _ (List.getElem_mem hlt)
  have e1:qGE 128 1 (.ptr pb 0) (.int .i64 M[i])=some (.ptr pb M[i].toNat):=by
   have:=qSq (pb:=pb) (k:=M[i].toNat) (by omega)
   rwa [Int.toNat_of_nonneg hmi.1] at this
  simp only [g1,g2,qAA,qAT,e1]
  rw [qAf (by omega) (by omega)]
  refine qAm z7.p (by simp [hpl.1];omega) rfl λs8 h8 u8=>?_
  rw [qKu] at h8
  have z8:=z7.setP u8 h8
  have sub8:Sub s s8:=sub7.upto u8 fp
  simp only [qAE,qAA,qAM z8.q,qAM z8.o,zA,g0Y,qAJ,qEX hlt]
  refine qAm z8.d (by rw [qDq,hq1.1];omega) rfl λs9 h9 u9=>?_
  have h9:s9 db=some (false,.cells 156 ((qBm Q).set (i * 2) (.int .i64 M[i]))):=h9
  rw [qOE (by rw [hq1.1];exact hlt)] at h9
  exact ⟨_,by omega,i+1,_,_,rfl,by omega,rfl,sub8.upto u9 fd,z8.setD u9 h9,hpl.step ha hlt,hq1.step hlt⟩
 ·have hge:i=M.length:=by have:=oF hge;omega
  subst hge
  simp only [qAJ,qAE,qAA,qAM w7.wb,zA,g0Y,qBJ]
  have q2:Q2 M [] Q:=⟨hq1.1,λj hj=>by rw [hq1.2.1 j hj hj];rfl⟩
  refine ⟨λys s' m=>∃ (i:Nat) (Q:List Shr),ys=[.int .i64 i]∧i≤B.length∧m=B.length - i∧qAg (λb=>b=bb) s s'∧s' bb=some (false,.cells 3 (ints (clr M (B.take i) ++ B.drop i)))∧Qb s' t2 pb db ob qb M.length pl Q∧Q2 M (B.take i) Q,⟨_,0,Q,rfl,by omega,rfl,sub7.keep,by rw [w7.bs];rfl,z7,q2⟩,?_⟩
  rintro f s8 m ⟨i,Q,hy,hi,rfl,k8,b8,z8,q8⟩
  simp only [cI,and_true] at hy
  rw [hy]
  have w8:s8 w=some (false,.cells 120 [.slc bb 0 B.length cap 1,mv]):=k8 _ _ h.wb h.ne
  simp only [qEQ,qAQ,qAA]
  refine qAU (λhlt=>?_) (λhge=>?_)
  ·have hlt:i < B.length:=by have:=oT hlt;omega
   have hb:=hr _ (List.getElem_mem hlt)
   have ec:(clr M (B.take i)).length=i:=by rw [qHw,List.length_take,Nat.min_eq_left hi]
   have el:B.drop i=B[i] :: B.drop (i+1):=List.drop_eq_getElem_cons hlt
   have et:B.take (i+1)=B.take i ++ [B[i]]:=List.take_succ_eq_append_getElem hlt
   have hrd:rd1 s8 (.ptr bb i)=some (.int .i64 B[i]):=by
    rw [qAM b8,el]
    simp only [ints,List.map_append]
    rw [List.getElem?_append_right (by rw [lMY,ec];omega),lMY,ec,Nat.sub_self]
    rfl
   have fin:∀ (s9:Hq) (Q9:List Shr),qAg (λb=>b=bb) s s9→s9 bb=some (false,.cells 3 (ints (clr M (B.take (i+1)) ++ B.drop (i+1))))→Qb s9 t2 pb db ob qb M.length pl Q9→Q2 M (B.take (i+1)) Q9→
     qBi XX (.int .i64 (i:Int)) (λys s' m=>∃ (i:Nat) (Q:List Shr),ys=[.int .i64 i]∧i≤B.length∧m=B.length - i∧qAg (λb=>b=bb) s s'∧s' bb=some (false,.cells 3 (ints (clr M (B.take i) ++ B.drop i)))∧Qb s' t2 pb db ob qb M.length pl Q∧Q2 M (B.take i) Q) (B.length - i) K s9:=by
    intro s9 Q9 a1 a2 a3 a4
    simp only [qBi,qAT,qAA]
    rw [qAf (by omega) (by omega)]
    exact ⟨_,by omega,i+1,Q9,rfl,by omega,rfl,a1,a2,a3,a4⟩
   have same:(if B[i] - 1∈M then B[i] else 0)=B[i]→clr M (B.take (i+1)) ++ B.drop (i+1)=clr M (B.take i) ++ B.drop i:=by
    intro e
    rw [et,el]
    unfold clr
    rw [List.map_append,List.map_singleton,e,List.append_assoc]
    rfl
   simp only [b_addr hlt,hrd,qAA,qAv,qAi,Bool.false_bne]
   cases hz:(B[i] == 0) with
   | true=>
     have hz:=eq_of_beq hz
     simp only [qAI]
     have e0:(if B[i] - 1∈M then B[i] else 0)=B[i]:=by rw [hz];split <;> rfl
     refine fin s8 Q k8 (by rw [same e0];exact b8) z8 ⟨q8.1,λj hj=>?_⟩
     rw [q8.2 j hj,et,qLq,e0,hz,if_neg (by have:=ha.2 _ (List.getElem_mem hj);omega)]
     rfl
   | false=>
     have hz:B[i]≠0:=λe=>by rw [e] at hz;simp at hz
     have hk:(B[i] - 1).toNat < 128:=by omega
     have ew:IntKind.i64.wrap (B[i] - 1)=(((B[i] - 1).toNat:Nat):Int):=by rw [qAf (by omega) (by omega)];omega
     have e1:=qSq (pb:=pb) hk
     simp only [qAB,qBO,qAA,ew,e1]
     by_cases hin:B[i] - 1∈M
     ·obtain ⟨j,hj,ej⟩:=List.getElem_of_mem hin
      have hpl2:=hpl.2.1 j hj hj
      rw [ej] at hpl2
      have hrp:rd1 s8 (.ptr pb (B[i] - 1).toNat)=some (.int .i64 ((j:Int)+1)):=by
       rw [qAM z8.p]
       simp only [ints,List.getElem?_map,hpl2,Option.map_some]
      have hne:(((j:Int)+1) == 0)=false:=by
       cases hq:(((j:Int)+1) == 0) with
       | false=>rfl
       | true=>have:=eq_of_beq hq;omega
      have ej1:IntKind.i64.wrap ((j:Int)+1 - 1)=(j:Int):=by rw [qAf (by omega) (by omega)];omega
      have hlj:j < Q.length:=by rw [q8.1];exact hj
      have hq2:QAt s8 ob db Q:=⟨⟨_,by rw [q8.1];exact z8.o⟩,z8.d,λx hx=>by
       obtain ⟨m,hm,rfl⟩:=List.getElem_of_mem hx
       have hm2:m < M.length:=by rw [← q8.1];exact hm
       rw [← qBe hm,q8.2 m hm2]
       have:=ha.2 _ (List.getElem_mem hm2)
       exact ⟨this.1,by show M[m] < 1000;omega⟩,by rw [q8.1];omega⟩
      have hrow:=(hq2.row hlj).2.2
      have hcnt:ld (clr M (B.take i)) M[j]≤256:=by
       refine Nat.le_trans List.count_le_length ?_
       rw [ec];omega
      simp only [hrp,qAA,qAv,qAi,Bool.false_bne,hne,qAB,qAE,qAM z8.q,qAM z8.o,zA,g0Y,qAJ,qBO,ew,e1,ej1,qEX hj,hrow,qAT]
      rw [q8.2 j hj]
      simp only
      rw [qAf (by omega) (by omega)]
      refine qAm z8.d (by rw [qDq];omega) rfl λs9 h9 u9=>?_
      rw [qLp hlj] at h9
      have e0:(if B[i] - 1∈M then B[i] else 0)=B[i]:=if_pos hin
      have nb:bb≠db:=by rintro rfl;have:=z8.d;rw [b8] at this;cases this
      refine fin s9 _ (λx e hx hn=>by rw [u9 x (qBl fd hx)];exact k8 x e hx hn) (by rw [same e0,u9 bb nb];exact b8) (z8.setD u9 h9) ⟨by rw [List.length_set];exact q8.1,λm hm=>?_⟩
      ·rw [qGP hlj,et,qLq,e0]
       split
       ·rename_i e
        subst e
        rw [q8.2 m hm,ej,if_pos (by omega)]
        rfl
       ·rename_i e
        have hne2:¬ B[i]=M[m]+1:=λe2=>by
         have:M[m]=M[j]:=by omega
         rcases Nat.lt_or_gt_of_ne e with hlt | hlt
         ·have:=List.pairwise_iff_getElem.1 ha.1 m j hm hj hlt;omega
         ·have:=List.pairwise_iff_getElem.1 ha.1 j m hj hm hlt;omega
        rw [q8.2 m hm,if_neg hne2]
        rfl
     ·have hpl3:=hpl.2.2 (B[i] - 1).toNat hk λj hj _ e=>hin (by
       have e2:M[j]=B[i] - 1:=by rw [e];omega
       rw [← e2];exact List.getElem_mem hj)
      have hrp:rd1 s8 (.ptr pb (B[i] - 1).toNat)=some (.int .i64 0):=by
       rw [qAM z8.p]
       simp only [ints,List.getElem?_map,hpl3,Option.map_some]
      simp only [hrp,qAA,qAv,qAi,Bool.false_bne,beq_self_eq_true,qAI,qAJ,qAE,qAM w8,zA,g0Y,b_addr hlt]
      refine qAm b8 (by simp [ints,ec];omega) rfl λs9 h9 u9=>?_
      rw [qKu] at h9
      have e0:(if B[i] - 1∈M then B[i] else 0)=0:=if_neg hin
      have el2:(clr M (B.take i) ++ B.drop i).set i 0=clr M (B.take (i+1)) ++ B.drop (i+1):=by
       rw [List.set_append_right _ _ (by rw [ec];omega),ec,Nat.sub_self,el,List.set_cons_zero,et]
       unfold clr
       rw [List.map_append,List.map_singleton,e0,List.append_assoc]
       rfl
      rw [el2] at h9
      refine fin s9 Q (k8.trans (u9.keep (fp:=λb=>b=bb) rfl)) h9 (z8.setB u9 b8) ⟨q8.1,λj hj=>?_⟩
      rw [q8.2 j hj,et,qLq,e0,if_neg (by have:=ha.2 _ (List.getElem_mem hj);omega)]
      rfl
  ·have hge:i=B.length:=by have:=oF hge;omega
   subst hge
   rw [List.take_length,List.drop_length,List.append_nil] at b8
   rw [List.take_length] at q8
   have hq2:QAt s8 ob db Q:=⟨⟨_,by rw [q8.1];exact z8.o⟩,z8.d,λx hx=>by
    obtain ⟨m,hm,rfl⟩:=List.getElem_of_mem hx
    have hm2:m < M.length:=by rw [← q8.1];exact hm
    rw [← qBe hm,q8.2 m hm2]
    have:=ha.2 _ (List.getElem_mem hm2)
    exact ⟨this.1,by show M[m] < 1000;omega⟩,by rw [q8.1];omega⟩
   refine qAW (qA7 z8.q rfl) (qXr hq2 λs9 q9 z9 p9 hh9 k9=>?_)
   have n4:¬ qb=db:=by rintro rfl;have:=z8.q;rw [z8.d] at this;cases this
   have n1:¬ t2=db:=by rintro rfl;have:=z8.a;rw [z8.d] at this;cases this
   have n5:¬ bb=db:=by rintro rfl;rw [z8.d] at b8;cases b8
   refine qAW (qA7 (k9 _ _ z8.q n4) rfl) (qAl (k9 _ _ z8.a n1) rfl rfl rfl λs10 h10 u10=>qAW (qA7 h10 rfl) ?_)
   have k10:qAg (λb=>b=bb) s s10:=λx e hx hn=>by
    rw [u10 x (qBl ft hx)]
    exact k9 x e (k8 x e hx hn) (λe2=>by rw [e2,fd] at hx;cases hx)
   have nbt:bb≠t2:=by rintro rfl;rw [h.bs] at ft;cases ft
   have b10:s10 bb=some (false,.cells 3 (ints (clr M B))):=by rw [u10 bb nbt];exact k9 _ _ b8 n5
   have not:ob≠t2:=by rintro rfl;have:=z8.o;rw [z8.a] at this;cases this
   have ndt:db≠t2:=by rintro rfl;have:=z8.d;rw [z8.a] at this;cases this
   obtain ⟨tt,ho9⟩:=z9.ob
   refine hK s10 ob db q9 ⟨by rw [qHw];exact k10 _ _ h.wb h.ne,b10,h.ms.keep k10 λb' o' n' c' e hl=>hfree b' o' n' c' e (by simpa using hl),by rw [qHw];exact h.cp,by rw [qHw];exact h.pos⟩ ⟨⟨tt,by rw [u10 ob not];exact ho9⟩,by rw [u10 db ndt];exact z9.dt,z9.rg,z9.ln⟩ ((q8.qm ha).perm p9) hh9 fd fo k10
end Go.AM.WH
namespace Go.AM.WH
open Go Go.Proofs
variable {K:AV→Hq→Prop} {s:Hq} {w bb o sb:Nat} {mv:AV} {cap:Option Nat} {B M:List Int} {q:List Shr}
inductive Stp (M:List Int):List Int→List Int→Prop
 | fill {B:List Int} {i:Nat} {t:Int} (hi:i < B.length) (h0:B[i]=0) (ht:t∈M) (hmin:∀ a∈M,ld B t≤ld B a) (hfst:∀ k (hk:k < B.length),k < i→B[k]≠0) (htie:∀ a∈M,ld B a=ld B t→t≤a):Stp M B (B.set i (t+1))
 | move {B:List Int} {i:Nat} {f t:Int} (hi:i < B.length) (hf:B[i]=f+1) (hfr:f∈M) (ht:t∈M) (hmin:∀ a∈M,ld B t≤ld B a) (hmax:∀ a∈M,ld B a≤ld B f) (hd:ld B t+1 < ld B f) (hnz:∀ b∈B,b≠0) (hlst:∀ k (hk:k < B.length),i < k→B[k]≠f+1) (htie:∀ a∈M,ld B a=ld B t→t≤a) (hftie:∀ a∈M,ld B a=ld B f→a≤f):Stp M B (B.set i (t+1))
inductive Rch (M:List Int) (B:List Int):List Int→Prop
 | refl:Rch M B B
 | tail {B1 B2:List Int} (h:Rch M B B1) (h2:Stp M B1 B2):Rch M B B2
theorem Stp.len {B B':List Int} (h:Stp M B B'):B'.length=B.length:=by cases h <;> simp
theorem Rch.len {B B':List Int} (h:Rch M B B'):B'.length=B.length:=by
 induction h with
 | refl=>rfl
 | tail _ h2 ih=>rw [h2.len,ih]
structure St (s:Hq) (w bb:Nat) (mv:AV) (cap:Option Nat) (o sb:Nat) (B M:List Int) (q:List Shr):Prop where
 wa:WAt s w bb mv cap B M
 qa:QAt s o sb q
 qm:QM q M B
 hp:Hp q 0
 fr:∀ b o n c,mv=.slc b o n c 1→M≠[]→¬ (b=bb∨b=sb)
 asc:Asc M
 rg:∀ b∈B,0≤b∧b≤128
theorem St.nbs (h:St s w bb mv cap o sb B M q):bb≠sb:=by
 rintro rfl
 have:=h.wa.bs
 rw [h.qa.dt] at this;cases this
theorem St.nws (h:St s w bb mv cap o sb B M q):w≠sb:=by
 rintro rfl
 have:=h.wa.wb
 rw [h.qa.dt] at this;cases this
theorem St.nob (h:St s w bb mv cap o sb B M q):o≠bb:=by
 rintro rfl
 obtain ⟨t,ho⟩:=h.qa.ob
 rw [h.wa.bs] at ho;cases ho
theorem St.qlen (h:St s w bb mv cap o sb B M q):q.length=M.length:=by have:=h.qm.1.length_eq;simpa using this
theorem St.mem (h:St s w bb mv cap o sb B M q) {i:Nat} (hi:i < q.length):(at0 q i).1∈M∧(at0 q i).2=(ld B (at0 q i).1:Nat)∧0≤(at0 q i).1∧(at0 q i).1 < 128:=by
 have h1:at0 q i∈q:=by rw [qBe hi];exact List.getElem_mem hi
 have h2:(at0 q i).1∈M:=h.qm.1.mem_iff.1 (List.mem_map.2 ⟨_,h1,rfl⟩)
 exact ⟨h2,h.qm.2 _ h1,h.asc.2 _ h2⟩
theorem qVv (B:List Int) (m:Int):ld B m≤B.length:=List.count_le_length
theorem St.find (h:St s w bb mv cap o sb B M q) {a:Int} (ha:a∈M):∃ j,j < q.length∧(at0 q j).1=a:=by
 have:=h.qm.1.mem_iff.2 ha
 obtain ⟨x,hx,rfl⟩:=List.mem_map.1 this
 obtain ⟨j,hj,rfl⟩:=List.getElem_of_mem hx
 exact ⟨j,hj,by rw [qBe hj]⟩
theorem St.least (h:St s w bb mv cap o sb B M q) (hq:0 < q.length):∀ a∈M,ld B (at0 q 0).1≤ld B a:=λa ha=>by
 obtain ⟨j,hj,e⟩:=h.find ha
 have k:=h.hp.root j hj
 unfold ky key at k
 have m0:=h.mem hq
 have mj:=h.mem hj
 rw [e] at mj k
 omega
theorem St.tie (h:St s w bb mv cap o sb B M q) (hq:0 < q.length):∀ a∈M,ld B a=ld B (at0 q 0).1→(at0 q 0).1≤a:=λa ha e0=>by
 obtain ⟨j,hj,e⟩:=h.find ha
 have k:=h.hp.root j hj
 unfold ky key at k
 have m0:=h.mem hq
 have mj:=h.mem hj
 rw [e] at mj k
 omega
theorem Asc.nodup (h:Asc M):M.Nodup:=h.1.imp λh=>by omega
theorem St.setB {s':Hq} {B':List Int} (h:St s w bb mv cap o sb B M q) (u:Upto bb s s') (hb:s' bb=some (false,.cells 3 (ints B'))) (hl:B'.length=B.length):WAt s' w bb mv cap B' M∧QAt s' o sb q:=by
 obtain ⟨t,ho⟩:=h.qa.ob
 refine ⟨⟨by rw [hl,u w h.wa.ne];exact h.wa.wb,hb,h.wa.ms.keep (fp:=λb=>b=bb) (u.keep rfl) λb' o' n' c' e hne=>λe2=>h.fr b' o' n' c' e (by simpa using hne) (.inl e2),by rw [hl];exact h.wa.cp,by rw [hl];exact h.wa.pos⟩,⟨⟨t,by rw [u o h.nob];exact ho⟩,by rw [u sb h.nbs.symm];exact h.qa.dt,h.qa.rg,h.qa.ln⟩⟩
theorem WAt.keepQ {s':Hq} (h:WAt s w bb mv cap B M) (k:qAg (λb=>b=sb) s s') (hw:w≠sb) (hb:bb≠sb) (fr:∀ b o n c,mv=.slc b o n c 1→M≠[]→¬ (b=bb∨b=sb)):WAt s' w bb mv cap B M:=
 ⟨k _ _ h.wb hw,k _ _ h.bs hb,h.ms.keep k λb' o' n' c' e hne=>λe2=>fr b' o' n' c' e (by simpa using hne) (.inr e2),h.cp,h.pos⟩
theorem qZQ (h:St s w bb mv cap o sb B M q) (hM:M≠[]) (hK:∀ s' B' q',St s' w bb mv cap o sb B' M q'→Rch M B B'→(∀ b∈B',b≠0)→qAg (λb=>b=bb∨b=sb) s s'→K (.tup []) s'):wC TP XX 62 [.ptr w 0,.agg [.ptr o 0]] K s:=by
 refine qH5 ⟨rfl,qAS λx s1 hx h1 u1=>?_⟩
 have h1:s1 x=some (false,.cells 123 [.ptr o 0]):=h1
 have sub1:=u1.sub hx
 have hpos:=h.wa.pos
 simp only [qAJ,qAE,qAM (h.wa.sub sub1).wb,zA,g0Y,qAA,qBJ]
 have h01:St s1 w bb mv cap o sb B M q:=⟨h.wa.sub sub1,h.qa.sub sub1,h.qm,h.hp,h.fr,h.asc,h.rg⟩
 refine ⟨λys s' n=>∃ (i:Nat) (B':List Int) (q':List Shr),ys=[.int .i64 i]∧i≤B.length∧n=B.length - i∧St s' w bb mv cap o sb B' M q'∧Rch M B B'∧(∀ k (hk:k < B'.length),k < i→B'[k]≠0)∧qAg (λb=>b=bb∨b=sb) s s'∧s' x=some (false,.cells 123 [.ptr o 0]),⟨_,0,B,q,rfl,by omega,rfl,h01,.refl,λk hk h=>by omega,sub1.keep,h1⟩,?_⟩
 rintro f s2 n ⟨i,B',q',hy,hi,rfl,z,rc,nz,kp,hx2⟩
 simp only [cI,and_true] at hy
 rw [hy]
 have hlB:=rc.len
 have hxb:x≠bb:=by rintro rfl;rw [z.wa.bs] at hx2;cases hx2
 have hxs:x≠sb:=by rintro rfl;rw [z.qa.dt] at hx2;cases hx2
 simp only [qEi,qAQ,qAA]
 refine qAU (λhlt=>?_) (λhge=>?_)
 ·have hlt:i < B.length:=by have:=oT hlt;omega
  have hlt':i < B'.length:=by omega
  have fin:∀ (s3:Hq) (B3:List Int) (q3:List Shr),St s3 w bb mv cap o sb B3 M q3→Rch M B B3→(∀ k (hk:k < B3.length),k < i+1→B3[k]≠0)→qAg (λb=>b=bb∨b=sb) s s3→s3 x=some (false,.cells 123 [.ptr o 0])→
    qCD XX (.int .i64 (i:Int)) (λys s' n=>∃ (i:Nat) (B':List Int) (q':List Shr),ys=[.int .i64 i]∧i≤B.length∧n=B.length - i∧St s' w bb mv cap o sb B' M q'∧Rch M B B'∧(∀ k (hk:k < B'.length),k < i→B'[k]≠0)∧qAg (λb=>b=bb∨b=sb) s s'∧s' x=some (false,.cells 123 [.ptr o 0])) (B.length - i) K s3:=by
   intro s3 B3 q3 a1 a2 a3 a4 a5
   simp only [qCD,qAT,qAA]
   rw [qAf (by omega) (by omega)]
   exact ⟨_,by omega,i+1,B3,q3,rfl,by omega,rfl,a1,a2,a3,a4,a5⟩
  have hb:=z.rg _ (List.getElem_mem hlt')
  simp only [b_addr hlt,qAM z.wa.bs,ints_at hlt',qAA,qAv,qAi,Bool.false_bne]
  cases hz:(B'[i] == 0) with
  | false=>
    have hz:B'[i]≠0:=λe=>by rw [e] at hz;simp at hz
    simp only [qAB]
    exact fin s2 B' q' z rc (λk hk hki=>by
     by_cases e:k=i
     ·subst e;exact hz
     ·exact nz k hk (by omega)) kp hx2
  | true=>
    have hz:=eq_of_beq hz
    have hq:0 < q'.length:=by
     rw [z.qlen]
     cases M with
     | nil=>exact absurd rfl hM
     | cons a r=>simp
    obtain ⟨tt,ho⟩:=z.qa.ob
    have mm:=z.mem hq
    have row:rd1 s2 (.ptr sb 0)=some (.int .i64 (at0 q' 0).1):=(z.qa.row hq).2.1
    have qa0:qAO 2 (.slc sb 0 q'.length (some q'.length) 2) (.int .i64 0)=some (.ptr sb 0):=qEX (i:=0) hq
    simp only [qAI,qAJ,qAE,qAM z.wa.wb,qAM hx2,qAM ho,zA,g0Y,qAA,qa0,Nat.add_zero,row,qAT,b_addr hlt']
    rw [qAf (by omega) (by omega)]
    refine qAm z.wa.bs (by simp [ints];exact hlt') rfl λs3 h3 u3=>?_
    rw [qKu] at h3
    obtain ⟨wa3,qa3⟩:=z.setB u3 h3 (by simp)
    refine qAW (qA7 ((u3 x hxb).trans hx2) rfl) ?_
    have hle:ld B' (at0 q' 0).1≤B'.length:=qVv _ _
    refine qOl qa3 z.hp hq ⟨by rw [mm.2.1];omega,by rw [mm.2.1];omega⟩ λs4 q4 qa4 p4 hh4 k4=>?_
    have l1:∀ m,0≤m→(ld (B'.set i ((at0 q' 0).1+1)) m:Nat)=ld B' m+(if (at0 q' 0).1=m then 1 else 0):=by
     intro m hm0
     have:=qVW (B:=B') (i:=i) (v:=(at0 q' 0).1+1) (m:=m) hlt'
     by_cases e:(at0 q' 0).1=m
     ·rw [if_pos e]
      rw [if_pos (show (at0 q' 0).1+1=m+1 by omega)] at this
      rw [if_neg (show ¬ B'[i]=m+1 by omega)] at this
      omega
     ·rw [if_neg e]
      rw [if_neg (show ¬ (at0 q' 0).1+1=m+1 by omega)] at this
      rw [if_neg (show ¬ B'[i]=m+1 by omega)] at this
      omega
    have qm4:QM q4 M (B'.set i ((at0 q' 0).1+1)):=(z.qm.upd z.asc.nodup hq (by show ((ld _ _:Nat):Int)=_;rw [l1 _ mm.2.2.1,if_pos rfl];omega) λm hm hne=>by
     show ((ld _ _:Nat):Int)=_
     rw [l1 _ (z.asc.2 m hm).1,if_neg (λe=>hne e.symm)]
     rfl).perm p4
    have st4:St s4 w bb mv cap o sb (B'.set i ((at0 q' 0).1+1)) M q4:=⟨wa3.keepQ k4 z.nws z.nbs z.fr,qa4,qm4,hh4,z.fr,z.asc,λb hb=>by
     rcases List.mem_or_eq_of_mem_set hb with h | rfl
     ·exact z.rg b h
     ·omega⟩
    refine fin s4 _ q4 st4 (rc.tail (.fill hlt' hz mm.1 (z.least hq) (λk hk hki=>nz k hk hki) (z.tie hq))) (λk hk hki=>?_) (kp.trans ((u3.keep (fp:=λb=>b=bb∨b=sb) (.inl rfl)).trans (k4.mono λb e=>.inr e))) (k4 _ _ ((u3 x hxb).trans hx2) hxs)
    rw [List.getElem_set]
    split
    ·omega
    ·have hk':k < B'.length:=by simpa using hk
     exact nz k hk' (by omega)
 ·have hge:i=B.length:=by have:=oF hge;omega
  subst hge
  refine hK s2 B' q' z rc (λb hb=>?_) kp
  obtain ⟨k,hk,rfl⟩:=List.getElem_of_mem hb
  exact nz k hk (by omega)
def pot (M B:List Int):Nat:=(M.map λm=>ld B m * ld B m).sum
theorem qSw {l l':List Nat} (h:l.Perm l'):l.sum=l'.sum:=by
 induction h with
 | nil=>rfl
 | cons x _ ih=>simp [ih]
 | swap x y l=>simp;omega
 | trans _ _ h1 h2=>rw [h1,h2]
theorem qSs {B':List Int} {f t:Int} (hnd:M.Nodup) (hf:f∈M) (ht:t∈M) (hd:ld B t+1 < ld B f) (h1:ld B' f+1=ld B f) (h2:ld B' t=ld B t+1) (h3:∀ m∈M,m≠f→m≠t→ld B' m=ld B m):pot M B' < pot M B:=by
 have hne:t≠f:=by rintro rfl;omega
 have p1:=List.perm_cons_erase hf
 have ht2:t∈M.erase f:=(List.mem_erase_of_ne hne).2 ht
 have p2:=List.perm_cons_erase ht2
 have p:M.Perm (f :: t :: (M.erase f).erase t):=p1.trans (p2.cons f)
 have e1:pot M B'=(List.map (λm=>ld B' m * ld B' m) (f :: t :: (M.erase f).erase t)).sum:=qSw (p.map _)
 have e2:pot M B=(List.map (λm=>ld B m * ld B m) (f :: t :: (M.erase f).erase t)).sum:=qSw (p.map _)
 have nd:=p.nodup_iff.1 hnd
 have e3:List.map (λm=>ld B' m * ld B' m) ((M.erase f).erase t)=List.map (λm=>ld B m * ld B m) ((M.erase f).erase t):=by
  refine List.map_congr_left λm hm=>?_
  have hmM:m∈M:=p.mem_iff.2 (by simp [hm])
  have n1:m≠f:=by
   rintro rfl
   have:=(List.nodup_cons.1 nd).1
   exact this (by simp [hm])
  have n2:m≠t:=by
   rintro rfl
   exact (List.nodup_cons.1 (List.nodup_cons.1 nd).2).1 hm
  rw [h3 m hmM n1 n2]
 rw [e1,e2]
 simp only [List.map_cons,List.sum_cons,e3,h2]
 obtain ⟨a,ha⟩:∃ a,ld B f=ld B t+2+a:=⟨ld B f - ld B t - 2,by omega⟩
 have hb:ld B' f=ld B t+1+a:=by omega
 rw [ha,hb]
 generalize ld B t=b
 have:(b+1+a) * (b+1+a)+(b+1) * (b+1) < (b+2+a) * (b+2+a)+b * b:=by
  simp only [Nat.add_mul,Nat.mul_add,Nat.mul_one,Nat.one_mul]
  have:=Nat.mul_comm a b
  omega
 omega
theorem qTZ (h:St s w bb mv cap o sb B M q) (hM:M≠[]) (hnz:∀ b∈B,b≠0) (hK:∀ s' B' q',St s' w bb mv cap o sb B' M q'→Rch M B B'→(∀ b∈B',b≠0)→(∀ a∈M,∀ c∈M,ld B' a≤ld B' c+1)→qAg (λb=>b=bb∨b=sb) s s'→K (.tup []) s'):wC TP XX 63 [.ptr w 0,.agg [.ptr o 0]] K s:=by
 refine qGj ⟨rfl,qAS λx s1 hx h1 u1=>?_⟩
 have h1:s1 x=some (false,.cells 123 [.ptr o 0]):=h1
 have sub1:=u1.sub hx
 have hpos:=h.wa.pos
 have h01:St s1 w bb mv cap o sb B M q:=⟨h.wa.sub sub1,h.qa.sub sub1,h.qm,h.hp,h.fr,h.asc,h.rg⟩
 refine ⟨λys s' n=>∃ (B':List Int) (q':List Shr),n=pot M B'∧St s' w bb mv cap o sb B' M q'∧Rch M B B'∧(∀ b∈B',b≠0)∧qAg (λb=>b=bb∨b=sb) s s'∧s' x=some (false,.cells 123 [.ptr o 0]),⟨_,B,q,rfl,h01,.refl,hnz,sub1.keep,h1⟩,?_⟩
 rintro f s2 n ⟨B',q',rfl,z,rc,nz,kp,hx2⟩
 have hlB:=rc.len
 have hq:0 < q'.length:=by
  rw [z.qlen]
  cases M with
  | nil=>exact absurd rfl hM
  | cons a r=>simp
 unfold qDi
 refine qAW (qA7 hx2 rfl) (qYk z.qa hq λs3 m sub3 hm hmax=>?_)
 have z3:St s3 w bb mv cap o sb B' M q':=⟨z.wa.sub sub3,z.qa.sub sub3,z.qm,z.hp,z.fr,z.asc,z.rg⟩
 have hx3:=sub3 _ _ hx2
 obtain ⟨tt,ho⟩:=z3.qa.ob
 have mm:=z3.mem hm
 have m0:=z3.mem hq
 have row0:rd1 s3 (.ptr sb 0)=some (.int .i64 (at0 q' 0).1)∧rd1 s3 (.ptr sb 1)=some (.int .i64 (at0 q' 0).2):=⟨(z3.qa.row hq).2.1,(z3.qa.row hq).2.2⟩
 have rowm:=(z3.qa.row hm).2
 have qa0:qAO 2 (.slc sb 0 q'.length (some q'.length) 2) (.int .i64 0)=some (.ptr sb 0):=qEX (i:=0) hq
 have l0:ld B' (at0 q' 0).1≤B'.length:=qVv _ _
 have lm:ld B' (at0 q' m).1≤B'.length:=qVv _ _
 have hmaxl:∀ a∈M,ld B' a≤ld B' (at0 q' m).1:=λa ha=>by
  obtain ⟨j,hj,e⟩:=z3.find ha
  have k:=hmax j hj
  unfold ky key at k
  have mj:=z3.mem hj
  rw [e] at mj k
  omega
 have htieM:∀ a∈M,ld B' a=ld B' (at0 q' m).1→a≤(at0 q' m).1:=λa ha e0=>by
  obtain ⟨j,hj,e⟩:=z3.find ha
  have k:=hmax j hj
  unfold ky key at k
  have mj:=z3.mem hj
  rw [e] at mj k
  omega
 simp only [qAE,qAM hx3,qAM ho,zA,g0Y,qAJ,qAA,qa0,qEX hm,row0.2,rowm.2,qBO]
 rw [mm.2.1,m0.2.1,qAf (by omega) (by omega)]
 simp only [qI1,qAA]
 refine qAU (λhle=>?_) (λhgt=>?_)
 ·have hle:=oT hle
  refine hK s3 B' q' z3 rc nz (λa ha c hc=>?_) (kp.trans sub3.keep)
  have:=hmaxl a ha
  have:=z3.least hq c hc
  omega
 ·have hgt:=oF hgt
  have hin:(at0 q' m).1+1∈B':=by
   have:0 < ld B' (at0 q' m).1:=by omega
   exact List.count_pos_iff.1 this
  simp only [qAJ,qAE,qAM z3.wa.wb,qAM hx3,qAM ho,zA,g0Y,qAA,qEX hm,Nat.add_zero,rowm.1]
  refine qZK (qBX z3.wa.wb) (qBX z3.wa.bs) z3.wa.pos mm.2.2 hin λi hi hBi hlst _=>?_
  rw [qPL,qXW]
  simp only [qAE,qAM hx3,qAM ho,zA,g0Y,qAJ,qAA,qa0,Nat.add_zero,row0.1,qAT,b_addr hi]
  rw [qAf (by omega) (by omega)]
  refine qAm z3.wa.bs (by simp [ints];exact hi) rfl λs4 h4 u4=>?_
  rw [qKu] at h4
  obtain ⟨wa4,qa4⟩:=z3.setB u4 h4 (by simp)
  have hxb:x≠bb:=by rintro rfl;rw [z3.wa.bs] at hx3;cases hx3
  have hxs:x≠sb:=by rintro rfl;rw [z3.qa.dt] at hx3;cases hx3
  have hx4:=(u4 x hxb).trans hx3
  refine qAW (qA7 hx4 rfl) (qUA qa4 z3.hp hm ⟨by rw [mm.2.1];omega,by rw [mm.2.1];omega⟩ λs5 q5 qa5 p5 hh5 k5=>?_)
  have hx5:=k5 _ _ hx4 hxs
  have hmt:(at0 q' m).1≠(at0 q' 0).1:=λe=>by rw [e] at hgt;omega
  have hm0:m≠0:=by rintro rfl;exact hmt rfl
  have hq5:0 < q5.length:=by rw [p5.length_eq,qDa];exact hq
  have root:at0 q5 0=at0 q' 0:=by
   have hin5:at0 q5 0∈upd2 q' m (-1):=p5.mem_iff.1 (by rw [qBe hq5];exact List.getElem_mem hq5)
   have h0in:at0 q' 0∈upd2 q' m (-1):=by
    have:at0 (upd2 q' m (-1)) 0=at0 q' 0:=by unfold upd2;rw [qGP hm,if_neg (Ne.symm hm0)]
    rw [← this,qBe (by rw [qDa];exact hq)]
    exact List.getElem_mem _
   obtain ⟨j,hj,ej⟩:=List.getElem_of_mem (p5.mem_iff.2 h0in)
   have k1:=hh5.root j hj
   have k1':key (at0 q5 0)≤key (at0 q' 0):=by
    unfold ky at k1
    rwa [qBe hj,ej] at k1
   obtain ⟨i2,hi2,ei2⟩:=List.getElem_of_mem hin5
   have hi2':i2 < q'.length:=by rw [qDa] at hi2;exact hi2
   have e5:at0 (upd2 q' m (-1)) i2=at0 q5 0:=by rw [qBe hi2,ei2]
   have mi:=z3.mem hi2'
   have kr:=z3.hp.root i2 hi2'
   unfold upd2 at e5
   rw [qGP hm] at e5
   unfold ky key at kr
   unfold key at k1'
   by_cases e:i2=m
   ·rw [if_pos e] at e5
    rw [← e5] at k1'
    simp only at k1'
    omega
   ·rw [if_neg e] at e5
    rw [← e5] at k1' ⊢
    obtain ⟨a1,a2⟩:(at0 q' i2).2=(at0 q' 0).2∧(at0 q' i2).1=(at0 q' 0).1:=by omega
    exact Prod.ext a2 a1
  have l1:∀ a,ld (B'.set i ((at0 q' 0).1+1)) a+(if (at0 q' m).1=a then 1 else 0)=ld B' a+(if (at0 q' 0).1=a then 1 else 0):=by
   intro a
   have:=qVW (B:=B') (i:=i) (v:=(at0 q' 0).1+1) (m:=a) hi
   by_cases e1:(at0 q' m).1=a
   ·rw [if_pos e1]
    rw [if_pos (show B'[i]=a+1 by omega)] at this
    by_cases e2:(at0 q' 0).1=a
    ·exact absurd (e1.trans e2.symm) hmt
    ·rw [if_neg e2]
     rw [if_neg (show ¬ (at0 q' 0).1+1=a+1 by omega)] at this
     exact this
   ·rw [if_neg e1]
    rw [if_neg (show ¬ B'[i]=a+1 by omega)] at this
    by_cases e2:(at0 q' 0).1=a
    ·rw [if_pos e2]
     rw [if_pos (show (at0 q' 0).1+1=a+1 by omega)] at this
     exact this
    ·rw [if_neg e2]
     rw [if_neg (show ¬ (at0 q' 0).1+1=a+1 by omega)] at this
     exact this
  have lf:ld (B'.set i ((at0 q' 0).1+1)) (at0 q' m).1+1=ld B' (at0 q' m).1:=by
   have:=l1 (at0 q' m).1
   rw [if_pos rfl,if_neg (λe=>hmt e.symm)] at this
   exact this
  have lt:ld (B'.set i ((at0 q' 0).1+1)) (at0 q' 0).1=ld B' (at0 q' 0).1+1:=by
   have:=l1 (at0 q' 0).1
   rw [if_neg hmt,if_pos rfl] at this
   exact this
  have lo:∀ a,a≠(at0 q' m).1→a≠(at0 q' 0).1→ld (B'.set i ((at0 q' 0).1+1)) a=ld B' a:=λa e1 e2=>by
   have:=l1 a
   rw [if_neg (Ne.symm e1),if_neg (Ne.symm e2)] at this
   exact this
  have qf5:QF q5 M λa=>(ld B' a:Int) - (if (at0 q' m).1=a then 1 else 0):=(z3.qm.upd z3.asc.nodup hm (by show (ld B' (at0 q' m).1:Int) - (if (at0 q' m).1=(at0 q' m).1 then 1 else 0)=_;rw [if_pos rfl];rfl) λa ha hne=>by
   show (ld B' a:Int) - (if (at0 q' m).1=a then 1 else 0)=_
   rw [if_neg (Ne.symm hne)];simp).perm p5
  refine qAW (qA7 hx5 rfl) (qOl qa5 hh5 hq5 ⟨by rw [root,m0.2.1];omega,by rw [root,m0.2.1];omega⟩ λs6 q6 qa6 p6 hh6 k6=>?_)
  have qm6:QM q6 M (B'.set i ((at0 q' 0).1+1)):=(qf5.upd z3.asc.nodup hq5 (by
   rw [root]
   show ((ld _ _:Nat):Int)=(ld B' (at0 q' 0).1:Int) - (if (at0 q' m).1=(at0 q' 0).1 then 1 else 0)+1
   rw [lt,if_neg hmt];omega) λa ha hne=>by
   rw [root] at hne
   show ((ld _ _:Nat):Int)=(ld B' a:Int) - (if (at0 q' m).1=a then 1 else 0)
   have:=l1 a
   rw [if_neg (Ne.symm hne)] at this
   split
   ·rename_i e;rw [if_pos e] at this;omega
   ·rename_i e;rw [if_neg e] at this;omega).perm p6
  have wa6:=(wa4.keepQ k5 z3.nws z3.nbs z3.fr).keepQ k6 z3.nws z3.nbs z3.fr
  have stp:Stp M B' (B'.set i ((at0 q' 0).1+1)):=.move hi hBi mm.1 m0.1 (z3.least hq) hmaxl (by omega) nz hlst (z3.tie hq) htieM
  refine ⟨pot M (B'.set i ((at0 q' 0).1+1)),qSs z3.asc.nodup mm.1 m0.1 (by omega) lf lt λa _ e1 e2=>lo a e1 e2,_,q6,rfl,⟨wa6,qa6,qm6,hh6,z3.fr,z3.asc,λb hb=>?_⟩,rc.tail stp,λb hb=>?_,(kp.trans sub3.keep).trans ((u4.keep (fp:=λb=>b=bb∨b=sb) (.inl rfl)).trans ((k5.mono λb e=>.inr e).trans (k6.mono λb e=>.inr e))),k6 _ _ hx5 hxs⟩
  ·rcases List.mem_or_eq_of_mem_set hb with h | rfl
   ·exact z3.rg b h
   ·omega
  ·rcases List.mem_or_eq_of_mem_set hb with h | rfl
   ·exact nz b h
   ·omega
end Go.AM.WH
namespace Go.AM.WH
open Go Go.Proofs
variable {K:AV→Hq→Prop} {s:Hq} {w bb:Nat} {mv:AV} {cap:Option Nat} {B M l:List Int}
theorem Stp.elt {B B':List Int} (h:Stp M B B'):∀ b∈B',b∈B∨b - 1∈M:=by
 intro b hb
 cases h with
 | @fill i t hi h0 ht hmin _ _=>
   rcases List.mem_or_eq_of_mem_set hb with h | rfl
   ·exact .inl h
   ·exact .inr (by rw [Int.add_sub_cancel];exact ht)
 | @move i f t hi hf hfr ht hmin hmax hd _ _ _ _=>
   rcases List.mem_or_eq_of_mem_set hb with h | rfl
   ·exact .inl h
   ·exact .inr (by rw [Int.add_sub_cancel];exact ht)
theorem Rch.elt {B B':List Int} (h:Rch M B B'):∀ b∈B',b∈B∨b - 1∈M:=by
 induction h with
 | refl=>exact λb hb=>.inl hb
 | tail _ h2 ih=>
   intro b hb
   rcases h2.elt b hb with h | h
   ·exact ih b h
   ·exact .inr h
theorem Rch.trans {B B1 B2:List Int} (h:Rch M B B1) (h2:Rch M B1 B2):Rch M B B2:=by
 induction h2 with
 | refl=>exact h
 | tail _ h3 ih=>exact ih.tail h3
theorem qPi:∀ b∈clr M B,b=0∨b - 1∈M:=by
 intro b hb
 obtain ⟨x,_,rfl⟩:=List.mem_map.1 hb
 split
 ·rename_i h;exact .inr h
 ·exact .inl rfl
structure Aft (l B B':List Int):Prop where
 none:l=[]→B'=clr [] B
 rch:Rch l (clr l B) B'
 elt:l≠[]→∀ b∈B',b - 1∈l
 bal:∀ a∈l,∀ c∈l,ld B' a≤ld B' c+1
theorem Aft.len (h:Aft l B M):M.length=B.length:=by rw [h.rch.len,qHw]
theorem Aft.rg (h:Aft l B M) (ha:Asc l):∀ b∈M,0≤b∧b≤128:=by
 intro b hb
 by_cases e:l=[]
 ·rw [h.none e] at hb
  obtain ⟨x,_,rfl⟩:=List.mem_map.1 hb
  rw [if_neg (by simp)]
  omega
 ·have:=ha.2 _ (h.elt e b hb)
  omega
theorem qTY {K:AV→Hq→Prop} (hb:s bb=some (false,.cells 3 (ints B))) (hp:1≤B.length) (hK:∀ s',s' bb=some (false,.cells 3 (ints (List.replicate B.length 0)))→Upto bb s s'→K .undef s'):qSR [.int .i64 0] 1 (.slc bb 0 B.length cap 1) K s:=by
 obtain ⟨n,hn⟩:∃ n,B.length=n+1:=⟨B.length - 1,by omega⟩
 rw [hn]
 refine ⟨rfl,?_⟩
 have e1:wrN s (.ptr bb 0) (repl (n+1) [.int .i64 0])=some (hset s bb (false,.cells 3 (ints (List.replicate B.length 0)))):=by
  have e2:repl (n+1) [AV.int .i64 0]=ints (List.replicate B.length 0):=by rw [qFE,hn];simp [ints]
  have e3:qAu (ints B) 0 (ints (List.replicate B.length 0))=ints (List.replicate B.length 0):=by
   unfold qAu;rw [List.drop_eq_nil_of_le (by simp)];simp
  have e4:∀ k,qAb (ints (List.replicate k 0))=true:=by
   intro k;induction k with
   | zero=>rfl
   | succ k ih=>simpa [List.replicate_succ,qAb] using ih
  simp only [wrN,hb,e2,e3,e4]
  have:Nat.ble (0+(ints (List.replicate B.length 0)).length) (ints B).length=true:=by rw [Nat.ble_eq];simp
  rw [this];rfl
 refine qAW e1 (hK _ ?_ ?_)
 ·simp [hset]
 ·intro i hi
  simp [hset,hi]
theorem Set_in {v:AV} (h:WAt s w bb mv cap B M) (hl:Sli s v l) (ha:Asc l) (hlen:l.length≤B.length) (hr:∀ b∈B,0≤b∧b≤128)
  (hK:∀ s' mv' B',WAt s' w bb mv' cap B' l→Aft l B B'→qAg (λb=>b=w∨b=bb) s s'→(l≠[]→∃ c n k,s c=none∧mv'=.slc c 0 n k 1)→K (.int .i64 0) s'):wC TP XX 31 [.ptr w 0,v] K s:=by
 have hp:=h.pos
 refine qIo (qDx h ?_)
 simp only [qAj,Bool.not_true,qAA,qAB]
 refine qWk h hl ha hlen ?_
 simp only [qAv,qAi,beq_self_eq_true,Bool.true_bne,Bool.not_true,qAA,qAB]
 refine Clone_in hl (by omega) λv6 s7 sub7 sl7 g7=>?_
 have w7:=h.sub sub7
 simp only [qAJ,qAE,zA,qAA]
 refine qAm w7.wb (by simp) sl7.one λs10 h10 u10=>?_
 have h10:s10 w=some (false,.cells 120 [.slc bb 0 B.length cap 1,v6]):=h10
 have mfree:∀ b o n c,v6=.slc b o n c 1→l≠[]→s b=none:=by
  intro b o n c e hne
  obtain ⟨c',hc,e2,_⟩:=g7 hne
  rw [e2] at e;cases e;exact hc
 have w10:WAt s10 w bb v6 cap B l:=⟨h10,by rw [u10 bb h.ne.symm];exact w7.bs,sl7.keep (fp:=λb=>b=w) (u10.keep rfl) λb o n c e hne e2=>(by
  have:=mfree b o n c e (by simpa using hne)
  rw [e2,h.wb] at this;cases this),h.cp,h.pos⟩
 have k10:qAg (λb=>b=w∨b=bb) s s10:=(sub7.keep).trans (u10.keep (.inl rfl))
 simp only [hl.len,lMY,qAA,qAv,qAi,Bool.false_bne]
 cases hz:(((l.length:Nat):Int) == 0) with
 | true=>
   have hz:=eq_of_beq hz
   have hl0:l=[]:=List.length_eq_zero_iff.1 (by omega)
   subst hl0
   simp only [qAI,qAJ,qAE,qAM h10,zA,g0Y,qAA]
   refine qTY w10.bs hp.1 λs11 h11 u11=>?_
   have e0:clr [] B=List.replicate B.length 0:=by
    unfold clr
    simp only [List.not_mem_nil,if_false]
    rw [List.map_const']
   refine hK s11 v6 (clr [] B) ⟨by rw [qHw,u11 w h.ne];exact h10,by rw [h11,e0],w10.ms.keep (fp:=λb=>b=bb) (u11.keep rfl) λb o n c e hne=>absurd rfl hne,by rw [qHw];exact h.cp,by rw [qHw];exact h.pos⟩ ⟨λ_=>rfl,.refl,λe=>absurd rfl e,λa ha=>by simp at ha⟩ (k10.trans (u11.keep (.inr rfl))) λe=>absurd rfl e
 | false=>
   have hz:¬ ((l.length:Nat):Int)=0:=λe=>by rw [e] at hz;simp at hz
   have hne:l≠[]:=λe=>by rw [e] at hz;simp at hz
   simp only [qAB]
   refine qXq w10 ha (by omega) hr (λb o n c e hM=>λe2=>by
    have:=mfree b o n c e hM
    rw [e2,h.bs] at this;cases this) λs20 o sb q w20 q20 qm20 hp20 fsb fo k20=>?_
   refine qAS λx s22 hx h22 u22=>qAl h22 rfl rfl rfl λs23 h23 u23=>qAW (qA7 h23 rfl) ?_
   have h23:s23 x=some (false,.cells 123 [.ptr o 0]):=h23
   have sub23:Sub s20 s23:=(Sub.refl s20).trans ((u22.sub hx).upto u23 hx)
   have st:St s23 w bb v6 cap o sb (clr l B) l q:=⟨w20.sub sub23,q20.sub sub23,qm20,hp20,λb o' n c e hM=>λe2=>by
    have e0:=mfree b o' n c e hM
    rcases e2 with e2 | e2
    ·rw [e2,h.bs] at e0;cases e0
    ·obtain ⟨c',hc,e3,hc2⟩:=g7 hM
     have e4:b=c':=by rw [e3] at e;injection e with e1;exact e1.symm
     rw [e4] at e2
     have:s10 c'≠none:=by
      rw [u10 c' (λe=>by rw [e,h.wb] at hc;cases hc),hc2];simp
     exact this (by rw [e2];exact fsb),ha,λb hb=>by
      rcases qPi b hb with h | h
      ·omega
      ·have:=ha.2 _ h;omega⟩
   have nx:¬ (x=bb∨x=sb):=by
    rintro (e | e)
    ·have:=w20.bs;rw [← e,hx] at this;cases this
    ·have:=q20.dt;rw [← e,hx] at this;cases this
   refine qZQ st hne λs26 B26 q26 st26 rc26 nz26 k26=>?_
   refine qAW (qA7 (k26 _ _ h23 nx) rfl) ?_
   refine qTZ st26 hne nz26 λs29 B29 q29 st29 rc29 nz29 bal29 k29=>?_
   have rc:=rc26.trans rc29
   refine hK s29 v6 B29 st29.wa ⟨λe=>absurd e hne,rc,λ_ b hb=>?_,bal29⟩ ?_ λ_=>by obtain ⟨c,hc,e,_⟩:=g7 hne;exact ⟨c,_,_,hc,e⟩
   ·rcases rc.elt b hb with h | h
    ·rcases qPi b h with h | h
     ·exact absurd h (nz29 b hb)
     ·exact h
    ·exact h
   ·intro i e hi hn
    have n1:¬ i=bb:=λe=>hn (.inr e)
    have i10:=k10 i e hi hn
    have i20:=k20 i e i10 n1
    have i23:=sub23 i e i20
    have n2:¬ (i=bb∨i=sb):=by
     rintro (e2 | e2)
     ·exact n1 e2
     ·rw [e2,fsb] at i10;cases i10
    exact k29 i e (k26 i e i23 n2) n2
end Go.AM.WH
