/- Part G of a calculus over a small memory that is proved to answer as the program does, and of its use for the functions that the law reaches: see the last part. -/
import Derived.Test.YtgehkpnggfnapaaGreatDoorU2
import Derived.Test.YtgehkpnggfnapaaGreatDoorV2
set_option linter.unusedVariables false
namespace Go.AM.SG
abbrev Cd:=Int × Int
def Srt (l:List Cd):Prop:=l.Pairwise λu v=>u.1≤v.1
def fk (x:Int) (l:List Cd):List Cd:=l.filter λc=>decide (c.1=x)
def Stb (l l':List Cd):Prop:=∀ x,fk x l'=fk x l
theorem qTL {x:Int} {l m:List Cd}:fk x (l ++ m)=fk x l ++ fk x m:=List.filter_append ..
theorem Stb.refl (l:List Cd):Stb l l:=λ_=>rfl
theorem Stb.trans {l m n:List Cd} (h:Stb l m) (h':Stb m n):Stb l n:=λx=>(h' x).trans (h x)
theorem Stb.app {l l' m m':List Cd} (h:Stb l l') (h':Stb m m'):Stb (l ++ m) (l' ++ m'):=λx=>by rw [qTL,qTL,h x,h' x]
theorem qNS {x:Int} {l:List Cd} {c:Cd}:c∈fk x l↔c∈l∧c.1=x:=by unfold fk;rw [List.mem_filter,decide_eq_true_eq]
theorem Stb.mem {l l':List Cd} (h:Stb l l') {c:Cd}:c∈l'↔c∈l:=by
 have h1:c∈fk c.1 l'↔c∈fk c.1 l:=by rw [h c.1]
 rw [qNS,qNS] at h1
 simpa using h1
theorem qYJ {x:Int} {l:List Cd} (h:∀ c∈l,c.1≠x):fk x l=[]:=by
 unfold fk
 exact List.filter_eq_nil_iff.2 λc hc=>by simpa using h c hc
theorem Stb.swap {U V:List Cd} (h:∀ u∈U,∀ v∈V,v.1 < u.1):Stb (U ++ V) (V ++ U):=λx=>by
 rw [qTL,qTL]
 by_cases q:∃ u∈U,u.1=x
 ·obtain ⟨u,hu,rfl⟩:=q
  rw [qYJ (l:=V) λv hv=>by have:=h u hu v hv;omega]
  simp
 ·rw [qYJ (l:=U) λu hu e=>q ⟨u,hu,e⟩]
  simp
theorem Srt.app {l m:List Cd} (h:Srt l) (h':Srt m) (hlm:∀ u∈l,∀ v∈m,u.1≤v.1):Srt (l ++ m):=List.pairwise_append.2 ⟨h,h',hlm⟩
theorem Srt.parts {l m:List Cd} (h:Srt (l ++ m)):Srt l∧Srt m∧∀ u∈l,∀ v∈m,u.1≤v.1:=List.pairwise_append.1 h
structure Mrg (X Y Z:List Cd):Prop where
 srt:Srt Z
 stb:Stb (X ++ Y) Z
 len:Z.length=X.length+Y.length
theorem Mrg.nil_l {Y:List Cd} (h:Srt Y):Mrg [] Y Y:=⟨h,.refl _,by simp⟩
theorem Mrg.nil_r {X:List Cd} (h:Srt X):Mrg X [] X:=⟨h,by rw [List.append_nil];exact .refl _,by simp⟩
theorem Mrg.halves {A U V B Z W:List Cd} (hX:Srt (A ++ U)) (hY:Srt (V ++ B)) (h1:∀ a∈A,∀ b∈B,a.1≤b.1) (h2:∀ u∈U,∀ v∈V,v.1 < u.1) (hZ:Mrg A V Z) (hW:Mrg U B W):Mrg (A ++ U) (V ++ B) (Z ++ W):=by
 obtain ⟨_,_,x3⟩:=hX.parts
 obtain ⟨_,_,y3⟩:=hY.parts
 refine ⟨hZ.srt.app hW.srt λz hz w hw=>?_,?_,?_⟩
 ·have hz:=hZ.stb.mem.1 hz
  have hw:=hW.stb.mem.1 hw
  rcases List.mem_append.1 hz with p | p <;> rcases List.mem_append.1 hw with q | q
  ·exact x3 z p w q
  ·exact h1 z p w q
  ·have:=h2 w q z p;omega
  ·exact y3 z p w q
 ·have e1:Stb (A ++ U ++ (V ++ B)) (A ++ V ++ (U ++ B)):=by
   have:=((Stb.refl A).app (Stb.swap h2)).app (Stb.refl B)
   simpa [List.append_assoc] using this
  exact e1.trans (hZ.stb.app hW.stb)
 ·rw [List.length_append,List.length_append,List.length_append,hZ.len,hW.len]
  omega
theorem Mrg.one_l {a:Cd} {V B:List Cd} (hY:Srt (V ++ B)) (h1:∀ v∈V,v.1 < a.1) (h2:∀ b∈B,a.1≤b.1):Mrg [a] (V ++ B) (V ++ (a :: B)):=by
 have hs:Srt ([] ++ [a]):=by unfold Srt;simp
 have hb:Srt B:=hY.parts.2.1
 have:=Mrg.halves (A:=[]) (U:=[a]) (V:=V) (B:=B) (Z:=V) (W:=a :: B) hs hY (λa h=>by cases h) (λu hu v hv=>by rw [List.mem_singleton] at hu;rw [hu];exact h1 v hv) (Mrg.nil_l hY.parts.1) ⟨?_,Stb.refl _,by simp;omega⟩
 ·exact this
 ·exact List.pairwise_cons.2 ⟨h2,hb⟩
theorem Mrg.one_r {y:Cd} {A U:List Cd} (hX:Srt (A ++ U)) (h1:∀ a∈A,a.1≤y.1) (h2:∀ u∈U,y.1 < u.1):Mrg (A ++ U) [y] (A ++ (y :: U)):=by
 have hs:Srt ([y] ++ []):=by unfold Srt;simp
 have:=Mrg.halves (A:=A) (U:=U) (V:=[y]) (B:=[]) (Z:=A ++ [y]) (W:=U) hX hs (λa _ b h=>by cases h) (λu hu v hv=>by rw [List.mem_singleton] at hv;rw [hv];exact h2 u hu) ⟨hX.parts.1.app (by unfold Srt;simp) λu hu v hv=>by rw [List.mem_singleton] at hv;rw [hv];exact h1 u hu,Stb.refl _,by simp⟩ (Mrg.nil_r hX.parts.2.1)
 simpa [List.append_assoc] using this
def Sct (l:List Cd):Prop:=l.Pairwise λu v=>u.1 < v.1
structure Fst1 (l o:List Cd):Prop where
 srt:Sct o
 mem:∀ c,c∈o↔(fk c.1 l).head?=some c
theorem zABS {l m:List Cd} (hl:Sct l) (hm:Sct m) (h:∀ c,c∈l↔c∈m):l=m:=by
 have nl:l.Nodup:=List.Pairwise.imp (fun {a b} h e=>by rw [e] at h;omega) hl
 have nm:m.Nodup:=List.Pairwise.imp (fun {a b} h e=>by rw [e] at h;omega) hm
 exact List.Perm.eq_of_pairwise (le:=λa b:Cd=>a.1 < b.1) (λa b _ _ h1 h2=>by omega) hl hm ((List.perm_ext_iff_of_nodup nl nm).2 h)
theorem Fst1.same {l l' o o':List Cd} (h:Fst1 l o) (h':Fst1 l' o') (s:Stb l l'):o=o':=
 zABS h.srt h'.srt λc=>by rw [h.mem,h'.mem,s c.1]
end Go.AM.SG
namespace Go.AM.SG
theorem qTd {x:Int} {a:Cd} {l:List Cd}:fk x (a :: l)=if a.1=x then a :: fk x l else fk x l:=by
 unfold fk
 rw [List.filter_cons]
 by_cases h:a.1=x
 ·simp [h]
 ·simp [h]
def rnk (o:List Cd) (x:Int):Nat:=o.countP λc=>decide (c.1 < x)
def putL (o:List Cd) (c:Cd):List Cd:=if ∃ d∈o,d.1=c.1 then o else o.take (rnk o c.1) ++ c :: o.drop (rnk o c.1)
theorem qSI:∀ {o:List Cd} {x:Int},Sct o→(∀ d∈o.take (rnk o x),d.1 < x)∧∀ d∈o.drop (rnk o x),x≤d.1
 | [],_,_=>by simp
 | a :: o,x,h=>by
   obtain ⟨h1,h2⟩:=List.pairwise_cons.1 h
   have ih:=qSI (x:=x) h2
   by_cases q:a.1 < x
   ·have e:rnk (a :: o) x=rnk o x+1:=by unfold rnk;rw [List.countP_cons,if_pos (by simpa using q)]
    rw [e,List.take_succ_cons,List.drop_succ_cons]
    exact ⟨λd hd=>by
     rcases List.mem_cons.1 hd with r | r
     ·rw [r];exact q
     ·exact ih.1 d r,ih.2⟩
   ·have e:rnk (a :: o) x=0:=by
     unfold rnk
     rw [List.countP_eq_zero]
     intro d hd
     rcases List.mem_cons.1 hd with r | r
     ·rw [r];simpa using q
     ·have:=h1 d r;simp;omega
    rw [e]
    exact ⟨by simp,λd hd=>by
     rcases List.mem_cons.1 hd with r | r
     ·rw [r];omega
     ·have:=h1 d r;omega⟩
theorem zAEK {l o:List Cd} {c:Cd} (h:Fst1 l o):Fst1 (l ++ [c]) (putL o c):=by
 have hf:∀ x,fk x (l ++ [c])=fk x l ++ (if c.1=x then [c] else []):=λx=>by
  rw [qTL,qTd]
  congr 1
 have keep:∀ x,(∃ d∈o,d.1=x)→(fk x (l ++ [c])).head?=(fk x l).head?:=λx ⟨d,hd,e⟩=>by
  have:=(h.mem d).1 hd
  rw [e] at this
  rw [hf]
  cases hl:fk x l with
  | nil=>rw [hl] at this;cases this
  | cons a r=>rfl
 have none_:∀ x,(¬ ∃ d∈o,d.1=x)→fk x l=[]:=λx hx=>by
  cases hl:fk x l with
  | nil=>rfl
  | cons a r=>
    have ha:a.1=x:=(qNS.1 (by rw [hl];simp:a∈fk x l)).2
    exact absurd ⟨a,(h.mem a).2 (by rw [ha,hl];rfl),ha⟩ hx
 unfold putL
 by_cases q:∃ d∈o,d.1=c.1
 ·rw [if_pos q]
  refine ⟨h.srt,λd=>?_⟩
  rw [h.mem]
  by_cases e:∃ y∈o,y.1=d.1
  ·rw [keep _ e]
  ·have hc:¬ c.1=d.1:=λr=>e (by rw [← r];exact q)
   rw [hf,if_neg hc,List.append_nil]
 ·rw [if_neg q]
  obtain ⟨k1,k2⟩:=qSI (x:=c.1) h.srt
  have hs:=h.srt
  rw [← List.take_append_drop (rnk o c.1) o] at hs
  obtain ⟨s1,s2,s3⟩:=List.pairwise_append.1 hs
  have k2':∀ d∈o.drop (rnk o c.1),c.1 < d.1:=λd hd=>by
   have:=k2 d hd
   have hne:d.1≠c.1:=λe=>q ⟨d,List.mem_of_mem_drop hd,e⟩
   omega
  refine ⟨List.pairwise_append.2 ⟨s1,List.pairwise_cons.2 ⟨k2',s2⟩,λu hu v hv=>?_⟩,λd=>?_⟩
  ·rcases List.mem_cons.1 hv with r | r
   ·rw [r];exact k1 u hu
   ·exact s3 u hu v r
  ·have m:d∈o.take (rnk o c.1) ++ c :: o.drop (rnk o c.1)↔d=c∨d∈o:=by
    have:d∈o↔d∈o.take (rnk o c.1)∨d∈o.drop (rnk o c.1):=by rw [← List.mem_append,List.take_append_drop]
    rw [List.mem_append,List.mem_cons,this]
    constructor
    ·rintro (h | h | h)
     ·exact .inr (.inl h)
     ·exact .inl h
     ·exact .inr (.inr h)
    ·rintro (h | h | h)
     ·exact .inr (.inl h)
     ·exact .inl h
     ·exact .inr (.inr h)
   rw [m,hf]
   by_cases e:c.1=d.1
   ·rw [if_pos e,none_ d.1 (by rw [← e];exact q),List.nil_append,List.head?_cons]
    constructor
    ·rintro (h | h)
     ·rw [h]
     ·exact absurd ⟨d,h,e.symm⟩ q
    ·intro h
     exact .inl (Option.some.inj h).symm
   ·rw [if_neg e,List.append_nil,← h.mem d]
    exact ⟨λh=>h.elim (λh=>absurd (by rw [h]) e) id,.inr⟩
def qOR (l:List Cd):List Cd:=l.foldl putL []
theorem qJW (l:List Cd):Fst1 l (qOR l):=by
 have:∀ (m p o:List Cd),Fst1 p o→Fst1 (p ++ m) (m.foldl putL o):=by
  intro m
  induction m with
  | nil=>intro p o h;rw [List.append_nil];exact h
  | cons c m ih=>
    intro p o h
    have:=ih (p ++ [c]) (putL o c) (zAEK h)
    rw [List.append_assoc] at this
    exact this
 exact this l [] [] ⟨List.Pairwise.nil,λc=>by simp [fk]⟩
end Go.AM.SG
namespace Go.AM.SG
def cAt (l:List Cd) (j:Nat):Cd:=l.getD j (0,0)
def swpC (l:List Cd) (i j:Nat):List Cd:=(l.set i (cAt l j)).set j (cAt l i)
theorem qRe {l:List Cd} {i j:Nat}:(swpC l i j).length=l.length:=by simp [swpC]
theorem qEm {l:List Cd} {j:Nat} (h:j < l.length):cAt l j=l[j]:=by simp [cAt,h]
theorem qUL {l:List Cd} {i j:Nat} {x:Cd} (hi:i < l.length):cAt (l.set i x) j=if j=i then x else cAt l j:=by
 unfold cAt
 rw [List.getD_eq_getElem?_getD,List.getElem?_set,List.getD_eq_getElem?_getD]
 by_cases h:j=i
 ·subst h;simp [hi]
 ·rw [if_neg (Ne.symm h),if_neg h]
theorem qXc {l:List Cd} {i j k:Nat} (hi:i < l.length) (hj:j < l.length):cAt (swpC l i j) k=if k=j then cAt l i else if k=i then cAt l j else cAt l k:=by
 unfold swpC
 rw [qUL (by simpa using hj),qUL hi]
theorem qWD {l m:List Cd} (hl:l.length=m.length) (h:∀ k,k < l.length→cAt l k=cAt m k):l=m:=by
 refine List.ext_getElem hl λk h1 h2=>?_
 rw [← qEm h1,← qEm h2]
 exact h k h1
theorem qDL {l m:List Cd} {k:Nat}:cAt (l ++ m) k=if k < l.length then cAt l k else cAt m (k - l.length):=by
 unfold cAt
 rw [List.getD_eq_getElem?_getD,List.getD_eq_getElem?_getD,List.getD_eq_getElem?_getD,List.getElem?_append]
 by_cases h:k < l.length
 ·rw [if_pos h,if_pos h]
 ·rw [if_neg h,if_neg h]
structure SwR (l:List Cd) (a b k:Nat) (l':List Cd):Prop where
 len:l'.length=l.length
 at_:∀ i,cAt l' i=if a≤i∧i < a+k then cAt l (b+(i - a)) else if b≤i∧i < b+k then cAt l (a+(i - b)) else cAt l i
theorem SwR.start {l:List Cd} {a b:Nat}:SwR l a b 0 l:=⟨rfl,λi=>by rw [if_neg (by omega),if_neg (by omega)]⟩
theorem SwR.step {l l':List Cd} {a b k:Nat} (h:SwR l a b k l') (hab:a+k < b) (hb:b+k < l.length):SwR l a b (k+1) (swpC l' (a+k) (b+k)):=by
 refine ⟨by rw [qRe,h.len],λi=>?_⟩
 rw [qXc (by rw [h.len];omega) (by rw [h.len];omega),h.at_ i,h.at_ (a+k),h.at_ (b+k)]
 by_cases c1:i=b+k
 ·rw [if_pos c1,if_neg (by omega),if_neg (by omega),if_neg (by omega),if_pos (by omega)]
  congr 1
  omega
 ·rw [if_neg c1]
  by_cases c2:i=a+k
  ·rw [if_pos c2,if_neg (by omega),if_neg (by omega),if_pos (by omega)]
   congr 1
   omega
  ·rw [if_neg c2]
   by_cases c3:a≤i∧i < a+k
   ·rw [if_pos c3,if_pos (by omega)]
   ·rw [if_neg c3]
    by_cases c4:b≤i∧i < b+k
    ·rw [if_pos c4,if_neg (by omega),if_pos (by omega)]
    ·rw [if_neg c4,if_neg (by omega),if_neg (by omega)]
theorem SwR.parts {P X Q Y R l':List Cd} (hn:X.length=Y.length) (h:SwR (P ++ X ++ Q ++ Y ++ R) P.length (P.length+X.length+Q.length) X.length l'):l'=P ++ Y ++ Q ++ X ++ R:=by
 refine qWD (by rw [h.len];simp only [List.length_append];omega) λk hk=>?_
 rw [h.len] at hk
 simp only [List.length_append] at hk
 rw [h.at_ k]
 simp only [qDL,List.length_append]
 by_cases c1:k < P.length
 ·rw [if_neg (by omega),if_neg (by omega)]
  simp only [show k < P.length+X.length+Q.length+Y.length by omega,show k < P.length+X.length+Q.length by omega,show k < P.length+X.length by omega,c1,if_true,show k < P.length+Y.length+Q.length+X.length by omega,show k < P.length+Y.length+Q.length by omega,show k < P.length+Y.length by omega]
 by_cases c2:k < P.length+X.length
 ·rw [if_pos (by omega)]
  have e:P.length+X.length+Q.length+(k - P.length) - (P.length+X.length+Q.length)=k - P.length:=by omega
  rw [if_pos (by omega),if_neg (by omega),e,if_pos (by omega),if_pos (by omega),if_pos (by omega),if_neg c1]
 by_cases c3:k < P.length+X.length+Q.length
 ·rw [if_neg (by omega),if_neg (by omega),if_pos (by omega),if_pos (by omega),if_neg (by omega),if_pos (by omega),if_pos (by omega),if_neg (by omega)]
  congr 1
  omega
 by_cases c4:k < P.length+X.length+Q.length+Y.length
 ·rw [if_neg (by omega),if_pos (by omega),if_pos (by omega),if_pos (by omega),if_pos (by omega),if_neg (by omega),if_pos (by omega),if_neg (by omega)]
  congr 1
  omega
 ·rw [if_neg (by omega),if_neg (by omega),if_neg (by omega),if_neg (by omega)]
  congr 1
  omega
theorem zAEF {D X1 X2 Y E l':List Cd} (hn:X1.length=Y.length) (h:SwR (D ++ (X1 ++ X2) ++ Y ++ E) D.length (D.length+X1.length+X2.length) X1.length l'):l'=(D ++ Y) ++ X2 ++ X1 ++ E:=by
 have h':SwR (D ++ X1 ++ X2 ++ Y ++ E) D.length (D.length+X1.length+X2.length) X1.length l':=by
  simpa only [List.append_assoc] using h
 exact h'.parts hn
theorem zAAN {D X Y1 Y2 E l':List Cd} (hn:X.length=Y2.length) (h:SwR (D ++ X ++ (Y1 ++ Y2) ++ E) D.length (D.length+X.length+Y1.length) X.length l'):l'=D ++ Y2 ++ Y1 ++ (X ++ E):=by
 have h':SwR (D ++ X ++ Y1 ++ Y2 ++ E) D.length (D.length+X.length+Y1.length) X.length l':=by
  simpa only [List.append_assoc] using h
 have:=h'.parts hn
 simpa only [List.append_assoc] using this
end Go.AM.SG
namespace Go.AM.SG
theorem qLZ {X:List Cd} (h:Srt X) {i j:Nat} (hij:i≤j) (hj:j < X.length):(cAt X i).1≤(cAt X j).1:=by
 rw [qEm (by omega),qEm hj]
 by_cases e:i=j
 ·subst e;exact Int.le_refl _
 ·exact List.pairwise_iff_getElem.1 h i j (by omega) hj (by omega)
theorem qJJ {X:List Cd} {c:Cd}:c∈X↔∃ i,i < X.length∧cAt X i=c:=by
 rw [List.mem_iff_getElem]
 constructor
 ·rintro ⟨i,h,e⟩;exact ⟨i,h,by rw [qEm h];exact e⟩
 ·rintro ⟨i,h,e⟩;exact ⟨i,h,by rw [← qEm h];exact e⟩
theorem qLj {X:List Cd} {k i:Nat} (h:i < k):cAt (X.take k) i=cAt X i:=by
 unfold cAt
 rw [List.getD_eq_getElem?_getD,List.getD_eq_getElem?_getD,List.getElem?_take,if_pos h]
theorem qLW {X:List Cd} {k i:Nat}:cAt (X.drop k) i=cAt X (k+i):=by
 unfold cAt
 rw [List.getD_eq_getElem?_getD,List.getD_eq_getElem?_getD,List.getElem?_drop]
theorem zAD2 {X Y:List Cd} {k q:Nat} (hX:Srt X) (hY:Srt Y) (hk:k≤X.length) (hq:q≤Y.length)
  (h1:0 < k→q < Y.length→(cAt X (k - 1)).1≤(cAt Y q).1) (h2:k < X.length→0 < q→(cAt Y (q - 1)).1 < (cAt X k).1) :
  (∀ x∈X.take k,∀ y∈Y.drop q,x.1≤y.1)∧∀ x∈X.drop k,∀ y∈Y.take q,y.1 < x.1:=by
 constructor
 ·intro x hx y hy
  obtain ⟨i,hi,rfl⟩:=qJJ.1 hx
  obtain ⟨j,hj,rfl⟩:=qJJ.1 hy
  rw [List.length_take] at hi
  rw [List.length_drop] at hj
  rw [qLj (by omega),qLW]
  have e1:=qLZ hX (i:=i) (j:=k - 1) (by omega) (by omega)
  have e2:=qLZ hY (i:=q) (j:=q+j) (by omega) (by omega)
  have:=h1 (by omega) (by omega)
  omega
 ·intro x hx y hy
  obtain ⟨i,hi,rfl⟩:=qJJ.1 hx
  obtain ⟨j,hj,rfl⟩:=qJJ.1 hy
  rw [List.length_drop] at hi
  rw [List.length_take] at hj
  rw [qLj (by omega),qLW]
  have e1:=qLZ hX (i:=k) (j:=k+i) (by omega) (by omega)
  have e2:=qLZ hY (i:=j) (j:=q - 1) (by omega) (by omega)
  have:=h2 (by omega) (by omega)
  omega
structure SymS (X Y:List Cd) (mid start r:Nat):Prop where
 le:start≤r
 lo:(if mid < X.length then mid - Y.length else 0)≤start
 hi:r≤if mid < X.length then mid else X.length
 s1:(if mid < X.length then mid - Y.length else 0) < start→(cAt X (start - 1)).1≤(cAt Y (mid - start)).1
 s2:(r < if mid < X.length then mid else X.length)→(cAt Y (mid - 1 - r)).1 < (cAt X r).1
theorem SymS.cut {X Y:List Cd} {mid k:Nat} (hX:Srt X) (hY:Srt Y) (hmid:mid=(X.length+Y.length) / 2) (h:SymS X Y mid k k):k≤X.length∧k≤mid∧mid - k≤Y.length∧
  (∀ x∈X.take k,∀ y∈Y.drop (mid - k),x.1≤y.1)∧∀ x∈X.drop k,∀ y∈Y.take (mid - k),y.1 < x.1:=by
 have lo:=h.lo
 have hi:=h.hi
 have s1:=h.s1
 have s2:=h.s2
 have hk:k≤X.length∧k≤mid∧mid - k≤Y.length:=by
  by_cases c:mid < X.length
  ·rw [if_pos c] at lo hi;omega
  ·rw [if_neg c] at lo hi;omega
 refine ⟨hk.1,hk.2.1,hk.2.2,?_⟩
 refine zAD2 hX hY hk.1 hk.2.2 (λp0 p1=>s1 ?_) λp0 p1=>?_
 ·by_cases c:mid < X.length
  ·rw [if_pos c] at lo ⊢;omega
  ·rw [if_neg c];omega
 ·have:=s2 (by
   by_cases c:mid < X.length
   ·rw [if_pos c];omega
   ·rw [if_neg c];omega)
  rw [show mid - k - 1=mid - 1 - k by omega]
  exact this
theorem zADd {X:List Cd} {y:Cd} {k:Nat} (hX:Srt X) (hk:k≤X.length) (h1:0 < k→(cAt X (k - 1)).1≤y.1) (h2:k < X.length→y.1 < (cAt X k).1):(∀ a∈X.take k,a.1≤y.1)∧∀ u∈X.drop k,y.1 < u.1:=by
 constructor
 ·intro x hx
  obtain ⟨i,hi,rfl⟩:=qJJ.1 hx
  rw [List.length_take] at hi
  rw [qLj (by omega)]
  have:=qLZ hX (i:=i) (j:=k - 1) (by omega) (by omega)
  have:=h1 (by omega)
  omega
 ·intro x hx
  obtain ⟨i,hi,rfl⟩:=qJJ.1 hx
  rw [List.length_drop] at hi
  rw [qLW]
  have:=qLZ hX (i:=k) (j:=k+i) (by omega) (by omega)
  have:=h2 (by omega)
  omega
theorem qYK {Y:List Cd} {a:Cd} {k:Nat} (hY:Srt Y) (hk:k≤Y.length) (h1:0 < k→(cAt Y (k - 1)).1 < a.1) (h2:k < Y.length→a.1≤(cAt Y k).1):(∀ v∈Y.take k,v.1 < a.1)∧∀ b∈Y.drop k,a.1≤b.1:=by
 constructor
 ·intro x hx
  obtain ⟨i,hi,rfl⟩:=qJJ.1 hx
  rw [List.length_take] at hi
  rw [qLj (by omega)]
  have:=qLZ hY (i:=i) (j:=k - 1) (by omega) (by omega)
  have:=h1 (by omega)
  omega
 ·intro x hx
  obtain ⟨i,hi,rfl⟩:=qJJ.1 hx
  rw [List.length_drop] at hi
  rw [qLW]
  have:=qLZ hY (i:=k) (j:=k+i) (by omega) (by omega)
  have:=h2 (by omega)
  omega
theorem qMV {P U R:List Cd} {y:Cd} {u:Cd}:swpC (P ++ U ++ [u] ++ y :: R) (P.length+U.length+1) (P.length+U.length)=P ++ U ++ y :: u :: R:=by
 refine qWD (by rw [qRe];simp only [List.length_append,List.length_cons,List.length_nil];omega) λk hk=>?_
 rw [qRe] at hk
 simp only [List.length_append,List.length_cons,List.length_nil] at hk
 rw [qXc (by simp only [List.length_append,List.length_cons,List.length_nil];omega) (by simp only [List.length_append,List.length_cons,List.length_nil];omega)]
 simp only [qDL,List.length_append,List.length_cons,List.length_nil]
 by_cases c1:k=P.length+U.length
 ·rw [if_pos c1,if_neg (by omega),if_neg (by omega)]
  rw [show P.length+U.length+1 - (P.length+U.length+(0+1))=0 by omega,show k - (P.length+U.length)=0 by omega]
  rfl
 rw [if_neg c1]
 by_cases c2:k=P.length+U.length+1
 ·rw [if_pos c2,if_pos (by omega),if_neg (by omega),if_neg (by omega)]
  rw [show P.length+U.length - (P.length+U.length)=0 by omega,show k - (P.length+U.length)=1 by omega]
  rfl
 rw [if_neg c2]
 by_cases c3:k < P.length+U.length
 ·rw [if_pos (by omega),if_pos c3,if_pos c3]
 ·rw [if_neg (by omega),if_neg c3]
  obtain ⟨j,hj⟩:∃ j,k=P.length+U.length+2+j:=⟨k - (P.length+U.length+2),by omega⟩
  rw [hj,show P.length+U.length+2+j - (P.length+U.length+(0+1))=j+1 by omega,show P.length+U.length+2+j - (P.length+U.length)=j+2 by omega]
  rfl
end Go.AM.SG
namespace Go.AM.SG
open Go Go.AM Go.Proofs
variable {K : AV → Hq → Prop} {s s' s0 : Hq} {db : Nat} {l : List Cd}
def cR (x:Cd):List AV:=[.int .u32 x.1,.int .i64 x.2]
abbrev flC (q:List Cd):List AV:=(q.map cR).flatten
theorem qVx (q:List Cd):∀ r∈q.map cR,r.length=2:=λr hr=>by obtain ⟨x,_,rfl⟩:=List.mem_map.1 hr;rfl
theorem qIs (q:List Cd):(flC q).length=q.length * 2:=by rw [qHV (qVx q),List.length_map]
theorem qY0 {x:Cd}:∀ {q:List Cd} {i:Nat},i < q.length→qAq (flC q) (i * 2) (cR x)=flC (q.set i x)
 | [],_,h=>by simp at h
 | y :: q,0,_=>rfl
 | y :: q,i+1,h=>by
   have ih:=qY0 (x:=x) (q:=q) (i:=i) (by simpa using h)
   have e3:(i+1) * 2=i * 2+2:=by omega
   have e4:qAq (flC (y :: q)) (i * 2+2) (cR x)=.int .u32 y.1 :: .int .i64 y.2 :: qAq (flC q) (i * 2) (cR x):=by
    have e5:flC (y :: q)=.int .u32 y.1 :: .int .i64 y.2 :: flC q:=rfl
    unfold qAq
    rw [e5]
    show (.int .u32 y.1 :: .int .i64 y.2 :: (flC q).take (i * 2)) ++ cR x ++ (flC q).drop (i * 2+2)=_
    rfl
   rw [e3,e4,ih];rfl
def CAt (s:Hq) (db:Nat) (l:List Cd):Prop:=s db=some (false,.cells 36 (flC l))
abbrev cV (db:Nat) (l:List Cd):AV:=.slc db 0 l.length none 2
theorem c_ad {n i:Nat} (hi:i < n):qAH 2 (.slc db 0 n none 2) (.int .i64 (i:Int))=some (.ptr db (i * 2)):=by
 have:Nat.blt i n=true:=by rw [Nat.blt_eq];exact hi
 simp [qAH,this]
theorem CAt.sl (h:CAt s db l):SlR 2 s (cV db l) (l.map cR):=by
 refine SlR.mk (qVx l) h (by rw [List.length_map]) (by simp)
theorem CAt.row (h:CAt s db l) {i:Nat} (hi:i < l.length):rdN s 2 (.ptr db (i * 2))=some (cR (cAt l i)):=by
 obtain ⟨b,p,h1,h2,_⟩:=h.sl.get (i:=i) (r:=cR (cAt l i)) (by simp [qEm hi,hi])
 rw [c_ad hi] at h1
 cases h1
 exact h2
theorem CAt.put (h:CAt s db l) {i:Nat} {x:Cd} {R:Hq→Prop} (hi:i < l.length) (hR:∀ s',CAt s' db (l.set i x)→Upto db s s'→R s'):oK (qAn s 2 (.ptr db (i * 2)) (.agg (cR x))) R:=by
 have e0:i * 2+2≤(flC l).length:=by rw [qIs];omega
 have e1:Nat.ble (i * 2+(cR x).length) (flC l).length=true:=Nat.ble_eq_true_of_le (by show i * 2+2≤_;omega)
 have e2:qAn s 2 (.ptr db (i * 2)) (.agg (cR x))=some (hset s db (false,.cells 36 (flC (l.set i x)))):=by
  have h:s db=some (false,.cells 36 (flC l)):=h
  rw [← qY0 hi]
  simp only [qAn,qGx,show Nat.beq (cR x).length 2=true from rfl,cond_true,wrN,h,e1,show qAY (cR x)=true from rfl,Bool.and_self]
 exact qAF e2 (hR _ qCe λ_ hi=>qBW hi)
theorem CAt.swap (h:CAt s db l) {i j:Nat} {R:Hq→Prop} (hi:i < l.length) (hj:j < l.length) (hR:∀ s',CAt s' db (swpC l i j)→Upto db s s'→R s') :
  oK (qAn s 2 (.ptr db (i * 2)) (.agg (cR (cAt l j)))) λs_10=>oK (qAn s_10 2 (.ptr db (j * 2)) (.agg (cR (cAt l i)))) R:=by
 refine h.put hi λs1 h1 u1=>?_
 exact h1.put (by simpa using hj) λs2 h2 u2=>hR s2 h2 λk hk=>by rw [u2 k hk,u1 k hk]
theorem CAt.sub (h:CAt s db l) (k:Sub s s'):CAt s' db l:=k _ _ h
abbrev cmpv:AV:=.fn (.func 46) [] []
theorem qWA {a b:Cd} (hK:∀ s' (r:Int),Sub s s'→(r < 0↔a.1 < b.1)→K (.int .i64 r) s'):funK Tryz.prog XX cmpv [.agg (cR a),.agg (cR b)] K s:=by
 refine ⟨by kernel_rfl,?_⟩
 show wC Tryz.prog XX 46 [.agg (cR a),.agg (cR b)] K s
 refine qLp ⟨rfl,qAJ λx s1 hx h1 u1=>⟨rfl,qAJ λy s2 hy h2 u2=>?_⟩⟩
 have sub2:=(u1.sub hx).trans (u2.sub hy)
 have h12:s2 x=some (false,.cells 36 (cR a)):=u2.sub hy _ _ h1
 have h22:s2 y=some (false,.cells 36 (cR b)):=h2
 have ra:(cR a)[0]?=some (.int .u32 a.1):=rfl
 have rb:(cR b)[0]?=some (.int .u32 b.1):=rfl
 simp only [qAG,Nat.zero_add,qAO h12,qAO h22,ra,rb,qAA]
 refine qHs (qDM ?_)
 simp only [qCO,qAe,qAZ,beq_self_eq_true,Bool.true_bne,Bool.not_true,qAA]
 refine qDM ?_
 simp only [qCO,qAe,qAZ,beq_self_eq_true,Bool.true_bne,Bool.not_true,qAA,qAQ,qAM,qA4]
 refine qAC (λc=>?_) (λc=>?_)
 ·have c:=of_decide_eq_true c
  exact hK s2 (-1) sub2 ⟨λ_=>c,λ_=>by decide⟩
 ·have c:=of_decide_eq_false c
  refine qAC (λc2=>?_) (λc2=>?_)
  ·exact hK s2 1 sub2 ⟨λh=>absurd h (by decide),λh=>absurd h c⟩
  ·exact hK s2 0 sub2 ⟨λh=>absurd h (by decide),λh=>absurd h c⟩
end Go.AM.SG
namespace Go.AM.SG
open Go Go.AM Go.Proofs
variable {K : AV → Hq → Prop} {s s' s0 : Hq} {db : Nat} {l : List Cd}
abbrev KB (db:Nat) (s s':Hq):Prop:=qAa (λb=>b=db) s s'
theorem qJX {a b n k:Nat} {cv:AV} (h:CAt s db l) (hk:k=l.length) (hl:l.length≤100000) (hab:a+n≤b) (hb:b+n≤l.length) (hK:∀ s' l',CAt s' db l'→SwR l a b n l'→KB db s s'→K (.tup []) s') :
  wC Tryz.prog XX 180 [.slc db 0 k none 2,.int .i64 (a:Int),.int .i64 (b:Int),.int .i64 (n:Int),cv] K s:=by
 subst hk
 refine qD9 ?_
 refine ⟨λys t m=>∃ (i:Nat) (l1:List Cd),ys=[.int .i64 i]∧i≤n∧m=n - i∧CAt t db l1∧SwR l a b i l1∧KB db s t,⟨_,0,l,rfl,by omega,rfl,h,.start,.refl _ s⟩,?_⟩
 rintro f t m ⟨i,l1,hy,hi,rfl,h1,sw,kp⟩
 simp only [List.cons.injEq,and_true] at hy
 rw [hy]
 simp only [qCP,qAM,qAA]
 refine qAC (λhlt=>?_) (λhge=>?_)
 ·have hlt:i < n:=by have:=of_decide_eq_true hlt;omega
  have e1:IntKind.i64.wrap ((a:Int)+i)=((a+i:Nat):Int):=by rw [qAT (by omega) (by omega)];omega
  have e2:IntKind.i64.wrap ((b:Int)+i)=((b+i:Nat):Int):=by rw [qAT (by omega) (by omega)];omega
  have len:=sw.len
  simp only [qAK,e1,e2,c_ad (show b+i < l.length by omega),c_ad (show a+i < l.length by omega),h1.row (show b+i < l1.length by omega),h1.row (show a+i < l1.length by omega),qAA]
  refine h1.swap (by omega) (by omega) λs2 h2 u2=>?_
  rw [qAT (by omega) (by omega)]
  exact ⟨_,by omega,i+1,_,rfl,by omega,rfl,h2,sw.step (by omega) (by omega),kp.trans (u2.keep rfl)⟩
 ·have hge:i=n:=by have:=of_decide_eq_false hge;omega
  subst hge
  exact hK t l1 h1 sw kp
theorem qZO {P X Y Q:List Cd} {a m b k:Nat} {cv:AV} (h:CAt s db (P ++ X ++ Y ++ Q)) (hk:k=(P ++ X ++ Y ++ Q).length) (hl:k≤100000) (ha:a=P.length) (hm:m=a+X.length) (hb:b=m+Y.length) (hX:X≠[]) (hY:Y≠[])
  (hK:∀ s',CAt s' db (P ++ Y ++ X ++ Q)→KB db s s'→K (.tup []) s'):wC Tryz.prog XX 160 [.slc db 0 k none 2,.int .i64 (a:Int),.int .i64 (m:Int),.int .i64 (b:Int),cv] K s:=by
 have lx:0 < X.length:=List.length_pos_iff.2 hX
 have ly:0 < Y.length:=List.length_pos_iff.2 hY
 have hlen:k=P.length+X.length+Y.length+Q.length:=by rw [hk];simp only [List.length_append]
 refine qE0 ?_
 have e1:IntKind.i64.wrap ((m:Int) - a)=((X.length:Nat):Int):=by rw [qAT (by omega) (by omega)];omega
 have e2:IntKind.i64.wrap ((b:Int) - m)=((Y.length:Nat):Int):=by rw [qAT (by omega) (by omega)];omega
 simp only [qB7,qAo,e1,e2,qAA]
 refine ⟨λys t c=>∃ (D A B E:List Cd),ys=[.int .i64 (A.length:Nat),.int .i64 (B.length:Nat)]∧0 < A.length∧0 < B.length∧c=A.length+B.length∧D.length+A.length=m∧D ++ B ++ A ++ E=P ++ Y ++ X ++ Q∧CAt t db (D ++ A ++ B ++ E)∧KB db s t,⟨_,P,X,Y,Q,rfl,lx,ly,rfl,by omega,rfl,h,.refl _ s⟩,?_⟩
 rintro f t c ⟨D,A,B,E,hy,hA,hB,rfl,hm2,heq,h1,kp⟩
 simp only [List.cons.injEq,and_true] at hy
 rw [hy.1,hy.2]
 have hlen2:k=D.length+A.length+B.length+E.length:=by
  have:=congrArg List.length heq
  simp only [List.length_append] at this
  omega
 have hk1:k=(D ++ A ++ B ++ E).length:=by simp only [List.length_append];omega
 have s1:IntKind.i64.wrap ((m:Int) - (A.length:Nat))=((D.length:Nat):Int):=by rw [qAT (by omega) (by omega)];omega
 simp only [qCk,qAe,qAZ,Bool.true_bne,qAA]
 cases c1:(((A.length:Nat):Int) == ((B.length:Nat):Int)) with
 | true=>
   have c1:A.length=B.length:=by have:=eq_of_beq c1;omega
   simp only [Bool.not_true,qAQ,qAo,s1,qAA]
   refine qJX h1 hk1 (by omega) (by omega) (by simp only [List.length_append];omega) λs2 l2 h2 sw kp2=>?_
   have e:l2=D ++ B ++ [] ++ A ++ E:=by
    refine SwR.parts (P:=D) (X:=A) (Q:=[]) (Y:=B) (R:=E) c1 ?_
    have e3:D ++ A ++ [] ++ B ++ E=D ++ A ++ B ++ E:=by simp
    rw [e3,show D.length+A.length+([]:List Cd).length=m by simp;omega]
    exact sw
   rw [List.append_nil,heq] at e
   rw [e] at h2
   exact hK s2 h2 (kp.trans kp2)
 | false=>
   have c1:¬ A.length=B.length:=by
    have:¬ ((A.length:Nat):Int)=((B.length:Nat):Int):=by simpa using c1
    omega
   simp only [Bool.not_false,qAh,qA4,qAA]
   refine qAC (λc2=>?_) (λc2=>?_)
   ·have c2:B.length < A.length:=by have:=of_decide_eq_true c2;omega
    have hA2:A=A.take B.length ++ A.drop B.length:=(List.take_append_drop ..).symm
    have l1:(A.take B.length).length=B.length:=by rw [List.length_take];omega
    have l2:(A.drop B.length).length=A.length - B.length:=by rw [List.length_drop]
    simp only [qAo,s1,qAA]
    refine qJX h1 hk1 (by omega) (by omega) (by simp only [List.length_append];omega) λs2 l3 h2 sw kp2=>?_
    have e:l3=(D ++ B) ++ A.drop B.length ++ A.take B.length ++ E:=by
     refine zAEF l1 ?_
     rw [List.take_append_drop,l1,l2,show D.length+B.length+(A.length - B.length)=m by omega]
     exact sw
    rw [e] at h2
    have e4:IntKind.i64.wrap (((A.length:Nat):Int) - ((B.length:Nat):Int))=(((A.drop B.length).length:Nat):Int):=by rw [qAT (by omega) (by omega),l2];omega
    simp only [qAo,e4,qAA]
    refine ⟨_,?_,D ++ B,A.drop B.length,A.take B.length,E,by rw [l1],by omega,by omega,rfl,by rw [List.length_append];omega,?_,h2,kp.trans kp2⟩
    ·rw [l1,l2];omega
    ·rw [← heq]
     simp only [List.append_assoc]
     rw [← List.append_assoc (A.take B.length),List.take_append_drop]
   ·have c2:A.length < B.length:=by have:=of_decide_eq_false c2;omega
    have l1:(B.take (B.length - A.length)).length=B.length - A.length:=by rw [List.length_take];omega
    have l2:(B.drop (B.length - A.length)).length=A.length:=by rw [List.length_drop];omega
    have s2:IntKind.i64.wrap ((m:Int)+(B.length:Nat))=((m+B.length:Nat):Int):=by rw [qAT (by omega) (by omega)];omega
    have s3:IntKind.i64.wrap (((m+B.length:Nat):Int) - (A.length:Nat))=((m+B.length - A.length:Nat):Int):=by rw [qAT (by omega) (by omega)];omega
    simp only [qAo,qAK,s1,s2,s3,qAA]
    refine qJX h1 hk1 (by omega) (by omega) (by simp only [List.length_append];omega) λs2 l3 h2 sw kp2=>?_
    have e:l3=D ++ B.drop (B.length - A.length) ++ B.take (B.length - A.length) ++ (A ++ E):=by
     refine zAAN l2.symm ?_
     rw [List.take_append_drop,l1,show D.length+A.length+(B.length - A.length)=m+B.length - A.length by omega]
     exact sw
    rw [e] at h2
    have e4:IntKind.i64.wrap (((B.length:Nat):Int) - ((A.length:Nat):Int))=(((B.take (B.length - A.length)).length:Nat):Int):=by rw [qAT (by omega) (by omega),l1];omega
    simp only [qAo,e4,qAA]
    refine ⟨_,?_,D,B.drop (B.length - A.length),B.take (B.length - A.length),A ++ E,by rw [l2],by omega,by omega,rfl,by omega,?_,h2,kp.trans kp2⟩
    ·rw [l1,l2];omega
    ·rw [← heq]
     simp only [List.append_assoc]
     rw [← List.append_assoc (B.take (B.length - A.length)),List.take_append_drop]
end Go.AM.SG
namespace Go.AM.SG
open Go Go.AM Go.Proofs
variable {K : AV → Hq → Prop} {s s' s0 : Hq} {db : Nat} {l : List Cd}
theorem qKC {L R:List Cd} {y:Cd} {n:Nat} (hn:n=L.length):cAt (L ++ y :: R) n=y:=by
 subst hn
 rw [qDL,if_neg (by omega),Nat.sub_self];rfl
theorem CAt.swap2 (h:CAt s db l) {i j:Nat} {x y:Cd} {R:Hq→Prop} (hi:i < l.length) (hj:j < l.length) (hx:cAt l i=x) (hy:cAt l j=y) (hR:∀ s',CAt s' db (swpC l i j)→Upto db s s'→R s') :
  oK (qAn s 2 (.ptr db (i * 2)) (.agg (cR y))) λs_10=>oK (qAn s_10 2 (.ptr db (j * 2)) (.agg (cR x))) R:=by
 subst hx hy
 exact h.swap hi hj hR
theorem qR0 {P X Q:List Cd} {a b k:Nat} (h:CAt s db (P ++ X ++ Q)) (hk:k=(P ++ X ++ Q).length) (hl:k≤100000) (ha:a=P.length) (hb:b=a+X.length)
  (hK:∀ s' Z,CAt s' db (P ++ Z ++ Q)→Srt Z→Stb X Z→Z.length=X.length→KB db s s'→K (.tup []) s'):wC Tryz.prog XX 116 [.slc db 0 k none 2,.int .i64 (a:Int),.int .i64 (b:Int),cmpv] K s:=by
 have hlen:k=P.length+X.length+Q.length:=by rw [hk];simp only [List.length_append]
 refine qB3 ?_
 have e1:IntKind.i64.wrap ((a:Int)+1)=((a+1:Nat):Int):=by rw [qAT (by omega) (by omega)];omega
 simp only [qA0,qAK,e1,qAA]
 refine ⟨λys t m=>∃ (j:Nat) (Z:List Cd),ys=[.int .i64 ((a+j:Nat):Int)]∧1≤j∧(j≤X.length∨X=[])∧m=X.length+1 - j∧CAt t db (P ++ Z ++ X.drop j ++ Q)∧Srt Z∧Stb (X.take j) Z∧Z.length=(X.take j).length∧KB db s t,⟨_,1,X.take 1,rfl,by omega,?_,rfl,?_,?_,.refl _,rfl,.refl _ s⟩,?_⟩
 ·cases X with
  | nil=>exact .inr rfl
  | cons x r=>exact .inl (by simp)
 ·rw [List.append_assoc P,List.take_append_drop];exact h
 ·unfold Srt
  cases X with
  | nil=>simp
  | cons x r=>simp
 rintro f t m ⟨j,Z,hy,hj,hjX,rfl,h1,srt,stb,hzl,kp⟩
 simp only [List.cons.injEq,and_true] at hy
 rw [hy]
 simp only [qBG,qAM,qAA]
 refine qAC (λhlt=>?_) (λhge=>?_)
 rotate_left
 ·have hge:X.length≤j:=by have:=of_decide_eq_false hge;omega
  rw [List.take_of_length_le hge] at stb hzl
  rw [List.drop_eq_nil_of_le hge,List.append_nil] at h1
  exact hK t Z h1 srt stb hzl kp
 have hlt:j < X.length:=by have:=of_decide_eq_true hlt;omega
 obtain ⟨y,hyj⟩:∃ y,X[j]?=some y:=⟨_,List.getElem?_eq_getElem hlt⟩
 have hdrop:X.drop j=y :: X.drop (j+1):=by
  rw [List.drop_eq_getElem_cons hlt]
  congr 1
  rw [List.getElem?_eq_getElem hlt] at hyj
  exact Option.some.inj hyj
 have htake:X.take (j+1)=X.take j ++ [y]:=by rw [List.take_add_one,hyj];rfl
 have hzl2:Z.length=j:=by rw [hzl,List.length_take];omega
 refine ⟨λys t c=>∃ (A V:List Cd),ys=[.int .i64 ((a+A.length:Nat):Int)]∧c=A.length∧Z=A ++ V∧(∀ u∈V,y.1 < u.1)∧CAt t db (P ++ A ++ y :: (V ++ X.drop (j+1) ++ Q))∧KB db s t,⟨_,Z,[],by rw [hzl2],rfl,by simp,by simp,?_,kp⟩,?_⟩
 ·rw [hdrop] at h1
  simpa [List.append_assoc] using h1
 rintro f t2 c ⟨A,V,hy2,rfl,rfl,hV,h2,kp2⟩
 simp only [List.cons.injEq,and_true] at hy2
 rw [hy2]
 have hk2:k=(P ++ A ++ y :: (V ++ X.drop (j+1) ++ Q)).length:=by
  simp only [List.length_append,List.length_cons,List.length_drop] at hzl2 ⊢
  omega
 rw [List.length_append] at hzl2
 have done:∀ t3,CAt t3 db (P ++ A ++ y :: (V ++ X.drop (j+1) ++ Q))→KB db s t3→(∀ u∈A,u.1≤y.1)→oK (qAB .add (.int .i64 ((a+j:Nat):Int)) (.int .i64 1)) λv_15=>
   ∃ m',m' < X.length+1 - j∧∃ (j:Nat) (Z:List Cd),[v_15]=[.int .i64 ((a+j:Nat):Int)]∧1≤j∧(j≤X.length∨X=[])∧m'=X.length+1 - j∧CAt t3 db (P ++ Z ++ X.drop j ++ Q)∧Srt Z∧Stb (X.take j) Z∧Z.length=(X.take j).length∧KB db s t3:=λt3 h2 kp2 hA=>by
  have mg:=Mrg.one_r srt hA hV
  simp only [qAK,qAA]
  rw [qAT (by omega) (by omega)]
  refine ⟨_,?_,j+1,A ++ y :: V,?_,by omega,.inl (by omega),rfl,?_,mg.srt,?_,?_,kp2⟩
  ·omega
  ·rw [show ((a+(j+1):Nat):Int)=((a+j:Nat):Int)+1 by omega]
  ·simpa [List.append_assoc] using h2
  ·rw [htake]
   exact (stb.app (.refl [y])).trans mg.stb
  ·rw [mg.len,htake,List.length_append,List.length_append,List.length_take]
   simp only [List.length_singleton]
   omega
 simp only [qB0,qA4,qAA]
 refine qAC (λhp=>?_) (λhp=>?_)
 rotate_left
 ·have hA:A=[]:=List.eq_nil_of_length_eq_zero (by have:=of_decide_eq_false hp;omega)
  simp only [qAv,hp,qAf,qAQ,qAA]
  exact done t2 h2 kp2 λu hu=>by rw [hA] at hu;cases hu
 have hpl:0 < A.length:=by have:=of_decide_eq_true hp;omega
 obtain ⟨A',u,rfl⟩:∃ A' u,A=A' ++ [u]:=⟨A.dropLast,A.getLast (by intro e;rw [e] at hpl;simp at hpl),(List.dropLast_concat_getLast _).symm⟩
 have eA:(A' ++ [u]).length=A'.length+1:=by simp
 rw [eA] at hzl2
 have e2:IntKind.i64.wrap (((a+(A'.length+1):Nat):Int) - 1)=((a+A'.length:Nat):Int):=by rw [qAT (by omega) (by omega)];omega
 have lk:(P ++ (A' ++ [u]) ++ y :: (V ++ X.drop (j+1) ++ Q)).length=k:=hk2.symm
 have lk2:a+A'.length+1 < k:=by
  rw [← lk];simp only [List.length_append,List.length_cons,List.length_nil];omega
 have r1:cAt (P ++ (A' ++ [u]) ++ y :: (V ++ X.drop (j+1) ++ Q)) (a+(A'.length+1))=y:=qKC (by rw [List.length_append,eA];omega)
 have r2:cAt (P ++ (A' ++ [u]) ++ y :: (V ++ X.drop (j+1) ++ Q)) (a+A'.length)=u:=by
  have:P ++ (A' ++ [u]) ++ y :: (V ++ X.drop (j+1) ++ Q)=(P ++ A') ++ u :: (y :: (V ++ X.drop (j+1) ++ Q)):=by simp [List.append_assoc]
  rw [this]
  exact qKC (by rw [List.length_append];omega)
 have w1:=h2.row (i:=a+(A'.length+1)) (by rw [lk];omega)
 have w2:=h2.row (i:=a+A'.length) (by rw [lk];omega)
 rw [r1] at w1
 rw [r2] at w2
 simp only [eA,c_ad (show a+(A'.length+1) < k by omega),w1,qAo,e2,c_ad (show a+A'.length < k by omega),w2,qAA]
 refine qWA λs3 r sub3 hr=>?_
 have h3:=h2.sub sub3
 have kp3:KB db s s3:=kp2.trans sub3.keep
 have w1':=h3.row (i:=a+(A'.length+1)) (by rw [lk];omega)
 have w2':=h3.row (i:=a+A'.length) (by rw [lk];omega)
 rw [r1] at w1'
 rw [r2] at w2'
 have hp':decide ((a:Int) < ((a+(A'.length+1):Nat):Int))=true:=decide_eq_true (by omega)
 simp only [qAM,qAA,qAv,hp',qAg]
 refine qAC (λhc=>?_) (λhc=>?_)
 ·have hc:y.1 < u.1:=hr.1 (of_decide_eq_true hc)
  simp only [qAo,e2,c_ad (show a+(A'.length+1) < k by omega),c_ad (show a+A'.length < k by omega),w1',w2',qAA]
  refine h3.swap2 (by rw [lk];omega) (by rw [lk];omega) r1 r2 λs4 h4 u4=>?_
  refine ⟨_,?_,A',u :: V,rfl,rfl,by simp [List.append_assoc],λv hv=>?_,?_,kp3.trans (u4.keep rfl)⟩
  ·omega
  ·rcases List.mem_cons.1 hv with q | q
   ·rw [q];exact hc
   ·exact hV v q
  ·have e:=qMV (P:=P) (U:=A') (R:=V ++ X.drop (j+1) ++ Q) (y:=y) (u:=u)
   have e5:P ++ (A' ++ [u]) ++ y :: (V ++ X.drop (j+1) ++ Q)=P ++ A' ++ [u] ++ y :: (V ++ X.drop (j+1) ++ Q):=by simp [List.append_assoc]
   rw [e5,show a+(A'.length+1)=P.length+A'.length+1 by omega,show a+A'.length=P.length+A'.length by omega,e] at h4
   simpa [List.append_assoc] using h4
 ·have hc:¬ y.1 < u.1:=λq=>of_decide_eq_false hc (hr.2 q)
  exact done s3 h3 kp3 λv hv=>by
   have hs:=srt.parts.1
   rcases List.mem_append.1 hv with q | q
   ·have:=hs.parts.2.2 v q u (by simp)
    omega
   ·rw [List.mem_singleton] at q
    rw [q];omega
end Go.AM.SG
namespace Go.AM.SG
open Go Go.AM Go.Proofs
variable {K : AV → Hq → Prop} {s s' s0 : Hq} {db : Nat} {l : List Cd}
theorem qQx {w:Nat} (h:w≤1000000):qBf .u64 (.int .i64 (w:Int))=some (.int .u64 (w:Int))∧qBk .shr (.int .u64 (w:Int)) (.int .u64 1)=some (.int .u64 ((w / 2:Nat):Int))∧qBf .i64 (.int .u64 ((w / 2:Nat):Int))=some (.int .i64 ((w / 2:Nat):Int)):=by
 refine ⟨?_,?_,?_⟩
 ·show some (AV.int .u64 (qAw .u64 (w:Int)))=_
  rw [show qAw .u64 (w:Int)=w by simp only [qAw];rw [qDi _ _ _ (by omega) (by omega)];split <;> omega]
 ·show frc ((w:Int).fdiv ((2 ^ (min 1 (IntKind.bits .u64)):Nat):Int)) (λn=>some (AV.int .u64 n))=_
  rw [qBc,Nat.min_eq_left (show 1≤IntKind.bits .u64 by decide),Int.fdiv_eq_ediv_of_nonneg _ (Int.natCast_nonneg _),← Int.natCast_ediv]
 ·show some (AV.int .i64 (qAw .i64 ((w / 2:Nat):Int)))=_
  rw [show qAw .i64 ((w / 2:Nat):Int)=((w / 2:Nat):Int) by simp only [qAw];rw [qDi _ _ _ (by omega) (by omega)];split <;> omega]
theorem qYh {i j:Nat} (h:i≠j):swpC l i j=swpC l j i:=by
 unfold swpC
 rw [List.set_comm _ _ h]
theorem qU4 {P U R:List Cd} {y u:Cd}:swpC (P ++ U ++ [u] ++ y :: R) (P.length+U.length) (P.length+U.length+1)=P ++ U ++ y :: u :: R:=by
 rw [qYh (by omega)]
 exact qMV
theorem zAAj {P Y Q:List Cd} {x:Cd} {a m b k:Nat} (h:CAt s db (P ++ [x] ++ Y ++ Q)) (hk:k=(P ++ [x] ++ Y ++ Q).length) (hl:k≤100000) (ha:a=P.length) (hm:m=a+1) (hb:b=m+Y.length) (hY:Srt Y)
  (hK:∀ s' Z,CAt s' db (P ++ Z ++ Q)→Mrg [x] Y Z→KB db s s'→K (.tup []) s') :
  ∃ I0:List AV→Hq→Nat→Prop,(∃ m',I0 [.int .i64 (m:Int),.int .i64 (b:Int)] s m')∧∀ (f:Env) (s:Hq) (m0:Nat),I0 [f 10,f 11] s m0→
   qBZ XX (.slc db 0 k none 2) (.int .i64 (a:Int)) cmpv (f 10) (f 11) I0 m0 K s:=by
 have hlen:k=P.length+1+Y.length+Q.length:=by rw [hk];simp only [List.length_append,List.length_singleton]
 have hcx:cAt (P ++ [x] ++ Y ++ Q) a=x:=by
  rw [show P ++ [x] ++ Y ++ Q=P ++ x :: (Y ++ Q) by simp]
  exact qKC ha
 have hcy:∀ i,i < Y.length→cAt (P ++ [x] ++ Y ++ Q) (m+i)=cAt Y i:=λi hi=>by
  rw [qDL,if_pos (by simp only [List.length_append,List.length_singleton];omega),qDL,if_neg (by simp only [List.length_append,List.length_singleton];omega)]
  congr 1
  simp only [List.length_append,List.length_singleton]
  omega
 refine ⟨λys t c=>∃ i j:Nat,ys=[.int .i64 ((m+i:Nat):Int),.int .i64 ((m+j:Nat):Int)]∧i≤j∧j≤Y.length∧c=j - i∧Sub s t∧(0 < i→(cAt Y (i - 1)).1 < x.1)∧(j < Y.length→x.1≤(cAt Y j).1),⟨_,0,Y.length,by rw [hb];rfl,by omega,Nat.le_refl _,rfl,.refl s,λh=>absurd h (by omega),λh=>absurd h (by omega)⟩,?_⟩
 rintro f t c ⟨i,j,hy,hij,hj,rfl,st,k1,k2⟩
 simp only [List.cons.injEq,and_true] at hy
 rw [hy.1,hy.2]
 have ht:=h.sub st
 simp only [qBZ,qAM,qAA]
 refine qAC (λhlt=>?_) (λhge=>?_)
 ·have hlt:i < j:=by have:=of_decide_eq_true hlt;omega
  have e1:IntKind.i64.wrap (((m+i:Nat):Int)+((m+j:Nat):Int))=((2 * m+i+j:Nat):Int):=by rw [qAT (by omega) (by omega)];omega
  obtain ⟨q1,q2,q3⟩:=qQx (w:=2 * m+i+j) (by omega)
  have e2:(2 * m+i+j) / 2=m+(i+j) / 2:=by omega
  rw [e2] at q2 q3
  have hh:(i+j) / 2 < j:=by omega
  have r1:=ht.row (i:=m+(i+j) / 2) (by rw [← hk];omega)
  have r2:=ht.row (i:=a) (by rw [← hk];omega)
  rw [hcy _ (by omega)] at r1
  rw [hcx] at r2
  simp only [qAK,e1,q1,q2,q3,c_ad (show m+(i+j) / 2 < k by omega),c_ad (show a < k by omega),r1,r2,qAA]
  refine qWA λs3 r sub3 hr=>?_
  simp only [qAM,qAA]
  refine qAC (λhc=>?_) (λhc=>?_)
  ·have hc:=hr.1 (of_decide_eq_true hc)
   rw [qAT (by omega) (by omega)]
   exact ⟨_,by omega,(i+j) / 2+1,j,by rw [show ((m+((i+j) / 2+1):Nat):Int)=((m+(i+j) / 2:Nat):Int)+1 by omega],by omega,hj,rfl,st.trans sub3,λ_=>by rw [Nat.add_sub_cancel];exact hc,k2⟩
  ·have hc:x.1≤(cAt Y ((i+j) / 2)).1:=by
    have:¬ (cAt Y ((i+j) / 2)).1 < x.1:=λq=>of_decide_eq_false hc (hr.2 q)
    omega
   exact ⟨_,by omega,i,(i+j) / 2,rfl,by omega,by omega,rfl,st.trans sub3,k1,λ_=>hc⟩
 ·have hge:i=j:=by have:=of_decide_eq_false hge;omega
  subst hge
  obtain ⟨p1,p2⟩:=qYK hY hj k1 k2
  have mg:Mrg [x] Y (Y.take i ++ x :: Y.drop i):=by
   have:=Mrg.one_l (a:=x) (V:=Y.take i) (B:=Y.drop i) (by rw [List.take_append_drop];exact hY) p1 p2
   rwa [List.take_append_drop] at this
  refine ⟨λys t c=>∃ n:Nat,ys=[.int .i64 ((a+n:Nat):Int)]∧n≤i∧c=i - n∧CAt t db (P ++ Y.take n ++ x :: (Y.drop n ++ Q))∧KB db s t,⟨_,0,rfl,by omega,rfl,by simpa using ht,st.keep⟩,?_⟩
  rintro f t2 c ⟨n,hy2,hn,rfl,h2,kp⟩
  simp only [List.cons.injEq,and_true] at hy2
  rw [hy2]
  have e1:IntKind.i64.wrap (((m+i:Nat):Int) - 1)=((a+i:Nat):Int):=by rw [qAT (by omega) (by omega)];omega
  simp only [qCV,qAo,e1,qAM,qAA]
  refine qAC (λhlt=>?_) (λhge=>?_)
  ·have hlt:n < i:=by have:=of_decide_eq_true hlt;omega
   have hny:n < Y.length:=by omega
   have ltk:(Y.take n).length=n:=by rw [List.length_take];omega
   obtain ⟨u,hu,ed⟩:∃ u,Y[n]?=some u∧Y.drop n=u :: Y.drop (n+1):=⟨Y[n],List.getElem?_eq_getElem hny,List.drop_eq_getElem_cons hny⟩
   have lk:(P ++ Y.take n ++ x :: (Y.drop n ++ Q)).length=k:=by
    simp only [List.length_append,List.length_cons,List.length_drop,ltk];omega
   have e2:IntKind.i64.wrap (((a+n:Nat):Int)+1)=((a+n+1:Nat):Int):=by rw [qAT (by omega) (by omega)];omega
   have c1:cAt (P ++ Y.take n ++ x :: (Y.drop n ++ Q)) (a+n)=x:=qKC (by rw [List.length_append,ltk];omega)
   have c2:cAt (P ++ Y.take n ++ x :: (Y.drop n ++ Q)) (a+n+1)=u:=by
    rw [ed,show P ++ Y.take n ++ x :: (u :: Y.drop (n+1) ++ Q)=(P ++ Y.take n ++ [x]) ++ u :: (Y.drop (n+1) ++ Q) by simp]
    exact qKC (by simp only [List.length_append,ltk,List.length_singleton];omega)
   have r1:=h2.row (i:=a+n) (by rw [lk];omega)
   have r2:=h2.row (i:=a+n+1) (by rw [lk];omega)
   rw [c1] at r1
   rw [c2] at r2
   simp only [qAK,e2,c_ad (show a+n+1 < k by omega),c_ad (show a+n < k by omega),r1,r2,qAA]
   refine h2.swap2 (by rw [lk];omega) (by rw [lk];omega) c1 c2 λs4 h4 u4=>?_
   refine ⟨_,by omega,n+1,by rw [show a+(n+1)=a+n+1 by omega],by omega,rfl,?_,kp.trans (u4.keep rfl)⟩
   have e:=qU4 (P:=P) (U:=Y.take n) (R:=Y.drop (n+1) ++ Q) (y:=u) (u:=x)
   rw [ed,show P ++ Y.take n ++ x :: (u :: Y.drop (n+1) ++ Q)=P ++ Y.take n ++ [x] ++ u :: (Y.drop (n+1) ++ Q) by simp,show a+n=P.length+(Y.take n).length by rw [ltk];omega,e] at h4
   rw [List.take_add_one,hu]
   simpa [List.append_assoc] using h4
  ·have hge:n=i:=by have:=of_decide_eq_false hge;omega
   subst hge
   refine hK t2 _ ?_ mg kp
   simpa [List.append_assoc] using h2
end Go.AM.SG
namespace Go.AM.SG
open Go Go.AM Go.Proofs
variable {K : AV → Hq → Prop} {s s' s0 : Hq} {db : Nat} {l : List Cd}
theorem zAAq {P X Q:List Cd} {y:Cd} {a m k:Nat} (h:CAt s db (P ++ X ++ [y] ++ Q)) (hk:k=(P ++ X ++ [y] ++ Q).length) (hl:k≤100000) (ha:a=P.length) (hm:m=a+X.length) (hX:Srt X)
  (hK:∀ s' Z,CAt s' db (P ++ Z ++ Q)→Mrg X [y] Z→KB db s s'→K (.tup []) s') :
  ∃ I2:List AV→Hq→Nat→Prop,(∃ m',I2 [.int .i64 (a:Int),.int .i64 (m:Int)] s m')∧∀ (f:Env) (s:Hq) (m2:Nat),I2 [f 14,f 15] s m2→
   qBY XX (.slc db 0 k none 2) (.int .i64 (m:Int)) cmpv (f 14) (f 15) I2 m2 K s:=by
 have hlen:k=P.length+X.length+1+Q.length:=by rw [hk];simp only [List.length_append,List.length_singleton]
 have hcy:cAt (P ++ X ++ [y] ++ Q) m=y:=by
  rw [show P ++ X ++ [y] ++ Q=(P ++ X) ++ y :: Q by simp]
  exact qKC (by rw [List.length_append];omega)
 have hcx:∀ i,i < X.length→cAt (P ++ X ++ [y] ++ Q) (a+i)=cAt X i:=λi hi=>by
  rw [qDL,if_pos (by simp only [List.length_append,List.length_singleton];omega),qDL,if_pos (by simp only [List.length_append];omega),qDL,if_neg (by omega)]
  congr 1
  omega
 refine ⟨λys t c=>∃ i j:Nat,ys=[.int .i64 ((a+i:Nat):Int),.int .i64 ((a+j:Nat):Int)]∧i≤j∧j≤X.length∧c=j - i∧Sub s t∧(0 < i→(cAt X (i - 1)).1≤y.1)∧(j < X.length→y.1 < (cAt X j).1),⟨_,0,X.length,by rw [hm];rfl,by omega,Nat.le_refl _,rfl,.refl s,λh=>absurd h (by omega),λh=>absurd h (by omega)⟩,?_⟩
 rintro f t c ⟨i,j,hy,hij,hj,rfl,st,k1,k2⟩
 simp only [List.cons.injEq,and_true] at hy
 rw [hy.1,hy.2]
 have ht:=h.sub st
 simp only [qBY,qAM,qAA]
 refine qAC (λhlt=>?_) (λhge=>?_)
 ·have hlt:i < j:=by have:=of_decide_eq_true hlt;omega
  have e1:IntKind.i64.wrap (((a+i:Nat):Int)+((a+j:Nat):Int))=((2 * a+i+j:Nat):Int):=by rw [qAT (by omega) (by omega)];omega
  obtain ⟨q1,q2,q3⟩:=qQx (w:=2 * a+i+j) (by omega)
  have e2:(2 * a+i+j) / 2=a+(i+j) / 2:=by omega
  rw [e2] at q2 q3
  have hh:(i+j) / 2 < j:=by omega
  have r1:=ht.row (i:=a+(i+j) / 2) (by rw [← hk];omega)
  have r2:=ht.row (i:=m) (by rw [← hk];omega)
  rw [hcx _ (by omega)] at r1
  rw [hcy] at r2
  simp only [qAK,e1,q1,q2,q3,c_ad (show a+(i+j) / 2 < k by omega),c_ad (show m < k by omega),r1,r2,qAA]
  refine qWA λs3 r sub3 hr=>?_
  simp only [qAM,qAs,qAA]
  by_cases hc:r < 0
  ·rw [decide_eq_true hc]
   simp only [Bool.not_true,qAQ]
   exact ⟨_,by omega,i,(i+j) / 2,rfl,by omega,by omega,rfl,st.trans sub3,k1,λ_=>hr.1 hc⟩
  ·rw [decide_eq_false hc]
   have hc:(cAt X ((i+j) / 2)).1≤y.1:=by
    have:¬ y.1 < (cAt X ((i+j) / 2)).1:=λq=>hc (hr.2 q)
    omega
   simp only [Bool.not_false,qAh]
   rw [qAT (by omega) (by omega)]
   exact ⟨_,by omega,(i+j) / 2+1,j,by rw [show ((a+((i+j) / 2+1):Nat):Int)=((a+(i+j) / 2:Nat):Int)+1 by omega],by omega,hj,rfl,st.trans sub3,λ_=>by rw [Nat.add_sub_cancel];exact hc,k2⟩
 ·have hge:i=j:=by have:=of_decide_eq_false hge;omega
  subst hge
  obtain ⟨p1,p2⟩:=zADd hX hj k1 k2
  have mg:Mrg X [y] (X.take i ++ y :: X.drop i):=by
   have:=Mrg.one_r (y:=y) (A:=X.take i) (U:=X.drop i) (by rw [List.take_append_drop];exact hX) p1 p2
   rwa [List.take_append_drop] at this
  refine ⟨λys t c=>∃ n:Nat,ys=[.int .i64 ((a+n:Nat):Int)]∧i≤n∧n≤X.length∧c=n - i∧CAt t db (P ++ X.take n ++ y :: (X.drop n ++ Q))∧KB db s t,⟨_,X.length,by rw [hm],hj,Nat.le_refl _,rfl,by simpa using ht,st.keep⟩,?_⟩
  rintro f t2 c ⟨n,hy2,hn,hnX,rfl,h2,kp⟩
  simp only [List.cons.injEq,and_true] at hy2
  rw [hy2]
  simp only [qCS,qA4,qAA]
  refine qAC (λhlt=>?_) (λhge=>?_)
  ·have hlt:i < n:=by have:=of_decide_eq_true hlt;omega
   obtain ⟨n,rfl⟩:∃ n',n=n'+1:=⟨n - 1,by omega⟩
   have hny:n < X.length:=by omega
   have ltk:(X.take n).length=n:=by rw [List.length_take];omega
   obtain ⟨u,hu,ed⟩:∃ u,X[n]?=some u∧X.drop n=u :: X.drop (n+1):=⟨X[n],List.getElem?_eq_getElem hny,List.drop_eq_getElem_cons hny⟩
   have et:X.take (n+1)=X.take n ++ [u]:=by rw [List.take_add_one,hu];rfl
   rw [et] at h2
   have lk:(P ++ (X.take n ++ [u]) ++ y :: (X.drop (n+1) ++ Q)).length=k:=by
    simp only [List.length_append,List.length_cons,List.length_drop,ltk,List.length_nil];omega
   have e2:IntKind.i64.wrap (((a+(n+1):Nat):Int) - 1)=((a+n:Nat):Int):=by rw [qAT (by omega) (by omega)];omega
   have c1:cAt (P ++ (X.take n ++ [u]) ++ y :: (X.drop (n+1) ++ Q)) (a+(n+1))=y:=qKC (by simp only [List.length_append,ltk,List.length_singleton];omega)
   have c2:cAt (P ++ (X.take n ++ [u]) ++ y :: (X.drop (n+1) ++ Q)) (a+n)=u:=by
    rw [show P ++ (X.take n ++ [u]) ++ y :: (X.drop (n+1) ++ Q)=(P ++ X.take n) ++ u :: (y :: (X.drop (n+1) ++ Q)) by simp]
    exact qKC (by rw [List.length_append,ltk];omega)
   have r1:=h2.row (i:=a+(n+1)) (by rw [lk];omega)
   have r2:=h2.row (i:=a+n) (by rw [lk];omega)
   rw [c1] at r1
   rw [c2] at r2
   simp only [qAo,e2,c_ad (show a+(n+1) < k by omega),c_ad (show a+n < k by omega),r1,r2,qAA]
   refine h2.swap2 (by rw [lk];omega) (by rw [lk];omega) c1 c2 λs4 h4 u4=>?_
   refine ⟨_,by omega,n,rfl,by omega,by omega,rfl,?_,kp.trans (u4.keep rfl)⟩
   have e:=qMV (P:=P) (U:=X.take n) (R:=X.drop (n+1) ++ Q) (y:=y) (u:=u)
   rw [show P ++ (X.take n ++ [u]) ++ y :: (X.drop (n+1) ++ Q)=P ++ X.take n ++ [u] ++ y :: (X.drop (n+1) ++ Q) by simp,show a+(n+1)=P.length+(X.take n).length+1 by rw [ltk];omega,show a+n=P.length+(X.take n).length by rw [ltk];omega,e] at h4
   rw [ed]
   simpa [List.append_assoc] using h4
  ·have hge:n=i:=by have:=of_decide_eq_false hge;omega
   subst hge
   refine hK t2 _ ?_ mg kp
   simpa [List.append_assoc] using h2
end Go.AM.SG
namespace Go.AM.SG
open Go Go.AM Go.Proofs
theorem len0 {l:List Cd} (h:l=[]):l.length=0:=by rw [h];rfl
set_option maxHeartbeats 1000000 in
theorem qXa:∀ (N:Nat) {P X Y Q:List Cd} {a m b k db:Nat} {s:Hq} {K:AV→Hq→Prop},X.length+Y.length≤N→CAt s db (P ++ X ++ Y ++ Q)→k=(P ++ X ++ Y ++ Q).length→k≤100000→a=P.length→m=a+X.length→b=m+Y.length→X≠[]→Y≠[]→Srt X→Srt Y→
  (∀ s' Z,CAt s' db (P ++ Z ++ Q)→Mrg X Y Z→KB db s s'→K (.tup []) s')→wC Tryz.prog XX 117 [.slc db 0 k none 2,.int .i64 (a:Int),.int .i64 (m:Int),.int .i64 (b:Int),cmpv] K s
 | 0,P,X,Y,Q,a,m,b,k,db,s,K,hN,h,hk,hl,ha,hm,hb,hX,hY,sX,sY,hK=>by
   have:=List.length_pos_iff.2 hX
   omega
 | N+1,P,X,Y,Q,a,m,b,k,db,s,K,hN,h,hk,hl,ha,hm,hb,hX,hY,sX,sY,hK=>by
   have lx:=List.length_pos_iff.2 hX
   have ly:=List.length_pos_iff.2 hY
   have hlen:k=P.length+X.length+Y.length+Q.length:=by rw [hk];simp only [List.length_append]
   refine qEI ?_
   have e1:IntKind.i64.wrap ((m:Int) - a)=((X.length:Nat):Int):=by rw [qAT (by omega) (by omega)];omega
   have e2:IntKind.i64.wrap ((b:Int) - m)=((Y.length:Nat):Int):=by rw [qAT (by omega) (by omega)];omega
   simp only [qBn,qAo,e1,e2,qAe,qAZ,Bool.false_bne,qAA]
   cases c1:(((X.length:Nat):Int) == 1) with
   | true=>
     have c1:X.length=1:=by have:=eq_of_beq c1;omega
     obtain ⟨x,rfl⟩:=List.length_eq_one_iff.1 c1
     simp only [qAh]
     exact zAAj h hk hl ha hm hb sY hK
   | false=>
   simp only [qAQ]
   cases c2:(((Y.length:Nat):Int) == 1) with
   | true=>
     have c2:Y.length=1:=by have:=eq_of_beq c2;omega
     obtain ⟨y,rfl⟩:=List.length_eq_one_iff.1 c2
     simp only [qAh]
     exact zAAq h hk hl ha hm sX hK
   | false=>
   have c1:X.length≠1:=λq=>by rw [q] at c1;cases c1
   have c2:Y.length≠1:=λq=>by rw [q] at c2;cases c2
   simp only [qAQ]
   obtain ⟨μ,hμ⟩:∃ μ,μ=(X.length+Y.length) / 2:=⟨_,rfl⟩
   have e3:IntKind.i64.wrap ((a:Int)+b)=((a+b:Nat):Int):=by rw [qAT (by omega) (by omega)];omega
   obtain ⟨q1,q2,q3⟩:=qQx (w:=a+b) (by omega)
   have e4:(a+b) / 2=a+μ:=by omega
   rw [e4] at q2 q3
   have e5:IntKind.i64.wrap (((a+μ:Nat):Int)+m)=((a+μ+m:Nat):Int):=by rw [qAT (by omega) (by omega)];omega
   simp only [qAK,e3,q1,q2,q3,e5,qA4,qAo,qAA]
   have main:∀ σ ρ:Nat,SymS X Y μ σ ρ→qA6 XX (.slc db 0 k none 2) (.int .i64 (a:Int)) (.int .i64 (m:Int)) (.int .i64 (b:Int)) cmpv (.int .i64 ((a+μ:Nat):Int)) (.int .i64 ((a+μ+m:Nat):Int)) (.int .i64 ((a+σ:Nat):Int)) (.int .i64 ((a+ρ:Nat):Int)) K s:=by
    intro σ ρ h0
    have e6:IntKind.i64.wrap (((a+μ+m:Nat):Int) - 1)=((a+μ+m - 1:Nat):Int):=by rw [qAT (by omega) (by omega)];omega
    simp only [qA6,qAo,e6,qAA]
    refine ⟨λys t c=>∃ σ ρ:Nat,ys=[.int .i64 ((a+σ:Nat):Int),.int .i64 ((a+ρ:Nat):Int)]∧c=ρ - σ∧Sub s t∧SymS X Y μ σ ρ,⟨_,σ,ρ,rfl,rfl,.refl s,h0⟩,?_⟩
    rintro f t c ⟨σ,ρ,hy,rfl,st,hs⟩
    simp only [List.cons.injEq,and_true] at hy
    rw [hy.1,hy.2]
    have ht:=h.sub st
    have hle:=hs.le
    have hlo:=hs.lo
    have hhi:=hs.hi
    simp only [qCU,qAM,qAA]
    refine qAC (λhlt=>?_) (λhge=>?_)
    ·have hlt:σ < ρ:=by have:=of_decide_eq_true hlt;omega
     obtain ⟨γ,hγ⟩:∃ γ,γ=(σ+ρ) / 2:=⟨_,rfl⟩
     have g1:σ≤γ∧γ < ρ:=by omega
     have g2:γ < X.length∧γ+1≤μ∧μ - 1 - γ < Y.length:=by
      by_cases c:μ < X.length
      ·rw [if_pos c] at hlo hhi;omega
      ·rw [if_neg c] at hlo hhi;omega
     have e7:IntKind.i64.wrap (((a+σ:Nat):Int)+((a+ρ:Nat):Int))=((2 * a+σ+ρ:Nat):Int):=by rw [qAT (by omega) (by omega)];omega
     obtain ⟨q1,q2,q3⟩:=qQx (w:=2 * a+σ+ρ) (by omega)
     have e8:(2 * a+σ+ρ) / 2=a+γ:=by omega
     rw [e8] at q2 q3
     have e9:IntKind.i64.wrap (((a+μ+m - 1:Nat):Int) - ((a+γ:Nat):Int))=((m+(μ - 1 - γ):Nat):Int):=by rw [qAT (by omega) (by omega)];omega
     have cx:cAt (P ++ X ++ Y ++ Q) (a+γ)=cAt X γ:=by
      rw [qDL,if_pos (by simp only [List.length_append];omega),qDL,if_pos (by simp only [List.length_append];omega),qDL,if_neg (by omega)]
      congr 1
      omega
     have cy:cAt (P ++ X ++ Y ++ Q) (m+(μ - 1 - γ))=cAt Y (μ - 1 - γ):=by
      rw [qDL,if_pos (by simp only [List.length_append];omega),qDL,if_neg (by simp only [List.length_append];omega)]
      congr 1
      simp only [List.length_append]
      omega
     have r1:=ht.row (i:=a+γ) (by rw [← hk];omega)
     have r2:=ht.row (i:=m+(μ - 1 - γ)) (by rw [← hk];omega)
     rw [cx] at r1
     rw [cy] at r2
     simp only [qAK,e7,q1,q2,q3,qAo,e9,c_ad (show m+(μ - 1 - γ) < k by omega),c_ad (show a+γ < k by omega),r1,r2,qAA]
     refine qWA λs3 r sub3 hr=>?_
     simp only [qAM,qAs,qAA]
     by_cases hc:r < 0
     ·rw [decide_eq_true hc]
      simp only [Bool.not_true,qAQ]
      exact ⟨_,by omega,σ,γ,rfl,rfl,st.trans sub3,g1.1,hlo,by omega,hs.s1,λ_=>hr.1 hc⟩
     ·rw [decide_eq_false hc]
      have hc:(cAt X γ).1≤(cAt Y (μ - 1 - γ)).1:=by
       have:¬ (cAt Y (μ - 1 - γ)).1 < (cAt X γ).1:=λq=>hc (hr.2 q)
       omega
      simp only [Bool.not_false,qAh]
      rw [qAT (by omega) (by omega)]
      refine ⟨_,by omega,γ+1,ρ,by rw [show ((a+(γ+1):Nat):Int)=((a+γ:Nat):Int)+1 by omega],rfl,st.trans sub3,by omega,by omega,hhi,λ_=>?_,hs.s2⟩
      rw [Nat.add_sub_cancel,show μ - (γ+1)=μ - 1 - γ by omega]
      exact hc
    ·have hge:σ=ρ:=by have:=of_decide_eq_false hge;omega
     subst hge
     obtain ⟨k1,k2,k3,k4,k5⟩:=hs.cut sX sY hμ
     obtain ⟨A,hA⟩:∃ A,A=X.take σ:=⟨_,rfl⟩
     obtain ⟨V0,hU⟩:∃ U,U=X.drop σ:=⟨_,rfl⟩
     obtain ⟨V,hV⟩:∃ V,V=Y.take (μ - σ):=⟨_,rfl⟩
     obtain ⟨B,hB⟩:∃ B,B=Y.drop (μ - σ):=⟨_,rfl⟩
     have eX:X=A ++ V0:=by rw [hA,hU,List.take_append_drop]
     have eY:Y=V ++ B:=by rw [hV,hB,List.take_append_drop]
     have lA:A.length=σ:=by rw [hA,List.length_take];omega
     have lU:V0.length=X.length - σ:=by rw [hU,List.length_drop]
     have lV:V.length=μ - σ:=by rw [hV,List.length_take];omega
     have lB:B.length=Y.length - (μ - σ):=by rw [hB,List.length_drop]
     rw [← hA,← hB] at k4
     rw [← hU,← hV] at k5
     have sA:Srt A:=by rw [eX] at sX;exact sX.parts.1
     have sU:Srt V0:=by rw [eX] at sX;exact sX.parts.2.1
     have sV:Srt V:=by rw [eY] at sY;exact sY.parts.1
     have sB:Srt B:=by rw [eY] at sY;exact sY.parts.2.1
     clear hA hU hV hB
     have e7:IntKind.i64.wrap (((a+μ+m:Nat):Int) - ((a+σ:Nat):Int))=((m+(μ - σ):Nat):Int):=by rw [qAT (by omega) (by omega)];omega
     have tail9:∀ (t:Hq) (Z:List Cd),CAt t db (P ++ Z ++ V0 ++ B ++ Q)→Mrg A V Z→KB db s t→qA7 XX (.slc db 0 k none 2) (.int .i64 (b:Int)) cmpv (.int .i64 ((a+μ:Nat):Int)) (.int .i64 ((m+(μ - σ):Nat):Int)) K t:=λt Z h1 mz kp=>by
      have lZ:Z.length=μ:=by rw [mz.len,lA,lV];omega
      have whole:∀ (t:Hq) (W:List Cd),CAt t db (P ++ Z ++ W ++ Q)→Mrg V0 B W→KB db s t→K (.tup []) t:=λt W h2 mw kp2=>by
       refine hK t (Z ++ W) (by simpa [List.append_assoc] using h2) ?_ kp2
       rw [eX,eY]
       exact Mrg.halves (by rw [← eX];exact sX) (by rw [← eY];exact sY) k4 k5 mz mw
      simp only [qA7,qAM,qAA]
      by_cases d1:V0=[]
      ·rw [decide_eq_false (show ¬ ((a+μ:Nat):Int) < ((m+(μ - σ):Nat):Int) by have:=len0 d1;omega)]
       simp only [qAQ,qAp,qAf,qAA]
       refine whole t B ?_ (by rw [d1];exact Mrg.nil_l sB) kp
       rw [d1,List.append_nil] at h1
       exact h1
      have lU0:=List.length_pos_iff.2 d1
      rw [decide_eq_true (show ((a+μ:Nat):Int) < ((m+(μ - σ):Nat):Int) by omega)]
      simp only [qAh]
      by_cases d2:B=[]
      ·rw [decide_eq_false (show ¬ ((m+(μ - σ):Nat):Int) < (b:Int) by have:=len0 d2;omega)]
       simp only [qAp,qAg,qAQ,qAA]
       refine whole t V0 ?_ (by rw [d2];exact Mrg.nil_r sU) kp
       rw [d2,List.append_nil] at h1
       exact h1
      have lB0:=List.length_pos_iff.2 d2
      rw [decide_eq_true (show ((m+(μ - σ):Nat):Int) < (b:Int) by omega)]
      simp only [qAp,qAg,qAh,qAA]
      refine qXa N (P:=P ++ Z) (X:=V0) (Y:=B) (Q:=Q) (by omega) h1 (by simp only [List.length_append];omega) hl (by rw [List.length_append];omega) (by omega) (by omega) d1 d2 sU sB λt2 W h2 mw kp2=>whole t2 W h2 mw (kp.trans kp2)
     have tail7:∀ t:Hq,CAt t db (P ++ A ++ V ++ V0 ++ B ++ Q)→KB db s t→qA8 XX (.slc db 0 k none 2) (.int .i64 (a:Int)) (.int .i64 (b:Int)) cmpv (.int .i64 ((a+μ:Nat):Int)) (.int .i64 ((a+σ:Nat):Int)) (.int .i64 ((m+(μ - σ):Nat):Int)) K t:=λt h1 kp=>by
      simp only [qA8,qAM,qAA]
      by_cases d1:A=[]
      ·rw [decide_eq_false (show ¬ (a:Int) < ((a+σ:Nat):Int) by have:=len0 d1;omega)]
       simp only [qAQ,qAt,qAf,qAA]
       refine tail9 t V ?_ (by rw [d1];exact Mrg.nil_l sV) kp
       rw [d1,List.append_nil] at h1
       exact h1
      have lA0:=List.length_pos_iff.2 d1
      rw [decide_eq_true (show (a:Int) < ((a+σ:Nat):Int) by omega)]
      simp only [qAh]
      by_cases d2:V=[]
      ·rw [decide_eq_false (show ¬ ((a+σ:Nat):Int) < ((a+μ:Nat):Int) by have:=len0 d2;omega)]
       simp only [qAt,qAg,qAQ,qAA]
       refine tail9 t A ?_ (by rw [d2];exact Mrg.nil_r sA) kp
       rw [d2,List.append_nil] at h1
       exact h1
      have lV0:=List.length_pos_iff.2 d2
      rw [decide_eq_true (show ((a+σ:Nat):Int) < ((a+μ:Nat):Int) by omega)]
      simp only [qAt,qAg,qAh,qAA]
      refine qXa N (P:=P) (X:=A) (Y:=V) (Q:=V0 ++ B ++ Q) (by omega) (by simpa [List.append_assoc] using h1) (by simp only [List.length_append];omega) hl ha (by omega) (by omega) d1 d2 sA sV λt2 Z h2 mz kp2=>tail9 t2 Z (by simpa [List.append_assoc] using h2) mz (kp.trans kp2)
     simp only [qAo,e7,qAA]
     have ht2:CAt t db (P ++ A ++ V0 ++ V ++ (B ++ Q)):=by
      rw [eX,eY] at ht
      simpa [List.append_assoc] using ht
     by_cases d1:V0=[]
     ·rw [decide_eq_false (show ¬ ((a+σ:Nat):Int) < (m:Int) by have:=len0 d1;omega)]
      simp only [qAQ,qAr,qAf,qAA]
      refine tail7 t ?_ st.keep
      rw [d1] at ht2 ⊢
      simpa [List.append_assoc] using ht2
     have lU0:=List.length_pos_iff.2 d1
     rw [decide_eq_true (show ((a+σ:Nat):Int) < (m:Int) by omega)]
     simp only [qAh,qAM,qAA]
     by_cases d2:V=[]
     ·rw [decide_eq_false (show ¬ (m:Int) < ((m+(μ - σ):Nat):Int) by have:=len0 d2;omega)]
      simp only [qAr,qAg,qAQ,qAA]
      refine tail7 t ?_ st.keep
      rw [d2] at ht2 ⊢
      simpa [List.append_assoc] using ht2
     have lV0:=List.length_pos_iff.2 d2
     rw [decide_eq_true (show (m:Int) < ((m+(μ - σ):Nat):Int) by omega)]
     simp only [qAr,qAg,qAh,qAA]
     refine qZO (P:=P ++ A) (X:=V0) (Y:=V) (Q:=B ++ Q) ht2 (by simp only [List.length_append];omega) hl (by rw [List.length_append];omega) (by omega) (by omega) d1 d2 λt2 h2 kp2=>tail7 t2 (by simpa [List.append_assoc] using h2) (st.keep.trans kp2)
   refine qAC (λhc=>?_) (λhc=>?_)
   ·have hc:μ < X.length:=by have:=of_decide_eq_true hc;omega
    have e6:IntKind.i64.wrap (((a+μ+m:Nat):Int) - (b:Int))=((a+(μ - Y.length):Nat):Int):=by rw [qAT (by omega) (by omega)];omega
    rw [e6]
    refine main (μ - Y.length) μ ⟨by omega,by rw [if_pos hc];exact Nat.le_refl _,by rw [if_pos hc];exact Nat.le_refl _,λq=>?_,λq=>?_⟩
    ·rw [if_pos hc] at q;omega
    ·rw [if_pos hc] at q;omega
   ·have hc:¬ μ < X.length:=by have:=of_decide_eq_false hc;omega
    have:=main 0 X.length ⟨by omega,by rw [if_neg hc];exact Nat.le_refl _,by rw [if_neg hc];exact Nat.le_refl _,λq=>?_,λq=>?_⟩
    ·rw [Nat.add_zero,← hm] at this
     exact this
    ·rw [if_neg hc] at q;omega
    ·rw [if_neg hc] at q;omega
end Go.AM.SG
namespace Go.AM.SG
open Go Go.AM Go.Proofs
variable {K : AV → Hq → Prop} {s s' s0 : Hq} {db : Nat} {l l' : List Cd}
def SR (l:List Cd) (lo hi bs:Nat):Prop:=∀ i j,lo≤i→i≤j→j < hi→i / bs=j / bs→(cAt l i).1≤(cAt l j).1
theorem cut3 {a b:Nat} (hab:a≤b):l.take a ++ (l.drop a).take (b - a) ++ l.drop b=l:=by
 have h:l.drop b=(l.drop a).drop (b - a):=by rw [List.drop_drop,Nat.add_sub_cancel' hab]
 rw [h,List.append_assoc,List.take_append_drop,List.take_append_drop]
theorem cut4 {a m b:Nat} (h1:a≤m) (h2:m≤b):l.take a ++ (l.drop a).take (m - a) ++ (l.drop m).take (b - m) ++ l.drop b=l:=by
 have h:l.drop b=(l.drop m).drop (b - m):=by rw [List.drop_drop,Nat.add_sub_cancel' h2]
 rw [h,List.append_assoc (l.take a ++ (l.drop a).take (m - a)),List.take_append_drop,cut3 h1]
theorem qPM {a b:Nat} (hab:a≤b) (hb:b≤l.length):((l.drop a).take (b - a)).length=b - a:=by rw [List.length_take,List.length_drop];omega
theorem zACk {a b i:Nat} (hi:i < b - a):cAt ((l.drop a).take (b - a)) i=cAt l (a+i):=by rw [qLj hi,qLW]
theorem qZg {a b bs:Nat} (hab:a≤b) (hb:b≤l.length) (h:∀ i j,a≤i→i≤j→j < b→(cAt l i).1≤(cAt l j).1):Srt ((l.drop a).take (b - a)):=by
 refine List.pairwise_iff_getElem.2 λi j hi hj hij=>?_
 rw [← qEm hi,← qEm hj]
 rw [qPM hab hb] at hi hj
 rw [zACk hi,zACk hj]
 exact h _ _ (by omega) (by omega) (by omega)
structure Seg (l:List Cd) (a b:Nat) (l':List Cd):Prop where
 len:l'.length=l.length
 out:∀ i,i < a∨b≤i→cAt l' i=cAt l i
 srt:∀ i j,a≤i→i≤j→j < b→(cAt l' i).1≤(cAt l' j).1
 stb:Stb l l'
theorem Seg.mk' {P X Z Q:List Cd} (hZ:Srt Z) (hs:Stb X Z) (hl:Z.length=X.length):Seg (P ++ X ++ Q) P.length (P.length+X.length) (P ++ Z ++ Q):=by
 refine ⟨by simp only [List.length_append];omega,λi hi=>?_,λi j h1 h2 h3=>?_,((Stb.refl P).app hs).app (Stb.refl Q)⟩
 ·rw [qDL,qDL,qDL,qDL]
  simp only [List.length_append,hl]
  by_cases c:i < P.length
  ·rw [if_pos (by omega),if_pos c,if_pos (by omega),if_pos c]
  ·rw [if_neg (by omega),if_neg (by omega)]
 ·have e:∀ i,P.length≤i→i < P.length+X.length→cAt (P ++ Z ++ Q) i=cAt Z (i - P.length):=λi h1 h2=>by
   rw [qDL,if_pos (by simp only [List.length_append];omega),qDL,if_neg (by omega)]
  rw [e i h1 (by omega),e j (by omega) h3]
  exact qLZ hZ (by omega) (by omega)
theorem qXb {a b k:Nat} (h:CAt s db l) (hk:k=l.length) (hl:k≤100000) (hab:a≤b) (hb:b≤l.length) (hK:∀ s' l',CAt s' db l'→Seg l a b l'→KB db s s'→K (.tup []) s'):wC Tryz.prog XX 116 [.slc db 0 k none 2,.int .i64 (a:Int),.int .i64 (b:Int),cmpv] K s:=by
 have e:=cut3 (l:=l) hab
 have la:(l.take a).length=a:=by rw [List.length_take];omega
 have lx:=qPM hab hb
 refine qR0 (P:=l.take a) (X:=(l.drop a).take (b - a)) (Q:=l.drop b) (by rw [e];exact h) (by rw [e];exact hk) hl la.symm (by rw [lx];omega) λs' Z h1 srt stb hz kp=>?_
 have sg:=Seg.mk' (P:=l.take a) (Q:=l.drop b) srt stb hz
 rw [e,la,lx,show a+(b - a)=b by omega] at sg
 exact hK s' _ h1 sg kp
theorem qZx {a m b k:Nat} (h:CAt s db l) (hk:k=l.length) (hl:k≤100000) (h1:a < m) (h2:m < b) (hb:b≤l.length) (s1:∀ i j,a≤i→i≤j→j < m→(cAt l i).1≤(cAt l j).1) (s2:∀ i j,m≤i→i≤j→j < b→(cAt l i).1≤(cAt l j).1)
  (hK:∀ s' l',CAt s' db l'→Seg l a b l'→KB db s s'→K (.tup []) s'):wC Tryz.prog XX 117 [.slc db 0 k none 2,.int .i64 (a:Int),.int .i64 (m:Int),.int .i64 (b:Int),cmpv] K s:=by
 have e:=cut4 (l:=l) (show a≤m by omega) (show m≤b by omega)
 have la:(l.take a).length=a:=by rw [List.length_take];omega
 have lx:=qPM (l:=l) (show a≤m by omega) (by omega)
 have ly:=qPM (l:=l) (show m≤b by omega) hb
 refine qXa _ (P:=l.take a) (X:=(l.drop a).take (m - a)) (Y:=(l.drop m).take (b - m)) (Q:=l.drop b) (Nat.le_refl _) (by rw [e];exact h) (by rw [e];exact hk) hl la.symm (by rw [lx];omega) (by rw [ly];omega) (λq=>by rw [q] at lx;simp at lx;omega) (λq=>by rw [q] at ly;simp at ly;omega) (qZg (bs:=1) (by omega) (by omega) s1) (qZg (bs:=1) (by omega) hb s2) λs' Z h3 mg kp=>?_
 have sg:=Seg.mk' (P:=l.take a) (Q:=l.drop b) mg.srt mg.stb (by rw [mg.len,List.length_append])
 rw [← List.append_assoc (l.take a),e,la,List.length_append,lx,ly,show a+(m - a+(b - m))=b by omega] at sg
 exact hK s' _ h3 sg kp
end Go.AM.SG
namespace Go.AM.SG
open Go Go.AM Go.Proofs
variable {K : AV → Hq → Prop} {s s' s0 : Hq} {db : Nat} {l l' : List Cd}
theorem zACU {i c B:Nat} (h1:c * B≤i) (h2:i < c * B+B):i / B=c:=Nat.div_eq_of_lt_le h1 (by rw [Nat.succ_mul];exact h2)
theorem zAF1 {i c B:Nat} (hB:0 < B) (h:i < c * B):i / B < c:=(Nat.div_lt_iff_lt_mul hB).2 h
theorem zAFy {i c B:Nat} (hB:0 < B) (h:c * B≤i):c≤i / B:=(Nat.le_div_iff_mul_le hB).2 h
theorem SR.grow {c B e:Nat} (hB:0 < B) (h:SR l 0 (c * B) B) (sg:Seg l (c * B) e l') (he:e≤c * B+B):SR l' 0 e B:=λi j _ hij hj hq=>by
 by_cases c1:j < c * B
 ·rw [sg.out i (.inl (by omega)),sg.out j (.inl c1)]
  exact h i j (by omega) hij c1 hq
 ·have q1:=zAFy hB (show c * B≤j by omega)
  by_cases c2:i < c * B
  ·have:=zAF1 hB c2
   omega
  ·exact sg.srt i j (by omega) hij hj
theorem Seg.self {a e:Nat} (h:∀ i j,a≤i→i≤j→j < e→(cAt l i).1≤(cAt l j).1):Seg l a e l:=⟨rfl,λ_ _=>rfl,h,.refl l⟩
theorem SR.blk {c B lo hi:Nat} (h:SR l lo hi B):∀ i j,lo≤i→j < hi→c * B≤i→i≤j→j < c * B+B→(cAt l i).1≤(cAt l j).1:=λi j h1 h2 h3 h4 h5=>
 h i j h1 h4 h2 (by rw [zACU h3 (by omega),zACU (by omega) h5])
theorem qZy {k:Nat} (h:CAt s db l) (hk:k=l.length) (hl:k≤1000) (hK:∀ s' l',CAt s' db l'→l'.length=l.length→Srt l'→Stb l l'→KB db s s'→K (.tup []) s'):wC Tryz.prog XX 74 [.slc db 0 k none 2,.int .i64 (k:Int),cmpv] K s:=by
 refine qCf ?_
 refine ⟨λys t m=>∃ (c:Nat) (l1:List Cd),ys=[.int .i64 ((c * 20:Nat):Int),.int .i64 ((c * 20+20:Nat):Int)]∧c * 20≤k∧m=k - c * 20∧CAt t db l1∧l1.length=k∧SR l1 0 (c * 20) 20∧Stb l l1∧KB db s t,⟨_,0,l,rfl,by omega,rfl,h,hk.symm,λi j _ _ hj=>by omega,.refl l,.refl _ s⟩,?_⟩
 rintro f t m ⟨c,l1,hy,hc,rfl,h1,len1,sr,stb,kp⟩
 simp only [List.cons.injEq,and_true] at hy
 rw [hy.1,hy.2]
 simp only [qBj,qCA,qAA]
 refine qAC (λhle=>?_) (λhgt=>?_)
 ·have hle:c * 20+20≤k:=by have:=of_decide_eq_true hle;omega
  refine qXb h1 len1.symm (by omega) (by omega) (by omega) λs2 l2 h2 sg kp2=>?_
  simp only [qAK,qAA]
  rw [qAT (by omega) (by omega)]
  exact ⟨_,by omega,c+1,l2,by rw [show (c+1) * 20=c * 20+20 by omega];rfl,by omega,rfl,h2,by rw [sg.len];exact len1,by rw [show (c+1) * 20=c * 20+20 by omega];exact sr.grow (by omega) sg (by omega),stb.trans sg.stb,kp.trans kp2⟩
 have hgt:k < c * 20+20:=by have:=of_decide_eq_false hgt;omega
 refine qXb h1 len1.symm (by omega) hc (by omega) λs2 l2 h2 sg kp2=>?_
 have sr2:=sr.grow (by omega) sg (by omega)
 have stb2:=stb.trans sg.stb
 have len2:l2.length=k:=by rw [sg.len];exact len1
 have kp3:=kp.trans kp2
 clear sr stb h1 len1 kp kp2 sg hy
 refine ⟨λys t m=>∃ (B:Nat) (l1:List Cd),ys=[.int .i64 (B:Int)]∧1≤B∧B≤2 * k+20∧m=2 * k+20 - B∧CAt t db l1∧l1.length=k∧SR l1 0 k B∧Stb l l1∧KB db s t,⟨_,20,l2,rfl,by omega,by omega,rfl,h2,len2,sr2,stb2,kp3⟩,?_⟩
 clear h2 sr2 stb2 len2 kp3
 rintro f t m ⟨B,l1,hy,hB,hB2,rfl,h1,len1,sr,stb,kp⟩
 simp only [List.cons.injEq,and_true] at hy
 rw [hy]
 simp only [qBi,qAM,qAA]
 refine qAC (λhlt=>?_) (λhge=>?_)
 rotate_left
 ·have hge:k≤B:=by have:=of_decide_eq_false hge;omega
  refine hK t l1 h1 (by omega) (List.pairwise_iff_getElem.2 λi j hi hj hij=>?_) stb kp
  rw [← qEm hi,← qEm hj]
  exact sr i j (by omega) (by omega) (by omega) (by rw [Nat.div_eq_of_lt (by omega),Nat.div_eq_of_lt (by omega)])
 have hlt:B < k:=by have:=of_decide_eq_true hlt;omega
 have e1:IntKind.i64.wrap (2 * (B:Int))=((2 * B:Nat):Int):=by rw [qAT (by omega) (by omega)];omega
 simp only [qHB,e1,qAA]
 refine ⟨λys t m=>∃ (c:Nat) (l2:List Cd),ys=[.int .i64 ((c * (2 * B):Nat):Int),.int .i64 ((c * (2 * B)+2 * B:Nat):Int)]∧c * (2 * B)≤k∧m=k - c * (2 * B)∧CAt t db l2∧l2.length=k∧SR l2 0 (c * (2 * B)) (2 * B)∧SR l2 (c * (2 * B)) k B∧Stb l l2∧KB db s t,⟨_,0,l1,by simp,by omega,rfl,h1,len1,λi j _ _ hj=>by omega,by rw [Nat.zero_mul];exact sr,stb,kp⟩,?_⟩
 clear h1 len1 sr stb kp hy
 rintro f t m ⟨c,l2,hy,hc,rfl,h1,len1,sr,sr',stb,kp⟩
 simp only [List.cons.injEq,and_true] at hy
 rw [hy.1,hy.2]
 have e2:IntKind.i64.wrap (((c * (2 * B):Nat):Int)+(B:Int))=((c * (2 * B)+B:Nat):Int):=by rw [qAT (by omega) (by omega)];omega
 have eb:(2 * c) * B=c * (2 * B):=by rw [Nat.mul_comm 2 c,Nat.mul_assoc]
 have eb1:(2 * c+1) * B=c * (2 * B)+B:=by rw [Nat.succ_mul,eb]
 have first:∀ e,e≤k→e≤c * (2 * B)+B→∀ i j,c * (2 * B)≤i→i≤j→j < e→(cAt l2 i).1≤(cAt l2 j).1:=λe q1 q2 i j p1 p2 p3=>sr'.blk (c:=2 * c) i j p1 (by omega) (by omega) p2 (by omega)
 have second:∀ e,e≤k→e≤c * (2 * B)+2 * B→∀ i j,c * (2 * B)+B≤i→i≤j→j < e→(cAt l2 i).1≤(cAt l2 j).1:=λe q1 q2 i j p1 p2 p3=>sr'.blk (c:=2 * c+1) i j (by omega) (by omega) (by omega) p2 (by omega)
 have nxt:∀ t2 l3,CAt t2 db l3→Seg l2 (c * (2 * B)) k l3→KB db t t2→k < c * (2 * B)+2 * B→qBC XX (.int .i64 (B:Int)) (λys t m=>∃ (B:Nat) (l1:List Cd),ys=[.int .i64 (B:Int)]∧1≤B∧B≤2 * k+20∧m=2 * k+20 - B∧CAt t db l1∧l1.length=k∧SR l1 0 k B∧Stb l l1∧KB db s t) (2 * k+20 - B) K t2:=λt2 l3 q1 q2 q3 q4=>by
  have e3:IntKind.i64.wrap ((B:Int) * 2)=((2 * B:Nat):Int):=by rw [qAT (by omega) (by omega)];omega
  simp only [qBC,qHB,e3,qAA]
  exact ⟨_,by omega,2 * B,l3,rfl,by omega,by omega,rfl,q1,by rw [q2.len];exact len1,sr.grow (by omega) q2 (by omega),stb.trans q2.stb,kp.trans q3⟩
 simp only [qCh,qCA,qAA]
 refine qAC (λhle=>?_) (λhgt=>?_)
 ·have hle:c * (2 * B)+2 * B≤k:=by have:=of_decide_eq_true hle;omega
  simp only [qAK,e2,qAA]
  refine qZx h1 len1.symm (by omega) (by omega) (by omega) (by omega) (first _ (by omega) (by omega)) (second _ hle (by omega)) λs2 l3 h2 sg kp2=>?_
  simp only [qHB,qAK,e1,qAA]
  rw [qAT (by omega) (by omega)]
  have ec:(c+1) * (2 * B)=c * (2 * B)+2 * B:=Nat.succ_mul ..
  exact ⟨_,by omega,c+1,l3,by rw [ec];rfl,by omega,rfl,h2,by rw [sg.len];exact len1,by rw [ec];exact sr.grow (by omega) sg (by omega),λi j p1 p2 p3 p4=>by
   rw [ec] at p1
   rw [sg.out i (.inr p1),sg.out j (.inr (by omega))]
   exact sr' i j (by omega) p2 p3 p4,stb.trans sg.stb,kp.trans kp2⟩
 have hgt:k < c * (2 * B)+2 * B:=by have:=of_decide_eq_false hgt;omega
 simp only [qAK,e2,qAM,qAA]
 refine qAC (λhm=>?_) (λhm=>?_)
 ·have hm:c * (2 * B)+B < k:=by have:=of_decide_eq_true hm;omega
  refine qZx h1 len1.symm (by omega) (by omega) hm (by omega) (first _ (by omega) (by omega)) (second _ (by omega) (by omega)) λs2 l3 h2 sg kp2=>nxt s2 l3 h2 sg kp2 hgt
 ·have hm:k≤c * (2 * B)+B:=by have:=of_decide_eq_false hm;omega
  exact nxt t l2 h1 (Seg.self (first k (Nat.le_refl _) hm)) (.refl _ t) hgt
end Go.AM.SG
namespace Go.AM.SG
def rdG:Option Int→List Cd→List Cd
 | _,[]=>[]
 | o,c :: l=>if o=some c.1 then rdG o l else c :: rdG (some c.1) l
def qUg:Option Int→List Cd→Option Int
 | o,[]=>o
 | _,c :: l=>qUg (some c.1) l
theorem qUP:∀ {m:List Cd} {o:Option Int} {x:Cd},rdG o (m ++ [x])=rdG o m ++ (if qUg o m=some x.1 then [] else [x])
 | [],o,x=>by
   show (if o=some x.1 then rdG o [] else x :: rdG (some x.1) [])=[] ++ (if o=some x.1 then [] else [x])
   by_cases h:o=some x.1
   ·rw [if_pos h,if_pos h];rfl
   ·rw [if_neg h,if_neg h];rfl
 | c :: m,o,x=>by
   have e1:rdG o (c :: m ++ [x])=if o=some c.1 then rdG o (m ++ [x]) else c :: rdG (some c.1) (m ++ [x]):=rfl
   have e2:rdG o (c :: m)=if o=some c.1 then rdG o m else c :: rdG (some c.1) m:=rfl
   have e3:qUg o (c :: m)=qUg (some c.1) m:=rfl
   rw [e1,e2,e3]
   by_cases h:o=some c.1
   ·rw [if_pos h,if_pos h,qUP,h]
   ·rw [if_neg h,if_neg h,qUP,List.cons_append]
theorem qSe:∀ {m:List Cd} {o:Option Int} {x:Cd},qUg o (m ++ [x])=some x.1
 | [],_,_=>rfl
 | c :: m,o,x=>by
   show qUg (some c.1) (m ++ [x])=_
   exact qSe
theorem qWj {l:List Cd} {k:Nat} (h:k < l.length) (h0:0 < k):qUg none (l.take k)=some (cAt l (k - 1)).1:=by
 obtain ⟨j,rfl⟩:∃ j,k=j+1:=⟨k - 1,by omega⟩
 rw [List.take_add_one,List.getElem?_eq_getElem (by omega),Option.toList_some,qSe,Nat.add_sub_cancel,qEm (by omega)]
theorem qQb {l:List Cd} {k:Nat} (h:k < l.length) (h0:0 < k):rdG none (l.take (k+1))=rdG none (l.take k) ++ (if (cAt l (k - 1)).1=(cAt l k).1 then [] else [cAt l k]):=by
 rw [List.take_add_one,List.getElem?_eq_getElem h,Option.toList_some,qUP,qWj h h0,qEm h]
 simp only [Option.some.injEq]
theorem qZ3:∀ {l:List Cd} {o:Option Int},Srt l→(∀ c∈l,∀ k,o=some k→k≤c.1)→Sct (rdG o l)∧(∀ c∈rdG o l,∀ k,o=some k→k < c.1)∧∀ c,c∈rdG o l↔o≠some c.1∧(fk c.1 l).head?=some c
 | [],o,_,_=>by
   refine ⟨List.Pairwise.nil,λc h=>?_,λc=>⟨λh=>?_,λh=>?_⟩⟩
   ·cases h
   ·cases h
   ·cases h.2
 | a :: l,o,h,ho=>by
   obtain ⟨h1,h2⟩:=List.pairwise_cons.1 h
   have e:rdG o (a :: l)=if o=some a.1 then rdG o l else a :: rdG (some a.1) l:=rfl
   rw [e]
   by_cases q:o=some a.1
   ·rw [if_pos q]
    obtain ⟨k1,k2,k3⟩:=qZ3 (o:=o) h2 λc hc k hk=>ho c (List.mem_cons_of_mem _ hc) k hk
    refine ⟨k1,k2,λc=>?_⟩
    rw [k3 c,qTd]
    by_cases r:a.1=c.1
    ·rw [if_pos r]
     exact ⟨λw=>absurd (by rw [q,r]) w.1,λw=>absurd (by rw [q,r]) w.1⟩
    ·rw [if_neg r]
   ·rw [if_neg q]
    obtain ⟨k1,k2,k3⟩:=qZ3 (o:=some a.1) h2 λc hc k hk=>by cases hk;exact h1 c hc
    have lt:∀ k,o=some k→k < a.1:=λk hk=>by
     have:=ho a (by simp) k hk
     have:k≠a.1:=λe=>q (by rw [hk,e])
     omega
    refine ⟨List.pairwise_cons.2 ⟨λc hc=>k2 c hc _ rfl,k1⟩,λc hc k hk=>?_,λc=>?_⟩
    ·rcases List.mem_cons.1 hc with r | r
     ·rw [r];exact lt k hk
     ·have:=k2 c r _ rfl
      have:=lt k hk
      omega
    ·rw [List.mem_cons,k3 c,qTd]
     by_cases r:a.1=c.1
     ·rw [if_pos r]
      constructor
      ·rintro (w | w)
       ·rw [w]
        exact ⟨λz=>q z,rfl⟩
       ·exact absurd (by rw [r]) w.1
      ·rintro ⟨_,w⟩
       exact .inl (Option.some.inj w).symm
     ·rw [if_neg r]
      constructor
      ·rintro (w | w)
       ·exact absurd (by rw [w]) r
       ·refine ⟨λz=>?_,w.2⟩
        have hc:c∈fk c.1 l:=List.mem_of_mem_head? w.2
        have h3:=h1 c (qNS.1 hc).1
        have:=lt _ z
        omega
      ·rintro ⟨_,w⟩
       exact .inr ⟨λz=>r (Option.some.inj z),w⟩
theorem qYk {l:List Cd} (h:Srt l):Fst1 l (rdG none l):=by
 obtain ⟨k1,_,k3⟩:=qZ3 (o:=none) h λ_ _ _ e=>by cases e
 exact ⟨k1,λc=>by rw [k3 c];exact ⟨λh=>h.2,λh=>⟨(λe=>by cases e),h⟩⟩⟩
theorem zAEM {l m:List Cd} (h:Srt m) (s:Stb l m):rdG none m=qOR l:=((qJW l).same (qYk h) s).symm
end Go.AM.SG
namespace Go.AM.SG
open Go Go.AM Go.Proofs
variable {K : AV → Hq → Prop} {s s' s0 : Hq} {db : Nat} {l l' : List Cd} {v : AV}
abbrev CL (s0 s:Hq) (v:AV) (l:List Cd):Prop:=AccR 36 2 s0 s v (l.map cR)
theorem zAFE (hK:K (.tup []) s):wC Tryz.prog XX 74 [.nilslc,.int .i64 0,cmpv] K s:=by
 refine qCf ?_
 refine ⟨λys t m=>ys=[.int .i64 0,.int .i64 20]∧t=s,⟨0,rfl,rfl⟩,?_⟩
 rintro f t m ⟨hy,rfl⟩
 simp only [List.cons.injEq,and_true] at hy
 rw [hy.1,hy.2]
 have c1:decide ((20:Int)≤0)=false:=by decide
 simp only [qBj,qCA,c1,qAQ,qAA]
 refine qB3 ?_
 have e1:IntKind.i64.wrap ((0:Int)+1)=1:=by rw [qAT (by omega) (by omega)];rfl
 simp only [qA0,qAK,e1,qAA]
 refine ⟨λys t2 m=>ys=[.int .i64 1]∧t2=t,⟨0,rfl,rfl⟩,?_⟩
 rintro f t2 m ⟨hy,rfl⟩
 simp only [List.cons.injEq,and_true] at hy
 rw [hy]
 have c2:decide ((1:Int) < 0)=false:=by decide
 simp only [qBG,qAM,c2,qAQ,qAA]
 refine ⟨λys t m=>ys=[.int .i64 20]∧t=t2,⟨0,rfl,rfl⟩,?_⟩
 rintro f t m ⟨hy,rfl⟩
 simp only [List.cons.injEq,and_true] at hy
 rw [hy]
 have c3:decide ((20:Int) < 0)=false:=by decide
 simp only [qBi,qAM,c3,qAQ,qAA]
 exact hK
theorem zABX (h:CL s0 s v l) (hs:Sub s0 s) (hl:l.length≤1000) (hK:∀ s' l',CL s0 s' v l'→Sub s0 s'→l'.length=l.length→Srt l'→Stb l l'→K (.tup []) s'):wC Tryz.prog XX 45 [v,cmpv] K s:=by
 refine qCd ?_
 simp only [qAx,h.sl.len,List.length_map,qAA]
 obtain ⟨hr,q⟩:=h
 rcases q with ⟨rfl,q⟩ | ⟨db,q1,q2,q3⟩
 ·have hl0:l=[]:=List.map_eq_nil_iff.1 q
  subst hl0
  exact zAFE (hK s [] ⟨hr,.inl ⟨rfl,rfl⟩⟩ hs rfl List.Pairwise.nil (.refl []))
 ·rw [List.length_map] at q2
  rw [q2]
  refine qZy (l:=l) q3 rfl hl λs' l' h1 e1 srt stb kp=>hK s' l' ⟨qVx l',.inr ⟨db,q1,by rw [q2,List.length_map,e1],h1⟩⟩ (λi e hi=>kp i e (hs i e hi) λw=>by rw [w,q1] at hi;cases hi) e1 srt stb
abbrev eqv:AV:=.fn (.func 49) [] []
theorem zAGJ {a b:Cd} (hK:∀ s' (r:Bool),Sub s s'→(r=true↔a.1=b.1)→K (.bool r) s'):funK Tryz.prog XX eqv [.agg (cR a),.agg (cR b)] K s:=by
 refine ⟨by kernel_rfl,?_⟩
 show wC Tryz.prog XX 49 [.agg (cR a),.agg (cR b)] K s
 refine qL4 ⟨rfl,qAJ λx s1 hx h1 u1=>⟨rfl,qAJ λy s2 hy h2 u2=>?_⟩⟩
 have sub2:=(u1.sub hx).trans (u2.sub hy)
 have h12:s2 x=some (false,.cells 36 (cR a)):=u2.sub hy _ _ h1
 have h22:s2 y=some (false,.cells 36 (cR b)):=h2
 have ra:(cR a)[0]?=some (.int .u32 a.1):=rfl
 have rb:(cR b)[0]?=some (.int .u32 b.1):=rfl
 simp only [qAG,Nat.zero_add,qAO h12,qAO h22,ra,rb,qAe,qAZ,Bool.false_bne,qAA]
 exact hK s2 _ sub2 ⟨λh=>eq_of_beq h,λh=>by rw [h];exact beq_self_eq_true _⟩
end Go.AM.SG
namespace Go.AM.SG
open Go Go.AM Go.Proofs
variable {K : AV → Hq → Prop} {s s' s0 : Hq} {db : Nat} {l l' : List Cd} {v : AV}
theorem qTh {a b:List Cd}:flC (a ++ b)=flC a ++ flC b:=by simp [flC]
theorem qSv:∀ n:Nat,repl n [AV.int .u32 0,.int .i64 0]=flC (List.replicate n (0,0))
 | 0=>rfl
 | n+1=>by rw [repl,qSv n];rfl
theorem qP3:∀ q:List Cd,qAY (flC q)=true
 | []=>rfl
 | x :: q=>by
   show qAY (.int .u32 x.1 :: .int .i64 x.2 :: flC q)=true
   rw [qIa,qIa,qP3 q];rfl
theorem CAt.first {A B:List Cd} (h:CAt s db (A ++ B)):SlR 2 s (.slc db 0 A.length none 2) (A.map cR):=by
 refine ⟨qVx A,.inr ⟨db,0,none,by rw [List.length_map],(λc h=>by cases h),λ_=>⟨false,36,_,h,?_,?_⟩⟩⟩
 ·rw [qIs,List.length_map,List.length_append];omega
 ·rw [List.drop_zero,List.length_map,qTh,← qIs A,List.take_left]
theorem zABf {A C:List Cd} {R:Hq→Prop} (h:CAt s db (A ++ C)) (hne:C≠[]) (hR:∀ s',CAt s' db (A ++ List.replicate C.length (0,0))→Upto db s s'→R s'):qNH [(.int .u32 0),(.int .i64 0)] 2 (.slc db (A.length * 2) C.length none 2) (λ_ s=>R s) s:=by
 unfold qNH
 refine ⟨rfl,?_⟩
 obtain ⟨m,hm⟩:∃ m,C.length=m+1:=⟨C.length - 1,by have:=List.length_pos_iff.2 hne;omega⟩
 rw [hm] at hR ⊢
 simp only
 rw [qSv]
 have h':s db=some (false,.cells 36 (flC (A ++ C))):=h
 have e2:Nat.ble (A.length * 2+(flC (List.replicate (m+1) (0,0))).length) (flC (A ++ C)).length=true:=by
  rw [qIs,qIs,List.length_replicate,List.length_append,hm,Nat.ble_eq];omega
 have e3:qAq (flC (A ++ C)) (A.length * 2) (flC (List.replicate (m+1) (0,0)))=flC (A ++ List.replicate (m+1) (0,0)):=by
  unfold qAq
  rw [qTh,qTh,← qIs A,List.take_left,List.drop_eq_nil_of_le,List.append_nil]
  rw [List.length_append,qIs,qIs,qIs,List.length_replicate];omega
 have e1:wrN s (.ptr db (A.length * 2)) (flC (List.replicate (m+1) (0,0)))=some (hset s db (false,.cells 36 (flC (A ++ List.replicate (m+1) (0,0))))):=by
  rw [← e3]
  simp only [wrN,h',e2,qP3,Bool.and_self,cond_true]
 exact qAF e1 (hR _ qCe λ_ hi=>qBW hi)
theorem zAAo {q:List Cd} {k:Nat} {x:Cd} (h:k < q.length):(q.set k x).take (k+1)=q.take k ++ [x]:=by
 rw [List.take_add_one,List.getElem?_set_self h,List.take_set_of_le (Nat.le_refl k)]
 rfl
theorem qUV (h:CL s0 s v l) (hs:Sub s0 s) (hl:l.length≤1000) (hK:∀ v' s',SlR 2 s' v' ((rdG none l).map cR)→Sub s0 s'→K v' s'):wC Tryz.prog XX 48 [v,eqv] K s:=by
 refine qCu ?_
 simp only [qA5,h.sl.len,List.length_map,qAM,qAA]
 refine qAC (λhc=>?_) (λhc=>?_)
 ·have hc:l.length < 2:=by have:=of_decide_eq_true hc;omega
  have e:rdG none l=l:=by
   match l,hc with
   | [],_=>rfl
   | [a],_=>rfl
  exact hK v s (by rw [e];exact h.sl) hs
 have hc:2≤l.length:=by have:=of_decide_eq_false hc;omega
 obtain ⟨db,q1,q2,q3⟩:∃ db,s0 db=none∧v=.slc db 0 l.length none 2∧CAt s db l:=by
  rcases h.2 with ⟨_,q⟩ | ⟨db,q1,q2,q3⟩
  ·have:l=[]:=List.map_eq_nil_iff.1 q
   rw [this] at hc;simp at hc
  ·rw [List.length_map] at q2
   exact ⟨db,q1,q2,q3⟩
 subst q2
 clear h
 have keepS:∀ {t:Hq},KB db s t→Sub s0 t:=fun {t} kp i e hi=>kp i e (hs i e hi) λw=>by rw [w,q1] at hi;cases hi
 refine ⟨λys t m=>∃ k:Nat,ys=[.int .i64 (k:Int)]∧1≤k∧k≤l.length∧m=l.length - k∧Sub s t∧rdG none (l.take k)=l.take k,⟨_,1,rfl,by omega,by omega,rfl,.refl s,?_⟩,?_⟩
 ·match l,hc with
  | a :: r,_=>rfl
 rintro f t m ⟨k0,hy,hk1,hk2,rfl,st,hpre⟩
 simp only [List.cons.injEq,and_true] at hy
 rw [hy]
 have ht:=q3.sub st
 have lenv:qAS (.slc db 0 l.length none 2)=some l.length:=rfl
 simp only [qBV,lenv,qAM,qAA]
 refine qAC (λhlt=>?_) (λhge=>?_)
 rotate_left
 ·have hge:k0=l.length:=by have:=of_decide_eq_false hge;omega
  rw [hge,List.take_length] at hpre
  exact hK _ t (by rw [hpre];exact ht.sl) (keepS st.keep)
 have hlt:k0 < l.length:=by have:=of_decide_eq_true hlt;omega
 have w1:IntKind.i64.wrap ((k0:Int) - 1)=((k0 - 1:Nat):Int):=by rw [qAT (by omega) (by omega)];omega
 simp only [c_ad hlt,ht.row hlt,qAo,w1,c_ad (show k0 - 1 < l.length by omega),ht.row (show k0 - 1 < l.length by omega),qAA]
 refine zAGJ λs3 r sub3 hr=>?_
 have st3:=st.trans sub3
 have step:=qQb hlt (by omega)
 have h3:=q3.sub st3
 cases r with
 | false=>
   have hne:¬ (cAt l (k0 - 1)).1=(cAt l k0).1:=λe=>by have:=hr.2 e.symm;cases this
   simp only [qAQ,qAK,qAA]
   rw [qAT (by omega) (by omega)]
   refine ⟨_,by omega,k0+1,rfl,by omega,by omega,rfl,st3,?_⟩
   rw [step,if_neg hne,hpre,List.take_add_one,List.getElem?_eq_getElem hlt,qEm hlt];rfl
 | true=>
 have heq:(cAt l (k0 - 1)).1=(cAt l k0).1:=(hr.1 rfl).symm
 rw [if_pos heq,List.append_nil,hpre] at step
 have sl:∀ {k:Nat},k≤l.length→qCT 2 (.slc db 0 l.length none 2) (some (.int .i64 (k:Int))) none none=some (.slc db (k * 2) (l.length - k) none 2):=fun {k} hk=>by
  simp [qCT,bound,Nat.ble_eq_true_of_le hk]
 have sh:∀ {k:Nat},k≤l.length→qCT 2 (.slc db 0 l.length none 2) none (some (.int .i64 (k:Int))) none=some (.slc db 0 k none 2):=fun {k} hk=>by
  simp [qCT,bound,Nat.ble_eq_true_of_le hk]
 simp only [qAh,sl hk2,qAA]
 refine ⟨λys t m=>∃ (k k2:Nat) (cur:List Cd),ys=[.int .i64 (k:Int),.int .i64 (k2:Int)]∧CAt t db cur∧KB db s t∧cur.length=l.length∧1≤k2∧k0+k2≤l.length∧m=l.length - k0 - k2∧k < k0+k2∧(∀ j,k0+k2 - 1≤j→cAt cur j=cAt l j)∧rdG none (l.take (k0+k2))=cur.take k,⟨_,k0,1,l,rfl,h3,st3.keep,rfl,by omega,by omega,rfl,by omega,λ_ _=>rfl,step⟩,?_⟩
 rintro f t2 m ⟨k,k2,cur,hy,hcur,kp,hlen,c1,c2,rfl,c3,c4,c5⟩
 simp only [List.cons.injEq,and_true] at hy
 rw [hy.1,hy.2]
 have lenw:qAS (.slc db (k0 * 2) (l.length - k0) none 2)=some (l.length - k0):=rfl
 simp only [qBS,lenw,qAM,qAA]
 refine qAC (λhlt2=>?_) (λhge2=>?_)
 ·have hlt2:k0+k2 < l.length:=by have:=of_decide_eq_true hlt2;omega
  have ad2:∀ {i:Nat},k0+i < l.length→qAH 2 (.slc db (k0 * 2) (l.length - k0) none 2) (.int .i64 (i:Int))=some (.ptr db ((k0+i) * 2)):=fun {i} hi=>by
   have:Nat.blt i (l.length - k0)=true:=by rw [Nat.blt_eq];omega
   rw [Nat.add_mul]
   simp [qAH,this]
  have w2:IntKind.i64.wrap ((k2:Int) - 1)=((k2 - 1:Nat):Int):=by rw [qAT (by omega) (by omega)];omega
  have r1:=hcur.row (i:=k0+k2) (by omega)
  have r2:=hcur.row (i:=k0+(k2 - 1)) (by omega)
  rw [c4 _ (by omega)] at r1
  rw [c4 _ (by omega),show k0+(k2 - 1)=k0+k2 - 1 by omega] at r2
  have ad3:qAH 2 (.slc db (k0 * 2) (l.length - k0) none 2) (.int .i64 ((k2 - 1:Nat):Int))=some (.ptr db ((k0+k2 - 1) * 2)):=by
   rw [ad2 (by omega),show k0+(k2 - 1)=k0+k2 - 1 by omega]
  have stp:=qQb hlt2 (by omega)
  simp only [ad2 hlt2,r1,qAo,w2,ad3,r2,qAA]
  refine zAGJ λs4 r sub4 hr=>?_
  have kp4:KB db s s4:=kp.trans sub4.keep
  have hcur4:=hcur.sub sub4
  have r1':=hcur4.row (i:=k0+k2) (by omega)
  rw [c4 _ (by omega)] at r1'
  simp only [qAs,qAA]
  cases r with
  | true=>
    have he:(cAt l (k0+k2 - 1)).1=(cAt l (k0+k2)).1:=(hr.1 rfl).symm
    rw [if_pos he,List.append_nil] at stp
    simp only [Bool.not_true,qAQ,qAj,qAK,qAA]
    rw [qAT (by omega) (by omega)]
    exact ⟨_,by omega,k,k2+1,cur,rfl,hcur4,kp4,hlen,by omega,by omega,rfl,by omega,λj hj=>c4 j (by omega),by rw [show k0+(k2+1)=k0+k2+1 by omega,stp,c5]⟩
  | false=>
    have he:¬ (cAt l (k0+k2 - 1)).1=(cAt l (k0+k2)).1:=λe=>by have:=hr.2 e.symm;cases this
    rw [if_neg he] at stp
    simp only [Bool.not_false,qAh,ad2 hlt2,r1',c_ad (show k < l.length by omega),qAA]
    refine hcur4.put (by omega) λs5 h5 u5=>?_
    simp only [qAj,qAK,qAA]
    rw [qAT (by omega) (by omega),qAT (by omega) (by omega)]
    refine ⟨_,by omega,k+1,k2+1,cur.set k (cAt l (k0+k2)),rfl,h5,kp4.trans (u5.keep rfl),by rw [List.length_set];exact hlen,by omega,by omega,rfl,by omega,λj hj=>?_,?_⟩
    ·rw [qUL (by omega),if_neg (by omega)]
     exact c4 j (by omega)
    ·rw [show k0+(k2+1)=k0+k2+1 by omega,stp,c5,zAAo (by omega)]
 ·have hge2:k0+k2=l.length:=by have:=of_decide_eq_false hge2;omega
  rw [hge2,List.take_length] at c5
  have lt:(cur.take k).length=k:=by rw [List.length_take];omega
  have ld:(cur.drop k).length=l.length - k:=by rw [List.length_drop,hlen]
  simp only [sl (show k≤l.length by omega),qAA]
  have:=zABf (A:=cur.take k) (C:=cur.drop k) (s:=t2) (db:=db) (R:=λs_33=>oK (qCT 2 (.slc db 0 l.length none 2) none (some (.int .i64 (k:Int))) none) λv_34=>K v_34 s_33) (by rw [List.take_append_drop];exact hcur) (λe=>by rw [e] at ld;simp at ld;omega) λs5 h5 u5=>by
   simp only [sh (show k≤l.length by omega),qAA]
   refine hK _ s5 ?_ (keepS (kp.trans (u5.keep rfl)))
   rw [c5]
   have:=h5.first
   rw [lt] at this
   exact this
  rw [lt,ld] at this
  exact this
end Go.AM.SG
namespace Go.AM.SG
open Go Go.AM Go.Proofs
variable {K : AV → Hq → Prop} {s s' s0 : Hq} {db : Nat} {o : List Cd} {v : AV} {c : Cd}
theorem qCF (k:Sub s s') {b:Nat} (h:s' b=none):s b=none:=by
 cases q:s b with
 | none=>rfl
 | some y=>rw [k _ _ q] at h;cases h
end Go.AM.SG
namespace Go.AM.SG
open Go Go.AM
abbrev nAt (l:List Int) (i:Nat):Int:=l.getD i 0
theorem qMY {l:List Int} {i:Nat} (h:i < l.length):nAt l i=l[i]:=by simp [nAt,h]
theorem nAt_get? {l:List Int} {i:Nat} (h:i < l.length):l[i]?=some (nAt l i):=by simp [nAt,h]
theorem qUv {l:List Int} {i j:Nat} {x:Int} (h:i < l.length):nAt (l.set i x) j=if j=i then x else nAt l j:=by
 unfold nAt
 rw [List.getD_eq_getElem?_getD,List.getD_eq_getElem?_getD,List.getElem?_set]
 by_cases e:j=i
 ·subst e;simp [h]
 ·rw [if_neg (λq=>e q.symm),if_neg e]
def swN (l:List Int) (i j:Nat):List Int:=(l.set i (nAt l j)).set j (nAt l i)
theorem zAEc {l:List Int} {i j:Nat}:(swN l i j).length=l.length:=by simp [swN]
theorem qIB {l:List Int} {i j k:Nat} (hi:i < l.length) (hj:j < l.length):nAt (swN l i j) k=if k=j then nAt l i else if k=i then nAt l j else nAt l k:=by
 unfold swN
 rw [qUv (by simpa using hj),qUv hi]
theorem zABA {l:List Int} {i j:Nat} (hi:i < l.length) (hj:j < l.length):(swN l i j).Perm l:=by
 unfold swN
 rw [qMY hi,qMY hj]
 exact List.set_set_perm hi hj
structure PI (a b:Nat) (l l':List Int):Prop where
 perm:l'.Perm l
 out:∀ i,¬(a≤i∧i < b)→nAt l' i=nAt l i
 inn:∀ i,a≤i→i < b→∃ k,a≤k∧k < b∧nAt l' i=nAt l k
variable {a b c d a0 b0 m p : Nat} {l l' l'' : List Int}
theorem PI.refl (a b:Nat) (l:List Int):PI a b l l:=⟨.refl _,λ_ _=>rfl,λi h1 h2=>⟨i,h1,h2,rfl⟩⟩
theorem PI.len (h:PI a b l l'):l'.length=l.length:=h.perm.length_eq
theorem PI.trans (h:PI a b l l') (k:PI a b l' l''):PI a b l l'':=by
 refine ⟨k.perm.trans h.perm,λi hi=>(k.out i hi).trans (h.out i hi),λi h1 h2=>?_⟩
 obtain ⟨j,q1,q2,q3⟩:=k.inn i h1 h2
 obtain ⟨j',r1,r2,r3⟩:=h.inn j q1 q2
 exact ⟨j',r1,r2,q3.trans r3⟩
theorem PI.wide (h:PI a b l l') (h1:c≤a) (h2:b≤d):PI c d l l':=by
 refine ⟨h.perm,λi hi=>h.out i (by omega),λi q1 q2=>?_⟩
 by_cases q:a≤i∧i < b
 ·obtain ⟨k,r1,r2,r3⟩:=h.inn i q.1 q.2
  exact ⟨k,by omega,by omega,r3⟩
 ·exact ⟨i,q1,q2,h.out i q⟩
theorem PI.sw {i j:Nat} (hi:a≤i) (hi2:i < b) (hj:a≤j) (hj2:j < b) (hb:b≤l.length):PI a b l (swN l i j):=by
 refine ⟨zABA (by omega) (by omega),λk hk=>?_,λk h1 h2=>?_⟩
 ·rw [qIB (by omega) (by omega),if_neg (by omega),if_neg (by omega)]
 ·rw [qIB (by omega) (by omega)]
  by_cases e1:k=j
  ·exact ⟨i,hi,hi2,by rw [if_pos e1]⟩
  ·by_cases e2:k=i
   ·exact ⟨j,hj,hj2,by rw [if_neg e1,if_pos e2]⟩
   ·exact ⟨k,h1,h2,by rw [if_neg e1,if_neg e2]⟩
theorem PI.ge {x:Int} (h:PI a b l l') (k:∀ i,a≤i→i < b→x≤nAt l i):∀ i,a≤i→i < b→x≤nAt l' i:=λi h1 h2=>by
 obtain ⟨j,q1,q2,q3⟩:=h.inn i h1 h2
 rw [q3];exact k j q1 q2
theorem PI.le {x:Int} (h:PI a b l l') (k:∀ i,a≤i→i < b→nAt l i≤x):∀ i,a≤i→i < b→nAt l' i≤x:=λi h1 h2=>by
 obtain ⟨j,q1,q2,q3⟩:=h.inn i h1 h2
 rw [q3];exact k j q1 q2
def Asc (a b:Nat) (l:List Int):Prop:=∀ i j,a≤i→i < j→j < b→nAt l i≤nAt l j
def Low (a b:Nat) (l:List Int):Prop:=0 < a→∀ i,a≤i→i < b→nAt l (a - 1)≤nAt l i
theorem PI.low (h:PI a b l l') (k:Low a b l):Low a b l':=λh0=>by
 rw [h.out (a - 1) (by omega)]
 exact h.ge (k h0)
def But (a0 b0 a b:Nat) (l:List Int):Prop:=∀ i j,a0≤i→i < j→j < b0→¬(a≤i∧j < b)→nAt l i≤nAt l j
theorem But.start:But a0 b0 a0 b0 l:=λi j h1 _ h3 h4=>absurd ⟨h1,h3⟩ h4
theorem But.asc (h:But a0 b0 a b l) (k:Asc a b l):Asc a0 b0 l:=λi j h1 h2 h3=>by
 by_cases q:a≤i∧j < b
 ·exact k i j q.1 h2 q.2
 ·exact h i j h1 h2 h3 q
theorem But.pi (h:But a0 b0 a b l) (ha:a0≤a) (hb:b≤b0) (k:PI a b l l'):But a0 b0 a b l':=λi j h1 h2 h3 h4=>by
 by_cases q1:a≤i∧i < b
 ·obtain ⟨r,r1,r2,r3⟩:=k.inn i q1.1 q1.2
  rw [r3,k.out j (by omega)]
  exact h r j (by omega) (by omega) h3 (by omega)
 ·rw [k.out i q1]
  by_cases q2:a≤j∧j < b
  ·obtain ⟨r,r1,r2,r3⟩:=k.inn j q2.1 q2.2
   rw [r3]
   exact h i r h1 (by omega) (by omega) (by omega)
  ·rw [k.out j q2];exact h i j h1 h2 h3 h4
theorem But.low (h:But a0 b0 a b l) (h0:Low a0 b0 l) (ha:a0≤a) (hb:b≤b0):Low a b l:=λhp i h1 h2=>by
 by_cases q:a=a0
 ·subst q;exact h0 hp i h1 (by omega)
 ·exact h (a - 1) i (by omega) (by omega) (by omega) (by omega)
def Parted (a b m:Nat) (l:List Int):Prop:=(∀ i,a≤i→i < m→nAt l i≤nAt l m)∧∀ i,m < i→i < b→nAt l m≤nAt l i
theorem But.left (h:But a0 b0 a b l) (ha:a0≤a) (hb:b≤b0) (hm:a≤m) (hm2:m < b) (hp:Parted a b m l) (k:PI a m l l') (ks:Asc a m l'):But a0 b0 (m+1) b l':=by
 have hw:=h.pi ha hb (k.wide (Nat.le_refl a) (by omega:m≤b))
 have e:∀ i,m≤i→nAt l' i=nAt l i:=λi hi=>k.out i (by omega)
 have low:=k.le hp.1
 intro i j h1 h2 h3 h4
 by_cases q:a≤i∧j < b
 ·by_cases q1:i < m
  ·by_cases q2:j < m
   ·exact ks i j q.1 h2 q2
   ·have:=low i q.1 q1
    rw [e j (by omega)]
    by_cases q3:j=m
    ·rw [q3];exact this
    ·exact Int.le_trans this (hp.2 j (by omega) q.2)
  ·have:i=m:=by omega
   rw [this,e m (Nat.le_refl m),e j (by omega)]
   exact hp.2 j (by omega) q.2
 ·exact hw i j h1 h2 h3 q
theorem But.right (h:But a0 b0 a b l) (ha:a0≤a) (hb:b≤b0) (hm:a≤m) (hm2:m < b) (hp:Parted a b m l) (k:PI (m+1) b l l') (ks:Asc (m+1) b l'):But a0 b0 a m l':=by
 have hw:=h.pi ha hb (k.wide (by omega:a≤m+1) (Nat.le_refl b))
 have e:∀ i,i≤m→nAt l' i=nAt l i:=λi hi=>k.out i (by omega)
 have up:=k.ge (λi h1 h2=>hp.2 i (by omega) h2)
 intro i j h1 h2 h3 h4
 by_cases q:a≤i∧j < b
 ·by_cases q1:m < j
  ·by_cases q2:m < i
   ·exact ks i j (by omega) h2 q.2
   ·have:=up j (by omega) q.2
    rw [e i (by omega)]
    by_cases q3:i=m
    ·rw [q3];exact this
    ·exact Int.le_trans (hp.1 i q.1 (by omega)) this
  ·have:j=m:=by omega
   rw [this,e m (Nat.le_refl m),e i (by omega)]
   exact hp.1 i q.1 (by omega)
 ·exact hw i j h1 h2 h3 q
theorem But.equal {x:Int} (h:But a0 b0 a b l) (hm:a≤m) (hm2:m≤b) (h1:∀ i,a≤i→i < m→nAt l i=x) (h2:∀ i,m≤i→i < b→x≤nAt l i):But a0 b0 m b l:=by
 intro i j k1 k2 k3 k4
 by_cases q:a≤i∧j < b
 ·have:=h1 i q.1 (by omega)
  rw [this]
  by_cases q1:j < m
  ·rw [h1 j (by omega) q1];omega
  ·exact h2 j (by omega) q.2
 ·exact h i j k1 k2 k3 q
end Go.AM.SG
namespace Go.AM.SG
open Go Go.AM
variable {f lo hi r ch i n : Nat} {l l' : List Int}
def Chd (k c:Nat):Prop:=c=2 * k+1∨c=2 * k+2
def Hp (f lo hi:Nat) (l:List Int):Prop:=∀ k c,lo≤k→Chd k c→c < hi→nAt l (f+c)≤nAt l (f+k)
structure HpX (f lo hi r:Nat) (l:List Int):Prop where
 oth:∀ k c,lo≤k→k≠r→Chd k c→c < hi→nAt l (f+c)≤nAt l (f+k)
 gra:∀ p c,lo≤p→Chd p r→Chd r c→c < hi→nAt l (f+c)≤nAt l (f+p)
theorem HpX.start (h:Hp f (lo+1) hi l):HpX f lo hi lo l:=
 ⟨λk c h1 h2 h3 h4=>h k c (by omega) h3 h4,λp c h1 h2 _ _=>by unfold Chd at h2;omega⟩
theorem HpX.leaf (h:HpX f lo hi r l) (hr:hi≤2 * r+1):Hp f lo hi l:=λk c h1 h2 h3=>by
 by_cases e:k=r
 ·subst e;unfold Chd at h2;omega
 ·exact h.oth k c h1 e h2 h3
theorem HpX.done (h:HpX f lo hi r l) (hb:∀ c,Chd r c→c < hi→nAt l (f+c)≤nAt l (f+ch)) (hc:nAt l (f+ch)≤nAt l (f+r)):Hp f lo hi l:=λk c h1 h2 h3=>by
 by_cases e:k=r
 ·subst e;exact Int.le_trans (hb c h2 h3) hc
 ·exact h.oth k c h1 e h2 h3
theorem HpX.down (h:HpX f lo hi r l) (hl:f+hi≤l.length) (hr:lo≤r) (hch:Chd r ch) (hlt:ch < hi) (hb:∀ c,Chd r c→c < hi→nAt l (f+c)≤nAt l (f+ch)) (hc:nAt l (f+r)≤nAt l (f+ch)):HpX f lo hi ch (swN l (f+r) (f+ch)):=by
 have hne:r < ch:=by unfold Chd at hch;omega
 have at_:∀ k,nAt (swN l (f+r) (f+ch)) (f+k)=if k=ch then nAt l (f+r) else if k=r then nAt l (f+ch) else nAt l (f+k):=λk=>by
  rw [qIB (by omega) (by omega)]
  by_cases e1:k=ch
  ·rw [if_pos e1,if_pos (by omega)]
  ·rw [if_neg e1,if_neg (by omega)]
   by_cases e2:k=r
   ·rw [if_pos e2,if_pos (by omega)]
   ·rw [if_neg e2,if_neg (by omega)]
 refine ⟨λk c h1 h2 h3 h4=>?_,λp c h1 h2 h3 h4=>?_⟩
 ·rw [at_ c,at_ k,if_neg h2]
  by_cases e1:k=r
  ·subst e1
   rw [if_pos rfl]
   by_cases e2:c=ch
   ·rw [if_pos e2];exact hc
   ·rw [if_neg e2,if_neg (by unfold Chd at h3;omega)]
    exact hb c h3 h4
  ·rw [if_neg e1]
   by_cases e2:c=ch
   ·exfalso;unfold Chd at h3 hch;omega
   ·rw [if_neg e2]
    by_cases e3:c=r
    ·rw [if_pos e3]
     subst e3
     exact h.gra k ch h1 h3 hch hlt
    ·rw [if_neg e3]
     exact h.oth k c h1 e1 h3 h4
 ·have e:p=r:=by unfold Chd at h2 hch;omega
  subst e
  rw [at_ c,at_ p,if_neg (by unfold Chd at h3;omega),if_neg (by unfold Chd at h3;omega),if_neg (by omega),if_pos rfl]
  exact h.oth ch c (by omega) (by omega) h3 h4
theorem Hp.top (h:Hp f 0 n l):∀ k,k < n→nAt l (f+k)≤nAt l f:=by
 intro k
 induction k using Nat.strongRecOn with
 | _ k ih=>
   intro hk
   by_cases e:k=0
   ·subst e;exact Int.le_refl _
   ·have:=h ((k - 1) / 2) k (Nat.zero_le _) (by unfold Chd;omega) hk
    exact Int.le_trans this (ih _ (by omega) (by omega))
theorem Hp.vac:Hp f ((hi - 1) / 2+1) hi l:=λk c h1 h2 h3=>by unfold Chd at h2;omega
theorem But.pop {a b:Nat} (h:But a b a (a+n+1) l) (hh:Hp a 0 (n+1) l) (hb:a+n+1≤b) (hl:b≤l.length):But a b a (a+n) (swN l a (a+n)):=by
 have hw:=h.pi (Nat.le_refl a) hb (PI.sw (i:=a) (j:=a+n) (Nat.le_refl a) (by omega) (by omega) (by omega) (by omega))
 intro i j h1 h2 h3 h4
 by_cases q:j < a+n+1
 ·have e:j=a+n:=by omega
  subst e
  rw [qIB (by omega) (by omega),qIB (by omega) (by omega),if_pos rfl,if_neg (by omega)]
  have top:=hh.top
  by_cases e2:i=a
  ·rw [if_pos e2];exact top n (by omega)
  ·rw [if_neg e2]
   have:=top (i - a) (by omega)
   rw [show a+(i - a)=i by omega] at this
   exact this
 ·exact hw i j h1 h2 h3 (by omega)
theorem Hp.swap {a:Nat} (h:Hp a 0 (n+1) l) (hb:a+n+1≤l.length):Hp a 1 n (swN l a (a+n)):=λk c h1 h2 h3=>by
 rw [qIB (by omega) (by omega),qIB (by omega) (by omega),if_neg (by omega),if_neg (by unfold Chd at h2;omega),if_neg (by unfold Chd at h2;omega),if_neg (by omega)]
 exact h k c (by omega) h2 (by omega)
end Go.AM.SG
namespace Go.AM.SG
open Go Go.AM
theorem zAG1 (n:Int):qAw .u64 n=n % 18446744073709551616:=by
 simp only [qAw];rw [qDi _ _ _ (by omega) (by omega)];split <;> omega
theorem qNC {n:Nat} (h:n < 18446744073709551616):qAw .u64 (n:Int)=n:=by rw [zAG1,Int.emod_eq_of_lt (by omega) (by omega)]
theorem wu8_ (n:Int):qAw .u8 n=n % 256:=by
 simp only [qAw];rw [qDi _ _ _ (by omega) (by omega)];split <;> omega
theorem zAE1 {n:Nat} (h:n < 9223372036854775808):qAw .i64 (n:Int)=n:=by
 simp only [qAw];rw [qDi _ _ _ (by omega) (by omega)];split <;> omega
theorem zAFB {k w m:Nat} (hw:w < 256) (hm:m=2 ^ k - 1) (h2:m < 256):qAB .and (.int .u8 (w:Int)) (.int .u8 (m:Int))=some (.int .u8 ((w % 2 ^ k:Nat):Int)):=by
 have e:(BitVec.ofInt (IntKind.bits .u8) (w:Int) &&& BitVec.ofInt (IntKind.bits .u8) (m:Int)).toNat=w % 2 ^ k:=by
  show (BitVec.ofInt 8 (w:Int) &&& BitVec.ofInt 8 (m:Int)).toNat=w % 2 ^ k
  rw [BitVec.ofInt_natCast,BitVec.ofInt_natCast,BitVec.toNat_and,BitVec.toNat_ofNat,BitVec.toNat_ofNat,Nat.mod_eq_of_lt hw,Nat.mod_eq_of_lt h2,hm,Nat.and_two_pow_sub_one_eq_mod]
 have h3:w % 2 ^ k≤w:=Nat.mod_le _ _
 have e2:qAw .u8 ((w % 2 ^ k:Nat):Int)=((w % 2 ^ k:Nat):Int):=by rw [wu8_,Int.emod_eq_of_lt (by omega) (by omega)]
 simp only [qAB,arith,qBc,e,e2]
 rfl
theorem zAEh {w:Nat} (hw:w * 256 < 18446744073709551616):qBk .shl (.int .u64 (w:Int)) (.int .u64 8)=some (.int .u64 ((w * 256:Nat):Int)):=by
 show frc (qAw .u64 ((w:Int) * ((2 ^ (min 8 (IntKind.bits .u64)):Nat):Int))) (λn=>some (AV.int .u64 n))=_
 rw [qBc,show min 8 (IntKind.bits .u64)=8 from rfl,show (2 ^ 8:Nat)=256 from rfl,← Int.natCast_mul,qNC hw]
theorem zAGH {a b:Nat} (hb:b < 256):a * 256 ||| b=a * 256+b:=by
 have:=Nat.shiftLeft_add_eq_or_of_lt (a:=a) (b:=b) (i:=8) hb
 rw [Nat.shiftLeft_eq] at this
 exact this.symm
theorem zAFj {a b:Nat} (hb:b < 256) (ha:a * 256+b < 18446744073709551616):qAB .or (.int .u64 ((a * 256:Nat):Int)) (.int .u64 (b:Int))=some (.int .u64 ((a * 256+b:Nat):Int)):=by
 have ha':a * 256 < 18446744073709551616:=Nat.lt_of_le_of_lt (Nat.le_add_right _ _) ha
 have hb':b < 18446744073709551616:=Nat.lt_of_le_of_lt (Nat.le_add_left _ _) ha
 generalize hc:a * 256=c at *
 have e:(BitVec.ofInt (IntKind.bits .u64) (c:Int) ||| BitVec.ofInt (IntKind.bits .u64) (b:Int)).toNat=c+b:=by
  show (BitVec.ofInt 64 (c:Int) ||| BitVec.ofInt 64 (b:Int)).toNat=c+b
  rw [BitVec.ofInt_natCast,BitVec.ofInt_natCast,BitVec.toNat_or,BitVec.toNat_ofNat,BitVec.toNat_ofNat,Nat.mod_eq_of_lt ha',Nat.mod_eq_of_lt hb',← hc]
  exact zAGH hb
 simp only [qAB,arith,qBc,e,qNC ha]
 rfl
theorem zADE {a b:Nat} (h:a+b < 18446744073709551616):qAB .add (.int .u64 (a:Int)) (.int .u64 (b:Int))=some (.int .u64 ((a+b:Nat):Int)):=by
 simp only [qAB,arith,qBc,← Int.natCast_add,qNC h]
 rfl
theorem qZQ {a:Nat} (h:a < 256):qBf .u64 (.int .u8 (a:Int))=some (.int .u64 (a:Int)):=by
 show some (AV.int .u64 (qAw .u64 (a:Int)))=_
 rw [qNC (by omega)]
theorem qVO {k:IntKind} {a:Nat} (h:a < 9223372036854775808):qBf .i64 (.int k (a:Int))=some (.int .i64 (a:Int)):=by
 show some (AV.int .i64 (qAw .i64 (a:Int)))=_
 rw [zAE1 h]
theorem zAF5 {x:Int} {m:Nat} (h2:m < 18446744073709551616):∃ v:Nat,v≤m∧qAB .and (.int .u64 x) (.int .u64 (m:Int))=some (.int .u64 (v:Int)):=by
 refine ⟨(BitVec.ofInt 64 x &&& BitVec.ofInt 64 (m:Int)).toNat,?_,?_⟩
 ·rw [BitVec.ofInt_natCast,BitVec.toNat_and,BitVec.toNat_ofNat]
  exact Nat.le_trans Nat.and_le_right (Nat.mod_le _ _)
 ·have:=(BitVec.ofInt 64 x &&& BitVec.ofInt 64 (m:Int)).isLt
  have e:=qNC this
  simp only [qAB,arith,qBc]
  rw [show IntKind.bits .u64=64 from rfl,e]
  rfl
theorem qU3 {x y:Int}:∃ z:Int,qAB .xor (.int .u64 x) (.int .u64 y)=some (.int .u64 z):=⟨_,by simp only [qAB,arith,qBc];rfl⟩
theorem qYX {x:Int} {m:Nat} {k:IntKind}:∃ z:Int,qBk .shl (.int .u64 x) (.int k (m:Int))=some (.int .u64 z):=⟨_,by
 show frc (qAw .u64 (x * ((2 ^ (min m (IntKind.bits .u64)):Nat):Int))) (λn=>some (AV.int .u64 n))=_
 rw [qBc]⟩
theorem zAD4 {x:Int} {m:Nat} {k:IntKind}:∃ z:Int,qBk .shr (.int .u64 x) (.int k (m:Int))=some (.int .u64 z):=⟨_,by
 show frc (x.fdiv ((2 ^ (min m (IntKind.bits .u64)):Nat):Int)) (λn=>some (AV.int .u64 n))=_
 rw [qBc]⟩
end Go.AM.SG
namespace Go.AM.SG
open Go Go.AM Go.Proofs
variable {K : AV → Hq → Prop} {s s' s0 : Hq} {db : Nat} {l l' l1 l2 : List Int} {a b i j k : Nat}
abbrev us (l:List Int):List AV:=l.map (AV.int .u32)
def UAt (s:Hq) (db:Nat) (l:List Int):Prop:=s db=some (false,.cells 33 (us l))
abbrev uV (db n:Nat):AV:=.slc db 0 n none 1
theorem u_ad (hi:i < k):qAH 1 (uV db k) (.int .i64 (i:Int))=some (.ptr db i):=by
 have:Nat.blt i k=true:=by rw [Nat.blt_eq];exact hi
 simp [qAH,this]
theorem UAt.rd (h:UAt s db l) (hi:i < l.length):rd1 s (.ptr db i)=some (.int .u32 (nAt l i)):=by
 rw [qAO h,List.getElem?_map,nAt_get? hi];rfl
theorem UAt.put (h:UAt s db l) {x:Int} {R:Hq→Prop} (hi:i < l.length) (hR:∀ s',UAt s' db (l.set i x)→Upto db s s'→R s'):oK (wr1 s (.ptr db i) (.int .u32 x)) R:=by
 have h:s db=some (false,.cells 33 (us l)):=h
 have e1:Nat.blt i (us l).length=true:=by rw [Nat.blt_eq,List.length_map];exact hi
 have e2:wr1 s (.ptr db i) (.int .u32 x)=some (hset s db (false,.cells 33 (us (l.set i x)))):=by
  simp only [wr1,h,e1,us,List.map_set];rfl
 exact qAF e2 (hR _ qCe λ_ hi=>qBW hi)
theorem UAt.swap (h:UAt s db l) {R:Hq→Prop} (hi:i < l.length) (hj:j < l.length) (hR:∀ s',UAt s' db (swN l i j)→Upto db s s'→R s') :
  oK (wr1 s (.ptr db i) (.int .u32 (nAt l j))) λs1=>oK (wr1 s1 (.ptr db j) (.int .u32 (nAt l i))) R:=
 h.put hi λs1 h1 u1=>h1.put (by simpa using hj) λs2 h2 u2=>hR s2 h2 λk hk=>by rw [u2 k hk,u1 k hk]
theorem UAt.sub (h:UAt s db l) (k:Sub s s'):UAt s' db l:=k _ _ h
theorem add1 (h:a≤1000000):qAB .add (.int .i64 (a:Int)) (.int .i64 1)=some (.int .i64 ((a+1:Nat):Int)):=by
 rw [qAK,qAT (by omega) (by omega)];rfl
theorem sub1 (h:1≤a) (h2:a≤1000000):qAB .sub (.int .i64 (a:Int)) (.int .i64 1)=some (.int .i64 ((a - 1:Nat):Int)):=by
 rw [qAo,qAT (by omega) (by omega),show (a:Int) - 1=((a - 1:Nat):Int) by omega]
theorem addN (h:a+b≤1000000):qAB .add (.int .i64 (a:Int)) (.int .i64 (b:Int))=some (.int .i64 ((a+b:Nat):Int)):=by
 rw [qAK,qAT (by omega) (by omega)];rfl
theorem subN (h:b≤a) (h2:a≤1000000):qAB .sub (.int .i64 (a:Int)) (.int .i64 (b:Int))=some (.int .i64 ((a - b:Nat):Int)):=by
 rw [qAo,qAT (by omega) (by omega),show (a:Int) - b=((a - b:Nat):Int) by omega]
theorem qFF {x y:Int} (hK:K (.bool (decide (x < y))) s):wC Tryz.prog XX 102 [.int .u32 x,.int .u32 y] K s:=by
 refine qJG (qDM ?_)
 simp only [qCO,qAe,qAZ,beq_self_eq_true,Bool.true_bne,Bool.not_true,qAA,qAQ,qDd,qAf,qAM,qDb]
 exact hK
structure Ins (a i j:Nat) (l:List Int):Prop where
 oth:∀ p q,a≤p→p < q→q≤i→p≠j→q≠j→nAt l p≤nAt l q
 up:∀ q,j < q→q≤i→nAt l j≤nAt l q
theorem Ins.start (h:Asc a i l):Ins a i i l:=⟨λp q h1 h2 h3 _ h5=>h p q h1 h2 (by omega),λq h1 h2=>by omega⟩
theorem Ins.step (h:Ins a i j l) (h1:a < j) (h2:j≤i) (h3:i < l.length) (c:nAt l j < nAt l (j - 1)):Ins a i (j - 1) (swN l j (j - 1)):=by
 have at_:∀ k,nAt (swN l j (j - 1)) k=if k=j - 1 then nAt l j else if k=j then nAt l (j - 1) else nAt l k:=λk=>qIB (by omega) (by omega)
 refine ⟨λp q k1 k2 k3 k4 k5=>?_,λq k1 k2=>?_⟩
 ·rw [at_ p,at_ q,if_neg k4,if_neg k5]
  by_cases e1:q=j
  ·rw [if_pos e1,if_neg (by omega)]
   exact h.oth p (j - 1) k1 (by omega) (by omega) (by omega) (by omega)
  ·rw [if_neg e1]
   by_cases e2:p=j
   ·rw [if_pos e2]
    exact h.oth (j - 1) q (by omega) (by omega) k3 (by omega) e1
   ·rw [if_neg e2]
    exact h.oth p q k1 k2 k3 e2 e1
 ·rw [at_ (j - 1),at_ q,if_pos rfl,if_neg (by omega)]
  by_cases e1:q=j
  ·rw [if_pos e1];omega
  ·rw [if_neg e1];exact h.up q (by omega) k2
theorem Ins.done (h:Ins a i j l) (h1:a≤j) (c:j=a∨nAt l (j - 1)≤nAt l j):Asc a (i+1) l:=by
 intro p q k1 k2 k3
 by_cases e1:p=j
 ·subst e1;exact h.up q k2 (by omega)
 ·by_cases e2:q=j
  ·subst e2
   rcases c with c | c
   ·omega
   ·by_cases e3:p=q - 1
    ·rw [e3];exact c
    ·exact Int.le_trans (h.oth p (q - 1) k1 (by omega) (by omega) e1 (by omega)) c
  ·exact h.oth p q k1 k2 (by omega) e1 e2
theorem zAC9 (h:UAt s db l) (hk:k=l.length) (hl:k≤100000) (hab:a≤b) (hb:b≤l.length) (hK:∀ s' l',UAt s' db l'→PI a b l l'→Asc a b l'→KB db s s'→K (.tup []) s') :
  wC Tryz.prog XX 96 [uV db k,.int .i64 (a:Int),.int .i64 (b:Int)] K s:=by
 refine qCn ?_
 simp only [qB6,add1 (show a≤1000000 by omega),qAA]
 refine ⟨λys t m=>∃ (i:Nat) (l1:List Int),ys=[.int .i64 (i:Int)]∧UAt t db l1∧PI a b l l1∧Asc a i l1∧KB db s t∧a < i∧(i≤b∨i=a+1)∧m=b+1 - i,⟨_,a+1,l,rfl,h,.refl _ _ _,λp q _ _ _=>by omega,.refl _ _,by omega,.inr rfl,rfl⟩,?_⟩
 rintro f t m ⟨i,l1,hy,h1,pi,asc,kp,c1,c2,rfl⟩
 simp only [List.cons.injEq,and_true] at hy
 rw [hy]
 simp only [qCg,qAM,qAA]
 refine qAC (λhlt=>?_) (λhge=>?_)
 rotate_left
 ·have hge:b≤i:=by have:=of_decide_eq_false hge;omega
  exact hK t l1 h1 pi (λp q q1 q2 q3=>asc p q q1 q2 (by omega)) kp
 have hlt:i < b:=by have:=of_decide_eq_true hlt;omega
 have hn:=pi.len
 refine ⟨λys t m=>∃ (j:Nat) (l2:List Int),ys=[.int .i64 (j:Int)]∧UAt t db l2∧PI a b l l2∧Ins a i j l2∧KB db s t∧a≤j∧j≤i∧m=j,⟨_,i,l1,rfl,h1,pi,.start asc,kp,by omega,by omega,rfl⟩,?_⟩
 rintro f t2 c ⟨j,l2,hy2,h2,pi2,ins,kp2,d1,d2,hcm⟩
 simp only [List.cons.injEq,and_true] at hy2
 rw [hy2]
 have hn2:=pi2.len
 have next:(j=a∨nAt l2 (j - 1)≤nAt l2 j)→oK (qAB .add (.int .i64 (i:Int)) (.int .i64 1)) λv_15=>∃ m',m' < b+1 - i∧∃ (i:Nat) (l1:List Int),[v_15]=[.int .i64 (i:Int)]∧UAt t2 db l1∧PI a b l l1∧Asc a i l1∧KB db s t2∧a < i∧(i≤b∨i=a+1)∧m'=b+1 - i:=λhc=>by
  simp only [add1 (show i≤1000000 by omega),qAA]
  exact ⟨_,by omega,i+1,l2,rfl,h2,pi2,ins.done d1 hc,kp2,by omega,.inl (by omega),rfl⟩
 simp only [qCm,qA4,qAA]
 refine qAC (λhp=>?_) (λhp=>?_)
 rotate_left
 ·simp only [qBE,hp,qAf,qAQ,qAA]
  exact next (.inl (by have:=of_decide_eq_false hp;omega))
 have hp':a < j:=by have:=of_decide_eq_true hp;omega
 simp only [sub1 (show 1≤j by omega) (show j≤1000000 by omega),u_ad (show j < k by omega),u_ad (show j - 1 < k by omega),h2.rd (show j < l2.length by omega),h2.rd (show j - 1 < l2.length by omega),qAA]
 refine qFF ?_
 simp only [qBE,hp,qAg,qAA]
 refine qAC (λhc=>?_) (λhc=>?_)
 ·simp only [sub1 (show 1≤j by omega) (show j≤1000000 by omega),u_ad (show j < k by omega),u_ad (show j - 1 < k by omega),h2.rd (show j < l2.length by omega),h2.rd (show j - 1 < l2.length by omega),qAA]
  refine h2.swap (by omega) (by omega) λs3 h3 u3=>?_
  exact ⟨_,by omega,j - 1,_,rfl,h3,pi2.trans (.sw (by omega) (by omega) (by omega) (by omega) (by omega)),ins.step hp' d2 (by omega) (of_decide_eq_true hc),kp2.trans (u3.keep rfl),by omega,by omega,rfl⟩
 ·exact next (.inr (by have:=of_decide_eq_false hc;omega))
end Go.AM.SG
namespace Go.AM.SG
open Go Go.AM Go.Proofs
variable {K : AV → Hq → Prop} {s s' s0 : Hq} {db : Nat} {l l' l1 l2 : List Int} {a b i j k f lo hi : Nat}
def zAGN (s:Hq) (db:Nat) (l:List Int) (f lo hi:Nat):List AV→Hq→Nat→Prop:=λys t m=>
 ∃ (r:Nat) (l1:List Int),ys=[.int .i64 (r:Int)]∧UAt t db l1∧PI f (f+hi) l l1∧HpX f lo hi r l1∧KB db s t∧lo≤r∧r≤100000∧m=hi - r
theorem qZW (h:UAt s db l) (hk:k=l.length) (hl:k≤100000) (hlo:lo≤100000) (hr:Hp f (lo+1) hi l) (hb:f+hi≤l.length) (hK:∀ s' l',UAt s' db l'→PI f (f+hi) l l'→Hp f lo hi l'→KB db s s'→K (.tup []) s') :
  wC Tryz.prog XX 126 [uV db k,.int .i64 (lo:Int),.int .i64 (hi:Int),.int .i64 (f:Int)] K s:=by
 refine qF8 ?_
 refine ⟨zAGN s db l f lo hi,⟨_,lo,l,rfl,h,.refl _ _ _,.start hr,.refl _ _,by omega,hlo,rfl⟩,?_⟩
 rintro e t m ⟨r,l1,hy,h1,pi,hx,kp,c1,c2,rfl⟩
 simp only [List.cons.injEq,and_true] at hy
 rw [hy]
 have hn:=pi.len
 have e1:qAB .mul (.int .i64 2) (.int .i64 (r:Int))=some (.int .i64 ((2 * r:Nat):Int)):=by
  rw [qHB,qAT (by omega) (by omega)];rfl
 simp only [qDQ,e1,add1 (show 2 * r≤1000000 by omega),qAz,qAA]
 refine qAC (λhge=>?_) (λhlt=>?_)
 ·have hge:hi≤2 * r+1:=by have:=of_decide_eq_true hge;omega
  exact hK t l1 h1 pi (hx.leaf hge) kp
 have hlt:2 * r+1 < hi:=by have:=of_decide_eq_false hlt;omega
 have fin:∀ ch,Chd r ch→ch < hi→(∀ c,Chd r c→c < hi→nAt l1 (f+c)≤nAt l1 (f+ch))→qBa XX (uV db k) (.int .i64 (f:Int)) (.int .i64 (r:Int)) (.int .i64 (ch:Int)) (zAGN s db l f lo hi) (hi - r) K t:=λch q1 q2 q3=>by
  have hrc:r < ch:=by unfold Chd at q1;omega
  simp only [qBa,addN (show f+r≤1000000 by omega),addN (show f+ch≤1000000 by omega),u_ad (show f+r < k by omega),u_ad (show f+ch < k by omega),h1.rd (show f+r < l1.length by omega),h1.rd (show f+ch < l1.length by omega),qAA]
  refine qFF ?_
  simp only [qAs,qAA]
  refine qAC (λhc=>?_) (λhc=>?_)
  ·have hc:¬ nAt l1 (f+r) < nAt l1 (f+ch):=by simpa using hc
   exact hK t l1 h1 pi (hx.done q3 (by omega)) kp
  ·have hc:nAt l1 (f+r) < nAt l1 (f+ch):=by simpa using hc
   simp only [addN (show f+r≤1000000 by omega),addN (show f+ch≤1000000 by omega),u_ad (show f+r < k by omega),u_ad (show f+ch < k by omega),h1.rd (show f+r < l1.length by omega),h1.rd (show f+ch < l1.length by omega),qAA]
   refine h1.swap (by omega) (by omega) λs3 h3 u3=>?_
   exact ⟨_,by omega,ch,_,rfl,h3,pi.trans (.sw (by omega) (by omega) (by omega) (by omega) (by omega)),hx.down (by omega) c1 q1 q2 q3 (by omega),kp.trans (u3.keep rfl),by omega,by omega,rfl⟩
 simp only [add1 (show 2 * r+1≤1000000 by omega),qAM,qAA]
 refine qAC (λhp=>?_) (λhp=>?_)
 ·have hp':2 * r+2 < hi:=by have:=of_decide_eq_true hp;omega
  simp only [addN (show f+(2 * r+1)≤1000000 by omega),add1 (show f+(2 * r+1)≤1000000 by omega),u_ad (show f+(2 * r+1) < k by omega),u_ad (show f+(2 * r+1)+1 < k by omega),h1.rd (show f+(2 * r+1) < l1.length by omega),h1.rd (show f+(2 * r+1)+1 < l1.length by omega),qAA]
  refine qFF ?_
  simp only [qBb,hp,qAg,qAA]
  refine qAC (λhc=>?_) (λhc=>?_)
  ·have hc:=of_decide_eq_true hc
   simp only [add1 (show 2 * r+1≤1000000 by omega),qAA]
   refine fin (2 * r+1+1) (.inr rfl) (by omega) λc q1 q2=>?_
   rcases q1 with rfl | rfl
   ·rw [show f+(2 * r+1+1)=f+(2 * r+1)+1 by omega];omega
   ·exact Int.le_refl _
  ·have hc:=of_decide_eq_false hc
   refine fin (2 * r+1) (.inl rfl) (by omega) λc q1 q2=>?_
   rcases q1 with rfl | rfl
   ·exact Int.le_refl _
   ·rw [show f+(2 * r+2)=f+(2 * r+1)+1 by omega];omega
 ·have hp':¬ 2 * r+2 < hi:=by have:=of_decide_eq_false hp;omega
  simp only [qBb,hp,qAf,qAQ,qAA]
  refine fin (2 * r+1) (.inl rfl) (by omega) λc q1 q2=>?_
  rcases q1 with rfl | rfl
  ·exact Int.le_refl _
  ·exact absurd q2 hp'
def zAEr (s:Hq) (db:Nat) (l:List Int) (a b:Nat):List AV→Hq→Nat→Prop:=λys t m=>
 ∃ (n:Nat) (l1:List Int),ys=[.int .i64 ((n:Int) - 1)]∧UAt t db l1∧PI a b l l1∧Hp a n (b - a) l1∧KB db s t∧n≤100000∧m=n
def zAFz (s:Hq) (db:Nat) (l:List Int) (a b:Nat):List AV→Hq→Nat→Prop:=λys t m=>
 ∃ (n:Nat) (l1:List Int),ys=[.int .i64 ((n:Int) - 1)]∧UAt t db l1∧PI a b l l1∧Hp a 0 n l1∧But a b a (a+n) l1∧KB db s t∧a+n≤b∧m=n
theorem zADA (h:UAt s db l) (hk:k=l.length) (hl:k≤100000) (hab:a < b) (hb:b≤l.length) (hK:∀ s' l',UAt s' db l'→PI a b l l'→Asc a b l'→KB db s s'→K (.tup []) s') :
  wC Tryz.prog XX 97 [uV db k,.int .i64 (a:Int),.int .i64 (b:Int)] K s:=by
 refine qF6 ?_
 have e1:qAB .quo (.int .i64 ((b - a - 1:Nat):Int)) (.int .i64 2)=some (.int .i64 ((((b - a - 1) / 2+1:Nat):Int) - 1)):=by
  rw [qL5 (by omega)]
  have:((b - a - 1:Nat):Int).tdiv 2=(((b - a - 1) / 2:Nat):Int):=rfl
  rw [this,qAT (by omega) (by omega),show ((((b - a - 1) / 2+1:Nat):Int) - 1)=(((b - a - 1) / 2:Nat):Int) by omega]
 simp only [qCp,subN (show a≤b by omega) (show b≤1000000 by omega),sub1 (show 1≤b - a by omega) (show b - a≤1000000 by omega),e1,qAA]
 refine ⟨zAEr s db l a b,⟨_,(b - a - 1) / 2+1,l,rfl,h,.refl _ _ _,.vac,.refl _ _,by omega,rfl⟩,?_⟩
 rintro e t m ⟨n,l1,hy,h1,pi,hp,kp,c1,rfl⟩
 simp only [List.cons.injEq,and_true] at hy
 rw [hy]
 have hn:=pi.len
 simp only [qDP,qAz,qAA]
 refine qAC (λhge=>?_) (λhlt=>?_)
 ·have hge:1≤m:=by have:=of_decide_eq_true hge;omega
  obtain ⟨n,rfl⟩:∃ n,m=n+1:=⟨m - 1,by omega⟩
  have e2:((n+1:Nat):Int) - 1=(n:Int):=by omega
  rw [e2]
  refine qZW h1 (by omega) hl (by omega) hp (by omega) λs2 l2 h2 pi2 hp2 kp2=>?_
  have e3:qAB .sub (.int .i64 (n:Int)) (.int .i64 1)=some (.int .i64 ((n:Int) - 1)):=by rw [qAo,qAT (by omega) (by omega)]
  simp only [e3,qAA]
  rw [show a+(b - a)=b by omega] at pi2
  exact ⟨_,Nat.lt_succ_self n,n,l2,rfl,h2,pi.trans pi2,hp2,kp.trans kp2,by omega,rfl⟩
 have hm:m=0:=by have:=of_decide_eq_false hlt;omega
 subst hm
 have e4:qAB .sub (.int .i64 ((b - a:Nat):Int)) (.int .i64 1)=some (.int .i64 (((b - a:Nat):Int) - 1)):=by rw [qAo,qAT (by omega) (by omega)]
 simp only [e4,qAA]
 refine ⟨zAFz s db l a b,⟨_,b - a,l1,rfl,h1,pi,hp,?_,kp,by omega,rfl⟩,?_⟩
 ·rw [show a+(b - a)=b by omega];exact .start
 clear hy hlt e4
 rintro e t2 m2 ⟨n,l2,hy,h2,pi2,hp2,but,kp2,c2,hmn⟩
 simp only [List.cons.injEq,and_true] at hy
 rw [hy]
 have hn2:=pi2.len
 simp only [qDS,qAz,qAA]
 refine qAC (λhge=>?_) (λhlt=>?_)
 rotate_left
 ·have hm:n=0:=by have:=of_decide_eq_false hlt;omega
  subst hm
  exact hK t2 l2 h2 pi2 (but.asc λp q _ _ _=>by omega) kp2
 have hge:1≤n:=by have:=of_decide_eq_true hge;omega
 obtain ⟨n,rfl⟩:∃ n',n=n'+1:=⟨n - 1,by omega⟩
 have e2:((n+1:Nat):Int) - 1=(n:Int):=by omega
 rw [e2]
 simp only [addN (show a+n≤1000000 by omega),u_ad (show a+n < k by omega),u_ad (show a < k by omega),h2.rd (show a+n < l2.length by omega),h2.rd (show a < l2.length by omega),qAA]
 refine h2.swap (by omega) (by omega) λs3 h3 u3=>?_
 have hn3:(swN l2 a (a+n)).length=l2.length:=zAEc
 refine qZW (lo:=0) h3 (by omega) hl (by omega) (hp2.swap (by omega)) (by omega) λs4 l4 h4 pi4 hp4 kp4=>?_
 have e3:qAB .sub (.int .i64 (n:Int)) (.int .i64 1)=some (.int .i64 ((n:Int) - 1)):=by rw [qAo,qAT (by omega) (by omega)]
 simp only [e3,qAA]
 refine ⟨_,?_,n,l4,rfl,h4,(pi2.trans (.sw (i:=a) (j:=a+n) (by omega) (by omega) (by omega) (by omega) (by omega))).trans (pi4.wide (by omega) (by omega)),hp4,?_,(kp2.trans (u3.keep rfl)).trans kp4,by omega,rfl⟩
 ·omega
 ·exact (but.pop hp2 (by omega) (by omega)).pi (by omega) (by omega) pi4
end Go.AM.SG
namespace Go.AM.SG
open Go Go.AM Go.Proofs
variable {K : AV → Hq → Prop} {s s' s0 : Hq} {db g : Nat} {l l' l1 l2 : List Int} {a b c i j k f lo hi n : Nat}
def RevI (s:Hq) (db:Nat) (l:List Int) (a b:Nat):List AV→Hq→Nat→Prop:=λys t m=>
 ∃ (i j:Nat) (l1:List Int),ys=[.int .i64 (i:Int),.int .i64 (j:Int)]∧UAt t db l1∧PI a b l l1∧KB db s t∧a≤i∧j < b∧m=j - i
theorem zAE6 (h:UAt s db l) (hk:k=l.length) (hl:k≤100000) (hab:a < b) (hb:b≤l.length) (hK:∀ s' l',UAt s' db l'→PI a b l l'→KB db s s'→K (.tup []) s') :
  wC Tryz.prog XX 100 [uV db k,.int .i64 (a:Int),.int .i64 (b:Int)] K s:=by
 refine qE3 ?_
 simp only [qCD,sub1 (show 1≤b by omega) (show b≤1000000 by omega),qAA]
 refine ⟨RevI s db l a b,⟨_,a,b - 1,l,rfl,h,.refl _ _ _,.refl _ _,by omega,by omega,rfl⟩,?_⟩
 rintro e t m ⟨i,j,l1,hy,h1,pi,kp,c1,c2,rfl⟩
 simp only [List.cons.injEq,and_true] at hy
 rw [hy.1,hy.2]
 have hn:=pi.len
 simp only [qCv,qAM,qAA]
 refine qAC (λhc=>?_) (λhc=>?_)
 ·have hc:i < j:=by have:=of_decide_eq_true hc;omega
  simp only [u_ad (show i < k by omega),u_ad (show j < k by omega),h1.rd (show i < l1.length by omega),h1.rd (show j < l1.length by omega),qAA]
  refine h1.swap (by omega) (by omega) λs3 h3 u3=>?_
  simp only [add1 (show i≤1000000 by omega),sub1 (show 1≤j by omega) (show j≤1000000 by omega),qAA]
  exact ⟨_,by omega,i+1,j - 1,_,rfl,h3,pi.trans (.sw (by omega) (by omega) (by omega) (by omega) (by omega)),kp.trans (u3.keep rfl),by omega,by omega,rfl⟩
 ·exact hK t l1 h1 pi kp
def SwAt (s:Hq) (g:Nat):Prop:=∃ c:Int,s g=some (false,.cells 3 [.int .i64 c])
theorem SwAt.ne (h:SwAt s g) (h2:UAt s db l):db≠g:=λe=>by
 obtain ⟨c,h⟩:=h
 have h2:s db=some (false,.cells 33 (us l)):=h2
 rw [e,h] at h2
 have:(3:TypeId)=33:=congrArg (λx:Option (Bool × Blk)=>match x with | some (_,.cells e _)=>e | _=>0) h2
 exact absurd this (by decide)
theorem qQh (h:UAt s db l) (hg:SwAt s g) (hk:k=l.length) (ha:a < k) (hb:b < k) (hK:∀ s' p q,(p=a∧q=b∨p=b∧q=a)→UAt s' db l→SwAt s' g→KB g s s'→K (.tup [.int .i64 ((p:Nat):Int),.int .i64 ((q:Nat):Int)]) s') :
  wC Tryz.prog XX 171 [uV db k,.int .i64 (a:Int),.int .i64 (b:Int),.ptr g 0] K s:=by
 refine qGm ?_
 simp only [qC9,u_ad ha,u_ad hb,h.rd (show a < l.length by omega),h.rd (show b < l.length by omega),qAA]
 refine qFF (qAC (λ_=>?_) (λ_=>?_))
 ·have ne:=hg.ne h
  obtain ⟨c,hc⟩:=hg
  have rc:rd1 s (.ptr g 0)=some (.int .i64 c):=by rw [qAO hc];rfl
  simp only [qEt,rc,qAK,qAA]
  refine qBv hc Nat.zero_lt_one rfl λs2 h2 u2=>?_
  have h':UAt s2 db l:=by show s2 db=_;rw [u2 db ne];exact h
  exact hK s2 b a (.inr ⟨rfl,rfl⟩) h' ⟨_,h2⟩ (u2.keep rfl)
 ·exact hK s a b (.inl ⟨rfl,rfl⟩) h hg (.refl _ _)
theorem qSo (h:UAt s db l) (hg:SwAt s g) (hk:k=l.length) (ha:lo≤a∧a < hi) (hb:lo≤b∧b < hi) (hc:lo≤c∧c < hi) (hh:hi≤k) (hK:∀ s' p,lo≤p→p < hi→UAt s' db l→SwAt s' g→KB g s s'→K (.int .i64 ((p:Nat):Int)) s') :
  wC Tryz.prog XX 130 [uV db k,.int .i64 (a:Int),.int .i64 (b:Int),.int .i64 (c:Int),.ptr g 0] K s:=by
 refine qGt (qQh h hg hk (by omega) (by omega) λs1 p1 q1 e1 h1 g1 k1=>?_)
 have x0:∀ x y:AV,qAX (.tup [x,y]) 0=some x:=λ_ _=>rfl
 have x1:∀ x y:AV,qAX (.tup [x,y]) 1=some y:=λ_ _=>rfl
 simp only [x0,x1,qAA]
 refine qQh h1 g1 hk (by omega) (by omega) λs2 p2 q2 e2 h2 g2 k2=>?_
 simp only [x0,x1,qAA]
 refine qQh h2 g2 hk (by omega) (by omega) λs3 p3 q3 e3 h3 g3 k3=>?_
 simp only [x0,x1,qAA]
 exact hK s3 q3 (by omega) (by omega) h3 g3 ((k1.trans k2).trans k3)
theorem qYt (h:UAt s db l) (hg:SwAt s g) (hk:k=l.length) (hl:k≤100000) (ha:lo < a∧a+1 < hi) (hh:hi≤k) (hK:∀ s' p,lo≤p→p < hi→UAt s' db l→SwAt s' g→KB g s s'→K (.int .i64 ((p:Nat):Int)) s') :
  wC Tryz.prog XX 129 [uV db k,.int .i64 (a:Int),.ptr g 0] K s:=by
 refine qEc ?_
 simp only [qBp,sub1 (show 1≤a by omega) (show a≤1000000 by omega),add1 (show a≤1000000 by omega),qAA]
 exact qSo h hg hk (lo:=lo) (hi:=hi) (by omega) (by omega) (by omega) hh hK
theorem quo4 (hn:n≤100000):qAB .quo (.int .i64 (n:Int)) (.int .i64 4)=some (.int .i64 ((n / 4:Nat):Int)):=by
 rw [qL5 (by omega)]
 have:(n:Int).tdiv 4=((n / 4:Nat):Int):=rfl
 rw [this,qAT (by omega) (by omega)]
theorem mulN {x:Nat} (hn:n * x≤1000000):qAB .mul (.int .i64 (n:Int)) (.int .i64 (x:Int))=some (.int .i64 ((n * x:Nat):Int)):=by
 rw [qHB,← Int.natCast_mul,qAT (by omega) (by omega)]
theorem zABa (h:UAt s db l) (hk:k=l.length) (hl:k≤100000) (hab:a+12 < b) (hb:b≤k) (hK:∀ s' p (z:Int),a≤p→p < b→UAt s' db l→Sub s s'→K (.tup [.int .i64 ((p:Nat):Int),.int .i64 z]) s') :
  wC Tryz.prog XX 99 [uV db k,.int .i64 (a:Int),.int .i64 (b:Int)] K s:=by
 refine qFN ?_
 have m1:qAB .mul (.int .i64 (((b - a) / 4:Nat):Int)) (.int .i64 1)=some (.int .i64 (((b - a) / 4 * 1:Nat):Int)):=mulN (x:=1) (by omega)
 have m2:qAB .mul (.int .i64 (((b - a) / 4:Nat):Int)) (.int .i64 2)=some (.int .i64 (((b - a) / 4 * 2:Nat):Int)):=mulN (x:=2) (by omega)
 have m3:qAB .mul (.int .i64 (((b - a) / 4:Nat):Int)) (.int .i64 3)=some (.int .i64 (((b - a) / 4 * 3:Nat):Int)):=mulN (x:=3) (by omega)
 have g8:qAB .geq (.int .i64 ((b - a:Nat):Int)) (.int .i64 8)=some (.bool true):=by rw [qAz,decide_eq_true (by omega)]
 simp only [qCM,subN (show a≤b by omega) (show b≤1000000 by omega),qAA]
 refine qAJ λg s1 hg h1 u1=>?_
 have sub1:=u1.sub hg
 have hu:=h.sub sub1
 simp only [quo4 (show b - a≤100000 by omega),m1,m2,m3,addN (show a+(b - a) / 4 * 1≤1000000 by omega),addN (show a+(b - a) / 4 * 2≤1000000 by omega),addN (show a+(b - a) / 4 * 3≤1000000 by omega),g8,qAh,qAA]
 have out:∀ {t:Hq},KB g s1 t→Sub s t:=fun {t} kp i e hi=>kp i e (sub1 i e hi) λw=>by rw [w,hg] at hi;cases hi
 have fin:∀ t i j q,(a≤i∧i < b)→(a≤j∧j < b)→(a≤q∧q < b)→UAt t db l→SwAt t g→KB g s1 t→qBt XX (uV db k) (.ptr g 0) (.int .i64 ((i:Nat):Int)) (.int .i64 ((j:Nat):Int)) (.int .i64 ((q:Nat):Int)) K t:=λt i j q hi hj hq ht hs kp=>by
  refine qSo ht hs hk hi hj hq hb λs2 p p1 p2 h2 g2 k2=>?_
  obtain ⟨c,hc⟩:=g2
  have rc:rd1 s2 (.ptr g 0)=some (.int .i64 c):=by rw [qAO hc];rfl
  simp only [qBs,rc,qAe,qAZ,Bool.false_bne,qAA]
  have o2:=out (kp.trans k2)
  refine qAC (λ_=>hK s2 p _ p1 p2 h2 o2) (λ_=>qAC (λ_=>hK s2 p _ p1 p2 h2 o2) (λ_=>hK s2 p _ p1 p2 h2 o2))
 have hs:SwAt s1 g:=⟨0,h1⟩
 simp only [qAz,qAA]
 refine qAC (λ_=>?_) (λ_=>?_)
 ·refine qYt hu hs hk hl (lo:=a) (hi:=b) (by omega) hb λs2 p p1 p2 h2 g2 k2=>?_
  refine qYt h2 g2 hk hl (lo:=a) (hi:=b) (by omega) hb λs3 q q1 q2 h3 g3 k3=>?_
  refine qYt h3 g3 hk hl (lo:=a) (hi:=b) (by omega) hb λs4 r r1 r2 h4 g4 k4=>?_
  exact fin s4 p q r ⟨p1,p2⟩ ⟨q1,q2⟩ ⟨r1,r2⟩ h4 g4 ((k2.trans k3).trans k4)
 ·exact fin s1 _ _ _ (by omega) (by omega) (by omega) hu hs (.refl _ _)
abbrev zACO:ByteArray:=⟨#[0,1,2,2,3,3,3,3,4,4,4,4,4,4,4,4,5,5,5,5,5,5,5,5,5,5,5,5,5,5,5,5,6,6,6,6,6,6,6,6,6,6,6,6,6,6,6,6,6,6,6,6,6,6,6,6,6,6,6,6,6,6,6,6,7,7,7,7,7,7,7,7,7,7,7,7,7,7,7,7,7,7,7,7,7,7,7,7,7,7,7,7,7,7,7,7,7,7,7,7,7,7,7,7,7,7,7,7,7,7,7,7,7,7,7,7,7,7,7,7,7,7,7,7,7,7,7,7,8,8,8,8,8,8,8,8,8,8,8,8,8,8,8,8,8,8,8,8,8,8,8,8,8,8,8,8,8,8,8,8,8,8,8,8,8,8,8,8,8,8,8,8,8,8,8,8,8,8,8,8,8,8,8,8,8,8,8,8,8,8,8,8,8,8,8,8,8,8,8,8,8,8,8,8,8,8,8,8,8,8,8,8,8,8,8,8,8,8,8,8,8,8,8,8,8,8,8,8,8,8,8,8,8,8,8,8,8,8,8,8,8,8,8,8,8,8,8,8,8,8,8,8,8,8,8,8]⟩
theorem zAED:((List.range 256).all λn=>match qKO (.str zACO) (.int .u8 (n:Int)) with
 | some (.int .u8 (.ofNat t))=>Nat.ble t 8&&Nat.blt n (2 ^ t)&&(Nat.beq n 0||Nat.ble (2 ^ t) (2 * n))
 | _=>false)=true:=by kernel_rfl
theorem zAEx (h:n < 256):∃ t:Nat,qKO (.str zACO) (.int .u8 (n:Int))=some (.int .u8 (t:Int))∧t≤8∧n < 2 ^ t∧(0 < n→2 ^ t≤2 * n):=by
 have:=List.all_eq_true.1 zAED n (List.mem_range.2 h)
 split at this
 ·rename_i t e
  simp only [Bool.and_eq_true,Bool.or_eq_true,Nat.ble_eq,Nat.blt_eq] at this
  refine ⟨t,e,this.1.1,this.1.2,λh0=>?_⟩
  rcases this.2 with q | q
  ·have:=Nat.eq_of_beq_eq_true q;omega
  ·exact q
 ·cases this
set_option maxRecDepth 100000 in
theorem qYW (h:n < 256) (hK:∀ t:Nat,t≤8→n < 2 ^ t→(0 < n→2 ^ t≤2 * n)→K (.int .i64 (t:Int)) s):wC Tryz.prog XX 67 [.int .u64 (n:Int)] K s:=by
 refine qLL ?_
 simp only [qGH,qAQ]
 refine qJf ?_
 have c1:decide ((4294967296:Int)≤(n:Int))=false:=decide_eq_false (by omega)
 have c2:decide ((65536:Int)≤(n:Int))=false:=decide_eq_false (by omega)
 have c3:decide ((256:Int)≤(n:Int))=false:=decide_eq_false (by omega)
 have e1:qBf .u8 (.int .u64 (n:Int))=some (.int .u8 (n:Int)):=by
  show some (AV.int .u8 (qAw .u8 (n:Int)))=_
  rw [wu8_,Int.emod_eq_of_lt (by omega) (by omega)]
 obtain ⟨t,t1,t2,t3,t4⟩:=zAEx h
 have e2:qAB .add (.int .i64 0) (.int .i64 (t:Int))=some (.int .i64 (t:Int)):=by rw [qAK,qAT (by omega) (by omega),Int.zero_add]
 refine qAF (a:=.bool false) (by rw [qAz,c1]) ?_
 show qDu XX _ _ K s
 refine qAF (a:=.bool false) (by rw [qAz,c2]) ?_
 show qDv XX _ _ K s
 refine qAF (a:=.bool false) (by rw [qAz,c3]) ?_
 show qDs XX _ _ K s
 exact qAF e1 (qAF t1 (qAF (qVO (by omega)) (qAF e2 (hK t t2 t3 t4))))
theorem qQ4 (h:n < 9223372036854775808):qBf .u64 (.int .i64 (n:Int))=some (.int .u64 (n:Int)):=by
 show some (AV.int .u64 (qAw .u64 (n:Int)))=_
 rw [qNC (by omega)]
theorem zAFa (h:n < 256) (h0:0 < n) (hK:∀ m:Nat,m≤2 * n→0 < m→K (.int .u64 (m:Int)) s):wC Tryz.prog XX 127 [.int .i64 (n:Int)] K s:=by
 refine qKb ?_
 simp only [qFY,qQ4 (show n < 9223372036854775808 by omega),qAA]
 refine qYW h λt t1 t2 t3=>?_
 have e:qBk .shl (.int .u64 1) (.int .i64 (t:Int))=some (.int .u64 ((2 ^ t:Nat):Int)):=by
  show frc (qAw .u64 (1 * ((2 ^ (min t (IntKind.bits .u64)):Nat):Int))) (λn=>some (AV.int .u64 n))=_
  have:min t (IntKind.bits .u64)=t:=Nat.min_eq_left (Nat.le_trans t1 (by decide))
  have:=t3 h0
  rw [qBc,‹min t (IntKind.bits .u64)=t›,Int.one_mul,qNC (by omega)]
 simp only [e,qAA]
 exact hK _ (t3 h0) (Nat.pow_pos (by decide))
def XoAt (s:Hq) (g:Nat):Prop:=∃ c:Int,s g=some (false,.cells 198 [.int .u64 c])
theorem XoAt.ne (h:XoAt s g) (h2:UAt s db l):db≠g:=λe=>by
 obtain ⟨c,h⟩:=h
 have h2:s db=some (false,.cells 33 (us l)):=h2
 rw [e,h] at h2
 have:(198:TypeId)=33:=congrArg (λx:Option (Bool × Blk)=>match x with | some (_,.cells e _)=>e | _=>0) h2
 exact absurd this (by decide)
theorem zADS (h:XoAt s g) (hK:∀ s' (z:Int),XoAt s' g→Upto g s s'→K (.int .u64 z) s'):wC Tryz.prog XX 128 [.ptr g 0] K s:=by
 obtain ⟨c,hc⟩:=h
 refine qLO ?_
 have rc:∀ {t:Hq} {c:Int},t g=some (false,.cells 198 [.int .u64 c])→rd1 t (.ptr g 0)=some (.int .u64 c):=fun {t c} h=>by rw [qAO h];rfl
 obtain ⟨z1,y1⟩:=qYX (x:=c) (m:=13) (k:=.u64)
 obtain ⟨z2,y2⟩:=qU3 (x:=c) (y:=z1)
 obtain ⟨z3,y3⟩:=zAD4 (x:=z2) (m:=7) (k:=.u64)
 obtain ⟨z4,y4⟩:=qU3 (x:=z2) (y:=z3)
 obtain ⟨z5,y5⟩:=qYX (x:=z4) (m:=17) (k:=.u64)
 obtain ⟨z6,y6⟩:=qU3 (x:=z4) (y:=z5)
 simp only [qGB,qEt,rc hc,qAA]
 refine qAF y1 (qAF y2 (qBv hc Nat.zero_lt_one rfl λs1 h1 u1=>?_))
 have h1:s1 g=some (false,.cells 198 [.int .u64 z2]):=h1
 simp only [rc h1,qAA]
 refine qAF y3 (qAF y4 (qBv h1 Nat.zero_lt_one rfl λs2 h2 u2=>?_))
 have h2:s2 g=some (false,.cells 198 [.int .u64 z4]):=h2
 simp only [rc h2,qAA]
 refine qAF y5 (qAF y6 (qBv h2 Nat.zero_lt_one rfl λs3 h3 u3=>?_))
 have h3:s3 g=some (false,.cells 198 [.int .u64 z6]):=h3
 simp only [rc h3,qAA]
 exact hK s3 z6 ⟨_,h3⟩ λi hi=>by rw [u3 i hi,u2 i hi,u1 i hi]
def BrkI (s:Hq) (db g:Nat) (l:List Int) (a b:Nat):List AV→Hq→Nat→Prop:=λys t m=>
 ∃ (i:Nat) (l1:List Int),ys=[.int .i64 (i:Int)]∧UAt t db l1∧PI a b l l1∧XoAt t g∧qAa (λj=>j=db∨j=g) s t∧a≤i∧i≤a+(b - a) / 4 * 2+2∧m=a+(b - a) / 4 * 2+3 - i
theorem zAAZ (h:UAt s db l) (hk:k=l.length) (hl:k≤255) (hab:a+12 < b) (hb:b≤k) (hK:∀ s' l',UAt s' db l'→PI a b l l'→KB db s s'→K (.tup []) s') :
  wC Tryz.prog XX 98 [uV db k,.int .i64 (a:Int),.int .i64 (b:Int)] K s:=by
 refine qEw ?_
 have g8:qAB .geq (.int .i64 ((b - a:Nat):Int)) (.int .i64 8)=some (.bool true):=by rw [qAz,decide_eq_true (by omega)]
 have m2:qAB .mul (.int .i64 (((b - a) / 4:Nat):Int)) (.int .i64 2)=some (.int .i64 (((b - a) / 4 * 2:Nat):Int)):=mulN (x:=2) (by omega)
 simp only [qB4,subN (show a≤b by omega) (show b≤1000000 by omega),g8,qAh,qQ4 (show b - a < 9223372036854775808 by omega),qAA]
 refine qAJ λg s1 hg h1 u1=>?_
 have h1:s1 g=some (false,.cells 198 [.int .u64 0]):=h1
 refine qBv h1 Nat.zero_lt_one rfl λs2 h2 u2=>?_
 have h2:s2 g=some (false,.cells 198 [.int .u64 ((b - a:Nat):Int)]):=h2
 have sub2:Sub s s2:=λi e hi=>by
  have ne:i≠g:=qBe hg hi
  rw [u2 i ne,u1 i ne];exact hi
 refine zAFa (n:=b - a) (by omega) (by omega) λmd md1 md2=>?_
 simp only [quo4 (show b - a≤100000 by omega),m2,addN (show a+(b - a) / 4 * 2≤1000000 by omega),sub1 (show 1≤a+(b - a) / 4 * 2 by omega) (show a+(b - a) / 4 * 2≤1000000 by omega),qAA]
 refine ⟨BrkI s2 db g l a b,⟨_,_,l,rfl,h.sub sub2,.refl _ _ _,⟨_,h2⟩,.refl _ _,by omega,by omega,rfl⟩,?_⟩
 rintro e t m ⟨i,l1,hy,hu,pi,hx,kp,c1,c2,rfl⟩
 simp only [List.cons.injEq,and_true] at hy
 rw [hy]
 have hn:=pi.len
 simp only [qCi,quo4 (show b - a≤100000 by omega),m2,addN (show a+(b - a) / 4 * 2≤1000000 by omega),add1 (show a+(b - a) / 4 * 2≤1000000 by omega),qCA,qAA]
 refine qAC (λhc=>?_) (λhc=>?_)
 rotate_left
 ·refine hK t l1 hu pi λi e hi hne=>kp i e (sub2 i e hi) λw=>?_
  rcases w with w | w
  ·exact hne w
  ·rw [w,hg] at hi;cases hi
 have hc:i≤a+(b - a) / 4 * 2+1:=by have:=of_decide_eq_true hc;omega
 have ne:=hx.ne hu
 refine zADS hx λs3 z hx3 u3=>?_
 have hu3:UAt s3 db l1:=by show s3 db=_;rw [u3 db ne];exact hu
 have sb:qAB .sub (.int .u64 (md:Int)) (.int .u64 1)=some (.int .u64 ((md - 1:Nat):Int)):=by
  rw [qAo,← qCG,show (md:Int) - 1=((md - 1:Nat):Int) by omega,qNC (by omega)]
 obtain ⟨v,v1,v2⟩:=zAF5 (x:=z) (m:=md - 1) (by omega)
 simp only [sb,v2,qVO (show v < 9223372036854775808 by omega),qAz,qAA]
 have fin:∀ o,o < b - a→qBD XX (uV db k) (.int .i64 (a:Int)) (.int .i64 (i:Int)) (.int .i64 ((o:Nat):Int)) (BrkI s2 db g l a b) (a+(b - a) / 4 * 2+3 - i) K s3:=λo ho=>by
  simp only [qBD,addN (show a+o≤1000000 by omega),u_ad (show a+o < k by omega),u_ad (show i < k by omega),hu3.rd (show a+o < l1.length by omega),hu3.rd (show i < l1.length by omega),qAA]
  refine hu3.swap (by omega) (by omega) λs4 h4 u4=>?_
  simp only [add1 (show i≤1000000 by omega),qAA]
  refine ⟨_,by omega,i+1,_,rfl,h4,pi.trans (.sw (by omega) (by omega) (by omega) (by omega) (by omega)),?_,?_,by omega,by omega,rfl⟩
  ·obtain ⟨c,hc⟩:=hx3
   exact ⟨c,by rw [u4 g ne.symm];exact hc⟩
  ·exact (kp.trans (u3.keep (.inr rfl))).trans (u4.keep (.inl rfl))
 refine qAC (λhq=>?_) (λhq=>?_)
 ·have hq:b - a≤v:=by have:=of_decide_eq_true hq;omega
  simp only [subN hq (show v≤1000000 by omega),qAA]
  exact fin _ (by omega)
 ·exact fin v (by have:=of_decide_eq_false hq;omega)
end Go.AM.SG
namespace Go.AM.SG
open Go Go.AM Go.Proofs
variable {K : AV → Hq → Prop} {s s' s0 : Hq} {db g : Nat} {l l' l1 l2 : List Int} {a b c i j k p n : Nat} {v : Int}
theorem Asc.keep (h:Asc a i l) (k:∀ q,q < i→nAt l' q=nAt l q):Asc a i l':=λp q h1 h2 h3=>by
 rw [k p (by omega),k q h3];exact h p q h1 h2 h3
def zAAs (s:Hq) (db:Nat) (l:List Int) (a b:Nat):List AV→Hq→Nat→Prop:=λys t m=>
 ∃ (i j:Nat) (l1:List Int),ys=[.int .i64 (i:Int),.int .i64 (j:Int)]∧UAt t db l1∧PI a b l l1∧Asc a i l1∧KB db s t∧a < i∧i≤b∧j≤5∧m=5 - j
def zAGh (t0:Hq) (l1:List Int) (a b:Nat):List AV→Hq→Nat→Prop:=λys t m=>
 ∃ i:Nat,ys=[.int .i64 (i:Int)]∧t=t0∧Asc a i l1∧a < i∧i≤b∧m=b - i
def zAGY (s:Hq) (db:Nat) (l:List Int) (a b i:Nat):List AV→Hq→Nat→Prop:=λys t m=>
 ∃ (q:Nat) (l3:List Int),ys=[.int .i64 (q:Int)]∧UAt t db l3∧PI a b l l3∧Ins a (i - 1) q l3∧KB db s t∧a≤q∧q < i∧m=q
def zAGp (s:Hq) (db:Nat) (l:List Int) (a b i:Nat):List AV→Hq→Nat→Prop:=λys t m=>
 ∃ (q:Nat) (l4:List Int),ys=[.int .i64 (q:Int)]∧UAt t db l4∧PI a b l l4∧Asc a i l4∧KB db s t∧i < q∧q≤b∧m=b - q
theorem qWZ (h:UAt s db l) (hk:k=l.length) (hl:k≤100000) (hab:a < b) (hb:b≤k) (hlow:Low a b l) (hK:∀ s' l' r,UAt s' db l'→PI a b l l'→(r=true→Asc a b l')→KB db s s'→K (.bool r) s') :
  wC Tryz.prog XX 101 [uV db k,.int .i64 (a:Int),.int .i64 (b:Int)] K s:=by
 refine qDf ?_
 simp only [qBN,add1 (show a≤1000000 by omega),qAA]
 refine ⟨zAAs s db l a b,⟨_,a+1,0,l,rfl,h,.refl _ _ _,λp q _ _ _=>by omega,.refl _ _,by omega,by omega,by omega,rfl⟩,?_⟩
 rintro e t m ⟨i0,j,l1,hy,h1,pi,asc0,kp,b1,b2,b3,rfl⟩
 simp only [List.cons.injEq,and_true] at hy
 rw [hy.1,hy.2]
 have hn:=pi.len
 simp only [qBy,qAM,qAA]
 refine qAC (λhj=>?_) (λ_=>hK t l1 false h1 pi (λq=>by cases q) kp)
 have hj:j < 5:=by have:=of_decide_eq_true hj;omega
 refine ⟨zAGh t l1 a b,⟨_,i0,rfl,rfl,asc0,b1,b2,rfl⟩,?_⟩
 clear hy
 rintro e t' m ⟨i,hy,rfl,asc,c1,c2,hm⟩
 simp only [List.cons.injEq,and_true] at hy
 rw [hy]
 simp only [qB2,qAM,qAA]
 refine qAC (λhlt=>?_) (λhge=>?_)
 rotate_left
 ·have hib:i=b:=by have:=of_decide_eq_false hge;omega
  simp only [qAu,hge,qAf,qAQ,qAe,qAZ,Bool.false_bne,qAA]
  subst hib
  simp only [beq_self_eq_true,qAh]
  exact hK t' l1 true h1 pi (λ_=>asc) kp
 have hlt':i < b:=by have:=of_decide_eq_true hlt;omega
 simp only [sub1 (show 1≤i by omega) (show i≤1000000 by omega),u_ad (show i < k by omega),u_ad (show i - 1 < k by omega),h1.rd (show i < l1.length by omega),h1.rd (show i - 1 < l1.length by omega),qAA]
 refine qFF ?_
 simp only [qAu,hlt,qAg,qAs,qAA]
 refine qAC (λhc=>?_) (λhc=>?_)
 ·have hc:nAt l1 (i - 1)≤nAt l1 i:=by simpa using hc
  simp only [add1 (show i≤1000000 by omega),qAA]
  refine ⟨_,?_,i+1,rfl,rfl,λp q q1 q2 q3=>?_,by omega,by omega,rfl⟩
  ·omega
  ·by_cases e1:q=i
   ·subst e1
    by_cases e2:p=q - 1
    ·rw [e2];exact hc
    ·exact Int.le_trans (asc p (q - 1) q1 (by omega) (by omega)) hc
   ·exact asc p q q1 q2 (by omega)
 have hc:nAt l1 i < nAt l1 (i - 1):=by simpa using hc
 have hne:((i:Int) == (b:Int))=false:=by rw [beq_eq_false_iff_ne];omega
 simp only [qAe,hne,qAZ,Bool.false_bne,qAQ,subN (show a≤b by omega) (show b≤1000000 by omega),qAA]
 refine qAC (λ_=>hK t' l1 false h1 pi (λq=>by cases q) kp) (λ_=>?_)
 simp only [sub1 (show 1≤i by omega) (show i≤1000000 by omega),u_ad (show i < k by omega),u_ad (show i - 1 < k by omega),h1.rd (show i < l1.length by omega),h1.rd (show i - 1 < l1.length by omega),qAA]
 refine h1.swap (by omega) (by omega) λs2 h2 u2=>?_
 have kp2:=kp.trans (u2.keep rfl)
 have pi2:PI a b l (swN l1 i (i - 1)):=pi.trans (.sw (by omega) (by omega) (by omega) (by omega) (by omega))
 have j4:∀ t4 l4,UAt t4 db l4→PI a b l l4→Asc a i l4→KB db s t4→qAi XX (.int .i64 (i:Int)) (.int .i64 (j:Int)) (zAAs s db l a b) (5 - j) K t4:=λt4 l4 q1 q2 q3 q4=>by
  simp only [qAi,add1 (show j≤1000000 by omega),qAA]
  exact ⟨_,by omega,i,j+1,l4,rfl,q1,q2,q3,q4,c1,c2,by omega,rfl⟩
 have j3:∀ t3 l3,UAt t3 db l3→PI a b l l3→Asc a i l3→KB db s t3→qAd XX (uV db k) (.int .i64 (b:Int)) (.int .i64 (i:Int)) (.int .i64 (j:Int)) (zAAs s db l a b) (5 - j) K t3:=λt3 l3 q1 q2 q3 q4=>by
  simp only [qAd,subN (show i≤b by omega) (show b≤1000000 by omega),qAz,qAA]
  refine qAC (λhg=>?_) (λ_=>j4 t3 l3 q1 q2 q3 q4)
  simp only [add1 (show i≤1000000 by omega),qAA]
  refine ⟨zAGp s db l a b i,⟨_,i+1,l3,rfl,q1,q2,q3,q4,by omega,by omega,rfl⟩,?_⟩
  rintro e t4 m ⟨q,l4,hy4,r1,r2,r3,r4,r5,r6,hm4⟩
  simp only [List.cons.injEq,and_true] at hy4
  rw [hy4]
  have hn4:=r2.len
  simp only [qBz,qAM,qAA]
  refine qAC (λhq=>?_) (λ_=>j4 t4 l4 r1 r2 r3 r4)
  have hq:q < b:=by have:=of_decide_eq_true hq;omega
  simp only [sub1 (show 1≤q by omega) (show q≤1000000 by omega),u_ad (show q < k by omega),u_ad (show q - 1 < k by omega),r1.rd (show q < l4.length by omega),r1.rd (show q - 1 < l4.length by omega),qAA]
  refine qFF ?_
  simp only [qAs,qAA]
  refine qAC (λ_=>j4 t4 l4 r1 r2 r3 r4) (λ_=>?_)
  simp only [sub1 (show 1≤q by omega) (show q≤1000000 by omega),u_ad (show q < k by omega),u_ad (show q - 1 < k by omega),r1.rd (show q < l4.length by omega),r1.rd (show q - 1 < l4.length by omega),qAA]
  refine r1.swap (by omega) (by omega) λs5 h5 u5=>?_
  simp only [add1 (show q≤1000000 by omega),qAA]
  refine ⟨_,?_,q+1,_,rfl,h5,r2.trans (.sw (by omega) (by omega) (by omega) (by omega) (by omega)),r3.keep λx hx=>?_,r4.trans (u5.keep rfl),by omega,by omega,rfl⟩
  ·omega
  ·rw [qIB (by omega) (by omega),if_neg (by omega),if_neg (by omega)]
 have sub0:∀ x,x < i - 1→nAt (swN l1 i (i - 1)) x=nAt l1 x:=λx hx=>by rw [qIB (by omega) (by omega),if_neg (by omega),if_neg (by omega)]
 have asc2:Asc a (i - 1) (swN l1 i (i - 1)):=Asc.keep (l:=l1) (λp q q1 q2 q3=>asc p q q1 q2 (by omega)) sub0
 simp only [subN (show a≤i by omega) (show i≤1000000 by omega),qAz,qAA]
 refine qAC (λhg=>?_) (λhg=>?_)
 rotate_left
 ·have hg:i=a+1:=by have:=of_decide_eq_false hg;omega
  exact j3 s2 _ h2 pi2 (λp q q1 q2 q3=>by omega) kp2
 have hg:a+2≤i:=by have:=of_decide_eq_true hg;omega
 refine ⟨zAGY s db l a b i,⟨_,i - 1,_,rfl,h2,pi2,.start asc2,kp2,by omega,by omega,rfl⟩,?_⟩
 rintro e t3 m3 ⟨q,l3,hy3,r1,r2,r3,r4,r5,r6,hm3⟩
 simp only [List.cons.injEq,and_true] at hy3
 rw [hy3]
 have hn3:=r2.len
 have dn:(q=a∨nAt l3 (q - 1)≤nAt l3 q)→qAd XX (uV db k) (.int .i64 (b:Int)) (.int .i64 (i:Int)) (.int .i64 (j:Int)) (zAAs s db l a b) (5 - j) K t3:=λhq=>by
  have:=r3.done r5 hq
  rw [show i - 1+1=i by omega] at this
  exact j3 t3 l3 r1 r2 this r4
 simp only [qB1,qAz,qAA]
 refine qAC (λhq=>?_) (λhq=>dn (.inl (by have:=of_decide_eq_false hq;omega)))
 have hq:1≤q:=by have:=of_decide_eq_true hq;omega
 simp only [sub1 (show 1≤q by omega) (show q≤1000000 by omega),u_ad (show q < k by omega),u_ad (show q - 1 < k by omega),r1.rd (show q < l3.length by omega),r1.rd (show q - 1 < l3.length by omega),qAA]
 refine qFF ?_
 simp only [qAs,qAA]
 refine qAC (λhd=>dn (.inr (by simpa using hd))) (λhd=>?_)
 have hd:nAt l3 q < nAt l3 (q - 1):=by simpa using hd
 have hqa:a < q:=by
  by_cases e:q=a
  ·subst e
   have:=r2.low hlow (by omega) q (Nat.le_refl q) (by omega)
   omega
  ·omega
 simp only [sub1 (show 1≤q by omega) (show q≤1000000 by omega),u_ad (show q < k by omega),u_ad (show q - 1 < k by omega),r1.rd (show q < l3.length by omega),r1.rd (show q - 1 < l3.length by omega),qAA]
 refine r1.swap (by omega) (by omega) λs5 h5 u5=>?_
 refine ⟨_,?_,q - 1,_,rfl,h5,r2.trans (.sw (by omega) (by omega) (by omega) (by omega) (by omega)),r3.step hqa (by omega) (by omega) hd,r4.trans (u5.keep rfl),by omega,by omega,rfl⟩
 omega
end Go.AM.SG
namespace Go.AM.SG
open Go Go.AM Go.Proofs
variable {K : AV → Hq → Prop} {s s' s0 : Hq} {db g : Nat} {l l' l1 l2 : List Int} {a b c i j k p n : Nat} {v : Int}
structure Ptn (a b i j:Nat) (v:Int) (l l1:List Int):Prop where
 pi:PI a b l l1
 piv:nAt l1 a=v
 ai:a < i
 ij:i≤j+1
 jb:j < b
 low:∀ q,a < q→q < i→nAt l1 q≤v
 up:∀ q,j < q→q < b→v≤nAt l1 q
theorem Ptn.start (hab:a < b) (h1:a≤p) (h2:p < b) (hb:b≤l.length):Ptn a b (a+1) (b - 1) (nAt l p) l (swN l a p):=
 ⟨.sw (by omega) (by omega) h1 h2 hb,by
  rw [qIB (by omega) (by omega)]
  by_cases e:a=p
  ·rw [if_pos e,e]
  ·rw [if_neg e,if_pos rfl],by omega,by omega,by omega,λq _ _=>by omega,λq _ _=>by omega⟩
theorem Ptn.incr (h:Ptn a b i j v l l1) (hij:i≤j) (c:nAt l1 i≤v):Ptn a b (i+1) j v l l1:=
 ⟨h.pi,h.piv,by have:=h.ai;omega,by omega,h.jb,λq q1 q2=>by
  by_cases e:q=i
  ·rw [e];exact c
  ·exact h.low q q1 (by omega),h.up⟩
theorem Ptn.decr (h:Ptn a b i j v l l1) (hij:i≤j) (c:v≤nAt l1 j):Ptn a b i (j - 1) v l l1:=
 ⟨h.pi,h.piv,h.ai,by omega,by have:=h.jb;omega,h.low,λq q1 q2=>by
  by_cases e:q=j
  ·rw [e];exact c
  ·exact h.up q (by omega) q2⟩
theorem Ptn.swap (h:Ptn a b i j v l l1) (hb:b≤l.length) (hij:i < j) (c1:v≤nAt l1 i) (c2:nAt l1 j≤v):Ptn a b (i+1) (j - 1) v l (swN l1 i j):=by
 have hn:=h.pi.len
 have h1:=h.ai
 have h2:=h.jb
 have at_:∀ k,nAt (swN l1 i j) k=if k=j then nAt l1 i else if k=i then nAt l1 j else nAt l1 k:=λk=>qIB (by omega) (by omega)
 refine ⟨h.pi.trans (.sw (by omega) (by omega) (by omega) (by omega) (by omega)),?_,by omega,by omega,by omega,λq q1 q2=>?_,λq q1 q2=>?_⟩
 ·rw [at_,if_neg (by omega),if_neg (by omega)];exact h.piv
 ·rw [at_,if_neg (by omega)]
  by_cases e:q=i
  ·rw [if_pos e];exact c2
  ·rw [if_neg e];exact h.low q q1 (by omega)
 ·rw [at_]
  by_cases e:q=j
  ·rw [if_pos e];exact c1
  ·rw [if_neg e,if_neg (by omega)];exact h.up q (by omega) q2
theorem Ptn.fin (h:Ptn a b i j v l l1) (hb:b≤l.length) (hij:j < i):PI a b l (swN l1 j a)∧Parted a b j (swN l1 j a)∧a≤j:=by
 have hn:=h.pi.len
 have h1:=h.ai
 have h2:=h.jb
 have h3:=h.ij
 have haj:a≤j:=by omega
 have at_:∀ k,nAt (swN l1 j a) k=if k=a then nAt l1 j else if k=j then nAt l1 a else nAt l1 k:=λk=>qIB (by omega) (by omega)
 refine ⟨h.pi.trans (.sw (by omega) (by omega) (by omega) (by omega) (by omega)),⟨λq q1 q2=>?_,λq q1 q2=>?_⟩,haj⟩
 ·have:a < j:=by omega
  have hj:nAt l1 j≤v:=h.low j this (by omega)
  rw [at_ q,at_ j,if_neg (show ¬ j=a by omega),if_pos rfl,h.piv]
  by_cases e:q=a
  ·rw [if_pos e];exact hj
  ·rw [if_neg e,if_neg (by omega)]
   exact h.low q (by omega) (by omega)
 ·have e1:nAt (swN l1 j a) j=v:=by
   rw [at_ j]
   by_cases e:j=a
   ·rw [if_pos e,e];exact h.piv
   ·rw [if_neg e,if_pos rfl];exact h.piv
  rw [e1,at_ q,if_neg (by omega),if_neg (by omega)]
  exact h.up q q1 q2
def qWa (s:Hq) (db:Nat) (l:List Int) (a b:Nat) (v:Int):List AV→Hq→Nat→Prop:=λys t m=>
 ∃ (i j:Nat) (l1:List Int),ys=[.int .i64 (i:Int),.int .i64 (j:Int)]∧UAt t db l1∧Ptn a b i j v l l1∧KB db s t∧m=j+1 - i
def zAE4 (t0:Hq) (l l1:List Int) (a b i0 j:Nat) (v:Int):List AV→Hq→Nat→Prop:=λys t m=>
 ∃ i:Nat,ys=[.int .i64 (i:Int),.int .i64 (j:Int)]∧t=t0∧Ptn a b i j v l l1∧i0≤i∧m=j+1 - i
def zAGe (t0:Hq) (l l1:List Int) (a b i j0:Nat) (v:Int):List AV→Hq→Nat→Prop:=λys t m=>
 ∃ j:Nat,ys=[.int .i64 (j:Int)]∧t=t0∧Ptn a b i j v l l1∧(i≤j→v < nAt l1 i)∧j≤j0∧m=j
theorem qY9 (h:UAt s db l) (hk:k=l.length) (hl:k≤100000) (hab:a < b) (hb:b≤k) (h1p:a≤p) (h2p:p < b) (hK:∀ s' l' m,UAt s' db l'→PI a b l l'→a < m→m≤b→(∀ q,a≤q→q < m→nAt l' q≤nAt l p)→(∀ q,m≤q→q < b→nAt l p≤nAt l' q)→KB db s s'→K (.int .i64 ((m:Nat):Int)) s') :
  wC Tryz.prog XX 103 [uV db k,.int .i64 (a:Int),.int .i64 (b:Int),.int .i64 (p:Int)] K s:=by
 refine qEf ?_
 simp only [qBu,u_ad (show p < k by omega),u_ad (show a < k by omega),h.rd (show p < l.length by omega),h.rd (show a < l.length by omega),qAA]
 refine h.swap (by omega) (by omega) λs1 h1 u1=>?_
 simp only [add1 (show a≤1000000 by omega),sub1 (show 1≤b by omega) (show b≤1000000 by omega),qAA]
 refine ⟨qWa s db l a b (nAt l p),⟨_,a+1,b - 1,_,rfl,h1,.start hab h1p h2p (by omega),u1.keep rfl,rfl⟩,?_⟩
 rintro e t m ⟨i0,j0,l1,hy,ht,pt0,kp,rfl⟩
 simp only [List.cons.injEq,and_true] at hy
 rw [hy.1,hy.2]
 have hn:=pt0.pi.len
 refine ⟨zAE4 t l l1 a b i0 j0 (nAt l p),⟨_,i0,rfl,rfl,pt0,by omega,rfl⟩,?_⟩
 clear hy
 rintro e t' m ⟨i,hy,rfl,pt,hi0,hm⟩
 simp only [List.cons.injEq,and_true] at hy
 rw [hy.1]
 have c1:=pt.ai
 have c2:=pt.ij
 have c3:=pt.jb
 have nx:(i≤j0→nAt l p < nAt l1 i)→∃ I3:List AV→Hq→Nat→Prop,(∃ m,I3 [.int .i64 (j0:Int)] t' m)∧∀ (f:Env) (w:Hq) (m3:Nat),I3 [f 10] w m3→
   qBd XX (uV db k) (.int .i64 (a:Int)) (.int .i64 (i:Int)) (f 10) I3 m3 (qWa s db l a b (nAt l p)) (j0+1 - i0) K w:=λhst=>by
  refine ⟨zAGe t' l l1 a b i j0 (nAt l p),⟨_,j0,rfl,rfl,pt,hst,by omega,rfl⟩,?_⟩
  rintro e t3 m3 ⟨j,hy3,rfl,pt3,hst3,hj0,hm3⟩
  simp only [List.cons.injEq,and_true] at hy3
  rw [hy3]
  have d2:=pt3.ij
  have d3:=pt3.jb
  have st:((i≤j→nAt l1 j≤nAt l p))→oK (qAB .gtr (.int .i64 (i:Int)) (.int .i64 (j:Int))) λv_16=>qAL v_16 (K (.int .i64 (i:Int)) t3)
    (oK (qAH 1 (uV db k) (.int .i64 (j:Int))) λv_17=>oK (rd1 t3 v_17) λv_18=>oK (qAH 1 (uV db k) (.int .i64 (i:Int))) λv_19=>oK (rd1 t3 v_19) λv_20=>oK (qAH 1 (uV db k) (.int .i64 (i:Int))) λv_21=>oK (wr1 t3 v_21 v_18) λs_22=>
     oK (qAH 1 (uV db k) (.int .i64 (j:Int))) λv_23=>oK (wr1 s_22 v_23 v_20) λs_24=>oK (qAB .add (.int .i64 (i:Int)) (.int .i64 1)) λv_25=>oK (qAB .sub (.int .i64 (j:Int)) (.int .i64 1)) λv_26=>∃ m',m' < j0+1 - i0∧qWa s db l a b (nAt l p) [v_25,v_26] s_24 m'):=λhq=>by
   simp only [qA4,qAA]
   refine qAC (λhg=>?_) (λhg=>?_)
   ·have hg:j < i:=by have:=of_decide_eq_true hg;omega
    refine hK t3 l1 i ht pt3.pi c1 (by omega) (λq q1 q2=>?_) (λq q1 q2=>pt3.up q (by omega) q2) kp
    by_cases e:q=a
    ·rw [e,pt3.piv];exact Int.le_refl _
    ·exact pt3.low q (by omega) q2
   ·have hg:i≤j:=by have:=of_decide_eq_false hg;omega
    have w1:=hst3 hg
    have w2:=hq hg
    have hij:i < j:=by
     by_cases e:i=j
     ·rw [e] at w1;omega
     ·omega
    simp only [u_ad (show i < k by omega),u_ad (show j < k by omega),ht.rd (show i < l1.length by omega),ht.rd (show j < l1.length by omega),qAA]
    refine ht.swap (by omega) (by omega) λs5 h5 u5=>?_
    simp only [add1 (show i≤1000000 by omega),sub1 (show 1≤j by omega) (show j≤1000000 by omega),qAA]
    exact ⟨_,by omega,i+1,j - 1,_,rfl,h5,pt3.swap (by omega) hij (by omega) w2,kp.trans (u5.keep rfl),rfl⟩
  simp only [qBd,qCA,qAA]
  refine qAC (λhlt=>?_) (λhge=>?_)
  rotate_left
  ·simp only [qBA,hge,qAf,qAQ,qAA]
   exact st λq=>by have:=of_decide_eq_false hge;omega
  have hlt':i≤j:=by have:=of_decide_eq_true hlt;omega
  simp only [u_ad (show j < k by omega),u_ad (show a < k by omega),ht.rd (show j < l1.length by omega),ht.rd (show a < l1.length by omega),qAA]
  refine qFF ?_
  simp only [qBA,hlt,qAg,qAA,pt3.piv]
  refine qAC (λhc=>?_) (λhc=>?_)
  ·have hc:=of_decide_eq_true hc
   simp only [sub1 (show 1≤j by omega) (show j≤1000000 by omega),qAA]
   exact ⟨_,by omega,j - 1,rfl,rfl,pt3.decr hlt' (by omega),λq=>hst3 (by omega),by omega,rfl⟩
  ·exact st λ_=>by have:=of_decide_eq_false hc;omega
 simp only [qCZ,qCA,qAA]
 refine qAC (λhlt=>?_) (λhge=>?_)
 rotate_left
 ·simp only [qBB,hge,qAf,qAQ,qAA]
  exact nx λq=>by have:=of_decide_eq_false hge;omega
 have hlt':i≤j0:=by have:=of_decide_eq_true hlt;omega
 simp only [u_ad (show i < k by omega),u_ad (show a < k by omega),ht.rd (show i < l1.length by omega),ht.rd (show a < l1.length by omega),qAA]
 refine qFF ?_
 simp only [qBB,hlt,qAg,qAs,qAA,pt.piv]
 refine qAC (λhc=>?_) (λhc=>?_)
 ·have hc:nAt l1 i≤nAt l p:=by simpa using hc
  simp only [add1 (show i≤1000000 by omega),qAA]
  exact ⟨_,by omega,i+1,rfl,rfl,pt.incr hlt' hc,by omega,rfl⟩
 ·have hc:nAt l p < nAt l1 i:=by simpa using hc
  exact nx λ_=>hc
end Go.AM.SG
namespace Go.AM.SG
open Go Go.AM Go.Proofs
variable {K : AV → Hq → Prop} {s s' s0 : Hq} {db g : Nat} {l l' l1 l2 : List Int} {a b c i j k p n : Nat} {v : Int}
def zAGr (t0:Hq) (l l1:List Int) (a b j:Nat) (v:Int):List AV→Hq→Nat→Prop:=λys t m=>
 ∃ i:Nat,ys=[.int .i64 (i:Int)]∧t=t0∧Ptn a b i j v l l1∧m=j+1 - i
def zAEu (t0:Hq) (l l1:List Int) (a b i j0:Nat) (v:Int):List AV→Hq→Nat→Prop:=λys t m=>
 ∃ j:Nat,ys=[.int .i64 (j:Int)]∧t=t0∧Ptn a b i j v l l1∧(i≤j→v≤nAt l1 i)∧j≤j0∧m=j
theorem qZ4 {cf:Bool} {t:Hq} {R:Hq→Prop} (h:UAt t db l1) (pt:Ptn a b i j v l l1) (hk:k=l.length) (hl:k≤100000) (hb:b≤k) (hij:i≤j→v≤nAt l1 i∧nAt l1 j < v)
  (hK:∀ s' l' m,UAt s' db l'→PI a b l l'→a≤m→m < b→Parted a b m l'→KB db t s'→K (.tup [.int .i64 ((m:Nat):Int),.bool cf]) s')
  (hR:∀ s',UAt s' db (swN l1 i j)→Ptn a b (i+1) (j - 1) v l (swN l1 i j)→i < j→KB db t s'→R s') :
  oK (qAB .gtr (.int .i64 (i:Int)) (.int .i64 (j:Int))) λv_16=>
  qAL v_16
   (oK (qAH 1 (uV db k) (.int .i64 (a:Int))) λv_17=>
    oK (rd1 t v_17) λv_18=>
    oK (qAH 1 (uV db k) (.int .i64 (j:Int))) λv_19=>
    oK (rd1 t v_19) λv_20=>
    oK (qAH 1 (uV db k) (.int .i64 (j:Int))) λv_21=>
    oK (wr1 t v_21 v_18) λs_22=>
    oK (qAH 1 (uV db k) (.int .i64 (a:Int))) λv_23=>
    oK (wr1 s_22 v_23 v_20) λs_24=>
    K (.tup [.int .i64 (j:Int),(.bool cf)]) s_24)
   (oK (qAH 1 (uV db k) (.int .i64 (j:Int))) λv_25=>
    oK (rd1 t v_25) λv_26=>
    oK (qAH 1 (uV db k) (.int .i64 (i:Int))) λv_27=>
    oK (rd1 t v_27) λv_28=>
    oK (qAH 1 (uV db k) (.int .i64 (i:Int))) λv_29=>
    oK (wr1 t v_29 v_26) λs_30=>
    oK (qAH 1 (uV db k) (.int .i64 (j:Int))) λv_31=>
    oK (wr1 s_30 v_31 v_28) R):=by
 have hn:=pt.pi.len
 have c1:=pt.ai
 have c2:=pt.ij
 have c3:=pt.jb
 simp only [qA4,qAA]
 refine qAC (λhg=>?_) (λhg=>?_)
 ·have hg:j < i:=by have:=of_decide_eq_true hg;omega
  simp only [u_ad (show a < k by omega),u_ad (show j < k by omega),h.rd (show a < l1.length by omega),h.rd (show j < l1.length by omega),qAA]
  refine h.swap (by omega) (by omega) λs5 h5 u5=>?_
  obtain ⟨q1,q2,q3⟩:=pt.fin (by omega) hg
  exact hK s5 _ j h5 q1 q3 c3 q2 (u5.keep rfl)
 ·have hg:i≤j:=by have:=of_decide_eq_false hg;omega
  obtain ⟨w1,w2⟩:=hij hg
  have hlt:i < j:=by
   by_cases e:i=j
   ·rw [e] at w1;omega
   ·omega
  simp only [u_ad (show i < k by omega),u_ad (show j < k by omega),h.rd (show i < l1.length by omega),h.rd (show j < l1.length by omega),qAA]
  refine h.swap (by omega) (by omega) λs5 h5 u5=>hR s5 h5 (pt.swap (by omega) hlt w1 (by omega)) hlt (u5.keep rfl)
theorem zADG (h:UAt s db l) (hk:k=l.length) (hl:k≤100000) (hab:a < b) (hb:b≤k) (h1p:a≤p) (h2p:p < b) (hK:∀ s' l' m (cf:Bool),UAt s' db l'→PI a b l l'→a≤m→m < b→Parted a b m l'→KB db s s'→K (.tup [.int .i64 ((m:Nat):Int),.bool cf]) s') :
  wC Tryz.prog XX 104 [uV db k,.int .i64 (a:Int),.int .i64 (b:Int),.int .i64 (p:Int)] K s:=by
 refine qFs ?_
 simp only [qCb,u_ad (show p < k by omega),u_ad (show a < k by omega),h.rd (show p < l.length by omega),h.rd (show a < l.length by omega),qAA]
 refine h.swap (by omega) (by omega) λs1 h1 u1=>?_
 have kp1:KB db s s1:=u1.keep rfl
 simp only [add1 (show a≤1000000 by omega),sub1 (show 1≤b by omega) (show b≤1000000 by omega),qAA]
 have pt1:=Ptn.start (l:=l) hab h1p h2p (by omega)
 generalize hv:nAt l p=v at pt1
 generalize swN l a p=l1 at h1 pt1
 refine ⟨zAGr s1 l l1 a b (b - 1) v,⟨_,a+1,rfl,rfl,pt1,rfl⟩,?_⟩
 rintro e t m ⟨i,hy,rfl,pt,rfl⟩
 simp only [List.cons.injEq,and_true] at hy
 rw [hy]
 have hn:=pt.pi.len
 have c1:=pt.ai
 have c2:=pt.ij
 have c3:=pt.jb
 have big:∀ t4 l4 i4 j4,UAt t4 db l4→Ptn a b i4 j4 v l l4→KB db s t4→∃ I4:List AV→Hq→Nat→Prop,(∃ m,I4 [.int .i64 ((i4:Nat):Int),.int .i64 ((j4:Nat):Int)] t4 m)∧∀ (f:Env) (w:Hq) (m4:Nat),I4 [f 10,f 11] w m4→
   qCE XX (uV db k) (.int .i64 (a:Int)) (f 10) (f 11) I4 m4 K w:=λt4 l4 i4 j4 h4 pt4 kp4=>by
  refine ⟨qWa s db l a b v,⟨_,i4,j4,l4,rfl,h4,pt4,kp4,rfl⟩,?_⟩
  clear h4 pt4 kp4 hy
  rintro e t m ⟨i0,j0,l1,hy,ht,pt0,kp,rfl⟩
  simp only [List.cons.injEq,and_true] at hy
  rw [hy.1,hy.2]
  have hn:=pt0.pi.len
  refine ⟨zAE4 t l l1 a b i0 j0 v,⟨_,i0,rfl,rfl,pt0,by omega,rfl⟩,?_⟩
  clear hy
  rintro e t' m ⟨i,hy,rfl,pt,hi0,hm⟩
  simp only [List.cons.injEq,and_true] at hy
  rw [hy.1]
  have c1:=pt.ai
  have c2:=pt.ij
  have c3:=pt.jb
  have nx:(i≤j0→v≤nAt l1 i)→∃ I7:List AV→Hq→Nat→Prop,(∃ m,I7 [.int .i64 (j0:Int)] t' m)∧∀ (f:Env) (w:Hq) (m7:Nat),I7 [f 11] w m7→
    qCC XX (uV db k) (.int .i64 (a:Int)) (.int .i64 (i:Int)) (f 11) I7 m7 (qWa s db l a b v) (j0+1 - i0) K w:=λhst=>by
   refine ⟨zAEu t' l l1 a b i j0 v,⟨_,j0,rfl,rfl,pt,hst,by omega,rfl⟩,?_⟩
   rintro e t3 m3 ⟨j,hy3,rfl,pt3,hst3,hj0,hm3⟩
   simp only [List.cons.injEq,and_true] at hy3
   rw [hy3]
   have d2:=pt3.ij
   have d3:=pt3.jb
   have st:=λhq:(i≤j→nAt l1 j < v)=>qZ4 (cf:=false) (K:=K) (R:=λs_57=>oK (qAB .add (.int .i64 (i:Int)) (.int .i64 1)) λv_58=>oK (qAB .sub (.int .i64 (j:Int)) (.int .i64 1)) λv_59=>∃ m',m' < j0+1 - i0∧qWa s db l a b v [v_58,v_59] s_57 m') ht pt3 hk hl hb (λq=>⟨hst3 q,hq q⟩) (λs5 l5 m5 q1 q2 q3 q4 q5 q6=>hK s5 l5 m5 false q1 q2 q3 q4 q5 (kp.trans q6)) (λs5 q1 q2 q3 q4=>by
    simp only [add1 (show i≤1000000 by omega),sub1 (show 1≤j by omega) (show j≤1000000 by omega),qAA]
    exact ⟨_,by omega,i+1,j - 1,_,rfl,q1,q2,kp.trans q4,rfl⟩)
   simp only [qCC,qCA,qAA]
   refine qAC (λhlt=>?_) (λhge=>?_)
   rotate_left
   ·simp only [qBP,hge,qAf,qAQ,qAA]
    exact st λq=>by have:=of_decide_eq_false hge;omega
   have hlt':i≤j:=by have:=of_decide_eq_true hlt;omega
   simp only [u_ad (show j < k by omega),u_ad (show a < k by omega),ht.rd (show j < l1.length by omega),ht.rd (show a < l1.length by omega),qAA]
   refine qFF ?_
   simp only [qBP,hlt,qAg,qAs,qAA]
   rw [pt3.piv]
   refine qAC (λhc=>?_) (λhc=>?_)
   ·have hc:v≤nAt l1 j:=by simpa using hc
    simp only [sub1 (show 1≤j by omega) (show j≤1000000 by omega),qAA]
    exact ⟨_,by omega,j - 1,rfl,rfl,pt3.decr hlt' hc,λq=>hst3 (by omega),by omega,rfl⟩
   ·exact st λ_=>by simpa using hc
  simp only [qDH,qCA,qAA]
  refine qAC (λhlt=>?_) (λhge=>?_)
  rotate_left
  ·simp only [qBT,hge,qAf,qAQ,qAA]
   exact nx λq=>by have:=of_decide_eq_false hge;omega
  have hlt':i≤j0:=by have:=of_decide_eq_true hlt;omega
  simp only [u_ad (show i < k by omega),u_ad (show a < k by omega),ht.rd (show i < l1.length by omega),ht.rd (show a < l1.length by omega),qAA]
  refine qFF ?_
  simp only [qBT,hlt,qAg,qAA]
  rw [pt.piv]
  refine qAC (λhc=>?_) (λhc=>?_)
  ·have hc:=of_decide_eq_true hc
   simp only [add1 (show i≤1000000 by omega),qAA]
   exact ⟨_,by omega,i+1,rfl,rfl,pt.incr hlt' (by omega),by omega,rfl⟩
  ·exact nx λ_=>by have:=of_decide_eq_false hc;omega
 have nx:(i≤b - 1→v≤nAt l1 i)→∃ I2:List AV→Hq→Nat→Prop,(∃ m,I2 [.int .i64 ((b - 1:Nat):Int)] t m)∧∀ (f:Env) (w:Hq) (m2:Nat),I2 [f 11] w m2→
   qCB XX (uV db k) (.int .i64 (a:Int)) (.int .i64 (i:Int)) (f 11) I2 m2 K w:=λhst=>by
  refine ⟨zAEu t l l1 a b i (b - 1) v,⟨_,b - 1,rfl,rfl,pt,hst,by omega,rfl⟩,?_⟩
  rintro e t3 m3 ⟨j,hy3,rfl,pt3,hst3,hj0,hm3⟩
  simp only [List.cons.injEq,and_true] at hy3
  rw [hy3]
  have d2:=pt3.ij
  have d3:=pt3.jb
  have st:=λhq:(i≤j→nAt l1 j < v)=>qZ4 (cf:=true) (K:=K) (R:=λs_32=>oK (qAB .add (.int .i64 (i:Int)) (.int .i64 1)) λv_33=>oK (qAB .sub (.int .i64 (j:Int)) (.int .i64 1)) λv_34=>∃ I4:List AV→Hq→Nat→Prop,(∃ m,I4 [v_33,v_34] s_32 m)∧∀ (f:Env) (s:Hq) (m4:Nat),I4 [f 10,f 11] s m4→
    qCE XX (uV db k) (.int .i64 (a:Int)) (f 10) (f 11) I4 m4 K s) h1 pt3 hk hl hb (λq=>⟨hst3 q,hq q⟩) (λs5 l5 m5 q1 q2 q3 q4 q5 q6=>hK s5 l5 m5 true q1 q2 q3 q4 q5 (kp1.trans q6)) (λs5 q1 q2 q3 q4=>by
   simp only [add1 (show i≤1000000 by omega),sub1 (show 1≤j by omega) (show j≤1000000 by omega),qAA]
   exact big s5 _ (i+1) (j - 1) q1 q2 (kp1.trans q4))
  simp only [qCB,qCA,qAA]
  refine qAC (λhlt=>?_) (λhge=>?_)
  rotate_left
  ·simp only [qBU,hge,qAf,qAQ,qAA]
   exact st λq=>by have:=of_decide_eq_false hge;omega
  have hlt':i≤j:=by have:=of_decide_eq_true hlt;omega
  simp only [u_ad (show j < k by omega),u_ad (show a < k by omega),h1.rd (show j < l1.length by omega),h1.rd (show a < l1.length by omega),qAA]
  refine qFF ?_
  simp only [qBU,hlt,qAg,qAs,qAA]
  rw [pt3.piv]
  refine qAC (λhc=>?_) (λhc=>?_)
  ·have hc:v≤nAt l1 j:=by simpa using hc
   simp only [sub1 (show 1≤j by omega) (show j≤1000000 by omega),qAA]
   exact ⟨_,by omega,j - 1,rfl,rfl,pt3.decr hlt' hc,λq=>hst3 (by omega),by omega,rfl⟩
  ·exact st λ_=>by simpa using hc
 simp only [qDD,qCA,qAA]
 refine qAC (λhlt=>?_) (λhge=>?_)
 rotate_left
 ·simp only [qBQ,hge,qAf,qAQ,qAA]
  exact nx λq=>by have:=of_decide_eq_false hge;omega
 have hlt':i≤b - 1:=by have:=of_decide_eq_true hlt;omega
 simp only [u_ad (show i < k by omega),u_ad (show a < k by omega),h1.rd (show i < l1.length by omega),h1.rd (show a < l1.length by omega),qAA]
 refine qFF ?_
 simp only [qBQ,hlt,qAg,qAA]
 rw [pt.piv]
 refine qAC (λhc=>?_) (λhc=>?_)
 ·have hc:=of_decide_eq_true hc
  simp only [add1 (show i≤1000000 by omega),qAA]
  exact ⟨_,by omega,i+1,rfl,rfl,pt.incr hlt' (by omega),rfl⟩
 ·exact nx λ_=>by have:=of_decide_eq_false hc;omega
end Go.AM.SG
namespace Go.AM.SG
open Go Go.AM Go.Proofs
variable {s s' s0 : Hq} {db g : Nat} {l l' l1 l2 : List Int} {a b c i j k p n a0 b0 : Nat} {v : Int}
def PdqI (s:Hq) (db:Nat) (l:List Int) (a0 b0:Nat):List AV→Hq→Nat→Prop:=λys t m=>
 ∃ (a b lim:Nat) (wb wp:Bool) (l1:List Int),ys=[.int .i64 (a:Int),.int .i64 (b:Int),.int .i64 (lim:Int),.bool wb,.bool wp]∧UAt t db l1∧PI a0 b0 l l1∧But a0 b0 a b l1∧KB db s t∧a0≤a∧a≤b∧b≤b0∧lim≤64∧m=b - a
theorem zAEy (k:Nat) (hl:k≤255):∀ (n a0 b0 lim:Nat) (l:List Int) (K:AV→Hq→Prop) (s:Hq),b0 - a0=n→UAt s db l→k=l.length→a0≤b0→b0≤k→lim≤64→Low a0 b0 l→(∀ s' l',UAt s' db l'→PI a0 b0 l l'→Asc a0 b0 l'→KB db s s'→K (.tup []) s')→
  wC Tryz.prog XX 66 [uV db k,.int .i64 (a0:Int),.int .i64 (b0:Int),.int .i64 (lim:Int)] K s:=by
 intro n
 induction n using Nat.strongRecOn with
 | _ n ih=>
 intro a0 b0 lim0 l K s hn h hk hab0 hb0 hlim0 hlow hK
 refine qDm ?_
 refine ⟨PdqI s db l a0 b0,⟨_,a0,b0,lim0,true,true,l,rfl,h,.refl _ _ _,.start,.refl _ _,by omega,by omega,by omega,hlim0,rfl⟩,?_⟩
 rintro e t m ⟨a,b,lim,wb,wp,l1,hy,h1,pi,but,kp,c1,c2,c3,c4,rfl⟩
 simp only [List.cons.injEq,and_true] at hy
 obtain ⟨y1,y2,y3,y4,y5⟩:=hy
 rw [y1,y2,y3,y4,y5]
 clear y1 y2 y3 y4 y5
 have hn1:=pi.len
 have fin:∀ t2 l2,UAt t2 db l2→PI a b l1 l2→Asc a b l2→KB db t t2→K (.tup []) t2:=λt2 l2 q1 q2 q3 q4=>
  hK t2 l2 q1 (pi.trans (q2.wide c1 c3)) ((but.pi c1 c3 q2).asc q3) (kp.trans q4)
 simp only [qDj,subN c2 (show b≤1000000 by omega),qCA,qAA]
 refine qAC (λhs=>?_) (λhs=>?_)
 ·exact zAC9 h1 (by omega) (by omega) c2 (by omega) λs2 l2 q1 q2 q3 q4=>fin s2 l2 q1 q2 q3 q4
 have hs:a+12 < b:=by have:=of_decide_eq_false hs;omega
 have j5:∀ t2 l2 p lim wp,UAt t2 db l2→PI a b l1 l2→KB db t t2→a≤p→p < b→lim≤64→qBh XX (uV db k) (.int .i64 (a:Int)) (.int .i64 (b:Int)) (.int .i64 ((lim:Nat):Int)) (.bool wb) (.bool wp) (.int .i64 ((b - a:Nat):Int)) (.int .i64 ((p:Nat):Int)) (PdqI s db l a0 b0) (b - a) K t2:=λt2 l2 p lim wp q1 q2 q3 q4 q5 q6=>by
  have hn2:=q2.len
  have pi2:=pi.trans (q2.wide c1 c3)
  have but2:=but.pi c1 c3 q2
  have kp2:=kp.trans q3
  have low2:Low a b l2:=but2.low (pi2.low hlow) c1 c3
  have usual:∀ z,qA2 XX (uV db k) (.int .i64 (a:Int)) (.int .i64 (b:Int)) (.int .i64 ((lim:Nat):Int)) (.bool wb) (.bool wp) (.int .i64 ((b - a:Nat):Int)) (.int .i64 ((p:Nat):Int)) (.bool false) z (PdqI s db l a0 b0) (b - a) K t2:=λz=>by
   simp only [qA2,qAf,qAQ,qAA]
   refine zADG q1 (by omega) (by omega) (by omega) (by omega) q4 q5 λs3 l3 mid cf r1 r2 r3 r4 r5 r6=>?_
   have hn3:=r2.len
   have pi3:=pi2.trans (r2.wide c1 c3)
   have but3:=but2.pi c1 c3 r2
   have low3:Low a b l3:=r2.low low2
   have kp3:=kp2.trans r6
   have x0:qAX (.tup [.int .i64 ((mid:Nat):Int),.bool cf]) 0=some (.int .i64 ((mid:Nat):Int)):=rfl
   have x1:qAX (.tup [.int .i64 ((mid:Nat):Int),.bool cf]) 1=some (.bool cf):=rfl
   have e8:qAB .quo (.int .i64 ((b - a:Nat):Int)) (.int .i64 8)=some (.int .i64 (((b - a) / 8:Nat):Int)):=by
    rw [qL5 (by omega)]
    have:((b - a:Nat):Int).tdiv 8=(((b - a) / 8:Nat):Int):=rfl
    rw [this,qAT (by omega) (by omega)]
   simp only [x0,x1,subN r3 (show mid≤1000000 by omega),subN (show mid≤b by omega) (show b≤1000000 by omega),e8,qAM,qAz,qAA]
   refine qAC (λ_=>?_) (λ_=>?_)
   ·refine ih (mid - a) (by omega) a mid lim l3 _ s3 rfl r1 (by omega) r3 (by omega) q6 (λh0 i i1 i2=>low3 h0 i i1 (by omega)) λs4 l4 w1 w2 w3 w4=>?_
    simp only [add1 (show mid≤1000000 by omega),qAA]
    exact ⟨_,by omega,mid+1,b,lim,_,cf,l4,rfl,w1,pi3.trans (w2.wide c1 (by omega)),but3.left c1 c3 r3 r4 r5 w2 w3,kp3.trans w4,by omega,by omega,c3,q6,rfl⟩
   ·simp only [add1 (show mid≤1000000 by omega),qAA]
    refine ih (b - (mid+1)) (by omega) (mid+1) b lim l3 _ s3 rfl r1 (by omega) (by omega) (by omega) q6 (λ_ i i1 i2=>r5.2 i (by omega) i2) λs4 l4 w1 w2 w3 w4=>?_
    exact ⟨_,by omega,a,mid,lim,_,cf,l4,rfl,w1,pi3.trans (w2.wide (by omega) c3),but3.right c1 c3 r3 r4 r5 w2 w3,kp3.trans w4,c1,r3,by omega,q6,rfl⟩
  simp only [qBh,qA4,qAA]
  refine qAC (λhp=>?_) (λhp=>?_)
  rotate_left
  ·rw [hp];exact usual _
  have hp':0 < a:=by have:=of_decide_eq_true hp;omega
  simp only [sub1 (show 1≤a by omega) (show a≤1000000 by omega),u_ad (show a - 1 < k by omega),u_ad (show p < k by omega),q1.rd (show a - 1 < l2.length by omega),q1.rd (show p < l2.length by omega),qAA]
  refine qFF ?_
  simp only [qAs,qAA,hp]
  by_cases hc:nAt l2 (a - 1) < nAt l2 p
  ·have e1:(!decide (nAt l2 (a - 1) < nAt l2 p))=false:=by rw [decide_eq_true hc];rfl
   rw [e1]
   have:=usual .undef
   simp only [qA2,qAf,qAg,qAQ,qAA] at this ⊢
   exact this
  ·have e1:(!decide (nAt l2 (a - 1) < nAt l2 p))=true:=by rw [decide_eq_false hc];rfl
   rw [e1]
   simp only [qA2,qAg,qAh,qAA]
   refine qY9 q1 (by omega) (by omega) (by omega) (by omega) q4 q5 λs3 l3 mid r1 r2 r3 r4 r5 r6 r7=>?_
   have pi3:=pi2.trans (r2.wide c1 c3)
   have but3:=but2.pi c1 c3 r2
   have low3:=r2.low low2 hp'
   have ea:nAt l3 (a - 1)=nAt l2 (a - 1):=r2.out _ (by omega)
   refine ⟨_,?_,mid,b,lim,wb,wp,l3,rfl,r1,pi3,but3.equal (x:=nAt l2 p) (by omega) r4 (λi i1 i2=>?_) r6,kp2.trans r7,by omega,r4,c3,q6,rfl⟩
   ·omega
   ·have w1:=r5 i i1 i2
    have w2:=low3 i i1 (by omega)
    omega
 have j2:∀ t2 l2 p (z:Int) lim wp,UAt t2 db l2→PI a b l1 l2→KB db t t2→a≤p→p < b→lim≤64→qA1 XX (uV db k) (.int .i64 (a:Int)) (.int .i64 (b:Int)) (.int .i64 ((lim:Nat):Int)) (.bool wb) (.bool wp) (.int .i64 ((b - a:Nat):Int)) (.int .i64 ((p:Nat):Int)) (.int .i64 z) (PdqI s db l a0 b0) (b - a) K t2:=λt2 l2 p z lim wp q1 q2 q3 q4 q5 q6=>by
  have hn2:=q2.len
  have low2:Low a b l2:=(but.pi c1 c3 q2).low ((pi.trans (q2.wide c1 c3)).low hlow) c1 c3
  have s5:=j5 t2 l2 p lim wp q1 q2 q3 q4 q5 q6
  cases wb with
  | false=>
    simp only [qA1,qAQ,qBI,qAf,qAA,qBH]
    exact s5
  | true=>
    cases wp with
    | false=>
      simp only [qA1,qAh,qAQ,qBI,qAg,qAf,qAA,qBH]
      exact s5
    | true=>
      simp only [qA1,qAh,qBI,qAg,qAA,qBH,qAe,qAZ,Bool.false_bne]
      refine qAC (λ_=>?_) (λ_=>s5)
      refine qWZ q1 (by omega) (by omega) (by omega) (by omega) low2 λs3 l3 r r1 r2 r3 r4=>?_
      cases r with
      | true=>exact fin s3 l3 r1 (q2.trans r2) (r3 rfl) (q3.trans r4)
      | false=>exact j5 s3 l3 p lim true r1 (q2.trans r2) (q3.trans r4) q4 q5 q6
 have j1:∀ t2 l2 lim,UAt t2 db l2→PI a b l1 l2→KB db t t2→lim≤64→qCQ XX (uV db k) (.int .i64 (a:Int)) (.int .i64 (b:Int)) (.int .i64 ((lim:Nat):Int)) (.bool wb) (.bool wp) (.int .i64 ((b - a:Nat):Int)) (PdqI s db l a0 b0) (b - a) K t2:=λt2 l2 lim q1 q2 q3 q6=>by
  have hn2:=q2.len
  refine zABa q1 (by omega) (by omega) hs (by omega) λs3 p z p1 p2 r1 r2=>?_
  have x0:qAX (.tup [.int .i64 ((p:Nat):Int),.int .i64 z]) 0=some (.int .i64 ((p:Nat):Int)):=rfl
  have x1:qAX (.tup [.int .i64 ((p:Nat):Int),.int .i64 z]) 1=some (.int .i64 z):=rfl
  have k3:KB db t s3:=q3.trans r2.keep
  simp only [x0,x1,qAe,qAZ,Bool.false_bne,qAA]
  refine qAC (λ_=>?_) (λ_=>j2 s3 l2 p z lim wp r1 q2 k3 p1 p2 q6)
  refine zAE6 r1 (by omega) (by omega) (by omega) (by omega) λs4 l4 w1 w2 w3=>?_
  simp only [sub1 (show 1≤b by omega) (show b≤1000000 by omega),subN p1 (show p≤1000000 by omega),subN (show p - a≤b - 1 by omega) (show b - 1≤1000000 by omega),qAA]
  exact j2 s4 l4 _ 1 lim wp w1 (q2.trans w2) (k3.trans w3) (by omega) (by omega) q6
 simp only [qAe,qAZ,Bool.false_bne,qAA]
 refine qAC (λ_=>?_) (λhz=>?_)
 ·exact zADA h1 (by omega) (by omega) (by omega) (by omega) λs2 l2 q1 q2 q3 q4=>fin s2 l2 q1 q2 q3 q4
 have hz:lim≠0:=λe=>by rw [e] at hz;cases hz
 simp only [qAs,qAA]
 refine qAC (λ_=>?_) (λ_=>j1 t l1 lim h1 (.refl _ _ _) (.refl _ _) c4)
 refine zAAZ h1 (by omega) hl hs (by omega) λs2 l2 q1 q2 q3=>?_
 simp only [sub1 (show 1≤lim by omega) (show lim≤1000000 by omega),qAA]
 exact j1 s2 l2 _ q1 q2 q3 (by omega)
theorem zABs {K:AV→Hq→Prop} (h:UAt s db l) (hl:l.length≤255) (hK:∀ s' l',UAt s' db l'→l'.Perm l→Asc 0 l'.length l'→KB db s s'→K (.tup []) s'):wC Tryz.prog XX 38 [uV db l.length] K s:=by
 refine qDt ?_
 have e1:qAS (uV db l.length)=some l.length:=rfl
 simp only [qCJ,e1,qQ4 (show l.length < 9223372036854775808 by omega),qAA]
 refine qYW (by omega) λt t1 _ _=>?_
 refine zAEy l.length hl l.length 0 l.length t l _ s (by omega) h rfl (by omega) (Nat.le_refl _) (by omega) (λh0=>absurd h0 (by omega)) λs2 l2 q1 q2 q3 q4=>?_
 exact hK s2 l2 q1 q2.perm (by rw [q2.len];exact q3) q4
end Go.AM.SG
namespace Go.AM.SG
open Go Go.AM Go.Proofs
section
variable (P : Program)
def cFs (df:TypeId→AV→AV→Bool) (xs ys:List AV):List Field→Bool
 | []=>true
 | f :: fs=>cond (f.name == "_") (cFs df xs ys fs) (match qFP P f.type xs f.offset,qFP P f.type ys f.offset with
   | some x,some y=>df f.type x y&&cFs df xs ys fs
   | _,_=>false)
def cEls (df:TypeId→AV→AV→Bool) (elem:TypeId) (n:Nat) (xs ys:List AV):Nat→Nat→Bool
 | 0,_=>true
 | len+1,i=>match qFP P elem xs (i * n),qFP P elem ys (i * n) with
   | some x,some y=>df elem x y&&cEls df elem n xs ys len (i+1)
   | _,_=>false
def cDef:Nat→TypeId→AV→AV→Bool
 | 0,_,_,_=>false
 | d+1,t,x,y=>match P.underlying t,x,y with
   | some .bool,.bool _,.bool _=>true
   | some (.int _),.int k _,.int k' _=>qBx k k'
   | some (.struct fields),.agg xs,.agg ys=>cond (P.stoodInHeld t) false (cFs P (cDef d) xs ys fields.toList)
   | some (.array len elem),.agg xs,.agg ys=>match sz P elem with
     | some n=>cEls P (cDef d) elem n xs ys len 0
     | none=>false
   | _,_,_=>false
variable {P}
theorem qYm {eq:TypeId→AV→AV→Option Bool} {df:TypeId→AV→AV→Bool} (h:∀ t x y,df t x y=true→∃ b,eq t x y=some b∧(x=y→b=true)) {xs ys:List AV}:∀ {fs:List Field},cFs P df xs ys fs=true→∃ b,eqFields P eq xs ys fs=some b∧(xs=ys→b=true)
 | [],_=>⟨true,rfl,λ_=>rfl⟩
 | f :: fs,q=>by
   unfold cFs at q
   unfold eqFields
   cases c:(f.name == "_") with
   | true=>rw [c] at q;exact qYm h q
   | false=>
     rw [c] at q
     simp only [cond_false] at q ⊢
     cases e:qFP P f.type xs f.offset with
     | none=>rw [e] at q;cases q
     | some x=>
       cases e2:qFP P f.type ys f.offset with
       | none=>rw [e,e2] at q;cases q
       | some y=>
         rw [e,e2] at q
         simp only [Bool.and_eq_true] at q
         obtain ⟨b,h1,h2⟩:=h _ _ _ q.1
         simp only [h1]
         have hxy:xs=ys→x=y:=λw=>by subst w;rw [e] at e2;exact Option.some.inj e2
         cases b with
         | true=>exact qYm h q.2
         | false=>exact ⟨false,rfl,λw=>h2 (hxy w)⟩
theorem qYF {eq:TypeId→AV→AV→Option Bool} {df:TypeId→AV→AV→Bool} (h:∀ t x y,df t x y=true→∃ b,eq t x y=some b∧(x=y→b=true)) {elem:TypeId} {n:Nat} {xs ys:List AV}:∀ {len i:Nat},cEls P df elem n xs ys len i=true→∃ b,qK4 P eq elem n xs ys len i=some b∧(xs=ys→b=true)
 | 0,_,_=>⟨true,rfl,λ_=>rfl⟩
 | len+1,i,q=>by
   unfold cEls at q
   unfold qK4
   cases e:qFP P elem xs (i * n) with
   | none=>rw [e] at q;cases q
   | some x=>
     cases e2:qFP P elem ys (i * n) with
     | none=>rw [e,e2] at q;cases q
     | some y=>
       rw [e,e2] at q
       simp only [Bool.and_eq_true] at q
       obtain ⟨b,h1,h2⟩:=h _ _ _ q.1
       simp only [h1]
       have hxy:xs=ys→x=y:=λw=>by subst w;rw [e] at e2;exact Option.some.inj e2
       cases b with
       | true=>exact qYF h q.2
       | false=>exact ⟨false,rfl,λw=>h2 (hxy w)⟩
theorem qUY:∀ (d:Nat) (t:TypeId) (x y:AV),cDef P d t x y=true→∃ b,aEq P d t x y=some b∧(x=y→b=true)
 | 0,_,_,_,h=>by cases h
 | d+1,t,x,y,h=>by
   unfold cDef at h
   unfold aEq
   split at h
   ·rename_i a b hu
    rw [hu]
    exact ⟨_,rfl,λe=>by cases e;simp⟩
   ·rename_i k0 k a k' b hu
    rw [hu]
    simp only [h,cond_true]
    exact ⟨_,rfl,λe=>by cases e;rw [qFt];simp⟩
   ·rename_i fields xs ys hu
    rw [hu]
    simp only
    cases c:P.stoodInHeld t with
    | true=>rw [c] at h;cases h
    | false=>
      rw [c] at h
      simp only [cond_false] at h ⊢
      obtain ⟨b,h1,h2⟩:=qYm (qUY d) h
      exact ⟨b,h1,λe=>h2 (by cases e;rfl)⟩
   ·rename_i len elem xs ys hu
    rw [hu]
    simp only
    cases c:sz P elem with
    | none=>rw [c] at h;cases h
    | some n=>
      rw [c] at h
      simp only at h ⊢
      obtain ⟨b,h1,h2⟩:=qYF (qUY d) h
      exact ⟨b,h1,λe=>h2 (by cases e;rfl)⟩
   ·cases h
theorem qR6 {t:TypeId} {xs ys:List AV} (h:cDef P 30 t (.agg xs) (.agg ys)=true):∃ b,qGQ P t (.agg xs) (.agg ys)=some b∧(xs=ys→b=true):=by
 obtain ⟨b,h1,h2⟩:=qUY 30 t _ _ h
 exact ⟨b,h1,λe=>h2 (by rw [e])⟩
theorem qQM {t:TypeId} {xs:List AV} (h:cDef P 30 t (.agg xs) (.agg xs)=true):qGQ P t (.agg xs) (.agg xs)=some true:=by
 obtain ⟨b,h1,h2⟩:=qR6 h
 rw [h1,h2 rfl]
end
theorem zAGX (x y z w:Int):qGQ Tryz.prog 187 (.agg [.int .u8 x,.int .u8 y]) (.agg [.int .u8 z,.int .u8 w])=some (decide (x=z∧y=w)):=by
 have:qGQ Tryz.prog 187 (.agg [.int .u8 x,.int .u8 y]) (.agg [.int .u8 z,.int .u8 w])=cond (eqI x z) (cond (eqI y w) (some true) (some false)) (some false):=by kernel_rfl
 rw [this,qFt,qFt]
 by_cases h1:x=z
 ·by_cases h2:y=w
  ·simp [h1,h2]
  ·have e2:(y == w)=false:=beq_eq_false_iff_ne.2 h2
   simp [h1,h2,e2]
 ·have e1:(x == z)=false:=beq_eq_false_iff_ne.2 h1
  simp [h1,e1]
end Go.AM.SG
namespace Go.AM.SG
open Go Go.AM Go.Proofs
variable {K : AV → Hq → Prop} {s s' s0 : Hq} {lv : AV}
structure Cm where
 (b0 b1 b2 b3 b4 b5 b6 b7:Nat)
def Cm.ok (c:Cm):Prop:=c.b0 < 256∧c.b1 < 256∧c.b2 < 256∧c.b3 < 256∧c.b4 < 256∧c.b5 < 256∧c.b6 < 256∧c.b7 < 256
abbrev u8 (n:Nat):AV:=.int .u8 (n:Int)
def cmR (c:Cm):List AV:=[u8 c.b0,u8 c.b1,u8 c.b2,u8 c.b3,u8 c.b4,u8 c.b5,u8 c.b6,u8 c.b7]
abbrev heads:List (Nat × Nat):=[(0,2),(3,12),(6,0),(6,1),(6,2),(6,3),(6,6)]
abbrev hdN (i:Nat):Nat × Nat:=heads.getD i (0,0)
def qKm (c:Cm):Nat:=match heads.findIdx? λh=>decide (h.1=c.b0∧h.2=c.b1) with
 | some i=>i+1
 | none=>0
theorem zAC0 {c:Cm} {i:Nat} (hi:i < 7) (h:(hdN i).1=c.b0∧(hdN i).2=c.b1) (hn:∀ j,j < i→¬((hdN j).1=c.b0∧(hdN j).2=c.b1)):qKm c=i+1:=by
 unfold qKm
 have:heads.findIdx? (λh=>decide (h.1=c.b0∧h.2=c.b1))=some i:=by
  rw [List.findIdx?_eq_some_iff_getElem]
  have e:∀ j (hj:j < heads.length),heads[j]=hdN j:=λj hj=>by
   show heads[j]=heads[j]?.getD (0,0)
   rw [List.getElem?_eq_getElem hj];rfl
  refine ⟨hi,?_,λj hj=>?_⟩
  ·rw [e];simpa using h
  ·rw [e];simpa using hn j hj
 rw [this]
theorem zAEg {c:Cm} (hn:∀ j,j < 7→¬((hdN j).1=c.b0∧(hdN j).2=c.b1)):qKm c=0:=by
 unfold qKm
 have:heads.findIdx? (λh=>decide (h.1=c.b0∧h.2=c.b1))=none:=by
  rw [List.findIdx?_eq_none_iff]
  intro h hh
  obtain ⟨j,hj,rfl⟩:=List.mem_iff_getElem.1 hh
  have e:heads[j]=hdN j:=by
   show heads[j]=heads[j]?.getD (0,0)
   rw [List.getElem?_eq_getElem hj];rfl
  rw [e]
  simpa using hn j hj
 rw [this]
theorem qTK {i:Nat} (hi:i < 7):qLo 7 3 (some 3) (.agg kindsL) (.int .i64 (i:Int))=some (.agg [.int .i64 ((i+1:Nat):Int),u8 (hdN i).1,u8 (hdN i).2]):=by
 have:i=0∨i=1∨i=2∨i=3∨i=4∨i=5∨i=6:=by omega
 rcases this with rfl | rfl | rfl | rfl | rfl | rfl | rfl <;> rfl
def GlK (s:Hq):Prop:=∃ t,s 0=some (t,.glob 0 (.agg kindsL))
theorem GlK.sub (h:GlK s) (k:Sub s s'):GlK s':=by
 obtain ⟨t,h⟩:=h
 exact ⟨t,k _ _ h⟩
theorem GlK.rd (h:GlK s):gldN s 21 0=some kindsL:=by
 obtain ⟨t,h⟩:=h
 unfold gldN
 rw [h]
 rfl
def zAGT (s0:Hq) (c:Cm) (b:Nat):List AV→Hq→Nat→Prop:=λys t m=>
 ∃ i:Nat,ys=[.int .i64 (i:Int)]∧i≤7∧Sub s0 t∧(∃ w,t b=some (w,.cells 104 (cmR c)))∧(∀ j,j < i→¬((hdN j).1=c.b0∧(hdN j).2=c.b1))∧m=7 - i
theorem zADW {c:Cm} (h:GlK s) (hK:∀ s',Sub s s'→K (.int .i64 (qKm c:Int)) s'):wC Tryz.prog XX 115 [.agg (cmR c)] K s:=by
 refine qOI ⟨rfl,qAJ λb s1 hb h1 u1=>?_⟩
 have sub1:=u1.sub hb
 simp only [(h.sub sub1).rd,qAA]
 refine ⟨zAGT s c b,⟨_,0,rfl,by omega,sub1,⟨_,h1⟩,λj hj=>by omega,rfl⟩,?_⟩
 rintro e t m ⟨i,hy,hi,st,⟨w,hw⟩,hn,rfl⟩
 simp only [List.cons.injEq,and_true] at hy
 rw [hy]
 simp only [qJk,qAM,qAA]
 refine qAC (λhlt=>?_) (λhge=>?_)
 rotate_left
 ·have:i=7:=by have:=of_decide_eq_false hge;omega
  subst this
  have:=hK t st
  rw [zAEg hn] at this
  exact this
 have hlt:i < 7:=by have:=of_decide_eq_true hlt;omega
 simp only [qTK hlt,qAA]
 refine qAJ λg s2 hg h2 u2=>?_
 refine qAR h2 rfl rfl rfl λs3 h3 u3=>?_
 have sub3:Sub t s3:=λj e hj=>by
  have ne:=qBe hg hj
  rw [u3 j ne,u2 j ne];exact hj
 have r1:rdN s3 2 (.ptr g 1)=some [u8 (hdN i).1,u8 (hdN i).2]:=by simp only [rdN,h3];rfl
 have hb3:=sub3 _ _ hw
 have r2:qG4 s3 8 1 (.ptr b 0) none (some (.int .i64 2)) none=some (.slc b 0 2 (some 8) 1):=by simp only [qG4,hb3];rfl
 have r3:zABN 2 (.slc b 0 2 (some 8) 1)=some (.ptr b 0):=rfl
 have r4:rdN s3 2 (.ptr b 0)=some [u8 c.b0,u8 c.b1]:=by simp only [rdN,hb3];rfl
 have r5:rd1 s3 (.ptr g 0)=some (.int .i64 ((i+1:Nat):Int)):=by rw [qAO h3];rfl
 simp only [qAG,Nat.zero_add,r1,r2,r3,r4,r5,zAGX,qAZ,Bool.false_bne,qAA]
 have ec:decide (((hdN i).1:Int)=(c.b0:Int)∧((hdN i).2:Int)=(c.b1:Int))=decide ((hdN i).1=c.b0∧(hdN i).2=c.b1):=by
  simp only [Int.natCast_inj]
 rw [ec]
 refine qAC (λhc=>?_) (λhc=>?_)
 ·have:=hK s3 (st.trans sub3)
  rw [zAC0 hlt (of_decide_eq_true hc) hn] at this
  exact this
 ·have hc:=of_decide_eq_false hc
  simp only [add1 (show i≤1000000 by omega),qAA]
  refine ⟨_,by omega,i+1,rfl,by omega,st.trans sub3,⟨w,hb3⟩,λj hj=>?_,rfl⟩
  by_cases e:j=i
  ·rw [e];exact hc
  ·exact hn j (by omega)
end Go.AM.SG
namespace Go.AM.SG
open Go Go.AM Go.Proofs
variable {K : AV → Hq → Prop} {s s' s0 : Hq} {v lv : AV} {c : Cm} {l : List Cm}
def cb (c:Cm):List Nat:=[c.b0,c.b1,c.b2,c.b3,c.b4,c.b5,c.b6,c.b7]
theorem zAGZ (h:c.ok):∀ x∈cb c,x < 256:=λx hx=>by
 obtain ⟨h0,h1,h2,h3,h4,h5,h6,h7⟩:=h
 simp only [cb,List.mem_cons,List.not_mem_nil,or_false] at hx
 rcases hx with rfl | rfl | rfl | rfl | rfl | rfl | rfl | rfl <;> assumption
def nv (l:List Nat):Nat:=l.foldl (λn x=>n * 256+x) 0
theorem zADK {l:List Nat} {x:Nat}:nv (l ++ [x])=nv l * 256+x:=by simp [nv,List.foldl_append]
theorem zAHB:∀ {l:List Nat},(∀ x∈l,x < 256)→nv l < 256 ^ l.length:=by
 have key:∀ (l:List Nat) (a:Nat),(∀ x∈l,x < 256)→l.foldl (λn x=>n * 256+x) a < (a+1) * 256 ^ l.length:=by
  intro l
  induction l with
  | nil=>intro a _;simp
  | cons x l ih=>
    intro a h
    have:=ih (a * 256+x) λy hy=>h y (List.mem_cons_of_mem _ hy)
    have hx:=h x List.mem_cons_self
    have e:(a * 256+x+1) * 256 ^ l.length≤((a+1) * 256) * 256 ^ l.length:=Nat.mul_le_mul_right _ (by omega)
    rw [List.foldl_cons,List.length_cons,Nat.pow_succ',← Nat.mul_assoc]
    exact Nat.lt_of_lt_of_le this e
 intro l h
 have:=key l 0 h
 simpa [nv] using this
theorem zAB2 {l:List Nat} (h:∀ x∈l,x < 256) (hl:l.length≤6):nv l < 281474976710656:=
 Nat.lt_of_lt_of_le (zAHB h) (Nat.pow_le_pow_right (n:=256) (by omega) hl)
theorem digit {a x:Nat} (ha:a < 281474976710656) (hx:x < 256):qBk .shl (.int .u64 (a:Int)) (.int .u64 8)=some (.int .u64 ((a * 256:Nat):Int))∧qBf .u64 (u8 x)=some (.int .u64 (x:Int))∧qAB .or (.int .u64 ((a * 256:Nat):Int)) (.int .u64 (x:Int))=some (.int .u64 ((a * 256+x:Nat):Int))∧qAB .add (.int .u64 ((a * 256:Nat):Int)) (.int .u64 (x:Int))=some (.int .u64 ((a * 256+x:Nat):Int)):=
 ⟨zAEh (by omega),qZQ hx,zAFj hx (by omega),zADE (by omega)⟩
def NumI (t0:Hq) (c:Cm):List AV→Hq→Nat→Prop:=λys t m=>
 ∃ i:Nat,ys=[.int .u64 ((nv (((cb c).drop 6).take i):Nat):Int),.int .i64 (i:Int)]∧i≤2∧t=t0∧m=2 - i
theorem zAFd (hc:c.ok) (hK:∀ s',Sub s s'→K (.int .u64 ((c.b6 * 256+c.b7:Nat):Int)) s'):wC Tryz.prog XX 73 [.agg (cmR c),.int .i64 6,.int .i64 2] K s:=by
 refine qMy ⟨rfl,qAJ λb s1 hb h1 u1=>?_⟩
 have h1:s1 b=some (false,.cells 104 ((cb c).map u8)):=h1
 have sub1:=u1.sub hb
 refine qAF (a:=.int .i64 8) rfl ?_
 have r2:qG4 s1 8 1 (.ptr b 0) (some (.int .i64 6)) (some (.int .i64 8)) none=some (.slc b 6 2 (some 2) 1):=by simp only [qG4,h1];rfl
 have r3:qAS (.slc b 6 2 (some 2) 1)=some 2:=rfl
 simp only [r2,r3,qAA]
 refine ⟨NumI s1 c,⟨_,0,rfl,by omega,rfl,rfl⟩,?_⟩
 rintro e t m ⟨i,hy,hi,rfl,rfl⟩
 simp only [List.cons.injEq,and_true] at hy
 rw [hy.1,hy.2]
 have e2:((2:Nat):Int)=2:=rfl
 simp only [qH9,e2,qAM,qAA]
 refine qAC (λhlt=>?_) (λhge=>?_)
 rotate_left
 ·have:i=2:=by have:=of_decide_eq_false hge;omega
  subst this
  have:=hK t sub1
  simpa [nv,cb] using this
 have hlt:i < 2:=by have:=of_decide_eq_true hlt;omega
 have hx:=zAGZ hc
 have hlen:((cb c).drop 6).length=2:=rfl
 have hd:((cb c).drop 6).take (i+1)=((cb c).drop 6).take i ++ [((cb c).drop 6)[i]]:=by
  rw [List.take_add_one,List.getElem?_eq_getElem (by rw [hlen];exact hlt)];rfl
 generalize hxv:((cb c).drop 6)[i]=x at hd
 have hxm:x < 256:=hx x (by rw [← hxv];exact List.mem_of_mem_drop (List.getElem_mem _))
 have a1:qAH 1 (.slc b 6 2 (some 2) 1) (.int .i64 (i:Int))=some (.ptr b (6+i)):=by
  have:Nat.blt i 2=true:=by rw [Nat.blt_eq];exact hlt
  simp [qAH,this]
 have r1:rd1 t (.ptr b (6+i))=some (u8 x):=by
  rw [qAO h1,List.getElem?_map]
  have:(cb c)[6+i]?=some x:=by
   rw [← hxv,← List.getElem?_drop]
   exact List.getElem?_eq_getElem (by rw [hlen];exact hlt)
  rw [this];rfl
 obtain ⟨q1,q2,q3,_⟩:=digit (zAB2 (l:=((cb c).drop 6).take i) (λy hy=>hx y (List.mem_of_mem_drop (List.mem_of_mem_take hy))) (by rw [List.length_take,hlen];omega)) hxm
 simp only [a1,r1,q1,q2,q3,add1 (show i≤1000000 by omega),qAA]
 exact ⟨_,by omega,i+1,by rw [hd,zADK],by omega,rfl,rfl⟩
theorem zAFw {g:Nat} (hc:c.ok) (hg:∃ x,s g=some (false,.cells 3 [x])) (hK:∀ s',KB g s s'→s' g=some (false,.cells 3 [.int .i64 ((c.b6 * 256+c.b7:Nat):Int)])→K (.int .i64 ((c.b2 % 32:Nat):Int)) s') :
  funK Tryz.prog XX (.fn (.func 72) [] [.ptr g 0]) [.agg (cmR c)] K s:=by
 refine ⟨by kernel_rfl,?_⟩
 show wC Tryz.prog XX 72 [.agg (cmR c),.ptr g 0] K s
 refine qIc ⟨rfl,qAJ λb s1 hb h1 u1=>?_⟩
 have sub1:=u1.sub hb
 have r1:rdN s1 8 (.ptr b 0)=some (cmR c):=qAW h1 rfl
 simp only [r1,qAA]
 refine zAFd hc λs2 sub2=>?_
 obtain ⟨x,hg⟩:=hg
 have hne:b≠g:=λe=>by rw [e,hg] at hb;cases hb
 have hb2:=sub2 _ _ h1
 have hg2:=sub2 _ _ (sub1 _ _ hg)
 obtain ⟨c0,c1,c2,c3,c4,c5,c6,c7⟩:=hc
 simp only [qVO (show c.b6 * 256+c.b7 < 9223372036854775808 by omega),qAA]
 refine qBv hg2 Nat.zero_lt_one rfl λs3 h3 u3=>?_
 have i2:qHA 8 1 (.ptr b 0) (.int .i64 2)=some (.ptr b 2):=rfl
 have r3:rd1 s3 (.ptr b 2)=some (u8 c.b2):=by rw [qAO (by rw [u3 b hne];exact hb2)];rfl
 have e1:qAB .and (u8 c.b2) (.int .u8 31)=some (.int .u8 ((c.b2 % 32:Nat):Int)):=zAFB (k:=5) (m:=31) c2 rfl (by omega)
 simp only [i2,r3,e1,qVO (show c.b2 % 32 < 9223372036854775808 by omega),qAA]
 exact hK s3 ((sub1.trans sub2).keep.trans (u3.keep rfl)) h3
def elN (l:List Cm):Nat × Nat × Bool:=match l.find? λc=>qKm c == 7 with
 | some c=>(c.b2 % 32,c.b6 * 256+c.b7,true)
 | none=>(0,0,false)
theorem zAG6 {i:Nat} (hi:l[i]?=some c) (hc:qKm c=7) (hn:∀ d∈l.take i,qKm d≠7):elN l=(c.b2 % 32,c.b6 * 256+c.b7,true):=by
 unfold elN
 have:l.find? (λc=>qKm c == 7)=some c:=by
  obtain ⟨hlt,he⟩:=List.getElem?_eq_some_iff.1 hi
  have hs:l=l.take i ++ c :: l.drop (i+1):=by
   rw [← he,List.getElem_cons_drop,List.take_append_drop]
  rw [hs,List.find?_append,List.find?_eq_none.2 λd hd=>by simpa using hn d hd]
  simp [hc]
 rw [this]
theorem zAGK (hn:∀ d∈l,qKm d≠7):elN l=(0,0,false):=by
 unfold elN
 rw [List.find?_eq_none.2 λd hd=>by simpa using hn d hd]
def FirI (s0:Hq) (l:List Cm):List AV→Hq→Nat→Prop:=λys t m=>
 ∃ i:Nat,ys=[.int .i64 (i:Int)]∧i≤l.length∧Sub s0 t∧(∀ d∈l.take i,qKm d≠7)∧m=l.length - i
theorem zAEN {i:Nat} (hi:l[i]?=some c) (hc:qKm c≠7) (hn:∀ d∈l.take i,qKm d≠7):∀ d∈l.take (i+1),qKm d≠7:=λd hd=>by
 rw [List.take_add_one,hi] at hd
 rcases List.mem_append.1 hd with q | q
 ·exact hn d q
 ·have:d=c:=by simpa using q
  rw [this];exact hc
theorem zAA9 {g:Nat} (h:SlR 8 s v (l.map cmR)) (hG:GlK s) (hg:s g=some (false,.cells 3 [.int .i64 0])) (hok:∀ c∈l,c.ok) (hl:l.length≤1000)
  (hK:∀ s',KB g s s'→s' g=some (false,.cells 3 [.int .i64 ((elN l).2.1:Int)])→K (.tup [.int .i64 ((elN l).1:Int),.bool (elN l).2.2]) s'):wC Tryz.prog XX 71 [v,.int .i64 7,.fn (.func 72) [] [.ptr g 0]] K s:=by
 refine qJu ?_
 simp only [qFB,h.len,List.length_map,qAA]
 refine ⟨FirI s l,⟨_,0,rfl,by omega,.refl _,by simp,rfl⟩,?_⟩
 rintro e t m ⟨i,hy,hi,st,hn,rfl⟩
 simp only [List.cons.injEq,and_true] at hy
 rw [hy]
 simp only [qF2,qAM,qAA]
 refine qAC (λhlt=>?_) (λhge=>?_)
 rotate_left
 ·have:i=l.length:=by have:=of_decide_eq_false hge;omega
  subst this
  rw [List.take_length] at hn
  have:=hK t st.keep (by rw [zAGK hn];exact st _ _ hg)
  rw [zAGK hn] at this
  exact this
 have hlt:i < l.length:=by have:=of_decide_eq_true hlt;omega
 obtain ⟨c,hci⟩:∃ c,l[i]?=some c:=⟨_,List.getElem?_eq_getElem hlt⟩
 have hcm:=List.mem_of_getElem? hci
 obtain ⟨pb,po,e1,e2,_⟩:=(h.sub st).get (i:=i) (r:=cmR c) (by rw [List.getElem?_map,hci];rfl)
 simp only [e1,e2,qAA]
 refine qAJ λb s2 hb h2 u2=>?_
 refine qAR h2 rfl rfl rfl λs3 h3 u3=>?_
 have sub3:Sub t s3:=λj e hj=>by
  have ne:=qBe hb hj
  rw [u3 j ne,u2 j ne];exact hj
 have r1:rdN s3 8 (.ptr b 0)=some (cmR c):=qAW h3 rfl
 simp only [r1,qAA]
 refine zADW (hG.sub (st.trans sub3)) λs4 sub4=>?_
 have st4:=(st.trans sub3).trans sub4
 simp only [qAe,qAZ,Bool.false_bne,qAA]
 refine qAC (λhk=>?_) (λhk=>?_)
 ·have hk:qKm c=7:=by have:=eq_of_beq hk;omega
  have r2:rdN s4 8 (.ptr b 0)=some (cmR c):=qAW (sub4 _ _ h3) rfl
  simp only [r2,qAA]
  refine zAFw (hok c hcm) ⟨_,st4 _ _ hg⟩ λs5 k5 h5=>?_
  have e:=zAG6 hci hk hn
  have:=hK s5 (st4.keep.trans k5) (by rw [e];exact h5)
  rw [e] at this
  exact this
 ·have hk:qKm c≠7:=λe=>by rw [e] at hk;cases hk
  simp only [add1 (show i≤1000000 by omega),qAA]
  exact ⟨_,by omega,i+1,rfl,by omega,st4,zAEN hci hk hn,rfl⟩
theorem zAAc (h:SlR 8 s v (l.map cmR)) (hG:GlK s) (hok:∀ c∈l,c.ok) (hl:l.length≤1000) (hK:∀ s',Sub s s'→K (.tup [.int .i64 ((elN l).1:Int),.int .i64 ((elN l).2.1:Int),.bool (elN l).2.2]) s'):wC Tryz.prog XX 44 [v] K s:=by
 refine qJY (qAJ λg s1 hg h1 u1=>?_)
 have sub1:=u1.sub hg
 refine zAA9 (h.sub sub1) (hG.sub sub1) h1 hok hl λs2 k2 h2=>?_
 have x0:∀ x y:AV,qAX (.tup [x,y]) 0=some x:=λ_ _=>rfl
 have x1:∀ x y:AV,qAX (.tup [x,y]) 1=some y:=λ_ _=>rfl
 have r1:rd1 s2 (.ptr g 0)=some (.int .i64 ((elN l).2.1:Int)):=by rw [qAO h2];rfl
 simp only [x0,x1,r1,qAA]
 refine qBv h2 Nat.zero_lt_one rfl λs3 h3 u3=>?_
 have h3:s3 g=some (false,.cells 3 [.int .i64 ((elN l).2.1:Int)]):=h3
 have r2:rd1 s3 (.ptr g 0)=some (.int .i64 ((elN l).2.1:Int)):=by rw [qAO h3];rfl
 simp only [r2,qAA]
 refine hK s3 λi e hi=>?_
 have ne:=qBe hg hi
 rw [u3 i ne]
 exact k2 i e (sub1 i e hi) ne
end Go.AM.SG
namespace Go.AM.SG
open Go Go.AM Go.Proofs
variable {K : AV → Hq → Prop} {s s' s0 : Hq} {v w p q m p' q' m' : AV}
structure Es where
 (x0 x1 x2 x3 x4 x5 x6 x7 x8 x9:Int)
def Es.R (x:Es):List AV:=[.int .u8 x.x0,.int .u8 x.x1,.int .u8 x.x2,.int .u8 x.x3,.int .u8 x.x4,.int .u8 x.x5,.int .u8 x.x6,.int .u8 x.x7,.int .u8 x.x8,.int .u8 x.x9]
structure Rt where
 (kd rd:Int) (es:Es) (tag mac ip:Int) (hip:Bool) (px pl gw la lb og nx:Int) (hm:Bool) (md:Int) (hp:Bool) (pf:Int) (ho:Bool) (orr tk tl tr tg pe:Int) (st:Bool)
 (path cl:List Int) (cm:List Cm)
def Rt.N (r:Rt):List AV:=.int .i64 r.kd :: .int .u64 r.rd :: (r.es.R ++ [.int .u32 r.tag,.int .u64 r.mac,.int .u32 r.ip,.bool r.hip,.int .u32 r.px,.int .i64 r.pl,.int .u32 r.gw,.int .u32 r.la,.int .u32 r.lb])
def Rt.T (r:Rt):List AV:=[.int .i64 r.tk,.int .u32 r.tl,.int .u32 r.tr,.int .u32 r.tg]
def Rt.A (r:Rt) (p q m:AV):List AV:=[.int .i64 r.og,p,.int .u32 r.nx,.bool r.hm,.int .u32 r.md,.bool r.hp,.int .u32 r.pf,.bool r.ho,.int .u32 r.orr,q,m,.int .i64 r.tk,.int .u32 r.tl,.int .u32 r.tr,.int .u32 r.tg]
def Rt.row (r:Rt) (p q m:AV):List AV:=r.N ++ (r.A p q m ++ [.int .u32 r.pe,.bool r.st])
theorem Rt.row_len (r:Rt):(r.row p q m).length=38:=rfl
theorem Rt.row_one (r:Rt) (h1:p.one=true) (h2:q.one=true) (h3:m.one=true):qAY (r.row p q m)=true:=by
 show (p.one&&(q.one&&(m.one&&true)))=true
 rw [h1,h2,h3];rfl
structure RtAt (s:Hq) (r:Rt) (p q m:AV):Prop where
 pa:Sl s p (us r.path)
 cl:Sl s q (us r.cl)
 cm:SlR 8 s m (r.cm.map cmR)
theorem RtAt.sub {r:Rt} (h:RtAt s r p q m) (k:Sub s s'):RtAt s' r p q m:=⟨h.pa.sub k,h.cl.sub k,h.cm.sub k⟩
theorem RtAt.one {r:Rt} (h:RtAt s r p q m):qAY (r.row p q m)=true:=r.row_one h.pa.one h.cl.one h.cm.one
structure Frs (s:Hq) (r:Rt) (p q m:AV):Prop where
 pa:∀ i o n c,p=.slc i o n c 1→us r.path≠[]→s i=none
 cl:∀ i o n c,q=.slc i o n c 1→us r.cl≠[]→s i=none
 cm:∀ i o n c,m=.slc i o n c 8→r.cm.map cmR≠[]→s i=none
theorem Frs.old {r:Rt} (h:Frs s' r p q m) (k:Sub s s'):Frs s r p q m:=
 ⟨λi o n c e z=>qCF k (h.pa i o n c e z),λi o n c e z=>qCF k (h.cl i o n c e z),λi o n c e z=>qCF k (h.cm i o n c e z)⟩
theorem RtAt.keep {r:Rt} {fp:Nat→Prop} (h:RtAt s r p q m) (kb:qAa fp s s') (hf:Frs s0 r p q m) (hp:∀ i,fp i→s0 i≠none):RtAt s' r p q m:=
 ⟨h.pa.keep kb λi o n c e z w=>hp i w (hf.pa i o n c e z),h.cl.keep kb λi o n c e z w=>hp i w (hf.cl i o n c e z),h.cm.keep kb λi o n c e z w=>hp i w (hf.cm i o n c e z)⟩
def Rt.ok (r:Rt):Prop:=(∀ c∈r.cm,c.ok)∧r.path.length≤20∧r.cl.length≤20∧r.cm.length≤20
def Rts (s:Hq) (v:AV) (R:List Rt):Prop:=∃ rows:List (List AV),SlR 38 s v rows∧rows.length=R.length∧∀ (i:Nat) (r:Rt),R[i]?=some r→∃ p q m,rows[i]?=some (r.row p q m)∧RtAt s r p q m
theorem Rts.sub {R:List Rt} (h:Rts s v R) (k:Sub s s'):Rts s' v R:=by
 obtain ⟨rows,h1,h2,h3⟩:=h
 refine ⟨rows,h1.sub k,h2,λi r hi=>?_⟩
 obtain ⟨p,q,m,q1,q2⟩:=h3 i r hi
 exact ⟨p,q,m,q1,q2.sub k⟩
theorem Rts.len {R:List Rt} (h:Rts s v R):qAS v=some R.length:=by
 obtain ⟨rows,h1,h2,_⟩:=h
 rw [h1.len,h2]
theorem Rts.get {R:List Rt} (h:Rts s v R) {i:Nat} {r:Rt} (hi:R[i]?=some r):∃ b o p q m,qAH 38 v (.int .i64 (i:Int))=some (.ptr b o)∧rdN s 38 (.ptr b o)=some (r.row p q m)∧(∀ j,j < 38→rd1 s (.ptr b (o+j))=(r.row p q m)[j]?)∧RtAt s r p q m:=by
 obtain ⟨rows,h1,h2,h3⟩:=h
 obtain ⟨p,q,m,q1,q2⟩:=h3 i r hi
 obtain ⟨b,o,e1,e2,e3⟩:=h1.get q1
 exact ⟨b,o,p,q,m,e1,e2,e3,q2⟩
def eqE (P:Program) (x y:Es):Bool:=match qGQ P 27 (.agg x.R) (.agg y.R) with
 | some b=>b
 | none=>false
theorem qZL (x y:Es):qGQ Tryz.prog 27 (.agg x.R) (.agg y.R)=some (eqE Tryz.prog x y):=by
 obtain ⟨b,h,_⟩:=qR6 (by kernel_rfl:cDef Tryz.prog 30 27 (.agg x.R) (.agg y.R)=true)
 unfold eqE
 rw [h]
def abt (P:Program) (x:Es) (r:Rt):Bool:=(r.kd == 4)&&eqE P r.es x
theorem qV0 {r:Rt} {x:Es} (h:RtAt s r p q m) (hK:∀ s',Sub s s'→K (.bool (abt Tryz.prog x r)) s'):wC Tryz.prog XX 37 [.agg (r.row p q m),.agg x.R] K s:=by
 refine qUQ ⟨h.one,qAJ λb s1 hb h1 u1=>⟨rfl,qAJ λg s2 hg h2 u2=>?_⟩⟩
 have sub2:=(u1.sub hb).trans (u2.sub hg)
 have hb2:=(u2.sub hg) _ _ h1
 have r0:rd1 s2 (.ptr b 0)=some (.int .i64 r.kd):=by rw [qAO hb2];rfl
 have r1:rdN s2 10 (.ptr b 2)=some r.es.R:=by simp only [rdN,hb2];rfl
 have r2:rdN s2 10 (.ptr g 0)=some x.R:=qAW h2 rfl
 simp only [qAG,Nat.zero_add,r0,r1,r2,qAe,qAZ,Bool.false_bne,qZL,qAA]
 have fin:=hK s2 sub2
 unfold abt at fin
 cases e:(r.kd == 4) with
 | true=>
   rw [e,Bool.true_and] at fin
   simp only [qAh,qIp,qAg,qAA]
   exact fin
 | false=>
   rw [e,Bool.false_and] at fin
   simp only [qAQ,qIp,qAf,qAA]
   exact fin
theorem SlR.addf {es:Nat} {s2:Hq} {rows:List (List AV)} (h:SlR es s2 v rows) (hs:Sub (AM.frz s) s2):SlR es (add s s2) v rows:=by
 refine ⟨h.1,?_⟩
 rcases h.2 with h | ⟨b,o,cap,h1,h2,h3⟩
 ·exact .inl h
 ·refine .inr ⟨b,o,cap,h1,h2,λhl=>?_⟩
  obtain ⟨t,e,cs,q1,q2⟩:=h3 hl
  cases hb:s b with
  | none=>exact ⟨t,e,cs,by rw [qBw hb];exact q1,q2⟩
  | some x=>
    obtain ⟨t',x⟩:=x
    have:=hs b _ (qKI hb)
    rw [q1] at this
    cases this
    exact ⟨t',e,cs,by rw [qBM hb],q2⟩
end Go.AM.SG
namespace Go.AM.SG
open Go Go.AM Go.Proofs
variable {K : AV → Hq → Prop} {s s' s0 t : Hq} {v w p q m p' q' m' : AV} {R : List Rt}
abbrev Qr:=Int × Nat × Nat × Bool
def cds (q:List Qr):List Cd:=q.map λx=>(x.1,(x.2.2.1:Int))
theorem zAES {q q':List Qr}:cds (q ++ q')=cds q ++ cds q':=by simp [cds]
theorem qRm {q:List Qr}:(cds q).length=q.length:=by simp [cds]
def pA:List Qr→Nat
 | []=>0
 | x :: _=>x.2.1
def pG (q:List Qr):Bool:=q.all λx=>x.2.2.2&&(x.2.1 == pA q)
theorem zAGB {q:List Qr} {x:Qr}:pA (q ++ [x])=if q=[] then x.2.1 else pA q:=by
 cases q <;> rfl
theorem zAFq {q:List Qr} {x:Qr}:pG (q ++ [x])=(pG q&&x.2.2.2&&(x.2.1 == pA (q ++ [x]))):=by
 unfold pG
 cases q with
 | nil=>simp [pA]
 | cons y q=>
   have e:pA (y :: q ++ [x])=pA (y :: q):=rfl
   rw [e,List.all_append,Bool.and_assoc]
   simp
def fin3 (g:Bool) (a:Int):Int:=if g=false∨a < 0∨3≤a then 0 else a
def rS (q:List Qr):Int × Bool:=q.foldl (λst x=>((x.2.1:Int),if x.2.2.2=false∨(0≤st.1∧(x.2.1:Int)≠st.1) then false else st.2)) (-1,true)
def qs (P:Program) (x:Es) (R:List Rt):List Qr:=(R.filter (abt P x)).map λr=>(r.nx,elN r.cm)
theorem qYq {P:Program} {x:Es} {i:Nat} {r:Rt} (h:R[i]?=some r):qs P x (R.take (i+1))=qs P x (R.take i) ++ (if abt P x r=true then [(r.nx,elN r.cm)] else []):=by
 unfold qs
 rw [List.take_add_one,h,List.filter_append,List.map_append]
 congr 1
 cases e:abt P x r <;> simp [e]
theorem qVM {P:Program} {x:Es}:(qs P x R).length≤R.length:=by
 unfold qs
 rw [List.length_map]
 exact List.length_filter_le _ _
end Go.AM.SG
namespace Go.AM.SG
open Go Go.AM Go.Proofs
variable {K : AV → Hq → Prop} {s s' s0 t : Hq} {v w p q m p' q' m' : AV} {R : List Rt} {x : Es}
theorem qUh (hK:∀ v s',Sub s s'→K v s'):wC Tryz.prog XX 50 [] K s:=by
 refine qIw (qAJ λb s1 hb h1 u1=>?_)
 refine qAF (a:=[.fn (.func 76) [] [],.fn (.func 77) [] [],.fn (.func 81) [] []]) rfl ?_
 refine qAR h1 rfl rfl rfl λs2 h2 u2=>?_
 have r1:rdN s2 3 (.ptr b 0)=some [.fn (.func 76) [] [],.fn (.func 77) [] [],.fn (.func 81) [] []]:=qAW h2 rfl
 simp only [r1,qAA]
 refine hK _ s2 λi e hi=>?_
 have ne:=qBe hb hi
 rw [u2 i ne,u1 i ne];exact hi
theorem qKW {zs c:List AV} (h:c.length=zs.length):qBO (repl 1 zs) [(0,zs.length,.agg c)]=some c:=by
 have e0:repl 1 zs=zs:=by simp [repl]
 rw [e0]
 have e2:Nat.beq c.length zs.length=true:=by rw [h];exact Nat.beq_refl _
 have e3:Nat.ble (0+c.length) zs.length=true:=Nat.ble_eq_true_of_le (by omega)
 simp only [qBO,qGx,e2,e3,Bool.and_self,cond_true]
 unfold qAq
 rw [List.take_zero,List.nil_append,List.drop_eq_nil_of_le (by omega),List.append_nil]
theorem zADj {n:Int} {k:Nat} {Q:List AV→Prop} (h:Q (cR (n,(k:Int)))):oK (qBO [(.int .u32 0),(.int .i64 0)] [(0,1,.int .u32 n),(1,1,.int .i64 (k:Int))]) Q:=qAF (a:=cR (n,(k:Int))) rfl h
def CanI (s1:Hq) (R:List Rt) (x:Es):List AV→Hq→Nat→Prop:=λys t m=>
 ∃ (i:Nat) (w:AV),ys=[w,.int .i64 ((pA (qs Tryz.prog x (R.take i)):Nat):Int),.bool (pG (qs Tryz.prog x (R.take i))),.int .i64 (i:Int)]∧CL s1 t w (cds (qs Tryz.prog x (R.take i)))∧Sub s1 t∧i≤R.length∧m=R.length - i
theorem qTj (h:Rts s v R) (hG:GlK s) (hok:∀ r∈R,r.ok) (hl:R.length≤100) (hK:∀ v' s',Sub s s'→SlR 2 s' v' ((qOR (cds (qs Tryz.prog x R))).map cR)→K (.tup [v',.int .i64 (fin3 (pG (qs Tryz.prog x R)) (pA (qs Tryz.prog x R)))]) s'):wC Tryz.prog XX 23 [v,.agg x.R] K s:=by
 refine qNl ⟨rfl,qAJ λeb s1 heb h1 u1=>?_⟩
 have sub1:=u1.sub heb
 have h:=h.sub sub1
 have hG:=hG.sub sub1
 simp only [h.len,qAA]
 refine ⟨CanI s1 R x,⟨_,0,_,rfl,⟨(λr h=>by cases h),.inl ⟨rfl,rfl⟩⟩,.refl _,by omega,rfl⟩,?_⟩
 rintro e t m ⟨i,w,hy,cl,st,hi,rfl⟩
 simp only [List.cons.injEq,and_true] at hy
 rw [hy.1,hy.2.1,hy.2.2.1,hy.2.2.2]
 clear hy
 generalize hq:qs Tryz.prog x (R.take i)=q at *
 have hql:q.length≤i:=by
  have:=qVM (R:=R.take i) (P:=Tryz.prog) (x:=x)
  rw [hq,List.length_take] at this
  omega
 have hcl:(cds q).length≤100:=by rw [qRm];omega
 simp only [qI7,qAM,qAA]
 refine qAC (λhlt=>?_) (λhge=>?_)
 rotate_left
 ·have:i=R.length:=by have:=of_decide_eq_false hge;omega
  rw [this,List.take_length] at hq
  rw [hq] at hK
  refine zABX cl st (by omega) λs2 l2 cl2 st2 e2 srt stb=>?_
  refine qUV cl2 st2 (by omega) λv3 s3 h3 st3=>?_
  rw [zAEM srt stb] at h3
  have fin:=hK v3
  unfold fin3 at fin
  cases hg:pG q with
  | false=>
    rw [hg] at fin
    simp only [qAs,Bool.not_false,qAh,qER,qEV,qGG,qAg,qAA]
    have:=fin s3 (sub1.trans st3) h3
    rw [if_pos (.inl rfl)] at this
    exact this
  | true=>
    rw [hg] at fin
    have c1:decide (((pA q:Nat):Int) < 0)=false:=decide_eq_false (by omega)
    simp only [qAs,Bool.not_true,qAQ,qAM,c1,qER,qAf,qAA]
    refine qUh λv4 s4 sub4=>?_
    simp only [qAz,qEV,qAf,qAA]
    have:=fin s4 ((sub1.trans st3).trans sub4) (h3.sub sub4)
    refine qAC (λc=>?_) (λc=>?_)
    ·have c:=of_decide_eq_true c
     rw [if_pos (.inr (.inr c))] at this
     exact this
    ·have c:=of_decide_eq_false c
     rw [if_neg (by rintro (z | z | z);cases z;omega;exact c z)] at this
     exact this
 have hlt:i < R.length:=by have:=of_decide_eq_true hlt;omega
 obtain ⟨r,hri⟩:∃ r,R[i]?=some r:=⟨_,List.getElem?_eq_getElem hlt⟩
 have hrm:=List.mem_of_getElem? hri
 have step:=qYq (P:=Tryz.prog) (x:=x) hri
 rw [hq] at step
 obtain ⟨b,o,p,pq,m,e1,e2,_,e4⟩:=(h.sub st).get hri
 simp only [e1,e2,qAA]
 refine qAJ λg s2 hg h2 u2=>?_
 refine qAR h2 rfl rfl e4.one λs3 h3 u3=>?_
 have sub3:Sub t s3:=λj e hj=>by
  have ne:=qBe hg hj
  rw [u3 j ne,u2 j ne];exact hj
 have r3:rdN s3 38 (.ptr g 0)=some (r.row p pq m):=qAW h3 rfl
 have r4:rdN s3 10 (.ptr eb 0)=some x.R:=qAW ((st.trans sub3) _ _ h1) rfl
 simp only [r3,r4,qAA]
 refine qV0 (e4.sub sub3) λs4 sub4=>?_
 have st4:=(st.trans sub3).trans sub4
 have sub34:=sub3.trans sub4
 have hg4:=sub4 _ _ h3
 have next:∀ t5 w5 q5,Sub s1 t5→CL s1 t5 w5 (cds q5)→q5=qs Tryz.prog x (R.take (i+1))→qET XX w5 (.int .i64 ((pA q5:Nat):Int)) (.bool (pG q5)) (.int .i64 (i:Int)) (CanI s1 R x) (R.length - i) K t5:=λt5 w5 q5 z1 z2 z3=>by
  simp only [qET,add1 (show i≤1000000 by omega),qAA]
  refine ⟨_,by omega,i+1,w5,by rw [z3],by rw [← z3];exact z2,z1,by omega,rfl⟩
 simp only [qAs,qAA]
 cases ha:abt Tryz.prog x r with
 | false=>
   rw [ha] at step
   simp only [Bool.not_false,qAh]
   refine next s4 w q st4 (cl.sub sub34) ?_
   rw [step];simp
 | true=>
   rw [ha,if_pos rfl] at step
   have r5:rd1 s4 (.ptr g 31)=some m:=by rw [qAO hg4];rfl
   simp only [Bool.not_true,qAQ,qAG,Nat.zero_add,Nat.reduceAdd,r5,qAA]
   refine zAAc (e4.cm.sub sub34) (hG.sub st4) (hok r hrm).1 (by have:=(hok r hrm).2.2.2;omega) λs5 sub5=>?_
   have x0:∀ x y z:AV,qAX (.tup [x,y,z]) 0=some x:=λ_ _ _=>rfl
   have x1:∀ x y z:AV,qAX (.tup [x,y,z]) 1=some y:=λ_ _ _=>rfl
   have x2:∀ x y z:AV,qAX (.tup [x,y,z]) 2=some z:=λ_ _ _=>rfl
   have st5:=st4.trans sub5
   have sub35:=sub34.trans sub5
   have hg5:=sub5 _ _ hg4
   have cl5:=cl.sub sub35
   generalize elN r.cm=E at *
   obtain ⟨a,pr,fo⟩:=E
   simp only [x0,x1,x2,cl5.sl.len,List.length_map,qRm,qAe,qAZ,Bool.false_bne,qAA]
   have j4:∀ t40 t43,qAc t40 t43 (.bool false)=some (.bool (pG (q ++ [(r.nx,a,pr,fo)])))→qEQ XX w (.int .i64 ((pA (q ++ [(r.nx,a,pr,fo)]):Nat):Int)) (.ptr g 0) (.int .i64 (pr:Int)) (.int .i64 (i:Int)) t40 t43 (CanI s1 R x) (R.length - i) K s5:=λt40 t43 hp=>by
    have r6:rd1 s5 (.ptr g 23)=some (.int .u32 r.nx):=by rw [qAO hg5];rfl
    simp only [qEQ,hp,qAG,Nat.zero_add,Nat.reduceAdd,r6,qAA]
    refine zADj (qAF (qKW (zs:=[(.int .u32 0),(.int .i64 0)]) (c:=cR (r.nx,(pr:Int))) rfl) ⟨rfl,qAJ λd s6 hd h6 u6=>?_⟩)
    have sub6:=u6.sub hd
    refine (cl5.sub sub6).app (SlR.mk (rows:=[cR (r.nx,(pr:Int))]) (by intro r' hr;rw [List.mem_singleton] at hr;subst hr;rfl) (by simpa using h6) rfl (by simp)) (by simp) (by rw [List.length_map];simp only [List.length_singleton];omega) (st5.trans sub6) λv7 s7 a7 k7=>?_
    refine next s7 v7 _ k7 ?_ (by rw [step])
    have:(cds (q ++ [(r.nx,a,pr,fo)])).map cR=(cds q).map cR ++ [cR (r.nx,(pr:Int))]:=by rw [zAES,List.map_append];rfl
    show AccR 36 2 s1 s7 v7 _
    rw [this]
    exact a7
   have j2:∀ al:Nat,al=pA (q ++ [(r.nx,a,pr,fo)])→qCq XX w (.int .i64 (al:Int)) (.bool (pG q)) (.ptr g 0) (.int .i64 (a:Int)) (.int .i64 (pr:Int)) (.bool fo) (.int .i64 (i:Int)) (CanI s1 R x) (R.length - i) K s5:=λal hal=>by
    have hpg:=zAFq (q:=q) (x:=(r.nx,a,pr,fo))
    subst hal
    cases hgq:pG q with
    | false=>
      simp only [qCq,qAQ,qDT,qAf,qAA]
      exact j4 _ _ (by rw [hpg,hgq];rfl)
    | true=>
      cases fo with
      | false=>
        simp only [qCq,qAh,qAQ,qDT,qAg,qAA]
        exact j4 _ _ (by rw [hpg,hgq];rfl)
      | true=>
        simp only [qCq,qAh,qDT,qAg,qAe,qAZ,Bool.false_bne,qAA]
        refine j4 _ _ ?_
        rw [hpg,hgq]
        simp only [qAg,Bool.true_and]
        congr 2
        rw [Bool.eq_iff_iff]
        simp only [beq_iff_eq]
        omega
   have hpa:=zAGB (q:=q) (x:=(r.nx,a,pr,fo))
   refine qAC (λhz=>?_) (λhz=>?_)
   ·have:q=[]:=List.eq_nil_of_length_eq_zero (by have:=eq_of_beq hz;omega)
    rw [if_pos this] at hpa
    exact j2 a hpa.symm
   ·have:q≠[]:=λe=>by rw [e] at hz;cases hz
    rw [if_neg this] at hpa
    exact j2 (pA q) hpa.symm
end Go.AM.SG
namespace Go.AM.SG
open Go Go.AM Go.Proofs
variable {K : AV → Hq → Prop} {s s' s0 t : Hq} {v w p q m p' q' m' : AV} {R : List Rt} {x : Es}
theorem zACF {o:List Cd} {c:Cd}:(putL o c).length≤o.length+1:=by
 unfold putL
 split
 ·omega
 ·simp only [List.length_append,List.length_cons,List.length_take,List.length_drop];omega
theorem qQD (l:List Cd):(qOR l).length≤l.length:=by
 have key:∀ (l o:List Cd),(l.foldl putL o).length≤o.length+l.length:=by
  intro l
  induction l with
  | nil=>intro o;simp
  | cons c l ih=>
    intro o
    have h1:=ih (putL o c)
    have h2:=zACF (o:=o) (c:=c)
    rw [List.foldl_cons,List.length_cons]
    omega
 have:=key l []
 simp only [List.length_nil,Nat.zero_add] at this
 exact this
end Go.AM.SG
namespace Go.AM.SG
open Go Go.AM Go.Proofs
variable {K : AV → Hq → Prop} {s s' s0 t : Hq} {v w : AV} {l l' : List Int} {db : Nat}
def dI (l:List Int):List Int:=(rdG none (l.map λx=>((x,0):Cd))).map (·.1)
theorem zAt {l:List Int} {k:Nat} (h:k < l.length):cAt (l.map λx=>((x,0):Cd)) k=(nAt l k,0):=by
 rw [qEm (by simpa using h),qMY h];simp
theorem qZv {k:Nat} (h:k < l.length) (h0:0 < k):dI (l.take (k+1))=dI (l.take k) ++ (if nAt l (k - 1)=nAt l k then [] else [nAt l k]):=by
 unfold dI
 rw [List.map_take,List.map_take,qQb (by simpa using h) h0,List.map_append,zAt (by omega),zAt h]
 congr 1
 split <;> rfl
theorem qV7 (h:l.length < 2):dI l=l:=by
 match l,h with
 | [],_=>rfl
 | [a],_=>rfl
theorem qYa {k:Nat} {x:Int} (h:k < l.length):(l.set k x).take (k+1)=l.take k ++ [x]:=by
 rw [List.take_add_one,List.getElem?_set_self h,List.take_set_of_le (Nat.le_refl k)]
 rfl
theorem qZJ:∀ n:Nat,repl n [AV.int .u32 0]=us (List.replicate n 0)
 | 0=>rfl
 | n+1=>by rw [repl,qZJ n];rfl
theorem zACs:∀ l:List Int,qAY (us l)=true
 | []=>rfl
 | x :: l=>by
   show qAY (AV.int .u32 x :: us l)=true
   rw [qIa,zACs l];rfl
theorem qZc {A C:List Int} {Q:Hq→Prop} (h:UAt s db (A ++ C)) (hne:C≠[]) (hR:∀ s',UAt s' db (A ++ List.replicate C.length 0)→Upto db s s'→Q s'):qNH [(.int .u32 0)] 1 (.slc db A.length C.length none 1) (λ_ s=>Q s) s:=by
 unfold qNH
 refine ⟨rfl,?_⟩
 obtain ⟨m,hm⟩:∃ m,C.length=m+1:=⟨C.length - 1,by have:=List.length_pos_iff.2 hne;omega⟩
 rw [hm] at hR ⊢
 simp only
 rw [qZJ]
 have h':s db=some (false,.cells 33 (us (A ++ C))):=h
 have e2:Nat.ble (A.length+(us (List.replicate (m+1) 0)).length) (us (A ++ C)).length=true:=by
  rw [List.length_map,List.length_map,List.length_replicate,List.length_append,hm,Nat.ble_eq];omega
 have e3:qAq (us (A ++ C)) A.length (us (List.replicate (m+1) 0))=us (A ++ List.replicate (m+1) 0):=by
  unfold qAq
  simp only [us,List.map_append,List.length_map,List.length_replicate]
  rw [List.take_left' (by simp),List.drop_eq_nil_of_le (by simp [hm]),List.append_nil]
 have e1:wrN s (.ptr db A.length) (us (List.replicate (m+1) 0))=some (hset s db (false,.cells 33 (us (A ++ List.replicate (m+1) 0)))):=by
  rw [← e3]
  simp only [wrN,h',e2,zACs,Bool.and_self,cond_true]
 exact qAF e1 (hR _ qCe λ_ hi=>qBW hi)
theorem UAt.first {A B:List Int} (h:UAt s db (A ++ B)):Sl s (.slc db 0 A.length none 1) (us A):=by
 refine .inr ⟨db,0,none,by rw [List.length_map],(λc h=>by cases h),λ_=>⟨false,33,_,h,by simp,λi hi=>?_⟩⟩
 have e:us (A ++ B)=us A ++ us B:=List.map_append
 rw [Nat.zero_add,e,List.getElem?_append_left hi]
def CpI0 (s:Hq) (l:List Int):List AV→Hq→Nat→Prop:=λys t m=>
 ∃ k:Nat,ys=[.int .i64 (k:Int)]∧t=s∧1≤k∧k≤l.length∧dI (l.take k)=l.take k∧m=l.length - k
def CpI1 (s:Hq) (db:Nat) (l:List Int) (k0:Nat):List AV→Hq→Nat→Prop:=λys t m=>
 ∃ (k k2:Nat) (cur:List Int),ys=[.int .i64 (k:Int),.int .i64 (k2:Int)]∧UAt t db cur∧KB db s t∧cur.length=l.length∧1≤k2∧k0+k2≤l.length∧k < k0+k2∧(∀ j,k0+k2 - 1≤j→nAt cur j=nAt l j)∧dI (l.take (k0+k2))=cur.take k∧m=l.length - k0 - k2
theorem qUD (h:Acc 33 s0 s v (us l)) (hs:Sub s0 s) (hl:l.length≤1000) (hK:∀ v' s',Sl s' v' (us (dI l))→Sub s0 s'→K v' s'):wC Tryz.prog XX 39 [v] K s:=by
 refine qFp ?_
 simp only [qCY,h.sl.len,List.length_map,qAM,qAA]
 refine qAC (λhc=>?_) (λhc=>?_)
 ·have hc:l.length < 2:=by have:=of_decide_eq_true hc;omega
  exact hK v s (by rw [qV7 hc];exact h.sl) hs
 have hc:2≤l.length:=by have:=of_decide_eq_false hc;omega
 obtain ⟨db,q1,q2,q3⟩:∃ db,s0 db=none∧v=uV db l.length∧UAt s db l:=by
  rcases h with ⟨_,q⟩ | ⟨db,q1,q2,q3⟩
  ·have:l=[]:=List.map_eq_nil_iff.1 q
   rw [this] at hc;simp at hc
  ·rw [List.length_map] at q2
   exact ⟨db,q1,q2,q3⟩
 subst q2
 clear h
 have keepS:∀ {t:Hq},KB db s t→Sub s0 t:=fun {t} kp i e hi=>kp i e (hs i e hi) λw=>by rw [w,q1] at hi;cases hi
 refine ⟨CpI0 s l,⟨_,1,rfl,rfl,by omega,by omega,qV7 (by rw [List.length_take];omega),rfl⟩,?_⟩
 rintro f t m ⟨k0,hy,rfl,hk1,hk2,hpre,rfl⟩
 simp only [List.cons.injEq,and_true] at hy
 rw [hy]
 have lenv:qAS (uV db l.length)=some l.length:=rfl
 simp only [qDC,lenv,qAM,qAA]
 refine qAC (λhlt=>?_) (λhge=>?_)
 rotate_left
 ·have hge:k0=l.length:=by have:=of_decide_eq_false hge;omega
  rw [hge,List.take_length] at hpre
  refine hK _ t ?_ hs
  rw [hpre]
  exact Sl.mk q3 (by simp) (by simp)
 have hlt:k0 < l.length:=by have:=of_decide_eq_true hlt;omega
 simp only [sub1 hk1 (show k0≤1000000 by omega),u_ad hlt,u_ad (show k0 - 1 < l.length by omega),q3.rd hlt,q3.rd (show k0 - 1 < l.length by omega),qAe,qAZ,Bool.false_bne,qAA]
 have step:=qZv hlt (by omega)
 refine qAC (λhq=>?_) (λhq=>?_)
 rotate_left
 ·have hne:¬ nAt l (k0 - 1)=nAt l k0:=λe=>by rw [e] at hq;simp at hq
  simp only [add1 (show k0≤1000000 by omega),qAA]
  refine ⟨_,by omega,k0+1,rfl,rfl,by omega,by omega,?_,rfl⟩
  rw [step,if_neg hne,hpre,List.take_add_one,List.getElem?_eq_getElem hlt,qMY hlt];rfl
 have heq:nAt l (k0 - 1)=nAt l k0:=(eq_of_beq hq).symm
 rw [if_pos heq,List.append_nil,hpre] at step
 have sl:∀ {k:Nat},k≤l.length→qCT 1 (uV db l.length) (some (.int .i64 (k:Int))) none none=some (.slc db k (l.length - k) none 1):=fun {k} hk=>by
  simp [qCT,bound,Nat.ble_eq_true_of_le hk]
 have sh:∀ {k:Nat},k≤l.length→qCT 1 (uV db l.length) none (some (.int .i64 (k:Int))) none=some (.slc db 0 k none 1):=fun {k} hk=>by
  simp [qCT,bound,Nat.ble_eq_true_of_le hk]
 simp only [sl hk2,qAA]
 refine ⟨CpI1 t db l k0,⟨_,k0,1,l,rfl,q3,.refl _ _,rfl,by omega,by omega,by omega,λ_ _=>rfl,step,rfl⟩,?_⟩
 rintro f t2 m ⟨k,k2,cur,hy,hcur,kp,hlen,c1,c2,c3,c4,c5,rfl⟩
 simp only [List.cons.injEq,and_true] at hy
 rw [hy.1,hy.2]
 have lenw:qAS (.slc db k0 (l.length - k0) none 1)=some (l.length - k0):=rfl
 simp only [qDG,lenw,qAM,qAA]
 refine qAC (λhlt2=>?_) (λhge2=>?_)
 ·have hlt2:k0+k2 < l.length:=by have:=of_decide_eq_true hlt2;omega
  have ad2:∀ {i:Nat},k0+i < l.length→qAH 1 (.slc db k0 (l.length - k0) none 1) (.int .i64 (i:Int))=some (.ptr db (k0+i)):=fun {i} hi=>by
   have:Nat.blt i (l.length - k0)=true:=by rw [Nat.blt_eq];omega
   simp [qAH,this]
  have r1:=hcur.rd (i:=k0+k2) (by omega)
  have r2:=hcur.rd (i:=k0+(k2 - 1)) (by omega)
  rw [c4 _ (by omega)] at r1
  rw [c4 _ (by omega),show k0+(k2 - 1)=k0+k2 - 1 by omega] at r2
  have ad3:qAH 1 (.slc db k0 (l.length - k0) none 1) (.int .i64 ((k2 - 1:Nat):Int))=some (.ptr db (k0+k2 - 1)):=by
   rw [ad2 (by omega),show k0+(k2 - 1)=k0+k2 - 1 by omega]
  have stp:=qZv hlt2 (by omega)
  simp only [sub1 c1 (show k2≤1000000 by omega),ad2 hlt2,r1,ad3,r2,qAe,qAZ,Bool.true_bne,qAA]
  refine qAC (λhr=>?_) (λhr=>?_)
  ·have he:¬ nAt l (k0+k2 - 1)=nAt l (k0+k2):=λe=>by rw [e] at hr;simp at hr
   rw [if_neg he] at stp
   simp only [ad2 hlt2,r1,u_ad (show k < l.length by omega),qAA]
   refine hcur.put (by omega) λs5 h5 u5=>?_
   simp only [qBR,add1 (show k≤1000000 by omega),add1 (show k2≤1000000 by omega),qAA]
   refine ⟨_,by omega,k+1,k2+1,cur.set k (nAt l (k0+k2)),rfl,h5,kp.trans (u5.keep rfl),by rw [List.length_set];exact hlen,by omega,by omega,by omega,λj hj=>?_,?_,rfl⟩
   ·rw [qUv (by omega),if_neg (by omega)]
    exact c4 j (by omega)
   ·rw [show k0+(k2+1)=k0+k2+1 by omega,stp,c5,qYa (by omega)]
  ·have he:nAt l (k0+k2 - 1)=nAt l (k0+k2):=by
    have:(nAt l (k0+k2) == nAt l (k0+k2 - 1))=true:=by simpa using hr
    exact (eq_of_beq this).symm
   rw [if_pos he,List.append_nil] at stp
   simp only [qBR,add1 (show k2≤1000000 by omega),qAA]
   exact ⟨_,by omega,k,k2+1,cur,rfl,hcur,kp,hlen,by omega,by omega,by omega,λj hj=>c4 j (by omega),by rw [show k0+(k2+1)=k0+k2+1 by omega,stp,c5],rfl⟩
 ·have hge2:k0+k2=l.length:=by have:=of_decide_eq_false hge2;omega
  rw [hge2,List.take_length] at c5
  have lt:(cur.take k).length=k:=by rw [List.length_take];omega
  have ld:(cur.drop k).length=l.length - k:=by rw [List.length_drop,hlen]
  simp only [sl (show k≤l.length by omega),qAA]
  have:=qZc (A:=cur.take k) (C:=cur.drop k) (s:=t2) (db:=db) (Q:=λs_30=>oK (qCT 1 (uV db l.length) none (some (.int .i64 (k:Int))) none) λv_31=>K v_31 s_30) (by rw [List.take_append_drop];exact hcur) (λe=>by rw [e] at ld;simp at ld;omega) λs5 h5 u5=>by
   simp only [sh (show k≤l.length by omega),qAA]
   refine hK _ s5 ?_ (keepS (kp.trans (u5.keep rfl)))
   rw [c5]
   have:=h5.first
   rw [lt] at this
   exact this
  rw [lt,ld] at this
  exact this
theorem zABm (hK:K (.tup []) s):wC Tryz.prog XX 38 [.nilslc] K s:=by
 refine qDt ?_
 have e1:qAS .nilslc=some 0:=rfl
 simp only [qCJ,e1,qQ4 (show 0 < 9223372036854775808 by omega),qAA]
 refine qYW (n:=0) (by omega) λb b1 _ _=>?_
 refine qDm ?_
 refine ⟨λys t m=>ys=[.int .i64 0,.int .i64 0,.int .i64 (b:Int),.bool true,.bool true]∧t=s,⟨0,rfl,rfl⟩,?_⟩
 rintro f t m ⟨hy,rfl⟩
 simp only [List.cons.injEq,and_true] at hy
 rw [hy.1,hy.2.1,hy.2.2.1,hy.2.2.2.1,hy.2.2.2.2]
 refine qAF (a:=.int .i64 0) rfl (qAF (a:=.bool true) rfl ?_)
 refine qCn ?_
 refine qAF (a:=.int .i64 1) rfl ?_
 refine ⟨λys t2 m=>ys=[.int .i64 1]∧t2=t,⟨0,rfl,rfl⟩,?_⟩
 rintro f t2 m ⟨hy,rfl⟩
 simp only [List.cons.injEq,and_true] at hy
 rw [hy]
 exact qAF (a:=.bool false) rfl hK
end Go.AM.SG
namespace Go.AM.SG
open Go Go.AM Go.Proofs
inductive Leaf where
 | i (k:IntKind)
 | b
 | sl (d:Nat) (t:TypeId)
section
variable (P : Program)
def zAAp (rec:TypeId→Nat→Option Leaf) (j:Nat):List Field→Option Leaf
 | []=>none
 | f :: fs=>cond (Nat.ble f.offset j&&Nat.blt (j - f.offset) (P.cellsOf f.type)) (rec f.type (j - f.offset)) (zAAp rec j fs)
def qWl:Nat→TypeId→Nat→Option Leaf
 | 0,_,_=>none
 | d+1,t,j=>match P.underlying t with
   | some (.int k)=>cond (Nat.beq j 0) (some (.i k)) none
   | some .bool=>cond (Nat.beq j 0) (some .b) none
   | some (.slice _)=>cond (Nat.beq j 0) (some (.sl (d+1) t)) none
   | some (.struct fs)=>zAAp P (qWl d) j fs.toList
   | some (.array n e)=>cond (Nat.blt (j / P.cellsOf e) n&&Nat.blt 0 (P.cellsOf e)) (qWl d e (j % P.cellsOf e)) none
   | _=>none
end
variable {P : Program} {s : Hq}
def zAFO (P:Program) (s:Hq):Leaf→AV→Prop
 | .i k,x=>∃ n,x=.int k n∧(Lit.int k n).wf=true
 | .b,x=>∃ b,x=.bool b
 | .sl d t,x=>Inp P s d t [x]
theorem qVi {xs:List AV} {o c j:Nat} {x:AV} (h:((xs.drop o).take c)[j]?=some x):xs[o+j]?=some x:=by
 rw [List.getElem?_take] at h
 split at h
 ·rw [List.getElem?_drop] at h;exact h
 ·cases h
theorem qUR:∀ (d:Nat) (t:TypeId) (xs:List AV) (j:Nat) (k:Leaf),Inp P s d t xs→qWl P d t j=some k→∃ x,xs[j]?=some x∧zAFO P s k x
 | 0,_,_,_,_,h,_=>h.elim
 | d+1,t,xs,j,k,h,hk=>by
   unfold qWl at hk
   unfold Inp at h
   split at hk
   ·rename_i k0 hu
    simp only [hu] at h
    cases e:Nat.beq j 0 with
    | false=>rw [e] at hk;cases hk
    | true=>
      rw [e] at hk
      cases hk
      obtain ⟨n,rfl,h2⟩:=h
      exact ⟨_,by rw [Nat.eq_of_beq_eq_true e];rfl,n,rfl,h2⟩
   ·rename_i hu
    simp only [hu] at h
    cases e:Nat.beq j 0 with
    | false=>rw [e] at hk;cases hk
    | true=>
      rw [e] at hk
      cases hk
      obtain ⟨b,rfl⟩:=h
      exact ⟨_,by rw [Nat.eq_of_beq_eq_true e];rfl,b,rfl⟩
   ·rename_i e0 hu
    cases e:Nat.beq j 0 with
    | false=>rw [e] at hk;cases hk
    | true=>
      rw [e] at hk
      cases hk
      have h':Inp P s (d+1) t xs:=by unfold Inp;exact h
      simp only [hu] at h
      rcases h with rfl | ⟨b,n,c,rfl,_⟩
      ·exact ⟨_,by rw [Nat.eq_of_beq_eq_true e];rfl,h'⟩
      ·exact ⟨_,by rw [Nat.eq_of_beq_eq_true e];rfl,h'⟩
   ·rename_i fs hu
    simp only [hu] at h
    have key:∀ l:List Field,(∀ f∈l,f∈fs.toList)→zAAp P (qWl P d) j l=some k→∃ x,xs[j]?=some x∧zAFO P s k x:=by
     intro l
     induction l with
     | nil=>intro _ q;cases q
     | cons f l ih=>
       intro hm q
       unfold zAAp at q
       cases e:(Nat.ble f.offset j&&Nat.blt (j - f.offset) (P.cellsOf f.type)) with
       | false=>rw [e] at q;exact ih (λg hg=>hm g (List.mem_cons_of_mem _ hg)) q
       | true=>
         rw [e] at q
         simp only [Bool.and_eq_true] at e
         obtain ⟨x,h1,h2⟩:=qUR d f.type _ (j - f.offset) k (h.2 f (hm f List.mem_cons_self)) q
         refine ⟨x,?_,h2⟩
         have:=qVi h1
         rw [Nat.add_sub_cancel' (Nat.le_of_ble_eq_true e.1)] at this
         exact this
    exact key _ (λf hf=>hf) hk
   ·rename_i n e0 hu
    simp only [hu] at h
    cases e:(Nat.blt (j / P.cellsOf e0) n&&Nat.blt 0 (P.cellsOf e0)) with
    | false=>rw [e] at hk;cases hk
    | true=>
      rw [e] at hk
      simp only [Bool.and_eq_true,Nat.blt_eq] at e
      obtain ⟨x,h1,h2⟩:=qUR d e0 _ (j % P.cellsOf e0) k (h.2 (j / P.cellsOf e0) e.1) hk
      refine ⟨x,?_,h2⟩
      have:=qVi h1
      rw [Nat.mul_comm,Nat.div_add_mod] at this
      exact this
   ·cases hk
theorem qVg {d:Nat} {t:TypeId} {xs:List AV} {j:Nat} {k:IntKind} (h:Inp P s d t xs) (hk:qWl P d t j=some (.i k)):∃ n,xs[j]?=some (.int k n)∧(Lit.int k n).wf=true:=by
 obtain ⟨x,h1,n,rfl,h2⟩:=qUR d t xs j _ h hk
 exact ⟨n,h1,h2⟩
theorem zAD7 {xs ys:List AV} (hl:xs.length=ys.length) (h:∀ j,j < ys.length→xs[j]?=ys[j]?):xs=ys:=by
 refine List.ext_getElem? λj=>?_
 by_cases q:j < ys.length
 ·exact h j q
 ·rw [List.getElem?_eq_none (by omega),List.getElem?_eq_none (by omega)]
end Go.AM.SG
namespace Go.AM.SG
open Go Go.AM Go.Proofs
variable {K : AV → Hq → Prop} {s s' s0 t : Hq} {v w p q m : AV} {R : List Rt} {x : Es}
theorem qYw {l o:List Cd} (h:Fst1 l o) (y:Int):y∈o.map (·.1)↔y∈l.map (·.1):=by
 constructor
 ·intro hy
  obtain ⟨c,hc,rfl⟩:=List.mem_map.1 hy
  have:=(h.mem c).1 hc
  have:=List.mem_of_head? this
  exact List.mem_map.2 ⟨c,(qNS.1 this).1,rfl⟩
 ·intro hy
  obtain ⟨d,hd,rfl⟩:=List.mem_map.1 hy
  have hdk:d∈fk d.1 l:=qNS.2 ⟨hd,rfl⟩
  cases e:(fk d.1 l).head? with
  | none=>
    rw [List.head?_eq_none_iff] at e
    rw [e] at hdk;cases hdk
  | some c=>
    have hc:=(qNS.1 (List.mem_of_head? e)).2
    refine List.mem_map.2 ⟨c,(h.mem c).2 ?_,hc⟩
    rw [hc];exact e
theorem qZZ {o:List Cd} (h:Sct o):(o.map (·.1)).Pairwise λa b=>a < b:=List.pairwise_map.2 h
theorem zAA3 {a b:List Int} (ha:a.Pairwise λx y=>x < y) (hb:b.Pairwise λx y=>x < y) (h:∀ y,y∈a↔y∈b):a=b:=by
 have nl:a.Nodup:=List.Pairwise.imp (fun {a b} h e=>by rw [e] at h;omega) ha
 have nm:b.Nodup:=List.Pairwise.imp (fun {a b} h e=>by rw [e] at h;omega) hb
 exact List.Perm.eq_of_pairwise (le:=λa b:Int=>a < b) (λa b _ _ h1 h2=>by omega) ha hb ((List.perm_ext_iff_of_nodup nl nm).2 h)
theorem zADm {l:List Int} (h:Asc 0 l.length l):Srt (l.map λx=>((x,0):Cd)):=by
 unfold Srt
 rw [List.pairwise_map]
 refine List.pairwise_iff_getElem.2 λi j hi hj hij=>?_
 have:=h i j (Nat.zero_le _) hij hj
 rw [qMY hi,qMY hj] at this
 exact this
theorem qXS {q:List Qr} {l:List Int} (hp:l.Perm (q.map (·.1))) (ha:Asc 0 l.length l):dI l=(qOR (cds q)).map (·.1):=by
 have f1:=qYk (zADm ha)
 have f2:=qJW (cds q)
 refine zAA3 (qZZ f1.srt) (qZZ f2.srt) λy=>?_
 show y∈(rdG none (l.map λx=>((x,0):Cd))).map (·.1)↔_
 rw [qYw f1,qYw f2]
 have e1:(l.map λx=>((x,0):Cd)).map (·.1)=l:=by rw [List.map_map];exact List.map_id l
 have e2:(cds q).map (·.1)=q.map (·.1):=by unfold cds;rw [List.map_map];rfl
 rw [e1,e2]
 exact hp.mem_iff
def MemI (s1:Hq) (R:List Rt) (x:Es):List AV→Hq→Nat→Prop:=λys t m=>
 ∃ (i:Nat) (w:AV),ys=[w,.int .i64 (i:Int)]∧Acc 33 s1 t w (us ((qs Tryz.prog x (R.take i)).map (·.1)))∧Sub s1 t∧i≤R.length∧m=R.length - i
theorem zACo (h:Rts s v R) (hl:R.length≤100) (hK:∀ v' s',Sub s s'→Sl s' v' (us ((qOR (cds (qs Tryz.prog x R))).map (·.1)))→K v' s'):wC Tryz.prog XX 9 [v,.agg x.R] K s:=by
 refine qRT ⟨rfl,qAJ λeb s1 heb h1 u1=>?_⟩
 have sub1:=u1.sub heb
 have h:=h.sub sub1
 simp only [h.len,qAA]
 refine ⟨MemI s1 R x,⟨_,0,_,rfl,.inl ⟨rfl,rfl⟩,.refl _,by omega,rfl⟩,?_⟩
 rintro e t m ⟨i,w,hy,ac,st,hi,rfl⟩
 simp only [List.cons.injEq,and_true] at hy
 rw [hy.1,hy.2]
 clear hy
 generalize hq:qs Tryz.prog x (R.take i)=q at *
 have hql:q.length≤i:=by
  have:=qVM (R:=R.take i) (P:=Tryz.prog) (x:=x)
  rw [hq,List.length_take] at this
  omega
 have hql':(q.map (·.1)).length≤100:=by rw [List.length_map];omega
 simp only [qLt,qAM,qAA]
 refine qAC (λhlt=>?_) (λhge=>?_)
 rotate_left
 ·have:i=R.length:=by have:=of_decide_eq_false hge;omega
  rw [this,List.take_length] at hq
  rw [hq] at hK
  have fin:∀ t2 l2,Acc 33 s1 t2 w (us l2)→Sub s1 t2→l2.Perm (q.map (·.1))→Asc 0 l2.length l2→wC Tryz.prog XX 39 [w] (λv_25 s_26=>K v_25 s_26) t2:=λt2 l2 z1 z2 z3 z4=>by
   have z5:=z3.length_eq
   refine qUD z1 z2 (by omega) λv3 s3 h3 k3=>?_
   rw [qXS z3 z4] at h3
   exact hK v3 s3 (sub1.trans k3) h3
  rcases ac with ⟨rfl,z⟩ | ⟨db,z1,z2,z3⟩
  ·have z:q.map (·.1)=[]:=List.map_eq_nil_iff.1 z
   refine zABm (fin t [] (.inl ⟨rfl,rfl⟩) st (by rw [z]) λa b _ _ hb=>by simp at hb)
  ·rw [List.length_map] at z2
   subst z2
   refine zABs z3 (by omega) λs2 l2 y1 y2 y3 y4=>?_
   have yl:=y2.length_eq
   refine fin s2 l2 (.inr ⟨db,z1,by rw [show (us l2).length=l2.length from List.length_map _,yl],y1⟩) (λi e hi=>y4 i e (st i e hi) λw=>by rw [w,z1] at hi;cases hi) y2 y3
 have hlt:i < R.length:=by have:=of_decide_eq_true hlt;omega
 obtain ⟨r,hri⟩:∃ r,R[i]?=some r:=⟨_,List.getElem?_eq_getElem hlt⟩
 have step:=qYq (P:=Tryz.prog) (x:=x) hri
 rw [hq] at step
 obtain ⟨b,o,p,pq,m,e1,e2,_,e4⟩:=(h.sub st).get hri
 simp only [e1,e2,qAA]
 refine qAJ λg s2 hg h2 u2=>?_
 refine qAR h2 rfl rfl e4.one λs3 h3 u3=>?_
 have sub3:Sub t s3:=λj e hj=>by
  have ne:=qBe hg hj
  rw [u3 j ne,u2 j ne];exact hj
 have r3:rdN s3 38 (.ptr g 0)=some (r.row p pq m):=qAW h3 rfl
 have r4:rdN s3 10 (.ptr eb 0)=some x.R:=qAW ((st.trans sub3) _ _ h1) rfl
 simp only [r3,r4,qAA]
 refine qV0 (e4.sub sub3) λs4 sub4=>?_
 have st4:=(st.trans sub3).trans sub4
 have sub34:=sub3.trans sub4
 have hg4:=sub4 _ _ h3
 have ac4:Acc 33 s1 s4 w (us (q.map (·.1))):=ac.imp id λ⟨b,z1,z2,z3⟩=>⟨b,z1,z2,sub34 _ _ z3⟩
 have next:∀ t5 w5 q5,Sub s1 t5→Acc 33 s1 t5 w5 (us (q5.map (·.1)))→q5=qs Tryz.prog x (R.take (i+1))→qGe XX w5 (.int .i64 (i:Int)) (MemI s1 R x) (R.length - i) K t5:=λt5 w5 q5 z1 z2 z3=>by
  simp only [qGe,add1 (show i≤1000000 by omega),qAA]
  refine ⟨_,by omega,i+1,w5,rfl,by rw [← z3];exact z2,z1,by omega,rfl⟩
 cases ha:abt Tryz.prog x r with
 | false=>
   rw [ha] at step
   simp only [qAQ]
   refine next s4 w q st4 ac4 ?_
   rw [step];simp
 | true=>
   rw [ha,if_pos rfl] at step
   have r5:rd1 s4 (.ptr g 23)=some (.int .u32 r.nx):=by rw [qAO hg4];rfl
   simp only [qAh,qAG,Nat.zero_add,Nat.reduceAdd,r5,qAA]
   refine qAF (a:=us [r.nx]) rfl ⟨rfl,qAJ λd s5 hd h5 u5=>?_⟩
   have sub5:=u5.sub hd
   have ac5:Acc 33 s1 s5 w (us (q.map (·.1))):=ac4.imp id λ⟨b,z1,z2,z3⟩=>⟨b,z1,z2,sub5 _ _ z3⟩
   have st5:=st4.trans sub5
   refine ac5.app (m:=us [r.nx]) (Sl.mk h5 rfl (by simp)) (by simp) (by rw [List.length_map];simp only [List.length_map,List.length_singleton] at hql' ⊢;omega) (λj hj=>?_) λv6 s6 a6 k6=>?_
   ·cases z:s1 j with
    | none=>exact absurd z hj
    | some y=>rw [st5 j y z];simp
   ·refine next s6 v6 _ (λj e hj=>k6 j e (st5 j e hj) λb z zb=>?_) ?_ step.symm
    ·rcases ac5 with ⟨y,_⟩ | ⟨b',y1,y2,_⟩
     ·rw [y] at z;cases z
     ·rw [y2] at z;cases z;rw [zb,y1] at hj;cases hj
    ·have:us ((q ++ [(r.nx,elN r.cm)]).map (·.1))=us (q.map (·.1)) ++ us [r.nx]:=by simp [us]
     rw [this];exact a6
end Go.AM.SG
namespace Go.AM.EL
open Go Go.Proofs
variable {K : AV → Hq → Prop} {s : Hq}
theorem qO0 {k:IntKind}:∀ l:List Int,qAY (l.map (AV.int k))=true
 | []=>rfl
 | _ :: l=>by rw [List.map_cons,qIa,qO0 l];rfl
def xorU (x y:Int):Int:=qAw .u64 ((BitVec.ofInt (IntKind.bits .u64) x ^^^ BitVec.ofInt (IntKind.bits .u64) y).toNat:Nat)
theorem qT7 {x y:Int}:qAB .xor (.int .u64 x) (.int .u64 y)=some (.int .u64 (xorU x y)):=by simp [qAB,arith,qBc,xorU]
def qRC (h b:Int):Int:=IntKind.u64.wrap (xorU h (qAw .u64 b) * 1099511628211)
def fnv:Int→List Int→Int
 | h,[]=>h
 | h,b :: r=>fnv (qRC h b) r
theorem zABp (h b:Int) (r:List Int):fnv h (b :: r)=fnv (qRC h b) r:=rfl
theorem wu8 (n:Int):qAw .u8 n=n % 256:=by
 simp only [qAw];rw [qDi _ _ _ (by omega) (by omega)];split <;> omega
theorem wu32 (n:Int):qAw .u32 n=n % 4294967296:=by
 simp only [qAw];rw [qDi _ _ _ (by omega) (by omega)];split <;> omega
theorem wu64 (n:Int):qAw .u64 n=n % 18446744073709551616:=by
 simp only [qAw];rw [qDi _ _ _ (by omega) (by omega)];split <;> omega
def b4 (n:Int):List Int:=[qAw .u8 (n.fdiv 16777216),qAw .u8 (n.fdiv 65536),qAw .u8 (n.fdiv 256),qAw .u8 n]
def wt (ip bd:Int):Int:=fnv 14695981039346656037 (b4 ip ++ b4 (qAw .u32 bd))
theorem zABI {m:Int}:qBk .shr (.int .u32 m) (.int .u64 24)=some (.int .u32 (m.fdiv 16777216)):=by
 show frc (m.fdiv ((2 ^ (min 24 (IntKind.bits .u32)):Nat):Int)) (λn=>some (AV.int .u32 n))=_
 rw [qBc];rfl
theorem zAAT {m:Int}:qBk .shr (.int .u32 m) (.int .u64 16)=some (.int .u32 (m.fdiv 65536)):=by
 show frc (m.fdiv ((2 ^ (min 16 (IntKind.bits .u32)):Nat):Int)) (λn=>some (AV.int .u32 n))=_
 rw [qBc];rfl
theorem zAC8 {m:Int}:qBk .shr (.int .u32 m) (.int .u64 8)=some (.int .u32 (m.fdiv 256)):=by
 show frc (m.fdiv ((2 ^ (min 8 (IntKind.bits .u32)):Nat):Int)) (λn=>some (AV.int .u32 n))=_
 rw [qBc];rfl
theorem qVr {k k':IntKind} {n:Int}:qBf k (.int k' n)=some (.int k (qAw k n)):=rfl
theorem zAFn {cs:List AV} {k:Nat} (hk:k < 8):qLo 8 1 none (.agg cs) (.int .i64 (k:Int))=cs[k]?:=by
 have:Nat.blt k 8=true:=by rw [Nat.blt_eq];exact hk
 simp [qLo,qZl,this]
theorem zAGt {x0 x1 x2 x3 x4 x5 x6 x7:Int}:qBO [.int .u8 0,.int .u8 0,.int .u8 0,.int .u8 0,.int .u8 0,.int .u8 0,.int .u8 0,.int .u8 0] [(0,1,.int .u8 x0),(1,1,.int .u8 x1),(2,1,.int .u8 x2),(3,1,.int .u8 x3),(4,1,.int .u8 x4),(5,1,.int .u8 x5),(6,1,.int .u8 x6),(7,1,.int .u8 x7)]=some [.int .u8 x0,.int .u8 x1,.int .u8 x2,.int .u8 x3,.int .u8 x4,.int .u8 x5,.int .u8 x6,.int .u8 x7]:=by kernel_rfl
theorem zAEt (a b:Int):(b4 a ++ b4 b).map (AV.int .u8)=[.int .u8 (qAw .u8 (a.fdiv 16777216)),.int .u8 (qAw .u8 (a.fdiv 65536)),.int .u8 (qAw .u8 (a.fdiv 256)),.int .u8 (qAw .u8 a),.int .u8 (qAw .u8 (b.fdiv 16777216)),.int .u8 (qAw .u8 (b.fdiv 65536)),.int .u8 (qAw .u8 (b.fdiv 256)),.int .u8 (qAw .u8 b)]:=rfl
theorem zAEA {bs:List Int} (h8:bs.length=8) (hK:∀ s',Sub s s'→K (.int .u64 (fnv 14695981039346656037 bs)) s'):wC Tryz.prog XX 118 [.agg (bs.map (AV.int .u8))] K s:=by
 refine qMZ ⟨qO0 bs,qAJ λb s1 hb h1 u1=>?_⟩
 refine qAF (a:=bs.map (AV.int .u8)) (qAW h1 (by simp [h8])) ?_
 refine ⟨λys s2 n=>∃ (h:Int) (k:Nat),ys=[.int .u64 h,.int .i64 k]∧s2=s1∧k≤8∧n=8 - k∧fnv 14695981039346656037 bs=fnv h (bs.drop k),⟨_,_,0,rfl,rfl,by omega,rfl,by simp⟩,?_⟩
 rintro f s2 n ⟨h,k,hy,rfl,hk,rfl,he⟩
 simp only [List.cons.injEq,and_true] at hy
 rw [hy.1,hy.2]
 simp only [qH8,qAM,qAA]
 refine qAC (λhlt=>?_) (λhge=>?_)
 ·have hlt:k < 8:=by have:=of_decide_eq_true hlt;omega
  have hk2:k < bs.length:=by omega
  rw [List.drop_eq_getElem_cons hk2,zABp] at he
  simp only [zAFn hlt,List.getElem?_map,List.getElem?_eq_getElem hk2,Option.map_some,qAA,qVr,qT7,qHB,qAK]
  rw [qAT (by omega) (by omega)]
  exact ⟨_,by omega,qRC h bs[k],k+1,by simp [qRC],by trivial,by omega,rfl,he⟩
 ·have hge:8≤k:=by have:=of_decide_eq_false hge;omega
  rw [List.drop_eq_nil_of_le (by omega)] at he
  have:=hK _ (u1.sub hb)
  rw [he] at this
  exact this
theorem qX9 {ip bd:Int} (hK:∀ s',Sub s s'→K (.int .u64 (wt ip bd)) s'):wC Tryz.prog XX 80 [.int .u32 ip,.int .i64 bd] K s:=by
 refine qSA ?_
 simp only [qOB,qVr,zABI,zAAT,zAC8,qAA,zAGt]
 rw [← zAEt]
 exact zAEA rfl hK
end Go.AM.EL
namespace Go.AM.EL
open Go Go.Proofs
variable {K : AV → Hq → Prop} {s : Hq}
abbrev Cand:=Int × Int
def qK7 (c:Cand):List AV:=[.int .u32 c.1,.int .i64 c.2]
abbrev SlC (s:Hq) (v:AV) (l:List Cand):Prop:=SlR 2 s v (l.map qK7)
theorem _root_.Go.AM.Sub.upto {s s' s'':Hq} {b:Nat} (h:Sub s s') (u:Upto b s' s'') (hb:s b=none):Sub s s'':=λi e hi=>by rw [u i (qBe hb hi)];exact h i e hi
theorem qPD {v:AV} {l:List Cand} (h:SlC s v l) {k:Nat} (hk:k < l.length):∃ b o,qAH 2 v (.int .i64 (k:Int))=some (.ptr b o)∧rdN s 2 (.ptr b o)=some (qK7 l[k])∧rd1 s (.ptr b (o+0))=some (.int .u32 l[k].1)∧rd1 s (.ptr b (o+1))=some (.int .i64 l[k].2):=by
 obtain ⟨b,o,h1,h2,h3⟩:=h.get (i:=k) (r:=qK7 l[k]) (by simp [hk])
 exact ⟨b,o,h1,h2,h3 0 (by omega),h3 1 (by omega)⟩
def grt (key:Cand→Int):Cand→List Cand→Cand
 | b,[]=>b
 | b,x :: r=>if key b < key x then grt key x r else grt key b r
theorem qQW (key:Cand→Int) (b x:Cand) (r:List Cand):grt key b (x :: r)=if key b < key x then grt key x r else grt key b r:=rfl
def Held (o:Option (Nat × List AV)) (s:Hq):Prop:=∀ q cs,o=some (q,cs)→∃ t e,s q=some (t,.cells e cs)
theorem Held.sub {o:Option (Nat × List AV)} {s s':Hq} (h:Held o s) (hs:Sub s s'):Held o s':=λq cs e=>by
 obtain ⟨t,e,h1⟩:=h q cs e
 exact ⟨t,e,hs _ _ h1⟩
theorem Held.frz {o:Option (Nat × List AV)} {s:Hq} (h:Held o s):Held o (AM.frz s):=λq cs e=>by
 obtain ⟨t,e,h1⟩:=h q cs e
 exact ⟨true,e,qKI h1⟩
theorem qW8 {key:Cand→Int} {kv:AV} {o:Option (Nat × List AV)} {v:AV} {c:Cand} {l:List Cand} (h:SlC s v (c :: l)) (hl:l.length≤1000) (ho:Held o s)
  (hkey:∀ (x:Cand) (s':Hq) (K:AV→Hq→Prop),Held o s'→(∀ s'',Sub s' s''→K (.int .u64 (key x)) s'')→funK Tryz.prog XX kv [.agg (qK7 x)] K s')
  (hK:∀ s',Sub s s'→K (.agg (qK7 (grt key c l))) s'):wC Tryz.prog XX 78 [v,kv] K s:=by
 refine qED (qAJ λb0 s1 hb0 h1 u1=>?_)
 have sub1:=u1.sub hb0
 obtain ⟨pb,po,g1,g2,_,_⟩:=qPD (h.sub sub1) (k:=0) (by simp)
 have g1:qAH 2 v (.int .i64 0)=some (.ptr pb po):=g1
 simp only [g1,g2,qAA]
 refine hkey c _ _ ((ho.sub sub1).frz) λs2 sub2 _=>?_
 refine newM (l:=[(s1,add s1 s2)]) λb8 s3 hb8 h8 u8=>?_
 refine qAR h8 rfl rfl rfl λs4 h4 u4=>?_
 obtain ⟨v',d1,d2,_⟩:=h.drop (k:=1) (by simp) (by simp)
 have d1:qCT 2 v (some (.int .i64 1)) none none=some v':=d1
 have d2:SlC s v' l:=d2
 simp only [d1,qAA,d2.len,List.length_map]
 have subA:Sub s (add s1 s2):=sub1.trans qFc
 have hb8s:s b8=none:=by
  cases e:s b8 with
  | none=>rfl
  | some x=>rw [subA b8 x e] at hb8;cases hb8
 have sub4:Sub s s4:=(subA.trans qFc).upto u4 hb8s
 have hne:b0≠b8:=by
  rintro rfl
  rw [show add s1 s2 b0=_ from qBM h1] at hb8;cases hb8
 have h04:s4 b0=some (false,.cells 36 [.int .u32 0,.int .i64 0]):=by
  rw [u4 b0 hne];exact qFc b0 _ (qBM h1)
 refine ⟨λys s5 n=>∃ (b:Cand) (k:Nat),ys=[.int .u64 (key b),.int .i64 k]∧k≤l.length∧n=l.length - k∧grt key c l=grt key b (l.drop k)∧s5 b8=some (false,.cells 36 (qK7 b))∧(∃ cs,cs.length=2∧s5 b0=some (false,.cells 36 cs))∧Sub s s5,⟨_,c,0,rfl,by omega,rfl,by simp,h4,⟨_,rfl,h04⟩,sub4⟩,?_⟩
 rintro f s5 n ⟨b,k,hy,hk,rfl,he,h85,⟨cs,hcs,h05⟩,sub5⟩
 simp only [List.cons.injEq,and_true] at hy
 rw [hy.1,hy.2]
 simp only [qCR,qAM,qAA]
 refine qAC (λhlt=>?_) (λhge=>?_)
 ·have hlt:k < l.length:=by have:=of_decide_eq_true hlt;omega
  rw [List.drop_eq_getElem_cons hlt,qQW] at he
  obtain ⟨pb,po,g1,g2,_,_⟩:=qPD (d2.sub sub5) hlt
  simp only [g1,g2,qAA]
  refine qAJ λb17 s6 hb17 h6 u6=>qAR h6 rfl rfl rfl λs7 h7 u7=>qAF (qAW h7 rfl) ?_
  have hb17s:s b17=none:=by
   cases e:s b17 with
   | none=>rfl
   | some x=>rw [sub5 b17 x e] at hb17;cases hb17
  have sub7:Sub s s7:=(sub5.trans (u6.sub hb17)).upto u7 hb17s
  have n8:b8≠b17:=by rintro rfl;rw [h85] at hb17;cases hb17
  have n0:b0≠b17:=by rintro rfl;rw [h05] at hb17;cases hb17
  have h87:s7 b8=_:=(u7 b8 n8).trans (u6.at h85 hb17)
  have h07:s7 b0=_:=(u7 b0 n0).trans (u6.at h05 hb17)
  refine hkey l[k] _ _ (ho.sub sub7) λs8 sub8=>?_
  simp only [qA4,qAA,qBX,qAK]
  rw [qAT (by omega) (by omega)]
  refine qAC (λhg=>?_) (λhg=>?_)
  ·rw [if_pos (of_decide_eq_true hg)] at he
   refine qAF (qAW (sub8 _ _ h7) rfl) (qAR (sub8 _ _ h87) rfl rfl rfl λs9 h9 u9=>?_)
   exact ⟨_,by omega,l[k],k+1,by simp,by omega,rfl,he,h9,⟨cs,hcs,(u9 b0 hne).trans (sub8 _ _ h07)⟩,(sub7.trans sub8).upto u9 hb8s⟩
  ·rw [if_neg (of_decide_eq_false hg)] at he
   exact ⟨_,by omega,b,k+1,by simp,by omega,rfl,he,sub8 _ _ h87,⟨cs,hcs,sub8 _ _ h07⟩,sub7.trans sub8⟩
 ·have hge:l.length≤k:=by have:=of_decide_eq_false hge;omega
  rw [List.drop_eq_nil_of_le hge] at he
  have he:grt key c l=b:=he
  rw [he] at hK
  refine qAF (qAW h85 rfl) (qAR h05 (by rw [hcs];rfl) hcs rfl λs6 h6 u6=>qAF (qAW h6 rfl) ?_)
  exact hK _ (sub5.upto u6 hb0)
theorem qZk {key:Cand→Int} {kv:AV} {o:Option (Nat × List AV)} {v:AV} {c:Cand} {l:List Cand} (h:SlC s v (c :: l)) (hl:l.length≤1000) (ho:Held o s)
  (hkey:∀ (x:Cand) (s':Hq) (K:AV→Hq→Prop),Held o s'→(∀ s'',Sub s' s''→K (.int .i64 (key x)) s'')→funK Tryz.prog XX kv [.agg (qK7 x)] K s')
  (hK:∀ s',Sub s s'→K (.agg (qK7 (grt key c l))) s'):wC Tryz.prog XX 82 [v,kv] K s:=by
 refine qFH (qAJ λb0 s1 hb0 h1 u1=>?_)
 have sub1:=u1.sub hb0
 obtain ⟨pb,po,g1,g2,_,_⟩:=qPD (h.sub sub1) (k:=0) (by simp)
 have g1:qAH 2 v (.int .i64 0)=some (.ptr pb po):=g1
 simp only [g1,g2,qAA]
 refine hkey c _ _ ((ho.sub sub1).frz) λs2 sub2 _=>?_
 refine newM (l:=[(s1,add s1 s2)]) λb8 s3 hb8 h8 u8=>?_
 refine qAR h8 rfl rfl rfl λs4 h4 u4=>?_
 obtain ⟨v',d1,d2,_⟩:=h.drop (k:=1) (by simp) (by simp)
 have d1:qCT 2 v (some (.int .i64 1)) none none=some v':=d1
 have d2:SlC s v' l:=d2
 simp only [d1,qAA,d2.len,List.length_map]
 have subA:Sub s (add s1 s2):=sub1.trans qFc
 have hb8s:s b8=none:=by
  cases e:s b8 with
  | none=>rfl
  | some x=>rw [subA b8 x e] at hb8;cases hb8
 have sub4:Sub s s4:=(subA.trans qFc).upto u4 hb8s
 have hne:b0≠b8:=by
  rintro rfl
  rw [show add s1 s2 b0=_ from qBM h1] at hb8;cases hb8
 have h04:s4 b0=some (false,.cells 36 [.int .u32 0,.int .i64 0]):=by
  rw [u4 b0 hne];exact qFc b0 _ (qBM h1)
 refine ⟨λys s5 n=>∃ (b:Cand) (k:Nat),ys=[.int .i64 (key b),.int .i64 k]∧k≤l.length∧n=l.length - k∧grt key c l=grt key b (l.drop k)∧s5 b8=some (false,.cells 36 (qK7 b))∧(∃ cs,cs.length=2∧s5 b0=some (false,.cells 36 cs))∧Sub s s5,⟨_,c,0,rfl,by omega,rfl,by simp,h4,⟨_,rfl,h04⟩,sub4⟩,?_⟩
 rintro f s5 n ⟨b,k,hy,hk,rfl,he,h85,⟨cs,hcs,h05⟩,sub5⟩
 simp only [List.cons.injEq,and_true] at hy
 rw [hy.1,hy.2]
 simp only [qCz,qAM,qAA]
 refine qAC (λhlt=>?_) (λhge=>?_)
 ·have hlt:k < l.length:=by have:=of_decide_eq_true hlt;omega
  rw [List.drop_eq_getElem_cons hlt,qQW] at he
  obtain ⟨pb,po,g1,g2,_,_⟩:=qPD (d2.sub sub5) hlt
  simp only [g1,g2,qAA]
  refine qAJ λb17 s6 hb17 h6 u6=>qAR h6 rfl rfl rfl λs7 h7 u7=>qAF (qAW h7 rfl) ?_
  have hb17s:s b17=none:=by
   cases e:s b17 with
   | none=>rfl
   | some x=>rw [sub5 b17 x e] at hb17;cases hb17
  have sub7:Sub s s7:=(sub5.trans (u6.sub hb17)).upto u7 hb17s
  have n8:b8≠b17:=by rintro rfl;rw [h85] at hb17;cases hb17
  have n0:b0≠b17:=by rintro rfl;rw [h05] at hb17;cases hb17
  have h87:s7 b8=_:=(u7 b8 n8).trans (u6.at h85 hb17)
  have h07:s7 b0=_:=(u7 b0 n0).trans (u6.at h05 hb17)
  refine hkey l[k] _ _ (ho.sub sub7) λs8 sub8=>?_
  simp only [qA4,qAA,qBl,qAK]
  rw [qAT (by omega) (by omega)]
  refine qAC (λhg=>?_) (λhg=>?_)
  ·rw [if_pos (of_decide_eq_true hg)] at he
   refine qAF (qAW (sub8 _ _ h7) rfl) (qAR (sub8 _ _ h87) rfl rfl rfl λs9 h9 u9=>?_)
   exact ⟨_,by omega,l[k],k+1,by simp,by omega,rfl,he,h9,⟨cs,hcs,(u9 b0 hne).trans (sub8 _ _ h07)⟩,(sub7.trans sub8).upto u9 hb8s⟩
  ·rw [if_neg (of_decide_eq_false hg)] at he
   exact ⟨_,by omega,b,k+1,by simp,by omega,rfl,he,sub8 _ _ h87,⟨cs,hcs,sub8 _ _ h07⟩,sub7.trans sub8⟩
 ·have hge:l.length≤k:=by have:=of_decide_eq_false hge;omega
  rw [List.drop_eq_nil_of_le hge] at he
  have he:grt key c l=b:=he
  rw [he] at hK
  refine qAF (qAW h85 rfl) (qAR h05 (by rw [hcs];rfl) hcs rfl λs6 h6 u6=>qAF (qAW h6 rfl) ?_)
  exact hK _ (sub5.upto u6 hb0)
theorem zADF {v:AV} {c:Cand} {l:List Cand} {bd:Int} (h:SlC s v (c :: l)) (hb:0≤bd) (hK:∀ s',Sub s s'→K (.agg (qK7 (((c :: l)[(bd % ((c :: l).length:Int)).toNat]?).getD c))) s'):wC Tryz.prog XX 76 [v,.int .i64 bd] K s:=by
 refine qMC (qAJ λb s1 hb1 h1 u1=>?_)
 have hs:=h.sub (u1.sub hb1)
 have hpos:((c :: l).length:Int)≠0:=by have:(c :: l).length=l.length+1:=rfl;omega
 simp only [hs.len,qAA,List.length_map,qMR hpos]
 have h0:=Int.emod_nonneg bd hpos
 have hlt:=Int.emod_lt_of_pos bd (show (0:Int) < (c :: l).length by have:(c :: l).length=l.length+1:=rfl;omega)
 have e1:bd.tmod ((c :: l).length:Int)=((bd % ((c :: l).length:Int)).toNat:Nat):=by rw [Int.tmod_eq_emod_of_nonneg hb,Int.toNat_of_nonneg h0]
 rw [e1]
 have hk:(bd % ((c :: l).length:Int)).toNat < (c :: l).length:=by omega
 rw [List.getElem?_eq_getElem hk,Option.getD_some] at hK
 obtain ⟨pb,po,g1,g2,_,_⟩:=qPD hs hk
 simp only [g1,g2,qAA]
 refine qAR h1 rfl rfl rfl λs2 h2 u2=>?_
 refine qAF (qAW h2 rfl) ?_
 exact hK _ ((u1.sub hb1).upto u2 hb1)
theorem zACN {q:Nat} {bd:Int} {x:Cand} (ho:Held (some (q,[.int .i64 bd])) s) (hK:∀ s',Sub s s'→K (.int .u64 (wt x.1 bd)) s'):wC Tryz.prog XX 79 [.agg (qK7 x),.ptr q 0] K s:=by
 refine qKh ⟨rfl,qAJ λb s1 hb h1 u1=>?_⟩
 obtain ⟨t,e,hq⟩:=ho q _ rfl
 have hq1:=u1.sub hb _ _ hq
 simp only [qAG,qAA,qAO h1,qAO hq1,List.getElem?_cons_zero]
 refine qX9 λs2 sub2=>hK _ ((u1.sub hb).trans sub2)
theorem zABi {x:Cand} (hK:∀ s',Sub s s'→K (.int .i64 x.2) s'):wC Tryz.prog XX 83 [.agg (qK7 x)] K s:=by
 refine qKe ⟨rfl,qAJ λb s1 hb h1 u1=>?_⟩
 simp only [qAG,qAA,qAO h1]
 exact hK _ (u1.sub hb)
theorem zAD3 {v:AV} {c:Cand} {l:List Cand} {bd:Int} (h:SlC s v (c :: l)) (hl:l.length≤1000) (hK:∀ s',Sub s s'→K (.agg (qK7 (grt (λc=>wt c.1 bd) c l))) s'):wC Tryz.prog XX 77 [v,.int .i64 bd] K s:=by
 refine qMQ (qQ5 rfl λq s1 hq h1 u1=>qAJ λb2 s2 hb2 h2 u2=>?_)
 have sub:=(u1.sub hq).trans (u2.sub hb2)
 refine qW8 (key:=λc=>wt c.1 bd) (o:=some (q,[.int .i64 bd])) (h.sub sub) hl (λq' cs e=>by cases e;exact ⟨_,_,u2.at h1 hb2⟩) (λx s' K ho hk=>qPY (by kernel_rfl) (zACN ho hk)) λs3 sub3=>?_
 refine qAR (sub3 _ _ h2) rfl rfl rfl λs4 h4 u4=>?_
 refine qAF (qAW h4 rfl) ?_
 have hb:s b2=none:=by
  cases e:s b2 with
  | none=>rfl
  | some x=>rw [u1.sub hq b2 x e] at hb2;cases hb2
 exact hK _ ((sub.trans sub3).upto u4 hb)
theorem zAC1 {v w:AV} {c:Cand} {l:List Cand} (h:SlC s v (c :: l)) (hl:l.length≤1000) (hK:∀ s',Sub s s'→K (.agg (qK7 (grt (λc=>c.2) c l))) s'):wC Tryz.prog XX 81 [v,w] K s:=by
 refine qL0 (qAJ λb2 s2 hb2 h2 u2=>?_)
 refine qZk (key:=λc=>c.2) (o:=none) (h.sub (u2.sub hb2)) hl (λq' cs e=>by cases e) (λx s' K ho hk=>qPY (by kernel_rfl) (zABi hk)) λs3 sub3=>?_
 refine qAR (sub3 _ _ h2) rfl rfl rfl λs4 h4 u4=>?_
 refine qAF (qAW h4 rfl) ?_
 exact hK _ (((u2.sub hb2).trans sub3).upto u4 hb2)
def algT:List AV:=[.fn (.func 76) [] [],.fn (.func 77) [] [],.fn (.func 81) [] []]
theorem qUh (hK:∀ s',Sub s s'→K (.agg algT) s'):wC Tryz.prog XX 50 [] K s:=by
 refine qIw (qAJ λb s1 hb h1 u1=>?_)
 refine qAF (a:=algT) rfl ?_
 refine qAR h1 rfl rfl rfl λs2 h2 u2=>?_
 refine qAF (qAW h2 rfl) ?_
 exact hK _ ((u1.sub hb).upto u2 hb)
end Go.AM.EL
namespace Go.AM.EL
open Go Go.Proofs
variable {K : AV → Hq → Prop} {s : Hq}
def ascB:List Cand→Bool
 | []=>true
 | [_]=>true
 | x :: y :: r=>decide (x.1 < y.1)&&ascB (y :: r)
theorem qYU {l:List Cand} {i:Nat} (h1:1≤i) (h:i < l.length):ascB (l.drop (i - 1))=(decide (l[i - 1].1 < l[i].1)&&ascB (l.drop i)):=by
 have e1:l.drop (i - 1)=l[i - 1] :: l.drop i:=by
  rw [List.drop_eq_getElem_cons (show i - 1 < l.length by omega)]
  congr 2;omega
 rw [e1,List.drop_eq_getElem_cons h]
 rfl
def pick (alg bd:Int) (c:Cand) (l:List Cand):Cand:=
 if alg=0 then ((c :: l)[(bd % ((c :: l).length:Int)).toNat]?).getD c else if alg=1 then grt (λc=>wt c.1 bd) c l else grt (λc=>c.2) c l
def elect (alg:Int) (l:List Cand) (bd:Int):Int × Bool:=match l with
 | []=>(0,false)
 | c :: r=>if alg < 0∨3≤alg∨bd < 0 then (0,false) else if ascB (c :: r)=true then ((pick alg bd c r).1,true) else (0,false)
theorem qMu (alg:Int) (c:Cand) (r:List Cand) (bd:Int):elect alg (c :: r) bd=if alg < 0∨3≤alg∨bd < 0 then (0,false) else if ascB (c :: r)=true then ((pick alg bd c r).1,true) else (0,false):=rfl
theorem zAAX {v:AV} {l:List Cand} {alg bd:Int} (h:SlC s v l) (hl:l.length≤1000) (hK:∀ s',Sub s s'→K (.tup [.int .u32 (elect alg l bd).1,.bool (elect alg l bd).2]) s'):wC Tryz.prog XX 28 [.int .i64 alg,v,.int .i64 bd] K s:=by
 refine qUe (qUh λs1 sub1=>qAJ λt s2 ht h2 u2=>qAR h2 rfl rfl rfl λs3 h3 u3=>?_)
 have hts:s t=none:=by
  cases e:s t with
  | none=>rfl
  | some x=>rw [sub1 t x e] at ht;cases ht
 have sub3:Sub s s3:=(sub1.trans (u2.sub ht)).upto u3 hts
 have hk:=hK s3 sub3
 cases l with
 | nil=>
   simp only [h.len,List.map_nil,List.length_nil,qAA,qAe,qAZ,qGv,qG8,qG3]
   simp only [Int.ofNat_zero,beq_self_eq_true,Bool.false_bne,qAh,qAg,qAA]
   exact hk
 | cons c r=>
   have hz:(((c :: r).length:Int) == 0)=false:=by
    have:(c :: r).length=r.length+1:=rfl
    cases q:(((c :: r).length:Int) == 0) with
    | false=>rfl
    | true=>have:=eq_of_beq q;omega
   by_cases hc:alg < 0∨3≤alg∨bd < 0
   ·have hk:K (.tup [.int .u32 0,.bool false]) s3:=by
     rw [qMu,if_pos hc] at hk
     exact hk
    simp only [h.len,List.length_map,hz,qAA,qAe,qAZ,Bool.false_bne,qAQ,qAM,qAz,qGv,qG8,qG3]
    by_cases n0:alg < 0 <;> by_cases n1:3≤alg <;> by_cases n2:bd < 0 <;> first | (exfalso;omega) | (simp only [n0,n1,n2,decide_true,decide_false,qAh,qAQ,qAg,qAf,qAA];exact hk)
   ·have n0:¬ alg < 0:=by omega
    have n1:¬ 3≤alg:=by omega
    have n2:¬ bd < 0:=by omega
    simp only [h.len,List.length_map,hz,qAA,qAe,qAZ,Bool.false_bne,qAQ,qAM,qAz,qGv,qG8,qG3,n0,n1,n2,decide_false,qAf]
    have e0:elect alg (c :: r) bd=if ascB (c :: r)=true then ((pick alg bd c r).1,true) else (0,false):=by
     rw [qMu,if_neg hc]
    rw [e0] at hk
    have hlen:(c :: r).length=r.length+1:=rfl
    have h3':=h.sub sub3
    refine ⟨λys s4 n=>∃ i:Nat,ys=[.int .i64 i]∧s4=s3∧1≤i∧i≤(c :: r).length∧n=(c :: r).length - i∧ascB (c :: r)=ascB ((c :: r).drop (i - 1)),⟨_,1,rfl,rfl,by omega,by omega,rfl,rfl⟩,?_⟩
    rintro f s4 n ⟨i,hy,rfl,hi1,hi,rfl,he⟩
    simp only [List.cons.injEq,and_true] at hy
    rw [hy]
    simp only [qN5,h.len,List.length_map,qAA,qAM]
    refine qAC (λhlt=>?_) (λhge=>?_)
    ·have hlt:i < (c :: r).length:=by have:=of_decide_eq_true hlt;omega
     rw [qYU hi1 hlt] at he
     obtain ⟨pb,po,g1,_,g2,_⟩:=qPD h3' hlt
     obtain ⟨qb,qo,g3,_,g4,_⟩:=qPD h3' (k:=i - 1) (by omega)
     have ew:IntKind.i64.wrap ((i:Int) - 1)=((i - 1:Nat):Int):=by rw [qAT (by omega) (by omega)];omega
     simp only [g1,qAA,qAG,g2,qAo,ew,g3,g4,qCA]
     refine qAC (λhle=>?_) (λhle=>?_)
     ·have:decide ((c :: r)[i - 1].1 < (c :: r)[i].1)=false:=by have:=of_decide_eq_true hle;simp;omega
      rw [this,Bool.false_and] at he
      rw [he,if_neg (by simp)] at hk
      exact hk
     ·have:decide ((c :: r)[i - 1].1 < (c :: r)[i].1)=true:=by have:=of_decide_eq_false hle;simp;omega
      rw [this,Bool.true_and] at he
      simp only [qAK,qAA]
      rw [qAT (by omega) (by omega)]
      exact ⟨_,by omega,i+1,by simp,by trivial,by omega,by omega,rfl,he⟩
    ·have hge:i=(c :: r).length:=by have:=of_decide_eq_false hge;omega
     have hlast:ascB ((c :: r).drop (i - 1))=true:=by
      rw [List.drop_eq_getElem_cons (show i - 1 < (c :: r).length by omega),List.drop_eq_nil_of_le (by omega)];rfl
     have he':elect alg (c :: r) bd=((pick alg bd c r).1,true):=by rw [e0,if_pos (he.trans hlast)]
     rw [he'] at hK
     clear hk
     have fin:∀ (x:Cand),(∀ s',Sub s s'→K (.tup [.int .u32 x.1,.bool true]) s')→∀ s',Sub s4 s'→oK (qVU none 0 (.agg (qK7 x))) λv_27=>K (.tup [v_27,.bool true]) s':=λx hx s' hs=>hx s' (sub3.trans hs)
     obtain rfl | rfl | rfl:alg=0∨alg=1∨alg=2:=by omega
     ·refine qAF (a:=.ptr t 0) rfl (qAF (a:=.fn (.func 76) [] []) (by rw [qAO h3];rfl) ?_)
      exact qPY (by kernel_rfl) (zADF h3' (by omega) (fin _ hK))
     ·refine qAF (a:=.ptr t 1) rfl (qAF (a:=.fn (.func 77) [] []) (by rw [qAO h3];rfl) ?_)
      exact qPY (by kernel_rfl) (zAD3 h3' (by omega) (fin _ hK))
     ·refine qAF (a:=.ptr t 2) rfl (qAF (a:=.fn (.func 81) [] []) (by rw [qAO h3];rfl) ?_)
      exact qPY (by kernel_rfl) (zAC1 h3' (by omega) (fin _ hK))
theorem zAEV {s0 s s2:Hq} (h:Sub s0 s):Sub s0 (cutH [(s,add s s2)] (add s s2)):=λi e hi=>qQo (h i e hi) (qBM (h i e hi))
end Go.AM.EL
namespace Go.AM.EL
open Go Go.Proofs
variable {K : AV → Hq → Prop} {s : Hq}
end Go.AM.EL
