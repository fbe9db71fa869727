/- Part G of a calculus over a small memory that is proved to answer as the program does, and of its use for the functions that the law reaches: see the last part. -/
import Derived.Test.YtgehkpnggfnapaaGreatDoorU2
import Derived.Test.YtgehkpnggfnapaaGreatDoorV2
set_option linter.unusedVariables false
namespace Go.AM.SG
abbrev Cd:=Int × Int
def Srt (l:List Cd):Prop:=l.Pairwise λu v=>u.1≤v.1
def fk (x:Int) (l:List Cd):List Cd:=l.filter λc=>decide (c.1=x)
def Stb (l l':List Cd):Prop:=∀ x,fk x l'=fk x l
theorem qSN {x:Int} {l m:List Cd}:fk x (l ++ m)=fk x l ++ fk x m:=List.filter_append ..
theorem Stb.refl (l:List Cd):Stb l l:=λ_=>rfl
theorem Stb.trans {l m n:List Cd} (h:Stb l m) (h':Stb m n):Stb l n:=λx=>(h' x).trans (h x)
theorem Stb.app {l l' m m':List Cd} (h:Stb l l') (h':Stb m m'):Stb (l ++ m) (l' ++ m'):=λx=>by rw [qSN,qSN,h x,h' x]
theorem qUz {x:Int} {l:List Cd} {c:Cd}:c∈fk x l↔c∈l∧c.1=x:=by unfold fk;rw [List.mem_filter,decide_eq_true_eq]
theorem Stb.mem {l l':List Cd} (h:Stb l l') {c:Cd}:c∈l'↔c∈l:=by
 have h1:c∈fk c.1 l'↔c∈fk c.1 l:=by rw [h c.1]
 rw [qUz,qUz] at h1
 simpa using h1
theorem qY5 {x:Int} {l:List Cd} (h:∀ c∈l,c.1≠x):fk x l=[]:=by
 unfold fk
 exact List.filter_eq_nil_iff.2 λc hc=>by simpa using h c hc
theorem Stb.swap {U V:List Cd} (h:∀ u∈U,∀ v∈V,v.1 < u.1):Stb (U ++ V) (V ++ U):=λx=>by
 rw [qSN,qSN]
 by_cases q:∃ u∈U,u.1=x
 ·obtain ⟨u,hu,rfl⟩:=q
  rw [qY5 (l:=V) λv hv=>by have:=h u hu v hv;omega]
  simp
 ·rw [qY5 (l:=U) λu hu e=>q ⟨u,hu,e⟩]
  simp
theorem Srt.app {l m:List Cd} (h:Srt l) (h':Srt m) (hlm:∀ u∈l,∀ v∈m,u.1≤v.1):Srt (l ++ m):=List.pairwise_append.2 ⟨h,h',hlm⟩
theorem Srt.parts {l m:List Cd} (h:Srt (l ++ m)):Srt l∧Srt m∧∀ u∈l,∀ v∈m,u.1≤v.1:=List.pairwise_append.1 h
structure Mrg (X Y Z:List Cd):Prop where
 srt:Srt Z
 stb:Stb (X ++ Y) Z
 len:Z.length=X.length+Y.length
theorem Mrg.nil_l {Y:List Cd} (h:Srt Y):Mrg [] Y Y:=⟨h,.refl _,by simp⟩
theorem Mrg.nil_r {X:List Cd} (h:Srt X):Mrg X [] X:=⟨h,by rw [List.append_nil];exact .refl _,by simp⟩
theorem Mrg.halves {A U V B Z W:List Cd} (hX:Srt (A ++ U)) (hY:Srt (V ++ B)) (h1:∀ a∈A,∀ b∈B,a.1≤b.1) (h2:∀ u∈U,∀ v∈V,v.1 < u.1) (hZ:Mrg A V Z) (hW:Mrg U B W):Mrg (A ++ U) (V ++ B) (Z ++ W):=by
 obtain ⟨_,_,x3⟩:=hX.parts
 obtain ⟨_,_,y3⟩:=hY.parts
 refine ⟨hZ.srt.app hW.srt λz hz w hw=>?_,?_,?_⟩
 ·have hz:=hZ.stb.mem.1 hz
  have hw:=hW.stb.mem.1 hw
  rcases List.mem_append.1 hz with p | p <;> rcases List.mem_append.1 hw with q | q
  ·exact x3 z p w q
  ·exact h1 z p w q
  ·have:=h2 w q z p;omega
  ·exact y3 z p w q
 ·have e1:Stb (A ++ U ++ (V ++ B)) (A ++ V ++ (U ++ B)):=by
   have:=((Stb.refl A).app (Stb.swap h2)).app (Stb.refl B)
   simpa [List.append_assoc] using this
  exact e1.trans (hZ.stb.app hW.stb)
 ·rw [lAp,lAp,lAp,hZ.len,hW.len]
  omega
theorem Mrg.one_l {a:Cd} {V B:List Cd} (hY:Srt (V ++ B)) (h1:∀ v∈V,v.1 < a.1) (h2:∀ b∈B,a.1≤b.1):Mrg [a] (V ++ B) (V ++ (a :: B)):=by
 have hs:Srt ([] ++ [a]):=by unfold Srt;simp
 have hb:Srt B:=hY.parts.2.1
 have:=Mrg.halves (A:=[]) (U:=[a]) (V:=V) (B:=B) (Z:=V) (W:=a :: B) hs hY (λa h=>by cases h) (λu hu v hv=>by rw [List.mem_singleton] at hu;rw [hu];exact h1 v hv) (Mrg.nil_l hY.parts.1) ⟨?_,Stb.refl _,by simp;omega⟩
 ·exact this
 ·exact List.pairwise_cons.2 ⟨h2,hb⟩
theorem Mrg.one_r {y:Cd} {A U:List Cd} (hX:Srt (A ++ U)) (h1:∀ a∈A,a.1≤y.1) (h2:∀ u∈U,y.1 < u.1):Mrg (A ++ U) [y] (A ++ (y :: U)):=by
 have hs:Srt ([y] ++ []):=by unfold Srt;simp
 have:=Mrg.halves (A:=A) (U:=U) (V:=[y]) (B:=[]) (Z:=A ++ [y]) (W:=U) hX hs (λa _ b h=>by cases h) (λu hu v hv=>by rw [List.mem_singleton] at hv;rw [hv];exact h2 u hu) ⟨hX.parts.1.app (by unfold Srt;simp) λu hu v hv=>by rw [List.mem_singleton] at hv;rw [hv];exact h1 u hu,Stb.refl _,by simp⟩ (Mrg.nil_r hX.parts.2.1)
 simpa [List.append_assoc] using this
def Sct (l:List Cd):Prop:=l.Pairwise λu v=>u.1 < v.1
structure Fst1 (l o:List Cd):Prop where
 srt:Sct o
 mem:∀ c,c∈o↔(fk c.1 l).head?=some c
theorem zAAZ {l m:List Cd} (hl:Sct l) (hm:Sct m) (h:∀ c,c∈l↔c∈m):l=m:=by
 have nl:l.Nodup:=List.Pairwise.imp (fun {a b} h e=>by rw [e] at h;omega) hl
 have nm:m.Nodup:=List.Pairwise.imp (fun {a b} h e=>by rw [e] at h;omega) hm
 exact List.Perm.eq_of_pairwise (le:=λa b:Cd=>a.1 < b.1) (λa b _ _ h1 h2=>by omega) hl hm ((List.perm_ext_iff_of_nodup nl nm).2 h)
theorem Fst1.same {l l' o o':List Cd} (h:Fst1 l o) (h':Fst1 l' o') (s:Stb l l'):o=o':=
 zAAZ h.srt h'.srt λc=>by rw [h.mem,h'.mem,s c.1]
end Go.AM.SG
namespace Go.AM.SG
theorem qTt {x:Int} {a:Cd} {l:List Cd}:fk x (a :: l)=if a.1=x then a :: fk x l else fk x l:=by
 unfold fk
 rw [List.filter_cons]
 by_cases h:a.1=x
 ·simp [h]
 ·simp [h]
def rnk (o:List Cd) (x:Int):Nat:=o.countP λc=>decide (c.1 < x)
def putL (o:List Cd) (c:Cd):List Cd:=if ∃ d∈o,d.1=c.1 then o else o.take (rnk o c.1) ++ c :: o.drop (rnk o c.1)
theorem qOM:∀ {o:List Cd} {x:Int},Sct o→(∀ d∈o.take (rnk o x),d.1 < x)∧∀ d∈o.drop (rnk o x),x≤d.1
 | [],_,_=>by simp
 | a :: o,x,h=>by
   obtain ⟨h1,h2⟩:=List.pairwise_cons.1 h
   have ih:=qOM (x:=x) h2
   by_cases q:a.1 < x
   ·have e:rnk (a :: o) x=rnk o x+1:=by unfold rnk;rw [List.countP_cons,if_pos (by simpa using q)]
    rw [e,List.take_succ_cons,List.drop_succ_cons]
    exact ⟨λd hd=>by
     rcases List.mem_cons.1 hd with r | r
     ·rw [r];exact q
     ·exact ih.1 d r,ih.2⟩
   ·have e:rnk (a :: o) x=0:=by
     unfold rnk
     rw [List.countP_eq_zero]
     intro d hd
     rcases List.mem_cons.1 hd with r | r
     ·rw [r];simpa using q
     ·have:=h1 d r;simp;omega
    rw [e]
    exact ⟨by simp,λd hd=>by
     rcases List.mem_cons.1 hd with r | r
     ·rw [r];omega
     ·have:=h1 d r;omega⟩
theorem zAEA {l o:List Cd} {c:Cd} (h:Fst1 l o):Fst1 (l ++ [c]) (putL o c):=by
 have hf:∀ x,fk x (l ++ [c])=fk x l ++ (if c.1=x then [c] else []):=λx=>by
  rw [qSN,qTt]
  congr 1
 have keep:∀ x,(∃ d∈o,d.1=x)→(fk x (l ++ [c])).head?=(fk x l).head?:=λx ⟨d,hd,e⟩=>by
  have:=(h.mem d).1 hd
  rw [e] at this
  rw [hf]
  cases hl:fk x l with
  | nil=>rw [hl] at this;cases this
  | cons a r=>rfl
 have none_:∀ x,(¬ ∃ d∈o,d.1=x)→fk x l=[]:=λx hx=>by
  cases hl:fk x l with
  | nil=>rfl
  | cons a r=>
    have ha:a.1=x:=(qUz.1 (by rw [hl];simp:a∈fk x l)).2
    exact absurd ⟨a,(h.mem a).2 (by rw [ha,hl];rfl),ha⟩ hx
 unfold putL
 by_cases q:∃ d∈o,d.1=c.1
 ·rw [if_pos q]
  refine ⟨h.srt,λd=>?_⟩
  rw [h.mem]
  by_cases e:∃ y∈o,y.1=d.1
  ·rw [keep _ e]
  ·have hc:¬ c.1=d.1:=λr=>e (by rw [← r];exact q)
   rw [hf,if_neg hc,List.append_nil]
 ·rw [if_neg q]
  obtain ⟨k1,k2⟩:=qOM (x:=c.1) h.srt
  have hs:=h.srt
  rw [← List.take_append_drop (rnk o c.1) o] at hs
  obtain ⟨s1,s2,s3⟩:=List.pairwise_append.1 hs
  have k2':∀ d∈o.drop (rnk o c.1),c.1 < d.1:=λd hd=>by
   have:=k2 d hd
   have hne:d.1≠c.1:=λe=>q ⟨d,List.mem_of_mem_drop hd,e⟩
   omega
  refine ⟨List.pairwise_append.2 ⟨s1,List.pairwise_cons.2 ⟨k2',s2⟩,λu hu v hv=>?_⟩,λd=>?_⟩
  ·rcases List.mem_cons.1 hv with r | r
   ·rw [r];exact k1 u hu
   ·exact s3 u hu v r
  ·have m:d∈o.take (rnk o c.1) ++ c :: o.drop (rnk o c.1)↔d=c∨d∈o:=by
    have:d∈o↔d∈o.take (rnk o c.1)∨d∈o.drop (rnk o c.1):=by rw [← List.mem_append,List.take_append_drop]
    rw [List.mem_append,List.mem_cons,this]
    constructor
    ·rintro (h | h | h)
     ·exact .inr (.inl h)
     ·exact .inl h
     ·exact .inr (.inr h)
    ·rintro (h | h | h)
     ·exact .inr (.inl h)
     ·exact .inl h
     ·exact .inr (.inr h)
   rw [m,hf]
   by_cases e:c.1=d.1
   ·rw [if_pos e,none_ d.1 (by rw [← e];exact q),List.nil_append,List.head?_cons]
    constructor
    ·rintro (h | h)
     ·rw [h]
     ·exact absurd ⟨d,h,e.symm⟩ q
    ·intro h
     exact .inl (Option.some.inj h).symm
   ·rw [if_neg e,List.append_nil,← h.mem d]
    exact ⟨λh=>h.elim (λh=>absurd (by rw [h]) e) id,.inr⟩
def qI4 (l:List Cd):List Cd:=l.foldl putL []
theorem qRh (l:List Cd):Fst1 l (qI4 l):=by
 have:∀ (m p o:List Cd),Fst1 p o→Fst1 (p ++ m) (m.foldl putL o):=by
  intro m
  induction m with
  | nil=>intro p o h;rw [List.append_nil];exact h
  | cons c m ih=>
    intro p o h
    have:=ih (p ++ [c]) (putL o c) (zAEA h)
    rw [List.append_assoc] at this
    exact this
 exact this l [] [] ⟨List.Pairwise.nil,λc=>by simp [fk]⟩
end Go.AM.SG
namespace Go.AM.SG
def cAt (l:List Cd) (j:Nat):Cd:=l.getD j (0,0)
def swpC (l:List Cd) (i j:Nat):List Cd:=(l.set i (cAt l j)).set j (cAt l i)
theorem qQA {l:List Cd} {i j:Nat}:(swpC l i j).length=l.length:=by simp [swpC]
theorem qDA {l:List Cd} {j:Nat} (h:j < l.length):cAt l j=l[j]:=by simp [cAt,h]
theorem qTx {l:List Cd} {i j:Nat} {x:Cd} (hi:i < l.length):cAt (l.set i x) j=if j=i then x else cAt l j:=by
 unfold cAt
 rw [List.getD_eq_getElem?_getD,List.getElem?_set,List.getD_eq_getElem?_getD]
 by_cases h:j=i
 ·subst h;simp [hi]
 ·rw [if_neg (Ne.symm h),if_neg h]
theorem qXH {l:List Cd} {i j k:Nat} (hi:i < l.length) (hj:j < l.length):cAt (swpC l i j) k=if k=j then cAt l i else if k=i then cAt l j else cAt l k:=by
 unfold swpC
 rw [qTx (by simpa using hj),qTx hi]
theorem qVd {l m:List Cd} (hl:l.length=m.length) (h:∀ k,k < l.length→cAt l k=cAt m k):l=m:=by
 refine List.ext_getElem hl λk h1 h2=>?_
 rw [← qDA h1,← qDA h2]
 exact h k h1
theorem qC7 {l m:List Cd} {k:Nat}:cAt (l ++ m) k=if k < l.length then cAt l k else cAt m (k - l.length):=by
 unfold cAt
 rw [List.getD_eq_getElem?_getD,List.getD_eq_getElem?_getD,List.getD_eq_getElem?_getD,List.getElem?_append]
 by_cases h:k < l.length
 ·rw [if_pos h,if_pos h]
 ·rw [if_neg h,if_neg h]
structure SwR (l:List Cd) (a b k:Nat) (l':List Cd):Prop where
 len:l'.length=l.length
 at_:∀ i,cAt l' i=if a≤i∧i < a+k then cAt l (b+(i - a)) else if b≤i∧i < b+k then cAt l (a+(i - b)) else cAt l i
theorem SwR.start {l:List Cd} {a b:Nat}:SwR l a b 0 l:=⟨rfl,λi=>by rw [if_neg (by omega),if_neg (by omega)]⟩
theorem SwR.step {l l':List Cd} {a b k:Nat} (h:SwR l a b k l') (hab:a+k < b) (hb:b+k < l.length):SwR l a b (k+1) (swpC l' (a+k) (b+k)):=by
 refine ⟨by rw [qQA,h.len],λi=>?_⟩
 rw [qXH (by rw [h.len];omega) (by rw [h.len];omega),h.at_ i,h.at_ (a+k),h.at_ (b+k)]
 by_cases c1:i=b+k
 ·rw [if_pos c1,if_neg (by omega),if_neg (by omega),if_neg (by omega),if_pos (by omega)]
  congr 1
  omega
 ·rw [if_neg c1]
  by_cases c2:i=a+k
  ·rw [if_pos c2,if_neg (by omega),if_neg (by omega),if_pos (by omega)]
   congr 1
   omega
  ·rw [if_neg c2]
   by_cases c3:a≤i∧i < a+k
   ·rw [if_pos c3,if_pos (by omega)]
   ·rw [if_neg c3]
    by_cases c4:b≤i∧i < b+k
    ·rw [if_pos c4,if_neg (by omega),if_pos (by omega)]
    ·rw [if_neg c4,if_neg (by omega),if_neg (by omega)]
theorem SwR.parts {P X Q Y R l':List Cd} (hn:X.length=Y.length) (h:SwR (P ++ X ++ Q ++ Y ++ R) P.length (P.length+X.length+Q.length) X.length l'):l'=P ++ Y ++ Q ++ X ++ R:=by
 refine qVd (by rw [h.len];simp only [lAp];omega) λk hk=>?_
 rw [h.len] at hk
 simp only [lAp] at hk
 rw [h.at_ k]
 simp only [qC7,lAp]
 by_cases c1:k < P.length
 ·rw [if_neg (by omega),if_neg (by omega)]
  simp only [show k < P.length+X.length+Q.length+Y.length by omega,show k < P.length+X.length+Q.length by omega,show k < P.length+X.length by omega,c1,if_true,show k < P.length+Y.length+Q.length+X.length by omega,show k < P.length+Y.length+Q.length by omega,show k < P.length+Y.length by omega]
 by_cases c2:k < P.length+X.length
 ·rw [if_pos (by omega)]
  have e:P.length+X.length+Q.length+(k - P.length) - (P.length+X.length+Q.length)=k - P.length:=by omega
  rw [if_pos (by omega),if_neg (by omega),e,if_pos (by omega),if_pos (by omega),if_pos (by omega),if_neg c1]
 by_cases c3:k < P.length+X.length+Q.length
 ·rw [if_neg (by omega),if_neg (by omega),if_pos (by omega),if_pos (by omega),if_neg (by omega),if_pos (by omega),if_pos (by omega),if_neg (by omega)]
  congr 1
  omega
 by_cases c4:k < P.length+X.length+Q.length+Y.length
 ·rw [if_neg (by omega),if_pos (by omega),if_pos (by omega),if_pos (by omega),if_pos (by omega),if_neg (by omega),if_pos (by omega),if_neg (by omega)]
  congr 1
  omega
 ·rw [if_neg (by omega),if_neg (by omega),if_neg (by omega),if_neg (by omega)]
  congr 1
  omega
theorem zADa {D X1 X2 Y E l':List Cd} (hn:X1.length=Y.length) (h:SwR (D ++ (X1 ++ X2) ++ Y ++ E) D.length (D.length+X1.length+X2.length) X1.length l'):l'=(D ++ Y) ++ X2 ++ X1 ++ E:=by
 have h':SwR (D ++ X1 ++ X2 ++ Y ++ E) D.length (D.length+X1.length+X2.length) X1.length l':=by
  simpa only [List.append_assoc] using h
 exact h'.parts hn
theorem qXf {D X Y1 Y2 E l':List Cd} (hn:X.length=Y2.length) (h:SwR (D ++ X ++ (Y1 ++ Y2) ++ E) D.length (D.length+X.length+Y1.length) X.length l'):l'=D ++ Y2 ++ Y1 ++ (X ++ E):=by
 have h':SwR (D ++ X ++ Y1 ++ Y2 ++ E) D.length (D.length+X.length+Y1.length) X.length l':=by
  simpa only [List.append_assoc] using h
 have:=h'.parts hn
 simpa only [List.append_assoc] using this
end Go.AM.SG
namespace Go.AM.SG
theorem qLu {X:List Cd} (h:Srt X) {i j:Nat} (hij:i≤j) (hj:j < X.length):(cAt X i).1≤(cAt X j).1:=by
 rw [qDA (by omega),qDA hj]
 by_cases e:i=j
 ·subst e;exact Int.le_refl _
 ·exact List.pairwise_iff_getElem.1 h i j (by omega) hj (by omega)
theorem qJu {X:List Cd} {c:Cd}:c∈X↔∃ i,i < X.length∧cAt X i=c:=by
 rw [List.mem_iff_getElem]
 constructor
 ·rintro ⟨i,h,e⟩;exact ⟨i,h,by rw [qDA h];exact e⟩
 ·rintro ⟨i,h,e⟩;exact ⟨i,h,by rw [← qDA h];exact e⟩
theorem qKJ {X:List Cd} {k i:Nat} (h:i < k):cAt (X.take k) i=cAt X i:=by
 unfold cAt
 rw [List.getD_eq_getElem?_getD,List.getD_eq_getElem?_getD,List.getElem?_take,if_pos h]
theorem qJ6 {X:List Cd} {k i:Nat}:cAt (X.drop k) i=cAt X (k+i):=by
 unfold cAt
 rw [List.getD_eq_getElem?_getD,List.getD_eq_getElem?_getD,List.getElem?_drop]
theorem zADh {X Y:List Cd} {k q:Nat} (hX:Srt X) (hY:Srt Y) (hk:k≤X.length) (hq:q≤Y.length)
  (h1:0 < k→q < Y.length→(cAt X (k - 1)).1≤(cAt Y q).1) (h2:k < X.length→0 < q→(cAt Y (q - 1)).1 < (cAt X k).1) :
  (∀ x∈X.take k,∀ y∈Y.drop q,x.1≤y.1)∧∀ x∈X.drop k,∀ y∈Y.take q,y.1 < x.1:=by
 constructor
 ·intro x hx y hy
  obtain ⟨i,hi,rfl⟩:=qJu.1 hx
  obtain ⟨j,hj,rfl⟩:=qJu.1 hy
  rw [List.length_take] at hi
  rw [List.length_drop] at hj
  rw [qKJ (by omega),qJ6]
  have e1:=qLu hX (i:=i) (j:=k - 1) (by omega) (by omega)
  have e2:=qLu hY (i:=q) (j:=q+j) (by omega) (by omega)
  have:=h1 (by omega) (by omega)
  omega
 ·intro x hx y hy
  obtain ⟨i,hi,rfl⟩:=qJu.1 hx
  obtain ⟨j,hj,rfl⟩:=qJu.1 hy
  rw [List.length_drop] at hi
  rw [List.length_take] at hj
  rw [qKJ (by omega),qJ6]
  have e1:=qLu hX (i:=k) (j:=k+i) (by omega) (by omega)
  have e2:=qLu hY (i:=j) (j:=q - 1) (by omega) (by omega)
  have:=h2 (by omega) (by omega)
  omega
structure SymS (X Y:List Cd) (mid start r:Nat):Prop where
 le:start≤r
 lo:(if mid < X.length then mid - Y.length else 0)≤start
 hi:r≤if mid < X.length then mid else X.length
 s1:(if mid < X.length then mid - Y.length else 0) < start→(cAt X (start - 1)).1≤(cAt Y (mid - start)).1
 s2:(r < if mid < X.length then mid else X.length)→(cAt Y (mid - 1 - r)).1 < (cAt X r).1
theorem SymS.cut {X Y:List Cd} {mid k:Nat} (hX:Srt X) (hY:Srt Y) (hmid:mid=(X.length+Y.length) / 2) (h:SymS X Y mid k k):k≤X.length∧k≤mid∧mid - k≤Y.length∧
  (∀ x∈X.take k,∀ y∈Y.drop (mid - k),x.1≤y.1)∧∀ x∈X.drop k,∀ y∈Y.take (mid - k),y.1 < x.1:=by
 have lo:=h.lo
 have hi:=h.hi
 have s1:=h.s1
 have s2:=h.s2
 have hk:k≤X.length∧k≤mid∧mid - k≤Y.length:=by
  by_cases c:mid < X.length
  ·rw [if_pos c] at lo hi;omega
  ·rw [if_neg c] at lo hi;omega
 refine ⟨hk.1,hk.2.1,hk.2.2,?_⟩
 refine zADh hX hY hk.1 hk.2.2 (λp0 p1=>s1 ?_) λp0 p1=>?_
 ·by_cases c:mid < X.length
  ·rw [if_pos c] at lo ⊢;omega
  ·rw [if_neg c];omega
 ·have:=s2 (by
   by_cases c:mid < X.length
   ·rw [if_pos c];omega
   ·rw [if_neg c];omega)
  rw [show mid - k - 1=mid - 1 - k by omega]
  exact this
theorem zAC8 {X:List Cd} {y:Cd} {k:Nat} (hX:Srt X) (hk:k≤X.length) (h1:0 < k→(cAt X (k - 1)).1≤y.1) (h2:k < X.length→y.1 < (cAt X k).1):(∀ a∈X.take k,a.1≤y.1)∧∀ u∈X.drop k,y.1 < u.1:=by
 constructor
 ·intro x hx
  obtain ⟨i,hi,rfl⟩:=qJu.1 hx
  rw [List.length_take] at hi
  rw [qKJ (by omega)]
  have:=qLu hX (i:=i) (j:=k - 1) (by omega) (by omega)
  have:=h1 (by omega)
  omega
 ·intro x hx
  obtain ⟨i,hi,rfl⟩:=qJu.1 hx
  rw [List.length_drop] at hi
  rw [qJ6]
  have:=qLu hX (i:=k) (j:=k+i) (by omega) (by omega)
  have:=h2 (by omega)
  omega
theorem qZj {Y:List Cd} {a:Cd} {k:Nat} (hY:Srt Y) (hk:k≤Y.length) (h1:0 < k→(cAt Y (k - 1)).1 < a.1) (h2:k < Y.length→a.1≤(cAt Y k).1):(∀ v∈Y.take k,v.1 < a.1)∧∀ b∈Y.drop k,a.1≤b.1:=by
 constructor
 ·intro x hx
  obtain ⟨i,hi,rfl⟩:=qJu.1 hx
  rw [List.length_take] at hi
  rw [qKJ (by omega)]
  have:=qLu hY (i:=i) (j:=k - 1) (by omega) (by omega)
  have:=h1 (by omega)
  omega
 ·intro x hx
  obtain ⟨i,hi,rfl⟩:=qJu.1 hx
  rw [List.length_drop] at hi
  rw [qJ6]
  have:=qLu hY (i:=k) (j:=k+i) (by omega) (by omega)
  have:=h2 (by omega)
  omega
theorem qMP {P U R:List Cd} {y:Cd} {u:Cd}:swpC (P ++ U ++ [u] ++ y :: R) (P.length+U.length+1) (P.length+U.length)=P ++ U ++ y :: u :: R:=by
 refine qVd (by rw [qQA];simp only [lAp,List.length_cons,List.length_nil];omega) λk hk=>?_
 rw [qQA] at hk
 simp only [lAp,List.length_cons,List.length_nil] at hk
 rw [qXH (by simp only [lAp,List.length_cons,List.length_nil];omega) (by simp only [lAp,List.length_cons,List.length_nil];omega)]
 simp only [qC7,lAp,List.length_cons,List.length_nil]
 by_cases c1:k=P.length+U.length
 ·rw [if_pos c1,if_neg (by omega),if_neg (by omega)]
  rw [show P.length+U.length+1 - (P.length+U.length+(0+1))=0 by omega,show k - (P.length+U.length)=0 by omega]
  rfl
 rw [if_neg c1]
 by_cases c2:k=P.length+U.length+1
 ·rw [if_pos c2,if_pos (by omega),if_neg (by omega),if_neg (by omega)]
  rw [show P.length+U.length - (P.length+U.length)=0 by omega,show k - (P.length+U.length)=1 by omega]
  rfl
 rw [if_neg c2]
 by_cases c3:k < P.length+U.length
 ·rw [if_pos (by omega),if_pos c3,if_pos c3]
 ·rw [if_neg (by omega),if_neg c3]
  obtain ⟨j,hj⟩:∃ j,k=P.length+U.length+2+j:=⟨k - (P.length+U.length+2),by omega⟩
  rw [hj,show P.length+U.length+2+j - (P.length+U.length+(0+1))=j+1 by omega,show P.length+U.length+2+j - (P.length+U.length)=j+2 by omega]
  rfl
end Go.AM.SG
namespace Go.AM.SG
open Go Go.AM Go.Proofs
variable {K : AV → Hq → Prop} {s s' s0 : Hq} {db : Nat} {l : List Cd}
def cR (x:Cd):List AV:=[.int .u32 x.1,.int .i64 x.2]
abbrev flC (q:List Cd):List AV:=(q.map cR).flatten
theorem qVA (q:List Cd):∀ r∈q.map cR,r.length=2:=λr hr=>by obtain ⟨x,_,rfl⟩:=List.mem_map.1 hr;rfl
theorem qIp (q:List Cd):(flC q).length=q.length * 2:=by rw [qIm (qVA q),List.length_map]
theorem qXv {x:Cd}:∀ {q:List Cd} {i:Nat},i < q.length→qBY (flC q) (i * 2) (cR x)=flC (q.set i x)
 | [],_,h=>by simp at h
 | y :: q,0,_=>rfl
 | y :: q,i+1,h=>by
   have ih:=qXv (x:=x) (q:=q) (i:=i) (by simpa using h)
   have e3:(i+1) * 2=i * 2+2:=by omega
   have e4:qBY (flC (y :: q)) (i * 2+2) (cR x)=.int .u32 y.1 :: .int .i64 y.2 :: qBY (flC q) (i * 2) (cR x):=by
    have e5:flC (y :: q)=.int .u32 y.1 :: .int .i64 y.2 :: flC q:=rfl
    unfold qBY
    rw [e5]
    show (.int .u32 y.1 :: .int .i64 y.2 :: (flC q).take (i * 2)) ++ cR x ++ (flC q).drop (i * 2+2)=_
    rfl
   rw [e3,e4,ih];rfl
def CAt (s:Hq) (db:Nat) (l:List Cd):Prop:=s db=some (false,.cells 36 (flC l))
abbrev cV (db:Nat) (l:List Cd):AV:=.slc db 0 l.length none 2
theorem c_ad {n i:Nat} (hi:i < n):qAS 2 (.slc db 0 n none 2) (.int .i64 (i:Int))=some (.ptr db (i * 2)):=by
 have:Nat.blt i n=true:=by rw [Nat.blt_eq];exact hi
 simp [qAS,this]
theorem CAt.sl (h:CAt s db l):SlR 2 s (cV db l) (l.map cR):=by
 refine SlR.mk (qVA l) h (by rw [List.length_map]) (by simp)
theorem CAt.row (h:CAt s db l) {i:Nat} (hi:i < l.length):rdN s 2 (.ptr db (i * 2))=some (cR (cAt l i)):=by
 obtain ⟨b,p,h1,h2,_⟩:=h.sl.get (i:=i) (r:=cR (cAt l i)) (by simp [qDA hi,hi])
 rw [c_ad hi] at h1
 cases h1
 exact h2
theorem CAt.put (h:CAt s db l) {i:Nat} {x:Cd} {R:Hq→Prop} (hi:i < l.length) (hR:∀ s',CAt s' db (l.set i x)→Upto db s s'→R s'):oK (qAv s 2 (.ptr db (i * 2)) (.agg (cR x))) R:=by
 have e0:i * 2+2≤(flC l).length:=by rw [qIp];omega
 have e1:Nat.ble (i * 2+(cR x).length) (flC l).length=true:=Nat.ble_eq_true_of_le (by show i * 2+2≤_;omega)
 have e2:qAv s 2 (.ptr db (i * 2)) (.agg (cR x))=some (hset s db (false,.cells 36 (flC (l.set i x)))):=by
  have h:s db=some (false,.cells 36 (flC l)):=h
  rw [← qXv hi]
  simp only [qAv,qHp,show Nat.beq (cR x).length 2=true from rfl,cond_true,wrN,h,e1,show qAj (cR x)=true from rfl,Bool.and_self]
 exact qAH e2 (hR _ qCl λ_ hi=>qBf hi)
theorem CAt.swap (h:CAt s db l) {i j:Nat} {R:Hq→Prop} (hi:i < l.length) (hj:j < l.length) (hR:∀ s',CAt s' db (swpC l i j)→Upto db s s'→R s') :
  oK (qAv s 2 (.ptr db (i * 2)) (.agg (cR (cAt l j)))) λs_10=>oK (qAv s_10 2 (.ptr db (j * 2)) (.agg (cR (cAt l i)))) R:=by
 refine h.put hi λs1 h1 u1=>?_
 exact h1.put (by simpa using hj) λs2 h2 u2=>hR s2 h2 λk hk=>by rw [u2 k hk,u1 k hk]
theorem CAt.sub (h:CAt s db l) (k:Sub s s'):CAt s' db l:=k _ _ h
abbrev cmpv:AV:=.fn (.func 46) [] []
theorem qVS {a b:Cd} (hK:∀ s' (r:Int),Sub s s'→(r < 0↔a.1 < b.1)→K (.int .i64 r) s'):funK Tryz.prog XX cmpv [.agg (cR a),.agg (cR b)] K s:=by
 refine ⟨by kernel_rfl,?_⟩
 show wC Tryz.prog XX 46 [.agg (cR a),.agg (cR b)] K s
 refine qLx ⟨rfl,qAL λx s1 hx h1 u1=>⟨rfl,qAL λy s2 hy h2 u2=>?_⟩⟩
 have sub2:=(u1.sub hx).trans (u2.sub hy)
 have h12:s2 x=some (false,.cells 36 (cR a)):=u2.sub hy _ _ h1
 have h22:s2 y=some (false,.cells 36 (cR b)):=h2
 have ra:(cR a)[0]?=some (.int .u32 a.1):=rfl
 have rb:(cR b)[0]?=some (.int .u32 b.1):=rfl
 simp only [qAB,zA,qAJ h12,qAJ h22,ra,rb,qAA]
 refine qHf (qEv ?_)
 simp only [qDx,qAa,qAW,beq_self_eq_true,Bool.true_bne,Bool.not_true,qAA]
 refine qEv ?_
 simp only [qDx,qAa,qAW,beq_self_eq_true,Bool.true_bne,Bool.not_true,qAA,qAF,qAP,qAg]
 refine qAG (λc=>?_) (λc=>?_)
 ·have c:=oT c
  exact hK s2 (-1) sub2 ⟨λ_=>c,λ_=>by decide⟩
 ·have c:=oF c
  refine qAG (λc2=>?_) (λc2=>?_)
  ·exact hK s2 1 sub2 ⟨λh=>absurd h (by decide),λh=>absurd h c⟩
  ·exact hK s2 0 sub2 ⟨λh=>absurd h (by decide),λh=>absurd h c⟩
end Go.AM.SG
namespace Go.AM.SG
open Go Go.AM Go.Proofs
variable {K : AV → Hq → Prop} {s s' s0 : Hq} {db : Nat} {l : List Cd}
abbrev KB (db:Nat) (s s':Hq):Prop:=qCR (λb=>b=db) s s'
theorem qJy {a b n k:Nat} {cv:AV} (h:CAt s db l) (hk:k=l.length) (hl:l.length≤100000) (hab:a+n≤b) (hb:b+n≤l.length) (hK:∀ s' l',CAt s' db l'→SwR l a b n l'→KB db s s'→K (.tup []) s') :
  wC Tryz.prog XX 180 [.slc db 0 k none 2,.int .i64 (a:Int),.int .i64 (b:Int),.int .i64 (n:Int),cv] K s:=by
 subst hk
 refine qDr ?_
 refine ⟨λys t m=>∃ (i:Nat) (l1:List Cd),ys=[.int .i64 i]∧i≤n∧m=n - i∧CAt t db l1∧SwR l a b i l1∧KB db s t,⟨_,0,l,rfl,by omega,rfl,h,.start,.refl _ s⟩,?_⟩
 rintro f t m ⟨i,l1,hy,hi,rfl,h1,sw,kp⟩
 simp only [cI,and_true] at hy
 rw [hy]
 simp only [qB4,qAP,qAA]
 refine qAG (λhlt=>?_) (λhge=>?_)
 ·have hlt:i < n:=by have:=oT hlt;omega
  have e1:IntKind.i64.wrap ((a:Int)+i)=((a+i:Nat):Int):=by rw [qAX (by omega) (by omega)];omega
  have e2:IntKind.i64.wrap ((b:Int)+i)=((b+i:Nat):Int):=by rw [qAX (by omega) (by omega)];omega
  have len:=sw.len
  simp only [qAT,e1,e2,c_ad (show b+i < l.length by omega),c_ad (show a+i < l.length by omega),h1.row (show b+i < l1.length by omega),h1.row (show a+i < l1.length by omega),qAA]
  refine h1.swap (by omega) (by omega) λs2 h2 u2=>?_
  rw [qAX (by omega) (by omega)]
  exact ⟨_,by omega,i+1,_,rfl,by omega,rfl,h2,sw.step (by omega) (by omega),kp.trans (u2.keep rfl)⟩
 ·have hge:i=n:=by have:=oF hge;omega
  subst hge
  exact hK t l1 h1 sw kp
theorem qYz {P X Y Q:List Cd} {a m b k:Nat} {cv:AV} (h:CAt s db (P ++ X ++ Y ++ Q)) (hk:k=(P ++ X ++ Y ++ Q).length) (hl:k≤100000) (ha:a=P.length) (hm:m=a+X.length) (hb:b=m+Y.length) (hX:X≠[]) (hY:Y≠[])
  (hK:∀ s',CAt s' db (P ++ Y ++ X ++ Q)→KB db s s'→K (.tup []) s'):wC Tryz.prog XX 160 [.slc db 0 k none 2,.int .i64 (a:Int),.int .i64 (m:Int),.int .i64 (b:Int),cv] K s:=by
 have lx:0 < X.length:=List.length_pos_iff.2 hX
 have ly:0 < Y.length:=List.length_pos_iff.2 hY
 have hlen:k=P.length+X.length+Y.length+Q.length:=by rw [hk];simp only [lAp]
 refine qEd ?_
 have e1:IntKind.i64.wrap ((m:Int) - a)=((X.length:Nat):Int):=by rw [qAX (by omega) (by omega)];omega
 have e2:IntKind.i64.wrap ((b:Int) - m)=((Y.length:Nat):Int):=by rw [qAX (by omega) (by omega)];omega
 simp only [qCr,qAf,e1,e2,qAA]
 refine ⟨λys t c=>∃ (D A B E:List Cd),ys=[.int .i64 (A.length:Nat),.int .i64 (B.length:Nat)]∧0 < A.length∧0 < B.length∧c=A.length+B.length∧D.length+A.length=m∧D ++ B ++ A ++ E=P ++ Y ++ X ++ Q∧CAt t db (D ++ A ++ B ++ E)∧KB db s t,⟨_,P,X,Y,Q,rfl,lx,ly,rfl,by omega,rfl,h,.refl _ s⟩,?_⟩
 rintro f t c ⟨D,A,B,E,hy,hA,hB,rfl,hm2,heq,h1,kp⟩
 simp only [cI,and_true] at hy
 rw [hy.1,hy.2]
 have hlen2:k=D.length+A.length+B.length+E.length:=by
  have:=congrArg List.length heq
  simp only [lAp] at this
  omega
 have hk1:k=(D ++ A ++ B ++ E).length:=by simp only [lAp];omega
 have s1:IntKind.i64.wrap ((m:Int) - (A.length:Nat))=((D.length:Nat):Int):=by rw [qAX (by omega) (by omega)];omega
 simp only [qCP,qAa,qAW,Bool.true_bne,qAA]
 cases c1:(((A.length:Nat):Int) == ((B.length:Nat):Int)) with
 | true=>
   have c1:A.length=B.length:=by have:=eq_of_beq c1;omega
   simp only [Bool.not_true,qAF,qAf,s1,qAA]
   refine qJy h1 hk1 (by omega) (by omega) (by simp only [lAp];omega) λs2 l2 h2 sw kp2=>?_
   have e:l2=D ++ B ++ [] ++ A ++ E:=by
    refine SwR.parts (P:=D) (X:=A) (Q:=[]) (Y:=B) (R:=E) c1 ?_
    have e3:D ++ A ++ [] ++ B ++ E=D ++ A ++ B ++ E:=by simp
    rw [e3,show D.length+A.length+([]:List Cd).length=m by simp;omega]
    exact sw
   rw [List.append_nil,heq] at e
   rw [e] at h2
   exact hK s2 h2 (kp.trans kp2)
 | false=>
   have c1:¬ A.length=B.length:=by
    have:¬ ((A.length:Nat):Int)=((B.length:Nat):Int):=by simpa using c1
    omega
   simp only [Bool.not_false,qAK,qAg,qAA]
   refine qAG (λc2=>?_) (λc2=>?_)
   ·have c2:B.length < A.length:=by have:=oT c2;omega
    have hA2:A=A.take B.length ++ A.drop B.length:=(List.take_append_drop ..).symm
    have l1:(A.take B.length).length=B.length:=by rw [List.length_take];omega
    have l2:(A.drop B.length).length=A.length - B.length:=by rw [List.length_drop]
    simp only [qAf,s1,qAA]
    refine qJy h1 hk1 (by omega) (by omega) (by simp only [lAp];omega) λs2 l3 h2 sw kp2=>?_
    have e:l3=(D ++ B) ++ A.drop B.length ++ A.take B.length ++ E:=by
     refine zADa l1 ?_
     rw [List.take_append_drop,l1,l2,show D.length+B.length+(A.length - B.length)=m by omega]
     exact sw
    rw [e] at h2
    have e4:IntKind.i64.wrap (((A.length:Nat):Int) - ((B.length:Nat):Int))=(((A.drop B.length).length:Nat):Int):=by rw [qAX (by omega) (by omega),l2];omega
    simp only [e4]
    refine ⟨_,?_,D ++ B,A.drop B.length,A.take B.length,E,by rw [l1],by omega,by omega,rfl,by rw [lAp];omega,?_,h2,kp.trans kp2⟩
    ·rw [l1,l2];omega
    ·rw [← heq]
     simp only [List.append_assoc]
     rw [← List.append_assoc (A.take B.length),List.take_append_drop]
   ·have c2:A.length < B.length:=by have:=oF c2;omega
    have l1:(B.take (B.length - A.length)).length=B.length - A.length:=by rw [List.length_take];omega
    have l2:(B.drop (B.length - A.length)).length=A.length:=by rw [List.length_drop];omega
    have s2:IntKind.i64.wrap ((m:Int)+(B.length:Nat))=((m+B.length:Nat):Int):=by rw [qAX (by omega) (by omega)];omega
    have s3:IntKind.i64.wrap (((m+B.length:Nat):Int) - (A.length:Nat))=((m+B.length - A.length:Nat):Int):=by rw [qAX (by omega) (by omega)];omega
    simp only [qAf,qAT,s1,s2,s3,qAA]
    refine qJy h1 hk1 (by omega) (by omega) (by simp only [lAp];omega) λs2 l3 h2 sw kp2=>?_
    have e:l3=D ++ B.drop (B.length - A.length) ++ B.take (B.length - A.length) ++ (A ++ E):=by
     refine qXf l2.symm ?_
     rw [List.take_append_drop,l1,show D.length+A.length+(B.length - A.length)=m+B.length - A.length by omega]
     exact sw
    rw [e] at h2
    have e4:IntKind.i64.wrap (((B.length:Nat):Int) - ((A.length:Nat):Int))=(((B.take (B.length - A.length)).length:Nat):Int):=by rw [qAX (by omega) (by omega),l1];omega
    simp only [e4]
    refine ⟨_,?_,D,B.drop (B.length - A.length),B.take (B.length - A.length),A ++ E,by rw [l2],by omega,by omega,rfl,by omega,?_,h2,kp.trans kp2⟩
    ·rw [l1,l2];omega
    ·rw [← heq]
     simp only [List.append_assoc]
     rw [← List.append_assoc (B.take (B.length - A.length)),List.take_append_drop]
end Go.AM.SG
namespace Go.AM.SG
open Go Go.AM Go.Proofs
variable {K : AV → Hq → Prop} {s s' s0 : Hq} {db : Nat} {l : List Cd}
theorem qJR {L R:List Cd} {y:Cd} {n:Nat} (hn:n=L.length):cAt (L ++ y :: R) n=y:=by
 subst hn
 rw [qC7,if_neg (by omega),Nat.sub_self];rfl
theorem CAt.swap2 (h:CAt s db l) {i j:Nat} {x y:Cd} {R:Hq→Prop} (hi:i < l.length) (hj:j < l.length) (hx:cAt l i=x) (hy:cAt l j=y) (hR:∀ s',CAt s' db (swpC l i j)→Upto db s s'→R s') :
  oK (qAv s 2 (.ptr db (i * 2)) (.agg (cR y))) λs_10=>oK (qAv s_10 2 (.ptr db (j * 2)) (.agg (cR x))) R:=by
 subst hx hy
 exact h.swap hi hj hR
theorem qS9 {P X Q:List Cd} {a b k:Nat} (h:CAt s db (P ++ X ++ Q)) (hk:k=(P ++ X ++ Q).length) (hl:k≤100000) (ha:a=P.length) (hb:b=a+X.length)
  (hK:∀ s' Z,CAt s' db (P ++ Z ++ Q)→Srt Z→Stb X Z→Z.length=X.length→KB db s s'→K (.tup []) s'):wC Tryz.prog XX 116 [.slc db 0 k none 2,.int .i64 (a:Int),.int .i64 (b:Int),cmpv] K s:=by
 have hlen:k=P.length+X.length+Q.length:=by rw [hk];simp only [lAp]
 refine qBq ?_
 have e1:IntKind.i64.wrap ((a:Int)+1)=((a+1:Nat):Int):=by rw [qAX (by omega) (by omega)];omega
 simp only [qBC,qAT,e1,qAA]
 refine ⟨λys t m=>∃ (j:Nat) (Z:List Cd),ys=[.int .i64 ((a+j:Nat):Int)]∧1≤j∧(j≤X.length∨X=[])∧m=X.length+1 - j∧CAt t db (P ++ Z ++ X.drop j ++ Q)∧Srt Z∧Stb (X.take j) Z∧Z.length=(X.take j).length∧KB db s t,⟨_,1,X.take 1,rfl,by omega,?_,rfl,?_,?_,.refl _,rfl,.refl _ s⟩,?_⟩
 ·cases X with
  | nil=>exact .inr rfl
  | cons x r=>exact .inl (by simp)
 ·rw [List.append_assoc P,List.take_append_drop];exact h
 ·unfold Srt
  cases X with
  | nil=>simp
  | cons x r=>simp
 rintro f t m ⟨j,Z,hy,hj,hjX,rfl,h1,srt,stb,hzl,kp⟩
 simp only [cI,and_true] at hy
 rw [hy]
 simp only [qA6,qAP,qAA]
 refine qAG (λhlt=>?_) (λhge=>?_)
 rotate_left
 ·have hge:X.length≤j:=by have:=oF hge;omega
  rw [List.take_of_length_le hge] at stb hzl
  rw [List.drop_eq_nil_of_le hge,List.append_nil] at h1
  exact hK t Z h1 srt stb hzl kp
 have hlt:j < X.length:=by have:=oT hlt;omega
 obtain ⟨y,hyj⟩:∃ y,X[j]?=some y:=⟨_,gE hlt⟩
 have hdrop:X.drop j=y :: X.drop (j+1):=by
  rw [List.drop_eq_getElem_cons hlt]
  congr 1
  rw [gE hlt] at hyj
  exact Option.some.inj hyj
 have htake:X.take (j+1)=X.take j ++ [y]:=by rw [List.take_add_one,hyj];rfl
 have hzl2:Z.length=j:=by rw [hzl,List.length_take];omega
 refine ⟨λys t c=>∃ (A V:List Cd),ys=[.int .i64 ((a+A.length:Nat):Int)]∧c=A.length∧Z=A ++ V∧(∀ u∈V,y.1 < u.1)∧CAt t db (P ++ A ++ y :: (V ++ X.drop (j+1) ++ Q))∧KB db s t,⟨_,Z,[],by rw [hzl2],rfl,by simp,by simp,?_,kp⟩,?_⟩
 ·rw [hdrop] at h1
  simpa [List.append_assoc] using h1
 rintro f t2 c ⟨A,V,hy2,rfl,rfl,hV,h2,kp2⟩
 simp only [cI,and_true] at hy2
 rw [hy2]
 have hk2:k=(P ++ A ++ y :: (V ++ X.drop (j+1) ++ Q)).length:=by
  simp only [lAp,List.length_cons,List.length_drop] at hzl2 ⊢
  omega
 rw [lAp] at hzl2
 have done:∀ t3,CAt t3 db (P ++ A ++ y :: (V ++ X.drop (j+1) ++ Q))→KB db s t3→(∀ u∈A,u.1≤y.1)→oK (qAC .add (.int .i64 ((a+j:Nat):Int)) (.int .i64 1)) λv_15=>
   ∃ m',m' < X.length+1 - j∧∃ (j:Nat) (Z:List Cd),[v_15]=[.int .i64 ((a+j:Nat):Int)]∧1≤j∧(j≤X.length∨X=[])∧m'=X.length+1 - j∧CAt t3 db (P ++ Z ++ X.drop j ++ Q)∧Srt Z∧Stb (X.take j) Z∧Z.length=(X.take j).length∧KB db s t3:=λt3 h2 kp2 hA=>by
  have mg:=Mrg.one_r srt hA hV
  simp only [qAT,qAA]
  rw [qAX (by omega) (by omega)]
  refine ⟨_,?_,j+1,A ++ y :: V,?_,by omega,.inl (by omega),rfl,?_,mg.srt,?_,?_,kp2⟩
  ·omega
  ·rw [show ((a+(j+1):Nat):Int)=((a+j:Nat):Int)+1 by omega]
  ·simpa [List.append_assoc] using h2
  ·rw [htake]
   exact (stb.app (.refl [y])).trans mg.stb
  ·rw [mg.len,htake,lAp,lAp,List.length_take]
   simp only [List.length_singleton]
   omega
 simp only [qBo,qAg,qAA]
 refine qAG (λhp=>?_) (λhp=>?_)
 rotate_left
 ·have hA:A=[]:=List.eq_nil_of_length_eq_zero (by have:=oF hp;omega)
  simp only [qAt,hp,qAI,qAF,qAA]
  exact done t2 h2 kp2 λu hu=>by rw [hA] at hu;cases hu
 have hpl:0 < A.length:=by have:=oT hp;omega
 obtain ⟨A',u,rfl⟩:∃ A' u,A=A' ++ [u]:=⟨A.dropLast,A.getLast (by intro e;rw [e] at hpl;simp at hpl),(List.dropLast_concat_getLast _).symm⟩
 have eA:(A' ++ [u]).length=A'.length+1:=by simp
 rw [eA] at hzl2
 have e2:IntKind.i64.wrap (((a+(A'.length+1):Nat):Int) - 1)=((a+A'.length:Nat):Int):=by rw [qAX (by omega) (by omega)];omega
 have lk:(P ++ (A' ++ [u]) ++ y :: (V ++ X.drop (j+1) ++ Q)).length=k:=hk2.symm
 have lk2:a+A'.length+1 < k:=by
  rw [← lk];simp only [lAp,List.length_cons,List.length_nil];omega
 have r1:cAt (P ++ (A' ++ [u]) ++ y :: (V ++ X.drop (j+1) ++ Q)) (a+(A'.length+1))=y:=qJR (by rw [lAp,eA];omega)
 have r2:cAt (P ++ (A' ++ [u]) ++ y :: (V ++ X.drop (j+1) ++ Q)) (a+A'.length)=u:=by
  have:P ++ (A' ++ [u]) ++ y :: (V ++ X.drop (j+1) ++ Q)=(P ++ A') ++ u :: (y :: (V ++ X.drop (j+1) ++ Q)):=by simp [List.append_assoc]
  rw [this]
  exact qJR (by rw [lAp];omega)
 have w1:=h2.row (i:=a+(A'.length+1)) (by rw [lk];omega)
 have w2:=h2.row (i:=a+A'.length) (by rw [lk];omega)
 rw [r1] at w1
 rw [r2] at w2
 simp only [eA,c_ad (show a+(A'.length+1) < k by omega),w1,qAf,e2,c_ad (show a+A'.length < k by omega),w2,qAA]
 refine qVS λs3 r sub3 hr=>?_
 have h3:=h2.sub sub3
 have kp3:KB db s s3:=kp2.trans sub3.keep
 have w1':=h3.row (i:=a+(A'.length+1)) (by rw [lk];omega)
 have w2':=h3.row (i:=a+A'.length) (by rw [lk];omega)
 rw [r1] at w1'
 rw [r2] at w2'
 have hp':decide ((a:Int) < ((a+(A'.length+1):Nat):Int))=true:=decide_eq_true (by omega)
 simp only [qAP,qAA,qAt,hp',qAO]
 refine qAG (λhc=>?_) (λhc=>?_)
 ·have hc:y.1 < u.1:=hr.1 (oT hc)
  simp only [qAf,e2,c_ad (show a+(A'.length+1) < k by omega),c_ad (show a+A'.length < k by omega),w1',w2',qAA]
  refine h3.swap2 (by rw [lk];omega) (by rw [lk];omega) r1 r2 λs4 h4 u4=>?_
  refine ⟨_,?_,A',u :: V,rfl,rfl,by simp [List.append_assoc],λv hv=>?_,?_,kp3.trans (u4.keep rfl)⟩
  ·omega
  ·rcases List.mem_cons.1 hv with q | q
   ·rw [q];exact hc
   ·exact hV v q
  ·have e:=qMP (P:=P) (U:=A') (R:=V ++ X.drop (j+1) ++ Q) (y:=y) (u:=u)
   have e5:P ++ (A' ++ [u]) ++ y :: (V ++ X.drop (j+1) ++ Q)=P ++ A' ++ [u] ++ y :: (V ++ X.drop (j+1) ++ Q):=by simp [List.append_assoc]
   rw [e5,show a+(A'.length+1)=P.length+A'.length+1 by omega,show a+A'.length=P.length+A'.length by omega,e] at h4
   simpa [List.append_assoc] using h4
 ·have hc:¬ y.1 < u.1:=λq=>oF hc (hr.2 q)
  exact done s3 h3 kp3 λv hv=>by
   have hs:=srt.parts.1
   rcases List.mem_append.1 hv with q | q
   ·have:=hs.parts.2.2 v q u (by simp)
    omega
   ·rw [List.mem_singleton] at q
    rw [q];omega
end Go.AM.SG
namespace Go.AM.SG
open Go Go.AM Go.Proofs
variable {K : AV → Hq → Prop} {s s' s0 : Hq} {db : Nat} {l : List Cd}
theorem qQc {w:Nat} (h:w≤1000000):qBx .u64 (.int .i64 (w:Int))=some (.int .u64 (w:Int))∧qBb .shr (.int .u64 (w:Int)) (.int .u64 1)=some (.int .u64 ((w / 2:Nat):Int))∧qBx .i64 (.int .u64 ((w / 2:Nat):Int))=some (.int .i64 ((w / 2:Nat):Int)):=by
 refine ⟨?_,?_,?_⟩
 ·show some (AV.int .u64 (qAx .u64 (w:Int)))=_
  rw [show qAx .u64 (w:Int)=w by simp only [qAx];rw [qEC _ _ _ (by omega) (by omega)];split <;> omega]
 ·show frc ((w:Int).fdiv ((2 ^ (min 1 (IntKind.bits .u64)):Nat):Int)) (λn=>some (AV.int .u64 n))=_
  rw [qBX,Nat.min_eq_left (show 1≤IntKind.bits .u64 by decide),Int.fdiv_eq_ediv_of_nonneg _ (Int.natCast_nonneg _),← Int.natCast_ediv]
 ·show some (AV.int .i64 (qAx .i64 ((w / 2:Nat):Int)))=_
  rw [show qAx .i64 ((w / 2:Nat):Int)=((w / 2:Nat):Int) by simp only [qAx];rw [qEC _ _ _ (by omega) (by omega)];split <;> omega]
theorem qXG {i j:Nat} (h:i≠j):swpC l i j=swpC l j i:=by
 unfold swpC
 rw [List.set_comm _ _ h]
theorem qUI {P U R:List Cd} {y u:Cd}:swpC (P ++ U ++ [u] ++ y :: R) (P.length+U.length) (P.length+U.length+1)=P ++ U ++ y :: u :: R:=by
 rw [qXG (by omega)]
 exact qMP
theorem zABE {P Y Q:List Cd} {x:Cd} {a m b k:Nat} (h:CAt s db (P ++ [x] ++ Y ++ Q)) (hk:k=(P ++ [x] ++ Y ++ Q).length) (hl:k≤100000) (ha:a=P.length) (hm:m=a+1) (hb:b=m+Y.length) (hY:Srt Y)
  (hK:∀ s' Z,CAt s' db (P ++ Z ++ Q)→Mrg [x] Y Z→KB db s s'→K (.tup []) s') :
  ∃ I0:List AV→Hq→Nat→Prop,(∃ m',I0 [.int .i64 (m:Int),.int .i64 (b:Int)] s m')∧∀ (f:Env) (s:Hq) (m0:Nat),I0 [f 10,f 11] s m0→
   qBU XX (.slc db 0 k none 2) (.int .i64 (a:Int)) cmpv (f 10) (f 11) I0 m0 K s:=by
 have hlen:k=P.length+1+Y.length+Q.length:=by rw [hk];simp only [lAp,List.length_singleton]
 have hcx:cAt (P ++ [x] ++ Y ++ Q) a=x:=by
  rw [show P ++ [x] ++ Y ++ Q=P ++ x :: (Y ++ Q) by simp]
  exact qJR ha
 have hcy:∀ i,i < Y.length→cAt (P ++ [x] ++ Y ++ Q) (m+i)=cAt Y i:=λi hi=>by
  rw [qC7,if_pos (by simp only [lAp,List.length_singleton];omega),qC7,if_neg (by simp only [lAp,List.length_singleton];omega)]
  congr 1
  simp only [lAp,List.length_singleton]
  omega
 refine ⟨λys t c=>∃ i j:Nat,ys=[.int .i64 ((m+i:Nat):Int),.int .i64 ((m+j:Nat):Int)]∧i≤j∧j≤Y.length∧c=j - i∧Sub s t∧(0 < i→(cAt Y (i - 1)).1 < x.1)∧(j < Y.length→x.1≤(cAt Y j).1),⟨_,0,Y.length,by rw [hb];rfl,by omega,Nat.le_refl _,rfl,.refl s,λh=>absurd h (by omega),λh=>absurd h (by omega)⟩,?_⟩
 rintro f t c ⟨i,j,hy,hij,hj,rfl,st,k1,k2⟩
 simp only [cI,and_true] at hy
 rw [hy.1,hy.2]
 have ht:=h.sub st
 simp only [qBU,qAP,qAA]
 refine qAG (λhlt=>?_) (λhge=>?_)
 ·have hlt:i < j:=by have:=oT hlt;omega
  have e1:IntKind.i64.wrap (((m+i:Nat):Int)+((m+j:Nat):Int))=((2 * m+i+j:Nat):Int):=by rw [qAX (by omega) (by omega)];omega
  obtain ⟨q1,q2,q3⟩:=qQc (w:=2 * m+i+j) (by omega)
  have e2:(2 * m+i+j) / 2=m+(i+j) / 2:=by omega
  rw [e2] at q2 q3
  have hh:(i+j) / 2 < j:=by omega
  have r1:=ht.row (i:=m+(i+j) / 2) (by rw [← hk];omega)
  have r2:=ht.row (i:=a) (by rw [← hk];omega)
  rw [hcy _ (by omega)] at r1
  rw [hcx] at r2
  simp only [qAT,e1,q1,q2,q3,c_ad (show m+(i+j) / 2 < k by omega),c_ad (show a < k by omega),r1,r2,qAA]
  refine qVS λs3 r sub3 hr=>?_
  simp only [qAP,qAA]
  refine qAG (λhc=>?_) (λhc=>?_)
  ·have hc:=hr.1 (oT hc)
   rw [qAX (by omega) (by omega)]
   exact ⟨_,by omega,(i+j) / 2+1,j,by rw [show ((m+((i+j) / 2+1):Nat):Int)=((m+(i+j) / 2:Nat):Int)+1 by omega],by omega,hj,rfl,st.trans sub3,λ_=>by rw [Nat.add_sub_cancel];exact hc,k2⟩
  ·have hc:x.1≤(cAt Y ((i+j) / 2)).1:=by
    have:¬ (cAt Y ((i+j) / 2)).1 < x.1:=λq=>oF hc (hr.2 q)
    omega
   exact ⟨_,by omega,i,(i+j) / 2,rfl,by omega,by omega,rfl,st.trans sub3,k1,λ_=>hc⟩
 ·have hge:i=j:=by have:=oF hge;omega
  subst hge
  obtain ⟨p1,p2⟩:=qZj hY hj k1 k2
  have mg:Mrg [x] Y (Y.take i ++ x :: Y.drop i):=by
   have:=Mrg.one_l (a:=x) (V:=Y.take i) (B:=Y.drop i) (by rw [List.take_append_drop];exact hY) p1 p2
   rwa [List.take_append_drop] at this
  refine ⟨λys t c=>∃ n:Nat,ys=[.int .i64 ((a+n:Nat):Int)]∧n≤i∧c=i - n∧CAt t db (P ++ Y.take n ++ x :: (Y.drop n ++ Q))∧KB db s t,⟨_,0,rfl,by omega,rfl,by simpa using ht,st.keep⟩,?_⟩
  rintro f t2 c ⟨n,hy2,hn,rfl,h2,kp⟩
  simp only [cI,and_true] at hy2
  rw [hy2]
  have e1:IntKind.i64.wrap (((m+i:Nat):Int) - 1)=((a+i:Nat):Int):=by rw [qAX (by omega) (by omega)];omega
  simp only [qCB,qAf,e1,qAP,qAA]
  refine qAG (λhlt=>?_) (λhge=>?_)
  ·have hlt:n < i:=by have:=oT hlt;omega
   have hny:n < Y.length:=by omega
   have ltk:(Y.take n).length=n:=by rw [List.length_take];omega
   obtain ⟨u,hu,ed⟩:∃ u,Y[n]?=some u∧Y.drop n=u :: Y.drop (n+1):=⟨Y[n],gE hny,List.drop_eq_getElem_cons hny⟩
   have lk:(P ++ Y.take n ++ x :: (Y.drop n ++ Q)).length=k:=by
    simp only [lAp,List.length_cons,List.length_drop,ltk];omega
   have e2:IntKind.i64.wrap (((a+n:Nat):Int)+1)=((a+n+1:Nat):Int):=by rw [qAX (by omega) (by omega)];omega
   have c1:cAt (P ++ Y.take n ++ x :: (Y.drop n ++ Q)) (a+n)=x:=qJR (by rw [lAp,ltk];omega)
   have c2:cAt (P ++ Y.take n ++ x :: (Y.drop n ++ Q)) (a+n+1)=u:=by
    rw [ed,show P ++ Y.take n ++ x :: (u :: Y.drop (n+1) ++ Q)=(P ++ Y.take n ++ [x]) ++ u :: (Y.drop (n+1) ++ Q) by simp]
    exact qJR (by simp only [lAp,ltk,List.length_singleton];omega)
   have r1:=h2.row (i:=a+n) (by rw [lk];omega)
   have r2:=h2.row (i:=a+n+1) (by rw [lk];omega)
   rw [c1] at r1
   rw [c2] at r2
   simp only [qAT,e2,c_ad (show a+n+1 < k by omega),c_ad (show a+n < k by omega),r1,r2,qAA]
   refine h2.swap2 (by rw [lk];omega) (by rw [lk];omega) c1 c2 λs4 h4 u4=>?_
   refine ⟨_,by omega,n+1,by rw [show a+(n+1)=a+n+1 by omega],by omega,rfl,?_,kp.trans (u4.keep rfl)⟩
   have e:=qUI (P:=P) (U:=Y.take n) (R:=Y.drop (n+1) ++ Q) (y:=u) (u:=x)
   rw [ed,show P ++ Y.take n ++ x :: (u :: Y.drop (n+1) ++ Q)=P ++ Y.take n ++ [x] ++ u :: (Y.drop (n+1) ++ Q) by simp,show a+n=P.length+(Y.take n).length by rw [ltk];omega,e] at h4
   rw [List.take_add_one,hu]
   simpa [List.append_assoc] using h4
  ·have hge:n=i:=by have:=oF hge;omega
   subst hge
   refine hK t2 _ ?_ mg kp
   simpa [List.append_assoc] using h2
end Go.AM.SG
namespace Go.AM.SG
open Go Go.AM Go.Proofs
variable {K : AV → Hq → Prop} {s s' s0 : Hq} {db : Nat} {l : List Cd}
theorem zABc {P X Q:List Cd} {y:Cd} {a m k:Nat} (h:CAt s db (P ++ X ++ [y] ++ Q)) (hk:k=(P ++ X ++ [y] ++ Q).length) (hl:k≤100000) (ha:a=P.length) (hm:m=a+X.length) (hX:Srt X)
  (hK:∀ s' Z,CAt s' db (P ++ Z ++ Q)→Mrg X [y] Z→KB db s s'→K (.tup []) s') :
  ∃ I2:List AV→Hq→Nat→Prop,(∃ m',I2 [.int .i64 (a:Int),.int .i64 (m:Int)] s m')∧∀ (f:Env) (s:Hq) (m2:Nat),I2 [f 14,f 15] s m2→
   qBR XX (.slc db 0 k none 2) (.int .i64 (m:Int)) cmpv (f 14) (f 15) I2 m2 K s:=by
 have hlen:k=P.length+X.length+1+Q.length:=by rw [hk];simp only [lAp,List.length_singleton]
 have hcy:cAt (P ++ X ++ [y] ++ Q) m=y:=by
  rw [show P ++ X ++ [y] ++ Q=(P ++ X) ++ y :: Q by simp]
  exact qJR (by rw [lAp];omega)
 have hcx:∀ i,i < X.length→cAt (P ++ X ++ [y] ++ Q) (a+i)=cAt X i:=λi hi=>by
  rw [qC7,if_pos (by simp only [lAp,List.length_singleton];omega),qC7,if_pos (by simp only [lAp];omega),qC7,if_neg (by omega)]
  congr 1
  omega
 refine ⟨λys t c=>∃ i j:Nat,ys=[.int .i64 ((a+i:Nat):Int),.int .i64 ((a+j:Nat):Int)]∧i≤j∧j≤X.length∧c=j - i∧Sub s t∧(0 < i→(cAt X (i - 1)).1≤y.1)∧(j < X.length→y.1 < (cAt X j).1),⟨_,0,X.length,by rw [hm];rfl,by omega,Nat.le_refl _,rfl,.refl s,λh=>absurd h (by omega),λh=>absurd h (by omega)⟩,?_⟩
 rintro f t c ⟨i,j,hy,hij,hj,rfl,st,k1,k2⟩
 simp only [cI,and_true] at hy
 rw [hy.1,hy.2]
 have ht:=h.sub st
 simp only [qBR,qAP,qAA]
 refine qAG (λhlt=>?_) (λhge=>?_)
 ·have hlt:i < j:=by have:=oT hlt;omega
  have e1:IntKind.i64.wrap (((a+i:Nat):Int)+((a+j:Nat):Int))=((2 * a+i+j:Nat):Int):=by rw [qAX (by omega) (by omega)];omega
  obtain ⟨q1,q2,q3⟩:=qQc (w:=2 * a+i+j) (by omega)
  have e2:(2 * a+i+j) / 2=a+(i+j) / 2:=by omega
  rw [e2] at q2 q3
  have hh:(i+j) / 2 < j:=by omega
  have r1:=ht.row (i:=a+(i+j) / 2) (by rw [← hk];omega)
  have r2:=ht.row (i:=m) (by rw [← hk];omega)
  rw [hcx _ (by omega)] at r1
  rw [hcy] at r2
  simp only [qAT,e1,q1,q2,q3,c_ad (show a+(i+j) / 2 < k by omega),c_ad (show m < k by omega),r1,r2,qAA]
  refine qVS λs3 r sub3 hr=>?_
  simp only [qAP,qAb,qAA]
  by_cases hc:r < 0
  ·rw [decide_eq_true hc]
   simp only [Bool.not_true,qAF]
   exact ⟨_,by omega,i,(i+j) / 2,rfl,by omega,by omega,rfl,st.trans sub3,k1,λ_=>hr.1 hc⟩
  ·rw [decide_eq_false hc]
   have hc:(cAt X ((i+j) / 2)).1≤y.1:=by
    have:¬ y.1 < (cAt X ((i+j) / 2)).1:=λq=>hc (hr.2 q)
    omega
   simp only [Bool.not_false,qAK]
   rw [qAX (by omega) (by omega)]
   exact ⟨_,by omega,(i+j) / 2+1,j,by rw [show ((a+((i+j) / 2+1):Nat):Int)=((a+(i+j) / 2:Nat):Int)+1 by omega],by omega,hj,rfl,st.trans sub3,λ_=>by rw [Nat.add_sub_cancel];exact hc,k2⟩
 ·have hge:i=j:=by have:=oF hge;omega
  subst hge
  obtain ⟨p1,p2⟩:=zAC8 hX hj k1 k2
  have mg:Mrg X [y] (X.take i ++ y :: X.drop i):=by
   have:=Mrg.one_r (y:=y) (A:=X.take i) (U:=X.drop i) (by rw [List.take_append_drop];exact hX) p1 p2
   rwa [List.take_append_drop] at this
  refine ⟨λys t c=>∃ n:Nat,ys=[.int .i64 ((a+n:Nat):Int)]∧i≤n∧n≤X.length∧c=n - i∧CAt t db (P ++ X.take n ++ y :: (X.drop n ++ Q))∧KB db s t,⟨_,X.length,by rw [hm],hj,Nat.le_refl _,rfl,by simpa using ht,st.keep⟩,?_⟩
  rintro f t2 c ⟨n,hy2,hn,hnX,rfl,h2,kp⟩
  simp only [cI,and_true] at hy2
  rw [hy2]
  simp only [qCD,qAg,qAA]
  refine qAG (λhlt=>?_) (λhge=>?_)
  ·have hlt:i < n:=by have:=oT hlt;omega
   obtain ⟨n,rfl⟩:∃ n',n=n'+1:=⟨n - 1,by omega⟩
   have hny:n < X.length:=by omega
   have ltk:(X.take n).length=n:=by rw [List.length_take];omega
   obtain ⟨u,hu,ed⟩:∃ u,X[n]?=some u∧X.drop n=u :: X.drop (n+1):=⟨X[n],gE hny,List.drop_eq_getElem_cons hny⟩
   have et:X.take (n+1)=X.take n ++ [u]:=by rw [List.take_add_one,hu];rfl
   rw [et] at h2
   have lk:(P ++ (X.take n ++ [u]) ++ y :: (X.drop (n+1) ++ Q)).length=k:=by
    simp only [lAp,List.length_cons,List.length_drop,ltk,List.length_nil];omega
   have e2:IntKind.i64.wrap (((a+(n+1):Nat):Int) - 1)=((a+n:Nat):Int):=by rw [qAX (by omega) (by omega)];omega
   have c1:cAt (P ++ (X.take n ++ [u]) ++ y :: (X.drop (n+1) ++ Q)) (a+(n+1))=y:=qJR (by simp only [lAp,ltk,List.length_singleton];omega)
   have c2:cAt (P ++ (X.take n ++ [u]) ++ y :: (X.drop (n+1) ++ Q)) (a+n)=u:=by
    rw [show P ++ (X.take n ++ [u]) ++ y :: (X.drop (n+1) ++ Q)=(P ++ X.take n) ++ u :: (y :: (X.drop (n+1) ++ Q)) by simp]
    exact qJR (by rw [lAp,ltk];omega)
   have r1:=h2.row (i:=a+(n+1)) (by rw [lk];omega)
   have r2:=h2.row (i:=a+n) (by rw [lk];omega)
   rw [c1] at r1
   rw [c2] at r2
   simp only [qAf,e2,c_ad (show a+(n+1) < k by omega),c_ad (show a+n < k by omega),r1,r2,qAA]
   refine h2.swap2 (by rw [lk];omega) (by rw [lk];omega) c1 c2 λs4 h4 u4=>?_
   refine ⟨_,by omega,n,rfl,by omega,by omega,rfl,?_,kp.trans (u4.keep rfl)⟩
   have e:=qMP (P:=P) (U:=X.take n) (R:=X.drop (n+1) ++ Q) (y:=y) (u:=u)
   rw [show P ++ (X.take n ++ [u]) ++ y :: (X.drop (n+1) ++ Q)=P ++ X.take n ++ [u] ++ y :: (X.drop (n+1) ++ Q) by simp,show a+(n+1)=P.length+(X.take n).length+1 by rw [ltk];omega,show a+n=P.length+(X.take n).length by rw [ltk];omega,e] at h4
   rw [ed]
   simpa [List.append_assoc] using h4
  ·have hge:n=i:=by have:=oF hge;omega
   subst hge
   refine hK t2 _ ?_ mg kp
   simpa [List.append_assoc] using h2
end Go.AM.SG
namespace Go.AM.SG
open Go Go.AM Go.Proofs
theorem len0 {l:List Cd} (h:l=[]):l.length=0:=by rw [h];rfl
set_option maxHeartbeats 1000000 in
theorem qYY:∀ (N:Nat) {P X Y Q:List Cd} {a m b k db:Nat} {s:Hq} {K:AV→Hq→Prop},X.length+Y.length≤N→CAt s db (P ++ X ++ Y ++ Q)→k=(P ++ X ++ Y ++ Q).length→k≤100000→a=P.length→m=a+X.length→b=m+Y.length→X≠[]→Y≠[]→Srt X→Srt Y→
  (∀ s' Z,CAt s' db (P ++ Z ++ Q)→Mrg X Y Z→KB db s s'→K (.tup []) s')→wC Tryz.prog XX 117 [.slc db 0 k none 2,.int .i64 (a:Int),.int .i64 (m:Int),.int .i64 (b:Int),cmpv] K s
 | 0,P,X,Y,Q,a,m,b,k,db,s,K,hN,h,hk,hl,ha,hm,hb,hX,hY,sX,sY,hK=>by
   have:=List.length_pos_iff.2 hX
   omega
 | N+1,P,X,Y,Q,a,m,b,k,db,s,K,hN,h,hk,hl,ha,hm,hb,hX,hY,sX,sY,hK=>by
   have lx:=List.length_pos_iff.2 hX
   have ly:=List.length_pos_iff.2 hY
   have hlen:k=P.length+X.length+Y.length+Q.length:=by rw [hk];simp only [lAp]
   refine qDz ?_
   have e1:IntKind.i64.wrap ((m:Int) - a)=((X.length:Nat):Int):=by rw [qAX (by omega) (by omega)];omega
   have e2:IntKind.i64.wrap ((b:Int) - m)=((Y.length:Nat):Int):=by rw [qAX (by omega) (by omega)];omega
   simp only [qCe,qAf,e1,e2,qAa,qAW,Bool.false_bne,qAA]
   cases c1:(((X.length:Nat):Int) == 1) with
   | true=>
     have c1:X.length=1:=by have:=eq_of_beq c1;omega
     obtain ⟨x,rfl⟩:=List.length_eq_one_iff.1 c1
     simp only [qAK]
     exact zABE h hk hl ha hm hb sY hK
   | false=>
   simp only [qAF]
   cases c2:(((Y.length:Nat):Int) == 1) with
   | true=>
     have c2:Y.length=1:=by have:=eq_of_beq c2;omega
     obtain ⟨y,rfl⟩:=List.length_eq_one_iff.1 c2
     simp only [qAK]
     exact zABc h hk hl ha hm sX hK
   | false=>
   have c1:X.length≠1:=λq=>by rw [q] at c1;cases c1
   have c2:Y.length≠1:=λq=>by rw [q] at c2;cases c2
   simp only [qAF]
   obtain ⟨μ,hμ⟩:∃ μ,μ=(X.length+Y.length) / 2:=⟨_,rfl⟩
   have e3:IntKind.i64.wrap ((a:Int)+b)=((a+b:Nat):Int):=by rw [qAX (by omega) (by omega)];omega
   obtain ⟨q1,q2,q3⟩:=qQc (w:=a+b) (by omega)
   have e4:(a+b) / 2=a+μ:=by omega
   rw [e4] at q2 q3
   have e5:IntKind.i64.wrap (((a+μ:Nat):Int)+m)=((a+μ+m:Nat):Int):=by rw [qAX (by omega) (by omega)];omega
   simp only [qAT,e3,q1,q2,q3,e5,qAg,qAf,qAA]
   have main:∀ σ ρ:Nat,SymS X Y μ σ ρ→qA0 XX (.slc db 0 k none 2) (.int .i64 (a:Int)) (.int .i64 (m:Int)) (.int .i64 (b:Int)) cmpv (.int .i64 ((a+μ:Nat):Int)) (.int .i64 ((a+μ+m:Nat):Int)) (.int .i64 ((a+σ:Nat):Int)) (.int .i64 ((a+ρ:Nat):Int)) K s:=by
    intro σ ρ h0
    have e6:IntKind.i64.wrap (((a+μ+m:Nat):Int) - 1)=((a+μ+m - 1:Nat):Int):=by rw [qAX (by omega) (by omega)];omega
    simp only [qA0,qAf,e6,qAA]
    refine ⟨λys t c=>∃ σ ρ:Nat,ys=[.int .i64 ((a+σ:Nat):Int),.int .i64 ((a+ρ:Nat):Int)]∧c=ρ - σ∧Sub s t∧SymS X Y μ σ ρ,⟨_,σ,ρ,rfl,rfl,.refl s,h0⟩,?_⟩
    rintro f t c ⟨σ,ρ,hy,rfl,st,hs⟩
    simp only [cI,and_true] at hy
    rw [hy.1,hy.2]
    have ht:=h.sub st
    have hle:=hs.le
    have hlo:=hs.lo
    have hhi:=hs.hi
    simp only [qCE,qAP,qAA]
    refine qAG (λhlt=>?_) (λhge=>?_)
    ·have hlt:σ < ρ:=by have:=oT hlt;omega
     obtain ⟨γ,hγ⟩:∃ γ,γ=(σ+ρ) / 2:=⟨_,rfl⟩
     have g1:σ≤γ∧γ < ρ:=by omega
     have g2:γ < X.length∧γ+1≤μ∧μ - 1 - γ < Y.length:=by
      by_cases c:μ < X.length
      ·rw [if_pos c] at hlo hhi;omega
      ·rw [if_neg c] at hlo hhi;omega
     have e7:IntKind.i64.wrap (((a+σ:Nat):Int)+((a+ρ:Nat):Int))=((2 * a+σ+ρ:Nat):Int):=by rw [qAX (by omega) (by omega)];omega
     obtain ⟨q1,q2,q3⟩:=qQc (w:=2 * a+σ+ρ) (by omega)
     have e8:(2 * a+σ+ρ) / 2=a+γ:=by omega
     rw [e8] at q2 q3
     have e9:IntKind.i64.wrap (((a+μ+m - 1:Nat):Int) - ((a+γ:Nat):Int))=((m+(μ - 1 - γ):Nat):Int):=by rw [qAX (by omega) (by omega)];omega
     have cx:cAt (P ++ X ++ Y ++ Q) (a+γ)=cAt X γ:=by
      rw [qC7,if_pos (by simp only [lAp];omega),qC7,if_pos (by simp only [lAp];omega),qC7,if_neg (by omega)]
      congr 1
      omega
     have cy:cAt (P ++ X ++ Y ++ Q) (m+(μ - 1 - γ))=cAt Y (μ - 1 - γ):=by
      rw [qC7,if_pos (by simp only [lAp];omega),qC7,if_neg (by simp only [lAp];omega)]
      congr 1
      simp only [lAp]
      omega
     have r1:=ht.row (i:=a+γ) (by rw [← hk];omega)
     have r2:=ht.row (i:=m+(μ - 1 - γ)) (by rw [← hk];omega)
     rw [cx] at r1
     rw [cy] at r2
     simp only [qAT,e7,q1,q2,q3,qAf,e9,c_ad (show m+(μ - 1 - γ) < k by omega),c_ad (show a+γ < k by omega),r1,r2,qAA]
     refine qVS λs3 r sub3 hr=>?_
     simp only [qAP,qAb,qAA]
     by_cases hc:r < 0
     ·rw [decide_eq_true hc]
      simp only [Bool.not_true,qAF]
      exact ⟨_,by omega,σ,γ,rfl,rfl,st.trans sub3,g1.1,hlo,by omega,hs.s1,λ_=>hr.1 hc⟩
     ·rw [decide_eq_false hc]
      have hc:(cAt X γ).1≤(cAt Y (μ - 1 - γ)).1:=by
       have:¬ (cAt Y (μ - 1 - γ)).1 < (cAt X γ).1:=λq=>hc (hr.2 q)
       omega
      simp only [Bool.not_false,qAK]
      rw [qAX (by omega) (by omega)]
      refine ⟨_,by omega,γ+1,ρ,by rw [show ((a+(γ+1):Nat):Int)=((a+γ:Nat):Int)+1 by omega],rfl,st.trans sub3,by omega,by omega,hhi,λ_=>?_,hs.s2⟩
      rw [Nat.add_sub_cancel,show μ - (γ+1)=μ - 1 - γ by omega]
      exact hc
    ·have hge:σ=ρ:=by have:=oF hge;omega
     subst hge
     obtain ⟨k1,k2,k3,k4,k5⟩:=hs.cut sX sY hμ
     obtain ⟨A,hA⟩:∃ A,A=X.take σ:=⟨_,rfl⟩
     obtain ⟨V0,hU⟩:∃ U,U=X.drop σ:=⟨_,rfl⟩
     obtain ⟨V,hV⟩:∃ V,V=Y.take (μ - σ):=⟨_,rfl⟩
     obtain ⟨B,hB⟩:∃ B,B=Y.drop (μ - σ):=⟨_,rfl⟩
     have eX:X=A ++ V0:=by rw [hA,hU,List.take_append_drop]
     have eY:Y=V ++ B:=by rw [hV,hB,List.take_append_drop]
     have lA:A.length=σ:=by rw [hA,List.length_take];omega
     have lU:V0.length=X.length - σ:=by rw [hU,List.length_drop]
     have lV:V.length=μ - σ:=by rw [hV,List.length_take];omega
     have lB:B.length=Y.length - (μ - σ):=by rw [hB,List.length_drop]
     rw [← hA,← hB] at k4
     rw [← hU,← hV] at k5
     have sA:Srt A:=by rw [eX] at sX;exact sX.parts.1
     have sU:Srt V0:=by rw [eX] at sX;exact sX.parts.2.1
     have sV:Srt V:=by rw [eY] at sY;exact sY.parts.1
     have sB:Srt B:=by rw [eY] at sY;exact sY.parts.2.1
     clear hA hU hV hB
     have e7:IntKind.i64.wrap (((a+μ+m:Nat):Int) - ((a+σ:Nat):Int))=((m+(μ - σ):Nat):Int):=by rw [qAX (by omega) (by omega)];omega
     have tail9:∀ (t:Hq) (Z:List Cd),CAt t db (P ++ Z ++ V0 ++ B ++ Q)→Mrg A V Z→KB db s t→qAy XX (.slc db 0 k none 2) (.int .i64 (b:Int)) cmpv (.int .i64 ((a+μ:Nat):Int)) (.int .i64 ((m+(μ - σ):Nat):Int)) K t:=λt Z h1 mz kp=>by
      have lZ:Z.length=μ:=by rw [mz.len,lA,lV];omega
      have whole:∀ (t:Hq) (W:List Cd),CAt t db (P ++ Z ++ W ++ Q)→Mrg V0 B W→KB db s t→K (.tup []) t:=λt W h2 mw kp2=>by
       refine hK t (Z ++ W) (by simpa [List.append_assoc] using h2) ?_ kp2
       rw [eX,eY]
       exact Mrg.halves (by rw [← eX];exact sX) (by rw [← eY];exact sY) k4 k5 mz mw
      simp only [qAy,qAP,qAA]
      by_cases d1:V0=[]
      ·rw [decide_eq_false (show ¬ ((a+μ:Nat):Int) < ((m+(μ - σ):Nat):Int) by have:=len0 d1;omega)]
       simp only [qAF,qAn,qAI,qAA]
       refine whole t B ?_ (by rw [d1];exact Mrg.nil_l sB) kp
       rw [d1,List.append_nil] at h1
       exact h1
      have lU0:=List.length_pos_iff.2 d1
      rw [decide_eq_true (show ((a+μ:Nat):Int) < ((m+(μ - σ):Nat):Int) by omega)]
      simp only [qAK]
      by_cases d2:B=[]
      ·rw [decide_eq_false (show ¬ ((m+(μ - σ):Nat):Int) < (b:Int) by have:=len0 d2;omega)]
       simp only [qAn,qAO,qAF,qAA]
       refine whole t V0 ?_ (by rw [d2];exact Mrg.nil_r sU) kp
       rw [d2,List.append_nil] at h1
       exact h1
      have lB0:=List.length_pos_iff.2 d2
      rw [decide_eq_true (show ((m+(μ - σ):Nat):Int) < (b:Int) by omega)]
      simp only [qAn,qAO,qAK,qAA]
      refine qYY N (P:=P ++ Z) (X:=V0) (Y:=B) (Q:=Q) (by omega) h1 (by simp only [lAp];omega) hl (by rw [lAp];omega) (by omega) (by omega) d1 d2 sU sB λt2 W h2 mw kp2=>whole t2 W h2 mw (kp.trans kp2)
     have tail7:∀ t:Hq,CAt t db (P ++ A ++ V ++ V0 ++ B ++ Q)→KB db s t→qAz XX (.slc db 0 k none 2) (.int .i64 (a:Int)) (.int .i64 (b:Int)) cmpv (.int .i64 ((a+μ:Nat):Int)) (.int .i64 ((a+σ:Nat):Int)) (.int .i64 ((m+(μ - σ):Nat):Int)) K t:=λt h1 kp=>by
      simp only [qAz,qAP,qAA]
      by_cases d1:A=[]
      ·rw [decide_eq_false (show ¬ (a:Int) < ((a+σ:Nat):Int) by have:=len0 d1;omega)]
       simp only [qAF,qAp,qAI,qAA]
       refine tail9 t V ?_ (by rw [d1];exact Mrg.nil_l sV) kp
       rw [d1,List.append_nil] at h1
       exact h1
      have lA0:=List.length_pos_iff.2 d1
      rw [decide_eq_true (show (a:Int) < ((a+σ:Nat):Int) by omega)]
      simp only [qAK]
      by_cases d2:V=[]
      ·rw [decide_eq_false (show ¬ ((a+σ:Nat):Int) < ((a+μ:Nat):Int) by have:=len0 d2;omega)]
       simp only [qAp,qAO,qAF,qAA]
       refine tail9 t A ?_ (by rw [d2];exact Mrg.nil_r sA) kp
       rw [d2,List.append_nil] at h1
       exact h1
      have lV0:=List.length_pos_iff.2 d2
      rw [decide_eq_true (show ((a+σ:Nat):Int) < ((a+μ:Nat):Int) by omega)]
      simp only [qAp,qAO,qAK,qAA]
      refine qYY N (P:=P) (X:=A) (Y:=V) (Q:=V0 ++ B ++ Q) (by omega) (by simpa [List.append_assoc] using h1) (by simp only [lAp];omega) hl ha (by omega) (by omega) d1 d2 sA sV λt2 Z h2 mz kp2=>tail9 t2 Z (by simpa [List.append_assoc] using h2) mz (kp.trans kp2)
     simp only [qAf,e7,qAA]
     have ht2:CAt t db (P ++ A ++ V0 ++ V ++ (B ++ Q)):=by
      rw [eX,eY] at ht
      simpa [List.append_assoc] using ht
     by_cases d1:V0=[]
     ·rw [decide_eq_false (show ¬ ((a+σ:Nat):Int) < (m:Int) by have:=len0 d1;omega)]
      simp only [qAF,qAo,qAI,qAA]
      refine tail7 t ?_ st.keep
      rw [d1] at ht2 ⊢
      simpa [List.append_assoc] using ht2
     have lU0:=List.length_pos_iff.2 d1
     rw [decide_eq_true (show ((a+σ:Nat):Int) < (m:Int) by omega)]
     simp only [qAK,qAP,qAA]
     by_cases d2:V=[]
     ·rw [decide_eq_false (show ¬ (m:Int) < ((m+(μ - σ):Nat):Int) by have:=len0 d2;omega)]
      simp only [qAo,qAO,qAF,qAA]
      refine tail7 t ?_ st.keep
      rw [d2] at ht2 ⊢
      simpa [List.append_assoc] using ht2
     have lV0:=List.length_pos_iff.2 d2
     rw [decide_eq_true (show (m:Int) < ((m+(μ - σ):Nat):Int) by omega)]
     simp only [qAo,qAO,qAK,qAA]
     refine qYz (P:=P ++ A) (X:=V0) (Y:=V) (Q:=B ++ Q) ht2 (by simp only [lAp];omega) hl (by rw [lAp];omega) (by omega) (by omega) d1 d2 λt2 h2 kp2=>tail7 t2 (by simpa [List.append_assoc] using h2) (st.keep.trans kp2)
   refine qAG (λhc=>?_) (λhc=>?_)
   ·have hc:μ < X.length:=by have:=oT hc;omega
    have e6:IntKind.i64.wrap (((a+μ+m:Nat):Int) - (b:Int))=((a+(μ - Y.length):Nat):Int):=by rw [qAX (by omega) (by omega)];omega
    rw [e6]
    refine main (μ - Y.length) μ ⟨by omega,by rw [if_pos hc];exact Nat.le_refl _,by rw [if_pos hc];exact Nat.le_refl _,λq=>?_,λq=>?_⟩
    ·rw [if_pos hc] at q;omega
    ·rw [if_pos hc] at q;omega
   ·have hc:¬ μ < X.length:=by have:=oF hc;omega
    have:=main 0 X.length ⟨by omega,by rw [if_neg hc];exact Nat.le_refl _,by rw [if_neg hc];exact Nat.le_refl _,λq=>?_,λq=>?_⟩
    ·rw [Nat.add_zero,← hm] at this
     exact this
    ·rw [if_neg hc] at q;omega
    ·rw [if_neg hc] at q;omega
end Go.AM.SG
namespace Go.AM.SG
open Go Go.AM Go.Proofs
variable {K : AV → Hq → Prop} {s s' s0 : Hq} {db : Nat} {l l' : List Cd}
def SR (l:List Cd) (lo hi bs:Nat):Prop:=∀ i j,lo≤i→i≤j→j < hi→i / bs=j / bs→(cAt l i).1≤(cAt l j).1
theorem cut3 {a b:Nat} (hab:a≤b):l.take a ++ (l.drop a).take (b - a) ++ l.drop b=l:=by
 have h:l.drop b=(l.drop a).drop (b - a):=by rw [List.drop_drop,Nat.add_sub_cancel' hab]
 rw [h,List.append_assoc,List.take_append_drop,List.take_append_drop]
theorem cut4 {a m b:Nat} (h1:a≤m) (h2:m≤b):l.take a ++ (l.drop a).take (m - a) ++ (l.drop m).take (b - m) ++ l.drop b=l:=by
 have h:l.drop b=(l.drop m).drop (b - m):=by rw [List.drop_drop,Nat.add_sub_cancel' h2]
 rw [h,List.append_assoc (l.take a ++ (l.drop a).take (m - a)),List.take_append_drop,cut3 h1]
theorem qRJ {a b:Nat} (hab:a≤b) (hb:b≤l.length):((l.drop a).take (b - a)).length=b - a:=by rw [List.length_take,List.length_drop];omega
theorem zAB8 {a b i:Nat} (hi:i < b - a):cAt ((l.drop a).take (b - a)) i=cAt l (a+i):=by rw [qKJ hi,qJ6]
theorem qZl {a b bs:Nat} (hab:a≤b) (hb:b≤l.length) (h:∀ i j,a≤i→i≤j→j < b→(cAt l i).1≤(cAt l j).1):Srt ((l.drop a).take (b - a)):=by
 refine List.pairwise_iff_getElem.2 λi j hi hj hij=>?_
 rw [← qDA hi,← qDA hj]
 rw [qRJ hab hb] at hi hj
 rw [zAB8 hi,zAB8 hj]
 exact h _ _ (by omega) (by omega) (by omega)
structure Seg (l:List Cd) (a b:Nat) (l':List Cd):Prop where
 len:l'.length=l.length
 out:∀ i,i < a∨b≤i→cAt l' i=cAt l i
 srt:∀ i j,a≤i→i≤j→j < b→(cAt l' i).1≤(cAt l' j).1
 stb:Stb l l'
theorem Seg.mk' {P X Z Q:List Cd} (hZ:Srt Z) (hs:Stb X Z) (hl:Z.length=X.length):Seg (P ++ X ++ Q) P.length (P.length+X.length) (P ++ Z ++ Q):=by
 refine ⟨by simp only [lAp];omega,λi hi=>?_,λi j h1 h2 h3=>?_,((Stb.refl P).app hs).app (Stb.refl Q)⟩
 ·rw [qC7,qC7,qC7,qC7]
  simp only [lAp,hl]
  by_cases c:i < P.length
  ·rw [if_pos (by omega),if_pos c,if_pos (by omega),if_pos c]
  ·rw [if_neg (by omega),if_neg (by omega)]
 ·have e:∀ i,P.length≤i→i < P.length+X.length→cAt (P ++ Z ++ Q) i=cAt Z (i - P.length):=λi h1 h2=>by
   rw [qC7,if_pos (by simp only [lAp];omega),qC7,if_neg (by omega)]
  rw [e i h1 (by omega),e j (by omega) h3]
  exact qLu hZ (by omega) (by omega)
theorem qXJ {a b k:Nat} (h:CAt s db l) (hk:k=l.length) (hl:k≤100000) (hab:a≤b) (hb:b≤l.length) (hK:∀ s' l',CAt s' db l'→Seg l a b l'→KB db s s'→K (.tup []) s'):wC Tryz.prog XX 116 [.slc db 0 k none 2,.int .i64 (a:Int),.int .i64 (b:Int),cmpv] K s:=by
 have e:=cut3 (l:=l) hab
 have la:(l.take a).length=a:=by rw [List.length_take];omega
 have lx:=qRJ hab hb
 refine qS9 (P:=l.take a) (X:=(l.drop a).take (b - a)) (Q:=l.drop b) (by rw [e];exact h) (by rw [e];exact hk) hl la.symm (by rw [lx];omega) λs' Z h1 srt stb hz kp=>?_
 have sg:=Seg.mk' (P:=l.take a) (Q:=l.drop b) srt stb hz
 rw [e,la,lx,show a+(b - a)=b by omega] at sg
 exact hK s' _ h1 sg kp
theorem qYk {a m b k:Nat} (h:CAt s db l) (hk:k=l.length) (hl:k≤100000) (h1:a < m) (h2:m < b) (hb:b≤l.length) (s1:∀ i j,a≤i→i≤j→j < m→(cAt l i).1≤(cAt l j).1) (s2:∀ i j,m≤i→i≤j→j < b→(cAt l i).1≤(cAt l j).1)
  (hK:∀ s' l',CAt s' db l'→Seg l a b l'→KB db s s'→K (.tup []) s'):wC Tryz.prog XX 117 [.slc db 0 k none 2,.int .i64 (a:Int),.int .i64 (m:Int),.int .i64 (b:Int),cmpv] K s:=by
 have e:=cut4 (l:=l) (show a≤m by omega) (show m≤b by omega)
 have la:(l.take a).length=a:=by rw [List.length_take];omega
 have lx:=qRJ (l:=l) (show a≤m by omega) (by omega)
 have ly:=qRJ (l:=l) (show m≤b by omega) hb
 refine qYY _ (P:=l.take a) (X:=(l.drop a).take (m - a)) (Y:=(l.drop m).take (b - m)) (Q:=l.drop b) (Nat.le_refl _) (by rw [e];exact h) (by rw [e];exact hk) hl la.symm (by rw [lx];omega) (by rw [ly];omega) (λq=>by rw [q] at lx;simp at lx;omega) (λq=>by rw [q] at ly;simp at ly;omega) (qZl (bs:=1) (by omega) (by omega) s1) (qZl (bs:=1) (by omega) hb s2) λs' Z h3 mg kp=>?_
 have sg:=Seg.mk' (P:=l.take a) (Q:=l.drop b) mg.srt mg.stb (by rw [mg.len,lAp])
 rw [← List.append_assoc (l.take a),e,la,lAp,lx,ly,show a+(m - a+(b - m))=b by omega] at sg
 exact hK s' _ h3 sg kp
end Go.AM.SG
namespace Go.AM.SG
open Go Go.AM Go.Proofs
variable {K : AV → Hq → Prop} {s s' s0 : Hq} {db : Nat} {l l' : List Cd}
theorem zACL {i c B:Nat} (h1:c * B≤i) (h2:i < c * B+B):i / B=c:=Nat.div_eq_of_lt_le h1 (by rw [Nat.succ_mul];exact h2)
theorem zAEU {i c B:Nat} (hB:0 < B) (h:i < c * B):i / B < c:=(Nat.div_lt_iff_lt_mul hB).2 h
theorem zAER {i c B:Nat} (hB:0 < B) (h:c * B≤i):c≤i / B:=(Nat.le_div_iff_mul_le hB).2 h
theorem SR.grow {c B e:Nat} (hB:0 < B) (h:SR l 0 (c * B) B) (sg:Seg l (c * B) e l') (he:e≤c * B+B):SR l' 0 e B:=λi j _ hij hj hq=>by
 by_cases c1:j < c * B
 ·rw [sg.out i (.inl (by omega)),sg.out j (.inl c1)]
  exact h i j (by omega) hij c1 hq
 ·have q1:=zAER hB (show c * B≤j by omega)
  by_cases c2:i < c * B
  ·have:=zAEU hB c2
   omega
  ·exact sg.srt i j (by omega) hij hj
theorem Seg.self {a e:Nat} (h:∀ i j,a≤i→i≤j→j < e→(cAt l i).1≤(cAt l j).1):Seg l a e l:=⟨rfl,λ_ _=>rfl,h,.refl l⟩
theorem SR.blk {c B lo hi:Nat} (h:SR l lo hi B):∀ i j,lo≤i→j < hi→c * B≤i→i≤j→j < c * B+B→(cAt l i).1≤(cAt l j).1:=λi j h1 h2 h3 h4 h5=>
 h i j h1 h4 h2 (by rw [zACL h3 (by omega),zACL (by omega) h5])
theorem qYD {k:Nat} (h:CAt s db l) (hk:k=l.length) (hl:k≤1000) (hK:∀ s' l',CAt s' db l'→l'.length=l.length→Srt l'→Stb l l'→KB db s s'→K (.tup []) s'):wC Tryz.prog XX 74 [.slc db 0 k none 2,.int .i64 (k:Int),cmpv] K s:=by
 refine qCO ?_
 refine ⟨λys t m=>∃ (c:Nat) (l1:List Cd),ys=[.int .i64 ((c * 20:Nat):Int),.int .i64 ((c * 20+20:Nat):Int)]∧c * 20≤k∧m=k - c * 20∧CAt t db l1∧l1.length=k∧SR l1 0 (c * 20) 20∧Stb l l1∧KB db s t,⟨_,0,l,rfl,by omega,rfl,h,hk.symm,λi j _ _ hj=>by omega,.refl l,.refl _ s⟩,?_⟩
 rintro f t m ⟨c,l1,hy,hc,rfl,h1,len1,sr,stb,kp⟩
 simp only [cI,and_true] at hy
 rw [hy.1,hy.2]
 simp only [qBa,qCs,qAA]
 refine qAG (λhle=>?_) (λhgt=>?_)
 ·have hle:c * 20+20≤k:=by have:=oT hle;omega
  refine qXJ h1 len1.symm (by omega) (by omega) (by omega) λs2 l2 h2 sg kp2=>?_
  simp only [qAT,qAA]
  rw [qAX (by omega) (by omega)]
  exact ⟨_,by omega,c+1,l2,by rw [show (c+1) * 20=c * 20+20 by omega];rfl,by omega,rfl,h2,by rw [sg.len];exact len1,by rw [show (c+1) * 20=c * 20+20 by omega];exact sr.grow (by omega) sg (by omega),stb.trans sg.stb,kp.trans kp2⟩
 have hgt:k < c * 20+20:=by have:=oF hgt;omega
 refine qXJ h1 len1.symm (by omega) hc (by omega) λs2 l2 h2 sg kp2=>?_
 have sr2:=sr.grow (by omega) sg (by omega)
 have stb2:=stb.trans sg.stb
 have len2:l2.length=k:=by rw [sg.len];exact len1
 have kp3:=kp.trans kp2
 clear sr stb h1 len1 kp kp2 sg hy
 refine ⟨λys t m=>∃ (B:Nat) (l1:List Cd),ys=[.int .i64 (B:Int)]∧1≤B∧B≤2 * k+20∧m=2 * k+20 - B∧CAt t db l1∧l1.length=k∧SR l1 0 k B∧Stb l l1∧KB db s t,⟨_,20,l2,rfl,by omega,by omega,rfl,h2,len2,sr2,stb2,kp3⟩,?_⟩
 clear h2 sr2 stb2 len2 kp3
 rintro f t m ⟨B,l1,hy,hB,hB2,rfl,h1,len1,sr,stb,kp⟩
 simp only [cI,and_true] at hy
 rw [hy]
 simp only [qBZ,qAP,qAA]
 refine qAG (λhlt=>?_) (λhge=>?_)
 rotate_left
 ·have hge:k≤B:=by have:=oF hge;omega
  refine hK t l1 h1 (by omega) (List.pairwise_iff_getElem.2 λi j hi hj hij=>?_) stb kp
  rw [← qDA hi,← qDA hj]
  exact sr i j (by omega) (by omega) (by omega) (by rw [Nat.div_eq_of_lt (by omega),Nat.div_eq_of_lt (by omega)])
 have hlt:B < k:=by have:=oT hlt;omega
 have e1:IntKind.i64.wrap (2 * (B:Int))=((2 * B:Nat):Int):=by rw [qAX (by omega) (by omega)];omega
 simp only [qJZ,e1,qAA]
 refine ⟨λys t m=>∃ (c:Nat) (l2:List Cd),ys=[.int .i64 ((c * (2 * B):Nat):Int),.int .i64 ((c * (2 * B)+2 * B:Nat):Int)]∧c * (2 * B)≤k∧m=k - c * (2 * B)∧CAt t db l2∧l2.length=k∧SR l2 0 (c * (2 * B)) (2 * B)∧SR l2 (c * (2 * B)) k B∧Stb l l2∧KB db s t,⟨_,0,l1,by simp,by omega,rfl,h1,len1,λi j _ _ hj=>by omega,by rw [Nat.zero_mul];exact sr,stb,kp⟩,?_⟩
 clear h1 len1 sr stb kp hy
 rintro f t m ⟨c,l2,hy,hc,rfl,h1,len1,sr,sr',stb,kp⟩
 simp only [cI,and_true] at hy
 rw [hy.1,hy.2]
 have e2:IntKind.i64.wrap (((c * (2 * B):Nat):Int)+(B:Int))=((c * (2 * B)+B:Nat):Int):=by rw [qAX (by omega) (by omega)];omega
 have eb:(2 * c) * B=c * (2 * B):=by rw [Nat.mul_comm 2 c,Nat.mul_assoc]
 have eb1:(2 * c+1) * B=c * (2 * B)+B:=by rw [Nat.succ_mul,eb]
 have first:∀ e,e≤k→e≤c * (2 * B)+B→∀ i j,c * (2 * B)≤i→i≤j→j < e→(cAt l2 i).1≤(cAt l2 j).1:=λe q1 q2 i j p1 p2 p3=>sr'.blk (c:=2 * c) i j p1 (by omega) (by omega) p2 (by omega)
 have second:∀ e,e≤k→e≤c * (2 * B)+2 * B→∀ i j,c * (2 * B)+B≤i→i≤j→j < e→(cAt l2 i).1≤(cAt l2 j).1:=λe q1 q2 i j p1 p2 p3=>sr'.blk (c:=2 * c+1) i j (by omega) (by omega) (by omega) p2 (by omega)
 have nxt:∀ t2 l3,CAt t2 db l3→Seg l2 (c * (2 * B)) k l3→KB db t t2→k < c * (2 * B)+2 * B→qA5 XX (.int .i64 (B:Int)) (λys t m=>∃ (B:Nat) (l1:List Cd),ys=[.int .i64 (B:Int)]∧1≤B∧B≤2 * k+20∧m=2 * k+20 - B∧CAt t db l1∧l1.length=k∧SR l1 0 k B∧Stb l l1∧KB db s t) (2 * k+20 - B) K t2:=λt2 l3 q1 q2 q3 q4=>by
  have e3:IntKind.i64.wrap ((B:Int) * 2)=((2 * B:Nat):Int):=by rw [qAX (by omega) (by omega)];omega
  simp only [qA5,qJZ,e3,qAA]
  exact ⟨_,by omega,2 * B,l3,rfl,by omega,by omega,rfl,q1,by rw [q2.len];exact len1,sr.grow (by omega) q2 (by omega),stb.trans q2.stb,kp.trans q3⟩
 simp only [qCQ,qCs,qAA]
 refine qAG (λhle=>?_) (λhgt=>?_)
 ·have hle:c * (2 * B)+2 * B≤k:=by have:=oT hle;omega
  simp only [qAT,e2,qAA]
  refine qYk h1 len1.symm (by omega) (by omega) (by omega) (by omega) (first _ (by omega) (by omega)) (second _ hle (by omega)) λs2 l3 h2 sg kp2=>?_
  simp only [qJZ,qAT,e1,qAA]
  rw [qAX (by omega) (by omega)]
  have ec:(c+1) * (2 * B)=c * (2 * B)+2 * B:=Nat.succ_mul ..
  exact ⟨_,by omega,c+1,l3,by rw [ec];rfl,by omega,rfl,h2,by rw [sg.len];exact len1,by rw [ec];exact sr.grow (by omega) sg (by omega),λi j p1 p2 p3 p4=>by
   rw [ec] at p1
   rw [sg.out i (.inr p1),sg.out j (.inr (by omega))]
   exact sr' i j (by omega) p2 p3 p4,stb.trans sg.stb,kp.trans kp2⟩
 have hgt:k < c * (2 * B)+2 * B:=by have:=oF hgt;omega
 simp only [qAT,e2,qAP,qAA]
 refine qAG (λhm=>?_) (λhm=>?_)
 ·have hm:c * (2 * B)+B < k:=by have:=oT hm;omega
  refine qYk h1 len1.symm (by omega) (by omega) hm (by omega) (first _ (by omega) (by omega)) (second _ (by omega) (by omega)) λs2 l3 h2 sg kp2=>nxt s2 l3 h2 sg kp2 hgt
 ·have hm:k≤c * (2 * B)+B:=by have:=oF hm;omega
  exact nxt t l2 h1 (Seg.self (first k (Nat.le_refl _) hm)) (.refl _ t) hgt
end Go.AM.SG
namespace Go.AM.SG
def rdG:Option Int→List Cd→List Cd
 | _,[]=>[]
 | o,c :: l=>if o=some c.1 then rdG o l else c :: rdG (some c.1) l
def qT3:Option Int→List Cd→Option Int
 | o,[]=>o
 | _,c :: l=>qT3 (some c.1) l
theorem qTn:∀ {m:List Cd} {o:Option Int} {x:Cd},rdG o (m ++ [x])=rdG o m ++ (if qT3 o m=some x.1 then [] else [x])
 | [],o,x=>by
   show (if o=some x.1 then rdG o [] else x :: rdG (some x.1) [])=[] ++ (if o=some x.1 then [] else [x])
   by_cases h:o=some x.1
   ·rw [if_pos h,if_pos h];rfl
   ·rw [if_neg h,if_neg h];rfl
 | c :: m,o,x=>by
   have e1:rdG o (c :: m ++ [x])=if o=some c.1 then rdG o (m ++ [x]) else c :: rdG (some c.1) (m ++ [x]):=rfl
   have e2:rdG o (c :: m)=if o=some c.1 then rdG o m else c :: rdG (some c.1) m:=rfl
   have e3:qT3 o (c :: m)=qT3 (some c.1) m:=rfl
   rw [e1,e2,e3]
   by_cases h:o=some c.1
   ·rw [if_pos h,if_pos h,qTn,h]
   ·rw [if_neg h,if_neg h,qTn,List.cons_append]
theorem qSd:∀ {m:List Cd} {o:Option Int} {x:Cd},qT3 o (m ++ [x])=some x.1
 | [],_,_=>rfl
 | c :: m,o,x=>by
   show qT3 (some c.1) (m ++ [x])=_
   exact qSd
theorem qVr {l:List Cd} {k:Nat} (h:k < l.length) (h0:0 < k):qT3 none (l.take k)=some (cAt l (k - 1)).1:=by
 obtain ⟨j,rfl⟩:∃ j,k=j+1:=⟨k - 1,by omega⟩
 rw [List.take_add_one,gE (by omega),Option.toList_some,qSd,Nat.add_sub_cancel,qDA (by omega)]
theorem qU1 {l:List Cd} {k:Nat} (h:k < l.length) (h0:0 < k):rdG none (l.take (k+1))=rdG none (l.take k) ++ (if (cAt l (k - 1)).1=(cAt l k).1 then [] else [cAt l k]):=by
 rw [List.take_add_one,gE h,Option.toList_some,qTn,qVr h h0,qDA h]
 simp only [Option.some.injEq]
theorem qYq:∀ {l:List Cd} {o:Option Int},Srt l→(∀ c∈l,∀ k,o=some k→k≤c.1)→Sct (rdG o l)∧(∀ c∈rdG o l,∀ k,o=some k→k < c.1)∧∀ c,c∈rdG o l↔o≠some c.1∧(fk c.1 l).head?=some c
 | [],o,_,_=>by
   refine ⟨List.Pairwise.nil,λc h=>?_,λc=>⟨λh=>?_,λh=>?_⟩⟩
   ·cases h
   ·cases h
   ·cases h.2
 | a :: l,o,h,ho=>by
   obtain ⟨h1,h2⟩:=List.pairwise_cons.1 h
   have e:rdG o (a :: l)=if o=some a.1 then rdG o l else a :: rdG (some a.1) l:=rfl
   rw [e]
   by_cases q:o=some a.1
   ·rw [if_pos q]
    obtain ⟨k1,k2,k3⟩:=qYq (o:=o) h2 λc hc k hk=>ho c (List.mem_cons_of_mem _ hc) k hk
    refine ⟨k1,k2,λc=>?_⟩
    rw [k3 c,qTt]
    by_cases r:a.1=c.1
    ·rw [if_pos r]
     exact ⟨λw=>absurd (by rw [q,r]) w.1,λw=>absurd (by rw [q,r]) w.1⟩
    ·rw [if_neg r]
   ·rw [if_neg q]
    obtain ⟨k1,k2,k3⟩:=qYq (o:=some a.1) h2 λc hc k hk=>by cases hk;exact h1 c hc
    have lt:∀ k,o=some k→k < a.1:=λk hk=>by
     have:=ho a (by simp) k hk
     have:k≠a.1:=λe=>q (by rw [hk,e])
     omega
    refine ⟨List.pairwise_cons.2 ⟨λc hc=>k2 c hc _ rfl,k1⟩,λc hc k hk=>?_,λc=>?_⟩
    ·rcases List.mem_cons.1 hc with r | r
     ·rw [r];exact lt k hk
     ·have:=k2 c r _ rfl
      have:=lt k hk
      omega
    ·rw [List.mem_cons,k3 c,qTt]
     by_cases r:a.1=c.1
     ·rw [if_pos r]
      constructor
      ·rintro (w | w)
       ·rw [w]
        exact ⟨λz=>q z,rfl⟩
       ·exact absurd (by rw [r]) w.1
      ·rintro ⟨_,w⟩
       exact .inl (Option.some.inj w).symm
     ·rw [if_neg r]
      constructor
      ·rintro (w | w)
       ·exact absurd (by rw [w]) r
       ·refine ⟨λz=>?_,w.2⟩
        have hc:c∈fk c.1 l:=List.mem_of_mem_head? w.2
        have h3:=h1 c (qUz.1 hc).1
        have:=lt _ z
        omega
      ·rintro ⟨_,w⟩
       exact .inr ⟨λz=>r (Option.some.inj z),w⟩
theorem zADi {l:List Cd} (h:Srt l):Fst1 l (rdG none l):=by
 obtain ⟨k1,_,k3⟩:=qYq (o:=none) h λ_ _ _ e=>by cases e
 exact ⟨k1,λc=>by rw [k3 c];exact ⟨λh=>h.2,λh=>⟨(λe=>by cases e),h⟩⟩⟩
theorem zADH {l m:List Cd} (h:Srt m) (s:Stb l m):rdG none m=qI4 l:=((qRh l).same (zADi h) s).symm
end Go.AM.SG
namespace Go.AM.SG
open Go Go.AM Go.Proofs
variable {K : AV → Hq → Prop} {s s' s0 : Hq} {db : Nat} {l l' : List Cd} {v : AV}
abbrev CL (s0 s:Hq) (v:AV) (l:List Cd):Prop:=AccR 36 2 s0 s v (l.map cR)
theorem zAEp (hK:K (.tup []) s):wC Tryz.prog XX 74 [.nilslc,.int .i64 0,cmpv] K s:=by
 refine qCO ?_
 refine ⟨λys t m=>ys=[.int .i64 0,.int .i64 20]∧t=s,⟨0,rfl,rfl⟩,?_⟩
 rintro f t m ⟨hy,rfl⟩
 simp only [cI,and_true] at hy
 rw [hy.1,hy.2]
 have c1:decide ((20:Int)≤0)=false:=by decide
 simp only [qBa,qCs,c1,qAF,qAA]
 refine qBq ?_
 have e1:IntKind.i64.wrap ((0:Int)+1)=1:=by rw [qAX (by omega) (by omega)];rfl
 simp only [qBC,qAT,e1,qAA]
 refine ⟨λys t2 m=>ys=[.int .i64 1]∧t2=t,⟨0,rfl,rfl⟩,?_⟩
 rintro f t2 m ⟨hy,rfl⟩
 simp only [cI,and_true] at hy
 rw [hy]
 have c2:decide ((1:Int) < 0)=false:=by decide
 simp only [qA6,qAP,c2,qAF,qAA]
 refine ⟨λys t m=>ys=[.int .i64 20]∧t=t2,⟨0,rfl,rfl⟩,?_⟩
 rintro f t m ⟨hy,rfl⟩
 simp only [cI,and_true] at hy
 rw [hy]
 have c3:decide ((20:Int) < 0)=false:=by decide
 simp only [qBZ,qAP,c3,qAF,qAA]
 exact hK
theorem zABQ (h:CL s0 s v l) (hs:Sub s0 s) (hl:l.length≤1000) (hK:∀ s' l',CL s0 s' v l'→Sub s0 s'→l'.length=l.length→Srt l'→Stb l l'→K (.tup []) s'):wC Tryz.prog XX 45 [v,cmpv] K s:=by
 refine qCK ?_
 simp only [qBF,h.sl.len,List.length_map,qAA]
 obtain ⟨hr,q⟩:=h
 rcases q with ⟨rfl,q⟩ | ⟨db,q1,q2,q3⟩
 ·have hl0:l=[]:=List.map_eq_nil_iff.1 q
  subst hl0
  exact zAEp (hK s [] ⟨hr,.inl ⟨rfl,rfl⟩⟩ hs rfl List.Pairwise.nil (.refl []))
 ·rw [List.length_map] at q2
  rw [q2]
  refine qYD (l:=l) q3 rfl hl λs' l' h1 e1 srt stb kp=>hK s' l' ⟨qVA l',.inr ⟨db,q1,by rw [q2,List.length_map,e1],h1⟩⟩ (λi e hi=>kp i e (hs i e hi) λw=>by rw [w,q1] at hi;cases hi) e1 srt stb
abbrev eqv:AV:=.fn (.func 49) [] []
theorem zAEV {a b:Cd} (hK:∀ s' (r:Bool),Sub s s'→(r=true↔a.1=b.1)→K (.bool r) s'):funK Tryz.prog XX eqv [.agg (cR a),.agg (cR b)] K s:=by
 refine ⟨by kernel_rfl,?_⟩
 show wC Tryz.prog XX 49 [.agg (cR a),.agg (cR b)] K s
 refine qLk ⟨rfl,qAL λx s1 hx h1 u1=>⟨rfl,qAL λy s2 hy h2 u2=>?_⟩⟩
 have sub2:=(u1.sub hx).trans (u2.sub hy)
 have h12:s2 x=some (false,.cells 36 (cR a)):=u2.sub hy _ _ h1
 have h22:s2 y=some (false,.cells 36 (cR b)):=h2
 have ra:(cR a)[0]?=some (.int .u32 a.1):=rfl
 have rb:(cR b)[0]?=some (.int .u32 b.1):=rfl
 simp only [qAB,zA,qAJ h12,qAJ h22,ra,rb,qAa,qAW,Bool.false_bne,qAA]
 exact hK s2 _ sub2 ⟨λh=>eq_of_beq h,λh=>by rw [h];exact beq_self_eq_true _⟩
end Go.AM.SG
namespace Go.AM.SG
open Go Go.AM Go.Proofs
variable {K : AV → Hq → Prop} {s s' s0 : Hq} {db : Nat} {l l' : List Cd} {v : AV}
theorem qUL {a b:List Cd}:flC (a ++ b)=flC a ++ flC b:=by simp [flC]
theorem qSi:∀ n:Nat,repl n [AV.int .u32 0,.int .i64 0]=flC (List.replicate n (0,0))
 | 0=>rfl
 | n+1=>by rw [repl,qSi n];rfl
theorem qPj:∀ q:List Cd,qAj (flC q)=true
 | []=>rfl
 | x :: q=>by
   show qAj (.int .u32 x.1 :: .int .i64 x.2 :: flC q)=true
   rw [qLA,qLA,qPj q];rfl
theorem CAt.first {A B:List Cd} (h:CAt s db (A ++ B)):SlR 2 s (.slc db 0 A.length none 2) (A.map cR):=by
 refine ⟨qVA A,.inr ⟨db,0,none,by rw [List.length_map],(λc h=>by cases h),λ_=>⟨false,36,_,h,?_,?_⟩⟩⟩
 ·rw [qIp,List.length_map,lAp];omega
 ·rw [List.drop_zero,List.length_map,qUL,← qIp A,List.take_left]
theorem zAAS {A C:List Cd} {R:Hq→Prop} (h:CAt s db (A ++ C)) (hne:C≠[]) (hR:∀ s',CAt s' db (A ++ List.replicate C.length (0,0))→Upto db s s'→R s'):qSR [(.int .u32 0),(.int .i64 0)] 2 (.slc db (A.length * 2) C.length none 2) (λ_ s=>R s) s:=by
 unfold qSR
 refine ⟨rfl,?_⟩
 obtain ⟨m,hm⟩:∃ m,C.length=m+1:=⟨C.length - 1,by have:=List.length_pos_iff.2 hne;omega⟩
 rw [hm] at hR ⊢
 simp only
 rw [qSi]
 have h':s db=some (false,.cells 36 (flC (A ++ C))):=h
 have e2:Nat.ble (A.length * 2+(flC (List.replicate (m+1) (0,0))).length) (flC (A ++ C)).length=true:=by
  rw [qIp,qIp,List.length_replicate,lAp,hm,Nat.ble_eq];omega
 have e3:qBY (flC (A ++ C)) (A.length * 2) (flC (List.replicate (m+1) (0,0)))=flC (A ++ List.replicate (m+1) (0,0)):=by
  unfold qBY
  rw [qUL,qUL,← qIp A,List.take_left,List.drop_eq_nil_of_le,List.append_nil]
  rw [lAp,qIp,qIp,qIp,List.length_replicate];omega
 have e1:wrN s (.ptr db (A.length * 2)) (flC (List.replicate (m+1) (0,0)))=some (hset s db (false,.cells 36 (flC (A ++ List.replicate (m+1) (0,0))))):=by
  rw [← e3]
  simp only [wrN,h',e2,qPj,Bool.and_self,cond_true]
 exact qAH e1 (hR _ qCl λ_ hi=>qBf hi)
theorem zABA {q:List Cd} {k:Nat} {x:Cd} (h:k < q.length):(q.set k x).take (k+1)=q.take k ++ [x]:=by
 rw [List.take_add_one,List.getElem?_set_self h,List.take_set_of_le (Nat.le_refl k)]
 rfl
theorem qT4 (h:CL s0 s v l) (hs:Sub s0 s) (hl:l.length≤1000) (hK:∀ v' s',SlR 2 s' v' ((rdG none l).map cR)→Sub s0 s'→K v' s'):wC Tryz.prog XX 48 [v,eqv] K s:=by
 refine qCW ?_
 simp only [qBW,h.sl.len,List.length_map,qAP,qAA]
 refine qAG (λhc=>?_) (λhc=>?_)
 ·have hc:l.length < 2:=by have:=oT hc;omega
  have e:rdG none l=l:=by
   match l,hc with
   | [],_=>rfl
   | [a],_=>rfl
  exact hK v s (by rw [e];exact h.sl) hs
 have hc:2≤l.length:=by have:=oF hc;omega
 obtain ⟨db,q1,q2,q3⟩:∃ db,s0 db=none∧v=.slc db 0 l.length none 2∧CAt s db l:=by
  rcases h.2 with ⟨_,q⟩ | ⟨db,q1,q2,q3⟩
  ·have:l=[]:=List.map_eq_nil_iff.1 q
   rw [this] at hc;simp at hc
  ·rw [List.length_map] at q2
   exact ⟨db,q1,q2,q3⟩
 subst q2
 clear h
 have keepS:∀ {t:Hq},KB db s t→Sub s0 t:=fun {t} kp i e hi=>kp i e (hs i e hi) λw=>by rw [w,q1] at hi;cases hi
 refine ⟨λys t m=>∃ k:Nat,ys=[.int .i64 (k:Int)]∧1≤k∧k≤l.length∧m=l.length - k∧Sub s t∧rdG none (l.take k)=l.take k,⟨_,1,rfl,by omega,by omega,rfl,.refl s,?_⟩,?_⟩
 ·match l,hc with
  | a :: r,_=>rfl
 rintro f t m ⟨k0,hy,hk1,hk2,rfl,st,hpre⟩
 simp only [cI,and_true] at hy
 rw [hy]
 have ht:=q3.sub st
 have lenv:qAQ (.slc db 0 l.length none 2)=some l.length:=rfl
 simp only [qBG,lenv,qAP,qAA]
 refine qAG (λhlt=>?_) (λhge=>?_)
 rotate_left
 ·have hge:k0=l.length:=by have:=oF hge;omega
  rw [hge,List.take_length] at hpre
  exact hK _ t (by rw [hpre];exact ht.sl) (keepS st.keep)
 have hlt:k0 < l.length:=by have:=oT hlt;omega
 have w1:IntKind.i64.wrap ((k0:Int) - 1)=((k0 - 1:Nat):Int):=by rw [qAX (by omega) (by omega)];omega
 simp only [c_ad hlt,ht.row hlt,qAf,w1,c_ad (show k0 - 1 < l.length by omega),ht.row (show k0 - 1 < l.length by omega),qAA]
 refine zAEV λs3 r sub3 hr=>?_
 have st3:=st.trans sub3
 have step:=qU1 hlt (by omega)
 have h3:=q3.sub st3
 cases r with
 | false=>
   have hne:¬ (cAt l (k0 - 1)).1=(cAt l k0).1:=λe=>by have:=hr.2 e.symm;cases this
   simp only [qAF,qAT,qAA]
   rw [qAX (by omega) (by omega)]
   refine ⟨_,by omega,k0+1,rfl,by omega,by omega,rfl,st3,?_⟩
   rw [step,if_neg hne,hpre,List.take_add_one,gE hlt,qDA hlt];rfl
 | true=>
 have heq:(cAt l (k0 - 1)).1=(cAt l k0).1:=(hr.1 rfl).symm
 rw [if_pos heq,List.append_nil,hpre] at step
 have sl:∀ {k:Nat},k≤l.length→qCA 2 (.slc db 0 l.length none 2) (some (.int .i64 (k:Int))) none none=some (.slc db (k * 2) (l.length - k) none 2):=fun {k} hk=>by
  simp [qCA,bound,Nat.ble_eq_true_of_le hk]
 have sh:∀ {k:Nat},k≤l.length→qCA 2 (.slc db 0 l.length none 2) none (some (.int .i64 (k:Int))) none=some (.slc db 0 k none 2):=fun {k} hk=>by
  simp [qCA,bound,Nat.ble_eq_true_of_le hk]
 simp only [qAK,sl hk2,qAA]
 refine ⟨λys t m=>∃ (k k2:Nat) (cur:List Cd),ys=[.int .i64 (k:Int),.int .i64 (k2:Int)]∧CAt t db cur∧KB db s t∧cur.length=l.length∧1≤k2∧k0+k2≤l.length∧m=l.length - k0 - k2∧k < k0+k2∧(∀ j,k0+k2 - 1≤j→cAt cur j=cAt l j)∧rdG none (l.take (k0+k2))=cur.take k,⟨_,k0,1,l,rfl,h3,st3.keep,rfl,by omega,by omega,rfl,by omega,λ_ _=>rfl,step⟩,?_⟩
 rintro f t2 m ⟨k,k2,cur,hy,hcur,kp,hlen,c1,c2,rfl,c3,c4,c5⟩
 simp only [cI,and_true] at hy
 rw [hy.1,hy.2]
 have lenw:qAQ (.slc db (k0 * 2) (l.length - k0) none 2)=some (l.length - k0):=rfl
 simp only [qBJ,lenw,qAP,qAA]
 refine qAG (λhlt2=>?_) (λhge2=>?_)
 ·have hlt2:k0+k2 < l.length:=by have:=oT hlt2;omega
  have ad2:∀ {i:Nat},k0+i < l.length→qAS 2 (.slc db (k0 * 2) (l.length - k0) none 2) (.int .i64 (i:Int))=some (.ptr db ((k0+i) * 2)):=fun {i} hi=>by
   have:Nat.blt i (l.length - k0)=true:=by rw [Nat.blt_eq];omega
   rw [Nat.add_mul]
   simp [qAS,this]
  have w2:IntKind.i64.wrap ((k2:Int) - 1)=((k2 - 1:Nat):Int):=by rw [qAX (by omega) (by omega)];omega
  have r1:=hcur.row (i:=k0+k2) (by omega)
  have r2:=hcur.row (i:=k0+(k2 - 1)) (by omega)
  rw [c4 _ (by omega)] at r1
  rw [c4 _ (by omega),show k0+(k2 - 1)=k0+k2 - 1 by omega] at r2
  have ad3:qAS 2 (.slc db (k0 * 2) (l.length - k0) none 2) (.int .i64 ((k2 - 1:Nat):Int))=some (.ptr db ((k0+k2 - 1) * 2)):=by
   rw [ad2 (by omega),show k0+(k2 - 1)=k0+k2 - 1 by omega]
  have stp:=qU1 hlt2 (by omega)
  simp only [ad2 hlt2,r1,qAf,w2,ad3,r2,qAA]
  refine zAEV λs4 r sub4 hr=>?_
  have kp4:KB db s s4:=kp.trans sub4.keep
  have hcur4:=hcur.sub sub4
  have r1':=hcur4.row (i:=k0+k2) (by omega)
  rw [c4 _ (by omega)] at r1'
  simp only [qAb,qAA]
  cases r with
  | true=>
    have he:(cAt l (k0+k2 - 1)).1=(cAt l (k0+k2)).1:=(hr.1 rfl).symm
    rw [if_pos he,List.append_nil] at stp
    simp only [Bool.not_true,qAF,qAl,qAT,qAA]
    rw [qAX (by omega) (by omega)]
    exact ⟨_,by omega,k,k2+1,cur,rfl,hcur4,kp4,hlen,by omega,by omega,rfl,by omega,λj hj=>c4 j (by omega),by rw [show k0+(k2+1)=k0+k2+1 by omega,stp,c5]⟩
  | false=>
    have he:¬ (cAt l (k0+k2 - 1)).1=(cAt l (k0+k2)).1:=λe=>by have:=hr.2 e.symm;cases this
    rw [if_neg he] at stp
    simp only [Bool.not_false,qAK,r1',c_ad (show k < l.length by omega),qAA]
    refine hcur4.put (by omega) λs5 h5 u5=>?_
    simp only [qAl,qAT,qAA]
    rw [qAX (by omega) (by omega),qAX (by omega) (by omega)]
    refine ⟨_,by omega,k+1,k2+1,cur.set k (cAt l (k0+k2)),rfl,h5,kp4.trans (u5.keep rfl),by rw [List.length_set];exact hlen,by omega,by omega,rfl,by omega,λj hj=>?_,?_⟩
    ·rw [qTx (by omega),if_neg (by omega)]
     exact c4 j (by omega)
    ·rw [show k0+(k2+1)=k0+k2+1 by omega,stp,c5,zABA (by omega)]
 ·have hge2:k0+k2=l.length:=by have:=oF hge2;omega
  rw [hge2,List.take_length] at c5
  have lt:(cur.take k).length=k:=by rw [List.length_take];omega
  have ld:(cur.drop k).length=l.length - k:=by rw [List.length_drop,hlen]
  simp only [sl (show k≤l.length by omega),qAA]
  have:=zAAS (A:=cur.take k) (C:=cur.drop k) (s:=t2) (db:=db) (R:=λs_33=>oK (qCA 2 (.slc db 0 l.length none 2) none (some (.int .i64 (k:Int))) none) λv_34=>K v_34 s_33) (by rw [List.take_append_drop];exact hcur) (λe=>by rw [e] at ld;simp at ld;omega) λs5 h5 u5=>by
   simp only [sh (show k≤l.length by omega),qAA]
   refine hK _ s5 ?_ (keepS (kp.trans (u5.keep rfl)))
   rw [c5]
   have:=h5.first
   rw [lt] at this
   exact this
  rw [lt,ld] at this
  exact this
end Go.AM.SG
namespace Go.AM.SG
open Go Go.AM Go.Proofs
variable {K : AV → Hq → Prop} {s s' s0 : Hq} {db : Nat} {o : List Cd} {v : AV} {c : Cd}
theorem take_nil {es k:Nat} (hk:k≤0) (h:SlR es s v []):∃ v',qCA es v none (some (.int .i64 (k:Int))) none=some v'∧SlR es s v' []:=by
 obtain ⟨hr,q⟩:=h
 have e:k=0:=by omega
 rcases q with ⟨rfl,_⟩ | ⟨b,off,cap,rfl,hc,_⟩
 ·subst e
  exact ⟨.nilslc,rfl,hr,.inl ⟨rfl,rfl⟩⟩
 ·cases cap with
  | none=>
    refine ⟨.slc b off k none es,by simp [qCA,bound,Nat.ble_eq_true_of_le hk],?_⟩
    subst e
    exact ⟨hr,.inr ⟨b,off,none,rfl,(λc h=>by cases h),λh=>absurd rfl h⟩⟩
  | some cc=>
    refine ⟨.slc b off k (some cc) es,by simp [qCA,bound,Nat.ble_eq_true_of_le (Nat.le_trans hk (Nat.zero_le cc))],?_⟩
    subst e
    exact ⟨hr,.inr ⟨b,off,some cc,rfl,(λc h=>by simp),λh=>absurd rfl h⟩⟩
theorem drop_nil {es k:Nat} (hk:k≤0) (h:SlR es s v []):∃ v',qCA es v (some (.int .i64 (k:Int))) none none=some v'∧SlR es s v' []:=by
 obtain ⟨hr,q⟩:=h
 have e:k=0:=by omega
 rcases q with ⟨rfl,_⟩ | ⟨b,off,cap,rfl,hc,_⟩
 ·subst e
  exact ⟨.nilslc,rfl,hr,.inl ⟨rfl,rfl⟩⟩
 ·cases cap with
  | none=>
    refine ⟨.slc b (off+k * es) 0 none es,by simp [qCA,bound,Nat.ble_eq_true_of_le hk],?_⟩
    exact ⟨hr,.inr ⟨b,_,none,rfl,(λc h=>by cases h),λh=>absurd rfl h⟩⟩
  | some cc=>
    refine ⟨.slc b (off+k * es) 0 (some (cc - k)) es,by simp [qCA,bound,Nat.ble_eq_true_of_le hk],?_⟩
    exact ⟨hr,.inr ⟨b,_,some (cc - k),rfl,(λc h=>by simp),λh=>absurd rfl h⟩⟩
theorem zAGq {es:Nat} {rows:List (List AV)} (h:SlR es s v rows) {k:Nat} (hk:k≤rows.length):∃ v',qCA es v none (some (.int .i64 (k:Int))) none=some v'∧SlR es s v' (rows.take k):=by
 by_cases q:rows=[]
 ·subst q
  rw [List.take_nil]
  exact take_nil (by simpa using hk) h
 ·obtain ⟨v',h1,h2,_⟩:=h.take hk q
  exact ⟨v',h1,h2⟩
theorem zAGK {es:Nat} {rows:List (List AV)} (h:SlR es s v rows) {k:Nat} (hk:k≤rows.length):∃ v',qCA es v (some (.int .i64 (k:Int))) none none=some v'∧SlR es s v' (rows.drop k):=by
 by_cases q:rows=[]
 ·subst q
  rw [List.drop_nil]
  exact drop_nil (by simpa using hk) h
 ·obtain ⟨v',h1,h2,_⟩:=h.drop hk q
  exact ⟨v',h1,h2⟩
theorem zAFq:rnk o c.1≤o.length:=List.countP_le_length
theorem zAFT (h:Sct o) {i:Nat} (hi:i < o.length):(cAt o i).1 < c.1↔i < rnk o c.1:=by
 obtain ⟨k1,k2⟩:=qOM (x:=c.1) h
 constructor
 ·intro q
  by_cases r:i < rnk o c.1
  ·exact r
  ·have e:cAt o i=cAt (o.drop (rnk o c.1)) (i - rnk o c.1):=by rw [qJ6];congr 1;omega
   have:=k2 (cAt o i) (by rw [e,qDA (by rw [List.length_drop];omega)];exact List.getElem_mem _)
   omega
 ·intro r
  have e:cAt o i=cAt (o.take (rnk o c.1)) i:=by rw [qKJ r]
  exact k1 (cAt o i) (by rw [e,qDA (by rw [List.length_take];omega)];exact List.getElem_mem _)
theorem qHN (k:Sub s s') {b:Nat} (h:s' b=none):s b=none:=by
 cases q:s b with
 | none=>rfl
 | some y=>rw [k _ _ q] at h;cases h
theorem zAE7 (h:SlR 2 s v (o.map cR)) (ho:Sct o) (hl:o.length≤1000) (hK:∀ v' s',SlR 2 s' v' ((putL o c).map cR)→Sub s s'→K v' s'):wC Tryz.prog XX 92 [v,.agg (cR c)] K s:=by
 refine qIe ⟨rfl,qAL λx s1 hx h1 u1=>?_⟩
 have h1:s1 x=some (false,.cells 36 (cR c)):=h1
 have sub1:=u1.sub hx
 have x0:rd1 s1 (.ptr x 0)=some (.int .u32 c.1):=by rw [qAJ h1];rfl
 have hs1:=h.sub sub1
 have hrl:rnk o c.1≤o.length:=zAFq
 refine ⟨λys t m=>∃ i:Nat,ys=[.int .i64 ((min i (rnk o c.1):Nat):Int),.int .i64 (i:Int)]∧t=s1∧i≤o.length∧m=o.length - i∧∀ d∈o.take i,d.1≠c.1,⟨_,0,by rw [Nat.zero_min];rfl,rfl,by omega,rfl,by simp⟩,?_⟩
 rintro f t m ⟨i,hy,rfl,hi,rfl,hne⟩
 simp only [cI,and_true] at hy
 rw [hy.1,hy.2]
 simp only [qEj,hs1.len,List.length_map,qAP,qAA]
 refine qAG (λhlt=>?_) (λhge=>?_)
 ·have hlt:i < o.length:=by have:=oT hlt;omega
  obtain ⟨pb,po,e1,_,e3⟩:=hs1.get (i:=i) (r:=cR (cAt o i)) (by simp [qDA hlt,hlt])
  have r0:rd1 t (.ptr pb po)=some (.int .u32 (cAt o i).1):=e3 0 (by omega)
  simp only [e1,qAB,Nat.add_zero,r0,x0,qAa,qAW,Bool.false_bne,qAA,qAP]
  have hat:=zAFT (c:=c) ho hlt
  cases he:((cAt o i).1 == c.1) with
  | true=>
    have he:(cAt o i).1=c.1:=eq_of_beq he
    simp only [qAK]
    refine hK v t ?_ sub1
    unfold putL
    rw [if_pos ⟨cAt o i,by rw [qDA hlt];exact List.getElem_mem hlt,he⟩]
    exact hs1
  | false=>
    have he:¬ (cAt o i).1=c.1:=by simpa using he
    simp only [qAF]
    have nx:∀ k:Nat,k=min (i+1) (rnk o c.1)→qB6 XX (.int .i64 (k:Int)) (.int .i64 (i:Int)) (λys t' m=>∃ i:Nat,ys=[.int .i64 ((min i (rnk o c.1):Nat):Int),.int .i64 (i:Int)]∧t'=t∧i≤o.length∧m=o.length - i∧∀ d∈o.take i,d.1≠c.1) (o.length - i) K t:=λk hk=>by
     simp only [qB6,qAT,qAA]
     rw [qAX (by omega) (by omega)]
     refine ⟨_,by omega,i+1,by rw [hk];rfl,by trivial,by omega,rfl,λd hd=>?_⟩
     rw [List.take_add_one,gE hlt] at hd
     rcases List.mem_append.1 hd with q | q
     ·exact hne d q
     ·have:d=o[i]:=by simpa using q
      rw [this,← qDA hlt];exact he
    refine qAG (λhb=>?_) (λhb=>?_)
    ·have hb:=hat.1 (oT hb)
     simp only [qAT,qAA]
     rw [qAX (by omega) (by omega)]
     exact nx (i+1) (by omega)
    ·have hb:¬ i < rnk o c.1:=λq=>oF hb (hat.2 q)
     exact nx _ (by omega)
 ·have hge:i=o.length:=by have:=oF hge;omega
  subst hge
  rw [List.take_length] at hne
  rw [Nat.min_eq_right hrl]
  have ep:putL o c=o.take (rnk o c.1) ++ c :: o.drop (rnk o c.1):=by
   unfold putL
   rw [if_neg λ⟨d,hd,e⟩=>hne d hd e]
  rw [ep] at hK
  refine qAH (a:=[]) rfl ⟨rfl,?_⟩
  refine newM (l:=[]) λb2 s2 hb2 h2 u2=>?_
  obtain ⟨w,hw1,hw2⟩:=zAGq hs1 (k:=rnk o c.1) (by rw [List.length_map];exact hrl)
  obtain ⟨w',hw3,hw4⟩:=zAGK hs1 (k:=rnk o c.1) (by rw [List.length_map];exact hrl)
  simp only [hw1,qAA]
  have sub2:Sub t (add t s2):=qDQ
  have lt:((o.map cR).take (rnk o c.1)).length≤1000:=by rw [List.length_take,List.length_map];omega
  have ld:((o.map cR).drop (rnk o c.1)).length≤1000:=by rw [List.length_drop,List.length_map];omega
  refine qQk (rows:=[]) (s0:=frz (add t s2)) (.inl ⟨rfl,b2,rfl⟩) (hw2.sub sub2).frz (by simp only [List.length_nil];omega) (.refl _) λv3 s3 own3 sub3 _=>?_
  rw [List.nil_append] at own3
  generalize hM1:add t s2=M1 at *
  have subM2:Sub M1 (add M1 s3):=qDQ
  have own3':((o.map cR).take (rnk o c.1)=[]∧∃ b,v3=.slc b 0 0 (some 0) 2)∨AccR 36 2 t (add M1 s3) v3 ((o.map cR).take (rnk o c.1)):=own3.imp id λ⟨a1,a2⟩=>⟨a1,a2.imp id λ⟨b,a3,a4,a5⟩=>by
   have a6:=qIE.1 a3
   exact ⟨b,qHN sub2 a6,a4,by rw [qCN a6];exact a5⟩⟩
  generalize hM2:add M1 s3=M2 at *
  have subt:Sub t M2:=sub2.trans subM2
  have xc:cutH [(t,M1),(M1,M2)] M2 x=some (false,.cells 36 (cR c)):=by
   show (if M1 x=none∧M2 x≠none then none else (if t x=none∧M1 x≠none then none else M2 x))=_
   rw [if_neg (by rintro ⟨q,_⟩;rw [sub2 _ _ h1] at q;cases q),if_neg (by rintro ⟨q,_⟩;rw [h1] at q;cases q)]
   exact subt _ _ h1
  have xr:rdN (cutH [(t,M1),(M1,M2)] M2) 2 (.ptr x 0)=some (cR c):=qAY xc rfl
  simp only [xr,qAA]
  refine qAH (a:=cR c) rfl ⟨rfl,?_⟩
  refine newM (l:=[(t,M1),(M1,M2)]) λb4 s4 hb4 h4 u4=>?_
  have subM3:Sub M2 (add M2 s4):=qDQ
  have own4:((o.map cR).take (rnk o c.1)=[]∧∃ b,v3=.slc b 0 0 (some 0) 2)∨AccR 36 2 t (add M2 s4) v3 ((o.map cR).take (rnk o c.1)):=own3'.imp id λa=>a.sub subM3
  generalize add M2 s4=M3 at *
  refine qQk own4 (m:=[cR c]) (SlR.mk (by intro r hr;rw [List.mem_singleton] at hr;subst hr;rfl) (by simpa using h4) rfl (by simp)) (by simp only [List.length_singleton];omega) (subt.trans subM3) λv5 s5 own5 sub5=>?_
  simp only [hw3,qAA]
  refine qQk own5 (hw4.sub sub5) (by simp only [lAp,List.length_singleton];omega) sub5 λv6 s6 own6 sub6=>?_
  rcases own6 with ⟨q,_⟩ | q
  ·simp at q
  ·refine hK v6 s6 ?_ (sub1.trans sub6)
   have:=q.sl
   rw [List.map_append,List.map_cons,List.map_take,List.map_drop]
   simpa [List.append_assoc] using this
end Go.AM.SG
namespace Go.AM.SG
open Go Go.AM
abbrev nAt (l:List Int) (i:Nat):Int:=l.getD i 0
theorem qYL {l:List Int} {i:Nat} (h:i < l.length):nAt l i=l[i]:=by simp [nAt,h]
theorem nAt_get? {l:List Int} {i:Nat} (h:i < l.length):l[i]?=some (nAt l i):=by simp [nAt,h]
theorem qYt {l:List Int} {i j:Nat} {x:Int} (h:i < l.length):nAt (l.set i x) j=if j=i then x else nAt l j:=by
 unfold nAt
 rw [List.getD_eq_getElem?_getD,List.getD_eq_getElem?_getD,List.getElem?_set]
 by_cases e:j=i
 ·subst e;simp [h]
 ·rw [if_neg (λq=>e q.symm),if_neg e]
def swN (l:List Int) (i j:Nat):List Int:=(l.set i (nAt l j)).set j (nAt l i)
theorem qR4 {l:List Int} {i j k:Nat} (hi:i < l.length) (hj:j < l.length):nAt (swN l i j) k=if k=j then nAt l i else if k=i then nAt l j else nAt l k:=by
 unfold swN
 rw [qYt (by simpa using hj),qYt hi]
theorem zABn {l:List Int} {i j:Nat} (hi:i < l.length) (hj:j < l.length):(swN l i j).Perm l:=by
 unfold swN
 rw [qYL hi,qYL hj]
 exact List.set_set_perm hi hj
structure PI (a b:Nat) (l l':List Int):Prop where
 perm:l'.Perm l
 out:∀ i,¬(a≤i∧i < b)→nAt l' i=nAt l i
 inn:∀ i,a≤i→i < b→∃ k,a≤k∧k < b∧nAt l' i=nAt l k
variable {a b c d a0 b0 m p : Nat} {l l' l'' : List Int}
theorem PI.refl (a b:Nat) (l:List Int):PI a b l l:=⟨.refl _,λ_ _=>rfl,λi h1 h2=>⟨i,h1,h2,rfl⟩⟩
theorem PI.len (h:PI a b l l'):l'.length=l.length:=h.perm.length_eq
theorem PI.trans (h:PI a b l l') (k:PI a b l' l''):PI a b l l'':=by
 refine ⟨k.perm.trans h.perm,λi hi=>(k.out i hi).trans (h.out i hi),λi h1 h2=>?_⟩
 obtain ⟨j,q1,q2,q3⟩:=k.inn i h1 h2
 obtain ⟨j',r1,r2,r3⟩:=h.inn j q1 q2
 exact ⟨j',r1,r2,q3.trans r3⟩
theorem PI.wide (h:PI a b l l') (h1:c≤a) (h2:b≤d):PI c d l l':=by
 refine ⟨h.perm,λi hi=>h.out i (by omega),λi q1 q2=>?_⟩
 by_cases q:a≤i∧i < b
 ·obtain ⟨k,r1,r2,r3⟩:=h.inn i q.1 q.2
  exact ⟨k,by omega,by omega,r3⟩
 ·exact ⟨i,q1,q2,h.out i q⟩
theorem PI.sw {i j:Nat} (hi:a≤i) (hi2:i < b) (hj:a≤j) (hj2:j < b) (hb:b≤l.length):PI a b l (swN l i j):=by
 refine ⟨zABn (by omega) (by omega),λk hk=>?_,λk h1 h2=>?_⟩
 ·rw [qR4 (by omega) (by omega),if_neg (by omega),if_neg (by omega)]
 ·rw [qR4 (by omega) (by omega)]
  by_cases e1:k=j
  ·exact ⟨i,hi,hi2,by rw [if_pos e1]⟩
  ·by_cases e2:k=i
   ·exact ⟨j,hj,hj2,by rw [if_neg e1,if_pos e2]⟩
   ·exact ⟨k,h1,h2,by rw [if_neg e1,if_neg e2]⟩
theorem PI.ge {x:Int} (h:PI a b l l') (k:∀ i,a≤i→i < b→x≤nAt l i):∀ i,a≤i→i < b→x≤nAt l' i:=λi h1 h2=>by
 obtain ⟨j,q1,q2,q3⟩:=h.inn i h1 h2
 rw [q3];exact k j q1 q2
theorem PI.le {x:Int} (h:PI a b l l') (k:∀ i,a≤i→i < b→nAt l i≤x):∀ i,a≤i→i < b→nAt l' i≤x:=λi h1 h2=>by
 obtain ⟨j,q1,q2,q3⟩:=h.inn i h1 h2
 rw [q3];exact k j q1 q2
def Asc (a b:Nat) (l:List Int):Prop:=∀ i j,a≤i→i < j→j < b→nAt l i≤nAt l j
def Low (a b:Nat) (l:List Int):Prop:=0 < a→∀ i,a≤i→i < b→nAt l (a - 1)≤nAt l i
theorem PI.low (h:PI a b l l') (k:Low a b l):Low a b l':=λh0=>by
 rw [h.out (a - 1) (by omega)]
 exact h.ge (k h0)
def But (a0 b0 a b:Nat) (l:List Int):Prop:=∀ i j,a0≤i→i < j→j < b0→¬(a≤i∧j < b)→nAt l i≤nAt l j
theorem But.start:But a0 b0 a0 b0 l:=λi j h1 _ h3 h4=>absurd ⟨h1,h3⟩ h4
theorem But.pi (h:But a0 b0 a b l) (ha:a0≤a) (hb:b≤b0) (k:PI a b l l'):But a0 b0 a b l':=λi j h1 h2 h3 h4=>by
 by_cases q1:a≤i∧i < b
 ·obtain ⟨r,r1,r2,r3⟩:=k.inn i q1.1 q1.2
  rw [r3,k.out j (by omega)]
  exact h r j (by omega) (by omega) h3 (by omega)
 ·rw [k.out i q1]
  by_cases q2:a≤j∧j < b
  ·obtain ⟨r,r1,r2,r3⟩:=k.inn j q2.1 q2.2
   rw [r3]
   exact h i r h1 (by omega) (by omega) (by omega)
  ·rw [k.out j q2];exact h i j h1 h2 h3 h4
theorem But.low (h:But a0 b0 a b l) (h0:Low a0 b0 l) (ha:a0≤a) (hb:b≤b0):Low a b l:=λhp i h1 h2=>by
 by_cases q:a=a0
 ·subst q;exact h0 hp i h1 (by omega)
 ·exact h (a - 1) i (by omega) (by omega) (by omega) (by omega)
def Parted (a b m:Nat) (l:List Int):Prop:=(∀ i,a≤i→i < m→nAt l i≤nAt l m)∧∀ i,m < i→i < b→nAt l m≤nAt l i
theorem But.left (h:But a0 b0 a b l) (ha:a0≤a) (hb:b≤b0) (hm:a≤m) (hm2:m < b) (hp:Parted a b m l) (k:PI a m l l') (ks:Asc a m l'):But a0 b0 (m+1) b l':=by
 have hw:=h.pi ha hb (k.wide (Nat.le_refl a) (by omega:m≤b))
 have e:∀ i,m≤i→nAt l' i=nAt l i:=λi hi=>k.out i (by omega)
 have low:=k.le hp.1
 intro i j h1 h2 h3 h4
 by_cases q:a≤i∧j < b
 ·by_cases q1:i < m
  ·by_cases q2:j < m
   ·exact ks i j q.1 h2 q2
   ·have:=low i q.1 q1
    rw [e j (by omega)]
    by_cases q3:j=m
    ·rw [q3];exact this
    ·exact Int.le_trans this (hp.2 j (by omega) q.2)
  ·have:i=m:=by omega
   rw [this,e m (Nat.le_refl m),e j (by omega)]
   exact hp.2 j (by omega) q.2
 ·exact hw i j h1 h2 h3 q
theorem But.right (h:But a0 b0 a b l) (ha:a0≤a) (hb:b≤b0) (hm:a≤m) (hm2:m < b) (hp:Parted a b m l) (k:PI (m+1) b l l') (ks:Asc (m+1) b l'):But a0 b0 a m l':=by
 have hw:=h.pi ha hb (k.wide (by omega:a≤m+1) (Nat.le_refl b))
 have e:∀ i,i≤m→nAt l' i=nAt l i:=λi hi=>k.out i (by omega)
 have up:=k.ge (λi h1 h2=>hp.2 i (by omega) h2)
 intro i j h1 h2 h3 h4
 by_cases q:a≤i∧j < b
 ·by_cases q1:m < j
  ·by_cases q2:m < i
   ·exact ks i j (by omega) h2 q.2
   ·have:=up j (by omega) q.2
    rw [e i (by omega)]
    by_cases q3:i=m
    ·rw [q3];exact this
    ·exact Int.le_trans (hp.1 i q.1 (by omega)) this
  ·have:j=m:=by omega
   rw [this,e m (Nat.le_refl m),e i (by omega)]
   exact hp.1 i q.1 (by omega)
 ·exact hw i j h1 h2 h3 q
end Go.AM.SG
namespace Go.AM.SG
open Go Go.AM
variable {f lo hi r ch i n : Nat} {l l' : List Int}
def Chd (k c:Nat):Prop:=c=2 * k+1∨c=2 * k+2
def Hp (f lo hi:Nat) (l:List Int):Prop:=∀ k c,lo≤k→Chd k c→c < hi→nAt l (f+c)≤nAt l (f+k)
structure HpX (f lo hi r:Nat) (l:List Int):Prop where
 oth:∀ k c,lo≤k→k≠r→Chd k c→c < hi→nAt l (f+c)≤nAt l (f+k)
 gra:∀ p c,lo≤p→Chd p r→Chd r c→c < hi→nAt l (f+c)≤nAt l (f+p)
theorem HpX.start (h:Hp f (lo+1) hi l):HpX f lo hi lo l:=
 ⟨λk c h1 h2 h3 h4=>h k c (by omega) h3 h4,λp c h1 h2 _ _=>by unfold Chd at h2;omega⟩
theorem HpX.done (h:HpX f lo hi r l) (hb:∀ c,Chd r c→c < hi→nAt l (f+c)≤nAt l (f+ch)) (hc:nAt l (f+ch)≤nAt l (f+r)):Hp f lo hi l:=λk c h1 h2 h3=>by
 by_cases e:k=r
 ·subst e;exact Int.le_trans (hb c h2 h3) hc
 ·exact h.oth k c h1 e h2 h3
theorem Hp.top (h:Hp f 0 n l):∀ k,k < n→nAt l (f+k)≤nAt l f:=by
 intro k
 induction k using Nat.strongRecOn with
 | _ k ih=>
   intro hk
   by_cases e:k=0
   ·subst e;exact Int.le_refl _
   ·have:=h ((k - 1) / 2) k (Nat.zero_le _) (by unfold Chd;omega) hk
    exact Int.le_trans this (ih _ (by omega) (by omega))
end Go.AM.SG
namespace Go.AM.SG
open Go Go.AM
theorem zAGn (n:Int):qAx .u64 n=n % 18446744073709551616:=by
 simp only [qAx];rw [qEC _ _ _ (by omega) (by omega)];split <;> omega
theorem qSH {n:Nat} (h:n < 18446744073709551616):qAx .u64 (n:Int)=n:=by rw [zAGn,Int.emod_eq_of_lt (by omega) (by omega)]
theorem wu8_ (n:Int):qAx .u8 n=n % 256:=by
 simp only [qAx];rw [qEC _ _ _ (by omega) (by omega)];split <;> omega
theorem zAF4 {n:Nat} (h:n < 9223372036854775808):qAx .i64 (n:Int)=n:=by
 simp only [qAx];rw [qEC _ _ _ (by omega) (by omega)];split <;> omega
theorem qZK {k w m:Nat} (hw:w < 18446744073709551616) (hm:m=2 ^ k - 1) (h2:m < 18446744073709551616):qAC .and (.int .u64 (w:Int)) (.int .u64 (m:Int))=some (.int .u64 ((w % 2 ^ k:Nat):Int)):=by
 have e:(BitVec.ofInt (IntKind.bits .u64) (w:Int) &&& BitVec.ofInt (IntKind.bits .u64) (m:Int)).toNat=w % 2 ^ k:=by
  show (BitVec.ofInt 64 (w:Int) &&& BitVec.ofInt 64 (m:Int)).toNat=w % 2 ^ k
  rw [BitVec.ofInt_natCast,BitVec.ofInt_natCast,BitVec.toNat_and,BitVec.toNat_ofNat,BitVec.toNat_ofNat,Nat.mod_eq_of_lt hw,Nat.mod_eq_of_lt h2,hm,Nat.and_two_pow_sub_one_eq_mod]
 have:w % 2 ^ k≤w:=Nat.mod_le _ _
 simp only [qAC,arith,qBX,e,qSH (show w % 2 ^ k < 18446744073709551616 by omega)]
 rfl
theorem zAFA {k w m:Nat} (hw:w < 256) (hm:m=2 ^ k - 1) (h2:m < 256):qAC .and (.int .u8 (w:Int)) (.int .u8 (m:Int))=some (.int .u8 ((w % 2 ^ k:Nat):Int)):=by
 have e:(BitVec.ofInt (IntKind.bits .u8) (w:Int) &&& BitVec.ofInt (IntKind.bits .u8) (m:Int)).toNat=w % 2 ^ k:=by
  show (BitVec.ofInt 8 (w:Int) &&& BitVec.ofInt 8 (m:Int)).toNat=w % 2 ^ k
  rw [BitVec.ofInt_natCast,BitVec.ofInt_natCast,BitVec.toNat_and,BitVec.toNat_ofNat,BitVec.toNat_ofNat,Nat.mod_eq_of_lt hw,Nat.mod_eq_of_lt h2,hm,Nat.and_two_pow_sub_one_eq_mod]
 have h3:w % 2 ^ k≤w:=Nat.mod_le _ _
 have e2:qAx .u8 ((w % 2 ^ k:Nat):Int)=((w % 2 ^ k:Nat):Int):=by rw [wu8_,Int.emod_eq_of_lt (by omega) (by omega)]
 simp only [qAC,arith,qBX,e,e2]
 rfl
theorem zADD {w:Nat} (hw:w * 256 < 18446744073709551616):qBb .shl (.int .u64 (w:Int)) (.int .u64 8)=some (.int .u64 ((w * 256:Nat):Int)):=by
 show frc (qAx .u64 ((w:Int) * ((2 ^ (min 8 (IntKind.bits .u64)):Nat):Int))) (λn=>some (AV.int .u64 n))=_
 rw [qBX,show min 8 (IntKind.bits .u64)=8 from rfl,show (2 ^ 8:Nat)=256 from rfl,← Int.natCast_mul,qSH hw]
theorem zAD8 {w:Nat}:qBb .shr (.int .u64 (w:Int)) (.int .u64 40)=some (.int .u64 ((w / 1099511627776:Nat):Int)):=by
 show frc ((w:Int).fdiv ((2 ^ (min 40 (IntKind.bits .u64)):Nat):Int)) (λn=>some (AV.int .u64 n))=_
 rw [qBX,show min 40 (IntKind.bits .u64)=40 from rfl,show (2 ^ 40:Nat)=1099511627776 from rfl,Int.fdiv_eq_ediv_of_nonneg _ (Int.natCast_nonneg _),← Int.natCast_ediv]
theorem zAEf {a b:Nat} (hb:b < 256):a * 256 ||| b=a * 256+b:=by
 have:=Nat.shiftLeft_add_eq_or_of_lt (a:=a) (b:=b) (i:=8) hb
 rw [Nat.shiftLeft_eq] at this
 exact this.symm
theorem zAEb {a b:Nat} (hb:b < 256) (ha:a * 256+b < 18446744073709551616):qAC .or (.int .u64 ((a * 256:Nat):Int)) (.int .u64 (b:Int))=some (.int .u64 ((a * 256+b:Nat):Int)):=by
 have ha':a * 256 < 18446744073709551616:=Nat.lt_of_le_of_lt (Nat.le_add_right _ _) ha
 have hb':b < 18446744073709551616:=Nat.lt_of_le_of_lt (Nat.le_add_left _ _) ha
 generalize hc:a * 256=c at *
 have e:(BitVec.ofInt (IntKind.bits .u64) (c:Int) ||| BitVec.ofInt (IntKind.bits .u64) (b:Int)).toNat=c+b:=by
  show (BitVec.ofInt 64 (c:Int) ||| BitVec.ofInt 64 (b:Int)).toNat=c+b
  rw [BitVec.ofInt_natCast,BitVec.ofInt_natCast,BitVec.toNat_or,BitVec.toNat_ofNat,BitVec.toNat_ofNat,Nat.mod_eq_of_lt ha',Nat.mod_eq_of_lt hb',← hc]
  exact zAEf hb
 simp only [qAC,arith,qBX,e,qSH ha]
 rfl
theorem zADx {a b:Nat} (h:a+b < 18446744073709551616):qAC .add (.int .u64 (a:Int)) (.int .u64 (b:Int))=some (.int .u64 ((a+b:Nat):Int)):=by
 simp only [qAC,arith,qBX,← Int.natCast_add,qSH h]
 rfl
theorem zACQ {a:Nat} (h:a < 256):qBx .u64 (.int .u8 (a:Int))=some (.int .u64 (a:Int)):=by
 show some (AV.int .u64 (qAx .u64 (a:Int)))=_
 rw [qSH (by omega)]
theorem qVP {k:IntKind} {a:Nat} (h:a < 9223372036854775808):qBx .i64 (.int k (a:Int))=some (.int .i64 (a:Int)):=by
 show some (AV.int .i64 (qAx .i64 (a:Int)))=_
 rw [zAF4 h]
end Go.AM.SG
namespace Go.AM.SG
open Go Go.AM Go.Proofs
variable {K : AV → Hq → Prop} {s s' s0 : Hq} {db : Nat} {l l' l1 l2 : List Int} {a b i j k : Nat}
abbrev us (l:List Int):List AV:=l.map (AV.int .u32)
def UAt (s:Hq) (db:Nat) (l:List Int):Prop:=s db=some (false,.cells 33 (us l))
theorem UAt.rd (h:UAt s db l) (hi:i < l.length):rd1 s (.ptr db i)=some (.int .u32 (nAt l i)):=by
 rw [qAJ h,List.getElem?_map,nAt_get? hi];rfl
theorem UAt.put (h:UAt s db l) {x:Int} {R:Hq→Prop} (hi:i < l.length) (hR:∀ s',UAt s' db (l.set i x)→Upto db s s'→R s'):oK (wr1 s (.ptr db i) (.int .u32 x)) R:=by
 have h:s db=some (false,.cells 33 (us l)):=h
 have e1:Nat.blt i (us l).length=true:=by rw [Nat.blt_eq,List.length_map];exact hi
 have e2:wr1 s (.ptr db i) (.int .u32 x)=some (hset s db (false,.cells 33 (us (l.set i x)))):=by
  simp only [wr1,h,e1,us,List.map_set];rfl
 exact qAH e2 (hR _ qCl λ_ hi=>qBf hi)
theorem UAt.sub (h:UAt s db l) (k:Sub s s'):UAt s' db l:=k _ _ h
theorem add1 (h:a≤1000000):qAC .add (.int .i64 (a:Int)) (.int .i64 1)=some (.int .i64 ((a+1:Nat):Int)):=by
 rw [qAT,qAX (by omega) (by omega)];rfl
theorem sub1 (h:1≤a) (h2:a≤1000000):qAC .sub (.int .i64 (a:Int)) (.int .i64 1)=some (.int .i64 ((a - 1:Nat):Int)):=by
 rw [qAf,qAX (by omega) (by omega),show (a:Int) - 1=((a - 1:Nat):Int) by omega]
theorem subN (h:b≤a) (h2:a≤1000000):qAC .sub (.int .i64 (a:Int)) (.int .i64 (b:Int))=some (.int .i64 ((a - b:Nat):Int)):=by
 rw [qAf,qAX (by omega) (by omega),show (a:Int) - b=((a - b:Nat):Int) by omega]
structure Ins (a i j:Nat) (l:List Int):Prop where
 oth:∀ p q,a≤p→p < q→q≤i→p≠j→q≠j→nAt l p≤nAt l q
 up:∀ q,j < q→q≤i→nAt l j≤nAt l q
theorem Ins.start (h:Asc a i l):Ins a i i l:=⟨λp q h1 h2 h3 _ h5=>h p q h1 h2 (by omega),λq h1 h2=>by omega⟩
theorem Ins.step (h:Ins a i j l) (h1:a < j) (h2:j≤i) (h3:i < l.length) (c:nAt l j < nAt l (j - 1)):Ins a i (j - 1) (swN l j (j - 1)):=by
 have at_:∀ k,nAt (swN l j (j - 1)) k=if k=j - 1 then nAt l j else if k=j then nAt l (j - 1) else nAt l k:=λk=>qR4 (by omega) (by omega)
 refine ⟨λp q k1 k2 k3 k4 k5=>?_,λq k1 k2=>?_⟩
 ·rw [at_ p,at_ q,if_neg k4,if_neg k5]
  by_cases e1:q=j
  ·rw [if_pos e1,if_neg (by omega)]
   exact h.oth p (j - 1) k1 (by omega) (by omega) (by omega) (by omega)
  ·rw [if_neg e1]
   by_cases e2:p=j
   ·rw [if_pos e2]
    exact h.oth (j - 1) q (by omega) (by omega) k3 (by omega) e1
   ·rw [if_neg e2]
    exact h.oth p q k1 k2 k3 e2 e1
 ·rw [at_ (j - 1),at_ q,if_pos rfl,if_neg (by omega)]
  by_cases e1:q=j
  ·rw [if_pos e1];omega
  ·rw [if_neg e1];exact h.up q (by omega) k2
theorem Ins.done (h:Ins a i j l) (h1:a≤j) (c:j=a∨nAt l (j - 1)≤nAt l j):Asc a (i+1) l:=by
 intro p q k1 k2 k3
 by_cases e1:p=j
 ·subst e1;exact h.up q k2 (by omega)
 ·by_cases e2:q=j
  ·subst e2
   rcases c with c | c
   ·omega
   ·by_cases e3:p=q - 1
    ·rw [e3];exact c
    ·exact Int.le_trans (h.oth p (q - 1) k1 (by omega) (by omega) e1 (by omega)) c
  ·exact h.oth p q k1 k2 (by omega) e1 e2
end Go.AM.SG
namespace Go.AM.SG
open Go Go.AM Go.Proofs
variable {K : AV → Hq → Prop} {s s' s0 : Hq} {db : Nat} {l l' l1 l2 : List Int} {a b i j k f lo hi : Nat}
end Go.AM.SG
namespace Go.AM.SG
open Go Go.AM Go.Proofs
variable {K : AV → Hq → Prop} {s s' s0 : Hq} {db g : Nat} {l l' l1 l2 : List Int} {a b c i j k f lo hi n : Nat}
def SwAt (s:Hq) (g:Nat):Prop:=∃ c:Int,s g=some (false,.cells 3 [.int .i64 c])
theorem SwAt.ne (h:SwAt s g) (h2:UAt s db l):db≠g:=λe=>by
 obtain ⟨c,h⟩:=h
 have h2:s db=some (false,.cells 33 (us l)):=h2
 rw [e,h] at h2
 have:(3:TypeId)=33:=congrArg (λx:Option (Bool × Blk)=>match x with | some (_,.cells e _)=>e | _=>0) h2
 exact absurd this (by decide)
def XoAt (s:Hq) (g:Nat):Prop:=∃ c:Int,s g=some (false,.cells 198 [.int .u64 c])
theorem XoAt.ne (h:XoAt s g) (h2:UAt s db l):db≠g:=λe=>by
 obtain ⟨c,h⟩:=h
 have h2:s db=some (false,.cells 33 (us l)):=h2
 rw [e,h] at h2
 have:(198:TypeId)=33:=congrArg (λx:Option (Bool × Blk)=>match x with | some (_,.cells e _)=>e | _=>0) h2
 exact absurd this (by decide)
end Go.AM.SG
namespace Go.AM.SG
open Go Go.AM Go.Proofs
variable {K : AV → Hq → Prop} {s s' s0 : Hq} {db g : Nat} {l l' l1 l2 : List Int} {a b c i j k p n : Nat} {v : Int}
theorem Asc.keep (h:Asc a i l) (k:∀ q,q < i→nAt l' q=nAt l q):Asc a i l':=λp q h1 h2 h3=>by
 rw [k p (by omega),k q h3];exact h p q h1 h2 h3
end Go.AM.SG
namespace Go.AM.SG
open Go Go.AM Go.Proofs
variable {K : AV → Hq → Prop} {s s' s0 : Hq} {db g : Nat} {l l' l1 l2 : List Int} {a b c i j k p n : Nat} {v : Int}
structure Ptn (a b i j:Nat) (v:Int) (l l1:List Int):Prop where
 pi:PI a b l l1
 piv:nAt l1 a=v
 ai:a < i
 ij:i≤j+1
 jb:j < b
 low:∀ q,a < q→q < i→nAt l1 q≤v
 up:∀ q,j < q→q < b→v≤nAt l1 q
theorem Ptn.start (hab:a < b) (h1:a≤p) (h2:p < b) (hb:b≤l.length):Ptn a b (a+1) (b - 1) (nAt l p) l (swN l a p):=
 ⟨.sw (by omega) (by omega) h1 h2 hb,by
  rw [qR4 (by omega) (by omega)]
  by_cases e:a=p
  ·rw [if_pos e,e]
  ·rw [if_neg e,if_pos rfl],by omega,by omega,by omega,λq _ _=>by omega,λq _ _=>by omega⟩
theorem Ptn.fin (h:Ptn a b i j v l l1) (hb:b≤l.length) (hij:j < i):PI a b l (swN l1 j a)∧Parted a b j (swN l1 j a)∧a≤j:=by
 have hn:=h.pi.len
 have h1:=h.ai
 have h2:=h.jb
 have h3:=h.ij
 have haj:a≤j:=by omega
 have at_:∀ k,nAt (swN l1 j a) k=if k=a then nAt l1 j else if k=j then nAt l1 a else nAt l1 k:=λk=>qR4 (by omega) (by omega)
 refine ⟨h.pi.trans (.sw (by omega) (by omega) (by omega) (by omega) (by omega)),⟨λq q1 q2=>?_,λq q1 q2=>?_⟩,haj⟩
 ·have:a < j:=by omega
  have hj:nAt l1 j≤v:=h.low j this (by omega)
  rw [at_ q,at_ j,if_neg (show ¬ j=a by omega),if_pos rfl,h.piv]
  by_cases e:q=a
  ·rw [if_pos e];exact hj
  ·rw [if_neg e,if_neg (by omega)]
   exact h.low q (by omega) (by omega)
 ·have e1:nAt (swN l1 j a) j=v:=by
   rw [at_ j]
   by_cases e:j=a
   ·rw [if_pos e,e];exact h.piv
   ·rw [if_neg e,if_pos rfl];exact h.piv
  rw [e1,at_ q,if_neg (by omega),if_neg (by omega)]
  exact h.up q q1 q2
end Go.AM.SG
namespace Go.AM.SG
open Go Go.AM Go.Proofs
variable {K : AV → Hq → Prop} {s s' s0 : Hq} {db g : Nat} {l l' l1 l2 : List Int} {a b c i j k p n : Nat} {v : Int}
end Go.AM.SG
namespace Go.AM.SG
open Go Go.AM Go.Proofs
variable {s s' s0 : Hq} {db g : Nat} {l l' l1 l2 : List Int} {a b c i j k p n a0 b0 : Nat} {v : Int}
end Go.AM.SG
namespace Go.AM.SG
open Go Go.AM Go.Proofs
section
variable (P : Program)
def cFs (df:TypeId→AV→AV→Bool) (xs ys:List AV):List Field→Bool
 | []=>true
 | f :: fs=>cond (f.name == "_") (cFs df xs ys fs) (match qE0 P f.type xs f.offset,qE0 P f.type ys f.offset with
   | some x,some y=>df f.type x y&&cFs df xs ys fs
   | _,_=>false)
def cEls (df:TypeId→AV→AV→Bool) (elem:TypeId) (n:Nat) (xs ys:List AV):Nat→Nat→Bool
 | 0,_=>true
 | len+1,i=>match qE0 P elem xs (i * n),qE0 P elem ys (i * n) with
   | some x,some y=>df elem x y&&cEls df elem n xs ys len (i+1)
   | _,_=>false
def cDef:Nat→TypeId→AV→AV→Bool
 | 0,_,_,_=>false
 | d+1,t,x,y=>match P.underlying t,x,y with
   | some .bool,.bool _,.bool _=>true
   | some (.int _),.int k _,.int k' _=>qBm k k'
   | some (.struct fields),.agg xs,.agg ys=>cond (P.stoodInHeld t) false (cFs P (cDef d) xs ys fields.toList)
   | some (.array len elem),.agg xs,.agg ys=>match sz P elem with
     | some n=>cEls P (cDef d) elem n xs ys len 0
     | none=>false
   | _,_,_=>false
variable {P}
theorem qX3 {eq:TypeId→AV→AV→Option Bool} {df:TypeId→AV→AV→Bool} (h:∀ t x y,df t x y=true→∃ b,eq t x y=some b∧(x=y→b=true)) {xs ys:List AV}:∀ {fs:List Field},cFs P df xs ys fs=true→∃ b,eqFields P eq xs ys fs=some b∧(xs=ys→b=true)
 | [],_=>⟨true,rfl,λ_=>rfl⟩
 | f :: fs,q=>by
   unfold cFs at q
   unfold eqFields
   cases c:(f.name == "_") with
   | true=>rw [c] at q;exact qX3 h q
   | false=>
     rw [c] at q
     simp only [cond_false] at q ⊢
     cases e:qE0 P f.type xs f.offset with
     | none=>rw [e] at q;cases q
     | some x=>
       cases e2:qE0 P f.type ys f.offset with
       | none=>rw [e,e2] at q;cases q
       | some y=>
         rw [e,e2] at q
         simp only [Bool.and_eq_true] at q
         obtain ⟨b,h1,h2⟩:=h _ _ _ q.1
         simp only [h1]
         have hxy:xs=ys→x=y:=λw=>by subst w;rw [e] at e2;exact Option.some.inj e2
         cases b with
         | true=>exact qX3 h q.2
         | false=>exact ⟨false,rfl,λw=>h2 (hxy w)⟩
theorem qZE {eq:TypeId→AV→AV→Option Bool} {df:TypeId→AV→AV→Bool} (h:∀ t x y,df t x y=true→∃ b,eq t x y=some b∧(x=y→b=true)) {elem:TypeId} {n:Nat} {xs ys:List AV}:∀ {len i:Nat},cEls P df elem n xs ys len i=true→∃ b,qKt P eq elem n xs ys len i=some b∧(xs=ys→b=true)
 | 0,_,_=>⟨true,rfl,λ_=>rfl⟩
 | len+1,i,q=>by
   unfold cEls at q
   unfold qKt
   cases e:qE0 P elem xs (i * n) with
   | none=>rw [e] at q;cases q
   | some x=>
     cases e2:qE0 P elem ys (i * n) with
     | none=>rw [e,e2] at q;cases q
     | some y=>
       rw [e,e2] at q
       simp only [Bool.and_eq_true] at q
       obtain ⟨b,h1,h2⟩:=h _ _ _ q.1
       simp only [h1]
       have hxy:xs=ys→x=y:=λw=>by subst w;rw [e] at e2;exact Option.some.inj e2
       cases b with
       | true=>exact qZE h q.2
       | false=>exact ⟨false,rfl,λw=>h2 (hxy w)⟩
theorem qTz:∀ (d:Nat) (t:TypeId) (x y:AV),cDef P d t x y=true→∃ b,aEq P d t x y=some b∧(x=y→b=true)
 | 0,_,_,_,h=>by cases h
 | d+1,t,x,y,h=>by
   unfold cDef at h
   unfold aEq
   split at h
   ·rename_i a b hu
    rw [hu]
    exact ⟨_,rfl,λe=>by cases e;simp⟩
   ·rename_i k0 k a k' b hu
    rw [hu]
    simp only [h,cond_true]
    exact ⟨_,rfl,λe=>by cases e;rw [qFm];simp⟩
   ·rename_i fields xs ys hu
    rw [hu]
    simp only
    cases c:P.stoodInHeld t with
    | true=>rw [c] at h;cases h
    | false=>
      rw [c] at h
      simp only [cond_false] at h ⊢
      obtain ⟨b,h1,h2⟩:=qX3 (qTz d) h
      exact ⟨b,h1,λe=>h2 (by cases e;rfl)⟩
   ·rename_i len elem xs ys hu
    rw [hu]
    simp only
    cases c:sz P elem with
    | none=>rw [c] at h;cases h
    | some n=>
      rw [c] at h
      simp only at h ⊢
      obtain ⟨b,h1,h2⟩:=qZE (qTz d) h
      exact ⟨b,h1,λe=>h2 (by cases e;rfl)⟩
   ·cases h
theorem qYC {t:TypeId} {xs ys:List AV} (h:cDef P 30 t (.agg xs) (.agg ys)=true):∃ b,qFb P t (.agg xs) (.agg ys)=some b∧(xs=ys→b=true):=by
 obtain ⟨b,h1,h2⟩:=qTz 30 t _ _ h
 exact ⟨b,h1,λe=>h2 (by rw [e])⟩
end
theorem zAGp (x y z w:Int):qFb Tryz.prog 187 (.agg [.int .u8 x,.int .u8 y]) (.agg [.int .u8 z,.int .u8 w])=some (decide (x=z∧y=w)):=by
 have:qFb Tryz.prog 187 (.agg [.int .u8 x,.int .u8 y]) (.agg [.int .u8 z,.int .u8 w])=cond (eqI x z) (cond (eqI y w) (some true) (some false)) (some false):=by kernel_rfl
 rw [this,qFm,qFm]
 by_cases h1:x=z
 ·by_cases h2:y=w
  ·simp [h1,h2]
  ·have e2:(y == w)=false:=beq_eq_false_iff_ne.2 h2
   simp [h1,h2,e2]
 ·have e1:(x == z)=false:=beq_eq_false_iff_ne.2 h1
  simp [h1,e1]
end Go.AM.SG
namespace Go.AM.SG
open Go Go.AM Go.Proofs
variable {K : AV → Hq → Prop} {s s' s0 : Hq} {lv : AV}
structure Cm where
 (b0 b1 b2 b3 b4 b5 b6 b7:Nat)
def Cm.ok (c:Cm):Prop:=c.b0 < 256∧c.b1 < 256∧c.b2 < 256∧c.b3 < 256∧c.b4 < 256∧c.b5 < 256∧c.b6 < 256∧c.b7 < 256
abbrev u8 (n:Nat):AV:=.int .u8 (n:Int)
def cmR (c:Cm):List AV:=[u8 c.b0,u8 c.b1,u8 c.b2,u8 c.b3,u8 c.b4,u8 c.b5,u8 c.b6,u8 c.b7]
abbrev heads:List (Nat × Nat):=[(0,2),(3,12),(6,0),(6,1),(6,2),(6,3),(6,6)]
abbrev hdN (i:Nat):Nat × Nat:=heads.getD i (0,0)
def qG5 (c:Cm):Nat:=match heads.findIdx? λh=>decide (h.1=c.b0∧h.2=c.b1) with
 | some i=>i+1
 | none=>0
theorem qYs {c:Cm} {i:Nat} (hi:i < 7) (h:(hdN i).1=c.b0∧(hdN i).2=c.b1) (hn:∀ j,j < i→¬((hdN j).1=c.b0∧(hdN j).2=c.b1)):qG5 c=i+1:=by
 unfold qG5
 have:heads.findIdx? (λh=>decide (h.1=c.b0∧h.2=c.b1))=some i:=by
  rw [List.findIdx?_eq_some_iff_getElem]
  have e:∀ j (hj:j < heads.length),heads[j]=hdN j:=λj hj=>by
   show heads[j]=heads[j]?.getD (0,0)
   rw [gE hj];rfl
  refine ⟨hi,?_,λj hj=>?_⟩
  ·rw [e];simpa using h
  ·rw [e];simpa using hn j hj
 rw [this]
theorem qZH {c:Cm} (hn:∀ j,j < 7→¬((hdN j).1=c.b0∧(hdN j).2=c.b1)):qG5 c=0:=by
 unfold qG5
 have:heads.findIdx? (λh=>decide (h.1=c.b0∧h.2=c.b1))=none:=by
  rw [List.findIdx?_eq_none_iff]
  intro h hh
  obtain ⟨j,hj,rfl⟩:=List.mem_iff_getElem.1 hh
  have e:heads[j]=hdN j:=by
   show heads[j]=heads[j]?.getD (0,0)
   rw [gE hj];rfl
  rw [e]
  simpa using hn j hj
 rw [this]
theorem qZM {i:Nat} (hi:i < 7):qMk 7 3 (some 3) (.agg kindsL) (.int .i64 (i:Int))=some (.agg [.int .i64 ((i+1:Nat):Int),u8 (hdN i).1,u8 (hdN i).2]):=by
 have:i=0∨i=1∨i=2∨i=3∨i=4∨i=5∨i=6:=by omega
 rcases this with rfl | rfl | rfl | rfl | rfl | rfl | rfl <;> rfl
def GlK (s:Hq):Prop:=∃ t,s 0=some (t,.glob 0 (.agg kindsL))
theorem GlK.sub (h:GlK s) (k:Sub s s'):GlK s':=by
 obtain ⟨t,h⟩:=h
 exact ⟨t,k _ _ h⟩
theorem GlK.rd (h:GlK s):gldN s 21 0=some kindsL:=by
 obtain ⟨t,h⟩:=h
 unfold gldN
 rw [h]
 rfl
def zAGf (s0:Hq) (c:Cm) (b:Nat):List AV→Hq→Nat→Prop:=λys t m=>
 ∃ i:Nat,ys=[.int .i64 (i:Int)]∧i≤7∧Sub s0 t∧(∃ w,t b=some (w,.cells 104 (cmR c)))∧(∀ j,j < i→¬((hdN j).1=c.b0∧(hdN j).2=c.b1))∧m=7 - i
theorem zADm {c:Cm} (h:GlK s) (hK:∀ s',Sub s s'→K (.int .i64 (qG5 c:Int)) s'):wC Tryz.prog XX 115 [.agg (cmR c)] K s:=by
 refine qOK ⟨rfl,qAL λb s1 hb h1 u1=>?_⟩
 have sub1:=u1.sub hb
 simp only [(h.sub sub1).rd,qAA]
 refine ⟨zAGf s c b,⟨_,0,rfl,by omega,sub1,⟨_,h1⟩,λj hj=>by omega,rfl⟩,?_⟩
 rintro e t m ⟨i,hy,hi,st,⟨w,hw⟩,hn,rfl⟩
 simp only [cI,and_true] at hy
 rw [hy]
 simp only [qJh,qAP,qAA]
 refine qAG (λhlt=>?_) (λhge=>?_)
 rotate_left
 ·have:i=7:=by have:=oF hge;omega
  subst this
  have:=hK t st
  rw [qZH hn] at this
  exact this
 have hlt:i < 7:=by have:=oT hlt;omega
 simp only [qZM hlt,qAA]
 refine qAL λg s2 hg h2 u2=>?_
 refine qAU h2 rfl rfl rfl λs3 h3 u3=>?_
 have sub3:Sub t s3:=λj e hj=>by
  have ne:=qCF hg hj
  rw [u3 j ne,u2 j ne];exact hj
 have r1:rdN s3 2 (.ptr g 1)=some [u8 (hdN i).1,u8 (hdN i).2]:=by simp only [rdN,h3];rfl
 have hb3:=sub3 _ _ hw
 have r2:qLG s3 8 1 (.ptr b 0) none (some (.int .i64 2)) none=some (.slc b 0 2 (some 8) 1):=by simp only [qLG,hb3];rfl
 have r3:zAAz 2 (.slc b 0 2 (some 8) 1)=some (.ptr b 0):=rfl
 have r4:rdN s3 2 (.ptr b 0)=some [u8 c.b0,u8 c.b1]:=by simp only [rdN,hb3];rfl
 have r5:rd1 s3 (.ptr g 0)=some (.int .i64 ((i+1:Nat):Int)):=by rw [qAJ h3];rfl
 simp only [qAB,zA,r1,r2,r3,r4,r5,zAGp,qAW,Bool.false_bne,qAA]
 have ec:decide (((hdN i).1:Int)=(c.b0:Int)∧((hdN i).2:Int)=(c.b1:Int))=decide ((hdN i).1=c.b0∧(hdN i).2=c.b1):=by
  simp only [Int.natCast_inj]
 rw [ec]
 refine qAG (λhc=>?_) (λhc=>?_)
 ·have:=hK s3 (st.trans sub3)
  rw [qYs hlt (oT hc) hn] at this
  exact this
 ·have hc:=oF hc
  simp only [add1 (show i≤1000000 by omega),qAA]
  refine ⟨_,by omega,i+1,rfl,by omega,st.trans sub3,⟨w,hb3⟩,λj hj=>?_,rfl⟩
  by_cases e:j=i
  ·rw [e];exact hc
  ·exact hn j (by omega)
abbrev zACM:List AV:=[u8 0,u8 2,u8 3,u8 12,u8 6,u8 0,u8 6,u8 1,u8 6,u8 2,u8 6,u8 3,u8 6,u8 6]
theorem zAA9 {t:Hq} {g i:Nat} {w:Bool} (hg:t g=some (w,.cells 247 zACM)) (hi:i < 7):qC2 7 2 (.ptr g 0) (.int .i64 (i:Int))=some (.ptr g (i * 2))∧rd1 t (.ptr g (i * 2))=some (u8 (hdN i).1)∧rd1 t (.ptr g (i * 2+1))=some (u8 (hdN i).2):=by
 have:i=0∨i=1∨i=2∨i=3∨i=4∨i=5∨i=6:=by omega
 rcases this with rfl | rfl | rfl | rfl | rfl | rfl | rfl <;> exact ⟨rfl,by rw [qAJ hg];rfl,by rw [qAJ hg];rfl⟩
def zACT (t0:Hq) (c:Cm):List AV→Hq→Nat→Prop:=λys t m=>∃ i:Nat,ys=[.int .i64 (i:Int)]∧i≤7∧t=t0∧(∀ j,j < i→¬((hdN j).1=c.b0∧(hdN j).2=c.b1))∧m=7 - i
theorem zAAD {c:Cm} (hK:∀ s',Sub s s'→K (.int .i64 (qG5 c:Int)) s'):wC Tryz.prog XX 169 [.agg (cmR c)] K s:=by
 refine qHr ⟨rfl,qAL λb s1 hb h1 u1=>?_⟩
 have sub1:=u1.sub hb
 refine qAH (a:=[u8 0,u8 2]) rfl (qAH (a:=[u8 3,u8 12]) rfl (qAH (a:=[u8 6,u8 0]) rfl (qAH (a:=[u8 6,u8 1]) rfl (qAH (a:=[u8 6,u8 2]) rfl (qAH (a:=[u8 6,u8 3]) rfl (qAH (a:=[u8 6,u8 6]) rfl (qAH (a:=zACM) rfl (qAL λg s2 hg h2 u2=>qAU h2 rfl rfl rfl λs3 h3 u3=>?_))))))))
 have sub3:Sub s1 s3:=λj e hj=>by
  have ne:=qCF hg hj
  rw [u3 j ne,u2 j ne];exact hj
 have hb3:=sub3 _ _ h1
 refine ⟨zACT s3 c,⟨_,0,rfl,by omega,rfl,λj hj=>by omega,rfl⟩,?_⟩
 rintro e t m ⟨i,hy,hi,rfl,hn,rfl⟩
 simp only [cI,and_true] at hy
 rw [hy]
 simp only [qEU,qAP,qAA]
 refine qAG (λhlt=>?_) (λhge=>?_)
 rotate_left
 ·have:i=7:=by have:=oF hge;omega
  subst this
  have:=hK t (sub1.trans sub3)
  rw [qZH hn] at this
  exact this
 have hlt:i < 7:=by have:=oT hlt;omega
 obtain ⟨a1,a2,a3⟩:=zAA9 h3 hlt
 have i0:qC2 8 1 (.ptr b 0) (.int .i64 0)=some (.ptr b 0):=rfl
 have i1:qC2 8 1 (.ptr b 0) (.int .i64 1)=some (.ptr b 1):=rfl
 have j0:qC2 2 1 (.ptr g (i * 2)) (.int .i64 0)=some (.ptr g (i * 2)):=rfl
 have j1:qC2 2 1 (.ptr g (i * 2)) (.int .i64 1)=some (.ptr g (i * 2+1)):=rfl
 have r0:rd1 t (.ptr b 0)=some (u8 c.b0):=by rw [qAJ hb3];rfl
 have r1:rd1 t (.ptr b 1)=some (u8 c.b1):=by rw [qAJ hb3];rfl
 have nx:¬((hdN i).1=c.b0∧(hdN i).2=c.b1)→oK (qAC .add (.int .i64 (i:Int)) (.int .i64 1)) λv_22=>∃ m',m' < 7 - i∧zACT t c [v_22] t m':=λhc=>by
  simp only [add1 (show i≤1000000 by omega),qAA]
  refine ⟨_,by omega,i+1,rfl,by omega,rfl,λj hj=>?_,rfl⟩
  by_cases e:j=i
  ·rw [e];exact hc
  ·exact hn j (by omega)
 simp only [i0,r0,a1,j0,a2,qAa,qAW,Bool.false_bne,qAA]
 refine qAG (λh0=>?_) (λh0=>?_)
 ·have h0':(hdN i).1=c.b0:=by have:=eq_of_beq h0;omega
  simp only [i1,r1,j1,a3,qAa,qAW,Bool.false_bne,qAA,qB1,h0,qAO]
  refine qAG (λh2=>?_) (λh2=>?_)
  ·have h2:(hdN i).2=c.b1:=by have:=eq_of_beq h2;omega
   simp only [add1 (show i≤1000000 by omega),qAA]
   have:=hK t (sub1.trans sub3)
   rw [qYs hlt ⟨h0',h2⟩ hn] at this
   exact this
  ·exact nx λ⟨_,q⟩=>by rw [q] at h2;simp at h2
 ·simp only [qB1,h0,qAI,qAF,qAA]
  exact nx λ⟨q,_⟩=>by rw [q] at h0;simp at h0
end Go.AM.SG
namespace Go.AM.SG
open Go Go.AM Go.Proofs
variable {K : AV → Hq → Prop} {s s' s0 : Hq} {v lv : AV} {c : Cm} {l : List Cm}
def cb (c:Cm):List Nat:=[c.b0,c.b1,c.b2,c.b3,c.b4,c.b5,c.b6,c.b7]
theorem zAEk (h:c.ok):∀ x∈cb c,x < 256:=λx hx=>by
 obtain ⟨h0,h1,h2,h3,h4,h5,h6,h7⟩:=h
 simp only [cb,List.mem_cons,List.not_mem_nil,or_false] at hx
 rcases hx with rfl | rfl | rfl | rfl | rfl | rfl | rfl | rfl <;> assumption
def nv (l:List Nat):Nat:=l.foldl (λn x=>n * 256+x) 0
theorem qYM {l:List Nat} {x:Nat}:nv (l ++ [x])=nv l * 256+x:=by simp [nv,List.foldl_append]
theorem zAGZ:∀ {l:List Nat},(∀ x∈l,x < 256)→nv l < 256 ^ l.length:=by
 have key:∀ (l:List Nat) (a:Nat),(∀ x∈l,x < 256)→l.foldl (λn x=>n * 256+x) a < (a+1) * 256 ^ l.length:=by
  intro l
  induction l with
  | nil=>intro a _;simp
  | cons x l ih=>
    intro a h
    have:=ih (a * 256+x) λy hy=>h y (List.mem_cons_of_mem _ hy)
    have hx:=h x List.mem_cons_self
    have e:(a * 256+x+1) * 256 ^ l.length≤((a+1) * 256) * 256 ^ l.length:=Nat.mul_le_mul_right _ (by omega)
    rw [List.foldl_cons,List.length_cons,Nat.pow_succ',← Nat.mul_assoc]
    exact Nat.lt_of_lt_of_le this e
 intro l h
 have:=key l 0 h
 simpa [nv] using this
theorem qVa {l:List Nat} (h:∀ x∈l,x < 256) (hl:l.length≤6):nv l < 281474976710656:=
 Nat.lt_of_lt_of_le (zAGZ h) (Nat.pow_le_pow_right (n:=256) (by omega) hl)
theorem digit {a x:Nat} (ha:a < 281474976710656) (hx:x < 256):qBb .shl (.int .u64 (a:Int)) (.int .u64 8)=some (.int .u64 ((a * 256:Nat):Int))∧qBx .u64 (u8 x)=some (.int .u64 (x:Int))∧qAC .or (.int .u64 ((a * 256:Nat):Int)) (.int .u64 (x:Int))=some (.int .u64 ((a * 256+x:Nat):Int))∧qAC .add (.int .u64 ((a * 256:Nat):Int)) (.int .u64 (x:Int))=some (.int .u64 ((a * 256+x:Nat):Int)):=
 ⟨zADD (by omega),zACQ hx,zAEb hx (by omega),zADx (by omega)⟩
def NumI (t0:Hq) (c:Cm):List AV→Hq→Nat→Prop:=λys t m=>
 ∃ i:Nat,ys=[.int .u64 ((nv (((cb c).drop 6).take i):Nat):Int),.int .i64 (i:Int)]∧i≤2∧t=t0∧m=2 - i
theorem zAFs (hc:c.ok) (hK:∀ s',Sub s s'→K (.int .u64 ((c.b6 * 256+c.b7:Nat):Int)) s'):wC Tryz.prog XX 73 [.agg (cmR c),.int .i64 6,.int .i64 2] K s:=by
 refine qL3 ⟨rfl,qAL λb s1 hb h1 u1=>?_⟩
 have h1:s1 b=some (false,.cells 104 ((cb c).map u8)):=h1
 have sub1:=u1.sub hb
 refine qAH (a:=.int .i64 8) rfl ?_
 have r2:qLG s1 8 1 (.ptr b 0) (some (.int .i64 6)) (some (.int .i64 8)) none=some (.slc b 6 2 (some 2) 1):=by simp only [qLG,h1];rfl
 have r3:qAQ (.slc b 6 2 (some 2) 1)=some 2:=rfl
 simp only [r2,r3,qAA]
 refine ⟨NumI s1 c,⟨_,0,rfl,by omega,rfl,rfl⟩,?_⟩
 rintro e t m ⟨i,hy,hi,rfl,rfl⟩
 simp only [cI,and_true] at hy
 rw [hy.1,hy.2]
 have e2:((2:Nat):Int)=2:=rfl
 simp only [qH2,e2,qAP,qAA]
 refine qAG (λhlt=>?_) (λhge=>?_)
 rotate_left
 ·have:i=2:=by have:=oF hge;omega
  subst this
  have:=hK t sub1
  simpa [nv,cb] using this
 have hlt:i < 2:=by have:=oT hlt;omega
 have hx:=zAEk hc
 have hlen:((cb c).drop 6).length=2:=rfl
 have hd:((cb c).drop 6).take (i+1)=((cb c).drop 6).take i ++ [((cb c).drop 6)[i]]:=by
  rw [List.take_add_one,gE (by rw [hlen];exact hlt)];rfl
 generalize hxv:((cb c).drop 6)[i]=x at hd
 have hxm:x < 256:=hx x (by rw [← hxv];exact List.mem_of_mem_drop (List.getElem_mem _))
 have a1:qAS 1 (.slc b 6 2 (some 2) 1) (.int .i64 (i:Int))=some (.ptr b (6+i)):=by
  have:Nat.blt i 2=true:=by rw [Nat.blt_eq];exact hlt
  simp [qAS,this]
 have r1:rd1 t (.ptr b (6+i))=some (u8 x):=by
  rw [qAJ h1,List.getElem?_map]
  have:(cb c)[6+i]?=some x:=by
   rw [← hxv,← List.getElem?_drop]
   exact gE (by rw [hlen];exact hlt)
  rw [this];rfl
 obtain ⟨q1,q2,q3,_⟩:=digit (qVa (l:=((cb c).drop 6).take i) (λy hy=>hx y (List.mem_of_mem_drop (List.mem_of_mem_take hy))) (by rw [List.length_take,hlen];omega)) hxm
 simp only [a1,r1,q1,q2,q3,add1 (show i≤1000000 by omega),qAA]
 exact ⟨_,by omega,i+1,by rw [hd,qYM],by omega,rfl,rfl⟩
theorem zAFd {g:Nat} (hc:c.ok) (hg:∃ x,s g=some (false,.cells 3 [x])) (hK:∀ s',KB g s s'→s' g=some (false,.cells 3 [.int .i64 ((c.b6 * 256+c.b7:Nat):Int)])→K (.int .i64 ((c.b2 % 32:Nat):Int)) s') :
  funK Tryz.prog XX (.fn (.func 72) [] [.ptr g 0]) [.agg (cmR c)] K s:=by
 refine ⟨by kernel_rfl,?_⟩
 show wC Tryz.prog XX 72 [.agg (cmR c),.ptr g 0] K s
 refine qIw ⟨rfl,qAL λb s1 hb h1 u1=>?_⟩
 have sub1:=u1.sub hb
 have r1:rdN s1 8 (.ptr b 0)=some (cmR c):=qAY h1 rfl
 simp only [r1,qAA]
 refine zAFs hc λs2 sub2=>?_
 obtain ⟨x,hg⟩:=hg
 have hne:b≠g:=λe=>by rw [e,hg] at hb;cases hb
 have hb2:=sub2 _ _ h1
 have hg2:=sub2 _ _ (sub1 _ _ hg)
 obtain ⟨c0,c1,c2,c3,c4,c5,c6,c7⟩:=hc
 simp only [qVP (show c.b6 * 256+c.b7 < 9223372036854775808 by omega),qAA]
 refine qEB hg2 Nat.zero_lt_one rfl λs3 h3 u3=>?_
 have i2:qC2 8 1 (.ptr b 0) (.int .i64 2)=some (.ptr b 2):=rfl
 have r3:rd1 s3 (.ptr b 2)=some (u8 c.b2):=by rw [qAJ (by rw [u3 b hne];exact hb2)];rfl
 have e1:qAC .and (u8 c.b2) (.int .u8 31)=some (.int .u8 ((c.b2 % 32:Nat):Int)):=zAFA (k:=5) (m:=31) c2 rfl (by omega)
 simp only [i2,r3,e1,qVP (show c.b2 % 32 < 9223372036854775808 by omega),qAA]
 exact hK s3 ((sub1.trans sub2).keep.trans (u3.keep rfl)) h3
def elN (l:List Cm):Nat × Nat × Bool:=match l.find? λc=>qG5 c == 7 with
 | some c=>(c.b2 % 32,c.b6 * 256+c.b7,true)
 | none=>(0,0,false)
theorem zAGo {i:Nat} (hi:l[i]?=some c) (hc:qG5 c=7) (hn:∀ d∈l.take i,qG5 d≠7):elN l=(c.b2 % 32,c.b6 * 256+c.b7,true):=by
 unfold elN
 have:l.find? (λc=>qG5 c == 7)=some c:=by
  obtain ⟨hlt,he⟩:=gS hi
  have hs:l=l.take i ++ c :: l.drop (i+1):=by
   rw [← he,List.getElem_cons_drop,List.take_append_drop]
  rw [hs,List.find?_append,List.find?_eq_none.2 λd hd=>by simpa using hn d hd]
  simp [hc]
 rw [this]
theorem zAFQ (hn:∀ d∈l,qG5 d≠7):elN l=(0,0,false):=by
 unfold elN
 rw [List.find?_eq_none.2 λd hd=>by simpa using hn d hd]
def FirI (s0:Hq) (l:List Cm):List AV→Hq→Nat→Prop:=λys t m=>
 ∃ i:Nat,ys=[.int .i64 (i:Int)]∧i≤l.length∧Sub s0 t∧(∀ d∈l.take i,qG5 d≠7)∧m=l.length - i
theorem qXu {i:Nat} (hi:l[i]?=some c) (hc:qG5 c≠7) (hn:∀ d∈l.take i,qG5 d≠7):∀ d∈l.take (i+1),qG5 d≠7:=λd hd=>by
 rw [List.take_add_one,hi] at hd
 rcases List.mem_append.1 hd with q | q
 ·exact hn d q
 ·have:d=c:=by simpa using q
  rw [this];exact hc
theorem zAAK {g:Nat} (h:SlR 8 s v (l.map cmR)) (hG:GlK s) (hg:s g=some (false,.cells 3 [.int .i64 0])) (hok:∀ c∈l,c.ok) (hl:l.length≤1000)
  (hK:∀ s',KB g s s'→s' g=some (false,.cells 3 [.int .i64 ((elN l).2.1:Int)])→K (.tup [.int .i64 ((elN l).1:Int),.bool (elN l).2.2]) s'):wC Tryz.prog XX 71 [v,.int .i64 7,.fn (.func 72) [] [.ptr g 0]] K s:=by
 refine qJo ?_
 simp only [qHQ,h.len,List.length_map,qAA]
 refine ⟨FirI s l,⟨_,0,rfl,by omega,.refl _,by simp,rfl⟩,?_⟩
 rintro e t m ⟨i,hy,hi,st,hn,rfl⟩
 simp only [cI,and_true] at hy
 rw [hy]
 simp only [qFs,qAP,qAA]
 refine qAG (λhlt=>?_) (λhge=>?_)
 rotate_left
 ·have:i=l.length:=by have:=oF hge;omega
  subst this
  rw [List.take_length] at hn
  have:=hK t st.keep (by rw [zAFQ hn];exact st _ _ hg)
  rw [zAFQ hn] at this
  exact this
 have hlt:i < l.length:=by have:=oT hlt;omega
 obtain ⟨c,hci⟩:∃ c,l[i]?=some c:=⟨_,gE hlt⟩
 have hcm:=List.mem_of_getElem? hci
 obtain ⟨pb,po,e1,e2,_⟩:=(h.sub st).get (i:=i) (r:=cmR c) (by rw [List.getElem?_map,hci];rfl)
 simp only [e1,e2,qAA]
 refine qAL λb s2 hb h2 u2=>?_
 refine qAU h2 rfl rfl rfl λs3 h3 u3=>?_
 have sub3:Sub t s3:=λj e hj=>by
  have ne:=qCF hb hj
  rw [u3 j ne,u2 j ne];exact hj
 have r1:rdN s3 8 (.ptr b 0)=some (cmR c):=qAY h3 rfl
 simp only [r1,qAA]
 refine zADm (hG.sub (st.trans sub3)) λs4 sub4=>?_
 have st4:=(st.trans sub3).trans sub4
 simp only [qAa,qAW,Bool.false_bne,qAA]
 refine qAG (λhk=>?_) (λhk=>?_)
 ·have hk:qG5 c=7:=by have:=eq_of_beq hk;omega
  have r2:rdN s4 8 (.ptr b 0)=some (cmR c):=qAY (sub4 _ _ h3) rfl
  simp only [r2,qAA]
  refine zAFd (hok c hcm) ⟨_,st4 _ _ hg⟩ λs5 k5 h5=>?_
  have e:=zAGo hci hk hn
  have:=hK s5 (st4.keep.trans k5) (by rw [e];exact h5)
  rw [e] at this
  exact this
 ·have hk:qG5 c≠7:=λe=>by rw [e] at hk;cases hk
  simp only [add1 (show i≤1000000 by omega),qAA]
  exact ⟨_,by omega,i+1,rfl,by omega,st4,qXu hci hk hn,rfl⟩
theorem zABI (h:SlR 8 s v (l.map cmR)) (hG:GlK s) (hok:∀ c∈l,c.ok) (hl:l.length≤1000) (hK:∀ s',Sub s s'→K (.tup [.int .i64 ((elN l).1:Int),.int .i64 ((elN l).2.1:Int),.bool (elN l).2.2]) s'):wC Tryz.prog XX 44 [v] K s:=by
 refine qJN (qAL λg s1 hg h1 u1=>?_)
 have sub1:=u1.sub hg
 refine zAAK (h.sub sub1) (hG.sub sub1) h1 hok hl λs2 k2 h2=>?_
 have x0:∀ x y:AV,qAd (.tup [x,y]) 0=some x:=λ_ _=>rfl
 have x1:∀ x y:AV,qAd (.tup [x,y]) 1=some y:=λ_ _=>rfl
 have r1:rd1 s2 (.ptr g 0)=some (.int .i64 ((elN l).2.1:Int)):=by rw [qAJ h2];rfl
 simp only [x0,x1,r1,qAA]
 refine qEB h2 Nat.zero_lt_one rfl λs3 h3 u3=>?_
 have h3:s3 g=some (false,.cells 3 [.int .i64 ((elN l).2.1:Int)]):=h3
 have r2:rd1 s3 (.ptr g 0)=some (.int .i64 ((elN l).2.1:Int)):=by rw [qAJ h3];rfl
 simp only [r2,qAA]
 refine hK s3 λi e hi=>?_
 have ne:=qCF hg hi
 rw [u3 i ne]
 exact k2 i e (sub1 i e hi) ne
def zAGI (t0:Hq) (c:Cm):List AV→Hq→Nat→Prop:=λys t m=>
 ∃ i:Nat,ys=[.int .u64 ((nv (((cb c).drop 2).take i):Nat):Int),.int .i64 ((2+i:Nat):Int)]∧i≤6∧t=t0∧m=6 - i
theorem zAEG (hc:c.ok) (hK:∀ s',Sub s s'→K (.int .u64 ((nv ((cb c).drop 2):Nat):Int)) s'):wC Tryz.prog XX 170 [.agg (cmR c)] K s:=by
 refine qG2 ⟨rfl,qAL λb s1 hb h1 u1=>?_⟩
 have h1:s1 b=some (false,.cells 104 ((cb c).map u8)):=h1
 have sub1:=u1.sub hb
 refine ⟨zAGI s1 c,⟨_,0,rfl,by omega,rfl,rfl⟩,?_⟩
 rintro e t m ⟨i,hy,hi,rfl,rfl⟩
 simp only [cI,and_true] at hy
 rw [hy.1,hy.2]
 simp only [qDl,qAP,qAA]
 have hlen:((cb c).drop 2).length=6:=rfl
 refine qAG (λhlt=>?_) (λhge=>?_)
 rotate_left
 ·have:i=6:=by have:=oF hge;omega
  subst this
  rw [List.take_of_length_le (by rw [hlen];omega)]
  exact hK t sub1
 have hlt:i < 6:=by have:=oT hlt;omega
 have hx:=zAEk hc
 have hd:((cb c).drop 2).take (i+1)=((cb c).drop 2).take i ++ [((cb c).drop 2)[i]]:=by
  rw [List.take_add_one,gE (by rw [hlen];exact hlt)];rfl
 generalize hxv:((cb c).drop 2)[i]=x at hd
 have hxm:x < 256:=hx x (by rw [← hxv];exact List.mem_of_mem_drop (List.getElem_mem _))
 have a1:qC2 8 1 (.ptr b 0) (.int .i64 ((2+i:Nat):Int))=some (.ptr b (2+i)):=by
  have:∀ j:Nat,j < 8→qC2 8 1 (.ptr b 0) (.int .i64 (j:Int))=some (.ptr b j):=λj hj=>by
   have:Nat.blt j 8=true:=by rw [Nat.blt_eq];omega
   simp [qC2,this]
  exact this _ (by omega)
 have r1:rd1 t (.ptr b (2+i))=some (u8 x):=by
  rw [qAJ h1,List.getElem?_map]
  have:(cb c)[2+i]?=some x:=by
   rw [← hxv,← List.getElem?_drop]
   exact gE (by rw [hlen];exact hlt)
  rw [this];rfl
 obtain ⟨q1,q2,_,q3⟩:=digit (qVa (l:=((cb c).drop 2).take i) (λy hy=>hx y (List.mem_of_mem_drop (List.mem_of_mem_take hy))) (by rw [List.length_take,hlen];omega)) hxm
 simp only [q1,a1,r1,q2,q3,add1 (show 2+i≤1000000 by omega),qAA]
 exact ⟨_,by omega,i+1,by rw [hd,qYM];rfl,by omega,rfl,rfl⟩
theorem qXL (h:SlR 8 s v (l.map cmR)) (hok:∀ c∈l,c.ok) (hl:l.length≤1000)
  (hK:∀ s',Sub s s'→K (.tup (match l.find? λc=>qG5 c == 7 with | some c=>[.int .u64 ((nv ((cb c).drop 2):Nat):Int),.bool true] | none=>[.int .u64 0,.bool false])) s'):wC Tryz.prog XX 125 [v,.int .i64 7] K s:=by
 refine qHX ?_
 refine ⟨FirI s l,⟨_,0,rfl,by omega,.refl _,by simp,rfl⟩,?_⟩
 rintro e t m ⟨i,hy,hi,st,hn,rfl⟩
 simp only [cI,and_true] at hy
 rw [hy]
 simp only [qD7,(h.sub st).len,List.length_map,qAP,qAA]
 refine qAG (λhlt=>?_) (λhge=>?_)
 rotate_left
 ·have:i=l.length:=by have:=oF hge;omega
  subst this
  rw [List.take_length] at hn
  have:=hK t st
  rw [List.find?_eq_none.2 λd hd=>by simpa using hn d hd] at this
  exact this
 have hlt:i < l.length:=by have:=oT hlt;omega
 obtain ⟨c,hci⟩:∃ c,l[i]?=some c:=⟨_,gE hlt⟩
 have hcm:=List.mem_of_getElem? hci
 obtain ⟨pb,po,e1,e2,_⟩:=(h.sub st).get (i:=i) (r:=cmR c) (by rw [List.getElem?_map,hci];rfl)
 simp only [e1,e2,qAA]
 refine zAAD λs4 sub4=>?_
 have st4:=st.trans sub4
 simp only [qAa,qAW,Bool.false_bne,qAA]
 refine qAG (λhk=>?_) (λhk=>?_)
 ·have hk:qG5 c=7:=by have:=eq_of_beq hk;omega
  obtain ⟨pb',po',e1',e2',_⟩:=(h.sub st4).get (i:=i) (r:=cmR c) (by rw [List.getElem?_map,hci];rfl)
  rw [e1] at e1'
  cases e1'
  simp only [e2',qAA]
  refine zAEG (hok c hcm) λs5 sub5=>?_
  have:=hK s5 (st4.trans sub5)
  have e:l.find? (λc=>qG5 c == 7)=some c:=by
   obtain ⟨hlt,he⟩:=gS hci
   have hs:l=l.take i ++ c :: l.drop (i+1):=by
    rw [← he,List.getElem_cons_drop,List.take_append_drop]
   rw [hs,List.find?_append,List.find?_eq_none.2 λd hd=>by simpa using hn d hd]
   simp [hk]
  rw [e] at this
  exact this
 ·have hk:qG5 c≠7:=λe=>by rw [e] at hk;cases hk
  simp only [add1 (show i≤1000000 by omega),qAA]
  exact ⟨_,by omega,i+1,rfl,by omega,st4,qXu hci hk hn,rfl⟩
theorem qZc (h:SlR 8 s v (l.map cmR)) (hok:∀ c∈l,c.ok) (hl:l.length≤1000) (hK:∀ s',Sub s s'→K (.tup [.int .i64 ((elN l).1:Int),.int .i64 ((elN l).2.1:Int),.bool (elN l).2.2]) s'):wC Tryz.prog XX 91 [v] K s:=by
 refine qFf (qXL h hok hl λs1 sub1=>?_)
 have:=hK s1 sub1
 have x0:∀ x y:AV,qAd (.tup [x,y]) 0=some x:=λ_ _=>rfl
 have x1:∀ x y:AV,qAd (.tup [x,y]) 1=some y:=λ_ _=>rfl
 unfold elN at this
 cases e:l.find? λc=>qG5 c == 7 with
 | none=>
   rw [e] at this
   simp only [x0,x1,qAA]
   exact qAH (a:=.int .u64 0) rfl (qAH (a:=.int .u64 0) rfl (qAH (a:=.int .i64 0) rfl (qAH (a:=.int .u64 0) rfl (qAH (a:=.int .i64 0) rfl this))))
 | some c=>
   rw [e] at this
   have hc:=hok c (List.mem_of_find?_eq_some e)
   obtain ⟨c0,c1,c2,c3,c4,c5,c6,c7⟩:=hc
   have en:nv ((cb c).drop 2)=((((c.b2 * 256+c.b3) * 256+c.b4) * 256+c.b5) * 256+c.b6) * 256+c.b7:=by simp [nv,cb]
   simp only [x0,x1,zAD8,qAA]
   generalize nv ((cb c).drop 2)=n at en ⊢
   have a1:qAC .and (.int .u64 ((n / 1099511627776:Nat):Int)) (.int .u64 31)=some (.int .u64 ((n / 1099511627776 % 32:Nat):Int)):=qZK (k:=5) (m:=31) (by omega) rfl (by omega)
   have a2:qAC .and (.int .u64 (n:Int)) (.int .u64 65535)=some (.int .u64 ((n % 65536:Nat):Int)):=qZK (k:=16) (m:=65535) (by omega) rfl (by omega)
   have q1:n / 1099511627776 % 32=c.b2 % 32:=by omega
   have q2:n % 65536=c.b6 * 256+c.b7:=by omega
   simp only [a1,a2,q1,q2,qVP (show c.b2 % 32 < 9223372036854775808 by omega),qVP (show c.b6 * 256+c.b7 < 9223372036854775808 by omega),qAA]
   exact this
end Go.AM.SG
namespace Go.AM.SG
open Go Go.AM Go.Proofs
variable {K : AV → Hq → Prop} {s s' s0 : Hq} {v w p q m p' q' m' : AV}
structure Es where
 (x0 x1 x2 x3 x4 x5 x6 x7 x8 x9:Int)
def Es.R (x:Es):List AV:=[.int .u8 x.x0,.int .u8 x.x1,.int .u8 x.x2,.int .u8 x.x3,.int .u8 x.x4,.int .u8 x.x5,.int .u8 x.x6,.int .u8 x.x7,.int .u8 x.x8,.int .u8 x.x9]
structure Rt where
 (kd rd:Int) (es:Es) (tag mac ip:Int) (hip:Bool) (px pl gw la lb og nx:Int) (hm:Bool) (md:Int) (hp:Bool) (pf:Int) (ho:Bool) (orr tk tl tr tg pe:Int) (st:Bool)
 (path cl:List Int) (cm:List Cm)
def Rt.N (r:Rt):List AV:=.int .i64 r.kd :: .int .u64 r.rd :: (r.es.R ++ [.int .u32 r.tag,.int .u64 r.mac,.int .u32 r.ip,.bool r.hip,.int .u32 r.px,.int .i64 r.pl,.int .u32 r.gw,.int .u32 r.la,.int .u32 r.lb])
def Rt.T (r:Rt):List AV:=[.int .i64 r.tk,.int .u32 r.tl,.int .u32 r.tr,.int .u32 r.tg]
def Rt.A (r:Rt) (p q m:AV):List AV:=[.int .i64 r.og,p,.int .u32 r.nx,.bool r.hm,.int .u32 r.md,.bool r.hp,.int .u32 r.pf,.bool r.ho,.int .u32 r.orr,q,m,.int .i64 r.tk,.int .u32 r.tl,.int .u32 r.tr,.int .u32 r.tg]
def Rt.row (r:Rt) (p q m:AV):List AV:=r.N ++ (r.A p q m ++ [.int .u32 r.pe,.bool r.st])
theorem Rt.row_len (r:Rt):(r.row p q m).length=38:=rfl
theorem Rt.row_one (r:Rt) (h1:p.one=true) (h2:q.one=true) (h3:m.one=true):qAj (r.row p q m)=true:=by
 show (p.one&&(q.one&&(m.one&&true)))=true
 rw [h1,h2,h3];rfl
structure RtAt (s:Hq) (r:Rt) (p q m:AV):Prop where
 pa:Sl s p (us r.path)
 cl:Sl s q (us r.cl)
 cm:SlR 8 s m (r.cm.map cmR)
theorem RtAt.sub {r:Rt} (h:RtAt s r p q m) (k:Sub s s'):RtAt s' r p q m:=⟨h.pa.sub k,h.cl.sub k,h.cm.sub k⟩
theorem RtAt.one {r:Rt} (h:RtAt s r p q m):qAj (r.row p q m)=true:=r.row_one h.pa.one h.cl.one h.cm.one
structure Frs (s:Hq) (r:Rt) (p q m:AV):Prop where
 pa:∀ i o n c,p=.slc i o n c 1→us r.path≠[]→s i=none
 cl:∀ i o n c,q=.slc i o n c 1→us r.cl≠[]→s i=none
 cm:∀ i o n c,m=.slc i o n c 8→r.cm.map cmR≠[]→s i=none
theorem Frs.old {r:Rt} (h:Frs s' r p q m) (k:Sub s s'):Frs s r p q m:=
 ⟨λi o n c e z=>qHN k (h.pa i o n c e z),λi o n c e z=>qHN k (h.cl i o n c e z),λi o n c e z=>qHN k (h.cm i o n c e z)⟩
theorem RtAt.keep {r:Rt} {fp:Nat→Prop} (h:RtAt s r p q m) (kb:qCR fp s s') (hf:Frs s0 r p q m) (hp:∀ i,fp i→s0 i≠none):RtAt s' r p q m:=
 ⟨h.pa.keep kb λi o n c e z w=>hp i w (hf.pa i o n c e z),h.cl.keep kb λi o n c e z w=>hp i w (hf.cl i o n c e z),h.cm.keep kb λi o n c e z w=>hp i w (hf.cm i o n c e z)⟩
def Rt.ok (r:Rt):Prop:=(∀ c∈r.cm,c.ok)∧r.path.length≤20∧r.cl.length≤20∧r.cm.length≤20
def Rts (s:Hq) (v:AV) (R:List Rt):Prop:=∃ rows:List (List AV),SlR 38 s v rows∧rows.length=R.length∧∀ (i:Nat) (r:Rt),R[i]?=some r→∃ p q m,rows[i]?=some (r.row p q m)∧RtAt s r p q m
theorem Rts.sub {R:List Rt} (h:Rts s v R) (k:Sub s s'):Rts s' v R:=by
 obtain ⟨rows,h1,h2,h3⟩:=h
 refine ⟨rows,h1.sub k,h2,λi r hi=>?_⟩
 obtain ⟨p,q,m,q1,q2⟩:=h3 i r hi
 exact ⟨p,q,m,q1,q2.sub k⟩
theorem Rts.len {R:List Rt} (h:Rts s v R):qAQ v=some R.length:=by
 obtain ⟨rows,h1,h2,_⟩:=h
 rw [h1.len,h2]
theorem Rts.get {R:List Rt} (h:Rts s v R) {i:Nat} {r:Rt} (hi:R[i]?=some r):∃ b o p q m,qAS 38 v (.int .i64 (i:Int))=some (.ptr b o)∧rdN s 38 (.ptr b o)=some (r.row p q m)∧(∀ j,j < 38→rd1 s (.ptr b (o+j))=(r.row p q m)[j]?)∧RtAt s r p q m:=by
 obtain ⟨rows,h1,h2,h3⟩:=h
 obtain ⟨p,q,m,q1,q2⟩:=h3 i r hi
 obtain ⟨b,o,e1,e2,e3⟩:=h1.get q1
 exact ⟨b,o,p,q,m,e1,e2,e3,q2⟩
def eqE (P:Program) (x y:Es):Bool:=match qFb P 27 (.agg x.R) (.agg y.R) with
 | some b=>b
 | none=>false
theorem zABy (x y:Es):qFb Tryz.prog 27 (.agg x.R) (.agg y.R)=some (eqE Tryz.prog x y):=by
 obtain ⟨b,h,_⟩:=qYC (by kernel_rfl:cDef Tryz.prog 30 27 (.agg x.R) (.agg y.R)=true)
 unfold eqE
 rw [h]
def abt (P:Program) (x:Es) (r:Rt):Bool:=(r.kd == 4)&&eqE P r.es x
theorem zAAB {r:Rt} {x:Es} (h:RtAt s r p q m) (hK:∀ s',Sub s s'→K (.bool (abt Tryz.prog x r)) s'):wC Tryz.prog XX 37 [.agg (r.row p q m),.agg x.R] K s:=by
 refine qT1 ⟨h.one,qAL λb s1 hb h1 u1=>⟨rfl,qAL λg s2 hg h2 u2=>?_⟩⟩
 have sub2:=(u1.sub hb).trans (u2.sub hg)
 have hb2:=(u2.sub hg) _ _ h1
 have r0:rd1 s2 (.ptr b 0)=some (.int .i64 r.kd):=by rw [qAJ hb2];rfl
 have r1:rdN s2 10 (.ptr b 2)=some r.es.R:=by simp only [rdN,hb2];rfl
 have r2:rdN s2 10 (.ptr g 0)=some x.R:=qAY h2 rfl
 simp only [qAB,zA,r0,r1,r2,qAa,qAW,Bool.false_bne,zABy,qAA]
 have fin:=hK s2 sub2
 unfold abt at fin
 cases e:(r.kd == 4) with
 | true=>
   rw [e,Bool.true_and] at fin
   simp only [qAK,qIL,qAO,qAA]
   exact fin
 | false=>
   rw [e,Bool.false_and] at fin
   simp only [qAF,qIL,qAI,qAA]
   exact fin
theorem SlR.addf {es:Nat} {s2:Hq} {rows:List (List AV)} (h:SlR es s2 v rows) (hs:Sub (AM.frz s) s2):SlR es (add s s2) v rows:=by
 refine ⟨h.1,?_⟩
 rcases h.2 with h | ⟨b,o,cap,h1,h2,h3⟩
 ·exact .inl h
 ·refine .inr ⟨b,o,cap,h1,h2,λhl=>?_⟩
  obtain ⟨t,e,cs,q1,q2⟩:=h3 hl
  cases hb:s b with
  | none=>exact ⟨t,e,cs,by rw [qCN hb];exact q1,q2⟩
  | some x=>
    obtain ⟨t',x⟩:=x
    have:=hs b _ (qJ8 hb)
    rw [q1] at this
    cases this
    exact ⟨t',e,cs,by rw [qBj hb],q2⟩
end Go.AM.SG
namespace Go.AM.SG
open Go Go.AM Go.Proofs
variable {K : AV → Hq → Prop} {s s' s0 t : Hq} {v w p q m p' q' m' : AV} {R : List Rt}
abbrev Qr:=Int × Nat × Nat × Bool
def cds (q:List Qr):List Cd:=q.map λx=>(x.1,(x.2.2.1:Int))
theorem qYV {q q':List Qr}:cds (q ++ q')=cds q ++ cds q':=by simp [cds]
theorem qOy {q:List Qr}:(cds q).length=q.length:=by simp [cds]
def pA:List Qr→Nat
 | []=>0
 | x :: _=>x.2.1
def pG (q:List Qr):Bool:=q.all λx=>x.2.2.2&&(x.2.1 == pA q)
theorem zACO {q:List Qr} {x:Qr}:pA (q ++ [x])=if q=[] then x.2.1 else pA q:=by
 cases q <;> rfl
theorem zAB6 {q:List Qr} {x:Qr}:pG (q ++ [x])=(pG q&&x.2.2.2&&(x.2.1 == pA (q ++ [x]))):=by
 unfold pG
 cases q with
 | nil=>simp [pA]
 | cons y q=>
   have e:pA (y :: q ++ [x])=pA (y :: q):=rfl
   rw [e,List.all_append,Bool.and_assoc]
   simp
def fin3 (g:Bool) (a:Int):Int:=if g=false∨a < 0∨3≤a then 0 else a
def rS (q:List Qr):Int × Bool:=q.foldl (λst x=>((x.2.1:Int),if x.2.2.2=false∨(0≤st.1∧(x.2.1:Int)≠st.1) then false else st.2)) (-1,true)
theorem zACD {q:List Qr} {x:Qr}:rS (q ++ [x])=((x.2.1:Int),if x.2.2.2=false∨(0≤(rS q).1∧(x.2.1:Int)≠(rS q).1) then false else (rS q).2):=by simp [rS,List.foldl_append]
theorem both (q:List Qr):(q=[]∧rS q=(-1,true))∨(q≠[]∧0≤(rS q).1∧(rS q).2=pG q∧(pG q=true→(rS q).1=(pA q:Int))):=by
 have key:∀ (n:Nat) (q:List Qr),q.length=n→(q=[]∧rS q=(-1,true))∨(q≠[]∧0≤(rS q).1∧(rS q).2=pG q∧(pG q=true→(rS q).1=(pA q:Int))):=by
  intro n
  induction n with
  | zero=>intro q hq;left;rw [List.eq_nil_of_length_eq_zero hq];exact ⟨rfl,rfl⟩
  | succ n ih=>
    intro q hq
    right
    obtain ⟨q',x,rfl⟩:∃ q' x,q=q' ++ [x]:=⟨q.dropLast,q.getLast (by intro e;rw [e] at hq;simp at hq),(List.dropLast_concat_getLast _).symm⟩
    have hl:q'.length=n:=by simpa using hq
    rw [zACD,zAB6,zACO]
    refine ⟨by simp,by simp,?_⟩
    rcases ih q' hl with ⟨h1,h2⟩ | ⟨h1,h2,h3,h4⟩
    ·subst h1
     rw [h2]
     cases x.2.2.2 <;> simp [pG]
    ·rw [if_neg h1]
     simp only
     cases hf:x.2.2.2 with
     | false=>simp
     | true=>
       cases hg:pG q' with
       | false=>simp [h3,hg]
       | true=>
         have h4:=h4 hg
         rw [h4] at h2 ⊢
         by_cases e:x.2.1=pA q'
         ·simp [e,h3,hg]
         ·have e':¬ ((x.2.1:Int)=(pA q':Int)):=by omega
          simp [e,e',h2]
 exact key q.length q rfl
theorem zAEt (q:List Qr):fin3 (pG q) (pA q)=fin3 (rS q).2 (rS q).1:=by
 rcases both q with ⟨h1,h2⟩ | ⟨h1,h2,h3,h4⟩
 ·subst h1;rw [h2];rfl
 ·unfold fin3
  rw [h3]
  cases hg:pG q with
  | false=>simp
  | true=>rw [h4 hg]
def qs (P:Program) (x:Es) (R:List Rt):List Qr:=(R.filter (abt P x)).map λr=>(r.nx,elN r.cm)
theorem qYO {P:Program} {x:Es} {i:Nat} {r:Rt} (h:R[i]?=some r):qs P x (R.take (i+1))=qs P x (R.take i) ++ (if abt P x r=true then [(r.nx,elN r.cm)] else []):=by
 unfold qs
 rw [List.take_add_one,h,List.filter_append,List.map_append]
 congr 1
 cases e:abt P x r <;> simp [e]
theorem qVK {P:Program} {x:Es}:(qs P x R).length≤R.length:=by
 unfold qs
 rw [List.length_map]
 exact List.length_filter_le _ _
end Go.AM.SG
namespace Go.AM.SG
open Go Go.AM Go.Proofs
variable {K : AV → Hq → Prop} {s s' s0 t : Hq} {v w p q m p' q' m' : AV} {R : List Rt} {x : Es}
theorem qTO (hK:∀ v s',Sub s s'→K v s'):wC Tryz.prog XX 50 [] K s:=by
 refine qI9 (qAL λb s1 hb h1 u1=>?_)
 refine qAH (a:=[.fn (.func 76) [] [],.fn (.func 77) [] [],.fn (.func 81) [] []]) rfl ?_
 refine qAU h1 rfl rfl rfl λs2 h2 u2=>?_
 have r1:rdN s2 3 (.ptr b 0)=some [.fn (.func 76) [] [],.fn (.func 77) [] [],.fn (.func 81) [] []]:=qAY h2 rfl
 simp only [r1,qAA]
 refine hK _ s2 λi e hi=>?_
 have ne:=qCF hb hi
 rw [u2 i ne,u1 i ne];exact hi
theorem qLQ {zs c:List AV} (h:c.length=zs.length):qBi (repl 1 zs) [(0,zs.length,.agg c)]=some c:=by
 have e0:repl 1 zs=zs:=by simp [repl]
 rw [e0]
 have e2:Nat.beq c.length zs.length=true:=by rw [h];exact Nat.beq_refl _
 have e3:Nat.ble (0+c.length) zs.length=true:=Nat.ble_eq_true_of_le (by omega)
 simp only [qBi,qHp,e2,e3,Bool.and_self,cond_true]
 unfold qBY
 rw [List.take_zero,List.nil_append,List.drop_eq_nil_of_le (by omega),List.append_nil]
theorem qT6 {n:Int} {k:Nat} {Q:List AV→Prop} (h:Q (cR (n,(k:Int)))):oK (qBi [(.int .u32 0),(.int .i64 0)] [(0,1,.int .u32 n),(1,1,.int .i64 (k:Int))]) Q:=qAH (a:=cR (n,(k:Int))) rfl h
def CanI (s1:Hq) (R:List Rt) (x:Es):List AV→Hq→Nat→Prop:=λys t m=>
 ∃ (i:Nat) (w:AV),ys=[w,.int .i64 ((pA (qs Tryz.prog x (R.take i)):Nat):Int),.bool (pG (qs Tryz.prog x (R.take i))),.int .i64 (i:Int)]∧CL s1 t w (cds (qs Tryz.prog x (R.take i)))∧Sub s1 t∧i≤R.length∧m=R.length - i
theorem zADu (h:Rts s v R) (hG:GlK s) (hok:∀ r∈R,r.ok) (hl:R.length≤100) (hK:∀ v' s',Sub s s'→SlR 2 s' v' ((qI4 (cds (qs Tryz.prog x R))).map cR)→K (.tup [v',.int .i64 (fin3 (pG (qs Tryz.prog x R)) (pA (qs Tryz.prog x R)))]) s'):wC Tryz.prog XX 23 [v,.agg x.R] K s:=by
 refine qM5 ⟨rfl,qAL λeb s1 heb h1 u1=>?_⟩
 have sub1:=u1.sub heb
 have h:=h.sub sub1
 have hG:=hG.sub sub1
 simp only [h.len,qAA]
 refine ⟨CanI s1 R x,⟨_,0,_,rfl,⟨(λr h=>by cases h),.inl ⟨rfl,rfl⟩⟩,.refl _,by omega,rfl⟩,?_⟩
 rintro e t m ⟨i,w,hy,cl,st,hi,rfl⟩
 simp only [cI,and_true] at hy
 rw [hy.1,hy.2.1,hy.2.2.1,hy.2.2.2]
 clear hy
 generalize hq:qs Tryz.prog x (R.take i)=q at *
 have hql:q.length≤i:=by
  have:=qVK (R:=R.take i) (P:=Tryz.prog) (x:=x)
  rw [hq,List.length_take] at this
  omega
 have hcl:(cds q).length≤100:=by rw [qOy];omega
 simp only [qI3,qAP,qAA]
 refine qAG (λhlt=>?_) (λhge=>?_)
 rotate_left
 ·have:i=R.length:=by have:=oF hge;omega
  rw [this,List.take_length] at hq
  rw [hq] at hK
  refine zABQ cl st (by omega) λs2 l2 cl2 st2 e2 srt stb=>?_
  refine qT4 cl2 st2 (by omega) λv3 s3 h3 st3=>?_
  rw [zADH srt stb] at h3
  have fin:=hK v3
  unfold fin3 at fin
  cases hg:pG q with
  | false=>
    rw [hg] at fin
    simp only [qAb,Bool.not_false,qAK,qEE,qEF,qFv,qAO,qAA]
    have:=fin s3 (sub1.trans st3) h3
    rw [if_pos (.inl rfl)] at this
    exact this
  | true=>
    rw [hg] at fin
    have c1:decide (((pA q:Nat):Int) < 0)=false:=decide_eq_false (by omega)
    simp only [qAb,Bool.not_true,qAF,c1,qEE,qAI,qAA]
    refine qTO λv4 s4 sub4=>?_
    simp only [qBn,qEF,qAI,qAA]
    have:=fin s4 ((sub1.trans st3).trans sub4) (h3.sub sub4)
    refine qAG (λc=>?_) (λc=>?_)
    ·have c:=oT c
     rw [if_pos (.inr (.inr c))] at this
     exact this
    ·have c:=oF c
     rw [if_neg (by rintro (z | z | z);cases z;omega;exact c z)] at this
     exact this
 have hlt:i < R.length:=by have:=oT hlt;omega
 obtain ⟨r,hri⟩:∃ r,R[i]?=some r:=⟨_,gE hlt⟩
 have hrm:=List.mem_of_getElem? hri
 have step:=qYO (P:=Tryz.prog) (x:=x) hri
 rw [hq] at step
 obtain ⟨b,o,p,pq,m,e1,e2,_,e4⟩:=(h.sub st).get hri
 simp only [e1,e2,qAA]
 refine qAL λg s2 hg h2 u2=>?_
 refine qAU h2 rfl rfl e4.one λs3 h3 u3=>?_
 have sub3:Sub t s3:=λj e hj=>by
  have ne:=qCF hg hj
  rw [u3 j ne,u2 j ne];exact hj
 have r3:rdN s3 38 (.ptr g 0)=some (r.row p pq m):=qAY h3 rfl
 have r4:rdN s3 10 (.ptr eb 0)=some x.R:=qAY ((st.trans sub3) _ _ h1) rfl
 simp only [r3,r4,qAA]
 refine zAAB (e4.sub sub3) λs4 sub4=>?_
 have st4:=(st.trans sub3).trans sub4
 have sub34:=sub3.trans sub4
 have hg4:=sub4 _ _ h3
 have next:∀ t5 w5 q5,Sub s1 t5→CL s1 t5 w5 (cds q5)→q5=qs Tryz.prog x (R.take (i+1))→qEG XX w5 (.int .i64 ((pA q5:Nat):Int)) (.bool (pG q5)) (.int .i64 (i:Int)) (CanI s1 R x) (R.length - i) K t5:=λt5 w5 q5 z1 z2 z3=>by
  simp only [qEG,add1 (show i≤1000000 by omega),qAA]
  refine ⟨_,by omega,i+1,w5,by rw [z3],by rw [← z3];exact z2,z1,by omega,rfl⟩
 simp only [qAb,qAA]
 cases ha:abt Tryz.prog x r with
 | false=>
   rw [ha] at step
   simp only [Bool.not_false,qAK]
   refine next s4 w q st4 (cl.sub sub34) ?_
   rw [step];simp
 | true=>
   rw [ha,if_pos rfl] at step
   have r5:rd1 s4 (.ptr g 31)=some m:=by rw [qAJ hg4];rfl
   simp only [Bool.not_true,qAF,qAB,zA,Nat.reduceAdd,r5,qAA]
   refine zABI (e4.cm.sub sub34) (hG.sub st4) (hok r hrm).1 (by have:=(hok r hrm).2.2.2;omega) λs5 sub5=>?_
   have x0:∀ x y z:AV,qAd (.tup [x,y,z]) 0=some x:=λ_ _ _=>rfl
   have x1:∀ x y z:AV,qAd (.tup [x,y,z]) 1=some y:=λ_ _ _=>rfl
   have x2:∀ x y z:AV,qAd (.tup [x,y,z]) 2=some z:=λ_ _ _=>rfl
   have st5:=st4.trans sub5
   have sub35:=sub34.trans sub5
   have hg5:=sub5 _ _ hg4
   have cl5:=cl.sub sub35
   generalize elN r.cm=E at *
   obtain ⟨a,pr,fo⟩:=E
   simp only [x0,x1,x2,cl5.sl.len,List.length_map,qOy,qAa,qAW,Bool.false_bne,qAA]
   have j4:∀ t40 t43,qAV t40 t43 (.bool false)=some (.bool (pG (q ++ [(r.nx,a,pr,fo)])))→qD9 XX w (.int .i64 ((pA (q ++ [(r.nx,a,pr,fo)]):Nat):Int)) (.ptr g 0) (.int .i64 (pr:Int)) (.int .i64 (i:Int)) t40 t43 (CanI s1 R x) (R.length - i) K s5:=λt40 t43 hp=>by
    have r6:rd1 s5 (.ptr g 23)=some (.int .u32 r.nx):=by rw [qAJ hg5];rfl
    simp only [qD9,hp,qAB,zA,Nat.reduceAdd,r6,qAA]
    refine qT6 (qAH (qLQ (zs:=[(.int .u32 0),(.int .i64 0)]) (c:=cR (r.nx,(pr:Int))) rfl) ⟨rfl,qAL λd s6 hd h6 u6=>?_⟩)
    have sub6:=u6.sub hd
    refine (cl5.sub sub6).app (SlR.mk (rows:=[cR (r.nx,(pr:Int))]) (by intro r' hr;rw [List.mem_singleton] at hr;subst hr;rfl) (by simpa using h6) rfl (by simp)) (by simp) (by rw [List.length_map];simp only [List.length_singleton];omega) (st5.trans sub6) λv7 s7 a7 k7=>?_
    refine next s7 v7 _ k7 ?_ (by rw [step])
    have:(cds (q ++ [(r.nx,a,pr,fo)])).map cR=(cds q).map cR ++ [cR (r.nx,(pr:Int))]:=by rw [qYV,List.map_append];rfl
    show AccR 36 2 s1 s7 v7 _
    rw [this]
    exact a7
   have j2:∀ al:Nat,al=pA (q ++ [(r.nx,a,pr,fo)])→qCU XX w (.int .i64 (al:Int)) (.bool (pG q)) (.ptr g 0) (.int .i64 (a:Int)) (.int .i64 (pr:Int)) (.bool fo) (.int .i64 (i:Int)) (CanI s1 R x) (R.length - i) K s5:=λal hal=>by
    have hpg:=zAB6 (q:=q) (x:=(r.nx,a,pr,fo))
    subst hal
    cases hgq:pG q with
    | false=>
      simp only [qCU,qAF,qDK,qAI,qAA]
      exact j4 _ _ (by rw [hpg,hgq];rfl)
    | true=>
      cases fo with
      | false=>
        simp only [qCU,qAK,qAF,qDK,qAO,qAA]
        exact j4 _ _ (by rw [hpg,hgq];rfl)
      | true=>
        simp only [qCU,qAK,qDK,qAO,qAa,qAW,Bool.false_bne,qAA]
        refine j4 _ _ ?_
        rw [hpg,hgq]
        simp only [qAO,Bool.true_and]
        congr 2
        rw [Bool.eq_iff_iff]
        simp only [beq_iff_eq]
        omega
   have hpa:=zACO (q:=q) (x:=(r.nx,a,pr,fo))
   refine qAG (λhz=>?_) (λhz=>?_)
   ·have:q=[]:=List.eq_nil_of_length_eq_zero (by have:=eq_of_beq hz;omega)
    rw [if_pos this] at hpa
    exact j2 a hpa.symm
   ·have:q≠[]:=λe=>by rw [e] at hz;cases hz
    rw [if_neg this] at hpa
    exact j2 (pA q) hpa.symm
end Go.AM.SG
namespace Go.AM.SG
open Go Go.AM Go.Proofs
variable {K : AV → Hq → Prop} {s s' s0 t : Hq} {v w p q m p' q' m' : AV} {R : List Rt} {x : Es}
theorem zAAk {o:List Cd} {c:Cd}:(putL o c).length≤o.length+1:=by
 unfold putL
 split
 ·omega
 ·simp only [lAp,List.length_cons,List.length_take,List.length_drop];omega
theorem qTr {l:List Cd} {c:Cd}:qI4 (l ++ [c])=putL (qI4 l) c:=by simp [qI4,List.foldl_append]
theorem qML (l:List Cd):(qI4 l).length≤l.length:=by
 have key:∀ (l o:List Cd),(l.foldl putL o).length≤o.length+l.length:=by
  intro l
  induction l with
  | nil=>intro o;simp
  | cons c l ih=>
    intro o
    have h1:=ih (putL o c)
    have h2:=zAAk (o:=o) (c:=c)
    rw [List.foldl_cons,List.length_cons]
    omega
 have:=key l []
 simp only [List.length_nil,zA] at this
 exact this
def qZJ (s1:Hq) (R:List Rt) (x:Es):List AV→Hq→Nat→Prop:=λys t m=>
 ∃ (i:Nat) (w:AV),ys=[w,.int .i64 (rS (qs Tryz.prog x (R.take i))).1,.bool (rS (qs Tryz.prog x (R.take i))).2,.int .i64 (i:Int)]∧SlR 2 t w ((qI4 (cds (qs Tryz.prog x (R.take i)))).map cR)∧Sub s1 t∧i≤R.length∧m=R.length - i
theorem zABH (h:Rts s v R) (hok:∀ r∈R,r.ok) (hl:R.length≤100) (hK:∀ v' s',Sub s s'→SlR 2 s' v' ((qI4 (cds (qs Tryz.prog x R))).map cR)→K (.tup [v',.int .i64 (fin3 (rS (qs Tryz.prog x R)).2 (rS (qs Tryz.prog x R)).1)]) s'):wC Tryz.prog XX 61 [v,.agg x.R] K s:=by
 refine qFg ⟨rfl,qAL λeb s1 heb h1 u1=>?_⟩
 have sub1:=u1.sub heb
 have h:=h.sub sub1
 refine ⟨qZJ s1 R x,⟨_,0,_,rfl,⟨(λr h=>by cases h),.inl ⟨rfl,rfl⟩⟩,.refl _,by omega,rfl⟩,?_⟩
 rintro e t m ⟨i,w,hy,sl,st,hi,rfl⟩
 simp only [cI,and_true] at hy
 rw [hy.1,hy.2.1,hy.2.2.1,hy.2.2.2]
 clear hy
 generalize hq:qs Tryz.prog x (R.take i)=q at *
 have hql:q.length≤i:=by
  have:=qVK (R:=R.take i) (P:=Tryz.prog) (x:=x)
  rw [hq,List.length_take] at this
  omega
 have hpl:=qML (cds q)
 rw [qOy] at hpl
 simp only [qCz,(h.sub st).len,qAP,qAA]
 refine qAG (λhlt=>?_) (λhge=>?_)
 rotate_left
 ·have:i=R.length:=by have:=oF hge;omega
  rw [this,List.take_length] at hq
  rw [hq] at hK
  have fin:=hK w t (sub1.trans st) sl
  unfold fin3 at fin
  cases hg:(rS q).2 with
  | false=>
    rw [hg,if_pos (.inl rfl)] at fin
    simp only [qAb,Bool.not_false,qAK,qBL,qA1,qAO,qAA]
    exact fin
  | true=>
    rw [hg] at fin
    simp only [qAb,Bool.not_true,qAF,qBL,qAI,qAA]
    refine qAG (λc=>?_) (λc=>?_)
    ·rw [if_pos (.inr (.inl (oT c)))] at fin
     simp only [c,qA1,qAO,qAK,qAA]
     exact fin
    ·have c':=oF c
     simp only [c,qAg,qA1,qAI,qAA]
     refine qAG (λd=>?_) (λd=>?_)
     ·have d:=oT d
      rw [if_pos (.inr (.inr (by omega)))] at fin
      exact fin
     ·have d:=oF d
      rw [if_neg (by rintro (z | z | z);cases z;omega;omega)] at fin
      exact fin
 have hlt:i < R.length:=by have:=oT hlt;omega
 obtain ⟨r,hri⟩:∃ r,R[i]?=some r:=⟨_,gE hlt⟩
 have hrm:=List.mem_of_getElem? hri
 have step:=qYO (P:=Tryz.prog) (x:=x) hri
 rw [hq] at step
 obtain ⟨b,o,p,pq,m,e1,e2,_,e4⟩:=(h.sub st).get hri
 simp only [e1,e2,qAA]
 refine qAL λg s2 hg h2 u2=>?_
 refine qAU h2 rfl rfl e4.one λs3 h3 u3=>?_
 have sub3:Sub t s3:=λj e hj=>by
  have ne:=qCF hg hj
  rw [u3 j ne,u2 j ne];exact hj
 have st3:=st.trans sub3
 have r0:rd1 s3 (.ptr g 0)=some (.int .i64 r.kd):=by rw [qAJ h3];rfl
 have r3:rdN s3 10 (.ptr g 2)=some r.es.R:=by simp only [rdN,h3];rfl
 have r4:rdN s3 10 (.ptr eb 0)=some x.R:=qAY (st3 _ _ h1) rfl
 have next:∀ t5 w5 q5,Sub s1 t5→SlR 2 t5 w5 ((qI4 (cds q5)).map cR)→q5=qs Tryz.prog x (R.take (i+1))→qAu XX w5 (.int .i64 (rS q5).1) (.bool (rS q5).2) (.int .i64 (i:Int)) (qZJ s1 R x) (R.length - i) K t5:=λt5 w5 q5 z1 z2 z3=>by
  simp only [qAu,add1 (show i≤1000000 by omega),qAA]
  refine ⟨_,by omega,i+1,w5,by rw [z3],by rw [← z3];exact z2,z1,by omega,rfl⟩
 have j2:∀ t28 t33,qAV t28 (.bool true) t33=some (.bool (!abt Tryz.prog x r))→qBK XX w (.int .i64 (rS q).1) (.bool (rS q).2) (.int .i64 (i:Int)) (.ptr g 0) t28 t33 (qZJ s1 R x) (R.length - i) K s3:=λt28 t33 hp=>by
  simp only [qBK,hp,qAA]
  cases ha:abt Tryz.prog x r with
  | false=>
    rw [ha] at step
    simp only [Bool.not_false,qAK]
    refine next s3 w q st3 (sl.sub sub3) ?_
    rw [step];simp
  | true=>
    rw [ha,if_pos rfl] at step
    have r5:rd1 s3 (.ptr g 31)=some m:=by rw [qAJ h3];rfl
    simp only [Bool.not_true,qAF,qAB,zA,Nat.reduceAdd,r5,qAA]
    refine qZc (e4.cm.sub sub3) (hok r hrm).1 (by have:=(hok r hrm).2.2.2;omega) λs5 sub5=>?_
    have x0:∀ x y z:AV,qAd (.tup [x,y,z]) 0=some x:=λ_ _ _=>rfl
    have x1:∀ x y z:AV,qAd (.tup [x,y,z]) 1=some y:=λ_ _ _=>rfl
    have x2:∀ x y z:AV,qAd (.tup [x,y,z]) 2=some z:=λ_ _ _=>rfl
    have st5:=st3.trans sub5
    have hg5:=sub5 _ _ h3
    have sl5:=(sl.sub sub3).sub sub5
    generalize elN r.cm=E at *
    obtain ⟨a,pr,fo⟩:=E
    have r6:rd1 s5 (.ptr g 23)=some (.int .u32 r.nx):=by rw [qAJ hg5];rfl
    have hrs:=zACD (q:=q) (x:=(r.nx,a,pr,fo))
    have tail:∀ fl,fl=(rS (q ++ [(r.nx,a,pr,fo)])).2→wC Tryz.prog XX 92 [w,(.agg (cR (r.nx,(pr:Int))))] (λv_30 s_31=>qAu XX v_30 (.int .i64 (a:Int)) (.bool fl) (.int .i64 (i:Int)) (qZJ s1 R x) (R.length - i) K s_31) s5:=λfl hfl=>by
     refine zAE7 sl5 (qRh _).srt (by omega) λv6 s6 h6 sub6=>?_
     have:=next s6 v6 (q ++ [(r.nx,a,pr,fo)]) (st5.trans sub6) (by
      have:cds (q ++ [(r.nx,a,pr,fo)])=cds q ++ [(r.nx,(pr:Int))]:=qYV
      rw [this,qTr];exact h6) (by rw [step])
     rw [← hfl,hrs] at this
     exact this
    have j5:∀ fl,fl=(rS (q ++ [(r.nx,a,pr,fo)])).2→qBH XX w (.bool fl) (.int .i64 (i:Int)) (.ptr g 0) (.int .i64 (a:Int)) (.int .i64 (pr:Int)) (qZJ s1 R x) (R.length - i) K s5:=λfl hfl=>by
     simp only [qBH,qAB,zA,Nat.reduceAdd,r6,qAA]
     exact qT6 (tail fl hfl)
    simp only [x0,x1,x2,qAb,qAA]
    cases fo with
    | false=>
      simp only [Bool.not_false,qAK,qAO,qAA,qBz,qAB,zA,Nat.reduceAdd,r6]
      refine qT6 (tail false ?_)
      rw [hrs];simp
    | true=>
      simp only [Bool.not_true,qAF,qBn,qAA]
      refine qAG (λc=>?_) (λc=>?_)
      ·have c':=oT c
       simp only [qAa,qAW,Bool.true_bne,qBI,c,qAO,qAI,qAA]
       refine qAG (λd=>?_) (λd=>?_)
       ·refine j5 false ?_
        have d:(a:Int)≠(rS q).1:=by simpa using d
        rw [hrs]
        simp [c',d]
       ·refine j5 _ ?_
        have d:(a:Int)=(rS q).1:=by simpa using d
        rw [hrs]
        simp [d]
      ·have c':=oF c
       simp only [qBI,c,qAI,qAF,qAA]
       refine j5 _ ?_
       rw [hrs]
       simp [c']
 simp only [qAB,zA,r0,r3,r4,qAa,qAW,Bool.true_bne,zABy,qAA]
 unfold abt at j2
 cases hk:(r.kd == 4) with
 | false=>
   rw [hk] at j2
   simp only [Bool.not_false,qAK]
   exact j2 _ _ (by rw [Bool.false_and];rfl)
 | true=>
   rw [hk] at j2
   simp only [Bool.not_true,qAF]
   rw [Bool.true_and] at j2
   generalize eqE Tryz.prog r.es x=bb at j2 ⊢
   exact j2 _ _ qAI
end Go.AM.SG
namespace Go.AM.SG
open Go Go.AM Go.Proofs
variable {K : AV → Hq → Prop} {s s' s0 t : Hq} {v w : AV} {l l' : List Int} {db : Nat}
theorem UAt.first {A B:List Int} (h:UAt s db (A ++ B)):Sl s (.slc db 0 A.length none 1) (us A):=by
 refine .inr ⟨db,0,none,by rw [List.length_map],(λc h=>by cases h),λ_=>⟨false,33,_,h,by simp,λi hi=>?_⟩⟩
 have e:us (A ++ B)=us A ++ us B:=List.map_append
 rw [zA,e,List.getElem?_append_left hi]
end Go.AM.SG
namespace Go.AM.SG
open Go Go.AM Go.Proofs
inductive Leaf where
 | i (k:IntKind)
 | b
 | sl (d:Nat) (t:TypeId)
section
variable (P : Program)
def zABB (rec:TypeId→Nat→Option Leaf) (j:Nat):List Field→Option Leaf
 | []=>none
 | f :: fs=>cond (Nat.ble f.offset j&&Nat.blt (j - f.offset) (P.cellsOf f.type)) (rec f.type (j - f.offset)) (zABB rec j fs)
def qSu:Nat→TypeId→Nat→Option Leaf
 | 0,_,_=>none
 | d+1,t,j=>match P.underlying t with
   | some (.int k)=>cond (Nat.beq j 0) (some (.i k)) none
   | some .bool=>cond (Nat.beq j 0) (some .b) none
   | some (.slice _)=>cond (Nat.beq j 0) (some (.sl (d+1) t)) none
   | some (.struct fs)=>zABB P (qSu d) j fs.toList
   | some (.array n e)=>cond (Nat.blt (j / P.cellsOf e) n&&Nat.blt 0 (P.cellsOf e)) (qSu d e (j % P.cellsOf e)) none
   | _=>none
end
variable {P : Program} {s : Hq}
def zAGA (P:Program) (s:Hq):Leaf→AV→Prop
 | .i k,x=>∃ n,x=.int k n∧(Lit.int k n).wf=true
 | .b,x=>∃ b,x=.bool b
 | .sl d t,x=>Inp P s d t [x]
theorem qUs {xs:List AV} {o c j:Nat} {x:AV} (h:((xs.drop o).take c)[j]?=some x):xs[o+j]?=some x:=by
 rw [List.getElem?_take] at h
 split at h
 ·rw [List.getElem?_drop] at h;exact h
 ·cases h
theorem qNw:∀ (d:Nat) (t:TypeId) (xs:List AV) (j:Nat) (k:Leaf),Inp P s d t xs→qSu P d t j=some k→∃ x,xs[j]?=some x∧zAGA P s k x
 | 0,_,_,_,_,h,_=>h.elim
 | d+1,t,xs,j,k,h,hk=>by
   unfold qSu at hk
   unfold Inp at h
   split at hk
   ·rename_i k0 hu
    simp only [hu] at h
    cases e:Nat.beq j 0 with
    | false=>rw [e] at hk;cases hk
    | true=>
      rw [e] at hk
      cases hk
      obtain ⟨n,rfl,h2⟩:=h
      exact ⟨_,by rw [bE e];rfl,n,rfl,h2⟩
   ·rename_i hu
    simp only [hu] at h
    cases e:Nat.beq j 0 with
    | false=>rw [e] at hk;cases hk
    | true=>
      rw [e] at hk
      cases hk
      obtain ⟨b,rfl⟩:=h
      exact ⟨_,by rw [bE e];rfl,b,rfl⟩
   ·rename_i e0 hu
    cases e:Nat.beq j 0 with
    | false=>rw [e] at hk;cases hk
    | true=>
      rw [e] at hk
      cases hk
      have h':Inp P s (d+1) t xs:=by unfold Inp;exact h
      simp only [hu] at h
      rcases h with rfl | ⟨b,n,c,rfl,_⟩
      ·exact ⟨_,by rw [bE e];rfl,h'⟩
      ·exact ⟨_,by rw [bE e];rfl,h'⟩
   ·rename_i fs hu
    simp only [hu] at h
    have key:∀ l:List Field,(∀ f∈l,f∈fs.toList)→zABB P (qSu P d) j l=some k→∃ x,xs[j]?=some x∧zAGA P s k x:=by
     intro l
     induction l with
     | nil=>intro _ q;cases q
     | cons f l ih=>
       intro hm q
       unfold zABB at q
       cases e:(Nat.ble f.offset j&&Nat.blt (j - f.offset) (P.cellsOf f.type)) with
       | false=>rw [e] at q;exact ih (λg hg=>hm g (List.mem_cons_of_mem _ hg)) q
       | true=>
         rw [e] at q
         simp only [Bool.and_eq_true] at e
         obtain ⟨x,h1,h2⟩:=qNw d f.type _ (j - f.offset) k (h.2 f (hm f List.mem_cons_self)) q
         refine ⟨x,?_,h2⟩
         have:=qUs h1
         rw [Nat.add_sub_cancel' (Nat.le_of_ble_eq_true e.1)] at this
         exact this
    exact key _ (λf hf=>hf) hk
   ·rename_i n e0 hu
    simp only [hu] at h
    cases e:(Nat.blt (j / P.cellsOf e0) n&&Nat.blt 0 (P.cellsOf e0)) with
    | false=>rw [e] at hk;cases hk
    | true=>
      rw [e] at hk
      simp only [Bool.and_eq_true,Nat.blt_eq] at e
      obtain ⟨x,h1,h2⟩:=qNw d e0 _ (j % P.cellsOf e0) k (h.2 (j / P.cellsOf e0) e.1) hk
      refine ⟨x,?_,h2⟩
      have:=qUs h1
      rw [Nat.mul_comm,Nat.div_add_mod] at this
      exact this
   ·cases hk
theorem qAi {d:Nat} {t:TypeId} {xs:List AV} {j:Nat} {k:IntKind} (h:Inp P s d t xs) (hk:qSu P d t j=some (.i k)):∃ n,xs[j]?=some (.int k n)∧(Lit.int k n).wf=true:=by
 obtain ⟨x,h1,n,rfl,h2⟩:=qNw d t xs j _ h hk
 exact ⟨n,h1,h2⟩
theorem qNx {d:Nat} {t:TypeId} {xs:List AV} {j:Nat} (h:Inp P s d t xs) (hk:qSu P d t j=some .b):∃ b,xs[j]?=some (.bool b):=by
 obtain ⟨x,h1,n,rfl⟩:=qNw d t xs j _ h hk
 exact ⟨n,h1⟩
theorem qJl {d d':Nat} {t t':TypeId} {xs:List AV} {j:Nat} (h:Inp P s d t xs) (hk:qSu P d t j=some (.sl d' t')):∃ x,xs[j]?=some x∧Inp P s d' t' [x]:=qNw d t xs j _ h hk
theorem qHj {xs ys:List AV} (hl:xs.length=ys.length) (h:∀ j,j < ys.length→xs[j]?=ys[j]?):xs=ys:=by
 refine List.ext_getElem? λj=>?_
 by_cases q:j < ys.length
 ·exact h j q
 ·rw [List.getElem?_eq_none (by omega),List.getElem?_eq_none (by omega)]
end Go.AM.SG
namespace Go.AM.SG
open Go Go.AM Go.Proofs
variable {s : Hq} {d : Nat} {v : AV}
theorem wf8 {n:Int} (h:(Lit.int .u8 n).wf=true):∃ m:Nat,n=(m:Int)∧m < 256:=by
 have:0≤n∧n≤255:=by
  unfold Lit.wf at h
  simpa [IntKind.min,IntKind.max,IntKind.bits,IntKind.signed] using h
 exact ⟨n.toNat,by omega,by omega⟩
theorem wf32 {n:Int} (h:(Lit.int .u32 n).wf=true):0≤n∧n < 4294967296:=by
 have:0≤n∧n≤4294967295:=by
  unfold Lit.wf at h
  simpa [IntKind.min,IntKind.max,IntKind.bits,IntKind.signed] using h
 omega
set_option maxRecDepth 100000
theorem qRE:Tryz.prog.cellsOf 104=8:=by kernel_rfl
theorem qUF:Tryz.prog.cellsOf 51=38:=by kernel_rfl
theorem zAF3 {xs:List AV} (h:Inp Tryz.prog s 36 104 xs):∃ c:Cm,xs=cmR c∧c.ok:=by
 have hl:=qHg (by kernel_rfl:qBk Tryz.prog 104=some true) h
 rw [qRE] at hl
 obtain ⟨n0,h0,w0⟩:=qAi (j:=0) (k:=.u8) h (by kernel_rfl)
 obtain ⟨m0,rfl,z0⟩:=wf8 w0
 obtain ⟨n1,h1,w1⟩:=qAi (j:=1) (k:=.u8) h (by kernel_rfl)
 obtain ⟨m1,rfl,z1⟩:=wf8 w1
 obtain ⟨n2,h2,w2⟩:=qAi (j:=2) (k:=.u8) h (by kernel_rfl)
 obtain ⟨m2,rfl,z2⟩:=wf8 w2
 obtain ⟨n3,h3,w3⟩:=qAi (j:=3) (k:=.u8) h (by kernel_rfl)
 obtain ⟨m3,rfl,z3⟩:=wf8 w3
 obtain ⟨n4,h4,w4⟩:=qAi (j:=4) (k:=.u8) h (by kernel_rfl)
 obtain ⟨m4,rfl,z4⟩:=wf8 w4
 obtain ⟨n5,h5,w5⟩:=qAi (j:=5) (k:=.u8) h (by kernel_rfl)
 obtain ⟨m5,rfl,z5⟩:=wf8 w5
 obtain ⟨n6,h6,w6⟩:=qAi (j:=6) (k:=.u8) h (by kernel_rfl)
 obtain ⟨m6,rfl,z6⟩:=wf8 w6
 obtain ⟨n7,h7,w7⟩:=qAi (j:=7) (k:=.u8) h (by kernel_rfl)
 obtain ⟨m7,rfl,z7⟩:=wf8 w7
 refine ⟨⟨m0,m1,m2,m3,m4,m5,m6,m7⟩,qHj hl λj hj=>?_,z0,z1,z2,z3,z4,z5,z6,z7⟩
 match j,hj with
 | 0,_=>exact h0
 | 1,_=>exact h1
 | 2,_=>exact h2
 | 3,_=>exact h3
 | 4,_=>exact h4
 | 5,_=>exact h5
 | 6,_=>exact h6
 | 7,_=>exact h7
theorem qD6 {t e:TypeId} {x:AV} (hu:Tryz.prog.underlying t=some (.slice e)) (h:Inp Tryz.prog s (d+1) t [x]):Arg Tryz.prog s (d+1) t x:=by
 have hx:x.cells=[x]:=by
  have h':=h
  unfold Inp at h'
  simp only [hu] at h'
  rcases h' with h' | ⟨b,n,c,h',_⟩
  ·cases h';rfl
  ·cases h';rfl
 have hn:qBk Tryz.prog t≠some true:=by unfold qBk;rw [hu];simp
 exact ⟨by rw [hx];exact h,λw=>absurd w hn,λ_=>hx⟩
theorem zAEu {xs:List AV} (h:Inp Tryz.prog s 39 51 xs):∃ a:Rt × AV × AV × AV,xs=a.1.row a.2.1 a.2.2.1 a.2.2.2∧RtAt s a.1 a.2.1 a.2.2.1 a.2.2.2∧(∀ c∈a.1.cm,c.ok)∧0≤a.1.nx∧a.1.nx < 4294967296:=by
 have hl:=qHg (by kernel_rfl:qBk Tryz.prog 51=some true) h
 rw [qUF] at hl
 obtain ⟨n0,h0,_⟩:=qAi (j:=0) (k:=.i64) h (by kernel_rfl)
 obtain ⟨n1,h1,_⟩:=qAi (j:=1) (k:=.u64) h (by kernel_rfl)
 obtain ⟨n2,h2,_⟩:=qAi (j:=2) (k:=.u8) h (by kernel_rfl)
 obtain ⟨n3,h3,_⟩:=qAi (j:=3) (k:=.u8) h (by kernel_rfl)
 obtain ⟨n4,h4,_⟩:=qAi (j:=4) (k:=.u8) h (by kernel_rfl)
 obtain ⟨n5,h5,_⟩:=qAi (j:=5) (k:=.u8) h (by kernel_rfl)
 obtain ⟨n6,h6,_⟩:=qAi (j:=6) (k:=.u8) h (by kernel_rfl)
 obtain ⟨n7,h7,_⟩:=qAi (j:=7) (k:=.u8) h (by kernel_rfl)
 obtain ⟨n8,h8,_⟩:=qAi (j:=8) (k:=.u8) h (by kernel_rfl)
 obtain ⟨n9,h9,_⟩:=qAi (j:=9) (k:=.u8) h (by kernel_rfl)
 obtain ⟨n10,h10,_⟩:=qAi (j:=10) (k:=.u8) h (by kernel_rfl)
 obtain ⟨n11,h11,_⟩:=qAi (j:=11) (k:=.u8) h (by kernel_rfl)
 obtain ⟨n12,h12,_⟩:=qAi (j:=12) (k:=.u32) h (by kernel_rfl)
 obtain ⟨n13,h13,_⟩:=qAi (j:=13) (k:=.u64) h (by kernel_rfl)
 obtain ⟨n14,h14,_⟩:=qAi (j:=14) (k:=.u32) h (by kernel_rfl)
 obtain ⟨n15,h15⟩:=qNx (j:=15) h (by kernel_rfl)
 obtain ⟨n16,h16,_⟩:=qAi (j:=16) (k:=.u32) h (by kernel_rfl)
 obtain ⟨n17,h17,_⟩:=qAi (j:=17) (k:=.i64) h (by kernel_rfl)
 obtain ⟨n18,h18,_⟩:=qAi (j:=18) (k:=.u32) h (by kernel_rfl)
 obtain ⟨n19,h19,_⟩:=qAi (j:=19) (k:=.u32) h (by kernel_rfl)
 obtain ⟨n20,h20,_⟩:=qAi (j:=20) (k:=.u32) h (by kernel_rfl)
 obtain ⟨n21,h21,_⟩:=qAi (j:=21) (k:=.i64) h (by kernel_rfl)
 obtain ⟨n22,h22,w22⟩:=qJl (j:=22) (d':=37) (t':=44) h (by kernel_rfl)
 obtain ⟨n23,h23,w23⟩:=qAi (j:=23) (k:=.u32) h (by kernel_rfl)
 obtain ⟨n24,h24⟩:=qNx (j:=24) h (by kernel_rfl)
 obtain ⟨n25,h25,_⟩:=qAi (j:=25) (k:=.u32) h (by kernel_rfl)
 obtain ⟨n26,h26⟩:=qNx (j:=26) h (by kernel_rfl)
 obtain ⟨n27,h27,_⟩:=qAi (j:=27) (k:=.u32) h (by kernel_rfl)
 obtain ⟨n28,h28⟩:=qNx (j:=28) h (by kernel_rfl)
 obtain ⟨n29,h29,_⟩:=qAi (j:=29) (k:=.u32) h (by kernel_rfl)
 obtain ⟨n30,h30,w30⟩:=qJl (j:=30) (d':=37) (t':=22) h (by kernel_rfl)
 obtain ⟨n31,h31,w31⟩:=qJl (j:=31) (d':=37) (t':=45) h (by kernel_rfl)
 obtain ⟨n32,h32,_⟩:=qAi (j:=32) (k:=.i64) h (by kernel_rfl)
 obtain ⟨n33,h33,_⟩:=qAi (j:=33) (k:=.u32) h (by kernel_rfl)
 obtain ⟨n34,h34,_⟩:=qAi (j:=34) (k:=.u32) h (by kernel_rfl)
 obtain ⟨n35,h35,_⟩:=qAi (j:=35) (k:=.u32) h (by kernel_rfl)
 obtain ⟨n36,h36,_⟩:=qAi (j:=36) (k:=.u32) h (by kernel_rfl)
 obtain ⟨n37,h37⟩:=qNx (j:=37) h (by kernel_rfl)
 obtain ⟨lp,hp,_⟩:=qNp (d:=36) Tryz.underlying44 (by kernel_rfl) (AV.int .u32) (λ_=>True) (λxs h=>by obtain ⟨n,e,_⟩:=qTf Tryz.underlying32 h;exact ⟨n,e,trivial⟩) (qD6 Tryz.underlying44 w22)
 obtain ⟨lq,hq,_⟩:=qNp (d:=36) Tryz.underlying22 (by kernel_rfl) (AV.int .u32) (λ_=>True) (λxs h=>by obtain ⟨n,e,_⟩:=qTf Tryz.underlying33 h;exact ⟨n,e,trivial⟩) (qD6 Tryz.underlying22 w30)
 obtain ⟨lm,hm,hmo,_⟩:=argR (d:=36) Tryz.underlying45 cmR Cm.ok (λa=>by rw [qRE];rfl) (λxs h=>zAF3 h) (qD6 Tryz.underlying45 w31)
 rw [qRE] at hm
 refine ⟨(⟨n0,n1,⟨n2,n3,n4,n5,n6,n7,n8,n9,n10,n11⟩,n12,n13,n14,n15,n16,n17,n18,n19,n20,n21,n23,n24,n25,n26,n27,n28,n29,n32,n33,n34,n35,n36,n37,lp,lq,lm⟩,n22,n30,n31),qHj hl λj hj=>?_,⟨hp,hq,hm⟩,hmo,wf32 w23⟩
 match j,hj with
 | 0,_=>exact h0
 | 1,_=>exact h1
 | 2,_=>exact h2
 | 3,_=>exact h3
 | 4,_=>exact h4
 | 5,_=>exact h5
 | 6,_=>exact h6
 | 7,_=>exact h7
 | 8,_=>exact h8
 | 9,_=>exact h9
 | 10,_=>exact h10
 | 11,_=>exact h11
 | 12,_=>exact h12
 | 13,_=>exact h13
 | 14,_=>exact h14
 | 15,_=>exact h15
 | 16,_=>exact h16
 | 17,_=>exact h17
 | 18,_=>exact h18
 | 19,_=>exact h19
 | 20,_=>exact h20
 | 21,_=>exact h21
 | 22,_=>exact h22
 | 23,_=>exact h23
 | 24,_=>exact h24
 | 25,_=>exact h25
 | 26,_=>exact h26
 | 27,_=>exact h27
 | 28,_=>exact h28
 | 29,_=>exact h29
 | 30,_=>exact h30
 | 31,_=>exact h31
 | 32,_=>exact h32
 | 33,_=>exact h33
 | 34,_=>exact h34
 | 35,_=>exact h35
 | 36,_=>exact h36
 | 37,_=>exact h37
 | j+38,q=>exact absurd q (by show ¬ j+38 < 38;omega)
theorem zAEC (h:Arg Tryz.prog s 40 24 v):∃ R:List Rt,Rts s v R∧(∀ r∈R,(∀ c∈r.cm,c.ok)∧0≤r.nx∧r.nx < 4294967296)∧R.length≤maxLen:=by
 obtain ⟨l,h1,h2,h3⟩:=argR (d:=39) Tryz.underlying24 (λa:Rt × AV × AV × AV=>a.1.row a.2.1 a.2.2.1 a.2.2.2) (λa=>RtAt s a.1 a.2.1 a.2.2.1 a.2.2.2∧(∀ c∈a.1.cm,c.ok)∧0≤a.1.nx∧a.1.nx < 4294967296) (λa=>by rw [qUF];rfl) (λxs h=>zAEu h) h
 rw [qUF] at h1
 refine ⟨l.map (·.1),⟨_,h1,by simp,λi r hi=>?_⟩,λr hr=>?_,by simpa using h3⟩
 ·rw [List.getElem?_map] at hi
  cases e:l[i]? with
  | none=>rw [e] at hi;cases hi
  | some a=>
    rw [e] at hi
    cases hi
    exact ⟨a.2.1,a.2.2.1,a.2.2.2,by rw [List.getElem?_map,e];rfl,(h2 a (List.mem_of_getElem? e)).1⟩
 ·obtain ⟨a,ha,rfl⟩:=List.mem_map.1 hr
  exact (h2 a ha).2
end Go.AM.SG
namespace Go.AM.SG
open Go Go.AM Go.Proofs
variable {K : AV → Hq → Prop} {s s' s0 t : Hq} {v w p q m : AV} {R : List Rt} {x : Es}
end Go.AM.SG
namespace Go.AM.EL
open Go Go.Proofs
variable {K : AV → Hq → Prop} {s : Hq}
theorem qK7 {k:IntKind}:∀ l:List Int,qAj (l.map (AV.int k))=true
 | []=>rfl
 | _ :: l=>by rw [List.map_cons,qLA,qK7 l];rfl
def xorU (x y:Int):Int:=qAx .u64 ((BitVec.ofInt (IntKind.bits .u64) x ^^^ BitVec.ofInt (IntKind.bits .u64) y).toNat:Nat)
theorem qNj {x y:Int}:qAC .xor (.int .u64 x) (.int .u64 y)=some (.int .u64 (xorU x y)):=by simp [qAC,arith,qBX,xorU]
def qMV (h b:Int):Int:=IntKind.u64.wrap (xorU h (qAx .u64 b) * 1099511628211)
def fnv:Int→List Int→Int
 | h,[]=>h
 | h,b :: r=>fnv (qMV h b) r
theorem qVV (h b:Int) (r:List Int):fnv h (b :: r)=fnv (qMV h b) r:=rfl
theorem wu8 (n:Int):qAx .u8 n=n % 256:=by
 simp only [qAx];rw [qEC _ _ _ (by omega) (by omega)];split <;> omega
theorem wu32 (n:Int):qAx .u32 n=n % 4294967296:=by
 simp only [qAx];rw [qEC _ _ _ (by omega) (by omega)];split <;> omega
theorem wu64 (n:Int):qAx .u64 n=n % 18446744073709551616:=by
 simp only [qAx];rw [qEC _ _ _ (by omega) (by omega)];split <;> omega
def b4 (n:Int):List Int:=[qAx .u8 (n.fdiv 16777216),qAx .u8 (n.fdiv 65536),qAx .u8 (n.fdiv 256),qAx .u8 n]
theorem zAEO (n:Int):b4 (qAx .u32 n)=b4 (qAx .u64 n):=by
 unfold b4
 simp only [wu8,wu32,wu64]
 rw [Int.fdiv_eq_ediv_of_nonneg _ (by omega),Int.fdiv_eq_ediv_of_nonneg _ (by omega),Int.fdiv_eq_ediv_of_nonneg _ (by omega),Int.fdiv_eq_ediv_of_nonneg _ (by omega),Int.fdiv_eq_ediv_of_nonneg _ (by omega),Int.fdiv_eq_ediv_of_nonneg _ (by omega)]
 simp only [cI,and_true]
 refine ⟨?_,?_,?_,?_⟩ <;> omega
theorem zAGh {n:Int} (h:0≤n∧n < 4294967296):b4 (qAx .u64 n)=b4 n:=by
 rw [wu64,show n % 18446744073709551616=n by omega]
def wt (ip bd:Int):Int:=fnv 14695981039346656037 (b4 ip ++ b4 (qAx .u32 bd))
theorem zABb {m:Int}:qBb .shr (.int .u32 m) (.int .u64 24)=some (.int .u32 (m.fdiv 16777216)):=by
 show frc (m.fdiv ((2 ^ (min 24 (IntKind.bits .u32)):Nat):Int)) (λn=>some (AV.int .u32 n))=_
 rw [qBX];rfl
theorem zAAQ {m:Int}:qBb .shr (.int .u32 m) (.int .u64 16)=some (.int .u32 (m.fdiv 65536)):=by
 show frc (m.fdiv ((2 ^ (min 16 (IntKind.bits .u32)):Nat):Int)) (λn=>some (AV.int .u32 n))=_
 rw [qBX];rfl
theorem zADG {m:Int}:qBb .shr (.int .u32 m) (.int .u64 8)=some (.int .u32 (m.fdiv 256)):=by
 show frc (m.fdiv ((2 ^ (min 8 (IntKind.bits .u32)):Nat):Int)) (λn=>some (AV.int .u32 n))=_
 rw [qBX];rfl
theorem zABJ {m:Int}:qBb .shr (.int .u64 m) (.int .u64 24)=some (.int .u64 (m.fdiv 16777216)):=by
 show frc (m.fdiv ((2 ^ (min 24 (IntKind.bits .u64)):Nat):Int)) (λn=>some (AV.int .u64 n))=_
 rw [qBX];rfl
theorem zABk {m:Int}:qBb .shr (.int .u64 m) (.int .u64 16)=some (.int .u64 (m.fdiv 65536)):=by
 show frc (m.fdiv ((2 ^ (min 16 (IntKind.bits .u64)):Nat):Int)) (λn=>some (AV.int .u64 n))=_
 rw [qBX];rfl
theorem zAC3 {m:Int}:qBb .shr (.int .u64 m) (.int .u64 8)=some (.int .u64 (m.fdiv 256)):=by
 show frc (m.fdiv ((2 ^ (min 8 (IntKind.bits .u64)):Nat):Int)) (λn=>some (AV.int .u64 n))=_
 rw [qBX];rfl
theorem qNP {k k':IntKind} {n:Int}:qBx k (.int k' n)=some (.int k (qAx k n)):=rfl
theorem zAE3 {cs:List AV} {k:Nat} (hk:k < 8):qMk 8 1 none (.agg cs) (.int .i64 (k:Int))=cs[k]?:=by
 have:Nat.blt k 8=true:=by rw [Nat.blt_eq];exact hk
 simp [qMk,qY6,this]
theorem zAGJ {x0 x1 x2 x3 x4 x5 x6 x7:Int}:qBi [.int .u8 0,.int .u8 0,.int .u8 0,.int .u8 0,.int .u8 0,.int .u8 0,.int .u8 0,.int .u8 0] [(0,1,.int .u8 x0),(1,1,.int .u8 x1),(2,1,.int .u8 x2),(3,1,.int .u8 x3),(4,1,.int .u8 x4),(5,1,.int .u8 x5),(6,1,.int .u8 x6),(7,1,.int .u8 x7)]=some [.int .u8 x0,.int .u8 x1,.int .u8 x2,.int .u8 x3,.int .u8 x4,.int .u8 x5,.int .u8 x6,.int .u8 x7]:=by kernel_rfl
theorem fill8' {x0 x1 x2 x3 x4 x5 x6 x7:Int}:qBi (repl 8 [.int .u8 0]) [(0,1,.int .u8 x0),(1,1,.int .u8 x1),(2,1,.int .u8 x2),(3,1,.int .u8 x3),(4,1,.int .u8 x4),(5,1,.int .u8 x5),(6,1,.int .u8 x6),(7,1,.int .u8 x7)]=some [.int .u8 x0,.int .u8 x1,.int .u8 x2,.int .u8 x3,.int .u8 x4,.int .u8 x5,.int .u8 x6,.int .u8 x7]:=by kernel_rfl
theorem zACH (a b:Int):(b4 a ++ b4 b).map (AV.int .u8)=[.int .u8 (qAx .u8 (a.fdiv 16777216)),.int .u8 (qAx .u8 (a.fdiv 65536)),.int .u8 (qAx .u8 (a.fdiv 256)),.int .u8 (qAx .u8 a),.int .u8 (qAx .u8 (b.fdiv 16777216)),.int .u8 (qAx .u8 (b.fdiv 65536)),.int .u8 (qAx .u8 (b.fdiv 256)),.int .u8 (qAx .u8 b)]:=rfl
theorem zADC {bs:List Int} (h8:bs.length=8) (hK:∀ s',Sub s s'→K (.int .u64 (fnv 14695981039346656037 bs)) s'):wC Tryz.prog XX 118 [.agg (bs.map (AV.int .u8))] K s:=by
 refine qL2 ⟨qK7 bs,qAL λb s1 hb h1 u1=>?_⟩
 refine qAH (a:=bs.map (AV.int .u8)) (qAY h1 (by simp [h8])) ?_
 refine ⟨λys s2 n=>∃ (h:Int) (k:Nat),ys=[.int .u64 h,.int .i64 k]∧s2=s1∧k≤8∧n=8 - k∧fnv 14695981039346656037 bs=fnv h (bs.drop k),⟨_,_,0,rfl,rfl,by omega,rfl,by simp⟩,?_⟩
 rintro f s2 n ⟨h,k,hy,rfl,hk,rfl,he⟩
 simp only [cI,and_true] at hy
 rw [hy.1,hy.2]
 simp only [qIA,qAP,qAA]
 refine qAG (λhlt=>?_) (λhge=>?_)
 ·have hlt:k < 8:=by have:=oT hlt;omega
  have hk2:k < bs.length:=by omega
  rw [List.drop_eq_getElem_cons hk2,qVV] at he
  simp only [zAE3 hlt,List.getElem?_map,gE hk2,Option.map_some,qAA,qNP,qNj,qJZ,qAT]
  rw [qAX (by omega) (by omega)]
  exact ⟨_,by omega,qMV h bs[k],k+1,by simp [qMV],by trivial,by omega,rfl,he⟩
 ·have hge:8≤k:=by have:=oF hge;omega
  rw [List.drop_eq_nil_of_le (by omega)] at he
  have:=hK _ (u1.sub hb)
  rw [he] at this
  exact this
theorem qYX {ip bd:Int} (hK:∀ s',Sub s s'→K (.int .u64 (wt ip bd)) s'):wC Tryz.prog XX 80 [.int .u32 ip,.int .i64 bd] K s:=by
 refine qS7 ?_
 simp only [qSt,qNP,zABb,zAAQ,zADG,qAA,zAGJ]
 rw [← zACH]
 exact zADC rfl hK
theorem qPe {ip bd:Int} (hip:0≤ip∧ip < 4294967296) (hK:∀ s',Sub s s'→K (.int .u64 (wt ip bd)) s'):wC Tryz.prog XX 93 [.int .u32 ip,.int .i64 bd] K s:=by
 refine qG6 ?_
 simp only [qEt,qNP,zABJ,zABk,zAC3,qAA,fill8']
 rw [← zACH]
 have hb:b4 (qAx .u64 ip) ++ b4 (qAx .u64 bd)=b4 ip ++ b4 (qAx .u32 bd):=by rw [zAGh hip,zAEO]
 refine ⟨qK7 _,qAL λb s1 hb1 h1 u1=>?_⟩
 rw [hb] at h1
 have hK':=hK _ (u1.sub hb1)
 unfold wt at hK'
 have h8:(b4 ip ++ b4 (qAx .u32 bd)).length=8:=rfl
 revert h1 hK' h8
 generalize b4 ip ++ b4 (qAx .u32 bd)=bs
 intro h1 hK' h8
 have hs:Sl s1 (.slc b 0 8 (some 8) 1) (bs.map (AV.int .u8)):=Sl.mk h1 (by simp [h8]) (by simp [h8])
 refine ⟨λys s2 n=>∃ (h:Int) (k:Nat),ys=[.int .u64 h,.int .i64 k]∧s2=s1∧k≤8∧n=8 - k∧fnv 14695981039346656037 bs=fnv h (bs.drop k),⟨_,_,0,rfl,rfl,by omega,rfl,by simp⟩,?_⟩
 rintro f s2 n ⟨h,k,hy,rfl,hk,rfl,he⟩
 simp only [cI,and_true] at hy
 rw [hy.1,hy.2]
 simp only [qDn,qXC,qAP,qAA]
 refine qAG (λhlt=>?_) (λhge=>?_)
 ·have hlt:k < 8:=by
   have:=oT hlt
   omega
  have hk2:k < bs.length:=by omega
  rw [List.drop_eq_getElem_cons hk2,qVV] at he
  obtain ⟨p,g1,g2⟩:=hs.get (i:=k) (by simpa using hk2)
  simp only [g1,g2,List.getElem?_map,gE hk2,Option.map_some,qAA,qNP,qNj,qJZ,qAT]
  rw [qAX (by omega) (by omega)]
  exact ⟨_,by omega,qMV h bs[k],k+1,by simp [qMV],by trivial,by omega,rfl,he⟩
 ·have hge:8≤k:=by
   have:=oF hge
   omega
  rw [List.drop_eq_nil_of_le (by omega)] at he
  rw [he] at hK'
  exact hK'
end Go.AM.EL
namespace Go.AM.EL
open Go Go.Proofs
variable {K : AV → Hq → Prop} {s : Hq}
abbrev Cand:=Int × Int
def qK3 (c:Cand):List AV:=[.int .u32 c.1,.int .i64 c.2]
abbrev SlC (s:Hq) (v:AV) (l:List Cand):Prop:=SlR 2 s v (l.map qK3)
theorem _root_.Go.AM.Sub.upto {s s' s'':Hq} {b:Nat} (h:Sub s s') (u:Upto b s' s'') (hb:s b=none):Sub s s'':=λi e hi=>by rw [u i (qCF hb hi)];exact h i e hi
theorem qHq {v:AV} {l:List Cand} (h:SlC s v l) {k:Nat} (hk:k < l.length):∃ b o,qAS 2 v (.int .i64 (k:Int))=some (.ptr b o)∧rdN s 2 (.ptr b o)=some (qK3 l[k])∧rd1 s (.ptr b (o+0))=some (.int .u32 l[k].1)∧rd1 s (.ptr b (o+1))=some (.int .i64 l[k].2):=by
 obtain ⟨b,o,h1,h2,h3⟩:=h.get (i:=k) (r:=qK3 l[k]) (by simp [hk])
 exact ⟨b,o,h1,h2,h3 0 (by omega),h3 1 (by omega)⟩
def grt (key:Cand→Int):Cand→List Cand→Cand
 | b,[]=>b
 | b,x :: r=>if key b < key x then grt key x r else grt key b r
theorem qNO (key:Cand→Int) (b x:Cand) (r:List Cand):grt key b (x :: r)=if key b < key x then grt key x r else grt key b r:=rfl
def Held (o:Option (Nat × List AV)) (s:Hq):Prop:=∀ q cs,o=some (q,cs)→∃ t e,s q=some (t,.cells e cs)
theorem Held.sub {o:Option (Nat × List AV)} {s s':Hq} (h:Held o s) (hs:Sub s s'):Held o s':=λq cs e=>by
 obtain ⟨t,e,h1⟩:=h q cs e
 exact ⟨t,e,hs _ _ h1⟩
theorem Held.frz {o:Option (Nat × List AV)} {s:Hq} (h:Held o s):Held o (AM.frz s):=λq cs e=>by
 obtain ⟨t,e,h1⟩:=h q cs e
 exact ⟨true,e,qJ8 h1⟩
theorem qV5 {key:Cand→Int} {kv:AV} {o:Option (Nat × List AV)} {v:AV} {c:Cand} {l:List Cand} (h:SlC s v (c :: l)) (hl:l.length≤1000) (ho:Held o s)
  (hkey:∀ (x:Cand) (s':Hq) (K:AV→Hq→Prop),Held o s'→(∀ s'',Sub s' s''→K (.int .u64 (key x)) s'')→funK Tryz.prog XX kv [.agg (qK3 x)] K s')
  (hK:∀ s',Sub s s'→K (.agg (qK3 (grt key c l))) s'):wC Tryz.prog XX 78 [v,kv] K s:=by
 refine qD2 (qAL λb0 s1 hb0 h1 u1=>?_)
 have sub1:=u1.sub hb0
 obtain ⟨pb,po,g1,g2,_,_⟩:=qHq (h.sub sub1) (k:=0) (by simp)
 have g1:qAS 2 v (.int .i64 0)=some (.ptr pb po):=g1
 simp only [g1,g2,qAA]
 refine hkey c _ _ ((ho.sub sub1).frz) λs2 sub2 _=>?_
 refine newM (l:=[(s1,add s1 s2)]) λb8 s3 hb8 h8 u8=>?_
 refine qAU h8 rfl rfl rfl λs4 h4 u4=>?_
 obtain ⟨v',d1,d2,_⟩:=h.drop (k:=1) (by simp) (by simp)
 have d1:qCA 2 v (some (.int .i64 1)) none none=some v':=d1
 have d2:SlC s v' l:=d2
 simp only [d1,qAA,d2.len,List.length_map]
 have subA:Sub s (add s1 s2):=sub1.trans qDQ
 have hb8s:s b8=none:=by
  cases e:s b8 with
  | none=>rfl
  | some x=>rw [subA b8 x e] at hb8;cases hb8
 have sub4:Sub s s4:=(subA.trans qDQ).upto u4 hb8s
 have hne:b0≠b8:=by
  rintro rfl
  rw [show add s1 s2 b0=_ from qBj h1] at hb8;cases hb8
 have h04:s4 b0=some (false,.cells 36 [.int .u32 0,.int .i64 0]):=by
  rw [u4 b0 hne];exact qDQ b0 _ (qBj h1)
 refine ⟨λys s5 n=>∃ (b:Cand) (k:Nat),ys=[.int .u64 (key b),.int .i64 k]∧k≤l.length∧n=l.length - k∧grt key c l=grt key b (l.drop k)∧s5 b8=some (false,.cells 36 (qK3 b))∧(∃ cs,cs.length=2∧s5 b0=some (false,.cells 36 cs))∧Sub s s5,⟨_,c,0,rfl,by omega,rfl,by simp,h4,⟨_,rfl,h04⟩,sub4⟩,?_⟩
 rintro f s5 n ⟨b,k,hy,hk,rfl,he,h85,⟨cs,hcs,h05⟩,sub5⟩
 simp only [cI,and_true] at hy
 rw [hy.1,hy.2]
 simp only [qCC,qAP,qAA]
 refine qAG (λhlt=>?_) (λhge=>?_)
 ·have hlt:k < l.length:=by have:=oT hlt;omega
  rw [List.drop_eq_getElem_cons hlt,qNO] at he
  obtain ⟨pb,po,g1,g2,_,_⟩:=qHq (d2.sub sub5) hlt
  simp only [g1,g2,qAA]
  refine qAL λb17 s6 hb17 h6 u6=>qAU h6 rfl rfl rfl λs7 h7 u7=>qAH (qAY h7 rfl) ?_
  have hb17s:s b17=none:=by
   cases e:s b17 with
   | none=>rfl
   | some x=>rw [sub5 b17 x e] at hb17;cases hb17
  have sub7:Sub s s7:=(sub5.trans (u6.sub hb17)).upto u7 hb17s
  have n8:b8≠b17:=by rintro rfl;rw [h85] at hb17;cases hb17
  have n0:b0≠b17:=by rintro rfl;rw [h05] at hb17;cases hb17
  have h87:s7 b8=_:=(u7 b8 n8).trans (u6.at h85 hb17)
  have h07:s7 b0=_:=(u7 b0 n0).trans (u6.at h05 hb17)
  refine hkey l[k] _ _ (ho.sub sub7) λs8 sub8=>?_
  simp only [qAg,qAA,qBQ,qAT]
  rw [qAX (by omega) (by omega)]
  refine qAG (λhg=>?_) (λhg=>?_)
  ·rw [if_pos (oT hg)] at he
   refine qAH (qAY (sub8 _ _ h7) rfl) (qAU (sub8 _ _ h87) rfl rfl rfl λs9 h9 u9=>?_)
   exact ⟨_,by omega,l[k],k+1,by simp,by omega,rfl,he,h9,⟨cs,hcs,(u9 b0 hne).trans (sub8 _ _ h07)⟩,(sub7.trans sub8).upto u9 hb8s⟩
  ·rw [if_neg (oF hg)] at he
   exact ⟨_,by omega,b,k+1,by simp,by omega,rfl,he,sub8 _ _ h87,⟨cs,hcs,sub8 _ _ h07⟩,sub7.trans sub8⟩
 ·have hge:l.length≤k:=by have:=oF hge;omega
  rw [List.drop_eq_nil_of_le hge] at he
  have he:grt key c l=b:=he
  rw [he] at hK
  refine qAH (qAY h85 rfl) (qAU h05 (by rw [hcs];rfl) hcs rfl λs6 h6 u6=>qAH (qAY h6 rfl) ?_)
  exact hK _ (sub5.upto u6 hb0)
theorem qY2 {key:Cand→Int} {kv:AV} {o:Option (Nat × List AV)} {v:AV} {c:Cand} {l:List Cand} (h:SlC s v (c :: l)) (hl:l.length≤1000) (ho:Held o s)
  (hkey:∀ (x:Cand) (s':Hq) (K:AV→Hq→Prop),Held o s'→(∀ s'',Sub s' s''→K (.int .i64 (key x)) s'')→funK Tryz.prog XX kv [.agg (qK3 x)] K s')
  (hK:∀ s',Sub s s'→K (.agg (qK3 (grt key c l))) s'):wC Tryz.prog XX 82 [v,kv] K s:=by
 refine qEf (qAL λb0 s1 hb0 h1 u1=>?_)
 have sub1:=u1.sub hb0
 obtain ⟨pb,po,g1,g2,_,_⟩:=qHq (h.sub sub1) (k:=0) (by simp)
 have g1:qAS 2 v (.int .i64 0)=some (.ptr pb po):=g1
 simp only [g1,g2,qAA]
 refine hkey c _ _ ((ho.sub sub1).frz) λs2 sub2 _=>?_
 refine newM (l:=[(s1,add s1 s2)]) λb8 s3 hb8 h8 u8=>?_
 refine qAU h8 rfl rfl rfl λs4 h4 u4=>?_
 obtain ⟨v',d1,d2,_⟩:=h.drop (k:=1) (by simp) (by simp)
 have d1:qCA 2 v (some (.int .i64 1)) none none=some v':=d1
 have d2:SlC s v' l:=d2
 simp only [d1,qAA,d2.len,List.length_map]
 have subA:Sub s (add s1 s2):=sub1.trans qDQ
 have hb8s:s b8=none:=by
  cases e:s b8 with
  | none=>rfl
  | some x=>rw [subA b8 x e] at hb8;cases hb8
 have sub4:Sub s s4:=(subA.trans qDQ).upto u4 hb8s
 have hne:b0≠b8:=by
  rintro rfl
  rw [show add s1 s2 b0=_ from qBj h1] at hb8;cases hb8
 have h04:s4 b0=some (false,.cells 36 [.int .u32 0,.int .i64 0]):=by
  rw [u4 b0 hne];exact qDQ b0 _ (qBj h1)
 refine ⟨λys s5 n=>∃ (b:Cand) (k:Nat),ys=[.int .i64 (key b),.int .i64 k]∧k≤l.length∧n=l.length - k∧grt key c l=grt key b (l.drop k)∧s5 b8=some (false,.cells 36 (qK3 b))∧(∃ cs,cs.length=2∧s5 b0=some (false,.cells 36 cs))∧Sub s s5,⟨_,c,0,rfl,by omega,rfl,by simp,h4,⟨_,rfl,h04⟩,sub4⟩,?_⟩
 rintro f s5 n ⟨b,k,hy,hk,rfl,he,h85,⟨cs,hcs,h05⟩,sub5⟩
 simp only [cI,and_true] at hy
 rw [hy.1,hy.2]
 simp only [qCf,qAP,qAA]
 refine qAG (λhlt=>?_) (λhge=>?_)
 ·have hlt:k < l.length:=by have:=oT hlt;omega
  rw [List.drop_eq_getElem_cons hlt,qNO] at he
  obtain ⟨pb,po,g1,g2,_,_⟩:=qHq (d2.sub sub5) hlt
  simp only [g1,g2,qAA]
  refine qAL λb17 s6 hb17 h6 u6=>qAU h6 rfl rfl rfl λs7 h7 u7=>qAH (qAY h7 rfl) ?_
  have hb17s:s b17=none:=by
   cases e:s b17 with
   | none=>rfl
   | some x=>rw [sub5 b17 x e] at hb17;cases hb17
  have sub7:Sub s s7:=(sub5.trans (u6.sub hb17)).upto u7 hb17s
  have n8:b8≠b17:=by rintro rfl;rw [h85] at hb17;cases hb17
  have n0:b0≠b17:=by rintro rfl;rw [h05] at hb17;cases hb17
  have h87:s7 b8=_:=(u7 b8 n8).trans (u6.at h85 hb17)
  have h07:s7 b0=_:=(u7 b0 n0).trans (u6.at h05 hb17)
  refine hkey l[k] _ _ (ho.sub sub7) λs8 sub8=>?_
  simp only [qAg,qAA,qBe,qAT]
  rw [qAX (by omega) (by omega)]
  refine qAG (λhg=>?_) (λhg=>?_)
  ·rw [if_pos (oT hg)] at he
   refine qAH (qAY (sub8 _ _ h7) rfl) (qAU (sub8 _ _ h87) rfl rfl rfl λs9 h9 u9=>?_)
   exact ⟨_,by omega,l[k],k+1,by simp,by omega,rfl,he,h9,⟨cs,hcs,(u9 b0 hne).trans (sub8 _ _ h07)⟩,(sub7.trans sub8).upto u9 hb8s⟩
  ·rw [if_neg (oF hg)] at he
   exact ⟨_,by omega,b,k+1,by simp,by omega,rfl,he,sub8 _ _ h87,⟨cs,hcs,sub8 _ _ h07⟩,sub7.trans sub8⟩
 ·have hge:l.length≤k:=by have:=oF hge;omega
  rw [List.drop_eq_nil_of_le hge] at he
  have he:grt key c l=b:=he
  rw [he] at hK
  refine qAH (qAY h85 rfl) (qAU h05 (by rw [hcs];rfl) hcs rfl λs6 h6 u6=>qAH (qAY h6 rfl) ?_)
  exact hK _ (sub5.upto u6 hb0)
theorem zACj {v:AV} {c:Cand} {l:List Cand} {bd:Int} (h:SlC s v (c :: l)) (hb:0≤bd) (hK:∀ s',Sub s s'→K (.agg (qK3 (((c :: l)[(bd % ((c :: l).length:Int)).toNat]?).getD c))) s'):wC Tryz.prog XX 76 [v,.int .i64 bd] K s:=by
 refine qLi (qAL λb s1 hb1 h1 u1=>?_)
 have hs:=h.sub (u1.sub hb1)
 have hpos:((c :: l).length:Int)≠0:=by have:(c :: l).length=l.length+1:=rfl;omega
 simp only [hs.len,qAA,List.length_map,qRy hpos]
 have h0:=Int.emod_nonneg bd hpos
 have hlt:=Int.emod_lt_of_pos bd (show (0:Int) < (c :: l).length by have:(c :: l).length=l.length+1:=rfl;omega)
 have e1:bd.tmod ((c :: l).length:Int)=((bd % ((c :: l).length:Int)).toNat:Nat):=by rw [Int.tmod_eq_emod_of_nonneg hb,Int.toNat_of_nonneg h0]
 rw [e1]
 have hk:(bd % ((c :: l).length:Int)).toNat < (c :: l).length:=by omega
 rw [gE hk,Option.getD_some] at hK
 obtain ⟨pb,po,g1,g2,_,_⟩:=qHq hs hk
 simp only [g1,g2,qAA]
 refine qAU h1 rfl rfl rfl λs2 h2 u2=>?_
 refine qAH (qAY h2 rfl) ?_
 exact hK _ ((u1.sub hb1).upto u2 hb1)
theorem zABa {q:Nat} {bd:Int} {x:Cand} (ho:Held (some (q,[.int .i64 bd])) s) (hK:∀ s',Sub s s'→K (.int .u64 (wt x.1 bd)) s'):wC Tryz.prog XX 79 [.agg (qK3 x),.ptr q 0] K s:=by
 refine qKT ⟨rfl,qAL λb s1 hb h1 u1=>?_⟩
 obtain ⟨t,e,hq⟩:=ho q _ rfl
 have hq1:=u1.sub hb _ _ hq
 simp only [qAB,qAA,qAJ h1,qAJ hq1,List.getElem?_cons_zero]
 refine qYX λs2 sub2=>hK _ ((u1.sub hb).trans sub2)
theorem zABX {x:Cand} (hK:∀ s',Sub s s'→K (.int .i64 x.2) s'):wC Tryz.prog XX 83 [.agg (qK3 x)] K s:=by
 refine qKW ⟨rfl,qAL λb s1 hb h1 u1=>?_⟩
 simp only [qAB,qAA,qAJ h1]
 exact hK _ (u1.sub hb)
theorem zADL {v:AV} {c:Cand} {l:List Cand} {bd:Int} (h:SlC s v (c :: l)) (hl:l.length≤1000) (hK:∀ s',Sub s s'→K (.agg (qK3 (grt (λc=>wt c.1 bd) c l))) s'):wC Tryz.prog XX 77 [v,.int .i64 bd] K s:=by
 refine qLw (qRD rfl λq s1 hq h1 u1=>qAL λb2 s2 hb2 h2 u2=>?_)
 have sub:=(u1.sub hq).trans (u2.sub hb2)
 refine qV5 (key:=λc=>wt c.1 bd) (o:=some (q,[.int .i64 bd])) (h.sub sub) hl (λq' cs e=>by cases e;exact ⟨_,_,u2.at h1 hb2⟩) (λx s' K ho hk=>qPP (by kernel_rfl) (zABa ho hk)) λs3 sub3=>?_
 refine qAU (sub3 _ _ h2) rfl rfl rfl λs4 h4 u4=>?_
 refine qAH (qAY h4 rfl) ?_
 have hb:s b2=none:=by
  cases e:s b2 with
  | none=>rfl
  | some x=>rw [u1.sub hq b2 x e] at hb2;cases hb2
 exact hK _ ((sub.trans sub3).upto u4 hb)
theorem zACc {v w:AV} {c:Cand} {l:List Cand} (h:SlC s v (c :: l)) (hl:l.length≤1000) (hK:∀ s',Sub s s'→K (.agg (qK3 (grt (λc=>c.2) c l))) s'):wC Tryz.prog XX 81 [v,w] K s:=by
 refine qLp (qAL λb2 s2 hb2 h2 u2=>?_)
 refine qY2 (key:=λc=>c.2) (o:=none) (h.sub (u2.sub hb2)) hl (λq' cs e=>by cases e) (λx s' K ho hk=>qPP (by kernel_rfl) (zABX hk)) λs3 sub3=>?_
 refine qAU (sub3 _ _ h2) rfl rfl rfl λs4 h4 u4=>?_
 refine qAH (qAY h4 rfl) ?_
 exact hK _ (((u2.sub hb2).trans sub3).upto u4 hb2)
def algT:List AV:=[.fn (.func 76) [] [],.fn (.func 77) [] [],.fn (.func 81) [] []]
theorem qTO (hK:∀ s',Sub s s'→K (.agg algT) s'):wC Tryz.prog XX 50 [] K s:=by
 refine qI9 (qAL λb s1 hb h1 u1=>?_)
 refine qAH (a:=algT) rfl ?_
 refine qAU h1 rfl rfl rfl λs2 h2 u2=>?_
 refine qAH (qAY h2 rfl) ?_
 exact hK _ ((u1.sub hb).upto u2 hb)
end Go.AM.EL
namespace Go.AM.EL
open Go Go.Proofs
variable {K : AV → Hq → Prop} {s : Hq}
def ascB:List Cand→Bool
 | []=>true
 | [_]=>true
 | x :: y :: r=>decide (x.1 < y.1)&&ascB (y :: r)
theorem qST {l:List Cand} {i:Nat} (h1:1≤i) (h:i < l.length):ascB (l.drop (i - 1))=(decide (l[i - 1].1 < l[i].1)&&ascB (l.drop i)):=by
 have e1:l.drop (i - 1)=l[i - 1] :: l.drop i:=by
  rw [List.drop_eq_getElem_cons (show i - 1 < l.length by omega)]
  congr 2;omega
 rw [e1,List.drop_eq_getElem_cons h]
 rfl
def pick (alg bd:Int) (c:Cand) (l:List Cand):Cand:=
 if alg=0 then ((c :: l)[(bd % ((c :: l).length:Int)).toNat]?).getD c else if alg=1 then grt (λc=>wt c.1 bd) c l else grt (λc=>c.2) c l
def elect (alg:Int) (l:List Cand) (bd:Int):Int × Bool:=match l with
 | []=>(0,false)
 | c :: r=>if alg < 0∨3≤alg∨bd < 0 then (0,false) else if ascB (c :: r)=true then ((pick alg bd c r).1,true) else (0,false)
theorem qKH (alg:Int) (c:Cand) (r:List Cand) (bd:Int):elect alg (c :: r) bd=if alg < 0∨3≤alg∨bd < 0 then (0,false) else if ascB (c :: r)=true then ((pick alg bd c r).1,true) else (0,false):=rfl
theorem zAAC {v:AV} {l:List Cand} {alg bd:Int} (h:SlC s v l) (hl:l.length≤1000) (hK:∀ s',Sub s s'→K (.tup [.int .u32 (elect alg l bd).1,.bool (elect alg l bd).2]) s'):wC Tryz.prog XX 28 [.int .i64 alg,v,.int .i64 bd] K s:=by
 refine qUm (qTO λs1 sub1=>qAL λt s2 ht h2 u2=>qAU h2 rfl rfl rfl λs3 h3 u3=>?_)
 have hts:s t=none:=by
  cases e:s t with
  | none=>rfl
  | some x=>rw [sub1 t x e] at ht;cases ht
 have sub3:Sub s s3:=(sub1.trans (u2.sub ht)).upto u3 hts
 have hk:=hK s3 sub3
 cases l with
 | nil=>
   simp only [h.len,List.map_nil,List.length_nil,qAA,qAa,qAW,qGk,qGe,qGg]
   simp only [Int.ofNat_zero,beq_self_eq_true,Bool.false_bne,qAK,qAO,qAA]
   exact hk
 | cons c r=>
   have hz:(((c :: r).length:Int) == 0)=false:=by
    have:(c :: r).length=r.length+1:=rfl
    cases q:(((c :: r).length:Int) == 0) with
    | false=>rfl
    | true=>have:=eq_of_beq q;omega
   by_cases hc:alg < 0∨3≤alg∨bd < 0
   ·have hk:K (.tup [.int .u32 0,.bool false]) s3:=by
     rw [qKH,if_pos hc] at hk
     exact hk
    simp only [h.len,List.length_map,hz,qAA,qAa,qAW,Bool.false_bne,qAF,qAP,qBn,qGk,qGe,qGg]
    by_cases n0:alg < 0 <;> by_cases n1:3≤alg <;> by_cases n2:bd < 0 <;> first | (exfalso;omega) | (simp only [n0,n1,n2,decide_true,decide_false,qAK,qAF,qAO,qAI,qAA];exact hk)
   ·have n0:¬ alg < 0:=by omega
    have n1:¬ 3≤alg:=by omega
    have n2:¬ bd < 0:=by omega
    simp only [h.len,List.length_map,hz,qAA,qAa,qAW,Bool.false_bne,qAF,qAP,qBn,qGk,qGe,qGg,n0,n1,n2,decide_false,qAI]
    have e0:elect alg (c :: r) bd=if ascB (c :: r)=true then ((pick alg bd c r).1,true) else (0,false):=by
     rw [qKH,if_neg hc]
    rw [e0] at hk
    have hlen:(c :: r).length=r.length+1:=rfl
    have h3':=h.sub sub3
    refine ⟨λys s4 n=>∃ i:Nat,ys=[.int .i64 i]∧s4=s3∧1≤i∧i≤(c :: r).length∧n=(c :: r).length - i∧ascB (c :: r)=ascB ((c :: r).drop (i - 1)),⟨_,1,rfl,rfl,by omega,by omega,rfl,rfl⟩,?_⟩
    rintro f s4 n ⟨i,hy,rfl,hi1,hi,rfl,he⟩
    simp only [cI,and_true] at hy
    rw [hy]
    simp only [qO3,h.len,List.length_map,qAA,qAP]
    refine qAG (λhlt=>?_) (λhge=>?_)
    ·have hlt:i < (c :: r).length:=by have:=oT hlt;omega
     rw [qST hi1 hlt] at he
     obtain ⟨pb,po,g1,_,g2,_⟩:=qHq h3' hlt
     obtain ⟨qb,qo,g3,_,g4,_⟩:=qHq h3' (k:=i - 1) (by omega)
     have ew:IntKind.i64.wrap ((i:Int) - 1)=((i - 1:Nat):Int):=by rw [qAX (by omega) (by omega)];omega
     simp only [g1,qAA,qAB,g2,qAf,ew,g3,g4,qCs]
     refine qAG (λhle=>?_) (λhle=>?_)
     ·have:decide ((c :: r)[i - 1].1 < (c :: r)[i].1)=false:=by have:=oT hle;simp;omega
      rw [this,Bool.false_and] at he
      rw [he,if_neg (by simp)] at hk
      exact hk
     ·have:decide ((c :: r)[i - 1].1 < (c :: r)[i].1)=true:=by have:=oF hle;simp;omega
      rw [this,Bool.true_and] at he
      simp only [qAT,qAA]
      rw [qAX (by omega) (by omega)]
      exact ⟨_,by omega,i+1,by simp,by trivial,by omega,by omega,rfl,he⟩
    ·have hge:i=(c :: r).length:=by have:=oF hge;omega
     have hlast:ascB ((c :: r).drop (i - 1))=true:=by
      rw [List.drop_eq_getElem_cons (show i - 1 < (c :: r).length by omega),List.drop_eq_nil_of_le (by omega)];rfl
     have he':elect alg (c :: r) bd=((pick alg bd c r).1,true):=by rw [e0,if_pos (he.trans hlast)]
     rw [he'] at hK
     clear hk
     have fin:∀ (x:Cand),(∀ s',Sub s s'→K (.tup [.int .u32 x.1,.bool true]) s')→∀ s',Sub s4 s'→oK (qVU none 0 (.agg (qK3 x))) λv_27=>K (.tup [v_27,.bool true]) s':=λx hx s' hs=>hx s' (sub3.trans hs)
     obtain rfl | rfl | rfl:alg=0∨alg=1∨alg=2:=by omega
     ·refine qAH (a:=.ptr t 0) rfl (qAH (a:=.fn (.func 76) [] []) (by rw [qAJ h3];rfl) ?_)
      exact qPP (by kernel_rfl) (zACj h3' (by omega) (fin _ hK))
     ·refine qAH (a:=.ptr t 1) rfl (qAH (a:=.fn (.func 77) [] []) (by rw [qAJ h3];rfl) ?_)
      exact qPP (by kernel_rfl) (zADL h3' (by omega) (fin _ hK))
     ·refine qAH (a:=.ptr t 2) rfl (qAH (a:=.fn (.func 81) [] []) (by rw [qAJ h3];rfl) ?_)
      exact qPP (by kernel_rfl) (zACc h3' (by omega) (fin _ hK))
theorem qQv {s0 s s2:Hq} (h:Sub s0 s):Sub s0 (cutH [(s,add s s2)] (add s s2)):=λi e hi=>qRV (h i e hi) (qBj (h i e hi))
theorem qXa {v:AV} {l:List Cand} {alg bd:Int} (h:SlC s v l) (hl:l.length≤1000) (hip:∀ c∈l,0≤c.1∧c.1 < 4294967296) (hK:∀ s',Sub s s'→K (.tup [.int .u32 (elect alg l bd).1,.bool (elect alg l bd).2]) s'):wC Tryz.prog XX 62 [.int .i64 alg,v,.int .i64 bd] K s:=by
 refine qHY ?_
 have hk:=hK s (.refl s)
 cases l with
 | nil=>
   simp only [qCM,h.len,List.map_nil,List.length_nil,qAA,qAa,qAW,qBT,qBS,qBP]
   simp only [Int.ofNat_zero,beq_self_eq_true,Bool.false_bne,qAK,qAO,qAA]
   exact hk
 | cons c r=>
   have hz:(((c :: r).length:Int) == 0)=false:=by
    have:(c :: r).length=r.length+1:=rfl
    cases q:(((c :: r).length:Int) == 0) with
    | false=>rfl
    | true=>have:=eq_of_beq q;omega
   by_cases hc:alg < 0∨3≤alg∨bd < 0
   ·have hk:K (.tup [.int .u32 0,.bool false]) s:=by
     rw [qKH,if_pos hc] at hk
     exact hk
    simp only [qCM,h.len,List.length_map,hz,qAA,qAa,qAW,Bool.false_bne,qAF,qAP,qAg,qBT,qBS,qBP]
    by_cases n0:alg < 0 <;> by_cases n1:2 < alg <;> by_cases n2:bd < 0 <;> first | (exfalso;omega) | (simp only [n0,n1,n2,decide_true,decide_false,qAK,qAF,qAO,qAI,qAA];exact hk)
   ·have n0:¬ alg < 0:=by omega
    have n1:¬ 2 < alg:=by omega
    have n2:¬ bd < 0:=by omega
    simp only [qCM,h.len,List.length_map,hz,qAA,qAa,qAW,Bool.false_bne,qAF,qAP,qAg,qBT,qBS,qBP,n0,n1,n2,decide_false,qAI]
    have e0:elect alg (c :: r) bd=if ascB (c :: r)=true then ((pick alg bd c r).1,true) else (0,false):=by
     rw [qKH,if_neg hc]
    clear hk
    have hlen:(c :: r).length=r.length+1:=rfl
    refine ⟨λys s4 n=>∃ (q:Nat) (i:Nat) (hq:q < (c :: r).length),ys=[.int .i64 q,.int .i64 i]∧Sub s s4∧1≤i∧i≤(c :: r).length∧n=(c :: r).length - i∧ascB (c :: r)=ascB ((c :: r).drop (i - 1))∧
     (alg=1→grt (λc=>wt c.1 bd) c r=grt (λc=>wt c.1 bd) (c :: r)[q] ((c :: r).drop i))∧(alg=2→grt (λc=>c.2) c r=grt (λc=>c.2) (c :: r)[q] ((c :: r).drop i)),⟨_,0,1,by omega,rfl,.refl s,by omega,by omega,rfl,rfl,λ_=>rfl,λ_=>rfl⟩,?_⟩
    rintro f s4 n ⟨q,i,hq,hy,sub4,hi1,hi,rfl,he,hw,hp⟩
    simp only [cI,and_true] at hy
    rw [hy.1,hy.2]
    have h4:=h.sub sub4
    simp only [qD0,h.len,List.length_map,qAA,qAP]
    refine qAG (λhlt=>?_) (λhge=>?_)
    ·have hlt:i < (c :: r).length:=by have:=oT hlt;omega
     rw [qST hi1 hlt] at he
     obtain ⟨pb,po,g1,_,g2,g2'⟩:=qHq h4 hlt
     obtain ⟨qb,qo,g3,_,g4,_⟩:=qHq h4 (k:=i - 1) (by omega)
     obtain ⟨rb,ro,g5,_,g6,g6'⟩:=qHq h4 hq
     have ew:IntKind.i64.wrap ((i:Int) - 1)=((i - 1:Nat):Int):=by rw [qAX (by omega) (by omega)];omega
     simp only [g1,qAA,qAB,g2,qAf,ew,g3,g4,qCs]
     refine qAG (λhle=>?_) (λhle=>?_)
     ·have:decide ((c :: r)[i - 1].1 < (c :: r)[i].1)=false:=by have:=oT hle;simp;omega
      rw [this,Bool.false_and] at he
      have e1:elect alg (c :: r) bd=(0,false):=by rw [e0,he,if_neg (by simp)]
      rw [e1] at hK
      exact hK _ sub4
     ·have:decide ((c :: r)[i - 1].1 < (c :: r)[i].1)=true:=by have:=oF hle;simp;omega
      rw [this,Bool.true_and] at he
      have w1:qAC .add (.int .i64 (i:Int)) (.int .i64 1)=some (.int .i64 ((i+1:Nat):Int)):=by
       rw [qAT,qAX (by omega) (by omega)]
       rfl
      have dropi:(c :: r).drop i=(c :: r)[i] :: (c :: r).drop (i+1):=List.drop_eq_getElem_cons hlt
      rw [dropi] at hw hp
      have wi:=hip _ (List.getElem_mem hlt)
      have wq:=hip _ (List.getElem_mem hq)
      simp only [qAa,qAW,Bool.false_bne,qAA]
      obtain rfl | rfl | rfl:alg=0∨alg=1∨alg=2:=by omega
      ·simp only [show ((0:Int) == 1)=false from rfl,show ((0:Int) == 2)=false from rfl,qAF,qAI,qAA,qBv,qBw,w1]
       exact ⟨_,by omega,q,i+1,hq,rfl,sub4,by omega,by omega,rfl,he,λe=>by omega,λe=>by omega⟩
      ·simp only [show ((1:Int) == 1)=true from rfl,show ((1:Int) == 2)=false from rfl,qAK]
       refine qPe wi λs5 sub5 _=>?_
       have h5:=h.sub (qQv (s2:=s5) sub4)
       obtain ⟨rb',ro',k1,_,k2,_⟩:=qHq h5 hq
       rw [g5] at k1
       cases k1
       simp only [g5,qAA,qAB,k2]
       refine qPe wq λs6 sub6=>?_
       have sub6:Sub s s6:=(sub4.trans qDQ).trans sub6
       have hw:=hw rfl
       rw [qNO] at hw
       simp only [qAg,qAA,qAO]
       refine qAG (λhg=>?_) (λhg=>?_)
       ·rw [hg]
        rw [if_pos (oT hg)] at hw
        simp only [qAO,qAA,qAK,qCj,w1]
        exact ⟨_,by omega,i,i+1,hlt,rfl,sub6,by omega,by omega,rfl,he,λ_=>hw,λe=>by omega⟩
       ·rw [hg]
        rw [if_neg (oF hg)] at hw
        simp only [qAI,qAA,qAF,qCm,w1]
        exact ⟨_,by omega,q,i+1,hq,rfl,sub6,by omega,by omega,rfl,he,λ_=>hw,λe=>by omega⟩
      ·have hp:=hp rfl
       rw [qNO] at hp
       simp only [show ((2:Int) == 1)=false from rfl,show ((2:Int) == 2)=true from rfl,qAF,qAK,qAI,qAO,qAA,qBv,qBw,qAB,g2',g5,g6',qAg,w1]
       refine qAG (λhg=>?_) (λhg=>?_)
       ·rw [if_pos (oT hg)] at hp
        exact ⟨_,by omega,i,i+1,hlt,rfl,sub4,by omega,by omega,rfl,he,λe=>by omega,λ_=>hp⟩
       ·rw [if_neg (oF hg)] at hp
        exact ⟨_,by omega,q,i+1,hq,rfl,sub4,by omega,by omega,rfl,he,λe=>by omega,λ_=>hp⟩
    ·have hge:i=(c :: r).length:=by have:=oF hge;omega
     have hlast:ascB ((c :: r).drop (i - 1))=true:=by
      rw [List.drop_eq_getElem_cons (show i - 1 < (c :: r).length by omega),List.drop_eq_nil_of_le (by omega)];rfl
     have he':elect alg (c :: r) bd=((pick alg bd c r).1,true):=by rw [e0,if_pos (he.trans hlast)]
     rw [he'] at hK
     have dropi:(c :: r).drop i=[]:=List.drop_eq_nil_of_le (by omega)
     rw [dropi] at hw hp
     simp only [qAa,qAW,Bool.false_bne,qAA]
     obtain ⟨rb,ro,g5,_,g6,_⟩:=qHq h4 hq
     obtain rfl | rfl | rfl:alg=0∨alg=1∨alg=2:=by omega
     ·have hpos:((c :: r).length:Int)≠0:=by omega
      have h0:=Int.emod_nonneg bd hpos
      have hlt:=Int.emod_lt_of_pos bd (show (0:Int) < (c :: r).length by omega)
      have e1:bd.tmod ((c :: r).length:Int)=((bd % ((c :: r).length:Int)).toNat:Nat):=by rw [Int.tmod_eq_emod_of_nonneg (by omega),Int.toNat_of_nonneg h0]
      have hkk:(bd % ((c :: r).length:Int)).toNat < (c :: r).length:=by omega
      obtain ⟨qb,qo,g3,_,g4,_⟩:=qHq h4 hkk
      simp only [show ((0:Int) == 0)=true from rfl,qAK,qRy hpos,e1,qAA,qBD,g3,qAB,g4]
      have:=hK _ sub4
      unfold pick at this
      rw [if_pos rfl,gE hkk,Option.getD_some] at this
      exact this
     ·simp only [show ((1:Int) == 0)=false from rfl,qAF,qBD,g5,qAA,qAB,g6]
      have:=hK _ sub4
      unfold pick at this
      rw [if_neg (by decide),if_pos rfl,hw rfl] at this
      exact this
     ·simp only [show ((2:Int) == 0)=false from rfl,qAF,qBD,g5,qAA,qAB,g6]
      have:=hK _ sub4
      unfold pick at this
      rw [if_neg (by decide),if_neg (by decide),hp rfl] at this
      exact this
end Go.AM.EL
namespace Go.AM.EL
open Go Go.Proofs
variable {K : AV → Hq → Prop} {s : Hq}
end Go.AM.EL
