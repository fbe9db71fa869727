/- Part G of a calculus over a small memory that is proved to answer as the program does, and of its use for the functions that the law reaches: see the last part. -/
import Derived.Test.YtjheoaemhdpoeaaGreatDoorU2
import Derived.Test.YtjheoaemhdpoeaaGreatDoorV2
set_option linter.unusedVariables false
namespace Go.AM.SG
open Go Go.AM
end Go.AM.SG
namespace Go.AM.SG
open Go Go.AM Go.Proofs
section
variable (P : Program)
variable {P}
end
abbrev us (l:List Int):List AV:=l.map (AV.int .u32)
theorem qFu {s s':Hq} (k:Sub s s') {b:Nat} (h:s' b=none):s b=none:=by
 cases q:s b with
 | none=>rfl
 | some y=>rw [k _ _ q] at h;cases h
variable {a : Nat}
end Go.AM.SG
namespace Go.AM.SG
open Go Go.AM Go.Proofs
variable {K : AV → Hq → Prop} {s s' s0 : Hq} {lv : AV}
structure Cm where
 (b0 b1 b2 b3 b4 b5 b6 b7:Nat)
def Cm.ok (c:Cm):Prop:=c.b0 < 256∧c.b1 < 256∧c.b2 < 256∧c.b3 < 256∧c.b4 < 256∧c.b5 < 256∧c.b6 < 256∧c.b7 < 256
abbrev u8 (n:Nat):AV:=.int .u8 (n:Int)
def cmR (c:Cm):List AV:=[u8 c.b0,u8 c.b1,u8 c.b2,u8 c.b3,u8 c.b4,u8 c.b5,u8 c.b6,u8 c.b7]
abbrev heads:List (Nat × Nat):=[(0,2),(3,12),(6,0),(6,1),(6,2),(6,3),(6,6)]
def GlK (s:Hq):Prop:=∃ t,s 0=some (t,.glob 0 (.agg kindsL))
theorem GlK.sub (h:GlK s) (k:Sub s s'):GlK s':=by
 obtain ⟨t,h⟩:=h
 exact ⟨t,k _ _ h⟩
theorem GlK.rd (h:GlK s):gldN s 21 0=some kindsL:=by
 obtain ⟨t,h⟩:=h
 unfold gldN
 rw [h]
 rfl
end Go.AM.SG
namespace Go.AM.SG
open Go Go.AM Go.Proofs
variable {K : AV → Hq → Prop} {s s' s0 : Hq} {v lv : AV} {c : Cm} {l : List Cm}
def cb (c:Cm):List Nat:=[c.b0,c.b1,c.b2,c.b3,c.b4,c.b5,c.b6,c.b7]
end Go.AM.SG
namespace Go.AM.SG
open Go Go.AM Go.Proofs
variable {K : AV → Hq → Prop} {s s' s0 : Hq} {v w p q m p' q' m' : AV}
structure Es where
 (x0 x1 x2 x3 x4 x5 x6 x7 x8 x9:Int)
def Es.R (x:Es):List AV:=[.int .u8 x.x0,.int .u8 x.x1,.int .u8 x.x2,.int .u8 x.x3,.int .u8 x.x4,.int .u8 x.x5,.int .u8 x.x6,.int .u8 x.x7,.int .u8 x.x8,.int .u8 x.x9]
structure Rt where
 (kd rd:Int) (es:Es) (tag mac ip:Int) (hip:Bool) (px pl gw la lb og nx:Int) (hm:Bool) (md:Int) (hp:Bool) (pf:Int) (ho:Bool) (orr tk tl tr tg pe:Int) (st:Bool)
 (path cl:List Int) (cm:List Cm)
def Rt.N (r:Rt):List AV:=.int .i64 r.kd :: .int .u64 r.rd :: (r.es.R ++ [.int .u32 r.tag,.int .u64 r.mac,.int .u32 r.ip,.bool r.hip,.int .u32 r.px,.int .i64 r.pl,.int .u32 r.gw,.int .u32 r.la,.int .u32 r.lb])
def Rt.T (r:Rt):List AV:=[.int .i64 r.tk,.int .u32 r.tl,.int .u32 r.tr,.int .u32 r.tg]
def Rt.A (r:Rt) (p q m:AV):List AV:=[.int .i64 r.og,p,.int .u32 r.nx,.bool r.hm,.int .u32 r.md,.bool r.hp,.int .u32 r.pf,.bool r.ho,.int .u32 r.orr,q,m,.int .i64 r.tk,.int .u32 r.tl,.int .u32 r.tr,.int .u32 r.tg]
def Rt.row (r:Rt) (p q m:AV):List AV:=r.N ++ (r.A p q m ++ [.int .u32 r.pe,.bool r.st])
theorem Rt.row_one (r:Rt) (h1:p.one=true) (h2:q.one=true) (h3:m.one=true):qAg (r.row p q m)=true:=by
 show (p.one&&(q.one&&(m.one&&true)))=true
 rw [h1,h2,h3];rfl
structure RtAt (s:Hq) (r:Rt) (p q m:AV):Prop where
 pa:Sl s p (us r.path)
 cl:Sl s q (us r.cl)
 cm:SlR 8 s m (r.cm.map cmR)
theorem RtAt.sub {r:Rt} (h:RtAt s r p q m) (k:Sub s s'):RtAt s' r p q m:=⟨h.pa.sub k,h.cl.sub k,h.cm.sub k⟩
theorem RtAt.one {r:Rt} (h:RtAt s r p q m):qAg (r.row p q m)=true:=r.row_one h.pa.one h.cl.one h.cm.one
structure Frs (s:Hq) (r:Rt) (p q m:AV):Prop where
 pa:∀ i o n c,p=.slc i o n c 1→us r.path≠[]→s i=none
 cl:∀ i o n c,q=.slc i o n c 1→us r.cl≠[]→s i=none
 cm:∀ i o n c,m=.slc i o n c 8→r.cm.map cmR≠[]→s i=none
theorem Frs.old {r:Rt} (h:Frs s' r p q m) (k:Sub s s'):Frs s r p q m:=
 ⟨λi o n c e z=>qFu k (h.pa i o n c e z),λi o n c e z=>qFu k (h.cl i o n c e z),λi o n c e z=>qFu k (h.cm i o n c e z)⟩
theorem RtAt.keep {r:Rt} {fp:Nat→Prop} (h:RtAt s r p q m) (kb:qBy fp s s') (hf:Frs s0 r p q m) (hp:∀ i,fp i→s0 i≠none):RtAt s' r p q m:=
 ⟨h.pa.keep kb λi o n c e z w=>hp i w (hf.pa i o n c e z),h.cl.keep kb λi o n c e z w=>hp i w (hf.cl i o n c e z),h.cm.keep kb λi o n c e z w=>hp i w (hf.cm i o n c e z)⟩
def Rt.ok (r:Rt):Prop:=(∀ c∈r.cm,c.ok)∧r.path.length≤20∧r.cl.length≤20∧r.cm.length≤20
def Rts (s:Hq) (v:AV) (R:List Rt):Prop:=∃ rows:List (List AV),SlR 38 s v rows∧rows.length=R.length∧∀ (i:Nat) (r:Rt),R[i]?=some r→∃ p q m,rows[i]?=some (r.row p q m)∧RtAt s r p q m
theorem Rts.sub {R:List Rt} (h:Rts s v R) (k:Sub s s'):Rts s' v R:=by
 obtain ⟨rows,h1,h2,h3⟩:=h
 refine ⟨rows,h1.sub k,h2,λi r hi=>?_⟩
 obtain ⟨p,q,m,q1,q2⟩:=h3 i r hi
 exact ⟨p,q,m,q1,q2.sub k⟩
theorem Rts.len {R:List Rt} (h:Rts s v R):qAR v=some R.length:=by
 obtain ⟨rows,h1,h2,_⟩:=h
 rw [h1.len,h2]
theorem Rts.get {R:List Rt} (h:Rts s v R) {i:Nat} {r:Rt} (hi:R[i]?=some r):∃ b o p q m,qAZ 38 v (.int .i64 (i:Int))=some (.ptr b o)∧rdN s 38 (.ptr b o)=some (r.row p q m)∧(∀ j,j < 38→rd1 s (.ptr b (o+j))=(r.row p q m)[j]?)∧RtAt s r p q m:=by
 obtain ⟨rows,h1,h2,h3⟩:=h
 obtain ⟨p,q,m,q1,q2⟩:=h3 i r hi
 obtain ⟨b,o,e1,e2,e3⟩:=h1.get q1
 exact ⟨b,o,p,q,m,e1,e2,e3,q2⟩
theorem SlR.addf {es:Nat} {s2:Hq} {rows:List (List AV)} (h:SlR es s2 v rows) (hs:Sub (AM.frz s) s2):SlR es (add s s2) v rows:=by
 refine ⟨h.1,?_⟩
 rcases h.2 with h | ⟨b,o,cap,h1,h2,h3⟩
 ·exact .inl h
 ·refine .inr ⟨b,o,cap,h1,h2,λhl=>?_⟩
  obtain ⟨t,e,cs,q1,q2⟩:=h3 hl
  cases hb:s b with
  | none=>exact ⟨t,e,cs,by rw [qA8 hb];exact q1,q2⟩
  | some x=>
    obtain ⟨t',x⟩:=x
    have:=hs b _ (qKl hb)
    rw [q1] at this
    cases this
    exact ⟨t',e,cs,by rw [qAz hb],q2⟩
end Go.AM.SG
namespace Go.AM.EL
open Go Go.Proofs
variable {K : AV → Hq → Prop} {s : Hq}
theorem wu32 (n:Int):qBK .u32 n=n % 4294967296:=by
 simp only [qBK];rw [qI0 _ _ _ (by omega) (by omega)];split <;> omega
end Go.AM.EL
namespace Go.AM.EL
open Go Go.Proofs
variable {K : AV → Hq → Prop} {s : Hq}
end Go.AM.EL
namespace Go.AM.EL
open Go Go.Proofs
variable {K : AV → Hq → Prop} {s : Hq}
end Go.AM.EL
namespace Go.AM.EL
open Go Go.Proofs
variable {K : AV → Hq → Prop} {s : Hq}
end Go.AM.EL
namespace Go.AM.SG
open Go Go.AM Go.Proofs
inductive Leaf where
 | i (k:IntKind)
 | b
 | sl (d:Nat) (t:TypeId)
section
variable (P : Program)
def zAAh (rec:TypeId→Nat→Option Leaf) (j:Nat):List Field→Option Leaf
 | []=>none
 | f :: fs=>cond (Nat.ble f.offset j&&Nat.blt (j - f.offset) (P.cellsOf f.type)) (rec f.type (j - f.offset)) (zAAh rec j fs)
def qRH:Nat→TypeId→Nat→Option Leaf
 | 0,_,_=>none
 | d+1,t,j=>match P.underlying t with
   | some (.int k)=>cond (Nat.beq j 0) (some (.i k)) none
   | some .bool=>cond (Nat.beq j 0) (some .b) none
   | some (.slice _)=>cond (Nat.beq j 0) (some (.sl (d+1) t)) none
   | some (.struct fs)=>zAAh P (qRH d) j fs.toList
   | some (.array n e)=>cond (Nat.blt (j / P.cellsOf e) n&&Nat.blt 0 (P.cellsOf e)) (qRH d e (j % P.cellsOf e)) none
   | _=>none
end
variable {P : Program} {s : Hq}
def zAEY (P:Program) (s:Hq):Leaf→AV→Prop
 | .i k,x=>∃ n,x=.int k n∧(Lit.int k n).wf=true
 | .b,x=>∃ b,x=.bool b
 | .sl d t,x=>Inp P s d t [x]
theorem qVK {xs:List AV} {o c j:Nat} {x:AV} (h:((xs.drop o).take c)[j]?=some x):xs[o+j]?=some x:=by
 rw [List.getElem?_take] at h
 split at h
 ·rw [List.getElem?_drop] at h;exact h
 ·cases h
theorem qMu:∀ (d:Nat) (t:TypeId) (xs:List AV) (j:Nat) (k:Leaf),Inp P s d t xs→qRH P d t j=some k→∃ x,xs[j]?=some x∧zAEY P s k x
 | 0,_,_,_,_,h,_=>h.elim
 | d+1,t,xs,j,k,h,hk=>by
   unfold qRH at hk
   unfold Inp at h
   split at hk
   ·rename_i k0 hu
    simp only [hu] at h
    cases e:Nat.beq j 0 with
    | false=>rw [e] at hk;cases hk
    | true=>
      rw [e] at hk
      cases hk
      obtain ⟨n,rfl,h2⟩:=h
      exact ⟨_,by rw [Nat.eq_of_beq_eq_true e];rfl,n,rfl,h2⟩
   ·rename_i hu
    simp only [hu] at h
    cases e:Nat.beq j 0 with
    | false=>rw [e] at hk;cases hk
    | true=>
      rw [e] at hk
      cases hk
      obtain ⟨b,rfl⟩:=h
      exact ⟨_,by rw [Nat.eq_of_beq_eq_true e];rfl,b,rfl⟩
   ·rename_i e0 hu
    cases e:Nat.beq j 0 with
    | false=>rw [e] at hk;cases hk
    | true=>
      rw [e] at hk
      cases hk
      have h':Inp P s (d+1) t xs:=by unfold Inp;exact h
      simp only [hu] at h
      rcases h with rfl | ⟨b,n,c,rfl,_⟩
      ·exact ⟨_,by rw [Nat.eq_of_beq_eq_true e];rfl,h'⟩
      ·exact ⟨_,by rw [Nat.eq_of_beq_eq_true e];rfl,h'⟩
   ·rename_i fs hu
    simp only [hu] at h
    have key:∀ l:List Field,(∀ f∈l,f∈fs.toList)→zAAh P (qRH P d) j l=some k→∃ x,xs[j]?=some x∧zAEY P s k x:=by
     intro l
     induction l with
     | nil=>intro _ q;cases q
     | cons f l ih=>
       intro hm q
       unfold zAAh at q
       cases e:(Nat.ble f.offset j&&Nat.blt (j - f.offset) (P.cellsOf f.type)) with
       | false=>rw [e] at q;exact ih (λg hg=>hm g (List.mem_cons_of_mem _ hg)) q
       | true=>
         rw [e] at q
         simp only [Bool.and_eq_true] at e
         obtain ⟨x,h1,h2⟩:=qMu d f.type _ (j - f.offset) k (h.2 f (hm f List.mem_cons_self)) q
         refine ⟨x,?_,h2⟩
         have:=qVK h1
         rw [Nat.add_sub_cancel' (Nat.le_of_ble_eq_true e.1)] at this
         exact this
    exact key _ (λf hf=>hf) hk
   ·rename_i n e0 hu
    simp only [hu] at h
    cases e:(Nat.blt (j / P.cellsOf e0) n&&Nat.blt 0 (P.cellsOf e0)) with
    | false=>rw [e] at hk;cases hk
    | true=>
      rw [e] at hk
      simp only [Bool.and_eq_true,Nat.blt_eq] at e
      obtain ⟨x,h1,h2⟩:=qMu d e0 _ (j % P.cellsOf e0) k (h.2 (j / P.cellsOf e0) e.1) hk
      refine ⟨x,?_,h2⟩
      have:=qVK h1
      rw [Nat.mul_comm,Nat.div_add_mod] at this
      exact this
   ·cases hk
theorem qA0 {d:Nat} {t:TypeId} {xs:List AV} {j:Nat} {k:IntKind} (h:Inp P s d t xs) (hk:qRH P d t j=some (.i k)):∃ n,xs[j]?=some (.int k n)∧(Lit.int k n).wf=true:=by
 obtain ⟨x,h1,n,rfl,h2⟩:=qMu d t xs j _ h hk
 exact ⟨n,h1,h2⟩
theorem zABX {d:Nat} {t:TypeId} {xs:List AV} {j:Nat} (h:Inp P s d t xs) (hk:qRH P d t j=some .b):∃ b,xs[j]?=some (.bool b):=by
 obtain ⟨x,h1,n,rfl⟩:=qMu d t xs j _ h hk
 exact ⟨n,h1⟩
theorem qJy {d d':Nat} {t t':TypeId} {xs:List AV} {j:Nat} (h:Inp P s d t xs) (hk:qRH P d t j=some (.sl d' t')):∃ x,xs[j]?=some x∧Inp P s d' t' [x]:=qMu d t xs j _ h hk
theorem qHG {xs ys:List AV} (hl:xs.length=ys.length) (h:∀ j,j < ys.length→xs[j]?=ys[j]?):xs=ys:=by
 refine List.ext_getElem? λj=>?_
 by_cases q:j < ys.length
 ·exact h j q
 ·rw [List.getElem?_eq_none (by omega),List.getElem?_eq_none (by omega)]
end Go.AM.SG
namespace Go.AM.SG
open Go Go.AM Go.Proofs
variable {s : Hq} {d : Nat} {v : AV}
theorem wf32 {n:Int} (h:(Lit.int .u32 n).wf=true):0≤n∧n < 4294967296:=by
 have:0≤n∧n≤4294967295:=by
  unfold Lit.wf at h
  simpa [IntKind.min,IntKind.max,IntKind.bits,IntKind.signed] using h
 omega
set_option maxRecDepth 100000
theorem qEZ {t e:TypeId} {x:AV} (hu:Tryz.prog.underlying t=some (.slice e)) (h:Inp Tryz.prog s (d+1) t [x]):Arg Tryz.prog s (d+1) t x:=by
 have hx:x.cells=[x]:=by
  have h':=h
  unfold Inp at h'
  simp only [hu] at h'
  rcases h' with h' | ⟨b,n,c,h',_⟩
  ·cases h';rfl
  ·cases h';rfl
 have hn:qBE Tryz.prog t≠some true:=by unfold qBE;rw [hu];simp
 exact ⟨by rw [hx];exact h,λw=>absurd w hn,λ_=>hx⟩
end Go.AM.SG
