/- Part C of a calculus over a small memory that is proved to answer as the program does, and of its use for the functions that the law reaches: see the last part. -/
import Derived.Test.YtgehkpnggfnapaaGreatDoorV
set_option linter.unusedVariables false
namespace Go.AM.TN
open Go Go.Proofs
variable {K : AV → Hq → Prop} {s s' s0 t : Hq} {lv uv v y w : AV}
theorem qAc {s s' s'':Hq} {b:Nat} (h:Sub s s') (u:Upto b s' s'') (hb:s b=none):Sub s s'':=λi e hi=>by rw [u i (qCF hb hi)];exact h i e hi
theorem qHN (k:Sub s s') {b:Nat} (h:s' b=none):s b=none:=by
 cases q:s b with
 | none=>rfl
 | some y=>rw [k _ _ q] at h;cases h
structure Tk (s0 t:Hq) (b:Nat):Prop where
 sub:Sub s0 t
 fr:s0 b=none
 ex:∃ (lv:AV) (l:List Int) (i:Nat),t b=some (false,.cells 130 [lv,.int .i64 (i:Int)])∧i≤9000000000000000000∧l.length≤9000000000000000000∧Sl s0 lv (l.map (AV.int .i64))∧∀ x∈l,-9223372036854775808≤x∧x≤9223372036854775807
theorem Tk.more {b:Nat} (h:Tk s0 t b) (k:Sub t s):Tk s0 s b:=by
 obtain ⟨lv,l,i,h1,h2⟩:=h.ex
 exact ⟨h.sub.trans k,h.fr,lv,l,i,k _ _ h1,h2⟩
theorem Tk.keep {b:Nat} (h:Tk s0 t b) {fp:Nat→Prop} (k:qCR fp t s) (hb:¬ fp b) (h0:∀ i,fp i→s0 i=none):Tk s0 s b:=by
 obtain ⟨lv,l,i,h1,h2⟩:=h.ex
 exact ⟨λi e hi=>k _ _ (h.sub _ _ hi) λq=>(by rw [h0 i q] at hi;cases hi),h.fr,lv,l,i,k _ _ h1 hb,h2⟩
abbrev RLk:=Int × Int × Int
def lkC (x:RLk):List AV:=[.int .i64 x.1,.int .i64 x.2.1,.int .i64 x.2.2]
def iz (l:List Nat):List AV:=l.map λ(n:Nat)=>.int .i64 (n:Int)
theorem _root_.Go.AM.Acc.sub {elem:TypeId} {l:List AV} (h:Acc elem s0 s v l) (k:Sub s s'):Acc elem s0 s' v l:=h.imp id λ⟨b,h0,h1,h2⟩=>⟨b,h0,h1,k _ _ h2⟩
theorem _root_.Go.AM.Acc.upto {elem:TypeId} {l:List AV} {b:Nat} (h:Acc elem s0 s v l) (u:Upto b s s') (hb:s0 b≠none):Acc elem s0 s' v l:=h.imp id λ⟨c,h0,h1,h2⟩=>⟨c,h0,h1,by
 rw [u c λe=>hb (by rw [← e];exact h0)]
 exact h2⟩
end Go.AM.TN
namespace Go.AM.TN
open Go Go.Proofs
variable {K : AV → Hq → Prop} {s s' s0 t : Hq} {lv uv v y w : AV} {b : Nat}
theorem _root_.Go.AM.AccR.upto {elem:TypeId} {es:Nat} {rows:List (List AV)} {b:Nat} (h:AccR elem es s0 s v rows) (u:Upto b s s') (hb:s0 b≠none):AccR elem es s0 s' v rows:=⟨h.1,h.2.imp id λ⟨c,h0,h1,h2⟩=>⟨c,h0,h1,by
 rw [u c λe=>hb (by rw [← e];exact h0)]
 exact h2⟩⟩
theorem Tk.at (h:Tk s0 t b):t b≠none:=by
 obtain ⟨lv,l,i,q,_⟩:=h.ex
 rw [q];simp
end Go.AM.TN
namespace Go.AM.TN
open Go Go.Proofs
variable {K : AV → Hq → Prop} {s s' s0 t : Hq} {lv uv v y w : AV} {b : Nat}
theorem zACQ {n:Int} (h1:0≤n) (h2:n < 9223372036854775808):qBx .u64 (.int .i64 n)=some (.int .u64 n):=by
 show some (AV.int .u64 (qAx .u64 n))=_
 rw [show qAx .u64 n=n by simp only [qAx];rw [qEC _ _ _ (by omega) (by omega)];split <;> omega]
abbrev Bd:=Nat × Bool
def subN (i:Nat) (r:Bool):Int:=if r then 167772160+(i:Int) * 65536 else 0
def gwN (i:Nat) (r:Bool):Int:=if r then 167772160+(i:Int) * 65536+1 else 0
def lenN (r:Bool):Int:=if r then 24 else 0
def bdC (i:Nat) (x:Bd):List AV:=[.int .i64 (x.1:Int),.int .u32 (10+(i:Int)),.int .u32 (500+(i:Int)),.int .u32 (subN i x.2),.int .i64 (lenN x.2),.int .u32 (gwN i x.2)]
theorem Tk.u (h:Tk s0 t b) {c:Nat} (u:Upto c t s) (hc:s0 c=none) (hb:b≠c):Tk s0 s b:=h.keep (fp:=λi=>i=c) (u.keep rfl) hb λi hi=>by rw [hi];exact hc
abbrev Lkg:=Nat × Nat × Option Nat
def pfN:Option Nat→Int
 | some j=>167772160+(j:Int) * 65536
 | none=>0
def plN:Option Nat→Int
 | some _=>16
 | none=>0
def lgC (x:Lkg):List AV:=[.int .i64 (x.1:Int),.int .i64 (x.2.1:Int),.int .u32 (pfN x.2.2),.int .i64 (plN x.2.2)]
def mB (r:Option Bool) (k:Option Bool):Option Bool:=match r with
 | some true=>k
 | some false=>some false
 | none=>none
theorem qEN {a b:Int}:eqI a b=decide (a=b):=by
 rw [qFm]
 by_cases h:a=b
 ·rw [h];simp
 ·rw [decide_eq_false h];simpa using h
end Go.AM.TN
namespace Go.AM.TN
open Go Go.Proofs
variable {K : AV → Hq → Prop} {s s' s0 t : Hq} {lv uv v y w : AV} {b : Nat}
abbrev Sg:=List Nat × List Nat
def SgR (s:Hq) (v:AV) (S:List Sg):Prop:=∃ vs:List (AV × AV),SlR 2 s v (vs.map λp=>[p.1,p.2])∧vs.length=S.length∧∀ (i:Nat) (q:AV × AV) (x:Sg),vs[i]?=some q→S[i]?=some x→Sl s q.1 (iz x.1)∧Sl s q.2 (iz x.2)
theorem SgR.sub {S:List Sg} (h:SgR s v S) (k:Sub s s'):SgR s' v S:=by
 obtain ⟨vs,h1,h2,h3⟩:=h
 exact ⟨vs,h1.sub k,h2,λi q x a c=>⟨(h3 i q x a c).1.sub k,(h3 i q x a c).2.sub k⟩⟩
theorem SgR.len {S:List Sg} (h:SgR s v S):qAQ v=some S.length:=by
 obtain ⟨vs,h1,h2,_⟩:=h
 rw [h1.len,List.length_map,h2]
theorem SgR.at {S:List Sg} (h:SgR s v S) {i:Nat} {x:Sg} (hx:S[i]?=some x):∃ pb po l1 l2,qAS 2 v (.int .i64 (i:Int))=some (.ptr pb po)∧rdN s 2 (.ptr pb po)=some [l1,l2]∧rd1 s (.ptr pb po)=some l1∧rd1 s (.ptr pb (po+1))=some l2∧Sl s l1 (iz x.1)∧Sl s l2 (iz x.2):=by
 obtain ⟨vs,h1,h2,h3⟩:=h
 have hi:i < vs.length:=by rw [h2];exact (gS hx).1
 have hq:vs[i]?=some vs[i]:=gE hi
 obtain ⟨pb,po,e1,e2,e3⟩:=h1.get (i:=i) (r:=[vs[i].1,vs[i].2]) (by rw [List.getElem?_map,hq];rfl)
 obtain ⟨a,c⟩:=h3 i _ x hq hx
 exact ⟨pb,po,vs[i].1,vs[i].2,e1,e2,e3 0 (by omega),e3 1 (by omega),a,c⟩
theorem SgR.one {S:List Sg} (h:SgR s v S):v.one=true:=by
 obtain ⟨vs,h1,_⟩:=h
 exact h1.one
abbrev Hst:=Nat × Nat × Bool × Bool
def ipN (i:Nat) (x:Hst):Int:=if x.2.2.1 then 167772160+(x.1:Int) * 65536+(10+(i:Int)) else 0
def sgN (x:Hst):Int:=if x.2.2.2 then -1 else (x.2.1:Int)
def hoC (i:Nat) (x:Hst):List AV:=[.int .u64 (2199023951872+(i:Int)),.int .u32 (ipN i x),.int .i64 (x.1:Int),.int .i64 (sgN x)]
def zAE0 (B:List Bd):List (List AV):=B.mapIdx λi x=>bdC i x
def zAE2 (H:List Hst):List (List AV):=H.mapIdx λi x=>hoC i x
end Go.AM.TN
namespace Go.AM.TN
open Go Go.Proofs
variable {K : AV → Hq → Prop} {s s' s0 t : Hq} {lv uv v y w : AV} {b : Nat}
def offV (v:AV) (t:Hq):Hq:=match v with
 | .slc b _ _ _ _=>hdel t b
 | _=>t
theorem qLK {v:AV}:Sub (offV v t) t:=λi x hi=>by
 unfold offV at hi
 split at hi
 ·unfold hdel at hi
  split at hi
  ·cases hi
  ·exact hi
 ·exact hi
theorem _root_.Go.AM.AccR.own {elem:TypeId} {es:Nat} {rows:List (List AV)} (h:AccR elem es s0 t v rows) {i:Nat} (hi:s0 i≠none):∀ b o n c e,v=.slc b o n c e→i≠b:=λb o n c e q q2=>by
 rcases h.2 with ⟨r,_⟩ | ⟨j,r1,r2,_⟩
 ·rw [r] at q;cases q
 ·rw [r2] at q;cases q;exact hi (by rw [q2];exact r1)
structure FS (s0 H t:Hq) (b3 b24:Nat) (cs:List AV):Prop where
 tk:Tk s0 t b3
 fb:t b24=some (false,.cells 68 cs)
 sub:Sub H t
 n3:H b3=none
 n24:H b24=none
 base:Sub s0 H
 ne:b3≠b24
variable {H : Hq} {b3 b24 : Nat} {cs : List AV}
def ext (H t:Hq) (b3 b24:Nat):Hq:=λi=>if i=b3∨i=b24 then t i else H i
theorem FS.e1 (z:FS s0 H t b3 b24 cs) {i:Nat} (h:i=b3∨i=b24):ext H t b3 b24 i=t i:=if_pos h
theorem FS.e2 (z:FS s0 H t b3 b24 cs):Sub H (ext H t b3 b24):=λi e hi=>by
 unfold ext
 rw [if_neg]
 ·exact hi
 ·rintro (q | q)
  ·rw [q,z.n3] at hi;cases hi
  ·rw [q,z.n24] at hi;cases hi
theorem FS.step (z:FS s0 H t b3 b24 cs) {t2:Hq} (kp:qCR (λi=>i=b3) t t2) (tk2:Tk s0 t2 b3):FS s0 H t2 b3 b24 cs:=
 ⟨tk2,kp _ _ z.fb (Ne.symm z.ne),λi e hi=>kp _ _ (z.sub _ _ hi) λq=>(by rw [q,z.n3] at hi;cases hi),z.n3,z.n24,z.base,z.ne⟩
theorem Tk.hid {q:Nat} (h:Tk s0 t b) (hq:s0 q=none) (hb:b≠q):Tk s0 (hdel t q) b:=by
 obtain ⟨lv,l',i',q',q''⟩:=h.ex
 refine ⟨λj e hj=>?_,h.fr,lv,l',i',by rw [qQm hb];exact q',q''⟩
 have ne:j≠q:=λe=>by rw [e,hq] at hj;cases hj
 rw [qQm ne]
 exact h.sub _ _ hj
end Go.AM.TN
namespace Go.AM.TN
open Go Go.Proofs
variable {K : AV → Hq → Prop} {s s' s0 t H : Hq} {lv uv v y w : AV} {b b0 b3 b24 : Nat} {cs : List AV}
structure NX where
 lf:Nat
 sp:Nat
 el:Nat
 hz:Nat
 ro:Nat
 su:Bool
 tr:Bool
 de:Nat
 ag:Nat
def csF (x:NX) (v2 v3 v4 v5 v6 v7:AV):List AV:=[.int .i64 (x.lf:Int),.int .i64 (x.sp:Int),v2,v3,v4,v5,v6,v7,.int .i64 (x.el:Int),.int .i64 (x.hz:Int),.int .i64 (x.ro:Int),.bool x.su,.bool x.tr,.int .i64 (x.de:Int),.int .i64 9,.int .i64 (x.ag:Int),.int .i64 20,.int .i64 5,.int .i64 30]
def tnC (i:Nat):List AV:=[.int .u32 (100+(i:Int)),.int .u32 (900+(i:Int))]
def zAFG (n:Nat):List (List AV):=(List.range n).map tnC
structure NFab where
 x:NX
 L:List RLk
 n:Nat
 B:List Bd
 S:List Sg
 H:List Hst
 G:List Lkg
structure NFR (s:Hq) (cs:List AV) (F:NFab):Prop where
 ex:∃ v2 v3 v4 v5 v6 v7,cs=csF F.x v2 v3 v4 v5 v6 v7∧SlR 3 s v2 (F.L.map lkC)∧SlR 2 s v3 (zAFG F.n)∧SlR 6 s v4 (zAE0 F.B)∧SgR s v5 F.S∧SlR 4 s v6 (zAE2 F.H)∧SlR 4 s v7 (F.G.map lgC)
theorem NFR.sub {F:NFab} (h:NFR s cs F) (k:Sub s s'):NFR s' cs F:=by
 obtain ⟨v2,v3,v4,v5,v6,v7,e,h2,h3,h4,h5,h6,h7⟩:=h.ex
 exact ⟨v2,v3,v4,v5,v6,v7,e,h2.sub k,h3.sub k,h4.sub k,h5.sub k,h6.sub k,h7.sub k⟩
theorem NFR.len {F:NFab} (h:NFR s cs F):cs.length=19:=by
 obtain ⟨v2,v3,v4,v5,v6,v7,rfl,_⟩:=h.ex
 rfl
theorem NFR.all {F:NFab} (h:NFR s cs F):qAj cs=true:=by
 obtain ⟨v2,v3,v4,v5,v6,v7,rfl,h2,h3,h4,h5,h6,h7⟩:=h.ex
 simp [csF,h2.one,h3.one,h4.one,h5.one,h6.one,h7.one]
variable {x : NX} {v2 v3 v4 v5 v6 v7 : AV} {z0 : Bool × Blk} {R : Hq → Prop} {n many : Nat}
end Go.AM.TN
namespace Go.AM.TN
open Go Go.Proofs
variable {K : AV → Hq → Prop} {s s' s0 t H : Hq} {lv uv v y w : AV} {b b0 b3 b24 : Nat} {cs : List AV}
theorem qMy (a b c d e:Int) (f g:Bool):qBi [(.int .i64 0),(.int .i64 0),.nilslc,.nilslc,.nilslc,.nilslc,.nilslc,.nilslc,(.int .i64 0),(.int .i64 0),(.int .i64 0),(.bool false),(.bool false),(.int .i64 0),(.int .i64 0),(.int .i64 0),(.int .i64 0),(.int .i64 0),(.int .i64 0)] [(0,1,.int .i64 a),(1,1,.int .i64 b),(8,1,.int .i64 c),(9,1,.int .i64 d),(10,1,.int .i64 e),(11,1,.bool f),(12,1,.bool g)]=some [.int .i64 a,.int .i64 b,.nilslc,.nilslc,.nilslc,.nilslc,.nilslc,.nilslc,.int .i64 c,.int .i64 d,.int .i64 e,.bool f,.bool g,.int .i64 0,.int .i64 0,.int .i64 0,.int .i64 0,.int .i64 0,.int .i64 0]:=rfl
end Go.AM.TN
namespace Go.AM.TN
open Go Go.Proofs
variable {K R : AV → Hq → Prop} {s s' s0 t : Hq} {lv uv v y w : AV} {b c : Nat} {cs : List AV} {Y : Td}
abbrev BG:=Int × Int × Int × Int × Int × Int
abbrev R4:=Int × Int × Int × Int
structure FG where
 lf:Int
 sp:Int
 el:Int
 hz:Int
 ro:Int
 su:Bool
 tr:Bool
 de:Int
 ho:Int
 ag:Int
 re:Int
 mo:Int
 wi:Int
 L:List RLk
 T:List (Int × Int)
 B:List BG
 S:List (List Int × List Int)
 H:List R4
 G:List R4
def tgC (x:Int × Int):List AV:=[.int .u32 x.1,.int .u32 x.2]
def bgC (x:BG):List AV:=[.int .i64 x.1,.int .u32 x.2.1,.int .u32 x.2.2.1,.int .u32 x.2.2.2.1,.int .i64 x.2.2.2.2.1,.int .u32 x.2.2.2.2.2]
def hgC (x:R4):List AV:=[.int .u64 x.1,.int .u32 x.2.1,.int .i64 x.2.2.1,.int .i64 x.2.2.2]
def ggC (x:R4):List AV:=[.int .i64 x.1,.int .i64 x.2.1,.int .u32 x.2.2.1,.int .i64 x.2.2.2]
def ix (l:List Int):List AV:=l.map (AV.int .i64)
theorem qCG {l:List Int}:(ix l).length=l.length:=by unfold ix;simp
theorem qH7 {l:List Int} {i:Nat} (h:i < l.length):(ix l)[i]?=some (.int .i64 l[i]):=by unfold ix;simp [h]
def SgG (s:Hq) (v:AV) (S:List (List Int × List Int)):Prop:=∃ vs:List (AV × AV),SlR 2 s v (vs.map λp=>[p.1,p.2])∧vs.length=S.length∧∀ (i:Nat) (q:AV × AV) (x:List Int × List Int),vs[i]?=some q→S[i]?=some x→Sl s q.1 (ix x.1)∧Sl s q.2 (ix x.2)
theorem SgG.sub {S:List (List Int × List Int)} (h:SgG s v S) (k:Sub s s'):SgG s' v S:=by
 obtain ⟨vs,h1,h2,h3⟩:=h
 exact ⟨vs,h1.sub k,h2,λi q x a c=>⟨(h3 i q x a c).1.sub k,(h3 i q x a c).2.sub k⟩⟩
theorem SgG.len {S:List (List Int × List Int)} (h:SgG s v S):qAQ v=some S.length:=by
 obtain ⟨vs,h1,h2,_⟩:=h
 rw [h1.len,List.length_map,h2]
theorem SgG.one {S:List (List Int × List Int)} (h:SgG s v S):v.one=true:=by
 obtain ⟨vs,h1,_⟩:=h
 exact h1.one
theorem SgG.at {S:List (List Int × List Int)} (h:SgG s v S) {i:Nat} {x:List Int × List Int} (hx:S[i]?=some x):∃ pb po l1 l2,qAS 2 v (.int .i64 (i:Int))=some (.ptr pb po)∧rdN s 2 (.ptr pb po)=some [l1,l2]∧rd1 s (.ptr pb po)=some l1∧rd1 s (.ptr pb (po+1))=some l2∧Sl s l1 (ix x.1)∧Sl s l2 (ix x.2):=by
 obtain ⟨vs,h1,h2,h3⟩:=h
 have hi:i < vs.length:=by rw [h2];exact (gS hx).1
 have hq:vs[i]?=some vs[i]:=gE hi
 obtain ⟨pb,po,e1,e2,e3⟩:=h1.get (i:=i) (r:=[vs[i].1,vs[i].2]) (by rw [List.getElem?_map,hq];rfl)
 obtain ⟨a,c⟩:=h3 i _ x hq hx
 exact ⟨pb,po,vs[i].1,vs[i].2,e1,e2,e3 0 (by omega),e3 1 (by omega),a,c⟩
def csG (F:FG) (v2 v3 v4 v5 v6 v7:AV):List AV:=[.int .i64 F.lf,.int .i64 F.sp,v2,v3,v4,v5,v6,v7,.int .i64 F.el,.int .i64 F.hz,.int .i64 F.ro,.bool F.su,.bool F.tr,.int .i64 F.de,.int .i64 F.ho,.int .i64 F.ag,.int .i64 F.re,.int .i64 F.mo,.int .i64 F.wi]
structure FL (s:Hq) (F:FG) (v2 v3 v4 v5 v6 v7:AV):Prop where
 L:SlR 3 s v2 (F.L.map lkC)
 T:SlR 2 s v3 (F.T.map tgC)
 B:SlR 6 s v4 (F.B.map bgC)
 S:SgG s v5 F.S
 H:SlR 4 s v6 (F.H.map hgC)
 G:SlR 4 s v7 (F.G.map ggC)
theorem FL.sub {F:FG} {v2 v3 v4 v5 v6 v7:AV} (h:FL s F v2 v3 v4 v5 v6 v7) (k:Sub s s'):FL s' F v2 v3 v4 v5 v6 v7:=⟨h.L.sub k,h.T.sub k,h.B.sub k,h.S.sub k,h.H.sub k,h.G.sub k⟩
theorem FL.all {F:FG} {v2 v3 v4 v5 v6 v7:AV} (h:FL s F v2 v3 v4 v5 v6 v7):qAj (csG F v2 v3 v4 v5 v6 v7)=true:=by
 simp [csG,h.L.one,h.T.one,h.B.one,h.S.one,h.H.one,h.G.one]
def FabR (s:Hq) (cs:List AV) (F:FG):Prop:=∃ v2 v3 v4 v5 v6 v7,cs=csG F v2 v3 v4 v5 v6 v7∧FL s F v2 v3 v4 v5 v6 v7
theorem FabR.sub {F:FG} (h:FabR s cs F) (k:Sub s s'):FabR s' cs F:=by
 obtain ⟨v2,v3,v4,v5,v6,v7,e,h⟩:=h
 exact ⟨v2,v3,v4,v5,v6,v7,e,h.sub k⟩
def outB (n lo hi:Int):Bool:=decide (n < lo)||decide (hi < n)
theorem qAk {n lo hi:Int}:outB n lo hi=false↔lo≤n∧n≤hi:=by unfold outB;simp
theorem qB0 (hY:Fn0 Y) {n lo hi:Int} (hK:K (.bool (outB n lo hi)) s):wC Tryz.prog Y 132 [.int .i64 n,.int .i64 lo,.int .i64 hi] K s:=by
 refine qQ2 hY.fr (hY.no _ rfl) ?_
 unfold outB at hK
 simp only [qPn,qAP,qAg,qAA]
 refine qAG (λe=>?_) (λe=>?_)
 ·rw [e] at hK ⊢
  exact hK
 ·rw [e] at hK ⊢
  exact hK
def inB (i n:Int):Bool:=decide (0≤i)&&decide (i < n)
theorem qMO {i n:Int}:inB i n=true↔0≤i∧i < n:=by unfold inB;simp
theorem qGd (hY:Fn0 Y) {i n:Int} (hK:K (.bool (inB i n)) s):wC Tryz.prog Y 95 [.int .i64 i,.int .i64 n] K s:=by
 refine qSQ hY.fr (hY.no _ rfl) ?_
 unfold inB at hK
 simp only [qTK,qBn,qAP,qAA]
 refine qAG (λe=>?_) (λe=>?_)
 ·rw [e] at hK ⊢
  exact hK
 ·rw [e] at hK ⊢
  exact hK
def flV (e:Int) (p:ByteArray) (i:Int):AV:=.ifc 150 (.agg [.int .i64 e,.str p,.int .i64 i])
theorem qBA {bad:Bool} {e i:Int} {p:ByteArray} (hK:bad=false→K (.tup []) s) (hR:bad=true→R (flV e p i) s):qAh Tryz.prog X0 SS 131 [.bool bad,.int .i64 e,.str p,.int .i64 i] K R s:=by
 refine qL9 ?_
 unfold qKg
 refine qAG (λq=>?_) hK
 exact qAH (a:=[.int .i64 e,.str p,.int .i64 i]) rfl (hR q)
end Go.AM.TN
namespace Go.AM.TN
open Go Go.Proofs
variable {K R : AV → Hq → Prop} {s s' s0 : Hq} {lv uv v y w : AV} {b c : Nat} {cs : List AV} {Y : Td} {F : FG} {v2 v3 v4 v5 v6 v7 : AV} {t : Bool}
theorem zAEK:(csG F v2 v3 v4 v5 v6 v7).length=19:=rfl
theorem csG0:(csG F v2 v3 v4 v5 v6 v7)[0]?=some (.int .i64 F.lf):=id rfl
theorem csG1:(csG F v2 v3 v4 v5 v6 v7)[1]?=some (.int .i64 F.sp):=id rfl
theorem csG2:(csG F v2 v3 v4 v5 v6 v7)[2]?=some v2:=id rfl
theorem csG3:(csG F v2 v3 v4 v5 v6 v7)[3]?=some v3:=id rfl
theorem csG4:(csG F v2 v3 v4 v5 v6 v7)[4]?=some v4:=id rfl
theorem csG5:(csG F v2 v3 v4 v5 v6 v7)[5]?=some v5:=id rfl
theorem csG6:(csG F v2 v3 v4 v5 v6 v7)[6]?=some v6:=id rfl
theorem csG7:(csG F v2 v3 v4 v5 v6 v7)[7]?=some v7:=id rfl
theorem csG8:(csG F v2 v3 v4 v5 v6 v7)[8]?=some (.int .i64 F.el):=id rfl
theorem csG9:(csG F v2 v3 v4 v5 v6 v7)[9]?=some (.int .i64 F.hz):=id rfl
theorem zAFK:(csG F v2 v3 v4 v5 v6 v7)[10]?=some (.int .i64 F.ro):=id rfl
theorem qMN {zs:List AV} (hz:zs.length=19) (hc:s c=some (t,.cells 153 (csG F v2 v3 v4 v5 v6 v7))) (hL:FL s F v2 v3 v4 v5 v6 v7) {J:Nat→Hq→Prop} (h:∀ b s',s' b=some (false,.cells 68 (csG F v2 v3 v4 v5 v6 v7))→Sub s s'→J b s') :
  oK (qBp (.ptr c 0)) λv0=>oK (qAE 0 v0) λv1=>oK (rdN s 19 v1) λv2=>newK 68 zs (λb s4=>oK (qAv s4 19 (.ptr b 0) (.agg v2)) λs5=>J b s5) s:=by
 simp only [qJP,qAB,zA,qAA]
 refine qAH (qAY hc rfl) (qAL λb s4 hb h4 u4=>qAU h4 (by rw [zAEK,hz]) hz hL.all λs5 h5 u5=>?_)
 exact h b s5 h5 (qAc (u4.sub hb) u5 hb)
structure FabOk (F:FG):Prop where
 lf:1≤F.lf∧F.lf≤32
 sp:0≤F.sp∧F.sp≤32
 sum:F.lf+F.sp≤32
 el:0≤F.el∧F.el≤2
 hz:0≤F.hz∧F.hz≤1
 ro:0≤F.ro∧F.ro≤1
abbrev Kok (s:Hq) (P:Prop) (K:AV→Hq→Prop):Prop:=P→∀ s',Sub s s'→K (.tup []) s'
abbrev Rbad (s:Hq) (P:Prop) (R:AV→Hq→Prop):Prop:=¬ P→∀ (e:Int) (p:ByteArray) (i:Int) s',e≠0→Sub s s'→R (flV e p i) s'
theorem qXr (hc:s c=some (t,.cells 153 (csG F v2 v3 v4 v5 v6 v7))) (hL:FL s F v2 v3 v4 v5 v6 v7) (hK:Kok s (FabOk F) K) (hR:Rbad s (FabOk F) R):qAh Tryz.prog X0 SS 107 [.ptr c 0] K R s:=by
 refine qTB (qMN rfl hc hL λb3 s5 h5 k5=>?_)
 simp only [qAB,zA,qAA,qAJ h5,csG0]
 have j2:∀ (x y:AV) (bad:Bool),qAV x (.bool true) y=some (.bool bad)→(bad=true→¬ FabOk F)→(bad=false→FabOk F)→qHM X0 x y K R s5:=λx y bad h h1 h2=>by
  unfold qHM
  rw [h]
  exact qBA (λq=>hK (h2 q) s5 k5) λq=>hR (h1 q) _ _ _ s5 (by omega) k5
 have j1:∀ (x y:AV) (bad:Bool),qAV x (.bool true) y=some (.bool bad)→(bad=true→¬ FabOk F)→(bad=false→outB F.ro 0 1=false→FabOk F)→qHP X0 (.ptr b3 0) x y K R s5:=λx y bad h h1 h2=>by
  unfold qHP
  rw [h]
  simp only [qAA]
  refine qAG (λq=>?_) (λq=>?_)
  ·exact j2 _ _ bad (by rw [q];rfl) h1 (λq2=>by rw [q] at q2;cases q2)
  ·simp only [qAB,zA,qAA,qAJ h5,zAFK]
   refine qB0 X0_0 ?_
   exact j2 _ _ (outB F.ro 0 1) (by rw [q];rfl) (λq2 q3=>by have:=qAk.2 q3.ro;rw [this] at q2;cases q2) (λq2=>h2 q q2)
 have j0:∀ (x y:AV) (bad:Bool),qAV x (.bool true) y=some (.bool bad)→(bad=true→¬ FabOk F)→(bad=false→(1≤F.lf∧F.lf≤32)∧(0≤F.sp∧F.sp≤32))→qHL X0 (.ptr b3 0) x y K R s5:=λx y bad h h1 h2=>by
  unfold qHL
  rw [h]
  simp only [qAA]
  refine qBA (λq=>?_) λq=>hR (h1 q) _ _ _ s5 (by omega) k5
  obtain ⟨g1,g2⟩:=h2 q
  simp only [qAB,zA,qAA,qAJ h5,csG0,csG1,qAT,qAg]
  rw [qAX (by omega) (by omega)]
  refine qBA (λq2=>?_) λq2=>hR (λg=>by have:=oT q2;have:=g.sum;omega) _ _ _ s5 (by omega) k5
  have g3:=oF q2
  simp only [qAJ h5,csG8,qAA]
  refine qB0 X0_0 ?_
  have fin:outB F.el 0 2=false→outB F.hz 0 1=false→outB F.ro 0 1=false→FabOk F:=λa b c=>⟨g1,g2,by omega,qAk.1 a,qAk.1 b,qAk.1 c⟩
  refine qAG (λq=>?_) (λq=>?_)
  ·exact j1 _ _ true (by rw [q];rfl) (λ_ g=>by have:=qAk.2 g.el;rw [this] at q;cases q) (λq2=>by cases q2)
  ·simp only [qAA,qAJ h5,csG9]
   refine qB0 X0_0 ?_
   exact j1 _ _ (outB F.hz 0 1) (by rw [q];rfl) (λq2 g=>by have:=qAk.2 g.hz;rw [this] at q2;cases q2) (λq2 q3=>fin q q2 q3)
 refine qB0 X0_0 ?_
 refine qAG (λq=>?_) (λq=>?_)
 ·exact j0 _ _ true (by rw [q];rfl) (λ_ g=>by have:=qAk.2 g.lf;rw [this] at q;cases q) (λq2=>by cases q2)
 ·simp only [qAA,qAJ h5,csG1]
  refine qB0 X0_0 ?_
  exact j0 _ _ (outB F.sp 0 32) (by rw [q];rfl) (λq2 g=>by have:=qAk.2 g.sp;rw [this] at q2;cases q2) (λq2=>⟨qAk.1 q,qAk.1 q2⟩)
structure TimOk (F:FG):Prop where
 de:1≤F.de∧F.de≤100
 ho:3≤F.ho∧F.ho≤1000
 ag:1≤F.ag∧F.ag≤10000
 re:0≤F.re∧F.re≤1000
 mo:1≤F.mo∧F.mo≤100
 wi:1≤F.wi∧F.wi≤10000
theorem qXo (hc:s c=some (t,.cells 153 (csG F v2 v3 v4 v5 v6 v7))) (hK:Kok s (TimOk F) K) (hR:Rbad s (TimOk F) R):qAh Tryz.prog X0 SS 108 [.ptr c 0] K R s:=by
 refine qSa ?_
 unfold qSL
 simp only [qJP,qAB,zA,qAA]
 have hrd:rdN s 6 (.ptr c 13)=some [.int .i64 F.de,.int .i64 F.ho,.int .i64 F.ag,.int .i64 F.re,.int .i64 F.mo,.int .i64 F.wi]:=by
  simp only [rdN,hc]
  rfl
 refine qAH hrd (qAL λb4 s5 hb h5' u5=>qAU h5' rfl rfl rfl λs6 h6 u6=>?_)
 have k6:Sub s s6:=qAc (u5.sub hb) u6 hb
 have c0:rd1 s6 (.ptr b4 0)=some (.int .i64 F.de):=by rw [qAJ h6];rfl
 have c1:rd1 s6 (.ptr b4 1)=some (.int .i64 F.ho):=by rw [qAJ h6];rfl
 have c2:rd1 s6 (.ptr b4 2)=some (.int .i64 F.ag):=by rw [qAJ h6];rfl
 have c3:rd1 s6 (.ptr b4 3)=some (.int .i64 F.re):=by rw [qAJ h6];rfl
 have c4:rd1 s6 (.ptr b4 4)=some (.int .i64 F.mo):=by rw [qAJ h6];rfl
 have c5:rd1 s6 (.ptr b4 5)=some (.int .i64 F.wi):=by rw [qAJ h6];rfl
 have j3:∀ (x y:AV) (bad:Bool),qAV x (.bool true) y=some (.bool bad)→(bad=true→¬ TimOk F)→(bad=false→TimOk F)→qHI X0 x y K R s6:=λx y bad h h1 h2=>by
  unfold qHI
  rw [h]
  exact qBA (λq=>hK (h2 q) s6 k6) λq=>hR (h1 q) _ _ _ s6 (by omega) k6
 have j2:∀ (x y:AV) (bad:Bool),qAV x (.bool true) y=some (.bool bad)→(bad=true→¬ TimOk F)→(bad=false→outB F.wi 1 10000=false→TimOk F)→qHS X0 (.ptr b4 0) x y K R s6:=λx y bad h h1 h2=>by
  unfold qHS
  rw [h]
  simp only [qAA]
  refine qAG (λq=>?_) (λq=>?_)
  ·exact j3 _ _ bad (by rw [q];rfl) h1 (λq2=>by rw [q] at q2;cases q2)
  ·simp only [qAB,zA,qAA,c5]
   refine qB0 X0_0 ?_
   exact j3 _ _ (outB F.wi 1 10000) (by rw [q];rfl) (λq2 g=>by have:=qAk.2 g.wi;rw [this] at q2;cases q2) (λq2=>h2 q q2)
 have j1:∀ (x y:AV) (bad:Bool),qAV x (.bool true) y=some (.bool bad)→(bad=true→¬ TimOk F)→(bad=false→outB F.re 0 1000=false→outB F.mo 1 100=false→outB F.wi 1 10000=false→TimOk F)→qHC X0 (.ptr b4 0) x y K R s6:=λx y bad h h1 h2=>by
  unfold qHC
  rw [h]
  simp only [qAA]
  refine qBA (λq=>?_) λq=>hR (h1 q) _ _ _ s6 (by omega) k6
  simp only [qAB,zA,qAA,c3]
  refine qB0 X0_0 ?_
  refine qAG (λq2=>?_) (λq2=>?_)
  ·exact j2 _ _ true (by rw [q2];rfl) (λ_ g=>by have:=qAk.2 g.re;rw [this] at q2;cases q2) (λq2=>by cases q2)
  ·simp only [qAA,c4]
   refine qB0 X0_0 ?_
   exact j2 _ _ (outB F.mo 1 100) (by rw [q2];rfl) (λq3 g=>by have:=qAk.2 g.mo;rw [this] at q3;cases q3) (λq3 q4=>h2 q q2 q3 q4)
 have j0:∀ (x y:AV) (bad:Bool),qAV x (.bool true) y=some (.bool bad)→(bad=true→¬ TimOk F)→(bad=false→outB F.ag 1 10000=false→outB F.re 0 1000=false→outB F.mo 1 100=false→outB F.wi 1 10000=false→TimOk F)→qHJ X0 (.ptr b4 0) x y K R s6:=λx y bad h h1 h2=>by
  unfold qHJ
  rw [h]
  simp only [qAA]
  refine qAG (λq=>?_) (λq=>?_)
  ·exact j1 _ _ bad (by rw [q];rfl) h1 (λq2=>by rw [q] at q2;cases q2)
  ·simp only [qAB,zA,qAA,c2]
   refine qB0 X0_0 ?_
   exact j1 _ _ (outB F.ag 1 10000) (by rw [q];rfl) (λq2 g=>by have:=qAk.2 g.ag;rw [this] at q2;cases q2) (λq2=>h2 q q2)
 simp only [qAA,c0]
 refine qB0 X0_0 ?_
 refine qAG (λq=>?_) (λq=>?_)
 ·exact j0 _ _ true (by rw [q];rfl) (λ_ g=>by have:=qAk.2 g.de;rw [this] at q;cases q) (λq2=>by cases q2)
 ·simp only [qAA,c1]
  refine qB0 X0_0 ?_
  exact j0 _ _ (outB F.ho 3 1000) (by rw [q];rfl) (λq2 g=>by have:=qAk.2 g.ho;rw [this] at q2;cases q2) (λq2 q3 q4 q5 q6=>⟨qAk.1 q,qAk.1 q2,qAk.1 q3,qAk.1 q4,qAk.1 q5,qAk.1 q6⟩)
end Go.AM.TN
namespace Go.AM.TN
open Go Go.Proofs
variable {K R : AV → Hq → Prop} {s s' s0 : Hq} {lv uv v y w k : AV} {b c mb rb : Nat} {cs : List AV} {Y : Td}
def qPO (q:AV→AV→Option Bool) (k:AV):List AEnt→Nat→Option (Option (Nat × AV))
 | [],_=>some none
 | e :: es,i=>match q k e.key with
   | some true=>some (some (i,e.val))
   | some false=>qPO q k es (i+1)
   | none=>none
theorem qUh (k:AV):∀ (es:List AEnt) (i:Nat),qQ0 k es i=qPO (qPI (.int .i64)) k es i
 | [],_=>rfl
 | e :: es,i=>by
   unfold qQ0 qPO
   rw [qUh k es (i+1)]
   cases qPI (.int .i64) k e.key with
   | none=>rfl
   | some b=>cases b <;> rfl
theorem qUD (P:Program) (kt:TypeId) (d:TypeDesc) (k:AV):∀ (es:List AEnt) (i:Nat),qIx P kt d k es i=qPO (qJd P kt d) k es i
 | [],_=>rfl
 | e :: es,i=>by
   unfold qIx qPO
   rw [qUD P kt d k es (i+1)]
   cases qJd P kt d k e.key with
   | none=>rfl
   | some b=>cases b <;> rfl
def Dec (q:AV→AV→Option Bool) (U:AV→Prop):Prop:=∀ k k',U k→U k'→∃ b,q k k'=some b∧(b=true↔k=k')
structure SM (U:AV→Prop) (s:Hq) (mb:Nat) (keys:List AV):Prop where
 ex:∃ es cl,s mb=some (false,.map es cl)∧(∀ e∈es,e.val=.bool true)∧∀ k,k∈es.map (·.key)↔k∈keys
 all:∀ k∈keys,U k
theorem qPv {q:AV→AV→Option Bool} {U:AV→Prop} (hq:Dec q U) {k:AV} (hk:U k):∀ (es:List AEnt) (i:Nat),(∀ e∈es,U e.key)→
  (qPO q k es i=some none∧k ∉ es.map (·.key))∨∃ j e,es[j]?=some e∧e.key=k∧qPO q k es i=some (some (i+j,e.val))
 | [],i,_=>.inl ⟨rfl,by simp⟩
 | e :: es,i,h=>by
   obtain ⟨b,h1,h2⟩:=hq k e.key hk (h e (by simp))
   unfold qPO
   rw [h1]
   cases b with
   | true=>exact .inr ⟨0,e,rfl,(h2.1 rfl).symm,by simp⟩
   | false=>
     have hne:k≠e.key:=λq=>by have:=h2.2 q;cases this
     rcases qPv hq hk es (i+1) (λe' he'=>h e' (by simp [he'])) with ⟨g1,g2⟩ | ⟨j,e',g1,g2,g3⟩
     ·exact .inl ⟨g1,by simp only [List.map_cons,List.mem_cons,not_or];exact ⟨hne,g2⟩⟩
     ·exact .inr ⟨j+1,e',by simpa using g1,g2,by simp only;rw [g3];congr 3;omega⟩
theorem qU4 {k v:AV}:∀ {es:List AEnt} {j:Nat} {e:AEnt},es[j]?=some e→e.key=k→(modE es j λe=>{ e with key:=k,val:=v }).map (·.key)=es.map (·.key)
 | [],_,_,h,_=>by simp at h
 | x :: es,0,e,h,he=>by
   have:x=e:=by simpa using h
   subst this
   show k :: es.map (·.key)=_
   rw [List.map_cons,he]
 | x :: es,j+1,e,h,he=>by
   show x.key :: (modE es j _).map (·.key)=_
   rw [qU4 (es:=es) (by simpa using h) he,List.map_cons]
theorem qVY {k v:AV}:∀ {es:List AEnt} {j:Nat},(∀ e∈es,e.val=v)→∀ e∈modE es j (λe=>{ e with key:=k,val:=v }),e.val=v
 | [],0,_,e,h=>by cases h
 | [],_+1,_,e,h=>by cases h
 | x :: es,0,hv,e,h=>by
   have h:e∈({ x with key:=k,val:=v }:AEnt) :: es:=h
   rcases List.mem_cons.1 h with rfl | h
   ·rfl
   ·exact hv e (by simp [h])
 | x :: es,j+1,hv,e,h=>by
   have h:e∈x :: modE es j (λe=>{ e with key:=k,val:=v }):=h
   rcases List.mem_cons.1 h with rfl | h
   ·exact hv e (by simp)
   ·exact qVY (λe he=>hv e (by simp [he])) e h
section
variable {q : AV → AV → Option Bool} {U : AV → Prop} {keys : List AV}
theorem SM.fnd (h:SM U s mb keys) (hq:Dec q U) (hk:U k):∃ es cl,s mb=some (false,.map es cl)∧((qPO q k es 0=some none∧k ∉ keys)∨∃ j e,es[j]?=some e∧e.key=k∧qPO q k es 0=some (some (j,.bool true))∧k∈keys)∧(∀ e∈es,e.val=.bool true)∧∀ k,k∈es.map (·.key)↔k∈keys:=by
 obtain ⟨es,cl,h1,h2,h3⟩:=h.ex
 refine ⟨es,cl,h1,?_,h2,h3⟩
 rcases qPv hq hk es 0 λe he=>h.all _ ((h3 _).1 (List.mem_map.2 ⟨e,he,rfl⟩)) with ⟨g1,g2⟩ | ⟨j,e,g1,g2,g3⟩
 ·exact .inl ⟨g1,λhm=>g2 ((h3 _).2 hm)⟩
 ·have he:=List.mem_of_getElem? g1
  exact .inr ⟨j,e,g1,g2,by rw [g3,zA,h2 e he],(h3 _).1 (List.mem_map.2 ⟨e,he,g2⟩)⟩
theorem SM.next {es:List AEnt} {cl:Nat} (h:SM U s mb keys) (hk:U k) (hv:∀ e∈es,e.val=.bool true) (h3:∀ k,k∈es.map (·.key)↔k∈keys) {es':List AEnt} {cl':Nat} (hb:s' mb=some (false,.map es' cl'))
  (hes:(∃ j e,es[j]?=some e∧e.key=k∧k∈keys∧es'=modE es j λe=>{ e with key:=k,val:=.bool true })∨es'=es ++ [{ key:=k,val:=.bool true,born:=cl }]):SM U s' mb (keys ++ [k]):=by
 refine ⟨⟨es',cl',hb,λe he=>?_,λk'=>?_⟩,λk' hk'=>?_⟩
 ·rcases hes with ⟨j,e0,g1,g2,_,rfl⟩ | rfl
  ·exact qVY hv e he
  ·rcases List.mem_append.1 he with he | he
   ·exact hv e he
   ·rw [List.mem_singleton] at he
    rw [he]
 ·rcases hes with ⟨j,e0,g1,g2,g3,rfl⟩ | rfl
  ·rw [qU4 g1 g2,h3,List.mem_append,List.mem_singleton]
   exact ⟨.inl,λq=>q.elim id λe=>by rw [e];exact g3⟩
  ·rw [List.map_append,List.mem_append,h3,List.mem_append]
   simp
 ·rcases List.mem_append.1 hk' with q | q
  ·exact h.all _ q
  ·rw [List.mem_singleton] at q
   rw [q];exact hk
theorem SM.sub (h:SM U s mb keys) (k:Sub s s'):SM U s' mb keys:=by
 obtain ⟨es,cl,h1,h2,h3⟩:=h.ex
 exact ⟨⟨es,cl,k _ _ h1,h2,h3⟩,h.all⟩
theorem SM.upto (h:SM U s mb keys) (u:Upto b s s') (hb:mb≠b):SM U s' mb keys:=by
 obtain ⟨es,cl,h1,h2,h3⟩:=h.ex
 exact ⟨⟨es,cl,by rw [u _ hb];exact h1,h2,h3⟩,h.all⟩
end
def qPK (v:AV):Prop:=∃ n,v=.int .u32 n
theorem qXY:Dec (qPI (.int .i64)) qPK:=by
 rintro k k' ⟨n,rfl⟩ ⟨m,rfl⟩
 refine ⟨n == m,?_,?_⟩
 ·show cond (qBm .u32 .u32) (some (eqI n m)) none=_
  rw [qFm];rfl
 ·simp
variable {keys : List AV} {U : AV → Prop}
theorem SM.getM {n:Int} (h:SM qPK s mb keys) {J:Option AV→Prop} (hJ:∀ r b,retM (.bool false) false r=.bool b→(b=true↔AV.int .u32 n∈keys)→J r):oK (AM.getM s (.map mb) (.int .u32 n)) J:=by
 obtain ⟨es,cl,h1,h2,_⟩:=h.fnd qXY ⟨n,rfl⟩
 unfold AM.getM
 simp only [h1,qUh]
 rcases h2 with ⟨g1,g2⟩ | ⟨j,e,_,_,g1,g2⟩
 ·rw [g1]
  exact hJ none false rfl ⟨λq=>(by cases q),λq=>absurd q g2⟩
 ·rw [g1]
  exact hJ _ true rfl ⟨λ_=>g2,λ_=>rfl⟩
theorem SM.putM {n:Int} (h:SM qPK s mb keys) {J:Hq→Prop} (hJ:∀ s',SM qPK s' mb (keys ++ [.int .u32 n])→Upto mb s s'→J s'):oK (AM.putM s (.map mb) (.int .u32 n) (.bool true)) J:=by
 obtain ⟨es,cl,h1,h2,hv,h3⟩:=h.fnd qXY (k:=.int .u32 n) ⟨n,rfl⟩
 unfold AM.putM putE
 simp only [h1,qUh]
 rcases h2 with ⟨g1,g2⟩ | ⟨j,e,g0,g3,g1,g2⟩
 ·rw [g1]
  exact hJ _ (h.next (cl:=cl) ⟨n,rfl⟩ hv h3 qCl (.inr rfl)) λ_ hi=>qBf hi
 ·rw [g1]
  exact hJ _ (h.next (cl:=cl) ⟨n,rfl⟩ hv h3 qCl (.inl ⟨j,e,g0,g3,g2,rfl⟩)) λ_ hi=>qBf hi
structure KT (P:Program) (kt:TypeId) (U:AV→Prop):Prop where
 ex:∃ d,P.underlying kt=some d∧aggD d=true∧Dec (qJd P kt d) U
 ok:∀ k,U k→qFX P 10 kt k=true
variable {P : Program}
theorem SM.getG {kt:TypeId} (hT:KT P kt U) (h:SM U s mb keys) (hk:U k) {J:Option AV→Prop} (hJ:∀ r b,retM (.bool false) false r=.bool b→(b=true↔k∈keys)→J r):oK (AM.getG P kt s (.map mb) k) J:=by
 obtain ⟨d,hd,ha,hq⟩:=hT.ex
 obtain ⟨es,cl,h1,h2,_⟩:=h.fnd hq hk
 unfold AM.getG
 rw [hd]
 simp only [ha,hT.ok k hk,Bool.and_self,cond_true,h1,qUD]
 rcases h2 with ⟨g1,g2⟩ | ⟨j,e,_,_,g1,g2⟩
 ·rw [g1]
  exact hJ none false rfl ⟨λq=>(by cases q),λq=>absurd q g2⟩
 ·rw [g1]
  exact hJ _ true rfl ⟨λ_=>g2,λ_=>rfl⟩
theorem SM.putG {kt:TypeId} (hT:KT P kt U) (h:SM U s mb keys) (hk:U k) {J:Hq→Prop} (hJ:∀ s',SM U s' mb (keys ++ [k])→Upto mb s s'→J s'):oK (AM.putG P kt s (.map mb) k (.bool true)) J:=by
 obtain ⟨d,hd,ha,hq⟩:=hT.ex
 obtain ⟨es,cl,h1,h2,hv,h3⟩:=h.fnd hq hk
 unfold AM.putG
 rw [hd]
 simp only [ha,hT.ok k hk,Bool.and_self,cond_true,h1,qUD]
 rcases h2 with ⟨g1,g2⟩ | ⟨j,e,g0,g3,g1,g2⟩
 ·rw [g1]
  exact hJ _ (h.next (cl:=cl) hk hv h3 qCl (.inr rfl)) λ_ hi=>qBf hi
 ·rw [g1]
  exact hJ _ (h.next (cl:=cl) hk hv h3 qCl (.inl ⟨j,e,g0,g3,g2,rfl⟩)) λ_ hi=>qBf hi
structure RepR (s:Hq) (v:AV) (ks:List AV):Prop where
 ex:∃ bs:List Bool,Sl s v (bs.map AV.bool)∧bs.length=ks.length∧∀ (j:Nat) b,bs[j]?=some b→(b=true↔∃ k,ks[j]?=some k∧k∈ks.take j)
theorem RepR.sub {ks:List AV} (h:RepR s v ks) (k:Sub s s'):RepR s' v ks:=by
 obtain ⟨bs,h1,h2,h3⟩:=h.ex
 exact ⟨bs,h1.sub k,h2,h3⟩
theorem RepR.at {ks:List AV} (h:RepR s v ks) {j:Nat} {k:AV} (hk:ks[j]?=some k):∃ p b,qAS 1 v (.int .i64 (j:Int))=some p∧rd1 s p=some (.bool b)∧(b=true↔k∈ks.take j):=by
 obtain ⟨bs,h1,h2,h3⟩:=h.ex
 have hj:j < bs.length:=by rw [h2];exact (gS hk).1
 obtain ⟨p,g1,g2⟩:=h1.get (i:=j) (by simpa using hj)
 have hb:bs[j]?=some bs[j]:=gE hj
 refine ⟨p,bs[j],g1,by rw [g2,List.getElem?_map,hb];rfl,(h3 j _ hb).trans ⟨λ⟨k',e1,e2⟩=>?_,λe=>⟨k,hk,e⟩⟩⟩
 rw [hk] at e1
 cases e1
 exact e2
structure RP (U:AV→Prop) (s0 s:Hq) (mb rb:Nat) (ks:List AV) (i:Nat):Prop where
 keep:Sub s0 s
 nm:s0 mb=none
 nr:s0 rb=none
 ne:mb≠rb
 map:SM U s mb (ks.take i)
 arr:∃ bs:List Bool,s rb=some (false,.cells 4 (bs.map AV.bool))∧bs.length=ks.length∧∀ (j:Nat) b,j < i→bs[j]?=some b→(b=true↔∃ k,ks[j]?=some k∧k∈ks.take j)
theorem RP.sub {ks:List AV} {i:Nat} (h:RP U s0 s mb rb ks i) (k:Sub s s'):RP U s0 s' mb rb ks i:=by
 obtain ⟨bs,h1,h2,h3⟩:=h.arr
 exact ⟨h.keep.trans k,h.nm,h.nr,h.ne,h.map.sub k,bs,k _ _ h1,h2,h3⟩
theorem RP.put {ks:List AV} {i:Nat} {k:AV} {b:Bool} (h:RP U s0 s mb rb ks i) (hk:ks[i]?=some k) (hb:b=true↔k∈ks.take i) {J:Hq→Prop}
  (hJ:∀ (s':Hq) (bs:List Bool),SM U s' mb (ks.take i)→Sub s0 s'→s' rb=some (false,.cells 4 (bs.map AV.bool))→bs.length=ks.length→(∀ (j:Nat) b,j < i+1→bs[j]?=some b→(b=true↔∃ k,ks[j]?=some k∧k∈ks.take j))→J s') :
  oK (qAS 1 (.slc rb 0 ks.length (some ks.length) 1) (.int .i64 (i:Int))) λp=>oK (wr1 s p (.bool b)) J:=by
 obtain ⟨bs,h1,h2,h3⟩:=h.arr
 have hi:i < ks.length:=(gS hk).1
 have e1:qAS 1 (.slc rb 0 ks.length (some ks.length) 1) (.int .i64 (i:Int))=some (.ptr rb i):=by
  have:Nat.blt i ks.length=true:=by rw [Nat.blt_eq];exact hi
  simp [qAS,this]
 rw [e1]
 simp only [qAA]
 refine qEB h1 (by simp;omega) rfl λs' h4 u4=>?_
 refine hJ s' (bs.set i b) (h.map.upto u4 h.ne) (qAc h.keep u4 h.nr) (by rw [h4,List.map_set]) (by simp [h2]) λj b' hj hb'=>?_
 by_cases e:i=j
 ·subst e
  rw [List.getElem?_set_self (by omega)] at hb'
  cases hb'
  exact hb.trans ⟨λq=>⟨k,hk,q⟩,λ⟨k',q1,q2⟩=>by rw [hk] at q1;cases q1;exact q2⟩
 ·rw [List.getElem?_set_ne e] at hb'
  exact h3 j b' (by omega) hb'
theorem RP.done {ks:List AV} (h:RP U s0 s mb rb ks ks.length):RepR s (.slc rb 0 ks.length (some ks.length) 1) ks:=by
 obtain ⟨bs,h1,h2,h3⟩:=h.arr
 refine ⟨bs,Sl.mk h1 (by simp [h2]) (λc e=>by cases e;simp [h2]),h2,λj b hb=>h3 j b ?_ hb⟩
 rw [← h2]
 exact (gS hb).1
theorem RP.start {ks:List AV} (h1:s0 mb=none) (h2:s0 rb=none) (hne:mb≠rb) (hs:Sub s0 s) (hm:s mb=some (false,.map [] 0)) (hr:s rb=some (false,.cells 4 (repl ks.length [.bool false]))):RP U s0 s mb rb ks 0:=
 ⟨hs,h1,h2,hne,⟨⟨[],0,hm,by simp,by simp⟩,by simp⟩,List.replicate ks.length false,by rw [hr,qVg];simp,by simp,λj b hj=>by omega⟩
end Go.AM.TN
set_option maxRecDepth 100000
namespace Go.AM.TN
open Go Go.Proofs
variable {K R : AV → Hq → Prop} {s s' s0 : Hq} {lv uv v y w k : AV} {b c mb rb : Nat} {cs : List AV} {Y : Td} {U : AV → Prop}
theorem qPB {k:IntKind} {n:Int} {p:Prop}:intK (.int k n) p=p:=id rfl
theorem RP.putU {ks:List AV} {i:Nat} {k:AV} {b:Bool} (h:RP U s0 s mb rb ks i) (hk:ks[i]?=some k) (hb:b=true↔k∈ks.take i) {J:Hq→Prop}
  (hJ:∀ (s':Hq) (bs:List Bool),SM U s' mb (ks.take i)→Sub s0 s'→s' rb=some (false,.cells 4 (bs.map AV.bool))→bs.length=ks.length→(∀ (j:Nat) b,j < i+1→bs[j]?=some b→(b=true↔∃ k,ks[j]?=some k∧k∈ks.take j))→Upto rb s s'→J s') :
  oK (qAS 1 (.slc rb 0 ks.length (some ks.length) 1) (.int .i64 (i:Int))) λp=>oK (wr1 s p (.bool b)) J:=by
 obtain ⟨bs,h1,h2,h3⟩:=h.arr
 have hi:i < ks.length:=(gS hk).1
 have e1:qAS 1 (.slc rb 0 ks.length (some ks.length) 1) (.int .i64 (i:Int))=some (.ptr rb i):=by
  have:Nat.blt i ks.length=true:=by rw [Nat.blt_eq];exact hi
  simp [qAS,this]
 rw [e1]
 simp only [qAA]
 refine qEB h1 (by simp;omega) rfl λs' h4 u4=>?_
 refine hJ s' (bs.set i b) (h.map.upto u4 h.ne) (qAc h.keep u4 h.nr) (by rw [h4,List.map_set]) (by simp [h2]) (λj b' hj hb'=>?_) u4
 by_cases e:i=j
 ·subst e
  rw [List.getElem?_set_self (by omega)] at hb'
  cases hb'
  exact hb.trans ⟨λq=>⟨k,hk,q⟩,λ⟨k',q1,q2⟩=>by rw [hk] at q1;cases q1;exact q2⟩
 ·rw [List.getElem?_set_ne e] at hb'
  exact h3 j b' (by omega) hb'
theorem zABp (hY:Fn0 Y) {A:Type} {rows:List A} {rowC:A→List AV} (hl:∀ x,(rowC x).length=2) (ho:∀ x,qAj (rowC x)=true) {key1:AV} {kf:A→Int} (hkey:∀ (x:A) (s:Hq) (J:AV→Hq→Prop),(∀ s',Sub s s'→J (AV.int .u32 (kf x)) s')→funK Tryz.prog Y key1 [.agg (rowC x)] J s) (hv:SlR 2 s v (rows.map rowC)) (hn:rows.length≤4294967296) (hK:∀ s' r,Sub s s'→RepR s' r (rows.map λx=>AV.int .u32 (kf x))→K r s'):wC Tryz.prog Y 135 [v,key1] K s:=by
 refine qHt hY.fr (hY.no _ rfl) ?_
 unfold qFW
 have hlen:qAQ v=some rows.length:=by rw [hv.len,List.length_map]
 have hkl0:(rows.map λx=>AV.int .u32 (kf x)).length=rows.length:=List.length_map _
 rw [hlen]
 simp only [qAA]
 rw [qPB]
 intro mb hmb
 simp only [nat?_mk,qAA]
 refine ⟨⟨Nat.le_refl _,hn⟩,qAL λrb s9 hrb h9 u9=>?_⟩
 have k3:Sub s (hset s mb (false,.map [] 0)):=qNf hmb
 have hne:mb≠rb:=λe=>by rw [← e,qCl] at hrb;cases hrb
 have hsrb:s rb=none:=by rw [qBf (Ne.symm hne)] at hrb;exact hrb
 have hm9:s9 mb=some (false,.map [] 0):=by rw [u9 _ hne,qCl]
 have rp0:RP qPK s s9 mb rb (rows.map λx=>AV.int .u32 (kf x)) 0:=.start hmb hsrb hne (k3.trans (u9.sub hrb)) hm9 (by rw [hkl0];exact h9)
 refine ⟨λys t m=>∃ i:Nat,ys=[.int .i64 (i:Int)]∧i≤rows.length∧m=rows.length - i∧RP qPK s t mb rb (rows.map λx=>AV.int .u32 (kf x)) i,⟨_,0,rfl,by omega,rfl,rp0⟩,?_⟩
 rintro f t m ⟨i,hy,hi,rfl,rp⟩
 simp only [cI,and_true] at hy
 rw [hy]
 simp only [qEV,qAP,qAA]
 refine qAG (λhlt=>?_) (λhge=>?_)
 rotate_left
 ·have hge:i=rows.length:=by have:=oF hge;omega
  subst hge
  have:=RP.done (by rw [hkl0];exact rp)
  rw [hkl0] at this
  exact hK t _ rp.keep this
 have hlt:i < rows.length:=by have:=oT hlt;omega
 have hx:rows[i]?=some rows[i]:=gE hlt
 generalize rows[i]=x at hx
 obtain ⟨pb,po,e1,e2,_⟩:=(hv.sub rp.keep).get (i:=i) (r:=rowC x) (by rw [List.getElem?_map,hx];rfl)
 have hkx:(rows.map λx=>AV.int .u32 (kf x))[i]?=some (AV.int .u32 (kf x)):=by rw [List.getElem?_map,hx];rfl
 rw [e1]
 simp only [qAA,e2]
 refine qAL λb15 s16 hb15 h16 u16=>qAU h16 (by rw [hl x];rfl) rfl (ho x) λs17 h17 u17=>qAH (qAY h17 (hl x)) ?_
 have k17:Sub t s17:=qAc (u16.sub hb15) u17 hb15
 refine hkey x s17 _ λs20 k20=>?_
 have rp20:=rp.sub (k17.trans k20)
 refine rp20.map.getM λr b hr hb=>?_
 rw [hr]
 rw [← hkl0]
 refine rp20.put hkx hb λs23 bs sm23 k23 h23 hbl hbs=>?_
 refine sm23.putM λs24 sm24 u24=>?_
 have rp24:RP qPK s s24 mb rb (rows.map λx=>AV.int .u32 (kf x)) (i+1):=⟨qAc k23 u24 hmb,hmb,hsrb,hne,by rw [List.take_add_one,hkx];exact sm24,bs,by rw [u24 _ (Ne.symm hne)];exact h23,hbl,hbs⟩
 simp only [qAT,qAA]
 rw [qAX (by omega) (by omega)]
 exact ⟨_,by omega,i+1,rfl,by omega,rfl,rp24⟩
theorem zABx (hY:Fn0 Y) {A:Type} {rows:List A} {rowC:A→List AV} (hl:∀ x,(rowC x).length=6) (ho:∀ x,qAj (rowC x)=true) {key1:AV} {kf:A→Int} (hkey:∀ (x:A) (s:Hq) (J:AV→Hq→Prop),(∀ s',Sub s s'→J (AV.int .u32 (kf x)) s')→funK Tryz.prog Y key1 [.agg (rowC x)] J s) (hv:SlR 6 s v (rows.map rowC)) (hn:rows.length≤4294967296) (hK:∀ s' r,Sub s s'→RepR s' r (rows.map λx=>AV.int .u32 (kf x))→K r s'):wC Tryz.prog Y 138 [v,key1] K s:=by
 refine qKX hY.fr (hY.no _ rfl) ?_
 unfold qH1
 have hlen:qAQ v=some rows.length:=by rw [hv.len,List.length_map]
 have hkl0:(rows.map λx=>AV.int .u32 (kf x)).length=rows.length:=List.length_map _
 rw [hlen]
 simp only [qAA]
 rw [qPB]
 intro mb hmb
 simp only [nat?_mk,qAA]
 refine ⟨⟨Nat.le_refl _,hn⟩,qAL λrb s9 hrb h9 u9=>?_⟩
 have k3:Sub s (hset s mb (false,.map [] 0)):=qNf hmb
 have hne:mb≠rb:=λe=>by rw [← e,qCl] at hrb;cases hrb
 have hsrb:s rb=none:=by rw [qBf (Ne.symm hne)] at hrb;exact hrb
 have hm9:s9 mb=some (false,.map [] 0):=by rw [u9 _ hne,qCl]
 have rp0:RP qPK s s9 mb rb (rows.map λx=>AV.int .u32 (kf x)) 0:=.start hmb hsrb hne (k3.trans (u9.sub hrb)) hm9 (by rw [hkl0];exact h9)
 refine ⟨λys t m=>∃ i:Nat,ys=[.int .i64 (i:Int)]∧i≤rows.length∧m=rows.length - i∧RP qPK s t mb rb (rows.map λx=>AV.int .u32 (kf x)) i,⟨_,0,rfl,by omega,rfl,rp0⟩,?_⟩
 rintro f t m ⟨i,hy,hi,rfl,rp⟩
 simp only [cI,and_true] at hy
 rw [hy]
 simp only [qF4,qAP,qAA]
 refine qAG (λhlt=>?_) (λhge=>?_)
 rotate_left
 ·have hge:i=rows.length:=by have:=oF hge;omega
  subst hge
  have:=RP.done (by rw [hkl0];exact rp)
  rw [hkl0] at this
  exact hK t _ rp.keep this
 have hlt:i < rows.length:=by have:=oT hlt;omega
 have hx:rows[i]?=some rows[i]:=gE hlt
 generalize rows[i]=x at hx
 obtain ⟨pb,po,e1,e2,_⟩:=(hv.sub rp.keep).get (i:=i) (r:=rowC x) (by rw [List.getElem?_map,hx];rfl)
 have hkx:(rows.map λx=>AV.int .u32 (kf x))[i]?=some (AV.int .u32 (kf x)):=by rw [List.getElem?_map,hx];rfl
 rw [e1]
 simp only [qAA,e2]
 refine qAL λb15 s16 hb15 h16 u16=>qAU h16 (by rw [hl x];rfl) rfl (ho x) λs17 h17 u17=>qAH (qAY h17 (hl x)) ?_
 have k17:Sub t s17:=qAc (u16.sub hb15) u17 hb15
 refine hkey x s17 _ λs20 k20=>?_
 have rp20:=rp.sub (k17.trans k20)
 refine rp20.map.getM λr b hr hb=>?_
 rw [hr]
 rw [← hkl0]
 refine rp20.put hkx hb λs23 bs sm23 k23 h23 hbl hbs=>?_
 refine sm23.putM λs24 sm24 u24=>?_
 have rp24:RP qPK s s24 mb rb (rows.map λx=>AV.int .u32 (kf x)) (i+1):=⟨qAc k23 u24 hmb,hmb,hsrb,hne,by rw [List.take_add_one,hkx];exact sm24,bs,by rw [u24 _ (Ne.symm hne)];exact h23,hbl,hbs⟩
 simp only [qAT,qAA]
 rw [qAX (by omega) (by omega)]
 exact ⟨_,by omega,i+1,rfl,by omega,rfl,rp24⟩
theorem zAF8 (hY:Fn0 Y) {A:Type} {rows:List A} {rowC:A→List AV} (hl:∀ x,(rowC x).length=3) (ho:∀ x,qAj (rowC x)=true) {key1:AV} {kf:A→List AV} {U:AV→Prop} (hT:KT Tryz.prog 206 U) (hU:∀ x,U (.agg (kf x))) (hkl:∀ x,(kf x).length=2) (hko:∀ x,qAj (kf x)=true) (hkey:∀ (x:A) (s:Hq) (J:AV→Hq→Prop),(∀ s',Sub s s'→J (AV.agg (kf x)) s')→funK Tryz.prog Y key1 [.agg (rowC x)] J s) (hv:SlR 3 s v (rows.map rowC)) (hn:rows.length≤4294967296) (hK:∀ s' r,Sub s s'→RepR s' r (rows.map λx=>AV.agg (kf x))→K r s'):wC Tryz.prog Y 133 [v,key1] K s:=by
 refine qJH hY.fr (hY.no _ rfl) ?_
 unfold qGv
 have hlen:qAQ v=some rows.length:=by rw [hv.len,List.length_map]
 have hkl0:(rows.map λx=>AV.agg (kf x)).length=rows.length:=List.length_map _
 rw [hlen]
 simp only [qAA]
 rw [qPB]
 intro mb hmb
 simp only [nat?_mk,qAA]
 refine ⟨⟨Nat.le_refl _,hn⟩,qAL λrb s9 hrb h9 u9=>?_⟩
 have k3:Sub s (hset s mb (false,.map [] 0)):=qNf hmb
 have hne:mb≠rb:=λe=>by rw [← e,qCl] at hrb;cases hrb
 have hsrb:s rb=none:=by rw [qBf (Ne.symm hne)] at hrb;exact hrb
 have hm9:s9 mb=some (false,.map [] 0):=by rw [u9 _ hne,qCl]
 have rp0:RP U s s9 mb rb (rows.map λx=>AV.agg (kf x)) 0:=.start hmb hsrb hne (k3.trans (u9.sub hrb)) hm9 (by rw [hkl0];exact h9)
 refine ⟨λys t m=>∃ i:Nat,ys=[.int .i64 (i:Int)]∧i≤rows.length∧m=rows.length - i∧RP U s t mb rb (rows.map λx=>AV.agg (kf x)) i,⟨_,0,rfl,by omega,rfl,rp0⟩,?_⟩
 rintro f t m ⟨i,hy,hi,rfl,rp⟩
 simp only [cI,and_true] at hy
 rw [hy]
 simp only [qE4,qAP,qAA]
 refine qAG (λhlt=>?_) (λhge=>?_)
 rotate_left
 ·have hge:i=rows.length:=by have:=oF hge;omega
  subst hge
  have:=RP.done (by rw [hkl0];exact rp)
  rw [hkl0] at this
  exact hK t _ rp.keep this
 have hlt:i < rows.length:=by have:=oT hlt;omega
 have hx:rows[i]?=some rows[i]:=gE hlt
 generalize rows[i]=x at hx
 obtain ⟨pb,po,e1,e2,_⟩:=(hv.sub rp.keep).get (i:=i) (r:=rowC x) (by rw [List.getElem?_map,hx];rfl)
 have hkx:(rows.map λx=>AV.agg (kf x))[i]?=some (AV.agg (kf x)):=by rw [List.getElem?_map,hx];rfl
 rw [e1]
 simp only [qAA,e2]
 refine qAL λb15 s16 hb15 h16 u16=>qAU h16 (by rw [hl x];rfl) rfl (ho x) λs17 h17 u17=>qAH (qAY h17 (hl x)) ?_
 have k17:Sub t s17:=qAc (u16.sub hb15) u17 hb15
 refine hkey x s17 _ λs20 k20=>?_
 refine qAL λb21 s22 hb21 h22 u22=>qAU h22 (by rw [hkl x];rfl) rfl (hko x) λs23 h23' u23'=>qAH (qAY h23' (hkl x)) ?_
 have k23':Sub s20 s23:=qAc (u22.sub hb21) u23' hb21
 have rp20:=rp.sub ((k17.trans k20).trans k23')
 have h20:=rp20.map.ex
 refine rp20.map.getG hT (hU x) λr b hr hb=>?_
 rw [hr]
 rw [← hkl0]
 have nrb:b21≠rb:=λe=>by
  obtain ⟨bs,q,_⟩:=(rp.sub (k17.trans k20)).arr
  rw [e,q] at hb21;cases hb21
 obtain ⟨bs0,q0,_⟩:=rp20.arr
 refine rp20.putU hkx hb λs27 bs sm27 k27 h27 hbl hbs u27=>?_
 have h27':s27 b21=some (false,.cells 206 (kf x)):=by rw [u27 _ nrb];exact h23'
 refine qAH (qAY h27' (hkl x)) ?_
 refine sm27.putG hT (hU x) λs24 sm24 u24=>?_
 have rp24:RP U s s24 mb rb (rows.map λx=>AV.agg (kf x)) (i+1):=⟨qAc k27 u24 hmb,hmb,hsrb,hne,by rw [List.take_add_one,hkx];exact sm24,bs,by rw [u24 _ (Ne.symm hne)];exact h27,hbl,hbs⟩
 simp only [qAT,qAA]
 rw [qAX (by omega) (by omega)]
 exact ⟨_,by omega,i+1,rfl,by omega,rfl,rp24⟩
theorem zAB3 (hY:Fn0 Y) {A:Type} {rows:List A} {rowC:A→List AV} (hl:∀ x,(rowC x).length=4) (ho:∀ x,qAj (rowC x)=true) {key1:AV} {kf:A→List AV} {U:AV→Prop} (hT:KT Tryz.prog 223 U) (hU:∀ x,U (.agg (kf x))) (hkl:∀ x,(kf x).length=2) (hko:∀ x,qAj (kf x)=true) (hkey:∀ (x:A) (s:Hq) (J:AV→Hq→Prop),(∀ s',Sub s s'→J (AV.agg (kf x)) s')→funK Tryz.prog Y key1 [.agg (rowC x)] J s) (hv:SlR 4 s v (rows.map rowC)) (hn:rows.length≤4294967296) (hK:∀ s' r,Sub s s'→RepR s' r (rows.map λx=>AV.agg (kf x))→K r s'):wC Tryz.prog Y 151 [v,key1] K s:=by
 refine qGK hY.fr (hY.no _ rfl) ?_
 unfold qD8
 have hlen:qAQ v=some rows.length:=by rw [hv.len,List.length_map]
 have hkl0:(rows.map λx=>AV.agg (kf x)).length=rows.length:=List.length_map _
 rw [hlen]
 simp only [qAA]
 rw [qPB]
 intro mb hmb
 simp only [nat?_mk,qAA]
 refine ⟨⟨Nat.le_refl _,hn⟩,qAL λrb s9 hrb h9 u9=>?_⟩
 have k3:Sub s (hset s mb (false,.map [] 0)):=qNf hmb
 have hne:mb≠rb:=λe=>by rw [← e,qCl] at hrb;cases hrb
 have hsrb:s rb=none:=by rw [qBf (Ne.symm hne)] at hrb;exact hrb
 have hm9:s9 mb=some (false,.map [] 0):=by rw [u9 _ hne,qCl]
 have rp0:RP U s s9 mb rb (rows.map λx=>AV.agg (kf x)) 0:=.start hmb hsrb hne (k3.trans (u9.sub hrb)) hm9 (by rw [hkl0];exact h9)
 refine ⟨λys t m=>∃ i:Nat,ys=[.int .i64 (i:Int)]∧i≤rows.length∧m=rows.length - i∧RP U s t mb rb (rows.map λx=>AV.agg (kf x)) i,⟨_,0,rfl,by omega,rfl,rp0⟩,?_⟩
 rintro f t m ⟨i,hy,hi,rfl,rp⟩
 simp only [cI,and_true] at hy
 rw [hy]
 simp only [qDS,qAP,qAA]
 refine qAG (λhlt=>?_) (λhge=>?_)
 rotate_left
 ·have hge:i=rows.length:=by have:=oF hge;omega
  subst hge
  have:=RP.done (by rw [hkl0];exact rp)
  rw [hkl0] at this
  exact hK t _ rp.keep this
 have hlt:i < rows.length:=by have:=oT hlt;omega
 have hx:rows[i]?=some rows[i]:=gE hlt
 generalize rows[i]=x at hx
 obtain ⟨pb,po,e1,e2,_⟩:=(hv.sub rp.keep).get (i:=i) (r:=rowC x) (by rw [List.getElem?_map,hx];rfl)
 have hkx:(rows.map λx=>AV.agg (kf x))[i]?=some (AV.agg (kf x)):=by rw [List.getElem?_map,hx];rfl
 rw [e1]
 simp only [qAA,e2]
 refine qAL λb15 s16 hb15 h16 u16=>qAU h16 (by rw [hl x];rfl) rfl (ho x) λs17 h17 u17=>qAH (qAY h17 (hl x)) ?_
 have k17:Sub t s17:=qAc (u16.sub hb15) u17 hb15
 refine hkey x s17 _ λs20 k20=>?_
 refine qAL λb21 s22 hb21 h22 u22=>qAU h22 (by rw [hkl x];rfl) rfl (hko x) λs23 h23' u23'=>qAH (qAY h23' (hkl x)) ?_
 have k23':Sub s20 s23:=qAc (u22.sub hb21) u23' hb21
 have rp20:=rp.sub ((k17.trans k20).trans k23')
 have h20:=rp20.map.ex
 refine rp20.map.getG hT (hU x) λr b hr hb=>?_
 rw [hr]
 rw [← hkl0]
 have nrb:b21≠rb:=λe=>by
  obtain ⟨bs,q,_⟩:=(rp.sub (k17.trans k20)).arr
  rw [e,q] at hb21;cases hb21
 obtain ⟨bs0,q0,_⟩:=rp20.arr
 refine rp20.putU hkx hb λs27 bs sm27 k27 h27 hbl hbs u27=>?_
 have h27':s27 b21=some (false,.cells 223 (kf x)):=by rw [u27 _ nrb];exact h23'
 refine qAH (qAY h27' (hkl x)) ?_
 refine sm27.putG hT (hU x) λs24 sm24 u24=>?_
 have rp24:RP U s s24 mb rb (rows.map λx=>AV.agg (kf x)) (i+1):=⟨qAc k27 u24 hmb,hmb,hsrb,hne,by rw [List.take_add_one,hkx];exact sm24,bs,by rw [u24 _ (Ne.symm hne)];exact h27,hbl,hbs⟩
 simp only [qAT,qAA]
 rw [qAX (by omega) (by omega)]
 exact ⟨_,by omega,i+1,rfl,by omega,rfl,rp24⟩
theorem zAFM (hY:Fn0 Y) {A:Type} {rows:List A} {rowC:A→List AV} (hl:∀ x,(rowC x).length=4) (ho:∀ x,qAj (rowC x)=true) {key1:AV} {kf:A→List AV} {U:AV→Prop} (hT:KT Tryz.prog 140 U) (hU:∀ x,U (.agg (kf x))) (hkl:∀ x,(kf x).length=4) (hko:∀ x,qAj (kf x)=true) (hkey:∀ (x:A) (s:Hq) (J:AV→Hq→Prop),(∀ s',Sub s s'→J (AV.agg (kf x)) s')→funK Tryz.prog Y key1 [.agg (rowC x)] J s) (hv:SlR 4 s v (rows.map rowC)) (hn:rows.length≤4294967296) (hK:∀ s' r,Sub s s'→RepR s' r (rows.map λx=>AV.agg (kf x))→K r s'):wC Tryz.prog Y 158 [v,key1] K s:=by
 refine qHs hY.fr (hY.no _ rfl) ?_
 unfold qFZ
 have hlen:qAQ v=some rows.length:=by rw [hv.len,List.length_map]
 have hkl0:(rows.map λx=>AV.agg (kf x)).length=rows.length:=List.length_map _
 rw [hlen]
 simp only [qAA]
 rw [qPB]
 intro mb hmb
 simp only [nat?_mk,qAA]
 refine ⟨⟨Nat.le_refl _,hn⟩,qAL λrb s9 hrb h9 u9=>?_⟩
 have k3:Sub s (hset s mb (false,.map [] 0)):=qNf hmb
 have hne:mb≠rb:=λe=>by rw [← e,qCl] at hrb;cases hrb
 have hsrb:s rb=none:=by rw [qBf (Ne.symm hne)] at hrb;exact hrb
 have hm9:s9 mb=some (false,.map [] 0):=by rw [u9 _ hne,qCl]
 have rp0:RP U s s9 mb rb (rows.map λx=>AV.agg (kf x)) 0:=.start hmb hsrb hne (k3.trans (u9.sub hrb)) hm9 (by rw [hkl0];exact h9)
 refine ⟨λys t m=>∃ i:Nat,ys=[.int .i64 (i:Int)]∧i≤rows.length∧m=rows.length - i∧RP U s t mb rb (rows.map λx=>AV.agg (kf x)) i,⟨_,0,rfl,by omega,rfl,rp0⟩,?_⟩
 rintro f t m ⟨i,hy,hi,rfl,rp⟩
 simp only [cI,and_true] at hy
 rw [hy]
 simp only [qEY,qAP,qAA]
 refine qAG (λhlt=>?_) (λhge=>?_)
 rotate_left
 ·have hge:i=rows.length:=by have:=oF hge;omega
  subst hge
  have:=RP.done (by rw [hkl0];exact rp)
  rw [hkl0] at this
  exact hK t _ rp.keep this
 have hlt:i < rows.length:=by have:=oT hlt;omega
 have hx:rows[i]?=some rows[i]:=gE hlt
 generalize rows[i]=x at hx
 obtain ⟨pb,po,e1,e2,_⟩:=(hv.sub rp.keep).get (i:=i) (r:=rowC x) (by rw [List.getElem?_map,hx];rfl)
 have hkx:(rows.map λx=>AV.agg (kf x))[i]?=some (AV.agg (kf x)):=by rw [List.getElem?_map,hx];rfl
 rw [e1]
 simp only [qAA,e2]
 refine qAL λb15 s16 hb15 h16 u16=>qAU h16 (by rw [hl x];rfl) rfl (ho x) λs17 h17 u17=>qAH (qAY h17 (hl x)) ?_
 have k17:Sub t s17:=qAc (u16.sub hb15) u17 hb15
 refine hkey x s17 _ λs20 k20=>?_
 refine qAL λb21 s22 hb21 h22 u22=>qAU h22 (by rw [hkl x];rfl) rfl (hko x) λs23 h23' u23'=>qAH (qAY h23' (hkl x)) ?_
 have k23':Sub s20 s23:=qAc (u22.sub hb21) u23' hb21
 have rp20:=rp.sub ((k17.trans k20).trans k23')
 have h20:=rp20.map.ex
 refine rp20.map.getG hT (hU x) λr b hr hb=>?_
 rw [hr]
 rw [← hkl0]
 have nrb:b21≠rb:=λe=>by
  obtain ⟨bs,q,_⟩:=(rp.sub (k17.trans k20)).arr
  rw [e,q] at hb21;cases hb21
 obtain ⟨bs0,q0,_⟩:=rp20.arr
 refine rp20.putU hkx hb λs27 bs sm27 k27 h27 hbl hbs u27=>?_
 have h27':s27 b21=some (false,.cells 140 (kf x)):=by rw [u27 _ nrb];exact h23'
 refine qAH (qAY h27' (hkl x)) ?_
 refine sm27.putG hT (hU x) λs24 sm24 u24=>?_
 have rp24:RP U s s24 mb rb (rows.map λx=>AV.agg (kf x)) (i+1):=⟨qAc k27 u24 hmb,hmb,hsrb,hne,by rw [List.take_add_one,hkx];exact sm24,bs,by rw [u24 _ (Ne.symm hne)];exact h27,hbl,hbs⟩
 simp only [qAT,qAA]
 rw [qAX (by omega) (by omega)]
 exact ⟨_,by omega,i+1,rfl,by omega,rfl,rp24⟩
end Go.AM.TN
set_option maxRecDepth 100000
namespace Go.AM.TN
open Go Go.Proofs
variable {K R : AV → Hq → Prop} {s s' s0 : Hq} {lv uv v y w k : AV} {b c mb rb : Nat} {cs : List AV} {Y : Td} {U : AV → Prop} {J : AV → Hq → Prop}
theorem k206 (a b a' b':Int):qJd Tryz.prog 206 (.array 2 3) (.agg [.int .i64 a,.int .i64 b]) (.agg [.int .i64 a',.int .i64 b'])=(match mB (some (eqI a a')) (mB (some (eqI b b')) (some true)) with
 | some true=>cond (eqI a a'&&(eqI b b'&&true)) (some true) none
 | r=>r):=by kernel_rfl
theorem zAGW:KT Tryz.prog 206 (λk=>∃ a b,k=.agg [.int .i64 a,.int .i64 b]):=by
 refine ⟨⟨_,Tryz.underlying206,rfl,?_⟩,?_⟩
 ·rintro k k' ⟨a,b,rfl⟩ ⟨a',b',rfl⟩
  refine ⟨decide (a=a'∧b=b'),?_,by simp⟩
  rw [k206,qEN,qEN]
  by_cases h1:a=a'
  ·by_cases h2:b=b'
   ·simp [mB,h1,h2]
   ·simp [mB,h1,h2]
  ·simp [mB,h1]
 ·rintro k ⟨a,b,rfl⟩
  have:∀ a b:Int,qFX Tryz.prog 10 206 (.agg [.int .i64 a,.int .i64 b])=true:=λa b=>by kernel_rfl
  exact this a b
theorem k223 (a b a' b':Int):qJd Tryz.prog 223 (.struct #[{ name:="bd",type:=3,offset:=0,embedded:=false,tag:="",pkgPath:="leafmesh/tenant",byteOffset:=0 },{ name:="addr",type:=38,offset:=1,embedded:=false,tag:="",pkgPath:="leafmesh/tenant",byteOffset:=8 }]) (.agg [.int .i64 a,.int .u64 b]) (.agg [.int .i64 a',.int .u64 b'])=(match mB (some (eqI a a')) (mB (some (eqI b b')) (some true)) with
 | some true=>cond (eqI a a'&&(eqI b b'&&true)) (some true) none
 | r=>r):=by kernel_rfl
theorem zAFS:KT Tryz.prog 223 (λk=>∃ a b,k=.agg [.int .i64 a,.int .u64 b]):=by
 refine ⟨⟨_,Tryz.underlying223,rfl,?_⟩,?_⟩
 ·rintro k k' ⟨a,b,rfl⟩ ⟨a',b',rfl⟩
  refine ⟨decide (a=a'∧b=b'),?_,by simp⟩
  rw [k223,qEN,qEN]
  by_cases h1:a=a'
  ·by_cases h2:b=b'
   ·simp [mB,h1,h2]
   ·simp [mB,h1,h2]
  ·simp [mB,h1]
 ·rintro k ⟨a,b,rfl⟩
  have:∀ a b:Int,qFX Tryz.prog 10 223 (.agg [.int .i64 a,.int .u64 b])=true:=λa b=>by kernel_rfl
  exact this a b
theorem k140 (a b c d a' b' c' d':Int):qJd Tryz.prog 140 (.struct #[{ name:="From",type:=3,offset:=0,embedded:=false,tag:="",pkgPath:="",byteOffset:=0 },{ name:="To",type:=3,offset:=1,embedded:=false,tag:="",pkgPath:="",byteOffset:=8 },{ name:="Prefix",type:=41,offset:=2,embedded:=false,tag:="",pkgPath:="",byteOffset:=16 }]) (.agg [.int .i64 a,.int .i64 b,.int .u32 c,.int .i64 d]) (.agg [.int .i64 a',.int .i64 b',.int .u32 c',.int .i64 d'])=(match mB (some (eqI a a')) (mB (some (eqI b b')) (mB (mB (some (eqI c c')) (mB (some (eqI d d')) (some true))) (some true))) with
 | some true=>cond (eqI a a'&&(eqI b b'&&(eqI c c'&&(eqI d d'&&true)))) (some true) none
 | r=>r):=by kernel_rfl
theorem zAGY:KT Tryz.prog 140 (λk=>∃ x,k=.agg (ggC x)):=by
 refine ⟨⟨_,Tryz.underlying140,rfl,?_⟩,?_⟩
 ·rintro k k' ⟨⟨a,b,c,d⟩,rfl⟩ ⟨⟨a',b',c',d'⟩,rfl⟩
  refine ⟨decide (a=a'∧b=b'∧c=c'∧d=d'),?_,by simp [ggC]⟩
  show qJd Tryz.prog 140 _ (.agg [.int .i64 a,.int .i64 b,.int .u32 c,.int .i64 d]) (.agg [.int .i64 a',.int .i64 b',.int .u32 c',.int .i64 d'])=_
  rw [k140,qEN,qEN,qEN,qEN]
  by_cases h1:a=a'
  ·by_cases h2:b=b'
   ·by_cases h3:c=c'
    ·by_cases h4:d=d'
     ·simp [mB,h1,h2,h3,h4]
     ·simp [mB,h1,h2,h3,h4]
    ·simp [mB,h1,h2,h3]
   ·simp [mB,h1,h2]
  ·simp [mB,h1]
 ·rintro k ⟨⟨a,b,c,d⟩,rfl⟩
  have:∀ a b c d:Int,qFX Tryz.prog 10 140 (.agg [.int .i64 a,.int .i64 b,.int .u32 c,.int .i64 d])=true:=λa b c d=>by kernel_rfl
  exact this a b c d
theorem qMa {Y:Td} {f:FuncId} {args:List AV} (hf:isFn Tryz.prog f=true) (h:wC Tryz.prog Y f args J s):funK Tryz.prog Y (.fn (.func f) [] []) args J s:=
 qPP hf (by rw [List.nil_append,List.append_nil];exact h)
theorem zACK (hY:Fn0 Y) (x:Int × Int) (s:Hq) (J:AV→Hq→Prop) (hJ:∀ s',Sub s s'→J (.int .u32 x.1) s'):funK Tryz.prog Y (.fn (.func 136) [] []) [.agg (tgC x)] J s:=by
 refine qMa (by kernel_rfl) (qNc hY.fr (hY.no _ rfl) ⟨rfl,qAL λb s1 hb h1 u1=>?_⟩)
 have h1:s1 b=some (false,.cells 112 (tgC x)):=h1
 have e0:(tgC x)[0]?=some (.int .u32 x.1):=rfl
 simp only [qAB,zA,qAA,qAJ h1,e0]
 exact hJ s1 (u1.sub hb)
theorem zACA (hY:Fn0 Y) (x:Int × Int) (s:Hq) (J:AV→Hq→Prop) (hJ:∀ s',Sub s s'→J (.int .u32 x.2) s'):funK Tryz.prog Y (.fn (.func 137) [] []) [.agg (tgC x)] J s:=by
 refine qMa (by kernel_rfl) (qLf hY.fr (hY.no _ rfl) ⟨rfl,qAL λb s1 hb h1 u1=>?_⟩)
 have h1:s1 b=some (false,.cells 112 (tgC x)):=h1
 have e0:(tgC x)[1]?=some (.int .u32 x.2):=rfl
 simp only [qAB,zA,qAA,qAJ h1,e0]
 exact hJ s1 (u1.sub hb)
theorem zAEh (hY:Fn0 Y) (x:BG) (s:Hq) (J:AV→Hq→Prop) (hJ:∀ s',Sub s s'→J (.int .u32 x.2.1) s'):funK Tryz.prog Y (.fn (.func 139) [] []) [.agg (bgC x)] J s:=by
 refine qMa (by kernel_rfl) (qOT hY.fr (hY.no _ rfl) ⟨rfl,qAL λb s1 hb h1 u1=>?_⟩)
 have h1:s1 b=some (false,.cells 114 (bgC x)):=h1
 have e0:(bgC x)[1]?=some (.int .u32 x.2.1):=rfl
 simp only [qAB,zA,qAA,qAJ h1,e0]
 exact hJ s1 (u1.sub hb)
theorem zAFb (hY:Fn0 Y) (x:BG) (s:Hq) (J:AV→Hq→Prop) (hJ:∀ s',Sub s s'→J (.int .u32 x.2.2.1) s'):funK Tryz.prog Y (.fn (.func 140) [] []) [.agg (bgC x)] J s:=by
 refine qMa (by kernel_rfl) (qLa hY.fr (hY.no _ rfl) ⟨rfl,qAL λb s1 hb h1 u1=>?_⟩)
 have h1:s1 b=some (false,.cells 114 (bgC x)):=h1
 have e0:(bgC x)[2]?=some (.int .u32 x.2.2.1):=rfl
 simp only [qAB,zA,qAA,qAJ h1,e0]
 exact hJ s1 (u1.sub hb)
theorem zAFm (hY:Fn0 Y) (x:RLk) (s:Hq) (J:AV→Hq→Prop) (hJ:∀ s',Sub s s'→J (.agg [.int .i64 x.1,.int .i64 x.2.1]) s'):funK Tryz.prog Y (.fn (.func 134) [] []) [.agg (lkC x)] J s:=by
 refine qMa (by kernel_rfl) (qQr hY.fr (hY.no _ rfl) ⟨rfl,qAL λb s1 hb h1 u1=>qAL λb2 s3 hb2 h3 u3=>?_⟩)
 have h1:s1 b=some (false,.cells 110 (lkC x)):=h1
 have k1:=u1.sub hb
 have k3:=u3.sub hb2
 have e0:(lkC x)[0]?=some (.int .i64 x.1):=rfl
 have e1:(lkC x)[1]?=some (.int .i64 x.2.1):=rfl
 have h13:=k3 _ _ h1
 simp only [qAB,zA,qAA,qAJ h13,e0,e1]
 refine qAH (a:=[.int .i64 x.1,.int .i64 x.2.1]) rfl (qAU h3 rfl rfl rfl λs9 h9 u9=>qAH (qAY h9 rfl) ?_)
 exact hJ s9 (k1.trans (qAc k3 u9 hb2))
theorem zAEc (hY:Fn0 Y) (x:R4) (s:Hq) (J:AV→Hq→Prop) (hJ:∀ s',Sub s s'→J (.agg (ggC x)) s'):funK Tryz.prog Y (.fn (.func 159) [] []) [.agg (ggC x)] J s:=by
 refine qMa (by kernel_rfl) (qRa hY.fr (hY.no _ rfl) ⟨rfl,qAL λb s1 hb h1 u1=>qAL λb2 s3 hb2 h3 u3=>?_⟩)
 have h1:s1 b=some (false,.cells 140 (ggC x)):=h1
 have k1:=u1.sub hb
 have k3:=u3.sub hb2
 have h13:=k3 _ _ h1
 refine qAH (qAY h13 rfl) (qAU h3 rfl rfl rfl λs9 h9 u9=>qAH (qAY h9 rfl) ?_)
 exact hJ s9 (k1.trans (qAc k3 u9 hb2))
end Go.AM.TN
set_option maxRecDepth 100000
namespace Go.AM.TN
open Go Go.Proofs
variable {K R : AV → Hq → Prop} {s s' s0 : Hq} {lv uv v y w k : AV} {b c mb rb : Nat} {cs : List AV} {Y : Td} {F : FG} {v2 v3 v4 v5 v6 v7 : AV} {t : Bool}
theorem zAEz (hY:Fn0 Y) (x:R4) (s:Hq) (J:AV→Hq→Prop) (hJ:∀ s',Sub s s'→J (.agg [.int .i64 x.2.2.1,.int .u64 x.1]) s'):funK Tryz.prog Y (.fn (.func 152) [] []) [.agg (hgC x)] J s:=by
 refine qMa (by kernel_rfl) (qRb hY.fr (hY.no _ rfl) ⟨rfl,qAL λb s1 hb h1 u1=>qAL λb2 s3 hb2 h3 u3=>?_⟩)
 have h1:s1 b=some (false,.cells 136 (hgC x)):=h1
 have k1:=u1.sub hb
 have k3:=u3.sub hb2
 have e0:(hgC x)[0]?=some (.int .u64 x.1):=rfl
 have e2:(hgC x)[2]?=some (.int .i64 x.2.2.1):=rfl
 have h13:=k3 _ _ h1
 simp only [qAB,zA,qAA,qAJ h13,e0,e2]
 refine qAH (a:=[.int .i64 x.2.2.1,.int .u64 x.1]) rfl (qAU h3 rfl rfl rfl λs9 h9 u9=>qAH (qAY h9 rfl) ?_)
 exact hJ s9 (k1.trans (qAc k3 u9 hb2))
theorem zAFu (hY:Fn0 Y) (x:R4) (s:Hq) (J:AV→Hq→Prop) (hJ:∀ s',Sub s s'→J (.agg [.int .i64 x.2.2.1,.int .u64 (qAx .u64 x.2.1)]) s'):funK Tryz.prog Y (.fn (.func 153) [] []) [.agg (hgC x)] J s:=by
 refine qMa (by kernel_rfl) (qQ8 hY.fr (hY.no _ rfl) ⟨rfl,qAL λb s1 hb h1 u1=>qAL λb2 s3 hb2 h3 u3=>?_⟩)
 have h1:s1 b=some (false,.cells 136 (hgC x)):=h1
 have k1:=u1.sub hb
 have k3:=u3.sub hb2
 have e1:(hgC x)[1]?=some (.int .u32 x.2.1):=rfl
 have e2:(hgC x)[2]?=some (.int .i64 x.2.2.1):=rfl
 have ec:qBx .u64 (.int .u32 x.2.1)=some (.int .u64 (qAx .u64 x.2.1)):=rfl
 have h13:=k3 _ _ h1
 simp only [qAB,zA,qAA,qAJ h13,e1,e2,ec]
 refine qAH (a:=[.int .i64 x.2.2.1,.int .u64 (qAx .u64 x.2.1)]) rfl (qAU h3 rfl rfl rfl λs9 h9 u9=>qAH (qAY h9 rfl) ?_)
 exact hJ s9 (k1.trans (qAc k3 u9 hb2))
theorem qEL {α β γ:Type} {f:α→β} {g:α→γ} (h:∀ x y,f x=f y↔g x=g y) {l:List α} {x:α}:f x∈l.map f↔g x∈l.map g:=by
 simp only [List.mem_map]
 exact ⟨λ⟨a,h1,h2⟩=>⟨a,h1,(h a x).1 h2⟩,λ⟨a,h1,h2⟩=>⟨a,h1,(h a x).2 h2⟩⟩
def LkG (F:FG) (x:RLk):Prop:=(0≤x.1∧x.1 < F.lf)∧(F.lf≤x.2.1∧x.2.1 < F.lf+F.sp)∧1≤x.2.2∧x.2.2≤1000
structure LinksOk (F:FG):Prop where
 n:F.L.length≤128
 row:∀ (i:Nat) x,F.L[i]?=some x→LkG F x∧(x.1,x.2.1) ∉ (F.L.take i).map λx=>(x.1,x.2.1)
theorem qZ4 (hF:FabOk F) (hn:F.L.length≤4294967296) (hc:s c=some (t,.cells 153 (csG F v2 v3 v4 v5 v6 v7))) (hL:FL s F v2 v3 v4 v5 v6 v7) (hK:Kok s (LinksOk F) K) (hR:Rbad s (LinksOk F) R):qAh Tryz.prog X0 SS 109 [.ptr c 0] K R s:=by
 refine qTQ (qMN rfl hc hL λb3 s5 h5 k5=>?_)
 have hL5:=(hL.sub k5).L
 have hlen:qAQ v2=some F.L.length:=by rw [hL5.len,List.length_map]
 simp only [qAB,zA,qAA,qAJ h5,csG2,hlen,qAg]
 refine qBA (λq=>?_) λq=>hR (λg=>by have:=oT q;have:=g.n;omega) _ _ _ s5 (by omega) k5
 have hn128:F.L.length≤128:=by have:=oF q;omega
 simp only [qAJ h5,csG2,qAA]
 refine zAF8 X0_0 (rows:=F.L) (rowC:=lkC) (λ_=>rfl) (λ_=>rfl) (kf:=λx=>[.int .i64 x.1,.int .i64 x.2.1]) zAGW (λx=>⟨_,_,rfl⟩) (λ_=>rfl) (λ_=>rfl) (λx s J=>zAFm X0_0 x s J) hL5 (by omega) λs16 again k16 rep=>?_
 have h16:=k16 _ _ h5
 simp only [qAJ h16,csG2,qAA,hlen]
 have hinj:∀ x y:RLk,(AV.agg [.int .i64 x.1,.int .i64 x.2.1]=AV.agg [.int .i64 y.1,.int .i64 y.2.1])↔(x.1,x.2.1)=(y.1,y.2.1):=λx y=>by simp
 refine ⟨λys t m=>∃ i:Nat,ys=[.int .i64 (i:Int)]∧i≤F.L.length∧m=F.L.length - i∧Sub s16 t∧∀ (j:Nat) x,j < i→F.L[j]?=some x→LkG F x∧(x.1,x.2.1) ∉ (F.L.take j).map λx=>(x.1,x.2.1),⟨_,0,rfl,by omega,rfl,.refl _,λj x hj=>by omega⟩,?_⟩
 rintro f t m ⟨i,hy,hi,rfl,kt,hall⟩
 simp only [cI,and_true] at hy
 rw [hy]
 simp only [qOl,qAP,qAA]
 refine qAG (λhlt=>?_) (λhge=>?_)
 rotate_left
 ·have hge:i=F.L.length:=by have:=oF hge;omega
  subst hge
  exact hK ⟨hn128,λj x hx=>hall j x (gS hx).1 hx⟩ t (k5.trans (k16.trans kt))
 have hlt:i < F.L.length:=by have:=oT hlt;omega
 have hx:F.L[i]?=some F.L[i]:=gE hlt
 generalize F.L[i]=x at hx
 obtain ⟨pb,po,e1,e2,_⟩:=(hL5.sub (k16.trans kt)).get (i:=i) (r:=lkC x) (by rw [List.getElem?_map,hx];rfl)
 rw [e1]
 simp only [qAA,e2]
 refine qAL λb24 s25 hb24 h25 u25=>qAU h25 rfl rfl rfl λs26 h26 u26=>?_
 have k26:Sub t s26:=qAc (u25.sub hb24) u26 hb24
 have h3:=k26 _ _ (kt _ _ h16)
 have kall:Sub s s26:=k5.trans (k16.trans (kt.trans k26))
 have a0:(lkC x)[0]?=some (.int .i64 x.1):=rfl
 have a1:(lkC x)[1]?=some (.int .i64 x.2.1):=rfl
 have a2:(lkC x)[2]?=some (.int .i64 x.2.2):=rfl
 have bad:¬ LkG F x→¬ LinksOk F:=λq g=>q (g.row i x hx).1
 have j3:∀ (p q:AV) (bd:Bool),qAV p (.bool true) q=some (.bool bd)→(bd=true→¬ LkG F x)→(bd=false→LkG F x)→qIt X0 again (.int .i64 (i:Int)) (.int .i64 (i:Int)) p q (λys t m=>∃ i:Nat,ys=[.int .i64 (i:Int)]∧i≤F.L.length∧m=F.L.length - i∧Sub s16 t∧∀ (j:Nat) x,j < i→F.L[j]?=some x→LkG F x∧(x.1,x.2.1) ∉ (F.L.take j).map λx=>(x.1,x.2.1)) (F.L.length - i) K R s26:=λp q bd h h1 h2=>by
  unfold qIt
  rw [h]
  simp only [qAA]
  refine qBA (λq1=>?_) λq1=>hR (bad (h1 q1)) _ _ _ s26 (by omega) kall
  obtain ⟨pp,bb,g1,g2,g3⟩:=(rep.sub (kt.trans k26)).at (j:=i) (k:=.agg [.int .i64 x.1,.int .i64 x.2.1]) (by rw [List.getElem?_map,hx];rfl)
  rw [← List.map_take,qEL hinj] at g3
  rw [g1]
  simp only [qAA,g2]
  refine qBA (λq2=>?_) λq2=>hR (λg=>(g.row i x hx).2 (g3.1 q2)) _ _ _ s26 (by omega) kall
  simp only [qAT,qAA]
  rw [qAX (by omega) (by omega)]
  refine ⟨_,by omega,i+1,rfl,by omega,rfl,kt.trans k26,λj z hj hz=>?_⟩
  by_cases e:j < i
  ·exact hall j z e hz
  ·have:j=i:=by omega
   subst this
   rw [hx] at hz
   cases hz
   exact ⟨h2 q1,λq3=>by rw [g3.2 q3] at q2;cases q2⟩
 have j2:∀ (p q:AV) (ok:Bool),qAV p q (.bool false)=some (.bool ok)→(ok=false→¬ LkG F x)→(ok=true→(0≤x.1∧x.1 < F.lf)∧(F.lf≤x.2.1∧x.2.1 < F.lf+F.sp))→qIf X0 again (.int .i64 (i:Int)) (.ptr b24 0) (.int .i64 (i:Int)) p q (λys t m=>∃ i:Nat,ys=[.int .i64 (i:Int)]∧i≤F.L.length∧m=F.L.length - i∧Sub s16 t∧∀ (j:Nat) x,j < i→F.L[j]?=some x→LkG F x∧(x.1,x.2.1) ∉ (F.L.take j).map λx=>(x.1,x.2.1)) (F.L.length - i) K R s26:=λp q ok h h1 h2=>by
  unfold qIf
  rw [h]
  simp only [qAA,qAb]
  refine qAG (λq1=>?_) (λq1=>?_)
  ·have hok:ok=false:=by simpa using q1
   exact j3 _ _ true (by rw [q1];rfl) (λ_=>h1 hok) (λq2=>by cases q2)
  ·have hok:ok=true:=by simpa using q1
   simp only [qAB,zA,qAA,qAJ h26,a2]
   refine qB0 X0_0 ?_
   exact j3 _ _ (outB x.2.2 1 1000) (by rw [q1];rfl) (λq2 g=>by have:=qAk.2 g.2.2;rw [this] at q2;cases q2) (λq2=>⟨(h2 hok).1,(h2 hok).2,qAk.1 q2⟩)
 have j1:∀ (p q:AV) (ok:Bool),qAV p q (.bool false)=some (.bool ok)→(ok=false→¬ LkG F x)→(ok=true→(0≤x.1∧x.1 < F.lf)∧F.lf≤x.2.1)→qIz X0 (.ptr b3 0) again (.int .i64 (i:Int)) (.ptr b24 0) (.int .i64 (i:Int)) p q (λys t m=>∃ i:Nat,ys=[.int .i64 (i:Int)]∧i≤F.L.length∧m=F.L.length - i∧Sub s16 t∧∀ (j:Nat) x,j < i→F.L[j]?=some x→LkG F x∧(x.1,x.2.1) ∉ (F.L.take j).map λx=>(x.1,x.2.1)) (F.L.length - i) K R s26:=λp q ok h h1 h2=>by
  unfold qIz
  rw [h]
  simp only [qAA]
  refine qAG (λq1=>?_) (λq1=>?_)
  ·have:=hF.lf
   have:=hF.sp
   simp only [qAB,zA,qAA,qAJ h26,a1,qAJ h3,csG0,csG1,qAT,qAP]
   rw [qAX (by omega) (by omega)]
   exact j2 _ _ (decide (x.2.1 < F.lf+F.sp)) (by rw [q1];rfl) (λq2 g=>by have:=oF q2;have:=g.2.1.2;omega) (λq2=>⟨(h2 q1).1,(h2 q1).2,oT q2⟩)
  ·exact j2 _ _ false (by rw [q1];rfl) (λ_=>h1 q1) (λq2=>by cases q2)
 simp only [qAB,zA,qAA,qAJ h26,a0,qAJ h3,csG0]
 refine qGd X0_0 ?_
 refine qAG (λq1=>?_) (λq1=>?_)
 ·simp only [qAA,qAJ h26,a1,qAJ h3,csG0,qBn]
  exact j1 _ _ (decide (F.lf≤x.2.1)) (by rw [q1];rfl) (λq2 g=>by have:=oF q2;have:=g.2.1.1;omega) (λq2=>⟨qMO.1 q1,oT q2⟩)
 ·exact j1 _ _ false (by rw [q1];rfl) (λ_ g=>by have:=qMO.2 g.1;rw [this] at q1;cases q1) (λq2=>by cases q2)
end Go.AM.TN
set_option maxRecDepth 100000
namespace Go.AM.TN
open Go Go.Proofs
variable {K R : AV → Hq → Prop} {s s' s0 : Hq} {lv uv v y w k : AV} {b c mb rb : Nat} {cs : List AV} {Y : Td} {F : FG} {v2 v3 v4 v5 v6 v7 : AV} {t : Bool}
def TnG (x:Int × Int):Prop:=1≤x.1∧x.1≤16777215∧x.2≠0
structure TenOk (F:FG):Prop where
 n:F.T.length≤16
 row:∀ (i:Nat) x,F.T[i]?=some x→TnG x∧x.1 ∉ (F.T.take i).map (·.1)∧x.2 ∉ (F.T.take i).map (·.2)
abbrev InvT (F:FG) (s16:Hq):List AV→Hq→Nat→Prop:=λys t m=>∃ i:Nat,ys=[.int .i64 (i:Int)]∧i≤F.T.length∧m=F.T.length - i∧Sub s16 t∧∀ (j:Nat) x,j < i→F.T[j]?=some x→TnG x∧x.1 ∉ (F.T.take j).map (·.1)∧x.2 ∉ (F.T.take j).map (·.2)
theorem qVv (hn:F.T.length≤4294967296) (hc:s c=some (t,.cells 153 (csG F v2 v3 v4 v5 v6 v7))) (hL:FL s F v2 v3 v4 v5 v6 v7) (hK:Kok s (TenOk F) K) (hR:Rbad s (TenOk F) R):qAh Tryz.prog X0 SS 110 [.ptr c 0] K R s:=by
 refine qRW ?_
 unfold qPs
 have hlen:qAQ v3=some F.T.length:=by rw [hL.T.len,List.length_map]
 simp only [qJP,qAB,zA,qAA,qAJ hc,csG3,hlen,qAg]
 refine qBA (λq=>?_) λq=>hR (λg=>by have:=oT q;have:=g.n;omega) _ _ _ s (by omega) (.refl _)
 have hn16:F.T.length≤16:=by have:=oF q;omega
 refine zABp X0_0 (rows:=F.T) (rowC:=tgC) (λ_=>rfl) (λ_=>rfl) (kf:=λx=>x.1) (λx s J=>zACK X0_0 x s J) hL.T (by omega) λs10 vn k10 repv=>?_
 refine zABp X0_0 (rows:=F.T) (rowC:=tgC) (λ_=>rfl) (λ_=>rfl) (kf:=λx=>x.2) (λx s J=>zACA X0_0 x s J) (hL.T.sub k10) (by omega) λs12 tg k12 rept=>?_
 have hiv:∀ x y:Int × Int,(AV.int .u32 x.1=AV.int .u32 y.1)↔x.1=y.1:=λx y=>by simp
 have hit:∀ x y:Int × Int,(AV.int .u32 x.2=AV.int .u32 y.2)↔x.2=y.2:=λx y=>by simp
 refine ⟨InvT F s12,⟨_,0,rfl,by omega,rfl,.refl _,λj x hj=>by omega⟩,?_⟩
 rintro f t m ⟨i,hy,hi,rfl,kt,hall⟩
 simp only [cI,and_true] at hy
 rw [hy]
 simp only [qLg,qAP,qAA]
 refine qAG (λhlt=>?_) (λhge=>?_)
 rotate_left
 ·have hge:i=F.T.length:=by have:=oF hge;omega
  subst hge
  exact hK ⟨hn16,λj x hx=>hall j x (gS hx).1 hx⟩ t (k10.trans (k12.trans kt))
 have hlt:i < F.T.length:=by have:=oT hlt;omega
 have hx:F.T[i]?=some F.T[i]:=gE hlt
 generalize F.T[i]=x at hx
 obtain ⟨pb,po,e1,e2,_⟩:=(hL.T.sub (k10.trans (k12.trans kt))).get (i:=i) (r:=tgC x) (by rw [List.getElem?_map,hx];rfl)
 rw [e1]
 simp only [qAA,e2]
 refine qAL λb18 s19 hb18 h19 u19=>qAU h19 rfl rfl rfl λs20 h20 u20=>?_
 have k20:Sub t s20:=qAc (u19.sub hb18) u20 hb18
 have kall:Sub s s20:=k10.trans (k12.trans (kt.trans k20))
 have a0:(tgC x)[0]?=some (.int .u32 x.1):=rfl
 have a1:(tgC x)[1]?=some (.int .u32 x.2):=rfl
 have bad:¬ TnG x→¬ TenOk F:=λq g=>q (g.row i x hx).1
 obtain ⟨p1,w1,g11,g12,g13⟩:=(repv.sub (k12.trans (kt.trans k20))).at (j:=i) (k:=.int .u32 x.1) (by rw [List.getElem?_map,hx];rfl)
 obtain ⟨p2,w2,g21,g22,g23⟩:=(rept.sub (kt.trans k20)).at (j:=i) (k:=.int .u32 x.2) (by rw [List.getElem?_map,hx];rfl)
 rw [← List.map_take,qEL hiv] at g13
 rw [← List.map_take,qEL hit] at g23
 have j3:∀ (p q:AV) (bd:Bool),qAV p (.bool true) q=some (.bool bd)→(bd=true→¬ TenOk F)→(bd=false→TnG x∧x.1 ∉ (F.T.take i).map (·.1)∧x.2 ∉ (F.T.take i).map (·.2))→qGA X0 (.int .i64 (i:Int)) (.int .i64 (i:Int)) p q (InvT F s12) (F.T.length - i) K R s20:=λp q bd h h1 h2=>by
  unfold qGA
  rw [h]
  simp only [qAA]
  refine qBA (λq1=>?_) λq1=>hR (h1 q1) _ _ _ s20 (by omega) kall
  simp only [qAT,qAA]
  rw [qAX (by omega) (by omega)]
  refine ⟨_,by omega,i+1,rfl,by omega,rfl,kt.trans k20,λj z hj hz=>?_⟩
  by_cases e:j < i
  ·exact hall j z e hz
  ·have:j=i:=by omega
   subst this
   rw [hx] at hz
   cases hz
   exact h2 q1
 have j2:∀ (p q:AV) (bd:Bool),qAV p (.bool true) q=some (.bool bd)→(bd=true→¬ TnG x)→(bd=false→TnG x)→qGL X0 vn tg (.int .i64 (i:Int)) (.int .i64 (i:Int)) p q (InvT F s12) (F.T.length - i) K R s20:=λp q bd h h1 h2=>by
  unfold qGL
  rw [h]
  simp only [qAA]
  refine qBA (λq1=>?_) λq1=>hR (bad (h1 q1)) _ _ _ s20 (by omega) kall
  rw [g11]
  simp only [qAA,g12]
  refine qAG (λq2=>?_) (λq2=>?_)
  ·exact j3 _ _ true (by rw [q2];rfl) (λ_ g=>(g.row i x hx).2.1 (g13.1 q2)) (λq=>by cases q)
  ·rw [g21]
   simp only [qAA,g22]
   exact j3 _ _ w2 (by rw [q2];rfl) (λq3 g=>(g.row i x hx).2.2 (g23.1 q3)) (λq3=>⟨h2 q1,λz=>(by rw [g13.2 z] at q2;cases q2),λz=>(by rw [g23.2 z] at q3;cases q3)⟩)
 have j1:∀ (p q:AV) (bd:Bool),qAV p (.bool true) q=some (.bool bd)→(bd=true→¬ TnG x)→(bd=false→1≤x.1∧x.1≤16777215)→qGG X0 vn tg (.int .i64 (i:Int)) (.ptr b18 0) (.int .i64 (i:Int)) p q (InvT F s12) (F.T.length - i) K R s20:=λp q bd h h1 h2=>by
  unfold qGG
  rw [h]
  simp only [qAA]
  refine qAG (λq1=>?_) (λq1=>?_)
  ·exact j2 _ _ bd (by rw [q1];rfl) h1 (λq2=>by rw [q1] at q2;cases q2)
  ·simp only [qAB,zA,qAA,qAJ h20,a1,qAa,qAW,Bool.false_bne]
   exact j2 _ _ (x.2 == 0) (by rw [q1];rfl) (λq2 g=>g.2.2 (by simpa using q2)) (λq2=>⟨(h2 q1).1,(h2 q1).2,by simpa using q2⟩)
 simp only [qAB,zA,qAA,qAJ h20,a0,qAP]
 refine qAG (λq1=>?_) (λq1=>?_)
 ·exact j1 _ _ true (by rw [q1];rfl) (λ_ g=>by have:=oT q1;have:=g.1;omega) (λq2=>by cases q2)
 ·simp only [qAA,qAg]
  exact j1 _ _ (decide (16777215 < x.1)) (by rw [q1];rfl) (λq2 g=>by have:=oT q2;have:=g.2.1;omega) (λq2=>⟨by have:=oF q1;omega,by have:=oF q2;omega⟩)
end Go.AM.TN
set_option maxRecDepth 100000
namespace Go.AM.TN
open Go Go.Proofs
variable {K R : AV → Hq → Prop} {s s' s0 : Hq} {lv uv v y w k : AV} {b c mb rb : Nat} {cs : List AV} {Y : Td} {F : FG} {v2 v3 v4 v5 v6 v7 : AV} {t : Bool} {J : AV → Hq → Prop}
def andU (x y:Int):Int:=qAx .u32 ((BitVec.ofInt 32 x &&& BitVec.ofInt 32 y).toNat:Nat)
def orU (x y:Int):Int:=qAx .u32 ((BitVec.ofInt 32 x ||| BitVec.ofInt 32 y).toNat:Nat)
def xorU (x y:Int):Int:=qAx .u32 ((BitVec.ofInt 32 x ^^^ BitVec.ofInt 32 y).toNat:Nat)
theorem qH6 {x y:Int}:qAC .and (.int .u32 x) (.int .u32 y)=some (.int .u32 (andU x y)):=by simp only [qAC,arith,qBX,qDM,cond_true];rfl
theorem qYo {x y:Int}:qAC .or (.int .u32 x) (.int .u32 y)=some (.int .u32 (orU x y)):=by simp only [qAC,arith,qBX,qDM,cond_true];rfl
theorem qWD {x y:Int}:qAC .xor (.int .u32 x) (.int .u32 y)=some (.int .u32 (xorU x y)):=by simp only [qAC,arith,qBX,qDM,cond_true];rfl
def shlU (x:Int) (n:Nat):Int:=qAx .u32 (x * ((2 ^ (min n 32):Nat):Int))
def mskU (len:Int):Int:=shlU 4294967295 (32 - len).toNat
def qF5 (len:Int):Bool:=decide (0≤len)&&decide (len≤32)
theorem qLE {len:Int}:qF5 len=true↔0≤len∧len≤32:=by unfold qF5;simp
theorem qVC {x len:Int} (h:len≤32):qBb .shl (.int .u32 x) (.int .i64 (32 - len))=some (.int .u32 (shlU x (32 - len).toNat)):=by
 obtain ⟨n,hn⟩:∃ n:Nat,32 - len=n:=⟨(32 - len).toNat,by omega⟩
 rw [hn]
 show frc (qAx .u32 (x * ((2 ^ (min n (IntKind.bits .u32)):Nat):Int))) (λn=>some (AV.int .u32 n))=_
 rw [qBX]
 rfl
abbrev pfC (ip len:Int):List AV:=[.int .u32 ip,.int .i64 len]
theorem qVh (hY:Fn0 Y) {ip len:Int} (hK:∀ s',Sub s s'→K (.bool (qF5 len)) s'):wC Tryz.prog Y 176 [.agg (pfC ip len)] K s:=by
 refine qNE hY.fr (hY.no _ rfl) ⟨rfl,qAL λb s1 hb h1 u1=>?_⟩
 have h1:s1 b=some (false,.cells 41 (pfC ip len)):=h1
 have e1:(pfC ip len)[1]?=some (.int .i64 len):=rfl
 have k1:=u1.sub hb
 simp only [qAB,zA,qAA,qAJ h1,e1,qBn,qCs]
 have hk:=hK s1 k1
 unfold qF5 at hk
 refine qAG (λe=>?_) (λe=>?_)
 ·rw [e] at hk ⊢;exact hk
 ·rw [e] at hk ⊢;exact hk
theorem qXQ (hY:Fn0 Y) {len:Int} (h:0≤len∧len≤32) (hK:K (.int .u32 (mskU len)) s):wC Tryz.prog Y 177 [.int .i64 len] K s:=by
 refine qNa hY.fr (hY.no _ rfl) ?_
 unfold qMi
 simp only [qAf,qAA]
 rw [qAX (by omega) (by omega),qVC h.2]
 exact hK
def qCL (ip len x:Int):Bool:=qF5 len&&(andU (xorU ip x) (mskU len) == 0)
theorem qKs (hY:Fn0 Y) {ip len x:Int} (hK:∀ s',Sub s s'→K (.bool (qCL ip len x)) s'):wC Tryz.prog Y 146 [.agg (pfC ip len),.int .u32 x] K s:=by
 refine qK4 hY.fr (hY.no _ rfl) ⟨rfl,qAL λb s1 hb h1 u1=>?_⟩
 have h1:s1 b=some (false,.cells 41 (pfC ip len)):=h1
 have k1:=u1.sub hb
 refine qAH (qAY h1 rfl) (qVh hY λs4 k4=>?_)
 have h4:=k4 _ _ h1
 have e0:(pfC ip len)[0]?=some (.int .u32 ip):=rfl
 have e1:(pfC ip len)[1]?=some (.int .i64 len):=rfl
 have hk:=hK s4 (k1.trans k4)
 unfold qCL at hk
 refine qAG (λe=>?_) (λe=>?_)
 ·simp only [qAB,zA,qAA,qAJ h4,e0,e1,qWD]
  refine qXQ hY (qLE.1 e) λ_=>?_
  rw [e] at hk
  simp only [qH6,qAA,qAa,qAW,Bool.false_bne,e,qAO,qO5]
  exact hk
 ·rw [e] at hk ⊢
  exact hk
def qEe (ip len:Int):Bool:=qF5 len&&(andU ip (mskU len) == ip)
theorem zAAM (hY:Fn0 Y) {ip len:Int} (h1:qF5 len=false→∀ s',Sub s s'→K (.tup [.agg (pfC 0 0),.int .i64 2]) s') (h2:qF5 len=true→∀ s',Sub s s'→K (.tup [.agg (pfC (andU ip (mskU len)) len),.int .i64 0]) s'):wC Tryz.prog Y 174 [.agg (pfC ip len)] K s:=by
 refine qM8 hY.fr (hY.no _ rfl) ⟨rfl,qAL λb s1 hb q1 u1=>qAL λb2 s3 hb2 q3 u3=>?_⟩
 have q1:s1 b=some (false,.cells 41 (pfC ip len)):=q1
 have k1:=u1.sub hb
 have k3:=u3.sub hb2
 refine qAH (qAY (k3 _ _ q1) rfl) (qVh hY λs6 k6=>?_)
 have q6:=k6 _ _ (k3 _ _ q1)
 have z6:=k6 _ _ q3
 have e0:(pfC ip len)[0]?=some (.int .u32 ip):=rfl
 have e1:(pfC ip len)[1]?=some (.int .i64 len):=rfl
 have nb:b≠b2:=λe=>by rw [← e,q1] at hb2;cases hb2
 have sb2:s b2=none:=qHN k1 hb2
 have k06:Sub s s6:=k1.trans (k3.trans k6)
 simp only [qAb,qAA]
 refine qAG (λe=>?_) (λe=>?_)
 ·have e:qF5 len=false:=by simpa using e
  refine qAH (a:=[.int .u32 0,.int .i64 0]) rfl (qAU z6 rfl rfl rfl λs9 h9 u9=>qAH (qAY h9 rfl) ?_)
  exact h1 e s9 (qAc k06 u9 sb2)
 ·have e:qF5 len=true:=by simpa using e
  simp only [qAB,zA,qAA,qAJ q6,e0,e1]
  refine qXQ hY (qLE.1 e) λ_=>?_
  simp only [qH6,qAA,qO5]
  refine qEB q6 (by show 0 < 2;omega) rfl λs19 h19 u19=>qAH (qAY h19 rfl) ?_
  have z19:s19 b2=some (false,.cells 41 [.int .u32 0,.int .i64 0]):=by rw [u19 _ (Ne.symm nb)];exact z6
  refine qAU z19 rfl rfl rfl λs21 h21 u21=>qAH (qAY h21 rfl) ?_
  exact h2 e s21 (qAc (qAc k06 u19 hb) u21 sb2)
theorem eq41 (a l a' l':Int):qFb Tryz.prog 41 (.agg [.int .u32 a,.int .i64 l]) (.agg [.int .u32 a',.int .i64 l'])=mB (some (eqI a a')) (mB (some (eqI l l')) (some true)):=by kernel_rfl
theorem eq41' {a l a' l':Int}:qFb Tryz.prog 41 (.agg [.int .u32 a,.int .i64 l]) (.agg [.int .u32 a',.int .i64 l'])=some (a == a'&&l == l'):=by
 rw [eq41,qEN,qEN]
 by_cases h1:a=a'
 ·by_cases h2:l=l'
  ·simp [mB,h1,h2]
  ·simp [mB,h1,h2]
 ·simp [mB,h1]
theorem qUv (hY:Fn0 Y) {ip len:Int} (hK:∀ s',Sub s s'→K (.bool (qEe ip len)) s'):wC Tryz.prog Y 142 [.agg (pfC ip len)] K s:=by
 refine qTZ hY.fr (hY.no _ rfl) ⟨rfl,qAL λb s1 hb q1 u1=>?_⟩
 have q1:s1 b=some (false,.cells 41 (pfC ip len)):=q1
 have k1:=u1.sub hb
 refine qAH (qAY q1 rfl) (zAAM hY (λe s4 k4=>?_) λe s4 k4=>?_)
 ·refine qAH (a:=.agg (pfC 0 0)) rfl (qAH (a:=.int .i64 2) rfl (qAL λb7 s8 hb7 h8 u8=>qAU h8 rfl rfl rfl λs9 h9 u9=>?_))
  have hk:=hK s9 (k1.trans (k4.trans (qAc (u8.sub hb7) u9 hb7)))
  unfold qEe at hk
  rw [e] at hk
  simp only [qAa,qAW,Bool.false_bne,qAA]
  exact hk
 ·refine qAH (a:=.agg (pfC (andU ip (mskU len)) len)) rfl (qAH (a:=.int .i64 0) rfl (qAL λb7 s8 hb7 h8 u8=>qAU h8 rfl rfl rfl λs9 h9 u9=>?_))
  have k9:Sub s4 s9:=qAc (u8.sub hb7) u9 hb7
  have hk:=hK s9 (k1.trans (k4.trans k9))
  unfold qEe at hk
  rw [e] at hk
  have q9:=k9 _ _ (k4 _ _ q1)
  simp only [qAa,qAW,Bool.false_bne,qAA]
  show qAM (.bool true) _ _
  rw [qAK]
  refine qAH (qAY h9 rfl) (qAH (qAY q9 rfl) ?_)
  rw [eq41']
  simp only [qAW,Bool.false_bne,qAA]
  have:(andU ip (mskU len) == ip&&len == len)=(andU ip (mskU len) == ip):=by simp
  rw [this]
  exact hk
def qSI (ip len:Int):Int:=orU ip (IntKind.u32.wrap (shlU 1 (32 - len).toNat - 1))
def qKe (ip len x:Int):Bool:=qCL ip len x&&(x != ip)&&(x != qSI ip len)
theorem qVG (hY:Fn0 Y) {ip len x:Int} (h:-1000≤len∧len≤32) (hK:∀ s',Sub s s'→K (.bool (qKe ip len x)) s'):wC Tryz.prog Y 143 [.agg (pfC ip len),.int .u32 x] K s:=by
 refine qUO hY.fr (hY.no _ rfl) ⟨rfl,qAL λb s1 hb q1 u1=>?_⟩
 have q1:s1 b=some (false,.cells 41 (pfC ip len)):=q1
 have k1:=u1.sub hb
 have e0:(pfC ip len)[0]?=some (.int .u32 ip):=rfl
 have e1:(pfC ip len)[1]?=some (.int .i64 len):=rfl
 simp only [qAB,zA,qAA,qAJ q1,e0,e1,qAf]
 rw [qAX (by omega) (by omega),qVC h.2]
 simp only [qAf,qAA,qYo]
 refine qAH (qAY q1 rfl) (qKs hY λs12 k12=>?_)
 have q12:=k12 _ _ q1
 have hk:=hK s12 (k1.trans k12)
 unfold qKe at hk
 have hl:orU ip (IntKind.u32.wrap (shlU 1 (32 - len).toNat - 1))=qSI ip len:=rfl
 rw [hl]
 refine qAG (λe=>?_) (λe=>?_)
 ·simp only [qAA,qAJ q12,e0,qAa,qAW,Bool.true_bne]
  rw [e] at hk ⊢
  simp only [qK0,qAO,qAA]
  have e2:(!(x == ip))=(x != ip):=rfl
  rw [e2]
  refine qAG (λe3=>?_) (λe3=>?_)
  ·rw [e3] at hk ⊢
   simp only [qAa,qAW,Bool.true_bne,qAA,qK9,qAO]
   exact hk
  ·rw [e3] at hk ⊢
   exact hk
 ·rw [e] at hk ⊢
  exact hk
end Go.AM.TN
set_option maxRecDepth 100000
namespace Go.AM.TN
open Go Go.Proofs
variable {K R : AV → Hq → Prop} {s s' s0 : Hq} {lv uv v y w k : AV} {b c mb rb : Nat} {cs : List AV} {Y : Td} {F : FG} {v2 v3 v4 v5 v6 v7 : AV} {t : Bool} {J : AV → Hq → Prop}
def fstI {A:Type} (p:A→Bool) (l:List A):Int:=match l.findIdx? p with
 | some i=>(i:Int)
 | none=>-1
theorem qQd {A:Type} {p:A→Bool} {l:List A}:decide (0≤fstI p l)=l.any p:=by
 unfold fstI
 cases h:l.findIdx? p with
 | none=>
   have:=List.findIdx?_eq_none_iff.1 h
   have e:l.any p=false:=by
    rw [List.any_eq_false]
    exact λx hx=>by rw [this x hx];simp
   rw [e];rfl
 | some i=>
   obtain ⟨hi,hp,_⟩:=List.findIdx?_eq_some_iff_getElem.1 h
   have e:l.any p=true:=List.any_eq_true.2 ⟨l[i],List.getElem_mem hi,hp⟩
   rw [e]
   show decide ((0:Int)≤(i:Int))=true
   exact decide_eq_true (by omega)
theorem qNY {A:Type} {p:A→Bool} {l:List A} {i:Nat} {x:A} (hx:l[i]?=some x) (hp:p x=true) (hb:∀ j z,j < i→l[j]?=some z→p z=false):fstI p l=i:=by
 unfold fstI
 obtain ⟨hi,e⟩:=gS hx
 have:l.findIdx? p=some i:=List.findIdx?_eq_some_iff_getElem.2 ⟨hi,by rw [e];exact hp,λj hj=>by rw [hb j l[j] hj (gE (by omega))];simp⟩
 rw [this]
theorem qLy {A:Type} {p:A→Bool} {l:List A} (hb:∀ (j:Nat) z,l[j]?=some z→p z=false):fstI p l=-1:=by
 unfold fstI
 have:l.findIdx? p=none:=List.findIdx?_eq_none_iff.2 λx hx=>by
  obtain ⟨j,hj⟩:=List.getElem?_of_mem hx
  exact hb j x hj
 rw [this]
theorem qVz (hY:Fn0 Y) {p:BG→Bool} {rows:List BG} {fv:AV} (hn:rows.length≤4294967296) (hv:SlR 6 s v (rows.map bgC)) (hp:∀ (x:BG) (s1:Hq) (J:AV→Hq→Prop),Sub s s1→(∀ s',Sub s1 s'→J (.bool (p x)) s')→funK Tryz.prog Y fv [.agg (bgC x)] J s1)
  (hK:∀ s',Sub s s'→K (.int .i64 (fstI p rows)) s'):wC Tryz.prog Y 175 [v,fv] K s:=by
 refine qEz hY.fr (hY.no _ rfl) ?_
 unfold qDE
 have hlen:qAQ v=some rows.length:=by rw [hv.len,List.length_map]
 rw [hlen]
 simp only [qAA]
 refine ⟨λys t m=>∃ i:Nat,ys=[.int .i64 (i:Int)]∧i≤rows.length∧m=rows.length - i∧Sub s t∧∀ j z,j < i→rows[j]?=some z→p z=false,⟨_,0,rfl,by omega,rfl,.refl _,λj z hj=>by omega⟩,?_⟩
 rintro f t m ⟨i,hy,hi,rfl,kt,hall⟩
 simp only [cI,and_true] at hy
 rw [hy]
 simp only [qCn,qAP,qAA]
 refine qAG (λhlt=>?_) (λhge=>?_)
 rotate_left
 ·have hge:i=rows.length:=by have:=oF hge;omega
  subst hge
  have:=hK t kt
  rw [qLy λj z hz=>hall j z (gS hz).1 hz] at this
  exact this
 have hlt:i < rows.length:=by have:=oT hlt;omega
 have hx:rows[i]?=some rows[i]:=gE hlt
 generalize rows[i]=x at hx
 obtain ⟨pb,po,e1,e2,_⟩:=(hv.sub kt).get (i:=i) (r:=bgC x) (by rw [List.getElem?_map,hx];rfl)
 rw [e1]
 simp only [qAA,e2]
 refine hp x t _ kt λs6 k6=>?_
 refine qAG (λq=>?_) (λq=>?_)
 ·have:=hK s6 (kt.trans k6)
  rw [qNY hx q hall] at this
  exact this
 ·simp only [qAT,qAA]
  rw [qAX (by omega) (by omega)]
  refine ⟨_,by omega,i+1,rfl,by omega,rfl,kt.trans k6,λj z hj hz=>?_⟩
  by_cases e:j < i
  ·exact hall j z e hz
  ·have:j=i:=by omega
   subst this
   rw [hx] at hz
   cases hz
   exact q
theorem qW0 (hY:Fn0 Y) {p:Int × Int→Bool} {rows:List (Int × Int)} {fv:AV} (hn:rows.length≤4294967296) (hv:SlR 2 s v (rows.map tgC)) (hp:∀ (x:Int × Int) (s1:Hq) (J:AV→Hq→Prop),Sub s s1→(∀ s',Sub s1 s'→J (.bool (p x)) s')→funK Tryz.prog Y fv [.agg (tgC x)] J s1)
  (hK:∀ s',Sub s s'→K (.int .i64 (fstI p rows)) s'):wC Tryz.prog Y 184 [v,fv] K s:=by
 refine qDU hY.fr (hY.no _ rfl) ?_
 unfold qB5
 have hlen:qAQ v=some rows.length:=by rw [hv.len,List.length_map]
 rw [hlen]
 simp only [qAA]
 refine ⟨λys t m=>∃ i:Nat,ys=[.int .i64 (i:Int)]∧i≤rows.length∧m=rows.length - i∧Sub s t∧∀ j z,j < i→rows[j]?=some z→p z=false,⟨_,0,rfl,by omega,rfl,.refl _,λj z hj=>by omega⟩,?_⟩
 rintro f t m ⟨i,hy,hi,rfl,kt,hall⟩
 simp only [cI,and_true] at hy
 rw [hy]
 simp only [qBt,qAP,qAA]
 refine qAG (λhlt=>?_) (λhge=>?_)
 rotate_left
 ·have hge:i=rows.length:=by have:=oF hge;omega
  subst hge
  have:=hK t kt
  rw [qLy λj z hz=>hall j z (gS hz).1 hz] at this
  exact this
 have hlt:i < rows.length:=by have:=oT hlt;omega
 have hx:rows[i]?=some rows[i]:=gE hlt
 generalize rows[i]=x at hx
 obtain ⟨pb,po,e1,e2,_⟩:=(hv.sub kt).get (i:=i) (r:=tgC x) (by rw [List.getElem?_map,hx];rfl)
 rw [e1]
 simp only [qAA,e2]
 refine hp x t _ kt λs6 k6=>?_
 refine qAG (λq=>?_) (λq=>?_)
 ·have:=hK s6 (kt.trans k6)
  rw [qNY hx q hall] at this
  exact this
 ·simp only [qAT,qAA]
  rw [qAX (by omega) (by omega)]
  refine ⟨_,by omega,i+1,rfl,by omega,rfl,kt.trans k6,λj z hj hz=>?_⟩
  by_cases e:j < i
  ·exact hall j z e hz
  ·have:j=i:=by omega
   subst this
   rw [hx] at hz
   cases hz
   exact q
theorem qYQ (hY:Fn0 Y) {p:Int→Bool} {l:List Int} {fv:AV} (hn:l.length≤4294967296) (hv:Sl s v (ix l)) (hp:∀ (x:Int) (s1:Hq) (J:AV→Hq→Prop),Sub s s1→(∀ s',Sub s1 s'→J (.bool (p x)) s')→funK Tryz.prog Y fv [.int .i64 x] J s1)
  (hK:∀ s',Sub s s'→K (.int .i64 (fstI p l)) s'):wC Tryz.prog Y 178 [v,fv] K s:=by
 refine qG7 hY.fr (hY.no _ rfl) ?_
 unfold qEp
 have hlen:qAQ v=some l.length:=by rw [hv.len,qCG]
 rw [hlen]
 simp only [qAA]
 refine ⟨λys t m=>∃ i:Nat,ys=[.int .i64 (i:Int)]∧i≤l.length∧m=l.length - i∧Sub s t∧∀ j z,j < i→l[j]?=some z→p z=false,⟨_,0,rfl,by omega,rfl,.refl _,λj z hj=>by omega⟩,?_⟩
 rintro f t m ⟨i,hy,hi,rfl,kt,hall⟩
 simp only [cI,and_true] at hy
 rw [hy]
 simp only [qDm,qAP,qAA]
 refine qAG (λhlt=>?_) (λhge=>?_)
 rotate_left
 ·have hge:i=l.length:=by have:=oF hge;omega
  subst hge
  have:=hK t kt
  rw [qLy λj z hz=>hall j z (gS hz).1 hz] at this
  exact this
 have hlt:i < l.length:=by have:=oT hlt;omega
 obtain ⟨pp,g1,g2⟩:=(hv.sub kt).get (i:=i) (by rw [qCG];exact hlt)
 rw [qH7 hlt] at g2
 have hx:l[i]?=some l[i]:=gE hlt
 generalize l[i]=x at hx g2
 rw [g1]
 simp only [qAA,g2]
 refine hp x t _ kt λs6 k6=>?_
 refine qAG (λq=>?_) (λq=>?_)
 ·have:=hK s6 (kt.trans k6)
  rw [qNY hx q hall] at this
  exact this
 ·simp only [qAT,qAA]
  rw [qAX (by omega) (by omega)]
  refine ⟨_,by omega,i+1,rfl,by omega,rfl,kt.trans k6,λj z hj hz=>?_⟩
  by_cases e:j < i
  ·exact hall j z e hz
  ·have:j=i:=by omega
   subst this
   rw [hx] at hz
   cases hz
   exact q
theorem qRY (hY:Fn0 Y) {p:BG→Bool} {rows:List BG} {fv:AV} (hn:rows.length≤4294967296) (hv:SlR 6 s v (rows.map bgC)) (hp:∀ (x:BG) (s1:Hq) (J:AV→Hq→Prop),Sub s s1→(∀ s',Sub s1 s'→J (.bool (p x)) s')→funK Tryz.prog Y fv [.agg (bgC x)] J s1)
  (hK:∀ s',Sub s s'→K (.bool (rows.any p)) s'):wC Tryz.prog Y 144 [v,fv] K s:=by
 refine qEI hY.fr (hY.no _ rfl) ?_
 unfold qCo
 refine qVz hY hn hv hp λs' k=>?_
 simp only [qBn,qAA,qQd]
 exact hK s' k
theorem qQQ (hY:Fn0 Y) {p:Int × Int→Bool} {rows:List (Int × Int)} {fv:AV} (hn:rows.length≤4294967296) (hv:SlR 2 s v (rows.map tgC)) (hp:∀ (x:Int × Int) (s1:Hq) (J:AV→Hq→Prop),Sub s s1→(∀ s',Sub s1 s'→J (.bool (p x)) s')→funK Tryz.prog Y fv [.agg (tgC x)] J s1)
  (hK:∀ s',Sub s s'→K (.bool (rows.any p)) s'):wC Tryz.prog Y 172 [v,fv] K s:=by
 refine qDD hY.fr (hY.no _ rfl) ?_
 unfold qBu
 refine qW0 hY hn hv hp λs' k=>?_
 simp only [qBn,qAA,qQd]
 exact hK s' k
theorem qMj (hY:Fn0 Y) {p:Int→Bool} {l:List Int} {fv:AV} (hn:l.length≤4294967296) (hv:Sl s v (ix l)) (hp:∀ (x:Int) (s1:Hq) (J:AV→Hq→Prop),Sub s s1→(∀ s',Sub s1 s'→J (.bool (p x)) s')→funK Tryz.prog Y fv [.int .i64 x] J s1)
  (hK:∀ s',Sub s s'→K (.bool (l.any p)) s'):wC Tryz.prog Y 147 [v,fv] K s:=by
 refine qFt hY.fr (hY.no _ rfl) ?_
 unfold qDo
 refine qYQ hY hn hv hp λs' k=>?_
 simp only [qBn,qAA,qQd]
 exact hK s' k
theorem zABu (hY:Fn0 Y) {kf:Int × Int→Int} {rows:List (Int × Int)} {g:FuncId} {n:Int} (hn:rows.length≤4294967296) (hv:SlR 2 s v (rows.map tgC)) (hg:∀ (x:Int × Int) (s:Hq) (J:AV→Hq→Prop),(∀ s',Sub s s'→J (.int .u32 (kf x)) s')→funK Tryz.prog Y (.fn (.func g) [] []) [.agg (tgC x)] J s)
  (hK:∀ s',Sub s s'→K (.bool (rows.any λx=>kf x == n)) s'):wC Tryz.prog Y 141 [v,.fn (.func g) [] [],.int .u32 n] K s:=by
 refine qF9 hY.fr (hY.no _ rfl) (qRD rfl λb0 s1 hb0 h1 u1=>qRD rfl λb2 s3 hb2 h3 u3=>?_)
 have k1:=u1.sub hb0
 have k3:=u3.sub hb2
 refine qQQ hY (p:=λx=>kf x == n) hn (hv.sub (k1.trans k3)) (λx sA J kA hJ=>?_) λs' k=>hK s' ((k1.trans k3).trans k)
 refine qPP (by kernel_rfl) (qFT hY.fr (hY.no _ rfl) ⟨rfl,qAL λb s5 hb h5 u5=>?_⟩)
 have h5:s5 b=some (false,.cells 112 (tgC x)):=h5
 have k5:=u5.sub hb
 have e0:[AV.fn (.func g) [] []][0]?=some (.fn (.func g) [] []):=rfl
 have h15:=k5 _ _ (kA _ _ (k3 _ _ h1))
 have h35:=k5 _ _ (kA _ _ h3)
 simp only [qAJ h15,e0,qAA]
 refine qAH (qAY h5 rfl) (hg x (frz s5) _ λs6 k6 _=>?_)
 have h36:cutH [(s5,add s5 s6)] (add s5 s6) b2=some (false,.cells 32 [.int .u32 n]):=qRV h35 (qBj h35)
 have e1:[AV.int .u32 n][0]?=some (.int .u32 n):=rfl
 simp only [qAJ h36,e1,qAA,qAa,qAW,Bool.false_bne]
 exact hJ _ (k5.trans qDQ)
def qN3 (b x:BG):Bool:=(x.1 == b.1)&&(x.2.2.2.2.2 != 0)&&(qCL x.2.2.2.1 x.2.2.2.2.1 b.2.2.2.1||qCL b.2.2.2.1 b.2.2.2.2.1 x.2.2.2.1)
theorem zADf (hY:Fn0 Y) {d x:BG} {cb:Nat} {t:Bool} (hd:s cb=some (t,.cells 114 (bgC d))) (hJ:∀ s',Sub s s'→J (.bool (qN3 d x)) s'):funK Tryz.prog Y (.fn (.func 145) [] [.ptr cb 0]) [.agg (bgC x)] J s:=by
 refine qPP (by kernel_rfl) (qNu hY.fr (hY.no _ rfl) ⟨rfl,qAL λb s1 hb h1 u1=>?_⟩)
 have h1:s1 b=some (false,.cells 114 (bgC x)):=h1
 have k1:=u1.sub hb
 have hd1:=k1 _ _ hd
 have a0:(bgC x)[0]?=some (.int .i64 x.1):=rfl
 have a3:(bgC x)[3]?=some (.int .u32 x.2.2.2.1):=rfl
 have a5:(bgC x)[5]?=some (.int .u32 x.2.2.2.2.2):=rfl
 have d0:(bgC d)[0]?=some (.int .i64 d.1):=rfl
 have d3:(bgC d)[3]?=some (.int .u32 d.2.2.2.1):=rfl
 have rx:∀ {s2:Hq},Sub s1 s2→rdN s2 2 (.ptr b 3)=some (pfC x.2.2.2.1 x.2.2.2.2.1):=fun {s2} q=>by simp only [rdN,q _ _ h1];rfl
 have rd:∀ {s2:Hq},Sub s1 s2→rdN s2 2 (.ptr cb 3)=some (pfC d.2.2.2.1 d.2.2.2.2.1):=fun {s2} q=>by simp only [rdN,q _ _ hd1];rfl
 simp only [qAB,zA,qAA,qAJ h1,qAJ hd1,a0,d0,qAa,qAW,Bool.false_bne]
 unfold qN3 at hJ
 have j0:∀ (p q:AV) (ok:Bool),qAV p q (.bool false)=some (.bool ok)→((x.1 == d.1)&&(x.2.2.2.2.2 != 0))=ok→qEu Y (.ptr cb 0) (.ptr b 0) p q J s1:=λp q ok h he=>by
  unfold qEu
  rw [h]
  rw [he] at hJ
  simp only [qAA]
  refine qAG (λe=>?_) (λe=>?_)
  ·simp only [qAB,zA,qAA,qAJ hd1,d3,rx (.refl _)]
   refine qKs hY λs14 k14=>?_
   refine qAG (λe2=>?_) (λe2=>?_)
   ·have:=hJ s14 (k1.trans k14)
    rw [e,e2] at this
    rw [e,e2]
    exact this
   ·have h14:=k14 _ _ h1
    simp only [qAA,qAJ h14,a3,rd k14]
    refine qKs hY λs23 k23=>?_
    have:=hJ s23 (k1.trans (k14.trans k23))
    rw [e,e2] at this
    rw [e,e2]
    exact this
  ·have:=hJ s1 k1
   rw [e] at this
   rw [e]
   exact this
 refine qAG (λe=>?_) (λe=>?_)
 ·simp only [qAA,a5,qAa,qAW,Bool.true_bne]
  exact j0 _ _ (!(x.2.2.2.2.2 == 0)) (by rw [e];rfl) (by rw [e];rfl)
 ·exact j0 _ _ false (by rw [e];rfl) (by rw [e];rfl)
end Go.AM.TN
set_option maxRecDepth 100000
namespace Go.AM.TN
open Go Go.Proofs
variable {K R : AV → Hq → Prop} {s s' s0 : Hq} {lv uv v y w k : AV} {b c mb rb : Nat} {cs : List AV} {Y : Td} {F : FG} {v2 v3 v4 v5 v6 v7 : AV} {t : Bool} {J : AV → Hq → Prop}
theorem RepR.addf {s2:Hq} {ks:List AV} (h:RepR s2 v ks) (hs:Sub (AM.frz s) s2):RepR (add s s2) v ks:=by
 obtain ⟨bs,h1,h2,h3⟩:=h.ex
 exact ⟨bs,h1.addf hs,h2,h3⟩
def BdG (F:FG) (x:BG):Prop:=(0≤x.1∧x.1 < (F.T.length:Int))∧(1≤x.2.1∧x.2.1≤16777215)∧x.2.2.1≠0
def BdS (F:FG) (i:Nat) (x:BG):Prop:=(x.2.2.2.2.2=0→x.2.2.2.1=0∧x.2.2.2.2.1=0)∧(x.2.2.2.2.2≠0→qEe x.2.2.2.1 x.2.2.2.2.1=true∧(8≤x.2.2.2.2.1∧x.2.2.2.2.1≤30)∧qKe x.2.2.2.1 x.2.2.2.2.1 x.2.2.2.2.2=true∧(F.B.take i).any (qN3 x)=false)
structure BdRow (F:FG) (i:Nat) (x:BG):Prop where
 g:BdG F x
 vn:x.2.1 ∉ (F.B.take i).map (·.2.1)
 tg:x.2.2.1 ∉ (F.B.take i).map (·.2.2.1)
 tv:F.T.any (λy=>y.1 == x.2.1)=false
 tt:F.T.any (λy=>y.2 == x.2.2.1)=false
 s:BdS F i x
structure DomOk (F:FG):Prop where
 n:F.B.length≤32
 row:∀ (i:Nat) x,F.B[i]?=some x→BdRow F i x
abbrev InvB (F:FG) (s20:Hq):List AV→Hq→Nat→Prop:=λys t m=>∃ i:Nat,ys=[.int .i64 (i:Int)]∧i≤F.B.length∧m=F.B.length - i∧Sub s20 t∧∀ (j:Nat) x,j < i→F.B[j]?=some x→BdRow F j x
theorem qWW (hT:F.T.length≤16) (hn:F.B.length≤4294967296) (hc:s c=some (t,.cells 153 (csG F v2 v3 v4 v5 v6 v7))) (hL:FL s F v2 v3 v4 v5 v6 v7) (hK:Kok s (DomOk F) K) (hR:Rbad s (DomOk F) R):qAh Tryz.prog X0 SS 111 [.ptr c 0] K R s:=by
 refine qRT (qMN rfl hc hL λb3 s5 h5 k5=>?_)
 have hL5:=(hL.sub k5).B
 have hlen:qAQ v4=some F.B.length:=by rw [hL5.len,List.length_map]
 simp only [qAB,zA,qAA,qAJ h5,csG4,hlen,qAg]
 refine qBA (λq=>?_) λq=>hR (λg=>by have:=oT q;have:=g.n;omega) _ _ _ s5 (by omega) k5
 have hn32:F.B.length≤32:=by have:=oF q;omega
 simp only [qAJ h5,csG4,qAA]
 refine zABx X0_0 (rows:=F.B) (rowC:=bgC) (λ_=>rfl) (λ_=>rfl) (kf:=λx=>x.2.1) (λx s J=>zAEh X0_0 x s J) hL5.frz (by omega) λs16 vn k16 repv=>?_
 intro _
 have h516:cutH [(s5,add s5 s16)] (add s5 s16) b3=some (false,.cells 68 (csG F v2 v3 v4 v5 v6 v7)):=qRV h5 (qBj h5)
 have repv':=repv.addf k16
 have ka:Sub s5 (add s5 s16):=qDQ
 simp only [qAJ h516,csG4,qAA]
 generalize add s5 s16=s17 at repv' ka ⊢
 refine zABx X0_0 (rows:=F.B) (rowC:=bgC) (λ_=>rfl) (λ_=>rfl) (kf:=λx=>x.2.2.1) (λx s J=>zAFb X0_0 x s J) (hL5.sub ka) (by omega) λs20 tg k20 rept=>?_
 have h20:=k20 _ _ (ka _ _ h5)
 have k520:Sub s5 s20:=ka.trans k20
 simp only [qAJ h20,csG4,qAA,hlen]
 have hiv:∀ x y:BG,(AV.int .u32 x.2.1=AV.int .u32 y.2.1)↔x.2.1=y.2.1:=λx y=>by simp
 have hit:∀ x y:BG,(AV.int .u32 x.2.2.1=AV.int .u32 y.2.2.1)↔x.2.2.1=y.2.2.1:=λx y=>by simp
 refine ⟨InvB F s20,⟨_,0,rfl,by omega,rfl,.refl _,λj x hj=>by omega⟩,?_⟩
 rintro f t m ⟨i,hy,hi,rfl,kt,hall⟩
 simp only [cI,and_true] at hy
 rw [hy]
 simp only [qLP,qAP,qAA]
 refine qAG (λhlt=>?_) (λhge=>?_)
 rotate_left
 ·have hge:i=F.B.length:=by have:=oF hge;omega
  subst hge
  exact hK ⟨hn32,λj x hx=>hall j x (gS hx).1 hx⟩ t (k5.trans (k520.trans kt))
 have hlt:i < F.B.length:=by have:=oT hlt;omega
 have hx:F.B[i]?=some F.B[i]:=gE hlt
 generalize F.B[i]=x at hx
 obtain ⟨pb,po,e1,e2,_⟩:=(hL5.sub (k520.trans kt)).get (i:=i) (r:=bgC x) (by rw [List.getElem?_map,hx];rfl)
 rw [e1]
 simp only [qAA,e2]
 refine qAL λb29 s30 hb29 h30 u30=>qAU h30 rfl rfl rfl λs31 h31 u31=>?_
 have k31:Sub t s31:=qAc (u30.sub hb29) u31 hb29
 have kall:Sub s s31:=k5.trans (k520.trans (kt.trans k31))
 have h3:s31 b3=some (false,.cells 68 (csG F v2 v3 v4 v5 v6 v7)):=k31 _ _ (kt _ _ h20)
 have hL3:FL s31 F v2 v3 v4 v5 v6 v7:=hL.sub kall
 have lenT:qAQ v3=some F.T.length:=by rw [hL.T.len,List.length_map]
 have a0:(bgC x)[0]?=some (.int .i64 x.1):=rfl
 have a1:(bgC x)[1]?=some (.int .u32 x.2.1):=rfl
 have a2:(bgC x)[2]?=some (.int .u32 x.2.2.1):=rfl
 have a4:(bgC x)[4]?=some (.int .i64 x.2.2.2.2.1):=rfl
 have a5:(bgC x)[5]?=some (.int .u32 x.2.2.2.2.2):=rfl
 have rx:∀ {s2:Hq},Sub s31 s2→rdN s2 2 (.ptr b29 3)=some (pfC x.2.2.2.1 x.2.2.2.2.1):=fun {s2} q=>by simp only [rdN,q _ _ h31];rfl
 obtain ⟨p1,w1,g11,g12,g13⟩:=(repv'.sub (k20.trans (kt.trans k31))).at (j:=i) (k:=.int .u32 x.2.1) (by rw [List.getElem?_map,hx];rfl)
 obtain ⟨p2,w2,g21,g22,g23⟩:=(rept.sub (kt.trans k31)).at (j:=i) (k:=.int .u32 x.2.2.1) (by rw [List.getElem?_map,hx];rfl)
 rw [← List.map_take,qEL hiv] at g13
 rw [← List.map_take,qEL hit] at g23
 have j1:BdRow F i x→∀ {s2:Hq},Sub s31 s2→qGN X0 (.int .i64 (i:Int)) (InvB F s20) (F.B.length - i) K R s2:=λok {s2} k2=>by
  unfold qGN
  simp only [qAT,qAA]
  rw [qAX (by omega) (by omega)]
  refine ⟨_,by omega,i+1,rfl,by omega,rfl,kt.trans (k31.trans k2),λj z hj hz=>?_⟩
  by_cases e:j < i
  ·exact hall j z e hz
  ·have:j=i:=by omega
   subst this
   rw [hx] at hz
   cases hz
   exact ok
 have hbad:∀ {s2:Hq},¬ BdRow F i x→Sub s31 s2→∀ (e:Int) (p:ByteArray) (i:Int),e≠0→R (flV e p i) s2:=fun {s2} q k2 e p i he=>hR (λg=>q (g.row _ x hx)) e p i s2 he (kall.trans k2)
 have j8:∀ (p q:AV) (bd:Bool),qAV p (.bool true) q=some (.bool bd)→(bd=true→¬ BdRow F i x)→(bd=false→(8≤x.2.2.2.2.1∧x.2.2.2.2.1≤30)∧qEe x.2.2.2.1 x.2.2.2.2.1=true)→x.2.2.2.2.2≠0→(BdS F i x→BdRow F i x)→∀ {s2:Hq},Sub s31 s2→qGQ X0 (.ptr b3 0) (.int .i64 (i:Int)) (.ptr b29 0) (.int .i64 (i:Int)) p q (InvB F s20) (F.B.length - i) K R s2:=λp q bd h h1 h2 hg ok {s2} k2=>by
  unfold qGQ
  rw [h]
  simp only [qAA]
  refine qBA (λq1=>?_) λq1=>hbad (h1 q1) k2 _ _ _ (by omega)
  obtain ⟨m1,m2⟩:=h2 q1
  have h31':=k2 _ _ h31
  simp only [qAB,zA,qAA,rx k2,qAJ h31',a5]
  refine qVG X0_0 (by omega) λs75 k75=>?_
  simp only [qAb,qAA]
  refine qBA (λq2=>?_) λq2=>hbad (λg=>by have:=(g.s.2 hg).2.2.1;rw [this] at q2;cases q2) (k2.trans k75) _ _ _ (by omega)
  have q2:qKe x.2.2.2.1 x.2.2.2.2.1 x.2.2.2.2.2=true:=by simpa using q2
  have h3':=k75 _ _ (k2 _ _ h3)
  simp only [qAJ h3',csG4,qAA]
  obtain ⟨v',z1,z2,_⟩:=(hL3.B.sub (k2.trans k75)).take (k:=i) (by rw [List.length_map];omega) (λe=>by have:=congrArg List.length e;rw [List.length_map,List.length_nil] at this;omega)
  rw [← List.map_take] at z2
  rw [z1]
  simp only [qAA]
  refine qRY X0_0 (p:=qN3 x) (by rw [List.length_take];omega) z2 (λz sA J kA hJ=>zADf X0_0 (kA _ _ (k75 _ _ h31')) hJ) λs83 k83=>?_
  refine qBA (λq3=>?_) λq3=>hbad (λg=>by have:=(g.s.2 hg).2.2.2;rw [this] at q3;cases q3) ((k2.trans k75).trans k83) _ _ _ (by omega)
  exact j1 (ok ⟨λe=>absurd e hg,λ_=>⟨m2,m1,q2,q3⟩⟩) ((k2.trans k75).trans k83)
 have j7:∀ (p q:AV) (bd:Bool),qAV p (.bool true) q=some (.bool bd)→(bd=true→¬ BdRow F i x)→(bd=false→BdS F i x→BdRow F i x)→∀ {s2:Hq},Sub s31 s2→qGM X0 (.ptr b3 0) (.int .i64 (i:Int)) (.ptr b29 0) (.int .i64 (i:Int)) p q (InvB F s20) (F.B.length - i) K R s2:=λp q bd h h1 h2 {s2} k2=>by
  unfold qGM
  rw [h]
  simp only [qAA]
  refine qBA (λq1=>?_) λq1=>hbad (h1 q1) k2 _ _ _ (by omega)
  have h31':=k2 _ _ h31
  simp only [qAB,zA,qAA,qAJ h31',a5,qAa,qAW,Bool.false_bne]
  refine qAG (λq2=>?_) (λq2=>?_)
  ·have q2:x.2.2.2.2.2=0:=by simpa using q2
   rw [rx k2]
   simp only [qAA]
   refine qAH (a:=[.int .u32 0,.int .i64 0]) rfl ?_
   rw [eq41']
   simp only [qAW,Bool.true_bne,qAA]
   refine qBA (λq3=>?_) λq3=>hbad (λg=>by obtain ⟨z1,z2⟩:=g.s.1 q2;simp [z1,z2] at q3) k2 _ _ _ (by omega)
   have q3:x.2.2.2.1=0∧x.2.2.2.2.1=0:=by simpa using q3
   exact j1 (h2 q1 ⟨λ_=>q3,λe=>absurd q2 e⟩) k2
  ·have q2:x.2.2.2.2.2≠0:=by simpa using q2
   rw [rx k2]
   simp only [qAA]
   refine qUv X0_0 λs65 k65=>?_
   simp only [qAb,qAA]
   refine qAG (λq3=>?_) (λq3=>?_)
   ·exact j8 _ _ true (by rw [q3];rfl) (λ_ g=>by have:=(g.s.2 q2).1;rw [this] at q3;cases q3) (λq4=>by cases q4) q2 (h2 q1) (k2.trans k65)
   ·have h31'':=k65 _ _ h31'
    have hcl:qEe x.2.2.2.1 x.2.2.2.2.1=true:=by simpa using q3
    simp only [qAA,qAJ h31'',a4]
    refine qB0 X0_0 ?_
    exact j8 _ _ (outB x.2.2.2.2.1 8 30) (by rw [q3];rfl) (λq4 g=>by have:=qAk.2 (g.s.2 q2).2.1;rw [this] at q4;cases q4) (λq4=>⟨qAk.1 q4,hcl⟩) q2 (h2 q1) (k2.trans k65)
 have j6:∀ (p q:AV) (bd:Bool),qAV p (.bool true) q=some (.bool bd)→(bd=true→¬ BdRow F i x)→(bd=false→F.T.any (λy=>y.2 == x.2.2.1)=false→BdS F i x→BdRow F i x)→∀ {s2:Hq},Sub s31 s2→qGS X0 (.ptr b3 0) (.int .i64 (i:Int)) (.ptr b29 0) (.int .i64 (i:Int)) p q (InvB F s20) (F.B.length - i) K R s2:=λp q bd h h1 h2 {s2} k2=>by
  unfold qGS
  rw [h]
  simp only [qAA]
  refine qAG (λq1=>?_) (λq1=>?_)
  ·exact j7 _ _ bd (by rw [q1];rfl) h1 (λq2=>by rw [q1] at q2;cases q2) k2
  ·simp only [qAB,zA,qAA,qAJ (k2 _ _ h3),csG3,qAJ (k2 _ _ h31),a2]
   refine zABu X0_0 (kf:=λy=>y.2) (by omega) (hL3.T.sub k2) (λy s J=>zACA X0_0 y s J) λs96 k96=>?_
   exact j7 _ _ (F.T.any λy=>y.2 == x.2.2.1) (by rw [q1];rfl) (λq2 g=>by rw [g.tt] at q2;cases q2) (λq2=>h2 q1 q2) (k2.trans k96)
 have j5:∀ (p q:AV) (bd:Bool),qAV p (.bool true) q=some (.bool bd)→(bd=true→¬ BdRow F i x)→(bd=false→F.T.any (λy=>y.1 == x.2.1)=false→F.T.any (λy=>y.2 == x.2.2.1)=false→BdS F i x→BdRow F i x)→qGC X0 (.ptr b3 0) (.int .i64 (i:Int)) (.ptr b29 0) (.int .i64 (i:Int)) p q (InvB F s20) (F.B.length - i) K R s31:=λp q bd h h1 h2=>by
  unfold qGC
  rw [h]
  simp only [qAA]
  refine qAG (λq1=>?_) (λq1=>?_)
  ·exact j6 _ _ bd (by rw [q1];rfl) h1 (λq2=>by rw [q1] at q2;cases q2) (.refl _)
  ·simp only [qAB,zA,qAA,qAJ h3,csG3,qAJ h31,a1]
   refine zABu X0_0 (kf:=λy=>y.1) (by omega) hL3.T (λy s J=>zACK X0_0 y s J) λs102 k102=>?_
   exact j6 _ _ (F.T.any λy=>y.1 == x.2.1) (by rw [q1];rfl) (λq2 g=>by rw [g.tv] at q2;cases q2) (λq2=>h2 q1 q2) k102
 have j4:∀ (p q:AV) (bd:Bool),qAV p (.bool true) q=some (.bool bd)→(bd=true→¬ BdG F x)→(bd=false→BdG F x)→qGO X0 (.ptr b3 0) vn tg (.int .i64 (i:Int)) (.ptr b29 0) (.int .i64 (i:Int)) p q (InvB F s20) (F.B.length - i) K R s31:=λp q bd h h1 h2=>by
  unfold qGO
  rw [h]
  simp only [qAA]
  refine qBA (λq1=>?_) λq1=>hbad (λg=>h1 q1 g.g) (.refl _) _ _ _ (by omega)
  rw [g11]
  simp only [qAA,g12]
  refine qAG (λq2=>?_) (λq2=>?_)
  ·exact j5 _ _ true (by rw [q2];rfl) (λ_ g=>g.vn (g13.1 q2)) (λq=>by cases q)
  ·rw [g21]
   simp only [qAA,g22]
   exact j5 _ _ w2 (by rw [q2];rfl) (λq3 g=>g.tg (g23.1 q3)) (λq3 q4 q5 q6=>⟨h2 q1,λz=>(by rw [g13.2 z] at q2;cases q2),λz=>(by rw [g23.2 z] at q3;cases q3),q4,q5,q6⟩)
 have j3:∀ (p q:AV) (bd:Bool),qAV p (.bool true) q=some (.bool bd)→(bd=true→¬ BdG F x)→(bd=false→x.2.2.1≠0→BdG F x)→qGI X0 (.ptr b3 0) vn tg (.int .i64 (i:Int)) (.ptr b29 0) (.int .i64 (i:Int)) p q (InvB F s20) (F.B.length - i) K R s31:=λp q bd h h1 h2=>by
  unfold qGI
  rw [h]
  simp only [qAA]
  refine qAG (λq1=>?_) (λq1=>?_)
  ·exact j4 _ _ bd (by rw [q1];rfl) h1 (λq2=>by rw [q1] at q2;cases q2)
  ·simp only [qAB,zA,qAA,qAJ h31,a2,qAa,qAW,Bool.false_bne]
   exact j4 _ _ (x.2.2.1 == 0) (by rw [q1];rfl) (λq2 g=>g.2.2 (by simpa using q2)) (λq2=>h2 q1 (by simpa using q2))
 have j2:∀ (p q:AV) (bd:Bool),qAV p (.bool true) q=some (.bool bd)→(bd=true→¬ BdG F x)→(bd=false→x.2.1≤16777215→x.2.2.1≠0→BdG F x)→qGB X0 (.ptr b3 0) vn tg (.int .i64 (i:Int)) (.ptr b29 0) (.int .i64 (i:Int)) p q (InvB F s20) (F.B.length - i) K R s31:=λp q bd h h1 h2=>by
  unfold qGB
  rw [h]
  simp only [qAA]
  refine qAG (λq1=>?_) (λq1=>?_)
  ·exact j3 _ _ bd (by rw [q1];rfl) h1 (λq2=>by rw [q1] at q2;cases q2)
  ·simp only [qAB,zA,qAA,qAJ h31,a1,qAg]
   exact j3 _ _ (decide (16777215 < x.2.1)) (by rw [q1];rfl) (λq2 g=>by have:=oT q2;have:=g.2.1.2;omega) (λq2=>h2 q1 (by have:=oF q2;omega))
 simp only [qAB,zA,qAA,qAJ h31,a0,qAJ h3,csG3,lenT]
 refine qGd X0_0 ?_
 simp only [qAb,qAA]
 refine qAG (λq1=>?_) (λq1=>?_)
 ·exact j2 _ _ true (by rw [q1];rfl) (λ_ g=>by rw [qMO.2 g.1] at q1;cases q1) (λq2=>by cases q2)
 ·have hin:inB x.1 (F.T.length:Int)=true:=by simpa using q1
  simp only [qAA,qAJ h31,a1,qAP]
  exact j2 _ _ (decide (x.2.1 < 1)) (by rw [q1];rfl) (λq2 g=>by have:=oT q2;have:=g.2.1.1;omega) (λq2 q3 q4=>⟨qMO.1 hin,⟨by have:=oF q2;omega,q3⟩,q4⟩)
end Go.AM.TN
set_option maxRecDepth 100000
namespace Go.AM.TN
open Go Go.Proofs
variable {K R : AV → Hq → Prop} {s s' s0 : Hq} {lv uv v y w k : AV} {b c mb rb : Nat} {cs : List AV} {Y : Td} {F : FG} {v2 v3 v4 v5 v6 v7 : AV} {t : Bool} {J : AV → Hq → Prop}
theorem zAFU {l:List Int} (h:∀ (j:Nat) (hj:j+1 < l.length),l[j] < l[j+1]):l.Pairwise (· < ·):=by
 refine List.pairwise_iff_getElem.2 λi j hi hj hij=>?_
 obtain ⟨d,rfl⟩:∃ d,j=i+1+d:=⟨j - i - 1,by omega⟩
 induction d with
 | zero=>exact h i hj
 | succ d ih=>
   have h1:=ih (by omega) (by omega)
   have h2:=h (i+1+d) (by omega)
   have e:i+1+d+1=i+1+(d+1):=by omega
   simp only [e] at h2
   omega
theorem qMc (hY:Fn0 Y) {l:List Int} (hn:l.length≤4294967296) (hv:Sl s v (ix l)) (hK:∀ b:Bool,(b=true↔l.Pairwise (· < ·))→K (.bool b) s):wC Tryz.prog Y 150 [v] K s:=by
 refine qNi hY.fr (hY.no _ rfl) ?_
 unfold qMf
 refine ⟨λys t m=>∃ i:Nat,ys=[.int .i64 (i:Int)]∧m=l.length - i∧t=s∧1≤i∧∀ (j:Nat) (hj:j+1 < l.length),j+1 < i→l[j] < l[j+1],⟨_,1,rfl,rfl,rfl,by omega,λj hj h=>by omega⟩,?_⟩
 rintro f t m ⟨i,hy,rfl,rfl,hi,hall⟩
 simp only [cI,and_true] at hy
 rw [hy]
 have hlen:qAQ v=some l.length:=by rw [hv.len,qCG]
 simp only [qJT,hlen,qAP,qAA]
 refine qAG (λhlt=>?_) (λhge=>?_)
 rotate_left
 ·have hge:l.length≤i:=by have:=oF hge;omega
  exact hK true ⟨λ_=>zAFU λj hj=>hall j hj (by omega),λ_=>rfl⟩
 have hlt:i < l.length:=by have:=oT hlt;omega
 obtain ⟨p1,g1,g2⟩:=hv.get (i:=i) (by rw [qCG];exact hlt)
 rw [qH7 hlt] at g2
 have hlt':i - 1 < l.length:=by omega
 obtain ⟨p2,g3,g4⟩:=hv.get (i:=i - 1) (by rw [qCG];exact hlt')
 rw [qH7 hlt'] at g4
 rw [g1]
 simp only [qAA,g2,qAf]
 rw [qAX (by omega) (by omega),show ((i:Int) - 1)=((i - 1:Nat):Int) by omega,g3]
 simp only [qAA,g4,qCs]
 have e:i - 1+1=i:=by omega
 refine qAG (λq=>?_) (λq=>?_)
 ·have q:=oT q
  refine hK false ⟨λq=>(by cases q),λg=>?_⟩
  have:=(List.pairwise_iff_getElem.1 g) (i - 1) i hlt' hlt (by omega)
  omega
 ·have q:=oF q
  simp only [qAT,qAA]
  rw [qAX (by omega) (by omega)]
  refine ⟨_,by omega,i+1,rfl,rfl,by trivial,by omega,λj hj h=>?_⟩
  by_cases e2:j+1 < i
  ·exact hall j hj e2
  ·have:j=i - 1:=by omega
   subst this
   simp only [e]
   omega
def prt (P:List Int):List AV:=(List.range 32).map λ(n:Nat)=>AV.int .i64 ((P.count (n:Int):Nat):Int)
theorem qQL {P:List Int}:(prt P).length=32:=by unfold prt;simp
theorem qOf {P:List Int} {n:Nat} (h:n < 32):(prt P)[n]?=some (.int .i64 ((P.count (n:Int):Nat):Int)):=by unfold prt;simp [h]
theorem zAEF {P:List Int} {n:Nat} (h:n < 32):(prt P).set n (.int .i64 ((P.count (n:Int):Nat)+1:Int))=prt (P ++ [(n:Int)]):=by
 apply List.ext_getElem?
 intro i
 by_cases e:n=i
 ·subst e
  rw [List.getElem?_set_self (by rw [qQL];exact h),qOf h,List.count_append]
  simp
 ·rw [List.getElem?_set_ne e]
  by_cases hi:i < 32
  ·rw [qOf hi,qOf hi,List.count_append]
   have:List.count (i:Int) [(n:Int)]=0:=by
    rw [List.count_eq_zero]
    simp only [List.mem_singleton]
    omega
   rw [this,Nat.add_zero]
  ·rw [List.getElem?_eq_none (by rw [qQL];omega),List.getElem?_eq_none (by rw [qQL];omega)]
theorem qZZ {n:Nat} (h:n < 32):qC2 32 1 (.ptr b 0) (.int .i64 (n:Int))=some (.ptr b n):=by
 have:Nat.blt n 32=true:=by rw [Nat.blt_eq];exact h
 simp [qC2,this]
def qMH (F:FG) (x:List Int × List Int):Prop:=(x.1≠[]∧x.2≠[])∧((∀ n∈x.1,0≤n∧n < F.lf)∧∀ n∈x.2,0≤n∧n < (F.B.length:Int))∧x.1.Pairwise (· < ·)∧x.2.Pairwise (· < ·)
structure SegOk (F:FG):Prop where
 n:F.S.length≤64
 row:∀ x∈F.S,qMH F x
 port:∀ n:Int,((F.S.map (·.1)).flatten).count n≤32
abbrev InvS (F:FG) (s14:Hq) (b13:Nat):List AV→Hq→Nat→Prop:=λys t m=>∃ i:Nat,ys=[.int .i64 (i:Int)]∧i≤F.S.length∧m=F.S.length - i∧qCR (λj=>j=b13) s14 t∧t b13=some (false,.cells 217 (prt ((F.S.take i).map (·.1)).flatten))∧(∀ x∈F.S.take i,qMH F x)∧∀ n:Int,(((F.S.take i).map (·.1)).flatten).count n≤32
abbrev InvP (F:FG) (s14:Hq) (b13:Nat) (P l:List Int):List AV→Hq→Nat→Prop:=λys t m=>∃ k:Nat,ys=[.int .i64 (k:Int)]∧k≤l.length∧m=l.length - k∧qCR (λj=>j=b13) s14 t∧t b13=some (false,.cells 217 (prt (P ++ l.take k)))∧∀ n:Int,(P ++ l.take k).count n≤32
theorem sin1 {x0:Int} {cb:Nat} (hc:s cb=some (t,.cells 68 (csG F v2 v3 v4 v5 v6 v7))) (hJ:∀ s',Sub s s'→J (.bool (!inB x0 F.lf)) s'):funK Tryz.prog X0 (.fn (.func 148) [] [.ptr cb 0]) [.int .i64 x0] J s:=by
 refine qPP (by kernel_rfl) (qM0 X0_0.fr (X0_0.no _ rfl) ?_)
 unfold qLT
 simp only [qAB,zA,qAA,qAJ hc,csG0]
 refine qGd X0_0 ?_
 simp only [qAb,qAA]
 exact hJ s (.refl _)
theorem sin2 {x0:Int} {cb:Nat} (hc:s cb=some (t,.cells 68 (csG F v2 v3 v4 v5 v6 v7))) (hB:qAQ v4=some F.B.length) (hJ:∀ s',Sub s s'→J (.bool (!inB x0 (F.B.length:Int))) s'):funK Tryz.prog X0 (.fn (.func 149) [] [.ptr cb 0]) [.int .i64 x0] J s:=by
 refine qPP (by kernel_rfl) (qM3 X0_0.fr (X0_0.no _ rfl) ?_)
 unfold qLD
 simp only [qAB,zA,qAA,qAJ hc,csG4,hB]
 refine qGd X0_0 ?_
 simp only [qAb,qAA]
 exact hJ s (.refl _)
theorem qRd {l:List Int} {n:Int}:l.any (λx=>!inB x n)=false↔∀ x∈l,0≤x∧x < n:=by
 rw [List.any_eq_false]
 refine ⟨λh x hx=>?_,λh x hx=>?_⟩
 ·have:=h x hx
  exact qMO.1 (by simpa using this)
 ·rw [qMO.2 (h x hx)];simp
end Go.AM.TN
set_option maxRecDepth 100000
namespace Go.AM.TN
open Go Go.Proofs
variable {K R : AV → Hq → Prop} {s s' s0 : Hq} {lv uv v y w k : AV} {b c mb rb : Nat} {cs : List AV} {Y : Td} {F : FG} {v2 v3 v4 v5 v6 v7 : AV} {t : Bool} {J : AV → Hq → Prop}
theorem qWC {α β:Type} {f:α→List β} {S:List α} {i:Nat} {x:α} (hx:S[i]?=some x):(S.map f).flatten=((S.take i).map f).flatten ++ (f x ++ ((S.drop (i+1)).map f).flatten):=by
 obtain ⟨hi,e⟩:=gS hx
 have h1:S=S.take i ++ x :: S.drop (i+1):=by
  rw [← e,List.getElem_cons_drop,List.take_append_drop]
 conv=>lhs;rw [h1]
 simp
theorem qSb {α β:Type} {f:α→List β} {S:List α} {i:Nat} {x:α} (hx:S[i]?=some x):((S.take (i+1)).map f).flatten=((S.take i).map f).flatten ++ f x:=by
 rw [List.take_add_one,hx]
 simp
theorem qUo (hF:FabOk F) (hB:F.B.length≤32) (hn:F.S.length≤4294967296) (hnn:∀ x∈F.S,x.1.length≤4294967296∧x.2.length≤4294967296) (hc:s c=some (t,.cells 153 (csG F v2 v3 v4 v5 v6 v7))) (hL:FL s F v2 v3 v4 v5 v6 v7) (hK:Kok s (SegOk F) K) (hR:Rbad s (SegOk F) R):qAh Tryz.prog X0 SS 112 [.ptr c 0] K R s:=by
 refine qPR (qMN rfl hc hL λb3 s5 h5 k5=>?_)
 have hL5:=hL.sub k5
 have hlen:qAQ v5=some F.S.length:=hL5.S.len
 have lenB:qAQ v4=some F.B.length:=by rw [hL.B.len,List.length_map]
 simp only [qAB,zA,qAA,qAJ h5,csG5,hlen,qAg]
 refine qBA (λq=>?_) λq=>hR (λg=>by have:=oT q;have:=g.n;omega) _ _ _ s5 (by omega) k5
 have hn64:F.S.length≤64:=by have:=oF q;omega
 refine qAL λb13 s14 hb13 h13 u13=>?_
 have h13:s14 b13=some (false,.cells 217 (prt [])):=h13
 have k14:=u13.sub hb13
 simp only [qAJ (k14 _ _ h5),csG5,qAA,hlen]
 have sub5:∀ {t:Hq},qCR (λj=>j=b13) s14 t→Sub s5 t:=fun {t} kp i e hi=>kp i e (k14 i e hi) (qCF hb13 hi)
 refine ⟨InvS F s14 b13,⟨_,0,rfl,by omega,rfl,.refl _ _,h13,by simp,by simp⟩,?_⟩
 rintro f t m ⟨i,hy,hi,rfl,kp,hprt,hall,hcnt⟩
 simp only [cI,and_true] at hy
 rw [hy]
 simp only [qKd,qAP,qAA]
 refine qAG (λhlt=>?_) (λhge=>?_)
 rotate_left
 ·have hge:i=F.S.length:=by have:=oF hge;omega
  subst hge
  rw [List.take_length] at hall hcnt
  exact hK ⟨hn64,hall,hcnt⟩ t (k5.trans (sub5 kp))
 have hlt:i < F.S.length:=by have:=oT hlt;omega
 have hx:F.S[i]?=some F.S[i]:=gE hlt
 have hxm:F.S[i]∈F.S:=List.getElem_mem hlt
 generalize F.S[i]=x at hx hxm
 have hxn:=hnn x hxm
 obtain ⟨pb,po,l1,l2,e1,e2,_,_,q1,q2⟩:=(hL5.S.sub (sub5 kp)).at hx
 rw [e1]
 simp only [qAA,e2]
 refine qAL λb22 s23 hb22 h23 u23=>qAU h23 rfl rfl (by simp [q1.one,q2.one]) λs24 h24 u24=>?_
 have k24:Sub t s24:=qAc (u23.sub hb22) u24 hb22
 have kp24:qCR (λj=>j=b13) s14 s24:=kp.trans k24.keep
 have kall:Sub s s24:=k5.trans (sub5 kp24)
 have a0:[l1,l2][0]?=some l1:=rfl
 have a1:[l1,l2][1]?=some l2:=rfl
 have n1:qAQ l1=some x.1.length:=by rw [q1.len,qCG]
 have n2:qAQ l2=some x.2.length:=by rw [q2.len,qCG]
 have h3:=sub5 kp24 _ _ h5
 have hp24:=k24 _ _ hprt
 have hbad:∀ {s2:Hq},¬ qMH F x→Sub s24 s2→∀ (e:Int) (p:ByteArray) (i:Int),e≠0→R (flV e p i) s2:=fun {s2} q k2 e p i he=>hR (λg=>q (g.row _ hxm)) e p i s2 he (kall.trans k2)
 have j3:∀ (p q:AV) (bd:Bool),qAV p (.bool true) q=some (.bool bd)→(bd=true→¬ qMH F x)→(bd=false→qMH F x)→∀ {s2:Hq},Sub s24 s2→qFM X0 (.ptr b13 0) (.int .i64 (i:Int)) (.ptr b22 0) (.int .i64 (i:Int)) p q (InvS F s14 b13) (F.S.length - i) K R s2:=λp q bd h h1 h2 {s2} k2=>by
  unfold qFM
  rw [h]
  simp only [qAA]
  refine qBA (λe=>?_) λe=>hbad (h1 e) k2 _ _ _ (by omega)
  have row:=h2 e
  simp only [qAB,zA,qAA,qAJ (k2 _ _ h24),a0,n1]
  refine ⟨InvP F s14 b13 ((F.S.take i).map (·.1)).flatten x.1,⟨_,0,rfl,by omega,rfl,kp24.trans k2.keep,by rw [List.take_zero,List.append_nil];exact k2 _ _ hp24,by rw [List.take_zero,List.append_nil];exact hcnt⟩,?_⟩
  rintro f t2 m ⟨kk,hy,hk,rfl,kp2,hp2,hc2⟩
  simp only [cI,and_true] at hy
  rw [hy]
  simp only [qKb,qAP,qAA]
  refine qAG (λhl=>?_) (λhg=>?_)
  rotate_left
  ·have hg:kk=x.1.length:=by have:=oF hg;omega
   subst hg
   rw [List.take_length] at hp2 hc2
   simp only [qAT,qAA]
   rw [qAX (by omega) (by omega)]
   refine ⟨_,by omega,i+1,rfl,by omega,rfl,kp2,by rw [qSb hx];exact hp2,λz hz=>?_,by rw [qSb hx];exact hc2⟩
   rw [List.take_add_one,hx] at hz
   rcases List.mem_append.1 hz with hz | hz
   ·exact hall z hz
   ·simp only [Option.toList_some,List.mem_singleton] at hz
    rw [hz];exact row
  have hl:kk < x.1.length:=by have:=oT hl;omega
  have hq1:Sl t2 l1 (ix x.1):=by
   obtain ⟨pb',po',l1',l2',e1',e2',_,_,q1',_⟩:=(hL5.S.sub (sub5 kp2)).at hx
   obtain ⟨vs,w1,w2,w3⟩:=hL5.S
   have hi':i < vs.length:=by rw [w2];exact hlt
   have hq:vs[i]?=some vs[i]:=gE hi'
   obtain ⟨pb1,po1,x1,x2,_⟩:=(w1.sub (sub5 kp)).get (i:=i) (r:=[vs[i].1,vs[i].2]) (by rw [List.getElem?_map,hq];rfl)
   rw [e1] at x1
   cases Option.some.inj x1
   rw [e2] at x2
   simp only [Option.some.injEq,cI,and_true] at x2
   have:=(w3 i _ x hq hx).1
   rw [← x2.1] at this
   exact this.sub (sub5 kp2)
  obtain ⟨pp,g1,g2⟩:=hq1.get (i:=kk) (by rw [qCG];exact hl)
  rw [qH7 hl] at g2
  obtain ⟨r1,r2⟩:=row.2.1.1 _ (List.getElem_mem hl)
  have hlf:=hF.lf
  obtain ⟨n,hn'⟩:∃ n:Nat,x.1[kk]=(n:Int):=⟨x.1[kk].toNat,by omega⟩
  have hn32:n < 32:=by omega
  rw [hn'] at g2
  rw [g1]
  simp only [qAA,g2,qZZ hn32,qAJ hp2,qOf hn32,qAT]
  have hcn:=hc2 (n:Int)
  rw [qAX (by omega) (by omega)]
  refine qEB hp2 (by rw [qQL];exact hn32) rfl λs59 h59 u59=>?_
  rw [zAEF hn32] at h59
  have et:(((F.S.take i).map (·.1)).flatten ++ x.1.take kk) ++ [(n:Int)]=((F.S.take i).map (·.1)).flatten ++ x.1.take (kk+1):=by
   rw [List.append_assoc,List.take_add_one,gE hl,hn']
   rfl
  rw [et] at h59
  simp only [qAJ h59,qOf hn32,qAA,qAg]
  have kp59:qCR (λj=>j=b13) s14 s59:=kp2.trans (u59.keep rfl)
  refine qBA (λe2=>?_) λe2=>hR (λg=>?_) _ _ _ s59 (by omega) (k5.trans (sub5 kp59))
  ·have e2:=oF e2
   rw [qAX (by omega) (by omega)]
   refine ⟨_,by omega,kk+1,rfl,by omega,rfl,kp59,h59,λn'=>?_⟩
   by_cases en:n'=(n:Int)
   ·rw [en]
    omega
   ·rw [← et,List.count_append]
    have:List.count n' [(n:Int)]=0:=by
     rw [List.count_eq_zero]
     simp only [List.mem_singleton]
     exact en
    rw [this,Nat.add_zero]
    exact hc2 n'
  ·have e2:=oT e2
   have:=g.port (n:Int)
   rw [qWC (f:=λ(z:List Int × List Int)=>z.1) hx] at this
   have e3:x.1=x.1.take (kk+1) ++ x.1.drop (kk+1):=(List.take_append_drop _ _).symm
   have e4:List.count (n:Int) x.1=List.count (n:Int) (x.1.take (kk+1))+List.count (n:Int) (x.1.drop (kk+1)):=by
    conv=>lhs;rw [e3]
    rw [List.count_append]
   rw [List.count_append] at e2
   simp only [List.count_append] at this
   omega
 have j2:∀ (p q:AV) (bd:Bool),qAV p (.bool true) q=some (.bool bd)→(bd=true→¬ qMH F x)→(bd=false→x.1.Pairwise (· < ·)→x.2.Pairwise (· < ·)→qMH F x)→∀ {s2:Hq},Sub s24 s2→qFP X0 (.ptr b13 0) (.int .i64 (i:Int)) (.ptr b22 0) (.int .i64 (i:Int)) p q (InvS F s14 b13) (F.S.length - i) K R s2:=λp q bd h h1 h2 {s2} k2=>by
  unfold qFP
  rw [h]
  simp only [qAA]
  refine qBA (λe=>?_) λe=>hbad (h1 e) k2 _ _ _ (by omega)
  simp only [qAB,zA,qAA,qAJ (k2 _ _ h24),a0]
  refine qMc X0_0 hxn.1 (q1.sub (k24.trans k2)) λb1 hb1=>?_
  simp only [qAb,qAA]
  refine qAG (λe1=>?_) (λe1=>?_)
  ·exact j3 _ _ true (by rw [e1];rfl) (λ_ g=>by rw [hb1.2 g.2.2.1] at e1;cases e1) (λq=>by cases q) k2
  ·simp only [qAJ (k2 _ _ h24),a1,qAA]
   refine qMc X0_0 hxn.2 (q2.sub (k24.trans k2)) λb2 hb2=>?_
   simp only [qAb,qAA]
   exact j3 _ _ (!b2) (by rw [e1];rfl) (λe2 g=>by rw [hb2.2 g.2.2.2] at e2;cases e2) (λe2=>h2 e (hb1.1 (by simpa using e1)) (hb2.1 (by simpa using e2))) k2
 have j1:∀ (p q:AV) (bd:Bool),qAV p (.bool true) q=some (.bool bd)→(bd=true→¬ qMH F x)→(bd=false→x.1≠[]∧x.2≠[])→qFS X0 (.ptr b3 0) (.ptr b13 0) (.int .i64 (i:Int)) (.ptr b22 0) (.int .i64 (i:Int)) p q (InvS F s14 b13) (F.S.length - i) K R s24:=λp q bd h h1 h2=>by
  unfold qFS
  rw [h]
  simp only [qAA]
  refine qBA (λe=>?_) λe=>hbad (h1 e) (.refl _) _ _ _ (by omega)
  simp only [qAB,zA,qAA,qAJ h24,a0]
  refine qMj X0_0 (p:=λn=>!inB n F.lf) hxn.1 (q1.sub k24) (λz sA J kA hJ=>sin1 (kA _ _ h3) hJ) λs36 k36=>?_
  refine qAG (λe1=>?_) (λe1=>?_)
  ·exact j2 _ _ true (by rw [e1];rfl) (λ_ g=>by have:=qRd.2 g.2.1.1;rw [this] at e1;cases e1) (λq=>by cases q) k36
  ·simp only [qAJ (k36 _ _ h24),a1,qAA]
   refine qMj X0_0 (p:=λn=>!inB n (F.B.length:Int)) hxn.2 (q2.sub (k24.trans k36)) (λz sA J kA hJ=>sin2 (kA _ _ (k36 _ _ h3)) lenB hJ) λs75 k75=>?_
   exact j2 _ _ (x.2.any λn=>!inB n (F.B.length:Int)) (by rw [e1];rfl) (λe2 g=>by have:=qRd.2 g.2.1.2;rw [this] at e2;cases e2) (λe2 p1 p2=>⟨h2 e,⟨qRd.1 e1,qRd.1 e2⟩,p1,p2⟩) (k36.trans k75)
 simp only [qAB,zA,qAA,qAJ h24,a0,n1,qAa,qAW,Bool.false_bne]
 have em:∀ {l:List Int},(((l.length:Nat):Int) == 0)=true↔l=[]:=fun {l}=>by
  rw [beq_iff_eq]
  constructor
  ·intro h
   exact List.length_eq_zero_iff.1 (by omega)
  ·rintro rfl;rfl
 refine qAG (λe=>?_) (λe=>?_)
 ·exact j1 _ _ true (by rw [e];rfl) (λ_ g=>g.1.1 (em.1 e)) (λq=>by cases q)
 ·simp only [a1,qAA,n2]
  exact j1 _ _ (((x.2.length:Nat):Int) == 0) (by rw [e];rfl) (λq g=>g.1.2 (em.1 q)) (λq=>⟨λz=>(by rw [em.2 z] at e;cases e),λz=>(by rw [em.2 z] at q;cases q)⟩)
end Go.AM.TN
set_option maxRecDepth 100000
namespace Go.AM.TN
open Go Go.Proofs
variable {K R : AV → Hq → Prop} {s s' s0 : Hq} {lv uv v y w k : AV} {b c mb rb : Nat} {cs : List AV} {Y : Td} {F : FG} {v2 v3 v4 v5 v6 v7 : AV} {t : Bool} {J : AV → Hq → Prop}
theorem qZw (hY:Fn0 Y) {l:List Int} {n:Int} (hn:l.length≤4294967296) (hv:Sl s v (ix l)) (hK:K (.int .i64 (fstI (λx=>n == x) l)) s):wC Tryz.prog Y 179 [v,.int .i64 n] K s:=by
 refine qJI hY.fr (hY.no _ rfl) ?_
 unfold qGi
 have hlen:qAQ v=some l.length:=by rw [hv.len,qCG]
 rw [hlen]
 simp only [qAA]
 refine ⟨λys t m=>∃ i:Nat,ys=[.int .i64 (i:Int)]∧i≤l.length∧m=l.length - i∧t=s∧∀ j z,j < i→l[j]?=some z→(n == z)=false,⟨_,0,rfl,by omega,rfl,rfl,λj z hj=>by omega⟩,?_⟩
 rintro f t m ⟨i,hy,hi,rfl,rfl,hall⟩
 simp only [cI,and_true] at hy
 rw [hy]
 simp only [qE2,qAP,qAA]
 refine qAG (λhlt=>?_) (λhge=>?_)
 rotate_left
 ·have hge:i=l.length:=by have:=oF hge;omega
  subst hge
  rw [qLy λj z hz=>hall j z (gS hz).1 hz] at hK
  exact hK
 have hlt:i < l.length:=by have:=oT hlt;omega
 obtain ⟨pp,g1,g2⟩:=hv.get (i:=i) (by rw [qCG];exact hlt)
 rw [qH7 hlt] at g2
 have hx:l[i]?=some l[i]:=gE hlt
 generalize l[i]=x at hx g2
 rw [g1]
 simp only [qAA,g2,qAa,qAW,Bool.false_bne]
 refine qAG (λq=>?_) (λq=>?_)
 ·rw [qNY hx q hall] at hK
  exact hK
 ·simp only [qAT,qAA]
  rw [qAX (by omega) (by omega)]
  refine ⟨_,by omega,i+1,rfl,by omega,rfl,by trivial,λj z hj hz=>?_⟩
  by_cases e:j < i
  ·exact hall j z e hz
  ·have:j=i:=by omega
   subst this
   rw [hx] at hz
   cases hz
   exact q
theorem qUd (hY:Fn0 Y) {l:List Int} {n:Int} (hn:l.length≤4294967296) (hv:Sl s v (ix l)) (hK:K (.bool (decide (n∈l))) s):wC Tryz.prog Y 155 [v,.int .i64 n] K s:=by
 refine qHi hY.fr (hY.no _ rfl) ?_
 unfold qE5
 refine qZw hY hn hv ?_
 simp only [qBn,qAA,qQd]
 have:l.any (λx=>n == x)=decide (n∈l):=by
  by_cases h:n∈l
  ·rw [decide_eq_true h]
   exact List.any_eq_true.2 ⟨n,h,by simp⟩
  ·rw [decide_eq_false h,List.any_eq_false]
   intro x hx
   simp only [beq_iff_eq]
   rintro rfl
   exact h hx
 rw [this]
 exact hK
def andL (x y:Int):Int:=qAx .u64 ((BitVec.ofInt 64 x &&& BitVec.ofInt 64 y).toNat:Nat)
theorem qPw {x y:Int}:qAC .and (.int .u64 x) (.int .u64 y)=some (.int .u64 (andL x y)):=by simp only [qAC,arith,qBX,qDM,cond_true];rfl
theorem zAEQ {x:Int}:qBb .shr (.int .u64 x) (.int .u64 40)=some (.int .u64 (x.fdiv 1099511627776)):=by
 show frc (x.fdiv ((2 ^ (min 40 (IntKind.bits .u64)):Nat):Int)) (λn=>some (AV.int .u64 n))=_
 rw [qBX]
 rfl
def qRp (m:Int):Bool:=decide (m≤281474976710655)&&(andL (m.fdiv 1099511627776) 1 != 0)
theorem qRv (hY:Fn0 Y) {m:Int} (hK:K (.bool (qRp m)) s):wC Tryz.prog Y 154 [.int .u64 m] K s:=by
 refine qKZ hY.fr (hY.no _ rfl) ?_
 unfold qH3
 unfold qRp at hK
 simp only [qCs,qAA]
 refine qAG (λe=>?_) (λe=>?_)
 ·rw [zAEQ]
  simp only [qAA,qPw,qAa,qAW,Bool.true_bne]
  rw [e] at hK ⊢
  exact hK
 ·rw [e] at hK ⊢
  exact hK
def qFF (m:Int):Bool:=!(decide (m < 2199023255552)||decide (2199023255584≤m))
theorem qXA (hY:Fn0 Y) {m:Int} (hK:∀ r,K (.tup [.int .i64 r,.bool (qFF m)]) s):wC Tryz.prog Y 156 [.int .u64 m] K s:=by
 refine qJp hY.fr (hY.no _ rfl) ?_
 unfold qHH
 unfold qFF at hK
 simp only [qAP,qAA]
 have j0:∀ (p q:AV) (bd:Bool),qAV p (.bool true) q=some (.bool bd)→(decide (m < 2199023255552)||decide (2199023255584≤m))=bd→qCb Y (.int .u64 m) p q K s:=λp q bd h he=>by
  unfold qCb
  rw [h]
  rw [he] at hK
  simp only [qAA]
  refine qAG (λe=>?_) (λe=>?_)
  ·rw [e] at hK;exact hK 0
  ·rw [e] at hK
   simp only [qAf,qAA]
   exact hK _
 refine qAG (λe=>?_) (λe=>?_)
 ·exact j0 _ _ true (by rw [e];rfl) (by rw [e];rfl)
 ·simp only [qBn,qAA]
  exact j0 _ _ (decide (2199023255584≤m)) (by rw [e];rfl) (by rw [e];rfl)
def qKr (d:BG) (ip:Int):Bool:=(ip == 0)||((d.2.2.2.2.2 != 0)&&(ip != d.2.2.2.2.2)&&qKe d.2.2.2.1 d.2.2.2.2.1 ip)
theorem qSF (hY:Fn0 Y) {d:BG} {ip:Int} (hd:d.2.2.2.2.2≠0→-1000≤d.2.2.2.2.1∧d.2.2.2.2.1≤32) (hK:∀ s',Sub s s'→K (.bool (qKr d ip)) s'):wC Tryz.prog Y 157 [.agg (bgC d),.int .u32 ip] K s:=by
 refine qOX hY.fr (hY.no _ rfl) ⟨rfl,qAL λb s1 hb h1 u1=>?_⟩
 have h1:s1 b=some (false,.cells 114 (bgC d)):=h1
 have k1:=u1.sub hb
 have d5:(bgC d)[5]?=some (.int .u32 d.2.2.2.2.2):=rfl
 have rd:rdN s1 2 (.ptr b 3)=some (pfC d.2.2.2.1 d.2.2.2.2.1):=by simp only [rdN,h1];rfl
 have hk:=λs' (q:Sub s1 s')=>hK s' (k1.trans q)
 unfold qKr at hk
 simp only [qAa,qAW,Bool.false_bne,qAA]
 refine qAG (λe=>?_) (λe=>?_)
 ·have:=hk s1 (.refl _)
  rw [e] at this
  exact this
 ·rw [e] at hk
  simp only [qAB,zA,qAA,qAJ h1,d5,qAa,qAW,Bool.true_bne]
  have j0:∀ (p q:AV) (ok:Bool),qAV p q (.bool false)=some (.bool ok)→((d.2.2.2.2.2 != 0)&&(ip != d.2.2.2.2.2))=ok→(ok=true→d.2.2.2.2.2≠0)→qEm Y (.int .u32 ip) (.ptr b 0) p q K s1:=λp q ok h he h0=>by
   unfold qEm
   rw [h]
   rw [he] at hk
   simp only [qAA]
   refine qAG (λe2=>?_) (λe2=>?_)
   ·simp only [qAB,zA,qAA,rd]
    refine qVG hY (hd (h0 e2)) λs11 k11=>?_
    have:=hk s11 k11
    rw [e2] at this
    rw [e2]
    exact this
   ·have:=hk s1 (.refl _)
    rw [e2] at this
    rw [e2]
    exact this
  have en:(!(d.2.2.2.2.2 == 0))=(d.2.2.2.2.2 != 0):=rfl
  rw [en]
  refine qAG (λe2=>?_) (λe2=>?_)
  ·exact j0 _ _ (!(ip == d.2.2.2.2.2)) (by rw [e2];rfl) (by rw [e2];rfl) (λ_=>by simpa using e2)
  ·exact j0 _ _ false (by rw [e2];rfl) (by rw [e2];rfl) (λq=>by cases q)
theorem qV1 {α β γ:Type} {f:α→β} {g:α→γ} {l:List α} {x:α} (h:∀ y∈l,f x=f y↔g x=g y):f x∈l.map f↔g x∈l.map g:=by
 simp only [List.mem_map]
 exact ⟨λ⟨a,h1,h2⟩=>⟨a,h1,((h a h1).1 h2.symm).symm⟩,λ⟨a,h1,h2⟩=>⟨a,h1,((h a h1).2 h2.symm).symm⟩⟩
theorem w64u {n:Int} (h:0≤n∧n < 4294967296):qAx .u64 n=n:=by
 simp only [qAx];rw [qEC _ _ _ (by omega) (by omega)];split <;> omega
end Go.AM.TN
set_option maxRecDepth 100000
namespace Go.AM.TN
open Go Go.Proofs
variable {K R : AV → Hq → Prop} {s s' s0 : Hq} {lv uv v y w k : AV} {b c mb rb : Nat} {cs : List AV} {Y : Td} {F : FG} {v2 v3 v4 v5 v6 v7 : AV} {t : Bool} {J : AV → Hq → Prop}
theorem qUR {p:AV} (h:rd1 s p=some v) (k:Sub s s'):rd1 s' p=some v:=by
 cases p <;> try (simp [rd1] at h;done)
 rename_i b o
 obtain ⟨t,e,l,h1,h2⟩:=qZV h
 rw [qAJ (k _ _ h1)]
 exact h2
structure HoRow (F:FG) (i:Nat) (x:R4):Prop where
 m:x.1≠0∧x.1≤281474976710655∧qRp x.1=false
 r:(0≤x.2.2.1∧x.2.2.1 < (F.B.length:Int))∧(-1≤x.2.2.2∧x.2.2.2≤(F.S.length:Int) - 1)
 s:x.2.2.2≠-1→∀ y,F.S[x.2.2.2.toNat]?=some y→x.2.2.1∈y.2
 a:(x.1≠1577058561∧qFF x.1=false)∧∀ d,F.B[x.2.2.1.toNat]?=some d→qKr d x.2.1=true
 dm:(x.2.2.1,x.1) ∉ (F.H.take i).map λy=>(y.2.2.1,y.1)
 di:x.2.1≠0→(x.2.2.1,x.2.1) ∉ (F.H.take i).map λy=>(y.2.2.1,y.2.1)
structure HosOk (F:FG):Prop where
 n:F.H.length≤128
 row:∀ (i:Nat) x,F.H[i]?=some x→HoRow F i x
abbrev InvH (F:FG) (s20:Hq):List AV→Hq→Nat→Prop:=λys t m=>∃ i:Nat,ys=[.int .i64 (i:Int)]∧i≤F.H.length∧m=F.H.length - i∧Sub s20 t∧∀ (j:Nat) x,j < i→F.H[j]?=some x→HoRow F j x
theorem zAAv (hD:DomOk F) (hS:F.S.length≤64) (hn:F.H.length≤4294967296) (hnn:∀ x∈F.S,x.1.length≤4294967296∧x.2.length≤4294967296) (hip:∀ x∈F.H,0≤x.2.1∧x.2.1 < 4294967296) (hc:s c=some (t,.cells 153 (csG F v2 v3 v4 v5 v6 v7))) (hL:FL s F v2 v3 v4 v5 v6 v7) (hK:Kok s (HosOk F) K) (hR:Rbad s (HosOk F) R):qAh Tryz.prog X0 SS 113 [.ptr c 0] K R s:=by
 refine qUX (qMN rfl hc hL λb3 s5 h5 k5=>?_)
 have hL5:=hL.sub k5
 have hlen:qAQ v6=some F.H.length:=by rw [hL5.H.len,List.length_map]
 have lenB:qAQ v4=some F.B.length:=by rw [hL5.B.len,List.length_map]
 have lenS:qAQ v5=some F.S.length:=hL5.S.len
 simp only [qAB,zA,qAA,qAJ h5,csG6,hlen,qAg]
 refine qBA (λq=>?_) λq=>hR (λg=>by have:=oT q;have:=g.n;omega) _ _ _ s5 (by omega) k5
 have hn128:F.H.length≤128:=by have:=oF q;omega
 simp only [qAJ h5,csG6,qAA]
 refine zAB3 X0_0 (rows:=F.H) (rowC:=hgC) (λ_=>rfl) (λ_=>rfl) (kf:=λx=>[.int .i64 x.2.2.1,.int .u64 x.1]) zAFS (λx=>⟨_,_,rfl⟩) (λ_=>rfl) (λ_=>rfl) (λx s J=>zAEz X0_0 x s J) hL5.H (by omega) λs16 ma k16 repm=>?_
 have h16:=k16 _ _ h5
 simp only [qAJ h16,csG6,qAA]
 refine zAB3 X0_0 (rows:=F.H) (rowC:=hgC) (λ_=>rfl) (λ_=>rfl) (kf:=λx=>[.int .i64 x.2.2.1,.int .u64 (qAx .u64 x.2.1)]) zAFS (λx=>⟨_,_,rfl⟩) (λ_=>rfl) (λ_=>rfl) (λx s J=>zAFu X0_0 x s J) (hL5.H.sub k16) (by omega) λs20 ia k20 repi=>?_
 have h20:=k20 _ _ h16
 have k520:Sub s5 s20:=k16.trans k20
 simp only [qAJ h20,csG6,qAA,hlen]
 have him:∀ x y:R4,(AV.agg [.int .i64 x.2.2.1,.int .u64 x.1]=AV.agg [.int .i64 y.2.2.1,.int .u64 y.1])↔(x.2.2.1,x.1)=(y.2.2.1,y.1):=λx y=>by simp
 refine ⟨InvH F s20,⟨_,0,rfl,by omega,rfl,.refl _,λj x hj=>by omega⟩,?_⟩
 rintro f t m ⟨i,hy,hi,rfl,kt,hall⟩
 simp only [cI,and_true] at hy
 rw [hy]
 simp only [qNm,qAP,qAA]
 refine qAG (λhlt=>?_) (λhge=>?_)
 rotate_left
 ·have hge:i=F.H.length:=by have:=oF hge;omega
  subst hge
  exact hK ⟨hn128,λj x hx=>hall j x (gS hx).1 hx⟩ t (k5.trans (k520.trans kt))
 have hlt:i < F.H.length:=by have:=oT hlt;omega
 have hx:F.H[i]?=some F.H[i]:=gE hlt
 have hxm:F.H[i]∈F.H:=List.getElem_mem hlt
 generalize F.H[i]=x at hx hxm
 have hxi:=hip x hxm
 obtain ⟨pb,po,e1,e2,_⟩:=(hL5.H.sub (k520.trans kt)).get (i:=i) (r:=hgC x) (by rw [List.getElem?_map,hx];rfl)
 rw [e1]
 simp only [qAA,e2]
 refine qAL λb28 s29 hb28 h29 u29=>qAU h29 rfl rfl rfl λs30 h30 u30=>?_
 have k30:Sub t s30:=qAc (u29.sub hb28) u30 hb28
 have kall:Sub s s30:=k5.trans (k520.trans (kt.trans k30))
 have h3:s30 b3=some (false,.cells 68 (csG F v2 v3 v4 v5 v6 v7)):=k30 _ _ (kt _ _ h20)
 have hL3:FL s30 F v2 v3 v4 v5 v6 v7:=hL.sub kall
 have a0:(hgC x)[0]?=some (.int .u64 x.1):=rfl
 have a1:(hgC x)[1]?=some (.int .u32 x.2.1):=rfl
 have a2:(hgC x)[2]?=some (.int .i64 x.2.2.1):=rfl
 have a3:(hgC x)[3]?=some (.int .i64 x.2.2.2):=rfl
 obtain ⟨p1,w1,g11,g12,g13⟩:=(repm.sub (k20.trans (kt.trans k30))).at (j:=i) (k:=.agg [.int .i64 x.2.2.1,.int .u64 x.1]) (by rw [List.getElem?_map,hx];rfl)
 obtain ⟨p2,w2,g21,g22,g23⟩:=(repi.sub (kt.trans k30)).at (j:=i) (k:=.agg [.int .i64 x.2.2.1,.int .u64 (qAx .u64 x.2.1)]) (by rw [List.getElem?_map,hx];rfl)
 rw [← List.map_take,qEL him] at g13
 rw [← List.map_take,qV1 (f:=λx:R4=>AV.agg [.int .i64 x.2.2.1,.int .u64 (qAx .u64 x.2.1)]) (g:=λy:R4=>(y.2.2.1,y.2.1)) (λy hy=>by
  have:=hip y (List.mem_of_mem_take hy)
  simp only [AV.agg.injEq,cI,AV.int.injEq,true_and,and_true,w64u hxi,w64u this,Prod.mk.injEq])] at g23
 have next:HoRow F i x→∀ {s2:Hq},Sub s30 s2→∃ m',m' < F.H.length - i∧InvH F s20 [.int .i64 ((i:Int)+1)] s2 m':=λok {s2} k2=>by
  refine ⟨_,by omega,i+1,rfl,by omega,rfl,kt.trans (k30.trans k2),λj z hj hz=>?_⟩
  by_cases e:j < i
  ·exact hall j z e hz
  ·have:j=i:=by omega
   subst this
   rw [hx] at hz
   cases hz
   exact ok
 have hbad:∀ {s2:Hq},¬ HoRow F i x→Sub s30 s2→∀ (e:Int) (p:ByteArray) (i:Int),e≠0→R (flV e p i) s2:=fun {s2} q k2 e p i he=>hR (λg=>q (g.row _ x hx)) e p i s2 he (kall.trans k2)
 have j7:∀ (p r:AV) (bd:Bool),(oK (qAV p r (.bool false)) λv=>oK (qAV (.bool w1) (.bool true) v) λv=>v=.bool bd)→(bd=true→¬ HoRow F i x)→(bd=false→HoRow F i x)→∀ {s2:Hq},Sub s30 s2→qIj X0 (.int .i64 (i:Int)) (.int .i64 (i:Int)) (.bool w1) p r (InvH F s20) (F.H.length - i) K R s2:=λp r bd h h1 h2 {s2} k2=>by
  unfold qIj
  obtain ⟨z1,z2,h⟩:=qAm h
  obtain ⟨z3,z4,h⟩:=qAm h
  rw [z2]
  simp only [qAA,z4,h]
  refine qBA (λq=>?_) λq=>hbad (h1 q) k2 _ _ _ (by omega)
  simp only [qAT,qAA]
  rw [qAX (by omega) (by omega)]
  exact next (h2 q) k2
 have j6:∀ (p q:AV) (bd:Bool),qAV p (.bool true) q=some (.bool bd)→(bd=true→¬ HoRow F i x)→(bd=false→(x.2.2.1,x.1) ∉ ((F.H.take i).map λy=>(y.2.2.1,y.1))→(x.2.1≠0→(x.2.2.1,x.2.1) ∉ (F.H.take i).map λy=>(y.2.2.1,y.2.1))→HoRow F i x)→∀ {s2:Hq},Sub s30 s2→qI0 X0 ma ia (.int .i64 (i:Int)) (.ptr b28 0) (.int .i64 (i:Int)) p q (InvH F s20) (F.H.length - i) K R s2:=λp q bd h h1 h2 {s2} k2=>by
  unfold qI0
  rw [h]
  simp only [qAA]
  refine qBA (λq1=>?_) λq1=>hbad (h1 q1) k2 _ _ _ (by omega)
  have g12':=qUR g12 k2
  have g22':=qUR g22 k2
  rw [g11]
  simp only [qAA,g12']
  refine qAG (λq2=>?_) (λq2=>?_)
  ·subst q2
   refine qAH (a:=.bool true) rfl ?_
   refine qBA (λq=>by cases q) λq=>hbad (λg=>g.dm (g13.1 rfl)) k2 _ _ _ (by omega)
  ·subst q2
   have hdm:(x.2.2.1,x.1) ∉ ((F.H.take i).map λy=>(y.2.2.1,y.1)):=λz=>by cases g13.2 z
   simp only [qAB,zA,qAA,qAJ (k2 _ _ h30),a1,qAa,qAW,Bool.true_bne]
   refine qAG (λq3=>?_) (λq3=>?_)
   ·rw [g21]
    simp only [qAA,g22',q3]
    have hne:x.2.1≠0:=by simpa using q3
    exact j7 _ _ w2 (by cases w2 <;> exact qAH (a:=.bool _) rfl (qAH (a:=.bool _) rfl rfl)) (λq4 g=>g.di hne (g23.1 q4)) (λq4=>h2 q1 hdm λ_ z=>by rw [g23.2 z] at q4;cases q4) k2
   ·rw [q3]
    have he:x.2.1=0:=by simpa using q3
    exact j7 _ _ false (qAH (a:=.bool false) rfl (qAH (a:=.bool false) rfl rfl)) (λq4=>by cases q4) (λq4=>h2 q1 hdm λz=>absurd he z) k2
 have j5:∀ (p q:AV) (bd:Bool),qAV p (.bool true) q=some (.bool bd)→(bd=true→¬ HoRow F i x)→(bd=false→(∀ d,F.B[x.2.2.1.toNat]?=some d→qKr d x.2.1=true)→(x.2.2.1,x.1) ∉ ((F.H.take i).map λy=>(y.2.2.1,y.1))→(x.2.1≠0→(x.2.2.1,x.2.1) ∉ (F.H.take i).map λy=>(y.2.2.1,y.2.1))→HoRow F i x)→(0≤x.2.2.1∧x.2.2.1 < (F.B.length:Int))→∀ {s2:Hq},Sub s30 s2→qIh X0 (.ptr b3 0) ma ia (.int .i64 (i:Int)) (.ptr b28 0) (.int .i64 (i:Int)) p q (InvH F s20) (F.H.length - i) K R s2:=λp q bd h h1 h2 hr {s2} k2=>by
  unfold qIh
  rw [h]
  simp only [qAA]
  refine qAG (λq1=>?_) (λq1=>?_)
  ·exact j6 _ _ true (by rw [q1];rfl) (λ_=>h1 q1) (λq2=>by cases q2) k2
  ·have hb:x.2.2.1.toNat < F.B.length:=by omega
   have hd:F.B[x.2.2.1.toNat]?=some F.B[x.2.2.1.toNat]:=gE hb
   generalize F.B[x.2.2.1.toNat]=d at hd
   obtain ⟨pb,po,f1,f2,_⟩:=(hL3.B.sub k2).get (i:=x.2.2.1.toNat) (r:=bgC d) (by rw [List.getElem?_map,hd];rfl)
   rw [show ((x.2.2.1.toNat:Nat):Int)=x.2.2.1 by omega] at f1
   simp only [qAB,zA,qAA,qAJ (k2 _ _ h3),csG4,qAJ (k2 _ _ h30),a2,f1,f2,a1]
   refine qSF X0_0 (λq3=>?_) λs94 k94=>?_
   ·have:=((hD.row _ d hd).s.2 q3).2.1
    omega
   ·simp only [qAb,qAA]
    exact j6 _ _ (!qKr d x.2.1) (by rw [q1];rfl) (λq2 g=>by rw [g.a.2 d hd] at q2;cases q2) (λq2=>h2 q1 λd' hd'=>by rw [hd] at hd';cases hd';simpa using q2) (k2.trans k94)
 have j4:∀ (p q:AV) (ok:Bool),qAV p q (.bool false)=some (.bool ok)→(ok=true→¬ HoRow F i x)→(ok=false→(x.1≠1577058561∧qFF x.1=false)→(∀ d,F.B[x.2.2.1.toNat]?=some d→qKr d x.2.1=true)→(x.2.2.1,x.1) ∉ ((F.H.take i).map λy=>(y.2.2.1,y.1))→(x.2.1≠0→(x.2.2.1,x.2.1) ∉ (F.H.take i).map λy=>(y.2.2.1,y.2.1))→HoRow F i x)→(0≤x.2.2.1∧x.2.2.1 < (F.B.length:Int))→∀ {s2:Hq},Sub s30 s2→qIn X0 (.ptr b3 0) ma ia (.int .i64 (i:Int)) (.ptr b28 0) (.int .i64 (i:Int)) p q (InvH F s20) (F.H.length - i) K R s2:=λp q ok h h1 h2 hr {s2} k2=>by
  unfold qIn
  rw [h]
  simp only [qAA]
  refine qBA (λq1=>?_) λq1=>hbad (h1 q1) k2 _ _ _ (by omega)
  simp only [qAB,zA,qAA,qAJ (k2 _ _ h30),a0]
  refine qXA X0_0 λr=>?_
  refine qAH (a:=.int .i64 r) rfl (qAH (a:=.bool (qFF x.1)) rfl ?_)
  simp only [qAA,qAJ (k2 _ _ h30),a0,qAa,qAW,Bool.false_bne]
  refine qAG (λq2=>?_) (λq2=>?_)
  ·rw [q2]
   exact j5 _ _ true rfl (λ_ g=>g.a.1.1 (by simpa using q2)) (λq=>by cases q) hr k2
  ·rw [q2]
   exact j5 _ _ (qFF x.1) rfl (λq3 g=>by rw [g.a.1.2] at q3;cases q3) (λq3=>h2 q1 ⟨by simpa using q2,q3⟩) hr k2
 have j3:∀ (p q:AV) (bd:Bool),qAV p (.bool true) q=some (.bool bd)→(bd=true→¬ HoRow F i x)→(bd=false→((0≤x.2.2.1∧x.2.2.1 < (F.B.length:Int))∧(-1≤x.2.2.2∧x.2.2.2≤(F.S.length:Int) - 1))∧((x.2.2.2≠-1→∀ y,F.S[x.2.2.2.toNat]?=some y→x.2.2.1∈y.2)→(x.1≠1577058561∧qFF x.1=false)→(∀ d,F.B[x.2.2.1.toNat]?=some d→qKr d x.2.1=true)→(x.2.2.1,x.1) ∉ ((F.H.take i).map λy=>(y.2.2.1,y.1))→(x.2.1≠0→(x.2.2.1,x.2.1) ∉ (F.H.take i).map λy=>(y.2.2.1,y.2.1))→HoRow F i x))→∀ {s2:Hq},Sub s30 s2→qIy X0 (.ptr b3 0) ma ia (.int .i64 (i:Int)) (.ptr b28 0) (.int .i64 (i:Int)) p q (InvH F s20) (F.H.length - i) K R s2:=λp q bd h h1 h2 {s2} k2=>by
  unfold qIy
  rw [h]
  simp only [qAA]
  refine qBA (λq1=>?_) λq1=>hbad (h1 q1) k2 _ _ _ (by omega)
  obtain ⟨⟨r1,r2⟩,ok⟩:=h2 q1
  simp only [qAB,zA,qAA,qAJ (k2 _ _ h30),a3,qAa,qAW,Bool.true_bne]
  refine qAG (λq2=>?_) (λq2=>?_)
  ·have hne:x.2.2.2≠-1:=by simpa using q2
   have hb:x.2.2.2.toNat < F.S.length:=by omega
   have hy:F.S[x.2.2.2.toNat]?=some F.S[x.2.2.2.toNat]:=gE hb
   have hym:F.S[x.2.2.2.toNat]∈F.S:=List.getElem_mem hb
   generalize F.S[x.2.2.2.toNat]=y at hy hym
   obtain ⟨pb,po,l1,l2,f1,_,_,f4,_,f5⟩:=(hL3.S.sub k2).at hy
   rw [show ((x.2.2.2.toNat:Nat):Int)=x.2.2.2 by omega] at f1
   simp only [qAB,qAA,qAJ (k2 _ _ h3),csG5,f1,f4,a2]
   refine qUd X0_0 (hnn y hym).2 f5 ?_
   simp only [qAb,qAA]
   rw [q2]
   exact j4 _ _ (!decide (x.2.2.1∈y.2)) rfl (λq3 g=>by have:=g.s hne y hy;simp [this] at q3) (λq3=>ok λ_ y' hy'=>by rw [hy] at hy';cases hy';simpa using q3) r1 k2
  ·rw [q2]
   have he:x.2.2.2=-1:=by simpa using q2
   exact j4 _ _ false rfl (λq3=>by cases q3) (λ_=>ok λz=>absurd he z) r1 k2
 have j2:∀ (p q:AV) (bd:Bool),qAV p (.bool true) q=some (.bool bd)→(bd=true→¬ HoRow F i x)→(bd=false→x.1≠0∧x.1≤281474976710655∧qRp x.1=false)→qIF X0 (.ptr b3 0) ma ia (.int .i64 (i:Int)) (.ptr b28 0) (.int .i64 (i:Int)) p q (InvH F s20) (F.H.length - i) K R s30:=λp q bd h h1 h2=>by
  unfold qIF
  rw [h]
  simp only [qAA]
  refine qBA (λq1=>?_) λq1=>hbad (h1 q1) (.refl _) _ _ _ (by omega)
  have gm:=h2 q1
  simp only [qAB,zA,qAA,qAJ h30,a2,qAJ h3,csG4,lenB]
  refine qGd X0_0 ?_
  simp only [qAb,qAA]
  refine qAG (λq2=>?_) (λq2=>?_)
  ·exact j3 _ _ true (by rw [q2];rfl) (λ_ g=>by rw [qMO.2 g.r.1] at q2;cases q2) (λq3=>by cases q3) (.refl _)
  ·have hin:inB x.2.2.1 (F.B.length:Int)=true:=by simpa using q2
   simp only [qAA,qAJ h30,a3,qAJ h3,csG5,lenS,qAf]
   rw [qAX (by omega) (by omega)]
   refine qB0 X0_0 ?_
   exact j3 _ _ (outB x.2.2.2 (-1) ((F.S.length:Int) - 1)) (by rw [q2];rfl) (λq3 g=>by have:=qAk.2 g.r.2;rw [this] at q3;cases q3) (λq3=>⟨⟨qMO.1 hin,qAk.1 q3⟩,λz1 z2 z3 z4 z5=>⟨gm,⟨qMO.1 hin,qAk.1 q3⟩,z1,⟨z2,z3⟩,z4,z5⟩⟩) (.refl _)
 have j1:∀ (p q:AV) (bd:Bool),qAV p (.bool true) q=some (.bool bd)→(bd=true→¬ HoRow F i x)→(bd=false→x.1≠0∧x.1≤281474976710655)→qIY X0 (.ptr b3 0) ma ia (.int .i64 (i:Int)) (.ptr b28 0) (.int .i64 (i:Int)) p q (InvH F s20) (F.H.length - i) K R s30:=λp q bd h h1 h2=>by
  unfold qIY
  rw [h]
  simp only [qAA]
  refine qAG (λq1=>?_) (λq1=>?_)
  ·exact j2 _ _ true (by rw [q1];rfl) (λ_=>h1 q1) (λq2=>by cases q2)
  ·simp only [qAB,zA,qAA,qAJ h30,a0]
   refine qRv X0_0 ?_
   exact j2 _ _ (qRp x.1) (by rw [q1];rfl) (λq2 g=>by rw [g.m.2.2] at q2;cases q2) (λq2=>⟨(h2 q1).1,(h2 q1).2,q2⟩)
 simp only [qAB,zA,qAA,qAJ h30,a0,qAa,qAW,Bool.false_bne]
 refine qAG (λq1=>?_) (λq1=>?_)
 ·exact j1 _ _ true (by rw [q1];rfl) (λ_ g=>g.m.1 (by simpa using q1)) (λq2=>by cases q2)
 ·simp only [qAA,qAg]
  exact j1 _ _ (decide (281474976710655 < x.1)) (by rw [q1];rfl) (λq2 g=>by have:=oT q2;have:=g.m.2.1;omega) (λq2=>⟨by simpa using q1,by have:=oF q2;omega⟩)
end Go.AM.TN
set_option maxRecDepth 100000
namespace Go.AM.TN
open Go Go.Proofs
variable {K R : AV → Hq → Prop} {s s' s0 : Hq} {lv uv v y w k : AV} {b c mb rb : Nat} {cs : List AV} {Y : Td} {F : FG} {v2 v3 v4 v5 v6 v7 : AV} {t : Bool} {J : AV → Hq → Prop}
structure LeRow (F:FG) (i:Nat) (x:R4):Prop where
 r:(0≤x.1∧x.1 < (F.T.length:Int))∧(0≤x.2.1∧x.2.1 < (F.T.length:Int))
 p:x.1≠x.2.1∧qEe x.2.2.1 x.2.2.2=true
 d:x ∉ F.G.take i
structure LeaOk (F:FG):Prop where
 n:F.G.length≤256
 row:∀ (i:Nat) x,F.G[i]?=some x→LeRow F i x
abbrev InvG (F:FG) (s16:Hq):List AV→Hq→Nat→Prop:=λys t m=>∃ i:Nat,ys=[.int .i64 (i:Int)]∧i≤F.G.length∧m=F.G.length - i∧Sub s16 t∧∀ (j:Nat) x,j < i→F.G[j]?=some x→LeRow F j x
theorem qZ3 (hn:F.G.length≤4294967296) (hc:s c=some (t,.cells 153 (csG F v2 v3 v4 v5 v6 v7))) (hL:FL s F v2 v3 v4 v5 v6 v7) (hK:Kok s (LeaOk F) K) (hR:Rbad s (LeaOk F) R):qAh Tryz.prog X0 SS 114 [.ptr c 0] K R s:=by
 refine qTu (qMN rfl hc hL λb3 s5 h5 k5=>?_)
 have hL5:=(hL.sub k5).G
 have hlen:qAQ v7=some F.G.length:=by rw [hL5.len,List.length_map]
 have lenT:qAQ v3=some F.T.length:=by rw [hL.T.len,List.length_map]
 simp only [qAB,zA,qAA,qAJ h5,csG7,hlen,qAg]
 refine qBA (λq=>?_) λq=>hR (λg=>by have:=oT q;have:=g.n;omega) _ _ _ s5 (by omega) k5
 have hn256:F.G.length≤256:=by have:=oF q;omega
 simp only [qAJ h5,csG7,qAA]
 refine zAFM X0_0 (rows:=F.G) (rowC:=ggC) (λ_=>rfl) (λ_=>rfl) (kf:=λx=>ggC x) zAGY (λx=>⟨_,rfl⟩) (λ_=>rfl) (λ_=>rfl) (λx s J=>zAEc X0_0 x s J) hL5 (by omega) λs16 again k16 rep=>?_
 have h16:=k16 _ _ h5
 simp only [qAJ h16,csG7,qAA,hlen]
 have hinj:∀ x y:R4,(AV.agg (ggC x)=AV.agg (ggC y))↔x=y:=λx y=>by
  obtain ⟨a,b,c,d⟩:=x
  obtain ⟨a',b',c',d'⟩:=y
  simp [ggC]
 refine ⟨InvG F s16,⟨_,0,rfl,by omega,rfl,.refl _,λj x hj=>by omega⟩,?_⟩
 rintro f t m ⟨i,hy,hi,rfl,kt,hall⟩
 simp only [cI,and_true] at hy
 rw [hy]
 simp only [qOS,qAP,qAA]
 refine qAG (λhlt=>?_) (λhge=>?_)
 rotate_left
 ·have hge:i=F.G.length:=by have:=oF hge;omega
  subst hge
  exact hK ⟨hn256,λj x hx=>hall j x (gS hx).1 hx⟩ t (k5.trans (k16.trans kt))
 have hlt:i < F.G.length:=by have:=oT hlt;omega
 have hx:F.G[i]?=some F.G[i]:=gE hlt
 generalize F.G[i]=x at hx
 obtain ⟨pb,po,e1,e2,_⟩:=(hL5.sub (k16.trans kt)).get (i:=i) (r:=ggC x) (by rw [List.getElem?_map,hx];rfl)
 rw [e1]
 simp only [qAA,e2]
 refine qAL λb24 s25 hb24 h25 u25=>qAU h25 rfl rfl rfl λs26 h26 u26=>?_
 have k26:Sub t s26:=qAc (u25.sub hb24) u26 hb24
 have h3:s26 b3=some (false,.cells 68 (csG F v2 v3 v4 v5 v6 v7)):=k26 _ _ (kt _ _ h16)
 have kall:Sub s s26:=k5.trans (k16.trans (kt.trans k26))
 have a0:(ggC x)[0]?=some (.int .i64 x.1):=rfl
 have a1:(ggC x)[1]?=some (.int .i64 x.2.1):=rfl
 have rx:∀ {s2:Hq},Sub s26 s2→rdN s2 2 (.ptr b24 2)=some (pfC x.2.2.1 x.2.2.2):=fun {s2} q=>by simp only [rdN,q _ _ h26];rfl
 obtain ⟨p1,w1,g1,g2,g3⟩:=(rep.sub (kt.trans k26)).at (j:=i) (k:=.agg (ggC x)) (by rw [List.getElem?_map,hx];rfl)
 rw [← List.map_take,qEL (g:=λx=>x) hinj,List.map_id'] at g3
 have hbad:∀ {s2:Hq},¬ LeRow F i x→Sub s26 s2→∀ (e:Int) (p:ByteArray) (i:Int),e≠0→R (flV e p i) s2:=fun {s2} q k2 e p i he=>hR (λg=>q (g.row _ x hx)) e p i s2 he (kall.trans k2)
 have j2:∀ (p q:AV) (bd:Bool),qAV p (.bool true) q=some (.bool bd)→(bd=true→¬ LeRow F i x)→(bd=false→x ∉ F.G.take i→LeRow F i x)→∀ {s2:Hq},Sub s26 s2→qIa X0 again (.int .i64 (i:Int)) (.int .i64 (i:Int)) p q (InvG F s16) (F.G.length - i) K R s2:=λp q bd h h1 h2 {s2} k2=>by
  unfold qIa
  rw [h]
  simp only [qAA]
  refine qBA (λq1=>?_) λq1=>hbad (h1 q1) k2 _ _ _ (by omega)
  have g2':=qUR g2 k2
  rw [g1]
  simp only [qAA,g2']
  refine qBA (λq2=>?_) λq2=>hbad (λg=>g.d (g3.1 q2)) k2 _ _ _ (by omega)
  simp only [qAT,qAA]
  rw [qAX (by omega) (by omega)]
  refine ⟨_,by omega,i+1,rfl,by omega,rfl,kt.trans (k26.trans k2),λj z hj hz=>?_⟩
  by_cases e:j < i
  ·exact hall j z e hz
  ·have:j=i:=by omega
   subst this
   rw [hx] at hz
   cases hz
   exact h2 q1 λq3=>by rw [g3.2 q3] at q2;cases q2
 have j1:∀ (p q:AV) (bd:Bool),qAV p (.bool true) q=some (.bool bd)→(bd=true→¬ LeRow F i x)→(bd=false→(0≤x.1∧x.1 < (F.T.length:Int))∧(0≤x.2.1∧x.2.1 < (F.T.length:Int)))→qIG X0 again (.int .i64 (i:Int)) (.ptr b24 0) (.int .i64 (i:Int)) p q (InvG F s16) (F.G.length - i) K R s26:=λp q bd h h1 h2=>by
  unfold qIG
  rw [h]
  simp only [qAA]
  refine qBA (λq1=>?_) λq1=>hbad (h1 q1) (.refl _) _ _ _ (by omega)
  simp only [qAB,zA,qAA,qAJ h26,a0,a1,qAa,qAW,Bool.false_bne]
  refine qAG (λq2=>?_) (λq2=>?_)
  ·exact j2 _ _ true (by rw [q2];rfl) (λ_ g=>g.p.1 (by simpa using q2)) (λq=>by cases q) (.refl _)
  ·rw [rx (.refl _)]
   simp only [qAA]
   refine qUv X0_0 λs55 k55=>?_
   simp only [qAb,qAA]
   exact j2 _ _ (!qEe x.2.2.1 x.2.2.2) (by rw [q2];rfl) (λq3 g=>by rw [g.p.2] at q3;cases q3) (λq3 z=>⟨h2 q1,⟨by simpa using q2,by simpa using q3⟩,z⟩) k55
 simp only [qAB,zA,qAA,qAJ h26,a0,qAJ h3,csG3,lenT]
 refine qGd X0_0 ?_
 simp only [qAb,qAA]
 refine qAG (λq1=>?_) (λq1=>?_)
 ·exact j1 _ _ true (by rw [q1];rfl) (λ_ g=>by rw [qMO.2 g.r.1] at q1;cases q1) (λq2=>by cases q2)
 ·have hin:inB x.1 (F.T.length:Int)=true:=by simpa using q1
  simp only [qAA,qAJ h26,a1,qAJ h3,csG3,lenT]
  refine qGd X0_0 ?_
  simp only [qAb,qAA]
  exact j1 _ _ (!inB x.2.1 (F.T.length:Int)) (by rw [q1];rfl) (λq2 g=>by rw [qMO.2 g.r.2] at q2;cases q2) (λq2=>⟨qMO.1 hin,qMO.1 (by simpa using q2)⟩)
end Go.AM.TN
set_option maxRecDepth 100000
namespace Go.AM.TN
open Go Go.Proofs
variable {K R : AV → Hq → Prop} {s s' s0 : Hq} {lv uv v y w k : AV} {b c mb rb : Nat} {cs : List AV} {Y : Td} {F : FG} {v2 v3 v4 v5 v6 v7 : AV} {t : Bool} {J : AV → Hq → Prop}
structure Sz (F:FG):Prop where
 L:F.L.length≤4294967296
 T:F.T.length≤4294967296
 B:F.B.length≤4294967296
 S:F.S.length≤4294967296
 H:F.H.length≤4294967296
 G:F.G.length≤4294967296
 N:∀ x∈F.S,x.1.length≤4294967296∧x.2.length≤4294967296
 I:∀ x∈F.H,0≤x.2.1∧x.2.1 < 4294967296
def VS (F:FG):Nat→Prop
 | 0=>FabOk F
 | 1=>TimOk F
 | 2=>LinksOk F
 | 3=>TenOk F
 | 4=>DomOk F
 | 5=>SegOk F
 | 6=>HosOk F
 | 7=>LeaOk F
 | _=>True
def Valid (F:FG):Prop:=∀ i,i < 8→VS F i
theorem zACX (z:Sz F) {i:Nat} (hi:i < 8) (hall:∀ j,j < i→VS F j) (hc:s c=some (t,.cells 153 (csG F v2 v3 v4 v5 v6 v7))) (hL:FL s F v2 v3 v4 v5 v6 v7) (hK:Kok s (VS F i) K) (hR:Rbad s (VS F i) R):qAh Tryz.prog X0 SS (107+i) [.ptr c 0] K R s:=by
 match i,hi with
 | 0,_=>exact qXr hc hL hK hR
 | 1,_=>exact qXo hc hK hR
 | 2,_=>exact qZ4 (hall 0 (by omega)) z.L hc hL hK hR
 | 3,_=>exact qVv z.T hc hL hK hR
 | 4,_=>exact qWW (show TenOk F from hall 3 (by omega)).n z.B hc hL hK hR
 | 5,_=>exact qUo (hall 0 (by omega)) (show DomOk F from hall 4 (by omega)).n z.S z.N hc hL hK hR
 | 6,_=>exact zAAv (hall 4 (by omega)) (show SegOk F from hall 5 (by omega)).n z.H z.N z.I hc hL hK hR
 | 7,_=>exact qZ3 z.G hc hL hK hR
 | n+8,h=>omega
theorem qZp {cd:Code} {env:Env}:qVe cd env=qOq cd env .nilIface:=by
 unfold qVe qOq
 cases qHy cd <;> rfl
theorem qTy {t0 t1 t2:AV} (h:qCq X0 t0 t1 t2 .nilIface K s):zAAG Tryz.prog X0 69 [t0,t1,t2] (λs=>K (.tup []) s) s:=
 qVs qKy nA0 Tryz.func69 (by kernel_rfl:Tryz.f69.body=some (qBl Tryz.f69)) (by kernel_rfl) (by kernel_rfl) (by kernel_rfl) (by rw [qZp];exact (qF2 X0 t0 t1 t2 .nilIface K s).mpr h)
theorem qZx {f:FuncId} {args:List AV} (h1:SS f=true) (h2:isFn Tryz.prog f=true) (h:qAh Tryz.prog X0 SS f args K R s):qW3 Tryz.prog X0 SS (.fn (.func f) [] []) args K R s:=by
 unfold qW3
 simp only [h1,cond_true,List.nil_append,List.append_nil]
 exact ⟨h2,h⟩
def chk:List AV:=[.fn (.func 107) [] [],.fn (.func 108) [] [],.fn (.func 109) [] [],.fn (.func 110) [] [],.fn (.func 111) [] [],.fn (.func 112) [] [],.fn (.func 113) [] [],.fn (.func 114) [] []]
theorem zADO {i:Nat} (h:i < 8):chk[i]?=some (.fn (.func (107+i)) [] [])∧SS (107+i)=true∧isFn Tryz.prog (107+i)=true:=by
 match i,h with
 | 0,_=>exact ⟨rfl,rfl,by kernel_rfl⟩
 | 1,_=>exact ⟨rfl,rfl,by kernel_rfl⟩
 | 2,_=>exact ⟨rfl,rfl,by kernel_rfl⟩
 | 3,_=>exact ⟨rfl,rfl,by kernel_rfl⟩
 | 4,_=>exact ⟨rfl,rfl,by kernel_rfl⟩
 | 5,_=>exact ⟨rfl,rfl,by kernel_rfl⟩
 | 6,_=>exact ⟨rfl,rfl,by kernel_rfl⟩
 | 7,_=>exact ⟨rfl,rfl,by kernel_rfl⟩
 | n+8,h=>omega
theorem qXI (hY:Fn0 Y) (hK:∀ b s',s b=none→s' b=some (false,.cells 156 chk)→Sub s s'→K (.slc b 0 8 (some 8) 1) s'):wC Tryz.prog Y 70 [] K s:=by
 refine qRf hY.fr (hY.no _ rfl) ?_
 unfold qSJ
 refine qAH (a:=chk) rfl ⟨rfl,qAL λb s2 hb h2 u2=>?_⟩
 exact hK b s2 hb h2 (u2.sub hb)
theorem qZa {i:Nat}:∀ (l:List (Hq × Hq)) {s:Hq},(∀ p∈l,p.1 i=p.2 i)→cutH l s i=s i
 | [],_,_=>rfl
 | p :: l,s,h=>by
   show cutH l _ i=_
   rw [qZa l λq hq=>h q (List.mem_cons_of_mem _ hq)]
   show (if p.1 i=none∧p.2 i≠none then none else s i)=_
   rw [if_neg]
   rintro ⟨h1,h2⟩
   exact h2 (by rw [← h p List.mem_cons_self];exact h1)
theorem zACg (z:Sz F) (hF:FabR s cs F) (h1:Valid F→∀ s',Sub s s'→K (.tup [.int .i64 0,.str ⟨#[]⟩,.int .i64 0]) s') (h2:¬ Valid F→∀ (e:Int) (p:ByteArray) (i:Int) s',e≠0→Sub s s'→K (.tup [.int .i64 e,.str p,.int .i64 i]) s'):qAh Tryz.prog X0 SS 43 [.agg cs] K (λ_ _=>False) s:=by
 obtain ⟨v2,v3,v4,v5,v6,v7,rfl,hL⟩:=hF
 refine qLh ⟨hL.all,qAL λb0 s1 hb0 q0 u0=>qAL λb2 s3 hb2 q2 u2=>qAL λb4 s5 hb4 q4 u4=>qAL λb6 s7 hb6 q6 u6=>⟨by show isFn Tryz.prog 69=true;kernel_rfl,?_⟩⟩
 have q0:s1 b0=some (false,.cells 68 (csG F v2 v3 v4 v5 v6 v7)):=q0
 have k1:=u0.sub hb0
 have k3:=u2.sub hb2
 have k5:=u4.sub hb4
 have k7:=u6.sub hb6
 have q0':=k7 _ _ (k5 _ _ (k3 _ _ q0))
 refine qAH (qAY q0' rfl) (qAH (a:=csG F v2 v3 v4 v5 v6 v7) rfl ⟨hL.all,qAL λb10 s11 hb10 q10 u10=>?_⟩)
 have q10:s11 b10=some (false,.cells 153 (csG F v2 v3 v4 v5 v6 v7)):=q10
 have k11:=u10.sub hb10
 refine qXI X0_0 λb12 s13 hb12 q12 k13=>qAH (a:=8) rfl ?_
 have m2:s13 b2=some (false,.cells 98 [.int .i64 0]):=k13 _ _ (k11 _ _ (k7 _ _ (k5 _ _ q2)))
 have m4:s13 b4=some (false,.cells 9 [.str ⟨#[]⟩]):=k13 _ _ (k11 _ _ (k7 _ _ q4))
 have m6:s13 b6=some (false,.cells 3 [.int .i64 0]):=k13 _ _ (k11 _ _ q6)
 have m10:=k13 _ _ q10
 have kk:Sub s s13:=k1.trans (k3.trans (k5.trans (k7.trans (k11.trans k13))))
 have n2:s b2=none:=by
  cases e:s b2 with
  | none=>rfl
  | some x=>rw [k1 _ _ e] at hb2;cases hb2
 have n4:s b4=none:=by
  cases e:s b4 with
  | none=>rfl
  | some x=>rw [k3 _ _ (k1 _ _ e)] at hb4;cases hb4
 have n6:s b6=none:=by
  cases e:s b6 with
  | none=>rfl
  | some x=>rw [k5 _ _ (k3 _ _ (k1 _ _ e))] at hb6;cases hb6
 have d24:b2≠b4:=λe=>by rw [← e,q2] at hb4;cases hb4
 have d26:b2≠b6:=λe=>by rw [← e,k5 _ _ q2] at hb6;cases hb6
 have d46:b4≠b6:=λe=>by rw [← e,q4] at hb6;cases hb6
 have three:∀ {J:AV→Hq→Prop} {s2:Hq} (e:Int) (p:ByteArray) (i:Int),Sub s13 s2→(∀ s3,Sub s s3→s3 b2=some (false,.cells 98 [.int .i64 e])→s3 b4=some (false,.cells 9 [.str p])→s3 b6=some (false,.cells 3 [.int .i64 i])→J (.tup []) s3)→oK (wr1 s2 (.ptr b2 0) (.int .i64 e)) λs3=>oK (wr1 s3 (.ptr b4 0) (.str p)) λs4=>oK (wr1 s4 (.ptr b6 0) (.int .i64 i)) λs5=>J (.tup []) s5:=fun {J} {s2} e p i k2 h=>by
  refine qEB (k2 _ _ m2) (by simp) rfl λs3 h3 u3=>?_
  refine qEB (by rw [u3 _ (Ne.symm d24)];exact k2 _ _ m4) (by simp) rfl λs4 h4 u4=>?_
  refine qEB (by rw [u4 _ (Ne.symm d46),u3 _ (Ne.symm d26)];exact k2 _ _ m6) (by simp) rfl λs5 h5 u5=>?_
  exact h s5 (qAc (qAc (qAc (kk.trans k2) u3 n2) u4 n4) u5 n6) (by rw [u5 _ d26,u4 _ d24];exact h3) (by rw [u5 _ d46];exact h4) h5
 refine ⟨λys t m=>∃ i:Nat,ys=[.int .i64 (i:Int)]∧i≤8∧m=8 - i∧Sub s13 t∧∀ j,j < i→VS F j,⟨_,0,rfl,by omega,rfl,.refl _,λj hj=>by omega⟩,?_⟩
 rintro f t m ⟨i,hy,hi,rfl,kt,hall⟩
 simp only [cI,and_true] at hy
 rw [hy]
 simp only [qHG,qAP,qAA]
 refine qAG (λhlt=>?_) (λhge=>?_)
 ·have hlt:i < 8:=by have:=oT hlt;omega
  obtain ⟨g1,g2,g3⟩:=zADO hlt
  have e1:qAS 1 (.slc b12 0 8 (some 8) 1) (.int .i64 (i:Int))=some (.ptr b12 i):=by
   have:Nat.blt i 8=true:=by rw [Nat.blt_eq];exact hlt
   simp [qAS,this]
  rw [e1]
  simp only [qAA,qAJ (kt _ _ q12),g1]
  refine qZx g2 g3 (zACX z hlt hall (kt _ _ m10) (hL.sub (kk.trans kt)) (λhv s20 k20=>?_) (λhv e p x s23 he k23=>?_))
  ·simp only [qAT,qAA]
   rw [qAX (by omega) (by omega)]
   refine ⟨_,by omega,i+1,rfl,by omega,rfl,kt.trans k20,λj hj=>?_⟩
   by_cases e:j < i
   ·exact hall j e
   ·have:j=i:=by omega
    rw [this];exact hv
  ·refine qKV (K:=λ_ s_24=>oK (rd1 s_24 (.ptr b2 0)) λerr2_25=>oK (rd1 s_24 (.ptr b4 0)) λpart3_26=>oK (rd1 s_24 (.ptr b6 0)) λindex4_27=>K (.tup [err2_25,part3_26,index4_27]) s_24) ?_
   unfold qCq flV
   refine qAH (a:=.bool false) rfl ?_
   simp only [qAM]
   refine qAH (a:=.tup [.agg [.int .i64 e,.str p,.int .i64 x],.bool true]) rfl (qAH (a:=.bool true) rfl (qAH (a:=.agg [.int .i64 e,.str p,.int .i64 x]) rfl ?_))
   simp only []
   refine qAL λb4' s5' hb' h5' u5'=>qAU h5' rfl rfl rfl λs6 h6 u6=>?_
   have k6:Sub t s6:=k23.trans (qAc (u5'.sub hb') u6 hb')
   have a0:[AV.int .i64 e,.str p,.int .i64 x][0]?=some (.int .i64 e):=rfl
   have a1:[AV.int .i64 e,.str p,.int .i64 x][1]?=some (.str p):=rfl
   have a2:[AV.int .i64 e,.str p,.int .i64 x][2]?=some (.int .i64 x):=rfl
   simp only [qAB,zA,qAA,qAJ h6,a0,a1,a2]
   have ne2:b2≠b4':=λe=>by rw [← e,k23 _ _ (kt _ _ m2)] at hb';cases hb'
   have ne4:b4≠b4':=λe=>by rw [← e,k23 _ _ (kt _ _ m4)] at hb';cases hb'
   have j2:s6 b2=_:=k6 _ _ (kt _ _ m2)
   have j4:s6 b4=_:=k6 _ _ (kt _ _ m4)
   have j6:s6 b6=_:=k6 _ _ (kt _ _ m6)
   refine ⟨?_,?_⟩
   ·show cutH _ s6 b2≠none
    rw [qZa,j2]
    ·simp
    ·intro q hq
     simp only [List.mem_cons,List.not_mem_nil,or_false] at hq
     rcases hq with rfl | rfl <;> exact qQm ne2
   refine qEB j2 (by simp) rfl λs3 h3 u3=>⟨?_,?_⟩
   ·show cutH _ s3 b4≠none
    rw [qZa,u3 _ (Ne.symm d24),j4]
    ·simp
    ·intro q hq
     simp only [List.mem_cons,List.not_mem_nil,or_false] at hq
     rcases hq with rfl
     exact qQm ne4
   refine qEB (by rw [u3 _ (Ne.symm d24)];exact j4) (by simp) rfl λs4 h4 u4=>?_
   refine qEB (by rw [u4 _ (Ne.symm d46),u3 _ (Ne.symm d26)];exact j6) (by simp) rfl λs5 h5 u5=>?_
   have z2:s5 b2=some (false,.cells 98 [.int .i64 e]):=by rw [u5 _ d26,u4 _ d24];exact h3
   have z4:s5 b4=some (false,.cells 9 [.str p]):=by rw [u5 _ d46];exact h4
   refine qAH (a:=.int .i64 e) (by rw [qAJ z2];rfl) (qAH (a:=.str p) (by rw [qAJ z4];rfl) (qAH (a:=.int .i64 x) (by rw [qAJ h5];rfl) ?_))
   exact h2 (λg=>hv (g i hlt)) e p x s5 he (qAc (qAc (qAc (kk.trans (kt.trans k6)) u3 n2) u4 n4) u5 n6)
 ·have hge:i=8:=by have:=oF hge;omega
  subst hge
  refine three (J:=λ_ s_30=>runK Tryz.prog X0 (.fn (.func 69) [] [(.ptr b2 0),(.ptr b4 0),(.ptr b6 0)]) (λs_31=>oK (rd1 s_31 (.ptr b2 0)) λerr2_32=>oK (rd1 s_31 (.ptr b4 0)) λpart3_33=>oK (rd1 s_31 (.ptr b6 0)) λindex4_34=>K (.tup [err2_32,part3_33,index4_34]) s_31) s_30) 0 _ 0 kt λs3 k3 h2' h4' h6'=>?_
  refine qTy (K:=λ_ s_31=>oK (rd1 s_31 (.ptr b2 0)) λerr2_32=>oK (rd1 s_31 (.ptr b4 0)) λpart3_33=>oK (rd1 s_31 (.ptr b6 0)) λindex4_34=>K (.tup [err2_32,part3_33,index4_34]) s_31) ?_
  unfold qCq
  refine qAH (a:=.bool true) rfl ?_
  simp only [qAM]
  refine qAH (a:=.int .i64 0) (by rw [qAJ h2'];rfl) (qAH (a:=.str ⟨#[]⟩) (by rw [qAJ h4'];rfl) (qAH (a:=.int .i64 0) (by rw [qAJ h6'];rfl) ?_))
  exact h1 hall s3 k3
theorem zAAw (z:Sz F) (hF:FabR s cs F) (h1:Valid F→∀ s',Sub s s'→K (.tup [.int .i64 0,.str ⟨#[]⟩,.int .i64 0]) s') (h2:¬ Valid F→∀ (e:Int) (p:ByteArray) (i:Int) s',e≠0→Sub s s'→K (.tup [.int .i64 e,.str p,.int .i64 i]) s'):wC Tryz.prog XX 43 [.agg cs] K s:=zAEs rfl (zACg z hF h1 h2)
end Go.AM.TN
