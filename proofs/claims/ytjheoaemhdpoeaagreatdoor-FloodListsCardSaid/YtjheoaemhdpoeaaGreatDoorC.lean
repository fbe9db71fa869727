/- Part C of the proof: see the last part. -/
import Derived.Test.YtjheoaemhdpoeaaGreatDoorV
import Derived.Test.YtjheoaemhdpoeaaGreatDoorV2
import Derived.Test.YtjheoaemhdpoeaaGreatDoorG
set_option linter.unusedVariables false
namespace Go.AM.TN
open Go Go.Proofs
variable {s s' s0 t:Hq} {lv v y:AV}
theorem qAa{s s' s'':Hq}{b:Nat}(h:Sub s s')(u:Upto b s' s'')(hb:s b=none):Sub s s'':=λi e hi=>by rw[u i (qEQ hb hi)];exact h i e hi
theorem qCl(k:Sub s s'){b:Nat}(h:s' b=none):s b=none:=by
 cases q:s b with
 |none=>rfl
 |some y=>rw[k _ _ q]at h;cases h
structure Tk(s0 t:Hq)(b:Nat):Prop where
 sub:Sub s0 t
 fr:s0 b=none
 ex:∃(lv:AV) (l:List Int) (i:Nat),t b=some (false,.cells 134 [lv,.int .i64 (i:Int)])/\i<=9000000000000000000/\l.length<=9000000000000000000/\Sl s0 lv (l.map (AV.int .i64))/\∀x∈l,-9223372036854775808<=x/\x<=9223372036854775807
theorem Tk.more{b:Nat}(h:Tk s0 t b)(k:Sub t s):Tk s0 s b:=by obtain⟨lv,l,i,h1,h2⟩:=h.ex;exact⟨h.sub.trans k,h.fr,lv,l,i,k _ _ h1,h2⟩
theorem Tk.keep{b:Nat}(h:Tk s0 t b){fp:Nat->Prop}(k:qCS fp t s)(hb:¬fp b)(h0:∀i,fp i->s0 i=none):Tk s0 s b:=by obtain⟨lv,l,i,h1,h2⟩:=h.ex;exact⟨λi e hi=>k _ _ (h.sub _ _ hi) λq=>(by rw[h0 i q]at hi;cases hi),h.fr,lv,l,i,k _ _ h1 hb,h2⟩
abbrev RLk:=Int×Int×Int
def lkC(x:RLk):List AV:=[.int .i64 x.1,.int .i64 x.2.1,.int .i64 x.2.2]
def iz(l:List Nat):List AV:=l.map λ(n:Nat)=>.int .i64 (n:Int)
theorem _root_.Go.AM.Acc.sub{elem:TypeId}{l:List AV}(h:Acc elem s0 s v l)(k:Sub s s'):Acc elem s0 s' v l:=h.imp id λ⟨b,h0,h1,h2⟩=>⟨b,h0,h1,k _ _ h2⟩
end Go.AM.TN
namespace Go.AM.TN
open Go Go.Proofs
variable {s0 t:Hq} {lv:AV} {b:Nat}
theorem Tk.at(h:Tk s0 t b):t b≠none:=by obtain⟨lv,l,i,q,_⟩:=h.ex;rw[q];simp
end Go.AM.TN
namespace Go.AM.TN
open Go Go.Proofs
variable {s s0 t:Hq} {b:Nat}
theorem zAC0{n:Int}(h1:0<=n)(h2:n<9223372036854775808):qD2 .u64 (.int .i64 n)=some (.int .u64 n):=by show some (AV.int .u64 (qBF .u64 n))=_;rw[show qBF .u64 n=n by simp only[qBF];rw[qEP _ _ _ (by omega) (by omega)];split<;>omega]
abbrev Bd:=Nat×Bool
def subN(i:Nat)(r:Bool):Int:=if r then 167772160+(i:Int)*65536 else 0
def gwN(i:Nat)(r:Bool):Int:=if r then 167772160+(i:Int)*65536+1 else 0
def lenN(r:Bool):Int:=if r then 24 else 0
def bdC(i:Nat)(x:Bd):List AV:=[.int .i64 (x.1:Int),.int .u32 (10+(i:Int)),.int .u32 (500+(i:Int)),.int .u32 (subN i x.2),.int .i64 (lenN x.2),.int .u32 (gwN i x.2)]
theorem Tk.u(h:Tk s0 t b){c:Nat}(u:Upto c t s)(hc:s0 c=none)(hb:b≠c):Tk s0 s b:=h.keep (fp:=λi=>i=c) (u.keep rfl) hb λi hi=>by rw[hi];exact hc
abbrev Lkg:=Nat×Nat×Option Nat
def pfN:Option Nat->Int
 |some j=>167772160+(j:Int)*65536
 |none=>0
def plN:Option Nat->Int
 |some _=>16
 |none=>0
def lgC(x:Lkg):List AV:=[.int .i64 (x.1:Int),.int .i64 (x.2.1:Int),.int .u32 (pfN x.2.2),.int .i64 (plN x.2.2)]
def mB(r:Option Bool)(k:Option Bool):Option Bool:=match r with
 |some true=>k
 |some false=>some false
 |none=>none
theorem qFT{a b:Int}:eqI a b=decide (a=b):=by
 rw[qFe]
 by_cases h:a=b
 ·rw[h];simp
 ·rw[decide_eq_false h];simpa using h
end Go.AM.TN
namespace Go.AM.TN
open Go Go.Proofs
variable {s s':Hq} {v:AV}
abbrev Sg:=List Nat×List Nat
def SgR(s:Hq)(v:AV)(S:List Sg):Prop:=∃vs:List (AV×AV),SlR 2 s v (vs.map λp=>[p.1,p.2])/\vs.length=S.length/\∀(i:Nat) (q:AV×AV) (x:Sg),vs[i]?=some q->S[i]?=some x->Sl s q.1 (iz x.1)/\Sl s q.2 (iz x.2)
theorem SgR.sub{S:List Sg}(h:SgR s v S)(k:Sub s s'):SgR s' v S:=by obtain⟨vs,h1,h2,h3⟩:=h;exact⟨vs,h1.sub k,h2,λi q x a c=>⟨(h3 i q x a c).1.sub k,(h3 i q x a c).2.sub k⟩⟩
theorem SgR.len{S:List Sg}(h:SgR s v S):qAQ v=some S.length:=by obtain⟨vs,h1,h2,_⟩:=h;rw[h1.len,lMY,h2]
theorem SgR.at{S:List Sg}(h:SgR s v S){i:Nat}{x:Sg}(hx:S[i]?=some x):∃pb po l1 l2,qAM 2 v (.int .i64 (i:Int))=some (.ptr pb po)/\rdN s 2 (.ptr pb po)=some [l1,l2]/\rd1 s (.ptr pb po)=some l1/\rd1 s (.ptr pb (po+1))=some l2/\Sl s l1 (iz x.1)/\Sl s l2 (iz x.2):=by
 obtain⟨vs,h1,h2,h3⟩:=h;have hi:i<vs.length:=by rw[h2];exact(gS hx).1
 have hq:vs[i]?=some vs[i]:=gEY hi;obtain⟨pb,po,e1,e2,e3⟩:=h1.get (i:=i) (r:=[vs[i].1,vs[i].2]) (by rw[List.getElem?_map,hq];rfl);obtain⟨a,c⟩:=h3 i _ x hq hx;exact⟨pb,po,vs[i].1,vs[i].2,e1,e2,e3 0 (by omega),e3 1 (by omega),a,c⟩
theorem SgR.one{S:List Sg}(h:SgR s v S):v.one=true:=by obtain⟨vs,h1,_⟩:=h;exact h1.one
abbrev Hst:=Nat×Nat×Bool×Bool
def ipN(i:Nat)(x:Hst):Int:=if x.2.2.1 then 167772160+(x.1:Int)*65536+(10+(i:Int))else 0
def sgN(x:Hst):Int:=if x.2.2.2 then -1 else(x.2.1:Int)
def hoC(i:Nat)(x:Hst):List AV:=[.int .u64 (2199023951872+(i:Int)),.int .u32 (ipN i x),.int .i64 (x.1:Int),.int .i64 (sgN x)]
def zAFr(B:List Bd):List (List AV):=B.mapIdx λi x=>bdC i x
def zAF1(H:List Hst):List (List AV):=H.mapIdx λi x=>hoC i x
end Go.AM.TN
namespace Go.AM.TN
open Go Go.Proofs
variable {s0 t:Hq} {lv v:AV} {b:Nat}
def offV(v:AV)(t:Hq):Hq:=match v with
 | .slc b _ _ _ _=>hdel t b
 |_=>t
theorem zABS{v:AV}:Sub (offV v t) t:=λi x hi=>by
 unfold offV at hi;split at hi
 ·unfold hdel at hi
  split at hi
  ·cases hi
  ·exact hi
 ·exact hi
theorem qZ7{v:AV}{i:Nat}(h:∀b o n c e,v=.slc b o n c e->i≠b):offV v t i=t i:=by
 unfold offV;split
 ·exact if_neg (h _ _ _ _ _ rfl)
 ·rfl
theorem _root_.Go.AM.AccR.own{elem:TypeId}{es:Nat}{rows:List (List AV)}(h:AccR elem es s0 t v rows){i:Nat}(hi:s0 i≠none):∀b o n c e,v=.slc b o n c e->i≠b:=λb o n c e q q2=>by
 rcases h.2 with⟨r,_⟩|⟨j,r1,r2,_⟩
 ·rw[r]at q;cases q
 ·rw[r2]at q;cases q;exact hi (by rw[q2];exact r1)
structure FS(s0 H t:Hq)(b3 b24:Nat)(cs:List AV):Prop where
 tk:Tk s0 t b3
 fb:t b24=some (false,.cells 31 cs)
 sub:Sub H t
 n3:H b3=none
 n24:H b24=none
 base:Sub s0 H
 ne:b3≠b24
variable {H:Hq} {b3 b24:Nat} {cs:List AV}
def ext(H t:Hq)(b3 b24:Nat):Hq:=λi=>if i=b3∨i=b24 then t i else H i
theorem FS.e1(z:FS s0 H t b3 b24 cs){i:Nat}(h:i=b3∨i=b24):ext H t b3 b24 i=t i:=if_pos h
theorem FS.e2(z:FS s0 H t b3 b24 cs):Sub H (ext H t b3 b24):=λi e hi=>by
 unfold ext;rw[if_neg]
 ·exact hi
 ·rintro (q|q)
  ·rw[q,z.n3]at hi;cases hi
  ·rw[q,z.n24]at hi;cases hi
theorem FS.step(z:FS s0 H t b3 b24 cs){t2:Hq}(kp:qCS (λi=>i=b3) t t2)(tk2:Tk s0 t2 b3):FS s0 H t2 b3 b24 cs:=
 ⟨tk2,kp _ _ z.fb (Ne.symm z.ne),λi e hi=>kp _ _ (z.sub _ _ hi) λq=>(by rw[q,z.n3]at hi;cases hi),z.n3,z.n24,z.base,z.ne⟩
theorem Tk.hid{q:Nat}(h:Tk s0 t b)(hq:s0 q=none)(hb:b≠q):Tk s0 (hdel t q) b:=by
 obtain⟨lv,l',i',q',q''⟩:=h.ex;refine⟨λj e hj=>?_,h.fr,lv,l',i',by rw[qFy hb];exact q',q''⟩;have ne:j≠q:=λe=>by rw[e,hq]at hj;cases hj
 rw[qFy ne];exact h.sub _ _ hj
end Go.AM.TN
namespace Go.AM.TN
open Go Go.Proofs
variable {s s' H:Hq} {cs:List AV}
structure NX where
 lf:Nat
 sp:Nat
 el:Nat
 hz:Nat
 ro:Nat
 su:Bool
 tr:Bool
 de:Nat
 ag:Nat
def csF(x:NX)(v2 v3 v4 v5 v6 v7:AV):List AV:=[.int .i64 (x.lf:Int),.int .i64 (x.sp:Int),v2,v3,v4,v5,v6,v7,.int .i64 (x.el:Int),.int .i64 (x.hz:Int),.int .i64 (x.ro:Int),.bool x.su,.bool x.tr,.int .i64 (x.de:Int),.int .i64 9,.int .i64 (x.ag:Int),.int .i64 20,.int .i64 5,.int .i64 30]
def tnC(i:Nat):List AV:=[.int .u32 (100+(i:Int)),.int .u32 (900+(i:Int))]
def zAFL(n:Nat):List (List AV):=(List.range n).map tnC
structure NFab where
 x:NX
 L:List RLk
 n:Nat
 B:List Bd
 S:List Sg
 H:List Hst
 G:List Lkg
structure NFR(s:Hq)(cs:List AV)(F:NFab):Prop where
 ex:∃v2 v3 v4 v5 v6 v7,cs=csF F.x v2 v3 v4 v5 v6 v7/\SlR 3 s v2 (F.L.map lkC)/\SlR 2 s v3 (zAFL F.n)/\SlR 6 s v4 (zAFr F.B)/\SgR s v5 F.S/\SlR 4 s v6 (zAF1 F.H)/\SlR 4 s v7 (F.G.map lgC)
theorem NFR.sub{F:NFab}(h:NFR s cs F)(k:Sub s s'):NFR s' cs F:=by obtain⟨v2,v3,v4,v5,v6,v7,e,h2,h3,h4,h5,h6,h7⟩:=h.ex;exact⟨v2,v3,v4,v5,v6,v7,e,h2.sub k,h3.sub k,h4.sub k,h5.sub k,h6.sub k,h7.sub k⟩
theorem NFR.len{F:NFab}(h:NFR s cs F):cs.length=19:=by obtain⟨v2,v3,v4,v5,v6,v7,rfl,_⟩:=h.ex;rfl
theorem NFR.all{F:NFab}(h:NFR s cs F):qAg cs=true:=by obtain⟨v2,v3,v4,v5,v6,v7,rfl,h2,h3,h4,h5,h6,h7⟩:=h.ex;simp[csF,h2.one,h3.one,h4.one,h5.one,h6.one,h7.one]
end Go.AM.TN
namespace Go.AM.TN
open Go Go.Proofs
variable {b:Nat}
theorem qNs(a b c d e:Int)(f g:Bool):qCJ [(.int .i64 0),(.int .i64 0),.nilslc,.nilslc,.nilslc,.nilslc,.nilslc,.nilslc,(.int .i64 0),(.int .i64 0),(.int .i64 0),(.bool false),(.bool false),(.int .i64 0),(.int .i64 0),(.int .i64 0),(.int .i64 0),(.int .i64 0),(.int .i64 0)] [(0,1,.int .i64 a),(1,1,.int .i64 b),(8,1,.int .i64 c),(9,1,.int .i64 d),(10,1,.int .i64 e),(11,1,.bool f),(12,1,.bool g)]=some [.int .i64 a,.int .i64 b,.nilslc,.nilslc,.nilslc,.nilslc,.nilslc,.nilslc,.int .i64 c,.int .i64 d,.int .i64 e,.bool f,.bool g,.int .i64 0,.int .i64 0,.int .i64 0,.int .i64 0,.int .i64 0,.int .i64 0]:=rfl
end Go.AM.TN
namespace Go.AM.TN
open Go Go.Proofs
variable {K R:AV→Hq→Prop} {s s':Hq} {v:AV} {c:Nat} {cs:List AV} {Y:Td}
abbrev BG:=Int×Int×Int×Int×Int×Int
abbrev R4:=Int×Int×Int×Int
structure FG where
 lf:Int
 sp:Int
 el:Int
 hz:Int
 ro:Int
 su:Bool
 tr:Bool
 de:Int
 ho:Int
 ag:Int
 re:Int
 mo:Int
 wi:Int
 L:List RLk
 T:List (Int×Int)
 B:List BG
 S:List (List Int×List Int)
 H:List R4
 G:List R4
def tgC(x:Int×Int):List AV:=[.int .u32 x.1,.int .u32 x.2]
def bgC(x:BG):List AV:=[.int .i64 x.1,.int .u32 x.2.1,.int .u32 x.2.2.1,.int .u32 x.2.2.2.1,.int .i64 x.2.2.2.2.1,.int .u32 x.2.2.2.2.2]
def hgC(x:R4):List AV:=[.int .u64 x.1,.int .u32 x.2.1,.int .i64 x.2.2.1,.int .i64 x.2.2.2]
def ggC(x:R4):List AV:=[.int .i64 x.1,.int .i64 x.2.1,.int .u32 x.2.2.1,.int .i64 x.2.2.2]
def ix(l:List Int):List AV:=l.map (AV.int .i64)
theorem qCR{l:List Int}:(ix l).length=l.length:=by unfold ix;simp
theorem qJk{l:List Int}{i:Nat}(h:i<l.length):(ix l)[i]?=some (.int .i64 l[i]):=by unfold ix;simp[h]
def SgG(s:Hq)(v:AV)(S:List (List Int×List Int)):Prop:=∃vs:List (AV×AV),SlR 2 s v (vs.map λp=>[p.1,p.2])/\vs.length=S.length/\∀(i:Nat) (q:AV×AV) (x:List Int×List Int),vs[i]?=some q->S[i]?=some x->Sl s q.1 (ix x.1)/\Sl s q.2 (ix x.2)
theorem SgG.sub{S:List (List Int×List Int)}(h:SgG s v S)(k:Sub s s'):SgG s' v S:=by obtain⟨vs,h1,h2,h3⟩:=h;exact⟨vs,h1.sub k,h2,λi q x a c=>⟨(h3 i q x a c).1.sub k,(h3 i q x a c).2.sub k⟩⟩
theorem SgG.len{S:List (List Int×List Int)}(h:SgG s v S):qAQ v=some S.length:=by obtain⟨vs,h1,h2,_⟩:=h;rw[h1.len,lMY,h2]
theorem SgG.one{S:List (List Int×List Int)}(h:SgG s v S):v.one=true:=by obtain⟨vs,h1,_⟩:=h;exact h1.one
theorem SgG.at{S:List (List Int×List Int)}(h:SgG s v S){i:Nat}{x:List Int×List Int}(hx:S[i]?=some x):∃pb po l1 l2,qAM 2 v (.int .i64 (i:Int))=some (.ptr pb po)/\rdN s 2 (.ptr pb po)=some [l1,l2]/\rd1 s (.ptr pb po)=some l1/\rd1 s (.ptr pb (po+1))=some l2/\Sl s l1 (ix x.1)/\Sl s l2 (ix x.2):=by
 obtain⟨vs,h1,h2,h3⟩:=h;have hi:i<vs.length:=by rw[h2];exact(gS hx).1
 have hq:vs[i]?=some vs[i]:=gEY hi;obtain⟨pb,po,e1,e2,e3⟩:=h1.get (i:=i) (r:=[vs[i].1,vs[i].2]) (by rw[List.getElem?_map,hq];rfl);obtain⟨a,c⟩:=h3 i _ x hq hx;exact⟨pb,po,vs[i].1,vs[i].2,e1,e2,e3 0 (by omega),e3 1 (by omega),a,c⟩
def csG(F:FG)(v2 v3 v4 v5 v6 v7:AV):List AV:=[.int .i64 F.lf,.int .i64 F.sp,v2,v3,v4,v5,v6,v7,.int .i64 F.el,.int .i64 F.hz,.int .i64 F.ro,.bool F.su,.bool F.tr,.int .i64 F.de,.int .i64 F.ho,.int .i64 F.ag,.int .i64 F.re,.int .i64 F.mo,.int .i64 F.wi]
structure FL(s:Hq)(F:FG)(v2 v3 v4 v5 v6 v7:AV):Prop where
 L:SlR 3 s v2 (F.L.map lkC)
 T:SlR 2 s v3 (F.T.map tgC)
 B:SlR 6 s v4 (F.B.map bgC)
 S:SgG s v5 F.S
 H:SlR 4 s v6 (F.H.map hgC)
 G:SlR 4 s v7 (F.G.map ggC)
theorem FL.sub{F:FG}{v2 v3 v4 v5 v6 v7:AV}(h:FL s F v2 v3 v4 v5 v6 v7)(k:Sub s s'):FL s' F v2 v3 v4 v5 v6 v7:=⟨h.L.sub k,h.T.sub k,h.B.sub k,h.S.sub k,h.H.sub k,h.G.sub k⟩
theorem FL.all{F:FG}{v2 v3 v4 v5 v6 v7:AV}(h:FL s F v2 v3 v4 v5 v6 v7):qAg (csG F v2 v3 v4 v5 v6 v7)=true:=by simp[csG,h.L.one,h.T.one,h.B.one,h.S.one,h.H.one,h.G.one]
def FabR(s:Hq)(cs:List AV)(F:FG):Prop:=∃v2 v3 v4 v5 v6 v7,cs=csG F v2 v3 v4 v5 v6 v7/\FL s F v2 v3 v4 v5 v6 v7
theorem FabR.sub{F:FG}(h:FabR s cs F)(k:Sub s s'):FabR s' cs F:=by obtain⟨v2,v3,v4,v5,v6,v7,e,h⟩:=h;exact⟨v2,v3,v4,v5,v6,v7,e,h.sub k⟩
def outB(n lo hi:Int):Bool:=decide (n<lo)||decide (hi<n)
theorem qAn{n lo hi:Int}:outB n lo hi=false↔lo<=n/\n<=hi:=by unfold outB;simp
theorem qB9(hY:Fn0 Y){n lo hi:Int}(hK:K (.bool (outB n lo hi)) s):wC TP Y 108 [.int .i64 n,.int .i64 lo,.int .i64 hi] K s:=by
 refine qRy hY.fr (hY.no _ rfl) ?_;unfold outB at hK;simp only[qQo,qAS,qAp,qAA];refine qAF (λe=>?_) (λe=>?_)
 ·rw[e]at hK ⊢
  exact hK
 ·rw[e]at hK ⊢
  exact hK
def inB(i n:Int):Bool:=decide (0<=i)&&decide (i<n)
theorem qMw{i n:Int}:inB i n=true↔0<=i/\i<n:=by unfold inB;simp
theorem qHK(hY:Fn0 Y){i n:Int}(hK:K (.bool (inB i n)) s):wC TP Y 76 [.int .i64 i,.int .i64 n] K s:=by
 refine qSk hY.fr (hY.no _ rfl) ?_;unfold inB at hK;simp only[qSb,qAy,qAS,qAA];refine qAF (λe=>?_) (λe=>?_)
 ·rw[e]at hK ⊢
  exact hK
 ·rw[e]at hK ⊢
  exact hK
def flV(e:Int)(p:ByteArray)(i:Int):AV:=.ifc 147 (.agg [.int .i64 e,.str p,.int .i64 i])
theorem qBI{bad:Bool}{e i:Int}{p:ByteArray}(hK:bad=false->K (.tup []) s)(hR:bad=true->R (flV e p i) s):qAh TP X0 SS 107 [.bool bad,.int .i64 e,.str p,.int .i64 i] K R s:=by refine qM8 ?_;unfold qLH;refine qAF (λq=>?_) hK;exact qAJ (a:=[.int .i64 e,.str p,.int .i64 i]) rfl (hR q)
end Go.AM.TN
namespace Go.AM.TN
open Go Go.Proofs
variable {K R:AV→Hq→Prop} {s s':Hq} {y:AV} {b c:Nat} {F:FG} {v2 v3 v4 v5 v6 v7:AV} {t:Bool}
theorem zAD2:(csG F v2 v3 v4 v5 v6 v7).length=19:=rfl
theorem csG0:(csG F v2 v3 v4 v5 v6 v7)[0]?=some (.int .i64 F.lf):=id rfl
theorem csG1:(csG F v2 v3 v4 v5 v6 v7)[1]?=some (.int .i64 F.sp):=id rfl
theorem csG2:(csG F v2 v3 v4 v5 v6 v7)[2]?=some v2:=id rfl
theorem csG3:(csG F v2 v3 v4 v5 v6 v7)[3]?=some v3:=id rfl
theorem csG4:(csG F v2 v3 v4 v5 v6 v7)[4]?=some v4:=id rfl
theorem csG5:(csG F v2 v3 v4 v5 v6 v7)[5]?=some v5:=id rfl
theorem csG6:(csG F v2 v3 v4 v5 v6 v7)[6]?=some v6:=id rfl
theorem csG7:(csG F v2 v3 v4 v5 v6 v7)[7]?=some v7:=id rfl
theorem csG8:(csG F v2 v3 v4 v5 v6 v7)[8]?=some (.int .i64 F.el):=id rfl
theorem csG9:(csG F v2 v3 v4 v5 v6 v7)[9]?=some (.int .i64 F.hz):=id rfl
theorem zAFU:(csG F v2 v3 v4 v5 v6 v7)[10]?=some (.int .i64 F.ro):=id rfl
theorem qMv{zs:List AV}(hz:zs.length=19)(hc:s c=some (t,.cells 150 (csG F v2 v3 v4 v5 v6 v7)))(hL:FL s F v2 v3 v4 v5 v6 v7){J:Nat->Hq->Prop}(h:∀b s',s' b=some (false,.cells 31 (csG F v2 v3 v4 v5 v6 v7))->Sub s s'->J b s'):
  oK (qAo (.ptr c 0)) λv0=>oK (qAC 0 v0) λv1=>oK (rdN s 19 v1) λv2=>newK 31 zs (λb s4=>oK (qBx s4 19 (.ptr b 0) (.agg v2)) λs5=>J b s5) s:=by
 simp only[qCk,qAG,zA,qAA];refine qAJ (qAb hc rfl) (qAP λb s4 hb h4 u4=>qAZ h4 (by rw[zAD2,hz]) hz hL.all λs5 h5 u5=>?_);exact h b s5 h5 (qAa (u4.sub hb) u5 hb)
structure FabOk(F:FG):Prop where
 lf:1<=F.lf/\F.lf<=32
 sp:0<=F.sp/\F.sp<=32
 sum:F.lf+F.sp<=32
 el:0<=F.el/\F.el<=2
 hz:0<=F.hz/\F.hz<=1
 ro:0<=F.ro/\F.ro<=1
abbrev Kok(s:Hq)(P:Prop)(K:AV->Hq->Prop):Prop:=P->∀s',Sub s s'->K (.tup []) s'
abbrev Rbad(s:Hq)(P:Prop)(R:AV->Hq->Prop):Prop:=¬P->∀(e:Int) (p:ByteArray) (i:Int) s',e≠0->Sub s s'->R (flV e p i) s'
theorem qYH(hc:s c=some (t,.cells 150 (csG F v2 v3 v4 v5 v6 v7)))(hL:FL s F v2 v3 v4 v5 v6 v7)(hK:Kok s (FabOk F) K)(hR:Rbad s (FabOk F) R):qAh TP X0 SS 87 [.ptr c 0] K R s:=by
 refine qSz (qMv rfl hc hL λb3 s5 h5 k5=>?_);simp only[qAG,zA,qAA,qAL h5,csG0];have j2:∀(x y:AV) (bad:Bool),qAT x (.bool true) y=some (.bool bad)->(bad=true->¬FabOk F)->(bad=false->FabOk F)->qH3 X0 x y K R s5:=λx y bad h h1 h2=>by unfold qH3;rw[h];exact qBI (λq=>hK (h2 q) s5 k5) λq=>hR (h1 q) _ _ _ s5 (by omega) k5
 have j1:∀(x y:AV) (bad:Bool),qAT x (.bool true) y=some (.bool bad)->(bad=true->¬FabOk F)->(bad=false->outB F.ro 0 1=false->FabOk F)->qHw X0 (.ptr b3 0) x y K R s5:=λx y bad h h1 h2=>by
  unfold qHw;rw[h];simp only[qAA];refine qAF (λq=>?_) (λq=>?_)
  ·exact j2 _ _ bad (by rw[q];rfl) h1 (λq2=>by rw[q]at q2;cases q2)
  ·simp only[qAG,zA,qAA,qAL h5,zAFU]
   refine qB9 X0_0 ?_;exact j2 _ _ (outB F.ro 0 1) (by rw[q];rfl) (λq2 q3=>by have:=qAn.2 q3.ro;rw[this]at q2;cases q2) (λq2=>h2 q q2)
 have j0:∀(x y:AV) (bad:Bool),qAT x (.bool true) y=some (.bool bad)->(bad=true->¬FabOk F)->(bad=false->(1<=F.lf/\F.lf<=32)/\(0<=F.sp/\F.sp<=32))->qHu X0 (.ptr b3 0) x y K R s5:=λx y bad h h1 h2=>by
  unfold qHu;rw[h];simp only[qAA];refine qBI (λq=>?_) λq=>hR (h1 q) _ _ _ s5 (by omega) k5;obtain⟨g1,g2⟩:=h2 q;simp only[qAG,zA,qAA,qAL h5,csG0,csG1,qAV,qAp];rw[qAc (by omega) (by omega)];refine qBI (λq2=>?_) λq2=>hR (λg=>by have:=oT q2;have:=g.sum;omega) _ _ _ s5 (by omega) k5;have g3:=oF q2;simp only[qAL h5,csG8,qAA];refine qB9 X0_0 ?_;have fin:outB F.el 0 2=false->outB F.hz 0 1=false->outB F.ro 0 1=false->FabOk F:=λa b c=>⟨g1,g2,by omega,qAn.1 a,qAn.1 b,qAn.1 c⟩
  refine qAF (λq=>?_) (λq=>?_)
  ·exact j1 _ _ true (by rw[q];rfl) (λ_ g=>by have:=qAn.2 g.el;rw[this]at q;cases q) (λq2=>by cases q2)
  ·simp only[qAA,qAL h5,csG9]
   refine qB9 X0_0 ?_;exact j1 _ _ (outB F.hz 0 1) (by rw[q];rfl) (λq2 g=>by have:=qAn.2 g.hz;rw[this]at q2;cases q2) (λq2 q3=>fin q q2 q3)
 refine qB9 X0_0 ?_;refine qAF (λq=>?_) (λq=>?_)
 ·exact j0 _ _ true (by rw[q];rfl) (λ_ g=>by have:=qAn.2 g.lf;rw[this]at q;cases q) (λq2=>by cases q2)
 ·simp only[qAA,qAL h5,csG1]
  refine qB9 X0_0 ?_;exact j0 _ _ (outB F.sp 0 32) (by rw[q];rfl) (λq2 g=>by have:=qAn.2 g.sp;rw[this]at q2;cases q2) (λq2=>⟨qAn.1 q,qAn.1 q2⟩)
structure TimOk(F:FG):Prop where
 de:1<=F.de/\F.de<=100
 ho:3<=F.ho/\F.ho<=1000
 ag:1<=F.ag/\F.ag<=10000
 re:0<=F.re/\F.re<=1000
 mo:1<=F.mo/\F.mo<=100
 wi:1<=F.wi/\F.wi<=10000
theorem qYi(hc:s c=some (t,.cells 150 (csG F v2 v3 v4 v5 v6 v7)))(hK:Kok s (TimOk F) K)(hR:Rbad s (TimOk F) R):qAh TP X0 SS 88 [.ptr c 0] K R s:=by
 refine qSV ?_;unfold qS1;simp only[qCk,qAG,zA,qAA];have hrd:rdN s 6 (.ptr c 13)=some [.int .i64 F.de,.int .i64 F.ho,.int .i64 F.ag,.int .i64 F.re,.int .i64 F.mo,.int .i64 F.wi]:=by simp only[rdN,hc];rfl
 refine qAJ hrd (qAP λb4 s5 hb h5' u5=>qAZ h5' rfl rfl rfl λs6 h6 u6=>?_);have k6:Sub s s6:=qAa (u5.sub hb) u6 hb;have c0:rd1 s6 (.ptr b4 0)=some (.int .i64 F.de):=by rw[qAL h6];rfl
 have c1:rd1 s6 (.ptr b4 1)=some (.int .i64 F.ho):=by rw[qAL h6];rfl
 have c2:rd1 s6 (.ptr b4 2)=some (.int .i64 F.ag):=by rw[qAL h6];rfl
 have c3:rd1 s6 (.ptr b4 3)=some (.int .i64 F.re):=by rw[qAL h6];rfl
 have c4:rd1 s6 (.ptr b4 4)=some (.int .i64 F.mo):=by rw[qAL h6];rfl
 have c5:rd1 s6 (.ptr b4 5)=some (.int .i64 F.wi):=by rw[qAL h6];rfl
 have j3:∀(x y:AV) (bad:Bool),qAT x (.bool true) y=some (.bool bad)->(bad=true->¬TimOk F)->(bad=false->TimOk F)->qH7 X0 x y K R s6:=λx y bad h h1 h2=>by unfold qH7;rw[h];exact qBI (λq=>hK (h2 q) s6 k6) λq=>hR (h1 q) _ _ _ s6 (by omega) k6
 have j2:∀(x y:AV) (bad:Bool),qAT x (.bool true) y=some (.bool bad)->(bad=true->¬TimOk F)->(bad=false->outB F.wi 1 10000=false->TimOk F)->qHz X0 (.ptr b4 0) x y K R s6:=λx y bad h h1 h2=>by
  unfold qHz;rw[h];simp only[qAA];refine qAF (λq=>?_) (λq=>?_)
  ·exact j3 _ _ bad (by rw[q];rfl) h1 (λq2=>by rw[q]at q2;cases q2)
  ·simp only[qAG,zA,qAA,c5]
   refine qB9 X0_0 ?_;exact j3 _ _ (outB F.wi 1 10000) (by rw[q];rfl) (λq2 g=>by have:=qAn.2 g.wi;rw[this]at q2;cases q2) (λq2=>h2 q q2)
 have j1:∀(x y:AV) (bad:Bool),qAT x (.bool true) y=some (.bool bad)->(bad=true->¬TimOk F)->(bad=false->outB F.re 0 1000=false->outB F.mo 1 100=false->outB F.wi 1 10000=false->TimOk F)->qH9 X0 (.ptr b4 0) x y K R s6:=λx y bad h h1 h2=>by
  unfold qH9;rw[h];simp only[qAA];refine qBI (λq=>?_) λq=>hR (h1 q) _ _ _ s6 (by omega) k6;simp only[qAG,zA,qAA,c3];refine qB9 X0_0 ?_;refine qAF (λq2=>?_) (λq2=>?_)
  ·exact j2 _ _ true (by rw[q2];rfl) (λ_ g=>by have:=qAn.2 g.re;rw[this]at q2;cases q2) (λq2=>by cases q2)
  ·simp only[qAA,c4]
   refine qB9 X0_0 ?_;exact j2 _ _ (outB F.mo 1 100) (by rw[q2];rfl) (λq3 g=>by have:=qAn.2 g.mo;rw[this]at q3;cases q3) (λq3 q4=>h2 q q2 q3 q4)
 have j0:∀(x y:AV) (bad:Bool),qAT x (.bool true) y=some (.bool bad)->(bad=true->¬TimOk F)->(bad=false->outB F.ag 1 10000=false->outB F.re 0 1000=false->outB F.mo 1 100=false->outB F.wi 1 10000=false->TimOk F)->qH0 X0 (.ptr b4 0) x y K R s6:=λx y bad h h1 h2=>by
  unfold qH0;rw[h];simp only[qAA];refine qAF (λq=>?_) (λq=>?_)
  ·exact j1 _ _ bad (by rw[q];rfl) h1 (λq2=>by rw[q]at q2;cases q2)
  ·simp only[qAG,zA,qAA,c2]
   refine qB9 X0_0 ?_;exact j1 _ _ (outB F.ag 1 10000) (by rw[q];rfl) (λq2 g=>by have:=qAn.2 g.ag;rw[this]at q2;cases q2) (λq2=>h2 q q2)
 simp only[qAA,c0];refine qB9 X0_0 ?_;refine qAF (λq=>?_) (λq=>?_)
 ·exact j0 _ _ true (by rw[q];rfl) (λ_ g=>by have:=qAn.2 g.de;rw[this]at q;cases q) (λq2=>by cases q2)
 ·simp only[qAA,c1]
  refine qB9 X0_0 ?_;exact j0 _ _ (outB F.ho 3 1000) (by rw[q];rfl) (λq2 g=>by have:=qAn.2 g.ho;rw[this]at q2;cases q2) (λq2 q3 q4 q5 q6=>⟨qAn.1 q,qAn.1 q2,qAn.1 q3,qAn.1 q4,qAn.1 q5,qAn.1 q6⟩)
end Go.AM.TN
namespace Go.AM.TN
open Go Go.Proofs
variable {s s' s0:Hq} {v k:AV} {b c mb rb:Nat}
def qP0(q:AV->AV->Option Bool)(k:AV):List AEnt->Nat->Option (Option (Nat×AV))
 |[],_=>some none
 | e::es,i=>match q k e.key with
   |some true=>some (some (i,e.val))
   |some false=>qP0 q k es (i+1)
   |none=>none
theorem qT5(k:AV):∀(es:List AEnt) (i:Nat),qNr k es i=qP0 (qPA (.int .i64)) k es i
 |[],_=>rfl
 | e::es,i=>by
   unfold qNr qP0;rw[qT5 k es (i+1)];cases qPA (.int .i64) k e.key with
   |none=>rfl
   |some b=>cases b<;>rfl
theorem qUu(P:Program)(kt:TypeId)(d:TypeDesc)(k:AV):∀(es:List AEnt) (i:Nat),qJo P kt d k es i=qP0 (qKO P kt d) k es i
 |[],_=>rfl
 | e::es,i=>by
   unfold qJo qP0;rw[qUu P kt d k es (i+1)];cases qKO P kt d k e.key with
   |none=>rfl
   |some b=>cases b<;>rfl
def Dec(q:AV->AV->Option Bool)(U:AV->Prop):Prop:=∀k k',U k->U k'->∃b,q k k'=some b/\(b=true↔k=k')
structure SM(U:AV->Prop)(s:Hq)(mb:Nat)(keys:List AV):Prop where
 ex:∃es cl,s mb=some (false,.map es cl)/\(∀e∈es,e.val=.bool true)/\∀k,k∈es.map (·.key)↔k∈keys
 all:∀k∈keys,U k
theorem qQY{q:AV->AV->Option Bool}{U:AV->Prop}(hq:Dec q U){k:AV}(hk:U k):∀(es:List AEnt) (i:Nat),(∀e∈es,U e.key)->
  (qP0 q k es i=some none/\k ∉ es.map (·.key))∨∃j e,es[j]?=some e/\e.key=k/\qP0 q k es i=some (some (i+j,e.val))
 |[],i,_=>.inl ⟨rfl,by simp⟩
 | e::es,i,h=>by
   obtain⟨b,h1,h2⟩:=hq k e.key hk (h e (by simp));unfold qP0;rw[h1];cases b with
   |true=>exact .inr ⟨0,e,rfl,(h2.1 rfl).symm,by simp⟩
   | false=>
     have hne:k≠e.key:=λq=>by have:=h2.2 q;cases this
     rcases qQY hq hk es (i+1) (λe' he'=>h e' (by simp[he']))with⟨g1,g2⟩|⟨j,e',g1,g2,g3⟩
     ·exact .inl ⟨g1,by simp only[List.map_cons,List.mem_cons,not_or];exact⟨hne,g2⟩⟩
     ·exact .inr ⟨j+1,e',by simpa using g1,g2,by simp only;rw[g3];congr 3;omega⟩
theorem qWC{k v:AV}:∀{es:List AEnt}{j:Nat}{e:AEnt},es[j]?=some e->e.key=k->(modE es j λe=>{ e with key:=k,val:=v }).map (·.key)=es.map (·.key)
 |[],_,_,h,_=>by simp at h
 | x::es,0,e,h,he=>by
   have:x=e:=by simpa using h
   subst this;show k::es.map (·.key)=_;rw[List.map_cons,he]
 | x::es,j+1,e,h,he=>by
   show x.key::(modE es j _).map (·.key)=_;rw[qWC (es:=es) (by simpa using h) he,List.map_cons]
theorem qWI{k v:AV}:∀{es:List AEnt}{j:Nat},(∀e∈es,e.val=v)->∀e∈modE es j (λe=>{ e with key:=k,val:=v }),e.val=v
 |[],0,_,e,h=>by cases h
 |[],_+1,_,e,h=>by cases h
 | x::es,0,hv,e,h=>by
   have h:e∈({ x with key:=k,val:=v }:AEnt)::es:=h;rcases mC h with rfl|h
   ·rfl
   ·exact hv e (by simp[h])
 | x::es,j+1,hv,e,h=>by
   have h:e∈x::modE es j (λe=>{ e with key:=k,val:=v }):=h;rcases mC h with rfl|h
   ·exact hv e (by simp)
   ·exact qWI (λe he=>hv e (by simp[he])) e h
section
variable {q:AV→AV→Option Bool} {U:AV→Prop} {keys:List AV}
theorem SM.fnd(h:SM U s mb keys)(hq:Dec q U)(hk:U k):∃es cl,s mb=some (false,.map es cl)/\((qP0 q k es 0=some none/\k ∉ keys)∨∃j e,es[j]?=some e/\e.key=k/\qP0 q k es 0=some (some (j,.bool true))/\k∈keys)/\(∀e∈es,e.val=.bool true)/\∀k,k∈es.map (·.key)↔k∈keys:=by
 obtain⟨es,cl,h1,h2,h3⟩:=h.ex;refine⟨es,cl,h1,?_,h2,h3⟩;rcases qQY hq hk es 0 λe he=>h.all _ ((h3 _).1 (List.mem_map.2 ⟨e,he,rfl⟩))with⟨g1,g2⟩|⟨j,e,g1,g2,g3⟩
 ·exact .inl ⟨g1,λhm=>g2 ((h3 _).2 hm)⟩
 ·have he:=mG g1
  exact .inr ⟨j,e,g1,g2,by rw[g3,zA,h2 e he],(h3 _).1 (List.mem_map.2 ⟨e,he,g2⟩)⟩
theorem SM.next{es:List AEnt}{cl:Nat}(h:SM U s mb keys)(hk:U k)(hv:∀e∈es,e.val=.bool true)(h3:∀k,k∈es.map (·.key)↔k∈keys){es':List AEnt}{cl':Nat}(hb:s' mb=some (false,.map es' cl'))
  (hes:(∃j e,es[j]?=some e/\e.key=k/\k∈keys/\es'=modE es j λe=>{ e with key:=k,val:=.bool true })∨es'=es ++ [{ key:=k,val:=.bool true,born:=cl }]):SM U s' mb (keys ++ [k]):=by
 refine⟨⟨es',cl',hb,λe he=>?_,λk'=>?_⟩,λk' hk'=>?_⟩
 ·rcases hes with⟨j,e0,g1,g2,_,rfl⟩|rfl
  ·exact qWI hv e he
  ·rcases mP he with he|he
   ·exact hv e he
   ·rw[List.mem_singleton]at he
    rw[he]
 ·rcases hes with⟨j,e0,g1,g2,g3,rfl⟩|rfl
  ·rw[qWC g1 g2,h3,List.mem_append,List.mem_singleton]
   exact⟨.inl,λq=>q.elim id λe=>by rw[e];exact g3⟩
  ·rw[List.map_append,List.mem_append,h3,List.mem_append]
   simp
 ·rcases mP hk' with q|q
  ·exact h.all _ q
  ·rw[List.mem_singleton]at q
   rw[q];exact hk
theorem SM.sub(h:SM U s mb keys)(k:Sub s s'):SM U s' mb keys:=by obtain⟨es,cl,h1,h2,h3⟩:=h.ex;exact⟨⟨es,cl,k _ _ h1,h2,h3⟩,h.all⟩
theorem SM.upto(h:SM U s mb keys)(u:Upto b s s')(hb:mb≠b):SM U s' mb keys:=by obtain⟨es,cl,h1,h2,h3⟩:=h.ex;exact⟨⟨es,cl,by rw[u _ hb];exact h1,h2,h3⟩,h.all⟩
end
def qQB(v:AV):Prop:=∃n,v=.int .u32 n
theorem qYG:Dec (qPA (.int .i64)) qQB:=by
 rintro k k' ⟨n,rfl⟩ ⟨m,rfl⟩;refine⟨n == m,?_,?_⟩
 ·show cond (qB5 .u32 .u32) (some (eqI n m)) none=_
  rw[qFe];rfl
 ·simp
variable {keys:List AV} {U:AV→Prop}
theorem SM.getM{n:Int}(h:SM qQB s mb keys){J:Option AV->Prop}(hJ:∀r b,retM (.bool false) false r=.bool b->(b=true↔AV.int .u32 n∈keys)->J r):oK (AM.getM s (.map mb) (.int .u32 n)) J:=by
 obtain⟨es,cl,h1,h2,_⟩:=h.fnd qYG ⟨n,rfl⟩;unfold AM.getM;simp only[h1,qT5];rcases h2 with⟨g1,g2⟩|⟨j,e,_,_,g1,g2⟩
 ·rw[g1]
  exact hJ none false rfl ⟨λq=>(by cases q),λq=>absurd q g2⟩
 ·rw[g1]
  exact hJ _ true rfl ⟨λ_=>g2,λ_=>rfl⟩
theorem SM.putM{n:Int}(h:SM qQB s mb keys){J:Hq->Prop}(hJ:∀s',SM qQB s' mb (keys ++ [.int .u32 n])->Upto mb s s'->J s'):oK (AM.putM s (.map mb) (.int .u32 n) (.bool true)) J:=by
 obtain⟨es,cl,h1,h2,hv,h3⟩:=h.fnd qYG (k:=.int .u32 n) ⟨n,rfl⟩;unfold AM.putM putE;simp only[h1,qT5];rcases h2 with⟨g1,g2⟩|⟨j,e,g0,g3,g1,g2⟩
 ·rw[g1]
  exact hJ _ (h.next (cl:=cl) ⟨n,rfl⟩ hv h3 qBh (.inr rfl)) λ_ hi=>qBB hi
 ·rw[g1]
  exact hJ _ (h.next (cl:=cl) ⟨n,rfl⟩ hv h3 qBh (.inl ⟨j,e,g0,g3,g2,rfl⟩)) λ_ hi=>qBB hi
structure KT(P:Program)(kt:TypeId)(U:AV->Prop):Prop where
 ex:∃d,P.underlying kt=some d/\aggD d=true/\Dec (qKO P kt d) U
 ok:∀k,U k->qGj P 10 kt k=true
variable {P:Program}
theorem SM.getG{kt:TypeId}(hT:KT P kt U)(h:SM U s mb keys)(hk:U k){J:Option AV->Prop}(hJ:∀r b,retM (.bool false) false r=.bool b->(b=true↔k∈keys)->J r):oK (AM.getG P kt s (.map mb) k) J:=by
 obtain⟨d,hd,ha,hq⟩:=hT.ex;obtain⟨es,cl,h1,h2,_⟩:=h.fnd hq hk;unfold AM.getG;rw[hd];simp only[ha,hT.ok k hk,Bool.and_self,cond_true,h1,qUu];rcases h2 with⟨g1,g2⟩|⟨j,e,_,_,g1,g2⟩
 ·rw[g1]
  exact hJ none false rfl ⟨λq=>(by cases q),λq=>absurd q g2⟩
 ·rw[g1]
  exact hJ _ true rfl ⟨λ_=>g2,λ_=>rfl⟩
theorem SM.putG{kt:TypeId}(hT:KT P kt U)(h:SM U s mb keys)(hk:U k){J:Hq->Prop}(hJ:∀s',SM U s' mb (keys ++ [k])->Upto mb s s'->J s'):oK (AM.putG P kt s (.map mb) k (.bool true)) J:=by
 obtain⟨d,hd,ha,hq⟩:=hT.ex;obtain⟨es,cl,h1,h2,hv,h3⟩:=h.fnd hq hk;unfold AM.putG;rw[hd];simp only[ha,hT.ok k hk,Bool.and_self,cond_true,h1,qUu];rcases h2 with⟨g1,g2⟩|⟨j,e,g0,g3,g1,g2⟩
 ·rw[g1]
  exact hJ _ (h.next (cl:=cl) hk hv h3 qBh (.inr rfl)) λ_ hi=>qBB hi
 ·rw[g1]
  exact hJ _ (h.next (cl:=cl) hk hv h3 qBh (.inl ⟨j,e,g0,g3,g2,rfl⟩)) λ_ hi=>qBB hi
structure RepR(s:Hq)(v:AV)(ks:List AV):Prop where
 ex:∃bs:List Bool,Sl s v (bs.map AV.bool)/\bs.length=ks.length/\∀(j:Nat) b,bs[j]?=some b->(b=true↔∃k,ks[j]?=some k/\k∈ks.take j)
theorem RepR.sub{ks:List AV}(h:RepR s v ks)(k:Sub s s'):RepR s' v ks:=by obtain⟨bs,h1,h2,h3⟩:=h.ex;exact⟨bs,h1.sub k,h2,h3⟩
theorem RepR.at{ks:List AV}(h:RepR s v ks){j:Nat}{k:AV}(hk:ks[j]?=some k):∃p b,qAM 1 v (.int .i64 (j:Int))=some p/\rd1 s p=some (.bool b)/\(b=true↔k∈ks.take j):=by
 obtain⟨bs,h1,h2,h3⟩:=h.ex;have hj:j<bs.length:=by rw[h2];exact(gS hk).1
 obtain⟨p,g1,g2⟩:=h1.get (i:=j) (by simpa using hj);have hb:bs[j]?=some bs[j]:=gEY hj;refine⟨p,bs[j],g1,by rw[g2,List.getElem?_map,hb];rfl,(h3 j _ hb).trans ⟨λ⟨k',e1,e2⟩=>?_,λe=>⟨k,hk,e⟩⟩⟩;rw[hk]at e1;cases e1;exact e2
structure RP(U:AV->Prop)(s0 s:Hq)(mb rb:Nat)(ks:List AV)(i:Nat):Prop where
 keep:Sub s0 s
 nm:s0 mb=none
 nr:s0 rb=none
 ne:mb≠rb
 map:SM U s mb (ks.take i)
 arr:∃bs:List Bool,s rb=some (false,.cells 4 (bs.map AV.bool))/\bs.length=ks.length/\∀(j:Nat) b,j<i->bs[j]?=some b->(b=true↔∃k,ks[j]?=some k/\k∈ks.take j)
theorem RP.sub{ks:List AV}{i:Nat}(h:RP U s0 s mb rb ks i)(k:Sub s s'):RP U s0 s' mb rb ks i:=by obtain⟨bs,h1,h2,h3⟩:=h.arr;exact⟨h.keep.trans k,h.nm,h.nr,h.ne,h.map.sub k,bs,k _ _ h1,h2,h3⟩
theorem RP.put{ks:List AV}{i:Nat}{k:AV}{b:Bool}(h:RP U s0 s mb rb ks i)(hk:ks[i]?=some k)(hb:b=true↔k∈ks.take i){J:Hq->Prop}
  (hJ:∀(s':Hq) (bs:List Bool),SM U s' mb (ks.take i)->Sub s0 s'->s' rb=some (false,.cells 4 (bs.map AV.bool))->bs.length=ks.length->(∀(j:Nat) b,j<i+1->bs[j]?=some b->(b=true↔∃k,ks[j]?=some k/\k∈ks.take j))->J s') :
  oK (qAM 1 (.slc rb 0 ks.length (some ks.length) 1) (.int .i64 (i:Int))) λp=>oK (wr1 s p (.bool b)) J:=by
 obtain⟨bs,h1,h2,h3⟩:=h.arr;have hi:i<ks.length:=(gS hk).1;have e1:qAM 1 (.slc rb 0 ks.length (some ks.length) 1) (.int .i64 (i:Int))=some (.ptr rb i):=by
  have:Nat.blt i ks.length=true:=by rw[Nat.blt_eq];exact hi
  simp[qAM,this]
 rw[e1];simp only[qAA];refine qCH h1 (by simp;omega) rfl λs' h4 u4=>?_;refine hJ s' (bs.set i b) (h.map.upto u4 h.ne) (qAa h.keep u4 h.nr) (by rw[h4,List.map_set]) (by simp[h2]) λj b' hj hb'=>?_
 by_cases e:i=j
 ·subst e
  rw[List.getElem?_set_self (by omega)]at hb';cases hb';exact hb.trans ⟨λq=>⟨k,hk,q⟩,λ⟨k',q1,q2⟩=>by rw[hk]at q1;cases q1;exact q2⟩
 ·rw[List.getElem?_set_ne e]at hb'
  exact h3 j b' (by omega) hb'
theorem RP.done{ks:List AV}(h:RP U s0 s mb rb ks ks.length):RepR s (.slc rb 0 ks.length (some ks.length) 1) ks:=by obtain⟨bs,h1,h2,h3⟩:=h.arr;refine⟨bs,Sl.mk h1 (by simp[h2]) (λc e=>by cases e;simp[h2]),h2,λj b hb=>h3 j b ?_ hb⟩;rw[<- h2];exact(gS hb).1
theorem RP.start{ks:List AV}(h1:s0 mb=none)(h2:s0 rb=none)(hne:mb≠rb)(hs:Sub s0 s)(hm:s mb=some (false,.map [] 0))(hr:s rb=some (false,.cells 4 (repl ks.length [.bool false]))):RP U s0 s mb rb ks 0:=
 ⟨hs,h1,h2,hne,⟨⟨[],0,hm,by simp,by simp⟩,by simp⟩,List.replicate ks.length false,by rw[hr,qVx];simp,by simp,λj b hj=>by omega⟩
end Go.AM.TN
set_option maxRecDepth 100000
namespace Go.AM.TN
open Go Go.Proofs
variable {K:AV→Hq→Prop} {s s' s0:Hq} {v k:AV} {b mb rb:Nat} {Y:Td} {U:AV→Prop}
theorem qPK{k:IntKind}{n:Int}{p:Prop}:intK (.int k n) p=p:=id rfl
theorem RP.putU{ks:List AV}{i:Nat}{k:AV}{b:Bool}(h:RP U s0 s mb rb ks i)(hk:ks[i]?=some k)(hb:b=true↔k∈ks.take i){J:Hq->Prop}
  (hJ:∀(s':Hq) (bs:List Bool),SM U s' mb (ks.take i)->Sub s0 s'->s' rb=some (false,.cells 4 (bs.map AV.bool))->bs.length=ks.length->(∀(j:Nat) b,j<i+1->bs[j]?=some b->(b=true↔∃k,ks[j]?=some k/\k∈ks.take j))->Upto rb s s'->J s') :
  oK (qAM 1 (.slc rb 0 ks.length (some ks.length) 1) (.int .i64 (i:Int))) λp=>oK (wr1 s p (.bool b)) J:=by
 obtain⟨bs,h1,h2,h3⟩:=h.arr;have hi:i<ks.length:=(gS hk).1;have e1:qAM 1 (.slc rb 0 ks.length (some ks.length) 1) (.int .i64 (i:Int))=some (.ptr rb i):=by
  have:Nat.blt i ks.length=true:=by rw[Nat.blt_eq];exact hi
  simp[qAM,this]
 rw[e1];simp only[qAA];refine qCH h1 (by simp;omega) rfl λs' h4 u4=>?_;refine hJ s' (bs.set i b) (h.map.upto u4 h.ne) (qAa h.keep u4 h.nr) (by rw[h4,List.map_set]) (by simp[h2]) (λj b' hj hb'=>?_) u4
 by_cases e:i=j
 ·subst e
  rw[List.getElem?_set_self (by omega)]at hb';cases hb';exact hb.trans ⟨λq=>⟨k,hk,q⟩,λ⟨k',q1,q2⟩=>by rw[hk]at q1;cases q1;exact q2⟩
 ·rw[List.getElem?_set_ne e]at hb'
  exact h3 j b' (by omega) hb'
theorem zACt(hY:Fn0 Y){A:Type}{rows:List A}{rowC:A->List AV}(hl:∀x,(rowC x).length=2)(ho:∀x,qAg (rowC x)=true){key1:AV}{kf:A->Int}(hkey:∀(x:A) (s:Hq) (J:AV->Hq->Prop),(∀s',Sub s s'->J (AV.int .u32 (kf x)) s')->funK TP Y key1 [.agg (rowC x)] J s)(hv:SlR 2 s v (rows.map rowC))(hn:rows.length<=4294967296)(hK:∀s' r,Sub s s'->RepR s' r (rows.map λx=>AV.int .u32 (kf x))->K r s'):wC TP Y 111 [v,key1] K s:=by
 refine qIl hY.fr (hY.no _ rfl) ?_;unfold qGQ;have hlen:qAQ v=some rows.length:=by rw[hv.len,lMY]
 have hkl0:(rows.map λx=>AV.int .u32 (kf x)).length=rows.length:=lMY _;rw[hlen];simp only[qAA];rw[qPK];intro mb hmb;simp only[nat?_mk,qAA];refine⟨⟨Nat.le_refl _,hn⟩,qAP λrb s9 hrb h9 u9=>?_⟩;have k3:Sub s (hset s mb (false,.map [] 0)):=qIG hmb;have hne:mb≠rb:=λe=>by rw[<- e,qBh]at hrb;cases hrb
 have hsrb:s rb=none:=by rw[qBB (Ne.symm hne)]at hrb;exact hrb
 have hm9:s9 mb=some (false,.map [] 0):=by rw[u9 _ hne,qBh]
 have rp0:RP qQB s s9 mb rb (rows.map λx=>AV.int .u32 (kf x)) 0:=.start hmb hsrb hne (k3.trans (u9.sub hrb)) hm9 (by rw[hkl0];exact h9);refine⟨λys t m=>∃i:Nat,ys=[.int .i64 (i:Int)]/\i<=rows.length/\m=rows.length-i/\RP qQB s t mb rb (rows.map λx=>AV.int .u32 (kf x)) i,⟨_,0,rfl,by omega,rfl,rp0⟩,?_⟩;rintro f t m ⟨i,hy,hi,rfl,rp⟩;simp only[cI,and_true]at hy;rw[hy];simp only[qE6,qAS,qAA];refine qAF (λhlt=>?_) (λhge=>?_)
 rotate_left
 ·have hge:i=rows.length:=by have:=oF hge;omega
  subst hge;have:=RP.done (by rw[hkl0];exact rp);rw[hkl0]at this;exact hK t _ rp.keep this
 have hlt:i<rows.length:=by have:=oT hlt;omega
 have hx:rows[i]?=some rows[i]:=gEY hlt;generalize rows[i]=x at hx;obtain⟨pb,po,e1,e2,_⟩:=(hv.sub rp.keep).get (i:=i) (r:=rowC x) (by rw[List.getElem?_map,hx];rfl);have hkx:(rows.map λx=>AV.int .u32 (kf x))[i]?=some (AV.int .u32 (kf x)):=by rw[List.getElem?_map,hx];rfl
 rw[e1];simp only[qAA,e2];refine qAP λb15 s16 hb15 h16 u16=>qAZ h16 (by rw[hl x];rfl) rfl (ho x) λs17 h17 u17=>qAJ (qAb h17 (hl x)) ?_;have k17:Sub t s17:=qAa (u16.sub hb15) u17 hb15;refine hkey x s17 _ λs20 k20=>?_;have rp20:=rp.sub (k17.trans k20);refine rp20.map.getM λr b hr hb=>?_;rw[hr];rw[<- hkl0];refine rp20.put hkx hb λs23 bs sm23 k23 h23 hbl hbs=>?_;refine sm23.putM λs24 sm24 u24=>?_;have rp24:RP qQB s s24 mb rb (rows.map λx=>AV.int .u32 (kf x)) (i+1):=⟨qAa k23 u24 hmb,hmb,hsrb,hne,by rw[List.take_add_one,hkx];exact sm24,bs,by rw[u24 _ (Ne.symm hne)];exact h23,hbl,hbs⟩
 simp only[qAV,qAA];rw[qAc (by omega) (by omega)];exact⟨_,by omega,i+1,rfl,by omega,rfl,rp24⟩
theorem zACi(hY:Fn0 Y){A:Type}{rows:List A}{rowC:A->List AV}(hl:∀x,(rowC x).length=6)(ho:∀x,qAg (rowC x)=true){key1:AV}{kf:A->Int}(hkey:∀(x:A) (s:Hq) (J:AV->Hq->Prop),(∀s',Sub s s'->J (AV.int .u32 (kf x)) s')->funK TP Y key1 [.agg (rowC x)] J s)(hv:SlR 6 s v (rows.map rowC))(hn:rows.length<=4294967296)(hK:∀s' r,Sub s s'->RepR s' r (rows.map λx=>AV.int .u32 (kf x))->K r s'):wC TP Y 114 [v,key1] K s:=by
 refine qK4 hY.fr (hY.no _ rfl) ?_;unfold qIn;have hlen:qAQ v=some rows.length:=by rw[hv.len,lMY]
 have hkl0:(rows.map λx=>AV.int .u32 (kf x)).length=rows.length:=lMY _;rw[hlen];simp only[qAA];rw[qPK];intro mb hmb;simp only[nat?_mk,qAA];refine⟨⟨Nat.le_refl _,hn⟩,qAP λrb s9 hrb h9 u9=>?_⟩;have k3:Sub s (hset s mb (false,.map [] 0)):=qIG hmb;have hne:mb≠rb:=λe=>by rw[<- e,qBh]at hrb;cases hrb
 have hsrb:s rb=none:=by rw[qBB (Ne.symm hne)]at hrb;exact hrb
 have hm9:s9 mb=some (false,.map [] 0):=by rw[u9 _ hne,qBh]
 have rp0:RP qQB s s9 mb rb (rows.map λx=>AV.int .u32 (kf x)) 0:=.start hmb hsrb hne (k3.trans (u9.sub hrb)) hm9 (by rw[hkl0];exact h9);refine⟨λys t m=>∃i:Nat,ys=[.int .i64 (i:Int)]/\i<=rows.length/\m=rows.length-i/\RP qQB s t mb rb (rows.map λx=>AV.int .u32 (kf x)) i,⟨_,0,rfl,by omega,rfl,rp0⟩,?_⟩;rintro f t m ⟨i,hy,hi,rfl,rp⟩;simp only[cI,and_true]at hy;rw[hy];simp only[qGm,qAS,qAA];refine qAF (λhlt=>?_) (λhge=>?_)
 rotate_left
 ·have hge:i=rows.length:=by have:=oF hge;omega
  subst hge;have:=RP.done (by rw[hkl0];exact rp);rw[hkl0]at this;exact hK t _ rp.keep this
 have hlt:i<rows.length:=by have:=oT hlt;omega
 have hx:rows[i]?=some rows[i]:=gEY hlt;generalize rows[i]=x at hx;obtain⟨pb,po,e1,e2,_⟩:=(hv.sub rp.keep).get (i:=i) (r:=rowC x) (by rw[List.getElem?_map,hx];rfl);have hkx:(rows.map λx=>AV.int .u32 (kf x))[i]?=some (AV.int .u32 (kf x)):=by rw[List.getElem?_map,hx];rfl
 rw[e1];simp only[qAA,e2];refine qAP λb15 s16 hb15 h16 u16=>qAZ h16 (by rw[hl x];rfl) rfl (ho x) λs17 h17 u17=>qAJ (qAb h17 (hl x)) ?_;have k17:Sub t s17:=qAa (u16.sub hb15) u17 hb15;refine hkey x s17 _ λs20 k20=>?_;have rp20:=rp.sub (k17.trans k20);refine rp20.map.getM λr b hr hb=>?_;rw[hr];rw[<- hkl0];refine rp20.put hkx hb λs23 bs sm23 k23 h23 hbl hbs=>?_;refine sm23.putM λs24 sm24 u24=>?_;have rp24:RP qQB s s24 mb rb (rows.map λx=>AV.int .u32 (kf x)) (i+1):=⟨qAa k23 u24 hmb,hmb,hsrb,hne,by rw[List.take_add_one,hkx];exact sm24,bs,by rw[u24 _ (Ne.symm hne)];exact h23,hbl,hbs⟩
 simp only[qAV,qAA];rw[qAc (by omega) (by omega)];exact⟨_,by omega,i+1,rfl,by omega,rfl,rp24⟩
theorem zAFp(hY:Fn0 Y){A:Type}{rows:List A}{rowC:A->List AV}(hl:∀x,(rowC x).length=3)(ho:∀x,qAg (rowC x)=true){key1:AV}{kf:A->List AV}{U:AV->Prop}(hT:KT TP 187 U)(hU:∀x,U (.agg (kf x)))(hkl:∀x,(kf x).length=2)(hko:∀x,qAg (kf x)=true)(hkey:∀(x:A) (s:Hq) (J:AV->Hq->Prop),(∀s',Sub s s'->J (AV.agg (kf x)) s')->funK TP Y key1 [.agg (rowC x)] J s)(hv:SlR 3 s v (rows.map rowC))(hn:rows.length<=4294967296)(hK:∀s' r,Sub s s'->RepR s' r (rows.map λx=>AV.agg (kf x))->K r s'):wC TP Y 109 [v,key1] K s:=by
 refine qJs hY.fr (hY.no _ rfl) ?_;unfold qHU;have hlen:qAQ v=some rows.length:=by rw[hv.len,lMY]
 have hkl0:(rows.map λx=>AV.agg (kf x)).length=rows.length:=lMY _;rw[hlen];simp only[qAA];rw[qPK];intro mb hmb;simp only[nat?_mk,qAA];refine⟨⟨Nat.le_refl _,hn⟩,qAP λrb s9 hrb h9 u9=>?_⟩;have k3:Sub s (hset s mb (false,.map [] 0)):=qIG hmb;have hne:mb≠rb:=λe=>by rw[<- e,qBh]at hrb;cases hrb
 have hsrb:s rb=none:=by rw[qBB (Ne.symm hne)]at hrb;exact hrb
 have hm9:s9 mb=some (false,.map [] 0):=by rw[u9 _ hne,qBh]
 have rp0:RP U s s9 mb rb (rows.map λx=>AV.agg (kf x)) 0:=.start hmb hsrb hne (k3.trans (u9.sub hrb)) hm9 (by rw[hkl0];exact h9);refine⟨λys t m=>∃i:Nat,ys=[.int .i64 (i:Int)]/\i<=rows.length/\m=rows.length-i/\RP U s t mb rb (rows.map λx=>AV.agg (kf x)) i,⟨_,0,rfl,by omega,rfl,rp0⟩,?_⟩;rintro f t m ⟨i,hy,hi,rfl,rp⟩;simp only[cI,and_true]at hy;rw[hy];simp only[qFf,qAS,qAA];refine qAF (λhlt=>?_) (λhge=>?_)
 rotate_left
 ·have hge:i=rows.length:=by have:=oF hge;omega
  subst hge;have:=RP.done (by rw[hkl0];exact rp);rw[hkl0]at this;exact hK t _ rp.keep this
 have hlt:i<rows.length:=by have:=oT hlt;omega
 have hx:rows[i]?=some rows[i]:=gEY hlt;generalize rows[i]=x at hx;obtain⟨pb,po,e1,e2,_⟩:=(hv.sub rp.keep).get (i:=i) (r:=rowC x) (by rw[List.getElem?_map,hx];rfl);have hkx:(rows.map λx=>AV.agg (kf x))[i]?=some (AV.agg (kf x)):=by rw[List.getElem?_map,hx];rfl
 rw[e1];simp only[qAA,e2];refine qAP λb15 s16 hb15 h16 u16=>qAZ h16 (by rw[hl x];rfl) rfl (ho x) λs17 h17 u17=>qAJ (qAb h17 (hl x)) ?_;have k17:Sub t s17:=qAa (u16.sub hb15) u17 hb15;refine hkey x s17 _ λs20 k20=>?_;refine qAP λb21 s22 hb21 h22 u22=>qAZ h22 (by rw[hkl x];rfl) rfl (hko x) λs23 h23' u23'=>qAJ (qAb h23' (hkl x)) ?_;have k23':Sub s20 s23:=qAa (u22.sub hb21) u23' hb21;have rp20:=rp.sub ((k17.trans k20).trans k23');have h20:=rp20.map.ex;refine rp20.map.getG hT (hU x) λr b hr hb=>?_;rw[hr];rw[<- hkl0];have nrb:b21≠rb:=λe=>by obtain⟨bs,q,_⟩:=(rp.sub (k17.trans k20)).arr;rw[e,q]at hb21;cases hb21
 obtain⟨bs0,q0,_⟩:=rp20.arr;refine rp20.putU hkx hb λs27 bs sm27 k27 h27 hbl hbs u27=>?_;have h27':s27 b21=some (false,.cells 187 (kf x)):=by rw[u27 _ nrb];exact h23'
 refine qAJ (qAb h27' (hkl x)) ?_;refine sm27.putG hT (hU x) λs24 sm24 u24=>?_;have rp24:RP U s s24 mb rb (rows.map λx=>AV.agg (kf x)) (i+1):=⟨qAa k27 u24 hmb,hmb,hsrb,hne,by rw[List.take_add_one,hkx];exact sm24,bs,by rw[u24 _ (Ne.symm hne)];exact h27,hbl,hbs⟩
 simp only[qAV,qAA];rw[qAc (by omega) (by omega)];exact⟨_,by omega,i+1,rfl,by omega,rfl,rp24⟩
theorem zAC5(hY:Fn0 Y){A:Type}{rows:List A}{rowC:A->List AV}(hl:∀x,(rowC x).length=4)(ho:∀x,qAg (rowC x)=true){key1:AV}{kf:A->List AV}{U:AV->Prop}(hT:KT TP 203 U)(hU:∀x,U (.agg (kf x)))(hkl:∀x,(kf x).length=2)(hko:∀x,qAg (kf x)=true)(hkey:∀(x:A) (s:Hq) (J:AV->Hq->Prop),(∀s',Sub s s'->J (AV.agg (kf x)) s')->funK TP Y key1 [.agg (rowC x)] J s)(hv:SlR 4 s v (rows.map rowC))(hn:rows.length<=4294967296)(hK:∀s' r,Sub s s'->RepR s' r (rows.map λx=>AV.agg (kf x))->K r s'):wC TP Y 127 [v,key1] K s:=by
 refine qGr hY.fr (hY.no _ rfl) ?_;unfold qEj;have hlen:qAQ v=some rows.length:=by rw[hv.len,lMY]
 have hkl0:(rows.map λx=>AV.agg (kf x)).length=rows.length:=lMY _;rw[hlen];simp only[qAA];rw[qPK];intro mb hmb;simp only[nat?_mk,qAA];refine⟨⟨Nat.le_refl _,hn⟩,qAP λrb s9 hrb h9 u9=>?_⟩;have k3:Sub s (hset s mb (false,.map [] 0)):=qIG hmb;have hne:mb≠rb:=λe=>by rw[<- e,qBh]at hrb;cases hrb
 have hsrb:s rb=none:=by rw[qBB (Ne.symm hne)]at hrb;exact hrb
 have hm9:s9 mb=some (false,.map [] 0):=by rw[u9 _ hne,qBh]
 have rp0:RP U s s9 mb rb (rows.map λx=>AV.agg (kf x)) 0:=.start hmb hsrb hne (k3.trans (u9.sub hrb)) hm9 (by rw[hkl0];exact h9);refine⟨λys t m=>∃i:Nat,ys=[.int .i64 (i:Int)]/\i<=rows.length/\m=rows.length-i/\RP U s t mb rb (rows.map λx=>AV.agg (kf x)) i,⟨_,0,rfl,by omega,rfl,rp0⟩,?_⟩;rintro f t m ⟨i,hy,hi,rfl,rp⟩;simp only[cI,and_true]at hy;rw[hy];simp only[qDu,qAS,qAA];refine qAF (λhlt=>?_) (λhge=>?_)
 rotate_left
 ·have hge:i=rows.length:=by have:=oF hge;omega
  subst hge;have:=RP.done (by rw[hkl0];exact rp);rw[hkl0]at this;exact hK t _ rp.keep this
 have hlt:i<rows.length:=by have:=oT hlt;omega
 have hx:rows[i]?=some rows[i]:=gEY hlt;generalize rows[i]=x at hx;obtain⟨pb,po,e1,e2,_⟩:=(hv.sub rp.keep).get (i:=i) (r:=rowC x) (by rw[List.getElem?_map,hx];rfl);have hkx:(rows.map λx=>AV.agg (kf x))[i]?=some (AV.agg (kf x)):=by rw[List.getElem?_map,hx];rfl
 rw[e1];simp only[qAA,e2];refine qAP λb15 s16 hb15 h16 u16=>qAZ h16 (by rw[hl x];rfl) rfl (ho x) λs17 h17 u17=>qAJ (qAb h17 (hl x)) ?_;have k17:Sub t s17:=qAa (u16.sub hb15) u17 hb15;refine hkey x s17 _ λs20 k20=>?_;refine qAP λb21 s22 hb21 h22 u22=>qAZ h22 (by rw[hkl x];rfl) rfl (hko x) λs23 h23' u23'=>qAJ (qAb h23' (hkl x)) ?_;have k23':Sub s20 s23:=qAa (u22.sub hb21) u23' hb21;have rp20:=rp.sub ((k17.trans k20).trans k23');have h20:=rp20.map.ex;refine rp20.map.getG hT (hU x) λr b hr hb=>?_;rw[hr];rw[<- hkl0];have nrb:b21≠rb:=λe=>by obtain⟨bs,q,_⟩:=(rp.sub (k17.trans k20)).arr;rw[e,q]at hb21;cases hb21
 obtain⟨bs0,q0,_⟩:=rp20.arr;refine rp20.putU hkx hb λs27 bs sm27 k27 h27 hbl hbs u27=>?_;have h27':s27 b21=some (false,.cells 203 (kf x)):=by rw[u27 _ nrb];exact h23'
 refine qAJ (qAb h27' (hkl x)) ?_;refine sm27.putG hT (hU x) λs24 sm24 u24=>?_;have rp24:RP U s s24 mb rb (rows.map λx=>AV.agg (kf x)) (i+1):=⟨qAa k27 u24 hmb,hmb,hsrb,hne,by rw[List.take_add_one,hkx];exact sm24,bs,by rw[u24 _ (Ne.symm hne)];exact h27,hbl,hbs⟩
 simp only[qAV,qAA];rw[qAc (by omega) (by omega)];exact⟨_,by omega,i+1,rfl,by omega,rfl,rp24⟩
theorem zAGa(hY:Fn0 Y){A:Type}{rows:List A}{rowC:A->List AV}(hl:∀x,(rowC x).length=4)(ho:∀x,qAg (rowC x)=true){key1:AV}{kf:A->List AV}{U:AV->Prop}(hT:KT TP 144 U)(hU:∀x,U (.agg (kf x)))(hkl:∀x,(kf x).length=4)(hko:∀x,qAg (kf x)=true)(hkey:∀(x:A) (s:Hq) (J:AV->Hq->Prop),(∀s',Sub s s'->J (AV.agg (kf x)) s')->funK TP Y key1 [.agg (rowC x)] J s)(hv:SlR 4 s v (rows.map rowC))(hn:rows.length<=4294967296)(hK:∀s' r,Sub s s'->RepR s' r (rows.map λx=>AV.agg (kf x))->K r s'):wC TP Y 133 [v,key1] K s:=by
 refine qIh hY.fr (hY.no _ rfl) ?_;unfold qGF;have hlen:qAQ v=some rows.length:=by rw[hv.len,lMY]
 have hkl0:(rows.map λx=>AV.agg (kf x)).length=rows.length:=lMY _;rw[hlen];simp only[qAA];rw[qPK];intro mb hmb;simp only[nat?_mk,qAA];refine⟨⟨Nat.le_refl _,hn⟩,qAP λrb s9 hrb h9 u9=>?_⟩;have k3:Sub s (hset s mb (false,.map [] 0)):=qIG hmb;have hne:mb≠rb:=λe=>by rw[<- e,qBh]at hrb;cases hrb
 have hsrb:s rb=none:=by rw[qBB (Ne.symm hne)]at hrb;exact hrb
 have hm9:s9 mb=some (false,.map [] 0):=by rw[u9 _ hne,qBh]
 have rp0:RP U s s9 mb rb (rows.map λx=>AV.agg (kf x)) 0:=.start hmb hsrb hne (k3.trans (u9.sub hrb)) hm9 (by rw[hkl0];exact h9);refine⟨λys t m=>∃i:Nat,ys=[.int .i64 (i:Int)]/\i<=rows.length/\m=rows.length-i/\RP U s t mb rb (rows.map λx=>AV.agg (kf x)) i,⟨_,0,rfl,by omega,rfl,rp0⟩,?_⟩;rintro f t m ⟨i,hy,hi,rfl,rp⟩;simp only[cI,and_true]at hy;rw[hy];simp only[qEy,qAS,qAA];refine qAF (λhlt=>?_) (λhge=>?_)
 rotate_left
 ·have hge:i=rows.length:=by have:=oF hge;omega
  subst hge;have:=RP.done (by rw[hkl0];exact rp);rw[hkl0]at this;exact hK t _ rp.keep this
 have hlt:i<rows.length:=by have:=oT hlt;omega
 have hx:rows[i]?=some rows[i]:=gEY hlt;generalize rows[i]=x at hx;obtain⟨pb,po,e1,e2,_⟩:=(hv.sub rp.keep).get (i:=i) (r:=rowC x) (by rw[List.getElem?_map,hx];rfl);have hkx:(rows.map λx=>AV.agg (kf x))[i]?=some (AV.agg (kf x)):=by rw[List.getElem?_map,hx];rfl
 rw[e1];simp only[qAA,e2];refine qAP λb15 s16 hb15 h16 u16=>qAZ h16 (by rw[hl x];rfl) rfl (ho x) λs17 h17 u17=>qAJ (qAb h17 (hl x)) ?_;have k17:Sub t s17:=qAa (u16.sub hb15) u17 hb15;refine hkey x s17 _ λs20 k20=>?_;refine qAP λb21 s22 hb21 h22 u22=>qAZ h22 (by rw[hkl x];rfl) rfl (hko x) λs23 h23' u23'=>qAJ (qAb h23' (hkl x)) ?_;have k23':Sub s20 s23:=qAa (u22.sub hb21) u23' hb21;have rp20:=rp.sub ((k17.trans k20).trans k23');have h20:=rp20.map.ex;refine rp20.map.getG hT (hU x) λr b hr hb=>?_;rw[hr];rw[<- hkl0];have nrb:b21≠rb:=λe=>by obtain⟨bs,q,_⟩:=(rp.sub (k17.trans k20)).arr;rw[e,q]at hb21;cases hb21
 obtain⟨bs0,q0,_⟩:=rp20.arr;refine rp20.putU hkx hb λs27 bs sm27 k27 h27 hbl hbs u27=>?_;have h27':s27 b21=some (false,.cells 144 (kf x)):=by rw[u27 _ nrb];exact h23'
 refine qAJ (qAb h27' (hkl x)) ?_;refine sm27.putG hT (hU x) λs24 sm24 u24=>?_;have rp24:RP U s s24 mb rb (rows.map λx=>AV.agg (kf x)) (i+1):=⟨qAa k27 u24 hmb,hmb,hsrb,hne,by rw[List.take_add_one,hkx];exact sm24,bs,by rw[u24 _ (Ne.symm hne)];exact h27,hbl,hbs⟩
 simp only[qAV,qAA];rw[qAc (by omega) (by omega)];exact⟨_,by omega,i+1,rfl,by omega,rfl,rp24⟩
end Go.AM.TN
set_option maxRecDepth 100000
namespace Go.AM.TN
open Go Go.Proofs
variable {s s':Hq} {k:AV} {b c:Nat} {Y:Td} {J:AV→Hq→Prop}
theorem k206(a b a' b':Int):qKO TP 187 (.array 2 3) (.agg [.int .i64 a,.int .i64 b]) (.agg [.int .i64 a',.int .i64 b'])=(match mB (some (eqI a a')) (mB (some (eqI b b')) (some true))with
 |some true=>cond (eqI a a'&&(eqI b b'&&true)) (some true) none
 |r=>r):=by kernel_rfl
theorem zAHV:KT TP 187 (λk=>∃a b,k=.agg [.int .i64 a,.int .i64 b]):=by
 refine⟨⟨_,Tryz.underlying187,rfl,?_⟩,?_⟩
 ·rintro k k' ⟨a,b,rfl⟩ ⟨a',b',rfl⟩
  refine⟨decide (a=a'/\b=b'),?_,by simp⟩;rw[k206,qFT,qFT]
  by_cases h1:a=a'
  ·by_cases h2:b=b'
   ·simp[mB,h1,h2]
   ·simp[mB,h1,h2]
  ·simp[mB,h1]
 ·rintro k ⟨a,b,rfl⟩
  have:∀a b:Int,qGj TP 10 187 (.agg [.int .i64 a,.int .i64 b])=true:=λa b=>by kernel_rfl
  exact this a b
theorem k223(a b a' b':Int):qKO TP 203 (.struct #[{ name:="bd",type:=3,offset:=0,embedded:=false,tag:="",pkgPath:="leafmesh/tenant",byteOffset:=0 },{ name:="addr",type:=45,offset:=1,embedded:=false,tag:="",pkgPath:="leafmesh/tenant",byteOffset:=8 }]) (.agg [.int .i64 a,.int .u64 b]) (.agg [.int .i64 a',.int .u64 b'])=(match mB (some (eqI a a')) (mB (some (eqI b b')) (some true))with
 |some true=>cond (eqI a a'&&(eqI b b'&&true)) (some true) none
 |r=>r):=by kernel_rfl
theorem zAFQ:KT TP 203 (λk=>∃a b,k=.agg [.int .i64 a,.int .u64 b]):=by
 refine⟨⟨_,Tryz.underlying203,rfl,?_⟩,?_⟩
 ·rintro k k' ⟨a,b,rfl⟩ ⟨a',b',rfl⟩
  refine⟨decide (a=a'/\b=b'),?_,by simp⟩;rw[k223,qFT,qFT]
  by_cases h1:a=a'
  ·by_cases h2:b=b'
   ·simp[mB,h1,h2]
   ·simp[mB,h1,h2]
  ·simp[mB,h1]
 ·rintro k ⟨a,b,rfl⟩
  have:∀a b:Int,qGj TP 10 203 (.agg [.int .i64 a,.int .u64 b])=true:=λa b=>by kernel_rfl
  exact this a b
theorem k140(a b c d a' b' c' d':Int):qKO TP 144 (.struct #[{ name:="From",type:=3,offset:=0,embedded:=false,tag:="",pkgPath:="",byteOffset:=0 },{ name:="To",type:=3,offset:=1,embedded:=false,tag:="",pkgPath:="",byteOffset:=8 },{ name:="Prefix",type:=71,offset:=2,embedded:=false,tag:="",pkgPath:="",byteOffset:=16 }]) (.agg [.int .i64 a,.int .i64 b,.int .u32 c,.int .i64 d]) (.agg [.int .i64 a',.int .i64 b',.int .u32 c',.int .i64 d'])=(match mB (some (eqI a a')) (mB (some (eqI b b')) (mB (mB (some (eqI c c')) (mB (some (eqI d d')) (some true))) (some true)))with
 |some true=>cond (eqI a a'&&(eqI b b'&&(eqI c c'&&(eqI d d'&&true)))) (some true) none
 |r=>r):=by kernel_rfl
theorem zAG9:KT TP 144 (λk=>∃x,k=.agg (ggC x)):=by
 refine⟨⟨_,Tryz.underlying144,rfl,?_⟩,?_⟩
 ·rintro k k' ⟨⟨a,b,c,d⟩,rfl⟩ ⟨⟨a',b',c',d'⟩,rfl⟩
  refine⟨decide (a=a'/\b=b'/\c=c'/\d=d'),?_,by simp[ggC]⟩;show qKO TP 144 _ (.agg [.int .i64 a,.int .i64 b,.int .u32 c,.int .i64 d]) (.agg [.int .i64 a',.int .i64 b',.int .u32 c',.int .i64 d'])=_;rw[k140,qFT,qFT,qFT,qFT]
  by_cases h1:a=a'
  ·by_cases h2:b=b'
   ·by_cases h3:c=c'
    ·by_cases h4:d=d'
     ·simp[mB,h1,h2,h3,h4]
     ·simp[mB,h1,h2,h3,h4]
    ·simp[mB,h1,h2,h3]
   ·simp[mB,h1,h2]
  ·simp[mB,h1]
 ·rintro k ⟨⟨a,b,c,d⟩,rfl⟩
  have:∀a b c d:Int,qGj TP 10 144 (.agg [.int .i64 a,.int .i64 b,.int .u32 c,.int .i64 d])=true:=λa b c d=>by kernel_rfl
  exact this a b c d
theorem qNb{Y:Td}{f:FuncId}{args:List AV}(hf:isFn TP f=true)(h:wC TP Y f args J s):funK TP Y (.fn (.func f) [] []) args J s:=
 qZ0 hf (by rw[List.nil_append,List.append_nil];exact h)
theorem zACx(hY:Fn0 Y)(x:Int×Int)(s:Hq)(J:AV->Hq->Prop)(hJ:∀s',Sub s s'->J (.int .u32 x.1) s'):funK TP Y (.fn (.func 112) [] []) [.agg (tgC x)] J s:=by refine qNb (by kernel_rfl) (qOd hY.fr (hY.no _ rfl) ⟨rfl,qAP λb s1 hb h1 u1=>?_⟩);have h1:s1 b=some (false,.cells 117 (tgC x)):=h1;have e0:(tgC x)[0]?=some (.int .u32 x.1):=rfl;simp only[qAG,zA,qAA,qAL h1,e0];exact hJ s1 (u1.sub hb)
theorem zADC(hY:Fn0 Y)(x:Int×Int)(s:Hq)(J:AV->Hq->Prop)(hJ:∀s',Sub s s'->J (.int .u32 x.2) s'):funK TP Y (.fn (.func 113) [] []) [.agg (tgC x)] J s:=by refine qNb (by kernel_rfl) (qMR hY.fr (hY.no _ rfl) ⟨rfl,qAP λb s1 hb h1 u1=>?_⟩);have h1:s1 b=some (false,.cells 117 (tgC x)):=h1;have e0:(tgC x)[1]?=some (.int .u32 x.2):=rfl;simp only[qAG,zA,qAA,qAL h1,e0];exact hJ s1 (u1.sub hb)
theorem zAGb(hY:Fn0 Y)(x:BG)(s:Hq)(J:AV->Hq->Prop)(hJ:∀s',Sub s s'->J (.int .u32 x.2.1) s'):funK TP Y (.fn (.func 115) [] []) [.agg (bgC x)] J s:=by refine qNb (by kernel_rfl) (qPT hY.fr (hY.no _ rfl) ⟨rfl,qAP λb s1 hb h1 u1=>?_⟩);have h1:s1 b=some (false,.cells 87 (bgC x)):=h1;have e0:(bgC x)[1]?=some (.int .u32 x.2.1):=rfl;simp only[qAG,zA,qAA,qAL h1,e0];exact hJ s1 (u1.sub hb)
theorem zAGZ(hY:Fn0 Y)(x:BG)(s:Hq)(J:AV->Hq->Prop)(hJ:∀s',Sub s s'->J (.int .u32 x.2.2.1) s'):funK TP Y (.fn (.func 116) [] []) [.agg (bgC x)] J s:=by refine qNb (by kernel_rfl) (qL2 hY.fr (hY.no _ rfl) ⟨rfl,qAP λb s1 hb h1 u1=>?_⟩);have h1:s1 b=some (false,.cells 87 (bgC x)):=h1;have e0:(bgC x)[2]?=some (.int .u32 x.2.2.1):=rfl;simp only[qAG,zA,qAA,qAL h1,e0];exact hJ s1 (u1.sub hb)
theorem zAGP(hY:Fn0 Y)(x:RLk)(s:Hq)(J:AV->Hq->Prop)(hJ:∀s',Sub s s'->J (.agg [.int .i64 x.1,.int .i64 x.2.1]) s'):funK TP Y (.fn (.func 110) [] []) [.agg (lkC x)] J s:=by refine qNb (by kernel_rfl) (qRf hY.fr (hY.no _ rfl) ⟨rfl,qAP λb s1 hb h1 u1=>qAP λb2 s3 hb2 h3 u3=>?_⟩);have h1:s1 b=some (false,.cells 115 (lkC x)):=h1;have k1:=u1.sub hb;have k3:=u3.sub hb2;have e0:(lkC x)[0]?=some (.int .i64 x.1):=rfl;have e1:(lkC x)[1]?=some (.int .i64 x.2.1):=rfl;have h13:=k3 _ _ h1;simp only[qAG,zA,qAA,qAL h13,e0,e1];refine qAJ (a:=[.int .i64 x.1,.int .i64 x.2.1]) rfl (qAZ h3 rfl rfl rfl λs9 h9 u9=>qAJ (qAb h9 rfl) ?_);exact hJ s9 (k1.trans (qAa k3 u9 hb2))
theorem zAFW(hY:Fn0 Y)(x:R4)(s:Hq)(J:AV->Hq->Prop)(hJ:∀s',Sub s s'->J (.agg (ggC x)) s'):funK TP Y (.fn (.func 134) [] []) [.agg (ggC x)] J s:=by refine qNb (by kernel_rfl) (qQ0 hY.fr (hY.no _ rfl) ⟨rfl,qAP λb s1 hb h1 u1=>qAP λb2 s3 hb2 h3 u3=>?_⟩);have h1:s1 b=some (false,.cells 144 (ggC x)):=h1;have k1:=u1.sub hb;have k3:=u3.sub hb2;have h13:=k3 _ _ h1;refine qAJ (qAb h13 rfl) (qAZ h3 rfl rfl rfl λs9 h9 u9=>qAJ (qAb h9 rfl) ?_);exact hJ s9 (k1.trans (qAa k3 u9 hb2))
end Go.AM.TN
set_option maxRecDepth 100000
namespace Go.AM.TN
open Go Go.Proofs
variable {K R:AV→Hq→Prop} {s s':Hq} {y k:AV} {b c:Nat} {Y:Td} {F:FG} {v2 v3 v4 v5 v6 v7:AV} {t:Bool}
theorem zAFM(hY:Fn0 Y)(x:R4)(s:Hq)(J:AV->Hq->Prop)(hJ:∀s',Sub s s'->J (.agg [.int .i64 x.2.2.1,.int .u64 x.1]) s'):funK TP Y (.fn (.func 128) [] []) [.agg (hgC x)] J s:=by refine qNb (by kernel_rfl) (qQ5 hY.fr (hY.no _ rfl) ⟨rfl,qAP λb s1 hb h1 u1=>qAP λb2 s3 hb2 h3 u3=>?_⟩);have h1:s1 b=some (false,.cells 140 (hgC x)):=h1;have k1:=u1.sub hb;have k3:=u3.sub hb2;have e0:(hgC x)[0]?=some (.int .u64 x.1):=rfl;have e2:(hgC x)[2]?=some (.int .i64 x.2.2.1):=rfl;have h13:=k3 _ _ h1;simp only[qAG,zA,qAA,qAL h13,e0,e2];refine qAJ (a:=[.int .i64 x.2.2.1,.int .u64 x.1]) rfl (qAZ h3 rfl rfl rfl λs9 h9 u9=>qAJ (qAb h9 rfl) ?_);exact hJ s9 (k1.trans (qAa k3 u9 hb2))
theorem zAF5(hY:Fn0 Y)(x:R4)(s:Hq)(J:AV->Hq->Prop)(hJ:∀s',Sub s s'->J (.agg [.int .i64 x.2.2.1,.int .u64 (qBF .u64 x.2.1)]) s'):funK TP Y (.fn (.func 129) [] []) [.agg (hgC x)] J s:=by refine qNb (by kernel_rfl) (qR9 hY.fr (hY.no _ rfl) ⟨rfl,qAP λb s1 hb h1 u1=>qAP λb2 s3 hb2 h3 u3=>?_⟩);have h1:s1 b=some (false,.cells 140 (hgC x)):=h1;have k1:=u1.sub hb;have k3:=u3.sub hb2;have e1:(hgC x)[1]?=some (.int .u32 x.2.1):=rfl;have e2:(hgC x)[2]?=some (.int .i64 x.2.2.1):=rfl;have ec:qD2 .u64 (.int .u32 x.2.1)=some (.int .u64 (qBF .u64 x.2.1)):=rfl;have h13:=k3 _ _ h1;simp only[qAG,zA,qAA,qAL h13,e1,e2,ec];refine qAJ (a:=[.int .i64 x.2.2.1,.int .u64 (qBF .u64 x.2.1)]) rfl (qAZ h3 rfl rfl rfl λs9 h9 u9=>qAJ (qAb h9 rfl) ?_);exact hJ s9 (k1.trans (qAa k3 u9 hb2))
theorem qEq{α β γ:Type}{f:α->β}{g:α->γ}(h:∀x y,f x=f y↔g x=g y){l:List α}{x:α}:f x∈l.map f↔g x∈l.map g:=by simp only[List.mem_map];exact⟨λ⟨a,h1,h2⟩=>⟨a,h1,(h a x).1 h2⟩,λ⟨a,h1,h2⟩=>⟨a,h1,(h a x).2 h2⟩⟩
def LkG(F:FG)(x:RLk):Prop:=(0<=x.1/\x.1<F.lf)/\(F.lf<=x.2.1/\x.2.1<F.lf+F.sp)/\1<=x.2.2/\x.2.2<=1000
structure LinksOk(F:FG):Prop where
 n:F.L.length<=128
 row:∀(i:Nat) x,F.L[i]?=some x->LkG F x/\(x.1,x.2.1) ∉ (F.L.take i).map λx=>(x.1,x.2.1)
theorem zABq(hF:FabOk F)(hn:F.L.length<=4294967296)(hc:s c=some (t,.cells 150 (csG F v2 v3 v4 v5 v6 v7)))(hL:FL s F v2 v3 v4 v5 v6 v7)(hK:Kok s (LinksOk F) K)(hR:Rbad s (LinksOk F) R):qAh TP X0 SS 89 [.ptr c 0] K R s:=by
 refine qUt (qMv rfl hc hL λb3 s5 h5 k5=>?_);have hL5:=(hL.sub k5).L;have hlen:qAQ v2=some F.L.length:=by rw[hL5.len,lMY]
 simp only[qAG,zA,qAA,qAL h5,csG2,hlen,qAp];refine qBI (λq=>?_) λq=>hR (λg=>by have:=oT q;have:=g.n;omega) _ _ _ s5 (by omega) k5;have hn128:F.L.length<=128:=by have:=oF q;omega
 simp only[qAL h5,csG2,qAA];refine zAFp X0_0 (rows:=F.L) (rowC:=lkC) (λ_=>rfl) (λ_=>rfl) (kf:=λx=>[.int .i64 x.1,.int .i64 x.2.1]) zAHV (λx=>⟨_,_,rfl⟩) (λ_=>rfl) (λ_=>rfl) (λx s J=>zAGP X0_0 x s J) hL5 (by omega) λs16 again k16 rep=>?_;have h16:=k16 _ _ h5;simp only[qAL h16,csG2,qAA,hlen];have hinj:∀x y:RLk,(AV.agg [.int .i64 x.1,.int .i64 x.2.1]=AV.agg [.int .i64 y.1,.int .i64 y.2.1])↔(x.1,x.2.1)=(y.1,y.2.1):=λx y=>by simp
 refine⟨λys t m=>∃i:Nat,ys=[.int .i64 (i:Int)]/\i<=F.L.length/\m=F.L.length-i/\Sub s16 t/\∀(j:Nat) x,j<i->F.L[j]?=some x->LkG F x/\(x.1,x.2.1) ∉ (F.L.take j).map λx=>(x.1,x.2.1),⟨_,0,rfl,by omega,rfl,.refl _,λj x hj=>by omega⟩,?_⟩;rintro f t m ⟨i,hy,hi,rfl,kt,hall⟩;simp only[cI,and_true]at hy;rw[hy];simp only[qO3,qAS,qAA];refine qAF (λhlt=>?_) (λhge=>?_)
 rotate_left
 ·have hge:i=F.L.length:=by have:=oF hge;omega
  subst hge;exact hK ⟨hn128,λj x hx=>hall j x (gS hx).1 hx⟩ t (k5.trans (k16.trans kt))
 have hlt:i<F.L.length:=by have:=oT hlt;omega
 have hx:F.L[i]?=some F.L[i]:=gEY hlt;generalize F.L[i]=x at hx;obtain⟨pb,po,e1,e2,_⟩:=(hL5.sub (k16.trans kt)).get (i:=i) (r:=lkC x) (by rw[List.getElem?_map,hx];rfl);rw[e1];simp only[qAA,e2];refine qAP λb24 s25 hb24 h25 u25=>qAZ h25 rfl rfl rfl λs26 h26 u26=>?_;have k26:Sub t s26:=qAa (u25.sub hb24) u26 hb24;have h3:=k26 _ _ (kt _ _ h16);have kall:Sub s s26:=k5.trans (k16.trans (kt.trans k26));have a0:(lkC x)[0]?=some (.int .i64 x.1):=rfl;have a1:(lkC x)[1]?=some (.int .i64 x.2.1):=rfl;have a2:(lkC x)[2]?=some (.int .i64 x.2.2):=rfl;have bad:¬LkG F x->¬LinksOk F:=λq g=>q (g.row i x hx).1;have j3:∀(p q:AV) (bd:Bool),qAT p (.bool true) q=some (.bool bd)->(bd=true->¬LkG F x)->(bd=false->LkG F x)->qJD X0 again (.int .i64 (i:Int)) (.int .i64 (i:Int)) p q (λys t m=>∃i:Nat,ys=[.int .i64 (i:Int)]/\i<=F.L.length/\m=F.L.length-i/\Sub s16 t/\∀(j:Nat) x,j<i->F.L[j]?=some x->LkG F x/\(x.1,x.2.1) ∉ (F.L.take j).map λx=>(x.1,x.2.1)) (F.L.length-i) K R s26:=λp q bd h h1 h2=>by
  unfold qJD;rw[h];simp only[qAA];refine qBI (λq1=>?_) λq1=>hR (bad (h1 q1)) _ _ _ s26 (by omega) kall;obtain⟨pp,bb,g1,g2,g3⟩:=(rep.sub (kt.trans k26)).at (j:=i) (k:=.agg [.int .i64 x.1,.int .i64 x.2.1]) (by rw[List.getElem?_map,hx];rfl);rw[<- List.map_take,qEq hinj]at g3;rw[g1];simp only[qAA,g2];refine qBI (λq2=>?_) λq2=>hR (λg=>(g.row i x hx).2 (g3.1 q2)) _ _ _ s26 (by omega) kall;simp only[qAV,qAA];rw[qAc (by omega) (by omega)];refine⟨_,by omega,i+1,rfl,by omega,rfl,kt.trans k26,λj z hj hz=>?_⟩
  by_cases e:j<i
  ·exact hall j z e hz
  ·have:j=i:=by omega
   subst this;rw[hx]at hz;cases hz;exact⟨h2 q1,λq3=>by rw[g3.2 q3]at q2;cases q2⟩
 have j2:∀(p q:AV) (ok:Bool),qAT p q (.bool false)=some (.bool ok)->(ok=false->¬LkG F x)->(ok=true->(0<=x.1/\x.1<F.lf)/\(F.lf<=x.2.1/\x.2.1<F.lf+F.sp))->qI8 X0 again (.int .i64 (i:Int)) (.ptr b24 0) (.int .i64 (i:Int)) p q (λys t m=>∃i:Nat,ys=[.int .i64 (i:Int)]/\i<=F.L.length/\m=F.L.length-i/\Sub s16 t/\∀(j:Nat) x,j<i->F.L[j]?=some x->LkG F x/\(x.1,x.2.1) ∉ (F.L.take j).map λx=>(x.1,x.2.1)) (F.L.length-i) K R s26:=λp q ok h h1 h2=>by
  unfold qI8;rw[h];simp only[qAA,qAX];refine qAF (λq1=>?_) (λq1=>?_)
  ·have hok:ok=false:=by simpa using q1
   exact j3 _ _ true (by rw[q1];rfl) (λ_=>h1 hok) (λq2=>by cases q2)
  ·have hok:ok=true:=by simpa using q1
   simp only[qAG,zA,qAA,qAL h26,a2];refine qB9 X0_0 ?_;exact j3 _ _ (outB x.2.2 1 1000) (by rw[q1];rfl) (λq2 g=>by have:=qAn.2 g.2.2;rw[this]at q2;cases q2) (λq2=>⟨(h2 hok).1,(h2 hok).2,qAn.1 q2⟩)
 have j1:∀(p q:AV) (ok:Bool),qAT p q (.bool false)=some (.bool ok)->(ok=false->¬LkG F x)->(ok=true->(0<=x.1/\x.1<F.lf)/\F.lf<=x.2.1)->qI0 X0 (.ptr b3 0) again (.int .i64 (i:Int)) (.ptr b24 0) (.int .i64 (i:Int)) p q (λys t m=>∃i:Nat,ys=[.int .i64 (i:Int)]/\i<=F.L.length/\m=F.L.length-i/\Sub s16 t/\∀(j:Nat) x,j<i->F.L[j]?=some x->LkG F x/\(x.1,x.2.1) ∉ (F.L.take j).map λx=>(x.1,x.2.1)) (F.L.length-i) K R s26:=λp q ok h h1 h2=>by
  unfold qI0;rw[h];simp only[qAA];refine qAF (λq1=>?_) (λq1=>?_)
  ·have:=hF.lf
   have:=hF.sp;simp only[qAG,zA,qAA,qAL h26,a1,qAL h3,csG0,csG1,qAV,qAS];rw[qAc (by omega) (by omega)];exact j2 _ _ (decide (x.2.1<F.lf+F.sp)) (by rw[q1];rfl) (λq2 g=>by have:=oF q2;have:=g.2.1.2;omega) (λq2=>⟨(h2 q1).1,(h2 q1).2,oT q2⟩)
  ·exact j2 _ _ false (by rw[q1];rfl) (λ_=>h1 q1) (λq2=>by cases q2)
 simp only[qAG,zA,qAA,qAL h26,a0,qAL h3,csG0];refine qHK X0_0 ?_;refine qAF (λq1=>?_) (λq1=>?_)
 ·simp only[qAA,qAL h26,a1,qAL h3,csG0,qAy]
  exact j1 _ _ (decide (F.lf<=x.2.1)) (by rw[q1];rfl) (λq2 g=>by have:=oF q2;have:=g.2.1.1;omega) (λq2=>⟨qMw.1 q1,oT q2⟩)
 ·exact j1 _ _ false (by rw[q1];rfl) (λ_ g=>by have:=qMw.2 g.1;rw[this]at q1;cases q1) (λq2=>by cases q2)
end Go.AM.TN
set_option maxRecDepth 100000
namespace Go.AM.TN
open Go Go.Proofs
variable {K R:AV→Hq→Prop} {s:Hq} {y k:AV} {c:Nat} {F:FG} {v2 v3 v4 v5 v6 v7:AV} {t:Bool}
def TnG(x:Int×Int):Prop:=1<=x.1/\x.1<=16777215/\x.2≠0
structure TenOk(F:FG):Prop where
 n:F.T.length<=16
 row:∀(i:Nat) x,F.T[i]?=some x->TnG x/\x.1 ∉ (F.T.take i).map (·.1)/\x.2 ∉ (F.T.take i).map (·.2)
abbrev InvT(F:FG)(s16:Hq):List AV->Hq->Nat->Prop:=λys t m=>∃i:Nat,ys=[.int .i64 (i:Int)]/\i<=F.T.length/\m=F.T.length-i/\Sub s16 t/\∀(j:Nat) x,j<i->F.T[j]?=some x->TnG x/\x.1 ∉ (F.T.take j).map (·.1)/\x.2 ∉ (F.T.take j).map (·.2)
theorem qXK(hn:F.T.length<=4294967296)(hc:s c=some (t,.cells 150 (csG F v2 v3 v4 v5 v6 v7)))(hL:FL s F v2 v3 v4 v5 v6 v7)(hK:Kok s (TenOk F) K)(hR:Rbad s (TenOk F) R):qAh TP X0 SS 90 [.ptr c 0] K R s:=by
 refine qRi ?_;unfold qQg;have hlen:qAQ v3=some F.T.length:=by rw[hL.T.len,lMY]
 simp only[qCk,qAG,zA,qAA,qAL hc,csG3,hlen,qAp];refine qBI (λq=>?_) λq=>hR (λg=>by have:=oT q;have:=g.n;omega) _ _ _ s (by omega) (.refl _);have hn16:F.T.length<=16:=by have:=oF q;omega
 refine zACt X0_0 (rows:=F.T) (rowC:=tgC) (λ_=>rfl) (λ_=>rfl) (kf:=λx=>x.1) (λx s J=>zACx X0_0 x s J) hL.T (by omega) λs10 vn k10 repv=>?_;refine zACt X0_0 (rows:=F.T) (rowC:=tgC) (λ_=>rfl) (λ_=>rfl) (kf:=λx=>x.2) (λx s J=>zADC X0_0 x s J) (hL.T.sub k10) (by omega) λs12 tg k12 rept=>?_;have hiv:∀x y:Int×Int,(AV.int .u32 x.1=AV.int .u32 y.1)↔x.1=y.1:=λx y=>by simp
 have hit:∀x y:Int×Int,(AV.int .u32 x.2=AV.int .u32 y.2)↔x.2=y.2:=λx y=>by simp
 refine⟨InvT F s12,⟨_,0,rfl,by omega,rfl,.refl _,λj x hj=>by omega⟩,?_⟩;rintro f t m ⟨i,hy,hi,rfl,kt,hall⟩;simp only[cI,and_true]at hy;rw[hy];simp only[qLt,qAS,qAA];refine qAF (λhlt=>?_) (λhge=>?_)
 rotate_left
 ·have hge:i=F.T.length:=by have:=oF hge;omega
  subst hge;exact hK ⟨hn16,λj x hx=>hall j x (gS hx).1 hx⟩ t (k10.trans (k12.trans kt))
 have hlt:i<F.T.length:=by have:=oT hlt;omega
 have hx:F.T[i]?=some F.T[i]:=gEY hlt;generalize F.T[i]=x at hx;obtain⟨pb,po,e1,e2,_⟩:=(hL.T.sub (k10.trans (k12.trans kt))).get (i:=i) (r:=tgC x) (by rw[List.getElem?_map,hx];rfl);rw[e1];simp only[qAA,e2];refine qAP λb18 s19 hb18 h19 u19=>qAZ h19 rfl rfl rfl λs20 h20 u20=>?_;have k20:Sub t s20:=qAa (u19.sub hb18) u20 hb18;have kall:Sub s s20:=k10.trans (k12.trans (kt.trans k20));have a0:(tgC x)[0]?=some (.int .u32 x.1):=rfl;have a1:(tgC x)[1]?=some (.int .u32 x.2):=rfl;have bad:¬TnG x->¬TenOk F:=λq g=>q (g.row i x hx).1;obtain⟨p1,w1,g11,g12,g13⟩:=(repv.sub (k12.trans (kt.trans k20))).at (j:=i) (k:=.int .u32 x.1) (by rw[List.getElem?_map,hx];rfl);obtain⟨p2,w2,g21,g22,g23⟩:=(rept.sub (kt.trans k20)).at (j:=i) (k:=.int .u32 x.2) (by rw[List.getElem?_map,hx];rfl);rw[<- List.map_take,qEq hiv]at g13;rw[<- List.map_take,qEq hit]at g23;have j3:∀(p q:AV) (bd:Bool),qAT p (.bool true) q=some (.bool bd)->(bd=true->¬TenOk F)->(bd=false->TnG x/\x.1 ∉ (F.T.take i).map (·.1)/\x.2 ∉ (F.T.take i).map (·.2))->qG3 X0 (.int .i64 (i:Int)) (.int .i64 (i:Int)) p q (InvT F s12) (F.T.length-i) K R s20:=λp q bd h h1 h2=>by
  unfold qG3;rw[h];simp only[qAA];refine qBI (λq1=>?_) λq1=>hR (h1 q1) _ _ _ s20 (by omega) kall;simp only[qAV,qAA];rw[qAc (by omega) (by omega)];refine⟨_,by omega,i+1,rfl,by omega,rfl,kt.trans k20,λj z hj hz=>?_⟩
  by_cases e:j<i
  ·exact hall j z e hz
  ·have:j=i:=by omega
   subst this;rw[hx]at hz;cases hz;exact h2 q1
 have j2:∀(p q:AV) (bd:Bool),qAT p (.bool true) q=some (.bool bd)->(bd=true->¬TnG x)->(bd=false->TnG x)->qGy X0 vn tg (.int .i64 (i:Int)) (.int .i64 (i:Int)) p q (InvT F s12) (F.T.length-i) K R s20:=λp q bd h h1 h2=>by
  unfold qGy;rw[h];simp only[qAA];refine qBI (λq1=>?_) λq1=>hR (bad (h1 q1)) _ _ _ s20 (by omega) kall;rw[g11];simp only[qAA,g12];refine qAF (λq2=>?_) (λq2=>?_)
  ·exact j3 _ _ true (by rw[q2];rfl) (λ_ g=>(g.row i x hx).2.1 (g13.1 q2)) (λq=>by cases q)
  ·rw[g21]
   simp only[qAA,g22];exact j3 _ _ w2 (by rw[q2];rfl) (λq3 g=>(g.row i x hx).2.2 (g23.1 q3)) (λq3=>⟨h2 q1,λz=>(by rw[g13.2 z]at q2;cases q2),λz=>(by rw[g23.2 z]at q3;cases q3)⟩)
 have j1:∀(p q:AV) (bd:Bool),qAT p (.bool true) q=some (.bool bd)->(bd=true->¬TnG x)->(bd=false->1<=x.1/\x.1<=16777215)->qGo X0 vn tg (.int .i64 (i:Int)) (.ptr b18 0) (.int .i64 (i:Int)) p q (InvT F s12) (F.T.length-i) K R s20:=λp q bd h h1 h2=>by
  unfold qGo;rw[h];simp only[qAA];refine qAF (λq1=>?_) (λq1=>?_)
  ·exact j2 _ _ bd (by rw[q1];rfl) h1 (λq2=>by rw[q1]at q2;cases q2)
  ·simp only[qAG,zA,qAA,qAL h20,a1,qAY,qAU,Bool.false_bne]
   exact j2 _ _ (x.2 == 0) (by rw[q1];rfl) (λq2 g=>g.2.2 (by simpa using q2)) (λq2=>⟨(h2 q1).1,(h2 q1).2,by simpa using q2⟩)
 simp only[qAG,zA,qAA,qAL h20,a0,qAS];refine qAF (λq1=>?_) (λq1=>?_)
 ·exact j1 _ _ true (by rw[q1];rfl) (λ_ g=>by have:=oT q1;have:=g.1;omega) (λq2=>by cases q2)
 ·simp only[qAA,qAp]
  exact j1 _ _ (decide (16777215<x.1)) (by rw[q1];rfl) (λq2 g=>by have:=oT q2;have:=g.2.1;omega) (λq2=>⟨by have:=oF q1;omega,by have:=oF q2;omega⟩)
end Go.AM.TN
set_option maxRecDepth 100000
namespace Go.AM.TN
open Go Go.Proofs
variable {K:AV→Hq→Prop} {s s':Hq} {y:AV} {b:Nat} {Y:Td}
def andU(x y:Int):Int:=qBF .u32 ((BitVec.ofInt 32 x &&& BitVec.ofInt 32 y).toNat:Nat)
def orU(x y:Int):Int:=qBF .u32 ((BitVec.ofInt 32 x |||BitVec.ofInt 32 y).toNat:Nat)
def xorU(x y:Int):Int:=qBF .u32 ((BitVec.ofInt 32 x ^^^ BitVec.ofInt 32 y).toNat:Nat)
theorem qIt{x y:Int}:qAB .and (.int .u32 x) (.int .u32 y)=some (.int .u32 (andU x y)):=by simp only[qAB,arith,qB2,qDj,cond_true];rfl
theorem qYD{x y:Int}:qAB .or (.int .u32 x) (.int .u32 y)=some (.int .u32 (orU x y)):=by simp only[qAB,arith,qB2,qDj,cond_true];rfl
theorem qWg{x y:Int}:qAB .xor (.int .u32 x) (.int .u32 y)=some (.int .u32 (xorU x y)):=by simp only[qAB,arith,qB2,qDj,cond_true];rfl
def shlU(x:Int)(n:Nat):Int:=qBF .u32 (x*((2^(min n 32):Nat):Int))
def mskU(len:Int):Int:=shlU 4294967295 (32-len).toNat
def qGg(len:Int):Bool:=decide (0<=len)&&decide (len<=32)
theorem qMQ{len:Int}:qGg len=true↔0<=len/\len<=32:=by unfold qGg;simp
theorem qV7{x len:Int}(h:len<=32):qDB .shl (.int .u32 x) (.int .i64 (32-len))=some (.int .u32 (shlU x (32-len).toNat)):=by
 obtain⟨n,hn⟩:∃n:Nat,32-len=n:=⟨(32-len).toNat,by omega⟩
 rw[hn];show frc (qBF .u32 (x*((2^(min n (IntKind.bits .u32)):Nat):Int))) (λn=>some (AV.int .u32 n))=_;rw[qB2];rfl
abbrev pfC(ip len:Int):List AV:=[.int .u32 ip,.int .i64 len]
theorem qWN(hY:Fn0 Y){ip len:Int}(hK:∀s',Sub s s'->K (.bool (qGg len)) s'):wC TP Y 174 [.agg (pfC ip len)] K s:=by
 refine qNq hY.fr (hY.no _ rfl) ⟨rfl,qAP λb s1 hb h1 u1=>?_⟩;have h1:s1 b=some (false,.cells 71 (pfC ip len)):=h1;have e1:(pfC ip len)[1]?=some (.int .i64 len):=rfl;have k1:=u1.sub hb;simp only[qAG,zA,qAA,qAL h1,e1,qAy,qBv];have hk:=hK s1 k1;unfold qGg at hk;refine qAF (λe=>?_) (λe=>?_)
 ·rw[e]at hk ⊢;exact hk
 ·rw[e]at hk ⊢;exact hk
theorem qYe(hY:Fn0 Y){len:Int}(h:0<=len/\len<=32)(hK:K (.int .u32 (mskU len)) s):wC TP Y 175 [.int .i64 len] K s:=by refine qPh hY.fr (hY.no _ rfl) ?_;unfold qNG;simp only[qAx,qAA];rw[qAc (by omega) (by omega),qV7 h.2];exact hK
def qCQ(ip len x:Int):Bool:=qGg len&&(andU (xorU ip x) (mskU len) == 0)
theorem qLR(hY:Fn0 Y){ip len x:Int}(hK:∀s',Sub s s'->K (.bool (qCQ ip len x)) s'):wC TP Y 122 [.agg (pfC ip len),.int .u32 x] K s:=by
 refine qLL hY.fr (hY.no _ rfl) ⟨rfl,qAP λb s1 hb h1 u1=>?_⟩;have h1:s1 b=some (false,.cells 71 (pfC ip len)):=h1;have k1:=u1.sub hb;refine qAJ (qAb h1 rfl) (qWN hY λs4 k4=>?_);have h4:=k4 _ _ h1;have e0:(pfC ip len)[0]?=some (.int .u32 ip):=rfl;have e1:(pfC ip len)[1]?=some (.int .i64 len):=rfl;have hk:=hK s4 (k1.trans k4);unfold qCQ at hk;refine qAF (λe=>?_) (λe=>?_)
 ·simp only[qAG,zA,qAA,qAL h4,e0,e1,qWg]
  refine qYe hY (qMQ.1 e) λ_=>?_;rw[e]at hk;simp only[qIt,qAA,qAY,qAU,Bool.false_bne,e,qAN,qPQ];exact hk
 ·rw[e]at hk ⊢
  exact hk
def qFG(ip len:Int):Bool:=qGg len&&(andU ip (mskU len) == ip)
theorem zABy(hY:Fn0 Y){ip len:Int}(h1:qGg len=false->∀s',Sub s s'->K (.tup [.agg (pfC 0 0),.int .i64 2]) s')(h2:qGg len=true->∀s',Sub s s'->K (.tup [.agg (pfC (andU ip (mskU len)) len),.int .i64 0]) s'):wC TP Y 172 [.agg (pfC ip len)] K s:=by
 refine qN0 hY.fr (hY.no _ rfl) ⟨rfl,qAP λb s1 hb q1 u1=>qAP λb2 s3 hb2 q3 u3=>?_⟩;have q1:s1 b=some (false,.cells 71 (pfC ip len)):=q1;have k1:=u1.sub hb;have k3:=u3.sub hb2;refine qAJ (qAb (k3 _ _ q1) rfl) (qWN hY λs6 k6=>?_);have q6:=k6 _ _ (k3 _ _ q1);have z6:=k6 _ _ q3;have e0:(pfC ip len)[0]?=some (.int .u32 ip):=rfl;have e1:(pfC ip len)[1]?=some (.int .i64 len):=rfl;have nb:b≠b2:=λe=>by rw[<- e,q1]at hb2;cases hb2
 have sb2:s b2=none:=qCl k1 hb2;have k06:Sub s s6:=k1.trans (k3.trans k6);simp only[qAX,qAA];refine qAF (λe=>?_) (λe=>?_)
 ·have e:qGg len=false:=by simpa using e
  refine qAJ (a:=[.int .u32 0,.int .i64 0]) rfl (qAZ z6 rfl rfl rfl λs9 h9 u9=>qAJ (qAb h9 rfl) ?_);exact h1 e s9 (qAa k06 u9 sb2)
 ·have e:qGg len=true:=by simpa using e
  simp only[qAG,zA,qAA,qAL q6,e0,e1];refine qYe hY (qMQ.1 e) λ_=>?_;simp only[qIt,qAA,qPQ];refine qCH q6 (by show 0<2;omega) rfl λs19 h19 u19=>qAJ (qAb h19 rfl) ?_;have z19:s19 b2=some (false,.cells 71 [.int .u32 0,.int .i64 0]):=by rw[u19 _ (Ne.symm nb)];exact z6
  refine qAZ z19 rfl rfl rfl λs21 h21 u21=>qAJ (qAb h21 rfl) ?_;exact h2 e s21 (qAa (qAa k06 u19 hb) u21 sb2)
theorem eq41(a l a' l':Int):qLS TP 71 (.agg [.int .u32 a,.int .i64 l]) (.agg [.int .u32 a',.int .i64 l'])=mB (some (eqI a a')) (mB (some (eqI l l')) (some true)):=by kernel_rfl
theorem eq41'{a l a' l':Int}:qLS TP 71 (.agg [.int .u32 a,.int .i64 l]) (.agg [.int .u32 a',.int .i64 l'])=some (a == a'&&l == l'):=by
 rw[eq41,qFT,qFT]
 by_cases h1:a=a'
 ·by_cases h2:l=l'
  ·simp[mB,h1,h2]
  ·simp[mB,h1,h2]
 ·simp[mB,h1]
theorem qVm(hY:Fn0 Y){ip len:Int}(hK:∀s',Sub s s'->K (.bool (qFG ip len)) s'):wC TP Y 118 [.agg (pfC ip len)] K s:=by
 refine qVP hY.fr (hY.no _ rfl) ⟨rfl,qAP λb s1 hb q1 u1=>?_⟩;have q1:s1 b=some (false,.cells 71 (pfC ip len)):=q1;have k1:=u1.sub hb;refine qAJ (qAb q1 rfl) (zABy hY (λe s4 k4=>?_) λe s4 k4=>?_)
 ·refine qAJ (a:=.agg (pfC 0 0)) rfl (qAJ (a:=.int .i64 2) rfl (qAP λb7 s8 hb7 h8 u8=>qAZ h8 rfl rfl rfl λs9 h9 u9=>?_))
  have hk:=hK s9 (k1.trans (k4.trans (qAa (u8.sub hb7) u9 hb7)));unfold qFG at hk;rw[e]at hk;simp only[qAY,qAU,Bool.false_bne,qAA];exact hk
 ·refine qAJ (a:=.agg (pfC (andU ip (mskU len)) len)) rfl (qAJ (a:=.int .i64 0) rfl (qAP λb7 s8 hb7 h8 u8=>qAZ h8 rfl rfl rfl λs9 h9 u9=>?_))
  have k9:Sub s4 s9:=qAa (u8.sub hb7) u9 hb7;have hk:=hK s9 (k1.trans (k4.trans k9));unfold qFG at hk;rw[e]at hk;have q9:=k9 _ _ (k4 _ _ q1);simp only[qAY,qAU,Bool.false_bne,qAA];show qAK (.bool true) _ _;rw[qAI];refine qAJ (qAb h9 rfl) (qAJ (qAb q9 rfl) ?_);rw[eq41'];simp only[qAU,Bool.false_bne,qAA];have:(andU ip (mskU len) == ip&&len == len)=(andU ip (mskU len) == ip):=by simp
  rw[this];exact hk
def qS9(ip len:Int):Int:=orU ip (IntKind.u32.wrap (shlU 1 (32-len).toNat-1))
def qLK(ip len x:Int):Bool:=qCQ ip len x&&(x != ip)&&(x != qS9 ip len)
theorem qV5(hY:Fn0 Y){ip len x:Int}(h:-1000<=len/\len<=32)(hK:∀s',Sub s s'->K (.bool (qLK ip len x)) s'):wC TP Y 119 [.agg (pfC ip len),.int .u32 x] K s:=by
 refine qVN hY.fr (hY.no _ rfl) ⟨rfl,qAP λb s1 hb q1 u1=>?_⟩;have q1:s1 b=some (false,.cells 71 (pfC ip len)):=q1;have k1:=u1.sub hb;have e0:(pfC ip len)[0]?=some (.int .u32 ip):=rfl;have e1:(pfC ip len)[1]?=some (.int .i64 len):=rfl;simp only[qAG,zA,qAA,qAL q1,e0,e1,qAx];rw[qAc (by omega) (by omega),qV7 h.2];simp only[qAx,qAA,qYD];refine qAJ (qAb q1 rfl) (qLR hY λs12 k12=>?_);have q12:=k12 _ _ q1;have hk:=hK s12 (k1.trans k12);unfold qLK at hk;have hl:orU ip (IntKind.u32.wrap (shlU 1 (32-len).toNat-1))=qS9 ip len:=rfl;rw[hl];refine qAF (λe=>?_) (λe=>?_)
 ·simp only[qAA,qAL q12,e0,qAY,qAU,Bool.true_bne]
  rw[e]at hk ⊢;simp only[qLT,qAN,qAA];have e2:(!(x == ip))=(x != ip):=rfl;rw[e2];refine qAF (λe3=>?_) (λe3=>?_)
  ·rw[e3]at hk ⊢
   simp only[qAY,qAU,Bool.true_bne,qAA,qLl,qAN];exact hk
  ·rw[e3]at hk ⊢
   exact hk
 ·rw[e]at hk ⊢
  exact hk
end Go.AM.TN
set_option maxRecDepth 100000
namespace Go.AM.TN
open Go Go.Proofs
variable {K:AV→Hq→Prop} {s s':Hq} {v k:AV} {b:Nat} {Y:Td} {t:Bool} {J:AV→Hq→Prop}
def fstI{A:Type}(p:A->Bool)(l:List A):Int:=match l.findIdx? p with
 |some i=>(i:Int)
 |none=>-1
theorem qSC{A:Type}{p:A->Bool}{l:List A}:decide (0<=fstI p l)=l.any p:=by
 unfold fstI;cases h:l.findIdx? p with
 | none=>
   have:=List.findIdx?_eq_none_iff.1 h;have e:l.any p=false:=by rw[List.any_eq_false];exact λx hx=>by rw[this x hx];simp
   rw[e];rfl
 | some i=>
   obtain⟨hi,hp,_⟩:=List.findIdx?_eq_some_iff_getElem.1 h;have e:l.any p=true:=List.any_eq_true.2 ⟨l[i],List.getElem_mem hi,hp⟩;rw[e];show decide ((0:Int)<=(i:Int))=true;exact decide_eq_true (by omega)
theorem qOG{A:Type}{p:A->Bool}{l:List A}{i:Nat}{x:A}(hx:l[i]?=some x)(hp:p x=true)(hb:∀j z,j<i->l[j]?=some z->p z=false):fstI p l=i:=by unfold fstI;obtain⟨hi,e⟩:=gS hx;have:l.findIdx? p=some i:=List.findIdx?_eq_some_iff_getElem.2 ⟨hi,by rw[e];exact hp,λj hj=>by rw[hb j l[j] hj (gEY (by omega))];simp⟩;rw[this]
theorem qMP{A:Type}{p:A->Bool}{l:List A}(hb:∀(j:Nat) z,l[j]?=some z->p z=false):fstI p l=-1:=by
 unfold fstI;have:l.findIdx? p=none:=List.findIdx?_eq_none_iff.2 λx hx=>by obtain⟨j,hj⟩:=List.getElem?_of_mem hx;exact hb j x hj
 rw[this]
theorem qW4(hY:Fn0 Y){p:BG->Bool}{rows:List BG}{fv:AV}(hn:rows.length<=4294967296)(hv:SlR 6 s v (rows.map bgC))(hp:∀(x:BG) (s1:Hq) (J:AV->Hq->Prop),Sub s s1->(∀s',Sub s1 s'->J (.bool (p x)) s')->funK TP Y fv [.agg (bgC x)] J s1)
  (hK:∀s',Sub s s'->K (.int .i64 (fstI p rows)) s'):wC TP Y 173 [v,fv] K s:=by
 refine qFd hY.fr (hY.no _ rfl) ?_;unfold qDe;have hlen:qAQ v=some rows.length:=by rw[hv.len,lMY]
 rw[hlen];simp only[qAA];refine⟨λys t m=>∃i:Nat,ys=[.int .i64 (i:Int)]/\i<=rows.length/\m=rows.length-i/\Sub s t/\∀j z,j<i->rows[j]?=some z->p z=false,⟨_,0,rfl,by omega,rfl,.refl _,λj z hj=>by omega⟩,?_⟩;rintro f t m ⟨i,hy,hi,rfl,kt,hall⟩;simp only[cI,and_true]at hy;rw[hy];simp only[qCz,qAS,qAA];refine qAF (λhlt=>?_) (λhge=>?_)
 rotate_left
 ·have hge:i=rows.length:=by have:=oF hge;omega
  subst hge;have:=hK t kt;rw[qMP λj z hz=>hall j z (gS hz).1 hz]at this;exact this
 have hlt:i<rows.length:=by have:=oT hlt;omega
 have hx:rows[i]?=some rows[i]:=gEY hlt;generalize rows[i]=x at hx;obtain⟨pb,po,e1,e2,_⟩:=(hv.sub kt).get (i:=i) (r:=bgC x) (by rw[List.getElem?_map,hx];rfl);rw[e1];simp only[qAA,e2];refine hp x t _ kt λs6 k6=>?_;refine qAF (λq=>?_) (λq=>?_)
 ·have:=hK s6 (kt.trans k6)
  rw[qOG hx q hall]at this;exact this
 ·simp only[qAV,qAA]
  rw[qAc (by omega) (by omega)];refine⟨_,by omega,i+1,rfl,by omega,rfl,kt.trans k6,λj z hj hz=>?_⟩
  by_cases e:j<i
  ·exact hall j z e hz
  ·have:j=i:=by omega
   subst this;rw[hx]at hz;cases hz;exact q
theorem qX2(hY:Fn0 Y){p:Int×Int->Bool}{rows:List (Int×Int)}{fv:AV}(hn:rows.length<=4294967296)(hv:SlR 2 s v (rows.map tgC))(hp:∀(x:Int×Int) (s1:Hq) (J:AV->Hq->Prop),Sub s s1->(∀s',Sub s1 s'->J (.bool (p x)) s')->funK TP Y fv [.agg (tgC x)] J s1)
  (hK:∀s',Sub s s'->K (.int .i64 (fstI p rows)) s'):wC TP Y 198 [v,fv] K s:=by
 refine qD3 hY.fr (hY.no _ rfl) ?_;unfold qCG;have hlen:qAQ v=some rows.length:=by rw[hv.len,lMY]
 rw[hlen];simp only[qAA];refine⟨λys t m=>∃i:Nat,ys=[.int .i64 (i:Int)]/\i<=rows.length/\m=rows.length-i/\Sub s t/\∀j z,j<i->rows[j]?=some z->p z=false,⟨_,0,rfl,by omega,rfl,.refl _,λj z hj=>by omega⟩,?_⟩;rintro f t m ⟨i,hy,hi,rfl,kt,hall⟩;simp only[cI,and_true]at hy;rw[hy];simp only[qBz,qAS,qAA];refine qAF (λhlt=>?_) (λhge=>?_)
 rotate_left
 ·have hge:i=rows.length:=by have:=oF hge;omega
  subst hge;have:=hK t kt;rw[qMP λj z hz=>hall j z (gS hz).1 hz]at this;exact this
 have hlt:i<rows.length:=by have:=oT hlt;omega
 have hx:rows[i]?=some rows[i]:=gEY hlt;generalize rows[i]=x at hx;obtain⟨pb,po,e1,e2,_⟩:=(hv.sub kt).get (i:=i) (r:=tgC x) (by rw[List.getElem?_map,hx];rfl);rw[e1];simp only[qAA,e2];refine hp x t _ kt λs6 k6=>?_;refine qAF (λq=>?_) (λq=>?_)
 ·have:=hK s6 (kt.trans k6)
  rw[qOG hx q hall]at this;exact this
 ·simp only[qAV,qAA]
  rw[qAc (by omega) (by omega)];refine⟨_,by omega,i+1,rfl,by omega,rfl,kt.trans k6,λj z hj hz=>?_⟩
  by_cases e:j<i
  ·exact hall j z e hz
  ·have:j=i:=by omega
   subst this;rw[hx]at hz;cases hz;exact q
theorem qYm(hY:Fn0 Y){p:Int->Bool}{l:List Int}{fv:AV}(hn:l.length<=4294967296)(hv:Sl s v (ix l))(hp:∀(x:Int) (s1:Hq) (J:AV->Hq->Prop),Sub s s1->(∀s',Sub s1 s'->J (.bool (p x)) s')->funK TP Y fv [.int .i64 x] J s1)
  (hK:∀s',Sub s s'->K (.int .i64 (fstI p l)) s'):wC TP Y 176 [v,fv] K s:=by
 refine qHe hY.fr (hY.no _ rfl) ?_;unfold qFJ;have hlen:qAQ v=some l.length:=by rw[hv.len,qCR]
 rw[hlen];simp only[qAA];refine⟨λys t m=>∃i:Nat,ys=[.int .i64 (i:Int)]/\i<=l.length/\m=l.length-i/\Sub s t/\∀j z,j<i->l[j]?=some z->p z=false,⟨_,0,rfl,by omega,rfl,.refl _,λj z hj=>by omega⟩,?_⟩;rintro f t m ⟨i,hy,hi,rfl,kt,hall⟩;simp only[cI,and_true]at hy;rw[hy];simp only[qEY,qAS,qAA];refine qAF (λhlt=>?_) (λhge=>?_)
 rotate_left
 ·have hge:i=l.length:=by have:=oF hge;omega
  subst hge;have:=hK t kt;rw[qMP λj z hz=>hall j z (gS hz).1 hz]at this;exact this
 have hlt:i<l.length:=by have:=oT hlt;omega
 obtain⟨pp,g1,g2⟩:=(hv.sub kt).get (i:=i) (by rw[qCR];exact hlt);rw[qJk hlt]at g2;have hx:l[i]?=some l[i]:=gEY hlt;generalize l[i]=x at hx g2;rw[g1];simp only[qAA,g2];refine hp x t _ kt λs6 k6=>?_;refine qAF (λq=>?_) (λq=>?_)
 ·have:=hK s6 (kt.trans k6)
  rw[qOG hx q hall]at this;exact this
 ·simp only[qAV,qAA]
  rw[qAc (by omega) (by omega)];refine⟨_,by omega,i+1,rfl,by omega,rfl,kt.trans k6,λj z hj hz=>?_⟩
  by_cases e:j<i
  ·exact hall j z e hz
  ·have:j=i:=by omega
   subst this;rw[hx]at hz;cases hz;exact q
theorem qR2(hY:Fn0 Y){p:BG->Bool}{rows:List BG}{fv:AV}(hn:rows.length<=4294967296)(hv:SlR 6 s v (rows.map bgC))(hp:∀(x:BG) (s1:Hq) (J:AV->Hq->Prop),Sub s s1->(∀s',Sub s1 s'->J (.bool (p x)) s')->funK TP Y fv [.agg (bgC x)] J s1)
  (hK:∀s',Sub s s'->K (.bool (rows.any p)) s'):wC TP Y 120 [v,fv] K s:=by
 refine qEo hY.fr (hY.no _ rfl) ?_;unfold qC2;refine qW4 hY hn hv hp λs' k=>?_;simp only[qAy,qAA,qSC];exact hK s' k
theorem qRq(hY:Fn0 Y){p:Int×Int->Bool}{rows:List (Int×Int)}{fv:AV}(hn:rows.length<=4294967296)(hv:SlR 2 s v (rows.map tgC))(hp:∀(x:Int×Int) (s1:Hq) (J:AV->Hq->Prop),Sub s s1->(∀s',Sub s1 s'->J (.bool (p x)) s')->funK TP Y fv [.agg (tgC x)] J s1)
  (hK:∀s',Sub s s'->K (.bool (rows.any p)) s'):wC TP Y 170 [v,fv] K s:=by
 refine qDX hY.fr (hY.no _ rfl) ?_;unfold qBy;refine qX2 hY hn hv hp λs' k=>?_;simp only[qAy,qAA,qSC];exact hK s' k
theorem qNO(hY:Fn0 Y){p:Int->Bool}{l:List Int}{fv:AV}(hn:l.length<=4294967296)(hv:Sl s v (ix l))(hp:∀(x:Int) (s1:Hq) (J:AV->Hq->Prop),Sub s s1->(∀s',Sub s1 s'->J (.bool (p x)) s')->funK TP Y fv [.int .i64 x] J s1)
  (hK:∀s',Sub s s'->K (.bool (l.any p)) s'):wC TP Y 123 [v,fv] K s:=by
 refine qGX hY.fr (hY.no _ rfl) ?_;unfold qEX;refine qYm hY hn hv hp λs' k=>?_;simp only[qAy,qAA,qSC];exact hK s' k
theorem qSW(hY:Fn0 Y){kf:Int×Int->Int}{rows:List (Int×Int)}{g:FuncId}{n:Int}(hn:rows.length<=4294967296)(hv:SlR 2 s v (rows.map tgC))(hg:∀(x:Int×Int) (s:Hq) (J:AV->Hq->Prop),(∀s',Sub s s'->J (.int .u32 (kf x)) s')->funK TP Y (.fn (.func g) [] []) [.agg (tgC x)] J s)
  (hK:∀s',Sub s s'->K (.bool (rows.any λx=>kf x == n)) s'):wC TP Y 117 [v,.fn (.func g) [] [],.int .u32 n] K s:=by
 refine qG1 hY.fr (hY.no _ rfl) (qN9 rfl λb0 s1 hb0 h1 u1=>qN9 rfl λb2 s3 hb2 h3 u3=>?_);have k1:=u1.sub hb0;have k3:=u3.sub hb2;refine qRq hY (p:=λx=>kf x == n) hn (hv.sub (k1.trans k3)) (λx sA J kA hJ=>?_) λs' k=>hK s' ((k1.trans k3).trans k);refine qZ0 (by kernel_rfl) (qGH hY.fr (hY.no _ rfl) ⟨rfl,qAP λb s5 hb h5 u5=>?_⟩);have h5:s5 b=some (false,.cells 117 (tgC x)):=h5;have k5:=u5.sub hb;have e0:[AV.fn (.func g) [] []][0]?=some (.fn (.func g) [] []):=rfl;have h15:=k5 _ _ (kA _ _ (k3 _ _ h1));have h35:=k5 _ _ (kA _ _ h3);simp only[qAL h15,e0,qAA];refine qAJ (qAb h5 rfl) (hg x (frz s5) _ λs6 k6 _=>?_);have h36:cutH [(s5,add s5 s6)] (add s5 s6) b2=some (false,.cells 41 [.int .u32 n]):=qRs h35 (qAi h35);have e1:[AV.int .u32 n][0]?=some (.int .u32 n):=rfl;simp only[qAL h36,e1,qAA,qAY,qAU,Bool.false_bne];exact hJ _ (k5.trans qLN)
def qPP(b x:BG):Bool:=(x.1 == b.1)&&(x.2.2.2.2.2 != 0)&&(qCQ x.2.2.2.1 x.2.2.2.2.1 b.2.2.2.1||qCQ b.2.2.2.1 b.2.2.2.2.1 x.2.2.2.1)
theorem zAE4(hY:Fn0 Y){d x:BG}{cb:Nat}{t:Bool}(hd:s cb=some (t,.cells 87 (bgC d)))(hJ:∀s',Sub s s'->J (.bool (qPP d x)) s'):funK TP Y (.fn (.func 121) [] [.ptr cb 0]) [.agg (bgC x)] J s:=by
 refine qZ0 (by kernel_rfl) (qPR hY.fr (hY.no _ rfl) ⟨rfl,qAP λb s1 hb h1 u1=>?_⟩);have h1:s1 b=some (false,.cells 87 (bgC x)):=h1;have k1:=u1.sub hb;have hd1:=k1 _ _ hd;have a0:(bgC x)[0]?=some (.int .i64 x.1):=rfl;have a3:(bgC x)[3]?=some (.int .u32 x.2.2.2.1):=rfl;have a5:(bgC x)[5]?=some (.int .u32 x.2.2.2.2.2):=rfl;have d0:(bgC d)[0]?=some (.int .i64 d.1):=rfl;have d3:(bgC d)[3]?=some (.int .u32 d.2.2.2.1):=rfl;have rx:∀{s2:Hq},Sub s1 s2->rdN s2 2 (.ptr b 3)=some (pfC x.2.2.2.1 x.2.2.2.2.1):=fun {s2} q=>by simp only[rdN,q _ _ h1];rfl
 have rd:∀{s2:Hq},Sub s1 s2->rdN s2 2 (.ptr cb 3)=some (pfC d.2.2.2.1 d.2.2.2.2.1):=fun {s2} q=>by simp only[rdN,q _ _ hd1];rfl
 simp only[qAG,zA,qAA,qAL h1,qAL hd1,a0,d0,qAY,qAU,Bool.false_bne];unfold qPP at hJ;have j0:∀(p q:AV) (ok:Bool),qAT p q (.bool false)=some (.bool ok)->((x.1 == d.1)&&(x.2.2.2.2.2 != 0))=ok->qFM Y (.ptr cb 0) (.ptr b 0) p q J s1:=λp q ok h he=>by
  unfold qFM;rw[h];rw[he]at hJ;simp only[qAA];refine qAF (λe=>?_) (λe=>?_)
  ·simp only[qAG,zA,qAA,qAL hd1,d3,rx (.refl _)]
   refine qLR hY λs14 k14=>?_;refine qAF (λe2=>?_) (λe2=>?_)
   ·have:=hJ s14 (k1.trans k14)
    rw[e,e2]at this;rw[e,e2];exact this
   ·have h14:=k14 _ _ h1
    simp only[qAA,qAL h14,a3,rd k14];refine qLR hY λs23 k23=>?_;have:=hJ s23 (k1.trans (k14.trans k23));rw[e,e2]at this;rw[e,e2];exact this
  ·have:=hJ s1 k1
   rw[e]at this;rw[e];exact this
 refine qAF (λe=>?_) (λe=>?_)
 ·simp only[qAA,a5,qAY,qAU,Bool.true_bne]
  exact j0 _ _ (!(x.2.2.2.2.2 == 0)) (by rw[e];rfl) (by rw[e];rfl)
 ·exact j0 _ _ false (by rw[e];rfl) (by rw[e];rfl)
end Go.AM.TN
set_option maxRecDepth 100000
namespace Go.AM.TN
open Go Go.Proofs
variable {K R:AV→Hq→Prop} {s:Hq} {v y k:AV} {c:Nat} {F:FG} {v2 v3 v4 v5 v6 v7:AV} {t:Bool} {J:AV→Hq→Prop}
theorem RepR.addf{s2:Hq}{ks:List AV}(h:RepR s2 v ks)(hs:Sub (AM.frz s) s2):RepR (add s s2) v ks:=by obtain⟨bs,h1,h2,h3⟩:=h.ex;exact⟨bs,h1.addf hs,h2,h3⟩
def BdG(F:FG)(x:BG):Prop:=(0<=x.1/\x.1<(F.T.length:Int))/\(1<=x.2.1/\x.2.1<=16777215)/\x.2.2.1≠0
def BdS(F:FG)(i:Nat)(x:BG):Prop:=(x.2.2.2.2.2=0->x.2.2.2.1=0/\x.2.2.2.2.1=0)/\(x.2.2.2.2.2≠0->qFG x.2.2.2.1 x.2.2.2.2.1=true/\(8<=x.2.2.2.2.1/\x.2.2.2.2.1<=30)/\qLK x.2.2.2.1 x.2.2.2.2.1 x.2.2.2.2.2=true/\(F.B.take i).any (qPP x)=false)
structure BdRow(F:FG)(i:Nat)(x:BG):Prop where
 g:BdG F x
 vn:x.2.1 ∉ (F.B.take i).map (·.2.1)
 tg:x.2.2.1 ∉ (F.B.take i).map (·.2.2.1)
 tv:F.T.any (λy=>y.1 == x.2.1)=false
 tt:F.T.any (λy=>y.2 == x.2.2.1)=false
 s:BdS F i x
structure DomOk(F:FG):Prop where
 n:F.B.length<=32
 row:∀(i:Nat) x,F.B[i]?=some x->BdRow F i x
abbrev InvB(F:FG)(s20:Hq):List AV->Hq->Nat->Prop:=λys t m=>∃i:Nat,ys=[.int .i64 (i:Int)]/\i<=F.B.length/\m=F.B.length-i/\Sub s20 t/\∀(j:Nat) x,j<i->F.B[j]?=some x->BdRow F j x
theorem qXs(hT:F.T.length<=16)(hn:F.B.length<=4294967296)(hc:s c=some (t,.cells 150 (csG F v2 v3 v4 v5 v6 v7)))(hL:FL s F v2 v3 v4 v5 v6 v7)(hK:Kok s (DomOk F) K)(hR:Rbad s (DomOk F) R):qAh TP X0 SS 91 [.ptr c 0] K R s:=by
 refine qRr (qMv rfl hc hL λb3 s5 h5 k5=>?_);have hL5:=(hL.sub k5).B;have hlen:qAQ v4=some F.B.length:=by rw[hL5.len,lMY]
 simp only[qAG,zA,qAA,qAL h5,csG4,hlen,qAp];refine qBI (λq=>?_) λq=>hR (λg=>by have:=oT q;have:=g.n;omega) _ _ _ s5 (by omega) k5;have hn32:F.B.length<=32:=by have:=oF q;omega
 simp only[qAL h5,csG4,qAA];refine zACi X0_0 (rows:=F.B) (rowC:=bgC) (λ_=>rfl) (λ_=>rfl) (kf:=λx=>x.2.1) (λx s J=>zAGb X0_0 x s J) hL5.frz (by omega) λs16 vn k16 repv=>?_;intro _;have h516:cutH [(s5,add s5 s16)] (add s5 s16) b3=some (false,.cells 31 (csG F v2 v3 v4 v5 v6 v7)):=qRs h5 (qAi h5);have repv':=repv.addf k16;have ka:Sub s5 (add s5 s16):=qLN;simp only[qAL h516,csG4,qAA];generalize add s5 s16=s17 at repv' ka ⊢;refine zACi X0_0 (rows:=F.B) (rowC:=bgC) (λ_=>rfl) (λ_=>rfl) (kf:=λx=>x.2.2.1) (λx s J=>zAGZ X0_0 x s J) (hL5.sub ka) (by omega) λs20 tg k20 rept=>?_;have h20:=k20 _ _ (ka _ _ h5);have k520:Sub s5 s20:=ka.trans k20;simp only[qAL h20,csG4,qAA,hlen];have hiv:∀x y:BG,(AV.int .u32 x.2.1=AV.int .u32 y.2.1)↔x.2.1=y.2.1:=λx y=>by simp
 have hit:∀x y:BG,(AV.int .u32 x.2.2.1=AV.int .u32 y.2.2.1)↔x.2.2.1=y.2.2.1:=λx y=>by simp
 refine⟨InvB F s20,⟨_,0,rfl,by omega,rfl,.refl _,λj x hj=>by omega⟩,?_⟩;rintro f t m ⟨i,hy,hi,rfl,kt,hall⟩;simp only[cI,and_true]at hy;rw[hy];simp only[qMH,qAS,qAA];refine qAF (λhlt=>?_) (λhge=>?_)
 rotate_left
 ·have hge:i=F.B.length:=by have:=oF hge;omega
  subst hge;exact hK ⟨hn32,λj x hx=>hall j x (gS hx).1 hx⟩ t (k5.trans (k520.trans kt))
 have hlt:i<F.B.length:=by have:=oT hlt;omega
 have hx:F.B[i]?=some F.B[i]:=gEY hlt;generalize F.B[i]=x at hx;obtain⟨pb,po,e1,e2,_⟩:=(hL5.sub (k520.trans kt)).get (i:=i) (r:=bgC x) (by rw[List.getElem?_map,hx];rfl);rw[e1];simp only[qAA,e2];refine qAP λb29 s30 hb29 h30 u30=>qAZ h30 rfl rfl rfl λs31 h31 u31=>?_;have k31:Sub t s31:=qAa (u30.sub hb29) u31 hb29;have kall:Sub s s31:=k5.trans (k520.trans (kt.trans k31));have h3:s31 b3=some (false,.cells 31 (csG F v2 v3 v4 v5 v6 v7)):=k31 _ _ (kt _ _ h20);have hL3:FL s31 F v2 v3 v4 v5 v6 v7:=hL.sub kall;have lenT:qAQ v3=some F.T.length:=by rw[hL.T.len,lMY]
 have a0:(bgC x)[0]?=some (.int .i64 x.1):=rfl;have a1:(bgC x)[1]?=some (.int .u32 x.2.1):=rfl;have a2:(bgC x)[2]?=some (.int .u32 x.2.2.1):=rfl;have a4:(bgC x)[4]?=some (.int .i64 x.2.2.2.2.1):=rfl;have a5:(bgC x)[5]?=some (.int .u32 x.2.2.2.2.2):=rfl;have rx:∀{s2:Hq},Sub s31 s2->rdN s2 2 (.ptr b29 3)=some (pfC x.2.2.2.1 x.2.2.2.2.1):=fun {s2} q=>by simp only[rdN,q _ _ h31];rfl
 obtain⟨p1,w1,g11,g12,g13⟩:=(repv'.sub (k20.trans (kt.trans k31))).at (j:=i) (k:=.int .u32 x.2.1) (by rw[List.getElem?_map,hx];rfl);obtain⟨p2,w2,g21,g22,g23⟩:=(rept.sub (kt.trans k31)).at (j:=i) (k:=.int .u32 x.2.2.1) (by rw[List.getElem?_map,hx];rfl);rw[<- List.map_take,qEq hiv]at g13;rw[<- List.map_take,qEq hit]at g23;have j1:BdRow F i x->∀{s2:Hq},Sub s31 s2->qG9 X0 (.int .i64 (i:Int)) (InvB F s20) (F.B.length-i) K R s2:=λok {s2} k2=>by
  unfold qG9;simp only[qAV,qAA];rw[qAc (by omega) (by omega)];refine⟨_,by omega,i+1,rfl,by omega,rfl,kt.trans (k31.trans k2),λj z hj hz=>?_⟩
  by_cases e:j<i
  ·exact hall j z e hz
  ·have:j=i:=by omega
   subst this;rw[hx]at hz;cases hz;exact ok
 have hbad:∀{s2:Hq},¬BdRow F i x->Sub s31 s2->∀(e:Int) (p:ByteArray) (i:Int),e≠0->R (flV e p i) s2:=fun {s2} q k2 e p i he=>hR (λg=>q (g.row _ x hx)) e p i s2 he (kall.trans k2);have j8:∀(p q:AV) (bd:Bool),qAT p (.bool true) q=some (.bool bd)->(bd=true->¬BdRow F i x)->(bd=false->(8<=x.2.2.2.2.1/\x.2.2.2.2.1<=30)/\qFG x.2.2.2.1 x.2.2.2.2.1=true)->x.2.2.2.2.2≠0->(BdS F i x->BdRow F i x)->∀{s2:Hq},Sub s31 s2->qGx X0 (.ptr b3 0) (.int .i64 (i:Int)) (.ptr b29 0) (.int .i64 (i:Int)) p q (InvB F s20) (F.B.length-i) K R s2:=λp q bd h h1 h2 hg ok {s2} k2=>by
  unfold qGx;rw[h];simp only[qAA];refine qBI (λq1=>?_) λq1=>hbad (h1 q1) k2 _ _ _ (by omega);obtain⟨m1,m2⟩:=h2 q1;have h31':=k2 _ _ h31;simp only[qAG,zA,qAA,rx k2,qAL h31',a5];refine qV5 X0_0 (by omega) λs75 k75=>?_;simp only[qAX,qAA];refine qBI (λq2=>?_) λq2=>hbad (λg=>by have:=(g.s.2 hg).2.2.1;rw[this]at q2;cases q2) (k2.trans k75) _ _ _ (by omega);have q2:qLK x.2.2.2.1 x.2.2.2.2.1 x.2.2.2.2.2=true:=by simpa using q2
  have h3':=k75 _ _ (k2 _ _ h3);simp only[qAL h3',csG4,qAA];obtain⟨v',z1,z2,_⟩:=(hL3.B.sub (k2.trans k75)).take (k:=i) (by rw[lMY];omega) (λe=>by have:=congrArg List.length e;rw[lMY,List.length_nil]at this;omega);rw[<- List.map_take]at z2;rw[z1];simp only[qAA];refine qR2 X0_0 (p:=qPP x) (by rw[List.length_take];omega) z2 (λz sA J kA hJ=>zAE4 X0_0 (kA _ _ (k75 _ _ h31')) hJ) λs83 k83=>?_;refine qBI (λq3=>?_) λq3=>hbad (λg=>by have:=(g.s.2 hg).2.2.2;rw[this]at q3;cases q3) ((k2.trans k75).trans k83) _ _ _ (by omega);exact j1 (ok ⟨λe=>absurd e hg,λ_=>⟨m2,m1,q2,q3⟩⟩) ((k2.trans k75).trans k83)
 have j7:∀(p q:AV) (bd:Bool),qAT p (.bool true) q=some (.bool bd)->(bd=true->¬BdRow F i x)->(bd=false->BdS F i x->BdRow F i x)->∀{s2:Hq},Sub s31 s2->qG6 X0 (.ptr b3 0) (.int .i64 (i:Int)) (.ptr b29 0) (.int .i64 (i:Int)) p q (InvB F s20) (F.B.length-i) K R s2:=λp q bd h h1 h2 {s2} k2=>by
  unfold qG6;rw[h];simp only[qAA];refine qBI (λq1=>?_) λq1=>hbad (h1 q1) k2 _ _ _ (by omega);have h31':=k2 _ _ h31;simp only[qAG,zA,qAA,qAL h31',a5,qAY,qAU,Bool.false_bne];refine qAF (λq2=>?_) (λq2=>?_)
  ·have q2:x.2.2.2.2.2=0:=by simpa using q2
   rw[rx k2];simp only[qAA];refine qAJ (a:=[.int .u32 0,.int .i64 0]) rfl ?_;rw[eq41'];simp only[qAU,Bool.true_bne,qAA];refine qBI (λq3=>?_) λq3=>hbad (λg=>by obtain⟨z1,z2⟩:=g.s.1 q2;simp[z1,z2]at q3) k2 _ _ _ (by omega);have q3:x.2.2.2.1=0/\x.2.2.2.2.1=0:=by simpa using q3
   exact j1 (h2 q1 ⟨λ_=>q3,λe=>absurd q2 e⟩) k2
  ·have q2:x.2.2.2.2.2≠0:=by simpa using q2
   rw[rx k2];simp only[qAA];refine qVm X0_0 λs65 k65=>?_;simp only[qAX,qAA];refine qAF (λq3=>?_) (λq3=>?_)
   ·exact j8 _ _ true (by rw[q3];rfl) (λ_ g=>by have:=(g.s.2 q2).1;rw[this]at q3;cases q3) (λq4=>by cases q4) q2 (h2 q1) (k2.trans k65)
   ·have h31'':=k65 _ _ h31'
    have hcl:qFG x.2.2.2.1 x.2.2.2.2.1=true:=by simpa using q3
    simp only[qAA,qAL h31'',a4];refine qB9 X0_0 ?_;exact j8 _ _ (outB x.2.2.2.2.1 8 30) (by rw[q3];rfl) (λq4 g=>by have:=qAn.2 (g.s.2 q2).2.1;rw[this]at q4;cases q4) (λq4=>⟨qAn.1 q4,hcl⟩) q2 (h2 q1) (k2.trans k65)
 have j6:∀(p q:AV) (bd:Bool),qAT p (.bool true) q=some (.bool bd)->(bd=true->¬BdRow F i x)->(bd=false->F.T.any (λy=>y.2 == x.2.2.1)=false->BdS F i x->BdRow F i x)->∀{s2:Hq},Sub s31 s2->qGs X0 (.ptr b3 0) (.int .i64 (i:Int)) (.ptr b29 0) (.int .i64 (i:Int)) p q (InvB F s20) (F.B.length-i) K R s2:=λp q bd h h1 h2 {s2} k2=>by
  unfold qGs;rw[h];simp only[qAA];refine qAF (λq1=>?_) (λq1=>?_)
  ·exact j7 _ _ bd (by rw[q1];rfl) h1 (λq2=>by rw[q1]at q2;cases q2) k2
  ·simp only[qAG,zA,qAA,qAL (k2 _ _ h3),csG3,qAL (k2 _ _ h31),a2]
   refine qSW X0_0 (kf:=λy=>y.2) (by omega) (hL3.T.sub k2) (λy s J=>zADC X0_0 y s J) λs96 k96=>?_;exact j7 _ _ (F.T.any λy=>y.2 == x.2.2.1) (by rw[q1];rfl) (λq2 g=>by rw[g.tt]at q2;cases q2) (λq2=>h2 q1 q2) (k2.trans k96)
 have j5:∀(p q:AV) (bd:Bool),qAT p (.bool true) q=some (.bool bd)->(bd=true->¬BdRow F i x)->(bd=false->F.T.any (λy=>y.1 == x.2.1)=false->F.T.any (λy=>y.2 == x.2.2.1)=false->BdS F i x->BdRow F i x)->qG7 X0 (.ptr b3 0) (.int .i64 (i:Int)) (.ptr b29 0) (.int .i64 (i:Int)) p q (InvB F s20) (F.B.length-i) K R s31:=λp q bd h h1 h2=>by
  unfold qG7;rw[h];simp only[qAA];refine qAF (λq1=>?_) (λq1=>?_)
  ·exact j6 _ _ bd (by rw[q1];rfl) h1 (λq2=>by rw[q1]at q2;cases q2) (.refl _)
  ·simp only[qAG,zA,qAA,qAL h3,csG3,qAL h31,a1]
   refine qSW X0_0 (kf:=λy=>y.1) (by omega) hL3.T (λy s J=>zACx X0_0 y s J) λs102 k102=>?_;exact j6 _ _ (F.T.any λy=>y.1 == x.2.1) (by rw[q1];rfl) (λq2 g=>by rw[g.tv]at q2;cases q2) (λq2=>h2 q1 q2) k102
 have j4:∀(p q:AV) (bd:Bool),qAT p (.bool true) q=some (.bool bd)->(bd=true->¬BdG F x)->(bd=false->BdG F x)->qG0 X0 (.ptr b3 0) vn tg (.int .i64 (i:Int)) (.ptr b29 0) (.int .i64 (i:Int)) p q (InvB F s20) (F.B.length-i) K R s31:=λp q bd h h1 h2=>by
  unfold qG0;rw[h];simp only[qAA];refine qBI (λq1=>?_) λq1=>hbad (λg=>h1 q1 g.g) (.refl _) _ _ _ (by omega);rw[g11];simp only[qAA,g12];refine qAF (λq2=>?_) (λq2=>?_)
  ·exact j5 _ _ true (by rw[q2];rfl) (λ_ g=>g.vn (g13.1 q2)) (λq=>by cases q)
  ·rw[g21]
   simp only[qAA,g22];exact j5 _ _ w2 (by rw[q2];rfl) (λq3 g=>g.tg (g23.1 q3)) (λq3 q4 q5 q6=>⟨h2 q1,λz=>(by rw[g13.2 z]at q2;cases q2),λz=>(by rw[g23.2 z]at q3;cases q3),q4,q5,q6⟩)
 have j3:∀(p q:AV) (bd:Bool),qAT p (.bool true) q=some (.bool bd)->(bd=true->¬BdG F x)->(bd=false->x.2.2.1≠0->BdG F x)->qGt X0 (.ptr b3 0) vn tg (.int .i64 (i:Int)) (.ptr b29 0) (.int .i64 (i:Int)) p q (InvB F s20) (F.B.length-i) K R s31:=λp q bd h h1 h2=>by
  unfold qGt;rw[h];simp only[qAA];refine qAF (λq1=>?_) (λq1=>?_)
  ·exact j4 _ _ bd (by rw[q1];rfl) h1 (λq2=>by rw[q1]at q2;cases q2)
  ·simp only[qAG,zA,qAA,qAL h31,a2,qAY,qAU,Bool.false_bne]
   exact j4 _ _ (x.2.2.1 == 0) (by rw[q1];rfl) (λq2 g=>g.2.2 (by simpa using q2)) (λq2=>h2 q1 (by simpa using q2))
 have j2:∀(p q:AV) (bd:Bool),qAT p (.bool true) q=some (.bool bd)->(bd=true->¬BdG F x)->(bd=false->x.2.1<=16777215->x.2.2.1≠0->BdG F x)->qG5 X0 (.ptr b3 0) vn tg (.int .i64 (i:Int)) (.ptr b29 0) (.int .i64 (i:Int)) p q (InvB F s20) (F.B.length-i) K R s31:=λp q bd h h1 h2=>by
  unfold qG5;rw[h];simp only[qAA];refine qAF (λq1=>?_) (λq1=>?_)
  ·exact j3 _ _ bd (by rw[q1];rfl) h1 (λq2=>by rw[q1]at q2;cases q2)
  ·simp only[qAG,zA,qAA,qAL h31,a1,qAp]
   exact j3 _ _ (decide (16777215<x.2.1)) (by rw[q1];rfl) (λq2 g=>by have:=oT q2;have:=g.2.1.2;omega) (λq2=>h2 q1 (by have:=oF q2;omega))
 simp only[qAG,zA,qAA,qAL h31,a0,qAL h3,csG3,lenT];refine qHK X0_0 ?_;simp only[qAX,qAA];refine qAF (λq1=>?_) (λq1=>?_)
 ·exact j2 _ _ true (by rw[q1];rfl) (λ_ g=>by rw[qMw.2 g.1]at q1;cases q1) (λq2=>by cases q2)
 ·have hin:inB x.1 (F.T.length:Int)=true:=by simpa using q1
  simp only[qAA,qAL h31,a1,qAS];exact j2 _ _ (decide (x.2.1<1)) (by rw[q1];rfl) (λq2 g=>by have:=oT q2;have:=g.2.1.1;omega) (λq2 q3 q4=>⟨qMw.1 hin,⟨by have:=oF q2;omega,q3⟩,q4⟩)
end Go.AM.TN
set_option maxRecDepth 100000
namespace Go.AM.TN
open Go Go.Proofs
variable {K:AV→Hq→Prop} {s s':Hq} {v k:AV} {b:Nat} {Y:Td} {F:FG} {v2 v3 v4 v5 v6 v7:AV} {t:Bool} {J:AV→Hq→Prop}
theorem zAGi{l:List Int}(h:∀(j:Nat) (hj:j+1<l.length),l[j]<l[j+1]):l.Pairwise (· < ·):=by
 refine List.pairwise_iff_getElem.2 λi j hi hj hij=>?_;obtain⟨d,rfl⟩:∃d,j=i+1+d:=⟨j-i-1,by omega⟩
 induction d with
 |zero=>exact h i hj
 | succ d ih=>
   have h1:=ih (by omega) (by omega);have h2:=h (i+1+d) (by omega);have e:i+1+d+1=i+1+(d+1):=by omega
   simp only[e]at h2;omega
theorem qNc(hY:Fn0 Y){l:List Int}(hn:l.length<=4294967296)(hv:Sl s v (ix l))(hK:∀b:Bool,(b=true↔l.Pairwise (· < ·))->K (.bool b) s):wC TP Y 126 [v] K s:=by
 refine qPH hY.fr (hY.no _ rfl) ?_;unfold qNe;refine⟨λys t m=>∃i:Nat,ys=[.int .i64 (i:Int)]/\m=l.length-i/\t=s/\1<=i/\∀(j:Nat) (hj:j+1<l.length),j+1<i->l[j]<l[j+1],⟨_,1,rfl,rfl,rfl,by omega,λj hj h=>by omega⟩,?_⟩;rintro f t m ⟨i,hy,rfl,rfl,hi,hall⟩;simp only[cI,and_true]at hy;rw[hy];have hlen:qAQ v=some l.length:=by rw[hv.len,qCR]
 simp only[qKG,hlen,qAS,qAA];refine qAF (λhlt=>?_) (λhge=>?_)
 rotate_left
 ·have hge:l.length<=i:=by have:=oF hge;omega
  exact hK true ⟨λ_=>zAGi λj hj=>hall j hj (by omega),λ_=>rfl⟩
 have hlt:i<l.length:=by have:=oT hlt;omega
 obtain⟨p1,g1,g2⟩:=hv.get (i:=i) (by rw[qCR];exact hlt);rw[qJk hlt]at g2;have hlt':i-1<l.length:=by omega
 obtain⟨p2,g3,g4⟩:=hv.get (i:=i-1) (by rw[qCR];exact hlt');rw[qJk hlt']at g4;rw[g1];simp only[qAA,g2,qAx];rw[qAc (by omega) (by omega),show((i:Int)-1)=((i-1:Nat):Int)by omega,g3];simp only[qAA,g4,qBv];have e:i-1+1=i:=by omega
 refine qAF (λq=>?_) (λq=>?_)
 ·have q:=oT q
  refine hK false ⟨λq=>(by cases q),λg=>?_⟩;have:=(List.pairwise_iff_getElem.1 g) (i-1) i hlt' hlt (by omega);omega
 ·have q:=oF q
  simp only[qAV,qAA];rw[qAc (by omega) (by omega)];refine⟨_,by omega,i+1,rfl,rfl,by trivial,by omega,λj hj h=>?_⟩
  by_cases e2:j+1<i
  ·exact hall j hj e2
  ·have:j=i-1:=by omega
   subst this;simp only[e];omega
def prt(P:List Int):List AV:=(List.range 32).map λ(n:Nat)=>AV.int .i64 ((P.count (n:Int):Nat):Int)
theorem qSD{P:List Int}:(prt P).length=32:=by unfold prt;simp
theorem qOx{P:List Int}{n:Nat}(h:n<32):(prt P)[n]?=some (.int .i64 ((P.count (n:Int):Nat):Int)):=by unfold prt;simp[h]
theorem zADg{P:List Int}{n:Nat}(h:n<32):(prt P).set n (.int .i64 ((P.count (n:Int):Nat)+1:Int))=prt (P ++ [(n:Int)]):=by
 apply List.ext_getElem?;intro i
 by_cases e:n=i
 ·subst e
  rw[List.getElem?_set_self (by rw[qSD];exact h),qOx h,List.count_append];simp
 ·rw[List.getElem?_set_ne e]
  by_cases hi:i<32
  ·rw[qOx hi,qOx hi,List.count_append]
   have:List.count (i:Int) [(n:Int)]=0:=by rw[List.count_eq_zero];simp only[List.mem_singleton];omega
   rw[this,Nat.add_zero]
  ·rw[List.getElem?_eq_none (by rw[qSD];omega),List.getElem?_eq_none (by rw[qSD];omega)]
theorem qY0{n:Nat}(h:n<32):qEB 32 1 (.ptr b 0) (.int .i64 (n:Int))=some (.ptr b n):=by
 have:Nat.blt n 32=true:=by rw[Nat.blt_eq];exact h
 simp[qEB,this]
def qMz(F:FG)(x:List Int×List Int):Prop:=(x.1≠[]/\x.2≠[])/\((∀n∈x.1,0<=n/\n<F.lf)/\∀n∈x.2,0<=n/\n<(F.B.length:Int))/\x.1.Pairwise (· < ·)/\x.2.Pairwise (· < ·)
structure SegOk(F:FG):Prop where
 n:F.S.length<=64
 row:∀x∈F.S,qMz F x
 port:∀n:Int,((F.S.map (·.1)).flatten).count n<=32
abbrev InvS(F:FG)(s14:Hq)(b13:Nat):List AV->Hq->Nat->Prop:=λys t m=>∃i:Nat,ys=[.int .i64 (i:Int)]/\i<=F.S.length/\m=F.S.length-i/\qCS (λj=>j=b13) s14 t/\t b13=some (false,.cells 198 (prt ((F.S.take i).map (·.1)).flatten))/\(∀x∈F.S.take i,qMz F x)/\∀n:Int,(((F.S.take i).map (·.1)).flatten).count n<=32
abbrev InvP(F:FG)(s14:Hq)(b13:Nat)(P l:List Int):List AV->Hq->Nat->Prop:=λys t m=>∃k:Nat,ys=[.int .i64 (k:Int)]/\k<=l.length/\m=l.length-k/\qCS (λj=>j=b13) s14 t/\t b13=some (false,.cells 198 (prt (P++l.take k)))/\∀n:Int,(P++l.take k).count n<=32
theorem sin1{x0:Int}{cb:Nat}(hc:s cb=some (t,.cells 31 (csG F v2 v3 v4 v5 v6 v7)))(hJ:∀s',Sub s s'->J (.bool (!inB x0 F.lf)) s'):funK TP X0 (.fn (.func 124) [] [.ptr cb 0]) [.int .i64 x0] J s:=by refine qZ0 (by kernel_rfl) (qNx X0_0.fr (X0_0.no _ rfl) ?_);unfold qMK;simp only[qAG,zA,qAA,qAL hc,csG0];refine qHK X0_0 ?_;simp only[qAX,qAA];exact hJ s (.refl _)
theorem sin2{x0:Int}{cb:Nat}(hc:s cb=some (t,.cells 31 (csG F v2 v3 v4 v5 v6 v7)))(hB:qAQ v4=some F.B.length)(hJ:∀s',Sub s s'->J (.bool (!inB x0 (F.B.length:Int))) s'):funK TP X0 (.fn (.func 125) [] [.ptr cb 0]) [.int .i64 x0] J s:=by refine qZ0 (by kernel_rfl) (qNf X0_0.fr (X0_0.no _ rfl) ?_);unfold qLo;simp only[qAG,zA,qAA,qAL hc,csG4,hB];refine qHK X0_0 ?_;simp only[qAX,qAA];exact hJ s (.refl _)
theorem qSG{l:List Int}{n:Int}:l.any (λx=>!inB x n)=false↔∀x∈l,0<=x/\x<n:=by
 rw[List.any_eq_false];refine⟨λh x hx=>?_,λh x hx=>?_⟩
 ·have:=h x hx
  exact qMw.1 (by simpa using this)
 ·rw[qMw.2 (h x hx)];simp
end Go.AM.TN
set_option maxRecDepth 100000
namespace Go.AM.TN
open Go Go.Proofs
variable {K R:AV→Hq→Prop} {s:Hq} {c:Nat} {F:FG} {v2 v3 v4 v5 v6 v7:AV} {t:Bool} {J:AV→Hq→Prop}
theorem qXr{α β:Type}{f:α->List β}{S:List α}{i:Nat}{x:α}(hx:S[i]?=some x):(S.map f).flatten=((S.take i).map f).flatten++(f x++((S.drop (i+1)).map f).flatten):=by
 obtain⟨hi,e⟩:=gS hx;have h1:S=S.take i++x::S.drop (i+1):=by rw[<- e,List.getElem_cons_drop,List.take_append_drop]
 conv=>lhs;rw[h1]
 simp
theorem qTe{α β:Type}{f:α->List β}{S:List α}{i:Nat}{x:α}(hx:S[i]?=some x):((S.take (i+1)).map f).flatten=((S.take i).map f).flatten++f x:=by rw[List.take_add_one,hx];simp
theorem qUf(hF:FabOk F)(hB:F.B.length<=32)(hn:F.S.length<=4294967296)(hnn:∀x∈F.S,x.1.length<=4294967296/\x.2.length<=4294967296)(hc:s c=some (t,.cells 150 (csG F v2 v3 v4 v5 v6 v7)))(hL:FL s F v2 v3 v4 v5 v6 v7)(hK:Kok s (SegOk F) K)(hR:Rbad s (SegOk F) R):qAh TP X0 SS 92 [.ptr c 0] K R s:=by
 refine qQC (qMv rfl hc hL λb3 s5 h5 k5=>?_);have hL5:=hL.sub k5;have hlen:qAQ v5=some F.S.length:=hL5.S.len;have lenB:qAQ v4=some F.B.length:=by rw[hL.B.len,lMY]
 simp only[qAG,zA,qAA,qAL h5,csG5,hlen,qAp];refine qBI (λq=>?_) λq=>hR (λg=>by have:=oT q;have:=g.n;omega) _ _ _ s5 (by omega) k5;have hn64:F.S.length<=64:=by have:=oF q;omega
 refine qAP λb13 s14 hb13 h13 u13=>?_;have h13:s14 b13=some (false,.cells 198 (prt [])):=h13;have k14:=u13.sub hb13;simp only[qAL (k14 _ _ h5),csG5,qAA,hlen];have sub5:∀{t:Hq},qCS (λj=>j=b13) s14 t->Sub s5 t:=fun {t} kp i e hi=>kp i e (k14 i e hi) (qEQ hb13 hi);refine⟨InvS F s14 b13,⟨_,0,rfl,by omega,rfl,.refl _ _,h13,by simp,by simp⟩,?_⟩;rintro f t m ⟨i,hy,hi,rfl,kp,hprt,hall,hcnt⟩;simp only[cI,and_true]at hy;rw[hy];simp only[qLJ,qAS,qAA];refine qAF (λhlt=>?_) (λhge=>?_)
 rotate_left
 ·have hge:i=F.S.length:=by have:=oF hge;omega
  subst hge;rw[List.take_length]at hall hcnt;exact hK ⟨hn64,hall,hcnt⟩ t (k5.trans (sub5 kp))
 have hlt:i<F.S.length:=by have:=oT hlt;omega
 have hx:F.S[i]?=some F.S[i]:=gEY hlt;have hxm:F.S[i]∈F.S:=List.getElem_mem hlt;generalize F.S[i]=x at hx hxm;have hxn:=hnn x hxm;obtain⟨pb,po,l1,l2,e1,e2,_,_,q1,q2⟩:=(hL5.S.sub (sub5 kp)).at hx;rw[e1];simp only[qAA,e2];refine qAP λb22 s23 hb22 h23 u23=>qAZ h23 rfl rfl (by simp[q1.one,q2.one]) λs24 h24 u24=>?_;have k24:Sub t s24:=qAa (u23.sub hb22) u24 hb22;have kp24:qCS (λj=>j=b13) s14 s24:=kp.trans k24.keep;have kall:Sub s s24:=k5.trans (sub5 kp24);have a0:[l1,l2][0]?=some l1:=rfl;have a1:[l1,l2][1]?=some l2:=rfl;have n1:qAQ l1=some x.1.length:=by rw[q1.len,qCR]
 have n2:qAQ l2=some x.2.length:=by rw[q2.len,qCR]
 have h3:=sub5 kp24 _ _ h5;have hp24:=k24 _ _ hprt;have hbad:∀{s2:Hq},¬qMz F x->Sub s24 s2->∀(e:Int) (p:ByteArray) (i:Int),e≠0->R (flV e p i) s2:=fun {s2} q k2 e p i he=>hR (λg=>q (g.row _ hxm)) e p i s2 he (kall.trans k2);have j3:∀(p q:AV) (bd:Bool),qAT p (.bool true) q=some (.bool bd)->(bd=true->¬qMz F x)->(bd=false->qMz F x)->∀{s2:Hq},Sub s24 s2->qF2 X0 (.ptr b13 0) (.int .i64 (i:Int)) (.ptr b22 0) (.int .i64 (i:Int)) p q (InvS F s14 b13) (F.S.length-i) K R s2:=λp q bd h h1 h2 {s2} k2=>by
  unfold qF2;rw[h];simp only[qAA];refine qBI (λe=>?_) λe=>hbad (h1 e) k2 _ _ _ (by omega);have row:=h2 e;simp only[qAG,zA,qAA,qAL (k2 _ _ h24),a0,n1];refine⟨InvP F s14 b13 ((F.S.take i).map (·.1)).flatten x.1,⟨_,0,rfl,by omega,rfl,kp24.trans k2.keep,by rw[List.take_zero,List.append_nil];exact k2 _ _ hp24,by rw[List.take_zero,List.append_nil];exact hcnt⟩,?_⟩;rintro f t2 m ⟨kk,hy,hk,rfl,kp2,hp2,hc2⟩;simp only[cI,and_true]at hy;rw[hy];simp only[qLD,qAS,qAA];refine qAF (λhl=>?_) (λhg=>?_)
  rotate_left
  ·have hg:kk=x.1.length:=by have:=oF hg;omega
   subst hg;rw[List.take_length]at hp2 hc2;simp only[qAV,qAA];rw[qAc (by omega) (by omega)];refine⟨_,by omega,i+1,rfl,by omega,rfl,kp2,by rw[qTe hx];exact hp2,λz hz=>?_,by rw[qTe hx];exact hc2⟩;rw[List.take_add_one,hx]at hz;rcases mP hz with hz|hz
   ·exact hall z hz
   ·simp only[Option.toList_some,List.mem_singleton]at hz
    rw[hz];exact row
  have hl:kk<x.1.length:=by have:=oT hl;omega
  have hq1:Sl t2 l1 (ix x.1):=by
   obtain⟨pb',po',l1',l2',e1',e2',_,_,q1',_⟩:=(hL5.S.sub (sub5 kp2)).at hx;obtain⟨vs,w1,w2,w3⟩:=hL5.S;have hi':i<vs.length:=by rw[w2];exact hlt
   have hq:vs[i]?=some vs[i]:=gEY hi';obtain⟨pb1,po1,x1,x2,_⟩:=(w1.sub (sub5 kp)).get (i:=i) (r:=[vs[i].1,vs[i].2]) (by rw[List.getElem?_map,hq];rfl);rw[e1]at x1;cases Option.some.inj x1;rw[e2]at x2;simp only[Option.some.injEq,cI,and_true]at x2;have:=(w3 i _ x hq hx).1;rw[<- x2.1]at this;exact this.sub (sub5 kp2)
  obtain⟨pp,g1,g2⟩:=hq1.get (i:=kk) (by rw[qCR];exact hl);rw[qJk hl]at g2;obtain⟨r1,r2⟩:=row.2.1.1 _ (List.getElem_mem hl);have hlf:=hF.lf;obtain⟨n,hn'⟩:∃n:Nat,x.1[kk]=(n:Int):=⟨x.1[kk].toNat,by omega⟩
  have hn32:n<32:=by omega
  rw[hn']at g2;rw[g1];simp only[qAA,g2,qY0 hn32,qAL hp2,qOx hn32,qAV];have hcn:=hc2 (n:Int);rw[qAc (by omega) (by omega)];refine qCH hp2 (by rw[qSD];exact hn32) rfl λs59 h59 u59=>?_;rw[zADg hn32]at h59;have et:(((F.S.take i).map (·.1)).flatten++x.1.take kk) ++ [(n:Int)]=((F.S.take i).map (·.1)).flatten++x.1.take (kk+1):=by rw[List.append_assoc,List.take_add_one,gEY hl,hn'];rfl
  rw[et]at h59;simp only[qAL h59,qOx hn32,qAA,qAp];have kp59:qCS (λj=>j=b13) s14 s59:=kp2.trans (u59.keep rfl);refine qBI (λe2=>?_) λe2=>hR (λg=>?_) _ _ _ s59 (by omega) (k5.trans (sub5 kp59))
  ·have e2:=oF e2
   rw[qAc (by omega) (by omega)];refine⟨_,by omega,kk+1,rfl,by omega,rfl,kp59,h59,λn'=>?_⟩
   by_cases en:n'=(n:Int)
   ·rw[en]
    omega
   ·rw[<- et,List.count_append]
    have:List.count n' [(n:Int)]=0:=by rw[List.count_eq_zero];simp only[List.mem_singleton];exact en
    rw[this,Nat.add_zero];exact hc2 n'
  ·have e2:=oT e2
   have:=g.port (n:Int);rw[qXr (f:=λ(z:List Int×List Int)=>z.1) hx]at this;have e3:x.1=x.1.take (kk+1)++x.1.drop (kk+1):=(List.take_append_drop _ _).symm;have e4:List.count (n:Int) x.1=List.count (n:Int) (x.1.take (kk+1))+List.count (n:Int) (x.1.drop (kk+1)):=by
    conv=>lhs;rw[e3]
    rw[List.count_append]
   rw[List.count_append]at e2;simp only[List.count_append]at this;omega
 have j2:∀(p q:AV) (bd:Bool),qAT p (.bool true) q=some (.bool bd)->(bd=true->¬qMz F x)->(bd=false->x.1.Pairwise (· < ·)->x.2.Pairwise (· < ·)->qMz F x)->∀{s2:Hq},Sub s24 s2->qF9 X0 (.ptr b13 0) (.int .i64 (i:Int)) (.ptr b22 0) (.int .i64 (i:Int)) p q (InvS F s14 b13) (F.S.length-i) K R s2:=λp q bd h h1 h2 {s2} k2=>by
  unfold qF9;rw[h];simp only[qAA];refine qBI (λe=>?_) λe=>hbad (h1 e) k2 _ _ _ (by omega);simp only[qAG,zA,qAA,qAL (k2 _ _ h24),a0];refine qNc X0_0 hxn.1 (q1.sub (k24.trans k2)) λb1 hb1=>?_;simp only[qAX,qAA];refine qAF (λe1=>?_) (λe1=>?_)
  ·exact j3 _ _ true (by rw[e1];rfl) (λ_ g=>by rw[hb1.2 g.2.2.1]at e1;cases e1) (λq=>by cases q) k2
  ·simp only[qAL (k2 _ _ h24),a1,qAA]
   refine qNc X0_0 hxn.2 (q2.sub (k24.trans k2)) λb2 hb2=>?_;simp only[qAX,qAA];exact j3 _ _ (!b2) (by rw[e1];rfl) (λe2 g=>by rw[hb2.2 g.2.2.2]at e2;cases e2) (λe2=>h2 e (hb1.1 (by simpa using e1)) (hb2.1 (by simpa using e2))) k2
 have j1:∀(p q:AV) (bd:Bool),qAT p (.bool true) q=some (.bool bd)->(bd=true->¬qMz F x)->(bd=false->x.1≠[]/\x.2≠[])->qF8 X0 (.ptr b3 0) (.ptr b13 0) (.int .i64 (i:Int)) (.ptr b22 0) (.int .i64 (i:Int)) p q (InvS F s14 b13) (F.S.length-i) K R s24:=λp q bd h h1 h2=>by
  unfold qF8;rw[h];simp only[qAA];refine qBI (λe=>?_) λe=>hbad (h1 e) (.refl _) _ _ _ (by omega);simp only[qAG,zA,qAA,qAL h24,a0];refine qNO X0_0 (p:=λn=>!inB n F.lf) hxn.1 (q1.sub k24) (λz sA J kA hJ=>sin1 (kA _ _ h3) hJ) λs36 k36=>?_;refine qAF (λe1=>?_) (λe1=>?_)
  ·exact j2 _ _ true (by rw[e1];rfl) (λ_ g=>by have:=qSG.2 g.2.1.1;rw[this]at e1;cases e1) (λq=>by cases q) k36
  ·simp only[qAL (k36 _ _ h24),a1,qAA]
   refine qNO X0_0 (p:=λn=>!inB n (F.B.length:Int)) hxn.2 (q2.sub (k24.trans k36)) (λz sA J kA hJ=>sin2 (kA _ _ (k36 _ _ h3)) lenB hJ) λs75 k75=>?_;exact j2 _ _ (x.2.any λn=>!inB n (F.B.length:Int)) (by rw[e1];rfl) (λe2 g=>by have:=qSG.2 g.2.1.2;rw[this]at e2;cases e2) (λe2 p1 p2=>⟨h2 e,⟨qSG.1 e1,qSG.1 e2⟩,p1,p2⟩) (k36.trans k75)
 simp only[qAG,zA,qAA,qAL h24,a0,n1,qAY,qAU,Bool.false_bne];have em:∀{l:List Int},(((l.length:Nat):Int) == 0)=true↔l=[]:=fun {l}=>by
  rw[beq_iff_eq];constructor
  ·intro h
   exact List.length_eq_zero_iff.1 (by omega)
  ·rintro rfl;rfl
 refine qAF (λe=>?_) (λe=>?_)
 ·exact j1 _ _ true (by rw[e];rfl) (λ_ g=>g.1.1 (em.1 e)) (λq=>by cases q)
 ·simp only[a1,qAA,n2]
  exact j1 _ _ (((x.2.length:Nat):Int) == 0) (by rw[e];rfl) (λq g=>g.1.2 (em.1 q)) (λq=>⟨λz=>(by rw[em.2 z]at e;cases e),λz=>(by rw[em.2 z]at q;cases q)⟩)
end Go.AM.TN
set_option maxRecDepth 100000
namespace Go.AM.TN
open Go Go.Proofs
variable {K:AV→Hq→Prop} {s s':Hq} {v y:AV} {b:Nat} {Y:Td} {t:Bool}
theorem zABn(hY:Fn0 Y){l:List Int}{n:Int}(hn:l.length<=4294967296)(hv:Sl s v (ix l))(hK:K (.int .i64 (fstI (λx=>n == x) l)) s):wC TP Y 63 [v,.int .i64 n] K s:=by
 refine qJw hY.fr (hY.no _ rfl) ?_;unfold qHJ;have hlen:qAQ v=some l.length:=by rw[hv.len,qCR]
 rw[hlen];simp only[qAA];refine⟨λys t m=>∃i:Nat,ys=[.int .i64 (i:Int)]/\i<=l.length/\m=l.length-i/\t=s/\∀j z,j<i->l[j]?=some z->(n == z)=false,⟨_,0,rfl,by omega,rfl,rfl,λj z hj=>by omega⟩,?_⟩;rintro f t m ⟨i,hy,hi,rfl,rfl,hall⟩;simp only[cI,and_true]at hy;rw[hy];simp only[qFg,qAS,qAA];refine qAF (λhlt=>?_) (λhge=>?_)
 rotate_left
 ·have hge:i=l.length:=by have:=oF hge;omega
  subst hge;rw[qMP λj z hz=>hall j z (gS hz).1 hz]at hK;exact hK
 have hlt:i<l.length:=by have:=oT hlt;omega
 obtain⟨pp,g1,g2⟩:=hv.get (i:=i) (by rw[qCR];exact hlt);rw[qJk hlt]at g2;have hx:l[i]?=some l[i]:=gEY hlt;generalize l[i]=x at hx g2;rw[g1];simp only[qAA,g2,qAY,qAU,Bool.false_bne];refine qAF (λq=>?_) (λq=>?_)
 ·rw[qOG hx q hall]at hK
  exact hK
 ·simp only[qAV,qAA]
  rw[qAc (by omega) (by omega)];refine⟨_,by omega,i+1,rfl,by omega,rfl,by trivial,λj z hj hz=>?_⟩
  by_cases e:j<i
  ·exact hall j z e hz
  ·have:j=i:=by omega
   subst this;rw[hx]at hz;cases hz;exact q
theorem qPd(hY:Fn0 Y){l:List Int}{n:Int}(hn:l.length<=4294967296)(hv:Sl s v (ix l))(hK:K (.bool (decide (n∈l))) s):wC TP Y 32 [v,.int .i64 n] K s:=by
 refine qIQ hY.fr (hY.no _ rfl) ?_;unfold qFh;refine zABn hY hn hv ?_;simp only[qAy,qAA,qSC];have:l.any (λx=>n == x)=decide (n∈l):=by
  by_cases h:n∈l
  ·rw[decide_eq_true h]
   exact List.any_eq_true.2 ⟨n,h,by simp⟩
  ·rw[decide_eq_false h,List.any_eq_false]
   intro x hx;simp only[beq_iff_eq];rintro rfl;exact h hx
 rw[this];exact hK
def andL(x y:Int):Int:=qBF .u64 ((BitVec.ofInt 64 x &&& BitVec.ofInt 64 y).toNat:Nat)
theorem qQK{x y:Int}:qAB .and (.int .u64 x) (.int .u64 y)=some (.int .u64 (andL x y)):=by simp only[qAB,arith,qB2,qDj,cond_true];rfl
theorem zAFe{x:Int}:qDB .shr (.int .u64 x) (.int .u64 40)=some (.int .u64 (x.fdiv 1099511627776)):=by show frc (x.fdiv ((2^(min 40 (IntKind.bits .u64)):Nat):Int)) (λn=>some (AV.int .u64 n))=_;rw[qB2];rfl
def qTb(m:Int):Bool:=decide (m<=281474976710655)&&(andL (m.fdiv 1099511627776) 1 != 0)
theorem qTx(hY:Fn0 Y){m:Int}(hK:K (.bool (qTb m)) s):wC TP Y 130 [.int .u64 m] K s:=by
 refine qK7 hY.fr (hY.no _ rfl) ?_;unfold qIq;unfold qTb at hK;simp only[qBv,qAA];refine qAF (λe=>?_) (λe=>?_)
 ·rw[zAFe]
  simp only[qAA,qQK,qAY,qAU,Bool.true_bne];rw[e]at hK ⊢;exact hK
 ·rw[e]at hK ⊢
  exact hK
def qFi(m:Int):Bool:=!(decide (m<2199023255552)||decide (2199023255584<=m))
theorem zAAA(hY:Fn0 Y){m:Int}(hK:∀r,K (.tup [.int .i64 r,.bool (qFi m)]) s):wC TP Y 131 [.int .u64 m] K s:=by
 refine qKK hY.fr (hY.no _ rfl) ?_;unfold qHv;unfold qFi at hK;simp only[qAS,qAA];have j0:∀(p q:AV) (bd:Bool),qAT p (.bool true) q=some (.bool bd)->(decide (m<2199023255552)||decide (2199023255584<=m))=bd->qCh Y (.int .u64 m) p q K s:=λp q bd h he=>by
  unfold qCh;rw[h];rw[he]at hK;simp only[qAA];refine qAF (λe=>?_) (λe=>?_)
  ·rw[e]at hK;exact hK 0
  ·rw[e]at hK
   simp only[qAx,qAA];exact hK _
 refine qAF (λe=>?_) (λe=>?_)
 ·exact j0 _ _ true (by rw[e];rfl) (by rw[e];rfl)
 ·simp only[qAy,qAA]
  exact j0 _ _ (decide (2199023255584<=m)) (by rw[e];rfl) (by rw[e];rfl)
def qLa(d:BG)(ip:Int):Bool:=(ip == 0)||((d.2.2.2.2.2 != 0)&&(ip != d.2.2.2.2.2)&&qLK d.2.2.2.1 d.2.2.2.2.1 ip)
theorem qTA(hY:Fn0 Y){d:BG}{ip:Int}(hd:d.2.2.2.2.2≠0->-1000<=d.2.2.2.2.1/\d.2.2.2.2.1<=32)(hK:∀s',Sub s s'->K (.bool (qLa d ip)) s'):wC TP Y 132 [.agg (bgC d),.int .u32 ip] K s:=by
 refine qOi hY.fr (hY.no _ rfl) ⟨rfl,qAP λb s1 hb h1 u1=>?_⟩;have h1:s1 b=some (false,.cells 87 (bgC d)):=h1;have k1:=u1.sub hb;have d5:(bgC d)[5]?=some (.int .u32 d.2.2.2.2.2):=rfl;have rd:rdN s1 2 (.ptr b 3)=some (pfC d.2.2.2.1 d.2.2.2.2.1):=by simp only[rdN,h1];rfl
 have hk:=λs' (q:Sub s1 s')=>hK s' (k1.trans q);unfold qLa at hk;simp only[qAY,qAU,Bool.false_bne,qAA];refine qAF (λe=>?_) (λe=>?_)
 ·have:=hk s1 (.refl _)
  rw[e]at this;exact this
 ·rw[e]at hk
  simp only[qAG,zA,qAA,qAL h1,d5,qAY,qAU,Bool.true_bne];have j0:∀(p q:AV) (ok:Bool),qAT p q (.bool false)=some (.bool ok)->((d.2.2.2.2.2 != 0)&&(ip != d.2.2.2.2.2))=ok->(ok=true->d.2.2.2.2.2≠0)->qFN Y (.int .u32 ip) (.ptr b 0) p q K s1:=λp q ok h he h0=>by
   unfold qFN;rw[h];rw[he]at hk;simp only[qAA];refine qAF (λe2=>?_) (λe2=>?_)
   ·simp only[qAG,zA,qAA,rd]
    refine qV5 hY (hd (h0 e2)) λs11 k11=>?_;have:=hk s11 k11;rw[e2]at this;rw[e2];exact this
   ·have:=hk s1 (.refl _)
    rw[e2]at this;rw[e2];exact this
  have en:(!(d.2.2.2.2.2 == 0))=(d.2.2.2.2.2 != 0):=rfl;rw[en];refine qAF (λe2=>?_) (λe2=>?_)
  ·exact j0 _ _ (!(ip == d.2.2.2.2.2)) (by rw[e2];rfl) (by rw[e2];rfl) (λ_=>by simpa using e2)
  ·exact j0 _ _ false (by rw[e2];rfl) (by rw[e2];rfl) (λq=>by cases q)
theorem qXX{α β γ:Type}{f:α->β}{g:α->γ}{l:List α}{x:α}(h:∀y∈l,f x=f y↔g x=g y):f x∈l.map f↔g x∈l.map g:=by simp only[List.mem_map];exact⟨λ⟨a,h1,h2⟩=>⟨a,h1,((h a h1).1 h2.symm).symm⟩,λ⟨a,h1,h2⟩=>⟨a,h1,((h a h1).2 h2.symm).symm⟩⟩
theorem w64u{n:Int}(h:0<=n/\n<4294967296):qBF .u64 n=n:=by simp only[qBF];rw[qEP _ _ _ (by omega) (by omega)];split<;>omega
end Go.AM.TN
set_option maxRecDepth 100000
namespace Go.AM.TN
open Go Go.Proofs
variable {K R:AV→Hq→Prop} {s s':Hq} {v y k:AV} {b c:Nat} {F:FG} {v2 v3 v4 v5 v6 v7:AV} {t:Bool} {J:AV→Hq→Prop}
theorem qUZ{p:AV}(h:rd1 s p=some v)(k:Sub s s'):rd1 s' p=some v:=by
 cases p<;>try (simp[rd1]at h;done)
 rename_i b o;obtain⟨t,e,l,h1,h2⟩:=qZD h;rw[qAL (k _ _ h1)];exact h2
structure HoRow(F:FG)(i:Nat)(x:R4):Prop where
 m:x.1≠0/\x.1<=281474976710655/\qTb x.1=false
 r:(0<=x.2.2.1/\x.2.2.1<(F.B.length:Int))/\(-1<=x.2.2.2/\x.2.2.2<=(F.S.length:Int)-1)
 s:x.2.2.2≠-1->∀y,F.S[x.2.2.2.toNat]?=some y->x.2.2.1∈y.2
 a:(x.1≠1577058561/\qFi x.1=false)/\∀d,F.B[x.2.2.1.toNat]?=some d->qLa d x.2.1=true
 dm:(x.2.2.1,x.1) ∉ (F.H.take i).map λy=>(y.2.2.1,y.1)
 di:x.2.1≠0->(x.2.2.1,x.2.1) ∉ (F.H.take i).map λy=>(y.2.2.1,y.2.1)
structure HosOk(F:FG):Prop where
 n:F.H.length<=128
 row:∀(i:Nat) x,F.H[i]?=some x->HoRow F i x
abbrev InvH(F:FG)(s20:Hq):List AV->Hq->Nat->Prop:=λys t m=>∃i:Nat,ys=[.int .i64 (i:Int)]/\i<=F.H.length/\m=F.H.length-i/\Sub s20 t/\∀(j:Nat) x,j<i->F.H[j]?=some x->HoRow F j x
theorem zABQ(hD:DomOk F)(hS:F.S.length<=64)(hn:F.H.length<=4294967296)(hnn:∀x∈F.S,x.1.length<=4294967296/\x.2.length<=4294967296)(hip:∀x∈F.H,0<=x.2.1/\x.2.1<4294967296)(hc:s c=some (t,.cells 150 (csG F v2 v3 v4 v5 v6 v7)))(hL:FL s F v2 v3 v4 v5 v6 v7)(hK:Kok s (HosOk F) K)(hR:Rbad s (HosOk F) R):qAh TP X0 SS 93 [.ptr c 0] K R s:=by
 refine qVY (qMv rfl hc hL λb3 s5 h5 k5=>?_);have hL5:=hL.sub k5;have hlen:qAQ v6=some F.H.length:=by rw[hL5.H.len,lMY]
 have lenB:qAQ v4=some F.B.length:=by rw[hL5.B.len,lMY]
 have lenS:qAQ v5=some F.S.length:=hL5.S.len;simp only[qAG,zA,qAA,qAL h5,csG6,hlen,qAp];refine qBI (λq=>?_) λq=>hR (λg=>by have:=oT q;have:=g.n;omega) _ _ _ s5 (by omega) k5;have hn128:F.H.length<=128:=by have:=oF q;omega
 simp only[qAL h5,csG6,qAA];refine zAC5 X0_0 (rows:=F.H) (rowC:=hgC) (λ_=>rfl) (λ_=>rfl) (kf:=λx=>[.int .i64 x.2.2.1,.int .u64 x.1]) zAFQ (λx=>⟨_,_,rfl⟩) (λ_=>rfl) (λ_=>rfl) (λx s J=>zAFM X0_0 x s J) hL5.H (by omega) λs16 ma k16 repm=>?_;have h16:=k16 _ _ h5;simp only[qAL h16,csG6,qAA];refine zAC5 X0_0 (rows:=F.H) (rowC:=hgC) (λ_=>rfl) (λ_=>rfl) (kf:=λx=>[.int .i64 x.2.2.1,.int .u64 (qBF .u64 x.2.1)]) zAFQ (λx=>⟨_,_,rfl⟩) (λ_=>rfl) (λ_=>rfl) (λx s J=>zAF5 X0_0 x s J) (hL5.H.sub k16) (by omega) λs20 ia k20 repi=>?_;have h20:=k20 _ _ h16;have k520:Sub s5 s20:=k16.trans k20;simp only[qAL h20,csG6,qAA,hlen];have him:∀x y:R4,(AV.agg [.int .i64 x.2.2.1,.int .u64 x.1]=AV.agg [.int .i64 y.2.2.1,.int .u64 y.1])↔(x.2.2.1,x.1)=(y.2.2.1,y.1):=λx y=>by simp
 refine⟨InvH F s20,⟨_,0,rfl,by omega,rfl,.refl _,λj x hj=>by omega⟩,?_⟩;rintro f t m ⟨i,hy,hi,rfl,kt,hall⟩;simp only[cI,and_true]at hy;rw[hy];simp only[qOP,qAS,qAA];refine qAF (λhlt=>?_) (λhge=>?_)
 rotate_left
 ·have hge:i=F.H.length:=by have:=oF hge;omega
  subst hge;exact hK ⟨hn128,λj x hx=>hall j x (gS hx).1 hx⟩ t (k5.trans (k520.trans kt))
 have hlt:i<F.H.length:=by have:=oT hlt;omega
 have hx:F.H[i]?=some F.H[i]:=gEY hlt;have hxm:F.H[i]∈F.H:=List.getElem_mem hlt;generalize F.H[i]=x at hx hxm;have hxi:=hip x hxm;obtain⟨pb,po,e1,e2,_⟩:=(hL5.H.sub (k520.trans kt)).get (i:=i) (r:=hgC x) (by rw[List.getElem?_map,hx];rfl);rw[e1];simp only[qAA,e2];refine qAP λb28 s29 hb28 h29 u29=>qAZ h29 rfl rfl rfl λs30 h30 u30=>?_;have k30:Sub t s30:=qAa (u29.sub hb28) u30 hb28;have kall:Sub s s30:=k5.trans (k520.trans (kt.trans k30));have h3:s30 b3=some (false,.cells 31 (csG F v2 v3 v4 v5 v6 v7)):=k30 _ _ (kt _ _ h20);have hL3:FL s30 F v2 v3 v4 v5 v6 v7:=hL.sub kall;have a0:(hgC x)[0]?=some (.int .u64 x.1):=rfl;have a1:(hgC x)[1]?=some (.int .u32 x.2.1):=rfl;have a2:(hgC x)[2]?=some (.int .i64 x.2.2.1):=rfl;have a3:(hgC x)[3]?=some (.int .i64 x.2.2.2):=rfl;obtain⟨p1,w1,g11,g12,g13⟩:=(repm.sub (k20.trans (kt.trans k30))).at (j:=i) (k:=.agg [.int .i64 x.2.2.1,.int .u64 x.1]) (by rw[List.getElem?_map,hx];rfl);obtain⟨p2,w2,g21,g22,g23⟩:=(repi.sub (kt.trans k30)).at (j:=i) (k:=.agg [.int .i64 x.2.2.1,.int .u64 (qBF .u64 x.2.1)]) (by rw[List.getElem?_map,hx];rfl);rw[<- List.map_take,qEq him]at g13;rw[<- List.map_take,qXX (f:=λx:R4=>AV.agg [.int .i64 x.2.2.1,.int .u64 (qBF .u64 x.2.1)]) (g:=λy:R4=>(y.2.2.1,y.2.1)) (λy hy=>by have:=hip y (List.mem_of_mem_take hy);simp only[AV.agg.injEq,cI,AV.int.injEq,true_and,and_true,w64u hxi,w64u this,Prod.mk.injEq])]at g23
 have next:HoRow F i x->∀{s2:Hq},Sub s30 s2->∃m',m'<F.H.length-i/\InvH F s20 [.int .i64 ((i:Int)+1)] s2 m':=λok {s2} k2=>by
  refine⟨_,by omega,i+1,rfl,by omega,rfl,kt.trans (k30.trans k2),λj z hj hz=>?_⟩
  by_cases e:j<i
  ·exact hall j z e hz
  ·have:j=i:=by omega
   subst this;rw[hx]at hz;cases hz;exact ok
 have hbad:∀{s2:Hq},¬HoRow F i x->Sub s30 s2->∀(e:Int) (p:ByteArray) (i:Int),e≠0->R (flV e p i) s2:=fun {s2} q k2 e p i he=>hR (λg=>q (g.row _ x hx)) e p i s2 he (kall.trans k2);have j7:∀(p r:AV) (bd:Bool),(oK (qAT p r (.bool false)) λv=>oK (qAT (.bool w1) (.bool true) v) λv=>v=.bool bd)->(bd=true->¬HoRow F i x)->(bd=false->HoRow F i x)->∀{s2:Hq},Sub s30 s2->qJa X0 (.int .i64 (i:Int)) (.int .i64 (i:Int)) (.bool w1) p r (InvH F s20) (F.H.length-i) K R s2:=λp r bd h h1 h2 {s2} k2=>by unfold qJa;obtain⟨z1,z2,h⟩:=qAl h;obtain⟨z3,z4,h⟩:=qAl h;rw[z2];simp only[qAA,z4,h];refine qBI (λq=>?_) λq=>hbad (h1 q) k2 _ _ _ (by omega);simp only[qAV,qAA];rw[qAc (by omega) (by omega)];exact next (h2 q) k2
 have j6:∀(p q:AV) (bd:Bool),qAT p (.bool true) q=some (.bool bd)->(bd=true->¬HoRow F i x)->(bd=false->(x.2.2.1,x.1) ∉ ((F.H.take i).map λy=>(y.2.2.1,y.1))->(x.2.1≠0->(x.2.2.1,x.2.1) ∉ (F.H.take i).map λy=>(y.2.2.1,y.2.1))->HoRow F i x)->∀{s2:Hq},Sub s30 s2->qI3 X0 ma ia (.int .i64 (i:Int)) (.ptr b28 0) (.int .i64 (i:Int)) p q (InvH F s20) (F.H.length-i) K R s2:=λp q bd h h1 h2 {s2} k2=>by
  unfold qI3;rw[h];simp only[qAA];refine qBI (λq1=>?_) λq1=>hbad (h1 q1) k2 _ _ _ (by omega);have g12':=qUZ g12 k2;have g22':=qUZ g22 k2;rw[g11];simp only[qAA,g12'];refine qAF (λq2=>?_) (λq2=>?_)
  ·subst q2
   refine qAJ (a:=.bool true) rfl ?_;refine qBI (λq=>by cases q) λq=>hbad (λg=>g.dm (g13.1 rfl)) k2 _ _ _ (by omega)
  ·subst q2
   have hdm:(x.2.2.1,x.1) ∉ ((F.H.take i).map λy=>(y.2.2.1,y.1)):=λz=>by cases g13.2 z
   simp only[qAG,zA,qAA,qAL (k2 _ _ h30),a1,qAY,qAU,Bool.true_bne];refine qAF (λq3=>?_) (λq3=>?_)
   ·rw[g21]
    simp only[qAA,g22',q3];have hne:x.2.1≠0:=by simpa using q3
    exact j7 _ _ w2 (by cases w2<;>exact qAJ (a:=.bool _) rfl (qAJ (a:=.bool _) rfl rfl)) (λq4 g=>g.di hne (g23.1 q4)) (λq4=>h2 q1 hdm λ_ z=>by rw[g23.2 z]at q4;cases q4) k2
   ·rw[q3]
    have he:x.2.1=0:=by simpa using q3
    exact j7 _ _ false (qAJ (a:=.bool false) rfl (qAJ (a:=.bool false) rfl rfl)) (λq4=>by cases q4) (λq4=>h2 q1 hdm λz=>absurd he z) k2
 have j5:∀(p q:AV) (bd:Bool),qAT p (.bool true) q=some (.bool bd)->(bd=true->¬HoRow F i x)->(bd=false->(∀d,F.B[x.2.2.1.toNat]?=some d->qLa d x.2.1=true)->(x.2.2.1,x.1) ∉ ((F.H.take i).map λy=>(y.2.2.1,y.1))->(x.2.1≠0->(x.2.2.1,x.2.1) ∉ (F.H.take i).map λy=>(y.2.2.1,y.2.1))->HoRow F i x)->(0<=x.2.2.1/\x.2.2.1<(F.B.length:Int))->∀{s2:Hq},Sub s30 s2->qJA X0 (.ptr b3 0) ma ia (.int .i64 (i:Int)) (.ptr b28 0) (.int .i64 (i:Int)) p q (InvH F s20) (F.H.length-i) K R s2:=λp q bd h h1 h2 hr {s2} k2=>by
  unfold qJA;rw[h];simp only[qAA];refine qAF (λq1=>?_) (λq1=>?_)
  ·exact j6 _ _ true (by rw[q1];rfl) (λ_=>h1 q1) (λq2=>by cases q2) k2
  ·have hb:x.2.2.1.toNat<F.B.length:=by omega
   have hd:F.B[x.2.2.1.toNat]?=some F.B[x.2.2.1.toNat]:=gEY hb;generalize F.B[x.2.2.1.toNat]=d at hd;obtain⟨pb,po,f1,f2,_⟩:=(hL3.B.sub k2).get (i:=x.2.2.1.toNat) (r:=bgC d) (by rw[List.getElem?_map,hd];rfl);rw[show((x.2.2.1.toNat:Nat):Int)=x.2.2.1 by omega]at f1;simp only[qAG,zA,qAA,qAL (k2 _ _ h3),csG4,qAL (k2 _ _ h30),a2,f1,f2,a1];refine qTA X0_0 (λq3=>?_) λs94 k94=>?_
   ·have:=((hD.row _ d hd).s.2 q3).2.1
    omega
   ·simp only[qAX,qAA]
    exact j6 _ _ (!qLa d x.2.1) (by rw[q1];rfl) (λq2 g=>by rw[g.a.2 d hd]at q2;cases q2) (λq2=>h2 q1 λd' hd'=>by rw[hd]at hd';cases hd';simpa using q2) (k2.trans k94)
 have j4:∀(p q:AV) (ok:Bool),qAT p q (.bool false)=some (.bool ok)->(ok=true->¬HoRow F i x)->(ok=false->(x.1≠1577058561/\qFi x.1=false)->(∀d,F.B[x.2.2.1.toNat]?=some d->qLa d x.2.1=true)->(x.2.2.1,x.1) ∉ ((F.H.take i).map λy=>(y.2.2.1,y.1))->(x.2.1≠0->(x.2.2.1,x.2.1) ∉ (F.H.take i).map λy=>(y.2.2.1,y.2.1))->HoRow F i x)->(0<=x.2.2.1/\x.2.2.1<(F.B.length:Int))->∀{s2:Hq},Sub s30 s2->qJF X0 (.ptr b3 0) ma ia (.int .i64 (i:Int)) (.ptr b28 0) (.int .i64 (i:Int)) p q (InvH F s20) (F.H.length-i) K R s2:=λp q ok h h1 h2 hr {s2} k2=>by
  unfold qJF;rw[h];simp only[qAA];refine qBI (λq1=>?_) λq1=>hbad (h1 q1) k2 _ _ _ (by omega);simp only[qAG,zA,qAA,qAL (k2 _ _ h30),a0];refine zAAA X0_0 λr=>?_;refine qAJ (a:=.int .i64 r) rfl (qAJ (a:=.bool (qFi x.1)) rfl ?_);simp only[qAA,qAL (k2 _ _ h30),a0,qAY,qAU,Bool.false_bne];refine qAF (λq2=>?_) (λq2=>?_)
  ·rw[q2]
   exact j5 _ _ true rfl (λ_ g=>g.a.1.1 (by simpa using q2)) (λq=>by cases q) hr k2
  ·rw[q2]
   exact j5 _ _ (qFi x.1) rfl (λq3 g=>by rw[g.a.1.2]at q3;cases q3) (λq3=>h2 q1 ⟨by simpa using q2,q3⟩) hr k2
 have j3:∀(p q:AV) (bd:Bool),qAT p (.bool true) q=some (.bool bd)->(bd=true->¬HoRow F i x)->(bd=false->((0<=x.2.2.1/\x.2.2.1<(F.B.length:Int))/\(-1<=x.2.2.2/\x.2.2.2<=(F.S.length:Int)-1))/\((x.2.2.2≠-1->∀y,F.S[x.2.2.2.toNat]?=some y->x.2.2.1∈y.2)->(x.1≠1577058561/\qFi x.1=false)->(∀d,F.B[x.2.2.1.toNat]?=some d->qLa d x.2.1=true)->(x.2.2.1,x.1) ∉ ((F.H.take i).map λy=>(y.2.2.1,y.1))->(x.2.1≠0->(x.2.2.1,x.2.1) ∉ (F.H.take i).map λy=>(y.2.2.1,y.2.1))->HoRow F i x))->∀{s2:Hq},Sub s30 s2->qJT X0 (.ptr b3 0) ma ia (.int .i64 (i:Int)) (.ptr b28 0) (.int .i64 (i:Int)) p q (InvH F s20) (F.H.length-i) K R s2:=λp q bd h h1 h2 {s2} k2=>by
  unfold qJT;rw[h];simp only[qAA];refine qBI (λq1=>?_) λq1=>hbad (h1 q1) k2 _ _ _ (by omega);obtain⟨⟨r1,r2⟩,ok⟩:=h2 q1;simp only[qAG,zA,qAA,qAL (k2 _ _ h30),a3,qAY,qAU,Bool.true_bne];refine qAF (λq2=>?_) (λq2=>?_)
  ·have hne:x.2.2.2≠-1:=by simpa using q2
   have hb:x.2.2.2.toNat<F.S.length:=by omega
   have hy:F.S[x.2.2.2.toNat]?=some F.S[x.2.2.2.toNat]:=gEY hb;have hym:F.S[x.2.2.2.toNat]∈F.S:=List.getElem_mem hb;generalize F.S[x.2.2.2.toNat]=y at hy hym;obtain⟨pb,po,l1,l2,f1,_,_,f4,_,f5⟩:=(hL3.S.sub k2).at hy;rw[show((x.2.2.2.toNat:Nat):Int)=x.2.2.2 by omega]at f1;simp only[qAG,qAA,qAL (k2 _ _ h3),csG5,f1,f4,a2];refine qPd X0_0 (hnn y hym).2 f5 ?_;simp only[qAX,qAA];rw[q2];exact j4 _ _ (!decide (x.2.2.1∈y.2)) rfl (λq3 g=>by have:=g.s hne y hy;simp[this]at q3) (λq3=>ok λ_ y' hy'=>by rw[hy]at hy';cases hy';simpa using q3) r1 k2
  ·rw[q2]
   have he:x.2.2.2=-1:=by simpa using q2
   exact j4 _ _ false rfl (λq3=>by cases q3) (λ_=>ok λz=>absurd he z) r1 k2
 have j2:∀(p q:AV) (bd:Bool),qAT p (.bool true) q=some (.bool bd)->(bd=true->¬HoRow F i x)->(bd=false->x.1≠0/\x.1<=281474976710655/\qTb x.1=false)->qJQ X0 (.ptr b3 0) ma ia (.int .i64 (i:Int)) (.ptr b28 0) (.int .i64 (i:Int)) p q (InvH F s20) (F.H.length-i) K R s30:=λp q bd h h1 h2=>by
  unfold qJQ;rw[h];simp only[qAA];refine qBI (λq1=>?_) λq1=>hbad (h1 q1) (.refl _) _ _ _ (by omega);have gm:=h2 q1;simp only[qAG,zA,qAA,qAL h30,a2,qAL h3,csG4,lenB];refine qHK X0_0 ?_;simp only[qAX,qAA];refine qAF (λq2=>?_) (λq2=>?_)
  ·exact j3 _ _ true (by rw[q2];rfl) (λ_ g=>by rw[qMw.2 g.r.1]at q2;cases q2) (λq3=>by cases q3) (.refl _)
  ·have hin:inB x.2.2.1 (F.B.length:Int)=true:=by simpa using q2
   simp only[qAA,qAL h30,a3,qAL h3,csG5,lenS,qAx];rw[qAc (by omega) (by omega)];refine qB9 X0_0 ?_;exact j3 _ _ (outB x.2.2.2 (-1) ((F.S.length:Int)-1)) (by rw[q2];rfl) (λq3 g=>by have:=qAn.2 g.r.2;rw[this]at q3;cases q3) (λq3=>⟨⟨qMw.1 hin,qAn.1 q3⟩,λz1 z2 z3 z4 z5=>⟨gm,⟨qMw.1 hin,qAn.1 q3⟩,z1,⟨z2,z3⟩,z4,z5⟩⟩) (.refl _)
 have j1:∀(p q:AV) (bd:Bool),qAT p (.bool true) q=some (.bool bd)->(bd=true->¬HoRow F i x)->(bd=false->x.1≠0/\x.1<=281474976710655)->qJV X0 (.ptr b3 0) ma ia (.int .i64 (i:Int)) (.ptr b28 0) (.int .i64 (i:Int)) p q (InvH F s20) (F.H.length-i) K R s30:=λp q bd h h1 h2=>by
  unfold qJV;rw[h];simp only[qAA];refine qAF (λq1=>?_) (λq1=>?_)
  ·exact j2 _ _ true (by rw[q1];rfl) (λ_=>h1 q1) (λq2=>by cases q2)
  ·simp only[qAG,zA,qAA,qAL h30,a0]
   refine qTx X0_0 ?_;exact j2 _ _ (qTb x.1) (by rw[q1];rfl) (λq2 g=>by rw[g.m.2.2]at q2;cases q2) (λq2=>⟨(h2 q1).1,(h2 q1).2,q2⟩)
 simp only[qAG,zA,qAA,qAL h30,a0,qAY,qAU,Bool.false_bne];refine qAF (λq1=>?_) (λq1=>?_)
 ·exact j1 _ _ true (by rw[q1];rfl) (λ_ g=>g.m.1 (by simpa using q1)) (λq2=>by cases q2)
 ·simp only[qAA,qAp]
  exact j1 _ _ (decide (281474976710655<x.1)) (by rw[q1];rfl) (λq2 g=>by have:=oT q2;have:=g.m.2.1;omega) (λq2=>⟨by simpa using q1,by have:=oF q2;omega⟩)
end Go.AM.TN
set_option maxRecDepth 100000
namespace Go.AM.TN
open Go Go.Proofs
variable {K R:AV→Hq→Prop} {s:Hq} {y k:AV} {b c:Nat} {F:FG} {v2 v3 v4 v5 v6 v7:AV} {t:Bool} {J:AV→Hq→Prop}
structure LeRow(F:FG)(i:Nat)(x:R4):Prop where
 r:(0<=x.1/\x.1<(F.T.length:Int))/\(0<=x.2.1/\x.2.1<(F.T.length:Int))
 p:x.1≠x.2.1/\qFG x.2.2.1 x.2.2.2=true
 d:x ∉ F.G.take i
structure LeaOk(F:FG):Prop where
 n:F.G.length<=256
 row:∀(i:Nat) x,F.G[i]?=some x->LeRow F i x
abbrev InvG(F:FG)(s16:Hq):List AV->Hq->Nat->Prop:=λys t m=>∃i:Nat,ys=[.int .i64 (i:Int)]/\i<=F.G.length/\m=F.G.length-i/\Sub s16 t/\∀(j:Nat) x,j<i->F.G[j]?=some x->LeRow F j x
theorem zACY(hn:F.G.length<=4294967296)(hc:s c=some (t,.cells 150 (csG F v2 v3 v4 v5 v6 v7)))(hL:FL s F v2 v3 v4 v5 v6 v7)(hK:Kok s (LeaOk F) K)(hR:Rbad s (LeaOk F) R):qAh TP X0 SS 94 [.ptr c 0] K R s:=by
 refine qUY (qMv rfl hc hL λb3 s5 h5 k5=>?_);have hL5:=(hL.sub k5).G;have hlen:qAQ v7=some F.G.length:=by rw[hL5.len,lMY]
 have lenT:qAQ v3=some F.T.length:=by rw[hL.T.len,lMY]
 simp only[qAG,zA,qAA,qAL h5,csG7,hlen,qAp];refine qBI (λq=>?_) λq=>hR (λg=>by have:=oT q;have:=g.n;omega) _ _ _ s5 (by omega) k5;have hn256:F.G.length<=256:=by have:=oF q;omega
 simp only[qAL h5,csG7,qAA];refine zAGa X0_0 (rows:=F.G) (rowC:=ggC) (λ_=>rfl) (λ_=>rfl) (kf:=λx=>ggC x) zAG9 (λx=>⟨_,rfl⟩) (λ_=>rfl) (λ_=>rfl) (λx s J=>zAFW X0_0 x s J) hL5 (by omega) λs16 again k16 rep=>?_;have h16:=k16 _ _ h5;simp only[qAL h16,csG7,qAA,hlen];have hinj:∀x y:R4,(AV.agg (ggC x)=AV.agg (ggC y))↔x=y:=λx y=>by obtain⟨a,b,c,d⟩:=x;obtain⟨a',b',c',d'⟩:=y;simp[ggC]
 refine⟨InvG F s16,⟨_,0,rfl,by omega,rfl,.refl _,λj x hj=>by omega⟩,?_⟩;rintro f t m ⟨i,hy,hi,rfl,kt,hall⟩;simp only[cI,and_true]at hy;rw[hy];simp only[qO9,qAS,qAA];refine qAF (λhlt=>?_) (λhge=>?_)
 rotate_left
 ·have hge:i=F.G.length:=by have:=oF hge;omega
  subst hge;exact hK ⟨hn256,λj x hx=>hall j x (gS hx).1 hx⟩ t (k5.trans (k16.trans kt))
 have hlt:i<F.G.length:=by have:=oT hlt;omega
 have hx:F.G[i]?=some F.G[i]:=gEY hlt;generalize F.G[i]=x at hx;obtain⟨pb,po,e1,e2,_⟩:=(hL5.sub (k16.trans kt)).get (i:=i) (r:=ggC x) (by rw[List.getElem?_map,hx];rfl);rw[e1];simp only[qAA,e2];refine qAP λb24 s25 hb24 h25 u25=>qAZ h25 rfl rfl rfl λs26 h26 u26=>?_;have k26:Sub t s26:=qAa (u25.sub hb24) u26 hb24;have h3:s26 b3=some (false,.cells 31 (csG F v2 v3 v4 v5 v6 v7)):=k26 _ _ (kt _ _ h16);have kall:Sub s s26:=k5.trans (k16.trans (kt.trans k26));have a0:(ggC x)[0]?=some (.int .i64 x.1):=rfl;have a1:(ggC x)[1]?=some (.int .i64 x.2.1):=rfl;have rx:∀{s2:Hq},Sub s26 s2->rdN s2 2 (.ptr b24 2)=some (pfC x.2.2.1 x.2.2.2):=fun {s2} q=>by simp only[rdN,q _ _ h26];rfl
 obtain⟨p1,w1,g1,g2,g3⟩:=(rep.sub (kt.trans k26)).at (j:=i) (k:=.agg (ggC x)) (by rw[List.getElem?_map,hx];rfl);rw[<- List.map_take,qEq (g:=λx=>x) hinj,List.map_id']at g3;have hbad:∀{s2:Hq},¬LeRow F i x->Sub s26 s2->∀(e:Int) (p:ByteArray) (i:Int),e≠0->R (flV e p i) s2:=fun {s2} q k2 e p i he=>hR (λg=>q (g.row _ x hx)) e p i s2 he (kall.trans k2);have j2:∀(p q:AV) (bd:Bool),qAT p (.bool true) q=some (.bool bd)->(bd=true->¬LeRow F i x)->(bd=false->x ∉ F.G.take i->LeRow F i x)->∀{s2:Hq},Sub s26 s2->qJS X0 again (.int .i64 (i:Int)) (.int .i64 (i:Int)) p q (InvG F s16) (F.G.length-i) K R s2:=λp q bd h h1 h2 {s2} k2=>by
  unfold qJS;rw[h];simp only[qAA];refine qBI (λq1=>?_) λq1=>hbad (h1 q1) k2 _ _ _ (by omega);have g2':=qUZ g2 k2;rw[g1];simp only[qAA,g2'];refine qBI (λq2=>?_) λq2=>hbad (λg=>g.d (g3.1 q2)) k2 _ _ _ (by omega);simp only[qAV,qAA];rw[qAc (by omega) (by omega)];refine⟨_,by omega,i+1,rfl,by omega,rfl,kt.trans (k26.trans k2),λj z hj hz=>?_⟩
  by_cases e:j<i
  ·exact hall j z e hz
  ·have:j=i:=by omega
   subst this;rw[hx]at hz;cases hz;exact h2 q1 λq3=>by rw[g3.2 q3]at q2;cases q2
 have j1:∀(p q:AV) (bd:Bool),qAT p (.bool true) q=some (.bool bd)->(bd=true->¬LeRow F i x)->(bd=false->(0<=x.1/\x.1<(F.T.length:Int))/\(0<=x.2.1/\x.2.1<(F.T.length:Int)))->qJc X0 again (.int .i64 (i:Int)) (.ptr b24 0) (.int .i64 (i:Int)) p q (InvG F s16) (F.G.length-i) K R s26:=λp q bd h h1 h2=>by
  unfold qJc;rw[h];simp only[qAA];refine qBI (λq1=>?_) λq1=>hbad (h1 q1) (.refl _) _ _ _ (by omega);simp only[qAG,zA,qAA,qAL h26,a0,a1,qAY,qAU,Bool.false_bne];refine qAF (λq2=>?_) (λq2=>?_)
  ·exact j2 _ _ true (by rw[q2];rfl) (λ_ g=>g.p.1 (by simpa using q2)) (λq=>by cases q) (.refl _)
  ·rw[rx (.refl _)]
   simp only[qAA];refine qVm X0_0 λs55 k55=>?_;simp only[qAX,qAA];exact j2 _ _ (!qFG x.2.2.1 x.2.2.2) (by rw[q2];rfl) (λq3 g=>by rw[g.p.2]at q3;cases q3) (λq3 z=>⟨h2 q1,⟨by simpa using q2,by simpa using q3⟩,z⟩) k55
 simp only[qAG,zA,qAA,qAL h26,a0,qAL h3,csG3,lenT];refine qHK X0_0 ?_;simp only[qAX,qAA];refine qAF (λq1=>?_) (λq1=>?_)
 ·exact j1 _ _ true (by rw[q1];rfl) (λ_ g=>by rw[qMw.2 g.r.1]at q1;cases q1) (λq2=>by cases q2)
 ·have hin:inB x.1 (F.T.length:Int)=true:=by simpa using q1
  simp only[qAA,qAL h26,a1,qAL h3,csG3,lenT];refine qHK X0_0 ?_;simp only[qAX,qAA];exact j1 _ _ (!inB x.2.1 (F.T.length:Int)) (by rw[q1];rfl) (λq2 g=>by rw[qMw.2 g.r.2]at q2;cases q2) (λq2=>⟨qMw.1 hin,qMw.1 (by simpa using q2)⟩)
end Go.AM.TN
set_option maxRecDepth 100000
namespace Go.AM.TN
open Go Go.Proofs
variable {K R:AV→Hq→Prop} {s s':Hq} {b c:Nat} {cs:List AV} {Y:Td} {F:FG} {v2 v3 v4 v5 v6 v7:AV} {t:Bool} {J:AV→Hq→Prop}
structure Sz(F:FG):Prop where
 L:F.L.length<=4294967296
 T:F.T.length<=4294967296
 B:F.B.length<=4294967296
 S:F.S.length<=4294967296
 H:F.H.length<=4294967296
 G:F.G.length<=4294967296
 N:∀x∈F.S,x.1.length<=4294967296/\x.2.length<=4294967296
 I:∀x∈F.H,0<=x.2.1/\x.2.1<4294967296
def VS(F:FG):Nat->Prop
 | 0=>FabOk F
 | 1=>TimOk F
 | 2=>LinksOk F
 | 3=>TenOk F
 | 4=>DomOk F
 | 5=>SegOk F
 | 6=>HosOk F
 | 7=>LeaOk F
 |_=>True
def Valid(F:FG):Prop:=∀i,i<8->VS F i
theorem zAEc(z:Sz F){i:Nat}(hi:i<8)(hall:∀j,j<i->VS F j)(hc:s c=some (t,.cells 150 (csG F v2 v3 v4 v5 v6 v7)))(hL:FL s F v2 v3 v4 v5 v6 v7)(hK:Kok s (VS F i) K)(hR:Rbad s (VS F i) R):qAh TP X0 SS (87+i) [.ptr c 0] K R s:=by
 match i,hi with
 | 0,_=>exact qYH hc hL hK hR
 | 1,_=>exact qYi hc hK hR
 | 2,_=>exact zABq (hall 0 (by omega)) z.L hc hL hK hR
 | 3,_=>exact qXK z.T hc hL hK hR
 | 4,_=>exact qXs (show TenOk F from hall 3 (by omega)).n z.B hc hL hK hR
 | 5,_=>exact qUf (hall 0 (by omega)) (show DomOk F from hall 4 (by omega)).n z.S z.N hc hL hK hR
 | 6,_=>exact zABQ (hall 4 (by omega)) (show SegOk F from hall 5 (by omega)).n z.H z.N z.I hc hL hK hR
 | 7,_=>exact zACY z.G hc hL hK hR
 |n+8,h=>omega
theorem zACU{cd:Code}{env:Env}:qVe cd env=qOa cd env .nilIface:=by unfold qVe qOa;cases qIe cd<;>rfl
theorem qUr{t0 t1 t2:AV}(h:qDF X0 t0 t1 t2 .nilIface K s):zACJ TP X0 61 [t0,t1,t2] (λs=>K (.tup []) s) s:=
 qX0 qLV nA0 Tryz.func61 (by kernel_rfl:Tryz.f61.body=some (qAr Tryz.f61)) (by kernel_rfl) (by kernel_rfl) (by kernel_rfl) (by rw[zACU];exact(qGi X0 t0 t1 t2 .nilIface K s).mpr h)
theorem zAAs{f:FuncId}{args:List AV}(h1:SS f=true)(h2:isFn TP f=true)(h:qAh TP X0 SS f args K R s):qWf TP X0 SS (.fn (.func f) [] []) args K R s:=by unfold qWf;simp only[h1,cond_true,List.nil_append,List.append_nil];exact⟨h2,h⟩
def chk:List AV:=[.fn (.func 87) [] [],.fn (.func 88) [] [],.fn (.func 89) [] [],.fn (.func 90) [] [],.fn (.func 91) [] [],.fn (.func 92) [] [],.fn (.func 93) [] [],.fn (.func 94) [] []]
theorem zAEH{i:Nat}(h:i<8):chk[i]?=some (.fn (.func (87+i)) [] [])/\SS (87+i)=true/\isFn TP (87+i)=true:=by
 match i,h with
 | 0,_=>exact⟨rfl,rfl,by kernel_rfl⟩
 | 1,_=>exact⟨rfl,rfl,by kernel_rfl⟩
 | 2,_=>exact⟨rfl,rfl,by kernel_rfl⟩
 | 3,_=>exact⟨rfl,rfl,by kernel_rfl⟩
 | 4,_=>exact⟨rfl,rfl,by kernel_rfl⟩
 | 5,_=>exact⟨rfl,rfl,by kernel_rfl⟩
 | 6,_=>exact⟨rfl,rfl,by kernel_rfl⟩
 | 7,_=>exact⟨rfl,rfl,by kernel_rfl⟩
 |n+8,h=>omega
theorem qZh(hY:Fn0 Y)(hK:∀b s',s b=none->s' b=some (false,.cells 153 chk)->Sub s s'->K (.slc b 0 8 (some 8) 1) s'):wC TP Y 62 [] K s:=by refine qTP hY.fr (hY.no _ rfl) ?_;unfold qSy;refine qAJ (a:=chk) rfl ⟨rfl,qAP λb s2 hb h2 u2=>?_⟩;exact hK b s2 hb h2 (u2.sub hb)
theorem qZo{i:Nat}:∀(l:List (Hq×Hq)) {s:Hq},(∀p∈l,p.1 i=p.2 i)->cutH l s i=s i
 |[],_,_=>rfl
 | p::l,s,h=>by
   show cutH l _ i=_;rw[qZo l λq hq=>h q (mO _ hq)];show(if p.1 i=none/\p.2 i≠none then none else s i)=_;rw[if_neg];rintro ⟨h1,h2⟩;exact h2 (by rw[<- h p List.mem_cons_self];exact h1)
theorem zAED(z:Sz F)(hF:FabR s cs F)(h1:Valid F->∀s',Sub s s'->K (.tup [.int .i64 0,.str ⟨#[]⟩,.int .i64 0]) s')(h2:¬Valid F->∀(e:Int) (p:ByteArray) (i:Int) s',e≠0->Sub s s'->K (.tup [.int .i64 e,.str p,.int .i64 i]) s'):qAh TP X0 SS 31 [.agg cs] K (λ_ _=>False) s:=by
 obtain⟨v2,v3,v4,v5,v6,v7,rfl,hL⟩:=hF;refine qLn ⟨hL.all,qAP λb0 s1 hb0 q0 u0=>qAP λb2 s3 hb2 q2 u2=>qAP λb4 s5 hb4 q4 u4=>qAP λb6 s7 hb6 q6 u6=>⟨by show isFn TP 61=true;kernel_rfl,?_⟩⟩;have q0:s1 b0=some (false,.cells 31 (csG F v2 v3 v4 v5 v6 v7)):=q0;have k1:=u0.sub hb0;have k3:=u2.sub hb2;have k5:=u4.sub hb4;have k7:=u6.sub hb6;have q0':=k7 _ _ (k5 _ _ (k3 _ _ q0));refine qAJ (qAb q0' rfl) (qAJ (a:=csG F v2 v3 v4 v5 v6 v7) rfl ⟨hL.all,qAP λb10 s11 hb10 q10 u10=>?_⟩);have q10:s11 b10=some (false,.cells 150 (csG F v2 v3 v4 v5 v6 v7)):=q10;have k11:=u10.sub hb10;refine qZh X0_0 λb12 s13 hb12 q12 k13=>qAJ (a:=8) rfl ?_;have m2:s13 b2=some (false,.cells 95 [.int .i64 0]):=k13 _ _ (k11 _ _ (k7 _ _ (k5 _ _ q2)));have m4:s13 b4=some (false,.cells 9 [.str ⟨#[]⟩]):=k13 _ _ (k11 _ _ (k7 _ _ q4));have m6:s13 b6=some (false,.cells 3 [.int .i64 0]):=k13 _ _ (k11 _ _ q6);have m10:=k13 _ _ q10;have kk:Sub s s13:=k1.trans (k3.trans (k5.trans (k7.trans (k11.trans k13))));have n2:s b2=none:=by
  cases e:s b2 with
  |none=>rfl
  |some x=>rw[k1 _ _ e]at hb2;cases hb2
 have n4:s b4=none:=by
  cases e:s b4 with
  |none=>rfl
  |some x=>rw[k3 _ _ (k1 _ _ e)]at hb4;cases hb4
 have n6:s b6=none:=by
  cases e:s b6 with
  |none=>rfl
  |some x=>rw[k5 _ _ (k3 _ _ (k1 _ _ e))]at hb6;cases hb6
 have d24:b2≠b4:=λe=>by rw[<- e,q2]at hb4;cases hb4
 have d26:b2≠b6:=λe=>by rw[<- e,k5 _ _ q2]at hb6;cases hb6
 have d46:b4≠b6:=λe=>by rw[<- e,q4]at hb6;cases hb6
 have three:∀{J:AV->Hq->Prop}{s2:Hq}(e:Int) (p:ByteArray) (i:Int),Sub s13 s2->(∀s3,Sub s s3->s3 b2=some (false,.cells 95 [.int .i64 e])->s3 b4=some (false,.cells 9 [.str p])->s3 b6=some (false,.cells 3 [.int .i64 i])->J (.tup []) s3)->oK (wr1 s2 (.ptr b2 0) (.int .i64 e)) λs3=>oK (wr1 s3 (.ptr b4 0) (.str p)) λs4=>oK (wr1 s4 (.ptr b6 0) (.int .i64 i)) λs5=>J (.tup []) s5:=fun {J} {s2} e p i k2 h=>by refine qCH (k2 _ _ m2) (by simp) rfl λs3 h3 u3=>?_;refine qCH (by rw[u3 _ (Ne.symm d24)];exact k2 _ _ m4) (by simp) rfl λs4 h4 u4=>?_;refine qCH (by rw[u4 _ (Ne.symm d46),u3 _ (Ne.symm d26)];exact k2 _ _ m6) (by simp) rfl λs5 h5 u5=>?_;exact h s5 (qAa (qAa (qAa (kk.trans k2) u3 n2) u4 n4) u5 n6) (by rw[u5 _ d26,u4 _ d24];exact h3) (by rw[u5 _ d46];exact h4) h5
 refine⟨λys t m=>∃i:Nat,ys=[.int .i64 (i:Int)]/\i<=8/\m=8-i/\Sub s13 t/\∀j,j<i->VS F j,⟨_,0,rfl,by omega,rfl,.refl _,λj hj=>by omega⟩,?_⟩;rintro f t m ⟨i,hy,hi,rfl,kt,hall⟩;simp only[cI,and_true]at hy;rw[hy];simp only[qHm,qAS,qAA];refine qAF (λhlt=>?_) (λhge=>?_)
 ·have hlt:i<8:=by have:=oT hlt;omega
  obtain⟨g1,g2,g3⟩:=zAEH hlt;have e1:qAM 1 (.slc b12 0 8 (some 8) 1) (.int .i64 (i:Int))=some (.ptr b12 i):=by
   have:Nat.blt i 8=true:=by rw[Nat.blt_eq];exact hlt
   simp[qAM,this]
  rw[e1];simp only[qAA,qAL (kt _ _ q12),g1];refine zAAs g2 g3 (zAEc z hlt hall (kt _ _ m10) (hL.sub (kk.trans kt)) (λhv s20 k20=>?_) (λhv e p x s23 he k23=>?_))
  ·simp only[qAV,qAA]
   rw[qAc (by omega) (by omega)];refine⟨_,by omega,i+1,rfl,by omega,rfl,kt.trans k20,λj hj=>?_⟩
   by_cases e:j<i
   ·exact hall j e
   ·have:j=i:=by omega
    rw[this];exact hv
  ·refine qKz (K:=λ_ s_24=>oK (rd1 s_24 (.ptr b2 0)) λerr2_25=>oK (rd1 s_24 (.ptr b4 0)) λpart3_26=>oK (rd1 s_24 (.ptr b6 0)) λindex4_27=>K (.tup [err2_25,part3_26,index4_27]) s_24) ?_
   unfold qDF flV;refine qAJ (a:=.bool false) rfl ?_;simp only[qAK];refine qAJ (a:=.tup [.agg [.int .i64 e,.str p,.int .i64 x],.bool true]) rfl (qAJ (a:=.bool true) rfl (qAJ (a:=.agg [.int .i64 e,.str p,.int .i64 x]) rfl ?_));simp only[];refine qAP λb4' s5' hb' h5' u5'=>qAZ h5' rfl rfl rfl λs6 h6 u6=>?_;have k6:Sub t s6:=k23.trans (qAa (u5'.sub hb') u6 hb');have a0:[AV.int .i64 e,.str p,.int .i64 x][0]?=some (.int .i64 e):=rfl;have a1:[AV.int .i64 e,.str p,.int .i64 x][1]?=some (.str p):=rfl;have a2:[AV.int .i64 e,.str p,.int .i64 x][2]?=some (.int .i64 x):=rfl;simp only[qAG,zA,qAA,qAL h6,a0,a1,a2];have ne2:b2≠b4':=λe=>by rw[<- e,k23 _ _ (kt _ _ m2)]at hb';cases hb'
   have ne4:b4≠b4':=λe=>by rw[<- e,k23 _ _ (kt _ _ m4)]at hb';cases hb'
   have j2:s6 b2=_:=k6 _ _ (kt _ _ m2);have j4:s6 b4=_:=k6 _ _ (kt _ _ m4);have j6:s6 b6=_:=k6 _ _ (kt _ _ m6);refine⟨?_,?_⟩
   ·show cutH _ s6 b2≠none
    rw[qZo,j2]
    ·simp
    ·intro q hq
     simp only[List.mem_cons,List.not_mem_nil,or_false]at hq;rcases hq with rfl|rfl<;>exact qFy ne2
   refine qCH j2 (by simp) rfl λs3 h3 u3=>⟨?_,?_⟩
   ·show cutH _ s3 b4≠none
    rw[qZo,u3 _ (Ne.symm d24),j4]
    ·simp
    ·intro q hq
     simp only[List.mem_cons,List.not_mem_nil,or_false]at hq;rcases hq with rfl;exact qFy ne4
   refine qCH (by rw[u3 _ (Ne.symm d24)];exact j4) (by simp) rfl λs4 h4 u4=>?_;refine qCH (by rw[u4 _ (Ne.symm d46),u3 _ (Ne.symm d26)];exact j6) (by simp) rfl λs5 h5 u5=>?_;have z2:s5 b2=some (false,.cells 95 [.int .i64 e]):=by rw[u5 _ d26,u4 _ d24];exact h3
   have z4:s5 b4=some (false,.cells 9 [.str p]):=by rw[u5 _ d46];exact h4
   refine qAJ (a:=.int .i64 e) (by rw[qAL z2];rfl) (qAJ (a:=.str p) (by rw[qAL z4];rfl) (qAJ (a:=.int .i64 x) (by rw[qAL h5];rfl) ?_));exact h2 (λg=>hv (g i hlt)) e p x s5 he (qAa (qAa (qAa (kk.trans (kt.trans k6)) u3 n2) u4 n4) u5 n6)
 ·have hge:i=8:=by have:=oF hge;omega
  subst hge;refine three (J:=λ_ s_30=>runK TP X0 (.fn (.func 61) [] [(.ptr b2 0),(.ptr b4 0),(.ptr b6 0)]) (λs_31=>oK (rd1 s_31 (.ptr b2 0)) λerr2_32=>oK (rd1 s_31 (.ptr b4 0)) λpart3_33=>oK (rd1 s_31 (.ptr b6 0)) λindex4_34=>K (.tup [err2_32,part3_33,index4_34]) s_31) s_30) 0 _ 0 kt λs3 k3 h2' h4' h6'=>?_;refine qUr (K:=λ_ s_31=>oK (rd1 s_31 (.ptr b2 0)) λerr2_32=>oK (rd1 s_31 (.ptr b4 0)) λpart3_33=>oK (rd1 s_31 (.ptr b6 0)) λindex4_34=>K (.tup [err2_32,part3_33,index4_34]) s_31) ?_;unfold qDF;refine qAJ (a:=.bool true) rfl ?_;simp only[qAK];refine qAJ (a:=.int .i64 0) (by rw[qAL h2'];rfl) (qAJ (a:=.str ⟨#[]⟩) (by rw[qAL h4'];rfl) (qAJ (a:=.int .i64 0) (by rw[qAL h6'];rfl) ?_));exact h1 hall s3 k3
theorem zAA9(z:Sz F)(hF:FabR s cs F)(h1:Valid F->∀s',Sub s s'->K (.tup [.int .i64 0,.str ⟨#[]⟩,.int .i64 0]) s')(h2:¬Valid F->∀(e:Int) (p:ByteArray) (i:Int) s',e≠0->Sub s s'->K (.tup [.int .i64 e,.str p,.int .i64 i]) s'):wC TP XX 31 [.agg cs] K s:=zAFx rfl (zAED z hF h1 h2)
end Go.AM.TN
set_option maxRecDepth 100000
namespace Go.AM.TN
open Go Go.Proofs
variable {K:AV→Hq→Prop} {s s':Hq} {lv y:AV} {b:Nat} {t:Bool}
theorem cutR{s:Hq}:cutH [(s,s)] s=s:=by
 show(λb=>if s b=none/\s b≠none then none else s b)=s
 funext b
 rw[if_neg];rintro ⟨h1,h2⟩;exact h2 h1
theorem qA2{n lo hi:Int}(hK:K (.bool (!outB n lo hi)) s):wC TP XX 79 [.int .i64 n,.int .i64 lo,.int .i64 hi] K s:=by
 refine qSM ?_;have e:(!outB n lo hi)=(decide (lo<=n)&&decide (n<=hi)):=by unfold outB;rw[Bool.eq_iff_iff];simp
 rw[e]at hK;simp only[qSj,qAy,qAA];refine qAF (λq=>?_) (λq=>?_)
 ·simp only[qBv,qAA,qHs]
  rw[q]at hK ⊢;exact hK
 ·simp only[qHs]
  rw[q]at hK ⊢;exact hK
theorem qS3{ip len:Int}(hK:∀s',Sub s s'->K (.bool (qGg len)) s'):wC TP XX 202 [.agg (pfC ip len)] K s:=by
 refine qIS ⟨rfl,qAP λb s1 hb h1 u1=>?_⟩;have h1:s1 b=some (false,.cells 71 (pfC ip len)):=h1;have e1:(pfC ip len)[1]?=some (.int .i64 len):=rfl;have k1:=u1.sub hb;simp only[qAG,zA,qAA,qAL h1,e1,qAy,qBv];have hk:=hK s1 k1;unfold qGg at hk;refine qAF (λe=>?_) (λe=>?_)
 ·rw[e]at hk ⊢;exact hk
 ·rw[e]at hk ⊢;exact hk
def lowU(len:Int):Int:=IntKind.u32.wrap (shlU 1 (32-len).toNat-1)
theorem qXG{x:Int}:qAj .xor (.int .u32 x)=some (.int .u32 (xorU 4294967295 x)):=by show arith .xor .u32 4294967295 x=_;simp only[arith,qB2];rfl
theorem mskR{len:Int}(h:0<=len/\len<=32):xorU 4294967295 (lowU len)=mskU len:=by
 obtain⟨n,rfl⟩:∃n:Nat,len=n:=⟨len.toNat,by omega⟩
 have:((List.range 33).all λn=>xorU 4294967295 (lowU (n:Int)) == mskU (n:Int))=true:=by kernel_rfl
 have:=List.all_eq_true.1 this n (List.mem_range.2 (by omega));exact eq_of_beq this
theorem qRB{len:Int}(h:0<=len/\len<=32)(hK:K (.int .u32 (mskU len)) s):wC TP XX 203 [.int .i64 len] K s:=by refine qIk ?_;unfold qGC;simp only[qAx,qAA];rw[qAc (by omega) (by omega),qV7 h.2];simp only[qAx,qAA];rw[show IntKind.u32.wrap (shlU 1 (32-len).toNat-1)=lowU len from rfl,qXG,mskR h];exact hK
theorem qN3{x y:Int}:andU x y=((BitVec.ofInt 32 x &&& BitVec.ofInt 32 y).toNat:Int):=by unfold andU;rw[EL.wu32,Int.emod_eq_of_lt (by omega) (by have:=(BitVec.ofInt 32 x &&& BitVec.ofInt 32 y).isLt;omega)]
theorem qVi{x y:Int}:xorU x y=((BitVec.ofInt 32 x ^^^ BitVec.ofInt 32 y).toNat:Int):=by unfold xorU;rw[EL.wu32,Int.emod_eq_of_lt (by omega) (by have:=(BitVec.ofInt 32 x ^^^ BitVec.ofInt 32 y).isLt;omega)]
theorem zAEt{x y:Int}:orU x y=((BitVec.ofInt 32 x |||BitVec.ofInt 32 y).toNat:Int):=by unfold orU;rw[EL.wu32,Int.emod_eq_of_lt (by omega) (by have:=(BitVec.ofInt 32 x |||BitVec.ofInt 32 y).isLt;omega)]
theorem qVq{x:BitVec 32}:BitVec.ofInt 32 (x.toNat:Int)=x:=by rw[BitVec.ofInt_natCast,BitVec.ofNat_toNat,BitVec.setWidth_eq]
theorem zAGf{a b m:Int}:(andU a m == andU b m)=(andU (xorU a b) m == 0):=by
 rw[Bool.eq_iff_iff,beq_iff_eq,beq_iff_eq,qN3,qN3,qN3,qVi,qVq];generalize BitVec.ofInt 32 a=A;generalize BitVec.ofInt 32 b=B;generalize BitVec.ofInt 32 m=M;have e:(A ^^^ B) &&& M=(A &&& M) ^^^ (B &&& M):=by
  ext i hi
  simp only[BitVec.getElem_and,BitVec.getElem_xor];cases A[i]<;>cases B[i]<;>cases M[i]<;>rfl
 rw[e];constructor
 ·intro h
  have h:(A &&& M).toNat=(B &&& M).toNat:=by omega
  rw[BitVec.eq_of_toNat_eq h,BitVec.xor_self];rfl
 ·intro h
  have h:((A &&& M) ^^^ (B &&& M))=0#32:=BitVec.eq_of_toNat_eq (by rw[show(0#32).toNat=0 from rfl];omega);rw[BitVec.xor_eq_zero_iff.1 h]
theorem qIA{ip len x:Int}(hK:∀s',Sub s s'->K (.bool (qCQ ip len x)) s'):wC TP XX 188 [.agg (pfC ip len),.int .u32 x] K s:=by
 refine qGq ⟨rfl,qAP λb s1 hb h1 u1=>?_⟩;have h1:s1 b=some (false,.cells 71 (pfC ip len)):=h1;have k1:=u1.sub hb;refine qAJ (qAb h1 rfl) (qS3 λs4 k4=>?_);have h4:=k4 _ _ h1;have e0:(pfC ip len)[0]?=some (.int .u32 ip):=rfl;have e1:(pfC ip len)[1]?=some (.int .i64 len):=rfl;have hk:=hK s4 (k1.trans k4);unfold qCQ at hk;refine qAF (λe=>?_) (λe=>?_)
 ·simp only[qAG,zA,qAA,qAL h4,e0,e1]
  refine qRB (qMQ.1 e) λ_=>?_;simp only[qIt,qAA,qPQ,cutR,qAL h4,e1];refine qRB (qMQ.1 e) λ_=>?_;rw[e]at hk;rw[<- zAGf]at hk;simp only[qIt,qAA,qAY,qAU,Bool.false_bne,e,qAN,qPQ];exact hk
 ·rw[e]at hk ⊢
  exact hk
theorem qX8{ip len:Int}(h1:qGg len=false->∀s',Sub s s'->K (.tup [.agg (pfC 0 0),.int .i64 2]) s')(h2:qGg len=true->∀s',Sub s s'->K (.tup [.agg (pfC (andU ip (mskU len)) len),.int .i64 0]) s'):wC TP XX 201 [.agg (pfC ip len)] K s:=by
 refine qII ⟨rfl,qAP λb s1 hb q1 u1=>qAP λb2 s3 hb2 q3 u3=>?_⟩;have q1:s1 b=some (false,.cells 71 (pfC ip len)):=q1;have k1:=u1.sub hb;have k3:=u3.sub hb2;refine qAJ (qAb (k3 _ _ q1) rfl) (qS3 λs6 k6=>?_);have q6:=k6 _ _ (k3 _ _ q1);have z6:=k6 _ _ q3;have e0:(pfC ip len)[0]?=some (.int .u32 ip):=rfl;have e1:(pfC ip len)[1]?=some (.int .i64 len):=rfl;have sb2:s b2=none:=qCl k1 hb2;have k06:Sub s s6:=k1.trans (k3.trans k6);simp only[qAX,qAA];refine qAF (λe=>?_) (λe=>?_)
 ·have e:qGg len=false:=by simpa using e
  refine qAJ (a:=[.int .u32 0,.int .i64 0]) rfl (qAZ z6 rfl rfl rfl λs9 h9 u9=>qAJ (qAb h9 rfl) ?_);exact h1 e s9 (qAa k06 u9 sb2)
 ·have e:qGg len=true:=by simpa using e
  simp only[qAG,zA,qAA,qAL q6,e0,e1];refine qRB (qMQ.1 e) λ_=>?_;simp only[qIt,qAA,qPQ,cutR,qAL q6,e1];refine qAJ (a:=pfC (andU ip (mskU len)) len) rfl (qAZ z6 rfl rfl rfl λs9 h9 u9=>qAJ (qAb h9 rfl) ?_);exact h2 e s9 (qAa k06 u9 sb2)
theorem qTM{ip len:Int}(hK:∀s',Sub s s'->K (.bool (qFG ip len)) s'):wC TP XX 187 [.agg (pfC ip len)] K s:=by
 refine qUa ⟨rfl,qAP λb s1 hb q1 u1=>?_⟩;have q1:s1 b=some (false,.cells 71 (pfC ip len)):=q1;have k1:=u1.sub hb;refine qAJ (qAb q1 rfl) (qX8 (λe s4 k4=>?_) λe s4 k4=>?_)
 ·refine qAJ (a:=.agg (pfC 0 0)) rfl (qAJ (a:=.int .i64 2) rfl (qAP λb7 s8 hb7 h8 u8=>qAZ h8 rfl rfl rfl λs9 h9 u9=>?_))
  have hk:=hK s9 (k1.trans (k4.trans (qAa (u8.sub hb7) u9 hb7)));unfold qFG at hk;rw[e]at hk;simp only[qAY,qAU,Bool.false_bne,qAA];exact hk
 ·refine qAJ (a:=.agg (pfC (andU ip (mskU len)) len)) rfl (qAJ (a:=.int .i64 0) rfl (qAP λb7 s8 hb7 h8 u8=>qAZ h8 rfl rfl rfl λs9 h9 u9=>?_))
  have k9:Sub s4 s9:=qAa (u8.sub hb7) u9 hb7;have hk:=hK s9 (k1.trans (k4.trans k9));unfold qFG at hk;rw[e]at hk;have q9:=k9 _ _ (k4 _ _ q1);simp only[qAY,qAU,Bool.false_bne,qAA];show qAK (.bool true) _ _;rw[qAI];refine qAJ (qAb h9 rfl) (qAJ (qAb q9 rfl) ?_);rw[eq41'];simp only[qAU,Bool.false_bne,qAA];have:(andU ip (mskU len) == ip&&len == len)=(andU ip (mskU len) == ip):=by simp
  rw[this];exact hk
theorem zAAC{ip len:Int}(hc:qFG ip len=true)(h:8<=len/\len<=30):IntKind.u32.wrap (ip+lowU len)=qS9 ip len:=by
 unfold qFG at hc;simp only[Bool.and_eq_true,beq_iff_eq]at hc;obtain⟨_,hc⟩:=hc;have hm:=mskR (len:=len) (by omega);rw[<- hm,qN3,qVi,qVq]at hc;unfold qS9;rw[show IntKind.u32.wrap (shlU 1 (32-len).toNat-1)=lowU len from rfl,zAEt,<- qBX,EL.wu32];have hi:∃A:BitVec 32,ip=(A.toNat:Int):=⟨_,hc.symm⟩
 obtain⟨A,rfl⟩:=hi;have hl:∃B:BitVec 32,lowU len=(B.toNat:Int):=by unfold lowU;rw[<- qBX,EL.wu32];refine⟨BitVec.ofNat 32 ((shlU 1 (32-len).toNat-1) % 4294967296).toNat,?_⟩;rw[BitVec.toNat_ofNat];omega
 obtain⟨B,hB⟩:=hl;rw[hB]at hc ⊢;rw[qVq,qVq]at hc ⊢;have h1:A &&& ~~~B=A:=BitVec.eq_of_toNat_eq (by
  have e:BitVec.ofInt 32 4294967295 ^^^ B = ~~~B:=by rw[show BitVec.ofInt 32 4294967295=BitVec.allOnes 32 from by decide,BitVec.allOnes_xor]
  rw[e]at hc;omega)
 have h2:A &&& B=0#32:=by
  rw[<- h1,BitVec.and_assoc]
  ext i hi
  simp
 have h3:=BitVec.add_eq_or_of_and_eq_zero A B h2;rw[<- h3,BitVec.toNat_add];omega
theorem qWP{ip len:Int}(h:0<=len/\len<=32)(hK:∀s',Sub s s'->K (.int .u32 (IntKind.u32.wrap (ip+lowU len))) s'):wC TP XX 189 [.agg (pfC ip len)] K s:=by refine qXx ⟨rfl,qAP λb s1 hb h1 u1=>?_⟩;have h1:s1 b=some (false,.cells 71 (pfC ip len)):=h1;have e0:(pfC ip len)[0]?=some (.int .u32 ip):=rfl;have e1:(pfC ip len)[1]?=some (.int .i64 len):=rfl;simp only[qAG,zA,qAA,qAL h1,e0,e1,qAx];rw[qAc (by omega) (by omega),qV7 h.2];simp only[qAx,qAA,qAV];exact hK s1 (u1.sub hb)
theorem qUT{ip len ip' len':Int}(hK:∀s',Sub s s'->K (.bool (qCQ ip len ip'||qCQ ip' len' ip)) s'):wC TP XX 190 [.agg (pfC ip len),.agg (pfC ip' len')] K s:=by
 refine qRR ⟨rfl,qAP λb s1 hb h1 u1=>⟨rfl,qAP λb2 s3 hb2 h3 u3=>?_⟩⟩;have h1:s1 b=some (false,.cells 71 (pfC ip len)):=h1;have h3:s3 b2=some (false,.cells 71 (pfC ip' len')):=h3;have k1:=u1.sub hb;have k3:=u3.sub hb2;have e0:(pfC ip len)[0]?=some (.int .u32 ip):=rfl;have e0':(pfC ip' len')[0]?=some (.int .u32 ip'):=rfl;refine qAJ (qAb (k3 _ _ h1) rfl) ?_;simp only[qAG,zA,qAA,qAL h3,e0'];refine qIA λs8 k8=>?_;have hk:=λs' (q:Sub s8 s')=>hK s' (k1.trans (k3.trans (k8.trans q)));refine qAF (λe=>?_) (λe=>?_)
 ·rw[e]at hk ⊢
  exact hk s8 (.refl _)
 ·rw[e]at hk ⊢
  refine qAJ (qAb (k8 _ _ h3) rfl) ?_;simp only[qAA,qAL (k8 _ _ (k3 _ _ h1)),e0];exact qIA λs14 k14=>hk s14 k14
theorem zAB4{m:Int}(hK:K (.bool (qTb m)) s):wC TP XX 192 [.int .u64 m] K s:=by
 refine qGY ?_;unfold qEb;have e1:∀x:Int,(andL x 1 != 0)=(andL x 1 == 1):=λx=>by
  have:andL x 1=((BitVec.ofInt 64 x &&& 1#64).toNat:Int):=by unfold andL;rw[show qBF .u64 ((BitVec.ofInt 64 x &&& BitVec.ofInt 64 1).toNat:Nat)=(((BitVec.ofInt 64 x &&& BitVec.ofInt 64 1).toNat:Nat):Int) % 18446744073709551616 from by rw[qBX];simp[IntKind.wrap,IntKind.signed,IntKind.bits],Int.emod_eq_of_lt (by omega) (by have:=(BitVec.ofInt 64 x &&& BitVec.ofInt 64 1).isLt;omega)];rfl
  rw[this,BitVec.toNat_and,show(1#64).toNat=1 from rfl,Nat.and_one_is_mod];rcases Nat.mod_two_eq_zero_or_one (BitVec.ofInt 64 x).toNat with h|h<;>rw[h]<;>rfl
 unfold qTb at hK;rw[e1]at hK;simp only[qBv,qAA];refine qAF (λe=>?_) (λe=>?_)
 ·rw[zAFe]
  simp only[qAA,qQK,qAY,qAU,Bool.false_bne];rw[e]at hK ⊢;exact hK
 ·rw[e]at hK ⊢
  exact hK
theorem qXU{m:Int}(hK:∀r,K (.tup [.int .i64 r,.bool (qFi m)]) s):wC TP XX 193 [.int .u64 m] K s:=by
 refine qGA ?_;unfold qEC;unfold qFi at hK;simp only[qAS,qAA];have j0:∀(p q:AV) (bd:Bool),qAT p (.bool true) q=some (.bool bd)->(decide (m<2199023255552)||decide (2199023255584<=m))=bd->qBQ XX (.int .u64 m) p q K s:=λp q bd h he=>by
  unfold qBQ;rw[h];rw[he]at hK;simp only[qAA];refine qAF (λe=>?_) (λe=>?_)
  ·rw[e]at hK;exact hK 0
  ·rw[e]at hK
   simp only[qAx,qAA];exact hK _
 refine qAF (λe=>?_) (λe=>?_)
 ·exact j0 _ _ true (by rw[e];rfl) (by rw[e];rfl)
 ·simp only[qAy,qAA]
  exact j0 _ _ (decide (2199023255584<=m)) (by rw[e];rfl) (by rw[e];rfl)
theorem qUH{l:List Int}{n:Int}(h:Sl s lv (ix l))(hl:l.length<=4294967296)(hK:K (.bool (decide (n∈l))) s):wC TP XX 102 [lv,.int .i64 n] K s:=by
 refine qY4 ?_;unfold zACj;refine⟨λys t m=>∃i:Nat,ys=[.int .i64 (i:Int)]/\t=s/\i<=l.length/\m=l.length-i/\n ∉ l.take i,⟨_,0,rfl,rfl,by omega,rfl,by simp⟩,?_⟩;rintro e t m ⟨i,hy,rfl,hi,rfl,hn⟩;simp only[cI,and_true]at hy;rw[hy];simp only[qTR,h.len,qCR,qAS,qAA];refine qAF (λhlt=>?_) (λhge=>?_)
 ·have hlt:i<l.length:=by have:=oT hlt;omega
  obtain⟨p,e1,e2⟩:=h.get (i:=i) (by rw[qCR];exact hlt);rw[qJk hlt]at e2;simp only[e1,e2,qAA,qAY,qAU,Bool.false_bne];refine qAF (λq=>?_) (λq=>?_)
  ·have q:l[i]=n:=eq_of_beq q
   have:decide (n∈l)=true:=decide_eq_true (q ▸ List.getElem_mem hlt);rw[this]at hK;exact hK
  ·have q:l[i]≠n:=by simpa using q
   simp only[qAV,qAA];rw[qAc (by omega) (by omega)];refine⟨_,by omega,i+1,rfl,(by trivial),by omega,rfl,λhm=>?_⟩;rw[List.take_succ_eq_append_getElem hlt,List.mem_append,List.mem_singleton]at hm;rcases hm with hm|hm
   ·exact hn hm
   ·exact q hm.symm
 ·have hge:i=l.length:=by have:=oF hge;omega
  subst hge;rw[List.take_length]at hn;rw[decide_eq_false hn]at hK;exact hK
theorem qZn{l:List Int}(h:Sl s lv (ix l))(hl:l.length<=4294967296)(hK:∀r,(r=true↔l.Pairwise (· < ·))->K (.bool r) s):wC TP XX 191 [lv] K s:=by
 refine qPv ?_;unfold qNd;refine⟨λys t m=>∃i:Nat,ys=[.int .i64 ((i+1:Nat):Int)]/\t=s/\i<=l.length/\m=l.length-i/\(l.take (i+1)).Pairwise (· < ·),⟨_,0,rfl,rfl,by omega,rfl,by cases l<;>simp⟩,?_⟩;rintro e t m ⟨i,hy,rfl,hi,rfl,hn⟩;simp only[cI,and_true]at hy;rw[hy];simp only[qKQ,h.len,qCR,qAS,qAA];refine qAF (λhlt=>?_) (λhge=>?_)
 ·have hlt:i+1<l.length:=by have:=oT hlt;omega
  have hlt0:i<l.length:=by omega
  obtain⟨p,e1,e2⟩:=h.get (i:=i+1) (by rw[qCR];exact hlt);rw[qJk hlt]at e2;obtain⟨p',e3,e4⟩:=h.get (i:=i) (by rw[qCR];exact hlt0);rw[qJk hlt0]at e4;simp only[qAx,qAA];rw[qAc (by omega) (by omega),show((i+1:Nat):Int)-1=(i:Int)from by omega];simp only[e1,e2,e3,e4,qAA,qBv];refine qAF (λq=>?_) (λq=>?_)
  ·refine hK false ⟨λh=>(by cases h),λh=>?_⟩
   have:=List.pairwise_iff_getElem.1 h i (i+1) hlt0 hlt (by omega);have:=oT q;omega
  ·have q:=oF q
   simp only[qAV,qAA];rw[qAc (by omega) (by omega)];refine⟨_,by omega,i+1,rfl,(by trivial),by omega,rfl,?_⟩;rw[List.take_succ_eq_append_getElem hlt,List.pairwise_append];refine⟨hn,by simp,λa ha b hb=>?_⟩;rw[List.mem_singleton]at hb;subst hb;rw[List.take_succ_eq_append_getElem hlt0]at hn ha;rcases mP ha with ha|ha
   ·have:=(List.pairwise_append.1 hn).2.2 a ha l[i] (by simp)
    omega
   ·rw[List.mem_singleton]at ha
    omega
 ·have hge:l.length<=i+1:=by have:=oF hge;omega
  rw[List.take_of_length_le hge]at hn;exact hK true ⟨λ_=>hn,λ_=>rfl⟩
end Go.AM.TN
set_option maxRecDepth 100000
namespace Go.AM.TN
open Go Go.Proofs
variable {K:AV→Hq→Prop} {s s':Hq} {k:AV} {b:Nat} {cs:List AV} {F:FG} {v2 v3 v4 v5 v6 v7:AV} {t:Bool} {P:Prop}
abbrev Rok(s:Hq)(P:Prop)(K:AV->Hq->Prop):Prop:=∀(e:Int) (s':Hq),Sub s s'->(e=0↔P)->K (.int .i64 e) s'
theorem Rok.bad(h:Rok s P K){e:Int}(he:e≠0)(k:Sub s s')(hn:¬P):K (.int .i64 e) s':=h e s' k ⟨λh=>absurd h he,λh=>absurd h hn⟩
theorem Rok.good(h:Rok s P K)(k:Sub s s')(hp:P):K (.int .i64 0) s':=h 0 s' k ⟨λ_=>hp,λ_=>rfl⟩
theorem nit{A B:Type}{f:A->B}{l:List A}{k:Nat}{a:A}{b:B}(h:l[k]?=some a):b∈(l.take (k+1)).map f↔b∈(l.take k).map f∨b=f a:=by rw[List.take_add_one,h];simp
theorem qU0(hF:FabR s cs F)(hK:Rok s (FabOk F) K):wC TP XX 99 [.agg cs] K s:=by
 obtain⟨v2,v3,v4,v5,v6,v7,rfl,hL⟩:=hF;refine qR6 ⟨hL.all,qAP λb s1 hb h1 u1=>?_⟩;have h1:s1 b=some (false,.cells 31 (csG F v2 v3 v4 v5 v6 v7)):=h1;have k1:=u1.sub hb;simp only[qAG,zA,qAA,qAL h1,csG0];refine qA2 ?_;simp only[qAX,qAA,Bool.not_not];cases a0:outB F.lf 1 32 with
 | true=>
   simp only[qAI,qFK,qEG,qDY,qCg,qCe,qAN,qAA];exact hK.bad (by decide) k1 λg=>by rw[qAn.2 g.lf]at a0;cases a0
 |false=>
 have g0:=qAn.1 a0;simp only[qAD,qAA,qAL h1,csG1];refine qA2 ?_;simp only[qAX,qAA,Bool.not_not];cases a1:outB F.sp 0 32 with
 | true=>
   simp only[qAI,qFK,qEG,qDY,qCg,qCe,qAN,qAH,qAA];exact hK.bad (by decide) k1 λg=>by rw[qAn.2 g.sp]at a1;cases a1
 |false=>
 have g1:=qAn.1 a1;simp only[qFK,qAH,qAD,qAG,zA,qAA,qAL h1,csG0,csG1,qAV,qAp];rw[qAc (by omega) (by omega)];cases a2:decide (32<F.lf+F.sp)with
 | true=>
   simp only[qAI,qEG,qDY,qCg,qCe,qAN,qAH,qAA];exact hK.bad (by decide) k1 λg=>by have:=oT a2;have:=g.sum;omega
 |false=>
 have g2:=oF a2;simp only[qEG,qAH,qAD,qAG,zA,qAA,qAL h1,csG8];refine qA2 ?_;simp only[qAX,qAA,Bool.not_not];cases a3:outB F.el 0 2 with
 | true=>
   simp only[qAI,qDY,qCg,qCe,qAN,qAH,qAA];exact hK.bad (by decide) k1 λg=>by rw[qAn.2 g.el]at a3;cases a3
 |false=>
 have g3:=qAn.1 a3;simp only[qDY,qAH,qAD,qAG,zA,qAA,qAL h1,csG9];refine qA2 ?_;simp only[qAX,qAA,Bool.not_not];cases a4:outB F.hz 0 1 with
 | true=>
   simp only[qAI,qCg,qCe,qAN,qAH,qAA];exact hK.bad (by decide) k1 λg=>by rw[qAn.2 g.hz]at a4;cases a4
 |false=>
 have g4:=qAn.1 a4;simp only[qCg,qAH,qAD,qAG,zA,qAA,qAL h1,zAFU];refine qA2 ?_;simp only[qAX,qAA,Bool.not_not,qCe,qAH];refine qAF (λq=>?_) (λq=>?_)
 ·exact hK.bad (by decide) k1 λg=>by rw[qAn.2 g.ro]at q;cases q
 ·exact hK.good k1 ⟨g0,g1,by omega,g3,g4,qAn.1 q⟩
theorem qWy(hK:Rok s (TimOk F) K):wC TP XX 100 [.agg [.int .i64 F.de,.int .i64 F.ho,.int .i64 F.ag,.int .i64 F.re,.int .i64 F.mo,.int .i64 F.wi]] K s:=by
 refine qTv ⟨rfl,qAP λb s1 hb h1 u1=>?_⟩;generalize hcs:[AV.int .i64 F.de,.int .i64 F.ho,.int .i64 F.ag,.int .i64 F.re,.int .i64 F.mo,.int .i64 F.wi]=cs at h1;have h1:s1 b=some (false,.cells 29 cs):=h1;have c0:cs[0]?=some (.int .i64 F.de):=by rw[<- hcs];rfl
 have c1:cs[1]?=some (.int .i64 F.ho):=by rw[<- hcs];rfl
 have c2:cs[2]?=some (.int .i64 F.ag):=by rw[<- hcs];rfl
 have c3:cs[3]?=some (.int .i64 F.re):=by rw[<- hcs];rfl
 have c4:cs[4]?=some (.int .i64 F.mo):=by rw[<- hcs];rfl
 have c5:cs[5]?=some (.int .i64 F.wi):=by rw[<- hcs];rfl
 have k1:=u1.sub hb;simp only[qAG,zA,qAA,qAL h1,c0];refine qA2 ?_;simp only[qAX,qAA,Bool.not_not];cases a0:outB F.de 1 100 with
 | true=>
   simp only[qAI,qGB,qEz,qEF,qDT,qDQ,qAN,qAA];exact hK.bad (by decide) k1 λg=>by rw[qAn.2 g.de]at a0;cases a0
 |false=>
 simp only[qAD,qAA,qAL h1,c1];refine qA2 ?_;simp only[qAX,qAA,Bool.not_not];cases a1:outB F.ho 3 1000 with
 | true=>
   simp only[qAI,qGB,qEz,qEF,qDT,qDQ,qAN,qAH,qAA];exact hK.bad (by decide) k1 λg=>by rw[qAn.2 g.ho]at a1;cases a1
 |false=>
 simp only[qGB,qAH,qAD,qAG,zA,qAA,qAL h1,c2];refine qA2 ?_;simp only[qAX,qAA,Bool.not_not];cases a2:outB F.ag 1 10000 with
 | true=>
   simp only[qAI,qEz,qEF,qDT,qDQ,qAN,qAH,qAA];exact hK.bad (by decide) k1 λg=>by rw[qAn.2 g.ag]at a2;cases a2
 |false=>
 simp only[qEz,qAH,qAD,qAG,zA,qAA,qAL h1,c3];refine qA2 ?_;simp only[qAX,qAA,Bool.not_not];cases a3:outB F.re 0 1000 with
 | true=>
   simp only[qAI,qEF,qDT,qDQ,qAN,qAH,qAA];exact hK.bad (by decide) k1 λg=>by rw[qAn.2 g.re]at a3;cases a3
 |false=>
 simp only[qEF,qAH,qAD,qAG,zA,qAA,qAL h1,c4];refine qA2 ?_;simp only[qAX,qAA,Bool.not_not];cases a4:outB F.mo 1 100 with
 | true=>
   simp only[qAI,qDT,qDQ,qAN,qAH,qAA];exact hK.bad (by decide) k1 λg=>by rw[qAn.2 g.mo]at a4;cases a4
 |false=>
 simp only[qDT,qAH,qAD,qAG,zA,qAA,qAL h1,c5];refine qA2 ?_;simp only[qAX,qAA,Bool.not_not,qDQ,qAH];refine qAF (λq=>?_) (λq=>?_)
 ·exact hK.bad (by decide) k1 λg=>by rw[qAn.2 g.wi]at q;cases q
 ·exact hK.good k1 ⟨qAn.1 a0,qAn.1 a1,qAn.1 a2,qAn.1 a3,qAn.1 a4,qAn.1 q⟩
theorem zABs(hf:FabOk F)(hn:F.L.length<=4294967296)(hF:FabR s cs F){i:Nat}{x:RLk}(hx:F.L[i]?=some x)(hK:Rok s (LkG F x/\(x.1,x.2.1) ∉ (F.L.take i).map λx=>(x.1,x.2.1)) K):wC TP XX 155 [.agg cs,.int .i64 (i:Int)] K s:=by
 obtain⟨v2,v3,v4,v5,v6,v7,rfl,hL⟩:=hF;refine qWv ⟨hL.all,qAP λb s1 hb h1 u1=>?_⟩;have h1:s1 b=some (false,.cells 31 (csG F v2 v3 v4 v5 v6 v7)):=h1;have k1:=u1.sub hb;have hi:=(gS hx).1;obtain⟨pb,po,e1,e2,e3⟩:=(hL.sub k1).L.get (i:=i) (r:=lkC x) (by rw[List.getElem?_map,hx];rfl);simp only[qAG,zA,qAA,qAL h1,csG2,e1,e2];refine qAP λb6 s7 hb6 h7 u7=>qAZ h7 rfl rfl rfl λs8 h8 u8=>?_;have k8:Sub s1 s8:=qAa (u7.sub hb6) u8 hb6;have h18:=k8 _ _ h1;have L8:=(hL.sub (k1.trans k8)).L;have kS:=k1.trans k8;have x0:(lkC x)[0]?=some (.int .i64 x.1):=rfl;have x1:(lkC x)[1]?=some (.int .i64 x.2.1):=rfl;have x2:(lkC x)[2]?=some (.int .i64 x.2.2):=rfl;have hlf:=hf.lf;have hsp:=hf.sp;simp only[qAA,qAL h8,x0,qAL h18,csG0,qAx];rw[qAc (by omega) (by omega)];refine qA2 ?_;simp only[qAX,qAA,Bool.not_not];cases a0:outB x.1 0 (F.lf-1)with
 | true=>
   simp only[qAI,qIV,qHB,qAN,qAA];refine hK.bad (by decide) kS λg=>?_;have:=g.1.1;rw[qAn.2 (by omega)]at a0;cases a0
 |false=>
 have g0:=qAn.1 a0;simp only[qAD,qAA,qAL h8,x1,qAL h18,csG0,csG1,qAV];rw[qAc (by omega) (by omega)];simp only[qAx,qAA];rw[qAc (by omega) (by omega)];refine qA2 ?_;simp only[qAX,qAA,Bool.not_not];cases a1:outB x.2.1 F.lf (F.lf+F.sp-1)with
 | true=>
   simp only[qAI,qIV,qHB,qAN,qAH,qAA];refine hK.bad (by decide) kS λg=>?_;have:=g.1.2.1;rw[qAn.2 (by omega)]at a1;cases a1
 |false=>
 have g1:=qAn.1 a1;simp only[qIV,qAH,qAD,qAG,zA,qAA,qAL h8,x2];refine qA2 ?_;simp only[qAX,qAA,Bool.not_not];cases a2:outB x.2.2 1 1000 with
 | true=>
   simp only[qAI,qHB,qAH,qAA];refine hK.bad (by decide) kS λg=>?_;rw[qAn.2 g.1.2.2]at a2;cases a2
 |false=>
 have hg:LkG F x:=⟨by omega,by omega,qAn.1 a2⟩
 simp only[qHB,qAH,qAD,qAA,qKv];refine⟨λys t m=>∃k:Nat,ys=[.int .i64 (k:Int)]/\t=s8/\k<=i/\m=i-k/\(x.1,x.2.1) ∉ (F.L.take k).map λx=>(x.1,x.2.1),⟨_,0,rfl,rfl,by omega,rfl,by simp⟩,?_⟩;rintro e t m ⟨k,hy,rfl,hki,rfl,hno⟩;simp only[cI,and_true]at hy;rw[hy];simp only[qQk,qAS,qAA];refine qAF (λhlt=>?_) (λhge=>?_)
 ·have hlt:k<i:=by have:=oT hlt;omega
  have hk:F.L[k]?=some F.L[k]:=gEY (by omega);generalize F.L[k]=z at hk;obtain⟨pb,po,e1,e2,e3⟩:=L8.get (i:=k) (r:=lkC z) (by rw[List.getElem?_map,hk];rfl);have z0:rd1 t (.ptr pb po)=some (.int .i64 z.1):=e3 0 (by omega);have z1:rd1 t (.ptr pb (po+1))=some (.int .i64 z.2.1):=e3 1 (by omega);have next:(x.1,x.2.1)≠(z.1,z.2.1)->oK (qAB .add (.int .i64 (k:Int)) (.int .i64 1)) λv_19=>∃m',m'<i-k/\∃k:Nat,[v_19]=[AV.int .i64 (k:Int)]/\True/\k<=i/\m'=i-k/\(x.1,x.2.1) ∉ (F.L.take k).map λx=>(x.1,x.2.1):=λhne=>by
   simp only[qAV,qAA];rw[qAc (by omega) (by omega)];exact⟨_,by omega,k+1,rfl,trivial,by omega,rfl,λhm=>by
    rcases(nit hk).1 hm with hm|hm
    ·exact hno hm
    ·exact hne hm⟩
  simp only[qAG,Nat.add_zero,zA,qAA,qAL h18,csG2,e1,z0,qAL h8,x0,qAY,qAU,Bool.false_bne];cases q:(z.1 == x.1)with
  | false=>
    simp only[qAD,qKp,qAH,qAA];exact next λh=>by have:=congrArg Prod.fst h;simp only at this;rw[this]at q;simp at q
  | true=>
    have q:z.1=x.1:=eq_of_beq q;simp only[qAI,qAA,z1,x1,qAY,qAU,Bool.false_bne,qKp,qAN];refine qAF (λq2=>?_) (λq2=>?_)
    ·have q2:z.2.1=x.2.1:=eq_of_beq q2
     refine hK.bad (by decide) kS λg=>g.2 ?_;refine List.mem_map.2 ⟨z,mG (i:=k) (by rw[List.getElem?_take,if_pos hlt];exact hk),by rw[q,q2]⟩
    ·exact next λh=>by have:=congrArg Prod.snd h;simp only at this;rw[this]at q2;simp at q2
 ·have hge:k=i:=by have:=oF hge;omega
  subst hge;unfold qKe;exact hK.good kS ⟨hg,hno⟩
theorem qWx(hn:F.T.length<=4294967296)(hF:FabR s cs F){i:Nat}{x:Int×Int}(hx:F.T[i]?=some x)(hK:Rok s (TnG x/\x.1 ∉ (F.T.take i).map (·.1)/\x.2 ∉ (F.T.take i).map (·.2)) K):wC TP XX 156 [.agg cs,.int .i64 (i:Int)] K s:=by
 obtain⟨v2,v3,v4,v5,v6,v7,rfl,hL⟩:=hF;refine qST ⟨hL.all,qAP λb s1 hb h1 u1=>?_⟩;have h1:s1 b=some (false,.cells 31 (csG F v2 v3 v4 v5 v6 v7)):=h1;have k1:=u1.sub hb;have hi:=(gS hx).1;obtain⟨pb,po,e1,e2,e3⟩:=(hL.sub k1).T.get (i:=i) (r:=tgC x) (by rw[List.getElem?_map,hx];rfl);simp only[qAG,zA,qAA,qAL h1,csG3,e1,e2];refine qAP λb6 s7 hb6 h7 u7=>qAZ h7 rfl rfl rfl λs8 h8 u8=>?_;have k8:Sub s1 s8:=qAa (u7.sub hb6) u8 hb6;have h18:=k8 _ _ h1;have T8:=(hL.sub (k1.trans k8)).T;have kS:=k1.trans k8;have x0:(tgC x)[0]?=some (.int .u32 x.1):=rfl;have x1:(tgC x)[1]?=some (.int .u32 x.2):=rfl;simp only[qAA,qAL h8,x0,qAS];cases a0:decide (x.1<1)with
 | true=>
   simp only[qAI,qGD,qE3,qAN,qAA];refine hK.bad (by decide) kS λg=>?_;have:=g.1.1;have:=oT a0;omega
 |false=>
 have g0:=oF a0;simp only[qAD,qAA,qAp];cases a1:decide (16777215<x.1)with
 | true=>
   simp only[qAI,qGD,qE3,qAN,qAH,qAA];refine hK.bad (by decide) kS λg=>?_;have:=g.1.2.1;have:=oT a1;omega
 |false=>
 have g1:=oF a1;simp only[qGD,qAH,qAD,qAG,zA,qAA,qAL h8,x1,qAY,qAU,Bool.false_bne];cases a2:(x.2 == 0)with
 | true=>
   simp only[qAI,qE3,qAH,qAA];exact hK.bad (by decide) kS λg=>g.1.2.2 (eq_of_beq a2)
 |false=>
 have hg:TnG x:=⟨by omega,by omega,by simpa using a2⟩
 simp only[qE3,qAH,qAD,qAA,qHp];refine⟨λys t m=>∃k:Nat,ys=[.int .i64 (k:Int)]/\t=s8/\k<=i/\m=i-k/\x.1 ∉ (F.T.take k).map (·.1)/\x.2 ∉ (F.T.take k).map (·.2),⟨_,0,rfl,rfl,by omega,rfl,by simp,by simp⟩,?_⟩;rintro e t m ⟨k,hy,rfl,hki,rfl,hn1,hn2⟩;simp only[cI,and_true]at hy;rw[hy];simp only[qNX,qAS,qAA];refine qAF (λhlt=>?_) (λhge=>?_)
 ·have hlt:k<i:=by have:=oT hlt;omega
  have hk:F.T[k]?=some F.T[k]:=gEY (by omega);generalize F.T[k]=z at hk;have hzm:z∈F.T.take i:=mG (i:=k) (by rw[List.getElem?_take,if_pos hlt];exact hk);obtain⟨pb,po,e1,e2,e3⟩:=T8.get (i:=k) (r:=tgC z) (by rw[List.getElem?_map,hk];rfl);have z0:rd1 t (.ptr pb po)=some (.int .u32 z.1):=e3 0 (by omega);have z1:rd1 t (.ptr pb (po+1))=some (.int .u32 z.2):=e3 1 (by omega);simp only[qAG,Nat.add_zero,zA,qAA,qAL h18,csG3,e1,z0,qAL h8,x0,qAY,qAU,Bool.false_bne];cases q:(z.1 == x.1)with
  | true=>
    have q:z.1=x.1:=eq_of_beq q;simp only[qAI,qH6,qAN,qAA];exact hK.bad (by decide) kS λg=>g.2.1 (List.mem_map.2 ⟨z,hzm,q⟩)
  | false=>
    simp only[qAD,qAA,z1,x1,qAY,qAU,Bool.false_bne,qH6,qAH];refine qAF (λq2=>?_) (λq2=>?_)
    ·have q2:z.2=x.2:=eq_of_beq q2
     exact hK.bad (by decide) kS λg=>g.2.2 (List.mem_map.2 ⟨z,hzm,q2⟩)
    ·simp only[qAV,qAA]
     rw[qAc (by omega) (by omega)];refine⟨_,by omega,k+1,rfl,(by trivial),by omega,rfl,λhm=>?_,λhm=>?_⟩
     ·rcases(nit hk).1 hm with hm|hm
      ·exact hn1 hm
      ·rw[hm]at q;simp at q
     ·rcases(nit hk).1 hm with hm|hm
      ·exact hn2 hm
      ·rw[hm]at q2;simp at q2
 ·have hge:k=i:=by have:=oF hge;omega
  subst hge;unfold qH1;exact hK.good kS ⟨hg,hn1,hn2⟩
end Go.AM.TN
set_option maxRecDepth 100000
namespace Go.AM.TN
open Go Go.Proofs
variable {K:AV→Hq→Prop} {s s':Hq} {y k:AV} {b b6 b11:Nat} {cs:List AV} {F:FG} {v2 v3 v4 v5 v6 v7:AV} {t:Bool} {P Q:Prop} {i:Nat} {x:BG}
theorem Rok.imp(h:Rok s P K)(k:Sub s s')(e:Q↔P):Rok s' Q K:=λe' s2 k2 h2=>h e' s2 (k.trans k2) (h2.trans e)
theorem zAEE{b o n k j:Nat}{l:List AV}(h:rdN s n (.ptr b o)=some l)(hj:j+k<=n):rdN s k (.ptr b (o+j))=some ((l.drop j).take k):=by
 unfold rdN at h ⊢;simp only at h ⊢;split at h
 ·rename_i t e cs hb
  unfold qKA at h ⊢;cases hc:Nat.ble (o+n) cs.length with
  |false=>rw[hc]at h;cases h
  | true=>
    rw[hc]at h;have hle:=Nat.le_of_ble_eq_true hc;cases h;rw[bL (show o+j+k<=cs.length by omega)];simp only[cond_true,Option.some.injEq];apply List.ext_getElem?;intro i;simp only[List.getElem?_take,List.getElem?_drop]
    by_cases hi:i<k
    ·rw[if_pos hi,if_pos hi,if_pos (by omega),Nat.add_assoc]
    ·rw[if_neg hi,if_neg hi]
 ·cases h
theorem qRm{A:Type}{p:A->Bool}{l:List A}{k:Nat}{a:A}(h:l[k]?=some a):(l.take (k+1)).any p=((l.take k).any p||p a):=by rw[List.take_add_one,h];simp
theorem zAFb{A:Type}{p:A->Bool}{l:List A}{k i:Nat}{a:A}(h:l[k]?=some a)(hk:k<i)(hp:p a=true):(l.take i).any p=true:=
 List.any_eq_true.2 ⟨a,mG (i:=k) (by rw[List.getElem?_take,if_pos hk];exact h),hp⟩
theorem zADw(hn:F.B.length<=4294967296)(hi:i<F.B.length)(h1:s b=some (false,.cells 31 (csG F v2 v3 v4 v5 v6 v7)))(h6:s b6=some (false,.cells 87 (bgC x)))(hB:SlR 6 s v4 (F.B.map bgC))(hg:x.2.2.2.2.2≠0)(hK:Rok s (BdS F i x) K):qGR XX (.int .i64 (i:Int)) (.ptr b 0) (.ptr b6 0) K s:=by
 unfold qGR;have d:BdS F i x↔qFG x.2.2.2.1 x.2.2.2.2.1=true/\(8<=x.2.2.2.2.1/\x.2.2.2.2.1<=30)/\qLK x.2.2.2.1 x.2.2.2.2.1 x.2.2.2.2.2=true/\(F.B.take i).any (qPP x)=false:=⟨λh=>h.2 hg,λh=>⟨λe=>absurd e hg,λ_=>h⟩⟩
 rw[d]at hK;clear d;have x5:(bgC x)[5]?=some (.int .u32 x.2.2.2.2.2):=rfl;have x0:(bgC x)[0]?=some (.int .i64 x.1):=rfl;have rd:rdN s 2 (.ptr b6 3)=some (pfC x.2.2.2.1 x.2.2.2.2.1):=by simp only[rdN,h6];rfl
 simp only[qAG,zA,qAA,rd];refine qAP λb11 s12 hb11 h12 u12=>qAZ h12 rfl rfl rfl λs13 h13 u13=>qAJ (qAb h13 rfl) ?_;have k13:Sub s s13:=qAa (u12.sub hb11) u13 hb11;refine qTM λs42 k42=>?_;have h11:=k42 _ _ h13;have p0:(pfC x.2.2.2.1 x.2.2.2.2.1)[0]?=some (.int .u32 x.2.2.2.1):=rfl;have p1:(pfC x.2.2.2.1 x.2.2.2.2.1)[1]?=some (.int .i64 x.2.2.2.2.1):=rfl;have q42:=k13.trans k42;simp only[qAX,qAA];cases a0:qFG x.2.2.2.1 x.2.2.2.2.1 with
 | false=>
   simp only[Bool.not_false,qAI,qGK,qEO,qDU,qAN,qAA];exact hK.bad (by decide) q42 λg=>by rw[g.1]at a0;cases a0
 |true=>
 simp only[Bool.not_true,qAD,qAA,qAL h11,p1];refine qA2 ?_;simp only[qAX,qAA,Bool.not_not];cases a1:outB x.2.2.2.2.1 8 30 with
 | true=>
   simp only[qAI,qGK,qEO,qDU,qAN,qAH,qAA];exact hK.bad (by decide) q42 λg=>by rw[qAn.2 g.2.1]at a1;cases a1
 |false=>
 have g1:=qAn.1 a1;have h6':=q42 _ _ h6;simp only[qGK,qAH,qAD,qAA];refine qAJ (qAb h11 rfl) ?_;simp only[qAG,zA,qAA,qAL h6',x5];refine qIA λs64 k64=>?_;have q64:=q42.trans k64;have h11:=k64 _ _ h11;have h6':=q64 _ _ h6;simp only[qAX,qAA];have inn:∀(p q r:Bool),qCQ x.2.2.2.1 x.2.2.2.2.1 x.2.2.2.2.2=p->(x.2.2.2.2.2 == x.2.2.2.1)=q->(x.2.2.2.2.2 == qS9 x.2.2.2.1 x.2.2.2.2.1)=r->qLK x.2.2.2.1 x.2.2.2.2.1 x.2.2.2.2.2=(p&&!q&&!r):=λp q r hp hq hr=>by unfold qLK;rw[hp,bne,hq,bne,hr]
 cases a2:qCQ x.2.2.2.1 x.2.2.2.2.1 x.2.2.2.2.2 with
 | false=>
   simp only[Bool.not_false,qAI,qEO,qDU,qAN,qAH,qAA];exact hK.bad (by decide) q64 λg=>by have:=g.2.2.1;rw[inn _ _ _ a2 rfl rfl]at this;simp at this
 |true=>
 simp only[Bool.not_true,qAD,qEO,qAH,qAG,zA,qAA,qAL h6',x5,qAL h11,p0,qAY,qAU,Bool.false_bne];cases a3:(x.2.2.2.2.2 == x.2.2.2.1)with
 | true=>
   simp only[qAI,qDU,qAN,qAH,qAA];exact hK.bad (by decide) q64 λg=>by have:=g.2.2.1;rw[inn _ _ _ a2 a3 rfl]at this;simp at this
 |false=>
 simp only[qDU,qAH,qAD,qAA,qAG,zA,qAL h6',x5];refine qAJ (qAb h11 rfl) (qWP (by omega) λs52 k52=>?_);intro _;rw[zAAC a0 g1];have kT:Sub s64 (add s64 s52):=qLN;generalize add s64 s52=T at kT;have qT:=q64.trans kT;have h11:=kT _ _ h11;have h6':=qT _ _ h6;have h1':=qT _ _ h1;have B':=hB.sub qT;simp only[qAY,qAU,Bool.false_bne,qAA];cases a4:(x.2.2.2.2.2 == qS9 x.2.2.2.1 x.2.2.2.2.1)with
 | true=>
   simp only[qAI];exact hK.bad (by decide) qT λg=>by have:=g.2.2.1;rw[inn _ _ _ a2 a3 a4]at this;simp at this
 |false=>
 have hin:qLK x.2.2.2.1 x.2.2.2.2.1 x.2.2.2.2.2=true:=by rw[inn _ _ _ a2 a3 a4];rfl
 simp only[qAD,qGO];refine⟨λys t m=>∃k:Nat,ys=[.int .i64 (k:Int)]/\Sub T t/\k<=i/\m=i-k/\(F.B.take k).any (qPP x)=false,⟨_,0,rfl,.refl _,by omega,rfl,rfl⟩,?_⟩;rintro e t m ⟨k,hy,kt,hki,rfl,hno⟩;simp only[cI,and_true]at hy;rw[hy];have ht1:=kt _ _ h1';have ht6:=kt _ _ h6';have ht11:=kt _ _ h11;have qt:=qT.trans kt;simp only[qNH,qAS,qAA];refine qAF (λhlt=>?_) (λhge=>?_)
 ·have hlt:k<i:=by have:=oT hlt;omega
  have hk:F.B[k]?=some F.B[k]:=gEY (by omega);generalize F.B[k]=z at hk;obtain⟨pb,po,e1,e2,e3⟩:=(B'.sub kt).get (i:=k) (r:=bgC z) (by rw[List.getElem?_map,hk];rfl);have z0:rd1 t (.ptr pb po)=some (.int .i64 z.1):=e3 0 (by omega);have z5:rd1 t (.ptr pb (po+5))=some (.int .u32 z.2.2.2.2.2):=e3 5 (by omega);have zp:rdN t 2 (.ptr pb (po+3))=some (pfC z.2.2.2.1 z.2.2.2.2.1):=zAEE (j:=3) (k:=2) e2 (by omega);have next:∀{t2:Hq},Sub t t2->qPP x z=false->oK (qAB .add (.int .i64 (k:Int)) (.int .i64 1)) λv_25=>∃m',m'<i-k/\∃k:Nat,[v_25]=[AV.int .i64 (k:Int)]/\Sub T t2/\k<=i/\m'=i-k/\(F.B.take k).any (qPP x)=false:=λk2 ho=>by simp only[qAV,qAA];rw[qAc (by omega) (by omega)];exact⟨_,by omega,k+1,rfl,kt.trans k2,by omega,rfl,by rw[qRm hk,hno,ho];rfl⟩
  have hov:∀p q r:Bool,(z.1 == x.1)=p->(z.2.2.2.2.2 != 0)=q->(qCQ z.2.2.2.1 z.2.2.2.2.1 x.2.2.2.1||qCQ x.2.2.2.1 x.2.2.2.2.1 z.2.2.2.1)=r->qPP x z=(p&&q&&r):=λp q r h1 h2 h3=>by unfold qPP;rw[h1,h2,h3]
  simp only[qAG,Nat.add_zero,zA,qAA,qAL ht1,csG4,e1,z0,qAL ht6,x0,qAY,qAU,Bool.false_bne];cases q:(z.1 == x.1)with
  | false=>
    simp only[qAD,qHr,qGS,qAH,qAA];exact next (.refl _) (by rw[hov _ _ _ q rfl rfl];rfl)
  |true=>
  simp only[qAI,qAG,zA,qAA,qAL ht1,csG4,e1,z5,qAY,qAU,Bool.true_bne,qHr,qAN];cases q2:(z.2.2.2.2.2 == 0)with
  | true=>
    simp only[Bool.not_true,qAD,qGS,qAH,qAA];exact next (.refl _) (by rw[hov _ _ _ q (by rw[bne,q2]) rfl];rfl)
  |false=>
  simp only[Bool.not_false,qAI,qAA,zp];refine qAJ (qAb ht11 rfl) (qUT λs33 k33=>?_);simp only[qGS,qAN,qAA];refine qAF (λq3=>?_) (λq3=>?_)
  ·exact hK.bad (by decide) (qt.trans k33) λg=>by have:=zAFb (p:=qPP x) hk hlt (by rw[hov _ _ _ q (by rw[bne,q2]) q3];rfl);rw[g.2.2.2]at this;cases this
  ·exact next k33 (by rw[hov _ _ _ q (by rw[bne,q2]) q3];rfl)
 ·have hge:k=i:=by have:=oF hge;omega
  subst hge;unfold qHt;exact hK.good qt ⟨a0,g1,hin,hno⟩
theorem zADI(hn:F.B.length<=4294967296)(hi:i<F.B.length)(h1:s b=some (false,.cells 31 (csG F v2 v3 v4 v5 v6 v7)))(h6:s b6=some (false,.cells 87 (bgC x)))(hB:SlR 6 s v4 (F.B.map bgC))(hK:Rok s (BdS F i x) K):qGE XX (.int .i64 (i:Int)) (.ptr b 0) (.ptr b6 0) K s:=by
 unfold qGE;have x5:(bgC x)[5]?=some (.int .u32 x.2.2.2.2.2):=rfl;have rd:rdN s 2 (.ptr b6 3)=some (pfC x.2.2.2.1 x.2.2.2.2.1):=by simp only[rdN,h6];rfl
 simp only[qAG,zA,qAA,qAL h6,x5,qAY,qAU,Bool.false_bne];refine qAF (λq=>?_) (λq=>zADw hn hi h1 h6 hB (by simpa using q) hK);have q:x.2.2.2.2.2=0:=eq_of_beq q;refine qAJ rd (qAJ (a:=[.int .u32 0,.int .i64 0]) rfl ?_);rw[eq41'];simp only[qAU,Bool.true_bne,qAA];cases a:(x.2.2.2.1 == 0&&x.2.2.2.2.1 == 0)with
 | false=>
   simp only[Bool.not_false,qAI];exact hK.bad (by decide) (.refl _) λg=>by obtain⟨e1,e2⟩:=g.1 q;rw[e1,e2]at a;cases a
 | true=>
   simp only[Bool.not_true,qAD];simp only[Bool.and_eq_true,beq_iff_eq]at a;exact hK.good (.refl _) ⟨λ_=>a,λh=>absurd q h⟩
theorem zAEr(hn:F.B.length<=4294967296)(hi:i<F.B.length)(h1:s b=some (false,.cells 31 (csG F v2 v3 v4 v5 v6 v7)))(h6:s b6=some (false,.cells 87 (bgC x)))(hB:SlR 6 s v4 (F.B.map bgC))(hK:Rok s ((x.2.1 ∉ (F.B.take i).map (·.2.1)/\x.2.2.1 ∉ (F.B.take i).map (·.2.2.1))/\BdS F i x) K):qGJ XX (.int .i64 (i:Int)) (.ptr b 0) (.ptr b6 0) K s:=by
 unfold qGJ;have x1:(bgC x)[1]?=some (.int .u32 x.2.1):=rfl;have x2:(bgC x)[2]?=some (.int .u32 x.2.2.1):=rfl;refine⟨λys t m=>∃k:Nat,ys=[.int .i64 (k:Int)]/\t=s/\k<=i/\m=i-k/\x.2.1 ∉ (F.B.take k).map (·.2.1)/\x.2.2.1 ∉ (F.B.take k).map (·.2.2.1),⟨_,0,rfl,rfl,by omega,rfl,by simp,by simp⟩,?_⟩;rintro e t m ⟨k,hy,rfl,hki,rfl,hn1,hn2⟩;simp only[cI,and_true]at hy;rw[hy];simp only[qLq,qAS,qAA];refine qAF (λhlt=>?_) (λhge=>?_)
 ·have hlt:k<i:=by have:=oT hlt;omega
  have hk:F.B[k]?=some F.B[k]:=gEY (by omega);generalize F.B[k]=z at hk;have hzm:z∈F.B.take i:=mG (i:=k) (by rw[List.getElem?_take,if_pos hlt];exact hk);obtain⟨pb,po,e1,e2,e3⟩:=hB.get (i:=k) (r:=bgC z) (by rw[List.getElem?_map,hk];rfl);have z1:rd1 t (.ptr pb (po+1))=some (.int .u32 z.2.1):=e3 1 (by omega);have z2:rd1 t (.ptr pb (po+2))=some (.int .u32 z.2.2.1):=e3 2 (by omega);simp only[qAG,zA,qAA,qAL h1,csG4,e1,z1,qAL h6,x1,qAY,qAU,Bool.false_bne];cases q:(z.2.1 == x.2.1)with
  | true=>
    have q:z.2.1=x.2.1:=eq_of_beq q;simp only[qAI,qG4,qAN,qAA];exact hK.bad (by decide) (.refl _) λg=>g.1.1 (List.mem_map.2 ⟨z,hzm,q⟩)
  | false=>
    simp only[qAD,qAA,z2,x2,qAY,qAU,Bool.false_bne,qG4,qAH];refine qAF (λq2=>?_) (λq2=>?_)
    ·have q2:z.2.2.1=x.2.2.1:=eq_of_beq q2
     exact hK.bad (by decide) (.refl _) λg=>g.1.2 (List.mem_map.2 ⟨z,hzm,q2⟩)
    ·simp only[qAV,qAA]
     rw[qAc (by omega) (by omega)];refine⟨_,by omega,k+1,rfl,(by trivial),by omega,rfl,λhm=>?_,λhm=>?_⟩
     ·rcases(nit hk).1 hm with hm|hm
      ·exact hn1 hm
      ·rw[hm]at q;simp at q
     ·rcases(nit hk).1 hm with hm|hm
      ·exact hn2 hm
      ·rw[hm]at q2;simp at q2
 ·have hge:k=i:=by have:=oF hge;omega
  subst hge;exact zADI hn hi h1 h6 hB (hK.imp (.refl _) ⟨λh=>⟨⟨hn1,hn2⟩,h⟩,λh=>h.2⟩)
theorem zAD8(hT:F.T.length<=4294967296)(hn:F.B.length<=4294967296)(hi:i<F.B.length)(h1:s b=some (false,.cells 31 (csG F v2 v3 v4 v5 v6 v7)))(h6:s b6=some (false,.cells 87 (bgC x)))(hTn:SlR 2 s v3 (F.T.map tgC))(hB:SlR 6 s v4 (F.B.map bgC))(hK:Rok s ((F.T.any (λy=>y.1 == x.2.1)=false/\F.T.any (λy=>y.2 == x.2.2.1)=false)/\(x.2.1 ∉ (F.B.take i).map (·.2.1)/\x.2.2.1 ∉ (F.B.take i).map (·.2.2.1))/\BdS F i x) K):qGN XX (.int .i64 (i:Int)) (.ptr b 0) (.ptr b6 0) K s:=by
 unfold qGN;have x1:(bgC x)[1]?=some (.int .u32 x.2.1):=rfl;have x2:(bgC x)[2]?=some (.int .u32 x.2.2.1):=rfl;have lenT:qAQ v3=some F.T.length:=by rw[hTn.len,lMY]
 refine⟨λys t m=>∃k:Nat,ys=[.int .i64 (k:Int)]/\t=s/\k<=F.T.length/\m=F.T.length-k/\(F.T.take k).any (λy=>y.1 == x.2.1)=false/\(F.T.take k).any (λy=>y.2 == x.2.2.1)=false,⟨_,0,rfl,rfl,by omega,rfl,rfl,rfl⟩,?_⟩;rintro e t m ⟨k,hy,rfl,hki,rfl,hn1,hn2⟩;simp only[cI,and_true]at hy;rw[hy];simp only[qMO,qAG,zA,qAL h1,csG3,lenT,qAS,qAA];refine qAF (λhlt=>?_) (λhge=>?_)
 ·have hlt:k<F.T.length:=by have:=oT hlt;omega
  have hk:F.T[k]?=some F.T[k]:=gEY (by omega);generalize F.T[k]=z at hk;have hzm:z∈F.T:=mG hk;obtain⟨pb,po,e1,e2,e3⟩:=hTn.get (i:=k) (r:=tgC z) (by rw[List.getElem?_map,hk];rfl);have z0:rd1 t (.ptr pb po)=some (.int .u32 z.1):=e3 0 (by omega);have z1:rd1 t (.ptr pb (po+1))=some (.int .u32 z.2):=e3 1 (by omega);simp only[qAG,Nat.add_zero,qAA,e1,z0,qAL h6,x1,qAY,qAU,Bool.false_bne];cases q:(z.1 == x.2.1)with
  | true=>
    simp only[qAI,qG8,qAN,qAA];exact hK.bad (by decide) (.refl _) λg=>by have:=g.1.1;rw[List.any_eq_true.2 ⟨z,hzm,q⟩]at this;cases this
  | false=>
    simp only[qAD,qAA,z1,x2,qAY,qAU,Bool.false_bne,qG8,qAH];refine qAF (λq2=>?_) (λq2=>?_)
    ·exact hK.bad (by decide) (.refl _) λg=>by have:=g.1.2;rw[List.any_eq_true.2 ⟨z,hzm,q2⟩]at this;cases this
    ·simp only[qAV,qAA]
     rw[qAc (by omega) (by omega)];exact⟨_,by omega,k+1,rfl,(by trivial),by omega,rfl,by rw[qRm hk,hn1,q];rfl,by rw[qRm hk,hn2,q2];rfl⟩
 ·have hge:k=F.T.length:=by have:=oF hge;omega
  subst hge;rw[List.take_length]at hn1 hn2;exact zAEr hn hi h1 h6 hB (hK.imp (.refl _) ⟨λh=>⟨⟨hn1,hn2⟩,h⟩,λh=>h.2⟩)
theorem qXO(hT:F.T.length<=4294967296)(hn:F.B.length<=4294967296)(hF:FabR s cs F)(hx:F.B[i]?=some x)(hK:Rok s (BdRow F i x) K):wC TP XX 157 [.agg cs,.int .i64 (i:Int)] K s:=by
 obtain⟨v2,v3,v4,v5,v6,v7,rfl,hL⟩:=hF;refine qSt ⟨hL.all,qAP λb s1 hb h1 u1=>?_⟩;have h1:s1 b=some (false,.cells 31 (csG F v2 v3 v4 v5 v6 v7)):=h1;have k1:=u1.sub hb;have hi:=(gS hx).1;obtain⟨pb,po,e1,e2,e3⟩:=(hL.sub k1).B.get (i:=i) (r:=bgC x) (by rw[List.getElem?_map,hx];rfl);simp only[qAG,zA,qAA,qAL h1,csG4,e1,e2];refine qAP λb6 s7 hb6 h7 u7=>qAZ h7 rfl rfl rfl λs8 h8 u8=>?_;have k8:Sub s1 s8:=qAa (u7.sub hb6) u8 hb6;have h18:=k8 _ _ h1;have kS:=k1.trans k8;have L8:=hL.sub kS;have lenT:qAQ v3=some F.T.length:=by rw[L8.T.len,lMY]
 have x0:(bgC x)[0]?=some (.int .i64 x.1):=rfl;have x1:(bgC x)[1]?=some (.int .u32 x.2.1):=rfl;have x2:(bgC x)[2]?=some (.int .u32 x.2.2.1):=rfl;simp only[qAA,qAL h8,x0,qAL h18,csG3,lenT,qAx];rw[qAc (by omega) (by omega)];refine qA2 ?_;simp only[qAX,qAA,Bool.not_not];cases a0:outB x.1 0 ((F.T.length:Int)-1)with
 | true=>
   simp only[qAI,qFI,qEH,qDW,qAN,qAA];refine hK.bad (by decide) kS λg=>?_;have:=g.g.1;rw[qAn.2 (by omega)]at a0;cases a0
 |false=>
 have g0:=qAn.1 a0;simp only[qAD,qAA,qAL h8,x1,qAS];cases a1:decide (x.2.1<1)with
 | true=>
   simp only[qAI,qFI,qEH,qDW,qAN,qAH,qAA];refine hK.bad (by decide) kS λg=>?_;have:=g.g.2.1;have:=oT a1;omega
 |false=>
 have g1:=oF a1;simp only[qFI,qAH,qAD,qAG,zA,qAA,qAL h8,x1,qAp];cases a2:decide (16777215<x.2.1)with
 | true=>
   simp only[qAI,qEH,qDW,qAN,qAH,qAA];refine hK.bad (by decide) kS λg=>?_;have:=g.g.2.1;have:=oT a2;omega
 |false=>
 have g2:=oF a2;simp only[qEH,qAH,qAD,qAG,zA,qAA,qAL h8,x2,qAY,qAU,Bool.false_bne];cases a3:(x.2.2.1 == 0)with
 | true=>
   simp only[qAI,qDW,qAH,qAA];exact hK.bad (by decide) kS λg=>g.g.2.2 (eq_of_beq a3)
 |false=>
 have hg:BdG F x:=⟨by omega,by omega,by simpa using a3⟩
 simp only[qDW,qAH,qAD,qAA];exact zAD8 hT hn hi h18 h8 L8.T L8.B (hK.imp kS ⟨λh=>⟨hg,h.2.1.1,h.2.1.2,h.1.1,h.1.2,h.2.2⟩,λh=>⟨⟨h.tv,h.tt⟩,⟨h.vn,h.tg⟩,h.s⟩⟩)
end Go.AM.TN
set_option maxRecDepth 100000
namespace Go.AM.TN
open Go Go.Proofs
variable {K:AV→Hq→Prop} {s:Hq} {y k l1 l2:AV} {b b6:Nat} {cs:List AV} {F:FG} {v2 v3 v4 v5 v6 v7:AV} {t:Bool} {i:Nat}
theorem qME{A:Type}{p:A->Prop}{l:List A}{k:Nat}(hlt:k<l.length)(h:∀n∈l.take k,p n)(hp:p l[k]):∀n∈l.take (k+1),p n:=λn hn=>by
 rw[List.take_succ_eq_append_getElem hlt,List.mem_append,List.mem_singleton]at hn;rcases hn with hn|rfl
 ·exact h n hn
 ·exact hp
def cnS(S:List (List Int×List Int))(j:Nat)(n:Int):Nat:=(S.take j).countP λy=>decide (n∈y.1)
theorem qVc{S:List (List Int×List Int)}{j:Nat}{y:List Int×List Int}(h:S[j]?=some y)(n:Int):cnS S (j+1) n=cnS S j n+(if n∈y.1 then 1 else 0):=by unfold cnS;rw[List.take_add_one,h];simp[List.countP_cons]
theorem zAGX{S:List (List Int×List Int)}{j:Nat}{n:Int}:cnS S j n<=j:=by unfold cnS;have:=List.countP_le_length (p:=λy:List Int×List Int=>decide (n∈y.1)) (l:=S.take j);rw[List.length_take]at this;omega
section
variable {x : List Int × List Int} (h1 : s b = some (false, .cells 31 (csG F v2 v3 v4 v5 v6 v7))) (h6 : s b6 = some (false, .cells 94 [l1, l2])) (g1 : Sl s l1 (ix x.1)) (g2 : Sl s l2 (ix x.2)) (z1 : x.1.length ≤ 4294967296) (z2 : x.2.length ≤ 4294967296)
include h1 h6 g1 z1 in
theorem zAFA(hS:SgG s v5 F.S)(hx:F.S[i]?=some x)(hn:F.S.length<=4294967296)(zz:∀x∈F.S,x.1.length<=4294967296)(hK:Rok s (∀n∈x.1,cnS F.S (i+1) n<=32) K):qFR XX (.int .i64 (i:Int)) (.ptr b 0) (.ptr b6 0) K s:=by
 unfold qFR;have hi:=(gS hx).1;have a0:[l1,l2][0]?=some l1:=rfl;refine⟨λys t m=>∃k:Nat,ys=[.int .i64 (k:Int)]/\t=s/\k<=x.1.length/\m=x.1.length-k/\∀n∈x.1.take k,cnS F.S (i+1) n<=32,⟨_,0,rfl,rfl,by omega,rfl,by simp⟩,?_⟩;rintro e t m ⟨k,hy,rfl,hki,rfl,hno⟩;simp only[cI,and_true]at hy;rw[hy];simp only[qMb,qAG,zA,qAL h6,a0,g1.len,qCR,qAS,qAA];refine qAF (λhlt=>?_) (λhge=>?_)
 ·have hlt:k<x.1.length:=by have:=oT hlt;omega
  obtain⟨p,e1,e2⟩:=g1.get (i:=k) (by rw[qCR];exact hlt);rw[qJk hlt]at e2;refine⟨λys t2 m=>∃j:Nat,ys=[.int .i64 (cnS F.S j x.1[k]:Int),.int .i64 (j:Int)]/\t2=t/\j<=i+1/\m=i+1-j,⟨_,0,rfl,rfl,by omega,rfl⟩,?_⟩;rintro e' t2 m2 ⟨j,hy,rfl,hji,rfl⟩;simp only[cI,and_true]at hy;rw[hy.1,hy.2];have hc:=zAGX (S:=F.S) (j:=j) (n:=x.1[k]);simp only[qMa,qBv,qAA];refine qAF (λhlt2=>?_) (λhge2=>?_)
  ·have hlt2:j<=i:=by have:=oT hlt2;omega
   have hj:F.S[j]?=some F.S[j]:=gEY (by omega);have hjm:F.S[j]∈F.S:=List.getElem_mem _;generalize F.S[j]=y at hj hjm;obtain⟨pb,po,m1,m2,q1,q2,q3,q4,q5,q6⟩:=hS.at hj;have hstep:=qVc hj x.1[k];simp only[qAG,Nat.add_zero,zA,qAA,qAL h1,csG5,q1,q3,qAL h6,a0,e1,e2];refine qUH q5 (zz y hjm) ?_;refine qAF (λq=>?_) (λq=>?_)
   ·have q:x.1[k]∈y.1:=oT q
    rw[if_pos q]at hstep;simp only[qAV,qAA,qGv];rw[qAc (by omega) (by omega),qAc (by omega) (by omega)];exact⟨_,by omega,j+1,by rw[hstep];rfl,(by trivial),by omega,rfl⟩
   ·have q:¬x.1[k]∈y.1:=oF q
    rw[if_neg q]at hstep;simp only[qAV,qAA,qGv];rw[qAc (by omega) (by omega)];exact⟨_,by omega,j+1,by rw[hstep];rfl,(by trivial),by omega,rfl⟩
  ·have hge2:j=i+1:=by have:=oF hge2;omega
   subst hge2;simp only[qAp,qAA];refine qAF (λq=>?_) (λq=>?_)
   ·exact hK.bad (by decide) (.refl _) λg=>by have:=g _ (List.getElem_mem hlt);have:=oT q;omega
   ·have q:=oF q
    simp only[qAV,qAA];rw[qAc (by omega) (by omega)];exact⟨_,by omega,k+1,rfl,(by trivial),by omega,rfl,qME hlt hno (by omega)⟩
 ·have hge:k=x.1.length:=by have:=oF hge;omega
  subst hge;rw[List.take_length]at hno;unfold qGz;exact hK.good (.refl _) hno
include h1 h6 g1 g2 z1 z2 in
theorem zAGQ(hS:SgG s v5 F.S)(hx:F.S[i]?=some x)(hn:F.S.length<=4294967296)(zz:∀x∈F.S,x.1.length<=4294967296)(hK:Rok s ((x.1.Pairwise (· < ·)/\x.2.Pairwise (· < ·))/\∀n∈x.1,cnS F.S (i+1) n<=32) K):qFL XX (.int .i64 (i:Int)) (.ptr b 0) (.ptr b6 0) K s:=by
 unfold qFL;have a0:[l1,l2][0]?=some l1:=rfl;have a1:[l1,l2][1]?=some l2:=rfl;simp only[qAG,zA,qAL h6,a0,qAA];refine qZn g1 z1 λr hr=>?_;simp only[qAX,qAA];cases r with
 | false=>
   simp only[Bool.not_false,qAI,qHA,qAN,qAA];exact hK.bad (by decide) (.refl _) λg=>by have:=hr.2 g.1.1;cases this
 |true=>
 have hr:=hr.1 rfl;simp only[Bool.not_true,qAD,qAL h6,a1,qAA];refine qZn g2 z2 λr hr2=>?_;simp only[qAX,qAA,qHA,qAH];cases r with
 | false=>
   simp only[Bool.not_false,qAI];exact hK.bad (by decide) (.refl _) λg=>by have:=hr2.2 g.1.2;cases this
 |true=>
 simp only[Bool.not_true,qAD];exact zAFA h1 h6 g1 z1 hS hx hn zz (hK.imp (.refl _) ⟨λh=>⟨⟨hr,hr2.1 rfl⟩,h⟩,λh=>h.2⟩)
include h1 h6 g1 g2 z1 z2 in
theorem zAFj(hB:SlR 6 s v4 (F.B.map bgC))(hBn:F.B.length<=4294967296)(hS:SgG s v5 F.S)(hx:F.S[i]?=some x)(hn:F.S.length<=4294967296)(zz:∀x∈F.S,x.1.length<=4294967296)(hK:Rok s ((∀n∈x.2,0<=n/\n<(F.B.length:Int))/\(x.1.Pairwise (· < ·)/\x.2.Pairwise (· < ·))/\∀n∈x.1,cnS F.S (i+1) n<=32) K):qFW XX (.int .i64 (i:Int)) (.ptr b 0) (.ptr b6 0) K s:=by
 unfold qFW;have a1:[l1,l2][1]?=some l2:=rfl;have lenB:qAQ v4=some F.B.length:=by rw[hB.len,lMY]
 refine⟨λys t m=>∃k:Nat,ys=[.int .i64 (k:Int)]/\t=s/\k<=x.2.length/\m=x.2.length-k/\∀n∈x.2.take k,0<=n/\n<(F.B.length:Int),⟨_,0,rfl,rfl,by omega,rfl,by simp⟩,?_⟩;rintro e t m ⟨k,hy,rfl,hki,rfl,hno⟩;simp only[cI,and_true]at hy;rw[hy];simp only[qMU,qAG,zA,qAL h6,a1,g2.len,qCR,qAS,qAA];refine qAF (λhlt=>?_) (λhge=>?_)
 ·have hlt:k<x.2.length:=by have:=oT hlt;omega
  obtain⟨p,e1,e2⟩:=g2.get (i:=k) (by rw[qCR];exact hlt);rw[qJk hlt]at e2;simp only[e1,e2,qAL h1,csG4,lenB,qAx,qAA];rw[qAc (by omega) (by omega)];refine qA2 ?_;simp only[qAX,qAA,Bool.not_not];refine qAF (λq=>?_) (λq=>?_)
  ·exact hK.bad (by decide) (.refl _) λg=>by have:=g.1 _ (List.getElem_mem hlt);rw[qAn.2 (by omega)]at q;cases q
  ·have q:=qAn.1 q
   simp only[qAV,qAA];rw[qAc (by omega) (by omega)];exact⟨_,by omega,k+1,rfl,(by trivial),by omega,rfl,qME hlt hno (by omega)⟩
 ·have hge:k=x.2.length:=by have:=oF hge;omega
  subst hge;rw[List.take_length]at hno;exact zAGQ h1 h6 g1 g2 z1 z2 hS hx hn zz (hK.imp (.refl _) ⟨λh=>⟨hno,h⟩,λh=>h.2⟩)
include h1 h6 g1 g2 z1 z2 in
theorem zAF7(hf:FabOk F)(hB:SlR 6 s v4 (F.B.map bgC))(hBn:F.B.length<=4294967296)(hS:SgG s v5 F.S)(hx:F.S[i]?=some x)(hn:F.S.length<=4294967296)(zz:∀x∈F.S,x.1.length<=4294967296)(hK:Rok s ((∀n∈x.1,0<=n/\n<F.lf)/\(∀n∈x.2,0<=n/\n<(F.B.length:Int))/\(x.1.Pairwise (· < ·)/\x.2.Pairwise (· < ·))/\∀n∈x.1,cnS F.S (i+1) n<=32) K):qEL XX (.int .i64 (i:Int)) (.ptr b 0) (.ptr b6 0) K s:=by
 unfold qEL;have a0:[l1,l2][0]?=some l1:=rfl;have hlf:=hf.lf;refine⟨λys t m=>∃k:Nat,ys=[.int .i64 (k:Int)]/\t=s/\k<=x.1.length/\m=x.1.length-k/\∀n∈x.1.take k,0<=n/\n<F.lf,⟨_,0,rfl,rfl,by omega,rfl,by simp⟩,?_⟩;rintro e t m ⟨k,hy,rfl,hki,rfl,hno⟩;simp only[cI,and_true]at hy;rw[hy];simp only[qK8,qAG,zA,qAL h6,a0,g1.len,qCR,qAS,qAA];refine qAF (λhlt=>?_) (λhge=>?_)
 ·have hlt:k<x.1.length:=by have:=oT hlt;omega
  obtain⟨p,e1,e2⟩:=g1.get (i:=k) (by rw[qCR];exact hlt);rw[qJk hlt]at e2;simp only[e1,e2,qAL h1,csG0,qAx,qAA];rw[qAc (by omega) (by omega)];refine qA2 ?_;simp only[qAX,qAA,Bool.not_not];refine qAF (λq=>?_) (λq=>?_)
  ·exact hK.bad (by decide) (.refl _) λg=>by have:=g.1 _ (List.getElem_mem hlt);rw[qAn.2 (by omega)]at q;cases q
  ·have q:=qAn.1 q
   simp only[qAV,qAA];rw[qAc (by omega) (by omega)];exact⟨_,by omega,k+1,rfl,(by trivial),by omega,rfl,qME hlt hno (by omega)⟩
 ·have hge:k=x.1.length:=by have:=oF hge;omega
  subst hge;rw[List.take_length]at hno;exact zAFj h1 h6 g1 g2 z1 z2 hB hBn hS hx hn zz (hK.imp (.refl _) ⟨λh=>⟨hno,h⟩,λh=>h.2⟩)
end
theorem qVU(hf:FabOk F)(z:Sz F)(hF:FabR s cs F){x:List Int×List Int}(hx:F.S[i]?=some x)(hK:Rok s (qMz F x/\∀n∈x.1,cnS F.S (i+1) n<=32) K):wC TP XX 158 [.agg cs,.int .i64 (i:Int)] K s:=by
 obtain⟨v2,v3,v4,v5,v6,v7,rfl,hL⟩:=hF;refine qRT ⟨hL.all,qAP λb s1 hb h1 u1=>?_⟩;have h1:s1 b=some (false,.cells 31 (csG F v2 v3 v4 v5 v6 v7)):=h1;have k1:=u1.sub hb;have hi:=(gS hx).1;have hxm:x∈F.S:=mG hx;obtain⟨pb,po,l1,l2,e1,e2,e3,e4,g1,g2⟩:=(hL.sub k1).S.at hx;simp only[qAG,zA,qAA,qAL h1,csG5,e1,e2];refine qAP λb6 s7 hb6 h7 u7=>qAZ h7 rfl rfl (by simp[g1.one,g2.one]) λs8 h8 u8=>?_;have k8:Sub s1 s8:=qAa (u7.sub hb6) u8 hb6;have h18:=k8 _ _ h1;have kS:=k1.trans k8;have L8:=hL.sub kS;have g1:=g1.sub k8;have g2:=g2.sub k8;have a0:[l1,l2][0]?=some l1:=rfl;have a1:[l1,l2][1]?=some l2:=rfl;have fin:∀(x1:x.1≠[]) (x2:x.2≠[]),qEL XX (.int .i64 (i:Int)) (.ptr b 0) (.ptr b6 0) K s8:=λx1 x2=>zAF7 h18 h8 g1 g2 (z.N x hxm).1 (z.N x hxm).2 hf L8.B z.B L8.S hx z.S (λy hy=>(z.N y hy).1) (hK.imp kS ⟨λh=>⟨⟨⟨x1,x2⟩,⟨h.1,h.2.1⟩,h.2.2.1⟩,h.2.2.2⟩,λh=>⟨h.1.2.1.1,h.1.2.1.2,h.1.2.2,h.2⟩⟩);have em:∀{l:List Int},((l.length:Int) == 0)=false->l≠[]:=λh e=>by rw[e]at h;cases h
 have em':∀{l:List Int},((l.length:Int) == 0)=true->l=[]:=λh=>List.length_eq_zero_iff.1 (by have:=eq_of_beq h;omega);simp only[qAA,qAL h8,a0,g1.len,qCR,qAY,qAU,Bool.false_bne];cases q:((x.1.length:Int) == 0)with
 | true=>
   simp only[qAI,qF6,qAN,qAA];exact hK.bad (by decide) kS λg=>g.1.1.1 (em' q)
 |false=>
 simp only[qAD,qAA,a1,g2.len,qCR,qF6,qAH];refine qAF (λq2=>?_) (λq2=>fin (em q) (em q2));exact hK.bad (by decide) kS λg=>g.1.1.2 (em' q2)
theorem zAAg{S:List (List Int×List Int)}(h:∀x∈S,x.1.Pairwise (· < ·))(n:Int):((S.map (·.1)).flatten).count n=cnS S S.length n:=by
 unfold cnS;rw[List.take_length]
 induction S with
 |nil=>rfl
 | cons x S ih=>
   rw[List.map_cons,List.flatten_cons,List.count_append,ih λy hy=>h y (by simp[hy]),List.countP_cons];have:x.1.count n=if decide (n∈x.1)=true then 1 else 0:=by
    by_cases hm:n∈x.1
    ·rw[if_pos (decide_eq_true hm)]
     have hd:x.1.Nodup:=(h x (by simp)).imp λh=>by omega
     have h1:=List.nodup_iff_count.1 hd n;have h2:=List.count_pos_iff.2 hm;omega
    ·rw[if_neg (by simpa using hm),List.count_eq_zero.2 hm]
   omega
theorem qV9{S:List (List Int×List Int)}(h:∀(i:Nat) x,S[i]?=some x->∀n∈x.1,cnS S (i+1) n<=32)(n:Int):∀j,j<=S.length->cnS S j n<=32
 | 0,_=>by unfold cnS;simp
 | j+1,hj=>by
   have hx:S[j]?=some S[j]:=gEY (by omega)
   by_cases hm:n∈S[j].1
   ·exact h j _ hx n hm
   ·rw[qVc hx,if_neg hm]
    exact qV9 h n j (by omega)
theorem zAEs{S:List (List Int×List Int)}{n:Int}{j k:Nat}(h:j<=k):cnS S j n<=cnS S k n:=by
 unfold cnS;have:(S.take j)=(S.take k).take j:=by rw[List.take_take,Nat.min_eq_left h]
 rw[this];exact(List.take_sublist _ _).countP_le
theorem qSP:SegOk F↔F.S.length<=64/\∀(i:Nat) x,F.S[i]?=some x->qMz F x/\∀n∈x.1,cnS F.S (i+1) n<=32:=by
 constructor
 ·intro h
  refine⟨h.n,λi x hx=>⟨h.row x (mG hx),λn hn=>?_⟩⟩;have:=h.port n;rw[zAAg (λy hy=>(h.row y hy).2.2.1)]at this;exact Nat.le_trans (zAEs (gS hx).1) this
 ·rintro ⟨h1,h2⟩
  have hr:∀x∈F.S,qMz F x:=λx hx=>by obtain⟨i,hi,rfl⟩:=List.mem_iff_getElem.1 hx;exact(h2 i _ (gEY hi)).1
  refine⟨h1,hr,λn=>?_⟩;rw[zAAg (λy hy=>(hr y hy).2.2.1)];exact qV9 (λi x hx=>(h2 i x hx).2) n _ (by omega)
end Go.AM.TN
set_option maxRecDepth 100000
namespace Go.AM.TN
open Go Go.Proofs
variable {K:AV→Hq→Prop} {s:Hq} {y k:AV} {b b6 b8:Nat} {cs:List AV} {F:FG} {v2 v3 v4 v5 v6 v7:AV} {t:Bool} {i:Nat} {x:R4} {d:BG}
theorem zAF8(hn:F.H.length<=4294967296)(hi:i<F.H.length)(h1:s b=some (false,.cells 31 (csG F v2 v3 v4 v5 v6 v7)))(h6:s b6=some (false,.cells 140 (hgC x)))(hH:SlR 4 s v6 (F.H.map hgC))(hK:Rok s ((x.2.2.1,x.1) ∉ ((F.H.take i).map λy=>(y.2.2.1,y.1))/\(x.2.1≠0->(x.2.2.1,x.2.1) ∉ (F.H.take i).map λy=>(y.2.2.1,y.2.1))) K):qEI XX (.int .i64 (i:Int)) (.ptr b 0) (.ptr b6 0) K s:=by
 unfold qEI;have x0:(hgC x)[0]?=some (.int .u64 x.1):=rfl;have x1:(hgC x)[1]?=some (.int .u32 x.2.1):=rfl;have x2:(hgC x)[2]?=some (.int .i64 x.2.2.1):=rfl;refine⟨λys t m=>∃k:Nat,ys=[.int .i64 (k:Int)]/\Sub s t/\k<=i/\m=i-k/\(x.2.2.1,x.1) ∉ ((F.H.take k).map λy=>(y.2.2.1,y.1))/\(x.2.1≠0->(x.2.2.1,x.2.1) ∉ (F.H.take k).map λy=>(y.2.2.1,y.2.1)),⟨_,0,rfl,.refl _,by omega,rfl,by simp,by simp⟩,?_⟩;rintro e t m ⟨k,hy,kt,hki,rfl,hn1,hn2⟩;simp only[cI,and_true]at hy;rw[hy];have ht1:=kt _ _ h1;simp only[qQS,qAS,qAA];refine qAF (λhlt=>?_) (λhge=>?_)
 ·have hlt:k<i:=by have:=oT hlt;omega
  have hk:F.H[k]?=some F.H[k]:=gEY (by omega);generalize F.H[k]=z at hk;have hzm:z∈F.H.take i:=mG (i:=k) (by rw[List.getElem?_take,if_pos hlt];exact hk);obtain⟨pb,po,e1,e2,e3⟩:=(hH.sub kt).get (i:=k) (r:=hgC z) (by rw[List.getElem?_map,hk];rfl);simp only[qAG,zA,qAA,qAL ht1,csG6,e1,e2];refine qAP λb29 s30 hb29 h30 u30=>qAZ h30 rfl rfl rfl λs31 h31 u31=>?_;have k31:Sub t s31:=qAa (u30.sub hb29) u31 hb29;have kT:=kt.trans k31;have h6':=kT _ _ h6;have z0:(hgC z)[0]?=some (.int .u64 z.1):=rfl;have z1:(hgC z)[1]?=some (.int .u32 z.2.1):=rfl;have z2:(hgC z)[2]?=some (.int .i64 z.2.2.1):=rfl;have next:¬(x.2.2.1=z.2.2.1/\x.1=z.1)->¬(x.2.1≠0/\x.2.2.1=z.2.2.1/\x.2.1=z.2.1)->oK (qAB .add (.int .i64 (k:Int)) (.int .i64 1)) λv_25=>∃m',m'<i-k/\∃k:Nat,[v_25]=[AV.int .i64 (k:Int)]/\Sub s s31/\k<=i/\m'=i-k/\(x.2.2.1,x.1) ∉ ((F.H.take k).map λy=>(y.2.2.1,y.1))/\(x.2.1≠0->(x.2.2.1,x.2.1) ∉ (F.H.take k).map λy=>(y.2.2.1,y.2.1)):=λq1 q2=>by
   simp only[qAV,qAA];rw[qAc (by omega) (by omega)];refine⟨_,by omega,k+1,rfl,kT,by omega,rfl,λhm=>?_,λh0 hm=>?_⟩
   ·rcases(nit (f:=λy:R4=>(y.2.2.1,y.1)) hk).1 hm with hm|hm
    ·exact hn1 hm
    ·simp only[Prod.mk.injEq]at hm;exact q1 hm
   ·rcases(nit (f:=λy:R4=>(y.2.2.1,y.2.1)) hk).1 hm with hm|hm
    ·exact hn2 h0 hm
    ·simp only[Prod.mk.injEq]at hm;exact q2 ⟨h0,hm⟩
  simp only[qAA,qAL h31,z2,qAL h6',x2,qAY,qAU,Bool.false_bne];cases q:(z.2.2.1 == x.2.2.1)with
  | false=>
    have q:z.2.2.1≠x.2.2.1:=by simpa using q
    simp only[qAD,qAH,qAA];exact next (λh=>q h.1.symm) λh=>q h.2.1.symm
  |true=>
  have q:z.2.2.1=x.2.2.1:=eq_of_beq q;simp only[qAI,qAA,z0,x0,qAY,qAU,Bool.false_bne];cases q2:(z.1 == x.1)with
  | true=>
    have q2:z.1=x.1:=eq_of_beq q2;simp only[qAI,qAN,qAA];exact hK.bad (by decide) kT λg=>g.1 (List.mem_map.2 ⟨z,hzm,by rw[q,q2]⟩)
  |false=>
  have q2:z.1≠x.1:=by simpa using q2
  simp only[qAD,qAA,x1,qAY,qAU,Bool.true_bne];cases q3:(x.2.1 == 0)with
  | true=>
    have q3:x.2.1=0:=eq_of_beq q3;simp only[Bool.not_true,qAD,qKi,qAH,qAN,qAA];exact next (λh=>q2 h.2.symm) λh=>h.1 q3
  |false=>
  have q3:x.2.1≠0:=by simpa using q3
  simp only[Bool.not_false,qAI,qAA,z1,qAY,qAU,Bool.false_bne,qKi,qAH,qAN];refine qAF (λq4=>?_) (λq4=>?_)
  ·have q4:z.2.1=x.2.1:=eq_of_beq q4
   exact hK.bad (by decide) kT λg=>g.2 q3 (List.mem_map.2 ⟨z,hzm,by rw[q,q4]⟩)
  ·have q4:z.2.1≠x.2.1:=by simpa using q4
   exact next (λh=>q2 h.2.symm) λh=>q4 h.2.2.symm
 ·have hge:k=i:=by have:=oF hge;omega
  subst hge;unfold qKn;exact hK.good kt ⟨hn1,hn2⟩
theorem zAGp{D:Prop}(hn:F.H.length<=4294967296)(hi:i<F.H.length)(h1:s b=some (false,.cells 31 (csG F v2 v3 v4 v5 v6 v7)))(h6:s b6=some (false,.cells 140 (hgC x)))(h8:s b8=some (false,.cells 87 (bgC d)))(hH:SlR 4 s v6 (F.H.map hgC))(hD:D↔(x.2.2.1,x.1) ∉ ((F.H.take i).map λy=>(y.2.2.1,y.1))/\(x.2.1≠0->(x.2.2.1,x.2.1) ∉ (F.H.take i).map λy=>(y.2.2.1,y.2.1)))(h0:d.2.2.2.2.2=0->x.2.1=0)(hd:d.2.2.2.2.2≠0->qFG d.2.2.2.1 d.2.2.2.2.1=true/\8<=d.2.2.2.2.1/\d.2.2.2.2.1<=30)(hK:Rok s (qLa d x.2.1=true/\D) K):qFq XX (.int .i64 (i:Int)) (.ptr b 0) (.ptr b6 0) (.ptr b8 0) K s:=by
 unfold qFq;have x1:(hgC x)[1]?=some (.int .u32 x.2.1):=rfl;have d5:(bgC d)[5]?=some (.int .u32 d.2.2.2.2.2):=rfl;have go:∀{t:Hq},Sub s t->qLa d x.2.1=true->qEI XX (.int .i64 (i:Int)) (.ptr b 0) (.ptr b6 0) K t:=λk ha=>zAF8 hn hi (k _ _ h1) (k _ _ h6) (hH.sub k) (hK.imp k ⟨λh=>⟨ha,hD.2 h⟩,λh=>hD.1 h.2⟩);simp only[qAG,zA,qAA,qAL h8,d5,qAY,qAU,Bool.true_bne];cases q:(d.2.2.2.2.2 == 0)with
 | true=>
   have q:d.2.2.2.2.2=0:=eq_of_beq q;simp only[Bool.not_true,qAD,qKj,qAH,qAA];exact go (.refl _) (by unfold qLa;rw[h0 q];rfl)
 |false=>
 have q':d.2.2.2.2.2≠0:=by simpa using q
 obtain⟨hc,hl⟩:=hd q';simp only[Bool.not_false,qAI,qAG,zA,qAA,qAL h6,x1,qAY,qAU,Bool.true_bne,qKj,qAN];cases q2:(x.2.1 == 0)with
 | true=>
   have q2:x.2.1=0:=eq_of_beq q2;simp only[Bool.not_true,qAD,qAH,qAA];exact go (.refl _) (by unfold qLa;rw[q2];rfl)
 |false=>
 have ad:∀p q r u:Bool,qCQ d.2.2.2.1 d.2.2.2.2.1 x.2.1=p->(x.2.1 == d.2.2.2.1)=q->(x.2.1 == qS9 d.2.2.2.1 d.2.2.2.2.1)=r->(x.2.1 == d.2.2.2.2.2)=u->qLa d x.2.1=(!u&&(p&&!q&&!r)):=λp q' r u e1 e2 e3 e4=>by unfold qLa qLK;rw[e1,bne,bne,bne,bne,q,q2,e2,e3,e4];simp
 have rd:rdN s 2 (.ptr b8 3)=some (pfC d.2.2.2.1 d.2.2.2.2.1):=by simp only[rdN,h8];rfl
 simp only[Bool.not_false,qAI,qAA,rd];refine qIA λs68 k68=>?_;have h6':=k68 _ _ h6;have h8':=k68 _ _ h8;have d3:(bgC d)[3]?=some (.int .u32 d.2.2.2.1):=rfl;simp only[qAX,qAA];cases a0:qCQ d.2.2.2.1 d.2.2.2.2.1 x.2.1 with
 | false=>
   simp only[Bool.not_false,qAI,qIY,qKk,qAN,qAA];exact hK.bad (by decide) k68 λg=>by have:=g.1;rw[ad _ _ _ _ a0 rfl rfl rfl]at this;simp at this
 |true=>
 simp only[Bool.not_true,qAD,Nat.add_zero,qAA,qAL h6',x1,qAL h8',d3,qAY,qAU,Bool.false_bne];cases a1:(x.2.1 == d.2.2.2.1)with
 | true=>
   simp only[qAI,qIY,qKk,qAN,qAH,qAA];exact hK.bad (by decide) k68 λg=>by have:=g.1;rw[ad _ _ _ _ a0 a1 rfl rfl]at this;simp at this
 |false=>
 have rd':rdN s68 2 (.ptr b8 3)=some (pfC d.2.2.2.1 d.2.2.2.2.1):=by simp only[rdN,h8'];rfl
 simp only[qIY,qAH,qAD,qAG,zA,qAA,qAL h6',x1,rd'];refine qWP (by omega) λs84 k84=>?_;intro _;rw[zAAC hc hl];have kT:Sub s68 (add s68 s84):=qLN;generalize add s68 s84=T at kT;have qT:=k68.trans kT;have h6':=qT _ _ h6;have h8':=qT _ _ h8;simp only[qAY,qAU,Bool.false_bne,qAA];cases a2:(x.2.1 == qS9 d.2.2.2.1 d.2.2.2.2.1)with
 | true=>
   simp only[qAI,qAN,qAA];exact hK.bad (by decide) qT λg=>by have:=g.1;rw[ad _ _ _ _ a0 a1 a2 rfl]at this;simp at this
 |false=>
 simp only[qAD,qAA,qAL h6',x1,qAL h8',d5,qAY,qAU,Bool.false_bne,qAH,qAN];refine qAF (λa3=>?_) (λa3=>?_)
 ·exact hK.bad (by decide) qT λg=>by have:=g.1;rw[ad _ _ _ _ a0 a1 a2 a3]at this;simp at this
 ·exact go qT (by rw[ad _ _ _ _ a0 a1 a2 a3];rfl)
theorem zAFP{D:Prop}(hn:F.H.length<=4294967296)(hi:i<F.H.length)(h1:s b=some (false,.cells 31 (csG F v2 v3 v4 v5 v6 v7)))(h6:s b6=some (false,.cells 140 (hgC x)))(hB:SlR 6 s v4 (F.B.map bgC))(hH:SlR 4 s v6 (F.H.map hgC))(hp:0<=x.2.2.1)(hb:F.B[x.2.2.1.toNat]?=some d)(hD:D↔(x.2.2.1,x.1) ∉ ((F.H.take i).map λy=>(y.2.2.1,y.1))/\(x.2.1≠0->(x.2.2.1,x.2.1) ∉ (F.H.take i).map λy=>(y.2.2.1,y.2.1)))(hd:d.2.2.2.2.2≠0->qFG d.2.2.2.1 d.2.2.2.2.1=true/\8<=d.2.2.2.2.1/\d.2.2.2.2.1<=30)(hK:Rok s (((x.1≠1577058561/\qFi x.1=false)/\qLa d x.2.1=true)/\D) K):qHC XX (.int .i64 (i:Int)) (.ptr b 0) (.ptr b6 0) K s:=by
 unfold qHC;have x0:(hgC x)[0]?=some (.int .u64 x.1):=rfl;have x1:(hgC x)[1]?=some (.int .u32 x.2.1):=rfl;have x2:(hgC x)[2]?=some (.int .i64 x.2.2.1):=rfl;have d5:(bgC d)[5]?=some (.int .u32 d.2.2.2.2.2):=rfl;obtain⟨pb,po,e1,e2,e3⟩:=hB.get (i:=x.2.2.1.toNat) (r:=bgC d) (by rw[List.getElem?_map,hb];rfl);rw[Int.toNat_of_nonneg hp]at e1;simp only[qAG,zA,qAA,qAL h6,x0];refine qXU λr=>?_;refine qAJ (a:=.int .i64 r) rfl (qAJ (a:=.bool (qFi x.1)) rfl ?_);simp only[qAA,qAL h1,csG4,qAL h6,x2,e1,e2];refine qAP λb21 s22 hb21 h22 u22=>qAZ h22 rfl rfl rfl λs23 h23 u23=>?_;have k23:Sub s s23:=qAa (u22.sub hb21) u23 hb21;have h6':=k23 _ _ h6;have go:(x.1≠1577058561/\qFi x.1=false)->(d.2.2.2.2.2=0->x.2.1=0)->qFq XX (.int .i64 (i:Int)) (.ptr b 0) (.ptr b6 0) (.ptr b21 0) K s23:=λha h0=>zAGp hn hi (k23 _ _ h1) h6' h23 (hH.sub k23) hD h0 hd (hK.imp k23 ⟨λh=>⟨⟨ha,h.1⟩,h.2⟩,λh=>⟨h.1.2,h.2⟩⟩);simp only[qAA,qAL h6',x0,qAY,qAU,Bool.false_bne];cases q:(x.1 == 1577058561)with
 | true=>
   simp only[qAI,qJJ,qAN,qAA];exact hK.bad (by decide) k23 λg=>g.1.1.1 (eq_of_beq q)
 |false=>
 have q:x.1≠1577058561:=by simpa using q
 simp only[qAD,qJJ,qAH,qAA];cases q2:qFi x.1 with
 | true=>
   simp only[qAI,qAN,qAA];exact hK.bad (by decide) k23 λg=>by rw[g.1.1.2]at q2;cases q2
 |false=>
 simp only[qAD,qAG,zA,qAA,qAL h23,d5,qAY,qAU,Bool.false_bne];cases q3:(d.2.2.2.2.2 == 0)with
 | false=>
   have q3:d.2.2.2.2.2≠0:=by simpa using q3
   simp only[qAD,qI6,qAH,qAA];exact go ⟨q,q2⟩ λh=>absurd h q3
 |true=>
 have q3':d.2.2.2.2.2=0:=eq_of_beq q3;simp only[qAI,qAA,qAL h6',x1,qAY,qAU,Bool.true_bne,qI6,qAN,qAH];cases q4:(x.2.1 == 0)with
 | true=>
   simp only[Bool.not_true,qAD];exact go ⟨q,q2⟩ λ_=>eq_of_beq q4
 | false=>
   simp only[Bool.not_false,qAI];exact hK.bad (by decide) k23 λg=>by have:=g.1.2;unfold qLa at this;rw[bne,q3,q4]at this;cases this
theorem zACG(z:Sz F)(hDo:DomOk F)(hF:FabR s cs F)(hx:F.H[i]?=some x)(hK:Rok s (HoRow F i x) K):wC TP XX 159 [.agg cs,.int .i64 (i:Int)] K s:=by
 obtain⟨v2,v3,v4,v5,v6,v7,rfl,hL⟩:=hF;refine qW5 ⟨hL.all,qAP λb s1 hb h1 u1=>?_⟩;have h1:s1 b=some (false,.cells 31 (csG F v2 v3 v4 v5 v6 v7)):=h1;have k1:=u1.sub hb;have hi:=(gS hx).1;have hn:=z.H;have hBn:=hDo.n;have hSn:=z.S;obtain⟨pb,po,e1,e2,e3⟩:=(hL.sub k1).H.get (i:=i) (r:=hgC x) (by rw[List.getElem?_map,hx];rfl);simp only[qAG,zA,qAA,qAL h1,csG6,e1,e2];refine qAP λb6 s7 hb6 h7 u7=>qAZ h7 rfl rfl rfl λs8 h8 u8=>?_;have k8:Sub s1 s8:=qAa (u7.sub hb6) u8 hb6;have h18:=k8 _ _ h1;have kS:=k1.trans k8;have L8:=hL.sub kS;have lenB:qAQ v4=some F.B.length:=by rw[L8.B.len,lMY]
 have lenS:qAQ v5=some F.S.length:=L8.S.len;have x0:(hgC x)[0]?=some (.int .u64 x.1):=rfl;have x2:(hgC x)[2]?=some (.int .i64 x.2.2.1):=rfl;have x3:(hgC x)[3]?=some (.int .i64 x.2.2.2):=rfl;simp only[qAA,qAL h8,x0,qAY,qAU,Bool.false_bne];cases a0:(x.1 == 0)with
 | true=>
   simp only[qAI,qHX,qFp,qEp,qEA,qAN,qAA];exact hK.bad (by decide) kS λg=>g.m.1 (eq_of_beq a0)
 |false=>
 have g0:x.1≠0:=by simpa using a0
 simp only[qAD,qAA,qAp];cases a1:decide (281474976710655<x.1)with
 | true=>
   simp only[qAI,qHX,qFp,qEp,qEA,qAN,qAH,qAA];exact hK.bad (by decide) kS λg=>by have:=g.m.2.1;have:=oT a1;omega
 |false=>
 have g1:=oF a1;simp only[qHX,qAH,qAD,qAG,zA,qAA,qAL h8,x0];refine zAB4 ?_;cases a2:qTb x.1 with
 | true=>
   simp only[qAI,qFp,qEp,qEA,qAN,qAH,qAA];exact hK.bad (by decide) kS λg=>by rw[g.m.2.2]at a2;cases a2
 |false=>
 simp only[qFp,qAH,qAD,qAG,zA,qAA,qAL h8,x2,qAL h18,csG4,lenB,qAx];rw[qAc (by omega) (by omega)];refine qA2 ?_;simp only[qAX,qAA,Bool.not_not];cases a3:outB x.2.2.1 0 ((F.B.length:Int)-1)with
 | true=>
   simp only[qAI,qEp,qEA,qAN,qAH,qAA];exact hK.bad (by decide) kS λg=>by have:=g.r.1;rw[qAn.2 (by omega)]at a3;cases a3
 |false=>
 have g3:=qAn.1 a3;simp only[qEp,qAH,qAD,qAG,zA,qAA,qAL h8,x3,qAL h18,csG5,lenS,qAx];rw[qAc (by omega) (by omega)];refine qA2 ?_;simp only[qAX,qAA,Bool.not_not];cases a4:outB x.2.2.2 (-1) ((F.S.length:Int)-1)with
 | true=>
   simp only[qAI,qEA,qAH,qAA];exact hK.bad (by decide) kS λg=>by have:=g.r.2;rw[qAn.2 (by omega)]at a4;cases a4
 |false=>
 have g4:=qAn.1 a4;have hbd:F.B[x.2.2.1.toNat]?=some F.B[x.2.2.1.toNat]:=gEY (by omega);have hbm:F.B[x.2.2.1.toNat]∈F.B:=List.getElem_mem _;have hrow:=hDo.row _ _ hbd;generalize F.B[x.2.2.1.toNat]=d at hbd hbm hrow;have hsub:d.2.2.2.2.2≠0->qFG d.2.2.2.1 d.2.2.2.2.1=true/\8<=d.2.2.2.2.1/\d.2.2.2.2.1<=30:=λh=>⟨(hrow.s.2 h).1,(hrow.s.2 h).2.1⟩
 have go:(x.2.2.2≠-1->∀y,F.S[x.2.2.2.toNat]?=some y->x.2.2.1∈y.2)->qHC XX (.int .i64 (i:Int)) (.ptr b 0) (.ptr b6 0) K s8:=λhs=>zAFP hn hi h18 h8 L8.B L8.H g3.1 hbd Iff.rfl hsub (hK.imp kS ⟨λh=>⟨⟨g0,by omega,a2⟩,⟨by omega,by omega⟩,hs,⟨h.1.1,λd' hd'=>by rw[hbd]at hd';cases hd';exact h.1.2⟩,h.2.1,h.2.2⟩,λh=>⟨⟨h.a.1,h.a.2 d hbd⟩,h.dm,h.di⟩⟩);simp only[qEA,qAH,qAD,qAA,qKs,qAG,zA,qAL h8,x3,qAY,qAU,Bool.true_bne];cases a5:(x.2.2.2 == -1)with
 | true=>
   have a5:x.2.2.2=-1:=eq_of_beq a5;simp only[Bool.not_true,qAD,qJM,qAH,qAA];exact go λh=>absurd a5 h
 |false=>
 have a5:x.2.2.2≠-1:=by simpa using a5
 have hsg:F.S[x.2.2.2.toNat]?=some F.S[x.2.2.2.toNat]:=gEY (by omega);have hsm:F.S[x.2.2.2.toNat]∈F.S:=List.getElem_mem _;generalize F.S[x.2.2.2.toNat]=y at hsg hsm;obtain⟨pb,po,m1,m2,q1,q2,q3,q4,q5,q6⟩:=L8.S.at hsg;rw[Int.toNat_of_nonneg (by omega)]at q1;simp only[Bool.not_false,qAI,qAG,qAA,x2,qAL h18,csG5,q1,q4];refine qUH q6 (z.N y hsm).2 ?_;simp only[qAX,qAA,qJM,qAN];cases a6:decide (x.2.2.1∈y.2)with
 | false=>
   simp only[Bool.not_false,qAI];exact hK.bad (by decide) kS λg=>oF a6 (g.s a5 y hsg)
 | true=>
   simp only[Bool.not_true,qAD];exact go λ_ y' hy'=>by rw[hsg]at hy';cases hy';exact oT a6
end Go.AM.TN
set_option maxRecDepth 100000
namespace Go.AM.TN
open Go Go.Proofs
variable {K:AV→Hq→Prop} {s s':Hq} {v y k:AV} {b c b6:Nat} {cs:List AV} {F:FG} {v2 v3 v4 v5 v6 v7:AV} {t:Bool} {Q:Prop} {i:Nat}
theorem zAFX(a c p q a' c' p' q':Int):qLS TP 144 (.agg [.int .i64 a,.int .i64 c,.int .u32 p,.int .i64 q]) (.agg [.int .i64 a',.int .i64 c',.int .u32 p',.int .i64 q'])=mB (some (eqI a a')) (mB (some (eqI c c')) (mB (mB (some (eqI p p')) (mB (some (eqI q q')) (some true))) (some true))):=by kernel_rfl
theorem zAHD{x y:R4}:qLS TP 144 (.agg (ggC x)) (.agg (ggC y))=some (decide (x=y)):=by
 obtain⟨a,c,p,q⟩:=x;obtain⟨a',c',p',q'⟩:=y;show qLS TP 144 (.agg [.int .i64 a,.int .i64 c,.int .u32 p,.int .i64 q]) (.agg [.int .i64 a',.int .i64 c',.int .u32 p',.int .i64 q'])=_;rw[zAFX,qFT,qFT,qFT,qFT]
 by_cases h1:a=a'<;>by_cases h2:c=c'<;>by_cases h3:p=p'<;>by_cases h4:q=q'<;>simp[mB,h1,h2,h3,h4]
theorem zABT{x:R4}(z:Sz F)(hF:FabR s cs F)(hx:F.G[i]?=some x)(hK:Rok s (LeRow F i x) K):wC TP XX 160 [.agg cs,.int .i64 (i:Int)] K s:=by
 obtain⟨v2,v3,v4,v5,v6,v7,rfl,hL⟩:=hF;refine qXP ⟨hL.all,qAP λb s1 hb h1 u1=>?_⟩;have h1:s1 b=some (false,.cells 31 (csG F v2 v3 v4 v5 v6 v7)):=h1;have k1:=u1.sub hb;have hi:=(gS hx).1;have hn:=z.G;have hT:=z.T;obtain⟨pb,po,e1,e2,e3⟩:=(hL.sub k1).G.get (i:=i) (r:=ggC x) (by rw[List.getElem?_map,hx];rfl);simp only[qAG,zA,qAA,qAL h1,csG7,e1,e2];refine qAP λb6 s7 hb6 h7 u7=>qAZ h7 rfl rfl rfl λs8 h8 u8=>?_;have k8:Sub s1 s8:=qAa (u7.sub hb6) u8 hb6;have h18:=k8 _ _ h1;have kS:=k1.trans k8;have L8:=hL.sub kS;have lenT:qAQ v3=some F.T.length:=by rw[L8.T.len,lMY]
 have x0:(ggC x)[0]?=some (.int .i64 x.1):=rfl;have x1:(ggC x)[1]?=some (.int .i64 x.2.1):=rfl;have rd:rdN s8 2 (.ptr b6 2)=some (pfC x.2.2.1 x.2.2.2):=by simp only[rdN,h8];rfl
 simp only[qAA,qAL h8,x0,qAL h18,csG3,lenT,qAx];rw[qAc (by omega) (by omega)];refine qA2 ?_;simp only[qAX,qAA,Bool.not_not];cases a0:outB x.1 0 ((F.T.length:Int)-1)with
 | true=>
   simp only[qAI,qIa,qAN,qAA];exact hK.bad (by decide) kS λg=>by have:=g.r.1;rw[qAn.2 (by omega)]at a0;cases a0
 |false=>
 have g0:=qAn.1 a0;simp only[qAD,qAA,qAL h8,x1,qAL h18,csG3,lenT];rw[qAc (by omega) (by omega)];refine qA2 ?_;simp only[qAX,qAA,Bool.not_not];cases a1:outB x.2.1 0 ((F.T.length:Int)-1)with
 | true=>
   simp only[qAI,qIa,qAH,qAA];exact hK.bad (by decide) kS λg=>by have:=g.r.2;rw[qAn.2 (by omega)]at a1;cases a1
 |false=>
 have g1:=qAn.1 a1;simp only[qIa,qAH,qAD,qAA,qKx,qAG,zA,qAL h8,x0,x1,qAY,qAU,Bool.false_bne];cases a2:(x.1 == x.2.1)with
 | true=>
   simp only[qAI,qKu,qAN,qAA];exact hK.bad (by decide) kS λg=>g.p.1 (eq_of_beq a2)
 |false=>
 have g2:x.1≠x.2.1:=by simpa using a2
 simp only[qAD,qAA,rd];refine qTM λs26 k26=>?_;have kT:=kS.trans k26;have h18:=k26 _ _ h18;have h8:=k26 _ _ h8;have G8:=(L8.sub k26).G;simp only[qAX,qAA,qKu,qAH];cases a3:qFG x.2.2.1 x.2.2.2 with
 | false=>
   simp only[Bool.not_false,qAI];exact hK.bad (by decide) kT λg=>by rw[g.p.2]at a3;cases a3
 |true=>
 simp only[Bool.not_true,qAD,qKg];refine⟨λys t m=>∃k:Nat,ys=[.int .i64 (k:Int)]/\t=s26/\k<=i/\m=i-k/\x ∉ F.G.take k,⟨_,0,rfl,rfl,by omega,rfl,by simp⟩,?_⟩;rintro e t m ⟨k,hy,rfl,hki,rfl,hno⟩;simp only[cI,and_true]at hy;rw[hy];simp only[qQH,qAS,qAA];refine qAF (λhlt=>?_) (λhge=>?_)
 ·have hlt:k<i:=by have:=oT hlt;omega
  have hk:F.G[k]?=some F.G[k]:=gEY (by omega);generalize F.G[k]=y at hk;have hym:y∈F.G.take i:=mG (i:=k) (by rw[List.getElem?_take,if_pos hlt];exact hk);obtain⟨pb,po,e1,e2,e3⟩:=G8.get (i:=k) (r:=ggC y) (by rw[List.getElem?_map,hk];rfl);simp only[qAG,zA,qAA,qAL h18,csG7,e1,e2];refine qAJ (qAb h8 rfl) ?_;rw[zAHD];simp only[qAU,Bool.false_bne,qAA];refine qAF (λq=>?_) (λq=>?_)
  ·have q:y=x:=oT q
   exact hK.bad (by decide) kT λg=>g.d (q ▸ hym)
  ·have q:y≠x:=oF q
   simp only[qAV,qAA];rw[qAc (by omega) (by omega)];refine⟨_,by omega,k+1,rfl,(by trivial),by omega,rfl,λhm=>?_⟩;rw[List.take_add_one,hk]at hm;rcases mP hm with hm|hm
   ·exact hno hm
   ·simp at hm;exact q hm.symm
 ·have hge:k=i:=by have:=oF hge;omega
  subst hge;unfold qKq;exact hK.good kT ⟨⟨by omega,by omega⟩,⟨g2,a3⟩,hno⟩
def EL(F:FG):Nat->Nat
 | 0=>F.L.length
 | 1=>F.T.length
 | 2=>F.B.length
 | 3=>F.S.length
 | 4=>F.H.length
 |_=>F.G.length
def EM:Nat->Nat
 | 0=>128
 | 1=>16
 | 2=>32
 | 3=>64
 | 4=>128
 |_=>256
def EP(F:FG)(p i:Nat):Prop:=
 match p with
 | 0=>∀x,F.L[i]?=some x->LkG F x/\(x.1,x.2.1) ∉ (F.L.take i).map λx=>(x.1,x.2.1)
 | 1=>∀x,F.T[i]?=some x->TnG x/\x.1 ∉ (F.T.take i).map (·.1)/\x.2 ∉ (F.T.take i).map (·.2)
 | 2=>∀x,F.B[i]?=some x->BdRow F i x
 | 3=>∀x,F.S[i]?=some x->qMz F x/\∀n∈x.1,cnS F.S (i+1) n<=32
 | 4=>∀x,F.H[i]?=some x->HoRow F i x
 |_=>∀x,F.G[i]?=some x->LeRow F i x
def EQ(F:FG)(p:Nat):Prop:=EL F p<=EM p/\∀i,i<EL F p->EP F p i
theorem qW8{A:Type}{l:List A}{x:A}{Q:A->Prop}(h:l[i]?=some x):(∀x',l[i]?=some x'->Q x')↔Q x:=⟨λf=>f x h,λq x' h'=>by rw[h]at h';cases h';exact q⟩
theorem qNz{A:Type}{l:List A}{Q:Nat->A->Prop}:(∀(i:Nat) x,l[i]?=some x->Q i x)↔∀i,i<l.length->∀x,l[i]?=some x->Q i x:=⟨λh i _=>h i,λh i x hx=>h i (gS hx).1 x hx⟩
theorem zADm:DomOk F↔EQ F 2:=⟨λh=>⟨h.n,qNz.1 h.row⟩,λh=>⟨h.1,qNz.2 h.2⟩⟩
theorem zADt:Valid F↔FabOk F/\TimOk F/\∀p,p<6->EQ F p:=by
 constructor
 ·intro h
  refine⟨h 0 (by omega),h 1 (by omega),λp hp=>?_⟩
  match p,hp with
  | 0,_=>have g:LinksOk F:=h 2 (by omega);exact⟨g.n,qNz.1 g.row⟩
  | 1,_=>have g:TenOk F:=h 3 (by omega);exact⟨g.n,qNz.1 g.row⟩
  | 2,_=>exact zADm.1 (h 4 (by omega))
  | 3,_=>have g:=qSP.1 (h 5 (by omega));exact⟨g.1,qNz.1 g.2⟩
  | 4,_=>have g:HosOk F:=h 6 (by omega);exact⟨g.n,qNz.1 g.row⟩
  | 5,_=>have g:LeaOk F:=h 7 (by omega);exact⟨g.n,qNz.1 g.row⟩
 ·rintro ⟨h0,h1,h2⟩ i hi
  match i,hi with
  | 0,_=>exact h0
  | 1,_=>exact h1
  | 2,_=>exact⟨(h2 0 (by omega)).1,qNz.2 (h2 0 (by omega)).2⟩
  | 3,_=>exact⟨(h2 1 (by omega)).1,qNz.2 (h2 1 (by omega)).2⟩
  | 4,_=>exact zADm.2 (h2 2 (by omega))
  | 5,_=>exact qSP.2 ⟨(h2 3 (by omega)).1,qNz.2 (h2 3 (by omega)).2⟩
  | 6,_=>exact⟨(h2 4 (by omega)).1,qNz.2 (h2 4 (by omega)).2⟩
  | 7,_=>exact⟨(h2 5 (by omega)).1,qNz.2 (h2 5 (by omega)).2⟩
theorem qUv{p:Nat}(hp:p<6)(z:Sz F)(hf:FabOk F)(hD:4<=p->DomOk F)(hF:FabR s cs F)(hi:i<EL F p)(hK:Rok s (EP F p i) K):wC TP XX 101 [.agg cs,.int .i64 (p:Int),.int .i64 (i:Int)] K s:=by
 obtain⟨v2,v3,v4,v5,v6,v7,rfl,hL⟩:=hF;refine qRu ⟨hL.all,qAP λb s1 hb h1 u1=>?_⟩;have h1:s1 b=some (false,.cells 31 (csG F v2 v3 v4 v5 v6 v7)):=h1;have k1:=u1.sub hb;have hF1:FabR s1 (csG F v2 v3 v4 v5 v6 v7) F:=⟨v2,v3,v4,v5,v6,v7,rfl,hL.sub k1⟩
 match p,hp with
 | 0,_=>
   have hi:i<F.L.length:=hi;have hx:F.L[i]?=some F.L[i]:=gEY hi;refine qAJ (a:=.bool true) rfl ?_;rw[qAI];exact qAJ (qAb h1 rfl) (zABs hf z.L hF1 hx (hK.imp k1 (qW8 (Q:=λx=>LkG F x/\(x.1,x.2.1) ∉ (F.L.take i).map λx=>(x.1,x.2.1)) hx).symm))
 | 1,_=>
   have hi:i<F.T.length:=hi;have hx:F.T[i]?=some F.T[i]:=gEY hi;refine qAJ (a:=.bool false) rfl ?_;rw[qAD];refine qAJ (a:=.bool true) rfl ?_;rw[qAI];exact qAJ (qAb h1 rfl) (qWx z.T hF1 hx (hK.imp k1 (qW8 (Q:=λx=>TnG x/\x.1 ∉ (F.T.take i).map (·.1)/\x.2 ∉ (F.T.take i).map (·.2)) hx).symm))
 | 2,_=>
   have hi:i<F.B.length:=hi;have hx:F.B[i]?=some F.B[i]:=gEY hi;refine qAJ (a:=.bool false) rfl ?_;rw[qAD];refine qAJ (a:=.bool false) rfl ?_;rw[qAD];refine qAJ (a:=.bool true) rfl ?_;rw[qAI];exact qAJ (qAb h1 rfl) (qXO z.T z.B hF1 hx (hK.imp k1 (qW8 hx).symm))
 | 3,_=>
   have hi:i<F.S.length:=hi;have hx:F.S[i]?=some F.S[i]:=gEY hi;refine qAJ (a:=.bool false) rfl ?_;rw[qAD];refine qAJ (a:=.bool false) rfl ?_;rw[qAD];refine qAJ (a:=.bool false) rfl ?_;rw[qAD];refine qAJ (a:=.bool true) rfl ?_;rw[qAI];exact qAJ (qAb h1 rfl) (qVU hf z hF1 hx (hK.imp k1 (qW8 (Q:=λx=>qMz F x/\∀n∈x.1,cnS F.S (i+1) n<=32) hx).symm))
 | 4,_=>
   have hi:i<F.H.length:=hi;have hx:F.H[i]?=some F.H[i]:=gEY hi;refine qAJ (a:=.bool false) rfl ?_;rw[qAD];refine qAJ (a:=.bool false) rfl ?_;rw[qAD];refine qAJ (a:=.bool false) rfl ?_;rw[qAD];refine qAJ (a:=.bool false) rfl ?_;rw[qAD];refine qAJ (a:=.bool true) rfl ?_;rw[qAI];exact qAJ (qAb h1 rfl) (zACG z (hD (by omega)) hF1 hx (hK.imp k1 (qW8 hx).symm))
 | 5,_=>
   have hi:i<F.G.length:=hi;have hx:F.G[i]?=some F.G[i]:=gEY hi;refine qAJ (a:=.bool false) rfl ?_;rw[qAD];refine qAJ (a:=.bool false) rfl ?_;rw[qAD];refine qAJ (a:=.bool false) rfl ?_;rw[qAD];refine qAJ (a:=.bool false) rfl ?_;rw[qAD];refine qAJ (a:=.bool false) rfl ?_;rw[qAD];exact qAJ (qAb h1 rfl) (zABT z hF1 hx (hK.imp k1 (qW8 hx).symm))
def zADP(F:FG):List AV:=[.int .i64 F.L.length,.int .i64 F.T.length,.int .i64 F.B.length,.int .i64 F.S.length,.int .i64 F.H.length,.int .i64 F.G.length]
def zAET:List AV:=[.int .i64 128,.int .i64 16,.int .i64 32,.int .i64 64,.int .i64 128,.int .i64 256]
theorem qWD{p:Nat}(hp:p<6):(zADP F)[p]?=some (.int .i64 (EL F p:Int)):=by
 match p,hp with
 | 0,_=>rfl
 | 1,_=>rfl
 | 2,_=>rfl
 | 3,_=>rfl
 | 4,_=>rfl
 | 5,_=>rfl
theorem zABz{p:Nat}(hp:p<6):zAET[p]?=some (.int .i64 (EM p:Int)):=by
 match p,hp with
 | 0,_=>rfl
 | 1,_=>rfl
 | 2,_=>rfl
 | 3,_=>rfl
 | 4,_=>rfl
 | 5,_=>rfl
theorem zAHM{p:Nat}(z:Sz F)(hp:p<6):EL F p<=4294967296:=by
 match p,hp with
 | 0,_=>exact z.L
 | 1,_=>exact z.T
 | 2,_=>exact z.B
 | 3,_=>exact z.S
 | 4,_=>exact z.H
 | 5,_=>exact z.G
theorem qTo(z:Sz F)(hF:FabR s cs F)(hK:∀(e:Int) (v:AV) (j:Int) (s':Hq),Sub s s'->(e=0↔Valid F)->K (.tup [.int .i64 e,v,.int .i64 j]) s'):wC TP XX 71 [.agg cs] K s:=by
 obtain⟨v2,v3,v4,v5,v6,v7,rfl,hL⟩:=hF;refine qUU ⟨hL.all,qAP λb s1 hb h1 u1=>?_⟩;have h1:s1 b=some (false,.cells 31 (csG F v2 v3 v4 v5 v6 v7)):=h1;have k1:=u1.sub hb;rw[zADt]at hK;refine qAJ (qAb h1 rfl) (qU0 ⟨v2,v3,v4,v5,v6,v7,rfl,hL.sub k1⟩ λe s4 k4 he=>?_);have q4:=k1.trans k4;have h14:=k4 _ _ h1;simp only[qAY,qAU,Bool.true_bne,qAA];cases a0:(e == 0)with
 | false=>
   have a0:e≠0:=by simpa using a0
   simp only[Bool.not_false,qAI];exact hK _ _ _ _ q4 ⟨λh=>absurd h a0,λg=>absurd (he.2 g.1) a0⟩
 |true=>
 have hf:FabOk F:=he.1 (eq_of_beq a0);have rt:rdN s4 6 (.ptr b 13)=some [.int .i64 F.de,.int .i64 F.ho,.int .i64 F.ag,.int .i64 F.re,.int .i64 F.mo,.int .i64 F.wi]:=by simp only[rdN,h14];rfl
 simp only[Bool.not_true,qAD,qAG,zA,qAA,rt];refine qWy λe s9 k9 he=>?_;have q9:=q4.trans k9;have h19:=k9 _ _ h14;simp only[qAY,qAU,Bool.true_bne,qAA];cases a1:(e == 0)with
 | false=>
   have a1:e≠0:=by simpa using a1
   simp only[Bool.not_false,qAI];exact hK _ _ _ _ q9 ⟨λh=>absurd h a1,λg=>absurd (he.2 g.2.1) a1⟩
 |true=>
 have ht:TimOk F:=he.1 (eq_of_beq a1);have L9:=hL.sub q9;have n2:qAQ v2=some F.L.length:=by rw[L9.L.len,lMY]
 have n3:qAQ v3=some F.T.length:=by rw[L9.T.len,lMY]
 have n4:qAQ v4=some F.B.length:=by rw[L9.B.len,lMY]
 have n5:qAQ v5=some F.S.length:=L9.S.len;have n6:qAQ v6=some F.H.length:=by rw[L9.H.len,lMY]
 have n7:qAQ v7=some F.G.length:=by rw[L9.G.len,lMY]
 simp only[Bool.not_true,qAD];refine qAJ (a:=[.str ⟨#[108,105,110,107,115]⟩,.str ⟨#[116,101,110,97,110,116,115]⟩,.str ⟨#[100,111,109,97,105,110,115]⟩,.str ⟨#[115,101,103,109,101,110,116,115]⟩,.str ⟨#[104,111,115,116,115]⟩,.str ⟨#[108,101,97,107,115]⟩]) rfl ⟨rfl,qAP λb12 s13 hb12 h13 u13=>?_⟩;have k13:=u13.sub hb12;have h113:=k13 _ _ h19;simp only[qAA,qAL h113,csG2,csG3,csG4,csG5,csG6,csG7,n2,n3,n4,n5,n6,n7];refine qAJ (a:=zADP F) rfl ⟨rfl,qAP λb39 s40 hb39 h40 u40=>?_⟩;refine qAJ (a:=zAET) rfl ⟨rfl,qAP λb42 s43 hb42 h43 u43=>?_⟩;have k40:=u40.sub hb39;have k43:=u43.sub hb42;have q43:=q9.trans (k13.trans (k40.trans k43));have g1:=k43 _ _ (k40 _ _ h113);have g39:=k43 _ _ h40;have g12:=k43 _ _ (k40 _ _ h13);clear h113 h19 h14 h1 h13 h40;have sP:∃l:List AV,l.length=6/\Sl s43 (.slc b12 0 6 (some 6) 1) l:=⟨_,by rfl,Sl.mk g12 rfl (by intro c hc;cases hc;exact Nat.le_refl _)⟩
 obtain⟨lp,lp6,sP⟩:=sP;have sM:Sl s43 (.slc b39 0 6 (some 6) 1) (zADP F):=Sl.mk g39 rfl (by intro c hc;cases hc;exact Nat.le_refl _);have sX:Sl s43 (.slc b42 0 6 (some 6) 1) zAET:=Sl.mk h43 rfl (by intro c hc;cases hc;exact Nat.le_refl _);refine⟨λys t m=>∃p:Nat,ys=[.int .i64 (p:Int)]/\Sub s43 t/\p<=6/\m=6-p/\∀q,q<p->EQ F q,⟨_,0,rfl,.refl _,by omega,rfl,λq hq=>by omega⟩,?_⟩;rintro en t m ⟨p,hy,kt,hp6,rfl,hall⟩;simp only[cI,and_true]at hy;rw[hy];clear hy;have sP':=sP.sub kt;have sM':=sM.sub kt;have sX':=sX.sub kt;have lenP:qAQ (.slc b12 0 6 (some 6) 1)=some 6:=by rw[sP'.len,lp6]
 simp only[qOW,lenP,qAS,qAA];refine qAF (λhlt=>?_) (λhge=>?_)
 ·have hp:p<6:=by have:=oT hlt;omega
  obtain⟨pm,m1,m2⟩:=sM'.get (i:=p) hp;obtain⟨px,x1,x2⟩:=sX'.get (i:=p) hp;obtain⟨pp,p1,p2⟩:=sP'.get (i:=p) (by omega);rw[qWD hp]at m2;rw[zABz hp]at x2;have hlp:lp[p]?=some lp[p]:=gEY (by omega);rw[hlp]at p2;simp only[m1,m2,x1,x2,qAA,qAp];refine qAF (λq=>?_) (λq=>?_)
  ·simp only[p1,p2,qAA]
   refine hK 7 _ _ _ (q43.trans kt) ⟨λh=>absurd h (by decide),λg=>?_⟩;have:=(g.2.2 p hp).1;have:=oT q;omega
  ·have hle:EL F p<=EM p:=by have:=oF q;omega
   have hel:=zAHM z hp;refine⟨λys t2 m=>∃i:Nat,ys=[.int .i64 (i:Int)]/\Sub s43 t2/\i<=EL F p/\m=EL F p-i/\∀j,j<i->EP F p j,⟨_,0,rfl,kt,by omega,rfl,λj hj=>by omega⟩,?_⟩;rintro en2 t2 m2 ⟨i,hy,kt2,hi,rfl,hrow⟩;simp only[cI,and_true]at hy;rw[hy];clear hy;have m2':=(sM.sub kt2).get (i:=p) hp;obtain⟨pm,m1,m2⟩:=m2';rw[qWD hp]at m2;simp only[qPa,m1,m2,qAS,qAA];refine qAF (λhlt2=>?_) (λhge2=>?_)
   ·have hlt2:i<EL F p:=by have:=oT hlt2;omega
    have q2:=q43.trans kt2;refine qAJ (qAb (kt2 _ _ g1) rfl) (qUv hp z hf (λh4=>zADm.2 (hall 2 (by omega))) ⟨v2,v3,v4,v5,v6,v7,rfl,hL.sub q2⟩ hlt2 λe s61 k61 he=>?_);simp only[qAY,qAU,Bool.true_bne,qAA];cases a2:(e == 0)with
    | false=>
      have a2:e≠0:=by simpa using a2
      obtain⟨pp,p1,p2⟩:=(sP.sub (kt2.trans k61)).get (i:=p) (by omega);rw[hlp]at p2;simp only[Bool.not_false,qAI,p1,p2,qAA];exact hK _ _ _ _ (q2.trans k61) ⟨λh=>absurd h a2,λg=>absurd (he.2 ((g.2.2 p hp).2 i hlt2)) a2⟩
    |true=>
    simp only[Bool.not_true,qAD,qAV,qAA];rw[qAc (by omega) (by omega)];refine⟨_,by omega,i+1,rfl,kt2.trans k61,by omega,rfl,λj hj=>?_⟩
    by_cases e:j=i
    ·subst e;exact he.1 (eq_of_beq a2)
    ·exact hrow j (by omega)
   ·have hge2:i=EL F p:=by have:=oF hge2;omega
    subst hge2;simp only[qAV,qAA];rw[qAc (by omega) (by omega)];refine⟨_,by omega,p+1,rfl,kt2,by omega,rfl,λq hq=>?_⟩
    by_cases e:q=p
    ·subst e;exact⟨hle,hrow⟩
    ·exact hall q (by omega)
 ·have hge:p=6:=by have:=oF hge;omega
  subst hge;exact hK _ _ _ _ (q43.trans kt) ⟨λ_=>⟨hf,ht,hall⟩,λ_=>rfl⟩
end Go.AM.TN
