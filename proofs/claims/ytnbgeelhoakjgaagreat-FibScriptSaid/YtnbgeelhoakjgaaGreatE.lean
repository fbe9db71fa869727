/- Part E of a calculus over a small memory that is proved to answer as the program does, and of its use for the functions that the law reaches: see the last part. -/
import Derived.Test.YtnbgeelhoakjgaaGreatV
import Derived.Test.YtnbgeelhoakjgaaGreatC
import Derived.Test.YtnbgeelhoakjgaaGreatD
import Derived.Test.YtnbgeelhoakjgaaGreatU1
set_option linter.unusedVariables false
namespace Go.AM.FB
open Go Go.Proofs
set_option maxRecDepth 100000
variable {K:AV→Hq→Prop} {s s' t:Hq} {lv v w:AV} {N:Nat} {d:Nat→Int} {L:List RLk}
theorem u32w {x:Int} (h1:0≤x) (h2:x < 4294967296):IntKind.u32.wrap x=x:=by
 unfold IntKind.wrap
 simp [IntKind.bits,IntKind.signed]
 omega
theorem qVT {n:Nat} (hn:n < 32) (hK:K (.tup [.int .i64 (n:Int),.bool true]) s):wC TP XX 29 [.int .u32 (lbk n)] K s:=by
 refine qJT ?_
 have c1:decide (lbk n≤184483840)=false:=decide_eq_false (by unfold lbk;omega)
 have c2:decide ((184483872:Int) < lbk n)=false:=decide_eq_false (by unfold lbk;omega)
 have a1:qAG .sub (.int .u32 (lbk n)) (.int .u32 184483840)=some (.int .u32 ((n:Int)+1)):=by
  rw [qBO,show lbk n - 184483840=(n:Int)+1 by unfold lbk;omega,u32w (by omega) (by omega)]
 have a2:qAG .sub (.int .u32 ((n:Int)+1)) (.int .u32 1)=some (.int .u32 (n:Int)):=by
  rw [qBO,show (n:Int)+1 - 1=(n:Int) by omega,u32w (by omega) (by omega)]
 have a3:qCi .i64 (.int .u32 (n:Int))=some (.int .i64 (n:Int)):=by
  show some (AV.int .i64 (qB7 .i64 (n:Int)))=_
  rw [show qB7 .i64 (n:Int)=n by simp only [qB7];rw [qGo _ _ _ (by omega) (by omega)];split <;> omega]
 simp only [qJa,qI1,qAx,c1,c2,qAB,qAA,qDZ,qAL,a1,a2,a3]
 exact hK
theorem qZd {x:Int} (h0:0≤x∧x < 4294967296) (hx:∀ n:Nat,n < 32→x≠lbk n) (hK:K (.tup [.int .i64 0,.bool false]) s):wC TP XX 29 [.int .u32 x] K s:=by
 refine qJT ?_
 simp only [qJa,qI1,qAx,qAA]
 refine qAU (λc1=>?_) (λc1=>?_)
 ·rw [c1]
  simp only [qDZ,qAV,qAI,qAA]
  exact hK
 ·have c2:decide ((184483872:Int) < x)=true:=by
   rw [decide_eq_true_eq]
   have c1:=oF c1
   by_cases q:184483872 < x
   ·exact q
   ·exfalso
    exact hx (x - 184483841).toNat (by omega) (by unfold lbk;omega)
  rw [c1,c2]
  simp only [qDZ,qAL,qAI,qAA]
  exact hK
def fibC (n x:Int) (lv ev:AV) (mb:Nat):List AV:=[.int .i64 n,.int .i64 x,.int .u32 (184483841+x),lv,ev,.map mb]
theorem qDx {f:Nat} {tg:Bool} {n x:Int} {lv ev:AV} {mb:Nat} (h:s f=some (tg,.cells 76 (fibC n x lv ev mb))) (hn:0 < n) (hK:K (.bool true) s):wC TP XX 28 [.ptr f 0] K s:=by
 refine qKP ?_
 have e:(fibC n x lv ev mb)[0]?=some (.int .i64 n):=rfl
 have hp:decide ((0:Int) < n)=true:=decide_eq_true hn
 simp only [qIV,qPc,qAi,Bool.bne_false,qAA,qAI,qAJ,qAE,qAM h,zA,e,qAx,hp,qD0,qAV]
 exact hK
theorem qM5 {rows:List (List AV)} (h:SlR 3 s v rows) (hl:rows.length≤1000000) (hK:∀ w s',Sub s s'→SlR 3 s' w rows→(∀ b o n c,w=.slc b o n c 3→rows≠[]→s b=none)→K w s'):wC TP XX 25 [v] K s:=by
 refine qEo ?_
 have cases0:(v=.nilslc∧rows=[])∨∃ b o c,v=.slc b o rows.length c 3:=by
  rcases h.2 with ⟨a,b⟩ | ⟨b,o,c,a,_⟩
  ·exact .inl ⟨a,b⟩
  ·exact .inr ⟨b,o,c,a⟩
 rcases cases0 with ⟨rfl,rfl⟩ | ⟨b,o,c,rfl⟩
 ·simp only [qB2,qJq,qAi,Bool.false_bne,qAA,qAI]
  exact hK _ _ (.refl s) ⟨by simp,.inl ⟨rfl,rfl⟩⟩ λ_ _ _ _ _ h=>absurd rfl h
 ·simp only [qB2,qOy,qAi,Bool.false_bne,qAA,qAB]
  refine qAW (a:=[]) rfl ⟨rfl,qAS λd s1 hd h1 u1=>?_⟩
  have sub1:=u1.sub hd
  exact qMt (h.sub sub1) (by omega) λv' s' sub2 h2 h3=>hK v' s' (sub1.trans sub2) h2 λb o n c e q=>qAe sub1 (h3 b o n c e q)
theorem New_in {n x:Int} (hl:SlR 3 s lv (L.map rwR)) (hlm:L.length≤9223372036854775807)
  (hbad:¬ (vld n L (List.replicate L.length false)∧0≤x∧x < n)→∀ s' e,Sub s s'→e≠0→K (.tup [.nilptr,.int .i64 e]) s')
  (hK:vld n L (List.replicate L.length false)→0≤x→x < n→∀ f mb lv' s',Sub s s'→s f=none→s mb=none→f≠mb→s' f=some (false,.cells 76 (fibC n x lv' .nilslc mb))→s' mb=some (false,.map [] 0)→SlR 3 s' lv' (L.map rwR)→(∀ b o n c,lv'=.slc b o n c 3→L.map rwR≠[]→b≠f∧b≠mb)→K (.tup [.ptr f 0,.int .i64 0]) s') :
  wC TP XX 5 [.int .i64 n,lv,.int .i64 x] K s:=by
 refine qLV ?_
 have bad0:∀ {s'},¬ (vld n L (List.replicate L.length false)∧0≤x∧x < n)→Sub s s'→∀ {e:Int},e≠0→K (.tup [.nilptr,.int .i64 e]) s':=fun {s'} h k {e} he=>hbad h s' e k he
 simp only [qLb,hl.len,lMY,qAx,qAA]
 refine qAU (λc=>?_) (λc=>?_)
 ·have c':=oT c
  rw [c]
  simp only [qCW,qAV,qAI,qAA]
  exact bad0 (λh=>by have:=h.1.2.2.1;omega) (.refl s) (by omega)
 have c':=oF c
 rw [c]
 simp only [nat?_mk,qAA]
 refine ⟨⟨Nat.le_refl _,by omega⟩,qAS λub s1 hub h1 u1=>?_⟩
 have sub1:=u1.sub hub
 have hu1:Sl s1 (.slc ub 0 L.length (some L.length) 1) ((List.replicate L.length false).map AV.bool):=by
  rw [qFE] at h1
  refine Sl.mk (l:=(List.replicate L.length false).map AV.bool) (t:=false) (e:=4) ?_ (by simp) (by simp)
  rw [h1,List.map_replicate]
 refine qRv (hl.sub sub1) hlm hu1 λdv s2 sub2 hno hyes=>?_
 have s02:=sub1.trans sub2
 by_cases q:vld n L (List.replicate L.length false)∧(0:Int)≤0∧0 < n
 rotate_left
 ·rw [hno q]
  have q':¬ (vld n L (List.replicate L.length false)∧0≤x∧x < n):=λh=>q ⟨h.1,by omega,by omega⟩
  simp only [qJq,qAi,Bool.false_bne,qAA,qCW,qAL,qAI]
  exact bad0 q' s02 (by omega)
 obtain ⟨hv,_,hn0⟩:=q
 obtain ⟨N,rfl⟩:∃ N:Nat,n=N:=⟨n.toNat,by omega⟩
 obtain ⟨d,db,_,_,rfl,_,_⟩:=hyes N 0 hv rfl (by omega) rfl
 simp only [qOy,qAi,Bool.false_bne,qAA,qCW,qAL,qAB,qAQ]
 by_cases c1:x < 0
 ·rw [decide_eq_true c1]
  simp only [qDf,qAV,qAI,qAA]
  exact bad0 (λh=>by omega) s02 (by omega)
 rw [decide_eq_false c1]
 simp only [qAB,qA8,qAA,qDf,qAL]
 by_cases c2:(N:Int)≤x
 ·rw [decide_eq_true c2]
  simp only [qAI]
  exact bad0 (λh=>by omega) s02 (by omega)
 rw [decide_eq_false c2]
 simp only [qAB]
 obtain ⟨r,rfl⟩:∃ r:Nat,x=r:=⟨x.toNat,by omega⟩
 have hN:=hv.2.1
 refine qPS (by omega) ?_
 have x0:qAN (.tup [.int .u32 (lbk r),.int .i64 0]) 0=some (.int .u32 (lbk r)):=rfl
 have x1:qAN (.tup [.int .u32 (lbk r),.int .i64 0]) 1=some (.int .i64 0):=rfl
 simp only [x0,x1,qAv,qAi,beq_self_eq_true,Bool.true_bne,Bool.not_true,qAB,qAA]
 refine qM5 (hl.sub s02) (by rw [lMY];omega) λlv' s3 sub3 hl3 fr3=>?_
 have s03:=s02.trans sub3
 intro mb hmb
 have sub4:Sub s3 (hset s3 mb (false,.map [] 0)):=qJb hmb
 have hm4:hset s3 mb (false,.map [] 0) mb=some (false,.map [] 0):=by simp [hset]
 generalize hset s3 mb (false,.map [] 0)=s4 at sub4 hm4
 have hone:lv'.one=true:=hl3.one
 refine qAW (a:=fibC N r lv' .nilslc mb) ?_ ?_
 ·show cond (Nat.beq lv'.cells.length 1&&Nat.ble (3+lv'.cells.length) 6) (qA2 (qAu [.int .i64 (N:Int),.int .i64 (r:Int),.int .u32 (lbk r),.nilslc,.nilslc,.nilmap] 3 lv'.cells) [(5,1,.map mb)]) none=_
  rw [qBk hone]
  rfl
 refine ⟨?_,qAS λf s5 hf h5 u5=>?_⟩
 ·show ((AV.int .i64 (N:Int)).one&&((AV.int .i64 (r:Int)).one&&((AV.int .u32 _).one&&(lv'.one&&(AV.nilslc.one&&((AV.map mb).one&&true))))))=true
  rw [hone];rfl
 have sub5:=u5.sub hf
 have hfm:f≠mb:=λe=>by rw [e,hm4] at hf;cases hf
 refine hK hv (by omega) (by omega) f mb lv' s5 (s03.trans (sub4.trans sub5)) (qAe (s03.trans sub4) hf) (qAe s03 hmb) hfm h5 (sub5 _ _ hm4) (hl3.sub (sub4.trans sub5)) λb o n c e hne=>?_
 have:=hl3.was b o n c e hne
 exact ⟨λq=>this (qAe sub4 (by rw [q];exact hf)),λq=>this (by rw [q];exact hmb)⟩
end Go.AM.FB
namespace Go.AM.FB
open Go Go.Proofs
set_option maxRecDepth 100000
variable {s s':Hq} {v y w:AV}
def mE:Nat→List (Nat × Nat)→List AEnt
 | _,[]=>[]
 | i,p :: l=>⟨.int .i64 (p.1:Int),.ptr p.2 0,i⟩ :: mE (i+1) l
theorem qSy:∀ {i:Nat} {l:List (Nat × Nat)},(mE i l).length=l.length
 | _,[]=>rfl
 | i,p :: l=>by show (mE (i+1) l).length+1=_;rw [qSy];rfl
theorem qYR {p:Nat × Nat}:∀ {i:Nat} {l:List (Nat × Nat)},mE i (l ++ [p])=mE i l ++ [⟨.int .i64 (p.1:Int),.ptr p.2 0,i+l.length⟩]
 | _,[]=>rfl
 | i,q :: l=>by
   show _ :: mE (i+1) (l ++ [p])=_ :: mE (i+1) l ++ _
   rw [qYR,List.cons_append]
   have:i+1+l.length=i+(q :: l).length:=by rw [List.length_cons];omega
   rw [this]
theorem qVV:∀ {i:Nat} {l:List (Nat × Nat)} {c:Nat},i+l.length≤c→qIe c (mE i l)=true
 | _,[],_,_=>rfl
 | i,p :: l,c,h=>by
   rw [List.length_cons] at h
   show (Nat.blt i c&&qIe c (mE (i+1) l))=true
   rw [qVV (by omega),Bool.and_true,Nat.blt_eq]
   omega
theorem qQ1:∀ {i:Nat} {l:List (Nat × Nat)} {e:AEnt},e∈mE i l→∃ p∈l,e.key=.int .i64 (p.1:Int)∧e.val=.ptr p.2 0∧i≤e.born
 | _,[],e,h=>by cases h
 | i,p :: l,e,h=>by
   rcases mC h with rfl | h
   ·exact ⟨p,by simp,rfl,rfl,Nat.le_refl _⟩
   ·obtain ⟨q,hq,a,b,c⟩:=qQ1 h
    exact ⟨q,mO _ hq,a,b,by omega⟩
theorem qKQ:∀ {i:Nat} {l:List (Nat × Nat)} {e:AEnt},e∈mE i l→qGq e.born (mE i l)=some e
 | _,[],e,h=>by cases h
 | i,p :: l,e,h=>by
   show cond (Nat.beq i e.born) _ (qGq e.born (mE (i+1) l))=_
   rcases mC h with rfl | h
   ·rw [Nat.beq_refl];rfl
   ·obtain ⟨_,_,_,_,c⟩:=qQ1 h
    have:Nat.beq i e.born=false:=by
     cases q:Nat.beq i e.born with
     | false=>rfl
     | true=>have:=bE q;omega
    rw [this]
    exact qKQ h
def wOf (l:List (Nat × Nat)) (n:Nat):Option Nat:=(l.find? λp=>p.1 == n).map (·.2)
theorem keq {a b:Nat}:qPy (.int .i64) (.int .i64 (a:Int)) (.int .i64 (b:Int))=some (b == a):=by
 show some (eqI (a:Int) b)=_
 rw [qGn]
 congr 1
 rw [Bool.eq_iff_iff]
 simp only [beq_iff_eq]
 omega
theorem qRq {n:Nat}:∀ {i j:Nat} {l:List (Nat × Nat)},∃ r,qN7 (.int .i64 (n:Int)) (mE i l) j=some r∧r.map (·.2)=(wOf l n).map λw=>AV.ptr w 0
 | _,_,[]=>⟨none,rfl,rfl⟩
 | i,j,p :: l=>by
   have e:qN7 (.int .i64 (n:Int)) (mE i (p :: l)) j=match (some (p.1 == n):Option Bool) with
     | some true=>some (some (j,AV.ptr p.2 0))
     | some false=>qN7 (.int .i64 (n:Int)) (mE (i+1) l) (j+1)
     | none=>none:=by
    rw [← keq];rfl
   cases q:(p.1 == n) with
   | true=>
     rw [q] at e
     refine ⟨some (j,.ptr p.2 0),e,?_⟩
     unfold wOf
     rw [List.find?_cons_of_pos (by exact q)]
     rfl
   | false=>
     rw [q] at e
     obtain ⟨r,h1,h2⟩:=qRq (n:=n) (i:=i+1) (j:=j+1) (l:=l)
     refine ⟨r,e.trans h1,?_⟩
     rw [h2]
     unfold wOf
     rw [List.find?_cons_of_neg (by rw [q];simp)]
theorem qSP {l:List (Nat × Nat)} {n:Nat} (h:n ∉ l.map (·.1)):wOf l n=none:=by
 unfold wOf
 rw [Option.map_eq_none_iff,List.find?_eq_none]
 intro p hp q
 exact h (List.mem_map.2 ⟨p,hp,by simpa using q⟩)
theorem qSh {l:List (Nat × Nat)} {n:Nat} (h:n∈l.map (·.1)):∃ w,wOf l n=some w∧(n,w)∈l:=by
 obtain ⟨p,hp,rfl⟩:=List.mem_map.1 h
 unfold wOf
 cases q:l.find? λx=>x.1 == p.1 with
 | none=>
   have:=List.find?_eq_none.1 q p hp
   simp at this
 | some y=>
   have h1:=List.mem_of_find?_eq_some q
   have h2:=List.find?_some q
   refine ⟨y.2,rfl,?_⟩
   have h2:y.1=p.1:=by simpa using h2
   rw [← h2]
   exact h1
theorem mget {mb:Nat} {tg:Bool} {c:Nat} {l:List (Nat × Nat)} {n:Nat} (h:s mb=some (tg,.map (mE 0 l) c)):getM s (.map mb) (.int .i64 (n:Int))=some ((wOf l n).map λw=>AV.ptr w 0):=by
 obtain ⟨r,h1,h2⟩:=qRq (n:=n) (i:=0) (j:=0) (l:=l)
 unfold getM
 simp only [h,h1]
 rw [← h2]
 cases r <;> rfl
theorem mput {mb w:Nat} {l:List (Nat × Nat)} {n:Nat} {R:Hq→Prop} (h:s mb=some (false,.map (mE 0 l) l.length)) (hn:n ∉ l.map (·.1))
  (hK:∀ s',s' mb=some (false,.map (mE 0 (l ++ [(n,w)])) (l ++ [(n,w)]).length)→Upto mb s s'→R s'):oK (putM s (.map mb) (.int .i64 (n:Int)) (.ptr w 0)) R:=by
 obtain ⟨r,h1,h2⟩:=qRq (n:=n) (i:=0) (j:=0) (l:=l)
 rw [qSP hn] at h2
 have hr:r=none:=by cases r with | none=>rfl | some x=>cases h2
 subst hr
 refine qAW (a:=hset s mb (false,.map (mE 0 (l ++ [(n,w)])) (l ++ [(n,w)]).length)) ?_ (hK _ (by simp [hset]) λi hi=>by simp [hset,hi])
 unfold putM putE
 simp only [h,h1]
 rw [qYR,lAp,zA]
 rfl
def Wh (s:Hq) (w:Nat) (l:List Nat):Prop:=∃ bb mv cap B,WH.WAt s w bb mv cap B (l.map λ(n:Nat)=>(n:Int))∧WH.Aft (l.map λ(n:Nat)=>(n:Int)) (List.replicate 64 0) B
theorem Wh.sub {w:Nat} {l:List Nat} (h:Wh s w l) (k:Sub s s'):Wh s' w l:=by
 obtain ⟨bb,mv,cap,B,h1,h2⟩:=h
 exact ⟨bb,mv,cap,B,h1.sub k,h2⟩
theorem qZ4 {a b:Int}:qKU min2A (.int .i64 a) [.int .i64 b]=some (.int .i64 (if b < a then b else a)):=by
 by_cases h:b < a
 ·have:ltI b a=true:=by rw [qIZ];exact decide_eq_true h
  simp only [qKU,min2A,this,if_pos h];rfl
 ·have:ltI b a=false:=by rw [qIZ];exact decide_eq_false h
  simp only [qKU,min2A,this,if_neg h];rfl
theorem qB8 {l:List Nat}:iz l=(l.map λ(n:Nat)=>(n:Int)).map (AV.int .i64):=by
 unfold iz
 rw [List.map_map]
 rfl
theorem Sl.whole {l:List AV} (h:Sl s v l):∃ v',qDs 1 v none (some (.int .i64 (l.length:Int))) none=some v'∧Sl s v' l:=by
 rcases h with ⟨rfl,rfl⟩ | ⟨b,o,cap,rfl,h2,h3⟩
 ·exact ⟨.nilslc,rfl,.inl ⟨rfl,rfl⟩⟩
 ·cases cap with
  | none=>
    refine ⟨.slc b o l.length none 1,?_,.inr ⟨b,o,none,rfl,by simp,h3⟩⟩
    simp [qDs,bound,bL (Nat.le_refl l.length)]
  | some c=>
    refine ⟨.slc b o l.length (some c) 1,?_,.inr ⟨b,o,some c,rfl,h2,h3⟩⟩
    simp [qDs,bound,bL (h2 c rfl)]
end Go.AM.FB
namespace Go.AM.FB
open Go Go.Proofs
set_option maxRecDepth 100000
variable {s s' t:Hq} {lv v y w:AV} {N:Nat} {G:List Lnk} {U:List Bool} {d:Nat→Int}
noncomputable def lnk (N:Nat) (G:List Lnk) (U:List Bool) (x n:Nat):List Nat:=nrL G U (dF N G U n) x
noncomputable def ndL (N:Nat) (G:List Lnk) (U:List Bool) (x:Nat):List Nat:=(List.range N).filter λn=>!(lnk N G U x n).isEmpty
theorem qYS {x:Nat}:∀ k,ofP N G U x k=((List.range k).filter λn=>!(lnk N G U x n).isEmpty).map λn=>(lbk n,lnk N G U x n)
 | 0=>rfl
 | k+1=>by
   rw [qK5,qYS k,List.range_succ,List.filter_append,List.map_append]
   congr 1
   unfold ofE
   by_cases q:nrL G U (dF N G U k) x=[]
   ·rw [if_pos q]
    have:(lnk N G U x k).isEmpty=true:=by unfold lnk;rw [q];rfl
    simp [this]
   ·rw [if_neg q]
    have:(lnk N G U x k).isEmpty=false:=by
     unfold lnk
     cases e:nrL G U (dF N G U k) x with
     | nil=>exact absurd e q
     | cons a b=>rfl
    simp [this]
    rfl
theorem qNe {x:Nat}:ofP N G U x N=(ndL N G U x).map λn=>(lbk n,lnk N G U x n):=qYS N
theorem qC3 {x n:Nat}:n∈ndL N G U x↔n < N∧lnk N G U x n≠[]:=by
 unfold ndL
 rw [List.mem_filter,List.mem_range]
 constructor
 ·rintro ⟨h1,h2⟩
  refine ⟨h1,λq=>?_⟩
  rw [q] at h2;cases h2
 ·rintro ⟨h1,h2⟩
  refine ⟨h1,?_⟩
  cases e:lnk N G U x n with
  | nil=>exact absurd e h2
  | cons a b=>rfl
theorem qRN {x:Nat}:(ndL N G U x).Pairwise (· < ·):=List.Pairwise.filter _ List.pairwise_lt_range
theorem qPB {x:Nat}:(ndL N G U x).length≤N:=by
 have:=List.length_filter_le (λn=>!(lnk N G U x n).isEmpty) (List.range N)
 rw [List.length_range] at this
 exact this
theorem qZ7 {n:Nat}:(edL G U n).Pairwise λa b=>a.1 < b.1:=by
 unfold edL
 rw [List.pairwise_filterMap]
 refine List.Pairwise.imp ?_ List.pairwise_lt_range
 intro a b hab x hx y hy
 have f:∀ {i:Nat} {e:Nat × Nat × Nat},(if U.getD i false then (match G[i]? with | some x=>(oth x n).map λm=>(i,m,x.2.2) | none=>none) else none)=some e→e.1=i:=fun {i e} h=>by
  split at h
  ·split at h
   ·obtain ⟨m,_,rfl⟩:=Option.map_eq_some_iff.1 h
    rfl
   ·cases h
  ·cases h
 rw [f hx,f hy]
 exact hab
theorem qZR {n:Nat}:(nrL G U d n).Pairwise (· < ·):=by
 unfold nrL
 rw [List.pairwise_map]
 exact (List.Pairwise.filter _ qZ7)
theorem zAAO {n i:Nat} (h:i∈nrL G U d n):i < G.length:=by
 unfold nrL at h
 obtain ⟨e,he,rfl⟩:=List.mem_map.1 h
 have he:=(List.mem_filter.1 he).1
 unfold edL at he
 obtain ⟨j,hj,hq⟩:=List.mem_filterMap.1 he
 rw [List.mem_range] at hj
 split at hq
 ·split at hq
  ·obtain ⟨m,_,rfl⟩:=Option.map_eq_some_iff.1 hq
   exact hj
  ·cases hq
 ·cases hq
theorem zAAD {n:Nat}:(nrL G U d n).length≤G.length:=by
 unfold nrL
 rw [lMY]
 exact Nat.le_trans (List.length_filter_le _ _) qLj
theorem qRl {x n:Nat}:(lnk N G U x n).Pairwise (· < ·):=qZR
theorem qSW {x n i:Nat} (h:i∈lnk N G U x n):i < G.length:=zAAO h
theorem qIE {x n:Nat}:(lnk N G U x n).length≤G.length:=zAAD
def WhR (s:Hq) (w:Nat) (l:List Nat):Prop:=∃ t1 t2 bb mv cap B,s w=some (t1,.cells 120 [.slc bb 0 B.length cap 1,mv])∧s bb=some (t2,.cells 3 (WH.ints B))∧(∀ c,cap=some c→B.length≤c)∧B.length=64∧WH.Sli s mv (l.map λ(n:Nat)=>(n:Int))∧WH.Aft (l.map λ(n:Nat)=>(n:Int)) (List.replicate 64 0) B
theorem WhR.sub {w:Nat} {l:List Nat} (h:WhR s w l) (k:Sub s s'):WhR s' w l:=by
 obtain ⟨t1,t2,bb,mv,cap,B,h1,h2,h3,h4,h5,h6⟩:=h
 exact ⟨t1,t2,bb,mv,cap,B,k _ _ h1,k _ _ h2,h3,h4,h5.sub k,h6⟩
theorem Sl.frz {l:List AV} (h:Sl s v l):Sl (AM.frz s) v l:=by
 rcases h with h | ⟨b,o,cap,h1,h2,h3⟩
 ·exact .inl h
 ·refine .inr ⟨b,o,cap,h1,h2,λhl=>?_⟩
  obtain ⟨t,e,cs,q1,q2⟩:=h3 hl
  exact ⟨true,e,cs,qBX q1,q2⟩
theorem WhR.frz {w:Nat} {l:List Nat} (h:WhR s w l):WhR (AM.frz s) w l:=by
 obtain ⟨t1,t2,bb,mv,cap,B,h1,h2,h3,h4,h5,h6⟩:=h
 exact ⟨true,true,bb,mv,cap,B,qBX h1,qBX h2,h3,h4,Sl.frz h5,h6⟩
structure FibR (s:Hq) (f N:Nat) (G:List Lnk) (U:List Bool) (x:Nat):Prop where
 ex:∃ (tf:Bool) (lv ev:AV) (mb:Nat) (R:List EnV) (tm:Bool) (c:Nat) (ws:List (Nat × Nat)),s f=some (tf,.cells 76 (fibC (N:Int) (x:Int) lv ev mb))∧SlR 2 s ev (R.map enR)∧R.map kyE=ofP N G U x N∧(∀ y∈R,Sl s y.2.1 (iz y.2.2))∧
  s mb=some (tm,.map (mE 0 ws) c)∧ws.map (·.1)=ndL N G U x∧∀ p∈ws,WhR s p.2 (lnk N G U x p.1)
theorem FibR.sub {f x:Nat} (h:FibR s f N G U x) (k:Sub s s'):FibR s' f N G U x:=by
 obtain ⟨tf,lv,ev,mb,R,tm,c,ws,h1,h2,h3,h4,h5,h6,h7⟩:=h.ex
 exact ⟨tf,lv,ev,mb,R,tm,c,ws,k _ _ h1,h2.sub k,h3,λy hy=>(h4 y hy).sub k,k _ _ h5,h6,λp hp=>(h7 p hp).sub k⟩
theorem FibR.frz {f x:Nat} (h:FibR s f N G U x):FibR (AM.frz s) f N G U x:=by
 obtain ⟨tf,lv,ev,mb,R,tm,c,ws,h1,h2,h3,h4,h5,h6,h7⟩:=h.ex
 exact ⟨true,lv,ev,mb,R,true,c,ws,qBX h1,h2.frz,h3,λy hy=>Sl.frz (h4 y hy),qBX h5,h6,λp hp=>(h7 p hp).frz⟩
end Go.AM.FB
namespace Go.AM.FB
open Go Go.Proofs
set_option maxRecDepth 100000
variable {s0 t:Hq} {v:AV}
def rchL (l:List Nat):List AV:=(List.range 32).map λj=>.bool (decide (j∈l))
theorem qMc {l:List Nat}:(rchL l).length=32:=by unfold rchL;simp
theorem qMU {l:List Nat} {n:Nat} (h:n < 32):(rchL l)[n]?=some (.bool (decide (n∈l))):=by unfold rchL;simp [h]
theorem qX0 {l:List Nat} {n:Nat} (h:n < 32):(rchL l).set n (.bool true)=rchL (l ++ [n]):=by
 apply List.ext_getElem?
 intro i
 rw [List.getElem?_set]
 by_cases e:n=i
 ·subst e
  rw [if_pos rfl,qMc,if_pos h,qMU h]
  simp
 ·rw [if_neg e]
  by_cases q:i < 32
  ·rw [qMU q,qMU q]
   simp [Ne.symm e]
  ·rw [List.getElem?_eq_none (by rw [qMc];omega),List.getElem?_eq_none (by rw [qMc];omega)]
theorem AccR.offv {elem:TypeId} {es:Nat} {rows:List (List AV)} (h:AccR elem es s0 t v rows):AccR elem es (offV v t) t v rows:=by
 refine ⟨h.1,h.2.imp id λ⟨i,q1,q2,q3⟩=>⟨i,?_,q2,q3⟩⟩
 rw [q2]
 exact if_pos rfl
theorem AccR.own {elem:TypeId} {es:Nat} {rows:List (List AV)} (h:AccR elem es s0 t v rows) {i:Nat} (hi:s0 i≠none):∀ b o n c e,v=.slc b o n c e→i≠b:=λb o n c e q q2=>by
 rcases h.2 with ⟨r,_⟩ | ⟨j,r1,r2,_⟩
 ·rw [r] at q;cases q
 ·rw [r2] at q;cases q;exact hi (by rw [q2];exact r1)
theorem qP7 {rb n:Nat} (h:n < 32):qGE 32 1 (.ptr rb 0) (.int .i64 (n:Int))=some (.ptr rb n):=by
 have:Nat.blt n 32=true:=by rw [Nat.blt_eq];exact h
 show (match nat? (.int .i64 (n:Int)) with | some i=>cond (Nat.blt i 32) (some (AV.ptr rb (0+i * 1))) none | none=>none)=_
 rw [nat?_mk]
 simp [this]
end Go.AM.FB
namespace Go.AM.FB
open Go Go.Proofs
set_option maxRecDepth 100000
end Go.AM.FB
namespace Go.AM.FB
open Go Go.Proofs
set_option maxRecDepth 100000
variable {K:AV→Hq→Prop} {s s' t:Hq} {y w:AV}
theorem qYf {w:Nat} (h:w≤1000000):qCi .u64 (.int .i64 (w:Int))=some (.int .u64 (w:Int))∧qEF .shr (.int .u64 (w:Int)) (.int .u64 1)=some (.int .u64 ((w / 2:Nat):Int))∧qCi .i64 (.int .u64 ((w / 2:Nat):Int))=some (.int .i64 ((w / 2:Nat):Int)):=by
 refine ⟨?_,?_,?_⟩
 ·show some (AV.int .u64 (qB7 .u64 (w:Int)))=_
  rw [show qB7 .u64 (w:Int)=w by simp only [qB7];rw [qGo _ _ _ (by omega) (by omega)];split <;> omega]
 ·show frc ((w:Int).fdiv ((2 ^ (min 1 (IntKind.bits .u64)):Nat):Int)) (λn=>some (AV.int .u64 n))=_
  rw [qDL,Nat.min_eq_left (show 1≤IntKind.bits .u64 by decide),Int.fdiv_eq_ediv_of_nonneg _ (Int.natCast_nonneg _),← Int.natCast_ediv]
 ·show some (AV.int .i64 (qB7 .i64 ((w / 2:Nat):Int)))=_
  rw [show qB7 .i64 ((w / 2:Nat):Int)=((w / 2:Nat):Int) by simp only [qB7];rw [qGo _ _ _ (by omega) (by omega)];split <;> omega]
theorem zAAx {a b:Int} (hK:K (.int .i64 (if a < b then -1 else if b < a then 1 else 0)) s):wC TP XX 89 [.int .u32 a,.int .u32 b] K s:=by
 refine qG7 (qEV ?_)
 simp only [qDl,qAv,qAi,beq_self_eq_true,Bool.true_bne,Bool.not_true,qAA]
 refine qEV ?_
 simp only [qDl,qAv,qAi,beq_self_eq_true,Bool.true_bne,Bool.not_true,qAA,qAB,qAQ,qAx]
 by_cases c:a < b
 ·rw [if_pos c] at hK
  rw [decide_eq_true c,qAI]
  exact hK
 ·rw [if_neg c] at hK
  rw [decide_eq_false c,qAB]
  by_cases c2:b < a
  ·rw [if_pos c2] at hK
   rw [decide_eq_true c2,qAI]
   exact hK
  ·rw [if_neg c2] at hK
   rw [decide_eq_false c2,qAB]
   exact hK
theorem qVc {a b:Int} {wv:AV} (hw:wv.one=true) (hK:∀ s',Sub s s'→K (.int .i64 (if a < b then -1 else if b < a then 1 else 0)) s'):funK TP XX (.fn (.func 72) [] []) [.agg [.int .u32 a,wv],.int .u32 b] K s:=by
 refine qWE (k:=72) (first:=[]) (cap:=[]) (by kernel_rfl) ?_
 show wC TP XX 72 [.agg [.int .u32 a,wv],.int .u32 b] K s
 refine qIB ⟨?_,qAS λb s1 hb h1 u1=>?_⟩
 ·show ((AV.int .u32 a).one&&(wv.one&&true))=true
  rw [hw];rfl
 ·have e0:[AV.int .u32 a,wv][0]?=some (.int .u32 a):=rfl
  have h1:s1 b=some (false,.cells 85 [.int .u32 a,wv]):=h1
  simp only [qAE,zA,qAM h1,e0,qAA]
  exact zAAx (hK _ (u1.sub hb))
def Ord (R:List EnV):Prop:=(R.map (·.1)).Pairwise (· < ·)
theorem Ord.lt {R:List EnV} (h:Ord R) {i j:Nat} {a b:EnV} (hi:R[i]?=some a) (hj:R[j]?=some b) (hij:i < j):a.1 < b.1:=by
 unfold Ord at h
 obtain ⟨x1,x2⟩:=gS hi
 obtain ⟨y1,y2⟩:=gS hj
 have:=List.pairwise_iff_getElem.1 h i j (by simpa using x1) (by simpa using y1) hij
 simp only [List.getElem_map,x2,y2] at this
 exact this
theorem qVd {R:List EnV} {q:Int} {ev:AV} (he:SlR 2 s ev (R.map enR)) (ho:Ord R) (hl:R.length≤1000) (hw:∀ y∈R,y.2.1.one=true)
  (hK:∀ s' (i:Nat) (b:Bool),Sub s s'→(b=true→∃ y,R[i]?=some y∧y.1=q)→(b=false→∀ y∈R,y.1≠q)→K (.tup [.int .i64 (i:Int),.bool b]) s'):wC TP XX 71 [ev,.int .u32 q,.fn (.func 72) [] []] K s:=by
 refine qCI ?_
 simp only [qBQ,he.len,lMY,qAA]
 refine ⟨λys t m=>∃ i j:Nat,ys=[.int .i64 i,.int .i64 j]∧i≤j∧j≤R.length∧m=j - i∧Sub s t∧(∀ k a,R[k]?=some a→k < i→a.1 < q)∧∀ k a,R[k]?=some a→j≤k→q≤a.1,⟨_,0,R.length,rfl,by omega,by omega,rfl,.refl s,λk a _ h=>by omega,λk a h1 h2=>by rw [List.getElem?_eq_none h2] at h1;cases h1⟩,?_⟩
 rintro f t m ⟨i,j,hy,hij,hj,rfl,st,hlo,hhi⟩
 simp only [cI,and_true] at hy
 rw [hy.1,hy.2]
 simp only [qBH,qAQ,qAA]
 refine qAU (λhlt=>?_) (λhge=>?_)
 ·have hlt:i < j:=by have:=oT hlt;omega
  have a1:qAG .add (.int .i64 (i:Int)) (.int .i64 (j:Int))=some (.int .i64 ((i+j:Nat):Int)):=by
   rw [qAT,qAf (by omega) (by omega)]
   congr 2
  obtain ⟨g1,g2,g3⟩:=qYf (w:=i+j) (by omega)
  have hh:(i+j) / 2 < R.length:=by omega
  obtain ⟨y,hy⟩:∃ y,R[(i+j) / 2]?=some y:=⟨_,gE hh⟩
  obtain ⟨pb,po,e1,e2,_⟩:=(he.sub st).get (i:=(i+j) / 2) (r:=enR y) (by rw [List.getElem?_map,hy];rfl)
  simp only [a1,g1,g2,g3,e1,e2,qAA]
  refine qVc (a:=y.1) (hw y (mG hy)) λt' st'=>?_
  simp only [qAQ,qAA]
  refine qAU (λc=>?_) (λc=>?_)
  ·have c:y.1 < q:=by
    have c:=oT c
    by_cases h:y.1 < q
    ·exact h
    ·rw [if_neg h] at c
     split at c <;> omega
   simp only [qAT,qAA]
   rw [qAf (by omega) (by omega)]
   refine ⟨_,?_,(i+j) / 2+1,j,rfl,by omega,hj,rfl,st.trans st',λk a hk hki=>?_,hhi⟩
   ·omega
   ·by_cases e:k=(i+j) / 2
    ·rw [e,hy] at hk;cases hk;exact c
    ·have:=ho.lt hk hy (by omega)
     omega
  ·have c:¬ y.1 < q:=λh=>by
    have c:=oF c
    rw [if_pos h] at c
    omega
   refine ⟨_,?_,i,(i+j) / 2,rfl,by omega,by omega,rfl,st.trans st',hlo,λk a hk hki=>?_⟩
   ·omega
   ·by_cases e:k=(i+j) / 2
    ·rw [e,hy] at hk;cases hk;omega
    ·have:=ho.lt hy hk (by omega)
     omega
 ·have hge:i=j:=by have:=oF hge;omega
  subst hge
  refine qAU (λc=>?_) (λc=>?_)
  ·have c':i < R.length:=by have:=oT c;omega
   obtain ⟨y,hy⟩:∃ y,R[i]?=some y:=⟨_,gE c'⟩
   obtain ⟨pb,po,e1,e2,_⟩:=(he.sub st).get (i:=i) (r:=enR y) (by rw [List.getElem?_map,hy];rfl)
   simp only [e1,e2,qAA]
   refine qVc (a:=y.1) (hw y (mG hy)) λt' st'=>?_
   rw [c]
   simp only [qAv,qAi,Bool.false_bne,qAA,qAk,qAV]
   have hq:=hhi i y hy (Nat.le_refl _)
   refine hK t' i _ (st.trans st') (λb=>⟨y,hy,?_⟩) λb a ha ea=>?_
   ·have b:=eq_of_beq b
    by_cases h:q < y.1
    ·rw [if_neg (by omega),if_pos h] at b;omega
    ·omega
   ·obtain ⟨k,hk⟩:=List.mem_iff_getElem?.1 ha
    have hki:k=i:=by
     by_cases e:k < i
     ·have:=hlo k a hk e;omega
     ·by_cases e2:i < k
      ·have:=ho.lt hy hk e2;omega
      ·omega
    rw [hki,hy] at hk
    cases hk
    rw [if_neg (by omega),if_neg (by omega)] at b
    simp at b
  ·have c':i=R.length:=by have:=oF c;omega
   rw [c]
   simp only [qAk,qAL,qAA]
   refine hK t i _ st (λb=>by cases b) λ_ a ha ea=>?_
   obtain ⟨k,hk⟩:=List.mem_iff_getElem?.1 ha
   have:=hlo k a hk (by have:=(gS hk).1;omega)
   omega
end Go.AM.FB
namespace Go.AM.FB
open Go Go.Proofs
set_option maxRecDepth 100000
variable {K:AV→Hq→Prop} {s s':Hq} {y:AV} {N:Nat} {G:List Lnk} {U:List Bool}
theorem FibR.ord {R:List EnV} {x:Nat} (hR:R.map kyE=ofP N G U x N):Ord R∧R.map (·.1)=(ndL N G U x).map lbk:=by
 have e1:R.map (·.1)=(R.map kyE).map (·.1):=by rw [List.map_map];rfl
 have e2:R.map (·.1)=(ndL N G U x).map lbk:=by rw [e1,hR,qNe,List.map_map];rfl
 refine ⟨?_,e2⟩
 unfold Ord
 rw [e2,List.pairwise_map]
 exact qRN.imp λh=>by unfold lbk;omega
theorem qO3 {a b:Nat} (h:lbk a=lbk b):a=b:=by unfold lbk at h;omega
theorem FibR.row {R:List EnV} {x:Nat} (hR:R.map kyE=ofP N G U x N) {y:EnV} (hy:y∈R):∃ n∈ndL N G U x,y.1=lbk n∧y.2.2=lnk N G U x n:=by
 have:kyE y∈R.map kyE:=List.mem_map.2 ⟨y,hy,rfl⟩
 rw [hR,qNe] at this
 obtain ⟨n,hn,e⟩:=List.mem_map.1 this
 obtain ⟨a,b,c⟩:=y
 have e:(lbk n,lnk N G U x n)=(a,c):=e
 cases e
 exact ⟨n,hn,rfl,rfl⟩
theorem FibR.has {R:List EnV} {x n:Nat} (hR:R.map kyE=ofP N G U x N) (hn:n∈ndL N G U x):∃ y∈R,y.1=lbk n:=by
 have:lbk n∈R.map (·.1):=by rw [(FibR.ord hR).2];exact List.mem_map.2 ⟨n,hn,rfl⟩
 obtain ⟨y,hy,e⟩:=List.mem_map.1 this
 exact ⟨y,hy,e⟩
theorem qYi {elem:TypeId} {b k n:Nat} {l:List AV} {a yv:AV} (hb:s b=some (false,.cells elem l)) (hn:l.length=n) (hk:k < n) (hy:Sl s yv [a]) (ha:a.one=true)
  (hK:∀ s',s' b=some (false,.cells elem (l.set k a))→Upto b s s'→K (.slc b 0 (k+1) (some n) 1) s'):appK elem 1 (.slc b 0 k (some n) 1) yv K s:=by
 refine qAW hy.rd (qAW hy.len ⟨rfl,?_⟩)
 have e0:Nat.ble (k+1) n=true:=bL hk
 simp only [List.length_singleton,e0,cond_true]
 have e1:qAu l k [a]=l.set k a:=by
  unfold qAu
  rw [List.set_eq_take_append_cons_drop,if_pos (by omega)]
  simp
 have e2:wrN s (.ptr b (0+k * 1)) [a]=some (hset s b (false,.cells elem (l.set k a))):=by
  have e3:Nat.ble (k+1) l.length=true:=bL (by omega)
  rw [zA,Nat.mul_one]
  unfold wrN
  simp only [hb,List.length_singleton,e3,e1,qAb,ha,Bool.and_self,cond_true]
 exact qAW e2 (hK _ (by simp [hset]) λi hi=>by simp [hset,hi])
end Go.AM.FB
namespace Go.AM.FB
open Go Go.Proofs
set_option maxRecDepth 100000
variable {K:AV→Hq→Prop} {s t:Hq} {v w:AV} {N:Nat}
theorem qZf {p:Int} (hp:-9223372036854775808≤p∧p≤9223372036854775807) (hN:1≤N) (hN2:N≤1000) (hK:∀ r:Nat,r < N→K (.int .i64 (r:Int)) s):wC TP XX 7 [.int .i64 p,.int .i64 (N:Int)] K s:=by
 refine qTu ?_
 simp only [qUr,qMi (show (N:Int)≠0 by omega),qAQ,qAA]
 have h1:=Int.tmod_lt_of_pos p (show (0:Int) < (N:Int) by omega)
 have h2:-(N:Int) < p.tmod N:=by
  have:=Int.tmod_lt_of_pos (-p) (show (0:Int) < (N:Int) by omega)
  rw [Int.neg_tmod] at this
  omega
 refine qAU (λc=>?_) (λc=>?_)
 ·have c:=oT c
  simp only [qAT,qAA,qJt]
  rw [qAf (by omega) (by omega)]
  obtain ⟨r,hr⟩:∃ r:Nat,p.tmod N+N=r:=⟨(p.tmod N+N).toNat,by omega⟩
  rw [hr]
  exact hK r (by omega)
 ·have c:=oF c
  simp only [qJt]
  obtain ⟨r,hr⟩:∃ r:Nat,p.tmod N=r:=⟨(p.tmod N).toNat,by omega⟩
  rw [hr]
  exact hK r (by omega)
def ips (l:List Int):List AV:=l.map (AV.int .u32)
theorem qWz {l:List Int} (h:Sl s v (ips l)) (h':Sl s w (ips l)) (hl:l.length≤1000000) (hK:K (.bool true) s):wC TP XX 49 [v,w] K s:=by
 refine qLL ?_
 have len:(ips l).length=l.length:=by unfold ips;simp
 simp only [qI8,h.len,h'.len,len,qAv,qAi,Bool.true_bne,beq_self_eq_true,Bool.not_true,qAB,qAA]
 refine ⟨λys t m=>∃ i:Nat,ys=[.int .i64 i]∧t=s∧i≤l.length∧m=l.length - i,⟨_,0,rfl,rfl,by omega,rfl⟩,?_⟩
 rintro f t m ⟨i,hy,rfl,hi,rfl⟩
 simp only [cI,and_true] at hy
 rw [hy]
 simp only [qGp,h.len,len,qAQ,qAA]
 refine qAU (λhlt=>?_) (λhge=>hK)
 have hlt:i < l.length:=by have:=oT hlt;omega
 obtain ⟨p,g1,g2⟩:=h.get (i:=i) (by rw [len];exact hlt)
 obtain ⟨q,g3,g4⟩:=h'.get (i:=i) (by rw [len];exact hlt)
 have e1:(ips l)[i]?=some (.int .u32 l[i]):=by unfold ips;simp [hlt]
 rw [e1] at g2 g4
 simp only [g1,g2,g3,g4,qAv,qAi,Bool.true_bne,beq_self_eq_true,Bool.not_true,qAB,qAT,qAA]
 rw [qAf (by omega) (by omega)]
 exact ⟨_,by omega,i+1,rfl,by trivial,by omega,rfl⟩
end Go.AM.FB
namespace Go.AM.FB
open Go Go.Proofs
set_option maxRecDepth 100000
variable {K:AV→Hq→Prop} {s:Hq}
def xorU (x y:Int):Int:=qB7 .u64 ((BitVec.ofInt (IntKind.bits .u64) x ^^^ BitVec.ofInt (IntKind.bits .u64) y).toNat:Nat)
theorem qNu {x y:Int}:qAG .xor (.int .u64 x) (.int .u64 y)=some (.int .u64 (xorU x y)):=by simp [qAG,arith,qDL,xorU]
def qKT (h b:Int):Int:=IntKind.u64.wrap (xorU h (qB7 .u64 b) * 1099511628211)
def fnv:Int→List Int→Int
 | h,[]=>h
 | h,b :: r=>fnv (qKT h b) r
theorem qYC (h b:Int) (r:List Int):fnv h (b :: r)=fnv (qKT h b) r:=rfl
theorem qPJ (h:Int):∀ (a b:List Int),fnv h (a ++ b)=fnv (fnv h a) b:=by
 intro a
 induction a generalizing h with
 | nil=>intro b;rfl
 | cons x r ih=>intro b;exact ih (qKT h x) b
theorem qEd {k k':IntKind} {n:Int}:qCi k (.int k' n)=some (.int k (qB7 k n)):=rfl
theorem wu64 (n:Int):qB7 .u64 n=n % 18446744073709551616:=by
 simp only [qB7];rw [qGo _ _ _ (by omega) (by omega)];split <;> omega
def numB (v:Int):Nat→List Int
 | 0=>[]
 | n+1=>qB7 .u8 (v.fdiv ((2 ^ (8 * n):Nat):Int)) :: numB v n
theorem zAAl {v:Int} {m:Nat} (hm:m≤64):qEF .shr (.int .u64 v) (.int .i64 (m:Int))=some (.int .u64 (v.fdiv ((2 ^ m:Nat):Int))):=by
 show frc (v.fdiv ((2 ^ (min m (IntKind.bits .u64)):Nat):Int)) (λn=>some (AV.int .u64 n))=_
 rw [qDL,Nat.min_eq_left (show m≤IntKind.bits .u64 from hm)]
structure Fold (l c r d:Nat) (h:Int) (s:Hq):Prop where
 lp:s l=some (false,.loop .ready none 17 [(5,.ptr c 0),(7,.ptr r 0)] [11] (rfAs 0 (qAp Tryz.f90)) (rfBo 0 (qAp Tryz.f90)) d)
 cb:∃ t,s c=some (t,.cells 165 [.fn (.func 92) [] []])
 rs:s r=some (false,.cells 35 [.int .u64 h])
theorem qOx {l c r d:Nat} {h b:Int} (z:Fold l c r d h s) (hK:∀ s',Fold l c r d (qKT h b) s'→qAg (λi=>i=l∨i=r) s s'→K (.bool true) s'):qKg TP XX l [.int .u8 b] K s:=by
 obtain ⟨h1,⟨t,h2⟩,h3⟩:=z
 have hlc:l≠c:=by rintro rfl;rw [h1] at h2;cases h2
 have hlr:l≠r:=by rintro rfl;rw [h1] at h3;cases h3
 have hcr:c≠r:=by rintro rfl;rw [h2] at h3;cases h3
 refine qEk h1 ⟨rfl,?_⟩
 unfold qLM
 rw [h1]
 simp only
 have u1:Upto l s (hset s l (false,.loop .busy none 17 [(5,.ptr c 0),(7,.ptr r 0)] [11] (rfAs 0 (qAp Tryz.f90)) (rfBo 0 (qAp Tryz.f90)) d)):=λ_ hi=>qAt hi
 have b1:(hset s l (false,.loop .busy none 17 [(5,.ptr c 0),(7,.ptr r 0)] [11] (rfAs 0 (qAp Tryz.f90)) (rfBo 0 (qAp Tryz.f90)) d)) l=some (false,.loop .busy none 17 [(5,.ptr c 0),(7,.ptr r 0)] [11] (rfAs 0 (qAp Tryz.f90)) (rfBo 0 (qAp Tryz.f90)) d):=qCN
 generalize hset s l (false,.loop .busy none 17 [(5,.ptr c 0),(7,.ptr r 0)] [11] (rfAs 0 (qAp Tryz.f90)) (rfBo 0 (qAp Tryz.f90)) d)=s1 at u1 b1
 have c1:s1 c=_:=(u1 c hlc.symm).trans h2
 have r1:s1 r=_:=(u1 r hlr.symm).trans h3
 simp only [qAM c1,qAM r1,g0Y,qAA]
 refine qWE (by kernel_rfl) (qKa ?_)
 simp only [qIc,qEd,qNu,qHp,qAA]
 refine qAm r1 (by simp) rfl λs2 r2 u2=>?_
 have b2:s2 l=_:=(u2 l hlr).trans b1
 unfold endK
 rw [b2]
 simp only
 have u3:Upto l s2 (hset s2 l (false,.loop .ready none 17 [(5,.ptr c 0),(7,.ptr r 0)] [11] (rfAs 0 (qAp Tryz.f90)) (rfBo 0 (qAp Tryz.f90)) d)):=λ_ hi=>qAt hi
 refine hK _ ⟨qCN,⟨t,?_⟩,?_⟩ ((u1.keep (.inl rfl)).trans ((u2.keep (.inr rfl)).trans (u3.keep (.inl rfl))))
 ·rw [u3 c hlc.symm,u2 c hcr];exact c1
 ·rw [u3 r hlr.symm];exact r2
theorem qKk {l c r d:Nat} {h v:Int} {n:Nat} (hn:n≤4) (z:Fold l c r d h s) (hK:∀ s',Fold l c r d (fnv h (numB v n)) s'→qAg (λi=>i=l∨i=r) s s'→K (.bool true) s'):wC TP XX 102 [.int .u64 v,.int .i64 (n:Int),.yield l] K s:=by
 refine qKV ?_
 simp only [qIW,qBO,qAA]
 rw [qAf (by omega) (by omega)]
 refine ⟨λys s1 m=>∃ (h1:Int) (j:Nat),ys=[.int .i64 ((j:Int) - 1)]∧Fold l c r d h1 s1∧qAg (λi=>i=l∨i=r) s s1∧j≤n∧m=j∧fnv h (numB v n)=fnv h1 (numB v j),⟨_,h,n,rfl,z,.refl _ s,by omega,rfl,rfl⟩,?_⟩
 rintro f s1 m ⟨h1,j,hy,z1,k1,hj,rfl,he⟩
 simp only [cI,and_true] at hy
 rw [hy]
 simp only [qGR,qA8,qAA]
 refine qAU (λhge=>?_) (λhlt=>?_)
 ·have hge:0≤(m:Int) - 1:=oT hge
  obtain ⟨i,rfl⟩:∃ i,m=i+1:=⟨m - 1,by omega⟩
  have e1:(((i+1:Nat):Int) - 1)=(i:Int):=by omega
  rw [e1]
  have e2:IntKind.i64.wrap (8 * (i:Int))=((8 * i:Nat):Int):=by rw [qAf (by omega) (by omega)];omega
  simp only [qHp,qAA,e2,zAAl (show 8 * i≤64 by omega),qEd]
  refine ⟨by unfold qPN;rw [z1.lp];rfl,qOx z1 λs2 z2 k2=>?_⟩
  simp only [qAj,Bool.not_true,qAB,qAA,qBO]
  rw [qAf (by omega) (by omega)]
  exact ⟨i,by omega,_,i,rfl,z2,k1.trans k2,by omega,rfl,he⟩
 ·have hlt:¬ 0≤(m:Int) - 1:=oF hlt
  obtain rfl:m=0:=by omega
  have z1:Fold l c r d (fnv h (numB v n)) s1:=by rw [he];exact z1
  exact hK _ z1 k1
def qG8 (a b e v:Int):List Int:=numB (qB7 .u64 a) 4 ++ (numB (qB7 .u64 b) 4 ++ (numB (qB7 .u64 e) 2 ++ numB (qB7 .u64 v) 3))
def Pk (a b e v:Int) (cs:List AV):Prop:=cs.length=21∧qAb cs=true∧cs[0]?=some (.int .u32 a)∧cs[1]?=some (.int .u32 b)∧cs[3]?=some (.int .i64 e)∧cs[4]?=some (.int .u32 v)
variable {a b e v:Int} {cs:List AV}
theorem qXi {l c r d q:Nat} {t:Bool} {ty:TypeId} {h:Int} (hp:Pk a b e v cs) (z:Fold l c r d h s) (hq:s q=some (t,.cells ty cs)) (hql:q≠l∧q≠r) (hK:∀ s',Fold l c r d (fnv h (qG8 a b e v)) s'→qAg (λi=>i=l∨i=r) s s'→K (.tup []) s'):wC TP XX 101 [.yield l,.ptr q 0] K s:=by
 obtain ⟨p1,p2,p3,p4,p5,p6⟩:=hp
 have hno:¬ (q=l∨q=r):=by rintro (e | e);exact hql.1 e;exact hql.2 e
 refine qKW ?_
 simp only [qIa,qAE,qAA,qAM hq,zA,p3,qEd]
 refine qKk (n:=4) (by omega) z λs1 z1 k1=>?_
 have q1:=k1 _ _ hq hno
 simp only [qAI,qAA,qAM q1,p4,qEd]
 refine qKk (n:=4) (by omega) z1 λs2 z2 k2=>?_
 have q2:=k2 _ _ q1 hno
 simp only [qD6,qAV,qAI,qAE,qAA,qAM q2,zA,p5,qEd]
 refine qKk (n:=2) (by omega) z2 λs3 z3 k3=>?_
 have q3:=k3 _ _ q2 hno
 simp only [qD5,qAV,qAI,qAE,qAA,qAM q3,zA,p6,qEd]
 refine qKk (n:=3) (by omega) z3 λs4 z4 k4=>?_
 simp only [qD7,qAV,qAA]
 have z4:Fold l c r d (fnv h (qG8 a b e v)) s4:=by
  unfold qG8
  rw [qPJ,qPJ,qPJ]
  exact z4
 exact hK _ z4 ((k1.trans k2).trans (k3.trans k4))
theorem qZr (hp:Pk a b e v cs) (hK:∀ s',Sub s s'→K (.int .u64 (fnv 14695981039346656037 (qG8 a b e v))) s'):wC TP XX 74 [.agg cs] K s:=by
 obtain ⟨p1,p2,_⟩:=id hp
 refine qLg ⟨p2,qAS λx s1 hx h1 u1=>qAW (qA7 h1 p1) ?_⟩
 refine qLk ⟨p2,qAS λq s2 hq h2 u2=>?_⟩
 refine qFR (qLB rfl λc s3 hc h3 u3=>qAS λr s4 hr h4 u4=>qAm h4 (by simp) rfl λs5 h5 u5=>⟨by kernel_rfl,trivial,λl d hl=>?_⟩)
 have sub2:Sub s s2:=(u1.sub hx).trans (u2.sub hq)
 have sub4:Sub s2 s4:=(u3.sub hc).trans (u4.sub hr)
 have hr2:s2 r=none:=by
  cases w:s2 r with
  | none=>rfl
  | some y=>rw [u3.sub hc r y w] at hr;cases hr
 have sub5:Sub s2 s5:=sub4.upto u5 hr2
 have c5:s5 c=some (false,.cells 165 [.fn (.func 92) [] []]):=by
  rw [u5 c (qBl hr h3)];exact u4.at h3 hr
 have u6:Upto l s5 (hset s5 l (false,.loop .ready none 17 [(5,.ptr c 0),(7,.ptr r 0)] [11] (rfAs 0 (qAp Tryz.f90)) (rfBo 0 (qAp Tryz.f90)) d)):=λ_ hi=>qAt hi
 have b6:(hset s5 l (false,.loop .ready none 17 [(5,.ptr c 0),(7,.ptr r 0)] [11] (rfAs 0 (qAp Tryz.f90)) (rfBo 0 (qAp Tryz.f90)) d)) l=_:=qCN
 show wC TP XX 101 [.yield l,.ptr q 0] _ (hset s5 l (false,.loop .ready none 17 [(5,.ptr c 0),(7,.ptr r 0)] [11] (rfAs 0 (qAp Tryz.f90)) (rfBo 0 (qAp Tryz.f90)) d))
 generalize hset s5 l (false,.loop .ready none 17 [(5,.ptr c 0),(7,.ptr r 0)] [11] (rfAs 0 (qAp Tryz.f90)) (rfBo 0 (qAp Tryz.f90)) d)=s6 at u6 b6
 have sub6:=u6.sub hl
 have q6:=sub6 _ _ (sub5 _ _ h2)
 refine qXi (h:=14695981039346656037) hp ⟨b6,⟨_,sub6 _ _ c5⟩,sub6 _ _ h5⟩ q6 ⟨?_,?_⟩ λs7 z7 k7=>?_
 ·rintro rfl;rw [sub5 _ _ h2] at hl;cases hl
 ·rintro rfl;rw [hr2] at h2;cases h2
 ·unfold qVr
  rw [z7.lp]
  refine ⟨by simp,?_⟩
  have hlr:l≠r:=by rintro rfl;rw [hl] at h5;cases h5
  have r8:hdel s7 l r=some (false,.cells 35 [.int .u64 (fnv 14695981039346656037 (qG8 a b e v))]):=by
   rw [qGu hlr.symm];exact z7.rs
  simp only [qAM r8,g0Y,qAA]
  refine hK _ λi y hi=>?_
  have hi2:=sub2 i y hi
  have hi5:=sub5 i y hi2
  have hil:i≠l:=qBl hl hi5
  have hir:i≠r:=qBl hr2 hi2
  rw [qGu hil]
  exact k7 i y (sub6 i y hi5) (by rintro (q | q);exact hil q;exact hir q)
end Go.AM.FB
namespace Go.AM.FB
open Go Go.Proofs
set_option maxRecDepth 100000
variable {s s':Hq} {lv w:AV} {N:Nat} {G:List Lnk} {U:List Bool}
def WhB (s:Hq) (w:Nat) (l:List Nat) (B:List Int):Prop:=∃ t1 t2 bb mv cap,s w=some (t1,.cells 120 [.slc bb 0 B.length cap 1,mv])∧s bb=some (t2,.cells 3 (WH.ints B))∧(∀ c,cap=some c→B.length≤c)∧B.length=64∧WH.Sli s mv (l.map λ(n:Nat)=>(n:Int))∧WH.Aft (l.map λ(n:Nat)=>(n:Int)) (List.replicate 64 0) B
theorem WhB.sub {w:Nat} {l:List Nat} {B:List Int} (h:WhB s w l B) (k:Sub s s'):WhB s' w l B:=by
 obtain ⟨t1,t2,bb,mv,cap,h1,h2,h3,h4,h5,h6⟩:=h
 exact ⟨t1,t2,bb,mv,cap,k _ _ h1,k _ _ h2,h3,h4,h5.sub k,h6⟩
theorem WhB.frz {w:Nat} {l:List Nat} {B:List Int} (h:WhB s w l B):WhB (AM.frz s) w l B:=by
 obtain ⟨t1,t2,bb,mv,cap,h1,h2,h3,h4,h5,h6⟩:=h
 exact ⟨true,true,bb,mv,cap,qBX h1,qBX h2,h3,h4,Sl.frz h5,h6⟩
structure FibB (s:Hq) (f N:Nat) (G:List Lnk) (U:List Bool) (x:Nat) (Bf:Nat→List Int):Prop where
 r:FibR s f N G U x
 ex:∃ (tf:Bool) (lv ev:AV) (mb:Nat) (tm:Bool) (c:Nat) (ws:List (Nat × Nat)),s f=some (tf,.cells 76 (fibC (N:Int) (x:Int) lv ev mb))∧
  s mb=some (tm,.map (mE 0 ws) c)∧ws.map (·.1)=ndL N G U x∧∀ p∈ws,WhB s p.2 (lnk N G U x p.1) (Bf p.1)
theorem FibB.sub {f x:Nat} {Bf:Nat→List Int} (h:FibB s f N G U x Bf) (k:Sub s s'):FibB s' f N G U x Bf:=by
 obtain ⟨tf,lv,ev,mb,tm,c,ws,h1,h5,h6,h7⟩:=h.ex
 exact ⟨h.r.sub k,tf,lv,ev,mb,tm,c,ws,k _ _ h1,k _ _ h5,h6,λp hp=>(h7 p hp).sub k⟩
theorem FibB.frz {f x:Nat} {Bf:Nat→List Int} (h:FibB s f N G U x Bf):FibB (AM.frz s) f N G U x Bf:=by
 obtain ⟨tf,lv,ev,mb,tm,c,ws,h1,h5,h6,h7⟩:=h.ex
 exact ⟨h.r.frz,true,lv,ev,mb,true,c,ws,qBX h1,qBX h5,h6,λp hp=>(h7 p hp).frz⟩
open Classical in
theorem FibR.b {f x:Nat} (h:FibR s f N G U x):∃ Bf,FibB s f N G U x Bf:=by
 obtain ⟨tf,lv,ev,mb,R,tm,c,ws,h1,h2,h3,h4,h5,h6,h7⟩:=h.ex
 have nd:(ws.map (·.1)).Nodup:=by rw [h6];exact qRN.imp λh=>by omega
 have hB:∀ p∈ws,∃ B,WhB s p.2 (lnk N G U x p.1) B:=λp hp=>by
  obtain ⟨t1,t2,bb,mv,cap,B,q⟩:=h7 p hp
  exact ⟨B,t1,t2,bb,mv,cap,q⟩
 have same:∀ p∈ws,∀ q∈ws,p.1=q.1→p.2=q.2:=λp hp q hq e=>by
  obtain ⟨i,hi⟩:=List.mem_iff_getElem?.1 hp
  obtain ⟨j,hj⟩:=List.mem_iff_getElem?.1 hq
  obtain ⟨a1,a2⟩:=gS hi
  obtain ⟨b1,b2⟩:=gS hj
  have:i=j:=by
   have:=(List.getElem_inj (h₀:=by simpa using a1) (h₁:=by simpa using b1) nd).1 (by simp only [List.getElem_map,a2,b2];exact e)
   exact this
  subst this
  rw [hi] at hj
  cases hj;rfl
 refine ⟨λn=>if h:∃ B:List Int,∃ p∈ws,p.1=n∧WhB s p.2 (lnk N G U x p.1) B then h.choose else [],h,tf,lv,ev,mb,tm,c,ws,h1,h5,h6,λp hp=>?_⟩
 have q:∃ B:List Int,∃ p'∈ws,p'.1=p.1∧WhB s p'.2 (lnk N G U x p'.1) B:=by
  obtain ⟨B,hb⟩:=hB p hp
  exact ⟨B,p,hp,rfl,hb⟩
 rw [dif_pos q]
 obtain ⟨p',m',e',b'⟩:=q.choose_spec
 generalize q.choose=B at b' ⊢
 rw [← same p' m' p hp e']
 rw [e'] at b'
 exact b'
def hopI (Bf:Nat→List Int) (n:Nat) (h:Int):Int:=(Bf n).getD (h % 64).toNat 0 - 1
theorem qT1 {h b:Int}:0≤qKT h b:=by
 unfold qKT
 rw [← qCH,wu64]
 exact Int.emod_nonneg _ (by omega)
theorem qUz:∀ {l:List Int} {h:Int},0≤h→0≤fnv h l
 | [],_,h=>h
 | b :: l,h,_=>by rw [qYC];exact qUz qT1
theorem qUK {kd:IntKind} {bb n i:Nat} {cap:Option Nat} (hi:i < n):qAO 1 (.slc bb 0 n cap 1) (.int kd (i:Int))=some (.ptr bb i):=by
 have:Nat.blt i n=true:=by rw [Nat.blt_eq];exact hi
 simp [qAO,this]
end Go.AM.FB
namespace Go.AM.FB
open Go Go.Proofs
set_option maxRecDepth 100000
variable {K:AV→Hq→Prop} {s:Hq} {y:AV}
theorem qJm {x:AV} (hx:x.one=true):∀ {l:List AV} {i:Nat},qAb l=true→qAb (l.set i x)=true
 | [],_,_=>rfl
 | y :: l,0,h=>by
   simp only [qHs,Bool.and_eq_true] at h
   simp only [List.set_cons_zero,qHs,hx,h.2,Bool.and_self]
 | y :: l,i+1,h=>by
   simp only [qHs,Bool.and_eq_true] at h
   rw [List.set_cons_succ,qHs,h.1,qJm hx h.2];rfl
def zP:List AV:=[(.int .u32 0),(.int .u32 0),(.int .i64 0),(.int .i64 0),(.int .u32 0),(.int .u32 0),(.int .u64 0),(.int .u64 0),(.int .i64 0),(.int .i64 0),(.int .u64 0),(.int .u32 0),(.int .u64 0),(.int .u32 0),(.int .u32 0),(.int .u32 0),(.int .i64 0),(.int .i64 0),(.int .i64 0),(.int .i64 0),(.int .u64 0)]
theorem qLS {b:Bool} {e:Int} (hK:K (.int .i64 (if b=true then 0 else e)) s):wC TP XX 42 [.bool b,.int .i64 e] K s:=by
 refine qMO ?_
 cases b <;> exact hK
end Go.AM.FB
namespace Go.AM.FB
open Go Go.Proofs
set_option maxRecDepth 100000
end Go.AM.FB
namespace Go.AM.FB
open Go Go.Proofs
set_option maxRecDepth 100000
end Go.AM.FB
namespace Go.AM.FB
open Go Go.Proofs
set_option maxRecDepth 100000
end Go.AM.FB
namespace Go.AM.FB
open Go Go.Proofs
set_option maxRecDepth 100000
end Go.AM.FB
namespace Go.AM.FB
open Go Go.Proofs
set_option maxRecDepth 100000
variable {K:AV→Hq→Prop} {s s' t t' H H':Hq} {lv ev v y:AV} {f mb N x:Nat} {L:List RLk}
abbrev Wl:=Nat × Nat × Nat × Option Nat × AV
def np (p:Wl):Nat × Nat:=(p.1,p.2.1)
def ownW (ws:List Wl) (i:Nat):Prop:=∃ p∈ws,i=p.2.1∨i=p.2.2.1
def Zs:List Int:=List.replicate 64 0
def nz (l:List Nat):List Int:=l.map λ(n:Nat)=>(n:Int)
variable {ws:List Wl} {Bf:Nat→List Int} {Mf:Nat→List Nat}
structure Wls (s H:Hq) (ws:List Wl) (Bf:Nat→List Int) (Mf:Nat→List Nat):Prop where
 nd:(ws.map (·.1)).Nodup
 ow:∀ p∈ws,∀ q∈ws,p.2.1=q.2.1∨p.2.2.1=q.2.2.1→p.1=q.1
 hn:∀ i,ownW ws i→H i=none
 at_:∀ p∈ws,s p.2.1=some (false,.cells 120 [.slc p.2.2.1 0 64 p.2.2.2.1 1,p.2.2.2.2])∧s p.2.2.1=some (false,.cells 3 (WH.ints (Bf p.1)))∧(∀ c,p.2.2.2.1=some c→64≤c)∧Sl H p.2.2.2.2 (iz (Mf p.1))
 ln:∀ n,(Bf n).length=64
 rg:∀ n,∀ b∈Bf n,0≤b∧b≤128
 zr:∀ n,n ∉ ws.map (·.1)→Bf n=Zs
theorem zAAN (h:(ws.map (·.1)).Nodup) {p q:Wl} (hp:p∈ws) (hq:q∈ws) (e:p.1=q.1):p=q:=by
 obtain ⟨i,hi⟩:=List.mem_iff_getElem?.1 hp
 obtain ⟨j,hj⟩:=List.mem_iff_getElem?.1 hq
 obtain ⟨a1,a2⟩:=gS hi
 obtain ⟨b1,b2⟩:=gS hj
 have:i=j:=(List.getElem_inj (h₀:=by simpa using a1) (h₁:=by simpa using b1) h).1 (by simp only [List.getElem_map,a2,b2];exact e)
 subst this
 rw [hi] at hj
 cases hj;rfl
theorem Wls.wat (z:Wls s H ws Bf Mf) (hs:Sub H s) {p:Wl} (hp:p∈ws):WH.WAt s p.2.1 p.2.2.1 p.2.2.2.2 p.2.2.2.1 (Bf p.1) (nz (Mf p.1)):=by
 obtain ⟨a,b,c,e⟩:=z.at_ p hp
 have l:=z.ln p.1
 refine ⟨by rw [l];exact a,b,?_,by rw [l];exact c,by omega⟩
 have:=e.sub hs
 rw [qB8] at this
 exact this
def setW (ws:List Wl) (n:Nat) (mv:AV):List Wl:=ws.map λq=>if q.1=n then (q.1,q.2.1,q.2.2.1,q.2.2.2.1,mv) else q
def updF {α:Type} (g:Nat→α) (n:Nat) (a:α) (m:Nat):α:=if m=n then a else g m
theorem qRi {n:Nat} {mv:AV}:(setW ws n mv).map np=ws.map np:=by
 unfold setW
 rw [List.map_map]
 apply List.map_congr_left
 intro q _
 show np (if q.1=n then _ else _)=_
 split <;> rfl
theorem qOp {n:Nat} {mv:AV}:(setW ws n mv).map (·.1)=ws.map (·.1):=by
 have:=congrArg (List.map (·.1)) (qRi (ws:=ws) (n:=n) (mv:=mv))
 rw [List.map_map,List.map_map] at this
 exact this
theorem qWl {n:Nat} {mv:AV}:(setW ws n mv).length=ws.length:=by unfold setW;rw [lMY]
theorem qKs {n:Nat} {mv:AV} {q':Wl} (h:q'∈setW ws n mv):∃ q∈ws,q'=if q.1=n then (q.1,q.2.1,q.2.2.1,q.2.2.2.1,mv) else q:=by
 obtain ⟨q,hq,rfl⟩:=List.mem_map.1 h
 exact ⟨q,hq,rfl⟩
theorem qKp {n:Nat} {mv:AV} {i:Nat}:ownW (setW ws n mv) i↔ownW ws i:=by
 constructor
 ·rintro ⟨p,hp,h⟩
  obtain ⟨q,hq,rfl⟩:=qKs hp
  refine ⟨q,hq,?_⟩
  split at h <;> exact h
 ·rintro ⟨q,hq,h⟩
  refine ⟨_,List.mem_map.2 ⟨q,hq,rfl⟩,?_⟩
  show i=(if q.1=n then _ else q).2.1∨i=(if q.1=n then _ else q).2.2.1
  split <;> exact h
open Classical in
noncomputable def grow (H t t':Hq) (O:Nat→Prop):Hq:=λi=>if H i=none then (if t i=none∧¬ O i then t' i else none) else H i
theorem qC6 {O:Nat→Prop}:Sub H (grow H t t' O):=λi e hi=>by
 unfold grow
 rw [if_neg (by rw [hi];simp)];exact hi
theorem qSV {O:Nat→Prop} {i:Nat} (h:H i=none) (h1:t i=none) (h2:¬ O i):grow H t t' O i=t' i:=by
 unfold grow
 rw [if_pos h,if_pos ⟨h1,h2⟩]
theorem qE9 {O:Nat→Prop} (h:Sub H t'):Sub (grow H t t' O) t':=λi e hi=>by
 unfold grow at hi
 split at hi
 ·split at hi
  ·exact hi
  ·cases hi
 ·exact h _ _ hi
theorem qDg {O:Nat→Prop} {i:Nat} (h:H i=none) (ho:O i):grow H t t' O i=none:=by
 unfold grow
 rw [if_pos h,if_neg (λq=>q.2 ho)]
theorem qDb {O:Nat→Prop} {i:Nat} (h:H i=none) (ht:t i≠none):grow H t t' O i=none:=by
 unfold grow
 rw [if_pos h,if_neg (λq=>ht q.1)]
theorem qJQ {O:Nat→Prop} {l:List AV} (h:Sl t' v l) (hb:∀ b o n c,v=.slc b o n c 1→l≠[]→H b=none∧t b=none∧¬ O b):Sl (grow H t t' O) v l:=
 h.keep (fp:=λi=>grow H t t' O i≠t' i) (λi e hi hn=>by rw [Classical.not_not.1 hn];exact hi) λb o n c e hne q=>by
  obtain ⟨a1,a2,a3⟩:=hb b o n c e hne
  exact q (qSV a1 a2 a3)
structure Tb (s H:Hq) (f mb N x:Nat) (lv ev:AV) (L:List RLk) (ws:List Wl) (Bf:Nat→List Int) (Mf:Nat→List Nat):Prop where
 hs:Sub H s
 hf:H f=none
 hm:H mb=none
 cf:s f=some (false,.cells 76 (fibC (N:Int) (x:Int) lv ev mb))
 cm:s mb=some (false,.map (mE 0 (ws.map np)) ws.length)
 wl:Wls s H ws Bf Mf
 wn:∀ p∈ws,p.1 < N
 lk:SlR 3 H lv (L.map rwR)
def own (f mb:Nat) (ws:List Wl) (i:Nat):Prop:=i=f∨i=mb∨ownW ws i
theorem Tb.fm (z:Tb s H f mb N x lv ev L ws Bf Mf):mb≠f:=λe=>by
 have:=z.cm
 rw [e,z.cf] at this;cases this
theorem Tb.wc (z:Tb s H f mb N x lv ev L ws Bf Mf) {i:Nat} (h:ownW ws i):(∃ cs,s i=some (false,.cells 120 cs))∨∃ cs,s i=some (false,.cells 3 cs):=by
 obtain ⟨p,hp,h⟩:=h
 obtain ⟨a,b,_⟩:=z.wl.at_ p hp
 rcases h with rfl | rfl
 ·exact .inl ⟨_,a⟩
 ·exact .inr ⟨_,b⟩
theorem Tb.nf (z:Tb s H f mb N x lv ev L ws Bf Mf):¬ ownW ws f∧¬ ownW ws mb:=by
 constructor
 ·intro h
  rcases z.wc h with ⟨cs,e⟩ | ⟨cs,e⟩ <;> (rw [z.cf] at e;cases e)
 ·intro h
  rcases z.wc h with ⟨cs,e⟩ | ⟨cs,e⟩ <;> (rw [z.cm] at e;cases e)
theorem Tb.live (z:Tb s H f mb N x lv ev L ws Bf Mf) {i:Nat} (h:own f mb ws i):s i≠none:=by
 rcases h with rfl | rfl | h
 ·rw [z.cf];simp
 ·rw [z.cm];simp
 ·rcases z.wc h with ⟨cs,e⟩ | ⟨cs,e⟩ <;> (rw [e];simp)
theorem Tb.hn (z:Tb s H f mb N x lv ev L ws Bf Mf) {i:Nat} (h:own f mb ws i):H i=none:=by
 rcases h with rfl | rfl | h
 ·exact z.hf
 ·exact z.hm
 ·exact z.wl.hn i h
theorem Tb.keep {fp:Nat→Prop} (z:Tb s H f mb N x lv ev L ws Bf Mf) (k:qAg fp s s') (h1:∀ i,own f mb ws i→¬ fp i) (h2:Sub H s'):Tb s' H f mb N x lv ev L ws Bf Mf:=by
 refine ⟨h2,z.hf,z.hm,k _ _ z.cf (h1 _ (.inl rfl)),k _ _ z.cm (h1 _ (.inr (.inl rfl))),⟨z.wl.nd,z.wl.ow,z.wl.hn,λp hp=>?_,z.wl.ln,z.wl.rg,z.wl.zr⟩,z.wn,z.lk⟩
 obtain ⟨a,b,c,e⟩:=z.wl.at_ p hp
 exact ⟨k _ _ a (h1 _ (.inr (.inr ⟨p,hp,.inl rfl⟩))),k _ _ b (h1 _ (.inr (.inr ⟨p,hp,.inr rfl⟩))),c,e⟩
theorem Tb.sub (z:Tb s H f mb N x lv ev L ws Bf Mf) (k:Sub s s'):Tb s' H f mb N x lv ev L ws Bf Mf:=z.keep (fp:=λ_=>False) k.keep (λ_ _ h=>h) (z.hs.trans k)
theorem Tb.more (z:Tb s H f mb N x lv ev L ws Bf Mf) (k:Sub H H') (h:Sub H' s) (hn:∀ i,own f mb ws i→H' i=none):Tb s H' f mb N x lv ev L ws Bf Mf:=by
 refine ⟨h,hn _ (.inl rfl),hn _ (.inr (.inl rfl)),z.cf,z.cm,⟨z.wl.nd,z.wl.ow,λi hi=>hn _ (.inr (.inr hi)),λp hp=>?_,z.wl.ln,z.wl.rg,z.wl.zr⟩,z.wn,z.lk.sub k⟩
 obtain ⟨a,b,c,e⟩:=z.wl.at_ p hp
 exact ⟨a,b,c,e.sub k⟩
theorem Tb.setE {ev':AV} (z:Tb s H f mb N x lv ev L ws Bf Mf) (u:Upto f s s') (h:s' f=some (false,.cells 76 (fibC (N:Int) (x:Int) lv ev' mb))):Tb s' H f mb N x lv ev' L ws Bf Mf:=by
 have nf:=z.nf
 have ne:∀ {i},ownW ws i→i≠f:=fun {i} hi e=>nf.1 (e ▸ hi)
 refine ⟨λi e hi=>?_,z.hf,z.hm,h,by rw [u _ z.fm];exact z.cm,⟨z.wl.nd,z.wl.ow,z.wl.hn,λp hp=>?_,z.wl.ln,z.wl.rg,z.wl.zr⟩,z.wn,z.lk⟩
 ·rw [u i (λq=>by rw [q,z.hf] at hi;cases hi)]
  exact z.hs _ _ hi
 ·obtain ⟨a,b,c,e⟩:=z.wl.at_ p hp
  exact ⟨by rw [u _ (ne ⟨p,hp,.inl rfl⟩)];exact a,by rw [u _ (ne ⟨p,hp,.inr rfl⟩)];exact b,c,e⟩
theorem Tb.setM {p:Wl} {v:AV} {l:List Nat} (z:Tb s H f mb N x lv ev L ws Bf Mf) (hp:p∈ws) (hl:Sl s v (iz l)) (ha:l.Pairwise (· < ·)) (hb:∀ i∈l,i < 128) (hlen:l.length≤64)
  (hK:∀ s' H' mv B',Tb s' H' f mb N x lv ev L (setW ws p.1 mv) (updF Bf p.1 B') (updF Mf p.1 l)→WH.Aft (nz l) (Bf p.1) B'→qAg (own f mb ws) s s'→Sub H H'→(∀ i,H' i≠none→H i≠none∨s i=none)→K (.int .i64 0) s'):wC TP XX 31 [.ptr p.2.1 0,v] K s:=by
 have asc:WH.Asc (nz l):=⟨by
  unfold nz
  rw [List.pairwise_map]
  exact ha.imp λh=>by omega,λz hz=>by
  obtain ⟨i,hi,rfl⟩:=List.mem_map.1 hz
  have:=hb i hi
  omega⟩
 have wa:=z.wl.wat z.hs hp
 rw [qB8] at hl
 refine WH.Set_in wa hl asc (by rw [z.wl.ln];rw [lMY];exact hlen) (z.wl.rg _) λs3 mv3 B3 wa3 aft k3 fr3=>?_
 have l3:B3.length=64:=by rw [aft.len,z.wl.ln]
 have ofp:∀ i,(i=p.2.1∨i=p.2.2.1)→ownW ws i:=λi h=>⟨p,hp,h⟩
 have kO:qAg (own f mb ws) s s3:=k3.mono λi h=>.inr (.inr (ofp i h))
 have hH3:Sub H s3:=λi e hi=>k3 _ _ (z.hs _ _ hi) λq=>by rw [z.wl.hn i (ofp i q)] at hi;cases hi
 refine hK s3 (grow H s s3 (own f mb ws)) mv3 B3 ?_ aft kO qC6 λi hi=>?_
 rotate_left
 ·by_cases h1:H i=none
  ·refine .inr ?_
   cases q:s i with
   | none=>rfl
   | some y=>exact absurd (qDb h1 (by rw [q];simp)) hi
  ·exact .inl h1
 have nf:=z.nf
 have gn:∀ i,own f mb ws i→grow H s s3 (own f mb ws) i=none:=λi hi=>qDg (z.hn hi) hi
 have mvH:Sl (grow H s s3 (own f mb ws)) mv3 (iz l):=by
  have:Sl s3 mv3 (iz l):=by rw [qB8];exact wa3.ms
  refine qJQ this λb o n c e hne=>?_
  obtain ⟨c',n',k',hc,e'⟩:=fr3 (λq=>hne (by rw [qB8,q];rfl))
  rw [e'] at e
  cases e
  refine ⟨?_,hc,λq=>z.live q hc⟩
  cases q:H b with
  | none=>rfl
  | some y=>rw [z.hs _ _ q] at hc;cases hc
 refine ⟨qE9 hH3,gn _ (.inl rfl),gn _ (.inr (.inl rfl)),k3 _ _ z.cf (λq=>nf.1 (ofp _ q)),?_,⟨by rw [qOp];exact z.wl.nd,?_,λi hi=>gn i (.inr (.inr (qKp.1 hi))),?_,λn=>?_,λn=>?_,λn hn=>?_⟩,?_,z.lk.sub qC6⟩
 ·rw [qRi,qWl]
  exact k3 _ _ z.cm (λq=>nf.2 (ofp _ q))
 ·intro a ha b hb h
  obtain ⟨a',ha',rfl⟩:=qKs ha
  obtain ⟨b',hb',rfl⟩:=qKs hb
  have:=z.wl.ow a' ha' b' hb' (by split at h <;> split at h <;> exact h)
  split <;> split <;> exact this
 ·intro q' hq'
  obtain ⟨q,hq,rfl⟩:=qKs hq'
  by_cases e:q.1=p.1
  ·have:=zAAN z.wl.nd hq hp e
   subst this
   rw [if_pos rfl]
   have e1:updF Bf q.1 B3 q.1=B3:=if_pos rfl
   have e2:updF Mf q.1 l q.1=l:=if_pos rfl
   refine ⟨?_,by rw [e1];exact wa3.bs,(z.wl.at_ q hq).2.2.1,by rw [e2];exact mvH⟩
   have:=wa3.wb
   rw [l3] at this
   exact this
  ·rw [if_neg e]
   have e1:updF Bf p.1 B3 q.1=Bf q.1:=if_neg e
   have e2:updF Mf p.1 l q.1=Mf q.1:=if_neg e
   obtain ⟨a,b,c,g⟩:=z.wl.at_ q hq
   obtain ⟨a',b',_,_⟩:=z.wl.at_ p hp
   have n1:¬ (q.2.1=p.2.1∨q.2.1=p.2.2.1):=by
    rintro (h | h)
    ·exact e (z.wl.ow q hq p hp (.inl h))
    ·rw [h,b'] at a;cases a
   have n2:¬ (q.2.2.1=p.2.1∨q.2.2.1=p.2.2.1):=by
    rintro (h | h)
    ·rw [h,a'] at b;cases b
    ·exact e (z.wl.ow q hq p hp (.inr h))
   exact ⟨k3 _ _ a n1,by rw [e1];exact k3 _ _ b n2,c,by rw [e2];exact g.sub qC6⟩
 ·unfold updF
  split
  ·exact l3
  ·exact z.wl.ln n
 ·unfold updF
  split
  ·exact aft.rg asc
  ·exact z.wl.rg n
 ·rw [qOp] at hn
  have:n≠p.1:=λe=>hn (by rw [e];exact List.mem_map.2 ⟨p,hp,rfl⟩)
  show updF Bf p.1 B3 n=_
  rw [show updF Bf p.1 B3 n=Bf n from if_neg this]
  exact z.wl.zr n hn
 ·intro q' hq'
  obtain ⟨q,hq,rfl⟩:=qKs hq'
  split <;> exact z.wn q hq
end Go.AM.FB
namespace Go.AM.FB
open Go Go.Proofs
set_option maxRecDepth 100000
variable {K:AV→Hq→Prop} {s s' t t' H H' Q:Hq} {lv ev v y w:AV} {f mb N x:Nat} {G:List Lnk} {U:List Bool} {L:List RLk}
variable {ws ws':List Wl} {Bf:Nat→List Int} {Mf:Nat→List Nat}
theorem qZX {α:Type} {g:Nat→α} {n:Nat} {a b:α}:updF (updF g n a) n b=updF g n b:=by
 funext m
 unfold updF
 split <;> rfl
theorem qFC:(ws.map np).map (·.1)=ws.map (·.1):=by rw [List.map_map];rfl
theorem Tb.addW {n w bb:Nat} (z:Tb s H f mb N x lv ev L ws Bf Mf) (hn:n ∉ ws.map (·.1)) (hN:n < N) (hw:s w=none) (hbb:s bb=none) (wa:WH.WAt s' w bb .nilslc (some 64) Zs [])
  (hm:s' mb=some (false,.map (mE 0 ((ws ++ [((n,w,bb,some 64,AV.nilslc):Wl)]).map np)) (ws ++ [((n,w,bb,some 64,AV.nilslc):Wl)]).length)) (k:qAg (λi=>i=mb) s s'):Tb s' H f mb N x lv ev L (ws ++ [((n,w,bb,some 64,AV.nilslc):Wl)]) Bf (updF Mf n []):=by
 have hlive:∀ {i},s i=none→∀ q∈ws,q.2.1≠i∧q.2.2.1≠i:=fun {i} hi q hq=>by
  obtain ⟨a,b,_⟩:=z.wl.at_ q hq
  exact ⟨λe=>(by rw [e,hi] at a;cases a),λe=>(by rw [e,hi] at b;cases b)⟩
 have hH:∀ {i},s i=none→H i=none:=fun {i} hi=>by
  cases q:H i with
  | none=>rfl
  | some y=>rw [z.hs _ _ q] at hi;cases hi
 have nf:=z.nf
 refine ⟨λi e hi=>k _ _ (z.hs _ _ hi) λq=>(by rw [q,z.hm] at hi;cases hi),z.hf,z.hm,k _ _ z.cf λq=>z.fm q.symm,hm,⟨?_,?_,?_,?_,z.wl.ln,z.wl.rg,λm hm'=>z.wl.zr m λq=>hm' (by rw [List.map_append];exact List.mem_append_left _ q)⟩,?_,z.lk⟩
 ·rw [List.map_append,List.nodup_append]
  refine ⟨z.wl.nd,by simp,?_⟩
  intro a ha b hb e
  simp only [List.map_cons,List.map_nil,List.mem_singleton] at hb
  subst hb
  subst e
  exact hn ha
 ·intro a ha b hb h
  rcases mP ha with ha | ha <;> rcases mP hb with hb | hb
  ·exact z.wl.ow a ha b hb h
  ·rw [List.mem_singleton] at hb
   subst hb
   obtain ⟨h1,_⟩:=hlive hw a ha
   obtain ⟨_,h2⟩:=hlive hbb a ha
   rcases h with h | h
   ·exact absurd h h1
   ·exact absurd h h2
  ·rw [List.mem_singleton] at ha
   subst ha
   obtain ⟨h1,_⟩:=hlive hw b hb
   obtain ⟨_,h2⟩:=hlive hbb b hb
   rcases h with h | h
   ·exact absurd h.symm h1
   ·exact absurd h.symm h2
  ·rw [List.mem_singleton] at ha hb
   rw [ha,hb]
 ·rintro i ⟨p,hp,h⟩
  rcases mP hp with hp | hp
  ·exact z.wl.hn i ⟨p,hp,h⟩
  ·rw [List.mem_singleton] at hp
   subst hp
   rcases h with rfl | rfl
   ·exact hH hw
   ·exact hH hbb
 ·intro p hp
  rcases mP hp with hp | hp
  ·have hne:p.1≠n:=λe=>hn (by rw [← e];exact List.mem_map.2 ⟨p,hp,rfl⟩)
   obtain ⟨a,b,c,e⟩:=z.wl.at_ p hp
   have e2:updF Mf n [] p.1=Mf p.1:=if_neg hne
   exact ⟨k _ _ a λq=>nf.2 (q ▸ ⟨p,hp,.inl rfl⟩),k _ _ b λq=>nf.2 (q ▸ ⟨p,hp,.inr rfl⟩),c,by rw [e2];exact e⟩
  ·rw [List.mem_singleton] at hp
   subst hp
   have e2:updF Mf n [] n=[]:=if_pos rfl
   refine ⟨wa.wb,?_,λc e=>by cases e;omega,?_⟩
   ·show s' bb=_
    rw [z.wl.zr n hn];exact wa.bs
   ·show Sl H .nilslc (iz (updF Mf n [] n))
    rw [e2];exact .inl ⟨rfl,rfl⟩
 ·intro p hp
  rcases mP hp with hp | hp
  ·exact z.wn p hp
  ·rw [List.mem_singleton] at hp
   subst hp
   exact hN
theorem qWe {n:Nat} {l:List Nat} (z:Tb s H f mb N x lv ev L ws Bf Mf) (hnN:n < N) (hl:Sl H v (iz l)) (ha:l.Pairwise (· < ·)) (hb:∀ i∈l,i < 128) (hlen:l.length≤64)
  (hK:∀ s' H' ws' B',Tb s' H' f mb N x lv ev L ws' (updF Bf n B') (updF Mf n l)→WH.Aft (nz l) (Bf n) B'→qAg (own f mb ws) s s'→Sub H H'→(∀ i,H' i≠none→H i≠none∨s i=none)→(∀ i,ownW ws' i→ownW ws i∨s i=none)→(∀ m,m∈ws'.map (·.1)↔m∈ws.map (·.1)∨m=n)→K (.tup []) s'):wC TP XX 30 [.ptr f 0,.int .i64 (n:Int),v] K s:=by
 refine qLP ?_
 have e5:(fibC (N:Int) (x:Int) lv ev mb)[5]?=some (.map mb):=rfl
 have hg:=mget (n:=n) z.cm
 have hlen2:(if (64:Int) < ((iz l).length:Int) then (64:Int) else ((iz l).length:Int))=((iz l).length:Int):=if_neg (by rw [qHU];omega)
 by_cases hn:n∈ws.map (·.1)
 ·obtain ⟨w,hw,hwm⟩:=qSh (l:=ws.map np) (n:=n) (by rw [qFC];exact hn)
  obtain ⟨p,hp,e⟩:=List.mem_map.1 hwm
  have ep1:p.1=n:=congrArg (·.1) e
  have ep2:p.2.1=w:=congrArg (·.2) e
  subst ep1 ep2
  rw [hw] at hg
  have hg:getM s (.map mb) (.int .i64 (p.1:Int))=some (some (.ptr p.2.1 0)):=hg
  have x0:qAN (retM .nilptr true (some (.ptr p.2.1 0))) 0=some (.ptr p.2.1 0):=rfl
  have x1:qAN (retM .nilptr true (some (.ptr p.2.1 0))) 1=some (.bool true):=rfl
  simp only [qGM,qAJ,qAE,zA,qAM z.cf,e5,hg,x0,x1,qAj,Bool.not_true,qAB,qAA]
  unfold qDJ
  obtain ⟨v',hv',hlv⟩:=Sl.whole (hl.sub z.hs)
  simp only [(hl.sub z.hs).len,qZ4,hlen2,hv',qAA]
  refine z.setM hp hlv ha hb hlen λs' H' mv B' z' aft k hH hH2=>hK s' H' _ B' z' aft k hH hH2 (λi hi=>.inl (qKp.1 hi)) λm=>?_
  rw [qOp]
  constructor
  ·exact .inl
  ·rintro (h | h)
   ·exact h
   ·rw [h];exact hn
 ·rw [qSP (by rw [qFC];exact hn)] at hg
  have hg:getM s (.map mb) (.int .i64 (n:Int))=some none:=hg
  have x0:qAN (retM .nilptr true none) 0=some .nilptr:=rfl
  have x1:qAN (retM .nilptr true none) 1=some (.bool false):=rfl
  simp only [qGM,qAJ,qAE,zA,qAM z.cf,e5,hg,x0,x1,qAj,Bool.not_false,qAI,qAA]
  refine WH.New_in (n:=64) (by omega) (by omega) λw bb s1 hw hbb sub1 wa=>?_
  have y0:qAN (.tup [.ptr w 0,.int .i64 0]) 0=some (.ptr w 0):=rfl
  have y1:qAN (.tup [.ptr w 0,.int .i64 0]) 1=some (.int .i64 0):=rfl
  have hf1:=sub1 _ _ z.cf
  simp only [y0,y1,qAM hf1,e5,qAA]
  have hm1:=sub1 _ _ z.cm
  rw [← lMY (f:=np)] at hm1
  refine mput hm1 (by rw [qFC];exact hn) λs2 hm2 u2=>?_
  have wm:w≠mb:=λe=>by rw [e,z.cm] at hw;cases hw
  have bm:bb≠mb:=λe=>by rw [e,z.cm] at hbb;cases hbb
  have wa2:WH.WAt s2 w bb .nilslc (some 64) Zs []:=⟨by rw [u2 w wm];exact wa.wb,by rw [u2 bb bm];exact wa.bs,.inl ⟨rfl,rfl⟩,wa.cp,wa.pos⟩
  have k2:qAg (λi=>i=mb) s s2:=sub1.keep.trans (u2.keep rfl)
  have z2:=z.addW hn hnN hw hbb wa2 (by rw [List.map_append,lAp,← lMY (f:=np)];rw [lAp] at hm2;exact hm2) k2
  unfold qDJ
  obtain ⟨v',hv',hlv⟩:=Sl.whole (hl.sub z2.hs)
  simp only [(hl.sub z2.hs).len,qZ4,hlen2,hv',qAA]
  refine z2.setM (p:=(n,w,bb,some 64,.nilslc)) (by simp) hlv ha hb hlen λs' H' mv B' z' aft k hH hH2=>?_
  rw [qZX] at z'
  have old2:∀ {i},s2 i=none→s i=none:=fun {i} hi=>by
   cases q:s i with
   | none=>rfl
   | some y=>
     by_cases e:i=mb
     ·rw [e,hm2] at hi;cases hi
     ·rw [k2 i y q e] at hi;cases hi
  refine hK s' H' _ B' z' aft (λi e hi hn'=>?_) hH (λi hi=>(hH2 i hi).imp id old2) (λi hi=>?_) λm=>?_
  ·refine k i e (k2 i e hi λq=>hn' (.inr (.inl q))) ?_
   rintro (q | q | ⟨p,hp,q⟩)
   ·exact hn' (.inl q)
   ·exact hn' (.inr (.inl q))
   ·rcases mP hp with hp | hp
    ·exact hn' (.inr (.inr ⟨p,hp,q⟩))
    ·rw [List.mem_singleton] at hp
     subst hp
     rcases q with rfl | rfl
     ·rw [hw] at hi;cases hi
     ·rw [hbb] at hi;cases hi
  ·obtain ⟨p,hp,q⟩:=qKp.1 hi
   rcases mP hp with hp | hp
   ·exact .inl ⟨p,hp,q⟩
   ·rw [List.mem_singleton] at hp
    subst hp
    rcases q with rfl | rfl
    ·exact .inr hw
    ·exact .inr hbb
  ·rw [qOp,List.map_append,List.mem_append]
   simp
structure UpG (t Q:Hq) (f rb mb N:Nat) (L:List RLk) (U:List Bool) (x:Nat) (lv ov:AV) (R:List EnV) (Bf0:Nat→List Int) (k:Nat):Prop where
 ex:∃ (ev:AV) (ws:List Wl) (Bf:Nat→List Int) (Mf:Nat→List Nat) (H:Hq),Tb t H f mb N x lv ev L ws Bf Mf∧H rb=none∧t rb=some (false,.cells 84 (rchL ((ndL N (L.map toL) U x).take k)))∧AccR 85 2 (offV ev t) t ev ((R.take k).map enR)∧
  (∀ b o n c e,ev=.slc b o n c e→H b=none)∧Sub Q t∧(∀ i,Q i≠none→H i=none∧¬ own f mb ws i∧i≠rb∧∀ b o n c e,ev=.slc b o n c e→i≠b)∧SlR 2 H ov (R.map enR)∧(∀ y∈R,Sl H y.2.1 (iz y.2.2))∧
  (∀ n∈(ndL N (L.map toL) U x).take k,n∈ws.map (·.1)∧WH.Aft (nz (lnk N (L.map toL) U x n)) (Bf0 n) (Bf n)∧Mf n=lnk N (L.map toL) U x n)∧∀ n,n ∉ (ndL N (L.map toL) U x).take k→Bf n=Bf0 n
theorem qWr {rb k n:Nat} {wv ov:AV} {R:List EnV} {Bf0:Nat→List Int} {J:Hq→Prop} (z:UpG t Q f rb mb N L U x lv ov R Bf0 k) (hN:N≤32) (hG:L.length≤64) (hk:(ndL N (L.map toL) U x)[k]?=some n) (hR:R[k]?=some (lbk n,wv,lnk N (L.map toL) U x n))
  (hK:∀ t',UpG t' Q f rb mb N L U x lv ov R Bf0 (k+1)→J t') :
  newK 66 [(.int .u32 0),.nilslc] (λb_32 s_33=>
  oK (qBo s_33 2 (.ptr b_32 0) (.agg (enR (lbk n,wv,lnk N (L.map toL) U x n)))) λs_34=>
  oK (qAH (.ptr f 0)) λv_35=>
  oK (qAF 4 v_35) λv_36=>
  oK (rd1 s_34 v_36) λv_37=>
  oK (rdN s_34 2 (.ptr b_32 0)) λv_38=>
  oK (qA2 (repl 1 [(.int .u32 0),.nilslc]) [(0,2,(.agg v_38))]) λc_39=>qAb c_39=true∧newK 85 c_39 (λb_40 s_41=>
  (∀ b,s_34 b≠none→s_34 b=none→s_41 b=none)→
  appK 85 2 v_37 (.slc b_40 0 1 (some 1) 2) (λv_42 s_43=>
  oK (qAH (.ptr f 0)) λv_44=>
  oK (qAF 4 v_44) λv_45=>
  oK (wr1 s_43 v_45 v_42) λs_46=>
  oK (qAF 0 (.ptr b_32 0)) λv_47=>
  oK (rd1 s_46 v_47) λv_48=>
  wC TP XX 29 [v_48] (λv_49 s_50=>
  oK (qAN v_49 0) λv_51=>
  oK (qAN v_49 1) λv_52=>
  qAP v_52
   (oK (qGE 32 1 (.ptr rb 0) v_51) λv_54=>
    oK (wr1 s_50 v_54 (.bool true)) λs_55=>
    oK (qAF 1 (.ptr b_32 0)) λv_56=>
    oK (rd1 s_55 v_56) λv_57=>
    wC TP XX 30 [(.ptr f 0),v_51,v_57] (λv_58 s_59=>J s_59) s_55)
   (J s_50)) s_46) (add s_34 s_41)) (frz s_34)) t:=by
 obtain ⟨ev,ws,Bf,Mf,H,tb,hHr,hr,acc,hHe,hQ,hQn,hov,hrow,hsem,hsem2⟩:=z.ex
 have hnl:n∈ndL N (L.map toL) U x:=mG hk
 have hn:n < N:=(qC3.1 hnl).1
 have hwH:Sl H wv (iz (lnk N (L.map toL) U x n)):=hrow _ (mG hR)
 have hone:wv.one=true:=hwH.one
 have hf:=tb.cf
 have allone:qAb (enR (lbk n,wv,lnk N (L.map toL) U x n))=true:=by
  show ((AV.int .u32 (lbk n)).one&&(wv.one&&true))=true
  rw [hone];rfl
 refine qAS λb32 t1 hb32 h1 u1=>qAl h1 rfl rfl allone λt2 h2 u2=>?_
 have st2:Sub t t2:=qAh (u1.sub hb32) u2 hb32
 have f4:(fibC (N:Int) (x:Int) lv ev mb)[4]?=some ev:=rfl
 have f2:=st2 _ _ hf
 simp only [qAJ,qAE,zA,qAM f2,f4,qA7 h2 (show (enR (lbk n,wv,lnk N (L.map toL) U x n)).length=2 from rfl),qAA]
 refine qAW (qMS (zs:=[(.int .u32 0),.nilslc]) (c:=enR (lbk n,wv,lnk N (L.map toL) U x n)) rfl) ⟨allone,?_⟩
 refine newM (l:=[]) λb40 s41 hb40 h40 u40=>?_
 have st3:Sub t2 (add t2 s41):=u40.sub hb40
 generalize add t2 s41=t3 at h40 u40 st3
 have st03:=st2.trans st3
 have acc3:=AccR.offv (acc.sub st03)
 have cne:∀ {i e},t i=some e→(∀ cs,e≠(false,.cells 85 cs))→∀ b o n c k,ev=.slc b o n c k→i≠b:=fun {i e} hi he b o n c k q q2=>by
  rcases acc.2 with ⟨r,_⟩ | ⟨j,_,r2,r3⟩
  ·rw [r] at q;cases q
  ·rw [r2] at q;cases q;rw [q2,r3] at hi;cases hi;exact he _ rfl
 have cnone:∀ {i},t i=none→∀ b o n c k,ev=.slc b o n c k→i≠b:=fun {i} hi b o n c k q q2=>by
  rcases acc.2 with ⟨r,_⟩ | ⟨j,_,r2,r3⟩
  ·rw [r] at q;cases q
  ·rw [r2] at q;cases q;rw [q2,r3] at hi;cases hi
 have cH:∀ {i e},H i=some e→∀ b o n c k,ev=.slc b o n c k→i≠b:=fun {i e} hi b o n c k q q2=>by
  rw [q2,hHe _ _ _ _ _ q] at hi;cases hi
 have cown:∀ {i},own f mb ws i→∀ b o n c k,ev=.slc b o n c k→i≠b:=fun {i} hi=>by
  rcases hi with rfl | rfl | hi
  ·exact cne tb.cf (λcs q=>by cases q)
  ·exact cne tb.cm (λcs q=>by cases q)
  ·rcases tb.wc hi with ⟨cs,q⟩ | ⟨cs,q⟩
   ·exact cne q (λcs q=>by cases q)
   ·exact cne q (λcs q=>by cases q)
 have h32:offV ev t3 b32=some (false,.cells 66 (enR (lbk n,wv,lnk N (L.map toL) U x n))):=by
  rw [qFb (cnone hb32)]
  exact st3 _ _ h2
 have hkl:R.take k ++ [(lbk n,wv,lnk N (L.map toL) U x n)]=R.take (k+1):=by rw [List.take_add_one,hR];rfl
 have hndl:(ndL N (L.map toL) U x).take k ++ [n]=(ndL N (L.map toL) U x).take (k+1):=by rw [List.take_add_one,hk];rfl
 have hkn:k < (ndL N (L.map toL) U x).length:=(gS hk).1
 have hNl:=qPB (N:=N) (G:=L.map toL) (U:=U) (x:=x)
 refine acc3.app (SlR.mk (rows:=[enR (lbk n,wv,lnk N (L.map toL) U x n)]) (by intro r hr;rw [List.mem_singleton] at hr;subst hr;rfl) (by simpa using h40) rfl (by simp)) (by simp) (by rw [lMY,List.length_take];simp only [List.length_singleton];omega) qPj λv' t4 a4 k4=>?_
 have t4of:∀ {i e},t i=some e→(∀ b o n c k,ev=.slc b o n c k→i≠b)→t4 i=some e:=fun {i e} hi hne=>k4 _ _ (by rw [qFb hne];exact st03 _ _ hi)
 have z4:Tb t4 H f mb N x lv ev L ws Bf Mf:=tb.keep (fp:=λi=>∃ o n c k,ev=.slc i o n c k) (λi e hi hn=>t4of hi λb o n c k q q2=>hn ⟨o,n,c,k,by rw [q2];exact q⟩) (λi hi ⟨o,n,c,k,q⟩=>cown hi _ _ _ _ _ q rfl) λi e hi=>t4of (tb.hs _ _ hi) (cH hi)
 have r4:t4 rb=some (false,.cells 84 (rchL ((ndL N (L.map toL) U x).take k))):=t4of hr (cne hr λcs q=>by cases q)
 have n1:rb≠f:=λe=>by rw [e,hf] at hr;cases hr
 have h32':=k4 _ _ h32
 have n4:b32≠f:=λe=>by rw [e,hf] at hb32;cases hb32
 have n5:b32≠rb:=λe=>by rw [e,hr] at hb32;cases hb32
 try simp only [qAJ,qAE,zA,qAA]
 refine qAm z4.cf (show 4 < (fibC (N:Int) (x:Int) lv ev mb).length from by show 4 < 6;omega) a4.sl.one λt5 h5 u5=>?_
 have h5:t5 f=some (false,.cells 76 (fibC (N:Int) (x:Int) lv v' mb)):=h5
 have z5:=z4.setE u5 h5
 have b5:t5 b32=some (false,.cells 66 (enR (lbk n,wv,lnk N (L.map toL) U x n))):=by rw [u5 _ n4];exact h32'
 have e0:(enR (lbk n,wv,lnk N (L.map toL) U x n))[0]?=some (.int .u32 (lbk n)):=rfl
 have e1:(enR (lbk n,wv,lnk N (L.map toL) U x n))[1]?=some wv:=rfl
 simp only [qAM b5,e0,qAA]
 refine qVT (by omega) ?_
 have x0:qAN (.tup [.int .i64 (n:Int),.bool true]) 0=some (.int .i64 (n:Int)):=rfl
 have x1:qAN (.tup [.int .i64 (n:Int),.bool true]) 1=some (.bool true):=rfl
 simp only [x0,x1,qAI,qP7 (show n < 32 by omega),qAA]
 have r5:t5 rb=some (false,.cells 84 (rchL ((ndL N (L.map toL) U x).take k))):=by rw [u5 _ n1];exact r4
 refine qAm r5 (by rw [qMc];omega) rfl λt6 h6 u6=>?_
 rw [qX0 (by omega),hndl] at h6
 have b6:t6 b32=some (false,.cells 66 (enR (lbk n,wv,lnk N (L.map toL) U x n))):=by rw [u6 _ n5];exact b5
 simp only [qAM b6,e1,qAA]
 have ownr:∀ {i},own f mb ws i→i≠rb:=fun {i} hi q=>by
  subst q
  rcases hi with hi | hi | hi
  ·exact n1 hi
  ·have:=z5.cm;rw [← hi,r5] at this;cases this
  ·rcases z5.wc hi with ⟨cs,q⟩ | ⟨cs,q⟩ <;> (rw [r5] at q;cases q)
 have z6:Tb t6 H f mb N x lv v' L ws Bf Mf:=z5.keep (fp:=λi=>i=rb) (u6.keep rfl) (λi hi=>ownr hi) λi e hi=>by
  rw [u6 i (λq=>by rw [q,hHr] at hi;cases hi)]
  exact z5.hs _ _ hi
 refine qWe z6 hn hwH qRl (λi hi=>by have:=qSW hi;rw [lMY] at this;omega) (Nat.le_trans qIE (by rw [lMY];exact hG)) λt7 H7 ws7 B7 z7 aft7 k7 hH7 hH7n hw7 hnd7=>?_
 have cb:∃ c,v'=.slc c 0 ((R.take k).map enR ++ [enR (lbk n,wv,lnk N (L.map toL) U x n)]).length none 2∧offV ev t3 c=none∧t4 c=some (false,.cells 85 ((R.take k).map enR ++ [enR (lbk n,wv,lnk N (L.map toL) U x n)]).flatten):=by
  rcases a4.2 with ⟨_,q⟩ | ⟨c,q1,q2,q3⟩
  ·simp at q
  ·exact ⟨c,q2,q1,q3⟩
 obtain ⟨c,hv',hc0,hc4⟩:=cb
 have hcf:c≠f:=λe=>by rw [e,z4.cf] at hc4;cases hc4
 have hcr:c≠rb:=λe=>by rw [e,r4] at hc4;cases hc4
 have c6:t6 c=some (false,.cells 85 ((R.take k).map enR ++ [enR (lbk n,wv,lnk N (L.map toL) U x n)]).flatten):=by rw [u6 _ hcr,u5 _ hcf];exact hc4
 have nown:¬ own f mb ws c:=by
  rintro (q | q | q)
  ·exact hcf q
  ·have:=z6.cm;rw [← q,c6] at this;cases this
  ·rcases z6.wc q with ⟨cs,q⟩ | ⟨cs,q⟩ <;> (rw [c6] at q;cases q)
 have c7:=k7 _ _ c6 nown
 have hcH:H c=none:=by
  cases q:H c with
  | none=>rfl
  | some e=>
    have:offV ev t3 c=some e:=by rw [qFb (cH q)];exact st03 _ _ (tb.hs _ _ q)
    rw [this] at hc0;cases hc0
 have off7:∀ {i},H i=none→t6 i≠none→H7 i=none:=fun {i} h1 h2=>by
  cases q:H7 i with
  | none=>rfl
  | some e=>
    rcases hH7n i (by rw [q];simp) with h | h
    ·exact absurd h1 h
    ·exact absurd h h2
 have r7:=k7 _ _ h6 (λq=>ownr q rfl)
 have Q6:Sub Q t6:=λi e hi=>by
  obtain ⟨q1,q2,q3,q4⟩:=hQn i (by rw [hi];simp)
  rw [u6 _ q3,u5 _ (λe=>q2 (.inl e))]
  exact t4of (hQ _ _ hi) q4
 have htk:∀ m,m∈(ndL N (L.map toL) U x).take (k+1)↔m∈(ndL N (L.map toL) U x).take k∨m=n:=λm=>by rw [← hndl];simp
 have hnt:n ∉ (ndL N (L.map toL) U x).take k:=by
  intro q
  have:=qRN (N:=N) (G:=L.map toL) (U:=U) (x:=x)
  obtain ⟨j,hj⟩:=List.mem_iff_getElem?.1 q
  rw [List.getElem?_take] at hj
  split at hj
  ·rename_i hjk
   obtain ⟨a1,a2⟩:=gS hj
   obtain ⟨c1,c2⟩:=gS hk
   have:=List.pairwise_iff_getElem.1 this j k a1 c1 hjk
   omega
  ·cases hj
 refine hK t7 ⟨v',ws7,updF Bf n B7,updF Mf n (lnk N (L.map toL) U x n),H7,z7,off7 hHr (by rw [h6];simp),r7,⟨?_,.inr ⟨c,?_,?_,?_⟩⟩,?_,?_,?_,hov.sub hH7,λy hy=>(hrow y hy).sub hH7,?_,?_⟩
 ·intro r hr
  obtain ⟨y,_,rfl⟩:=List.mem_map.1 hr
  rfl
 ·rw [hv'];simp [offV,hdel]
 ·rw [hv',← hkl,List.map_append];rfl
 ·rw [← hkl,List.map_append];exact c7
 ·intro b o n c e q
  rw [hv'] at q
  cases q
  exact off7 hcH (by rw [c6];simp)
 ·intro i e hi
  obtain ⟨q1,q2,q3,q4⟩:=hQn i (by rw [hi];simp)
  exact k7 _ _ (Q6 _ _ hi) q2
 ·intro i hi
  obtain ⟨q1,q2,q3,q4⟩:=hQn i hi
  have hi6:t6 i≠none:=by
   cases q:Q i with
   | none=>exact absurd q hi
   | some e=>rw [Q6 _ _ q];simp
  refine ⟨off7 q1 hi6,?_,q3,λb o n c' e q q5=>?_⟩
  ·rintro (q | q | q)
   ·exact q2 (.inl q)
   ·exact q2 (.inr (.inl q))
   ·rcases hw7 i q with q | q
    ·exact q2 (.inr (.inr q))
    ·exact hi6 q
  ·rw [hv'] at q
   cases q
   subst q5
   have hq:∃ e,Q i=some e:=by
    cases q:Q i with
    | none=>exact absurd q hi
    | some e=>exact ⟨e,rfl⟩
   obtain ⟨e,he⟩:=hq
   have:offV ev t3 i=some e:=by rw [qFb q4];exact st03 _ _ (hQ _ _ he)
   rw [this] at hc0;cases hc0
 ·intro m hm
  rcases (htk m).1 hm with h | h
  ·obtain ⟨a,b,c⟩:=hsem m h
   have hne:m≠n:=λe=>hnt (e ▸ h)
   refine ⟨(hnd7 m).2 (.inl a),?_,?_⟩
   ·rw [show updF Bf n B7 m=Bf m from if_neg hne];exact b
   ·rw [show updF Mf n (lnk N (L.map toL) U x n) m=Mf m from if_neg hne];exact c
  ·subst h
   refine ⟨(hnd7 m).2 (.inr rfl),?_,if_pos rfl⟩
   rw [show updF Bf m B7 m=B7 from if_pos rfl,← hsem2 m hnt]
   exact aft7
 ·intro m hm
  have hm2:¬ (m∈(ndL N (L.map toL) U x).take k∨m=n):=λq=>hm ((htk m).2 q)
  rw [show updF Bf n B7 m=Bf m from if_neg λe=>hm2 (.inr e)]
  exact hsem2 m λq=>hm2 (.inl q)
end Go.AM.FB
namespace Go.AM.FB
open Go Go.Proofs
set_option maxRecDepth 100000
variable {K:AV→Hq→Prop} {s s' t:Hq} {lv y w:AV} {N:Nat} {G:List Lnk} {U:List Bool} {Bf:Nat→List Int}
def WhT (s:Hq) (w:Nat) (l:List Nat) (B:List Int):Prop:=∃ t1 t2 bb mv cap,s w=some (t1,.cells 120 [.slc bb 0 B.length cap 1,mv])∧s bb=some (t2,.cells 3 (WH.ints B))∧(∀ c,cap=some c→B.length≤c)∧B.length=64∧WH.Sli s mv (l.map λ(n:Nat)=>(n:Int))∧∀ b∈B,b - 1∈nz l
theorem WhT.sub {w:Nat} {l:List Nat} {B:List Int} (h:WhT s w l B) (k:Sub s s'):WhT s' w l B:=by
 obtain ⟨t1,t2,bb,mv,cap,h1,h2,h3,h4,h5,h6⟩:=h
 exact ⟨t1,t2,bb,mv,cap,k _ _ h1,k _ _ h2,h3,h4,h5.sub k,h6⟩
structure FibT (s:Hq) (f N:Nat) (G:List Lnk) (U:List Bool) (x:Nat) (Bf:Nat→List Int):Prop where
 ex:∃ (tf:Bool) (lv ev:AV) (mb:Nat) (R:List EnV) (tm:Bool) (c:Nat) (ws:List (Nat × Nat)),s f=some (tf,.cells 76 (fibC (N:Int) (x:Int) lv ev mb))∧SlR 2 s ev (R.map enR)∧R.map kyE=ofP N G U x N∧(∀ y∈R,Sl s y.2.1 (iz y.2.2))∧
  s mb=some (tm,.map (mE 0 ws) c)∧(∀ n∈ndL N G U x,n∈ws.map (·.1))∧∀ p∈ws,p.1∈ndL N G U x→WhT s p.2 (lnk N G U x p.1) (Bf p.1)
theorem FibT.sub {f x:Nat} (h:FibT s f N G U x Bf) (k:Sub s s'):FibT s' f N G U x Bf:=by
 obtain ⟨tf,lv,ev,mb,R,tm,c,ws,h1,h2,h3,h4,h5,h6,h7⟩:=h.ex
 exact ⟨tf,lv,ev,mb,R,tm,c,ws,k _ _ h1,h2.sub k,h3,λy hy=>(h4 y hy).sub k,k _ _ h5,h6,λp hp q=>(h7 p hp q).sub k⟩
theorem qS9 {f x:Nat} {q:Int} (h:FibT s f N G U x Bf) (hN:N≤32)
  (hK:∀ s' (a:Int) (wv:AV) (b:Bool),Sub s s'→(b=true→∃ n∈ndL N G U x,q=lbk n∧Sl s wv (iz (lnk N G U x n)))→(b=false→wv=.nilslc∧∀ n∈ndL N G U x,q≠lbk n)→wv.one=true→K (.tup [.agg [.int .u32 a,wv],.bool b]) s'):wC TP XX 35 [.ptr f 0,.int .u32 q] K s:=by
 obtain ⟨tf,lv,ev,mb,R,tm,c,ws,h1,h2,h3,h4,h5,h6,h7⟩:=h.ex
 have hRl:R.length≤32:=by
  have:=congrArg List.length h3
  rw [lMY] at this
  have:=qHz (N:=N) (G:=G) (U:=U) (x:=x) (k:=N)
  omega
 refine qLU (qAS λb0 s1 hb0 hb1 u1=>?_)
 have sub1:=u1.sub hb0
 have f1:=sub1 _ _ h1
 have c4:(fibC (N:Int) (x:Int) lv ev mb)[4]?=some ev:=rfl
 simp only [qAJ,qAE,zA,qAM f1,c4,qAA]
 refine qVd (h2.sub sub1) (FibR.ord h3).1 (by omega) (λy hy=>(h4 y hy).one) λs2 i b sub2 hyes hno=>?_
 have b2:=sub2 _ _ hb1
 have x0:qAN (.tup [.int .i64 (i:Int),.bool b]) 0=some (.int .i64 (i:Int)):=rfl
 have x1:qAN (.tup [.int .i64 (i:Int),.bool b]) 1=some (.bool b):=rfl
 simp only [x0,x1,qAj,qAA]
 cases b with
 | false=>
   simp only [Bool.not_false,qAI]
   refine qAW (a:=[.int .u32 0,.nilslc]) rfl (qAl b2 rfl rfl rfl λs3 h3' u3=>?_)
   refine qAW (qA7 h3' rfl) ?_
   refine hK s3 0 .nilslc false (qAh (sub1.trans sub2) u3 hb0) (λh=>by cases h) (λ_=>⟨rfl,λn hn e=>?_⟩) rfl
   obtain ⟨y,hy,e2⟩:=FibR.has h3 hn
   exact hno rfl y hy (by rw [e2,e])
 | true=>
   obtain ⟨y,hy,eq⟩:=hyes rfl
   obtain ⟨n,hn,e1,e2⟩:=FibR.row h3 (mG hy)
   have f2:=sub2 _ _ f1
   have hone:=(h4 y (mG hy)).one
   simp only [Bool.not_true,qAB,qAM f2,c4,qAA]
   obtain ⟨pb,po,g1,g2,_⟩:=((h2.sub sub1).sub sub2).get (i:=i) (r:=enR y) (by rw [List.getElem?_map,hy];rfl)
   simp only [g1,g2,qAA]
   refine qAl b2 rfl rfl ?_ λs3 h3' u3=>?_
   ·show ((AV.int .u32 y.1).one&&(y.2.1.one&&true))=true
    rw [hone];rfl
   refine qAW (qA7 h3' rfl) ?_
   exact hK s3 y.1 y.2.1 true (qAh (sub1.trans sub2) u3 hb0) (λ_=>⟨n,hn,by rw [← eq,e1],by rw [← e2];exact h4 y (mG hy)⟩) (λh=>by cases h) hone
theorem qOS {f x:Nat} {q:Int} (h:FibT s f N G U x Bf) (hN:N≤32) (hN0:0 < N) (hG:G.length≤1000)
  (hK:∀ s' w l,Sub s s'→Sl s' w (iz l)→l.length≤1000→(∀ n,n < N→q=lbk n→l=lnk N G U x n)→(l≠[]↔∃ n∈ndL N G U x,q=lbk n)→(l≠[]→∃ c,s c=none∧w=.slc c 0 l.length none 1∧s' c=some (false,.cells 3 (iz l)))→K w s'):wC TP XX 12 [.ptr f 0,.int .u32 q] K s:=by
 obtain ⟨tf,lv,ev,mb,R,tm,c,ws,h1,_⟩:=h.ex
 refine qJ0 (qDx h1 (by omega) ?_)
 simp only [qAj,Bool.not_true,qAB,qAA]
 refine qS9 h hN λs1 a wv b sub1 hyes hno hone=>?_
 have x0:qAN (.tup [.agg [.int .u32 a,wv],.bool b]) 0=some (.agg [.int .u32 a,wv]):=rfl
 have x1:qAN (.tup [.agg [.int .u32 a,wv],.bool b]) 1=some (.bool b):=rfl
 simp only [x0,x1,qAA]
 refine qAS λb2 s2 hb2 h2 u2=>qAl h2 rfl rfl ?_ λs3 h3 u3=>?_
 ·show ((AV.int .u32 a).one&&(wv.one&&true))=true
  rw [hone];rfl
 have sub3:Sub s s3:=sub1.trans (qAh (u2.sub hb2) u3 hb2)
 have e1:[AV.int .u32 a,wv][1]?=some wv:=rfl
 simp only [qAE,zA,qAM h3,e1,qAA]
 have go:∀ l:List Nat,Sl s wv (iz l)→l.length≤1000→(∀ n,n < N→q=lbk n→l=lnk N G U x n)→(l≠[]↔∃ n∈ndL N G U x,q=lbk n)→wC TP XX 36 [wv] (λv_12 s_13=>K v_12 s_13) s3:=λl hl hlen k1 k2=>by
  refine WH.Clone_in (l:=l.map λ(n:Nat)=>(n:Int)) ?_ (by rw [lMY];omega) λv' s4 sub4 sl4 g4=>?_
  ·show Sl s3 wv _
   rw [← qB8];exact hl.sub sub3
  ·refine hK s4 v' l (sub3.trans sub4) ?_ hlen k1 k2 λhne=>?_
   ·rw [qB8];exact sl4
   ·obtain ⟨c,q1,q2,q3⟩:=g4 (by simpa using hne)
    rw [lMY] at q2
    exact ⟨c,qAe sub3 q1,q2,by rw [qB8];exact q3⟩
 cases b with
 | false=>
   obtain ⟨e,hq⟩:=hno rfl
   refine go [] (by rw [e];exact .inl ⟨rfl,rfl⟩) (by simp) (λn hn e2=>?_) ⟨λh=>absurd rfl h,λ⟨n,hn,e2⟩=>absurd e2 (hq n hn)⟩
   by_cases c:lnk N G U x n=[]
   ·exact c.symm
   ·exact absurd e2 (hq n (qC3.2 ⟨hn,c⟩))
 | true=>
   obtain ⟨n,hn,e,hs⟩:=hyes rfl
   refine go _ hs (Nat.le_trans qIE hG) (λm hm e2=>by rw [qO3 (e.symm.trans e2)]) ⟨λ_=>⟨n,hn,e⟩,λ_=>(qC3.1 hn).2⟩
theorem qUj {f x:Nat} (h:FibT s f N G U x Bf) (hN:N≤32) (hN0:0 < N) (hK:∀ s' w,Sub s s'→Sl s' w ((ndL N G U x).map λn=>.int .u32 (lbk n))→K w s'):wC TP XX 50 [.ptr f 0] K s:=by
 obtain ⟨tf,lv,ev,mb,R,tm,c,ws,h1,h2,h3,h4,h5,h6,h7⟩:=h.ex
 have eR:=(FibR.ord h3).2
 have hRl:R.length=(ndL N G U x).length:=by have:=congrArg List.length eR;simpa using this
 have hNl:=qPB (N:=N) (G:=G) (U:=U) (x:=x)
 refine qKM (qDx h1 (by omega) ?_)
 have c4:(fibC (N:Int) (x:Int) lv ev mb)[4]?=some ev:=rfl
 have z0:nat? (.int .i64 0)=some 0:=nat?_mk (n:=0)
 simp only [qAj,Bool.not_true,qAB,qAJ,qAE,zA,qAM h1,c4,h2.len,lMY,z0,nat?_mk,qAA]
 refine ⟨⟨Nat.zero_le _,by omega⟩,qAS λb s1 hb hb1 u1=>?_⟩
 have sub1:=u1.sub hb
 simp only [qAM (sub1 _ _ h1),c4,h2.len,lMY,qAA]
 refine ⟨λys t m=>∃ (k:Nat) (l:List AV),ys=[.slc b 0 k (some R.length) 1,.int .i64 k]∧k≤R.length∧m=R.length - k∧Sub s t∧t b=some (false,.cells 34 l)∧l.length=R.length∧∀ i n,i < k→(ndL N G U x)[i]?=some n→l[i]?=some (.int .u32 (lbk n)),⟨_,0,_,rfl,by omega,rfl,sub1,hb1,by rw [qFE];simp,λi n h=>by omega⟩,?_⟩
 rintro g t m ⟨k,l,hy,hk,rfl,st,tb,ll,hl⟩
 simp only [cI,and_true] at hy
 rw [hy.1,hy.2]
 simp only [qGG,qAQ,qAA]
 refine qAU (λhlt=>?_) (λhge=>?_)
 ·have hlt:k < R.length:=by have:=oT hlt;omega
  obtain ⟨y,hy⟩:∃ y,R[k]?=some y:=⟨_,gE hlt⟩
  obtain ⟨n,hn⟩:∃ n,(ndL N G U x)[k]?=some n:=⟨_,gE (by omega)⟩
  have eyn:y.1=lbk n:=by
   have:=congrArg (λl=>l[k]?) eR
   simp only [List.getElem?_map,hy,hn,Option.map_some] at this
   exact Option.some.inj this
  have hone:=(h4 y (mG hy)).one
  obtain ⟨pb,po,g1,g2,_⟩:=(h2.sub st).get (i:=k) (r:=enR y) (by rw [List.getElem?_map,hy];rfl)
  simp only [g1,g2,qAA]
  refine qAS λb2 t2 hb2 h2' u2=>qAl h2' rfl rfl ?_ λt3 h3' u3=>?_
  ·show ((AV.int .u32 y.1).one&&(y.2.1.one&&true))=true
   rw [hone];rfl
  have st3:Sub t t3:=qAh (u2.sub hb2) u3 hb2
  have h3':t3 b2=some (false,.cells 85 (enR y)):=h3'
  have e0:(enR y)[0]?=some (.int .u32 y.1):=rfl
  simp only [qAE,zA,qAM h3',e0,qAA]
  refine qFG rfl rfl λb6 t6 hb6 h6' u6=>?_
  have st6:=st3.trans (u6.sub hb6)
  have tb6:=st6 _ _ tb
  refine qYi tb6 ll hlt (Sl.mk h6' rfl (by simp)) rfl λt7 h7' u7=>?_
  simp only [qAT,qAA]
  rw [qAf (by omega) (by omega)]
  refine ⟨_,by omega,k+1,_,rfl,by omega,rfl,λi e hi=>?_,h7',by rw [List.length_set];exact ll,λi m hi hm=>?_⟩
  ·have hib:i≠b:=λq=>by rw [q,hb] at hi;cases hi
   rw [u7 _ hib]
   exact st6 _ _ (st _ _ hi)
  ·rw [List.getElem?_set]
   by_cases e:k=i
   ·subst e
    rw [hn] at hm
    cases hm
    rw [if_pos rfl,if_pos (by omega),eyn]
   ·rw [if_neg e]
    exact hl i m (by omega) hm
 ·have hge:k=R.length:=by have:=oF hge;omega
  subst hge
  refine hK t _ st (.inr ⟨b,0,some R.length,by rw [lMY,hRl],λc e=>by cases e;rw [lMY];omega,λ_=>⟨false,34,l,tb,by rw [lMY];omega,λi hi=>?_⟩⟩)
  rw [lMY] at hi
  rw [zA,List.getElem?_map,gE hi]
  exact hl i _ (by omega) (gE hi)
theorem qXv {w:Nat} {l:List Nat} {n:Nat} {h:Int} (z:WhT s w l (Bf n)) (hl:l≠[]) (hl2:∀ i∈l,i < 1000) (hl3:l.length≤1000) (hh:0≤h) (hK:K (.tup [.int .i64 (hopI Bf n h),.bool true]) s):wC TP XX 73 [.ptr w 0,.int .u64 h] K s:=by
 obtain ⟨t1,t2,bb,mv,cap,k1,k2,k3,k4,k5,k6⟩:=z
 refine qIQ (WH.valid_rd k1 (by omega) ?_)
 have lM:qAa mv=some l.length:=by rw [Sl.len k5,lMY,lMY]
 have hne:(((l.length:Nat):Int) == 0)=false:=beq_eq_false_iff_ne.2 λh0=>hl (List.length_eq_zero_iff.1 (by omega))
 have h1:=Int.emod_nonneg h (b:=64) (by omega)
 have h2:=Int.emod_lt_of_pos h (b:=64) (by omega)
 obtain ⟨i,hi,e1,e2⟩:∃ i:Nat,i < (Bf n).length∧h.tmod 64=i∧(h % 64).toNat=i:=⟨(h % 64).toNat,by omega,by rw [Int.tmod_eq_emod_of_nonneg hh];omega,rfl⟩
 have hb:=k6 _ (List.getElem_mem hi)
 obtain ⟨j,hj,hj2⟩:=List.mem_map.1 hb
 have hj3:=hl2 j hj
 have ew:((Bf n).length:Int) % 18446744073709551616=64:=by rw [k4];rfl
 have er:(WH.ints (Bf n))[i]?=some (.int .i64 (Bf n)[i]):=WH.ints_at hi
 unfold hopI at hK
 rw [e2,List.getD_eq_getElem?_getD,gE hi] at hK
 have ad:qAO 1 (.slc bb 0 (Bf n).length cap 1) (.int .u64 (i:Int))=some (.ptr bb i):=qUK hi
 simp only [qAj,Bool.not_true,qAA,qAB,qAJ,qAE,qAM k1,zA,g0Y,g1Y,lM,qAv,hne,qAi,Bool.false_bne,qC4,qAL,qBJ,qEd,wu64,ew,qMi (k:=.u64) (x:=h) (y:=64) (by omega),e1,ad,qAM k2,er,qBO]
 rw [qAf (by omega) (by omega)]
 exact hK
theorem qWX {f x:Nat} {a q e vn:Int} {cs:List AV} (h:FibT s f N G U x Bf) (hN:N≤32) (hG:G.length≤128) (hp:Pk a q e vn cs) (hq:0≤q∧q < 4294967296)
  (hyes:∀ m∈ndL N G U x,q=lbk m→∀ s',Sub s s'→K (.tup [.int .i64 (hopI Bf m (fnv 14695981039346656037 (qG8 a q e vn))),.bool true]) s')
  (hno:(∀ m∈ndL N G U x,q≠lbk m)→∀ s',Sub s s'→K (.tup [.int .i64 0,.bool false]) s'):wC TP XX 45 [.ptr f 0,.agg cs] K s:=by
 obtain ⟨p1,p2,p3,p4,p5,p6⟩:=id hp
 refine qKo ⟨p2,qAS λb s1 hb h1 u1=>?_⟩
 have sub1:=u1.sub hb
 have h1:s1 b=some (false,.cells 44 cs):=h1
 simp only [qAE,zA,qAM h1,p4,qAA]
 by_cases hex:∃ m:Nat,m < 32∧q=lbk m
 rotate_left
 ·refine qZd hq (λm hm e=>hex ⟨m,hm,e⟩) ?_
  have x1:qAN (.tup [.int .i64 0,.bool false]) 1=some (.bool false):=rfl
  have x0:qAN (.tup [.int .i64 0,.bool false]) 0=some (.int .i64 0):=rfl
  simp only [x0,x1,qAj,Bool.not_false,qAI,qAA]
  exact hno (λm hm e=>hex ⟨m,by have:=(qC3.1 hm).1;omega,e⟩) _ sub1
 obtain ⟨m,hm,rfl⟩:=hex
 refine qVT hm ?_
 have x0:qAN (.tup [.int .i64 (m:Int),.bool true]) 0=some (.int .i64 (m:Int)):=rfl
 have x1:qAN (.tup [.int .i64 (m:Int),.bool true]) 1=some (.bool true):=rfl
 simp only [x0,x1,qAj,Bool.not_true,qAB,qAM h1,p4,qAA]
 refine qS9 (h.sub sub1) hN λs2 ra rw bb sub2 fy fn _=>?_
 have y0:qAN (.tup [.agg [.int .u32 ra,rw],.bool bb]) 0=some (.agg [.int .u32 ra,rw]):=rfl
 have y1:qAN (.tup [.agg [.int .u32 ra,rw],.bool bb]) 1=some (.bool bb):=rfl
 have s02:=sub1.trans sub2
 simp only [y0,y1,qAj,qAA]
 cases bb with
 | false=>
   simp only [Bool.not_false,qAI]
   exact hno (λn hn e=>(fn rfl).2 n hn e) _ s02
 | true=>
   obtain ⟨n,hn,e1,_⟩:=fy rfl
   have hmn:m=n:=qO3 e1
   subst hmn
   have h2:=h.sub s02
   obtain ⟨tf,lv,ev,mb,R,tm,c,ws,k1,_,_,_,k5,k6,k7⟩:=h2.ex
   obtain ⟨w,w1,w2⟩:=qSh (l:=ws) (n:=m) (k6 m hn)
   have c5:(fibC (N:Int) (x:Int) lv ev mb)[5]?=some (.map mb):=rfl
   have hg:=mget (n:=m) k5
   rw [w1] at hg
   have hg:getM s2 (.map mb) (.int .i64 (m:Int))=some (some (.ptr w 0)):=hg
   have b2:=sub2 _ _ h1
   simp only [Bool.not_true,qAB,qAJ,qAE,zA,qAM k1,c5,hg,qAA]
   refine qAW (qA7 b2 p1) ?_
   refine qZr hp λs3 sub3 _=>?_
   have sub4:Sub s2 (add s2 s3):=qFk
   refine qXv (n:=m) ((k7 _ w2 hn).sub sub4) (qC3.1 hn).2 (λi hi=>by have:=qSW hi;omega) (Nat.le_trans qIE (by omega)) (qUz (by omega)) ?_
   have z0:∀ q:Int,qAN (.tup [.int .i64 q,.bool true]) 0=some (.int .i64 q):=λ_=>rfl
   have z1:∀ q:Int,qAN (.tup [.int .i64 q,.bool true]) 1=some (.bool true):=λ_=>rfl
   simp only [z0,z1,qAA]
   exact hyes m hn rfl _ (s02.trans sub4)
inductive FwdT (N:Nat) (G:List Lnk) (U:List Bool) (x:Nat) (q ttl:Int) (Bf:Nat→List Int) (h:Int) (cs:List AV):AV→Prop where
 | at_:q=lbk x→FwdT N G U x q ttl Bf h cs (.tup [.int .i64 0,.agg zP,.int .i64 9])
 | time:q≠lbk x→ttl < 2→FwdT N G U x q ttl Bf h cs (.tup [.int .i64 0,.agg zP,.int .i64 20])
 | down:q≠lbk x→2≤ttl→(∀ m∈ndL N G U x,q≠lbk m)→FwdT N G U x q ttl Bf h cs (.tup [.int .i64 0,.agg zP,.int .i64 13])
 | go (m:Nat):q≠lbk x→2≤ttl→m∈ndL N G U x→q=lbk m→FwdT N G U x q ttl Bf h cs (.tup [.int .i64 (hopI Bf m h),.agg (cs.set 2 (.int .i64 (ttl - 1))),.int .i64 0])
theorem FwdT.uniq {x:Nat} {q ttl h:Int} {cs:List AV} {r r':AV} (a:FwdT N G U x q ttl Bf h cs r) (b:FwdT N G U x q ttl Bf h cs r'):r=r':=by
 cases a <;> cases b <;> first | rfl | contradiction | omega | skip
 all_goals first | (rename_i h1 h2 h3 m h4 h5 h6 h7;exact absurd h7 (h3 m h6)) | (rename_i m h4 h5 h6 h7 h1 h2 h3;exact absurd h7 (h3 m h6)) | (rename_i m h4 h5 h6 h7 m' k4 k5 k6 k7;rw [qO3 (h7.symm.trans k7)])
theorem qQ5 {f x:Nat} {a dq e vn ttl:Int} {cs:List AV} (h:FibT s f N G U x Bf) (hN:N≤32) (hN0:1≤N) (hG:G.length≤128) (hp:Pk a dq e vn cs) (hc:cs[2]?=some (.int .i64 ttl)) (ht:-9223372036854775808≤ttl∧ttl≤9223372036854775807) (hdq:0≤dq∧dq < 4294967296)
  (hK:∀ s' r,Sub s s'→FwdT N G U x dq ttl Bf (fnv 14695981039346656037 (qG8 a dq e vn)) cs r→K r s'):wC TP XX 16 [.ptr f 0,.agg cs] K s:=by
 obtain ⟨p1,p2,p3,p4,p5,p6⟩:=id hp
 refine qI3 (qLB rfl λb0 s1 hb0 h1 u1=>⟨p2,qAS λb2 s2 hb2 h2 u2=>qAS λb4 s3 hb4 h3 u3=>?_⟩)
 have sub1:=u1.sub hb0
 have sub2:=u2.sub hb2
 have sub3:=u3.sub hb4
 have h1':=sub3 _ _ (sub2 _ _ h1)
 have h2':=sub3 _ _ h2
 have s03:=(sub1.trans sub2).trans sub3
 have hf3:=h.sub s03
 obtain ⟨tf,lv,ev,mb,R,tm,c,ws,k1,_⟩:=hf3.ex
 have ca:(fibC (N:Int) (x:Int) lv ev mb)[2]?=some (.int .u32 (lbk x)):=rfl
 simp only [qAM h1',g0Y,qAA]
 refine qDx k1 (by omega) ?_
 simp only [qAj,Bool.not_true,qAB,qAA]
 refine qAS λb13 s4 hb13 h4 u4=>qAm h4 (by simp) rfl λs5 h5 u5=>?_
 have h5:s5 b13=some (false,.cells 3 [.int .i64 0]):=h5
 have sub5:Sub s3 s5:=qAh (u4.sub hb13) u5 hb13
 refine qAW (a:=[.fn (.func 41) [] [.ptr b2 0,.ptr b0 0],.fn (.func 43) [] [.ptr b2 0],.fn (.func 44) [] [.ptr b0 0,.ptr b2 0,.ptr b13 0]]) rfl ⟨rfl,qAS λb17 s6 hb17 h6 u6=>?_⟩
 have sub6:=u6.sub hb17
 have e3:qAa (.slc b17 0 3 (some 3) 1)=some 3:=rfl
 simp only [e3,qAA]
 have hr:∃ r:Hq,r=hdel s6 b13:=⟨_,rfl⟩
 obtain ⟨r,hr⟩:=hr
 have rin:∀ {i e},s3 i=some e→r i=some e:=fun {i e} hi=>by
  rw [hr]
  have ne:i≠b13:=λq=>by rw [q,hb13] at hi;cases hi
  rw [qGu ne]
  exact sub6 _ _ (sub5 _ _ hi)
 have ne17:b17≠b13:=λq=>by rw [q,h5] at hb17;cases hb17
 have r17:r b17=some (false,.cells 99 [.fn (.func 41) [] [.ptr b2 0,.ptr b0 0],.fn (.func 43) [] [.ptr b2 0],.fn (.func 44) [] [.ptr b0 0,.ptr b2 0,.ptr b13 0]]):=by
  rw [hr,qGu ne17];exact h6
 have rs6:Sub r s6:=λi e hi=>by
  rw [hr] at hi
  have hi:(if i=b13 then none else s6 i)=some e:=hi
  split at hi
  ·cases hi
  ·exact hi
 have s3r:Sub s3 r:=λi e hi=>rin hi
 have r13:r b13=none:=by rw [hr];simp [hdel]
 refine ⟨λys t mm=>∃ (i:Nat) (q:Int),ys=[.int .i64 i]∧i≤3∧mm=3 - i∧Sub r t∧t b13=some (false,.cells 3 [.int .i64 q])∧(1≤i→dq≠lbk x)∧(2≤i→2≤ttl)∧(3≤i→∃ m∈ndL N G U x,dq=lbk m∧q=hopI Bf m (fnv 14695981039346656037 (qG8 a dq e vn))),⟨_,0,0,rfl,by omega,rfl,rs6,sub6 _ _ h5,λh=>by omega,λh=>by omega,λh=>by omega⟩,?_⟩
 rintro g t mm ⟨i,q,hy,hi,rfl,rt,t13,i1,i2,i3⟩
 simp only [cI,and_true] at hy
 rw [hy]
 have t0:=rt _ _ (s3r _ _ h1')
 have t2:=rt _ _ (s3r _ _ h2')
 have t2:t b2=some (false,.cells 44 cs):=t2
 have t4:=rt _ _ (s3r _ _ h3)
 have t4:t b4=some (false,.cells 44 zP):=t4
 have t17:=rt _ _ r17
 have tF:=rt _ _ (s3r _ _ k1)
 have hft:=hf3.sub (s3r.trans rt)
 have e0:qA2 zP []=some zP:=rfl
 have st:=s03.trans (s3r.trans rt)
 have stop:∀ (t':Hq) (er:Int),Sub r t'→(er == 0)=false→(∀ s',Sub s s'→K (.tup [.int .i64 0,.agg zP,.int .i64 er]) s')→
   oK (negB true (eqV 0 true (.int .i64 er) (.int .i64 0))) (λv_26=>qAP v_26 (oK (qA2 [(.int .u32 0),(.int .u32 0),(.int .i64 0),(.int .i64 0),(.int .u32 0),(.int .u32 0),(.int .u64 0),(.int .u64 0),(.int .i64 0),(.int .i64 0),(.int .u64 0),(.int .u32 0),(.int .u64 0),(.int .u32 0),(.int .u32 0),(.int .u32 0),(.int .i64 0),(.int .i64 0),(.int .i64 0),(.int .i64 0),(.int .u64 0)] []) λc_27=>
   oK (qBo t' 21 (.ptr b4 0) (.agg c_27)) λs_28=>
   oK (rdN s_28 21 (.ptr b4 0)) λt5_29=>
   K (.tup [(.int .i64 0),(.agg t5_29),(.int .i64 er)]) s_28) (oK (qAG .add (.int .i64 (i:Int)) (.int .i64 1)) λv_30=>
   ∃ m',m' < 3 - i∧∃ (i:Nat) (q:Int),[v_30]=[.int .i64 i]∧i≤3∧m'=3 - i∧Sub r t'∧t' b13=some (false,.cells 3 [.int .i64 q])∧(1≤i→dq≠lbk x)∧(2≤i→2≤ttl)∧(3≤i→∃ m∈ndL N G U x,dq=lbk m∧q=hopI Bf m (fnv 14695981039346656037 (qG8 a dq e vn))))):=λt' er rt' her hk=>by
  have t4':=rt' _ _ (s3r _ _ h3)
  have t4':t' b4=some (false,.cells 44 zP):=t4'
  simp only [qAv,her,qAi,Bool.true_bne,Bool.not_false,qAI,qAA]
  refine qAW e0 (qAl t4' rfl rfl rfl λt5 h5' u5'=>qAW (qA7 h5' rfl) (hk _ ?_))
  have hb4s:s b4=none:=qAe (sub1.trans sub2) hb4
  exact qAh (s03.trans (s3r.trans rt')) u5' hb4s
 have goOn:∀ (t':Hq) (q':Int),Sub r t'→t' b13=some (false,.cells 3 [.int .i64 q'])→i < 3→(1≤i+1→dq≠lbk x)→(2≤i+1→2≤ttl)→(3≤i+1→∃ m∈ndL N G U x,dq=lbk m∧q'=hopI Bf m (fnv 14695981039346656037 (qG8 a dq e vn)))→
   oK (negB true (eqV 0 true (.int .i64 0) (.int .i64 0))) (λv_26=>qAP v_26 (oK (qA2 [(.int .u32 0),(.int .u32 0),(.int .i64 0),(.int .i64 0),(.int .u32 0),(.int .u32 0),(.int .u64 0),(.int .u64 0),(.int .i64 0),(.int .i64 0),(.int .u64 0),(.int .u32 0),(.int .u64 0),(.int .u32 0),(.int .u32 0),(.int .u32 0),(.int .i64 0),(.int .i64 0),(.int .i64 0),(.int .i64 0),(.int .u64 0)] []) λc_27=>
   oK (qBo t' 21 (.ptr b4 0) (.agg c_27)) λs_28=>
   oK (rdN s_28 21 (.ptr b4 0)) λt5_29=>
   K (.tup [(.int .i64 0),(.agg t5_29),(.int .i64 0)]) s_28) (oK (qAG .add (.int .i64 (i:Int)) (.int .i64 1)) λv_30=>
   ∃ m',m' < 3 - i∧∃ (i:Nat) (q:Int),[v_30]=[.int .i64 i]∧i≤3∧m'=3 - i∧Sub r t'∧t' b13=some (false,.cells 3 [.int .i64 q])∧(1≤i→dq≠lbk x)∧(2≤i→2≤ttl)∧(3≤i→∃ m∈ndL N G U x,dq=lbk m∧q=hopI Bf m (fnv 14695981039346656037 (qG8 a dq e vn))))):=λt' q' a1 a2 a0 a3 a4 a5=>by
  have c:negB true (eqV 0 true (.int .i64 0) (.int .i64 0))=some (.bool false):=rfl
  simp only [c,qAB,qAT,qAA]
  rw [qAf (by omega) (by omega)]
  exact ⟨3 - (i+1),by omega,i+1,q',rfl,by omega,rfl,a1,a2,a3,a4,a5⟩
 simp only [qFP,qAQ,qAA]
 refine qAU (λhlt=>?_) (λhge=>?_)
 ·have hlt:i < 3:=by have:=oT hlt;omega
  have ad:qAO 1 (.slc b17 0 3 (some 3) 1) (.int .i64 (i:Int))=some (.ptr b17 i):=qUK hlt
  match i,hlt with
  | 0,_=>
    have q0:rd1 t (.ptr b17 0)=some (.fn (.func 41) [] [.ptr b2 0,.ptr b0 0]):=by rw [qAM t17];rfl
    simp only [ad,q0,qAA]
    refine qWE (k:=41) (first:=[]) (cap:=[.ptr b2 0,.ptr b0 0]) (by kernel_rfl) ?_
    show wC TP XX 41 [.ptr b2 0,.ptr b0 0] _ t
    refine qH0 ?_
    simp only [qFq,qAE,zA,qAM t2,p4,qAM t0,g0Y,qAJ,qAM tF,ca,qAv,qAi,Bool.true_bne,qAA]
    refine qLS ?_
    by_cases c:dq=lbk x
    ·have c2:(dq == lbk x)=true:=by rw [c];simp
     simp only [c2,Bool.not_true,Bool.false_eq_true,if_false]
     exact stop t 9 rt rfl λs' hs=>hK s' _ hs (.at_ c)
    ·have c2:(dq == lbk x)=false:=beq_eq_false_iff_ne.2 c
     simp only [c2,Bool.not_false,if_true]
     exact goOn t q rt t13 (by omega) (λ_=>c) (λh=>by omega) λh=>by omega
  | 1,_=>
    have q0:rd1 t (.ptr b17 1)=some (.fn (.func 43) [] [.ptr b2 0]):=by rw [qAM t17];rfl
    simp only [ad,q0,qAA]
    refine qWE (k:=43) (first:=[]) (cap:=[.ptr b2 0]) (by kernel_rfl) ?_
    show wC TP XX 43 [.ptr b2 0] _ t
    refine qIT ?_
    simp only [qFr,qAE,zA,qAM t2,hc,qA8,qAA]
    refine qLS ?_
    by_cases c:2≤ttl
    ·rw [decide_eq_true c]
     simp only [if_true]
     exact goOn t q rt t13 (by omega) (λ_=>i1 (by omega)) (λ_=>c) λh=>by omega
    ·rw [decide_eq_false c]
     simp only [Bool.false_eq_true,if_false]
     exact stop t 20 rt rfl λs' hs=>hK s' _ hs (.time (i1 (by omega)) (by omega))
  | 2,_=>
    have q0:rd1 t (.ptr b17 2)=some (.fn (.func 44) [] [.ptr b0 0,.ptr b2 0,.ptr b13 0]):=by rw [qAM t17];rfl
    simp only [ad,q0,qAA]
    refine qWE (k:=44) (first:=[]) (cap:=[.ptr b0 0,.ptr b2 0,.ptr b13 0]) (by kernel_rfl) ?_
    show wC TP XX 44 [.ptr b0 0,.ptr b2 0,.ptr b13 0] _ t
    refine qIP ?_
    simp only [qFu,qAM t0,g0Y,qAA]
    refine qAW (qA7 t2 p1) (qWX hft hN hG hp hdq (λm hmm hq t' st'=>?_) λhq t' st'=>?_)
    ·have z0:∀ q:Int,qAN (.tup [.int .i64 q,.bool true]) 0=some (.int .i64 q):=λ_=>rfl
     have z1:∀ q:Int,qAN (.tup [.int .i64 q,.bool true]) 1=some (.bool true):=λ_=>rfl
     simp only [z0,z1,qAA]
     refine qAm (st' _ _ t13) (by simp) rfl λt7 h7 u7=>qLS ?_
     simp only [if_true]
     have rt7:Sub r t7:=qAh (rt.trans st') u7 r13
     exact goOn t7 _ rt7 h7 (by omega) (λ_=>i1 (by omega)) (λ_=>i2 (by omega)) λ_=>⟨m,hmm,hq,rfl⟩
    ·have z0:qAN (.tup [.int .i64 0,.bool false]) 0=some (.int .i64 0):=rfl
     have z1:qAN (.tup [.int .i64 0,.bool false]) 1=some (.bool false):=rfl
     simp only [z0,z1,qAA]
     refine qAm (st' _ _ t13) (by simp) rfl λt7 h7 u7=>qLS ?_
     simp only [Bool.false_eq_true,if_false]
     have rt7:Sub r t7:=qAh (rt.trans st') u7 r13
     exact stop t7 13 rt7 rfl λs' hs=>hK s' _ hs (.down (i1 (by omega)) (i2 (by omega)) hq)
 ·have hge:i=3:=by have:=oF hge;omega
  subst hge
  obtain ⟨m,hmm,hq,rfl⟩:=i3 (by omega)
  simp only [qAE,zA,qAM t2,hc,qBO,qAA]
  have h2t:=i2 (by omega)
  rw [qAf (by omega) (by omega)]
  refine qAm t2 (by rw [p1];omega) rfl λt5 h5 u5=>?_
  have n1:b13≠b2:=λq=>by rw [q,t2] at t13;cases t13
  have n2:b4≠b2:=λq=>by rw [q,h2] at hb4;cases hb4
  have t13':t5 b13=some (false,.cells 3 [.int .i64 (hopI Bf m (fnv 14695981039346656037 (qG8 a dq e vn)))]):=by rw [u5 _ n1];exact t13
  have t4':t5 b4=some (false,.cells 44 zP):=by rw [u5 _ n2];exact t4
  simp only [qAM t13',g0Y,qAA]
  have ls:(cs.set 2 (.int .i64 (ttl - 1))).length=21:=by rw [List.length_set];exact p1
  refine qAW (qA7 h5 ls) (qAl t4' (by rw [ls];rfl) rfl ?_ λt6 h6 u6=>qAW (qA7 h6 ls) ?_)
  ·exact qJm rfl p2
  refine hK t6 _ ?_ (.go m (i1 (by omega)) h2t hmm hq)
  have hb2s:s b2=none:=qAe sub1 hb2
  have hb4s:s b4=none:=qAe (sub1.trans sub2) hb4
  exact qAh (qAh st u5 hb2s) u6 hb4s
end Go.AM.FB
namespace Go.AM.FB
open Go Go.Proofs
set_option maxRecDepth 100000
variable {K:AV→Hq→Prop} {r r' s s' t t' H H':Hq} {lv ev uv v y:AV} {f mb N x:Nat} {G:List Lnk} {U U':List Bool} {L:List RLk}
variable {ws ws':List Wl} {Bf Bf':Nat→List Int} {Mf Mf':Nat→List Nat}
structure Good (l B:List Int):Prop where
 nil:l=[]→B=Zs
 elt:l≠[]→∀ b∈B,b - 1∈l
 bal:∀ a∈l,∀ c∈l,WH.ld B a≤WH.ld B c+1
theorem qR1 {B:List Int} (h:B.length=64):WH.clr [] B=Zs:=by
 unfold WH.clr Zs
 simp only [List.not_mem_nil,if_false]
 rw [List.map_const',h]
theorem qXz {l B B':List Int} (h:WH.Aft l B B') (hl:B.length=64):Good l B':=⟨λe=>by rw [h.none e,qR1 hl],h.elt,h.bal⟩
structure Tab (r:Hq) (f N x:Nat) (L:List RLk) (U:List Bool) (Bf:Nat→List Int):Prop where
 ex:∃ (H:Hq) (mb:Nat) (lv ev:AV) (R:List EnV) (ws:List Wl) (Mf:Nat→List Nat),Tb r H f mb N x lv ev L ws Bf Mf∧SlR 2 H ev (R.map enR)∧R.map kyE=ofP N (L.map toL) U x N∧(∀ y∈R,Sl H y.2.1 (iz y.2.2))∧(∀ n∈ndL N (L.map toL) U x,n∈ws.map (·.1))∧∀ p∈ws,Mf p.1=lnk N (L.map toL) U x p.1
 el:∀ n,n < N→Good (nz (lnk N (L.map toL) U x n)) (Bf n)
theorem Tab.sub (z:Tab r f N x L U Bf) (k:Sub r s):Tab s f N x L U Bf:=by
 obtain ⟨H,mb,lv,ev,R,ws,Mf,h1,h⟩:=z.ex
 exact ⟨⟨H,mb,lv,ev,R,ws,Mf,h1.sub k,h⟩,z.el⟩
theorem Tab.len (z:Tab r f N x L U Bf) (n:Nat):(Bf n).length=64:=by
 obtain ⟨H,mb,lv,ev,R,ws,Mf,h1,h⟩:=z.ex
 exact h1.wl.ln n
theorem Tab.rd (z:Tab r f N x L U Bf):FibT r f N (L.map toL) U x Bf:=by
 obtain ⟨H,mb,lv,ev,R,ws,Mf,h1,h2,h3,h4,h5,h6⟩:=z.ex
 refine ⟨false,lv,ev,mb,R,false,ws.length,ws.map np,h1.cf,h2.sub h1.hs,h3,λy hy=>(h4 y hy).sub h1.hs,h1.cm,λn hn=>by rw [qFC];exact h5 n hn,λp hp hn=>?_⟩
 obtain ⟨q,hq,rfl⟩:=List.mem_map.1 hp
 have hn:q.1∈ndL N (L.map toL) U x:=hn
 obtain ⟨a,b,c,e⟩:=h1.wl.at_ q hq
 have l:=h1.wl.ln q.1
 obtain ⟨n1,n2⟩:=qC3.1 hn
 refine ⟨false,false,q.2.2.1,q.2.2.2.2,q.2.2.2.1,?_,b,?_,l,?_,(z.el q.1 n1).elt (by unfold nz;simpa using n2)⟩
 ·show r q.2.1=some (false,.cells 120 [.slc q.2.2.1 0 (Bf q.1).length q.2.2.2.1 1,q.2.2.2.2])
  rw [l];exact a
 ·intro c' hc'
  show (Bf q.1).length≤c'
  rw [l];exact c c' hc'
 ·have:=e.sub h1.hs
  rw [h6 q hq,qB8] at this
  exact this
structure Goes (r s r' s':Hq):Prop where
 sub:Sub r' s'
 out:∀ i,r i=none→s i≠none→s' i=s i∧r' i=none
theorem Goes.trans {r2 s2:Hq} (h:Goes r s r' s') (k:Goes r' s' r2 s2):Goes r s r2 s2:=⟨k.sub,λi h1 h2=>by
 obtain ⟨a,b⟩:=h.out i h1 h2
 obtain ⟨c,e⟩:=k.out i b (by rw [a];exact h2)
 exact ⟨c.trans a,e⟩⟩
theorem Goes.old {t:Hq} (h:Goes r s r' s') (k:Sub t s) (hd:∀ i,t i≠none→r i=none):Sub t s'∧∀ i,t i≠none→r' i=none:=by
 constructor
 ·intro i e hi
  have h1:=k _ _ hi
  rw [(h.out i (hd i (by rw [hi];simp)) (by rw [h1];simp)).1];exact h1
 ·intro i hi
  have h1:s i≠none:=by
   cases q:t i with
   | none=>exact absurd q hi
   | some e=>rw [k _ _ q];simp
  exact (h.out i (hd i hi) h1).2
theorem qJs {O:Nat→Prop} {es:Nat} {l:List (List AV)} (h:SlR es t' v l) (hb:∀ b o n c,v=.slc b o n c es→l≠[]→H b=none∧t b=none∧¬ O b):SlR es (grow H t t' O) v l:=
 h.keep (fp:=λi=>grow H t t' O i≠t' i) (λi e hi hn=>by rw [Classical.not_not.1 hn];exact hi) λb o n c e hne q=>by
  obtain ⟨a1,a2,a3⟩:=hb b o n c e hne
  exact q (qSV a1 a2 a3)
theorem qS6:∀ {i:Nat} {l:List (Nat × Nat)} {p:Nat × Nat},p∈l→∃ e∈mE i l,e.key=.int .i64 (p.1:Int)∧e.val=.ptr p.2 0
 | i,q :: l,p,h=>by
   rcases mC h with rfl | h
   ·exact ⟨_,List.mem_cons_self,rfl,rfl⟩
   ·obtain ⟨e,h1,h2⟩:=qS6 (i:=i+1) h
    exact ⟨e,mO _ h1,h2⟩
theorem qU2:∀ {i:Nat} {l:List (Nat × Nat)} {e e':AEnt},(l.map (·.1)).Nodup→e∈mE i l→e'∈mE i l→e.key=e'.key→e=e'
 | i,q :: l,e,e',hn,h,h',hk=>by
   rw [List.map_cons,List.nodup_cons] at hn
   have out:∀ {a:AEnt},a∈mE (i+1) l→a.key≠.int .i64 (q.1:Int):=fun {a} ha hq=>by
    obtain ⟨p,hp,hp1,_⟩:=qQ1 ha
    rw [hp1] at hq
    have:p.1=q.1:=by injection hq with _ h;omega
    exact hn.1 (List.mem_map.2 ⟨p,hp,this⟩)
   rcases mC h with rfl | h <;> rcases mC h' with rfl | h'
   ·rfl
   ·exact absurd hk.symm (out h')
   ·exact absurd hk (out h)
   ·exact qU2 hn.2 h h' hk
theorem qMh:∀ {l m:List Nat},l.Nodup→(∀ x∈l,x∈m)→l.length≤m.length
 | [],_,_,_=>Nat.zero_le _
 | x :: l,m,hn,h=>by
   rw [List.nodup_cons] at hn
   have hx:=h x (by simp)
   have:=qMh (l:=l) (m:=m.erase x) hn.2 λy hy=>(List.mem_erase_of_ne (λe:y=x=>hn.1 (by rw [← e];exact hy))).2 (h y (by simp [hy]))
   rw [List.length_erase_of_mem hx] at this
   have:0 < m.length:=List.length_pos_of_mem hx
   simp only [List.length_cons]
   omega
theorem qNC {r:Nat} {e:Bool × Blk} (h:t r=none):hdel (hset t r e) r=t:=by
 funext i
 unfold hdel hset
 by_cases q:i=r
 ·rw [if_pos q,q,h]
 ·rw [if_neg q,if_neg q]
structure Clr (t h:Hq) (es:List AEnt) (f mb N x:Nat) (lv ev:AV) (L:List RLk) (D:List Nat) (ws:List Wl) (Bf:Nat→List Int) (Mf:Nat→List Nat) (H:Hq) (sn:List Nat):Prop where
 ex:∃ (ws':List Wl) (Bf':Nat→List Int) (Mf':Nat→List Nat) (H':Hq),Tb h H' f mb N x lv ev L ws' Bf' Mf'∧ws'.map np=ws.map np∧(∀ i,ownW ws' i↔ownW ws i)∧Sub H H'∧(∀ i,H' i≠none→H i≠none∨t i=none)∧qAg (own f mb ws) t h∧
  (∀ n∈D,Bf' n=Bf n∧Mf' n=Mf n)∧∀ e∈es,hasN e.born sn=true→∀ n:Nat,e.key=.int .i64 (n:Int)→n ∉ D→Bf' n=Zs∧Mf' n=[]
theorem zAAP:iz []=[]:=rfl
theorem qWv {rb q:Nat} {e:AEnt} {D:List Nat} {sn:List Nat} {J:Hq→Prop} {bk:Bool × Blk} (z:Clr t s (mE 0 (ws.map np)) f mb N x lv ev L D ws Bf Mf H sn) (hq:s q=none) (hr:s rb=some (false,.cells 84 (rchL D))) (hrb:¬ own f mb ws rb) (hN:N≤32)
  (he:e∈mE 0 (ws.map np)) (hnd:(ws.map (·.1)).Nodup) (hwn:∀ p∈ws,p.1 < N)
  (hJ:∀ h,Clr t h (mE 0 (ws.map np)) f mb N x lv ev L D ws Bf Mf H (sn ++ [e.born])→h rb=some (false,.cells 84 (rchL D))→J h) :
  oK (qGE 32 1 (.ptr rb 0) e.key) λv_73=>oK (rd1 (hset s q bk) v_73) λv_74=>oK (qBd .not v_74) λv_75=>qAP v_75
   (wC TP XX 31 [e.val,.nilslc] (λ_ s_77=>J (hdel s_77 q)) (hset s q bk))
   (J (hdel (hset s q bk) q)):=by
 obtain ⟨ws',Bf',Mf',H',tb,hnp,how,hH,hHn,hk,hD,hseen⟩:=z.ex
 obtain ⟨p0,hp0,ek,ev',_⟩:=qQ1 he
 rw [← hnp] at hp0
 obtain ⟨p,hp,rfl⟩:=List.mem_map.1 hp0
 have ek:e.key=.int .i64 (p.1:Int):=ek
 have ev':e.val=.ptr p.2.1 0:=ev'
 have hp32:p.1 < 32:=by have:=tb.wn p hp;omega
 have rne:rb≠q:=λe=>by rw [e,hq] at hr;cases hr
 have hset_rb:hset s q bk rb=some (false,.cells 84 (rchL D)):=by rw [qAt rne];exact hr
 have hrd:rd1 (hset s q bk) (.ptr rb p.1)=some (.bool (decide (p.1∈D))):=by rw [qAM hset_rb,qMU hp32]
 have hnd':(ws'.map (·.1)).Nodup:=tb.wl.nd
 have seen1:∀ e'∈mE 0 (ws.map np),hasN e'.born (sn ++ [e.born])=true→hasN e'.born sn=true∨e'=e:=λe' he' hs=>by
  rw [qKz,Bool.or_eq_true] at hs
  rcases hs with h | h
  ·exact .inl h
  ·refine .inr ?_
   have hb:e'.born=e.born:=by simpa using h
   have a:=qKQ he'
   rw [hb,qKQ he] at a
   exact (Option.some.inj a).symm
 rw [ek,ev']
 simp only [qP7 hp32,hrd,qAj,qAA]
 by_cases hpD:p.1∈D
 ·simp only [hpD,decide_true,Bool.not_true,qAB]
  rw [qNC hq]
  refine hJ s ⟨ws',Bf',Mf',H',tb,hnp,how,hH,hHn,hk,hD,λe' he' hs n hn hnD=>?_⟩ hr
  rcases seen1 e' he' hs with h | h
  ·exact hseen e' he' h n hn hnD
  ·rw [h,ek] at hn
   have:p.1=n:=by injection hn with _ h;omega
   exact absurd (this ▸ hpD) hnD
 ·simp only [hpD,decide_false,Bool.not_false,qAI]
  have tb1:Tb (hset s q bk) H' f mb N x lv ev L ws' Bf' Mf':=tb.sub (qJb hq)
  have hqH:H' q=none:=by
   cases c:H' q with
   | none=>rfl
   | some b=>rw [tb.hs _ _ c] at hq;cases hq
  have qne:∀ i,own f mb ws' i→i≠q:=λi hi e=>by
   have:=tb.live hi
   rw [e,hq] at this;exact this rfl
  refine tb1.setM (l:=[]) hp (.inl ⟨rfl,zAAP⟩) .nil (λi hi=>by cases hi) (by simp) λs2 H2 mv B2 tb2 aft k2 hH2 hH2n=>?_
  have sq:hset s q bk q≠none:=by rw [qCN];simp
  have hqH2:H2 q=none:=by
   cases c:H2 q with
   | none=>rfl
   | some b=>
     rcases hH2n q (by rw [c];simp) with h | h
     ·exact absurd hqH h
     ·exact absurd h sq
  have tb3:Tb (hdel s2 q) H2 f mb N x lv ev L (setW ws' p.1 mv) (updF Bf' p.1 B2) (updF Mf' p.1 []):=by
   refine tb2.keep (fp:=λi=>i=q) (λi b hi hn=>by unfold hdel;rw [if_neg hn];exact hi) (λi hi=>?_) λi b hi=>?_
   ·refine qne i ?_
    rcases hi with h | h | h
    ·exact .inl h
    ·exact .inr (.inl h)
    ·exact .inr (.inr (qKp.1 h))
   ·unfold hdel
    rw [if_neg (λe=>by rw [e,hqH2] at hi;cases hi)]
    exact tb2.hs _ _ hi
  have hB2:B2=Zs:=by rw [aft.none rfl,qR1 (tb.wl.ln _)]
  have hown2:∀ i,ownW (setW ws' p.1 mv) i↔ownW ws i:=λi=>qKp.trans (how i)
  have k3:qAg (own f mb ws) t (hdel s2 q):=λi b hi hn=>by
   have h1:=hk i b hi hn
   have iq:i≠q:=λe=>by rw [e,hq] at h1;cases h1
   unfold hdel
   rw [if_neg iq]
   refine k2 i b (by rw [qAt iq];exact h1) λh=>hn ?_
   rcases h with h | h | h
   ·exact .inl h
   ·exact .inr (.inl h)
   ·exact .inr (.inr ((how i).1 h))
  refine hJ _ ⟨setW ws' p.1 mv,updF Bf' p.1 B2,updF Mf' p.1 [],H2,tb3,by rw [qRi];exact hnp,hown2,hH.trans hH2,λi hi=>?_,k3,λn hn=>?_,λe' he' hs n hn hnD=>?_⟩ ?_
  ·rcases hH2n i hi with h | h
   ·exact hHn i h
   ·by_cases c:H i=none
    ·refine .inr ?_
     cases c2:t i with
     | none=>rfl
     | some b=>
       by_cases c3:own f mb ws i
       ·have c4:own f mb ws' i:=by
         rcases c3 with h | h | h
         ·exact .inl h
         ·exact .inr (.inl h)
         ·exact .inr (.inr ((how i).2 h))
        exact absurd h (tb1.live c4)
       ·have c4:=hk i b c2 c3
        have c5:i≠q:=λe=>by rw [e,hq] at c4;cases c4
        rw [qAt c5,c4] at h
        cases h
    ·exact .inl c
  ·have:n≠p.1:=λe=>hpD (e ▸ hn)
   obtain ⟨a,b⟩:=hD n hn
   exact ⟨(if_neg this).trans a,(if_neg this).trans b⟩
  ·by_cases c:n=p.1
   ·subst c
    exact ⟨(if_pos rfl).trans hB2,if_pos rfl⟩
   ·rcases seen1 e' he' hs with h | h
    ·obtain ⟨a,b⟩:=hseen e' he' h n hn hnD
     exact ⟨(if_neg c).trans a,(if_neg c).trans b⟩
    ·rw [h,ek] at hn
     have:p.1=n:=by injection hn with _ h;omega
     exact absurd this.symm c
  ·unfold hdel
   rw [if_neg rne]
   refine k2 _ _ hset_rb λh=>hrb ?_
   rcases h with h | h | h
   ·exact .inl h
   ·exact .inr (.inl h)
   ·exact .inr (.inr ((how _).1 h))
theorem qOW (z:Tab r f N x L U Bf) (hrs:Sub r s) (hv:vld (N:Int) L U') (hx:x < N) (hG:L.length≤64) (hu:Sl s uv (U'.map AV.bool)) (huf:∀ b o n c,uv=.slc b o n c 1→U'.map AV.bool≠[]→b≠f)
  (hK:∀ r' s' Bf',Tab r' f N x L U' Bf'→Goes r s r' s'→(∀ n,n < N→WH.Aft (nz (lnk N (L.map toL) U' x n)) (Bf n) (Bf' n))→K (.int .i64 0) s'):wpW TP XX 8 [.ptr f 0,uv] K s:=by
 obtain ⟨H0,mb,lv,ev,R0,ws,Mf,tb0,_⟩:=z.ex
 have tb:=tb0.sub hrs
 have hN:=hv.1
 obtain ⟨_,_,hN32,_,_⟩:=vld.gok hv
 refine qFy (qDx tb.cf (by omega) ?_)
 have c3:∀ ev,(fibC (N:Int) (x:Int) lv ev mb)[3]?=some lv:=λ_=>rfl
 have c0:∀ ev,(fibC (N:Int) (x:Int) lv ev mb)[0]?=some (.int .i64 (N:Int)):=λ_=>rfl
 have c1:∀ ev,(fibC (N:Int) (x:Int) lv ev mb)[1]?=some (.int .i64 (x:Int)):=λ_=>rfl
 have eul:U'.length=L.length:=hv.2.2.2.1
 simp only [qAj,Bool.not_true,qAB,hu.len,lMY,qAJ,qAE,zA,qAM tb.cf,c3,(tb.lk.sub tb.hs).len,qAv,qAi,eul,beq_self_eq_true,Bool.true_bne,qAA]
 refine qAm tb.cf (show 4 < (fibC (N:Int) (x:Int) lv ev mb).length from by show 4 < 6;omega) rfl λs1 h1 u1=>?_
 have h1:s1 f=some (false,.cells 76 (fibC (N:Int) (x:Int) lv .nilslc mb)):=h1
 have tb1:=tb.setE u1 h1
 have hu1:Sl s1 uv (U'.map AV.bool):=hu.keep (fp:=λi=>i=f) (u1.keep rfl) huf
 refine qAS λrb s2 hrb h2 u2=>?_
 have sub2:=u2.sub hrb
 have tb2:=tb1.sub sub2
 simp only [qAM tb2.cf,c3,c0,c1,qAA]
 refine zAAm (tb2.lk.sub tb2.hs) (by omega) (hu1.sub sub2) λov s3 R en hRk=>?_
 have sub3:=en.sub
 have hRk:R.map kyE=ofP N (L.map toL) U' x N:=by
  rw [hRk]
  unfold ofEn
  rw [if_pos ⟨hv,by omega,by omega⟩,Int.toNat_natCast,Int.toNat_natCast]
 have hRn:=hRk.trans (qNe (N:=N) (G:=L.map toL) (U:=U') (x:=x))
 have hRlen:R.length=(ndL N (L.map toL) U' x).length:=by have:=congrArg List.length hRn;simpa using this
 obtain ⟨sb,kb1,kb2,acc,hrows⟩:=en.ex
 have slo:=acc.sl
 have s1none:∀ {i},s1 i=none→s i=none:=fun {i} hi=>by
  by_cases e:i=f
  ·rw [e,h1] at hi;cases hi
  ·rw [← u1 i e];exact hi
 have s2none:∀ {i},s2 i=none→s i=none∧i≠rb:=fun {i} hi=>⟨s1none (qAe sub2 hi),λe=>by rw [e,h2] at hi;cases hi⟩
 have h0none:∀ {i},s i=none→H0 i=none:=fun {i} hi=>by
  cases q:H0 i with
  | none=>rfl
  | some e=>rw [tb.hs _ _ q] at hi;cases hi
 have srb:s rb=none:=s1none hrb
 obtain ⟨H,hH⟩:∃ H:Hq,H=grow H0 s s3 (λi=>i=rb):=⟨_,rfl⟩
 have tb3:Tb s3 H f mb N x lv .nilslc L ws Bf Mf:=by
  rw [hH]
  exact (tb2.sub sub3).more qC6 (qE9 (tb2.hs.trans sub3)) λi hi=>qDb (tb.hn hi) (tb.live hi)
 have hHrb:H rb=none:=by rw [hH];exact qDg (h0none srb) rfl
 have slH:SlR 2 H ov (R.map enR):=by
  rw [hH]
  refine qJs slo λb o n c e hne=>?_
  rcases acc.2 with ⟨_,q⟩ | ⟨b',q1,q2,_⟩
  ·exact absurd q hne
  ·rw [q2] at e
   cases e
   obtain ⟨a1,a2⟩:=s2none (qAe kb1 q1)
   exact ⟨h0none a1,a1,a2⟩
 have slW:∀ y∈R,Sl H y.2.1 (iz y.2.2):=λy hy=>by
  have:Sl s3 y.2.1 (iz y.2.2):=(hrows y hy).sl.sub kb2
  rw [hH]
  refine qJQ this λb o n c e hne=>?_
  rcases hrows y hy with ⟨_,q⟩ | ⟨b',q1,q2,_⟩
  ·exact absurd q hne
  ·rw [q2] at e
   cases e
   obtain ⟨a1,a2⟩:=s2none q1
   exact ⟨h0none a1,a1,a2⟩
 have rows:∀ {k n:Nat},(ndL N (L.map toL) U' x)[k]?=some n→∃ wv,R[k]?=some (lbk n,wv,lnk N (L.map toL) U' x n):=fun {k n} hk=>by
  have:=congrArg (λl=>l[k]?) hRn
  simp only [List.getElem?_map,hk,Option.map_some] at this
  cases hR:R[k]? with
  | none=>rw [hR] at this;cases this
  | some y=>
    rw [hR] at this
    obtain ⟨a,b,c⟩:=y
    have this:some (a,c)=some (lbk n,lnk N (L.map toL) U' x n):=this
    cases this
    exact ⟨b,rfl⟩
 have hNl:=qPB (N:=N) (G:=L.map toL) (U:=U') (x:=x)
 have restQ:∀ {i},rest s r i≠none→r i=none∧rest s r i=s i:=fun {i} hi=>by
  unfold rest at hi ⊢
  by_cases c:r i=none
  ·exact ⟨c,if_pos c⟩
  ·rw [if_neg c] at hi;exact absurd rfl hi
 have start:UpG s3 (rest s r) f rb mb N L U' x lv ov R Bf 0:=by
  refine ⟨.nilslc,ws,Bf,Mf,H,tb3,hHrb,sub3 _ _ h2,⟨(λr h=>by cases h),.inl ⟨rfl,rfl⟩⟩,(λb o n c e q=>by cases q),λi e hi=>?_,λi hi=>?_,slH,slW,(λn hn=>by simp at hn),λn _=>rfl⟩
  ·obtain ⟨q1,q2⟩:=restQ (i:=i) (by rw [hi];simp)
   rw [q2] at hi
   have ne:i≠f:=λe=>tb0.live (.inl rfl) (e ▸ q1)
   exact sub3 _ _ (sub2 _ _ (by rw [u1 i ne];exact hi))
  ·obtain ⟨q1,q2⟩:=restQ hi
   have hs:s i≠none:=by rw [← q2];exact hi
   have h0:H0 i=none:=by
    cases q:H0 i with
    | none=>rfl
    | some e=>rw [tb0.hs _ _ q] at q1;cases q1
   refine ⟨by rw [hH];exact qDb h0 hs,λq=>tb0.live q q1,λe=>hs (by rw [e];exact srb),λb o n c e q=>by cases q⟩
 simp only [slo.len,lMY,qAA]
 refine ⟨λys t m=>∃ k:Nat,ys=[.int .i64 k]∧k≤R.length∧m=R.length - k∧UpG t (rest s r) f rb mb N L U' x lv ov R Bf k,⟨_,0,rfl,by omega,rfl,start⟩,?_⟩
 rintro g t m ⟨k,hy,hk,rfl,up⟩
 simp only [cI,and_true] at hy
 rw [hy]
 simp only [qFt,qAQ,qAA]
 refine qAU (λhlt=>?_) (λhge=>?_)
 ·have hlt:k < R.length:=by have:=oT hlt;omega
  obtain ⟨n,hn⟩:∃ n,(ndL N (L.map toL) U' x)[k]?=some n:=⟨_,gE (by omega)⟩
  obtain ⟨wv,hR⟩:=rows hn
  have hov:SlR 2 t ov (R.map enR):=by
   obtain ⟨ev,ws,Bf,Mf,H,tb,_,_,_,_,_,_,hov,_⟩:=up.ex
   exact hov.sub tb.hs
  obtain ⟨pb,po,e1,e2,_⟩:=hov.get (i:=k) (r:=enR (lbk n,wv,lnk N (L.map toL) U' x n)) (by rw [List.getElem?_map,hR];rfl)
  simp only [e1,e2,qAA]
  refine qWr (J:=λt'=>qCA XX (.int .i64 (k:Int)) _ _ K t') up hN32 hG hn hR λt' up'=>?_
  show qCA XX (.int .i64 (k:Int)) _ _ K t'
  simp only [qCA,qAT,qAA]
  rw [qAf (by omega) (by omega)]
  exact ⟨_,by omega,k+1,rfl,by omega,rfl,up'⟩
 ·have hge:k=R.length:=by have:=oF hge;omega
  subst hge
  obtain ⟨ev',ws2,Bf2,Mf2,H2,tq,hHr,tr,ta,hHe,hQ,hQn,hov,hrow,hsem,hsem2⟩:=up.ex
  have hk2:(ndL N (L.map toL) U' x).take R.length=ndL N (L.map toL) U' x:=by rw [hRlen,List.take_length]
  rw [hk2] at hsem hsem2 tr
  rw [List.take_length] at ta
  have c5:(fibC (N:Int) (x:Int) lv ev' mb)[5]?=some (.map mb):=rfl
  simp only [qAJ,qAE,zA,qAM tq.cf,c5,qAA]
  unfold qRu
  simp only [tq.cm]
  intro q hq
  have qm:q≠mb:=λe=>by rw [e,tq.cm] at hq;cases hq
  have wl:ws2.length≤32:=by
   have h1:∀ n∈ws2.map (·.1),n∈List.range N:=λn hn=>by
    obtain ⟨p,hp,rfl⟩:=List.mem_map.1 hn
    exact List.mem_range.2 (tq.wn p hp)
   have:=qMh tq.wl.nd h1
   rw [lMY,List.length_range] at this
   omega
  have sq:hset t q (false,.iter (some mb) ws2.length [] ws2.length) q=some (false,.iter (some mb) ws2.length [] ws2.length):=by simp [hset]
  have sm:hset t q (false,.iter (some mb) ws2.length [] ws2.length) mb=some (false,.map (mE 0 (ws2.map np)) ws2.length):=by
   rw [qAt (Ne.symm qm)]
   exact tq.cm
  refine qAW (a:=(q,some mb,ws2.length,ws2.length,mE 0 (ws2.map np))) ?_ ?_
  ·unfold qNS
   simp only [sq,sm]
   have a1:Nat.ble ws2.length ws2.length=true:=bL (Nat.le_refl _)
   have a2:qIe ws2.length (mE 0 (ws2.map np))=true:=qVV (by rw [lMY];omega)
   have a3:Nat.blt (mE 0 (ws2.map np)).length 900=true:=by rw [Nat.blt_eq,qSy,lMY];omega
   simp only [a1,a2,a3,Bool.and_self,cond_true]
  have rbown:¬ own f mb ws2 rb:=by
   rintro (e | e | e)
   ·rw [e,tq.cf] at tr;cases tr
   ·rw [e,tq.cm] at tr;cases tr
   ·rcases tq.wc e with ⟨cs,q⟩ | ⟨cs,q⟩ <;> (rw [tr] at q;cases q)
  refine ⟨λsn _ h=>Clr t h (mE 0 (ws2.map np)) f mb N x lv ev' L (ndL N (L.map toL) U' x) ws2 Bf2 Mf2 H2 sn∧h rb=some (false,.cells 84 (rchL (ndL N (L.map toL) U' x))),?_,?_⟩
  ·rw [qNC hq]
   exact ⟨⟨ws2,Bf2,Mf2,H2,tq,rfl,λ_=>Iff.rfl,.refl _,λi hi=>.inl hi,.refl _ _,λ_ _=>⟨rfl,rfl⟩,λe _ h=>by simp [hasN] at h⟩,tr⟩
  rintro sn g s31 ⟨z31,r31⟩ hq31
  simp only at hq31
  have hm31:s31 mb=some (false,.map (mE 0 (ws2.map np)) ws2.length):=by
   obtain ⟨ws',Bf',Mf',H',tb,hnp,_⟩:=z31.ex
   have:=tb.cm
   rw [hnp] at this
   rw [this,← lMY (f:=np),hnp,lMY]
  refine ⟨⟨false,hm31⟩,λe he hns=>?_,λhall=>?_⟩
  ·rw [qAI]
   have hq1:hset s31 q (true,.iter (some mb) ws2.length (sn ++ [e.born]) ws2.length) q=some (true,.iter (some mb) ws2.length (sn ++ [e.born]) ws2.length):=qCN
   have hm1:hset s31 q (true,.iter (some mb) ws2.length (sn ++ [e.born]) ws2.length) mb=some (false,.map (mE 0 (ws2.map np)) ws2.length):=by rw [qAt (Ne.symm qm)];exact hm31
   have hent:entD (hset s31 q (true,.iter (some mb) ws2.length (sn ++ [e.born]) ws2.length)) (.ptr q 0)=some (.tup [e.key,e.val]):=by
    unfold entD
    simp only [hq1,qNq,hm1,Nat.beq_refl,cond_true,qKQ he]
   have x0:qAN (.tup [e.key,e.val]) 0=some e.key:=rfl
   have x1:qAN (.tup [e.key,e.val]) 1=some e.val:=rfl
   simp only [hent,x0,x1,qAA]
   exact qWv (J:=λh=>Clr t h (mE 0 (ws2.map np)) f mb N x lv ev' L (ndL N (L.map toL) U' x) ws2 Bf2 Mf2 H2 (sn ++ [e.born])∧h rb=some (false,.cells 84 (rchL (ndL N (L.map toL) U' x)))) z31 hq31 r31 rbown hN32 he tq.wl.nd tq.wn λh z r=>⟨z,r⟩
  ·rw [qAB]
   obtain ⟨ws3,Bf3,Mf3,H3,tb4,hnp,how,hH3,hH3n,hk3,hD,hseen⟩:=z31.ex
   have hnodes:ws3.map (·.1)=ws2.map (·.1):=by rw [← qFC,← qFC (ws:=ws2),hnp]
   have eb:ev'=.nilslc∧R.map enR=[]∨∃ c,ev'=.slc c 0 (R.map enR).length none 2∧t c=some (false,.cells 85 (R.map enR).flatten):=by
    rcases ta.2 with q | ⟨c,_,q2,q3⟩
    ·exact .inl q
    ·exact .inr ⟨c,q2,q3⟩
   have off2:∀ {i},rest s r i≠none→H3 i=none∧¬ own f mb ws3 i∧s31 i=s i:=fun {i} hi=>by
    obtain ⟨q1,q2,q3,q4⟩:=hQn i hi
    obtain ⟨q5,q6⟩:=restQ hi
    have hti:t i=s i:=by
     cases c:rest s r i with
     | none=>exact absurd c hi
     | some e=>rw [hQ _ _ c,← q6,c]
    have hsi:s i≠none:=by rw [← q6];exact hi
    refine ⟨?_,?_,?_⟩
    ·cases c:H3 i with
     | none=>rfl
     | some e=>
       rcases hH3n i (by rw [c];simp) with h | h
       ·exact absurd q1 h
       ·rw [hti] at h;exact absurd h hsi
    ·rintro (h | h | h)
     ·exact q2 (.inl h)
     ·exact q2 (.inr (.inl h))
     ·exact q2 (.inr (.inr ((how i).1 h)))
    ·cases c:t i with
     | none=>rw [hti] at c;exact absurd c hsi
     | some e=>rw [hk3 i e c q2,← hti,c]
   obtain ⟨r1,hr1⟩:∃ r1:Hq,r1=λi=>if rest s r i=none then s31 i else none:=⟨_,rfl⟩
   have r1s:Sub r1 s31:=λi e hi=>by
    rw [hr1] at hi
    have hi:(if rest s r i=none then s31 i else none)=some e:=hi
    split at hi
    ·exact hi
    ·cases hi
   have r1in:∀ {i},rest s r i=none→r1 i=s31 i:=fun {i} h=>by rw [hr1];exact if_pos h
   have h3rest:∀ {i e},H3 i=some e→rest s r i=none:=fun {i e} hi=>by
    by_cases c:rest s r i=none
    ·exact c
    ·rw [(off2 c).1] at hi;cases hi
   have tb5:Tb r1 H3 f mb N x lv ev' L ws3 Bf3 Mf3:=tb4.keep (fp:=λi=>rest s r i≠none) (λi e hi hn=>by rw [r1in (Classical.not_not.1 hn)];exact hi) (λi hi hq=>(off2 hq).2.1 hi) λi e hi=>by rw [r1in (h3rest hi)];exact tb4.hs _ _ hi
   have goes:Goes r s r1 s31:=⟨r1s,λi h1 h2=>by
    have hq:rest s r i≠none:=by unfold rest;rw [if_pos h1];exact h2
    refine ⟨(off2 hq).2.2,?_⟩
    rw [hr1]
    exact if_neg hq⟩
   have hml:∀ n,n < N→n ∉ ndL N (L.map toL) U' x→lnk N (L.map toL) U' x n=[]:=λn h1 h2=>by
    by_cases c:lnk N (L.map toL) U' x n=[]
    ·exact c
    ·exact absurd (qC3.2 ⟨h1,c⟩) h2
   have zero:∀ n,n < N→n ∉ ndL N (L.map toL) U' x→Bf3 n=Zs:=λn h1 h2=>by
    by_cases c:n∈ws3.map (·.1)
    ·rw [← qFC,hnp] at c
     obtain ⟨p,hp,rfl⟩:=List.mem_map.1 c
     obtain ⟨e,he,hek,_⟩:=qS6 (i:=0) hp
     exact (hseen e he (hall e he) p.1 hek h2).1
    ·exact tb4.wl.zr n c
   have aft:∀ n,n < N→WH.Aft (nz (lnk N (L.map toL) U' x n)) (Bf n) (Bf3 n):=λn hn=>by
    by_cases c:n∈ndL N (L.map toL) U' x
    ·rw [(hD n c).1]
     exact (hsem n c).2.1
    ·rw [hml n hn c]
     have e1:Bf3 n=WH.clr [] (Bf n):=by rw [zero n hn c,qR1 (tb.wl.ln n)]
     rw [e1]
     exact ⟨λ_=>rfl,.refl,λh=>absurd rfl h,λa ha=>by cases ha⟩
   have fin:∀ (H4:Hq),Sub H3 H4→Sub H4 r1→(∀ i,own f mb ws3 i→H4 i=none)→SlR 2 H4 ev' (R.map enR)→K (.int .i64 0) s31:=λH4 k1 k2 k3 k4=>by
    refine hK r1 s31 Bf3 ⟨⟨H4,mb,lv,ev',R,ws3,Mf3,tb5.more k1 k2 k3,k4,hRk,λy hy=>((hrow y hy).sub hH3).sub k1,λn hn=>by rw [hnodes];exact (hsem n hn).1,λp hp=>?_⟩,λn hn=>qXz (aft n hn) (tb.wl.ln n)⟩ goes aft
    have hpN:=tb4.wn p hp
    by_cases c:p.1∈ndL N (L.map toL) U' x
    ·rw [(hD _ c).2]
     exact (hsem _ c).2.2
    ·rw [hml _ hpN c]
     have:np p∈ws2.map np:=by rw [← hnp];exact List.mem_map.2 ⟨p,hp,rfl⟩
     obtain ⟨e,he,hek,_⟩:=qS6 (i:=0) this
     exact (hseen e he (hall e he) p.1 hek c).2
   rcases eb with ⟨e1,e2⟩ | ⟨c,e1,e2⟩
   ·refine fin H3 (.refl _) tb5.hs (λi hi=>tb5.hn hi) ⟨ta.1,.inl ⟨e1,e2⟩⟩
   ·have cown:¬ own f mb ws2 c:=by
     rintro (h | h | h)
     ·rw [h,tq.cf] at e2;cases e2
     ·rw [h,tq.cm] at e2;cases e2
     ·rcases tq.wc h with ⟨cs,q⟩ | ⟨cs,q⟩ <;> (rw [e2] at q;cases q)
    have c31:=hk3 _ _ e2 cown
    have crest:rest s r c=none:=by
     by_cases h:rest s r c=none
     ·exact h
     ·exact absurd rfl ((hQn c h).2.2.2 _ _ _ _ _ e1)
    have hc2:H2 c=none:=hHe _ _ _ _ _ e1
    have hc3:H3 c=none:=by
     cases h:H3 c with
     | none=>rfl
     | some e=>
       rcases hH3n c (by rw [h];simp) with h | h
       ·exact absurd hc2 h
       ·rw [e2] at h;cases h
    refine fin (hset H3 c (false,.cells 85 (R.map enR).flatten)) (qJb hc3) (λi e hi=>?_) (λi hi=>?_) ?_
    ·by_cases h:i=c
     ·subst h
      rw [qCN] at hi
      cases hi
      rw [r1in crest];exact c31
     ·rw [qAt h] at hi
      exact tb5.hs _ _ hi
    ·have h:i≠c:=λe=>by
      subst e
      rcases hi with h | h | h
      ·exact cown (.inl h)
      ·exact cown (.inr (.inl h))
      ·exact cown (.inr (.inr ((how _).1 h)))
     rw [qAt h]
     exact tb5.hn hi
    ·rw [e1]
     exact SlR.mk ta.1 (qCN (s:=H3)) rfl (by simp)
end Go.AM.FB
namespace Go.AM.FB
open Go Go.Proofs
set_option maxRecDepth 100000
variable {K:AV→Hq→Prop} {s s' t H:Hq} {lv ev y:AV} {f mb N x:Nat} {d:Nat→Int} {L:List RLk}
variable {ws:List Wl} {Bf:Nat→List Int} {Mf:Nat→List Nat}
theorem qJY {l:List (Hq × Hq)} {t:Hq} {b:Nat} {x:Bool × Blk} (h:t b=some x) (hl:∀ p∈l,p.1 b≠none):cutH l t b=some x:=by
 have h1:cutH l t b≠none:=qMa (by rw [h];exact Option.some_ne_none _) λp hp h2=>hl p hp h2.1
 rw [(qF7 h1).2.2,h]
theorem qBn {s s7:Hq}:Sub s (add s s7):=λi e hi=>qAZ hi
theorem qYx {z0 z1 a b:AV} (ha:a.one=true) (hb:b.one=true):qA2 [z0,z1] [(0,1,a),(1,1,b)]=some [a,b]:=by
 simp only [qA2,qBk ha,qBk hb]
 rfl
theorem qWZ {wp bb:Nat} {t1 t2:Bool} {mv:AV} {cap:Option Nat} {B M:List Int} (hw:s wp=some (t1,.cells 120 [.slc bb 0 B.length cap 1,mv])) (hbs:s bb=some (t2,.cells 3 (WH.ints B))) (hms:WH.Sli s mv M) (hcp:∀ c,cap=some c→B.length≤c) (hp:1≤B.length∧B.length≤256) (hM:M.length≤1000)
  (hK:∀ w' bb' mv' cap' s',s w'=none→s bb'=none→Sub s s'→WH.WAt s' w' bb' mv' cap' B M→(M≠[]→∃ c n k,s c=none∧c≠w'∧c≠bb'∧mv'=.slc c 0 n k 1)→K (.ptr w' 0) s'):wC TP XX 38 [.ptr wp 0] K s:=by
 refine qH4 (WH.valid_rd hw hp.1 ?_)
 simp only [qAj,Bool.not_true,qAA,qAB,qAJ,qAE,qAM hw,zA,g0Y]
 have hb:WH.Sli s (.slc bb 0 B.length cap 1) B:=Sl.mk hbs (by simp) (by simpa using hcp)
 refine WH.Clone_in (s:=frz s) (Sl.frz hb) (by omega) λv7 s7 sub7 sl7 g7 _=>?_
 obtain ⟨c,hc0,rfl,hc⟩:=g7 (by intro e;rw [e] at hp;simp at hp)
 have hc0:=qBI.1 hc0
 have hcA:add s s7 c=some (false,.cells 3 (WH.ints B)):=by rw [qAX hc0];exact hc
 have hw7:cutH [(s,add s s7)] (add s s7) wp=some (t1,.cells 120 [.slc bb 0 B.length cap 1,mv]):=qJY (qAZ hw) λp hp=>by
  rw [List.mem_singleton] at hp;subst hp
  simp only [hw];exact Option.some_ne_none _
 simp only [qAM hw7,g0Y,g1Y,qAA]
 refine WH.Clone_in (s:=add s s7) (hms.sub qBn) (by omega) λv8 s8 sub8 sl8 g8=>?_
 have o8:=sl8.one
 refine qAW (a:=[.slc c 0 B.length none 1,v8]) (qYx rfl o8) ⟨by simp [o8],qAS λw' s9 hw' h9 u9=>?_⟩
 have hs9:Sub s s9:=qBn.trans (sub8.trans (u9.sub hw'))
 have fr:∀ {b:Nat} {t:Hq},Sub s t→t b=none→s b=none:=fun {b t} h hb=>qAe h hb
 refine hK w' c v8 none s9 (fr (qBn.trans sub8) hw') hc0 hs9 ⟨h9,(u9.sub hw') _ _ (sub8 _ _ hcA),sl8.sub (u9.sub hw'),(λc e=>by cases e),hp⟩ λhne=>?_
 obtain ⟨d,h1,h2,h3⟩:=g8 hne
 exact ⟨d,_,_,fr qBn h1,(λe=>by rw [← e,h3] at hw';cases hw'),(λe=>by rw [e,hcA] at h1;cases h1),h2⟩
theorem qUS {a:Int} {wv:AV} {l:List Nat} (h:Sl s wv (iz l)) (hl:l.length≤1000)
  (hK:∀ s' wv',Sub s s'→Sl s' wv' (iz l)→(l≠[]→∃ c n k,s c=none∧wv'=.slc c 0 n k 1)→K (.agg [.int .u32 a,wv']) s'):wC TP XX 37 [.agg [.int .u32 a,wv]] K s:=by
 have hone:=h.one
 refine qFH ⟨by simp [qAb,hone],qAS λb0 s1 hb0 h1 u1=>qAS λb2 s2 hb2 h2 u2=>?_⟩
 have sub1:=u1.sub hb0
 have sub2:=u2.sub hb2
 have h1:s1 b0=some (false,.cells 85 [.int .u32 a,wv]):=h1
 have h12:=sub2 _ _ h1
 have e1:[AV.int .u32 a,wv][1]?=some wv:=rfl
 simp only [qAE,zA,qAM h12,e1,qAA]
 refine WH.Clone_in (l:=nz l) (by show Sl s2 wv _;rw [show (nz l).map (AV.int .i64)=iz l from qB8.symm];exact (h.sub sub1).sub sub2) (by unfold nz;rw [lMY];omega) λv' s3 sub3 sl3 g3=>?_
 have h13:=sub3 _ _ h12
 have one3:=sl3.one
 refine qAm h13 (by simp) one3 λs4 h4 u4=>?_
 have h4:s4 b0=some (false,.cells 85 [.int .u32 a,v']):=h4
 have ne:b2≠b0:=λe=>by rw [e,h1] at hb2;cases hb2
 have h24:s4 b2=some (false,.cells 85 [.int .u32 0,.nilslc]):=by rw [u4 _ ne];exact sub3 _ _ h2
 refine qAW (qA7 h4 rfl) (qAl h24 rfl rfl (by simp [qAb,one3]) λs5 h5 u5=>qAW (qA7 h5 rfl) ?_)
 have hb2s:s b2=none:=qAe sub1 hb2
 have sl:Sl s3 v' (iz l):=by
  rw [qB8];exact sl3
 refine hK s5 v' (qAh (qAh ((sub1.trans sub2).trans sub3) u4 hb0) u5 hb2s) (sl.keep (fp:=λi=>i=b0∨i=b2) ((u4.keep (.inl rfl)).trans (u5.keep (.inr rfl))) λb o n c e hne q=>?_) λhne=>?_
 ·obtain ⟨d,q1,q2,q3⟩:=g3 (λq=>hne (by rw [qB8];unfold nz at q;rw [q];rfl))
  rw [q2] at e
  cases e
  rcases q with q | q
  ·rw [q,h12] at q1;cases q1
  ·rw [q,h2] at q1;cases q1
 ·obtain ⟨d,q1,q2,q3⟩:=g3 (by unfold nz;simpa using hne)
  exact ⟨d,_,_,qAe (sub1.trans sub2) q1,q2⟩
theorem Tb.addG {n wp bb:Nat} {cap:Option Nat} {mv:AV} {B:List Int} {M:List Nat} (z:Tb s H f mb N x lv ev L ws Bf Mf) (hn:n ∉ ws.map (·.1)) (hN:n < N) (hw:s wp=none) (hbb:s bb=none) (hs:Sub H s') (k:qAg (λi=>i=mb) s s')
  (h1:s' wp=some (false,.cells 120 [.slc bb 0 64 cap 1,mv])) (h2:s' bb=some (false,.cells 3 (WH.ints B))) (h3:∀ c,cap=some c→64≤c) (h4:Sl H mv (iz M)) (h5:B.length=64) (h6:∀ b∈B,0≤b∧b≤128)
  (hm:s' mb=some (false,.map (mE 0 ((ws ++ [((n,wp,bb,cap,mv):Wl)]).map np)) (ws ++ [((n,wp,bb,cap,mv):Wl)]).length)):Tb s' H f mb N x lv ev L (ws ++ [((n,wp,bb,cap,mv):Wl)]) (updF Bf n B) (updF Mf n M):=by
 have hlive:∀ {i},s i=none→∀ q∈ws,q.2.1≠i∧q.2.2.1≠i:=fun {i} hi q hq=>by
  obtain ⟨a,b,_⟩:=z.wl.at_ q hq
  exact ⟨λe=>(by rw [e,hi] at a;cases a),λe=>(by rw [e,hi] at b;cases b)⟩
 have hH:∀ {i},s i=none→H i=none:=fun {i} hi=>by
  cases q:H i with
  | none=>rfl
  | some y=>rw [z.hs _ _ q] at hi;cases hi
 have nf:=z.nf
 refine ⟨hs,z.hf,z.hm,k _ _ z.cf λq=>z.fm q.symm,hm,⟨?_,?_,?_,?_,λm=>?_,λm=>?_,λm hm'=>?_⟩,?_,z.lk⟩
 ·rw [List.map_append,List.nodup_append]
  refine ⟨z.wl.nd,by simp,?_⟩
  intro a ha b hb e
  simp only [List.map_cons,List.map_nil,List.mem_singleton] at hb
  subst hb
  subst e
  exact hn ha
 ·intro a ha b hb h
  rcases mP ha with ha | ha <;> rcases mP hb with hb | hb
  ·exact z.wl.ow a ha b hb h
  ·rw [List.mem_singleton] at hb
   subst hb
   obtain ⟨h1,_⟩:=hlive hw a ha
   obtain ⟨_,h2⟩:=hlive hbb a ha
   rcases h with h | h
   ·exact absurd h h1
   ·exact absurd h h2
  ·rw [List.mem_singleton] at ha
   subst ha
   obtain ⟨h1,_⟩:=hlive hw b hb
   obtain ⟨_,h2⟩:=hlive hbb b hb
   rcases h with h | h
   ·exact absurd h.symm h1
   ·exact absurd h.symm h2
  ·rw [List.mem_singleton] at ha hb
   rw [ha,hb]
 ·rintro i ⟨p,hp,h⟩
  rcases mP hp with hp | hp
  ·exact z.wl.hn i ⟨p,hp,h⟩
  ·rw [List.mem_singleton] at hp
   subst hp
   rcases h with rfl | rfl
   ·exact hH hw
   ·exact hH hbb
 ·intro p hp
  rcases mP hp with hp | hp
  ·have hne:p.1≠n:=λe=>hn (by rw [← e];exact List.mem_map.2 ⟨p,hp,rfl⟩)
   obtain ⟨a,b,c,e⟩:=z.wl.at_ p hp
   have e1:updF Bf n B p.1=Bf p.1:=if_neg hne
   have e2:updF Mf n M p.1=Mf p.1:=if_neg hne
   exact ⟨k _ _ a λq=>nf.2 (q ▸ ⟨p,hp,.inl rfl⟩),by rw [e1];exact k _ _ b λq=>nf.2 (q ▸ ⟨p,hp,.inr rfl⟩),c,by rw [e2];exact e⟩
  ·rw [List.mem_singleton] at hp
   subst hp
   have e1:updF Bf n B n=B:=if_pos rfl
   have e2:updF Mf n M n=M:=if_pos rfl
   refine ⟨h1,?_,h3,?_⟩
   ·show s' bb=some (false,.cells 3 (WH.ints (updF Bf n B n)))
    rw [e1];exact h2
   ·show Sl H mv (iz (updF Mf n M n))
    rw [e2];exact h4
 ·unfold updF
  split
  ·exact h5
  ·exact z.wl.ln m
 ·unfold updF
  split
  ·exact h6
  ·exact z.wl.rg m
 ·rw [List.map_append,List.mem_append] at hm'
  have e:m≠n:=λe=>hm' (.inr (by simp [e]))
  rw [show updF Bf n B m=Bf m from if_neg e]
  exact z.wl.zr m λq=>hm' (.inl q)
 ·intro p hp
  rcases mP hp with hp | hp
  ·exact z.wn p hp
  ·rw [List.mem_singleton] at hp
   subst hp
   exact hN
theorem qS4 {elem:TypeId} {b k n:Nat} {A:List AV} {c0 c1 a0 a1 yv:AV} {Z:List AV} (hb:s b=some (false,.cells elem (A ++ c0 :: c1 :: Z))) (hA:A.length=2 * k) (hk:k < n) (hy:SlR 2 s yv [[a0,a1]]) (h0:a0.one=true) (h1:a1.one=true)
  (hK:∀ s',s' b=some (false,.cells elem ((A ++ [a0,a1]) ++ Z))→Upto b s s'→K (.slc b 0 (k+1) (some n) 2) s'):appK elem 2 (.slc b 0 k (some n) 2) yv K s:=by
 refine qAW hy.rd (qAW hy.len ⟨rfl,?_⟩)
 have e0:Nat.ble (k+1) n=true:=bL hk
 simp only [List.length_singleton,e0,cond_true]
 have e1:qAu (A ++ c0 :: c1 :: Z) (k * 2) [a0,a1]=(A ++ [a0,a1]) ++ Z:=by
  unfold qAu
  have e2:k * 2=A.length:=by omega
  rw [e2,List.take_left]
  have e3:(A ++ c0 :: c1 :: Z).drop (A.length+[a0,a1].length)=Z:=by
   rw [← List.drop_drop,List.drop_left];rfl
  rw [e3]
 have e2:wrN s (.ptr b (0+k * 2)) [a0,a1]=some (hset s b (false,.cells elem ((A ++ [a0,a1]) ++ Z))):=by
  have e3:Nat.ble (k * 2+2) (A ++ c0 :: c1 :: Z).length=true:=bL (by simp;omega)
  rw [zA]
  unfold wrN
  simp only [hb,List.length_cons,List.length_nil,e3,e1,qAb,h0,h1,Bool.and_self,cond_true]
 have e3:[[a0,a1]].flatten=[a0,a1]:=rfl
 rw [e3]
 exact qAW e2 (hK _ (by simp [hset]) λi hi=>by simp [hset,hi])
end Go.AM.FB
namespace Go.AM.FB
open Go Go.Proofs
set_option maxRecDepth 100000
variable {r s t t' H:Hq} {lv lv' ev y:AV} {f f' b mb m' n N x:Nat} {L:List RLk}
variable {ws:List Wl} {Bf:Nat→List Int} {Mf:Nat→List Nat} {R:List EnV}
structure CpE (s t:Hq) (f' b n N x:Nat) (lv':AV) (L:List RLk) (mb:Nat) (R:List EnV) (k:Nat):Prop where
 ex:∃ (H:Hq) (R':List EnV),Sub s t∧Sub H t∧(∀ i,H i≠none→s i=none)∧H f'=none∧H b=none∧t f'=some (false,.cells 76 (fibC (N:Int) (x:Int) lv' (.slc b 0 k (some n) 2) mb))∧
  t b=some (false,.cells 85 ((R'.map enR).flatten ++ repl (n - k) [.int .u32 0,.nilslc]))∧R'.length=k∧R'.map kyE=(R.take k).map kyE∧(∀ y∈R',Sl H y.2.1 (iz y.2.2))∧SlR 3 H lv' (L.map rwR)
theorem qTB:∀ {R:List EnV},(R.map enR).flatten.length=2 * R.length
 | []=>rfl
 | y :: R=>by
   rw [List.map_cons,List.flatten_cons,lAp,qTB,List.length_cons]
   show 2+_=_
   omega
theorem qWx {y:EnV} {k:Nat} {J:Hq→Prop} (z:CpE s t f' b n N x lv' L mb R k) (hf:s f'=none) (hb:s b=none) (hk:R[k]?=some y) (hkn:k < n) (hy:Sl s y.2.1 (iz y.2.2)) (hl:y.2.2.length≤1000)
  (hJ:∀ t',CpE s t' f' b n N x lv' L mb R (k+1)→J t') :
  newK 85 [(.int .u32 0),.nilslc] (λb_34 s_35=>
  oK (qBo s_35 2 (.ptr b_34 0) (.agg (enR y))) λs_36=>
  oK (qAF 4 (.ptr f' 0)) λv_37=>
  oK (rd1 s_36 v_37) λv_38=>
  oK (rdN s_36 2 (.ptr b_34 0)) λv_39=>
  wC TP XX 37 [(.agg v_39)] (λv_40 s_41=>
  (∀ b,s_36 b≠none→s_36 b=none→s_41 b=none)→
  oK (qA2 (repl 1 [(.int .u32 0),.nilslc]) [(0,2,v_40)]) λc_42=>qAb c_42=true∧newK 85 c_42 (λb_43 s_44=>
  (∀ b,(add s_36 s_41) b≠none→(add s_36 s_41) b=none→s_44 b=none)→
  appK 85 2 v_38 (.slc b_43 0 1 (some 1) 2) (λv_45 s_46=>
  oK (qAF 4 (.ptr f' 0)) λv_47=>
  oK (wr1 s_46 v_47 v_45) λs_48=>J s_48) (add (add s_36 s_41) s_44)) (frz (add s_36 s_41))) (frz s_36)) t:=by
 obtain ⟨H,R',hst,hHt,hHn,hHf,hHb,tf,tb,hl',hky,hrow,hlk⟩:=z.ex
 have hyone:=hy.one
 have ally:qAb (enR y)=true:=by
  show ((AV.int .u32 y.1).one&&(y.2.1.one&&true))=true
  rw [hyone];rfl
 refine qAS λb34 t1 hb34 h1 u1=>qAl h1 rfl rfl ally λt2 h2 u2=>?_
 have st2:Sub t t2:=qAh (u1.sub hb34) u2 hb34
 have f2:=st2 _ _ tf
 have f4:(fibC (N:Int) (x:Int) lv' (.slc b 0 k (some n) 2) mb)[4]?=some (.slc b 0 k (some n) 2):=rfl
 simp only [qAE,zA,qAM f2,f4,qA7 h2 (show (enR y).length=2 from rfl),qAA]
 refine qUS (s:=frz t2) (a:=y.1) (wv:=y.2.1) (l:=y.2.2) (Sl.frz ((hy.sub hst).sub st2)) hl λs41 wv' sub41 sl41 fr41=>?_
 intro _
 have slT:=sl41.addf sub41
 have kT:Sub t2 (add t2 s41):=qFk
 have frT:∀ b o n c,wv'=.slc b o n c 1→iz y.2.2≠[]→t2 b=none:=λb o n c e hne=>by
  obtain ⟨c',n',k',q1,q2⟩:=fr41 (λq=>hne (by rw [q];rfl))
  rw [q2] at e
  cases e
  exact qBI.1 q1
 generalize add t2 s41=T at slT kT
 have all':qAb [AV.int .u32 y.1,wv']=true:=by
  have:=slT.one
  simp [qAb,this]
 refine qAW (qMS (zs:=[(.int .u32 0),.nilslc]) (c:=[.int .u32 y.1,wv']) rfl) ⟨all',newM (s:=T) (l:=[]) λb43 s44 hb43 h43 u43=>?_⟩
 generalize add T s44=T2 at h43 u43
 have k43:Sub T T2:=u43.sub hb43
 have tT2:=st2.trans (kT.trans k43)
 obtain ⟨j,hj⟩:∃ j,n - k=j+1:=⟨n - k - 1,by omega⟩
 have b2:=tT2 _ _ tb
 rw [hj] at b2
 refine qS4 (A:=(R'.map enR).flatten) (c0:=.int .u32 0) (c1:=.nilslc) (Z:=repl j [.int .u32 0,.nilslc]) b2 (by rw [qTB,hl']) hkn (SlR.mk (rows:=[[.int .u32 y.1,wv']]) (by intro r hr;rw [List.mem_singleton] at hr;subst hr;rfl) (by simpa using h43) rfl (by simp)) rfl slT.one λt3 h3 u3=>?_
 have bf:f'≠b:=λe=>by rw [e,tb] at tf;cases tf
 have f3:t3 f'=some (false,.cells 76 (fibC (N:Int) (x:Int) lv' (.slc b 0 k (some n) 2) mb)):=by rw [u3 _ bf];exact tT2 _ _ tf
 try simp only [qAE,zA,qAA]
 refine qAm f3 (show 4 < (fibC (N:Int) (x:Int) lv' (.slc b 0 k (some n) 2) mb).length from by show 4 < 6;omega) rfl λt4 h4 u4=>?_
 have h4:t4 f'=some (false,.cells 76 (fibC (N:Int) (x:Int) lv' (.slc b 0 (k+1) (some n) 2) mb)):=h4
 have kk:∀ i e,t i=some e→i≠f'→i≠b→t4 i=some e:=λi e hi h1 h2=>by rw [u4 _ h1,u3 _ h2];exact tT2 _ _ hi
 have wvt:∀ b o n c,wv'=.slc b o n c 1→iz y.2.2≠[]→t b=none:=λb o n c e hne=>qAe st2 (frT b o n c e hne)
 have hne:∀ i,H i≠none→i≠f'∧i≠b:=λi hi=>⟨λe=>hi (e ▸ hHf),λe=>hi (e ▸ hHb)⟩
 have hH4:Sub H t4:=λi e hi=>by
  obtain ⟨a1,a2⟩:=hne i (by rw [hi];simp)
  exact kk i e (hHt _ _ hi) a1 a2
 have sl4:Sl t4 wv' (iz y.2.2):=((slT.sub k43).keep (fp:=λi=>i=b) (u3.keep rfl) λc o n k e hne q=>by
  have:=wvt c o n k e hne
  rw [q,tb] at this;cases this).keep (fp:=λi=>i=f') (u4.keep rfl) λc o n k e hne q=>by
  have:=wvt c o n k e hne
  rw [q,tf] at this;cases this
 refine hJ t4 ⟨grow H t t4 (λi=>i=f'∨i=b),R' ++ [(y.1,wv',y.2.2)],λi e hi=>?_,qE9 hH4,λi hi=>?_,qDg hHf (.inl rfl),qDg hHb (.inr rfl),h4,?_,by simp [hl'],?_,λz hz=>?_,hlk.sub qC6⟩
 ·exact kk i e (hst _ _ hi) (λe=>by rw [e,hf] at hi;cases hi) (λe=>by rw [e,hb] at hi;cases hi)
 ·by_cases c:H i=none
  ·cases q:s i with
   | none=>rfl
   | some e=>exact absurd (qDb c (by rw [hst _ _ q];simp)) hi
  ·exact hHn i c
 ·rw [u4 _ (Ne.symm bf),h3,show n - (k+1)=j by omega]
  simp [enR]
 ·rw [List.map_append,hky,List.take_add_one,hk,List.map_append]
  rfl
 ·rcases mP hz with hz | hz
  ·exact (hrow z hz).sub qC6
  ·rw [List.mem_singleton] at hz
   subst hz
   refine qJQ sl4 λc o n k e hne=>?_
   have h0:=wvt c o n k e hne
   refine ⟨?_,h0,?_⟩
   ·cases q:H c with
    | none=>rfl
    | some e=>rw [hHt _ _ q] at h0;cases h0
   ·rintro (q | q)
    ·rw [q,tf] at h0;cases h0
    ·rw [q,tb] at h0;cases h0
structure CpW (s h:Hq) (es:List AEnt) (f' m' N x:Nat) (lv' ev':AV) (L:List RLk) (R':List EnV) (ws:List Wl) (Bf:Nat→List Int) (Mf:Nat→List Nat) (sn:List Nat):Prop where
 ex:∃ (wn:List Wl) (Bn:Nat→List Int) (Mn:Nat→List Nat) (H:Hq),Tb h H f' m' N x lv' ev' L wn Bn Mn∧Sub s h∧(∀ i,H i≠none∨own f' m' wn i→s i=none)∧SlR 2 H ev' (R'.map enR)∧(∀ y∈R',Sl H y.2.1 (iz y.2.2))∧
  (∀ p∈wn,Bn p.1=Bf p.1∧Mn p.1=Mf p.1∧p.1∈ws.map (·.1))∧∀ e∈es,∀ n:Nat,e.key=.int .i64 (n:Int)→(hasN e.born sn=true↔n∈wn.map (·.1))
theorem qXG {q:Nat} {e:AEnt} {ev':AV} {R':List EnV} {sn:List Nat} {J:Hq→Prop} {bk:Bool × Blk} (tb0:Tb s H f mb N x lv ev L ws Bf Mf) (z:CpW s t (mE 0 (ws.map np)) f' m' N x lv' ev' L R' ws Bf Mf sn) (hq:t q=none) (hm:∀ n,(Mf n).length≤1000)
  (he:e∈mE 0 (ws.map np)) (hns:hasN e.born sn=false)
  (hJ:∀ h,CpW s h (mE 0 (ws.map np)) f' m' N x lv' ev' L R' ws Bf Mf (sn ++ [e.born])→J h) :
  wC TP XX 38 [e.val] (λv_74 s_75=>
     (∀ b,(hset t q bk) b≠none→(hset t q bk) b=none→s_75 b=none)→
     oK (putM (add (hset t q bk) s_75) (.map m') e.key v_74) λs_76=>J (hdel s_76 q)) (frz (hset t q bk)):=by
 obtain ⟨wn,Bn,Mn,H1,tb,hst,hfr,hev,hrow,hwn,hseen⟩:=z.ex
 obtain ⟨p0,hp0,ek,ev1,_⟩:=qQ1 he
 obtain ⟨p,hp,rfl⟩:=List.mem_map.1 hp0
 have ek:e.key=.int .i64 (p.1:Int):=ek
 have ev1:e.val=.ptr p.2.1 0:=ev1
 rw [ek,ev1]
 obtain ⟨a1,a2,a3,a4⟩:=tb0.wl.at_ p hp
 have lB:=tb0.wl.ln p.1
 have kq:Sub t (hset t q bk):=qJb hq
 have hq1:hset t q bk q≠none:=by rw [qCN];simp
 have sq:s q=none:=qAe hst hq
 generalize hset t q bk=h1 at kq hq1
 have k01:=hst.trans kq
 have nin:p.1 ∉ wn.map (·.1):=λc=>by
  have:=(hseen e he p.1 ek).2 c
  rw [hns] at this;cases this
 refine qWZ (s:=frz h1) (M:=nz (Mf p.1)) (cap:=p.2.2.2.1) (mv:=p.2.2.2.2) (bb:=p.2.2.1) (B:=Bf p.1) (by rw [lB];exact qBX (k01 _ _ a1)) (qBX (k01 _ _ a2)) ?_ (by rw [lB];exact a3) (by omega) (by unfold nz;rw [lMY];exact hm _) λw' bb' mv' cap' s75 hw' hbb' sub75 wa fr75=>?_
 ·have:=Sl.frz ((a4.sub tb0.hs).sub k01)
  rw [qB8] at this
  exact this
 intro _
 have hw':=qBI.1 hw'
 have hbb':=qBI.1 hbb'
 have kT:Sub h1 (add h1 s75):=qFk
 have wT:add h1 s75 w'=some (false,.cells 120 [.slc bb' 0 64 cap' 1,mv']):=by
  rw [qAX hw']
  have:=wa.wb
  rw [lB] at this;exact this
 have bT:add h1 s75 bb'=some (false,.cells 3 (WH.ints (Bf p.1))):=by rw [qAX hbb'];exact wa.bs
 have mT:Sl (add h1 s75) mv' (iz (Mf p.1)):=by
  have:Sl s75 mv' (iz (Mf p.1)):=by rw [qB8];exact wa.ms
  exact this.addf sub75
 have mfr:∀ c o n k,mv'=.slc c o n k 1→iz (Mf p.1)≠[]→h1 c=none∧c≠w'∧c≠bb':=λc o n k e hne=>by
  obtain ⟨c',n',k',q1,q2,q3,q4⟩:=fr75 (λq=>hne (by rw [qB8];unfold nz at q;rw [q];rfl))
  rw [q4] at e
  cases e
  exact ⟨qBI.1 q1,q2,q3⟩
 have hcp:=wa.cp
 rw [lB] at hcp
 generalize add h1 s75=T at kT wT bT mT
 have ktT:=kq.trans kT
 have hmT:=ktT _ _ tb.cm
 rw [← lMY (f:=np)] at hmT
 refine mput hmT (by rw [qFC];exact nin) λs76 hm76 u76=>?_
 have mq:q≠m':=λe=>by rw [e,tb.cm] at hq;cases hq
 have wm:w'≠m':=λe=>by rw [e,kq _ _ tb.cm] at hw';cases hw'
 have bm:bb'≠m':=λe=>by rw [e,kq _ _ tb.cm] at hbb';cases hbb'
 have wq:w'≠q:=λe=>hq1 (e ▸ hw')
 have bq:bb'≠q:=λe=>hq1 (e ▸ hbb')
 have tw':t w'=none:=qAe kq hw'
 have tbb':t bb'=none:=qAe kq hbb'
 have dq:∀ {i},i≠q→hdel s76 q i=s76 i:=fun {i} h=>by unfold hdel;exact if_neg h
 have kfin:∀ i e,T i=some e→i≠m'→i≠q→hdel s76 q i=some e:=λi e hi h1 h2=>by rw [dq h2,u76 i h1];exact hi
 obtain ⟨O,hO⟩:∃ O:Nat→Prop,O=own f' m' (wn ++ [((p.1,w',bb',cap',mv'):Wl)]):=⟨_,rfl⟩
 have ownO:∀ i,O i↔own f' m' wn i∨i=w'∨i=bb':=λi=>by
  rw [hO]
  unfold own ownW
  constructor
  ·rintro (h | h | ⟨p',hp',h⟩)
   ·exact .inl (.inl h)
   ·exact .inl (.inr (.inl h))
   ·rcases mP hp' with hp' | hp'
    ·exact .inl (.inr (.inr ⟨p',hp',h⟩))
    ·rw [List.mem_singleton] at hp'
     subst hp'
     exact .inr h
  ·rintro ((h | h | ⟨p',hp',h⟩) | h)
   ·exact .inl h
   ·exact .inr (.inl h)
   ·exact .inr (.inr ⟨p',List.mem_append_left _ hp',h⟩)
   ·exact .inr (.inr ⟨_,List.mem_append_right _ (List.mem_singleton.2 rfl),h⟩)
 have hH1f:Sub H1 (hdel s76 q):=λi e hi=>by
  have h2:=tb.hs _ _ hi
  exact kfin i e (ktT _ _ h2) (λc=>by rw [c,tb.hm] at hi;cases hi) (λc=>by rw [c,hq] at h2;cases h2)
 have kmf:qAg (λi=>i=m') t (hdel s76 q):=λi e hi hn=>kfin i e (ktT _ _ hi) hn (λc=>by rw [c,hq] at hi;cases hi)
 have h1n:∀ {i},t i=none→H1 i=none:=fun {i} hi=>by
  cases c:H1 i with
  | none=>rfl
  | some e=>rw [tb.hs _ _ c] at hi;cases hi
 have H2s:Sub (grow H1 t (hdel s76 q) O) (hdel s76 q):=qE9 hH1f
 have mvfin:Sl (hdel s76 q) mv' (iz (Mf p.1)):=mT.keep (fp:=λi=>i=m'∨i=q) (λi e hi hn=>kfin i e hi (λc=>hn (.inl c)) λc=>hn (.inr c)) λc o n k e hne qq=>by
  obtain ⟨q1,_,_⟩:=mfr c o n k e hne
  rcases qq with qq | qq
  ·rw [qq,kq _ _ tb.cm] at q1;cases q1
  ·exact hq1 (qq ▸ q1)
 have mvH:Sl (grow H1 t (hdel s76 q) O) mv' (iz (Mf p.1)):=qJQ mvfin λc o n k e hne=>by
  obtain ⟨q1,q2,q3⟩:=mfr c o n k e hne
  have tc:=qAe kq q1
  refine ⟨h1n tc,tc,λh=>?_⟩
  rcases (ownO c).1 h with h | h | h
  ·exact tb.live h tc
  ·exact q2 h
  ·exact q3 h
 have fin:Tb (hdel s76 q) (grow H1 t (hdel s76 q) O) f' m' N x lv' ev' L (wn ++ [((p.1,w',bb',cap',mv'):Wl)]) (updF Bn p.1 (Bf p.1)) (updF Mn p.1 (Mf p.1)):=by
  have own':∀ i,own f' m' wn i→grow H1 t (hdel s76 q) O i=none:=λi hi=>qDg (tb.hn hi) ((ownO i).2 (.inl hi))
  have z3:Tb (add t (grow H1 t (hdel s76 q) O)) (grow H1 t (hdel s76 q) O) f' m' N x lv' ev' L wn Bn Mn:=by
   refine (tb.sub (qFk (t:=grow H1 t (hdel s76 q) O))).more qC6 (λi e hi=>?_) own'
   cases c:t i with
   | none=>rw [qAX c];exact hi
   | some e'=>
     rw [qAZ c]
     by_cases c1:H1 i=none
     ·rw [qDb c1 (by rw [c];simp)] at hi;cases hi
     ·have:grow H1 t (hdel s76 q) O i=H1 i:=by unfold grow;rw [if_neg c1]
      rw [this] at hi
      rw [tb.hs _ _ hi] at c
      exact c.symm
  have an:∀ {i},t i=none→O i→add t (grow H1 t (hdel s76 q) O) i=none:=fun {i} h1 h2=>by rw [qAX h1];exact qDg (h1n h1) h2
  refine z3.addG nin (tb0.wn p hp) (an tw' ((ownO _).2 (.inr (.inl rfl)))) (an tbb' ((ownO _).2 (.inr (.inr rfl)))) H2s (λi e hi hn=>?_) (kfin _ _ wT wm wq) (kfin _ _ bT bm bq) hcp mvH lB (tb0.wl.rg _) ?_
  ·cases c:t i with
   | none=>rw [qAX c] at hi;exact H2s _ _ hi
   | some e2=>rw [qAZ c] at hi;exact kmf i e (c.trans hi) hn
  ·rw [dq (Ne.symm mq),hm76,List.map_append,lAp,lAp,lMY]
   rfl
 refine hJ _ ⟨_,_,_,_,fin,λi e hi=>?_,λi hi=>?_,hev.sub qC6,λy hy=>(hrow y hy).sub qC6,λp' hp'=>?_,λe' he' n hn=>?_⟩
 ·refine kmf i e (hst _ _ hi) λc=>?_
  have:=hfr i (.inr (.inr (.inl c)))
  rw [hi] at this;cases this
 ·rcases hi with hi | hi
  ·by_cases c:H1 i=none
   ·cases c2:s i with
    | none=>rfl
    | some e=>exact absurd (qDb c (by rw [hst _ _ c2];simp)) hi
   ·exact hfr i (.inl c)
  ·rw [← hO] at hi
   rcases (ownO i).1 hi with h | h | h
   ·exact hfr i (.inr h)
   ·rw [h];exact qAe hst tw'
   ·rw [h];exact qAe hst tbb'
 ·rcases mP hp' with hp' | hp'
  ·have hne:p'.1≠p.1:=λe=>nin (by rw [← e];exact List.mem_map.2 ⟨p',hp',rfl⟩)
   obtain ⟨b1,b2,b3⟩:=hwn p' hp'
   exact ⟨(if_neg hne).trans b1,(if_neg hne).trans b2,b3⟩
  ·rw [List.mem_singleton] at hp'
   subst hp'
   exact ⟨if_pos rfl,if_pos rfl,List.mem_map.2 ⟨p,hp,rfl⟩⟩
 ·rw [qKz,Bool.or_eq_true,hseen e' he' n hn,List.map_append,List.mem_append]
  have:Nat.beq e'.born e.born=true↔n=p.1:=by
   constructor
   ·intro c
    have c:=bE c
    have a:=qKQ he'
    rw [c,qKQ he] at a
    cases a
    rw [ek] at hn
    injection hn with _ h
    omega
   ·intro c
    subst c
    have:=qU2 (i:=0) (l:=ws.map np) (by rw [qFC];exact tb0.wl.nd) he' he (by rw [hn,ek])
    rw [this];simp
  simp only [List.map_cons,List.map_nil,List.mem_singleton]
  first | rw [this] | (simp only [beq_iff_eq];exact or_congr Iff.rfl (by simpa using this)) | simpa using this
end Go.AM.FB
namespace Go.AM.FB
open Go Go.Proofs
set_option maxRecDepth 100000
variable {K:AV→Hq→Prop} {r r' s s' t t' H:Hq} {lv lv' ev y:AV} {f f' b mb m' n N x:Nat} {G:List Lnk} {U:List Bool} {L:List RLk}
variable {ws:List Wl} {Bf:Nat→List Int} {Mf:Nat→List Nat} {R:List EnV}
theorem qLG {U:List Bool} (h:R.map kyE=ofP N G U x N) {y:EnV} (hy:y∈R):y.2.2.length≤G.length:=by
 obtain ⟨n,hn,h1,h2⟩:=FibR.row h hy
 rw [h2];exact qIE
theorem qYE (z:Tab r f N x L U Bf) (hrs:Sub r s) (hN0:1≤N) (hN:N≤32) (hG:L.length≤64)
  (hK:∀ r' s' f',Tab r' f' N x L U Bf→Sub s s'→Sub r' s'→(∀ i,r' i≠none→s i=none)→K (.ptr f' 0) s'):wpW TP XX 14 [.ptr f 0] K s:=by
 obtain ⟨H0,mb,lv,ev,R,ws,Mf,tb0,hev,hRk,hrow,hnd,hMf⟩:=z.ex
 have tb:=tb0.sub hrs
 have hH0s:=tb.hs
 refine qLQ (qDx tb.cf (by omega) ?_)
 have evone:ev.one=true:=hev.one
 have lvone:lv.one=true:=tb.lk.one
 have hRl:R.length≤32:=by
  have:=congrArg List.length hRk
  rw [lMY] at this
  have:=qHz (N:=N) (G:=L.map toL) (U:=U) (x:=x) (k:=N)
  omega
 have allF:∀ {lv ev:AV} {mb:Nat},lv.one=true→ev.one=true→qAb (fibC (N:Int) (x:Int) lv ev mb)=true:=fun {lv ev mb} h1 h2=>by
  show ((AV.int .i64 (N:Int)).one&&((AV.int .i64 (x:Int)).one&&((AV.int .u32 _).one&&(lv.one&&(ev.one&&((AV.map mb).one&&true))))))=true
  rw [h1,h2];rfl
 simp only [qAj,Bool.not_true,qAB,qAJ,qA7 tb.cf (show (fibC (N:Int) (x:Int) lv ev mb).length=6 from rfl),qAA]
 refine qAS λf' s6 hf' h6 u6=>qAl h6 rfl rfl (allF lvone evone) λs7 h7 u7=>?_
 have h7:s7 f'=some (false,.cells 76 (fibC (N:Int) (x:Int) lv ev mb)):=h7
 have sub7:Sub s s7:=qAh (u6.sub hf') u7 hf'
 have c3:∀ lv ev mb,(fibC (N:Int) (x:Int) lv ev mb)[3]?=some lv:=λ_ _ _=>rfl
 have c4:∀ lv ev mb,(fibC (N:Int) (x:Int) lv ev mb)[4]?=some ev:=λ_ _ _=>rfl
 have c5:∀ lv ev mb,(fibC (N:Int) (x:Int) lv ev mb)[5]?=some (.map mb):=λ_ _ _=>rfl
 simp only [qAE,zA,qAM (sub7 _ _ tb.cf),c3,qAA]
 refine qM5 ((tb.lk.sub hH0s).sub sub7) (by rw [lMY];omega) λlv' s12 sub12 hl12 fr12=>?_
 refine qAm (sub12 _ _ h7) (show 3 < (fibC (N:Int) (x:Int) lv ev mb).length from by show 3 < 6;omega) hl12.one λs14 h14 u14=>?_
 have h14:s14 f'=some (false,.cells 76 (fibC (N:Int) (x:Int) lv' ev mb)):=h14
 have sub14:Sub s s14:=qAh (sub7.trans sub12) u14 hf'
 have s7none:∀ {i},s7 i=none→s i=none∧i≠f':=fun {i} h=>⟨qAe sub7 h,λe=>by rw [e,h7] at h;cases h⟩
 have hl14:SlR 3 s14 lv' (L.map rwR):=hl12.keep (fp:=λi=>i=f') (u14.keep rfl) λb o n c e hne=>(s7none (fr12 b o n c e hne)).2
 have z0:nat? (.int .i64 0)=some 0:=nat?_mk (n:=0)
 have evl:=(hev.sub hH0s).len
 simp only [qAM (sub14 _ _ tb.cf),c4,evl,lMY,z0,nat?_mk,qAA]
 refine ⟨⟨Nat.zero_le _,by omega⟩,qAS λb22 s23 hb22 h23 u23=>?_⟩
 have sub23:=u23.sub hb22
 refine qAm (sub23 _ _ h14) (show 4 < (fibC (N:Int) (x:Int) lv' ev mb).length from by show 4 < 6;omega) rfl λs25 h25 u25=>?_
 have h25:s25 f'=some (false,.cells 76 (fibC (N:Int) (x:Int) lv' (.slc b22 0 0 (some R.length) 2) mb)):=h25
 have sub25:Sub s s25:=qAh (sub14.trans sub23) u25 hf'
 have hb22s:s b22=none:=qAe sub14 hb22
 have bf:b22≠f':=λe=>by rw [e,h14] at hb22;cases hb22
 have b25:s25 b22=some (false,.cells 85 (repl R.length [.int .u32 0,.nilslc])):=by rw [u25 _ bf];exact h23
 have hl25:SlR 3 s25 lv' (L.map rwR):=(hl14.sub sub23).keep (fp:=λi=>i=f') (u25.keep rfl) λb o n c e hne=>(s7none (fr12 b o n c e hne)).2
 have start:CpE s s25 f' b22 R.length N x lv' L mb R 0:=by
  refine ⟨grow (λ_=>none) s s25 (λi=>i=f'∨i=b22),[],sub25,qE9 (λi e hi=>by cases hi),λi hi=>?_,qDg rfl (.inl rfl),qDg rfl (.inr rfl),h25,b25,rfl,rfl,(λy hy=>by cases hy),qJs hl25 λb o n c e hne=>?_⟩
  ·cases q:s i with
   | none=>rfl
   | some e=>exact absurd (qDb rfl (by rw [q];simp)) hi
  ·have h0:=fr12 b o n c e hne
   obtain ⟨q1,q2⟩:=s7none h0
   refine ⟨rfl,q1,?_⟩
   rintro (q | q)
   ·exact q2 q
   ·rw [q] at e
    have:=hl12.was b o n c (by rw [q];exact e) hne
    rw [q] at this
    have h14n:s14 b22≠none:=by
     rw [u14 _ bf];exact this
    exact h14n hb22
 simp only [qAM (sub25 _ _ tb.cf),c4,evl,lMY,qAA]
 refine ⟨λys t m=>∃ k:Nat,ys=[.int .i64 k]∧k≤R.length∧m=R.length - k∧CpE s t f' b22 R.length N x lv' L mb R k,⟨_,0,rfl,by omega,rfl,start⟩,?_⟩
 rintro g t m ⟨k,hy,hk,rfl,cp⟩
 simp only [cI,and_true] at hy
 rw [hy]
 have hst:Sub s t:=by obtain ⟨H,R',h,_⟩:=cp.ex;exact h
 simp only [qGs,qAQ,qAA]
 refine qAU (λhlt=>?_) (λhge=>?_)
 ·have hlt:k < R.length:=by have:=oT hlt;omega
  have hy:R[k]?=some R[k]:=gE hlt
  have hm:=List.getElem_mem hlt
  generalize R[k]=y at hy hm
  obtain ⟨pb,po,e1,e2,_⟩:=((hev.sub hH0s).sub hst).get (i:=k) (r:=enR y) (by rw [List.getElem?_map,hy];rfl)
  simp only [e1,e2,qAA]
  refine qWx (J:=λt'=>oK (qAG .add (.int .i64 (k:Int)) (.int .i64 1)) λv_49=>∃ m',m' < R.length - k∧∃ k:Nat,[v_49]=[.int .i64 (k:Int)]∧k≤R.length∧m'=R.length - k∧CpE s t' f' b22 R.length N x lv' L mb R k) cp hf' hb22s hy hlt ((hrow y hm).sub hH0s) (Nat.le_trans (qLG hRk hm) (by rw [lMY];omega)) λt' cp'=>?_
  simp only [qAT,qAA]
  rw [qAf (by omega) (by omega)]
  exact ⟨_,by omega,k+1,rfl,by omega,rfl,cp'⟩
 ·have hge:k=R.length:=by have:=oF hge;omega
  subst hge
  obtain ⟨H,R',_,hHt,hHn,hHf,hHb,tf,tb2,hl',hky,hrow',hlk⟩:=cp.ex
  rw [List.take_length] at hky
  rw [Nat.sub_self] at tb2
  have tb2:t b22=some (false,.cells 85 (R'.map enR).flatten):=by
   rw [show repl 0 [AV.int .u32 0,.nilslc]=[] from rfl,List.append_nil] at tb2;exact tb2
  have elen:lenM t (.map mb)=some ws.length:=by
   unfold lenM
   simp only [hst _ _ tb.cm,qSy,lMY]
  simp only [qAJ,qAE,zA,qAM (hst _ _ tb.cf),c5,elen,qAA]
  unfold intK mapK
  intro m' hm'
  have sub56:Sub t (hset t m' (false,.map [] 0)):=qJb hm'
  have h56:hset t m' (false,.map [] 0) m'=some (false,.map [] 0):=qCN
  generalize hset t m' (false,.map [] 0)=s56 at sub56 h56
  refine qAm (sub56 _ _ tf) (show 5 < (fibC (N:Int) (x:Int) lv' (.slc b22 0 R.length (some R.length) 2) mb).length from by show 5 < 6;omega) rfl λs58 h58 u58=>?_
  have h58:s58 f'=some (false,.cells 76 (fibC (N:Int) (x:Int) lv' (.slc b22 0 R.length (some R.length) 2) m')):=h58
  have hf't:f'≠m':=λe=>by rw [e,hm'] at tf;cases tf
  have m58:s58 m'=some (false,.map [] 0):=by rw [u58 _ (Ne.symm hf't)];exact h56
  have sub58:Sub s s58:=qAh (hst.trans sub56) u58 hf'
  have hm's:s m'=none:=qAe hst hm'
  have k58:∀ i e,t i=some e→i≠f'→s58 i=some e:=λi e hi h=>by rw [u58 _ h];exact sub56 _ _ hi
  have b58:s58 b22=some (false,.cells 85 (R'.map enR).flatten):=k58 _ _ tb2 bf
  have hHm:H m'=none:=by
   cases q:H m' with
   | none=>rfl
   | some e=>rw [hHt _ _ q] at hm';cases hm'
  obtain ⟨H1,hH1⟩:∃ H1:Hq,H1=hset H b22 (false,.cells 85 (R'.map enR).flatten):=⟨_,rfl⟩
  have kH1:Sub H H1:=by rw [hH1];exact qJb hHb
  have H1at:∀ {i},i≠b22→H1 i=H i:=fun {i} h=>by rw [hH1];exact qAt h
  have H1b:H1 b22=some (false,.cells 85 (R'.map enR).flatten):=by rw [hH1];exact qCN
  have hb22m:m'≠b22:=λe=>by rw [e,tb2] at hm';cases hm'
  have H1s:Sub H1 s58:=λi e hi=>by
   by_cases c:i=b22
   ·subst c;rw [H1b] at hi;cases hi;exact b58
   ·rw [H1at c] at hi
    exact k58 _ _ (hHt _ _ hi) (λq=>by rw [q,hHf] at hi;cases hi)
  have hrows2:∀ r∈R'.map enR,r.length=2:=λr hr=>by
   obtain ⟨y,_,rfl⟩:=List.mem_map.1 hr
   rfl
  have hev1:SlR 2 H1 (.slc b22 0 R.length (some R.length) 2) (R'.map enR):=SlR.mk hrows2 H1b (by rw [lMY,hl']) (λc hc=>by cases hc;rw [lMY,hl'];exact Nat.le_refl _)
  have tbN:Tb s58 H1 f' m' N x lv' (.slc b22 0 R.length (some R.length) 2) L [] (λ_=>Zs) Mf:=by
   refine ⟨H1s,by rw [H1at (Ne.symm bf)];exact hHf,by rw [H1at hb22m];exact hHm,h58,m58,⟨.nil,(λp hp=>by cases hp),(λi hi=>by obtain ⟨p,hp,_⟩:=hi;cases hp),(λp hp=>by cases hp),λ_=>by unfold Zs;simp,λ_ b hb=>?_,λ_ _=>rfl⟩,(λp hp=>by cases hp),hlk.sub kH1⟩
   have:=List.eq_of_mem_replicate hb
   omega
  have f58:=sub58 _ _ tb.cf
  have mb58:=sub58 _ _ tb.cm
  simp only [qAM f58,c5,qAA]
  unfold qRu
  simp only [mb58]
  intro q hq
  have qm:q≠mb:=λe=>by rw [e,mb58] at hq;cases hq
  have wl:ws.length≤32:=by
   have h1:∀ n∈ws.map (·.1),n∈List.range N:=λn hn=>by
    obtain ⟨p,hp,rfl⟩:=List.mem_map.1 hn
    exact List.mem_range.2 (tb.wn p hp)
   have:=qMh tb.wl.nd h1
   rw [lMY,List.length_range] at this
   omega
  have sq:hset s58 q (false,.iter (some mb) ws.length [] ws.length) q=some (false,.iter (some mb) ws.length [] ws.length):=by simp [hset]
  have sm:hset s58 q (false,.iter (some mb) ws.length [] ws.length) mb=some (false,.map (mE 0 (ws.map np)) ws.length):=by
   rw [qAt (Ne.symm qm)]
   exact mb58
  refine qAW (a:=(q,some mb,ws.length,ws.length,mE 0 (ws.map np))) ?_ ?_
  ·unfold qNS
   simp only [sq,sm]
   have a1:Nat.ble ws.length ws.length=true:=bL (Nat.le_refl _)
   have a2:qIe ws.length (mE 0 (ws.map np))=true:=qVV (by rw [lMY];omega)
   have a3:Nat.blt (mE 0 (ws.map np)).length 900=true:=by rw [Nat.blt_eq,qSy,lMY];omega
   simp only [a1,a2,a3,Bool.and_self,cond_true]
  have hMl:∀ p∈ws,(Mf p.1).length≤1000:=λp hp=>by
   rw [hMf p hp]
   exact Nat.le_trans qIE (by rw [lMY];omega)
  obtain ⟨Mc,hMc1,hMc2⟩:∃ Mc:Nat→List Nat,(∀ p∈ws,Mc p.1=Mf p.1)∧∀ n,(Mc n).length≤1000:=by
   refine ⟨λn=>if n∈ws.map (·.1) then Mf n else [],λp hp=>if_pos (List.mem_map.2 ⟨p,hp,rfl⟩),λn=>?_⟩
   show (if n∈ws.map (·.1) then Mf n else []).length≤1000
   split
   ·rename_i h
    obtain ⟨p,hp,rfl⟩:=List.mem_map.1 h
    exact hMl p hp
   ·simp
  have tbc:Tb s H0 f mb N x lv ev L ws Bf Mc:=⟨tb.hs,tb.hf,tb.hm,tb.cf,tb.cm,⟨tb.wl.nd,tb.wl.ow,tb.wl.hn,λp hp=>by rw [hMc1 p hp];exact tb.wl.at_ p hp,tb.wl.ln,tb.wl.rg,tb.wl.zr⟩,tb.wn,tb.lk⟩
  refine ⟨λsn _ h=>CpW s h (mE 0 (ws.map np)) f' m' N x lv' (.slc b22 0 R.length (some R.length) 2) L R' ws Bf Mc sn,?_,?_⟩
  ·rw [qNC hq]
   refine ⟨[],λ_=>Zs,Mf,H1,tbN,sub58,λi hi=>?_,hev1,λy hy=>(hrow' y hy).sub kH1,(λp hp=>by cases hp),λe _ n _=>(by simp [hasN])⟩
   rcases hi with hi | hi
   ·by_cases c:i=b22
    ·rw [c];exact hb22s
    ·rw [H1at c] at hi
     exact hHn i hi
   ·rcases hi with hi | hi | ⟨p,hp,_⟩
    ·rw [hi];exact hf'
    ·rw [hi];exact hm's
    ·cases hp
  rintro sn g s31 z31 hq31
  simp only at hq31
  have hs31:Sub s s31:=by obtain ⟨wn,Bn,Mn,H,_,h,_⟩:=z31.ex;exact h
  have hm31:s31 mb=some (false,.map (mE 0 (ws.map np)) ws.length):=hs31 _ _ tb.cm
  refine ⟨⟨false,hm31⟩,λe he hns=>?_,λhall=>?_⟩
  ·rw [qAI]
   have hq1:hset s31 q (true,.iter (some mb) ws.length (sn ++ [e.born]) ws.length) q=some (true,.iter (some mb) ws.length (sn ++ [e.born]) ws.length):=qCN
   have hm1:hset s31 q (true,.iter (some mb) ws.length (sn ++ [e.born]) ws.length) mb=some (false,.map (mE 0 (ws.map np)) ws.length):=by rw [qAt (Ne.symm qm)];exact hm31
   have hent:entD (hset s31 q (true,.iter (some mb) ws.length (sn ++ [e.born]) ws.length)) (.ptr q 0)=some (.tup [e.key,e.val]):=by
    unfold entD
    simp only [hq1,qNq,hm1,Nat.beq_refl,cond_true,qKQ he]
   have x0:qAN (.tup [e.key,e.val]) 0=some e.key:=rfl
   have x1:qAN (.tup [e.key,e.val]) 1=some e.val:=rfl
   have f31:s31 f'=some (false,.cells 76 (fibC (N:Int) (x:Int) lv' (.slc b22 0 R.length (some R.length) 2) m')):=by obtain ⟨wn,Bn,Mn,H,h,_⟩:=z31.ex;exact h.cf
   have fq:f'≠q:=λe=>by rw [e,hq31] at f31;cases f31
   have f1:hset s31 q (true,.iter (some mb) ws.length (sn ++ [e.born]) ws.length) f'=some (false,.cells 76 (fibC (N:Int) (x:Int) lv' (.slc b22 0 R.length (some R.length) 2) m')):=by rw [qAt fq];exact f31
   simp only [hent,x0,x1,qAM f1,c5,qAA]
   exact qXG (J:=λh=>CpW s h (mE 0 (ws.map np)) f' m' N x lv' (.slc b22 0 R.length (some R.length) 2) L R' ws Bf Mc (sn ++ [e.born])) tbc z31 hq31 hMc2 he hns λh z=>z
  ·rw [qAB]
   obtain ⟨wn,Bn,Mn,H,tb3,_,hfr,hev3,hrow3,hwn,hseen⟩:=z31.ex
   have hnodes:∀ n,n∈ws.map (·.1)→n∈wn.map (·.1):=λn hn=>by
    rw [← qFC] at hn
    obtain ⟨p,hp,rfl⟩:=List.mem_map.1 hn
    obtain ⟨e,he,hek,_⟩:=qS6 (i:=0) hp
    exact (hseen e he p.1 hek).1 (hall e he)
   have hB:Bn=Bf:=by
    funext n
    by_cases c:n∈wn.map (·.1)
    ·obtain ⟨p,hp,rfl⟩:=List.mem_map.1 c
     exact (hwn p hp).1
    ·rw [tb3.wl.zr n c,tb.wl.zr n λq=>c (hnodes n q)]
   subst hB
   obtain ⟨r2,hr2⟩:∃ r2:Hq,r2=λi=>if s i=none then s31 i else none:=⟨_,rfl⟩
   have r2in:∀ {i},s i=none→r2 i=s31 i:=fun {i} h=>by rw [hr2];exact if_pos h
   have r2s:Sub r2 s31:=λi e hi=>by
    rw [hr2] at hi
    have hi:(if s i=none then s31 i else none)=some e:=hi
    split at hi
    ·exact hi
    ·cases hi
   have tb4:Tb r2 H f' m' N x lv' (.slc b22 0 R.length (some R.length) 2) L wn Bn Mn:=tb3.keep (fp:=λi=>s i≠none) (λi e hi hn=>by rw [r2in (Classical.not_not.1 hn)];exact hi) (λi hi hq=>hq (hfr i (.inr hi))) λi e hi=>by rw [r2in (hfr i (.inl (by rw [hi];simp)))];exact tb3.hs _ _ hi
   refine hK r2 s31 f' ⟨⟨H,m',lv',_,R',wn,Mn,tb4,hev3,hky.trans hRk,hrow3,λn hn=>hnodes n (hnd n hn),λp hp=>?_⟩,z.el⟩ hs31 r2s λi hi=>?_
   ·obtain ⟨_,b2,b3⟩:=hwn p hp
    obtain ⟨p',hp',e⟩:=List.mem_map.1 b3
    rw [b2,← e,hMc1 p' hp',hMf p' hp']
   ·cases c:s i with
    | none=>rfl
    | some e=>
      rw [hr2] at hi
      exact absurd (if_neg (by rw [c];simp)) hi
end Go.AM.FB
namespace Go.AM.FB
open Go Go.Proofs
set_option maxRecDepth 100000
variable {r:Hq} {b N:Nat} {G:List Lnk} {U:List Bool} {Bf Bf':Nat→List Int}
theorem qZI {n:Nat} (h:∀ i,U.getD i false=false):edL G U n=[]:=by
 unfold edL
 rw [List.filterMap_eq_nil_iff]
 intro i _
 rw [h i];rfl
theorem zAAA {k i:Nat}:(List.replicate k false).getD i false=false:=by
 rw [List.getD_eq_getElem?_getD,List.getElem?_replicate]
 split <;> rfl
theorem qQ9 {k x n:Nat}:lnk N G (List.replicate k false) x n=[]:=by
 unfold lnk nrL qIS
 rw [qZI (λi=>zAAA)];rfl
theorem qRT {k x:Nat}:ndL N G (List.replicate k false) x=[]:=by
 cases q:ndL N G (List.replicate k false) x with
 | nil=>rfl
 | cons a l=>exact absurd qQ9 (qC3.1 (by rw [q];exact List.mem_cons_self)).2
theorem qSb:Zs.length=64:=by unfold Zs;simp
theorem qXj:∀ b∈Zs,b=0:=λb hb=>List.eq_of_mem_replicate hb
theorem qYF {l:List Nat} (h:l.Pairwise (· < ·)) (hb:∀ i∈l,i < 128):WH.Asc (nz l):=⟨by
  unfold nz
  rw [List.pairwise_map]
  exact h.imp λh=>by omega,λz hz=>by
  obtain ⟨i,hi,rfl⟩:=List.mem_map.1 hz
  have:=hb i hi
  omega⟩
theorem FwdT.shape {x:Nat} {q ttl h:Int} {cs:List AV} {r:AV} (a:FwdT N G U x q ttl Bf h cs r) (hl:cs.length=21) (ho:qAb cs=true):∃ lk pk e,r=.tup [.int .i64 lk,.agg pk,.int .i64 e]∧pk.length=21∧qAb pk=true∧(e=0→∃ m∈ndL N G U x,q=lbk m∧q≠lbk x∧lk=hopI Bf m h):=by
 cases a with
 | at_ _=>exact ⟨_,_,_,rfl,rfl,rfl,λh=>by omega⟩
 | time _ _=>exact ⟨_,_,_,rfl,rfl,rfl,λh=>by omega⟩
 | down _ _ _=>exact ⟨_,_,_,rfl,rfl,rfl,λh=>by omega⟩
 | go m h1 h2 h3 h4=>exact ⟨_,_,_,rfl,by simp [hl],qJm rfl ho,λ_=>⟨m,h3,h4,h1,rfl⟩⟩
theorem FwdT.congr {x:Nat} {q ttl h:Int} {cs:List AV} {r:AV} (a:FwdT N G U x q ttl Bf h cs r) (hB:∀ n∈ndL N G U x,Bf' n=Bf n):FwdT N G U x q ttl Bf' h cs r:=by
 cases a with
 | at_ h1=>exact .at_ h1
 | time h1 h2=>exact .time h1 h2
 | down h1 h2 h3=>exact .down h1 h2 h3
 | go m h1 h2 h3 h4=>
   have:hopI Bf m h=hopI Bf' m h:=by unfold hopI;rw [hB m h3]
   rw [this]
   exact .go m h1 h2 h3 h4
end Go.AM.FB
