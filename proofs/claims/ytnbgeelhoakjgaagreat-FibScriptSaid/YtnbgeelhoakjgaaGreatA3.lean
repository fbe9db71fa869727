/- Part A3 of a calculus over a small memory that is proved to answer as the program does, and of its use for the functions that the law reaches: see the last part. -/
import Derived.Test.YtnbgeelhoakjgaaGreatA2
import Derived.OrdersIn
import Derived.RangeFuncCalls
import Derived.RangeFuncLeaves
import Derived.RangeFuncNested
import Derived.LoopNIn
import Derived.Maps.RangeRun
import Derived.RecoverIn
import Derived.ProofKit
import Derived.OpenShut
set_option linter.unusedVariables false
namespace Go.AM
open Go Go.RowKit
section
variable {P:Program} {σ:Nat→Value} {ρ:Ren} {base:Nat} {H H':AH} {w:World}
theorem zABT {t:TypeId} {x v:AV} {x':Value} {ty:TypeId} (h:lenA P t x H=some (v,H')) (hx:Rel σ ρ x x') (hwr:WR σ ρ base H w) (ts:List TypeId) :
  Okay σ ρ base H H' w (λρ' v'=>Rel σ ρ' v v') ((Builtin.len_ (t :: ts).toArray ty #[x']).run P w):=by
 unfold lenA at h
 generalize hu:P.underlying t=d at h
 split at h
 ·rename_i s
  cases qAK h
  unfold Rel at hx;subst hx
  exact .same (b:=goInt s.size) (by simp [Builtin.len_,run_underlying hu]) hwr rfl rfl (by unfold Rel;rfl)
 ·rename_i n e
  cases qAK h
  exact .same (b:=goInt n) (by simp [Builtin.len_,run_underlying hu]) hwr rfl rfl (by unfold Rel;rfl)
 ·rename_i e b o n c es
  cases qAK h
  unfold Rel at hx
  obtain ⟨L,off,cc,_,rfl,_⟩:=hx
  exact .same (b:=goInt n) (by simp [Builtin.len_,run_underlying hu]) hwr rfl rfl (by unfold Rel;rfl)
 ·rename_i e
  cases qAK h
  unfold Rel at hx;subst hx
  exact .same (b:=goInt 0) (by simp [Builtin.len_,run_underlying hu]) hwr rfl rfl (by unfold Rel;rfl)
 ·cases qAK h
  unfold Rel at hx;subst hx
  exact .same (b:=goInt 0) (by simp [Builtin.len_,run_underlying hu]) hwr rfl rfl (by unfold Rel;rfl)
 ·rename_i kt et b
  obtain ⟨blk,K1,g1,g2⟩:=qAR h
  obtain ⟨hb,e1,e2,e3⟩:=qCL g1
  split at g2
  ·rename_i es clock
   rw [qA6] at g2
   cases qAK g2
   unfold Rel at hx
   obtain ⟨L,hL,rfl⟩:=hx
   obtain ⟨L',hL',es',q1,q2⟩:=hwr.blk _ _ hb
   rw [hL] at hL';cases hL'
   have hl:es'.size=es.length:=by have:=q2.len;simpa using this
   exact .same (b:=goInt es'.size) (by simp [Builtin.len_,run_underlying hu,getObj,Sem.run,q1]) hwr e1 e2 (by unfold Rel;rw [hl];rfl)
  ·exact (qAD g2).elim
 ·exact (qAD h).elim
theorem qOO {b:ABlk} {id:Nat} {o:Obj} (h:nw b H=some (id,H')) (hwr:WR σ ρ base H w) (hf:Free ρ H.next H'.next) (hb:∀ ρ',Le ρ ρ'→BR σ ρ' True ⟨w.heap.size,0,0⟩ b (some o)) :
  ∃ ρ',Ext ρ ρ' H.next H'.next∧WR σ ρ' base H' (w.alloc o)∧Below base w (w.alloc o)∧ρ' id=some ⟨w.heap.size,0,0⟩:=by
 obtain ⟨rfl,hlo,hk,hkl,hkn⟩:=qLY h
 obtain ⟨ρ',x1,x2,x3,x4⟩:=hwr.new (L:=⟨w.heap.size,0,0⟩) (b:=b) (hf H.next (Nat.le_refl _) (by omega)) (λj bj Lj hj hLj=>Nat.ne_of_lt (qNk hwr hj hLj)) hwr.base
  (qMf w o) (λρ' hle _=>hb ρ' hle) hk hkl hkn
 exact ⟨ρ',x1,x3,x4,x2⟩
theorem qX4 {t:TypeId} {x v:AV} {x':Value} (h:qMy P t x H=some (v,H')) (hx:Rel σ ρ x x') (hwr:WR σ ρ base H w) (hf:Free ρ H.next H'.next) :
  Okay σ ρ base H H' w (λρ' v'=>Rel σ ρ' v v') ((Instr.range t x').run P w):=by
 unfold qMy at h
 generalize hu:P.underlying t=d at h
 split at h
 ·rename_i kt et
  unfold Rel at hx;subst hx
  obtain ⟨id,K,h1,h2⟩:=qAR h
  cases qAK h2
  have:=qOO (o:=.mapIter none 0 #[] 0) h1 hwr hf (λρ' _=>⟨rfl,none,rfl,rfl⟩)
  obtain ⟨ρ',p1,p2,p3,p4⟩:=this
  exact ⟨.pointer (some ⟨w.heap.size,0,none⟩),_,ρ',by simp [Instr.range,run_underlying hu,newObj,Sem.run],p1,p2,p3,by unfold Rel;exact ⟨_,p4,rfl⟩⟩
 ·rename_i kt et b
  unfold Rel at hx
  obtain ⟨L,hL,rfl⟩:=hx
  obtain ⟨blk,K1,g1,g2⟩:=qAR h
  obtain ⟨hb,e1,e2,e3⟩:=qCL g1
  split at g2
  ·rename_i es clock
   obtain ⟨id,K,h1,h2⟩:=qAR g2
   cases qAK h2
   obtain ⟨L',hL',es',q1,q2⟩:=hwr.blk _ _ hb
   rw [hL] at hL';cases hL'
   have:=qOO (o:=.mapIter (some L.blk) clock #[] clock) h1 (hwr.log e1 e2) (by rw [e3];exact hf) (λρ' hle=>⟨rfl,some L.blk,⟨L,hle _ _ hL,rfl⟩,rfl⟩)
   obtain ⟨ρ',p1,p2,p3,p4⟩:=this
   exact ⟨.pointer (some ⟨w.heap.size,0,none⟩),_,ρ',by simp [Instr.range,run_underlying hu,getObj,Sem.run,q1,newObj,Sem.run],by rw [← e3];exact p1,p2,p3,by unfold Rel;exact ⟨_,p4,rfl⟩⟩
  ·exact (qAD g2).elim
 ·exact (qAD h).elim
theorem qMD {n:Nat} {e:AEnt}:∀ {es:List AEnt} {es':List MapEntry},EsRel σ ρ es es'→qGq n es=some e→∃ e',es'.find? (·.born == n)=some e'∧ERel σ ρ e e'
 | [],_,_,h=>by cases h
 | a :: es,es',hr,h=>by
   cases es' with
   | nil=>have:=hr.len;simp at this
   | cons a' es'=>
     have ha:=hr.at_ 0 a a' rfl rfl
     have ht:EsRel σ ρ es es':=⟨by have:=hr.len;simpa using this,λi x y hx hy=>hr.at_ (i+1) x y (by simpa using hx) (by simpa using hy)⟩
     unfold qGq at h
     cases hb:Nat.beq a.born n with
     | true=>
       simp only [hb,cond_true] at h
       cases h
       have:=bE hb
       exact ⟨a',by simp [List.find?,ha.born,this],ha⟩
     | false=>
       simp only [hb,cond_false] at h
       obtain ⟨e',h1,h2⟩:=qMD ht h
       have:¬ a.born=n:=λe=>by subst e;simp at hb
       exact ⟨e',by have hf:(a.born == n)=false:=by simpa using this
                    simp [List.find?,ha.born,hf,h1],h2⟩
theorem qS7:∀ l:List Nat,qQN l=l.getLast?
 | []=>rfl
 | [_]=>rfl
 | _ :: b :: l=>by unfold qQN;rw [qS7 (b :: l)];simp [List.getLast?_cons_cons]
theorem qXt {x v:AV} {x':Value} (h:qNr x H=some (v,H')) (hx:Rel σ ρ x x') (hwr:WR σ ρ base H w) :
  Okay σ ρ base H H' w (λρ' v'=>Rel σ ρ' v v') ((Instr.entry x').run P w):=by
 unfold qNr at h
 split at h
 ·rename_i r
  unfold Rel at hx
  obtain ⟨L,hL,rfl⟩:=hx
  obtain ⟨blk,K1,g1,g2⟩:=qAR h
  obtain ⟨hb,e1,e2,e3⟩:=qCL g1
  cases blk with
  | iter m since seen stepped=>
    cases m with
    | none=>exact (qAD g2).elim
    | some m=>
      simp only at g2
      generalize hst:qQN seen=ls at g2
      cases ls with
      | none=>exact (qAD g2).elim
      | some stamp=>
        obtain ⟨blk2,K2,g3,g4⟩:=qAR g2
        obtain ⟨hb2,f1,f2,f3⟩:=qCL g3
        cases blk2 with
        | map es clock=>
          obtain ⟨hc,g5⟩:=qAy g4
          have hc:=bE hc
          subst hc
          generalize he:qGq stamp es=r1 at g5
          cases r1 with
          | none=>exact (qAD g5).elim
          | some e=>
            cases qAK g5
            obtain ⟨L',hL',hsh,M,q1,q2⟩:=hwr.blk _ _ hb
            rw [hL] at hL';cases hL'
            obtain ⟨D,q3,rfl⟩:=q1
            rw [e1] at hb2
            obtain ⟨D',hD',es',q4,q5⟩:=hwr.blk _ _ hb2
            rw [q3] at hD';cases hD'
            obtain ⟨e',q6,q7⟩:=qMD q5 he
            rw [qS7] at hst
            have q6':es'.find? (·.born == stamp)=some e':=by rw [← Array.find?_toList];exact q6
            have hback:seen.toArray.back?=some stamp:=by simp [hst]
            exact .same (b:=.tuple #[e'.key,e'.val]) (by
             simp only [Instr.entry,hsh,Nat.add_zero,getObj,Sem.run_bind,Sem.run,q2,q4,Result.andThen,hback,q6',bne_self_eq_false,Bool.false_eq_true,if_false]
             rfl) hwr (by rw [f1,e1]) (by rw [f2,e2]) (by
              unfold Rel;exact ⟨_,rfl,.cons q7.key (.cons q7.val .nil)⟩)
        | _=>exact (qAD g4).elim
  | _=>exact (qAD g2).elim
 ·exact (qAD h).elim
theorem qGA:Rel σ ρ .undef (.tuple #[]):=qKl
theorem qXP {t:TypeId} {x v:AV} {x':Value} {ty:TypeId} (h:qLw P t x H=some (v,H')) (hx:Rel σ ρ x x') (hσ:One σ) (hwr:WR σ ρ base H w) (ts:List TypeId) :
  Okay σ ρ base H H' w (λρ' v'=>Rel σ ρ' v v') ((Builtin.clear_ (t :: ts).toArray ty #[x']).run P w):=by
 unfold qLw at h
 generalize hu:P.underlying t=d at h
 split at h
 ·rename_i e
  cases qAK h
  unfold Rel at hx;subst hx
  exact .same (b:=.tuple #[]) (by simp [Builtin.clear_,run_underlying hu]) hwr rfl rfl qGA
 ·rename_i elem b o n c es
  cases hz:zeros P elem n with
  | none=>simp only [hz] at h;exact (qAD h).elim
  | some p=>
    obtain ⟨cs,es'⟩:=p
    simp only [hz] at h
    have hcs:=qAy h
    clear h
    obtain ⟨he,h⟩:=hcs
    have he:=bE he
    subst he
    unfold Rel at hx
    obtain ⟨L,a,cc,hL,rfl,hoff,hlc,_⟩:=hx
    split at h
    ·cases qAK h
     exact .same (b:=.tuple #[]) (by simp [Builtin.clear_,run_underlying hu]) hwr rfl rfl qGA
    ·rename_i m
     obtain ⟨_,K,h1,h2⟩:=qAR h
     cases qAK h2
     obtain ⟨i,z,zz⟩:=qHQ (σ:=σ) (ρ:=ρ) hz hσ
     obtain ⟨rfl,hoc⟩:a=⟨L.blk,L.sh+o,none⟩∧L.sh+o+cc * es≤L.sz:=by rcases hoff with h | h;exact h;omega
     obtain ⟨n1,l1,w',s1,s2,s3⟩:=qFB (P:=P) h1 hσ hwr hL zz.rel
     refine ⟨.tuple #[],w',ρ,?_,.refl _ _ _,s2,s3,qGA⟩
     have hzc:Builtin.zeroCells z.cells (m+1)=(qKn (m+1) z.cells.toList).toArray:=qPa z.cells (m+1)
     simp [Builtin.clear_,run_underlying hu,zeroValue,typeInfo,zz.info,zz.zero,hzc,s1]
 ·exact (qAD h).elim
theorem qYv {l:List AV} {x v:AV} {l':List Value} {x':Value} (h:qKU min2A x l=some v) (hx:Rel σ ρ x x') (hl:RelL σ ρ l l') (w:World) :
  ∃ v',(l'.foldlM Builtin.min2 x').run P w=.ok v' w∧Rel σ ρ v v':=by
 induction l generalizing x x' l' with
 | nil=>unfold RelL at hl;subst hl;cases h;exact ⟨x',by simp,hx⟩
 | cons y ys ih=>
   unfold RelL at hl
   obtain ⟨y',ys',rfl,hy,hys⟩:=hl
   simp only [qKU] at h
   split at h
   ·rename_i z hz
    unfold min2A at hz
    split at hz
    ·rename_i k a k' b
     obtain ⟨hk,hz'⟩:=qAY hz
     clear hz
     have hk:=qLZ hk
     subst hk
     simp only [Option.some.injEq] at hz'
     subst hz'
     unfold Rel at hx hy;subst hx;subst hy
     obtain ⟨v',e,r⟩:=ih (x':=.int k (if b < a then b else a)) h (by unfold Rel;rw [qIZ];by_cases hab:b < a <;> simp [hab]) hys
     exact ⟨v',by simp only [List.foldlM_cons,Builtin.min2,Sem.run_bind,Sem.run_pure,Result.andThen_ok];exact e,r⟩
    ·cases hz
   ·cases h
theorem qZF {l:List AV} {x v:AV} {l':List Value} {x':Value} (h:qKU max2A x l=some v) (hx:Rel σ ρ x x') (hl:RelL σ ρ l l') (w:World) :
  ∃ v',(l'.foldlM Builtin.max2 x').run P w=.ok v' w∧Rel σ ρ v v':=by
 induction l generalizing x x' l' with
 | nil=>unfold RelL at hl;subst hl;cases h;exact ⟨x',by simp,hx⟩
 | cons y ys ih=>
   unfold RelL at hl
   obtain ⟨y',ys',rfl,hy,hys⟩:=hl
   simp only [qKU] at h
   split at h
   ·rename_i z hz
    unfold max2A at hz
    split at hz
    ·rename_i k a k' b
     obtain ⟨hk,hz'⟩:=qAY hz
     clear hz
     have hk:=qLZ hk
     subst hk
     simp only [Option.some.injEq] at hz'
     subst hz'
     unfold Rel at hx hy;subst hx;subst hy
     obtain ⟨v',e,r⟩:=ih (x':=.int k (if a < b then b else a)) h (by unfold Rel;rw [qIZ];by_cases hab:a < b <;> simp [hab]) hys
     exact ⟨v',by simp only [List.foldlM_cons,Builtin.max2,Sem.run_bind,Sem.run_pure,Result.andThen_ok];exact e,r⟩
    ·cases hz
   ·cases h
theorem qVM {t:TypeId} {x v:AV} {lo hi mx:Option AV} {x':Value} {lo' hi' mx':Option Value} (h:qGk P t x lo hi mx H=some (v,H')) (hx:Rel σ ρ x x')
  (hlo:ORel σ ρ lo lo') (hhi:ORel σ ρ hi hi') (hmx:ORel σ ρ mx mx') (hwr:WR σ ρ base H w) :
  Okay σ ρ base H H' w (λρ' v'=>Rel σ ρ' v v') ((Instr.sliceAt t x' lo' hi' mx').run P w):=by
 unfold qGk at h
 generalize hu:P.underlying t=d at h
 split at h
 ·rename_i n elem b o
  cases hs:sz P elem with
  | none=>simp only [hs] at h;exact (qAD h).elim
  | some es=>
    simp only [hs] at h
    obtain ⟨blk,K,h1,h2⟩:=qAR h
    obtain ⟨hb,e1,e2,e3⟩:=qCL h1
    cases blk with
    | cells e c N=>
      obtain ⟨hle,h3⟩:=qAy h2
      obtain ⟨v',hv,he⟩:=qCl h3
      cases he
      have hle:o+n * es≤N:=by simpa [Nat.ble_eq] using hle
      obtain ⟨r,p1,p2⟩:=qQ0 (P:=P) hv hx hlo hhi hmx w (λn' elem' b' o' L es' q1 q2 q3 q4=>by
       cases q2
       rw [hu] at q1;cases q1
       rw [hs] at q4;cases q4
       obtain ⟨L',hL',cc,fr,r1,r2,r3,r4,r5⟩:=hwr.blk b _ hb
       rw [q3] at hL';cases hL'
       omega)
      exact .same p1 hwr e1 e2 p2
    | _=>exact (qAD h2).elim
 ·rename_i hno
  obtain ⟨v',hv,he⟩:=qCl h
  cases he
  obtain ⟨r,p1,p2⟩:=qQ0 (P:=P) hv hx hlo hhi hmx w (λn' elem' b' o' L es' q1 q2 q3 q4=>absurd q2 (λe=>hno _ _ _ _ (by rw [← hu,q1]) e))
  exact .same p1 hwr rfl rfl p2
inductive PlRel (σ:Nat→Value) (ρ:Ren):APl→Place→Prop
 | val {v v'} (h:Rel σ ρ v v'):PlRel σ ρ (.val v) (.val v')
 | var {b o:Nat} {L:Loc} (h:ρ b=some L):PlRel σ ρ (.var b o) (.var ⟨L.blk,L.sh+o,none⟩)
structure Same (H H':AH):Prop where
 blks:H'.blks=H.blks
 lo:H'.lo=H.lo
 next:H'.next=H.next
theorem Same.refl (H:AH):Same H H:=⟨rfl,rfl,rfl⟩
theorem Same.trans {a b c:AH} (h:Same a b) (k:Same b c):Same a c:=⟨k.blks.trans h.blks,k.lo.trans h.lo,k.next.trans h.next⟩
theorem qST {t:TypeId} {x:APl} {x':Place} {v:AV} (h:x.get P t H=some (v,H')) (hx:PlRel σ ρ x x') (hwr:WR σ ρ base H w):Same H H'∧∃ v',(x'.get t).run P w=.ok v' w∧Rel σ ρ v v':=by
 cases hx with
 | val hv=>cases qAK h;exact ⟨.refl _,_,rfl,hv⟩
 | var hL=>
   obtain ⟨e1,e2,e3,v',e,r⟩:=qMd (P:=P) h hwr hL
   exact ⟨⟨e1,e2,e3⟩,v',e,r⟩
theorem qY1 {s:FieldStep} {x:APl} {t:TypeId} {p:TypeId × APl} {x':Place} (h:qUh P s x t H=some (p,H')) (hx:PlRel σ ρ x x') (hwr:WR σ ρ base H w) :
  Same H H'∧∃ y',PlRel σ ρ p.2 y'∧∀ rest,(follow (s :: rest) t x').run P w=(follow rest p.1 y').run P w:=by
 unfold qUh at h
 generalize hu:P.underlying s.struct=d at h
 split at h
 ·rename_i fields
  generalize hf:fields[s.index]?=f at h
  split at h
  ·rename_i f
   generalize hs:sz P f.type=nn at h
   split at h
   ·rename_i n
    cases hd:s.deref with
    | true=>
      simp only [hd,cond_true] at h
      obtain ⟨v,K,h1,h2⟩:=qAR h
      obtain ⟨sm,v',e,r⟩:=qST (P:=P) h1 hx hwr
      split at h2
      ·rename_i b o
       cases qAK h2
       unfold Rel at r
       obtain ⟨L,hL,rfl⟩:=r
       refine ⟨sm,.var ⟨L.blk,L.sh+o+f.offset,none⟩,by rw [Nat.add_assoc];exact .var hL,λrest=>?_⟩
       simp [follow,run_underlying hu,hf,hd,e,asAddr,fieldPlace,qDk hs,qDK]
      ·exact (qAD h2).elim
    | false=>
      simp only [hd,cond_false] at h
      cases hx with
      | var hL=>
        rename_i b o L
        cases qAK h
        refine ⟨.refl _,.var ⟨L.blk,L.sh+o+f.offset,none⟩,by rw [Nat.add_assoc];exact .var hL,λrest=>?_⟩
        simp [follow,run_underlying hu,hf,hd,fieldPlace,qDk hs,qDK]
      | val hv=>
        rename_i v v'
        cases v with
        | agg cs=>
          simp only at h
          unfold Rel at hv
          obtain ⟨cs',rfl,hv⟩:=hv
          generalize hy:qGh P f.type cs f.offset=yy at h
          cases yy with
          | some y=>
            cases qAK h
            obtain ⟨y',e,r⟩:=qF3 hy hv w
            refine ⟨.refl _,.val y',.val r,λrest=>?_⟩
            simp [follow,run_underlying hu,hf,hd,e]
          | none=>exact (qAD h).elim
        | _=>exact (qAD h).elim
   ·exact (qAD h).elim
  ·exact (qAD h).elim
 ·exact (qAD h).elim
theorem qP4:∀ (l:List FieldStep) {x:APl} {t:TypeId} {p:TypeId × APl} {x':Place} {H H':AH},qO7 P l t x H=some (p,H')→PlRel σ ρ x x'→WR σ ρ base H w→
  Same H H'∧∃ y',PlRel σ ρ p.2 y'∧(follow l t x').run P w=.ok (p.1,y') w
 | [],x,t,p,x',H,H',h,hx,hwr=>by cases qAK h;exact ⟨.refl _,x',hx,by simp [follow]⟩
 | s :: l,x,t,p,x',H,H',h,hx,hwr=>by
   obtain ⟨q,K,h1,h2⟩:=qAR h
   obtain ⟨sm,y',r,e⟩:=qY1 (P:=P) h1 hx hwr
   obtain ⟨sm2,z',r2,e2⟩:=qP4 l h2 r (hwr.log sm.blks sm.lo)
   exact ⟨sm.trans sm2,z',r2,(e l).trans e2⟩
theorem qQ7 {xt:TypeId} {x:APl} {pr:Bool} {v:AV} {x':Place} {wr_:Option String} (h:qJf P xt x pr H=some (v,H')) (hx:PlRel σ ρ x x') (hwr:WR σ ρ base H w) :
  Same H H'∧∃ v',(receiverAt xt x' pr wr_).run P w=.ok v' w∧Rel σ ρ v v':=by
 unfold qJf at h
 generalize hu:P.underlying xt=du at h
 split at h
 ·rename_i elem
  cases pr with
  | true=>
    simp only [cond_true] at h
    obtain ⟨sm,v',e,r⟩:=qST (P:=P) h hx hwr
    exact ⟨sm,v',by simp [receiverAt,run_underlying hu,e],r⟩
  | false=>
    simp only [cond_false] at h
    obtain ⟨p,K,h1,h2⟩:=qAR h
    obtain ⟨sm,v',e,r⟩:=qST (P:=P) h1 hx hwr
    split at h2
    ·rename_i b o
     unfold Rel at r
     obtain ⟨L,hL,rfl⟩:=r
     obtain ⟨e1,e2,e3,v',e',r'⟩:=qMd (P:=P) h2 (hwr.log sm.blks sm.lo) hL
     refine ⟨sm.trans ⟨e1,e2,e3⟩,v',?_,r'⟩
     have hchk:∀ name:String,Builtin.ssaWrapNilChk_ #[xt] xt #[.pointer (some ⟨L.blk,L.sh+o,none⟩),strVal "",strVal name]=pure (.pointer (some ⟨L.blk,L.sh+o,none⟩)):=λ_=>rfl
     cases wr_ <;> simp [receiverAt,run_underlying hu,e,hchk,asAddr,e']
    ·exact (qAD h2).elim
 ·rename_i d hnp
  have hd:∀ e,d≠.pointer e:=λe he=>hnp e (by rw [he])
  cases pr with
  | true=>
    simp only [cond_true] at h
    cases hx with
    | val hv=>exact (qAD h).elim
    | var hL=>
      cases qAK h
      refine ⟨.refl _,_,?_,by unfold Rel;exact ⟨_,hL,rfl⟩⟩
      simp only [receiverAt,Sem.run_bind,run_underlying hu,Result.andThen_ok]
      cases d <;> first | exact absurd rfl (hd _) | rfl
  | false=>
    simp only [cond_false] at h
    obtain ⟨sm,v',e,r⟩:=qST (P:=P) h hx hwr
    refine ⟨sm,v',?_,r⟩
    simp only [receiverAt,Sem.run_bind,run_underlying hu,Result.andThen_ok]
    cases d <;> first | exact absurd rfl (hd _) | exact e
 ·exact (qAD h).elim
theorem qUg {t:TypeId} {x:AV} {name:String} {p:FuncId × AV} {x':Value} (h:qBq P t x name H=some (p,H')) (hx:Rel σ ρ x x') (hwr:WR σ ρ base H w) (n:Nat) :
  Same H H'∧∃ r',(method (n+1) t x' name).run P w=.ok (p.1,r') w∧Rel σ ρ p.2 r':=by
 unfold qBq at h
 generalize hi:P.info? t=ii at h
 split at h
 ·rename_i i
  generalize hm:i.methods.find? (·.name == name)=mm at h
  split at h
  ·rename_i m
   generalize hf:m.func=ff at h
   split at h
   ·rename_i f pr
    obtain ⟨q,K,h1,h2⟩:=qAR h
    obtain ⟨r,K2,h3,h4⟩:=qAR h2
    cases qAK h4
    obtain ⟨sm,y',r1,e1⟩:=qP4 (P:=P) m.path.toList h1 (.val hx) hwr
    obtain ⟨sm2,v',e2,r2⟩:=qQ7 (P:=P) (wr_:=if m.path.isEmpty then some ((name.splitOn ".").getLastD name) else none) h3 r1 (hwr.log sm.blks sm.lo)
    refine ⟨sm.trans sm2,v',?_,r2⟩
    simp only [method,Sem.run_bind,qXU hi,Result.andThen_ok,hm,e1,hf,e2,Sem.run_pure]
   ·exact (qAD h).elim
  ·exact (qAD h).elim
 ·exact (qAD h).elim
theorem qHg {b clock:Nat} {es:Array MapEntry} (hb:w.heap[b]?=some (.map es clock)):(getObj b).run P w=.ok (.map es clock) w:=by simp [getObj,Sem.run,hb]
theorem EsRel.cons {e:AEnt} {es:List AEnt} {l:List MapEntry} (h:EsRel σ ρ (e :: es) l):∃ e' es',l=e' :: es'∧ERel σ ρ e e'∧EsRel σ ρ es es':=by
 cases l with
 | nil=>have:=h.len;simp at this
 | cons e' es'=>exact ⟨e',es',rfl,h.at_ 0 _ _ rfl rfl,by have:=h.len;simpa using this,λi a b ha hb=>h.at_ (i+1) a b ha hb⟩
theorem EsRel.nil {l:List MapEntry} (h:EsRel σ ρ [] l):l=[]:=List.eq_nil_of_length_eq_zero h.len
theorem qSg {x y:ByteArray} (h:(x == y)=true):x=y:=by
 cases x with
 | mk a=>
   cases y with
   | mk b=>
     have:(a == b)=true:=h
     rw [eq_of_beq this]
theorem qOY (x:ByteArray):(x == x)=true:=by
 cases x with
 | mk a=>show (a == a)=true;exact beq_self_eq_true a
theorem qQF {kd:TypeDesc} {a b:AV} {a' b':Value} {r:Bool} (h:qPy kd a b=some r) (ha:Rel σ ρ a a') (hb:Rel σ ρ b b'):Instr.sameNow kd a' b'=some r∧(r=true→a'=b'∧∀ n,Instr.sameBits n b' a'=true):=by
 unfold qPy at h
 split at h
 ·split at h
  ·obtain ⟨hk,h⟩:=qAY h
   have hk:=qLZ hk
   cases h
   unfold Rel at ha hb
   subst ha;subst hb;subst hk
   refine ⟨by simp [Instr.sameNow,qGn],λe=>?_⟩
   rw [qGn] at e
   have:=eq_of_beq e
   subst this
   exact ⟨rfl,λn=>by cases n <;> simp [Instr.sameBits]⟩
  ·cases h
 ·split at h
  ·cases h
   unfold Rel at ha hb
   subst ha;subst hb
   refine ⟨rfl,λe=>?_⟩
   have:=qSg e
   subst this
   exact ⟨rfl,λn=>by cases n <;> simp [Instr.sameBits,qOY]⟩
  ·cases h
 ·split at h
  ·cases h
   unfold Rel at ha hb
   subst ha;subst hb
   refine ⟨rfl,λe=>?_⟩
   have:=eq_of_beq e
   subst this
   exact ⟨rfl,λn=>by cases n <;> simp [Instr.sameBits]⟩
  ·cases h
 ·cases h
theorem Rel.agg {cs:List AV} {v:Value} (h:Rel σ ρ (.agg cs) v):∃ cs',v=.agg cs'∧RelL σ ρ cs cs'.toList:=by unfold Rel at h;exact h
theorem qQi:∀ (n:Nat) {a b:AV} {a' b':Value},qTU n a b=true→Rel σ ρ a a'→Rel σ ρ b b'→∀ m,n≤m→Instr.sameBits m b' a'=true
 | 0,a,b,_,_,h,_,_,_,_=>by cases a <;> cases b <;> cases h
 | n+1,a,b,a',b',h,ha,hb,m,hm=>by
   obtain ⟨m,rfl⟩:∃ k,m=k+1:=⟨m - 1,by omega⟩
   unfold qTU at h
   split at h
   ·unfold Rel at ha hb;subst ha;subst hb
    have:=eq_of_beq h;subst this
    simp [Instr.sameBits]
   ·unfold Rel at ha hb;subst ha;subst hb
    obtain ⟨h1,h2⟩:=Bool.and_eq_true_iff.1 h
    have:=qLZ h1;subst this
    rw [qGn] at h2
    have:=eq_of_beq h2;subst this
    simp [Instr.sameBits]
   ·unfold Rel at ha hb;subst ha;subst hb
    have:=qSg h;subst this
    simp [Instr.sameBits,qOY]
   ·rename_i _ _ _ n' xs ys q4
    cases q4
    obtain ⟨xs',rfl,hx⟩:=ha.agg
    obtain ⟨ys',rfl,hy⟩:=hb.agg
    have key:∀ (xs ys:List AV) (xs' ys':List Value),qW4 (qTU n) xs ys=true→RelL σ ρ xs xs'→RelL σ ρ ys ys'→ys'.length=xs'.length∧(ys'.zip xs').all (λ(x,y)=>Instr.sameBits m x y)=true:=by
     intro xs
     induction xs with
     | nil=>
       intro ys xs' ys' h hx hy
       cases ys with
       | cons=>cases h
       | nil=>unfold RelL at hx hy;subst hx;subst hy;exact ⟨rfl,rfl⟩
     | cons x xs ih=>
       intro ys xs' ys' h hx hy
       cases ys with
       | nil=>cases h
       | cons y ys=>
         unfold qW4 at h
         obtain ⟨h1,h2⟩:=Bool.and_eq_true_iff.1 h
         unfold RelL at hx hy
         obtain ⟨x',xs2,rfl,hx1,hx2⟩:=hx
         obtain ⟨y',ys2,rfl,hy1,hy2⟩:=hy
         obtain ⟨e1,e2⟩:=ih _ _ _ h2 hx2 hy2
         exact ⟨by simp [e1],by simp only [List.zip_cons_cons,List.all_cons,e2,Bool.and_true];exact qQi n h1 hx1 hy1 m (by omega)⟩
    obtain ⟨e1,e2⟩:=key xs ys _ _ h hx hy
    simp only [Instr.sameBits]
    rw [Bool.and_eq_true_iff]
    exact ⟨by simpa using e1,e2⟩
   ·cases h
theorem qSD {kd:TypeDesc} {kt:TypeId} {k:AV} {k':Value} (hnd:aggD kd=false) (hk:Rel σ ρ k k'):∀ (es:List AEnt) (es':List MapEntry) (i:Nat) (r:Option (Nat × AV)),qJC P kt kd k es i=some r→EsRel σ ρ es es'→
  (r=none∧Instr.findNow kd k' es' i=some none)∨∃ j v v' e',r=some (i+j,v)∧Instr.findNow kd k' es' i=some (some (i+j,v'))∧Rel σ ρ v v'∧es'[j]?=some e'∧Instr.sameBits 10000 e'.key k'=true:=by
 intro es
 induction es with
 | nil=>
   intro es' i r h hr
   cases h
   rw [hr.nil]
   exact .inl ⟨rfl,rfl⟩
 | cons e es ih=>
   intro es' i r h hr
   obtain ⟨e',es2,rfl,he,hr⟩:=hr.cons
   simp only [qJC,qSe,hnd] at h
   split at h
   ·rename_i q
    cases h
    obtain ⟨q1,q2⟩:=qQF q hk he.key
    exact .inr ⟨0,e.val,e'.val,e',rfl,by simp [Instr.findNow,q1],he.val,rfl,(q2 rfl).2 _⟩
   ·rename_i q
    obtain ⟨q1,_⟩:=qQF q hk he.key
    rcases ih es2 (i+1) r h hr with ⟨h1,h2⟩ | ⟨j,v,v',e2,h1,h2,h3,h4,h5⟩
    ·exact .inl ⟨h1,by simp [Instr.findNow,q1,h2]⟩
    ·have:i+1+j=i+(j+1):=by omega
     rw [this] at h1 h2
     exact .inr ⟨j+1,v,v',e2,h1,by simp [Instr.findNow,q1,h2],h3,h4,h5⟩
   ·cases h
theorem qOA {kd:TypeDesc} {kt:TypeId} {k:AV} {k':Value} (hnd:aggD kd=true) (hk:Rel σ ρ k k') (w:World):∀ (es:List AEnt) (es':List MapEntry) (i:Nat) (r:Option (Nat × AV)),qJC P kt kd k es i=some r→EsRel σ ρ es es'→
  (r=none∧(Instr.findAsking kt k' es' i).run P w=.ok none w)∨∃ j v v' e',r=some (i+j,v)∧(Instr.findAsking kt k' es' i).run P w=.ok (some (i+j,v')) w∧Rel σ ρ v v'∧es'[j]?=some e'∧Instr.sameBits 10000 e'.key k'=true:=by
 intro es
 induction es with
 | nil=>
   intro es' i r h hr
   cases h
   rw [hr.nil]
   exact .inl ⟨rfl,by simp [Instr.findAsking]⟩
 | cons e es ih=>
   intro es' i r h hr
   obtain ⟨e',es2,rfl,he,hr⟩:=hr.cons
   simp only [qJC,qSe,hnd] at h
   cases q:aEq P 30 kt k e.key with
   | none=>simp only [q] at h;cases h
   | some b=>
     have e1:(Op.equal kt k' e'.key).run P w=.ok b w:=qUZ 30 kt k e.key b k' e'.key q hk he.key 10000 (by decide) w
     cases b with
     | true=>
       simp only [q] at h
       cases q2:qTU 10 k e.key with
       | false=>simp only [q2,cond_false] at h;cases h
       | true=>
         simp only [q2,cond_true] at h
         cases h
         refine .inr ⟨0,e.val,e'.val,e',rfl,?_,he.val,rfl,qQi 10 q2 hk he.key 10000 (by decide)⟩
         unfold Instr.findAsking
         simp [e1]
     | false=>
       simp only [q] at h
       rcases ih es2 (i+1) r h hr with ⟨h1,h2⟩ | ⟨j,v,v',e2,h1,h2,h3,h4,h5⟩
       ·refine .inl ⟨h1,?_⟩
        unfold Instr.findAsking
        simp [e1,h2]
       ·have:i+1+j=i+(j+1):=by omega
        rw [this] at h1 h2
        refine .inr ⟨j+1,v,v',e2,h1,?_,h3,h4,h5⟩
        unfold Instr.findAsking
        simp [e1,h2]
theorem qNh {kd:TypeDesc} {kt:TypeId} (hu:P.underlying kt=some kd) {k:AV} {k':Value} (hk:Rel σ ρ k k') (w:World) (es:List AEnt) (es':List MapEntry) (r:Option (Nat × AV)) (h:qJC P kt kd k es 0=some r) (hr:EsRel σ ρ es es') :
  (r=none∧(Instr.findKey kt k' es').run P w=.ok none w)∨∃ j v v' e',r=some (0+j,v)∧(Instr.findKey kt k' es').run P w=.ok (some (0+j,v')) w∧Rel σ ρ v v'∧es'[j]?=some e'∧Instr.sameBits 10000 e'.key k'=true:=by
 cases hnd:aggD kd with
 | false=>
   rcases qSD hnd hk es es' 0 r h hr with ⟨h1,h2⟩ | ⟨j,v,v',e2,h1,h2,h3⟩
   ·exact .inl ⟨h1,by simp [Instr.findKey,run_underlying hu,h2]⟩
   ·exact .inr ⟨j,v,v',e2,h1,by simp only [Instr.findKey,Sem.run_bind,run_underlying hu,Result.andThen_ok,h2,Sem.run_pure],h3⟩
 | true=>
   have e0:(Instr.findKey kt k' es').run P w=(Instr.findAsking kt k' es').run P w:=by
    cases es' with
    | nil=>simp [Instr.findKey,run_underlying hu,Instr.findNow,Instr.findAsking]
    | cons e es'=>cases kd <;> first | (cases hnd;done) | simp [Instr.findKey,run_underlying hu,Instr.findNow,Instr.sameNow]
   rw [e0]
   exact qOA hnd hk w es es' 0 r h hr
theorem qP9 {ck:TypeId→AV→Bool} {e:TypeId} {c:Nat} {b:Bool} {n:Nat} (w:World) (hs:(sizeOf e).run P w=.ok c w)
  (hck:∀ t x x',ck t x=true→Rel σ ρ x x'→(Instr.checkKey b n t x').run P w=.ok () w) {cs:List AV} {cs':Array Value} (hr:RelL σ ρ cs cs'.toList) :
  ∀ (len i:Nat),qMW P ck e c cs len i=true→(forIn (List.range' i len) PUnit.unit λi _=>do
   Instr.checkKey b n e (← part e cs' (i * (← sizeOf e)))
   pure (ForInStep.yield PUnit.unit)).run P w=.ok PUnit.unit w:=by
 intro len
 induction len with
 | zero=>intro i _;simp
 | succ len ih=>
   intro i h
   unfold qMW at h
   cases h1:qGh P e cs (i * c) with
   | none=>simp [h1] at h
   | some x=>
     simp only [h1] at h
     obtain ⟨h2,h3⟩:=Bool.and_eq_true_iff.1 h
     obtain ⟨x',e1,r1⟩:=qF3 h1 hr w
     rw [List.range'_succ]
     simp only [List.forIn_cons,Sem.run_bind,hs,Result.andThen_ok,e1,hck _ _ _ h2 r1,Sem.run_pure]
     exact ih (i+1) h3
theorem qPQ {ck:TypeId→AV→Bool} {b:Bool} {n:Nat} (w:World)
  (hck:∀ t x x',ck t x=true→Rel σ ρ x x'→(Instr.checkKey b n t x').run P w=.ok () w) {cs:List AV} {cs':Array Value} (hr:RelL σ ρ cs cs'.toList) :
  ∀ (fs:List Field),qJB P ck cs fs=true→(forIn fs PUnit.unit λ(f:Field) _=>do
   if f.name≠"_" then
    Instr.checkKey b n f.type (← part f.type cs' f.offset)
    pure (ForInStep.yield PUnit.unit)
   else pure (ForInStep.yield PUnit.unit)).run P w=.ok PUnit.unit w:=by
 intro fs
 induction fs with
 | nil=>intro _;simp
 | cons f fs ih=>
   intro h
   unfold qJB at h
   cases hn:f.name == "_" with
   | true=>
     simp only [hn,cond_true] at h
     have hn':f.name="_":=by simpa using hn
     simp only [List.forIn_cons,hn',ne_eq,not_true_eq_false,if_false,Sem.run_bind,Sem.run_pure,Result.andThen_ok]
     exact ih h
   | false=>
     simp only [hn,cond_false] at h
     have hn':¬ f.name="_":=by simpa using hn
     cases h1:qGh P f.type cs f.offset with
     | none=>simp [h1] at h
     | some x=>
       simp only [h1] at h
       obtain ⟨h2,h3⟩:=Bool.and_eq_true_iff.1 h
       obtain ⟨x',e1,r1⟩:=qF3 h1 hr w
       simp only [List.forIn_cons,hn',ne_eq,not_false_eq_true,if_true,Sem.run_bind,e1,Result.andThen_ok,hck _ _ _ h2 r1,Sem.run_pure]
       exact ih h3
theorem qDN:∀ (d:Nat) {t:TypeId} {k:AV} {k':Value},qHX P d t k=true→Rel σ ρ k k'→∀ (b:Bool) (D:Nat),d≤D→∀ w,(Instr.checkKey b D t k').run P w=.ok () w
 | 0,_,_,_,h,_,_,_,_,_=>by cases h
 | d+1,t,k,k',h,hk,b,D,hD,w=>by
   obtain ⟨D,rfl⟩:∃ k,D=k+1:=⟨D - 1,by omega⟩
   unfold qHX at h
   generalize hu:P.underlying t=kd at h
   split at h
   ·unfold Rel at hk;subst hk
    simp [Instr.checkKey,run_underlying hu]
   ·unfold Rel at hk;subst hk
    simp [Instr.checkKey,run_underlying hu]
   ·unfold Rel at hk;subst hk
    simp [Instr.checkKey,run_underlying hu]
   ·rename_i len e cs
    obtain ⟨cs',rfl,hr⟩:=hk.agg
    cases hs:sz P e with
    | none=>simp only [hs] at h;cases h
    | some c=>
      simp only [hs] at h
      unfold Instr.checkKey
      simp only [Sem.run_bind,run_underlying hu,Result.andThen_ok]
      simp only [Std.Legacy.Range.forIn_eq_forIn_range',Std.Legacy.Range.size,Nat.sub_zero,Nat.add_one_sub_one,Nat.div_one]
      have:=qP9 (b:=b) (n:=D) w (qDk hs w) (λt x x' h1 r1=>qDN d h1 r1 b D (by omega) w) hr len 0 h
      simp at this ⊢
      rw [this]
      rfl
   ·rename_i fs cs
    obtain ⟨cs',rfl,hr⟩:=hk.agg
    unfold Instr.checkKey
    simp only [Sem.run_bind,run_underlying hu,Result.andThen_ok]
    rw [← Array.forIn_toList]
    have:=qPQ (b:=b) (n:=D) w (λt x x' h1 r1=>qDN d h1 r1 b D (by omega) w) hr fs.toList h
    simp at this ⊢
    rw [this]
    rfl
   ·cases h
theorem qOk {v:AV} (h:qMb H=some (v,H')) (hwr:WR σ ρ base H w) (hf:Free ρ H.next H'.next) (t:TypeId) (o:Option Value) (ho:∀ x,o=some x→∃ k n a b,x=.int k n∧P.underlying t=some (.map a b)) :
  Okay σ ρ base H H' w (λρ' v'=>Rel σ ρ' v v') ((Instr.makeMap t o).run P w):=by
 obtain ⟨id,K,h1,h2⟩:=qAR h
 cases qAK h2
 obtain ⟨rfl,hlo,hk,hkl,hkn⟩:=qLY h1
 have hn:ρ H.next=none:=hf H.next (Nat.le_refl _) (by omega)
 obtain ⟨ρ',x1,x2,x3,x4⟩:=hwr.new (L:=⟨w.heap.size,0,0⟩) (b:=.map [] 0) hn (λj bj Lj hj hLj=>Nat.ne_of_lt (qNk hwr hj hLj)) hwr.base (qMf w (.map #[] 0)) (λρ' hle _=>⟨#[],rfl,rfl,λi e e' he _=>by simp at he⟩) hk hkl hkn
 refine ⟨.map (some w.heap.size),w.alloc (.map #[] 0),ρ',?_,x1,x3,x4,by unfold Rel;exact ⟨_,x2,rfl⟩⟩
 cases o with
 | none=>simp [Instr.makeMap]
 | some x=>
   obtain ⟨k,n,a,b,rfl,hu⟩:=ho x rfl
   simp [Instr.makeMap,run_underlying hu,asInt,asIntOf]
def qOv (ok:Bool) (z:Value):Option (Nat × Value)→Value
 | some (_,v)=>if ok then .tuple #[v,.bool true] else v
 | none=>if ok then .tuple #[z,.bool false] else z
theorem qNf {t kt et:TypeId} {kd:TypeDesc} {k' z:Value} {ok:Bool} {b clock:Nat} {es:Array MapEntry} {r:Option (Nat × Value)} (hu:P.underlying t=some (.map kt et)) (hku:P.underlying kt=some kd) (hc:∀ b w,(Instr.checkKey b 10000 kt k').run P w=.ok () w)
  (hz:∀ w,(zeroValue et).run P w=.ok z w) (hb:w.heap[b]?=some (.map es clock)) (hf:(Instr.findKey kt k' es.toList).run P w=.ok r w):(Instr.lookup t (.map (some b)) k' ok).run P w=.ok (qOv ok z r) w:=by
 unfold Instr.lookup
 simp only [Sem.run_bind,run_underlying hu,Result.andThen_ok,qHg hb,Sem.run_pure,hc,hf]
 cases r with
 | none=>simp only [Sem.run_bind,hz,Result.andThen_ok,Sem.run_pure];rfl
 | some p=>obtain ⟨j,v⟩:=p;simp only [Sem.run_bind,Result.andThen_ok,Sem.run_pure];rfl
theorem qRa {t kt et:TypeId} {kd:TypeDesc} {k' z:Value} {ok:Bool} (hu:P.underlying t=some (.map kt et)) (hku:P.underlying kt=some kd) (hc:∀ b w,(Instr.checkKey b 10000 kt k').run P w=.ok () w)
  (hz:∀ w,(zeroValue et).run P w=.ok z w):(Instr.lookup t (.map none) k' ok).run P w=.ok (qOv ok z none) w:=by
 unfold Instr.lookup
 have hf:(Instr.findKey kt k' (#[]:Array MapEntry).toList).run P w=.ok none w:=by simp [Instr.findKey,run_underlying hku,Instr.findNow]
 simp only [Sem.run_bind,run_underlying hu,Result.andThen_ok,Sem.run_pure,hc,hf,hz]
 rfl
theorem qKX {ok:Bool} {z v:AV} {z' v':Value} (hz:Rel σ ρ z z') (hv:Rel σ ρ v v') (j:Nat):Rel σ ρ (cond ok (.tup [v,.bool true]) v) (qOv ok z' (some (j,v')))∧Rel σ ρ (cond ok (.tup [z,.bool false]) z) (qOv ok z' none):=by
 have two:∀ {x:AV} {x':Value} (b:Bool),Rel σ ρ x x'→Rel σ ρ (.tup [x,.bool b]) (.tuple #[x',.bool b]):=λb h=>by
  unfold Rel
  exact ⟨_,rfl,.cons h (.cons (by unfold Rel;rfl) .nil)⟩
 cases ok with
 | true=>exact ⟨two true hv,two false hz⟩
 | false=>exact ⟨hv,hz⟩
theorem qUw {t:TypeId} {x k v:AV} {x' k':Value} {ok:Bool} (h:qE7 P t x k ok H=some (v,H')) (hx:Rel σ ρ x x') (hk:Rel σ ρ k k') (hwr:WR σ ρ base H w) :
  Okay σ ρ base H H' w (λρ' v'=>Rel σ ρ' v v') ((Instr.lookup t x' k' ok).run P w):=by
 unfold qE7 at h
 generalize hu:P.underlying t=d at h
 split at h
 ·rename_i kt et
  generalize hku:P.underlying kt=kd at h
  generalize hz:qEp P et=z at h
  split at h
  ·rename_i kd z
   obtain ⟨hs,h⟩:=qAy h
   obtain ⟨r,K,h1,h2⟩:=qAR h
   clear h
   obtain ⟨z',hz1,hz2⟩:=qLN (P:=P) hz
   have hzr:=hz2 σ ρ
   split at h1
   ·cases qAK h1
    cases qAK h2
    unfold Rel at hx;subst hx
    exact .same (qRa hu hku (λb w=>qDN 10 hs hk b 10000 (by decide) w) hz1) hwr rfl rfl (qKX hzr hzr 0).2
   ·obtain ⟨blk,K1,g1,g2⟩:=qAR h1
    obtain ⟨hb,e1,e2,e3⟩:=qCL g1
    split at g2
    ·obtain ⟨r',hr,e⟩:=qCl g2
     cases e
     unfold Rel at hx
     obtain ⟨L,hL,rfl⟩:=hx
     obtain ⟨L',hL',es',q1,q2⟩:=hwr.blk _ _ hb
     rw [hL] at hL';cases hL'
     rcases qNh hku hk w _ es'.toList r hr q2 with ⟨rfl,a2⟩ | ⟨j,v1,v',e',rfl,a2,a3,_⟩
     ·cases qAK h2
      exact .same (qNf hu hku (λb w=>qDN 10 hs hk b 10000 (by decide) w) hz1 q1 a2) hwr e1 e2 (qKX hzr hzr 0).2
     ·cases qAK h2
      exact .same (qNf hu hku (λb w=>qDN 10 hs hk b 10000 (by decide) w) hz1 q1 a2) hwr e1 e2 (qKX hzr a3 _).1
    ·exact (qAD g2).elim
   ·exact (qAD h1).elim
  ·exact (qAD h).elim
 ·exact (qAD h).elim
theorem qJk {b clock:Nat} {es:Array MapEntry} (o:Obj) (hb:w.heap[b]?=some (.map es clock)):∃ w',(setObj b o).run P w=.ok () w'∧Upd w b o w':=by
 have hlt:=qK4 hb
 refine ⟨{ w with heap:=w.heap.setIfInBounds b o },by simp [setObj,Sem.run,hb],rfl,rfl,rfl,by simp,by simp [hlt],λk hk=>?_⟩
 show (w.heap.setIfInBounds b o)[k]?=w.heap[k]?
 rw [Array.getElem?_setIfInBounds_ne (λe=>hk e.symm)]
theorem qSt (f:AEnt→AEnt):∀ (es:List AEnt) (i j:Nat),(modE es i f)[j]?=if i=j then (es[j]?).map f else es[j]?
 | [],i,j=>by simp [modE]
 | e :: es,0,j=>by cases j <;> simp [modE]
 | e :: es,i+1,j=>by
   cases j with
   | zero=>simp [modE]
   | succ j=>simp only [modE,g1Y,qSt f es i j,Nat.add_right_cancel_iff]
theorem qNV (f:AEnt→AEnt):∀ (es:List AEnt) (i:Nat),(modE es i f).length=es.length
 | [],_=>rfl
 | e :: es,0=>rfl
 | e :: es,i+1=>by simp [modE,qNV f es i]
theorem EsRel.modify {es:List AEnt} {es':Array MapEntry} {k v:AV} {k' v':Value} (h:EsRel σ ρ es es'.toList) (hk:Rel σ ρ k k') (hv:Rel σ ρ v v') (i:Nat):EsRel σ ρ (modE es i λe=>{ e with key:=k,val:=v }) (es'.modify i λe=>{ e with key:=k',val:=v' }).toList:=by
 refine ⟨by have:=h.len;simp [qNV] at this ⊢;exact this,λj e e' he he'=>?_⟩
 rw [qSt] at he
 rw [Array.getElem?_toList,Array.getElem?_modify] at he'
 have at_:=h.at_ j
 simp only [Array.getElem?_toList] at at_
 split at he
 ·rename_i hij
  rw [if_pos hij] at he'
  rw [Option.map_eq_some_iff] at he
  obtain ⟨a,ha,rfl⟩:=he
  cases hb:es'[j]? with
  | none=>rw [hb] at he';cases he'
  | some b=>
    rw [hb] at he';cases he'
    exact ⟨hk,hv,(at_ a b ha hb).born⟩
 ·rename_i hij
  rw [if_neg hij] at he'
  exact at_ e e' he he'
theorem EsRel.push {es:List AEnt} {es':Array MapEntry} {k v:AV} {k' v':Value} (h:EsRel σ ρ es es'.toList) (hk:Rel σ ρ k k') (hv:Rel σ ρ v v') (c:Nat):EsRel σ ρ (es ++ [{ key:=k,val:=v,born:=c }]) (es'.push { key:=k',val:=v',born:=c }).toList:=by
 have hl:=h.len
 refine ⟨by simp at hl ⊢;exact hl,λj e e' he he'=>?_⟩
 rw [Array.toList_push,List.getElem?_append] at he'
 rw [List.getElem?_append] at he
 rw [hl] at he'
 split at he
 ·rename_i hlt
  rw [if_pos hlt] at he'
  exact h.at_ j e e' he he'
 ·rename_i hlt
  rw [if_neg hlt] at he'
  cases q:j - es.length with
  | zero=>rw [q] at he he';cases he;cases he';exact ⟨hk,hv,rfl⟩
  | succ n=>rw [q] at he;cases he
theorem qL6 {t:TypeId} {m k v:AV} {m' k' v':Value} {u:Unit} (h:qDF P t m k v H=some (u,H')) (hm:Rel σ ρ m m') (hk:Rel σ ρ k k') (hv:Rel σ ρ v v') (hwr:WR σ ρ base H w) :
  H'.next=H.next∧H'.lo=H.lo∧∃ w',(Instr.mapUpdate t m' k' v').run P w=.ok () w'∧WR σ ρ base H' w'∧Below base w w':=by
 unfold qDF at h
 generalize hu:P.underlying t=d at h
 split at h
 ·rename_i kt et b
  generalize hku:P.underlying kt=kd at h
  split at h
  ·rename_i kd
   obtain ⟨hs,h⟩:=qAy h
   obtain ⟨blk,K1,g1,g2⟩:=qAR h
   clear h
   obtain ⟨hb,e1,e2,e3⟩:=qCL g1
   split at g2
   ·rename_i es clock
    obtain ⟨r,K2,g3,g4⟩:=qAR g2
    obtain ⟨r',hr,e⟩:=qCl g3
    cases e
    unfold Rel at hm
    obtain ⟨L,hL,rfl⟩:=hm
    obtain ⟨L',hL',es',q1,q2⟩:=hwr.blk _ _ hb
    rw [hL] at hL';cases hL'
    have hc:(Instr.checkKey false 10000 kt k').run P w=.ok () w:=qDN 10 hs hk _ 10000 (by decide) _
    rcases qNh hku hk w _ es'.toList r hr q2 with ⟨rfl,a2⟩ | ⟨j,v1,v2,e',rfl,a2,a3,a4,a5⟩
    ·simp only [qA6] at g4
     obtain ⟨w1,_,w3,w4,w5⟩:=qG1 g4
     obtain ⟨w',s1,s2⟩:=qJk (P:=P) (.map (es'.push { key:=k',val:=v',born:=clock }) (clock+1)) q1
     obtain ⟨p1,p2⟩:=hwr.put (K:=H') (b:=.map (es ++ [{ key:=k,val:=v,born:=clock }]) (clock+1)) hb hL (by rw [← e2];exact w1) s2 ⟨_,rfl,q2.push hk hv clock⟩ (λj=>by rw [w3 j,e1]) (by rw [w4,e2])
     refine ⟨by rw [w5,e3],by rw [w4,e2],w',?_,p1,p2⟩
     simp only [Instr.mapUpdate,Sem.run_bind,run_underlying hu,Result.andThen_ok,qHg q1,hc,a2,Sem.run_pure,s1]
    ·simp only at g4
     rw [zA] at g4 a2
     obtain ⟨w1,_,w3,w4,w5⟩:=qG1 g4
     obtain ⟨w',s1,s2⟩:=qJk (P:=P) (.map (es'.modify j λe=>{ e with key:=k',val:=v' }) clock) q1
     obtain ⟨p1,p2⟩:=hwr.put (K:=H') (b:=.map (modE es j λe=>{ e with key:=k,val:=v }) clock) hb hL (by rw [← e2];exact w1) s2 ⟨_,rfl,q2.modify hk hv j⟩ (λj=>by rw [w3 j,e1]) (by rw [w4,e2])
     refine ⟨by rw [w5,e3],by rw [w4,e2],w',?_,p1,p2⟩
     have hst:(Instr.keyThatStays (((es'[j]?).map (·.key)).getD k') k').run P w=.ok k' w:=by
      rw [Array.getElem?_toList] at a4
      simp [Instr.keyThatStays,a4,a5]
     simp only [Instr.mapUpdate,Sem.run_bind,run_underlying hu,Result.andThen_ok,qHg q1,hc,a2,Sem.run_pure,hst,s1]
   ·exact (qAD g2).elim
  ·exact (qAD h).elim
 ·exact (qAD h).elim
theorem qZy {dT:TypeId} {d s v:AV} {d' s':Value} {ty:TypeId} {ts:List TypeId} (h:qQt P dT d s H=some (v,H')) (hd:Rel σ ρ d d') (hx:Rel σ ρ s s') (hσ:One σ) (hwr:WR σ ρ base H w) :
  Okay σ ρ base H H' w (λρ' v'=>Rel σ ρ' v v') ((Builtin.copy_ (dT :: ts).toArray ty #[d',s']).run P w):=by
 unfold qQt at h
 generalize hu:P.underlying dT=u at h
 generalize hm:qAa s=m at h
 generalize hk:qAa d=k at h
 split at h
 ·rename_i elem m k
  generalize hs:sz P elem=es at h
  split at h
  ·rename_i es
   simp only [qA6] at h
   obtain ⟨cs,K,h1,h2⟩:=qAR h
   clear h
   obtain ⟨e1,e2,e3,vs,a1,a2,a3,a4,a5⟩:=qGX (P:=P) h1 hx hm (Nat.min_le_left _ _) hwr
   have hlo:=qQn (P:=P) hm hx w
   have hf:=a5 w rfl
   have hmin:Nat.min m k=min m k:=rfl
   split at h2
   ·rename_i b o l cap es'
    obtain ⟨hes,h3⟩:=qAy h2
    have hes:=bE hes
    subst hes
    unfold Rel at hd
    obtain ⟨L,a,c,hL,rfl,hoff,hlc,hcap⟩:=hd
    have hkl:l=k:=Option.some.inj hk
    subst hkl
    generalize hn:min m l=n at *
    split at h3
    ·cases qAK h3
     have hvs:vs=[]:=List.eq_nil_of_length_eq_zero (by rw [a1,Nat.zero_mul])
     subst hvs
     refine .same (b:=goInt 0) ?_ hwr e1 e2 (by unfold Rel;rfl)
     simp [Builtin.copy_,run_underlying hu,hlo,qDk hs,hmin,hn,hf,qKF]
    ·rename_i n
     obtain ⟨u,K2,h4,h5⟩:=qAR h3
     cases qAK h5
     have ha:a=⟨L.blk,L.sh+o,none⟩:=by
      rcases hoff with ⟨h,_⟩ | ⟨h,_⟩
      ·exact h
      ·subst h;simp at hn
     subst ha
     obtain ⟨n1,l1,w',s1,s2,s3⟩:=qFB (P:=P) h4 hσ (hwr.log e1 e2) hL a2
     refine ⟨goInt (n+1),w',ρ,?_,.refl _ _ _,s2,s3,by unfold Rel;rfl⟩
     simp [Builtin.copy_,run_underlying hu,hlo,qDk hs,hmin,hn,hf,s1]
   ·rename_i hno
    cases qAK h2
    have hd0:d=.nilslc∧k=0:=by
     unfold qAa at hk
     split at hk
     ·exact absurd rfl (hno _ _ _ _ _)
     ·cases hk;exact ⟨rfl,rfl⟩
     ·cases hk
    obtain ⟨rfl,rfl⟩:=hd0
    unfold Rel at hd;subst hd
    simp only [Nat.min_zero] at hf
    refine .same (b:=goInt 0) ?_ hwr e1 e2 (by unfold Rel;simp [goInt])
    have hmin0:Nat.min m 0=0:=Nat.min_zero m
    simp [Builtin.copy_,run_underlying hu,hlo,qDk hs,hmin0,hf]
  ·exact (qAD h).elim
 ·exact (qAD h).elim
theorem EsRel.erase {es:List AEnt} {es':Array MapEntry} (h:EsRel σ ρ es es'.toList) (i:Nat):EsRel σ ρ (es.eraseIdx i) (es'.eraseIdxIfInBounds i).toList:=by
 have e:(es'.eraseIdxIfInBounds i).toList=es'.toList.eraseIdx i:=by simp [Array.eraseIdxIfInBounds];split <;> simp_all [List.eraseIdx_of_length_le]
 rw [e]
 have hl:=h.len
 refine ⟨by rw [List.length_eraseIdx,List.length_eraseIdx,hl],λj a b ha hb=>?_⟩
 rw [List.getElem?_eraseIdx] at ha hb
 split at ha
 ·rename_i hlt;rw [if_pos hlt] at hb;exact h.at_ _ _ _ ha hb
 ·rename_i hlt;rw [if_neg hlt] at hb;exact h.at_ _ _ _ ha hb
theorem qUc {t:TypeId} {m k v:AV} {m' k':Value} {ty:TypeId} {ts:List TypeId} (h:qNo P t m k H=some (v,H')) (hm:Rel σ ρ m m') (hk:Rel σ ρ k k') (hwr:WR σ ρ base H w) :
  Okay σ ρ base H H' w (λρ' v'=>Rel σ ρ' v v') ((Builtin.delete_ (t :: ts).toArray ty #[m',k']).run P w):=by
 unfold qNo at h
 generalize hu:P.underlying t=d at h
 split at h
 ·rename_i kt et
  generalize hku:P.underlying kt=kd at h
  split at h
  ·rename_i kd
   obtain ⟨hs,h⟩:=qAy h
   have hc:∀ b,(Instr.checkKey b 10000 kt k').run P w=.ok () w:=λb=>qDN 10 hs hk _ 10000 (by decide) _
   split at h
   ·cases qAK h
    unfold Rel at hm;subst hm
    exact .same (b:=.tuple #[]) (by simp [Builtin.delete_,run_underlying hu,hc]) hwr rfl rfl qGA
   ·rename_i b
    obtain ⟨blk,K1,g1,g2⟩:=qAR h
    obtain ⟨hb,e1,e2,e3⟩:=qCL g1
    split at g2
    ·rename_i es clock
     obtain ⟨r,K2,g3,g4⟩:=qAR g2
     obtain ⟨r',hr,e⟩:=qCl g3
     cases e
     unfold Rel at hm
     obtain ⟨L,hL,rfl⟩:=hm
     obtain ⟨L',hL',es',q1,q2⟩:=hwr.blk _ _ hb
     rw [hL] at hL';cases hL'
     rcases qNh hku hk w _ es'.toList r hr q2 with ⟨rfl,a2⟩ | ⟨j,v1,v2,e',rfl,a2,a3,a4,a5⟩
     ·simp only at g4
      obtain ⟨u,K3,g5,g6⟩:=qAR g4
      cases qAK g6
      obtain ⟨w1,_,w3,w4,w5⟩:=qG1 g5
      obtain ⟨w',s1,s2⟩:=qJk (P:=P) (.map es' clock) q1
      obtain ⟨p1,p2⟩:=hwr.put (K:=H') (b:=.map es clock) hb hL (by rw [← e2];exact w1) s2 ⟨_,rfl,q2⟩ (λj=>by rw [w3 j,e1]) (by rw [w4,e2])
      refine ⟨.tuple #[],w',ρ,?_,.refl _ _ _,p1,p2,qGA⟩
      simp [Builtin.delete_,run_underlying hu,hc,qHg q1,a2,s1]
     ·simp only at g4
      rw [zA] at g4 a2
      obtain ⟨u,K3,g5,g6⟩:=qAR g4
      cases qAK g6
      obtain ⟨w1,_,w3,w4,w5⟩:=qG1 g5
      obtain ⟨w',s1,s2⟩:=qJk (P:=P) (.map (es'.eraseIdxIfInBounds j) clock) q1
      obtain ⟨p1,p2⟩:=hwr.put (K:=H') (b:=.map (es.eraseIdx j) clock) hb hL (by rw [← e2];exact w1) s2 ⟨_,rfl,q2.erase j⟩ (λj=>by rw [w3 j,e1]) (by rw [w4,e2])
      refine ⟨.tuple #[],w',ρ,?_,.refl _ _ _,p1,p2,qGA⟩
      simp [Builtin.delete_,run_underlying hu,hc,qHg q1,a2,s1]
    ·exact (qAD g2).elim
   ·exact (qAD h).elim
  ·exact (qAD h).elim
 ·exact (qAD h).elim
end
end Go.AM
namespace Go.AM
open Go Go.RowKit
section
variable {P:Program} {σ:Nat→Value} {ρ:Ren} {base:Nat} {H H':AH} {w:World} {nt:Nat} {T:Tmps} {a:Act}
theorem qBE {x:Operand} {v:AV} (h:ev T x=some v) (hT:TRel σ ρ nt T a.tmps):Rel σ ρ v (a.eval x):=by
 cases x with
 | tmp t=>
   have:=hT.at_ t
   unfold tget at this
   simp only [ev] at h
   split at h
   ·rename_i u hu;cases h;rw [hu] at this;exact this
   ·rename_i hu;cases h;rw [hu] at this;exact this
 | const c=>exact qRC 2 c v h
 | global g=>cases h
 | func f=>cases h;unfold Rel;exact ⟨#[],#[],rfl,.nil,.nil⟩
theorem qM2:∀ {l:List Operand} {vs:List AV},evs T l=some vs→TRel σ ρ nt T a.tmps→RelL σ ρ vs (l.map a.eval)
 | [],vs,h,_=>by cases h;exact .nil
 | x :: l,vs,h,hT=>by
   unfold evs at h
   split at h
   ·cases h
   ·rename_i v hv
    split at h
    ·cases h
    ·rename_i us hus
     cases h
     exact .cons (qBE hv hT) (qM2 hus hT)
theorem qKL:∀ {l:List (Nat × Operand)} {ps:List (Nat × AV)},qDn T l=some ps→TRel σ ρ nt T a.tmps→PRel σ ρ ps (l.map λ(i,x)=>(i,a.eval x))
 | [],ps,h,_=>by cases h;exact .nil
 | (i,x) :: l,ps,h,hT=>by
   unfold qDn at h
   split at h
   ·rename_i v us hv hus
    cases h
    exact .cons (qBE hv hT) (qKL hus hT)
   ·cases h
theorem qOw {x:Option Operand} {v:Option AV} (h:opt T x=some v) (hT:TRel σ ρ nt T a.tmps):ORel σ ρ v (x.map a.eval):=by
 cases x with
 | none=>cases h;exact .none
 | some x=>
   simp only [opt] at h
   split at h
   ·rename_i u hu;cases h;exact .some (qBE hu hT)
   ·cases h
def qHT (P:Program):Prop:=∀ (k:FuncId) (fn:Func),P.funcs[k]?=some fn→fn.name≠"runtime.NumGoroutine"
def NRel (P:Program) (σ:Nat→Value) (ρ:Ren) (w:World):ANext→Next→Prop
 | .val v,n=>(∃ v',n=.value v'∧Rel σ ρ v v')∨(n=.skip∧v=.undef)
 | .enter f args,n=>∃ args':Array Value,n=.enter f args'∧RelL σ ρ args args'.toList
 | .round l args,n=>∃ (L:Loc) (args':Array Value),ρ l=some L∧RelL σ ρ args args'.toList∧(Instr.yield L.blk args').run P w=.ok n w
def qLh (P:Program) (σ:Nat→Value) (ρ:Ren) (base:Nat) (H H':AH) (w:World) (x:ANext) (r:Result Next):Prop:=
 ∃ n w' ρ',r=.ok n w'∧Ext ρ ρ' H.next H'.next∧WR σ ρ' base H' w'∧Below base w w'∧NRel P σ ρ' w' x n
theorem qLh.of_val {v:AV} {s:Sem Value} (h:Okay σ ρ base H H' w (λρ' v'=>Rel σ ρ' v v') (s.run P w)):qLh P σ ρ base H H' w (.val v) ((do pure (.value (← s)):Sem Next).run P w):=by
 obtain ⟨b,w',ρ',e,x1,x2,x3,r⟩:=h
 exact ⟨.value b,w',ρ',by simp [e],x1,x2,x3,.inl ⟨b,rfl,r⟩⟩
theorem qLh.pure {v:AV} {s:Sem Value} {v':Value} (h:s.run P w=.ok v' w) (hr:Rel σ ρ v v') (hwr:WR σ ρ base H w):qLh P σ ρ base H H w (.val v) ((do pure (.value (← s)):Sem Next).run P w):=
 .of_val (.same h hwr rfl rfl hr)
theorem qPV {k:FuncId} (hname:qHT P) (h:isFn P k=true) (args:Array Value) (w:World):(callFunc k args).run P w=.ok (.enter k args) w:=by
 unfold isFn at h
 split at h
 ·rename_i fn hfn
  have h1:¬ fn.name="runtime.NumGoroutine":=hname k fn hfn
  have h2:¬ fn.body=none:=by intro e;rw [e] at h;cases h
  simp [callFunc,hfn,h1,h2]
 ·cases h
theorem zAAp {k:FuncId} {args:List AV} {x:ANext} {args':Array Value} (hname:qHT P) (h:goA P k args H=some (x,H')) (hr:RelL σ ρ args args'.toList) (hwr:WR σ ρ base H w) :
  qLh P σ ρ base H H' w x ((callFunc k args').run P w):=by
 obtain ⟨hf,h2⟩:=qAy h
 cases qAK h2
 exact ⟨_,w,ρ,qPV hname hf args' w,.refl _ _ _,hwr,.refl _ _,args',rfl,hr⟩
theorem qU1 {t:TypeId} {v:AV} {name:String} {args:List AV} {x:ANext} {v':Value} {args':List Value} (hname:qHT P)
  (h:bd (qBq P t v name) (λp=>goA P p.1 (p.2 :: args)) H=some (x,H')) (hv:Rel σ ρ v v') (hr:RelL σ ρ args args') (hwr:WR σ ρ base H w) :
  qLh P σ ρ base H H' w x ((callMethod (.iface t v') name args'.toArray).run P w):=by
 obtain ⟨p,K,h1,h2⟩:=qAR h
 obtain ⟨sm,r',e,r⟩:=qUg (P:=P) h1 hv hwr (P.types.size+Made.depth - 1)
 have hd:P.types.size+Made.depth - 1+1=P.types.size+Made.depth:=by have:0 < Made.depth:=by decide
                                                                   omega
 rw [hd] at e
 obtain ⟨n,w',ρ',q1,q2,q3,q4,q5⟩:=zAAp (args':=#[r'] ++ args'.toArray) hname h2 (by simpa using RelL.cons r hr) (hwr.log sm.blks sm.lo)
 refine ⟨n,w',ρ',?_,by rw [← sm.next];exact q2,q3,q4,q5⟩
 simp only [callMethod,Sem.run_bind,run_program,Result.andThen_ok,e]
 exact q1
theorem qTd {b:Builtin} {ts:Array TypeId} {args:List AV} {v:AV} {args':Array Value} {ty:TypeId} {cs:Array Bool} (h:qE8 P b ts.toList args H=some (v,H')) (hr:RelL σ ρ args args'.toList) (hσ:One σ) (hwr:WR σ ρ base H w) (hf:Free ρ H.next H'.next) :
  qLh P σ ρ base H H' w (.val v) ((builtin b ts ty cs args').run P w):=by
 obtain ⟨ts⟩:=ts
 obtain ⟨args'⟩:=args'
 simp only at hr h
 unfold qE8 at h
 split at h
 ·rename_i st xt s x
  unfold RelL at hr;obtain ⟨s',l1,rfl,hs,hr⟩:=hr
  unfold RelL at hr;obtain ⟨x',l2,rfl,hx,hr⟩:=hr
  unfold RelL at hr;subst hr
  exact .of_val (qWT h hs hx hσ hwr hf)
 ·rename_i t ts x
  unfold RelL at hr;obtain ⟨x',l2,rfl,hx,hr⟩:=hr
  unfold RelL at hr;subst hr
  exact .of_val (zABT h hx hwr ts)
 ·rename_i t ts x
  unfold RelL at hr;obtain ⟨x',l2,rfl,hx,hr⟩:=hr
  unfold RelL at hr;subst hr
  exact .of_val (qXP h hx hσ hwr ts)
 ·rename_i x xs
  unfold RelL at hr;obtain ⟨x',l2,rfl,hx,hr⟩:=hr
  obtain ⟨r,hr1,hr2⟩:=qCl h
  cases hr2
  obtain ⟨v',e,r⟩:=qYv (P:=P) hr1 hx hr w
  exact .pure (s:=Builtin.min_ _ _ _) (by simpa [Builtin.min_] using e) r hwr
 ·rename_i x xs
  unfold RelL at hr;obtain ⟨x',l2,rfl,hx,hr⟩:=hr
  obtain ⟨r,hr1,hr2⟩:=qCl h
  cases hr2
  obtain ⟨v',e,r⟩:=qZF (P:=P) hr1 hx hr w
  exact .pure (s:=Builtin.max_ _ _ _) (by simpa [Builtin.max_] using e) r hwr
 ·rename_i t ts d s
  unfold RelL at hr;obtain ⟨d',l2,rfl,hd,hr⟩:=hr
  unfold RelL at hr;obtain ⟨s',l3,rfl,hs,hr⟩:=hr
  unfold RelL at hr;subst hr
  exact .of_val (qZy (ts:=ts) h hd hs hσ hwr)
 ·rename_i t ts d s
  unfold RelL at hr;obtain ⟨d',l2,rfl,hd,hr⟩:=hr
  unfold RelL at hr;obtain ⟨s',l3,rfl,hs,hr⟩:=hr
  unfold RelL at hr;subst hr
  exact .of_val (qUc (ts:=ts) h hd hs hwr)
 ·exact (qAD h).elim
theorem qW2 {l:Nat} {args:List AV} {x:ANext} {args':Array Value} {L:Loc} (h:bd (rd l) (λblk=>match blk with
    | .loop _ _ _ _ ps _ _ _=>cond (Nat.beq ps.length args.length) (ret (.round l args)) fail
    | _=>fail) H=some (x,H')) (hL:ρ l=some L) (hr:RelL σ ρ args args'.toList) (hwr:WR σ ρ base H w) :
  qLh P σ ρ base H H' w x ((Instr.yield L.blk args').run P w):=by
 obtain ⟨blk,K,h1,h2⟩:=qAR h
 obtain ⟨hb,e1,e2,e3⟩:=qCL h1
 cases blk with
 | loop st pd nt T ps as bo d=>
   obtain ⟨hl,h3⟩:=qAy h2
   cases qAK h3
   have hl:=bE hl
   obtain ⟨L',hL',fn,tm,D,_,q2,_⟩:=hwr.blk l _ hb
   rw [hL] at hL';cases hL'
   have hsz:args'.size=ps.length:=by have:=hr.length;simp at this;omega
   have hrun:∃ n,(Instr.yield L.blk args').run P w=.ok n w:=by
    refine ⟨.round L.blk fn ((ps.toArray.zip args').foldl (λtmps (x:Tmp × Value)=>tmps.setIfInBounds x.1 x.2) tm) as bo,?_⟩
    simp only [Instr.yield,Instr.getLoop,getObj,Sem.run_bind,Sem.run,q2,Result.andThen_ok]
    simp [hsz]
   obtain ⟨n,hn⟩:=hrun
   exact ⟨n,w,ρ,hn,by rw [← e3];exact .refl _ _ _,hwr.log e1 e2,.refl _ _,L,args',hL,hr,hn⟩
 | _=>exact (qAD h2).elim
theorem qOP (name:String) (cap:Array Value) (v:Value) (X:Array Value) (w:World):(invoke (.fn (.method name) cap) (#[v] ++ X)).run P w=(callMethod v name X).run P w:=by
 have e0:(#[v] ++ X)[0]?=some v:=by rw [Array.getElem?_append_left (by simp)];rfl
 have e1:(#[v] ++ X).extract 1 (#[v] ++ X).size=X:=by
  apply Array.ext'
  rw [Array.toList_extract]
  simp only [List.extract_eq_take_drop,Array.toList_append,List.singleton_append,List.drop_succ_cons,List.drop_zero,Array.size_append]
  rw [List.take_of_length_le (by simp)]
 simp only [invoke,e0,e1]
theorem qZW {c:Call} {x:ANext} {ty:TypeId} (hname:qHT P) (h:qH9 P T c H=some (x,H')) (hT:TRel σ ρ nt T a.tmps) (hσ:One σ) (hwr:WR σ ρ base H w) (hf:Free ρ H.next H'.next) :
  qLh P σ ρ base H H' w x ((do let d ← resolve a.eval c ty;invoke d.target d.args:Sem Next).run P w):=by
 unfold qH9 at h
 generalize hargs:evs T c.args.toList=ao at h
 cases ao with
 | none=>exact (qAD h).elim
 | some args=>
   have hr:=qM2 hargs hT
   have hr':RelL σ ρ args (c.args.map a.eval).toList:=by simpa using hr
   simp only at h
   cases hc:c.callee with
   | builtin b=>
     simp only [hc] at h
     obtain ⟨v,K,h1,h2⟩:=qAR h
     cases qAK h2
     simp only [resolve,hc,invoke,Sem.run_bind,Sem.run_pure,Result.andThen_ok]
     exact qTd (P:=P) h1 hr' hσ hwr hf
   | invoke r name=>
     simp only [hc] at h
     generalize hrv:ev T r=rv at h
     split at h
     ·rename_i t v
      have hv:=qBE (a:=a) hrv hT
      unfold Rel at hv
      obtain ⟨v',he,hv⟩:=hv
      have:=qU1 (P:=P) hname h hv hr hwr
      simp only [resolve,hc,he,Sem.run_bind,Sem.run_pure,Result.andThen_ok,qOP]
      have e:(List.map a.eval c.args.toList).toArray=Array.map a.eval c.args:=by apply Array.ext';simp
      rw [e] at this;exact this
     ·exact (qAD h).elim
   | value f=>
     simp only [hc] at h
     generalize hfv:ev T f=fv at h
     split at h
     ·rename_i k first cap
      have hv:=qBE (a:=a) hfv hT
      unfold Rel at hv
      obtain ⟨fs,cs,he,h1,h2⟩:=hv
      have:=zAAp (args':=fs ++ c.args.map a.eval ++ cs) hname h (by simpa using (h1.append hr).append h2) hwr
      simp only [resolve,hc,he,Deferred.ofValue,invoke,Sem.run_bind,Sem.run_pure,Result.andThen_ok]
      exact this
     ·rename_i name t v cap
      have hv:=qBE (a:=a) hfv hT
      unfold Rel at hv
      obtain ⟨fs,cs,he,h1,h2⟩:=hv
      unfold RelL at h1
      obtain ⟨y,ys,hfs,h1,h3⟩:=h1
      unfold RelL at h3;subst h3
      unfold Rel at h1
      obtain ⟨v',rfl,h1⟩:=h1
      have hfs':fs=#[.iface t v']:=by apply Array.ext';rw [hfs]
      subst hfs'
      have:=qU1 (P:=P) hname h h1 hr hwr
      simp only [resolve,hc,he,Deferred.ofValue,Sem.run_bind,Sem.run_pure,Result.andThen_ok,qOP]
      have e:(List.map a.eval c.args.toList).toArray=Array.map a.eval c.args:=by apply Array.ext';simp
      rw [e] at this;exact this
     ·rename_i l
      have hv:=qBE (a:=a) hfv hT
      unfold Rel at hv
      obtain ⟨L,hL,he⟩:=hv
      have:=qW2 (P:=P) h hL hr' hwr
      simp only [resolve,hc,he,Deferred.ofValue,invoke,Sem.run_bind,Sem.run_pure,Result.andThen_ok]
      simpa using this
     ·exact (qAD h).elim
end
end Go.AM
namespace Go.AM
open Go Go.RowKit
section
variable {P:Program} {σ:Nat→Value} {ρ:Ren} {base:Nat} {H H':AH} {w:World} {nt:Nat} {T:Tmps} {a:Act}
def qVI:Value→Bool
 | .pointer none | .nilIface | .nilFunc=>false
 | .func (.method _) _ _=>false
 | _=>true
theorem qN4 {x v:AV} {x':Value} (h:qAH x=some v) (hx:Rel σ ρ x x'):v=x∧qVI x'=true:=by
 have hv:v=x:=by
  unfold qAH at h
  split at h <;> first | (cases h;done) | (cases h;rfl)
 subst hv
 refine ⟨rfl,?_⟩
 cases v
 case fn f as bs=>
  unfold Rel at hx
  obtain ⟨as',bs',rfl,_⟩:=hx
  cases f <;> first | rfl | (simp [qAH] at h;done)
 all_goals (unfold Rel at hx;first
  | (simp [qAH] at h;done)
  | (subst hx;rfl)
  | (obtain ⟨_,_,rfl⟩:=hx;rfl)
  | (obtain ⟨_,_,_,_,rfl,_⟩:=hx;rfl)
  | (obtain ⟨_,rfl,_⟩:=hx;rfl))
theorem qXa {y:Operand} {dst:Option Tmp} {type:TypeId} {pos:String} {after:Array Edge} {guard:Option (Nat × Bool)} (h:qVI (a.eval y)=true) (w:World) :
  (execOp a.eval { dst,op:=.nilCheck y,type,pos,after,guard }).run P w=.ok (.value (a.eval y)) w:=by
 simp only [execOp]
 generalize a.eval y=x' at *
 cases x' with
 | pointer q=>cases q <;> first | rfl | (simp [qVI] at h;done)
 | func f as bs=>cases f <;> first | rfl | (simp [qVI] at h;done)
 | _=>first | rfl | (simp [qVI] at h;done)
theorem qFd {o:Option AV} {x:ANext} {s:Sem Value} (h:bd (lift o) (λx=>ret (ANext.val x)) H=some (x,H')) (hwr:WR σ ρ base H w)
  (hs:∀ v,o=some v→∃ v',s.run P w=.ok v' w∧Rel σ ρ v v'):qLh P σ ρ base H H' w x ((do pure (.value (← s)):Sem Next).run P w):=by
 obtain ⟨v,K,h1,h2⟩:=qAR h
 obtain ⟨v',hv,e⟩:=qCl h1
 cases e
 cases qAK h2
 obtain ⟨u,e,r⟩:=hs v hv
 exact .pure e r hwr
theorem qIY {m:M AV} {x:ANext} {s:Sem Value} (h:bd m (λx=>ret (ANext.val x)) H=some (x,H'))
  (hs:∀ v,m H=some (v,H')→Okay σ ρ base H H' w (λρ' v'=>Rel σ ρ' v v') (s.run P w)):qLh P σ ρ base H H' w x ((do pure (.value (← s)):Sem Next).run P w):=by
 obtain ⟨v,K,h1,h2⟩:=qAR h
 cases qAK h2
 exact .of_val (hs v h1)
theorem qY6 {o:Oper} {x:ANext} (hname:qHT P) (h:opA P T o.op H=some (x,H')) (hT:TRel σ ρ nt T a.tmps) (hσ:One σ) (hwr:WR σ ρ base H w) (hf:Free ρ H.next H'.next) :
  qLh P σ ρ base H H' w x ((execOp a.eval o).run P w):=by
 obtain ⟨dst,op,type,pos,after,guard⟩:=o
 simp only at h
 unfold opA at h
 cases op <;> simp only [execOp] at h ⊢ <;> try (exact (qAD h).elim)
 case move y=>
  generalize hy:ev T y=v at h
  cases v with
  | none=>exact (qAD h).elim
  | some v=>
    obtain ⟨_,K,h1,h2⟩:=qAR h
    cases qAK h1;cases qAK h2
    exact ⟨_,w,ρ,rfl,.refl _ _ _,hwr,.refl _ _,.inl ⟨_,rfl,qBE hy hT⟩⟩
 case assign y=>
  generalize hy:ev T y=v at h
  cases v with
  | none=>exact (qAD h).elim
  | some v=>
    obtain ⟨_,K,h1,h2⟩:=qAR h
    cases qAK h1;cases qAK h2
    exact ⟨_,w,ρ,rfl,.refl _ _ _,hwr,.refl _ _,.inl ⟨_,rfl,qBE hy hT⟩⟩
 case pick c y z=>
  generalize hc:ev T c=v at h
  split at h
  ·rename_i t
   have hcr:=qBE (a:=a) hc hT
   unfold Rel at hcr
   cases t with
   | true=>
     simp only [cond_true] at h
     generalize hy:ev T y=v at h
     cases v with
     | none=>exact (qAD h).elim
     | some v=>
       obtain ⟨_,K,h1,h2⟩:=qAR h
       cases qAK h1;cases qAK h2
       exact ⟨_,w,ρ,by simp [hcr,asBool],.refl _ _ _,hwr,.refl _ _,.inl ⟨_,rfl,qBE hy hT⟩⟩
   | false=>
     simp only [cond_false] at h
     generalize hy:ev T z=v at h
     cases v with
     | none=>exact (qAD h).elim
     | some v=>
       obtain ⟨_,K,h1,h2⟩:=qAR h
       cases qAK h1;cases qAK h2
       exact ⟨_,w,ρ,by simp [hcr,asBool],.refl _ _ _,hwr,.refl _ _,.inl ⟨_,rfl,qBE hy hT⟩⟩
  ·exact (qAD h).elim
 case alloc t=>exact qIY h λv hv=>qWo hv hσ hwr hf
 case box t y=>
  generalize hy:ev T y=v at h
  cases v with
  | none=>exact (qAD h).elim
  | some v=>exact qIY h λu hu=>zAAz hu (qBE hy hT) hσ hwr hf
 case build t ps=>
  generalize hy:qDn T ps.toList=v at h
  cases v with
  | none=>exact (qAD h).elim
  | some l=>exact qFd h hwr λv hv=>qWC hv (by simpa using qKL (a:=a) hy hT) hσ w
 case buildSlice t n ps=>
  generalize hy:qDn T ps.toList=v at h
  cases v with
  | none=>exact (qAD h).elim
  | some l=>exact qIY h λv hv=>qPW hv (by simpa using qKL (a:=a) hy hT) hσ hwr hf
 case load t y=>
  by_cases hgl:∃ g,y=.global g
  ·obtain ⟨g,rfl⟩:=hgl
   refine qIY h λu hu=>?_
   obtain ⟨e1,e2,e3,v',e,r⟩:=qVm (P:=P) hu hwr
   exact .same (by simp [Instr.loadAt,Instr.sureAddr,Act.eval,e]) hwr e1 e2 r
  replace h:(match ev T y with
   | some p=>bd (match p with
     | .ptr b o=>qFa P t b o
     | _=>fail) λr=>ret (ANext.val r)
   | none=>fail) H=some (x,H'):=by
   cases y <;> first | exact absurd ⟨_,rfl⟩ hgl | exact h
  generalize hy:ev T y=v at h
  cases v with
  | none=>exact (qAD h).elim
  | some v=>
    refine qIY h λu hu=>?_
    have hr:=qBE (a:=a) hy hT
    split at hu
    ·rename_i b o
     unfold Rel at hr
     obtain ⟨L,hL,he⟩:=hr
     obtain ⟨e1,e2,e3,v',e,r⟩:=qMd (P:=P) hu hwr hL
     exact .same (by simp [Instr.loadAt,he,Instr.sureAddr,e]) hwr e1 e2 r
    ·exact (qAD hu).elim
 case store t y z=>
  generalize hy:ev T y=v at h
  generalize hz:ev T z=u at h
  cases v with
  | none=>exact (qAD h).elim
  | some v=>
    cases u with
    | none=>exact (qAD h).elim
    | some u=>
      obtain ⟨_,K,h1,h2⟩:=qAR h
      cases qAK h2
      have hr:=qBE (a:=a) hy hT
      have hq:=qBE (a:=a) hz hT
      unfold qJd at h1
      split at h1
      ·rename_i b o
       generalize hs:sz P t=n at h1
       cases n with
       | none=>exact (qAD h1).elim
       | some n=>
         obtain ⟨hl,h3⟩:=qAy h1
         have hl:=bE hl
         unfold Rel at hr
         obtain ⟨L,hL,he⟩:=hr
         have hcs:=qGS hσ hq
         obtain ⟨n1,l1,w',s1,s2,s3⟩:=qFB (P:=P) h3 hσ hwr hL hcs
         have hsize:(a.eval z).cells.size=n:=by have:=hcs.length;simp at this;omega
         exact ⟨.skip,w',ρ,by simp [Instr.storeAt,he,Instr.sureAddr,storeVar,qDk hs,hsize,s1],.refl _ _ _,s2,s3,.inr ⟨rfl,rfl⟩⟩
      ·exact (qAD h1).elim
 case sliceToArrayPointer t y=>
  generalize hy:ev T y=v at h
  cases v with
  | none=>exact (qAD h).elim
  | some v=>
    refine qFd h hwr λu hu=>?_
    have hr:=qBE (a:=a) hy hT
    unfold qYw at hu
    generalize hd:P.underlying t=d at hu
    split at hu
    ·rename_i n e b o len c es
     obtain ⟨hl,hu⟩:=qAY hu
     cases hu
     obtain ⟨h1,h2⟩:=Bool.and_eq_true_iff.1 hl
     have h1:=Nat.le_of_ble_eq_true h1
     have h2:0 < len:=Nat.le_of_ble_eq_true h2
     unfold Rel at hr
     obtain ⟨L,a',c',hL,hv,hor,_⟩:=hr
     have ha:a'=⟨L.blk,L.sh+o,none⟩:=by
      rcases hor with ⟨h,_⟩ | ⟨h,_⟩
      ·exact h
      ·omega
     refine ⟨.pointer (some ⟨L.blk,L.sh+o,none⟩),?_,by unfold Rel;exact ⟨L,hL,rfl⟩⟩
     have hnl:¬ len < n:=by omega
     simp [Instr.arrayAt,run_underlying hd,hv,ha,hnl]
    ·cases hu
 case nilCheck y=>
  generalize hy:ev T y=v at h
  cases v with
  | none=>exact (qAD h).elim
  | some v=>
    obtain ⟨u,K,h1,h2⟩:=qAR h
    obtain ⟨u',hu,e⟩:=qCl h1
    cases e
    cases qAK h2
    obtain ⟨rfl,r⟩:=qN4 hu (qBE (a:=a) hy hT)
    exact ⟨_,w,ρ,qXa (dst:=dst) (type:=type) (pos:=pos) (after:=after) (guard:=guard) r w,.refl _ _ _,hwr,.refl _ _,.inl ⟨_,rfl,qBE hy hT⟩⟩
 case binOp op t y z t2=>
  generalize hy:ev T y=v at h
  generalize hz:ev T z=u at h
  cases v with
  | none=>exact (qAD h).elim
  | some v=>
    cases u with
    | none=>exact (qAD h).elim
    | some u=>exact qFd h hwr λr hr=>qX3 hr (qBE hy hT) (qBE hz hT) w
 case unOp op t y=>
  generalize hy:ev T y=v at h
  cases v with
  | none=>exact (qAD h).elim
  | some v=>exact qFd h hwr λr hr=>qUa hr (qBE hy hT) w
 case convert s d y=>
  generalize hy:ev T y=v at h
  cases v with
  | none=>exact (qAD h).elim
  | some v=>exact qFd h hwr λr hr=>qRm hr (qBE hy hT) w
 case makeInterface t y=>
  generalize hy:ev T y=v at h
  cases v with
  | none=>exact (qAD h).elim
  | some v=>exact qFd h hwr λr hr=>qPk hr (qBE hy hT) w
 case makeFunc f fs cs=>
  have key:∀ g:Fn,(match evs T fs.toList,evs T cs.toList with
    | some a,some b=>ret (ANext.val (.fn g a b))
    | _,_=>fail) H=some (x,H')→qLh P σ ρ base H H' w x ((do pure (.value (← Instr.makeFunc g (fs.map a.eval) (cs.map a.eval))):Sem Next).run P w):=by
   intro g h
   generalize h1:evs T fs.toList=l1 at h
   generalize h2:evs T cs.toList=l2 at h
   cases l1 with
   | none=>exact (qAD h).elim
   | some l1=>
     cases l2 with
     | none=>exact (qAD h).elim
     | some l2=>
       cases qAK h
       have r1:=qM2 (a:=a) h1 hT
       have r2:=qM2 (a:=a) h2 hT
       exact .pure (v':=.func g (fs.map a.eval) (cs.map a.eval)) rfl (by unfold Rel;exact ⟨_,_,rfl,by simpa using r1,by simpa using r2⟩) hwr
  cases f with
  | func k=>exact key _ h
  | method n=>exact key _ h
  | _=>exact (qAD h).elim
 case makeSlice t y z=>
  generalize hy:ev T y=v at h
  generalize hz:ev T z=u at h
  cases v with
  | none=>exact (qAD h).elim
  | some v=>
    cases u with
    | none=>exact (qAD h).elim
    | some u=>exact qIY h λr hr=>qQS hr (qBE hy hT) (qBE hz hT) hσ hwr hf
 case slice t y lo hi mx=>
  generalize hy:ev T y=v at h
  generalize hlo:opt T lo=o1 at h
  generalize hhi:opt T hi=o2 at h
  generalize hmx:opt T mx=o3 at h
  cases v with
  | none=>exact (qAD h).elim
  | some v=>
    cases o1 with
    | none=>exact (qAD h).elim
    | some o1=>
      cases o2 with
      | none=>exact (qAD h).elim
      | some o2=>
        cases o3 with
        | none=>exact (qAD h).elim
        | some o3=>exact qIY h λr hr=>qVM hr (qBE hy hT) (qOw hlo hT) (qOw hhi hT) (qOw hmx hT) hwr
 case fieldAddr s y f=>
  generalize hy:ev T y=v at h
  cases v with
  | none=>exact (qAD h).elim
  | some v=>exact qFd h hwr λr hr=>qPD hr (qBE hy hT) w
 case field s y f=>
  generalize hy:ev T y=v at h
  cases v with
  | none=>exact (qAD h).elim
  | some v=>exact qFd h hwr λr hr=>qWF hr (qBE hy hT) w
 case indexAddr t y z=>
  generalize hy:ev T y=v at h
  generalize hz:ev T z=u at h
  cases v with
  | none=>exact (qAD h).elim
  | some v=>
    cases u with
    | none=>exact (qAD h).elim
    | some u=>exact qFd h hwr λr hr=>qPU hr (qBE hy hT) (qBE hz hT) w
 case index t y z=>
  generalize hy:ev T y=v at h
  generalize hz:ev T z=u at h
  cases v with
  | none=>exact (qAD h).elim
  | some v=>
    cases u with
    | none=>exact (qAD h).elim
    | some u=>exact qFd h hwr λr hr=>qVR hr (qBE hy hT) (qBE hz hT) w
 case typeAssert y t as_ ok=>
  generalize hy:ev T y=v at h
  cases v with
  | none=>exact (qAD h).elim
  | some v=>exact qFd h hwr λr hr=>qN8 hr (qBE hy hT) w
 case extract y i=>
  generalize hy:ev T y=v at h
  cases v with
  | none=>exact (qAD h).elim
  | some v=>exact qFd h hwr λr hr=>qRQ hr (qBE hy hT) w
 case makeMap t r=>
  generalize hu:P.underlying t=d at h
  generalize ho:opt T r=o at h
  have hr:=λo1 (e:o=some o1)=>qOw (a:=a) (ho.trans e) hT
  split at h
  ·have:=hr _ rfl
   cases r with
   | none=>exact qIY h λv hv=>qOk hv hwr hf t none (λx hx=>by cases hx)
   | some y=>cases this
  ·have:=hr _ rfl
   cases r with
   | none=>cases this
   | some y=>
     cases this
     rename_i q
     unfold Rel at q
     exact qIY h λv hv=>qOk hv hwr hf t _ (λx hx=>by cases hx;exact ⟨_,_,_,_,q,hu⟩)
  ·exact (qAD h).elim
 case lookup t y z ok=>
  generalize hy:ev T y=v at h
  generalize hz:ev T z=u at h
  cases v with
  | none=>exact (qAD h).elim
  | some v=>
    cases u with
    | none=>exact (qAD h).elim
    | some u=>exact qIY h λr hr=>qUw hr (qBE hy hT) (qBE hz hT) hwr
 case mapUpdate t m k y=>
  generalize hm:ev T m=v1 at h
  generalize hk:ev T k=v2 at h
  generalize hy:ev T y=v3 at h
  cases v1 with
  | none=>exact (qAD h).elim
  | some v1=>
    cases v2 with
    | none=>exact (qAD h).elim
    | some v2=>
      cases v3 with
      | none=>exact (qAD h).elim
      | some v3=>
        obtain ⟨_,K,h1,h2⟩:=qAR h
        cases qAK h2
        obtain ⟨n1,l1,w',s1,s2,s3⟩:=qL6 h1 (qBE hm hT) (qBE hk hT) (qBE hy hT) hwr
        exact ⟨.skip,w',ρ,by simp [s1],.refl _ _ _,s2,s3,.inr ⟨rfl,rfl⟩⟩
 case insert t m k y=>
  generalize hm:ev T m=v1 at h
  generalize hk:ev T k=v2 at h
  generalize hy:ev T y=v3 at h
  cases v1 with
  | none=>exact (qAD h).elim
  | some v1=>
    cases v2 with
    | none=>exact (qAD h).elim
    | some v2=>
      cases v3 with
      | none=>exact (qAD h).elim
      | some v3=>
        obtain ⟨_,K,h1,h2⟩:=qAR h
        cases qAK h2
        obtain ⟨n1,l1,w',s1,s2,s3⟩:=qL6 h1 (qBE hm hT) (qBE hk hT) (qBE hy hT) hwr
        exact ⟨.skip,w',ρ,by simp [s1],.refl _ _ _,s2,s3,.inr ⟨rfl,rfl⟩⟩
 case range t y=>
  generalize hy:ev T y=v at h
  cases v with
  | none=>exact (qAD h).elim
  | some v=>exact qIY h λu hu=>qX4 hu (qBE hy hT) hwr hf
 case entry y=>
  generalize hy:ev T y=v at h
  cases v with
  | none=>exact (qAD h).elim
  | some v=>exact qIY h λu hu=>qXt hu (qBE hy hT) hwr
 case call c=>exact qZW hname h hT hσ hwr hf
end
end Go.AM
namespace Go.AM
open Go Go.RowKit
def FR (r:Option Nat):Fence:={ Fence.wide with round:=r }
section
variable {P:Program} {σ:Nat→Value} {ρ:Ren} {base:Nat} {H H':AH} {w:World} {nt:Nat} {T:Tmps} {a:Act}
structure Post (σ:Nat→Value) (ρ ρ':Ren) (base:Nat) (H H':AH) (w w':World):Prop where
 ext:Ext ρ ρ' H.next H'.next
 wr:WR σ ρ' base H' w'
 below:Below base w w'
def qFZ (σ:Nat→Value) (ρ:Ren) (base:Nat) (H H':AH) (w:World) (v:AV):Ending→World→Prop:=
 λe w'=>∃ v' ρ',e=.returned v'∧Post σ ρ ρ' base H H' w w'∧Rel σ ρ' v v'
def qLJ (P:Program) (ih:Task→M Out):Prop:=∀ (f:FuncId) (args:List AV) (H:AH) (v:AV) (H':AH),ih (.call f args) H=some (.val v,H')→
 ∀ (σ:Nat→Value) (ρ:Ren) (base:Nat) (w:World) (args':Array Value),One σ→WR σ ρ base H w→Free ρ H.next H'.next→RelL σ ρ args args'.toList→
  CallsIn Fence.wide 0 P f args' w (qFZ σ ρ base H H' w v)
def qI7 (P:Program) (ih:Task→M Out):Prop:=∀ (l:Nat) (args:List AV) (H:AH) (v:AV) (H':AH),ih (.round l args) H=some (.val v,H')→
 ∀ (σ:Nat→Value) (ρ:Ren) (base:Nat) (w:World) (args':Array Value) (L:Loc) (n:Next),One σ→WR σ ρ base H w→Free ρ H.next H'.next→ρ l=some L→RelL σ ρ args args'.toList→
  (Instr.yield L.blk args').run P w=.ok n w→∃ fn tm as bo,n=.round L.blk fn tm as bo∧RoundIn Fence.wide 0 P L.blk fn tm as bo w (qFZ σ ρ base H H' w v)
theorem qD9 {v:AV} {v':Value} {dst:Option Tmp} {T':Tmps} (h:setT nt T dst v=some T') (hT:TRel σ ρ nt T a.tmps) (hv:Rel σ ρ v v'):TRel σ ρ nt T' (a.put dst v').tmps:=by
 cases dst with
 | none=>cases h;exact hT
 | some d=>
   simp only [setT] at h
   obtain ⟨hd,h⟩:=qAY h
   cases h
   have hd:d < nt:=by simpa [Nat.blt_eq] using hd
   refine ⟨by simp [Act.put,hT.size],λi=>?_⟩
   have hlt:d < a.tmps.size:=by rw [hT.size];exact hd
   simp only [tget,Tr.get_put,Act.put]
   by_cases hi:d=i
   ·subst hi;simp [hlt];exact hv
   ·have:=hT.at_ i
    unfold tget at this
    simp only [if_neg hi,Array.getD_eq_getD_getElem?,Array.getElem?_setIfInBounds_ne hi] at this ⊢
    exact this
theorem qBp (a:Act) (dst:Option Tmp) (v:Value):(a.put dst v).defers=a.defers:=by cases dst <;> rfl
theorem qLW {ops:Array Oper} {o:Oper} {b:Bool} (h:qCT ops.toList T o.guard=some b) (hT:TRel σ ρ nt T a.tmps):Region.wanted o (yielded ops a.tmps)=b:=by
 unfold Region.wanted
 unfold qCT at h
 cases hg:o.guard with
 | none=>simp only [hg] at h ⊢;cases h;rfl
 | some g=>
   obtain ⟨j,want⟩:=g
   simp only [hg] at h ⊢
   unfold yielded
   cases hj:ops[j]? with
   | none=>
     have:ops.toList[j]?=none:=by rw [Array.getElem?_toList];exact hj
     simp only [this] at h;cases h;rfl
   | some oj=>
     have:ops.toList[j]?=some oj:=by rw [Array.getElem?_toList];exact hj
     simp only [this] at h
     cases hd:oj.dst with
     | none=>simp only [hd] at h;cases h;simp [hd]
     | some d=>
       simp only [hd] at h
       simp only [Option.bind_some,hd]
       have hr:=hT.at_ d
       unfold tget at hr
       have notBool:∀ x:AV,Rel σ ρ x (a.tmps.getD d undef)→(∀ b,x≠.bool b)→(∀ i,x≠.opq i)→∀ b,a.tmps[d]?≠some (.bool b):=by
        intro x hx h1 h2 b hb
        have e:a.tmps.getD d undef=.bool b:=by simp [Array.getD_eq_getD_getElem?,hb]
        rw [e] at hx
        cases x <;> unfold Rel at hx <;> first
         | exact h1 _ rfl
         | exact h2 _ rfl
         | (cases hx;done)
         | (obtain ⟨_,_,hx⟩:=hx;cases hx;done)
         | (obtain ⟨_,_,_,_,hx,_⟩:=hx;cases hx;done)
         | (obtain ⟨_,_,hx,_⟩:=hx;cases hx;done)
         | (obtain ⟨_,hx,_⟩:=hx;cases hx;done)
       cases hx:T.get d with
       | none=>
         simp only [hx] at h hr
         cases h
         have hno:=notBool _ hr (by simp [AV.undef]) (by simp [AV.undef])
         cases hx2:a.tmps[d]? with
         | none=>rfl
         | some y=>cases y <;> first | rfl | exact absurd hx2 (hno _)
       | some x=>
         rw [hx] at hr
         simp only [Option.getD_some] at hr
         cases x with
         | bool b'=>
           simp only [hx] at h
           cases h
           unfold Rel at hr
           have hlt:d < a.tmps.size:=by
            rcases Nat.lt_or_ge d a.tmps.size with h | h
            ·exact h
            ·simp [Array.getD_eq_getD_getElem?,Array.getElem?_eq_none h,undef] at hr
           have e:a.tmps[d]?=some (.bool b'):=by
            rw [Array.getElem?_eq_getElem hlt]
            simp [Array.getD_eq_getD_getElem?,hlt] at hr
            rw [hr]
           rw [e]
           cases b' <;> cases want <;> rfl
         | opq i=>simp only [hx] at h;cases h
         | _=>
           simp only [hx] at h
           cases h
           have hno:=notBool _ hr (by simp) (by simp)
           cases hx2:a.tmps[d]? with
           | none=>rfl
           | some y=>cases y <;> first | rfl | exact absurd hx2 (hno _)
theorem qEH {o:Oper} {r:Option Nat} {ρ':Operand→Value}:∀ f,o.about P w ρ'=some f→(FR r).fn f:=λ_ _=>trivial
theorem qMY {ih:Task→M Out} (hc:qLJ P ih) (hr:qI7 P ih) (hname:qHT P) {ops:Array Oper} {o:Oper} {v:AV} {r:Option Nat} {Q:Exit→Act→World→Prop} {K:Act→World→Prop}
  (h:qDc P ih ops.toList o T H=some (v,H')) (hfr:∀ t,Fr (ih t)) (hT:TRel σ ρ nt T a.tmps) (hσ:One σ) (hwr:WR σ ρ base H w) (hf:Free ρ H.next H'.next)
  (hK:∀ v' w' ρ',Post σ ρ ρ' base H H' w w'→Rel σ ρ' v v'→K (a.put o.dst v') w') :
  if Region.wanted o (yielded ops a.tmps) then o.wpIn (FR r) 0 P a w K Q else (∀ f,o.about P w a.eval=some f→(FR r).fn f)∧K (a.put o.dst undef) w:=by
 unfold qDc at h
 generalize hw:qCT ops.toList T o.guard=wb at h
 cases wb with
 | none=>exact (qAD h).elim
 | some wb=>
   rw [qLW hw hT]
   cases wb with
   | false=>
     cases qAK h
     exact ⟨qEH,hK _ _ ρ ⟨.refl _ _ _,hwr,.refl _ _⟩ qKl⟩
   | true=>
     simp only [if_true]
     obtain ⟨x,K1,h1,h2⟩:=qAR h
     have hnd:∀ c,o.op≠.defer c:=λc e=>by rw [e] at h1;exact qAD (H:=H) h1
     have m1:H.next≤K1.next:=by obtain ⟨es,d,_⟩:=qYQ P T o.op H x K1 h1;exact d.next
     have m2:K1.next≤H'.next:=by obtain ⟨es,d,_⟩:=qSx hfr x K1 v H' h2;exact d.next
     obtain ⟨nx,w1,ρ1,e1,x1,x2,x3,x4⟩:=qY6 (P:=P) (a:=a) hname h1 hT hσ hwr (hf.left m2)
     refine ⟨qEH,?_⟩
     rw [Oper.semAt_eq _ _ _ hnd,e1]
     have hf1:Free ρ1 K1.next H'.next:=x1.free hf m1
     have fin:∀ v' w' ρ',Post σ ρ1 ρ' base K1 H' w1 w'→Rel σ ρ' v v'→K (a.put o.dst v') w':=λv' w' ρ' hp hv=>
      hK v' w' ρ' ⟨x1.trans hp.ext m1 m2,hp.wr,x3.trans hp.below⟩ hv
     cases x with
     | val u=>
       cases qAK h2
       rcases x4 with ⟨v',rfl,hv⟩ | ⟨rfl,rfl⟩
       ·exact fin v' w1 ρ1 ⟨.refl _ _ _,x2,.refl _ _⟩ hv
       ·exact fin undef w1 ρ1 ⟨.refl _ _ _,x2,.refl _ _⟩ qKl
     | enter f args=>
       obtain ⟨args',rfl,hargs⟩:=x4
       obtain ⟨out,K2,h3,h4⟩:=qAR h2
       cases out with
       | exit e T ms=>exact (qAD h4).elim
       | val u=>
         cases qAK h4
         have:=hc f args K1 v H' h3 σ ρ1 base w1 args' hσ x2 hf1 hargs
         refine ⟨λh=>by simp [FR,Fence.wide] at h,?_⟩
         have h5:CallsIn (FR r) 0 P f args' w1 (qFZ σ ρ1 base K1 H' w1 v):=this
         refine h5.mono ?_
         rintro e w2 ⟨v',ρ',rfl,hp,hv⟩
         exact fin v' w2 ρ' hp hv
     | round l args=>
       obtain ⟨L,args',hL,hargs,hy⟩:=x4
       obtain ⟨out,K2,h3,h4⟩:=qAR h2
       cases out with
       | exit e T ms=>exact (qAD h4).elim
       | val u=>
         cases qAK h4
         obtain ⟨fn,tm,as,bo,rfl,hri⟩:=hr l args K1 v H' h3 σ ρ1 base w1 args' L nx hσ x2 hf1 hL hargs hy
         refine ⟨λh=>by simp [FR,Fence.wide] at h,?_⟩
         have h5:RoundIn (FR r) 0 P L.blk fn tm as bo w1 (qFZ σ ρ1 base K1 H' w1 v):=hri
         refine h5.mono ?_
         rintro e w2 ⟨v',ρ',rfl,hp,hv⟩
         exact fin v' w2 ρ' hp hv
theorem qOb {ih:Task→M Out} {all:List Oper} {o:Oper} {T':Tmps} (h:qJ5 P ih nt all o T H=some (T',H')):∃ v,qDc P ih all o T H=some (v,H')∧setT nt T o.dst v=some T':=by
 obtain ⟨v,K,h1,h2⟩:=qAR h
 obtain ⟨x,hx,e⟩:=qCl h2
 cases e
 exact ⟨v,h1,hx⟩
theorem qUd {ih:Task→M Out} (hc:qLJ P ih) (hr:qI7 P ih) (hname:qHT P) (hfr:∀ t,Fr (ih t)) {ops:Array Oper} {r:Option Nat} {Q:Exit→Act→World→Prop} (hσ:One σ) (rest:List Nat) :
  ∀ (os:List Oper) (k:Nat) (T:Tmps) (H:AH) (T':Tmps) (ρ:Ren) (w:World) (a:Act),(∀ j,j < os.length→os[j]?=ops[k+j]?)→opsA P ih nt ops.toList os T H=some (T',H')→TRel σ ρ nt T a.tmps→WR σ ρ base H w→Free ρ H.next H'.next→
   (∀ a' w' ρ',Post σ ρ ρ' base H H' w w'→TRel σ ρ' nt T' a'.tmps→a'.defers=a.defers→wpOpsIn (FR r) 0 P ops Q rest a' w')→wpOpsIn (FR r) 0 P ops Q (List.range' k os.length ++ rest) a w:=by
 intro os
 induction os with
 | nil=>
   intro k T H T' ρ w a hk h hT hwr hf hQ
   cases qAK h
   simp only [List.length_nil,List.range'_zero,List.nil_append]
   exact hQ a w ρ ⟨.refl _ _ _,hwr,.refl _ _⟩ hT rfl
 | cons o os ih2=>
   intro k T H T' ρ w a hk h hT hwr hf hQ
   obtain ⟨T1,K,h1,h2⟩:=qAR h
   obtain ⟨v,h3,h4⟩:=qOb h1
   have h0:ops[k]?=some o:=by have:=hk 0 (by simp);simpa using this.symm
   have m1:H.next≤K.next:=by obtain ⟨es,d,_⟩:=qJl P hfr _ _ _ H v K h3;exact d.next
   have m2:K.next≤H'.next:=by obtain ⟨es,d,_⟩:=qOr P hfr _ _ _ _ K T' H' h2;exact d.next
   simp only [List.length_cons,List.range'_succ,List.cons_append,wpOpsIn,h0]
   refine qMY hc hr hname h3 hfr hT hσ hwr (hf.left m2) ?_
   intro v' w1 ρ1 hp hv
   refine ih2 (k+1) T1 K T' ρ1 w1 (a.put o.dst v') (λj hj=>by have:=hk (j+1) (by simpa using hj);rw [show k+1+j=k+(j+1) from by omega];simpa using this) h2 (qD9 h4 (hT.mono hp.ext.le) hv) hp.wr (hp.ext.free hf m1) ?_
   intro a' w' ρ' hp' hT' hd
   exact hQ a' w' ρ' ⟨hp.ext.trans hp'.ext m1 m2,hp'.wr,hp.below.trans hp'.below⟩ hT' (hd.trans (qBp _ _ _))
end
end Go.AM
namespace Go.AM
open Go Go.RowKit
theorem qO4 (T:Tmps) (t:Tmp):ev T (.tmp t)=some (tget T t):=by simp only [ev,tget];cases T.get t <;> rfl
theorem qLD {T T':Tmps}:∀ {l:List Operand},(∀ x∈l,ev T x=ev T' x)→evs T l=evs T' l
 | [],_=>rfl
 | x :: l,h=>by unfold evs;rw [h x (by simp),qLD (λy hy=>h y (by simp [hy]))]
theorem qIA {T T':Tmps}:∀ {l:List (Nat × Operand)},(∀ x∈l.map (·.2),ev T x=ev T' x)→qDn T l=qDn T' l
 | [],_=>rfl
 | (i,x) :: l,h=>by unfold qDn;rw [h x (by simp),qIA (λy hy=>h y (by simp at hy ⊢;exact .inr hy))]
theorem qLT {T T':Tmps} {x:Option Operand} (h:∀ y,x=some y→ev T y=ev T' y):opt T x=opt T' x:=by
 cases x with
 | none=>rfl
 | some y=>simp only [opt];rw [h y rfl]
theorem qRE {P:Program} {T T':Tmps} {c:Call} (h:∀ x∈c.operands,ev T x=ev T' x):qH9 P T c=qH9 P T' c:=by
 have h1:evs T c.args.toList=evs T' c.args.toList:=qLD λx hx=>h x (by simp [Call.operands];right;simpa using hx)
 unfold qH9
 rw [h1]
 cases hc:c.callee with
 | builtin b=>rfl
 | invoke r n=>dsimp only;rw [h r (by simp [Call.operands,hc])]
 | value f=>dsimp only;rw [h f (by simp [Call.operands,hc])]
theorem qQQ {P:Program} {T T':Tmps} {o:Op} (h:∀ x∈o.operands,ev T x=ev T' x):opA P T o=opA P T' o:=by
 cases o <;> simp only [Op.operands] at h <;> unfold opA <;> simp only
 case build t ps=>rw [qIA (T:=T) (T':=T') (λx hx=>h x (by simpa using hx))]
 case buildSlice t n ps=>rw [qIA (T:=T) (T':=T') (λx hx=>h x (by simpa using hx))]
 case makeFunc f a b=>rw [qLD (T:=T) (T':=T') (l:=a.toList) (λx hx=>h x (by simp at hx ⊢;exact .inl hx)),qLD (T:=T) (T':=T') (l:=b.toList) (λx hx=>h x (by simp at hx ⊢;exact .inr hx))]
 case call c=>exact qRE h
 case load ty x=>cases x <;> first | rfl | (simp only;rw [h _ (by simp)])
 case slice t x lo hi mx=>
  rw [h x (by simp),qLT (T:=T) (T':=T') (x:=lo) (λy hy=>h y (by simp [hy])),qLT (T:=T) (T':=T') (x:=hi) (λy hy=>h y (by simp [hy])),qLT (T:=T) (T':=T') (x:=mx) (λy hy=>h y (by simp [hy]))]
 all_goals first
  | rfl
  | (simp only [h _ (by simp:_∈_)];done)
  | (rename_i x y;rw [h x (by simp),h y (by simp)];done)
  | (rename_i x y z;rw [h x (by simp),h y (by simp),h z (by simp)];done)
  | (rename_i x;rw [h x (by simp)];done)
  | skip
 case binOp op ty x y yt=>rw [h x (by simp),h y (by simp)]
 case fieldAddr ty x f=>rw [h x (by simp)]
 case field ty x f=>rw [h x (by simp)]
 case typeAssert x a b c=>rw [h x (by simp)]
 case extract x i=>rw [h x (by simp)]
 case makeMap t r=>rw [qLT (T:=T) (T':=T') (x:=r) (λy hy=>h y (by simp [hy]))]
 case lookup t x k ok=>rw [h x (by simp),h k (by simp)]
theorem qNU {P:Program} {ih:Task→M Out} {ops:Array Oper} {o:Oper} {T T':Tmps} (h:∀ t∈o.looksAt ops,tget T t=tget T' t):qDc P ih ops.toList o T=qDc P ih ops.toList o T':=by
 have hev:∀ x∈o.op.operands,ev T x=ev T' x:=by
  intro x hx
  cases x with
  | tmp t=>rw [qO4,qO4,h t (List.mem_append_left _ (List.mem_filterMap.2 ⟨.tmp t,by simpa using hx,rfl⟩))]
  | _=>rfl
 have hw:qCT ops.toList T o.guard=qCT ops.toList T' o.guard:=by
  unfold qCT
  cases hg:o.guard with
  | none=>rfl
  | some g=>
    obtain ⟨j,want⟩:=g
    dsimp only
    cases hj:ops.toList[j]? with
    | none=>rfl
    | some oj=>
      dsimp only
      cases hd:oj.dst with
      | none=>rfl
      | some d=>
        dsimp only
        have hj':ops[j]?=some oj:=by rw [← Array.getElem?_toList];exact hj
        have:=h d (List.mem_append_right _ (by simp [hg,hj',hd]))
        unfold tget at this
        cases h1:T.get d with
        | none=>
          cases h2:T'.get d with
          | none=>rfl
          | some y=>rw [h1,h2] at this;simp [AV.undef] at this;subst this;rfl
        | some x=>
          cases h2:T'.get d with
          | none=>rw [h1,h2] at this;simp [AV.undef] at this;subst this;rfl
          | some y=>rw [h1,h2] at this;simp at this;subst this;rfl
 unfold qDc
 rw [hw,qQQ hev]
def qOL (acc:List Nat) (s:Nat) (e:Edge):Nat:=cond (Region.binds .any e) (s ||| (2 ^ e.on ||| acc.getD e.on 0)) s
theorem qYP (acc:List Nat):∀ (l:List Edge) (s i:Nat),Nat.testBit (l.foldl (qOL acc) s) i=true→Nat.testBit s i=true∨∃ e∈l,Region.binds .any e=true∧(e.on=i∨Nat.testBit (acc.getD e.on 0) i=true)
 | [],s,i,h=>.inl h
 | e :: l,s,i,h=>by
   rcases qYP acc l _ i h with h | ⟨e',he,hb⟩
   ·unfold qOL at h
    cases hb:Region.binds .any e with
    | false=>rw [hb] at h;exact .inl h
    | true=>
      rw [hb] at h
      simp only [cond_true,Nat.testBit_or,Bool.or_eq_true] at h
      rcases h with h | h | h
      ·exact .inl h
      ·refine .inr ⟨e,by simp,hb,.inl ?_⟩
       rw [Nat.testBit_two_pow] at h;simpa using h
      ·exact .inr ⟨e,by simp,hb,.inr h⟩
   ·exact .inr ⟨e',by simp [he],hb⟩
theorem qOQ:∀ (os:List Oper) (acc:List Nat),∃ L:List Nat,masks os acc=acc ++ L∧L.length=os.length∧
  ∀ j o,os[j]?=some o→∃ pre:List Nat,(∀ k,k < acc.length+j→pre[k]?=(acc ++ L)[k]?)∧pre.length=acc.length+j∧L[j]?=some (o.after.toList.foldl (qOL pre) 0):=by
 intro os
 induction os with
 | nil=>intro acc;exact ⟨[],by simp [masks],rfl,λj o h=>by simp at h⟩
 | cons o os ih=>
   intro acc
   obtain ⟨L,h1,h2,h3⟩:=ih (acc ++ [o.after.toList.foldl (qOL acc) 0])
   refine ⟨o.after.toList.foldl (qOL acc) 0 :: L,?_,by simp [h2],λj q hq=>?_⟩
   ·show masks os (acc ++ [_])=_
    rw [show (acc ++ [o.after.toList.foldl (λs e=>cond (Region.binds .any e) (s ||| (2 ^ e.on ||| acc.getD e.on 0)) s) 0])=acc ++ [o.after.toList.foldl (qOL acc) 0] from rfl,h1]
    simp
   ·cases j with
    | zero=>
      simp at hq;subst hq
      exact ⟨acc,λk hk=>by rw [List.getElem?_append_left (by omega)],by simp,by simp⟩
    | succ j=>
      simp at hq
      obtain ⟨pre,p1,p2,p3⟩:=h3 j q hq
      refine ⟨pre,λk hk=>?_,by rw [p2];simp;omega,by simpa using p3⟩
      rw [p1 k (by simp;omega)];simp
theorem qKN {ops:Array Oper} (hb:∀ (j:Nat) (o:Oper),ops[j]?=some o→∀ e∈o.after,Region.binds .any e=true→e.on < j) (X:Nat→Prop)
  (hX:∀ (j:Nat) (o:Oper),ops[j]?=some o→X j→∀ e∈o.after,Region.binds .any e=true→X e.on) :
  ∀ (j:Nat) (o:Oper) (mk i:Nat),ops[j]?=some o→(masks ops.toList [])[j]?=some mk→Nat.testBit mk i=true→(∀ e∈o.after,Region.binds .any e=true→X e.on)→X i:=by
 obtain ⟨L,h1,h2,h3⟩:=qOQ ops.toList []
 rw [h1]
 simp only [List.nil_append] at h3 ⊢
 intro j
 induction j using Nat.strongRecOn with
 | _ j ih=>
   intro o mk i ho hmk hbit hready
   obtain ⟨pre,p1,p2,p3⟩:=h3 j o (by rw [Array.getElem?_toList];exact ho)
   rw [p3] at hmk;cases hmk
   rcases qYP pre _ _ _ hbit with h | ⟨e,he,hbe,h⟩
   ·simp at h
   ·have he':e∈o.after:=Array.mem_def.2 he
    rcases h with rfl | h
    ·exact hready e he' hbe
    ·have hlt:=hb j o ho e he' hbe
     have hXe:=hready e he' hbe
     have hge:e.on < ops.size:=by have:=(Array.getElem?_eq_some_iff.1 ho).1;omega
     have hoe:ops[e.on]?=some ops[e.on]:=Array.getElem?_eq_getElem hge
     have hm:L[e.on]?=some (pre.getD e.on 0):=by
      rw [← p1 e.on (by simp at p2 ⊢;omega)]
      have:e.on < pre.length:=by simp at p2;omega
      simp [List.getD_eq_getElem?_getD,gE this]
     exact ih e.on hlt _ _ i hoe hm h (hX e.on _ hoe hXe)
theorem qFD:∀ (l:List Oper) (i:Nat),qJe l i=true→∀ j o,l[j]?=some o→∀ e∈o.after,Region.binds .any e=true→e.on < i+j
 | [],_,_,j,o,h=>by simp at h
 | p :: l,i,h,j,o,ho=>by
   simp only [qJe,Bool.and_eq_true] at h
   cases j with
   | zero=>
     simp at ho;subst ho
     intro e he hb
     have:=List.all_eq_true.1 h.1 e (Array.mem_def.1 he)
     simp only [hb,Bool.not_true,Bool.false_or,Nat.blt_eq] at this
     omega
   | succ j=>
     simp at ho
     intro e he hb
     have:=qFD l (i+1) h.2 j o ho e he hb
     omega
theorem qOI {a b:List (Nat × Bool)} (h:clash a b=false):∀ id x y,(id,x)∈a→(id,y)∈b→x=false∧y=false:=by
 have c1:∀ (e:Nat × Bool) (fs:List (Nat × Bool)),qND e fs=false→∀ y,(e.1,y)∈fs→e.2=false∧y=false:=by
  intro e fs
  induction fs with
  | nil=>intro _ y hy;cases hy
  | cons f fs ih=>
    intro h y hy
    simp only [qND,Bool.or_eq_false_iff,Bool.and_eq_false_iff] at h
    rcases mC hy with rfl | hy
    ·rcases h.1 with h | h
     ·simp at h
     ·exact h
    ·exact ih h.2 y hy
 induction a with
 | nil=>intro id x y hx;cases hx
 | cons e es ih=>
   intro id x y hx hy
   simp only [clash,Bool.or_eq_false_iff] at h
   rcases mC hx with rfl | hx
   ·exact c1 _ _ h.1 y hy
   ·exact ih h.2 id x y hx hy
theorem qLv {all:Array Oper} {o:Oper} {mk:Nat} {es:List (Nat × Bool)}:∀ (l:List (Oper × List (Nat × Bool))) (i:Nat),against all o mk es l i=true→
  ∀ j p,l[j]?=some p→Nat.testBit mk (i+j)=true∨(Oper.apart all p.1 o=true∧clash p.2 es=false)
 | [],_,_,j,p,h=>by simp at h
 | q :: l,i,h,j,p,hp=>by
   simp only [against,Bool.and_eq_true,Bool.or_eq_true,Bool.not_eq_true'] at h
   cases j with
   | zero=>simp at hp;subst hp;exact h.1
   | succ j=>
     simp at hp
     have:=qLv l (i+1) h.2 j p hp
     rw [show i+(j+1)=i+1+j from by omega];exact this
end Go.AM
namespace Go.AM
open Go Go.RowKit
section
variable {P:Program} {nt:Nat} {ih:Task→M Out}
structure Did (P:Program) (ih:Task→M Out) (nt:Nat) (all:List Oper) (o:Oper) (T:Tmps) (H:AH) (v:AV) (e:List (Nat × Bool)) (T':Tmps) (H':AH):Prop where
 set:setT nt T o.dst v=some T'
 does:Does e H H'
 fr:∀ H2:AH,H2.next=H.next→H2.lo=H.lo→(∀ id b,(id,b)∈e→H2.blks.get id=H.blks.get id)→
  ∃ H2',qDc P ih all o T H2=some (v,H2')∧Does e H2 H2'∧H2'.next=H'.next∧∀ id b,(id,b)∈e→H2'.blks.get id=H'.blks.get id
theorem zABM {all:List Oper} {o:Oper} {T T':Tmps} {H H':AH} {e:List (Nat × Bool)} (hfr:∀ t,Fr (ih t)) (h:capture (qJ5 P ih nt all o T) H=some ((T',e),H')) :
  ∃ v,Did P ih nt all o T H v e T' H':=by
 obtain ⟨d,⟨K,h1,h2,h3,h4⟩,_⟩:=qPu (qMT P hfr nt all o T) h
 obtain ⟨v,h5,h6⟩:=qOb h1
 obtain ⟨e',d',k⟩:=qJl P hfr all o T _ v K h5
 have he:e'=e:=by
  have a1:K.log=e':=by simpa using d'.log
  unfold capture at h
  rw [h1] at h
  simp only [Option.some.injEq,Prod.mk.injEq] at h
  rw [← a1];exact h.1.2
 subst he
 refine ⟨v,h6,d,λH2 hn hl hag=>?_⟩
 obtain ⟨H2',e2,d2,n2,g2⟩:=k H2 hn (Nat.le_of_eq hl) hag
 exact ⟨H2',e2,d2,n2.trans h3,λid b hb=>by rw [g2 id b hb,h2]⟩
def Sep (all:Array Oper) (mk i:Nat) (p o:Oper) (e f:List (Nat × Bool)):Prop:=Nat.testBit mk i=true∨(Oper.apart all p o=true∧clash e f=false)
theorem trace {all:Array Oper} (hfr:∀ t,Fr (ih t)):∀ (os:List Oper) (mks:List Nat) (done:List (Oper × List (Nat × Bool))) (k:Nat) (T:Tmps) (H:AH) (T':Tmps) (H':AH),done.length=k→
  opsD P ih nt all os mks done T H=some (T',H')→
  ∃ (Ts:Nat→Tmps) (Hs:Nat→AH) (vs:Nat→AV) (es:Nat→List (Nat × Bool)),Ts k=T∧Hs k=H∧Ts (k+os.length)=T'∧Hs (k+os.length)=H'∧
   ∀ j o,os[j]?=some o→Did P ih nt all.toList o (Ts (k+j)) (Hs (k+j)) (vs (k+j)) (es (k+j)) (Ts (k+j+1)) (Hs (k+j+1))∧
    ∃ mk,mks[j]?=some mk∧(∀ i p,done[i]?=some p→Sep all mk i p.1 o p.2 (es (k+j)))∧(∀ i p,i < j→os[i]?=some p→Sep all mk (k+i) p o (es (k+i)) (es (k+j))):=by
 intro os
 induction os with
 | nil=>
   intro mks done k T H T' H' hk h
   cases qAK h
   exact ⟨λ_=>T,λ_=>H,λ_=>.undef,λ_=>[],rfl,rfl,rfl,rfl,λj o h=>by simp at h⟩
 | cons o os ih2=>
   intro mks done k T H T' H' hk h
   cases mks with
   | nil=>exact (qAD h).elim
   | cons mk mks=>
     obtain ⟨⟨T1,e⟩,H1,h1,h2⟩:=qAR h
     obtain ⟨h3,h4⟩:=qAy h2
     obtain ⟨v,hd⟩:=zABM hfr h1
     obtain ⟨Ts,Hs,vs,es,a1,a2,a3,a4,a5⟩:=ih2 mks (done ++ [(o,e)]) (k+1) T1 H1 T' H' (by simp [hk]) h4
     refine ⟨λj=>if j=k then T else Ts j,λj=>if j=k then H else Hs j,λj=>if j=k then v else vs j,λj=>if j=k then e else es j,if_pos rfl,if_pos rfl,?_,?_,?_⟩
     ·show (if _ then _ else _)=_
      rw [if_neg (by simp)]
      rw [← a3];congr 1;simp;omega
     ·show (if _ then _ else _)=_
      rw [if_neg (by simp)]
      rw [← a4];congr 1;simp;omega
     ·intro j q hq
      cases j with
      | zero=>
        simp at hq;subst hq
        simp only [Nat.add_zero,if_true,if_neg (show ¬ k+1=k by omega),a1,a2]
        exact ⟨hd,mk,rfl,λi p hp=>by have:=qLv done 0 h3 i p hp;simpa [Sep] using this,λi p hi=>by omega⟩
      | succ j=>
        simp at hq
        have e1:k+(j+1)=k+1+j:=by omega
        obtain ⟨b1,mk',b2,b3,b4⟩:=a5 j q hq
        simp only [e1,if_neg (show ¬ k+1+j=k by omega),if_neg (show ¬ k+1+j+1=k by omega)]
        refine ⟨b1,mk',by simpa using b2,λi p hp=>b3 i p ?_,λi p hi hp=>?_⟩
        ·rw [List.getElem?_append_left (gS hp).1];exact hp
        ·cases i with
         | zero=>
           simp at hp;subst hp
           simp only [Nat.add_zero,if_true]
           have:=b3 k (o,e) (by simp [← hk])
           exact this
         | succ i=>
           simp at hp
           have e2:k+(i+1)=k+1+i:=by omega
           simp only [e2,if_neg (show ¬ k+1+i=k by omega)]
           exact b4 i p (by omega) hp
end
end Go.AM
namespace Go.AM
open Go Go.RowKit
section
variable {P:Program} {nt:Nat} {ih:Task→M Out}
structure Trace (P:Program) (ih:Task→M Out) (nt:Nat) (ops:Array Oper) (Ts:Nat→Tmps) (Hs:Nat→AH) (vs:Nat→AV) (es:Nat→List (Nat × Bool)):Prop where
 did:∀ j o,ops[j]?=some o→Did P ih nt ops.toList o (Ts j) (Hs j) (vs j) (es j) (Ts (j+1)) (Hs (j+1))
 back:∀ (j:Nat) (o:Oper),ops[j]?=some o→∀ e∈o.after,Region.binds .any e=true→e.on < j
 sep:∀ i j p o,i < j→ops[i]?=some p→ops[j]?=some o→∃ mk,(masks ops.toList [])[j]?=some mk∧Sep ops mk i p o (es i) (es j)
noncomputable def cut (Hs:Nat→AH) (es:Nat→List (Nat × Bool)) (X:Nat→Prop):Nat→Nat→Option ABlk
 | 0,id=>(Hs 0).blks.get id
 | j+1,id=>by
   classical
   exact if X j∧(id,true)∈es j then (Hs (j+1)).blks.get id else cut Hs es X j id
noncomputable def cutT (ops:Array Oper) (Ts:Nat→Tmps) (vs:Nat→AV) (X:Nat→Prop):Nat→Nat→AV
 | 0,t=>tget (Ts 0) t
 | j+1,t=>by
   classical
   exact if X j∧((ops[j]?).bind (·.dst))=some t then vs j else cutT ops Ts vs X j t
theorem qMp {Hs:Nat→AH} {es:Nat→List (Nat × Bool)} {X:Nat→Prop} {j id:Nat} (h:X j) (h2:(id,true)∈es j):cut Hs es X (j+1) id=(Hs (j+1)).blks.get id:=by
 unfold cut;exact if_pos ⟨h,h2⟩
theorem qLF {Hs:Nat→AH} {es:Nat→List (Nat × Bool)} {X:Nat→Prop} {j id:Nat} (h:X j→(id,true) ∉ es j):cut Hs es X (j+1) id=cut Hs es X j id:=by
 conv=>lhs;unfold cut
 exact if_neg λk=>h k.1 k.2
theorem qK1 {ops:Array Oper} {Ts:Nat→Tmps} {vs:Nat→AV} {X:Nat→Prop} {j t:Nat} {o:Oper} (h:X j) (ho:ops[j]?=some o) (h2:o.dst=some t):cutT ops Ts vs X (j+1) t=vs j:=by
 unfold cutT;exact if_pos ⟨h,by simp [ho,h2]⟩
theorem qHy {ops:Array Oper} {Ts:Nat→Tmps} {vs:Nat→AV} {X:Nat→Prop} {j t:Nat} (h:X j→∀ o,ops[j]?=some o→o.dst≠some t):cutT ops Ts vs X (j+1) t=cutT ops Ts vs X j t:=by
 conv=>lhs;unfold cutT
 refine if_neg λk=>?_
 cases ho:ops[j]? with
 | none=>simp [ho] at k
 | some o=>exact h k.1 o ho (by simpa [ho] using k.2)
theorem qPZ {T T':Tmps} {dst:Option Tmp} {v:AV} (h:setT nt T dst v=some T') (t:Nat):tget T' t=if dst=some t then v else tget T t:=by
 cases dst with
 | none=>cases h;simp
 | some d=>
   simp only [setT] at h
   obtain ⟨_,h⟩:=qAY h
   cases h
   simp only [tget,Tr.get_put]
   by_cases e:d=t
   ·simp [e]
   ·simp [e]
variable {ops:Array Oper} {Ts:Nat→Tmps} {Hs:Nat→AH} {vs:Nat→AV} {es:Nat→List (Nat × Bool)}
def Closed (ops:Array Oper) (X:Nat→Prop):Prop:=∀ (j:Nat) (o:Oper),ops[j]?=some o→X j→∀ e∈o.after,Region.binds .any e=true→X e.on
namespace Trace
variable (tr : Trace P ih nt ops Ts Hs vs es)
include tr
theorem later {X:Nat→Prop} (hX:Closed ops X) {j i:Nat} {o p:Oper} (ho:ops[j]?=some o) (hj:¬ X j) (hij:j < i) (hi:X i) (hp:ops[i]?=some p):Oper.apart ops o p=true∧clash (es j) (es i)=false:=by
 obtain ⟨mk,h1,h2⟩:=tr.sep j i o p hij ho hp
 rcases h2 with h2 | h2
 ·exact absurd (qKN tr.back X hX i p mk j hp h1 h2 (hX i p hp hi)) hj
 ·exact h2
theorem earlier {X:Nat→Prop} (hX:Closed ops X) {j i:Nat} {o p:Oper} (ho:ops[j]?=some o) (hr:∀ e∈o.after,Region.binds .any e=true→X e.on) (hij:i < j) (hi:¬ X i) (hp:ops[i]?=some p):Oper.apart ops p o=true∧clash (es i) (es j)=false:=by
 obtain ⟨mk,h1,h2⟩:=tr.sep i j p o hij hp ho
 rcases h2 with h2 | h2
 ·exact absurd (qKN tr.back X hX j o mk i ho h1 h2 hr) hi
 ·exact h2
theorem blk_late {X:Nat→Prop} (hX:Closed ops X) {j:Nat} {o:Oper} (ho:ops[j]?=some o) (hj:¬ X j) {id:Nat} {c:Bool} (hid:(id,c)∈es j):∀ d,j+1+d≤ops.size→∀ Y:Nat→Prop,(∀ i,j < i→(Y i↔X i))→cut Hs es Y (j+1+d) id=cut Hs es Y (j+1) id:=by
 intro d
 induction d with
 | zero=>intro _ _ _;rfl
 | succ d ih2=>
   intro hd Y hY
   rw [show j+1+(d+1)=(j+1+d)+1 from by omega,qLF,ih2 (by omega) Y hY]
   intro hy hin
   have hp:ops[j+1+d]?=some ops[j+1+d]:=Array.getElem?_eq_getElem (by omega)
   obtain ⟨_,h2⟩:=tr.later hX ho hj (by omega:j < j+1+d) ((hY _ (by omega)).1 hy) hp
   have:=qOI h2 id c true hid hin
   simp at this
theorem blk_early {X:Nat→Prop} (hX:Closed ops X) {j:Nat} {o:Oper} (ho:ops[j]?=some o) (hr:∀ e∈o.after,Region.binds .any e=true→X e.on) {id:Nat} {c:Bool} (hid:(id,c)∈es j):∀ k,k≤j→cut Hs es X k id=(Hs k).blks.get id:=by
 have hjlt:=(Array.getElem?_eq_some_iff.1 ho).1
 intro k
 induction k with
 | zero=>intro _;rfl
 | succ k ih2=>
   intro hk
   have hp:ops[k]?=some ops[k]:=Array.getElem?_eq_getElem (by omega)
   by_cases hin:(id,true)∈es k
   ·by_cases hxk:X k
    ·exact qMp hxk hin
    ·obtain ⟨_,h2⟩:=tr.earlier hX ho hr (by omega:k < j) hxk hp
     have:=qOI h2 id true c hin hid
     simp at this
   ·rw [qLF (λ_=>hin),ih2 (by omega),(tr.did k _ hp).does.same id hin]
theorem blk_ready {X:Nat→Prop} (hX:Closed ops X) {j:Nat} {o:Oper} (ho:ops[j]?=some o) (hj:¬ X j) (hr:∀ e∈o.after,Region.binds .any e=true→X e.on) {id:Nat} {c:Bool} (hid:(id,c)∈es j):cut Hs es X ops.size id=(Hs j).blks.get id:=by
 have hjlt:=(Array.getElem?_eq_some_iff.1 ho).1
 have h1:=tr.blk_late hX ho hj hid (ops.size - (j+1)) (by omega) X (λ_ _=>Iff.rfl)
 rw [show j+1+(ops.size - (j+1))=ops.size from by omega] at h1
 rw [h1,qLF (λh=>absurd h hj),tr.blk_early hX ho hr hid j (Nat.le_refl _)]
omit tr in
theorem qXL {X Y:Nat→Prop} {id:Nat}:∀ n,(∀ i,i < n→(id,true)∈es i→(X i↔Y i))→cut Hs es X n id=cut Hs es Y n id:=by
 intro n
 induction n with
 | zero=>intro _;rfl
 | succ n ih2=>
   intro h
   by_cases hin:(id,true)∈es n
   ·by_cases hx:X n
    ·rw [qMp hx hin,qMp ((h n (by omega) hin).1 hx) hin]
    ·rw [qLF (λk=>absurd k hx),qLF (λk=>absurd ((h n (by omega) hin).2 k) hx),ih2 λi hi=>h i (by omega)]
   ·rw [qLF (λ_=>hin),qLF (λ_=>hin),ih2 λi hi=>h i (by omega)]
theorem blk_step {X:Nat→Prop} (hX:Closed ops X) {j:Nat} {o:Oper} (ho:ops[j]?=some o) (hj:¬ X j) {H H':AH} (hH:∀ id,H.blks.get id=cut Hs es X ops.size id)
  (hd:∀ id,(id,true) ∉ es j→H'.blks.get id=H.blks.get id) (hg:∀ id b,(id,b)∈es j→H'.blks.get id=(Hs (j+1)).blks.get id) (id:Nat):H'.blks.get id=cut Hs es (λi=>i=j∨X i) ops.size id:=by
 have hjlt:=(Array.getElem?_eq_some_iff.1 ho).1
 by_cases hin:(id,true)∈es j
 ·rw [hg id true hin]
  have h1:=tr.blk_late hX ho hj hin (ops.size - (j+1)) (by omega) (λi=>i=j∨X i) (λi hi=>⟨λh=>h.resolve_left (by omega),.inr⟩)
  rw [show j+1+(ops.size - (j+1))=ops.size from by omega] at h1
  rw [h1,qMp (.inl rfl) hin]
 ·rw [hd id hin,hH]
  refine qXL ops.size λi _ hi=>⟨.inr,λh=>?_⟩
  rcases h with rfl | h
  ·exact absurd hi hin
  ·exact h
theorem blk_all {X:Nat→Prop} (hX:∀ i,i < ops.size→X i) (id:Nat):∀ n,n≤ops.size→cut Hs es X n id=(Hs n).blks.get id:=by
 intro n
 induction n with
 | zero=>intro _;rfl
 | succ n ih2=>
   intro hn
   by_cases hin:(id,true)∈es n
   ·exact qMp (hX n (by omega)) hin
   ·have hp:ops[n]?=some ops[n]:=Array.getElem?_eq_getElem (by omega)
    rw [qLF (λ_=>hin),ih2 (by omega),(tr.did n _ hp).does.same id hin]
theorem tmp_late {X:Nat→Prop} (hX:Closed ops X) {j:Nat} {o:Oper} (ho:ops[j]?=some o) (hj:¬ X j) {t:Nat} (ht:t∈o.looksAt ops∨o.dst=some t):∀ d,j+1+d≤ops.size→∀ Y:Nat→Prop,(∀ i,j < i→(Y i↔X i))→cutT ops Ts vs Y (j+1+d) t=cutT ops Ts vs Y (j+1) t:=by
 intro d
 induction d with
 | zero=>intro _ _ _;rfl
 | succ d ih2=>
   intro hd Y hY
   rw [show j+1+(d+1)=(j+1+d)+1 from by omega,qHy,ih2 (by omega) Y hY]
   intro hy p hp hdst
   obtain ⟨h1,_⟩:=tr.later hX ho hj (by omega:j < j+1+d) ((hY _ (by omega)).1 hy) hp
   obtain ⟨_,g2,g3⟩:=Oper.apart_spec h1
   rcases ht with ht | ht
   ·exact g3 t hdst ht
   ·exact g2 t ht hdst
theorem tmp_early {X:Nat→Prop} (hX:Closed ops X) {j:Nat} {o:Oper} (ho:ops[j]?=some o) (hr:∀ e∈o.after,Region.binds .any e=true→X e.on) {t:Nat} (ht:t∈o.looksAt ops):∀ k,k≤j→cutT ops Ts vs X k t=tget (Ts k) t:=by
 have hjlt:=(Array.getElem?_eq_some_iff.1 ho).1
 intro k
 induction k with
 | zero=>intro _;rfl
 | succ k ih2=>
   intro hk
   have hp:ops[k]?=some ops[k]:=Array.getElem?_eq_getElem (by omega)
   rw [qPZ (tr.did k _ hp).set t]
   by_cases hdst:ops[k].dst=some t
   ·rw [if_pos hdst]
    by_cases hxk:X k
    ·exact qK1 hxk hp hdst
    ·obtain ⟨h1,_⟩:=tr.earlier hX ho hr (by omega:k < j) hxk hp
     exact absurd ht ((Oper.apart_spec h1).1 t hdst)
   ·rw [if_neg hdst,qHy (λ_ p hp'=>by rw [hp] at hp';cases hp';exact hdst),ih2 (by omega)]
theorem tmp_ready {X:Nat→Prop} (hX:Closed ops X) {j:Nat} {o:Oper} (ho:ops[j]?=some o) (hj:¬ X j) (hr:∀ e∈o.after,Region.binds .any e=true→X e.on) {t:Nat} (ht:t∈o.looksAt ops):cutT ops Ts vs X ops.size t=tget (Ts j) t:=by
 have hjlt:=(Array.getElem?_eq_some_iff.1 ho).1
 have h1:=tr.tmp_late hX ho hj (.inl ht) (ops.size - (j+1)) (by omega) X (λ_ _=>Iff.rfl)
 rw [show j+1+(ops.size - (j+1))=ops.size from by omega] at h1
 rw [h1,qHy (λh=>absurd h hj),tr.tmp_early hX ho hr ht j (Nat.le_refl _)]
omit tr in
theorem qW0 {X Y:Nat→Prop} {t:Nat}:∀ n,(∀ i,i < n→(∃ p,ops[i]?=some p∧p.dst=some t)→(X i↔Y i))→cutT ops Ts vs X n t=cutT ops Ts vs Y n t:=by
 intro n
 induction n with
 | zero=>intro _;rfl
 | succ n ih2=>
   intro h
   by_cases hin:∃ p,ops[n]?=some p∧p.dst=some t
   ·obtain ⟨p,hp,hd⟩:=hin
    by_cases hx:X n
    ·rw [qK1 hx hp hd,qK1 ((h n (by omega) ⟨p,hp,hd⟩).1 hx) hp hd]
    ·rw [qHy (λk=>absurd k hx),qHy (λk=>absurd ((h n (by omega) ⟨p,hp,hd⟩).2 k) hx),ih2 λi hi=>h i (by omega)]
   ·rw [qHy (λ_ p hp hd=>hin ⟨p,hp,hd⟩),qHy (λ_ p hp hd=>hin ⟨p,hp,hd⟩),ih2 λi hi=>h i (by omega)]
theorem tmp_step {X:Nat→Prop} (hX:Closed ops X) {j:Nat} {o:Oper} (ho:ops[j]?=some o) (hj:¬ X j) {T T':Tmps} (hT:∀ t,tget T t=cutT ops Ts vs X ops.size t)
  (hs:setT nt T o.dst (vs j)=some T') (t:Nat):tget T' t=cutT ops Ts vs (λi=>i=j∨X i) ops.size t:=by
 have hjlt:=(Array.getElem?_eq_some_iff.1 ho).1
 rw [qPZ hs t]
 by_cases hd:o.dst=some t
 ·rw [if_pos hd]
  have h1:=tr.tmp_late hX ho hj (.inr hd) (ops.size - (j+1)) (by omega) (λi=>i=j∨X i) (λi hi=>⟨λh=>h.resolve_left (by omega),.inr⟩)
  rw [show j+1+(ops.size - (j+1))=ops.size from by omega] at h1
  rw [h1,qK1 (.inl rfl) ho hd]
 ·rw [if_neg hd,hT]
  refine qW0 ops.size λi _ hi=>⟨.inr,λh=>?_⟩
  rcases h with rfl | h
  ·obtain ⟨p,hp,hd'⟩:=hi
   rw [ho] at hp;cases hp
   exact absurd hd' hd
  ·exact h
theorem tmp_all {X:Nat→Prop} (hX:∀ i,i < ops.size→X i) (t:Nat):∀ n,n≤ops.size→cutT ops Ts vs X n t=tget (Ts n) t:=by
 intro n
 induction n with
 | zero=>intro _;rfl
 | succ n ih2=>
   intro hn
   have hp:ops[n]?=some ops[n]:=Array.getElem?_eq_getElem (by omega)
   rw [qPZ (tr.did n _ hp).set t]
   by_cases hd:ops[n].dst=some t
   ·rw [if_pos hd];exact qK1 (hX n (by omega)) hp hd
   ·rw [if_neg hd,qHy (λ_ p hp'=>by rw [hp] at hp';cases hp';exact hd),ih2 (by omega)]
theorem next_le:∀ d j,j+d≤ops.size→(Hs j).next≤(Hs (j+d)).next:=by
 intro d
 induction d with
 | zero=>intro j _;exact Nat.le_refl _
 | succ d ih2=>
   intro j hj
   have hp:ops[j+d]?=some ops[j+d]:=Array.getElem?_eq_getElem (by omega)
   exact Nat.le_trans (ih2 j (by omega)) (tr.did _ _ hp).does.next
theorem lo_eq:∀ j,j≤ops.size→(Hs j).lo=(Hs 0).lo:=by
 intro j
 induction j with
 | zero=>intro _;rfl
 | succ j ih2=>
   intro hj
   have hp:ops[j]?=some ops[j]:=Array.getElem?_eq_getElem (by omega)
   rw [(tr.did _ _ hp).does.lo,ih2 (by omega)]
end Trace
end
end Go.AM
namespace Go.AM
open Go Go.RowKit
section
variable {P:Program} {σ:Nat→Value} {base nt:Nat} {ih:Task→M Out}
theorem WR.same {ρ:Ren} {H K:AH} {w:World} (h:WR σ ρ base H w) (hb:∀ id,K.blks.get id=H.blks.get id) (hl:K.lo=H.lo):WR σ ρ base K w:=by
 obtain ⟨a,b,c,d⟩:=h
 refine ⟨λid x hx=>?_,λid x L hx hL hlo=>?_,λi j bi bj Li Lj hi hj hLi hLj hlo hne=>?_,d⟩
 ·rw [hl];exact a id x ((hb id).symm.trans hx)
 ·rw [hl] at hlo;exact b id x L ((hb id).symm.trans hx) hL hlo
 ·rw [hl] at hlo;exact c i j bi bj Li Lj ((hb i).symm.trans hi) ((hb j).symm.trans hj) hLi hLj hlo hne
theorem TRel.same {ρ:Ren} {T T':Tmps} {tm:Array Value} (h:TRel σ ρ nt T tm) (ht:∀ t,tget T' t=tget T t):TRel σ ρ nt T' tm:=
 ⟨h.size,λi=>by rw [ht];exact h.at_ i⟩
def cntF:List Bool→Nat
 | []=>0
 | b :: l=>(if b then 0 else 1)+cntF l
theorem qPX:∀ (l:List Bool) (i:Nat),l[i]?=some false→cntF (l.set i true)+1=cntF l
 | [],i,h=>by simp at h
 | b :: l,0,h=>by simp at h;subst h;simp [cntF];omega
 | b :: l,i+1,h=>by simp at h;have:=qPX l i h;simp only [List.set_cons_succ,cntF];omega
theorem qMv:∀ (l:List Bool),cntF l=0→∀ i:Nat,l[i]?≠some false
 | [],_,i=>by simp
 | b :: l,h,i=>by
   simp only [cntF] at h
   cases b with
   | false=>simp at h
   | true=>
     cases i with
     | zero=>simp
     | succ i=>simpa using qMv l (by simpa using h) i
theorem qKJ (n:Nat):cntF (List.replicate n false)=n:=by
 induction n with
 | zero=>rfl
 | succ n ih=>simp [List.replicate_succ,cntF,ih];omega
def Done (listed:Array Bool):Nat→Prop:=λi=>listed.getD i true=true
theorem qSp {listed:Array Bool} {j:Nat} (h:listed.getD j true=false):Done (listed.setIfInBounds j true)=λi=>i=j∨Done listed i:=by
 funext i
 apply propext
 unfold Done
 by_cases e:j=i
 ·subst e
  have hlt:j < listed.size:=by
   rcases Nat.lt_or_ge j listed.size with h' | h'
   ·exact h'
   ·simp [Array.getElem?_eq_none h'] at h
  simp [hlt]
 ·rw [getD_set_ne true e]
  exact ⟨.inr,λh=>h.resolve_left (λk=>e k.symm)⟩
theorem undone {listed:Array Bool} {j:Nat} (h:listed.getD j true=false):listed.toList[j]?=some false:=by
 rcases Nat.lt_or_ge j listed.size with h' | h'
 ·simp [Array.getElem?_eq_getElem h'] at h
  simp [h',h]
 ·simp [Array.getElem?_eq_none h'] at h
theorem qLH {listed:Array Bool} {j:Nat} (h:listed.getD j false=true):Done listed j:=by
 unfold Done
 rcases Nat.lt_or_ge j listed.size with h' | h'
 ·simp [Array.getElem?_eq_getElem h'] at h ⊢;exact h
 ·simp [Array.getElem?_eq_none h'] at h
variable {ops:Array Oper} {Ts:Nat→Tmps} {Hs:Nat→AH} {vs:Nat→AV} {es:Nat→List (Nat × Bool)}
structure Inv (σ:Nat→Value) (base nt:Nat) (ops:Array Oper) (Ts:Nat→Tmps) (Hs:Nat→AH) (vs:Nat→AV) (es:Nat→List (Nat × Bool)) (ρ0:Ren) (w0:World) (d0:Act) (X:Nat→Prop) (T:Tmps) (H:AH) (ρ:Ren) (w:World) (a:Act):Prop where
 closed:Closed ops X
 blks:∀ id,H.blks.get id=cut Hs es X ops.size id
 tmps:∀ t,tget T t=cutT ops Ts vs X ops.size t
 lo:H.lo=(Hs 0).lo
 free:∀ j,j < ops.size→¬ X j→Free ρ (Hs j).next (Hs (j+1)).next
 ext:Ext ρ0 ρ (Hs 0).next (Hs ops.size).next
 wr:WR σ ρ base H w
 below:Below base w0 w
 rel:TRel σ ρ nt T a.tmps
 defers:a.defers=d0.defers
theorem qXl (hc:qLJ P ih) (hr:qI7 P ih) (hname:qHT P) (hfr:∀ t,Fr (ih t)) (hσ:One σ) (tr:Trace P ih nt ops Ts Hs vs es) {r:Option Nat} {Q:Exit→Act→World→Prop} {K:Act→World→Prop}
  {ρ0 ρ:Ren} {w0 w:World} {d0 a:Act} {X:Nat→Prop} {T:Tmps} {H:AH} (hi:Inv σ base nt ops Ts Hs vs es ρ0 w0 d0 X T H ρ w a) {j:Nat} {o:Oper} (ho:ops[j]?=some o) (hj:¬ X j) (hready:∀ e∈o.after,Region.binds .any e=true→X e.on)
  (hK:∀ a' w' T' H' ρ',Inv σ base nt ops Ts Hs vs es ρ0 w0 d0 (λi=>i=j∨X i) T' H' ρ' w' a'→K a' w'):wpOpIn (FR r) 0 P ops Q j K a w:=by
 have hjlt:=(Array.getElem?_eq_some_iff.1 ho).1
 have hdid:=tr.did j o ho
 obtain ⟨H2',e2,d2,n2,g2⟩:=hdid.fr { H with next:=(Hs j).next } rfl (by show H.lo=_;rw [hi.lo,tr.lo_eq j (by omega)])
  (λid b hb=>by show H.blks.get id=_;rw [hi.blks,tr.blk_ready hi.closed ho hj hready hb])
 rw [← qNU (P:=P) (ih:=ih) (T:=T) (λt ht=>by rw [hi.tmps,tr.tmp_ready hi.closed ho hj hready ht])] at e2
 have hT':∃ T',setT nt T o.dst (vs j)=some T':=by
  have:=hdid.set
  cases hd:o.dst with
  | none=>exact ⟨T,rfl⟩
  | some d=>
    rw [hd] at this
    simp only [setT] at this ⊢
    obtain ⟨h1,_⟩:=qAY this
    rw [h1];exact ⟨_,rfl⟩
 obtain ⟨T',hT'⟩:=hT'
 unfold wpOpIn
 simp only [ho]
 refine qMY hc hr hname e2 hfr hi.rel hσ (hi.wr.log rfl rfl) (by rw [n2];exact hi.free j hjlt hj) ?_
 intro v' w' ρ' hp hv
 have hle:∀ i k,i≤k→k≤ops.size→(Hs i).next≤(Hs k).next:=λi k h1 h2=>by
  have:=tr.next_le (k - i) i (by omega)
  rwa [show i+(k - i)=k from by omega] at this
 refine hK _ w' T' H2' ρ' ⟨?_,?_,?_,?_,?_,?_,hp.wr,hi.below.trans hp.below,?_,?_⟩
 ·intro k p hp' hk e he hb
  rcases hk with rfl | hk
  ·rw [ho] at hp';cases hp';exact .inr (hready e he hb)
  ·exact .inr (hi.closed k p hp' hk e he hb)
 ·exact tr.blk_step hi.closed ho hj (H:=H) (λid=>hi.blks id) d2.same g2
 ·exact tr.tmp_step hi.closed ho hj hi.tmps hT'
 ·rw [d2.lo];exact hi.lo
 ·intro k hk hx
  have hkj:k≠j:=λe=>hx (.inl e)
  have hxk:¬ X k:=λh=>hx (.inr h)
  intro id h1 h2
  rw [hp.ext.out id ?_]
  ·exact hi.free k hk hxk id h1 h2
  ·show id < (Hs j).next∨H2'.next≤id
   rw [n2]
   rcases Nat.lt_or_ge k j with h | h
   ·have:=hle (k+1) j (by omega) (by omega);omega
   ·have:=hle (j+1) k (by omega) (by omega);omega
 ·refine ⟨hi.ext.le.trans hp.ext.le,λid hid=>?_⟩
  rw [hp.ext.out id ?_,hi.ext.out id hid]
  show id < (Hs j).next∨H2'.next≤id
  rw [n2]
  have:=hle 0 j (by omega) (by omega)
  have:=hle (j+1) ops.size (by omega) (by omega)
  omega
 ·exact qD9 hT' (hi.rel.mono hp.ext.le) hv
 ·rw [qBp];exact hi.defers
theorem zABB (hc:qLJ P ih) (hr:qI7 P ih) (hname:qHT P) (hfr:∀ t,Fr (ih t)) (hσ:One σ) (tr:Trace P ih nt ops Ts Hs vs es) {r:Option Nat} {Q:Exit→Act→World→Prop}
  {ρ0:Ren} {w0:World} {d0:Act} (hQ:∀ a' w' ρ',Ext ρ0 ρ' (Hs 0).next (Hs ops.size).next→WR σ ρ' base (Hs ops.size) w'→Below base w0 w'→TRel σ ρ' nt (Ts ops.size) a'.tmps→a'.defers=d0.defers→Q .normal a' w') :
  ∀ (fuel:Nat) (listed:Array Bool) (T:Tmps) (H:AH) (ρ:Ren) (w:World) (a:Act),listed.size=ops.size→cntF listed.toList≤fuel→Inv σ base nt ops Ts Hs vs es ρ0 w0 d0 (Done listed) T H ρ w a→wpAnyIn (FR r) 0 P .any ops Q fuel listed a w:=by
 have fin:∀ (listed:Array Bool) (T:Tmps) (H:AH) (ρ:Ren) (w:World) (a:Act),(∀ i,i < ops.size→Done listed i)→Inv σ base nt ops Ts Hs vs es ρ0 w0 d0 (Done listed) T H ρ w a→Q .normal a w:=by
  intro listed T H ρ w a hall hi
  refine hQ a w ρ hi.ext (hi.wr.same (λid=>?_) ?_) hi.below (hi.rel.same λt=>?_) hi.defers
  ·rw [hi.blks,tr.blk_all hall id ops.size (Nat.le_refl _)]
  ·rw [hi.lo,tr.lo_eq _ (Nat.le_refl _)]
  ·rw [hi.tmps,tr.tmp_all hall t ops.size (Nat.le_refl _)]
 have ready:∀ (listed:Array Bool),listed.size=ops.size→Region.ready .any ops listed=[]→∀ i,i < ops.size→Done listed i:=by
  intro listed hs hnil i
  induction i using Nat.strongRecOn with
  | _ i ih2=>
    intro hi
    unfold Done
    cases hg:listed.getD i true with
    | true=>rfl
    | false=>
      exfalso
      have ho:ops[i]?=some ops[i]:=Array.getElem?_eq_getElem hi
      have:i∈Region.ready .any ops listed:=mem_ready.2 ⟨hg,_,ho,λe he hb=>by
       have hlt:=tr.back i _ ho e he hb
       have:=ih2 e.on hlt (by omega)
       unfold Done at this
       simp [Array.getElem?_eq_getElem (by omega:e.on < listed.size)] at this ⊢
       exact this⟩
      rw [hnil] at this;cases this
 intro fuel
 induction fuel with
 | zero=>
   intro listed T H ρ w a hs hcnt hi
   have hall:∀ i,i < ops.size→Done listed i:=by
    intro i _
    unfold Done
    cases hg:listed.getD i true with
    | true=>rfl
    | false=>exact absurd (undone hg) (qMv _ (by omega) i)
   refine ⟨?_,fin _ _ _ _ _ _ hall hi⟩
   cases hrd:Region.ready .any ops listed with
   | nil=>rfl
   | cons x xs=>
     exfalso
     have hx:x∈Region.ready .any ops listed:=by rw [hrd];simp
     obtain ⟨h1,o,ho,_⟩:=mem_ready.1 hx
     have:=hall x (Array.getElem?_eq_some_iff.1 ho).1
     unfold Done at this
     rw [h1] at this;cases this
 | succ fuel ih2=>
   intro listed T H ρ w a hs hcnt hi
   refine ⟨λhnil=>fin _ _ _ _ _ _ (ready listed hs hnil) hi,λj hj=>?_⟩
   obtain ⟨hjun,o,ho,hall⟩:=mem_ready.1 hj
   have hjx:¬ Done listed j:=by unfold Done;rw [hjun];simp
   refine qXl hc hr hname hfr hσ tr hi ho hjx (λe he hb=>qLH (hall e he hb)) ?_
   intro a' w' T' H' ρ' hi'
   refine ih2 _ T' H' ρ' w' a' (by simp [hs]) ?_ (by rw [qSp hjun];exact hi')
   have:=qPX _ _ (undone hjun)
   rw [Array.toList_setIfInBounds]
   omega
theorem qIC {l:List Oper} (h:qDM l=true):qJe l 0=true∧∀ o∈l,∀ c,o.op≠.defer c:=by
 simp only [qDM,Bool.and_eq_true] at h
 refine ⟨h.1,λo ho c e=>?_⟩
 have:=List.all_eq_true.1 h.2 o ho
 rw [e] at this;cases this
theorem zAAF (hm:P.follows .mixedOrders=true) (hc:qLJ P ih) (hr:qI7 P ih) (hname:qHT P) (hfr:∀ t,Fr (ih t)) (hσ:One σ) {id:Nat} {r:Option Nat} {Q:Exit→Act→World→Prop} {T T':Tmps} {H H':AH} {ρ:Ren} {w:World} {a:Act}
  (hok:qDM ops.toList=true) (h:opsD P ih nt ops ops.toList (masks ops.toList []) [] T H=some (T',H')) (hT:TRel σ ρ nt T a.tmps) (hwr:WR σ ρ base H w) (hf:Free ρ H.next H'.next)
  (hQ:∀ a' w' ρ',Post σ ρ ρ' base H H' w w'→TRel σ ρ' nt T' a'.tmps→a'.defers=a.defers→Q .normal a' w'):(Code.region id ops true).wpIn (FR r) 0 P Q a w:=by
 have hback:=(qIC hok).1
 obtain ⟨Ts,Hs,vs,es,a1,a2,a3,a4,a5⟩:=trace hfr ops.toList _ [] 0 T H T' H' rfl h
 simp only [zA,Array.length_toList] at a3 a4 a5
 have a5':∀ j o,ops[j]?=some o→_:=λj o ho=>a5 j o (by rw [Array.getElem?_toList];exact ho)
 have tr:Trace P ih nt ops Ts Hs vs es:=by
  refine ⟨λj o ho=>(a5' j o ho).1,λj o ho e he hb=>?_,λi j p o hij hp ho=>?_⟩
  ·have:=qFD ops.toList 0 hback j o (by rw [Array.getElem?_toList];exact ho) e he hb
   omega
  ·obtain ⟨_,mk,h1,_,h3⟩:=a5' j o ho
   exact ⟨mk,h1,h3 i p hij (by rw [Array.getElem?_toList];exact hp)⟩
 subst a1 a2 a3 a4
 refine wpIn_region_any hm (zABB (base:=base) hc hr hname hfr hσ tr (ρ0:=ρ) (w0:=w) (d0:=a) ?_ ops.size _ (Ts 0) (Hs 0) ρ _ a (by simp) (by simp [qKJ]) ?_)
 ·intro a' w' ρ' h1 h2 h3 h4 h5
  exact hQ a' w' ρ' ⟨h1,h2,h3⟩ h4 h5
 ·have hno:∀ i,i < ops.size→¬ Done (Array.replicate ops.size false) i:=by
   intro i hi
   unfold Done
   simp [hi]
  have hle:∀ i k,i≤k→k≤ops.size→(Hs i).next≤(Hs k).next:=λi k h1 h2=>by
   have:=tr.next_le (k - i) i (by omega)
   rwa [show i+(k - i)=k from by omega] at this
  refine ⟨?_,?_,?_,rfl,?_,.refl _ _ _,?_,?_,hT,rfl⟩
  ·intro j o ho hj
   exact absurd hj (hno j (Array.getElem?_eq_some_iff.1 ho).1)
  ·intro i
   have:∀ n,n≤ops.size→cut Hs es (Done (Array.replicate ops.size false)) n i=(Hs 0).blks.get i:=by
    intro n
    induction n with
    | zero=>intro _;rfl
    | succ n ih2=>intro hn;rw [qLF (λk=>absurd k (hno n (by omega))),ih2 (by omega)]
   rw [this _ (Nat.le_refl _)]
  ·intro t
   have:∀ n,n≤ops.size→cutT ops Ts vs (Done (Array.replicate ops.size false)) n t=tget (Ts 0) t:=by
    intro n
    induction n with
    | zero=>intro _;rfl
    | succ n ih2=>intro hn;rw [qHy (λk=>absurd k (hno n (by omega))),ih2 (by omega)]
   rw [this _ (Nat.le_refl _)]
  ·intro j hj _ i h1 h2
   exact hf i (Nat.le_trans (hle 0 j (by omega) (by omega)) h1) (Nat.lt_of_lt_of_le h2 (hle (j+1) ops.size (by omega) (by omega)))
  ·obtain ⟨x1,x2,x3,x4⟩:=hwr
   exact ⟨x1,x2,x3,x4⟩
  ·exact ⟨rfl,rfl,rfl,Nat.le_refl _,λ_ _=>rfl⟩
end
end Go.AM
namespace Go.AM
open Go Go.RowKit
section
variable {P:Program} {σ:Nat→Value} {ρ:Ren} {base nt:Nat} {H H':AH} {w:World} {T:Tmps}
theorem qOg {B:Nat} {o0:Obj} (o:Obj) (h:w.heap[B]?=some o0):Upd w B o (w.putObj B o):=
 ⟨rfl,rfl,rfl,by simp,World.putObj_heap_same (qK4 h),λ_ hk=>World.putObj_heap_other hk⟩
def DRel (σ:Nat→Value) (ρ:Ren):List Mk→List Deferred→Prop
 | [],ds=>ds=[]
 | .mark m :: ms,ds=>∃ L ds',ρ m=some L∧ds={ target:=.collected L.blk,args:=#[] } :: ds'∧DRel σ ρ ms ds'
 | .call k args :: ms,ds=>∃ (cs fs:Array Value) (ds':List Deferred),ds={ target:=.fn (.func k) cs,args:=fs } :: ds'∧RelL σ ρ args (fs ++ cs).toList∧DRel σ ρ ms ds'
theorem DRel.mono {ρ ρ':Ren} (h:Le ρ ρ'):∀ {ms:List Mk} {ds:List Deferred},DRel σ ρ ms ds→DRel σ ρ' ms ds
 | [],_,r=>r
 | .mark _ :: _,_,r=>by unfold DRel at r ⊢;obtain ⟨L,ds',h1,h2,h3⟩:=r;exact ⟨L,ds',h _ _ h1,h2,DRel.mono h h3⟩
 | .call _ _ :: _,_,r=>by unfold DRel at r ⊢;obtain ⟨cs,fs,ds',h1,h2,h3⟩:=r;exact ⟨cs,fs,ds',h1,RelL.mono h _ _ h2,DRel.mono h h3⟩
theorem DRel.append:∀ {ms ms':List Mk} {ds ds':List Deferred},DRel σ ρ ms ds→DRel σ ρ ms' ds'→DRel σ ρ (ms ++ ms') (ds ++ ds')
 | [],_,_,_,h,k=>by unfold DRel at h;subst h;exact k
 | .mark m :: ms,_,_,_,h,k=>by
   unfold DRel at h
   obtain ⟨L,es,h1,rfl,h3⟩:=h
   show DRel σ ρ (.mark m :: (ms ++ _)) _
   unfold DRel
   exact ⟨L,es ++ _,h1,rfl,DRel.append h3 k⟩
 | .call f as' :: ms,_,_,_,h,k=>by
   unfold DRel at h
   obtain ⟨cs,fs,es,rfl,h2,h3⟩:=h
   show DRel σ ρ (.call f as' :: (ms ++ _)) _
   unfold DRel
   exact ⟨cs,fs,es ++ _,rfl,h2,DRel.append h3 k⟩
theorem qJj {tm:Array Value} (hT:TRel σ ρ nt T tm) (hwr:WR σ ρ base H w):∀ (rs:List ResultVar) (H1 H':AH) (vs:List AV),H1.blks=H.blks→H1.lo=H.lo→qC7 P T rs H1=some (vs,H')→
  H'.blks=H.blks∧H'.lo=H.lo∧H'.next=H1.next∧∃ vs',(rs.mapM λr=>(match r with
   | .tmp t=>pure (tm.getD t undef)
   | .cell a t=>do loadVar t (← asAddr (tm.getD a undef)):Sem Value)).run P w=.ok vs' w∧RelL σ ρ vs vs'
 | [],H1,H',vs,e1,e2,h=>by
   cases qAK h
   exact ⟨e1,e2,rfl,[],by simp,.nil⟩
 | .tmp t :: rs,H1,H',vs,e1,e2,h=>by
   obtain ⟨us,K,h1,h2⟩:=qAR h
   cases qAK h2
   obtain ⟨a1,a2,a3,vs',a4,a5⟩:=qJj hT hwr rs H1 _ us e1 e2 h1
   refine ⟨a1,a2,a3,tm.getD t undef :: vs',by simp only [List.mapM_cons,Sem.run_bind,Sem.run_pure,Result.andThen_ok,a4],.cons ?_ a5⟩
   have:=hT.at_ t
   unfold tget at this
   cases hg:T.get t with
   | none=>rw [hg] at this;exact this
   | some v=>rw [hg] at this;exact this
 | .cell x t :: rs,H1,H',vs,e1,e2,h=>by
   unfold qC7 at h
   have hx:=hT.at_ x
   unfold tget at hx
   cases hg:T.get x with
   | none=>simp only [hg] at h;exact (qAD h).elim
   | some y=>
     rw [hg] at hx
     simp only [Option.getD_some] at hx
     cases y with
     | ptr b o=>
       simp only [hg] at h
       unfold Rel at hx
       obtain ⟨L,hL,hx⟩:=hx
       obtain ⟨v,K,h1,h2⟩:=qAR h
       obtain ⟨us,K2,h3,h4⟩:=qAR h2
       cases qAK h4
       obtain ⟨b1,b2,b3,v',b4,b5⟩:=qMd (P:=P) h1 (hwr.log (K:=H1) e1 e2) hL
       obtain ⟨a1,a2,a3,vs',a4,a5⟩:=qJj hT hwr rs K _ us (b1.trans e1) (b2.trans e2) h3
       refine ⟨a1,a2,a3.trans b3,v' :: vs',?_,.cons b5 a5⟩
       have ea:(asAddr (tm.getD x undef)).run P w=.ok ⟨L.blk,L.sh+o,none⟩ w:=by rw [hx];rfl
       simp only [List.mapM_cons,Sem.run_bind,ea,Sem.run_pure,Result.andThen_ok,b4,a4]
     | _=>simp only [hg] at h;exact (qAD h).elim
theorem qSa {vs:List AV} {vs':List Value} (h:RelL σ ρ vs vs'):Rel σ ρ (oneV vs) (if h:vs'.toArray.size=1 then vs'.toArray[0] else .tuple vs'.toArray):=by
 match vs,h with
 | [],h=>unfold RelL at h;subst h;show Rel σ ρ (.tup []) _;unfold Rel;exact ⟨#[],rfl,.nil⟩
 | [x],h=>
   unfold RelL at h
   obtain ⟨y,ys,rfl,h1,h2⟩:=h
   unfold RelL at h2;subst h2
   exact h1
 | x :: x2 :: xs,h=>
   have hl:=h.length
   rw [dif_neg (by simp at hl ⊢;omega)]
   show Rel σ ρ (.tup (x :: x2 :: xs)) _
   unfold Rel
   exact ⟨_,rfl,h⟩
theorem qK0:∀ (ps:List Tmp) (args:List AV) (vs:List Value) (T T':Tmps) (tm:Array Value),qEm nt T ps args=some T'→TRel σ ρ nt T tm→RelL σ ρ args vs→TRel σ ρ nt T' ((ps.zip vs).foldl (λtmps (x:Tmp × Value)=>tmps.setIfInBounds x.1 x.2) tm)
 | [],[],vs,T,T',tm,h,hT,_=>by cases h;exact hT
 | [],_ :: _,_,_,_,_,h,_,_=>by cases h
 | _ :: _,[],_,_,_,_,h,_,_=>by cases h
 | p :: ps,x :: xs,vs,T,T',tm,h,hT,hr=>by
   unfold RelL at hr
   obtain ⟨y,ys,rfl,h1,h2⟩:=hr
   simp only [qEm] at h
   obtain ⟨hp,h⟩:=qAY h
   have:=qD9 (nt:=nt) (a:={ tmps:=tm,defers:=[] }) (dst:=some p) (v:=x) (v':=y) (T':=T.put p (some x)) (by simp [setT,hp]) hT h1
   exact qK0 ps xs ys _ T' _ h this h2
theorem qI5 {args:List AV} {args':Array Value} (hr:RelL σ ρ args args'.toList) (hn:args.length≤nt):TRel σ ρ nt (Tr.ofListAt .nil 0 args) (args' ++ Array.replicate (nt - args'.size) undef):=by
 have hl:args'.size=args.length:=by simpa using hr.length
 refine ⟨by simp;omega,λi=>?_⟩
 unfold tget
 rw [Tr.get_ofListAt,Tr.get_nil]
 by_cases hi:i < args.length
 ·rw [if_pos ⟨by omega,by omega⟩]
  have hx:args[i - 0]?=some args[i]:=by simp [hi]
  obtain ⟨y,hy,hr⟩:=hr.get i args[i] (by simp [hi])
  have hi':i < args'.size:=by omega
  rw [hx]
  simp only [Option.getD_some]
  have:(args' ++ Array.replicate (nt - args'.size) undef).getD i undef=y:=by
   rw [Array.getD_eq_getD_getElem?,Array.getElem?_append_left hi',← Array.getElem?_toList,hy];rfl
  rw [this];exact hr
 ·rw [if_neg (by omega)]
  have:(args' ++ Array.replicate (nt - args'.size) undef).getD i undef=undef:=by
   rw [Array.getD_eq_getD_getElem?,Array.getElem?_append_right (by omega)]
   rw [Array.getElem?_replicate]
   split <;> rfl
  rw [this];exact qKl
end
end Go.AM
namespace Go.AM
open Go Go.RowKit
section
variable {P:Program} {σ:Nat→Value} {ρ:Ren} {base nt:Nat} {H H':AH} {w:World} {T:Tmps} {a:Act} {ih:Task→M Out} {n:Nat}
def qN9:AExit→Exit
 | .nrm=>.normal
 | .exit id=>.exit id
 | .ret=>.ret
def RR (ρ:Ren):Option Nat→Option Nat→Prop
 | none,r=>r=none
 | some l,r=>∃ L,ρ l=some L∧r=some L.blk
theorem RR.mono {ρ ρ':Ren} {x r:Option Nat} (h:RR ρ x r) (hl:Le ρ ρ'):RR ρ' x r:=by
 cases x with
 | none=>exact h
 | some l=>obtain ⟨L,h1,h2⟩:=h;exact ⟨L,hl _ _ h1,h2⟩
def ACode (r:Option Nat) (n:Nat) (P:Program) (c:Code) (Q:Exit→Act→World→Prop) (a:Act) (w:World):Prop:=
 match c with
 | .loop b=>Code.roundsIn (FR r) 0 P b Q (match qCb b with | some _=>1000 | none=>n) a w
 | c=>c.wpIn (FR r) 0 P Q a w
theorem ACode.wp {r:Option Nat} {c:Code} {Q:Exit→Act→World→Prop} (h:ACode r n P c Q a w):c.wpIn (FR r) 0 P Q a w:=by
 cases c <;> first | exact wpIn_loop_rounds _ h | exact h
structure CodePost (σ:Nat→Value) (ρ:Ren) (base nt:Nat) (H H':AH) (w:World) (T':Tmps) (ms':List Mk) (ρ':Ren) (a':Act) (w':World):Prop where
 post:Post σ ρ ρ' base H H' w w'
 tmps:TRel σ ρ' nt T' a'.tmps
 defers:DRel σ ρ' ms' a'.defers
def qGt (P:Program) (n:Nat) (ih:Task→M Out):Prop:=∀ (nt:Nat) (rA:Option Nat) (c:Code) (T:Tmps) (ms:List Mk) (H:AH) (o:Out) (H':AH),ih (.code nt rA c T ms) H=some (o,H')→
 ∃ e T' ms',o=.exit e T' ms'∧∀ (σ:Nat→Value) (ρ:Ren) (base:Nat) (w:World) (a:Act) (r:Option Nat) (Q:Exit→Act→World→Prop),One σ→WR σ ρ base H w→Free ρ H.next H'.next→TRel σ ρ nt T a.tmps→RR ρ rA r→DRel σ ρ ms a.defers→
  (∀ a' w' ρ',CodePost σ ρ base nt H H' w T' ms' ρ' a' w'→Q (qN9 e) a' w')→ACode r n P c Q a w
def Goal (P:Program) (n nt:Nat) (rA:Option Nat) (c:Code) (T:Tmps) (ms:List Mk) (H:AH) (o:Out) (H':AH):Prop:=
 ∃ e T' ms',o=.exit e T' ms'∧∀ (σ:Nat→Value) (ρ:Ren) (base:Nat) (w:World) (a:Act) (r:Option Nat) (Q:Exit→Act→World→Prop),One σ→WR σ ρ base H w→Free ρ H.next H'.next→TRel σ ρ nt T a.tmps→RR ρ rA r→DRel σ ρ ms a.defers→
  (∀ a' w' ρ',CodePost σ ρ base nt H H' w T' ms' ρ' a' w'→Q (qN9 e) a' w')→ACode r n P c Q a w
theorem CodePost.stay {ms:List Mk} (hwr:WR σ ρ base H w) (hT:TRel σ ρ nt T a.tmps) (hd:DRel σ ρ ms a.defers):CodePost σ ρ base nt H H w T ms ρ a w:=
 ⟨⟨.refl _ _ _,hwr,.refl _ _⟩,hT,hd⟩
theorem qGz {t:Task} (hfr:∀ t,Fr (ih t)) {o:Out} (h:ih t H=some (o,H')):H.next≤H'.next:=by obtain ⟨es,d,_⟩:=hfr t H o H' h;exact d.next
theorem CodePost.trans {ρ1 ρ2:Ren} {K:AH} {T1 T2:Tmps} {ms1 ms2:List Mk} {a1 a2:Act} {w1 w2:World} (h:CodePost σ ρ base nt H K w T1 ms1 ρ1 a1 w1) (k:CodePost σ ρ1 base nt K H' w1 T2 ms2 ρ2 a2 w2)
  (m1:H.next≤K.next) (m2:K.next≤H'.next):CodePost σ ρ base nt H H' w T2 ms2 ρ2 a2 w2:=
 ⟨⟨h.post.ext.trans k.post.ext m1 m2,k.post.wr,h.post.below.trans k.post.below⟩,k.tmps,k.defers⟩
theorem qQA:∀ {k k':IntKind},qCQ k k'=true→k=k':=by
 intro k k' h;cases k <;> cases k' <;> first | rfl | (cases h;done)
theorem zAAJ {f f':Fn} (h:eqFn f f'=true):f=f':=by
 unfold eqFn at h
 split at h
 ·rw [bE h]
 ·exact oT h
mutual
theorem qMm:∀ {a b:AV},eqA a b=true→a=b
 | .bool a,b,h=>by
   cases b <;> unfold eqA at h <;> first | (cases h;done) | (have:=oT (p:=_=_) (by simpa using h);simp_all)
 | .int k a,b,h=>by
   cases b <;> unfold eqA at h <;> first | (cases h;done) | (simp only [Bool.and_eq_true,qGn,beq_iff_eq] at h;obtain ⟨h1,rfl⟩:=h;rw [qQA h1])
 | .str s,b,h=>by
   cases b <;> unfold eqA at h <;> first | (cases h;done) | (rw [oT h])
 | .ptr x o,b,h=>by
   cases b <;> unfold eqA at h <;> first | (cases h;done) | (simp only [Bool.and_eq_true] at h;rw [bE h.1,bE h.2])
 | .nilptr,b,h=>by cases b <;> unfold eqA at h <;> first | rfl | (cases h;done)
 | .slc x o l c e,b,h=>by
   cases b <;> unfold eqA at h <;> first | (cases h;done) | skip
   rename_i x' o' l' c' e'
   simp only [Bool.and_eq_true] at h
   obtain ⟨h1,h2,h3,h4,h5⟩:=h
   rw [bE h1,bE h2,bE h3,bE h5]
   cases c <;> cases c' <;> first | rfl | (cases h4;done) | (rw [bE h4])
 | .nilslc,b,h=>by cases b <;> unfold eqA at h <;> first | rfl | (cases h;done)
 | .map x,b,h=>by
   cases b <;> unfold eqA at h <;> first | (cases h;done) | (rw [bE h])
 | .nilmap,b,h=>by cases b <;> unfold eqA at h <;> first | rfl | (cases h;done)
 | .fn f a c,b,h=>by
   cases b <;> unfold eqA at h <;> first | (cases h;done) | skip
   simp only [Bool.and_eq_true] at h
   obtain ⟨h1,h2,h3⟩:=h
   rw [zAAJ h1,qLm h2,qLm h3]
 | .yield x,b,h=>by
   cases b <;> unfold eqA at h <;> first | (cases h;done) | (rw [bE h])
 | .nilFunc,b,h=>by cases b <;> unfold eqA at h <;> first | rfl | (cases h;done)
 | .ifc t v,b,h=>by
   cases b <;> unfold eqA at h <;> first | (cases h;done) | (simp only [Bool.and_eq_true] at h;rw [bE h.1,qMm h.2])
 | .nilIface,b,h=>by cases b <;> unfold eqA at h <;> first | rfl | (cases h;done)
 | .agg l,b,h=>by
   cases b <;> unfold eqA at h <;> first | (cases h;done) | (rw [qLm h])
 | .tup l,b,h=>by
   cases b <;> unfold eqA at h <;> first | (cases h;done) | (rw [qLm h])
 | .opq i,b,h=>by
   cases b <;> unfold eqA at h <;> first | (cases h;done) | (rw [bE h])
theorem qLm:∀ {a b:List AV},eqAs a b=true→a=b
 | [],b,h=>by cases b <;> unfold eqAs at h <;> first | rfl | (cases h;done)
 | x :: xs,b,h=>by
   cases b <;> unfold eqAs at h <;> first | (cases h;done) | (simp only [Bool.and_eq_true] at h;rw [qMm h.1,qLm h.2])
end
theorem qBv (hσ:One σ) {a b c:AV} (h:cond (eqA a b) (some a) (cond (a.one&&b.one) (some (.opq 0)) none)=some c) {v:Value}:(Rel σ ρ a v→Rel σ ρ c v)∧(Rel σ ρ b v→Rel σ ρ c v):=by
 cases he:eqA a b with
 | true=>
   rw [he] at h
   cases h
   rw [qMm he]
   exact ⟨id,id⟩
 | false=>
   rw [he] at h
   cases ho:a.one&&b.one with
   | false=>rw [ho] at h;cases h
   | true=>
     rw [ho] at h
     cases h
     simp only [Bool.and_eq_true] at ho
     refine ⟨λh=>?_,λh=>?_⟩
     ·have:=qKi hσ h ho.1;unfold Rel;exact this
     ·have:=qKi hσ h ho.2;unfold Rel;exact this
mutual
theorem qLR (hσ:One σ):∀ (a b c:AV),qFT a b=some c→∀ v,(Rel σ ρ a v→Rel σ ρ c v)∧(Rel σ ρ b v→Rel σ ρ c v)
 | .agg l,b,c,h,v=>by
   cases b
   case agg l'=>
    unfold qFT at h
    cases hj:qKI l l' with
    | none=>rw [hj] at h;cases h
    | some l2=>
      rw [hj] at h
      cases h
      have:=qLf hσ l l' l2 hj
      refine ⟨λh=>?_,λh=>?_⟩
      ·unfold Rel at h ⊢;obtain ⟨cs,h1,h2⟩:=h;exact ⟨cs,h1,(this _).1 h2⟩
      ·unfold Rel at h ⊢;obtain ⟨cs,h1,h2⟩:=h;exact ⟨cs,h1,(this _).2 h2⟩
   all_goals (unfold qFT at h;exact qBv hσ h)
 | .tup l,b,c,h,v=>by
   cases b
   case tup l'=>
    unfold qFT at h
    cases hj:qKI l l' with
    | none=>rw [hj] at h;cases h
    | some l2=>
      rw [hj] at h
      cases h
      have:=qLf hσ l l' l2 hj
      refine ⟨λh=>?_,λh=>?_⟩
      ·unfold Rel at h ⊢;obtain ⟨cs,h1,h2⟩:=h;exact ⟨cs,h1,(this _).1 h2⟩
      ·unfold Rel at h ⊢;obtain ⟨cs,h1,h2⟩:=h;exact ⟨cs,h1,(this _).2 h2⟩
   all_goals (unfold qFT at h;exact qBv hσ h)
 | .bool _,b,c,h,v=>by unfold qFT at h;exact qBv hσ h
 | .int _ _,b,c,h,v=>by unfold qFT at h;exact qBv hσ h
 | .str _,b,c,h,v=>by unfold qFT at h;exact qBv hσ h
 | .ptr _ _,b,c,h,v=>by unfold qFT at h;exact qBv hσ h
 | .nilptr,b,c,h,v=>by unfold qFT at h;exact qBv hσ h
 | .slc _ _ _ _ _,b,c,h,v=>by unfold qFT at h;exact qBv hσ h
 | .nilslc,b,c,h,v=>by unfold qFT at h;exact qBv hσ h
 | .map _,b,c,h,v=>by unfold qFT at h;exact qBv hσ h
 | .nilmap,b,c,h,v=>by unfold qFT at h;exact qBv hσ h
 | .fn _ _ _,b,c,h,v=>by unfold qFT at h;exact qBv hσ h
 | .yield _,b,c,h,v=>by unfold qFT at h;exact qBv hσ h
 | .nilFunc,b,c,h,v=>by unfold qFT at h;exact qBv hσ h
 | .ifc _ _,b,c,h,v=>by unfold qFT at h;exact qBv hσ h
 | .nilIface,b,c,h,v=>by unfold qFT at h;exact qBv hσ h
 | .opq _,b,c,h,v=>by unfold qFT at h;exact qBv hσ h
theorem qLf (hσ:One σ):∀ (a b c:List AV),qKI a b=some c→∀ l,(RelL σ ρ a l→RelL σ ρ c l)∧(RelL σ ρ b l→RelL σ ρ c l)
 | [],b,c,h,l=>by
   cases b <;> unfold qKI at h
   ·cases h;exact ⟨id,id⟩
   ·cases h
 | x :: xs,b,c,h,l=>by
   cases b with
   | nil=>unfold qKI at h;cases h
   | cons y ys=>
     unfold qKI at h
     cases h1:qFT x y with
     | none=>rw [h1] at h;cases h
     | some z=>
       cases h2:qKI xs ys with
       | none=>rw [h1,h2] at h;cases h
       | some zs=>
         rw [h1,h2] at h
         cases h
         have a1:=qLR hσ x y z h1
         have a2:=qLf hσ xs ys zs h2
         refine ⟨λh=>?_,λh=>?_⟩
         ·unfold RelL at h ⊢;obtain ⟨u,us,e,r1,r2⟩:=h;exact ⟨u,us,e,(a1 _).1 r1,(a2 _).1 r2⟩
         ·unfold RelL at h ⊢;obtain ⟨u,us,e,r1,r2⟩:=h;exact ⟨u,us,e,(a1 _).2 r1,(a2 _).2 r2⟩
end
def oval (o:Option AV):AV:=o.getD .undef
theorem qQv (hσ:One σ) {a b c:Option AV} (h:qQT a b=some c) (v:Value):(Rel σ ρ (oval a) v→Rel σ ρ (oval c) v)∧(Rel σ ρ (oval b) v→Rel σ ρ (oval c) v):=by
 unfold qQT at h
 split at h
 ·cases h;exact ⟨id,id⟩
 ·unfold oval
  cases hj:qFT (a.getD .undef) (b.getD .undef) with
  | none=>rw [hj] at h;cases h
  | some c'=>rw [hj] at h;cases h;exact qLR hσ _ _ c' hj v
theorem qM0:∀ (T' U:Tmps),qVC T'=some U→∀ i,qQT none (T'.get i)=some (U.get i)
 | .nil,U,h,i=>by cases h;rw [Tr.get_nil];rfl
 | .node v l r,U,h,i=>by
   unfold qVC at h
   split at h
   ·rename_i v2 l2 r2 h1 h2 h3
    cases h
    cases i with
    | zero=>exact h1
    | succ i=>
      cases hb:Nat.beq (i % 2) 0 with
      | true=>simp only [Tr.get,hb,cond_true];exact qM0 l l2 h2 _
      | false=>simp only [Tr.get,hb,cond_false];exact qM0 r r2 h3 _
   ·cases h
theorem qNA:∀ (T U:Tmps),qU3 T=some U→∀ i,qQT (T.get i) none=some (U.get i)
 | .nil,U,h,i=>by cases h;rw [Tr.get_nil];rfl
 | .node v l r,U,h,i=>by
   unfold qU3 at h
   split at h
   ·rename_i v2 l2 r2 h1 h2 h3
    cases h
    cases i with
    | zero=>exact h1
    | succ i=>
      cases hb:Nat.beq (i % 2) 0 with
      | true=>simp only [Tr.get,hb,cond_true];exact qNA l l2 h2 _
      | false=>simp only [Tr.get,hb,cond_false];exact qNA r r2 h3 _
   ·cases h
theorem qM4:∀ (T T' U:Tmps),qRf T T'=some U→∀ i,qQT (T.get i) (T'.get i)=some (U.get i)
 | .nil,T',U,h,i=>by
   rw [Tr.get_nil]
   exact qM0 T' U (by cases T' <;> exact h) i
 | .node v l r,T',U,h,i=>by
   cases T' with
   | nil=>rw [Tr.get_nil];exact qNA _ U h i
   | node v' l' r'=>
     unfold qRf at h
     split at h
     ·rename_i v2 l2 r2 h1 h2 h3
      cases h
      cases i with
      | zero=>exact h1
      | succ i=>
        cases hb:Nat.beq (i % 2) 0 with
        | true=>simp only [Tr.get,hb,cond_true];exact qM4 l l' l2 h2 _
        | false=>simp only [Tr.get,hb,cond_false];exact qM4 r r' r2 h3 _
     ·cases h
theorem qK9:∀ (T T':Tmps) (i:Nat) (x:AV),(qRs T T').get i=some x→∃ a b,T.get i=some a∧T'.get i=some b∧a.one=true∧b.one=true∧qFT a b=some x
 | .nil,T',i,x,h=>by unfold qRs at h;rw [Tr.get_nil] at h;cases h
 | .node v l r,.nil,i,x,h=>by unfold qRs at h;rw [Tr.get_nil] at h;cases h
 | .node v l r,.node v' l' r',i,x,h=>by
   unfold qRs at h
   cases i with
   | zero=>
     simp only [Tr.get] at h ⊢
     unfold zABG at h
     split at h
     ·rename_i a b
      cases ho:a.one&&b.one with
      | false=>rw [ho] at h;cases h
      | true=>rw [ho] at h;simp only [Bool.and_eq_true] at ho;exact ⟨a,b,rfl,rfl,ho.1,ho.2,h⟩
     ·cases h
   | succ i=>
     cases hb:Nat.beq (i % 2) 0 with
     | true=>simp only [Tr.get,hb,cond_true] at h ⊢;exact qK9 l l' _ x h
     | false=>simp only [Tr.get,hb,cond_false] at h ⊢;exact qK9 r r' _ x h
theorem qSG:∀ {a b:List AEnt},eqEs a b=true→a=b
 | [],b,h=>by cases b <;> unfold eqEs at h <;> first | rfl | (cases h;done)
 | e :: es,b,h=>by
   cases b with
   | nil=>unfold eqEs at h;cases h
   | cons e' es'=>
     unfold eqEs at h
     simp only [Bool.and_eq_true] at h
     obtain ⟨h1,h2,h3,h4⟩:=h
     rw [qSG h4]
     cases e;cases e'
     simp only at h1 h2 h3
     rw [qMm h1,qMm h2,bE h3]
theorem qP8 (hσ:One σ) {own:Prop} {L:Loc} {a b c:ABlk} {o:Option Obj} (h:qZk a b=some c):(BR σ ρ own L a o→BR σ ρ own L c o)∧(BR σ ρ own L b o→BR σ ρ own L c o):=by
 unfold qZk at h
 split at h
 ·rename_i e u n e' u' n'
  obtain ⟨h1,h2⟩:=qAY h
  cases h2
  simp only [Bool.and_eq_true] at h1
  have e1:=bE h1.1
  have e2:=bE h1.2
  subst e1;subst e2
  refine ⟨λ⟨cc,fr,q1,q2,q3,q4,q5⟩=>⟨cc,fr,q1,q2,q3,q4,λi v hv=>?_⟩,λ⟨cc,fr,q1,q2,q3,q4,q5⟩=>⟨cc,fr,q1,q2,q3,q4,λi v hv=>?_⟩⟩
  ·obtain ⟨x,y,hx,hy,o1,o2,hj⟩:=qK9 _ _ i v hv
   obtain ⟨v',r1,r2,r3⟩:=q5 i x hx
   exact ⟨v',r1,(qLR hσ x y v hj v').1 r2,r3⟩
  ·obtain ⟨x,y,hx,hy,o1,o2,hj⟩:=qK9 _ _ i v hv
   obtain ⟨v',r1,r2,r3⟩:=q5 i y hy
   exact ⟨v',r1,(qLR hσ x y v hj v').2 r2,r3⟩
 ·obtain ⟨h1,h2⟩:=qAY h
  cases h2
  simp only [Bool.and_eq_true] at h1
  rw [qSG h1.1,bE h1.2]
  exact ⟨id,id⟩
 ·rename_i x y
  obtain ⟨h1,h2⟩:=qAY h
  cases h2
  have:x=y:=by simpa using h1
  rw [this]
  exact ⟨id,id⟩
 ·cases h
theorem qOd (hσ:One σ) {own:Prop} {L:Loc} (id:Nat):∀ (Ks:List AH) (b c:ABlk),qMG id b Ks=some c→(∀ o,BR σ ρ own L b o→BR σ ρ own L c o)∧∀ K∈Ks,∃ b',K.blks.get id=some b'∧∀ o,BR σ ρ own L b' o→BR σ ρ own L c o
 | [],b,c,h=>by cases h;exact ⟨λ_ h=>h,by simp⟩
 | K :: Ks,b,c,h=>by
   unfold qMG at h
   split at h
   ·rename_i b' hb'
    split at h
    ·rename_i b2 hb2
     obtain ⟨h1,h2⟩:=qOd hσ id Ks b2 c h
     refine ⟨λo r=>h1 o ((qP8 hσ hb2).1 r),λJ hJ=>?_⟩
     rcases mC hJ with rfl | hJ
     ·exact ⟨b',hb',λo r=>h1 o ((qP8 hσ hb2).2 r)⟩
     ·exact h2 J hJ
    ·cases h
   ·cases h
theorem qTV (hσ:One σ) {own:Prop} {L:Loc} {K:AH} {Ks:List AH} {id:Nat} {c:ABlk} (h:qNT K Ks id=some c):∀ J∈K :: Ks,∃ b',J.blks.get id=some b'∧∀ o,BR σ ρ own L b' o→BR σ ρ own L c o:=by
 unfold qNT at h
 split at h
 ·rename_i b hb
  obtain ⟨h1,h2⟩:=qOd hσ id Ks b c h
  intro J hJ
  rcases mC hJ with rfl | hJ
  ·exact ⟨b,hb,h1⟩
  ·exact h2 J hJ
 ·cases h
theorem zAA9 {e e':AExit} (h:eqE e e'=true):e=e':=by
 cases e <;> cases e' <;> first | rfl | (cases h;done) | (unfold eqE at h;rw [bE h])
theorem qRH:∀ {a b:List Mk},eqMs a b=true→a=b
 | [],b,h=>by cases b <;> unfold eqMs at h <;> first | rfl | (cases h;done)
 | .mark x :: xs,b,h=>by
   cases b with
   | nil=>unfold eqMs at h;cases h
   | cons y ys=>
     cases y with
     | mark y=>unfold eqMs at h;simp only [Bool.and_eq_true] at h;rw [bE h.1,qRH h.2]
     | call k a=>unfold eqMs at h;cases h
 | .call x u :: xs,b,h=>by
   cases b with
   | nil=>unfold eqMs at h;cases h
   | cons y ys=>
     cases y with
     | mark y=>unfold eqMs at h;cases h
     | call k a=>unfold eqMs at h;simp only [Bool.and_eq_true] at h;rw [bE h.1,qLm h.2.1,qRH h.2.2]
theorem qQx (hσ:One σ) {T T' U:Tmps} {tm:Array Value} (h:qRf T T'=some U):(TRel σ ρ nt T tm→TRel σ ρ nt U tm)∧(TRel σ ρ nt T' tm→TRel σ ρ nt U tm):=by
 have k:=qM4 T T' U h
 refine ⟨λr=>⟨r.size,λi=>?_⟩,λr=>⟨r.size,λi=>?_⟩⟩
 ·exact (qQv hσ (k i) _).1 (r.at_ i)
 ·exact (qQv hσ (k i) _).2 (r.at_ i)
theorem qJX (hσ:One σ) {e:AExit} {ms:List Mk} {tm:Array Value}:∀ (r:List (Out × AH)) (T U:Tmps),qDz e ms T r=some U→(TRel σ ρ nt T tm→TRel σ ρ nt U tm)∧∀ p∈r,∃ T',p.1=.exit e T' ms∧(TRel σ ρ nt T' tm→TRel σ ρ nt U tm)
 | [],T,U,h=>by cases h;exact ⟨id,by simp⟩
 | (.val v,K) :: r,T,U,h=>by unfold qDz at h;cases h
 | (.exit e' T' ms',K) :: r,T,U,h=>by
   unfold qDz at h
   obtain ⟨h1,h2⟩:=qAY h
   simp only [Bool.and_eq_true] at h1
   have e1:=zAA9 h1.1
   have e2:=qRH h1.2
   subst e1;subst e2
   split at h2
   ·rename_i T2 hT2
    obtain ⟨k1,k2⟩:=qJX hσ r T2 U h2
    refine ⟨λr=>k1 ((qQx hσ hT2).1 r),λp hp=>?_⟩
    rcases mC hp with rfl | hp
    ·exact ⟨T',rfl,λr=>k1 ((qQx hσ hT2).2 r)⟩
    ·exact k2 p hp
   ·cases h2
theorem qQz (hσ:One σ) {m:N Out} (hm:FrN m) {L:List (Out × AH)} {o:Out} (h1:m { H with log:=[] }=some L) (h:qEB H L=some (o,H')) :
  (∀ p∈L,p.2.next≤H'.next)∧∀ p∈L,∀ e T ms,p.1=.exit e T ms→∃ T',o=.exit e T' ms∧
   ∀ a' w' ρ',CodePost σ ρ base nt { H with log:=[] } p.2 w T ms ρ' a' w'→CodePost σ ρ base nt H H' w T' ms ρ' a' w':=by
 obtain ⟨a1,a2,a3⟩:=hm _ L h1
 have hdoes:∀ p∈L,Does p.2.log { H with log:=[] } p.2:=by
  intro p hp
  obtain ⟨es,d⟩:=a2 p hp
  have:p.2.log=es:=by simpa using d.log
  rw [this];exact d
 match L,h,hdoes with
 | [],h,_=>cases h
 | [(o1,K)],h,hdoes=>
   simp only [qEB,Option.some.injEq,Prod.mk.injEq] at h
   obtain ⟨rfl,rfl⟩:=h
   refine ⟨λp hp=>by simp only [List.mem_singleton] at hp;subst hp;exact Nat.le_refl _,λp hp e T ms he=>?_⟩
   simp only [List.mem_singleton] at hp
   subst hp
   exact ⟨T,he,λa' w' ρ' k=>⟨⟨k.post.ext,k.post.wr.log rfl rfl,k.post.below⟩,k.tmps,k.defers⟩⟩
 | (o1,K) :: p :: r,h,hdoes=>
   cases o1 with
   | val v=>simp [qEB] at h
   | exit e T ms=>
     unfold qEB at h
     simp only at h
     cases hj:qDz e ms T (p :: r) with
     | none=>simp [hj] at h
     | some T1=>
       simp only [hj,Option.some.injEq,Prod.mk.injEq] at h
       obtain ⟨rfl,rfl⟩:=h
       have hd:∀ J∈K :: (p :: r).map (·.2),Does J.log { H with log:=[] } J:=by
        intro J hJ
        rcases mC hJ with rfl | hJ
        ·exact hdoes (.exit e T ms,J) (by simp)
        ·obtain ⟨q,hq,rfl⟩:=List.mem_map.1 hJ
         exact hdoes q (mO _ hq)
       have hin:∀ q∈((Out.exit e T ms,K) :: p :: r),q.2∈K :: (p :: r).map (·.2):=by
        intro q hq
        rcases mC hq with rfl | hq
        ·simp
        ·exact mO _ (List.mem_map.2 ⟨q,hq,rfl⟩)
       have hmax:∀ J∈K :: (p :: r).map (·.2),J.next≤qEZ K.next ((p :: r).map (·.2)):=λJ hJ=>by
        obtain ⟨h1,h2⟩:=qOT ((p :: r).map (·.2)) K.next
        rcases mC hJ with rfl | hJ
        ·exact h1
        ·exact h2 J hJ
       refine ⟨λq hq=>hmax _ (hin q hq),λq hq e2 T2 ms2 he=>?_⟩
       have heads:e2=e∧ms2=ms∧∀ ρ' tm,TRel σ ρ' nt T2 tm→TRel σ ρ' nt T1 tm:=by
        rcases mC hq with rfl | hq
        ·cases he;exact ⟨rfl,rfl,λρ' tm=>(qJX hσ (p :: r) T T1 hj).1⟩
        ·have k:=λρ' tm=>(qJX (σ:=σ) (ρ:=ρ') (nt:=nt) (tm:=tm) hσ (p :: r) T T1 hj).2 q hq
         obtain ⟨T3,h3,_⟩:=k ρ #[]
         rw [he] at h3
         cases h3
         refine ⟨rfl,rfl,λρ' tm r=>?_⟩
         obtain ⟨T4,h4,h5⟩:=k ρ' tm
         rw [he] at h4
         cases h4
         exact h5 r
       obtain ⟨rfl,rfl,hT⟩:=heads
       refine ⟨T1,rfl,λa' w' ρ' k=>?_⟩
       have dq:=hd _ (hin q hq)
       have mq:=hmax _ (hin q hq)
       have old:∀ id b,(qIL K ((p :: r).map (·.2)) (logs (K :: (p :: r).map (·.2))) H.blks).get id=some b→∃ b',q.2.blks.get id=some b'∧∀ (own:Prop) (L:Loc) o,BR σ ρ' own L b' o→BR σ ρ' own L b o:=by
        intro id b hb
        by_cases hid:(id,true)∈logs (K :: (p :: r).map (·.2))
        ·rw [(qCX _ _ _ _ id).1 hid] at hb
         have k2:=λ(own:Prop) (L:Loc)=>qTV (σ:=σ) (ρ:=ρ') (own:=own) (L:=L) hσ hb _ (hin q hq)
         obtain ⟨b',h1,_⟩:=k2 True ⟨0,0,0⟩
         refine ⟨b',h1,λown L o r=>?_⟩
         obtain ⟨b2,h3,h4⟩:=k2 own L
         rw [h1] at h3
         cases h3
         exact h4 o r
        ·rw [(qCX _ _ _ _ id).2 hid] at hb
         have hn:(id,true) ∉ q.2.log:=λhm=>hid (qMe.2 ⟨_,hin q hq,hm⟩)
         exact ⟨b,by rw [dq.same id hn];exact hb,λ_ _ _ r=>r⟩
       have wr:=k.post.wr
       have hlo:q.2.lo=H.lo:=dq.lo
       refine ⟨⟨⟨k.post.ext.le,λid hid=>k.post.ext.out id ?_⟩,⟨λid b hb=>?_,λid b L hb hL hl=>?_,λi j bi bj Li Lj hi hj hLi hLj hl hne=>?_,wr.base⟩,k.post.below⟩,hT _ _ k.tmps,k.defers⟩
       ·rcases hid with h | h
        ·exact Or.inl h
        ·exact Or.inr (Nat.le_trans mq h)
       ·obtain ⟨b',h1,h2⟩:=old id b hb
        obtain ⟨L,hL,hB⟩:=wr.blk id b' h1
        rw [hlo] at hB
        exact ⟨L,hL,h2 _ _ _ hB⟩
       ·obtain ⟨b',h1,_⟩:=old id b hb
        exact wr.own id b' L h1 hL (by rw [hlo];exact hl)
       ·obtain ⟨b1,h1,_⟩:=old i bi hi
        obtain ⟨b2,h2,_⟩:=old j bj hj
        exact wr.inj i j b1 b2 Li Lj h1 h2 hLi hLj (by rw [hlo];exact hl) hne
theorem qWL (n:Nat):∀ l:List Nat,hasN n l=l.toArray.contains n
 | []=>by simp [hasN]
 | m :: l=>by
   unfold hasN
   rw [qWL n l]
   have:Nat.beq n m=decide (n=m):=by
    cases h:Nat.beq n m with
    | true=>simp [bE h]
    | false=>have:n≠m:=λe=>by subst e;simp at h
             simp [this]
   rw [this,Bool.eq_iff_iff]
   simp
theorem qQY {seen:List Nat}:∀ {es:List AEnt} {es':List MapEntry},EsRel σ ρ es es'→EsRel σ ρ (qGb seen es) (es'.filter λe=>!seen.toArray.contains e.born)
 | [],es',hr=>by
   have:=hr.len
   cases es' with
   | nil=>exact ⟨rfl,λi e e' h=>by simp [qGb] at h⟩
   | cons=>simp at this
 | a :: es,es',hr=>by
   cases es' with
   | nil=>have:=hr.len;simp at this
   | cons a' es'=>
     have ha:=hr.at_ 0 a a' rfl rfl
     have ht:EsRel σ ρ es es':=⟨by have:=hr.len;simpa using this,λi x y hx hy=>hr.at_ (i+1) x y (by simpa using hx) (by simpa using hy)⟩
     have ih:=qQY (seen:=seen) ht
     unfold qGb
     rw [qWL,← ha.born]
     cases hc:seen.toArray.contains a'.born with
     | true=>simp only [List.filter,hc,Bool.not_true,cond_true];exact ih
     | false=>
       simp only [List.filter,hc,Bool.not_false,cond_false]
       refine ⟨by have:=ih.len;simp only [List.length_cons];rw [this],λi x y hx hy=>?_⟩
       cases i with
       | zero=>simp at hx hy;subst hx;subst hy;exact ha
       | succ i=>exact ih.at_ i x y (by simpa using hx) (by simpa using hy)
theorem EsRel.mem {es:List AEnt} {es':List MapEntry} (h:EsRel σ ρ es es') {e':MapEntry} (he:e'∈es'):∃ e∈es,ERel σ ρ e e':=by
 obtain ⟨i,hi,rfl⟩:=List.mem_iff_getElem.1 he
 have hl:i < es.length:=by rw [← h.len];exact hi
 exact ⟨es[i],List.getElem_mem hl,h.at_ i _ _ (gE hl) (gE hi)⟩
theorem qTW {since:Nat}:∀ {es:List AEnt} {es':List MapEntry},EsRel σ ρ es es'→qIe since es=true→∀ x∈es',x.born < since:=by
 intro es es' hr h x hx
 obtain ⟨e,he,hre⟩:=hr.mem hx
 rw [hre.born]
 clear hr hx hre
 induction es with
 | nil=>cases he
 | cons a es ih=>
   unfold qIe at h
   simp only [Bool.and_eq_true] at h
   rcases mC he with rfl | he
   ·simpa [Nat.blt_eq] using h.1
   ·exact ih h.2 he
theorem qVb {x:AV} {x':Value} {d:IterD} {l:List AEnt} (h:qT2 x H=some ((d,l),H')) (hx:Rel σ ρ x x') (hwr:WR σ ρ base H w) :
  H'.blks=H.blks∧H'.lo=H.lo∧H'.next=H.next∧((l=[]∧∀ ty,(Instr.next x' false ty).run P w=.ok (.tuple #[.bool false]) w)∨
   (∃ e∈l,∃ e' w1,(ERel σ ρ e e')∧(∀ ty,(Instr.next x' false ty).run P w=.ok (.tuple #[.bool true,e'.key,e'.val]) w1)∧
    ∀ H2 u,qVu d e H'=some (u,H2)→H2.next=H.next∧WR σ ρ base H2 w1∧Below base w w1)):=by
 unfold qT2 at h
 split at h
 ·rename_i r
  unfold Rel at hx
  obtain ⟨L,hL,rfl⟩:=hx
  obtain ⟨blk,K1,g1,g2⟩:=qAR h
  obtain ⟨hb,e1,e2,e3⟩:=qCL g1
  cases blk with
  | iter m since seen stepped=>
    obtain ⟨L',hL',hsh,M,q1,q2⟩:=hwr.blk _ _ hb
    rw [hL] at hL';cases hL'
    cases m with
    | none=>
      cases qAK g2
      subst q1
      exact ⟨e1,e2,e3,Or.inl ⟨rfl,λty=>by simp [Instr.next,hsh,getObj,Sem.run,q2]⟩⟩
    | some m=>
      obtain ⟨D,q3,rfl⟩:=q1
      obtain ⟨blk2,K2,g3,g4⟩:=qAR g2
      obtain ⟨hb2,f1,f2,f3⟩:=qCL g3
      cases blk2 with
      | map es clock=>
        obtain ⟨hc,g5⟩:=qAy g4
        cases qAK g5
        simp only [Bool.and_eq_true] at hc
        rw [e1] at hb2
        obtain ⟨D',hD',es',q4,q5⟩:=hwr.blk _ _ hb2
        rw [q3] at hD';cases hD'
        refine ⟨f1.trans e1,f2.trans e2,f3.trans e3,?_⟩
        have hsc:since≤stepped:=Nat.le_of_ble_eq_true hc.1
        have hold:=qTW q5 hc.2
        have hleft:=qQY (seen:=seen) q5
        have hfil:(leftOf es' seen.toArray).toList=es'.toList.filter λe=>!seen.toArray.contains e.born:=by unfold leftOf;exact Array.toList_filter
        rw [← hfil] at hleft
        have step:=λty=>run_next_at (P:=P) w ty L.blk D.blk since stepped seen.toArray es' clock q2 q4 hold hsc
        have hz:∀ ty:TypeId,Value.pointer (some ⟨L.blk,L.sh+0,none⟩)=Value.pointer (some ⟨L.blk,0,none⟩):=λ_=>by rw [hsh]
        rcases step 0 with ⟨s1,_⟩ | ⟨e',he',_⟩
        ·left
         refine ⟨List.eq_nil_of_length_eq_zero (by rw [← hleft.len];simpa using s1),λty=>?_⟩
         rw [hz ty]
         rcases step ty with ⟨_,s2⟩ | ⟨e',he',_⟩
         ·exact s2
         ·rw [List.eq_nil_of_length_eq_zero (by simpa using s1:(leftOf es' seen.toArray).toList.length=0)] at he';cases he'
        ·right
         have hpos:0 < (leftOf es' seen.toArray).size:=by
          have:=List.length_pos_of_mem he'
          simpa using this
         have step0:∃ e'∈(leftOf es' seen.toArray).toList,∃ w1:World,(w1=w∨w1=w.drew)∧∀ ty,(Instr.next (.pointer (some ⟨L.blk,0,none⟩)) false ty).run P w=.ok (.tuple #[.bool true,e'.key,e'.val]) (Go.ChangeMaps.setBlock w1 L.blk (.mapIter (some D.blk) since (seen.toArray.push e'.born) clock)):=by
          rcases step 0 with ⟨s1,_⟩ | ⟨e',he',w1,a,b⟩
          ·omega
          ·exact ⟨e',he',w1,a,λty=>b⟩
         obtain ⟨e',he',w1,hw1,hrun⟩:=step0
         obtain ⟨e,he,hre⟩:=hleft.mem he'
         refine ⟨e,he,e',_,hre,λty=>by rw [hz ty];exact hrun ty,λH2 u ht=>?_⟩
         unfold qVu at ht
         obtain ⟨hlo,⟨b0,hb0⟩,hk,hkl,hkn⟩:=qG1 ht
         rw [f1,e1] at hb0
         have hlt:L.blk < w.heap.size:=qK4 q2
         have hu:Upd w L.blk (.mapIter (some D.blk) since (seen.toArray.push e'.born) clock) (Go.ChangeMaps.setBlock w1 L.blk (.mapIter (some D.blk) since (seen.toArray.push e'.born) clock)):=by
          rcases hw1 with rfl | rfl
          ·exact ⟨rfl,rfl,rfl,by simp [Go.ChangeMaps.setBlock],by simp [Go.ChangeMaps.setBlock,hlt],λk hk=>Array.getElem?_setIfInBounds_ne (λe=>hk e.symm)⟩
          ·exact ⟨rfl,rfl,rfl,by simp [Go.ChangeMaps.setBlock],by simp [Go.ChangeMaps.setBlock,hlt],λk hk=>Array.getElem?_setIfInBounds_ne (λe=>hk e.symm)⟩
         obtain ⟨k1,k2⟩:=hwr.put (K:=H2) (b:=.iter (some m) since (seen ++ [e.born]) clock) hb0 hL (by rw [← e2,← f2];exact hlo) hu ⟨hsh,some D.blk,⟨D,q3,rfl⟩,by simp [hre.born]⟩ (λj=>by rw [hk j,f1,e1]) (by rw [hkl,f2,e2])
         exact ⟨by rw [hkn,f3,e3],k1,k2⟩
      | _=>exact (qAD g4).elim
  | _=>exact (qAD g2).elim
 ·exact (qAD h).elim
theorem qXg (T:Tmps) (i:Nat):tget' T i=tget T i:=by unfold tget' tget;cases T.get i <;> rfl
theorem qO8 {b:Code} {s:MapStep} (hs:qCb b=some s) {r:Option Nat} {Q:Exit→Act→World→Prop} {vs:Array Value} {t:Bool} {w1:World} (hn:s.nx < a.tmps.size)
  (hrun:∀ ty,(Instr.next (a.tmps.getD s.it undef) false ty).run P w=.ok (.tuple vs) w1) (hv:vs[0]?=some (.bool t))
  (h:s.rest.wpIn (FR r) 0 P Q ((a.put (some s.nx) (.tuple vs)).put (some s.more) (.bool t)) w1):b.wpIn (FR r) 0 P Q a w:=by
 unfold qCb at hs
 split at hs
 ·rename_i id ops rest
  split at hs
  ·rename_i nx it ty1 pos1 af1 more nx' ty2 pos2 af2 hops
   obtain ⟨hc,hs⟩:=qAY hs
   cases hs
   have hc:=bE hc
   subst hc
   have e0:ops=#[⟨some nx,.next (.tmp it) false,ty1,pos1,af1,none⟩,⟨some more,.extract (.tmp nx) 0,ty2,pos2,af2,none⟩]:=by
    apply Array.toList_inj.1;rw [hops]
   subst e0
   refine wpIn_seq (wpIn_region ?_)
   simp only [List.size_toArray,List.length_cons,List.length_nil,zA,Nat.reduceAdd,show List.range 2=[0,1] from rfl,wpOpsIn,List.getElem?_toArray,g0Y,g1Y]
   have w1t:∀ (o:Oper) (t':Nat→Option Bool),o.guard=none→Region.wanted o t'=true:=λo t' h=>by unfold Region.wanted;rw [h]
   rw [if_pos (w1t _ _ rfl)]
   refine ⟨qEH,?_⟩
   rw [Oper.semAt_eq _ _ _ (by intro c h;cases h)]
   have e1:(execOp a.eval ⟨some nx,.next (.tmp it) false,ty1,pos1,af1,none⟩).run P w=.ok (.value (.tuple vs)) w1:=by
    have he:a.eval (.tmp it)=a.tmps.getD it undef:=by simp [Act.eval]
    simp only [execOp,he,Sem.run_bind,hrun ty1,Result.andThen_ok,Sem.run_pure]
   rw [e1,Oper.uponIn_value]
   simp only []
   rw [if_pos (w1t _ _ rfl)]
   refine ⟨qEH,?_⟩
   rw [Oper.semAt_eq _ _ _ (by intro c h;cases h)]
   have e2:(execOp (a.put (some nx) (.tuple vs)).eval ⟨some more,.extract (.tmp nx) 0,ty2,pos2,af2,none⟩).run P w1=.ok (.value (.bool t)) w1:=by
    have he:(a.put (some nx) (.tuple vs)).eval (.tmp nx)=.tuple vs:=by
     simp only [Act.eval,Act.put]
     have:nx < a.tmps.size:=hn
     simp [this]
    simp only [execOp,he,Sem.run_bind,Instr.extract,hv,Sem.run_pure,Result.andThen_ok]
   rw [e2,Oper.uponIn_value]
   exact h
  ·cases hs
 ·cases hs
theorem qPq {γ δ:Type} {f:γ→N δ}:∀ {l:List (γ × AH)} {L:List (δ × AH)},allN f l=some L→∀ p∈l,∃ l',f p.1 p.2=some l'∧∀ q∈l',q∈L
 | [],_,_,p,hp=>by cases hp
 | (a,K) :: r,L,h,p,hp=>by
   unfold allN at h
   cases h1:f a K with
   | none=>simp [h1] at h
   | some lq=>
     cases h2:allN f r with
     | none=>simp [h1,h2] at h
     | some Lr=>
       simp only [h1,h2,Option.some.injEq] at h
       subst h
       rcases mC hp with rfl | hp
       ·exact ⟨lq,h1,λq hq=>List.mem_append.2 (Or.inl hq)⟩
       ·obtain ⟨l',h3,h4⟩:=qPq h2 p hp
        exact ⟨l',h3,λq hq=>List.mem_append.2 (Or.inr (h4 q hq))⟩
theorem qOo {γ δ:Type} {m:N γ} {f:γ→N δ} {L:List (δ × AH)} (h:bdN m f H=some L):∃ l,m H=some l∧∀ p∈l,∃ l',f p.1 p.2=some l'∧∀ q∈l',q∈L:=by
 unfold bdN at h
 cases h1:m H with
 | none=>simp [h1] at h
 | some l=>simp only [h1] at h;exact ⟨l,rfl,qPq h⟩
theorem qEe {γ:Type} {m:M γ} {L:List (γ × AH)} (h:oneN m H=some L):∃ x K,m H=some (x,K)∧L=[(x,K)]:=by
 unfold oneN at h
 cases h1:m H with
 | none=>simp [h1] at h
 | some r=>simp only [h1,Option.some.injEq] at h;exact ⟨r.1,r.2,rfl,h.symm⟩
theorem qU5 {γ:Type} {l:List γ} {a:γ} (h:a∈l):(a,H)∈qOq H l:=by
 induction l with
 | nil=>cases h
 | cons b l ih=>rcases mC h with rfl | h;exact List.mem_cons_self;exact mO _ (ih h)
theorem qQ3 (hco:qGt P n ih) (hfr:∀ t,Fr (ih t)) {rA:Option Nat} {b:Code} {s:MapStep} (hs:qCb b=some s) (h1:s.nx < nt) (h2:s.more < nt):∀ (k:Nat) (T:Tmps) (ms:List Mk) (H:AH) (L:List (Out × AH)),qCJ ih nt rA s k T ms H=some L→
  ∀ (σ:Nat→Value) (ρ:Ren) (base:Nat) (w:World) (a:Act) (r:Option Nat) (Q:Exit→Act→World→Prop),One σ→WR σ ρ base H w→(∀ p∈L,Free ρ H.next p.2.next)→TRel σ ρ nt T a.tmps→RR ρ rA r→DRel σ ρ ms a.defers→
   (∀ p∈L,∀ e T' ms',p.1=.exit e T' ms'→∀ a' w' ρ',CodePost σ ρ base nt H p.2 w T' ms' ρ' a' w'→Q (qN9 e) a' w')→Code.roundsIn (FR r) 0 P b Q k a w:=by
 intro k
 induction k with
 | zero=>intro T ms H L h;cases h
 | succ k ihk=>
   intro T ms H L h σ ρ base w a r Q hσ hwr hf hT hr hd hQ
   unfold qCJ at h
   obtain ⟨l1,g1,g2⟩:=qOo h
   obtain ⟨hd1,K1,g3,rfl⟩:=qEe g1
   obtain ⟨L1,g4,g5⟩:=g2 (hd1,K1) (List.mem_singleton.2 rfl)
   obtain ⟨d,left⟩:=hd1
   have hx:=hT.at_ s.it
   rw [← qXg] at hx
   obtain ⟨c1,c2,c3,c4⟩:=qVb (P:=P) g3 hx hwr
   rw [roundsIn_succ]
   rcases c4 with ⟨rfl,c5⟩ | ⟨e,he,e',w1,c5,c6,c7⟩
   ·simp only at g4
    obtain ⟨o,K2,g6,rfl⟩:=qEe g4
    obtain ⟨o1,K3,g7,g8⟩:=qAR g6
    have hm:=g5 (o,K2) (List.mem_singleton.2 rfl)
    obtain ⟨e,T2,ms2,rfl,k1⟩:=hco _ _ _ _ _ _ _ _ g7
    have hput:TRel σ ρ nt ((T.put s.nx (some (.tup [.bool false]))).put s.more (some (.bool false))) ((a.put (some s.nx) (.tuple #[.bool false])).put (some s.more) (.bool false)).tmps:=
     qD9 (v:=.bool false) (v':=.bool false) (dst:=some s.more) (T:=T.put s.nx (some (.tup [.bool false]))) (by simp only [setT];rw [show Nat.blt s.more nt=true by simpa [Nat.blt_eq] using h2];rfl)
      (qD9 (v:=.tup [.bool false]) (v':=.tuple #[.bool false]) (dst:=some s.nx) (T:=T) (by simp only [setT];rw [show Nat.blt s.nx nt=true by simpa [Nat.blt_eq] using h1];rfl) hT (by unfold Rel;exact ⟨_,rfl,.cons (by unfold Rel;rfl) .nil⟩)) (by unfold Rel;rfl)
    have hwr1:WR σ ρ base K1 w:=hwr.log c1 c2
    have concl:e≠.nrm→o=.exit e T2 ms2→K3=K2→b.wpIn (FR r) 0 P (Exit.then (Code.roundsIn (FR r) 0 P b Q k) Q) a w:=by
     rintro hne rfl rfl
     refine qO8 (t:=false) hs (by rw [hT.size];exact h1) c5 rfl ?_
     refine ACode.wp (n:=n) (k1 σ ρ base w _ r _ hσ hwr1 (by rw [c3];exact hf _ hm) hput hr (by rw [qBp,qBp];exact hd) λa' w' ρ' p=>?_)
     have:Q (qN9 e) a' w':=hQ _ hm e T2 ms2 rfl a' w' ρ' ⟨⟨by rw [← c3];exact p.post.ext,p.post.wr,p.post.below⟩,p.tmps,p.defers⟩
     cases e with
     | nrm=>exact absurd rfl hne
     | exit id=>exact this
     | ret=>exact this
    cases e with
    | nrm=>exact (qAD g8).elim
    | exit id=>cases qAK g8;exact concl (by simp) rfl rfl
    | ret=>cases qAK g8;exact concl (by simp) rfl rfl
   ·cases left with
    | nil=>cases he
    | cons e0 es0=>
      simp only at g4
      obtain ⟨l2,g6,g7⟩:=qOo g4
      have:l2=qOq K1 (e0 :: es0):=by have g6:some (qOq K1 (e0 :: es0))=some l2:=g6;cases g6;rfl
      subst this
      obtain ⟨L2,g8,g9⟩:=g7 (e,K1) (qU5 he)
      obtain ⟨l3,g10,g11⟩:=qOo g8
      obtain ⟨o,K3,g12,rfl⟩:=qEe g10
      obtain ⟨u,K2,g13,g14⟩:=qAR g12
      obtain ⟨n2,wr2,bl2⟩:=c7 K2 u g13
      obtain ⟨L3,g15,g16⟩:=g11 (o,K3) (List.mem_singleton.2 rfl)
      have sub:∀ q∈L3,q∈L:=λq hq=>g5 q (g9 q (g16 q hq))
      obtain ⟨ex,T2,ms2,rfl,k1⟩:=hco _ _ _ _ _ _ _ _ g14
      have hput:TRel σ ρ nt ((T.put s.nx (some (.tup [.bool true,e.key,e.val]))).put s.more (some (.bool true))) ((a.put (some s.nx) (.tuple #[.bool true,e'.key,e'.val])).put (some s.more) (.bool true)).tmps:=
       qD9 (v:=.bool true) (v':=.bool true) (dst:=some s.more) (T:=T.put s.nx (some (.tup [.bool true,e.key,e.val]))) (by simp only [setT];rw [show Nat.blt s.more nt=true by simpa [Nat.blt_eq] using h2];rfl)
        (qD9 (v:=.tup [.bool true,e.key,e.val]) (v':=.tuple #[.bool true,e'.key,e'.val]) (dst:=some s.nx) (T:=T) (by simp only [setT];rw [show Nat.blt s.nx nt=true by simpa [Nat.blt_eq] using h1];rfl) hT (by unfold Rel;exact ⟨_,rfl,.cons (by unfold Rel;rfl) (.cons c5.key (.cons c5.val .nil))⟩)) (by unfold Rel;rfl)
      have m3:K2.next≤K3.next:=qGz hfr g14
      have hfin:∀ p∈L3,K3.next≤p.2.next:=by
       intro p hp
       have hfrN:FrN (match (generalizing:=false) (Out.exit ex T2 ms2:Out) with
        | .exit .nrm T ms=>qCJ ih nt rA s k T ms
        | o=>oneN (ret o)):=by
        split
        ·exact qEc hfr nt rA s k _ _
        ·exact qLs (qBD _)
       obtain ⟨_,q2,_⟩:=hfrN K3 L3 g15
       obtain ⟨es,dd⟩:=q2 p hp
       exact dd.next
      refine qO8 (t:=true) hs (by rw [hT.size];exact h1) c6 rfl ?_
      have hfree:Free ρ K2.next K3.next:=by
       have hne:L3≠[]:=by
        have hfrN:FrN (match (generalizing:=false) (Out.exit ex T2 ms2:Out) with
         | .exit .nrm T ms=>qCJ ih nt rA s k T ms
         | o=>oneN (ret o)):=by
         split
         ·exact qEc hfr nt rA s k _ _
         ·exact qLs (qBD _)
        exact (hfrN K3 L3 g15).1
       cases L3 with
       | nil=>exact absurd rfl hne
       | cons p L3=>
         have:=hf p (sub p (by simp))
         rw [n2]
         exact this.left (hfin p (by simp))
      refine ACode.wp (n:=n) (k1 σ ρ base w1 _ r _ hσ wr2 hfree hput hr (by rw [qBp,qBp];exact hd) λa' w' ρ' p=>?_)
      have lift:∀ {T' ms' K a'' w'' ρ''},K3.next≤K.next→CodePost σ ρ' base nt K3 K w' T' ms' ρ'' a'' w''→CodePost σ ρ base nt H K w T' ms' ρ'' a'' w'':=by
       intro T' ms' K a'' w'' ρ'' hle q
       have:=p.trans q m3 hle
       exact ⟨⟨by rw [← n2];exact this.post.ext,this.post.wr,bl2.trans this.post.below⟩,this.tmps,this.defers⟩
      cases ex with
      | nrm=>
        show Code.roundsIn (FR r) 0 P b Q k a' w'
        refine ihk T2 ms2 K3 L3 g15 σ ρ' base w' a' r Q hσ p.post.wr (λq hq=>?_) p.tmps (hr.mono p.post.ext.le) p.defers λq hq e2 T' ms' he2 a'' w'' ρ'' cp=>?_
        ·have h3:=hf q (sub q hq)
         rw [← n2] at h3
         exact p.post.ext.free h3 m3
        ·exact hQ q (sub q hq) e2 T' ms' he2 a'' w'' ρ'' (lift (hfin q hq) cp)
      | exit id=>
        obtain ⟨x,K4,g17,rfl⟩:=qEe g15
        cases qAK g17
        exact hQ _ (sub _ (List.mem_singleton.2 rfl)) (.exit id) T2 ms2 rfl a' w' ρ' (lift (Nat.le_refl _) (.stay p.post.wr p.tmps p.defers))
      | ret=>
        obtain ⟨x,K4,g17,rfl⟩:=qEe g15
        cases qAK g17
        exact hQ _ (sub _ (List.mem_singleton.2 rfl)) .ret T2 ms2 rfl a' w' ρ' (lift (Nat.le_refl _) (.stay p.post.wr p.tmps p.defers))
theorem qSj {γ δ:Type} {f:γ→N δ}:∀ {l:List (γ × AH)} {L:List (δ × AH)},allN f l=some L→∀ q∈L,∃ p∈l,∃ l',f p.1 p.2=some l'∧q∈l'
 | [],L,h,q,hq=>by cases h;cases hq
 | (a,K) :: r,L,h,q,hq=>by
   unfold allN at h
   cases h1:f a K with
   | none=>simp [h1] at h
   | some lq=>
     cases h2:allN f r with
     | none=>simp [h1,h2] at h
     | some Lr=>
       simp only [h1,h2,Option.some.injEq] at h
       subst h
       rcases mP hq with hq | hq
       ·exact ⟨(a,K),by simp,lq,h1,hq⟩
       ·obtain ⟨p,hp,l',h3,h4⟩:=qSj h2 q hq
        exact ⟨p,mO _ hp,l',h3,h4⟩
theorem qRA {γ δ:Type} {m:N γ} {f:γ→N δ} {L:List (δ × AH)} (h:bdN m f H=some L) {q:δ × AH} (hq:q∈L):∃ p l',f p.1 p.2=some l'∧q∈l'∧∃ l,m H=some l∧p∈l:=by
 unfold bdN at h
 cases h1:m H with
 | none=>simp [h1] at h
 | some l=>
   simp only [h1] at h
   obtain ⟨p,hp,l',h3,h4⟩:=qSj h q hq
   exact ⟨p,l',h3,h4,l,rfl,hp⟩
theorem qNg (hco:qGt P n ih) {rA:Option Nat} {s:MapStep}:∀ (k:Nat) (T:Tmps) (ms:List Mk) (H:AH) (L:List (Out × AH)),qCJ ih nt rA s k T ms H=some L→∀ q∈L,∃ e T' ms',q.1=.exit e T' ms':=by
 intro k
 induction k with
 | zero=>intro T ms H L h;cases h
 | succ k ihk=>
   intro T ms H L h q hq
   unfold qCJ at h
   obtain ⟨⟨⟨d,left⟩,K0⟩,l',h1,h2,_⟩:=qRA h hq
   cases left with
   | nil=>
     obtain ⟨o,K,g1,rfl⟩:=qEe h1
     obtain ⟨o1,K1,g2,g3⟩:=qAR g1
     obtain ⟨e,T2,ms2,rfl,_⟩:=hco _ _ _ _ _ _ _ _ g2
     simp only [List.mem_singleton] at h2
     subst h2
     cases e with
     | nrm=>exact (qAD g3).elim
     | exit id=>cases qAK g3;exact ⟨_,_,_,rfl⟩
     | ret=>cases qAK g3;exact ⟨_,_,_,rfl⟩
   | cons e0 es0=>
     obtain ⟨p2,l2,h3,h4,_⟩:=qRA h1 h2
     obtain ⟨p3,l3,h5,h6,l4,h7,h8⟩:=qRA h3 h4
     obtain ⟨o,K,g1,rfl⟩:=qEe h7
     obtain ⟨u,K1,g2,g3⟩:=qAR g1
     obtain ⟨e,T2,ms2,rfl,_⟩:=hco _ _ _ _ _ _ _ _ g3
     simp only [List.mem_singleton] at h8
     subst h8
     cases e with
     | nrm=>exact ihk _ _ _ _ h5 q h6
     | exit id=>
       obtain ⟨x,K4,g17,rfl⟩:=qEe h5
       cases qAK g17
       simp only [List.mem_singleton] at h6
       subst h6
       exact ⟨_,_,_,rfl⟩
     | ret=>
       obtain ⟨x,K4,g17,rfl⟩:=qEe h5
       cases qAK g17
       simp only [List.mem_singleton] at h6
       subst h6
       exact ⟨_,_,_,rfl⟩
theorem qQV {L:List (Out × AH)} {o:Out} (h:qEB H L=some (o,H')):(∃ p∈L,p.1=o)∨∃ e T ms,o=.exit e T ms:=by
 match L,h with
 | [],h=>cases h
 | [(o1,K)],h=>
   simp only [qEB,Option.some.injEq,Prod.mk.injEq] at h
   exact Or.inl ⟨(o1,K),List.mem_singleton.2 rfl,h.1⟩
 | (o1,K) :: p :: r,h=>
   cases o1 with
   | val v=>simp [qEB] at h
   | exit e T ms=>
     unfold qEB at h
     simp only at h
     cases hj:qDz e ms T (p :: r) with
     | none=>simp [hj] at h
     | some T1=>
       simp only [hj,Option.some.injEq,Prod.mk.injEq] at h
       exact Or.inr ⟨_,_,_,h.1.symm⟩
theorem qTw {rA:Option Nat} {c:Code} {ms:List Mk} {o:Out} {s:MapStep} (hs:qCb c=some s) (hco:qGt P n ih) (hfr:∀ t,Fr (ih t)) (h:qIN ih nt rA s T ms H=some (o,H')):Goal P (n+1) nt rA (.loop c) T ms H o H':=by
 unfold qIN at h
 obtain ⟨hb,h⟩:=qAy h
 simp only [Bool.and_eq_true,Nat.blt_eq] at hb
 cases hL:qCJ ih nt rA s 1000 T ms { H with log:=[] } with
 | none=>simp only [hL] at h;cases h
 | some L=>
   simp only [hL] at h
   have hfn:=qEc hfr nt rA s 1000 T ms
   obtain ⟨a1,_,_⟩:=hfn _ L hL
   have allExit:∀ p∈L,∃ e T' ms',p.1=.exit e T' ms':=qNg hco 1000 T ms _ L hL
   have hex:∃ e T' ms',o=.exit e T' ms':=by
    rcases qQV h with ⟨p,hp,rfl⟩ | h2
    ·exact allExit p hp
    ·exact h2
   obtain ⟨e,T',ms',rfl⟩:=hex
   refine ⟨e,T',ms',rfl,λσ ρ base w a r Q hσ hwr hf hT hr hd hQ=>?_⟩
   obtain ⟨j1,j3⟩:=qQz (σ:=σ) (ρ:=ρ) (base:=base) (nt:=nt) (w:=w) hσ hfn hL h
   unfold ACode
   simp only [hs]
   refine qQ3 hco hfr hs hb.1 hb.2 1000 T ms _ L hL σ ρ base w a r Q hσ (hwr.log rfl rfl) (λp hp=>hf.left (j1 p hp)) hT hr hd λp hp e2 T2 ms2 he a' w' ρ' cp=>?_
   obtain ⟨T3,h3,h4⟩:=j3 p hp e2 T2 ms2 he
   cases h3
   exact hQ a' w' ρ' (h4 a' w' ρ' cp)
theorem zAAv {rA:Option Nat} {x y:Code} {ms:List Mk} {o:Out} (hco:qGt P n ih) (hfr:∀ t,Fr (ih t)) (h:qBF P ih nt rA (.seq x y) T ms H=some (o,H')):Goal P (n+1) nt rA (.seq x y) T ms H o H':=by
 obtain ⟨o1,K,h1,h2⟩:=qAR h
 have m1:=qGz hfr h1
 obtain ⟨e,T1,ms1,rfl,k1⟩:=hco _ _ _ _ _ _ _ _ h1
 cases e with
 | nrm=>
   have m2:=qGz hfr h2
   obtain ⟨e,T2,ms2,rfl,k2⟩:=hco _ _ _ _ _ _ _ _ h2
   refine ⟨e,T2,ms2,rfl,λσ ρ base w a r Q hσ hwr hf hT hr hd hQ=>wpIn_seq (ACode.wp (n:=n) ?_)⟩
   refine k1 σ ρ base w a r _ hσ hwr (hf.left m2) hT hr hd λa1 w1 ρ1 p1=>?_
   refine ACode.wp (n:=n) (k2 σ ρ1 base w1 a1 r Q hσ p1.post.wr (p1.post.ext.free hf m1) p1.tmps (hr.mono p1.post.ext.le) p1.defers λa2 w2 ρ2 p2=>hQ a2 w2 ρ2 (p1.trans p2 m1 m2))
 | exit id=>
   cases qAK h2
   exact ⟨.exit id,T1,ms1,rfl,λσ ρ base w a r Q hσ hwr hf hT hr hd hQ=>wpIn_seq (ACode.wp (n:=n) (k1 σ ρ base w a r _ hσ hwr hf hT hr hd λa1 w1 ρ1 p1=>hQ a1 w1 ρ1 p1))⟩
 | ret=>
   cases qAK h2
   exact ⟨.ret,T1,ms1,rfl,λσ ρ base w a r Q hσ hwr hf hT hr hd hQ=>wpIn_seq (ACode.wp (n:=n) (k1 σ ρ base w a r _ hσ hwr hf hT hr hd λa1 w1 ρ1 p1=>hQ a1 w1 ρ1 p1))⟩
theorem qZt {rA:Option Nat} {x:Operand} {y z:Code} {ms:List Mk} {o:Out} (hco:qGt P n ih) (h:qBF P ih nt rA (.cond x y z) T ms H=some (o,H')):Goal P (n+1) nt rA (.cond x y z) T ms H o H':=by
 unfold qBF at h
 simp only at h
 generalize hx:ev T x=v at h
 split at h
 ·rename_i t
  obtain ⟨e,T1,ms1,rfl,k1⟩:=hco _ _ _ _ _ _ _ _ h
  refine ⟨e,T1,ms1,rfl,λσ ρ base w a r Q hσ hwr hf hT hr hd hQ=>?_⟩
  have hv:=qBE (a:=a) hx hT
  unfold Rel at hv
  refine wpIn_cond hv ?_
  have:=ACode.wp (k1 σ ρ base w a r Q hσ hwr hf hT hr hd hQ)
  cases t <;> exact this
 ·exact (qAD h).elim
theorem qXs {rA:Option Nat} {id:Nat} {c:Code} {ms:List Mk} {o:Out} (hco:qGt P n ih) (h:qBF P ih nt rA (.block id c) T ms H=some (o,H')):Goal P (n+1) nt rA (.block id c) T ms H o H':=by
 obtain ⟨o1,K,h1,h2⟩:=qAR h
 obtain ⟨e,T1,ms1,rfl,k1⟩:=hco _ _ _ _ _ _ _ _ h1
 cases e with
 | nrm=>
   cases qAK h2
   exact ⟨.nrm,T1,ms1,rfl,λσ ρ base w a r Q hσ hwr hf hT hr hd hQ=>wpIn_block (ACode.wp (n:=n) (k1 σ ρ base w a r _ hσ hwr hf hT hr hd λa1 w1 ρ1 p1=>hQ a1 w1 ρ1 p1))⟩
 | ret=>
   cases qAK h2
   exact ⟨.ret,T1,ms1,rfl,λσ ρ base w a r Q hσ hwr hf hT hr hd hQ=>wpIn_block (ACode.wp (n:=n) (k1 σ ρ base w a r _ hσ hwr hf hT hr hd λa1 w1 ρ1 p1=>hQ a1 w1 ρ1 p1))⟩
 | exit id'=>
   cases hb:Nat.beq id' id with
   | true=>
     simp only [hb,cond_true] at h2
     cases qAK h2
     have e:=bE hb
     exact ⟨.nrm,T1,ms1,rfl,λσ ρ base w a r Q hσ hwr hf hT hr hd hQ=>wpIn_block (ACode.wp (n:=n) (k1 σ ρ base w a r _ hσ hwr hf hT hr hd λa1 w1 ρ1 p1=>by
      show (if id'=id then _ else _)
      rw [if_pos e];exact hQ a1 w1 ρ1 p1))⟩
   | false=>
     simp only [hb,cond_false] at h2
     cases qAK h2
     have e:id'≠id:=λe=>by subst e;simp at hb
     exact ⟨.exit id',T1,ms1,rfl,λσ ρ base w a r Q hσ hwr hf hT hr hd hQ=>wpIn_block (ACode.wp (n:=n) (k1 σ ρ base w a r _ hσ hwr hf hT hr hd λa1 w1 ρ1 p1=>by
      show (if id'=id then _ else _)
      rw [if_neg e];exact hQ a1 w1 ρ1 p1))⟩
theorem qZY {rA:Option Nat} {c:Code} {ms:List Mk} {o:Out} (hco:qGt P n ih) (hfr:∀ t,Fr (ih t)) (h:qBF P ih nt rA (.loop c) T ms H=some (o,H')):Goal P (n+1) nt rA (.loop c) T ms H o H':=by
 have e0:qBF P ih nt rA (.loop c) T ms=(match qCb c with
  | some s=>qIN ih nt rA s T ms
  | none=>bd (ih (.code nt rA c T ms)) λo=>match o with
    | .exit .nrm T ms=>ih (.code nt rA (.loop c) T ms)
    | o=>ret o):=rfl
 rw [e0] at h
 cases hs:qCb c with
 | some s=>rw [hs] at h;exact qTw hs hco hfr h
 | none=>
 rw [hs] at h
 have hA:∀ (r:Option Nat) (Q:Exit→Act→World→Prop) (a:Act) (w:World) (k:Nat),ACode r k P (.loop c) Q a w=Code.roundsIn (FR r) 0 P c Q k a w:=λr Q a w k=>by unfold ACode;simp only [hs]
 obtain ⟨o1,K,h1,h2⟩:=qAR h
 have m1:=qGz hfr h1
 obtain ⟨e,T1,ms1,rfl,k1⟩:=hco _ _ _ _ _ _ _ _ h1
 cases e with
 | nrm=>
   have m2:=qGz hfr h2
   obtain ⟨e,T2,ms2,rfl,k2⟩:=hco _ _ _ _ _ _ _ _ h2
   refine ⟨e,T2,ms2,rfl,λσ ρ base w a r Q hσ hwr hf hT hr hd hQ=>(hA r Q a w (n+1)).mpr (ACode.wp (n:=n) (c:=c) ?_)⟩
   refine k1 σ ρ base w a r _ hσ hwr (hf.left m2) hT hr hd λa1 w1 ρ1 p1=>?_
   exact (hA r Q a1 w1 n).mp (k2 σ ρ1 base w1 a1 r Q hσ p1.post.wr (p1.post.ext.free hf m1) p1.tmps (hr.mono p1.post.ext.le) p1.defers λa2 w2 ρ2 p2=>hQ a2 w2 ρ2 (p1.trans p2 m1 m2))
 | exit id=>
   cases qAK h2
   exact ⟨.exit id,T1,ms1,rfl,λσ ρ base w a r Q hσ hwr hf hT hr hd hQ=>(hA r Q a w (n+1)).mpr (ACode.wp (n:=n) (c:=c) (k1 σ ρ base w a r _ hσ hwr hf hT hr hd λa1 w1 ρ1 p1=>hQ a1 w1 ρ1 p1))⟩
 | ret=>
   cases qAK h2
   exact ⟨.ret,T1,ms1,rfl,λσ ρ base w a r Q hσ hwr hf hT hr hd hQ=>(hA r Q a w (n+1)).mpr (ACode.wp (n:=n) (c:=c) (k1 σ ρ base w a r _ hσ hwr hf hT hr hd λa1 w1 ρ1 p1=>hQ a1 w1 ρ1 p1))⟩
theorem qSc (n:Nat):List.range n=List.range' 0 n:=List.range_eq_range'
theorem qMB:∀ {l l':List Oper} {c:Call},qC1 l=some (l',c)→∃ o,l=l' ++ [o]∧o.dst=none∧o.op=.defer c∧o.guard=none
 | [],_,_,h=>by cases h
 | [o],l',c,h=>by
   unfold qC1 at h
   simp only at h
   split at h
   ·cases h;exact ⟨_,rfl,rfl,rfl,rfl⟩
   ·cases h
 | o :: o2 :: os,l',c,h=>by
   unfold qC1 at h
   cases hr:qC1 (o2 :: os) with
   | none=>simp only [hr] at h;cases h
   | some p=>
     obtain ⟨l2,c2⟩:=p
     simp only [hr] at h
     cases h
     obtain ⟨o',h1,h2⟩:=qMB hr
     exact ⟨o',by rw [h1];rfl,h2⟩
theorem qUE {c:Call} {m:Mk} {ty:TypeId} (h:qL0 P T c=some m) (hT:TRel σ ρ nt T a.tmps):∃ (k:FuncId) (args:List AV) (cs fs:Array Value),m=.call k args∧isFn P k=true∧(resolve a.eval c ty).run P w=.ok { target:=.fn (.func k) cs,args:=fs } w∧RelL σ ρ args (fs ++ cs).toList:=by
 obtain ⟨callee,as',ts⟩:=c
 unfold qL0 at h
 cases callee with
 | value f=>
   simp only at h
   split at h
   ·rename_i l k first cap hl hf
    obtain ⟨hk,h⟩:=qAY h
    cases h
    have r1:=qM2 (a:=a) hl hT
    have r2:=qBE (a:=a) hf hT
    unfold Rel at r2
    obtain ⟨fs,cs,he,g1,g2⟩:=r2
    refine ⟨k,_,cs,fs ++ as'.map a.eval,rfl,hk,by simp only [resolve,he,Deferred.ofValue,Sem.run_pure],?_⟩
    have:=(g1.append r1).append g2
    simpa using this
   ·cases h
 | invoke r n=>cases h
 | builtin b=>cases h
theorem qUt (hm:P.follows .mixedOrders=true) (hname:qHT P) {rA:Option Nat} {id:Nat} {ops:Array Oper} {draw:Bool} {ms:List Mk} {o:Out} (hc:qLJ P ih) (hro:qI7 P ih) (hfr:∀ t,Fr (ih t)) (h:qBF P ih nt rA (.region id ops draw) T ms H=some (o,H')):Goal P (n+1) nt rA (.region id ops draw) T ms H o H':=by
 have e0:qBF P ih nt rA (.region id ops draw) T ms=(match cond draw none (qC1 ops.toList) with
  | some p=>match (generalizing:=false) rA with
    | none=>bd (opsA P ih nt ops.toList p.1 T) λT=>match qL0 P T p.2 with
      | some m=>ret (.exit .nrm T (m :: ms))
      | none=>fail
    | some _=>fail
  | none=>bd (cond draw (cond (qDM ops.toList) (opsD P ih nt ops ops.toList (masks ops.toList []) [] T) fail) (opsA P ih nt ops.toList ops.toList T)) λT=>ret (.exit .nrm T ms)):=rfl
 rw [e0] at h
 cases hdo:cond draw none (qC1 ops.toList) with
 | some p=>
   obtain ⟨l,c⟩:=p
   rw [hdo] at h
   cases draw with
   | true=>cases hdo
   | false=>
     simp only [cond_false] at hdo
     cases rA with
     | some _=>exact (qAD (H:=H) h).elim
     | none=>
       obtain ⟨T1,K,h1,h2⟩:=qAR h
       generalize hda:qL0 P T1 c=dm at h2
       cases dm with
       | none=>exact (qAD h2).elim
       | some m=>
         cases qAK h2
         obtain ⟨o1,ho1,hdst,hop,hgd⟩:=qMB hdo
         refine ⟨.nrm,T1,m :: ms,rfl,λσ ρ base w a r Q hσ hwr hf hT hr hd hQ=>?_⟩
         unfold RR at hr
         subst hr
         refine wpIn_region ?_
         have hsz:ops.size=l.length+1:=by have:=congrArg List.length ho1;simpa using this
         have hrange:List.range ops.size=List.range' 0 l.length ++ [l.length]:=by
          rw [hsz,List.range_succ,List.range_eq_range']
         rw [hrange]
         have hget:∀ j,j < l.length→l[j]?=ops[0+j]?:=λj hj=>by
          rw [zA,← Array.getElem?_toList,ho1,List.getElem?_append_left hj]
         have hlast:ops[l.length]?=some o1:=by rw [← Array.getElem?_toList,ho1];simp
         refine qUd (r:=none) (Q:=Q) hc hro hname hfr hσ [l.length] l 0 T H T1 ρ w a hget h1 hT hwr hf λa' w' ρ' p1 p2 p3=>?_
         simp only [wpOpsIn,hlast]
         rw [if_pos (by unfold Region.wanted;rw [hgd])]
         obtain ⟨k,args,cs,fs,rfl,hk,hrun,hrel⟩:=qUE (w:=w') (ty:=o1.type) hda p2
         refine ⟨qEH,?_⟩
         have e1:((o1.semAt (FR none).round a'.eval).run P w')=.ok (.defer { target:=.fn (.func k) cs,args:=fs }) w':=by
          show ((o1.semAt none a'.eval).run P w')=_
          rw [Oper.semAt_none]
          simp only [execOp,hop,Sem.run_bind,hrun,Result.andThen_ok,Sem.run_pure]
         rw [e1,Oper.uponIn_defer]
         refine hQ _ w' ρ' ⟨p1,by rw [hdst];exact p2,?_⟩
         rw [qBp]
         unfold DRel
         exact ⟨cs,fs,a'.defers,rfl,hrel,by rw [p3];exact hd.mono p1.ext.le⟩
 | none=>
 rw [hdo] at h
 obtain ⟨T1,K,h1,h2⟩:=qAR h
 cases qAK h2
 refine ⟨.nrm,T1,ms,rfl,λσ ρ base w a r Q hσ hwr hf hT hr hd hQ=>?_⟩
 have fin:∀ a' w' ρ',Post σ ρ ρ' base H H' w w'→TRel σ ρ' nt T1 a'.tmps→a'.defers=a.defers→Q .normal a' w':=λa' w' ρ' p1 p2 p3=>
  hQ a' w' ρ' ⟨p1,p2,by rw [p3];exact hd.mono p1.ext.le⟩
 cases draw with
 | false=>
   refine wpIn_region ?_
   rw [qSc]
   have:=qUd (r:=r) (Q:=Q) hc hro hname hfr hσ [] ops.toList 0 T H T1 ρ w a (λj _=>by simp) h1 hT hwr hf fin
   simpa using this
 | true=>
   obtain ⟨hok,h3⟩:=qAy h1
   exact zAAF hm hc hro hname hfr hσ hok h3 hT hwr hf fin
end
end Go.AM
namespace Go.AM
open Go Go.RowKit
section
variable {P:Program} {σ:Nat→Value} {ρ:Ren} {base nt:Nat} {H H':AH} {w:World} {T:Tmps} {a:Act} {ih:Task→M Out} {n:Nat}
theorem qR3 {m:M Out} {v:AV} (h:outVal m H=some (v,H')):m H=some (.val v,H'):=by
 obtain ⟨o,K,h1,h2⟩:=qAR h
 cases o with
 | exit e T ms=>exact (qAD h2).elim
 | val u=>cases qAK h2;exact h1
theorem qNn {fn:Func} {tm:Array Value} {vs':List Value} (h:(fn.results.toList.mapM λr=>(match r with
   | .tmp t=>pure (tm.getD t undef)
   | .cell a t=>do loadVar t (← asAddr (tm.getD a undef)):Sem Value)).run P w=.ok vs' w) :
  (results fn tm).run P w=.ok (if h:vs'.toArray.size=1 then vs'.toArray[0] else .tuple vs'.toArray) w:=by
 have e:results fn tm=(do
  let vs ← fn.results.mapM λr=>(match r with
   | .tmp t=>pure (tm.getD t undef)
   | .cell a t=>do loadVar t (← asAddr (tm.getD a undef)):Sem Value)
  pure (if h:vs.size=1 then vs[0] else .tuple vs)):=rfl
 rw [e,Array.mapM_eq_mapM_toList]
 simp only [Sem.run_bind,Sem.run_map,h,Result.andThen_ok,Sem.run_pure]
theorem qWt {t:Option Tmp} {ts:Array TypeId} {ty:TypeId} {pos:String} {af:Array Edge} {g:Option (Nat × Bool)} {w:World} {a:Act}:(execOp a.eval { dst:=t,op:=.call { callee:=.builtin .recover,args:=#[],argTypes:=ts },type:=ty,pos:=pos,after:=af,guard:=g }).run P w=.ok .recover w:=by
 simp only [execOp,resolve,invoke,Array.map_empty,Sem.run_bind,Sem.run_pure,Result.andThen_ok]
 rfl
theorem qQo {c₀:Frame} {cs:List Frame} (h:c₀.mode=.returning):recoverD (c₀ :: cs)=none:=by
 simp [recoverD,h]
theorem qVf (hco:qGt P n ih) (hfr:∀ t,Fr (ih t)) (hname:qHT P) {k:FuncId} {args:List AV} {u:Unit} (h:qL4 P ih k args H=some (u,H')) {args':Array Value} (hσ:One σ) (hwr:WR σ ρ base H w) (hf:Free ρ H.next H'.next) (hr:RelL σ ρ args args'.toList)
  {R:Ending→FrameMode→World→Prop} (hR:∀ v ρ' w',Post σ ρ ρ' base H H' w w'→R (.returned v) .returning w'):isFn P k=true∧CallsDIn Fence.wide 0 P k args' .returning w R:=by
 unfold qL4 at h
 cases hfn:P.funcs[k]? with
 | none=>simp only [hfn] at h;exact (qAD h).elim
 | some fn=>
   simp only [hfn] at h
   cases hb:fn.body with
   | none=>simp only [hb] at h;exact (qAD h).elim
   | some c=>
     simp only [hb] at h
     generalize hrs:fn.results.toList=rs at h
     cases rs with
     | cons _ _=>exact (qAD h).elim
     | nil=>
       obtain ⟨hle,h⟩:=qAy h
       have hle:args.length≤fn.ntmps:=by simpa [Nat.ble_eq] using hle
       refine ⟨by unfold isFn;rw [hfn];simp [hb],?_⟩
       generalize hdc:qRG fn (Tr.ofListAt .nil 0 args) c=dc at h
       cases dc with
       | none=>exact (qAD h).elim
       | some p=>
         obtain ⟨c',T'⟩:=p
         obtain ⟨o,K,h1,h2⟩:=qAR h
         obtain ⟨e,T1,ms1,rfl,k1⟩:=hco _ _ _ _ _ _ _ _ h1
         have hK:K=H'∧ms1=[]∧e≠.exit 0∧(∀ i,e≠.exit i):=by
          cases e with
          | nrm=>cases ms1 with
            | nil=>cases qAK h2;exact ⟨rfl,rfl,by simp,by simp⟩
            | cons _ _=>exact (qAD (H:=K) h2).elim
          | ret=>cases ms1 with
            | nil=>cases qAK h2;exact ⟨rfl,rfl,by simp,by simp⟩
            | cons _ _=>exact (qAD (H:=K) h2).elim
          | exit i=>exact (qAD (H:=K) h2).elim
         obtain ⟨rfl,rfl,_,hne⟩:=hK
         have hstart:=qI5 (nt:=fn.ntmps) hr hle
         have hres:fn.results=#[]:=by apply Array.toList_inj.1;rw [hrs]
         refine callsDIn_of_wpSIn hfn hb trivial λc₀ cs hu=>?_
         have fin:∀ (a0:Act),a0.defers=[]→TRel σ ρ fn.ntmps T' a0.tmps→c'.wpSIn Fence.wide 0 P (bodyPostS P fn c₀ cs R) a0 (c₀ :: cs) w:=by
          intro a0 hd0 hT0
          refine wpSIn_of_wpIn rfl (ACode.wp (n:=n) (k1 σ ρ base w a0 none _ hσ hwr hf hT0 rfl (by rw [hd0];rfl) λa1 w1 ρ1 p1=>?_))
          have hd1:a1.defers=[]:=p1.defers
          have main:a1.defers=[]∧∃ u',(c₀ :: cs)={ c₀ with mode:=u' } :: cs∧∃ v,(results fn a1.tmps).run P w1=.ok v w1∧R (.returned v) u' w1:=
           ⟨hd1,.returning,by cases c₀;simp only at hu;subst hu;rfl,.tuple #[],by simp [results,hres],hR _ ρ1 w1 p1.post⟩
          cases e with
          | nrm=>exact main
          | ret=>exact main
          | exit i=>exact absurd rfl (hne i)
         unfold qRG at hdc
         cases hrt:qUi c with
         | none=>
           rw [hrt] at hdc
           cases hdc
           exact fin _ rfl hstart
         | some q=>
           obtain ⟨t,rest⟩:=q
           rw [hrt] at hdc
           obtain ⟨hlt,hdc⟩:=qAY hdc
           cases hdc
           unfold qUi at hrt
           split at hrt
           ·rename_i id ops rest'
            split at hrt
            ·rename_i t' ts ty pos af hops
             cases hrt
             have e0:ops=#[⟨some t,.call ⟨.builtin .recover,#[],ts⟩,ty,pos,af,none⟩]:=by apply Array.toList_inj.1;rw [hops]
             subst e0
             refine wpSIn_seq (wpSIn_region ?_)
             simp only [List.size_toArray,List.length_cons,List.length_nil,zA,show List.range 1=[0] from rfl,wpOpsSIn,List.getElem?_toArray,g0Y]
             refine ⟨qEH,?_⟩
             rw [if_pos (by unfold Region.wanted;rfl),qWt]
             simp only [qQo hu]
             refine fin _ (qBp _ _ _) ?_
             exact qD9 (v:=.nilIface) (v':=.nilIface) (dst:=some t) (by simp only [setT];rw [hlt];rfl) hstart (by unfold Rel;rfl)
            ·cases hrt
           ·cases hrt
theorem qOt (hco:qGt P n ih) (hfr:∀ t,Fr (ih t)) (hname:qHT P) {fn:Func} {tmps:Array Value} {R:Ending→World→Prop} (hσ:One σ):∀ {ms:List Mk} {ds:List Deferred} {H H':AH} {ρ:Ren} {w:World},qBw P ih ms H=some ((),H')→WR σ ρ base H w→Free ρ H.next H'.next→DRel σ ρ ms ds→
  (∀ ρ' w',Post σ ρ ρ' base H H' w w'→LeavesInM Fence.wide 0 P fn tmps R [] .returning w')→LeavesInM Fence.wide 0 P fn tmps R ds .returning w
 | [],ds,H,H',ρ,w,h,hwr,hf,hd,hQ=>by
   cases qAK h
   unfold DRel at hd;subst hd
   exact hQ ρ w ⟨.refl _ _ _,hwr,.refl _ _⟩
 | .mark m :: ms,ds,H,H',ρ,w,h,hwr,hf,hd,hQ=>by
   unfold DRel at hd
   obtain ⟨L,ds',hL,rfl,hd⟩:=hd
   obtain ⟨blk,K,h1,h2⟩:=qAR h
   obtain ⟨hb,e1,e2,e3⟩:=qCL h1
   cases blk with
   | deferred b=>
     cases b with
     | false=>exact (qAD h2).elim
     | true=>
       obtain ⟨u,K2,h3,h4⟩:=qAR h2
       obtain ⟨hlo,⟨b0,hb0⟩,hk,hkl,hkn⟩:=qG1 h3
       obtain ⟨L',hL',hobj⟩:=hwr.blk m _ hb
       rw [hL] at hL';cases hL'
       have hobj:w.heap[L.blk]?=some (.deferred (some [])):=hobj
       have hput:=hwr.put (K:=K2) (b:=.deferred false) hb hL (by rw [← e2];exact hlo) (qOg (.deferred none) hobj) rfl (λj=>by rw [hk,e1]) (hkl.trans e2)
       have hn2:K2.next=H.next:=hkn.trans e3
       have:=qOt (fn:=fn) (tmps:=tmps) (R:=R) hco hfr hname hσ h4 hput.1 (by rw [hn2];exact hf) hd λρ' w' p=>hQ ρ' w' ⟨by rw [← hn2];exact p.ext,p.wr,hput.2.trans p.below⟩
       unfold LeavesInM
       exact ⟨by simp,.inl ⟨L.blk,_,rfl,run_takeDeferred hobj,this⟩⟩
   | _=>exact (qAD h2).elim
 | .call k args :: ms,ds,H,H',ρ,w,h,hwr,hf,hd,hQ=>by
   unfold DRel at hd
   obtain ⟨cs,fs,ds',rfl,hrel,hd⟩:=hd
   obtain ⟨u,K,h1,h2⟩:=qAR h
   have m1:H.next≤K.next:=by obtain ⟨es,d,_⟩:=qQr P hfr k args H u K h1;exact d.next
   have m2:K.next≤H'.next:=by obtain ⟨es,d,_⟩:=qER P hfr ms K () H' h2;exact d.next
   obtain ⟨q1,q2⟩:=qVf (R:=fun
      | .returned _,u',w'=>LeavesInM Fence.wide 0 P fn tmps R ds' (settle u') w'
      | .panicked chain,u',w'=>LeavesInM Fence.wide 0 P fn tmps R ds' (raised u' chain) w'
      | .outgrown,_,w'=>R .outgrown w') hco hfr hname h1 hσ hwr (hf.left m2) hrel λv ρ1 w1 p1=>by
    show LeavesInM Fence.wide 0 P fn tmps R ds' (settle .returning) w1
    exact qOt (fn:=fn) (tmps:=tmps) (R:=R) hco hfr hname hσ h2 p1.wr (p1.ext.free hf m1) (hd.mono p1.ext.le) λρ2 w2 p2=>hQ ρ2 w2 ⟨p1.ext.trans p2.ext m1 m2,p2.wr,p1.below.trans p2.below⟩
   unfold LeavesInM
   refine ⟨by simp,.inr ⟨λh=>by simp [Fence.wide] at h,.func k,cs,k,fs ++ cs,rfl,?_,λ_ _=>trivial,q2⟩⟩
   simp only [invoke]
   exact qPV hname q1 _ w
theorem qTk (hco:qGt P n ih) (hfr:∀ t,Fr (ih t)) (hname:qHT P) {f:FuncId} {args:List AV} {v:AV} (h:qCV P ih f args H=some (.val v,H')) {args':Array Value} (hσ:One σ) (hwr:WR σ ρ base H w) (hf:Free ρ H.next H'.next) (hr:RelL σ ρ args args'.toList) :
  CallsIn Fence.wide 0 P f args' w (qFZ σ ρ base H H' w v):=by
 unfold qCV at h
 cases hfn:P.funcs[f]? with
 | none=>simp only [hfn] at h;exact (qAD h).elim
 | some fn=>
   simp only [hfn] at h
   cases hb:fn.body with
   | none=>simp only [hb] at h;exact (qAD h).elim
   | some c=>
     simp only [hb] at h
     obtain ⟨hle,h⟩:=qAy h
     have hle:args.length≤fn.ntmps:=by simpa [Nat.ble_eq] using hle
     obtain ⟨o,K,h1,h2⟩:=qAR h
     obtain ⟨e,T1,ms1,rfl,k1⟩:=hco _ _ _ _ _ _ _ _ h1
     have m1:=qGz hfr h1
     have key:∀ a1 w1 ρ1,CodePost σ ρ base fn.ntmps H K w T1 ms1 ρ1 a1 w1→bd (qBw P ih ms1) (λ_=>bd (qC7 P T1 fn.results.toList) λvs=>ret (Out.val (oneV vs))) K=some (Out.val v,H')→
       LeavesInM Fence.wide 0 P fn a1.tmps (qFZ σ ρ base H H' w v) a1.defers .returning w1:=by
      intro a1 w1 ρ1 p1 h3
      obtain ⟨u,K2,h4,h5⟩:=qAR h3
      obtain ⟨vs,K3,h6,h7⟩:=qAR h5
      cases qAK h7
      have m2:K.next≤K2.next:=by obtain ⟨es,d,_⟩:=qER P hfr ms1 K () K2 h4;exact d.next
      have m3:K2.next≤H'.next:=by obtain ⟨es,d,_⟩:=qGD P T1 fn.results.toList K2 vs H' h6;exact d.next
      refine qOt (fn:=fn) (tmps:=a1.tmps) (R:=qFZ σ ρ base H H' w (oneV vs)) hco hfr hname hσ h4 p1.post.wr ((p1.post.ext.free hf m1).left m3) p1.defers λρ2 w2 p2=>?_
      obtain ⟨b1,b2,b3,vs',b4,b5⟩:=qJj (P:=P) (p1.tmps.mono p2.ext.le) p2.wr _ K2 _ vs rfl rfl h6
      refine ⟨_,qNn b4,_,ρ2,rfl,⟨?_,p2.wr.log b1 b2,p1.post.below.trans p2.below⟩,qSa b5⟩
      rw [b3]
      exact p1.post.ext.trans p2.ext m1 m2
     have hnext:∀ h3:bd (qBw P ih ms1) (λ_=>bd (qC7 P T1 fn.results.toList) λvs=>ret (Out.val (oneV vs))) K=some (.val v,H'),K.next≤H'.next:=λh3=>by
      obtain ⟨es,d,_⟩:=qCB (qER P hfr ms1) (λ_=>qCB (qGD P T1 fn.results.toList) λvs=>qBD (Out.val (oneV vs))) K _ H' h3
      exact d.next
     refine callsIn_of_wp_marks hfn hb trivial ?_ rfl
     have hstart:=qI5 (nt:=fn.ntmps) hr hle
     cases e with
     | exit id=>exact (qAD h2).elim
     | nrm=>exact ACode.wp (n:=n) (k1 σ ρ base w { tmps:=args' ++ Array.replicate (fn.ntmps - args'.size) undef,defers:=[] } none _ hσ hwr (hf.left (hnext h2)) hstart rfl rfl λa1 w1 ρ1 p1=>key a1 w1 ρ1 p1 h2)
     | ret=>exact ACode.wp (n:=n) (k1 σ ρ base w { tmps:=args' ++ Array.replicate (fn.ntmps - args'.size) undef,defers:=[] } none _ hσ hwr (hf.left (hnext h2)) hstart rfl rfl λa1 w1 ρ1 p1=>key a1 w1 ρ1 p1 h2)
end
end Go.AM
namespace Go.AM
open Go Go.RowKit
section
variable {P:Program} {σ:Nat→Value} {ρ:Ren} {base:Nat} {H H':AH} {w:World} {T:Tmps} {ih:Task→M Out} {n:Nat}
theorem Post.trans {ρ1 ρ2:Ren} {K:AH} {w1 w2:World} (h:Post σ ρ ρ1 base H K w w1) (k:Post σ ρ1 ρ2 base K H' w1 w2) (m1:H.next≤K.next) (m2:K.next≤H'.next):Post σ ρ ρ2 base H H' w w2:=
 ⟨h.ext.trans k.ext m1 m2,k.wr,h.below.trans k.below⟩
theorem Post.of_same {ρ':Ren} {K:AH} {w1:World} (h:Post σ ρ ρ' base H K w w1) (hb:H'.blks=K.blks) (hl:H'.lo=K.lo) (hn:H'.next=K.next):Post σ ρ ρ' base H H' w w1:=
 ⟨by rw [hn];exact h.ext,h.wr.log hb hl,h.below⟩
theorem qNl {l:Nat} {L:Loc} {st st2:LoopState} {pd pd2:Option Code} {nt2:Nat} {T2:Tmps} {ps:List Tmp} {as bo:Code} {d:Nat} {u:Unit} (hwr:WR σ ρ base H w) (hL:ρ l=some L)
  (hb:H.blks.get l=some (.loop st pd nt2 T2 ps as bo d)) (h:wr l (.loop st2 pd2 nt2 T2 ps as bo d) H=some (u,H')) :
  H'.next=H.next∧∃ r:Loop,w.heap[L.blk]?=some (.loop r)∧r.state=st∧r.pending=pd∧WR σ ρ base H' (w.putObj L.blk (.loop { r with state:=st2,pending:=pd2 }))∧Below base w (w.putObj L.blk (.loop { r with state:=st2,pending:=pd2 })):=by
 obtain ⟨hlo,⟨b0,hb0⟩,hk,hkl,hkn⟩:=qG1 h
 obtain ⟨L',hL',fn,tm,D,q1,q2,q3⟩:=hwr.blk l _ hb
 rw [hL] at hL';cases hL'
 refine ⟨hkn,_,q2,rfl,rfl,?_⟩
 exact hwr.put (b:=.loop st2 pd2 nt2 T2 ps as bo d) hb hL hlo (qOg _ q2) ⟨fn,tm,D,q1,rfl,q3⟩ hk hkl
theorem qRM {l:Nat} {L:Loc} {e:AExit} {v:AV} (hwr:WR σ ρ base H w) (hL:ρ l=some L) (h:qEY l e H=some (.val v,H')) (Q:Act) :
  H'.next=H.next∧∀ R:Ending→World→Prop,(∀ v' w',WR σ ρ base H' w'→Below base w w'→Rel σ ρ v v'→R (.returned v') w')→roundPost P L.blk R (qN9 e) Q w:=by
 obtain ⟨blk,K,h1,h2⟩:=qAR h
 obtain ⟨hb,e1,e2,e3⟩:=qCL h1
 cases blk with
 | loop st pd nt2 T2 ps as bo d=>
   have hwr':WR σ ρ base K w:=hwr.log e1 e2
   have hb':K.blks.get l=some (.loop st pd nt2 T2 ps as bo d):=by rw [e1];exact hb
   cases e with
   | nrm=>
     obtain ⟨u,K2,h3,h4⟩:=qAR h2
     cases qAK h4
     obtain ⟨n1,r,q1,q2,q3,q4,q5⟩:=qNl hwr' hL hb' h3
     exact ⟨n1.trans e3,λR k=>⟨_,_,run_endRound none q1,k _ _ q4 q5 (by unfold Rel;rfl)⟩⟩
   | ret=>
     obtain ⟨u,K2,h3,h4⟩:=qAR h2
     cases qAK h4
     obtain ⟨n1,r,q1,q2,q3,q4,q5⟩:=qNl hwr' hL hb' h3
     exact ⟨n1.trans e3,λR k=>⟨_,_,run_endRound (some .ret) q1,k _ _ q4 q5 (by unfold Rel;rfl)⟩⟩
   | exit id=>
     obtain ⟨u,K2,h3,h4⟩:=qAR h2
     cases qAK h4
     obtain ⟨n1,r,q1,q2,q3,q4,q5⟩:=qNl hwr' hL hb' h3
     exact ⟨n1.trans e3,λR k=>⟨_,_,run_endRound (some (.exit id)) q1,k _ _ q4 q5 (by unfold Rel;rfl)⟩⟩
 | _=>exact (qAD h2).elim
theorem qXw {l:Nat} {L:Loc} {u:Unit} (hwr:WR σ ρ base H w) (hL:ρ l=some L) (h:qL7 l H=some (u,H')) :
  H'.next=H.next∧∃ w',(Instr.beginRound L.blk).run P w=.ok () w'∧WR σ ρ base H' w'∧Below base w w':=by
 obtain ⟨blk,K,h1,h2⟩:=qAR h
 obtain ⟨hb,e1,e2,e3⟩:=qCL h1
 cases blk with
 | loop st pd nt2 T2 ps as bo d=>
   cases st with
   | ready=>
     obtain ⟨n1,r,q1,q2,q3,q4,q5⟩:=qNl (hwr.log (K:=K) e1 e2) hL (by rw [e1];exact hb) h2
     refine ⟨n1.trans e3,_,run_beginRound q1 q2,?_,?_⟩
     ·have:{ r with state:=LoopState.busy,pending:=pd }={ r with state:=LoopState.busy }:=by rw [← q3]
      rw [this] at q4;exact q4
     ·have:{ r with state:=LoopState.busy,pending:=pd }={ r with state:=LoopState.busy }:=by rw [← q3]
      rw [this] at q5;exact q5
   | _=>exact (qAD h2).elim
 | _=>exact (qAD h2).elim
theorem qQ8 (hco:qGt P n ih) (hfr:∀ t,Fr (ih t)) {l:Nat} {args:List AV} {v:AV} (h:qFF ih l args H=some (.val v,H')) {args':Array Value} {L:Loc} {nx:Next} (hσ:One σ) (hwr:WR σ ρ base H w) (hf:Free ρ H.next H'.next) (hL:ρ l=some L) (hr:RelL σ ρ args args'.toList)
  (hy:(Instr.yield L.blk args').run P w=.ok nx w):∃ fn tm as bo,nx=.round L.blk fn tm as bo∧RoundIn Fence.wide 0 P L.blk fn tm as bo w (qFZ σ ρ base H H' w v):=by
 obtain ⟨blk,K,h1,h2⟩:=qAR h
 obtain ⟨hb,e1,e2,e3⟩:=qCL h1
 cases blk with
 | loop st pd nt2 T0 ps as bo d=>
   obtain ⟨L',hL',fn,tm,D,q1,q2,q3⟩:=hwr.blk l _ hb
   rw [hL] at hL';cases hL'
   simp only at h2
   cases hs:qEm nt2 T0 ps args with
   | none=>simp only [hs] at h2;exact (qAD h2).elim
   | some T1=>
     simp only [hs] at h2
     have hsz:args'.size=ps.length:=by
      have h1:∀ (ps:List Tmp) (args:List AV) (T T':Tmps),qEm nt2 T ps args=some T'→args.length=ps.length:=by
       intro ps
       induction ps with
       | nil=>intro args T T' h;cases args with | nil=>rfl | cons x xs=>cases h
       | cons p ps ih2=>
         intro args T T' h
         cases args with
         | nil=>cases h
         | cons x xs=>simp only [qEm] at h;obtain ⟨_,h⟩:=qAY h;simp [ih2 xs _ _ h]
      have:=h1 ps args T0 T1 hs
      have:=hr.length
      simp at this;omega
     rw [run_yield q2 (by simpa using hsz)] at hy
     cases hy
     refine ⟨_,_,_,_,rfl,?_⟩
     obtain ⟨o,K1,h3,h4⟩:=qAR h2
     have m1:=qGz hfr h3
     obtain ⟨e,T2,ms2,rfl,k1⟩:=hco _ _ _ _ _ _ _ _ h3
     cases e with
     | ret=>exact (qAD h4).elim
     | exit id=>exact (qAD h4).elim
     | nrm=>
       cases ms2 with
       | cons m ms=>exact (qAD h4).elim
       | nil=>
         obtain ⟨u,K2,h5,h6⟩:=qAR h4
         obtain ⟨o,K3,h7,h8⟩:=qAR h6
         have m3:=qGz hfr h7
         obtain ⟨e,T3,ms3,rfl,k2⟩:=hco _ _ _ _ _ _ _ _ h7
         have h8:qEY l e K3=some (.val v,H'):=h8
         have n2:K2.next=K1.next:=by
          obtain ⟨blk,A,g1,g2⟩:=qAR h5
          obtain ⟨_,_,_,e3⟩:=qCL g1
          split at g2
          ·obtain ⟨_,_,_,_,e4⟩:=qG1 g2;rw [e4,e3]
          ·exact (qAD g2).elim
         have m4:K3.next≤H'.next:=by
          obtain ⟨es,d,_⟩:=qLx l e K3 _ H' h8
          exact d.next
         have htm:TRel σ ρ nt2 T1 ((ps.toArray.zip args').foldl (λtmps (x:Tmp × Value)=>tmps.setIfInBounds x.1 x.2) tm):=by
          have:=qK0 ps args args'.toList T0 T1 tm hs q3 hr
          rw [← Array.foldl_toList]
          simpa using this
         have hwrK:WR σ ρ base K w:=hwr.log e1 e2
         refine roundIn_of_wpIn trivial ?_
         have:=k1 σ ρ base w { tmps:=((ps.toArray.zip args').foldl (λtmps (x:Tmp × Value)=>tmps.setIfInBounds x.1 x.2) tm),defers:=[] } (some L.blk)
          (Exit.then (λa₁ w₁=>∃ w₂,(Instr.beginRound L.blk).run P w₁=.ok () w₂∧bo.wpIn (Fence.wide.inRound L.blk) 0 P (roundPost P L.blk (qFZ σ ρ base H H' w v)) a₁ w₂) (λ_ _ _=>False))
          hσ hwrK (by rw [e3];exact hf.left (by omega)) htm ⟨L,hL,rfl⟩ rfl ?_
         ·exact this.wp
         ·intro a1 w1 ρ1 p1
          have hL1:ρ1 l=some L:=p1.post.ext.le _ _ hL
          obtain ⟨n3,w2,g1,g2,g3⟩:=qXw (P:=P) p1.post.wr hL1 h5
          refine ⟨w2,g1,?_⟩
          have hf1:Free ρ1 K1.next H'.next:=p1.post.ext.free (by rw [e3];exact hf) m1
          have:=k2 σ ρ1 base w2 a1 (some L.blk) (roundPost P L.blk (qFZ σ ρ base H H' w v)) hσ g2 (by rw [n2];exact hf1.left m4) p1.tmps ⟨L,hL1,rfl⟩ p1.defers ?_
          ·exact this.wp
          ·intro a3 w3 ρ3 p3
           have hL3:ρ3 l=some L:=p3.post.ext.le _ _ hL1
           obtain ⟨n4,k3⟩:=qRM (P:=P) (v:=v) p3.post.wr hL3 h8 a3
           refine k3 _ λv' w' x1 x2 x3=>⟨v',ρ3,rfl,⟨?_,x1,?_⟩,x3⟩
           ·rw [n4]
            have y1:Ext ρ ρ1 H.next K1.next:=by rw [← e3];exact p1.post.ext
            have y2:Ext ρ1 ρ3 K1.next K3.next:=by rw [← n2];exact p3.post.ext
            exact y1.trans y2 (by omega) (by omega)
           ·exact ((p1.post.below.trans g3).trans p3.post.below).trans x2
 | _=>exact (qAD h2).elim
end
end Go.AM
namespace Go.AM
open Go Go.RowKit
section
variable {P:Program} {σ:Nat→Value} {ρ:Ren} {base nt:Nat} {H H':AH} {w:World} {T:Tmps} {a:Act} {ih:Task→M Out} {n:Nat}
theorem qMj {b:ABlk} {id:Nat} {o:Obj} {L:Loc} (hL:L.blk=w.heap.size) (h:nw b H=some (id,H')) (hwr:WR σ ρ base H w) (hf:Free ρ H.next H'.next) (hb:∀ ρ',Le ρ ρ'→BR σ ρ' True L b (some o)) :
  H'.next=H.next+1∧∃ ρ',Post σ ρ ρ' base H H' w (w.alloc o)∧ρ' id=some L:=by
 obtain ⟨rfl,hlo,hk,hkl,hkn⟩:=qLY h
 obtain ⟨ρ',x1,x2,x3,x4⟩:=hwr.new (L:=L) (b:=b) (hf H.next (Nat.le_refl _) (by omega)) (λj bj Lj hj hLj=>by rw [hL];exact Nat.ne_of_lt (qNk hwr hj hLj)) (by rw [hL];exact hwr.base)
  (by rw [hL];exact qMf w o) (λρ' hle _=>hb ρ' hle) hk hkl hkn
 exact ⟨hkn,ρ',⟨x1,x3,x4⟩,x2⟩
theorem qXd {rA r:Option Nat} {ps:Array Tmp} {as bo:Code} {d l:Nat} {ms:List Nat} {K:AH} (hr:RR ρ rA r) (h1:qNs rA H=some ((d,ms),K)) (h2:nw (.loop .ready none nt T ps.toList as bo d) K=some (l,H'))
  (hwr:WR σ ρ base H w) (hf:Free ρ H.next H'.next) (hT:TRel σ ρ nt T a.tmps) (fn:FuncId) :
  ∃ L mark w' ρ',(Instr.enterLoop fn a.tmps ps as bo r).run P w=.ok (L.blk,mark) w'∧Post σ ρ ρ' base H H' w w'∧ρ' l=some L∧DRel σ ρ' (ms.map .mark) mark:=by
 cases rA with
 | none=>
   unfold RR at hr;subst hr
   obtain ⟨r0,K1,g1,g2⟩:=qAR h1
   cases qAK g2
   obtain ⟨_,_,_,_,n2⟩:=qLY h2
   obtain ⟨n1,ρ1,p1,q1⟩:=qMj (σ:=σ) (w:=w) (o:=.deferred (some [])) (L:=⟨w.heap.size,0,0⟩) rfl g1 hwr (hf.left (by omega)) (λ_ _=>rfl)
   obtain ⟨_,ρ2,p2,q2⟩:=qMj (σ:=σ) (w:=w.alloc (.deferred (some []))) (o:=.loop { state:=.ready,pending:=none,fn,tmps:=a.tmps,params:=ps,assign:=as,body:=bo,defers:=w.heap.size }) (L:=⟨w.heap.size+1,0,0⟩) (by simp) h2 p1.wr (p1.ext.free hf (by omega))
    (λρ' hle=>⟨fn,a.tmps,⟨w.heap.size,0,0⟩,hle _ _ q1,rfl,hT.mono (p1.ext.le.trans hle)⟩)
   refine ⟨⟨w.heap.size+1,0,0⟩,_,_,ρ2,run_enterLoop_outer fn a.tmps ps as bo,p1.trans p2 (by omega) (by omega),q2,?_⟩
   exact ⟨⟨w.heap.size,0,0⟩,[],p2.ext.le _ _ q1,rfl,rfl⟩
 | some l0=>
   obtain ⟨L0,hL0,rfl⟩:=hr
   obtain ⟨blk,K1,g1,g2⟩:=qAR h1
   obtain ⟨hb,e1,e2,e3⟩:=qCL g1
   cases blk with
   | loop st pd nt2 T2 ps2 as2 bo2 d2=>
     cases qAK g2
     obtain ⟨L',hL',fn2,tm2,D,q1,q2,q3⟩:=hwr.blk l0 _ hb
     rw [hL0] at hL';cases hL'
     obtain ⟨_,ρ2,p2,q4⟩:=qMj (σ:=σ) (w:=w) (o:=.loop { state:=.ready,pending:=none,fn,tmps:=a.tmps,params:=ps,assign:=as,body:=bo,defers:=D.blk }) (L:=⟨w.heap.size,0,0⟩) rfl h2 (hwr.log e1 e2) (by rw [e3];exact hf)
      (λρ' hle=>⟨fn,a.tmps,D,hle _ _ q1,rfl,hT.mono hle⟩)
     refine ⟨⟨w.heap.size,0,0⟩,_,_,ρ2,run_enterLoop_inner q2 fn a.tmps ps as bo,⟨by rw [← e3];exact p2.ext,p2.wr,p2.below⟩,q4,rfl⟩
   | _=>exact (qAD g2).elim
theorem qQX (hname:qHT P) {rA:Option Nat} {x:Operand} {ps:Array Tmp} {as bo:Code} {ms:List Mk} {o:Out} (hco:qGt P n ih) (hc:qLJ P ih) (hfr:∀ t,Fr (ih t)) (h:qBF P ih nt rA (.rangeFunc x ps as bo) T ms H=some (o,H')) :
  Goal P (n+1) nt rA (.rangeFunc x ps as bo) T ms H o H':=by
 unfold qBF at h
 simp only at h
 generalize hx:ev T x=fv at h
 split at h
 ·rename_i k first cap
  obtain ⟨hk,h⟩:=qAy h
  obtain ⟨⟨d,ms0⟩,K1,h1,h⟩:=qAR h
  obtain ⟨l,K2,h2,h⟩:=qAR h
  obtain ⟨u,K3,h3,h⟩:=qAR h
  obtain ⟨blk,K4,h4,h⟩:=qAR h
  have h3:=qR3 h3
  obtain ⟨hb4,e1,e2,e3⟩:=qCL h4
  cases blk with
  | loop st pd nt2 T2 ps2 as2 bo2 d2=>
    have hst:st≠.busy:=by rintro rfl;exact qAD (H:=K4) h
    have h:bd (wr l (.loop .exhausted pd nt2 T2 ps2 as2 bo2 d2)) (λ_=>match pd with
      | none=>ret (.exit .nrm T (ms0.map .mark ++ ms))
      | some c=>ih (.code nt rA c T (ms0.map .mark ++ ms))) K4=some (o,H'):=by
     cases st <;> first | exact h | exact absurd rfl hst
    obtain ⟨u2,K5,h5,h⟩:=qAR h
    have m1:H.next≤K1.next:=by obtain ⟨es,d,_⟩:=qQC rA H _ K1 h1;exact d.next
    have m2:K1.next≤K2.next:=by obtain ⟨_,_,_,_,n2⟩:=qLY h2;omega
    have m3:=qGz hfr h3
    have m5:K5.next=K3.next:=by obtain ⟨_,_,_,_,e4⟩:=qG1 h5;rw [e4,e3]
    have main:∀ (e:AExit) (T':Tmps) (ms':List Mk) (m6:K5.next≤H'.next),(∀ (σ:Nat→Value) (ρ:Ren) (base:Nat) (w:World) (a:Act) (r:Option Nat) (Q:Exit→Act→World→Prop),One σ→WR σ ρ base K5 w→Free ρ K5.next H'.next→TRel σ ρ nt T a.tmps→RR ρ rA r→DRel σ ρ (ms0.map .mark ++ ms) a.defers→
      (∀ a' w' ρ',CodePost σ ρ base nt K5 H' w T' ms' ρ' a' w'→Q (qN9 e) a' w')→(match (generalizing:=false) pd with | none=>Q .normal a w | some c=>c.wpIn (FR r) 0 P Q a w))→
      ∀ (σ:Nat→Value) (ρ:Ren) (base:Nat) (w:World) (a:Act) (r:Option Nat) (Q:Exit→Act→World→Prop),One σ→WR σ ρ base H w→Free ρ H.next H'.next→TRel σ ρ nt T a.tmps→RR ρ rA r→DRel σ ρ ms a.defers→
       (∀ a' w' ρ',CodePost σ ρ base nt H H' w T' ms' ρ' a' w'→Q (qN9 e) a' w')→ACode r (n+1) P (.rangeFunc x ps as bo) Q a w:=by
     intro e T' ms' m6 kk σ ρ base w a r Q hσ hwr hf hT hr hd hQ
     refine wpIn_rangeFunc λfn _=>?_
     obtain ⟨L,mark,w1,ρ1,a1,p1,q1,q2⟩:=qXd (P:=P) (fn:=fn) hr h1 h2 hwr (hf.left (by omega)) hT
     have hv:=qBE (a:=a) hx hT
     unfold Rel at hv
     obtain ⟨fs,cs,he,g1,g2⟩:=hv
     have hres:(resolve a.eval (rangeCall x L.blk) 0).run P w1=.ok { target:=.fn (.func k) cs,args:=fs ++ #[.func (.yield L.blk) #[] #[]] } w1:=by
      have e1:(#[Operand.const (.func (.yield L.blk) #[] #[])].map a.eval:Array Value)=#[.func (.yield L.blk) #[] #[]]:=by simp [Act.eval]
      simp only [resolve,e1,he,Deferred.ofValue,Sem.run_pure]
     have hyl:Rel σ ρ1 (.yield l) (.func (.yield L.blk) #[] #[]):=by unfold Rel;exact ⟨L,q1,rfl⟩
     have hargs:RelL σ ρ1 (first ++ [.yield l] ++ cap) (fs ++ #[Value.func (.yield L.blk) #[] #[]] ++ cs).toList:=by
      have:=((RelL.mono p1.ext.le _ _ g1).append (.cons hyl .nil)).append (RelL.mono p1.ext.le _ _ g2)
      simpa using this
     have hcall:=hc k _ K2 u K3 h3 σ ρ1 base w1 _ hσ p1.wr ((p1.ext.free hf (by omega)).left (by omega)) hargs
     refine ⟨L.blk,mark,w1,_,w1,k,fs ++ #[Value.func (.yield L.blk) #[] #[]] ++ cs,w1,a1,hres,λ_ _=>trivial,?_,λh=>by simp [FR,Fence.wide] at h,?_⟩
     ·simp only [invoke]
      exact qPV hname hk _ w1
     ·have h5':CallsIn (FR r) 0 P k (fs ++ #[Value.func (.yield L.blk) #[] #[]] ++ cs) w1 (qFZ σ ρ1 base K2 K3 w1 u):=hcall
      refine h5'.mono ?_
      rintro en w3 ⟨v',ρ3,rfl,p3,_⟩
      have hL3:ρ3 l=some L:=p3.ext.le _ _ q1
      obtain ⟨n5,rc,b1,b2,b3,b4,b5⟩:=qNl (p3.wr.log (K:=K4) e1 e2) hL3 (by rw [e1];exact hb4) h5
      refine ⟨pd,w3.putObj L.blk (.loop { rc with state:=.exhausted }),by rw [← b3];exact run_endLoop b1 (by rw [b2];exact hst),?_⟩
      have erc:{ rc with state:=LoopState.exhausted,pending:=pd }={ rc with state:=LoopState.exhausted }:=by rw [← b3]
      rw [erc] at b4 b5
      have pall:Post σ ρ ρ3 base H K5 w (w3.putObj L.blk (.loop { rc with state:=.exhausted })):=
       ⟨by rw [m5];exact (p1.trans p3 (by omega) (by omega)).ext,b4,((p1.below.trans p3.below).trans b5)⟩
      refine kk σ ρ3 base _ { a with defers:=mark ++ a.defers } r Q hσ b4 (pall.ext.free hf (by omega)) (hT.mono pall.ext.le) (hr.mono pall.ext.le) ((q2.mono p3.ext.le).append (hd.mono pall.ext.le)) ?_
      intro a' w' ρ' p'
      exact hQ a' w' ρ' ⟨pall.trans p'.post (by omega) (by omega),p'.tmps,p'.defers⟩
    cases pd with
    | none=>
      cases qAK h
      refine ⟨.nrm,T,ms0.map .mark ++ ms,rfl,main .nrm T (ms0.map .mark ++ ms) (Nat.le_refl _) ?_⟩
      intro σ ρ base w a r Q hσ hwr hf hT hr hd hQ
      exact hQ a w ρ (.stay hwr hT hd)
    | some c=>
      have m6:=qGz hfr h
      obtain ⟨e,T',ms',rfl,kk⟩:=hco _ _ _ _ _ _ _ _ h
      exact ⟨e,T',ms',rfl,main e T' ms' m6 λσ ρ base w a r Q hσ hwr hf hT hr hd hQ=>(kk σ ρ base w a r Q hσ hwr hf hT hr hd hQ).wp⟩
  | _=>exact (qAD h).elim
 ·exact (qAD h).elim
theorem qT8 (hm:P.follows .mixedOrders=true) (hname:qHT P) (hco:qGt P n ih) (hc:qLJ P ih) (hro:qI7 P ih) (hfr:∀ t,Fr (ih t)) {rA:Option Nat} {c:Code} {ms:List Mk} {o:Out} (h:qBF P ih nt rA c T ms H=some (o,H')) :
  Goal P (n+1) nt rA c T ms H o H':=by
 cases c with
 | skip=>
   cases qAK h
   exact ⟨.nrm,T,ms,rfl,λσ ρ base w a r Q hσ hwr hf hT hr hd hQ=>wpIn_skip (hQ a w ρ (.stay hwr hT hd))⟩
 | exit id=>
   cases qAK h
   exact ⟨.exit id,T,ms,rfl,λσ ρ base w a r Q hσ hwr hf hT hr hd hQ=>wpIn_exit (hQ a w ρ (.stay hwr hT hd))⟩
 | ret=>
   cases qAK h
   exact ⟨.ret,T,ms,rfl,λσ ρ base w a r Q hσ hwr hf hT hr hd hQ=>wpIn_ret (hQ a w ρ (.stay hwr hT hd))⟩
 | region id ops draw=>exact qUt hm hname hc hro hfr h
 | seq x y=>exact zAAv hco hfr h
 | cond x y z=>exact qZt hco h
 | block id c=>exact qXs hco h
 | loop c=>exact qZY hco hfr h
 | rangeFunc x ps as bo=>exact qQX hname hco hc hfr h
 | _=>exact (qAD (H:=H) h).elim
def ExtOK (P:Program) (X:Td):Prop:=FrX X∧∀ (f:FuncId) (g:List AV→M AV),X f=some g→∀ (args:List AV) (H:AH) (v:AV) (H':AH),g args H=some (v,H')→
 ∀ (σ:Nat→Value) (ρ:Ren) (base:Nat) (w:World) (args':Array Value),One σ→WR σ ρ base H w→Free ρ H.next H'.next→RelL σ ρ args args'.toList→CallsIn Fence.wide 0 P f args' w (qFZ σ ρ base H H' w v)
theorem extOK_none:ExtOK P noExt:=⟨qWm,λ_ _ h=>by cases h⟩
theorem qSO (hm:P.follows .mixedOrders=true) (hname:qHT P) {X:Td} (hX:ExtOK P X):∀ n,qGt P n (run P X n)∧qLJ P (run P X n)∧qI7 P (run P X n):=by
 intro n
 induction n with
 | zero=>
   refine ⟨λ_ _ _ _ _ H _ _ h=>(qAD (H:=H) h).elim,λ_ _ H _ _ h=>(qAD (H:=H) h).elim,λ_ _ H _ _ h=>(qAD (H:=H) h).elim⟩
 | succ n ih=>
   obtain ⟨h1,h2,h3⟩:=ih
   refine ⟨λnt rA c T ms H o H' h=>qT8 hm hname h1 h2 h3 (qFo P hX.1 n) h,λf args H v H' h σ ρ base w args' hσ hwr hf hr=>?_,
    λl args H v H' h σ ρ base w args' L nx hσ hwr hf hL hr hy=>qQ8 h1 (qFo P hX.1 n) h hσ hwr hf hL hr hy⟩
   have h:qJW P X (run P X n) (.call f args) H=some (Out.val v,H'):=h
   cases hg:X f with
   | some g=>
     have e:qJW P X (run P X n) (.call f args)=bd (g args) λv=>ret (Out.val v):=by
      show (match X f with
       | some g=>bd (g args) λv=>ret (Out.val v)
       | none=>qCV P (run P X n) f args)=_
      rw [hg]
     rw [e] at h
     obtain ⟨v1,H1,h,h'⟩:=qAR h
     cases qAK h'
     exact hX.2 f g hg args H v H' h σ ρ base w args' hσ hwr hf hr
   | none=>
     have e:qJW P X (run P X n) (.call f args)=qCV P (run P X n) f args:=by
      show (match X f with
       | some g=>bd (g args) λv=>ret (Out.val v)
       | none=>qCV P (run P X n) f args)=_
      rw [hg]
     rw [e] at h
     exact qTk h1 (qFo P hX.1 n) hname h hσ hwr hf hr
def empty:AH:={ blks:=.nil,next:=0,lo:=0,log:=[] }
theorem qQ2 (hm:P.follows .mixedOrders=true) (hname:qHT P) {X:Td} (hX:ExtOK P X) {n:Nat} {f:FuncId} {args:List AV} {v:AV} {H H':AH} (h:run P X n (.call f args) H=some (.val v,H')) (σ:Nat→Value) (hσ:One σ) (ρ:Ren) (w:World)
  (hwr:WR σ ρ w.heap.size H w) (hf:Free ρ H.next H'.next) (args':Array Value) (hr:RelL σ ρ args args'.toList) :
  Calls P f args' w λe w'=>∃ v' ρ',e=.returned v'∧Rel σ ρ' v v'∧WR σ ρ' w.heap.size H' w'∧Below w.heap.size w w':=by
 have:=(qSO hm hname hX n).2.1 f args H v H' h σ ρ w.heap.size w args' hσ hwr hf hr
 refine callsIn_wide.1 (this.mono ?_)
 rintro e w' ⟨v',ρ',rfl,p,hv⟩
 exact ⟨v',ρ',rfl,hv,p.wr,p.below⟩
theorem qXV {w:World}:WR σ (λ_=>none) w.heap.size empty w:=by
 refine ⟨λid b h=>?_,λid b L h=>?_,λi j bi bj Li Lj h=>?_,Nat.le_refl _⟩ <;> (rw [show empty.blks=.nil from rfl,Tr.get_nil] at h;cases h)
end
end Go.AM
namespace Go.AM
open Go Go.RowKit Go.ChangeShapes Go.WideShapes Go.ChangeAt
def isTrue:Option (Out × AH)→Bool
 | some (.val (.bool true),_)=>true
 | _=>false
theorem qSI {r:Option (Out × AH)} (h:isTrue r=true):∃ H',r=some (.val (.bool true),H'):=by
 unfold isTrue at h
 split at h
 ·exact ⟨_,rfl⟩
 ·cases h
def noNumB (P:Program):Bool:=P.funcs.toList.all λfn=>!(fn.name == "runtime.NumGoroutine")
theorem qS3 {P:Program} (h:noNumB P=true):qHT P:=by
 intro k fn hk e
 have hm:fn∈P.funcs.toList:=Array.mem_def.1 (Array.mem_of_getElem? hk)
 have:=List.all_eq_true.1 h fn hm
 simp [e] at this
theorem post_of_below {H:Type} {enc:TypeId × Value→H} {P:Program} {f:Func} {s:ChangeSpec} {apart fresh handsOn again:Bool} {W W':World} {args:Array Value} {v:Value} {ds gs:List (DataW H)} {before pa pv:List MemPlace}
  (hW:DataW.Whole enc P f.params.toList s.vars apart W args.toList ds gs before) (hb:Below W.heap.size W W')
  (hres:∀ (b:Nat) (sp:Nat→Bool) (hd:Bool),DataW.TrodAll enc P W' b sp hd f.resultTypes.toList (v.resultList f.resultTypes.size) (s.fn H (ds ++ gs)).results [])
  (hargs:∀ sp:Nat→Bool,(∀ p∈before,sp p.block=true)→DataW.TrodAll enc P W' 0 sp true f.params.toList args.toList (s.fn H (ds ++ gs)).args pa)
  (hvars:∀ sp:Nat→Bool,(∀ p∈before,sp p.block=true)→DataW.TrodVars enc P W' sp s.vars (s.fn H (ds ++ gs)).vars pv)
  (hps:before=pa ++ pv)
  (hok:∀ (j:Nat) (t:TypeId) (r:Value),f.resultTypes[j]?=some t→(v.resultList f.resultTypes.size)[j]?=some r→Value.okWide P W' .any 0 t r) :
  s.post enc P f apart fresh handsOn again W args v W':=by
 have hold:∀ p∈before,(λb=>decide (b < W.heap.size)) p.block=true:=λp hp=>by simpa using hW.lt p hp
 have hlt:=hW.lt
 refine ⟨ds,gs,before,[],pa,pv,hW,hres _ _ _,hargs _ hold,hvars _ hold,World.keptBut_mono (λp hp=>⟨hp,?_⟩) (hb.frame (·∈before)),λ_=>?_⟩
 ·rw [hps,List.mem_append] at hp
  exact Or.inr hp
 ·obtain ⟨_,_,_,_,_,hz,hn⟩:=hW
  refine ⟨hok,_,_,([] ++ pa) ++ pv,⟨[] ++ pa,pv,trodAll_append (hargs _ (λ_ _=>rfl)) (hres _ _ _),hvars _ (λ_ _=>rfl),rfl,?_,?_⟩,?_⟩
  ·intro b off hp
   have hm:MemPlace.cell b off∈before:=by rw [hps];simpa using hp
   rw [hb.frozen (p:=⟨b,off,none⟩) (hlt _ hm)]
   exact hz b off hm
  ·intro ha
   have:=hn ha
   rw [hps] at this
   simpa using this
  ·intro p hp _
   rw [hps]
   simpa using hp
end Go.AM
namespace Go.AM
open Go Go.RowKit
end Go.AM
