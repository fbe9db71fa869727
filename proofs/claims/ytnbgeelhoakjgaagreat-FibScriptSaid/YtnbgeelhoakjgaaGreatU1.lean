/- Part U1 of a calculus over a small memory that is proved to answer as the program does, and of its use for the functions that the law reaches: see the last part. -/
import Derived.Test.YtnbgeelhoakjgaaGreatA2
import Derived.Test.YtnbgeelhoakjgaaGreatA3
import Derived.DataReads
import Derived.ChangeArms
import Derived.OpenShut
set_option linter.unusedVariables false
namespace Go.AM
open Go Go.RowKit Go.ChangeShapes Go.WideShapes Go.ChangeAt
def tiles (P:Program) (total:Nat):Nat→List Field→Bool
 | off,[]=>Nat.beq off total
 | off,f :: fs=>Nat.beq f.offset off&&tiles P total (off+P.cellsOf f.type) fs
def plainT (P:Program):Nat→TypeId→Bool
 | 0,_=>false
 | d+1,t=>match P.underlying t with
   | some .bool | some (.int _) | some .string=>true
   | some (.slice e)=>Nat.blt 0 (P.cellsOf e)&&plainT P d e
   | some (.struct fs)=>tiles P (P.cellsOf t) 0 fs.toList&&fs.toList.all λf=>plainT P d f.type
   | some (.array n e)=>Nat.beq (P.cellsOf t) (n * P.cellsOf e)&&(Nat.blt 0 (P.cellsOf e)&&plainT P d e)
   | _=>false
def Inp (P:Program) (s:Hq):Nat→TypeId→List AV→Prop
 | 0,_,_=>False
 | d+1,t,xs=>match P.underlying t with
   | some .bool=>∃ b,xs=[.bool b]
   | some (.int k)=>∃ n,xs=[.int k n]∧(Lit.int k n).wf=true
   | some .string=>∃ v,xs=[.str v]∧v.size≤maxLen
   | some (.slice e)=>xs=[.nilslc]∨∃ b len cap,xs=[.slc b 0 len (some cap) (P.cellsOf e)]∧len≤cap∧cap≤maxLen∧
     (0 < cap→∃ el l,s b=some (true,.cells el l)∧l.length=cap * P.cellsOf e∧∀ i,i < cap→Inp P s d e ((l.drop (i * P.cellsOf e)).take (P.cellsOf e)))
   | some (.struct fs)=>xs.length=P.cellsOf t∧∀ f∈fs.toList,Inp P s d f.type ((xs.drop f.offset).take (P.cellsOf f.type))
   | some (.array n e)=>xs.length=P.cellsOf t∧∀ i,i < n→Inp P s d e ((xs.drop (i * P.cellsOf e)).take (P.cellsOf e))
   | _=>False
abbrev IB:=List (Loc × TypeId × List AV)
def rhoB (B:IB):Ren:=λid=>match id with
 | 0=>some ⟨0,0,0⟩
 | i+1=>match B[i]? with
   | some x=>some x.1
   | none=>none
def qJN (B:IB):Hq:=λid=>match id with
 | 0=>none
 | i+1=>match B[i]? with
   | some x=>some (true,.cells x.2.1 x.2.2)
   | none=>none
theorem qNG (B C:IB):Le (rhoB B) (rhoB (B ++ C)):=by
 intro id L h
 cases id with
 | zero=>exact h
 | succ i=>
   unfold rhoB at h ⊢
   simp only at h ⊢
   cases e:B[i]? with
   | none=>rw [e] at h;cases h
   | some x=>rw [e] at h;rw [List.getElem?_append_left (gS e).1,e];exact h
theorem qLE (B C:IB):Sub (qJN B) (qJN (B ++ C)):=by
 intro id L h
 cases id with
 | zero=>exact h
 | succ i=>
   unfold qJN at h ⊢
   simp only at h ⊢
   cases e:B[i]? with
   | none=>rw [e] at h;cases h
   | some x=>rw [e] at h;rw [List.getElem?_append_left (gS e).1,e];exact h
theorem Inp.sub {P:Program} {s s':Hq} (hs:Sub s s'):∀ (d:Nat) (t:TypeId) (xs:List AV),Inp P s d t xs→Inp P s' d t xs
 | 0,_,_,h=>h
 | d+1,t,xs,h=>by
   unfold Inp at h ⊢
   split at h
   ·exact h
   ·exact h
   ·exact h
   ·rcases h with h | ⟨b,len,cap,h1,h2,h3,h4⟩
    ·exact .inl h
    ·refine .inr ⟨b,len,cap,h1,h2,h3,λhc=>?_⟩
     obtain ⟨el,l,q1,q2,q3⟩:=h4 hc
     exact ⟨el,l,hs _ _ q1,q2,λi hi=>Inp.sub hs d _ _ (q3 i hi)⟩
   ·exact ⟨h.1,λf hf=>Inp.sub hs d _ _ (h.2 f hf)⟩
   ·exact ⟨h.1,λi hi=>Inp.sub hs d _ _ (h.2 i hi)⟩
   ·exact h
def VB (σ:Nat→Value) (B:IB) (W:World):Prop:=∀ (i:Nat) (x:Loc × TypeId × List AV),B[i]?=some x→∃ (cc:Array Value) (fr:Nat × Nat),W.heap[x.1.blk]?=some (.cells cc x.2.1 fr)∧cc.size=x.1.sz∧x.1.sh+x.2.2.length≤cc.size∧qAb x.2.2=true∧
 ∀ (j:Nat) (v:AV),x.2.2[j]?=some v→∃ v',cc[x.1.sh+j]?=some v'∧Rel σ (rhoB B) v v'∧v'.oneCell'=true
theorem VB.snoc {σ:Nat→Value} {B:IB} {W:World} (h:VB σ B W) (x:Loc × TypeId × List AV)
  (hx:∃ (cc:Array Value) (fr:Nat × Nat),W.heap[x.1.blk]?=some (.cells cc x.2.1 fr)∧cc.size=x.1.sz∧x.1.sh+x.2.2.length≤cc.size∧qAb x.2.2=true∧∀ (j:Nat) (v:AV),x.2.2[j]?=some v→∃ v',cc[x.1.sh+j]?=some v'∧Rel σ (rhoB B) v v'∧v'.oneCell'=true):VB σ (B ++ [x]) W:=by
 intro i y hy
 rw [List.getElem?_append] at hy
 split at hy
 ·obtain ⟨cc,fr,h1,h2,h3,h4,h5⟩:=h i y hy
  exact ⟨cc,fr,h1,h2,h3,h4,λj v hv=>let ⟨v',q1,q2,q3⟩:=h5 j v hv;⟨v',q1,Rel.mono (qNG B [x]) _ _ q2,q3⟩⟩
 ·have:y=x:=by
   cases e:i - B.length with
   | zero=>rw [e] at hy;exact (Option.some.inj hy).symm
   | succ k=>rw [e] at hy;cases hy
  subst this
  obtain ⟨cc,fr,h1,h2,h3,h4,h5⟩:=hx
  exact ⟨cc,fr,h1,h2,h3,h4,λj v hv=>let ⟨v',q1,q2,q3⟩:=h5 j v hv;⟨v',q1,Rel.mono (qNG B [y]) _ _ q2,q3⟩⟩
section
variable {H:Type} {enc:TypeId × Value→H} {P:Program} {W:World} {σ:Nat→Value}
theorem qNO (hσ:One σ) (Q:Nat→List AV→Hq→Prop) (hQ:∀ i xs s s',Sub s s'→Q i xs s→Q i xs s') (css:Nat→List Value):∀ (n:Nat) (B:IB),VB σ B W→
  (∀ i,i < n→∀ B,VB σ B W→∃ xs C,VB σ (B ++ C) W∧RelL σ (rhoB (B ++ C)) xs (css i)∧qAb xs=true∧Q i xs (qJN (B ++ C)))→
  ∃ (xss:Nat→List AV) (C:IB),VB σ (B ++ C) W∧∀ i,i < n→RelL σ (rhoB (B ++ C)) (xss i) (css i)∧qAb (xss i)=true∧Q i (xss i) (qJN (B ++ C))
 | 0,B,hB,_=>⟨λ_=>[],[],by simpa using hB,λi hi=>by omega⟩
 | n+1,B,hB,h=>by
   obtain ⟨xss,C,h1,h2⟩:=qNO hσ Q hQ css n B hB λi hi=>h i (by omega)
   obtain ⟨xs,D,g1,g2,g3,g4⟩:=h n (by omega) (B ++ C) h1
   refine ⟨λi=>if i=n then xs else xss i,C ++ D,by rw [← List.append_assoc];exact g1,λi hi=>?_⟩
   rw [← List.append_assoc]
   by_cases e:i=n
   ·subst e
    simp only [if_true]
    exact ⟨g2,g3,g4⟩
   ·simp only [if_neg e]
    obtain ⟨q1,q2,q3⟩:=h2 i (by omega)
    exact ⟨RelL.mono (qNG (B ++ C) D) _ _ q1,q2,hQ _ _ _ _ (qLE (B ++ C) D) q3⟩
def pieces (xss:Nat→List AV) (es n:Nat):List AV:=(List.range (n * es)).map λj=>(xss (j / es)).getD (j % es) .undef
theorem qCZ (xss:Nat→List AV) (es n:Nat):(pieces xss es n).length=n * es:=by simp [pieces]
theorem qHW (xss:Nat→List AV) (es n j:Nat) (h:j < n * es):(pieces xss es n)[j]?=some ((xss (j / es)).getD (j % es) .undef):=by simp [pieces,h]
theorem qNi (xss:Nat→List AV) (es n i:Nat) (h0:0 < es) (hi:i < n) (hl:(xss i).length=es):((pieces xss es n).drop (i * es)).take es=xss i:=by
 have hm:(i+1) * es≤n * es:=Nat.mul_le_mul_right _ hi
 rw [Nat.add_mul,Nat.one_mul] at hm
 apply List.ext_getElem?
 intro j
 rw [List.getElem?_take]
 split
 ·rename_i hj
  rw [List.getElem?_drop,qHW _ _ _ _ (by omega)]
  have e1:(i * es+j) / es=i:=by rw [Nat.mul_comm,Nat.mul_add_div h0,Nat.div_eq_of_lt hj];omega
  have e2:(i * es+j) % es=j:=by rw [Nat.mul_comm,Nat.mul_add_mod,Nat.mod_eq_of_lt hj]
  rw [e1,e2,List.getD_eq_getElem?_getD,gE (by omega)];rfl
 ·rw [List.getElem?_eq_none (by omega)]
theorem qPz {l:List AV} (h:∀ (j:Nat) (v:AV),l[j]?=some v→v.one=true):qAb l=true:=qJV λx hx=>by
 obtain ⟨i,hi⟩:=List.getElem?_of_mem hx
 exact h i x hi
theorem qTC {P:Program} {total:Nat}:∀ {fs:List Field} {off:Nat},tiles P total off fs=true→off≤total
 | [],off,h=>by have:=bE h;omega
 | f :: fs,off,h=>by
   unfold tiles at h
   have:=qTC (Bool.and_eq_true_iff.1 h).2
   omega
theorem qNL (hσ:One σ) (d:Nat) (cs:List Value) (total:Nat) (hl:cs.length=total):∀ (fs:List Field) (off:Nat) (B:IB),VB σ B W→tiles P total off fs=true→
  (∀ f∈fs,∀ B,VB σ B W→∃ xs C,VB σ (B ++ C) W∧RelL σ (rhoB (B ++ C)) xs ((cs.drop f.offset).take (P.cellsOf f.type))∧qAb xs=true∧Inp P (qJN (B ++ C)) d f.type xs)→
  ∃ xs C,VB σ (B ++ C) W∧RelL σ (rhoB (B ++ C)) xs (cs.drop off)∧qAb xs=true∧∀ f∈fs,off≤f.offset∧Inp P (qJN (B ++ C)) d f.type ((xs.drop (f.offset - off)).take (P.cellsOf f.type))
 | [],off,B,hB,ht,_=>by
   refine ⟨[],[],by simpa using hB,?_,rfl,by simp⟩
   have:=bE ht
   rw [List.drop_eq_nil_of_le (by omega)]
   exact .nil
 | f :: fs,off,B,hB,ht,h=>by
   unfold tiles at ht
   obtain ⟨h1,h2⟩:=Bool.and_eq_true_iff.1 ht
   have ho:=bE h1
   have hle:=qTC h2
   obtain ⟨xs,C,g1,g2,g3,g4⟩:=h f (by simp) B hB
   obtain ⟨ys,D,k1,k2,k3,k4⟩:=qNL hσ d cs total hl fs (off+P.cellsOf f.type) (B ++ C) g1 h2 λf' hf'=>h f' (by simp [hf'])
   have hx:xs.length=P.cellsOf f.type:=by
    have:=g2.length
    rw [← this,List.length_take,List.length_drop,ho];omega
   refine ⟨xs ++ ys,C ++ D,by rw [← List.append_assoc];exact k1,?_,qC0 g3 k3,λf' hf'=>?_⟩
   ·rw [← List.append_assoc]
    have e:cs.drop off=(cs.drop f.offset).take (P.cellsOf f.type) ++ cs.drop (off+P.cellsOf f.type):=by
     rw [ho,← List.drop_drop,List.take_append_drop]
    rw [e]
    exact RelL.append (RelL.mono (qNG (B ++ C) D) _ _ g2) k2
   ·rw [← List.append_assoc]
    rcases mC hf' with rfl | hf'
    ·refine ⟨by omega,?_⟩
     rw [ho,Nat.sub_self,List.drop_zero,← hx,List.take_left]
     exact Inp.sub (qLE (B ++ C) D) _ _ _ g4
    ·obtain ⟨q1,q2⟩:=k4 f' hf'
     refine ⟨by omega,?_⟩
     have e:(xs ++ ys).drop (f'.offset - off)=ys.drop (f'.offset - (off+P.cellsOf f.type)):=by
      rw [List.drop_append,List.drop_eq_nil_of_le (by omega),List.nil_append,hx]
      congr 1;omega
     rw [e]
     exact q2
theorem qPF (hσ:One σ):∀ (d:Nat) (t:TypeId) (cs:List Value) (fuel:Nat) (x:DataW H × List MemPlace),plainT P d t=true→DataW.trod enc P W 0 (λ_=>true) true fuel t cs=some x→
  ∀ B,VB σ B W→∃ xs C,VB σ (B ++ C) W∧RelL σ (rhoB (B ++ C)) xs cs∧qAb xs=true∧Inp P (qJN (B ++ C)) d t xs
 | 0,_,_,_,_,hp,_,_,_=>by cases hp
 | d+1,t,cs,fuel,x,hp,h,B,hB=>by
   unfold plainT at hp
   unfold Inp
   split at hp
   ·rename_i hu
    obtain ⟨b,rfl,_⟩:=DataW.trod_bool hu h
    refine ⟨[.bool b],[],by simpa using hB,.cons (by unfold Rel;rfl) .nil,rfl,?_⟩
    exact ⟨b,rfl⟩
   ·rename_i k hu
    obtain ⟨n,rfl,_,hw⟩:=DataW.trod_int hu h
    refine ⟨[.int k n],[],by simpa using hB,.cons (by unfold Rel;rfl) .nil,rfl,?_⟩
    exact ⟨n,rfl,hw⟩
   ·rename_i hu
    obtain ⟨v,rfl,_,hv⟩:=DataW.trod_string hu h
    refine ⟨[.str v],[],by simpa using hB,.cons (by unfold Rel;rfl) .nil,rfl,?_⟩
    exact ⟨v,rfl,hv⟩
   ·rename_i e hu
    obtain ⟨hp1,hp2⟩:=Bool.and_eq_true_iff.1 hp
    have hes:0 < P.cellsOf e:=by rwa [Nat.blt_eq] at hp1
    rcases DataW.trod_slice hu h with ⟨rfl,_⟩ | ⟨a,len,cap,elems,rest,n,_,rfl,_,_,hlc,hcm,hel,hrd,hsp,_⟩
    ·exact ⟨[.nilslc],[],by simpa using hB,.cons (by unfold Rel;rfl) .nil,rfl,.inl rfl⟩
    ·obtain ⟨hrl,hrd2⟩:=hsp rfl
     have each:∀ i,i < cap→∃ y,(W.cells? 0 (a.add (i * P.cellsOf e)) (P.cellsOf e)).bind (DataW.trod enc P W 0 (λ_=>true) true n e)=some y:=by
      intro i hi
      by_cases hil:i < len
      ·rw [hrd i hil];exact ⟨_,gE (by omega)⟩
      ·have:=hrd2 (i - len) (by omega)
       rw [show len+(i - len)=i by omega] at this
       rw [this];exact ⟨_,gE (by omega)⟩
     by_cases hc:cap=0
     ·subst hc
      have hl0:len=0:=by omega
      subst hl0
      refine ⟨[.slc 0 0 0 (some 0) (P.cellsOf e)],[],by simpa using hB,.cons ?_ .nil,rfl,.inr ⟨0,0,0,rfl,Nat.le_refl _,hcm,λh=>by omega⟩⟩
      unfold Rel
      exact ⟨⟨0,0,0⟩,a,0,rfl,rfl,.inr ⟨rfl,rfl⟩,Nat.le_refl _,λk hk=>by cases hk;rfl⟩
     ·have css:∀ i,i < cap→∃ c,W.cells? 0 (a.add (i * P.cellsOf e)) (P.cellsOf e)=some c∧∃ y,DataW.trod enc P W 0 (λ_=>true) true n e c=some y:=by
       intro i hi
       obtain ⟨y,hy⟩:=each i hi
       rw [Option.bind_eq_some_iff] at hy
       obtain ⟨c,h1,h2⟩:=hy
       exact ⟨c,h1,y,h2⟩
      obtain ⟨xss,C,h1,h2⟩:=qNO (W:=W) hσ (λ_ xs s=>Inp P s d e xs) (λi xs s s' hs h=>Inp.sub hs d e xs h) (λi=>(W.cells? 0 (a.add (i * P.cellsOf e)) (P.cellsOf e)).getD []) cap B hB λi hi B hB=>by
       obtain ⟨c,g1,y,g2⟩:=css i hi
       rw [g1]
       exact qPF hσ d e c n y hp2 g2 B hB
      have cell:∀ i j,i < cap→j < P.cellsOf e→∃ v,W.cell? (a.add (i * P.cellsOf e+j))=some v∧((W.cells? 0 (a.add (i * P.cellsOf e)) (P.cellsOf e)).getD [])[j]?=some v:=by
       intro i j hi hj
       obtain ⟨c,g1,_⟩:=css i hi
       obtain ⟨_,g2,g3⟩:=World.cells?_some g1
       have g4:=g3 j hj
       rw [gE (by omega)] at g4
       refine ⟨c[j]'(by omega),?_,by rw [g1];simp⟩
       rw [← g4]
       congr 1
       unfold Addr.add
       by_cases z1:i * P.cellsOf e=0
       ·by_cases z2:j=0
        ·simp [z1,z2]
        ·simp [z1,z2]
       ·by_cases z2:j=0
        ·simp [z1,z2]
        ·simp [z1,z2,Nat.add_assoc]
      obtain ⟨v0,hv0,_⟩:=cell 0 0 (by omega) hes
      rw [Nat.zero_mul,zA] at hv0
      have hblk:∃ cc el fr,W.heap[a.block]?=some (.cells cc el fr)∧a.spot=none:=by
       have e0:a.add 0=a:=by simp [Addr.add]
       rw [e0] at hv0
       unfold World.cell? at hv0
       split at hv0
       ·rename_i cc el fr hb
        cases hs:a.spot with
        | none=>exact ⟨cc,el,fr,hb,rfl⟩
        | some k=>rw [hs] at hv0;simp at hv0
       ·cases hv0
      obtain ⟨cc,el,fr,hb,hspot⟩:=hblk
      have ha:a=⟨a.block,a.off,none⟩:=by cases a;simp only at hspot;rw [hspot]
      have at_:∀ k,k < cap * P.cellsOf e→∃ v,cc[a.off+k]?=some v∧((W.cells? 0 (a.add ((k / P.cellsOf e) * P.cellsOf e)) (P.cellsOf e)).getD [])[k % P.cellsOf e]?=some v:=by
       intro k hk
       have hq:k / P.cellsOf e < cap:=by rw [Nat.div_lt_iff_lt_mul hes];exact hk
       obtain ⟨v,g1,g2⟩:=cell (k / P.cellsOf e) (k % P.cellsOf e) hq (Nat.mod_lt _ hes)
       refine ⟨v,?_,g2⟩
       rw [Nat.mul_comm,Nat.div_add_mod,ha,qDK,qKb hb] at g1
       exact g1
      have hlen:∀ i,i < cap→(xss i).length=P.cellsOf e:=by
       intro i hi
       have:=(h2 i hi).1.length
       obtain ⟨c,g1,_⟩:=css i hi
       rw [g1] at this
       rw [← this]
       exact (World.cells?_some g1).2.1
      have hsz:a.off+cap * P.cellsOf e≤cc.size:=by
       have hpos:0 < cap * P.cellsOf e:=Nat.mul_pos (by omega) hes
       obtain ⟨v,g1,_⟩:=at_ (cap * P.cellsOf e - 1) (by omega)
       have:=(Array.getElem?_eq_some_iff.1 g1).1
       omega
      have hvb:VB σ ((B ++ C) ++ [(⟨a.block,a.off,cc.size⟩,el,pieces xss (P.cellsOf e) cap)]) W:=by
       refine h1.snoc _ ⟨cc,fr,hb,rfl,by rw [qCZ];exact hsz,?_,λj v hv=>?_⟩
       ·refine qPz λj v hv=>?_
        have hj:j < cap * P.cellsOf e:=by have:=(gS hv).1;rwa [qCZ] at this
        rw [qHW _ _ _ _ hj] at hv
        have hq:j / P.cellsOf e < cap:=by rw [Nat.div_lt_iff_lt_mul hes];exact hj
        have hm:j % P.cellsOf e < (xss (j / P.cellsOf e)).length:=by rw [hlen _ hq];exact Nat.mod_lt _ hes
        rw [List.getD_eq_getElem?_getD,gE hm] at hv
        cases hv
        exact qE3 (h2 _ hq).2.1 _ (List.getElem_mem hm)
       ·have hj:j < cap * P.cellsOf e:=by have:=(gS hv).1;rwa [qCZ] at this
        rw [qHW _ _ _ _ hj] at hv
        have hq:j / P.cellsOf e < cap:=by rw [Nat.div_lt_iff_lt_mul hes];exact hj
        have hm:j % P.cellsOf e < (xss (j / P.cellsOf e)).length:=by rw [hlen _ hq];exact Nat.mod_lt _ hes
        rw [List.getD_eq_getElem?_getD,gE hm] at hv
        cases hv
        obtain ⟨r1,r2,_⟩:=h2 _ hq
        obtain ⟨y,g1,g2⟩:=r1.get (j % P.cellsOf e) _ (gE hm)
        obtain ⟨v',k1,k2⟩:=at_ j hj
        rw [g1] at k2
        cases k2
        exact ⟨y,k1,g2,qKi hσ g2 (qE3 r2 _ (List.getElem_mem hm))⟩
      refine ⟨[.slc ((B ++ C).length+1) 0 len (some cap) (P.cellsOf e)],C ++ [(⟨a.block,a.off,cc.size⟩,el,pieces xss (P.cellsOf e) cap)],by rw [← List.append_assoc];exact hvb,?_,rfl,.inr ⟨_,len,cap,rfl,hlc,hcm,λ_=>⟨el,pieces xss (P.cellsOf e) cap,?_,qCZ _ _ _,λi hi=>?_⟩⟩⟩
      ·rw [← List.append_assoc]
       refine .cons ?_ .nil
       unfold Rel
       refine ⟨⟨a.block,a.off,cc.size⟩,a,cap,?_,rfl,.inl ⟨ha,by simpa using hsz⟩,hlc,λk hk=>by cases hk;rfl⟩
       unfold rhoB
       simp
      ·rw [← List.append_assoc]
       unfold qJN
       simp
      ·rw [qNi _ _ _ _ hes hi (hlen i hi),← List.append_assoc]
       exact Inp.sub (qLE (B ++ C) _) _ _ _ (h2 i hi).2.2
   ·rename_i fs hu
    obtain ⟨hp1,hp2⟩:=Bool.and_eq_true_iff.1 hp
    obtain ⟨xs,n,_,_,hl,hxl,hx⟩:=DataW.trod_struct hu h
    obtain ⟨ys,C,g1,g2,g3,g4⟩:=qNL (W:=W) (P:=P) hσ d cs (P.cellsOf t) hl fs.toList 0 B hB hp1 λf hf B hB=>by
     obtain ⟨i,hi⟩:=List.getElem?_of_mem hf
     have hi':fs[i]?=some f:=by simpa using hi
     have:=hx i f hi'
     rw [gE (by rw [hxl];exact (Array.getElem?_eq_some_iff.1 hi').1)] at this
     exact qPF hσ d f.type _ n _ (List.all_eq_true.1 hp2 f hf) this B hB
    rw [List.drop_zero] at g2
    exact ⟨ys,C,g1,g2,g3,by rw [← g2.length];exact hl,λf hf=>by simpa using (g4 f hf).2⟩
   ·rename_i n e hu
    obtain ⟨hp1,hp2⟩:=Bool.and_eq_true_iff.1 hp
    obtain ⟨hp2,hp3⟩:=Bool.and_eq_true_iff.1 hp2
    have hes:0 < P.cellsOf e:=by rwa [Nat.blt_eq] at hp2
    have htot:=bE hp1
    obtain ⟨ys,m,_,_,hl,hyl,hy⟩:=DataW.trod_array hu h
    obtain ⟨xss,C,h1,h2⟩:=qNO (W:=W) hσ (λ_ xs s=>Inp P s d e xs) (λi xs s s' hs h=>Inp.sub hs d e xs h) (λi=>(cs.drop (i * P.cellsOf e)).take (P.cellsOf e)) n B hB λi hi B hB=>by
     have:=hy i hi
     rw [gE (by omega)] at this
     exact qPF hσ d e _ m _ hp3 this B hB
    have hlen:∀ i,i < n→(xss i).length=P.cellsOf e:=by
     intro i hi
     have:=(h2 i hi).1.length
     rw [← this,List.length_take,List.length_drop,hl,htot]
     have:(i+1) * P.cellsOf e≤n * P.cellsOf e:=Nat.mul_le_mul_right _ hi
     rw [Nat.add_mul,Nat.one_mul] at this
     omega
    refine ⟨pieces xss (P.cellsOf e) n,C,h1,?_,?_,by rw [qCZ,htot],λi hi=>?_⟩
    ·refine RelL.of_get (by rw [qCZ,hl,htot]) λj x y hx hy'=>?_
     have hj:j < n * P.cellsOf e:=by have:=(gS hx).1;rwa [qCZ] at this
     rw [qHW _ _ _ _ hj] at hx
     have hq:j / P.cellsOf e < n:=by rw [Nat.div_lt_iff_lt_mul hes];exact hj
     have hm:j % P.cellsOf e < (xss (j / P.cellsOf e)).length:=by rw [hlen _ hq];exact Nat.mod_lt _ hes
     rw [List.getD_eq_getElem?_getD,gE hm] at hx
     cases hx
     obtain ⟨y',g1,g2⟩:=(h2 _ hq).1.get (j % P.cellsOf e) _ (gE hm)
     rw [List.getElem?_take,if_pos (Nat.mod_lt _ hes),List.getElem?_drop,Nat.mul_comm,Nat.div_add_mod,hy'] at g1
     cases g1
     exact g2
    ·refine qPz λj v hv=>?_
     have hj:j < n * P.cellsOf e:=by have:=(gS hv).1;rwa [qCZ] at this
     rw [qHW _ _ _ _ hj] at hv
     have hq:j / P.cellsOf e < n:=by rw [Nat.div_lt_iff_lt_mul hes];exact hj
     have hm:j % P.cellsOf e < (xss (j / P.cellsOf e)).length:=by rw [hlen _ hq];exact Nat.mod_lt _ hes
     rw [List.getD_eq_getElem?_getD,gE hm] at hv
     cases hv
     exact qE3 (h2 _ hq).2.1 _ (List.getElem_mem hm)
    ·rw [qNi _ _ _ _ hes hi (hlen i hi)]
     exact (h2 i hi).2.2
   ·cases hp
end
end Go.AM
namespace Go.AM
open Go Go.RowKit Go.ChangeShapes Go.WideShapes Go.ChangeAt
section
variable {H:Type} {enc:TypeId × Value→H} {P:Program} {W W':World} {σ:Nat→Value}
theorem qHf {α β:Type} {f g:α→Option β}:∀ {l:List α} {ys:List β},l.mapM f=some ys→(∀ x∈l,∀ y∈ys,f x=some y→g x=some y)→l.mapM g=some ys
 | [],ys,h,_=>by simpa using h
 | a :: l,ys,h,hg=>by
   rw [List.mapM_cons] at h ⊢
   cases ha:f a with
   | none=>rw [ha] at h;cases h
   | some b=>
     rw [ha] at h
     cases hl:l.mapM f with
     | none=>rw [hl] at h;cases h
     | some bs=>
       rw [hl] at h
       cases h
       rw [hg a (by simp) b (by simp) ha,qHf hl λx hx y hy=>hg x (by simp [hx]) y (by simp [hy])]
       rfl
theorem qTl (hb:Below W.heap.size W W') {a:Addr} {n:Nat} {cs:List Value} (h:W.cells? 0 a n=some cs):W'.cells? 0 a n=some cs:=by
 unfold World.cells? at h ⊢
 rw [if_pos (Nat.zero_le _)] at h ⊢
 refine qHf h λi _ v _ hv=>?_
 have hlt:(a.add i).block < W.heap.size:=by
  unfold World.cell? at hv
  cases hq:W.heap[(a.add i).block]? with
  | none=>rw [hq] at hv;cases hv
  | some o=>exact (Array.getElem?_eq_some_iff.1 hq).1
 rw [← hv]
 exact hb.cell hlt
theorem qKm (hb:Below W.heap.size W W') (sp:Nat→Bool):∀ (d:Nat) (t:TypeId) (cs:List Value) (fuel:Nat) (x:DataW H × List MemPlace),plainT P d t=true→DataW.trod enc P W 0 (λ_=>true) true fuel t cs=some x→
  (∀ p∈x.2,sp p.block=true)→DataW.trod enc P W' 0 sp true fuel t cs=some x
 | 0,_,_,_,_,hp,_,_=>by cases hp
 | d+1,t,cs,fuel,x,hp,h,hsp=>by
   unfold plainT at hp
   cases fuel with
   | zero=>cases h
   | succ fuel=>
   split at hp
   ·rename_i hu
    obtain ⟨b,rfl,rfl⟩:=DataW.trod_bool hu h
    simp only [DataW.trod,hu]
   ·rename_i k hu
    obtain ⟨n,rfl,rfl,hw⟩:=DataW.trod_int hu h
    simp [DataW.trod,hu,hw]
   ·rename_i hu
    obtain ⟨v,rfl,rfl,hv⟩:=DataW.trod_string hu h
    simp [DataW.trod,hu,hv]
   ·rename_i e hu
    obtain ⟨hp1,hp2⟩:=Bool.and_eq_true_iff.1 hp
    have hes:0 < P.cellsOf e:=by rwa [Nat.blt_eq] at hp1
    rcases DataW.trod_slice hu h with ⟨rfl,rfl⟩ | ⟨a,len,cap,elems,rest,n,hn,rfl,rfl,_,hlc,hcm,hel,_,hspare,_⟩
    ·simp only [DataW.trod,hu]
    ·obtain ⟨hrl,_⟩:=hspare rfl
     have h0:=h
     simp only [DataW.trod,hu,if_true,Nat.zero_le,true_and] at h ⊢
     rw [if_pos ⟨hlc,hcm⟩] at h ⊢
     rw [Option.bind_eq_some_iff] at h
     obtain ⟨el2,g1,g2⟩:=h
     rw [Option.map_eq_some_iff] at g2
     obtain ⟨re2,g2,g3⟩:=g2
     have hlen1:el2.length=len:=by rw [mapM_some_length g1];simp
     have hlen2:re2.length=cap - len:=by rw [mapM_some_length g2];simp
     simp only [Prod.mk.injEq,DataW.slice.injEq] at g3
     obtain ⟨⟨g31,g32⟩,g4⟩:=g3
     have keepE:∀ y,(y∈el2∨y∈re2)→∀ c,DataW.trod enc P W 0 (λ_=>true) true fuel e c=some y→DataW.trod enc P W' 0 sp true fuel e c=some y:=by
      intro y hy c hc
      refine qKm hb sp d e c fuel y hp2 hc λp hpm=>hsp p ?_
      simp only
      rw [← g4]
      refine List.mem_append_right _ (List.mem_flatMap.2 ⟨y,?_,hpm⟩)
      rcases hy with hy | hy
      ·exact List.mem_append_left _ hy
      ·exact List.mem_append_right _ hy
     have keepB:∀ i y,(y∈el2∨y∈re2)→(W.cells? 0 (a.add (i * P.cellsOf e)) (P.cellsOf e)).bind (DataW.trod enc P W 0 (λ_=>true) true fuel e)=some y→
       (W'.cells? 0 (a.add (i * P.cellsOf e)) (P.cellsOf e)).bind (DataW.trod enc P W' 0 sp true fuel e)=some y:=by
      intro i y hy hi
      rw [Option.bind_eq_some_iff] at hi ⊢
      obtain ⟨c,c1,c2⟩:=hi
      exact ⟨c,qTl hb c1,keepE y hy c c2⟩
     rw [qHf g1 λi _ y hy hi=>keepB i y (.inl hy) hi]
     simp only [Option.bind_some]
     by_cases hz:cap - len=0
     ·have:re2=[]:=List.eq_nil_of_length_eq_zero (by omega)
      subst this
      simp only [hz,List.range_zero,List.mapM_nil]
      simp only [← g31,← g32,← g4,List.map_nil]
      split <;> simp
     ·have hblk:sp a.block=true:=by
       refine hsp (.cell a.block (a.off+0)) ?_
       simp only
       refine List.mem_append_left _ ?_
       unfold MemPlace.row
       refine List.mem_map.2 ⟨0,?_,rfl⟩
       rw [List.mem_range,hel,hrl]
       exact Nat.mul_pos (by omega) hes
      rw [if_pos hblk,qHf g2 λi _ y hy hi=>keepB (len+i) y (.inr hy) hi]
      simp only [Option.map_some,← g31,← g32,← g4]
   ·rename_i fs hu
    obtain ⟨_,hp2⟩:=Bool.and_eq_true_iff.1 hp
    obtain ⟨xs,n,_,rfl,hl,hxl,hx⟩:=DataW.trod_struct hu h
    simp only [DataW.trod,hu] at h ⊢
    rw [if_pos hl] at h ⊢
    rw [Option.map_eq_some_iff] at h ⊢
    obtain ⟨ys,h1,h2⟩:=h
    refine ⟨ys,qHf h1 λf hf y hy hfy=>?_,h2⟩
    refine qKm hb sp d f.type _ fuel y (List.all_eq_true.1 hp2 f hf) hfy λp hpm=>hsp p ?_
    simp only [Prod.mk.injEq] at h2 ⊢
    rw [← h2.2]
    exact List.mem_flatMap.2 ⟨y,hy,hpm⟩
   ·rename_i n e hu
    obtain ⟨_,hp2⟩:=Bool.and_eq_true_iff.1 hp
    obtain ⟨_,hp3⟩:=Bool.and_eq_true_iff.1 hp2
    obtain ⟨xs,m,_,rfl,hl,hxl,hx⟩:=DataW.trod_array hu h
    simp only [DataW.trod,hu] at h ⊢
    rw [if_pos hl] at h ⊢
    rw [Option.map_eq_some_iff] at h ⊢
    obtain ⟨ys,h1,h2⟩:=h
    refine ⟨ys,qHf h1 λi _ y hy hfy=>?_,h2⟩
    refine qKm hb sp d e _ fuel y hp3 hfy λp hpm=>hsp p ?_
    simp only [Prod.mk.injEq] at h2 ⊢
    rw [← h2.2]
    exact List.mem_flatMap.2 ⟨y,hy,hpm⟩
   ·cases hp
theorem trodAll_keep (hb:Below W.heap.size W W') (sp:Nat→Bool) (d:Nat):∀ (ts:List TypeId) (vs:List Value) (ds:List (DataW H)) (ps:List MemPlace),(ts.all λt=>plainT P d t)=true→DataW.TrodAll enc P W 0 (λ_=>true) true ts vs ds ps→
  (∀ p∈ps,sp p.block=true)→DataW.TrodAll enc P W' 0 sp true ts vs ds ps
 | [],vs,ds,ps,_,h,_=>by
   cases vs <;> cases ds <;> first | exact h | exact h.elim
 | t :: ts,[],ds,ps,_,h,_=>by cases ds <;> exact h.elim
 | t :: ts,v :: vs,[],ps,_,h,_=>h.elim
 | t :: ts,v :: vs,x :: ds,ps,hp,h,hsp=>by
   simp only [List.all_cons,Bool.and_eq_true] at hp
   obtain ⟨p,q,⟨fuel,h1⟩,h2,rfl⟩:=h
   exact ⟨p,q,⟨fuel,qKm hb sp d t _ fuel _ hp.1 h1 λp hpm=>hsp p (by simp [hpm])⟩,trodAll_keep hb sp d ts vs ds q hp.2 h2 λp hpm=>hsp p (by simp [hpm]),rfl⟩
def Arg (P:Program) (s:Hq) (d:Nat) (t:TypeId) (v:AV):Prop:=Inp P s d t v.cells∧(qDX P t=some true→∃ l,v=.agg l∧qAb l=true)∧(qDX P t≠some true→v.cells=[v])
def ArgL (P:Program) (s:Hq) (d:Nat):List TypeId→List AV→Prop
 | [],[]=>True
 | t :: ts,v :: vs=>Arg P s d t v∧ArgL P s d ts vs
 | _,_=>False
theorem Arg.sub {s s':Hq} (hs:Sub s s') {d:Nat} {t:TypeId} {v:AV} (h:Arg P s d t v):Arg P s' d t v:=⟨Inp.sub hs _ _ _ h.1,h.2⟩
theorem qQZ {base:Nat} {t:TypeId} {v:Value} {d:Nat} (hp:plainT P d t=true) (h:Value.okWide P W .any base t v):(qDX P t=some true∧∃ cs,v=.agg cs)∨(qDX P t≠some true∧v.cells=#[v]):=by
 cases d with
 | zero=>cases hp
 | succ d=>
   unfold plainT at hp
   unfold Value.okWide at h
   unfold qDX
   split at hp <;> rename_i hu
   all_goals (try rw [hu] at h)
   all_goals (try simp only at h)
   ·right
    refine ⟨by rw [hu];simp,?_⟩
    unfold Cell.okWide Cell.ok at h
    simp only [hu] at h
    cases v <;> simp_all <;> rfl
   ·right
    refine ⟨by rw [hu];simp,?_⟩
    unfold Cell.okWide Cell.ok at h
    simp only [hu] at h
    cases v <;> simp_all <;> rfl
   ·right
    refine ⟨by rw [hu];simp,?_⟩
    unfold Cell.okWide Cell.ok at h
    simp only [hu] at h
    cases v <;> simp_all <;> rfl
   ·right
    refine ⟨by rw [hu];simp,?_⟩
    unfold Cell.okWide Cell.ok at h
    simp only [hu] at h
    cases v <;> simp_all <;> rfl
   ·left
    obtain ⟨cs,e,_⟩:=h
    exact ⟨by rw [hu],cs,e⟩
   ·left
    obtain ⟨cs,e,_⟩:=h
    exact ⟨by rw [hu],cs,e⟩
   ·cases hp
theorem qQD (hσ:One σ) (d:Nat) (base:Nat):∀ (ts:List TypeId) (vs:List Value) (ds:List (DataW H)) (ps:List MemPlace) (B:IB),VB σ B W→(ts.all λt=>plainT P d t)=true→DataW.TrodAll enc P W 0 (λ_=>true) true ts vs ds ps→
  (∀ (j:Nat) t v,ts[j]?=some t→vs[j]?=some v→Value.okWide P W .any base t v)→∃ xs C,VB σ (B ++ C) W∧RelL σ (rhoB (B ++ C)) xs vs∧ArgL P (qJN (B ++ C)) d ts xs
 | [],vs,ds,ps,B,hB,_,h,_=>by
   cases vs with
   | nil=>exact ⟨[],[],by simpa using hB,.nil,trivial⟩
   | cons v vs=>cases ds <;> exact h.elim
 | t :: ts,[],ds,ps,B,hB,_,h,_=>by cases ds <;> exact h.elim
 | t :: ts,v :: vs,[],ps,B,hB,_,h,_=>h.elim
 | t :: ts,v :: vs,x :: ds,ps,B,hB,hp,h,hv=>by
   simp only [List.all_cons,Bool.and_eq_true] at hp
   obtain ⟨p,q,⟨fuel,h1⟩,h2,rfl⟩:=h
   obtain ⟨xs,C,g1,g2,g3,g4⟩:=qPF hσ d t _ fuel _ hp.1 h1 B hB
   obtain ⟨ys,D,k1,k2,k3⟩:=qQD hσ d base ts vs ds q (B ++ C) g1 hp.2 h2 λj t v hj hv'=>hv (j+1) t v (by simpa using hj) (by simpa using hv')
   have hsub:=qLE (B ++ C) D
   have hle:=qNG (B ++ C) D
   rcases qQZ hp.1 (hv 0 t v rfl rfl) with ⟨ha,cs,rfl⟩ | ⟨ha,hc⟩
   ·refine ⟨.agg xs :: ys,C ++ D,by rw [← List.append_assoc];exact k1,?_,?_⟩
    ·rw [← List.append_assoc]
     exact .cons (by unfold Rel;exact ⟨cs,rfl,RelL.mono hle _ _ g2⟩) k2
    ·rw [← List.append_assoc]
     exact ⟨⟨Inp.sub hsub _ _ _ g4,λ_=>⟨xs,rfl,g3⟩,λh=>absurd ha h⟩,k3⟩
   ·rw [hc] at g2
    obtain ⟨y,rfl⟩:∃ y,xs=[y]:=by
     have:=g2.length
     cases xs with
     | nil=>simp at this
     | cons y r=>cases r with
       | nil=>exact ⟨y,rfl⟩
       | cons _ _=>simp at this
    have hr:Rel σ (rhoB (B ++ C)) y v:=by
     unfold RelL at g2
     obtain ⟨_,_,e,r,_⟩:=g2
     cases e;exact r
    have hy:y.one=true:=by simpa [qAb] using g3
    refine ⟨y :: ys,C ++ D,by rw [← List.append_assoc];exact k1,?_,?_⟩
    ·rw [← List.append_assoc]
     exact .cons (Rel.mono hle _ _ hr) k2
    ·rw [← List.append_assoc]
     refine ⟨⟨?_,λh=>absurd h ha,λ_=>qBk hy⟩,k3⟩
     rw [qBk hy]
     exact Inp.sub hsub _ _ _ g4
end
def memB (B:IB):AH:={ blks:=Tr.ofListAt .nil 1 (B.map λx=>.cells x.2.1 (Tr.ofListAt .nil 0 x.2.2) x.2.2.length),next:=B.length+1,lo:=B.length+1,log:=[] }
theorem qOu (B:IB) (id:Nat):(memB B).blks.get id=match id with
  | 0=>none
  | i+1=>match B[i]? with
    | some x=>some (.cells x.2.1 (Tr.ofListAt .nil 0 x.2.2) x.2.2.length)
    | none=>none:=by
 unfold memB
 simp only
 rw [Tr.get_ofListAt]
 cases id with
 | zero=>rw [if_neg (by omega),Tr.get_nil]
 | succ i=>
   by_cases h:i < B.length
   ·rw [if_pos (by simp;omega)]
    simp [gE h]
   ·rw [if_neg (by simp;omega),Tr.get_nil]
    have:B[i]?=none:=List.getElem?_eq_none (by omega)
    simp only [this]
theorem zAAY (B:IB) {σ:Nat→Value} {W:World} (h:VB σ B W):HRel (qJN B) (memB B):=by
 refine ⟨Nat.le_refl _,λi hi=>?_,λi t b hi=>?_⟩
 ·rw [qOu] at hi
  cases i with
  | zero=>exact absurd rfl hi
  | succ i=>
    simp only at hi
    cases e:B[i]? with
    | none=>rw [e] at hi;exact absurd rfl hi
    | some x=>have:=(gS e).1;show i+1 < B.length+1;omega
 ·cases i with
  | zero=>cases hi
  | succ i=>
    unfold qJN at hi
    simp only at hi
    cases e:B[i]? with
    | none=>rw [e] at hi;cases hi
    | some x=>
      rw [e] at hi
      cases hi
      obtain ⟨_,_,_,_,_,h4,_⟩:=h i x e
      have e2:(memB B).blks.get (i+1)=some (.cells x.2.1 (Tr.ofListAt .nil 0 x.2.2) x.2.2.length):=by rw [qOu];simp only [e]
      exact ⟨by simp,_,e2,rfl,rfl,h4,λj hj=>qJF _ _ hj⟩
theorem qZj (B:IB) {σ:Nat→Value} {W:World} (h:VB σ B W):WR σ (rhoB B) W.heap.size (memB B) W:=by
 have key:∀ id b,(memB B).blks.get id=some b→∃ i x,id=i+1∧B[i]?=some x∧b=.cells x.2.1 (Tr.ofListAt .nil 0 x.2.2) x.2.2.length:=by
  intro id b hb
  rw [qOu] at hb
  cases id with
  | zero=>cases hb
  | succ i=>
    simp only at hb
    cases e:B[i]? with
    | none=>rw [e] at hb;cases hb
    | some x=>rw [e] at hb;cases hb;exact ⟨i,x,rfl,e,rfl⟩
 have lo:∀ id b,(memB B).blks.get id=some b→¬ (memB B).lo≤id:=by
  intro id b hb
  obtain ⟨i,x,rfl,e,_⟩:=key id b hb
  have:=(gS e).1
  show ¬ B.length+1≤i+1
  omega
 refine ⟨λid b hb=>?_,λid b L hb _ hl=>absurd hl (lo id b hb),λi j bi bj Li Lj hi _ _ _ hl _=>absurd hl (lo i bi hi),Nat.le_refl _⟩
 obtain ⟨i,x,rfl,e,rfl⟩:=key id b hb
 refine ⟨x.1,by unfold rhoB;simp [e],?_⟩
 obtain ⟨cc,fr,h1,h2,h3,_,h5⟩:=h i x e
 refine ⟨cc,fr,h1,λhl=>absurd hl (lo _ _ hb),h2,h3,λj v hj=>?_⟩
 have hlt:j < x.2.2.length:=by
  rcases Nat.lt_or_ge j x.2.2.length with h | h
  ·exact h
  ·rw [Tr.get_ofListAt,if_neg (by omega),Tr.get_nil] at hj;cases hj
 rw [qJF _ _ hlt] at hj
 exact h5 j v hj
end Go.AM
namespace Go.AM
open Go Go.RowKit Go.ChangeShapes Go.WideShapes Go.ChangeAt
def qG4 (l:List FuncId):Td:=λf=>cond (memN f l) (some λargs=>match args with
 | []=>ret (.bool true)
 | _=>fail) none
theorem qOM (l:List FuncId):FrX (qG4 l):=by
 intro f g args h
 unfold qG4 at h
 cases hm:memN f l with
 | false=>rw [hm] at h;cases h
 | true=>
   rw [hm] at h
   cases h
   cases args with
   | nil=>exact qBD _
   | cons _ _=>exact qAs
theorem qX5 {σ:Nat→Value} {ρ:Ren} {base:Nat} {H:AH} {w w':World} (h:WR σ ρ base H w) (hb:Below w.heap.size w w'):WR σ ρ base H w':=by
 refine ⟨λid b hid=>?_,h.own,h.inj,Nat.le_trans h.base hb.size⟩
 obtain ⟨L,h1,h2⟩:=h.blk id b hid
 refine ⟨L,h1,?_⟩
 have hlt:=qNk h hid h1
 rw [hb.block L.blk hlt];exact h2
theorem qVQ {P:Program} {l:List FuncId} {f:FuncId} (hf:memN f l=true) {K:AV→Hq→Prop} {s:Hq} (h:K (.bool true) s):wC P (qG4 l) f [] K s:=by
 intro H hH
 refine ⟨1,.val (.bool true),H,?_,s,hH,.refl _,_,rfl,h⟩
 show (match qG4 l f with
  | some g=>bd (g []) λv=>ret (Out.val v)
  | none=>qCV P (run P (qG4 l) 0) f []) H=_
 have:qG4 l f=some λargs=>match args with
  | []=>ret (.bool true)
  | _=>fail:=by unfold qG4;rw [hf];rfl
 rw [this];rfl
theorem wC.mono {P:Program} {X:Td} {f:FuncId} {args:List AV} {K K':AV→Hq→Prop} {s:Hq} (h:wC P X f args K s) (hk:∀ v s',K v s'→K' v s'):wC P X f args K' s:=
 wpF.mono h λ_ s' ⟨v,e,hv⟩=>⟨v,e,hk v s' hv⟩
end Go.AM
namespace Go.AM
open Go
def qAp (fn:Func):Code:=match fn.body with
 | some c=>c
 | none=>.refuse ""
variable {α:Type} {K:α→Prop} {s s':Hq}
@[simp] theorem qAA {a:α}:oK (some a) K=K a:=id rfl
theorem qAW {o:Option α} {a:α} (h:o=some a) (hk:K a):oK o K:=by rw [h];exact hk
@[simp] theorem qAI {p q:Prop}:qAP (.bool true) p q=p:=id rfl
@[simp] theorem qAB {p q:Prop}:qAP (.bool false) p q=q:=id rfl
theorem qAU {b:Bool} {p q:Prop} (h1:b=true→p) (h2:b=false→q):qAP (.bool b) p q:=by cases b;exact h2 rfl;exact h1 rfl
@[simp] theorem qAV {a b:AV}:qBK (.bool true) a b=some a:=id rfl
@[simp] theorem qAL {a b:AV}:qBK (.bool false) a b=some b:=id rfl
@[simp] theorem qAJ {b o:Nat}:qAH (.ptr b o)=some (.ptr b o):=id rfl
@[simp] theorem qAE {b o k:Nat}:qAF k (.ptr b o)=some (.ptr b (o+k)):=id rfl
@[simp] theorem nat?_mk {k:IntKind} {n:Nat}:nat? (.int k (n:Int))=some n:=id rfl
@[simp] theorem qKK {k:IntKind}:qCQ k k=true:=by cases k <;> rfl
@[simp] theorem qAT {k:IntKind} {x y:Int}:qAG .add (.int k x) (.int k y)=some (.int k (k.wrap (x+y))):=by simp [qAG,arith,qDL,qCH]
@[simp] theorem qBO {k:IntKind} {x y:Int}:qAG .sub (.int k x) (.int k y)=some (.int k (k.wrap (x - y))):=by simp [qAG,arith,qDL,qCH]
@[simp] theorem qHp {k:IntKind} {x y:Int}:qAG .mul (.int k x) (.int k y)=some (.int k (k.wrap (x * y))):=by simp [qAG,arith,qDL,qCH]
theorem qMl {k:IntKind} {x y:Int} (h:y≠0):qAG .quo (.int k x) (.int k y)=some (.int k (k.wrap (x.tdiv y))):=by
 have:(y == 0)=false:=by simpa using h
 simp [qAG,arith,qDL,qCH,qGn,this]
theorem qMi {k:IntKind} {x y:Int} (h:y≠0):qAG .rem (.int k x) (.int k y)=some (.int k (x.tmod y)):=by
 have:(y == 0)=false:=by simpa using h
 simp [qAG,arith,qDL,qGn,this]
@[simp] theorem qAQ {k:IntKind} {x y:Int}:qAG .lss (.int k x) (.int k y)=some (.bool (decide (x < y))):=by simp [qAG,arith,qIZ]
@[simp] theorem qAx {k:IntKind} {x y:Int}:qAG .gtr (.int k x) (.int k y)=some (.bool (decide (y < x))):=by simp [qAG,arith,qIZ]
@[simp] theorem qI1 {k:IntKind} {x y:Int}:qAG .leq (.int k x) (.int k y)=some (.bool (decide (x≤y))):=by
 simp only [qAG,arith,qIZ,qKK,cond_true]
 by_cases h:x≤y
 ·simp [h,Int.not_lt.2 h]
 ·simp [h,Int.not_le.1 h]
@[simp] theorem qA8 {k:IntKind} {x y:Int}:qAG .geq (.int k x) (.int k y)=some (.bool (decide (y≤x))):=by
 simp only [qAG,arith,qIZ,qKK,cond_true]
 by_cases h:y≤x
 ·simp [h,Int.not_lt.2 h]
 ·simp [h,Int.not_le.1 h]
@[simp] theorem qAv {c:Bool} {k:IntKind} {x y:Int}:eqV 0 c (.int k x) (.int k y)=some (x == y):=by simp [eqV,qGn]
@[simp] theorem zABb {c:Bool} {x y:Bool}:eqV 1 c (.bool x) (.bool y)=some (x == y):=id rfl
@[simp] theorem qPc {c:Bool} {b o:Nat}:eqV 3 c (.ptr b o) .nilptr=some false:=id rfl
@[simp] theorem qTa {c:Bool}:eqV 3 c .nilptr .nilptr=some true:=id rfl
@[simp] theorem qOy {c:Bool} {b o l es:Nat} {cp:Option Nat}:eqV 5 c (.slc b o l cp es) .nilslc=some false:=id rfl
@[simp] theorem qJq {c:Bool}:eqV 5 c .nilslc .nilslc=some true:=id rfl
@[simp] theorem qAi {n b:Bool}:negB n (some b)=some (.bool (n != b)):=by cases n <;> cases b <;> rfl
@[simp] theorem qAj {b:Bool}:qBd .not (.bool b)=some (.bool !b):=id rfl
@[simp] theorem qBJ {b o l es:Nat} {cp:Option Nat}:qAa (.slc b o l cp es)=some l:=id rfl
theorem qAM {b o:Nat} {t:Bool} {e:TypeId} {l:List AV} (h:s b=some (t,.cells e l)):rd1 s (.ptr b o)=l[o]?:=by simp [rd1,h]
theorem zAAn {b o:Nat} {e:TypeId} {l:List AV} {v:AV} (h:s b=some (false,.cells e l)) (hl:o < l.length) (hv:v.one=true):wr1 s (.ptr b o) v=some (hset s b (false,.cells e (l.set o v))):=by
 have:Nat.blt o l.length=true:=by rw [Nat.blt_eq];exact hl
 simp [wr1,h,hv,this]
@[simp] theorem zABx {k:IntKind} {n:Int}:(AV.int k n).one=true:=id rfl
@[simp] theorem zAB7 {b o l es:Nat} {cp:Option Nat}:(AV.slc b o l cp es).one=true:=id rfl
@[simp] theorem zAAL:AV.nilslc.one=true:=id rfl
@[simp] theorem qK2 {l:List AV}:(AV.agg l).cells=l:=id rfl
@[simp] theorem zAAM:qAb []=true:=id rfl
@[simp] theorem qHs {v:AV} {l:List AV}:qAb (v :: l)=(v.one&&qAb l):=id rfl
theorem qAf {n:Int} (h1:-9223372036854775808≤n) (h2:n≤9223372036854775807):IntKind.i64.wrap n=n:=by
 rw [← qCH]
 simp only [qB7]
 rw [qGo _ _ _ (by omega) (by omega)]
 split <;> omega
def qAg (fp:Nat→Prop) (s s':Hq):Prop:=∀ b e,s b=some e→¬ fp b→s' b=some e
theorem qAg.refl (fp:Nat→Prop) (s:Hq):qAg fp s s:=λ_ _ h _=>h
theorem qAg.trans {fp:Nat→Prop} {a b c:Hq} (h:qAg fp a b) (k:qAg fp b c):qAg fp a c:=λi e hi hf=>k i e (h i e hi hf) hf
theorem qAg.mono {fp fp':Nat→Prop} {a b:Hq} (h:qAg fp a b) (hf:∀ i,fp i→fp' i):qAg fp' a b:=λi e hi hn=>h i e hi λk=>hn (hf i k)
theorem Sub.keep {fp:Nat→Prop} {a b:Hq} (h:Sub a b):qAg fp a b:=λi e hi _=>h i e hi
theorem Sub.refl (s:Hq):Sub s s:=λ_ _ h=>h
theorem Sub.trans {a b c:Hq} (h:Sub a b) (k:Sub b c):Sub a c:=λi e hi=>k i e (h i e hi)
theorem qJb {b:Nat} {e:Bool × Blk} (h:s b=none):Sub s (hset s b e):=λi x hi=>by
 unfold hset
 have:i≠b:=λq=>by rw [q,h] at hi;cases hi
 rw [if_neg this];exact hi
@[simp] theorem qCN {b:Nat} {e:Bool × Blk}:hset s b e b=some e:=if_pos rfl
theorem qAt {b i:Nat} {e:Bool × Blk} (h:i≠b):hset s b e i=s i:=if_neg h
theorem qBl {b i:Nat} {e:Bool × Blk} (hb:s b=none) (hi:s i=some e):i≠b:=λq=>by rw [q,hb] at hi;cases hi
theorem qXW {s:Hq}:cutH [(s,s)] s=s:=by
 funext b
 show (if s b=none∧s b≠none then none else s b)=_
 rw [if_neg];rintro ⟨h1,h2⟩;exact h2 h1
theorem qPL {s:Hq}:add s (frz s)=s:=by
 funext b
 unfold add frz
 cases s b <;> rfl
theorem qFk {s t:Hq}:Sub s (add s t):=λi e hi=>qAZ hi
theorem qWE {P:Program} {X:Td} {k:FuncId} {first cap args:List AV} {K:AV→Hq→Prop} {s:Hq} (hk:isFn P k=true) (h:wC P X k (first ++ args ++ cap) K s):funK P X (.fn (.func k) first cap) args K s:=⟨hk,h⟩
theorem qUV {b:Nat} {e:TypeId} {l cs:List AV} {n:Nat} {s:Hq} (h:s b=some (false,.cells e l)) (hl:cs.length=l.length) (hn:l.length=n) (ho:qAb cs=true):qBo s n (.ptr b 0) (.agg cs)=some (hset s b (false,.cells e cs)):=by
 have e1:Nat.beq cs.length n=true:=by rw [hl,hn];exact Nat.beq_refl _
 have e2:Nat.ble (0+cs.length) l.length=true:=bL (by omega)
 have e3:qAu l 0 cs=cs:=by unfold qAu;rw [List.drop_eq_nil_of_le (by omega)];simp
 simp only [qBo,qK2,e1,cond_true,wrN,h,e2,ho,Bool.and_self,e3]
theorem qA7 {b:Nat} {t:Bool} {e:TypeId} {l:List AV} {n:Nat} {s:Hq} (h:s b=some (t,.cells e l)) (hn:l.length=n):rdN s n (.ptr b 0)=some l:=by
 have e1:Nat.ble (0+n) l.length=true:=bL (by omega)
 simp only [rdN,h,qJM,e1,cond_true,List.drop_zero]
 rw [List.take_of_length_le (by omega)]
theorem qX9 {elem:TypeId} {v:AV} {K:AV→Hq→Prop} {s:Hq} (hv:v.one=true) (h:∀ b,s b=none→K (.ptr b 0) (hset s b (false,.cells elem [v]))):boxK elem v K s:=by
 unfold boxK
 rw [qBk hv]
 exact ⟨by simp [hv],h⟩
def Upto (b:Nat) (s s':Hq):Prop:=∀ i,i≠b→s' i=s i
theorem Upto.keep {fp:Nat→Prop} {b:Nat} {s s':Hq} (h:Upto b s s') (hb:fp b):qAg fp s s':=λi e hi hn=>by
 rw [h i λq=>hn (q ▸ hb)];exact hi
theorem Upto.sub {b:Nat} {s s':Hq} (h:Upto b s s') (hb:s b=none):Sub s s':=λi e hi=>by
 rw [h i (qBl hb hi)];exact hi
theorem Upto.at {b i:Nat} {s s':Hq} {e:Bool × Blk} (h:Upto b s s') (hi:s i=some e) (hb:s b=none):s' i=some e:=h.sub hb i e hi
theorem qAS {elem:TypeId} {cs:List AV} {K:Nat→Hq→Prop} {s:Hq} (h:∀ b s',s b=none→s' b=some (false,.cells elem cs)→Upto b s s'→K b s'):newK elem cs K s:=
 λb hb=>h b _ hb qCN λ_ hi=>qAt hi
theorem qAm {b o:Nat} {e:TypeId} {l:List AV} {v:AV} {K:Hq→Prop} {s:Hq} (h:s b=some (false,.cells e l)) (ho:o < l.length) (hv:v.one=true) (hk:∀ s',s' b=some (false,.cells e (l.set o v))→Upto b s s'→K s'):oK (wr1 s (.ptr b o) v) K:=
 qAW (zAAn h ho hv) (hk _ qCN λ_ hi=>qAt hi)
theorem qAl {b:Nat} {e:TypeId} {l cs:List AV} {n:Nat} {K:Hq→Prop} {s:Hq} (h:s b=some (false,.cells e l)) (hl:cs.length=l.length) (hn:l.length=n) (ho:qAb cs=true) (hk:∀ s',s' b=some (false,.cells e cs)→Upto b s s'→K s'):oK (qBo s n (.ptr b 0) (.agg cs)) K:=
 qAW (qUV h hl hn ho) (hk _ qCN λ_ hi=>qAt hi)
theorem qLB {elem:TypeId} {v:AV} {K:AV→Hq→Prop} {s:Hq} (hv:v.one=true) (h:∀ b s',s b=none→s' b=some (false,.cells elem [v])→Upto b s s'→K (.ptr b 0) s'):boxK elem v K s:=
 qX9 hv λb hb=>h b _ hb qCN λ_ hi=>qAt hi
end Go.AM
namespace Go.AM
open Go
def Sl (s:Hq) (v:AV) (l:List AV):Prop:=(v=.nilslc∧l=[])∨∃ b o cap,v=.slc b o l.length cap 1∧(∀ c,cap=some c→l.length≤c)∧
 (l≠[]→∃ t e cs,s b=some (t,.cells e cs)∧o+l.length≤cs.length∧∀ i,i < l.length→cs[o+i]?=l[i]?)
variable {s s':Hq} {v:AV} {l:List AV}
theorem Sl.len (h:Sl s v l):qAa v=some l.length:=by
 rcases h with ⟨rfl,rfl⟩ | ⟨b,o,cap,rfl,_⟩
 ·rfl
 ·rfl
theorem Sl.get (h:Sl s v l) {i:Nat} (hi:i < l.length):∃ p,qAO 1 v (.int .i64 (i:Int))=some p∧rd1 s p=l[i]?:=by
 rcases h with ⟨rfl,rfl⟩ | ⟨b,o,cap,rfl,_,h⟩
 ·simp at hi
 ·obtain ⟨t,e,cs,h1,h2,h3⟩:=h (by rintro rfl;simp at hi)
  refine ⟨.ptr b (o+i),?_,by rw [qAM h1,h3 i hi]⟩
  have:Nat.blt i l.length=true:=by rw [Nat.blt_eq];exact hi
  simp [qAO,this]
theorem Sl.rd (h:Sl s v l):rdSl s 1 v=some l:=by
 rcases h with ⟨rfl,rfl⟩ | ⟨b,o,cap,rfl,_,h⟩
 ·rfl
 ·cases l with
  | nil=>rfl
  | cons x r=>
    obtain ⟨t,e,cs,h1,h2,h3⟩:=h (by simp)
    have e1:Nat.beq ((x :: r).length * 1) 0=false:=rfl
    have e2:Nat.ble (o+(x :: r).length * 1) cs.length=true:=bL (by omega)
    simp only [rdSl,Nat.beq_refl,cond_true,e1,cond_false,h1,qJM,e2]
    congr 1
    apply List.ext_getElem?
    intro i
    rw [List.getElem?_take]
    split
    ·rename_i hi
     rw [List.getElem?_drop,h3 i (by omega)]
    ·rw [List.getElem?_eq_none (by omega)]
theorem Sl.sub (h:Sl s v l) (hs:Sub s s'):Sl s' v l:=by
 rcases h with h | ⟨b,o,cap,h1,h2,h3⟩
 ·exact .inl h
 ·refine .inr ⟨b,o,cap,h1,h2,λhl=>?_⟩
  obtain ⟨t,e,cs,q1,q2⟩:=h3 hl
  exact ⟨t,e,cs,hs _ _ q1,q2⟩
theorem Sl.keep {fp:Nat→Prop} (h:Sl s v l) (hs:qAg fp s s') (hn:∀ b o n c,v=.slc b o n c 1→l≠[]→¬ fp b):Sl s' v l:=by
 rcases h with h | ⟨b,o,cap,h1,h2,h3⟩
 ·exact .inl h
 ·refine .inr ⟨b,o,cap,h1,h2,λhl=>?_⟩
  obtain ⟨t,e,cs,q1,q2⟩:=h3 hl
  exact ⟨t,e,cs,hs _ _ q1 (hn b o _ cap h1 hl),q2⟩
theorem Sl.mk {b:Nat} {t:Bool} {e:TypeId} {n:Nat} {cap:Option Nat} (h:s b=some (t,.cells e l)) (hn:n=l.length) (hc:∀ c,cap=some c→l.length≤c):Sl s (.slc b 0 n cap 1) l:=by
 subst hn
 exact .inr ⟨b,0,cap,rfl,hc,λ_=>⟨t,e,l,h,by omega,λi _=>by rw [zA]⟩⟩
def Acc (elem:TypeId) (s0 s:Hq) (v:AV) (l:List AV):Prop:=(v=.nilslc∧l=[])∨∃ b,s0 b=none∧v=.slc b 0 l.length none 1∧s b=some (false,.cells elem l)
theorem Acc.sl {elem:TypeId} {s0:Hq} (h:Acc elem s0 s v l):Sl s v l:=by
 rcases h with h | ⟨b,_,rfl,h⟩
 ·exact .inl h
 ·exact Sl.mk h rfl (by simp)
theorem Acc.app {elem:TypeId} {s0:Hq} {y:AV} {m:List AV} {K:AV→Hq→Prop} (h:Acc elem s0 s v l) (hy:Sl s y m) (hm:m≠[]) (hl:l.length+m.length≤16777216) (hdom:∀ i,s0 i≠none→s i≠none)
  (hK:∀ v' s',Acc elem s0 s' v' (l ++ m)→(∀ i e,s i=some e→(∀ b,v=.slc b 0 l.length none 1→i≠b)→s' i=some e)→K v' s'):appK elem 1 v y K s:=by
 obtain ⟨k,hk⟩:∃ k,m.length=k+1:=by cases m with | nil=>exact absurd rfl hm | cons a r=>exact ⟨r.length,rfl⟩
 refine qAW hy.rd (qAW hy.len ?_)
 rcases h with ⟨rfl,rfl⟩ | ⟨b,hb0,rfl,hb⟩
 ·simp only
  rw [hk]
  refine ⟨by simp at hl;omega,qAS λc s1 hc h1 u1=>hK _ _ (.inr ⟨c,?_,?_,by simpa using h1⟩) λi e hi _=>u1.at hi hc⟩
  ·cases q:s0 c with
   | none=>rfl
   | some x=>exact absurd hc (hdom c (by rw [q];simp))
  ·simp [hk]
 ·refine ⟨rfl,?_⟩
  simp only
  rw [hk]
  simp only
  refine qAW (Sl.rd (Sl.mk (l:=l) hb rfl (by simp))) ?_
  unfold qQa
  rw [hb]
  refine ⟨rfl,by omega,qAS λc s1 hc h1 u1=>hK _ _ (.inr ⟨c,?_,by simp [hk],h1⟩) λi e hi hib=>?_⟩
  ·by_cases e:c=b
   ·rw [e];exact hb0
   ·have hc':s c=none:=by rw [← hc];exact (if_neg e).symm
    cases q:s0 c with
    | none=>rfl
    | some x=>exact absurd hc' (hdom c (by rw [q];simp))
  ·have hne:=hib b rfl
   have:hdel s b i=some e:=by rw [← hi];exact if_neg hne
   exact u1.at this hc
theorem qIJ {elem:TypeId} {b:Nat} {y:AV} {m:List AV} {K:AV→Hq→Prop} (hy:Sl s y m) (hl:m.length≤16777216)
  (hK:∀ v' s',Sub s s'→(m=[]→v'=.slc b 0 0 (some 0) 1)→(m≠[]→∃ c,s c=none∧v'=.slc c 0 m.length none 1∧s' c=some (false,.cells elem m))→K v' s'):appK elem 1 (.slc b 0 0 (some 0) 1) y K s:=by
 refine qAW hy.rd (qAW hy.len ⟨rfl,?_⟩)
 cases m with
 | nil=>exact ⟨Nat.le_refl _,hK _ _ (.refl _) (λ_=>rfl) (λh=>absurd rfl h)⟩
 | cons x r=>
   have e0:Nat.ble (0+(r.length+1)) 0=false:=by rw [zA];rfl
   simp only [List.length_cons,e0,cond_false]
   refine qAW (a:=[]) rfl ⟨by simp at hl;omega,qAS λc s1 hc h1 u1=>hK _ _ (u1.sub hc) (by simp) λ_=>⟨c,hc,by simp,by simpa using h1⟩⟩
theorem qFG {elem:TypeId} {z v:AV} {K:Nat→Hq→Prop} (hz:z.one=true) (hv:v.one=true) (hK:∀ b s',s b=none→s' b=some (false,.cells elem [v])→Upto b s s'→K b s') :
  oK (qA2 (repl 1 [z]) [(0,1,v)]) λc=>qAb c=true∧newK elem c K s:=by
 refine qAW (a:=[v]) ?_ ⟨by simp [hv],qAS hK⟩
 show cond (Nat.beq v.cells.length 1&&Nat.ble (0+v.cells.length) 1) (qA2 (qAu [z] 0 v.cells) []) none=_
 rw [qBk hv]
 rfl
theorem qFE (z:AV):∀ n,repl n [z]=List.replicate n z
 | 0=>rfl
 | n+1=>by rw [repl,qFE z n];rfl
end Go.AM
namespace Go.AM
open Go
section
variable {P:Program} {s:Hq} {d:Nat} {t e:TypeId} {v:AV}
theorem qUL {k:IntKind} (hu:P.underlying t=some (.int k)) (h:Arg P s (d+1) t v):∃ n,v=.int k n∧(Lit.int k n).wf=true:=by
 obtain ⟨h1,_,h3⟩:=h
 have:qDX P t≠some true:=by unfold qDX;rw [hu];simp
 rw [h3 this] at h1
 unfold Inp at h1
 simp only [hu] at h1
 obtain ⟨n,e,hn⟩:=h1
 exact ⟨n,by simpa using e,hn⟩
theorem qVl (hu:P.underlying t=some (.slice e)) (hc:P.cellsOf e=1) {A:Type} (f:A→AV) (Q:A→Prop) (he:∀ xs,Inp P s d e xs→∃ a,xs=[f a]∧Q a) {xs:List AV} (h:Inp P s (d+1) t xs):∃ v,xs=[v]∧∃ l:List A,Sl s v (l.map f)∧(∀ a∈l,Q a)∧l.length≤maxLen:=by
 unfold Inp at h
 simp only [hu] at h
 rcases h with rfl | ⟨b,len,cap,rfl,h1,h2,h3⟩
 ·exact ⟨_,rfl,[],.inl ⟨rfl,rfl⟩,by simp,by simp⟩
 ·refine ⟨_,rfl,?_⟩
  rw [hc] at h3 ⊢
  by_cases hz:cap=0
  ·subst hz
   have:len=0:=by omega
   subst this
   exact ⟨[],.inr ⟨b,0,some 0,rfl,by simp,by simp⟩,by simp,by simp⟩
  ·obtain ⟨el,l,g1,g2,g3⟩:=h3 (by omega)
   simp only [Nat.mul_one] at g2 g3
   have each:∀ i,i < cap→∃ a,l[i]?=some (f a)∧Q a:=by
    intro i hi
    obtain ⟨a,q1,q2⟩:=he _ (g3 i hi)
    refine ⟨a,?_,q2⟩
    have:=congrArg (λr:List AV=>r[0]?) q1
    simpa [List.getElem?_take,List.getElem?_drop] using this
   have mk:∀ n,n≤cap→∃ r:List A,r.length=n∧(∀ i,i < n→l[i]?=(r.map f)[i]?)∧∀ a∈r,Q a:=by
    intro n
    induction n with
    | zero=>exact λ_=>⟨[],rfl,by simp,by simp⟩
    | succ n ih=>
      intro hn
      obtain ⟨r,r1,r2,r3⟩:=ih (by omega)
      obtain ⟨a,a1,a2⟩:=each n (by omega)
      refine ⟨r ++ [a],by simp [r1],λi hi=>?_,λb hb=>?_⟩
      ·by_cases e:i=n
       ·subst e;rw [a1];simp [← r1]
       ·rw [r2 i (by omega)];simp [List.getElem?_append,r1,show i < n by omega]
      ·rcases mP hb with hb | hb
       ·exact r3 b hb
       ·rw [List.mem_singleton.1 hb];exact a2
   obtain ⟨r,r1,r2,r3⟩:=mk len h1
   refine ⟨r,.inr ⟨b,0,some cap,by simp [r1],by simp [r1];exact h1,λ_=>⟨true,el,l,g1,by simp [r1];omega,λi hi=>?_⟩⟩,r3,by omega⟩
   rw [zA]
   exact r2 i (by simpa [r1] using hi)
theorem qB4 {k:IntKind} (hu:P.underlying t=some (.int k)) {xs:List AV} (h:Inp P s (d+1) t xs):∃ n,xs=[.int k n]∧(Lit.int k n).wf=true:=by
 unfold Inp at h
 simp only [hu] at h
 exact h
theorem qXE (hu:P.underlying t=some .bool) {xs:List AV} (h:Inp P s (d+1) t xs):∃ b,xs=[.bool b]∧True:=by
 unfold Inp at h
 simp only [hu] at h
 obtain ⟨b,h⟩:=h
 exact ⟨b,h,trivial⟩
end
theorem bd64 {n:Int} (h:(Lit.int .i64 n).wf=true):-9223372036854775808≤n∧n≤9223372036854775807:=by
 have:IntKind.i64.wrap n=n∨True:=.inr trivial
 unfold Lit.wf at h
 simpa [IntKind.min,IntKind.max,IntKind.bits,IntKind.signed] using h
end Go.AM
namespace Go.AM
open Go Go.RowKit Go.ChangeShapes Go.WideShapes Go.ChangeAt
section
variable {H:Type}
end
end Go.AM
namespace Go.AM
open Go
noncomputable section
def path (i:Nat):List Bool:=Nat.rec (motive:=λ_=>Nat→List Bool) (λ_=>[]) (λ_ ih i=>Nat.rec (motive:=λ_=>List Bool) [] (λj _=>Nat.beq (Nat.mod j 2) 0 :: ih (Nat.div j 2)) i) (Nat.succ i) i
def zABl {α:Type} (v:Option α) (gl gr:List Bool→Option α) (p:List Bool):Option α:=
 List.rec (motive:=λ_=>Option α) v (λb p _=>Bool.rec (motive:=λ_=>Option α) (gr p) (gl p) b) p
def gNil {α:Type} (_:List Bool):Option α:=none
def Tr.getP {α:Type} (t:Tr α):List Bool→Option α:=Tr.rec (motive:=λ_=>List Bool→Option α) gNil (λv _ _ gl gr=>zABl v gl gr) t
def Tr.getR {α:Type} (t:Tr α) (i:Nat):Option α:=t.getP (path i)
def zABz {α:Type} (x:Option α) (t:Tr α):Tr α:=Tr.rec (motive:=λ_=>Tr α) (.node x .nil .nil) (λ_ l r _ _=>.node x l r) t
def pNil {α:Type} (ih:Tr α→Tr α) (b:Bool):Tr α:=Bool.rec (motive:=λ_=>Tr α) (.node none .nil (ih .nil)) (.node none (ih .nil) .nil) b
def zAB0 {α:Type} (ih:Tr α→Tr α) (b:Bool) (v:Option α) (l r:Tr α):Tr α:=Bool.rec (motive:=λ_=>Tr α) (.node v l (ih r)) (.node v (ih l) r) b
def zABt {α:Type} (ih:Tr α→Tr α) (b:Bool) (t:Tr α):Tr α:=Tr.rec (motive:=λ_=>Tr α) (pNil ih b) (λv l r _ _=>zAB0 ih b v l r) t
def Tr.putP {α:Type} (x:Option α) (p:List Bool):Tr α→Tr α:=List.rec (motive:=λ_=>Tr α→Tr α) (zABz x) (λb _ ih=>zABt ih b) p
def Tr.putR {α:Type} (t:Tr α) (i:Nat) (x:Option α):Tr α:=Tr.putP x (path i) t
def qUJ (f i:Nat):List Bool:=Nat.rec (motive:=λ_=>Nat→List Bool) (λ_=>[]) (λ_ ih i=>Nat.rec (motive:=λ_=>List Bool) [] (λj _=>Nat.beq (Nat.mod j 2) 0 :: ih (Nat.div j 2)) i) f i
theorem qLo (f j:Nat):qUJ (f+1) (j+1)=Nat.beq (j % 2) 0 :: qUJ f (j / 2):=rfl
theorem qTO:∀ (f g i:Nat),i < f→i < g→qUJ f i=qUJ g i:=by
 intro f
 induction f with
 | zero=>intro g i h;omega
 | succ f ih=>
   intro g i hf hg
   cases g with
   | zero=>omega
   | succ g=>
     cases i with
     | zero=>rfl
     | succ j=>rw [qLo,qLo,ih g (j / 2) (by omega) (by omega)]
theorem qUD (i:Nat):path i=qUJ (i+1) i:=rfl
theorem qPr (j:Nat):path (j+1)=Nat.beq (j % 2) 0 :: path (j / 2):=by
 rw [qUD,qLo,qUD,qTO (j+1) (j / 2+1) (j / 2) (by omega) (by omega)]
def Tr.listR {α:Type} (t:Tr α) (i:Nat) (l:List α):Tr α:=List.rec (motive:=λ_=>Tr α→Nat→Tr α) (λt _=>t) (λx _ ih t i=>ih (t.putR i (some x)) (Nat.succ i)) l t i
theorem Tr.getR_eq {α:Type} (t:Tr α) (i:Nat):t.getR i=t.get i:=by
 unfold Tr.getR
 induction t generalizing i with
 | nil=>exact (Tr.get_nil i).symm
 | node v l r ihl ihr=>
   cases i with
   | zero=>rfl
   | succ j=>
     rw [qPr]
     show Bool.rec (motive:=λ_=>Option α) (r.getP (path (j / 2))) (l.getP (path (j / 2))) (Nat.beq (j % 2) 0)=_
     simp only [Tr.get]
     cases Nat.beq (j % 2) 0
     ·exact ihr _
     ·exact ihl _
theorem Tr.putP_eq {α:Type} (x:Option α):∀ (f:Nat) (t:Tr α) (i:Nat),i < f→Tr.putP x (path i) t=Tr.setF f t i x:=by
 intro f
 induction f with
 | zero=>intro t i h;omega
 | succ f ih=>
   intro t i h
   cases i with
   | zero=>cases t <;> rfl
   | succ j=>
     have h2:j / 2 < f:=by omega
     rw [qPr]
     cases t with
     | nil=>
       show Bool.rec (motive:=λ_=>Tr α) (.node none .nil (Tr.putP x (path (j / 2)) .nil)) (.node none (Tr.putP x (path (j / 2)) .nil) .nil) (Nat.beq (j % 2) 0)=cond (Nat.beq (j % 2) 0) (.node none (Tr.setF f .nil (j / 2) x) .nil) (.node none .nil (Tr.setF f .nil (j / 2) x))
       rw [ih .nil (j / 2) h2]
       cases Nat.beq (j % 2) 0 <;> rfl
     | node v l r=>
       show Bool.rec (motive:=λ_=>Tr α) (.node v l (Tr.putP x (path (j / 2)) r)) (.node v (Tr.putP x (path (j / 2)) l) r) (Nat.beq (j % 2) 0)=cond (Nat.beq (j % 2) 0) (.node v (Tr.setF f l (j / 2) x) r) (.node v l (Tr.setF f r (j / 2) x))
       rw [ih l (j / 2) h2,ih r (j / 2) h2]
       cases Nat.beq (j % 2) 0 <;> rfl
theorem Tr.putR_eq {α:Type} (t:Tr α) (i:Nat) (x:Option α):t.putR i x=t.put i x:=Tr.putP_eq x (i+1) t i (by omega)
theorem Tr.listR_eq {α:Type} (l:List α):∀ (t:Tr α) (i:Nat),t.listR i l=Tr.ofListAt t i l:=by
 induction l with
 | nil=>intro t i;rfl
 | cons x xs ih=>intro t i;show Tr.listR _ _ xs=_;rw [ih,Tr.putR_eq];rfl
def bdR {α β:Type} (m:Option (α × AH)) (f:α→AH→Option (β × AH)):Option (β × AH):=Option.rec (motive:=λ_=>Option (β × AH)) none (λp=>Prod.rec (motive:=λ_=>Option (β × AH)) f p) m
theorem qPv {α β:Type} (m:M α) (f:α→M β) (H:AH):bdR (m H) (λa H=>f a H)=bd m f H:=by
 unfold bd
 cases m H with
 | none=>rfl
 | some p=>rfl
theorem qHt {α β:Type} (m:M α) (f:α→M β) (H:AH) (g:α→AH→Option (β × AH)) (h:∀ a K,g a K=f a K):bdR (m H) g=bd m f H:=by
 rw [← qPv,show g=λa K=>f a K from funext λa=>funext λK=>h a K]
def orU (o:Option AV):Option AV:=Option.rec (motive:=λ_=>Option AV) (some .undef) some o
structure XB where
 f:Tmps→Option AV
def xT (t:Nat) (T:Tmps):Option AV:=orU (T.getR t)
def xK (o:Option AV) (_:Tmps):Option AV:=o
def xb (x:Operand):XB:=match x with
 | .tmp t=>⟨xT t⟩
 | .const v=>⟨xK (ofV 2 v)⟩
 | .func f=>⟨xK (some (.fn (.func f) [] []))⟩
 | .global _=>⟨xK none⟩
def evR (T:Tmps) (x:Operand):Option AV:=XB.rec (motive:=λ_=>Option AV) (λf=>f T) (xb x)
theorem qFw (T:Tmps) (x:Operand):evR T x=ev T x:=by
 cases x with
 | tmp t=>show orU (T.getR t)=_;rw [Tr.getR_eq];unfold ev;simp only;cases T.get t <;> rfl
 | _=>rfl
def evsR (T:Tmps) (l:List Operand):Option (List AV):=List.rec (motive:=λ_=>Option (List AV)) (some []) (λx _ ih=>Option.rec (motive:=λ_=>Option (List AV)) none (λv=>Option.rec (motive:=λ_=>Option (List AV)) none (λvs=>some (v :: vs)) ih) (evR T x)) l
theorem qRV (T:Tmps) (l:List Operand):evsR T l=evs T l:=by
 induction l with
 | nil=>rfl
 | cons x xs ih=>
   show Option.rec (motive:=λ_=>Option (List AV)) none (λv=>Option.rec (motive:=λ_=>Option (List AV)) none (λvs=>some (v :: vs)) (evsR T xs)) (evR T x)=_
   rw [ih,qFw]
   cases h1:ev T x with
   | none=>simp [evs,h1]
   | some v=>cases h2:evs T xs <;> simp [evs,h1,h2]
def rdR (id:Nat) (H:AH):Option (ABlk × AH):=AH.rec (motive:=λ_=>Option (ABlk × AH)) (λblks next lo log=>Option.rec (motive:=λ_=>Option (ABlk × AH)) none (λb=>some (b,⟨blks,next,lo,(id,false) :: log⟩)) (blks.getR id)) H
theorem qUF (id:Nat) (H:AH):rdR id H=rd id H:=by
 obtain ⟨blks,next,lo,log⟩:=H
 show Option.rec (motive:=λ_=>Option (ABlk × AH)) none _ (blks.getR id)=_
 rw [Tr.getR_eq]
 unfold rd
 simp only
 cases blks.get id <;> rfl
def wrR (id:Nat) (b:ABlk) (H:AH):Option (Unit × AH):=AH.rec (motive:=λ_=>Option (Unit × AH)) (λblks next lo log=>Bool.rec (motive:=λ_=>Option (Unit × AH)) none (Option.rec (motive:=λ_=>Option (Unit × AH)) none (λ_=>some ((),⟨blks.putR id (some b),next,lo,(id,true) :: log⟩)) (blks.getR id)) (Nat.ble lo id)) H
theorem zABR (id:Nat) (b:ABlk) (H:AH):wrR id b H=wr id b H:=by
 obtain ⟨blks,next,lo,log⟩:=H
 show Bool.rec (motive:=λ_=>Option (Unit × AH)) none (Option.rec (motive:=λ_=>Option (Unit × AH)) none (λ_=>some ((),AH.mk (blks.putR id (some b)) next lo ((id,true) :: log))) (blks.getR id)) (Nat.ble lo id)=_
 rw [Tr.getR_eq,Tr.putR_eq]
 unfold wr
 simp only
 cases Nat.ble lo id with
 | false=>rfl
 | true=>cases blks.get id <;> rfl
def fN {β:Type} (k:Nat→β) (n:Nat):β:=Nat.rec (motive:=λ_=>β) (k 0) (λm _=>k (m+1)) n
theorem qXy {β:Type} (k:Nat→β) (n:Nat):fN k n=k n:=by cases n <;> rfl
def fI {β:Type} (k:Int→β) (n:Int):β:=Int.rec (motive:=λ_=>β) (λa=>fN (λa=>k (.ofNat a)) a) (λa=>fN (λa=>k (.negSucc a)) a) n
theorem zABC {β:Type} (k:Int→β) (n:Int):fI k n=k n:=by
 cases n with
 | ofNat a=>exact qXy (λa=>k (.ofNat a)) a
 | negSucc a=>exact qXy (λa=>k (.negSucc a)) a
def nwR (b:ABlk) (H:AH):Option (Nat × AH):=AH.rec (motive:=λ_=>Option (Nat × AH)) (λblks next lo log=>fN (λn=>Bool.rec (motive:=λ_=>Option (Nat × AH)) none (some (n,⟨blks.putR n (some b),Nat.succ n,lo,(n,true) :: log⟩)) (Nat.ble lo n)) next) H
theorem zABI (b:ABlk) (H:AH):nwR b H=nw b H:=by
 obtain ⟨blks,next,lo,log⟩:=H
 unfold nwR nw
 simp only [qA6,qXy,Tr.putR_eq]
 cases Nat.ble lo next <;> rfl
def qPg (l:List AV):Bool:=List.rec (motive:=λ_=>Bool) true (λv _ ih=>Bool.rec (motive:=λ_=>Bool) false ih v.one) l
theorem qON (l:List AV):qPg l=qAb l:=by
 induction l with
 | nil=>rfl
 | cons v vs ih=>
   show Bool.rec (motive:=λ_=>Bool) false (qPg vs) v.one=_
   rw [ih]
   cases h:v.one <;> simp [qAb,h]
def lenR (l:List AV):Nat:=List.rec (motive:=λ_=>Nat) 0 (λ_ _ ih=>Nat.succ ih) l
theorem qPC (l:List AV):lenR l=l.length:=by
 induction l with
 | nil=>rfl
 | cons v vs ih=>show Nat.succ (lenR vs)=_;rw [ih];rfl
def qNK (elem:TypeId) (cs:List AV) (H:AH):Option (Nat × AH):=Bool.rec (motive:=λ_=>Option (Nat × AH)) none (nwR (.cells elem (Tr.listR .nil 0 cs) (lenR cs)) H) (qPg cs)
theorem qQW (elem:TypeId) (cs:List AV) (H:AH):qNK elem cs H=qB0 elem cs H:=by
 unfold qNK qB0
 rw [qON,zABI,Tr.listR_eq,qPC]
 cases qAb cs <;> rfl
def qVw (c:Tr AV) (n:Nat):Nat→Option (List AV):=Nat.rec (motive:=λ_=>Nat→Option (List AV)) (λ_=>some []) (λ_ ih o=>Option.rec (motive:=λ_=>Option (List AV)) none (λv=>Option.rec (motive:=λ_=>Option (List AV)) none (λvs=>some (v :: vs)) (ih (Nat.succ o))) (c.getR o)) n
theorem qUs (c:Tr AV) (n:Nat):∀ o,qVw c n o=qEy c o n:=by
 induction n with
 | zero=>intro o;rfl
 | succ n ih=>
   intro o
   show Option.rec (motive:=λ_=>Option (List AV)) none (λv=>Option.rec (motive:=λ_=>Option (List AV)) none (λvs=>some (v :: vs)) (qVw c n (Nat.succ o))) (c.getR o)=_
   rw [ih,Tr.getR_eq]
   cases h1:c.get o with
   | none=>simp [qEy,h1]
   | some v=>cases h2:qEy c (o+1) n <;> simp [qEy,h1,h2]
def qXx (o:Nat) (b:ABlk) (H:AH):Option (AV × AH):=match b with
 | .cells _ c _=>Option.rec (motive:=λ_=>Option (AV × AH)) none (λv=>some (v,H)) (c.getR o)
 | _=>none
def qXQ (o n:Nat) (b:ABlk) (H:AH):Option (AV × AH):=match b with
 | .cells _ c _=>Option.rec (motive:=λ_=>Option (AV × AH)) none (λl=>some (.agg l,H)) (qVw c n o)
 | _=>none
def qSk (P:Program) (t:TypeId):Nat:=match qDX P t with
 | some true=>match sz P t with
   | some n=>n+2
   | none=>0
 | some false=>1
 | none=>0
def zABk (b o:Nat) (H:AH) (k:Nat):Option (AV × AH):=Nat.rec (motive:=λ_=>Option (AV × AH)) none (λk _=>Nat.rec (motive:=λ_=>Option (AV × AH)) (bdR (rdR b H) (qXx o)) (λn _=>bdR (rdR b H) (qXQ o n)) k) k
def qWg (P:Program) (t:TypeId) (b o:Nat) (H:AH):Option (AV × AH):=zABk b o H (qSk P t)
theorem qW5 (P:Program) (t:TypeId) (b o:Nat) (H:AH):qWg P t b o H=qFa P t b o H:=by
 unfold qWg qSk qFa
 cases qDX P t with
 | none=>rfl
 | some g=>
   cases g with
   | true=>
     simp only
     cases sz P t with
     | none=>rfl
     | some n=>
       show bdR (rdR b H) (qXQ o n)=bd (qCk b o n) (λl=>ret (.agg l)) H
       rw [qUF]
       unfold qCk bd
       cases rd b H with
       | none=>rfl
       | some p=>
         obtain ⟨blk,K⟩:=p
         show qXQ o n blk K=_
         cases blk with
         | cells e c m=>simp only [qXQ,qUs,lift];cases qEy c o n <;> rfl
         | _=>rfl
   | false=>
     show bdR (rdR b H) (qXx o)=bd (rd b) (λblk=>match blk with
      | .cells _ c _=>lift (c.get o)
      | _=>fail) H
     rw [qUF]
     unfold bd
     cases rd b H with
     | none=>rfl
     | some p=>
       obtain ⟨blk,K⟩:=p
       show qXx o blk K=_
       cases blk with
       | cells e c m=>simp only [qXx,Tr.getR_eq,lift];cases c.get o <;> rfl
       | _=>rfl
def qQ4 (b o:Nat) (vs:List AV) (blk:ABlk) (H:AH):Option (Unit × AH):=match blk with
 | .cells e c n=>Bool.rec (motive:=λ_=>Option (Unit × AH)) none (wrR b (.cells e (Tr.listR c o vs) n) H) (Bool.rec (motive:=λ_=>Bool) false (qPg vs) (Nat.ble (Nat.add o (lenR vs)) n))
 | _=>none
def qKY (b o:Nat) (vs:List AV) (H:AH):Option (Unit × AH):=bdR (rdR b H) (qQ4 b o vs)
theorem qN3 (b o:Nat) (vs:List AV) (H:AH):qKY b o vs H=qCR b o vs H:=by
 unfold qKY qCR bd
 rw [qUF]
 cases rd b H with
 | none=>rfl
 | some p=>
   obtain ⟨blk,K⟩:=p
   show qQ4 b o vs blk K=_
   cases blk with
   | cells e c n=>
     simp only [qQ4,qON,qPC,zABR,Tr.listR_eq]
     show Bool.rec (motive:=λ_=>Option (Unit × AH)) none _ (Bool.rec (motive:=λ_=>Bool) false (qAb vs) (Nat.ble (o+vs.length) n))=_
     cases Nat.ble (o+vs.length) n with
     | false=>rfl
     | true=>cases qAb vs <;> rfl
   | _=>rfl
def qVD (n:Nat) (p:AV) (cs:List AV) (H:AH):Option (Unit × AH):=match p with
 | .ptr b o=>Bool.rec (motive:=λ_=>Option (Unit × AH)) none (qKY b o cs H) (Nat.beq (lenR cs) n)
 | _=>none
def qSS (P:Program) (t:TypeId) (p v:AV) (H:AH):Option (Unit × AH):=Option.rec (motive:=λ_=>Option (Unit × AH)) none (λn=>qVD n p v.cells H) (sz P t)
theorem qUG (P:Program) (t:TypeId) (p v:AV) (H:AH):qSS P t p v H=qJd P t p v H:=by
 unfold qSS qJd
 cases sz P t with
 | none=>cases p <;> rfl
 | some n=>
   show qVD n p v.cells H=_
   cases p with
   | ptr b o=>
     simp only [qVD,qPC,qN3]
     cases Nat.beq v.cells.length n <;> rfl
   | _=>rfl
def vN (r:Option (AV × AH)):Option (ANext × AH):=bdR r λv H=>some (.val v,H)
theorem qXb (m:M AV) (H:AH):vN (m H)=bd m (λx=>ret (.val x)) H:=qPv m (λx=>ret (ANext.val x)) H
def uN (r:Option (Unit × AH)):Option (ANext × AH):=bdR r λ_ H=>some (.val .undef,H)
theorem zABw (m:M Unit) (H:AH):uN (m H)=bd m (λ_=>ret (.val .undef)) H:=qPv m (λ_=>ret (ANext.val .undef)) H
def oN {α:Type} (o:Option α) (k:α→Option (ANext × AH)):Option (ANext × AH):=Option.rec (motive:=λ_=>Option (ANext × AH)) none k o
def lN (H:AH) (o:Option AV):Option (ANext × AH):=oN o λb=>some (.val b,H)
abbrev OpF:=Program→Tmps→AH→Option (ANext × AH)
def qXk (x:Operand):OpF:=λ_ T H=>lN H (evR T x)
def zAAS (c a b:Operand):OpF:=λ_ T H=>match evR T c with
 | some (.bool t)=>cond t (lN H (evR T a)) (lN H (evR T b))
 | _=>none
def qSo (t:TypeId) (z:AV) (H:AH):Option (ANext × AH):=bdR (qNK t z.cells H) λid H=>some (.val (.ptr id 0),H)
def qYK (t:TypeId):OpF:=λP _ H=>oN (qEp P t) λz=>qSo t z H
def oBox (t:TypeId) (x:Operand):OpF:=λ_ T H=>oN (evR T x) λv=>qSo t v H
def qYI (t:TypeId) (ps:Array (Nat × Operand)):OpF:=λP T H=>oN (qDn T ps.toList) λl=>lN H (qOV P t l)
def qMo (t:TypeId) (n:Nat) (ps:Array (Nat × Operand)):OpF:=λP T H=>oN (qDn T ps.toList) λl=>vN (qD8 P t n l H)
def zABU (P:Program) (t:TypeId) (H:AH) (p:AV):Option (ANext × AH):=match p with
 | .ptr b o=>vN (qWg P t b o H)
 | _=>none
def zABq (t:TypeId) (a:Operand):OpF:=match a with
 | .global g=>λP T H=>opA P T (.load t (.global g)) H
 | a=>λP T H=>oN (evR T a) (zABU P t H)
def qYX (t:TypeId) (a x:Operand):OpF:=λP T H=>oN (evR T a) λp=>oN (evR T x) λv=>uN (qSS P t p v H)
def oNil (x:Operand):OpF:=λ_ T H=>oN (evR T x) λa=>lN H (qAH a)
def cmpA (b:Bool):Option AV:=some (.bool b)
def arI (k:IntKind) (n:Int):Option AV:=fI (λn=>fI (λn=>some (.int k n)) (qB7 k n)) n
def qO2 (op:BinOp):IntKind→Int→Int→Option AV:=match op with
 | .add=>λk x y=>arI k (Int.add x y)
 | .sub=>λk x y=>arI k (Int.sub x y)
 | .mul=>λk x y=>arI k (Int.mul x y)
 | .eql=>λ_ x y=>cmpA (eqI x y)
 | .neq=>λ_ x y=>cmpA (!eqI x y)
 | .lss=>λ_ x y=>cmpA (ltI x y)
 | .leq=>λ_ x y=>cmpA (!ltI y x)
 | .gtr=>λ_ x y=>cmpA (ltI y x)
 | .geq=>λ_ x y=>cmpA (!ltI x y)
 | op=>arith op
def qV7 (op:BinOp):Program→TypeId→Operand→Operand→AV→AV→Option AV:=match op with
 | .eql=>λP t x y a b=>cond (qCY P t x y a b) ((aEq P 30 t a b).map .bool) none
 | .neq=>λP t x y a b=>cond (qCY P t x y a b) ((aEq P 30 t a b).map λr=>.bool !r) none
 | _=>λ_ _ _ _ _ _=>none
def zABV (op:BinOp) (k:IntKind) (m:Int) (k':IntKind) (n:Int):Option AV:=cond (qCQ k k') (qO2 op k m n) none
def qYY (op:BinOp):IntKind→Int→IntKind→Int→Option AV:=match op with
 | .shl=>λk m _ n=>qMs .shl k m n
 | .shr=>λk m _ n=>qMs .shr k m n
 | op=>zABV op
def binI (P:Program) (op:BinOp) (t:TypeId) (x y:Operand) (k:IntKind) (m:Int) (b:AV):Option AV:=match b with
 | .int k' n=>qYY op k m k' n
 | b=>qV7 op P t x y (.int k m) b
def binF (P:Program) (op:BinOp) (t:TypeId) (x y:Operand) (a b:AV):Option AV:=match a with
 | .int k m=>binI P op t x y k m b
 | a=>qV7 op P t x y a b
def oBin (op:BinOp) (t:TypeId) (x y:Operand):OpF:=λP T H=>oN (evR T x) λa=>oN (evR T y) λb=>lN H (binF P op t x y a b)
def oUn (op:UnOp) (x:Operand):OpF:=λ_ T H=>oN (evR T x) λa=>lN H (qBd op a)
def qXu (s d:TypeId) (x:Operand):OpF:=λP T H=>oN (evR T x) λa=>lN H (qF1 P s d a)
def zAAd (t:TypeId) (x:Operand):OpF:=λP T H=>oN (evR T x) λa=>lN H (qF9 P t a)
def zABZ (t:TypeId) (x:Operand) (f:Nat):OpF:=λP T H=>oN (evR T x) λa=>lN H (qOc P t a f)
def offF (P:Program) (s:TypeId) (f:Nat):Option Nat:=match P.underlying s with
 | some (.struct fields)=>match fields[f]? with
   | some fd=>match sz P fd.type with
     | some (_+1)=>some fd.offset
     | _=>none
   | none=>none
 | _=>none
def addO (H:AH) (k:Nat) (p:AV):Option (ANext × AH):=match p with
 | .ptr b o=>fN (λq=>some (.val (.ptr b q),H)) (Nat.add o k)
 | _=>none
def qOj (s:TypeId) (x:Operand) (f:Nat):OpF:=λP T H=>oN (evR T x) λa=>oN (offF P s f) λk=>addO H k a
def qTt (t:TypeId) (x i:Operand):OpF:=λP T H=>oN (evR T x) λa=>oN (evR T i) λb=>lN H (qDe P t a b)
def zAAj (t:TypeId) (x i:Operand):OpF:=λP T H=>oN (evR T x) λa=>oN (evR T i) λb=>lN H (qLK P t a b)
def qZq (x:Operand) (a:TypeId) (ok:Bool):OpF:=λP T H=>oN (evR T x) λv=>lN H (qEA P v a ok)
def qXA (x:Operand) (i:Nat):OpF:=λ_ T H=>oN (evR T x) λv=>lN H (qAN v i)
def qTj (t:TypeId) (l c:Operand):OpF:=λP T H=>oN (evR T l) λa=>oN (evR T c) λb=>vN (qEP P t a b H)
def qZ6 (t:TypeId) (x k:Operand) (ok:Bool):OpF:=λP T H=>oN (evR T x) λa=>oN (evR T k) λb=>vN (qE7 P t a b ok H)
def qSY (b:Builtin) (ts:Array TypeId) (as:Array Operand):OpF:=λP T H=>oN (evsR T as.toList) λargs=>vN (qE8 P b ts.toList args H)
def invK (P:Program) (name:String) (args:List AV) (H:AH) (r:AV):Option (ANext × AH):=match r with
 | .ifc t v=>bd (qBq P t v name) (λp=>goA P p.1 (p.2 :: args)) H
 | _=>none
def qUy (r:Operand) (name:String) (as:Array Operand):OpF:=λP T H=>oN (evsR T as.toList) λargs=>oN (evR T r) (invK P name args H)
def valK (P:Program) (args:List AV) (H:AH) (r:AV):Option (ANext × AH):=match r with
 | .fn (.func k) first cap=>goA P k (first ++ args ++ cap) H
 | .fn (.method name) [.ifc t v] _=>bd (qBq P t v name) (λp=>goA P p.1 (p.2 :: args)) H
 | .yield l=>bd (rd l) (λblk=>match blk with
   | .loop _ _ _ _ ps _ _ _=>cond (Nat.beq ps.length args.length) (ret (.round l args)) fail
   | _=>fail) H
 | _=>none
def qYL (f:Operand) (as:Array Operand):OpF:=λP T H=>oN (evsR T as.toList) λargs=>oN (evR T f) (valK P args H)
def qXR (c:Call):OpF:=match c with
 | ⟨.builtin b,as,ts⟩=>qSY b ts as
 | ⟨.invoke r name,as,_⟩=>qUy r name as
 | ⟨.value f,as,_⟩=>qYL f as
structure OB where
 f:OpF
def opB (o:Op):OB:=match o with
 | .move x=>⟨qXk x⟩
 | .assign x=>⟨qXk x⟩
 | .pick c a b=>⟨zAAS c a b⟩
 | .alloc t=>⟨qYK t⟩
 | .box t x=>⟨oBox t x⟩
 | .build t ps=>⟨qYI t ps⟩
 | .buildSlice t n ps=>⟨qMo t n ps⟩
 | .load t a=>⟨zABq t a⟩
 | .store t a x=>⟨qYX t a x⟩
 | .nilCheck x=>⟨oNil x⟩
 | .binOp op t x y _=>⟨oBin op t x y⟩
 | .unOp op _ x=>⟨oUn op x⟩
 | .convert s d x=>⟨qXu s d x⟩
 | .makeInterface t x=>⟨zAAd t x⟩
 | .makeSlice t l c=>⟨qTj t l c⟩
 | .fieldAddr s x f=>⟨qOj s x f⟩
 | .field t x f=>⟨zABZ t x f⟩
 | .indexAddr t x i=>⟨qTt t x i⟩
 | .index t x i=>⟨zAAj t x i⟩
 | .typeAssert x _ a ok=>⟨qZq x a ok⟩
 | .extract x i=>⟨qXA x i⟩
 | .lookup t x k ok=>⟨qZ6 t x k ok⟩
 | .call c=>⟨qXR c⟩
 | o=>⟨λP T=>opA P T o⟩
def qH2 (o:Op):OpF:=λP T H=>OB.rec (motive:=λ_=>Option (ANext × AH)) (λf=>f P T H) (opB o)
theorem qY0 (H:AH) (o:Option AV):lN H o=bd (lift o) (λx=>ret (ANext.val x)) H:=by cases o <;> rfl
theorem e1_l (x:Operand) (f:AV→Option AV) (T:Tmps) (H:AH):(oN (evR T x) λa=>lN H (f a))=(match ev T x with | some a=>bd (lift (f a)) (λx=>ret (ANext.val x)) | none=>fail) H:=by
 rw [qFw]
 cases ev T x with
 | none=>rfl
 | some a=>exact qY0 H (f a)
theorem e2_l (x y:Operand) (f:AV→AV→Option AV) (T:Tmps) (H:AH):(oN (evR T x) λa=>oN (evR T y) λb=>lN H (f a b))=(match ev T x,ev T y with | some a,some b=>bd (lift (f a b)) (λx=>ret (ANext.val x)) | _,_=>fail) H:=by
 rw [qFw,qFw]
 cases ev T x with
 | none=>rfl
 | some a=>
   cases ev T y with
   | none=>rfl
   | some b=>exact qY0 H (f a b)
theorem e2_v (x y:Operand) (f:AV→AV→M AV) (T:Tmps) (H:AH):(oN (evR T x) λa=>oN (evR T y) λb=>vN (f a b H))=(match ev T x,ev T y with | some a,some b=>bd (f a b) (λx=>ret (ANext.val x)) | _,_=>fail) H:=by
 rw [qFw,qFw]
 cases ev T x with
 | none=>rfl
 | some a=>
   cases ev T y with
   | none=>rfl
   | some b=>exact qXb (f a b) H
theorem zAAe (k:IntKind) (n:Int):arI k n=some (.int k (qB7 k n)):=by unfold arI;rw [zABC,zABC]
theorem qSC (op:BinOp) (k:IntKind) (x y:Int):qO2 op k x y=arith op k x y:=by
 cases op <;> first | rfl | (simp only [qO2,zAAe,arith,qDL];rfl)
theorem qZ9 (P:Program) (op:BinOp) (t:TypeId) (x y:Operand) (a b:AV):binF P op t x y a b=binA P op t x y a b:=by
 cases a
 case int k m=>
  cases b
  case int k' n=>cases op <;> simp only [binF,binI,qYY,zABV,binA,qSC] <;> rfl
  all_goals (cases op <;> rfl)
 all_goals (cases op <;> rfl)
theorem qP3 (t:TypeId) (z:AV) (H:AH):qSo t z H=bd (bd (qB0 t z.cells) λid=>ret (.ptr id 0)) (λx=>ret (ANext.val x)) H:=by
 unfold qSo bd
 rw [qQW]
 cases qB0 t z.cells H <;> rfl
theorem qXo (P:Program) (T:Tmps) (H:AH) (o:Op):qH2 o P T H=opA P T o H:=by
 cases o
 case move x=>simp only [qH2,opB,qXk,opA,qFw];cases ev T x <;> rfl
 case assign x=>simp only [qH2,opB,qXk,opA,qFw];cases ev T x <;> rfl
 case pick c a b=>
  simp only [qH2,opB,zAAS,opA,qFw]
  generalize ev T c=v
  cases v with
  | none=>rfl
  | some v=>
    cases v with
    | bool t=>
      cases t
      ·simp only [cond_false];cases ev T b <;> rfl
      ·simp only [cond_true];cases ev T a <;> rfl
    | _=>rfl
 case alloc t=>
  simp only [qH2,opB,qYK,opA,qME]
  cases qEp P t with
  | none=>rfl
  | some z=>exact qP3 t z H
 case box t x=>
  simp only [qH2,opB,oBox,opA,qFw]
  cases ev T x with
  | none=>rfl
  | some v=>exact qP3 t v H
 case build t ps=>
  simp only [qH2,opB,qYI,opA]
  cases qDn T ps.toList with
  | none=>rfl
  | some l=>exact qY0 H _
 case buildSlice t n ps=>
  simp only [qH2,opB,qMo,opA]
  cases qDn T ps.toList with
  | none=>rfl
  | some l=>exact qXb _ H
 case load t a=>
  by_cases hgl:∃ g,a=.global g
  ·obtain ⟨g,rfl⟩:=hgl
   rfl
  have hA:opA P T (.load t a)=(match ev T a with
   | some p=>bd (match p with | .ptr b o=>qFa P t b o | _=>fail) λx=>ret (.val x)
   | none=>fail):=by cases a <;> first | exact absurd ⟨_,rfl⟩ hgl | rfl
  have hB:qH2 (.load t a) P T H=oN (evR T a) (zABU P t H):=by cases a <;> first | exact absurd ⟨_,rfl⟩ hgl | rfl
  rw [hA,hB]
  simp only [qFw]
  cases ev T a with
  | none=>rfl
  | some p=>
    cases p with
    | ptr b o=>show vN (qWg P t b o H)=_;rw [qW5];exact qXb _ H
    | _=>rfl
 case store t a x=>
  simp only [qH2,opB,qYX,opA,qFw]
  cases ev T a with
  | none=>rfl
  | some p=>
    cases ev T x with
    | none=>rfl
    | some v=>show uN (qSS P t p v H)=_;rw [qUG];exact zABw _ H
 case nilCheck x=>exact e1_l x qAH T H
 case binOp op t x y t2=>
  have:=e2_l x y (binA P op t x y) T H
  simp only [qH2,opB,oBin,qZ9]
  exact this
 case unOp op t x=>exact e1_l x (qBd op) T H
 case convert s d x=>exact e1_l x (qF1 P s d) T H
 case makeInterface t x=>exact e1_l x (qF9 P t) T H
 case fieldAddr s x f=>
  have:=e1_l x (λa=>qDG P s a f) T H
  refine Eq.trans ?_ this
  simp only [qH2,opB,qOj,qFw]
  cases ev T x with
  | none=>rfl
  | some a=>
    show oN (offF P s f) (λk=>addO H k a)=lN H (qDG P s a f)
    cases a with
    | ptr b o=>
      unfold offF qDG
      cases hu:P.underlying s with
      | none=>rfl
      | some d=>
        cases d with
        | struct fields=>
          simp only
          cases fields[f]? with
          | none=>rfl
          | some fd=>
            simp only
            cases sz P fd.type with
            | none=>rfl
            | some n=>
              cases n with
              | zero=>rfl
              | succ n=>simp only [qA6,oN,addO,qXy];rfl
        | _=>rfl
    | _=>
      have:∀ v:AV,(∀ b o,v≠.ptr b o)→qDG P s v f=none:=by
       intro v hv
       unfold qDG
       split
       ·exact absurd rfl (hv _ _)
       ·rfl
      rw [this _ (by intro b o h;cases h)]
      cases offF P s f <;> rfl
 case field t x f=>exact e1_l x (λa=>qOc P t a f) T H
 case indexAddr t x i=>exact e2_l x i (qDe P t) T H
 case index t x i=>exact e2_l x i (qLK P t) T H
 case typeAssert x t a ok=>exact e1_l x (λv=>qEA P v a ok) T H
 case extract x i=>exact e1_l x (λv=>qAN v i) T H
 case makeSlice t l c=>exact e2_v l c (qEP P t) T H
 case lookup t x k ok=>exact e2_v x k (λa b=>qE7 P t a b ok) T H
 case call c=>
  obtain ⟨callee,as,ts⟩:=c
  cases callee with
  | value f=>
    simp only [qH2,opB,qXR,qYL,opA,qH9,qFw,qRV]
    cases evs T as.toList with
    | none=>rfl
    | some args=>
      show oN (ev T f) (valK P args H)=_
      simp only
      generalize ev T f=v
      cases v with
      | none=>rfl
      | some v=>
        show valK P args H v=_
        cases v with
        | fn f first cap=>
          cases f with
          | func k=>rfl
          | method n=>
            cases first with
            | nil=>rfl
            | cons y ys=>
              cases ys with
              | nil=>cases y <;> rfl
              | cons z zs=>cases y <;> rfl
          | _=>rfl
        | _=>rfl
  | invoke r n=>
    simp only [qH2,opB,qXR,qUy,opA,qH9,qFw,qRV]
    cases evs T as.toList with
    | none=>rfl
    | some args=>
      show oN (ev T r) (invK P n args H)=_
      simp only
      cases ev T r with
      | none=>rfl
      | some v=>cases v <;> rfl
  | builtin b=>
    simp only [qH2,opB,qXR,qSY,opA,qH9,qRV]
    cases evs T as.toList with
    | none=>rfl
    | some args=>exact qXb _ H
 all_goals rfl
section
variable (P : Program) (ih : Task → M Out)
def outV (o:Out) (H:AH):Option (AV × AH):=match o with
 | .val v=>some (v,H)
 | _=>none
def qTL (x:ANext) (H:AH):Option (AV × AH):=ANext.rec (motive:=λ_=>Option (AV × AH)) (λv=>some (v,H)) (λf args=>bdR (ih (.call f args) H) outV) (λl args=>bdR (ih (.round l args) H) outV) x
theorem qXh (x:ANext) (H:AH):qTL ih x H=qE5 ih x H:=by
 have key:∀ t,bdR (ih t H) outV=outVal (ih t) H:=λt=>by
  refine qHt (ih t) _ H outV λo K=>?_
  cases o <;> rfl
 cases x with
 | val v=>rfl
 | enter f args=>exact key _
 | round l args=>exact key _
def valR (all:List Oper) (op:Op) (g:Option (Nat × Bool)) (T:Tmps) (H:AH):Option (AV × AH):=Option.rec (motive:=λ_=>Option (AV × AH)) (bdR (qH2 op P T H) (qTL ih)) (λg=>match qCT all T (some g) with
 | some true=>bdR (qH2 op P T H) (qTL ih)
 | some false=>some (.undef,H)
 | none=>none) g
def setR (nt:Nat) (T:Tmps) (dst:Option Tmp) (v:AV) (H:AH):Option (Tmps × AH):=Option.rec (motive:=λ_=>Option (Tmps × AH)) (some (T,H)) (λd=>Bool.rec (motive:=λ_=>Option (Tmps × AH)) none (some (T.putR d (some v),H)) (Nat.ble (Nat.succ d) nt)) dst
def oneR (nt:Nat) (all:List Oper) (o:Oper) (T:Tmps) (H:AH):Option (Tmps × AH):=Oper.rec (motive:=λ_=>Option (Tmps × AH)) (λdst op _ _ _ g=>bdR (valR P ih all op g T H) (setR nt T dst)) o
theorem qUB (nt:Nat) (all:List Oper) (o:Oper) (T:Tmps) (H:AH):oneR P ih nt all o T H=qJ5 P ih nt all o T H:=by
 obtain ⟨dst,op,ty,pos,af,g⟩:=o
 have hop:∀ K,bdR (qH2 op P T K) (qTL ih)=bd (opA P T op) (qE5 ih) K:=λK=>by
  rw [qXo]
  exact qHt (opA P T op) (qE5 ih) K (qTL ih) (qXh ih)
 have hv:valR P ih all op g T H=qDc P ih all ⟨dst,op,ty,pos,af,g⟩ T H:=by
  cases g with
  | none=>exact hop H
  | some g=>
    show (match qCT all T (some g) with
     | some true=>bdR (qH2 op P T H) (qTL ih)
     | some false=>some (.undef,H)
     | none=>none)=_
    unfold qDc
    simp only
    cases qCT all T (some g) with
    | none=>rfl
    | some b=>cases b with
      | true=>exact hop H
      | false=>rfl
 show bdR (valR P ih all op g T H) (setR nt T dst)=_
 rw [hv]
 refine qHt _ (λv=>lift (setT nt T dst v)) H _ λv K=>?_
 cases dst with
 | none=>rfl
 | some d=>
   show Bool.rec (motive:=λ_=>Option (Tmps × AH)) none (some (T.putR d (some v),K)) (Nat.ble (d+1) nt)=_
   rw [Tr.putR_eq]
   show _=lift (cond (Nat.ble (d+1) nt) (some (T.put d (some v))) none) K
   cases Nat.ble (d+1) nt <;> rfl
def opsR (nt:Nat) (all l:List Oper):Tmps→AH→Option (Tmps × AH):=List.rec (motive:=λ_=>Tmps→AH→Option (Tmps × AH)) (λT H=>some (T,H)) (λo _ k T H=>bdR (oneR P ih nt all o T H) k) l
theorem qRk (nt:Nat) (all:List Oper):∀ (l:List Oper) (T:Tmps) (H:AH),opsR P ih nt all l T H=opsA P ih nt all l T H
 | [],_,_=>rfl
 | o :: os,T,H=>by
   show bdR (oneR P ih nt all o T H) (opsR P ih nt all os)=_
   rw [qUB]
   exact qHt _ _ H _ λT K=>qRk nt all os T K
def qOG (all:Array Oper) (o:Oper) (mk:Nat):List Oper→Nat→Bool
 | [],_=>true
 | p :: ps,j=>(Nat.testBit mk j||Oper.apart all p o)&&qOG all o mk ps (j+1)
def qJu (all:Array Oper):List Oper→List Nat→List Oper→Bool
 | o :: os,mk :: mks,done=>qOG all o mk done 0&&qJu all os mks (done ++ [o])
 | [],_,_=>true
 | _,_,_=>true
def qOR (mk:Nat) (es:List (Nat × Bool)) (l:List (Nat × List (Nat × Bool))):Bool:=List.rec (motive:=λ_=>Bool) true (λp _ ih=>Bool.rec (motive:=λ_=>Bool) (Bool.rec (motive:=λ_=>Bool) ih false (clash p.2 es)) ih (Nat.testBit mk p.1)) l
def idxE:List (Oper × List (Nat × Bool))→Nat→List (Nat × List (Nat × Bool))
 | [],_=>[]
 | p :: r,i=>match p.2 with
   | []=>idxE r (i+1)
   | e :: es=>(i,e :: es) :: idxE r (i+1)
theorem qQH:∀ es:List (Nat × Bool),clash es []=false
 | []=>rfl
 | e :: es=>by unfold clash;rw [qQH es];rfl
theorem qMC {all:Array Oper} {o:Oper} {mk:Nat} (es:List (Nat × Bool)):∀ (done:List (Oper × List (Nat × Bool))) (i:Nat),qOG all o mk (done.map (·.1)) i=true→against all o mk es done i=qOR mk es (idxE done i)
 | [],_,_=>rfl
 | (p,e) :: r,i,h=>by
   simp only [List.map_cons] at h
   unfold qOG at h
   simp only [Bool.and_eq_true,Bool.or_eq_true] at h
   have ih:=qMC es r (i+1) h.2
   unfold against idxE
   rw [ih]
   cases e with
   | nil=>
     simp only [clash,Bool.not_false,Bool.and_true]
     rcases h.1 with h1 | h1 <;> simp [h1]
   | cons e0 e=>
     show _=Bool.rec (motive:=λ_=>Bool) (Bool.rec (motive:=λ_=>Bool) (qOR mk es (idxE r (i+1))) false (clash (e0 :: e) es)) (qOR mk es (idxE r (i+1))) (Nat.testBit mk i)
     cases ht:Nat.testBit mk i with
     | true=>simp
     | false=>
       have h1:Oper.apart all p o=true:=by rcases h.1 with h1 | h1;rw [h1] at ht;cases ht;exact h1
       simp only [h1,Bool.false_or,Bool.true_and]
       cases clash (e0 :: e) es <;> simp
theorem qNd {all:Array Oper} {o:Oper} {mk:Nat}:∀ (done:List (Oper × List (Nat × Bool))) (i:Nat),qOG all o mk (done.map (·.1)) i=true→against all o mk [] done i=true
 | [],_,_=>rfl
 | (p,e) :: r,i,h=>by
   simp only [List.map_cons] at h
   unfold qOG at h
   simp only [Bool.and_eq_true,Bool.or_eq_true] at h
   unfold against
   rw [qNd r (i+1) h.2,qQH]
   rcases h.1 with h1 | h1 <;> simp [h1]
theorem qQP (o:Oper) (e:List (Nat × Bool)):∀ (d:List (Oper × List (Nat × Bool))) (i:Nat),idxE (d ++ [(o,e)]) i=idxE d i ++ (match e with | []=>[] | a :: es=>[(i+d.length,a :: es)])
 | [],i=>by cases e <;> simp [idxE]
 | (p,e') :: d,i=>by
   have:=qQP o e d (i+1)
   simp only [List.cons_append]
   unfold idxE
   rw [this]
   have hl:i+1+d.length=i+(d.length+1):=by omega
   cases e' <;> cases e <;> simp [hl]
def qVO (os:List Nat→Nat→List (Nat × List (Nat × Bool))→Tmps→AH→Option (Tmps × AH)) (mk:Nat) (mks:List Nat) (n:Nat) (done:List (Nat × List (Nat × Bool))) (T:Tmps) (H:AH) (es:List (Nat × Bool)):Option (Tmps × AH):=
 List.rec (motive:=λ_=>Option (Tmps × AH)) (os mks (Nat.succ n) done T H) (λ_ _ _=>Bool.rec (motive:=λ_=>Option (Tmps × AH)) none (os mks (Nat.succ n) (done ++ [(n,es)]) T H) (qOR mk es done)) es
def zABE (nt:Nat) (allL:List Oper) (o:Oper) (os:List Nat→Nat→List (Nat × List (Nat × Bool))→Tmps→AH→Option (Tmps × AH)) (mks:List Nat) (n:Nat) (done:List (Nat × List (Nat × Bool))) (T:Tmps) (H:AH):Option (Tmps × AH):=
 List.rec (motive:=λ_=>Option (Tmps × AH)) none (λmk mks _=>AH.rec (motive:=λ_=>Option (Tmps × AH)) (λblks next lo log=>bdR (oneR P ih nt allL o T ⟨blks,next,lo,[]⟩) λT K=>AH.rec (motive:=λ_=>Option (Tmps × AH)) (λblks next lo l=>qVO os mk mks n done T ⟨blks,next,lo,l ++ log⟩ l) K) H) mks
def qTx (nt:Nat) (allL:List Oper) (l:List Oper):List Nat→Nat→List (Nat × List (Nat × Bool))→Tmps→AH→Option (Tmps × AH):=
 List.rec (motive:=λ_=>List Nat→Nat→List (Nat × List (Nat × Bool))→Tmps→AH→Option (Tmps × AH)) (λ_ _ _ T H=>some (T,H)) (λo _ os=>zABE P ih nt allL o os) l
theorem qTX (nt:Nat) (allL:List Oper) (o:Oper) (os:List Oper) (mk:Nat) (mks:List Nat) (n:Nat) (d:List (Nat × List (Nat × Bool))) (T:Tmps) (b:Tr ABlk) (nx lo:Nat) (log:List (Nat × Bool)) :
  qTx P ih nt allL (o :: os) (mk :: mks) n d T ⟨b,nx,lo,log⟩=bdR (oneR P ih nt allL o T ⟨b,nx,lo,[]⟩) (λT K=>AH.rec (motive:=λ_=>Option (Tmps × AH)) (λblks next lo l=>qVO (qTx P ih nt allL os) mk mks n d T ⟨blks,next,lo,l ++ log⟩ l) K):=rfl
theorem qSm (nt:Nat) (all:Array Oper):∀ (l:List Oper) (mks:List Nat) (done:List (Oper × List (Nat × Bool))) (T:Tmps) (H:AH),qJu all l mks (done.map (·.1))=true→
  qTx P ih nt all.toList l mks done.length (idxE done 0) T H=opsD P ih nt all l mks done T H
 | [],_,_,_,_,_=>rfl
 | _ :: _,[],_,_,_,_=>rfl
 | o :: os,mk :: mks,done,T,H,hs=>by
   unfold qJu at hs
   simp only [Bool.and_eq_true] at hs
   obtain ⟨hp,hs⟩:=hs
   obtain ⟨blks,next,lo,log⟩:=H
   have e0:opsD P ih nt all (o :: os) (mk :: mks) done T=bd (capture (qJ5 P ih nt all.toList o T)) (λr=>cond (against all o mk r.2 done 0) (opsD P ih nt all os mks (done ++ [(o,r.2)]) r.1) fail):=by rw [opsD]
   rw [e0]
   rw [qTX,qUB]
   unfold bd capture
   cases h1:qJ5 P ih nt all.toList o T ⟨blks,next,lo,[]⟩ with
   | none=>simp only [h1];rfl
   | some p=>
     obtain ⟨T1,b1,n1,l1,g1⟩:=p
     simp only [h1]
     show qVO (qTx P ih nt all.toList os) mk mks done.length (idxE done 0) T1 ⟨b1,n1,l1,g1 ++ log⟩ g1=_
     have hs':qJu all os mks ((done ++ [(o,g1)]).map (·.1))=true:=by simpa using hs
     have ih2:=qSm nt all os mks (done ++ [(o,g1)]) T1 ⟨b1,n1,l1,g1 ++ log⟩ hs'
     rw [qQP] at ih2
     cases g1 with
     | nil=>
       rw [qNd done 0 hp]
       simp only [List.append_nil,lAp,List.length_cons,List.length_nil] at ih2
       exact ih2
     | cons e es=>
       rw [qMC (e :: es) done 0 hp]
       simp only [zA,lAp,List.length_cons,List.length_nil] at ih2
       show Bool.rec (motive:=λ_=>Option (Tmps × AH)) none (qTx P ih nt all.toList os mks (Nat.succ done.length) (idxE done 0 ++ [(done.length,e :: es)]) T1 ⟨b1,n1,l1,(e :: es) ++ log⟩) (qOR mk (e :: es) (idxE done 0))=_
       cases qOR mk (e :: es) (idxE done 0) with
       | false=>rfl
       | true=>exact ih2
def qWs (nt:Nat) (ops:Array Oper) (T:Tmps) (H:AH):Option (Tmps × AH):=cond (qJu ops ops.toList (masks ops.toList []) []) (qTx P ih nt ops.toList ops.toList (masks ops.toList []) 0 [] T H) (opsD P ih nt ops ops.toList (masks ops.toList []) [] T H)
theorem qXf (nt:Nat) (ops:Array Oper) (T:Tmps) (H:AH):qWs P ih nt ops T H=opsD P ih nt ops ops.toList (masks ops.toList []) [] T H:=by
 unfold qWs
 cases hs:qJu ops ops.toList (masks ops.toList []) [] with
 | false=>rfl
 | true=>exact qSm P ih nt ops ops.toList (masks ops.toList []) [] T H hs
end
abbrev qMw:=Program→(Task→M Out)→Nat→Option Nat→Tmps→List Mk→AH→Option (Out × AH)
def nrmO (ms:List Mk) (r:Option (Tmps × AH)):Option (Out × AH):=bdR r λT H=>some (.exit .nrm T ms,H)
def zABs:qMw:=λ_ _ _ _ T ms H=>some (.exit .nrm T ms,H)
def defS (P:Program) (ms:List Mk) (c:Call) (T:Tmps) (H:AH):Option (Out × AH):=match qL0 P T c with
 | some m=>some (.exit .nrm T (m :: ms),H)
 | none=>none
def qY5 (ops:Array Oper) (draw:Bool):qMw:=match draw with
 | false=>match qC1 ops.toList with
   | none=>λP ih nt _ T ms H=>nrmO ms (opsR P ih nt ops.toList ops.toList T H)
   | some p=>λP ih nt rnd T ms H=>match rnd with
     | none=>bdR (opsR P ih nt ops.toList p.1 T H) (defS P ms p.2)
     | some _=>none
 | true=>λP ih nt _ T ms H=>nrmO ms (cond (qDM ops.toList) (qWs P ih nt ops T H) none)
def seqK (ih:Task→M Out) (nt:Nat) (rnd:Option Nat) (b:Code) (o:Out) (H:AH):Option (Out × AH):=match o with
 | .exit .nrm T ms=>ih (.code nt rnd b T ms) H
 | o=>some (o,H)
def cSeq (a b:Code):qMw:=λ_ ih nt rnd T ms H=>bdR (ih (.code nt rnd a T ms) H) (seqK ih nt rnd b)
def zABg (c:Operand) (a b:Code):qMw:=λ_ ih nt rnd T ms H=>match evR T c with
 | some (.bool t)=>ih (.code nt rnd (cond t a b) T ms) H
 | _=>none
def zABa (id:Nat) (o:Out) (H:AH):Option (Out × AH):=match o with
 | .exit (.exit id') T ms=>cond (Nat.beq id' id) (some (.exit .nrm T ms,H)) (some (.exit (.exit id') T ms,H))
 | o=>some (o,H)
def zAAk (id:Nat) (b:Code):qMw:=λ_ ih nt rnd T ms H=>bdR (ih (.code nt rnd b T ms) H) (zABa id)
def zABu (b:Code):qMw:=λ_ ih nt rnd T ms H=>match qCb b with
  | some s=>qIN ih nt rnd s T ms H
  | none=>bdR (ih (.code nt rnd b T ms) H) (seqK ih nt rnd (.loop b))
def zABe (id:Nat):qMw:=λ_ _ _ _ T ms H=>some (.exit (.exit id) T ms,H)
def cRet:qMw:=λ_ _ _ _ T ms H=>some (.exit .ret T ms,H)
structure CB where
 f:qMw
def zAB4 (c:Code):CB:=match c with
 | .skip=>⟨zABs⟩
 | .region _ ops draw=>⟨qY5 ops draw⟩
 | .seq a b=>⟨cSeq a b⟩
 | .cond c a b=>⟨zABg c a b⟩
 | .block id b=>⟨zAAk id b⟩
 | .loop b=>⟨zABu b⟩
 | .exit id=>⟨zABe id⟩
 | .ret=>⟨cRet⟩
 | c=>⟨λP ih nt rnd T ms=>qBF P ih nt rnd c T ms⟩
def qRj (c:Code):qMw:=λP ih nt rnd T ms H=>CB.rec (motive:=λ_=>Option (Out × AH)) (λf=>f P ih nt rnd T ms H) (zAB4 c)
theorem qWJ (ih:Task→M Out) (nt:Nat) (rnd:Option Nat) (b:Code) (o:Out) (H:AH):seqK ih nt rnd b o H=(match (generalizing:=false) o with
  | .exit .nrm T ms=>ih (.code nt rnd b T ms)
  | o=>ret o) H:=by
 cases o with
 | val v=>rfl
 | exit e T ms=>cases e <;> rfl
theorem qTy (P:Program) (ih:Task→M Out) (nt:Nat) (rnd:Option Nat) (c:Code) (T:Tmps) (ms:List Mk) (H:AH):qRj c P ih nt rnd T ms H=qBF P ih nt rnd c T ms H:=by
 cases c
 case region id ops draw=>
  cases draw with
  | false=>
    have e1:qBF P ih nt rnd (.region id ops false) T ms=(match qC1 ops.toList with
     | some p=>match (generalizing:=false) rnd with
       | none=>bd (opsA P ih nt ops.toList p.1 T) λT=>match qL0 P T p.2 with
         | some m=>ret (.exit .nrm T (m :: ms))
         | none=>fail
       | some _=>fail
     | none=>bd (opsA P ih nt ops.toList ops.toList T) λT=>ret (.exit .nrm T ms)):=rfl
    have e2:qRj (.region id ops false) P ih nt rnd T ms H=(match qC1 ops.toList with
     | none=>λP ih nt _ T ms H=>nrmO ms (opsR P ih nt ops.toList ops.toList T H)
     | some p=>λP ih nt rnd T ms H=>match rnd with
       | none=>bdR (opsR P ih nt ops.toList p.1 T H) (defS P ms p.2)
       | some _=>none:qMw) P ih nt rnd T ms H:=rfl
    rw [e1,e2]
    cases qC1 ops.toList with
    | some p=>
      cases rnd with
      | some _=>rfl
      | none=>
        show bdR (opsR P ih nt ops.toList p.1 T H) (defS P ms p.2)=_
        rw [qRk]
        refine qHt (opsA P ih nt ops.toList p.1 T) _ H _ λT K=>?_
        unfold defS
        cases qL0 P T p.2 <;> rfl
    | none=>
    show nrmO ms (opsR P ih nt ops.toList ops.toList T H)=bd (opsA P ih nt ops.toList ops.toList T) (λT=>ret (.exit .nrm T ms)) H
    rw [qRk]
    exact qPv (opsA P ih nt ops.toList ops.toList T) (λT=>ret (Out.exit .nrm T ms)) H
  | true=>
    show nrmO ms (cond (qDM ops.toList) (qWs P ih nt ops T H) none)=bd (cond (qDM ops.toList) (opsD P ih nt ops ops.toList (masks ops.toList []) [] T) fail) (λT=>ret (.exit .nrm T ms)) H
    rw [qXf,← qPv]
    unfold nrmO
    cases qDM ops.toList <;> rfl
 case seq a b=>exact qHt (ih (.code nt rnd a T ms)) _ H _ λo K=>qWJ ih nt rnd b o K
 case cond c a b=>
  show (match evR T c with
   | some (.bool t)=>ih (.code nt rnd (cond t a b) T ms) H
   | _=>none)=_
  rw [qFw]
  unfold qBF
  simp only
  generalize ev T c=v
  cases v with
  | none=>rfl
  | some v=>cases v <;> rfl
 case block id b=>
  refine qHt (ih (.code nt rnd b T ms)) _ H _ λo K=>?_
  cases o with
  | val v=>rfl
  | exit e T ms=>
    cases e with
    | exit id'=>show cond (Nat.beq id' id) _ _=_;cases h:Nat.beq id' id <;> simp only [h] <;> rfl
    | _=>rfl
 case loop b=>
  show (match qCb b with
   | some s=>qIN ih nt rnd s T ms H
   | none=>bdR (ih (.code nt rnd b T ms) H) (seqK ih nt rnd (.loop b)))=_
  unfold qBF
  simp only
  cases qCb b with
  | some s=>rfl
  | none=>exact qHt (ih (.code nt rnd b T ms)) _ H _ λo K=>qWJ ih nt rnd (.loop b) o K
 all_goals rfl
def zAAC (P:Program) (ih:Task→M Out) (rs:List ResultVar) (o:Out) (H:AH):Option (Out × AH):=match o with
 | .exit (.exit _) _ _=>none
 | .exit _ T ms=>bd (qBw P ih ms) (λ_=>bd (qC7 P T rs) λvs=>ret (.val (oneV vs))) H
 | _=>none
def zABX (P:Program) (ih:Task→M Out) (args:List AV) (fn:Func) (c:Code) (H:AH):Option (Out × AH):=cond (Nat.ble (lenR args) fn.ntmps) (bdR (ih (.code fn.ntmps none c (Tr.listR .nil 0 args) []) H) (zAAC P ih fn.results.toList)) none
def qU0 (P:Program) (ih:Task→M Out) (f:FuncId) (args:List AV) (H:AH):Option (Out × AH):=match P.funcs[f]? with
 | some fn=>match fn.body with
   | some c=>zABX P ih args fn c H
   | none=>none
 | none=>none
theorem qXF (P:Program) (ih:Task→M Out) (f:FuncId) (args:List AV) (H:AH):qU0 P ih f args H=qCV P ih f args H:=by
 unfold qU0 qCV
 cases P.funcs[f]? with
 | none=>rfl
 | some fn=>
   simp only
   cases fn.body with
   | none=>rfl
   | some c=>
     simp only [zABX,qPC,Tr.listR_eq]
     cases Nat.ble args.length fn.ntmps with
     | false=>rfl
     | true=>
       simp only [cond_true]
       refine qHt (ih (.code fn.ntmps none c (Tr.ofListAt .nil 0 args) [])) _ H _ λo K=>?_
       cases o with
       | val v=>rfl
       | exit e T ms=>cases e <;> rfl
def zAA7 (P:Program) (X:Td) (ih:Task→M Out) (t:Task):M Out:=match t with
 | .code nt rnd c T ms=>qRj c P ih nt rnd T ms
 | .call f args=>match X f with
   | some g=>bd (g args) λv=>ret (.val v)
   | none=>qU0 P ih f args
 | .round l args=>qFF ih l args
def runR (P:Program) (X:Td) (n:Nat):Task→M Out:=Nat.rec (motive:=λ_=>Task→M Out) (λ_ _=>none) (λ_ ih=>zAA7 P X ih) n
theorem qPY (P:Program) (X:Td):∀ (n:Nat) (t:Task),runR P X n t=run P X n t
 | 0,_=>rfl
 | n+1,t=>by
   have:runR P X n=run P X n:=funext λt=>qPY P X n t
   show zAA7 P X (runR P X n) t=qJW P X (run P X n) t
   rw [this]
   cases t with
   | code nt rnd c T ms=>exact funext λH=>qTy P _ nt rnd c T ms H
   | call f args=>
     show (match X f with
      | some g=>bd (g args) λv=>ret (Out.val v)
      | none=>qU0 P (run P X n) f args)=(match X f with
      | some g=>bd (g args) λv=>ret (Out.val v)
      | none=>qCV P (run P X n) f args)
     rw [show qU0 P (run P X n) f args=qCV P (run P X n) f args from funext λH=>qXF _ _ _ _ _]
   | round=>rfl
end
end Go.AM
namespace Go.AM
open Go Go.RowKit Go.ChangeShapes Go.WideShapes Go.ChangeAt
theorem qRD {P:Program} (hm:P.follows .mixedOrders=true) (hname:noNumB P=true) {X:Td} (hX:ExtOK P X) (n:Nat) {f:FuncId} (args:List AV) (h:isTrue (runR P X n (.call f args) empty)=true) (σ:Nat→Value) (hσ:One σ) (args':Array Value) (hr:RelL σ (λ_=>none) args args'.toList) (w:World) :
  Calls P f args' w λe w'=>e=.returned (.bool true)∧Below w.heap.size w w':=by
 rw [qPY] at h
 obtain ⟨H',h⟩:=qSI h
 refine (qQ2 hm (qS3 hname) hX h σ hσ (λ_=>none) w qXV (λ_ _ _=>rfl) args' hr).mono ?_
 rintro e w' ⟨v',ρ',rfl,hv,_,hb⟩
 unfold Rel at hv
 rw [hv]
 exact ⟨rfl,hb⟩
theorem closedX_okX {P:Program} (hm:P.follows .mixedOrders=true) (hname:noNumB P=true) {X:Td} (hX:ExtOK P X) (l:List FuncId) (h:∀ f∈l,∃ n,isTrue (runR P X n (.call f []) empty)=true):ExtOK P (qG4 l):=by
 refine ⟨qOM l,λf g hg args H v H' hr σ ρ base w args' hσ hwr hf hra=>?_⟩
 unfold qG4 at hg
 cases hmem:memN f l with
 | false=>rw [hmem] at hg;cases hg
 | true=>
   rw [hmem] at hg
   cases hg
   cases args with
   | cons _ _=>exact (qAD (H:=H) hr).elim
   | nil=>
     cases qAK (H:=H) hr
     obtain ⟨n,hn⟩:=h f (qH6.1 hmem)
     have ha:args'=#[]:=by
      unfold RelL at hra
      cases args';simp_all
     subst ha
     refine callsIn_wide.2 ((qRD hm hname hX n [] hn (λ_=>.bool true) (λ_=>rfl) #[] .nil w).mono ?_)
     rintro e w' ⟨rfl,hb⟩
     exact ⟨_,ρ,rfl,⟨.refl _ _ _,qX5 hwr hb,hb.mono hwr.base⟩,by unfold Rel;rfl⟩
end Go.AM
namespace Go.AM
open Go
variable {P:Program} {X:Td}
structure Cov (K H:AH):Prop where
 next:H.next=K.next
 lo:H.lo≤K.lo
 sub:∀ i b,K.blks.get i=some b→H.blks.get i=some b
 top:∀ i,H.next≤i→H.blks.get i=none
theorem Fr.cov {α:Type} {m:M α} (hf:Fr m) {K K1 H:AH} {a:α} (h:m K=some (a,K1)) (c:Cov K H):∃ H1,m H=some (a,H1)∧Cov K1 H1:=by
 obtain ⟨es,d,q⟩:=hf K a K1 h
 obtain ⟨H1,e,d2,n,ag⟩:=q H c.next c.lo (λid b hm=>by
  cases hk:K.blks.get id with
  | some x=>exact c.sub id x hk
  | none=>
    rcases d.touch id b hm with h1 | ⟨h1,_⟩
    ·exact absurd hk h1
    ·exact c.top id (by rw [c.next];exact h1))
 refine ⟨H1,e,n,by rw [d2.lo,d.lo];exact c.lo,λi b hi=>?_,λi hi=>?_⟩
 ·by_cases hm:(i,true)∈es
  ·rw [ag i true hm];exact hi
  ·rw [d2.same i hm]
   rw [d.same i hm] at hi
   exact c.sub i b hi
 ·cases hk:H1.blks.get i with
  | none=>rfl
  | some x=>
    have n1:=d2.next
    rcases d2.gone i (by rw [hk];simp) with h1 | ⟨_,h2⟩
    ·exact absurd (c.top i (by omega)) h1
    ·omega
def eqT:Tmps→Tmps→Bool
 | .nil,.nil=>true
 | .node v l r,.node v' l' r'=>(match v,v' with | none,none=>true | some a,some b=>eqA a b | _,_=>false)&&(eqT l l'&&eqT r r')
 | _,_=>false
theorem qSr:∀ {a b:Tmps},eqT a b=true→a=b
 | .nil,.nil,_=>rfl
 | .nil,.node _ _ _,h=>by cases h
 | .node _ _ _,.nil,h=>by cases h
 | .node v l r,.node v' l' r',h=>by
   unfold eqT at h
   obtain ⟨h1,h2⟩:=Bool.and_eq_true_iff.1 h
   obtain ⟨h2,h3⟩:=Bool.and_eq_true_iff.1 h2
   rw [qSr h2,qSr h3]
   cases v <;> cases v' <;> first | rfl | (cases h1;done) | (simp only at h1;rw [qMm h1])
def eqB:ABlk→ABlk→Bool
 | .cells e c n,.cells e' c' n'=>Nat.beq e e'&&(eqT c c'&&Nat.beq n n')
 | .map es k,.map es' k'=>eqEs es es'&&Nat.beq k k'
 | .one v,.one v'=>eqA v v'
 | .deferred a,.deferred b=>a == b
 | _,_=>false
theorem zAAQ {a b:ABlk} (h:eqB a b=true):a=b:=by
 unfold eqB at h
 split at h
 ·simp only [Bool.and_eq_true] at h
  rw [bE h.1,qSr h.2.1,bE h.2.2]
 ·simp only [Bool.and_eq_true] at h
  rw [qSG h.1,bE h.2]
 ·rw [qMm h]
 ·rw [eq_of_beq h]
 ·cases h
noncomputable def mkB (l:List (Nat × ABlk)):Tr ABlk:=List.rec (motive:=λ_=>Tr ABlk) .nil (λp _ ih=>ih.putR p.1 (some p.2)) l
noncomputable def mkK (l:List (Nat × ABlk)) (n:Nat):AH:={ blks:=mkB l,next:=n,lo:=0,log:=[] }
theorem qVP:∀ {l:List (Nat × ABlk)} {i:Nat} {b:ABlk},(mkB l).get i=some b→(i,b)∈l
 | [],i,b,h=>by
   have:(Tr.nil:Tr ABlk).get i=some b:=h
   rw [Tr.get_nil] at this;cases this
 | (j,c) :: l,i,b,h=>by
   have:((mkB l).putR j (some c)).get i=some b:=h
   rw [Tr.putR_eq,Tr.get_put] at this
   split at this
   ·rename_i e;cases this;subst e;exact List.mem_cons_self ..
   ·exact mO _ (qVP this)
noncomputable def subB (l:List (Nat × ABlk)) (t:Tr ABlk):Bool:=List.rec (motive:=λ_=>Bool) true (λp _ ih=>match t.getR p.1 with
 | some b=>eqB b p.2&&ih
 | none=>false) l
theorem qTH {t:Tr ABlk}:∀ {l:List (Nat × ABlk)},subB l t=true→∀ p∈l,t.get p.1=some p.2
 | [],_,_,h=>by cases h
 | q :: l,h,p,hp=>by
   have h:(match t.getR q.1 with | some b=>eqB b q.2&&subB l t | none=>false)=true:=h
   rw [Tr.getR_eq] at h
   cases e:t.get q.1 with
   | none=>simp only [e] at h;cases h
   | some b=>
     simp only [e] at h
     obtain ⟨h1,h2⟩:=Bool.and_eq_true_iff.1 h
     rcases mC hp with rfl | hp
     ·rw [e,zAAQ h1]
     ·exact qTH h2 p hp
def qHY:Nat→Code→List Code × Code
 | k+1,.seq a b=>(a :: (qHY k b).1,(qHY k b).2)
 | _,c=>([],c)
noncomputable def runL (P:Program) (X:Td) (n nt:Nat):List Code→Tmps→M Tmps
 | [],T=>ret T
 | c :: cs,T=>bd (runR P X n (.code nt none c T [])) λo=>match o with
   | .exit .nrm T []=>runL P X n nt cs T
   | _=>fail
def epi (P:Program) (X:Td) (n:Nat) (fn:Func) (o:Out):M Out:=match o with
 | .exit e T ms=>match e with
   | .exit _=>fail
   | _=>bd (qBw P (run P X n) ms) λ_=>bd (qC7 P T fn.results.toList) λvs=>ret (.val (oneV vs))
 | _=>fail
def endF (P:Program) (X:Td) (fn:Func) (n:Nat) (c:Code) (T:Tmps):M Out:=bd (run P X n (.code fn.ntmps none c T [])) (epi P X n fn)
theorem qVL (hX:FrX X) (n nt:Nat):∀ (cs:List Code) (T:Tmps),Fr (runL P X n nt cs T)
 | [],_=>qBD _
 | c :: cs,T=>qCB (by rw [qPY];exact qFo P hX n _) λo=>by
   split
   ·exact qVL hX n nt cs _
   ·exact qAs
theorem qQb (fn:Func) (c:Code) (T:Tmps):Mono λn=>endF P X fn n c T:=qDV λn=>LeM.bd (qDt n _) λo=>by
 unfold epi
 split
 ·split
  ·exact LeM.refl _
  ·exact LeM.bd (qDW (qDt n) _) λ_=>LeM.refl _
 ·exact LeM.refl _
def Good (P:Program) (X:Td) (fn:Func) (c:Code) (T:Tmps) (K:AH):Prop:=∀ H,Cov K H→∃ n H1,endF P X fn n c T H=some (.val (.bool true),H1)
theorem qXc {fn:Func} {n:Nat} {r:Out × AH} {T1:Tmps} {H1:AH}:∀ (k:Nat) (c:Code) (T:Tmps) (H:AH),runL P X n fn.ntmps (qHY k c).1 T H=some (T1,H1)→(∃ n2,endF P X fn n2 (qHY k c).2 T1 H1=some r)→∃ n3,endF P X fn n3 c T H=some r:=by
 intro k
 induction k with
 | zero=>
   intro c T H h he
   have e:qHY 0 c=([],c):=by unfold qHY;rfl
   rw [e] at h he
   cases h
   exact he
 | succ k ih=>
   intro c T H h he
   by_cases hs:∃ a b,c=.seq a b
   ·obtain ⟨a,b,rfl⟩:=hs
    have e:qHY (k+1) (.seq a b)=(a :: (qHY k b).1,(qHY k b).2):=by rw [qHY]
    rw [e] at h he
    obtain ⟨o,Ha,h1,h2⟩:=qAR (H:=H) h
    rw [qPY] at h1
    split at h2
    ·rename_i Ta
     obtain ⟨n3,h3⟩:=ih b Ta Ha h2 he
     have m1:=qDy (P:=P) (X:=X) (.code fn.ntmps none a T []) n (max n n3) H _ (Nat.le_max_left _ _) h1
     have m2:=qQb (P:=P) (X:=X) fn b Ta n3 (max n n3) Ha _ (Nat.le_max_right _ _) h3
     have m3:=qQb (P:=P) (X:=X) fn b Ta n3 (max n n3+1) Ha _ (by omega) h3
     refine ⟨max n n3+1,?_⟩
     obtain ⟨o2,Hb,m4,m5⟩:=qAR (H:=Ha) m2
     have m6:run P X (max n n3+1) (.code fn.ntmps none (.seq a b) T []) H=some (o2,Hb):=by
      show bd (run P X (max n n3) (.code fn.ntmps none a T [])) (λo=>match o with
       | .exit .nrm T ms=>run P X (max n n3) (.code fn.ntmps none b T ms)
       | o=>ret o) H=_
      unfold bd
      simp only at m1
      rw [m1]
      exact m4
     have m7:epi P X (max n n3+1) fn o2 Hb=some r:=by
      obtain ⟨o3,Hc,m8,m9⟩:=qAR (H:=Ha) m3
      have:=qDy (P:=P) (X:=X) (.code fn.ntmps none b Ta []) (max n n3) (max n n3+1) Ha _ (by omega) m4
      simp only at this
      rw [m8] at this
      cases this
      exact m9
     show bd (run P X (max n n3+1) (.code fn.ntmps none (.seq a b) T [])) (epi P X (max n n3+1) fn) H=some r
     unfold bd
     rw [m6]
     exact m7
    ·exact (qAD h2).elim
   ·have e:qHY (k+1) c=([],c):=by
     cases c <;> first | (exact absurd ⟨_,_,rfl⟩ hs) | rfl
    rw [e] at h he
    cases h
    exact he
noncomputable def chk (P:Program) (X:Td) (n nt:Nat) (cs:List Code) (T:Tmps) (K:AH) (T2:Tmps) (l:List (Nat × ABlk)) (nx:Nat):Bool:=match runL P X n nt cs T K with
 | some (T1,K1)=>eqT T1 T2&&(Nat.beq K1.next nx&&(Nat.beq K1.lo 0&&subB l K1.blks))
 | none=>false
theorem Good.cut (hX:FrX X) {fn:Func} {c:Code} {T T2:Tmps} {K:AH} {l:List (Nat × ABlk)} {nx n k:Nat} (h:chk P X n fn.ntmps (qHY k c).1 T K T2 l nx=true) (g:Good P X fn (qHY k c).2 T2 (mkK l nx)):Good P X fn c T K:=by
 intro H hc
 unfold chk at h
 split at h
 ·rename_i T1 K1 e
  simp only [Bool.and_eq_true] at h
  obtain ⟨h1,h2,h3,h4⟩:=h
  have h1:=qSr h1
  subst h1
  obtain ⟨H1,e1,c1⟩:=(qVL hX n fn.ntmps _ T).cov e hc
  have c2:Cov (mkK l nx) H1:=⟨by rw [c1.next];exact bE h2,by
   have:=c1.lo;rw [bE h3] at this;exact this,λi b hi=>c1.sub i b (qTH h4 (i,b) (qVP hi)),c1.top⟩
  obtain ⟨n2,H2,e2⟩:=g H1 c2
  obtain ⟨n3,e3⟩:=qXc k c T H e1 ⟨n2,e2⟩
  exact ⟨n3,H2,e3⟩
 ·cases h
end Go.AM
namespace Go.AM
open Go Go.RowKit Go.ChangeShapes Go.WideShapes Go.ChangeAt
end Go.AM
namespace Go.AM
open Go Go.RowKit Go.ChangeShapes Go.WideShapes
end Go.AM
namespace Go.AM
open Go Go.RowKit Go.ChangeShapes Go.WideShapes Go.ChangeAt
section
variable {s s2:Hq} {v:AV} {l:List AV}
theorem newM {l:List (Hq × Hq)} {elem:TypeId} {cs:List AV} {R:Nat→Hq→Prop} (h:∀ b s2,s b=none→add s s2 b=some (false,.cells elem cs)→Upto b s (add s s2)→R b s2) :
  newK elem cs (λb s2=>(∀ i,s i≠none→cutH l s i=none→s2 i=none)→R b s2) (frz (cutH l s)):=by
 refine qAS λb s2 hb h2 u2 hq=>?_
 have hsb:s b=none:=by
  cases e:s b with
  | none=>rfl
  | some x=>
    have:=hq b (by rw [e];simp) (qBI.1 hb)
    rw [this] at h2;cases h2
 refine h b s2 hsb (by rw [qAX hsb];exact h2) λi hi=>?_
 cases e:s i with
 | some x=>rw [qAZ e]
 | none=>rw [qAX e,u2 i hi,qBI.2 (qNN e)]
theorem Sl.addf (h:Sl s2 v l) (hs:Sub (frz s) s2):Sl (add s s2) v l:=by
 rcases h with h | ⟨b,o,cap,h1,h2,h3⟩
 ·exact .inl h
 ·refine .inr ⟨b,o,cap,h1,h2,λhl=>?_⟩
  obtain ⟨t,e,cs,q1,q2⟩:=h3 hl
  cases hb:s b with
  | none=>exact ⟨t,e,cs,by rw [qAX hb];exact q1,q2⟩
  | some x=>
    obtain ⟨t',x⟩:=x
    have:=hs b _ (qBX hb)
    rw [q1] at this
    cases this
    exact ⟨t',e,cs,by rw [qAZ hb],q2⟩
theorem Sl.frz (h:Sl s v l):Sl (frz s) v l:=by
 rcases h with h | ⟨b,o,cap,h1,h2,h3⟩
 ·exact .inl h
 ·refine .inr ⟨b,o,cap,h1,h2,λhl=>?_⟩
  obtain ⟨t,e,cs,q1,q2⟩:=h3 hl
  exact ⟨true,e,cs,qBX q1,q2⟩
theorem Sl.ne (h:Sl s v l) {b:Nat} (hb:s b=none):∀ b' o n c,v=.slc b' o n c 1→l≠[]→¬ b'=b:=by
 rintro b' o n c rfl hl rfl
 rcases h with ⟨h,_⟩ | ⟨b,o,cap,h1,h2,h3⟩
 ·cases h
 ·cases h1
  obtain ⟨t,e,cs,q1,q2⟩:=h3 hl
  rw [hb] at q1;cases q1
theorem Sl.one {v:AV} {l:List AV} (h:Sl s v l):v.one=true:=by
 rcases h with ⟨rfl,_⟩ | ⟨b,o,cap,rfl,_⟩ <;> rfl
end
end Go.AM
namespace Go.AM
open Go Go.RowKit Go.ChangeShapes Go.WideShapes Go.ChangeAt
theorem ArgL.sub {P:Program} {s s':Hq} (hs:Sub s s') {d:Nat}:∀ {ts:List TypeId} {xs:List AV},ArgL P s d ts xs→ArgL P s' d ts xs
 | [],[],_=>trivial
 | [],_ :: _,h=>h.elim
 | _ :: _,[],h=>h.elim
 | _ :: _,_ :: _,⟨h1,h2⟩=>⟨Arg.sub hs h1,ArgL.sub hs h2⟩
end Go.AM
namespace Go.AM
open Go
variable {P:Program} {X:Td} {A:Nat→List Nat}
def setE:Env→List Tmp→List AV→Env
 | e,p :: ps,v :: vs=>setE (upd e p v) ps vs
 | e,_,_=>e
def qLM (l:Nat) (K:Hq→Prop) (s:Hq):Prop:=match s l with
 | some (false,.loop .ready pd nt keep ps as bo d)=>K (hset s l (false,.loop .busy pd nt keep ps as bo d))
 | _=>False
def endK (l:Nat) (e:AExit) (K:AV→Hq→Prop) (s:Hq):Prop:=match s l with
 | some (false,.loop _ _ nt keep ps as bo d)=>(match e with
   | .nrm=>K (.bool true) (hset s l (false,.loop .ready none nt keep ps as bo d))
   | .ret=>K (.bool false) (hset s l (false,.loop .done (some .ret) nt keep ps as bo d))
   | .exit id=>K (.bool false) (hset s l (false,.loop .done (some (.exit id)) nt keep ps as bo d)))
 | _=>False
theorem qL3 {nt:Nat}:∀ (ps:List Tmp) (vs:List AV) (T:Tmps) (env:Env),TR T env→ps.length=vs.length→(ps.all λp=>Nat.blt p nt)=true→∃ T',qEm nt T ps vs=some T'∧TR T' (setE env ps vs)
 | [],[],T,env,hT,_,_=>⟨T,rfl,hT⟩
 | [],_ :: _,_,_,_,h,_=>by cases h
 | _ :: _,[],_,_,_,h,_=>by cases h
 | p :: ps,v :: vs,T,env,hT,hl,hp=>by
   simp only [List.all_cons,Bool.and_eq_true] at hp
   have hT':TR (T.put p (some v)) (upd env p v):=λi=>by
    unfold tget upd
    rw [Tr.get_put]
    by_cases e:p=i
    ·subst e;simp
    ·have:Nat.beq i p=false:=by
      cases hq:Nat.beq i p with
      | false=>rfl
      | true=>exact absurd (bE hq).symm e
     rw [if_neg e,this];exact hT i
   obtain ⟨T',h1,h2⟩:=qL3 ps vs _ _ hT' (by simpa using hl) hp.2
   exact ⟨T',by simp only [qEm,hp.1,cond_true];exact h1,h2⟩
theorem qRx {l:Nat} {e:AExit} {K:AV→Hq→Prop} {s:Hq} (h:endK l e K s):wpF (λ_=>qEY l e) (λo s'=>∃ v,o=.val v∧K v s') s:=by
 unfold endK at h
 split at h
 ·rename_i st pd nt keep ps as bo d hs
  unfold qEY
  refine wpF.bd (.const _) (λ_=>.const _) (wpF.rd hs λab hab=>?_)
  cases ab with
  | loop st' pd' nt' T' ps' as' bo' d'=>
    obtain ⟨_,_,rfl,hk,rfl,rfl,rfl,rfl⟩:=hab
    cases e with
    | nrm=>exact wpF.bd (.const _) (λ_=>.const _) (wpF.wr hs (x:=.loop .ready none nt keep ps as bo d) ⟨rfl,rfl,rfl,hk,rfl,rfl,rfl,rfl⟩ (wpF.ret ⟨_,rfl,h⟩))
    | ret=>exact wpF.bd (.const _) (λ_=>.const _) (wpF.wr hs (x:=.loop .done (some .ret) nt keep ps as bo d) ⟨rfl,rfl,rfl,hk,rfl,rfl,rfl,rfl⟩ (wpF.ret ⟨_,rfl,h⟩))
    | exit id=>exact wpF.bd (.const _) (λ_=>.const _) (wpF.wr hs (x:=.loop .done (some (.exit id)) nt keep ps as bo d) ⟨rfl,rfl,rfl,hk,rfl,rfl,rfl,rfl⟩ (wpF.ret ⟨_,rfl,h⟩))
  | _=>exact hab.elim
 ·exact h.elim
theorem qWy {l:Nat} {K:Hq→Prop} {s:Hq} (h:qLM l K s):wpF (λ_=>qL7 l) (λ_ s'=>K s') s:=by
 unfold qLM at h
 split at h
 ·rename_i pd nt keep ps as bo d hs
  unfold qL7
  refine wpF.bd (.const _) (λ_=>.const _) (wpF.rd hs λab hab=>?_)
  cases ab with
  | loop st' pd' nt' T' ps' as' bo' d'=>
    obtain ⟨rfl,rfl,rfl,hk,rfl,rfl,rfl,rfl⟩:=hab
    exact wpF.wr hs (x:=.loop .busy pd nt keep ps as bo d) ⟨rfl,rfl,rfl,hk,rfl,rfl,rfl,rfl⟩ h
  | _=>exact hab.elim
 ·exact h.elim
theorem qOm (hX:FrX X) (A:Nat→List Nat) {l:Nat} {args:List AV} {K:AV→Hq→Prop} {s:Hq} {t:Bool} {st:LoopState} {pd:Option Code} {nt:Nat} {keep:List (Nat × AV)} {ps:List Tmp} {as bo:Code} {d:Nat}
  (hs:s l=some (t,.loop st pd nt keep ps as bo d)) (hl:ps.length=args.length) (hnt:(ps.all λp=>Nat.blt p nt)=true)
  (h:∀ f:Env,(∀ p∈keep,f p.1=p.2)→wpC P X A nt (some l) as (setE f ps args) (λe env s=>e=.nrm∧qLM l (λs=>wpC P X A nt (some l) bo env (λe _ s=>endK l e K s) s) s) s):qKg P X l args K s:=by
 unfold qKg wpT
 refine wpF.succ (m:=λn=>qFF (run P X n) l args) ?_ (λ_=>rfl)
 unfold qFF
 have monoE:∀ (o:Out),Mono λn=>(match o with
     | .exit e _ _=>qEY l e
     | _=>fail:M Out):=λo=>.const _
 have mono2:∀ (o:Out),Mono λn=>(match o with
   | .exit .nrm T []=>bd (qL7 l) λ_=>bd (run P X n (.code nt (some l) bo T [])) λo=>match o with
     | .exit e _ _=>qEY l e
     | _=>fail
   | _=>fail:M Out):=λo=>qDV λn=>by
  split
  ·exact LeM.bd (LeM.refl _) λ_=>LeM.bd (qDt n _) λ_=>LeM.refl _
  ·exact LeM.refl _
 refine wpF.bd (m:=λ_=>rd l) (.const _) (λblk=>qDV λn=>?_) (wpF.rd hs λab hab=>?_)
 ·split
  ·split
   ·exact LeM.bd (qDt n _) λo=>by
     split
     ·exact LeM.bd (LeM.refl _) λ_=>LeM.bd (qDt n _) λ_=>LeM.refl _
     ·exact LeM.refl _
   ·exact LeM.refl _
  ·exact LeM.refl _
 cases ab with
 | loop st' pd' nt' T' ps' as' bo' d'=>
   obtain ⟨rfl,rfl,rfl,hk,rfl,rfl,rfl,rfl⟩:=hab
   obtain ⟨T1,h1,h2⟩:=qL3 (nt:=nt) ps args T' (tget T') (λ_=>rfl) hl hnt
   simp only [h1]
   have e0:∀ s:Hq,add s (mkH [])=s:=λs=>by funext i;unfold add mkH;cases s i <;> simp
   have hc:=qJJ (P:=P) (A:=A) (nt:=nt) (rnd:=some l) hX as _ _ s (h (tget T') hk) T1 [] h2 (by simp) List.nodup_nil
   rw [e0] at hc
   refine wpF.bd (m:=λn=>run P X n (.code nt (some l) as T1 [])) (qDy _) mono2 (hc.mono ?_)
   rintro o S ⟨e,T2,env2,ms2,s2,rfl,q1,rfl,q2,q3,_,q5,rfl,q6⟩
   obtain rfl:=q5 (by simp)
   simp only [List.append_nil,mkm,List.map_nil]
   rw [e0]
   refine wpF.bd (m:=λ_=>qL7 l) (.const _) (λ_=>qLi (qDy _) λo=>monoE o) ((qWy q6).mono λ_ s3 h3=>?_)
   have hc2:=qJJ (P:=P) (A:=A) (nt:=nt) (rnd:=some l) hX bo _ _ s3 h3 T2 [] q1 (by simp) List.nodup_nil
   rw [e0] at hc2
   refine wpF.bd (m:=λn=>run P X n (.code nt (some l) bo T2 [])) (qDy _) monoE (hc2.mono ?_)
   rintro o S ⟨e,T4,env4,ms4,s4,rfl,p1,rfl,p2,p3,_,p5,p6⟩
   obtain rfl:=p5 (by simp)
   simp only [List.append_nil]
   rw [e0]
   exact qRx p6
 | _=>exact hab.elim
def qNz:Code→List (Array Tmp × Code × Code)
 | .seq a b=>qNz a ++ qNz b
 | .cond _ a b=>qNz a ++ qNz b
 | .block _ b=>qNz b
 | .loop b=>qNz b
 | .rangeFunc _ ps as bo=>(ps,as,bo) :: (qNz as ++ qNz bo)
 | _=>[]
def rfAs (j:Nat) (c:Code):Code:=match (qNz c)[j]? with
 | some (_,as,_)=>as
 | none=>.skip
def rfBo (j:Nat) (c:Code):Code:=match (qNz c)[j]? with
 | some (_,_,bo)=>bo
 | none=>.skip
def qVr (l:Nat) (Kn Kr:Hq→Prop) (Ke:Nat→Hq→Prop) (s:Hq):Prop:=match s l with
 | some (false,.loop st pd _ _ _ _ _ _)=>st≠.busy∧(match pd with
   | none=>Kn (hdel s l)
   | some .ret=>Kr (hdel s l)
   | some (.exit id)=>Ke id (hdel s l)
   | some _=>False)
 | _=>False
def rngK (P:Program) (X:Td) (nt:Nat) (rnd:Option Nat) (f:AV) (keep:List (Nat × AV)) (ps:List Tmp) (as bo:Code) (Kn Kr:Hq→Prop) (Ke:Nat→Hq→Prop) (s:Hq):Prop:=match f with
 | .fn (.func k) first cap=>isFn P k=true∧rndK rnd s∧∀ l d,s l=none→wC P X k (first ++ [.yield l] ++ cap) (λ_ s=>qVr l Kn Kr Ke s) (hset s l (false,.loop .ready none nt keep ps as bo d))
 | _=>False
end Go.AM
namespace Go.AM
open Go
def SlR (es:Nat) (s:Hq) (v:AV) (rows:List (List AV)):Prop:=(∀ r∈rows,r.length=es)∧((v=.nilslc∧rows=[])∨∃ b o cap,v=.slc b o rows.length cap es∧(∀ c,cap=some c→rows.length≤c)∧
 (rows≠[]→∃ t e cs,s b=some (t,.cells e cs)∧o+rows.length * es≤cs.length∧(cs.drop o).take (rows.length * es)=rows.flatten))
theorem qF0 {es:Nat}:∀ {rows:List (List AV)},(∀ r∈rows,r.length=es)→rows.flatten.length=rows.length * es
 | [],_=>by simp
 | r :: rows,h=>by
   rw [List.flatten_cons,lAp,qF0 λq hq=>h q (by simp [hq]),h r (by simp),List.length_cons,Nat.succ_mul,Nat.add_comm]
theorem qO5 {es:Nat}:∀ {rows:List (List AV)} {i:Nat} {r:List AV},(∀ r∈rows,r.length=es)→rows[i]?=some r→(rows.flatten.drop (i * es)).take es=r
 | [],_,_,_,h=>by simp at h
 | q :: rows,0,r,hl,h=>by
   simp only [g0Y,Option.some.injEq] at h
   subst h
   have:=hl q (by simp)
   rw [Nat.zero_mul,List.drop_zero,List.flatten_cons,List.take_append_of_le_length (by omega),List.take_of_length_le (by omega)]
 | q :: rows,i+1,r,hl,h=>by
   have hq:=hl q (by simp)
   have e1:(i+1) * es=i * es+es:=Nat.succ_mul _ _
   rw [List.flatten_cons,List.drop_append,List.drop_eq_nil_of_le (by omega),List.nil_append,hq,e1,Nat.add_sub_cancel]
   exact qO5 (λr hr=>hl r (by simp [hr])) (by simpa using h)
variable {s s':Hq} {v:AV} {rows:List (List AV)} {es:Nat}
theorem SlR.len (h:SlR es s v rows):qAa v=some rows.length:=by
 rcases h.2 with ⟨rfl,rfl⟩ | ⟨b,o,cap,rfl,_⟩
 ·rfl
 ·rfl
theorem SlR.one (h:SlR es s v rows):v.one=true:=by
 rcases h.2 with ⟨rfl,_⟩ | ⟨b,o,cap,rfl,_⟩ <;> rfl
theorem SlR.get (h:SlR es s v rows) {i:Nat} {r:List AV} (hi:rows[i]?=some r):∃ b o,qAO es v (.int .i64 (i:Int))=some (.ptr b o)∧rdN s es (.ptr b o)=some r∧∀ j,j < es→rd1 s (.ptr b (o+j))=r[j]?:=by
 have hlt:=(gS hi).1
 obtain ⟨hl,h⟩:=h
 rcases h with ⟨rfl,rfl⟩ | ⟨b,o,cap,rfl,_,h⟩
 ·simp at hlt
 ·obtain ⟨t,e,cs,h1,h2,h3⟩:=h (by rintro rfl;simp at hlt)
  have e1:Nat.blt i rows.length=true:=by rw [Nat.blt_eq];exact hlt
  have e2:(i+1) * es≤rows.length * es:=Nat.mul_le_mul_right _ hlt
  rw [Nat.succ_mul] at e2
  have row:(cs.drop (o+i * es)).take es=r:=by
   rw [← qO5 hl hi,← h3,List.drop_take,List.take_take,List.drop_drop,Nat.min_eq_left (by omega)]
  refine ⟨b,o+i * es,by simp [qAO,e1],?_,λj hj=>?_⟩
  ·have e3:Nat.ble (o+i * es+es) cs.length=true:=bL (by omega)
   simp only [rdN,h1,qJM,e3,cond_true,row]
  ·rw [qAM h1,← row,List.getElem?_take,if_pos hj,List.getElem?_drop]
theorem SlR.rd (h:SlR es s v rows):rdSl s es v=some rows.flatten:=by
 obtain ⟨hl,h⟩:=h
 rcases h with ⟨rfl,rfl⟩ | ⟨b,o,cap,rfl,_,h⟩
 ·rfl
 ·simp only [rdSl,Nat.beq_refl,cond_true]
  cases hz:Nat.beq (rows.length * es) 0 with
  | true=>
    rw [cond_true]
    have:=qF0 hl
    rw [bE hz] at this
    rw [List.eq_nil_of_length_eq_zero this]
  | false=>
    rw [cond_false]
    obtain ⟨t,e,cs,h1,h2,h3⟩:=h (by rintro rfl;simp at hz)
    have e2:Nat.ble (o+rows.length * es) cs.length=true:=bL h2
    simp only [h1,qJM,e2,cond_true,h3]
theorem SlR.sub (h:SlR es s v rows) (hs:Sub s s'):SlR es s' v rows:=by
 refine ⟨h.1,?_⟩
 rcases h.2 with h | ⟨b,o,cap,h1,h2,h3⟩
 ·exact .inl h
 ·refine .inr ⟨b,o,cap,h1,h2,λhl=>?_⟩
  obtain ⟨t,e,cs,q1,q2⟩:=h3 hl
  exact ⟨t,e,cs,hs _ _ q1,q2⟩
theorem SlR.frz (h:SlR es s v rows):SlR es (frz s) v rows:=by
 refine ⟨h.1,?_⟩
 rcases h.2 with h | ⟨b,o,cap,h1,h2,h3⟩
 ·exact .inl h
 ·refine .inr ⟨b,o,cap,h1,h2,λhl=>?_⟩
  obtain ⟨t,e,cs,q1,q2⟩:=h3 hl
  exact ⟨true,e,cs,qBX q1,q2⟩
theorem SlR.keep {fp:Nat→Prop} (h:SlR es s v rows) (hs:qAg fp s s') (hn:∀ b o n c,v=.slc b o n c es→rows≠[]→¬ fp b):SlR es s' v rows:=by
 refine ⟨h.1,?_⟩
 rcases h.2 with h | ⟨b,o,cap,h1,h2,h3⟩
 ·exact .inl h
 ·refine .inr ⟨b,o,cap,h1,h2,λhl=>?_⟩
  obtain ⟨t,e,cs,q1,q2⟩:=h3 hl
  exact ⟨t,e,cs,hs _ _ q1 (hn b o _ cap h1 hl),q2⟩
theorem SlR.was (h:SlR es s v rows):∀ b o n c,v=.slc b o n c es→rows≠[]→s b≠none:=by
 rintro b o n c rfl hl
 rcases h.2 with ⟨h,_⟩ | ⟨b',o',cap,h1,h2,h3⟩
 ·cases h
 ·cases h1
  obtain ⟨t,e,cs,q1,q2⟩:=h3 hl
  rw [q1];simp
theorem SlR.mk {b:Nat} {t:Bool} {e:TypeId} {n:Nat} {cap:Option Nat} (hl:∀ r∈rows,r.length=es) (h:s b=some (t,.cells e rows.flatten)) (hn:n=rows.length) (hc:∀ c,cap=some c→rows.length≤c):SlR es s (.slc b 0 n cap es) rows:=by
 subst hn
 refine ⟨hl,.inr ⟨b,0,cap,rfl,hc,λ_=>⟨t,e,_,h,by rw [qF0 hl];omega,?_⟩⟩⟩
 rw [List.drop_zero,← qF0 hl,List.take_of_length_le (Nat.le_refl _)]
theorem SlR.empty {b o:Nat} {c:Nat}:SlR es s (.slc b o 0 (some c) es) []:=⟨by simp,.inr ⟨b,o,some c,rfl,by simp,λh=>absurd rfl h⟩⟩
theorem SlR.drop (h:SlR es s v rows) {k:Nat} (hk:k≤rows.length) (hne:rows≠[]):∃ v',qDs es v (some (.int .i64 (k:Int))) none none=some v'∧SlR es s v' (rows.drop k)∧∀ b o n c,v'=.slc b o n c es→∃ o n c,v=.slc b o n c es:=by
 obtain ⟨hl,h⟩:=h
 rcases h with ⟨rfl,rfl⟩ | ⟨b,o,cap,rfl,hc,h⟩
 ·exact absurd rfl hne
 ·obtain ⟨t,e,cs,h1,h2,h3⟩:=h hne
  have hrow:∀ r∈rows.drop k,r.length=es:=λr hr=>hl r (List.mem_of_mem_drop hr)
  have hlen:(rows.drop k).length=rows.length - k:=List.length_drop
  have data:rows.drop k≠[]→∃ t e cs,s b=some (t,.cells e cs)∧o+k * es+(rows.drop k).length * es≤cs.length∧(cs.drop (o+k * es)).take ((rows.drop k).length * es)=(rows.drop k).flatten:=λ_=>by
   have e2:k * es+(rows.length - k) * es=rows.length * es:=by rw [← Nat.add_mul];congr 1;omega
   refine ⟨t,e,cs,h1,by rw [hlen];omega,?_⟩
   have e3:rows.flatten.drop (k * es)=(rows.drop k).flatten:=by
    have:rows.flatten=(rows.take k).flatten ++ (rows.drop k).flatten:=by rw [← List.flatten_append,List.take_append_drop]
    have hk2:(rows.take k).flatten.length=k * es:=by rw [qF0 λr hr=>hl r (List.mem_of_mem_take hr),List.length_take,Nat.min_eq_left hk]
    rw [this,← hk2,List.drop_left]
   rw [← e3,← h3,List.drop_take,List.drop_drop,hlen]
   congr 1
   omega
  have b1:bound (some (.int .i64 (k:Int))) 0 rows.length=some k:=by
   simp [bound,bL hk]
  cases cap with
  | none=>
    refine ⟨.slc b (o+k * es) (rows.length - k) none es,?_,⟨hrow,.inr ⟨b,o+k * es,none,by rw [hlen],by simp,data⟩⟩,λb' o' n' c' e=>by cases e;exact ⟨_,_,_,rfl⟩⟩
    simp [qDs,bound,bL hk]
  | some c=>
    have hc':=hc c rfl
    refine ⟨.slc b (o+k * es) (rows.length - k) (some (c - k)) es,?_,⟨hrow,.inr ⟨b,o+k * es,some (c - k),by rw [hlen],λd hd=>by cases hd;rw [hlen];omega,data⟩⟩,λb' o' n' c' e=>by cases e;exact ⟨_,_,_,rfl⟩⟩
    simp [qDs,bound,bL hk,bL hc']
theorem qMt {elem:TypeId} {b:Nat} {y:AV} {K:AV→Hq→Prop} (hy:SlR es s y rows) (hl:rows.length≤16777216)
  (hK:∀ v' s',Sub s s'→SlR es s' v' rows→(∀ b o n c,v'=.slc b o n c es→rows≠[]→s b=none)→K v' s'):appK elem es (.slc b 0 0 (some 0) es) y K s:=by
 refine qAW hy.rd (qAW hy.len ⟨rfl,?_⟩)
 cases rows with
 | nil=>exact ⟨Nat.le_refl _,hK _ _ (.refl _) .empty λ_ _ _ _ _ h=>absurd rfl h⟩
 | cons x r=>
   have e0:Nat.ble (0+(r.length+1)) 0=false:=by rw [zA];rfl
   simp only [List.length_cons,e0,cond_false]
   have hx:rdSl s es (.slc b 0 0 (some 0) es)=some []:=by simp [rdSl]
   refine qAW hx ⟨by simp at hl;omega,qAS λc s1 hc h1 u1=>hK _ _ (u1.sub hc) (SlR.mk hy.1 (by simpa using h1) (by simp) (by simp)) λb' o n c' e _=>by cases e;exact hc⟩
theorem inpR {P:Program} {d:Nat} {t e:TypeId} (hu:P.underlying t=some (.slice e)) {A:Type} (f:A→List AV) (Q:A→Prop) (hf:∀ a,(f a).length=P.cellsOf e) (he:∀ xs,Inp P s d e xs→∃ a,xs=f a∧Q a) {xs:List AV} (h:Inp P s (d+1) t xs):∃ v,xs=[v]∧∃ l:List A,SlR (P.cellsOf e) s v (l.map f)∧(∀ a∈l,Q a)∧l.length≤maxLen:=by
 unfold Inp at h
 simp only [hu] at h
 have hrow:∀ (l:List A),∀ r∈l.map f,r.length=P.cellsOf e:=λl r hr=>by obtain ⟨a,_,rfl⟩:=List.mem_map.1 hr;exact hf a
 rcases h with rfl | ⟨b,len,cap,rfl,h1,h2,h3⟩
 ·exact ⟨_,rfl,[],⟨hrow [],.inl ⟨rfl,rfl⟩⟩,by simp,by simp⟩
 ·refine ⟨_,rfl,?_⟩
  by_cases hz:cap=0
  ·subst hz
   have:len=0:=by omega
   subst this
   exact ⟨[],.empty,by simp,by simp⟩
  ·obtain ⟨el,l,g1,g2,g3⟩:=h3 (by omega)
   have mk:∀ n,n≤cap→∃ r:List A,r.length=n∧(r.map f).flatten=l.take (n * P.cellsOf e)∧∀ a∈r,Q a:=by
    intro n
    induction n with
    | zero=>exact λ_=>⟨[],rfl,by simp,by simp⟩
    | succ n ih=>
      intro hn
      obtain ⟨r,r1,r2,r3⟩:=ih (by omega)
      obtain ⟨a,a1,a2⟩:=he _ (g3 n (by omega))
      refine ⟨r ++ [a],by simp [r1],?_,λb hb=>?_⟩
      ·rw [List.map_append,List.flatten_append,r2,List.map_singleton,List.flatten_singleton,← a1,Nat.succ_mul,List.take_add]
      ·rcases mP hb with hb | hb
       ·exact r3 b hb
       ·rw [List.mem_singleton.1 hb];exact a2
   obtain ⟨r,r1,r2,r3⟩:=mk len h1
   refine ⟨r,⟨hrow r,.inr ⟨b,0,some cap,by simp [r1],by simp [r1];exact h1,λ_=>⟨true,el,l,g1,?_,?_⟩⟩⟩,r3,by omega⟩
   ·rw [lMY,r1,g2,zA];exact Nat.mul_le_mul_right _ h1
   ·rw [lMY,r1,List.drop_zero,r2]
theorem argR {P:Program} {d:Nat} {t e:TypeId} {v:AV} (hu:P.underlying t=some (.slice e)) {A:Type} (f:A→List AV) (Q:A→Prop) (hf:∀ a,(f a).length=P.cellsOf e) (he:∀ xs,Inp P s d e xs→∃ a,xs=f a∧Q a) (h:Arg P s (d+1) t v):∃ l:List A,SlR (P.cellsOf e) s v (l.map f)∧(∀ a∈l,Q a)∧l.length≤maxLen:=by
 obtain ⟨h1,_,h3⟩:=h
 have:qDX P t≠some true:=by unfold qDX;rw [hu];simp
 rw [h3 this] at h1
 obtain ⟨v',e1,h4⟩:=inpR hu f Q hf he h1
 cases e1
 exact h4
theorem zAB5 {P:Program} {d:Nat} {t u w y:TypeId} {xs:List AV} (h:ArgL P s d [t,u,w,y] xs):∃ a b c e,xs=[a,b,c,e]∧Arg P s d t a∧Arg P s d u b∧Arg P s d w c∧Arg P s d y e:=by
 match xs,h with
 | [a,b,c,e],⟨h1,h2,h3,h4,_⟩=>exact ⟨a,b,c,e,rfl,h1,h2,h3,h4⟩
end Go.AM
namespace Go.AM
open Go
variable {s s':Hq} {v:AV} {rows:List (List AV)} {es:Nat}
theorem SlR.take (h:SlR es s v rows) {k:Nat} (hk:k≤rows.length) (hne:rows≠[]):∃ v',qDs es v none (some (.int .i64 (k:Int))) none=some v'∧SlR es s v' (rows.take k)∧∀ b o n c,v'=.slc b o n c es→∃ o n c,v=.slc b o n c es:=by
 obtain ⟨hl,h⟩:=h
 rcases h with ⟨rfl,rfl⟩ | ⟨b,o,cap,rfl,hc,h⟩
 ·exact absurd rfl hne
 ·obtain ⟨t,e,cs,h1,h2,h3⟩:=h hne
  have hrow:∀ r∈rows.take k,r.length=es:=λr hr=>hl r (List.mem_of_mem_take hr)
  have hlen:(rows.take k).length=k:=by rw [List.length_take,Nat.min_eq_left hk]
  have e2:k * es≤rows.length * es:=Nat.mul_le_mul_right _ hk
  have data:rows.take k≠[]→∃ t e cs,s b=some (t,.cells e cs)∧o+(rows.take k).length * es≤cs.length∧(cs.drop o).take ((rows.take k).length * es)=(rows.take k).flatten:=λ_=>by
   refine ⟨t,e,cs,h1,by rw [hlen];omega,?_⟩
   have e3:rows.flatten.take (k * es)=(rows.take k).flatten:=by
    have:rows.flatten=(rows.take k).flatten ++ (rows.drop k).flatten:=by rw [← List.flatten_append,List.take_append_drop]
    have hk2:(rows.take k).flatten.length=k * es:=by rw [qF0 hrow,hlen]
    rw [this,← hk2,List.take_left]
   rw [← e3,← h3,List.take_take,hlen,Nat.min_eq_left e2]
  cases cap with
  | none=>
    refine ⟨.slc b o k none es,?_,⟨hrow,.inr ⟨b,o,none,by rw [hlen],by simp,data⟩⟩,λb' o' n' c' e=>by cases e;exact ⟨_,_,_,rfl⟩⟩
    simp [qDs,bound,bL hk]
  | some c=>
    have hc':=hc c rfl
    refine ⟨.slc b o k (some c) es,?_,⟨hrow,.inr ⟨b,o,some c,by rw [hlen],λd hd=>by cases hd;rw [hlen];omega,data⟩⟩,λb' o' n' c' e=>by cases e;exact ⟨_,_,_,rfl⟩⟩
    simp [qDs,bound,bL (Nat.le_trans hk hc')]
def AccR (elem:TypeId) (es:Nat) (s0 s:Hq) (v:AV) (rows:List (List AV)):Prop:=(∀ r∈rows,r.length=es)∧((v=.nilslc∧rows=[])∨∃ b,s0 b=none∧v=.slc b 0 rows.length none es∧s b=some (false,.cells elem rows.flatten))
theorem AccR.sl {elem:TypeId} {s0:Hq} (h:AccR elem es s0 s v rows):SlR es s v rows:=by
 obtain ⟨hl,h⟩:=h
 rcases h with h | ⟨b,_,rfl,h⟩
 ·exact ⟨hl,.inl h⟩
 ·exact SlR.mk hl h rfl (by simp)
theorem AccR.sub {elem:TypeId} {s0 s s':Hq} (h:AccR elem es s0 s v rows) (hs:Sub s s'):AccR elem es s0 s' v rows:=by
 obtain ⟨hl,h⟩:=h
 rcases h with h | ⟨b,h0,rfl,h⟩
 ·exact ⟨hl,.inl h⟩
 ·exact ⟨hl,.inr ⟨b,h0,rfl,hs _ _ h⟩⟩
theorem AccR.app {elem:TypeId} {s0:Hq} {y:AV} {m:List (List AV)} {K:AV→Hq→Prop} (h:AccR elem es s0 s v rows) (hy:SlR es s y m) (hm:m≠[]) (hl:rows.length+m.length≤16777216) (hdom:Sub s0 s)
  (hK:∀ v' s',AccR elem es s0 s' v' (rows ++ m)→Sub s0 s'→K v' s'):appK elem es v y K s:=by
 obtain ⟨k,hk⟩:∃ k,m.length=k+1:=by cases m with | nil=>exact absurd rfl hm | cons a r=>exact ⟨r.length,rfl⟩
 refine qAW hy.rd (qAW hy.len ?_)
 obtain ⟨hrow,h⟩:=h
 have hrow2:∀ r∈rows ++ m,r.length=es:=λr hr=>by rcases mP hr with hr | hr;exact hrow r hr;exact hy.1 r hr
 rcases h with ⟨rfl,rfl⟩ | ⟨b,hb0,rfl,hb⟩
 ·simp only
  rw [hk]
  refine ⟨by simp at hl;omega,qAS λc s1 hc h1 u1=>hK _ _ ⟨hrow2,.inr ⟨c,?_,by simp [hk],by simpa using h1⟩⟩ (hdom.trans (u1.sub hc))⟩
  cases q:s0 c with
  | none=>rfl
  | some x=>rw [hdom c x q] at hc;cases hc
 ·refine ⟨rfl,?_⟩
  simp only
  rw [hk]
  simp only
  refine qAW (SlR.rd (SlR.mk hrow hb rfl (by simp))) ?_
  unfold qQa
  rw [hb]
  have hdel0:Sub s0 (hdel s b):=λi e hi=>by
   have hib:i≠b:=qBl hb0 hi
   rw [← hdom i e hi];exact if_neg hib
  refine ⟨rfl,by omega,qAS λc s1 hc h1 u1=>hK _ _ ⟨hrow2,.inr ⟨c,?_,by simp [hk],by simpa using h1⟩⟩ (hdel0.trans (u1.sub hc))⟩
  cases q:s0 c with
  | none=>rfl
  | some x=>rw [hdel0 c x q] at hc;cases hc
end Go.AM
namespace Go.AM
open Go
end Go.AM
namespace Go.AM
open Go
variable {P:Program} {X:Td}
theorem wC.frame (hX:FrX X) {f:FuncId} {args:List AV} {K:AV→Hq→Prop} {r s:Hq} (hsub:Sub r s)
  (h:wC P X f args (λv s1=>(∀ i,s i≠none→r i=none→s1 i=none)→K v (add s1 (rest s r))) r):wC P X f args K s:=by
 intro H hH
 obtain ⟨n,o,H1,s1,es,h1,h2,h3,h4,d,kno,out⟩:=wpF.framed (λn=>qFo P hX n (.call f args)) h (hH.sub hsub)
 obtain ⟨v,rfl,hK⟩:=h4
 have hout:∀ i,s i≠none→r i=none→s1 i=none:=λi hi hr=>(out i hr (hH.lt hi)).1
 refine ⟨n,.val v,H1,h1,add s1 (rest s r),?_,?_,v,rfl,hK hout⟩
 ·refine ⟨h2.lo,h2.wf,λid t b hid=>?_⟩
  cases q:s1 id with
  | some x=>
    rw [qAZ q] at hid
    exact h2.at_ id t b (by rw [q];exact hid)
  | none=>
    rw [qAX q] at hid
    unfold rest at hid
    split at hid
    ·rename_i e
     obtain ⟨k1,k2⟩:=hH.at_ id t b hid
     have hlt:=hH.lt (i:=id) (by rw [hid];exact Option.some_ne_none _)
     rw [d.lo,(out id e hlt).2]
     exact ⟨k1,k2⟩
    ·cases hid
 ·intro id b hid
  cases q:r id with
  | some x=>
    have e1:=hsub id x q
    rw [hid] at e1
    cases e1
    exact qAZ (h3 id b q)
  | none=>
    have hlt:=hH.lt (i:=id) (by rw [hid];exact Option.some_ne_none _)
    rw [qAX (out id q hlt).1]
    unfold rest
    rw [if_pos q];exact hid
theorem wC.part (hX:FrX X) {f:FuncId} {args:List AV} {K:AV→Hq→Prop} {r s:Hq} (hsub:Sub r s)
  (h:wC P X f args (λv s1=>∀ s',Sub s1 s'→(∀ i,r i=none→s i≠none→s' i=s i∧s1 i=none)→K v s') r):wC P X f args K s:=by
 refine wC.frame hX hsub (wpF.mono h λo s1 ⟨v,e,hv⟩=>⟨v,e,λhout=>hv _ qFk λi hr hi=>?_⟩)
 have:=hout i hi hr
 refine ⟨?_,this⟩
 rw [qAX this]
 unfold rest
 rw [if_pos hr]
end Go.AM
namespace Go.AM
open Go
end Go.AM
namespace Go.AM
open Go
end Go.AM
namespace Go.AM
open Go Go.RowKit
structure Fit (σ:Nat→Value) (ρ:Ren) (base:Nat) (s t:Hq) (H:AH) (w:World):Prop where
 one:One σ
 rel:HRel (add s t) H
 wr:WR σ ρ base H w
 free:∀ id,H.next≤id→ρ id=none
 dis:∀ i,t i≠none→s i=none
structure Stp (σ:Nat→Value) (ρ ρ':Ren) (base:Nat) (s s' t:Hq) (H H':AH) (w w':World):Prop where
 post:Post σ ρ ρ' base H H' w w'
 next:H.next≤H'.next
 lo:H'.lo=H.lo
 pers:Pers s s'
 fit:Fit σ ρ' base s' t H' w'
variable {σ:Nat→Value} {ρ ρ' ρ1 ρ2:Ren} {base nt:Nat} {s s' s1 s2 t:Hq} {H H' H1 H2:AH} {w w' w1 w2:World} {P:Program} {X:Td} {A:Nat→List Nat}
theorem Stp.refl (h:Fit σ ρ base s t H w):Stp σ ρ ρ base s s t H H w w:=⟨⟨.refl _ _ _,h.wr,.refl _ _⟩,Nat.le_refl _,rfl,.refl _,h⟩
theorem Stp.trans (h:Stp σ ρ ρ1 base s s1 t H H1 w w1) (k:Stp σ ρ1 ρ2 base s1 s2 t H1 H2 w1 w2):Stp σ ρ ρ2 base s s2 t H H2 w w2:=
 ⟨h.post.trans k.post h.next k.next,Nat.le_trans h.next k.next,k.lo.trans h.lo,h.pers.trans k.pers,k.fit⟩
theorem Fit.freeTo (h:Fit σ ρ base s t H w) (b:Nat):Free ρ H.next b:=λid hid _=>h.free id hid
theorem Fit.sub (h:Fit σ ρ base s t H w) (hs:Sub s' s):Fit σ ρ base s' t H w:=
 ⟨h.one,h.rel.sub λi e hi=>by
  cases q:s' i with
  | some x=>rw [qAZ q] at hi;cases hi;exact qAZ (hs i _ q)
  | none=>
    rw [qAX q] at hi
    rw [qAX (h.dis i (by rw [hi];simp))];exact hi,h.wr,h.free,λi hi=>by
  cases q:s' i with
  | none=>rfl
  | some x=>have:=hs i x q;rw [h.dis i hi] at this;cases this⟩
theorem qV4 {es:List (Nat × Bool)} (hf:Fit σ ρ base s t H w) (hp:Post σ ρ ρ' base H H' w w') (d:Does es H H') (hr:HRel (add s' t) H') (hd:∀ i,t i≠none→s' i=none) (hpe:Pers (add s t) (add s' t)):Stp σ ρ ρ' base s s' t H H' w w':=by
 refine ⟨hp,d.next,d.lo,λi b hi=>?_,hf.one,hr,hp.wr,λid hid=>?_,hd⟩
 ·have:=hpe i b (qAZ hi)
  cases q:s' i with
  | some x=>rw [qAZ q] at this;exact this
  | none=>
    rw [qAX q] at this
    have:=hf.dis i (by rw [this];simp)
    rw [hi] at this;cases this
 ·rw [hp.ext.out id (.inr hid)]
  exact hf.free id (Nat.le_trans d.next hid)
structure Grd (P:Program) (X:Td):Prop where
 mixed:P.follows .mixedOrders=true
 nonum:qHT P
 ext:ExtOK P X
def wpW (P:Program) (X:Td) (f:FuncId) (args:List AV) (K:AV→Hq→Prop) (s:Hq):Prop:=Grd P X→∀ (t:Hq) (σ:Nat→Value) (ρ:Ren) (base:Nat) (H:AH) (w:World) (args':Array Value),Fit σ ρ base s t H w→RelL σ ρ args args'.toList→
 CallsIn Fence.wide 0 P f args' w (λe w'=>∃ v v' s' ρ' H',e=.returned v'∧Rel σ ρ' v v'∧Stp σ ρ ρ' base s s' t H H' w w'∧K v s')
theorem wpW.mono {f:FuncId} {args:List AV} {K K':AV→Hq→Prop} (h:wpW P X f args K s) (hk:∀ v s',K v s'→K' v s'):wpW P X f args K' s:=λg t σ ρ base H w args' hf hr=>
 (h g t σ ρ base H w args' hf hr).mono λ_ _ ⟨v,v',s',ρ',H',e,r,st,k⟩=>⟨v,v',s',ρ',H',e,r,st,hk v s' k⟩
theorem wpW.part {f:FuncId} {args:List AV} {K:AV→Hq→Prop} {r:Hq} (hsub:Sub r s)
  (h:wpW P X f args (λv s1=>∀ s',Sub s1 s'→(∀ i,r i=none→s i≠none→s' i=s i∧s1 i=none)→K v s') r):wpW P X f args K s:=λg t σ ρ base H w args' hf hr=>by
 have e1:add r (add (rest s r) t)=add s t:=by
  funext i
  cases q:r i with
  | some x=>rw [qAZ q,qAZ (hsub i x q)]
  | none=>
    rw [qAX q]
    cases q2:s i with
    | some y=>rw [qAZ q2,qAZ (show rest s r i=some y by unfold rest;rw [if_pos q,q2])]
    | none=>rw [qAX q2,qAX (show rest s r i=none by unfold rest;rw [if_pos q,q2])]
 have hf2:Fit σ ρ base r (add (rest s r) t) H w:=⟨hf.one,by rw [e1];exact hf.rel,hf.wr,hf.free,λi hi=>by
  cases q:rest s r i with
  | some x=>unfold rest at q;split at q
            ·assumption
            ·cases q
  | none=>
    rw [qAX q] at hi
    cases q2:r i with
    | none=>rfl
    | some x=>have:=hsub i x q2;rw [hf.dis i hi] at this;cases this⟩
 refine (h g _ σ ρ base H w args' hf2 hr).mono ?_
 rintro e w' ⟨v,v',s1,ρ',H',rfl,hv,st,k⟩
 have hd1:∀ i,rest s r i≠none→s1 i=none:=λi hi=>st.fit.dis i (by
  cases q:rest s r i with
  | none=>exact absurd q hi
  | some x=>rw [qAZ q];simp)
 have hd2:∀ i,t i≠none→s1 i=none:=λi hi=>st.fit.dis i (by
  cases q:rest s r i with
  | some x=>rw [qAZ q];simp
  | none=>rw [qAX q];exact hi)
 have e2:add s1 (add (rest s r) t)=add (add s1 (rest s r)) t:=by
  funext i
  cases q:s1 i with
  | some x=>rw [qAZ q,qAZ (qAZ q)]
  | none=>
    rw [qAX q]
    cases q2:rest s r i with
    | some y=>rw [qAZ q2,qAZ (by rw [qAX q];exact q2)]
    | none=>rw [qAX q2,qAX (by rw [qAX q];exact q2)]
 refine ⟨v,v',add s1 (rest s r),ρ',H',rfl,hv,⟨st.post,st.next,st.lo,λi b hi=>?_,st.fit.one,by rw [← e2];exact st.fit.rel,st.fit.wr,st.fit.free,λi hi=>?_⟩,k _ qFk λi hr hi=>?_⟩
 ·cases q:r i with
  | some x=>
    have:=hsub i x q
    rw [hi] at this
    cases this
    exact qAZ (st.pers i b q)
  | none=>
    have hre:rest s r i=some (true,b):=by unfold rest;rw [if_pos q];exact hi
    rw [qAX (hd1 i (by rw [hre];simp))];exact hre
 ·rw [qAX (hd2 i hi)]
  unfold rest
  split
  ·exact hf.dis i hi
  ·rfl
 ·have hre:rest s r i=s i:=by unfold rest;rw [if_pos hr]
  have:=hd1 i (by rw [hre];exact hi)
  exact ⟨by rw [qAX this];exact hre,this⟩
def CW (P:Program) (X:Td) (nt:Nat) (c:Code) (env:Env) (K:AExit→Env→Hq→Prop) (s:Hq):Prop:=Grd P X→∀ (t:Hq) (σ:Nat→Value) (ρ:Ren) (base:Nat) (H:AH) (w:World) (T:Tmps) (a:Act) (Q:Exit→Act→World→Prop),
 Fit σ ρ base s t H w→TR T env→TRel σ ρ nt T a.tmps→a.defers=[]→
 (∀ e env' s' T' ρ' H' a' w',K e env' s'→TR T' env'→(∀ j,j ∉ assigned c→env' j=env j)→Stp σ ρ ρ' base s s' t H H' w w'→TRel σ ρ' nt T' a'.tmps→a'.defers=[]→Q (qN9 e) a' w')→c.wpIn (FR none) 0 P Q a w
theorem qWh {c:Code} (hrf:noRF c=true) {env:Env} {K:AExit→Env→Hq→Prop} (hX:FrX X) (h:wpC P X A nt none c env K s) {T:Tmps} (hT:TR T env) :
  wpF (λn=>run P X n (.code nt none c T [])) (λo s'=>∃ e T' env',o=.exit e T' []∧TR T' env'∧(∀ j,j ∉ assigned c→env' j=env j)∧K e env' s') s:=by
 have:=qJJ (A:=A) (nt:=nt) (rnd:=none) hX c env K s h T [] hT (by simp) List.nodup_nil
 rw [qUP] at this
 refine (wpF.both (R:=λo=>o=reMs [] o) this λn H a H' hrun=>?_).mono ?_
 ·have e0:=qTE (P:=P) (X:=X) (nt:=nt) (rnd:=none) n c hrf T [] H
  have hrun:run P X n (.code nt none c T []) H=some (a,H'):=hrun
  rw [hrun] at e0
  simp only [reO,Option.some.injEq,Prod.mk.injEq,and_true] at e0
  exact e0
 ·rintro o S' ⟨⟨e,T',env',ms',s',rfl,j1,rfl,j4,_,j2,_,j3⟩,hR⟩
  have hm:ms'=[]:=by
   have hR:Out.exit e T' (mkm (ms' ++ []))=.exit e T' []:=hR
   simp only [List.append_nil,Out.exit.injEq,true_and] at hR
   cases ms' with
   | nil=>rfl
   | cons _ _=>simp [mkm] at hR
  subst hm
  exact ⟨e,T',env',hR,j1,j2,by rw [List.nil_append,qUP];exact j3⟩
theorem CW.lift {c:Code} (hrf:noRF c=true) {env:Env} {K:AExit→Env→Hq→Prop} (h:wpC P X A nt none c env K s):CW P X nt c env K s:=λg t σ ρ base H w T a Q hf hT hTr hd hQ=>by
 have hfr:=λn=>qFo P g.ext.1 n (.code nt none c T [])
 obtain ⟨n,o,H',h1,S,h2,h3,s',rfl,h5,e,T',env',rfl,j1,j2,j3⟩:=wpF.frame hfr (qWh hrf g.ext.1 h hT) hf.dis H hf.rel
 obtain ⟨es,d,_⟩:=hfr n H _ H' h1
 obtain ⟨e2,T2,ms2,he,k⟩:=(qSO g.mixed g.nonum g.ext n).1 _ _ _ _ _ _ _ _ h1
 cases he
 refine ACode.wp (n:=n) (k σ ρ base w a none Q hf.one hf.wr (hf.freeTo _) hTr rfl (by unfold DRel;exact hd) λa' w' ρ' p=>?_)
 have hd':=p.defers
 unfold DRel at hd'
 exact hQ e env' s' T' ρ' H' a' w' j3 j1 j2 (qV4 hf p.post d h2 h5 h3) p.tmps hd'
section
variable (P X)
def opW (W:List Nat) (env:Env) (K:AV→Hq→Prop) (s:Hq) (o:Op):Prop:=match o with
 | .call c=>match c.callee with
   | .value (.func k)=>cond (memN k W) (cond (isFn P k) (wpW P X k (c.args.toList.map (evD env)) K s) False) (wpOp P X env K s (.call c))
   | _=>wpOp P X env K s (.call c)
 | o=>wpOp P X env K s o
def opsW (W:List Nat) (nt:Nat) (all:List Oper):List Oper→Kn→Env→(Env→Hq→Prop)→Hq→Prop
 | [],_,env,K,s=>K env s
 | o :: os,kn,env,K,s=>qP6 all o.guard kn env
   (λkn=>opW P X W env (λv s=>setK nt o.dst env v λenv=>opsW W nt all os (forget kn o.dst) env K s) s o.op)
   (λkn=>setK nt o.dst env .undef λenv=>opsW W nt all os (mark kn o.dst) env K s)
end
theorem qPo {W:List Nat} {env:Env} {K:AV→Hq→Prop} {o:Op} (h:opW P X W env K s o) :
  wpOp P X env K s o∨∃ c k,o=.call c∧c.callee=.value (.func k)∧isFn P k=true∧wpW P X k (c.args.toList.map (evD env)) K s:=by
 unfold opW at h
 split at h
 ·rename_i c
  split at h
  ·rename_i k hc
   cases hm:memN k W with
   | false=>rw [hm] at h;exact .inl h
   | true=>
     rw [hm,cond_true] at h
     cases hk:isFn P k with
     | false=>rw [hk] at h;exact h.elim
     | true=>rw [hk] at h;exact .inr ⟨c,k,rfl,hc,hk,h⟩
  ·exact .inl h
 ·exact .inl h
theorem qU4 {W:List Nat} {ops:Array Oper} {K:Env→Hq→Prop} (g:Grd P X) {Q:Exit→Act→World→Prop}:∀ (os:List Oper) (k:Nat) (kn:Kn) (env:Env) (s:Hq) (ρ:Ren) (H:AH) (w:World) (T:Tmps) (a:Act),(∀ j,j < os.length→os[j]?=ops[k+j]?)→
  (os.all λo=>okOp o.op)=true→KnOk kn env→opsW P X W nt ops.toList os kn env K s→Fit σ ρ base s t H w→TR T env→TRel σ ρ nt T a.tmps→a.defers=[]→
  (∀ env' s' T' ρ' H' a' w',K env' s'→TR T' env'→(∀ j,(∀ o∈os,o.dst≠some j)→env' j=env j)→Stp σ ρ ρ' base s s' t H H' w w'→TRel σ ρ' nt T' a'.tmps→a'.defers=[]→Q .normal a' w')→
  wpOpsIn (FR none) 0 P ops Q (List.range' k os.length) a w
 | [],k,kn,env,s,ρ,H,w,T,a,_,_,_,h,hf,hT,hTr,hd,hQ=>by
   simp only [List.length_nil,List.range'_zero]
   exact hQ env s T ρ H a w h hT (λ_ _=>rfl) (.refl hf) hTr hd
 | o :: os,k,kn,env,s,ρ,H,w,T,a,hk,ha,hkn,h,hf,hT,hTr,hd,hQ=>by
   simp only [List.all_cons,Bool.and_eq_true] at ha
   have h0:ops[k]?=some o:=by have:=hk 0 (by simp);simpa using this.symm
   obtain ⟨kn',hkn',hcase⟩:=qMz hT hkn h
   simp only [List.length_cons,List.range'_succ,wpOpsIn,h0]
   have next:∀ (v:AV) (v':Value) (kn2:Kn) (s1:Hq) (ρ1:Ren) (H1:AH) (w1:World),(∀ env',(∀ d,o.dst≠some d→env' d=env d)→(∀ d,o.dst=some d→env' d=v)→KnOk kn2 env')→(setK nt o.dst env v λenv=>opsW P X W nt ops.toList os kn2 env K s1)→
     Stp σ ρ ρ1 base s s1 t H H1 w w1→Rel σ ρ1 v v'→wpOpsIn (FR none) 0 P ops Q (List.range' (k+1) os.length) (a.put o.dst v') w1:=by
    intro v v' kn2 s1 ρ1 H1 w1 hk2 hv st hrel
    obtain ⟨T',env',e1,e2,e3,e4,e5⟩:=qSB hT hv
    refine qU4 g os (k+1) kn2 env' s1 ρ1 H1 w1 T' _ (λj hj=>by have:=hk (j+1) (by simpa using hj);rw [show k+1+j=k+(j+1) from by omega];simpa using this) ha.2 (hk2 env' e4 e5) e3 st.fit e2 (qD9 e1 (hTr.mono st.post.ext.le) hrel) (by rw [qBp];exact hd) ?_
    intro env2 s2 T2 ρ2 H2 a2 w2 k1 k2 k3 k4 k5 k6
    exact hQ env2 s2 T2 ρ2 H2 a2 w2 k1 k2 (λj hj=>(k3 j λp hp=>hj p (by simp [hp])).trans (e4 j (hj o (by simp)))) (st.trans k4) k5 k6
   have go:∀ {Qv:AV→Hq→Prop},wpF (λn=>qDc P (run P X n) ops.toList o T) Qv s→(∀ v v' s1 ρ1 H1 w1,Qv v s1→Stp σ ρ ρ1 base s s1 t H H1 w w1→Rel σ ρ1 v v'→wpOpsIn (FR none) 0 P ops Q (List.range' (k+1) os.length) (a.put o.dst v') w1)→
     if Region.wanted o (yielded ops a.tmps) then o.wpIn (FR none) 0 P a w (λa w=>wpOpsIn (FR none) 0 P ops Q (List.range' (k+1) os.length) a w) Q else (∀ f,o.about P w a.eval=some f→(FR none).fn f)∧wpOpsIn (FR none) 0 P ops Q (List.range' (k+1) os.length) (a.put o.dst undef) w:=by
    intro Qv hw hn
    have hfr:=λn=>qJl P (qFo P g.ext.1 n) ops.toList o T
    obtain ⟨n,v,H1,h1,S,h2,h3,s1,rfl,h5,hv⟩:=wpF.frame hfr hw hf.dis H hf.rel
    obtain ⟨es,d,_⟩:=hfr n H _ H1 h1
    obtain ⟨_,r2,r3⟩:=qSO g.mixed g.nonum g.ext n
    exact qMY (K:=λa w=>wpOpsIn (FR none) 0 P ops Q (List.range' (k+1) os.length) a w) r2 r3 g.nonum h1 (qFo P g.ext.1 n) hTr hf.one hf.wr (hf.freeTo _) λv' w1 ρ1 hp hrel=>hn v v' s1 ρ1 H1 w1 hv (qV4 hf hp d h2 h5 h3) hrel
   rcases hcase with ⟨hw,h⟩ | ⟨hw,h⟩
   ·rcases qPo h with h | ⟨c,f,hop,hce,hfn,h⟩
    ·exact go (qEf hw hT ha.1 h) λv v' s1 ρ1 H1 w1 hv st hrel=>next v v' _ s1 ρ1 H1 w1 (λenv' e4 _=>hkn'.forget e4) hv st hrel
    ·rw [qLW hw hTr]
     simp only [if_true]
     have hoo:=qMZ ha.1 (by rw [hop];intro t g;simp)
     rw [hop] at hoo
     have hargs:c.args.toList.all okX=true:=List.all_eq_true.2 λx hx=>List.all_eq_true.1 hoo x (by
      show x∈c.operands.toList
      unfold Call.operands;simp only [Array.toList_append,List.mem_append];exact .inr hx)
     have hopA:opA P T o.op H=some (.enter f (c.args.toList.map (evD env)),H):=by
      rw [hop]
      show qH9 P T c H=_
      unfold qH9
      rw [qOJ hT hargs]
      simp only [hce,ev,List.nil_append,List.append_nil]
      unfold goA
      rw [hfn];rfl
     have hnd:∀ c,o.op≠.defer c:=λc e=>by rw [hop] at e;cases e
     obtain ⟨nx,w1,ρ1,e1,x1,x2,x3,x4⟩:=qY6 (P:=P) (a:=a) g.nonum hopA hTr hf.one hf.wr (hf.freeTo _)
     obtain ⟨args',rfl,hra⟩:=x4
     refine ⟨qEH,?_⟩
     rw [Oper.semAt_eq _ _ _ hnd,e1]
     have hf1:Fit σ ρ1 base s t H w1:=⟨hf.one,hf.rel,x2,λid hid=>by rw [x1.out id (.inr hid)];exact hf.free id hid,hf.dis⟩
     have st0:Stp σ ρ ρ1 base s s t H H w w1:=⟨⟨x1,x2,x3⟩,Nat.le_refl _,rfl,.refl _,hf1⟩
     refine ⟨λh=>by simp [FR,Fence.wide] at h,?_⟩
     have h5:CallsIn (FR none) 0 P f args' w1 _:=h g t σ ρ1 base H w1 args' hf1 hra
     refine h5.mono ?_
     rintro e w2 ⟨v,v',s2,ρ2,H2,rfl,hv,st,hk⟩
     exact next v v' _ s2 ρ2 H2 w2 (λenv' e4 _=>hkn'.forget e4) hk (st0.trans st) hv
   ·exact go (qKO (s:=s) (Q:=λv s'=>v=.undef∧s'=s) hw ⟨rfl,rfl⟩) λv v' s1 ρ1 H1 w1 hv st hrel=>by
     obtain ⟨rfl,rfl⟩:=hv
     exact next .undef v' _ s1 ρ1 H1 w1 (λenv' e4 e5=>hkn'.mark e4 λd hd=>e5 d hd) h st hrel
end Go.AM
namespace Go.AM
open Go Go.RowKit
variable {ρ:Ren} {nt:Nat} {s s1 s2 t:Hq} {H H1:AH} {w:World} {P:Program} {X:Td}
def qTA (st:MapStep) (ls slots:List Nat) (body:Env→(AExit→Env→Hq→Prop)→Hq→Prop) (env:Env) (K:AExit→Env→Hq→Prop) (s:Hq):Prop:=
 oK (qNS s (env st.it)) λp=>∃ I:List Nat→List AV→Hq→Prop,I [] (ls.map env) (hdel s p.1)∧
  ∀ (sn:List Nat) (f:Env) (s1:Hq),I sn (ls.map f) s1→s1 p.1=none→qQf s1 p.2.1 p.2.2.2.1 p.2.2.2.2∧
   (∀ e∈p.2.2.2.2,hasN e.born sn=false→body (zABi st (mixE slots f env) e) (λex env' s2=>match ex with
    | .nrm=>I (sn ++ [e.born]) (ls.map env') (hdel s2 p.1)
    | ex=>K ex env' (hdel s2 p.1)) (hset s1 p.1 (true,.iter p.2.1 p.2.2.1 (sn ++ [e.born]) p.2.2.2.1)))∧
   ((∀ e∈p.2.2.2.2,hasN e.born sn=true)→body (zABv st (mixE slots f env)) (λex env' s2=>match ex with
     | .nrm=>False
     | ex=>K ex env' s2) s1)
def qSu (nt:Nat) (st:MapStep) (slots:List Nat):Bool:=(!memN st.it slots)&&((memN st.nx slots&&memN st.more slots)&&(Nat.blt st.nx nt&&Nat.blt st.more nt))
theorem zAAE {c:Code} {e:AExit} (hc:∀ (Q:Exit→Act→World→Prop) (a:Act) (w:World),Q (qN9 e) a w→c.wpIn (FR none) 0 P Q a w) {env:Env} {K:AExit→Env→Hq→Prop} {s:Hq} (h:K e env s):CW P X nt c env K s:=
 λ_ _ _ ρ _ H w T a Q hf hT hTr hd hQ=>hc Q a w (hQ e env s T ρ H a w h hT (λ_ _=>rfl) (.refl hf) hTr hd)
theorem qQp {seen:List Nat}:∀ {es:List AEnt},qGb seen es=[]→∀ e∈es,hasN e.born seen=true
 | x :: es,h,e,he=>by
   unfold qGb at h
   cases c:hasN x.born seen with
   | false=>rw [c] at h;cases h
   | true=>
     rw [c] at h
     rcases mC he with rfl | he
     ·exact c
     ·exact qQp h e he
theorem zABy {s0:Hq} {r stp:Nat} {mo:Option Nat} {since c:Nat} {sn:List Nat} {es:List AEnt} (hrel:HRel s0 H) (hit:H.blks.get r=some (.iter mo since sn stp)) (hst:since≤stp) (hmap:qQf s0 mo c es) (hold:qIe since es=true) :
  ∃ d H1,qT2 (.ptr r 0) H=some ((d,qGb sn es),H1)∧d.b=r∧∀ m,mo=some m→d.m=m∧d.since=since∧d.seen=sn∧d.clock=c:=by
 cases mo with
 | none=>
   have hmap:es=[]:=hmap
   subst hmap
   refine ⟨⟨r,0,0,[],0⟩,{ H with log:=[(r,false)] ++ H.log },?_,rfl,λm e=>by cases e⟩
   show bd (rd r) _ H=_
   unfold bd rd
   rw [hit]
   rfl
 | some m=>
   obtain ⟨tg,hm⟩:=hmap
   obtain ⟨_,ab,g1,g2⟩:=hrel.at_ m tg _ hm
   cases ab <;> first | exact g2.elim | skip
   obtain ⟨rfl,rfl⟩:=g2
   refine ⟨⟨r,m,since,sn,c⟩,{ H with log:=[(m,false),(r,false)] ++ H.log },?_,rfl,λm' e=>by cases e;exact ⟨rfl,rfl,rfl,rfl⟩⟩
   show bd (rd r) _ H=_
   unfold bd rd
   rw [hit]
   simp only
   rw [g1]
   simp only [bL hst,hold,Bool.and_self,cond_true]
   rfl
theorem qQf.add {s0:Hq} {mo:Option Nat} {c:Nat} {es:List AEnt} (h:qQf s0 mo c es) (t:Hq):qQf (add s0 t) mo c es:=by
 cases mo with
 | none=>exact h
 | some m=>obtain ⟨tg,hm⟩:=h;exact ⟨tg,qAZ hm⟩
end Go.AM
namespace Go.AM
open Go Go.RowKit Go.ChangeShapes Go.WideShapes Go.ChangeAt
variable {ρ':Ren} {base:Nat} {s s' t:Hq} {H H':AH} {P:Program} {X:Td} {W:List Nat}
theorem law_of_wpW {H:Type} {enc:TypeId × Value→H} (hm:P.follows .mixedOrders=true) (hname:noNumB P=true) (hX:ExtOK P X) {f:FuncId} {ts:List TypeId} (d:Nat) (hp:(ts.all λt=>plainT P d t)=true)
  (h:∀ (s:Hq) (xs:List AV),ArgL P s d ts xs→wpW P X f xs (λv _=>v=.bool true) s) {W:World} {base:Nat} {args:Array Value} {ds:List (DataW H)} {ps:List MemPlace}
  (hA:DataW.TrodAll enc P W 0 (λ_=>true) true ts args.toList ds ps) (hv:∀ (j:Nat) t v,ts[j]?=some t→args[j]?=some v→Value.okWide P W .any base t v) :
  Calls P f args W λe W'=>e=.returned (.bool true)∧Below W.heap.size W W':=by
 have hσ:One (λ_=>Value.bool true):=λ_=>rfl
 obtain ⟨xs,C,h1,h2,h3⟩:=qQD (W:=W) hσ d base ts args.toList ds ps [] (λi x hx=>by simp at hx) hp hA λj t v hj hj'=>hv j t v hj (by simpa using hj')
 rw [List.nil_append] at h1 h2 h3
 have e0:add (qJN C) (λ_=>none)=qJN C:=by funext i;unfold add;cases qJN C i <;> rfl
 have hfit:Fit (λ_=>Value.bool true) (rhoB C) W.heap.size (qJN C) (λ_=>none) (memB C) W:=by
  refine ⟨hσ,by rw [e0];exact zAAY C h1,qZj C h1,λid hlo=>?_,λi hi=>absurd rfl hi⟩
  cases id with
  | zero=>exact absurd hlo (by show ¬ C.length+1≤0;omega)
  | succ i=>
    have:C.length+1≤i+1:=hlo
    unfold rhoB
    simp only
    rw [List.getElem?_eq_none (by omega)]
 refine callsIn_wide.1 ((h (qJN C) xs h3 ⟨hm,qS3 hname,hX⟩ _ _ _ _ _ W args hfit h2).mono ?_)
 rintro e W' ⟨v,v',s',ρ',H',rfl,hr,st,rfl⟩
 unfold Rel at hr
 subst hr
 exact ⟨rfl,st.post.below⟩
end Go.AM
namespace Go.AM
open Go Go.RowKit
variable {σ:Nat→Value} {ρ ρ' ρ1 ρ2:Ren} {base nt:Nat} {s s' s1 s2 t h:Hq} {H H' H1 H2:AH} {w w' w1 w2:World} {P:Program} {X:Td} {W:List Nat} {env env1 env2:Env} {T T1 T2:Tmps} {a:Act}
section
variable (P X)
def opsS (W:List Nat) (nt:Nat):List Oper→Env→(Env→Hq→Prop)→Hq→Prop
 | [],env,K,s=>K env s
 | o :: os,env,K,s=>opW P X W env (λv s=>setK nt o.dst env v λenv=>opsS W nt os env K s) s o.op
def qZh (nt:Nat):List Oper→Env→(Env→Prop)→Hq→Prop
 | [],env,K,_=>K env
 | o :: os,env,K,h=>∃ v:AV,setK nt o.dst env v λenv=>qZh nt os env (λenv1=>wpOp P X env1 (λv' h'=>h'=h∧v'=v) h o.op∧K env1) h
def qIr (ops:List Oper):List Nat→List Oper
 | []=>[]
 | i :: l=>match ops[i]? with
   | some o=>o :: qIr ops l
   | none=>qIr ops l
def zABW (W:List Nat) (nt:Nat) (ss ms:List Nat) (ops:List Oper) (env:Env) (K:Env→Hq→Prop) (s:Hq):Prop:=
 ∃ h:Hq,Sub h s∧qZh P X nt (qIr ops ss) env (λenv1=>opsS P X W nt (qIr ops ms) env1 (λenv2 s2=>K env2 (add s2 h)) (minus s h)) h
end
def ordB (ops:Array Oper) (i j:Nat):Bool:=Nat.testBit ((masks ops.toList []).getD j 0) i
def ordL (ops:Array Oper):List Nat→Bool
 | []=>true
 | i :: l=>(l.all λj=>ordB ops i j&&!(Nat.beq i j))&&ordL ops l
def zAAR (ops:Array Oper) (ss:List Nat) (p:Nat) (o:Oper):Bool:=match o.dst with
 | none=>false
 | some d=>!(o.looksAt ops).contains d&&((List.range ops.size).all λq=>Nat.beq q p||(match ops.toList[q]? with
   | none=>true
   | some y=>!(y.dst == some d)&&(!(y.looksAt ops).contains d||ordB ops p q)&&(memN q ss||(match y.dst with
     | some e=>!(o.looksAt ops).contains e
     | none=>true))))
def qRc (ops:Array Oper) (ss ms:List Nat):Bool:=
 qDM ops.toList&&(ops.toList.all λo=>okOp o.op&&o.guard.isNone)&&((List.range ops.size).all λi=>memN i ss != memN i ms)&&(ms.all λj=>Nat.blt j ops.size)&&(ss.all λj=>Nat.blt j ops.size)&&ordL ops ms &&
  (ss.all λp=>match ops.toList[p]? with | some o=>zAAR ops ss p o | none=>false)&&ordL2 ss
where ordL2:List Nat→Bool
 | []=>true
 | i :: l=>!memN i l&&ordL2 l
structure DrawOK (ops:Array Oper) (ss ms:List Nat):Prop where
 rg:qDM ops.toList=true
 ok:∀ (j:Nat) (o:Oper),ops[j]?=some o→okOp o.op=true∧o.guard=none
 cov:∀ j,j < ops.size→(j∈ss∨j∈ms)∧¬ (j∈ss∧j∈ms)
 msl:∀ j∈ms,j < ops.size
 ord:ms.Pairwise λi j=>ordB ops i j=true∧i≠j
 sd:∀ (p:Nat) (o:Oper),p∈ss→ops[p]?=some o→∃ d,o.dst=some d∧d ∉ o.looksAt ops∧∀ (q:Nat) (y:Oper),ops[q]?=some y→q≠p→y.dst≠some d∧(d∈y.looksAt ops→ordB ops p q=true)∧(q ∉ ss→∀ e,y.dst=some e→e ∉ o.looksAt ops)
 ssn:ss.Nodup
 ssl:∀ j∈ss,j < ops.size
theorem qHo {i:Nat} {l:List Nat}:memN i l=true↔i∈l:=qH6
theorem qQs {ops:Array Oper}:∀ {l:List Nat},ordL ops l=true→l.Pairwise λi j=>ordB ops i j=true∧i≠j
 | [],_=>.nil
 | i :: l,h=>by
   unfold ordL at h
   rw [Bool.and_eq_true] at h
   refine .cons (λj hj=>?_) (qQs h.2)
   have:=List.all_eq_true.1 h.1 j hj
   rw [Bool.and_eq_true] at this
   refine ⟨this.1,λe=>?_⟩
   subst e
   simp at this
theorem qOC:∀ {l:List Nat},qRc.ordL2 l=true→l.Nodup
 | [],_=>.nil
 | i :: l,h=>by
   unfold qRc.ordL2 at h
   rw [Bool.and_eq_true] at h
   refine List.nodup_cons.2 ⟨λe=>?_,qOC h.2⟩
   rw [qHo.2 e] at h
   simp at h
theorem qY2 {ops:Array Oper} {ss ms:List Nat} (h:qRc ops ss ms=true):DrawOK ops ss ms:=by
 unfold qRc at h
 simp only [Bool.and_eq_true] at h
 obtain ⟨⟨⟨⟨⟨⟨⟨h1,h2⟩,h3⟩,h4⟩,h5⟩,h6⟩,h7⟩,h8⟩:=h
 refine ⟨h1,λj o ho=>?_,λj hj=>?_,λj hj=>?_,qQs h6,λp o hp ho=>?_,qOC h8,λj hj=>?_⟩
 ·have:=List.all_eq_true.1 h2 o (by rw [Array.mem_toList_iff];exact Array.mem_of_getElem? ho)
  rw [Bool.and_eq_true] at this
  exact ⟨this.1,by simpa using this.2⟩
 ·have:=List.all_eq_true.1 h3 j (List.mem_range.2 hj)
  cases e1:memN j ss with
  | true=>
    have e2:memN j ms=false:=by
     cases e2:memN j ms with
     | false=>rfl
     | true=>rw [e1,e2] at this;cases this
    refine ⟨.inl (qHo.1 e1),λq=>?_⟩
    rw [qHo.2 q.2] at e2;cases e2
  | false=>
    have e2:memN j ms=true:=by
     cases e2:memN j ms with
     | true=>rfl
     | false=>rw [e1,e2] at this;cases this
    refine ⟨.inr (qHo.1 e2),λq=>?_⟩
    rw [qHo.2 q.1] at e1;cases e1
 ·have:=List.all_eq_true.1 h4 j hj
  simpa [Nat.blt_eq] using this
 ·have:=List.all_eq_true.1 h7 p hp
  have ho':ops.toList[p]?=some o:=by rw [Array.getElem?_toList];exact ho
  rw [ho'] at this
  simp only at this
  unfold zAAR at this
  cases hd:o.dst with
  | none=>rw [hd] at this;cases this
  | some d=>
    rw [hd] at this
    simp only [Bool.and_eq_true] at this
    obtain ⟨k1,k2⟩:=this
    refine ⟨d,rfl,by simpa using k1,λq y hq hne=>?_⟩
    have hql:=(Array.getElem?_eq_some_iff.1 hq).1
    have k3:=List.all_eq_true.1 k2 q (List.mem_range.2 hql)
    have hq':ops.toList[q]?=some y:=by rw [Array.getElem?_toList];exact hq
    rw [hq'] at k3
    have e0:Nat.beq q p=false:=by
     cases e:Nat.beq q p with
     | false=>rfl
     | true=>exact absurd (bE e) hne
    rw [e0] at k3
    simp only [Bool.false_or,Bool.and_eq_true,Bool.or_eq_true,Bool.not_eq_true'] at k3
    obtain ⟨⟨k4,k5⟩,k6⟩:=k3
    refine ⟨by simpa using k4,λhin=>?_,λhss e he=>?_⟩
    ·rcases k5 with k5 | k5
     ·simp at k5;exact absurd hin k5
     ·exact k5
    ·rcases k6 with k6 | k6
     ·exact absurd (qHo.1 k6) hss
     ·rw [he] at k6
      simpa using k6
 ·have:=List.all_eq_true.1 h5 j hj
  simpa [Nat.blt_eq] using this
theorem qOz:∀ (l:List Nat) (T:Tmps) (env:Env),(∀ i,i ∉ l→tget T i=env i)→∃ T',TR T' env
 | [],T,env,h=>⟨T,λi=>h i (by simp)⟩
 | d :: l,T,env,h=>by
   refine qOz l (T.put d (some (env d))) env λi hi=>?_
   have:=qNv (T:=T) (env:=λi=>tget T i) (λ_=>rfl) d (env d) i
   rw [this]
   unfold upd
   cases e:Nat.beq i d with
   | true=>rw [bE e];rfl
   | false=>
     refine h i λq=>?_
     rcases mC q with q | q
     ·rw [q,Nat.beq_refl] at e;cases e
     ·exact hi q
theorem qXe {K:Env→Prop}:∀ {os:List Oper} {env:Env},(os.Pairwise λx y=>∀ d,x.dst=some d→y.dst≠some d)→qZh P X nt os env K h→
  ∃ env1,K env1∧(∀ i,(∀ o∈os,o.dst≠some i)→env1 i=env i)∧∀ o∈os,∃ v,wpOp P X env1 (λv' h'=>h'=h∧v'=v) h o.op∧∀ d,o.dst=some d→env1 d=v∧Nat.blt d nt=true:=by
 intro os
 induction os generalizing K with
 | nil=>intro env _ hk;exact ⟨env,hk,λ_ _=>rfl,λo ho=>by cases ho⟩
 | cons o os ih=>
   intro env hp hk
   obtain ⟨v,hk⟩:=hk
   have hp2:=(List.pairwise_cons.1 hp)
   cases hd:o.dst with
   | none=>
     rw [hd] at hk
     obtain ⟨env1,k1,k2,k3⟩:=ih hp2.2 hk
     refine ⟨env1,k1.2,λi hi=>k2 i λx hx=>hi x (mO _ hx),λx hx=>?_⟩
     rcases mC hx with rfl | hx
     ·exact ⟨v,k1.1,λd e=>by rw [hd] at e;cases e⟩
     ·exact k3 x hx
   | some d=>
     rw [hd] at hk
     unfold setK at hk
     simp only at hk
     cases hb:Nat.blt d nt with
     | false=>rw [hb] at hk;exact hk.elim
     | true=>
       rw [hb,cond_true] at hk
       obtain ⟨env1,k1,k2,k3⟩:=ih hp2.2 hk
       refine ⟨env1,k1.2,λi hi=>?_,λx hx=>?_⟩
       ·rw [k2 i λx hx=>hi x (mO _ hx)]
        unfold upd
        cases e:Nat.beq i d with
        | false=>rfl
        | true=>exact absurd (by rw [hd,bE e]) (hi o List.mem_cons_self)
       ·rcases mC hx with rfl | hx
        ·refine ⟨v,k1.1,λd' e=>?_⟩
         rw [hd] at e
         cases e
         refine ⟨?_,hb⟩
         rw [k2 d λy hy=>hp2.1 y hy d hd]
         unfold upd
         rw [Nat.beq_refl];rfl
        ·exact k3 x hx
theorem zAAG {ops:Array Oper} {o:Oper} (h:∀ x∈o.looksAt ops,tget T x=tget T1 x):∀ x∈o.op.operands,ev T x=ev T1 x:=by
 intro x hx
 cases x with
 | tmp t=>rw [qO4,qO4,h t (List.mem_append_left _ (List.mem_filterMap.2 ⟨.tmp t,by simpa using hx,rfl⟩))]
 | _=>rfl
theorem qU6 (g:Grd P X) {ops:Array Oper} {o:Oper} {K:AV→Hq→Prop} (hok:okOp o.op=true) (hgd:o.guard=none) (hk:opW P X W env K s o.op) (hf:Fit σ ρ base s t H w) (hT:TR T1 env) (hTT:∀ x∈o.looksAt ops,tget T x=tget T1 x) (hTr:TRel σ ρ nt T a.tmps)
  {Q:Exit→Act→World→Prop} {KK:Act→World→Prop} (next:∀ v v' s1 ρ1 H1 w1,K v s1→Stp σ ρ ρ1 base s s1 t H H1 w w1→Rel σ ρ1 v v'→KK (a.put o.dst v') w1) :
  if Region.wanted o (yielded ops a.tmps) then o.wpIn (FR none) 0 P a w KK Q else (∀ f,o.about P w a.eval=some f→(FR none).fn f)∧KK (a.put o.dst undef) w:=by
 have hw:qCT ops.toList T1 o.guard=some true:=by rw [hgd];rfl
 have hwT:qCT ops.toList T o.guard=some true:=by rw [hgd];rfl
 rcases qPo hk with h | ⟨c,f,hop,hce,hfn,h⟩
 ·have hwp:=qEf (all:=ops.toList) hw hT hok h
  have hfr:=λn=>qJl P (qFo P g.ext.1 n) ops.toList o T1
  obtain ⟨n,v,H1,h1,S,h2,h3,s1,rfl,h5,hv⟩:=wpF.frame hfr hwp hf.dis H hf.rel
  obtain ⟨es,d,_⟩:=hfr n H _ H1 h1
  obtain ⟨_,r2,r3⟩:=qSO g.mixed g.nonum g.ext n
  have h1:qDc P (run P X n) ops.toList o T1 H=some (v,H1):=h1
  rw [← qNU (P:=P) (ih:=run P X n) (T:=T) hTT] at h1
  exact qMY (K:=KK) r2 r3 g.nonum h1 (qFo P g.ext.1 n) hTr hf.one hf.wr (hf.freeTo _) λv' w1 ρ1 hp hrel=>next v v' s1 ρ1 H1 w1 hv (qV4 hf hp d h2 h5 h3) hrel
 ·rw [qLW hwT hTr]
  simp only [if_true]
  have hoo:=qMZ hok (by rw [hop];intro t g;simp)
  rw [hop] at hoo
  have hargs:c.args.toList.all okX=true:=List.all_eq_true.2 λx hx=>List.all_eq_true.1 hoo x (by
   show x∈c.operands.toList
   unfold Call.operands;simp only [Array.toList_append,List.mem_append];exact .inr hx)
  have hopA:opA P T o.op H=some (.enter f (c.args.toList.map (evD env)),H):=by
   rw [qQQ (P:=P) (T:=T) (T':=T1) (zAAG hTT),hop]
   show qH9 P T1 c H=_
   unfold qH9
   rw [qOJ hT hargs]
   simp only [hce,ev,List.nil_append,List.append_nil]
   unfold goA
   rw [hfn];rfl
  have hnd:∀ c,o.op≠.defer c:=λc e=>by rw [hop] at e;cases e
  obtain ⟨nx,w1,ρ1,e1,x1,x2,x3,x4⟩:=qY6 (P:=P) (a:=a) g.nonum hopA hTr hf.one hf.wr (hf.freeTo _)
  obtain ⟨args',rfl,hra⟩:=x4
  refine ⟨qEH,?_⟩
  rw [Oper.semAt_eq _ _ _ hnd,e1]
  have hf1:Fit σ ρ1 base s t H w1:=⟨hf.one,hf.rel,x2,λid hid=>by rw [x1.out id (.inr hid)];exact hf.free id hid,hf.dis⟩
  have st0:Stp σ ρ ρ1 base s s t H H w w1:=⟨⟨x1,x2,x3⟩,Nat.le_refl _,rfl,.refl _,hf1⟩
  refine ⟨λh=>by simp [FR,Fence.wide] at h,?_⟩
  have h5:CallsIn (FR none) 0 P f args' w1 _:=h g t σ ρ1 base H w1 args' hf1 hra
  refine h5.mono ?_
  rintro e w2 ⟨v,v',s2,ρ2,H2,rfl,hv,st,hk⟩
  exact next v v' s2 ρ2 H2 w2 hk (st0.trans st) hv
theorem qWq (hd:∀ i,h i≠none→s i=none):add s (add h t)=add h (add s t):=by
 funext i
 cases q:s i with
 | some x=>
   rw [qAZ q]
   have:h i=none:=by
    cases q2:h i with
    | none=>rfl
    | some y=>have:=hd i (by rw [q2];simp);rw [q] at this;cases this
   rw [qAX this,qAZ q]
 | none=>
   rw [qAX q]
   cases q2:h i with
   | some y=>rw [qAZ q2,qAZ q2]
   | none=>rw [qAX q2,qAX q2,qAX q]
theorem qEU {i:Nat}:add s t i=none↔s i=none∧t i=none:=by
 cases q:s i with
 | some x=>rw [qAZ q];simp
 | none=>rw [qAX q];simp
theorem Fit.swap (hf:Fit σ ρ base s (add h t) H w) (hd:∀ i,t i≠none→h i=none):Fit σ ρ base h (add s t) H w:=by
 have hsh:∀ i,h i≠none→s i=none:=λi hi=>hf.dis i λq=>hi (qEU.1 q).1
 refine ⟨hf.one,by rw [← qWq hsh];exact hf.rel,hf.wr,hf.free,λi hi=>?_⟩
 cases q:s i with
 | some x=>
   cases q2:h i with
   | none=>rfl
   | some y=>have:=hsh i (by rw [q2];simp);rw [q] at this;cases this
 | none=>exact hd i λe=>hi (qEU.2 ⟨q,e⟩)
theorem qJn {ops:List Oper} {o:Oper}:∀ {l:List Nat},o∈qIr ops l↔∃ i∈l,ops[i]?=some o
 | []=>by simp [qIr]
 | i :: l=>by
   unfold qIr
   cases q:ops[i]? with
   | none=>
     simp only
     rw [qJn]
     constructor
     ·rintro ⟨j,hj,e⟩;exact ⟨j,mO _ hj,e⟩
     ·rintro ⟨j,hj,e⟩
      rcases mC hj with rfl | hj
      ·rw [q] at e;cases e
      ·exact ⟨j,hj,e⟩
   | some y=>
     simp only [List.mem_cons]
     rw [qJn]
     constructor
     ·rintro (rfl | ⟨j,hj,e⟩)
      ·exact ⟨i,.inl rfl,q⟩
      ·exact ⟨j,.inr hj,e⟩
     ·rintro ⟨j,rfl | hj,e⟩
      ·rw [q] at e;cases e;exact .inl rfl
      ·exact .inr ⟨j,hj,e⟩
theorem qQJ {ops:List Oper} {R:Oper→Oper→Prop}:∀ {l:List Nat},l.Nodup→(∀ i j x y,i∈l→j∈l→i≠j→ops[i]?=some x→ops[j]?=some y→R x y)→(qIr ops l).Pairwise R
 | [],_,_=>by unfold qIr;exact .nil
 | i :: l,hn,h=>by
   obtain ⟨n1,n2⟩:=List.nodup_cons.1 hn
   have ih:=qQJ (ops:=ops) (R:=R) n2 λa b x y ha hb=>h a b x y (mO _ ha) (mO _ hb)
   unfold qIr
   cases q:ops[i]? with
   | none=>exact ih
   | some o=>
     refine List.pairwise_cons.2 ⟨λy hy=>?_,ih⟩
     obtain ⟨j,hj,e⟩:=qJn.1 hy
     exact h i j o y List.mem_cons_self (mO _ hj) (λc=>n1 (c ▸ hj)) q e
structure DrInv (P:Program) (X:Td) (W:List Nat) (σ:Nat→Value) (base nt:Nat) (ops:Array Oper) (ss ms:List Nat) (env1:Env) (h t:Hq) (ρ0:Ren) (s0:Hq) (H0:AH) (w0:World) (R:Env→Hq→Prop) (X0:Nat→Prop) (a:Act) (w:World):Prop where
 ex:∃ (k:Nat) (env:Env) (s:Hq) (T:Tmps) (ρ:Ren) (H:AH),k≤ms.length∧(∀ n i,ms[n]?=some i→(X0 i↔n < k))∧Closed ops X0∧opsS P X W nt (qIr ops.toList (ms.drop k)) env R s∧Stp σ ρ0 ρ base s0 s (add h t) H0 H w0 w∧
  (∀ x,(∀ p∈ss,¬ X0 p→∀ o,ops[p]?=some o→o.dst≠some x)→tget T x=env x)∧(∀ p∈ss,∀ o,ops[p]?=some o→(∀ d,o.dst=some d→env d=env1 d)∧∀ x∈o.looksAt ops,env x=env1 x)∧TRel σ ρ nt T a.tmps∧a.defers=[]∧(∀ x,(∀ i,i < ops.size→∀ o,ops[i]?=some o→o.dst≠some x)→env x=env1 x)
theorem qUu (g:Grd P X) {ops:Array Oper} {ss ms:List Nat} (dk:DrawOK ops ss ms) (hd:∀ i,t i≠none→h i=none) {ρ0:Ren} {s0:Hq} {H0:AH} {w0:World} {R:Env→Hq→Prop} {X0:Nat→Prop} {Q:Exit→Act→World→Prop} {KK:Act→World→Prop}
  (hside:∀ p∈ss,∀ o,ops[p]?=some o→∃ v,wpOp P X env1 (λv' h'=>h'=h∧v'=v) h o.op∧∀ d,o.dst=some d→env1 d=v∧Nat.blt d nt=true)
  (z:DrInv P X W σ base nt ops ss ms env1 h t ρ0 s0 H0 w0 R X0 a w) {j:Nat} {o:Oper} (ho:ops[j]?=some o) (hj:¬ X0 j) (hready:∀ e∈o.after,Region.binds .any e=true→X0 e.on)
  (next:∀ a' w',DrInv P X W σ base nt ops ss ms env1 h t ρ0 s0 H0 w0 R (λi=>i=j∨X0 i) a' w'→KK a' w'):wpOpIn (FR none) 0 P ops Q j KK a w:=by
 obtain ⟨k,env,s,T,ρ,H,hk,hm,hc,hops,st,hT,hS,hTr,hdf,hrest⟩:=z.ex
 have hjl:=(Array.getElem?_eq_some_iff.1 ho).1
 obtain ⟨hok,hgd⟩:=dk.ok j o ho
 obtain ⟨hback,_⟩:=qIC dk.rg
 have back:∀ (j:Nat) (o:Oper),ops[j]?=some o→∀ e∈o.after,Region.binds .any e=true→e.on < j:=λj o ho e he hb=>by
  have:=qFD ops.toList 0 hback j o (by rw [Array.getElem?_toList];exact ho) e he hb
  omega
 obtain ⟨L,l1,l2,_⟩:=qOQ ops.toList []
 have before:∀ i,ordB ops i j=true→X0 i:=λi hb=>by
  unfold ordB at hb
  have hlen:(masks ops.toList []).length=ops.size:=by rw [l1];simp [l2]
  have hm:(masks ops.toList [])[j]?=some ((masks ops.toList []).getD j 0):=by
   rw [List.getD_eq_getElem?_getD,gE (by omega)];rfl
  exact qKN back X0 hc j o _ i ho hm hb hready
 have closed':Closed ops (λi=>i=j∨X0 i):=by
  intro i p hp hi e he hb
  rcases hi with rfl | hi
  ·rw [ho] at hp;cases hp;exact .inr (hready e he hb)
  ·exact .inr (hc i p hp hi e he hb)
 have hf:Fit σ ρ base s (add h t) H w:=st.fit
 unfold wpOpIn
 simp only [ho]
 have look:∀ x∈o.looksAt ops,tget T x=env x:=λx hx=>by
  refine hT x λp hp hnp op hop hdst=>?_
  obtain ⟨d,h1,h2,h3⟩:=dk.sd p op hp hop
  rw [h1] at hdst
  cases hdst
  by_cases e:j=p
  ·subst e
   rw [ho] at hop;cases hop
   exact h2 hx
  ·exact hnp (before p ((h3 j o ho e).2.1 hx))
 by_cases hjs:j∈ss
 ·-- a load that goes first
  obtain ⟨v,hwp,hv⟩:=hside j hjs o ho
  obtain ⟨d,hd1,hd2,hd3⟩:=dk.sd j o hjs ho
  obtain ⟨hvd,hbd⟩:=hv d hd1
  obtain ⟨sd1,sd2⟩:=hS j hjs o ho
  obtain ⟨T2,hT2⟩:∃ T2,TR T2 env1:=by
   refine qOz (ops.toList.filterMap (·.dst)) T env1 λx hx=>?_
   have hx':∀ i,i < ops.size→∀ o,ops[i]?=some o→o.dst≠some x:=λi _ o ho e=>hx (List.mem_filterMap.2 ⟨o,by rw [Array.mem_toList_iff];exact Array.mem_of_getElem? ho,e⟩)
   rw [hT x λp hp _ op hop=>hx' p (Array.getElem?_eq_some_iff.1 hop).1 op hop]
   exact hrest x hx'
  have hTT:∀ x∈o.looksAt ops,tget T x=tget T2 x:=λx hx=>by rw [look x hx,hT2 x];exact sd2 x hx
  have hf2:=hf.swap hd
  have hwp2:opW P X [] env1 (λv' h'=>h'=h∧v'=v) h o.op:=by
   unfold opW
   split
   ·rename_i c hc
    rw [hc] at hwp
    split
    ·rw [show memN _ []=false from rfl,cond_false];exact hwp
    ·exact hwp
   ·exact hwp
  refine qU6 (W:=[]) (env:=env1) g hok hgd hwp2 hf2 hT2 hTT hTr λv1 v' h1 ρ1 H1 w1 hv1 st1 hrel=>?_
  obtain ⟨rfl,rfl⟩:=hv1
  have hd':∀ i,t i≠none→s i=none:=λi hi=>hf.dis i λq=>hi (qEU.1 q).2
  have hf3:Fit σ ρ1 base s (add h1 t) H1 w1:=st1.fit.swap hd'
  have hset:setT nt T (some d) v1=some (T.put d (some v1)):=by simp only [setT,hbd,cond_true]
  refine next _ w1 ⟨k,env,s,T.put d (some v1),ρ1,H1,hk,λn i hi=>?_,closed',hops,?_,λx hx=>?_,hS,?_,by rw [qBp];exact hdf,hrest⟩
  ·rw [← hm n i hi]
   have hne:i≠j:=λe=>(dk.cov j hjl).2 ⟨hjs,by rw [← e];exact mG hi⟩
   exact ⟨λq=>q.resolve_left hne,.inr⟩
  ·exact ⟨st.post.trans st1.post st.next st1.next,Nat.le_trans st.next st1.next,st1.lo.trans st.lo,st.pers,hf3⟩
  ·rw [qNv (T:=T) (env:=λi=>tget T i) (λ_=>rfl) d v1 x]
   unfold upd
   cases e:Nat.beq x d with
   | true=>
     have e:=bE e
     subst e
     rw [cond_true,← hvd]
     exact (sd1 x hd1).symm
   | false=>
     rw [cond_false]
     refine hT x λp hp hnp op hop hdst=>?_
     by_cases e2:p=j
     ·subst e2
      rw [ho] at hop;cases hop
      rw [hd1] at hdst;cases hdst
      rw [Nat.beq_refl] at e;cases e
     ·exact hx p hp (λq=>q.elim e2 hnp) op hop hdst
  ·rw [hd1]
   exact qD9 hset (hTr.mono st1.post.ext.le) hrel
 ·-- the next one in order
  have hjm:j∈ms:=(dk.cov j hjl).1.resolve_left hjs
  obtain ⟨n,hn⟩:=List.mem_iff_getElem?.1 hjm
  have hnk:k≤n:=by
   have:=hm n j hn
   rcases Nat.lt_or_ge n k with q | q
   ·exact absurd (this.2 q) hj
   ·exact q
  have hnk2:n=k:=by
   rcases Nat.lt_or_ge k n with q | q
   ·exfalso
    obtain ⟨n1,n2⟩:=gS hn
    have hk2:ms[k]?=some ms[k]:=gE (by omega)
    have:=(List.pairwise_iff_getElem.1 dk.ord k n (by omega) n1 q).1
    rw [n2] at this
    have:=(hm k _ hk2).1 (before _ this)
    omega
   ·omega
  subst hnk2
  have hkl:=(gS hn).1
  have hdrop:ms.drop n=j :: ms.drop (n+1):=by
   rw [List.drop_eq_getElem_cons hkl]
   rw [(gS hn).2]
  rw [hdrop] at hops
  have hpick:qIr ops.toList (j :: ms.drop (n+1))=o :: qIr ops.toList (ms.drop (n+1)):=by
   show (match ops.toList[j]? with | some o=>o :: qIr ops.toList (ms.drop (n+1)) | none=>qIr ops.toList (ms.drop (n+1)))=_
   rw [Array.getElem?_toList,ho]
  rw [hpick] at hops
  have hops:opW P X W env (λv s=>setK nt o.dst env v λenv=>opsS P X W nt (qIr ops.toList (ms.drop (n+1))) env R s) s o.op:=hops
  obtain ⟨T1,hT1⟩:∃ T1,TR T1 env:=by
   refine qOz (ops.toList.filterMap (·.dst)) T env λx hx=>hT x λp hp _ op hop e=>hx (List.mem_filterMap.2 ⟨op,by rw [Array.mem_toList_iff];exact Array.mem_of_getElem? hop,e⟩)
  have hTT:∀ x∈o.looksAt ops,tget T x=tget T1 x:=λx hx=>by rw [look x hx,hT1 x]
  refine qU6 g hok hgd hops hf hT1 hTT hTr λv v' s1 ρ1 H1 w1 hv1 st1 hrel=>?_
  have mains:∀ (env':Env) (T':Tmps),opsS P X W nt (qIr ops.toList (ms.drop (n+1))) env' R s1→(∀ x,o.dst≠some x→env' x=env x)→(∀ x,o.dst≠some x→tget T' x=tget T x)→(∀ x,o.dst=some x→env' x=v∧tget T' x=v)→TRel σ ρ1 nt T' (a.put o.dst v').tmps→KK (a.put o.dst v') w1:=λenv' T' b1 b2 b3 b4 b5=>by
   refine next _ w1 ⟨n+1,env',s1,T',ρ1,H1,by omega,λm i hi=>?_,closed',b1,st.trans st1,λx hx=>?_,λp hp op hop=>?_,b5,by rw [qBp];exact hdf,λx hx=>?_⟩
   ·have e1:=hm m i hi
    constructor
    ·rintro (q | q)
     ·subst q
      rcases Nat.lt_trichotomy m n with q | q | q
      ·omega
      ·omega
      ·exfalso
       obtain ⟨m1,m2⟩:=gS hi
       have:=(List.pairwise_iff_getElem.1 dk.ord n m hkl m1 q).2
       rw [m2,(gS hn).2] at this
       exact this rfl
     ·have:=e1.1 q;omega
    ·intro q
     rcases Nat.lt_or_ge m n with q2 | q2
     ·exact .inr (e1.2 q2)
     ·have:m=n:=by omega
      subst this
      rw [hn] at hi
      cases hi
      exact .inl rfl
   ·by_cases e:o.dst=some x
    ·obtain ⟨c1,c2⟩:=b4 x e
     rw [c1,c2]
    ·rw [b2 x e,b3 x e]
     exact hT x λp hp hnp op hop=>hx p hp (λq=>q.elim (λq=>hjs (q ▸ hp)) hnp) op hop
   ·obtain ⟨c1,c2⟩:=hS p hp op hop
    obtain ⟨d,f1,f2,f3⟩:=dk.sd p op hp hop
    have hne:j≠p:=λe=>hjs (e ▸ hp)
    obtain ⟨g1,_,g3⟩:=f3 j o ho hne
    refine ⟨λd' hd'=>?_,λx hx=>?_⟩
    ·rw [f1] at hd'
     cases hd'
     rw [b2 d g1]
     exact c1 d f1
    ·rw [b2 x λe=>g3 hjs x e hx]
     exact c2 x hx
   ·rw [b2 x (hx j hjl o ho)]
    exact hrest x hx
  cases hds:o.dst with
  | none=>
    rw [hds] at hv1 mains
    exact mains env T hv1 (λ_ _=>rfl) (λ_ _=>rfl) (λx e=>by cases e) (hTr.mono st1.post.ext.le)
  | some d=>
    rw [hds] at hv1 mains
    unfold setK at hv1
    simp only at hv1
    cases hb:Nat.blt d nt with
    | false=>rw [hb] at hv1;exact hv1.elim
    | true=>
      rw [hb,cond_true] at hv1
      have hset:setT nt T (some d) v=some (T.put d (some v)):=by simp only [setT,hb,cond_true]
      have tp:=qNv (T:=T) (env:=λi=>tget T i) (λ_=>rfl) d v
      refine mains (upd env d v) (T.put d (some v)) hv1 (λx hx=>?_) (λx hx=>?_) (λx hx=>?_) (qD9 hset (hTr.mono st1.post.ext.le) hrel)
      ·unfold upd
       cases e:Nat.beq x d with
       | true=>exact absurd (by rw [bE e]) hx
       | false=>rfl
      ·rw [tp x]
       unfold upd
       cases e:Nat.beq x d with
       | true=>exact absurd (by rw [bE e]) hx
       | false=>rfl
      ·cases hx
       rw [tp d]
       unfold upd
       rw [Nat.beq_refl]
       exact ⟨rfl,rfl⟩
theorem qZx (g:Grd P X) {ops:Array Oper} {ss ms:List Nat} (dk:DrawOK ops ss ms) (hd:∀ i,t i≠none→h i=none) {ρ0:Ren} {s0:Hq} {H0:AH} {w0:World} {R:Env→Hq→Prop} {Q:Exit→Act→World→Prop}
  (hside:∀ p∈ss,∀ o,ops[p]?=some o→∃ v,wpOp P X env1 (λv' h'=>h'=h∧v'=v) h o.op∧∀ d,o.dst=some d→env1 d=v∧Nat.blt d nt=true)
  (hQ:∀ (listed:Nat→Prop) a w,(∀ i,i < ops.size→listed i)→DrInv P X W σ base nt ops ss ms env1 h t ρ0 s0 H0 w0 R listed a w→Q .normal a w) :
  ∀ (fuel:Nat) (listed:Array Bool) (a:Act) (w:World),listed.size=ops.size→cntF listed.toList≤fuel→DrInv P X W σ base nt ops ss ms env1 h t ρ0 s0 H0 w0 R (Done listed) a w→wpAnyIn (FR none) 0 P .any ops Q fuel listed a w:=by
 obtain ⟨hback,_⟩:=qIC dk.rg
 have back:∀ (j:Nat) (o:Oper),ops[j]?=some o→∀ e∈o.after,Region.binds .any e=true→e.on < j:=λj o ho e he hb=>by
  have:=qFD ops.toList 0 hback j o (by rw [Array.getElem?_toList];exact ho) e he hb
  omega
 have ready:∀ (listed:Array Bool),listed.size=ops.size→Region.ready .any ops listed=[]→∀ i,i < ops.size→Done listed i:=by
  intro listed hs hnil i
  induction i using Nat.strongRecOn with
  | _ i ih2=>
    intro hi
    unfold Done
    cases hg:listed.getD i true with
    | true=>rfl
    | false=>
      exfalso
      have ho:ops[i]?=some ops[i]:=Array.getElem?_eq_getElem hi
      have:i∈Region.ready .any ops listed:=mem_ready.2 ⟨hg,_,ho,λe he hb=>by
       have hlt:=back i _ ho e he hb
       have:=ih2 e.on hlt (by omega)
       unfold Done at this
       simp [Array.getElem?_eq_getElem (by omega:e.on < listed.size)] at this ⊢
       exact this⟩
      rw [hnil] at this;cases this
 intro fuel
 induction fuel with
 | zero=>
   intro listed a w hs hcnt hi
   have hall:∀ i,i < ops.size→Done listed i:=by
    intro i _
    unfold Done
    cases hg:listed.getD i true with
    | true=>rfl
    | false=>exact absurd (undone hg) (qMv _ (by omega) i)
   refine ⟨?_,hQ _ _ _ hall hi⟩
   cases hrd:Region.ready .any ops listed with
   | nil=>rfl
   | cons x xs=>
     exfalso
     have hx:x∈Region.ready .any ops listed:=by rw [hrd];simp
     obtain ⟨h1,o,ho,_⟩:=mem_ready.1 hx
     have:=hall x (Array.getElem?_eq_some_iff.1 ho).1
     unfold Done at this
     rw [h1] at this;cases this
 | succ fuel ih2=>
   intro listed a w hs hcnt hi
   refine ⟨λhnil=>hQ _ _ _ (ready listed hs hnil) hi,λj hj=>?_⟩
   obtain ⟨hjun,o,ho,hall⟩:=mem_ready.1 hj
   have hjx:¬ Done listed j:=by unfold Done;rw [hjun];simp
   refine qUu g dk hd hside hi ho hjx (λe he hb=>qLH (hall e he hb)) ?_
   intro a' w' hi'
   refine ih2 _ a' w' (by simp [hs]) ?_ (by rw [qSp hjun];exact hi')
   have:=qPX _ _ (undone hjun)
   rw [Array.toList_setIfInBounds]
   omega
theorem qWu {id:Nat} {ops:Array Oper} {ss ms:List Nat} (hb:qRc ops ss ms=true) {K:AExit→Env→Hq→Prop} (hk:zABW P X W nt ss ms ops.toList env (λenv s=>K .nrm env s) s):CW P X nt (.region id ops true) env K s:=by
 intro g t σ ρ base H w T a Q hf hT hTr hdf hQ
 have dk:=qY2 hb
 obtain ⟨h,hsub,hside⟩:=hk
 have dsn:=dk.ssn
 have pw:(qIr ops.toList ss).Pairwise λx y=>∀ d,x.dst=some d→y.dst≠some d:=qQJ dsn λi j x y hi hj hne hx hy d hd=>by
  rw [Array.getElem?_toList] at hx hy
  obtain ⟨d',h1,_,h3⟩:=dk.sd i x hi hx
  rw [h1] at hd
  cases hd
  exact (h3 j y hy (Ne.symm hne)).1
 obtain ⟨env1,hops,hsame,hsides⟩:=qXe pw hside
 have hsides':∀ p∈ss,∀ o,ops[p]?=some o→∃ v,wpOp P X env1 (λv' h'=>h'=h∧v'=v) h o.op∧∀ d,o.dst=some d→env1 d=v∧Nat.blt d nt=true:=λp hp o ho=>hsides o (qJn.2 ⟨p,hp,by rw [Array.getElem?_toList];exact ho⟩)
 have hdt:∀ i,t i≠none→h i=none:=λi hi=>by
  cases q:h i with
  | none=>rfl
  | some x=>have:=hsub i x q;rw [hf.dis i hi] at this;cases this
 have e1:add (minus s h) (add h t)=add s t:=by
  funext i
  cases q:h i with
  | some x=>
    rw [qAX (show minus s h i=none by unfold minus;rw [if_neg (by rw [q];simp)]),qAZ q,qAZ (hsub i x q)]
  | none=>
    have e:minus s h i=s i:=by unfold minus;rw [if_pos q]
    cases q2:s i with
    | some y=>rw [qAZ (e.trans q2),qAZ q2]
    | none=>rw [qAX (e.trans q2),qAX q,qAX q2]
 have hms:Sub (minus s h) s:=λi e hi=>by
  unfold minus at hi
  split at hi
  ·exact hi
  ·cases hi
 have hf0:Fit σ ρ base (minus s h) (add h t) H w:=⟨hf.one,by rw [e1];exact hf.rel,hf.wr,hf.free,λi hi=>by
  cases q:h i with
  | some x=>unfold minus;rw [if_neg (by rw [q];simp)]
  | none=>
    rw [qAX q] at hi
    cases q2:minus s h i with
    | none=>rfl
    | some y=>have:=hms i y q2;rw [hf.dis i hi] at this;cases this⟩
 refine wpIn_region_any g.mixed ?_
 have hfD:Fit σ ρ base (minus s h) (add h t) H { w with drawn:=w.drawn+1 }:=by
  obtain ⟨x1,x2,x3,x4⟩:=hf0.wr
  exact ⟨hf0.one,hf0.rel,⟨x1,x2,x3,x4⟩,hf0.free,hf0.dis⟩
 have st0:Stp σ ρ ρ base (minus s h) (minus s h) (add h t) H H w { w with drawn:=w.drawn+1 }:=⟨⟨.refl _ _ _,hfD.wr,⟨rfl,rfl,rfl,Nat.le_refl _,λ_ _=>rfl⟩⟩,Nat.le_refl _,rfl,.refl _,hfD⟩
 have hno:∀ i,i < ops.size→¬ Done (Array.replicate ops.size false) i:=by
  intro i hi
  unfold Done
  simp [hi]
 refine qZx (W:=W) (σ:=σ) (base:=base) (nt:=nt) (R:=λenv2 s2=>K .nrm env2 (add s2 h)) (ρ0:=ρ) (s0:=minus s h) (H0:=H) (w0:=w) g dk hdt hsides' ?_ ops.size _ a _ (by simp) (by simp [qKJ]) ⟨0,env1,minus s h,T,ρ,H,Nat.zero_le _,λn i hi=>?_,?_,hops,st0,λx hx=>?_,λp hp o ho=>⟨λ_ _=>rfl,λ_ _=>rfl⟩,hTr,hdf,λx hx=>rfl⟩
 ·intro listed a' w' hall z
  obtain ⟨k,env',s',T',ρ',H',hk,hm,hc,hops',st,hT',hS,hTr',hdf',hrest⟩:=z.ex
  have hkl:k=ms.length:=by
   rcases Nat.lt_or_ge k ms.length with q | q
   ·exfalso
    have hk2:ms[k]?=some ms[k]:=gE q
    have:=(hm k _ hk2).1 (hall _ (dk.msl _ (List.getElem_mem q)))
    omega
   ·omega
  subst hkl
  rw [List.drop_length] at hops'
  have hops':K .nrm env' (add s' h):=hops'
  have hTR:TR T' env':=λx=>hT' x λp hp hn=>absurd (hall p (dk.ssl p hp)) hn
  have hhs:∀ i,h i≠none→s' i=none:=λi hi=>st.fit.dis i λq=>hi (qEU.1 q).1
  have e2:add (add s' h) t=add s' (add h t):=by
   funext i
   cases q:s' i with
   | some x=>rw [qAZ (qAZ q),qAZ q]
   | none=>
     rw [qAX q]
     cases q2:h i with
     | some y=>rw [qAZ (by rw [qAX q];exact q2),qAZ q2]
     | none=>rw [qAX (by rw [qAX q];exact q2),qAX q2]
  refine hQ .nrm env' (add s' h) T' ρ' H' a' w' hops' hTR (λx hx=>?_) ⟨st.post,st.next,st.lo,λi b hi=>?_,st.fit.one,by rw [e2];exact st.fit.rel,st.fit.wr,st.fit.free,λi hi=>?_⟩ hTr' hdf'
  ·have hx':∀ i,i < ops.size→∀ o,ops[i]?=some o→o.dst≠some x:=λi _ o ho e=>hx (qHe (by rw [Array.mem_toList_iff];exact Array.mem_of_getElem? ho) e)
   rw [hrest x hx']
   refine hsame x λo ho=>?_
   obtain ⟨p,hp,e⟩:=qJn.1 ho
   rw [Array.getElem?_toList] at e
   exact hx' p (Array.getElem?_eq_some_iff.1 e).1 o e
  ·cases q:h i with
   | some x=>
     have:=hsub i x q
     rw [hi] at this
     cases this
     rw [qAX (hhs i (by rw [q];simp))];exact q
   | none=>
     have hmi:minus s h i=some (true,b):=by unfold minus;rw [if_pos q];exact hi
     exact qAZ (st.pers i b hmi)
  ·refine qEU.2 ⟨st.fit.dis i λq=>hi (qEU.1 q).2,hdt i hi⟩
 ·constructor
  ·intro q
   exact absurd q (hno i (dk.msl i (mG hi)))
  ·intro q;omega
 ·intro i o ho hi
  exact absurd hi (hno i (Array.getElem?_eq_some_iff.1 ho).1)
 ·rw [hT x]
  exact (hsame x λo ho e=>by
   obtain ⟨p,hp,e2⟩:=qJn.1 ho
   rw [Array.getElem?_toList] at e2
   exact hx p hp (hno p (Array.getElem?_eq_some_iff.1 e2).1) o e2 e).symm
end Go.AM
namespace Go.AM
open Go Go.RowKit
variable {σ:Nat→Value} {ρ ρ' ρ1 ρ2:Ren} {base nt:Nat} {s s' s1 s2 t:Hq} {H H' H1 H2:AH} {w w' w1 w2:World} {P:Program} {X:Td} {A:Nat→List Nat} {W:List Nat} {D:Nat→Option (List Nat × List Nat)}
def wpCV (P:Program) (X:Td) (W:List Nat) (D:Nat→Option (List Nat × List Nat)) (A:Nat→List Nat) (nt:Nat):Code→Env→(AExit→Env→Hq→Prop)→Hq→Prop
 | .skip,env,K,s=>K .nrm env s
 | .region id ops draw,env,K,s=>cond draw (match D id with | some p=>cond (qRc ops p.1 p.2) (zABW P X W nt p.1 p.2 ops.toList env (λenv s=>K .nrm env s) s) False | none=>wpC P X A nt none (.region id ops true) env K s)
   (cond ((ops.toList.all λo=>okOp o.op)&&(qC1 ops.toList).isNone) (opsW P X W nt ops.toList ops.toList [] env (λenv s=>K .nrm env s) s) False)
 | .seq a b,env,K,s=>wpCV P X W D A nt a env (λe env s=>match e with
   | .nrm=>wpCV P X W D A nt b env K s
   | e=>K e env s) s
 | .cond c a b,env,K,s=>cond (okX c) (qAP (evD env c) (wpCV P X W D A nt a env K s) (wpCV P X W D A nt b env K s)) False
 | .block id b,env,K,s=>wpCV P X W D A nt b env (λe env s=>match e with
   | .exit id'=>cond (Nat.beq id' id) (K .nrm env s) (K (.exit id') env s)
   | e=>K e env s) s
 | .loop b,env,K,s=>match qCb b with
   | some st=>cond (qSu nt st (assigned b)) (qTA st (A (2 * qIx b)) (assigned b) (match b with
     | .seq _ r=>λenv K s=>wpCV P X W D A nt r env K s
     | _=>λ_ _ _=>False) env K s) False
   | none=>qXI (A (2 * qIx b)) (assigned b) (λenv K s=>wpCV P X W D A nt b env K s) env K s
 | .exit id,env,K,s=>K (.exit id) env s
 | .ret,env,K,s=>K .ret env s
 | _,_,_,_=>False
def qMN (P:Program) (X:Td) (W:List Nat) (D:Nat→Option (List Nat × List Nat)) (A:Nat→List Nat) (nt:Nat) (c:Code):Prop:=∀ (env:Env) (K:AExit→Env→Hq→Prop) (s:Hq),wpCV P X W D A nt c env K s→CW P X nt c env K s
theorem qYj {id:Nat} {ops:Array Oper} {draw:Bool}:qMN P X W D A nt (.region id ops draw):=by
 intro env K s h
 unfold wpCV at h
 cases draw with
 | true=>
   rw [cond_true] at h
   cases hD:D id with
   | none=>rw [hD] at h;exact CW.lift rfl h
   | some p=>
     rw [hD] at h
     cases hb:qRc ops p.1 p.2 with
     | false=>simp only [hb] at h;exact h.elim
     | true=>simp only [hb] at h;exact qWu hb h
 | false=>
   rw [cond_false] at h
   cases hok:((ops.toList.all λo=>okOp o.op)&&(qC1 ops.toList).isNone) with
   | false=>rw [hok] at h;exact h.elim
   | true=>
     rw [hok,cond_true] at h
     obtain ⟨hok,hdn⟩:=Bool.and_eq_true_iff.1 hok
     intro g t σ ρ base H w T a Q hf hT hTr hd hQ
     refine wpIn_region ?_
     rw [qSc]
     have:=qU4 (W:=W) (ops:=ops) (Q:=Q) (K:=λenv s=>K .nrm env s) g ops.toList 0 [] env s ρ H w T a (λj _=>by simp) hok .nil h hf hT hTr hd λenv' s' T' ρ' H' a' w' k1 k2 k3 k4 k5 k6=>
      hQ .nrm env' s' T' ρ' H' a' w' k1 k2 (λj hj=>k3 j λo ho hd=>hj (qHe ho hd)) k4 k5 k6
     simpa using this
theorem seqV {a b:Code} (ha:qMN P X W D A nt a) (hb:qMN P X W D A nt b):qMN P X W D A nt (.seq a b):=by
 intro env K s h g t σ ρ base H w T ac Q hf hT hTr hd hQ
 unfold wpCV at h
 refine wpIn_seq (ha env _ s h g t σ ρ base H w T ac _ hf hT hTr hd λe env1 s1 T1 ρ1 H1 a1 w1 k1 k2 k3 k4 k5 k6=>?_)
 cases e with
 | nrm=>
   refine hb env1 K s1 k1 g t σ ρ1 base H1 w1 T1 a1 Q k4.fit k2 k5 k6 λe env2 s2 T2 ρ2 H2 a2 w2 j1 j2 j3 j4 j5 j6=>?_
   exact hQ e env2 s2 T2 ρ2 H2 a2 w2 j1 j2 (λj hj=>by simp only [assigned,List.mem_append,not_or] at hj;exact (j3 j hj.2).trans (k3 j hj.1)) (k4.trans j4) j5 j6
 | exit id=>exact hQ _ env1 s1 T1 ρ1 H1 a1 w1 k1 k2 (λj hj=>by simp only [assigned,List.mem_append,not_or] at hj;exact k3 j hj.1) k4 k5 k6
 | ret=>exact hQ _ env1 s1 T1 ρ1 H1 a1 w1 k1 k2 (λj hj=>by simp only [assigned,List.mem_append,not_or] at hj;exact k3 j hj.1) k4 k5 k6
theorem zABf {c:Operand} {a b:Code} (ha:qMN P X W D A nt a) (hb:qMN P X W D A nt b):qMN P X W D A nt (.cond c a b):=by
 intro env K s h g t σ ρ base H w T ac Q hf hT hTr hd hQ
 unfold wpCV at h
 cases hok:okX c with
 | false=>rw [hok] at h;exact h.elim
 | true=>
   rw [hok,cond_true] at h
   have hv:=qBE (a:=ac) (qMK hT hok) hTr
   unfold qAP at h
   split at h
   ·rename_i e
    rw [e] at hv
    unfold Rel at hv
    exact wpIn_cond hv (ha env K s h g t σ ρ base H w T ac Q hf hT hTr hd λe env1 s1 T1 ρ1 H1 a1 w1 k1 k2 k3 k4 k5 k6=>hQ e env1 s1 T1 ρ1 H1 a1 w1 k1 k2 (λj hj=>k3 j λq=>hj (by simp [assigned,q])) k4 k5 k6)
   ·rename_i e
    rw [e] at hv
    unfold Rel at hv
    exact wpIn_cond hv (hb env K s h g t σ ρ base H w T ac Q hf hT hTr hd λe env1 s1 T1 ρ1 H1 a1 w1 k1 k2 k3 k4 k5 k6=>hQ e env1 s1 T1 ρ1 H1 a1 w1 k1 k2 (λj hj=>k3 j λq=>hj (by simp [assigned,q])) k4 k5 k6)
   ·exact h.elim
theorem zAAa {id:Nat} {b:Code} (hb:qMN P X W D A nt b):qMN P X W D A nt (.block id b):=by
 intro env K s h g t σ ρ base H w T ac Q hf hT hTr hd hQ
 unfold wpCV at h
 refine wpIn_block (hb env _ s h g t σ ρ base H w T ac _ hf hT hTr hd λe env1 s1 T1 ρ1 H1 a1 w1 k1 k2 k3 k4 k5 k6=>?_)
 cases e with
 | exit id'=>
   simp only at k1
   cases hb:Nat.beq id' id with
   | true=>
     rw [hb] at k1
     have e:=bE hb
     show (if id'=id then _ else _)
     rw [if_pos e]
     exact hQ .nrm env1 s1 T1 ρ1 H1 a1 w1 k1 k2 k3 k4 k5 k6
   | false=>
     rw [hb] at k1
     have e:id'≠id:=λe=>by subst e;simp at hb
     show (if id'=id then _ else _)
     rw [if_neg e]
     exact hQ (.exit id') env1 s1 T1 ρ1 H1 a1 w1 k1 k2 k3 k4 k5 k6
 | nrm=>exact hQ .nrm env1 s1 T1 ρ1 H1 a1 w1 k1 k2 k3 k4 k5 k6
 | ret=>exact hQ .ret env1 s1 T1 ρ1 H1 a1 w1 k1 k2 k3 k4 k5 k6
theorem zABK {b:Code} (hb:qMN P X W D A nt b) {ls:List Nat} {env:Env} {K:AExit→Env→Hq→Prop} {s:Hq} (h:qXI ls (assigned b) (λenv K s=>wpCV P X W D A nt b env K s) env K s):CW P X nt (.loop b) env K s:=by
 intro g t σ ρ base H w T a Q hf hT hTr hd hQ
 obtain ⟨I,⟨m,h0⟩,hstep⟩:=h
 refine wpIn_loop_rounds (m+1) ?_
 have key:∀ (k m:Nat) (env1:Env) (s1:Hq) (T1:Tmps) (ρ1:Ren) (H1:AH) (a1:Act) (w1:World),m < k→I (ls.map env1) s1 m→TR T1 env1→(∀ j,j ∉ assigned b→env1 j=env j)→Stp σ ρ ρ1 base s s1 t H H1 w w1→TRel σ ρ1 nt T1 a1.tmps→a1.defers=[]→Code.roundsIn (FR none) 0 P b Q k a1 w1:=by
  intro k
  induction k with
  | zero=>intro m env1 s1 T1 ρ1 H1 a1 w1 hm;omega
  | succ k ih=>
    intro m env1 s1 T1 ρ1 H1 a1 w1 hm hI hT1 hoff st hTr1 hd1
    rw [roundsIn_succ]
    have hbody:=hstep env1 s1 m hI
    have hmix:mixE (assigned b) env1 env=env1:=by
     funext j
     unfold mixE
     cases hj:memN j (assigned b) with
     | true=>rfl
     | false=>exact (hoff j λq=>by rw [qH6.2 q] at hj;cases hj).symm
    rw [hmix] at hbody
    refine hb env1 _ s1 hbody g t σ ρ1 base H1 w1 T1 a1 _ st.fit hT1 hTr1 hd1 λe env2 s2 T2 ρ2 H2 a2 w2 k1 k2 k3 k4 k5 k6=>?_
    have hoff2:∀ j,j ∉ assigned b→env2 j=env j:=λj hj=>(k3 j hj).trans (hoff j hj)
    cases e with
    | nrm=>
      obtain ⟨m',hlt,hI'⟩:=k1
      exact ih m' env2 s2 T2 ρ2 H2 a2 w2 (by omega) hI' k2 hoff2 (st.trans k4) k5 k6
    | exit id=>exact hQ _ env2 s2 T2 ρ2 H2 a2 w2 k1 k2 hoff2 (st.trans k4) k5 k6
    | ret=>exact hQ _ env2 s2 T2 ρ2 H2 a2 w2 k1 k2 hoff2 (st.trans k4) k5 k6
 exact key (m+1) m env s T ρ H a w (Nat.lt_succ_self _) h0 hT (λ_ _=>rfl) (.refl hf) hTr hd
theorem qSJ {b:Code} {st:MapStep} (hms:qCb b=some st) (hb:qMN P X W D A nt st.rest) (hok:qSu nt st (assigned b)=true) {ls:List Nat} {env:Env} {K:AExit→Env→Hq→Prop} {s:Hq}
  (h:qTA st ls (assigned b) (λenv K s=>wpCV P X W D A nt st.rest env K s) env K s):CW P X nt (.loop b) env K s:=by
 intro g t σ ρ base H w T a Q hf hT hTr hd hQ
 unfold qSu at hok
 simp only [Bool.and_eq_true,Bool.not_eq_true'] at hok
 obtain ⟨hits,⟨k3,k4⟩,k5,k6⟩:=hok
 obtain ⟨p,hp,I,hI0,hstep⟩:=qAo h
 obtain ⟨r,mo,since,c,es⟩:=p
 simp only at hI0 hstep
 obtain ⟨hit,stepped,q1,q2,q3,q4,_,_⟩:=qR7 hp
 obtain ⟨b0,hseq⟩:=qH3 hms
 have hsub:∀ j,memN j (assigned b)=false→j ∉ assigned st.rest∧Nat.beq j st.nx=false∧Nat.beq j st.more=false:=λj hj=>by
  refine ⟨λhm=>?_,?_,?_⟩
  ·rw [hseq] at hj
   have:memN j (assigned b0 ++ assigned st.rest)=true:=qH6.2 (List.mem_append_right _ hm)
   rw [show assigned (.seq b0 st.rest)=assigned b0 ++ assigned st.rest from rfl] at hj
   rw [hj] at this;cases this
  ·cases e:Nat.beq j st.nx with
   | false=>rfl
   | true=>rw [bE e,k3] at hj;cases hj
  ·cases e:Nat.beq j st.more with
   | false=>rfl
   | true=>rw [bE e,k4] at hj;cases hj
 have hmix:∀ env1,Off (assigned b) env env1→mixE (assigned b) env1 env=env1:=λenv1 ho=>by
  funext j
  unfold mixE
  cases hj:memN j (assigned b) with
  | true=>rfl
  | false=>exact (ho j hj).symm
 have offs:∀ {env1 env':Env} {v u:AV},Off (assigned b) env env1→(∀ j,j ∉ assigned st.rest→env' j=upd (upd env1 st.nx v) st.more u j)→Off (assigned b) env env':=fun {env1 env' v u} ho hj j hm=>by
  obtain ⟨z1,z2,z3⟩:=hsub j hm
  rw [hj j z1]
  unfold upd
  rw [z3,z2]
  exact ho j hm
 have toOff:∀ {env':Env},Off (assigned b) env env'→∀ j,j ∉ assigned (.loop b)→env' j=env j:=fun {env'} ho j hj=>by
  refine ho j ?_
  cases e:memN j (assigned b) with
  | false=>rfl
  | true=>exact absurd (qH6.1 e) hj
 have htr:t r=none:=by
  cases e:t r with
  | none=>rfl
  | some x=>have:=hf.dis r (by rw [e];simp);rw [q1] at this;cases this
 obtain ⟨lo1,ab,g1,g2⟩:=hf.rel.at_ r false _ (qAZ q1)
 cases ab <;> first | exact g2.elim | skip
 obtain ⟨rfl,rfl,rfl,rfl⟩:=g2
 have hdsub:Sub (hdel s r) s:=λi e hi=>by
  unfold hdel at hi
  split at hi
  ·cases hi
  ·exact hi
 have hf0:Fit σ ρ base (hdel s r) t H w:=hf.sub hdsub
 have hQ2:∀ e env' s' T' ρ' H' a' w',K e env' s'→TR T' env'→Off (assigned b) env env'→Stp σ ρ ρ' base (hdel s r) s' t H H' w w'→TRel σ ρ' nt T' a'.tmps→a'.defers=[]→Q (qN9 e) a' w':=λe env' s' T' ρ' H' a' w' j1 j2 j3 j4 j5 j6=>
  hQ e env' s' T' ρ' H' a' w' j1 j2 (toOff j3) ⟨j4.post,j4.next,j4.lo,λi bk hi=>j4.pers i bk (by
   show (if i=r then none else s i)=_
   rw [if_neg λq=>by rw [q,q1] at hi;cases hi];exact hi),j4.fit⟩ j5 j6
 refine wpIn_loop_rounds (es.length+1) ?_
 have key:∀ (k:Nat) (sn:List Nat) (env1:Env) (s1:Hq) (stp:Nat) (T1:Tmps) (ρ1:Ren) (H1:AH) (a1:Act) (w1:World),(qGb sn es).length < k→I sn (ls.map env1) s1→s1 r=none→H1.blks.get r=some (.iter mo since sn stp)→since≤stp→
   TR T1 env1→Off (assigned b) env env1→Stp σ ρ ρ1 base (hdel s r) s1 t H H1 w w1→TRel σ ρ1 nt T1 a1.tmps→a1.defers=[]→Code.roundsIn (FR none) 0 P b Q k a1 w1:=by
  intro k
  induction k with
  | zero=>intro sn env1 s1 stp T1 ρ1 H1 a1 w1 hk;omega
  | succ k ih=>
    intro sn env1 s1 stp T1 ρ1 H1 a1 w1 hk hI hs1 hb1 hstp hT1 hoff sp hTr1 hd1
    rw [roundsIn_succ]
    obtain ⟨hmap,hmore,hdone⟩:=hstep sn env1 s1 hI hs1
    rw [hmix env1 hoff] at hmore hdone
    obtain ⟨d,HA,z1,z2,z3⟩:=zABy sp.fit.rel hb1 hstp (hmap.add t) q4
    have hx:=hTr1.at_ st.it
    rw [hT1 st.it,hoff st.it hits,hit] at hx
    obtain ⟨c1,c2,c3,c4⟩:=qVb (P:=P) z1 hx sp.fit.wr
    have n1:st.nx < nt:=by simpa [Nat.blt_eq] using k5
    have n2:st.more < nt:=by simpa [Nat.blt_eq] using k6
    rcases c4 with ⟨hl,c5⟩ | ⟨e,he,e',w2,c5,c6,c7⟩
    ·refine qO8 (t:=false) hms (by rw [hTr1.size];exact n1) c5 rfl ?_
     have hput:TRel σ ρ1 nt ((T1.put st.nx (some (.tup [.bool false]))).put st.more (some (.bool false))) ((a1.put (some st.nx) (.tuple #[.bool false])).put (some st.more) (.bool false)).tmps:=
      qD9 (v:=.bool false) (v':=.bool false) (dst:=some st.more) (T:=T1.put st.nx (some (.tup [.bool false]))) (by simp only [setT];rw [k6];rfl)
       (qD9 (v:=.tup [.bool false]) (v':=.tuple #[.bool false]) (dst:=some st.nx) (T:=T1) (by simp only [setT];rw [k5];rfl) hTr1 (by unfold Rel;exact ⟨_,rfl,.cons (by unfold Rel;rfl) .nil⟩)) (by unfold Rel;rfl)
     refine hb _ _ s1 (hdone (qQp hl)) g t σ ρ1 base H1 w1 _ _ _ sp.fit (qNv (qNv hT1 st.nx (.tup [.bool false])) st.more (.bool false)) hput (by rw [qBp,qBp];exact hd1) λex env2 s2 T2 ρ2 H2 a2 w2 j1 j2 j3 j4 j5 j6=>?_
     cases ex with
     | nrm=>exact j1.elim
     | exit id=>exact hQ2 _ env2 s2 T2 ρ2 H2 a2 w2 j1 j2 (offs hoff j3) (sp.trans j4) j5 j6
     | ret=>exact hQ2 _ env2 s2 T2 ρ2 H2 a2 w2 j1 j2 (offs hoff j3) (sp.trans j4) j5 j6
    ·obtain ⟨m1,m2⟩:=qNB he
     obtain ⟨m,rfl⟩:∃ m,mo=some m:=by
      cases mo with
      | none=>have hmap:es=[]:=hmap;rw [hmap] at m1;cases m1
      | some m=>exact ⟨m,rfl⟩
     obtain ⟨dm,dsi,dse,dcl⟩:=z3 m rfl
     have hlo:H1.lo≤r:=by rw [sp.lo];exact lo1 rfl
     have ht:qVu d e HA=some ((),{ HA with blks:=HA.blks.put r (some (.iter (some m) since (sn ++ [e.born]) c)),log:=(r,true) :: HA.log }):=by
      unfold qVu wr
      rw [z2,c2,bL hlo,cond_true,c1,hb1,dm,dsi,dse,dcl]
     obtain ⟨y1,y2,y3⟩:=c7 _ () ht
     generalize hH2:({ HA with blks:=HA.blks.put r (some (.iter (some m) since (sn ++ [e.born]) c)),log:=(r,true) :: HA.log }:AH)=HB at y1 y2 ht
     have b1:∀ i,HB.blks.get i=if r=i then some (.iter (some m) since (sn ++ [e.born]) c) else H1.blks.get i:=λi=>by rw [← hH2];show (HA.blks.put r _).get i=_;rw [Tr.get_put,c1]
     have b2:HB.lo=H1.lo:=by rw [← hH2];exact c2
     have f2:Fit σ ρ1 base (hset s1 r (true,.iter (some m) since (sn ++ [e.born]) c)) t HB w2:=by
      refine ⟨hf.one,⟨by rw [b2,y1];exact sp.fit.rel.lo,λi hi=>?_,λi tg bk hi=>?_⟩,y2,λid hid=>sp.fit.free id (by rw [← y1];exact hid),λi hi=>?_⟩
      ·rw [y1]
       rw [b1] at hi
       split at hi
       ·rename_i q;subst q;exact sp.fit.rel.wf r (by rw [hb1];simp)
       ·exact sp.fit.rel.wf i hi
      ·rw [b1,b2]
       by_cases q:i=r
       ·subst q
        rw [if_pos rfl]
        rw [qAZ qHl] at hi
        cases hi
        exact ⟨(λq=>by cases q),_,rfl,rfl,rfl,rfl,rfl⟩
       ·rw [if_neg (Ne.symm q)]
        refine sp.fit.rel.at_ i tg bk ?_
        rw [← hi]
        unfold add
        rw [qGT q]
      ·have:i≠r:=λq=>by subst q;exact hi htr
       rw [qGT this]
       exact sp.fit.dis i hi
     have hput:TRel σ ρ1 nt ((T1.put st.nx (some (.tup [.bool true,e.key,e.val]))).put st.more (some (.bool true))) ((a1.put (some st.nx) (.tuple #[.bool true,e'.key,e'.val])).put (some st.more) (.bool true)).tmps:=
      qD9 (v:=.bool true) (v':=.bool true) (dst:=some st.more) (T:=T1.put st.nx (some (.tup [.bool true,e.key,e.val]))) (by simp only [setT];rw [k6];rfl)
       (qD9 (v:=.tup [.bool true,e.key,e.val]) (v':=.tuple #[.bool true,e'.key,e'.val]) (dst:=some st.nx) (T:=T1) (by simp only [setT];rw [k5];rfl) hTr1 (by unfold Rel;exact ⟨_,rfl,.cons (by unfold Rel;rfl) (.cons c5.key (.cons c5.val .nil))⟩)) (by unfold Rel;rfl)
     refine qO8 (t:=true) hms (by rw [hTr1.size];exact n1) c6 rfl ?_
     refine hb _ _ _ (hmore e m1 m2) g t σ ρ1 base HB w2 _ _ _ f2 (qNv (qNv hT1 st.nx (.tup [.bool true,e.key,e.val])) st.more (.bool true)) hput (by rw [qBp,qBp];exact hd1) λex env2 s2 T2 ρ2 H2 a2 w3 j1 j2 j3 j4 j5 j6=>?_
     have hr2:s2 r=some (true,.iter (some m) since (sn ++ [e.born]) c):=j4.pers r _ qHl
     have f3:Fit σ ρ2 base (hdel s2 r) t H2 w3:=j4.fit.sub λi x hi=>by
      unfold hdel at hi
      split at hi
      ·cases hi
      ·exact hi
     have sp2:Stp σ ρ ρ2 base (hdel s r) (hdel s2 r) t H H2 w w3:=by
      have po:Post σ ρ1 ρ1 base H1 HB w1 w2:=⟨by rw [y1];exact .refl _ _ _,y2,y3⟩
      refine ⟨(sp.post.trans po sp.next (by rw [y1];exact Nat.le_refl _)).trans j4.post (by rw [y1];exact sp.next) j4.next,Nat.le_trans sp.next (by rw [← y1];exact j4.next),j4.lo.trans (b2.trans sp.lo),λi bk hi=>?_,f3⟩
      have hne:i≠r:=λq=>by subst q;rw [qKq] at hi;cases hi
      rw [qGu hne]
      refine j4.pers i bk ?_
      rw [qGT hne]
      exact sp.pers i bk hi
     cases ex with
     | nrm=>
       obtain ⟨_,ab,g1,g2⟩:=j4.fit.rel.at_ r true _ (qAZ hr2)
       cases ab <;> first | exact g2.elim | skip
       obtain ⟨rfl,rfl,rfl,rfl⟩:=g2
       have:=qPI he
       exact ih (sn ++ [e.born]) env2 (hdel s2 r) c T2 ρ2 H2 a2 w3 (by omega) j1 qKq g1 q3 j2 (offs hoff j3) sp2 j5 j6
     | exit id=>exact hQ2 _ env2 _ T2 ρ2 H2 a2 w3 j1 j2 (offs hoff j3) sp2 j5 j6
     | ret=>exact hQ2 _ env2 _ T2 ρ2 H2 a2 w3 j1 j2 (offs hoff j3) sp2 j5 j6
 exact key (es.length+1) [] env (hdel s r) stepped T ρ H a w (by rw [qQm];omega) hI0 qKq g1 q2 hT (λ_ _=>rfl) (.refl hf0) hTr hd
theorem qLy:∀ c:Code,qMN P X W D A nt c
 | .skip=>λ_ _ _ h=>zAAE (e:=.nrm) (λ_ _ _ h=>wpIn_skip h) h
 | .region _ _ _=>qYj
 | .seq a b=>seqV (qLy a) (qLy b)
 | .cond _ a b=>zABf (qLy a) (qLy b)
 | .block _ b=>zAAa (qLy b)
 | .loop b=>λenv K s h=>by
   have hb:=qLy b
   unfold wpCV at h
   cases hms:qCb b with
   | none=>rw [hms] at h;exact zABK hb h
   | some st=>
     rw [hms] at h
     simp only at h
     cases hok:qSu nt st (assigned b) with
     | false=>rw [hok] at h;exact h.elim
     | true=>
       rw [hok,cond_true] at h
       obtain ⟨a,hseq⟩:=qH3 hms
       subst hseq
       exact qSJ hms (qLy st.rest) hok h
 | .exit id=>λ_ _ _ h=>zAAE (e:=.exit id) (λ_ _ _ h=>wpIn_exit h) h
 | .ret=>λ_ _ _ h=>zAAE (e:=.ret) (λ_ _ _ h=>wpIn_ret h) h
 | .rangeFunc _ _ _ _=>λ_ _ _ h=>h.elim
 | .scope _=>λ_ _ _ h=>h.elim
 | .label _=>λ_ _ _ h=>h.elim
 | .goto _=>λ_ _ _ h=>h.elim
 | .refuse _=>λ_ _ _ h=>h.elim
end Go.AM
namespace Go.AM
open Go Go.RowKit Go.ChangeShapes Go.WideShapes Go.ChangeAt
variable {σ:Nat→Value} {ρ ρ' ρ1:Ren} {base:Nat} {s s' s1 t:Hq} {H H' H1 H2:AH} {w w' w1:World} {P:Program} {X:Td} {W:List Nat}
theorem qPe (D:Nat→Option (List Nat × List Nat)) (A:Nat→List Nat) {f:FuncId} {fn:Func} {c:Code} (hfn:P.funcs[f]?=some fn) (hb:fn.body=some c) {args:List AV} (hl:Nat.ble args.length fn.ntmps=true) {K:AV→Hq→Prop} {s:Hq}
  (h:wpCV P X W D A fn.ntmps c (qPM args) (λe env s=>retK e (resK P fn.results.toList env (λvs=>K (oneV vs) s) s)) s):wpW P X f args K s:=by
 intro g t σ ρ base H w args' hf hr
 have hle:args.length≤fn.ntmps:=Nat.le_of_ble_eq_true hl
 refine callsIn_of_wp_marks hfn hb trivial ?_ rfl
 refine qLy c _ _ s h g t σ ρ base H w (Tr.ofListAt .nil 0 args) { tmps:=args' ++ Array.replicate (fn.ntmps - args'.size) undef,defers:=[] } _ hf (qWN args) (qI5 hr hle) rfl λe env1 s1 T1 ρ1 H1 a1 w1 k1 k2 k3 k4 k5 k6=>?_
 have body:resK P fn.results.toList env1 (λvs=>K (oneV vs) s1) s1→LeavesInM Fence.wide 0 P fn a1.tmps (λe w'=>∃ v v' s' ρ' H',e=.returned v'∧Rel σ ρ' v v'∧Stp σ ρ ρ' base s s' t H H' w w'∧K v s') a1.defers .returning w1:=by
  intro hr
  rw [k6]
  obtain ⟨n,vs,H2,h1,s',h2,_,rfl,hK⟩:=qJr k2 _ _ _ hr H1 (k4.fit.rel.sub λi e hi=>qAZ hi)
  obtain ⟨b1,b2,b3,vs',b4,b5⟩:=qJj (P:=P) k5 k4.fit.wr _ H1 _ vs rfl rfl h1
  refine ⟨_,qNn b4,oneV vs,_,s',ρ1,H2,rfl,qSa b5,?_,hK⟩
  refine ⟨⟨by rw [b3];exact k4.post.ext,k4.post.wr.log b1 b2,k4.post.below⟩,by rw [b3];exact k4.next,b2.trans k4.lo,k4.pers,hf.one,k4.fit.rel.eqv b3 b2 (λi=>by rw [b1]),k4.fit.wr.log b1 b2,λid hid=>k4.fit.free id (by rw [← b3];exact hid),k4.fit.dis⟩
 cases e with
 | exit id=>exact k1.elim
 | nrm=>exact body k1
 | ret=>exact body k1
end Go.AM
