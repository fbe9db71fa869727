/- Part A2 of the proof: see the last part. -/
import Derived.Test.YtfjeillpldnajaaGreatA1
import Derived.Laws.MakeOwn
import Derived.Great.BuildSlice
import Derived.Laws.Append
import Derived.Laws.AppendOwn
import Derived.OrdersIn
import Derived.RangeFuncCalls
set_option linter.unusedVariables false
namespace Go.AM
open Go Go.RowKit
section
variable {P:Program} {σ:Nat→Value} {ρ:Ren} {base:Nat} {H H':AH} {w:World}
def qLl(n:Nat)(z:List Value):List Value:=match n with
 | 0=>[]
 |n+1=>z++qLl n z
theorem qGh(n:Nat)(z:List Value):(qLl n z).length=n*z.length:=by
 induction n with
 |zero=>simp[qLl]
 |succ n ih=>simp[qLl,ih,Nat.add_mul];omega
theorem qYN(n:Nat)(z:List Value)(i:Nat)(hi:i<n*z.length):(qLl n z)[i]?=z[i % z.length]?:=by
 induction n generalizing i with
 |zero=>simp at hi
 | succ n ih=>
   have hz:0<z.length:=by
    rcases Nat.eq_zero_or_pos z.length with h|h
    ·rw[h]at hi;simp at hi
    ·exact h
   simp only[qLl]
   by_cases h:i<z.length
   ·rw[List.getElem?_append_left h,Nat.mod_eq_of_lt h]
   ·rw[List.getElem?_append_right (by omega),ih _ (by rw[Nat.add_mul]at hi;omega)]
    rw[Nat.mod_eq_sub_mod (a:=i) (by omega)]
theorem qZW{z:List AV}{z':List Value}(h:RelL σ ρ z z')(n:Nat):RelL σ ρ (repl n z) (qLl n z'):=by
 induction n with
 |zero=>exact .nil
 |succ n ih=>exact h.append ih
theorem qP9(z:Array Value)(n:Nat):((Array.range (n*z.size)).map (z[· % z.size]!))=(qLl n z.toList).toArray:=by
 apply Array.ext
 ·simp[qGh]
 ·intro i h1 h2
  simp only[Array.size_map,Array.size_range]at h1;have hz:0<z.size:=by
   rcases Nat.eq_zero_or_pos z.size with h|h
   ·rw[h]at h1;simp at h1
   ·exact h
  have hg:=qYN n z.toList i (by simpa using h1);have hm:i % z.size<z.size:=Nat.mod_lt _ hz;simp only[Array.getElem_map,Array.getElem_range,List.getElem_toArray];have h2':i<(qLl n z.toList).length:=by simpa using h2
  rw[gE h2']at hg;simp only[Array.length_toList,Array.getElem?_toList,Array.getElem?_eq_getElem hm,Option.some.injEq]at hg;rw[hg];simp[hm]
structure Zeros(P:Program)(σ:Nat->Value)(ρ:Ren)(elem:TypeId)(n:Nat)(cs:List AV)(es:Nat)(i:TypeInfo)(z:Value):Prop where
 info:P.info? elem=some i
 zero:i.zero=some z
 size:i.size=es
 zsize:z.cells.size=es
 rel:RelL σ ρ cs (qLl n z.cells.toList)
theorem qHJ{elem:TypeId}{n:Nat}{cs:List AV}{es:Nat}(h:zeros P elem n=some (cs,es))(hσ:One σ):∃i z,Zeros P σ ρ elem n cs es i z:=by
 unfold zeros at h;split at h
 ·rename_i za m hz hs
  obtain⟨hb,h⟩:=qAb h;cases h;have hb:=bE hb;unfold qEQ at hz;cases hi:P.info? elem with
  |none=>simp[hi]at hz
  | some i=>
    simp only[hi]at hz;cases hzv:i.zero with
    |none=>simp[hzv]at hz
    | some z=>
      simp only[hzv]at hz;have hr:=qGA hσ (qTE (σ:=σ) (ρ:=ρ) 2 z za hz);refine⟨i,z,hi,hzv,?_,?_,qZW hr n⟩
      ·simp[sz,hi]at hs;exact hs
      ·have:=hr.length;simp at this;omega
 ·cases h
theorem qY0{t:TypeId}{v:AV}(h:qMa P t H=some (v,H'))(hσ:One σ)(hwr:WR σ ρ base H w)(hf:Free ρ H.next H'.next):
  Okay σ ρ base H H' w (λρ' v'=>Rel σ ρ' v v') ((Instr.alloc t true (.tuple #[])).run P w):=by
 unfold qMa at h;cases hz:qEQ P t with
 |none=>simp only[hz]at h;exact(qAF h).elim
 | some z=>
   simp only[hz]at h;obtain⟨id,K,h1,h2⟩:=qAQ h;cases qAM h2;obtain⟨zv,e,r⟩:=qLL hz;have:=qK4 h1 hσ hwr hf [] (qGA hσ (r σ ρ));obtain⟨rfl,hn,hl,ρ',x1,x2,x3,x4⟩:=this;refine⟨.pointer (some ⟨w.heap.size,0,none⟩),_,ρ',?_,x1,x3,x4,?_⟩
   ·simp[Instr.alloc,e,newVar,newRow]
   ·unfold Rel;exact⟨_,x2,rfl⟩
theorem zACs{t:TypeId}{x v:AV}{x':Value}(h:boxA t x H=some (v,H'))(hx:Rel σ ρ x x')(hσ:One σ)(hwr:WR σ ρ base H w)(hf:Free ρ H.next H'.next):
  Okay σ ρ base H H' w (λρ' v'=>Rel σ ρ' v v') ((Instr.box t x').run P w):=by
 obtain⟨id,K,h1,h2⟩:=qAQ h;cases qAM h2;obtain⟨rfl,hn,hl,ρ',x1,x2,x3,x4⟩:=qK4 h1 hσ hwr hf [] (qGA hσ hx);refine⟨.pointer (some ⟨w.heap.size,0,none⟩),_,ρ',?_,x1,x3,x4,?_⟩
 ·simp[Instr.box,newVar,newRow]
 ·unfold Rel;exact⟨_,x2,rfl⟩
theorem zACy(l:List Value):∀(n off:Nat) (a:Array Value),off+n+l.length<=a.size->
  ((l.zipIdx n).foldl (λ(cs:Array Value) (x:Value×Nat)=>cs.setIfInBounds (off+x.2) x.1) a).size=a.size/\
  ∀j:Nat,((l.zipIdx n).foldl (λ(cs:Array Value) (x:Value×Nat)=>cs.setIfInBounds (off+x.2) x.1) a)[j]?=if off+n<=j/\j<off+n+l.length then l[j-(off+n)]? else a[j]?:=by
 induction l with
 |nil=>intro n off a h;refine⟨rfl,λj=>?_⟩;simp only[List.zipIdx_nil,List.foldl_nil,List.length_nil];rw[if_neg (by omega)]
 | cons v l ih=>
   intro n off a h;simp only[List.length_cons]at h;obtain⟨h1,h2⟩:=ih (n+1) off (a.setIfInBounds (off+n) v) (by simp;omega);simp only[List.zipIdx_cons,List.foldl_cons];refine⟨by rw[h1];simp,λj=>?_⟩;rw[h2 j]
   by_cases hj:j=off+n
   ·subst hj
    rw[if_neg (by omega),if_pos (by simp)];have:off+n<a.size:=by omega
    simp[this]
   ·by_cases hj2:off+(n+1)<=j/\j<off+(n+1)+l.length
    ·rw[if_pos hj2,if_pos (by simp only[List.length_cons];omega)]
     have:j-(off+n)=(j-(off+(n+1)))+1:=by omega
     rw[this,g1Y]
    ·rw[if_neg hj2,if_neg (by simp only[List.length_cons];omega),Array.getElem?_setIfInBounds_ne (by omega)]
theorem qRu{cs vs:List AV}{cs':Array Value}{vs':Array Value}{off:Nat}(h:RelL σ ρ cs cs'.toList)(hv:RelL σ ρ vs vs'.toList)(hl:off+vs.length<=cs.length):
  RelL σ ρ (qBG cs off vs) (vs'.zipIdx.foldl (λ(cs:Array Value) (x:Value×Nat)=>cs.setIfInBounds (off+x.2) x.1) cs').toList:=by
 have e1:=h.length;have e2:=hv.length;simp only[Array.length_toList]at e1 e2;obtain⟨s1,s2⟩:=zACy vs'.toList 0 off cs' (by simp;omega);have hfold:vs'.zipIdx.foldl (λ(cs:Array Value) (x:Value×Nat)=>cs.setIfInBounds (off+x.2) x.1) cs'=(vs'.toList.zipIdx 0).foldl (λ(cs:Array Value) (x:Value×Nat)=>cs.setIfInBounds (off+x.2) x.1) cs':=by rw[<- Array.foldl_toList];simp
 rw[hfold];refine RelL.of_get ?_ λi x y hx hy=>?_
 ·simp only[Array.length_toList,s1,qBG,lAp,List.length_take,List.length_drop];omega
 ·rw[Array.getElem?_toList,s2]at hy
  unfold qBG at hx
  by_cases hi:off<=i/\i<off+vs.length
  ·rw[if_pos (by simp;omega)]at hy
   rw[List.append_assoc,List.getElem?_append_right (by simp;omega),List.getElem?_append_left (by simp;omega)]at hx;simp only[List.length_take]at hx;have:i-min off cs.length=i-(off+0):=by omega
   rw[this]at hx;obtain⟨z,hz,r⟩:=hv.get _ _ hx;rw[hz]at hy;cases hy;exact r
  ·rw[if_neg (by simp;omega)]at hy
   have hx':cs[i]?=some x:=by
    by_cases h2:i<off
    ·rw[List.append_assoc,List.getElem?_append_left (by simp;omega),List.getElem?_take,if_pos h2]at hx;exact hx
    ·rw[List.getElem?_append_right (by simp;omega),List.getElem?_drop]at hx
     rw[<- hx];congr 1;simp;omega
   obtain⟨z,hz,r⟩:=h.get _ _ hx';rw[Array.getElem?_toList]at hz;rw[hz]at hy;cases hy;exact r
inductive PRel (σ:Nat->Value) (ρ:Ren):List (Nat×AV)->List (Nat×Value)->Prop
 |nil:PRel σ ρ [] []
 |cons {i x v l l'} (h:Rel σ ρ x v) (t:PRel σ ρ l l'):PRel σ ρ ((i,x)::l) ((i,v)::l')
theorem qQ5{place:Nat->Option (Nat×Nat)}(hσ:One σ):∀(l:List (Nat×AV)) (l':List (Nat×Value)) (cs r:List AV) (cs':Array Value),PRel σ ρ l l'->qM0 place cs l=some r->RelL σ ρ cs cs'.toList->
  ∃r':Array Value,Instr.fill place cs' l'=some r'/\RelL σ ρ r r'.toList:=by
 intro l
 induction l with
 |nil=>intro l' cs r cs' hp h hr;cases hp;cases h;exact⟨cs',rfl,hr⟩
 | cons p l ih=>
   intro l' cs r cs' hp h hr;cases hp with
   | cons hx ht=>
     rename_i i x v l';simp only[qM0]at h;split at h
     ·cases h
     ·rename_i off size hpl
      obtain⟨hc,h⟩:=qAb h;rw[Bool.and_eq_true]at hc;have h1:x.cells.length=size:=bE hc.1;have h2:off+x.cells.length<=cs.length:=by simpa [Nat.ble_eq]using hc.2
      have hv:=qGA hσ hx;have e1:=hr.length;have e2:=hv.length;simp only[Array.length_toList]at e1 e2;obtain⟨r',g1,g2⟩:=ih _ _ _ _ ht h (qRu hr hv h2);refine⟨r',?_,g2⟩;unfold Instr.fill;simp only[hpl];rw[if_neg (by simp only[ne_eq,Bool.or_eq_true,decide_eq_true_eq,not_or];omega)];exact g1
theorem zACY{fields:Array Field}(h:(fields.toList.all λf=>(sz P f.type).isSome)=true)(w:World):
  (fields.mapM λf=>(do pure (f.offset,<- sizeOf f.type):Sem (Nat×Nat))).run P w=.ok (fields.map λf=>(f.offset,P.cellsOf f.type)) w:=by
 rw[Array.mapM_eq_mapM_toList];simp only[Sem.run_map];have key:∀l:List Field,(l.all λf=>(sz P f.type).isSome)=true->(l.mapM λf=>(do pure (f.offset,<- sizeOf f.type):Sem (Nat×Nat))).run P w=.ok (l.map λf=>(f.offset,P.cellsOf f.type)) w:=by
  intro l
  induction l with
  |nil=>intro _;simp
  | cons f l ih=>
    intro hl;simp only[List.all_cons,Bool.and_eq_true]at hl;obtain⟨n,hn⟩:=Option.isSome_iff_exists.1 hl.1;have hc:P.cellsOf f.type=n:=by
     unfold sz at hn;cases hi:P.info? f.type with
     |none=>simp[hi]at hn
     |some i=>simp[hi]at hn;simp[Program.cellsOf,hi,hn]
    simp only[List.mapM_cons,Sem.run_bind,qDz hn,Result.andThen_ok,ih hl.2,Sem.run_pure,List.map_cons,hc]
 rw[key _ h];simp only[Result.andThen_ok]
 congr 1
 apply Array.ext';simp
theorem qWx{t:TypeId}{l:List (Nat×AV)}{parts:Array (Nat×Value)}{v:AV}(h:qPB P t l=some v)(hp:PRel σ ρ l parts.toList)(hσ:One σ)(w:World):
  ∃v',(Instr.build t parts).run P w=.ok v' w/\Rel σ ρ v v':=by
 unfold qPB at h;split at h
 ·rename_i z fields hz hu
  obtain⟨hall,h⟩:=qAb h;simp only[Option.map_eq_some_iff]at h;obtain⟨r,hr,rfl⟩:=h;obtain⟨zv,e,hrel⟩:=qLL hz;obtain⟨r',g1,g2⟩:=qQ5 hσ l parts.toList _ _ zv.cells hp hr (qGA hσ (hrel σ ρ));have hplace:(λi=>(fields.map λf=>(f.offset,P.cellsOf f.type))[i]?)=qNl P fields.toList:=by
   funext i
   simp only[qNl,Array.getElem?_map,Array.getElem?_toList];cases hf:fields[i]? with
   |none=>rfl
   | some f=>
     have hm:f∈fields.toList:=by have:=Array.mem_of_getElem? hf;exact Array.mem_def.1 this
     have hs:=List.all_eq_true.1 hall f hm;obtain⟨n,hn⟩:=Option.isSome_iff_exists.1 hs;have hc:P.cellsOf f.type=n:=by
      have hn':=hn;unfold sz at hn';cases hi:P.info? f.type with
      |none=>simp[hi]at hn'
      |some i=>simp[hi]at hn';simp[Program.cellsOf,hi,hn']
     simp[hn,hc]
  refine⟨.agg r',?_,by unfold Rel;exact⟨_,rfl,g2⟩⟩;simp only[Instr.build,Sem.run_bind,e,Result.andThen_ok,run_underlying hu,zACY hall];rw[hplace,g1];rfl
 ·rename_i z n elem hz hu
  split at h
  ·rename_i c hs
   simp only[Option.map_eq_some_iff]at h;obtain⟨r,hr,rfl⟩:=h;obtain⟨zv,e,hrel⟩:=qLL hz;obtain⟨r',g1,g2⟩:=qQ5 hσ l parts.toList _ _ zv.cells hp hr (qGA hσ (hrel σ ρ));refine⟨.agg r',?_,by unfold Rel;exact⟨_,rfl,g2⟩⟩;simp[Instr.build,e,run_underlying hu,qDz hs,g1]
  ·cases h
 ·cases h
theorem qP7{t:TypeId}{n:Nat}{l:List (Nat×AV)}{parts:Array (Nat×Value)}{v:AV}(h:qDp P t n l H=some (v,H'))(hp:PRel σ ρ l parts.toList)(hσ:One σ)(hwr:WR σ ρ base H w)(hf:Free ρ H.next H'.next):
  Okay σ ρ base H H' w (λρ' v'=>Rel σ ρ' v v') ((Instr.buildSlice t n parts).run P w):=by
 unfold qDp at h;cases hu:P.underlying t with
 |none=>simp only[hu]at h;exact(qAF h).elim
 | some d=>
   cases d with
   | slice elem=>
     simp only[hu]at h;cases hz:zeros P elem n with
     |none=>simp only[hz]at h;exact(qAF h).elim
     | some p=>
       obtain⟨cs,es⟩:=p;simp only[hz]at h;obtain⟨hle,h⟩:=qAn h;have hle:n*es<=16777216:=by simpa [Nat.ble_eq]using hle
       cases hfl:qM0 (λi=>some (i*es,es)) cs l with
       |none=>simp only[hfl]at h;exact(qAF h).elim
       | some r=>
         simp only[hfl]at h;obtain⟨id,K,h1,h2⟩:=qAQ h;cases qAM h2;obtain⟨i,z,zz⟩:=qHJ (σ:=σ) (ρ:=ρ) hz hσ;obtain⟨r',g1,g2⟩:=qQ5 hσ l parts.toList _ _ (qLl n z.cells.toList).toArray hp hfl (by simpa using zz.rel);obtain⟨rfl,hn,hl,ρ',x1,x2,x3,x4⟩:=qK4 h1 hσ hwr hf [] g2;have hs:sz P elem=some es:=by simp[sz,zz.info,zz.size]
         have hlen:r'.size=n*es:=by
          have a:=g2.length;simp only[Array.length_toList]at a;have b:∀(l:List (Nat×AV)) (cs r:List AV),qM0 (λi=>some (i*es,es)) cs l=some r->r.length=cs.length:=by
           intro l
           induction l with
           |nil=>intro cs r h;cases h;rfl
           | cons p l ih=>
             intro cs r h;obtain⟨i,v⟩:=p;simp only[qM0]at h;obtain⟨hc,h⟩:=qAb h;rw[Bool.and_eq_true]at hc;have h2:i*es+v.cells.length<=cs.length:=by simpa [Nat.ble_eq]using hc.2
             rw[ih _ _ h];simp only[qBG,lAp,List.length_take,List.length_drop];omega
          have c:=zz.rel.length;rw[qGh]at c;have:=b _ _ _ hfl;have d:=zz.zsize;simp only[Array.length_toList]at c;rw[d]at c;omega
         refine⟨.slice (some ⟨w.heap.size,0,none⟩) n n,_,ρ',?_,x1,x3,x4,?_⟩
         ·have hbig:¬(n*es>2^24):=by simp;omega
          by_cases h0:n*es=0
          ·have hc:(qLl n z.cells.toList).toArray=#[]:=by
            apply Array.eq_empty_of_size_eq_zero;simp only[List.size_toArray,qGh,Array.length_toList,zz.zsize];exact h0
           rw[hc]at g1;simp[Instr.buildSlice,run_underlying hu,qDz hs,h0,g1,newRow,show(Array.range 0)=(#[]:Array Nat)from rfl]
          ·have hcy:=qP9 z.cells n
           rw[zz.zsize]at hcy;simp[Instr.buildSlice,run_underlying hu,qDz hs,hbig,h0,zeroValue,typeInfo,zz.info,zz.zero,newRow,zz.zsize,hcy,g1]
         ·unfold Rel
          refine⟨_,_,n,x2,rfl,.inl ⟨rfl,?_⟩,Nat.le_refl _,λk hk=>by cases hk;rfl⟩;simp[hlen]
   |_=>simp only[hu]at h;exact(qAF h).elim
end
end Go.AM
namespace Go.AM
open Go Go.RowKit
section
variable {P:Program} {σ:Nat→Value} {ρ:Ren} {base:Nat} {H H':AH} {w:World}
theorem qSI{t:TypeId}{l c v:AV}{l' c':Value}(h:qD5 P t l c H=some (v,H'))(hl:Rel σ ρ l l')(hc:Rel σ ρ c c')(hσ:One σ)(hwr:WR σ ρ base H w)(hf:Free ρ H.next H'.next):
  Okay σ ρ base H H' w (λρ' v'=>Rel σ ρ' v v') ((Instr.makeSlice t l' c').run P w):=by
 unfold qD5 at h;cases hu:P.underlying t with
 |none=>simp only[hu]at h;exact(qAF h).elim
 | some d=>
   cases hnl:nat? l with
   |none=>cases d<;>simp only[hu,hnl]at h<;>exact(qAF h).elim
   | some n=>
     cases hnc:nat? c with
     |none=>cases d<;>simp only[hu,hnl,hnc]at h<;>exact(qAF h).elim
     | some m=>
       cases d with
       | slice elem=>
         simp only[hu,hnl,hnc]at h;cases hz:zeros P elem m with
         |none=>simp only[hz]at h;exact(qAF h).elim
         | some p=>
           obtain⟨cs,es⟩:=p;cases hb:qFH P elem with
           |none=>simp only[hz,hb]at h;exact(qAF h).elim
           | some by_=>
             simp only[hz,hb]at h;obtain⟨hcd,h⟩:=qAn h;rw[Bool.and_eq_true,Bool.and_eq_true]at hcd;have hnm:n<=m:=by simpa [Nat.ble_eq]using hcd.1
             have hm:m<=4294967296:=by simpa [Nat.ble_eq]using hcd.2.1
             have hby:by_<=32768:=by simpa [Nat.ble_eq]using hcd.2.2
             obtain⟨id,K,h1,h2⟩:=qAQ h;simp only[qAw]at h2;cases qAM h2;obtain⟨i,z,zz⟩:=qHJ (σ:=σ) (ρ:=ρ) hz hσ;obtain⟨kl,rfl⟩:=nat?_rel hnl hl;obtain⟨kc,rfl⟩:=nat?_rel hnc hc;obtain⟨rfl,hn,hl,ρ',x1,x2,x3,x4⟩:=qK4 h1 hσ hwr hf [] zz.rel;have hbi:i.bytes=by_:=by simp[qFH,zz.info]at hb;exact hb
             have hbytes:(i.bytes:Int)*(m:Int)<=281474976710656:=by
              rw[hbi];have:by_*m<=32768*4294967296:=Nat.mul_le_mul hby hm;have h2:((by_*m:Nat):Int)<=281474976710656:=by omega
              simpa using h2
             have hrun:=run_make w t elem i z hu zz.info zz.zero kl kc (n:Int) (m:Int) (by omega) (by omega) hbytes (by omega);simp only[Int.toNat_natCast]at hrun;have hcy:=qP9 z.cells m;have hmc:madeCells z.cells (m*i.size)=(qLl m z.cells.toList).toArray:=by unfold madeCells;rw[zz.size,<- zz.zsize];exact hcy
             rw[hmc]at hrun;refine⟨_,_,ρ',hrun,x1,by simpa using x3,by simpa using x4,?_⟩;unfold Rel;refine⟨_,_,m,x2,rfl,.inl ⟨rfl,?_⟩,hnm,λk hk=>by cases hk;rfl⟩;simp[qGh,zz.zsize]
       |_=>simp only[hu,hnl,hnc]at h;exact(qAF h).elim
theorem qGI{es n:Nat}{x:AV}{l:List AV}{x':Value}{len:Nat}(h:qJT es n x H=some (l,H'))(hx:Rel σ ρ x x')(hlen:qAN x=some len)(hn:n<=len)(hwr:WR σ ρ base H w):
  H'.blks=H.blks/\H'.lo=H.lo/\H'.next=H.next/\∃vs:List Value,vs.length=n*es/\RelL σ ρ l vs/\(∀v∈vs,v.oneCell'=true)/\
   (∀b off,x'=.slice (some b) len off->∀j v,vs[j]?=some v->w.cell? (b.add j)=some v)/\
   ∀w2:World,w2.heap=w.heap->(Builtin.firstCells es n x').run P w2=.ok vs.toArray w2:=by
 unfold qJT at h;split at h
 ·rename_i b o ln cap es'
  have hcs:=qAn h;clear h;obtain⟨he,h⟩:=hcs;have he:=bE he;subst he;cases hlen;unfold Rel at hx;obtain⟨L,a,c,hL,rfl,hoff,hlc,_⟩:=hx;cases hz:Nat.beq (n*es) 0 with
  | true=>
    rw[hz]at h;cases qAM h;have hne:=bE hz;refine⟨rfl,rfl,rfl,[],by simp[hne],.nil,by simp,λ_ _ _ j v hv=>by simp at hv,λw2 hw2=>?_⟩;simp[Builtin.firstCells,loadCells,hne,loadCellsFrom]
  |false=>
  rw[hz]at h;have h:qCM b o (n*es) H=some (l,H'):=h;obtain⟨e1,e2,e3,vs,a1,a2,a3,a4,a5⟩:=qLZ (P:=P) h hwr hL;rcases hoff with⟨rfl,_⟩|⟨h0,hc0⟩
  ·refine⟨e1,e2,e3,vs,a1,a2,a3,λb off hb=>by cases hb;exact a4,λw2 hw2=>?_⟩
   have hcell:∀a:Addr,w2.cell? a=w.cell? a:=λa=>by simp[World.cell?,hw2]
   exact run_firstCells_some (P:=P) w2 es n _ _ c vs a1 (λj v hv=>by rw[hcell];exact a4 j v hv)
  ·have hn0:n=0:=by omega
   subst hn0;have hv:vs=[]:=List.eq_nil_of_length_eq_zero (by rw[a1];simp);subst hv;exact⟨e1,e2,e3,[],a1,a2,a3,λ_ _ _ j v hv=>by simp at hv,λw2 hw2=>by simp[Builtin.firstCells,loadCells,loadCellsFrom]⟩
 ·cases qAM h
  cases hlen;have hn0:n=0:=by omega
  subst hn0;unfold Rel at hx;subst hx;exact⟨rfl,rfl,rfl,[],by simp,.nil,by simp,(λb off hb=>by cases hb),λw2 _=>by simp[Builtin.firstCells]⟩
 ·exact(qAF h).elim
theorem qRX{x:AV}{x':Value}{n:Nat}(h:qAN x=some n)(hx:Rel σ ρ x x')(w:World):(Builtin.lenOf x').run P w=.ok n w:=by
 unfold qAN at h;split at h
 ·cases h;unfold Rel at hx;obtain⟨L,off,c,hL,rfl,_⟩:=hx;rfl
 ·cases h;unfold Rel at hx;subst hx;rfl
 ·cases h
end
end Go.AM
namespace Go.AM
open Go Go.RowKit
section
variable {P:Program} {σ:Nat→Value} {ρ:Ren} {base:Nat} {H H':AH} {w:World}
theorem qKS(a:Addr)(w:World):(storeCells a []).run P w=.ok () w:=by simp[storeCells]
theorem qIO{t u ty elem:TypeId}{xd:TypeDesc}{es:Nat}(ht:P.underlying t=some (.slice elem))(hu:P.underlying u=some xd)(hxd:∀k,xd≠.int k)(hs:sz P elem=some es)
  {a:Option Addr}{len c n:Nat}{x':Value}{vs:List Value}(hx:∀w,(Builtin.lenOf x').run P w=.ok n w) (hf:(Builtin.firstCells es n x').run P w=.ok vs.toArray w) (hle:len+n<=c) :
  (Builtin.append_ #[t,u] ty #[.slice a len c,x']).run P w=(match a with
   |some a=>((storeCells (a.add (len*es)) vs).run P w).andThen λ_ w'=>.ok (.slice (some a) (len+n) c) w'
   |none=>.ok (.slice none (len+n) c) w):=by
 have hm:(match xd with | .int _=>true|_=>false)=false:=by cases xd<;>first|rfl|exact absurd rfl (hxd _)
 cases a with
 |none=>simp[Builtin.append_,run_underlying ht,run_underlying hu,qDz hs,hx,hf,hle]
 |some a=>simp[Builtin.append_,run_underlying ht,run_underlying hu,qDz hs,hx,hf,hle]
theorem qTW{t u ty elem:TypeId}{xd:TypeDesc}{es:Nat}{i:TypeInfo}{z:Value}(ht:P.underlying t=some (.slice elem))(hu:P.underlying u=some xd)(hxd:∀k,xd≠.int k)(hi:P.info? elem=some i)(hz:i.zero=some z)(hes:i.size=es)
  {a:Option Addr}{len c n:Nat}{x':Value}{olds vs:List Value}(hx:∀w,(Builtin.lenOf x').run P w=.ok n w) (hf:∀w2:World,w2.heap=w.heap->(Builtin.firstCells es n x').run P w2=.ok vs.toArray w2)
  (ho:∀w2:World,w2.heap=w.heap->(Builtin.firstCells es len (.slice a len c)).run P w2=.ok olds.toArray w2) (hgt:c<len+n) (hneed:len+n<=16777216) (hby:i.bytes<=65536) :
  (Builtin.append_ #[t,u] ty #[.slice a len c,x']).run P w=.ok (.slice (some ⟨w.heap.size,0,none⟩) (len+n) (grownCap w (len+n) c elem))
    (w.drew.alloc (.cells ((olds++vs)++(Builtin.zeroCells z.cells (grownCap w (len+n) c elem-(len+n))).toList).toArray elem)):=by
 subst hes;have hm:(match xd with | .int _=>true|_=>false)=false:=by cases xd<;>first|rfl|exact absurd rfl (hxd _)
 have hn:¬(len+n<=c):=by omega
 have h63':¬(9223372036854775807<((len:Int)+(n:Int))):=by omega
 have hfit:Builtin.nextslicecap (len+n) c*i.bytes<=281474976710656:=by refine growslice_fits hgt ?_;have:(len+n)*i.bytes<=16777216*65536:=Nat.mul_le_mul hneed hby;omega
 have h48':¬(281474976710656<Builtin.nextslicecap (len+n) c*i.bytes):=by omega
 have hf1:=hf w.drew rfl;have ho1:=ho w.drew rfl;simp[Builtin.append_,run_underlying ht,run_underlying hu,sizeOf,typeInfo,zeroValue,hi,hz,hx,hn,h63',h48',Question.forced,hf1,ho1,newRow,grownCap]
 congr 2
 apply Array.ext';simp
theorem qOy(z:Array Value)(n:Nat):(Builtin.zeroCells z n).size=n*z.size:=by simp[Builtin.zeroCells]
theorem qVb{B:Nat}{w w':World}(h:Below B w.drew w'):Below B w w':=⟨h.os,h.tape,h.output,h.size,h.block⟩
theorem WR.drew(h:WR σ ρ base H w):WR σ ρ base H w.drew:=⟨h.blk,h.own,h.inj,h.base⟩
theorem qTu{t u ty elem:TypeId}{xd:TypeDesc}{es by_:Nat}{cs0:List AV}(ht:P.underlying t=some (.slice elem))(hu:P.underlying u=some xd)(hxd:∀k,xd≠.int k)(hz:zeros P elem 0=some (cs0,es))(hb:qFH P elem=some by_)
  {a:Option Addr}{len c n:Nat}{x':Value}{olds vs:List Value}{lo ln:List AV}(hx:∀w,(Builtin.lenOf x').run P w=.ok n w) (hf:∀w2:World,w2.heap=w.heap->(Builtin.firstCells es n x').run P w2=.ok vs.toArray w2)
  (ho:∀w2:World,w2.heap=w.heap->(Builtin.firstCells es len (.slice a len c)).run P w2=.ok olds.toArray w2) (hgt:c<len+n) (hneed:len+n<=16777216) (hby:by_<=65536)
  (hlo:RelL σ ρ lo olds) (hln:RelL σ ρ ln vs) (hol:olds.length=len*es) (hvl:vs.length=n*es) (hσ:One σ) (hwr:WR σ ρ base H w) (hfr:Free ρ H.next H'.next) {id:Nat}(h:qBv elem (lo++ln) H=some (id,H')) :
  Okay σ ρ base H H' w (λρ' v'=>Rel σ ρ' (.slc id 0 (len+n) none es) v') ((Builtin.append_ #[t,u] ty #[.slice a len c,x']).run P w):=by
 obtain⟨i,z,zz⟩:=qHJ (σ:=σ) (ρ:=ρ) hz hσ;have hbi:i.bytes=by_:=by simp[qFH,zz.info]at hb;exact hb
 have hrun:=qTW (ty:=ty) ht hu hxd zz.info zz.zero zz.size hx hf ho hgt hneed (by rw[hbi];exact hby);obtain⟨rfl,hn,hl,ρ',x1,x2,x3,x4⟩:=qK4 h hσ hwr.drew hfr (Builtin.zeroCells z.cells (grownCap w (len+n) c elem-(len+n))).toList (hlo.append hln);refine⟨_,_,ρ',hrun,x1,x3,qVb x4,?_⟩;unfold Rel;have hge:=grownCap_ge w (len+n) c elem;refine⟨_,_,_,x2,rfl,.inl ⟨rfl,?_⟩,hge,λk hk=>by cases hk⟩;simp only[lAp,hol,hvl,Array.length_toList,qOy,zz.zsize,zA];rw[<- Nat.add_mul,<- Nat.add_mul];exact Nat.mul_le_mul_right _ (by omega)
theorem qYe{st xt:TypeId}{s x v:AV}{s' x':Value}{ty:TypeId}(h:qJE P st xt s x H=some (v,H'))(hs:Rel σ ρ s s')(hx:Rel σ ρ x x')(hσ:One σ)(hwr:WR σ ρ base H w)(hf:Free ρ H.next H'.next):
  Okay σ ρ base H H' w (λρ' v'=>Rel σ ρ' v v') ((Builtin.append_ #[st,xt] ty #[s',x']).run P w):=by
 unfold qJE at h;cases hu:P.underlying st with
 |none=>simp only[hu]at h;exact(qAF h).elim
 | some d=>
   cases hu2:P.underlying xt with
   |none=>cases d<;>simp only[hu,hu2]at h<;>exact(qAF h).elim
   | some xd=>
     cases d with
     | slice elem=>
       simp only[hu,hu2]at h;cases hn:lenX xd x with
       |none=>simp only[hn]at h;exact(qAF h).elim
       | some n=>
         have hxd:∀k,xd≠.int k:=by intro k e;subst e;cases hn
         have hlen:qAN x=some n:=by cases xd<;>first|exact hn|cases hn
         cases hz:zeros P elem 0 with
         |none=>simp only[hn,hz]at h;exact(qAF h).elim
         | some p=>
           obtain⟨cs0,es⟩:=p;cases hb:qFH P elem with
           |none=>simp only[hn,hz,hb]at h;exact(qAF h).elim
           | some by_=>
             simp only[hn,hz,hb,qAw]at h;have hsz:sz P elem=some es:=by obtain⟨i,z,zz⟩:=qHJ (σ:=σ) (ρ:=ρ) hz hσ;simp[sz,zz.info,zz.size]
             have hlo:=qRX (P:=P) hlen hx;split at h
             ·
              unfold Rel at hs;subst hs;split at h
              ·cases qAM h
               have hv:∃vs:List Value,vs=[]/\(Builtin.firstCells es 0 x').run P w=.ok vs.toArray w:=by
                refine⟨[],rfl,?_⟩;unfold qAN at hlen;split at hlen
                ·cases hlen
                 unfold Rel at hx;obtain⟨L,off,c,hL,rfl,_⟩:=hx;simp[Builtin.firstCells,loadCells,loadCellsFrom]
                ·unfold Rel at hx;subst hx;simp[Builtin.firstCells]
                ·cases hlen
               obtain⟨vs,rfl,hv⟩:=hv;have:=qIO (ty:=ty) (a:=none) (len:=0) (c:=0) hu hu2 hxd hsz hlo hv (by omega);exact .same this hwr rfl rfl (by unfold Rel;rfl)
              ·rename_i m
               obtain⟨hcd,h⟩:=qAn h;rw[Bool.and_eq_true]at hcd;obtain⟨l,K,h1,h2⟩:=qAQ h;obtain⟨id,K2,h3,h4⟩:=qAQ h2;cases qAM h4;obtain⟨e1,e2,e3,vs,a1,a2,a3,a4,a5⟩:=qGI (P:=P) h1 hx hlen (Nat.le_refl _) hwr;have hwr':=hwr.log e1 e2;have:=qTu (P:=P) (ty:=ty) (H:=K) (H':=H') (a:=none) (len:=0) (c:=0) (olds:=[]) (lo:=[]) (es:=es) hu hu2 hxd hz hb hlo a5 (λw2 _=>by simp[Builtin.firstCells]) (by omega) (by simpa [Nat.ble_eq]using hcd.1) (by simpa [Nat.ble_eq]using hcd.2)
                .nil a2 (by simp) a1 hσ hwr' (by rw[e3];exact hf) (by simpa using h3)
               obtain⟨b,w',ρ',p1,p2,p3,p4,p5⟩:=this;exact⟨b,w',ρ',p1,by rw[<- e3];exact p2,p3,p4,by simpa using p5⟩
             ·
              rename_i b o len cap es';have hcs:=qAn h;clear h;obtain⟨he,h⟩:=hcs;have he:=bE he;subst he;have hsrel:=hs;unfold Rel at hs;obtain⟨L,a,c,hL,rfl,hoff,hlc,hcap⟩:=hs;have hway:(∃dead,wayA cap len n=(true,dead)/\len+n<=c)∨
                (wayA cap len n=(false,false)/\c<len+n)∨
                (wayA cap len n=(false,true)/\n≠0):=by
               cases cap with
               | none=>
                 cases hb:Nat.beq n 0 with
                 |true=>have:=bE hb;exact .inl ⟨true,by simp[wayA,hb],by omega⟩
                 |false=>exact .inr (.inr ⟨by simp[wayA,hb],λe=>by subst e;simp at hb⟩)
               | some c'=>
                 have:=hcap c' rfl;cases hb:Nat.ble (len+n) c' with
                 |true=>exact .inl ⟨false,by simp[wayA,hb],by rw[this];simpa [Nat.ble_eq]using hb⟩
                 |false=>exact .inr (.inl ⟨by simp[wayA,hb],by rw[this];rw[<- Nat.not_le,<- Nat.ble_eq,hb];simp⟩)
              rcases hway with⟨dead,hw1,hle⟩|⟨hw1,hgt⟩|⟨hw1,hn0⟩
              ·
               simp only[hw1]at h;split at h
               ·cases qAM h
                have hv:(Builtin.firstCells es 0 x').run P w=.ok ([]:List Value).toArray w:=by
                 unfold qAN at hlen;split at hlen
                 ·cases hlen
                  unfold Rel at hx;obtain⟨L,off,c,hL,rfl,_⟩:=hx;simp[Builtin.firstCells,loadCells,loadCellsFrom]
                 ·unfold Rel at hx;subst hx;simp[Builtin.firstCells]
                 ·cases hlen
                have:=qIO (ty:=ty) (a:=some a) hu hu2 hxd hsz hlo hv hle;simp only[qKS,Result.andThen_ok]at this;exact .same this hwr rfl rfl hsrel
               ·rename_i m
                obtain⟨l,K,h1,h2⟩:=qAQ h;obtain⟨_,K2,h3,h4⟩:=qAQ h2;cases qAM h4;obtain⟨e1,e2,e3,vs,a1,a2,a3,a4,a5⟩:=qGI (P:=P) h1 hx hlen (Nat.le_refl _) hwr;obtain⟨rfl,hoc⟩:a=⟨L.blk,L.sh+o,none⟩/\L.sh+o+c*es<=L.sz:=by rcases hoff with h|h;exact h;omega
                have hwr':=hwr.log e1 e2;obtain⟨n1,l1,w',s1,s2,s3⟩:=qEn (P:=P) h3 hσ hwr' hL a2;have:=qIO (ty:=ty) (a:=some ⟨L.blk,L.sh+o,none⟩) hu hu2 hxd hsz hlo (a5 w rfl) hle;simp only[qDj,Nat.add_assoc,s1,Result.andThen_ok]at this;refine⟨_,w',ρ,this,.refl _ _ _,s2,s3,?_⟩;unfold Rel;exact⟨L,_,c,hL,rfl,.inl ⟨rfl,hoc⟩,hle,hcap⟩
              ·
               simp only[hw1]at h;have hcs:=qAn h;clear h;obtain⟨hcd,h⟩:=hcs;rw[Bool.and_eq_true]at hcd;obtain⟨lo,K,h1,h2⟩:=qAQ h;obtain⟨l,K2,h3,h4⟩:=qAQ h2;obtain⟨_,K3,h5,h6⟩:=qAQ h4;simp only[cond_false]at h5;cases qAM h5;obtain⟨id,K4,h7,h8⟩:=qAQ h6;cases qAM h8;obtain⟨e1,e2,e3,olds,b1,b2,b3,b4,b5⟩:=qGI (P:=P) h1 hsrel rfl (Nat.le_refl _) hwr;have hwr1:=hwr.log e1 e2;obtain⟨f1,f2,f3,vs,a1,a2,a3,a4,a5⟩:=qGI (P:=P) h3 hx hlen (Nat.le_refl _) hwr1;have hwr2:=hwr1.log f1 f2;have:=qTu (P:=P) (ty:=ty) hu hu2 hxd hz hb hlo a5 b5 hgt (by simpa [Nat.ble_eq]using hcd.1) (by simpa [Nat.ble_eq]using hcd.2) b2 a2 b1 a1 hσ hwr2 (by rw[f3,e3];exact hf) h7;obtain⟨b,w',ρ',p1,p2,p3,p4,p5⟩:=this;exact⟨b,w',ρ',p1,by rw[<- e3,<- f3];exact p2,p3,p4,p5⟩
              ·
               simp only[hw1]at h;have hcs:=qAn h;clear h;obtain⟨hcd,h⟩:=hcs;rw[Bool.and_eq_true]at hcd;obtain⟨lo,K,h1,h2⟩:=qAQ h;obtain⟨l,K2,h3,h4⟩:=qAQ h2;obtain⟨_,K3,h5,h6⟩:=qAQ h4;simp only[cond_true]at h5;obtain⟨id,K4,h7,h8⟩:=qAQ h6;cases qAM h8;obtain⟨e1,e2,e3,olds,b1,b2,b3,b4,b5⟩:=qGI (P:=P) h1 hsrel rfl (Nat.le_refl _) hwr;have hwr1:=hwr.log e1 e2;obtain⟨f1,f2,f3,vs,a1,a2,a3,a4,a5⟩:=qGI (P:=P) h3 hx hlen (Nat.le_refl _) hwr1;have hwr2:=hwr1.log f1 f2;obtain⟨bk,Kr,g1,g2⟩:=qAQ h5;obtain⟨gb,g3,g4,g5⟩:=qCj g1;cases bk with
               | cells e2 ct N=>
                 obtain⟨hee,g2'⟩:=qAn g2;clear g2;have hee:=bE hee;subst hee;obtain⟨k1,_,k3,k4,k5⟩:=qYR g2';rw[g4]at k1 k4;have k3:∀j,K3.blks.get j=if b=j then none else K2.blks.get j:=λj=>by rw[k3,g3]
                 have hwr3:=hwr2.kill k3 k4;have hn3:K3.next=H.next:=by rw[k5,g5,f3,e3]
                 have hf3:Free ρ K3.next H'.next:=by rw[hn3];exact hf
                 by_cases hroom:c<len+n
                 ·have:=qTu (P:=P) (ty:=ty) hu hu2 hxd hz hb hlo a5 b5 hroom (by simpa [Nat.ble_eq]using hcd.1) (by simpa [Nat.ble_eq]using hcd.2) b2 a2 b1 a1 hσ hwr3 hf3 h7
                  obtain⟨b,w',ρ',p1,p2,p3,p4,p5⟩:=this;exact⟨b,w',ρ',p1,by rw[<- hn3];exact p2,p3,p4,p5⟩
                 ·have hle:len+n<=c:=by omega
                  obtain⟨rfl,hoc⟩:a=⟨L.blk,L.sh+o,none⟩/\L.sh+o+c*es<=L.sz:=by rcases hoff with h|h;exact h;omega
                  obtain⟨L',hL',cc,fr,q1,q2,q3,q4,q5⟩:=hwr2.blk b _ gb;rw[hL]at hL';cases hL';have hfr:=q2 k1;subst hfr;have hbase:=hwr2.own b _ L gb hL k1;have hmul:(len+n)*es<=c*es:=Nat.mul_le_mul_right _ hle;rw[Nat.add_mul]at hmul;obtain⟨w',cc',s1,s2,s3,s4⟩:=qKK (P:=P) (k:=L.sh+o+len*es) vs 0 w cc q1 (by rw[q3];omega) a3;have hrun:=qIO (ty:=ty) (a:=some ⟨L.blk,L.sh+o,none⟩) hu hu2 hxd hsz hlo (a5 w rfl) hle;simp only[qDj,s1,Result.andThen_ok]at hrun;obtain⟨rfl,hn,hl,ρ',x1,x2,x3,x4⟩:=qNu h7 hσ hwr3 hf3 (sh:=L.sh+o) s2 hbase (λj bj Lj hj hLj=>by
                    rw[k3]at hj
                    by_cases hbj:b=j
                    ·rw[if_pos hbj]at hj;cases hj
                    ·rw[if_neg hbj]at hj
                     exact(hwr2.inj b j _ _ L Lj gb hj hL hLj k1 hbj).symm) (by
                    have:=b2.length;have:=a2.length;simp only[lAp];rw[s3,q3];omega) (λi x hx'=>by
                    have l1:=b2.length;have l2:=a2.length
                    by_cases hi:i<lo.length
                    ·rw[List.getElem?_append_left hi]at hx'
                     obtain⟨y,hy,r⟩:=b2.get i x hx';refine⟨y,?_,r⟩;rw[s4,if_neg (by omega)];have hc:=b4 _ _ rfl i y hy;rw[qDj,qJM q1]at hc;exact hc
                    ·rw[List.getElem?_append_right (by omega)]at hx'
                     obtain⟨y,hy,r⟩:=a2.get _ x hx';refine⟨y,?_,r⟩;have hlt:=(gS hy).1;rw[s4,if_pos (by omega),<- hy]
                     congr 1;omega)
                  refine⟨_,w',ρ',hrun,by rw[<- hn3];exact x1,x3,x4,?_⟩;unfold Rel;exact⟨_,_,c,x2,rfl,.inl ⟨rfl,by simp only[Nat.add_zero];rw[s3,q3];exact hoc⟩,hle,λk hk=>by cases hk⟩
               |_=>exact(qAF g2).elim
             ·exact(qAF h).elim
     |_=>simp only[hu,hu2]at h;exact(qAF h).elim
end
end Go.AM
namespace Go.AM
open Go Go.RowKit
section
variable {P:Program} {σ:Nat→Value} {ρ:Ren} {base:Nat} {H H':AH} {w:World}
theorem zADL{t:TypeId}{x v:AV}{x':Value}{ty:TypeId}(h:lenA P t x H=some (v,H'))(hx:Rel σ ρ x x')(hwr:WR σ ρ base H w)(ts:List TypeId):
  Okay σ ρ base H H' w (λρ' v'=>Rel σ ρ' v v') ((Builtin.len_ (t::ts).toArray ty #[x']).run P w):=by
 unfold lenA at h;generalize hu:P.underlying t=d at h;split at h
 ·rename_i s
  cases qAM h;unfold Rel at hx;subst hx;exact .same (b:=goInt s.size) (by simp[Builtin.len_,run_underlying hu]) hwr rfl rfl (by unfold Rel;rfl)
 ·rename_i n e
  cases qAM h;exact .same (b:=goInt n) (by simp[Builtin.len_,run_underlying hu]) hwr rfl rfl (by unfold Rel;rfl)
 ·rename_i e b o n c es
  cases qAM h;unfold Rel at hx;obtain⟨L,off,cc,_,rfl,_⟩:=hx;exact .same (b:=goInt n) (by simp[Builtin.len_,run_underlying hu]) hwr rfl rfl (by unfold Rel;rfl)
 ·rename_i e
  cases qAM h;unfold Rel at hx;subst hx;exact .same (b:=goInt 0) (by simp[Builtin.len_,run_underlying hu]) hwr rfl rfl (by unfold Rel;rfl)
 ·cases qAM h
  unfold Rel at hx;subst hx;exact .same (b:=goInt 0) (by simp[Builtin.len_,run_underlying hu]) hwr rfl rfl (by unfold Rel;rfl)
 ·rename_i kt et b
  obtain⟨blk,K1,g1,g2⟩:=qAQ h;obtain⟨hb,e1,e2,e3⟩:=qCj g1;split at g2
  ·rename_i es clock
   rw[qAw]at g2;cases qAM g2;unfold Rel at hx;obtain⟨L,hL,rfl⟩:=hx;obtain⟨L',hL',es',q1,q2⟩:=hwr.blk _ _ hb;rw[hL]at hL';cases hL';have hl:es'.size=es.length:=by have:=q2.len;simpa using this
   exact .same (b:=goInt es'.size) (by simp[Builtin.len_,run_underlying hu,getObj,Sem.run,q1]) hwr e1 e2 (by unfold Rel;rw[hl];rfl)
  ·exact(qAF g2).elim
 ·exact(qAF h).elim
theorem qPT{b:ABlk}{id:Nat}{o:Obj}(h:nw b H=some (id,H'))(hwr:WR σ ρ base H w)(hf:Free ρ H.next H'.next)(hb:∀ ρ',Le ρ ρ'->BR σ ρ' True ⟨w.heap.size,0,0⟩ b (some o)):
  ∃ ρ',Ext ρ ρ' H.next H'.next/\WR σ ρ' base H' (w.alloc o)/\Below base w (w.alloc o)/\ρ' id=some ⟨w.heap.size,0,0⟩:=by
 obtain⟨rfl,hlo,hk,hkl,hkn⟩:=qSu h;obtain⟨ρ',x1,x2,x3,x4⟩:=hwr.new (L:=⟨w.heap.size,0,0⟩) (b:=b) (hf H.next (Nat.le_refl _) (by omega)) (λj bj Lj hj hLj=>Nat.ne_of_lt (qQd hwr hj hLj)) hwr.base
  (qQj w o) (λρ' hle _=>hb ρ' hle) hk hkl hkn
 exact⟨ρ',x1,x3,x4,x2⟩
theorem qZz{t:TypeId}{x v:AV}{x':Value}(h:qOk P t x H=some (v,H'))(hx:Rel σ ρ x x')(hwr:WR σ ρ base H w)(hf:Free ρ H.next H'.next):
  Okay σ ρ base H H' w (λρ' v'=>Rel σ ρ' v v') ((Instr.range t x').run P w):=by
 unfold qOk at h;generalize hu:P.underlying t=d at h;split at h
 ·rename_i kt et
  unfold Rel at hx;subst hx;obtain⟨id,K,h1,h2⟩:=qAQ h;cases qAM h2;have:=qPT (o:=.mapIter none 0 #[] 0) h1 hwr hf (λρ' _=>⟨rfl,none,rfl,rfl⟩);obtain⟨ρ',p1,p2,p3,p4⟩:=this;exact⟨.pointer (some ⟨w.heap.size,0,none⟩),_,ρ',by simp[Instr.range,run_underlying hu,newObj,Sem.run],p1,p2,p3,by unfold Rel;exact⟨_,p4,rfl⟩⟩
 ·rename_i kt et b
  unfold Rel at hx;obtain⟨L,hL,rfl⟩:=hx;obtain⟨blk,K1,g1,g2⟩:=qAQ h;obtain⟨hb,e1,e2,e3⟩:=qCj g1;split at g2
  ·rename_i es clock
   obtain⟨id,K,h1,h2⟩:=qAQ g2;cases qAM h2;obtain⟨L',hL',es',q1,q2⟩:=hwr.blk _ _ hb;rw[hL]at hL';cases hL';have:=qPT (o:=.mapIter (some L.blk) clock #[] clock) h1 (hwr.log e1 e2) (by rw[e3];exact hf) (λρ' hle=>⟨rfl,some L.blk,⟨L,hle _ _ hL,rfl⟩,rfl⟩);obtain⟨ρ',p1,p2,p3,p4⟩:=this;exact⟨.pointer (some ⟨w.heap.size,0,none⟩),_,ρ',by simp[Instr.range,run_underlying hu,getObj,Sem.run,q1,newObj,Sem.run],by rw[<- e3];exact p1,p2,p3,by unfold Rel;exact⟨_,p4,rfl⟩⟩
  ·exact(qAF g2).elim
 ·exact(qAF h).elim
theorem qMV{n:Nat}{e:AEnt}:∀{es:List AEnt}{es':List MapEntry},EsRel σ ρ es es'->qJh n es=some e->∃e',es'.find? (·.born == n)=some e'/\ERel σ ρ e e'
 |[],_,_,h=>by cases h
 | a::es,es',hr,h=>by
   cases es' with
   |nil=>have:=hr.len;simp at this
   | cons a' es'=>
     have ha:=hr.at_ 0 a a' rfl rfl;have ht:EsRel σ ρ es es':=⟨by have:=hr.len;simpa using this,λi x y hx hy=>hr.at_ (i+1) x y (by simpa using hx) (by simpa using hy)⟩
     unfold qJh at h;cases hb:Nat.beq a.born n with
     | true=>
       simp only[hb,cond_true]at h;cases h;have:=bE hb;exact⟨a',by simp[List.find?,ha.born,this],ha⟩
     | false=>
       simp only[hb,cond_false]at h;obtain⟨e',h1,h2⟩:=qMV ht h;have:¬a.born=n:=λe=>by subst e;simp at hb
       exact⟨e',by have hf:(a.born == n)=false:=by simpa using this
                   simp[List.find?,ha.born,hf,h1],h2⟩
theorem qUw:∀l:List Nat,qVH l=l.getLast?
 |[]=>rfl
 |[_]=>rfl
 |_::b::l=>by unfold qVH;rw[qUw (b::l)];simp[List.getLast?_cons_cons]
theorem qYs{x v:AV}{x':Value}(h:qOW x H=some (v,H'))(hx:Rel σ ρ x x')(hwr:WR σ ρ base H w):
  Okay σ ρ base H H' w (λρ' v'=>Rel σ ρ' v v') ((Instr.entry x').run P w):=by
 unfold qOW at h;split at h
 ·rename_i r
  unfold Rel at hx;obtain⟨L,hL,rfl⟩:=hx;obtain⟨blk,K1,g1,g2⟩:=qAQ h;obtain⟨hb,e1,e2,e3⟩:=qCj g1;cases blk with
  | iter m since seen stepped=>
    cases m with
    |none=>exact(qAF g2).elim
    | some m=>
      simp only at g2;generalize hst:qVH seen=ls at g2;cases ls with
      |none=>exact(qAF g2).elim
      | some stamp=>
        obtain⟨blk2,K2,g3,g4⟩:=qAQ g2;obtain⟨hb2,f1,f2,f3⟩:=qCj g3;cases blk2 with
        | map es clock=>
          obtain⟨hc,g5⟩:=qAn g4;have hc:=bE hc;subst hc;generalize he:qJh stamp es=r1 at g5;cases r1 with
          |none=>exact(qAF g5).elim
          | some e=>
            cases qAM g5;obtain⟨L',hL',hsh,M,q1,q2⟩:=hwr.blk _ _ hb;rw[hL]at hL';cases hL';obtain⟨D,q3,rfl⟩:=q1;rw[e1]at hb2;obtain⟨D',hD',es',q4,q5⟩:=hwr.blk _ _ hb2;rw[q3]at hD';cases hD';obtain⟨e',q6,q7⟩:=qMV q5 he;rw[qUw]at hst;have q6':es'.find? (·.born == stamp)=some e':=by rw[<- Array.find?_toList];exact q6
            have hback:seen.toArray.back?=some stamp:=by simp[hst]
            exact .same (b:=.tuple #[e'.key,e'.val]) (by
             simp only[Instr.entry,hsh,Nat.add_zero,getObj,Sem.run_bind,Sem.run,q2,q4,Result.andThen,hback,q6',bne_self_eq_false,Bool.false_eq_true,if_false];rfl) hwr (by rw[f1,e1]) (by rw[f2,e2]) (by unfold Rel;exact⟨_,rfl,.cons q7.key (.cons q7.val .nil)⟩)
        |_=>exact(qAF g4).elim
  |_=>exact(qAF g2).elim
 ·exact(qAF h).elim
theorem qLo:Rel σ ρ .undef (.tuple #[]):=qLd
theorem qZg{t:TypeId}{x v:AV}{x':Value}{ty:TypeId}(h:qMW P t x H=some (v,H'))(hx:Rel σ ρ x x')(hσ:One σ)(hwr:WR σ ρ base H w)(ts:List TypeId):
  Okay σ ρ base H H' w (λρ' v'=>Rel σ ρ' v v') ((Builtin.clear_ (t::ts).toArray ty #[x']).run P w):=by
 unfold qMW at h;generalize hu:P.underlying t=d at h;split at h
 ·rename_i e
  cases qAM h;unfold Rel at hx;subst hx;exact .same (b:=.tuple #[]) (by simp[Builtin.clear_,run_underlying hu]) hwr rfl rfl qLo
 ·rename_i elem b o n c es
  cases hz:zeros P elem n with
  |none=>simp only[hz]at h;exact(qAF h).elim
  | some p=>
    obtain⟨cs,es'⟩:=p;simp only[hz]at h;have hcs:=qAn h;clear h;obtain⟨he,h⟩:=hcs;have he:=bE he;subst he;unfold Rel at hx;obtain⟨L,a,cc,hL,rfl,hoff,hlc,_⟩:=hx;split at h
    ·cases qAM h
     exact .same (b:=.tuple #[]) (by simp[Builtin.clear_,run_underlying hu]) hwr rfl rfl qLo
    ·rename_i m
     obtain⟨_,K,h1,h2⟩:=qAQ h;cases qAM h2;obtain⟨i,z,zz⟩:=qHJ (σ:=σ) (ρ:=ρ) hz hσ;obtain⟨rfl,hoc⟩:a=⟨L.blk,L.sh+o,none⟩/\L.sh+o+cc*es<=L.sz:=by rcases hoff with h|h;exact h;omega
     obtain⟨n1,l1,w',s1,s2,s3⟩:=qEn (P:=P) h1 hσ hwr hL zz.rel;refine⟨.tuple #[],w',ρ,?_,.refl _ _ _,s2,s3,qLo⟩;have hzc:Builtin.zeroCells z.cells (m+1)=(qLl (m+1) z.cells.toList).toArray:=qP9 z.cells (m+1);simp[Builtin.clear_,run_underlying hu,zeroValue,typeInfo,zz.info,zz.zero,hzc,s1]
 ·exact(qAF h).elim
theorem zABf{l:List AV}{x v:AV}{l':List Value}{x':Value}(h:qQq min2A x l=some v)(hx:Rel σ ρ x x')(hl:RelL σ ρ l l')(w:World):
  ∃v',(l'.foldlM Builtin.min2 x').run P w=.ok v' w/\Rel σ ρ v v':=by
 induction l generalizing x x' l' with
 |nil=>unfold RelL at hl;subst hl;cases h;exact⟨x',by simp,hx⟩
 | cons y ys ih=>
   unfold RelL at hl;obtain⟨y',ys',rfl,hy,hys⟩:=hl;simp only[qQq]at h;split at h
   ·rename_i z hz
    unfold min2A at hz;split at hz
    ·rename_i k a k' b
     obtain⟨hk,hz'⟩:=qAb hz;clear hz;have hk:=qL5 hk;subst hk;simp only[Option.some.injEq]at hz';subst hz';unfold Rel at hx hy;subst hx;subst hy;obtain⟨v',e,r⟩:=ih (x':=.int k (if b<a then b else a)) h (by unfold Rel;rw[qIX];by_cases hab:b<a<;>simp[hab]) hys;exact⟨v',by simp only[List.foldlM_cons,Builtin.min2,Sem.run_bind,Sem.run_pure,Result.andThen_ok];exact e,r⟩
    ·cases hz
   ·cases h
theorem zAB6{l:List AV}{x v:AV}{l':List Value}{x':Value}(h:qQq max2A x l=some v)(hx:Rel σ ρ x x')(hl:RelL σ ρ l l')(w:World):
  ∃v',(l'.foldlM Builtin.max2 x').run P w=.ok v' w/\Rel σ ρ v v':=by
 induction l generalizing x x' l' with
 |nil=>unfold RelL at hl;subst hl;cases h;exact⟨x',by simp,hx⟩
 | cons y ys ih=>
   unfold RelL at hl;obtain⟨y',ys',rfl,hy,hys⟩:=hl;simp only[qQq]at h;split at h
   ·rename_i z hz
    unfold max2A at hz;split at hz
    ·rename_i k a k' b
     obtain⟨hk,hz'⟩:=qAb hz;clear hz;have hk:=qL5 hk;subst hk;simp only[Option.some.injEq]at hz';subst hz';unfold Rel at hx hy;subst hx;subst hy;obtain⟨v',e,r⟩:=ih (x':=.int k (if a<b then b else a)) h (by unfold Rel;rw[qIX];by_cases hab:a<b<;>simp[hab]) hys;exact⟨v',by simp only[List.foldlM_cons,Builtin.max2,Sem.run_bind,Sem.run_pure,Result.andThen_ok];exact e,r⟩
    ·cases hz
   ·cases h
theorem qWV{t:TypeId}{x v:AV}{lo hi mx:Option AV}{x':Value}{lo' hi' mx':Option Value}(h:qGo P t x lo hi mx H=some (v,H'))(hx:Rel σ ρ x x')
  (hlo:ORel σ ρ lo lo') (hhi:ORel σ ρ hi hi') (hmx:ORel σ ρ mx mx') (hwr:WR σ ρ base H w) :
  Okay σ ρ base H H' w (λρ' v'=>Rel σ ρ' v v') ((Instr.sliceAt t x' lo' hi' mx').run P w):=by
 unfold qGo at h;generalize hu:P.underlying t=d at h;split at h
 ·rename_i n elem b o
  cases hs:sz P elem with
  |none=>simp only[hs]at h;exact(qAF h).elim
  | some es=>
    simp only[hs]at h;obtain⟨blk,K,h1,h2⟩:=qAQ h;obtain⟨hb,e1,e2,e3⟩:=qCj h1;cases blk with
    | cells e c N=>
      obtain⟨hle,h3⟩:=qAn h2;obtain⟨v',hv,he⟩:=qCW h3;cases he;have hle:o+n*es<=N:=by simpa [Nat.ble_eq]using hle
      obtain⟨r,p1,p2⟩:=qRL (P:=P) hv hx hlo hhi hmx w (λn' elem' b' o' L es' q1 q2 q3 q4=>by cases q2;rw[hu]at q1;cases q1;rw[hs]at q4;cases q4;obtain⟨L',hL',cc,fr,r1,r2,r3,r4,r5⟩:=hwr.blk b _ hb;rw[q3]at hL';cases hL';omega)
      exact .same p1 hwr e1 e2 p2
    |_=>exact(qAF h2).elim
 ·rename_i hno
  obtain⟨v',hv,he⟩:=qCW h;cases he;obtain⟨r,p1,p2⟩:=qRL (P:=P) hv hx hlo hhi hmx w (λn' elem' b' o' L es' q1 q2 q3 q4=>absurd q2 (λe=>hno _ _ _ _ (by rw[<- hu,q1]) e));exact .same p1 hwr rfl rfl p2
structure Same(H H':AH):Prop where
 blks:H'.blks=H.blks
 lo:H'.lo=H.lo
 next:H'.next=H.next
theorem Same.refl(H:AH):Same H H:=⟨rfl,rfl,rfl⟩
theorem Same.trans{a b c:AH}(h:Same a b)(k:Same b c):Same a c:=⟨k.blks.trans h.blks,k.lo.trans h.lo,k.next.trans h.next⟩
theorem qXK{t:TypeId}{x:AV}{name:String}{p:FuncId×AV}{x':Value}(h:qHA P t x name H=some (p,H'))(hx:Rel σ ρ x x')(hwr:WR σ ρ base H w)(n:Nat):
  Same H H'/\∃r',(method (n+1) t x' name).run P w=.ok (p.1,r') w/\Rel σ ρ p.2 r':=(qAF (α:=FuncId×AV) (H:=H) h).elim
theorem qLq{b clock:Nat}{es:Array MapEntry}(hb:w.heap[b]?=some (.map es clock)):(getObj b).run P w=.ok (.map es clock) w:=by simp[getObj,Sem.run,hb]
theorem EsRel.cons{e:AEnt}{es:List AEnt}{l:List MapEntry}(h:EsRel σ ρ (e::es) l):∃e' es',l=e'::es'/\ERel σ ρ e e'/\EsRel σ ρ es es':=by
 cases l with
 |nil=>have:=h.len;simp at this
 |cons e' es'=>exact⟨e',es',rfl,h.at_ 0 _ _ rfl rfl,by have:=h.len;simpa using this,λi a b ha hb=>h.at_ (i+1) a b ha hb⟩
theorem EsRel.nil{l:List MapEntry}(h:EsRel σ ρ [] l):l=[]:=List.eq_nil_of_length_eq_zero h.len
theorem qUC{x y:ByteArray}(h:(x == y)=true):x=y:=by
 cases x with
 | mk a=>
   cases y with
   | mk b=>
     have:(a == b)=true:=h;rw[eq_of_beq this]
theorem qPW(x:ByteArray):(x == x)=true:=by
 cases x with
 |mk a=>show(a == a)=true;exact beq_self_eq_true a
theorem qRS{kd:TypeDesc}{a b:AV}{a' b':Value}{r:Bool}(h:qOA kd a b=some r)(ha:Rel σ ρ a a')(hb:Rel σ ρ b b'):Instr.sameNow kd a' b'=some r/\(r=true->a'=b'/\∀n,Instr.sameBits n b' a'=true):=by
 unfold qOA at h;split at h
 ·split at h
  ·obtain⟨hk,h⟩:=qAb h
   have hk:=qL5 hk;cases h;unfold Rel at ha hb;subst ha;subst hb;subst hk;refine⟨by simp[Instr.sameNow,qET],λe=>?_⟩;rw[qET]at e;have:=eq_of_beq e;subst this;exact⟨rfl,λn=>by cases n<;>simp[Instr.sameBits]⟩
  ·cases h
 ·split at h
  ·cases h
   unfold Rel at ha hb;subst ha;subst hb;refine⟨rfl,λe=>?_⟩;have:=qUC e;subst this;exact⟨rfl,λn=>by cases n<;>simp[Instr.sameBits,qPW]⟩
  ·cases h
 ·split at h
  ·cases h
   unfold Rel at ha hb;subst ha;subst hb;refine⟨rfl,λe=>?_⟩;have:=eq_of_beq e;subst this;exact⟨rfl,λn=>by cases n<;>simp[Instr.sameBits]⟩
  ·cases h
 ·cases h
theorem Rel.agg{cs:List AV}{v:Value}(h:Rel σ ρ (.agg cs) v):∃cs',v=.agg cs'/\RelL σ ρ cs cs'.toList:=by unfold Rel at h;exact h
theorem qSY:∀(n:Nat) {a b:AV}{a' b':Value},qU9 n a b=true->Rel σ ρ a a'->Rel σ ρ b b'->∀m,n<=m->Instr.sameBits m b' a'=true
 | 0,a,b,_,_,h,_,_,_,_=>by cases a<;>cases b<;>cases h
 | n+1,a,b,a',b',h,ha,hb,m,hm=>by
   obtain⟨m,rfl⟩:∃k,m=k+1:=⟨m-1,by omega⟩
   unfold qU9 at h;split at h
   ·unfold Rel at ha hb;subst ha;subst hb
    have:=eq_of_beq h;subst this;simp[Instr.sameBits]
   ·unfold Rel at ha hb;subst ha;subst hb
    obtain⟨h1,h2⟩:=Bool.and_eq_true_iff.1 h;have:=qL5 h1;subst this;rw[qET]at h2;have:=eq_of_beq h2;subst this;simp[Instr.sameBits]
   ·unfold Rel at ha hb;subst ha;subst hb
    have:=qUC h;subst this;simp[Instr.sameBits,qPW]
   ·rename_i _ _ _ n' xs ys q4
    cases q4;obtain⟨xs',rfl,hx⟩:=ha.agg;obtain⟨ys',rfl,hy⟩:=hb.agg;have key:∀(xs ys:List AV) (xs' ys':List Value),qZ7 (qU9 n) xs ys=true->RelL σ ρ xs xs'->RelL σ ρ ys ys'->ys'.length=xs'.length/\(ys'.zip xs').all (λ(x,y)=>Instr.sameBits m x y)=true:=by
     intro xs
     induction xs with
     | nil=>
       intro ys xs' ys' h hx hy;cases ys with
       |cons=>cases h
       |nil=>unfold RelL at hx hy;subst hx;subst hy;exact⟨rfl,rfl⟩
     | cons x xs ih=>
       intro ys xs' ys' h hx hy;cases ys with
       |nil=>cases h
       | cons y ys=>
         unfold qZ7 at h;obtain⟨h1,h2⟩:=Bool.and_eq_true_iff.1 h;unfold RelL at hx hy;obtain⟨x',xs2,rfl,hx1,hx2⟩:=hx;obtain⟨y',ys2,rfl,hy1,hy2⟩:=hy;obtain⟨e1,e2⟩:=ih _ _ _ h2 hx2 hy2;exact⟨by simp[e1],by simp only[List.zip_cons_cons,List.all_cons,e2,Bool.and_true];exact qSY n h1 hx1 hy1 m (by omega)⟩
    obtain⟨e1,e2⟩:=key xs ys _ _ h hx hy;simp only[Instr.sameBits];rw[Bool.and_eq_true_iff];exact⟨by simpa using e1,e2⟩
   ·cases h
theorem qTt{kd:TypeDesc}{kt:TypeId}{k:AV}{k':Value}(hnd:aggD kd=false)(hk:Rel σ ρ k k'):∀(es:List AEnt) (es':List MapEntry) (i:Nat) (r:Option (Nat×AV)),qIi P kt kd k es i=some r->EsRel σ ρ es es'->
  (r=none/\Instr.findNow kd k' es' i=some none)∨∃j v v' e',r=some (i+j,v)/\Instr.findNow kd k' es' i=some (some (i+j,v'))/\Rel σ ρ v v'/\es'[j]?=some e'/\Instr.sameBits 10000 e'.key k'=true:=by
 intro es
 induction es with
 | nil=>
   intro es' i r h hr;cases h;rw[hr.nil];exact .inl ⟨rfl,rfl⟩
 | cons e es ih=>
   intro es' i r h hr;obtain⟨e',es2,rfl,he,hr⟩:=hr.cons;simp only[qIi,qJL,hnd]at h;split at h
   ·rename_i q
    cases h;obtain⟨q1,q2⟩:=qRS q hk he.key;exact .inr ⟨0,e.val,e'.val,e',rfl,by simp[Instr.findNow,q1],he.val,rfl,(q2 rfl).2 _⟩
   ·rename_i q
    obtain⟨q1,_⟩:=qRS q hk he.key;rcases ih es2 (i+1) r h hr with⟨h1,h2⟩|⟨j,v,v',e2,h1,h2,h3,h4,h5⟩
    ·exact .inl ⟨h1,by simp[Instr.findNow,q1,h2]⟩
    ·have:i+1+j=i+(j+1):=by omega
     rw[this]at h1 h2;exact .inr ⟨j+1,v,v',e2,h1,by simp[Instr.findNow,q1,h2],h3,h4,h5⟩
   ·cases h
theorem qO0{kd:TypeDesc}{kt:TypeId}{k:AV}{k':Value}(hnd:aggD kd=true)(hk:Rel σ ρ k k')(w:World):∀(es:List AEnt) (es':List MapEntry) (i:Nat) (r:Option (Nat×AV)),qIi P kt kd k es i=some r->EsRel σ ρ es es'->
  (r=none/\(Instr.findAsking kt k' es' i).run P w=.ok none w)∨∃j v v' e',r=some (i+j,v)/\(Instr.findAsking kt k' es' i).run P w=.ok (some (i+j,v')) w/\Rel σ ρ v v'/\es'[j]?=some e'/\Instr.sameBits 10000 e'.key k'=true:=by
 intro es
 induction es with
 | nil=>
   intro es' i r h hr;cases h;rw[hr.nil];exact .inl ⟨rfl,by simp[Instr.findAsking]⟩
 | cons e es ih=>
   intro es' i r h hr;obtain⟨e',es2,rfl,he,hr⟩:=hr.cons;simp only[qIi,qJL,hnd]at h;cases q:aEq P 30 kt k e.key with
   |none=>simp only[q]at h;cases h
   | some b=>
     have e1:(Op.equal kt k' e'.key).run P w=.ok b w:=qXO 30 kt k e.key b k' e'.key q hk he.key 10000 (by decide) w;cases b with
     | true=>
       simp only[q]at h;cases q2:qU9 10 k e.key with
       |false=>simp only[q2,cond_false]at h;cases h
       | true=>
         simp only[q2,cond_true]at h;cases h;refine .inr ⟨0,e.val,e'.val,e',rfl,?_,he.val,rfl,qSY 10 q2 hk he.key 10000 (by decide)⟩;unfold Instr.findAsking;simp[e1]
     | false=>
       simp only[q]at h;rcases ih es2 (i+1) r h hr with⟨h1,h2⟩|⟨j,v,v',e2,h1,h2,h3,h4,h5⟩
       ·refine .inl ⟨h1,?_⟩
        unfold Instr.findAsking;simp[e1,h2]
       ·have:i+1+j=i+(j+1):=by omega
        rw[this]at h1 h2;refine .inr ⟨j+1,v,v',e2,h1,?_,h3,h4,h5⟩;unfold Instr.findAsking;simp[e1,h2]
theorem qR1{kd:TypeDesc}{kt:TypeId}(hu:P.underlying kt=some kd){k:AV}{k':Value}(hk:Rel σ ρ k k')(w:World)(es:List AEnt)(es':List MapEntry)(r:Option (Nat×AV))(h:qIi P kt kd k es 0=some r)(hr:EsRel σ ρ es es'):
  (r=none/\(Instr.findKey kt k' es').run P w=.ok none w)∨∃j v v' e',r=some (0+j,v)/\(Instr.findKey kt k' es').run P w=.ok (some (0+j,v')) w/\Rel σ ρ v v'/\es'[j]?=some e'/\Instr.sameBits 10000 e'.key k'=true:=by
 cases hnd:aggD kd with
 | false=>
   rcases qTt hnd hk es es' 0 r h hr with⟨h1,h2⟩|⟨j,v,v',e2,h1,h2,h3⟩
   ·exact .inl ⟨h1,by simp[Instr.findKey,run_underlying hu,h2]⟩
   ·exact .inr ⟨j,v,v',e2,h1,by simp only[Instr.findKey,Sem.run_bind,run_underlying hu,Result.andThen_ok,h2,Sem.run_pure],h3⟩
 | true=>
   have e0:(Instr.findKey kt k' es').run P w=(Instr.findAsking kt k' es').run P w:=by
    cases es' with
    |nil=>simp[Instr.findKey,run_underlying hu,Instr.findNow,Instr.findAsking]
    |cons e es'=>cases kd<;>first|(cases hnd;done)|simp[Instr.findKey,run_underlying hu,Instr.findNow,Instr.sameNow]
   rw[e0];exact qO0 hnd hk w es es' 0 r h hr
theorem qRM{ck:TypeId->AV->Bool}{e:TypeId}{c:Nat}{b:Bool}{n:Nat}(w:World)(hs:(sizeOf e).run P w=.ok c w)
  (hck:∀t x x',ck t x=true->Rel σ ρ x x'->(Instr.checkKey b n t x').run P w=.ok () w) {cs:List AV}{cs':Array Value}(hr:RelL σ ρ cs cs'.toList) :
  ∀(len i:Nat),qNF P ck e c cs len i=true->(forIn (List.range' i len) PUnit.unit λi _=>do
   Instr.checkKey b n e (<- part e cs' (i*(<- sizeOf e)))
   pure (ForInStep.yield PUnit.unit)).run P w=.ok PUnit.unit w:=by
 intro len
 induction len with
 |zero=>intro i _;simp
 | succ len ih=>
   intro i h;unfold qNF at h;cases h1:qE3 P e cs (i*c)with
   |none=>simp[h1]at h
   | some x=>
     simp only[h1]at h;obtain⟨h2,h3⟩:=Bool.and_eq_true_iff.1 h;obtain⟨x',e1,r1⟩:=qGn h1 hr w;rw[List.range'_succ];simp only[List.forIn_cons,Sem.run_bind,hs,Result.andThen_ok,e1,hck _ _ _ h2 r1,Sem.run_pure];exact ih (i+1) h3
theorem qQG{ck:TypeId->AV->Bool}{b:Bool}{n:Nat}(w:World)
  (hck:∀t x x',ck t x=true->Rel σ ρ x x'->(Instr.checkKey b n t x').run P w=.ok () w) {cs:List AV}{cs':Array Value}(hr:RelL σ ρ cs cs'.toList) :
  ∀(fs:List Field),qJR P ck cs fs=true->(forIn fs PUnit.unit λ(f:Field) _=>do
   if f.name≠"_" then
    Instr.checkKey b n f.type (<- part f.type cs' f.offset)
    pure (ForInStep.yield PUnit.unit)
   else pure (ForInStep.yield PUnit.unit)).run P w=.ok PUnit.unit w:=by
 intro fs
 induction fs with
 |nil=>intro _;simp
 | cons f fs ih=>
   intro h;unfold qJR at h;cases hn:f.name == "_" with
   | true=>
     simp only[hn,cond_true]at h;have hn':f.name="_":=by simpa using hn
     simp only[List.forIn_cons,hn',ne_eq,not_true_eq_false,if_false,Sem.run_bind,Sem.run_pure,Result.andThen_ok];exact ih h
   | false=>
     simp only[hn,cond_false]at h;have hn':¬f.name="_":=by simpa using hn
     cases h1:qE3 P f.type cs f.offset with
     |none=>simp[h1]at h
     | some x=>
       simp only[h1]at h;obtain⟨h2,h3⟩:=Bool.and_eq_true_iff.1 h;obtain⟨x',e1,r1⟩:=qGn h1 hr w;simp only[List.forIn_cons,hn',ne_eq,not_false_eq_true,if_true,Sem.run_bind,e1,Result.andThen_ok,hck _ _ _ h2 r1,Sem.run_pure];exact ih h3
theorem qDu:∀(d:Nat) {t:TypeId}{k:AV}{k':Value},qFT P d t k=true->Rel σ ρ k k'->∀(b:Bool) (D:Nat),d<=D->∀w,(Instr.checkKey b D t k').run P w=.ok () w
 | 0,_,_,_,h,_,_,_,_,_=>by cases h
 | d+1,t,k,k',h,hk,b,D,hD,w=>by
   obtain⟨D,rfl⟩:∃k,D=k+1:=⟨D-1,by omega⟩
   unfold qFT at h;generalize hu:P.underlying t=kd at h;split at h
   ·unfold Rel at hk;subst hk
    simp[Instr.checkKey,run_underlying hu]
   ·unfold Rel at hk;subst hk
    simp[Instr.checkKey,run_underlying hu]
   ·unfold Rel at hk;subst hk
    simp[Instr.checkKey,run_underlying hu]
   ·rename_i len e cs
    obtain⟨cs',rfl,hr⟩:=hk.agg;cases hs:sz P e with
    |none=>simp only[hs]at h;cases h
    | some c=>
      simp only[hs]at h;unfold Instr.checkKey;simp only[Sem.run_bind,run_underlying hu,Result.andThen_ok];simp only[Std.Legacy.Range.forIn_eq_forIn_range',Std.Legacy.Range.size,Nat.sub_zero,Nat.add_one_sub_one,Nat.div_one];have:=qRM (b:=b) (n:=D) w (qDz hs w) (λt x x' h1 r1=>qDu d h1 r1 b D (by omega) w) hr len 0 h;simp at this ⊢;rw[this];rfl
   ·rename_i fs cs
    obtain⟨cs',rfl,hr⟩:=hk.agg;unfold Instr.checkKey;simp only[Sem.run_bind,run_underlying hu,Result.andThen_ok];rw[<- Array.forIn_toList];have:=qQG (b:=b) (n:=D) w (λt x x' h1 r1=>qDu d h1 r1 b D (by omega) w) hr fs.toList h;simp at this ⊢;rw[this];rfl
   ·cases h
theorem qPj{v:AV}(h:qNL H=some (v,H'))(hwr:WR σ ρ base H w)(hf:Free ρ H.next H'.next)(t:TypeId)(o:Option Value)(ho:∀x,o=some x->∃k n a b,x=.int k n/\P.underlying t=some (.map a b)):
  Okay σ ρ base H H' w (λρ' v'=>Rel σ ρ' v v') ((Instr.makeMap t o).run P w):=by
 obtain⟨id,K,h1,h2⟩:=qAQ h;cases qAM h2;obtain⟨rfl,hlo,hk,hkl,hkn⟩:=qSu h1;have hn:ρ H.next=none:=hf H.next (Nat.le_refl _) (by omega);obtain⟨ρ',x1,x2,x3,x4⟩:=hwr.new (L:=⟨w.heap.size,0,0⟩) (b:=.map [] 0) hn (λj bj Lj hj hLj=>Nat.ne_of_lt (qQd hwr hj hLj)) hwr.base (qQj w (.map #[] 0)) (λρ' hle _=>⟨#[],rfl,rfl,λi e e' he _=>by simp at he⟩) hk hkl hkn;refine⟨.map (some w.heap.size),w.alloc (.map #[] 0),ρ',?_,x1,x3,x4,by unfold Rel;exact⟨_,x2,rfl⟩⟩;cases o with
 |none=>simp[Instr.makeMap]
 | some x=>
   obtain⟨k,n,a,b,rfl,hu⟩:=ho x rfl;simp[Instr.makeMap,run_underlying hu,asInt,asIntOf]
def qQA(ok:Bool)(z:Value):Option (Nat×Value)->Value
 |some (_,v)=>if ok then .tuple #[v,.bool true]else v
 |none=>if ok then .tuple #[z,.bool false]else z
theorem qN2{t kt et:TypeId}{kd:TypeDesc}{k' z:Value}{ok:Bool}{b clock:Nat}{es:Array MapEntry}{r:Option (Nat×Value)}(hu:P.underlying t=some (.map kt et))(hku:P.underlying kt=some kd)(hc:∀b w,(Instr.checkKey b 10000 kt k').run P w=.ok () w)
  (hz:∀w,(zeroValue et).run P w=.ok z w) (hb:w.heap[b]?=some (.map es clock)) (hf:(Instr.findKey kt k' es.toList).run P w=.ok r w):(Instr.lookup t (.map (some b)) k' ok).run P w=.ok (qQA ok z r) w:=by
 unfold Instr.lookup;simp only[Sem.run_bind,run_underlying hu,Result.andThen_ok,qLq hb,Sem.run_pure,hc,hf];cases r with
 |none=>simp only[Sem.run_bind,hz,Result.andThen_ok,Sem.run_pure];rfl
 |some p=>obtain⟨j,v⟩:=p;simp only[Sem.run_bind,Result.andThen_ok,Sem.run_pure];rfl
theorem qTF{t kt et:TypeId}{kd:TypeDesc}{k' z:Value}{ok:Bool}(hu:P.underlying t=some (.map kt et))(hku:P.underlying kt=some kd)(hc:∀b w,(Instr.checkKey b 10000 kt k').run P w=.ok () w)
  (hz:∀w,(zeroValue et).run P w=.ok z w):(Instr.lookup t (.map none) k' ok).run P w=.ok (qQA ok z none) w:=by
 unfold Instr.lookup;have hf:(Instr.findKey kt k' (#[]:Array MapEntry).toList).run P w=.ok none w:=by simp[Instr.findKey,run_underlying hku,Instr.findNow]
 simp only[Sem.run_bind,run_underlying hu,Result.andThen_ok,Sem.run_pure,hc,hf,hz];rfl
theorem qKm{ok:Bool}{z v:AV}{z' v':Value}(hz:Rel σ ρ z z')(hv:Rel σ ρ v v')(j:Nat):Rel σ ρ (cond ok (.tup [v,.bool true]) v) (qQA ok z' (some (j,v')))/\Rel σ ρ (cond ok (.tup [z,.bool false]) z) (qQA ok z' none):=by
 have two:∀{x:AV}{x':Value}(b:Bool),Rel σ ρ x x'->Rel σ ρ (.tup [x,.bool b]) (.tuple #[x',.bool b]):=λb h=>by unfold Rel;exact⟨_,rfl,.cons h (.cons (by unfold Rel;rfl) .nil)⟩
 cases ok with
 |true=>exact⟨two true hv,two false hz⟩
 |false=>exact⟨hv,hz⟩
theorem qX9{t:TypeId}{x k v:AV}{x' k':Value}{ok:Bool}(h:qEc P t x k ok H=some (v,H'))(hx:Rel σ ρ x x')(hk:Rel σ ρ k k')(hwr:WR σ ρ base H w):
  Okay σ ρ base H H' w (λρ' v'=>Rel σ ρ' v v') ((Instr.lookup t x' k' ok).run P w):=by
 unfold qEc at h;generalize hu:P.underlying t=d at h;split at h
 ·rename_i kt et
  generalize hku:P.underlying kt=kd at h;generalize hz:qEQ P et=z at h;split at h
  ·rename_i kd z
   obtain⟨hs,h⟩:=qAn h;obtain⟨r,K,h1,h2⟩:=qAQ h;clear h;obtain⟨z',hz1,hz2⟩:=qLL (P:=P) hz;have hzr:=hz2 σ ρ;split at h1
   ·cases qAM h1
    cases qAM h2;unfold Rel at hx;subst hx;exact .same (qTF hu hku (λb w=>qDu 10 hs hk b 10000 (by decide) w) hz1) hwr rfl rfl (qKm hzr hzr 0).2
   ·obtain⟨blk,K1,g1,g2⟩:=qAQ h1
    obtain⟨hb,e1,e2,e3⟩:=qCj g1;split at g2
    ·obtain⟨r',hr,e⟩:=qCW g2
     cases e;unfold Rel at hx;obtain⟨L,hL,rfl⟩:=hx;obtain⟨L',hL',es',q1,q2⟩:=hwr.blk _ _ hb;rw[hL]at hL';cases hL';rcases qR1 hku hk w _ es'.toList r hr q2 with⟨rfl,a2⟩|⟨j,v1,v',e',rfl,a2,a3,_⟩
     ·cases qAM h2
      exact .same (qN2 hu hku (λb w=>qDu 10 hs hk b 10000 (by decide) w) hz1 q1 a2) hwr e1 e2 (qKm hzr hzr 0).2
     ·cases qAM h2
      exact .same (qN2 hu hku (λb w=>qDu 10 hs hk b 10000 (by decide) w) hz1 q1 a2) hwr e1 e2 (qKm hzr a3 _).1
    ·exact(qAF g2).elim
   ·exact(qAF h1).elim
  ·exact(qAF h).elim
 ·exact(qAF h).elim
theorem qPg{b clock:Nat}{es:Array MapEntry}(o:Obj)(hb:w.heap[b]?=some (.map es clock)):∃w',(setObj b o).run P w=.ok () w'/\Upd w b o w':=by have hlt:=qLc hb;refine⟨{ w with heap:=w.heap.setIfInBounds b o },by simp[setObj,Sem.run,hb],rfl,rfl,rfl,by simp,by simp[hlt],λk hk=>?_⟩;show(w.heap.setIfInBounds b o)[k]?=w.heap[k]?;rw[Array.getElem?_setIfInBounds_ne (λe=>hk e.symm)]
theorem qUF(f:AEnt->AEnt):∀(es:List AEnt) (i j:Nat),(modE es i f)[j]?=if i=j then(es[j]?).map f else es[j]?
 |[],i,j=>by simp[modE]
 |e::es,0,j=>by cases j<;>simp[modE]
 | e::es,i+1,j=>by
   cases j with
   |zero=>simp[modE]
   |succ j=>simp only[modE,g1Y,qUF f es i j,Nat.add_right_cancel_iff]
theorem qNW(f:AEnt->AEnt):∀(es:List AEnt) (i:Nat),(modE es i f).length=es.length
 |[],_=>rfl
 |e::es,0=>rfl
 |e::es,i+1=>by simp[modE,qNW f es i]
theorem EsRel.modify{es:List AEnt}{es':Array MapEntry}{k v:AV}{k' v':Value}(h:EsRel σ ρ es es'.toList)(hk:Rel σ ρ k k')(hv:Rel σ ρ v v')(i:Nat):EsRel σ ρ (modE es i λe=>{ e with key:=k,val:=v }) (es'.modify i λe=>{ e with key:=k',val:=v' }).toList:=by
 refine⟨by have:=h.len;simp[qNW]at this ⊢;exact this,λj e e' he he'=>?_⟩;rw[qUF]at he;rw[Array.getElem?_toList,Array.getElem?_modify]at he';have at_:=h.at_ j;simp only[Array.getElem?_toList]at at_;split at he
 ·rename_i hij
  rw[if_pos hij]at he';rw[Option.map_eq_some_iff]at he;obtain⟨a,ha,rfl⟩:=he;cases hb:es'[j]? with
  |none=>rw[hb]at he';cases he'
  | some b=>
    rw[hb]at he';cases he';exact⟨hk,hv,(at_ a b ha hb).born⟩
 ·rename_i hij
  rw[if_neg hij]at he';exact at_ e e' he he'
theorem EsRel.push{es:List AEnt}{es':Array MapEntry}{k v:AV}{k' v':Value}(h:EsRel σ ρ es es'.toList)(hk:Rel σ ρ k k')(hv:Rel σ ρ v v')(c:Nat):EsRel σ ρ (es ++ [{ key:=k,val:=v,born:=c }]) (es'.push { key:=k',val:=v',born:=c }).toList:=by
 have hl:=h.len;refine⟨by simp at hl ⊢;exact hl,λj e e' he he'=>?_⟩;rw[Array.toList_push,List.getElem?_append]at he';rw[List.getElem?_append]at he;rw[hl]at he';split at he
 ·rename_i hlt
  rw[if_pos hlt]at he';exact h.at_ j e e' he he'
 ·rename_i hlt
  rw[if_neg hlt]at he';cases q:j-es.length with
  |zero=>rw[q]at he he';cases he;cases he';exact⟨hk,hv,rfl⟩
  |succ n=>rw[q]at he;cases he
theorem qMN{t:TypeId}{m k v:AV}{m' k' v':Value}{u:Unit}(h:qC5 P t m k v H=some (u,H'))(hm:Rel σ ρ m m')(hk:Rel σ ρ k k')(hv:Rel σ ρ v v')(hwr:WR σ ρ base H w):
  H'.next=H.next/\H'.lo=H.lo/\∃w',(Instr.mapUpdate t m' k' v').run P w=.ok () w'/\WR σ ρ base H' w'/\Below base w w':=by
 unfold qC5 at h;generalize hu:P.underlying t=d at h;split at h
 ·rename_i kt et b
  generalize hku:P.underlying kt=kd at h;split at h
  ·rename_i kd
   obtain⟨hs,h⟩:=qAn h;obtain⟨blk,K1,g1,g2⟩:=qAQ h;clear h;obtain⟨hb,e1,e2,e3⟩:=qCj g1;split at g2
   ·rename_i es clock
    obtain⟨r,K2,g3,g4⟩:=qAQ g2;obtain⟨r',hr,e⟩:=qCW g3;cases e;unfold Rel at hm;obtain⟨L,hL,rfl⟩:=hm;obtain⟨L',hL',es',q1,q2⟩:=hwr.blk _ _ hb;rw[hL]at hL';cases hL';have hc:(Instr.checkKey false 10000 kt k').run P w=.ok () w:=qDu 10 hs hk _ 10000 (by decide) _;rcases qR1 hku hk w _ es'.toList r hr q2 with⟨rfl,a2⟩|⟨j,v1,v2,e',rfl,a2,a3,a4,a5⟩
    ·simp only[qAw]at g4
     obtain⟨w1,_,w3,w4,w5⟩:=qKY g4;obtain⟨w',s1,s2⟩:=qPg (P:=P) (.map (es'.push { key:=k',val:=v',born:=clock }) (clock+1)) q1;obtain⟨p1,p2⟩:=hwr.put (K:=H') (b:=.map (es ++ [{ key:=k,val:=v,born:=clock }]) (clock+1)) hb hL (by rw[<- e2];exact w1) s2 ⟨_,rfl,q2.push hk hv clock⟩ (λj=>by rw[w3 j,e1]) (by rw[w4,e2]);refine⟨by rw[w5,e3],by rw[w4,e2],w',?_,p1,p2⟩;simp only[Instr.mapUpdate,Sem.run_bind,run_underlying hu,Result.andThen_ok,qLq q1,hc,a2,Sem.run_pure,s1]
    ·simp only at g4
     rw[zA]at g4 a2;obtain⟨w1,_,w3,w4,w5⟩:=qKY g4;obtain⟨w',s1,s2⟩:=qPg (P:=P) (.map (es'.modify j λe=>{ e with key:=k',val:=v' }) clock) q1;obtain⟨p1,p2⟩:=hwr.put (K:=H') (b:=.map (modE es j λe=>{ e with key:=k,val:=v }) clock) hb hL (by rw[<- e2];exact w1) s2 ⟨_,rfl,q2.modify hk hv j⟩ (λj=>by rw[w3 j,e1]) (by rw[w4,e2]);refine⟨by rw[w5,e3],by rw[w4,e2],w',?_,p1,p2⟩;have hst:(Instr.keyThatStays (((es'[j]?).map (·.key)).getD k') k').run P w=.ok k' w:=by rw[Array.getElem?_toList]at a4;simp[Instr.keyThatStays,a4,a5]
     simp only[Instr.mapUpdate,Sem.run_bind,run_underlying hu,Result.andThen_ok,qLq q1,hc,a2,Sem.run_pure,hst,s1]
   ·exact(qAF g2).elim
  ·exact(qAF h).elim
 ·exact(qAF h).elim
theorem zACI{dT:TypeId}{d s v:AV}{d' s':Value}{ty:TypeId}{ts:List TypeId}(h:qRf P dT d s H=some (v,H'))(hd:Rel σ ρ d d')(hx:Rel σ ρ s s')(hσ:One σ)(hwr:WR σ ρ base H w):
  Okay σ ρ base H H' w (λρ' v'=>Rel σ ρ' v v') ((Builtin.copy_ (dT::ts).toArray ty #[d',s']).run P w):=by
 unfold qRf at h;generalize hu:P.underlying dT=u at h;generalize hm:qAN s=m at h;generalize hk:qAN d=k at h;split at h
 ·rename_i elem m k
  generalize hs:sz P elem=es at h;split at h
  ·rename_i es
   simp only[qAw]at h;obtain⟨cs,K,h1,h2⟩:=qAQ h;clear h;obtain⟨e1,e2,e3,vs,a1,a2,a3,a4,a5⟩:=qGI (P:=P) h1 hx hm (Nat.min_le_left _ _) hwr;have hlo:=qRX (P:=P) hm hx w;have hf:=a5 w rfl;have hmin:Nat.min m k=min m k:=rfl;split at h2
   ·rename_i b o l cap es'
    obtain⟨hes,h3⟩:=qAn h2;have hes:=bE hes;subst hes;unfold Rel at hd;obtain⟨L,a,c,hL,rfl,hoff,hlc,hcap⟩:=hd;have hkl:l=k:=Option.some.inj hk;subst hkl;generalize hn:min m l=n at *;split at h3
    ·cases qAM h3
     have hvs:vs=[]:=List.eq_nil_of_length_eq_zero (by rw[a1,Nat.zero_mul]);subst hvs;refine .same (b:=goInt 0) ?_ hwr e1 e2 (by unfold Rel;rfl);simp[Builtin.copy_,run_underlying hu,hlo,qDz hs,hmin,hn,hf,qKS]
    ·rename_i n
     obtain⟨u,K2,h4,h5⟩:=qAQ h3;cases qAM h5;have ha:a=⟨L.blk,L.sh+o,none⟩:=by
      rcases hoff with⟨h,_⟩|⟨h,_⟩
      ·exact h
      ·subst h;simp at hn
     subst ha;obtain⟨n1,l1,w',s1,s2,s3⟩:=qEn (P:=P) h4 hσ (hwr.log e1 e2) hL a2;refine⟨goInt (n+1),w',ρ,?_,.refl _ _ _,s2,s3,by unfold Rel;rfl⟩;simp[Builtin.copy_,run_underlying hu,hlo,qDz hs,hmin,hn,hf,s1]
   ·rename_i hno
    cases qAM h2;have hd0:d=.nilslc/\k=0:=by
     unfold qAN at hk;split at hk
     ·exact absurd rfl (hno _ _ _ _ _)
     ·cases hk;exact⟨rfl,rfl⟩
     ·cases hk
    obtain⟨rfl,rfl⟩:=hd0;unfold Rel at hd;subst hd;simp only[Nat.min_zero]at hf;refine .same (b:=goInt 0) ?_ hwr e1 e2 (by unfold Rel;simp[goInt]);have hmin0:Nat.min m 0=0:=Nat.min_zero m;simp[Builtin.copy_,run_underlying hu,hlo,qDz hs,hmin0,hf]
  ·exact(qAF h).elim
 ·exact(qAF h).elim
theorem qWm{t:TypeId}{m k v:AV}{m' k':Value}{ty:TypeId}{ts:List TypeId}(h:qTa P t m k H=some (v,H'))(hm:Rel σ ρ m m')(hk:Rel σ ρ k k')(hwr:WR σ ρ base H w):
  Okay σ ρ base H H' w (λρ' v'=>Rel σ ρ' v v') ((Builtin.delete_ (t::ts).toArray ty #[m',k']).run P w):=(qAF (α:=AV) (H:=H) h).elim
end
end Go.AM
namespace Go.AM
open Go Go.RowKit
section
variable {P:Program} {σ:Nat→Value} {ρ:Ren} {base:Nat} {H H':AH} {w:World} {nt:Nat} {T:Tmps} {a:Act}
theorem qAy{x:Operand}{v:AV}(h:ev T x=some v)(hT:TRel σ ρ nt T a.tmps):Rel σ ρ v (a.eval x):=by
 cases x with
 | tmp t=>
   have:=hT.at_ t;unfold tget at this;simp only[ev]at h;split at h
   ·rename_i u hu;cases h;rw[hu]at this;exact this
   ·rename_i hu;cases h;rw[hu]at this;exact this
 |const c=>exact qTE 2 c v h
 |global g=>cases h
 |func f=>cases h;unfold Rel;exact⟨#[],#[],rfl,.nil,.nil⟩
theorem qOq:∀{l:List Operand}{vs:List AV},evs T l=some vs->TRel σ ρ nt T a.tmps->RelL σ ρ vs (l.map a.eval)
 |[],vs,h,_=>by cases h;exact .nil
 | x::l,vs,h,hT=>by
   unfold evs at h;split at h
   ·cases h
   ·rename_i v hv
    split at h
    ·cases h
    ·rename_i us hus
     cases h;exact .cons (qAy hv hT) (qOq hus hT)
theorem qKk:∀{l:List (Nat×Operand)}{ps:List (Nat×AV)},qDa T l=some ps->TRel σ ρ nt T a.tmps->PRel σ ρ ps (l.map λ(i,x)=>(i,a.eval x))
 |[],ps,h,_=>by cases h;exact .nil
 | (i,x)::l,ps,h,hT=>by
   unfold qDa at h;split at h
   ·rename_i v us hv hus
    cases h;exact .cons (qAy hv hT) (qKk hus hT)
   ·cases h
theorem qQU{x:Option Operand}{v:Option AV}(h:opt T x=some v)(hT:TRel σ ρ nt T a.tmps):ORel σ ρ v (x.map a.eval):=by
 cases x with
 |none=>cases h;exact .none
 | some x=>
   simp only[opt]at h;split at h
   ·rename_i u hu;cases h;exact .some (qAy hu hT)
   ·cases h
def qEj(P:Program):Prop:=∀(k:FuncId) (fn:Func),P.funcs[k]?=some fn->fn.name≠"runtime.NumGoroutine"
def NRel(P:Program)(σ:Nat->Value)(ρ:Ren)(w:World):ANext->Next->Prop
 | .val v,n=>(∃v',n=.value v'/\Rel σ ρ v v')∨(n=.skip/\v=.undef)
 | .enter f args,n=>∃args':Array Value,n=.enter f args'/\RelL σ ρ args args'.toList
 | .round l args,n=>∃(L:Loc) (args':Array Value),ρ l=some L/\RelL σ ρ args args'.toList/\(Instr.yield L.blk args').run P w=.ok n w
def qML(P:Program)(σ:Nat->Value)(ρ:Ren)(base:Nat)(H H':AH)(w:World)(x:ANext)(r:Result Next):Prop:=
 ∃n w' ρ',r=.ok n w'/\Ext ρ ρ' H.next H'.next/\WR σ ρ' base H' w'/\Below base w w'/\NRel P σ ρ' w' x n
theorem qML.of_val{v:AV}{s:Sem Value}(h:Okay σ ρ base H H' w (λρ' v'=>Rel σ ρ' v v') (s.run P w)):qML P σ ρ base H H' w (.val v) ((do pure (.value (<- s)):Sem Next).run P w):=by obtain⟨b,w',ρ',e,x1,x2,x3,r⟩:=h;exact⟨.value b,w',ρ',by simp[e],x1,x2,x3,.inl ⟨b,rfl,r⟩⟩
theorem qML.pure{v:AV}{s:Sem Value}{v':Value}(h:s.run P w=.ok v' w)(hr:Rel σ ρ v v')(hwr:WR σ ρ base H w):qML P σ ρ base H H w (.val v) ((do pure (.value (<- s)):Sem Next).run P w):=
 .of_val (.same h hwr rfl rfl hr)
theorem qQu{k:FuncId}(hname:qEj P)(h:isFn P k=true)(args:Array Value)(w:World):(callFunc k args).run P w=.ok (.enter k args) w:=by
 unfold isFn at h;split at h
 ·rename_i fn hfn
  have h1:¬fn.name="runtime.NumGoroutine":=hname k fn hfn;have h2:¬fn.body=none:=by intro e;rw[e]at h;cases h
  simp[callFunc,hfn,h1,h2]
 ·cases h
theorem zAD6{k:FuncId}{args:List AV}{x:ANext}{args':Array Value}(hname:qEj P)(h:goA P k args H=some (x,H'))(hr:RelL σ ρ args args'.toList)(hwr:WR σ ρ base H w):
  qML P σ ρ base H H' w x ((callFunc k args').run P w):=by
 obtain⟨hf,h2⟩:=qAn h;cases qAM h2;exact⟨_,w,ρ,qQu hname hf args' w,.refl _ _ _,hwr,.refl _ _,args',rfl,hr⟩
theorem qXG{t:TypeId}{v:AV}{name:String}{args:List AV}{x:ANext}{v':Value}{args':List Value}(hname:qEj P)
  (h:bd (qHA P t v name) (λp=>goA P p.1 (p.2::args)) H=some (x,H')) (hv:Rel σ ρ v v') (hr:RelL σ ρ args args') (hwr:WR σ ρ base H w) :
  qML P σ ρ base H H' w x ((callMethod (.iface t v') name args'.toArray).run P w):=by
 obtain⟨p,K,h1,h2⟩:=qAQ h;obtain⟨sm,r',e,r⟩:=qXK (P:=P) h1 hv hwr (P.types.size+Made.depth-1)
 have hd:P.types.size+Made.depth-1+1=P.types.size+Made.depth:=by have:0<Made.depth:=by decide
                                                                 omega
 rw[hd]at e;obtain⟨n,w',ρ',q1,q2,q3,q4,q5⟩:=zAD6 (args':=#[r']++args'.toArray) hname h2 (by simpa using RelL.cons r hr) (hwr.log sm.blks sm.lo);refine⟨n,w',ρ',?_,by rw[<- sm.next];exact q2,q3,q4,q5⟩;simp only[callMethod,Sem.run_bind,run_program,Result.andThen_ok,e];exact q1
theorem qVy{b:Builtin}{ts:Array TypeId}{args:List AV}{v:AV}{args':Array Value}{ty:TypeId}{cs:Array Bool}(h:qEr P b ts.toList args H=some (v,H'))(hr:RelL σ ρ args args'.toList)(hσ:One σ)(hwr:WR σ ρ base H w)(hf:Free ρ H.next H'.next):
  qML P σ ρ base H H' w (.val v) ((builtin b ts ty cs args').run P w):=by
 obtain⟨ts⟩:=ts;obtain⟨args'⟩:=args';simp only at hr h;unfold qEr at h;split at h
 ·rename_i st xt s x
  unfold RelL at hr;obtain⟨s',l1,rfl,hs,hr⟩:=hr;unfold RelL at hr;obtain⟨x',l2,rfl,hx,hr⟩:=hr;unfold RelL at hr;subst hr;exact .of_val (qYe h hs hx hσ hwr hf)
 ·rename_i t ts x
  unfold RelL at hr;obtain⟨x',l2,rfl,hx,hr⟩:=hr;unfold RelL at hr;subst hr;exact .of_val (zADL h hx hwr ts)
 ·rename_i t ts x
  unfold RelL at hr;obtain⟨x',l2,rfl,hx,hr⟩:=hr;unfold RelL at hr;subst hr;exact .of_val (qZg h hx hσ hwr ts)
 ·rename_i x xs
  unfold RelL at hr;obtain⟨x',l2,rfl,hx,hr⟩:=hr;obtain⟨r,hr1,hr2⟩:=qCW h;cases hr2;obtain⟨v',e,r⟩:=zABf (P:=P) hr1 hx hr w;exact .pure (s:=Builtin.min_ _ _ _) (by simpa [Builtin.min_]using e) r hwr
 ·rename_i x xs
  unfold RelL at hr;obtain⟨x',l2,rfl,hx,hr⟩:=hr;obtain⟨r,hr1,hr2⟩:=qCW h;cases hr2;obtain⟨v',e,r⟩:=zAB6 (P:=P) hr1 hx hr w;exact .pure (s:=Builtin.max_ _ _ _) (by simpa [Builtin.max_]using e) r hwr
 ·rename_i t ts d s
  unfold RelL at hr;obtain⟨d',l2,rfl,hd,hr⟩:=hr;unfold RelL at hr;obtain⟨s',l3,rfl,hs,hr⟩:=hr;unfold RelL at hr;subst hr;exact .of_val (zACI (ts:=ts) h hd hs hσ hwr)
 ·rename_i t ts d s
  unfold RelL at hr;obtain⟨d',l2,rfl,hd,hr⟩:=hr;unfold RelL at hr;obtain⟨s',l3,rfl,hs,hr⟩:=hr;unfold RelL at hr;subst hr;exact .of_val (qWm (ts:=ts) h hd hs hwr)
 ·exact(qAF h).elim
theorem qZM{l:Nat}{args:List AV}{x:ANext}{args':Array Value}{L:Loc}(h:bd (rd l) (λblk=>match blk with
    | .loop _ _ _ _ ps _ _ _=>cond (Nat.beq ps.length args.length) (ret (.round l args)) fail
    |_=>fail) H=some (x,H')) (hL:ρ l=some L) (hr:RelL σ ρ args args'.toList) (hwr:WR σ ρ base H w) :
  qML P σ ρ base H H' w x ((Instr.yield L.blk args').run P w):=by
 obtain⟨blk,K,h1,h2⟩:=qAQ h;obtain⟨hb,e1,e2,e3⟩:=qCj h1;cases blk with
 | loop st pd nt T ps as bo d=>
   obtain⟨hl,h3⟩:=qAn h2;cases qAM h3;have hl:=bE hl;obtain⟨L',hL',fn,tm,D,_,q2,_⟩:=hwr.blk l _ hb;rw[hL]at hL';cases hL';have hsz:args'.size=ps.length:=by have:=hr.length;simp at this;omega
   have hrun:∃n,(Instr.yield L.blk args').run P w=.ok n w:=by refine⟨.round L.blk fn ((ps.toArray.zip args').foldl (λtmps (x:Tmp×Value)=>tmps.setIfInBounds x.1 x.2) tm) as bo,?_⟩;simp only[Instr.yield,Instr.getLoop,getObj,Sem.run_bind,Sem.run,q2,Result.andThen_ok];simp[hsz]
   obtain⟨n,hn⟩:=hrun;exact⟨n,w,ρ,hn,by rw[<- e3];exact .refl _ _ _,hwr.log e1 e2,.refl _ _,L,args',hL,hr,hn⟩
 |_=>exact(qAF h2).elim
theorem qPY(name:String)(cap:Array Value)(v:Value)(X:Array Value)(w:World):(invoke (.fn (.method name) cap) (#[v]++X)).run P w=(callMethod v name X).run P w:=by
 have e0:(#[v]++X)[0]?=some v:=by rw[Array.getElem?_append_left (by simp)];rfl
 have e1:(#[v]++X).extract 1 (#[v]++X).size=X:=by apply Array.ext';rw[Array.toList_extract];simp only[List.extract_eq_take_drop,Array.toList_append,List.singleton_append,List.drop_succ_cons,List.drop_zero,Array.size_append];rw[List.take_of_length_le (by simp)]
 simp only[invoke,e0,e1]
theorem zABk{c:Call}{x:ANext}{ty:TypeId}(hname:qEj P)(h:qI9 P T c H=some (x,H'))(hT:TRel σ ρ nt T a.tmps)(hσ:One σ)(hwr:WR σ ρ base H w)(hf:Free ρ H.next H'.next):
  qML P σ ρ base H H' w x ((do let d <- resolve a.eval c ty;invoke d.target d.args:Sem Next).run P w):=by
 unfold qI9 at h;generalize hargs:evs T c.args.toList=ao at h;cases ao with
 |none=>exact(qAF h).elim
 | some args=>
   have hr:=qOq hargs hT;have hr':RelL σ ρ args (c.args.map a.eval).toList:=by simpa using hr
   simp only at h;cases hc:c.callee with
   | builtin b=>
     simp only[hc]at h;obtain⟨v,K,h1,h2⟩:=qAQ h;cases qAM h2;simp only[resolve,hc,invoke,Sem.run_bind,Sem.run_pure,Result.andThen_ok];exact qVy (P:=P) h1 hr' hσ hwr hf
   | invoke r name=>
     simp only[hc]at h;generalize hrv:ev T r=rv at h;split at h
     ·rename_i t v
      have hv:=qAy (a:=a) hrv hT;unfold Rel at hv;obtain⟨v',he,hv⟩:=hv;have:=qXG (P:=P) hname h hv hr hwr;simp only[resolve,hc,he,Sem.run_bind,Sem.run_pure,Result.andThen_ok,qPY];have e:(List.map a.eval c.args.toList).toArray=Array.map a.eval c.args:=by apply Array.ext';simp
      rw[e]at this;exact this
     ·exact(qAF h).elim
   | value f=>
     simp only[hc]at h;generalize hfv:ev T f=fv at h;split at h
     ·rename_i k first cap
      have hv:=qAy (a:=a) hfv hT;unfold Rel at hv;obtain⟨fs,cs,he,h1,h2⟩:=hv;have:=zAD6 (args':=fs++c.args.map a.eval++cs) hname h (by simpa using(h1.append hr).append h2) hwr;simp only[resolve,hc,he,Deferred.ofValue,invoke,Sem.run_bind,Sem.run_pure,Result.andThen_ok];exact this
     ·rename_i name t v cap
      have hv:=qAy (a:=a) hfv hT;unfold Rel at hv;obtain⟨fs,cs,he,h1,h2⟩:=hv;unfold RelL at h1;obtain⟨y,ys,hfs,h1,h3⟩:=h1;unfold RelL at h3;subst h3;unfold Rel at h1;obtain⟨v',rfl,h1⟩:=h1;have hfs':fs=#[.iface t v']:=by apply Array.ext';rw[hfs]
      subst hfs';have:=qXG (P:=P) hname h h1 hr hwr;simp only[resolve,hc,he,Deferred.ofValue,Sem.run_bind,Sem.run_pure,Result.andThen_ok,qPY];have e:(List.map a.eval c.args.toList).toArray=Array.map a.eval c.args:=by apply Array.ext';simp
      rw[e]at this;exact this
     ·rename_i l
      have hv:=qAy (a:=a) hfv hT;unfold Rel at hv;obtain⟨L,hL,he⟩:=hv;have:=qZM (P:=P) h hL hr' hwr;simp only[resolve,hc,he,Deferred.ofValue,invoke,Sem.run_bind,Sem.run_pure,Result.andThen_ok];simpa using this
     ·exact(qAF h).elim
end
end Go.AM
namespace Go.AM
open Go Go.RowKit
section
variable {P:Program} {σ:Nat→Value} {ρ:Ren} {base:Nat} {H H':AH} {w:World} {nt:Nat} {T:Tmps} {a:Act}
def qXL:Value->Bool
 | .pointer none | .nilIface | .nilFunc=>false
 | .func (.method _) _ _=>false
 |_=>true
theorem qO7{x v:AV}{x':Value}(h:qAc x=some v)(hx:Rel σ ρ x x'):v=x/\qXL x'=true:=by
 have hv:v=x:=by unfold qAc at h;split at h<;>first|(cases h;done)|(cases h;rfl)
 subst hv;refine⟨rfl,?_⟩;cases v
 case fn f as bs=>unfold Rel at hx;obtain⟨as',bs',rfl,_⟩:=hx;cases f<;>first|rfl|(simp[qAc]at h;done)
 all_goals (unfold Rel at hx;first
  |(simp[qAc]at h;done)
  |(subst hx;rfl)
  |(obtain⟨_,_,rfl⟩:=hx;rfl)
  |(obtain⟨_,_,_,_,rfl,_⟩:=hx;rfl)
  |(obtain⟨_,rfl,_⟩:=hx;rfl))
theorem qYv{y:Operand}{dst:Option Tmp}{type:TypeId}{pos:String}{after:Array Edge}{guard:Option (Nat×Bool)}(h:qXL (a.eval y)=true)(w:World):
  (execOp a.eval { dst,op:=.nilCheck y,type,pos,after,guard }).run P w=.ok (.value (a.eval y)) w:=by
 simp only[execOp];generalize a.eval y=x' at *;cases x' with
 |pointer q=>cases q<;>first|rfl|(simp[qXL]at h;done)
 |func f as bs=>cases f<;>first|rfl|(simp[qXL]at h;done)
 |_=>first|rfl|(simp[qXL]at h;done)
theorem qFF{o:Option AV}{x:ANext}{s:Sem Value}(h:bd (lift o) (λx=>ret (ANext.val x)) H=some (x,H'))(hwr:WR σ ρ base H w)
  (hs:∀v,o=some v->∃v',s.run P w=.ok v' w/\Rel σ ρ v v'):qML P σ ρ base H H' w x ((do pure (.value (<- s)):Sem Next).run P w):=by
 obtain⟨v,K,h1,h2⟩:=qAQ h;obtain⟨v',hv,e⟩:=qCW h1;cases e;cases qAM h2;obtain⟨u,e,r⟩:=hs v hv;exact .pure e r hwr
theorem qIa{m:M AV}{x:ANext}{s:Sem Value}(h:bd m (λx=>ret (ANext.val x)) H=some (x,H'))
  (hs:∀v,m H=some (v,H')->Okay σ ρ base H H' w (λρ' v'=>Rel σ ρ' v v') (s.run P w)):qML P σ ρ base H H' w x ((do pure (.value (<- s)):Sem Next).run P w):=by
 obtain⟨v,K,h1,h2⟩:=qAQ h;cases qAM h2;exact .of_val (hs v h1)
theorem zAD2{o:Oper}{x:ANext}(hname:qEj P)(h:opA P T o.op H=some (x,H'))(hT:TRel σ ρ nt T a.tmps)(hσ:One σ)(hwr:WR σ ρ base H w)(hf:Free ρ H.next H'.next):
  qML P σ ρ base H H' w x ((execOp a.eval o).run P w):=by
 obtain⟨dst,op,type,pos,after,guard⟩:=o;simp only at h;unfold opA at h;cases op<;>simp only[execOp]at h ⊢<;>try (exact(qAF h).elim)
 case move y=>
  generalize hy:ev T y=v at h;cases v with
  |none=>exact(qAF h).elim
  | some v=>
    obtain⟨_,K,h1,h2⟩:=qAQ h;cases qAM h1;cases qAM h2;exact⟨_,w,ρ,rfl,.refl _ _ _,hwr,.refl _ _,.inl ⟨_,rfl,qAy hy hT⟩⟩
 case assign y=>
  generalize hy:ev T y=v at h;cases v with
  |none=>exact(qAF h).elim
  | some v=>
    obtain⟨_,K,h1,h2⟩:=qAQ h;cases qAM h1;cases qAM h2;exact⟨_,w,ρ,rfl,.refl _ _ _,hwr,.refl _ _,.inl ⟨_,rfl,qAy hy hT⟩⟩
 case pick c y z=>
  generalize hc:ev T c=v at h;split at h
  ·rename_i t
   have hcr:=qAy (a:=a) hc hT;unfold Rel at hcr;cases t with
   | true=>
     simp only[cond_true]at h;generalize hy:ev T y=v at h;cases v with
     |none=>exact(qAF h).elim
     | some v=>
       obtain⟨_,K,h1,h2⟩:=qAQ h;cases qAM h1;cases qAM h2;exact⟨_,w,ρ,by simp[hcr,asBool],.refl _ _ _,hwr,.refl _ _,.inl ⟨_,rfl,qAy hy hT⟩⟩
   | false=>
     simp only[cond_false]at h;generalize hy:ev T z=v at h;cases v with
     |none=>exact(qAF h).elim
     | some v=>
       obtain⟨_,K,h1,h2⟩:=qAQ h;cases qAM h1;cases qAM h2;exact⟨_,w,ρ,by simp[hcr,asBool],.refl _ _ _,hwr,.refl _ _,.inl ⟨_,rfl,qAy hy hT⟩⟩
  ·exact(qAF h).elim
 case alloc t=>exact qIa h λv hv=>qY0 hv hσ hwr hf
 case box t y=>
  generalize hy:ev T y=v at h;cases v with
  |none=>exact(qAF h).elim
  |some v=>exact qIa h λu hu=>zACs hu (qAy hy hT) hσ hwr hf
 case build t ps=>
  generalize hy:qDa T ps.toList=v at h;cases v with
  |none=>exact(qAF h).elim
  |some l=>exact qFF h hwr λv hv=>qWx hv (by simpa using qKk (a:=a) hy hT) hσ w
 case buildSlice t n ps=>
  generalize hy:qDa T ps.toList=v at h;cases v with
  |none=>exact(qAF h).elim
  |some l=>exact qIa h λv hv=>qP7 hv (by simpa using qKk (a:=a) hy hT) hσ hwr hf
 case load t y=>
  by_cases hgl:∃g,y=.global g
  ·obtain⟨g,rfl⟩:=hgl
   refine qIa h λu hu=>?_;obtain⟨e1,e2,e3,v',e,r⟩:=qWS (P:=P) hu hwr;exact .same (by simp[Instr.loadAt,Instr.sureAddr,Act.eval,e]) hwr e1 e2 r
  replace h:(match ev T y with
   | some p=>bd (match p with
     | .ptr b o=>qHk P t b o
     |_=>fail) λr=>ret (ANext.val r)
   |none=>fail) H=some (x,H'):=by
   cases y<;>first|exact absurd ⟨_,rfl⟩ hgl|exact h
  generalize hy:ev T y=v at h;cases v with
  |none=>exact(qAF h).elim
  | some v=>
    refine qIa h λu hu=>?_;have hr:=qAy (a:=a) hy hT;split at hu
    ·rename_i b o
     unfold Rel at hr;obtain⟨L,hL,he⟩:=hr;obtain⟨e1,e2,e3,v',e,r⟩:=qUj (P:=P) hu hwr hL;exact .same (by simp[Instr.loadAt,he,Instr.sureAddr,e]) hwr e1 e2 r
    ·exact(qAF hu).elim
 case store t y z=>
  generalize hy:ev T y=v at h;generalize hz:ev T z=u at h;cases v with
  |none=>exact(qAF h).elim
  | some v=>
    cases u with
    |none=>exact(qAF h).elim
    | some u=>
      obtain⟨_,K,h1,h2⟩:=qAQ h;cases qAM h2;have hr:=qAy (a:=a) hy hT;have hq:=qAy (a:=a) hz hT;unfold qIw at h1;split at h1
      ·rename_i b o
       generalize hs:sz P t=n at h1;cases n with
       |none=>exact(qAF h1).elim
       | some n=>
         obtain⟨hl,h3⟩:=qAn h1;have hl:=bE hl;unfold Rel at hr;obtain⟨L,hL,he⟩:=hr;have hcs:=qGA hσ hq;obtain⟨n1,l1,w',s1,s2,s3⟩:=qEn (P:=P) h3 hσ hwr hL hcs;have hsize:(a.eval z).cells.size=n:=by have:=hcs.length;simp at this;omega
         exact⟨.skip,w',ρ,by simp[Instr.storeAt,he,Instr.sureAddr,storeVar,qDz hs,hsize,s1],.refl _ _ _,s2,s3,.inr ⟨rfl,rfl⟩⟩
      ·exact(qAF h1).elim
 case sliceToArrayPointer t y=>
  generalize hy:ev T y=v at h;cases v with
  |none=>exact(qAF h).elim
  | some v=>
    refine qFF h hwr λu hu=>?_;have hr:=qAy (a:=a) hy hT;unfold zACO at hu;generalize hd:P.underlying t=d at hu;split at hu
    ·rename_i n e b o len c es
     obtain⟨hl,hu⟩:=qAb hu;cases hu;obtain⟨h1,h2⟩:=Bool.and_eq_true_iff.1 hl;have h1:=Nat.le_of_ble_eq_true h1;have h2:0<len:=Nat.le_of_ble_eq_true h2;unfold Rel at hr;obtain⟨L,a',c',hL,hv,hor,_⟩:=hr;have ha:a'=⟨L.blk,L.sh+o,none⟩:=by
      rcases hor with⟨h,_⟩|⟨h,_⟩
      ·exact h
      ·omega
     refine⟨.pointer (some ⟨L.blk,L.sh+o,none⟩),?_,by unfold Rel;exact⟨L,hL,rfl⟩⟩;have hnl:¬len<n:=by omega
     simp[Instr.arrayAt,run_underlying hd,hv,ha,hnl]
    ·cases hu
 case nilCheck y=>
  generalize hy:ev T y=v at h;cases v with
  |none=>exact(qAF h).elim
  | some v=>
    obtain⟨u,K,h1,h2⟩:=qAQ h;obtain⟨u',hu,e⟩:=qCW h1;cases e;cases qAM h2;obtain⟨rfl,r⟩:=qO7 hu (qAy (a:=a) hy hT);exact⟨_,w,ρ,qYv (dst:=dst) (type:=type) (pos:=pos) (after:=after) (guard:=guard) r w,.refl _ _ _,hwr,.refl _ _,.inl ⟨_,rfl,qAy hy hT⟩⟩
 case binOp op t y z t2=>
  generalize hy:ev T y=v at h;generalize hz:ev T z=u at h;cases v with
  |none=>exact(qAF h).elim
  | some v=>
    cases u with
    |none=>exact(qAF h).elim
    |some u=>exact qFF h hwr λr hr=>qZL hr (qAy hy hT) (qAy hz hT) w
 case unOp op t y=>
  generalize hy:ev T y=v at h;cases v with
  |none=>exact(qAF h).elim
  |some v=>exact qFF h hwr λr hr=>qYZ hr (qAy hy hT) w
 case convert s d y=>
  generalize hy:ev T y=v at h;cases v with
  |none=>exact(qAF h).elim
  |some v=>exact qFF h hwr λr hr=>qTd hr (qAy hy hT) w
 case makeInterface t y=>
  generalize hy:ev T y=v at h;cases v with
  |none=>exact(qAF h).elim
  |some v=>exact qFF h hwr λr hr=>qQh hr (qAy hy hT) w
 case makeFunc f fs cs=>
  have key:∀g:Fn,(match evs T fs.toList,evs T cs.toList with
    |some a,some b=>ret (ANext.val (.fn g a b))
    |_,_=>fail) H=some (x,H')->qML P σ ρ base H H' w x ((do pure (.value (<- Instr.makeFunc g (fs.map a.eval) (cs.map a.eval))):Sem Next).run P w):=by
   intro g h;generalize h1:evs T fs.toList=l1 at h;generalize h2:evs T cs.toList=l2 at h;cases l1 with
   |none=>exact(qAF h).elim
   | some l1=>
     cases l2 with
     |none=>exact(qAF h).elim
     | some l2=>
       cases qAM h;have r1:=qOq (a:=a) h1 hT;have r2:=qOq (a:=a) h2 hT;exact .pure (v':=.func g (fs.map a.eval) (cs.map a.eval)) rfl (by unfold Rel;exact⟨_,_,rfl,by simpa using r1,by simpa using r2⟩) hwr
  cases f with
  |func k=>exact key _ h
  |method n=>exact key _ h
  |_=>exact(qAF h).elim
 case makeSlice t y z=>
  generalize hy:ev T y=v at h;generalize hz:ev T z=u at h;cases v with
  |none=>exact(qAF h).elim
  | some v=>
    cases u with
    |none=>exact(qAF h).elim
    |some u=>exact qIa h λr hr=>qSI hr (qAy hy hT) (qAy hz hT) hσ hwr hf
 case slice t y lo hi mx=>
  generalize hy:ev T y=v at h;generalize hlo:opt T lo=o1 at h;generalize hhi:opt T hi=o2 at h;generalize hmx:opt T mx=o3 at h;cases v with
  |none=>exact(qAF h).elim
  | some v=>
    cases o1 with
    |none=>exact(qAF h).elim
    | some o1=>
      cases o2 with
      |none=>exact(qAF h).elim
      | some o2=>
        cases o3 with
        |none=>exact(qAF h).elim
        |some o3=>exact qIa h λr hr=>qWV hr (qAy hy hT) (qQU hlo hT) (qQU hhi hT) (qQU hmx hT) hwr
 case fieldAddr s y f=>
  generalize hy:ev T y=v at h;cases v with
  |none=>exact(qAF h).elim
  |some v=>exact qFF h hwr λr hr=>qQW hr (qAy hy hT) w
 case field s y f=>
  generalize hy:ev T y=v at h;cases v with
  |none=>exact(qAF h).elim
  |some v=>exact qFF h hwr λr hr=>qXC hr (qAy hy hT) w
 case indexAddr t y z=>
  generalize hy:ev T y=v at h;generalize hz:ev T z=u at h;cases v with
  |none=>exact(qAF h).elim
  | some v=>
    cases u with
    |none=>exact(qAF h).elim
    |some u=>exact qFF h hwr λr hr=>qQy hr (qAy hy hT) (qAy hz hT) w
 case index t y z=>
  generalize hy:ev T y=v at h;generalize hz:ev T z=u at h;cases v with
  |none=>exact(qAF h).elim
  | some v=>
    cases u with
    |none=>exact(qAF h).elim
    |some u=>exact qFF h hwr λr hr=>qWb hr (qAy hy hT) (qAy hz hT) w
 case typeAssert y t as_ ok=>
  generalize hy:ev T y=v at h;cases v with
  |none=>exact(qAF h).elim
  |some v=>exact qFF h hwr λr hr=>qO3 hr (qAy hy hT) w
 case extract y i=>
  generalize hy:ev T y=v at h;cases v with
  |none=>exact(qAF h).elim
  |some v=>exact qFF h hwr λr hr=>qTR hr (qAy hy hT) w
 case makeMap t r=>
  generalize hu:P.underlying t=d at h;generalize ho:opt T r=o at h;have hr:=λo1 (e:o=some o1)=>qQU (a:=a) (ho.trans e) hT;split at h
  ·have:=hr _ rfl
   cases r with
   |none=>exact qIa h λv hv=>qPj hv hwr hf t none (λx hx=>by cases hx)
   |some y=>cases this
  ·have:=hr _ rfl
   cases r with
   |none=>cases this
   | some y=>
     cases this;rename_i q;unfold Rel at q;exact qIa h λv hv=>qPj hv hwr hf t _ (λx hx=>by cases hx;exact⟨_,_,_,_,q,hu⟩)
  ·exact(qAF h).elim
 case lookup t y z ok=>
  generalize hy:ev T y=v at h;generalize hz:ev T z=u at h;cases v with
  |none=>exact(qAF h).elim
  | some v=>
    cases u with
    |none=>exact(qAF h).elim
    |some u=>exact qIa h λr hr=>qX9 hr (qAy hy hT) (qAy hz hT) hwr
 case mapUpdate t m k y=>
  generalize hm:ev T m=v1 at h;generalize hk:ev T k=v2 at h;generalize hy:ev T y=v3 at h;cases v1 with
  |none=>exact(qAF h).elim
  | some v1=>
    cases v2 with
    |none=>exact(qAF h).elim
    | some v2=>
      cases v3 with
      |none=>exact(qAF h).elim
      | some v3=>
        obtain⟨_,K,h1,h2⟩:=qAQ h;cases qAM h2;obtain⟨n1,l1,w',s1,s2,s3⟩:=qMN h1 (qAy hm hT) (qAy hk hT) (qAy hy hT) hwr;exact⟨.skip,w',ρ,by simp[s1],.refl _ _ _,s2,s3,.inr ⟨rfl,rfl⟩⟩
 case insert t m k y=>
  generalize hm:ev T m=v1 at h;generalize hk:ev T k=v2 at h;generalize hy:ev T y=v3 at h;cases v1 with
  |none=>exact(qAF h).elim
  | some v1=>
    cases v2 with
    |none=>exact(qAF h).elim
    | some v2=>
      cases v3 with
      |none=>exact(qAF h).elim
      | some v3=>
        obtain⟨_,K,h1,h2⟩:=qAQ h;cases qAM h2;obtain⟨n1,l1,w',s1,s2,s3⟩:=qMN h1 (qAy hm hT) (qAy hk hT) (qAy hy hT) hwr;exact⟨.skip,w',ρ,by simp[s1],.refl _ _ _,s2,s3,.inr ⟨rfl,rfl⟩⟩
 case range t y=>
  generalize hy:ev T y=v at h;cases v with
  |none=>exact(qAF h).elim
  |some v=>exact qIa h λu hu=>qZz hu (qAy hy hT) hwr hf
 case entry y=>
  generalize hy:ev T y=v at h;cases v with
  |none=>exact(qAF h).elim
  |some v=>exact qIa h λu hu=>qYs hu (qAy hy hT) hwr
 case call c=>exact zABk hname h hT hσ hwr hf
end
end Go.AM
namespace Go.AM
open Go Go.RowKit
def FR(r:Option Nat):Fence:={ Fence.wide with round:=r }
section
variable {P:Program} {σ:Nat→Value} {ρ:Ren} {base:Nat} {H H':AH} {w:World} {nt:Nat} {T:Tmps} {a:Act}
structure Post(σ:Nat->Value)(ρ ρ':Ren)(base:Nat)(H H':AH)(w w':World):Prop where
 ext:Ext ρ ρ' H.next H'.next
 wr:WR σ ρ' base H' w'
 below:Below base w w'
def qCk(σ:Nat->Value)(ρ:Ren)(base:Nat)(H H':AH)(w:World)(v:AV):Ending->World->Prop:=
 λe w'=>∃v' ρ',e=.returned v'/\Post σ ρ ρ' base H H' w w'/\Rel σ ρ' v v'
def qGX(P:Program)(ih:Task->M Out):Prop:=∀(f:FuncId) (args:List AV) (H:AH) (v:AV) (H':AH),ih (.call f args) H=some (.val v,H')->
 ∀(σ:Nat->Value) (ρ:Ren) (base:Nat) (w:World) (args':Array Value),One σ->WR σ ρ base H w->Free ρ H.next H'.next->RelL σ ρ args args'.toList->
  CallsIn Fence.wide 0 P f args' w (qCk σ ρ base H H' w v)
def qD8(P:Program)(ih:Task->M Out):Prop:=∀(l:Nat) (args:List AV) (H:AH) (v:AV) (H':AH),ih (.round l args) H=some (.val v,H')->
 ∀(σ:Nat->Value) (ρ:Ren) (base:Nat) (w:World) (args':Array Value) (L:Loc) (n:Next),One σ->WR σ ρ base H w->Free ρ H.next H'.next->ρ l=some L->RelL σ ρ args args'.toList->
  (Instr.yield L.blk args').run P w=.ok n w->∃fn tm as bo,n=.round L.blk fn tm as bo/\RoundIn Fence.wide 0 P L.blk fn tm as bo w (qCk σ ρ base H H' w v)
theorem qKs{v:AV}{v':Value}{dst:Option Tmp}{T':Tmps}(h:setT nt T dst v=some T')(hT:TRel σ ρ nt T a.tmps)(hv:Rel σ ρ v v'):TRel σ ρ nt T' (a.put dst v').tmps:=by
 cases dst with
 |none=>cases h;exact hT
 | some d=>
   simp only[setT]at h;obtain⟨hd,h⟩:=qAb h;cases h;have hd:d<nt:=by simpa [Nat.blt_eq]using hd
   refine⟨by simp[Act.put,hT.size],λi=>?_⟩;have hlt:d<a.tmps.size:=by rw[hT.size];exact hd
   simp only[tget,Tr.get_put,Act.put]
   by_cases hi:d=i
   ·subst hi;simp[hlt];exact hv
   ·have:=hT.at_ i
    unfold tget at this;simp only[if_neg hi,Array.getD_eq_getD_getElem?,Array.getElem?_setIfInBounds_ne hi]at this ⊢;exact this
theorem qEa(a:Act)(dst:Option Tmp)(v:Value):(a.put dst v).defers=a.defers:=by cases dst<;>rfl
theorem qJy{ops:Array Oper}{o:Oper}{b:Bool}(h:qCH ops.toList T o.guard=some b)(hT:TRel σ ρ nt T a.tmps):Region.wanted o (yielded ops a.tmps)=b:=by
 unfold Region.wanted;unfold qCH at h;cases hg:o.guard with
 |none=>simp only[hg]at h ⊢;cases h;rfl
 | some g=>
   obtain⟨j,want⟩:=g;simp only[hg]at h ⊢;unfold yielded;cases hj:ops[j]? with
   | none=>
     have:ops.toList[j]?=none:=by rw[Array.getElem?_toList];exact hj
     simp only[this]at h;cases h;rfl
   | some oj=>
     have:ops.toList[j]?=some oj:=by rw[Array.getElem?_toList];exact hj
     simp only[this]at h;cases hd:oj.dst with
     |none=>simp only[hd]at h;cases h;simp[hd]
     | some d=>
       simp only[hd]at h;simp only[Option.bind_some,hd];have hr:=hT.at_ d;unfold tget at hr;have notBool:∀x:AV,Rel σ ρ x (a.tmps.getD d undef)->(∀b,x≠.bool b)->(∀i,x≠.opq i)->∀b,a.tmps[d]?≠some (.bool b):=by
        intro x hx h1 h2 b hb;have e:a.tmps.getD d undef=.bool b:=by simp[Array.getD_eq_getD_getElem?,hb]
        rw[e]at hx;cases x<;>unfold Rel at hx<;>first
         |exact h1 _ rfl
         |exact h2 _ rfl
         |(cases hx;done)
         |(obtain⟨_,_,hx⟩:=hx;cases hx;done)
         |(obtain⟨_,_,_,_,hx,_⟩:=hx;cases hx;done)
         |(obtain⟨_,_,hx,_⟩:=hx;cases hx;done)
         |(obtain⟨_,hx,_⟩:=hx;cases hx;done)
       cases hx:T.get d with
       | none=>
         simp only[hx]at h hr;cases h;have hno:=notBool _ hr (by simp[AV.undef]) (by simp[AV.undef]);cases hx2:a.tmps[d]? with
         |none=>rfl
         |some y=>cases y<;>first|rfl|exact absurd hx2 (hno _)
       | some x=>
         rw[hx]at hr;simp only[Option.getD_some]at hr;cases x with
         | bool b'=>
           simp only[hx]at h;cases h;unfold Rel at hr;have hlt:d<a.tmps.size:=by
            rcases Nat.lt_or_ge d a.tmps.size with h|h
            ·exact h
            ·simp[Array.getD_eq_getD_getElem?,Array.getElem?_eq_none h,undef]at hr
           have e:a.tmps[d]?=some (.bool b'):=by rw[Array.getElem?_eq_getElem hlt];simp[Array.getD_eq_getD_getElem?,hlt]at hr;rw[hr]
           rw[e];cases b'<;>cases want<;>rfl
         |opq i=>simp only[hx]at h;cases h
         | _=>
           simp only[hx]at h;cases h;have hno:=notBool _ hr (by simp) (by simp);cases hx2:a.tmps[d]? with
           |none=>rfl
           |some y=>cases y<;>first|rfl|exact absurd hx2 (hno _)
theorem qD4{o:Oper}{r:Option Nat}{ρ':Operand->Value}:∀f,o.about P w ρ'=some f->(FR r).fn f:=λ_ _=>trivial
theorem qP8{ih:Task->M Out}(hc:qGX P ih)(hr:qD8 P ih)(hname:qEj P){ops:Array Oper}{o:Oper}{v:AV}{r:Option Nat}{Q:Exit->Act->World->Prop}{K:Act->World->Prop}
  (h:qDZ P ih ops.toList o T H=some (v,H')) (hfr:∀t,Fr (ih t)) (hT:TRel σ ρ nt T a.tmps) (hσ:One σ) (hwr:WR σ ρ base H w) (hf:Free ρ H.next H'.next)
  (hK:∀v' w' ρ',Post σ ρ ρ' base H H' w w'->Rel σ ρ' v v'->K (a.put o.dst v') w') :
  if Region.wanted o (yielded ops a.tmps)then o.wpIn (FR r) 0 P a w K Q else(∀f,o.about P w a.eval=some f->(FR r).fn f)/\K (a.put o.dst undef) w:=by
 unfold qDZ at h;generalize hw:qCH ops.toList T o.guard=wb at h;cases wb with
 |none=>exact(qAF h).elim
 | some wb=>
   rw[qJy hw hT];cases wb with
   | false=>
     cases qAM h;exact⟨qD4,hK _ _ ρ ⟨.refl _ _ _,hwr,.refl _ _⟩ qLd⟩
   | true=>
     simp only[if_true];obtain⟨x,K1,h1,h2⟩:=qAQ h;have hnd:∀c,o.op≠.defer c:=λc e=>by rw[e]at h1;exact qAF (H:=H) h1
     have m1:H.next<=K1.next:=by obtain⟨es,d,_⟩:=qTz P T o.op H x K1 h1;exact d.next
     have m2:K1.next<=H'.next:=by obtain⟨es,d,_⟩:=qUn hfr x K1 v H' h2;exact d.next
     obtain⟨nx,w1,ρ1,e1,x1,x2,x3,x4⟩:=zAD2 (P:=P) (a:=a) hname h1 hT hσ hwr (hf.left m2);refine⟨qD4,?_⟩;rw[Oper.semAt_eq _ _ _ hnd,e1];have hf1:Free ρ1 K1.next H'.next:=x1.free hf m1;have fin:∀v' w' ρ',Post σ ρ1 ρ' base K1 H' w1 w'->Rel σ ρ' v v'->K (a.put o.dst v') w':=λv' w' ρ' hp hv=>
      hK v' w' ρ' ⟨x1.trans hp.ext m1 m2,hp.wr,x3.trans hp.below⟩ hv
     cases x with
     | val u=>
       cases qAM h2;rcases x4 with⟨v',rfl,hv⟩|⟨rfl,rfl⟩
       ·exact fin v' w1 ρ1 ⟨.refl _ _ _,x2,.refl _ _⟩ hv
       ·exact fin undef w1 ρ1 ⟨.refl _ _ _,x2,.refl _ _⟩ qLd
     | enter f args=>
       obtain⟨args',rfl,hargs⟩:=x4;obtain⟨out,K2,h3,h4⟩:=qAQ h2;cases out with
       |exit e T ms=>exact(qAF h4).elim
       | val u=>
         cases qAM h4;have:=hc f args K1 v H' h3 σ ρ1 base w1 args' hσ x2 hf1 hargs;refine⟨λh=>by simp[FR,Fence.wide]at h,?_⟩;have h5:CallsIn (FR r) 0 P f args' w1 (qCk σ ρ1 base K1 H' w1 v):=this;refine h5.mono ?_;rintro e w2 ⟨v',ρ',rfl,hp,hv⟩;exact fin v' w2 ρ' hp hv
     | round l args=>
       obtain⟨L,args',hL,hargs,hy⟩:=x4;obtain⟨out,K2,h3,h4⟩:=qAQ h2;cases out with
       |exit e T ms=>exact(qAF h4).elim
       | val u=>
         cases qAM h4;obtain⟨fn,tm,as,bo,rfl,hri⟩:=hr l args K1 v H' h3 σ ρ1 base w1 args' L nx hσ x2 hf1 hL hargs hy;refine⟨λh=>by simp[FR,Fence.wide]at h,?_⟩;have h5:RoundIn (FR r) 0 P L.blk fn tm as bo w1 (qCk σ ρ1 base K1 H' w1 v):=hri;refine h5.mono ?_;rintro e w2 ⟨v',ρ',rfl,hp,hv⟩;exact fin v' w2 ρ' hp hv
theorem qLn{ih:Task->M Out}{all:List Oper}{o:Oper}{T':Tmps}(h:qHv P ih nt all o T H=some (T',H')):∃v,qDZ P ih all o T H=some (v,H')/\setT nt T o.dst v=some T':=by obtain⟨v,K,h1,h2⟩:=qAQ h;obtain⟨x,hx,e⟩:=qCW h2;cases e;exact⟨v,h1,hx⟩
theorem qWg{ih:Task->M Out}(hc:qGX P ih)(hr:qD8 P ih)(hname:qEj P)(hfr:∀t,Fr (ih t)){ops:Array Oper}{r:Option Nat}{Q:Exit->Act->World->Prop}(hσ:One σ)(rest:List Nat):
  ∀(os:List Oper) (k:Nat) (T:Tmps) (H:AH) (T':Tmps) (ρ:Ren) (w:World) (a:Act),(∀j,j<os.length->os[j]?=ops[k+j]?)->opsA P ih nt ops.toList os T H=some (T',H')->TRel σ ρ nt T a.tmps->WR σ ρ base H w->Free ρ H.next H'.next->
   (∀a' w' ρ',Post σ ρ ρ' base H H' w w'->TRel σ ρ' nt T' a'.tmps->a'.defers=a.defers->wpOpsIn (FR r) 0 P ops Q rest a' w')->wpOpsIn (FR r) 0 P ops Q (List.range' k os.length++rest) a w:=by
 intro os
 induction os with
 | nil=>
   intro k T H T' ρ w a hk h hT hwr hf hQ;cases qAM h;simp only[List.length_nil,List.range'_zero,List.nil_append];exact hQ a w ρ ⟨.refl _ _ _,hwr,.refl _ _⟩ hT rfl
 | cons o os ih2=>
   intro k T H T' ρ w a hk h hT hwr hf hQ;obtain⟨T1,K,h1,h2⟩:=qAQ h;obtain⟨v,h3,h4⟩:=qLn h1;have h0:ops[k]?=some o:=by have:=hk 0 (by simp);simpa using this.symm
   have m1:H.next<=K.next:=by obtain⟨es,d,_⟩:=qNE P hfr _ _ _ H v K h3;exact d.next
   have m2:K.next<=H'.next:=by obtain⟨es,d,_⟩:=qRA P hfr _ _ _ _ K T' H' h2;exact d.next
   simp only[List.length_cons,List.range'_succ,List.cons_append,wpOpsIn,h0];refine qP8 hc hr hname h3 hfr hT hσ hwr (hf.left m2) ?_;intro v' w1 ρ1 hp hv;refine ih2 (k+1) T1 K T' ρ1 w1 (a.put o.dst v') (λj hj=>by have:=hk (j+1) (by simpa using hj);rw[show k+1+j=k+(j+1)from by omega];simpa using this) h2 (qKs h4 (hT.mono hp.ext.le) hv) hp.wr (hp.ext.free hf m1) ?_;intro a' w' ρ' hp' hT' hd;exact hQ a' w' ρ' ⟨hp.ext.trans hp'.ext m1 m2,hp'.wr,hp.below.trans hp'.below⟩ hT' (hd.trans (qEa _ _ _))
end
end Go.AM
namespace Go.AM
open Go Go.RowKit
theorem qXd(T:Tmps)(t:Tmp):ev T (.tmp t)=some (tget T t):=by simp only[ev,tget];cases T.get t<;>rfl
theorem qLQ{T T':Tmps}:∀{l:List Operand},(∀x∈l,ev T x=ev T' x)->evs T l=evs T' l
 |[],_=>rfl
 |x::l,h=>by unfold evs;rw[h x (by simp),qLQ (λy hy=>h y (by simp[hy]))]
theorem qIE{T T':Tmps}:∀{l:List (Nat×Operand)},(∀x∈l.map (·.2),ev T x=ev T' x)->qDa T l=qDa T' l
 |[],_=>rfl
 |(i,x)::l,h=>by unfold qDa;rw[h x (by simp),qIE (λy hy=>h y (by simp at hy ⊢;exact .inr hy))]
theorem qLk{T T':Tmps}{x:Option Operand}(h:∀y,x=some y->ev T y=ev T' y):opt T x=opt T' x:=by
 cases x with
 |none=>rfl
 |some y=>simp only[opt];rw[h y rfl]
theorem qSp{P:Program}{T T':Tmps}{c:Call}(h:∀x∈c.operands,ev T x=ev T' x):qI9 P T c=qI9 P T' c:=by
 have h1:evs T c.args.toList=evs T' c.args.toList:=qLQ λx hx=>h x (by simp[Call.operands];right;simpa using hx);unfold qI9;rw[h1];cases hc:c.callee with
 |builtin b=>rfl
 |invoke r n=>dsimp only;rw[h r (by simp[Call.operands,hc])]
 |value f=>dsimp only;rw[h f (by simp[Call.operands,hc])]
theorem qXW{P:Program}{T T':Tmps}{o:Op}(h:∀x∈o.operands,ev T x=ev T' x):opA P T o=opA P T' o:=by
 cases o<;>simp only[Op.operands]at h<;>unfold opA<;>simp only
 case build t ps=>rw[qIE (T:=T) (T':=T') (λx hx=>h x (by simpa using hx))]
 case buildSlice t n ps=>rw[qIE (T:=T) (T':=T') (λx hx=>h x (by simpa using hx))]
 case makeFunc f a b=>rw[qLQ (T:=T) (T':=T') (l:=a.toList) (λx hx=>h x (by simp at hx ⊢;exact .inl hx)),qLQ (T:=T) (T':=T') (l:=b.toList) (λx hx=>h x (by simp at hx ⊢;exact .inr hx))]
 case call c=>exact qSp h
 case load ty x=>cases x<;>first|rfl|(simp only;rw[h _ (by simp)])
 case slice t x lo hi mx=>rw[h x (by simp),qLk (T:=T) (T':=T') (x:=lo) (λy hy=>h y (by simp[hy])),qLk (T:=T) (T':=T') (x:=hi) (λy hy=>h y (by simp[hy])),qLk (T:=T) (T':=T') (x:=mx) (λy hy=>h y (by simp[hy]))]
 all_goals first
  |rfl
  |(simp only[h _ (by simp:_∈_)];done)
  |(rename_i x y;rw[h x (by simp),h y (by simp)];done)
  |(rename_i x y z;rw[h x (by simp),h y (by simp),h z (by simp)];done)
  |(rename_i x;rw[h x (by simp)];done)
  |skip
 case binOp op ty x y yt=>rw[h x (by simp),h y (by simp)]
 case fieldAddr ty x f=>rw[h x (by simp)]
 case field ty x f=>rw[h x (by simp)]
 case typeAssert x a b c=>rw[h x (by simp)]
 case extract x i=>rw[h x (by simp)]
 case makeMap t r=>rw[qLk (T:=T) (T':=T') (x:=r) (λy hy=>h y (by simp[hy]))]
 case lookup t x k ok=>rw[h x (by simp),h k (by simp)]
theorem qTV{P:Program}{ih:Task->M Out}{ops:Array Oper}{o:Oper}{T T':Tmps}(h:∀t∈o.looksAt ops,tget T t=tget T' t):qDZ P ih ops.toList o T=qDZ P ih ops.toList o T':=by
 have hev:∀x∈o.op.operands,ev T x=ev T' x:=by
  intro x hx;cases x with
  |tmp t=>rw[qXd,qXd,h t (List.mem_append_left _ (List.mem_filterMap.2 ⟨.tmp t,by simpa using hx,rfl⟩))]
  |_=>rfl
 have hw:qCH ops.toList T o.guard=qCH ops.toList T' o.guard:=by
  unfold qCH;cases hg:o.guard with
  |none=>rfl
  | some g=>
    obtain⟨j,want⟩:=g;dsimp only;cases hj:ops.toList[j]? with
    |none=>rfl
    | some oj=>
      dsimp only;cases hd:oj.dst with
      |none=>rfl
      | some d=>
        dsimp only;have hj':ops[j]?=some oj:=by rw[<- Array.getElem?_toList];exact hj
        have:=h d (List.mem_append_right _ (by simp[hg,hj',hd]));unfold tget at this;cases h1:T.get d with
        | none=>
          cases h2:T'.get d with
          |none=>rfl
          |some y=>rw[h1,h2]at this;simp[AV.undef]at this;subst this;rfl
        | some x=>
          cases h2:T'.get d with
          |none=>rw[h1,h2]at this;simp[AV.undef]at this;subst this;rfl
          |some y=>rw[h1,h2]at this;simp at this;subst this;rfl
 unfold qDZ;rw[hw,qXW hev]
def qPS(acc:List Nat)(s:Nat)(e:Edge):Nat:=cond (Region.binds .any e) (s |||(2^e.on |||acc.getD e.on 0)) s
theorem zAAy(acc:List Nat):∀(l:List Edge) (s i:Nat),Nat.testBit (l.foldl (qPS acc) s) i=true->Nat.testBit s i=true∨∃e∈l,Region.binds .any e=true/\(e.on=i∨Nat.testBit (acc.getD e.on 0) i=true)
 |[],s,i,h=>.inl h
 | e::l,s,i,h=>by
   rcases zAAy acc l _ i h with h|⟨e',he,hb⟩
   ·unfold qPS at h
    cases hb:Region.binds .any e with
    |false=>rw[hb]at h;exact .inl h
    | true=>
      rw[hb]at h;simp only[cond_true,Nat.testBit_or,Bool.or_eq_true]at h;rcases h with h|h|h
      ·exact .inl h
      ·refine .inr ⟨e,by simp,hb,.inl ?_⟩
       rw[Nat.testBit_two_pow]at h;simpa using h
      ·exact .inr ⟨e,by simp,hb,.inr h⟩
   ·exact .inr ⟨e',by simp[he],hb⟩
theorem qPN:∀(os:List Oper) (acc:List Nat),∃L:List Nat,masks os acc=acc++L/\L.length=os.length/\
  ∀j o,os[j]?=some o->∃pre:List Nat,(∀k,k<acc.length+j->pre[k]?=(acc++L)[k]?)/\pre.length=acc.length+j/\L[j]?=some (o.after.toList.foldl (qPS pre) 0):=by
 intro os
 induction os with
 |nil=>intro acc;exact⟨[],by simp[masks],rfl,λj o h=>by simp at h⟩
 | cons o os ih=>
   intro acc;obtain⟨L,h1,h2,h3⟩:=ih (acc ++ [o.after.toList.foldl (qPS acc) 0]);refine⟨o.after.toList.foldl (qPS acc) 0::L,?_,by simp[h2],λj q hq=>?_⟩
   ·show masks os (acc ++ [_])=_
    rw[show(acc ++ [o.after.toList.foldl (λs e=>cond (Region.binds .any e) (s |||(2^e.on |||acc.getD e.on 0)) s) 0])=acc ++ [o.after.toList.foldl (qPS acc) 0]from rfl,h1];simp
   ·cases j with
    | zero=>
      simp at hq;subst hq;exact⟨acc,λk hk=>by rw[List.getElem?_append_left (by omega)],by simp,by simp⟩
    | succ j=>
      simp at hq;obtain⟨pre,p1,p2,p3⟩:=h3 j q hq;refine⟨pre,λk hk=>?_,by rw[p2];simp;omega,by simpa using p3⟩;rw[p1 k (by simp;omega)];simp
theorem qKt{ops:Array Oper}(hb:∀(j:Nat) (o:Oper),ops[j]?=some o->∀e∈o.after,Region.binds .any e=true->e.on<j)(X:Nat->Prop)
  (hX:∀(j:Nat) (o:Oper),ops[j]?=some o->X j->∀e∈o.after,Region.binds .any e=true->X e.on) :
  ∀(j:Nat) (o:Oper) (mk i:Nat),ops[j]?=some o->(masks ops.toList [])[j]?=some mk->Nat.testBit mk i=true->(∀e∈o.after,Region.binds .any e=true->X e.on)->X i:=by
 obtain⟨L,h1,h2,h3⟩:=qPN ops.toList [];rw[h1];simp only[List.nil_append]at h3 ⊢;intro j
 induction j using Nat.strongRecOn with
 | _ j ih=>
   intro o mk i ho hmk hbit hready;obtain⟨pre,p1,p2,p3⟩:=h3 j o (by rw[Array.getElem?_toList];exact ho);rw[p3]at hmk;cases hmk;rcases zAAy pre _ _ _ hbit with h|⟨e,he,hbe,h⟩
   ·simp at h
   ·have he':e∈o.after:=Array.mem_def.2 he
    rcases h with rfl|h
    ·exact hready e he' hbe
    ·have hlt:=hb j o ho e he' hbe
     have hXe:=hready e he' hbe;have hge:e.on<ops.size:=by have:=(Array.getElem?_eq_some_iff.1 ho).1;omega
     have hoe:ops[e.on]?=some ops[e.on]:=Array.getElem?_eq_getElem hge;have hm:L[e.on]?=some (pre.getD e.on 0):=by
      rw[<- p1 e.on (by simp at p2 ⊢;omega)];have:e.on<pre.length:=by simp at p2;omega
      simp[List.getD_eq_getElem?_getD,gE this]
     exact ih e.on hlt _ _ i hoe hm h (hX e.on _ hoe hXe)
theorem qEp:∀(l:List Oper) (i:Nat),qJH l i=true->∀j o,l[j]?=some o->∀e∈o.after,Region.binds .any e=true->e.on<i+j
 |[],_,_,j,o,h=>by simp at h
 | p::l,i,h,j,o,ho=>by
   simp only[qJH,Bool.and_eq_true]at h;cases j with
   | zero=>
     simp at ho;subst ho;intro e he hb;have:=List.all_eq_true.1 h.1 e (Array.mem_def.1 he);simp only[hb,Bool.not_true,Bool.false_or,Nat.blt_eq]at this;omega
   | succ j=>
     simp at ho;intro e he hb;have:=qEp l (i+1) h.2 j o ho e he hb;omega
theorem qPc{a b:List (Nat×Bool)}(h:clash a b=false):∀id x y,(id,x)∈a->(id,y)∈b->x=false/\y=false:=by
 have c1:∀(e:Nat×Bool) (fs:List (Nat×Bool)),qNx e fs=false->∀y,(e.1,y)∈fs->e.2=false/\y=false:=by
  intro e fs
  induction fs with
  |nil=>intro _ y hy;cases hy
  | cons f fs ih=>
    intro h y hy;simp only[qNx,Bool.or_eq_false_iff,Bool.and_eq_false_iff]at h;rcases mC hy with rfl|hy
    ·rcases h.1 with h|h
     ·simp at h
     ·exact h
    ·exact ih h.2 y hy
 induction a with
 |nil=>intro id x y hx;cases hx
 | cons e es ih=>
   intro id x y hx hy;simp only[clash,Bool.or_eq_false_iff]at h;rcases mC hx with rfl|hx
   ·exact c1 _ _ h.1 y hy
   ·exact ih h.2 id x y hx hy
theorem qMU{all:Array Oper}{o:Oper}{mk:Nat}{es:List (Nat×Bool)}:∀(l:List (Oper×List (Nat×Bool))) (i:Nat),against all o mk es l i=true->
  ∀j p,l[j]?=some p->Nat.testBit mk (i+j)=true∨(Oper.apart all p.1 o=true/\clash p.2 es=false)
 |[],_,_,j,p,h=>by simp at h
 | q::l,i,h,j,p,hp=>by
   simp only[against,Bool.and_eq_true,Bool.or_eq_true,Bool.not_eq_true']at h;cases j with
   |zero=>simp at hp;subst hp;exact h.1
   | succ j=>
     simp at hp;have:=qMU l (i+1) h.2 j p hp;rw[show i+(j+1)=i+1+j from by omega];exact this
end Go.AM
