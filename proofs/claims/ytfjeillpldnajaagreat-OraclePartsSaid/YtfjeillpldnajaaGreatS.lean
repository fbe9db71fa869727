/- Part S of the proof: see the last part. -/
import Derived.Test.YtfjeillpldnajaaGreatU2
import Derived.Shelf.SlIterI.Nil
import Derived.Shelf.SortM.Plain
import Derived.Shelf.SortM.SortNone
import Derived.Ground.GgzProg
import Derived.Ground.SlgmProg
import Derived.Test.YtfjeillpldnajaaGreatProg
import Derived.KernelRfl
set_option linter.unusedVariables false
namespace Go.AM
open Go Go.Proofs Go.RowKit Go.Maps Go.Sort Go.Shelf Go.WideShapes
def insI(n:Int):List Int->List Int
 |[]=>[n]
 |m::l=>cond (ltI m n) (m::insI n l) (n::m::l)
def qD6:List Int->List Int
 |[]=>[]
 |n::l=>insI n (qD6 l)
def ints:List Int->List AV
 |[]=>[]
 |n::l=>.int .i64 n::ints l
theorem qNO(n:Int):∀l,(insI n l).Perm (n::l)
 |[]=>.refl _
 | m::l=>by
   unfold insI;cases ltI m n with
   |true=>exact((qNO n l).cons m).trans (.swap n m l)
   |false=>exact .refl _
theorem qEf:∀l,(qD6 l).Perm l
 |[]=>.refl _
 |n::l=>(qNO n (qD6 l)).trans ((qEf l).cons n)
theorem qNV(n:Int):∀l:List Int,l.Pairwise (·<=·)->(insI n l).Pairwise (·<=·)
 |[],_=>by simp[insI]
 | m::l,h=>by
   have h':=List.pairwise_cons.1 h;unfold insI;cases hb:ltI m n with
   | true=>
     rw[qIX,decide_eq_true_eq]at hb;refine List.pairwise_cons.2 ⟨λx hx=>?_,qNV n l h'.2⟩;rcases mC ((qNO n l).mem_iff.1 hx)with rfl|hx
     ·omega
     ·exact h'.1 x hx
   | false=>
     rw[qIX,decide_eq_false_iff_not]at hb;refine List.pairwise_cons.2 ⟨λx hx=>?_,h⟩;rcases mC hx with rfl|hx
     ·omega
     ·have:=h'.1 x hx;omega
theorem qJI:∀l:List Int,(qD6 l).Pairwise (·<=·)
 |[]=>by simp[qD6]
 |n::l=>qNV n _ (qJI l)
theorem qSt{ss l:List Int}(h:ss.Perm l):ss.mergeSort (λx y=>decide (x<=y))=qD6 l:=by
 have tr:∀a b c:Int,decide (a<=b)=true->decide (b<=c)=true->decide (a<=c)=true:=λa b c h1 h2=>by simp only[decide_eq_true_eq]at *;omega
 have to:∀a b:Int,(decide (a<=b)||decide (b<=a))=true:=λa b=>by simp only[Bool.or_eq_true,decide_eq_true_eq];omega
 refine List.Perm.eq_of_pairwise (le:=λa b:Int=>a<=b) (λa b _ _ h1 h2=>by omega) ((List.pairwise_mergeSort tr to ss).imp λh=>by simpa using h) (qJI l) (((List.mergeSort_perm ss _).trans h).trans (qEf l).symm)
theorem qKc:∀l:List Int,ints l=l.map λn=>AV.int .i64 n
 |[]=>rfl
 |n::l=>by unfold ints;rw[qKc l];rfl
section
end
end Go.AM
namespace Go.AM
open Go Go.Proofs Go.RowKit Go.Maps Go.Sort Go.Shelf Go.WideShapes
def qN7:List AV->Option (List Int)
 |[]=>some []
 | .int .i64 n::l=>match qN7 l with
   |some r=>some (n::r)
   |none=>none
 |_=>none
theorem qRK:∀{l:List AV}{r:List Int},qN7 l=some r->l=ints r
 |[],r,h=>by cases h;rfl
 | x::l,r,h=>by
   unfold qN7 at h;split at h
   ·rename_i e;cases e
   ·rename_i n l' e
    split at h
    ·rename_i r' hr
     cases h;cases e;rw[qRK hr];rfl
    ·cases h
   ·cases h
def qSx(args:List AV):M AV:=match args with
 |[.nilslc]=>ret (.tup [])
 | [.slc b o n _ es]=>match n with
   | 0=>ret (.tup [])
   | k+1=>cond (Nat.beq es 1&&Nat.ble k 1000000) (bd (qCM b o (k+1)) λcs=>match qN7 cs with
     |some l=>bd (qB2 b o (ints (qD6 l))) λ_=>ret (.tup [])
     |none=>fail) fail
 |_=>fail
theorem qUM(args:List AV):Fr (qSx args):=by
 unfold qSx
 repeat' first|exact qAg|exact qAq _|exact qHw _ _ _|exact qDd _ _ _|(refine qBO _ ?_ ?_)|(refine qBL ?_ λ_=>?_)|split
section
variable {P:Program} {σ:Nat→Value} {ρ:Ren}
structure SortOK(P:Program)(fs:FuncId):Prop where
 row:∀(blk off cap:Nat) (zs:List Int) (w:World),Holds (Value.int .i64) w blk off zs.toArray->blk<w.heap.size->zs.length<4611686018427387904->
  CallsIn Fence.wide 0 P fs #[.slice (some ⟨blk,off,none⟩) zs.length cap] w λe w'=>e=.returned (.tuple #[])/\∃n os,w'=grow (putRow (Value.int .i64) (Sort.ahead w n) blk off (zs.mergeSort λx y=>decide (x<=y)).toArray) os
 none:∀(p:Option Addr) (cap:Nat) (w:World),CallsIn Fence.wide 0 P fs #[.slice p 0 cap] w λe w'=>e=.returned (.tuple #[])/\w'=w
def qRC(fs:FuncId):Td:=λf=>cond (Nat.beq f fs) (some qSx) none
theorem qVr(w:World)(os:Array Obj):Below w.heap.size w (grow w os):=by refine⟨rfl,rfl,rfl,by simp[grow],λk hk=>?_⟩;simp[grow,Array.getElem?_append,hk]
theorem zACC{w:World}{B off:Nat}{cc:Array Value}{e:TypeId}{fr:Nat×Nat}{d:Array Int}(m:Nat)(h:w.heap[B]?=some (.cells cc e fr)):
  Upd w B (.cells (putCells (Value.int .i64) off d cc) e fr) (putRow (Value.int .i64) (Sort.ahead w m) B off d):=by
 refine⟨rfl,rfl,rfl,by simp[putRow,mapBlock,Sort.ahead],?_,λj hj=>?_⟩
 ·simp[putRow,mapBlock,Sort.ahead,Array.getElem?_modify,h,onCells]
 ·simp[putRow,mapBlock,Sort.ahead,Array.getElem?_modify,Ne.symm hj]
theorem qXy{x:AV}{args':Array Value}(hx:RelL σ ρ [x] args'.toList):∃v,args'=#[v]/\Rel σ ρ x v:=by unfold RelL at hx;obtain⟨y,ys,g1,g2,g3⟩:=hx;unfold RelL at g3;subst g3;exact⟨y,by apply Array.toList_inj.1;rw[g1],g2⟩
theorem qQi:Rel σ ρ (.tup []) (.tuple #[]):=by unfold Rel;exact⟨#[],rfl,by unfold RelL;rfl⟩
theorem sortX_ok{fs:FuncId}(hP:SortOK P fs):ExtOK P (qRC fs):=by
 refine⟨λf g args h=>?_,λf g hg args H v H' hr σ ρ base w args' hσ hwr hf hra=>?_⟩
 ·unfold qRC at h
  cases hb:Nat.beq f fs with
  |true=>rw[hb]at h;cases h;exact qUM _
  |false=>rw[hb]at h;cases h
 ·unfold qRC at hg
  cases hb:Nat.beq f fs with
  |false=>rw[hb]at hg;cases hg
  | true=>
    rw[hb]at hg;cases hg;have e:=bE hb;subst e;unfold qSx at hr;split at hr
    ·cases qAM hr
     obtain⟨v1,rfl,hv1⟩:=qXy hra;unfold Rel at hv1;subst hv1;refine(hP.none _ 0 w).mono ?_;rintro en w' ⟨rfl,rfl⟩;exact⟨_,ρ,rfl,⟨.refl _ _ _,hwr,.refl _ _⟩,qQi⟩
    ·rename_i b o n cap es
     obtain⟨v1,rfl,hv1⟩:=qXy hra;unfold Rel at hv1;obtain⟨L,a,c,hL,rfl,ha,hc1,hc2⟩:=hv1;cases n with
     | zero=>
       cases qAM hr;refine(hP.none _ c w).mono ?_;rintro en w' ⟨rfl,rfl⟩;exact⟨_,ρ,rfl,⟨.refl _ _ _,hwr,.refl _ _⟩,qQi⟩
     | succ k=>
       obtain⟨ha,hsz⟩:=ha.resolve_right λh=>by omega
       subst ha;simp only at hr;obtain⟨hes,h2⟩:=qAn hr;rw[Bool.and_eq_true]at hes;have hk:k<=1000000:=Nat.le_of_ble_eq_true hes.2;obtain⟨cs,K,h3,h4⟩:=qAQ h2;obtain⟨blk,K0,h5,h6⟩:=qAQ h3;obtain⟨hb0,e1,e2,e3⟩:=qCj h5;cases blk with
       | cells el cT N=>
         simp only at h6;obtain⟨l',hl,e⟩:=qCW h6;cases e;obtain⟨hlen,hget⟩:=qMR _ o cs hl;cases hil:qN7 cs with
         |none=>rw[hil]at h4;exact(qAF h4).elim
         | some l=>
           rw[hil]at h4;simp only at h4;obtain⟨u,K2,h7,h8⟩:=qAQ h4;cases qAM h8;have hcs:=qRK hil;obtain⟨blk2,K3,h9,h10⟩:=qAQ h7;obtain⟨hb1,f1,f2,f3⟩:=qCj h9;rw[e1,hb0]at hb1;cases hb1;simp only at h10;obtain⟨hcc,h11⟩:=qAn h10;rw[Bool.and_eq_true]at hcc;obtain⟨hlo,_,hk2,hkl,hkn⟩:=qKY h11;have hlo2:H.lo<=b:=by rw[f2,e2]at hlo;exact hlo
           obtain⟨L',hL',cc,fr,p1,p2,p3,p4,p5⟩:=hwr.blk b _ hb0;rw[hL]at hL';cases hL';have hfr:=p2 hlo2;subst hfr;have hll:l.length=k+1:=by rw[<- hlen,hcs,qKc];simp
           have hsl:(qD6 l).length=k+1:=by rw[<- hll];exact(qEf l).length_eq
           have hH:Holds (Value.int .i64) w L.blk (L.sh+o) l.toArray:=by
            intro j hj;have hj':j<l.length:=by simpa using hj
            have hcj:cs[j]?=some (.int .i64 l[j]):=by rw[hcs,qKc,List.getElem?_map,gE hj'];rfl
            obtain⟨v',q1,q2,_⟩:=p5 _ _ (hget j _ hcj);unfold Rel at q2;refine⟨?_,qR5 p1 _⟩;rw[qJM p1,Nat.add_assoc,q1,q2];simp[hj']
           have hblk:L.blk<w.heap.size:=qLc p1;have hrow:=hP.row L.blk (L.sh+o) c l w hH hblk (by omega);rw[hll]at hrow;refine hrow.mono ?_;rintro en w' ⟨rfl,m,os,rfl⟩;have hms:l.mergeSort (λx y=>decide (x<=y))=qD6 l:=qSt (.refl l);rw[hms];have hu:=zACC (off:=L.sh+o) (d:=(qD6 l).toArray) m p1;have hput:=hwr.put (K:=H') (b:=.cells el (Tr.ofListAt cT o (ints (qD6 l))) N) hb0 hL hlo2 hu (by
            refine⟨_,(0,0),rfl,λ_=>rfl,by simp[putCells,p3],by simp[putCells];exact p4,λi v hv=>?_⟩;rw[Tr.get_ofListAt]at hv;split at hv
            ·rename_i hi
             rw[qKc,List.getElem?_map]at hv;obtain⟨x,hx,rfl⟩:=Option.map_eq_some_iff.1 hv;have hlt:i-o<(qD6 l).length:=(gS hx).1;have hil:(ints (qD6 l)).length=k+1:=by rw[qKc];simpa using hsl
             refine⟨.int .i64 x,?_,by unfold Rel;rfl,rfl⟩;have hcb:L.sh+i<cc.size:=by
              have:o+(ints (qD6 l)).length<=N:=by simpa [Nat.ble_eq]using hcc.1
              omega
             simp only[putCells,Array.getElem?_mapIdx,Array.getElem?_eq_getElem hcb,Option.map_some];rw[if_pos ⟨by omega,by simp;omega⟩];have:L.sh+i-(L.sh+o)=i-o:=by omega
             rw[this];simp[gS hx |>.2,hlt]
            ·rename_i hi
             obtain⟨v',q1,q2,q3⟩:=p5 i v hv;refine⟨v',?_,q2,q3⟩;have hil:(ints (qD6 l)).length=k+1:=by rw[qKc];simpa using hsl
             simp only[putCells,Array.getElem?_mapIdx,q1,Option.map_some];rw[if_neg];simp;omega) (λj=>by rw[hk2,f1,e1]) (hkl.trans (f2.trans e2))
           have hbg:=qVr (putRow (Value.int .i64) (Sort.ahead w m) L.blk (L.sh+o) (qD6 l).toArray) os;refine⟨_,ρ,rfl,⟨?_,qUG hput.1 hbg,hput.2.trans (hbg.mono hput.1.base)⟩,qQi⟩;rw[show H'.next=H.next by rw[hkn,f3,e3]];exact .refl _ _ _
       |_=>exact(qAF h6).elim
    ·exact(qAF (H:=H) hr).elim
end
end Go.AM
namespace Go.AM
open Go
variable {K:AV→Hq→Prop} {s:Hq}
theorem qZA(fs:FuncId):FrX (qRC fs):=λf g args h=>by
 unfold qRC at h;cases hb:Nat.beq f fs with
 |true=>rw[hb]at h;cases h;exact qUM _
 |false=>rw[hb]at h;cases h
theorem qXv{P:Program}{X:Td}{f:FuncId}{g:List AV->M AV}{args:List AV}(hf:X f=some g)(h:wpF (λ_=>g args) K s):wC P X f args K s:=by
 intro H hH;obtain⟨n,a,H',h1,s',h2,h3,h4⟩:=h H hH;refine⟨1,.val a,H',?_,s',h2,h3,a,rfl,h4⟩;show(match X f with
  |some g=>AM.bd (g args) λv=>AM.ret (Out.val v)
  |none=>qBo P (run P X 0) f args) H=_
 rw[hf];show AM.bd _ _ H=_;unfold AM.bd;have h1:g args H=some (a,H'):=h1;rw[h1];rfl
abbrev izs(l:List Int):List AV:=l.map (AV.int .i64)
theorem qPU:∀l:List Int,qN7 (izs l)=some l
 |[]=>rfl
 | n::l=>by
   show(match qN7 (izs l)with
    |some r=>some (n::r)
    |none=>none)=_
   rw[qPU l]
end Go.AM
namespace Go.AM
open Go
variable {K:AV→Hq→Prop} {s:Hq}
theorem qSz{P:Program}{X:Td}{fs:FuncId}(hX:X fs=some qSx){e:TypeId}{b:Nat}{cap:Option Nat}{l:List Int}{T:List AV}(hb:s b=some (false,.cells e (izs l++T)))(hl:l.length<=1000000)
  (hK:∀s',s' b=some (false,.cells e (izs (qD6 l)++T))->Upto b s s'->K (.tup []) s'):wC P X fs [.slc b 0 l.length cap 1] K s:=by
 refine qXv hX ?_;cases l with
 |nil=>exact wpF.ret (hK s hb λ_ _=>rfl)
 | cons x r=>
   unfold qSx;simp only[List.length_cons];have hle:Nat.ble r.length 1000000=true:=by rw[Nat.ble_eq];simp at hl;omega
   have hin:(izs (x::r)).length=r.length+1:=by simp
   refine wpF.cond (by rw[hle];rfl) (wpF.bd (λ_ _ _ _ _ h=>h) (λ_ _ _ _ _ _ h=>h) (qIv (l:=izs (x::r)) ?_ λ_=>?_))
   ·show(match s b with
     |some (_,.cells _ l)=>qGe l 0 (r.length+1)
     |_=>none)=_
    rw[hb];have e0:Nat.ble (0+(r.length+1)) (izs (x::r)++T).length=true:=by rw[Nat.ble_eq,lAp,hin];omega
    simp only[qGe,e0,cond_true,List.drop_zero];rw[<- hin,List.take_left]
   ·simp only[qPU]
    have hsl:(qD6 (x::r)).length=r.length+1:=by rw[(qEf _).length_eq];rfl
    have hsi:(izs (qD6 (x::r))).length=(izs (x::r)).length:=by rw[lM,hsl,hin]
    refine wpF.bd (λ_ _ _ _ _ h=>h) (λ_ _ _ _ _ _ h=>h) (qDL (s':=hset s b (false,.cells e (izs (qD6 (x::r))++T))) ?_ (wpF.ret (hK _ ?_ ?_)))
    ·have e1:ints (qD6 (x::r))=izs (qD6 (x::r)):=qKc _
     rw[e1];have e4:∀k:List Int,qAd (izs k)=true:=by
      intro k
      induction k with
      |nil=>rfl
      |cons y k ih=>simpa [qAd]using ih
     have e5:qBG (izs (x::r)++T) 0 (izs (qD6 (x::r)))=izs (qD6 (x::r))++T:=by unfold qBG;rw[List.take_zero,List.nil_append,zA,hsi,List.drop_left]
     have e6:Nat.ble (0+(izs (qD6 (x::r))).length) (izs (x::r)++T).length=true:=by rw[Nat.ble_eq,hsi,lAp];omega
     simp only[wrN,hb,e4,e5,e6];rfl
    ·simp[hset]
    ·intro i hi
     simp[hset,hi]
end Go.AM
namespace Go.Proofs.YtfjeillpldnajaaGreat
open Go Go.RowKit Go.Maps Go.Sort Go.Shelf
set_option maxRecDepth 100000
def qVL:Go.Shelf.Ren:=⟨fun | 5=>78 | 8=>104 | 7=>103 | 19=>137 | 20=>138 | 10=>128 | 11=>129 | 12=>130 | 13=>131 | 14=>132 | 15=>133 | 16=>134 | 17=>135 | 18=>136 | 30=>175 | 31=>176 | 32=>177 | 33=>178 | 34=>179 | 35=>180 | 40=>194|n=>n,fun | 23=>34 | 25=>3 | 3=>3 | 32=>126 | 22=>34 | 0=>0 | 44=>41 | 46=>39 | 4=>4 | 36=>186 | 35=>185 | 41=>73 | 5=>5 | 9=>9 | 53=>218 | 57=>222 | 63=>235 | 64=>236|n=>n,fun|n=>n⟩
theorem zAA6:Go.Proofs.SlLaysM.n5 Tryz.prog qVL:={
 mixed:=by kernel_rfl,
 f5:=⟨Tryz.f78.name,by decide,Tryz.func78.trans (congrArg some (by kernel_rfl))⟩,
 f7:=⟨Tryz.f103.name,by decide,Tryz.func103.trans (congrArg some (by kernel_rfl))⟩,
 f8:=Tryz.func104.trans (congrArg some (by kernel_rfl)),
 f10:=⟨Tryz.f128.name,by decide,Tryz.func128.trans (congrArg some (by kernel_rfl))⟩,
 f11:=⟨Tryz.f129.name,by decide,Tryz.func129.trans (congrArg some (by kernel_rfl))⟩,
 f12:=⟨Tryz.f130.name,by decide,Tryz.func130.trans (congrArg some (by kernel_rfl))⟩,
 f13:=⟨Tryz.f131.name,by decide,Tryz.func131.trans (congrArg some (by kernel_rfl))⟩,
 f14:=⟨Tryz.f132.name,by decide,Tryz.func132.trans (congrArg some (by kernel_rfl))⟩,
 f15:=⟨Tryz.f133.name,by decide,Tryz.func133.trans (congrArg some (by kernel_rfl))⟩,
 f16:=⟨Tryz.f134.name,by decide,Tryz.func134.trans (congrArg some (by kernel_rfl))⟩,
 f17:=⟨Tryz.f135.name,by decide,Tryz.func135.trans (congrArg some (by kernel_rfl))⟩,
 f18:=⟨Tryz.f136.name,by decide,Tryz.func136.trans (congrArg some (by kernel_rfl))⟩,
 f19:=Tryz.func137.trans (congrArg some (by kernel_rfl)),
 f20:=Tryz.func138.trans (congrArg some (by kernel_rfl)),
 f30:=⟨Tryz.f175.name,by decide,Tryz.func175.trans (congrArg some (by kernel_rfl))⟩,
 f31:=Tryz.func176.trans (congrArg some (by kernel_rfl)),
 f32:=Tryz.func177.trans (congrArg some (by kernel_rfl)),
 f33:=⟨Tryz.f178.name,by decide,Tryz.func178.trans (congrArg some (by kernel_rfl))⟩,
 f34:=⟨Tryz.f179.name,by decide,Tryz.func179.trans (congrArg some (by kernel_rfl))⟩,
 f35:=⟨Tryz.f180.name,by decide,Tryz.func180.trans (congrArg some (by kernel_rfl))⟩,
 f40:=⟨Tryz.f194.name,by decide,Tryz.func194.trans (congrArg some (by kernel_rfl))⟩,
 t0:=Tryz.underlying0,
 a0:=Tryz.isAgg0,
 z0:=Tryz.sizeOf0,
 v0:=Tryz.zeroValue0,
 t3:=Tryz.underlying3,
 a3:=Tryz.isAgg3,
 z3:=Tryz.sizeOf3,
 v3:=Tryz.zeroValue3,
 t4:=Tryz.underlying4,
 a4:=Tryz.isAgg4,
 z4:=Tryz.sizeOf4,
 v4:=Tryz.zeroValue4,
 t5:=Tryz.underlying5,
 a5:=Tryz.isAgg5,
 z5:=Tryz.sizeOf5,
 v5:=Tryz.zeroValue5,
 t9:=Tryz.underlying9,
 a9:=Tryz.isAgg9,
 z9:=Tryz.sizeOf9,
 v9:=Tryz.zeroValue9,
 t22:=Tryz.underlying34,
 a22:=Tryz.isAgg34,
 z22:=Tryz.sizeOf34,
 v22:=Tryz.zeroValue34,
 t23:=Tryz.underlying34,
 a23:=Tryz.isAgg34,
 z23:=Tryz.sizeOf34,
 v23:=Tryz.zeroValue34,
 t25:=Tryz.underlying3,
 a25:=Tryz.isAgg3,
 z25:=Tryz.sizeOf3,
 v25:=Tryz.zeroValue3,
 t32:=Tryz.underlying126,
 a32:=Tryz.isAgg126,
 z32:=Tryz.sizeOf126,
 v32:=Tryz.zeroValue126,
 t35:=Tryz.underlying185,
 a35:=Tryz.isAgg185,
 z35:=Tryz.sizeOf185,
 v35:=Tryz.zeroValue185,
 t36:=Tryz.underlying186,
 a36:=Tryz.isAgg186,
 z36:=Tryz.sizeOf186,
 v36:=Tryz.zeroValue186,
 t41:=Tryz.underlying73,
 a41:=Tryz.isAgg73,
 z41:=Tryz.sizeOf73,
 v41:=Tryz.zeroValue73,
 t44:=Tryz.underlying41,
 a44:=Tryz.isAgg41,
 z44:=Tryz.sizeOf41,
 v44:=Tryz.zeroValue41,
 t46:=Tryz.underlying39,
 a46:=Tryz.isAgg39,
 z46:=Tryz.sizeOf39,
 v46:=Tryz.zeroValue39,
 t53:=Tryz.underlying218,
 a53:=Tryz.isAgg218,
 z53:=Tryz.sizeOf218,
 v53:=Tryz.zeroValue218,
 t57:=Tryz.underlying222,
 a57:=Tryz.isAgg222,
 z57:=Tryz.sizeOf222,
 v57:=Tryz.zeroValue222,
 t63:=Tryz.underlying235,
 a63:=Tryz.isAgg235,
 z63:=Tryz.sizeOf235,
 v63:=Tryz.zeroValue235,
 t64:=Tryz.underlying236,
 a64:=Tryz.isAgg236,
 z64:=Tryz.sizeOf236,
 v64:=Tryz.zeroValue236 }
theorem sortOK:AM.SortOK Tryz.prog 78:=
 ⟨λblk off cap zs w hH hblk hsz=>callsIn_wide.2 (AnyM.slices_Sort_int zAA6 blk off cap zs w hH hblk hsz),λp cap w=>callsIn_wide.2 (AnyM.slices_Sort_int_none zAA6 p cap w)⟩
end Go.Proofs.YtfjeillpldnajaaGreat
