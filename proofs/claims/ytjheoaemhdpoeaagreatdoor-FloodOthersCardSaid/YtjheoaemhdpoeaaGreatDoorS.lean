/- Part S of the proof: see the last part. -/
import Derived.Test.YtjheoaemhdpoeaaGreatDoorU2
import Derived.Shelf.SlIterI.Nil
import Derived.Shelf.SortM.Plain
import Derived.Shelf.SortM.SortNone
import Derived.Ground.GgzProg
import Derived.Ground.SlgmProg
import Derived.Test.YtjheoaemhdpoeaaGreatDoorProg
import Derived.KernelRfl
set_option linter.unusedVariables false
namespace Go.AM
open Go Go.Proofs Go.RowKit Go.Maps Go.Sort Go.Shelf Go.WideShapes
def qYp(it:FuncId)(args:List AV):M AV:=match args with
 |[.nilmap]=>bd (nw (.one .nilmap)) λid=>ret (.fn (.func it) [] [.ptr id 0])
 |[.map m]=>bd (nw (.one (.map m))) λid=>ret (.fn (.func it) [] [.ptr id 0])
 |_=>fail
def qXu(n:Int):Bool:=eqI (qAw .i64 n) n
def qVT(clock:Nat):List AEnt->List Nat->List Int->Option (List Int)
 |[],_,_=>some []
 | e::es,bs,ks=>match e.key with
   | .int .i64 n=>cond (qXu n&&(Nat.blt e.born clock&&(!hasN e.born bs&&!ks.any λk=>eqI k n))) (match qVT clock es (e.born::bs) (n::ks)with
     |some l=>some (n::l)
     |none=>none) none
   |_=>none
def insI(n:Int):List Int->List Int
 |[]=>[n]
 |m::l=>cond (ltI m n) (m::insI n l) (n::m::l)
def qOP:List Int->List Int
 |[]=>[]
 |n::l=>insI n (qOP l)
def ints:List Int->List AV
 |[]=>[]
 |n::l=>.int .i64 n::ints l
def qP3(its:List FuncId)(elem:TypeId)(args:List AV):M AV:=match args with
 | [.fn (.func k) [] [.ptr b 0]]=>cond (memN k its) (bd (rd b) λblk=>match blk with
   | .one .nilmap=>ret .nilslc
   | .one (.map m)=>bd (rd m) λblk=>match blk with
     | .map es clock=>match qVT clock es [] []with
       | some ks=>cond (Nat.ble es.length 100000) (match qOP ks with
         |[]=>ret .nilslc
         |x::l=>bd (qBc elem (ints (x::l))) λid=>ret (.slc id 0 (l.length+1) none 1)) fail
       |none=>fail
     |_=>fail
   |_=>fail) fail
 |_=>fail
theorem qZL(it:FuncId)(args:List AV):Fr (qYp it args):=by unfold qYp;split<;>first|exact qAd|exact qBE (qR4 _) λ_=>qAp _
theorem qUi(its:List FuncId)(elem:TypeId)(args:List AV):Fr (qP3 its elem args):=by
 unfold qP3
 repeat' first|exact qAd|exact qAp _|exact qGi _|exact qEX _ _|(refine qBQ _ ?_ ?_)|(refine qBE ?_ λ_=>?_)|split
theorem qMi(n:Int):∀l,(insI n l).Perm (n::l)
 |[]=>.refl _
 | m::l=>by
   unfold insI;cases ltI m n with
   |true=>exact((qMi n l).cons m).trans (.swap n m l)
   |false=>exact .refl _
theorem qOu:∀l,(qOP l).Perm l
 |[]=>.refl _
 |n::l=>(qMi n (qOP l)).trans ((qOu l).cons n)
theorem qMm(n:Int):∀l:List Int,l.Pairwise (·<=·)->(insI n l).Pairwise (·<=·)
 |[],_=>by simp[insI]
 | m::l,h=>by
   have h':=List.pairwise_cons.1 h;unfold insI;cases hb:ltI m n with
   | true=>
     rw[qHR,decide_eq_true_eq]at hb;refine List.pairwise_cons.2 ⟨λx hx=>?_,qMm n l h'.2⟩;rcases mC ((qMi n l).mem_iff.1 hx)with rfl|hx
     ·omega
     ·exact h'.1 x hx
   | false=>
     rw[qHR,decide_eq_false_iff_not]at hb;refine List.pairwise_cons.2 ⟨λx hx=>?_,h⟩;rcases mC hx with rfl|hx
     ·omega
     ·have:=h'.1 x hx;omega
theorem qLp:∀l:List Int,(qOP l).Pairwise (·<=·)
 |[]=>by simp[qOP]
 |n::l=>qMm n _ (qLp l)
theorem qR3{ss l:List Int}(h:ss.Perm l):ss.mergeSort (λx y=>decide (x<=y))=qOP l:=by
 have tr:∀a b c:Int,decide (a<=b)=true->decide (b<=c)=true->decide (a<=c)=true:=λa b c h1 h2=>by simp only[decide_eq_true_eq]at *;omega
 have to:∀a b:Int,(decide (a<=b)||decide (b<=a))=true:=λa b=>by simp only[Bool.or_eq_true,decide_eq_true_eq];omega
 refine List.Perm.eq_of_pairwise (le:=λa b:Int=>a<=b) (λa b _ _ h1 h2=>by omega) ((List.pairwise_mergeSort tr to ss).imp λh=>by simpa using h) (qLp l) (((List.mergeSort_perm ss _).trans h).trans (qOu l).symm)
theorem qSH:∀l:List Int,ints l=l.map λn=>AV.int .i64 n
 |[]=>rfl
 |n::l=>by unfold ints;rw[qSH l];rfl
theorem qXJ{n:Int}(h:qXu n=true):(Lit.int .i64 n).wf=true:=by
 unfold qXu at h;rw[qEs,qBY]at h;have h:IntKind.wrap .i64 n=n:=by simpa using h
 have h2:-9223372036854775808<=n/\n<=9223372036854775807:=by simp[IntKind.wrap,IntKind.bits,IntKind.signed]at h;split at h<;>omega
 simp[Lit.wf,IntKind.min,IntKind.max,IntKind.bits,IntKind.signed];omega
section
variable {P:Program} {σ:Nat→Value} {ρ:Ren}
structure KeysOK(ρ:Ren)(clock:Nat)(es':List MapEntry)(bs:List Nat)(ks:List Int)(l:List Int):Prop where
 keys:es'.map (·.key)=l.map encZ
 wf:∀n∈l,(Lit.int .i64 n).wf=true
 born:∀x∈es',x.born<clock
 stamps:(es'.map (·.born)).Nodup/\∀x∈es',x.born ∉ bs
 apart:l.Nodup/\∀n∈l,n ∉ ks
theorem qTz{n:Nat}:∀{l:List Nat},hasN n l=true↔n∈l
 |[]=>by simp[hasN]
 | m::l=>by
   unfold hasN;rw[Bool.or_eq_true,qTz,List.mem_cons];constructor
   ·rintro (h|h)
    ·exact Or.inl (bE h)
    ·exact Or.inr h
   ·rintro (rfl|h)
    ·exact Or.inl (by simp)
    ·exact Or.inr h
theorem qRe{clock:Nat}:∀{es:List AEnt}{es':List MapEntry}{bs:List Nat}{ks l:List Int},EsRel σ ρ es es'->qVT clock es bs ks=some l->KeysOK ρ clock es' bs ks l
 | [],es',bs,ks,l,hr,h=>by
   cases h;have:=hr.len;cases es' with
   |nil=>exact⟨rfl,by simp,by simp,by simp,by simp⟩
   |cons=>simp at this
 | e::es,es',bs,ks,l,hr,h=>by
   cases es' with
   |nil=>have:=hr.len;simp at this
   | cons e' es'=>
     have ha:=hr.at_ 0 e e' rfl rfl;have ht:EsRel σ ρ es es':=⟨by have:=hr.len;simpa using this,λi x y hx hy=>hr.at_ (i+1) x y (by simpa using hx) (by simpa using hy)⟩
     unfold qVT at h;split at h
     ·rename_i n hkey
      obtain⟨hc,h⟩:=qAR h;simp only[Bool.and_eq_true,Bool.not_eq_true']at hc;obtain⟨c1,c2,c3,c4⟩:=hc;split at h
      ·rename_i l' hl'
       cases h;have ih:=qRe ht hl';have hk:=ha.key;rw[hkey]at hk;unfold Rel at hk;have hn:n ∉ ks:=by intro hm;rw[List.any_eq_false]at c4;exact c4 n hm (by rw[qEs];simp)
       have hb:e.born ∉ bs:=λhm=>by rw[qTz.2 hm]at c3;cases c3
       refine⟨by simp[hk,ih.keys],λm hm=>?_,λx hx=>?_,⟨?_,λx hx=>?_⟩,?_,λm hm=>?_⟩
       ·rcases mC hm with rfl|hm
        ·exact qXJ c1
        ·exact ih.wf m hm
       ·rcases mC hx with rfl|hx
        ·rw[ha.born];simpa [Nat.blt_eq]using c2
        ·exact ih.born x hx
       ·simp only[List.map_cons,List.nodup_cons]
        refine⟨λhm=>?_,ih.stamps.1⟩;obtain⟨x,hx,hxb⟩:=List.mem_map.1 hm;exact ih.stamps.2 x hx (by rw[hxb,ha.born];simp)
       ·rcases mC hx with rfl|hx
        ·rw[ha.born];exact hb
        ·exact λhm=>ih.stamps.2 x hx (by simp[hm])
       ·exact List.nodup_cons.2 ⟨λhm=>ih.apart.2 n hm (by simp),ih.apart.1⟩
       ·rcases mC hm with rfl|hm
        ·exact hn
        ·exact λh2=>ih.apart.2 m hm (by simp[h2])
      ·cases h
     ·cases h
def R1:Value->Option (DataW Unit×List MemPlace):=λ_=>some (.lit (.bool true),[])
theorem zAD4{T:TypeId}(hT:P.underlying T=some (.int .i64)){w:World}{b clock:Nat}{es':Array MapEntry}{l:List Int}(hb:w.heap[b]?=some (.map es' clock))(hk:KeysOK ρ clock es'.toList [] [] l)(hsz:es'.size<=100000):
  ∃D0:DataW Unit,w.ownsMap P T R1 b es'.size D0/\(intKeys D0).Perm l/\Maps.size D0<=100000:=by
 have hlen:es'.toList.length=l.length:=by have:=congrArg List.length hk.keys;simpa using this
 have rdk:∀x∈es'.toList,∃n,x.key=encZ n/\WideElems.rd P T R1 x=some (.int .i64 n,.lit (.bool true)):=by intro x hx;have:x.key∈es'.toList.map (·.key):=List.mem_map.2 ⟨x,hx,rfl⟩;rw[hk.keys]at this;obtain⟨n,hn,he⟩:=List.mem_map.1 this;refine⟨n,he.symm,?_⟩;have hw:=hk.wf n hn;simp[WideElems.rd,Go.keyOf,hT,mapKey,<- he,hw,R1]
 refine⟨_,⟨es',clock,hb,⟨by unfold maxLen;omega,⟨hk.born,hk.stamps.1,by rw[hk.keys];exact(List.pairwise_map.2 (hk.apart.1.imp λhne e=>hne (encZ_inj e)))⟩,λx hx=>?_⟩,Nat.le_refl _,rfl⟩,?_,?_⟩
 ·obtain⟨n,_,h⟩:=rdk x hx;exact⟨_,h⟩
 ·show List.Perm (((es'.toList.map (WideElems.rg P T R1)).foldr DataW.insert []).map λp=>intOf p.1) l
  refine((sorted_perm _).map _).trans ?_;have:∀(xs:List MapEntry) (ls:List Int),xs.map (·.key)=ls.map encZ->(∀x∈xs,∃n,x.key=encZ n/\WideElems.rd P T R1 x=some (.int .i64 n,.lit (.bool true)))->(xs.map (WideElems.rg P T R1)).map (λp=>intOf p.1)=ls:=by
   intro xs
   induction xs with
   |nil=>intro ls h _;cases ls<;>simp_all
   | cons x xs ih=>
     intro ls h hr;cases ls with
     |nil=>simp at h
     | cons n ls=>
       simp only[List.map_cons,cI]at h ⊢;obtain⟨m,hm,hr1⟩:=hr x (by simp);refine⟨?_,ih ls h.2 λy hy=>hr y (by simp[hy])⟩;rw[h.1]at hm;have:=encZ_inj hm;subst this;simp[WideElems.rg,hr1,intOf]
  rw[this es'.toList l hk.keys rdk]
 ·show(((es'.toList.map (WideElems.rg P T R1)).foldr DataW.insert [])).length<=100000
  rw[(sorted_perm _).length_eq];simpa using hsz
structure SortedOK(P:Program)(T:TypeId)(fs:FuncId)(l:List (FuncId×FuncId×TypeId)):Prop where
 ty:P.underlying T=some (.int .i64)
 keys:∀p∈l,∀mb W,CallsIn Fence.wide 0 P p.1 #[.map mb] W λe w'=>e=.returned (.func (.func p.2.1) #[] #[.pointer (some ⟨W.heap.size,0,none⟩)])/\w'=W.alloc (.cells #[.map mb] p.2.2)
 sorted:∀p∈l,∀(Bm b nn:Nat) (D0:DataW Unit) (w:World),Bm<w.heap.size->w.cell? ⟨Bm,0,none⟩=some (.map (some b))->w.ownsMap P T R1 b nn D0->Maps.size D0<=100000->
  CallsIn Fence.wide 0 P fs #[.func (.func p.2.1) #[] #[.pointer (some ⟨Bm,0,none⟩)]] w λe w'=>∃(v:Value) (ss:List Int),e=.returned v/\ss.Perm (intKeys D0)/\
   w'.ownsRow w.heap.size T 1 v ss.length ((ss.mergeSort (λx y=>decide (x<=y))).map encZ)/\(v=.slice none 0 0↔ss=[])/\Below w.heap.size w w'
 none:∀p∈l,∀(Bm:Nat) (w:World),Bm<w.heap.size->w.cell? ⟨Bm,0,none⟩=some (.map none)->
  CallsIn Fence.wide 0 P fs #[.func (.func p.2.1) #[] #[.pointer (some ⟨Bm,0,none⟩)]] w λe w'=>e=.returned (.slice none 0 0)/\Below w.heap.size w w'
def sortedX(T:TypeId)(fs:FuncId)(l:List (FuncId×FuncId×TypeId)):Td:=λf=>cond (Nat.beq f fs) (some (qP3 (l.map (·.2.1)) T)) (match l.find? λp=>Nat.beq f p.1 with
 |some p=>some (qYp p.2.1)
 |none=>none)
theorem sortedX_ok{T:TypeId}{fs:FuncId}{l:List (FuncId×FuncId×TypeId)}(hP:SortedOK P T fs l):ExtOK P (sortedX T fs l):=by
 refine⟨λf g args h=>?_,λf g hg args H v H' hr σ ρ base w args' hσ hwr hf hra=>?_⟩
 ·unfold sortedX at h
  cases hb:Nat.beq f fs with
  |true=>rw[hb]at h;cases h;exact qUi _ _ _
  | false=>
    rw[hb]at h;simp only[cond_false]at h;split at h
    ·cases h;exact qZL _ _
    ·cases h
 ·unfold sortedX at hg
  cases hb:Nat.beq f fs with
  | true=>
    rw[hb]at hg;cases hg;have e:=bE hb;subst e;unfold qP3 at hr;split at hr
    ·rename_i k b
     obtain⟨hk,hr2⟩:=qAk hr;clear hr;obtain⟨p,hp,rfl⟩:=List.mem_map.1 (qGo.1 hk);obtain⟨blk,K,h1,h2⟩:=qAM hr2;obtain⟨hb1,e1,e2,e3⟩:=qCF h1;have harg:∃L,ρ b=some L/\args'=#[.func (.func p.2.1) #[] #[.pointer (some ⟨L.blk,L.sh+0,none⟩)]]:=by
      unfold RelL at hra;obtain⟨y,ys,g1,g2,g3⟩:=hra;unfold RelL at g3;subst g3;unfold Rel at g2;obtain⟨as',bs',rfl,g4,g5⟩:=g2;unfold RelL at g4 g5;obtain⟨z,zs,g6,g7,g8⟩:=g5;unfold RelL at g8;subst g8;unfold Rel at g7;obtain⟨L,hL,rfl⟩:=g7;refine⟨L,hL,?_⟩;apply Array.toList_inj.1;rw[g1];have:as'=#[]:=by apply Array.toList_inj.1;simpa using g4
      have h2:bs'=#[.pointer (some ⟨L.blk,L.sh+0,Option.none⟩)]:=by apply Array.toList_inj.1;simpa using g6
      rw[this,h2]
     obtain⟨L,hL,rfl⟩:=harg;cases blk with
     | one x=>
       obtain⟨L',hL',hsh,v1,el,fr,q1,q2⟩:=hwr.blk _ _ hb1;rw[hL]at hL';cases hL';rw[hsh];have hlt:L.blk<w.heap.size:=qI9 q1;have hcell:w.cell? ⟨L.blk,0,Option.none⟩=some v1:=by simp[World.cell?,q1]
       cases x with
       | nilmap=>
         cases qAI h2;unfold Rel at q2;subst q2;refine(hP.none p hp L.blk w hlt hcell).mono ?_;rintro en w' ⟨rfl,hbel⟩;refine⟨_,ρ,rfl,⟨?_,?_,hbel.mono hwr.base⟩,by unfold Rel;rfl⟩
         ·rw[e3];exact .refl _ _ _
         ·exact(qMQ hwr hbel).log e1 e2
       | map m=>
         unfold Rel at q2;obtain⟨D,hD,rfl⟩:=q2;obtain⟨blk2,K2,h3,h4⟩:=qAM h2;obtain⟨hb2,f1,f2,f3⟩:=qCF h3;rw[e1]at hb2;cases blk2 with
         | map es clock=>
           simp only at h4;generalize hki:qVT clock es [] []=ki at h4;cases ki with
           |none=>exact(qAC h4).elim
           | some ks=>
             obtain⟨hc,h5⟩:=qAk h4;have hc:es.length<=100000:=Nat.le_of_ble_eq_true hc;obtain⟨D',hD',es',q4,q5⟩:=hwr.blk _ _ hb2;rw[hD]at hD';cases hD';have hko:=qRe q5 hki;have hsz:es'.size<=100000:=by have:=q5.len;simp at this;omega
             obtain⟨D0,o1,o2,o3⟩:=zAD4 hP.ty q4 hko hsz;refine(hP.sorted p hp L.blk D.blk _ D0 w hlt hcell o1 o3).mono ?_;rintro en w' ⟨v',ss,rfl,hperm,hrow,hnil,hbel⟩;have hms:ss.mergeSort (λx y=>decide (x<=y))=qOP ks:=qR3 (hperm.trans o2);rw[hms]at hrow;have hlen:ss.length=(qOP ks).length:=by rw[<- hms];exact(List.length_mergeSort _).symm
             have hwr':=(qMQ hwr hbel).log (K:=K2) (by rw[f1,e1]) (by rw[f2,e2]);have hnx:K2.next=H.next:=by rw[f3,e3]
             cases hs:qOP ks with
             | nil=>
               rw[hs]at h5;cases qAI h5;have:ss=[]:=List.eq_nil_of_length_eq_zero (by rw[hlen,hs];rfl);have hv:=hnil.2 this;subst hv;exact⟨_,ρ,rfl,⟨by rw[hnx];exact .refl _ _ _,hwr',hbel.mono hwr.base⟩,by unfold Rel;rfl⟩
             | cons x lx=>
               rw[hs]at h5 hrow hlen;obtain⟨id,K3,h6,h7⟩:=qAM h5;cases qAI h7;obtain⟨_,h8⟩:=qAk h6;obtain⟨rfl,hlo,hk3,hkl,hkn⟩:=qJv h8;obtain⟨_,hrow⟩:=hrow;rcases hrow with⟨hv,hz⟩|⟨gb,cap,cur,rfl,hbase,hgb,r1,r2,r3,r4⟩
               ·rw[hz]at hlen;simp at hlen
               ·have hu:Upd w' gb (.cells cur T (0,0)) w':=⟨rfl,rfl,rfl,Nat.le_refl _,hgb,λ_ _=>rfl⟩
                have hn:ρ K2.next=Option.none:=hf K2.next (by omega) (by omega);have hb0:=hwr.base;have hcells:∀i v,(Tr.ofListAt .nil 0 (ints (x::lx))).get i=some v->∃v',cur[0+i]?=some v'/\∀ ρ',Rel σ ρ' v v'/\v'.oneCell'=true:=by
                 intro i v hv;rw[Tr.get_ofListAt]at hv;split at hv
                 ·rename_i hi
                  rw[qSH,List.getElem?_map,Nat.sub_zero]at hv;obtain⟨n,hn1,rfl⟩:=Option.map_eq_some_iff.1 hv;refine⟨encZ n,?_,λρ'=>⟨by unfold Rel;rfl,rfl⟩⟩;have h9:(cur.toList.take (ss.length*1))[i]?=some (encZ n):=by rw[r4,List.getElem?_map,hn1];rfl
                  rw[List.getElem?_take]at h9;split at h9
                  ·rw[zA,<- Array.getElem?_toList];exact h9
                  ·cases h9
                 ·rw[Tr.get_nil]at hv;cases hv
                have hil:(ints (x::lx)).length=lx.length+1:=by rw[qSH];simp
                have h12:lx.length+1<=cap:=by have:=hlen;simp only[List.length_cons]at this;omega
                obtain⟨ρ',x1,x2,x3,x4⟩:=hwr'.new (K:=H') (w':=w') (L:=⟨gb,0,cur.size⟩) (b:=.cells T (Tr.ofListAt .nil 0 (ints (x::lx))) (ints (x::lx)).length) hn
                 (λj bj Lj hj hLj=>by rw[f1,e1]at hj;exact Nat.ne_of_lt (Nat.lt_of_lt_of_le (qJ4 hwr hj hLj) hbase)) (Nat.le_trans hb0 hbase) hu
                 (λρ' hle _=>⟨cur,(0,0),rfl,λ_=>rfl,rfl,by simp only[zA];rw[hil,r3,Nat.mul_one];omega,λi v hv=>by obtain⟨v',h10,h11⟩:=hcells i v hv;exact⟨v',h10,(h11 ρ').1,(h11 ρ').2⟩⟩) hk3 hkl hkn
                refine⟨_,ρ',rfl,⟨by rw[<- hnx];exact x1,x3,hbel.mono hwr.base⟩,?_⟩;unfold Rel;exact⟨⟨gb,0,cur.size⟩,⟨gb,0,Option.none⟩,cap,x2,by rw[hlen];rfl,Or.inl ⟨rfl,by simp only[zA,Nat.mul_one];rw[r3,Nat.mul_one];exact Nat.le_refl _⟩,by rw[hlen]at r1;simpa using r1,by intro k hk;cases hk⟩
         |_=>exact(qAC h4).elim
       |_=>exact(qAC h2).elim
     |_=>exact(qAC h2).elim
    ·exact(qAC (H:=H) hr).elim
  | false=>
    rw[hb]at hg;simp only[cond_false]at hg;split at hg
    ·rename_i p hp
     cases hg;have hmem:=List.mem_of_find?_eq_some hp;have he:=List.find?_some hp;have he:f=p.1:=bE he;subst he;unfold qYp at hr;have fin:∀(x:AV) (mb:Option Nat),(∀ ρ',Le ρ ρ'->Rel σ ρ' x (.map mb))->args'=#[.map mb]->bd (nw (.one x)) (λid=>ret (.fn (.func p.2.1) [] [.ptr id 0])) H=some (v,H')->CallsIn Fence.wide 0 P p.1 args' w (qCu σ ρ base H H' w v):=by intro x mb hx ha h;subst ha;obtain⟨id,K,h1,h2⟩:=qAM h;cases qAI h2;refine(hP.keys p hmem mb w).mono ?_;rintro en w' ⟨rfl,rfl⟩;obtain⟨ρ',p1,p2,p3,p4⟩:=qLJ (o:=.cells #[.map mb] p.2.2 (0,0)) h1 hwr hf (λρ' hle=>⟨rfl,.map mb,p.2.2,(0,0),rfl,hx ρ' hle⟩);refine⟨_,ρ',rfl,⟨p1,p2,p3⟩,?_⟩;unfold Rel;exact⟨_,_,rfl,.nil,.cons (by unfold Rel;exact⟨_,p4,rfl⟩) .nil⟩
     have one:∀x:AV,RelL σ ρ [x] args'.toList->∃v,args'=#[v]/\Rel σ ρ x v:=by intro x hx;unfold RelL at hx;obtain⟨y,ys,g1,g2,g3⟩:=hx;unfold RelL at g3;subst g3;exact⟨y,by apply Array.toList_inj.1;rw[g1],g2⟩
     split at hr
     ·obtain⟨v1,ha,hv1⟩:=one _ hra
      unfold Rel at hv1;exact fin .nilmap Option.none (λρ' _=>by unfold Rel;rfl) (by rw[ha,hv1]) hr
     ·rename_i m
      obtain⟨v1,ha,hv1⟩:=one _ hra;unfold Rel at hv1;obtain⟨D,hD,hv1⟩:=hv1;exact fin (.map m) (some D.blk) (λρ' hle=>by unfold Rel;exact⟨D,hle _ _ hD,rfl⟩) (by rw[ha,hv1]) hr
     ·exact(qAC (H:=H) hr).elim
    ·cases hg
end
end Go.AM
namespace Go.Proofs.YtjheoaemhdpoeaaGreatDoor
open Go Go.RowKit Go.Maps Go.Sort Go.Shelf
set_option maxRecDepth 100000
def qLR:Go.Shelf.Ren:=⟨fun | 7=>49 | 10=>85|n=>n,fun | 23=>118 | 26=>3 | 3=>4 | 28=>121 | 0=>0 | 27=>120 | 33=>164 | 4=>4|n=>n,fun|n=>n⟩
theorem qW0:Go.Proofs.SlLaysZI.n7 Tryz.prog qLR:={
 mixed:=by kernel_rfl,
 f7:=⟨Tryz.f49.name,by decide,Tryz.func49.trans (congrArg some (by kernel_rfl))⟩,
 f10:=⟨Tryz.f85.name,by decide,Tryz.func85.trans (congrArg some (by kernel_rfl))⟩,
 t0:=Tryz.underlying0,
 a0:=Tryz.isAgg0,
 z0:=Tryz.sizeOf0,
 v0:=Tryz.zeroValue0,
 t4:=Tryz.underlying4,
 a4:=Tryz.isAgg4,
 z4:=Tryz.sizeOf4,
 v4:=Tryz.zeroValue4,
 t23:=Tryz.underlying118,
 a23:=Tryz.isAgg118,
 z23:=Tryz.sizeOf118,
 v23:=Tryz.zeroValue118,
 t26:=Tryz.underlying3,
 a26:=Tryz.isAgg3,
 z26:=Tryz.sizeOf3,
 v26:=Tryz.zeroValue3,
 t27:=Tryz.underlying120,
 a27:=Tryz.isAgg120,
 z27:=Tryz.sizeOf120,
 v27:=Tryz.zeroValue120,
 t28:=Tryz.underlying121,
 a28:=Tryz.isAgg121,
 z28:=Tryz.sizeOf121,
 v28:=Tryz.zeroValue121,
 t33:=Tryz.underlying164,
 a33:=Tryz.isAgg164,
 z33:=Tryz.sizeOf164,
 v33:=Tryz.zeroValue164 }
def qLy:Go.Shelf.Ren:=⟨fun | 6=>48 | 8=>83 | 9=>84 | 11=>105 | 13=>96 | 12=>106 | 23=>144 | 24=>145 | 14=>161 | 15=>162 | 16=>163 | 17=>164 | 18=>165 | 19=>166 | 20=>167 | 21=>168 | 22=>169 | 25=>194 | 26=>178 | 27=>179 | 28=>195 | 29=>196 | 30=>197 | 31=>204|n=>n,fun | 26=>3 | 28=>121 | 24=>63 | 0=>0 | 3=>3 | 37=>168 | 48=>41 | 50=>45 | 4=>4 | 40=>212 | 39=>211 | 45=>60 | 5=>5 | 9=>9 | 51=>242 | 55=>246 | 57=>256 | 58=>257 | 33=>164|n=>n,fun|n=>n⟩
theorem qTM:Go.Proofs.SlLaysZI.n6 Tryz.prog qLy:={
 mixed:=by kernel_rfl,
 f6:=⟨Tryz.f48.name,by decide,Tryz.func48.trans (congrArg some (by kernel_rfl))⟩,
 f8:=⟨Tryz.f83.name,by decide,Tryz.func83.trans (congrArg some (by kernel_rfl))⟩,
 f11:=⟨Tryz.f105.name,by decide,Tryz.func105.trans (congrArg some (by kernel_rfl))⟩,
 t0:=Tryz.underlying0,
 a0:=Tryz.isAgg0,
 z0:=Tryz.sizeOf0,
 v0:=Tryz.zeroValue0,
 t24:=Tryz.underlying63,
 a24:=Tryz.isAgg63,
 z24:=Tryz.sizeOf63,
 v24:=Tryz.zeroValue63,
 t26:=Tryz.underlying3,
 a26:=Tryz.isAgg3,
 z26:=Tryz.sizeOf3,
 v26:=Tryz.zeroValue3,
 t28:=Tryz.underlying121,
 a28:=Tryz.isAgg121,
 z28:=Tryz.sizeOf121,
 v28:=Tryz.zeroValue121,
 i26:=by kernel_rfl }
def qUM:Go.Shelf.Ren:=⟨fun | 5=>84 | 8=>96 | 7=>106 | 19=>144 | 20=>145 | 10=>161 | 11=>162 | 12=>163 | 13=>164 | 14=>165 | 15=>166 | 16=>167 | 17=>168 | 18=>169 | 30=>194 | 31=>178 | 32=>179 | 33=>195 | 34=>196 | 35=>197 | 40=>204|n=>n,fun | 23=>63 | 25=>3 | 3=>3 | 32=>168 | 22=>63 | 0=>0 | 44=>41 | 46=>45 | 4=>4 | 36=>212 | 35=>211 | 41=>60 | 5=>5 | 9=>9 | 53=>242 | 57=>246 | 63=>256 | 64=>257|n=>n,fun|n=>n⟩
theorem zAAH:Go.Proofs.SlLaysM.n5 Tryz.prog qUM:={
 mixed:=by kernel_rfl,
 f5:=⟨Tryz.f84.name,by decide,Tryz.func84.trans (congrArg some (by kernel_rfl))⟩,
 f7:=⟨Tryz.f106.name,by decide,Tryz.func106.trans (congrArg some (by kernel_rfl))⟩,
 f8:=Tryz.func96.trans (congrArg some (by kernel_rfl)),
 f10:=⟨Tryz.f161.name,by decide,Tryz.func161.trans (congrArg some (by kernel_rfl))⟩,
 f11:=⟨Tryz.f162.name,by decide,Tryz.func162.trans (congrArg some (by kernel_rfl))⟩,
 f12:=⟨Tryz.f163.name,by decide,Tryz.func163.trans (congrArg some (by kernel_rfl))⟩,
 f13:=⟨Tryz.f164.name,by decide,Tryz.func164.trans (congrArg some (by kernel_rfl))⟩,
 f14:=⟨Tryz.f165.name,by decide,Tryz.func165.trans (congrArg some (by kernel_rfl))⟩,
 f15:=⟨Tryz.f166.name,by decide,Tryz.func166.trans (congrArg some (by kernel_rfl))⟩,
 f16:=⟨Tryz.f167.name,by decide,Tryz.func167.trans (congrArg some (by kernel_rfl))⟩,
 f17:=⟨Tryz.f168.name,by decide,Tryz.func168.trans (congrArg some (by kernel_rfl))⟩,
 f18:=⟨Tryz.f169.name,by decide,Tryz.func169.trans (congrArg some (by kernel_rfl))⟩,
 f19:=Tryz.func144.trans (congrArg some (by kernel_rfl)),
 f20:=Tryz.func145.trans (congrArg some (by kernel_rfl)),
 f30:=⟨Tryz.f194.name,by decide,Tryz.func194.trans (congrArg some (by kernel_rfl))⟩,
 f31:=Tryz.func178.trans (congrArg some (by kernel_rfl)),
 f32:=Tryz.func179.trans (congrArg some (by kernel_rfl)),
 f33:=⟨Tryz.f195.name,by decide,Tryz.func195.trans (congrArg some (by kernel_rfl))⟩,
 f34:=⟨Tryz.f196.name,by decide,Tryz.func196.trans (congrArg some (by kernel_rfl))⟩,
 f35:=⟨Tryz.f197.name,by decide,Tryz.func197.trans (congrArg some (by kernel_rfl))⟩,
 f40:=⟨Tryz.f204.name,by decide,Tryz.func204.trans (congrArg some (by kernel_rfl))⟩,
 t0:=Tryz.underlying0,
 a0:=Tryz.isAgg0,
 z0:=Tryz.sizeOf0,
 v0:=Tryz.zeroValue0,
 t3:=Tryz.underlying3,
 a3:=Tryz.isAgg3,
 z3:=Tryz.sizeOf3,
 v3:=Tryz.zeroValue3,
 t4:=Tryz.underlying4,
 a4:=Tryz.isAgg4,
 z4:=Tryz.sizeOf4,
 v4:=Tryz.zeroValue4,
 t5:=Tryz.underlying5,
 a5:=Tryz.isAgg5,
 z5:=Tryz.sizeOf5,
 v5:=Tryz.zeroValue5,
 t9:=Tryz.underlying9,
 a9:=Tryz.isAgg9,
 z9:=Tryz.sizeOf9,
 v9:=Tryz.zeroValue9,
 t22:=Tryz.underlying63,
 a22:=Tryz.isAgg63,
 z22:=Tryz.sizeOf63,
 v22:=Tryz.zeroValue63,
 t23:=Tryz.underlying63,
 a23:=Tryz.isAgg63,
 z23:=Tryz.sizeOf63,
 v23:=Tryz.zeroValue63,
 t25:=Tryz.underlying3,
 a25:=Tryz.isAgg3,
 z25:=Tryz.sizeOf3,
 v25:=Tryz.zeroValue3,
 t32:=Tryz.underlying168,
 a32:=Tryz.isAgg168,
 z32:=Tryz.sizeOf168,
 v32:=Tryz.zeroValue168,
 t35:=Tryz.underlying211,
 a35:=Tryz.isAgg211,
 z35:=Tryz.sizeOf211,
 v35:=Tryz.zeroValue211,
 t36:=Tryz.underlying212,
 a36:=Tryz.isAgg212,
 z36:=Tryz.sizeOf212,
 v36:=Tryz.zeroValue212,
 t41:=Tryz.underlying60,
 a41:=Tryz.isAgg60,
 z41:=Tryz.sizeOf60,
 v41:=Tryz.zeroValue60,
 t44:=Tryz.underlying41,
 a44:=Tryz.isAgg41,
 z44:=Tryz.sizeOf41,
 v44:=Tryz.zeroValue41,
 t46:=Tryz.underlying45,
 a46:=Tryz.isAgg45,
 z46:=Tryz.sizeOf45,
 v46:=Tryz.zeroValue45,
 t53:=Tryz.underlying242,
 a53:=Tryz.isAgg242,
 z53:=Tryz.sizeOf242,
 v53:=Tryz.zeroValue242,
 t57:=Tryz.underlying246,
 a57:=Tryz.isAgg246,
 z57:=Tryz.sizeOf246,
 v57:=Tryz.zeroValue246,
 t63:=Tryz.underlying256,
 a63:=Tryz.isAgg256,
 z63:=Tryz.sizeOf256,
 v63:=Tryz.zeroValue256,
 t64:=Tryz.underlying257,
 a64:=Tryz.isAgg257,
 z64:=Tryz.sizeOf257,
 v64:=Tryz.zeroValue257 }
theorem qVx(m:Nat):AnyZI.SortsIn Tryz.prog qLy Fence.wide m:=
 ⟨λblk off cap ss W hH hblk hsz=>callsIn_wide.2 (AnyM.slices_Sort_int zAAH blk off cap ss W hH hblk hsz),
  λp cap W=>callsIn_wide.2 (AnyM.slices_Sort_int_none zAAH p cap W)⟩
theorem sortedOK:AM.SortedOK Tryz.prog 3 48 [(49,85,118)]:=by
 refine⟨Tryz.underlying3,?_,?_,?_⟩
 ·intro p hp mb W
  simp only[List.mem_cons,List.not_mem_nil,or_false]at hp;rcases hp with rfl
  ·exact AnyZI.keys_in qW0 Fence.wide 0 trivial rfl mb W
 ·intro p hp Bm b nn D0 w hlt hm hown hsz
  have hmax:Maps.size D0<=maxLen:=by unfold maxLen;omega
  have hbytes:Maps.size D0*8<=140737488355328:=by omega
  simp only[List.mem_cons,List.not_mem_nil,or_false]at hp;rcases hp with rfl
  ·have hseq:SeqGives Fence.wide 2 Tryz.prog 85 #[.pointer (some ⟨Bm,0,none⟩)] encZ (λss=>ss.Perm (intKeys D0)) (Maps.size D0) w:=
    AnyZI.keys_gives (ρ:=qLR) { qW0 with } Fence.wide _ trivial rfl (by omega) Bm b nn D0 w hlt hm hown
   have cS:=AnyZI.sorted_in qTM Fence.wide 5 trivial trivial trivial trivial rfl (by omega) (qVx _) (enters_of Tryz.func84 (by kernel_rfl) rfl) 85 #[.pointer (some ⟨Bm,0,none⟩)] trivial (enters_of Tryz.func85 (by kernel_rfl) rfl) _ _ hmax hbytes w hseq;exact callsIn_wide.2 (callsIn_wide.1 cS)
 ·intro p hp Bm w hlt hm
  simp only[List.mem_cons,List.not_mem_nil,or_false]at hp;rcases hp with rfl
  ·have hseq:SeqGives Fence.wide 2 Tryz.prog 85 #[.pointer (some ⟨Bm,0,none⟩)] encZ (λss:List Int=>ss=[]) 0 w:=
    AnyZI.keys_gives_nil (ρ:=qLR) { qW0 with } Fence.wide _ trivial rfl Bm w hlt hm
   have cS:=AnyZI.sorted_in qTM Fence.wide 5 trivial trivial trivial trivial rfl (by omega) (qVx _) (enters_of Tryz.func84 (by kernel_rfl) rfl) 85 #[.pointer (some ⟨Bm,0,none⟩)] trivial (enters_of Tryz.func85 (by kernel_rfl) rfl) _ 0 (Nat.zero_le _) (by omega) w hseq;refine(callsIn_wide.2 (callsIn_wide.1 cS)).mono ?_;rintro e w' ⟨v,ss,rfl,rfl,hrow,hnil,hb⟩;obtain rfl:v=.slice none 0 0:=hnil.2 rfl;exact⟨rfl,hb⟩
end Go.Proofs.YtjheoaemhdpoeaaGreatDoor
