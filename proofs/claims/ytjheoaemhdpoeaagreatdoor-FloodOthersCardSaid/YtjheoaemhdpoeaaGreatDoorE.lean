/- Part E of the proof: see the last part. -/
import Derived.Test.YtjheoaemhdpoeaaGreatDoorV
import Derived.Test.YtjheoaemhdpoeaaGreatDoorK
import Derived.Test.YtjheoaemhdpoeaaGreatDoorG
import Derived.Test.YtjheoaemhdpoeaaGreatDoorC
import Derived.Test.YtjheoaemhdpoeaaGreatDoorV2
set_option linter.unusedVariables false
namespace Go.AM.MU
open Go Go.Proofs
variable {K:AV→Hq→Prop} {s s':Hq} {m c i j:Nat} {k:Int} {v:AV} {t:Bool}
abbrev Kv:=Int×AV
def gE:Nat->List Kv->List AEnt
 |_,[]=>[]
 |i,p::l=>⟨.int .u32 p.1,p.2,i⟩::gE (i+1) l
theorem zAAX:∀{i:Nat}{l:List Kv},(gE i l).length=l.length
 |_,[]=>rfl
 |i,p::l=>by show(gE (i+1) l).length+1=_;rw[zAAX];rfl
theorem zAAG:∀{i:Nat}{l:List Kv}{c:Nat},i+l.length<=c->qF3 c (gE i l)=true
 |_,[],_,_=>rfl
 | i,p::l,c,h=>by
   rw[List.length_cons]at h;show(Nat.blt i c&&qF3 c (gE (i+1) l))=true;rw[zAAG (by omega),Bool.and_true,Nat.blt_eq];omega
theorem zACm:∀{i:Nat}{l:List Kv}{bs:List Nat},(∀b∈bs,b<i)->ndB (gE i l) bs=true
 |_,[],_,_=>rfl
 | i,p::l,bs,h=>by
   show(!hasN i bs&&ndB (gE (i+1) l) (i::bs))=true;have h1:hasN i bs=false:=by
    have:∀{bs:List Nat},(∀b∈bs,b<i)->hasN i bs=false:=by
     intro bs
     induction bs with
     |nil=>exact λ_=>rfl
     | cons b bs ih=>
       intro h;have hb:=h b List.mem_cons_self;simp only[hasN,Bool.or_eq_false_iff];refine⟨?_,ih λx hx=>h x (mO _ hx)⟩;cases r:Nat.beq i b with
       |false=>rfl
       |true=>have:=bE r;omega
    exact this h
   rw[h1,zACm λb hb=>by
    rcases mC hb with rfl|hb
    ·omega
    ·have:=h b hb;omega]
   rfl
def qKv(k:Int):List Kv->Nat->Option (Nat×AV)
 |[],_=>none
 |p::l,j=>if p.1=k then some (j,p.2)else qKv k l (j+1)
def gOf(l:List Kv)(k:Int):Option AV:=(qKv k l 0).map (·.2)
theorem gkey{a b:Int}:qNP (.int .i64) (.int .u32 a) (.int .u32 b)=some (decide (b=a)):=by
 show some (eqI a b)=_;rw[qEs]
 congr 1
 rw[Bool.eq_iff_iff];simp only[beq_iff_eq,decide_eq_true_eq];exact⟨λh=>h.symm,λh=>h.symm⟩
theorem qRo:∀{l:List Kv}{i j:Nat},qMH (.int .u32 k) (gE i l) j=some (qKv k l j)
 |[],_,_=>rfl
 | p::l,i,j=>by
   have e:qMH (.int .u32 k) (gE i (p::l)) j=match (some (decide (p.1=k)):Option Bool)with
     |some true=>some (some (j,p.2))
     |some false=>qMH (.int .u32 k) (gE (i+1) l) (j+1)
     |none=>none:=by
    rw[<- gkey];rfl
   rw[e];unfold qKv
   by_cases h:p.1=k
   ·rw[if_pos h,decide_eq_true h]
   ·rw[if_neg h,decide_eq_false h]
    exact qRo
theorem qJ2:∀{l:List Kv}{j:Nat},qKv k l (j+1)=(qKv k l j).map λp=>(p.1+1,p.2)
 |[],_=>rfl
 | p::l,j=>by
   unfold qKv
   by_cases h:p.1=k
   ·rw[if_pos h,if_pos h];rfl
   ·rw[if_neg h,if_neg h];exact qJ2
def putG(k:Int)(v:AV):List Kv->List Kv
 |[]=>[(k,v)]
 |p::l=>if p.1=k then(k,v)::l else p::putG k v l
theorem zAAE:∀{l:List Kv}{i:Nat},(match qKv k l 0 with
  |some p=>(modE (gE i l) p.1 λe=>{ e with key:=.int .u32 k,val:=v },i+l.length)
  |none=>(gE i l ++ [{ key:=.int .u32 k,val:=v,born:=i+l.length }],i+l.length+1))=(gE i (putG k v l),i+(putG k v l).length)
 |[],i=>rfl
 | p::l,i=>by
   unfold qKv putG
   by_cases h:p.1=k
   ·rw[if_pos h,if_pos h];rfl
   ·rw[if_neg h,if_neg h,qJ2]
    have ih:=zAAE (l:=l) (i:=i+1);cases q:qKv k l 0 with
    | some r=>
      rw[q]at ih;simp only[Option.map_some,Prod.mk.injEq]at ih ⊢;refine⟨?_,?_⟩
      ·show _::modE (gE (i+1) l) r.1 _=_::gE (i+1) (putG k v l)
       rw[ih.1]
      ·rw[List.length_cons,List.length_cons];omega
    | none=>
      rw[q]at ih;simp only[Option.map_none,Prod.mk.injEq]at ih ⊢;refine⟨?_,?_⟩
      ·show _::(gE (i+1) l++_)=_::gE (i+1) (putG k v l)
       rw[<- ih.1,List.length_cons,show i+(l.length+1)=i+1+l.length by omega]
      ·rw[List.length_cons,List.length_cons];omega
theorem zACK{l:List Kv}:putE (gE 0 l) l.length (.int .u32 k) v=some (gE 0 (putG k v l),(putG k v l).length):=by
 unfold putE;rw[qRo];have h:=zAAE (l:=l) (i:=0) (k:=k) (v:=v);cases q:qKv k l 0 with
 | some r=>
   rw[q]at h;simp only[zA,Prod.mk.injEq]at h ⊢;rw[h.1,h.2]
 | none=>
   rw[q]at h;simp only[zA,Prod.mk.injEq]at h ⊢;rw[h.1,h.2]
theorem gget{l:List Kv}(h:s m=some (t,.map (gE 0 l) c)):getM s (.map m) (.int .u32 k)=some (gOf l k):=by unfold getM gOf;simp only[h,qRo];cases qKv k l 0<;>rfl
theorem gput{l:List Kv}{R:Hq->Prop}(h:s m=some (false,.map (gE 0 l) l.length))(hK:∀s',s' m=some (false,.map (gE 0 (putG k v l)) (putG k v l).length)->Upto m s s'->R s'):oK (putM s (.map m) (.int .u32 k) v) R:=by refine qAD (a:=hset s m (false,.map (gE 0 (putG k v l)) (putG k v l).length)) ?_ (hK _ (by simp[hset]) λi hi=>by simp[hset,hi]);unfold putM;simp only[h,zACK]
theorem qT4{p:Kv}{l:List Kv}:gOf (p::l) k=if p.1=k then some p.2 else gOf l k:=by
 unfold gOf;rw[qKv]
 by_cases h:p.1=k
 ·rw[if_pos h,if_pos h];rfl
 ·rw[if_neg h,if_neg h,qJ2,Option.map_map];rfl
theorem qV0:∀{l:List Kv},gOf l k=some v->(k,v)∈l
 |[],h=>by cases h
 | p::l,h=>by
   rw[qT4]at h;split at h
   ·rename_i e
    cases h;rw[<- e];exact List.mem_cons_self
   ·exact mO _ (qV0 h)
theorem qTR:∀{l:List Kv},gOf l k=none↔k ∉ l.map (·.1)
 |[]=>by simp[gOf,qKv]
 | p::l=>by
   rw[qT4,List.map_cons,List.mem_cons]
   by_cases h:p.1=k
   ·rw[if_pos h];simp[h]
   ·rw[if_neg h,qTR]
    exact⟨λh2=>λe=>e.elim (λe=>h e.symm) h2,λh2 e=>h2 (.inr e)⟩
theorem qNL:∀{l:List Kv}{k':Int},k'∈(putG k v l).map (·.1)↔k'=k∨k'∈l.map (·.1)
 |[],k'=>by simp[putG]
 | p::l,k'=>by
   unfold putG
   by_cases h:p.1=k
   ·rw[if_pos h,List.map_cons,List.map_cons,List.mem_cons,List.mem_cons,h]
    exact⟨λe=>e.elim .inl λe=>.inr (.inr e),λe=>e.elim .inl id⟩
   ·rw[if_neg h,List.map_cons,List.map_cons,List.mem_cons,List.mem_cons,qNL]
    exact⟨λe=>e.elim (λe=>.inr (.inl e)) λe=>e.elim .inl λe=>.inr (.inr e),λe=>e.elim (λe=>.inr (.inl e)) λe=>e.elim .inl λe=>.inr (.inr e)⟩
theorem qXe:∀{l:List Kv},(l.map (·.1)).Nodup->((putG k v l).map (·.1)).Nodup
 |[],_=>by simp[putG]
 | p::l,h=>by
   obtain⟨h1,h2⟩:=List.nodup_cons.1 h;unfold putG
   by_cases hp:p.1=k
   ·rw[if_pos hp,List.map_cons]
    exact List.nodup_cons.2 ⟨by rw[<- hp];exact h1,h2⟩
   ·rw[if_neg hp,List.map_cons]
    refine List.nodup_cons.2 ⟨λe=>?_,qXe h2⟩;rcases qNL.1 e with e|e
    ·exact hp e
    ·exact h1 e
abbrev tS(l:List Int):List Kv:=l.map λx=>(x,AV.bool true)
def putS(k:Int)(l:List Int):List Int:=if k∈l then l else l ++ [k]
theorem qVw:∀{l:List Int},putG k (.bool true) (tS l)=tS (putS k l)
 |[]=>by unfold putS;rw[if_neg (by simp)];rfl
 | x::l=>by
   show putG k (.bool true) ((x,.bool true)::tS l)=_;unfold putG
   by_cases h:x=k
   ·rw[if_pos h]
    unfold putS;rw[if_pos (by rw[h];exact List.mem_cons_self),h];rfl
   ·rw[if_neg h,qVw]
    unfold putS
    by_cases h2:k∈l
    ·rw[if_pos h2,if_pos (mO _ h2)]
     rfl
    ·rw[if_neg h2,if_neg (λe=>(mC e).elim (λe=>h e.symm) h2)]
     rfl
theorem qYk{l:List Int}{y:Int}:y∈putS k l↔y=k∨y∈l:=by
 unfold putS;split
 ·rename_i h
  exact⟨.inr,λe=>e.elim (λe=>e ▸ h) id⟩
 ·rw[List.mem_append,List.mem_singleton]
  exact⟨λe=>e.elim .inr .inl,λe=>e.elim .inr .inl⟩
theorem zABt{l:List Int}(h:l.Nodup):(putS k l).Nodup:=by
 unfold putS;split
 ·exact h
 ·rename_i hk
  exact List.nodup_append.2 ⟨h,by simp,λa ha b hb e=>hk (by rw[<- List.mem_singleton.1 hb,<- e];exact ha)⟩
theorem qTF:∀{i:Nat}{l:List Int},qL8 (gE i (tS l))=some l
 |_,[]=>rfl
 | i,x::l=>by
   show(match qL8 (gE (i+1) (tS l))with|some l=>some (x::l)|none=>none)=_;rw[qTF]
theorem qYy{P:Program}{X:Td}{f:FuncId}{g:List AV->M AV}{args:List AV}(hf:X f=some g)(h:wpF (λ_=>g args) K s):wC P X f args K s:=by
 unfold wC wpT;refine wpF.succ (m:=λ_=>bd (g args) λv=>ret (Out.val v)) ?_ (λn=>by
  show(match X f with
   |some g=>bd (g args) λv=>ret (Out.val v)
   |none=>qCI P (run P X n) f args)=_
  rw[hf])
 exact wpF.bd (.const _) (λ_=>.const _) (h.mono λv s' hk=>wpF.ret ⟨v,rfl,hk⟩)
end Go.AM.MU
set_option maxRecDepth 100000
namespace Go.AM.FE
open Go Go.Proofs Go.AM.SG
variable {K:AV→Hq→Prop} {s s' s0:Hq} {v:AV} {c:Cm} {l:List Cm}
def tAS(c:Cm):Nat:=nv (((cb c).drop 2).take 2)
def tNo(c:Cm):Nat:=nv (((cb c).drop 4).take 4)
theorem zACe(hc:c.ok):tNo c<4294967296:=by have:=zAEA (l:=((cb c).drop 4).take 4) λx hx=>zADn hc x (List.mem_of_mem_drop (List.mem_of_mem_take hx));rw[show(((cb c).drop 4).take 4).length=4 from rfl]at this;exact this
def isT(c:Cm):Bool:=decide (qOJ c=1)&&decide (tAS c=65000)
def tgP(l:List Cm):List Int:=(l.filter isT).map λc=>(tNo c:Int)
def tgs(l:List Cm):List Int:=FD.insAll (tgP l)
theorem qWQ:(tgP l).length<=l.length:=by unfold tgP;rw[lMY];exact List.length_filter_le _ _
theorem zABy:(tgs l).length<=l.length:=Nat.le_trans (FD.insAll_len _) qWQ
def NumJ(t0:Hq)(c:Cm)(o n:Nat):List AV->Hq->Nat->Prop:=λys t m=>
 ∃i:Nat,ys=[.int .u64 ((nv ((((cb c).drop o).take n).take i):Nat):Int),.int .i64 (i:Int)]/\i<=n/\t=t0/\m=n-i
theorem qRW{o n:Nat}(hc:c.ok)(hn:n<=4)(ho:o+n<=8)(hK:∀s',Sub s s'->K (.int .u64 ((nv (((cb c).drop o).take n):Nat):Int)) s'):wC TP XX 65 [.agg (cmR c),.int .i64 (o:Int),.int .i64 (n:Int)] K s:=by
 refine qLA ⟨rfl,qAK λb s1 hb h1 u1=>?_⟩;have h1:s1 b=some (false,.cells 129 ((cb c).map u8)):=h1;have sub1:=u1.sub hb;have e8:IntKind.i64.wrap ((o:Int)+(n:Int))=((o+n:Nat):Int):=by rw[qAV (by omega) (by omega)];omega
 simp only[qAN,e8,qAA];have r2:qFw s1 8 1 (.ptr b 0) (some (.int .i64 (o:Int))) (some (.int .i64 ((o+n:Nat):Int))) none=some (.slc b o n (some (8-o)) 1):=by
  have key:∀q:Nat,q=o+n->qFw s1 8 1 (.ptr b 0) (some (.int .i64 (o:Int))) (some (.int .i64 (q:Int))) none=some (.slc b o n (some (8-o)) 1):=λq hq=>by
   have a1:Nat.ble q 8=true:=bL (by omega);have a2:Nat.ble o q=true:=bL (by omega);have a3:Nat.ble 8 (cb c).length=true:=rfl;have a4:q-o=n:=by omega
   simp[qFw,h1,bound,a1,a2,a3,a4]
  exact key _ rfl
 have r3:qAP (.slc b o n (some (8-o)) 1)=some n:=rfl;simp only[r2,r3,qAA];have hlen:(((cb c).drop o).take n).length=n:=by rw[List.length_take,List.length_drop,show(cb c).length=8 from rfl];omega
 refine⟨NumJ s1 c o n,⟨_,0,rfl,by omega,rfl,rfl⟩,?_⟩;rintro e t m ⟨i,hy,hi,rfl,rfl⟩;simp only[cI,and_true]at hy;rw[hy.1,hy.2];simp only[qHj,qAQ,qAA];refine qAE (λhlt=>?_) (λhge=>?_)
 rotate_left
 ·have:i=n:=by have:=oF hge;omega
  subst this;rw[List.take_of_length_le (Nat.le_of_eq hlen)];exact hK t sub1
 have hlt:i<n:=by have:=oT hlt;omega
 have hx:=zADn hc;have hd:(((cb c).drop o).take n).take (i+1)=(((cb c).drop o).take n).take i ++ [(((cb c).drop o).take n)[i]]:=by rw[List.take_add_one,gEY (by rw[hlen];exact hlt)];rfl
 generalize hxv:(((cb c).drop o).take n)[i]=x at hd;have hxm:x<256:=hx x (by rw[<- hxv];exact List.mem_of_mem_drop (List.mem_of_mem_take (List.getElem_mem _)));have a1:qAH 1 (.slc b o n (some (8-o)) 1) (.int .i64 (i:Int))=some (.ptr b (o+i)):=by
  have:Nat.blt i n=true:=by rw[Nat.blt_eq];exact hlt
  simp[qAH,this]
 have r1:rd1 t (.ptr b (o+i))=some (u8 x):=by
  rw[qAL h1,List.getElem?_map];have:(cb c)[o+i]?=some x:=by rw[<- List.getElem?_drop,<- hxv];have h2:(((cb c).drop o).take n)[i]?=some (((cb c).drop o).take n)[i]:=gEY (by rw[hlen];exact hlt);rw[List.getElem?_take,if_pos hlt]at h2;exact h2
  rw[this];rfl
 obtain⟨q1,q2,q3,_⟩:=digit (qZY (l:=(((cb c).drop o).take n).take i) (λy hy=>hx y (List.mem_of_mem_drop (List.mem_of_mem_take (List.mem_of_mem_take hy)))) (by rw[List.length_take,hlen];omega)) hxm;simp only[a1,r1,q1,q2,q3,add1 (show i<=1000000 by omega),qAA];exact⟨_,by omega,i+1,by rw[hd,zAAw],by omega,rfl,rfl⟩
theorem qTD{i:Nat}(h:l[i]?=some c):tgP (l.take (i+1))=tgP (l.take i)++(if isT c=true then[(tNo c:Int)]else[]):=by
 unfold tgP;rw[List.take_add_one,h,List.filter_append,List.map_append]
 congr 1
 by_cases q:isT c=true
 ·rw[if_pos q];simp[q]
 ·rw[if_neg q];simp[q]
theorem wu32n{n:Nat}(h:n<4294967296):qB6 .u32 (.int .u64 (n:Int))=some (.int .u32 (n:Int)):=by
 show some (AV.int .u32 (qAw .u32 (n:Int)))=_;have:qAw .u32 (n:Int)=(n:Int):=by simp only[qAw];rw[qDs _ _ _ (by omega) (by omega)];split<;>omega
 rw[this]
theorem qUP(h:SlR 8 s v (l.map cmR))(hG:GlK s)(hok:∀c∈l,c.ok)(hl:l.length<=200)(hK:∀v' s',Sub s s'->Sl s' v' (us (tgs l))->K v' s'):wC TP XX 34 [v] K s:=by
 refine qKt ?_;unfold qI6;have n1:qAP v=some l.length:=by rw[h.len,lMY]
 simp only[n1,qAA];refine⟨λys t m=>∃(i:Nat) (w:AV),ys=[w,.int .i64 (i:Int)]/\i<=l.length/\m=l.length-i/\Sub s t/\Acc 41 s t w (us (tgP (l.take i))),⟨_,0,_,rfl,by omega,rfl,.refl _,.inl ⟨rfl,rfl⟩⟩,?_⟩;rintro f t m ⟨i,w,hy,hi,rfl,kt,acc⟩;simp only[cI,and_true]at hy;rw[hy.1,hy.2];clear hy;have hlen:(tgP (l.take i)).length<=200:=by have:=qWQ (l:=l.take i);rw[List.length_take]at this;omega
 simp only[qGl,qAQ,qAA];refine qAE (λhlt=>?_) (λhge=>?_)
 ·have hlt:i<l.length:=by have:=oT hlt;omega
  obtain⟨c,hc⟩:∃c,l[i]?=some c:=⟨_,gEY hlt⟩
  have hcok:=hok c (mG hc);obtain⟨pb,po,e1,e2,_⟩:=(h.sub kt).get (i:=i) (r:=cmR c) (by rw[List.getElem?_map,hc];rfl);simp only[e1,e2,qAA];refine qAK λb5 s6 hb5 h6 u6=>qAT h6 rfl rfl rfl λs7 h7 u7=>qAD (qAb h7 rfl) ?_;have k7:Sub t s7:=by intro j e hj;rw[u7 j (qDG hb5 hj)];exact u6.sub hb5 j e hj
  have n5:t b5=none:=hb5;refine zABI (hG.sub (kt.trans k7)) λs10 k10=>?_;have k710:=k7.trans k10;have next:∀{tt:Hq}{w':AV},Sub s tt->Acc 41 s tt w' (us (tgP (l.take (i+1))))->qCg XX w' (.int .i64 (i:Int)) (λys t m=>∃(i:Nat) (w:AV),ys=[w,.int .i64 (i:Int)]/\i<=l.length/\m=l.length-i/\Sub s t/\Acc 41 s t w (us (tgP (l.take i)))) (l.length-i) K tt:=fun {tt w'} kk a=>by unfold qCg;simp only[qAN,qAA];rw[qAV (by omega) (by omega)];exact⟨_,by omega,i+1,w',rfl,by omega,rfl,kk,a⟩
  have asub:∀{a b:Hq},Sub a b->Acc 41 s a w (us (tgP (l.take i)))->Acc 41 s b w (us (tgP (l.take i))):=fun {a b} k h=>by
   rcases h with h|⟨j,h0,rfl,h⟩
   ·exact .inl h
   ·exact .inr ⟨j,h0,rfl,k _ _ h⟩
  have no:∀{tt:Hq},Sub t tt->isT c=false->qCg XX w (.int .i64 (i:Int)) (λys t m=>∃(i:Nat) (w:AV),ys=[w,.int .i64 (i:Int)]/\i<=l.length/\m=l.length-i/\Sub s t/\Acc 41 s t w (us (tgP (l.take i)))) (l.length-i) K tt:=fun {tt} kk q=>
   next (kt.trans kk) (by rw[qTD hc,if_neg (by rw[q];simp),List.append_nil];exact asub kk acc)
  simp only[qAa,qAX,Bool.false_bne,qAA];cases q1:((qOJ c:Int) == 1)with
  | false=>
    simp only[qAO,qDj,qAU,qAA];refine no k710 ?_;unfold isT;rw[decide_eq_false (by intro e;rw[e]at q1;cases q1)];rfl
  |true=>
  have hk1:qOJ c=1:=by have:=eq_of_beq q1;omega
  simp only[qAY];refine qAD (qAb (k10 _ _ h7) rfl) (qRW (o:=2) (n:=2) hcok (by omega) (by omega) λs25 k25=>?_);simp only[qAa,qAX,Bool.false_bne,qAA,qDj,qAc];refine qAE (λq2=>?_) (λq2=>?_)
  ·have hT:isT c=true:=by
    unfold isT;rw[hk1,decide_eq_true (show tAS c=65000 by have:=eq_of_beq q2;unfold tAS;omega)];rfl
   refine qAD (qAb (k25 _ _ (k10 _ _ h7)) rfl) (qRW (o:=4) (n:=4) hcok (by omega) (by omega) λs16 k16=>?_);have kk:Sub t s16:=k710.trans (k25.trans k16);rw[wu32n (show nv (((cb c).drop 4).take 4)<4294967296 from zACe hcok)];simp only[qAA];refine qHc rfl rfl λb19 s20 hb19 h20 u20=>?_;have k20:=kk.trans (u20.sub hb19);refine(asub k20 acc).app (m:=[.int .u32 (tNo c:Int)]) (Sl.mk h20 rfl (by simp)) (by simp) (by simp[us];omega) (λj hj=>?_) λv' s' a ks=>?_
   ·cases e:s j with
    |none=>exact absurd e hj
    |some y=>rw[k20 _ _ (kt _ _ e)];simp
   ·refine next (λj e hj=>ks j e (k20 _ _ (kt j e hj)) λb' hv=>?_) (by rw[qTD hc,if_pos hT,us,List.map_append];exact a)
    rintro rfl;rcases acc with⟨h1,_⟩|⟨b2,h0,rfl,_⟩
    ·rw[h1]at hv;cases hv
    ·injection hv with h1
     rw[h1,hj]at h0;cases h0
  ·refine no (k710.trans k25) ?_
   unfold isT;rw[hk1,decide_eq_false (show ¬tAS c=65000 by intro e;unfold tAS at e;rw[e]at q2;cases q2)];rfl
 ·have hge:i=l.length:=by have:=oF hge;omega
  subst hge;rw[List.take_length]at acc hlen;have fin:∀{l':List Int}{v':AV}{s':Hq},l'.Pairwise (·<=·)->l'.Perm (tgP l)->Sub s s'->Sl s' v' (us (W.dI l'))->K v' s':=fun {l' v' s'} ha hp kk hs=>hK v' s' kk (by rw[show W.dI l'=tgs l from FD.insAll_eq (W.dI_asc ha) λy=>W.dI_mem.trans hp.mem_iff]at hs;exact hs)
  rcases acc with⟨rfl,h0⟩|⟨db,h0,rfl,h1⟩
  ·have e0:tgP l=[]:=by simpa [us]using h0
   refine W.sortN_in (u0:=false) ?_;refine W.compactU_in (s0:=s) (l:=[]) (.inl ⟨rfl,rfl⟩) kt (by simp) λv' s' hs kk=>?_;exact fin (l':=[]) .nil (by rw[e0]) kk hs
  ·have hu:W.UAt false t db (tgP l):=h1
   have e1:(us (tgP l)).length=(tgP l).length:=by simp[us]
   rw[e1];refine W.sortU_in (u0:=false) hu (by omega) λs2 l' hu2 hp hasc kb=>?_;have hlen2:=hp.length_eq;have k2:Sub s s2:=λj e hj=>kb j e (kt j e hj) (by rintro rfl;rw[hj]at h0;cases h0);refine W.compactU_in (s0:=s) (l:=l') (.inr ⟨db,h0,by simp[us,hlen2],hu2⟩) k2 (by omega) λv' s' hs kk=>?_;refine fin ?_ hp kk hs;refine List.pairwise_iff_getElem.2 λi j hi hj hij=>?_;have:=hasc i j (by omega) hij hj;simpa [nAt,hi,hj]using this
end Go.AM.FE
set_option maxRecDepth 100000
namespace Go.AM.FE
open Go Go.Proofs Go.AM.SG
end Go.AM.FE
set_option maxRecDepth 100000
namespace Go.AM.FW
open Go Go.Proofs Go.AM.TN
end Go.AM.FW
set_option maxRecDepth 100000
namespace Go.AM.FW
open Go Go.Proofs Go.AM.TN
end Go.AM.FW
set_option maxRecDepth 100000
namespace Go.AM.FW
open Go Go.Proofs Go.AM.TN
variable {s:Hq} {v:AV} {F:FG} {S:List (List Int × List Int)} {i:Nat} {x:List Int × List Int} {v2 v3 v4 v5 v6 v7:AV}
theorem zAC5(h:SgG s v S):SgG (AM.frz s) v S:=by obtain⟨vs,h1,h2,h3⟩:=h;exact⟨vs,h1.frz,h2,λi q x a c=>⟨(h3 i q x a c).1.frz,(h3 i q x a c).2.frz⟩⟩
theorem zAEe(h:FL s F v2 v3 v4 v5 v6 v7):FL (AM.frz s) F v2 v3 v4 v5 v6 v7:=⟨h.L.frz,h.T.frz,h.B.frz,zAC5 h.S,h.H.frz,h.G.frz⟩
end Go.AM.FW
set_option maxRecDepth 100000
namespace Go.AM.FW
open Go Go.Proofs Go.AM.TN
end Go.AM.FW
namespace Go.AM
open Go Go.Proofs
end Go.AM
set_option maxRecDepth 100000
namespace Go.AM.FE
open Go Go.Proofs Go.AM.TN
variable {K:AV→Hq→Prop} {s s':Hq} {p q m:AV} {cs:List AV} {F:FG} {leaf ip:Int} {r:SG.Rt} {v2 v3 v4 v5 v6 v7:AV}
def nodeOk(ip:Int):Bool:=decide (184483840<ip)&&decide (ip<=184483872)
def nodeV(ip:Int):Int:=if nodeOk ip=true then ip-184483841 else 0
theorem nodeV_ok(h:nodeOk ip=true):nodeV ip=ip-184483841/\184483840<ip/\ip<=184483872:=by unfold nodeOk at h;simp only[Bool.and_eq_true,decide_eq_true_eq]at h;refine⟨?_,h⟩;unfold nodeV nodeOk;rw[decide_eq_true h.1,decide_eq_true h.2];rfl
theorem nconv(h:184483840<ip)(h2:ip<=184483872):(IntKind.u32.wrap (IntKind.u32.wrap (ip-184483840)-1)=ip-184483841)/\qAw .i64 (ip-184483841)=ip-184483841:=by
 have w:∀n:Int,0<=n->n<4294967296->IntKind.u32.wrap n=n:=λn h1 h2=>by rw[<- qBY];simp only[qAw];rw[qDs _ _ _ (by omega) (by omega)];split<;>omega
 have w2:∀n:Int,0<=n->n<4294967296->qAw .i64 n=n:=λn h1 h2=>by rw[qBY];exact qAV (by omega) (by omega)
 refine⟨?_,w2 _ (by omega) (by omega)⟩;rw[w (ip-184483840) (by omega) (by omega),w _ (by omega) (by omega)];omega
theorem zABs(hK:K (.tup [.int .i64 (nodeV ip),.bool (nodeOk ip)]) s):wC TP XX 30 [.int .u32 ip] K s:=by
 refine qNp ?_;simp only[qLx,qCr,qBf,qAA];have bad:nodeOk ip=false->K (.tup [.int .i64 0,.bool false]) s:=λh=>by unfold nodeV at hK;rw[if_neg (by rw[h];simp),h]at hK;exact hK
 refine qAE (λh=>?_) (λh=>?_)
 ·simp only[qEq,h,qAc,qAA,qAY]
  refine bad ?_;unfold nodeOk;rw[decide_eq_false (by have:=oT h;omega)];rfl
 ·simp only[qEq,h,qAU,qAA]
  refine qAE (λh2=>?_) (λh2=>?_)
  ·refine bad ?_
   unfold nodeOk;rw[decide_eq_false (p:=ip<=184483872) (by have:=oT h2;omega),Bool.and_false]
  ·have g1:184483840<ip:=by have:=oF h;omega
   have g2:ip<=184483872:=by have:=oF h2;omega
   have ok:nodeOk ip=true:=by unfold nodeOk;rw[decide_eq_true g1,decide_eq_true g2];rfl
   obtain⟨e1,e2⟩:=nconv g1 g2;have e3:qB6 .i64 (.int .u32 (ip-184483841))=some (.int .i64 (ip-184483841)):=by show some (AV.int .i64 (qAw .i64 (ip-184483841)))=_;rw[e2]
   simp only[qBs,qAA,e1,e3];rw[(nodeV_ok ok).1,ok]at hK;exact hK
def flB(F:FG)(leaf:Int)(r:SG.Rt):Bool:=(r.kd == 3)&&(((r.tk == 6)||(r.tk == 3))&&(nodeOk r.nx&&(decide (nodeV r.nx<F.lf)&&!(nodeV r.nx == leaf))))
theorem row0:(r.row p q m)[0]?=some (.int .i64 r.kd):=id rfl
theorem zACO:(r.row p q m)[23]?=some (.int .u32 r.nx):=id rfl
theorem zAEU:(r.row p q m)[31]?=some m:=id rfl
theorem zADK:(r.row p q m)[32]?=some (.int .i64 r.tk):=id rfl
theorem qVp(hF:FabR s cs F)(hR:SG.RtAt s r p q m)(hK:∀s',Sub s s'->K (.bool (flB F leaf r)) s'):wC TP XX 33 [.agg cs,.int .i64 leaf,.agg (r.row p q m)] K s:=by
 obtain⟨v2,v3,v4,v5,v6,v7,rfl,hL⟩:=hF;refine qKb ⟨hL.all,qAK λb0 s1 hb0 h1 u1=>⟨hR.one,qAK λb2 s3 hb2 h3 u3=>?_⟩⟩;have h1:s1 b0=some (false,.cells 31 (csG F v2 v3 v4 v5 v6 v7)):=h1;have h3:s3 b2=some (false,.cells 81 (r.row p q m)):=h3;have k3:=u3.sub hb2;have kk:=(u1.sub hb0).trans k3;have h1:=k3 _ _ h1;have hk:=hK s3 kk;unfold flB at hk;simp only[qAG,zA,Nat.reduceAdd,qAA,qAL h3,row0,zACO,zADK,qAa,qAX,Bool.true_bne];cases c1:(r.kd == 3)with
 | false=>
   rw[c1]at hk;simp only[Bool.not_false,qAY,qAc,qAA];exact hk
 |true=>
 rw[c1,Bool.true_and]at hk;simp only[Bool.not_true,qAO];have tail:∀{a u:AV},qAS a u (.bool false)=some (.bool false)->K (.bool (nodeOk r.nx&&(decide (nodeV r.nx<F.lf)&&!(nodeV r.nx == leaf)))) s3->qCn XX (.int .i64 leaf) (.ptr b0 0) (.ptr b2 0) (.bool false) a u K s3:=fun {a u} hp hk=>by
  unfold qCn;rw[hp];simp only[qAA,qAU,qAO,qAG,zA,Nat.reduceAdd,qAL h3,zACO];refine zABs ?_;refine qAD (a:=.int .i64 (nodeV r.nx)) rfl (qAD (a:=.bool (nodeOk r.nx)) rfl ?_);cases c4:nodeOk r.nx with
  | false=>
    rw[c4]at hk;simp only[qAO,qDm,qAU,qAA,qCk];exact hk
  | true=>
    rw[c4,Bool.true_and]at hk;simp only[qAY,qAL h1,csG0,qAQ,qAA,qDm,qAc];cases c5:decide (nodeV r.nx<F.lf)with
    | false=>
      rw[c5]at hk;simp only[qAO,qCk,qAU,qAA];exact hk
    | true=>
      rw[c5,Bool.true_and]at hk;simp only[qAY,qAa,qAX,Bool.true_bne,qAA,qCk,qAc];exact hk
 cases c2:(r.tk == 6)with
 | true=>
   rw[c2,Bool.true_or,Bool.true_and]at hk;simp only[Bool.not_true,qAO];exact tail rfl hk
 | false=>
   rw[c2,Bool.false_or]at hk;simp only[Bool.not_false,qAY];cases c3:(r.tk == 3)with
   | true=>
     rw[c3,Bool.true_and]at hk;simp only[Bool.not_true];exact tail rfl hk
   | false=>
     rw[c3,Bool.false_and]at hk;simp only[Bool.not_false,qCn,qAc,qAU,qAA,qAY];exact hk
def tgtB(F:FG)(i:Int):Int:=match F.B[i.toNat]? with
 |some y=>y.2.2.1
 |none=>0
theorem tgt_at{i:Nat}{y:BG}(h:F.B[i]?=some y):tgtB F (i:Int)=y.2.2.1:=by unfold tgtB;rw[Int.toNat_natCast,h]
end Go.AM.FE
set_option maxRecDepth 100000
namespace Go.AM.MU
open Go Go.Proofs
variable {K:AV→Hq→Prop} {s s':Hq} {m b c:Nat} {v:AV} {ps:List Int} {t1 t2:Bool}
theorem qP2:∀l:List Int,qAZ (us32 l)=true
 |[]=>rfl
 | x::l=>by
   show(true&&qAZ (us32 l))=true;rw[qP2 l];rfl
theorem sorted_in(hb:s b=some (t1,.cells 101 [.map m]))(hm:s m=some (t2,.map (gE 0 (tS ps)) ps.length))(hl:ps.length<=255)
  (hK:∀v s',Sub s s'->Sl s' v ((qLQ ps).map (AV.int .u32))->(∀b o n c,v=.slc b o n c 1->s b=none)->K v s'):wC TP XX 35 [.fn (.func 70) [] [.ptr b 0]] K s:=by
 have hbm:b≠m:=by rintro rfl;rw[hb]at hm;cases hm
 refine qYy (show XX 35=some (qJG 70 101 42)from rfl) ?_;have hlen:(tS ps).length=ps.length:=lMY _;unfold qJG;refine wpF.cond rfl (wpF.bd (.const _) (λ_=>.const _) (wpF.rd hb λab hab=>?_));cases ab<;>first|exact hab.elim|skip
 rename_i e9 c9 n9;obtain⟨rfl,rfl,_,hget⟩:=hab;refine wpF.cond rfl ?_;have h0:c9.get 0=some (.map m):=hget 0 (by simp);simp only[h0];refine wpF.bd (.const _) (λ_=>.const _) (wpF.rd hm λab hab=>?_);cases ab<;>first|exact hab.elim|skip
 rename_i es9 c10;obtain⟨rfl,rfl⟩:=hab;simp only[qTF];have a1:Nat.ble (gE 0 (tS ps)).length 255=true:=bL (by rw[zAAX,hlen];exact hl);have a2:qF3 ps.length (gE 0 (tS ps))=true:=zAAG (by rw[hlen];omega);have a3:ndB (gE 0 (tS ps)) []=true:=zACm (by simp);have a4:Nat.beq b m=false:=by
  cases r:Nat.beq b m with
  |false=>rfl
  |true=>exact absurd (bE r) hbm
 refine wpF.cond (by rw[a1,a2,a3,a4];rfl) ?_;cases hs:qLQ ps with
 | nil=>
   rw[hs]at hK;exact wpF.ret (hK _ _ (.refl _) (.inl ⟨rfl,rfl⟩) λ_ _ _ _ h=>by cases h)
 | cons x l=>
   rw[hs]at hK;unfold qBc;refine wpF.bd (.const _) (λ_=>.const _) (wpF.cond (qP2 _) (wpF.nw (x:=.cells 42 (us32 (x::l))) ⟨rfl,rfl,qP2 _,λi hi=>by rw[Tr.get_ofListAt];simp[hi]⟩ λd hd=>wpF.ret ?_));refine hK _ _ (qHB hd) ?_ λb' o n c h=>by cases h;exact hd
   rw[qP5];exact Sl.mk (t:=false) (e:=42) qBa (by simp) (by simp)
end Go.AM.MU
namespace Go.AM.FE
open Go Go.Proofs Go.AM.TN Go.AM.MU
variable {s s' H:Hq} {v:AV} {M:Nat}
abbrev Ls:=Int×Nat×Nat
abbrev kvL(ls:List Ls):List Kv:=ls.map λe=>(e.1,AV.ptr e.2.1 0)
structure LT(H s:Hq)(M:Nat)(ls:List Ls)(ps:Int->List Int)(tr:Int->Bool):Prop where
 mp:s M=some (false,.map (gE 0 (kvL ls)) ls.length)
 nd:(ls.map (·.1)).Nodup
 bl:∀e∈ls,s e.2.1=some (false,.cells 103 [.map e.2.2,.bool (tr e.1)])
 bm:∀e∈ls,s e.2.2=some (false,.map (gE 0 (tS (ps e.1))) (ps e.1).length)
 dl:∀e∈ls,∀f∈ls,e.2.1=f.2.1->e=f
 dm:∀e∈ls,∀f∈ls,e.2.2=f.2.2->e=f
 nM:∀e∈ls,e.2.2≠M
 sub:Sub H s
 fM:H M=none
 fb:∀e∈ls,H e.2.1=none
 fm:∀e∈ls,H e.2.2=none
 pn:∀k,(ps k).Nodup
variable {ls ls':List Ls} {ps:Int→List Int} {tr:Int→Bool} {t:Int}
theorem qKk:(kvL ls).map (·.1)=ls.map (·.1):=by rw[List.map_map];rfl
theorem LT.look(z:LT H s M ls ps tr)(t:Int):(∃e∈ls,e.1=t/\getM s (.map M) (.int .u32 t)=some (some (.ptr e.2.1 0)))∨(t ∉ ls.map (·.1)/\getM s (.map M) (.int .u32 t)=some none):=by
 rw[gget z.mp];cases q:gOf (kvL ls) t with
 | none=>
   have:=qTR.1 q;rw[qKk]at this;exact .inr ⟨this,rfl⟩
 | some v=>
   obtain⟨e,he,h⟩:=List.mem_map.1 (qV0 q);cases h;exact .inl ⟨e,he,rfl,rfl⟩
def putL(t:Int)(b m:Nat):List Ls->List Ls
 |[]=>[(t,b,m)]
 |e::l=>if e.1=t then(t,b,m)::l else e::putL t b m l
theorem qQE{b m:Nat}:∀{ls:List Ls},kvL (putL t b m ls)=MU.putG t (.ptr b 0) (kvL ls)
 |[]=>rfl
 | e::ls=>by
   show kvL (putL t b m (e::ls))=MU.putG t (.ptr b 0) ((e.1,.ptr e.2.1 0)::kvL ls);unfold putL MU.putG
   by_cases h:e.1=t
   ·rw[if_pos h,if_pos h];rfl
   ·rw[if_neg h,if_neg h,<- qQE];rfl
theorem qFa{b m:Nat}:∀{ls:List Ls},(ls.map (·.1)).Nodup->∀{e},e∈putL t b m ls->e=(t,b,m)∨(e∈ls/\e.1≠t)
 | [],_,e,h=>by
   unfold putL at h;exact .inl (List.mem_singleton.1 h)
 | f::ls,nd,e,h=>by
   obtain⟨n1,n2⟩:=List.nodup_cons.1 nd;unfold putL at h
   by_cases hf:f.1=t
   ·rw[if_pos hf]at h
    rcases mC h with h|h
    ·exact .inl h
    ·refine .inr ⟨mO _ h,λq=>n1 ?_⟩
     show f.1∈ls.map (·.1);rw[hf,<- q];exact List.mem_map.2 ⟨e,h,rfl⟩
   ·rw[if_neg hf]at h
    rcases mC h with rfl|h
    ·exact .inr ⟨List.mem_cons_self,hf⟩
    ·rcases qFa n2 h with h|⟨h,h2⟩
     ·exact .inl h
     ·exact .inr ⟨mO _ h,h2⟩
theorem qWK{b m:Nat}{k:Int}:k∈(putL t b m ls).map (·.1)↔k=t∨k∈ls.map (·.1):=by rw[<- qKk,qQE,qNL,qKk]
theorem qUg{R:Hq->Prop}(z:LT H s M ls (λ_=>[]) (λ_=>false))(hR:∀s' ls',LT H s' M ls' (λ_=>[]) (λ_=>false)->(∀k,k∈ls'.map (·.1)↔k=t∨k∈ls.map (·.1))->R s'):
  mapK (λv_40 s_41=>oK (qBC [.nilmap,.bool false] [(0,1,v_40)]) λc_42=>boxK 103 (.agg c_42) (λb_43 s_44=>oK (putM s_44 (.map M) (.int .u32 t) b_43) R) s_41) s:=by
 intro m hm;have k1:Sub s (hset s m (false,.map [] 0)):=qHB hm;have m1:hset s m (false,.map [] 0) m=some (false,.map [] 0):=qBa;generalize hset s m (false,.map [] 0)=s1 at k1 m1;refine qAD (a:=[.map m,.bool false]) rfl ⟨rfl,qAK λb s2 hb h2 u2=>?_⟩;have k2:=u2.sub hb;have kk:=k1.trans k2;have h2:s2 b=some (false,.cells 103 [.map m,.bool false]):=h2;have m2:s2 m=some (false,.map [] 0):=k2 _ _ m1;have hMm:M≠m:=by rintro rfl;rw[z.mp]at hm;cases hm
 have hMb:M≠b:=by rintro rfl;rw[k1 _ _ z.mp]at hb;cases hb
 have hmb:m≠b:=by rintro rfl;rw[m1]at hb;cases hb
 have hb0:s b=none:=SG.qAv k1 hb;have mp2:=kk _ _ z.mp;rw[show ls.length=(kvL ls).length from(lMY _).symm]at mp2;refine gput mp2 λs3 h3 u3=>?_;rw[<- qQE (m:=m)]at h3;have nd':((putL t b m ls).map (·.1)).Nodup:=by rw[<- qKk,qQE (m:=m)];exact qXe (by rw[qKk];exact z.nd)
 have old:∀{e:Ls},e∈ls->e.2.1≠b/\e.2.2≠m:=fun {e} he=>⟨λq=>(by have:=z.bl e he;rw[q,hb0]at this;cases this),λq=>(by have:=z.bm e he;rw[q,hm]at this;cases this)⟩
 have nl:∀{e:Ls},e∈ls->e.2.1≠M:=fun {e} he q=>by have:=z.bl e he;rw[q,z.mp]at this;cases this
 refine hR s3 (putL t b m ls) ⟨?_,nd',λe he=>?_,λe he=>?_,λe he f hf q=>?_,λe he f hf q=>?_,λe he=>?_,λi e hi=>?_,z.fM,λe he=>?_,λe he=>?_,λ_=>.nil⟩ λk=>qWK
 ·rw[h3];simp
 ·rcases qFa z.nd he with rfl|⟨he,_⟩
  ·rw[u3 b hMb.symm];exact h2
  ·rw[u3 _ (nl he)];exact kk _ _ (z.bl e he)
 ·rcases qFa z.nd he with rfl|⟨he,_⟩
  ·rw[u3 m hMm.symm];exact m2
  ·rw[u3 _ (z.nM e he)];exact kk _ _ (z.bm e he)
 ·rcases qFa z.nd he with rfl|⟨he,_⟩<;>rcases qFa z.nd hf with rfl|⟨hf,_⟩
  ·rfl
  ·exact absurd q.symm (old hf).1
  ·exact absurd q (old he).1
  ·exact z.dl e he f hf q
 ·rcases qFa z.nd he with rfl|⟨he,_⟩<;>rcases qFa z.nd hf with rfl|⟨hf,_⟩
  ·rfl
  ·exact absurd q.symm (old hf).2
  ·exact absurd q (old he).2
  ·exact z.dm e he f hf q
 ·rcases qFa z.nd he with rfl|⟨he,_⟩
  ·exact hMm.symm
  ·exact z.nM e he
 ·rw[u3 i (λq=>by have:=z.fM;rw[<- q,hi]at this;cases this)]
  exact kk _ _ (z.sub i e hi)
 ·rcases qFa z.nd he with rfl|⟨he,_⟩
  ·exact SG.qAv z.sub hb0
  ·exact z.fb e he
 ·rcases qFa z.nd he with rfl|⟨he,_⟩
  ·exact SG.qAv z.sub hm
  ·exact z.fm e he
def upd{α:Type}(f:Int->α)(k:Int)(a:α):Int->α:=λi=>if i=k then a else f i
theorem LT.lm(z:LT H s M ls ps tr){f g:Ls}(hf:f∈ls)(hg:g∈ls):f.2.1≠g.2.2:=λq=>by have h1:=z.bl f hf;rw[q,z.bm g hg]at h1;cases h1
theorem LT.peer{s1 s2:Hq}{e:Ls}{x:Int}{w:Bool}(z:LT H s M ls ps tr)(he:e∈ls)(h1:s1 e.2.2=some (false,.map (gE 0 (tS (putS x (ps e.1)))) (tS (putS x (ps e.1))).length))(u1:Upto e.2.2 s s1)(h2:s2 e.2.1=some (false,.cells 103 [.map e.2.2,.bool w]))(u2:Upto e.2.1 s1 s2):
  LT H s2 M ls (upd ps e.1 (putS x (ps e.1))) (upd tr e.1 w):=by
 have key:∀{f:Ls},f∈ls->f.1=e.1->f=e:=fun {f} hf q=>by obtain⟨i,hi⟩:=List.mem_iff_getElem?.1 hf;obtain⟨j,hj⟩:=List.mem_iff_getElem?.1 he;obtain⟨a1,a2⟩:=gS hi;obtain⟨b1,b2⟩:=gS hj;have:i=j:=(List.getElem_inj (h₀:=by simpa using a1) (h₁:=by simpa using b1) z.nd).1 (by simp only[List.getElem_map,a2,b2];exact q);subst this;rw[hi]at hj;cases hj;rfl
 have lM:∀{f:Ls},f∈ls->f.2.1≠M:=fun {f} hf q=>by have:=z.bl f hf;rw[q,z.mp]at this;cases this
 have k2:∀{i:Nat},i≠e.2.1->i≠e.2.2->s2 i=s i:=fun {i} a b=>(u2 i a).trans (u1 i b);refine⟨?_,z.nd,λf hf=>?_,λf hf=>?_,z.dl,z.dm,z.nM,λi y hi=>?_,z.fM,z.fb,z.fm,λk=>?_⟩
 ·rw[k2 (Ne.symm (lM he)) (Ne.symm (z.nM e he))];exact z.mp
 ·by_cases q:f=e
  ·subst q
   rw[h2];simp[upd]
  ·have hk:f.1≠e.1:=λr=>q (key hf r)
   rw[k2 (λr=>q (z.dl f hf e he r)) (z.lm hf he),z.bl f hf];simp only[upd,if_neg hk]
 ·by_cases q:f=e
  ·subst q
   rw[u2 _ (Ne.symm (z.lm he he)),h1];simp[upd]
  ·have hk:f.1≠e.1:=λr=>q (key hf r)
   rw[k2 (Ne.symm (z.lm he hf)) (λr=>q (z.dm f hf e he r)),z.bm f hf];simp only[upd,if_neg hk]
 ·rw[k2 (λq=>by have:=z.fb e he;rw[<- q,hi]at this;cases this) (λq=>by have:=z.fm e he;rw[<- q,hi]at this;cases this)]
  exact z.sub i y hi
 ·unfold upd
  split
  ·exact zABt (z.pn _)
  ·exact z.pn k
noncomputable def offL(s:Hq)(M:Nat)(ls:List Ls):Hq:=λi=>by
 classical
 exact if i=M∨∃e∈ls,i=e.2.1∨i=e.2.2 then none else s i
theorem qR9{i:Nat}(h:¬(i=M∨∃e∈ls,i=e.2.1∨i=e.2.2)):offL s M ls i=s i:=by unfold offL;rw[if_neg h]
theorem qMX{i:Nat}(h:i=M∨∃e∈ls,i=e.2.1∨i=e.2.2):offL s M ls i=none:=by unfold offL;rw[if_pos h]
theorem LT.base{H2:Hq}(z:LT H s M ls ps tr)(k:Sub H2 H):LT H2 s M ls ps tr:=⟨z.mp,z.nd,z.bl,z.bm,z.dl,z.dm,z.nM,k.trans z.sub,SG.qAv k z.fM,λe he=>SG.qAv k (z.fb e he),λe he=>SG.qAv k (z.fm e he),z.pn⟩
theorem LT.re(z:LT H s M ls ps tr):LT (offL s M ls) s M ls ps tr:=⟨z.mp,z.nd,z.bl,z.bm,z.dl,z.dm,z.nM,λi y hi=>by
 by_cases h:i=M∨∃e∈ls,i=e.2.1∨i=e.2.2
 ·rw[qMX h]at hi;cases hi
 ·rw[qR9 h]at hi;exact hi,qMX (.inl rfl),λe he=>qMX (.inr ⟨e,he,.inl rfl⟩),λe he=>qMX (.inr ⟨e,he,.inr rfl⟩),z.pn⟩
theorem LT.old(z:LT H s M ls ps tr):Sub H (offL s M ls):=λi y hi=>by
 rw[qR9]
 ·exact z.sub i y hi
 ·rintro (rfl|⟨e,he,rfl|rfl⟩)
  ·rw[z.fM]at hi;cases hi
  ·rw[z.fb e he]at hi;cases hi
  ·rw[z.fm e he]at hi;cases hi
theorem LT.cell(z:LT H s M ls ps tr){i:Nat}{tg:Bool}{e:TypeId}{cs:List AV}(h:s i=some (tg,.cells e cs))(hn:∀m b,cs≠[.map m,.bool b]):offL s M ls i=some (tg,.cells e cs):=by
 rw[qR9]
 ·exact h
 ·rintro (rfl|⟨f,hf,rfl|rfl⟩)
  ·rw[z.mp]at h;cases h
  ·rw[z.bl f hf]at h
   cases h;exact hn _ _ rfl
  ·rw[z.bm f hf]at h;cases h
theorem LT.slice(z:LT H s M ls ps tr){v:AV}{k:IntKind}{l:List Int}(h:Sl s v (l.map (AV.int k))):Sl (offL s M ls) v (l.map (AV.int k)):=by
 rcases h with h|⟨b,o,cap,h1,h2,h3⟩
 ·exact .inl h
 ·refine .inr ⟨b,o,cap,h1,h2,λhl=>?_⟩
  obtain⟨t,e,cs,q1,q2,q3⟩:=h3 hl;refine⟨t,e,cs,z.cell q1 λm w hc=>?_,q2,q3⟩;have h0:0<(l.map (AV.int k)).length:=by
   cases l with
   |nil=>exact absurd rfl hl
   |cons x l=>simp
  have:=q3 0 h0;subst hc;rw[Nat.add_zero]at this;obtain⟨x,hx⟩:∃x,(l.map (AV.int k))[0]?=some (.int k x):=by
   cases l with
   |nil=>exact absurd rfl hl
   |cons x l=>exact⟨x,rfl⟩
  rw[hx]at this
  match o,this with
  | 0,h=>cases h
  | 1,h=>cases h
  |o+2,h=>cases h
theorem LT.to(z:LT H s M ls ps tr)(k:Sub s s'):LT H s' M ls ps tr:=⟨k _ _ z.mp,z.nd,λe he=>k _ _ (z.bl e he),λe he=>k _ _ (z.bm e he),z.dl,z.dm,z.nM,z.sub.trans k,z.fM,z.fb,z.fm,z.pn⟩
end Go.AM.FE
set_option maxRecDepth 100000
namespace Go.AM.FE
open Go Go.Proofs Go.AM.TN Go.AM.MU
variable {K:AV→Hq→Prop} {s s' H:Hq} {v:AV} {cs:List AV} {F:FG} {leaf:Int} {R:List SG.Rt} {ls:List Ls} {ps:Int→List Int} {tr:Int→Bool}
abbrev fT(F:FG)(leaf:Int):Int->SG.Rt->Bool:=FD.flT (flB F leaf) λr=>tgs r.cm
abbrev pL(F:FG)(leaf k:Int)(R:List SG.Rt):List Int:=FD.peersL (fT F leaf k) (λr:SG.Rt=>r.nx) R
abbrev tT(F:FG)(leaf k:Int)(R:List SG.Rt):Bool:=FD.treeT (flB F leaf) (λr:SG.Rt=>tgs r.cm) (λr=>r.tk == 3) R k
abbrev fld(F:FG)(leaf:Int)(R:List SG.Rt):List (Nat×List Int×Int):=FD.fldL (flB F leaf) (λr:SG.Rt=>tgs r.cm) (λr=>r.nx) (λr=>r.tk == 3) F.S F.B.length (tgtB F) leaf F.tr R
theorem qVd{k:Int}{r:SG.Rt}:pL F leaf k (R ++ [r])=if(flB F leaf r&&decide (k∈tgs r.cm))=true then FD.insL r.nx (pL F leaf k R)else pL F leaf k R:=FD.peers_snoc _ _ _ _ _ _
theorem qVm{k:Int}{r:SG.Rt}:tT F leaf k (R ++ [r])=(tT F leaf k R||((flB F leaf r&&decide (k∈tgs r.cm))&&(r.tk == 3))):=FD.treeT_snoc _ _ _ _ _ _
theorem qRF{S:List (List Int×List Int)}{T:Int->Int}{l k:Int}{i:Nat}{x:List Int×List Int}(hx:S[i]?=some x):FD.keyB (S.take (i+1)) T l k↔FD.keyB (S.take i) T l k∨(l∈x.1/\∃bd∈x.2,T bd=k):=by
 unfold FD.keyB;rw[List.take_add_one,hx];constructor
 ·rintro ⟨y,hy,h1,h2⟩
  rcases mP hy with hy|hy
  ·exact .inl ⟨y,hy,h1,h2⟩
  ·have:y=x:=by simpa using hy
   subst this;exact .inr ⟨h1,h2⟩
 ·rintro (⟨y,hy,h⟩|h)
  ·exact⟨y,List.mem_append_left _ hy,h⟩
  ·exact⟨x,List.mem_append_right _ (by simp),h⟩
theorem zABT(hd:DomOk F){a b:Int}(ha:0<=a)(han:a<(F.B.length:Int))(hb:0<=b)(hbn:b<(F.B.length:Int))(h:tgtB F a=tgtB F b):a=b:=by
 have key:∀(i j:Nat),i<j->j<F.B.length->tgtB F (i:Int)≠tgtB F (j:Int):=λi j hij hj e=>by have h1:F.B[i]?=some F.B[i]:=gEY (by omega);have h2:F.B[j]?=some F.B[j]:=gEY hj;rw[tgt_at h1,tgt_at h2]at e;refine(hd.row j _ h2).tg ?_;rw[<- e];refine List.mem_map.2 ⟨F.B[i],?_,rfl⟩;rw[List.mem_take_iff_getElem];exact⟨i,by omega,rfl⟩
 obtain⟨i,rfl⟩:∃i:Nat,a=(i:Int):=⟨a.toNat,by omega⟩
 obtain⟨j,rfl⟩:∃j:Nat,b=(j:Int):=⟨b.toNat,by omega⟩
 rcases Nat.lt_trichotomy i j with q|q|q
 ·exact absurd h (key i j q (by omega))
 ·rw[q]
 ·exact absurd h.symm (key j i q (by omega))
structure P2(F:FG)(leaf:Int)(R:List SG.Rt)(ls:List Ls)(ps:Int->List Int)(tr:Int->Bool):Prop where
 mem:∀k,k∈ls.map (·.1)->∀y,y∈ps k↔y∈pL F leaf k R
 tre:∀k,k∈ls.map (·.1)->tr k=tT F leaf k R
theorem P2.no{r:SG.Rt}{i:Nat}(h:P2 F leaf (R.take i) ls ps tr)(hr:R[i]?=some r)(hf:flB F leaf r=false):P2 F leaf (R.take (i+1)) ls ps tr:=by
 have e:R.take (i+1)=R.take i ++ [r]:=by rw[List.take_add_one,hr];rfl
 refine⟨λk hk y=>?_,λk hk=>?_⟩
 ·rw[e,qVd,if_neg (by rw[hf];simp)]
  exact h.mem k hk y
 ·rw[e,qVm,hf,Bool.false_and,Bool.false_and,Bool.or_false]
  exact h.tre k hk
structure P3(F:FG)(leaf:Int)(R:List SG.Rt)(r:SG.Rt)(T:List Int)(ls:List Ls)(ps:Int->List Int)(tr:Int->Bool):Prop where
 mem:∀k,k∈ls.map (·.1)->∀y,y∈ps k↔y∈pL F leaf k R∨(k∈T/\y=r.nx)
 tre:∀k,k∈ls.map (·.1)->tr k=(tT F leaf k R||(decide (k∈T)&&(r.tk == 3)))
theorem P3.start{r:SG.Rt}(h:P2 F leaf R ls ps tr):P3 F leaf R r [] ls ps tr:=
 ⟨λk hk y=>(h.mem k hk y).trans (by simp),λk hk=>by rw[h.tre k hk];simp⟩
theorem P3.done{r:SG.Rt}{i:Nat}(h:P3 F leaf (R.take i) r (tgs r.cm) ls ps tr)(hr:R[i]?=some r)(hf:flB F leaf r=true):P2 F leaf (R.take (i+1)) ls ps tr:=by
 have e:R.take (i+1)=R.take i ++ [r]:=by rw[List.take_add_one,hr];rfl
 refine⟨λk hk y=>?_,λk hk=>?_⟩
 ·rw[e,qVd,hf,Bool.true_and]
  by_cases q:k∈tgs r.cm
  ·rw[if_pos (by simpa using q),FD.insL_mem,h.mem k hk y]
   exact⟨λg=>g.elim .inr λg=>.inl g.2,λg=>g.elim (λg=>.inr ⟨q,g⟩) .inl⟩
  ·rw[if_neg (by simpa using q),h.mem k hk y]
   exact⟨λg=>g.elim id λg=>absurd g.1 q,.inl⟩
 ·rw[e,qVm,h.tre k hk,hf,Bool.true_and]
theorem P3.skip{r:SG.Rt}{T:List Int}{j:Nat}{t:Int}(h:P3 F leaf R r (T.take j) ls ps tr)(ht:T[j]?=some t)(hk:t ∉ ls.map (·.1)):P3 F leaf R r (T.take (j+1)) ls ps tr:=by
 have e:∀{k:Int},k∈ls.map (·.1)->(k∈T.take (j+1)↔k∈T.take j):=fun {k} hk2=>by
  rw[List.take_add_one,ht,List.mem_append]
  exact⟨λg=>g.elim id λg=>absurd (by have:k=t:=by simpa using g
                                     rw[<- this];exact hk2) hk,.inl⟩
 refine⟨λk hk2 y=>?_,λk hk2=>?_⟩
 ·rw[e hk2];exact h.mem k hk2 y
 ·rw[decide_eq_decide.2 (e hk2)];exact h.tre k hk2
theorem P3.put{r:SG.Rt}{T:List Int}{j:Nat}{t:Int}(h:P3 F leaf R r (T.take j) ls ps tr)(ht:T[j]?=some t)(hk:t∈ls.map (·.1)):P3 F leaf R r (T.take (j+1)) ls (upd ps t (putS r.nx (ps t))) (upd tr t (tr t||(r.tk == 3))):=by
 have e:∀{k:Int},(k∈T.take (j+1)↔k∈T.take j∨k=t):=fun {k}=>by rw[List.take_add_one,ht,List.mem_append];simp
 refine⟨λk hk2 y=>?_,λk hk2=>?_⟩
 ·rw[e]
  unfold upd
  by_cases q:k=t
  ·rw[if_pos q,qYk,<- q,h.mem k hk2 y]
   exact⟨λg=>g.elim (λg=>.inr ⟨.inr rfl,g⟩) λg=>g.elim .inl λg=>.inr ⟨.inl g.1,g.2⟩,λg=>g.elim (λg=>.inr (.inl g)) λg=>.inl g.2⟩
  ·rw[if_neg q,h.mem k hk2 y]
   exact⟨λg=>g.elim .inl λg=>.inr ⟨.inl g.1,g.2⟩,λg=>g.elim .inl λg=>.inr ⟨g.1.elim id λg=>absurd g q,g.2⟩⟩
 ·unfold upd
  by_cases q:k=t
  ·rw[if_pos q,decide_eq_true (e.2 (.inr q)),<- q,h.tre k hk2]
   cases tT F leaf k R<;>cases decide (k∈T.take j)<;>cases(r.tk == 3)<;>rfl
  ·rw[if_neg q,h.tre k hk2,decide_eq_decide.2 (show k∈T.take (j+1)↔k∈T.take j from e.trans ⟨λg=>g.elim id λg=>absurd g q,.inl⟩)]
abbrev FlE:=Nat×List Int×Int
def flC(bd:Int)(v:AV)(g:Int):List AV:=[.int .i64 bd,v,.int .u32 g]
def FlA(s:Hq)(v:AV)(L:List FlE):Prop:=∃rows:List (List AV),SlR 3 s v rows/\rows.length=L.length/\∀(j:Nat) (e:FlE),L[j]?=some e->∃w,rows[j]?=some (flC (e.1:Int) w e.2.2)/\Sl s w (e.2.1.map (AV.int .u32))
theorem FlA.sub{L:List FlE}(h:FlA s v L)(k:Sub s s'):FlA s' v L:=by obtain⟨rows,h1,h2,h3⟩:=h;exact⟨rows,h1.sub k,h2,λj e hj=>by obtain⟨w,a,b⟩:=h3 j e hj;exact⟨w,a,b.sub k⟩⟩
theorem FlA.nil:FlA s .nilslc []:=⟨[],⟨by simp,.inl ⟨rfl,rfl⟩⟩,rfl,λj e h=>by simp at h⟩
def OwF(H t:Hq)(w:AV)(L:List FlE):Prop:=∃(sb:Hq) (rows:List (List AV)),Sub H sb/\Sub sb t/\AccR 44 3 sb t w rows/\rows.length=L.length/\∀(j:Nat) (e:FlE),L[j]?=some e->∃u,rows[j]?=some (flC (e.1:Int) u e.2.2)/\Sl sb u (e.2.1.map (AV.int .u32))
theorem OwF.fin{w:AV}{L:List FlE}(h:OwF H s w L):FlA s w L:=by obtain⟨sb,rows,_,h2,h3,h4,h5⟩:=h;exact⟨rows,h3.sl,h4,λj e hj=>by obtain⟨u,a,b⟩:=h5 j e hj;exact⟨u,a,b.sub h2⟩⟩
theorem OwF.sub{w:AV}{L:List FlE}(h:OwF H s w L)(k:Sub s s'):OwF H s' w L:=by obtain⟨sb,rows,h1,h2,h3,h4,h5⟩:=h;exact⟨sb,rows,h1,h2.trans k,h3.sub k,h4,h5⟩
theorem OwF.old{w:AV}{L:List FlE}(h:OwF H s w L):Sub H s:=by obtain⟨sb,rows,h1,h2,_⟩:=h;exact h1.trans h2
theorem zABr{w:AV}{rows:List (List AV)}{sb t t2:Hq}(h:AccR 44 3 sb t w rows)(hs:Sub sb t)(k:Sub t t2):Sub sb (offV w t2)/\Sub (offV w t2) t2/\AccR 44 3 (offV w t2) t2 w rows:=by
 refine⟨λi y hi=>?_,qKd,h.1,?_⟩
 ·rw[qFr λb o n c e q=>?_]
  ·exact k _ _ (hs i y hi)
  ·rcases h.2 with⟨r,_⟩|⟨d,h0,r,_⟩
   ·rw[r]at q;cases q
   ·rw[r]at q;cases q
    exact qDG h0 hi
 ·rcases h.2 with h|⟨d,h0,r,h1⟩
  ·exact .inl h
  ·refine .inr ⟨d,?_,r,k _ _ h1⟩
   rw[r];exact if_pos rfl
theorem OwF.put{t t2:Hq}{w wv y:AV}{L:List FlE}{e:FlE}(h:OwF H t w L)(k:Sub t t2)(hs:Sl t2 wv (e.2.1.map (AV.int .u32)))(hfr:∀b o n c,wv=.slc b o n c 1->t b=none)(hy:SlR 3 t2 y [flC (e.1:Int) wv e.2.2])(hl:L.length<=1000)(hK:∀v' s',OwF H s' v' (L ++ [e])->K v' s'):appK 44 3 w y K t2:=by
 obtain⟨sb,rows,h1,h2,h3,h4,h5⟩:=h;obtain⟨o1,o2,o3⟩:=zABr h3 h2 k;have hs':Sl (offV w t2) wv (e.2.1.map (AV.int .u32)):=by
  rcases hs with hs|⟨b,o,cap,q1,q2,q3⟩
  ·exact .inl hs
  ·refine .inr ⟨b,o,cap,q1,q2,λhne=>?_⟩
   obtain⟨tg,el,cs,g1,g2⟩:=q3 hne;refine⟨tg,el,cs,?_,g2⟩;rw[qFr λb' o' n c e' q=>?_]
   ·exact g1
   ·rcases h3.2 with⟨r,_⟩|⟨d,_,r,hd⟩
    ·rw[r]at q;cases q
    ·rw[r]at q
     cases q;rintro rfl;rw[hfr _ _ _ _ q1]at hd;cases hd
 refine o3.app hy (by simp) (by rw[h4];simp;omega) o2 λv' s' a q=>hK v' s' ⟨offV w t2,_,h1.trans o1,q,a,by simp[h4],λj f hj=>?_⟩
 by_cases hjl:j<L.length
 ·rw[List.getElem?_append_left hjl]at hj
  obtain⟨u,a1,a2⟩:=h5 j f hj;exact⟨u,by rw[List.getElem?_append_left (by rw[h4];exact hjl)];exact a1,a2.sub o1⟩
 ·have hj2:j=L.length:=by
   have:=(gS hj).1;simp at this;omega
  subst hj2;rw[List.getElem?_append_right (Nat.le_refl _),Nat.sub_self]at hj;cases hj;exact⟨wv,by rw[<- h4,List.getElem?_append_right (Nat.le_refl _),Nat.sub_self];rfl,hs'⟩
end Go.AM.FE
set_option maxRecDepth 100000
namespace Go.AM.FC
open Go Go.Proofs
variable {K:AV→Hq→Prop} {s s0:Hq} {v:AV} {l:List Int}
def xorW(x y:Int):Int:=qAw .u32 ((BitVec.ofInt (IntKind.bits .u32) x ^^^ BitVec.ofInt (IntKind.bits .u32) y).toNat:Nat)
theorem qUK{x y:Int}:qAB .xor (.int .u32 x) (.int .u32 y)=some (.int .u32 (xorW x y)):=by simp[qAB,arith,qBq,xorW]
def hs1(h b:Int):Int:=IntKind.u32.wrap (xorW h (qAw .u32 b)*16777619)
def hsh:Int->List Int->Int
 |h,[]=>h
 |h,b::r=>hsh (hs1 h b) r
theorem zABR(h:Int):∀(a b:List Int),hsh h (a++b)=hsh (hsh h a) b:=by
 intro a
 induction a generalizing h with
 |nil=>intro b;rfl
 |cons x r ih=>intro b;exact ih (hs1 h x) b
theorem qYn{h:Int}{i:Nat}(hi:i<l.length):hsh h (l.take (i+1))=hs1 (hsh h (l.take i)) l[i]:=by rw[List.take_add_one,gEY hi,zABR];rfl
theorem cvI{k k':IntKind}{n:Int}:qB6 k (.int k' n)=some (.int k (qAw k n)):=rfl
def numB(v:Int):Nat->List Int
 | 0=>[]
 |n+1=>qAw .u8 (v.fdiv ((2^(8*n):Nat):Int))::numB v n
theorem qGE(v:Int):∀n,(numB v n).length=n
 | 0=>rfl
 |n+1=>by rw[numB,List.length_cons,qGE v n]
theorem shr_b{v:Int}{m:Nat}(hm:m<=64):qCj .shr (.int .u64 v) (.int .i64 (m:Int))=some (.int .u64 (v.fdiv ((2^m:Nat):Int))):=by show frc (v.fdiv ((2^(min m (IntKind.bits .u64)):Nat):Int)) (λn=>some (AV.int .u64 n))=_;rw[qBq,Nat.min_eq_left (show m<=IntKind.bits .u64 from hm)]
abbrev b8(l:List Int):List AV:=l.map (AV.int .u8)
theorem Acc_sub{elem:TypeId}{s0 s s':Hq}{l:List AV}(h:Acc elem s0 s v l)(hs:Sub s s'):Acc elem s0 s' v l:=by
 rcases h with h|⟨b,h0,rfl,h⟩
 ·exact .inl h
 ·exact .inr ⟨b,h0,rfl,hs _ _ h⟩
theorem qVi{elem:TypeId}:Acc elem s0 s .nilslc (b8 []):=.inl ⟨rfl,rfl⟩
theorem zAA5{z:AV}{x:Int}{C:AV->Hq->Prop}(hz:z.one=true)(h:Acc 5 s0 s v (b8 l))(hs:Sub s0 s)(hl:l.length<=1000)(hK:∀v' s',Acc 5 s0 s' v' (b8 (l ++ [x]))->Sub s0 s'->C v' s'):
  oK (qBC (repl 1 [z]) [(0,1,.int .u8 x)]) λc=>qAZ c=true/\newK 5 c (λb s'=>appK 5 1 v (.slc b 0 1 (some 1) 1) C s') s:=by
 refine qHc hz rfl λb s1 hb h1 u1=>?_;have k1:=hs.trans (u1.sub hb);refine(Acc_sub h (u1.sub hb)).app (m:=[.int .u8 x]) (Sl.mk h1 rfl (by simp)) (by simp) (by simp;omega) (λi hi=>?_) λv' s' a k=>?_
 ·cases e:s0 i with
  |none=>exact absurd e hi
  |some y=>rw[k1 _ _ e];simp
 ·refine hK v' s' (by rw[b8,List.map_append];exact a) λi e hi=>k i e (k1 i e hi) λb' hv=>?_
  rintro rfl;rcases h with⟨rfl,_⟩|⟨b2,h0,rfl,_⟩
  ·cases hv
  ·cases hv
   rw[h0]at hi;cases hi
theorem qLo{n:Int}{k:Nat}(hk:k<=8)(h:Acc 5 s0 s v (b8 l))(hs:Sub s0 s)(hl:l.length<=500)(hK:∀v' s',Acc 5 s0 s' v' (b8 (l++numB n k))->Sub s0 s'->K v' s'):wC TP XX 51 [v,.int .u64 n,.int .i64 (k:Int)] K s:=by
 refine qNd ?_;simp only[qLt,qBs,qAA];rw[qAV (by omega) (by omega)];refine⟨λys t m=>∃(w:AV) (l1:List Int) (j:Nat),ys=[w,.int .i64 ((j:Int)-1)]/\Acc 5 s0 t w (b8 l1)/\Sub s0 t/\j<=k/\m=j/\l1.length+j=l.length+k/\l++numB n k=l1++numB n j,⟨_,v,l,k,rfl,h,hs,by omega,rfl,rfl,rfl⟩,?_⟩;rintro f t m ⟨w,l1,j,hy,h1,k1,hj,rfl,he,hq⟩;simp only[cI,and_true]at hy;rw[hy.1,hy.2];simp only[qI8,qAr,qAA];refine qAE (λhge=>?_) (λhlt=>?_)
 ·have hge:0<=(m:Int)-1:=oT hge
  obtain⟨j,rfl⟩:∃j,m=j+1:=⟨m-1,by omega⟩
  have e8:(8:Int)*(((j+1:Nat):Int)-1)=((8*j:Nat):Int):=by omega
  simp only[qIn,qAA];rw[qAV (by omega) (by omega),e8,shr_b (by omega)];simp only[cvI,qAA];refine zAA5 rfl h1 k1 (by omega) λv' s' a q=>?_;simp only[qBs,qAA];rw[qAV (by omega) (by omega)];exact⟨j,by omega,_,_,j,by congr 3;omega,a,q,by omega,rfl,by simp;omega,by rw[hq,numB,List.append_assoc];rfl⟩
 ·have hlt:¬(0<=(m:Int)-1):=oF hlt
  have:m=0:=by omega
  subst this;refine hK _ _ ?_ k1;rw[hq];simpa [numB]using h1
theorem zABb(h:Sl s v (b8 l))(hl:l.length<=1000)(hK:K (.int .u32 (hsh 2166136261 l)) s):wC TP XX 52 [v] K s:=by
 refine qHb ?_;unfold qFf;have n1:qAP v=some l.length:=by rw[h.len,lMY]
 simp only[n1,qAA];refine⟨λys t m=>∃i:Nat,ys=[.int .u32 (hsh 2166136261 (l.take i)),.int .i64 (i:Int)]/\t=s/\i<=l.length/\m=l.length-i,⟨_,0,rfl,rfl,by omega,rfl⟩,?_⟩;rintro f t m ⟨i,hy,rfl,hi,rfl⟩;simp only[cI,and_true]at hy;rw[hy.1,hy.2];simp only[qEd,qAQ,qAA];refine qAE (λhlt=>?_) (λhge=>?_)
 ·have hlt:i<l.length:=by have:=oT hlt;omega
  obtain⟨p,e1,e2⟩:=h.get (i:=i) (by rw[lMY];exact hlt);rw[List.getElem?_map,gEY hlt]at e2;simp only[e1,e2,Option.map_some,cvI,qUK,qIn,qAN,qAA];rw[qAV (by omega) (by omega)];exact⟨_,by omega,i+1,by rw[qYn hlt];rfl,(by trivial),by omega,rfl⟩
 ·have hge:i=l.length:=by have:=oF hge;omega
  subst hge;rw[List.take_length];exact hK
end Go.AM.FC
set_option maxRecDepth 100000
namespace Go.AM.FC
open Go Go.Proofs Go.AM.TN
variable {K:AV→Hq→Prop} {s s' s0 T U:Hq} {v:AV} {l:List Int}
theorem fill_one{zs c:List AV}(h:c.length=zs.length):qBC (repl 1 zs) [(0,zs.length,.agg c)]=some c:=by
 have e0:repl 1 zs=zs:=by simp[repl]
 rw[e0];have e2:Nat.beq c.length zs.length=true:=by rw[h];exact Nat.beq_refl _
 have e3:Nat.ble (0+c.length) zs.length=true:=bL (by omega);simp only[qBC,qKo,e2,e3,Bool.and_self,cond_true];unfold qBZ;rw[List.take_zero,List.nil_append,List.drop_eq_nil_of_le (by omega),List.append_nil]
theorem one_row{es:Nat}{e:TypeId}{b:Nat}{t:Bool}{r:List AV}(h:s b=some (t,.cells e r))(hl:r.length=es):SlR es s (.slc b 0 1 (some 1) es) [r]:=
 SlR.mk (λx hx=>by rw[List.mem_singleton.1 hx];exact hl) (by simpa using h) rfl (λc e=>by cases e;simp)
theorem cut1(h:Sub s0 s):Sub s0 (cutH [(s,add s U)] (add s U)):=λi e hi=>qPw (h i e hi) (qAi (h i e hi))
theorem cut2(h:Sub s0 s)(h1:Sub s T)(h2:Sub T U):Sub s0 (cutH [(s,T),(T,U)] U):=λi e hi=>by
 rw[qQ9]
 ·exact h2 _ _ (h1 _ _ (h _ _ hi))
 ·intro p hp
  simp only[List.mem_cons,List.not_mem_nil,or_false]at hp;rcases hp with rfl|rfl
  ·show s i=T i
   rw[h _ _ hi,h1 _ _ (h _ _ hi)]
  ·show T i=U i
   rw[h1 _ _ (h _ _ hi),h2 _ _ (h1 _ _ (h _ _ hi))]
structure Fr where
 src:Int
 dst:Int
 kind:Int
 a3:Int
 a4:Int
 a5:Int
 a6:Int
 a7:Int
 hs:Int
 hd:Int
 a10:Int
 pr:Int
 p1:Int
 p2:Int
 data:Int
def frC(x:Fr):List AV:=[.int .u64 x.src,.int .u64 x.dst,.int .i64 x.kind,.int .i64 x.a3,.int .u64 x.a4,.int .u32 x.a5,.int .u64 x.a6,.int .u32 x.a7,.int .u32 x.hs,.int .u32 x.hd,.int .i64 x.a10,.int .i64 x.pr,.int .i64 x.p1,.int .i64 x.p2,.int .u64 x.data]
def flwI(x:Fr):List Int:=numB (qAw .u64 x.hs) 4++numB (qAw .u64 x.hd) 4++numB (qAw .u64 x.pr) 1++numB (qAw .u64 x.p1) 2++numB (qAw .u64 x.p2) 2
def flwE(x:Fr):List Int:=numB x.src 6++numB x.dst 6++numB (qAw .u64 x.kind) 1
def flw(x:Fr):List Int:=if x.kind=2 then flwI x else flwE x
theorem qY1(x:Fr):(flwI x).length=13:=by simp only[flwI,lAp,qGE]
theorem qZZ(x:Fr):(flwE x).length=13:=by simp only[flwE,lAp,qGE]
def ent(x:Fr):Int:=IntKind.i64.wrap (49152+qAw .i64 ((hsh 2166136261 (flw x)).tmod 16384))
variable {x:Fr}
theorem qVQ{X:AV->Hq->Prop}(hf:Acc 5 s0 s v (b8 (flw x)))(hl:(flw x).length<=1000)(hX:X (.int .i64 (ent x)) s):qBx XX v X s:=by unfold qBx;refine zABb hf.sl hl ?_;simp only[qNO (show(16384:Int)≠0 by decide),cvI,qAN,qAA];exact hX
theorem qWR(x:Fr):(flw x).length=13:=by unfold flw;split;exact qY1 x;exact qZZ x
theorem qUD(hK:∀s',Sub s s'->K (.int .i64 (ent x)) s'):wC TP XX 23 [.agg (frC x)] K s:=by
 refine qJ1 ⟨rfl,qAK λb s1 hb h1 u1=>?_⟩;have k1:=u1.sub hb;have h1:s1 b=some (false,.cells 52 (frC x)):=h1;have r2:rd1 s1 (.ptr b 2)=some (.int .i64 x.kind):=by rw[qAL h1];rfl
 simp only[qAG,zA,qAA,r2,qAa,qAX,Bool.false_bne];cases q:(x.kind == 2)with
 | true=>
   have q:x.kind=2:=eq_of_beq q;simp only[qAY];refine qAD (a:=[.int .u32 x.hs,.int .u32 x.hd,.int .i64 x.a10,.int .i64 x.pr,.int .i64 x.p1,.int .i64 x.p2]) (by simp only[rdN,h1];rfl) (qAK λc s13 hc h13 u13=>qAT h13 rfl rfl rfl λs14 h14 u14=>?_);have k14:Sub s1 s14:=qAW (u13.sub hc) u14 hc;have rd:∀{t:Hq},Sub s14 t->∀i,rd1 t (.ptr c i)=[AV.int .u32 x.hs,.int .u32 x.hd,.int .i64 x.a10,.int .i64 x.pr,.int .i64 x.p1,.int .i64 x.p2][i]?:=λk i=>qAL (k _ _ h14);have g:∀{t:Hq}{w:AV}{l:List Int},Acc 5 s14 t w (b8 l)->Sub s14 t->flw x=l->qBx XX w K t:=fun {t w l} a k e=>by subst e;exact qVQ a (by rw[qWR];omega) (hK _ (k1.trans (k14.trans k)))
   simp only[qAA,rd (.refl _),g0Y,cvI];refine qLo (k:=4) (by omega) qVi (.refl _) (by simp) λw4 s4 a4 k4=>?_;simp only[qAA,rd k4,g1Y,g0Y,cvI];refine qLo (k:=4) (by omega) a4 k4 (by simp[qGE]) λw5 s5 a5 k5=>?_;simp only[qAA,rd k5,g1Y,g0Y,cvI];refine qLo (k:=1) (by omega) a5 k5 (by simp[qGE]) λw6 s6 a6 k6=>?_;simp only[qAA,rd k6,g1Y,g0Y,cvI];refine qLo (k:=2) (by omega) a6 k6 (by simp[qGE]) λw7 s7 a7 k7=>?_;simp only[qAA,rd k7,g1Y,g0Y,cvI];refine qLo (k:=2) (by omega) a7 k7 (by simp[qGE]) λw8 s8 a8 k8=>?_;exact g a8 k8 (by unfold flw;rw[if_pos q];rfl)
 | false=>
   have q:¬x.kind=2:=by simpa using q
   simp only[qAO];have rd:∀{t:Hq},Sub s1 t->∀i,rd1 t (.ptr b i)=(frC x)[i]?:=λk i=>qAL (k _ _ h1);have g:∀{t:Hq}{w:AV}{l:List Int},Acc 5 s1 t w (b8 l)->Sub s1 t->flw x=l->qBx XX w K t:=fun {t w l} a k e=>by subst e;exact qVQ a (by rw[qWR];omega) (hK _ (k1.trans k))
   simp only[qAA,rd (.refl _),frC,g0Y];refine qLo (k:=6) (by omega) qVi (.refl _) (by simp) λw4 s4 a4 k4=>?_;simp only[qAA,rd k4,frC,g1Y,g0Y];refine qLo (k:=6) (by omega) a4 k4 (by simp[qGE]) λw5 s5 a5 k5=>?_;simp only[qAA,rd k5,frC,g1Y,g0Y,cvI];refine qLo (k:=1) (by omega) a5 k5 (by simp[qGE]) λw6 s6 a6 k6=>?_;exact g a6 k6 (by unfold flw;rw[if_neg q];rfl)
end Go.AM.FC
set_option maxRecDepth 100000
namespace Go.AM.FE
open Go Go.Proofs Go.AM.TN Go.AM.MU
variable {K:AV→Hq→Prop} {s s' H t:Hq} {v:AV} {F:FG} {leaf:Int} {M b0:Nat} {R:List SG.Rt} {v2 v3 v4 v5 v6 v7:AV} {ls:List Ls} {ps:Int→List Int} {tr:Int→Bool} {t0:Bool}
theorem qU2{ρ:Type}(f:ρ->Bool)(nx:ρ->Int)(R:List ρ):(FD.peersL f nx R).length<=R.length:=by
 have key:∀(R:List ρ) (p:List Int),(R.foldl (λp r=>if f r then FD.insL (nx r) p else p) p).length<=p.length+R.length:=by
  intro R
  induction R with
  |nil=>intro p;simp
  | cons r R ih=>
    intro p;rw[List.foldl_cons,List.length_cons];have h1:=ih (if f r then FD.insL (nx r) p else p);have h2:(if f r then FD.insL (nx r) p else p).length<=p.length+1:=by
     split
     ·exact FD.insL_len
     ·omega
    omega
 have:=key R [];unfold FD.peersL;simpa using this
theorem zADB{l:List Int}(h:l.Pairwise (· < ·)):l.Nodup:=h.imp λh e=>by omega
theorem qWJ{k:Int}{l:List Int}(hn:l.Nodup)(hm:∀y,y∈l↔y∈pL F leaf k R):qLQ l=pL F leaf k R/\l.length<=R.length:=by have ha:(pL F leaf k R).Pairwise (· < ·):=FD.peersL_asc _ _ _;have hp:l.Perm (pL F leaf k R):=(List.perm_ext_iff_of_nodup hn (zADB ha)).2 hm;exact⟨qNg ((qLI l).trans hp) (qIh l) (ha.imp λh=>Int.le_of_lt h),by rw[hp.length_eq];exact qU2 _ _ _⟩
def fldG(F:FG)(leaf:Int)(R:List SG.Rt)(i:Nat):Option FlE:=if FD.carB F.S leaf (i:Int)then some (i,pL F leaf (tgtB F (i:Int)) R,if F.tr&&tT F leaf (tgtB F (i:Int)) R then 4009754625+(i:Int)else 0)else none
def fldN(F:FG)(leaf:Int)(R:List SG.Rt)(n:Nat):List FlE:=(List.range n).filterMap (fldG F leaf R)
theorem fldN_all:fldN F leaf R F.B.length=fld F leaf R:=rfl
theorem fldN_succ{n:Nat}:fldN F leaf R (n+1)=fldN F leaf R n++(fldG F leaf R n).toList:=by
 unfold fldN;rw[List.range_succ,List.filterMap_append]
 congr 1
theorem fldN_len:∀n,(fldN F leaf R n).length<=n:=λn=>by have:=List.length_filterMap_le (fldG F leaf R) (List.range n);rw[List.length_range]at this;exact this
theorem zACH{i:Int}{v:AV}(hv:v.one=true):qBC [(.int .i64 0),.nilslc,(.int .u32 0)] [(0,1,.int .i64 i),(1,1,v)]=some (flC i v 0):=by cases v<;>first|rfl|cases hv
theorem grp{i:Nat}(h:i<32):qB6 .u32 (.int .i64 (i:Int))=some (.int .u32 (i:Int))/\IntKind.u32.wrap (4009754625+(i:Int))=4009754625+(i:Int):=by
 have w:∀n:Int,0<=n->n<4294967296->qAw .u32 n=n:=λn h1 h2=>by simp only[qAw];rw[qDs _ _ _ (by omega) (by omega)];split<;>omega
 refine⟨?_,by rw[<- qBY];exact w _ (by omega) (by omega)⟩;show some (AV.int .u32 (qAw .u32 (i:Int)))=_;rw[w _ (by omega) (by omega)]
theorem ph3(hv:Valid F)(h0:t b0=some (t0,.cells 31 (csG F v2 v3 v4 v5 v6 v7)))(hL:FL t F v2 v3 v4 v5 v6 v7)(z:LT H t M ls ps tr)(p:P2 F leaf R ls ps tr)(hkeys:∀k,k∈ls.map (·.1)↔FD.keyB F.S (tgtB F) leaf k)(hRl:R.length<=60)
  (hK:∀v' s',Sub t s'->FlA s' v' (fld F leaf R)->K v' s') :
  oK (qAF 4 (.ptr b0 0)) λv_93=>oK (rd1 t v_93) λv_94=>oK (qAP v_94) λv_95=>∃I10:List AV->Hq->Nat->Prop,(∃m,I10 [.nilslc,(.int .i64 0)] t m)/\∀(f:Env) (s:Hq) (m10:Nat),I10 [f 20,f 125] s m10->
   qE0 XX (.ptr b0 0) (.map M) (f 20) v_94 (.int .i64 v_95) (f 125) I10 m10 K s:=by
 have hd:DomOk F:=hv 4 (by omega);have hsg:SegOk F:=hv 5 (by omega);have n4:qAP v4=some F.B.length:=by rw[hL.B.len,lMY]
 have h32:=hd.n;simp only[qAG,zA,qAA,qAL h0,csG4,n4];refine⟨λys t' m=>∃(i:Nat) (w:AV),ys=[w,.int .i64 (i:Int)]/\i<=F.B.length/\m=F.B.length-i/\OwF t t' w (fldN F leaf R i),⟨_,0,_,rfl,by omega,rfl,t,[],.refl _,.refl _,⟨by simp,.inl ⟨rfl,rfl⟩⟩,rfl,λj e h=>by simp[fldN]at h⟩,?_⟩;rintro f t' m ⟨i,w,hy,hi,rfl,ow⟩;simp only[cI,and_true]at hy;rw[hy.1,hy.2];clear hy;have kt:=ow.old;simp only[qE0,qAQ,qAA];refine qAE (λhlt=>?_) (λhge=>?_)
 rotate_left
 ·have hge:i=F.B.length:=by have:=oF hge;omega
  subst hge;exact hK _ _ kt ow.fin
 have hlt:i<F.B.length:=by have:=oT hlt;omega
 obtain⟨y,hyB⟩:∃y,F.B[i]?=some y:=⟨_,gEY hlt⟩
 obtain⟨pb,po,e1,e2,_⟩:=(hL.B.sub kt).get (i:=i) (r:=bgC y) (by rw[List.getElem?_map,hyB];rfl);simp only[e1,e2,qAA];refine qAK λb1 s2 hb1 h2 u2=>qAT h2 rfl rfl rfl λs3 h3 u3=>?_;have k3:Sub t' s3:=qAW (u2.sub hb1) u3 hb1;have k3t:=kt.trans k3;have z3:=z.to k3t;have r2:rd1 s3 (.ptr b1 2)=some (.int .u32 (tgtB F (i:Int))):=by rw[qAL h3,tgt_at hyB];rfl
 simp only[qAG,zA,r2,qAA];have hcar:tgtB F (i:Int)∈ls.map (·.1)↔FD.carB F.S leaf (i:Int)=true:=(hkeys _).trans (FD.keyB_iff (n:=(F.B.length:Int)) (λa b h1 h2 h3 h4 h5=>zABT hd h1 h2 h3 h4 h5) (λx hx b hb=>(hsg.row x hx).2.1.2 b hb) (by omega) (by omega));have next:∀{tt:Hq}{w':AV},OwF t tt w' (fldN F leaf R (i+1))->qDk XX w' (.int .i64 (i:Int)) (λys t' m=>∃(i:Nat) (w:AV),ys=[w,.int .i64 (i:Int)]/\i<=F.B.length/\m=F.B.length-i/\OwF t t' w (fldN F leaf R i)) (F.B.length-i) K tt:=fun {tt w'} ow'=>by unfold qDk;simp only[qAN,qAA];rw[qAV (by omega) (by omega)];exact⟨_,by omega,i+1,w',rfl,by omega,rfl,ow'⟩
 rcases z3.look (tgtB F (i:Int))with⟨e,he,hek,hg⟩|⟨hno,hg⟩
 rotate_left
 ·rw[hg]
  simp only[qAA,retM,cond_false,qOn,qAX,Bool.false_bne,qAY];refine next ?_;have:fldG F leaf R i=none:=by unfold fldG;rw[if_neg (λq=>hno (hcar.2 q))]
  rw[fldN_succ,this,Option.toList_none,List.append_nil];exact ow.sub k3
 rw[hg];have hmem:e.1∈ls.map (·.1):=List.mem_map.2 ⟨e,he,rfl⟩;obtain⟨hsort,hlen⟩:=qWJ (z.pn e.1) (p.mem e.1 hmem);have l1:=z3.bl e he;simp only[qAA,retM,cond_false,qVX,qAX,Bool.false_bne,qAO,qCN,qAG,zA,qAL l1,g0Y];refine qDH (qKy rfl λbx s4 hbx h4 u4=>?_);have k4:=u4.sub hbx;refine sorted_in (t1:=false) (t2:=false) h4 (k4 _ _ (z3.bm e he)) (by omega) λu s5 k5 hu hfr=>?_;rw[hsort]at hu;have k35:=k4.trans k5;refine qAD (zACH hu.one) (qAK λb2 s6 hb2 h6 u6=>qAT h6 rfl rfl (by simp[flC,hu.one]) λs7 h7 u7=>?_);have k57:Sub s5 s7:=qAW (u6.sub hb2) u7 hb2;have k37:=k35.trans k57;have h07:=k37 _ _ (k3t _ _ h0);have n2:t' b2=none:=SG.qAv (k3.trans k35) hb2;have gfr:∀b o n c,u=.slc b o n c 1->t' b=none:=λb o n c q=>SG.qAv (k3.trans k4) (hfr b o n c q);have ggr:=grp (i:=i) (by omega);have c12:(csG F v2 v3 v4 v5 v6 v7)[12]?=some (.bool F.tr):=id rfl;have hgi:∀g:Int,(if F.tr&&tT F leaf (tgtB F (i:Int)) R then 4009754625+(i:Int)else 0)=g->fldN F leaf R (i+1)=fldN F leaf R i ++ [(i,pL F leaf (tgtB F (i:Int)) R,g)]:=λg hg=>by
  rw[fldN_succ]
  congr 1
  unfold fldG;rw[if_pos (hcar.1 (by rw[<- hek];exact hmem)),hg];rfl
 have put:∀{tt:Hq}{g:Int},Sub s5 tt->tt b2=some (false,.cells 44 (flC (i:Int) u g))->(if F.tr&&tT F leaf (tgtB F (i:Int)) R then 4009754625+(i:Int)else 0)=g->qDr XX w (.ptr b2 0) (.int .i64 (i:Int)) (λys t' m=>∃(i:Nat) (w:AV),ys=[w,.int .i64 (i:Int)]/\i<=F.B.length/\m=F.B.length-i/\OwF t t' w (fldN F leaf R i)) (F.B.length-i) K tt:=fun {tt g} kk hb hg=>by unfold qDr;refine qAD (qAb hb rfl) (qAD (a:=flC (i:Int) u g) (FC.fill_one rfl) ⟨by simp[flC,hu.one],qAK λb3 s8 hb3 h8 u8=>?_⟩);have k8:=kk.trans (u8.sub hb3);have hle:=fldN_len (F:=F) (leaf:=leaf) (R:=R) i;refine ow.put (e:=(i,pL F leaf (tgtB F (i:Int)) R,g)) (k3.trans (k35.trans k8)) (by rw[<- hek];exact hu.sub k8) gfr (FC.one_row h8 rfl) (by omega) λv' s' ow'=>?_;rw[<- hgi g hg]at ow';exact next ow'
 simp only[qAL h07,c12,qAA];have htre:=p.tre e.1 hmem;rw[hek]at htre;have h7':s7 b2=some (false,.cells 44 (flC (i:Int) u 0)):=h7;cases c1:F.tr with
 | false=>
   simp only[qAO,qDp,qAU,qAA];exact put k57 h7' (by rw[c1];rfl)
 | true=>
   have l7:=k37 _ _ l1;have r1:rd1 s7 (.ptr e.2.1 1)=some (.bool (tr e.1)):=by rw[qAL l7];rfl
   simp only[qAY,qAG,zA,r1,qAA,qDp,qAc];rw[hek,htre];refine qAE (λc2=>?_) (λc2=>?_)
   ·simp only[ggr.1,qAN,qAA,ggr.2]
    refine qA9 h7' (by simp[flC]) rfl λs8 h8 u8=>?_;have n5:s5 b2=none:=hb2;exact put (qAW k57 u8 n5) h8 (by rw[c1,c2];rfl)
   ·exact put k57 h7' (by rw[c1,c2];rfl)
end Go.AM.FE
set_option maxRecDepth 100000
namespace Go.AM.FE
open Go Go.Proofs Go.AM.TN Go.AM.MU
variable {K:AV→Hq→Prop} {s s' H t:Hq} {v p q m:AV} {F:FG} {leaf:Int} {M b0:Nat} {R:List SG.Rt} {v2 v3 v4 v5 v6 v7:AV} {ls:List Ls} {ps:Int→List Int} {tr:Int→Bool} {t0:Bool} {r:SG.Rt}
theorem zAEK{bR i:Nat}{vT:AV}{I5:List AV->Hq->Nat->Prop}{m5:Nat}(z:LT H t M ls ps tr)(hr:R[i]?=some r)(hfl:flB F leaf r=true)(hp:P2 F leaf (R.take i) ls ps tr)(hT:Sl t vT ((tgs r.cm).map (AV.int .u32)))(hTl:(tgs r.cm).length<=20)(hb:t bR=some (false,.cells 81 (r.row p q m)))
  (hN:∀t' ps' tr',LT H t' M ls ps' tr'->P2 F leaf (R.take (i+1)) ls ps' tr'->qC9 XX (.int .i64 (i:Int)) I5 m5 K t') :
  oK (qAP vT) λv_66=>∃I7:List AV->Hq->Nat->Prop,(∃m,I7 [(.int .i64 0)] t m)/\∀(f:Env) (s:Hq) (m7:Nat),I7 [f 90] s m7->qFR XX (.map M) (.ptr bR 0) (.int .i64 (i:Int)) vT (.int .i64 v_66) (f 90) I7 m7 I5 m5 K s:=by
 have nT:qAP vT=some (tgs r.cm).length:=by rw[hT.len];simp
 have asc:(tgs r.cm).Pairwise (· < ·):=FD.insAll_asc _;have done:∀{ps' tr'},P3 F leaf (R.take i) r (tgs r.cm) ls ps' tr'->P2 F leaf (R.take (i+1)) ls ps' tr':=λh=>h.done hr hfl;generalize tgs r.cm=T at *;simp only[nT,qAA];have hb':=z.cell hb λa b h=>by have:=congrArg List.length h;rw[r.row_len]at this;simp at this
 have hT':=z.slice hT;refine⟨λys t' m=>∃(j:Nat) (ps':Int->List Int) (tr':Int->Bool),ys=[.int .i64 (j:Int)]/\j<=T.length/\m=T.length-j/\LT (offL t M ls) t' M ls ps' tr'/\P3 F leaf (R.take i) r (T.take j) ls ps' tr',⟨_,0,ps,tr,rfl,by omega,rfl,z.re,.start hp⟩,?_⟩;rintro f t' m' ⟨j,ps',tr',hy,hj,rfl,z',p3⟩;simp only[cI,and_true]at hy;rw[hy];clear hy;have hT2:=hT'.sub z'.sub;have hb2:=z'.sub _ _ hb';simp only[qFR,qAQ,qAA];refine qAE (λhlt=>?_) (λhge=>?_)
 rotate_left
 ·have hge:j=T.length:=by have:=oF hge;omega
  subst hge;rw[List.take_length]at p3;exact hN t' ps' tr' (z'.base z.old) (done p3)
 have hlt:j<T.length:=by have:=oT hlt;omega
 obtain⟨k,hk⟩:∃k,T[j]?=some k:=⟨_,gEY hlt⟩
 obtain⟨a,e1,e2⟩:=hT2.get (i:=j) (by simp;exact hlt);rw[List.getElem?_map,hk]at e2;have next:∀{tt:Hq}{ps2:Int->List Int}{tr2:Int->Bool},LT (offL t M ls) tt M ls ps2 tr2->P3 F leaf (R.take i) r (T.take (j+1)) ls ps2 tr2->qCQ XX (.int .i64 (j:Int)) (λys t' m=>∃(j:Nat) (ps':Int->List Int) (tr':Int->Bool),ys=[.int .i64 (j:Int)]/\j<=T.length/\m=T.length-j/\LT (offL t M ls) t' M ls ps' tr'/\P3 F leaf (R.take i) r (T.take j) ls ps' tr') (T.length-j) I5 m5 K tt:=fun {tt ps2 tr2} z2 p2=>by unfold qCQ;simp only[qAN,qAA];rw[qAV (by omega) (by omega)];exact⟨_,by omega,j+1,ps2,tr2,rfl,by omega,rfl,z2,p2⟩
 simp only[e1,e2,Option.map_some,qAA];rcases z'.look k with⟨e,he,hek,hg⟩|⟨hno,hg⟩
 rotate_left
 ·rw[hg]
  simp only[qAA,retM,cond_false,qOn,qAX,Bool.true_bne,Bool.not_true,qAO];exact next z' (p3.skip hk hno)
 rw[hg];have hmem:k∈ls.map (·.1):=by rw[<- hek];exact List.mem_map.2 ⟨e,he,rfl⟩
 have l1:=z'.bl e he;have lm:=z'.bm e he;rw[show(ps' e.1).length=(tS (ps' e.1)).length from(lMY _).symm]at lm;simp only[qAA,retM,cond_false,qVX,qAX,Bool.true_bne,Bool.not_false,qAY,qCN,qAG,zA,Nat.reduceAdd,qAL l1,g0Y,qAL hb2,zACO];refine gput lm λs1 h1 u1=>?_;rw[qVw]at h1;have l2:s1 e.2.1=some (false,.cells 103 [.map e.2.2,.bool (tr' e.1)]):=by rw[u1 _ (z'.lm he he)];exact l1
 have hb3:s1 bR=some (false,.cells 81 (r.row p q m)):=by rw[u1 _ (by rintro rfl;rw[z'.bm e he]at hb2;cases hb2)];exact hb2
 have r1:rd1 s1 (.ptr e.2.1 1)=some (.bool (tr' e.1)):=by rw[qAL l2];rfl
 have fin:∀{w:Bool},w=(tr' e.1||(r.tk == 3))->qCQ XX (.int .i64 (j:Int)) (λys t' m=>∃(j:Nat) (ps':Int->List Int) (tr':Int->Bool),ys=[.int .i64 (j:Int)]/\j<=T.length/\m=T.length-j/\LT (offL t M ls) t' M ls ps' tr'/\P3 F leaf (R.take i) r (T.take j) ls ps' tr') (T.length-j) I5 m5 K (hset s1 e.2.1 (false,.cells 103 [.map e.2.2,.bool w])):=fun {w} hw=>by refine next (z'.peer he h1 u1 qBa (λi hi=>qAx hi)) ?_;rw[hw,hek];exact p3.put hk hmem
 have wr:∀{w:Bool},w=(tr' e.1||(r.tk == 3))->oK (wr1 s1 (.ptr e.2.1 1) (.bool w)) λs_87=>qCQ XX (.int .i64 (j:Int)) (λys t' m=>∃(j:Nat) (ps':Int->List Int) (tr':Int->Bool),ys=[.int .i64 (j:Int)]/\j<=T.length/\m=T.length-j/\LT (offL t M ls) t' M ls ps' tr'/\P3 F leaf (R.take i) r (T.take j) ls ps' tr') (T.length-j) I5 m5 K s_87:=fun {w} hw=>by rw[zAAh l2 (by simp) rfl];exact fin hw
 simp only[r1,qAA];cases c1:tr' e.1 with
 | true=>
   simp only[qAY,qD6,qAc,qAA,qCN,qAG,zA];exact wr (by rw[c1];rfl)
 | false=>
   simp only[qAO,qAG,zA,qAA,qAL hb3,zADK,qAa,qAX,Bool.false_bne,qD6,qAU,qCN];exact wr (by rw[c1];rfl)
theorem ph2(hv:Valid F)(hH0:H b0=some (t0,.cells 31 (csG F v2 v3 v4 v5 v6 v7)))(hL:FL H F v2 v3 v4 v5 v6 v7)(hR:SG.Rts H v R)(hG:SG.GlK H)(hok:∀r∈R,r.ok)(hRl:R.length<=60)(z:LT H t M ls (λ_=>[]) (λ_=>false))(hkeys:∀k,k∈ls.map (·.1)↔FD.keyB F.S (tgtB F) leaf k)
  (hK:∀v' s',Sub H s'->FlA s' v' (fld F leaf R)->K v' s') :
  oK (qAP v) λv_47=>∃I5:List AV->Hq->Nat->Prop,(∃m,I5 [(.int .i64 0)] t m)/\∀(f:Env) (s:Hq) (m5:Nat),I5 [f 76] s m5->qFS XX (.int .i64 leaf) (.ptr b0 0) (.map M) v (.int .i64 v_47) (f 76) I5 m5 K s:=by
 simp only[hR.len,qAA];refine⟨λys t' m=>∃(i:Nat) (ps:Int->List Int) (tr:Int->Bool),ys=[.int .i64 (i:Int)]/\i<=R.length/\m=R.length-i/\LT H t' M ls ps tr/\P2 F leaf (R.take i) ls ps tr,⟨_,0,_,_,rfl,by omega,rfl,z,⟨λk _ y=>by simp[pL,FD.peersL],λk _=>by simp[tT,FD.treeT]⟩⟩,?_⟩;rintro f t1 m' ⟨i,ps,tr,hy,hi,rfl,z1,p2⟩;simp only[cI,and_true]at hy;rw[hy];clear hy;have k1:=z1.sub;simp only[qFS,qAQ,qAA];refine qAE (λhlt=>?_) (λhge=>?_)
 rotate_left
 ·have hge:i=R.length:=by have:=oF hge;omega
  subst hge;rw[List.take_length]at p2;exact ph3 hv (k1 _ _ hH0) (hL.sub k1) z1 p2 hkeys hRl λv' s' k h=>hK v' s' (k1.trans k) h
 have hlt:i<R.length:=by have:=oT hlt;omega
 obtain⟨r,hr⟩:∃r,R[i]?=some r:=⟨_,gEY hlt⟩
 obtain⟨pb,po,p,q,m,e1,e2,_,hrt⟩:=(hR.sub k1).get hr;have hrok:=hok r (mG hr);simp only[e1,e2,qAA];refine qAK λbR s2 hbR h2 u2=>qAT h2 rfl rfl hrt.one λs3 h3 u3=>?_;have k3:Sub t1 s3:=qAW (u2.sub hbR) u3 hbR;have h3:s3 bR=some (false,.cells 81 (r.row p q m)):=h3;have kH:=k1.trans k3;refine qAD (qAb (kH _ _ hH0) rfl) (qAD (qAb h3 rfl) ?_);refine qVp ⟨v2,v3,v4,v5,v6,v7,rfl,hL.sub kH⟩ (hrt.sub k3) λs4 k4=>?_;have next:∀{tt:Hq}{ps2:Int->List Int}{tr2:Int->Bool},LT H tt M ls ps2 tr2->P2 F leaf (R.take (i+1)) ls ps2 tr2->qC9 XX (.int .i64 (i:Int)) (λys t' m=>∃(i:Nat) (ps:Int->List Int) (tr:Int->Bool),ys=[.int .i64 (i:Int)]/\i<=R.length/\m=R.length-i/\LT H t' M ls ps tr/\P2 F leaf (R.take i) ls ps tr) (R.length-i) K tt:=fun {tt ps2 tr2} z2 p2=>by unfold qC9;simp only[qAN,qAA];rw[qAV (by omega) (by omega)];exact⟨_,by omega,i+1,ps2,tr2,rfl,by omega,rfl,z2,p2⟩
 simp only[qAq,qAA];refine qAE (λc=>?_) (λc=>?_)
 ·exact next (z1.to (k3.trans k4)) (p2.no hr (by simpa using c))
 ·have c:flB F leaf r=true:=by simpa using c
  have h4:=k4 _ _ h3;simp only[qAG,zA,Nat.reduceAdd,qAA,qAL h4,zAEU];refine qUP ((hrt.sub k3).cm.sub k4) (hG.sub (kH.trans k4)) (λc hc=>hrok.1 c hc) (by have:=hrok.2.2.2;omega) λvT s5 k5 hT=>?_;exact zAEK ((z1.to (k3.trans k4)).to k5) hr c p2 hT (Nat.le_trans zABy hrok.2.2.2) (k5 _ _ h4) λt' ps' tr' z' p'=>next z' p'
end Go.AM.FE
set_option maxRecDepth 100000
namespace Go.AM.FE
open Go Go.Proofs Go.AM.TN Go.AM.MU
variable {K:AV→Hq→Prop} {s s' H t:Hq} {v p q m:AV} {cs:List AV} {F:FG} {leaf:Int} {M b0:Nat} {R:List SG.Rt} {v2 v3 v4 v5 v6 v7:AV} {ls:List Ls} {t0:Bool}
theorem ph1(hv:Valid F)(hH0:H b0=some (t0,.cells 31 (csG F v2 v3 v4 v5 v6 v7)))(hL:FL H F v2 v3 v4 v5 v6 v7)(hR:SG.Rts H v R)(hG:SG.GlK H)(hok:∀r∈R,r.ok)(hRl:R.length<=60)(hN:∀x∈F.S,x.1.length<=20/\x.2.length<=20)(z:LT H t M [] (λ_=>[]) (λ_=>false))
  (hK:∀v' s',Sub H s'->FlA s' v' (fld F leaf R)->K v' s') :
  oK (qAF 5 (.ptr b0 0)) λv_13=>oK (rd1 t v_13) λv_14=>oK (qAP v_14) λv_15=>∃I2:List AV->Hq->Nat->Prop,(∃m,I2 [(.int .i64 0)] t m)/\∀(f:Env) (s:Hq) (m2:Nat),I2 [f 47] s m2->
   qFK XX (.int .i64 leaf) v (.ptr b0 0) (.map M) v_14 (.int .i64 v_15) (f 47) I2 m2 K s:=by
 have hd:DomOk F:=hv 4 (by omega);have hsg:SegOk F:=hv 5 (by omega);have n5:qAP v5=some F.S.length:=hL.S.len;have hS64:=hsg.n;simp only[qAG,zA,qAA,qAL (z.sub _ _ hH0),csG5,n5];refine⟨λys t' m=>∃(i:Nat) (ls:List Ls),ys=[.int .i64 (i:Int)]/\i<=F.S.length/\m=F.S.length-i/\LT H t' M ls (λ_=>[]) (λ_=>false)/\∀k,k∈ls.map (·.1)↔FD.keyB (F.S.take i) (tgtB F) leaf k,⟨_,0,[],rfl,by omega,rfl,z,λk=>by simp[FD.keyB]⟩,?_⟩;rintro f t1 m' ⟨i,ls,hy,hi,rfl,z1,hk⟩;simp only[cI,and_true]at hy;rw[hy];clear hy;have k1:=z1.sub;simp only[qFK,qAQ,qAA];refine qAE (λhlt=>?_) (λhge=>?_)
 rotate_left
 ·have hge:i=F.S.length:=by have:=oF hge;omega
  subst hge;rw[List.take_length]at hk;exact ph2 hv hH0 hL hR hG hok hRl z1 hk hK
 have hlt:i<F.S.length:=by have:=oT hlt;omega
 obtain⟨x,hx⟩:∃x,F.S[i]?=some x:=⟨_,gEY hlt⟩
 have hxm:=mG hx;have hrow:=hsg.row x hxm;obtain⟨n1,n2⟩:=hN x hxm;obtain⟨pb,po,l1,l2,e1,e2,_,_,g1,g2⟩:=(hL.S.sub k1).at hx;simp only[e1,e2,qAA];have hone:qAZ [l1,l2]=true:=by simp[g1.one,g2.one]
 refine qAK λb2 s2 hb2 h2 u2=>qAT h2 rfl rfl hone λs3 h3 u3=>?_;have k3:Sub t1 s3:=qAW (u2.sub hb2) u3 hb2;have r1:rd1 s3 (.ptr b2 0)=some l1:=by rw[qAL h3];rfl
 have r2:rd1 s3 (.ptr b2 1)=some l2:=by rw[qAL h3];rfl
 simp only[qAG,zA,r1,qAA];refine qNn XX_0 (by omega) (g1.sub k3) ?_;have next:∀{tt:Hq}{ls2:List Ls},LT H tt M ls2 (λ_=>[]) (λ_=>false)->(∀k,k∈ls2.map (·.1)↔FD.keyB (F.S.take (i+1)) (tgtB F) leaf k)->qD8 XX (.int .i64 (i:Int)) (λys t' m=>∃(i:Nat) (ls:List Ls),ys=[.int .i64 (i:Int)]/\i<=F.S.length/\m=F.S.length-i/\LT H t' M ls (λ_=>[]) (λ_=>false)/\∀k,k∈ls.map (·.1)↔FD.keyB (F.S.take i) (tgtB F) leaf k) (F.S.length-i) K tt:=fun {tt ls2} z2 h2=>by unfold qD8;simp only[qAN,qAA];rw[qAV (by omega) (by omega)];exact⟨_,by omega,i+1,ls2,rfl,by omega,rfl,z2,h2⟩
 refine qAE (λc=>?_) (λc=>?_)
 rotate_left
 ·have c:leaf ∉ x.1:=oF c
  exact next (z1.to k3) λk=>(hk k).trans ((qRF hx).trans ⟨λg=>g.elim id λg=>absurd g.1 c,.inl⟩).symm
 have c:leaf∈x.1:=oT c;have nl:qAP l2=some x.2.length:=by rw[g2.len,qE9]
 simp only[r2,qAA,nl];have z3:=z1.to k3;have hsl:=z3.slice (g2.sub k3);refine⟨λys t' m=>∃(j:Nat) (ls2:List Ls),ys=[.int .i64 (j:Int)]/\j<=x.2.length/\m=x.2.length-j/\LT H t' M ls2 (λ_=>[]) (λ_=>false)/\Sl t' l2 (ix x.2)/\∀k,k∈ls2.map (·.1)↔FD.keyB (F.S.take i) (tgtB F) leaf k∨∃bd∈x.2.take j,tgtB F bd=k,⟨_,0,ls,rfl,by omega,rfl,z3,g2.sub k3,λk=>(hk k).trans ⟨.inl,λg=>g.elim id λ⟨bd,h,_⟩=>by simp at h⟩⟩,?_⟩;rintro f4 t4 m4 ⟨j,ls2,hy,hj,rfl,z4,sl4,hk4⟩;simp only[cI,and_true]at hy;rw[hy];clear hy;simp only[qHQ,qAQ,qAA];refine qAE (λhlt4=>?_) (λhge4=>?_)
 rotate_left
 ·have hge4:j=x.2.length:=by have:=oF hge4;omega
  subst hge4;rw[List.take_length]at hk4;exact next z4 λk=>(hk4 k).trans ((qRF hx).trans ⟨λg=>g.elim .inl λg=>.inr g.2,λg=>g.elim .inl λg=>.inr ⟨c,g⟩⟩).symm
 have hlt4:j<x.2.length:=by have:=oT hlt4;omega
 obtain⟨bd,hbd⟩:∃bd,x.2[j]?=some bd:=⟨_,gEY hlt4⟩
 have hbr:=hrow.2.1.2 bd (mG hbd);obtain⟨a,c1,c2⟩:=sl4.get (i:=j) (by rw[qE9];exact hlt4);rw[ix,List.getElem?_map,hbd]at c2;obtain⟨n,rfl⟩:∃n:Nat,bd=(n:Int):=⟨bd.toNat,by omega⟩
 have hn:n<F.B.length:=by omega
 obtain⟨y,hyB⟩:∃y,F.B[n]?=some y:=⟨_,gEY hn⟩
 obtain⟨pb4,po4,d1,_,d3⟩:=(hL.B.sub z4.sub).get (i:=n) (r:=bgC y) (by rw[List.getElem?_map,hyB];rfl);have d4:rd1 t4 (.ptr pb4 (po4+2))=some (.int .u32 (tgtB F (n:Int))):=by rw[d3 2 (by omega),tgt_at hyB];rfl
 simp only[c1,c2,Option.map_some,qAG,zA,qAA,qAL (z4.sub _ _ hH0),csG4,d1,d4];have slH:Sl (offL t4 M ls2) l2 (ix x.2):=z4.slice sl4;refine qUg (z4.re) λs6 ls3 z6 h6=>?_;simp only[qAN,qAA];rw[qAV (by omega) (by omega)];refine⟨_,by omega,j+1,ls3,rfl,by omega,rfl,z6.base z4.old,slH.sub z6.sub,λk=>(h6 k).trans ?_⟩;rw[hk4 k,List.take_add_one,hbd];constructor
 ·rintro (g|g|⟨b,g1,g2⟩)
  ·exact .inr ⟨(n:Int),List.mem_append_right _ (by simp),g.symm⟩
  ·exact .inl g
  ·exact .inr ⟨b,List.mem_append_left _ g1,g2⟩
 ·rintro (g|⟨b,g1,g2⟩)
  ·exact .inr (.inl g)
  ·rcases mP g1 with g1|g1
   ·exact .inr (.inr ⟨b,g1,g2⟩)
   ·have:b=(n:Int):=by simpa using g1
    subst this;exact .inl g2.symm
def Fv(F:FG)(leaf:Int):Prop:=Valid F/\0<=leaf/\leaf<F.lf
theorem Lists_in(z:Sz F)(hN:∀x∈F.S,x.1.length<=20/\x.2.length<=20)(hF:FabR s cs F)(hR:SG.Rts s v R)(hG:SG.GlK s)(hok:∀r∈R,r.ok)(hRl:R.length<=60)(h0:¬Fv F leaf->∀s',Sub s s'->K .nilslc s')(hK:Fv F leaf->∀v' s',Sub s s'->FlA s' v' (fld F leaf R)->K v' s'):wC TP XX 12 [.agg cs,.int .i64 leaf,v] K s:=by
 obtain⟨v2,v3,v4,v5,v6,v7,rfl,hL⟩:=hF;refine qLP ⟨hL.all,qAK λb0 s1 hb0 q1 u1=>?_⟩;have q1:s1 b0=some (false,.cells 31 (csG F v2 v3 v4 v5 v6 v7)):=q1;have k1:=u1.sub hb0;refine qAD (qAb q1 rfl) (qPN z ⟨v2,v3,v4,v5,v6,v7,rfl,hL.sub k1⟩ (λhv s4 k4=>?_) (λhv e p i s4 he k4=>?_))
 rotate_left
 ·refine qAD (a:=.int .i64 e) rfl (qAD (a:=.str p) rfl (qAD (a:=.int .i64 i) rfl ?_))
  have:(e == 0)=false:=by simpa using he
  simp only[qAa,this,qAX,Bool.true_bne,Bool.not_false,qAA,qAY,qC8,qAc,qCO];exact h0 (λq=>hv q.1) s4 (k1.trans k4)
 refine qAD (a:=.int .i64 0) rfl (qAD (a:=.str ⟨#[]⟩) rfl (qAD (a:=.int .i64 0) rfl ?_));have k14:=k1.trans k4;have q4:=k4 _ _ q1;simp only[qAa,beq_self_eq_true,qAX,Bool.true_bne,Bool.not_true,qAA,qAO,qAQ];cases c1:decide (leaf<0)with
 | true=>
   simp only[qC8,qCO,qAc,qAU,qAY,qAA];exact h0 (λq=>by have:=oT c1;have:=q.2.1;omega) s4 k14
 |false=>
 simp only[qC8,qAU,qAO,qAA,qAG,zA,qAL q4,csG0,qAr];cases c2:decide (F.lf<=leaf)with
 | true=>
   simp only[qCO,qAU,qAY,qAA];exact h0 (λq=>by have:=oT c2;have:=q.2.2;omega) s4 k14
 |false=>
 have hfv:Fv F leaf:=⟨hv,by have:=oF c1;omega,by have:=oF c2;omega⟩
 simp only[qCO,qAU,qAO,qAA];intro M hM;have kM:Sub s4 (hset s4 M (false,.map [] 0)):=qHB hM;have hMM:hset s4 M (false,.map [] 0) M=some (false,.map [] 0):=qBa;generalize hset s4 M (false,.map [] 0)=s5 at kM hMM;have z0:LT s4 s5 M [] (λ_=>[]) (λ_=>false):=⟨hMM,.nil,λe h=>(by cases h),λe h=>(by cases h),λe h=>(by cases h),λe h=>(by cases h),λe h=>(by cases h),kM,hM,λe h=>(by cases h),λe h=>(by cases h),λ_=>.nil⟩
 exact ph1 hv q4 (hL.sub k14) (hR.sub k14) (hG.sub k14) hok hRl hN z0 λv' s' k h=>hK hfv v' s' (k14.trans k) h
end Go.AM.FE
set_option maxRecDepth 100000
namespace Go.AM.FC
open Go Go.Proofs Go.AM.TN
variable {K:AV→Hq→Prop} {s s' T U:Hq} {v w:AV} {cs:List AV} {F:FG} {x:Fr} {v2 v3 v4 v5 v6 v7:AV} {leaf bd g mk:Int} {P:List Int}
theorem qVt(z:Sz F)(hF:FabR s cs F)(hK:∀b s',Sub s s'->(b=true↔Valid F)->K (.bool b) s'):wC TP XX 75 [.agg cs] K s:=by
 obtain⟨v2,v3,v4,v5,v6,v7,rfl,hL⟩:=hF;refine qSm ⟨hL.all,qAK λb s1 hb h1 u1=>?_⟩;have h1:s1 b=some (false,.cells 31 (csG F v2 v3 v4 v5 v6 v7)):=h1;have k1:=u1.sub hb;refine qAD (qAb h1 rfl) (qPN z ⟨v2,v3,v4,v5,v6,v7,rfl,hL.sub k1⟩ (λhv s4 k4=>?_) (λhv e p i s4 he k4=>?_))
 ·refine qAD (a:=.int .i64 0) rfl (qAD (a:=.str ⟨#[]⟩) rfl (qAD (a:=.int .i64 0) rfl ?_))
  simp only[qAa,qAX,Bool.false_bne,qAA];exact hK _ s4 (k1.trans k4) (by simp[hv])
 ·refine qAD (a:=.int .i64 e) rfl (qAD (a:=.str p) rfl (qAD (a:=.int .i64 i) rfl ?_))
  simp only[qAa,qAX,Bool.false_bne,qAA];exact hK _ s4 (k1.trans k4) (by simp[hv,he])
def Vb(F:FG)(bd:Int):Prop:=Valid F/\0<=bd/\bd<(F.B.length:Int)
theorem fvalid_in(z:Sz F)(hF:FabR s cs F)(hK:∀b s',Sub s s'->(b=true↔Vb F bd)->K (.bool b) s'):wC TP XX 43 [.agg cs,.int .i64 bd] K s:=by
 obtain⟨v2,v3,v4,v5,v6,v7,rfl,hL⟩:=hF;refine qLM ⟨hL.all,qAK λb s1 hb h1 u1=>?_⟩;have h1:s1 b=some (false,.cells 31 (csG F v2 v3 v4 v5 v6 v7)):=h1;have k1:=u1.sub hb;have fin:∀{s4:Hq}{e:Int}{p:ByteArray}{i:Int},Sub s1 s4->((e == 0)=true↔Valid F)->oK (qAh (.tup [.int .i64 e,.str p,.int .i64 i]) 0) λv_5=>oK (qAh (.tup [.int .i64 e,.str p,.int .i64 i]) 1) λv_6=>oK (qAh (.tup [.int .i64 e,.str p,.int .i64 i]) 2) λv_7=>oK (negB false (eqV 0 true v_5 (.int .i64 0))) λv_8=>qAJ v_8
  (oK (qAB .geq (.int .i64 bd) (.int .i64 0)) λv_16=>qCP XX (.int .i64 bd) (.ptr b 0) v_8 v_16 K s4) (qCP XX (.int .i64 bd) (.ptr b 0) v_8 .undef K s4):=fun {s4 e p i} k4 he=>by
   refine qAD (a:=.int .i64 e) rfl (qAD (a:=.str p) rfl (qAD (a:=.int .i64 i) rfl ?_));simp only[qAa,qAX,Bool.false_bne,qAA,qAr];have no:¬Vb F bd->K (.bool false) s4:=λh=>hK false s4 (k1.trans k4) ⟨λq=>(by cases q),λq=>absurd q h⟩;have hL4:=hL.sub (k1.trans k4);have n4:qAP v4=some F.B.length:=by rw[hL4.B.len,lMY]
   have q4:=k4 _ _ h1;cases e0:(e == 0)with
   | false=>
     simp only[qAO,qCP,qAU,qDF,qAA];exact no λq=>by have:=he.2 q.1;rw[e0]at this;cases this
   |true=>
   simp only[qAY,qCP,qAc,qAA];refine qAE (λq=>?_) (λq=>?_)
   ·simp only[qAG,zA,qAA,qAL q4,csG4,n4,qAQ,qDF,q,qAc]
    refine hK _ s4 (k1.trans k4) ?_;rw[decide_eq_true_iff];exact⟨λh=>⟨he.1 e0,oT q,h⟩,λh=>h.2.2⟩
   ·simp only[qDF,q,qAU,qAA]
    exact no λh=>absurd h.2.1 (oF q)
 refine qAD (qAb h1 rfl) (qPN z ⟨v2,v3,v4,v5,v6,v7,rfl,hL.sub k1⟩ (λhv s4 k4=>?_) (λhv e p i s4 he k4=>?_))
 ·exact fin k4 (by simp[hv])
 ·exact fin k4 (by simp[hv,he])
def lb(n:Int):Int:=if n<0∨32<=n then 0 else IntKind.u32.wrap (IntKind.u32.wrap (184483840+qAw .u32 n)+1)
theorem loop_in{n:Int}(hK:∀e,K (.tup [.int .u32 (lb n),.int .i64 e]) s):wC TP XX 50 [.int .i64 n] K s:=by
 refine qJ7 ?_;simp only[qIL,qAQ,qAr,qAA];have bad:(n<0∨32<=n)->K (.tup [.int .u32 0,.int .i64 2]) s:=λh=>by have:=hK 2;unfold lb at this;rw[if_pos h]at this;exact this
 refine qAE (λq=>?_) (λq=>?_)
 ·simp only[qDR,q,qAc,qAA,qAY]
  exact bad (.inl (oT q))
 ·simp only[qDR,q,qAU,qAA]
  refine qAE (λq2=>bad (.inr (oT q2))) (λq2=>?_);simp only[cvI,qAN,qAA];have:=hK 0;unfold lb at this;rw[if_neg (by have:=oF q;have:=oF q2;omega)]at this;exact this
theorem qY5{n:Int}(hK:K (.int .u32 (lb n)) s):wC TP XX 77 [.int .i64 n] K s:=by refine qOI (loop_in λe=>?_);exact qAD (a:=.int .u32 (lb n)) rfl (qAD (a:=.int .i64 e) rfl hK)
theorem qSy(z:Sz F)(hv:Valid F)(h0:0<=leaf)(h1:leaf<F.lf)(hF:FabR s cs F)(hK:∀s',Sub s s'->K (.int .u32 (lb leaf)) s'):wC TP XX 44 [.agg cs,.int .i64 leaf] K s:=by obtain⟨v2,v3,v4,v5,v6,v7,rfl,hL⟩:=hF;refine qON ⟨hL.all,qAK λb s1 hb q1 u1=>?_⟩;have q1:s1 b=some (false,.cells 31 (csG F v2 v3 v4 v5 v6 v7)):=q1;have k1:=u1.sub hb;have hf:FabOk F:=hv 0 (by omega);have:=hf.sum;have:=hf.lf;have:=hf.sp;refine qAD (qAb q1 rfl) (qVt z ⟨v2,v3,v4,v5,v6,v7,rfl,hL.sub k1⟩ λb s4 k4 hb=>?_);rw[hb.2 hv];have q4:=k4 _ _ q1;simp only[qAq,Bool.not_true,qAO,qAA,qAG,zA,qAL q4,csG0,csG1,qAN];rw[qAV (by omega) (by omega)];refine qFe XX_0 ?_;rw[qKm.2 ⟨h0,by omega⟩];simp only[qAq,Bool.not_true,qAA,qHI,qAU,qAO];exact qY5 (hK s4 (k1.trans k4))
def pk(a e vni mk:Int)(x:Fr)(d:Int):List AV:=[.int .u32 a,.int .u32 d,.int .i64 16,.int .i64 e,.int .u32 vni,.int .u32 mk,.int .u64 x.src,.int .u64 x.dst,.int .i64 x.kind,.int .i64 x.a3,.int .u64 x.a4,.int .u32 x.a5,.int .u64 x.a6,.int .u32 x.a7,.int .u32 x.hs,.int .u32 x.hd,.int .i64 x.a10,.int .i64 x.pr,.int .i64 x.p1,.int .i64 x.p2,.int .u64 x.data]
abbrev pk0:List AV:=[(.int .u32 0),(.int .u32 0),(.int .i64 0),(.int .i64 0),(.int .u32 0),(.int .u32 0),(.int .u64 0),(.int .u64 0),(.int .i64 0),(.int .i64 0),(.int .u64 0),(.int .u32 0),(.int .u64 0),(.int .u32 0),(.int .u32 0),(.int .u32 0),(.int .i64 0),(.int .i64 0),(.int .i64 0),(.int .i64 0),(.int .u64 0)]
theorem qZF(a e vni mk d c0 c1 c2 c3 c4 c5 c6 c7 c8 c9 c10 c11 c12 c13 c14:Int):qBC pk0 [(0,1,.int .u32 a),(1,1,.int .u32 d),(2,1,.int .i64 16),(3,1,.int .i64 e),(4,1,.int .u32 vni),(5,1,.int .u32 mk),(6,15,.agg [.int .u64 c0,.int .u64 c1,.int .i64 c2,.int .i64 c3,.int .u64 c4,.int .u32 c5,.int .u64 c6,.int .u32 c7,.int .u32 c8,.int .u32 c9,.int .i64 c10,.int .i64 c11,.int .i64 c12,.int .i64 c13,.int .u64 c14])]=some [.int .u32 a,.int .u32 d,.int .i64 16,.int .i64 e,.int .u32 vni,.int .u32 mk,.int .u64 c0,.int .u64 c1,.int .i64 c2,.int .i64 c3,.int .u64 c4,.int .u32 c5,.int .u64 c6,.int .u32 c7,.int .u32 c8,.int .u32 c9,.int .i64 c10,.int .i64 c11,.int .i64 c12,.int .i64 c13,.int .u64 c14]:=by kernel_rfl
theorem zABf{a e vni mk d:Int}:qBC pk0 [(0,1,.int .u32 a),(1,1,.int .u32 d),(2,1,.int .i64 16),(3,1,.int .i64 e),(4,1,.int .u32 vni),(5,1,.int .u32 mk),(6,15,.agg (frC x))]=some (pk a e vni mk x d):=qZF ..
theorem qW7{b1 b2 b3 b4 b5:Nat}{t1 t2 t3 t4 t5:Bool}{y1 y2 y3 y4 y5:TypeId}{a e vni d:Int}(h1:s b1=some (t1,.cells y1 [.int .u32 a]))(h2:s b2=some (t2,.cells y2 [.int .i64 e]))(h3:s b3=some (t3,.cells y3 [.int .u32 vni]))(h4:s b4=some (t4,.cells y4 [.int .u32 mk]))(h5:s b5=some (t5,.cells y5 (frC x)))
  (hK:∀s',Sub s s'->K (.agg (pk a e vni mk x d)) s'):wC TP XX 45 [.int .u32 d,.ptr b1 0,.ptr b2 0,.ptr b3 0,.ptr b4 0,.ptr b5 0] K s:=by
 refine qJa (qAK λb s1 hb q1 u1=>?_);have k1:=u1.sub hb;refine qAD (a:=.int .u32 a) (by rw[qAL (k1 _ _ h1)];rfl) (qAD (a:=.int .i64 e) (by rw[qAL (k1 _ _ h2)];rfl) (qAD (a:=.int .u32 vni) (by rw[qAL (k1 _ _ h3)];rfl) (qAD (a:=.int .u32 mk) (by rw[qAL (k1 _ _ h4)];rfl) (qAD (qAb (k1 _ _ h5) rfl) (qAD zABf ?_)))));refine qAT q1 rfl rfl rfl λs2 h2 u2=>qAD (qAb h2 rfl) ?_;exact hK s2 (qAW k1 u2 hb)
def vniOf(F:FG)(bd:Int):Int:=match F.B[bd.toNat]? with
 |some y=>y.2.1
 |none=>0
def cpL(F:FG)(leaf bd g mk:Int)(P:List Int)(x:Fr):List (List AV):=(if g=0 then P else[g]).map (pk (lb leaf) (ent x) (vniOf F bd) mk x)
def Cp(F:FG)(leaf bd:Int)(P:List Int):Prop:=Vb F bd/\0<=leaf/\leaf<F.lf/\P≠[]
noncomputable def cpA(F:FG)(leaf bd g mk:Int)(P:List Int)(x:Fr):List (List AV):=by
 classical
 exact if Cp F leaf bd P then cpL F leaf bd g mk P x else[]
theorem cpA_t(h:Cp F leaf bd P):cpA F leaf bd g mk P x=cpL F leaf bd g mk P x:=by unfold cpA;rw[if_pos h]
theorem cpA_f(h:¬Cp F leaf bd P):cpA F leaf bd g mk P x=[]:=by unfold cpA;rw[if_neg h]
theorem zADc:SlR 21 s .nilslc []:=⟨by simp,.inl ⟨rfl,rfl⟩⟩
theorem vni_at{i:Nat}{y:BG}(h:F.B[i]?=some y):vniOf F (i:Int)=y.2.1:=by unfold vniOf;rw[Int.toNat_natCast,h]
def flC(bd:Int)(v:AV)(g:Int):List AV:=[.int .i64 bd,v,.int .u32 g]
abbrev u32s(l:List Int):List AV:=l.map (AV.int .u32)
theorem Copies_in(z:Sz F)(hF:FabR s cs F)(hP:Sl s v (u32s P))(hl:P.length<=1000)(hK:∀v' s',Sub s s'->SlR 21 s' v' (cpA F leaf bd g mk P x)->K v' s'):wC TP XX 15 [.agg cs,.int .i64 leaf,.agg (flC bd v g),.agg (frC x),.int .u32 mk] K s:=by
 obtain⟨v2,v3,v4,v5,v6,v7,rfl,hL⟩:=hF;have hone:=hP.one;refine qKM ⟨hL.all,qAK λb0 s1 hb0 h1 u1=>⟨by simp[flC,hone],qAK λb2 s3 hb2 h3 u3=>⟨rfl,qAK λb4 s5 hb4 h5 u5=>qKy rfl λb6 s7 hb6 h7 u7=>?_⟩⟩⟩;have h1:s1 b0=some (false,.cells 31 (csG F v2 v3 v4 v5 v6 v7)):=h1;have h3:s3 b2=some (false,.cells 44 (flC bd v g)):=h3;have h5:s5 b4=some (false,.cells 52 (frC x)):=h5;have k7:=u7.sub hb6;have k5:=(u5.sub hb4).trans k7;have k3:=(u3.sub hb2).trans k5;have k1:=(u1.sub hb0).trans k3;have h1:=k3 _ _ h1;have h3:=k5 _ _ h3;have h5:=k7 _ _ h5;have r0:rd1 s7 (.ptr b2 0)=some (.int .i64 bd):=by rw[qAL h3];rfl
 refine qAD (qAb h1 rfl) ?_;simp only[qAG,zA,qAA,r0];refine fvalid_in z ⟨v2,v3,v4,v5,v6,v7,rfl,hL.sub k1⟩ λb s12 k12 hb=>?_;have k:=k1.trans k12;have h1:=k12 _ _ h1;have h3:=k12 _ _ h3;have h5:=k12 _ _ h5;have h7:=k12 _ _ h7;have no:¬Cp F leaf bd P->K .nilslc s12:=λh=>hK _ _ k (by rw[cpA_f h];exact zADc);simp only[qAq,qAA];cases b with
 | false=>
   simp only[Bool.not_false,qAY,qCc,qCE,qBh,qAc,qAA];exact no λh=>by have:=hb.2 h.1;cases this
 |true=>
 have hvb:Vb F bd:=hb.1 rfl;simp only[Bool.not_true,qAO,qAQ,qAA];cases c1:decide (leaf<0)with
 | true=>
   simp only[qCc,qCE,qBh,qAc,qAU,qAY,qAA];exact no λh=>by have:=oT c1;have:=h.2.1;omega
 |false=>
 simp only[qCc,qAU,qAO,qAA,qAG,zA,qAL h1,csG0,qAr];cases c2:decide (F.lf<=leaf)with
 | true=>
   simp only[qCE,qBh,qAc,qAU,qAY,qAA];exact no λh=>by have:=oT c2;have:=h.2.2.1;omega
 |false=>
 have r1:∀{t:Hq},Sub s12 t->rd1 t (.ptr b2 1)=some v:=λk=>by rw[qAL (k _ _ h3)];rfl
 have r2:∀{t:Hq},Sub s12 t->rd1 t (.ptr b2 2)=some (.int .u32 g):=λk=>by rw[qAL (k _ _ h3)];rfl
 have hv1:qAP v=some P.length:=by rw[hP.len,lMY]
 simp only[qCE,qAU,qAO,qAA,qAG,zA,r1 (.refl _),hv1,qAa,qAX,Bool.false_bne];cases c3:((P.length:Int) == 0)with
 | true=>
   simp only[qBh,qAU,qAY,qAA];refine no λh=>h.2.2.2 ?_;have:=eq_of_beq c3;exact List.eq_nil_of_length_eq_zero (by omega)
 |false=>
 have hcp:Cp F leaf bd P:=⟨hvb,by have:=oF c1;omega,by have:=oF c2;omega,λe=>by rw[e]at c3;cases c3⟩
 obtain⟨⟨hv,hbd0,hbd1⟩,hl0,hl1,_⟩:=hcp;simp only[qBh,qAU,qAO,qAA];refine qAD (qAb h1 rfl) (qSy z hv hl0 hl1 ⟨v2,v3,v4,v5,v6,v7,rfl,FW.zAEe (hL.sub k)⟩ λs19 k19=>?_);intro _;have kT:Sub s12 (add s12 s19):=qJt;refine qAD (qAb (cut1 (.refl _) _ _ h5) rfl) (qUD λs22 k22=>?_);intro _;have kU:Sub (add s12 s19) (add (add s12 s19) s22):=qJt;have kc:=cut2 (.refl s12) kT kU;generalize add s12 s19=T at *;generalize add T s22=U at *;obtain⟨i,rfl⟩:∃i:Nat,bd=(i:Int):=⟨bd.toNat,by omega⟩
 have hi:i<F.B.length:=by omega
 have hLc:=(hL.sub k).sub kc;obtain⟨pb,po,e1,_,e3⟩:=hLc.B.get (i:=i) (r:=bgC F.B[i]) (by rw[List.getElem?_map,gEY hi];rfl);have rc0:rd1 (cutH [(s12,T),(T,U)] U) (.ptr b2 0)=some (.int .i64 (i:Int)):=by rw[qAL (kc _ _ h3)];rfl
 have rc1:rd1 (cutH [(s12,T),(T,U)] U) (.ptr pb (po+1))=some (.int .u32 (vniOf F (i:Int))):=by rw[e3 1 (by omega),vni_at (gEY hi)];rfl
 simp only[qAG,zA,qAA,qAL (kc _ _ h1),csG4,rc0,e1,rc1];generalize hvni:vniOf F (i:Int)=vni at rc1 ⊢;refine newM (s:=U) λb30 s31 hb30 h31 u31=>?_;generalize add U s31=U1 at *;refine newM (s:=U1) λb32 s33 hb32 h33 u33=>?_;generalize add U1 s33=U2 at *;refine newM (s:=U2) λb34 s35 hb34 h35 u35=>?_;generalize add U2 s35=U3 at *;have d1:b30≠b32:=λe=>by rw[<- e,h31]at hb32;cases hb32
 have n30:U2 b30=some (false,.cells 42 [.int .u32 0]):=by rw[u33 _ d1];exact h31
 have d2:b30≠b34:=λe=>by rw[<- e,n30]at hb34;cases hb34
 have d3:b32≠b34:=λe=>by rw[<- e,h33]at hb34;cases hb34
 have m30:U3 b30=some (false,.cells 42 [.int .u32 0]):=by rw[u35 _ d2];exact n30
 have m32:U3 b32=some (false,.cells 3 [.int .i64 0]):=by rw[u35 _ d3];exact h33
 have kU1:=u31.sub hb30;have z32:U b32=none:=qAv kU1 hb32;have kU2:=kU1.trans (u33.sub hb32);have z34:U b34=none:=qAv kU2 hb34;have kU3:=kU2.trans (u35.sub hb34);have out:∀{i j:Nat},U i=none->hdel U j i=U i:=fun {i j} h=>by show(if i=j then none else U i)=U i;rw[h];split<;>rfl
 have ci:∀{i a b c:Nat}{t:Hq},U i=none->t i≠none->cutH [(hdel U a,U),(hdel U b,U),(hdel U c,U)] t i≠none:=fun {i a b c t} h q=>by
  rw[qQ9]
  ·exact q
  ·intro p hp
   simp only[List.mem_cons,List.not_mem_nil,or_false]at hp;rcases hp with rfl|rfl|rfl<;>exact out h
 refine⟨ci hb30 (by show U3 b30≠none;rw[m30];simp),?_⟩;refine qA9 m30 (by simp) rfl λs36 h36 u36=>?_;have m32':s36 b32=_:=(u36 _ (Ne.symm d1)).trans m32;refine⟨ci z32 (by show s36 b32≠none;rw[m32'];simp),?_⟩;refine qA9 m32' (by simp) rfl λs37 h37 u37=>?_;have m34':s37 b34=_:=(u37 _ (Ne.symm d3)).trans ((u36 _ (Ne.symm d2)).trans h35);refine qA9 m34' (by simp) rfl λs38 h38 u38=>?_;have q30:s38 b30=some (false,.cells 42 [.int .u32 (lb leaf)]):=by rw[u38 _ d2,u37 _ d1];exact h36
 have q32:s38 b32=some (false,.cells 3 [.int .i64 (ent x)]):=by rw[u38 _ d3];exact h37
 have q34:s38 b34=some (false,.cells 41 [.int .u32 vni]):=h38;have kU38:Sub U s38:=qAW (qAW (qAW kU3 u36 hb30) u37 z32) u38 z34;have k38:Sub s12 s38:=kT.trans (kU.trans kU38);have kall:=k.trans k38;have hcp:Cp F leaf (i:Int) P:=⟨hvb,hl0,hl1,λe=>by rw[e]at c3;cases c3⟩
 simp only[qAA,r2 k38,qAa,qAX,Bool.true_bne];have pkt:∀{t:Hq}{d:Int}{J:AV->Hq->Prop},Sub s38 t->(∀s',Sub t s'->J (.agg (pk (lb leaf) (ent x) vni mk x d)) s')->funK TP XX (.fn (.func 45) [] [(.ptr b30 0),(.ptr b32 0),(.ptr b34 0),(.ptr b6 0),(.ptr b4 0)]) [.int .u32 d] J t:=fun {t d J} kt hJ=>
  qUx (by kernel_rfl) (qW7 (kt _ _ q30) (kt _ _ q32) (kt _ _ q34) (kt _ _ (k38 _ _ h7)) (kt _ _ (k38 _ _ h5)) hJ)
 cases c4:(g == 0)with
 | false=>
   simp only[Bool.not_false,qAY];refine pkt (.refl _) λs45 k45=>?_;refine qAD (a:=pk (lb leaf) (ent x) vni mk x g) (fill_one rfl) ⟨rfl,qAK λb47 s48 hb47 h48 u48=>?_⟩;refine hK _ _ (kall.trans (k45.trans (u48.sub hb47))) ?_;rw[cpA_t hcp];have g0:¬g=0:=by simpa using c4
   unfold cpL;rw[if_neg g0,hvni];exact one_row h48 rfl
 | true=>
   have g0:g=0:=eq_of_beq c4;simp only[Bool.not_true,qAO,r1 k38,hv1,qAA];refine⟨λys t m=>∃(j:Nat) (w:AV),ys=[w,.int .i64 (j:Int)]/\j<=P.length/\m=P.length-j/\Sub s38 t/\AccR 55 21 s38 t w ((P.take j).map (pk (lb leaf) (ent x) vni mk x)),⟨_,0,_,rfl,by omega,rfl,.refl _,by simp,.inl ⟨rfl,rfl⟩⟩,?_⟩;rintro f t m ⟨j,w,hy,hj,rfl,kt,acc⟩;simp only[cI,and_true]at hy;rw[hy.1,hy.2];simp only[qGx,qAQ,qAA];refine qAE (λhlt=>?_) (λhge=>?_)
   ·have hlt:j<P.length:=by have:=oT hlt;omega
    obtain⟨p,e1,e2⟩:=(hP.sub (kall.trans kt)).get (i:=j) (by rw[lMY];exact hlt);rw[List.getElem?_map,gEY hlt]at e2;simp only[e1,e2,Option.map_some,qAA];refine pkt kt λs57 k57=>?_;refine qAD (a:=pk (lb leaf) (ent x) vni mk x P[j]) (fill_one rfl) ⟨rfl,qAK λb59 s60 hb59 h60 u60=>?_⟩;have k60:=k57.trans (u60.sub hb59);refine(acc.sub k60).app (m:=[pk (lb leaf) (ent x) vni mk x P[j]]) (one_row h60 rfl) (by simp) (by rw[lMY,List.length_take,List.length_singleton];omega) (kt.trans k60) λv' s' a q=>?_;simp only[qAN,qAA];rw[qAV (by omega) (by omega)];refine⟨_,by omega,j+1,v',rfl,by omega,rfl,q,?_⟩;rw[List.take_add_one,gEY hlt,List.map_append];exact a
   ·have hge:j=P.length:=by have:=oF hge;omega
    subst hge;refine hK _ _ (kall.trans kt) ?_;rw[cpA_t hcp];unfold cpL;rw[if_pos g0,hvni];rw[List.take_length]at acc;exact acc.sl
end Go.AM.FC
set_option maxRecDepth 100000
namespace Go.AM.FC
open Go Go.Proofs Go.AM.TN
end Go.AM.FC
set_option maxRecDepth 100000
namespace Go.AM.FC
open Go Go.Proofs Go.AM.TN
end Go.AM.FC
set_option maxRecDepth 100000
namespace Go.AM.FE
open Go Go.Proofs Go.AM.TN Go.AM.MU
variable {K:AV→Hq→Prop} {s s' t:Hq} {v m:AV} {l:List Int}
theorem qVh{n:Int}(h:Sl s v (ix l))(hl:l.length<=4294967296)(hK:K (.bool (decide (n∈l))) s):wC TP XX 38 [v,.int .i64 n] K s:=by
 refine qH3 ?_;unfold qF1;have nl:qAP v=some l.length:=by rw[h.len,qE9]
 refine⟨λys t m=>∃i:Nat,ys=[.int .i64 (i:Int)]/\t=s/\i<=l.length/\m=l.length-i/\n ∉ l.take i,⟨_,0,rfl,rfl,by omega,rfl,by simp⟩,?_⟩;rintro f t m ⟨i,hy,rfl,hi,rfl,hno⟩;simp only[cI,and_true]at hy;rw[hy];simp only[qEw,nl,qAQ,qAA];refine qAE (λhlt=>?_) (λhge=>?_)
 ·have hlt:i<l.length:=by have:=oT hlt;omega
  obtain⟨a,e1,e2⟩:=h.get (i:=i) (by rw[qE9];exact hlt);rw[qLw hlt]at e2;simp only[e1,e2,qAA,qAa,qAX,Bool.false_bne];cases c:(l[i] == n)with
  | true=>
    rw[decide_eq_true (show n∈l by rw[<- eq_of_beq c];exact List.getElem_mem hlt)]at hK;exact hK
  | false=>
    have c:l[i]≠n:=by simpa using c
    simp only[qAO,qAN,qAA];rw[qAV (by omega) (by omega)];refine⟨_,by omega,i+1,rfl,(by trivial),by omega,rfl,λh=>?_⟩;rw[List.take_add_one,gEY hlt]at h;rcases mP h with h|h
    ·exact hno h
    ·have h:n=l[i]:=by simpa using h
     exact c h.symm
 ·have hge:i=l.length:=by have:=oF hge;omega
  subst hge;rw[List.take_length]at hno;rw[decide_eq_false hno]at hK;exact hK
theorem app1_in{elem:TypeId}{k:IntKind}{w:AV}{L:List Int}{x:Int}{z:AV}{C:AV->Hq->Prop}(hz:z.one=true)(acc:Acc elem s t w (L.map (AV.int k)))(ks:Sub s t)(hl:L.length<=100000)(hC:∀v' s',Acc elem s s' v' ((L ++ [x]).map (AV.int k))->Sub s s'->C v' s'):
  oK (qBC (repl 1 [z]) [(0,1,.int k x)]) λc=>qAZ c=true/\newK elem c (λb s'=>appK elem 1 w (.slc b 0 1 (some 1) 1) C s') t:=by
 refine qHc hz rfl λb s1 hb h1 u1=>?_;have k1:=ks.trans (u1.sub hb);refine(FC.Acc_sub acc (u1.sub hb)).app (m:=[.int k x]) (Sl.mk h1 rfl (by simp)) (by simp) (by simp;omega) (λi hi=>?_) λv' s' a kq=>?_
 ·cases e:s i with
  |none=>exact absurd e hi
  |some y=>rw[k1 _ _ e];simp
 ·refine hC v' s' (by rw[List.map_append];exact a) λi e hi=>kq i e (k1 i e hi) λb' hv=>?_
  rintro rfl;rcases acc with⟨rfl,_⟩|⟨b2,h0,rfl,_⟩
  ·cases hv
  ·cases hv
   rw[h0]at hi;cases hi
end Go.AM.FE
set_option maxRecDepth 100000
namespace Go.AM.FE
open Go Go.Proofs Go.AM.TN Go.AM.MU
variable {q:AV} {l:List Int}
abbrev usl(l:List Int):List AV:=l.map (AV.int .u32)
def InsI(x:Int)(l:List Int)(i:Nat)(d:Bool)(L:List Int):Prop:=
 (d=false/\(∀(j:Nat) (_:j<l.length),j<i->l[j]<x)/\L=l.take i)∨
 (d=true/\∃k,k<i/\(∃h:k<l.length,x<l[k])/\(∀(j:Nat) (_:j<l.length),j<k->l[j]<x)/\L=l.take k++x::(l.take i).drop k)
theorem InsI.len{x:Int}{i:Nat}{d:Bool}{L:List Int}(h:InsI x l i d L)(hi:i<=l.length):L.length<=i+1:=by
 rcases h with⟨_,_,rfl⟩|⟨_,k,h1,_,_,rfl⟩
 ·rw[List.length_take];omega
 ·rw[lAp,List.length_cons,List.length_take,List.length_drop,List.length_take];omega
theorem InsI.put{x:Int}{i:Nat}{L:List Int}(h:InsI x l i true L)(hi:i<l.length):InsI x l (i+1) true (L ++ [l[i]]):=by
 rcases h with⟨q,_⟩|⟨_,k,h1,h2,h3,rfl⟩
 ·cases q
 ·refine .inr ⟨rfl,k,by omega,h2,h3,?_⟩
  rw[List.append_assoc,List.cons_append,List.take_add_one,gEY hi,List.drop_append_of_le_length (by rw[List.length_take];omega)];rfl
theorem InsI.low{x:Int}{i:Nat}{L:List Int}(h:InsI x l i false L)(hi:i<l.length)(hx:l[i]<x):InsI x l (i+1) false (L ++ [l[i]]):=by
 rcases h with⟨_,h1,rfl⟩|⟨q,_⟩
 ·refine .inl ⟨rfl,λj hj hji=>?_,?_⟩
  ·by_cases e:j=i
   ·subst e;exact hx
   ·exact h1 j hj (by omega)
  ·rw[List.take_add_one,gEY hi];rfl
 ·cases q
theorem InsI.ins{x:Int}{i:Nat}{L:List Int}(h:InsI x l i false L)(hi:i<l.length)(hx:x<l[i]):InsI x l (i+1) true ((L ++ [x]) ++ [l[i]]):=by
 rcases h with⟨_,h1,rfl⟩|⟨q,_⟩
 ·refine .inr ⟨rfl,i,by omega,⟨hi,hx⟩,h1,?_⟩
  rw[List.append_assoc,List.take_add_one (i:=i),gEY hi,List.drop_append_of_le_length (by rw[List.length_take];omega)];rw[List.drop_eq_nil_of_le (by rw[List.length_take];omega)];rfl
 ·cases q
theorem InsI.fin1{x:Int}{L:List Int}(h:InsI x l l.length true L):FD.insL x l=L:=by
 rcases h with⟨q,_⟩|⟨_,k,h1,⟨h2,h2'⟩,h3,rfl⟩
 ·cases q
 ·rw[FD.insL_at (k:=k) (by omega) h3 (λ_=>h2'),List.take_length]
theorem InsI.same{x:Int}{i:Nat}{d:Bool}{L:List Int}(h:InsI x l i d L)(asc:l.Pairwise (· < ·))(hi:i<l.length)(hx:l[i]=x):FD.insL x l=l:=by
 rcases h with⟨_,h1,_⟩|⟨_,k,h1,⟨h2,h2'⟩,_,_⟩
 ·exact FD.insL_eq hi h1 hx
 ·have:=List.pairwise_iff_getElem.1 asc k i h2 hi h1
  omega
end Go.AM.FE
set_option maxRecDepth 100000
namespace Go.AM.FE
open Go Go.Proofs Go.AM.TN Go.AM.MU
variable {s s' t sC:Hq} {u q:AV} {F:FG} {leaf g:Int} {R:List SG.Rt} {i b:Nat}
theorem zAA1(k:Sub s s'):Sub (hdel s b) (hdel s' b):=λi e hi=>by
 by_cases q:i=b
 ·rw[q,show hdel s b b=none from if_pos rfl]at hi;cases hi
 ·rw[qD3 q]at hi ⊢;exact k _ _ hi
structure Ent(F:FG)(leaf:Int)(i:Nat)(sC t:Hq)(b:Nat)(R:List SG.Rt)(u:AV)(g:Int):Prop where
 ce:t b=some (false,.cells 44 (flC (i:Int) u g))
 sub:Sub sC t
 sl:Sl (hdel t b) u (usl (pL F leaf (tgtB F (i:Int)) R))
 fr:∀b' o n c,u=.slc b' o n c 1->sC b'=none
 gv:g=if(F.tr&&tT F leaf (tgtB F (i:Int)) R)=true then 4009754625+(i:Int)else 0
theorem Ent.to(h:Ent F leaf i sC s b R u g)(k:Sub s s'):Ent F leaf i sC s' b R u g:=⟨k _ _ h.ce,h.sub.trans k,h.sl.sub (zAA1 k),h.fr,h.gv⟩
end Go.AM.FE
set_option maxRecDepth 100000
namespace Go.AM.FC
open Go Go.Proofs Go.AM.TN
end Go.AM.FC
set_option maxRecDepth 100000
namespace Go.AM.FE
open Go Go.Proofs Go.AM.TN Go.AM.MU
variable {K:AV→Hq→Prop} {s t:Hq} {v w u m:AV} {F:FG} {leaf:Int} {R:List SG.Rt} {i b:Nat} {l:List Int} {L:List FlE}
theorem FlA.len(h:FlA s v L):qAP v=some L.length:=by obtain⟨rows,h1,h2,_⟩:=h;rw[h1.len,h2]
theorem FlA.get{e:FlE}(h:FlA s v L)(hi:L[i]?=some e):∃pb po u,qAH 3 v (.int .i64 (i:Int))=some (.ptr pb po)/\rd1 s (.ptr pb po)=some (.int .i64 (e.1:Int))/\rd1 s (.ptr pb (po+1))=some u/\rd1 s (.ptr pb (po+2))=some (.int .u32 e.2.2)/\Sl s u (usl e.2.1):=by obtain⟨rows,h1,_,h3⟩:=h;obtain⟨u,a,b⟩:=h3 i e hi;obtain⟨pb,po,e1,_,e3⟩:=h1.get a;exact⟨pb,po,u,e1,e3 0 (by omega),e3 1 (by omega),e3 2 (by omega),b⟩
theorem SameIPs_in(h:Sl s v (usl l))(h':Sl s w (usl l))(hl:l.length<=1000)(hK:K (.bool true) s):wC TP XX 28 [v,w] K s:=by
 refine qPr ?_;have n1:qAP v=some l.length:=by rw[h.len,lMY]
 have n2:qAP w=some l.length:=by rw[h'.len,lMY]
 simp only[qOa,n1,n2,qAa,beq_self_eq_true,qAX,Bool.false_bne,qAA];refine⟨λys t m=>∃i:Nat,ys=[.bool true,.int .i64 (i:Int)]/\t=s/\i<=l.length/\m=l.length-i,⟨_,0,rfl,rfl,by omega,rfl⟩,?_⟩;rintro e t m ⟨i,hy,rfl,hi,rfl⟩;simp only[cI,and_true]at hy;rw[hy.1,hy.2];simp only[qKz,qAY,n1,qAQ,qAA,qHu,qAc];refine qAE (λhlt=>?_) (λ_=>hK);have hlt:i<l.length:=by have:=oT hlt;omega
 obtain⟨a,e1,e2⟩:=h.get (i:=i) (by rw[lMY];exact hlt);obtain⟨c,e3,e4⟩:=h'.get (i:=i) (by rw[lMY];exact hlt);rw[List.getElem?_map,gEY hlt]at e2 e4;simp only[e1,e2,e3,e4,Option.map_some,qAa,beq_self_eq_true,qAX,Bool.false_bne,qAN,qAA];rw[qAV (by omega) (by omega)];exact⟨_,by omega,i+1,rfl,(by trivial),by omega,rfl⟩
theorem fld_len:(fld F leaf R).length<=F.B.length:=by rw[<- fldN_all];exact fldN_len _
end Go.AM.FE
set_option maxRecDepth 100000
namespace Go.AM.FI
open Go Go.Proofs Go.AM.SG Go.AM.TN
variable {K:AV→Hq→Prop} {s s' S t:Hq} {n:Nat} {b c:Nat}
def tC(n:Nat):Cm:=⟨0,2,253,232,n / 16777216 % 256,n / 65536 % 256,n / 256 % 256,n % 256⟩
theorem zAEv:(tC n).ok:=⟨show(0:Nat)<256 by decide,show(2:Nat)<256 by decide,show(253:Nat)<256 by decide,show(232:Nat)<256 by decide,Nat.mod_lt _ (by decide),Nat.mod_lt _ (by decide),Nat.mod_lt _ (by decide),Nat.mod_lt _ (by decide)⟩
abbrev bl(n p:Nat):List AV:=(cmR (tC n)).take p++List.replicate (8-p) (u8 0)
theorem zAEt{x m q:Nat}(h:(x / 2^m:Nat) % 256=q)(hm:m<=64):qCj .shr (.int .u64 (x:Int)) (.int .i64 (m:Int))=some (.int .u64 ((x / 2^m:Nat):Int))/\qB6 .u8 (.int .u64 ((x / 2^m:Nat):Int))=some (u8 q):=by
 refine⟨?_,?_⟩
 ·rw[FC.shr_b hm]
  congr 2
  rw[Int.fdiv_eq_ediv_of_nonneg _ (Int.natCast_nonneg _)];exact(Int.natCast_ediv _ _).symm
 ·show some (AV.int .u8 (qAw .u8 _))=_
  have:qAw .u8 (((x / 2^m:Nat):Int))=((x / 2^m:Nat):Int) % 256:=by exact wu8_ _
  rw[this,<- h]
  congr 2
theorem zACg{p:Nat}(hp:p<8){x:AV}(hx:(cmR (tC n))[p]?=some x):(bl n p).set p x=bl n (p+1):=by
 have:p=0∨p=1∨p=2∨p=3∨p=4∨p=5∨p=6∨p=7:=by omega
 rcases this with rfl|rfl|rfl|rfl|rfl|rfl|rfl|rfl<;>(cases hx;rfl)
theorem zAAi{p:Nat}(hp:p<=8):(bl n p).length=8:=by
 have:p=0∨p=1∨p=2∨p=3∨p=4∨p=5∨p=6∨p=7∨p=8:=by omega
 rcases this with rfl|rfl|rfl|rfl|rfl|rfl|rfl|rfl|rfl<;>rfl
structure CB(S t:Hq)(c:Nat)(l:List AV):Prop where
 sub:Sub S t
 fr:S c=none
 cb:t c=some (false,.cells 129 l)
theorem CB.to{l:List AV}(h:CB S t c l)(k:Sub t s'):CB S s' c l:=⟨h.sub.trans k,h.fr,k _ _ h.cb⟩
theorem CB.put{l l':List AV}(h:CB S t c l)(hb:s' c=some (false,.cells 129 l'))(u:Upto c t s'):CB S s' c l':=⟨qAW h.sub u h.fr,h.fr,hb⟩
theorem qZ0{x m p q:Nat}{R:Hq->Prop}(h:CB S t c (bl n p))(hp:p<8)(hq:(cmR (tC n))[p]?=some (u8 q))(hx:(x / 2^m:Nat) % 256=q)(hm:m<=64)(hR:∀s',CB S s' c (bl n (p+1))->Upto c t s'->R s'):
  oK (qCj .shr (.int .u64 (x:Int)) (.int .i64 (m:Int))) λv_38=>oK (qB6 .u8 v_38) λv_39=>oK (qIT 8 1 (.ptr c 0) (.int .i64 (p:Int))) λv_40=>oK (wr1 t v_40 v_39) R:=by
 obtain⟨e1,e2⟩:=zAEt hx hm;have e3:qIT 8 1 (.ptr c 0) (.int .i64 (p:Int))=some (.ptr c p):=by
  have:Nat.blt p 8=true:=by rw[Nat.blt_eq];exact hp
  simp[qIT,this]
 rw[e1];simp only[qAA];rw[e2];simp only[qAA];rw[e3];simp only[qAA];refine qA9 h.cb (by rw[zAAi (by omega)];exact hp) rfl λs' h' u=>hR s' ?_ u;rw[zACg hp hq]at h';exact h.put h' u
def zAAD(n:Nat)(b c:Nat)(S:Hq):List AV->Hq->Nat->Prop:=λys t m=>∃i:Nat,ys=[.int .i64 (i:Int)]/\i<=7/\m=7-i/\CB S t c (if i=0 then bl n 0 else bl n 2)
theorem qZQ(hn:n<4294967296)(hG:GlK s)(hp:s b=some (false,.cells 167 [.int .i64 2,.int .u64 65000,.int .i64 4,.int .u64 (n:Int)]))(hK:∀s',Sub s s'->K (.agg (cmR (tC n))) s'):wC TP XX 86 [.int .i64 1,.slc b 0 2 (some 2) 2] K s:=by
 refine qMD ?_;unfold qKj;refine qAK λb0 s1 hb0 h1 u1=>qAK λc s3 hc h3 u3=>?_;have k1:=u1.sub hb0;have k3:=u3.sub hc;have g3:=hG.sub (k1.trans k3);have fin:∀{t:Hq},CB s1 t c (bl n 8)->oK (rdN t 8 (.ptr c 0)) λv_47=>oK (qBS t 8 (.ptr b0 0) (.agg v_47)) λs_48=>oK (rdN s_48 8 (.ptr b0 0)) λt4_49=>K (.agg t4_49) s_48:=fun {t} z=>by refine qAD (qAb z.cb (zAAi (by omega))) (qAT (z.sub _ _ h1) rfl rfl rfl λs' h' u'=>qAD (qAb h' rfl) ?_);exact hK s' (qAW (k1.trans z.sub) u' hb0)
 simp only[g3.rd,qAA];refine⟨zAAD n b c s1,⟨_,0,rfl,by omega,rfl,k3,hc,h3⟩,?_⟩;rintro f t m ⟨i,hy,hi,rfl,z⟩;simp only[cI,and_true]at hy;rw[hy];clear hy;simp only[qIS,qAQ,qAA];refine qAE (λhlt=>?_) (λhge=>?_)
 ·have hlt:i<7:=by have:=oT hlt;omega
  simp only[qRT hlt,qAA];refine qAK λb7 s8 hb7 h8 w8=>qAT h8 rfl rfl rfl λs9 h9 w9=>?_;have k9:Sub t s9:=qAW (w8.sub hb7) w9 hb7;have z9:=z.to k9;have r0:rd1 s9 (.ptr b7 0)=some (.int .i64 ((i+1:Nat):Int)):=by rw[qAL h9];rfl
  have next:∀{tt:Hq},CB s1 tt c (bl n 2)->qEO XX (.int .i64 (i:Int)) (zAAD n b c s1) (7-i) K tt:=fun {tt} z'=>by unfold qEO;simp only[qAN,qAA];rw[qAV (by omega) (by omega)];exact⟨_,by omega,i+1,rfl,by omega,rfl,by rw[if_neg (by omega)];exact z'⟩
  simp only[qAG,zA,r0,qAA,qAa,qAX,Bool.false_bne]
  by_cases q:i=0
  ·subst q
   rw[if_pos rfl]at z9;have e1:(((0+1:Nat):Int) == 1)=true:=rfl;rw[e1];have e2:qFw s9 8 1 (.ptr c 0) none none none=some (.slc c 0 8 (some 8) 1):=by unfold qFw;simp only[z9.cb];rfl
   have h9':s9 b7=some (false,.cells 170 [.int .i64 1,u8 0,u8 2]):=h9;have e3:qFw s9 2 1 (.ptr b7 1) none none none=some (.slc b7 1 2 (some 2) 1):=by unfold qFw;simp only[h9'];rfl
   simp only[qAY,e2,qAG,zA,e3,qAA];unfold qZE;have e4:rdSl s9 1 (.slc b7 1 2 (some 2) 1)=some [u8 0,u8 2]:=by unfold rdSl;simp only[h9'];rfl
   refine⟨rfl,by decide,qAD e4 ?_⟩;have e5:wrN s9 (.ptr c 0) [u8 0,u8 2]=some (hset s9 c (false,.cells 129 (bl n 2))):=by unfold wrN;simp only[z9.cb];rfl
   refine qAD e5 (next (z9.put qBa λ_ hi=>qAx hi))
  ·rw[if_neg q]at z9
   have e1:(((i+1:Nat):Int) == 1)=false:=by rw[beq_eq_false_iff_ne];omega
   rw[e1];simp only[qAO];exact next z9
 have hge:i=7:=by have:=oF hge;omega
 subst hge;rw[if_neg (by omega)]at z;have nl:qAP (.slc b 0 2 (some 2) 2)=some 2:=rfl;simp only[nl,qAA];refine⟨λys t m=>∃j:Nat,ys=[.int .i64 ((if j=0 then 2 else if j=1 then 4 else 8:Nat):Int),.int .i64 (j:Int)]/\j<=2/\m=2-j/\CB s1 t c (bl n (if j=0 then 2 else if j=1 then 4 else 8)),⟨_,0,rfl,by omega,rfl,z⟩,?_⟩;clear z t f;rintro f t m ⟨j,hy,hj,rfl,z⟩;simp only[cI,and_true]at hy;rw[hy.1,hy.2];clear hy;simp only[qIU,qAQ,qAA];have hpt:=k1.trans z.sub _ _ hp;have rowb:∀{j:Nat},j<2->qAH 2 (.slc b 0 2 (some 2) 2) (.int .i64 (j:Int))=some (.ptr b (2*j)):=fun {j} hj=>by
  have:j=0∨j=1:=by omega
  rcases this with rfl|rfl<;>rfl
 have part:∀{x sz p0:Nat}{tt:Hq}{bp:Nat},(∀q<sz,(cmR (tC n))[p0+q]?=some (u8 (x / 2^(8*(sz-1-q)) % 256)))->p0+sz<=8->sz<=8->CB s1 tt c (bl n p0)->tt bp=some (false,.cells 167 [.int .i64 (sz:Int),.int .u64 (x:Int)])->s1 bp=none->bp≠c->∀{I2:List AV->Hq->Nat->Prop}{m2:Nat}{jj:Nat},jj<=2->(∀t',CB s1 t' c (bl n (p0+sz))->∃m',m'<m2/\I2 [.int .i64 ((p0+sz:Nat):Int),.int .i64 ((jj+1:Nat):Int)] t' m')->∃I3:List AV->Hq->Nat->Prop,(∃m,I3 [(.int .i64 0)] tt m)/\∀(f:Env) (s:Hq) (m3:Nat),I3 [f 33] s m3->qFq XX (.ptr c 0) (.int .i64 (p0:Int)) (.ptr bp 0) (.int .i64 (jj:Int)) (.int .i64 (sz:Int)) (f 33) I3 m3 I2 m2 K s:=by
  intro x sz p0 tt bp hq hp8 hs8 z hbp hfr hne I2 m2 jj hjj hN;refine⟨λys t m=>∃q:Nat,ys=[.int .i64 (q:Int)]/\q<=sz/\m=sz-q/\CB s1 t c (bl n (p0+q))/\t bp=some (false,.cells 167 [.int .i64 (sz:Int),.int .u64 (x:Int)]),⟨_,0,rfl,by omega,rfl,z,hbp⟩,?_⟩;rintro f t m ⟨q,hy,hqs,rfl,z,hbp⟩;simp only[cI,and_true]at hy;rw[hy];clear hy;have r0:rd1 t (.ptr bp 0)=some (.int .i64 (sz:Int)):=by rw[qAL hbp];rfl
  have r1:rd1 t (.ptr bp 1)=some (.int .u64 (x:Int)):=by rw[qAL hbp];rfl
  simp only[qFq,qAQ,qAA];refine qAE (λhlt=>?_) (λhge=>?_)
  ·have hlt:q<sz:=by have:=oT hlt;omega
   simp only[qAN,qBs,qIn,qAG,zA,r0,r1,qAA];have w1:IntKind.i64.wrap ((p0:Int)+(q:Int))=((p0+q:Nat):Int):=by rw[qAV (by omega) (by omega)];omega
   have w2:IntKind.i64.wrap (8*IntKind.i64.wrap (IntKind.i64.wrap ((sz:Int)-1)-(q:Int)))=((8*(sz-1-q):Nat):Int):=by rw[qAV (n:=(sz:Int)-1) (by omega) (by omega),qAV (n:=(sz:Int)-1-(q:Int)) (by omega) (by omega),qAV (by omega) (by omega)];omega
   rw[w1,w2];refine qZ0 z (by omega) (hq q hlt) rfl (by omega) λs' z' u'=>?_;rw[qAV (by omega) (by omega)];exact⟨_,by omega,q+1,rfl,by omega,rfl,z',by rw[u' bp hne];exact hbp⟩
  ·have hge:q=sz:=by have:=oF hge;omega
   subst hge;simp only[qAG,zA,r0,qAN,qAA];have w1:IntKind.i64.wrap ((p0:Int)+(q:Int))=((p0+q:Nat):Int):=by rw[qAV (by omega) (by omega)];omega
   have w2:IntKind.i64.wrap ((jj:Int)+1)=((jj+1:Nat):Int):=by rw[qAV (by omega) (by omega)];omega
   rw[w1,w2];exact hN t z
 refine qAE (λhlt=>?_) (λhge=>?_)
 rotate_left
 ·have hge:j=2:=by have:=oF hge;omega
  subst hge;exact fin z
 have hlt:j<2:=by have:=oT hlt;omega
 rw[rowb hlt];have hj2:j=0∨j=1:=by omega
 rcases hj2 with rfl|rfl
 ·have e:rdN t 2 (.ptr b (2*0))=some [.int .i64 2,.int .u64 65000]:=by
   unfold rdN;simp only[hpt];rfl
  simp only[e,qAA];refine qAK λbp s25 hbp h25 w25=>qAT h25 rfl rfl rfl λs26 h26 w26=>?_;have k26:Sub t s26:=qAW (w25.sub hbp) w26 hbp;have r0:rd1 s26 (.ptr bp 0)=some (.int .i64 2):=by rw[qAL h26];rfl
  simp only[qAG,zA,r0,qAA];refine part (x:=65000) (sz:=2) (p0:=2) (jj:=0) (λq hq=>?_) (by omega) (by omega) (z.to k26) h26 (SG.qAv z.sub hbp) (λq=>by rw[q,z.cb]at hbp;cases hbp) (by omega) λt' z'=>⟨_,by omega,1,rfl,by omega,rfl,z'⟩
  have:q=0∨q=1:=by omega
  rcases this with rfl|rfl<;>rfl
 ·have e:rdN t 2 (.ptr b (2*1))=some [.int .i64 4,.int .u64 (n:Int)]:=by
   unfold rdN;simp only[hpt];rfl
  simp only[e,qAA];refine qAK λbp s25 hbp h25 w25=>qAT h25 rfl rfl rfl λs26 h26 w26=>?_;have k26:Sub t s26:=qAW (w25.sub hbp) w26 hbp;have r0:rd1 s26 (.ptr bp 0)=some (.int .i64 4):=by rw[qAL h26];rfl
  simp only[qAG,zA,r0,qAA];refine part (x:=n) (sz:=4) (p0:=4) (jj:=1) (λq hq=>?_) (by omega) (by omega) (z.to k26) h26 (SG.qAv z.sub hbp) (λq=>by rw[q,z.cb]at hbp;cases hbp) (by omega) λt' z'=>⟨_,by omega,2,rfl,by omega,rfl,z'⟩
  have:q=0∨q=1∨q=2∨q=3:=by omega
  rcases this with rfl|rfl|rfl|rfl
  ·show some (u8 (n / 16777216 % 256))=_;rfl
  ·show some (u8 (n / 65536 % 256))=_;rfl
  ·show some (u8 (n / 256 % 256))=_;rfl
  ·show some (u8 (n % 256))=some (u8 (n / 1 % 256));rw[Nat.div_one]
theorem qWk(hn:n<4294967296)(hG:GlK s)(hK:∀s',Sub s s'->K (.agg (cmR (tC n))) s'):wC TP XX 53 [.int .u16 65000,.int .u32 (n:Int)] K s:=by
 refine qLU ?_;unfold qHK;refine qAK λb0 s1 hb0 h1 u1=>?_;have e1:qB6 .u64 (.int .u16 65000)=some (.int .u64 65000):=rfl;have e2:qB6 .u64 (.int .u32 (n:Int))=some (.int .u64 (n:Int)):=by
  show some (AV.int .u64 (qAw .u64 (n:Int)))=_;have:qAw .u64 (n:Int)=(n:Int):=by simp only[qAw];rw[qDs _ _ _ (by omega) (by omega)];split<;>omega
  rw[this]
 rw[e1,qAA];refine qAD (a:=[.int .i64 2,.int .u64 65000]) rfl ?_;rw[e2,qAA];refine qAD (a:=[.int .i64 4,.int .u64 (n:Int)]) rfl (qAD (a:=[.int .i64 2,.int .u64 65000,.int .i64 4,.int .u64 (n:Int)]) rfl ⟨rfl,qAK λb7 s8 hb7 h8 u8=>?_⟩);have k1:=u1.sub hb0;have k8:=u8.sub hb7;refine qZQ hn (hG.sub (k1.trans k8)) h8 λs10 k10=>?_;refine qAT ((k8.trans k10) _ _ h1) rfl rfl rfl λs11 h11 u11=>qAD (qAb h11 rfl) ?_;exact hK s11 (qAW (k1.trans (k8.trans k10)) u11 hb0)
end Go.AM.FI
set_option maxRecDepth 100000
namespace Go.AM.FI
open Go Go.Proofs Go.AM.SG Go.AM.TN
variable {K:AV→Hq→Prop} {s:Hq} {w:AV} {i n T:Nat} {c:Nat} {k:Int} {F:FG} {leaf:Int}
theorem qXq(h:i<32):FC.lb (i:Int)=184483841+(i:Int):=by
 unfold FC.lb;have w:∀n:Int,0<=n->n<4294967296->qAw .u32 n=n:=λn h1 h2=>by simp only[qAw];rw[qDs _ _ _ (by omega) (by omega)];split<;>omega
 rw[if_neg (by omega),w _ (by omega) (by omega),<- qBY,<- qBY,w (184483840+(i:Int)) (by omega) (by omega),w _ (by omega) (by omega)];omega
def rtN(i T:Nat)(k:Int):Rt:=⟨3,0,⟨0,0,0,0,0,0,0,0,0,0⟩,0,0,FC.lb (i:Int),true,0,0,0,0,0,0,FC.lb (i:Int),false,0,false,0,false,0,k,0,0,0,0,false,[],[],[tC T]⟩
theorem zACr:(rtN i T k).ok:=⟨λc hc=>by
 have:c=tC T:=by simpa [rtN]using hc
 rw[this];exact zAEv,by simp[rtN],by simp[rtN],by simp[rtN]⟩
theorem qMY(hK:K (.int .u32 (FC.lb (i:Int))) s):wC TP XX 22 [.int .i64 (i:Int)] K s:=
 qF5 (FC.loop_in λe=>qAD (a:=.int .u32 (FC.lb (i:Int))) rfl (qAD (a:=.int .i64 e) rfl hK))
theorem tC_T(hT:T<4294967296):FE.isT (tC T)=true/\FE.tNo (tC T)=T:=by
 have e:FE.tNo (tC T)=T:=by show(((0*256+T / 16777216 % 256)*256+T / 65536 % 256)*256+T / 256 % 256)*256+T % 256=T;omega
 refine⟨?_,e⟩;show(decide (qOJ (tC T)=1)&&decide (FE.tAS (tC T)=65000))=true;rw[show qOJ (tC T)=1 from rfl,show FE.tAS (tC T)=65000 from rfl];rfl
theorem zAAn(hT:T<4294967296):FE.tgs (rtN i T k).cm=[(T:Int)]:=by obtain⟨e1,e2⟩:=tC_T hT;unfold FE.tgs FE.tgP;show FD.insAll (([tC T].filter FE.isT).map λc=>(FE.tNo c:Int))=_;rw[List.filter_cons_of_pos e1,List.filter_nil,List.map_cons,List.map_nil,e2];rfl
theorem zACa(hi:i<32):FE.flB F leaf (rtN i T k)=(((k == 6)||(k == 3))&&(decide ((i:Int)<F.lf)&&!((i:Int) == leaf))):=by
 unfold FE.flB;have e:(rtN i T k).nx=184483841+(i:Int):=qXq hi;have e1:FE.nodeOk (rtN i T k).nx=true:=by rw[e];unfold FE.nodeOk;rw[decide_eq_true (by omega),decide_eq_true (by omega)];rfl
 have e2:FE.nodeV (rtN i T k).nx=(i:Int):=by rw[(FE.nodeV_ok e1).1,e];omega
 rw[e1,e2];rfl
end Go.AM.FI
set_option maxRecDepth 100000
namespace Go.AM.FI
open Go Go.Proofs Go.AM.SG Go.AM.TN
variable {F:FG} {leaf k:Int} {r:Rt} {N:NFab} {i:Nat}
abbrev fK(F:FG)(leaf k:Int)(r:Rt):Bool:=FE.flB F leaf r&&decide (k∈FE.tgs r.cm)
theorem zAEj(h:i<N.B.length):FE.tgtB N.toG (i:Int)=500+(i:Int):=by
 obtain⟨x,hx⟩:∃x,N.B[i]?=some x:=⟨_,gEY h⟩
 have:N.toG.B[i]?=some (bgN i x):=by show(N.B.mapIdx bgN)[i]?=_;rw[List.getElem?_mapIdx,hx];rfl
 rw[FE.tgt_at this];rfl
end Go.AM.FI
set_option maxRecDepth 100000
namespace Go.AM.FI
open Go Go.Proofs Go.AM.SG Go.AM.TN
variable {K:AV→Hq→Prop} {s s' t:Hq} {v m:AV} {i T b b4 c:Nat} {k:Int} {N:NFab} {r:Rt} {R:AV→Prop} {v2 v3 v4 v5 v6 v7:AV}
theorem qYN{t:Bool}(hg:s 0=some (t,.glob 0 (.agg kindsL)))(hJ:K (.bool true) s):wC TP XX 5 [] K s:=by
 have e:XX=orX (orX XL (sortedUX 35 70 101 42)) X0:=by
  funext f
  show(match XL f with|some g=>some g|none=>(match sortedUX 35 70 101 42 f with|some g=>some g|none=>X0 f))=(match (match XL f with|some g=>some g|none=>sortedUX 35 70 101 42 f)with|some g=>some g|none=>X0 f)
  cases XL f<;>rfl
 rw[e];exact qSL rfl rfl (by decide) hg hJ
def RB(s:Hq)(b:Nat)(r:Rt)(T:Nat):Prop:=∃c,s b=some (false,.cells 81 (r.row .nilslc .nilslc (.slc c 0 1 (some 1) 8)))/\s c=some (false,.cells 129 (cmR (tC T)))/\r.path=[]/\r.cl=[]/\r.cm=[tC T]
theorem RB.sub(h:RB s b r T)(k:Sub s s'):RB s' b r T:=by obtain⟨c,h1,h2,h3⟩:=h;exact⟨c,k _ _ h1,k _ _ h2,h3⟩
theorem RB.rt{c:Nat}(h:s c=some (false,.cells 129 (cmR (tC T))))(h1:r.path=[])(h2:r.cl=[])(h3:r.cm=[tC T]):RtAt s r .nilslc .nilslc (.slc c 0 1 (some 1) 8):=⟨by rw[h1];exact .inl ⟨rfl,rfl⟩,by rw[h2];exact .inl ⟨rfl,rfl⟩,by rw[h3];exact FC.one_row h rfl⟩
theorem RB.put{x:AV}{j:Nat}{r':Rt}{Q:Hq->Prop}(h:RB s b r T)(hj:j<38)(hx:x.one=true)(he:∀m,(r.row .nilslc .nilslc m).set j x=r'.row .nilslc .nilslc m)(h1:r'.path=[])(h2:r'.cl=[])(h3:r'.cm=[tC T])(hQ:∀s',RB s' b r' T->Upto b s s'->Q s'):oK (wr1 s (.ptr b j) x) Q:=by
 obtain⟨c,q1,q2,_⟩:=h;refine qA9 q1 hj hx λs' h' u=>hQ s' ⟨c,?_,?_,h1,h2,h3⟩ u
 ·rw[h',he]
 ·rw[u c (λe=>by rw[e,q1]at q2;cases q2)]
  exact q2
theorem zAE0{bd:Nat}{t0:Bool}(h:t b4=some (t0,.cells 31 (csG N.toG v2 v3 v4 v5 v6 v7)))(hL:FL t N.toG v2 v3 v4 v5 v6 v7)(hb:bd<N.B.length)(hR:R (.int .u32 ((500+bd:Nat):Int))):
  oK (qAF 4 (.ptr b4 0)) λv=>oK (rd1 t v) λv2=>oK (qAH 6 v2 (.int .i64 (bd:Int))) λv3=>oK (qAF 2 v3) λv4=>oK (rd1 t v4) R:=by
 obtain⟨y,hy⟩:∃y,N.B[bd]?=some y:=⟨_,gEY hb⟩
 have hyG:N.toG.B[bd]?=some (bgN bd y):=by show(N.B.mapIdx bgN)[bd]?=_;rw[List.getElem?_mapIdx,hy];rfl
 obtain⟨pb,po,e1,_,e3⟩:=hL.B.get (i:=bd) (r:=bgC (bgN bd y)) (by rw[List.getElem?_map,hyG];rfl);have e4:rd1 t (.ptr pb (po+2))=some (.int .u32 ((500+bd:Nat):Int)):=by rw[e3 2 (by omega)];show some (AV.int .u32 (500+(bd:Int)))=_;rw[show(500:Int)+(bd:Int)=((500+bd:Nat):Int)by omega]
 simp only[qAG,zA,qAA,qAL h,csG4,e1,e4];exact hR
end Go.AM.FI
set_option maxRecDepth 100000
namespace Go.AM.FI
open Go Go.Proofs Go.AM.SG Go.AM.TN
variable {K:AV→Hq→Prop} {s s' S t:Hq} {q m:AV} {cs:List AV} {i n b c:Nat} {k leaf bd:Int} {F:FG} {v2 v3 v4 v5 v6 v7:AV}
theorem qTm{l:List Int}{n:Int}{i:Nat}(h:i<l.length):decide (n∈l.take (i+1))=(decide (n∈l.take i)||(l[i] == n)):=by
 rw[List.take_add_one,gEY h]
 by_cases c:n∈l.take i
 ·rw[decide_eq_true c,decide_eq_true (List.mem_append_left _ c)];rfl
 ·rw[decide_eq_false c,Bool.false_or]
  cases q:(l[i] == n)with
  | true=>
    have q:=eq_of_beq q;exact decide_eq_true (List.mem_append_right _ (by simp[q]))
  | false=>
    have q:l[i]≠n:=by simpa using q
    refine decide_eq_false λh=>?_;rcases mP h with h|h
    ·exact c h
    ·have:n=l[i]:=by simpa using h
     exact q this.symm
theorem qLZ(hF:FabR s cs F)(hS:F.S.length<=64)(hN:∀x∈F.S,x.1.length<=20/\x.2.length<=20)(hK:∀s',Sub s s'->K (.bool (FD.carB F.S leaf bd)) s'):wC TP XX 27 [.agg cs,.int .i64 leaf,.int .i64 bd] K s:=by
 obtain⟨v2,v3,v4,v5,v6,v7,rfl,hL⟩:=hF;refine qGe ⟨hL.all,qAK λb s1 hb q1 u1=>?_⟩;have q1:s1 b=some (false,.cells 31 (csG F v2 v3 v4 v5 v6 v7)):=q1;have k1:=u1.sub hb;have L1:=hL.sub k1;have n5:qAP v5=some F.S.length:=hL.S.len;have r5:rd1 s1 (.ptr b 5)=some v5:=by rw[qAL q1];rfl
 refine⟨λys t m=>∃k:Nat,ys=[.int .i64 (k:Int)]/\t=s1/\k<=F.S.length/\m=F.S.length-k/\FD.carB (F.S.take k) leaf bd=false,⟨_,0,rfl,rfl,by omega,rfl,rfl⟩,?_⟩;rintro f t m ⟨k,hy,rfl,hk,rfl,hno⟩;simp only[cI,and_true]at hy;rw[hy];clear hy;simp only[qD5,qAG,zA,r5,n5,qAQ,qAA];refine qAE (λhlt=>?_) (λhge=>?_)
 rotate_left
 ·have hge:k=F.S.length:=by have:=oF hge;omega
  subst hge;rw[List.take_length]at hno;rw[<- hno];exact hK t k1
 have hlt:k<F.S.length:=by have:=oT hlt;omega
 have hx:F.S[k]?=some F.S[k]:=gEY hlt;generalize F.S[k]=x at hx;obtain⟨N1,N2⟩:=hN x (mG hx);obtain⟨pb,po,l1,l2,e1,_,e3,e4,g1,g2⟩:=L1.S.at hx;have n1:qAP l1=some x.1.length:=by rw[g1.len,qE9]
 have n2:qAP l2=some x.2.length:=by rw[g2.len,qE9]
 have hstep:FD.carB (F.S.take (k+1)) leaf bd=(decide (leaf∈x.1)&&decide (bd∈x.2)):=by rw[List.take_add_one,hx];unfold FD.carB at hno ⊢;rw[List.any_append,hno];simp
 have hall:(decide (leaf∈x.1)&&decide (bd∈x.2))=true->FD.carB F.S leaf bd=true:=λh=>by rw[Bool.and_eq_true,decide_eq_true_eq,decide_eq_true_eq]at h;exact FD.carB_iff.2 ⟨x,mG hx,h.1,h.2⟩
 refine⟨λys t' m=>∃i:Nat,ys=[.bool (decide (leaf∈x.1.take i)),.int .i64 (i:Int)]/\t'=t/\i<=x.1.length/\m=x.1.length-i,⟨_,0,by simp,rfl,by omega,rfl⟩,?_⟩;rintro f1 t1 m1 ⟨i,hy,rfl,hi,rfl⟩;simp only[cI,and_true]at hy;rw[hy.1,hy.2];clear hy;simp only[qDw,qAG,zA,Nat.add_zero,r5,e1,e3,n1,qAQ,qAA];refine qAE (λhlt1=>?_) (λhge1=>?_)
 ·have hlt1:i<x.1.length:=by have:=oT hlt1;omega
  obtain⟨a,c1,c2⟩:=g1.get (i:=i) (by rw[qE9];exact hlt1);rw[qLw hlt1]at c2;simp only[c1,c2,qAA,qAa,qAX,Bool.false_bne];have hm:=qTm (n:=leaf) hlt1;refine qAE (λcc=>?_) (λcc=>?_)
  ·rw[cc,Bool.true_or]at hm
   rw[cc];simp only[qBd,qAc,qAA,qAN];rw[qAV (by omega) (by omega)];exact⟨_,by omega,i+1,by rw[hm];rfl,(by trivial),by omega,rfl⟩
  ·rw[cc,Bool.false_or]at hm
   rw[cc];simp only[qBd,qAU,qAA,qAN];rw[qAV (by omega) (by omega)];exact⟨_,by omega,i+1,by rw[hm];rfl,(by trivial),by omega,rfl⟩
 have hge1:i=x.1.length:=by have:=oF hge1;omega
 subst hge1;rw[List.take_length];refine⟨λys t' m=>∃i:Nat,ys=[.bool (decide (bd∈x.2.take i)),.int .i64 (i:Int)]/\t'=t1/\i<=x.2.length/\m=x.2.length-i,⟨_,0,by simp,rfl,by omega,rfl⟩,?_⟩;rintro f2 t2 m2 ⟨i,hy,rfl,hi,rfl⟩;simp only[cI,and_true]at hy;rw[hy.1,hy.2];clear hy;simp only[qD0,qAG,zA,r5,e1,e4,n2,qAQ,qAA];refine qAE (λhlt1=>?_) (λhge2=>?_)
 ·have hlt1:i<x.2.length:=by have:=oT hlt1;omega
  obtain⟨a,c1,c2⟩:=g2.get (i:=i) (by rw[qE9];exact hlt1);rw[qLw hlt1]at c2;simp only[c1,c2,qAA,qAa,qAX,Bool.false_bne];have hm:=qTm (n:=bd) hlt1;refine qAE (λcc=>?_) (λcc=>?_)
  ·rw[cc,Bool.true_or]at hm
   rw[cc];simp only[qBb,qAc,qAA,qAN];rw[qAV (by omega) (by omega)];exact⟨_,by omega,i+1,by rw[hm];rfl,(by trivial),by omega,rfl⟩
  ·rw[cc,Bool.false_or]at hm
   rw[cc];simp only[qBb,qAU,qAA,qAN];rw[qAV (by omega) (by omega)];exact⟨_,by omega,i+1,by rw[hm];rfl,(by trivial),by omega,rfl⟩
 have hge2:i=x.2.length:=by have:=oF hge2;omega
 subst hge2;rw[List.take_length];have next:FD.carB (F.S.take (k+1)) leaf bd=false->oK (qAB .add (.int .i64 (k:Int)) (.int .i64 1)) λv_44=>∃m',m'<F.S.length-k/\∃k:Nat,[v_44]=[AV.int .i64 (k:Int)]/\True/\k<=F.S.length/\m'=F.S.length-k/\FD.carB (F.S.take k) leaf bd=false:=λh=>by simp only[qAN,qAA];rw[qAV (by omega) (by omega)];exact⟨_,by omega,k+1,rfl,(by trivial),by omega,rfl,h⟩
 refine qAE (λca=>?_) (λca=>?_)
 ·rw[ca,Bool.true_and]at hstep hall
  rw[ca];simp only[qBe,qAc,qAA];refine qAE (λcb=>?_) (λcb=>?_)
  ·have:=hK t2 k1
   rw[hall cb]at this;exact this
  ·exact next (hstep.trans cb)
 ·rw[ca,Bool.false_and]at hstep
  rw[ca];simp only[qBe,qAU,qAA,qAO];exact next hstep
end Go.AM.FI
set_option maxRecDepth 100000
namespace Go.AM.FI
open Go Go.Proofs Go.AM.SG Go.AM.TN
variable {K:AV→Hq→Prop} {s s' t:Hq} {v w q m:AV} {cs:List AV} {i o n b b4 c:Nat} {k g:Int} {F:FG} {P:List Int} {v2 v3 v4 v5 v6 v7:AV}
theorem qXm(z:Sz F)(hv:Valid F)(hF:FabR s cs F)(hi:i<F.B.length)(h32:i<32)(hK:∀s',Sub s s'->K (.int .u32 (4009754625+(i:Int))) s'):wC TP XX 21 [.agg cs,.int .i64 (i:Int)] K s:=by obtain⟨v2,v3,v4,v5,v6,v7,rfl,hL⟩:=hF;refine qLD ⟨hL.all,qAK λb s1 hb q1 u1=>?_⟩;have k1:=u1.sub hb;refine qAD (qAb q1 rfl) (FC.fvalid_in z ⟨v2,v3,v4,v5,v6,v7,rfl,hL.sub k1⟩ λb4 s4 k4 hb4=>?_);rw[hb4.2 ⟨hv,by omega,by omega⟩];have gg:=FE.grp (i:=i) h32;simp only[qAq,Bool.not_true,qAO,qAA,gg.1,qAN,gg.2];exact hK s4 (k1.trans k4)
def xF:FC.Fr:=⟨2199023299073,281474976710655,0,0,0,0,0,0,0,0,0,0,0,0,1⟩
theorem zACj:qGC TP 52 (.agg (FC.frC xF)) (.agg (FC.frC xF))=some true:=by kernel_rfl
theorem qYR{b o n k j:Nat}{l:List AV}(h:rdN s n (.ptr b o)=some l)(hj:j+k<=n):rdN s k (.ptr b (o+j))=some ((l.drop j).take k):=by
 unfold rdN at h ⊢;simp only at h ⊢;split at h
 ·rename_i t e cs hb
  unfold qIm at h ⊢;cases hc:Nat.ble (o+n) cs.length with
  |false=>rw[hc]at h;cases h
  | true=>
    rw[hc]at h;have hle:=Nat.le_of_ble_eq_true hc;cases h;rw[bL (show o+j+k<=cs.length by omega)];simp only[cond_true,Option.some.injEq];apply List.ext_getElem?;intro i;simp only[List.getElem?_take,List.getElem?_drop]
    by_cases hi:i<k
    ·rw[if_pos hi,if_pos hi,if_pos (by omega),Nat.add_assoc]
    ·rw[if_neg hi,if_neg hi]
 ·cases h
theorem qZl{l:Nat}(z:Sz F)(hv:Valid F)(hl:(l:Int)<F.lf)(hi:i<F.B.length)(hF:FabR s cs F)(hP:Sl s v (FE.usl P))(hPl:P.length<=1000)(hg:g=0∨P≠[])(hK:∀s',Sub s s'->K (.bool true) s'):wC TP XX 29 [.agg cs,.int .i64 (l:Int),.agg (FE.flC (i:Int) v g)] K s:=by
 obtain⟨v2,v3,v4,v5,v6,v7,rfl,hL⟩:=hF;have hone:=hP.one;refine qHA ⟨hL.all,qAK λb0 s1 hb0 q1 u1=>⟨by simp[FE.flC,hone],qAK λb2 s3 hb2 q3 u3=>?_⟩⟩;have q1:s1 b0=some (false,.cells 31 (csG F v2 v3 v4 v5 v6 v7)):=q1;have q3:s3 b2=some (false,.cells 44 (FE.flC (i:Int) v g)):=q3;refine qAD (a:=FC.frC xF) rfl (qAK λb5 s6 hb5 h6 u6=>qAT h6 rfl rfl rfl λs7 h7 u7=>?_);have h7:s7 b5=some (false,.cells 52 (FC.frC xF)):=h7;have k3:=u3.sub hb2;have k7:Sub s3 s7:=qAW (u6.sub hb5) u7 hb5;have k17:=(u1.sub hb0).trans (k3.trans k7);have q1:=k7 _ _ (k3 _ _ q1);have q3:=k7 _ _ q3;refine qAD (qAb q1 rfl) (qAD (qAb q3 rfl) (qAD (qAb h7 rfl) ?_));refine FC.Copies_in z ⟨v2,v3,v4,v5,v6,v7,rfl,hL.sub k17⟩ (hP.sub k17) hPl λw s12 k12 hw=>?_;have hLf:=hL.sub (k17.trans k12);have q1:=k12 _ _ q1;have q3:=k12 _ _ q3;have q5:=k12 _ _ h7;have fin:=hK s12 (k17.trans k12);have r0:rd1 s12 (.ptr b2 0)=some (.int .i64 (i:Int)):=by rw[qAL q3];rfl
 have r1:rd1 s12 (.ptr b2 1)=some v:=by rw[qAL q3];rfl
 have r2:rd1 s12 (.ptr b2 2)=some (.int .u32 g):=by rw[qAL q3];rfl
 have r5:rdN s12 15 (.ptr b5 0)=some (FC.frC xF):=qAb q5 rfl;simp only[qAG,zA,r2,qAA,qAa,qAX,Bool.true_bne];have hcp:P≠[]->FC.Cp F (l:Int) (i:Int) P:=λh=>⟨⟨hv,by omega,by omega⟩,by omega,hl,h⟩
 obtain⟨y,hy⟩:∃y,F.B[i]?=some y:=⟨_,gEY hi⟩
 have inner:∀{pb po:Nat}{d:Int},rdN s12 21 (.ptr pb po)=some (FC.pk (FC.lb (l:Int)) (FC.ent xF) (FC.vniOf F (i:Int)) 3 xF d)->rdN s12 15 (.ptr pb (po+6))=some (FC.frC xF):=fun {pb po d} h=>(qYR (j:=6) (k:=15) h (by omega)).trans rfl;cases c:(g == 0)with
 | false=>
   have g0:g≠0:=by simpa using c
   have hP0:P≠[]:=hg.resolve_left g0;rw[FC.cpA_t (hcp hP0)]at hw;unfold FC.cpL at hw;rw[if_neg g0,List.map_cons,List.map_nil]at hw;obtain⟨pb,po,e1,e2,e3⟩:=hw.get (i:=0) rfl;have e1:qAH 21 w (.int .i64 0)=some (.ptr pb po):=e1;have d1:rd1 s12 (.ptr pb (po+1))=some (.int .u32 g):=by rw[e3 1 (by omega)];rfl
   have n1:qAP w=some 1:=hw.len;simp only[Bool.not_false,qAY,n1,qAA];rw[e1,qAA,show(false != (((1:Nat):Int) == 1))=true from rfl,qAY];refine qAD (a:=.ptr pb (po+1)) rfl ?_;rw[d1,qAA];simp only[qAa,beq_self_eq_true,qAX,Bool.false_bne,qAA];unfold qCt;refine qAD (a:=.bool true) rfl ?_;rw[qAY,e1,qAA];refine qAD (a:=.ptr pb (po+6)) rfl ?_;rw[inner e2,qAA,r5,qAA,zACj];refine qAD (a:=.bool true) rfl ?_;unfold qCs;exact qAD (a:=.bool true) rfl fin
 | true=>
   have g0:g=0:=eq_of_beq c;have hL:SlR 21 s12 w (P.map (FC.pk (FC.lb (l:Int)) (FC.ent xF) (FC.vniOf F (i:Int)) 3 xF)):=by
    by_cases hp:P=[]
    ·rw[FC.cpA_f λq=>q.2.2.2 hp]at hw
     rw[hp];exact hw
    ·rw[FC.cpA_t (hcp hp)]at hw
     unfold FC.cpL at hw;rw[if_pos g0]at hw;exact hw
   have nw:qAP w=some P.length:=by rw[hL.len,lMY]
   have hPs:=hP.sub (k17.trans k12);have nv:qAP v=some P.length:=by rw[hPs.len,lMY]
   simp only[Bool.not_true,qAO,nw,nv,r1,qAG,zA,qAA,qAa,beq_self_eq_true,qAX,Bool.true_bne];refine⟨λys t m=>∃j:Nat,ys=[.int .i64 (j:Int)]/\t=s12/\j<=P.length/\m=P.length-j,⟨_,0,rfl,rfl,by omega,rfl⟩,?_⟩;rintro f t m ⟨j,hyy,rfl,hj,rfl⟩;simp only[cI,and_true]at hyy;rw[hyy];clear hyy;simp only[qEH,nw,qAQ,qAA];refine qAE (λhlt=>?_) (λ_=>fin);have hlt:j<P.length:=by have:=oT hlt;omega
   obtain⟨d,hd⟩:∃d,P[j]?=some d:=⟨_,gEY hlt⟩
   obtain⟨pb,po,e1,e2,e3⟩:=hL.get (i:=j) (r:=FC.pk (FC.lb (l:Int)) (FC.ent xF) (FC.vniOf F (i:Int)) 3 xF d) (by rw[List.getElem?_map,hd];rfl);obtain⟨pa,a1,a2⟩:=hPs.get (i:=j) (by rw[lMY];exact hlt);rw[List.getElem?_map,hd]at a2;have d0:rd1 t (.ptr pb po)=some (.int .u32 (FC.lb (l:Int))):=(e3 0 (by omega)).trans rfl;have d1:rd1 t (.ptr pb (po+1))=some (.int .u32 d):=(e3 1 (by omega)).trans rfl;have d2:rd1 t (.ptr pb (po+2))=some (.int .i64 16):=(e3 2 (by omega)).trans rfl;have d4:rd1 t (.ptr pb (po+4))=some (.int .u32 (FC.vniOf F (i:Int))):=(e3 4 (by omega)).trans rfl;have d5:rd1 t (.ptr pb (po+5))=some (.int .u32 3):=(e3 5 (by omega)).trans rfl;obtain⟨vb,vo,f1,_,f3⟩:=(hLf).B.get (i:=i) (r:=bgC y) (by rw[List.getElem?_map,hy];rfl);have f4:rd1 t (.ptr vb (vo+1))=some (.int .u32 (FC.vniOf F (i:Int))):=by rw[f3 1 (by omega),FC.vni_at hy];rfl
   simp only[e1,qAG,Nat.add_zero,zA,d1,r1,a1,a2,Option.map_some,qAA,qAa,beq_self_eq_true,qAX,Bool.true_bne,Bool.not_true,qAO,d0];refine qMY ?_;intro _;rw[qSq];simp only[qAa,beq_self_eq_true,qAX,Bool.true_bne,Bool.not_true,qAA,qAU,qAO,e1,qAG,zA,d4,qAL q1,csG4,r0,f1,f4,d5,d2,inner e2,r5,zACj,qAN];rw[qAV (by omega) (by omega)];exact⟨_,by omega,j+1,rfl,(by trivial),by omega,rfl⟩
end Go.AM.FI
set_option maxRecDepth 100000
namespace Go.AM.FI
open Go Go.Proofs Go.AM.SG Go.AM.TN
variable {F:FG} {k:Int} {R:List Rt} {r a:Rt} {N:NFab} {i n l c bd:Nat}
def inn(N:NFab)(k:Int)(n bd:Nat):List Rt:=((List.range bd).filter λ(b:Nat)=>FD.carB N.toG.S (n:Int) (b:Int)).map λ(b:Nat)=>rtN n (500+b) k
def roN(N:NFab)(k:Int):Nat->List Rt
 | 0=>[]
 |n+1=>roN N k n++inn N k n N.B.length
theorem qYW:inn N k n (bd+1)=inn N k n bd++(if FD.carB N.toG.S (n:Int) (bd:Int)=true then[rtN n (500+bd) k]else[]):=by
 unfold inn;rw[List.range_succ,List.filter_append,List.map_append]
 congr 1
 by_cases h:FD.carB N.toG.S (n:Int) (bd:Int)=true
 ·rw[if_pos h];simp only[List.filter_cons,List.filter_nil,h];rfl
 ·rw[if_neg h];simp only[List.filter_cons,List.filter_nil,h];rfl
theorem qXN:(inn N k n bd).length<=bd:=by unfold inn;rw[lMY];have:=List.length_filter_le (λb:Nat=>FD.carB N.toG.S (n:Int) (b:Int)) (List.range bd);rw[List.length_range]at this;exact this
theorem qS1:∀n,(roN N k n).length<=n*N.B.length
 | 0=>by simp[roN]
 | n+1=>by
   have h1:=qS1 n;have h2:=qXN (N:=N) (k:=k) (n:=n) (bd:=N.B.length);rw[roN,lAp,Nat.succ_mul];omega
theorem zAA6:r∈inn N k n bd↔∃b,b<bd/\FD.carB N.toG.S (n:Int) (b:Int)=true/\r=rtN n (500+b) k:=by
 unfold inn;rw[List.mem_map];constructor
 ·rintro ⟨b,h,rfl⟩
  obtain⟨h1,h2⟩:=List.mem_filter.1 h;exact⟨b,List.mem_range.1 h1,h2,rfl⟩
 ·rintro ⟨b,h1,h2,rfl⟩
  exact⟨b,List.mem_filter.2 ⟨List.mem_range.2 h1,h2⟩,rfl⟩
theorem qNb:∀{n},r∈roN N k n↔∃m b,m<n/\b<N.B.length/\FD.carB N.toG.S (m:Int) (b:Int)=true/\r=rtN m (500+b) k
 | 0=>by simp[roN]
 | n+1=>by
   rw[roN,List.mem_append,qNb,zAA6];constructor
   ·rintro (⟨m,b,h1,h2⟩|⟨b,h1,h2⟩)
    ·exact⟨m,b,by omega,h2⟩
    ·exact⟨n,b,by omega,h1,h2⟩
   ·rintro ⟨m,b,h1,h2,h3,h4⟩
    by_cases e:m=n
    ·subst e;exact .inr ⟨b,h2,h3,h4⟩
    ·exact .inl ⟨m,b,by omega,h2,h3,h4⟩
def wnt(N:NFab)(l i n:Nat):List Int:=((List.range n).filter λ(m:Nat)=>!((m:Int) == (l:Int))&&FD.carB N.toG.S (m:Int) (i:Int)).map λ(m:Nat)=>FC.lb (m:Int)
theorem qZj:wnt N l i (n+1)=wnt N l i n++(if(!((n:Int) == (l:Int))&&FD.carB N.toG.S (n:Int) (i:Int))=true then[FC.lb (n:Int)]else[]):=by
 unfold wnt;rw[List.range_succ,List.filter_append,List.map_append]
 congr 1
 by_cases h:(!((n:Int) == (l:Int))&&FD.carB N.toG.S (n:Int) (i:Int))=true
 ·rw[if_pos h];simp only[List.filter_cons,List.filter_nil,h];rfl
 ·rw[if_neg h];simp only[List.filter_cons,List.filter_nil,h];rfl
theorem qWg:(wnt N l i n).length<=n:=by unfold wnt;rw[lMY];have:=List.length_filter_le (λm:Nat=>!((m:Int) == (l:Int))&&FD.carB N.toG.S (m:Int) (i:Int)) (List.range n);rw[List.length_range]at this;exact this
theorem zAAs{y:Int}:y∈wnt N l i n↔∃m,m<n/\m≠l/\FD.carB N.toG.S (m:Int) (i:Int)=true/\FC.lb (m:Int)=y:=by
 unfold wnt;rw[List.mem_map];constructor
 ·rintro ⟨m,h,rfl⟩
  obtain⟨h1,h2⟩:=List.mem_filter.1 h;rw[Bool.and_eq_true]at h2;refine⟨m,List.mem_range.1 h1,λe=>?_,h2.2,rfl⟩;subst e;have:=h2.1;simp at this
 ·rintro ⟨m,h1,h2,h3,rfl⟩
  refine⟨m,List.mem_filter.2 ⟨List.mem_range.2 h1,?_⟩,rfl⟩;rw[h3,Bool.and_true];simp only[Bool.not_eq_true',beq_eq_false_iff_ne];omega
theorem zABa(h:n<=32):(wnt N l i n).Pairwise (· < ·):=by
 unfold wnt;rw[List.pairwise_map];have:(List.range n).Pairwise λa b=>a<b/\b<32:=by rw[List.pairwise_iff_getElem];intro a b ha hb hab;rw[List.getElem_range,List.getElem_range];rw[List.length_range]at hb;exact⟨hab,by omega⟩
 refine(this.filter _).imp fun {a b} hab=>?_;rw[qXq (by omega),qXq (by omega)];omega
theorem zADm(hN:NFok N){m b:Nat}(hm:m<N.x.lf)(hb:b<N.B.length)(hk:k=6∨k=3):fK N.toG (l:Int) (500+(i:Int)) (rtN m (500+b) k)=true↔m≠l/\b=i:=by
 have hx:=hN.x.lf;have hB:=hN.Bn;show(FE.flB N.toG (l:Int) (rtN m (500+b) k)&&decide (500+(i:Int)∈FE.tgs (rtN m (500+b) k).cm))=true↔_;rw[zACa (by omega),zAAn (by omega)];have hkk:((k == 6)||(k == 3))=true:=by rcases hk with rfl|rfl<;>rfl
 have hlt:decide ((m:Int)<N.toG.lf)=true:=decide_eq_true (show(m:Int)<(N.x.lf:Int)by omega);rw[hkk,hlt,Bool.true_and,Bool.true_and,Bool.and_eq_true,decide_eq_true_eq,List.mem_singleton];simp only[Bool.not_eq_true',beq_eq_false_iff_ne];omega
theorem qVj{k':Int}{R:List Rt}{y:Int}:y∈FE.pL F (l:Int) k' R↔∃r∈R,fK F (l:Int) k' r=true/\r.nx=y:=by have:=(FD.peers_fold (FE.fT F (l:Int) k') (λr:Rt=>r.nx) R [] .nil).2 y;refine this.trans ?_;simp only[List.not_mem_nil,false_or];rfl
theorem zAAU(hN:NFok N)(hk:k=6∨k=3)(hi:i<N.B.length)(hR:∀r,r∈R↔r∈roN N k N.x.lf):FE.pL N.toG (l:Int) (500+(i:Int)) R=wnt N l i N.x.lf:=by
 have hx:=hN.x.lf;refine FD.asc_ext (FD.peersL_asc _ _ _) (zABa (by omega)) λy=>?_;rw[show(y∈FE.pL N.toG (l:Int) (500+(i:Int)) R↔_)from qVj,zAAs];constructor
 ·rintro ⟨r,h1,h2,rfl⟩
  obtain⟨m,b,a1,a2,a3,rfl⟩:=qNb.1 ((hR r).1 h1);obtain⟨e1,rfl⟩:=(zADm hN a1 a2 hk).1 h2;exact⟨m,a1,e1,a3,rfl⟩
 ·rintro ⟨m,a1,a2,a3,rfl⟩
  exact⟨rtN m (500+i) k,(hR _).2 (qNb.2 ⟨m,i,a1,hi,a3,rfl⟩),(zADm hN a1 hi hk).2 ⟨a2,rfl⟩,rfl⟩
theorem zADN(hN:NFok N)(hi:i<N.B.length)(hR:∀r,r∈R↔r∈roN N 3 N.x.lf):FE.tT N.toG (l:Int) (500+(i:Int)) R=decide (wnt N l i N.x.lf≠[]):=by
 have hp:=zAAU (l:=l) hN (.inr rfl) hi hR
 by_cases h:wnt N l i N.x.lf=[]
 ·rw[decide_eq_false (by simp[h])]
  unfold FE.tT FD.treeT;rw[Bool.eq_false_iff];intro q;rw[List.any_eq_true]at q;obtain⟨r,h1,h2⟩:=q;rw[Bool.and_eq_true]at h2;have:r.nx∈FE.pL N.toG (l:Int) (500+(i:Int)) R:=qVj.2 ⟨r,h1,h2.1,rfl⟩;rw[hp,h]at this;cases this
 ·rw[decide_eq_true h]
  obtain⟨y,hy⟩:=List.exists_mem_of_ne_nil _ h;rw[<- hp]at hy;obtain⟨r,h1,h2,_⟩:=qVj.1 hy;unfold FE.tT FD.treeT;rw[List.any_eq_true];refine⟨r,h1,?_⟩;obtain⟨m,b,_,_,_,rfl⟩:=qNb.1 ((hR r).1 h1);rw[Bool.and_eq_true];exact⟨h2,rfl⟩
theorem qZg(hN:NFok N)(hk:k=if N.x.tr then 3 else 6)(hi:i<N.B.length)(hR:∀r,r∈R↔r∈roN N k N.x.lf):FE.fldG N.toG (l:Int) R i=if FD.carB N.toG.S (l:Int) (i:Int)=true then some (i,wnt N l i N.x.lf,if(N.x.tr&&decide (wnt N l i N.x.lf≠[]))=true then 4009754625+(i:Int)else 0)else none:=by
 unfold FE.fldG;rw[zAEj hi,show N.toG.tr=N.x.tr from rfl];have hk2:k=6∨k=3:=by rw[hk];cases N.x.tr<;>simp
 rw[zAAU hN hk2 hi hR];cases c:N.x.tr with
 |false=>rfl
 | true=>
   rw[c]at hk;have hk:k=3:=hk;subst hk;rw[zADN hN hi hR]
theorem qTJ:∀{m:Nat},n<=m->∃L,FE.fldN F (l:Int) R m=FE.fldN F (l:Int) R n++L
 | 0,h=>⟨[],by rw[Nat.le_zero.1 h,List.append_nil]⟩
 | m+1,h=>by
   by_cases e:n=m+1
   ·exact⟨[],by rw[e,List.append_nil]⟩
   ·obtain⟨L,hL⟩:=qTJ (m:=m) (by omega)
    exact⟨L++(FE.fldG F (l:Int) R m).toList,by rw[FE.fldN_succ,hL,List.append_assoc]⟩
end Go.AM.FI
set_option maxRecDepth 100000
namespace Go.AM.FI
open Go Go.Proofs Go.AM.SG Go.AM.TN
variable {c:Nat} {r:Rt}
abbrev rowS(r:Rt)(c:Nat):List AV:=r.row .nilslc .nilslc (.slc c 0 1 (some 1) 8)
end Go.AM.FI
set_option maxRecDepth 100000
namespace Go.AM.FI
open Go Go.Proofs Go.AM.SG Go.AM.TN
variable {K:AV→Hq→Prop} {s s' t H:Hq} {v w y q:AV} {i n T b c:Nat} {k:Int} {R:List Rt} {r:Rt}
theorem take_nil{es k:Nat}(hk:k<=0)(h:SlR es s v []):∃v',qCM es v none (some (.int .i64 (k:Int))) none=some v'/\SlR es s v' []:=by
 obtain⟨hr,q⟩:=h;have e:k=0:=by omega
 rcases q with⟨rfl,_⟩|⟨b,off,cap,rfl,hc,_⟩
 ·subst e
  exact⟨.nilslc,rfl,hr,.inl ⟨rfl,rfl⟩⟩
 ·cases cap with
  | none=>
    refine⟨.slc b off k none es,by simp[qCM,bound,bL hk],?_⟩;subst e;exact⟨hr,.inr ⟨b,off,none,rfl,(λc h=>by cases h),λh=>absurd rfl h⟩⟩
  | some cc=>
    refine⟨.slc b off k (some cc) es,by simp[qCM,bound,bL (Nat.le_trans hk (Nat.zero_le cc))],?_⟩;subst e;exact⟨hr,.inr ⟨b,off,some cc,rfl,(λc h=>by simp),λh=>absurd rfl h⟩⟩
theorem drop_nil{es k:Nat}(hk:k<=0)(h:SlR es s v []):∃v',qCM es v (some (.int .i64 (k:Int))) none none=some v'/\SlR es s v' []:=by
 obtain⟨hr,q⟩:=h;have e:k=0:=by omega
 rcases q with⟨rfl,_⟩|⟨b,off,cap,rfl,hc,_⟩
 ·subst e
  exact⟨.nilslc,rfl,hr,.inl ⟨rfl,rfl⟩⟩
 ·cases cap with
  | none=>
    refine⟨.slc b (off+k*es) 0 none es,by simp[qCM,bound,bL hk],?_⟩;exact⟨hr,.inr ⟨b,_,none,rfl,(λc h=>by cases h),λh=>absurd rfl h⟩⟩
  | some cc=>
    refine⟨.slc b (off+k*es) 0 (some (cc-k)) es,by simp[qCM,bound,bL hk],?_⟩;exact⟨hr,.inr ⟨b,_,some (cc-k),rfl,(λc h=>by simp),λh=>absurd rfl h⟩⟩
theorem zAEO{es:Nat}{rows:List (List AV)}(h:SlR es s v rows){k:Nat}(hk:k<=rows.length):∃v',qCM es v none (some (.int .i64 (k:Int))) none=some v'/\SlR es s v' (rows.take k):=by
 by_cases q:rows=[]
 ·subst q
  rw[List.take_nil];exact take_nil (by simpa using hk) h
 ·obtain⟨v',h1,h2,_⟩:=h.take hk q
  exact⟨v',h1,h2⟩
theorem zAEP{es:Nat}{rows:List (List AV)}(h:SlR es s v rows){k:Nat}(hk:k<=rows.length):∃v',qCM es v (some (.int .i64 (k:Int))) none none=some v'/\SlR es s v' (rows.drop k):=by
 by_cases q:rows=[]
 ·subst q
  rw[List.drop_nil];exact drop_nil (by simpa using hk) h
 ·obtain⟨v',h1,h2,_⟩:=h.drop hk q
  exact⟨v',h1,h2⟩
theorem qYj(hT:T<4294967296)(hG:GlK s)(hK:∀c s',Sub s s'->s c=none->s' c=some (false,.cells 129 (cmR (tC T)))->K (.agg ((rtN i T k).row .nilslc .nilslc (.slc c 0 1 (some 1) 8))) s'):wC TP XX 24 [.int .i64 (i:Int),.int .u32 (T:Int),.int .i64 k] K s:=by
 refine qHJ (qAK λb0 s1 hb0 h1 u1=>qMY ?_);have k1:=u1.sub hb0;refine qAD (a:=(rtN i T k).N) rfl (qMY (qWk hT (hG.sub k1) λs8 k8=>?_));refine qAD (a:=cmR (tC T)) rfl ⟨rfl,qAK λb10 s11 hb10 h11 u11=>?_⟩;have k11:=k8.trans (u11.sub hb10);refine qAD (a:=(rtN i T k).T) rfl (qAD (a:=(rtN i T k).A .nilslc .nilslc (.slc b10 0 1 (some 1) 8)) rfl (qAD (a:=(rtN i T k).row .nilslc .nilslc (.slc b10 0 1 (some 1) 8)) rfl ?_));refine qAT (k11 _ _ h1) rfl rfl rfl λs15 h15 u15=>qAD (qAb h15 rfl) ?_;have k15:Sub s s15:=qAW (k1.trans k11) u15 hb0;have hc:s15 b10=some (false,.cells 129 (cmR (tC T))):=by rw[u15 b10 (λe=>by rw[e,k8 _ _ h1]at hb10;cases hb10)];exact h11
 exact hK b10 s15 k15 (TN.qAv (k1.trans k8) hb10) hc
theorem qZk{w:AV}{rows:List (List AV)}{sb t t2:Hq}(h:AccR 81 38 sb t w rows)(hs:Sub sb t)(k:Sub t t2):Sub sb (offV w t2)/\Sub (offV w t2) t2/\AccR 81 38 (offV w t2) t2 w rows:=by
 refine⟨λi y hi=>?_,qKd,h.1,?_⟩
 ·rw[qFr λb o n c e q=>?_]
  ·exact k _ _ (hs i y hi)
  ·rcases h.2 with⟨r,_⟩|⟨d,h0,r,_⟩
   ·rw[r]at q;cases q
   ·rw[r]at q;cases q
    exact qDG h0 hi
 ·rcases h.2 with h|⟨d,h0,r,h1⟩
  ·exact .inl h
  ·refine .inr ⟨d,?_,r,k _ _ h1⟩
   rw[r];exact if_pos rfl
abbrev Rc:=Rt×Nat×Nat
def rcL(xs:List Rc):List (List AV):=xs.map λx=>rowS x.1 x.2.1
def RcAt(s:Hq)(xs:List Rc):Prop:=∀x∈xs,s x.2.1=some (false,.cells 129 (cmR (tC x.2.2)))/\x.1.path=[]/\x.1.cl=[]/\x.1.cm=[tC x.2.2]
theorem RcAt.sub{xs:List Rc}(h:RcAt s xs)(k:Sub s s'):RcAt s' xs:=λx hx=>⟨k _ _ (h x hx).1,(h x hx).2⟩
theorem zADO{xs:List Rc}(h:SlR 38 s v (rcL xs))(hx:RcAt s xs):Rts s v (xs.map (·.1)):=by
 refine⟨rcL xs,h,by simp[rcL],λi r hr=>?_⟩;rw[List.getElem?_map]at hr;cases q:xs[i]? with
 |none=>rw[q]at hr;cases hr
 | some x=>
   rw[q]at hr;cases hr;obtain⟨h1,h2,h3,h4⟩:=hx x (mG q);exact⟨_,_,_,by unfold rcL;rw[List.getElem?_map,q];rfl,RB.rt h1 h2 h3 h4⟩
def OwR(H t:Hq)(w:AV)(R:List Rt):Prop:=∃(sb:Hq) (xs:List Rc),Sub H sb/\Sub sb t/\AccR 81 38 sb t w (rcL xs)/\xs.map (·.1)=R/\RcAt sb xs
theorem OwR.old(h:OwR H t w R):Sub H t:=by obtain⟨sb,xs,h1,h2,_⟩:=h;exact h1.trans h2
theorem OwR.sub(h:OwR H s w R)(k:Sub s s'):OwR H s' w R:=by obtain⟨sb,xs,h1,h2,h3,h4⟩:=h;exact⟨sb,xs,h1,h2.trans k,h3.sub k,h4⟩
theorem OwR.fin(h:OwR H s w R):∃xs:List Rc,SlR 38 s w (rcL xs)/\RcAt s xs/\xs.map (·.1)=R:=by obtain⟨sb,xs,h1,h2,h3,h4,h5⟩:=h;exact⟨xs,h3.sl,h5.sub h2,h4⟩
theorem OwR.put{t2:Hq}(h:OwR H t w R)(kk:Sub t t2)(hc:t2 c=some (false,.cells 129 (cmR (tC T))))(hfr:t c=none)(hy:SlR 38 t2 y [rowS (rtN n T k) c])(hl:R.length<=1000)(hK:∀v' s',OwR H s' v' (R ++ [rtN n T k])->K v' s'):appK 81 38 w y K t2:=by
 obtain⟨sb,xs,h1,h2,h3,h4,h5⟩:=h;obtain⟨o1,o2,o3⟩:=qZk h3 h2 kk;have hc':TN.offV w t2 c=some (false,.cells 129 (cmR (tC T))):=by
  rw[TN.qFr λb' o' n c' e' q=>?_]
  ·exact hc
  ·rcases h3.2 with⟨r,_⟩|⟨d,_,r,hd⟩
   ·rw[r]at q;cases q
   ·rw[r]at q
    cases q;rintro rfl;rw[hfr]at hd;cases hd
 have hlen:(rcL xs).length=R.length:=by rw[<- h4];simp[rcL]
 refine o3.app hy (by simp) (by rw[hlen];simp;omega) o2 λv' s' a q=>hK v' s' ⟨TN.offV w t2,xs ++ [(rtN n T k,c,T)],h1.trans o1,q,by simpa [rcL]using a,by simp[h4],λx hx=>?_⟩;rcases mP hx with hx|hx
 ·exact h5.sub o1 x hx
 ·have:x=(rtN n T k,c,T):=by simpa using hx
  rw[this];exact⟨hc',rfl,rfl,rfl⟩
end Go.AM.FI
set_option maxRecDepth 100000
namespace Go.AM.FI
open Go Go.Proofs Go.AM.SG Go.AM.TN
end Go.AM.FI
set_option maxRecDepth 100000
namespace Go.AM.FI
open Go Go.Proofs
variable {s:Hq} {v:AV}
theorem wf64{n:Int}(h:(Lit.int .i64 n).wf=true):-9223372036854775808<=n/\n<=9223372036854775807:=by unfold Lit.wf at h;simpa [IntKind.min,IntKind.max,IntKind.bits,IntKind.signed]using h
theorem arg_ints{d:Nat}(h:Arg TP s (d+2) 63 v):∃l:List Int,Sl s v (l.map (AV.int .i64))/\(∀x∈l,-9223372036854775808<=x/\x<=9223372036854775807)/\l.length<=maxLen:=
 qWs (d:=d+1) Tryz.underlying63 (by kernel_rfl) (AV.int .i64) (λn=>-9223372036854775808<=n/\n<=9223372036854775807) (λxs h=>by obtain⟨n,e,w⟩:=zABc Tryz.underlying3 h;exact⟨n,e,wf64 w⟩) h
end Go.AM.FI
namespace Go.AM
open Go Go.Proofs
end Go.AM
set_option maxRecDepth 100000
namespace Go.AM.FI
open Go Go.Proofs Go.AM.SG Go.AM.TN
variable {K:AV→Hq→Prop} {s s' S t H:Hq} {v w y m:AV} {i n b b4 c:Nat} {k:Int} {N:NFab} {v2 v3 v4 v5 v6 v7:AV}
def foR(leaf1 cut2 ok7 t8 routes10:AV)(K:AV->Hq->Prop)(s:Hq):Prop:=
 oK (qAP routes10) λv_38=>
  oK (qAB .add (.int .i64 v_38) (.int .i64 1)) λv_40=>
  wC TP XX 26 [cut2,v_40] (λv_41 s_42=>
  oK (qBC (repl 0 [(.int .i64 0),(.int .u64 0),(.int .u8 0),(.int .u8 0),(.int .u8 0),(.int .u8 0),(.int .u8 0),(.int .u8 0),(.int .u8 0),(.int .u8 0),(.int .u8 0),(.int .u8 0),(.int .u32 0),(.int .u64 0),(.int .u32 0),(.bool false),(.int .u32 0),(.int .i64 0),(.int .u32 0),(.int .u32 0),(.int .u32 0),(.int .i64 0),.nilslc,(.int .u32 0),(.bool false),(.int .u32 0),(.bool false),(.int .u32 0),(.bool false),(.int .u32 0),.nilslc,.nilslc,(.int .i64 0),(.int .u32 0),(.int .u32 0),(.int .u32 0),(.int .u32 0),(.bool false)]) []) λc_43=>qAZ c_43=true/\newK 81 c_43 (λb_44 s_45=>
  oK (qCM 38 routes10 (some v_41) none none) λv_46=>
  appK 81 38 (.slc b_44 0 0 (some 0) 38) v_46 (λv_47 s_48=>
  oK (qCM 38 routes10 none (some v_41) none) λv_49=>
  appK 81 38 v_47 v_49 (λv_50 s_51=>
  oK (qCM 38 routes10 none (some v_41) none) λv_52=>
  appK 81 38 v_50 v_52 (λv_53 s_54=>
  oK (rdN s_54 19 t8) λv_55=>
  wC TP XX 12 [(.agg v_55),leaf1,v_53] (λv_56 s_57=>
  ∃I4:List AV->Hq->Nat->Prop,(∃m,I4 [(.int .i64 0),(.int .i64 0)] s_57 m)/\∀(f:Env) (s:Hq) (m4:Nat),I4 [f 14,f 15] s m4->
   qBy XX leaf1 ok7 t8 v_56 (f 14) (f 15) I4 m4 K s) s_54) s_51) s_48) s_45) s_42) s
theorem qS2:N.toG.B.length=N.B.length:=by show(N.B.mapIdx bgN).length=_;rw[List.length_mapIdx]
theorem zABn:N.toG.S.length=N.S.length:=by show(N.S.map _).length=_;rw[lMY]
theorem qTw(hN:NFok N):∀x∈N.toG.S,x.1.length<=20/\x.2.length<=20:=λx hx=>by have hx:x∈N.S.map λx=>(ni x.1,ni x.2):=hx;obtain⟨y,hy,rfl⟩:=List.mem_map.1 hx;obtain⟨_,_,_,a4,_,_,_,a8⟩:=hN.S y hy;simp only[ni,lMY];omega
theorem qZ6{t0:Bool}{leafV cutV okV:AV}(hN:NFok N)(h6:H b4=some (t0,.cells 31 (csG N.toG v2 v3 v4 v5 v6 v7)))(L:FL H N.toG v2 v3 v4 v5 v6 v7)(G:GlK H)(hR:∀w t,OwR H t w (roN N k N.x.lf)->foR leafV cutV okV (.ptr b4 0) w K t):qB3 XX leafV cutV okV (.ptr b4 0) (.int .i64 k) K H:=by
 have hx:=hN.x.lf;have hB:=hN.Bn;have hS:=hN.Sn;have hS64:N.toG.S.length<=64:=by rw[zABn];omega
 have n4:qAP v4=some N.B.length:=by rw[L.B.len,lMY];exact congrArg some qS2
 refine⟨λys t m=>∃(n:Nat) (w:AV),ys=[w,.int .i64 (n:Int)]/\n<=N.x.lf/\m=N.x.lf-n/\OwR H t w (roN N k n),⟨_,0,_,rfl,by omega,rfl,H,[],.refl _,.refl _,⟨by simp[rcL],.inl ⟨rfl,rfl⟩⟩,rfl,λx hx=>by cases hx⟩,?_⟩;rintro f t m ⟨n,w,hy,hn,rfl,ow⟩;simp only[cI,and_true]at hy;rw[hy.1,hy.2];clear hy;unfold qC2;have q0:=ow.old _ _ h6;refine qAD (a:=.ptr b4 0) rfl (qAD (a:=.int .i64 (N.x.lf:Int)) (by rw[qAL q0];rfl) ?_);rw[qAQ,qAA];refine qAE (λhlt=>?_) (λhge=>?_)
 rotate_left
 ·have hge:n=N.x.lf:=by have:=oF hge;omega
  subst hge;exact hR w t ow
 have hlt:n<N.x.lf:=by have:=oT hlt;omega
 refine⟨λys t m=>∃(bd:Nat) (w:AV),ys=[w,.int .i64 (bd:Int)]/\bd<=N.B.length/\m=N.B.length-bd/\OwR H t w (roN N k n++inn N k n bd),⟨_,0,_,rfl,by omega,rfl,by rw[show inn N k n 0=[]from rfl,List.append_nil];exact ow⟩,?_⟩;rintro f t1 m1 ⟨bd,w1,hy,hbd,rfl,ow1⟩;simp only[cI,and_true]at hy;rw[hy.1,hy.2];clear hy;have q1:=ow1.old _ _ h6;unfold qC3;refine qAD (a:=.ptr b4 4) rfl (qAD (a:=v4) (by rw[qAL q1];rfl) (qAD n4 ?_));rw[qAQ,qAA];have hro:=qS1 (N:=N) (k:=k) n;have hin:=qXN (N:=N) (k:=k) (n:=n) (bd:=bd);have hmul:n*N.B.length<=32*4:=Nat.mul_le_mul (by omega) hB.2;refine qAE (λhlb=>?_) (λhgb=>?_)
 rotate_left
 ·have hge:bd=N.B.length:=by have:=oF hgb;omega
  subst hge;rw[qAN,qAA,qAV (by omega) (by omega)];exact⟨_,by omega,n+1,w1,rfl,by omega,rfl,ow1⟩
 have hlb:bd<N.B.length:=by have:=oT hlb;omega
 refine qAD (qAb q1 rfl) (qLZ ⟨v2,v3,v4,v5,v6,v7,rfl,L.sub ow1.old⟩ hS64 (qTw hN) λs2 k2=>?_);have hsucc:=qYW (N:=N) (k:=k) (n:=n) (bd:=bd);have next:∀{w':AV}{t':Hq},OwR H t' w' (roN N k n++inn N k n (bd+1))->qBJ XX w' (.int .i64 (bd:Int)) (λys t m=>∃(bd:Nat) (w:AV),ys=[w,.int .i64 (bd:Int)]/\bd<=N.B.length/\m=N.B.length-bd/\OwR H t w (roN N k n++inn N k n bd)) (N.B.length-bd) (λys t m=>∃(n:Nat) (w:AV),ys=[w,.int .i64 (n:Int)]/\n<=N.x.lf/\m=N.x.lf-n/\OwR H t w (roN N k n)) (N.x.lf-n) K t':=fun {w' t'} h=>by unfold qBJ;rw[qAN,qAA,qAV (by omega) (by omega)];exact⟨_,by omega,bd+1,w',rfl,by omega,rfl,h⟩
 refine qAE (λc=>?_) (λc=>?_)
 rotate_left
 ·rw[if_neg (by rw[c];simp),List.append_nil]at hsucc
  exact next (by rw[hsucc];exact ow1.sub k2)
 rw[if_pos c]at hsucc;have k02:=ow1.old.trans k2;refine zAE0 (k02 _ _ h6) (L.sub k02) hlb ?_;refine qYj (by omega) (G.sub k02) λcc s3 k3 hc hc0=>?_;refine qAD (a:=rowS (rtN n (500+bd) k) cc) (FC.fill_one rfl) ⟨rfl,qAK λb33 s34 hb33 h34 u34=>?_⟩;have k34:=u34.sub hb33;refine(ow1.sub k2).put (k3.trans k34) (k34 _ _ hc0) hc (FC.one_row h34 rfl) (by rw[lAp];omega) λv' s' a=>next ?_;rw[hsucc,<- List.append_assoc];exact a
theorem zABw{L:List FE.FlE}{e:FE.FlE}(h:FE.FlA s v L)(hi:L[i]?=some e):∃pb po u,qAH 3 v (.int .i64 (i:Int))=some (.ptr pb po)/\rdN s 3 (.ptr pb po)=some (FE.flC (e.1:Int) u e.2.2)/\rd1 s (.ptr pb po)=some (.int .i64 (e.1:Int))/\rd1 s (.ptr pb (po+1))=some u/\rd1 s (.ptr pb (po+2))=some (.int .u32 e.2.2)/\Sl s u (FE.usl e.2.1):=by obtain⟨rows,h1,h2,h3⟩:=h;obtain⟨u,a,b⟩:=h3 i e hi;obtain⟨pb,po,e1,e2,e3⟩:=h1.get a;exact⟨pb,po,u,e1,e2,(e3 0 (by omega)).trans rfl,(e3 1 (by omega)).trans rfl,(e3 2 (by omega)).trans rfl,b⟩
end Go.AM.FI
set_option maxRecDepth 100000
namespace Go.AM.FI
open Go Go.Proofs Go.AM.SG Go.AM.TN
variable {K:AV→Hq→Prop} {s s' s0 S t H:Hq} {v w q m:AV} {i n l b b4 c:Nat} {k:Int} {N:NFab} {R:List Rt} {r:Rt} {v2 v3 v4 v5 v6 v7:AV}
def gOf(N:NFab)(l i:Nat):Int:=if(N.x.tr&&decide (wnt N l i N.x.lf≠[]))=true then 4009754625+(i:Int)else 0
theorem zACt{t0:Bool}{I4:List AV->Hq->Nat->Prop}{m4 j bd:Nat}{L:List FE.FlE}(hN:NFok N)(hl:l<N.x.lf)(hbd:bd<N.B.length)(h6:s b4=some (t0,.cells 31 (csG N.toG v2 v3 v4 v5 v6 v7)))(hL:FL s N.toG v2 v3 v4 v5 v6 v7)(hA:FE.FlA s v L)(he:L[j]?=some (bd,wnt N l bd N.x.lf,gOf N l bd))(hj:j<1000)
  (hI:∀s',Sub s s'->∃m',m'<m4/\I4 [.int .i64 ((j+1:Nat):Int),.int .i64 ((bd+1:Nat):Int)] s' m'):∃I7:List AV->Hq->Nat->Prop,(∃m,I7 [.nilslc,(.int .i64 0)] s m)/\∀(f:Env) (s:Hq) (m7:Nat),I7 [f 16,f 17] s m7->
   qB1 XX (.int .i64 (l:Int)) (.ptr b4 0) v (.int .i64 (j:Int)) (.int .i64 (bd:Int)) (f 16) (f 17) I7 m7 I4 m4 K s:=by
 have hx:=hN.x.lf;have hB:=hN.Bn;have hS:=hN.Sn;have hS64:N.toG.S.length<=64:=by rw[zABn];omega
 refine⟨λys t m=>∃(n:Nat) (w:AV),ys=[w,.int .i64 (n:Int)]/\n<=N.x.lf/\m=N.x.lf-n/\Acc 42 s t w (FE.usl (wnt N l bd n))/\Sub s t,⟨_,0,_,rfl,by omega,rfl,.inl ⟨rfl,rfl⟩,.refl _⟩,?_⟩;rintro f t m ⟨n,w,hy,hn,rfl,acc,kt⟩;simp only[cI,and_true]at hy;rw[hy.1,hy.2];clear hy;have q0:=kt _ _ h6;have hF:FabR t (csG N.toG v2 v3 v4 v5 v6 v7) N.toG:=⟨v2,v3,v4,v5,v6,v7,rfl,hL.sub kt⟩
 have hlen:=qWg (N:=N) (l:=l) (i:=bd) (n:=n);have hsucc:=qZj (N:=N) (l:=l) (i:=bd) (n:=n);unfold qB1;refine qAD (a:=.ptr b4 0) rfl (qAD (a:=.int .i64 (N.x.lf:Int)) (by rw[qAL q0];rfl) ?_);rw[qAQ,qAA];refine qAE (λhlt=>?_) (λhge=>?_)
 ·have hlt:n<N.x.lf:=by have:=oT hlt;omega
  have j8:∀{c:Bool}{t118:AV}{b:Bool}{t':Hq},qAS (.bool b) t118 (.bool false)=some (.bool c)->(c=(!((n:Int) == (l:Int))&&FD.carB N.toG.S (n:Int) (bd:Int)))->Sub t t'->qBH XX w (.int .i64 (n:Int)) (.bool b) t118 (λys t m=>∃(n:Nat) (w:AV),ys=[w,.int .i64 (n:Int)]/\n<=N.x.lf/\m=N.x.lf-n/\Acc 42 s t w (FE.usl (wnt N l bd n))/\Sub s t) (N.x.lf-n) I4 m4 K t':=fun {c t118 b t'} hp hc kt'=>by
   have j9:∀{w':AV}{t2:Hq},Acc 42 s t2 w' (FE.usl (wnt N l bd (n+1)))->Sub s t2->qBD XX w' (.int .i64 (n:Int)) (λys t m=>∃(n:Nat) (w:AV),ys=[w,.int .i64 (n:Int)]/\n<=N.x.lf/\m=N.x.lf-n/\Acc 42 s t w (FE.usl (wnt N l bd n))/\Sub s t) (N.x.lf-n) I4 m4 K t2:=fun {w' t2} a k2=>by unfold qBD;rw[qAN,qAA,qAV (by omega) (by omega)];exact⟨_,by omega,n+1,w',rfl,by omega,rfl,a,k2⟩
   unfold qBH;rw[hp,qAA];refine qAE (λcc=>?_) (λcc=>?_)
   ·rw[if_pos (hc.symm.trans cc)]at hsucc
    refine qMY (FE.app1_in rfl (FC.Acc_sub acc kt') (kt.trans kt') (by omega) λv' s' a ks=>j9 ?_ ks);rw[hsucc];exact a
   ·rw[if_neg (by rw[<- hc,cc];simp),List.append_nil]at hsucc
    exact j9 (by rw[hsucc];exact FC.Acc_sub acc kt') (kt.trans kt')
  simp only[qAa,qAX,Bool.true_bne,qAA];refine qAE (λc1=>?_) (λc1=>?_)
  ·refine qAD (qAb q0 rfl) (qLZ hF hS64 (qTw hN) λs2 k2=>?_)
   rw[c1]at j8 ⊢;exact j8 rfl (by rw[Bool.true_and]) k2
  ·rw[c1]at j8 ⊢
   exact j8 rfl (by rw[Bool.false_and]) (.refl _)
 have hge:n=N.x.lf:=by have:=oF hge;omega
 subst hge;have nw:qAP w=some (wnt N l bd N.x.lf).length:=by rw[acc.sl.len,lMY]
 obtain⟨pb,po,u,e1,e2,e3,e4,e5,e6⟩:=zABw (hA.sub kt) he;have j11:∀{g:Int}{t2:Hq},g=gOf N l bd->Sub t t2->qBA XX (.int .i64 (l:Int)) (.ptr b4 0) v (.int .i64 (j:Int)) (.int .i64 (bd:Int)) w (.int .u32 g) I4 m4 K t2:=fun {g t2} hg k2=>by
  subst hg;obtain⟨pb,po,u,e1,e2,e3,e4,e5,e6⟩:=zABw (hA.sub (kt.trans k2)) he;unfold qBA;refine qAD e1 (qAD (a:=.ptr pb (po+1)) rfl (qAD e4 ?_));refine FE.SameIPs_in e6 (acc.sl.sub k2) (show(wnt N l bd N.x.lf).length<=1000 by omega) ?_;refine qAD (a:=.bool false) rfl ?_;rw[qAO];refine qAD e1 (qAD (a:=.ptr pb (po+2)) rfl (qAD e5 ?_));simp only[qAa,beq_self_eq_true,qAX,Bool.true_bne,Bool.not_true,qAA];unfold qBk;refine qAD (a:=.bool false) rfl ?_;rw[qAO];refine qAD (qAb (k2 _ _ q0) rfl) (qAD e1 (qAD e2 ?_));have hl':(l:Int)<N.toG.lf:=show(l:Int)<(N.x.lf:Int)by omega
  refine qZl hN.sz hN.valid hl' (by rw[qS2];exact hbd) ⟨v2,v3,v4,v5,v6,v7,rfl,hL.sub (kt.trans k2)⟩ e6 (by have:=qWg (N:=N) (l:=l) (i:=bd) (n:=N.x.lf);show(wnt N l bd N.x.lf).length<=1000;omega) ?_ λs3 k3=>?_
  ·show gOf N l bd=0∨wnt N l bd N.x.lf≠[]
   unfold gOf;split
   ·rename_i h
    rw[Bool.and_eq_true,decide_eq_true_eq]at h;exact .inr h.2
   ·exact .inl rfl
  refine qAD (a:=.bool false) rfl ?_;unfold qBo;refine qAD (a:=.bool false) rfl ?_;rw[qAO,qAN,qAA,qAV (by omega) (by omega)];unfold qBG;rw[qAN,qAA,qAV (by omega) (by omega)];exact hI s3 (kt.trans (k2.trans k3))
 refine qAD (a:=.ptr b4 12) rfl (qAD (a:=.bool N.x.tr) (by rw[qAL q0];rfl) ?_);have hw:∀b:Bool,(decide ((0:Int)<((wnt N l bd N.x.lf).length:Int))=b)->decide (wnt N l bd N.x.lf≠[])=b:=λb h=>by rw[<- h];cases wnt N l bd N.x.lf<;>simp
 cases c1:N.x.tr with
 | false=>
   rw[qAO];unfold qBB;refine qAD (a:=.bool false) rfl ?_;rw[qAO];exact j11 (by unfold gOf;rw[c1];rfl) (.refl _)
 | true=>
   rw[qAY];refine qAD nw ?_;simp only[qBf,qAA];unfold qBB;cases c2:decide ((0:Int)<((wnt N l bd N.x.lf).length:Int))with
   | true=>
     refine qAD (a:=.bool true) rfl ?_;rw[qAY];refine qAD (qAb q0 rfl) (qXm hN.sz hN.valid hF (by rw[qS2];exact hbd) (by omega) λs2 k2=>j11 ?_ k2);unfold gOf;rw[c1,hw _ c2];rfl
   | false=>
     refine qAD (a:=.bool false) rfl ?_;rw[qAO];refine j11 ?_ (.refl _);unfold gOf;rw[c1,hw _ c2];rfl
theorem zAAS{t0:Bool}(hN:NFok N)(hl:l<N.x.lf)(hk:k=if N.x.tr then 3 else 6){a2:Int}(h2:-9223372036854775808<=a2/\a2<=9223372036854775807)(h6:H b4=some (t0,.cells 31 (csG N.toG v2 v3 v4 v5 v6 v7)))(hL:FL H N.toG v2 v3 v4 v5 v6 v7)(hG:GlK H)(ow:OwR H s w (roN N k N.x.lf))(hK:∀s',K (.bool true) s'):foR (.int .i64 (l:Int)) (.int .i64 a2) (.bool true) (.ptr b4 0) w K s:=by
 have hx:=hN.x.lf;have hB:=hN.Bn;have hS:=hN.Sn;have hS64:N.toG.S.length<=64:=by rw[zABn];omega
 have old:=ow.old;have hro:=qS1 (N:=N) (k:=k) N.x.lf;have hmul:N.x.lf*N.B.length<=4*4:=Nat.mul_le_mul hx.2 hB.2;obtain⟨xs,f1,f2,f3⟩:=ow.fin;have hxs:xs.length=(roN N k N.x.lf).length:=by rw[<- f3,lMY]
 have hrc:(rcL xs).length=xs.length:=by simp[rcL]
 unfold foR;refine qAD f1.len ?_;rw[qAN,qAA,qAV (by omega) (by omega),show(((rcL xs).length:Nat):Int)+1=(((rcL xs).length+1:Nat):Int)from rfl];refine qWL (n:=(rcL xs).length+1) h2 (by omega) (by omega) λcut hcut=>?_;have hcut:cut<=(rcL xs).length:=by omega
 refine qAD (a:=[]) rfl ⟨rfl,qAK λb44 s45 hb44 _ u45=>?_⟩;have k45:=u45.sub hb44;obtain⟨v46,d1,d2⟩:=zAEP f1 hcut;obtain⟨v49,e1,e2⟩:=zAEO f1 hcut;refine qAD d1 (qPQ (s0:=s) (.inl ⟨rfl,b44,rfl⟩) (d2.sub k45) (by simp;omega) k45 λv47 s48 o48 k48=>?_);refine qAD e1 (qPQ o48 (e2.sub k48) (by simp;omega) k48 λv50 s51 o51 k51=>?_);refine qAD e1 (qPQ o51 (e2.sub k51) (by simp;omega) k51 λv53 s54 o54 k54=>?_);have kH:Sub H s54:=old.trans k54;have hR54:SlR 38 s54 v53 (rcL (xs.drop cut++xs.take cut++xs.take cut)):=by
  have e:rcL (xs.drop cut++xs.take cut++xs.take cut)=[]++(rcL xs).drop cut++(rcL xs).take cut++(rcL xs).take cut:=by unfold rcL;simp only[List.map_append,List.map_drop,List.map_take,List.nil_append]
  rw[e];rcases o54 with⟨z,b,rfl⟩|h
  ·rw[z];exact .empty
  ·exact h.sl
 have hmem:∀x∈xs.drop cut++xs.take cut++xs.take cut,x∈xs:=λx hx=>by
  simp only[List.mem_append]at hx;rcases hx with(hx|hx)|hx
  ·exact List.mem_of_mem_drop hx
  ·exact List.mem_of_mem_take hx
  ·exact List.mem_of_mem_take hx
 have hall:∀r,r∈(xs.drop cut++xs.take cut++xs.take cut).map (·.1)↔r∈roN N k N.x.lf:=λr=>by
  rw[<- f3,List.mem_map,List.mem_map];constructor
  ·rintro ⟨x,hx,rfl⟩
   exact⟨x,hmem x hx,rfl⟩
  ·rintro ⟨x,hx,rfl⟩
   rw[<- List.take_append_drop cut xs]at hx;rcases mP hx with hx|hx
   ·exact⟨x,by simp[hx],rfl⟩
   ·exact⟨x,by simp[hx],rfl⟩
 have hRts:=zADO hR54 λx hx=>(f2.sub k54) x (hmem x hx);have hRl:((xs.drop cut++xs.take cut++xs.take cut).map (·.1)).length<=60:=by simp only[lMY,lAp,List.length_drop,List.length_take];omega
 generalize(xs.drop cut++xs.take cut++xs.take cut).map (·.1)=R at hRts hall hRl;have hok:∀r∈R,r.ok:=λr hr=>by obtain⟨m,b,_,_,_,rfl⟩:=qNb.1 ((hall r).1 hr);exact zACr
 have hFv:FE.Fv N.toG (l:Int):=⟨hN.valid,by omega,show(l:Int)<(N.x.lf:Int)by omega⟩
 refine qAD (qAb (kH _ _ h6) rfl) (FE.Lists_in hN.sz (qTw hN) ⟨v2,v3,v4,v5,v6,v7,rfl,hL.sub kH⟩ hRts (hG.sub kH) hok hRl (λq=>absurd hFv q) λ_ v56 s57 k57 hA=>?_);have kH57:=kH.trans k57;have hfl:(FE.fld N.toG (l:Int) R).length<=N.B.length:=by have:=FE.fld_len (F:=N.toG) (leaf:=(l:Int)) (R:=R);rw[qS2]at this;exact this
 have nlen:qAP v56=some (FE.fld N.toG (l:Int) R).length:=hA.len;have n4:qAP v4=some N.B.length:=by rw[hL.B.len,lMY];exact congrArg some qS2
 have hent:∀{i:Nat},i<N.B.length->FE.fldG N.toG (l:Int) R i=if FD.carB N.toG.S (l:Int) (i:Int)=true then some (i,wnt N l i N.x.lf,gOf N l i)else none:=λhi=>qZg hN hk hi hall
 refine⟨λys t m=>∃bd:Nat,ys=[.int .i64 ((FE.fldN N.toG (l:Int) R bd).length:Int),.int .i64 (bd:Int)]/\bd<=N.B.length/\m=N.B.length-bd/\Sub s57 t,⟨_,0,rfl,by omega,rfl,.refl _⟩,?_⟩;rintro f t m ⟨bd,hy,hbd,rfl,kt⟩;simp only[cI,and_true]at hy;rw[hy.1,hy.2];clear hy;have q0:=(kH57.trans kt) _ _ h6;have hlen:=FE.fldN_len (F:=N.toG) (leaf:=(l:Int)) (R:=R) bd;unfold qBy;refine qAD (a:=.ptr b4 4) rfl (qAD (a:=v4) (by rw[qAL q0];rfl) (qAD n4 ?_));rw[qAQ,qAA];refine qAE (λhlb=>?_) (λhgb=>?_)
 rotate_left
 ·have hge:bd=N.B.length:=by have:=oF hgb;omega
  subst hge;rw[qAY];refine qAD nlen ?_;have:FE.fldN N.toG (l:Int) R N.B.length=FE.fld N.toG (l:Int) R:=by rw[<- FE.fldN_all,qS2]
  rw[this];simp only[qAa,beq_self_eq_true,qAX,Bool.false_bne,qAA];unfold qBm;exact qAD (a:=.bool true) rfl (hK _)
 have hlb:bd<N.B.length:=by have:=oT hlb;omega
 refine qAD (qAb q0 rfl) (qLZ ⟨v2,v3,v4,v5,v6,v7,rfl,hL.sub (kH57.trans kt)⟩ hS64 (qTw hN) λs2 k2=>?_);have hs:=FE.fldN_succ (F:=N.toG) (leaf:=(l:Int)) (R:=R) (n:=bd);rw[hent hlb]at hs;cases c:FD.carB N.toG.S (l:Int) (bd:Int)with
 | false=>
   rw[if_neg (by rw[c];simp)]at hs;have hs:FE.fldN N.toG (l:Int) R (bd+1)=FE.fldN N.toG (l:Int) R bd:=by rw[hs];simp
   refine qAD (a:=.bool true) rfl ?_;rw[qAY];unfold qBG;rw[qAN,qAA,qAV (by omega) (by omega)];exact⟨_,by omega,bd+1,by rw[hs];rfl,by omega,rfl,kt.trans k2⟩
 | true=>
   rw[if_pos c]at hs;have hs:FE.fldN N.toG (l:Int) R (bd+1)=FE.fldN N.toG (l:Int) R bd ++ [(bd,wnt N l bd N.x.lf,gOf N l bd)]:=hs;obtain⟨L',hL'⟩:=qTJ (F:=N.toG) (l:=l) (R:=R) (n:=bd+1) (m:=N.B.length) (by omega);have hfld:FE.fld N.toG (l:Int) R=(FE.fldN N.toG (l:Int) R bd ++ [(bd,wnt N l bd N.x.lf,gOf N l bd)])++L':=by rw[<- FE.fldN_all,qS2,hL',hs]
   have hat:(FE.fld N.toG (l:Int) R)[(FE.fldN N.toG (l:Int) R bd).length]?=some (bd,wnt N l bd N.x.lf,gOf N l bd):=by rw[hfld,List.append_assoc,List.getElem?_append_right (Nat.le_refl _),Nat.sub_self];rfl
   have hlt:=(gS hat).1;have hA2:=hA.sub (kt.trans k2);obtain⟨pb,po,u,e1,e2,e3,e4,e5,e6⟩:=zABw hA2 hat;refine qAD (a:=.bool false) rfl ?_;rw[qAO];refine qAD nlen ?_;simp only[qAr,qAA];rw[decide_eq_false (by omega),qAO];refine qAD e1 (qAD (a:=.ptr pb po) rfl (qAD e3 ?_));simp only[qAa,beq_self_eq_true,qAX,Bool.true_bne,Bool.not_true,qAA];unfold qB2;refine qAD (a:=.bool false) rfl ?_;rw[qAO];refine zACt hN hl hlb (k2 _ _ q0) (hL.sub (kH57.trans (kt.trans k2))) hA2 hat (by omega) λs3 k3=>⟨_,(by omega:N.B.length-(bd+1)<N.B.length-bd),bd+1,?_,by omega,rfl,kt.trans (k2.trans k3)⟩
   rw[hs,lAp];rfl
theorem FOt_in{l:List Int}{lv:AV}{a1 a2:Int}(hl:Sl s lv (l.map (AV.int .i64)))(hlen:l.length<=9223372036854775807)(hb:∀x∈l,-9223372036854775808<=x/\x<=9223372036854775807)(h1:-9223372036854775808<=a1/\a1<=9223372036854775807)(h2:-9223372036854775808<=a2/\a2<=9223372036854775807)(hG:GlK s)(hK:∀s',K (.bool true) s'):wC TP XX 6 [lv,.int .i64 a1,.int .i64 a2] K s:=by
 obtain⟨tg,hg⟩:=hG;refine qFU (qYN hg (qWc hl hlen hb λs3 cs N k3 hN hNR=>?_));have hG3:GlK s3:=GlK.sub ⟨tg,hg⟩ k3;obtain⟨v2,v3,v4,v5,v6,v7,rfl,hL⟩:=hNR.fab;refine qAK λb4 s5 hb4 h5 u5=>qAT h5 rfl rfl hL.all λs6 h6 u6=>?_;have h6:s6 b4=some (false,.cells 31 (csG N.toG v2 v3 v4 v5 v6 v7)):=h6;have k6:Sub s3 s6:=qAW (u5.sub hb4) u6 hb4;have L6:=hL.sub k6;have G6:=hG3.sub k6;have hx:=hN.x.lf;refine qAD (a:=.ptr b4 0) rfl (qAD (a:=.int .i64 (N.x.lf:Int)) (by rw[qAL h6];rfl) ?_);refine qWL (n:=N.x.lf) h1 (by omega) (by omega) λlf hlf=>?_;refine qAD (a:=.ptr b4 12) rfl (qAD (a:=.bool N.x.tr) (by rw[qAL h6];rfl) ?_);cases c:N.x.tr with
 | true=>
   rw[qAY];exact qZ6 hN h6 L6 G6 λw t ow=>zAAS hN hlf (by rw[c];rfl) h2 h6 L6 G6 ow hK
 | false=>
   rw[qAO];exact qZ6 hN h6 L6 G6 λw t ow=>zAAS hN hlf (by rw[c];rfl) h2 h6 L6 G6 ow hK
end Go.AM.FI
namespace Go.AM
open Go Go.Proofs
theorem FOt_wp(s:Hq)(xs:List AV)(hg:s 0=some (true,.glob 0 (.agg kindsL)))(h:ArgL TP s 40 [63,3,3] xs):wC TP XX 6 xs (λv _=>v=.bool true) s:=by obtain⟨a,b,c,rfl,h1,h2,h3⟩:=zAEL h;obtain⟨l,hl,hb,hn⟩:=FI.arg_ints (d:=38) h1;obtain⟨a1,rfl,w1⟩:=qXY (d:=39) Tryz.underlying3 h2;obtain⟨a2,rfl,w2⟩:=qXY (d:=39) Tryz.underlying3 h3;exact FI.FOt_in hl (Nat.le_trans hn (by decide)) hb (FI.wf64 w1) (FI.wf64 w2) ⟨true,hg⟩ λ_=>rfl
end Go.AM
