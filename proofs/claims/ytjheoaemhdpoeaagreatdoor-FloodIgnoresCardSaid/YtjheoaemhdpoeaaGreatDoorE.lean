/- Part E of the proof: see the last part. -/
import Derived.Test.YtjheoaemhdpoeaaGreatDoorV
import Derived.Test.YtjheoaemhdpoeaaGreatDoorK
import Derived.Test.YtjheoaemhdpoeaaGreatDoorG
import Derived.Test.YtjheoaemhdpoeaaGreatDoorC
import Derived.Test.YtjheoaemhdpoeaaGreatDoorV2
set_option linter.unusedVariables false
namespace Go.AM.MU
open Go Go.Proofs
variable {K:AV→Hq→Prop} {s s':Hq} {m c i j:Nat} {k:Int} {v:AV} {t:Bool}
abbrev Kv:=Int×AV
def gE:Nat->List Kv->List AEnt
 |_,[]=>[]
 |i,p::l=>⟨.int .u32 p.1,p.2,i⟩::gE (i+1) l
theorem qZB:∀{i:Nat}{l:List Kv},(gE i l).length=l.length
 |_,[]=>rfl
 |i,p::l=>by show(gE (i+1) l).length+1=_;rw[qZB];rfl
theorem qYv:∀{i:Nat}{l:List Kv}{c:Nat},i+l.length<=c->qFU c (gE i l)=true
 |_,[],_,_=>rfl
 | i,p::l,c,h=>by
   rw[List.length_cons]at h;show(Nat.blt i c&&qFU c (gE (i+1) l))=true;rw[qYv (by omega),Bool.and_true,Nat.blt_eq];omega
theorem zABG:∀{i:Nat}{l:List Kv}{bs:List Nat},(∀b∈bs,b<i)->ndB (gE i l) bs=true
 |_,[],_,_=>rfl
 | i,p::l,bs,h=>by
   show(!hasN i bs&&ndB (gE (i+1) l) (i::bs))=true;have h1:hasN i bs=false:=by
    have:∀{bs:List Nat},(∀b∈bs,b<i)->hasN i bs=false:=by
     intro bs
     induction bs with
     |nil=>exact λ_=>rfl
     | cons b bs ih=>
       intro h;have hb:=h b List.mem_cons_self;simp only[hasN,Bool.or_eq_false_iff];refine⟨?_,ih λx hx=>h x (mO _ hx)⟩;cases r:Nat.beq i b with
       |false=>rfl
       |true=>have:=bE r;omega
    exact this h
   rw[h1,zABG λb hb=>by
    rcases mC hb with rfl|hb
    ·omega
    ·have:=h b hb;omega]
   rfl
def qJ6(k:Int):List Kv->Nat->Option (Nat×AV)
 |[],_=>none
 |p::l,j=>if p.1=k then some (j,p.2)else qJ6 k l (j+1)
def gOf(l:List Kv)(k:Int):Option AV:=(qJ6 k l 0).map (·.2)
theorem gkey{a b:Int}:qMW (.int .i64) (.int .u32 a) (.int .u32 b)=some (decide (b=a)):=by
 show some (eqI a b)=_;rw[qEL]
 congr 1
 rw[Bool.eq_iff_iff];simp only[beq_iff_eq,decide_eq_true_eq];exact⟨λh=>h.symm,λh=>h.symm⟩
theorem qQs:∀{l:List Kv}{i j:Nat},qLM (.int .u32 k) (gE i l) j=some (qJ6 k l j)
 |[],_,_=>rfl
 | p::l,i,j=>by
   have e:qLM (.int .u32 k) (gE i (p::l)) j=match (some (decide (p.1=k)):Option Bool)with
     |some true=>some (some (j,p.2))
     |some false=>qLM (.int .u32 k) (gE (i+1) l) (j+1)
     |none=>none:=by
    rw[<- gkey];rfl
   rw[e];unfold qJ6
   by_cases h:p.1=k
   ·rw[if_pos h,decide_eq_true h]
   ·rw[if_neg h,decide_eq_false h]
    exact qQs
theorem qJF:∀{l:List Kv}{j:Nat},qJ6 k l (j+1)=(qJ6 k l j).map λp=>(p.1+1,p.2)
 |[],_=>rfl
 | p::l,j=>by
   unfold qJ6
   by_cases h:p.1=k
   ·rw[if_pos h,if_pos h];rfl
   ·rw[if_neg h,if_neg h];exact qJF
def putG(k:Int)(v:AV):List Kv->List Kv
 |[]=>[(k,v)]
 |p::l=>if p.1=k then(k,v)::l else p::putG k v l
theorem qYt:∀{l:List Kv}{i:Nat},(match qJ6 k l 0 with
  |some p=>(modE (gE i l) p.1 λe=>{ e with key:=.int .u32 k,val:=v },i+l.length)
  |none=>(gE i l ++ [{ key:=.int .u32 k,val:=v,born:=i+l.length }],i+l.length+1))=(gE i (putG k v l),i+(putG k v l).length)
 |[],i=>rfl
 | p::l,i=>by
   unfold qJ6 putG
   by_cases h:p.1=k
   ·rw[if_pos h,if_pos h];rfl
   ·rw[if_neg h,if_neg h,qJF]
    have ih:=qYt (l:=l) (i:=i+1);cases q:qJ6 k l 0 with
    | some r=>
      rw[q]at ih;simp only[Option.map_some,Prod.mk.injEq]at ih ⊢;refine⟨?_,?_⟩
      ·show _::modE (gE (i+1) l) r.1 _=_::gE (i+1) (putG k v l)
       rw[ih.1]
      ·rw[List.length_cons,List.length_cons];omega
    | none=>
      rw[q]at ih;simp only[Option.map_none,Prod.mk.injEq]at ih ⊢;refine⟨?_,?_⟩
      ·show _::(gE (i+1) l++_)=_::gE (i+1) (putG k v l)
       rw[<- ih.1,List.length_cons,show i+(l.length+1)=i+1+l.length by omega]
      ·rw[List.length_cons,List.length_cons];omega
theorem zAAp{l:List Kv}:putE (gE 0 l) l.length (.int .u32 k) v=some (gE 0 (putG k v l),(putG k v l).length):=by
 unfold putE;rw[qQs];have h:=qYt (l:=l) (i:=0) (k:=k) (v:=v);cases q:qJ6 k l 0 with
 | some r=>
   rw[q]at h;simp only[zA,Prod.mk.injEq]at h ⊢;rw[h.1,h.2]
 | none=>
   rw[q]at h;simp only[zA,Prod.mk.injEq]at h ⊢;rw[h.1,h.2]
theorem gget{l:List Kv}(h:s m=some (t,.map (gE 0 l) c)):getM s (.map m) (.int .u32 k)=some (gOf l k):=by unfold getM gOf;simp only[h,qQs];cases qJ6 k l 0<;>rfl
theorem gput{l:List Kv}{R:Hq->Prop}(h:s m=some (false,.map (gE 0 l) l.length))(hK:∀s',s' m=some (false,.map (gE 0 (putG k v l)) (putG k v l).length)->Upto m s s'->R s'):oK (putM s (.map m) (.int .u32 k) v) R:=by refine qAF (a:=hset s m (false,.map (gE 0 (putG k v l)) (putG k v l).length)) ?_ (hK _ (by simp[hset]) λi hi=>by simp[hset,hi]);unfold putM;simp only[h,zAAp]
theorem qS3{p:Kv}{l:List Kv}:gOf (p::l) k=if p.1=k then some p.2 else gOf l k:=by
 unfold gOf;rw[qJ6]
 by_cases h:p.1=k
 ·rw[if_pos h,if_pos h];rfl
 ·rw[if_neg h,if_neg h,qJF,Option.map_map];rfl
theorem qUs:∀{l:List Kv},gOf l k=some v->(k,v)∈l
 |[],h=>by cases h
 | p::l,h=>by
   rw[qS3]at h;split at h
   ·rename_i e
    cases h;rw[<- e];exact List.mem_cons_self
   ·exact mO _ (qUs h)
theorem qSP:∀{l:List Kv},gOf l k=none↔k ∉ l.map (·.1)
 |[]=>by simp[gOf,qJ6]
 | p::l=>by
   rw[qS3,List.map_cons,List.mem_cons]
   by_cases h:p.1=k
   ·rw[if_pos h];simp[h]
   ·rw[if_neg h,qSP]
    exact⟨λh2=>λe=>e.elim (λe=>h e.symm) h2,λh2 e=>h2 (.inr e)⟩
theorem qMS:∀{l:List Kv}{k':Int},k'∈(putG k v l).map (·.1)↔k'=k∨k'∈l.map (·.1)
 |[],k'=>by simp[putG]
 | p::l,k'=>by
   unfold putG
   by_cases h:p.1=k
   ·rw[if_pos h,List.map_cons,List.map_cons,List.mem_cons,List.mem_cons,h]
    exact⟨λe=>e.elim .inl λe=>.inr (.inr e),λe=>e.elim .inl id⟩
   ·rw[if_neg h,List.map_cons,List.map_cons,List.mem_cons,List.mem_cons,qMS]
    exact⟨λe=>e.elim (λe=>.inr (.inl e)) λe=>e.elim .inl λe=>.inr (.inr e),λe=>e.elim (λe=>.inr (.inl e)) λe=>e.elim .inl λe=>.inr (.inr e)⟩
theorem qWV:∀{l:List Kv},(l.map (·.1)).Nodup->((putG k v l).map (·.1)).Nodup
 |[],_=>by simp[putG]
 | p::l,h=>by
   obtain⟨h1,h2⟩:=List.nodup_cons.1 h;unfold putG
   by_cases hp:p.1=k
   ·rw[if_pos hp,List.map_cons]
    exact List.nodup_cons.2 ⟨by rw[<- hp];exact h1,h2⟩
   ·rw[if_neg hp,List.map_cons]
    refine List.nodup_cons.2 ⟨λe=>?_,qWV h2⟩;rcases qMS.1 e with e|e
    ·exact hp e
    ·exact h1 e
abbrev tS(l:List Int):List Kv:=l.map λx=>(x,AV.bool true)
def putS(k:Int)(l:List Int):List Int:=if k∈l then l else l ++ [k]
theorem qUo:∀{l:List Int},putG k (.bool true) (tS l)=tS (putS k l)
 |[]=>by unfold putS;rw[if_neg (by simp)];rfl
 | x::l=>by
   show putG k (.bool true) ((x,.bool true)::tS l)=_;unfold putG
   by_cases h:x=k
   ·rw[if_pos h]
    unfold putS;rw[if_pos (by rw[h];exact List.mem_cons_self),h];rfl
   ·rw[if_neg h,qUo]
    unfold putS
    by_cases h2:k∈l
    ·rw[if_pos h2,if_pos (mO _ h2)]
     rfl
    ·rw[if_neg h2,if_neg (λe=>(mC e).elim (λe=>h e.symm) h2)]
     rfl
theorem qXY{l:List Int}{y:Int}:y∈putS k l↔y=k∨y∈l:=by
 unfold putS;split
 ·rename_i h
  exact⟨.inr,λe=>e.elim (λe=>e ▸ h) id⟩
 ·rw[List.mem_append,List.mem_singleton]
  exact⟨λe=>e.elim .inr .inl,λe=>e.elim .inr .inl⟩
theorem zAAP{l:List Int}(h:l.Nodup):(putS k l).Nodup:=by
 unfold putS;split
 ·exact h
 ·rename_i hk
  exact List.nodup_append.2 ⟨h,by simp,λa ha b hb e=>hk (by rw[<- List.mem_singleton.1 hb,<- e];exact ha)⟩
theorem qSD:∀{i:Nat}{l:List Int},qLD (gE i (tS l))=some l
 |_,[]=>rfl
 | i,x::l=>by
   show(match qLD (gE (i+1) (tS l))with|some l=>some (x::l)|none=>none)=_;rw[qSD]
theorem qXm{P:Program}{X:Td}{f:FuncId}{g:List AV->M AV}{args:List AV}(hf:X f=some g)(h:wpF (λ_=>g args) K s):wC P X f args K s:=by
 unfold wC wpT;refine wpF.succ (m:=λ_=>bd (g args) λv=>ret (Out.val v)) ?_ (λn=>by
  show(match X f with
   |some g=>bd (g args) λv=>ret (Out.val v)
   |none=>qB0 P (run P X n) f args)=_
  rw[hf])
 exact wpF.bd (.const _) (λ_=>.const _) (h.mono λv s' hk=>wpF.ret ⟨v,rfl,hk⟩)
end Go.AM.MU
set_option maxRecDepth 100000
namespace Go.AM.FE
open Go Go.Proofs Go.AM.SG
variable {K:AV→Hq→Prop} {s s' s0:Hq} {v:AV} {c:Cm} {l:List Cm}
def tAS(c:Cm):Nat:=nv (((cb c).drop 2).take 2)
def tNo(c:Cm):Nat:=nv (((cb c).drop 4).take 4)
theorem zAA9(hc:c.ok):tNo c<4294967296:=by have:=zACa (l:=((cb c).drop 4).take 4) λx hx=>zACC hc x (List.mem_of_mem_drop (List.mem_of_mem_take hx));rw[show(((cb c).drop 4).take 4).length=4 from rfl]at this;exact this
def isT(c:Cm):Bool:=decide (qNM c=1)&&decide (tAS c=65000)
def tgP(l:List Cm):List Int:=(l.filter isT).map λc=>(tNo c:Int)
def tgs(l:List Cm):List Int:=FD.insAll (tgP l)
theorem qVJ:(tgP l).length<=l.length:=by unfold tgP;rw[lMY];exact List.length_filter_le _ _
theorem zAAT:(tgs l).length<=l.length:=Nat.le_trans (FD.insAll_len _) qVJ
def NumJ(t0:Hq)(c:Cm)(o n:Nat):List AV->Hq->Nat->Prop:=λys t m=>
 ∃i:Nat,ys=[.int .u64 ((nv ((((cb c).drop o).take n).take i):Nat):Int),.int .i64 (i:Int)]/\i<=n/\t=t0/\m=n-i
theorem qQa{o n:Nat}(hc:c.ok)(hn:n<=4)(ho:o+n<=8)(hK:∀s',Sub s s'->K (.int .u64 ((nv (((cb c).drop o).take n):Nat):Int)) s'):wC TP XX 65 [.agg (cmR c),.int .i64 (o:Int),.int .i64 (n:Int)] K s:=by
 refine qKK ⟨rfl,qAK λb s1 hb h1 u1=>?_⟩;have h1:s1 b=some (false,.cells 129 ((cb c).map u8)):=h1;have sub1:=u1.sub hb;have e8:IntKind.i64.wrap ((o:Int)+(n:Int))=((o+n:Nat):Int):=by rw[qAV (by omega) (by omega)];omega
 simp only[qAN,e8,qAA];have r2:qFN s1 8 1 (.ptr b 0) (some (.int .i64 (o:Int))) (some (.int .i64 ((o+n:Nat):Int))) none=some (.slc b o n (some (8-o)) 1):=by
  have key:∀q:Nat,q=o+n->qFN s1 8 1 (.ptr b 0) (some (.int .i64 (o:Int))) (some (.int .i64 (q:Int))) none=some (.slc b o n (some (8-o)) 1):=λq hq=>by
   have a1:Nat.ble q 8=true:=bL (by omega);have a2:Nat.ble o q=true:=bL (by omega);have a3:Nat.ble 8 (cb c).length=true:=rfl;have a4:q-o=n:=by omega
   simp[qFN,h1,bound,a1,a2,a3,a4]
  exact key _ rfl
 have r3:qAO (.slc b o n (some (8-o)) 1)=some n:=rfl;simp only[r2,r3,qAA];have hlen:(((cb c).drop o).take n).length=n:=by rw[List.length_take,List.length_drop,show(cb c).length=8 from rfl];omega
 refine⟨NumJ s1 c o n,⟨_,0,rfl,by omega,rfl,rfl⟩,?_⟩;rintro e t m ⟨i,hy,hi,rfl,rfl⟩;simp only[cI,and_true]at hy;rw[hy.1,hy.2];simp only[qG0,qAQ,qAA];refine qAD (λhlt=>?_) (λhge=>?_)
 rotate_left
 ·have:i=n:=by have:=oF hge;omega
  subst this;rw[List.take_of_length_le (Nat.le_of_eq hlen)];exact hK t sub1
 have hlt:i<n:=by have:=oT hlt;omega
 have hx:=zACC hc;have hd:(((cb c).drop o).take n).take (i+1)=(((cb c).drop o).take n).take i ++ [(((cb c).drop o).take n)[i]]:=by rw[List.take_add_one,gEY (by rw[hlen];exact hlt)];rfl
 generalize hxv:(((cb c).drop o).take n)[i]=x at hd;have hxm:x<256:=hx x (by rw[<- hxv];exact List.mem_of_mem_drop (List.mem_of_mem_take (List.getElem_mem _)));have a1:qAI 1 (.slc b o n (some (8-o)) 1) (.int .i64 (i:Int))=some (.ptr b (o+i)):=by
  have:Nat.blt i n=true:=by rw[Nat.blt_eq];exact hlt
  simp[qAI,this]
 have r1:rd1 t (.ptr b (o+i))=some (u8 x):=by
  rw[qAL h1,List.getElem?_map];have:(cb c)[o+i]?=some x:=by rw[<- List.getElem?_drop,<- hxv];have h2:(((cb c).drop o).take n)[i]?=some (((cb c).drop o).take n)[i]:=gEY (by rw[hlen];exact hlt);rw[List.getElem?_take,if_pos hlt]at h2;exact h2
  rw[this];rfl
 obtain⟨q1,q2,q3,_⟩:=digit (qYJ (l:=(((cb c).drop o).take n).take i) (λy hy=>hx y (List.mem_of_mem_drop (List.mem_of_mem_take (List.mem_of_mem_take hy)))) (by rw[List.length_take,hlen];omega)) hxm;simp only[a1,r1,q1,q2,q3,add1 (show i<=1000000 by omega),qAA];exact⟨_,by omega,i+1,by rw[hd,qZZ],by omega,rfl,rfl⟩
theorem qSB{i:Nat}(h:l[i]?=some c):tgP (l.take (i+1))=tgP (l.take i)++(if isT c=true then[(tNo c:Int)]else[]):=by
 unfold tgP;rw[List.take_add_one,h,List.filter_append,List.map_append]
 congr 1
 by_cases q:isT c=true
 ·rw[if_pos q];simp[q]
 ·rw[if_neg q];simp[q]
theorem wu32n{n:Nat}(h:n<4294967296):qCJ .u32 (.int .u64 (n:Int))=some (.int .u32 (n:Int)):=by
 show some (AV.int .u32 (qA6 .u32 (n:Int)))=_;have:qA6 .u32 (n:Int)=(n:Int):=by simp only[qA6];rw[qDW _ _ _ (by omega) (by omega)];split<;>omega
 rw[this]
theorem qTM(h:SlR 8 s v (l.map cmR))(hG:GlK s)(hok:∀c∈l,c.ok)(hl:l.length<=200)(hK:∀v' s',Sub s s'->Sl s' v' (us (tgs l))->K v' s'):wC TP XX 34 [v] K s:=by
 refine qJ4 ?_;unfold qIN;have n1:qAO v=some l.length:=by rw[h.len,lMY]
 simp only[n1,qAA];refine⟨λys t m=>∃(i:Nat) (w:AV),ys=[w,.int .i64 (i:Int)]/\i<=l.length/\m=l.length-i/\Sub s t/\Acc 41 s t w (us (tgP (l.take i))),⟨_,0,_,rfl,by omega,rfl,.refl _,.inl ⟨rfl,rfl⟩⟩,?_⟩;rintro f t m ⟨i,w,hy,hi,rfl,kt,acc⟩;simp only[cI,and_true]at hy;rw[hy.1,hy.2];clear hy;have hlen:(tgP (l.take i)).length<=200:=by have:=qVJ (l:=l.take i);rw[List.length_take]at this;omega
 simp only[qF7,qAQ,qAA];refine qAD (λhlt=>?_) (λhge=>?_)
 ·have hlt:i<l.length:=by have:=oT hlt;omega
  obtain⟨c,hc⟩:∃c,l[i]?=some c:=⟨_,gEY hlt⟩
  have hcok:=hok c (mG hc);obtain⟨pb,po,e1,e2,_⟩:=(h.sub kt).get (i:=i) (r:=cmR c) (by rw[List.getElem?_map,hc];rfl);simp only[e1,e2,qAA];refine qAK λb5 s6 hb5 h6 u6=>qAR h6 rfl rfl rfl λs7 h7 u7=>qAF (qAm h7 rfl) ?_;have k7:Sub t s7:=by intro j e hj;rw[u7 j (qDH hb5 hj)];exact u6.sub hb5 j e hj
  have n5:t b5=none:=hb5;refine qZu (hG.sub (kt.trans k7)) λs10 k10=>?_;have k710:=k7.trans k10;have next:∀{tt:Hq}{w':AV},Sub s tt->Acc 41 s tt w' (us (tgP (l.take (i+1))))->qCO XX w' (.int .i64 (i:Int)) (λys t m=>∃(i:Nat) (w:AV),ys=[w,.int .i64 (i:Int)]/\i<=l.length/\m=l.length-i/\Sub s t/\Acc 41 s t w (us (tgP (l.take i)))) (l.length-i) K tt:=fun {tt w'} kk a=>by unfold qCO;simp only[qAN,qAA];rw[qAV (by omega) (by omega)];exact⟨_,by omega,i+1,w',rfl,by omega,rfl,kk,a⟩
  have asub:∀{a b:Hq},Sub a b->Acc 41 s a w (us (tgP (l.take i)))->Acc 41 s b w (us (tgP (l.take i))):=fun {a b} k h=>by
   rcases h with h|⟨j,h0,rfl,h⟩
   ·exact .inl h
   ·exact .inr ⟨j,h0,rfl,k _ _ h⟩
  have no:∀{tt:Hq},Sub t tt->isT c=false->qCO XX w (.int .i64 (i:Int)) (λys t m=>∃(i:Nat) (w:AV),ys=[w,.int .i64 (i:Int)]/\i<=l.length/\m=l.length-i/\Sub s t/\Acc 41 s t w (us (tgP (l.take i)))) (l.length-i) K tt:=fun {tt} kk q=>
   next (kt.trans kk) (by rw[qSB hc,if_neg (by rw[q];simp),List.append_nil];exact asub kk acc)
  simp only[qAl,qAc,Bool.false_bne,qAA];cases q1:((qNM c:Int) == 1)with
  | false=>
    simp only[qAS,qDN,qAf,qAA];refine no k710 ?_;unfold isT;rw[decide_eq_false (by intro e;rw[e]at q1;cases q1)];rfl
  |true=>
  have hk1:qNM c=1:=by have:=eq_of_beq q1;omega
  simp only[qAe];refine qAF (qAm (k10 _ _ h7) rfl) (qQa (o:=2) (n:=2) hcok (by omega) (by omega) λs25 k25=>?_);simp only[qAl,qAc,Bool.false_bne,qAA,qDN,qAg];refine qAD (λq2=>?_) (λq2=>?_)
  ·have hT:isT c=true:=by
    unfold isT;rw[hk1,decide_eq_true (show tAS c=65000 by have:=eq_of_beq q2;unfold tAS;omega)];rfl
   refine qAF (qAm (k25 _ _ (k10 _ _ h7)) rfl) (qQa (o:=4) (n:=4) hcok (by omega) (by omega) λs16 k16=>?_);have kk:Sub t s16:=k710.trans (k25.trans k16);rw[wu32n (show nv (((cb c).drop 4).take 4)<4294967296 from zAA9 hcok)];simp only[qAA];refine qJw rfl rfl λb19 s20 hb19 h20 u20=>?_;have k20:=kk.trans (u20.sub hb19);refine(asub k20 acc).app (m:=[.int .u32 (tNo c:Int)]) (Sl.mk h20 rfl (by simp)) (by simp) (by simp[us];omega) (λj hj=>?_) λv' s' a ks=>?_
   ·cases e:s j with
    |none=>exact absurd e hj
    |some y=>rw[k20 _ _ (kt _ _ e)];simp
   ·refine next (λj e hj=>ks j e (k20 _ _ (kt j e hj)) λb' hv=>?_) (by rw[qSB hc,if_pos hT,us,List.map_append];exact a)
    rintro rfl;rcases acc with⟨h1,_⟩|⟨b2,h0,rfl,_⟩
    ·rw[h1]at hv;cases hv
    ·injection hv with h1
     rw[h1,hj]at h0;cases h0
  ·refine no (k710.trans k25) ?_
   unfold isT;rw[hk1,decide_eq_false (show ¬tAS c=65000 by intro e;unfold tAS at e;rw[e]at q2;cases q2)];rfl
 ·have hge:i=l.length:=by have:=oF hge;omega
  subst hge;rw[List.take_length]at acc hlen;have fin:∀{l':List Int}{v':AV}{s':Hq},l'.Pairwise (·<=·)->l'.Perm (tgP l)->Sub s s'->Sl s' v' (us (W.dI l'))->K v' s':=fun {l' v' s'} ha hp kk hs=>hK v' s' kk (by rw[show W.dI l'=tgs l from FD.insAll_eq (W.dI_asc ha) λy=>W.dI_mem.trans hp.mem_iff]at hs;exact hs)
  rcases acc with⟨rfl,h0⟩|⟨db,h0,rfl,h1⟩
  ·have e0:tgP l=[]:=by simpa [us]using h0
   refine W.sortN_in (u0:=false) ?_;refine W.compactU_in (s0:=s) (l:=[]) (.inl ⟨rfl,rfl⟩) kt (by simp) λv' s' hs kk=>?_;exact fin (l':=[]) .nil (by rw[e0]) kk hs
  ·have hu:W.UAt false t db (tgP l):=h1
   have e1:(us (tgP l)).length=(tgP l).length:=by simp[us]
   rw[e1];refine W.sortU_in (u0:=false) hu (by omega) λs2 l' hu2 hp hasc kb=>?_;have hlen2:=hp.length_eq;have k2:Sub s s2:=λj e hj=>kb j e (kt j e hj) (by rintro rfl;rw[hj]at h0;cases h0);refine W.compactU_in (s0:=s) (l:=l') (.inr ⟨db,h0,by simp[us,hlen2],hu2⟩) k2 (by omega) λv' s' hs kk=>?_;refine fin ?_ hp kk hs;refine List.pairwise_iff_getElem.2 λi j hi hj hij=>?_;have:=hasc i j (by omega) hij hj;simpa [nAt,hi,hj]using this
end Go.AM.FE
set_option maxRecDepth 100000
namespace Go.AM.FE
open Go Go.Proofs Go.AM.SG
end Go.AM.FE
set_option maxRecDepth 100000
namespace Go.AM.FW
open Go Go.Proofs Go.AM.TN
end Go.AM.FW
set_option maxRecDepth 100000
namespace Go.AM.FW
open Go Go.Proofs Go.AM.TN
end Go.AM.FW
set_option maxRecDepth 100000
namespace Go.AM.FW
open Go Go.Proofs Go.AM.TN
end Go.AM.FW
set_option maxRecDepth 100000
namespace Go.AM.FW
open Go Go.Proofs Go.AM.TN
end Go.AM.FW
namespace Go.AM
open Go Go.Proofs
end Go.AM
set_option maxRecDepth 100000
namespace Go.AM.FE
open Go Go.Proofs Go.AM.TN
variable {K:AV→Hq→Prop} {s s':Hq} {p q m:AV} {cs:List AV} {F:FG} {leaf ip:Int} {r:SG.Rt} {v2 v3 v4 v5 v6 v7:AV}
def nodeOk(ip:Int):Bool:=decide (184483840<ip)&&decide (ip<=184483872)
def nodeV(ip:Int):Int:=if nodeOk ip=true then ip-184483841 else 0
theorem nodeV_ok(h:nodeOk ip=true):nodeV ip=ip-184483841/\184483840<ip/\ip<=184483872:=by unfold nodeOk at h;simp only[Bool.and_eq_true,decide_eq_true_eq]at h;refine⟨?_,h⟩;unfold nodeV nodeOk;rw[decide_eq_true h.1,decide_eq_true h.2];rfl
theorem nconv(h:184483840<ip)(h2:ip<=184483872):(IntKind.u32.wrap (IntKind.u32.wrap (ip-184483840)-1)=ip-184483841)/\qA6 .i64 (ip-184483841)=ip-184483841:=by
 have w:∀n:Int,0<=n->n<4294967296->IntKind.u32.wrap n=n:=λn h1 h2=>by rw[<- qBS];simp only[qA6];rw[qDW _ _ _ (by omega) (by omega)];split<;>omega
 have w2:∀n:Int,0<=n->n<4294967296->qA6 .i64 n=n:=λn h1 h2=>by rw[qBS];exact qAV (by omega) (by omega)
 refine⟨?_,w2 _ (by omega) (by omega)⟩;rw[w (ip-184483840) (by omega) (by omega),w _ (by omega) (by omega)];omega
theorem Node_in(hK:K (.tup [.int .i64 (nodeV ip),.bool (nodeOk ip)]) s):wC TP XX 30 [.int .u32 ip] K s:=by
 refine qMu ?_;simp only[qK2,qCY,qBg,qAA];have bad:nodeOk ip=false->K (.tup [.int .i64 0,.bool false]) s:=λh=>by unfold nodeV at hK;rw[if_neg (by rw[h];simp),h]at hK;exact hK
 refine qAD (λh=>?_) (λh=>?_)
 ·simp only[qEJ,h,qAg,qAA,qAe]
  refine bad ?_;unfold nodeOk;rw[decide_eq_false (by have:=oT h;omega)];rfl
 ·simp only[qEJ,h,qAf,qAA]
  refine qAD (λh2=>?_) (λh2=>?_)
  ·refine bad ?_
   unfold nodeOk;rw[decide_eq_false (p:=ip<=184483872) (by have:=oT h2;omega),Bool.and_false]
  ·have g1:184483840<ip:=by have:=oF h;omega
   have g2:ip<=184483872:=by have:=oF h2;omega
   have ok:nodeOk ip=true:=by unfold nodeOk;rw[decide_eq_true g1,decide_eq_true g2];rfl
   obtain⟨e1,e2⟩:=nconv g1 g2;have e3:qCJ .i64 (.int .u32 (ip-184483841))=some (.int .i64 (ip-184483841)):=by show some (AV.int .i64 (qA6 .i64 (ip-184483841)))=_;rw[e2]
   simp only[qBy,qAA,e1,e3];rw[(nodeV_ok ok).1,ok]at hK;exact hK
def flB(F:FG)(leaf:Int)(r:SG.Rt):Bool:=(r.kd == 3)&&(((r.tk == 6)||(r.tk == 3))&&(nodeOk r.nx&&(decide (nodeV r.nx<F.lf)&&!(nodeV r.nx == leaf))))
theorem row0:(r.row p q m)[0]?=some (.int .i64 r.kd):=id rfl
theorem zAAu:(r.row p q m)[23]?=some (.int .u32 r.nx):=id rfl
theorem zACs:(r.row p q m)[31]?=some m:=id rfl
theorem zABm:(r.row p q m)[32]?=some (.int .i64 r.tk):=id rfl
theorem qUh(hF:FabR s cs F)(hR:SG.RtAt s r p q m)(hK:∀s',Sub s s'->K (.bool (flB F leaf r)) s'):wC TP XX 33 [.agg cs,.int .i64 leaf,.agg (r.row p q m)] K s:=by
 obtain⟨v2,v3,v4,v5,v6,v7,rfl,hL⟩:=hF;refine qJm ⟨hL.all,qAK λb0 s1 hb0 h1 u1=>⟨hR.one,qAK λb2 s3 hb2 h3 u3=>?_⟩⟩;have h1:s1 b0=some (false,.cells 31 (csG F v2 v3 v4 v5 v6 v7)):=h1;have h3:s3 b2=some (false,.cells 81 (r.row p q m)):=h3;have k3:=u3.sub hb2;have kk:=(u1.sub hb0).trans k3;have h1:=k3 _ _ h1;have hk:=hK s3 kk;unfold flB at hk;simp only[qAG,zA,Nat.reduceAdd,qAA,qAL h3,row0,zAAu,zABm,qAl,qAc,Bool.true_bne];cases c1:(r.kd == 3)with
 | false=>
   rw[c1]at hk;simp only[Bool.not_false,qAe,qAg,qAA];exact hk
 |true=>
 rw[c1,Bool.true_and]at hk;simp only[Bool.not_true,qAS];have tail:∀{a u:AV},qAY a u (.bool false)=some (.bool false)->K (.bool (nodeOk r.nx&&(decide (nodeV r.nx<F.lf)&&!(nodeV r.nx == leaf)))) s3->qCU XX (.int .i64 leaf) (.ptr b0 0) (.ptr b2 0) (.bool false) a u K s3:=fun {a u} hp hk=>by
  unfold qCU;rw[hp];simp only[qAA,qAf,qAS,qAG,zA,Nat.reduceAdd,qAL h3,zAAu];refine Node_in ?_;refine qAF (a:=.int .i64 (nodeV r.nx)) rfl (qAF (a:=.bool (nodeOk r.nx)) rfl ?_);cases c4:nodeOk r.nx with
  | false=>
    rw[c4]at hk;simp only[qAS,qDQ,qAf,qAA,qCR];exact hk
  | true=>
    rw[c4,Bool.true_and]at hk;simp only[qAe,qAL h1,csG0,qAQ,qAA,qDQ,qAg];cases c5:decide (nodeV r.nx<F.lf)with
    | false=>
      rw[c5]at hk;simp only[qAS,qCR,qAf,qAA];exact hk
    | true=>
      rw[c5,Bool.true_and]at hk;simp only[qAe,qAl,qAc,Bool.true_bne,qAA,qCR,qAg];exact hk
 cases c2:(r.tk == 6)with
 | true=>
   rw[c2,Bool.true_or,Bool.true_and]at hk;simp only[Bool.not_true,qAS];exact tail rfl hk
 | false=>
   rw[c2,Bool.false_or]at hk;simp only[Bool.not_false,qAe];cases c3:(r.tk == 3)with
   | true=>
     rw[c3,Bool.true_and]at hk;simp only[Bool.not_true];exact tail rfl hk
   | false=>
     rw[c3,Bool.false_and]at hk;simp only[Bool.not_false,qCU,qAg,qAf,qAA,qAe];exact hk
def tgtB(F:FG)(i:Int):Int:=match F.B[i.toNat]? with
 |some y=>y.2.2.1
 |none=>0
theorem tgt_at{i:Nat}{y:BG}(h:F.B[i]?=some y):tgtB F (i:Int)=y.2.2.1:=by unfold tgtB;rw[Int.toNat_natCast,h]
end Go.AM.FE
set_option maxRecDepth 100000
namespace Go.AM.MU
open Go Go.Proofs
variable {K:AV→Hq→Prop} {s s':Hq} {m b c:Nat} {v:AV} {ps:List Int} {t1 t2:Bool}
theorem qO6:∀l:List Int,qAU (us32 l)=true
 |[]=>rfl
 | x::l=>by
   show(true&&qAU (us32 l))=true;rw[qO6 l];rfl
theorem sorted_in(hb:s b=some (t1,.cells 101 [.map m]))(hm:s m=some (t2,.map (gE 0 (tS ps)) ps.length))(hl:ps.length<=255)
  (hK:∀v s',Sub s s'->Sl s' v ((qKa ps).map (AV.int .u32))->(∀b o n c,v=.slc b o n c 1->s b=none)->K v s'):wC TP XX 35 [.fn (.func 70) [] [.ptr b 0]] K s:=by
 have hbm:b≠m:=by rintro rfl;rw[hb]at hm;cases hm
 refine qXm (show XX 35=some (qIV 70 101 42)from rfl) ?_;have hlen:(tS ps).length=ps.length:=lMY _;unfold qIV;refine wpF.cond rfl (wpF.bd (.const _) (λ_=>.const _) (wpF.rd hb λab hab=>?_));cases ab<;>first|exact hab.elim|skip
 rename_i e9 c9 n9;obtain⟨rfl,rfl,_,hget⟩:=hab;refine wpF.cond rfl ?_;have h0:c9.get 0=some (.map m):=hget 0 (by simp);simp only[h0];refine wpF.bd (.const _) (λ_=>.const _) (wpF.rd hm λab hab=>?_);cases ab<;>first|exact hab.elim|skip
 rename_i es9 c10;obtain⟨rfl,rfl⟩:=hab;simp only[qSD];have a1:Nat.ble (gE 0 (tS ps)).length 255=true:=bL (by rw[qZB,hlen];exact hl);have a2:qFU ps.length (gE 0 (tS ps))=true:=qYv (by rw[hlen];omega);have a3:ndB (gE 0 (tS ps)) []=true:=zABG (by simp);have a4:Nat.beq b m=false:=by
  cases r:Nat.beq b m with
  |false=>rfl
  |true=>exact absurd (bE r) hbm
 refine wpF.cond (by rw[a1,a2,a3,a4];rfl) ?_;cases hs:qKa ps with
 | nil=>
   rw[hs]at hK;exact wpF.ret (hK _ _ (.refl _) (.inl ⟨rfl,rfl⟩) λ_ _ _ _ h=>by cases h)
 | cons x l=>
   rw[hs]at hK;unfold qBW;refine wpF.bd (.const _) (λ_=>.const _) (wpF.cond (qO6 _) (wpF.nw (x:=.cells 42 (us32 (x::l))) ⟨rfl,rfl,qO6 _,λi hi=>by rw[Tr.get_ofListAt];simp[hi]⟩ λd hd=>wpF.ret ?_));refine hK _ _ (qGW hd) ?_ λb' o n c h=>by cases h;exact hd
   rw[qO9];exact Sl.mk (t:=false) (e:=42) qBU (by simp) (by simp)
end Go.AM.MU
namespace Go.AM.FE
open Go Go.Proofs Go.AM.TN Go.AM.MU
variable {s s' H:Hq} {v:AV} {M:Nat}
abbrev Ls:=Int×Nat×Nat
abbrev kvL(ls:List Ls):List Kv:=ls.map λe=>(e.1,AV.ptr e.2.1 0)
structure LT(H s:Hq)(M:Nat)(ls:List Ls)(ps:Int->List Int)(tr:Int->Bool):Prop where
 mp:s M=some (false,.map (gE 0 (kvL ls)) ls.length)
 nd:(ls.map (·.1)).Nodup
 bl:∀e∈ls,s e.2.1=some (false,.cells 103 [.map e.2.2,.bool (tr e.1)])
 bm:∀e∈ls,s e.2.2=some (false,.map (gE 0 (tS (ps e.1))) (ps e.1).length)
 dl:∀e∈ls,∀f∈ls,e.2.1=f.2.1->e=f
 dm:∀e∈ls,∀f∈ls,e.2.2=f.2.2->e=f
 nM:∀e∈ls,e.2.2≠M
 sub:Sub H s
 fM:H M=none
 fb:∀e∈ls,H e.2.1=none
 fm:∀e∈ls,H e.2.2=none
 pn:∀k,(ps k).Nodup
variable {ls ls':List Ls} {ps:Int→List Int} {tr:Int→Bool} {t:Int}
theorem qJu:(kvL ls).map (·.1)=ls.map (·.1):=by rw[List.map_map];rfl
theorem LT.look(z:LT H s M ls ps tr)(t:Int):(∃e∈ls,e.1=t/\getM s (.map M) (.int .u32 t)=some (some (.ptr e.2.1 0)))∨(t ∉ ls.map (·.1)/\getM s (.map M) (.int .u32 t)=some none):=by
 rw[gget z.mp];cases q:gOf (kvL ls) t with
 | none=>
   have:=qSP.1 q;rw[qJu]at this;exact .inr ⟨this,rfl⟩
 | some v=>
   obtain⟨e,he,h⟩:=List.mem_map.1 (qUs q);cases h;exact .inl ⟨e,he,rfl,rfl⟩
def putL(t:Int)(b m:Nat):List Ls->List Ls
 |[]=>[(t,b,m)]
 |e::l=>if e.1=t then(t,b,m)::l else e::putL t b m l
theorem qPI{b m:Nat}:∀{ls:List Ls},kvL (putL t b m ls)=MU.putG t (.ptr b 0) (kvL ls)
 |[]=>rfl
 | e::ls=>by
   show kvL (putL t b m (e::ls))=MU.putG t (.ptr b 0) ((e.1,.ptr e.2.1 0)::kvL ls);unfold putL MU.putG
   by_cases h:e.1=t
   ·rw[if_pos h,if_pos h];rfl
   ·rw[if_neg h,if_neg h,<- qPI];rfl
theorem qE1{b m:Nat}:∀{ls:List Ls},(ls.map (·.1)).Nodup->∀{e},e∈putL t b m ls->e=(t,b,m)∨(e∈ls/\e.1≠t)
 | [],_,e,h=>by
   unfold putL at h;exact .inl (List.mem_singleton.1 h)
 | f::ls,nd,e,h=>by
   obtain⟨n1,n2⟩:=List.nodup_cons.1 nd;unfold putL at h
   by_cases hf:f.1=t
   ·rw[if_pos hf]at h
    rcases mC h with h|h
    ·exact .inl h
    ·refine .inr ⟨mO _ h,λq=>n1 ?_⟩
     show f.1∈ls.map (·.1);rw[hf,<- q];exact List.mem_map.2 ⟨e,h,rfl⟩
   ·rw[if_neg hf]at h
    rcases mC h with rfl|h
    ·exact .inr ⟨List.mem_cons_self,hf⟩
    ·rcases qE1 n2 h with h|⟨h,h2⟩
     ·exact .inl h
     ·exact .inr ⟨mO _ h,h2⟩
theorem qVD{b m:Nat}{k:Int}:k∈(putL t b m ls).map (·.1)↔k=t∨k∈ls.map (·.1):=by rw[<- qJu,qPI,qMS,qJu]
theorem qTd{R:Hq->Prop}(z:LT H s M ls (λ_=>[]) (λ_=>false))(hR:∀s' ls',LT H s' M ls' (λ_=>[]) (λ_=>false)->(∀k,k∈ls'.map (·.1)↔k=t∨k∈ls.map (·.1))->R s'):
  mapK (λv_40 s_41=>oK (qBV [.nilmap,.bool false] [(0,1,v_40)]) λc_42=>boxK 103 (.agg c_42) (λb_43 s_44=>oK (putM s_44 (.map M) (.int .u32 t) b_43) R) s_41) s:=by
 intro m hm;have k1:Sub s (hset s m (false,.map [] 0)):=qGW hm;have m1:hset s m (false,.map [] 0) m=some (false,.map [] 0):=qBU;generalize hset s m (false,.map [] 0)=s1 at k1 m1;refine qAF (a:=[.map m,.bool false]) rfl ⟨rfl,qAK λb s2 hb h2 u2=>?_⟩;have k2:=u2.sub hb;have kk:=k1.trans k2;have h2:s2 b=some (false,.cells 103 [.map m,.bool false]):=h2;have m2:s2 m=some (false,.map [] 0):=k2 _ _ m1;have hMm:M≠m:=by rintro rfl;rw[z.mp]at hm;cases hm
 have hMb:M≠b:=by rintro rfl;rw[k1 _ _ z.mp]at hb;cases hb
 have hmb:m≠b:=by rintro rfl;rw[m1]at hb;cases hb
 have hb0:s b=none:=SG.qAz k1 hb;have mp2:=kk _ _ z.mp;rw[show ls.length=(kvL ls).length from(lMY _).symm]at mp2;refine gput mp2 λs3 h3 u3=>?_;rw[<- qPI (m:=m)]at h3;have nd':((putL t b m ls).map (·.1)).Nodup:=by rw[<- qJu,qPI (m:=m)];exact qWV (by rw[qJu];exact z.nd)
 have old:∀{e:Ls},e∈ls->e.2.1≠b/\e.2.2≠m:=fun {e} he=>⟨λq=>(by have:=z.bl e he;rw[q,hb0]at this;cases this),λq=>(by have:=z.bm e he;rw[q,hm]at this;cases this)⟩
 have nl:∀{e:Ls},e∈ls->e.2.1≠M:=fun {e} he q=>by have:=z.bl e he;rw[q,z.mp]at this;cases this
 refine hR s3 (putL t b m ls) ⟨?_,nd',λe he=>?_,λe he=>?_,λe he f hf q=>?_,λe he f hf q=>?_,λe he=>?_,λi e hi=>?_,z.fM,λe he=>?_,λe he=>?_,λ_=>.nil⟩ λk=>qVD
 ·rw[h3];simp
 ·rcases qE1 z.nd he with rfl|⟨he,_⟩
  ·rw[u3 b hMb.symm];exact h2
  ·rw[u3 _ (nl he)];exact kk _ _ (z.bl e he)
 ·rcases qE1 z.nd he with rfl|⟨he,_⟩
  ·rw[u3 m hMm.symm];exact m2
  ·rw[u3 _ (z.nM e he)];exact kk _ _ (z.bm e he)
 ·rcases qE1 z.nd he with rfl|⟨he,_⟩<;>rcases qE1 z.nd hf with rfl|⟨hf,_⟩
  ·rfl
  ·exact absurd q.symm (old hf).1
  ·exact absurd q (old he).1
  ·exact z.dl e he f hf q
 ·rcases qE1 z.nd he with rfl|⟨he,_⟩<;>rcases qE1 z.nd hf with rfl|⟨hf,_⟩
  ·rfl
  ·exact absurd q.symm (old hf).2
  ·exact absurd q (old he).2
  ·exact z.dm e he f hf q
 ·rcases qE1 z.nd he with rfl|⟨he,_⟩
  ·exact hMm.symm
  ·exact z.nM e he
 ·rw[u3 i (λq=>by have:=z.fM;rw[<- q,hi]at this;cases this)]
  exact kk _ _ (z.sub i e hi)
 ·rcases qE1 z.nd he with rfl|⟨he,_⟩
  ·exact SG.qAz z.sub hb0
  ·exact z.fb e he
 ·rcases qE1 z.nd he with rfl|⟨he,_⟩
  ·exact SG.qAz z.sub hm
  ·exact z.fm e he
def upd{α:Type}(f:Int->α)(k:Int)(a:α):Int->α:=λi=>if i=k then a else f i
theorem LT.lm(z:LT H s M ls ps tr){f g:Ls}(hf:f∈ls)(hg:g∈ls):f.2.1≠g.2.2:=λq=>by have h1:=z.bl f hf;rw[q,z.bm g hg]at h1;cases h1
theorem LT.peer{s1 s2:Hq}{e:Ls}{x:Int}{w:Bool}(z:LT H s M ls ps tr)(he:e∈ls)(h1:s1 e.2.2=some (false,.map (gE 0 (tS (putS x (ps e.1)))) (tS (putS x (ps e.1))).length))(u1:Upto e.2.2 s s1)(h2:s2 e.2.1=some (false,.cells 103 [.map e.2.2,.bool w]))(u2:Upto e.2.1 s1 s2):
  LT H s2 M ls (upd ps e.1 (putS x (ps e.1))) (upd tr e.1 w):=by
 have key:∀{f:Ls},f∈ls->f.1=e.1->f=e:=fun {f} hf q=>by obtain⟨i,hi⟩:=List.mem_iff_getElem?.1 hf;obtain⟨j,hj⟩:=List.mem_iff_getElem?.1 he;obtain⟨a1,a2⟩:=gS hi;obtain⟨b1,b2⟩:=gS hj;have:i=j:=(List.getElem_inj (h₀:=by simpa using a1) (h₁:=by simpa using b1) z.nd).1 (by simp only[List.getElem_map,a2,b2];exact q);subst this;rw[hi]at hj;cases hj;rfl
 have lM:∀{f:Ls},f∈ls->f.2.1≠M:=fun {f} hf q=>by have:=z.bl f hf;rw[q,z.mp]at this;cases this
 have k2:∀{i:Nat},i≠e.2.1->i≠e.2.2->s2 i=s i:=fun {i} a b=>(u2 i a).trans (u1 i b);refine⟨?_,z.nd,λf hf=>?_,λf hf=>?_,z.dl,z.dm,z.nM,λi y hi=>?_,z.fM,z.fb,z.fm,λk=>?_⟩
 ·rw[k2 (Ne.symm (lM he)) (Ne.symm (z.nM e he))];exact z.mp
 ·by_cases q:f=e
  ·subst q
   rw[h2];simp[upd]
  ·have hk:f.1≠e.1:=λr=>q (key hf r)
   rw[k2 (λr=>q (z.dl f hf e he r)) (z.lm hf he),z.bl f hf];simp only[upd,if_neg hk]
 ·by_cases q:f=e
  ·subst q
   rw[u2 _ (Ne.symm (z.lm he he)),h1];simp[upd]
  ·have hk:f.1≠e.1:=λr=>q (key hf r)
   rw[k2 (Ne.symm (z.lm he hf)) (λr=>q (z.dm f hf e he r)),z.bm f hf];simp only[upd,if_neg hk]
 ·rw[k2 (λq=>by have:=z.fb e he;rw[<- q,hi]at this;cases this) (λq=>by have:=z.fm e he;rw[<- q,hi]at this;cases this)]
  exact z.sub i y hi
 ·unfold upd
  split
  ·exact zAAP (z.pn _)
  ·exact z.pn k
noncomputable def offL(s:Hq)(M:Nat)(ls:List Ls):Hq:=λi=>by
 classical
 exact if i=M∨∃e∈ls,i=e.2.1∨i=e.2.2 then none else s i
theorem qRD{i:Nat}(h:¬(i=M∨∃e∈ls,i=e.2.1∨i=e.2.2)):offL s M ls i=s i:=by unfold offL;rw[if_neg h]
theorem qLd{i:Nat}(h:i=M∨∃e∈ls,i=e.2.1∨i=e.2.2):offL s M ls i=none:=by unfold offL;rw[if_pos h]
theorem LT.base{H2:Hq}(z:LT H s M ls ps tr)(k:Sub H2 H):LT H2 s M ls ps tr:=⟨z.mp,z.nd,z.bl,z.bm,z.dl,z.dm,z.nM,k.trans z.sub,SG.qAz k z.fM,λe he=>SG.qAz k (z.fb e he),λe he=>SG.qAz k (z.fm e he),z.pn⟩
theorem LT.re(z:LT H s M ls ps tr):LT (offL s M ls) s M ls ps tr:=⟨z.mp,z.nd,z.bl,z.bm,z.dl,z.dm,z.nM,λi y hi=>by
 by_cases h:i=M∨∃e∈ls,i=e.2.1∨i=e.2.2
 ·rw[qLd h]at hi;cases hi
 ·rw[qRD h]at hi;exact hi,qLd (.inl rfl),λe he=>qLd (.inr ⟨e,he,.inl rfl⟩),λe he=>qLd (.inr ⟨e,he,.inr rfl⟩),z.pn⟩
theorem LT.old(z:LT H s M ls ps tr):Sub H (offL s M ls):=λi y hi=>by
 rw[qRD]
 ·exact z.sub i y hi
 ·rintro (rfl|⟨e,he,rfl|rfl⟩)
  ·rw[z.fM]at hi;cases hi
  ·rw[z.fb e he]at hi;cases hi
  ·rw[z.fm e he]at hi;cases hi
theorem LT.cell(z:LT H s M ls ps tr){i:Nat}{tg:Bool}{e:TypeId}{cs:List AV}(h:s i=some (tg,.cells e cs))(hn:∀m b,cs≠[.map m,.bool b]):offL s M ls i=some (tg,.cells e cs):=by
 rw[qRD]
 ·exact h
 ·rintro (rfl|⟨f,hf,rfl|rfl⟩)
  ·rw[z.mp]at h;cases h
  ·rw[z.bl f hf]at h
   cases h;exact hn _ _ rfl
  ·rw[z.bm f hf]at h;cases h
theorem LT.slice(z:LT H s M ls ps tr){v:AV}{k:IntKind}{l:List Int}(h:Sl s v (l.map (AV.int k))):Sl (offL s M ls) v (l.map (AV.int k)):=by
 rcases h with h|⟨b,o,cap,h1,h2,h3⟩
 ·exact .inl h
 ·refine .inr ⟨b,o,cap,h1,h2,λhl=>?_⟩
  obtain⟨t,e,cs,q1,q2,q3⟩:=h3 hl;refine⟨t,e,cs,z.cell q1 λm w hc=>?_,q2,q3⟩;have h0:0<(l.map (AV.int k)).length:=by
   cases l with
   |nil=>exact absurd rfl hl
   |cons x l=>simp
  have:=q3 0 h0;subst hc;rw[Nat.add_zero]at this;obtain⟨x,hx⟩:∃x,(l.map (AV.int k))[0]?=some (.int k x):=by
   cases l with
   |nil=>exact absurd rfl hl
   |cons x l=>exact⟨x,rfl⟩
  rw[hx]at this
  match o,this with
  | 0,h=>cases h
  | 1,h=>cases h
  |o+2,h=>cases h
theorem LT.to(z:LT H s M ls ps tr)(k:Sub s s'):LT H s' M ls ps tr:=⟨k _ _ z.mp,z.nd,λe he=>k _ _ (z.bl e he),λe he=>k _ _ (z.bm e he),z.dl,z.dm,z.nM,z.sub.trans k,z.fM,z.fb,z.fm,z.pn⟩
end Go.AM.FE
set_option maxRecDepth 100000
namespace Go.AM.FE
open Go Go.Proofs Go.AM.TN Go.AM.MU
variable {K:AV→Hq→Prop} {s s' H:Hq} {v:AV} {cs:List AV} {F:FG} {leaf:Int} {R:List SG.Rt} {ls:List Ls} {ps:Int→List Int} {tr:Int→Bool}
abbrev fT(F:FG)(leaf:Int):Int->SG.Rt->Bool:=FD.flT (flB F leaf) λr=>tgs r.cm
abbrev pL(F:FG)(leaf k:Int)(R:List SG.Rt):List Int:=FD.peersL (fT F leaf k) (λr:SG.Rt=>r.nx) R
abbrev tT(F:FG)(leaf k:Int)(R:List SG.Rt):Bool:=FD.treeT (flB F leaf) (λr:SG.Rt=>tgs r.cm) (λr=>r.tk == 3) R k
abbrev fld(F:FG)(leaf:Int)(R:List SG.Rt):List (Nat×List Int×Int):=FD.fldL (flB F leaf) (λr:SG.Rt=>tgs r.cm) (λr=>r.nx) (λr=>r.tk == 3) F.S F.B.length (tgtB F) leaf F.tr R
theorem pL_snoc{k:Int}{r:SG.Rt}:pL F leaf k (R ++ [r])=if(flB F leaf r&&decide (k∈tgs r.cm))=true then FD.insL r.nx (pL F leaf k R)else pL F leaf k R:=FD.peers_snoc _ _ _ _ _ _
theorem qUe{k:Int}{r:SG.Rt}:tT F leaf k (R ++ [r])=(tT F leaf k R||((flB F leaf r&&decide (k∈tgs r.cm))&&(r.tk == 3))):=FD.treeT_snoc _ _ _ _ _ _
theorem qQJ{S:List (List Int×List Int)}{T:Int->Int}{l k:Int}{i:Nat}{x:List Int×List Int}(hx:S[i]?=some x):FD.keyB (S.take (i+1)) T l k↔FD.keyB (S.take i) T l k∨(l∈x.1/\∃bd∈x.2,T bd=k):=by
 unfold FD.keyB;rw[List.take_add_one,hx];constructor
 ·rintro ⟨y,hy,h1,h2⟩
  rcases mP hy with hy|hy
  ·exact .inl ⟨y,hy,h1,h2⟩
  ·have:y=x:=by simpa using hy
   subst this;exact .inr ⟨h1,h2⟩
 ·rintro (⟨y,hy,h⟩|h)
  ·exact⟨y,List.mem_append_left _ hy,h⟩
  ·exact⟨x,List.mem_append_right _ (by simp),h⟩
theorem qZ4(hd:DomOk F){a b:Int}(ha:0<=a)(han:a<(F.B.length:Int))(hb:0<=b)(hbn:b<(F.B.length:Int))(h:tgtB F a=tgtB F b):a=b:=by
 have key:∀(i j:Nat),i<j->j<F.B.length->tgtB F (i:Int)≠tgtB F (j:Int):=λi j hij hj e=>by have h1:F.B[i]?=some F.B[i]:=gEY (by omega);have h2:F.B[j]?=some F.B[j]:=gEY hj;rw[tgt_at h1,tgt_at h2]at e;refine(hd.row j _ h2).tg ?_;rw[<- e];refine List.mem_map.2 ⟨F.B[i],?_,rfl⟩;rw[List.mem_take_iff_getElem];exact⟨i,by omega,rfl⟩
 obtain⟨i,rfl⟩:∃i:Nat,a=(i:Int):=⟨a.toNat,by omega⟩
 obtain⟨j,rfl⟩:∃j:Nat,b=(j:Int):=⟨b.toNat,by omega⟩
 rcases Nat.lt_trichotomy i j with q|q|q
 ·exact absurd h (key i j q (by omega))
 ·rw[q]
 ·exact absurd h.symm (key j i q (by omega))
structure P2(F:FG)(leaf:Int)(R:List SG.Rt)(ls:List Ls)(ps:Int->List Int)(tr:Int->Bool):Prop where
 mem:∀k,k∈ls.map (·.1)->∀y,y∈ps k↔y∈pL F leaf k R
 tre:∀k,k∈ls.map (·.1)->tr k=tT F leaf k R
theorem P2.no{r:SG.Rt}{i:Nat}(h:P2 F leaf (R.take i) ls ps tr)(hr:R[i]?=some r)(hf:flB F leaf r=false):P2 F leaf (R.take (i+1)) ls ps tr:=by
 have e:R.take (i+1)=R.take i ++ [r]:=by rw[List.take_add_one,hr];rfl
 refine⟨λk hk y=>?_,λk hk=>?_⟩
 ·rw[e,pL_snoc,if_neg (by rw[hf];simp)]
  exact h.mem k hk y
 ·rw[e,qUe,hf,Bool.false_and,Bool.false_and,Bool.or_false]
  exact h.tre k hk
structure P3(F:FG)(leaf:Int)(R:List SG.Rt)(r:SG.Rt)(T:List Int)(ls:List Ls)(ps:Int->List Int)(tr:Int->Bool):Prop where
 mem:∀k,k∈ls.map (·.1)->∀y,y∈ps k↔y∈pL F leaf k R∨(k∈T/\y=r.nx)
 tre:∀k,k∈ls.map (·.1)->tr k=(tT F leaf k R||(decide (k∈T)&&(r.tk == 3)))
theorem P3.start{r:SG.Rt}(h:P2 F leaf R ls ps tr):P3 F leaf R r [] ls ps tr:=
 ⟨λk hk y=>(h.mem k hk y).trans (by simp),λk hk=>by rw[h.tre k hk];simp⟩
theorem P3.done{r:SG.Rt}{i:Nat}(h:P3 F leaf (R.take i) r (tgs r.cm) ls ps tr)(hr:R[i]?=some r)(hf:flB F leaf r=true):P2 F leaf (R.take (i+1)) ls ps tr:=by
 have e:R.take (i+1)=R.take i ++ [r]:=by rw[List.take_add_one,hr];rfl
 refine⟨λk hk y=>?_,λk hk=>?_⟩
 ·rw[e,pL_snoc,hf,Bool.true_and]
  by_cases q:k∈tgs r.cm
  ·rw[if_pos (by simpa using q),FD.insL_mem,h.mem k hk y]
   exact⟨λg=>g.elim .inr λg=>.inl g.2,λg=>g.elim (λg=>.inr ⟨q,g⟩) .inl⟩
  ·rw[if_neg (by simpa using q),h.mem k hk y]
   exact⟨λg=>g.elim id λg=>absurd g.1 q,.inl⟩
 ·rw[e,qUe,h.tre k hk,hf,Bool.true_and]
theorem P3.skip{r:SG.Rt}{T:List Int}{j:Nat}{t:Int}(h:P3 F leaf R r (T.take j) ls ps tr)(ht:T[j]?=some t)(hk:t ∉ ls.map (·.1)):P3 F leaf R r (T.take (j+1)) ls ps tr:=by
 have e:∀{k:Int},k∈ls.map (·.1)->(k∈T.take (j+1)↔k∈T.take j):=fun {k} hk2=>by
  rw[List.take_add_one,ht,List.mem_append]
  exact⟨λg=>g.elim id λg=>absurd (by have:k=t:=by simpa using g
                                     rw[<- this];exact hk2) hk,.inl⟩
 refine⟨λk hk2 y=>?_,λk hk2=>?_⟩
 ·rw[e hk2];exact h.mem k hk2 y
 ·rw[decide_eq_decide.2 (e hk2)];exact h.tre k hk2
theorem P3.put{r:SG.Rt}{T:List Int}{j:Nat}{t:Int}(h:P3 F leaf R r (T.take j) ls ps tr)(ht:T[j]?=some t)(hk:t∈ls.map (·.1)):P3 F leaf R r (T.take (j+1)) ls (upd ps t (putS r.nx (ps t))) (upd tr t (tr t||(r.tk == 3))):=by
 have e:∀{k:Int},(k∈T.take (j+1)↔k∈T.take j∨k=t):=fun {k}=>by rw[List.take_add_one,ht,List.mem_append];simp
 refine⟨λk hk2 y=>?_,λk hk2=>?_⟩
 ·rw[e]
  unfold upd
  by_cases q:k=t
  ·rw[if_pos q,qXY,<- q,h.mem k hk2 y]
   exact⟨λg=>g.elim (λg=>.inr ⟨.inr rfl,g⟩) λg=>g.elim .inl λg=>.inr ⟨.inl g.1,g.2⟩,λg=>g.elim (λg=>.inr (.inl g)) λg=>.inl g.2⟩
  ·rw[if_neg q,h.mem k hk2 y]
   exact⟨λg=>g.elim .inl λg=>.inr ⟨.inl g.1,g.2⟩,λg=>g.elim .inl λg=>.inr ⟨g.1.elim id λg=>absurd g q,g.2⟩⟩
 ·unfold upd
  by_cases q:k=t
  ·rw[if_pos q,decide_eq_true (e.2 (.inr q)),<- q,h.tre k hk2]
   cases tT F leaf k R<;>cases decide (k∈T.take j)<;>cases(r.tk == 3)<;>rfl
  ·rw[if_neg q,h.tre k hk2,decide_eq_decide.2 (show k∈T.take (j+1)↔k∈T.take j from e.trans ⟨λg=>g.elim id λg=>absurd g q,.inl⟩)]
abbrev FlE:=Nat×List Int×Int
def flC(bd:Int)(v:AV)(g:Int):List AV:=[.int .i64 bd,v,.int .u32 g]
def FlA(s:Hq)(v:AV)(L:List FlE):Prop:=∃rows:List (List AV),SlR 3 s v rows/\rows.length=L.length/\∀(j:Nat) (e:FlE),L[j]?=some e->∃w,rows[j]?=some (flC (e.1:Int) w e.2.2)/\Sl s w (e.2.1.map (AV.int .u32))
theorem FlA.sub{L:List FlE}(h:FlA s v L)(k:Sub s s'):FlA s' v L:=by obtain⟨rows,h1,h2,h3⟩:=h;exact⟨rows,h1.sub k,h2,λj e hj=>by obtain⟨w,a,b⟩:=h3 j e hj;exact⟨w,a,b.sub k⟩⟩
theorem FlA.nil:FlA s .nilslc []:=⟨[],⟨by simp,.inl ⟨rfl,rfl⟩⟩,rfl,λj e h=>by simp at h⟩
def OwF(H t:Hq)(w:AV)(L:List FlE):Prop:=∃(sb:Hq) (rows:List (List AV)),Sub H sb/\Sub sb t/\AccR 44 3 sb t w rows/\rows.length=L.length/\∀(j:Nat) (e:FlE),L[j]?=some e->∃u,rows[j]?=some (flC (e.1:Int) u e.2.2)/\Sl sb u (e.2.1.map (AV.int .u32))
theorem OwF.fin{w:AV}{L:List FlE}(h:OwF H s w L):FlA s w L:=by obtain⟨sb,rows,_,h2,h3,h4,h5⟩:=h;exact⟨rows,h3.sl,h4,λj e hj=>by obtain⟨u,a,b⟩:=h5 j e hj;exact⟨u,a,b.sub h2⟩⟩
theorem OwF.sub{w:AV}{L:List FlE}(h:OwF H s w L)(k:Sub s s'):OwF H s' w L:=by obtain⟨sb,rows,h1,h2,h3,h4,h5⟩:=h;exact⟨sb,rows,h1,h2.trans k,h3.sub k,h4,h5⟩
theorem OwF.old{w:AV}{L:List FlE}(h:OwF H s w L):Sub H s:=by obtain⟨sb,rows,h1,h2,_⟩:=h;exact h1.trans h2
theorem zAAO{w:AV}{rows:List (List AV)}{sb t t2:Hq}(h:AccR 44 3 sb t w rows)(hs:Sub sb t)(k:Sub t t2):Sub sb (offV w t2)/\Sub (offV w t2) t2/\AccR 44 3 (offV w t2) t2 w rows:=by
 refine⟨λi y hi=>?_,qLW,h.1,?_⟩
 ·rw[qGb λb o n c e q=>?_]
  ·exact k _ _ (hs i y hi)
  ·rcases h.2 with⟨r,_⟩|⟨d,h0,r,_⟩
   ·rw[r]at q;cases q
   ·rw[r]at q;cases q
    exact qDH h0 hi
 ·rcases h.2 with h|⟨d,h0,r,h1⟩
  ·exact .inl h
  ·refine .inr ⟨d,?_,r,k _ _ h1⟩
   rw[r];exact if_pos rfl
theorem OwF.put{t t2:Hq}{w wv y:AV}{L:List FlE}{e:FlE}(h:OwF H t w L)(k:Sub t t2)(hs:Sl t2 wv (e.2.1.map (AV.int .u32)))(hfr:∀b o n c,wv=.slc b o n c 1->t b=none)(hy:SlR 3 t2 y [flC (e.1:Int) wv e.2.2])(hl:L.length<=1000)(hK:∀v' s',OwF H s' v' (L ++ [e])->K v' s'):appK 44 3 w y K t2:=by
 obtain⟨sb,rows,h1,h2,h3,h4,h5⟩:=h;obtain⟨o1,o2,o3⟩:=zAAO h3 h2 k;have hs':Sl (offV w t2) wv (e.2.1.map (AV.int .u32)):=by
  rcases hs with hs|⟨b,o,cap,q1,q2,q3⟩
  ·exact .inl hs
  ·refine .inr ⟨b,o,cap,q1,q2,λhne=>?_⟩
   obtain⟨tg,el,cs,g1,g2⟩:=q3 hne;refine⟨tg,el,cs,?_,g2⟩;rw[qGb λb' o' n c e' q=>?_]
   ·exact g1
   ·rcases h3.2 with⟨r,_⟩|⟨d,_,r,hd⟩
    ·rw[r]at q;cases q
    ·rw[r]at q
     cases q;rintro rfl;rw[hfr _ _ _ _ q1]at hd;cases hd
 refine o3.app hy (by simp) (by rw[h4];simp;omega) o2 λv' s' a q=>hK v' s' ⟨offV w t2,_,h1.trans o1,q,a,by simp[h4],λj f hj=>?_⟩
 by_cases hjl:j<L.length
 ·rw[List.getElem?_append_left hjl]at hj
  obtain⟨u,a1,a2⟩:=h5 j f hj;exact⟨u,by rw[List.getElem?_append_left (by rw[h4];exact hjl)];exact a1,a2.sub o1⟩
 ·have hj2:j=L.length:=by
   have:=(gS hj).1;simp at this;omega
  subst hj2;rw[List.getElem?_append_right (Nat.le_refl _),Nat.sub_self]at hj;cases hj;exact⟨wv,by rw[<- h4,List.getElem?_append_right (Nat.le_refl _),Nat.sub_self];rfl,hs'⟩
end Go.AM.FE
set_option maxRecDepth 100000
namespace Go.AM.FC
open Go Go.Proofs
variable {v:AV}
def xorW(x y:Int):Int:=qA6 .u32 ((BitVec.ofInt (IntKind.bits .u32) x ^^^ BitVec.ofInt (IntKind.bits .u32) y).toNat:Nat)
def hs1(h b:Int):Int:=IntKind.u32.wrap (xorW h (qA6 .u32 b)*16777619)
def hsh:Int->List Int->Int
 |h,[]=>h
 |h,b::r=>hsh (hs1 h b) r
theorem cvI{k k':IntKind}{n:Int}:qCJ k (.int k' n)=some (.int k (qA6 k n)):=rfl
theorem shr_b{v:Int}{m:Nat}(hm:m<=64):qCd .shr (.int .u64 v) (.int .i64 (m:Int))=some (.int .u64 (v.fdiv ((2^m:Nat):Int))):=by show frc (v.fdiv ((2^(min m (IntKind.bits .u64)):Nat):Int)) (λn=>some (AV.int .u64 n))=_;rw[qBl,Nat.min_eq_left (show m<=IntKind.bits .u64 from hm)]
end Go.AM.FC
set_option maxRecDepth 100000
namespace Go.AM.FC
open Go Go.Proofs Go.AM.TN
variable {s s0 U:Hq}
theorem fill_one{zs c:List AV}(h:c.length=zs.length):qBV (repl 1 zs) [(0,zs.length,.agg c)]=some c:=by
 have e0:repl 1 zs=zs:=by simp[repl]
 rw[e0];have e2:Nat.beq c.length zs.length=true:=by rw[h];exact Nat.beq_refl _
 have e3:Nat.ble (0+c.length) zs.length=true:=bL (by omega);simp only[qBV,qJz,e2,e3,Bool.and_self,cond_true];unfold qBT;rw[List.take_zero,List.nil_append,List.drop_eq_nil_of_le (by omega),List.append_nil]
theorem one_row{es:Nat}{e:TypeId}{b:Nat}{t:Bool}{r:List AV}(h:s b=some (t,.cells e r))(hl:r.length=es):SlR es s (.slc b 0 1 (some 1) es) [r]:=
 SlR.mk (λx hx=>by rw[List.mem_singleton.1 hx];exact hl) (by simpa using h) rfl (λc e=>by cases e;simp)
theorem cut1(h:Sub s0 s):Sub s0 (cutH [(s,add s U)] (add s U)):=λi e hi=>qO0 (h i e hi) (qAb (h i e hi))
structure Fr where
 src:Int
 dst:Int
 kind:Int
 a3:Int
 a4:Int
 a5:Int
 a6:Int
 a7:Int
 hs:Int
 hd:Int
 a10:Int
 pr:Int
 p1:Int
 p2:Int
 data:Int
end Go.AM.FC
set_option maxRecDepth 100000
namespace Go.AM.FE
open Go Go.Proofs Go.AM.TN Go.AM.MU
variable {K:AV→Hq→Prop} {s s' H t:Hq} {v:AV} {F:FG} {leaf:Int} {M b0:Nat} {R:List SG.Rt} {v2 v3 v4 v5 v6 v7:AV} {ls:List Ls} {ps:Int→List Int} {tr:Int→Bool} {t0:Bool}
theorem qN5{ρ:Type}(f:ρ->Bool)(nx:ρ->Int)(R:List ρ):(FD.peersL f nx R).length<=R.length:=by
 have key:∀(R:List ρ) (p:List Int),(R.foldl (λp r=>if f r then FD.insL (nx r) p else p) p).length<=p.length+R.length:=by
  intro R
  induction R with
  |nil=>intro p;simp
  | cons r R ih=>
    intro p;rw[List.foldl_cons,List.length_cons];have h1:=ih (if f r then FD.insL (nx r) p else p);have h2:(if f r then FD.insL (nx r) p else p).length<=p.length+1:=by
     split
     ·exact FD.insL_len
     ·omega
    omega
 have:=key R [];unfold FD.peersL;simpa using this
theorem zABd{l:List Int}(h:l.Pairwise (· < ·)):l.Nodup:=h.imp λh e=>by omega
theorem qVC{k:Int}{l:List Int}(hn:l.Nodup)(hm:∀y,y∈l↔y∈pL F leaf k R):qKa l=pL F leaf k R/\l.length<=R.length:=by have ha:(pL F leaf k R).Pairwise (· < ·):=FD.peersL_asc _ _ _;have hp:l.Perm (pL F leaf k R):=(List.perm_ext_iff_of_nodup hn (zABd ha)).2 hm;exact⟨qMl ((qKS l).trans hp) (qH0 l) (ha.imp λh=>Int.le_of_lt h),by rw[hp.length_eq];exact qN5 _ _ _⟩
def fldG(F:FG)(leaf:Int)(R:List SG.Rt)(i:Nat):Option FlE:=if FD.carB F.S leaf (i:Int)then some (i,pL F leaf (tgtB F (i:Int)) R,if F.tr&&tT F leaf (tgtB F (i:Int)) R then 4009754625+(i:Int)else 0)else none
def fldN(F:FG)(leaf:Int)(R:List SG.Rt)(n:Nat):List FlE:=(List.range n).filterMap (fldG F leaf R)
theorem fldN_all:fldN F leaf R F.B.length=fld F leaf R:=rfl
theorem qPj{n:Nat}:fldN F leaf R (n+1)=fldN F leaf R n++(fldG F leaf R n).toList:=by
 unfold fldN;rw[List.range_succ,List.filterMap_append]
 congr 1
theorem qSi:∀n,(fldN F leaf R n).length<=n:=λn=>by have:=List.length_filterMap_le (fldG F leaf R) (List.range n);rw[List.length_range]at this;exact this
theorem zAAm{i:Int}{v:AV}(hv:v.one=true):qBV [(.int .i64 0),.nilslc,(.int .u32 0)] [(0,1,.int .i64 i),(1,1,v)]=some (flC i v 0):=by cases v<;>first|rfl|cases hv
theorem grp{i:Nat}(h:i<32):qCJ .u32 (.int .i64 (i:Int))=some (.int .u32 (i:Int))/\IntKind.u32.wrap (4009754625+(i:Int))=4009754625+(i:Int):=by
 have w:∀n:Int,0<=n->n<4294967296->qA6 .u32 n=n:=λn h1 h2=>by simp only[qA6];rw[qDW _ _ _ (by omega) (by omega)];split<;>omega
 refine⟨?_,by rw[<- qBS];exact w _ (by omega) (by omega)⟩;show some (AV.int .u32 (qA6 .u32 (i:Int)))=_;rw[w _ (by omega) (by omega)]
theorem ph3(hv:Valid F)(h0:t b0=some (t0,.cells 31 (csG F v2 v3 v4 v5 v6 v7)))(hL:FL t F v2 v3 v4 v5 v6 v7)(z:LT H t M ls ps tr)(p:P2 F leaf R ls ps tr)(hkeys:∀k,k∈ls.map (·.1)↔FD.keyB F.S (tgtB F) leaf k)(hRl:R.length<=60)
  (hK:∀v' s',Sub t s'->FlA s' v' (fld F leaf R)->K v' s') :
  oK (qAE 4 (.ptr b0 0)) λv_93=>oK (rd1 t v_93) λv_94=>oK (qAO v_94) λv_95=>∃I10:List AV->Hq->Nat->Prop,(∃m,I10 [.nilslc,(.int .i64 0)] t m)/\∀(f:Env) (s:Hq) (m10:Nat),I10 [f 20,f 125] s m10->
   qET XX (.ptr b0 0) (.map M) (f 20) v_94 (.int .i64 v_95) (f 125) I10 m10 K s:=by
 have hd:DomOk F:=hv 4 (by omega);have hsg:SegOk F:=hv 5 (by omega);have n4:qAO v4=some F.B.length:=by rw[hL.B.len,lMY]
 have h32:=hd.n;simp only[qAG,zA,qAA,qAL h0,csG4,n4];refine⟨λys t' m=>∃(i:Nat) (w:AV),ys=[w,.int .i64 (i:Int)]/\i<=F.B.length/\m=F.B.length-i/\OwF t t' w (fldN F leaf R i),⟨_,0,_,rfl,by omega,rfl,t,[],.refl _,.refl _,⟨by simp,.inl ⟨rfl,rfl⟩⟩,rfl,λj e h=>by simp[fldN]at h⟩,?_⟩;rintro f t' m ⟨i,w,hy,hi,rfl,ow⟩;simp only[cI,and_true]at hy;rw[hy.1,hy.2];clear hy;have kt:=ow.old;simp only[qET,qAQ,qAA];refine qAD (λhlt=>?_) (λhge=>?_)
 rotate_left
 ·have hge:i=F.B.length:=by have:=oF hge;omega
  subst hge;exact hK _ _ kt ow.fin
 have hlt:i<F.B.length:=by have:=oT hlt;omega
 obtain⟨y,hyB⟩:∃y,F.B[i]?=some y:=⟨_,gEY hlt⟩
 obtain⟨pb,po,e1,e2,_⟩:=(hL.B.sub kt).get (i:=i) (r:=bgC y) (by rw[List.getElem?_map,hyB];rfl);simp only[e1,e2,qAA];refine qAK λb1 s2 hb1 h2 u2=>qAR h2 rfl rfl rfl λs3 h3 u3=>?_;have k3:Sub t' s3:=qAT (u2.sub hb1) u3 hb1;have k3t:=kt.trans k3;have z3:=z.to k3t;have r2:rd1 s3 (.ptr b1 2)=some (.int .u32 (tgtB F (i:Int))):=by rw[qAL h3,tgt_at hyB];rfl
 simp only[qAG,zA,r2,qAA];have hcar:tgtB F (i:Int)∈ls.map (·.1)↔FD.carB F.S leaf (i:Int)=true:=(hkeys _).trans (FD.keyB_iff (n:=(F.B.length:Int)) (λa b h1 h2 h3 h4 h5=>qZ4 hd h1 h2 h3 h4 h5) (λx hx b hb=>(hsg.row x hx).2.1.2 b hb) (by omega) (by omega));have next:∀{tt:Hq}{w':AV},OwF t tt w' (fldN F leaf R (i+1))->qDO XX w' (.int .i64 (i:Int)) (λys t' m=>∃(i:Nat) (w:AV),ys=[w,.int .i64 (i:Int)]/\i<=F.B.length/\m=F.B.length-i/\OwF t t' w (fldN F leaf R i)) (F.B.length-i) K tt:=fun {tt w'} ow'=>by unfold qDO;simp only[qAN,qAA];rw[qAV (by omega) (by omega)];exact⟨_,by omega,i+1,w',rfl,by omega,rfl,ow'⟩
 rcases z3.look (tgtB F (i:Int))with⟨e,he,hek,hg⟩|⟨hno,hg⟩
 rotate_left
 ·rw[hg]
  simp only[qAA,retM,cond_false,qNq,qAc,Bool.false_bne,qAe];refine next ?_;have:fldG F leaf R i=none:=by unfold fldG;rw[if_neg (λq=>hno (hcar.2 q))]
  rw[qPj,this,Option.toList_none,List.append_nil];exact ow.sub k3
 rw[hg];have hmem:e.1∈ls.map (·.1):=List.mem_map.2 ⟨e,he,rfl⟩;obtain⟨hsort,hlen⟩:=qVC (z.pn e.1) (p.mem e.1 hmem);have l1:=z3.bl e he;simp only[qAA,retM,cond_false,qUS,qAc,Bool.false_bne,qAS,qB4,qAG,zA,qAL l1,g0Y];refine qCt (qLZ rfl λbx s4 hbx h4 u4=>?_);have k4:=u4.sub hbx;refine sorted_in (t1:=false) (t2:=false) h4 (k4 _ _ (z3.bm e he)) (by omega) λu s5 k5 hu hfr=>?_;rw[hsort]at hu;have k35:=k4.trans k5;refine qAF (zAAm hu.one) (qAK λb2 s6 hb2 h6 u6=>qAR h6 rfl rfl (by simp[flC,hu.one]) λs7 h7 u7=>?_);have k57:Sub s5 s7:=qAT (u6.sub hb2) u7 hb2;have k37:=k35.trans k57;have h07:=k37 _ _ (k3t _ _ h0);have n2:t' b2=none:=SG.qAz (k3.trans k35) hb2;have gfr:∀b o n c,u=.slc b o n c 1->t' b=none:=λb o n c q=>SG.qAz (k3.trans k4) (hfr b o n c q);have ggr:=grp (i:=i) (by omega);have c12:(csG F v2 v3 v4 v5 v6 v7)[12]?=some (.bool F.tr):=id rfl;have hgi:∀g:Int,(if F.tr&&tT F leaf (tgtB F (i:Int)) R then 4009754625+(i:Int)else 0)=g->fldN F leaf R (i+1)=fldN F leaf R i ++ [(i,pL F leaf (tgtB F (i:Int)) R,g)]:=λg hg=>by
  rw[qPj]
  congr 1
  unfold fldG;rw[if_pos (hcar.1 (by rw[<- hek];exact hmem)),hg];rfl
 have put:∀{tt:Hq}{g:Int},Sub s5 tt->tt b2=some (false,.cells 44 (flC (i:Int) u g))->(if F.tr&&tT F leaf (tgtB F (i:Int)) R then 4009754625+(i:Int)else 0)=g->qDV XX w (.ptr b2 0) (.int .i64 (i:Int)) (λys t' m=>∃(i:Nat) (w:AV),ys=[w,.int .i64 (i:Int)]/\i<=F.B.length/\m=F.B.length-i/\OwF t t' w (fldN F leaf R i)) (F.B.length-i) K tt:=fun {tt g} kk hb hg=>by unfold qDV;refine qAF (qAm hb rfl) (qAF (a:=flC (i:Int) u g) (FC.fill_one rfl) ⟨by simp[flC,hu.one],qAK λb3 s8 hb3 h8 u8=>?_⟩);have k8:=kk.trans (u8.sub hb3);have hle:=qSi (F:=F) (leaf:=leaf) (R:=R) i;refine ow.put (e:=(i,pL F leaf (tgtB F (i:Int)) R,g)) (k3.trans (k35.trans k8)) (by rw[<- hek];exact hu.sub k8) gfr (FC.one_row h8 rfl) (by omega) λv' s' ow'=>?_;rw[<- hgi g hg]at ow';exact next ow'
 simp only[qAL h07,c12,qAA];have htre:=p.tre e.1 hmem;rw[hek]at htre;have h7':s7 b2=some (false,.cells 44 (flC (i:Int) u 0)):=h7;cases c1:F.tr with
 | false=>
   simp only[qAS,qDT,qAf,qAA];exact put k57 h7' (by rw[c1];rfl)
 | true=>
   have l7:=k37 _ _ l1;have r1:rd1 s7 (.ptr e.2.1 1)=some (.bool (tr e.1)):=by rw[qAL l7];rfl
   simp only[qAe,qAG,zA,r1,qAA,qDT,qAg];rw[hek,htre];refine qAD (λc2=>?_) (λc2=>?_)
   ·simp only[ggr.1,qAN,qAA,ggr.2]
    refine qBN h7' (by simp[flC]) rfl λs8 h8 u8=>?_;have n5:s5 b2=none:=hb2;exact put (qAT k57 u8 n5) h8 (by rw[c1,c2];rfl)
   ·exact put k57 h7' (by rw[c1,c2];rfl)
end Go.AM.FE
set_option maxRecDepth 100000
namespace Go.AM.FE
open Go Go.Proofs Go.AM.TN Go.AM.MU
variable {K:AV→Hq→Prop} {s s' H t:Hq} {v p q m:AV} {F:FG} {leaf:Int} {M b0:Nat} {R:List SG.Rt} {v2 v3 v4 v5 v6 v7:AV} {ls:List Ls} {ps:Int→List Int} {tr:Int→Bool} {t0:Bool} {r:SG.Rt}
theorem zACk{bR i:Nat}{vT:AV}{I5:List AV->Hq->Nat->Prop}{m5:Nat}(z:LT H t M ls ps tr)(hr:R[i]?=some r)(hfl:flB F leaf r=true)(hp:P2 F leaf (R.take i) ls ps tr)(hT:Sl t vT ((tgs r.cm).map (AV.int .u32)))(hTl:(tgs r.cm).length<=20)(hb:t bR=some (false,.cells 81 (r.row p q m)))
  (hN:∀t' ps' tr',LT H t' M ls ps' tr'->P2 F leaf (R.take (i+1)) ls ps' tr'->qCn XX (.int .i64 (i:Int)) I5 m5 K t') :
  oK (qAO vT) λv_66=>∃I7:List AV->Hq->Nat->Prop,(∃m,I7 [(.int .i64 0)] t m)/\∀(f:Env) (s:Hq) (m7:Nat),I7 [f 90] s m7->qEt XX (.map M) (.ptr bR 0) (.int .i64 (i:Int)) vT (.int .i64 v_66) (f 90) I7 m7 I5 m5 K s:=by
 have nT:qAO vT=some (tgs r.cm).length:=by rw[hT.len];simp
 have asc:(tgs r.cm).Pairwise (· < ·):=FD.insAll_asc _;have done:∀{ps' tr'},P3 F leaf (R.take i) r (tgs r.cm) ls ps' tr'->P2 F leaf (R.take (i+1)) ls ps' tr':=λh=>h.done hr hfl;generalize tgs r.cm=T at *;simp only[nT,qAA];have hb':=z.cell hb λa b h=>by have:=congrArg List.length h;rw[r.row_len]at this;simp at this
 have hT':=z.slice hT;refine⟨λys t' m=>∃(j:Nat) (ps':Int->List Int) (tr':Int->Bool),ys=[.int .i64 (j:Int)]/\j<=T.length/\m=T.length-j/\LT (offL t M ls) t' M ls ps' tr'/\P3 F leaf (R.take i) r (T.take j) ls ps' tr',⟨_,0,ps,tr,rfl,by omega,rfl,z.re,.start hp⟩,?_⟩;rintro f t' m' ⟨j,ps',tr',hy,hj,rfl,z',p3⟩;simp only[cI,and_true]at hy;rw[hy];clear hy;have hT2:=hT'.sub z'.sub;have hb2:=z'.sub _ _ hb';simp only[qEt,qAQ,qAA];refine qAD (λhlt=>?_) (λhge=>?_)
 rotate_left
 ·have hge:j=T.length:=by have:=oF hge;omega
  subst hge;rw[List.take_length]at p3;exact hN t' ps' tr' (z'.base z.old) (done p3)
 have hlt:j<T.length:=by have:=oT hlt;omega
 obtain⟨k,hk⟩:∃k,T[j]?=some k:=⟨_,gEY hlt⟩
 obtain⟨a,e1,e2⟩:=hT2.get (i:=j) (by simp;exact hlt);rw[List.getElem?_map,hk]at e2;have next:∀{tt:Hq}{ps2:Int->List Int}{tr2:Int->Bool},LT (offL t M ls) tt M ls ps2 tr2->P3 F leaf (R.take i) r (T.take (j+1)) ls ps2 tr2->qB6 XX (.int .i64 (j:Int)) (λys t' m=>∃(j:Nat) (ps':Int->List Int) (tr':Int->Bool),ys=[.int .i64 (j:Int)]/\j<=T.length/\m=T.length-j/\LT (offL t M ls) t' M ls ps' tr'/\P3 F leaf (R.take i) r (T.take j) ls ps' tr') (T.length-j) I5 m5 K tt:=fun {tt ps2 tr2} z2 p2=>by unfold qB6;simp only[qAN,qAA];rw[qAV (by omega) (by omega)];exact⟨_,by omega,j+1,ps2,tr2,rfl,by omega,rfl,z2,p2⟩
 simp only[e1,e2,Option.map_some,qAA];rcases z'.look k with⟨e,he,hek,hg⟩|⟨hno,hg⟩
 rotate_left
 ·rw[hg]
  simp only[qAA,retM,cond_false,qNq,qAc,Bool.true_bne,Bool.not_true,qAS];exact next z' (p3.skip hk hno)
 rw[hg];have hmem:k∈ls.map (·.1):=by rw[<- hek];exact List.mem_map.2 ⟨e,he,rfl⟩
 have l1:=z'.bl e he;have lm:=z'.bm e he;rw[show(ps' e.1).length=(tS (ps' e.1)).length from(lMY _).symm]at lm;simp only[qAA,retM,cond_false,qUS,qAc,Bool.true_bne,Bool.not_false,qAe,qB4,qAG,zA,Nat.reduceAdd,qAL l1,g0Y,qAL hb2,zAAu];refine gput lm λs1 h1 u1=>?_;rw[qUo]at h1;have l2:s1 e.2.1=some (false,.cells 103 [.map e.2.2,.bool (tr' e.1)]):=by rw[u1 _ (z'.lm he he)];exact l1
 have hb3:s1 bR=some (false,.cells 81 (r.row p q m)):=by rw[u1 _ (by rintro rfl;rw[z'.bm e he]at hb2;cases hb2)];exact hb2
 have r1:rd1 s1 (.ptr e.2.1 1)=some (.bool (tr' e.1)):=by rw[qAL l2];rfl
 have fin:∀{w:Bool},w=(tr' e.1||(r.tk == 3))->qB6 XX (.int .i64 (j:Int)) (λys t' m=>∃(j:Nat) (ps':Int->List Int) (tr':Int->Bool),ys=[.int .i64 (j:Int)]/\j<=T.length/\m=T.length-j/\LT (offL t M ls) t' M ls ps' tr'/\P3 F leaf (R.take i) r (T.take j) ls ps' tr') (T.length-j) I5 m5 K (hset s1 e.2.1 (false,.cells 103 [.map e.2.2,.bool w])):=fun {w} hw=>by refine next (z'.peer he h1 u1 qBU (λi hi=>qAw hi)) ?_;rw[hw,hek];exact p3.put hk hmem
 have wr:∀{w:Bool},w=(tr' e.1||(r.tk == 3))->oK (wr1 s1 (.ptr e.2.1 1) (.bool w)) λs_87=>qB6 XX (.int .i64 (j:Int)) (λys t' m=>∃(j:Nat) (ps':Int->List Int) (tr':Int->Bool),ys=[.int .i64 (j:Int)]/\j<=T.length/\m=T.length-j/\LT (offL t M ls) t' M ls ps' tr'/\P3 F leaf (R.take i) r (T.take j) ls ps' tr') (T.length-j) I5 m5 K s_87:=fun {w} hw=>by rw[qZL l2 (by simp) rfl];exact fin hw
 simp only[r1,qAA];cases c1:tr' e.1 with
 | true=>
   simp only[qAe,qDg,qAg,qAA,qB4,qAG,zA];exact wr (by rw[c1];rfl)
 | false=>
   simp only[qAS,qAG,zA,qAA,qAL hb3,zABm,qAl,qAc,Bool.false_bne,qDg,qAf,qB4];exact wr (by rw[c1];rfl)
theorem ph2(hv:Valid F)(hH0:H b0=some (t0,.cells 31 (csG F v2 v3 v4 v5 v6 v7)))(hL:FL H F v2 v3 v4 v5 v6 v7)(hR:SG.Rts H v R)(hG:SG.GlK H)(hok:∀r∈R,r.ok)(hRl:R.length<=60)(z:LT H t M ls (λ_=>[]) (λ_=>false))(hkeys:∀k,k∈ls.map (·.1)↔FD.keyB F.S (tgtB F) leaf k)
  (hK:∀v' s',Sub H s'->FlA s' v' (fld F leaf R)->K v' s') :
  oK (qAO v) λv_47=>∃I5:List AV->Hq->Nat->Prop,(∃m,I5 [(.int .i64 0)] t m)/\∀(f:Env) (s:Hq) (m5:Nat),I5 [f 76] s m5->qEu XX (.int .i64 leaf) (.ptr b0 0) (.map M) v (.int .i64 v_47) (f 76) I5 m5 K s:=by
 simp only[hR.len,qAA];refine⟨λys t' m=>∃(i:Nat) (ps:Int->List Int) (tr:Int->Bool),ys=[.int .i64 (i:Int)]/\i<=R.length/\m=R.length-i/\LT H t' M ls ps tr/\P2 F leaf (R.take i) ls ps tr,⟨_,0,_,_,rfl,by omega,rfl,z,⟨λk _ y=>by simp[pL,FD.peersL],λk _=>by simp[tT,FD.treeT]⟩⟩,?_⟩;rintro f t1 m' ⟨i,ps,tr,hy,hi,rfl,z1,p2⟩;simp only[cI,and_true]at hy;rw[hy];clear hy;have k1:=z1.sub;simp only[qEu,qAQ,qAA];refine qAD (λhlt=>?_) (λhge=>?_)
 rotate_left
 ·have hge:i=R.length:=by have:=oF hge;omega
  subst hge;rw[List.take_length]at p2;exact ph3 hv (k1 _ _ hH0) (hL.sub k1) z1 p2 hkeys hRl λv' s' k h=>hK v' s' (k1.trans k) h
 have hlt:i<R.length:=by have:=oT hlt;omega
 obtain⟨r,hr⟩:∃r,R[i]?=some r:=⟨_,gEY hlt⟩
 obtain⟨pb,po,p,q,m,e1,e2,_,hrt⟩:=(hR.sub k1).get hr;have hrok:=hok r (mG hr);simp only[e1,e2,qAA];refine qAK λbR s2 hbR h2 u2=>qAR h2 rfl rfl hrt.one λs3 h3 u3=>?_;have k3:Sub t1 s3:=qAT (u2.sub hbR) u3 hbR;have h3:s3 bR=some (false,.cells 81 (r.row p q m)):=h3;have kH:=k1.trans k3;refine qAF (qAm (kH _ _ hH0) rfl) (qAF (qAm h3 rfl) ?_);refine qUh ⟨v2,v3,v4,v5,v6,v7,rfl,hL.sub kH⟩ (hrt.sub k3) λs4 k4=>?_;have next:∀{tt:Hq}{ps2:Int->List Int}{tr2:Int->Bool},LT H tt M ls ps2 tr2->P2 F leaf (R.take (i+1)) ls ps2 tr2->qCn XX (.int .i64 (i:Int)) (λys t' m=>∃(i:Nat) (ps:Int->List Int) (tr:Int->Bool),ys=[.int .i64 (i:Int)]/\i<=R.length/\m=R.length-i/\LT H t' M ls ps tr/\P2 F leaf (R.take i) ls ps tr) (R.length-i) K tt:=fun {tt ps2 tr2} z2 p2=>by unfold qCn;simp only[qAN,qAA];rw[qAV (by omega) (by omega)];exact⟨_,by omega,i+1,ps2,tr2,rfl,by omega,rfl,z2,p2⟩
 simp only[qAu,qAA];refine qAD (λc=>?_) (λc=>?_)
 ·exact next (z1.to (k3.trans k4)) (p2.no hr (by simpa using c))
 ·have c:flB F leaf r=true:=by simpa using c
  have h4:=k4 _ _ h3;simp only[qAG,zA,Nat.reduceAdd,qAA,qAL h4,zACs];refine qTM ((hrt.sub k3).cm.sub k4) (hG.sub (kH.trans k4)) (λc hc=>hrok.1 c hc) (by have:=hrok.2.2.2;omega) λvT s5 k5 hT=>?_;exact zACk ((z1.to (k3.trans k4)).to k5) hr c p2 hT (Nat.le_trans zAAT hrok.2.2.2) (k5 _ _ h4) λt' ps' tr' z' p'=>next z' p'
end Go.AM.FE
set_option maxRecDepth 100000
namespace Go.AM.FE
open Go Go.Proofs Go.AM.TN Go.AM.MU
variable {K:AV→Hq→Prop} {s s' H t:Hq} {v p q m:AV} {cs:List AV} {F:FG} {leaf:Int} {M b0:Nat} {R:List SG.Rt} {v2 v3 v4 v5 v6 v7:AV} {ls:List Ls} {t0:Bool}
theorem ph1(hv:Valid F)(hH0:H b0=some (t0,.cells 31 (csG F v2 v3 v4 v5 v6 v7)))(hL:FL H F v2 v3 v4 v5 v6 v7)(hR:SG.Rts H v R)(hG:SG.GlK H)(hok:∀r∈R,r.ok)(hRl:R.length<=60)(hN:∀x∈F.S,x.1.length<=20/\x.2.length<=20)(z:LT H t M [] (λ_=>[]) (λ_=>false))
  (hK:∀v' s',Sub H s'->FlA s' v' (fld F leaf R)->K v' s') :
  oK (qAE 5 (.ptr b0 0)) λv_13=>oK (rd1 t v_13) λv_14=>oK (qAO v_14) λv_15=>∃I2:List AV->Hq->Nat->Prop,(∃m,I2 [(.int .i64 0)] t m)/\∀(f:Env) (s:Hq) (m2:Nat),I2 [f 47] s m2->
   qEn XX (.int .i64 leaf) v (.ptr b0 0) (.map M) v_14 (.int .i64 v_15) (f 47) I2 m2 K s:=by
 have hd:DomOk F:=hv 4 (by omega);have hsg:SegOk F:=hv 5 (by omega);have n5:qAO v5=some F.S.length:=hL.S.len;have hS64:=hsg.n;simp only[qAG,zA,qAA,qAL (z.sub _ _ hH0),csG5,n5];refine⟨λys t' m=>∃(i:Nat) (ls:List Ls),ys=[.int .i64 (i:Int)]/\i<=F.S.length/\m=F.S.length-i/\LT H t' M ls (λ_=>[]) (λ_=>false)/\∀k,k∈ls.map (·.1)↔FD.keyB (F.S.take i) (tgtB F) leaf k,⟨_,0,[],rfl,by omega,rfl,z,λk=>by simp[FD.keyB]⟩,?_⟩;rintro f t1 m' ⟨i,ls,hy,hi,rfl,z1,hk⟩;simp only[cI,and_true]at hy;rw[hy];clear hy;have k1:=z1.sub;simp only[qEn,qAQ,qAA];refine qAD (λhlt=>?_) (λhge=>?_)
 rotate_left
 ·have hge:i=F.S.length:=by have:=oF hge;omega
  subst hge;rw[List.take_length]at hk;exact ph2 hv hH0 hL hR hG hok hRl z1 hk hK
 have hlt:i<F.S.length:=by have:=oT hlt;omega
 obtain⟨x,hx⟩:∃x,F.S[i]?=some x:=⟨_,gEY hlt⟩
 have hxm:=mG hx;have hrow:=hsg.row x hxm;obtain⟨n1,n2⟩:=hN x hxm;obtain⟨pb,po,l1,l2,e1,e2,_,_,g1,g2⟩:=(hL.S.sub k1).at hx;simp only[e1,e2,qAA];have hone:qAU [l1,l2]=true:=by simp[g1.one,g2.one]
 refine qAK λb2 s2 hb2 h2 u2=>qAR h2 rfl rfl hone λs3 h3 u3=>?_;have k3:Sub t1 s3:=qAT (u2.sub hb2) u3 hb2;have r1:rd1 s3 (.ptr b2 0)=some l1:=by rw[qAL h3];rfl
 have r2:rd1 s3 (.ptr b2 1)=some l2:=by rw[qAL h3];rfl
 simp only[qAG,zA,r1,qAA];refine qMs XX_0 (by omega) (g1.sub k3) ?_;have next:∀{tt:Hq}{ls2:List Ls},LT H tt M ls2 (λ_=>[]) (λ_=>false)->(∀k,k∈ls2.map (·.1)↔FD.keyB (F.S.take (i+1)) (tgtB F) leaf k)->qDi XX (.int .i64 (i:Int)) (λys t' m=>∃(i:Nat) (ls:List Ls),ys=[.int .i64 (i:Int)]/\i<=F.S.length/\m=F.S.length-i/\LT H t' M ls (λ_=>[]) (λ_=>false)/\∀k,k∈ls.map (·.1)↔FD.keyB (F.S.take i) (tgtB F) leaf k) (F.S.length-i) K tt:=fun {tt ls2} z2 h2=>by unfold qDi;simp only[qAN,qAA];rw[qAV (by omega) (by omega)];exact⟨_,by omega,i+1,ls2,rfl,by omega,rfl,z2,h2⟩
 refine qAD (λc=>?_) (λc=>?_)
 rotate_left
 ·have c:leaf ∉ x.1:=oF c
  exact next (z1.to k3) λk=>(hk k).trans ((qQJ hx).trans ⟨λg=>g.elim id λg=>absurd g.1 c,.inl⟩).symm
 have c:leaf∈x.1:=oT c;have nl:qAO l2=some x.2.length:=by rw[g2.len,qGD]
 simp only[r2,qAA,nl];have z3:=z1.to k3;have hsl:=z3.slice (g2.sub k3);refine⟨λys t' m=>∃(j:Nat) (ls2:List Ls),ys=[.int .i64 (j:Int)]/\j<=x.2.length/\m=x.2.length-j/\LT H t' M ls2 (λ_=>[]) (λ_=>false)/\Sl t' l2 (ix x.2)/\∀k,k∈ls2.map (·.1)↔FD.keyB (F.S.take i) (tgtB F) leaf k∨∃bd∈x.2.take j,tgtB F bd=k,⟨_,0,ls,rfl,by omega,rfl,z3,g2.sub k3,λk=>(hk k).trans ⟨.inl,λg=>g.elim id λ⟨bd,h,_⟩=>by simp at h⟩⟩,?_⟩;rintro f4 t4 m4 ⟨j,ls2,hy,hj,rfl,z4,sl4,hk4⟩;simp only[cI,and_true]at hy;rw[hy];clear hy;simp only[qGj,qAQ,qAA];refine qAD (λhlt4=>?_) (λhge4=>?_)
 rotate_left
 ·have hge4:j=x.2.length:=by have:=oF hge4;omega
  subst hge4;rw[List.take_length]at hk4;exact next z4 λk=>(hk4 k).trans ((qQJ hx).trans ⟨λg=>g.elim .inl λg=>.inr g.2,λg=>g.elim .inl λg=>.inr ⟨c,g⟩⟩).symm
 have hlt4:j<x.2.length:=by have:=oT hlt4;omega
 obtain⟨bd,hbd⟩:∃bd,x.2[j]?=some bd:=⟨_,gEY hlt4⟩
 have hbr:=hrow.2.1.2 bd (mG hbd);obtain⟨a,c1,c2⟩:=sl4.get (i:=j) (by rw[qGD];exact hlt4);rw[ix,List.getElem?_map,hbd]at c2;obtain⟨n,rfl⟩:∃n:Nat,bd=(n:Int):=⟨bd.toNat,by omega⟩
 have hn:n<F.B.length:=by omega
 obtain⟨y,hyB⟩:∃y,F.B[n]?=some y:=⟨_,gEY hn⟩
 obtain⟨pb4,po4,d1,_,d3⟩:=(hL.B.sub z4.sub).get (i:=n) (r:=bgC y) (by rw[List.getElem?_map,hyB];rfl);have d4:rd1 t4 (.ptr pb4 (po4+2))=some (.int .u32 (tgtB F (n:Int))):=by rw[d3 2 (by omega),tgt_at hyB];rfl
 simp only[c1,c2,Option.map_some,qAG,zA,qAA,qAL (z4.sub _ _ hH0),csG4,d1,d4];have slH:Sl (offL t4 M ls2) l2 (ix x.2):=z4.slice sl4;refine qTd (z4.re) λs6 ls3 z6 h6=>?_;simp only[qAN,qAA];rw[qAV (by omega) (by omega)];refine⟨_,by omega,j+1,ls3,rfl,by omega,rfl,z6.base z4.old,slH.sub z6.sub,λk=>(h6 k).trans ?_⟩;rw[hk4 k,List.take_add_one,hbd];constructor
 ·rintro (g|g|⟨b,g1,g2⟩)
  ·exact .inr ⟨(n:Int),List.mem_append_right _ (by simp),g.symm⟩
  ·exact .inl g
  ·exact .inr ⟨b,List.mem_append_left _ g1,g2⟩
 ·rintro (g|⟨b,g1,g2⟩)
  ·exact .inr (.inl g)
  ·rcases mP g1 with g1|g1
   ·exact .inr (.inr ⟨b,g1,g2⟩)
   ·have:b=(n:Int):=by simpa using g1
    subst this;exact .inl g2.symm
def Fv(F:FG)(leaf:Int):Prop:=Valid F/\0<=leaf/\leaf<F.lf
theorem Lists_in(z:Sz F)(hN:∀x∈F.S,x.1.length<=20/\x.2.length<=20)(hF:FabR s cs F)(hR:SG.Rts s v R)(hG:SG.GlK s)(hok:∀r∈R,r.ok)(hRl:R.length<=60)(h0:¬Fv F leaf->∀s',Sub s s'->K .nilslc s')(hK:Fv F leaf->∀v' s',Sub s s'->FlA s' v' (fld F leaf R)->K v' s'):wC TP XX 12 [.agg cs,.int .i64 leaf,v] K s:=by
 obtain⟨v2,v3,v4,v5,v6,v7,rfl,hL⟩:=hF;refine qKZ ⟨hL.all,qAK λb0 s1 hb0 q1 u1=>?_⟩;have q1:s1 b0=some (false,.cells 31 (csG F v2 v3 v4 v5 v6 v7)):=q1;have k1:=u1.sub hb0;refine qAF (qAm q1 rfl) (qXH z ⟨v2,v3,v4,v5,v6,v7,rfl,hL.sub k1⟩ (λhv s4 k4=>?_) (λhv e p i s4 he k4=>?_))
 rotate_left
 ·refine qAF (a:=.int .i64 e) rfl (qAF (a:=.str p) rfl (qAF (a:=.int .i64 i) rfl ?_))
  have:(e == 0)=false:=by simpa using he
  simp only[qAl,this,qAc,Bool.true_bne,Bool.not_false,qAA,qAe,qCm,qAg,qB5];exact h0 (λq=>hv q.1) s4 (k1.trans k4)
 refine qAF (a:=.int .i64 0) rfl (qAF (a:=.str ⟨#[]⟩) rfl (qAF (a:=.int .i64 0) rfl ?_));have k14:=k1.trans k4;have q4:=k4 _ _ q1;simp only[qAl,beq_self_eq_true,qAc,Bool.true_bne,Bool.not_true,qAA,qAS,qAQ];cases c1:decide (leaf<0)with
 | true=>
   simp only[qCm,qB5,qAg,qAf,qAe,qAA];exact h0 (λq=>by have:=oT c1;have:=q.2.1;omega) s4 k14
 |false=>
 simp only[qCm,qAf,qAS,qAA,qAG,zA,qAL q4,csG0,qAv];cases c2:decide (F.lf<=leaf)with
 | true=>
   simp only[qB5,qAf,qAe,qAA];exact h0 (λq=>by have:=oT c2;have:=q.2.2;omega) s4 k14
 |false=>
 have hfv:Fv F leaf:=⟨hv,by have:=oF c1;omega,by have:=oF c2;omega⟩
 simp only[qB5,qAf,qAS,qAA];intro M hM;have kM:Sub s4 (hset s4 M (false,.map [] 0)):=qGW hM;have hMM:hset s4 M (false,.map [] 0) M=some (false,.map [] 0):=qBU;generalize hset s4 M (false,.map [] 0)=s5 at kM hMM;have z0:LT s4 s5 M [] (λ_=>[]) (λ_=>false):=⟨hMM,.nil,λe h=>(by cases h),λe h=>(by cases h),λe h=>(by cases h),λe h=>(by cases h),λe h=>(by cases h),kM,hM,λe h=>(by cases h),λe h=>(by cases h),λ_=>.nil⟩
 exact ph1 hv q4 (hL.sub k14) (hR.sub k14) (hG.sub k14) hok hRl hN z0 λv' s' k h=>hK hfv v' s' (k14.trans k) h
end Go.AM.FE
set_option maxRecDepth 100000
namespace Go.AM.FC
open Go Go.Proofs Go.AM.TN
variable {K:AV→Hq→Prop} {s:Hq} {v:AV} {bd g:Int}
def lb(n:Int):Int:=if n<0∨32<=n then 0 else IntKind.u32.wrap (IntKind.u32.wrap (184483840+qA6 .u32 n)+1)
theorem loop_in{n:Int}(hK:∀e,K (.tup [.int .u32 (lb n),.int .i64 e]) s):wC TP XX 50 [.int .i64 n] K s:=by
 refine qJJ ?_;simp only[qHd,qAQ,qAv,qAA];have bad:(n<0∨32<=n)->K (.tup [.int .u32 0,.int .i64 2]) s:=λh=>by have:=hK 2;unfold lb at this;rw[if_pos h]at this;exact this
 refine qAD (λq=>?_) (λq=>?_)
 ·simp only[qC3,q,qAg,qAA,qAe]
  exact bad (.inl (oT q))
 ·simp only[qC3,q,qAf,qAA]
  refine qAD (λq2=>bad (.inr (oT q2))) (λq2=>?_);simp only[cvI,qAN,qAA];have:=hK 0;unfold lb at this;rw[if_neg (by have:=oF q;have:=oF q2;omega)]at this;exact this
def flC(bd:Int)(v:AV)(g:Int):List AV:=[.int .i64 bd,v,.int .u32 g]
end Go.AM.FC
set_option maxRecDepth 100000
namespace Go.AM.FC
open Go Go.Proofs Go.AM.TN
end Go.AM.FC
set_option maxRecDepth 100000
namespace Go.AM.FC
open Go Go.Proofs Go.AM.TN
end Go.AM.FC
set_option maxRecDepth 100000
namespace Go.AM.FE
open Go Go.Proofs Go.AM.TN Go.AM.MU
variable {K:AV→Hq→Prop} {s t:Hq} {v m:AV} {l:List Int}
theorem qUb{n:Int}(h:Sl s v (ix l))(hl:l.length<=4294967296)(hK:K (.bool (decide (n∈l))) s):wC TP XX 38 [v,.int .i64 n] K s:=by
 refine qHL ?_;unfold qFS;have nl:qAO v=some l.length:=by rw[h.len,qGD]
 refine⟨λys t m=>∃i:Nat,ys=[.int .i64 (i:Int)]/\t=s/\i<=l.length/\m=l.length-i/\n ∉ l.take i,⟨_,0,rfl,rfl,by omega,rfl,by simp⟩,?_⟩;rintro f t m ⟨i,hy,rfl,hi,rfl,hno⟩;simp only[cI,and_true]at hy;rw[hy];simp only[qEP,nl,qAQ,qAA];refine qAD (λhlt=>?_) (λhge=>?_)
 ·have hlt:i<l.length:=by have:=oT hlt;omega
  obtain⟨a,e1,e2⟩:=h.get (i:=i) (by rw[qGD];exact hlt);rw[qN2 hlt]at e2;simp only[e1,e2,qAA,qAl,qAc,Bool.false_bne];cases c:(l[i] == n)with
  | true=>
    rw[decide_eq_true (show n∈l by rw[<- eq_of_beq c];exact List.getElem_mem hlt)]at hK;exact hK
  | false=>
    have c:l[i]≠n:=by simpa using c
    simp only[qAS,qAN,qAA];rw[qAV (by omega) (by omega)];refine⟨_,by omega,i+1,rfl,(by trivial),by omega,rfl,λh=>?_⟩;rw[List.take_add_one,gEY hlt]at h;rcases mP h with h|h
    ·exact hno h
    ·have h:n=l[i]:=by simpa using h
     exact c h.symm
 ·have hge:i=l.length:=by have:=oF hge;omega
  subst hge;rw[List.take_length]at hno;rw[decide_eq_false hno]at hK;exact hK
end Go.AM.FE
set_option maxRecDepth 100000
namespace Go.AM.FE
open Go Go.Proofs Go.AM.TN Go.AM.MU
variable {q:AV} {l:List Int}
abbrev usl(l:List Int):List AV:=l.map (AV.int .u32)
def InsI(x:Int)(l:List Int)(i:Nat)(d:Bool)(L:List Int):Prop:=
 (d=false/\(∀(j:Nat) (_:j<l.length),j<i->l[j]<x)/\L=l.take i)∨
 (d=true/\∃k,k<i/\(∃h:k<l.length,x<l[k])/\(∀(j:Nat) (_:j<l.length),j<k->l[j]<x)/\L=l.take k++x::(l.take i).drop k)
theorem InsI.len{x:Int}{i:Nat}{d:Bool}{L:List Int}(h:InsI x l i d L)(hi:i<=l.length):L.length<=i+1:=by
 rcases h with⟨_,_,rfl⟩|⟨_,k,h1,_,_,rfl⟩
 ·rw[List.length_take];omega
 ·rw[lAp,List.length_cons,List.length_take,List.length_drop,List.length_take];omega
theorem InsI.put{x:Int}{i:Nat}{L:List Int}(h:InsI x l i true L)(hi:i<l.length):InsI x l (i+1) true (L ++ [l[i]]):=by
 rcases h with⟨q,_⟩|⟨_,k,h1,h2,h3,rfl⟩
 ·cases q
 ·refine .inr ⟨rfl,k,by omega,h2,h3,?_⟩
  rw[List.append_assoc,List.cons_append,List.take_add_one,gEY hi,List.drop_append_of_le_length (by rw[List.length_take];omega)];rfl
theorem InsI.low{x:Int}{i:Nat}{L:List Int}(h:InsI x l i false L)(hi:i<l.length)(hx:l[i]<x):InsI x l (i+1) false (L ++ [l[i]]):=by
 rcases h with⟨_,h1,rfl⟩|⟨q,_⟩
 ·refine .inl ⟨rfl,λj hj hji=>?_,?_⟩
  ·by_cases e:j=i
   ·subst e;exact hx
   ·exact h1 j hj (by omega)
  ·rw[List.take_add_one,gEY hi];rfl
 ·cases q
theorem InsI.ins{x:Int}{i:Nat}{L:List Int}(h:InsI x l i false L)(hi:i<l.length)(hx:x<l[i]):InsI x l (i+1) true ((L ++ [x]) ++ [l[i]]):=by
 rcases h with⟨_,h1,rfl⟩|⟨q,_⟩
 ·refine .inr ⟨rfl,i,by omega,⟨hi,hx⟩,h1,?_⟩
  rw[List.append_assoc,List.take_add_one (i:=i),gEY hi,List.drop_append_of_le_length (by rw[List.length_take];omega)];rw[List.drop_eq_nil_of_le (by rw[List.length_take];omega)];rfl
 ·cases q
theorem InsI.fin1{x:Int}{L:List Int}(h:InsI x l l.length true L):FD.insL x l=L:=by
 rcases h with⟨q,_⟩|⟨_,k,h1,⟨h2,h2'⟩,h3,rfl⟩
 ·cases q
 ·rw[FD.insL_at (k:=k) (by omega) h3 (λ_=>h2'),List.take_length]
theorem InsI.same{x:Int}{i:Nat}{d:Bool}{L:List Int}(h:InsI x l i d L)(asc:l.Pairwise (· < ·))(hi:i<l.length)(hx:l[i]=x):FD.insL x l=l:=by
 rcases h with⟨_,h1,_⟩|⟨_,k,h1,⟨h2,h2'⟩,_,_⟩
 ·exact FD.insL_eq hi h1 hx
 ·have:=List.pairwise_iff_getElem.1 asc k i h2 hi h1
  omega
end Go.AM.FE
set_option maxRecDepth 100000
namespace Go.AM.FE
open Go Go.Proofs Go.AM.TN Go.AM.MU
variable {s s' t sC:Hq} {u q:AV} {F:FG} {leaf g:Int} {R:List SG.Rt} {i b:Nat}
theorem qZf(k:Sub s s'):Sub (hdel s b) (hdel s' b):=λi e hi=>by
 by_cases q:i=b
 ·rw[q,show hdel s b b=none from if_pos rfl]at hi;cases hi
 ·rw[qDe q]at hi ⊢;exact k _ _ hi
structure Ent(F:FG)(leaf:Int)(i:Nat)(sC t:Hq)(b:Nat)(R:List SG.Rt)(u:AV)(g:Int):Prop where
 ce:t b=some (false,.cells 44 (flC (i:Int) u g))
 sub:Sub sC t
 sl:Sl (hdel t b) u (usl (pL F leaf (tgtB F (i:Int)) R))
 fr:∀b' o n c,u=.slc b' o n c 1->sC b'=none
 gv:g=if(F.tr&&tT F leaf (tgtB F (i:Int)) R)=true then 4009754625+(i:Int)else 0
theorem Ent.to(h:Ent F leaf i sC s b R u g)(k:Sub s s'):Ent F leaf i sC s' b R u g:=⟨k _ _ h.ce,h.sub.trans k,h.sl.sub (qZf k),h.fr,h.gv⟩
end Go.AM.FE
set_option maxRecDepth 100000
namespace Go.AM.FC
open Go Go.Proofs Go.AM.TN
end Go.AM.FC
set_option maxRecDepth 100000
namespace Go.AM.FE
open Go Go.Proofs Go.AM.TN Go.AM.MU
variable {K:AV→Hq→Prop} {s t:Hq} {v w u m:AV} {F:FG} {leaf:Int} {R:List SG.Rt} {i b:Nat} {l:List Int} {L:List FlE}
theorem FlA.len(h:FlA s v L):qAO v=some L.length:=by obtain⟨rows,h1,h2,_⟩:=h;rw[h1.len,h2]
theorem FlA.get{e:FlE}(h:FlA s v L)(hi:L[i]?=some e):∃pb po u,qAI 3 v (.int .i64 (i:Int))=some (.ptr pb po)/\rd1 s (.ptr pb po)=some (.int .i64 (e.1:Int))/\rd1 s (.ptr pb (po+1))=some u/\rd1 s (.ptr pb (po+2))=some (.int .u32 e.2.2)/\Sl s u (usl e.2.1):=by obtain⟨rows,h1,_,h3⟩:=h;obtain⟨u,a,b⟩:=h3 i e hi;obtain⟨pb,po,e1,_,e3⟩:=h1.get a;exact⟨pb,po,u,e1,e3 0 (by omega),e3 1 (by omega),e3 2 (by omega),b⟩
theorem qUD(h:Sl s v (usl l))(h':Sl s w (usl l))(hl:l.length<=1000)(hK:K (.bool true) s):wC TP XX 28 [v,w] K s:=by
 refine qOv ?_;have n1:qAO v=some l.length:=by rw[h.len,lMY]
 have n2:qAO w=some l.length:=by rw[h'.len,lMY]
 simp only[qNb,n1,n2,qAl,beq_self_eq_true,qAc,Bool.false_bne,qAA];refine⟨λys t m=>∃i:Nat,ys=[.bool true,.int .i64 (i:Int)]/\t=s/\i<=l.length/\m=l.length-i,⟨_,0,rfl,rfl,by omega,rfl⟩,?_⟩;rintro e t m ⟨i,hy,rfl,hi,rfl⟩;simp only[cI,and_true]at hy;rw[hy.1,hy.2];simp only[qJ9,qAe,n1,qAQ,qAA,qHC,qAg];refine qAD (λhlt=>?_) (λ_=>hK);have hlt:i<l.length:=by have:=oT hlt;omega
 obtain⟨a,e1,e2⟩:=h.get (i:=i) (by rw[lMY];exact hlt);obtain⟨c,e3,e4⟩:=h'.get (i:=i) (by rw[lMY];exact hlt);rw[List.getElem?_map,gEY hlt]at e2 e4;simp only[e1,e2,e3,e4,Option.map_some,qAl,beq_self_eq_true,qAc,Bool.false_bne,qAN,qAA];rw[qAV (by omega) (by omega)];exact⟨_,by omega,i+1,rfl,(by trivial),by omega,rfl⟩
theorem SameFloods_in(h:FlA s v L)(h':FlA s w L)(hl:L.length<=1000)(hp:∀e∈L,e.2.1.length<=1000)(hK:K (.bool true) s):wC TP XX 11 [v,w] K s:=by
 refine qLF ?_;simp only[qJv,h.len,h'.len,qAl,beq_self_eq_true,qAc,Bool.false_bne,qAA];refine⟨λys t m=>∃i:Nat,ys=[.bool true,.int .i64 (i:Int)]/\t=s/\i<=L.length/\m=L.length-i,⟨_,0,rfl,rfl,by omega,rfl⟩,?_⟩;rintro e t m ⟨i,hy,rfl,hi,rfl⟩;simp only[cI,and_true]at hy;rw[hy.1,hy.2];simp only[qHl,qAe,h.len,qAQ,qAA,qFI,qAg];refine qAD (λhlt=>?_) (λ_=>hK);have hlt:i<L.length:=by have:=oT hlt;omega
 have hq:L[i]?=some L[i]:=gEY hlt;have hm:=hp _ (List.getElem_mem hlt);generalize L[i]=x at hq hm;obtain⟨pb,po,u,e1,e2,e3,e4,e5⟩:=h.get hq;obtain⟨pb',po',u',c1,c2,c3,c4,c5⟩:=h'.get hq;simp only[e1,e2,e3,e4,c1,c2,c3,c4,qAG,Nat.add_zero,qAA,qAl,beq_self_eq_true,qAc,Bool.false_bne,qAe,qFH,qAg];refine qUD e5 c5 hm ?_;simp only[qFG,qAg,qAA,qAN];rw[qAV (by omega) (by omega)];exact⟨_,by omega,i+1,rfl,(by trivial),by omega,rfl⟩
theorem fld_len:(fld F leaf R).length<=F.B.length:=by rw[<- fldN_all];exact qSi _
theorem fld_peers(hR:R.length<=60):∀e∈fld F leaf R,e.2.1.length<=1000:=λe he=>by
 rw[<- fldN_all]at he;unfold fldN at he;obtain⟨i,_,h⟩:=List.mem_filterMap.1 he;unfold fldG at h;split at h
 ·cases h
  have:=qN5 (fT F leaf (tgtB F (i:Int))) (λr:SG.Rt=>r.nx) R;show(pL F leaf (tgtB F (i:Int)) R).length<=1000;unfold pL;omega
 ·cases h
end Go.AM.FE
set_option maxRecDepth 100000
namespace Go.AM.FI
open Go Go.Proofs Go.AM.SG Go.AM.TN
variable {K:AV→Hq→Prop} {s s' S t:Hq} {n:Nat} {b c:Nat}
def tC(n:Nat):Cm:=⟨0,2,253,232,n / 16777216 % 256,n / 65536 % 256,n / 256 % 256,n % 256⟩
theorem zAB2:(tC n).ok:=⟨show(0:Nat)<256 by decide,show(2:Nat)<256 by decide,show(253:Nat)<256 by decide,show(232:Nat)<256 by decide,Nat.mod_lt _ (by decide),Nat.mod_lt _ (by decide),Nat.mod_lt _ (by decide),Nat.mod_lt _ (by decide)⟩
abbrev bl(n p:Nat):List AV:=(cmR (tC n)).take p++List.replicate (8-p) (u8 0)
theorem zADH{x m q:Nat}(h:(x / 2^m:Nat) % 256=q)(hm:m<=64):qCd .shr (.int .u64 (x:Int)) (.int .i64 (m:Int))=some (.int .u64 ((x / 2^m:Nat):Int))/\qCJ .u8 (.int .u64 ((x / 2^m:Nat):Int))=some (u8 q):=by
 refine⟨?_,?_⟩
 ·rw[FC.shr_b hm]
  congr 2
  rw[Int.fdiv_eq_ediv_of_nonneg _ (Int.natCast_nonneg _)];exact(Int.natCast_ediv _ _).symm
 ·show some (AV.int .u8 (qA6 .u8 _))=_
  have:qA6 .u8 (((x / 2^m:Nat):Int))=((x / 2^m:Nat):Int) % 256:=by exact wu8_ _
  rw[this,<- h]
  congr 2
theorem zABB{p:Nat}(hp:p<8){x:AV}(hx:(cmR (tC n))[p]?=some x):(bl n p).set p x=bl n (p+1):=by
 have:p=0∨p=1∨p=2∨p=3∨p=4∨p=5∨p=6∨p=7:=by omega
 rcases this with rfl|rfl|rfl|rfl|rfl|rfl|rfl|rfl<;>(cases hx;rfl)
theorem qZM{p:Nat}(hp:p<=8):(bl n p).length=8:=by
 have:p=0∨p=1∨p=2∨p=3∨p=4∨p=5∨p=6∨p=7∨p=8:=by omega
 rcases this with rfl|rfl|rfl|rfl|rfl|rfl|rfl|rfl|rfl<;>rfl
structure CB(S t:Hq)(c:Nat)(l:List AV):Prop where
 sub:Sub S t
 fr:S c=none
 cb:t c=some (false,.cells 129 l)
theorem CB.to{l:List AV}(h:CB S t c l)(k:Sub t s'):CB S s' c l:=⟨h.sub.trans k,h.fr,k _ _ h.cb⟩
theorem CB.put{l l':List AV}(h:CB S t c l)(hb:s' c=some (false,.cells 129 l'))(u:Upto c t s'):CB S s' c l':=⟨qAT h.sub u h.fr,h.fr,hb⟩
theorem qYf{x m p q:Nat}{R:Hq->Prop}(h:CB S t c (bl n p))(hp:p<8)(hq:(cmR (tC n))[p]?=some (u8 q))(hx:(x / 2^m:Nat) % 256=q)(hm:m<=64)(hR:∀s',CB S s' c (bl n (p+1))->Upto c t s'->R s'):
  oK (qCd .shr (.int .u64 (x:Int)) (.int .i64 (m:Int))) λv_38=>oK (qCJ .u8 v_38) λv_39=>oK (qHm 8 1 (.ptr c 0) (.int .i64 (p:Int))) λv_40=>oK (wr1 t v_40 v_39) R:=by
 obtain⟨e1,e2⟩:=zADH hx hm;have e3:qHm 8 1 (.ptr c 0) (.int .i64 (p:Int))=some (.ptr c p):=by
  have:Nat.blt p 8=true:=by rw[Nat.blt_eq];exact hp
  simp[qHm,this]
 rw[e1];simp only[qAA];rw[e2];simp only[qAA];rw[e3];simp only[qAA];refine qBN h.cb (by rw[qZM (by omega)];exact hp) rfl λs' h' u=>hR s' ?_ u;rw[zABB hp hq]at h';exact h.put h' u
def qYs(n:Nat)(b c:Nat)(S:Hq):List AV->Hq->Nat->Prop:=λys t m=>∃i:Nat,ys=[.int .i64 (i:Int)]/\i<=7/\m=7-i/\CB S t c (if i=0 then bl n 0 else bl n 2)
theorem qYB(hn:n<4294967296)(hG:GlK s)(hp:s b=some (false,.cells 167 [.int .i64 2,.int .u64 65000,.int .i64 4,.int .u64 (n:Int)]))(hK:∀s',Sub s s'->K (.agg (cmR (tC n))) s'):wC TP XX 86 [.int .i64 1,.slc b 0 2 (some 2) 2] K s:=by
 refine qLJ ?_;unfold qJt;refine qAK λb0 s1 hb0 h1 u1=>qAK λc s3 hc h3 u3=>?_;have k1:=u1.sub hb0;have k3:=u3.sub hc;have g3:=hG.sub (k1.trans k3);have fin:∀{t:Hq},CB s1 t c (bl n 8)->oK (rdN t 8 (.ptr c 0)) λv_47=>oK (qBF t 8 (.ptr b0 0) (.agg v_47)) λs_48=>oK (rdN s_48 8 (.ptr b0 0)) λt4_49=>K (.agg t4_49) s_48:=fun {t} z=>by refine qAF (qAm z.cb (qZM (by omega))) (qAR (z.sub _ _ h1) rfl rfl rfl λs' h' u'=>qAF (qAm h' rfl) ?_);exact hK s' (qAT (k1.trans z.sub) u' hb0)
 simp only[g3.rd,qAA];refine⟨qYs n b c s1,⟨_,0,rfl,by omega,rfl,k3,hc,h3⟩,?_⟩;rintro f t m ⟨i,hy,hi,rfl,z⟩;simp only[cI,and_true]at hy;rw[hy];clear hy;simp only[qHk,qAQ,qAA];refine qAD (λhlt=>?_) (λhge=>?_)
 ·have hlt:i<7:=by have:=oT hlt;omega
  simp only[qQX hlt,qAA];refine qAK λb7 s8 hb7 h8 w8=>qAR h8 rfl rfl rfl λs9 h9 w9=>?_;have k9:Sub t s9:=qAT (w8.sub hb7) w9 hb7;have z9:=z.to k9;have r0:rd1 s9 (.ptr b7 0)=some (.int .i64 ((i+1:Nat):Int)):=by rw[qAL h9];rfl
  have next:∀{tt:Hq},CB s1 tt c (bl n 2)->qDt XX (.int .i64 (i:Int)) (qYs n b c s1) (7-i) K tt:=fun {tt} z'=>by unfold qDt;simp only[qAN,qAA];rw[qAV (by omega) (by omega)];exact⟨_,by omega,i+1,rfl,by omega,rfl,by rw[if_neg (by omega)];exact z'⟩
  simp only[qAG,zA,r0,qAA,qAl,qAc,Bool.false_bne]
  by_cases q:i=0
  ·subst q
   rw[if_pos rfl]at z9;have e1:(((0+1:Nat):Int) == 1)=true:=rfl;rw[e1];have e2:qFN s9 8 1 (.ptr c 0) none none none=some (.slc c 0 8 (some 8) 1):=by unfold qFN;simp only[z9.cb];rfl
   have h9':s9 b7=some (false,.cells 170 [.int .i64 1,u8 0,u8 2]):=h9;have e3:qFN s9 2 1 (.ptr b7 1) none none none=some (.slc b7 1 2 (some 2) 1):=by unfold qFN;simp only[h9'];rfl
   simp only[qAe,e2,qAG,zA,e3,qAA];unfold qX0;have e4:rdSl s9 1 (.slc b7 1 2 (some 2) 1)=some [u8 0,u8 2]:=by unfold rdSl;simp only[h9'];rfl
   refine⟨rfl,by decide,qAF e4 ?_⟩;have e5:wrN s9 (.ptr c 0) [u8 0,u8 2]=some (hset s9 c (false,.cells 129 (bl n 2))):=by unfold wrN;simp only[z9.cb];rfl
   refine qAF e5 (next (z9.put qBU λ_ hi=>qAw hi))
  ·rw[if_neg q]at z9
   have e1:(((i+1:Nat):Int) == 1)=false:=by rw[beq_eq_false_iff_ne];omega
   rw[e1];simp only[qAS];exact next z9
 have hge:i=7:=by have:=oF hge;omega
 subst hge;rw[if_neg (by omega)]at z;have nl:qAO (.slc b 0 2 (some 2) 2)=some 2:=rfl;simp only[nl,qAA];refine⟨λys t m=>∃j:Nat,ys=[.int .i64 ((if j=0 then 2 else if j=1 then 4 else 8:Nat):Int),.int .i64 (j:Int)]/\j<=2/\m=2-j/\CB s1 t c (bl n (if j=0 then 2 else if j=1 then 4 else 8)),⟨_,0,rfl,by omega,rfl,z⟩,?_⟩;clear z t f;rintro f t m ⟨j,hy,hj,rfl,z⟩;simp only[cI,and_true]at hy;rw[hy.1,hy.2];clear hy;simp only[qHn,qAQ,qAA];have hpt:=k1.trans z.sub _ _ hp;have rowb:∀{j:Nat},j<2->qAI 2 (.slc b 0 2 (some 2) 2) (.int .i64 (j:Int))=some (.ptr b (2*j)):=fun {j} hj=>by
  have:j=0∨j=1:=by omega
  rcases this with rfl|rfl<;>rfl
 have part:∀{x sz p0:Nat}{tt:Hq}{bp:Nat},(∀q<sz,(cmR (tC n))[p0+q]?=some (u8 (x / 2^(8*(sz-1-q)) % 256)))->p0+sz<=8->sz<=8->CB s1 tt c (bl n p0)->tt bp=some (false,.cells 167 [.int .i64 (sz:Int),.int .u64 (x:Int)])->s1 bp=none->bp≠c->∀{I2:List AV->Hq->Nat->Prop}{m2:Nat}{jj:Nat},jj<=2->(∀t',CB s1 t' c (bl n (p0+sz))->∃m',m'<m2/\I2 [.int .i64 ((p0+sz:Nat):Int),.int .i64 ((jj+1:Nat):Int)] t' m')->∃I3:List AV->Hq->Nat->Prop,(∃m,I3 [(.int .i64 0)] tt m)/\∀(f:Env) (s:Hq) (m3:Nat),I3 [f 33] s m3->qFF XX (.ptr c 0) (.int .i64 (p0:Int)) (.ptr bp 0) (.int .i64 (jj:Int)) (.int .i64 (sz:Int)) (f 33) I3 m3 I2 m2 K s:=by
  intro x sz p0 tt bp hq hp8 hs8 z hbp hfr hne I2 m2 jj hjj hN;refine⟨λys t m=>∃q:Nat,ys=[.int .i64 (q:Int)]/\q<=sz/\m=sz-q/\CB s1 t c (bl n (p0+q))/\t bp=some (false,.cells 167 [.int .i64 (sz:Int),.int .u64 (x:Int)]),⟨_,0,rfl,by omega,rfl,z,hbp⟩,?_⟩;rintro f t m ⟨q,hy,hqs,rfl,z,hbp⟩;simp only[cI,and_true]at hy;rw[hy];clear hy;have r0:rd1 t (.ptr bp 0)=some (.int .i64 (sz:Int)):=by rw[qAL hbp];rfl
  have r1:rd1 t (.ptr bp 1)=some (.int .u64 (x:Int)):=by rw[qAL hbp];rfl
  simp only[qFF,qAQ,qAA];refine qAD (λhlt=>?_) (λhge=>?_)
  ·have hlt:q<sz:=by have:=oT hlt;omega
   simp only[qAN,qBy,qMI,qAG,zA,r0,r1,qAA];have w1:IntKind.i64.wrap ((p0:Int)+(q:Int))=((p0+q:Nat):Int):=by rw[qAV (by omega) (by omega)];omega
   have w2:IntKind.i64.wrap (8*IntKind.i64.wrap (IntKind.i64.wrap ((sz:Int)-1)-(q:Int)))=((8*(sz-1-q):Nat):Int):=by rw[qAV (n:=(sz:Int)-1) (by omega) (by omega),qAV (n:=(sz:Int)-1-(q:Int)) (by omega) (by omega),qAV (by omega) (by omega)];omega
   rw[w1,w2];refine qYf z (by omega) (hq q hlt) rfl (by omega) λs' z' u'=>?_;rw[qAV (by omega) (by omega)];exact⟨_,by omega,q+1,rfl,by omega,rfl,z',by rw[u' bp hne];exact hbp⟩
  ·have hge:q=sz:=by have:=oF hge;omega
   subst hge;simp only[qAG,zA,r0,qAN,qAA];have w1:IntKind.i64.wrap ((p0:Int)+(q:Int))=((p0+q:Nat):Int):=by rw[qAV (by omega) (by omega)];omega
   have w2:IntKind.i64.wrap ((jj:Int)+1)=((jj+1:Nat):Int):=by rw[qAV (by omega) (by omega)];omega
   rw[w1,w2];exact hN t z
 refine qAD (λhlt=>?_) (λhge=>?_)
 rotate_left
 ·have hge:j=2:=by have:=oF hge;omega
  subst hge;exact fin z
 have hlt:j<2:=by have:=oT hlt;omega
 rw[rowb hlt];have hj2:j=0∨j=1:=by omega
 rcases hj2 with rfl|rfl
 ·have e:rdN t 2 (.ptr b (2*0))=some [.int .i64 2,.int .u64 65000]:=by
   unfold rdN;simp only[hpt];rfl
  simp only[e,qAA];refine qAK λbp s25 hbp h25 w25=>qAR h25 rfl rfl rfl λs26 h26 w26=>?_;have k26:Sub t s26:=qAT (w25.sub hbp) w26 hbp;have r0:rd1 s26 (.ptr bp 0)=some (.int .i64 2):=by rw[qAL h26];rfl
  simp only[qAG,zA,r0,qAA];refine part (x:=65000) (sz:=2) (p0:=2) (jj:=0) (λq hq=>?_) (by omega) (by omega) (z.to k26) h26 (SG.qAz z.sub hbp) (λq=>by rw[q,z.cb]at hbp;cases hbp) (by omega) λt' z'=>⟨_,by omega,1,rfl,by omega,rfl,z'⟩
  have:q=0∨q=1:=by omega
  rcases this with rfl|rfl<;>rfl
 ·have e:rdN t 2 (.ptr b (2*1))=some [.int .i64 4,.int .u64 (n:Int)]:=by
   unfold rdN;simp only[hpt];rfl
  simp only[e,qAA];refine qAK λbp s25 hbp h25 w25=>qAR h25 rfl rfl rfl λs26 h26 w26=>?_;have k26:Sub t s26:=qAT (w25.sub hbp) w26 hbp;have r0:rd1 s26 (.ptr bp 0)=some (.int .i64 4):=by rw[qAL h26];rfl
  simp only[qAG,zA,r0,qAA];refine part (x:=n) (sz:=4) (p0:=4) (jj:=1) (λq hq=>?_) (by omega) (by omega) (z.to k26) h26 (SG.qAz z.sub hbp) (λq=>by rw[q,z.cb]at hbp;cases hbp) (by omega) λt' z'=>⟨_,by omega,2,rfl,by omega,rfl,z'⟩
  have:q=0∨q=1∨q=2∨q=3:=by omega
  rcases this with rfl|rfl|rfl|rfl
  ·show some (u8 (n / 16777216 % 256))=_;rfl
  ·show some (u8 (n / 65536 % 256))=_;rfl
  ·show some (u8 (n / 256 % 256))=_;rfl
  ·show some (u8 (n % 256))=some (u8 (n / 1 % 256));rw[Nat.div_one]
theorem qVb(hn:n<4294967296)(hG:GlK s)(hK:∀s',Sub s s'->K (.agg (cmR (tC n))) s'):wC TP XX 53 [.int .u16 65000,.int .u32 (n:Int)] K s:=by
 refine qKe ?_;unfold qGd;refine qAK λb0 s1 hb0 h1 u1=>?_;have e1:qCJ .u64 (.int .u16 65000)=some (.int .u64 65000):=rfl;have e2:qCJ .u64 (.int .u32 (n:Int))=some (.int .u64 (n:Int)):=by
  show some (AV.int .u64 (qA6 .u64 (n:Int)))=_;have:qA6 .u64 (n:Int)=(n:Int):=by simp only[qA6];rw[qDW _ _ _ (by omega) (by omega)];split<;>omega
  rw[this]
 rw[e1,qAA];refine qAF (a:=[.int .i64 2,.int .u64 65000]) rfl ?_;rw[e2,qAA];refine qAF (a:=[.int .i64 4,.int .u64 (n:Int)]) rfl (qAF (a:=[.int .i64 2,.int .u64 65000,.int .i64 4,.int .u64 (n:Int)]) rfl ⟨rfl,qAK λb7 s8 hb7 h8 u8=>?_⟩);have k1:=u1.sub hb0;have k8:=u8.sub hb7;refine qYB hn (hG.sub (k1.trans k8)) h8 λs10 k10=>?_;refine qAR ((k8.trans k10) _ _ h1) rfl rfl rfl λs11 h11 u11=>qAF (qAm h11 rfl) ?_;exact hK s11 (qAT (k1.trans (k8.trans k10)) u11 hb0)
end Go.AM.FI
set_option maxRecDepth 100000
namespace Go.AM.FI
open Go Go.Proofs Go.AM.SG Go.AM.TN
variable {K:AV→Hq→Prop} {s s':Hq} {w:AV} {i n T:Nat} {c:Nat} {k:Int} {F:FG} {leaf:Int}
theorem zACP(h:i<32):FC.lb (i:Int)=184483841+(i:Int):=by
 unfold FC.lb;have w:∀n:Int,0<=n->n<4294967296->qA6 .u32 n=n:=λn h1 h2=>by simp only[qA6];rw[qDW _ _ _ (by omega) (by omega)];split<;>omega
 rw[if_neg (by omega),w _ (by omega) (by omega),<- qBS,<- qBS,w (184483840+(i:Int)) (by omega) (by omega),w _ (by omega) (by omega)];omega
def rtN(i T:Nat)(k:Int):Rt:=⟨3,0,⟨0,0,0,0,0,0,0,0,0,0⟩,0,0,FC.lb (i:Int),true,0,0,0,0,0,0,FC.lb (i:Int),false,0,false,0,false,0,k,0,0,0,0,false,[],[],[tC T]⟩
theorem qNe:(rtN i T k).ok:=⟨λc hc=>by
 have:c=tC T:=by simpa [rtN]using hc
 rw[this];exact zAB2,by simp[rtN],by simp[rtN],by simp[rtN]⟩
theorem qSn(hK:K (.int .u32 (FC.lb (i:Int))) s):wC TP XX 22 [.int .i64 (i:Int)] K s:=
 qFW (FC.loop_in λe=>qAF (a:=.int .u32 (FC.lb (i:Int))) rfl (qAF (a:=.int .i64 e) rfl hK))
theorem qSW(hT:T<4294967296)(hG:GlK s)(hK:∀c s',Sub s s'->s' c=some (false,.cells 129 (cmR (tC T)))->K (.agg ((rtN i T k).row .nilslc .nilslc (.slc c 0 1 (some 1) 8))) s'):wC TP XX 24 [.int .i64 (i:Int),.int .u32 (T:Int),.int .i64 k] K s:=by
 refine qGc (qAK λb0 s1 hb0 h1 u1=>qSn ?_);have k1:=u1.sub hb0;refine qAF (a:=(rtN i T k).N) rfl (qSn (qVb hT (hG.sub k1) λs8 k8=>?_));refine qAF (a:=cmR (tC T)) rfl ⟨rfl,qAK λb10 s11 hb10 h11 u11=>?_⟩;have k11:=k8.trans (u11.sub hb10);refine qAF (a:=(rtN i T k).T) rfl (qAF (a:=(rtN i T k).A .nilslc .nilslc (.slc b10 0 1 (some 1) 8)) rfl (qAF (a:=(rtN i T k).row .nilslc .nilslc (.slc b10 0 1 (some 1) 8)) rfl ?_));refine qAR (k11 _ _ h1) rfl rfl rfl λs15 h15 u15=>qAF (qAm h15 rfl) ?_;have k15:Sub s s15:=qAT (k1.trans k11) u15 hb0;have hc:s15 b10=some (false,.cells 129 (cmR (tC T))):=by rw[u15 b10 (λe=>by rw[e,k8 _ _ h1]at hb10;cases hb10)];exact h11
 exact hK b10 s15 k15 hc
theorem tC_T(hT:T<4294967296):FE.isT (tC T)=true/\FE.tNo (tC T)=T:=by
 have e:FE.tNo (tC T)=T:=by show(((0*256+T / 16777216 % 256)*256+T / 65536 % 256)*256+T / 256 % 256)*256+T % 256=T;omega
 refine⟨?_,e⟩;show(decide (qNM (tC T)=1)&&decide (FE.tAS (tC T)=65000))=true;rw[show qNM (tC T)=1 from rfl,show FE.tAS (tC T)=65000 from rfl];rfl
theorem qZR(hT:T<4294967296):FE.tgs (rtN i T k).cm=[(T:Int)]:=by obtain⟨e1,e2⟩:=tC_T hT;unfold FE.tgs FE.tgP;show FD.insAll (([tC T].filter FE.isT).map λc=>(FE.tNo c:Int))=_;rw[List.filter_cons_of_pos e1,List.filter_nil,List.map_cons,List.map_nil,e2];rfl
theorem qYk(hi:i<32):FE.flB F leaf (rtN i T k)=(((k == 6)||(k == 3))&&(decide ((i:Int)<F.lf)&&!((i:Int) == leaf))):=by
 unfold FE.flB;have e:(rtN i T k).nx=184483841+(i:Int):=zACP hi;have e1:FE.nodeOk (rtN i T k).nx=true:=by rw[e];unfold FE.nodeOk;rw[decide_eq_true (by omega),decide_eq_true (by omega)];rfl
 have e2:FE.nodeV (rtN i T k).nx=(i:Int):=by rw[(FE.nodeV_ok e1).1,e];omega
 rw[e1,e2];rfl
end Go.AM.FI
set_option maxRecDepth 100000
namespace Go.AM.FI
open Go Go.Proofs Go.AM.SG Go.AM.TN
variable {F:FG} {leaf k:Int} {R R':List Rt} {r:Rt} {N:NFab} {i o:Nat}
theorem qSO{α β:Type}{f g:α->Option β}:∀{l:List α},(∀x∈l,f x=g x)->l.filterMap f=l.filterMap g
 |[],_=>rfl
 | x::l,h=>by
   rw[List.filterMap_cons,List.filterMap_cons,h x List.mem_cons_self,qSO λy hy=>h y (mO _ hy)]
theorem qU5(h:∀i<F.B.length,FE.pL F leaf (FE.tgtB F (i:Int)) R=FE.pL F leaf (FE.tgtB F (i:Int)) R'/\FE.tT F leaf (FE.tgtB F (i:Int)) R=FE.tT F leaf (FE.tgtB F (i:Int)) R'):FE.fld F leaf R=FE.fld F leaf R':=by rw[<- FE.fldN_all,<- FE.fldN_all];unfold FE.fldN;refine qSO λi hi=>?_;obtain⟨h1,h2⟩:=h i (List.mem_range.1 hi);unfold FE.fldG;rw[h1,h2]
theorem zABS(h:∀r∈R,(r.tk == 3)=false):FE.tT F leaf k R=false:=by unfold FE.tT FD.treeT;rw[Bool.eq_false_iff];intro q;simp only[List.any_eq_true,Bool.and_eq_true]at q;obtain⟨r,h1,h2⟩:=q;have:=h r h1;rw[h2.2]at this;cases this
abbrev fK(F:FG)(leaf k:Int)(r:Rt):Bool:=FE.flB F leaf r&&decide (k∈FE.tgs r.cm)
theorem pL_f{P:List Rt}(h:fK F leaf k r=false):FE.pL F leaf k (P ++ [r])=FE.pL F leaf k P:=by rw[FE.pL_snoc,if_neg (show ¬fK F leaf k r=true by rw[h];simp)]
theorem zAC7(h:i<N.B.length):FE.tgtB N.toG (i:Int)=500+(i:Int):=by
 obtain⟨x,hx⟩:∃x,N.B[i]?=some x:=⟨_,gEY h⟩
 have:N.toG.B[i]?=some (bgN i x):=by show(N.B.mapIdx bgN)[i]?=_;rw[List.getElem?_mapIdx,hx];rfl
 rw[FE.tgt_at this];rfl
theorem qXX{r:Rt}(h:FE.flB F leaf r=false):fK F leaf k r=false:=by show(FE.flB F leaf r&&_)=false;rw[h];rfl
theorem zAAs{l bd:Nat}(hN:NFok N)(hl:l<32)(ho:o<32)(hb:bd<4){far:Rt}(hfar:far=rtN o (500+bd) 6∨FE.flB N.toG (l:Int) far=false)(hft:(far.tk == 3)=false):FE.fld N.toG (l:Int) [rtN l (500+bd) 6,rtN o (500+bd) 0,{ rtN o (500+bd) 6 with kd:=2 },rtN o 77777 6,far,rtN o (500+bd) 6]=FE.fld N.toG (l:Int) [rtN o (500+bd) 6]:=by
 refine qU5 λi hi=>⟨?_,?_⟩
 ·have hi':i<N.B.length:=by
   have:N.toG.B.length=N.B.length:=by show(N.B.mapIdx bgN).length=_;simp
   omega
  have hB:=hN.Bn.2;rw[zAC7 hi'];have e1:FE.flB N.toG (l:Int) (rtN l (500+bd) 6)=false:=by rw[qYk hl,show((l:Int) == (l:Int))=true from beq_self_eq_true _];simp
  have e2:FE.flB N.toG (l:Int) (rtN o (500+bd) 0)=false:=by rw[qYk ho];rfl
  have e3:FE.flB N.toG (l:Int) { rtN o (500+bd) 6 with kd:=2 }=false:=rfl;have e4:fK N.toG (l:Int) (500+(i:Int)) (rtN o 77777 6)=false:=by show(_&&decide (_∈FE.tgs (rtN o 77777 6).cm))=false;rw[qZR (by omega),decide_eq_false (by simp;omega),Bool.and_false]
  have base:FE.pL N.toG (l:Int) (500+(i:Int)) [rtN l (500+bd) 6,rtN o (500+bd) 0,{ rtN o (500+bd) 6 with kd:=2 },rtN o 77777 6]=[]:=
   (pL_f (P:=[rtN l (500+bd) 6,rtN o (500+bd) 0,{ rtN o (500+bd) 6 with kd:=2 }]) e4).trans ((pL_f (P:=[rtN l (500+bd) 6,rtN o (500+bd) 0]) (qXX e3)).trans ((pL_f (P:=[rtN l (500+bd) 6]) (qXX e2)).trans (pL_f (P:=[]) (qXX e1))))
  have step:∀(P:List Rt) (r:Rt),FE.pL N.toG (l:Int) (500+(i:Int)) (P ++ [r])=if fK N.toG (l:Int) (500+(i:Int)) r=true then FD.insL r.nx (FE.pL N.toG (l:Int) (500+(i:Int)) P)else FE.pL N.toG (l:Int) (500+(i:Int)) P:=λP r=>FE.pL_snoc
  have s6:=step [rtN l (500+bd) 6,rtN o (500+bd) 0,{ rtN o (500+bd) 6 with kd:=2 },rtN o 77777 6,far] (rtN o (500+bd) 6);have s5:=step [rtN l (500+bd) 6,rtN o (500+bd) 0,{ rtN o (500+bd) 6 with kd:=2 },rtN o 77777 6] far;have s1:=step [] (rtN o (500+bd) 6);have z:FE.pL N.toG (l:Int) (500+(i:Int)) []=[]:=rfl;refine s6.trans (Eq.trans ?_ s1.symm);rw[show([rtN l (500+bd) 6,rtN o (500+bd) 0,{ rtN o (500+bd) 6 with kd:=2 },rtN o 77777 6,far]:List Rt)=[rtN l (500+bd) 6,rtN o (500+bd) 0,{ rtN o (500+bd) 6 with kd:=2 },rtN o 77777 6] ++ [far]from rfl,s5,base,z];rcases hfar with rfl|hf
  ·by_cases c:fK N.toG (l:Int) (500+(i:Int)) (rtN o (500+bd) 6)=true
   ·rw[if_pos c,if_pos c]
    simp[FD.insL]
   ·rw[if_neg c,if_neg c]
  ·rw[if_neg (by rw[qXX hf];simp) (c:=fK N.toG (l:Int) (500+(i:Int)) far=true)]
 ·rw[zABS λr hr=>?_,zABS λr hr=>?_]
  ·have:r=rtN o (500+bd) 6:=by simpa using hr
   rw[this];rfl
  ·simp only[List.mem_cons,List.not_mem_nil,or_false]at hr
   rcases hr with rfl|rfl|rfl|rfl|rfl|rfl<;>first|exact hft|rfl
end Go.AM.FI
set_option maxRecDepth 100000
namespace Go.AM.FI
open Go Go.Proofs Go.AM.SG Go.AM.TN
variable {K:AV→Hq→Prop} {s s' t:Hq} {v m:AV} {i T b b4 c:Nat} {k:Int} {N:NFab} {r:Rt} {R:AV→Prop} {v2 v3 v4 v5 v6 v7:AV}
theorem qXC{t:Bool}(hg:s 0=some (t,.glob 0 (.agg kindsL)))(hJ:K (.bool true) s):wC TP XX 5 [] K s:=by
 have e:XX=orX (orX XL (sortedUX 35 70 101 42)) X0:=by
  funext f
  show(match XL f with|some g=>some g|none=>(match sortedUX 35 70 101 42 f with|some g=>some g|none=>X0 f))=(match (match XL f with|some g=>some g|none=>sortedUX 35 70 101 42 f)with|some g=>some g|none=>X0 f)
  cases XL f<;>rfl
 rw[e];exact qRP rfl rfl (by decide) hg hJ
def RB(s:Hq)(b:Nat)(r:Rt)(T:Nat):Prop:=∃c,s b=some (false,.cells 81 (r.row .nilslc .nilslc (.slc c 0 1 (some 1) 8)))/\s c=some (false,.cells 129 (cmR (tC T)))/\r.path=[]/\r.cl=[]/\r.cm=[tC T]
theorem RB.sub(h:RB s b r T)(k:Sub s s'):RB s' b r T:=by obtain⟨c,h1,h2,h3⟩:=h;exact⟨c,k _ _ h1,k _ _ h2,h3⟩
theorem RB.rt{c:Nat}(h:s c=some (false,.cells 129 (cmR (tC T))))(h1:r.path=[])(h2:r.cl=[])(h3:r.cm=[tC T]):RtAt s r .nilslc .nilslc (.slc c 0 1 (some 1) 8):=⟨by rw[h1];exact .inl ⟨rfl,rfl⟩,by rw[h2];exact .inl ⟨rfl,rfl⟩,by rw[h3];exact FC.one_row h rfl⟩
theorem RB.put{x:AV}{j:Nat}{r':Rt}{Q:Hq->Prop}(h:RB s b r T)(hj:j<38)(hx:x.one=true)(he:∀m,(r.row .nilslc .nilslc m).set j x=r'.row .nilslc .nilslc m)(h1:r'.path=[])(h2:r'.cl=[])(h3:r'.cm=[tC T])(hQ:∀s',RB s' b r' T->Upto b s s'->Q s'):oK (wr1 s (.ptr b j) x) Q:=by
 obtain⟨c,q1,q2,_⟩:=h;refine qBN q1 hj hx λs' h' u=>hQ s' ⟨c,?_,?_,h1,h2,h3⟩ u
 ·rw[h',he]
 ·rw[u c (λe=>by rw[e,q1]at q2;cases q2)]
  exact q2
theorem qMN{z:List AV}(hz:z.length=38)(hT:T<4294967296)(hG:GlK s){C:Nat->Hq->Prop}(hC:∀b s',Sub s s'->s b=none->RB s' b (rtN i T k) T->C b s'):wC TP XX 24 [.int .i64 (i:Int),.int .u32 (T:Int),.int .i64 k] (λv s1=>newK 81 z (λb s2=>oK (qBF s2 38 (.ptr b 0) v) (C b)) s1) s:=by refine qSW hT hG λc s1 k1 hc=>qAK λb s2 hb h2 u2=>qAR h2 (by rw[hz];rfl) hz rfl λs3 h3 u3=>?_;have k3:Sub s1 s3:=qAT (u2.sub hb) u3 hb;exact hC b s3 (k1.trans k3) (TN.qAz k1 hb) ⟨c,h3,k3 _ _ hc,rfl,rfl,rfl⟩
theorem zADN{bd:Nat}{t0:Bool}(h:t b4=some (t0,.cells 31 (csG N.toG v2 v3 v4 v5 v6 v7)))(hL:FL t N.toG v2 v3 v4 v5 v6 v7)(hb:bd<N.B.length)(hR:R (.int .u32 ((500+bd:Nat):Int))):
  oK (qAE 4 (.ptr b4 0)) λv=>oK (rd1 t v) λv2=>oK (qAI 6 v2 (.int .i64 (bd:Int))) λv3=>oK (qAE 2 v3) λv4=>oK (rd1 t v4) R:=by
 obtain⟨y,hy⟩:∃y,N.B[bd]?=some y:=⟨_,gEY hb⟩
 have hyG:N.toG.B[bd]?=some (bgN bd y):=by show(N.B.mapIdx bgN)[bd]?=_;rw[List.getElem?_mapIdx,hy];rfl
 obtain⟨pb,po,e1,_,e3⟩:=hL.B.get (i:=bd) (r:=bgC (bgN bd y)) (by rw[List.getElem?_map,hyG];rfl);have e4:rd1 t (.ptr pb (po+2))=some (.int .u32 ((500+bd:Nat):Int)):=by rw[e3 2 (by omega)];show some (AV.int .u32 (500+(bd:Int)))=_;rw[show(500:Int)+(bd:Int)=((500+bd:Nat):Int)by omega]
 simp only[qAG,zA,qAA,qAL h,csG4,e1,e4];exact hR
end Go.AM.FI
set_option maxRecDepth 100000
namespace Go.AM.FI
open Go Go.Proofs Go.AM.SG Go.AM.TN
variable {K:AV→Hq→Prop} {s s' S t:Hq} {q:AV} {i o n T b b4 c:Nat} {k:Int} {F:FG} {N:NFab} {leaf:Int} {r:Rt} {R:AV→Prop} {v2 v3 v4 v5 v6 v7:AV}
abbrev rowS(r:Rt)(c:Nat):List AV:=r.row .nilslc .nilslc (.slc c 0 1 (some 1) 8)
theorem zACl(r1 r2 r3 r4 r5 r6:Rt)(c1 c2 c3 c4 c5 c6:Nat):qBV (repl 6 [(.int .i64 0),(.int .u64 0),(.int .u8 0),(.int .u8 0),(.int .u8 0),(.int .u8 0),(.int .u8 0),(.int .u8 0),(.int .u8 0),(.int .u8 0),(.int .u8 0),(.int .u8 0),(.int .u32 0),(.int .u64 0),(.int .u32 0),(.bool false),(.int .u32 0),(.int .i64 0),(.int .u32 0),(.int .u32 0),(.int .u32 0),(.int .i64 0),.nilslc,(.int .u32 0),(.bool false),(.int .u32 0),(.bool false),(.int .u32 0),(.bool false),(.int .u32 0),.nilslc,.nilslc,(.int .i64 0),(.int .u32 0),(.int .u32 0),(.int .u32 0),(.int .u32 0),(.bool false)]) [(0,38,.agg (rowS r1 c1)),(38,38,.agg (rowS r2 c2)),(76,38,.agg (rowS r3 c3)),(114,38,.agg (rowS r4 c4)),(152,38,.agg (rowS r5 c5)),(190,38,.agg (rowS r6 c6))]=some [rowS r1 c1,rowS r2 c2,rowS r3 c3,rowS r4 c4,rowS r5 c5,rowS r6 c6].flatten:=by kernel_rfl
theorem one6(r1 r2 r3 r4 r5 r6:Rt)(c1 c2 c3 c4 c5 c6:Nat):qAU [rowS r1 c1,rowS r2 c2,rowS r3 c3,rowS r4 c4,rowS r5 c5,rowS r6 c6].flatten=true:=by kernel_rfl
theorem qNi{t0:Bool}{e:TypeId}(h:s b=some (t0,.cells e (rowS r c))):rdN s 38 (.ptr b 0)=some (rowS r c):=qAm h r.row_len
theorem ia0{b:Nat}:qAI 38 (.slc b 0 1 (some 1) 38) (.int .i64 0)=some (.ptr b 0):=by kernel_rfl
theorem qY7{rs:List (Rt×Nat×Nat)}{b n:Nat}{e:TypeId}{t0:Bool}(h:s b=some (t0,.cells e ((rs.map λx=>rowS x.1 x.2.1).flatten)))(hn:n=rs.length)(hl:∀x∈rs,s x.2.1=some (false,.cells 129 (cmR (tC x.2.2)))/\x.1.path=[]/\x.1.cl=[]/\x.1.cm=[tC x.2.2]):Rts s (.slc b 0 n (some n) 38) (rs.map (·.1)):=by
 subst hn;refine⟨rs.map λx=>rowS x.1 x.2.1,SlR.mk (λr hr=>?_) h (by rw[lMY]) (λc hc=>by cases hc;rw[lMY];omega),by rw[lMY,lMY],λi r hr=>?_⟩
 ·obtain⟨x,_,rfl⟩:=List.mem_map.1 hr
  rfl
 ·rw[List.getElem?_map]at hr
  cases q:rs[i]? with
  |none=>rw[q]at hr;cases hr
  | some x=>
    rw[q]at hr;cases hr;obtain⟨h1,h2,h3,h4⟩:=hl x (mG q);exact⟨_,_,_,by rw[List.getElem?_map,q];rfl,RB.rt h1 h2 h3 h4⟩
theorem qZd{tt:Hq}{far:Rt}{t0:Bool}{lf bd Te b29 b38 b48 b58 b66 b76:Nat}(hN:NFok N)(hlf':lf<N.x.lf)(ho:o<N.x.lf)(hbd:bd<N.B.length)(hTe:500+bd=Te)(h6:tt b4=some (t0,.cells 31 (csG N.toG v2 v3 v4 v5 v6 v7)))(L:FL tt N.toG v2 v3 v4 v5 v6 v7)(G:GlK tt)(ra:RB tt b29 (rtN o Te 6) Te)(r38:RB tt b38 (rtN lf Te 6) Te)(r48:RB tt b48 (rtN o Te 0) Te)(r58:RB tt b58 { rtN o Te 6 with kd:=2 } Te)(r66:RB tt b66 (rtN o 77777 6) 77777)(rf:RB tt b76 far Te)(hfar:far=rtN o Te 6∨FE.flB N.toG (lf:Int) far=false)(hft:(far.tk == 3)=false)(hK:∀s',K (.bool true) s'):qAo XX (.int .i64 (lf:Int)) (.bool true) (.ptr b4 0) (.slc b29 0 1 (some 1) 38) (.ptr b38 0) (.ptr b48 0) (.ptr b58 0) (.ptr b66 0) (.ptr b76 0) K tt:=by
 have hx:=hN.x.lf;have hB:=hN.Bn;have hlf:FE.Fv N.toG (lf:Int):=⟨hN.valid,by omega,by show(lf:Int)<(N.x.lf:Int);omega⟩
 have hN20:∀x∈N.toG.S,x.1.length<=20/\x.2.length<=20:=λx hx=>by have hx:x∈N.S.map λx=>(ni x.1,ni x.2):=hx;obtain⟨y,hy,rfl⟩:=List.mem_map.1 hx;obtain⟨_,_,_,a4,_,_,_,a8⟩:=hN.S y hy;simp only[ni,lMY];omega
 have hFab:∀{t:Hq},Sub tt t->FabR t (csG N.toG v2 v3 v4 v5 v6 v7) N.toG:=fun {t} k=>⟨v2,v3,v4,v5,v6,v7,rfl,L.sub k⟩
 obtain⟨ca,h30,hca,_⟩:=ra;have Ra:∀{t:Hq},Sub tt t->Rts t (.slc b29 0 1 (some 1) 38) [rtN o Te 6]:=fun {t} k=>qY7 (rs:=[(rtN o Te 6,ca,Te)]) (k _ _ h30) rfl λx hx=>by
  have:x=(rtN o Te 6,ca,Te):=by simpa using hx
  rw[this];exact⟨k _ _ hca,rfl,rfl,rfl⟩
 have oka:∀r∈[rtN o Te 6],r.ok:=λr hr=>by
  have:r=rtN o Te 6:=by simpa using hr
  rw[this];exact qNe
 unfold qAo;refine qAF (qAm h6 rfl) (FE.Lists_in hN.sz hN20 (hFab (.refl _)) (Ra (.refl _)) G oka (by simp) (λq=>absurd hlf q) λ_ v86 s87 k87 hA=>?_);have z87:=k87;obtain⟨c1,p1,q1,e1⟩:=r38.sub k87;obtain⟨c2,p2,q2,e2⟩:=r48.sub k87;obtain⟨c3,p3,q3,e3⟩:=r58.sub k87;obtain⟨c4,p4,q4,e4⟩:=r66.sub k87;obtain⟨c5,p5,q5,e5⟩:=rf.sub k87;have p6:=k87 _ _ h30;have q6:=k87 _ _ hca;refine qAF (qAm (z87 _ _ h6) rfl) (qAF (qNi p1) (qAF (qNi p2) (qAF (qNi p3) (qAF (qNi p4) (qAF (qNi p5) ?_)))));refine qAF ia0 ?_;rw[qNi p6,qAA];rw[zACl,qAA];refine⟨one6 _ _ _ _ _ _ _ _ _ _ _ _,qAK λb97 s98 hb97 h98 u98=>?_⟩;intro _;have kT2:Sub s87 (add s87 s98):=qI7;have h97:add s87 s98 b97=_:=(qAk (qG5.1 hb97)).trans h98;generalize add s87 s98=T2 at kT2 h97 ⊢;have z2:=z87.trans kT2;have RG:Rts T2 (.slc b97 0 6 (some 6) 38) [rtN lf Te 6,rtN o Te 0,{ rtN o Te 6 with kd:=2 },rtN o 77777 6,far,rtN o Te 6]:=qY7 (rs:=[(rtN lf Te 6,c1,Te),(rtN o Te 0,c2,Te),({ rtN o Te 6 with kd:=2 },c3,Te),(rtN o 77777 6,c4,77777),(far,c5,Te),(rtN o Te 6,ca,Te)]) h97 rfl λx hx=>by
  simp only[List.mem_cons,List.not_mem_nil,or_false]at hx;rcases hx with rfl|rfl|rfl|rfl|rfl|rfl
  ·exact⟨kT2 _ _ q1,e1⟩
  ·exact⟨kT2 _ _ q2,e2⟩
  ·exact⟨kT2 _ _ q3,e3⟩
  ·exact⟨kT2 _ _ q4,e4⟩
  ·exact⟨kT2 _ _ q5,e5⟩
  ·exact⟨kT2 _ _ q6,rfl,rfl,rfl⟩
 have okG:∀r∈[rtN lf Te 6,rtN o Te 0,{ rtN o Te 6 with kd:=2 },rtN o 77777 6,far,rtN o Te 6],r.ok:=λr hr=>by
  simp only[List.mem_cons,List.not_mem_nil,or_false]at hr;rcases hr with rfl|rfl|rfl|rfl|rfl|rfl
  ·exact qNe
  ·exact qNe
  ·exact qNe (i:=o) (T:=Te) (k:=6)
  ·exact qNe
  ·obtain⟨x1,x2,x3⟩:=e5
   exact⟨λc hc=>by
    rw[x3]at hc;have:c=tC Te:=by simpa using hc
    rw[this];exact zAB2,by rw[x1];simp,by rw[x2];simp,by rw[x3];simp⟩
  ·exact qNe
 refine FE.Lists_in hN.sz hN20 (hFab z2) RG (G.sub z2) okG (by simp) (λq=>absurd hlf q) λ_ v99 s100 k100 hB100=>?_;have hlaw:FE.fld N.toG (lf:Int) [rtN lf Te 6,rtN o Te 0,{ rtN o Te 6 with kd:=2 },rtN o 77777 6,far,rtN o Te 6]=FE.fld N.toG (lf:Int) [rtN o Te 6]:=by subst hTe;exact zAAs hN (by omega) (by omega) (by omega) hfar hft
 rw[hlaw]at hB100;have hlen:(FE.fld N.toG (lf:Int) [rtN o Te 6]).length<=1000:=by
  have h1:=FE.fld_len (F:=N.toG) (leaf:=(lf:Int)) (R:=[rtN o Te 6]);have h2:N.toG.B.length=N.B.length:=by show(N.B.mapIdx bgN).length=_;rw[List.length_mapIdx]
  omega
 simp only[qAe];refine FE.SameFloods_in hB100 (hA.sub (kT2.trans k100)) hlen (FE.fld_peers (by simp)) ?_;have z100:=z2.trans k100;unfold qBb;refine qAF (a:=.bool true) rfl ?_;rw[qAe];refine qAF (qAm (z100 _ _ h6) rfl) (qAF (a:=.ptr b4 0) rfl ?_);rw[show rd1 s100 (.ptr b4 0)=some (.int .i64 N.toG.lf)by rw[qAL (z100 _ _ h6)];rfl,qAA];refine FE.Lists_in hN.sz hN20 (hFab z100) (Ra (k87.trans (kT2.trans k100))) (G.sub z100) oka (by simp) (λ_ s107 _=>?_) (λq=>absurd q.2.2 (by omega));refine qAF (a:=0) rfl (qAF (a:=.bool true) rfl ?_);unfold qBd;exact qAF (a:=.bool true) rfl (hK _)
end Go.AM.FI
set_option maxRecDepth 100000
namespace Go.AM.FI
open Go Go.Proofs Go.AM.SG Go.AM.TN
variable {K:AV→Hq→Prop} {s s' t:Hq} {m:AV} {o n T b4:Nat} {k ip:Int} {N:NFab} {R:AV→Prop} {v2 v3 v4 v5 v6 v7:AV}
theorem FIg_in{l:List Int}{lv:AV}{a1 a2:Int}(hl:Sl s lv (l.map (AV.int .i64)))(hlen:l.length<=9223372036854775807)(hb:∀x∈l,-9223372036854775808<=x/\x<=9223372036854775807)(h1:-9223372036854775808<=a1/\a1<=9223372036854775807)(h2:-9223372036854775808<=a2/\a2<=9223372036854775807)(hG:GlK s)(hK:∀s',K (.bool true) s'):wC TP XX 7 [lv,.int .i64 a1,.int .i64 a2,.int .u32 ip] K s:=by
 obtain⟨tg,hg⟩:=hG;refine qEb (qXC hg (qVU hl hlen hb λs3 cs N k3 hN hNR=>?_));have hG3:GlK s3:=GlK.sub ⟨tg,hg⟩ k3;obtain⟨v2,v3,v4,v5,v6,v7,rfl,hL⟩:=hNR.fab;refine qAK λb4 s5 hb4 h5 u5=>qAR h5 rfl rfl hL.all λs6 h6 u6=>?_;have h6:s6 b4=some (false,.cells 31 (csG N.toG v2 v3 v4 v5 v6 v7)):=h6;have k6:Sub s3 s6:=qAT (u5.sub hb4) u6 hb4;have L6:=hL.sub k6;have G6:=hG3.sub k6;have hx:=hN.x.lf;have hB:=hN.Bn;have n4:qAO v4=some N.B.length:=by rw[hL.B.len,lMY];show some (N.B.mapIdx bgN).length=_;rw[List.length_mapIdx]
 simp only[qAG,zA,qAA,qAL h6,csG0];refine qVE (n:=N.x.lf) h1 (by omega) (by omega) λlf hlf=>?_;intro _;simp only[qAL (FC.cut1 (.refl s6) _ _ h6),csG4,n4,qAA];have kT:Sub s6 (add s6 (AM.frz s6)):=qI7;generalize add s6 (AM.frz s6)=T at kT ⊢;refine qVE (n:=N.B.length) h2 (by omega) (by omega) λbd hbd=>?_;have eo:qAB .rem (.int .i64 ((lf:Int)+1)) (.int .i64 (N.x.lf:Int))=some (.int .i64 (((lf+1) % N.x.lf:Nat):Int)):=by rw[qMV (show(N.x.lf:Int)≠0 by omega),Int.tmod_eq_emod_of_nonneg (by omega)];rfl
 simp only[qAN,qAA];rw[qAV (by omega) (by omega)];have hTb:=kT _ _ h6;rw[show rd1 T (.ptr b4 0)=some (.int .i64 N.toG.lf)by rw[qAL hTb];rfl,qAA];rw[show qAB .rem (.int .i64 ((lf:Int)+1)) (.int .i64 N.toG.lf)=some (.int .i64 (((lf+1) % N.x.lf:Nat):Int))from eo];have ho:(lf+1) % N.x.lf<N.x.lf:=Nat.mod_lt _ (by omega);generalize(lf+1) % N.x.lf=o at ho;rw[qAA];have tg:∀{t:Hq}{R:AV->Prop},Sub s6 t->R (.int .u32 ((500+bd:Nat):Int))->oK (rd1 t (.ptr b4 4)) λv2=>oK (qAI 6 v2 (.int .i64 (bd:Int))) λv3=>oK (qAE 2 v3) λv4=>oK (rd1 t v4) R:=fun {t R} k hR=>zADN (k _ _ h6) (L6.sub k) hbd hR;have hT5:500+bd<4294967296:=by omega
 generalize hTe:500+bd=Te at tg hT5;refine tg kT ?_;refine qSW hT5 (G6.sub kT) λca s27 k27 hca=>?_;refine qAF (a:=rowS (rtN o Te 6) ca) (FC.fill_one rfl) ⟨rfl,qAK λb29 s30 hb29 h30 u30=>?_⟩;have k30:=u30.sub hb29;have z30:=kT.trans (k27.trans k30);have h30:s30 b29=some (false,.cells 81 (rowS (rtN o Te 6) ca)):=h30;have hca:=k30 _ _ hca;refine tg z30 ?_;refine qMN rfl hT5 (G6.sub z30) λb38 s40 k40 _ r38=>?_;have z40:=z30.trans k40;refine tg z40 ?_;refine qMN rfl hT5 (G6.sub z40) λb48 s50 k50 _ r48=>?_;have z50:=z40.trans k50;refine tg z50 ?_;refine qMN rfl hT5 (G6.sub z50) λb58 s60 k60 hb58 r58=>?_;refine r58.put (r':={ rtN o Te 6 with kd:=2 }) (by omega) rfl (λm=>rfl) rfl rfl rfl λs63 r58 u63=>?_;have k63:Sub s50 s63:=qAT k60 u63 hb58;have z63:=z50.trans k63;refine qMN (T:=77777) rfl (by omega) (G6.sub z63) λb66 s68 k68 _ r66=>?_;have z68:=z63.trans k68;refine tg z68 ?_;refine qMN rfl hT5 (G6.sub z68) λb76 s78 k78 hb76 r76=>?_;have z78:=z68.trans k78;refine FE.Node_in ?_;refine qAF (a:=.int .i64 (FE.nodeV ip)) rfl (qAF (a:=.bool (FE.nodeOk ip)) rfl ?_);have fin:∀{tt:Hq}{far:Rt},Sub s68 tt->RB tt b76 far Te->(far=rtN o Te 6∨FE.flB N.toG (lf:Int) far=false)->(far.tk == 3)=false->qAo XX (.int .i64 (lf:Int)) (.bool true) (.ptr b4 0) (.slc b29 0 1 (some 1) 38) (.ptr b38 0) (.ptr b48 0) (.ptr b58 0) (.ptr b66 0) (.ptr b76 0) K tt:=fun {tt far} k rf hfar hft=>
  qZd hN hlf ho hbd hTe ((z68.trans k) _ _ h6) (L6.sub (z68.trans k)) (G6.sub (z68.trans k)) ⟨ca,(k40.trans (k50.trans (k63.trans (k68.trans k)))) _ _ h30,(k40.trans (k50.trans (k63.trans (k68.trans k)))) _ _ hca,rfl,rfl,rfl⟩ (r38.sub (k50.trans (k63.trans (k68.trans k)))) (r48.sub (k63.trans (k68.trans k))) (r58.sub (k68.trans k)) (r66.sub k) rf hfar hft hK
 have bad:(FE.nodeOk ip=false∨N.toG.lf<=FE.nodeV ip)->oK (qAE 21 (.ptr b76 0)) λv_113=>oK (qAE 2 v_113) λv_114=>oK (wr1 s78 v_114 (.int .u32 ip)) λs_115=>qAo XX (.int .i64 (lf:Int)) (.bool true) (.ptr b4 0) (.slc b29 0 1 (some 1) 38) (.ptr b38 0) (.ptr b48 0) (.ptr b58 0) (.ptr b66 0) (.ptr b76 0) K s_115:=λh=>by
  refine qAF (a:=.ptr b76 21) rfl (qAF (a:=.ptr b76 23) rfl ?_);refine r76.put (r':={ rtN o Te 6 with nx:=ip }) (by omega) rfl (λm=>rfl) rfl rfl rfl λs' r' u'=>?_;refine fin (qAT k78 u' hb76) r' (.inr ?_) rfl;show((true&&(true&&(FE.nodeOk ip&&(decide (FE.nodeV ip<N.toG.lf)&&!(FE.nodeV ip == (lf:Int)))))):Bool)=false;rcases h with h|h
  ·rw[h];rfl
  ·rw[decide_eq_false (by omega)]
   cases FE.nodeOk ip<;>rfl
 simp only[qAu,qAA];cases c1:FE.nodeOk ip with
 | false=>
   simp only[Bool.not_false,qAe];unfold qBA;refine qAF (a:=.bool true) rfl ?_;rw[qAe];exact bad (.inl c1)
 | true=>
   simp only[Bool.not_true,qAS];refine qAF (a:=.int .i64 N.toG.lf) (by rw[qAL (z78 _ _ h6)];rfl) ?_;simp only[qAv,qAA];unfold qBA;cases c2:decide (N.toG.lf<=FE.nodeV ip)with
   | true=>
     refine qAF (a:=.bool true) rfl ?_;rw[qAe];exact bad (.inr (oT c2))
   | false=>
     refine qAF (a:=.bool false) rfl ?_;rw[qAS];exact fin k78 r76 (.inl rfl) rfl
end Go.AM.FI
set_option maxRecDepth 100000
namespace Go.AM.FI
open Go Go.Proofs
variable {s:Hq} {v:AV}
theorem wf64{n:Int}(h:(Lit.int .i64 n).wf=true):-9223372036854775808<=n/\n<=9223372036854775807:=by unfold Lit.wf at h;simpa [IntKind.min,IntKind.max,IntKind.bits,IntKind.signed]using h
theorem arg_ints{d:Nat}(h:Arg TP s (d+2) 63 v):∃l:List Int,Sl s v (l.map (AV.int .i64))/\(∀x∈l,-9223372036854775808<=x/\x<=9223372036854775807)/\l.length<=maxLen:=
 qVj (d:=d+1) Tryz.underlying63 (by kernel_rfl) (AV.int .i64) (λn=>-9223372036854775808<=n/\n<=9223372036854775807) (λxs h=>by obtain⟨n,e,w⟩:=zAAB Tryz.underlying3 h;exact⟨n,e,wf64 w⟩) h
end Go.AM.FI
namespace Go.AM
open Go Go.Proofs
theorem FIg_wp(s:Hq)(xs:List AV)(hg:s 0=some (true,.glob 0 (.agg kindsL)))(h:ArgL TP s 40 [63,3,3,42] xs):wC TP XX 7 xs (λv _=>v=.bool true) s:=by obtain⟨a,b,c,e,rfl,h1,h2,h3,h4⟩:=zAC5 h;obtain⟨l,hl,hb,hn⟩:=FI.arg_ints (d:=38) h1;obtain⟨a1,rfl,w1⟩:=qRz (d:=39) Tryz.underlying3 h2;obtain⟨a2,rfl,w2⟩:=qRz (d:=39) Tryz.underlying3 h3;obtain⟨ip,rfl,_⟩:=qRz (d:=39) Tryz.underlying42 h4;exact FI.FIg_in hl (Nat.le_trans hn (by decide)) hb (FI.wf64 w1) (FI.wf64 w2) ⟨true,hg⟩ λ_=>rfl
end Go.AM
