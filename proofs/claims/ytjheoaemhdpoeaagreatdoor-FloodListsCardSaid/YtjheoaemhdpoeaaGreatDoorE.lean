/- Part E of the proof: see the last part. -/
import Derived.Test.YtjheoaemhdpoeaaGreatDoorV
import Derived.Test.YtjheoaemhdpoeaaGreatDoorK
import Derived.Test.YtjheoaemhdpoeaaGreatDoorG
import Derived.Test.YtjheoaemhdpoeaaGreatDoorC
import Derived.Test.YtjheoaemhdpoeaaGreatDoorV2
set_option linter.unusedVariables false
namespace Go.AM.MU
open Go Go.Proofs
variable {K:AV→Hq→Prop} {s s':Hq} {m c i j:Nat} {k:Int} {v:AV} {t:Bool}
abbrev Kv:=Int×AV
def gE:Nat->List Kv->List AEnt
 |_,[]=>[]
 |i,p::l=>⟨.int .u32 p.1,p.2,i⟩::gE (i+1) l
theorem zAC3:∀{i:Nat}{l:List Kv},(gE i l).length=l.length
 |_,[]=>rfl
 |i,p::l=>by show(gE (i+1) l).length+1=_;rw[zAC3];rfl
theorem zACp:∀{i:Nat}{l:List Kv}{c:Nat},i+l.length<=c->qGn c (gE i l)=true
 |_,[],_,_=>rfl
 | i,p::l,c,h=>by
   rw[List.length_cons]at h;show(Nat.blt i c&&qGn c (gE (i+1) l))=true;rw[zACp (by omega),Bool.and_true,Nat.blt_eq];omega
theorem zAFH:∀{i:Nat}{l:List Kv}{bs:List Nat},(∀b∈bs,b<i)->ndB (gE i l) bs=true
 |_,[],_,_=>rfl
 | i,p::l,bs,h=>by
   show(!hasN i bs&&ndB (gE (i+1) l) (i::bs))=true;have h1:hasN i bs=false:=by
    have:∀{bs:List Nat},(∀b∈bs,b<i)->hasN i bs=false:=by
     intro bs
     induction bs with
     |nil=>exact λ_=>rfl
     | cons b bs ih=>
       intro h;have hb:=h b List.mem_cons_self;simp only[hasN,Bool.or_eq_false_iff];refine⟨?_,ih λx hx=>h x (mO _ hx)⟩;cases r:Nat.beq i b with
       |false=>rfl
       |true=>have:=bE r;omega
    exact this h
   rw[h1,zAFH λb hb=>by
    rcases mC hb with rfl|hb
    ·omega
    ·have:=h b hb;omega]
   rfl
def qMN(k:Int):List Kv->Nat->Option (Nat×AV)
 |[],_=>none
 |p::l,j=>if p.1=k then some (j,p.2)else qMN k l (j+1)
def gOf(l:List Kv)(k:Int):Option AV:=(qMN k l 0).map (·.2)
theorem gkey{a b:Int}:qPA (.int .i64) (.int .u32 a) (.int .u32 b)=some (decide (b=a)):=by
 show some (eqI a b)=_;rw[qFe]
 congr 1
 rw[Bool.eq_iff_iff];simp only[beq_iff_eq,decide_eq_true_eq];exact⟨λh=>h.symm,λh=>h.symm⟩
theorem qT8:∀{l:List Kv}{i j:Nat},qNr (.int .u32 k) (gE i l) j=some (qMN k l j)
 |[],_,_=>rfl
 | p::l,i,j=>by
   have e:qNr (.int .u32 k) (gE i (p::l)) j=match (some (decide (p.1=k)):Option Bool)with
     |some true=>some (some (j,p.2))
     |some false=>qNr (.int .u32 k) (gE (i+1) l) (j+1)
     |none=>none:=by
    rw[<- gkey];rfl
   rw[e];unfold qMN
   by_cases h:p.1=k
   ·rw[if_pos h,decide_eq_true h]
   ·rw[if_neg h,decide_eq_false h]
    exact qT8
theorem qLW:∀{l:List Kv}{j:Nat},qMN k l (j+1)=(qMN k l j).map λp=>(p.1+1,p.2)
 |[],_=>rfl
 | p::l,j=>by
   unfold qMN
   by_cases h:p.1=k
   ·rw[if_pos h,if_pos h];rfl
   ·rw[if_neg h,if_neg h];exact qLW
def putG(k:Int)(v:AV):List Kv->List Kv
 |[]=>[(k,v)]
 |p::l=>if p.1=k then(k,v)::l else p::putG k v l
theorem zACn:∀{l:List Kv}{i:Nat},(match qMN k l 0 with
  |some p=>(modE (gE i l) p.1 λe=>{ e with key:=.int .u32 k,val:=v },i+l.length)
  |none=>(gE i l ++ [{ key:=.int .u32 k,val:=v,born:=i+l.length }],i+l.length+1))=(gE i (putG k v l),i+(putG k v l).length)
 |[],i=>rfl
 | p::l,i=>by
   unfold qMN putG
   by_cases h:p.1=k
   ·rw[if_pos h,if_pos h];rfl
   ·rw[if_neg h,if_neg h,qLW]
    have ih:=zACn (l:=l) (i:=i+1);cases q:qMN k l 0 with
    | some r=>
      rw[q]at ih;simp only[Option.map_some,Prod.mk.injEq]at ih ⊢;refine⟨?_,?_⟩
      ·show _::modE (gE (i+1) l) r.1 _=_::gE (i+1) (putG k v l)
       rw[ih.1]
      ·rw[List.length_cons,List.length_cons];omega
    | none=>
      rw[q]at ih;simp only[Option.map_none,Prod.mk.injEq]at ih ⊢;refine⟨?_,?_⟩
      ·show _::(gE (i+1) l++_)=_::gE (i+1) (putG k v l)
       rw[<- ih.1,List.length_cons,show i+(l.length+1)=i+1+l.length by omega]
      ·rw[List.length_cons,List.length_cons];omega
theorem zAEo{l:List Kv}:putE (gE 0 l) l.length (.int .u32 k) v=some (gE 0 (putG k v l),(putG k v l).length):=by
 unfold putE;rw[qT8];have h:=zACn (l:=l) (i:=0) (k:=k) (v:=v);cases q:qMN k l 0 with
 | some r=>
   rw[q]at h;simp only[zA,Prod.mk.injEq]at h ⊢;rw[h.1,h.2]
 | none=>
   rw[q]at h;simp only[zA,Prod.mk.injEq]at h ⊢;rw[h.1,h.2]
theorem gget{l:List Kv}(h:s m=some (t,.map (gE 0 l) c)):getM s (.map m) (.int .u32 k)=some (gOf l k):=by unfold getM gOf;simp only[h,qT8];cases qMN k l 0<;>rfl
theorem gput{l:List Kv}{R:Hq->Prop}(h:s m=some (false,.map (gE 0 l) l.length))(hK:∀s',s' m=some (false,.map (gE 0 (putG k v l)) (putG k v l).length)->Upto m s s'->R s'):oK (putM s (.map m) (.int .u32 k) v) R:=by refine qAJ (a:=hset s m (false,.map (gE 0 (putG k v l)) (putG k v l).length)) ?_ (hK _ (by simp[hset]) λi hi=>by simp[hset,hi]);unfold putM;simp only[h,zAEo]
theorem qWe{p:Kv}{l:List Kv}:gOf (p::l) k=if p.1=k then some p.2 else gOf l k:=by
 unfold gOf;rw[qMN]
 by_cases h:p.1=k
 ·rw[if_pos h,if_pos h];rfl
 ·rw[if_neg h,if_neg h,qLW,Option.map_map];rfl
theorem qYf:∀{l:List Kv},gOf l k=some v->(k,v)∈l
 |[],h=>by cases h
 | p::l,h=>by
   rw[qWe]at h;split at h
   ·rename_i e
    cases h;rw[<- e];exact List.mem_cons_self
   ·exact mO _ (qYf h)
theorem qV0:∀{l:List Kv},gOf l k=none↔k ∉ l.map (·.1)
 |[]=>by simp[gOf,qMN]
 | p::l=>by
   rw[qWe,List.map_cons,List.mem_cons]
   by_cases h:p.1=k
   ·rw[if_pos h];simp[h]
   ·rw[if_neg h,qV0]
    exact⟨λh2=>λe=>e.elim (λe=>h e.symm) h2,λh2 e=>h2 (.inr e)⟩
theorem qO7:∀{l:List Kv}{k':Int},k'∈(putG k v l).map (·.1)↔k'=k∨k'∈l.map (·.1)
 |[],k'=>by simp[putG]
 | p::l,k'=>by
   unfold putG
   by_cases h:p.1=k
   ·rw[if_pos h,List.map_cons,List.map_cons,List.mem_cons,List.mem_cons,h]
    exact⟨λe=>e.elim .inl λe=>.inr (.inr e),λe=>e.elim .inl id⟩
   ·rw[if_neg h,List.map_cons,List.map_cons,List.mem_cons,List.mem_cons,qO7]
    exact⟨λe=>e.elim (λe=>.inr (.inl e)) λe=>e.elim .inl λe=>.inr (.inr e),λe=>e.elim (λe=>.inr (.inl e)) λe=>e.elim .inl λe=>.inr (.inr e)⟩
theorem zAAH:∀{l:List Kv},(l.map (·.1)).Nodup->((putG k v l).map (·.1)).Nodup
 |[],_=>by simp[putG]
 | p::l,h=>by
   obtain⟨h1,h2⟩:=List.nodup_cons.1 h;unfold putG
   by_cases hp:p.1=k
   ·rw[if_pos hp,List.map_cons]
    exact List.nodup_cons.2 ⟨by rw[<- hp];exact h1,h2⟩
   ·rw[if_neg hp,List.map_cons]
    refine List.nodup_cons.2 ⟨λe=>?_,zAAH h2⟩;rcases qO7.1 e with e|e
    ·exact hp e
    ·exact h1 e
abbrev tS(l:List Int):List Kv:=l.map λx=>(x,AV.bool true)
def putS(k:Int)(l:List Int):List Int:=if k∈l then l else l ++ [k]
theorem qYb:∀{l:List Int},putG k (.bool true) (tS l)=tS (putS k l)
 |[]=>by unfold putS;rw[if_neg (by simp)];rfl
 | x::l=>by
   show putG k (.bool true) ((x,.bool true)::tS l)=_;unfold putG
   by_cases h:x=k
   ·rw[if_pos h]
    unfold putS;rw[if_pos (by rw[h];exact List.mem_cons_self),h];rfl
   ·rw[if_neg h,qYb]
    unfold putS
    by_cases h2:k∈l
    ·rw[if_pos h2,if_pos (mO _ h2)]
     rfl
    ·rw[if_neg h2,if_neg (λe=>(mC e).elim (λe=>h e.symm) h2)]
     rfl
theorem zABP{l:List Int}{y:Int}:y∈putS k l↔y=k∨y∈l:=by
 unfold putS;split
 ·rename_i h
  exact⟨.inr,λe=>e.elim (λe=>e ▸ h) id⟩
 ·rw[List.mem_append,List.mem_singleton]
  exact⟨λe=>e.elim .inr .inl,λe=>e.elim .inr .inl⟩
theorem zAEL{l:List Int}(h:l.Nodup):(putS k l).Nodup:=by
 unfold putS;split
 ·exact h
 ·rename_i hk
  exact List.nodup_append.2 ⟨h,by simp,λa ha b hb e=>hk (by rw[<- List.mem_singleton.1 hb,<- e];exact ha)⟩
theorem qVj:∀{i:Nat}{l:List Int},qNg (gE i (tS l))=some l
 |_,[]=>rfl
 | i,x::l=>by
   show(match qNg (gE (i+1) (tS l))with|some l=>some (x::l)|none=>none)=_;rw[qVj]
theorem zABe{P:Program}{X:Td}{f:FuncId}{g:List AV->M AV}{args:List AV}(hf:X f=some g)(h:wpF (λ_=>g args) K s):wC P X f args K s:=by
 unfold wC wpT;refine wpF.succ (m:=λ_=>bd (g args) λv=>ret (Out.val v)) ?_ (λn=>by
  show(match X f with
   |some g=>bd (g args) λv=>ret (Out.val v)
   |none=>qCI P (run P X n) f args)=_
  rw[hf])
 exact wpF.bd (.const _) (λ_=>.const _) (h.mono λv s' hk=>wpF.ret ⟨v,rfl,hk⟩)
end Go.AM.MU
set_option maxRecDepth 100000
namespace Go.AM.FE
open Go Go.Proofs Go.AM.SG
variable {K:AV→Hq→Prop} {s s' s0:Hq} {v:AV} {c:Cm} {l:List Cm}
def tAS(c:Cm):Nat:=nv (((cb c).drop 2).take 2)
def tNo(c:Cm):Nat:=nv (((cb c).drop 4).take 4)
theorem zACg(hc:c.ok):tNo c<4294967296:=by have:=zAGm (l:=((cb c).drop 4).take 4) λx hx=>zAEl hc x (List.mem_of_mem_drop (List.mem_of_mem_take hx));rw[show(((cb c).drop 4).take 4).length=4 from rfl]at this;exact this
theorem nv6:nv ((cb c).drop 2)=tAS c*4294967296+tNo c:=by simp only[tAS,tNo,cb,nv,List.drop_succ_cons,List.drop_zero,List.take_succ_cons,List.take_zero,List.foldl_cons,List.foldl_nil];omega
def isT(c:Cm):Bool:=decide (qO5 c=1)&&decide (tAS c=65000)
def tgP(l:List Cm):List Int:=(l.filter isT).map λc=>(tNo c:Int)
def tgs(l:List Cm):List Int:=FD.insAll (tgP l)
theorem qY3:(tgP l).length<=l.length:=by unfold tgP;rw[lMY];exact List.length_filter_le _ _
theorem qVM:(tgs l).length<=l.length:=Nat.le_trans (FD.insAll_len _) qY3
def NumJ(t0:Hq)(c:Cm)(o n:Nat):List AV->Hq->Nat->Prop:=λys t m=>
 ∃i:Nat,ys=[.int .u64 ((nv ((((cb c).drop o).take n).take i):Nat):Int),.int .i64 (i:Int)]/\i<=n/\t=t0/\m=n-i
theorem qTp{o n:Nat}(hc:c.ok)(hn:n<=4)(ho:o+n<=8)(hK:∀s',Sub s s'->K (.int .u64 ((nv (((cb c).drop o).take n):Nat):Int)) s'):wC TP XX 65 [.agg (cmR c),.int .i64 (o:Int),.int .i64 (n:Int)] K s:=by
 refine qMg ⟨rfl,qAP λb s1 hb h1 u1=>?_⟩;have h1:s1 b=some (false,.cells 129 ((cb c).map u8)):=h1;have sub1:=u1.sub hb;have e8:IntKind.i64.wrap ((o:Int)+(n:Int))=((o+n:Nat):Int):=by rw[qAc (by omega) (by omega)];omega
 simp only[qAV,e8,qAA];have r2:qLC s1 8 1 (.ptr b 0) (some (.int .i64 (o:Int))) (some (.int .i64 ((o+n:Nat):Int))) none=some (.slc b o n (some (8-o)) 1):=by
  have key:∀q:Nat,q=o+n->qLC s1 8 1 (.ptr b 0) (some (.int .i64 (o:Int))) (some (.int .i64 (q:Int))) none=some (.slc b o n (some (8-o)) 1):=λq hq=>by
   have a1:Nat.ble q 8=true:=bL (by omega);have a2:Nat.ble o q=true:=bL (by omega);have a3:Nat.ble 8 (cb c).length=true:=rfl;have a4:q-o=n:=by omega
   simp[qLC,h1,bound,a1,a2,a3,a4]
  exact key _ rfl
 have r3:qAQ (.slc b o n (some (8-o)) 1)=some n:=rfl;simp only[r2,r3,qAA];have hlen:(((cb c).drop o).take n).length=n:=by rw[List.length_take,List.length_drop,show(cb c).length=8 from rfl];omega
 refine⟨NumJ s1 c o n,⟨_,0,rfl,by omega,rfl,rfl⟩,?_⟩;rintro e t m ⟨i,hy,hi,rfl,rfl⟩;simp only[cI,and_true]at hy;rw[hy.1,hy.2];simp only[qIr,qAS,qAA];refine qAF (λhlt=>?_) (λhge=>?_)
 rotate_left
 ·have:i=n:=by have:=oF hge;omega
  subst this;rw[List.take_of_length_le (Nat.le_of_eq hlen)];exact hK t sub1
 have hlt:i<n:=by have:=oT hlt;omega
 have hx:=zAEl hc;have hd:(((cb c).drop o).take n).take (i+1)=(((cb c).drop o).take n).take i ++ [(((cb c).drop o).take n)[i]]:=by rw[List.take_add_one,gEY (by rw[hlen];exact hlt)];rfl
 generalize hxv:(((cb c).drop o).take n)[i]=x at hd;have hxm:x<256:=hx x (by rw[<- hxv];exact List.mem_of_mem_drop (List.mem_of_mem_take (List.getElem_mem _)));have a1:qAM 1 (.slc b o n (some (8-o)) 1) (.int .i64 (i:Int))=some (.ptr b (o+i)):=by
  have:Nat.blt i n=true:=by rw[Nat.blt_eq];exact hlt
  simp[qAM,this]
 have r1:rd1 t (.ptr b (o+i))=some (u8 x):=by
  rw[qAL h1,List.getElem?_map];have:(cb c)[o+i]?=some x:=by rw[<- List.getElem?_drop,<- hxv];have h2:(((cb c).drop o).take n)[i]?=some (((cb c).drop o).take n)[i]:=gEY (by rw[hlen];exact hlt);rw[List.getElem?_take,if_pos hlt]at h2;exact h2
  rw[this];rfl
 obtain⟨q1,q2,q3,_⟩:=digit (qWL (l:=(((cb c).drop o).take n).take i) (λy hy=>hx y (List.mem_of_mem_drop (List.mem_of_mem_take (List.mem_of_mem_take hy)))) (by rw[List.length_take,hlen];omega)) hxm;simp only[a1,r1,q1,q2,q3,add1 (show i<=1000000 by omega),qAA];exact⟨_,by omega,i+1,by rw[hd,qYP],by omega,rfl,rfl⟩
theorem qQw{i:Nat}(h:l[i]?=some c):tgP (l.take (i+1))=tgP (l.take i)++(if isT c=true then[(tNo c:Int)]else[]):=by
 unfold tgP;rw[List.take_add_one,h,List.filter_append,List.map_append]
 congr 1
 by_cases q:isT c=true
 ·rw[if_pos q];simp[q]
 ·rw[if_neg q];simp[q]
theorem wu32n{n:Nat}(h:n<4294967296):qD2 .u32 (.int .u64 (n:Int))=some (.int .u32 (n:Int)):=by
 show some (AV.int .u32 (qBF .u32 (n:Int)))=_;have:qBF .u32 (n:Int)=(n:Int):=by simp only[qBF];rw[qEP _ _ _ (by omega) (by omega)];split<;>omega
 rw[this]
theorem qWz(h:SlR 8 s v (l.map cmR))(hG:GlK s)(hok:∀c∈l,c.ok)(hl:l.length<=200)(hK:∀v' s',Sub s s'->Sl s' v' (us (tgs l))->K v' s'):wC TP XX 34 [v] K s:=by
 refine qML ?_;unfold qKX;have n1:qAQ v=some l.length:=by rw[h.len,lMY]
 simp only[n1,qAA];refine⟨λys t m=>∃(i:Nat) (w:AV),ys=[w,.int .i64 (i:Int)]/\i<=l.length/\m=l.length-i/\Sub s t/\Acc 41 s t w (us (tgP (l.take i))),⟨_,0,_,rfl,by omega,rfl,.refl _,.inl ⟨rfl,rfl⟩⟩,?_⟩;rintro f t m ⟨i,w,hy,hi,rfl,kt,acc⟩;simp only[cI,and_true]at hy;rw[hy.1,hy.2];clear hy;have hlen:(tgP (l.take i)).length<=200:=by have:=qY3 (l:=l.take i);rw[List.length_take]at this;omega
 simp only[qHk,qAS,qAA];refine qAF (λhlt=>?_) (λhge=>?_)
 ·have hlt:i<l.length:=by have:=oT hlt;omega
  obtain⟨c,hc⟩:∃c,l[i]?=some c:=⟨_,gEY hlt⟩
  have hcok:=hok c (mG hc);obtain⟨pb,po,e1,e2,_⟩:=(h.sub kt).get (i:=i) (r:=cmR c) (by rw[List.getElem?_map,hc];rfl);simp only[e1,e2,qAA];refine qAP λb5 s6 hb5 h6 u6=>qAZ h6 rfl rfl rfl λs7 h7 u7=>qAJ (qAb h7 rfl) ?_;have k7:Sub t s7:=by intro j e hj;rw[u7 j (qEQ hb5 hj)];exact u6.sub hb5 j e hj
  have n5:t b5=none:=hb5;refine zADh (hG.sub (kt.trans k7)) λs10 k10=>?_;have k710:=k7.trans k10;have next:∀{tt:Hq}{w':AV},Sub s tt->Acc 41 s tt w' (us (tgP (l.take (i+1))))->qCj XX w' (.int .i64 (i:Int)) (λys t m=>∃(i:Nat) (w:AV),ys=[w,.int .i64 (i:Int)]/\i<=l.length/\m=l.length-i/\Sub s t/\Acc 41 s t w (us (tgP (l.take i)))) (l.length-i) K tt:=fun {tt w'} kk a=>by unfold qCj;simp only[qAV,qAA];rw[qAc (by omega) (by omega)];exact⟨_,by omega,i+1,w',rfl,by omega,rfl,kk,a⟩
  have asub:∀{a b:Hq},Sub a b->Acc 41 s a w (us (tgP (l.take i)))->Acc 41 s b w (us (tgP (l.take i))):=fun {a b} k h=>by
   rcases h with h|⟨j,h0,rfl,h⟩
   ·exact .inl h
   ·exact .inr ⟨j,h0,rfl,k _ _ h⟩
  have no:∀{tt:Hq},Sub t tt->isT c=false->qCj XX w (.int .i64 (i:Int)) (λys t m=>∃(i:Nat) (w:AV),ys=[w,.int .i64 (i:Int)]/\i<=l.length/\m=l.length-i/\Sub s t/\Acc 41 s t w (us (tgP (l.take i)))) (l.length-i) K tt:=fun {tt} kk q=>
   next (kt.trans kk) (by rw[qQw hc,if_neg (by rw[q];simp),List.append_nil];exact asub kk acc)
  simp only[qAY,qAU,Bool.false_bne,qAA];cases q1:((qO5 c:Int) == 1)with
  | false=>
    simp only[qAD,qDr,qAH,qAA];refine no k710 ?_;unfold isT;rw[decide_eq_false (by intro e;rw[e]at q1;cases q1)];rfl
  |true=>
  have hk1:qO5 c=1:=by have:=eq_of_beq q1;omega
  simp only[qAI];refine qAJ (qAb (k10 _ _ h7) rfl) (qTp (o:=2) (n:=2) hcok (by omega) (by omega) λs25 k25=>?_);simp only[qAY,qAU,Bool.false_bne,qAA,qDr,qAN];refine qAF (λq2=>?_) (λq2=>?_)
  ·have hT:isT c=true:=by
    unfold isT;rw[hk1,decide_eq_true (show tAS c=65000 by have:=eq_of_beq q2;unfold tAS;omega)];rfl
   refine qAJ (qAb (k25 _ _ (k10 _ _ h7)) rfl) (qTp (o:=4) (n:=4) hcok (by omega) (by omega) λs16 k16=>?_);have kk:Sub t s16:=k710.trans (k25.trans k16);rw[wu32n (show nv (((cb c).drop 4).take 4)<4294967296 from zACg hcok)];simp only[qAA];refine qKB rfl rfl λb19 s20 hb19 h20 u20=>?_;have k20:=kk.trans (u20.sub hb19);refine(asub k20 acc).app (m:=[.int .u32 (tNo c:Int)]) (Sl.mk h20 rfl (by simp)) (by simp) (by simp[us];omega) (λj hj=>?_) λv' s' a ks=>?_
   ·cases e:s j with
    |none=>exact absurd e hj
    |some y=>rw[k20 _ _ (kt _ _ e)];simp
   ·refine next (λj e hj=>ks j e (k20 _ _ (kt j e hj)) λb' hv=>?_) (by rw[qQw hc,if_pos hT,us,List.map_append];exact a)
    rintro rfl;rcases acc with⟨h1,_⟩|⟨b2,h0,rfl,_⟩
    ·rw[h1]at hv;cases hv
    ·injection hv with h1
     rw[h1,hj]at h0;cases h0
  ·refine no (k710.trans k25) ?_
   unfold isT;rw[hk1,decide_eq_false (show ¬tAS c=65000 by intro e;unfold tAS at e;rw[e]at q2;cases q2)];rfl
 ·have hge:i=l.length:=by have:=oF hge;omega
  subst hge;rw[List.take_length]at acc hlen;have fin:∀{l':List Int}{v':AV}{s':Hq},l'.Pairwise (·<=·)->l'.Perm (tgP l)->Sub s s'->Sl s' v' (us (W.dI l'))->K v' s':=fun {l' v' s'} ha hp kk hs=>hK v' s' kk (by rw[show W.dI l'=tgs l from FD.insAll_eq (W.dI_asc ha) λy=>W.dI_mem.trans hp.mem_iff]at hs;exact hs)
  rcases acc with⟨rfl,h0⟩|⟨db,h0,rfl,h1⟩
  ·have e0:tgP l=[]:=by simpa [us]using h0
   refine W.sortN_in (u0:=false) ?_;refine W.compactU_in (s0:=s) (l:=[]) (.inl ⟨rfl,rfl⟩) kt (by simp) λv' s' hs kk=>?_;exact fin (l':=[]) .nil (by rw[e0]) kk hs
  ·have hu:W.UAt false t db (tgP l):=h1
   have e1:(us (tgP l)).length=(tgP l).length:=by simp[us]
   rw[e1];refine W.sortU_in (u0:=false) hu (by omega) λs2 l' hu2 hp hasc kb=>?_;have hlen2:=hp.length_eq;have k2:Sub s s2:=λj e hj=>kb j e (kt j e hj) (by rintro rfl;rw[hj]at h0;cases h0);refine W.compactU_in (s0:=s) (l:=l') (.inr ⟨db,h0,by simp[us,hlen2],hu2⟩) k2 (by omega) λv' s' hs kk=>?_;refine fin ?_ hp kk hs;refine List.pairwise_iff_getElem.2 λi j hi hj hij=>?_;have:=hasc i j (by omega) hij hj;simpa [nAt,hi,hj]using this
end Go.AM.FE
set_option maxRecDepth 100000
namespace Go.AM.FE
open Go Go.Proofs Go.AM.SG
variable {K:AV→Hq→Prop} {s s' s0:Hq} {v:AV} {c:Cm} {l:List Cm} {p m:List AV} {b k:Nat} {elem:TypeId}
theorem zAFa{t:Bool}(hb:s b=some (t,.cells elem p))(hk:k<=p.length):Sl s (.slc b 0 k none 1) (p.take k):=by
 have hl:(p.take k).length=k:=by rw[List.length_take];omega
 refine .inr ⟨b,0,none,by rw[hl],by simp,λ_=>⟨t,elem,p,hb,by rw[hl];omega,λi hi=>?_⟩⟩;rw[hl]at hi;rw[zA,List.getElem?_take,if_pos hi]
theorem zAEz{C:AV->Hq->Prop}{y:AV}(hb:s b=some (false,.cells elem p))(hk:k<=p.length)(hy:Sl s y m)(hm:m≠[])(hl:k+m.length<=16777216)
  (hK:∀d s',(d=b∨s d=none)->s' d=some (false,.cells elem (p.take k++m))->(∀i e,s i=some e->i≠b->s' i=some e)->C (.slc d 0 (k+m.length) none 1) s'):appK elem 1 (.slc b 0 k none 1) y C s:=by
 obtain⟨n,hn⟩:∃n,m.length=n+1:=by cases m with|nil=>exact absurd rfl hm|cons a r=>exact⟨r.length,rfl⟩
 refine qAJ hy.rd (qAJ hy.len ⟨rfl,?_⟩);rw[hn];simp only;refine qAJ (zAFa hb hk).rd ?_;unfold qT9;rw[hb];refine⟨rfl,by omega,qAP λd s1 hd h1 u1=>?_⟩;rw[<- hn];refine hK d s1 ?_ h1 λi e hi hib=>?_
 ·by_cases e:d=b
  ·exact .inl e
  ·right
   have:hdel s b d=s d:=if_neg e;rw[<- this];exact hd
 ·have:hdel s b i=some e:=by rw[<- hi];exact if_neg hib
  exact u1.at this hd
theorem qWG{i:Nat}(h:l[i]?=some c):tgs (l.take (i+1))=if isT c=true then FD.insL (tNo c) (tgs (l.take i))else tgs (l.take i):=by
 unfold tgs;rw[qQw h]
 by_cases q:isT c=true
 ·rw[if_pos q,if_pos q]
  unfold FD.insAll;rw[List.foldl_append];rfl
 ·rw[if_neg q,if_neg q,List.append_nil]
theorem zAHG{a t:Nat}(ht:t<4294967296):qDB .shr (.int .u64 ((a*4294967296+t:Nat):Int)) (.int .u64 32)=some (.int .u64 (a:Int)):=by
 show frc (Int.fdiv ((a*4294967296+t:Nat):Int) ((2^(min 32 (IntKind.bits .u64)):Nat):Int)) (λn=>some (AV.int .u64 n))=_;rw[qB2];have e:((2^(min 32 (IntKind.bits .u64)):Nat):Int)=4294967296:=rfl;rw[e,Int.fdiv_eq_ediv_of_nonneg _ (by omega)];have:((a*4294967296+t:Nat):Int) / 4294967296=(a:Int):=by omega
 rw[this]
theorem cv32{a t:Nat}(ht:t<4294967296):qD2 .u32 (.int .u64 ((a*4294967296+t:Nat):Int))=some (.int .u32 (t:Int)):=by
 show some (AV.int .u32 (qBF .u32 _))=_;have:qBF .u32 ((a*4294967296+t:Nat):Int)=(t:Int):=by simp only[qBF];rw[qEP _ _ _ (by omega) (by omega)];split<;>omega
 rw[this]
theorem qZy{C:AV->Hq->Prop}{x y:AV}{q:List AV}(hb:s b=some (false,.cells elem [x]))(hy:Sl s y q)(hl:q.length<=1000)(hK:∀v' s',Sub s s'->Sl s' v' (x::q)->C v' s'):appK elem 1 (.slc b 0 1 (some 1) 1) y C s:=by
 have hs:Sl s (.slc b 0 1 (some 1) 1) [x]:=Sl.mk hb rfl (by simp);cases q with
 | nil=>
   refine qAJ hy.rd (qAJ hy.len ⟨rfl,Nat.le_refl _,hK _ _ (.refl _) hs⟩)
 | cons a r=>
   exact zAA2 (l:=[x]) hs hy (by simp) (by simp) (by simp at hl ⊢;omega) λd s' hd h1 u1=>hK _ _ (u1.sub hd) (Sl.mk h1 (by simp;omega) (by simp))
theorem qVW(h:SlR 8 s v (l.map cmR))(hok:∀c∈l,c.ok)(hl:l.length<=200)(hK:∀v' s',Sub s s'->Sl s' v' (us (tgs l))->K v' s'):wC TP XX 74 [v] K s:=by
 refine qHY ?_;unfold qE8;refine⟨λys t m=>∃(i:Nat) (w:AV),ys=[w,.int .i64 (i:Int)]/\i<=l.length/\m=l.length-i/\Sub s t/\Acc 41 s t w (us (tgs (l.take i))),⟨_,0,_,rfl,by omega,rfl,.refl _,.inl ⟨rfl,rfl⟩⟩,?_⟩;rintro f t m ⟨i,w,hy,hi,rfl,kt,acc⟩;simp only[cI,and_true]at hy;rw[hy.1,hy.2];clear hy;have hlen:(tgs (l.take i)).length<=200:=by have:=qVM (l:=l.take i);rw[List.length_take]at this;omega
 have n1:qAQ v=some l.length:=by rw[h.len,lMY]
 simp only[qD8,n1,qAS,qAA];refine qAF (λhlt=>?_) (λhge=>?_)
 rotate_left
 ·have hge:i=l.length:=by have:=oF hge;omega
  subst hge;rw[List.take_length]at acc;exact hK _ _ kt acc.sl
 have hlt:i<l.length:=by have:=oT hlt;omega
 obtain⟨c,hc⟩:∃c,l[i]?=some c:=⟨_,gEY hlt⟩
 have hcok:=hok c (mG hc);have hT:=zACg hcok;have row:∀{tt:Hq},Sub t tt->∃pb po,qAM 8 v (.int .i64 (i:Int))=some (.ptr pb po)/\rdN tt 8 (.ptr pb po)=some (cmR c):=λk=>by obtain⟨pb,po,e1,e2,_⟩:=((h.sub kt).sub k).get (i:=i) (r:=cmR c) (by rw[List.getElem?_map,hc];rfl);exact⟨pb,po,e1,e2⟩
 obtain⟨pb,po,e1,e2⟩:=row (.refl t);simp only[e1,e2,qAA];refine zADp hcok λs7 k7=>?_;rw[nv6];obtain⟨pb',po',e1',e2'⟩:=row k7;rw[e1]at e1';cases e1';simp only[e2',qAA];refine zABr λs11 k11=>?_;have kk:Sub t s11:=k7.trans k11;have asub:∀{a b:Hq}{q:List AV},Sub a b->Acc 41 s a w q->Acc 41 s b w q:=fun {a b q} k h=>by
  rcases h with h|⟨j,h0,rfl,h⟩
  ·exact .inl h
  ·exact .inr ⟨j,h0,rfl,k _ _ h⟩
 have acc:=asub kk acc;have kt:=kt.trans kk;clear e2 e2' row;generalize hII:(λ(ys:List AV) (t:Hq) (m:Nat)=>∃(i:Nat) (w:AV),ys=[w,.int .i64 (i:Int)]/\i<=l.length/\m=l.length-i/\Sub s t/\Acc 41 s t w (us (tgs (l.take i))))=II;have next:∀{tt:Hq}{w':AV},Sub s tt->Acc 41 s tt w' (us (tgs (l.take (i+1))))->qA0 XX w' (.int .i64 (i:Int)) II (l.length-i) K tt:=fun {tt w'} kk a=>by unfold qA0;simp only[qAV,qAA];rw[qAc (by omega) (by omega),<- hII];exact⟨_,by omega,i+1,w',rfl,by omega,rfl,kk,a⟩
 have no:isT c=false->qA0 XX w (.int .i64 (i:Int)) II (l.length-i) K s11:=λq=>next kt (by rw[qWG hc,if_neg (by rw[q];simp)];exact acc);simp only[qAY,qAU,Bool.true_bne,qAA];cases q1:((qO5 c:Int) == 1)with
 | false=>
   simp only[Bool.not_false,qAI,qBf,qAN,qAA];refine no ?_;unfold isT;rw[decide_eq_false (by intro e;rw[e]at q1;cases q1)];rfl
 |true=>
 have hk1:qO5 c=1:=by have:=eq_of_beq q1;omega
 simp only[Bool.not_true,qAD,zAHG hT,qAY,qAU,Bool.true_bne,qAA,qBf,qAH];cases q2:((tAS c:Int) == 65000)with
 | false=>
   simp only[Bool.not_false,qAI];refine no ?_;unfold isT;rw[decide_eq_false (p:=tAS c=65000) (by intro e;rw[e]at q2;cases q2),Bool.and_false]
 |true=>
 have hTc:isT c=true:=by unfold isT;rw[hk1,decide_eq_true (show tAS c=65000 by have:=eq_of_beq q2;omega)];rfl
 simp only[Bool.not_true,qAD];have en:tgs (l.take (i+1))=FD.insL (tNo c) (tgs (l.take i)):=by rw[qWG hc,if_pos hTc]
 have hasc:(tgs (l.take i)).Pairwise (· < ·):=FD.insAll_asc _;rw[en]at next;generalize tgs (l.take i)=q at *;have nq:qAQ w=some q.length:=by rw[acc.sl.len];simp[us]
 refine⟨λys t m=>∃k:Nat,ys=[.int .i64 (k:Int)]/\t=s11/\k<=q.length/\m=q.length-k/\∀(j:Nat) (h:j<q.length),j<k->q[j]<(tNo c:Int),⟨_,0,rfl,rfl,by omega,rfl,λj h hj=>by omega⟩,?_⟩;rintro f3 t3 m3 ⟨k,hy,rfl,hkl,rfl,hlow⟩;simp only[cI,and_true]at hy;rw[hy];have put:(∀h:k<q.length,(tNo c:Int)<q[k])->∀{z u:AV},qAT z (.bool true) u=some (.bool true)->qBG XX w (.int .i64 (i:Int)) (.int .u64 ((tAS c*4294967296+tNo c:Nat):Int)) (.int .i64 (k:Int)) z u II (l.length-i) K t3:=λhup {z u} hpk=>by
  rw[FD.insL_at hkl hlow hup]at next;unfold qBG;rw[hpk];simp only[qAA,qAI,cv32 hT];have lt2:(us (q.drop k)).length<=1000:=by rw[us,lMY,List.length_drop];omega
  rcases acc with⟨rfl,h0⟩|⟨db,h0,rfl,h1⟩
  ·have e0:q=[]:=by simpa [us]using h0
   subst e0;obtain rfl:k=0:=by simpa using hkl
   refine qAJ (a:=.nilslc) rfl ?_;refine qKB rfl rfl λb26 s27 hb26 h27 u27=>?_;refine qAJ (a:=.nilslc) rfl ?_;refine qZy h27 (q:=[]) (.inl ⟨rfl,rfl⟩) (by simp) λv29 s30 k30 hs30=>?_;have kq:=(u27.sub hb26).trans k30;refine(Acc.app (s0:=s) (elem:=41) (l:=[]) (.inl ⟨rfl,rfl⟩) hs30 (by simp) (by simp) (λj hj=>?_) λv' s' a ks=>?_)
   ·cases e:s j with
    |none=>exact absurd e hj
    |some y=>rw[kq _ _ (kt _ _ e)];simp
   ·exact next (λj e hj=>ks j e (kq _ _ (kt j e hj)) λb hb=>by cases hb) a
  ·have e1:(us q).length=q.length:=by simp[us]
   rw[e1];have sl:qDx 1 (.slc db 0 q.length none 1) none (some (.int .i64 (k:Int))) none=some (.slc db 0 k none 1):=by simp[qDx,bound,bL hkl]
   have sr:qDx 1 (.slc db 0 q.length none 1) (some (.int .i64 (k:Int))) none none=some (.slc db k (q.length-k) none 1):=by simp[qDx,bound,bL hkl]
   simp only[sl,sr,qAA];refine qKB rfl rfl λb26 s27 hb26 h27 u27=>?_;have k27:=u27.sub hb26;have hdrop:Sl s27 (.slc db k (q.length-k) none 1) (us (q.drop k)):=by
    have hl:(us (q.drop k)).length=q.length-k:=by simp[us]
    refine .inr ⟨db,k,none,by rw[hl],by simp,λ_=>⟨false,41,us q,k27 _ _ h1,by rw[hl,e1];omega,λj hj=>?_⟩⟩;simp[us,List.getElem?_drop]
   refine qZy h27 hdrop lt2 λv29 s30 k30 hs30=>?_;have kq:=k27.trans k30;refine zAEz (k:=k) (kq _ _ h1) (by rw[e1];exact hkl) hs30 (by simp) (by simp[us];omega) λd s' hd h2 ks=>?_;have hd0:s d=none:=by
    rcases hd with rfl|hd
    ·exact h0
    ·exact qCl (kt.trans kq) hd
   have e3:(us q).take k++AV.int .u32 (tNo c:Int)::us (q.drop k)=us (q.take k++(tNo c:Int)::q.drop k):=by simp[us,List.map_take,List.map_drop]
   rw[e3]at h2;refine next (λj e hj=>ks j e (kq _ _ (kt j e hj)) (by rintro rfl;rw[hj]at h0;cases h0)) (.inr ⟨d,hd0,?_,h2⟩)
   congr 1
   simp[us];omega
 have at_:∀h:k<q.length,∃p,qAM 1 w (.int .i64 (k:Int))=some p/\rd1 t3 p=some (.int .u32 q[k]):=λh=>by obtain⟨p,e1,e2⟩:=acc.sl.get (i:=k) (by simp[us];exact h);refine⟨p,e1,?_⟩;rw[e2,us,List.getElem?_map,gEY h];rfl
 simp only[qD5,nq,qAS,qAA]
 by_cases hk:k<q.length
 ·obtain⟨p,e1,e2⟩:=at_ hk
  rw[decide_eq_true (show(k:Int)<(q.length:Int)by omega)];simp only[qAI,e1,e2,cv32 hT,qAS,qAA,qBe,qAN];refine qAF (λg=>?_) (λg=>?_)
  ·have g:=oT g
   simp only[qAV,qAA];rw[qAc (by omega) (by omega)];refine⟨_,by omega,k+1,rfl,(by trivial),by omega,rfl,λj h hj=>?_⟩
   by_cases e:j=k
   ·subst e;exact g
   ·exact hlow j h (by omega)
  ·have g:=oF g
   have z0:((k:Int) == (q.length:Int))=false:=by
    cases r:((k:Int) == (q.length:Int))with
    |false=>rfl
    |true=>have:=eq_of_beq r;omega
   simp only[nq,qAY,z0,qAU,Bool.false_bne,Bool.true_bne,qAA,qAD];cases z:(q[k] == (tNo c:Int))with
   | true=>
     have z:=eq_of_beq z;simp only[Bool.not_true,qBG,qAH,qAA,qAD];rw[FD.insL_eq hk hlow z]at next;exact next kt acc
   | false=>
     have z:q[k]≠(tNo c:Int):=by simpa using z
     exact put (λ_=>by omega) rfl
 ·rw[decide_eq_false (show ¬(k:Int)<(q.length:Int)by omega)]
  have z1:((k:Int) == (q.length:Int))=true:=by rw[beq_iff_eq];omega
  simp only[qAD,qBe,qAH,qAA,nq,qAY,z1,qAU,Bool.false_bne,qAI];exact put (λh=>absurd h hk) rfl
end Go.AM.FE
set_option maxRecDepth 100000
namespace Go.AM.FW
open Go Go.Proofs Go.AM.TN
variable {K:AV→Hq→Prop} {s s':Hq} {cs:List AV} {F:FG}
theorem qVa(z:Sz F)(hF:FabR s cs F)(hK:∀b s',Sub s s'->(b=true↔Valid F)->K (.bool b) s'):wC TP XX 78 [.agg cs] K s:=by obtain⟨v2,v3,v4,v5,v6,v7,rfl,hL⟩:=hF;refine qUj ⟨hL.all,qAP λb s1 hb h1 u1=>?_⟩;have h1:s1 b=some (false,.cells 31 (csG F v2 v3 v4 v5 v6 v7)):=h1;have k1:=u1.sub hb;refine qAJ (qAb h1 rfl) (qTo z ⟨v2,v3,v4,v5,v6,v7,rfl,hL.sub k1⟩ λe p j s4 k4 he=>?_);refine qAJ (a:=.int .i64 e) rfl (qAJ (a:=p) rfl (qAJ (a:=.int .i64 j) rfl ?_));simp only[qAY,qAU,Bool.false_bne,qAA];exact hK _ s4 (k1.trans k4) (by rw[beq_iff_eq];exact he)
end Go.AM.FW
set_option maxRecDepth 100000
namespace Go.AM.FW
open Go Go.Proofs Go.AM.TN
variable {K:AV→Hq→Prop} {s s':Hq} {v:AV} {cs:List AV} {F:FG} {R:List SG.Rt} {S:List (List Int × List Int)} {x:List Int × List Int} {v2 v3 v4 v5 v6 v7:AV}
structure Sml(F:FG):Prop where
 L:F.L.length<=40
 T:F.T.length<=40
 B:F.B.length<=40
 S:F.S.length<=40
 H:F.H.length<=40
 G:F.G.length<=40
 N:∀x∈F.S,x.1.length<=20/\x.2.length<=20
theorem zAEF(hS:F.S.length<=9223372036854775807)(hF:FabR s cs F)(hK:∀b s',Sub s s'->(b=false->Sml F)->K (.bool b) s'):wC TP XX 8 [.agg cs] K s:=by
 obtain⟨v2,v3,v4,v5,v6,v7,rfl,hL⟩:=hF;refine qXt ⟨hL.all,qAP λb s1 hb h1 u1=>?_⟩;have h1:s1 b=some (false,.cells 31 (csG F v2 v3 v4 v5 v6 v7)):=h1;have k1:=u1.sub hb;have L1:=hL.sub k1;have n2:qAQ v2=some F.L.length:=by rw[L1.L.len,lMY]
 have n3:qAQ v3=some F.T.length:=by rw[L1.T.len,lMY]
 have n4:qAQ v4=some F.B.length:=by rw[L1.B.len,lMY]
 have n5:qAQ v5=some F.S.length:=L1.S.len;have n6:qAQ v6=some F.H.length:=by rw[L1.H.len,lMY]
 have n7:qAQ v7=some F.G.length:=by rw[L1.G.len,lMY]
 have yes:K (.bool true) s1:=hK true s1 k1 λh=>by cases h
 simp only[qAG,zA,qAA,qAL h1,csG2,n2,qAp];cases a0:decide ((40:Int)<(F.L.length:Int))with
 | true=>
   simp only[qAI,qIb,qHD,qFv,qE2,qE7,qAN,qAA];exact yes
 |false=>
 simp only[qAD,qAA,csG3,n3];cases a1:decide ((40:Int)<(F.T.length:Int))with
 | true=>
   simp only[qAI,qIb,qHD,qFv,qE2,qE7,qAN,qAH,qAA];exact yes
 |false=>
 simp only[qIb,qAH,qAD,qAG,zA,qAA,qAL h1,csG4,n4,qAp];cases a2:decide ((40:Int)<(F.B.length:Int))with
 | true=>
   simp only[qAI,qHD,qFv,qE2,qE7,qAN,qAH,qAA];exact yes
 |false=>
 simp only[qHD,qAH,qAD,qAG,zA,qAA,qAL h1,csG5,n5,qAp];cases a3:decide ((40:Int)<(F.S.length:Int))with
 | true=>
   simp only[qAI,qFv,qE2,qE7,qAN,qAH,qAA];exact yes
 |false=>
 simp only[qFv,qAH,qAD,qAG,zA,qAA,qAL h1,csG6,n6,qAp];cases a4:decide ((40:Int)<(F.H.length:Int))with
 | true=>
   simp only[qAI,qE2,qE7,qAN,qAH,qAA];exact yes
 |false=>
 simp only[qE2,qAH,qAD,qAG,zA,qAA,qAL h1,csG7,n7,qAp,qE7];refine qAF (λ_=>yes) (λa5=>?_);refine⟨λys t m=>∃k:Nat,ys=[.int .i64 (k:Int)]/\t=s1/\k<=F.S.length/\m=F.S.length-k/\∀x∈F.S.take k,x.1.length<=20/\x.2.length<=20,⟨_,0,rfl,rfl,by omega,rfl,by simp⟩,?_⟩;rintro en t m ⟨k,hy,rfl,hki,rfl,hno⟩;simp only[cI,and_true]at hy;rw[hy];simp only[qQM,qAG,zA,qAL h1,csG5,n5,qAS,qAA];refine qAF (λhlt=>?_) (λhge=>?_)
 ·have hlt:k<F.S.length:=by have:=oT hlt;omega
  have hx:F.S[k]?=some F.S[k]:=gEY hlt;obtain⟨pb,po,l1,l2,e1,_,e3,e4,g1,g2⟩:=L1.S.at hx;have m1:qAQ l1=some F.S[k].1.length:=by rw[g1.len,qCR]
  have m2:qAQ l2=some F.S[k].2.length:=by rw[g2.len,qCR]
  simp only[qAG,Nat.add_zero,qAA,e1,e3,m1,qAp];cases q:decide ((20:Int)<(F.S[k].1.length:Int))with
  | true=>
    simp only[qAI,qKo,qAN,qAA];exact yes
  |false=>
  simp only[qAD,qAA,e4,m2,qKo,qAH];refine qAF (λ_=>yes) (λq2=>?_);simp only[qAV,qAA];rw[qAc (by omega) (by omega)];refine⟨_,by omega,k+1,rfl,(by trivial),by omega,rfl,qME hlt hno ?_⟩;have:=oF q;have:=oF q2;omega
 ·have hge:k=F.S.length:=by have:=oF hge;omega
  subst hge;rw[List.take_length]at hno;have:=oF a0;have:=oF a1;have:=oF a2;have:=oF a3;have:=oF a4;have:=oF a5;exact hK false _ k1 λ_=>⟨by omega,by omega,by omega,by omega,by omega,by omega,hno⟩
theorem zADx(hR:SG.Rts s v R)(hK:∀b,(b=false->R.length<=60/\∀r∈R,r.path.length<=20/\r.cl.length<=20/\r.cm.length<=20)->K (.bool b) s):wC TP XX 9 [v] K s:=by
 refine qNv ?_;unfold qMZ;have yes:K (.bool true) s:=hK true λh=>by cases h
 simp only[hR.len,qAA,qAp];refine qAF (λ_=>yes) (λa0=>?_);have a0:=oF a0;refine⟨λys t m=>∃k:Nat,ys=[.int .i64 (k:Int)]/\t=s/\k<=R.length/\m=R.length-k/\∀r∈R.take k,r.path.length<=20/\r.cl.length<=20/\r.cm.length<=20,⟨_,0,rfl,rfl,by omega,rfl,by simp⟩,?_⟩;rintro en t m ⟨k,hy,rfl,hki,rfl,hno⟩;simp only[cI,and_true]at hy;rw[hy];simp only[qJf,hR.len,qAS,qAA];refine qAF (λhlt=>?_) (λhge=>?_)
 ·have hlt:k<R.length:=by have:=oT hlt;omega
  have hr:R[k]?=some R[k]:=gEY hlt;obtain⟨b,o,p,q,m,e1,_,e3,e4⟩:=hR.get hr;have np:qAQ p=some R[k].path.length:=by rw[e4.pa.len];unfold SG.us;rw[lMY]
  have nq:qAQ q=some R[k].cl.length:=by rw[e4.cl.len];unfold SG.us;rw[lMY]
  have nm:qAQ m=some R[k].cm.length:=by rw[e4.cm.len,lMY]
  have rp:rd1 t (.ptr b (o+22))=some p:=e3 22 (by omega);have rq:rd1 t (.ptr b (o+30))=some q:=e3 30 (by omega);have rm:rd1 t (.ptr b (o+31))=some m:=e3 31 (by omega);simp only[e1,qAG,Nat.add_assoc,Nat.reduceAdd,rp,np,qAA,qAp];cases q1:decide ((20:Int)<(R[k].path.length:Int))with
  | true=>
    simp only[qAI,qDd,qDh,qAN,qAA];exact yes
  |false=>
  simp only[qAD,rq,nq,qAA];cases q2:decide ((20:Int)<(R[k].cl.length:Int))with
  | true=>
    simp only[qAI,qDd,qDh,qAN,qAH,qAA];exact yes
  |false=>
  simp only[qDd,qAH,qAD,e1,qAG,Nat.add_assoc,Nat.reduceAdd,rm,nm,qAA,qAp,qDh];refine qAF (λ_=>yes) (λq3=>?_);simp only[qAV,qAA];rw[qAc (by omega) (by omega)];refine⟨_,by omega,k+1,rfl,(by trivial),by omega,rfl,qME hlt hno ?_⟩;have:=oF q1;have:=oF q2;have:=oF q3;omega
 ·have hge:k=R.length:=by have:=oF hge;omega
  subst hge;rw[List.take_length]at hno;exact hK false λ_=>⟨by omega,hno⟩
end Go.AM.FW
set_option maxRecDepth 100000
namespace Go.AM.FW
open Go Go.Proofs Go.AM.TN
variable {s:Hq} {v:AV} {F:FG} {S:List (List Int × List Int)} {i:Nat} {x:List Int × List Int} {v2 v3 v4 v5 v6 v7:AV}
theorem zAFd(h:SgG s v S):SgG (AM.frz s) v S:=by obtain⟨vs,h1,h2,h3⟩:=h;exact⟨vs,h1.frz,h2,λi q x a c=>⟨(h3 i q x a c).1.frz,(h3 i q x a c).2.frz⟩⟩
theorem zAHC(h:FL s F v2 v3 v4 v5 v6 v7):FL (AM.frz s) F v2 v3 v4 v5 v6 v7:=⟨h.L.frz,h.T.frz,h.B.frz,zAFd h.S,h.H.frz,h.G.frz⟩
end Go.AM.FW
set_option maxRecDepth 100000
namespace Go.AM.FW
open Go Go.Proofs Go.AM.TN
variable {s:Hq} {v:AV}
theorem zAF3{xs:List AV}(h:Inp TP s 38 115 xs):∃x:RLk,xs=lkC x:=by
 have hl:=qI4 (by kernel_rfl:qBj TP 115=some true) h;rw[show TP.cellsOf 115=3 by kernel_rfl]at hl;obtain⟨n0,h0,w0⟩:=SG.qAs (j:=0) (k:=.i64) h (by kernel_rfl);obtain⟨n1,h1,w1⟩:=SG.qAs (j:=1) (k:=.i64) h (by kernel_rfl);obtain⟨n2,h2,w2⟩:=SG.qAs (j:=2) (k:=.i64) h (by kernel_rfl);refine⟨(n0,n1,n2),SG.qJZ hl λj hj=>?_⟩
 match j,hj with
 | 0,_=>exact h0
 | 1,_=>exact h1
 | 2,_=>exact h2
theorem zAFg{xs:List AV}(h:Inp TP s 38 117 xs):∃x:Int×Int,xs=tgC x:=by
 have hl:=qI4 (by kernel_rfl:qBj TP 117=some true) h;rw[show TP.cellsOf 117=2 by kernel_rfl]at hl;obtain⟨n0,h0,w0⟩:=SG.qAs (j:=0) (k:=.u32) h (by kernel_rfl);obtain⟨n1,h1,w1⟩:=SG.qAs (j:=1) (k:=.u32) h (by kernel_rfl);refine⟨(n0,n1),SG.qJZ hl λj hj=>?_⟩
 match j,hj with
 | 0,_=>exact h0
 | 1,_=>exact h1
theorem zAGl{xs:List AV}(h:Inp TP s 38 87 xs):∃x:BG,xs=bgC x:=by
 have hl:=qI4 (by kernel_rfl:qBj TP 87=some true) h;rw[show TP.cellsOf 87=6 by kernel_rfl]at hl;obtain⟨n0,h0,w0⟩:=SG.qAs (j:=0) (k:=.i64) h (by kernel_rfl);obtain⟨n1,h1,w1⟩:=SG.qAs (j:=1) (k:=.u32) h (by kernel_rfl);obtain⟨n2,h2,w2⟩:=SG.qAs (j:=2) (k:=.u32) h (by kernel_rfl);obtain⟨n3,h3,w3⟩:=SG.qAs (j:=3) (k:=.u32) h (by kernel_rfl);obtain⟨n4,h4,w4⟩:=SG.qAs (j:=4) (k:=.i64) h (by kernel_rfl);obtain⟨n5,h5,w5⟩:=SG.qAs (j:=5) (k:=.u32) h (by kernel_rfl);refine⟨(n0,n1,n2,n3,n4,n5),SG.qJZ hl λj hj=>?_⟩
 match j,hj with
 | 0,_=>exact h0
 | 1,_=>exact h1
 | 2,_=>exact h2
 | 3,_=>exact h3
 | 4,_=>exact h4
 | 5,_=>exact h5
theorem zAFB{xs:List AV}(h:Inp TP s 38 140 xs):∃x:R4,xs=hgC x/\0<=x.2.1/\x.2.1<4294967296:=by
 have hl:=qI4 (by kernel_rfl:qBj TP 140=some true) h;rw[show TP.cellsOf 140=4 by kernel_rfl]at hl;obtain⟨n0,h0,w0⟩:=SG.qAs (j:=0) (k:=.u64) h (by kernel_rfl);obtain⟨n1,h1,w1⟩:=SG.qAs (j:=1) (k:=.u32) h (by kernel_rfl);obtain⟨n2,h2,w2⟩:=SG.qAs (j:=2) (k:=.i64) h (by kernel_rfl);obtain⟨n3,h3,w3⟩:=SG.qAs (j:=3) (k:=.i64) h (by kernel_rfl);refine⟨(n0,n1,n2,n3),SG.qJZ hl λj hj=>?_,SG.wf32 w1⟩
 match j,hj with
 | 0,_=>exact h0
 | 1,_=>exact h1
 | 2,_=>exact h2
 | 3,_=>exact h3
theorem zAGV{xs:List AV}(h:Inp TP s 38 144 xs):∃x:R4,xs=ggC x:=by
 have hl:=qI4 (by kernel_rfl:qBj TP 144=some true) h;rw[show TP.cellsOf 144=4 by kernel_rfl]at hl;obtain⟨n0,h0,w0⟩:=SG.qAs (j:=0) (k:=.i64) h (by kernel_rfl);obtain⟨n1,h1,w1⟩:=SG.qAs (j:=1) (k:=.i64) h (by kernel_rfl);obtain⟨n2,h2,w2⟩:=SG.qAs (j:=2) (k:=.u32) h (by kernel_rfl);obtain⟨n3,h3,w3⟩:=SG.qAs (j:=3) (k:=.i64) h (by kernel_rfl);refine⟨(n0,n1,n2,n3),SG.qJZ hl λj hj=>?_⟩
 match j,hj with
 | 0,_=>exact h0
 | 1,_=>exact h1
 | 2,_=>exact h2
 | 3,_=>exact h3
theorem zAFl{xs:List AV}(h:Inp TP s 38 94 xs):∃a:(AV×AV)×(List Int×List Int),xs=[a.1.1,a.1.2]/\Sl s a.1.1 (ix a.2.1)/\Sl s a.1.2 (ix a.2.2):=by
 have hl:=qI4 (by kernel_rfl:qBj TP 94=some true) h;rw[show TP.cellsOf 94=2 by kernel_rfl]at hl;obtain⟨n0,h0,w0⟩:=SG.qJ6 (j:=0) (d':=37) (t':=63) h (by kernel_rfl);obtain⟨n1,h1,w1⟩:=SG.qJ6 (j:=1) (d':=37) (t':=63) h (by kernel_rfl);have key:∀{x:AV},Inp TP s 37 63 [x]->∃l:List Int,Sl s x (ix l):=λw=>by obtain⟨l,h,_⟩:=qPI (d:=36) Tryz.underlying63 (by kernel_rfl) (AV.int .i64) (λ_=>True) (λxs h=>by obtain⟨n,e,_⟩:=qVD Tryz.underlying3 h;exact⟨n,e,trivial⟩) (SG.qEi Tryz.underlying63 w);exact⟨l,h⟩
 obtain⟨l0,q0⟩:=key w0;obtain⟨l1,q1⟩:=key w1;refine⟨((n0,n1),(l0,l1)),SG.qJZ hl λj hj=>?_,q0,q1⟩
 match j,hj with
 | 0,_=>exact h0
 | 1,_=>exact h1
theorem zAE0{xs:List AV}(h:Inp TP s 40 31 xs):∃F:FG,FabR s xs F/\F.S.length<=9223372036854775807/\∀x∈F.H,0<=x.2.1/\x.2.1<4294967296:=by
 have hl:=qI4 (by kernel_rfl:qBj TP 31=some true) h;rw[show TP.cellsOf 31=19 by kernel_rfl]at hl;obtain⟨n0,h0,w0⟩:=SG.qAs (j:=0) (k:=.i64) h (by kernel_rfl);obtain⟨n1,h1,w1⟩:=SG.qAs (j:=1) (k:=.i64) h (by kernel_rfl);obtain⟨n2,h2,w2⟩:=SG.qJ6 (j:=2) (d':=39) (t':=22) h (by kernel_rfl);obtain⟨n3,h3,w3⟩:=SG.qJ6 (j:=3) (d':=39) (t':=23) h (by kernel_rfl);obtain⟨n4,h4,w4⟩:=SG.qJ6 (j:=4) (d':=39) (t':=24) h (by kernel_rfl);obtain⟨n5,h5,w5⟩:=SG.qJ6 (j:=5) (d':=39) (t':=25) h (by kernel_rfl);obtain⟨n6,h6,w6⟩:=SG.qJ6 (j:=6) (d':=39) (t':=26) h (by kernel_rfl);obtain⟨n7,h7,w7⟩:=SG.qJ6 (j:=7) (d':=39) (t':=27) h (by kernel_rfl);obtain⟨n8,h8,w8⟩:=SG.qAs (j:=8) (k:=.i64) h (by kernel_rfl);obtain⟨n9,h9,w9⟩:=SG.qAs (j:=9) (k:=.i64) h (by kernel_rfl);obtain⟨n10,h10,w10⟩:=SG.qAs (j:=10) (k:=.i64) h (by kernel_rfl);obtain⟨n11,h11⟩:=SG.qPc (j:=11) h (by kernel_rfl);obtain⟨n12,h12⟩:=SG.qPc (j:=12) h (by kernel_rfl);obtain⟨n13,h13,w13⟩:=SG.qAs (j:=13) (k:=.i64) h (by kernel_rfl);obtain⟨n14,h14,w14⟩:=SG.qAs (j:=14) (k:=.i64) h (by kernel_rfl);obtain⟨n15,h15,w15⟩:=SG.qAs (j:=15) (k:=.i64) h (by kernel_rfl);obtain⟨n16,h16,w16⟩:=SG.qAs (j:=16) (k:=.i64) h (by kernel_rfl);obtain⟨n17,h17,w17⟩:=SG.qAs (j:=17) (k:=.i64) h (by kernel_rfl);obtain⟨n18,h18,w18⟩:=SG.qAs (j:=18) (k:=.i64) h (by kernel_rfl);obtain⟨lL,qL,_⟩:=argR (d:=38) Tryz.underlying22 lkC (λ_=>True) (λa=>by rw[show TP.cellsOf 115=3 by kernel_rfl];rfl) (λxs h=>by obtain⟨x,e⟩:=zAF3 h;exact⟨x,e,trivial⟩) (SG.qEi Tryz.underlying22 w2);obtain⟨lT,qT,_⟩:=argR (d:=38) Tryz.underlying23 tgC (λ_=>True) (λa=>by rw[show TP.cellsOf 117=2 by kernel_rfl];rfl) (λxs h=>by obtain⟨x,e⟩:=zAFg h;exact⟨x,e,trivial⟩) (SG.qEi Tryz.underlying23 w3);obtain⟨lB,qB,_⟩:=argR (d:=38) Tryz.underlying24 bgC (λ_=>True) (λa=>by rw[show TP.cellsOf 87=6 by kernel_rfl];rfl) (λxs h=>by obtain⟨x,e⟩:=zAGl h;exact⟨x,e,trivial⟩) (SG.qEi Tryz.underlying24 w4);obtain⟨lS,qS,oS,mS⟩:=argR (d:=38) Tryz.underlying25 (λa:(AV×AV)×(List Int×List Int)=>[a.1.1,a.1.2]) (λa=>Sl s a.1.1 (ix a.2.1)/\Sl s a.1.2 (ix a.2.2)) (λa=>by rw[show TP.cellsOf 94=2 by kernel_rfl];rfl) (λxs h=>zAFl h) (SG.qEi Tryz.underlying25 w5);obtain⟨lH,qH,oH,_⟩:=argR (d:=38) Tryz.underlying26 hgC (λx:R4=>0<=x.2.1/\x.2.1<4294967296) (λa=>by rw[show TP.cellsOf 140=4 by kernel_rfl];rfl) (λxs h=>zAFB h) (SG.qEi Tryz.underlying26 w6);obtain⟨lG,qG,_⟩:=argR (d:=38) Tryz.underlying27 ggC (λ_=>True) (λa=>by rw[show TP.cellsOf 144=4 by kernel_rfl];rfl) (λxs h=>by obtain⟨x,e⟩:=zAGV h;exact⟨x,e,trivial⟩) (SG.qEi Tryz.underlying27 w7);rw[show TP.cellsOf 115=3 by kernel_rfl]at qL;rw[show TP.cellsOf 117=2 by kernel_rfl]at qT;rw[show TP.cellsOf 87=6 by kernel_rfl]at qB;rw[show TP.cellsOf 94=2 by kernel_rfl]at qS;rw[show TP.cellsOf 140=4 by kernel_rfl]at qH;rw[show TP.cellsOf 144=4 by kernel_rfl]at qG;have sS:SgG s n5 (lS.map (·.2)):=⟨lS.map (·.1),by rw[List.map_map];exact qS,by simp,λi q x hq hx=>by
  rw[List.getElem?_map]at hq hx;cases e:lS[i]? with
  |none=>rw[e]at hq;cases hq
  | some a=>
    rw[e]at hq hx;cases hq;cases hx;exact oS a (mG e)⟩
 refine⟨⟨n0,n1,n8,n9,n10,n11,n12,n13,n14,n15,n16,n17,n18,lL,lT,lB,lS.map (·.2),lH,lG⟩,⟨n2,n3,n4,n5,n6,n7,SG.qJZ hl λj hj=>?_,qL,qT,qB,sS,qH,qG⟩,?_,oH⟩
 ·match j,hj with
  | 0,_=>exact h0
  | 1,_=>exact h1
  | 2,_=>exact h2
  | 3,_=>exact h3
  | 4,_=>exact h4
  | 5,_=>exact h5
  | 6,_=>exact h6
  | 7,_=>exact h7
  | 8,_=>exact h8
  | 9,_=>exact h9
  | 10,_=>exact h10
  | 11,_=>exact h11
  | 12,_=>exact h12
  | 13,_=>exact h13
  | 14,_=>exact h14
  | 15,_=>exact h15
  | 16,_=>exact h16
  | 17,_=>exact h17
  | 18,_=>exact h18
  |j+19,q=>exact absurd q (by show ¬j+19<19;omega)
 ·show(lS.map (·.2)).length<=_
  rw[lMY];exact Nat.le_trans mS (by decide)
theorem zAEV(h:Arg TP s 40 31 v):∃(cs:List AV) (F:FG),v=.agg cs/\FabR s cs F/\F.S.length<=9223372036854775807/\∀x∈F.H,0<=x.2.1/\x.2.1<4294967296:=by obtain⟨h1,h2,_⟩:=h;obtain⟨l,rfl,_⟩:=h2 (by kernel_rfl);rw[qPC]at h1;obtain⟨F,hF⟩:=zAE0 h1;exact⟨l,F,rfl,hF⟩
end Go.AM.FW
namespace Go.AM
open Go Go.Proofs
end Go.AM
set_option maxRecDepth 100000
namespace Go.AM.FE
open Go Go.Proofs Go.AM.TN
variable {K:AV→Hq→Prop} {s s':Hq} {p q m:AV} {cs:List AV} {F:FG} {leaf ip:Int} {r:SG.Rt} {v2 v3 v4 v5 v6 v7:AV}
def qEU(ip:Int):Bool:=decide (184483840<ip)&&decide (ip<=184483872)
def qLO(ip:Int):Int:=if qEU ip=true then ip-184483841 else 0
theorem qVn(h:qEU ip=true):qLO ip=ip-184483841/\184483840<ip/\ip<=184483872:=by unfold qEU at h;simp only[Bool.and_eq_true,decide_eq_true_eq]at h;refine⟨?_,h⟩;unfold qLO qEU;rw[decide_eq_true h.1,decide_eq_true h.2];rfl
theorem nconv(h:184483840<ip)(h2:ip<=184483872):(IntKind.u32.wrap (IntKind.u32.wrap (ip-184483840)-1)=ip-184483841)/\qBF .i64 (ip-184483841)=ip-184483841:=by
 have w:∀n:Int,0<=n->n<4294967296->IntKind.u32.wrap n=n:=λn h1 h2=>by rw[<- qBX];simp only[qBF];rw[qEP _ _ _ (by omega) (by omega)];split<;>omega
 have w2:∀n:Int,0<=n->n<4294967296->qBF .i64 n=n:=λn h1 h2=>by rw[qBX];exact qAc (by omega) (by omega)
 refine⟨?_,w2 _ (by omega) (by omega)⟩;rw[w (ip-184483840) (by omega) (by omega),w _ (by omega) (by omega)];omega
theorem zAEK(hK:K (.tup [.int .i64 (qLO ip),.bool (qEU ip)]) s):wC TP XX 30 [.int .u32 ip] K s:=by
 refine qPf ?_;simp only[qNT,qBv,qAp,qAA];have bad:qEU ip=false->K (.tup [.int .i64 0,.bool false]) s:=λh=>by unfold qLO at hK;rw[if_neg (by rw[h];simp),h]at hK;exact hK
 refine qAF (λh=>?_) (λh=>?_)
 ·simp only[qFH,h,qAN,qAA,qAI]
  refine bad ?_;unfold qEU;rw[decide_eq_false (by have:=oT h;omega)];rfl
 ·simp only[qFH,h,qAH,qAA]
  refine qAF (λh2=>?_) (λh2=>?_)
  ·refine bad ?_
   unfold qEU;rw[decide_eq_false (p:=ip<=184483872) (by have:=oT h2;omega),Bool.and_false]
  ·have g1:184483840<ip:=by have:=oF h;omega
   have g2:ip<=184483872:=by have:=oF h2;omega
   have ok:qEU ip=true:=by unfold qEU;rw[decide_eq_true g1,decide_eq_true g2];rfl
   obtain⟨e1,e2⟩:=nconv g1 g2;have e3:qD2 .i64 (.int .u32 (ip-184483841))=some (.int .i64 (ip-184483841)):=by show some (AV.int .i64 (qBF .i64 (ip-184483841)))=_;rw[e2]
   simp only[qAx,qAA,e1,e3];rw[(qVn ok).1,ok]at hK;exact hK
theorem zAAz(hK:K (.tup [.int .i64 (qLO ip),.bool (qEU ip)]) s):wC TP XX 73 [.int .u32 ip] K s:=by
 refine qIg ?_;simp only[qGM,qBv,qAp,qAA];have bad:qEU ip=false->K (.tup [.int .i64 0,.bool false]) s:=λh=>by unfold qLO at hK;rw[if_neg (by rw[h];simp),h]at hK;exact hK
 refine qAF (λh=>?_) (λh=>?_)
 ·simp only[qCB,h,qAN,qAA,qAI]
  refine bad ?_;unfold qEU;rw[decide_eq_false (by have:=oT h;omega)];rfl
 ·simp only[qCB,h,qAH,qAA]
  refine qAF (λh2=>?_) (λh2=>?_)
  ·refine bad ?_
   unfold qEU;rw[decide_eq_false (p:=ip<=184483872) (by have:=oT h2;omega),Bool.and_false]
  ·have g1:184483840<ip:=by have:=oF h;omega
   have g2:ip<=184483872:=by have:=oF h2;omega
   have ok:qEU ip=true:=by unfold qEU;rw[decide_eq_true g1,decide_eq_true g2];rfl
   obtain⟨e1,e2⟩:=nconv g1 g2;have e3:qD2 .i64 (.int .u32 (ip-184483841))=some (.int .i64 (ip-184483841)):=by show some (AV.int .i64 (qBF .i64 (ip-184483841)))=_;rw[e2]
   simp only[qAx,qAA,e1,e3];rw[(qVn ok).1,ok]at hK;exact hK
def flB(F:FG)(leaf:Int)(r:SG.Rt):Bool:=(r.kd == 3)&&(((r.tk == 6)||(r.tk == 3))&&(qEU r.nx&&(decide (qLO r.nx<F.lf)&&!(qLO r.nx == leaf))))
theorem row0:(r.row p q m)[0]?=some (.int .i64 r.kd):=id rfl
theorem zAAQ:(r.row p q m)[23]?=some (.int .u32 r.nx):=id rfl
theorem zAFN:(r.row p q m)[31]?=some m:=id rfl
theorem zAD4:(r.row p q m)[32]?=some (.int .i64 r.tk):=id rfl
theorem qYT(hF:FabR s cs F)(hR:SG.RtAt s r p q m)(hK:∀s',Sub s s'->K (.bool (flB F leaf r)) s'):wC TP XX 33 [.agg cs,.int .i64 leaf,.agg (r.row p q m)] K s:=by
 obtain⟨v2,v3,v4,v5,v6,v7,rfl,hL⟩:=hF;refine qL5 ⟨hL.all,qAP λb0 s1 hb0 h1 u1=>⟨hR.one,qAP λb2 s3 hb2 h3 u3=>?_⟩⟩;have h1:s1 b0=some (false,.cells 31 (csG F v2 v3 v4 v5 v6 v7)):=h1;have h3:s3 b2=some (false,.cells 81 (r.row p q m)):=h3;have k3:=u3.sub hb2;have kk:=(u1.sub hb0).trans k3;have h1:=k3 _ _ h1;have hk:=hK s3 kk;unfold flB at hk;simp only[qAG,zA,Nat.reduceAdd,qAA,qAL h3,row0,zAAQ,zAD4,qAY,qAU,Bool.true_bne];cases c1:(r.kd == 3)with
 | false=>
   rw[c1]at hk;simp only[Bool.not_false,qAI,qAN,qAA];exact hk
 |true=>
 rw[c1,Bool.true_and]at hk;simp only[Bool.not_true,qAD];have tail:∀{a u:AV},qAT a u (.bool false)=some (.bool false)->K (.bool (qEU r.nx&&(decide (qLO r.nx<F.lf)&&!(qLO r.nx == leaf)))) s3->qCp XX (.int .i64 leaf) (.ptr b0 0) (.ptr b2 0) (.bool false) a u K s3:=fun {a u} hp hk=>by
  unfold qCp;rw[hp];simp only[qAA,qAH,qAD,qAG,zA,Nat.reduceAdd,qAL h3,zAAQ];refine zAEK ?_;refine qAJ (a:=.int .i64 (qLO r.nx)) rfl (qAJ (a:=.bool (qEU r.nx)) rfl ?_);cases c4:qEU r.nx with
  | false=>
    rw[c4]at hk;simp only[qAD,qDv,qAH,qAA,qCm];exact hk
  | true=>
    rw[c4,Bool.true_and]at hk;simp only[qAI,qAL h1,csG0,qAS,qAA,qDv,qAN];cases c5:decide (qLO r.nx<F.lf)with
    | false=>
      rw[c5]at hk;simp only[qAD,qCm,qAH,qAA];exact hk
    | true=>
      rw[c5,Bool.true_and]at hk;simp only[qAI,qAY,qAU,Bool.true_bne,qAA,qCm,qAN];exact hk
 cases c2:(r.tk == 6)with
 | true=>
   rw[c2,Bool.true_or,Bool.true_and]at hk;simp only[Bool.not_true,qAD];exact tail rfl hk
 | false=>
   rw[c2,Bool.false_or]at hk;simp only[Bool.not_false,qAI];cases c3:(r.tk == 3)with
   | true=>
     rw[c3,Bool.true_and]at hk;simp only[Bool.not_true];exact tail rfl hk
   | false=>
     rw[c3,Bool.false_and]at hk;simp only[Bool.not_false,qCp,qAN,qAH,qAA,qAI];exact hk
def tgtB(F:FG)(i:Int):Int:=match F.B[i.toNat]? with
 |some y=>y.2.2.1
 |none=>0
theorem qTN{i:Nat}{y:BG}(h:F.B[i]?=some y):tgtB F (i:Int)=y.2.2.1:=by unfold tgtB;rw[Int.toNat_natCast,h]
theorem qX1{i:Nat}(hF:FabR s cs F)(hR:SG.RtAt s r p q m)(hok:r.ok)(hi:i<F.B.length)(hK:∀s',Sub s s'->K (.bool (flB F leaf r&&decide (tgtB F (i:Int)∈tgs r.cm))) s'):wC TP XX 40 [.agg cs,.int .i64 leaf,.int .i64 (i:Int),.agg (r.row p q m)] K s:=by
 obtain⟨v2,v3,v4,v5,v6,v7,rfl,hL⟩:=hF;refine qHj ⟨hL.all,qAP λb0 s1 hb0 h1 u1=>⟨hR.one,qAP λb2 s3 hb2 h3 u3=>?_⟩⟩;have h1:s1 b0=some (false,.cells 31 (csG F v2 v3 v4 v5 v6 v7)):=h1;have h3:s3 b2=some (false,.cells 81 (r.row p q m)):=h3;have k3:=u3.sub hb2;have kk:=(u1.sub hb0).trans k3;have h1:=k3 _ _ h1;have no:flB F leaf r=false->K (.bool false) s3:=λh=>by have:=hK s3 kk;rw[h]at this;exact this
 unfold flB at no;simp only[qAG,zA,Nat.reduceAdd,qAA,qAL h3,row0,zAAQ,zAD4,qAY,qAU,Bool.true_bne];cases c1:(r.kd == 3)with
 | false=>
   simp only[Bool.not_false,qAI,qAN,qAA];exact no (by rw[c1];rfl)
 |true=>
 rw[c1,Bool.true_and]at no;simp only[Bool.not_true,qAD];have tail:∀{a u:AV},qAT a u (.bool false)=some (.bool false)->(r.tk == 6||r.tk == 3)=true->qBL XX (.int .i64 leaf) (.int .i64 (i:Int)) (.ptr b0 0) (.ptr b2 0) (.bool false) a u K s3:=fun {a u} hp hc=>by
  rw[hc,Bool.true_and]at no;unfold qBL;rw[hp];simp only[qAA,qAH,qAD,qAG,zA,Nat.reduceAdd,qAL h3,zAAQ];refine zAAz ?_;refine qAJ (a:=.int .i64 (qLO r.nx)) rfl (qAJ (a:=.bool (qEU r.nx)) rfl ?_);simp only[qAX,qAA];cases c4:qEU r.nx with
  | false=>
    simp only[Bool.not_false,qAI,qBo,qAN,qAA,qBM];exact no (by rw[c4];rfl)
  | true=>
    rw[c4,Bool.true_and]at no;simp only[Bool.not_true,qAD,qAL h1,csG0,qAy,qAA,qBo,qAH];refine qAF (λc5=>?_) (λc5=>?_)
    ·simp only[qBM,c5,qAN,qAA,qAI]
     exact no (by rw[decide_eq_false (by have:=oT c5;omega)];rfl)
    ·have hlt:qLO r.nx<F.lf:=by have:=oF c5;omega
     rw[decide_eq_true hlt,Bool.true_and]at no;simp only[qAY,qAU,Bool.false_bne,qAA,qBM,c5,qAH];cases c6:(qLO r.nx == leaf)with
     | true=>
       simp only[qAI];exact no (by rw[c6];rfl)
     | false=>
       have hfl:flB F leaf r=true:=by unfold flB;rw[c1,hc,c4,decide_eq_true hlt,c6];rfl
       simp only[qAD,qAG,zA,Nat.reduceAdd,qAA,qAL h3,zAFN];refine qVW (hR.cm.sub kk) (λc hc=>hok.1 c hc) (by have:=hok.2.2.2;omega) λv22 s23 k23 h22=>?_;have h123:=k23 _ _ h1;have hB:=(hL.sub (kk.trans k23)).B;obtain⟨y,hy⟩:∃y,F.B[i]?=some y:=⟨_,gEY hi⟩
       obtain⟨pb,po,g1,_,g3⟩:=hB.get (i:=i) (r:=bgC y) (by rw[List.getElem?_map,hy];rfl);have g4:rd1 s23 (.ptr pb (po+2))=some (.int .u32 (tgtB F (i:Int))):=by rw[g3 2 (by omega),qTN hy];rfl
       have hk:=λs' k=>hK s' (kk.trans (k23.trans k));rw[hfl,Bool.true_and]at hk;have hTl:(tgs r.cm).length<=20:=Nat.le_trans qVM hok.2.2.2;generalize tgs r.cm=T at h22 hk hTl;have nT:qAQ v22=some T.length:=by rw[h22.len];simp
       refine⟨λys t m=>∃j:Nat,ys=[.int .i64 (j:Int)]/\t=s23/\j<=T.length/\m=T.length-j/\tgtB F (i:Int) ∉ T.take j,⟨_,0,rfl,rfl,by omega,rfl,by simp⟩,?_⟩;rintro f t m ⟨j,hy,rfl,hj,rfl,hno⟩;simp only[cI,and_true]at hy;rw[hy];simp only[qEZ,nT,qAS,qAA];refine qAF (λhlt2=>?_) (λhge=>?_)
       ·have hlt2:j<T.length:=by have:=oT hlt2;omega
        obtain⟨z,z1,z2⟩:=h22.get (i:=j) (by simp;exact hlt2);rw[List.getElem?_map,gEY hlt2]at z2;simp only[z1,z2,Option.map_some,qAG,zA,qAA,qAL h123,csG4,g1,g4,qAY,qAU,Bool.false_bne];cases c7:(T[j] == tgtB F (i:Int))with
        | true=>
          have:=hk t (.refl _);rw[decide_eq_true (show tgtB F (i:Int)∈T by rw[<- eq_of_beq c7];exact List.getElem_mem hlt2)]at this;simp only[qAI];exact this
        | false=>
          have c7:T[j]≠tgtB F (i:Int):=by simpa using c7
          simp only[qAD,qAV,qAA];rw[qAc (by omega) (by omega)];refine⟨_,by omega,j+1,rfl,(by trivial),by omega,rfl,λh=>?_⟩;rw[List.take_add_one,gEY hlt2]at h;rcases mP h with h|h
          ·exact hno h
          ·have h:tgtB F (i:Int)=T[j]:=by simpa using h
           exact c7 h.symm
       ·have hge:j=T.length:=by have:=oF hge;omega
        subst hge;rw[List.take_length]at hno;have:=hk t (.refl _);rw[decide_eq_false hno]at this;exact this
 cases c2:(r.tk == 6)with
 | true=>
   simp only[Bool.not_true,qAD];exact tail rfl (by rw[c2];rfl)
 | false=>
   simp only[Bool.not_false,qAI];cases c3:(r.tk == 3)with
   | true=>
     simp only[Bool.not_true];exact tail rfl (by rw[c3,Bool.or_true])
   | false=>
     rw[c2,c3,Bool.false_or,Bool.false_and]at no;simp only[Bool.not_false,qBL,qAN,qAH,qAA,qAI];exact no rfl
end Go.AM.FE
set_option maxRecDepth 100000
namespace Go.AM.MU
open Go Go.Proofs
variable {K:AV→Hq→Prop} {s s':Hq} {m b c:Nat} {v:AV} {ps:List Int} {t1 t2:Bool}
theorem qR3:∀l:List Int,qAg (us32 l)=true
 |[]=>rfl
 | x::l=>by
   show(true&&qAg (us32 l))=true;rw[qR3 l];rfl
theorem sorted_in(hb:s b=some (t1,.cells 101 [.map m]))(hm:s m=some (t2,.map (gE 0 (tS ps)) ps.length))(hl:ps.length<=255)
  (hK:∀v s',Sub s s'->Sl s' v ((qM1 ps).map (AV.int .u32))->(∀b o n c,v=.slc b o n c 1->s b=none)->K v s'):wC TP XX 35 [.fn (.func 70) [] [.ptr b 0]] K s:=by
 have hbm:b≠m:=by rintro rfl;rw[hb]at hm;cases hm
 refine zABe (show XX 35=some (qKf 70 101 42)from rfl) ?_;have hlen:(tS ps).length=ps.length:=lMY _;unfold qKf;refine wpF.cond rfl (wpF.bd (.const _) (λ_=>.const _) (wpF.rd hb λab hab=>?_));cases ab<;>first|exact hab.elim|skip
 rename_i e9 c9 n9;obtain⟨rfl,rfl,_,hget⟩:=hab;refine wpF.cond rfl ?_;have h0:c9.get 0=some (.map m):=hget 0 (by simp);simp only[h0];refine wpF.bd (.const _) (λ_=>.const _) (wpF.rd hm λab hab=>?_);cases ab<;>first|exact hab.elim|skip
 rename_i es9 c10;obtain⟨rfl,rfl⟩:=hab;simp only[qVj];have a1:Nat.ble (gE 0 (tS ps)).length 255=true:=bL (by rw[zAC3,hlen];exact hl);have a2:qGn ps.length (gE 0 (tS ps))=true:=zACp (by rw[hlen];omega);have a3:ndB (gE 0 (tS ps)) []=true:=zAFH (by simp);have a4:Nat.beq b m=false:=by
  cases r:Nat.beq b m with
  |false=>rfl
  |true=>exact absurd (bE r) hbm
 refine wpF.cond (by rw[a1,a2,a3,a4];rfl) ?_;cases hs:qM1 ps with
 | nil=>
   rw[hs]at hK;exact wpF.ret (hK _ _ (.refl _) (.inl ⟨rfl,rfl⟩) λ_ _ _ _ h=>by cases h)
 | cons x l=>
   rw[hs]at hK;unfold qBg;refine wpF.bd (.const _) (λ_=>.const _) (wpF.cond (qR3 _) (wpF.nw (x:=.cells 42 (us32 (x::l))) ⟨rfl,rfl,qR3 _,λi hi=>by rw[Tr.get_ofListAt];simp[hi]⟩ λd hd=>wpF.ret ?_));refine hK _ _ (qIG hd) ?_ λb' o n c h=>by cases h;exact hd
   rw[qR7];exact Sl.mk (t:=false) (e:=42) qBh (by simp) (by simp)
end Go.AM.MU
namespace Go.AM.FE
open Go Go.Proofs Go.AM.TN Go.AM.MU
variable {s s' H:Hq} {v:AV} {M:Nat}
abbrev Ls:=Int×Nat×Nat
abbrev kvL(ls:List Ls):List Kv:=ls.map λe=>(e.1,AV.ptr e.2.1 0)
structure LT(H s:Hq)(M:Nat)(ls:List Ls)(ps:Int->List Int)(tr:Int->Bool):Prop where
 mp:s M=some (false,.map (gE 0 (kvL ls)) ls.length)
 nd:(ls.map (·.1)).Nodup
 bl:∀e∈ls,s e.2.1=some (false,.cells 103 [.map e.2.2,.bool (tr e.1)])
 bm:∀e∈ls,s e.2.2=some (false,.map (gE 0 (tS (ps e.1))) (ps e.1).length)
 dl:∀e∈ls,∀f∈ls,e.2.1=f.2.1->e=f
 dm:∀e∈ls,∀f∈ls,e.2.2=f.2.2->e=f
 nM:∀e∈ls,e.2.2≠M
 sub:Sub H s
 fM:H M=none
 fb:∀e∈ls,H e.2.1=none
 fm:∀e∈ls,H e.2.2=none
 pn:∀k,(ps k).Nodup
variable {ls ls':List Ls} {ps:Int→List Int} {tr:Int→Bool} {t:Int}
theorem qMC:(kvL ls).map (·.1)=ls.map (·.1):=by rw[List.map_map];rfl
theorem LT.look(z:LT H s M ls ps tr)(t:Int):(∃e∈ls,e.1=t/\getM s (.map M) (.int .u32 t)=some (some (.ptr e.2.1 0)))∨(t ∉ ls.map (·.1)/\getM s (.map M) (.int .u32 t)=some none):=by
 rw[gget z.mp];cases q:gOf (kvL ls) t with
 | none=>
   have:=qV0.1 q;rw[qMC]at this;exact .inr ⟨this,rfl⟩
 | some v=>
   obtain⟨e,he,h⟩:=List.mem_map.1 (qYf q);cases h;exact .inl ⟨e,he,rfl,rfl⟩
def putL(t:Int)(b m:Nat):List Ls->List Ls
 |[]=>[(t,b,m)]
 |e::l=>if e.1=t then(t,b,m)::l else e::putL t b m l
theorem qSH{b m:Nat}:∀{ls:List Ls},kvL (putL t b m ls)=MU.putG t (.ptr b 0) (kvL ls)
 |[]=>rfl
 | e::ls=>by
   show kvL (putL t b m (e::ls))=MU.putG t (.ptr b 0) ((e.1,.ptr e.2.1 0)::kvL ls);unfold putL MU.putG
   by_cases h:e.1=t
   ·rw[if_pos h,if_pos h];rfl
   ·rw[if_neg h,if_neg h,<- qSH];rfl
theorem qF5{b m:Nat}:∀{ls:List Ls},(ls.map (·.1)).Nodup->∀{e},e∈putL t b m ls->e=(t,b,m)∨(e∈ls/\e.1≠t)
 | [],_,e,h=>by
   unfold putL at h;exact .inl (List.mem_singleton.1 h)
 | f::ls,nd,e,h=>by
   obtain⟨n1,n2⟩:=List.nodup_cons.1 nd;unfold putL at h
   by_cases hf:f.1=t
   ·rw[if_pos hf]at h
    rcases mC h with h|h
    ·exact .inl h
    ·refine .inr ⟨mO _ h,λq=>n1 ?_⟩
     show f.1∈ls.map (·.1);rw[hf,<- q];exact List.mem_map.2 ⟨e,h,rfl⟩
   ·rw[if_neg hf]at h
    rcases mC h with rfl|h
    ·exact .inr ⟨List.mem_cons_self,hf⟩
    ·rcases qF5 n2 h with h|⟨h,h2⟩
     ·exact .inl h
     ·exact .inr ⟨mO _ h,h2⟩
theorem qYz{b m:Nat}{k:Int}:k∈(putL t b m ls).map (·.1)↔k=t∨k∈ls.map (·.1):=by rw[<- qMC,qSH,qO7,qMC]
theorem qXM{R:Hq->Prop}(z:LT H s M ls (λ_=>[]) (λ_=>false))(hR:∀s' ls',LT H s' M ls' (λ_=>[]) (λ_=>false)->(∀k,k∈ls'.map (·.1)↔k=t∨k∈ls.map (·.1))->R s'):
  mapK (λv_40 s_41=>oK (qCJ [.nilmap,.bool false] [(0,1,v_40)]) λc_42=>boxK 103 (.agg c_42) (λb_43 s_44=>oK (putM s_44 (.map M) (.int .u32 t) b_43) R) s_41) s:=by
 intro m hm;have k1:Sub s (hset s m (false,.map [] 0)):=qIG hm;have m1:hset s m (false,.map [] 0) m=some (false,.map [] 0):=qBh;generalize hset s m (false,.map [] 0)=s1 at k1 m1;refine qAJ (a:=[.map m,.bool false]) rfl ⟨rfl,qAP λb s2 hb h2 u2=>?_⟩;have k2:=u2.sub hb;have kk:=k1.trans k2;have h2:s2 b=some (false,.cells 103 [.map m,.bool false]):=h2;have m2:s2 m=some (false,.map [] 0):=k2 _ _ m1;have hMm:M≠m:=by rintro rfl;rw[z.mp]at hm;cases hm
 have hMb:M≠b:=by rintro rfl;rw[k1 _ _ z.mp]at hb;cases hb
 have hmb:m≠b:=by rintro rfl;rw[m1]at hb;cases hb
 have hb0:s b=none:=SG.qCl k1 hb;have mp2:=kk _ _ z.mp;rw[show ls.length=(kvL ls).length from(lMY _).symm]at mp2;refine gput mp2 λs3 h3 u3=>?_;rw[<- qSH (m:=m)]at h3;have nd':((putL t b m ls).map (·.1)).Nodup:=by rw[<- qMC,qSH (m:=m)];exact zAAH (by rw[qMC];exact z.nd)
 have old:∀{e:Ls},e∈ls->e.2.1≠b/\e.2.2≠m:=fun {e} he=>⟨λq=>(by have:=z.bl e he;rw[q,hb0]at this;cases this),λq=>(by have:=z.bm e he;rw[q,hm]at this;cases this)⟩
 have nl:∀{e:Ls},e∈ls->e.2.1≠M:=fun {e} he q=>by have:=z.bl e he;rw[q,z.mp]at this;cases this
 refine hR s3 (putL t b m ls) ⟨?_,nd',λe he=>?_,λe he=>?_,λe he f hf q=>?_,λe he f hf q=>?_,λe he=>?_,λi e hi=>?_,z.fM,λe he=>?_,λe he=>?_,λ_=>.nil⟩ λk=>qYz
 ·rw[h3];simp
 ·rcases qF5 z.nd he with rfl|⟨he,_⟩
  ·rw[u3 b hMb.symm];exact h2
  ·rw[u3 _ (nl he)];exact kk _ _ (z.bl e he)
 ·rcases qF5 z.nd he with rfl|⟨he,_⟩
  ·rw[u3 m hMm.symm];exact m2
  ·rw[u3 _ (z.nM e he)];exact kk _ _ (z.bm e he)
 ·rcases qF5 z.nd he with rfl|⟨he,_⟩<;>rcases qF5 z.nd hf with rfl|⟨hf,_⟩
  ·rfl
  ·exact absurd q.symm (old hf).1
  ·exact absurd q (old he).1
  ·exact z.dl e he f hf q
 ·rcases qF5 z.nd he with rfl|⟨he,_⟩<;>rcases qF5 z.nd hf with rfl|⟨hf,_⟩
  ·rfl
  ·exact absurd q.symm (old hf).2
  ·exact absurd q (old he).2
  ·exact z.dm e he f hf q
 ·rcases qF5 z.nd he with rfl|⟨he,_⟩
  ·exact hMm.symm
  ·exact z.nM e he
 ·rw[u3 i (λq=>by have:=z.fM;rw[<- q,hi]at this;cases this)]
  exact kk _ _ (z.sub i e hi)
 ·rcases qF5 z.nd he with rfl|⟨he,_⟩
  ·exact SG.qCl z.sub hb0
  ·exact z.fb e he
 ·rcases qF5 z.nd he with rfl|⟨he,_⟩
  ·exact SG.qCl z.sub hm
  ·exact z.fm e he
def upd{α:Type}(f:Int->α)(k:Int)(a:α):Int->α:=λi=>if i=k then a else f i
theorem LT.lm(z:LT H s M ls ps tr){f g:Ls}(hf:f∈ls)(hg:g∈ls):f.2.1≠g.2.2:=λq=>by have h1:=z.bl f hf;rw[q,z.bm g hg]at h1;cases h1
theorem LT.peer{s1 s2:Hq}{e:Ls}{x:Int}{w:Bool}(z:LT H s M ls ps tr)(he:e∈ls)(h1:s1 e.2.2=some (false,.map (gE 0 (tS (putS x (ps e.1)))) (tS (putS x (ps e.1))).length))(u1:Upto e.2.2 s s1)(h2:s2 e.2.1=some (false,.cells 103 [.map e.2.2,.bool w]))(u2:Upto e.2.1 s1 s2):
  LT H s2 M ls (upd ps e.1 (putS x (ps e.1))) (upd tr e.1 w):=by
 have key:∀{f:Ls},f∈ls->f.1=e.1->f=e:=fun {f} hf q=>by obtain⟨i,hi⟩:=List.mem_iff_getElem?.1 hf;obtain⟨j,hj⟩:=List.mem_iff_getElem?.1 he;obtain⟨a1,a2⟩:=gS hi;obtain⟨b1,b2⟩:=gS hj;have:i=j:=(List.getElem_inj (h₀:=by simpa using a1) (h₁:=by simpa using b1) z.nd).1 (by simp only[List.getElem_map,a2,b2];exact q);subst this;rw[hi]at hj;cases hj;rfl
 have lM:∀{f:Ls},f∈ls->f.2.1≠M:=fun {f} hf q=>by have:=z.bl f hf;rw[q,z.mp]at this;cases this
 have k2:∀{i:Nat},i≠e.2.1->i≠e.2.2->s2 i=s i:=fun {i} a b=>(u2 i a).trans (u1 i b);refine⟨?_,z.nd,λf hf=>?_,λf hf=>?_,z.dl,z.dm,z.nM,λi y hi=>?_,z.fM,z.fb,z.fm,λk=>?_⟩
 ·rw[k2 (Ne.symm (lM he)) (Ne.symm (z.nM e he))];exact z.mp
 ·by_cases q:f=e
  ·subst q
   rw[h2];simp[upd]
  ·have hk:f.1≠e.1:=λr=>q (key hf r)
   rw[k2 (λr=>q (z.dl f hf e he r)) (z.lm hf he),z.bl f hf];simp only[upd,if_neg hk]
 ·by_cases q:f=e
  ·subst q
   rw[u2 _ (Ne.symm (z.lm he he)),h1];simp[upd]
  ·have hk:f.1≠e.1:=λr=>q (key hf r)
   rw[k2 (Ne.symm (z.lm he hf)) (λr=>q (z.dm f hf e he r)),z.bm f hf];simp only[upd,if_neg hk]
 ·rw[k2 (λq=>by have:=z.fb e he;rw[<- q,hi]at this;cases this) (λq=>by have:=z.fm e he;rw[<- q,hi]at this;cases this)]
  exact z.sub i y hi
 ·unfold upd
  split
  ·exact zAEL (z.pn _)
  ·exact z.pn k
noncomputable def offL(s:Hq)(M:Nat)(ls:List Ls):Hq:=λi=>by
 classical
 exact if i=M∨∃e∈ls,i=e.2.1∨i=e.2.2 then none else s i
theorem qUX{i:Nat}(h:¬(i=M∨∃e∈ls,i=e.2.1∨i=e.2.2)):offL s M ls i=s i:=by unfold offL;rw[if_neg h]
theorem qOD{i:Nat}(h:i=M∨∃e∈ls,i=e.2.1∨i=e.2.2):offL s M ls i=none:=by unfold offL;rw[if_pos h]
theorem LT.base{H2:Hq}(z:LT H s M ls ps tr)(k:Sub H2 H):LT H2 s M ls ps tr:=⟨z.mp,z.nd,z.bl,z.bm,z.dl,z.dm,z.nM,k.trans z.sub,SG.qCl k z.fM,λe he=>SG.qCl k (z.fb e he),λe he=>SG.qCl k (z.fm e he),z.pn⟩
theorem LT.re(z:LT H s M ls ps tr):LT (offL s M ls) s M ls ps tr:=⟨z.mp,z.nd,z.bl,z.bm,z.dl,z.dm,z.nM,λi y hi=>by
 by_cases h:i=M∨∃e∈ls,i=e.2.1∨i=e.2.2
 ·rw[qOD h]at hi;cases hi
 ·rw[qUX h]at hi;exact hi,qOD (.inl rfl),λe he=>qOD (.inr ⟨e,he,.inl rfl⟩),λe he=>qOD (.inr ⟨e,he,.inr rfl⟩),z.pn⟩
theorem LT.old(z:LT H s M ls ps tr):Sub H (offL s M ls):=λi y hi=>by
 rw[qUX]
 ·exact z.sub i y hi
 ·rintro (rfl|⟨e,he,rfl|rfl⟩)
  ·rw[z.fM]at hi;cases hi
  ·rw[z.fb e he]at hi;cases hi
  ·rw[z.fm e he]at hi;cases hi
theorem LT.cell(z:LT H s M ls ps tr){i:Nat}{tg:Bool}{e:TypeId}{cs:List AV}(h:s i=some (tg,.cells e cs))(hn:∀m b,cs≠[.map m,.bool b]):offL s M ls i=some (tg,.cells e cs):=by
 rw[qUX]
 ·exact h
 ·rintro (rfl|⟨f,hf,rfl|rfl⟩)
  ·rw[z.mp]at h;cases h
  ·rw[z.bl f hf]at h
   cases h;exact hn _ _ rfl
  ·rw[z.bm f hf]at h;cases h
theorem LT.slice(z:LT H s M ls ps tr){v:AV}{k:IntKind}{l:List Int}(h:Sl s v (l.map (AV.int k))):Sl (offL s M ls) v (l.map (AV.int k)):=by
 rcases h with h|⟨b,o,cap,h1,h2,h3⟩
 ·exact .inl h
 ·refine .inr ⟨b,o,cap,h1,h2,λhl=>?_⟩
  obtain⟨t,e,cs,q1,q2,q3⟩:=h3 hl;refine⟨t,e,cs,z.cell q1 λm w hc=>?_,q2,q3⟩;have h0:0<(l.map (AV.int k)).length:=by
   cases l with
   |nil=>exact absurd rfl hl
   |cons x l=>simp
  have:=q3 0 h0;subst hc;rw[Nat.add_zero]at this;obtain⟨x,hx⟩:∃x,(l.map (AV.int k))[0]?=some (.int k x):=by
   cases l with
   |nil=>exact absurd rfl hl
   |cons x l=>exact⟨x,rfl⟩
  rw[hx]at this
  match o,this with
  | 0,h=>cases h
  | 1,h=>cases h
  |o+2,h=>cases h
theorem LT.to(z:LT H s M ls ps tr)(k:Sub s s'):LT H s' M ls ps tr:=⟨k _ _ z.mp,z.nd,λe he=>k _ _ (z.bl e he),λe he=>k _ _ (z.bm e he),z.dl,z.dm,z.nM,z.sub.trans k,z.fM,z.fb,z.fm,z.pn⟩
end Go.AM.FE
set_option maxRecDepth 100000
namespace Go.AM.FE
open Go Go.Proofs Go.AM.TN Go.AM.MU
variable {K:AV→Hq→Prop} {s s' H:Hq} {v:AV} {cs:List AV} {F:FG} {leaf:Int} {R:List SG.Rt} {ls:List Ls} {ps:Int→List Int} {tr:Int→Bool}
abbrev fT(F:FG)(leaf:Int):Int->SG.Rt->Bool:=FD.flT (flB F leaf) λr=>tgs r.cm
abbrev pL(F:FG)(leaf k:Int)(R:List SG.Rt):List Int:=FD.peersL (fT F leaf k) (λr:SG.Rt=>r.nx) R
abbrev tT(F:FG)(leaf k:Int)(R:List SG.Rt):Bool:=FD.treeT (flB F leaf) (λr:SG.Rt=>tgs r.cm) (λr=>r.tk == 3) R k
abbrev fld(F:FG)(leaf:Int)(R:List SG.Rt):List (Nat×List Int×Int):=FD.fldL (flB F leaf) (λr:SG.Rt=>tgs r.cm) (λr=>r.nx) (λr=>r.tk == 3) F.S F.B.length (tgtB F) leaf F.tr R
theorem qUG{k:Int}{r:SG.Rt}:pL F leaf k (R ++ [r])=if(flB F leaf r&&decide (k∈tgs r.cm))=true then FD.insL r.nx (pL F leaf k R)else pL F leaf k R:=FD.peers_snoc _ _ _ _ _ _
theorem qUP{k:Int}{r:SG.Rt}:tT F leaf k (R ++ [r])=(tT F leaf k R||((flB F leaf r&&decide (k∈tgs r.cm))&&(r.tk == 3))):=FD.treeT_snoc _ _ _ _ _ _
theorem qTW{S:List (List Int×List Int)}{T:Int->Int}{l k:Int}{i:Nat}{x:List Int×List Int}(hx:S[i]?=some x):FD.keyB (S.take (i+1)) T l k↔FD.keyB (S.take i) T l k∨(l∈x.1/\∃bd∈x.2,T bd=k):=by
 unfold FD.keyB;rw[List.take_add_one,hx];constructor
 ·rintro ⟨y,hy,h1,h2⟩
  rcases mP hy with hy|hy
  ·exact .inl ⟨y,hy,h1,h2⟩
  ·have:y=x:=by simpa using hy
   subst this;exact .inr ⟨h1,h2⟩
 ·rintro (⟨y,hy,h⟩|h)
  ·exact⟨y,List.mem_append_left _ hy,h⟩
  ·exact⟨x,List.mem_append_right _ (by simp),h⟩
theorem zADv(hd:DomOk F){a b:Int}(ha:0<=a)(han:a<(F.B.length:Int))(hb:0<=b)(hbn:b<(F.B.length:Int))(h:tgtB F a=tgtB F b):a=b:=by
 have key:∀(i j:Nat),i<j->j<F.B.length->tgtB F (i:Int)≠tgtB F (j:Int):=λi j hij hj e=>by have h1:F.B[i]?=some F.B[i]:=gEY (by omega);have h2:F.B[j]?=some F.B[j]:=gEY hj;rw[qTN h1,qTN h2]at e;refine(hd.row j _ h2).tg ?_;rw[<- e];refine List.mem_map.2 ⟨F.B[i],?_,rfl⟩;rw[List.mem_take_iff_getElem];exact⟨i,by omega,rfl⟩
 obtain⟨i,rfl⟩:∃i:Nat,a=(i:Int):=⟨a.toNat,by omega⟩
 obtain⟨j,rfl⟩:∃j:Nat,b=(j:Int):=⟨b.toNat,by omega⟩
 rcases Nat.lt_trichotomy i j with q|q|q
 ·exact absurd h (key i j q (by omega))
 ·rw[q]
 ·exact absurd h.symm (key j i q (by omega))
structure P2(F:FG)(leaf:Int)(R:List SG.Rt)(ls:List Ls)(ps:Int->List Int)(tr:Int->Bool):Prop where
 mem:∀k,k∈ls.map (·.1)->∀y,y∈ps k↔y∈pL F leaf k R
 tre:∀k,k∈ls.map (·.1)->tr k=tT F leaf k R
theorem P2.no{r:SG.Rt}{i:Nat}(h:P2 F leaf (R.take i) ls ps tr)(hr:R[i]?=some r)(hf:flB F leaf r=false):P2 F leaf (R.take (i+1)) ls ps tr:=by
 have e:R.take (i+1)=R.take i ++ [r]:=by rw[List.take_add_one,hr];rfl
 refine⟨λk hk y=>?_,λk hk=>?_⟩
 ·rw[e,qUG,if_neg (by rw[hf];simp)]
  exact h.mem k hk y
 ·rw[e,qUP,hf,Bool.false_and,Bool.false_and,Bool.or_false]
  exact h.tre k hk
structure P3(F:FG)(leaf:Int)(R:List SG.Rt)(r:SG.Rt)(T:List Int)(ls:List Ls)(ps:Int->List Int)(tr:Int->Bool):Prop where
 mem:∀k,k∈ls.map (·.1)->∀y,y∈ps k↔y∈pL F leaf k R∨(k∈T/\y=r.nx)
 tre:∀k,k∈ls.map (·.1)->tr k=(tT F leaf k R||(decide (k∈T)&&(r.tk == 3)))
theorem P3.start{r:SG.Rt}(h:P2 F leaf R ls ps tr):P3 F leaf R r [] ls ps tr:=
 ⟨λk hk y=>(h.mem k hk y).trans (by simp),λk hk=>by rw[h.tre k hk];simp⟩
theorem P3.done{r:SG.Rt}{i:Nat}(h:P3 F leaf (R.take i) r (tgs r.cm) ls ps tr)(hr:R[i]?=some r)(hf:flB F leaf r=true):P2 F leaf (R.take (i+1)) ls ps tr:=by
 have e:R.take (i+1)=R.take i ++ [r]:=by rw[List.take_add_one,hr];rfl
 refine⟨λk hk y=>?_,λk hk=>?_⟩
 ·rw[e,qUG,hf,Bool.true_and]
  by_cases q:k∈tgs r.cm
  ·rw[if_pos (by simpa using q),FD.insL_mem,h.mem k hk y]
   exact⟨λg=>g.elim .inr λg=>.inl g.2,λg=>g.elim (λg=>.inr ⟨q,g⟩) .inl⟩
  ·rw[if_neg (by simpa using q),h.mem k hk y]
   exact⟨λg=>g.elim id λg=>absurd g.1 q,.inl⟩
 ·rw[e,qUP,h.tre k hk,hf,Bool.true_and]
theorem P3.skip{r:SG.Rt}{T:List Int}{j:Nat}{t:Int}(h:P3 F leaf R r (T.take j) ls ps tr)(ht:T[j]?=some t)(hk:t ∉ ls.map (·.1)):P3 F leaf R r (T.take (j+1)) ls ps tr:=by
 have e:∀{k:Int},k∈ls.map (·.1)->(k∈T.take (j+1)↔k∈T.take j):=fun {k} hk2=>by
  rw[List.take_add_one,ht,List.mem_append]
  exact⟨λg=>g.elim id λg=>absurd (by have:k=t:=by simpa using g
                                     rw[<- this];exact hk2) hk,.inl⟩
 refine⟨λk hk2 y=>?_,λk hk2=>?_⟩
 ·rw[e hk2];exact h.mem k hk2 y
 ·rw[decide_eq_decide.2 (e hk2)];exact h.tre k hk2
theorem P3.put{r:SG.Rt}{T:List Int}{j:Nat}{t:Int}(h:P3 F leaf R r (T.take j) ls ps tr)(ht:T[j]?=some t)(hk:t∈ls.map (·.1)):P3 F leaf R r (T.take (j+1)) ls (upd ps t (putS r.nx (ps t))) (upd tr t (tr t||(r.tk == 3))):=by
 have e:∀{k:Int},(k∈T.take (j+1)↔k∈T.take j∨k=t):=fun {k}=>by rw[List.take_add_one,ht,List.mem_append];simp
 refine⟨λk hk2 y=>?_,λk hk2=>?_⟩
 ·rw[e]
  unfold upd
  by_cases q:k=t
  ·rw[if_pos q,zABP,<- q,h.mem k hk2 y]
   exact⟨λg=>g.elim (λg=>.inr ⟨.inr rfl,g⟩) λg=>g.elim .inl λg=>.inr ⟨.inl g.1,g.2⟩,λg=>g.elim (λg=>.inr (.inl g)) λg=>.inl g.2⟩
  ·rw[if_neg q,h.mem k hk2 y]
   exact⟨λg=>g.elim .inl λg=>.inr ⟨.inl g.1,g.2⟩,λg=>g.elim .inl λg=>.inr ⟨g.1.elim id λg=>absurd g q,g.2⟩⟩
 ·unfold upd
  by_cases q:k=t
  ·rw[if_pos q,decide_eq_true (e.2 (.inr q)),<- q,h.tre k hk2]
   cases tT F leaf k R<;>cases decide (k∈T.take j)<;>cases(r.tk == 3)<;>rfl
  ·rw[if_neg q,h.tre k hk2,decide_eq_decide.2 (show k∈T.take (j+1)↔k∈T.take j from e.trans ⟨λg=>g.elim id λg=>absurd g q,.inl⟩)]
abbrev FlE:=Nat×List Int×Int
def flC(bd:Int)(v:AV)(g:Int):List AV:=[.int .i64 bd,v,.int .u32 g]
def FlA(s:Hq)(v:AV)(L:List FlE):Prop:=∃rows:List (List AV),SlR 3 s v rows/\rows.length=L.length/\∀(j:Nat) (e:FlE),L[j]?=some e->∃w,rows[j]?=some (flC (e.1:Int) w e.2.2)/\Sl s w (e.2.1.map (AV.int .u32))
theorem FlA.sub{L:List FlE}(h:FlA s v L)(k:Sub s s'):FlA s' v L:=by obtain⟨rows,h1,h2,h3⟩:=h;exact⟨rows,h1.sub k,h2,λj e hj=>by obtain⟨w,a,b⟩:=h3 j e hj;exact⟨w,a,b.sub k⟩⟩
theorem FlA.nil:FlA s .nilslc []:=⟨[],⟨by simp,.inl ⟨rfl,rfl⟩⟩,rfl,λj e h=>by simp at h⟩
def OwF(H t:Hq)(w:AV)(L:List FlE):Prop:=∃(sb:Hq) (rows:List (List AV)),Sub H sb/\Sub sb t/\AccR 44 3 sb t w rows/\rows.length=L.length/\∀(j:Nat) (e:FlE),L[j]?=some e->∃u,rows[j]?=some (flC (e.1:Int) u e.2.2)/\Sl sb u (e.2.1.map (AV.int .u32))
theorem OwF.fin{w:AV}{L:List FlE}(h:OwF H s w L):FlA s w L:=by obtain⟨sb,rows,_,h2,h3,h4,h5⟩:=h;exact⟨rows,h3.sl,h4,λj e hj=>by obtain⟨u,a,b⟩:=h5 j e hj;exact⟨u,a,b.sub h2⟩⟩
theorem OwF.sub{w:AV}{L:List FlE}(h:OwF H s w L)(k:Sub s s'):OwF H s' w L:=by obtain⟨sb,rows,h1,h2,h3,h4,h5⟩:=h;exact⟨sb,rows,h1,h2.trans k,h3.sub k,h4,h5⟩
theorem OwF.old{w:AV}{L:List FlE}(h:OwF H s w L):Sub H s:=by obtain⟨sb,rows,h1,h2,_⟩:=h;exact h1.trans h2
theorem zAEJ{w:AV}{rows:List (List AV)}{sb t t2:Hq}(h:AccR 44 3 sb t w rows)(hs:Sub sb t)(k:Sub t t2):Sub sb (offV w t2)/\Sub (offV w t2) t2/\AccR 44 3 (offV w t2) t2 w rows:=by
 refine⟨λi y hi=>?_,zABS,h.1,?_⟩
 ·rw[qZ7 λb o n c e q=>?_]
  ·exact k _ _ (hs i y hi)
  ·rcases h.2 with⟨r,_⟩|⟨d,h0,r,_⟩
   ·rw[r]at q;cases q
   ·rw[r]at q;cases q
    exact qEQ h0 hi
 ·rcases h.2 with h|⟨d,h0,r,h1⟩
  ·exact .inl h
  ·refine .inr ⟨d,?_,r,k _ _ h1⟩
   rw[r];exact if_pos rfl
theorem OwF.put{t t2:Hq}{w wv y:AV}{L:List FlE}{e:FlE}(h:OwF H t w L)(k:Sub t t2)(hs:Sl t2 wv (e.2.1.map (AV.int .u32)))(hfr:∀b o n c,wv=.slc b o n c 1->t b=none)(hy:SlR 3 t2 y [flC (e.1:Int) wv e.2.2])(hl:L.length<=1000)(hK:∀v' s',OwF H s' v' (L ++ [e])->K v' s'):appK 44 3 w y K t2:=by
 obtain⟨sb,rows,h1,h2,h3,h4,h5⟩:=h;obtain⟨o1,o2,o3⟩:=zAEJ h3 h2 k;have hs':Sl (offV w t2) wv (e.2.1.map (AV.int .u32)):=by
  rcases hs with hs|⟨b,o,cap,q1,q2,q3⟩
  ·exact .inl hs
  ·refine .inr ⟨b,o,cap,q1,q2,λhne=>?_⟩
   obtain⟨tg,el,cs,g1,g2⟩:=q3 hne;refine⟨tg,el,cs,?_,g2⟩;rw[qZ7 λb' o' n c e' q=>?_]
   ·exact g1
   ·rcases h3.2 with⟨r,_⟩|⟨d,_,r,hd⟩
    ·rw[r]at q;cases q
    ·rw[r]at q
     cases q;rintro rfl;rw[hfr _ _ _ _ q1]at hd;cases hd
 refine o3.app hy (by simp) (by rw[h4];simp;omega) o2 λv' s' a q=>hK v' s' ⟨offV w t2,_,h1.trans o1,q,a,by simp[h4],λj f hj=>?_⟩
 by_cases hjl:j<L.length
 ·rw[List.getElem?_append_left hjl]at hj
  obtain⟨u,a1,a2⟩:=h5 j f hj;exact⟨u,by rw[List.getElem?_append_left (by rw[h4];exact hjl)];exact a1,a2.sub o1⟩
 ·have hj2:j=L.length:=by
   have:=(gS hj).1;simp at this;omega
  subst hj2;rw[List.getElem?_append_right (Nat.le_refl _),Nat.sub_self]at hj;cases hj;exact⟨wv,by rw[<- h4,List.getElem?_append_right (Nat.le_refl _),Nat.sub_self];rfl,hs'⟩
end Go.AM.FE
set_option maxRecDepth 100000
namespace Go.AM.FC
open Go Go.Proofs
variable {K:AV→Hq→Prop} {s s0:Hq} {v:AV} {l:List Int}
theorem awake_in{t:Bool}(hg:s 0=some (t,.glob 0 (.agg kindsL)))(hJ:K (.bool true) s):wC TP XX 10 [] K s:=by
 have e:XX=orX (orX XL (sortedUX 35 70 101 42)) X0:=by
  funext f
  show(match XL f with|some g=>some g|none=>(match sortedUX 35 70 101 42 f with|some g=>some g|none=>X0 f))=(match (match XL f with|some g=>some g|none=>sortedUX 35 70 101 42 f)with|some g=>some g|none=>X0 f)
  cases XL f<;>rfl
 rw[e];exact qUl rfl rfl (by decide) hg hJ
def xorW(x y:Int):Int:=qBF .u32 ((BitVec.ofInt (IntKind.bits .u32) x ^^^ BitVec.ofInt (IntKind.bits .u32) y).toNat:Nat)
def hs1(h b:Int):Int:=IntKind.u32.wrap (xorW h (qBF .u32 b)*16777619)
def hsh:Int->List Int->Int
 |h,[]=>h
 |h,b::r=>hsh (hs1 h b) r
abbrev b8(l:List Int):List AV:=l.map (AV.int .u8)
theorem Acc_sub{elem:TypeId}{s0 s s':Hq}{l:List AV}(h:Acc elem s0 s v l)(hs:Sub s s'):Acc elem s0 s' v l:=by
 rcases h with h|⟨b,h0,rfl,h⟩
 ·exact .inl h
 ·exact .inr ⟨b,h0,rfl,hs _ _ h⟩
end Go.AM.FC
set_option maxRecDepth 100000
namespace Go.AM.FC
open Go Go.Proofs Go.AM.TN
variable {s s0 U:Hq}
theorem fill_one{zs c:List AV}(h:c.length=zs.length):qCJ (repl 1 zs) [(0,zs.length,.agg c)]=some c:=by
 have e0:repl 1 zs=zs:=by simp[repl]
 rw[e0];have e2:Nat.beq c.length zs.length=true:=by rw[h];exact Nat.beq_refl _
 have e3:Nat.ble (0+c.length) zs.length=true:=bL (by omega);simp only[qCJ,qPC,e2,e3,Bool.and_self,cond_true];unfold qCC;rw[List.take_zero,List.nil_append,List.drop_eq_nil_of_le (by omega),List.append_nil]
theorem one_row{es:Nat}{e:TypeId}{b:Nat}{t:Bool}{r:List AV}(h:s b=some (t,.cells e r))(hl:r.length=es):SlR es s (.slc b 0 1 (some 1) es) [r]:=
 SlR.mk (λx hx=>by rw[List.mem_singleton.1 hx];exact hl) (by simpa using h) rfl (λc e=>by cases e;simp)
theorem cut1(h:Sub s0 s):Sub s0 (cutH [(s,add s U)] (add s U)):=λi e hi=>qRs (h i e hi) (qAi (h i e hi))
structure Fr where
 src:Int
 dst:Int
 kind:Int
 a3:Int
 a4:Int
 a5:Int
 a6:Int
 a7:Int
 hs:Int
 hd:Int
 a10:Int
 pr:Int
 p1:Int
 p2:Int
 data:Int
end Go.AM.FC
set_option maxRecDepth 100000
namespace Go.AM.FE
open Go Go.Proofs Go.AM.TN Go.AM.MU
variable {K:AV→Hq→Prop} {s s' H t:Hq} {v:AV} {F:FG} {leaf:Int} {M b0:Nat} {R:List SG.Rt} {v2 v3 v4 v5 v6 v7:AV} {ls:List Ls} {ps:Int→List Int} {tr:Int→Bool} {t0:Bool}
theorem qM2{ρ:Type}(f:ρ->Bool)(nx:ρ->Int)(R:List ρ):(FD.peersL f nx R).length<=R.length:=by
 have key:∀(R:List ρ) (p:List Int),(R.foldl (λp r=>if f r then FD.insL (nx r) p else p) p).length<=p.length+R.length:=by
  intro R
  induction R with
  |nil=>intro p;simp
  | cons r R ih=>
    intro p;rw[List.foldl_cons,List.length_cons];have h1:=ih (if f r then FD.insL (nx r) p else p);have h2:(if f r then FD.insL (nx r) p else p).length<=p.length+1:=by
     split
     ·exact FD.insL_len
     ·omega
    omega
 have:=key R [];unfold FD.peersL;simpa using this
theorem zAFn{l:List Int}(h:l.Pairwise (· < ·)):l.Nodup:=h.imp λh e=>by omega
theorem qYx{k:Int}{l:List Int}(hn:l.Nodup)(hm:∀y,y∈l↔y∈pL F leaf k R):qM1 l=pL F leaf k R/\l.length<=R.length:=by have ha:(pL F leaf k R).Pairwise (· < ·):=FD.peersL_asc _ _ _;have hp:l.Perm (pL F leaf k R):=(List.perm_ext_iff_of_nodup hn (zAFn ha)).2 hm;exact⟨qPS ((qMr l).trans hp) (qJ4 l) (ha.imp λh=>Int.le_of_lt h),by rw[hp.length_eq];exact qM2 _ _ _⟩
def fldG(F:FG)(leaf:Int)(R:List SG.Rt)(i:Nat):Option FlE:=if FD.carB F.S leaf (i:Int)then some (i,pL F leaf (tgtB F (i:Int)) R,if F.tr&&tT F leaf (tgtB F (i:Int)) R then 4009754625+(i:Int)else 0)else none
def fldN(F:FG)(leaf:Int)(R:List SG.Rt)(n:Nat):List FlE:=(List.range n).filterMap (fldG F leaf R)
theorem qR0:fldN F leaf R F.B.length=fld F leaf R:=rfl
theorem qL8{n:Nat}:fldN F leaf R (n+1)=fldN F leaf R n++(fldG F leaf R n).toList:=by
 unfold fldN;rw[List.range_succ,List.filterMap_append]
 congr 1
theorem qRw:∀n,(fldN F leaf R n).length<=n:=λn=>by have:=List.length_filterMap_le (fldG F leaf R) (List.range n);rw[List.length_range]at this;exact this
theorem zAEk{i:Int}{v:AV}(hv:v.one=true):qCJ [(.int .i64 0),.nilslc,(.int .u32 0)] [(0,1,.int .i64 i),(1,1,v)]=some (flC i v 0):=by cases v<;>first|rfl|cases hv
theorem grp{i:Nat}(h:i<32):qD2 .u32 (.int .i64 (i:Int))=some (.int .u32 (i:Int))/\IntKind.u32.wrap (4009754625+(i:Int))=4009754625+(i:Int):=by
 have w:∀n:Int,0<=n->n<4294967296->qBF .u32 n=n:=λn h1 h2=>by simp only[qBF];rw[qEP _ _ _ (by omega) (by omega)];split<;>omega
 refine⟨?_,by rw[<- qBX];exact w _ (by omega) (by omega)⟩;show some (AV.int .u32 (qBF .u32 (i:Int)))=_;rw[w _ (by omega) (by omega)]
theorem ph3(hv:Valid F)(h0:t b0=some (t0,.cells 31 (csG F v2 v3 v4 v5 v6 v7)))(hL:FL t F v2 v3 v4 v5 v6 v7)(z:LT H t M ls ps tr)(p:P2 F leaf R ls ps tr)(hkeys:∀k,k∈ls.map (·.1)↔FD.keyB F.S (tgtB F) leaf k)(hRl:R.length<=60)
  (hK:∀v' s',Sub t s'->FlA s' v' (fld F leaf R)->K v' s') :
  oK (qAC 4 (.ptr b0 0)) λv_93=>oK (rd1 t v_93) λv_94=>oK (qAQ v_94) λv_95=>∃I10:List AV->Hq->Nat->Prop,(∃m,I10 [.nilslc,(.int .i64 0)] t m)/\∀(f:Env) (s:Hq) (m10:Nat),I10 [f 20,f 125] s m10->
   qFU XX (.ptr b0 0) (.map M) (f 20) v_94 (.int .i64 v_95) (f 125) I10 m10 K s:=by
 have hd:DomOk F:=hv 4 (by omega);have hsg:SegOk F:=hv 5 (by omega);have n4:qAQ v4=some F.B.length:=by rw[hL.B.len,lMY]
 have h32:=hd.n;simp only[qAG,zA,qAA,qAL h0,csG4,n4];refine⟨λys t' m=>∃(i:Nat) (w:AV),ys=[w,.int .i64 (i:Int)]/\i<=F.B.length/\m=F.B.length-i/\OwF t t' w (fldN F leaf R i),⟨_,0,_,rfl,by omega,rfl,t,[],.refl _,.refl _,⟨by simp,.inl ⟨rfl,rfl⟩⟩,rfl,λj e h=>by simp[fldN]at h⟩,?_⟩;rintro f t' m ⟨i,w,hy,hi,rfl,ow⟩;simp only[cI,and_true]at hy;rw[hy.1,hy.2];clear hy;have kt:=ow.old;simp only[qFU,qAS,qAA];refine qAF (λhlt=>?_) (λhge=>?_)
 rotate_left
 ·have hge:i=F.B.length:=by have:=oF hge;omega
  subst hge;exact hK _ _ kt ow.fin
 have hlt:i<F.B.length:=by have:=oT hlt;omega
 obtain⟨y,hyB⟩:∃y,F.B[i]?=some y:=⟨_,gEY hlt⟩
 obtain⟨pb,po,e1,e2,_⟩:=(hL.B.sub kt).get (i:=i) (r:=bgC y) (by rw[List.getElem?_map,hyB];rfl);simp only[e1,e2,qAA];refine qAP λb1 s2 hb1 h2 u2=>qAZ h2 rfl rfl rfl λs3 h3 u3=>?_;have k3:Sub t' s3:=qAa (u2.sub hb1) u3 hb1;have k3t:=kt.trans k3;have z3:=z.to k3t;have r2:rd1 s3 (.ptr b1 2)=some (.int .u32 (tgtB F (i:Int))):=by rw[qAL h3,qTN hyB];rfl
 simp only[qAG,zA,r2,qAA];have hcar:tgtB F (i:Int)∈ls.map (·.1)↔FD.carB F.S leaf (i:Int)=true:=(hkeys _).trans (FD.keyB_iff (n:=(F.B.length:Int)) (λa b h1 h2 h3 h4 h5=>zADv hd h1 h2 h3 h4 h5) (λx hx b hb=>(hsg.row x hx).2.1.2 b hb) (by omega) (by omega));have next:∀{tt:Hq}{w':AV},OwF t tt w' (fldN F leaf R (i+1))->qDt XX w' (.int .i64 (i:Int)) (λys t' m=>∃(i:Nat) (w:AV),ys=[w,.int .i64 (i:Int)]/\i<=F.B.length/\m=F.B.length-i/\OwF t t' w (fldN F leaf R i)) (F.B.length-i) K tt:=fun {tt w'} ow'=>by unfold qDt;simp only[qAV,qAA];rw[qAc (by omega) (by omega)];exact⟨_,by omega,i+1,w',rfl,by omega,rfl,ow'⟩
 rcases z3.look (tgtB F (i:Int))with⟨e,he,hek,hg⟩|⟨hno,hg⟩
 rotate_left
 ·rw[hg]
  simp only[qAA,retM,cond_false,qQX,qAU,Bool.false_bne,qAI];refine next ?_;have:fldG F leaf R i=none:=by unfold fldG;rw[if_neg (λq=>hno (hcar.2 q))]
  rw[qL8,this,Option.toList_none,List.append_nil];exact ow.sub k3
 rw[hg];have hmem:e.1∈ls.map (·.1):=List.mem_map.2 ⟨e,he,rfl⟩;obtain⟨hsort,hlen⟩:=qYx (z.pn e.1) (p.mem e.1 hmem);have l1:=z3.bl e he;simp only[qAA,retM,cond_false,qYF,qAU,Bool.false_bne,qAD,qCk,qAG,zA,qAL l1,g0Y];refine qDI (qN9 rfl λbx s4 hbx h4 u4=>?_);have k4:=u4.sub hbx;refine sorted_in (t1:=false) (t2:=false) h4 (k4 _ _ (z3.bm e he)) (by omega) λu s5 k5 hu hfr=>?_;rw[hsort]at hu;have k35:=k4.trans k5;refine qAJ (zAEk hu.one) (qAP λb2 s6 hb2 h6 u6=>qAZ h6 rfl rfl (by simp[flC,hu.one]) λs7 h7 u7=>?_);have k57:Sub s5 s7:=qAa (u6.sub hb2) u7 hb2;have k37:=k35.trans k57;have h07:=k37 _ _ (k3t _ _ h0);have n2:t' b2=none:=SG.qCl (k3.trans k35) hb2;have gfr:∀b o n c,u=.slc b o n c 1->t' b=none:=λb o n c q=>SG.qCl (k3.trans k4) (hfr b o n c q);have ggr:=grp (i:=i) (by omega);have c12:(csG F v2 v3 v4 v5 v6 v7)[12]?=some (.bool F.tr):=id rfl;have hgi:∀g:Int,(if F.tr&&tT F leaf (tgtB F (i:Int)) R then 4009754625+(i:Int)else 0)=g->fldN F leaf R (i+1)=fldN F leaf R i ++ [(i,pL F leaf (tgtB F (i:Int)) R,g)]:=λg hg=>by
  rw[qL8]
  congr 1
  unfold fldG;rw[if_pos (hcar.1 (by rw[<- hek];exact hmem)),hg];rfl
 have put:∀{tt:Hq}{g:Int},Sub s5 tt->tt b2=some (false,.cells 44 (flC (i:Int) u g))->(if F.tr&&tT F leaf (tgtB F (i:Int)) R then 4009754625+(i:Int)else 0)=g->qD1 XX w (.ptr b2 0) (.int .i64 (i:Int)) (λys t' m=>∃(i:Nat) (w:AV),ys=[w,.int .i64 (i:Int)]/\i<=F.B.length/\m=F.B.length-i/\OwF t t' w (fldN F leaf R i)) (F.B.length-i) K tt:=fun {tt g} kk hb hg=>by unfold qD1;refine qAJ (qAb hb rfl) (qAJ (a:=flC (i:Int) u g) (FC.fill_one rfl) ⟨by simp[flC,hu.one],qAP λb3 s8 hb3 h8 u8=>?_⟩);have k8:=kk.trans (u8.sub hb3);have hle:=qRw (F:=F) (leaf:=leaf) (R:=R) i;refine ow.put (e:=(i,pL F leaf (tgtB F (i:Int)) R,g)) (k3.trans (k35.trans k8)) (by rw[<- hek];exact hu.sub k8) gfr (FC.one_row h8 rfl) (by omega) λv' s' ow'=>?_;rw[<- hgi g hg]at ow';exact next ow'
 simp only[qAL h07,c12,qAA];have htre:=p.tre e.1 hmem;rw[hek]at htre;have h7':s7 b2=some (false,.cells 44 (flC (i:Int) u 0)):=h7;cases c1:F.tr with
 | false=>
   simp only[qAD,qD0,qAH,qAA];exact put k57 h7' (by rw[c1];rfl)
 | true=>
   have l7:=k37 _ _ l1;have r1:rd1 s7 (.ptr e.2.1 1)=some (.bool (tr e.1)):=by rw[qAL l7];rfl
   simp only[qAI,qAG,zA,r1,qAA,qD0,qAN];rw[hek,htre];refine qAF (λc2=>?_) (λc2=>?_)
   ·simp only[ggr.1,qAV,qAA,ggr.2]
    refine qCH h7' (by simp[flC]) rfl λs8 h8 u8=>?_;have n5:s5 b2=none:=hb2;exact put (qAa k57 u8 n5) h8 (by rw[c1,c2];rfl)
   ·exact put k57 h7' (by rw[c1,c2];rfl)
end Go.AM.FE
set_option maxRecDepth 100000
namespace Go.AM.FE
open Go Go.Proofs Go.AM.TN Go.AM.MU
variable {K:AV→Hq→Prop} {s s' H t:Hq} {v p q m:AV} {F:FG} {leaf:Int} {M b0:Nat} {R:List SG.Rt} {v2 v3 v4 v5 v6 v7:AV} {ls:List Ls} {ps:Int→List Int} {tr:Int→Bool} {t0:Bool} {r:SG.Rt}
theorem zAGx{bR i:Nat}{vT:AV}{I5:List AV->Hq->Nat->Prop}{m5:Nat}(z:LT H t M ls ps tr)(hr:R[i]?=some r)(hfl:flB F leaf r=true)(hp:P2 F leaf (R.take i) ls ps tr)(hT:Sl t vT ((tgs r.cm).map (AV.int .u32)))(hTl:(tgs r.cm).length<=20)(hb:t bR=some (false,.cells 81 (r.row p q m)))
  (hN:∀t' ps' tr',LT H t' M ls ps' tr'->P2 F leaf (R.take (i+1)) ls ps' tr'->qDC XX (.int .i64 (i:Int)) I5 m5 K t') :
  oK (qAQ vT) λv_66=>∃I7:List AV->Hq->Nat->Prop,(∃m,I7 [(.int .i64 0)] t m)/\∀(f:Env) (s:Hq) (m7:Nat),I7 [f 90] s m7->qFw XX (.map M) (.ptr bR 0) (.int .i64 (i:Int)) vT (.int .i64 v_66) (f 90) I7 m7 I5 m5 K s:=by
 have nT:qAQ vT=some (tgs r.cm).length:=by rw[hT.len];simp
 have asc:(tgs r.cm).Pairwise (· < ·):=FD.insAll_asc _;have done:∀{ps' tr'},P3 F leaf (R.take i) r (tgs r.cm) ls ps' tr'->P2 F leaf (R.take (i+1)) ls ps' tr':=λh=>h.done hr hfl;generalize tgs r.cm=T at *;simp only[nT,qAA];have hb':=z.cell hb λa b h=>by have:=congrArg List.length h;rw[r.row_len]at this;simp at this
 have hT':=z.slice hT;refine⟨λys t' m=>∃(j:Nat) (ps':Int->List Int) (tr':Int->Bool),ys=[.int .i64 (j:Int)]/\j<=T.length/\m=T.length-j/\LT (offL t M ls) t' M ls ps' tr'/\P3 F leaf (R.take i) r (T.take j) ls ps' tr',⟨_,0,ps,tr,rfl,by omega,rfl,z.re,.start hp⟩,?_⟩;rintro f t' m' ⟨j,ps',tr',hy,hj,rfl,z',p3⟩;simp only[cI,and_true]at hy;rw[hy];clear hy;have hT2:=hT'.sub z'.sub;have hb2:=z'.sub _ _ hb';simp only[qFw,qAS,qAA];refine qAF (λhlt=>?_) (λhge=>?_)
 rotate_left
 ·have hge:j=T.length:=by have:=oF hge;omega
  subst hge;rw[List.take_length]at p3;exact hN t' ps' tr' (z'.base z.old) (done p3)
 have hlt:j<T.length:=by have:=oT hlt;omega
 obtain⟨k,hk⟩:∃k,T[j]?=some k:=⟨_,gEY hlt⟩
 obtain⟨a,e1,e2⟩:=hT2.get (i:=j) (by simp;exact hlt);rw[List.getElem?_map,hk]at e2;have next:∀{tt:Hq}{ps2:Int->List Int}{tr2:Int->Bool},LT (offL t M ls) tt M ls ps2 tr2->P3 F leaf (R.take i) r (T.take (j+1)) ls ps2 tr2->qCP XX (.int .i64 (j:Int)) (λys t' m=>∃(j:Nat) (ps':Int->List Int) (tr':Int->Bool),ys=[.int .i64 (j:Int)]/\j<=T.length/\m=T.length-j/\LT (offL t M ls) t' M ls ps' tr'/\P3 F leaf (R.take i) r (T.take j) ls ps' tr') (T.length-j) I5 m5 K tt:=fun {tt ps2 tr2} z2 p2=>by unfold qCP;simp only[qAV,qAA];rw[qAc (by omega) (by omega)];exact⟨_,by omega,j+1,ps2,tr2,rfl,by omega,rfl,z2,p2⟩
 simp only[e1,e2,Option.map_some,qAA];rcases z'.look k with⟨e,he,hek,hg⟩|⟨hno,hg⟩
 rotate_left
 ·rw[hg]
  simp only[qAA,retM,cond_false,qQX,qAU,Bool.true_bne,Bool.not_true,qAD];exact next z' (p3.skip hk hno)
 rw[hg];have hmem:k∈ls.map (·.1):=by rw[<- hek];exact List.mem_map.2 ⟨e,he,rfl⟩
 have l1:=z'.bl e he;have lm:=z'.bm e he;rw[show(ps' e.1).length=(tS (ps' e.1)).length from(lMY _).symm]at lm;simp only[qAA,retM,cond_false,qYF,qAU,Bool.true_bne,Bool.not_false,qAI,qCk,qAG,zA,Nat.reduceAdd,qAL l1,g0Y,qAL hb2,zAAQ];refine gput lm λs1 h1 u1=>?_;rw[qYb]at h1;have l2:s1 e.2.1=some (false,.cells 103 [.map e.2.2,.bool (tr' e.1)]):=by rw[u1 _ (z'.lm he he)];exact l1
 have hb3:s1 bR=some (false,.cells 81 (r.row p q m)):=by rw[u1 _ (by rintro rfl;rw[z'.bm e he]at hb2;cases hb2)];exact hb2
 have r1:rd1 s1 (.ptr e.2.1 1)=some (.bool (tr' e.1)):=by rw[qAL l2];rfl
 have fin:∀{w:Bool},w=(tr' e.1||(r.tk == 3))->qCP XX (.int .i64 (j:Int)) (λys t' m=>∃(j:Nat) (ps':Int->List Int) (tr':Int->Bool),ys=[.int .i64 (j:Int)]/\j<=T.length/\m=T.length-j/\LT (offL t M ls) t' M ls ps' tr'/\P3 F leaf (R.take i) r (T.take j) ls ps' tr') (T.length-j) I5 m5 K (hset s1 e.2.1 (false,.cells 103 [.map e.2.2,.bool w])):=fun {w} hw=>by refine next (z'.peer he h1 u1 qBh (λi hi=>qBB hi)) ?_;rw[hw,hek];exact p3.put hk hmem
 have wr:∀{w:Bool},w=(tr' e.1||(r.tk == 3))->oK (wr1 s1 (.ptr e.2.1 1) (.bool w)) λs_87=>qCP XX (.int .i64 (j:Int)) (λys t' m=>∃(j:Nat) (ps':Int->List Int) (tr':Int->Bool),ys=[.int .i64 (j:Int)]/\j<=T.length/\m=T.length-j/\LT (offL t M ls) t' M ls ps' tr'/\P3 F leaf (R.take i) r (T.take j) ls ps' tr') (T.length-j) I5 m5 K s_87:=fun {w} hw=>by rw[zADD l2 (by simp) rfl];exact fin hw
 simp only[r1,qAA];cases c1:tr' e.1 with
 | true=>
   simp only[qAI,qEJ,qAN,qAA,qCk,qAG,zA];exact wr (by rw[c1];rfl)
 | false=>
   simp only[qAD,qAG,zA,qAA,qAL hb3,zAD4,qAY,qAU,Bool.false_bne,qEJ,qAH,qCk];exact wr (by rw[c1];rfl)
theorem ph2(hv:Valid F)(hH0:H b0=some (t0,.cells 31 (csG F v2 v3 v4 v5 v6 v7)))(hL:FL H F v2 v3 v4 v5 v6 v7)(hR:SG.Rts H v R)(hG:SG.GlK H)(hok:∀r∈R,r.ok)(hRl:R.length<=60)(z:LT H t M ls (λ_=>[]) (λ_=>false))(hkeys:∀k,k∈ls.map (·.1)↔FD.keyB F.S (tgtB F) leaf k)
  (hK:∀v' s',Sub H s'->FlA s' v' (fld F leaf R)->K v' s') :
  oK (qAQ v) λv_47=>∃I5:List AV->Hq->Nat->Prop,(∃m,I5 [(.int .i64 0)] t m)/\∀(f:Env) (s:Hq) (m5:Nat),I5 [f 76] s m5->qFx XX (.int .i64 leaf) (.ptr b0 0) (.map M) v (.int .i64 v_47) (f 76) I5 m5 K s:=by
 simp only[hR.len,qAA];refine⟨λys t' m=>∃(i:Nat) (ps:Int->List Int) (tr:Int->Bool),ys=[.int .i64 (i:Int)]/\i<=R.length/\m=R.length-i/\LT H t' M ls ps tr/\P2 F leaf (R.take i) ls ps tr,⟨_,0,_,_,rfl,by omega,rfl,z,⟨λk _ y=>by simp[pL,FD.peersL],λk _=>by simp[tT,FD.treeT]⟩⟩,?_⟩;rintro f t1 m' ⟨i,ps,tr,hy,hi,rfl,z1,p2⟩;simp only[cI,and_true]at hy;rw[hy];clear hy;have k1:=z1.sub;simp only[qFx,qAS,qAA];refine qAF (λhlt=>?_) (λhge=>?_)
 rotate_left
 ·have hge:i=R.length:=by have:=oF hge;omega
  subst hge;rw[List.take_length]at p2;exact ph3 hv (k1 _ _ hH0) (hL.sub k1) z1 p2 hkeys hRl λv' s' k h=>hK v' s' (k1.trans k) h
 have hlt:i<R.length:=by have:=oT hlt;omega
 obtain⟨r,hr⟩:∃r,R[i]?=some r:=⟨_,gEY hlt⟩
 obtain⟨pb,po,p,q,m,e1,e2,_,hrt⟩:=(hR.sub k1).get hr;have hrok:=hok r (mG hr);simp only[e1,e2,qAA];refine qAP λbR s2 hbR h2 u2=>qAZ h2 rfl rfl hrt.one λs3 h3 u3=>?_;have k3:Sub t1 s3:=qAa (u2.sub hbR) u3 hbR;have h3:s3 bR=some (false,.cells 81 (r.row p q m)):=h3;have kH:=k1.trans k3;refine qAJ (qAb (kH _ _ hH0) rfl) (qAJ (qAb h3 rfl) ?_);refine qYT ⟨v2,v3,v4,v5,v6,v7,rfl,hL.sub kH⟩ (hrt.sub k3) λs4 k4=>?_;have next:∀{tt:Hq}{ps2:Int->List Int}{tr2:Int->Bool},LT H tt M ls ps2 tr2->P2 F leaf (R.take (i+1)) ls ps2 tr2->qDC XX (.int .i64 (i:Int)) (λys t' m=>∃(i:Nat) (ps:Int->List Int) (tr:Int->Bool),ys=[.int .i64 (i:Int)]/\i<=R.length/\m=R.length-i/\LT H t' M ls ps tr/\P2 F leaf (R.take i) ls ps tr) (R.length-i) K tt:=fun {tt ps2 tr2} z2 p2=>by unfold qDC;simp only[qAV,qAA];rw[qAc (by omega) (by omega)];exact⟨_,by omega,i+1,ps2,tr2,rfl,by omega,rfl,z2,p2⟩
 simp only[qAX,qAA];refine qAF (λc=>?_) (λc=>?_)
 ·exact next (z1.to (k3.trans k4)) (p2.no hr (by simpa using c))
 ·have c:flB F leaf r=true:=by simpa using c
  have h4:=k4 _ _ h3;simp only[qAG,zA,Nat.reduceAdd,qAA,qAL h4,zAFN];refine qWz ((hrt.sub k3).cm.sub k4) (hG.sub (kH.trans k4)) (λc hc=>hrok.1 c hc) (by have:=hrok.2.2.2;omega) λvT s5 k5 hT=>?_;exact zAGx ((z1.to (k3.trans k4)).to k5) hr c p2 hT (Nat.le_trans qVM hrok.2.2.2) (k5 _ _ h4) λt' ps' tr' z' p'=>next z' p'
end Go.AM.FE
set_option maxRecDepth 100000
namespace Go.AM.FE
open Go Go.Proofs Go.AM.TN Go.AM.MU
variable {K:AV→Hq→Prop} {s s' H t:Hq} {v p q m:AV} {cs:List AV} {F:FG} {leaf:Int} {M b0:Nat} {R:List SG.Rt} {v2 v3 v4 v5 v6 v7:AV} {ls:List Ls} {t0:Bool}
theorem ph1(hv:Valid F)(hH0:H b0=some (t0,.cells 31 (csG F v2 v3 v4 v5 v6 v7)))(hL:FL H F v2 v3 v4 v5 v6 v7)(hR:SG.Rts H v R)(hG:SG.GlK H)(hok:∀r∈R,r.ok)(hRl:R.length<=60)(hN:∀x∈F.S,x.1.length<=20/\x.2.length<=20)(z:LT H t M [] (λ_=>[]) (λ_=>false))
  (hK:∀v' s',Sub H s'->FlA s' v' (fld F leaf R)->K v' s') :
  oK (qAC 5 (.ptr b0 0)) λv_13=>oK (rd1 t v_13) λv_14=>oK (qAQ v_14) λv_15=>∃I2:List AV->Hq->Nat->Prop,(∃m,I2 [(.int .i64 0)] t m)/\∀(f:Env) (s:Hq) (m2:Nat),I2 [f 47] s m2->
   qFo XX (.int .i64 leaf) v (.ptr b0 0) (.map M) v_14 (.int .i64 v_15) (f 47) I2 m2 K s:=by
 have hd:DomOk F:=hv 4 (by omega);have hsg:SegOk F:=hv 5 (by omega);have n5:qAQ v5=some F.S.length:=hL.S.len;have hS64:=hsg.n;simp only[qAG,zA,qAA,qAL (z.sub _ _ hH0),csG5,n5];refine⟨λys t' m=>∃(i:Nat) (ls:List Ls),ys=[.int .i64 (i:Int)]/\i<=F.S.length/\m=F.S.length-i/\LT H t' M ls (λ_=>[]) (λ_=>false)/\∀k,k∈ls.map (·.1)↔FD.keyB (F.S.take i) (tgtB F) leaf k,⟨_,0,[],rfl,by omega,rfl,z,λk=>by simp[FD.keyB]⟩,?_⟩;rintro f t1 m' ⟨i,ls,hy,hi,rfl,z1,hk⟩;simp only[cI,and_true]at hy;rw[hy];clear hy;have k1:=z1.sub;simp only[qFo,qAS,qAA];refine qAF (λhlt=>?_) (λhge=>?_)
 rotate_left
 ·have hge:i=F.S.length:=by have:=oF hge;omega
  subst hge;rw[List.take_length]at hk;exact ph2 hv hH0 hL hR hG hok hRl z1 hk hK
 have hlt:i<F.S.length:=by have:=oT hlt;omega
 obtain⟨x,hx⟩:∃x,F.S[i]?=some x:=⟨_,gEY hlt⟩
 have hxm:=mG hx;have hrow:=hsg.row x hxm;obtain⟨n1,n2⟩:=hN x hxm;obtain⟨pb,po,l1,l2,e1,e2,_,_,g1,g2⟩:=(hL.S.sub k1).at hx;simp only[e1,e2,qAA];have hone:qAg [l1,l2]=true:=by simp[g1.one,g2.one]
 refine qAP λb2 s2 hb2 h2 u2=>qAZ h2 rfl rfl hone λs3 h3 u3=>?_;have k3:Sub t1 s3:=qAa (u2.sub hb2) u3 hb2;have r1:rd1 s3 (.ptr b2 0)=some l1:=by rw[qAL h3];rfl
 have r2:rd1 s3 (.ptr b2 1)=some l2:=by rw[qAL h3];rfl
 simp only[qAG,zA,r1,qAA];refine qPd XX_0 (by omega) (g1.sub k3) ?_;have next:∀{tt:Hq}{ls2:List Ls},LT H tt M ls2 (λ_=>[]) (λ_=>false)->(∀k,k∈ls2.map (·.1)↔FD.keyB (F.S.take (i+1)) (tgtB F) leaf k)->qEM XX (.int .i64 (i:Int)) (λys t' m=>∃(i:Nat) (ls:List Ls),ys=[.int .i64 (i:Int)]/\i<=F.S.length/\m=F.S.length-i/\LT H t' M ls (λ_=>[]) (λ_=>false)/\∀k,k∈ls.map (·.1)↔FD.keyB (F.S.take i) (tgtB F) leaf k) (F.S.length-i) K tt:=fun {tt ls2} z2 h2=>by unfold qEM;simp only[qAV,qAA];rw[qAc (by omega) (by omega)];exact⟨_,by omega,i+1,ls2,rfl,by omega,rfl,z2,h2⟩
 refine qAF (λc=>?_) (λc=>?_)
 rotate_left
 ·have c:leaf ∉ x.1:=oF c
  exact next (z1.to k3) λk=>(hk k).trans ((qTW hx).trans ⟨λg=>g.elim id λg=>absurd g.1 c,.inl⟩).symm
 have c:leaf∈x.1:=oT c;have nl:qAQ l2=some x.2.length:=by rw[g2.len,qCR]
 simp only[r2,qAA,nl];have z3:=z1.to k3;have hsl:=z3.slice (g2.sub k3);refine⟨λys t' m=>∃(j:Nat) (ls2:List Ls),ys=[.int .i64 (j:Int)]/\j<=x.2.length/\m=x.2.length-j/\LT H t' M ls2 (λ_=>[]) (λ_=>false)/\Sl t' l2 (ix x.2)/\∀k,k∈ls2.map (·.1)↔FD.keyB (F.S.take i) (tgtB F) leaf k∨∃bd∈x.2.take j,tgtB F bd=k,⟨_,0,ls,rfl,by omega,rfl,z3,g2.sub k3,λk=>(hk k).trans ⟨.inl,λg=>g.elim id λ⟨bd,h,_⟩=>by simp at h⟩⟩,?_⟩;rintro f4 t4 m4 ⟨j,ls2,hy,hj,rfl,z4,sl4,hk4⟩;simp only[cI,and_true]at hy;rw[hy];clear hy;simp only[qIW,qAS,qAA];refine qAF (λhlt4=>?_) (λhge4=>?_)
 rotate_left
 ·have hge4:j=x.2.length:=by have:=oF hge4;omega
  subst hge4;rw[List.take_length]at hk4;exact next z4 λk=>(hk4 k).trans ((qTW hx).trans ⟨λg=>g.elim .inl λg=>.inr g.2,λg=>g.elim .inl λg=>.inr ⟨c,g⟩⟩).symm
 have hlt4:j<x.2.length:=by have:=oT hlt4;omega
 obtain⟨bd,hbd⟩:∃bd,x.2[j]?=some bd:=⟨_,gEY hlt4⟩
 have hbr:=hrow.2.1.2 bd (mG hbd);obtain⟨a,c1,c2⟩:=sl4.get (i:=j) (by rw[qCR];exact hlt4);rw[ix,List.getElem?_map,hbd]at c2;obtain⟨n,rfl⟩:∃n:Nat,bd=(n:Int):=⟨bd.toNat,by omega⟩
 have hn:n<F.B.length:=by omega
 obtain⟨y,hyB⟩:∃y,F.B[n]?=some y:=⟨_,gEY hn⟩
 obtain⟨pb4,po4,d1,_,d3⟩:=(hL.B.sub z4.sub).get (i:=n) (r:=bgC y) (by rw[List.getElem?_map,hyB];rfl);have d4:rd1 t4 (.ptr pb4 (po4+2))=some (.int .u32 (tgtB F (n:Int))):=by rw[d3 2 (by omega),qTN hyB];rfl
 simp only[c1,c2,Option.map_some,qAG,zA,qAA,qAL (z4.sub _ _ hH0),csG4,d1,d4];have slH:Sl (offL t4 M ls2) l2 (ix x.2):=z4.slice sl4;refine qXM (z4.re) λs6 ls3 z6 h6=>?_;simp only[qAV,qAA];rw[qAc (by omega) (by omega)];refine⟨_,by omega,j+1,ls3,rfl,by omega,rfl,z6.base z4.old,slH.sub z6.sub,λk=>(h6 k).trans ?_⟩;rw[hk4 k,List.take_add_one,hbd];constructor
 ·rintro (g|g|⟨b,g1,g2⟩)
  ·exact .inr ⟨(n:Int),List.mem_append_right _ (by simp),g.symm⟩
  ·exact .inl g
  ·exact .inr ⟨b,List.mem_append_left _ g1,g2⟩
 ·rintro (g|⟨b,g1,g2⟩)
  ·exact .inr (.inl g)
  ·rcases mP g1 with g1|g1
   ·exact .inr (.inr ⟨b,g1,g2⟩)
   ·have:b=(n:Int):=by simpa using g1
    subst this;exact .inl g2.symm
def Fv(F:FG)(leaf:Int):Prop:=Valid F/\0<=leaf/\leaf<F.lf
theorem zABM(z:Sz F)(hN:∀x∈F.S,x.1.length<=20/\x.2.length<=20)(hF:FabR s cs F)(hR:SG.Rts s v R)(hG:SG.GlK s)(hok:∀r∈R,r.ok)(hRl:R.length<=60)(h0:¬Fv F leaf->∀s',Sub s s'->K .nilslc s')(hK:Fv F leaf->∀v' s',Sub s s'->FlA s' v' (fld F leaf R)->K v' s'):wC TP XX 12 [.agg cs,.int .i64 leaf,v] K s:=by
 obtain⟨v2,v3,v4,v5,v6,v7,rfl,hL⟩:=hF;refine qM0 ⟨hL.all,qAP λb0 s1 hb0 q1 u1=>?_⟩;have q1:s1 b0=some (false,.cells 31 (csG F v2 v3 v4 v5 v6 v7)):=q1;have k1:=u1.sub hb0;refine qAJ (qAb q1 rfl) (zAA9 z ⟨v2,v3,v4,v5,v6,v7,rfl,hL.sub k1⟩ (λhv s4 k4=>?_) (λhv e p i s4 he k4=>?_))
 rotate_left
 ·refine qAJ (a:=.int .i64 e) rfl (qAJ (a:=.str p) rfl (qAJ (a:=.int .i64 i) rfl ?_))
  have:(e == 0)=false:=by simpa using he
  simp only[qAY,this,qAU,Bool.true_bne,Bool.not_false,qAA,qAI,qDA,qAN,qCO];exact h0 (λq=>hv q.1) s4 (k1.trans k4)
 refine qAJ (a:=.int .i64 0) rfl (qAJ (a:=.str ⟨#[]⟩) rfl (qAJ (a:=.int .i64 0) rfl ?_));have k14:=k1.trans k4;have q4:=k4 _ _ q1;simp only[qAY,beq_self_eq_true,qAU,Bool.true_bne,Bool.not_true,qAA,qAD,qAS];cases c1:decide (leaf<0)with
 | true=>
   simp only[qDA,qCO,qAN,qAH,qAI,qAA];exact h0 (λq=>by have:=oT c1;have:=q.2.1;omega) s4 k14
 |false=>
 simp only[qDA,qAH,qAD,qAA,qAG,zA,qAL q4,csG0,qAy];cases c2:decide (F.lf<=leaf)with
 | true=>
   simp only[qCO,qAH,qAI,qAA];exact h0 (λq=>by have:=oT c2;have:=q.2.2;omega) s4 k14
 |false=>
 have hfv:Fv F leaf:=⟨hv,by have:=oF c1;omega,by have:=oF c2;omega⟩
 simp only[qCO,qAH,qAD,qAA];intro M hM;have kM:Sub s4 (hset s4 M (false,.map [] 0)):=qIG hM;have hMM:hset s4 M (false,.map [] 0) M=some (false,.map [] 0):=qBh;generalize hset s4 M (false,.map [] 0)=s5 at kM hMM;have z0:LT s4 s5 M [] (λ_=>[]) (λ_=>false):=⟨hMM,.nil,λe h=>(by cases h),λe h=>(by cases h),λe h=>(by cases h),λe h=>(by cases h),λe h=>(by cases h),kM,hM,λe h=>(by cases h),λe h=>(by cases h),λ_=>.nil⟩
 exact ph1 hv q4 (hL.sub k14) (hR.sub k14) (hG.sub k14) hok hRl hN z0 λv' s' k h=>hK hfv v' s' (k14.trans k) h
end Go.AM.FE
set_option maxRecDepth 100000
namespace Go.AM.FC
open Go Go.Proofs Go.AM.TN
variable {v:AV} {bd g:Int}
def lb(n:Int):Int:=if n<0∨32<=n then 0 else IntKind.u32.wrap (IntKind.u32.wrap (184483840+qBF .u32 n)+1)
def flC(bd:Int)(v:AV)(g:Int):List AV:=[.int .i64 bd,v,.int .u32 g]
end Go.AM.FC
set_option maxRecDepth 100000
namespace Go.AM.FC
open Go Go.Proofs Go.AM.TN
end Go.AM.FC
set_option maxRecDepth 100000
namespace Go.AM.FC
open Go Go.Proofs Go.AM.TN
variable {K:AV→Hq→Prop} {s s':Hq} {cs:List AV} {F:FG} {v2 v3 v4 v5 v6 v7:AV}
theorem r28valid_in(z:Sz F)(hF:FabR s cs F)(hK:∀b s',Sub s s'->(b=true↔Valid F)->K (.bool b) s'):wC TP XX 37 [.agg cs] K s:=by obtain⟨v2,v3,v4,v5,v6,v7,rfl,hL⟩:=hF;refine qID ⟨hL.all,qAP λb s1 hb h1 u1=>?_⟩;have h1:s1 b=some (false,.cells 31 (csG F v2 v3 v4 v5 v6 v7)):=h1;have k1:=u1.sub hb;refine qAJ (qAb h1 rfl) (qTo z ⟨v2,v3,v4,v5,v6,v7,rfl,hL.sub k1⟩ λe p j s4 k4 he=>?_);refine qAJ (a:=.int .i64 e) rfl (qAJ (a:=p) rfl (qAJ (a:=.int .i64 j) rfl ?_));simp only[qAY,qAU,Bool.false_bne,qAA];exact hK _ s4 (k1.trans k4) (by rw[beq_iff_eq];exact he)
end Go.AM.FC
set_option maxRecDepth 100000
namespace Go.AM.FE
open Go Go.Proofs Go.AM.TN Go.AM.MU
variable {K:AV→Hq→Prop} {s s' t:Hq} {v m:AV} {cs:List AV} {F:FG} {leaf:Int} {v2 v3 v4 v5 v6 v7:AV} {l:List Int}
theorem qSW{n:Int}(h:Sl s v (ix l))(hl:l.length<=4294967296)(hK:K (.bool (decide (n∈l))) s):wC TP XX 38 [v,.int .i64 n] K s:=by
 refine qJL ?_;unfold qGl;have nl:qAQ v=some l.length:=by rw[h.len,qCR]
 refine⟨λys t m=>∃i:Nat,ys=[.int .i64 (i:Int)]/\t=s/\i<=l.length/\m=l.length-i/\n ∉ l.take i,⟨_,0,rfl,rfl,by omega,rfl,by simp⟩,?_⟩;rintro f t m ⟨i,hy,rfl,hi,rfl,hno⟩;simp only[cI,and_true]at hy;rw[hy];simp only[qFP,nl,qAS,qAA];refine qAF (λhlt=>?_) (λhge=>?_)
 ·have hlt:i<l.length:=by have:=oT hlt;omega
  obtain⟨a,e1,e2⟩:=h.get (i:=i) (by rw[qCR];exact hlt);rw[qJk hlt]at e2;simp only[e1,e2,qAA,qAY,qAU,Bool.false_bne];cases c:(l[i] == n)with
  | true=>
    rw[decide_eq_true (show n∈l by rw[<- eq_of_beq c];exact List.getElem_mem hlt)]at hK;exact hK
  | false=>
    have c:l[i]≠n:=by simpa using c
    simp only[qAD,qAV,qAA];rw[qAc (by omega) (by omega)];refine⟨_,by omega,i+1,rfl,(by trivial),by omega,rfl,λh=>?_⟩;rw[List.take_add_one,gEY hlt]at h;rcases mP h with h|h
    ·exact hno h
    ·have h:n=l[i]:=by simpa using h
     exact c h.symm
 ·have hge:i=l.length:=by have:=oF hge;omega
  subst hge;rw[List.take_length]at hno;rw[decide_eq_false hno]at hK;exact hK
def atN(F:FG)(n:Int)(k:Nat):List Nat:=(List.range k).filter λi=>match F.S[i]? with
 |some x=>decide (n∈x.1)
 |none=>false
abbrev nats(l:List Nat):List Int:=l.map λ(i:Nat)=>(i:Int)
theorem qVp{n:Int}{k:Nat}{x:List Int×List Int}(hx:F.S[k]?=some x):atN F n (k+1)=atN F n k++(if n∈x.1 then[k]else[]):=by
 unfold atN;rw[List.range_succ,List.filter_append]
 congr 1
 simp only[List.filter_cons,List.filter_nil,hx,decide_eq_true_eq]
theorem qYS{n:Int}{k:Nat}:(atN F n k).length<=k:=by
 have:=List.length_filter_le (λi=>match F.S[i]? with
  |some x=>decide (n∈x.1)
  |none=>false) (List.range k)
 rw[List.length_range]at this;exact this
theorem zADl{n:Int}{k i:Nat}:i∈atN F n k↔i<k/\∃x,F.S[i]?=some x/\n∈x.1:=by
 unfold atN;rw[List.mem_filter,List.mem_range];refine and_congr_right λ_=>?_;cases h:F.S[i]? with
 |none=>simp
 |some x=>simp
theorem qOM{elem:TypeId}{k:IntKind}{w:AV}{L:List Int}{x:Int}{z:AV}{C:AV->Hq->Prop}(hz:z.one=true)(acc:Acc elem s t w (L.map (AV.int k)))(ks:Sub s t)(hl:L.length<=100000)(hC:∀v' s',Acc elem s s' v' ((L ++ [x]).map (AV.int k))->Sub s s'->C v' s'):
  oK (qCJ (repl 1 [z]) [(0,1,.int k x)]) λc=>qAg c=true/\newK elem c (λb s'=>appK elem 1 w (.slc b 0 1 (some 1) 1) C s') t:=by
 refine qKB hz rfl λb s1 hb h1 u1=>?_;have k1:=ks.trans (u1.sub hb);refine(FC.Acc_sub acc (u1.sub hb)).app (m:=[.int k x]) (Sl.mk h1 rfl (by simp)) (by simp) (by simp;omega) (λi hi=>?_) λv' s' a kq=>?_
 ·cases e:s i with
  |none=>exact absurd e hi
  |some y=>rw[k1 _ _ e];simp
 ·refine hC v' s' (by rw[List.map_append];exact a) λi e hi=>kq i e (k1 i e hi) λb' hv=>?_
  rintro rfl;rcases acc with⟨rfl,_⟩|⟨b2,h0,rfl,_⟩
  ·cases hv
  ·cases hv
   rw[h0]at hi;cases hi
theorem zAHd{n:Int}(z:Sz F)(hv:Valid F)(hF:FabR s cs F)(hN:∀x∈F.S,x.1.length<=20/\x.2.length<=20)(hK:∀v' s',Sub s s'->Sl s' v' (ix (nats (atN F n F.S.length)))->K v' s'):wC TP XX 72 [.agg cs,.int .i64 n] K s:=by
 obtain⟨v2,v3,v4,v5,v6,v7,rfl,hL⟩:=hF;refine zABj ⟨hL.all,qAP λb s1 hb q1 u1=>?_⟩;have q1:s1 b=some (false,.cells 31 (csG F v2 v3 v4 v5 v6 v7)):=q1;have k1:=u1.sub hb;have hsg:SegOk F:=hv 5 (by omega);have hS64:=hsg.n;refine qAJ (qAb q1 rfl) (FW.qVa z ⟨v2,v3,v4,v5,v6,v7,rfl,hL.sub k1⟩ λb4 s4 k4 hb4=>?_);rw[hb4.2 hv];have k14:=k1.trans k4;have q4:=k4 _ _ q1;have n5:qAQ v5=some F.S.length:=hL.S.len;simp only[qAX,Bool.not_true,qAD,qAA];refine⟨λys t m=>∃(i:Nat) (w:AV),ys=[w,.int .i64 (i:Int)]/\i<=F.S.length/\m=F.S.length-i/\Sub s4 t/\Acc 3 s4 t w (ix (nats (atN F n i))),⟨_,0,_,rfl,by omega,rfl,.refl _,.inl ⟨rfl,rfl⟩⟩,?_⟩;rintro f t m ⟨i,w,hy,hi,rfl,kt,acc⟩;simp only[cI,and_true]at hy;rw[hy.1,hy.2];clear hy;simp only[qVl,qAG,zA,qAA,qAL (kt _ _ q4),csG5,n5,qAS];refine qAF (λhlt=>?_) (λhge=>?_)
 rotate_left
 ·have hge:i=F.S.length:=by have:=oF hge;omega
  subst hge;exact hK _ _ (k14.trans kt) acc.sl
 have hlt:i<F.S.length:=by have:=oT hlt;omega
 obtain⟨x,hx⟩:∃x,F.S[i]?=some x:=⟨_,gEY hlt⟩
 obtain⟨n1,n2⟩:=hN x (mG hx);obtain⟨pb,po,l1,l2,e1,_,e3,_,g1,_⟩:=((hL.S.sub k14).sub kt).at hx;simp only[qAG,Nat.add_zero,qAA,e1,e3];have next:∀{tt:Hq}{w':AV},Sub s4 tt->Acc 3 s4 tt w' (ix (nats (atN F n (i+1))))->qN8 XX w' (.int .i64 (i:Int)) (λys t m=>∃(i:Nat) (w:AV),ys=[w,.int .i64 (i:Int)]/\i<=F.S.length/\m=F.S.length-i/\Sub s4 t/\Acc 3 s4 t w (ix (nats (atN F n i)))) (F.S.length-i) K tt:=fun {tt w'} kk a=>by unfold qN8;simp only[qAV,qAA];rw[qAc (by omega) (by omega)];exact⟨_,by omega,i+1,w',rfl,by omega,rfl,kk,a⟩
 refine qUH g1 (by omega) ?_;refine qAF (λc=>?_) (λc=>?_)
 ·have c:n∈x.1:=oT c
  have hl:=qYS (F:=F) (n:=n) (k:=i);refine qOM rfl acc kt (by simp[nats];omega) λv' s' a kq=>next kq ?_;rw[qVp hx,if_pos c];unfold ix nats at a ⊢;rw[List.map_append];exact a
 ·have c:n ∉ x.1:=oF c
  refine next kt ?_;rw[qVp hx,if_neg c,List.append_nil];exact acc
def crN(F:FG)(bd:Int)(k:Nat):List Nat:=(List.range k).filter λi=>FD.carB F.S (i:Int) bd
theorem qVg{bd:Int}{k:Nat}:crN F bd (k+1)=crN F bd k++(if FD.carB F.S (k:Int) bd=true then[k]else[]):=by
 unfold crN;rw[List.range_succ,List.filter_append]
 congr 1
 simp only[List.filter_cons,List.filter_nil]
theorem zAAR{bd:Int}{k:Nat}:(crN F bd k).length<=k:=by have:=List.length_filter_le (λi:Nat=>FD.carB F.S (i:Int) bd) (List.range k);rw[List.length_range]at this;exact this
theorem qVZ{bd:Int}(z:Sz F)(hv:Valid F)(hF:FabR s cs F)(hN:∀x∈F.S,x.1.length<=20/\x.2.length<=20)(hK:∀v' s',Sub s s'->Sl s' v' (ix (nats (crN F bd F.lf.toNat)))->K v' s'):wC TP XX 39 [.agg cs,.int .i64 bd] K s:=by
 obtain⟨v2,v3,v4,v5,v6,v7,rfl,hL⟩:=hF;refine qGp ⟨hL.all,qAP λb s1 hb q1 u1=>?_⟩;have q1:s1 b=some (false,.cells 31 (csG F v2 v3 v4 v5 v6 v7)):=q1;have k1:=u1.sub hb;have hsg:SegOk F:=hv 5 (by omega);have hfa:FabOk F:=hv 0 (by omega);have hlf:=hfa.lf;have hS64:=hsg.n;refine qAJ (qAb q1 rfl) (FC.r28valid_in z ⟨v2,v3,v4,v5,v6,v7,rfl,hL.sub k1⟩ λb4 s4 k4 hb4=>?_);rw[hb4.2 hv];have k14:=k1.trans k4;have q4:=k4 _ _ q1;simp only[qAX,Bool.not_true,qAD,qAA];refine⟨λys t m=>∃(n:Nat) (w:AV),ys=[w,.int .i64 (n:Int)]/\n<=F.lf.toNat/\m=F.lf.toNat-n/\Sub s4 t/\Acc 3 s4 t w (ix (nats (crN F bd n))),⟨_,0,_,rfl,by omega,rfl,.refl _,.inl ⟨rfl,rfl⟩⟩,?_⟩;rintro f t m ⟨n,w,hy,hn,rfl,kt,acc⟩;simp only[cI,and_true]at hy;rw[hy.1,hy.2];clear hy;simp only[qDs,qAG,zA,qAA,qAL (kt _ _ q4),csG0,qAS];refine qAF (λhlt=>?_) (λhge=>?_)
 rotate_left
 ·have hge:n=F.lf.toNat:=by have:=oF hge;omega
  subst hge;exact hK _ _ (k14.trans kt) acc.sl
 have hlt:n<F.lf.toNat:=by have:=oT hlt;omega
 have next:∀{tt:Hq}{w':AV},Sub s4 tt->Acc 3 s4 tt w' (ix (nats (crN F bd (n+1))))->qBc XX w' (.int .i64 (n:Int)) (λys t m=>∃(n:Nat) (w:AV),ys=[w,.int .i64 (n:Int)]/\n<=F.lf.toNat/\m=F.lf.toNat-n/\Sub s4 t/\Acc 3 s4 t w (ix (nats (crN F bd n)))) (F.lf.toNat-n) K tt:=fun {tt w'} kk a=>by unfold qBc;simp only[qAV,qAA];rw[qAc (by omega) (by omega)];exact⟨_,by omega,n+1,w',rfl,by omega,rfl,kk,a⟩
 refine qAJ (qAb (kt _ _ q4) rfl) (zAHd z hv ⟨v2,v3,v4,v5,v6,v7,rfl,(hL.sub k14).sub kt⟩ hN λvA s6 k6 hA=>?_);have k46:=kt.trans k6;have acc6:=FC.Acc_sub acc k6;have hAl:=qYS (F:=F) (n:=(n:Int)) (k:=F.S.length);have hAm:∀i,i∈atN F (n:Int) F.S.length↔i<F.S.length/\∃x,F.S[i]?=some x/\(n:Int)∈x.1:=λi=>zADl;generalize atN F (n:Int) F.S.length=A at hA hAl hAm;have nA:qAQ vA=some A.length:=by rw[hA.len,qCR];simp[nats]
 refine⟨λys t m=>∃j:Nat,ys=[.bool (decide (∃i∈A.take j,∃x,F.S[i]?=some x/\bd∈x.2)),.int .i64 (j:Int)]/\t=s6/\j<=A.length/\m=A.length-j,⟨_,0,by simp,rfl,by omega,rfl⟩,?_⟩;rintro f2 t2 m2 ⟨j,hy,rfl,hj,rfl⟩;simp only[cI,and_true]at hy;rw[hy.1,hy.2];clear hy;simp only[qDy,nA,qAS,qAA];refine qAF (λhlt2=>?_) (λhge2=>?_)
 ·have hlt2:j<A.length:=by have:=oT hlt2;omega
  obtain⟨i,hi⟩:∃i,A[j]?=some i:=⟨_,gEY hlt2⟩
  obtain⟨hiS,x,hx,hxn⟩:=(hAm i).1 (mG hi);have step:(∃i∈A.take (j+1),∃x,F.S[i]?=some x/\bd∈x.2)↔(∃i∈A.take j,∃x,F.S[i]?=some x/\bd∈x.2)∨bd∈x.2:=by
   rw[List.take_add_one,hi];constructor
   ·rintro ⟨i',h1,y,h2,h3⟩
    rcases mP h1 with h1|h1
    ·exact .inl ⟨i',h1,y,h2,h3⟩
    ·have:i'=i:=by simpa using h1
     subst this;rw[hx]at h2;cases h2;exact .inr h3
   ·rintro (⟨i',h1,h2⟩|h)
    ·exact⟨i',List.mem_append_left _ h1,h2⟩
    ·exact⟨i,List.mem_append_right _ (by simp),x,hx,h⟩
  refine qAF (λc=>?_) (λc=>?_)
  ·simp only[qBd,c,qAN,qAA,qAV]
   rw[qAc (by omega) (by omega)];refine⟨_,by omega,j+1,?_,(by trivial),by omega,rfl⟩;rw[decide_eq_true (step.2 (.inl (oT c)))];rfl
  ·obtain⟨a,e1,e2⟩:=hA.get (i:=j) (by rw[qCR];simp[nats];exact hlt2)
   have e2:rd1 t2 a=some (.int .i64 (i:Int)):=by rw[e2];simp[ix,nats,hi]
   obtain⟨pb,po,l1,l2,d1,_,_,d4,_,g2⟩:=((hL.S.sub k14).sub k46).at hx;obtain⟨n1,n2⟩:=hN x (mG hx);simp only[qAG,zA,qAA,qAL (k46 _ _ q4),csG5,e1,e2,d1,d4];refine qSW g2 (by omega) ?_;simp only[qBd,c,qAH,qAA,qAV];rw[qAc (by omega) (by omega)];refine⟨_,by omega,j+1,?_,(by trivial),by omega,rfl⟩;have hno:=oF c;rw[decide_eq_decide.2 (show bd∈x.2↔_ from⟨λh=>step.2 (.inr h),λh=>(step.1 h).elim (λh=>absurd h hno) id⟩)];rfl
 ·have hge2:j=A.length:=by have:=oF hge2;omega
  subst hge2;rw[List.take_length];have hcar:(∃i∈A,∃x,F.S[i]?=some x/\bd∈x.2)↔FD.carB F.S (n:Int) bd=true:=by
   rw[FD.carB_iff];constructor
   ·rintro ⟨i,h1,x,h2,h3⟩
    obtain⟨_,y,h4,h5⟩:=(hAm i).1 h1;rw[h2]at h4;cases h4;exact⟨x,mG h2,h5,h3⟩
   ·rintro ⟨x,h1,h2,h3⟩
    obtain⟨i,hi⟩:=List.mem_iff_getElem?.1 h1;exact⟨i,(hAm i).2 ⟨(gS hi).1,x,hi,h2⟩,x,hi,h3⟩
  refine qAF (λc=>?_) (λc=>?_)
  ·have c:=hcar.1 (oT c)
   have hl:=zAAR (F:=F) (bd:=bd) (k:=n);refine qOM rfl acc6 k46 (by simp[nats];omega) λv' s' a kq=>next kq ?_;rw[qVg,if_pos c];unfold ix nats at a ⊢;rw[List.map_append];exact a
  ·have c:¬FD.carB F.S (n:Int) bd=true:=λh=>oF c (hcar.2 h)
   refine next k46 ?_;rw[qVg,if_neg c,List.append_nil];exact acc6
theorem qYO(hv:Valid F){bd:Int}:leaf∈nats (crN F bd F.lf.toNat)↔FD.carB F.S leaf bd=true:=by
 have hsg:SegOk F:=hv 5 (by omega);constructor
 ·intro h
  obtain⟨i,hi,rfl⟩:=List.mem_map.1 h;unfold crN at hi;exact(List.mem_filter.1 hi).2
 ·intro h
  obtain⟨x,hx,h1,h2⟩:=FD.carB_iff.1 h;obtain⟨g1,g2⟩:=(hsg.row x hx).2.1.1 leaf h1;refine List.mem_map.2 ⟨leaf.toNat,?_,by omega⟩;unfold crN;refine List.mem_filter.2 ⟨List.mem_range.2 (by omega),?_⟩;rw[show((leaf.toNat:Nat):Int)=leaf by omega];exact h
end Go.AM.FE
set_option maxRecDepth 100000
namespace Go.AM.FE
open Go Go.Proofs Go.AM.TN Go.AM.MU
variable {K:AV→Hq→Prop} {s s' t:Hq} {v p q m:AV} {cs:List AV} {F:FG} {v2 v3 v4 v5 v6 v7:AV} {l:List Int}
abbrev usl(l:List Int):List AV:=l.map (AV.int .u32)
def InsI(x:Int)(l:List Int)(i:Nat)(d:Bool)(L:List Int):Prop:=
 (d=false/\(∀(j:Nat) (_:j<l.length),j<i->l[j]<x)/\L=l.take i)∨
 (d=true/\∃k,k<i/\(∃h:k<l.length,x<l[k])/\(∀(j:Nat) (_:j<l.length),j<k->l[j]<x)/\L=l.take k++x::(l.take i).drop k)
theorem InsI.len{x:Int}{i:Nat}{d:Bool}{L:List Int}(h:InsI x l i d L)(hi:i<=l.length):L.length<=i+1:=by
 rcases h with⟨_,_,rfl⟩|⟨_,k,h1,_,_,rfl⟩
 ·rw[List.length_take];omega
 ·rw[lAp,List.length_cons,List.length_take,List.length_drop,List.length_take];omega
theorem InsI.put{x:Int}{i:Nat}{L:List Int}(h:InsI x l i true L)(hi:i<l.length):InsI x l (i+1) true (L ++ [l[i]]):=by
 rcases h with⟨q,_⟩|⟨_,k,h1,h2,h3,rfl⟩
 ·cases q
 ·refine .inr ⟨rfl,k,by omega,h2,h3,?_⟩
  rw[List.append_assoc,List.cons_append,List.take_add_one,gEY hi,List.drop_append_of_le_length (by rw[List.length_take];omega)];rfl
theorem InsI.low{x:Int}{i:Nat}{L:List Int}(h:InsI x l i false L)(hi:i<l.length)(hx:l[i]<x):InsI x l (i+1) false (L ++ [l[i]]):=by
 rcases h with⟨_,h1,rfl⟩|⟨q,_⟩
 ·refine .inl ⟨rfl,λj hj hji=>?_,?_⟩
  ·by_cases e:j=i
   ·subst e;exact hx
   ·exact h1 j hj (by omega)
  ·rw[List.take_add_one,gEY hi];rfl
 ·cases q
theorem InsI.ins{x:Int}{i:Nat}{L:List Int}(h:InsI x l i false L)(hi:i<l.length)(hx:x<l[i]):InsI x l (i+1) true ((L ++ [x]) ++ [l[i]]):=by
 rcases h with⟨_,h1,rfl⟩|⟨q,_⟩
 ·refine .inr ⟨rfl,i,by omega,⟨hi,hx⟩,h1,?_⟩
  rw[List.append_assoc,List.take_add_one (i:=i),gEY hi,List.drop_append_of_le_length (by rw[List.length_take];omega)];rw[List.drop_eq_nil_of_le (by rw[List.length_take];omega)];rfl
 ·cases q
theorem InsI.fin0{x:Int}{L:List Int}(h:InsI x l l.length false L):FD.insL x l=L ++ [x]:=by
 rcases h with⟨_,h1,rfl⟩|⟨q,_⟩
 ·rw[FD.insL_at (k:=l.length) (Nat.le_refl _) h1 (λh=>absurd h (Nat.lt_irrefl _)),List.drop_length]
 ·cases q
theorem InsI.fin1{x:Int}{L:List Int}(h:InsI x l l.length true L):FD.insL x l=L:=by
 rcases h with⟨q,_⟩|⟨_,k,h1,⟨h2,h2'⟩,h3,rfl⟩
 ·cases q
 ·rw[FD.insL_at (k:=k) (by omega) h3 (λ_=>h2'),List.take_length]
theorem InsI.same{x:Int}{i:Nat}{d:Bool}{L:List Int}(h:InsI x l i d L)(asc:l.Pairwise (· < ·))(hi:i<l.length)(hx:l[i]=x):FD.insL x l=l:=by
 rcases h with⟨_,h1,_⟩|⟨_,k,h1,⟨h2,h2'⟩,_,_⟩
 ·exact FD.insL_eq hi h1 hx
 ·have:=List.pairwise_iff_getElem.1 asc k i h2 hi h1
  omega
theorem qYy{x:Int}(h:Sl s v (usl l))(asc:l.Pairwise (· < ·))(hl:l.length<=1000)(hK:∀v' s',Sub s s'->Sl s' v' (usl (FD.insL x l))->((v'=v/\FD.insL x l=l)∨∀b o n c,v'=.slc b o n c 1->s b=none)->K v' s'):wC TP XX 41 [v,.int .u32 x] K s:=by
 refine qHf ?_;unfold qFY;have nl:qAQ v=some l.length:=by rw[h.len,lMY]
 refine⟨λys t m=>∃(i:Nat) (w:AV) (d:Bool) (L:List Int),ys=[w,.bool d,.int .i64 (i:Int)]/\i<=l.length/\m=l.length-i/\Sub s t/\Acc 42 s t w (usl L)/\InsI x l i d L,⟨_,0,_,false,[],rfl,by omega,rfl,.refl _,.inl ⟨rfl,rfl⟩,.inl ⟨rfl,λj _ h=>by omega,rfl⟩⟩,?_⟩;rintro f t m ⟨i,w,d,L,hy,hi,rfl,kt,acc,hI⟩;simp only[cI,and_true]at hy;rw[hy.1,hy.2.1,hy.2.2];clear hy;have fin:∀{w':AV}{tt:Hq}{M:List Int},Sub s tt->Acc 42 s tt w' (usl M)->FD.insL x l=M->K w' tt:=fun {w' tt M} kk a e=>by
  refine hK w' tt kk (by rw[e];exact a.sl) (.inr λb o n c q=>?_);rcases a with⟨rfl,_⟩|⟨b',h0,rfl,_⟩
  ·cases q
  ·cases q;exact h0
 have hLl:=hI.len hi;simp only[qET,nl,qAS,qAA];refine qAF (λhlt=>?_) (λhge=>?_)
 rotate_left
 ·have hge:i=l.length:=by have:=oF hge;omega
  subst hge;simp only[qAX,qAA];cases d with
  | false=>
    simp only[Bool.not_false,qAI];exact qOM rfl acc kt (by omega) λv' s' a k=>fin k a hI.fin0
  | true=>
    simp only[Bool.not_true,qAD];exact fin kt acc hI.fin1
 have hlt:i<l.length:=by have:=oT hlt;omega
 have rd:∀{tt:Hq},Sub s tt->∃a,qAM 1 v (.int .i64 (i:Int))=some a/\rd1 tt a=some (.int .u32 l[i]):=fun {tt} kk=>by obtain⟨a,e1,e2⟩:=(h.sub kk).get (i:=i) (by rw[lMY];exact hlt);rw[List.getElem?_map,gEY hlt]at e2;exact⟨a,e1,e2⟩
 have j2:∀{tt:Hq}{w':AV}{d':Bool}{M:List Int},Sub s tt->Acc 42 s tt w' (usl M)->M.length<=2000->InsI x l (i+1) d' (M ++ [l[i]])->qBp XX v w' (.bool d') (.int .i64 (i:Int)) (λys t m=>∃(i:Nat) (w:AV) (d:Bool) (L:List Int),ys=[w,.bool d,.int .i64 (i:Int)]/\i<=l.length/\m=l.length-i/\Sub s t/\Acc 42 s t w (usl L)/\InsI x l i d L) (l.length-i) K tt:=fun {tt w' d' M} kk a hM hi'=>by obtain⟨p,e1,e2⟩:=rd kk;simp only[qBp,e1,e2,qAA];refine qOM rfl a kk (by omega) λv' s' a' k'=>?_;simp only[qAV,qAA];rw[qAc (by omega) (by omega)];exact⟨_,by omega,i+1,v',d',M ++ [l[i]],rfl,by omega,rfl,k',a',hi'⟩
 obtain⟨p,e1,e2⟩:=rd kt;simp only[e1,e2,qAA,qAY,qAU,Bool.false_bne];cases c:(l[i] == x)with
 | true=>
   have c:l[i]=x:=eq_of_beq c;simp only[qAI];exact hK v t kt (by rw[hI.same asc hlt c];exact h.sub kt) (.inl ⟨rfl,hI.same asc hlt c⟩)
 |false=>
 have c:l[i]≠x:=by simpa using c
 simp only[qAD,qAp,qAA];refine qAF (λg=>?_) (λg=>?_)
 ·have g':x<l[i]:=oT g
  rw[g];simp only[qAX,qAA,qBq,qAN];cases d with
  | false=>
    simp only[Bool.not_false,qAI];exact qOM rfl acc kt (by omega) λv' s' a k=>j2 k a (by rw[lAp,List.length_singleton];omega) (hI.ins hlt g')
  | true=>
    simp only[Bool.not_true,qAD];exact j2 kt acc (by omega) (hI.put hlt)
 ·rw[g]
  simp only[qAA,qBq,qAH,qAD];have g':l[i]<x:=by have:=oF g;omega
  cases d with
  |false=>exact j2 kt acc (by omega) (hI.low hlt g')
  |true=>exact j2 kt acc (by omega) (hI.put hlt)
theorem zACQ{i:Nat}(z:Sz F)(hv:Valid F)(hF:FabR s cs F)(hi:i<F.B.length)(h32:i<32)(hK:∀s',Sub s s'->K (.int .u32 (4009754625+(i:Int))) s'):wC TP XX 42 [.agg cs,.int .i64 (i:Int)] K s:=by
 obtain⟨v2,v3,v4,v5,v6,v7,rfl,hL⟩:=hF;refine qIM ⟨hL.all,qAP λb s1 hb q1 u1=>?_⟩;have q1:s1 b=some (false,.cells 31 (csG F v2 v3 v4 v5 v6 v7)):=q1;have k1:=u1.sub hb;refine qAJ (qAb q1 rfl) (FC.r28valid_in z ⟨v2,v3,v4,v5,v6,v7,rfl,hL.sub k1⟩ λb4 s4 k4 hb4=>?_);rw[hb4.2 hv];have k14:=k1.trans k4;have q4:=k4 _ _ q1;have n4:qAQ v4=some F.B.length:=by rw[hL.B.len,lMY]
 have w:∀n:Int,0<=n->n<4294967296->qBF .u32 n=n:=λn h1 h2=>by simp only[qBF];rw[qEP _ _ _ (by omega) (by omega)];split<;>omega
 have e3:qD2 .u32 (.int .i64 (4009754625+(i:Int)))=some (.int .u32 (4009754625+(i:Int))):=by show some (AV.int .u32 (qBF .u32 (4009754625+(i:Int))))=_;rw[w _ (by omega) (by omega)]
 simp only[qAX,Bool.not_true,qAD,qAA,qAS];rw[decide_eq_false (show ¬(i:Int)<0 by omega)];simp only[qCy,qAH,qAD,qAA,qAG,zA,qAL q4,csG4,n4,qAy];rw[decide_eq_false (show ¬(F.B.length:Int)<=(i:Int)by omega)];simp only[qCu,qAH,qAD,qAA,qAV];rw[qAc (by omega) (by omega),e3];exact hK s4 k14
end Go.AM.FE
set_option maxRecDepth 100000
namespace Go.AM.FE
open Go Go.Proofs Go.AM.TN Go.AM.MU
variable {K:AV→Hq→Prop} {s s' H t sC:Hq} {v w u p q m:AV} {cs:List AV} {F:FG} {leaf g:Int} {R:List SG.Rt} {v2 v3 v4 v5 v6 v7:AV} {t0:Bool} {i b b0:Nat}
theorem zAAV:Sub (hdel s b) s:=λi e hi=>by
 by_cases q:i=b
 ·rw[q,show hdel s b b=none from if_pos rfl]at hi;cases hi
 ·rw[qFy q]at hi;exact hi
theorem qYW(k:Sub s s'):Sub (hdel s b) (hdel s' b):=λi e hi=>by
 by_cases q:i=b
 ·rw[q,show hdel s b b=none from if_pos rfl]at hi;cases hi
 ·rw[qFy q]at hi ⊢;exact k _ _ hi
theorem qVu(u:Upto b s s'):Sub (hdel s b) (hdel s' b):=λi e hi=>by
 by_cases q:i=b
 ·rw[q,show hdel s b b=none from if_pos rfl]at hi;cases hi
 ·rw[qFy q]at hi ⊢;rw[u i q];exact hi
theorem zAFO{l:List AV}(h:Sl s v l)(hn:∀b' o n c,v=.slc b' o n c 1->b'≠b):Sl (hdel s b) v l:=by
 rcases h with h|⟨b',o,cap,h1,h2,h3⟩
 ·exact .inl h
 ·refine .inr ⟨b',o,cap,h1,h2,λhne=>?_⟩
  obtain⟨tg,e,cs,q1,q2⟩:=h3 hne;exact⟨tg,e,cs,by rw[qFy (hn _ _ _ _ h1)];exact q1,q2⟩
structure Ent(F:FG)(leaf:Int)(i:Nat)(sC t:Hq)(b:Nat)(R:List SG.Rt)(u:AV)(g:Int):Prop where
 ce:t b=some (false,.cells 44 (flC (i:Int) u g))
 sub:Sub sC t
 sl:Sl (hdel t b) u (usl (pL F leaf (tgtB F (i:Int)) R))
 fr:∀b' o n c,u=.slc b' o n c 1->sC b'=none
 gv:g=if(F.tr&&tT F leaf (tgtB F (i:Int)) R)=true then 4009754625+(i:Int)else 0
theorem Ent.to(h:Ent F leaf i sC s b R u g)(k:Sub s s'):Ent F leaf i sC s' b R u g:=⟨k _ _ h.ce,h.sub.trans k,h.sl.sub (qYW k),h.fr,h.gv⟩
theorem rin{I0:List AV->Hq->Nat->Prop}{m0:Nat}(z:Sz F)(hv:Valid F)(hi:i<F.B.length)(hcar:FD.carB F.S leaf (i:Int)=true)(ow:OwF H t w (fldN F leaf R i))(kC:Sub t sC)(q0:sC b0=some (t0,.cells 31 (csG F v2 v3 v4 v5 v6 v7)))(hL:FL sC F v2 v3 v4 v5 v6 v7)(hR:SG.Rts sC v R)(hok:∀r∈R,r.ok)(hRl:R.length<=60)(hb:sC b=none)(st:Ent F leaf i sC s b [] .nilslc 0)
  (hN:∀w' tt,OwF H tt w' (fldN F leaf R (i+1))->qBV XX w' (.int .i64 (i:Int)) I0 m0 K tt) :
  ∃I3:List AV->Hq->Nat->Prop,(∃m,I3 [(.int .i64 0)] s m)/\∀(f:Env) (s:Hq) (m3:Nat),I3 [f 10] s m3->
   qCw XX (.int .i64 leaf) v (.ptr b0 0) w (.int .i64 (i:Int)) (.ptr b 0) (f 10) I3 m3 I0 m0 K s:=by
 have hd:DomOk F:=hv 4 (by omega);have h32:=hd.n;refine⟨λys t m=>∃(j:Nat) (u:AV) (g:Int),ys=[.int .i64 (j:Int)]/\j<=R.length/\m=R.length-j/\Ent F leaf i sC t b (R.take j) u g,⟨_,0,_,_,rfl,by omega,rfl,st⟩,?_⟩;rintro f t1 m1 ⟨j,u,g,hy,hj,rfl,st⟩;simp only[cI,and_true]at hy;rw[hy];clear hy;have nb:∀{i':Nat}{x},sC i'=some x->i'≠b:=fun {i' x} h q=>by rw[q,hb]at h;cases h
 simp only[qCw,hR.len,qAS,qAA];refine qAF (λhlt=>?_) (λhge=>?_)
 rotate_left
 ·have hge:j=R.length:=by have:=oF hge;omega
  subst hge;have st:=st;rw[List.take_length]at st;have hone:=st.sl.one;refine qAJ (qAb st.ce rfl) (qAJ (a:=flC (i:Int) u g) (FC.fill_one rfl) ⟨by simp[flC,hone],qAP λb3 s8 hb3 h8 u8=>?_⟩);have k8:=u8.sub hb3;have hle:=qRw (F:=F) (leaf:=leaf) (R:=R) i;refine ow.put (e:=(i,pL F leaf (tgtB F (i:Int)) R,g)) (kC.trans (st.sub.trans k8)) ((st.sl.sub zAAV).sub k8) (λb' o n c e=>SG.qCl kC (st.fr b' o n c e)) (FC.one_row h8 rfl) (by omega) λv' s' ow'=>hN _ _ ?_;have:fldG F leaf R i=some (i,pL F leaf (tgtB F (i:Int)) R,g):=by unfold fldG;rw[if_pos hcar,st.gv]
  rw[qL8,this];exact ow'
 have hlt:j<R.length:=by have:=oT hlt;omega
 obtain⟨r,hr⟩:∃r,R[j]?=some r:=⟨_,gEY hlt⟩
 have hrok:=hok r (mG hr);have eR:R.take (j+1)=R.take j ++ [r]:=by rw[List.take_add_one,hr];rfl
 obtain⟨pb,po,p,q,m,e1,e2,_,hrt⟩:=(hR.sub st.sub).get hr;refine qAJ (qAb (st.sub _ _ q0) rfl) ?_;simp only[e1,e2,qAA];refine qX1 ⟨v2,v3,v4,v5,v6,v7,rfl,hL.sub st.sub⟩ hrt hrok hi λs5 k5=>?_;have st5:=st.to k5;have next:∀{tt:Hq}{u':AV}{g':Int},Ent F leaf i sC tt b (R.take (j+1)) u' g'->qBA XX (.int .i64 (j:Int)) (λys t m=>∃(j:Nat) (u:AV) (g:Int),ys=[.int .i64 (j:Int)]/\j<=R.length/\m=R.length-j/\Ent F leaf i sC t b (R.take j) u g) (R.length-j) I0 m0 K tt:=fun {tt u' g'} h=>by unfold qBA;simp only[qAV,qAA];rw[qAc (by omega) (by omega)];exact⟨_,by omega,j+1,u',g',rfl,by omega,rfl,h⟩
 have esn:=qUG (F:=F) (leaf:=leaf) (k:=tgtB F (i:Int)) (R:=R.take j) (r:=r);have tsn:=qUP (F:=F) (leaf:=leaf) (k:=tgtB F (i:Int)) (R:=R.take j) (r:=r);rw[<- eR]at esn tsn;simp only[qAX,qAA];cases c:(flB F leaf r&&decide (tgtB F (i:Int)∈tgs r.cm))with
 | false=>
   rw[c,Bool.false_and,Bool.or_false]at tsn;rw[c,if_neg (by simp)]at esn;simp only[Bool.not_false,qAI];exact next ⟨st5.ce,st5.sub,by rw[esn];exact st5.sl,st5.fr,by rw[tsn];exact st5.gv⟩
 |true=>
 rw[c,Bool.true_and]at tsn;rw[c,if_pos rfl]at esn;obtain⟨pb2,po2,p2,q2,m2,d1,_,d3,_⟩:=(hR.sub st5.sub).get hr;rw[e1]at d1;obtain⟨rfl,rfl⟩:pb=pb2/\po=po2:=by cases d1;exact⟨rfl,rfl⟩
 have r1:rd1 s5 (.ptr b 1)=some u:=by rw[qAL st5.ce];rfl
 have r23:rd1 s5 (.ptr pb (po+23))=some (.int .u32 r.nx):=by rw[d3 23 (by omega)];rfl
 simp only[Bool.not_true,qAD,qAG,zA,Nat.add_assoc,Nat.reduceAdd,r1,r23,qAA];have hpl:=qM2 (fT F leaf (tgtB F (i:Int))) (λr:SG.Rt=>r.nx) (R.take j);have htl:(R.take j).length<=R.length:=by rw[List.length_take];omega
 refine qYy (st5.sl.sub zAAV) (FD.peersL_asc _ _ _) (by unfold pL;omega) λv' s34 k34 hs' hfr=>?_;have st34:=st5.to k34;refine qCH st34.ce (by simp[flC]) hs'.one λs36 h36 u36=>?_;have h36:s36 b=some (false,.cells 44 (flC (i:Int) v' g)):=h36;have sl36:Sl (hdel s36 b) v' (usl (pL F leaf (tgtB F (i:Int)) (R.take (j+1)))):=by
  rw[esn];refine Sl.sub ?_ (qVu u36);rcases hfr with⟨hu,hin⟩|hfr
  ·rw[hu,hin];exact st34.sl
  ·refine zAFO hs' λb' o n c e hbb=>?_
   have:=hfr b' o n c e;rw[hbb,st5.ce]at this;cases this
 have sub36:Sub sC s36:=qAa st34.sub u36 hb;have fr36:∀b' o n c,v'=.slc b' o n c 1->sC b'=none:=λb' o n c e=>by
  rcases hfr with⟨hu,_⟩|hfr
  ·exact st5.fr b' o n c (by rw[<- hu];exact e)
  ·exact SG.qCl st5.sub (hfr b' o n c e)
 have q36:=sub36 _ _ q0;have c12:(csG F v2 v3 v4 v5 v6 v7)[12]?=some (.bool F.tr):=id rfl;obtain⟨pb3,po3,p3,q3,m3,d1,_,d3,_⟩:=(hR.sub sub36).get hr;rw[e1]at d1;obtain⟨rfl,rfl⟩:pb=pb3/\po=po3:=by cases d1;exact⟨rfl,rfl⟩
 have r32:rd1 s36 (.ptr pb (po+32))=some (.int .i64 r.tk):=by rw[d3 32 (by omega)];rfl
 have keep:(F.tr&&(r.tk == 3))=false->qBA XX (.int .i64 (j:Int)) (λys t m=>∃(j:Nat) (u:AV) (g:Int),ys=[.int .i64 (j:Int)]/\j<=R.length/\m=R.length-j/\Ent F leaf i sC t b (R.take j) u g) (R.length-j) I0 m0 K s36:=λhn=>by
  refine next (u':=v') (g':=g) ⟨h36,sub36,sl36,fr36,?_⟩;rw[st5.gv,tsn];cases c1:F.tr with
  |false=>rfl
  | true=>
    rw[c1,Bool.true_and]at hn;rw[hn,Bool.or_false]
 simp only[qAL q36,c12,qAA];cases c1:F.tr with
 | false=>
   simp only[qAD,qB1,qAH,qAA];exact keep (by rw[c1];rfl)
 | true=>
   simp only[qAI,qAG,zA,r32,qAA,qAY,qAU,Bool.false_bne,qB1,qAN];cases c2:(r.tk == 3)with
   | false=>
     simp only[qAD];exact keep (by rw[c1,c2];rfl)
   | true=>
     simp only[qAI];refine qAJ (qAb q36 rfl) (zACQ z hv ⟨v2,v3,v4,v5,v6,v7,rfl,hL.sub sub36⟩ hi (by omega) λs42 k42=>?_);refine qCH (k42 _ _ h36) (by simp[flC]) rfl λs44 h44 u44=>?_;refine next (u':=v') (g':=4009754625+(i:Int)) ⟨h44,qAa (sub36.trans k42) u44 hb,(sl36.sub (qYW k42)).sub (qVu u44),fr36,?_⟩;rw[tsn,c1,c2,Bool.or_true];rfl
theorem zAAo(z:Sz F)(hN:∀x∈F.S,x.1.length<=20/\x.2.length<=20)(hF:FabR s cs F)(hR:SG.Rts s v R)(hok:∀r∈R,r.ok)(hRl:R.length<=60)(h0:¬Valid F->∀s',Sub s s'->K .nilslc s')(hK:Valid F->∀v' s',Sub s s'->FlA s' v' (fld F leaf R)->K v' s'):wC TP XX 13 [.agg cs,.int .i64 leaf,v] K s:=by
 obtain⟨v2,v3,v4,v5,v6,v7,rfl,hL⟩:=hF;refine qIF ⟨hL.all,qAP λb0 s1 hb0 q1 u1=>?_⟩;have q1:s1 b0=some (false,.cells 31 (csG F v2 v3 v4 v5 v6 v7)):=q1;have k1:=u1.sub hb0;refine⟨λys t m=>∃(i:Nat) (w:AV),ys=[w,.int .i64 (i:Int)]/\i<=F.B.length/\m=F.B.length-i/\OwF s1 t w (fldN F leaf R i)/\(¬Valid F->w=.nilslc),⟨_,0,_,rfl,by omega,rfl,⟨s1,[],.refl _,.refl _,⟨by simp,.inl ⟨rfl,rfl⟩⟩,rfl,λj e h=>by simp[fldN]at h⟩,λ_=>rfl⟩,?_⟩;rintro f t m ⟨i,w,hy,hi,rfl,ow,hnv⟩;simp only[cI,and_true]at hy;rw[hy.1,hy.2];clear hy;have kt:=ow.old;unfold qEg;refine qAJ (qAb (kt _ _ q1) rfl) (FC.r28valid_in z ⟨v2,v3,v4,v5,v6,v7,rfl,hL.sub (k1.trans kt)⟩ λb s4 k4 hb=>?_);have k14:=k1.trans (kt.trans k4);have q4:=k4 _ _ (kt _ _ q1);cases b with
 | false=>
   have hv:¬Valid F:=λh=>by have:=hb.2 h;cases this
   simp only[qAD,qB0,qAH,qAA];rw[hnv hv];exact h0 hv s4 k14
 |true=>
 have hv:Valid F:=hb.1 rfl;have hd:DomOk F:=hv 4 (by omega);have h32:=hd.n;have n4:qAQ v4=some F.B.length:=by rw[hL.B.len,lMY]
 simp only[qAI,qAG,zA,qAA,qAL q4,csG4,n4,qAS,qB0,qAN];have ow4:=ow.sub k4;refine qAF (λhlt=>?_) (λhge=>?_)
 rotate_left
 ·have hge:i=F.B.length:=by have:=oF hge;omega
  subst hge;exact hK hv _ _ k14 ow4.fin
 have hlt:i<F.B.length:=by have:=oT hlt;omega
 have next:∀{tt:Hq}{w':AV},OwF s1 tt w' (fldN F leaf R (i+1))->qBV XX w' (.int .i64 (i:Int)) (λys t m=>∃(i:Nat) (w:AV),ys=[w,.int .i64 (i:Int)]/\i<=F.B.length/\m=F.B.length-i/\OwF s1 t w (fldN F leaf R i)/\(¬Valid F->w=.nilslc)) (F.B.length-i) K tt:=fun {tt w'} h=>by unfold qBV;simp only[qAV,qAA];rw[qAc (by omega) (by omega)];exact⟨_,by omega,i+1,w',rfl,by omega,rfl,h,λh=>absurd hv h⟩
 refine qAJ (qAb q4 rfl) (qVZ z hv ⟨v2,v3,v4,v5,v6,v7,rfl,hL.sub k14⟩ hN λvC s9 k9 hC=>?_);have hlc:=zAAR (F:=F) (bd:=(i:Int)) (k:=F.lf.toNat);have hfa:FabOk F:=hv 0 (by omega);have hlf:=hfa.lf;refine qSW hC (by simp[nats];omega) ?_;simp only[qAX,qAA];cases c:decide (leaf∈nats (crN F (i:Int) F.lf.toNat))with
 | false=>
   have c:¬FD.carB F.S leaf (i:Int)=true:=λh=>oF c ((qYO hv).2 h);simp only[Bool.not_false,qAI];refine next ?_;rw[qL8,show fldG F leaf R i=none by unfold fldG;rw[if_neg c],Option.toList_none,List.append_nil];exact ow4.sub k9
 |true=>
 have c:FD.carB F.S leaf (i:Int)=true:=(qYO hv).1 (oT c);simp only[Bool.not_true,qAD];refine qAJ (a:=flC (i:Int) .nilslc 0) rfl (qAP λb s15 hb15 h15 u15=>qAZ h15 rfl rfl rfl λs16 h16 u16=>?_);have k19:=k14.trans k9;have kk:Sub s9 s16:=qAa (u15.sub hb15) u16 hb15;exact rin z hv hlt c ow4 k9 (k9 _ _ q4) (hL.sub k19) (hR.sub k19) hok hRl hb15 ⟨h16,kk,.inl ⟨rfl,rfl⟩,λ_ _ _ _ h=>(by cases h),by simp[FD.treeT]⟩ λw' tt h=>next h
theorem zADK(hv:Valid F)(h:¬(0<=leaf/\leaf<F.lf)):fld F leaf R=[]:=by have hsg:SegOk F:=hv 5 (by omega);rw[<- qR0];unfold fldN;rw[List.filterMap_eq_nil_iff];intro i _;unfold fldG;refine if_neg λq=>h ?_;obtain⟨x,hx,h1,_⟩:=FD.carB_iff.1 q;exact(hsg.row x hx).2.1.1 leaf h1
end Go.AM.FE
set_option maxRecDepth 100000
namespace Go.AM.FC
open Go Go.Proofs Go.AM.TN
end Go.AM.FC
set_option maxRecDepth 100000
namespace Go.AM.FE
open Go Go.Proofs Go.AM.TN Go.AM.MU
variable {K:AV→Hq→Prop} {s s' H t:Hq} {v w u p q m:AV} {cs:List AV} {F:FG} {leaf:Int} {R:List SG.Rt} {v2 v3 v4 v5 v6 v7:AV} {i b b0:Nat} {l:List Int} {L:List FlE}
theorem zAHU(h:SG.GlK s):SG.GlK (AM.frz s):=by obtain⟨t,h⟩:=h;exact⟨true,by unfold AM.frz;rw[h]⟩
theorem zAFG(h:SG.Rts s v R):SG.Rts (AM.frz s) v R:=by
 obtain⟨rows,h1,h2,h3⟩:=h;exact⟨rows,h1.frz,h2,λi r hi=>by obtain⟨p,q,m,a,b⟩:=h3 i r hi;exact⟨p,q,m,a,b.pa.frz,b.cl.frz,b.cm.frz⟩⟩
theorem FlA.addf(h:FlA s' v L)(k:Sub (AM.frz s) s'):FlA (add s s') v L:=by
 obtain⟨rows,h1,h2,h3⟩:=h;exact⟨rows,SG.SlR.addf h1 k,h2,λj e hj=>by obtain⟨w,a,b⟩:=h3 j e hj;exact⟨w,a,b.addf k⟩⟩
theorem FlA.len(h:FlA s v L):qAQ v=some L.length:=by obtain⟨rows,h1,h2,_⟩:=h;rw[h1.len,h2]
theorem FlA.get{e:FlE}(h:FlA s v L)(hi:L[i]?=some e):∃pb po u,qAM 3 v (.int .i64 (i:Int))=some (.ptr pb po)/\rd1 s (.ptr pb po)=some (.int .i64 (e.1:Int))/\rd1 s (.ptr pb (po+1))=some u/\rd1 s (.ptr pb (po+2))=some (.int .u32 e.2.2)/\Sl s u (usl e.2.1):=by obtain⟨rows,h1,_,h3⟩:=h;obtain⟨u,a,b⟩:=h3 i e hi;obtain⟨pb,po,e1,_,e3⟩:=h1.get a;exact⟨pb,po,u,e1,e3 0 (by omega),e3 1 (by omega),e3 2 (by omega),b⟩
theorem qXz(h:Sl s v (usl l))(h':Sl s w (usl l))(hl:l.length<=1000)(hK:K (.bool true) s):wC TP XX 28 [v,w] K s:=by
 refine qRn ?_;have n1:qAQ v=some l.length:=by rw[h.len,lMY]
 have n2:qAQ w=some l.length:=by rw[h'.len,lMY]
 simp only[qQI,n1,n2,qAY,beq_self_eq_true,qAU,Bool.false_bne,qAA];refine⟨λys t m=>∃i:Nat,ys=[.bool true,.int .i64 (i:Int)]/\t=s/\i<=l.length/\m=l.length-i,⟨_,0,rfl,rfl,by omega,rfl⟩,?_⟩;rintro e t m ⟨i,hy,rfl,hi,rfl⟩;simp only[cI,and_true]at hy;rw[hy.1,hy.2];simp only[qMS,qAI,n1,qAS,qAA,qI7,qAN];refine qAF (λhlt=>?_) (λ_=>hK);have hlt:i<l.length:=by have:=oT hlt;omega
 obtain⟨a,e1,e2⟩:=h.get (i:=i) (by rw[lMY];exact hlt);obtain⟨c,e3,e4⟩:=h'.get (i:=i) (by rw[lMY];exact hlt);rw[List.getElem?_map,gEY hlt]at e2 e4;simp only[e1,e2,e3,e4,Option.map_some,qAY,beq_self_eq_true,qAU,Bool.false_bne,qAV,qAA];rw[qAc (by omega) (by omega)];exact⟨_,by omega,i+1,rfl,(by trivial),by omega,rfl⟩
theorem qRS(h:FlA s v L)(h':FlA s w L)(hl:L.length<=1000)(hp:∀e∈L,e.2.1.length<=1000)(hK:K (.bool true) s):wC TP XX 11 [v,w] K s:=by
 refine qNi ?_;simp only[qMD,h.len,h'.len,qAY,beq_self_eq_true,qAU,Bool.false_bne,qAA];refine⟨λys t m=>∃i:Nat,ys=[.bool true,.int .i64 (i:Int)]/\t=s/\i<=L.length/\m=L.length-i,⟨_,0,rfl,rfl,by omega,rfl⟩,?_⟩;rintro e t m ⟨i,hy,rfl,hi,rfl⟩;simp only[cI,and_true]at hy;rw[hy.1,hy.2];simp only[qJl,qAI,h.len,qAS,qAA,qGb,qAN];refine qAF (λhlt=>?_) (λ_=>hK);have hlt:i<L.length:=by have:=oT hlt;omega
 have hq:L[i]?=some L[i]:=gEY hlt;have hm:=hp _ (List.getElem_mem hlt);generalize L[i]=x at hq hm;obtain⟨pb,po,u,e1,e2,e3,e4,e5⟩:=h.get hq;obtain⟨pb',po',u',c1,c2,c3,c4,c5⟩:=h'.get hq;simp only[e1,e2,e3,e4,c1,c2,c3,c4,qAG,Nat.add_zero,qAA,qAY,beq_self_eq_true,qAU,Bool.false_bne,qAI,qGa,qAN];refine qXz e5 c5 hm ?_;simp only[qGZ,qAN,qAA,qAV];rw[qAc (by omega) (by omega)];exact⟨_,by omega,i+1,rfl,(by trivial),by omega,rfl⟩
theorem zAEW:(fld F leaf R).length<=F.B.length:=by rw[<- qR0];exact qRw _
theorem qZS(hR:R.length<=60):∀e∈fld F leaf R,e.2.1.length<=1000:=λe he=>by
 rw[<- qR0]at he;unfold fldN at he;obtain⟨i,_,h⟩:=List.mem_filterMap.1 he;unfold fldG at h;split at h
 ·cases h
  have:=qM2 (fT F leaf (tgtB F (i:Int))) (λr:SG.Rt=>r.nx) R;show(pL F leaf (tgtB F (i:Int)) R).length<=1000;unfold pL;omega
 ·cases h
theorem FLi_in(hS:F.S.length<=9223372036854775807)(hI:∀x∈F.H,0<=x.2.1/\x.2.1<4294967296)(hF:FabR s cs F)(hR:SG.Rts s v R)(hcm:∀r∈R,∀c∈r.cm,c.ok)(hG:SG.GlK s)(hK:∀s',K (.bool true) s'):wC TP XX 3 [.agg cs,.int .i64 leaf,v] K s:=by
 obtain⟨v2,v3,v4,v5,v6,v7,rfl,hL⟩:=hF;refine qGG ⟨hL.all,qAP λb0 s1 hb0 h1 u1=>?_⟩;have h1:s1 b0=some (false,.cells 31 (csG F v2 v3 v4 v5 v6 v7)):=h1;have k1:=u1.sub hb0;refine qAJ (qAb h1 rfl) (FW.zAEF hS ⟨v2,v3,v4,v5,v6,v7,rfl,hL.sub k1⟩ λb s8 k8 hb=>?_);have k:=k1.trans k8;have h1:=k8 _ _ h1;have aw:∀{t:Hq}{J:AV->Hq->Prop},Sub s8 t->J (.bool true) t->wC TP XX 10 [] J t:=fun {t J} kt hJ=>by obtain⟨tt,hg⟩:=hG.sub (k.trans kt);exact FC.awake_in hg hJ
 cases b with
 | true=>
   simp only[qAI,qA1,qAN,qAA];exact aw (.refl _) (hK _)
 |false=>
 have sm:=hb rfl;simp only[qAD];refine FW.zADx (hR.sub k) λb hb=>?_;cases b with
 | true=>
   simp only[qAI,qA1,qAH,qAA];exact aw (.refl _) (hK _)
 |false=>
 obtain⟨h60,hlen⟩:=hb rfl;have hN:∀x∈F.S,x.1.length<=20/\x.2.length<=20:=λx hx=>by have:=sm.N x hx;omega
 have z:Sz F:=by have:=sm.L;have:=sm.T;have:=sm.B;have:=sm.S;have:=sm.H;have:=sm.G;exact⟨by omega,by omega,by omega,by omega,by omega,by omega,λx hx=>by have:=sm.N x hx;omega,hI⟩
 have hok:∀r∈R,r.ok:=λr hr=>⟨hcm r hr,hlen r hr⟩
 simp only[qAD,qA1,qAH,qAA];have main:∀{L:List FlE}{vA:AV}{sA:Hq},L.length<=1000->(∀e∈L,e.2.1.length<=1000)->(¬Valid F->L=[])->(Valid F->fld F leaf R=L)->Sub (AM.frz s8) sA->FlA sA vA L->(∀b,s8 b≠none->s8 b=none->sA b=none)->oK (rdN (cutH [(s8,(add s8 sA))] (add s8 sA)) 19 (.ptr b0 0)) λv_11=>wC TP XX 13 [(.agg v_11),.int .i64 leaf,v] (λv_12 s_13=>wC TP XX 11 [vA,v_12] (λv_14 s_15=>qAK v_14 (wC TP XX 10 [] (λv_16 s_17=>oK (qAT v_14 v_16 (.bool false)) λv_18=>K v_18 s_17) s_15) (oK (qAT v_14 .undef (.bool false)) λv_19=>K v_19 s_15)) s_13) (add s8 sA):=fun {L vA sA} hl hp hl0 hl1 kA hA _=>by
  have kT:Sub s8 (add s8 sA):=qLN;refine qAJ (qAb (FC.cut1 (U:=sA) (.refl s8) _ _ h1) rfl) ?_;have hA2:=hA.addf kA;generalize add s8 sA=T at kT hA2 ⊢;have kk:=k.trans kT;have fin:∀{vB:AV}{sB:Hq},Sub T sB->FlA sB vB L->wC TP XX 11 [vA,vB] (λv_14 s_15=>qAK v_14 (wC TP XX 10 [] (λv_16 s_17=>oK (qAT v_14 v_16 (.bool false)) λv_18=>K v_18 s_17) s_15) (oK (qAT v_14 .undef (.bool false)) λv_19=>K v_19 s_15)) sB:=fun {vB sB} kB hB=>by refine qRS (hA2.sub kB) hB hl hp ?_;simp only[qAI];refine aw (kT.trans kB) ?_;simp only[qAN,qAA];exact hK _
  refine zAAo z hN ⟨v2,v3,v4,v5,v6,v7,rfl,hL.sub kk⟩ (hR.sub kk) hok (by omega) (λhv s13 k13=>fin k13 ?_) (λhv vB s13 k13 hB=>fin k13 ?_)
  ·rw[hl0 hv];exact .nil
  ·rw[<- hl1 hv];exact hB
 refine qAJ (qAb h1 rfl) (zABM z hN ⟨v2,v3,v4,v5,v6,v7,rfl,FW.zAHC (hL.sub k)⟩ (zAFG (hR.sub k)) (zAHU (hG.sub k)) hok (by omega) (λhv sA kA=>?_) (λhv vA sA kA hA=>?_))
 ·exact main (L:=[]) (by simp) (by simp) (λ_=>rfl) (λhv2=>zADK hv2 λq=>hv ⟨hv2,q⟩) kA .nil
 ·have h32:=(hv.1 4 (by omega):DomOk F).n
  have:=zAEW (F:=F) (leaf:=leaf) (R:=R);exact main (L:=fld F leaf R) (by omega) (qZS (by omega)) (λh=>absurd hv.1 h) (λ_=>rfl) kA hA
end Go.AM.FE
set_option maxRecDepth 100000
namespace Go.AM
open Go Go.Proofs
theorem FLi_wp(s:Hq)(xs:List AV)(hg:s 0=some (true,.glob 0 (.agg kindsL)))(h:ArgL TP s 40 [31,3,32] xs):wC TP XX 3 xs (λv _=>v=.bool true) s:=by obtain⟨a,b,c,rfl,h1,h2,h3⟩:=zAGy h;obtain⟨cs,F,rfl,hF,hS,hI⟩:=FW.zAEV h1;obtain⟨leaf,rfl,_⟩:=zAEi (d:=39) Tryz.underlying3 h2;obtain⟨R,hR,hr,_⟩:=SG.zADi h3;exact FE.FLi_in hS hI hF hR (λr q=>(hr r q).1) ⟨true,hg⟩ λ_=>rfl
end Go.AM
