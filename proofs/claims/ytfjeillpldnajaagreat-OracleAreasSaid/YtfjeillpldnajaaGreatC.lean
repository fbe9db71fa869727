/- Part C of the proof: see the last part. -/
import Derived.Test.YtfjeillpldnajaaGreatV
set_option linter.unusedVariables false
namespace Go.AM.TN
open Go Go.Proofs
variable {K:AV→Hq→Prop} {s s' s0 t:Hq} {lv v y:AV}
theorem qAW{s s' s'':Hq}{b:Nat}(h:Sub s s')(u:Upto b s' s'')(hb:s b=none):Sub s s'':=λi e hi=>by rw[u i (qFG hb hi)];exact h i e hi
theorem qA6(k:Sub s s'){b:Nat}(h:s' b=none):s b=none:=by
 cases q:s b with
 |none=>rfl
 |some y=>rw[k _ _ q]at h;cases h
theorem qYH{x:Int}{n:Nat}(hx:-9223372036854775808<=x/\x<=9223372036854775807)(hn:1<=n)(hn2:n<=1000)(hK:∀r:Nat,r<n->K (.int .i64 (r:Int)) s):wC TP XX 15 [.int .i64 x,.int .i64 (n:Int)] K s:=by
 refine qT2 ?_;have c:decide ((n:Int)<=0)=false:=decide_eq_false (by omega);have h1:=Int.tmod_lt_of_pos x (show(0:Int)<(n:Int)by omega);have h2:-(n:Int)<x.tmod n:=by have:=Int.tmod_lt_of_pos (-x) (show(0:Int)<(n:Int)by omega);rw[Int.neg_tmod]at this;omega
 simp only[qX7,qId,c,qAD,qH8 (show(n:Int)≠0 by omega),qAN,qAB];rw[qAb (by omega) (by omega),Int.tmod_eq_emod_of_nonneg (by omega)];have h3:=Int.emod_nonneg (x.tmod n+n) (show(n:Int)≠0 by omega);have h4:=Int.emod_lt_of_pos (x.tmod n+n) (show(0:Int)<(n:Int)by omega);obtain⟨r,hr⟩:∃r:Nat,(x.tmod n+n) % (n:Int)=r:=⟨((x.tmod n+n) % (n:Int)).toNat,by omega⟩
 rw[hr];exact hK r (by omega)
structure Tk(s0 t:Hq)(b:Nat):Prop where
 sub:Sub s0 t
 fr:s0 b=none
 ex:∃(lv:AV) (l:List Int) (i:Nat),t b=some (false,.cells 110 [lv,.int .i64 (i:Int)])/\i<=9223372036854775807/\l.length<=9223372036854775807/\Sl s0 lv (l.map (AV.int .i64))/\∀x∈l,-9223372036854775808<=x/\x<=9223372036854775807
theorem Tk.more{b:Nat}(h:Tk s0 t b)(k:Sub t s):Tk s0 s b:=by obtain⟨lv,l,i,h1,h2⟩:=h.ex;exact⟨h.sub.trans k,h.fr,lv,l,i,k _ _ h1,h2⟩
theorem Tk.keep{b:Nat}(h:Tk s0 t b){fp:Nat->Prop}(k:qAc fp t s)(hb:¬fp b)(h0:∀i,fp i->s0 i=none):Tk s0 s b:=by obtain⟨lv,l,i,h1,h2⟩:=h.ex;exact⟨λi e hi=>k _ _ (h.sub _ _ hi) λq=>(by rw[h0 i q]at hi;cases hi),h.fr,lv,l,i,k _ _ h1 hb,h2⟩
theorem qBS{b:Nat}{n:Nat}(h:Tk s0 t b)(hn:1<=n)(hn2:n<=1000)(hK:∀t' (r:Nat),r<n->Tk s0 t' b->Upto b t t'->K (.int .i64 (r:Int)) t'):wC TP XX 48 [.ptr b 0,.int .i64 (n:Int)] K t:=by
 obtain⟨lv,l,i,h1,h2,h3,h4,h5⟩:=h.ex;have h4t:=h4.sub h.sub;refine qLD ?_;have e0:[lv,AV.int .i64 (i:Int)][0]?=some lv:=rfl;have e1:[lv,AV.int .i64 (i:Int)][1]?=some (.int .i64 (i:Int)):=rfl;simp only[qKB,qGA,qAI,zAY,qAK h1,e0,e1,h4t.len,lM,qBV,qAB];refine qAJ (λc=>hK t 0 (by omega) h λ_ _=>rfl) (λc=>?_);have c:=oF c;have hi:i<l.length:=by omega
 simp only[qAN,qAB];rw[qAb (by omega) (by omega)];refine qBF h1 (by simp) rfl λt2 h6 u6=>?_;have h6:t2 b=some (false,.cells 110 [lv,.int .i64 ((i+1:Nat):Int)]):=by
  have:((i+1:Nat):Int)=(i:Int)+1:=by omega
  rw[this];exact h6
 have e3:[lv,AV.int .i64 ((i+1:Nat):Int)][0]?=some lv:=rfl;have e4:[lv,AV.int .i64 ((i+1:Nat):Int)][1]?=some (.int .i64 ((i+1:Nat):Int)):=rfl;have sub2:Sub s0 t2:=qAW h.sub u6 h.fr;obtain⟨p,g1,g2⟩:=(h4.sub sub2).get (i:=i) (by rw[lM];exact hi);have g3:(l.map (AV.int .i64))[i]?=some (.int .i64 l[i]):=by simp[hi]
 rw[g3]at g2;simp only[qAK h6,e3,e4,qDY,qAB];rw[qAb (by omega) (by omega)];have e5:((i+1:Nat):Int)-1=(i:Int):=by omega
 rw[e5];simp only[g1,g2,qAB];exact qYH (h5 _ (List.getElem_mem hi)) hn hn2 λr hr=>hK t2 r hr ⟨sub2,h.fr,lv,l,i+1,h6,by omega,h3,h4,h5⟩ u6
abbrev RLk:=Int×Int×Int
def lkC(x:RLk):List AV:=[.int .i64 x.1,.int .i64 x.2.1,.int .i64 x.2.2]
def iz(l:List Nat):List AV:=l.map λ(n:Nat)=>.int .i64 (n:Int)
theorem qMk{l:List Nat}:(iz l).length=l.length:=by unfold iz;simp
theorem zABe{l m:List Nat}:iz (l++m)=iz l++iz m:=by unfold iz;simp
theorem _root_.Go.AM.Acc.app2{elem:TypeId}{l m:List AV}(h:Acc elem s0 s v l)(hs:Sub s0 s)(hy:Sl s y m)(hm:m≠[])(hl:l.length+m.length<=16777216)(hK:∀v' s',Acc elem s0 s' v' (l++m)->Sub s0 s'->K v' s'):appK elem 1 v y K s:=
 h.app hy hm hl (λi hi=>by
  cases q:s0 i with
  |none=>exact absurd q hi
  | some e=>rw[hs _ _ q];simp) λv' s' h1 h2=>hK v' s' h1 λi e hi=>h2 i e (hs _ _ hi) λb hb=>by
    rintro rfl;rcases h with⟨q,_⟩|⟨j,q1,q2,_⟩
    ·rw[q]at hb;cases hb
    ·rw[q2]at hb;cases hb;rw[hi]at q1;cases q1
theorem _root_.Go.AM.Acc.sub{elem:TypeId}{l:List AV}(h:Acc elem s0 s v l)(k:Sub s s'):Acc elem s0 s' v l:=h.imp id λ⟨b,h0,h1,h2⟩=>⟨b,h0,h1,k _ _ h2⟩
theorem _root_.Go.AM.Acc.upto{elem:TypeId}{l:List AV}{b:Nat}(h:Acc elem s0 s v l)(u:Upto b s s')(hb:s0 b≠none):Acc elem s0 s' v l:=h.imp id λ⟨c,h0,h1,h2⟩=>⟨c,h0,h1,by rw[u c λe=>hb (by rw[<- e];exact h0)];exact h2⟩
theorem qVQ{b:Nat}{n most:Nat}(h:Tk s0 t b)(hn:1<=n)(hn2:n<=100)(hm:1<=most)(hm2:most<=100)
  (hK:∀t' v (l:List Nat),Tk s0 t' b->qAc (λi=>i=b) t t'->Acc 3 t t' v (iz l)∨(∃c,t c=none/\v=.slc c 0 1 (some 1) 1/\t' c=some (false,.cells 3 (iz l))/\l.length=1)->l.Pairwise (· < ·)->l≠[]->(∀i∈l,i<n)->l.length<=most->K v t') :
  wC TP XX 51 [.ptr b 0,.int .i64 (n:Int),.int .i64 (most:Int)] K t:=by
 refine qTa (qBS h hn (by omega) λt1 first hf h1 u1=>?_);have hbt:t b≠none:=by obtain⟨lv,l,i,q,_⟩:=h.ex;rw[q];simp
 refine⟨λys t2 m=>∃(i:Nat) (v:AV) (l:List Nat),ys=[v,.int .i64 (i:Int)]/\i<=n/\m=n-i/\Tk s0 t2 b/\qAc (λi=>i=b) t t2/\Acc 3 t t2 v (iz l)/\l.Pairwise (· < ·)/\(∀j∈l,j<i)/\l.length<=most,⟨_,0,.nilslc,[],rfl,by omega,rfl,h1,u1.keep rfl,.inl ⟨rfl,rfl⟩,.nil,by simp,by simp⟩,?_⟩;rintro f t2 m ⟨i,v,l,hy,hi,rfl,tk,kp,acc,asc,lt,len⟩;simp only[cI,and_true]at hy;rw[hy.1,hy.2];have fin:∀c:Bool,c=false->qEI XX (.ptr b 0) v (.int .i64 (first:Int)) (.int .i64 (i:Int)) (.bool true) (.bool c) (λys t2 m=>∃(i:Nat) (v:AV) (l:List Nat),ys=[v,.int .i64 (i:Int)]/\i<=n/\m=n-i/\Tk s0 t2 b/\qAc (λi=>i=b) t t2/\Acc 3 t t2 v (iz l)/\l.Pairwise (· < ·)/\(∀j∈l,j<i)/\l.length<=most) (n-i) K t2/\qEI XX (.ptr b 0) v (.int .i64 (first:Int)) (.int .i64 (i:Int)) (.bool false) .undef (λys t2 m=>∃(i:Nat) (v:AV) (l:List Nat),ys=[v,.int .i64 (i:Int)]/\i<=n/\m=n-i/\Tk s0 t2 b/\qAc (λi=>i=b) t t2/\Acc 3 t t2 v (iz l)/\l.Pairwise (· < ·)/\(∀j∈l,j<i)/\l.length<=most) (n-i) K t2:=λc hc=>by
  subst hc;have e:∀x y:AV,qAR x y (.bool false)=some (.bool false)->qEI XX (.ptr b 0) v (.int .i64 (first:Int)) (.int .i64 (i:Int)) x y (λys t2 m=>∃(i:Nat) (v:AV) (l:List Nat),ys=[v,.int .i64 (i:Int)]/\i<=n/\m=n-i/\Tk s0 t2 b/\qAc (λi=>i=b) t t2/\Acc 3 t t2 v (iz l)/\l.Pairwise (· < ·)/\(∀j∈l,j<i)/\l.length<=most) (n-i) K t2:=λx y hxy=>by
   simp only[qEI,hxy,qAD,acc.sl.len,qMk,qAX,qAV,Bool.false_bne,qAB];refine qAJ (λq=>?_) (λq=>?_)
   ·refine qDy rfl rfl λc t3 hc h3 u3=>?_
    have k3:=u3.sub hc;have hcb:c≠b:=λe=>by obtain⟨lv,l',i',q',_⟩:=tk.ex;rw[e,q']at hc;cases hc
    have hct:t c=none:=by
     cases q':t c with
     |none=>rfl
     |some y=>rw[kp _ _ q' hcb]at hc;cases hc
    simp only[qIn];exact hK t3 _ [first] (tk.more k3) (kp.trans k3.keep) (.inr ⟨c,hct,rfl,h3,rfl⟩) (by simp) (by simp) (by simpa using hf) (by simpa using hm)
   ·have q:¬(l.length:Int)=0:=by simpa using q
    simp only[qIn];exact hK t2 v l tk kp (.inl acc) asc (λe=>q (by rw[e];rfl)) (λj hj=>by have:=lt j hj;omega) len
  exact⟨e _ _ rfl,e _ _ rfl⟩
 simp only[qNZ,qAP,qAB];refine qAJ (λhlt=>?_) (λhge=>?_)
 rotate_left
 ·rw[hge]
  exact(fin false rfl).2
 rw[hlt];have hlt:=oT hlt;simp only[acc.sl.len,qMk,qAB]
 by_cases cl:l.length<most
 rotate_left
 ·have:decide ((l.length:Int)<(most:Int))=false:=decide_eq_false (by omega)
  rw[this];exact(fin false rfl).1
 have cl':decide ((l.length:Int)<(most:Int))=true:=decide_eq_true (by omega);rw[cl'];simp only[qEI,qGj,qAF,qAX,qAV,Bool.false_bne,qAB];have put:∀t3,Tk s0 t3 b->qAc (λi=>i=b) t t3->Acc 3 t t3 v (iz l)->∀x y:AV,qAR x (.bool true) y=some (.bool true)->qFD XX v (.int .i64 (i:Int)) x y (λys t2 m=>∃(i:Nat) (v:AV) (l:List Nat),ys=[v,.int .i64 (i:Int)]/\i<=n/\m=n-i/\Tk s0 t2 b/\qAc (λi=>i=b) t t2/\Acc 3 t t2 v (iz l)/\l.Pairwise (· < ·)/\(∀j∈l,j<i)/\l.length<=most) (n-i) K t3:=λt3 tk3 kp3 acc3 x y hxy=>by
  simp only[qFD,hxy,qAF,qAB];refine qDy rfl rfl λc t4 hc h4 u4=>?_;have k4:=u4.sub hc;have tk4:=tk3.more k4;have kp4:=kp3.trans (k4.keep (fp:=λi=>i=b));have a4:Acc 3 (λj=>if j=b then t4 j else t j) t4 v (iz l):=(acc3.sub k4).imp id λ⟨c,h0,h1,h2⟩=>⟨c,by show(if c=b then t4 c else t c)=none;rw[if_neg λe=>hbt (by rw[<- e];exact h0)];exact h0,h1,h2⟩
  have s4:Sub (λj=>if j=b then t4 j else t j) t4:=λj e hj=>by
   have hj:(if j=b then t4 j else t j)=some e:=hj;split at hj
   ·exact hj
   ·rename_i ne
    exact kp4 _ _ hj ne
  refine a4.app2 s4 (Sl.mk h4 rfl (by simp)) (by simp) (by rw[qMk];simp only[List.length_singleton];omega) λv' t5 a5 k5=>?_;simp only[qIr,qAN,qAB];rw[qAb (by omega) (by omega)];have kp5:qAc (λi=>i=b) t t5:=λj e hj ne=>k5 _ _ (by show(if j=b then t4 j else t j)=some e;rw[if_neg ne];exact hj);have tb5:t5 b=t4 b:=by
   cases q:t4 b with
   | none=>
     obtain⟨lv,l',i',q',_⟩:=tk4.ex;rw[q']at q;cases q
   |some e=>exact k5 _ _ (by show(if b=b then t4 b else t b)=some e;rw[if_pos rfl];exact q)
  have tk5:Tk s0 t5 b:=by
   obtain⟨lv,l',i',q',q''⟩:=tk4.ex;refine⟨λj e hj=>?_,h.fr,lv,l',i',by rw[tb5];exact q',q''⟩;have ne:j≠b:=λe=>by rw[e,h.fr]at hj;cases hj
   exact kp5 _ _ (h.sub _ _ hj) ne
  refine⟨_,by omega,i+1,v',l ++ [i],rfl,by omega,rfl,tk5,kp5,?_,?_,?_,?_⟩
  ·rw[zABe]
   exact a5.imp id λ⟨c,h0,h1,h2⟩=>⟨c,by
    have h0:(if c=b then t4 c else t c)=none:=h0;split at h0
    ·rename_i e
     obtain⟨lv,l',i',q',_⟩:=tk4.ex;rw[e,q']at h0;cases h0
    ·exact h0,h1,h2⟩
  ·rw[List.pairwise_append]
   exact⟨asc,by simp,λa ha c hc=>by rw[List.mem_singleton]at hc;rw[hc];exact lt a ha⟩
  ·intro j hj
   rcases mP hj with q|q
   ·have:=lt j q;omega
   ·rw[List.mem_singleton]at q;omega
  ·rw[lAp];simp only[List.length_singleton];omega
 have skip:∀t3,Tk s0 t3 b->qAc (λi=>i=b) t t3->Acc 3 t t3 v (iz l)->qFD XX v (.int .i64 (i:Int)) (.bool false) (.bool false) (λys t2 m=>∃(i:Nat) (v:AV) (l:List Nat),ys=[v,.int .i64 (i:Int)]/\i<=n/\m=n-i/\Tk s0 t2 b/\qAc (λi=>i=b) t t2/\Acc 3 t t2 v (iz l)/\l.Pairwise (· < ·)/\(∀j∈l,j<i)/\l.length<=most) (n-i) K t3:=λt3 tk3 kp3 acc3=>by simp only[qFD,qMQ,qAD,qAB,qIr,qAN];rw[qAb (by omega) (by omega)];exact⟨_,by omega,i+1,v,l,rfl,by omega,rfl,tk3,kp3,acc3,asc,λj hj=>by have:=lt j hj;omega,len⟩
 refine qAJ (λce=>?_) (λce=>?_)
 ·rw[ce]
  exact put t2 tk kp acc _ _ rfl
 ·rw[ce]
  refine qBS tk (n:=3) (by omega) (by omega) λt3 r hr tk3 u3=>?_;have kp3:=kp.trans (u3.keep (fp:=λi=>i=b) rfl);have acc3:=acc.upto u3 hbt;simp only[qAX,qAV,Bool.false_bne,qAB];cases q:((r:Int) == 1)with
  |true=>exact put t3 tk3 kp3 acc3 _ _ rfl
  |false=>exact skip t3 tk3 kp3 acc3
end Go.AM.TN
namespace Go.AM.TN
open Go Go.Proofs
variable {K:AV→Hq→Prop} {s s' s0 t:Hq} {lv v y:AV} {b:Nat}
theorem _root_.Go.AM.AccR.upto{elem:TypeId}{es:Nat}{rows:List (List AV)}{b:Nat}(h:AccR elem es s0 s v rows)(u:Upto b s s')(hb:s0 b≠none):AccR elem es s0 s' v rows:=⟨h.1,h.2.imp id λ⟨c,h0,h1,h2⟩=>⟨c,h0,h1,by rw[u c λe=>hb (by rw[<- e];exact h0)];exact h2⟩⟩
theorem Tk.at(h:Tk s0 t b):t b≠none:=by obtain⟨lv,l,i,q,_⟩:=h.ex;rw[q];simp
theorem qVc{elem:TypeId}{es:Nat}{rows:List (List AV)}{row:List AV}{t0:Hq}(h0:Tk s0 t0 b)(tk:Tk s0 t b)(kp:qAc (λi=>i=b) t0 t)(acc:AccR elem es t0 t v rows)(hy:SlR es t y [row])(hl:rows.length<=1000)
  (hK:∀v' t',Tk s0 t' b->qAc (λi=>i=b) t0 t'->AccR elem es t0 t' v' (rows ++ [row])->K v' t'):appK elem es v y K t:=by
 have a4:AccR elem es (λj=>if j=b then t j else t0 j) t v rows:=⟨acc.1,acc.2.imp id λ⟨c,q0,q1,q2⟩=>⟨c,by show(if c=b then t c else t0 c)=none;rw[if_neg λe=>h0.at (by rw[<- e];exact q0)];exact q0,q1,q2⟩⟩
 have s4:Sub (λj=>if j=b then t j else t0 j) t:=λj e hj=>by
  have hj:(if j=b then t j else t0 j)=some e:=hj;split at hj
  ·exact hj
  ·rename_i ne
   exact kp _ _ hj ne
 refine a4.app hy (by simp) (by simp only[List.length_singleton];omega) s4 λv' t5 a5 k5=>?_;have kp5:qAc (λi=>i=b) t0 t5:=λj e hj ne=>k5 _ _ (by show(if j=b then t j else t0 j)=some e;rw[if_neg ne];exact hj);have tb5:t5 b=t b:=by
  cases q:t b with
  |none=>exact absurd q tk.at
  |some e=>exact k5 _ _ (by show(if b=b then t b else t0 b)=some e;rw[if_pos rfl];exact q)
 refine hK v' t5 ?_ kp5 ⟨a5.1,a5.2.imp id λ⟨c,q0,q1,q2⟩=>⟨c,?_,q1,q2⟩⟩
 ·obtain⟨lv,l',i',q',q''⟩:=tk.ex
  refine⟨λj e hj=>?_,h0.fr,lv,l',i',by rw[tb5];exact q',q''⟩;have ne:j≠b:=λe=>by rw[e,h0.fr]at hj;cases hj
  exact kp5 _ _ (h0.sub _ _ hj) ne
 ·have q0:(if c=b then t c else t0 c)=none:=q0
  split at q0
  ·rename_i e
   exact absurd (by rw[<- e];exact q0) tk.at
  ·exact q0
theorem row1{es:Nat}{elem:TypeId}{c:Nat}{row:List AV}(h:s c=some (false,.cells elem row))(hr:row.length=es):SlR es s (.slc c 0 1 (some 1) es) [row]:=
 SlR.mk (rows:=[row]) (by intro r hr';rw[List.mem_singleton]at hr';rw[hr'];exact hr) (by simpa using h) rfl (by simp)
theorem qSW{zs c:List AV}(h:c.length=zs.length):qAl (repl 1 zs) [(0,zs.length,.agg c)]=some c:=by
 have e0:repl 1 zs=zs:=by simp[repl]
 rw[e0];have e2:Nat.beq c.length zs.length=true:=by rw[h];exact Nat.beq_refl _
 have e3:Nat.ble (0+c.length) zs.length=true:=bL (by omega);simp only[qAl,qFW,e2,e3,Bool.and_self,cond_true];unfold qBI;rw[List.take_zero,List.nil_append,List.drop_eq_nil_of_le (by omega),List.append_nil]
def LkOk(lf sp:Nat)(L:List RLk):Prop:=(L.map λx=>(x.1,x.2.1)).Nodup/\∀x∈L,(0<=x.1/\x.1<lf)/\((lf:Int)<=x.2.1/\x.2.1<(lf+sp:Nat))/\1<=x.2.2/\x.2.2<=2
theorem qWi{lf sp:Nat}(h:Tk s0 t b)(h1:lf<=10)(h2:sp<=10)(hK:∀t' v (L:List RLk),Tk s0 t' b->qAc (λi=>i=b) t t'->AccR 91 3 t t' v (L.map lkC)->LkOk lf sp L->L.length<=lf*sp->K v t'):wC TP XX 49 [.ptr b 0,.int .i64 (lf:Int),.int .i64 (sp:Int)] K t:=by
 refine qQU ?_;refine⟨λys t2 m=>∃(a:Nat) (v:AV) (L:List RLk),ys=[v,.int .i64 (a:Int)]/\a<=lf/\m=lf-a/\Tk s0 t2 b/\qAc (λi=>i=b) t t2/\AccR 91 3 t t2 v (L.map lkC)/\LkOk lf sp L/\L.length<=a*sp/\∀x∈L,x.1<a,⟨_,0,.nilslc,[],rfl,by omega,rfl,h,.refl _ _,⟨(λr h=>by cases h),.inl ⟨rfl,rfl⟩⟩,⟨.nil,by simp⟩,by simp,by simp⟩,?_⟩;rintro f t2 m ⟨a,v,L,hy,ha,rfl,tk,kp,acc,ok,len,lt⟩;simp only[cI,and_true]at hy;rw[hy.1,hy.2];simp only[qLY,qAP,qAB];refine qAJ (λhlt=>?_) (λhge=>?_)
 rotate_left
 ·have hge:a=lf:=by have:=oF hge;omega
  subst hge;exact hK t2 v L tk kp acc ok len
 have hlt:a<lf:=by have:=oT hlt;omega
 refine⟨λys t3 m=>∃(c:Nat) (v:AV) (L:List RLk),ys=[v,.int .i64 (c:Int)]/\c<=sp/\m=sp-c/\Tk s0 t3 b/\qAc (λi=>i=b) t t3/\AccR 91 3 t t3 v (L.map lkC)/\LkOk lf sp L/\L.length<=a*sp+c/\∀x∈L,x.1<a∨(x.1=a/\x.2.1<(lf+c:Nat)),⟨_,0,v,L,rfl,by omega,rfl,tk,kp,acc,ok,by omega,λx hx=>.inl (lt x hx)⟩,?_⟩;rintro f t3 m ⟨c,v,L,hy,hc,rfl,tk,kp,acc,ok,len,lt⟩;simp only[cI,and_true]at hy;rw[hy.1,hy.2];have hmul:a*sp<=100:=Nat.le_trans (Nat.mul_le_mul (show a<=10 by omega) h2) (by omega);simp only[qMU,qAP,qAB];refine qAJ (λhlc=>?_) (λhgc=>?_)
 rotate_left
 ·have hgc:c=sp:=by have:=oF hgc;omega
  subst hgc;simp only[qAN,qAB];rw[qAb (by omega) (by omega)];refine⟨_,by omega,a+1,v,L,rfl,by omega,rfl,tk,kp,acc,ok,?_,λx hx=>?_⟩
  ·rw[Nat.add_mul];omega
  ·rcases lt x hx with q|⟨q,_⟩<;>omega
 have hlc:c<sp:=by have:=oT hlc;omega
 refine qBS tk (n:=8) (by omega) (by omega) λt4 r hr tk4 u4=>?_;have kp4:=kp.trans (u4.keep (fp:=λi=>i=b) rfl);have acc4:=acc.upto u4 h.at;simp only[qAX,qAV,Bool.true_bne,qAB];refine qAJ (λ_=>?_) (λ_=>?_)
 rotate_left
 ·simp only[qHN,qAN,qAB]
  rw[qAb (by omega) (by omega)];exact⟨_,by omega,c+1,v,L,rfl,by omega,rfl,tk4,kp4,acc4,ok,by omega,λx hx=>(lt x hx).imp id λ⟨q,q2⟩=>⟨q,by omega⟩⟩
 simp only[qAN,qAB];refine qBS tk4 (n:=2) (by omega) (by omega) λt5 r2 hr2 tk5 u5=>?_;have kp5:=kp4.trans (u5.keep (fp:=λi=>i=b) rfl);have acc5:=acc4.upto u5 h.at;simp only[qAN,qAB];rw[qAb (by omega) (by omega),qAb (by omega) (by omega)];refine qAA (a:=lkC ((a:Int),(lf:Int)+(c:Int),1+(r2:Int))) rfl (qAA (qSW (zs:=[(.int .i64 0),(.int .i64 0),(.int .i64 0)]) (c:=lkC ((a:Int),(lf:Int)+(c:Int),1+(r2:Int))) rfl) ⟨rfl,qAM λd t6 hd h6 u6=>?_⟩);have k6:=u6.sub hd;refine qVc h (tk5.more k6) (kp5.trans k6.keep) (acc5.sub k6) (row1 h6 rfl) (by rw[lM];omega) λv' t7 tk7 kp7 acc7=>?_;simp only[qHN,qAN,qAB];rw[qAb (by omega) (by omega)];refine⟨_,by omega,c+1,v',L ++ [((a:Int),(lf:Int)+(c:Int),1+(r2:Int))],rfl,by omega,rfl,tk7,kp7,by rw[List.map_append];exact acc7,⟨?_,λx hx=>?_⟩,by rw[lAp];simp only[List.length_singleton];omega,λx hx=>?_⟩
 ·rw[List.map_append,List.nodup_append]
  refine⟨ok.1,by simp,λp hp q hq e=>?_⟩;obtain⟨x,hx,rfl⟩:=List.mem_map.1 hp;simp only[List.map_cons,List.map_nil,List.mem_singleton]at hq;rw[hq]at e;simp only[Prod.mk.injEq]at e;rcases lt x hx with q|⟨q,q2⟩<;>omega
 ·rcases mP hx with q|q
  ·exact ok.2 x q
  ·rw[List.mem_singleton]at q
   rw[q];show(0<=(a:Int)/\(a:Int)<lf)/\((lf:Int)<=(lf:Int)+c/\(lf:Int)+c<(lf+sp:Nat))/\1<=1+(r2:Int)/\1+(r2:Int)<=2;omega
 ·rcases mP hx with q|q
  ·rcases lt x q with q'|⟨q',q2⟩
   ·exact .inl q'
   ·exact .inr ⟨q',by omega⟩
  ·rw[List.mem_singleton]at q
   rw[q];exact .inr ⟨rfl,by show(lf:Int)+c<(lf+(c+1):Nat);omega⟩
end Go.AM.TN
namespace Go.AM.TN
open Go Go.Proofs
variable {K:AV→Hq→Prop} {s s' s0 t:Hq} {v y:AV} {b:Nat}
theorem qMu{n:Int}(h1:0<=n)(h2:n<4294967296):qEC .u32 (.int .i64 n)=some (.int .u32 n):=by show some (AV.int .u32 (qBq .u32 n))=_;rw[show qBq .u32 n=n by simp only[qBq];rw[qHU _ _ _ (by omega) (by omega)];split<;>omega]
theorem qYO{n:Int}(h1:0<=n)(h2:n<9223372036854775808):qEC .u64 (.int .i64 n)=some (.int .u64 n):=by show some (AV.int .u64 (qBq .u64 n))=_;rw[show qBq .u64 n=n by simp only[qBq];rw[qHU _ _ _ (by omega) (by omega)];split<;>omega]
theorem w32{x:Int}(h1:0<=x)(h2:x<4294967296):IntKind.u32.wrap x=x:=by unfold IntKind.wrap;simp[IntKind.bits,IntKind.signed];omega
theorem zAAb{i:Nat}(h:i<1000):qGn .shl (.int .i64 (i:Int)) (.int .u64 16)=some (.int .i64 ((i*65536:Nat):Int)):=by
 show frc (qBq .i64 ((i:Int)*((2^(min 16 (IntKind.bits .i64)):Nat):Int))) (λn=>some (AV.int .i64 n))=_;rw[qCO,Nat.min_eq_left (show 16<=IntKind.bits .i64 by decide)];have:(i:Int)*((2^16:Nat):Int)=((i*65536:Nat):Int):=by omega
 rw[this,show qBq .i64 ((i*65536:Nat):Int)=((i*65536:Nat):Int)by simp only[qBq];rw[qHU _ _ _ (by omega) (by omega)];split<;>omega]
abbrev Bd:=Nat×Bool
def subN(i:Nat)(r:Bool):Int:=if r then 167772160+(i:Int)*65536 else 0
def gwN(i:Nat)(r:Bool):Int:=if r then 167772160+(i:Int)*65536+1 else 0
def lenN(r:Bool):Int:=if r then 24 else 0
def bdC(i:Nat)(x:Bd):List AV:=[.int .i64 (x.1:Int),.int .u32 (10+(i:Int)),.int .u32 (500+(i:Int)),.int .u32 (subN i x.2),.int .i64 (lenN x.2),.int .u32 (gwN i x.2)]
theorem qOA{b o n:Nat}{e:TypeId}{l cs:List AV}{K:Hq->Prop}(h:s b=some (false,.cells e l))(hl:cs.length=n)(ho:o+n<=l.length)(h1:qAa cs=true)
  (hk:∀s',s' b=some (false,.cells e (qBI l o cs))->Upto b s s'->K s'):oK (qAw s n (.ptr b o) (.agg cs)) K:=by
 refine qAA (a:=hset s b (false,.cells e (qBI l o cs))) ?_ (hk _ (by simp[hset]) λi hi=>by simp[hset,hi]);have e2:Nat.ble (o+cs.length) l.length=true:=bL (by omega);have e3:Nat.beq cs.length n=true:=by rw[hl];exact Nat.beq_refl _
 unfold qAw;unfold wrN;simp only[qFW,e3,cond_true,h,e2,h1,Bool.and_self]
theorem Tk.u(h:Tk s0 t b){c:Nat}(u:Upto c t s)(hc:s0 c=none)(hb:b≠c):Tk s0 s b:=h.keep (fp:=λi=>i=c) (u.keep rfl) hb λi hi=>by rw[hi];exact hc
theorem qJn{i k:Nat}(h:Tk s0 t b)(hi:i<100)(hk1:1<=k)(hk2:k<=100)(hK:∀t' (x:Bd),Tk s0 t' b->qAc (λi=>i=b) t t'->x.1<k->K (.agg (bdC i x)) t'):wC TP XX 50 [.ptr b 0,.int .i64 (i:Int),.int .i64 (k:Int)] K t:=by
 refine qP6 (qAM λb0 t1 hb0 h1 u1=>?_);have k1:=u1.sub hb0;refine qBS (h.more k1) hk1 (by omega) λt2 tn htn tk2 u2=>?_;have nb0:b0≠b:=λe=>by rw[e]at hb0;exact h.at hb0
 simp only[qAN,qAB];rw[qAb (by omega) (by omega),qMu (by omega) (by omega)];simp only[qAB];rw[qAb (by omega) (by omega),qMu (by omega) (by omega)];simp only[qAB];refine qAA (a:=bdC i (tn,false)) rfl (qAM λb9 t3 hb9 h3 u3=>qAT h3 rfl rfl rfl λt4 h4 u4=>?_);have k4:Sub t2 t4:=qAW (u3.sub hb9) u4 hb9;have nb9:b9≠b:=λe=>by rw[e]at hb9;exact tk2.at hb9
 refine qBS (tk2.more k4) (n:=4) (by omega) (by omega) λt5 r hr tk5 u5=>?_;have h5:t5 b9=some (false,.cells 69 (bdC i (tn,false))):=by rw[u5 _ nb9];exact h4
 have b0at:∀{x:Hq},Upto b t4 x->x b0=some (false,.cells 69 [(.int .i64 0),(.int .u32 0),(.int .u32 0),(.int .u32 0),(.int .i64 0),(.int .u32 0)]):=fun {x} u=>by rw[u _ nb0];refine k4 _ _ ?_;rw[u2 _ nb0];exact h1
 have n09:b0≠b9:=λe=>by
  have:=(k4.trans (Sub.refl t4))
  rw[<- e]at hb9;rw[u2 _ nb0,h1]at hb9;cases hb9
 have s0b9:s0 b9=none:=qA6 tk2.sub hb9;have s0b0:s0 b0=none:=qA6 h.sub hb0;have tb9:t b9=none:=qA6 k1 (by rw[<- u2 _ nb9];exact hb9);have kp5:qAc (λi=>i=b) t t5:=λj e hj ne=>by rw[u5 _ ne];refine k4 _ _ ?_;rw[u2 _ ne];exact k1 _ _ hj
 have fin:∀(x:Hq) (rb:Bool),Tk s0 x b->qAc (λi=>i=b) t x->x b9=some (false,.cells 69 (bdC i (tn,rb)))->x b0=some (false,.cells 69 [(.int .i64 0),(.int .u32 0),(.int .u32 0),(.int .u32 0),(.int .i64 0),(.int .u32 0)])->qF5 XX (.ptr b0 0) (.ptr b9 0) K x:=λx rb tk kp q1 q2=>by
  unfold qF5;refine qAA (qAU q1 rfl) (qAT q2 rfl rfl rfl λx2 q3 u3=>qAA (qAU q3 rfl) ?_);refine hK x2 (tn,rb) (tk.u u3 s0b0 (Ne.symm nb0)) (λj e hj ne=>?_) htn;have e2:j≠b0:=λq=>by rw[q,hb0]at hj;cases hj
  rw[u3 _ e2];exact kp _ _ hj ne
 simp only[qAX,qAV,Bool.true_bne,qAB];refine qAJ (λ_=>?_) (λ_=>fin t5 false tk5 kp5 h5 (b0at u5));simp only[zAAb (show i<1000 by omega),qAN,qAB];rw[qAb (by omega) (by omega),qMu (by omega) (by omega)];simp only[qAB];refine qAA (a:=[.int .u32 (167772160+((i*65536:Nat):Int)),.int .i64 24]) rfl ?_;simp only[qAI,zAY,qAB];refine qOA h5 rfl (by show 3+2<=6;omega) rfl λt6 h6 u6=>?_;have h6:t6 b9=some (false,.cells 69 [.int .i64 (tn:Int),.int .u32 (10+(i:Int)),.int .u32 (500+(i:Int)),.int .u32 (167772160+((i*65536:Nat):Int)),.int .i64 24,.int .u32 0]):=h6;have e3:[AV.int .i64 (tn:Int),.int .u32 (10+(i:Int)),.int .u32 (500+(i:Int)),.int .u32 (167772160+((i*65536:Nat):Int)),.int .i64 24,.int .u32 0][3]?=some (.int .u32 (167772160+((i*65536:Nat):Int))):=rfl;simp only[qAK h6,e3,qAN,qAB];rw[w32 (by omega) (by omega)];refine qBF h6 (by simp) rfl λt7 h7 u7=>?_;have h7:t7 b9=some (false,.cells 69 (bdC i (tn,true))):=by
  rw[h7];show some (false,Blk.cells 69 [.int .i64 (tn:Int),.int .u32 (10+(i:Int)),.int .u32 (500+(i:Int)),.int .u32 (167772160+((i*65536:Nat):Int)),.int .i64 24,.int .u32 (167772160+((i*65536:Nat):Int)+1)])=_;have e:((i*65536:Nat):Int)=(i:Int)*65536:=by omega
  rw[e];rfl
 have kp7:qAc (λi=>i=b) t t7:=λj e hj ne=>by
  have ne9:j≠b9:=λq=>by rw[q,tb9]at hj;cases hj
  rw[u7 _ ne9,u6 _ ne9];exact kp5 _ _ hj ne
 exact fin t7 true ((tk5.u u6 s0b9 (Ne.symm nb9)).u u7 s0b9 (Ne.symm nb9)) kp7 h7 (by rw[u7 _ n09,u6 _ n09];exact b0at u5)
abbrev Lkg:=Nat×Nat×Option Nat
def pfN:Option Nat->Int
 |some j=>167772160+(j:Int)*65536
 |none=>0
def plN:Option Nat->Int
 |some _=>16
 |none=>0
def lgC(x:Lkg):List AV:=[.int .i64 (x.1:Int),.int .i64 (x.2.1:Int),.int .u32 (pfN x.2.2),.int .i64 (plN x.2.2)]
def LgOk(k:Nat)(x:Lkg):Prop:=x.1<k/\x.2.1<k/\x.1≠x.2.1/\∀j,x.2.2=some j->j<4
theorem qZc{k:Nat}(h:Tk s0 t b)(hk1:2<=k)(hk2:k<=100)(hK:∀t' (x:Lkg),Tk s0 t' b->qAc (λi=>i=b) t t'->LgOk k x->K (.agg (lgC x)) t'):wC TP XX 54 [.ptr b 0,.int .i64 (k:Int)] K t:=by
 refine qS1 (qAM λb0 t1 hb0 h1 u1=>?_);have k1:=u1.sub hb0;have nb0:b0≠b:=λe=>by rw[e]at hb0;exact h.at hb0
 refine qBS (h.more k1) (by omega) (by omega) λt2 fr hfr tk2 u2=>?_;simp only[qAN,qDY,qAB];rw[qAb (by omega) (by omega),qAb (by omega) (by omega)];have ek:(k:Int)-1=((k-1:Nat):Int):=by omega
 rw[ek];refine qBS tk2 (n:=k-1) (by omega) (by omega) λt3 ad had tk3 u3=>?_;simp only[qAN,qAB];rw[qAb (by omega) (by omega),qH8 (show(k:Int)≠0 by omega)];have em:((fr:Int)+1+(ad:Int)).tmod (k:Int)=(((fr+1+ad) % k:Nat):Int):=by
  rw[Int.tmod_eq_emod_of_nonneg (by omega),Int.natCast_emod]
  congr 1
 rw[em];have hto:(fr+1+ad) % k<k:=Nat.mod_lt _ (by omega);have hne:fr≠(fr+1+ad) % k:=by
  by_cases q:fr+1+ad<k
  ·rw[Nat.mod_eq_of_lt q];omega
  ·rw[Nat.mod_eq_sub_mod (by omega),Nat.mod_eq_of_lt (by omega)];omega
 simp only[qAB];refine qAA (a:=lgC (fr,(fr+1+ad) % k,none)) rfl (qAM λb9 t4 hb9 h4 u4=>qAT h4 rfl rfl rfl λt5 h5 u5=>?_);have k5:Sub t3 t5:=qAW (u4.sub hb9) u5 hb9;have nb9:b9≠b:=λe=>by rw[e]at hb9;exact tk3.at hb9
 have at3:t3 b0=some (false,.cells 118 [(.int .i64 0),(.int .i64 0),(.int .u32 0),(.int .i64 0)]):=by rw[u3 _ nb0,u2 _ nb0];exact h1
 have n09:b0≠b9:=λe=>by rw[<- e,at3]at hb9;cases hb9
 have s0b9:s0 b9=none:=qA6 tk3.sub hb9;have s0b0:s0 b0=none:=qA6 h.sub hb0;have tb9:t b9=none:=qA6 k1 (by rw[<- u2 _ nb9,<- u3 _ nb9];exact hb9);refine qBS (tk3.more k5) (n:=2) (by omega) (by omega) λt6 r hr tk6 u6=>?_;have h6:t6 b9=some (false,.cells 118 (lgC (fr,(fr+1+ad) % k,none))):=by rw[u6 _ nb9];exact h5
 have z6:t6 b0=some (false,.cells 118 [(.int .i64 0),(.int .i64 0),(.int .u32 0),(.int .i64 0)]):=by rw[u6 _ nb0];exact k5 _ _ at3
 have kp6:qAc (λi=>i=b) t t6:=λj e hj ne=>by rw[u6 _ ne];refine k5 _ _ ?_;rw[u3 _ ne,u2 _ ne];exact k1 _ _ hj
 have fin:∀(x:Hq) (p:Option Nat),(∀j,p=some j->j<4)->Tk s0 x b->qAc (λi=>i=b) t x->x b9=some (false,.cells 118 (lgC (fr,(fr+1+ad) % k,p)))->x b0=some (false,.cells 118 [(.int .i64 0),(.int .i64 0),(.int .u32 0),(.int .i64 0)])->qIq XX (.ptr b0 0) (.ptr b9 0) K x:=λx p hp tk kp q1 q2=>by
  unfold qIq;refine qAA (qAU q1 rfl) (qAT q2 rfl rfl rfl λx2 q3 u3=>qAA (qAU q3 rfl) ?_);refine hK x2 (fr,(fr+1+ad) % k,p) (tk.u u3 s0b0 (Ne.symm nb0)) (λj e hj ne=>?_) ⟨hfr,hto,hne,hp⟩;have e2:j≠b0:=λq=>by rw[q,hb0]at hj;cases hj
  rw[u3 _ e2];exact kp _ _ hj ne
 simp only[qAX,qAV,Bool.false_bne,qAB];refine qAJ (λ_=>?_) (λ_=>fin t6 none (λj e=>by cases e) tk6 kp6 h6 z6);refine qBS tk6 (n:=4) (by omega) (by omega) λt7 j hj tk7 u7=>?_;have h7:t7 b9=some (false,.cells 118 (lgC (fr,(fr+1+ad) % k,none))):=by rw[u7 _ nb9];exact h6
 have z7:=z6;rw[<- u7 _ nb0]at z7;have kp7:=kp6.trans (u7.keep (fp:=λi=>i=b) rfl);simp only[zAAb (show j<1000 by omega),qAN,qAB];rw[qAb (by omega) (by omega),qMu (by omega) (by omega)];simp only[qAB];refine qAA (a:=[.int .u32 (167772160+((j*65536:Nat):Int)),.int .i64 16]) rfl ?_;simp only[qAI,zAY,qAB];refine qOA h7 rfl (by show 2+2<=4;omega) rfl λt8 h8 u8=>?_;have h8:t8 b9=some (false,.cells 118 (lgC (fr,(fr+1+ad) % k,some j))):=by
  rw[h8];show some (false,Blk.cells 118 [.int .i64 (fr:Int),.int .i64 (((fr+1+ad) % k:Nat):Int),.int .u32 (167772160+((j*65536:Nat):Int)),.int .i64 16])=_;have e:((j*65536:Nat):Int)=(j:Int)*65536:=by omega
  rw[e];rfl
 refine fin t8 (some j) (λj' e=>by cases e;exact hj) (tk7.u u8 s0b9 (Ne.symm nb9)) (λi e hi ne=>?_) h8 (by rw[u8 _ n09];exact z7);have ne9:i≠b9:=λq=>by rw[q,tb9]at hi;cases hi
 rw[u8 _ ne9];exact kp7 _ _ hi ne
theorem qZe{x y:Lkg}(hx:∀j,x.2.2=some j->j<4)(hy:∀j,y.2.2=some j->j<4)(h:lgC x=lgC y):x=y:=by
 obtain⟨a,c,p⟩:=x;obtain⟨a',c',p'⟩:=y;unfold lgC at h;simp only[cI,AV.int.injEq,true_and,and_true]at h;obtain⟨h1,h2,h3,h4⟩:=h;have h1:(a:Int)=a':=h1;have h2:(c:Int)=c':=h2;have:p=p':=by
  cases p with
  | none=>cases p' with
    |none=>rfl
    |some j=>exact absurd h4 (by show ¬(0:Int)=16;omega)
  | some j=>cases p' with
    |none=>exact absurd h4 (by show ¬(16:Int)=0;omega)
    | some j'=>
      have h3:167772160+(j:Int)*65536=167772160+(j':Int)*65536:=h3;have:j=j':=by omega
      rw[this]
 rw[this,show a=a' by omega,show c=c' by omega]
def mB(r:Option Bool)(k:Option Bool):Option Bool:=match r with
 |some true=>k
 |some false=>some false
 |none=>none
theorem qD1{a b:Int}:eqI a b=decide (a=b):=by
 rw[qD5]
 by_cases h:a=b
 ·rw[h];simp
 ·rw[decide_eq_false h];simpa using h
theorem zABr(a c p q a' c' p' q':Int):qGg TP 118 (.agg [.int .i64 a,.int .i64 c,.int .u32 p,.int .i64 q]) (.agg [.int .i64 a',.int .i64 c',.int .u32 p',.int .i64 q'])=mB (some (eqI a a')) (mB (some (eqI c c')) (mB (mB (some (eqI p p')) (mB (some (eqI q q')) (some true))) (some true))):=by kernel_rfl
theorem zACY{x y:Lkg}(hx:∀j,x.2.2=some j->j<4)(hy:∀j,y.2.2=some j->j<4):qGg TP 118 (.agg (lgC x)) (.agg (lgC y))=some (decide (x=y)):=by
 have e:qGg TP 118 (.agg (lgC x)) (.agg (lgC y))=mB (some (eqI (x.1:Int) y.1)) (mB (some (eqI (x.2.1:Int) y.2.1)) (mB (mB (some (eqI (pfN x.2.2) (pfN y.2.2))) (mB (some (eqI (plN x.2.2) (plN y.2.2))) (some true))) (some true))):=zABr _ _ _ _ _ _ _ _;rw[e,qD1,qD1,qD1,qD1]
 by_cases h:x=y
 ·subst h
  simp[mB]
 ·rw[decide_eq_false h]
  by_cases h1:(x.1:Int)=y.1
  rotate_left
  ·simp[mB,h1]
  by_cases h2:(x.2.1:Int)=y.2.1
  rotate_left
  ·simp[mB,h1,h2]
  by_cases h3:pfN x.2.2=pfN y.2.2
  rotate_left
  ·simp[mB,h1,h2,h3]
  by_cases h4:plN x.2.2=plN y.2.2
  rotate_left
  ·simp[mB,h1,h2,h3,h4]
  ·exfalso
   refine h (qZe hx hy ?_);unfold lgC;rw[h1,h2,h3,h4]
theorem qXi{v:AV}{l:List Lkg}{x:Lkg}{t0:Hq}(h0:Tk s0 t0 b)(tk:Tk s0 t b)(kp:qAc (λi=>i=b) t0 t)(acc:AccR 118 4 t0 t v (l.map lgC))(hl:l.length<=100)(hx:∀j,x.2.2=some j->j<4)(hall:∀y∈l,∀j,y.2.2=some j->j<4)
  (hK:∀v' t' l',Tk s0 t' b->qAc (λi=>i=b) t0 t'->AccR 118 4 t0 t' v' (l'.map lgC)->(l'=l∨(x ∉ l/\l'=l ++ [x]))->K v' t'):wC TP XX 53 [v,.agg (lgC x)] K t:=by
 refine qQh ⟨rfl,qAM λc t1 hc h1 u1=>?_⟩;have k1:=u1.sub hc;have h1:t1 c=some (false,.cells 118 (lgC x)):=h1;refine⟨λys t2 m=>∃i:Nat,ys=[.int .i64 (i:Int)]/\i<=l.length/\m=l.length-i/\t2=t1/\x ∉ l.take i,⟨_,0,rfl,by omega,rfl,rfl,by simp⟩,?_⟩;rintro f t2 m ⟨i,hy,hi,rfl,rfl,hq⟩;simp only[cI,and_true]at hy;rw[hy];have acc1:=acc.sub k1;simp only[qMR,acc1.sl.len,lM,qAP,qAB];refine qAJ (λhlt=>?_) (λhge=>?_)
 ·have hlt:i<l.length:=by have:=oT hlt;omega
  have hli:l[i]?=some l[i]:=gE hlt;obtain⟨pb,po,e1,e2,_⟩:=acc1.sl.get (i:=i) (r:=lgC l[i]) (by rw[List.getElem?_map,hli];rfl);simp only[e1,e2,qAB];refine qAA (qAU h1 rfl) ?_;rw[zACY (hall _ (List.getElem_mem hlt)) hx];simp only[qAV,Bool.false_bne,qAB];refine qAJ (λce=>?_) (λce=>?_)
  ·exact hK v t2 l (tk.more k1) (kp.trans k1.keep) acc1 (.inl rfl)
  ·have ce:=oF ce
   simp only[qAN,qAB];rw[qAb (by omega) (by omega)];refine⟨_,by omega,i+1,rfl,by omega,rfl,by trivial,?_⟩;rw[List.take_add_one,hli];simp only[Option.toList_some,List.mem_append,List.mem_singleton];rintro (q|q)
   ·exact hq q
   ·exact ce q.symm
 ·have hge:i=l.length:=by have:=oF hge;omega
  subst hge;rw[List.take_length]at hq;refine qAA (qAU h1 rfl) (qAA (qSW (zs:=[(.int .i64 0),(.int .i64 0),(.int .u32 0),(.int .i64 0)]) (c:=lgC x) rfl) ⟨rfl,qAM λd t3 hd h3 u3=>?_⟩);have k3:=k1.trans (u3.sub hd);refine qVc h0 (tk.more k3) (kp.trans k3.keep) (acc.sub k3) (row1 h3 rfl) (by rw[lM];omega) λv' t4 tk4 kp4 acc4=>?_;exact hK v' t4 (l ++ [x]) tk4 kp4 (by rw[List.map_append];exact acc4) (.inr ⟨hq,rfl⟩)
end Go.AM.TN
namespace Go.AM.TN
open Go Go.Proofs
variable {K:AV→Hq→Prop} {s s' s0 t:Hq} {v:AV} {b:Nat}
abbrev Sg:=List Nat×List Nat
def SgR(s:Hq)(v:AV)(S:List Sg):Prop:=∃vs:List (AV×AV),SlR 2 s v (vs.map λp=>[p.1,p.2])/\vs.length=S.length/\∀(i:Nat) (q:AV×AV) (x:Sg),vs[i]?=some q->S[i]?=some x->Sl s q.1 (iz x.1)/\Sl s q.2 (iz x.2)
theorem SgR.sub{S:List Sg}(h:SgR s v S)(k:Sub s s'):SgR s' v S:=by obtain⟨vs,h1,h2,h3⟩:=h;exact⟨vs,h1.sub k,h2,λi q x a c=>⟨(h3 i q x a c).1.sub k,(h3 i q x a c).2.sub k⟩⟩
theorem SgR.len{S:List Sg}(h:SgR s v S):qAQ v=some S.length:=by obtain⟨vs,h1,h2,_⟩:=h;rw[h1.len,lM,h2]
theorem SgR.at{S:List Sg}(h:SgR s v S){i:Nat}{x:Sg}(hx:S[i]?=some x):∃pb po l1 l2,qAY 2 v (.int .i64 (i:Int))=some (.ptr pb po)/\rdN s 2 (.ptr pb po)=some [l1,l2]/\rd1 s (.ptr pb po)=some l1/\rd1 s (.ptr pb (po+1))=some l2/\Sl s l1 (iz x.1)/\Sl s l2 (iz x.2):=by
 obtain⟨vs,h1,h2,h3⟩:=h;have hi:i<vs.length:=by rw[h2];exact(gS hx).1
 have hq:vs[i]?=some vs[i]:=gE hi;obtain⟨pb,po,e1,e2,e3⟩:=h1.get (i:=i) (r:=[vs[i].1,vs[i].2]) (by rw[List.getElem?_map,hq];rfl);obtain⟨a,c⟩:=h3 i _ x hq hx;exact⟨pb,po,vs[i].1,vs[i].2,e1,e2,e3 0 (by omega),e3 1 (by omega),a,c⟩
theorem SgR.one{S:List Sg}(h:SgR s v S):v.one=true:=by obtain⟨vs,h1,_⟩:=h;exact h1.one
abbrev Hst:=Nat×Nat×Bool×Bool
def ipN(i:Nat)(x:Hst):Int:=if x.2.2.1 then 167772160+(x.1:Int)*65536+(10+(i:Int))else 0
def sgN(x:Hst):Int:=if x.2.2.2 then -1 else(x.2.1:Int)
def hoC(i:Nat)(x:Hst):List AV:=[.int .u64 (2199023951872+(i:Int)),.int .u32 (ipN i x),.int .i64 (x.1:Int),.int .i64 (sgN x)]
def qFV(B:List Bd):List (List AV):=B.mapIdx λi x=>bdC i x
def qHg(H:List Hst):List (List AV):=H.mapIdx λi x=>hoC i x
theorem qPv{B:List Bd}{i:Nat}{x:Bd}(h:B[i]?=some x):(qFV B)[i]?=some (bdC i x):=by unfold qFV;rw[List.getElem?_mapIdx,h];rfl
theorem qNM{B:List Bd}:(qFV B).length=B.length:=by unfold qFV;simp
theorem qTc{B:List Bd}{x:Bd}:qFV (B ++ [x])=qFV B ++ [bdC B.length x]:=by unfold qFV;rw[List.mapIdx_concat]
theorem qTJ{H:List Hst}:(qHg H).length=H.length:=by unfold qHg;simp
theorem qSy{H:List Hst}{x:Hst}:qHg (H ++ [x])=qHg H ++ [hoC H.length x]:=by unfold qHg;rw[List.mapIdx_concat]
def SgOk(lf n:Nat)(x:Sg):Prop:=x.1.Pairwise (· < ·)/\x.1≠[]/\(∀i∈x.1,i<lf)/\x.1.length<=3/\x.2.Pairwise (· < ·)/\x.2≠[]/\(∀i∈x.2,i<n)/\x.2.length<=4
def HoOk(B:List Bd)(S:List Sg)(x:Hst):Prop:=(∃g,S[x.2.1]?=some g/\x.1∈g.2)/\(x.2.2.1=true->∃d,B[x.1]?=some d/\d.2=true)
theorem qOy{i:Nat}{cs:List AV}{bv sv:AV}{B:List Bd}{S:List Sg}{lf:Nat}(h:Tk s0 t b)(hi:i<100)(hl:cs.length=19)(ho:qAa cs=true)(h4:cs[4]?=some bv)(h5:cs[5]?=some sv)(hB:SlR 6 (hdel t b) bv (qFV B))(hS:SgR (hdel t b) sv S)(hS1:1<=S.length)(hS2:S.length<=100)(hok:∀x∈S,SgOk lf B.length x)(hB2:B.length<=100)
  (hK:∀t' (x:Hst),Tk s0 t' b->qAc (λi=>i=b) t t'->HoOk B S x->K (.agg (hoC i x)) t'):wC TP XX 52 [.ptr b 0,.agg cs,.int .i64 (i:Int)] K t:=by
 have hdt:∀{x:Hq},qAc (λi=>i=b) t x->Sub (hdel t b) x:=fun {x} kp j e hj=>by
  unfold hdel at hj;split at hj
  ·cases hj
  ·rename_i ne
   exact kp _ _ hj ne
 refine qTh ⟨ho,qAM λc0 t1 hc0 h1 u1=>qAM λb2 t2 hb2 h2 u2=>?_⟩;have h1:t1 c0=some (false,.cells 31 cs):=h1;have k1:=u1.sub hc0;have k2:=u2.sub hb2;have k02:=k1.trans k2;have c2:=k2 _ _ h1;have nc0:c0≠b:=λe=>by rw[e]at hc0;exact h.at hc0
 have nb2:b2≠b:=λe=>by rw[e]at hb2;exact(h.more k1).at hb2
 simp only[qAI,zAY,qAK c2,h5,hS.len,qAB];refine qBS (h.more k02) hS1 (by omega) λt3 sg hsg tk3 u3=>?_;have kp3:qAc (λi=>i=b) t t3:=k02.keep.trans (u3.keep rfl);have c3:t3 c0=some (false,.cells 31 cs):=by rw[u3 _ nc0];exact c2
 have z3:t3 b2=some (false,.cells 61 [(.int .u64 0),(.int .u32 0),(.int .i64 0),(.int .i64 0)]):=by rw[u3 _ nb2];exact h2
 obtain⟨g,hg⟩:∃g,S[sg]?=some g:=⟨_,gE hsg⟩
 have gok:=hok g (mG hg);obtain⟨pb,po,l1,l2,e1,e2,e3,e4,q1,q2⟩:=(hS.sub (hdt kp3)).at hg;simp only[qAI,qAK c3,h5,e1,e4,qAN,qAB];rw[qAb (by omega) (by omega),qYO (by omega) (by omega)];simp only[q2.len,qMk,qAB];have gl:0<g.2.length:=List.length_pos_iff.2 gok.2.2.2.2.2.1;refine qBS tk3 (n:=g.2.length) (by omega) (by have:=gok.2.2.2.2.2.2.2;omega) λt4 ix hix tk4 u4=>?_;have kp4:=kp3.trans (u4.keep (fp:=λi=>i=b) rfl);have q24:Sl t4 l2 (iz g.2):=by
  obtain⟨pb',po',l1',l2',e1',_,_,e4',_,q2'⟩:=(hS.sub (hdt kp4)).at hg;have e5:rd1 t4 (.ptr pb (po+1))=some l2:=by
   obtain⟨vs,h1',h2',h3'⟩:=hS;have hi':sg<vs.length:=by rw[h2'];exact hsg
   have hq:vs[sg]?=some vs[sg]:=gE hi';obtain⟨pb1,po1,x1,_,x3⟩:=(h1'.sub (hdt kp3)).get (i:=sg) (r:=[vs[sg].1,vs[sg].2]) (by rw[List.getElem?_map,hq];rfl);obtain⟨pb2,po2,y1,_,y3⟩:=(h1'.sub (hdt kp4)).get (i:=sg) (r:=[vs[sg].1,vs[sg].2]) (by rw[List.getElem?_map,hq];rfl);rw[e1]at x1 y1;have x1:=Option.some.inj x1;have y1:=Option.some.inj y1;cases x1;cases y1;have x4:=x3 1 (by omega);have y4:=y3 1 (by omega);rw[e4]at x4;rw[y4];exact x4.symm
  rw[e1]at e1';have e1':=Option.some.inj e1';cases e1';rw[e5]at e4';have:=Option.some.inj e4';rw[this];exact q2'
 obtain⟨p,g1,g2⟩:=q24.get (i:=ix) (by rw[qMk];exact hix);have g3:(iz g.2)[ix]?=some (.int .i64 (g.2[ix]:Int)):=by unfold iz;simp[hix]
 rw[g3]at g2;have hbd:=gok.2.2.2.2.2.2.1 _ (List.getElem_mem hix);have hmem:=List.getElem_mem hix;generalize g.2[ix]=bd at g2 hbd hmem;have c4:t4 c0=some (false,.cells 31 cs):=by rw[u4 _ nc0];exact c3
 have z4:t4 b2=some (false,.cells 61 [(.int .u64 0),(.int .u32 0),(.int .i64 0),(.int .i64 0)]):=by rw[u4 _ nb2];exact z3
 simp only[g1,g2,qAB];refine qAA (a:=hoC i (bd,sg,false,false)) rfl (qAM λb9 t5 hb9 h5' u5=>qAT h5' rfl rfl rfl λt6 h6 u6=>?_);have k6:Sub t4 t6:=qAW (u5.sub hb9) u6 hb9;have nb9:b9≠b:=λe=>by rw[e]at hb9;exact tk4.at hb9
 have n29:b2≠b9:=λe=>by rw[<- e,z4]at hb9;cases hb9
 have n09:c0≠b9:=λe=>by rw[<- e,c4]at hb9;cases hb9
 have s0b9:s0 b9=none:=qA6 tk4.sub hb9;have tb2:t b2=none:=qA6 k1 hb2;have s0b2:s0 b2=none:=qA6 h.sub tb2;have tb9:t b9=none:=qA6 k02 (by rw[<- u3 _ nb9,<- u4 _ nb9];exact hb9);have kp6:=kp4.trans (k6.keep (fp:=λi=>i=b));obtain⟨d,hd⟩:∃d,B[bd]?=some d:=⟨_,gE hbd⟩
 have c6:=k6 _ _ c4;have bt:(hoC i (bd,sg,false,false))[2]?=some (.int .i64 (bd:Int)):=rfl;obtain⟨pb6,po6,w1,_,w3⟩:=(hB.sub (hdt kp6)).get (i:=bd) (qPv hd);have w5:rd1 t6 (.ptr pb6 (po6+5))=some (.int .u32 (gwN bd d.2)):=w3 5 (by omega);simp only[qAI,qAK c6,h4,qAK h6,bt,w1,w5,qAX,qAV,Bool.true_bne,qAB];have fin2:∀(x:Hq) (on lone:Bool),(on=true->d.2=true)->Tk s0 x b->qAc (λi=>i=b) t x->x b9=some (false,.cells 61 (hoC i (bd,sg,on,lone)))->x b2=some (false,.cells 61 [(.int .u64 0),(.int .u32 0),(.int .i64 0),(.int .i64 0)])->qIi XX (.ptr b2 0) (.ptr b9 0) K x:=λx on lone hon tk kp q1 q2=>by
  unfold qIi;refine qAA (qAU q1 rfl) (qAT q2 rfl rfl rfl λx2 q3 u3=>qAA (qAU q3 rfl) ?_);refine hK x2 (bd,sg,on,lone) (tk.u u3 s0b2 (Ne.symm nb2)) (λj e hj ne=>?_) ⟨⟨g,hg,hmem⟩,λe=>⟨d,hd,hon e⟩⟩;have e2:j≠b2:=λq=>by rw[q,tb2]at hj;cases hj
  rw[u3 _ e2];exact kp _ _ hj ne
 have fin1:∀(x:Hq) (on:Bool),(on=true->d.2=true)->Tk s0 x b->qAc (λi=>i=b) t x->x b9=some (false,.cells 61 (hoC i (bd,sg,on,false)))->x b2=some (false,.cells 61 [(.int .u64 0),(.int .u32 0),(.int .i64 0),(.int .i64 0)])->qIf XX (.ptr b 0) (.ptr b2 0) (.ptr b9 0) K x:=λx on hon tk kp q1 q2=>by
  unfold qIf;refine qBS tk (n:=10) (by omega) (by omega) λx2 r hr tk2 u2=>?_;have q12:=q1;rw[<- u2 _ nb9]at q12;have q22:=q2;rw[<- u2 _ nb2]at q22;have kp2:=kp.trans (u2.keep (fp:=λi=>i=b) rfl);simp only[qAX,qAV,Bool.false_bne,qAB];refine qAJ (λ_=>?_) (λ_=>fin2 x2 on false hon tk2 kp2 q12 q22);simp only[qAI,zAY,qAB];refine qBF q12 (show 3<(hoC i (bd,sg,on,false)).length from by show 3<4;omega) rfl λx3 q3 u3=>?_;refine fin2 x3 on true hon (tk2.u u3 s0b9 (Ne.symm nb9)) (λj e hj ne=>?_) q3 (by rw[u3 _ n29];exact q22);have e2:j≠b9:=λq=>by rw[q,tb9]at hj;cases hj
  rw[u3 _ e2];exact kp2 _ _ hj ne
 have z6:=k6 _ _ z4;refine qAJ (λcg=>?_) (λcg=>?_)
 rotate_left
 ·rw[cg]
  simp only[qIo,qMQ,qAD,qAB];exact fin1 t6 false (λe=>by cases e) (tk4.more k6) kp6 h6 z6
 rw[cg];have hd2:d.2=true:=by
  cases e:d.2 with
  |true=>rfl
  | false=>
    rw[e]at cg;simp[gwN]at cg
 refine qBS (tk4.more k6) (n:=6) (by omega) (by omega) λt7 r hr tk7 u7=>?_;have h7:t7 b9=some (false,.cells 61 (hoC i (bd,sg,false,false))):=by rw[u7 _ nb9];exact h6
 have z7:=z6;rw[<- u7 _ nb2]at z7;have c7:t7 c0=some (false,.cells 31 cs):=by rw[u7 _ nc0];exact c6
 have kp7:=kp6.trans (u7.keep (fp:=λi=>i=b) rfl);simp only[qAX,qAV,Bool.true_bne,qAB,qIo,qGj];refine qAJ (λ_=>?_) (λ_=>fin1 t7 false (λe=>by cases e) tk7 kp7 h7 z7);obtain⟨pb7,po7,w1',_,w3'⟩:=(hB.sub (hdt kp7)).get (i:=bd) (qPv hd);have w6:rd1 t7 (.ptr pb7 (po7+3))=some (.int .u32 (subN bd d.2)):=w3' 3 (by omega);have es:subN bd d.2=167772160+(bd:Int)*65536:=by rw[hd2];rfl
 rw[es]at w6;have hbd100:bd<100:=by omega
 simp only[qAI,zAY,qAK c7,h4,qAK h7,bt,w1',w6,qAN,qAB];rw[qAb (by omega) (by omega),qMu (by omega) (by omega)];simp only[qAN,qAB];rw[w32 (by omega) (by omega)];refine qBF h7 (show 1<(hoC i (bd,sg,false,false)).length from by show 1<4;omega) rfl λt8 h8 u8=>?_;refine fin1 t8 true (λ_=>hd2) (tk7.u u8 s0b9 (Ne.symm nb9)) (λj e hj ne=>?_) h8 (by rw[u8 _ n29];exact z7);have e2:j≠b9:=λq=>by rw[q,tb9]at hj;cases hj
 rw[u8 _ e2];exact kp7 _ _ hj ne
end Go.AM.TN
namespace Go.AM.TN
open Go Go.Proofs
variable {s s0 t:Hq} {lv v y:AV} {b:Nat}
def offV(v:AV)(t:Hq):Hq:=match v with
 | .slc b _ _ _ _=>hdel t b
 |_=>t
theorem qOI{v:AV}:Sub (offV v t) t:=λi x hi=>by
 unfold offV at hi;split at hi
 ·unfold hdel at hi
  split at hi
  ·cases hi
  ·exact hi
 ·exact hi
theorem qIV{v:AV}{i:Nat}(h:∀b o n c e,v=.slc b o n c e->i≠b):offV v t i=t i:=by
 unfold offV;split
 ·exact if_neg (h _ _ _ _ _ rfl)
 ·rfl
theorem _root_.Go.AM.AccR.offv{elem:TypeId}{es:Nat}{rows:List (List AV)}(h:AccR elem es s0 t v rows):AccR elem es (offV v t) t v rows:=by refine⟨h.1,h.2.imp id λ⟨i,q1,q2,q3⟩=>⟨i,?_,q2,q3⟩⟩;rw[q2];exact if_pos rfl
theorem _root_.Go.AM.AccR.own{elem:TypeId}{es:Nat}{rows:List (List AV)}(h:AccR elem es s0 t v rows){i:Nat}(hi:s0 i≠none):∀b o n c e,v=.slc b o n c e->i≠b:=λb o n c e q q2=>by
 rcases h.2 with⟨r,_⟩|⟨j,r1,r2,_⟩
 ·rw[r]at q;cases q
 ·rw[r2]at q;cases q;exact hi (by rw[q2];exact r1)
structure FS(el:TypeId)(s0 H t:Hq)(b3 b24:Nat)(cs:List AV):Prop where
 tk:Tk s0 t b3
 fb:t b24=some (false,.cells el cs)
 sub:Sub H t
 n3:H b3=none
 n24:H b24=none
 base:Sub s0 H
 ne:b3≠b24
variable {el:TypeId} {H:Hq} {b3 b24:Nat} {cs:List AV}
def ext(H t:Hq)(b3 b24:Nat):Hq:=λi=>if i=b3∨i=b24 then t i else H i
theorem FS.f0(z:FS el s0 H t b3 b24 cs):s0 b24=none:=qA6 z.base z.n24
theorem FS.e1(z:FS el s0 H t b3 b24 cs){i:Nat}(h:i=b3∨i=b24):ext H t b3 b24 i=t i:=if_pos h
theorem FS.e2(z:FS el s0 H t b3 b24 cs):Sub H (ext H t b3 b24):=λi e hi=>by
 unfold ext;rw[if_neg]
 ·exact hi
 ·rintro (q|q)
  ·rw[q,z.n3]at hi;cases hi
  ·rw[q,z.n24]at hi;cases hi
theorem qSH{elem:TypeId}{es k:Nat}{rows rows':List (List AV)}{v':AV}{t2 t3:Hq}{R:Hq->Prop}(z:FS el s0 H t b3 b24 cs)(acc:AccR elem es (ext H t b3 b24) t v rows)(kp:qAc (λi=>i=b3) t t2)(tk2:t2 b3≠none)(a3:AccR elem es (offV v t2) t3 v' rows')(ko:qAc (λi=>i=b3) (offV v t2) t3)(tk3:Tk s0 t3 b3)(hk:k<cs.length)
  (hK:∀t4 H',FS el s0 H' t4 b3 b24 (cs.set k v')->AccR elem es (ext H' t4 b3 b24) t4 v' rows'->Sub H H'->(∀i e,t2 i=some e->i≠b3->i≠b24->(∀b o n c e,v=.slc b o n c e->i≠b)->H' i=some e)->R t4) :
  oK (wr1 t3 (.ptr b24 k) v') R:=by
 have n3:∀b o n c e,v=.slc b o n c e->b3≠b:=acc.own (by rw[z.e1 (.inl rfl)];exact z.tk.at);have n24:∀b o n c e,v=.slc b o n c e->b24≠b:=acc.own (by rw[z.e1 (.inr rfl),z.fb];simp);have nH:∀{i e},H i=some e->∀b o n c e,v=.slc b o n c e->i≠b:=fun {i e} hi=>acc.own (by rw[z.e2 _ _ hi];simp);have fb3:t3 b24=some (false,.cells el cs):=ko _ _ (by rw[qIV n24];exact kp _ _ z.fb (Ne.symm z.ne)) (Ne.symm z.ne);refine qBF fb3 hk a3.sl.one λt4 h4 u4=>?_;have cb:∀c o n cp e,v'=.slc c o n cp e->offV v t2 c=none/\t3 c≠none:=λc o n cp e q=>by
  rcases a3.2 with⟨r,_⟩|⟨j,r1,r2,r3⟩
  ·rw[r]at q;cases q
  ·rw[r2]at q;cases q;exact⟨r1,by rw[r3];simp⟩
 have m3:∀c o n cp e,v'=.slc c o n cp e->b3≠c:=λc o n cp e q q2=>by have:=(cb c o n cp e q).1;rw[<- q2,qIV n3]at this;exact tk2 this
 have m24:∀c o n cp e,v'=.slc c o n cp e->b24≠c:=λc o n cp e q q2=>by have:=(cb c o n cp e q).1;rw[<- q2,qIV n24,kp _ _ z.fb (Ne.symm z.ne)]at this;cases this
 have hH':∃H':Hq,H'=λi=>if i=b3∨i=b24 then none else offV v' t4 i:=⟨_,rfl⟩
 obtain⟨H',hH'⟩:=hH';have H'at:∀{i e},t2 i=some e->i≠b3->i≠b24->(∀b o n c e,v=.slc b o n c e->i≠b)->H' i=some e:=fun {i e} hi i1 i2 i3=>by
  have hi3:=ko i e (by rw[qIV i3];exact hi) i1;rw[hH'];show(if i=b3∨i=b24 then none else offV v' t4 i)=some e;rw[if_neg (by rintro (q|q)<;>contradiction),qIV,u4 _ i2]
  ·exact hi3
  ·intro c o n cp e' q q2
   have:=(cb c o n cp e' q).1;rw[<- q2,qIV i3,hi]at this;cases this
 have HH:Sub H H':=λi e hi=>by
  have i1:i≠b3:=λq=>by rw[q,z.n3]at hi;cases hi
  have i2:i≠b24:=λq=>by rw[q,z.n24]at hi;cases hi
  exact H'at (kp _ _ (z.sub _ _ hi) i1) i1 i2 (nH hi)
 have sH:Sub H' t4:=λi e hi=>by
  rw[hH']at hi;have hi:(if i=b3∨i=b24 then none else offV v' t4 i)=some e:=hi;split at hi
  ·cases hi
  ·exact qOI _ _ hi
 have tk4:Tk s0 t4 b3:=tk3.u u4 z.f0 z.ne;refine hK t4 H' ⟨tk4,h4,sH,by rw[hH'];simp,by rw[hH'];simp,z.base.trans HH,z.ne⟩ ⟨a3.1,a3.2.imp id λ⟨c,q0,q1,q2⟩=>⟨c,?_,q1,?_⟩⟩ HH λi e=>H'at
 ·unfold ext
  rw[if_neg (by rintro (q|q);exact m3 c _ _ _ _ q1 q.symm;exact m24 c _ _ _ _ q1 q.symm),hH'];show(if c=b3∨c=b24 then none else offV v' t4 c)=none;rw[q1];split
  ·rfl
  ·exact if_pos rfl
 ·rw[u4 _ (Ne.symm (m24 c _ _ _ _ q1))]
  exact q2
theorem qTm{elem:TypeId}{es:Nat}{rows:List (List AV)}{t2:Hq}(z:FS el s0 H t b3 b24 cs)(acc:AccR elem es (ext H t b3 b24) t v rows)(kp:qAc (λi=>i=b3) t t2):AccR elem es (offV v t2) t2 v rows:=by
 have n3:∀b o n c e,v=.slc b o n c e->b3≠b:=acc.own (by rw[z.e1 (.inl rfl)];exact z.tk.at);have acc2:AccR elem es (ext H t b3 b24) t2 v rows:=⟨acc.1,acc.2.imp id λ⟨c,q0,q1,q2⟩=>⟨c,q0,q1,kp _ _ q2 λe=>n3 c 0 _ _ _ q1 e.symm⟩⟩
 exact acc2.offv
theorem qYS{elem:TypeId}{es:Nat}{rows:List (List AV)}{t2:Hq}(z:FS el s0 H t b3 b24 cs)(acc:AccR elem es (ext H t b3 b24) t v rows)(tk2:Tk s0 t2 b3):Tk s0 (offV v t2) b3:=by have n3:∀b o n c e,v=.slc b o n c e->b3≠b:=acc.own (by rw[z.e1 (.inl rfl)];exact z.tk.at);obtain⟨lv,l',i',q',q''⟩:=tk2.ex;refine⟨λj e hj=>?_,z.tk.fr,lv,l',i',by rw[qIV n3];exact q',q''⟩;rw[qIV (acc.own (by rw[z.e2 _ _ (z.base _ _ hj)];simp))];exact tk2.sub _ _ hj
theorem push{elem:TypeId}{es k:Nat}{rows:List (List AV)}{row:List AV}{t2:Hq}{R:Hq->Prop}(z:FS el s0 H t b3 b24 cs)(acc:AccR elem es (ext H t b3 b24) t v rows)(kp:qAc (λi=>i=b3) t t2)(tk2:Tk s0 t2 b3)(hy:SlR es t2 y [row])(hl:rows.length<=1000)(hk:k<cs.length)
  (hK:∀v' t4 H',FS el s0 H' t4 b3 b24 (cs.set k v')->AccR elem es (ext H' t4 b3 b24) t4 v' (rows ++ [row])->Sub H H'->(∀i e,t2 i=some e->i≠b3->i≠b24->(∀b o n c e,v=.slc b o n c e->i≠b)->H' i=some e)->R t4) :
  appK elem es v y (λv' t3=>oK (wr1 t3 (.ptr b24 k) v') R) t2:=by
 refine(qTm z acc kp).app hy (by simp) (by simp only[List.length_singleton];omega) qOI λv' t3 a3 k3=>?_;exact qSH z acc kp tk2.at a3 k3.keep ((qYS z acc tk2).more k3) hk λt4 H' q1 q2 q3 q4=>hK v' t4 H' q1 q2 q3 q4
theorem FS.step(z:FS el s0 H t b3 b24 cs){t2:Hq}(kp:qAc (λi=>i=b3) t t2)(tk2:Tk s0 t2 b3):FS el s0 H t2 b3 b24 cs:=
 ⟨tk2,kp _ _ z.fb (Ne.symm z.ne),λi e hi=>kp _ _ (z.sub _ _ hi) λq=>(by rw[q,z.n3]at hi;cases hi),z.n3,z.n24,z.base,z.ne⟩
theorem finish{elem:TypeId}{es b0:Nat}{rows:List (List AV)}(z:FS el s0 H t b3 b24 cs)(acc:AccR elem es (ext H t b3 b24) t v rows)(hb0:H b0≠none):∃H2,FS el s0 H2 t b3 b24 cs/\Sub H H2/\SlR es (hdel H2 b0) v rows:=by
 refine⟨λi=>if i=b3∨i=b24 then none else t i,⟨z.tk,z.fb,λi e hi=>?_,by simp,by simp,λi e hi=>?_,z.ne⟩,λi e hi=>?_,?_⟩
 ·have hi:(if i=b3∨i=b24 then none else t i)=some e:=hi
  split at hi
  ·cases hi
  ·exact hi
 ·have h1:=z.base _ _ hi
  show(if i=b3∨i=b24 then none else t i)=some e;rw[if_neg]
  ·exact z.sub _ _ h1
  ·rintro (q|q)
   ·rw[q,z.n3]at h1;cases h1
   ·rw[q,z.n24]at h1;cases h1
 ·show(if i=b3∨i=b24 then none else t i)=some e
  rw[if_neg]
  ·exact z.sub _ _ hi
  ·rintro (q|q)
   ·rw[q,z.n3]at hi;cases hi
   ·rw[q,z.n24]at hi;cases hi
 ·refine⟨acc.1,?_⟩
  rcases acc.2 with q|⟨c,q0,q1,q2⟩
  ·exact .inl q
  ·have c3:c≠b3:=λe=>by
    rw[e,z.e1 (.inl rfl)]at q0;exact z.tk.at q0
   have c24:c≠b24:=λe=>by rw[e,z.e1 (.inr rfl),z.fb]at q0;cases q0
   have c0:c≠b0:=λe=>by
    rw[e]at q0;cases h:H b0 with
    |none=>exact hb0 h
    |some x=>rw[z.e2 _ _ h]at q0;cases q0
   have:=AccR.sl (s:=hdel (λi=>if i=b3∨i=b24 then none else t i) b0) (s0:=s0) (elem:=elem) (es:=es) (v:=v) (rows:=rows) ⟨acc.1,.inr ⟨c,qA6 z.base (qA6 z.e2 q0),q1,by rw[qEk c0];show(if c=b3∨c=b24 then none else t c)=_;rw[if_neg (by rintro (q|q)<;>contradiction)];exact q2⟩⟩
   exact this.2
theorem qOP{q:Nat}:cutH [((hdel t q),t)] (minus t λ_=>none)=hdel t q:=by
 funext i
 show(if hdel t q i=none/\t i≠none then none else minus t (λ_=>none) i)=_;unfold minus hdel
 by_cases e:i=q
 ·subst e
  by_cases c:t i=none
  ·simp[c]
  ·simp[c]
 ·simp[e]
theorem qXY{q b:Nat}{t':Hq}(hq:t q≠none)(kp:qAc (λi=>i=b) (hdel t q) t')(hh:∀i,t i≠none->hdel t q i=none->t' i=none):qAc (λi=>i=b) t (add t' (rest t (hdel t q))):=λi e hi ne=>by
 by_cases e1:i=q
 ·subst e1
  rw[qCJ (hh i hq (by simp[hdel]))];unfold rest;rw[if_pos (by simp[hdel])];exact hi
 ·exact qBt (kp _ _ (by rw[qEk e1];exact hi) ne)
theorem Tk.hid{q:Nat}(h:Tk s0 t b)(hq:s0 q=none)(hb:b≠q):Tk s0 (hdel t q) b:=by
 obtain⟨lv,l',i',q',q''⟩:=h.ex;refine⟨λj e hj=>?_,h.fr,lv,l',i',by rw[qEk hb];exact q',q''⟩;have ne:j≠q:=λe=>by rw[e,hq]at hj;cases hj
 rw[qEk ne];exact h.sub _ _ hj
end Go.AM.TN
namespace Go.AM.TN
open Go Go.Proofs
variable {el:TypeId} {K:AV→Hq→Prop} {s s' s0 t H:Hq} {v y w:AV} {b b0 b3 b24:Nat} {cs:List AV}
def Fv(s0:Hq)(v:AV):Prop:=∀b o n c e,v=.slc b o n c e->s0 b=none
structure NX where
 lf:Nat
 sp:Nat
 el:Nat
 hz:Nat
 ro:Nat
 su:Bool
 tr:Bool
 de:Nat
 ag:Nat
structure NXok(x:NX):Prop where
 lf:2<=x.lf/\x.lf<=4
 sp:1<=x.sp/\x.sp<=3
 el:x.el<=2
 hz:x.hz<=1
 ro:x.ro<=1
 de:1<=x.de/\x.de<=3
 ag:40<=x.ag/\x.ag<=69
def csF(x:NX)(v2 v3 v4 v5 v6 v7:AV):List AV:=[.int .i64 (x.lf:Int),.int .i64 (x.sp:Int),v2,v3,v4,v5,v6,v7,.int .i64 (x.el:Int),.int .i64 (x.hz:Int),.int .i64 (x.ro:Int),.bool x.su,.bool x.tr,.int .i64 (x.de:Int),.int .i64 9,.int .i64 (x.ag:Int),.int .i64 20,.int .i64 5,.int .i64 30]
def tnC(i:Nat):List AV:=[.int .u32 (100+(i:Int)),.int .u32 (900+(i:Int))]
def qHd(n:Nat):List (List AV):=(List.range n).map tnC
theorem qKl{n:Nat}:(qHd n).length=n:=by unfold qHd;simp
theorem qTF{n:Nat}:qHd (n+1)=qHd n ++ [tnC n]:=by unfold qHd;rw[List.range_succ,List.map_append];rfl
structure NFab where
 x:NX
 L:List RLk
 n:Nat
 B:List Bd
 S:List Sg
 H:List Hst
 G:List Lkg
structure NFok(F:NFab):Prop where
 x:NXok F.x
 L:LkOk F.x.lf F.x.sp F.L
 Ln:F.L.length<=12
 n:1<=F.n/\F.n<=3
 Bn:1<=F.B.length/\F.B.length<=4
 B:∀x∈F.B,x.1<F.n
 Sn:2<=F.S.length/\F.S.length<=6
 S:∀x∈F.S,SgOk F.x.lf F.B.length x
 Hn:F.H.length<=8
 H:∀x∈F.H,HoOk F.B F.S x
 Gn:F.G.length<=2
 G:F.G.Nodup/\∀x∈F.G,LgOk F.n x
structure NFR(s:Hq)(cs:List AV)(F:NFab):Prop where
 ex:∃v2 v3 v4 v5 v6 v7,cs=csF F.x v2 v3 v4 v5 v6 v7/\SlR 3 s v2 (F.L.map lkC)/\SlR 2 s v3 (qHd F.n)/\SlR 6 s v4 (qFV F.B)/\SgR s v5 F.S/\SlR 4 s v6 (qHg F.H)/\SlR 4 s v7 (F.G.map lgC)
theorem qBb(k:Sub s s'):Sub (hdel s b) (hdel s' b):=λi e hi=>by
 unfold hdel at hi ⊢;split at hi
 ·cases hi
 ·rename_i ne
  rw[if_neg ne];exact k _ _ hi
theorem qKX:Sub (hdel s b) s:=λi e hi=>by
 unfold hdel at hi;split at hi
 ·cases hi
 ·exact hi
def offB(t:Hq)(b3 b24:Nat):Hq:=λi=>if i=b3∨i=b24 then none else t i
theorem qXF{h:Hq}{q:Nat}(hh:∀b,h b≠none->b=q):cutH [((hdel t q),t)] (minus t h)=hdel t q:=by
 funext i
 show(if hdel t q i=none/\t i≠none then none else minus t h i)=_;unfold minus hdel
 by_cases e:i=q
 ·subst e
  by_cases c:t i=none
  ·simp[c]
  ·simp[c]
 ·have:h i=none:=by
   cases c:h i with
   |none=>rfl
   |some x=>exact absurd (hh i (by rw[c];simp)) e
  simp[e,this]
theorem qWT{S:Hq}{q:Nat}(hq:t q≠none):cutH [((hdel t q),t)] (minus S λ_=>none)=hdel S q:=by
 funext i
 show(if hdel t q i=none/\t i≠none then none else minus S (λ_=>none) i)=_;unfold minus hdel
 by_cases e:i=q
 ·subst e
  simp[hq]
 ·by_cases c:t i=none
  ·simp[e,c]
  ·simp[e,c]
theorem qGs{q b:Nat}{t':Hq}(z:FS el s0 H t b q cs)(tk':Tk s0 t' b)(kp:qAc (λi=>i=b) (hdel t q) t')(hh:∀i,t i≠none->hdel t q i=none->t' i=none):
  qAc (λi=>i=b) t (add t' (rest t (hdel t q)))/\Tk s0 (add t' (rest t (hdel t q))) b/\FS el s0 H (add t' (rest t (hdel t q))) b q cs:=
 have h1:=qXY (t:=t) (q:=q) (b:=b) (t':=t') (by rw[z.fb];simp) kp hh;have h2:Tk s0 (add t' (rest t (hdel t q))) b:=tk'.more qGy
 ⟨h1,h2,z.step h1 h2⟩
theorem qSM{q:Nat}(hq:H q=none)(k:Sub H t):Sub H (hdel t q):=λi e hi=>by rw[qEk (qFG hq hi)];exact k _ _ hi
theorem NFR.sub{F:NFab}(h:NFR s cs F)(k:Sub s s'):NFR s' cs F:=by obtain⟨v2,v3,v4,v5,v6,v7,e,h2,h3,h4,h5,h6,h7⟩:=h.ex;exact⟨v2,v3,v4,v5,v6,v7,e,h2.sub k,h3.sub k,h4.sub k,h5.sub k,h6.sub k,h7.sub k⟩
theorem NFR.len{F:NFab}(h:NFR s cs F):cs.length=19:=by obtain⟨v2,v3,v4,v5,v6,v7,rfl,_⟩:=h.ex;rfl
theorem NFR.all{F:NFab}(h:NFR s cs F):qAa cs=true:=by obtain⟨v2,v3,v4,v5,v6,v7,rfl,h2,h3,h4,h5,h6,h7⟩:=h.ex;simp[csF,h2.one,h3.one,h4.one,h5.one,h6.one,h7.one]
theorem zAAd{F:NFab}{zs:List AV}(z:FS 31 s0 H t b3 b24 cs)(hb0:H b0=some (false,.cells 31 zs))(hz:zs.length=19)(h0:s0 b0=none)(hF:NFR (hdel H b0) cs F)(hok:NFok F)(hf:∀v,cs[6]?=some v->Fv s0 v)(hK:∀t' cs F,Sub s0 t'->NFok F->NFR t' cs F->(∀v,cs[6]?=some v->Fv s0 v)->K (.agg cs) t'):qCS XX (.ptr b0 0) (.ptr b24 0) K t:=by
 unfold qCS;refine qAA (qAU z.fb hF.len) (qAT (z.sub _ _ hb0) (by rw[hF.len,hz]) hz hF.all λt' h1 u1=>qAA (qAU h1 hF.len) ?_);refine hK t' cs F (λi e hi=>?_) hok (hF.sub λi e hi=>?_) hf
 ·rw[u1 i (qFG h0 hi)]
  exact z.sub _ _ (z.base _ _ hi)
 ·unfold hdel at hi
  split at hi
  ·cases hi
  ·rename_i ne
   rw[u1 i ne];exact z.sub _ _ hi
variable {x:NX} {v2 v3 v4 v5 v6 v7:AV} {z0:Bool × Blk} {R:Hq→Prop} {n many:Nat}
theorem zABO(hR:∀a b,Sub a b->R a->R b)(hn:2<=n)(hn2:n<=3)(hm:many<=2)(z:FS 31 s0 H t b3 b24 (csF x v2 v3 v4 v5 v6 .nilslc))(hb0:H b0=some z0)(r:R (hdel H b0))
  (fin:∀(t H:Hq) (v:AV) (G:List Lkg),FS 31 s0 H t b3 b24 (csF x v2 v3 v4 v5 v6 v)->H b0=some z0->R (hdel H b0)->SlR 4 (hdel H b0) v (G.map lgC)->G.length<=2->G.Nodup->(∀x∈G,LgOk n x)->qCS XX (.ptr b0 0) (.ptr b24 0) K t) :
  ∃I5:List AV->Hq->Nat->Prop,(∃m,I5 [(.int .i64 0)] t m)/\∀(f:Env) (s:Hq) (m5:Nat),I5 [f 11] s m5->qHx XX (.ptr b0 0) (.ptr b3 0) (.ptr b24 0) (.int .i64 (many:Int)) (.int .i64 (n:Int)) (f 11) I5 m5 K s:=by
 refine⟨λys t m=>∃(i:Nat) (H:Hq) (v:AV) (G:List Lkg),ys=[.int .i64 (i:Int)]/\i<=many/\m=many-i/\FS 31 s0 H t b3 b24 (csF x v2 v3 v4 v5 v6 v)/\H b0=some z0/\R (hdel H b0)/\AccR 118 4 (ext H t b3 b24) t v (G.map lgC)/\G.length<=i/\G.Nodup/\∀x∈G,LgOk n x,⟨_,0,H,.nilslc,[],rfl,by omega,rfl,z,hb0,r,⟨λr h=>(by cases h),.inl ⟨rfl,rfl⟩⟩,by simp,.nil,by simp⟩,?_⟩;rintro f t m ⟨i,H,v,G,hy,hi,rfl,z,hb0,r,acc,hG1,hG2,hG3⟩;simp only[cI,and_true]at hy;rw[hy];simp only[qHx,qAP,qAB];refine qAJ (λhlt=>?_) (λhge=>?_)
 ·have hlt:i<many:=by have:=oT hlt;omega
  simp only[qAI,zAY,qAB];refine qAA (a:=v) (by rw[qAK z.fb];rfl) ⟨λ_=>none,λb hb=>absurd rfl hb,?_⟩;rw[show qAm (.ptr b24 7)=b24 from rfl,qOP];refine qZc (z.tk.hid z.f0 z.ne) hn (by omega) λt1 g tk1 kp1 gok=>?_;intro hh;obtain⟨kp,tk2,z2⟩:=qGs z tk1 kp1 hh;generalize add t1 (rest t (hdel t b24))=t2 at kp tk2 z2 ⊢;refine qXi (t0:=offV v t2) (qYS z acc tk2) tk2 qOI.keep (qTm z acc kp) (by omega) gok.2.2.2 (λy hy=>(hG3 y hy).2.2.2) λv' t3 G' tk3 kp3 acc3 hG'=>?_;refine qSH z acc kp tk2.at acc3 kp3 tk3 (by show 7<19;omega) λt4 H' z4 acc4 hHH _=>?_;simp only[qAN,qAB];rw[qAb (by omega) (by omega)];refine⟨_,by omega,i+1,H',v',G',rfl,by omega,rfl,z4,hHH _ _ hb0,hR _ _ (qBb hHH) r,acc4,?_⟩;rcases hG' with rfl|⟨q1,rfl⟩
  ·exact⟨by omega,hG2,hG3⟩
  ·refine⟨by rw[lAp];simp only[List.length_singleton];omega,?_,λy hy=>?_⟩
   ·rw[List.nodup_append]
    exact⟨hG2,by simp,λa ha c hc=>by rw[List.mem_singleton]at hc;rw[hc];exact λe=>q1 (by rw[<- e];exact ha)⟩
   ·rcases mP hy with q|q
    ·exact hG3 y q
    ·rw[List.mem_singleton]at q
     rw[q];exact gok
 ·obtain⟨H2,z2,k2,sl⟩:=finish (b0:=b0) z acc (by rw[hb0];simp)
  exact fin t H2 v G z2 (k2 _ _ hb0) (hR _ _ (qBb k2) r) sl (by omega) hG2 hG3
theorem zABb(hR:∀a b,Sub a b->R a->R b){B:List Bd}{S:List Sg}{lf:Nat}(rT:∀a,R a->SlR 2 a v3 (qHd n))(rB:∀a,R a->SlR 6 a v4 (qFV B))(rS:∀a,R a->SgR a v5 S)(hn:n<=3)(hm:many<=8)(hB:B.length<=4)(hS:2<=S.length/\S.length<=6)(okS:∀x∈S,SgOk lf B.length x)(z:FS 31 s0 H t b3 b24 (csF x v2 v3 v4 v5 .nilslc .nilslc))(hb0:H b0=some z0)(r:R (hdel H b0))
  (ho:∀v6 v7:AV,v6.one=true->v7.one=true->qAa (csF x v2 v3 v4 v5 v6 v7)=true)
  (fin:∀(t H:Hq) (v6 v7:AV) (Hs:List Hst) (G:List Lkg),FS 31 s0 H t b3 b24 (csF x v2 v3 v4 v5 v6 v7)->H b0=some z0->R (hdel H b0)->SlR 4 (hdel H b0) v6 (qHg Hs)/\Fv s0 v6->Hs.length<=8->(∀x∈Hs,HoOk B S x)->SlR 4 (hdel H b0) v7 (G.map lgC)->G.length<=2->G.Nodup->(∀x∈G,LgOk n x)->qCS XX (.ptr b0 0) (.ptr b24 0) K t) :
  ∃I3:List AV->Hq->Nat->Prop,(∃m,I3 [(.int .i64 0)] t m)/\∀(f:Env) (s:Hq) (m3:Nat),I3 [f 9] s m3->qH3 XX (.ptr b0 0) (.ptr b3 0) (.ptr b24 0) (.int .i64 (many:Int)) (f 9) I3 m3 K s:=by
 refine⟨λys t m=>∃(i:Nat) (H:Hq) (v:AV) (Hs:List Hst),ys=[.int .i64 (i:Int)]/\i<=many/\m=many-i/\FS 31 s0 H t b3 b24 (csF x v2 v3 v4 v5 v .nilslc)/\H b0=some z0/\R (hdel H b0)/\AccR 61 4 (ext H t b3 b24) t v (qHg Hs)/\Hs.length=i/\∀x∈Hs,HoOk B S x,⟨_,0,H,.nilslc,[],rfl,by omega,rfl,z,hb0,r,⟨λr h=>(by cases h),.inl ⟨rfl,rfl⟩⟩,by simp,by simp⟩,?_⟩;rintro f t m ⟨i,H,v,Hs,hy,hi,rfl,z,hb0,r,acc,hl,hHs⟩;simp only[cI,and_true]at hy;rw[hy];simp only[qH3,qAP,qAB];refine qAJ (λhlt=>?_) (λhge=>?_)
 ·have hlt:i<many:=by have:=oT hlt;omega
  simp only[qAI,zAY,qAB];refine qAA (a:=v) (by rw[qAK z.fb];rfl) (qAA (qAU z.fb rfl) ⟨λ_=>none,λb hb=>absurd rfl hb,?_⟩);rw[show qAm (.ptr b24 6)=b24 from rfl,qOP];have hk:Sub (hdel H b0) (hdel (hdel t b24) b3):=qKX.trans (qSM z.n3 (qSM z.n24 z.sub));refine qOy (z.tk.hid z.f0 z.ne) (by omega) rfl (ho _ _ acc.sl.one rfl) rfl rfl ((rB _ r).sub hk) ((rS _ r).sub hk) (by omega) (by omega) okS (by omega) λt1 g tk1 kp1 gok=>?_;intro hh;obtain⟨kp,tk2,z2⟩:=qGs z tk1 kp1 hh;generalize add t1 (rest t (hdel t b24))=t2 at kp tk2 z2 ⊢;refine qAA (qSW (zs:=[(.int .u64 0),(.int .u32 0),(.int .i64 0),(.int .i64 0)]) (c:=hoC i g) rfl) ⟨rfl,newM (l:=[]) λd s2 hd h2 u2=>?_⟩;generalize add t2 s2=t3 at h2 u2 ⊢;have k3:=u2.sub hd;refine push z acc (kp.trans k3.keep) (tk2.more k3) (row1 h2 rfl) (by rw[qTJ];omega) (by show 6<19;omega) λv' t4 H' z4 acc4 hHH _=>?_;simp only[qAN,qAB];rw[qAb (by omega) (by omega)];refine⟨_,by omega,i+1,H',v',Hs ++ [g],rfl,by omega,rfl,z4,hHH _ _ hb0,hR _ _ (qBb hHH) r,by rw[qSy,hl];exact acc4,by rw[lAp,hl];rfl,λy hy=>?_⟩;rcases mP hy with q|q
  ·exact hHs y q
  ·rw[List.mem_singleton]at q
   rw[q];exact gok
 ·obtain⟨H2,z2,k2,sl⟩:=finish (b0:=b0) z acc (by rw[hb0];simp)
  have r2:=hR _ _ (qBb k2) r;have fv:Fv s0 v:=λb o n c e q=>by
   rcases acc.2 with⟨r,_⟩|⟨d,h0,r,_⟩
   ·rw[r]at q;cases q
   ·rw[r]at q;cases q;exact qA6 (z.base.trans z.e2) h0
  simp only[qAI,zAY,qAB];refine qAA (a:=v3) (by rw[qAK z.fb];rfl) (qAA (a:=n) (by rw[(rT _ r).len,qKl]) ?_);simp only[qBO,qAB];refine qAJ (λhg=>?_) (λ_=>?_)
  ·have hg:2<=n:=by have:=oT hg;omega
   refine qBS z2.tk (n:=3) (by omega) (by omega) λt5 m5 hm5 tk5 u5=>?_;refine zABO (R:=λa=>R a/\SlR 4 a v (qHg Hs)) (λa b k q=>⟨hR _ _ k q.1,q.2.sub k⟩) hg hn (by omega) (z2.step (u5.keep rfl) tk5) (k2 _ _ hb0) ⟨r2,sl⟩ λt' H' v' G z' hb' r' sl' g1 g2 g3=>?_;exact fin t' H' v v' Hs G z' hb' r'.1 ⟨r'.2,fv⟩ (by omega) hHs sl' g1 g2 g3
  ·exact fin t H2 v .nilslc Hs [] z2 (k2 _ _ hb0) r2 ⟨sl,fv⟩ (by omega) hHs ⟨λr h=>(by cases h),.inl ⟨rfl,rfl⟩⟩ (by simp) .nil (by simp)
theorem qG8{elem:TypeId}{es:Nat}{rows:List (List AV)}{t2:Hq}(z:FS el s0 H t b3 b24 cs)(acc:AccR elem es (ext H t b3 b24) t v rows)(kp:qAc (λi=>i=b3) t t2):AccR elem es (ext H t2 b3 b24) t2 v rows:=by
 have n3:∀b o n c e,v=.slc b o n c e->b3≠b:=acc.own (by rw[z.e1 (.inl rfl)];exact z.tk.at);have n24:∀b o n c e,v=.slc b o n c e->b24≠b:=acc.own (by rw[z.e1 (.inr rfl),z.fb];simp);refine⟨acc.1,acc.2.imp id λ⟨c,q0,q1,q2⟩=>⟨c,?_,q1,kp _ _ q2 λe=>n3 c 0 _ _ _ q1 e.symm⟩⟩;have h:¬(c=b3∨c=b24):=by
  rintro (e|e)
  ·exact n3 c 0 _ _ _ q1 e.symm
  ·exact n24 c 0 _ _ _ q1 e.symm
 unfold ext at q0 ⊢;rw[if_neg h]at q0 ⊢;exact q0
theorem qT6{t':Hq}{rows:List (List AV)}(z:FS el s0 H t b3 b24 cs)(acc:AccR 64 2 (ext H t b3 b24) t v rows)(hb0:H b0≠none)(hh:∀i,t i≠none->hdel t b24 i=none->t' i=none){l:List Nat}(ne:l≠[])(h:Acc 3 (hdel t b24) t' w (iz l)∨∃c,hdel t b24 c=none/\w=.slc c 0 1 (some 1) 1/\t' c=some (false,.cells 3 (iz l))/\l.length=1):
  ∃c cap,w=.slc c 0 (iz l).length cap 1/\(∀k,cap=some k->(iz l).length<=k)/\t' c=some (false,.cells 3 (iz l))/\c≠b3/\c≠b24/\c≠b0/\∀b o n cp e,v=.slc b o n cp e->c≠b:=by
 obtain⟨c,cap,h1,h2,h3,h4⟩:∃c cap,w=.slc c 0 (iz l).length cap 1/\(∀k,cap=some k->(iz l).length<=k)/\hdel t b24 c=none/\t' c=some (false,.cells 3 (iz l)):=by
  rcases h with(⟨_,q⟩|⟨c,q1,q2,q3⟩)|⟨c,q1,q2,q3,q4⟩
  ·exact absurd (by simpa [iz]using q) ne
  ·exact⟨c,none,q2,by simp,q1,q3⟩
  ·exact⟨c,some 1,by rw[q2,qMk,q4],λk e=>by cases e;rw[qMk,q4];exact Nat.le_refl _,q1,q3⟩
 have n24:c≠b24:=λe=>by have:=hh b24 (by rw[z.fb];simp) (by simp[hdel]);rw[<- e,h4]at this;cases this
 have tc:t c=none:=by rw[qEk n24]at h3;exact h3
 refine⟨c,cap,h1,h2,h4,λe=>z.tk.at (by rw[<- e];exact tc),n24,λe=>?_,λb o n cp e' q e=>?_⟩
 ·cases q:H b0 with
  |none=>exact hb0 q
  |some x=>rw[e,z.sub _ _ q]at tc;cases tc
 ·rcases acc.2 with⟨r,_⟩|⟨j,r1,r2,r3⟩
  ·rw[r]at q;cases q
  ·rw[r2]at q
   cases q;rw[<- e,tc]at r3;cases r3
theorem zAAX(hR:∀a b,Sub a b->R a->R b){B:List Bd}(rT:∀a,R a->SlR 2 a v3 (qHd n))(rB:∀a,R a->SlR 6 a v4 (qFV B))(hx:1<=x.lf/\x.lf<=10)(hn:n<=3)(hm:2<=many/\many<=6)(hB:1<=B.length/\B.length<=4)(z:FS 31 s0 H t b3 b24 (csF x v2 v3 v4 .nilslc .nilslc .nilslc))(hb0:H b0=some z0)(r:R (hdel H b0))
  (ho:∀v5 v6 v7:AV,v5.one=true->v6.one=true->v7.one=true->qAa (csF x v2 v3 v4 v5 v6 v7)=true)
  (fin:∀(t H:Hq) (v5 v6 v7:AV) (S:List Sg) (Hs:List Hst) (G:List Lkg),FS 31 s0 H t b3 b24 (csF x v2 v3 v4 v5 v6 v7)->H b0=some z0->R (hdel H b0)->SgR (hdel H b0) v5 S->2<=S.length/\S.length<=6->(∀y∈S,SgOk x.lf B.length y)->SlR 4 (hdel H b0) v6 (qHg Hs)/\Fv s0 v6->Hs.length<=8->(∀x∈Hs,HoOk B S x)->SlR 4 (hdel H b0) v7 (G.map lgC)->G.length<=2->G.Nodup->(∀x∈G,LgOk n x)->qCS XX (.ptr b0 0) (.ptr b24 0) K t) :
  ∃I2:List AV->Hq->Nat->Prop,(∃m,I2 [(.int .i64 0)] t m)/\∀(f:Env) (s:Hq) (m2:Nat),I2 [f 8] s m2->qIZ XX (.ptr b0 0) (.ptr b3 0) (.ptr b24 0) (.int .i64 (many:Int)) (f 8) I2 m2 K s:=by
 refine⟨λys t m=>∃(i:Nat) (H:Hq) (v:AV) (S:List Sg) (vs:List (AV×AV)),ys=[.int .i64 (i:Int)]/\i<=many/\m=many-i/\FS 31 s0 H t b3 b24 (csF x v2 v3 v4 v .nilslc .nilslc)/\H b0=some z0/\R (hdel H b0)/\AccR 64 2 (ext H t b3 b24) t v (vs.map λp=>[p.1,p.2])/\vs.length=S.length/\(∀(i:Nat) (q:AV×AV) (x:Sg),vs[i]?=some q->S[i]?=some x->Sl (hdel H b0) q.1 (iz x.1)/\Sl (hdel H b0) q.2 (iz x.2))/\S.length=i/\∀y∈S,SgOk x.lf B.length y,⟨_,0,H,.nilslc,[],[],rfl,by omega,rfl,z,hb0,r,⟨λr h=>(by cases h),.inl ⟨rfl,rfl⟩⟩,rfl,by simp,by simp,by simp⟩,?_⟩;rintro f t m ⟨i,H,v,S,vs,hy,hi,rfl,z,hb0,r,acc,hvs,hq,hl,hS⟩;simp only[cI,and_true]at hy;rw[hy];simp only[qIZ,qAP,qAB];refine qAJ (λhlt=>?_) (λhge=>?_)
 ·have hlt:i<many:=by have:=oT hlt;omega
  simp only[qAI,zAY,qAB];refine qAA (a:=v) (by rw[qAK z.fb];rfl) (qAA (a:=.int .i64 (x.lf:Int)) (by rw[qAK z.fb];rfl) ⟨λi=>if i=b24 then t i else none,λb hb=>?_,?_⟩)
  ·have hb:(if b=b24 then t b else none)≠none:=hb
   split at hb
   ·exact hb
   ·exact absurd rfl hb
  rw[show qAm (.ptr b24 5)=b24 from rfl,qXF (h:=λi=>if i=b24 then t i else none) (q:=b24) (λb hb=>by
   by_cases e:b=b24
   ·exact e
   ·exact absurd (if_neg e) hb)]
  refine qVQ (z.tk.hid z.f0 z.ne) hx.1 (by omega) (most:=3) (by omega) (by omega) λt1 w1 l1 tk1 kp1 acc1 asc1 ne1 lt1 len1=>?_;intro hh;obtain⟨kp,tk2,z2⟩:=qGs z tk1 kp1 hh;obtain⟨c1,cap1,ew1,ec1,et1,n13,n124,n10,n1v⟩:=qT6 z acc (by rw[hb0];simp) hh ne1 acc1;have et1:add t1 (rest t (hdel t b24)) c1=some (false,.cells 3 (iz l1)):=qBt et1;generalize add t1 (rest t (hdel t b24))=t2 at kp tk2 z2 et1 ⊢;have hrd:rd1 (cutH [((λi=>if i=b24 then t i else none),qM8)] t2) (.ptr b24 4)=some v4:=by refine(qAK (t:=false) (e:=31) (l:=csF x v2 v3 v4 v .nilslc .nilslc) ?_).trans rfl;show(if(if b24=b24 then t b24 else none)=none/\qM8 b24≠none then none else t2 b24)=_;rw[if_pos rfl,if_neg (by rw[z.fb];simp)];exact z2.fb
  refine qAA hrd (qAA (a:=B.length) (by rw[(rB _ r).len,qNM]) ⟨λ_=>none,λb hb=>absurd rfl hb,?_⟩);rw[qWT (t:=t) (S:=t2) (q:=b24) (by rw[z.fb];simp)];refine qVQ (z2.tk.hid z2.f0 z2.ne) hB.1 (by omega) (most:=4) (by omega) (by omega) λt3 w2 l2 tk3 kp3 acc3 asc3 ne3 lt3 len3=>?_;intro hh3;obtain⟨kp4,tk4,z4⟩:=qGs z2 tk3 kp3 hh3;have accs:=qG8 z acc kp;obtain⟨c2,cap2,ew2,ec2,et2,n23,n224,n20,n2v⟩:=qT6 z2 accs (by rw[hb0];simp) hh3 ne3 acc3;have et2:add t3 (rest t2 (hdel t2 b24)) c2=some (false,.cells 3 (iz l2)):=qBt et2;generalize add t3 (rest t2 (hdel t2 b24))=t4 at kp4 tk4 z4 et2 ⊢;have et14:t4 c1=some (false,.cells 3 (iz l1)):=kp4 _ _ et1 n13;have o1:w1.one=true:=by rw[ew1];rfl
  have o2:w2.one=true:=by rw[ew2];rfl
  refine qAA (a:=[w1,w2]) (by rw[ew1,ew2];rfl) (qAA (qSW (zs:=[.nilslc,.nilslc]) (c:=[w1,w2]) rfl) ⟨by simp[o1,o2],newM (l:=[]) λd s2 hd h2 u2=>?_⟩);generalize add t4 s2=t5 at h2 u2 ⊢;have k5:=u2.sub hd;refine push z acc ((kp.trans kp4).trans k5.keep) (tk4.more k5) (row1 h2 rfl) (by rw[lM];omega) (by show 5<19;omega) λv' t6 H' z6 acc6 hHH hnew=>?_;simp only[qAN,qAB];rw[qAb (by omega) (by omega)];have a1:Sl (hdel H' b0) w1 (iz l1):=by rw[ew1];exact Sl.mk (t:=false) (e:=3) (by rw[qEk n10];exact hnew _ _ (k5 _ _ et14) n13 n124 n1v) rfl ec1
  have a2:Sl (hdel H' b0) w2 (iz l2):=by rw[ew2];exact Sl.mk (t:=false) (e:=3) (by rw[qEk n20];exact hnew _ _ (k5 _ _ et2) n23 n224 n2v) rfl ec2
  refine⟨_,by omega,i+1,H',v',S ++ [(l1,l2)],vs ++ [(w1,w2)],rfl,by omega,rfl,z6,hHH _ _ hb0,hR _ _ (qBb hHH) r,by rw[List.map_append];exact acc6,by rw[lAp,lAp,hvs];rfl,λj q g hj hg=>?_,by rw[lAp,hl];rfl,λy hy=>?_⟩
  ·rcases Nat.lt_or_ge j vs.length with e|e
   ·rw[List.getElem?_append_left e]at hj
    rw[List.getElem?_append_left (by omega)]at hg;obtain⟨m1,m2⟩:=hq j q g hj hg;exact⟨m1.sub (qBb hHH),m2.sub (qBb hHH)⟩
   ·rw[List.getElem?_append_right e]at hj
    rw[List.getElem?_append_right (by omega)]at hg;have:j-vs.length=0:=by
     rcases Nat.eq_zero_or_pos (j-vs.length)with h|h
     ·exact h
     ·rw[List.getElem?_eq_none (by simp only[List.length_singleton];omega)]at hj;cases hj
    rw[<- hvs,this]at hg;rw[this]at hj;cases hj;cases hg;exact⟨a1,a2⟩
  ·rcases mP hy with q|q
   ·exact hS y q
   ·rw[List.mem_singleton]at q
    rw[q];exact⟨asc1,ne1,lt1,len1,asc3,ne3,lt3,len3⟩
 ·have hge:i=many:=by have:=oF hge;omega
  subst hge;refine qBS z.tk (n:=9) (by omega) (by omega) λt5 m5 hm5 tk5 u5=>?_;have z5:=z.step (u5.keep rfl) tk5;have acc5:=qG8 z acc (u5.keep rfl);obtain⟨H2,z2,k2,sl⟩:=finish (b0:=b0) z5 acc5 (by rw[hb0];simp);have r2:=hR _ _ (qBb k2) r;have sg:SgR (hdel H2 b0) v S:=⟨vs,sl,hvs,λj q g hj hg=>⟨(hq j q g hj hg).1.sub (qBb k2),(hq j q g hj hg).2.sub (qBb k2)⟩⟩
  refine zABb (R:=λa=>R a/\SgR a v S) (B:=B) (S:=S) (lf:=x.lf) (λa b k q=>⟨hR _ _ k q.1,q.2.sub k⟩) (λa q=>rT a q.1) (λa q=>rB a q.1) (λa q=>q.2) hn (by omega) hB.2 (by omega) hS z2 (k2 _ _ hb0) ⟨r2,sg⟩ (λv6 v7 h6 h7=>ho v v6 v7 sg.one h6 h7) λt' H' v6 v7 Hs G z' hb' r' q1 q2 q3 q4 q5 q6 q7=>?_;exact fin t' H' v v6 v7 S Hs G z' hb' r'.1 r'.2 (by omega) hS q1 q2 q3 q4 q5 q6 q7
theorem zABD(hR:∀a b,Sub a b->R a->R b)(rT:∀a,R a->SlR 2 a v3 (qHd n))(hx:1<=x.lf/\x.lf<=10)(hn:1<=n/\n<=3)(hm:1<=many/\many<=4)(z:FS 31 s0 H t b3 b24 (csF x v2 v3 .nilslc .nilslc .nilslc .nilslc))(hb0:H b0=some z0)(r:R (hdel H b0))
  (ho:∀v4 v5 v6 v7:AV,v4.one=true->v5.one=true->v6.one=true->v7.one=true->qAa (csF x v2 v3 v4 v5 v6 v7)=true)
  (fin:∀(t H:Hq) (v4 v5 v6 v7:AV) (B:List Bd) (S:List Sg) (Hs:List Hst) (G:List Lkg),FS 31 s0 H t b3 b24 (csF x v2 v3 v4 v5 v6 v7)->H b0=some z0->R (hdel H b0)->SlR 6 (hdel H b0) v4 (qFV B)->1<=B.length/\B.length<=4->(∀y∈B,y.1<n)->SgR (hdel H b0) v5 S->2<=S.length/\S.length<=6->(∀y∈S,SgOk x.lf B.length y)->SlR 4 (hdel H b0) v6 (qHg Hs)/\Fv s0 v6->Hs.length<=8->(∀x∈Hs,HoOk B S x)->SlR 4 (hdel H b0) v7 (G.map lgC)->G.length<=2->G.Nodup->(∀x∈G,LgOk n x)->qCS XX (.ptr b0 0) (.ptr b24 0) K t) :
  ∃I1:List AV->Hq->Nat->Prop,(∃m,I1 [(.int .i64 0)] t m)/\∀(f:Env) (s:Hq) (m1:Nat),I1 [f 7] s m1->qIa XX (.ptr b0 0) (.ptr b3 0) (.ptr b24 0) (.int .i64 (many:Int)) (f 7) I1 m1 K s:=by
 refine⟨λys t m=>∃(i:Nat) (H:Hq) (v:AV) (B:List Bd),ys=[.int .i64 (i:Int)]/\i<=many/\m=many-i/\FS 31 s0 H t b3 b24 (csF x v2 v3 v .nilslc .nilslc .nilslc)/\H b0=some z0/\R (hdel H b0)/\AccR 69 6 (ext H t b3 b24) t v (qFV B)/\B.length=i/\∀y∈B,y.1<n,⟨_,0,H,.nilslc,[],rfl,by omega,rfl,z,hb0,r,⟨λr h=>(by cases h),.inl ⟨rfl,rfl⟩⟩,rfl,by simp⟩,?_⟩;rintro f t m ⟨i,H,v,B,hy,hi,rfl,z,hb0,r,acc,hl,hB⟩;simp only[cI,and_true]at hy;rw[hy];simp only[qIa,qAP,qAB];refine qAJ (λhlt=>?_) (λhge=>?_)
 ·have hlt:i<many:=by have:=oT hlt;omega
  simp only[qAI,zAY,qAB];refine qAA (a:=v) (by rw[qAK z.fb];rfl) (qAA (a:=v3) (by rw[qAK z.fb];rfl) (qAA (a:=n) (by rw[(rT _ r).len,qKl]) ⟨λ_=>none,λb hb=>absurd rfl hb,?_⟩));rw[show qAm (.ptr b24 4)=b24 from rfl,qOP];refine qJn (z.tk.hid z.f0 z.ne) (by omega) hn.1 (by omega) λt1 g tk1 kp1 gok=>?_;intro hh;obtain⟨kp,tk2,z2⟩:=qGs z tk1 kp1 hh;generalize add t1 (rest t (hdel t b24))=t2 at kp tk2 z2 ⊢;refine qAA (qSW (zs:=[(.int .i64 0),(.int .u32 0),(.int .u32 0),(.int .u32 0),(.int .i64 0),(.int .u32 0)]) (c:=bdC i g) rfl) ⟨rfl,newM (l:=[]) λd s2 hd h2 u2=>?_⟩;generalize add t2 s2=t3 at h2 u2 ⊢;have k3:=u2.sub hd;refine push z acc (kp.trans k3.keep) (tk2.more k3) (row1 h2 rfl) (by rw[qNM];omega) (by show 4<19;omega) λv' t4 H' z4 acc4 hHH _=>?_;simp only[qAN,qAB];rw[qAb (by omega) (by omega)];refine⟨_,by omega,i+1,H',v',B ++ [g],rfl,by omega,rfl,z4,hHH _ _ hb0,hR _ _ (qBb hHH) r,by rw[qTc,hl];exact acc4,by rw[lAp,hl];rfl,λy hy=>?_⟩;rcases mP hy with q|q
  ·exact hB y q
  ·rw[List.mem_singleton]at q
   rw[q];exact gok
 ·have hge:i=many:=by have:=oF hge;omega
  subst hge;refine qBS z.tk (n:=5) (by omega) (by omega) λt5 m5 hm5 tk5 u5=>?_;have z5:=z.step (u5.keep rfl) tk5;have acc5:=qG8 z acc (u5.keep rfl);obtain⟨H2,z2,k2,sl⟩:=finish (b0:=b0) z5 acc5 (by rw[hb0];simp);have r2:=hR _ _ (qBb k2) r;simp only[qAN,qAB];rw[qAb (by omega) (by omega)];have em:(2:Int)+(m5:Int)=((2+m5:Nat):Int):=by omega
  rw[em];refine zAAX (R:=λa=>R a/\SlR 6 a v (qFV B)) (B:=B) (λa b k q=>⟨hR _ _ k q.1,q.2.sub k⟩) (λa q=>rT a q.1) (λa q=>q.2) hx hn.2 (by omega) (by omega) z2 (k2 _ _ hb0) ⟨r2,sl⟩ (λv5 v6 v7 h5 h6 h7=>ho v v5 v6 v7 sl.one h5 h6 h7) λt' H' v5 v6 v7 S Hs G z' hb' r'=>?_;exact fin t' H' v v5 v6 v7 B S Hs G z' hb' r'.1 r'.2 (by omega) hB
theorem zAAN(hR:∀a b,Sub a b->R a->R b)(hx:1<=x.lf/\x.lf<=10)(z:FS 31 s0 H t b3 b24 (csF x v2 .nilslc .nilslc .nilslc .nilslc .nilslc))(hb0:H b0=some z0)(r:R (hdel H b0))(hv2:v2.one=true)
  (fin:∀(t H:Hq) (v3 v4 v5 v6 v7:AV) (n:Nat) (B:List Bd) (S:List Sg) (Hs:List Hst) (G:List Lkg),FS 31 s0 H t b3 b24 (csF x v2 v3 v4 v5 v6 v7)->H b0=some z0->R (hdel H b0)->SlR 2 (hdel H b0) v3 (qHd n)->1<=n/\n<=3->SlR 6 (hdel H b0) v4 (qFV B)->1<=B.length/\B.length<=4->(∀y∈B,y.1<n)->SgR (hdel H b0) v5 S->2<=S.length/\S.length<=6->(∀y∈S,SgOk x.lf B.length y)->SlR 4 (hdel H b0) v6 (qHg Hs)/\Fv s0 v6->Hs.length<=8->(∀x∈Hs,HoOk B S x)->SlR 4 (hdel H b0) v7 (G.map lgC)->G.length<=2->G.Nodup->(∀x∈G,LgOk n x)->qCS XX (.ptr b0 0) (.ptr b24 0) K t) :
  ∃I0:List AV->Hq->Nat->Prop,(∃m,I0 [(.int .i64 0)] t m)/\∀(f:Env) (s:Hq) (m0:Nat),I0 [f 5] s m0->qIS XX (.ptr b0 0) (.ptr b3 0) (.ptr b24 0) (f 5) I0 m0 K s:=by
 refine⟨λys t m=>∃(i:Nat) (H:Hq) (v:AV),ys=[.int .i64 (i:Int)]/\i<=3/\m=3-i/\FS 31 s0 H t b3 b24 (csF x v2 v .nilslc .nilslc .nilslc .nilslc)/\H b0=some z0/\R (hdel H b0)/\AccR 93 2 (ext H t b3 b24) t v (qHd i),⟨_,0,H,.nilslc,rfl,by omega,rfl,z,hb0,r,⟨λr h=>(by cases h),.inl ⟨rfl,rfl⟩⟩⟩,?_⟩;rintro f t m ⟨i,H,v,hy,hi,rfl,z,hb0,r,acc⟩;simp only[cI,and_true]at hy;rw[hy];unfold qIS;refine qBS z.tk (n:=3) (by omega) (by omega) λt1 j hj tk1 u1=>?_;have kp1:qAc (λi=>i=b3) t t1:=u1.keep rfl;have z1:=z.step kp1 tk1;simp only[qId,qAB];refine qAJ (λhlt=>?_) (λhge=>?_)
 ·have hlt:i<3:=by have:=oT hlt;omega
  simp only[qAI,zAY,qAB];refine qAA (a:=v) (by rw[qAK z1.fb];rfl) ?_;simp only[qAN,qAB];rw[qAb (n:=100+(i:Int)) (by omega) (by omega),qAb (n:=900+(i:Int)) (by omega) (by omega),qMu (by omega) (by omega),qMu (by omega) (by omega)];simp only[qAB];refine qAA (a:=tnC i) rfl (qAA (qSW (zs:=[(.int .u32 0),(.int .u32 0)]) (c:=tnC i) rfl) ⟨rfl,qAM λd t2 hd h2 u2=>?_⟩);have k2:=u2.sub hd;refine push z acc (kp1.trans k2.keep) (tk1.more k2) (row1 h2 rfl) (by rw[qKl];omega) (by show 3<19;omega) λv' t4 H' z4 acc4 hHH _=>?_;rw[qAb (by omega) (by omega)];exact⟨_,by omega,i+1,H',v',rfl,by omega,rfl,z4,hHH _ _ hb0,hR _ _ (qBb hHH) r,by rw[qTF];exact acc4⟩
 ·have hge:1<=i:=by have:=oF hge;omega
  refine qBS tk1 (n:=4) (by omega) (by omega) λt5 m5 hm5 tk5 u5=>?_;have kp5:qAc (λi=>i=b3) t t5:=kp1.trans (u5.keep rfl);have z5:=z.step kp5 tk5;have acc5:=qG8 z acc kp5;obtain⟨H2,z2,k2,sl⟩:=finish (b0:=b0) z5 acc5 (by rw[hb0];simp);have r2:=hR _ _ (qBb k2) r;simp only[qAN,qAB];rw[qAb (by omega) (by omega)];have em:(1:Int)+(m5:Int)=((1+m5:Nat):Int):=by omega
  rw[em];refine zABD (R:=λa=>R a/\SlR 2 a v (qHd i)) (n:=i) (λa b k q=>⟨hR _ _ k q.1,q.2.sub k⟩) (λa q=>q.2) hx (by omega) (by omega) z2 (k2 _ _ hb0) ⟨r2,sl⟩ (λv4 v5 v6 v7 h4 h5 h6 h7=>by simp[csF,hv2,sl.one,h4,h5,h6,h7]) λt' H' v4 v5 v6 v7 B S Hs G z' hb' r'=>?_;exact fin t' H' v v4 v5 v6 v7 i B S Hs G z' hb' r'.1 r'.2 (by omega)
end Go.AM.TN
namespace Go.AM.TN
open Go Go.Proofs
variable {K:AV→Hq→Prop} {s s0:Hq} {lv v:AV} {b b0 b3 b24:Nat} {cs:List AV}
theorem qKh(a b c d e:Int)(f g:Bool):qAl [(.int .i64 0),(.int .i64 0),.nilslc,.nilslc,.nilslc,.nilslc,.nilslc,.nilslc,(.int .i64 0),(.int .i64 0),(.int .i64 0),(.bool false),(.bool false),(.int .i64 0),(.int .i64 0),(.int .i64 0),(.int .i64 0),(.int .i64 0),(.int .i64 0)] [(0,1,.int .i64 a),(1,1,.int .i64 b),(8,1,.int .i64 c),(9,1,.int .i64 d),(10,1,.int .i64 e),(11,1,.bool f),(12,1,.bool g)]=some [.int .i64 a,.int .i64 b,.nilslc,.nilslc,.nilslc,.nilslc,.nilslc,.nilslc,.int .i64 c,.int .i64 d,.int .i64 e,.bool f,.bool g,.int .i64 0,.int .i64 0,.int .i64 0,.int .i64 0,.int .i64 0,.int .i64 0]:=rfl
theorem zAB3(a b:Int):qAl [(.int .i64 0),(.int .i64 0),(.int .i64 0),(.int .i64 0),(.int .i64 0),(.int .i64 0)] [(0,1,.int .i64 a),(1,1,.int .i64 9),(2,1,.int .i64 b),(3,1,.int .i64 20),(4,1,.int .i64 5),(5,1,.int .i64 30)]=some [.int .i64 a,.int .i64 9,.int .i64 b,.int .i64 20,.int .i64 5,.int .i64 30]:=rfl
theorem timN(a b c d e h i:Int)(f g:Bool):qBI [.int .i64 a,.int .i64 b,.nilslc,.nilslc,.nilslc,.nilslc,.nilslc,.nilslc,.int .i64 c,.int .i64 d,.int .i64 e,.bool f,.bool g,.int .i64 0,.int .i64 0,.int .i64 0,.int .i64 0,.int .i64 0,.int .i64 0] 13 [.int .i64 h,.int .i64 9,.int .i64 i,.int .i64 20,.int .i64 5,.int .i64 30]=[.int .i64 a,.int .i64 b,.nilslc,.nilslc,.nilslc,.nilslc,.nilslc,.nilslc,.int .i64 c,.int .i64 d,.int .i64 e,.bool f,.bool g,.int .i64 h,.int .i64 9,.int .i64 i,.int .i64 20,.int .i64 5,.int .i64 30]:=rfl
set_option maxHeartbeats 2000000 in
theorem qUt{l:List Int}(hl:Sl s lv (l.map (AV.int .i64)))(hlen:l.length<=9223372036854775807)(hb:∀x∈l,-9223372036854775808<=x/\x<=9223372036854775807)(hK:∀t' cs F,Sub s t'->NFok F->NFR t' cs F->(∀v,cs[6]?=some v->Fv s v)->K (.agg cs) t'):wC TP XX 13 [lv] K s:=by
 refine qPX (qAM λb0 t1 hb0 h1 u1=>?_);have k1:=u1.sub hb0;refine qAA (a:=[lv,.int .i64 0]) ?_ ⟨by simp[hl.one],qAM λb3 t4 hb3 h4 u4=>?_⟩
 ·simp only[qAl,qDI hl.one]
  rfl
 have k4:=u4.sub hb3;have s3:s b3=none:=qA6 k1 hb3;have h4:t4 b3=some (false,.cells 110 [lv,.int .i64 ((0:Nat):Int)]):=h4;have tk4:Tk s t4 b3:=⟨k1.trans k4,s3,lv,l,0,h4,by omega,hlen,hl,hb⟩
 refine qBS tk4 (n:=3) (by omega) (by omega) λt6 r1 hr1 tk6 u6=>?_;simp only[qAN,qAB];rw[qAb (by omega) (by omega)];refine qBS tk6 (n:=3) (by omega) (by omega) λt9 r2 hr2 tk9 u9=>?_;simp only[qAN,qAB];rw[qAb (by omega) (by omega)];refine qBS tk9 (n:=3) (by omega) (by omega) λt12 r3 hr3 tk12 u12=>?_;refine qBS tk12 (n:=2) (by omega) (by omega) λt14 r4 hr4 tk14 u14=>?_;refine qBS tk14 (n:=2) (by omega) (by omega) λt16 r5 hr5 tk16 u16=>?_;refine qBS tk16 (n:=2) (by omega) (by omega) λt18 r6 hr6 tk18 u18=>?_;simp only[qAX,qAV,Bool.false_bne,qAB];refine qBS tk18 (n:=3) (by omega) (by omega) λt21 r7 hr7 tk21 u21=>?_;simp only[qAX,qAV,Bool.false_bne,qAB];have e1:(2:Int)+(r1:Int)=((2+r1:Nat):Int):=by omega
 have e2:(1:Int)+(r2:Int)=((1+r2:Nat):Int):=by omega
 rw[e1,e2];refine qAA (qKh _ _ _ _ _ _ _) ?_;refine qAM λb24 t25 hb24 h25 u25=>qAT h25 rfl rfl rfl λt26 h26 u26=>?_;have kp21:qAc (λi=>i=b3) t4 t21:=λi e hi ne=>by rw[u21 i ne,u18 i ne,u16 i ne,u14 i ne,u12 i ne,u9 i ne,u6 i ne];exact hi
 have k26:Sub t21 t26:=qAW (u25.sub hb24) u26 hb24;have n324:b3≠b24:=λe=>by rw[<- e]at hb24;exact tk21.at hb24
 have n03:b0≠b3:=λe=>by rw[<- e,h1]at hb3;cases hb3
 have h21:=kp21 _ _ (k4 _ _ h1) n03;have n024:b0≠b24:=λe=>by rw[<- e,h21]at hb24;cases hb24
 refine qBS (tk21.more k26) (n:=3) (by omega) (by omega) λt28 r8 hr8 tk28 u28=>?_;simp only[qAN,qAB];rw[qAb (by omega) (by omega)];refine qBS tk28 (n:=30) (by omega) (by omega) λt31 r9 hr9 tk31 u31=>?_;simp only[qAN,qAB];rw[qAb (by omega) (by omega)];have e8:(1:Int)+(r8:Int)=((1+r8:Nat):Int):=by omega
 have e9:(40:Int)+(r9:Int)=((40+r9:Nat):Int):=by omega
 rw[e8,e9];have h31:t31 b24=some (false,.cells 31 [.int .i64 ((2+r1:Nat):Int),.int .i64 ((1+r2:Nat):Int),.nilslc,.nilslc,.nilslc,.nilslc,.nilslc,.nilslc,.int .i64 (r3:Int),.int .i64 (r4:Int),.int .i64 (r5:Int),.bool ((r6:Int) == 0),.bool ((r7:Int) == 1),.int .i64 0,.int .i64 0,.int .i64 0,.int .i64 0,.int .i64 0,.int .i64 0]):=by rw[u31 _ (Ne.symm n324),u28 _ (Ne.symm n324)];exact h26
 refine qAA (zAB3 _ _) ?_;simp only[qAI,zAY,qAB];refine qOA h31 rfl (by show 13+6<=19;omega) rfl λt35 h35 u35=>?_;rw[timN]at h35;have h35:t35 b24=some (false,.cells 31 (csF ⟨2+r1,1+r2,r3,r4,r5,(r6:Int) == 0,(r7:Int) == 1,1+r8,40+r9⟩ .nilslc .nilslc .nilslc .nilslc .nilslc .nilslc)):=h35;have xok:NXok ⟨2+r1,1+r2,r3,r4,r5,(r6:Int) == 0,(r7:Int) == 1,1+r8,40+r9⟩:=⟨by show 2<=2+r1/\2+r1<=4;omega,by show 1<=1+r2/\1+r2<=3;omega,by show r3<=2;omega,by show r4<=1;omega,by show r5<=1;omega,by show 1<=1+r8/\1+r8<=3;omega,by show 40<=40+r9/\40+r9<=69;omega⟩
 have elf:(⟨2+r1,1+r2,r3,r4,r5,(r6:Int) == 0,(r7:Int) == 1,1+r8,40+r9⟩:NX).lf=2+r1:=rfl;have esp:(⟨2+r1,1+r2,r3,r4,r5,(r6:Int) == 0,(r7:Int) == 1,1+r8,40+r9⟩:NX).sp=1+r2:=rfl;generalize(⟨2+r1,1+r2,r3,r4,r5,(r6:Int) == 0,(r7:Int) == 1,1+r8,40+r9⟩:NX)=x at h35 xok elf esp;have s24:s b24=none:=qA6 tk21.sub hb24;have tk35:Tk s t35 b3:=tk31.u u35 s24 n324;have b035:t35 b0=some (false,.cells 31 [(.int .i64 0),(.int .i64 0),.nilslc,.nilslc,.nilslc,.nilslc,.nilslc,.nilslc,(.int .i64 0),(.int .i64 0),(.int .i64 0),(.bool false),(.bool false),(.int .i64 0),(.int .i64 0),(.int .i64 0),(.int .i64 0),(.int .i64 0),(.int .i64 0)]):=by rw[u35 _ n024,u31 _ n03,u28 _ n03];exact k26 _ _ h21
 refine qAA (a:=.int .i64 ((2+r1:Nat):Int)) (by rw[qAK h35,<- elf];rfl) (qAA (a:=.int .i64 ((1+r2:Nat):Int)) (by rw[qAK h35,<- esp];rfl) ?_);refine qWi tk35 (by omega) (by omega) λt41 v2 L tk41 kp41 acc41 lok llen=>?_;have h41:=kp41 _ _ h35 (Ne.symm n324);refine qBF h41 (by show 2<19;omega) acc41.sl.one λt43 h43 u43=>?_;have h43:t43 b24=some (false,.cells 31 (csF x v2 .nilslc .nilslc .nilslc .nilslc .nilslc)):=h43;have tk43:Tk s t43 b3:=tk41.u u43 s24 n324;have z:FS 31 s (offB t43 b3 b24) t43 b3 b24 (csF x v2 .nilslc .nilslc .nilslc .nilslc .nilslc):=by
  refine⟨tk43,h43,λi e hi=>?_,if_pos (.inl rfl),if_pos (.inr rfl),λi e hi=>?_,n324⟩
  ·unfold offB at hi
   split at hi
   ·cases hi
   ·exact hi
  ·unfold offB
   rw[if_neg (by
    rintro (q|q)
    ·rw[q,s3]at hi;cases hi
    ·rw[q,s24]at hi;cases hi)]
   exact tk43.sub _ _ hi
 have hb0':offB t43 b3 b24 b0=some (false,.cells 31 [(.int .i64 0),(.int .i64 0),.nilslc,.nilslc,.nilslc,.nilslc,.nilslc,.nilslc,(.int .i64 0),(.int .i64 0),(.int .i64 0),(.bool false),(.bool false),(.int .i64 0),(.int .i64 0),(.int .i64 0),(.int .i64 0),(.int .i64 0),(.int .i64 0)]):=by
  unfold offB;rw[if_neg (by
   rintro (q|q)
   ·exact n03 q
   ·exact n024 q),u43 _ n024]
  exact kp41 _ _ b035 n03
 have slL:SlR 3 (hdel (offB t43 b3 b24) b0) v2 (L.map lkC):=by
  have n3:∀b o n c e,v2=.slc b o n c e->b3≠b:=acc41.own tk35.at;have n24:∀b o n c e,v2=.slc b o n c e->b24≠b:=acc41.own (by rw[h35];simp);have n0:∀b o n c e,v2=.slc b o n c e->b0≠b:=acc41.own (by rw[b035];simp);refine(AccR.sl (elem:=91) (s0:=t35) ⟨acc41.1,acc41.2.imp id λ⟨c,q0,q1,q2⟩=>⟨c,q0,q1,?_⟩⟩);rw[qEk (Ne.symm (n0 _ _ _ _ _ q1))];unfold offB;rw[if_neg (by
   rintro (q|q)
   ·exact n3 _ _ _ _ _ q1 q.symm
   ·exact n24 _ _ _ _ _ q1 q.symm),u43 _ (Ne.symm (n24 _ _ _ _ _ q1))]
  exact q2
 refine zAAN (R:=λa=>SlR 3 a v2 (L.map lkC)) (λa b k q=>q.sub k) ⟨by have:=xok.lf;omega,by have:=xok.lf;omega⟩ z hb0' slL acc41.sl.one λt' H' v3 v4 v5 v6 v7 n B S Hs G z' hb' r' q1 q2 q3 q4 q5 q6 q7 q8 q9 q10 q11 q12 q13 q14 q15=>?_;refine zAAd (F:=⟨x,L,n,B,S,Hs,G⟩) z' hb' rfl hb0 ⟨v2,v3,v4,v5,v6,v7,rfl,r',q1,q3,q6,q9.1,q12⟩ ⟨xok,by rw[<- elf,<- esp]at lok;exact lok,?_,q2,q4,q5,q7,q8,q10,q11,q13,q14,q15⟩ (λv e=>by have e:some v6=some v:=e;cases e;exact q9.2) hK;exact Nat.le_trans llen (Nat.le_trans (Nat.mul_le_mul (show 2+r1<=4 by omega) (show 1+r2<=3 by omega)) (by omega))
end Go.AM.TN
namespace Go.AM.TN
open Go Go.Proofs
variable {K:AV→Hq→Prop} {s s':Hq} {v:AV} {c:Nat} {cs:List AV} {Y:Td}
abbrev BG:=Int×Int×Int×Int×Int×Int
abbrev R4:=Int×Int×Int×Int
structure FG where
 lf:Int
 sp:Int
 el:Int
 hz:Int
 ro:Int
 su:Bool
 tr:Bool
 de:Int
 ho:Int
 ag:Int
 re:Int
 mo:Int
 wi:Int
 L:List RLk
 T:List (Int×Int)
 B:List BG
 S:List (List Int×List Int)
 H:List R4
 G:List R4
def tgC(x:Int×Int):List AV:=[.int .u32 x.1,.int .u32 x.2]
def bgC(x:BG):List AV:=[.int .i64 x.1,.int .u32 x.2.1,.int .u32 x.2.2.1,.int .u32 x.2.2.2.1,.int .i64 x.2.2.2.2.1,.int .u32 x.2.2.2.2.2]
def hgC(x:R4):List AV:=[.int .u64 x.1,.int .u32 x.2.1,.int .i64 x.2.2.1,.int .i64 x.2.2.2]
def ggC(x:R4):List AV:=[.int .i64 x.1,.int .i64 x.2.1,.int .u32 x.2.2.1,.int .i64 x.2.2.2]
def ix(l:List Int):List AV:=l.map (AV.int .i64)
theorem qA3{l:List Int}:(ix l).length=l.length:=by unfold ix;simp
theorem qFd{l:List Int}{i:Nat}(h:i<l.length):(ix l)[i]?=some (.int .i64 l[i]):=by unfold ix;simp[h]
def SgG(s:Hq)(v:AV)(S:List (List Int×List Int)):Prop:=∃vs:List (AV×AV),SlR 2 s v (vs.map λp=>[p.1,p.2])/\vs.length=S.length/\∀(i:Nat) (q:AV×AV) (x:List Int×List Int),vs[i]?=some q->S[i]?=some x->Sl s q.1 (ix x.1)/\Sl s q.2 (ix x.2)
theorem SgG.sub{S:List (List Int×List Int)}(h:SgG s v S)(k:Sub s s'):SgG s' v S:=by obtain⟨vs,h1,h2,h3⟩:=h;exact⟨vs,h1.sub k,h2,λi q x a c=>⟨(h3 i q x a c).1.sub k,(h3 i q x a c).2.sub k⟩⟩
theorem SgG.len{S:List (List Int×List Int)}(h:SgG s v S):qAQ v=some S.length:=by obtain⟨vs,h1,h2,_⟩:=h;rw[h1.len,lM,h2]
theorem SgG.one{S:List (List Int×List Int)}(h:SgG s v S):v.one=true:=by obtain⟨vs,h1,_⟩:=h;exact h1.one
theorem SgG.at{S:List (List Int×List Int)}(h:SgG s v S){i:Nat}{x:List Int×List Int}(hx:S[i]?=some x):∃pb po l1 l2,qAY 2 v (.int .i64 (i:Int))=some (.ptr pb po)/\rdN s 2 (.ptr pb po)=some [l1,l2]/\rd1 s (.ptr pb po)=some l1/\rd1 s (.ptr pb (po+1))=some l2/\Sl s l1 (ix x.1)/\Sl s l2 (ix x.2):=by
 obtain⟨vs,h1,h2,h3⟩:=h;have hi:i<vs.length:=by rw[h2];exact(gS hx).1
 have hq:vs[i]?=some vs[i]:=gE hi;obtain⟨pb,po,e1,e2,e3⟩:=h1.get (i:=i) (r:=[vs[i].1,vs[i].2]) (by rw[List.getElem?_map,hq];rfl);obtain⟨a,c⟩:=h3 i _ x hq hx;exact⟨pb,po,vs[i].1,vs[i].2,e1,e2,e3 0 (by omega),e3 1 (by omega),a,c⟩
def csG(F:FG)(v2 v3 v4 v5 v6 v7:AV):List AV:=[.int .i64 F.lf,.int .i64 F.sp,v2,v3,v4,v5,v6,v7,.int .i64 F.el,.int .i64 F.hz,.int .i64 F.ro,.bool F.su,.bool F.tr,.int .i64 F.de,.int .i64 F.ho,.int .i64 F.ag,.int .i64 F.re,.int .i64 F.mo,.int .i64 F.wi]
structure FL(s:Hq)(F:FG)(v2 v3 v4 v5 v6 v7:AV):Prop where
 L:SlR 3 s v2 (F.L.map lkC)
 T:SlR 2 s v3 (F.T.map tgC)
 B:SlR 6 s v4 (F.B.map bgC)
 S:SgG s v5 F.S
 H:SlR 4 s v6 (F.H.map hgC)
 G:SlR 4 s v7 (F.G.map ggC)
theorem FL.sub{F:FG}{v2 v3 v4 v5 v6 v7:AV}(h:FL s F v2 v3 v4 v5 v6 v7)(k:Sub s s'):FL s' F v2 v3 v4 v5 v6 v7:=⟨h.L.sub k,h.T.sub k,h.B.sub k,h.S.sub k,h.H.sub k,h.G.sub k⟩
theorem FL.all{F:FG}{v2 v3 v4 v5 v6 v7:AV}(h:FL s F v2 v3 v4 v5 v6 v7):qAa (csG F v2 v3 v4 v5 v6 v7)=true:=by simp[csG,h.L.one,h.T.one,h.B.one,h.S.one,h.H.one,h.G.one]
def FabR(s:Hq)(cs:List AV)(F:FG):Prop:=∃v2 v3 v4 v5 v6 v7,cs=csG F v2 v3 v4 v5 v6 v7/\FL s F v2 v3 v4 v5 v6 v7
theorem FabR.sub{F:FG}(h:FabR s cs F)(k:Sub s s'):FabR s' cs F:=by obtain⟨v2,v3,v4,v5,v6,v7,e,h⟩:=h;exact⟨v2,v3,v4,v5,v6,v7,e,h.sub k⟩
def outB(n lo hi:Int):Bool:=decide (n<lo)||decide (hi<n)
theorem qCT{n lo hi:Int}:outB n lo hi=false↔lo<=n/\n<=hi:=by unfold outB;simp
theorem qB0(hY:Fn0 Y){n lo hi:Int}(hK:K (.bool (outB n lo hi)) s):wC TP Y 150 [.int .i64 n,.int .i64 lo,.int .i64 hi] K s:=by
 refine qOk hY.fr (hY.no _ rfl) ?_;unfold outB at hK;simp only[qNu,qAP,qBO,qAB];refine qAJ (λe=>?_) (λe=>?_)
 ·rw[e]at hK ⊢
  exact hK
 ·rw[e]at hK ⊢
  exact hK
def inB(i n:Int):Bool:=decide (0<=i)&&decide (i<n)
theorem qKc{i n:Int}:inB i n=true↔0<=i/\i<n:=by unfold inB;simp
theorem qDU(hY:Fn0 Y){i n:Int}(hK:K (.bool (inB i n)) s):wC TP Y 153 [.int .i64 i,.int .i64 n] K s:=by
 refine qPS hY.fr (hY.no _ rfl) ?_;unfold inB at hK;simp only[qPK,qBV,qAP,qAB];refine qAJ (λe=>?_) (λe=>?_)
 ·rw[e]at hK ⊢
  exact hK
 ·rw[e]at hK ⊢
  exact hK
def flV(e:Int)(p:ByteArray)(i:Int):AV:=.ifc 156 (.agg [.int .i64 e,.str p,.int .i64 i])
abbrev NoR:AV->Hq->Prop:=λ_ _=>False
theorem qBG{bad:Bool}{e i:Int}{p:ByteArray}(hK:bad=false->K (.tup []) s)(hR:bad=true->NoR (flV e p i) s):wC TP XX 149 [.bool bad,.int .i64 e,.str p,.int .i64 i] K s:=by refine qSg ?_;unfold qUf;exact qAJ (λq=>(hR q).elim) hK
end Go.AM.TN
namespace Go.AM.OR
theorem qWJ:∀{l m:List Int},l.Nodup->(∀x∈l,x∈m)->l.length<=m.length:=by
 intro l
 induction l with
 |nil=>intro m _ _;exact Nat.zero_le _
 | cons a l ih=>
   intro m h1 h2;obtain⟨ha,hn⟩:=List.nodup_cons.1 h1;have hm:a∈m:=h2 a (by simp);have:=ih (m:=m.erase a) hn λx hx=>(List.mem_erase_of_ne (λe=>ha (by rw[<- e];exact hx))).2 (h2 x (by simp[hx]));rw[List.length_erase_of_mem hm]at this;have:0<m.length:=List.length_pos_of_mem hm;simp only[List.length_cons];omega
theorem qN6{l:List Int}{N:Nat}(h1:l.Nodup)(h2:∀x∈l,0<=x/\x<N):l.length<=N:=by
 have:=qWJ (m:=(List.range N).map λi:Nat=>(i:Int)) h1 λx hx=>by obtain⟨a,b⟩:=h2 x hx;exact List.mem_map.2 ⟨x.toNat,List.mem_range.2 (by omega),by omega⟩
 simpa using this
inductive Rch (nx:Int->List Int) (a:Int):Int->Prop
 |refl:Rch nx a a
 |step {b c:Int}:Rch nx a b->c∈nx b->Rch nx a c
variable {nx:Int→List Int} {a b c:Int} {Q:List Int} {i N:Nat}
theorem Rch.trans(h:Rch nx a b)(h2:Rch nx b c):Rch nx a c:=by
 induction h2 with
 |refl=>exact h
 |step _ q ih=>exact .step ih q
theorem Rch.symm(hs:∀a b,b∈nx a->a∈nx b)(h:Rch nx a b):Rch nx b a:=by
 induction h with
 |refl=>exact .refl
 |step _ q ih=>exact(Rch.step .refl (hs _ _ q)).trans ih
structure Bfs(nx:Int->List Int)(a:Int)(N:Nat)(Q:List Int)(i:Nat):Prop where
 nd:Q.Nodup
 h0:a∈Q
 rch:∀x∈Q,Rch nx a x
 cl:∀j,j<i->∀x,Q[j]?=some x->∀y∈nx x,y∈Q
 rng:∀x∈Q,0<=x/\x<(N:Int)
theorem Bfs.len(h:Bfs nx a N Q i):Q.length<=N:=qN6 h.nd h.rng
theorem Bfs.start(h0:0<=a)(h1:a<(N:Int)):Bfs nx a N [a] 0:=
 ⟨by simp,by simp,λx hx=>by rw[List.mem_singleton.1 hx];exact .refl,λj hj=>by omega,λx hx=>by rw[List.mem_singleton.1 hx];exact⟨h0,h1⟩⟩
structure Bfr(nx:Int->List Int)(a:Int)(N:Nat)(Q0 Q:List Int)(i:Nat)(x:Int)(k:Nat):Prop where
 b:Bfs nx a N Q i
 at':Q[i]?=some x
 pre:∃L,Q=Q0++L
 hk:∀y∈(nx x).take k,y∈Q
theorem Bfs.enter{x:Int}(h:Bfs nx a N Q i)(hx:Q[i]?=some x):Bfr nx a N Q Q i x 0:=⟨h,hx,⟨[],by simp⟩,λy hy=>by simp at hy⟩
theorem Bfr.old{Q0:List Int}{x y:Int}{k:Nat}(h:Bfr nx a N Q0 Q i x k)(hy:(nx x)[k]?=some y)(hq:y∈Q):Bfr nx a N Q0 Q i x (k+1):=
 ⟨h.b,h.at',h.pre,λz hz=>by
  rw[List.take_add_one,hy]at hz;rcases mP hz with hz|hz
  ·exact h.hk z hz
  ·have:z=y:=by simpa using hz
   rw[this];exact hq⟩
theorem Bfr.new{Q0:List Int}{x y:Int}{k:Nat}(h:Bfr nx a N Q0 Q i x k)(hy:(nx x)[k]?=some y)(hr:0<=y/\y<(N:Int))(hq:y ∉ Q):Bfr nx a N Q0 (Q ++ [y]) i x (k+1):=by
 have hlt:=(gS h.at').1;refine⟨⟨?_,by simp[h.b.h0],λz hz=>?_,λj hj z hz w hw=>?_,λz hz=>?_⟩,?_,?_,λz hz=>?_⟩
 ·rw[List.nodup_append]
  exact⟨h.b.nd,by simp,λp hp q hq' e=>by have:q=y:=by simpa using hq'
                                         subst this;subst e;exact hq hp⟩
 ·rcases mP hz with hz|hz
  ·exact h.b.rch z hz
  ·have:z=y:=by simpa using hz
   subst this;exact .step (h.b.rch x (mG h.at')) (mG hy)
 ·rw[List.getElem?_append_left (by omega)]at hz
  exact List.mem_append_left _ (h.b.cl j hj z hz w hw)
 ·rcases mP hz with hz|hz
  ·exact h.b.rng z hz
  ·have:z=y:=by simpa using hz
   subst this;exact hr
 ·rw[List.getElem?_append_left hlt];exact h.at'
 ·obtain⟨L,e⟩:=h.pre
  exact⟨L ++ [y],by rw[e,List.append_assoc]⟩
 ·rw[List.take_add_one,hy]at hz
  rcases mP hz with hz|hz
  ·exact List.mem_append_left _ (h.hk z hz)
  ·have:z=y:=by simpa using hz
   rw[this];simp
theorem Bfr.leave{Q0:List Int}{x:Int}{k:Nat}(h:Bfr nx a N Q0 Q i x k)(hk:(nx x).length<=k):Bfs nx a N Q (i+1):=
 ⟨h.b.nd,h.b.h0,h.b.rch,λj hj z hz w hw=>by
  by_cases e:j=i
  ·subst e
   rw[h.at']at hz;cases hz;exact h.hk w (by rw[List.take_of_length_le hk];exact hw)
  ·exact h.b.cl j (by omega) z hz w hw,h.b.rng⟩
theorem Bfs.done(h:Bfs nx a N Q Q.length):∀y,y∈Q↔Rch nx a y:=λy=>by
 refine⟨h.rch y,λq=>?_⟩
 induction q with
 |refl=>exact h.h0
 | step _ hc ih=>
   obtain⟨j,hj⟩:=List.getElem?_of_mem ih;exact h.cl j (gS hj).1 _ hj _ hc
end Go.AM.OR
namespace Go.AM.FD
theorem asc_ext:∀{a b:List Int},a.Pairwise (· < ·)->b.Pairwise (· < ·)->(∀y,y∈a↔y∈b)->a=b
 |[],[],_,_,_=>rfl
 |[],y::b,_,_,h=>by have:=(h y).2 List.mem_cons_self;cases this
 |x::a,[],_,_,h=>by have:=(h x).1 List.mem_cons_self;cases this
 | x::a,y::b,ha,hb,h=>by
   obtain⟨a1,a2⟩:=List.pairwise_cons.1 ha;obtain⟨b1,b2⟩:=List.pairwise_cons.1 hb;have e:x=y:=by
    rcases mC ((h x).1 List.mem_cons_self)with e|e
    ·exact e
    ·rcases mC ((h y).2 List.mem_cons_self)with e2|e2
     ·exact e2.symm
     ·have:=a1 y e2;have:=b1 x e;omega
   subst e
   congr 1
   refine asc_ext a2 b2 λz=>⟨λhz=>?_,λhz=>?_⟩
   ·rcases mC ((h z).1 (mO _ hz))with e|e
    ·have:=a1 z hz;omega
    ·exact e
   ·rcases mC ((h z).2 (mO _ hz))with e|e
    ·have:=b1 z hz;omega
    ·exact e
section
variable {ρ : Type} (fl : ρ → Bool) (nx : ρ → Int)
end
end Go.AM.FD
namespace Go.AM.OR
open Go.AM.TN
structure WG where
 nd:List Bool
 lk:List Bool
 pt:List (List Bool)
 wh:List Int
def onB(l:List Bool)(i:Int):Bool:=decide (0<=i)&&(l[i.toNat]?).getD false
theorem qUr{l:List Bool}{i:Nat}:onB l (i:Int)=(l[i]?).getD false:=by unfold onB;rw[decide_eq_true (by omega),Bool.true_and];rfl
def works(F:FG)(W:WG)(i:Nat):Bool:=match F.L[i]? with
 |some x=>onB W.lk (i:Int)&&(onB W.nd x.1&&onB W.nd x.2.1)
 |none=>false
def qPU(F:FG)(W:WG)(n:Int)(i:Nat):Option Int:=match F.L[i]? with
 |some x=>if works F W i then(if x.1=n then some x.2.1 else if x.2.1=n then some x.1 else none)else none
 |none=>none
def nbrN(F:FG)(W:WG)(n:Int)(k:Nat):List Int:=(List.range k).filterMap (qPU F W n)
def nbr(F:FG)(W:WG)(n:Int):List Int:=nbrN F W n F.L.length
variable {F:FG} {W:WG} {a b n:Int} {i k:Nat} {ar ar':List Int}
theorem qVj:nbrN F W n (k+1)=nbrN F W n k++(qPU F W n k).toList:=by unfold nbrN;rw[List.range_succ,List.filterMap_append];cases h:qPU F W n k<;>simp[h]
theorem qRo:∀k,(nbrN F W n k).length<=k:=λk=>by unfold nbrN;have:=List.length_filterMap_le (qPU F W n) (List.range k);simpa using this
theorem qOX:b∈nbr F W a↔∃i x,F.L[i]?=some x/\works F W i=true/\((x.1=a/\x.2.1=b)∨(x.1≠a/\x.2.1=a/\x.1=b)):=by
 unfold nbr nbrN;rw[List.mem_filterMap];constructor
 ·rintro ⟨i,_,h⟩
  unfold qPU at h;split at h
  ·rename_i x hx
   split at h
   ·rename_i hw
    split at h
    ·rename_i e
     exact⟨i,x,hx,hw,.inl ⟨e,by simpa using h⟩⟩
    ·rename_i e
     split at h
     ·rename_i e2
      exact⟨i,x,hx,hw,.inr ⟨e,e2,by simpa using h⟩⟩
     ·cases h
   ·cases h
  ·cases h
 ·rintro ⟨i,x,hx,hw,h⟩
  refine⟨i,List.mem_range.2 (gS hx).1,?_⟩;unfold qPU;simp only[hx,hw,if_true];rcases h with⟨h1,h2⟩|⟨h1,h2,h3⟩
  ·rw[if_pos h1,h2]
  ·rw[if_neg h1,if_pos h2,h3]
structure LnkOk(F:FG):Prop where
 lf:0<=F.lf
 sp:0<=F.sp
 row:∀x∈F.L,(0<=x.1/\x.1<F.lf)/\(F.lf<=x.2.1/\x.2.1<F.lf+F.sp)
theorem qXt(hL:LnkOk F)(h:b∈nbr F W a):a∈nbr F W b:=by
 obtain⟨i,x,hx,hw,h⟩:=qOX.1 h;obtain⟨h1,h2⟩:=hL.row x (mG hx);refine qOX.2 ⟨i,x,hx,hw,?_⟩;rcases h with⟨rfl,rfl⟩|⟨h3,rfl,rfl⟩
 ·exact .inr ⟨by omega,rfl,rfl⟩
 ·exact .inl ⟨rfl,rfl⟩
theorem qWc{x:RLk}(hx:F.L[i]?=some x)(h:works F W i=true):onB W.nd x.1=true/\onB W.nd x.2.1=true:=by unfold works at h;rw[hx]at h;simp only[Bool.and_eq_true]at h;exact h.2
theorem zAAY(h:b∈nbr F W a):onB W.nd b=true:=by
 obtain⟨i,x,hx,hw,h⟩:=qOX.1 h;obtain⟨h1,h2⟩:=qWc hx hw;rcases h with⟨rfl,rfl⟩|⟨h3,rfl,rfl⟩
 ·exact h2
 ·exact h1
theorem zABZ(hL:LnkOk F)(h:b∈nbr F W a):0<=b/\b<F.lf+F.sp:=by obtain⟨i,x,hx,hw,h⟩:=qOX.1 h;obtain⟨h1,h2⟩:=hL.row x (mG hx);have:=hL.lf;have:=hL.sp;rcases h with⟨rfl,rfl⟩|⟨h3,rfl,rfl⟩<;>omega
theorem zAAV(h:Rch (nbr F W) a b)(ha:onB W.nd a=true):onB W.nd b=true:=by
 cases h with
 |refl=>exact ha
 |step _ h=>exact zAAY h
def upB(F:FG)(W:WG)(l:Int):Bool:=decide (0<=l)&&(decide (l<F.lf)&&onB W.nd l)
def Ar(F:FG)(W:WG)(l:Int)(ar:List Int):Prop:=(upB F W l=false->ar=[])/\(upB F W l=true->ar.Pairwise (· < ·)/\∀n,n∈ar↔(0<=n/\n<F.lf)/\Rch (nbr F W) l n)
theorem Ar.uniq(h:Ar F W a ar)(h':Ar F W a ar'):ar=ar':=by
 cases c:upB F W a with
 |false=>rw[h.1 c,h'.1 c]
 |true=>exact FD.asc_ext (h.2 c).1 (h'.2 c).1 λy=>((h.2 c).2 y).trans ((h'.2 c).2 y).symm
theorem Ar.up(h:Ar F W a ar)(hb:b∈ar):upB F W a=true:=by
 cases c:upB F W a with
 |false=>rw[h.1 c]at hb;cases hb
 |true=>rfl
theorem qL7:upB F W a=true↔(0<=a/\a<F.lf)/\onB W.nd a=true:=by unfold upB;simp only[Bool.and_eq_true,decide_eq_true_eq];exact⟨λ⟨h1,h2,h3⟩=>⟨⟨h1,h2⟩,h3⟩,λ⟨⟨h1,h2⟩,h3⟩=>⟨h1,h2,h3⟩⟩
theorem Ar.self(h:Ar F W a ar):a∈ar↔upB F W a=true:=by refine⟨λq=>h.up q,λc=>?_⟩;exact((h.2 c).2 a).2 ⟨(qL7.1 c).1,.refl⟩
theorem Ar.mem_up(h:Ar F W a ar)(hb:b∈ar):upB F W b=true:=by have c:=h.up hb;obtain⟨h1,h2⟩:=((h.2 c).2 b).1 hb;exact qL7.2 ⟨h1,zAAV h2 (qL7.1 c).2⟩
theorem Ar.same(hL:LnkOk F)(h:Ar F W a ar)(hb:b∈ar)(h':Ar F W b ar'):ar'=ar:=by have c:=h.up hb;have c':=h.mem_up hb;have r:=(((h.2 c).2 b).1 hb).2;refine FD.asc_ext (h'.2 c').1 (h.2 c).1 λy=>((h'.2 c').2 y).trans (Iff.trans ?_ ((h.2 c).2 y).symm);exact⟨λ⟨q1,q2⟩=>⟨q1,r.trans q2⟩,λ⟨q1,q2⟩=>⟨q1,(r.symm λa b=>qXt hL).trans q2⟩⟩
theorem Ar.comm(hL:LnkOk F)(h:Ar F W a ar)(h':Ar F W b ar'):b∈ar↔a∈ar':=
 ⟨λq=>by rw[h.same hL q h'];exact h.self.2 (h.up q),λq=>by rw[h'.same hL q h];exact h'.self.2 (h'.up q)⟩
def qLr(W:WG)(l sg:Int):Bool:=decide (0<=l)&&(match W.pt[l.toNat]? with
 |some r=>onB r sg
 |none=>false)
def memB(W:WG)(sg l:Int):Bool:=onB W.nd l&&qLr W l sg
def mems(F:FG)(W:WG)(sg:Int):List Int:=if 0<=sg then(match F.S[sg.toNat]? with
 |some x=>x.1.filter (memB W sg)
 |none=>[])else[]
def att(F:FG)(W:WG)(h:Int):Option Int:=if 0<=h then(match F.H[h.toNat]?,W.wh[h.toNat]? with
 | some x,some sg=>if 0<=sg then(match F.S[sg.toNat]? with
   |some g=>if x.2.2.1∈g.2 then some sg else none
   |none=>none)else none
 |_,_=>none)else none
def wthB(F:FG)(W:WG)(sg:Int)(ar:List Int):Bool:=(mems F W sg).any λl=>decide (l∈ar)
abbrev Hd:=Int×Int×Bool
def knw(F:FG)(W:WG)(ar:List Int)(hd:List Hd)(h:Int)(ip:Bool):Bool:=match att F W h with
 |some sg=>wthB F W sg ar&&hd.any λe=>(e.1 == h)&&((e.2.2||!ip)&&decide (e.2.1∈ar))
 |none=>false
def flB(F:FG)(W:WG)(ar:List Int)(bd fr:Int)(i:Nat):Bool:=match F.S[i]? with
 |some x=>!((i:Int) == fr)&&(decide (bd∈x.2)&&wthB F W (i:Int) ar)
 |none=>false
def fldN(F:FG)(W:WG)(ar:List Int)(bd fr:Int)(k:Nat):List Nat:=(List.range k).filter (flB F W ar bd fr)
theorem qUZ{bd fr:Int}:fldN F W ar bd fr (k+1)=fldN F W ar bd fr k++(if flB F W ar bd fr k=true then[k]else[]):=by
 unfold fldN;rw[List.range_succ,List.filter_append]
 congr 1
 cases h:flB F W ar bd fr k<;>simp[h]
end Go.AM.OR
namespace Go.AM.TN
open Go Go.Proofs
variable {K:AV→Hq→Prop} {s s':Hq} {y:AV} {b c:Nat} {F:FG} {v2 v3 v4 v5 v6 v7:AV} {t:Bool}
theorem qZT:(csG F v2 v3 v4 v5 v6 v7).length=19:=rfl
theorem csG0:(csG F v2 v3 v4 v5 v6 v7)[0]?=some (.int .i64 F.lf):=id rfl
theorem csG1:(csG F v2 v3 v4 v5 v6 v7)[1]?=some (.int .i64 F.sp):=id rfl
theorem csG2:(csG F v2 v3 v4 v5 v6 v7)[2]?=some v2:=id rfl
theorem csG3:(csG F v2 v3 v4 v5 v6 v7)[3]?=some v3:=id rfl
theorem csG4:(csG F v2 v3 v4 v5 v6 v7)[4]?=some v4:=id rfl
theorem csG5:(csG F v2 v3 v4 v5 v6 v7)[5]?=some v5:=id rfl
theorem csG6:(csG F v2 v3 v4 v5 v6 v7)[6]?=some v6:=id rfl
theorem csG7:(csG F v2 v3 v4 v5 v6 v7)[7]?=some v7:=id rfl
theorem csG8:(csG F v2 v3 v4 v5 v6 v7)[8]?=some (.int .i64 F.el):=id rfl
theorem csG9:(csG F v2 v3 v4 v5 v6 v7)[9]?=some (.int .i64 F.hz):=id rfl
theorem zACB:(csG F v2 v3 v4 v5 v6 v7)[10]?=some (.int .i64 F.ro):=id rfl
theorem qKa{zs:List AV}(hz:zs.length=19)(hc:s c=some (t,.cells 159 (csG F v2 v3 v4 v5 v6 v7)))(hL:FL s F v2 v3 v4 v5 v6 v7){J:Nat->Hq->Prop}(h:∀b s',s' b=some (false,.cells 31 (csG F v2 v3 v4 v5 v6 v7))->Sub s s'->J b s'):
  oK (qAH (.ptr c 0)) λv0=>oK (qAC 0 v0) λv1=>oK (rdN s 19 v1) λv2=>newK 31 zs (λb s4=>oK (qAw s4 19 (.ptr b 0) (.agg v2)) λs5=>J b s5) s:=by
 simp only[qGA,qAI,zAY,qAB];refine qAA (qAU hc rfl) (qAM λb s4 hb h4 u4=>qAT h4 (by rw[qZT,hz]) hz hL.all λs5 h5 u5=>?_);exact h b s5 h5 (qAW (u4.sub hb) u5 hb)
structure FabOk(F:FG):Prop where
 lf:1<=F.lf/\F.lf<=32
 sp:0<=F.sp/\F.sp<=32
 sum:F.lf+F.sp<=32
 el:0<=F.el/\F.el<=2
 hz:0<=F.hz/\F.hz<=1
 ro:0<=F.ro/\F.ro<=1
abbrev Kok(s:Hq)(P:Prop)(K:AV->Hq->Prop):Prop:=P->∀s',Sub s s'->K (.tup []) s'
abbrev Rbad(s:Hq)(P:Prop)(R:AV->Hq->Prop):Prop:=¬P->∀(e:Int) (p:ByteArray) (i:Int) s',e≠0->Sub s s'->R (flV e p i) s'
theorem qTv(hc:s c=some (t,.cells 159 (csG F v2 v3 v4 v5 v6 v7)))(hL:FL s F v2 v3 v4 v5 v6 v7)(hK:Kok s (FabOk F) K)(hR:Rbad s (FabOk F) NoR):wC TP XX 119 [.ptr c 0] K s:=by
 refine qPp (qKa rfl hc hL λb3 s5 h5 k5=>?_);simp only[qAI,zAY,qAB,qAK h5,csG0];have j2:∀(x y:AV) (bad:Bool),qAR x (.bool true) y=some (.bool bad)->(bad=true->¬FabOk F)->(bad=false->FabOk F)->qGD XX x y K s5:=λx y bad h h1 h2=>by unfold qGD;rw[h];exact qBG (λq=>hK (h2 q) s5 k5) λq=>hR (h1 q) _ _ _ s5 (by omega) k5
 have j1:∀(x y:AV) (bad:Bool),qAR x (.bool true) y=some (.bool bad)->(bad=true->¬FabOk F)->(bad=false->outB F.ro 0 1=false->FabOk F)->qGE XX (.ptr b3 0) x y K s5:=λx y bad h h1 h2=>by
  unfold qGE;rw[h];simp only[qAB];refine qAJ (λq=>?_) (λq=>?_)
  ·exact j2 _ _ bad (by rw[q];rfl) h1 (λq2=>by rw[q]at q2;cases q2)
  ·simp only[qAI,zAY,qAB,qAK h5,zACB]
   refine qB0 XX_0 ?_;exact j2 _ _ (outB F.ro 0 1) (by rw[q];rfl) (λq2 q3=>by have:=qCT.2 q3.ro;rw[this]at q2;cases q2) (λq2=>h2 q q2)
 have j0:∀(x y:AV) (bad:Bool),qAR x (.bool true) y=some (.bool bad)->(bad=true->¬FabOk F)->(bad=false->(1<=F.lf/\F.lf<=32)/\(0<=F.sp/\F.sp<=32))->qF0 XX (.ptr b3 0) x y K s5:=λx y bad h h1 h2=>by
  unfold qF0;rw[h];simp only[qAB];refine qBG (λq=>?_) λq=>hR (h1 q) _ _ _ s5 (by omega) k5;obtain⟨g1,g2⟩:=h2 q;simp only[qAI,zAY,qAB,qAK h5,csG0,csG1,qAN,qBO];rw[qAb (by omega) (by omega)];refine qBG (λq2=>?_) λq2=>hR (λg=>by have:=oT q2;have:=g.sum;omega) _ _ _ s5 (by omega) k5;have g3:=oF q2;simp only[qAK h5,csG8,qAB];refine qB0 XX_0 ?_;have fin:outB F.el 0 2=false->outB F.hz 0 1=false->outB F.ro 0 1=false->FabOk F:=λa b c=>⟨g1,g2,by omega,qCT.1 a,qCT.1 b,qCT.1 c⟩
  refine qAJ (λq=>?_) (λq=>?_)
  ·exact j1 _ _ true (by rw[q];rfl) (λ_ g=>by have:=qCT.2 g.el;rw[this]at q;cases q) (λq2=>by cases q2)
  ·simp only[qAB,qAK h5,csG9]
   refine qB0 XX_0 ?_;exact j1 _ _ (outB F.hz 0 1) (by rw[q];rfl) (λq2 g=>by have:=qCT.2 g.hz;rw[this]at q2;cases q2) (λq2 q3=>fin q q2 q3)
 refine qB0 XX_0 ?_;refine qAJ (λq=>?_) (λq=>?_)
 ·exact j0 _ _ true (by rw[q];rfl) (λ_ g=>by have:=qCT.2 g.lf;rw[this]at q;cases q) (λq2=>by cases q2)
 ·simp only[qAB,qAK h5,csG1]
  refine qB0 XX_0 ?_;exact j0 _ _ (outB F.sp 0 32) (by rw[q];rfl) (λq2 g=>by have:=qCT.2 g.sp;rw[this]at q2;cases q2) (λq2=>⟨qCT.1 q,qCT.1 q2⟩)
structure TimOk(F:FG):Prop where
 de:1<=F.de/\F.de<=100
 ho:3<=F.ho/\F.ho<=1000
 ag:1<=F.ag/\F.ag<=10000
 re:0<=F.re/\F.re<=1000
 mo:1<=F.mo/\F.mo<=100
 wi:1<=F.wi/\F.wi<=10000
theorem qUJ(hc:s c=some (t,.cells 159 (csG F v2 v3 v4 v5 v6 v7)))(hK:Kok s (TimOk F) K)(hR:Rbad s (TimOk F) NoR):wC TP XX 120 [.ptr c 0] K s:=by
 refine qPJ ?_;unfold qPx;simp only[qGA,qAI,zAY,qAB];have hrd:rdN s 6 (.ptr c 13)=some [.int .i64 F.de,.int .i64 F.ho,.int .i64 F.ag,.int .i64 F.re,.int .i64 F.mo,.int .i64 F.wi]:=by simp only[rdN,hc];rfl
 refine qAA hrd (qAM λb4 s5 hb h5' u5=>qAT h5' rfl rfl rfl λs6 h6 u6=>?_);have k6:Sub s s6:=qAW (u5.sub hb) u6 hb;have c0:rd1 s6 (.ptr b4 0)=some (.int .i64 F.de):=by rw[qAK h6];rfl
 have c1:rd1 s6 (.ptr b4 1)=some (.int .i64 F.ho):=by rw[qAK h6];rfl
 have c2:rd1 s6 (.ptr b4 2)=some (.int .i64 F.ag):=by rw[qAK h6];rfl
 have c3:rd1 s6 (.ptr b4 3)=some (.int .i64 F.re):=by rw[qAK h6];rfl
 have c4:rd1 s6 (.ptr b4 4)=some (.int .i64 F.mo):=by rw[qAK h6];rfl
 have c5:rd1 s6 (.ptr b4 5)=some (.int .i64 F.wi):=by rw[qAK h6];rfl
 have j3:∀(x y:AV) (bad:Bool),qAR x (.bool true) y=some (.bool bad)->(bad=true->¬TimOk F)->(bad=false->TimOk F)->qGB XX x y K s6:=λx y bad h h1 h2=>by unfold qGB;rw[h];exact qBG (λq=>hK (h2 q) s6 k6) λq=>hR (h1 q) _ _ _ s6 (by omega) k6
 have j2:∀(x y:AV) (bad:Bool),qAR x (.bool true) y=some (.bool bad)->(bad=true->¬TimOk F)->(bad=false->outB F.wi 1 10000=false->TimOk F)->qF1 XX (.ptr b4 0) x y K s6:=λx y bad h h1 h2=>by
  unfold qF1;rw[h];simp only[qAB];refine qAJ (λq=>?_) (λq=>?_)
  ·exact j3 _ _ bad (by rw[q];rfl) h1 (λq2=>by rw[q]at q2;cases q2)
  ·simp only[qAI,zAY,qAB,c5]
   refine qB0 XX_0 ?_;exact j3 _ _ (outB F.wi 1 10000) (by rw[q];rfl) (λq2 g=>by have:=qCT.2 g.wi;rw[this]at q2;cases q2) (λq2=>h2 q q2)
 have j1:∀(x y:AV) (bad:Bool),qAR x (.bool true) y=some (.bool bad)->(bad=true->¬TimOk F)->(bad=false->outB F.re 0 1000=false->outB F.mo 1 100=false->outB F.wi 1 10000=false->TimOk F)->qGC XX (.ptr b4 0) x y K s6:=λx y bad h h1 h2=>by
  unfold qGC;rw[h];simp only[qAB];refine qBG (λq=>?_) λq=>hR (h1 q) _ _ _ s6 (by omega) k6;simp only[qAI,zAY,qAB,c3];refine qB0 XX_0 ?_;refine qAJ (λq2=>?_) (λq2=>?_)
  ·exact j2 _ _ true (by rw[q2];rfl) (λ_ g=>by have:=qCT.2 g.re;rw[this]at q2;cases q2) (λq2=>by cases q2)
  ·simp only[qAB,c4]
   refine qB0 XX_0 ?_;exact j2 _ _ (outB F.mo 1 100) (by rw[q2];rfl) (λq3 g=>by have:=qCT.2 g.mo;rw[this]at q3;cases q3) (λq3 q4=>h2 q q2 q3 q4)
 have j0:∀(x y:AV) (bad:Bool),qAR x (.bool true) y=some (.bool bad)->(bad=true->¬TimOk F)->(bad=false->outB F.ag 1 10000=false->outB F.re 0 1000=false->outB F.mo 1 100=false->outB F.wi 1 10000=false->TimOk F)->qF6 XX (.ptr b4 0) x y K s6:=λx y bad h h1 h2=>by
  unfold qF6;rw[h];simp only[qAB];refine qAJ (λq=>?_) (λq=>?_)
  ·exact j1 _ _ bad (by rw[q];rfl) h1 (λq2=>by rw[q]at q2;cases q2)
  ·simp only[qAI,zAY,qAB,c2]
   refine qB0 XX_0 ?_;exact j1 _ _ (outB F.ag 1 10000) (by rw[q];rfl) (λq2 g=>by have:=qCT.2 g.ag;rw[this]at q2;cases q2) (λq2=>h2 q q2)
 simp only[qAB,c0];refine qB0 XX_0 ?_;refine qAJ (λq=>?_) (λq=>?_)
 ·exact j0 _ _ true (by rw[q];rfl) (λ_ g=>by have:=qCT.2 g.de;rw[this]at q;cases q) (λq2=>by cases q2)
 ·simp only[qAB,c1]
  refine qB0 XX_0 ?_;exact j0 _ _ (outB F.ho 3 1000) (by rw[q];rfl) (λq2 g=>by have:=qCT.2 g.ho;rw[this]at q2;cases q2) (λq2 q3 q4 q5 q6=>⟨qCT.1 q,qCT.1 q2,qCT.1 q3,qCT.1 q4,qCT.1 q5,qCT.1 q6⟩)
end Go.AM.TN
namespace Go.AM.TN
open Go Go.Proofs
variable {s s' s0:Hq} {v k:AV} {b c mb rb:Nat}
def qM2(q:AV->AV->Option Bool)(k:AV):List AEnt->Nat->Option (Option (Nat×AV))
 |[],_=>some none
 | e::es,i=>match q k e.key with
   |some true=>some (some (i,e.val))
   |some false=>qM2 q k es (i+1)
   |none=>none
theorem qQN(k:AV):∀(es:List AEnt) (i:Nat),qKg k es i=qM2 (qMC (.int .i64)) k es i
 |[],_=>rfl
 | e::es,i=>by
   unfold qKg qM2;rw[qQN k es (i+1)];cases qMC (.int .i64) k e.key with
   |none=>rfl
   |some b=>cases b<;>rfl
theorem qQz(P:Program)(kt:TypeId)(d:TypeDesc)(k:AV):∀(es:List AEnt) (i:Nat),qHl P kt d k es i=qM2 (qIJ P kt d) k es i
 |[],_=>rfl
 | e::es,i=>by
   unfold qHl qM2;rw[qQz P kt d k es (i+1)];cases qIJ P kt d k e.key with
   |none=>rfl
   |some b=>cases b<;>rfl
def Dec(q:AV->AV->Option Bool)(U:AV->Prop):Prop:=∀k k',U k->U k'->∃b,q k k'=some b/\(b=true↔k=k')
structure SM(U:AV->Prop)(s:Hq)(mb:Nat)(keys:List AV):Prop where
 ex:∃es cl,s mb=some (false,.map es cl)/\(∀e∈es,e.val=.bool true)/\∀k,k∈es.map (·.key)↔k∈keys
 all:∀k∈keys,U k
theorem qNg{q:AV->AV->Option Bool}{U:AV->Prop}(hq:Dec q U){k:AV}(hk:U k):∀(es:List AEnt) (i:Nat),(∀e∈es,U e.key)->
  (qM2 q k es i=some none/\k ∉ es.map (·.key))∨∃j e,es[j]?=some e/\e.key=k/\qM2 q k es i=some (some (i+j,e.val))
 |[],i,_=>.inl ⟨rfl,by simp⟩
 | e::es,i,h=>by
   obtain⟨b,h1,h2⟩:=hq k e.key hk (h e (by simp));unfold qM2;rw[h1];cases b with
   |true=>exact .inr ⟨0,e,rfl,(h2.1 rfl).symm,by simp⟩
   | false=>
     have hne:k≠e.key:=λq=>by have:=h2.2 q;cases this
     rcases qNg hq hk es (i+1) (λe' he'=>h e' (by simp[he']))with⟨g1,g2⟩|⟨j,e',g1,g2,g3⟩
     ·exact .inl ⟨g1,by simp only[List.map_cons,List.mem_cons,not_or];exact⟨hne,g2⟩⟩
     ·exact .inr ⟨j+1,e',by simpa using g1,g2,by simp only;rw[g3];congr 3;omega⟩
theorem qR1{k v:AV}:∀{es:List AEnt}{j:Nat}{e:AEnt},es[j]?=some e->e.key=k->(modE es j λe=>{ e with key:=k,val:=v }).map (·.key)=es.map (·.key)
 |[],_,_,h,_=>by simp at h
 | x::es,0,e,h,he=>by
   have:x=e:=by simpa using h
   subst this;show k::es.map (·.key)=_;rw[List.map_cons,he]
 | x::es,j+1,e,h,he=>by
   show x.key::(modE es j _).map (·.key)=_;rw[qR1 (es:=es) (by simpa using h) he,List.map_cons]
theorem qR7{k v:AV}:∀{es:List AEnt}{j:Nat},(∀e∈es,e.val=v)->∀e∈modE es j (λe=>{ e with key:=k,val:=v }),e.val=v
 |[],0,_,e,h=>by cases h
 |[],_+1,_,e,h=>by cases h
 | x::es,0,hv,e,h=>by
   have h:e∈({ x with key:=k,val:=v }:AEnt)::es:=h;rcases mC h with rfl|h
   ·rfl
   ·exact hv e (by simp[h])
 | x::es,j+1,hv,e,h=>by
   have h:e∈x::modE es j (λe=>{ e with key:=k,val:=v }):=h;rcases mC h with rfl|h
   ·exact hv e (by simp)
   ·exact qR7 (λe he=>hv e (by simp[he])) e h
section
variable {q:AV→AV→Option Bool} {U:AV→Prop} {keys:List AV}
theorem SM.fnd(h:SM U s mb keys)(hq:Dec q U)(hk:U k):∃es cl,s mb=some (false,.map es cl)/\((qM2 q k es 0=some none/\k ∉ keys)∨∃j e,es[j]?=some e/\e.key=k/\qM2 q k es 0=some (some (j,.bool true))/\k∈keys)/\(∀e∈es,e.val=.bool true)/\∀k,k∈es.map (·.key)↔k∈keys:=by
 obtain⟨es,cl,h1,h2,h3⟩:=h.ex;refine⟨es,cl,h1,?_,h2,h3⟩;rcases qNg hq hk es 0 λe he=>h.all _ ((h3 _).1 (List.mem_map.2 ⟨e,he,rfl⟩))with⟨g1,g2⟩|⟨j,e,g1,g2,g3⟩
 ·exact .inl ⟨g1,λhm=>g2 ((h3 _).2 hm)⟩
 ·have he:=mG g1
  exact .inr ⟨j,e,g1,g2,by rw[g3,zAY,h2 e he],(h3 _).1 (List.mem_map.2 ⟨e,he,g2⟩)⟩
theorem SM.next{es:List AEnt}{cl:Nat}(h:SM U s mb keys)(hk:U k)(hv:∀e∈es,e.val=.bool true)(h3:∀k,k∈es.map (·.key)↔k∈keys){es':List AEnt}{cl':Nat}(hb:s' mb=some (false,.map es' cl'))
  (hes:(∃j e,es[j]?=some e/\e.key=k/\k∈keys/\es'=modE es j λe=>{ e with key:=k,val:=.bool true })∨es'=es ++ [{ key:=k,val:=.bool true,born:=cl }]):SM U s' mb (keys ++ [k]):=by
 refine⟨⟨es',cl',hb,λe he=>?_,λk'=>?_⟩,λk' hk'=>?_⟩
 ·rcases hes with⟨j,e0,g1,g2,_,rfl⟩|rfl
  ·exact qR7 hv e he
  ·rcases mP he with he|he
   ·exact hv e he
   ·rw[List.mem_singleton]at he
    rw[he]
 ·rcases hes with⟨j,e0,g1,g2,g3,rfl⟩|rfl
  ·rw[qR1 g1 g2,h3,List.mem_append,List.mem_singleton]
   exact⟨.inl,λq=>q.elim id λe=>by rw[e];exact g3⟩
  ·rw[List.map_append,List.mem_append,h3,List.mem_append]
   simp
 ·rcases mP hk' with q|q
  ·exact h.all _ q
  ·rw[List.mem_singleton]at q
   rw[q];exact hk
theorem SM.sub(h:SM U s mb keys)(k:Sub s s'):SM U s' mb keys:=by obtain⟨es,cl,h1,h2,h3⟩:=h.ex;exact⟨⟨es,cl,k _ _ h1,h2,h3⟩,h.all⟩
theorem SM.upto(h:SM U s mb keys)(u:Upto b s s')(hb:mb≠b):SM U s' mb keys:=by obtain⟨es,cl,h1,h2,h3⟩:=h.ex;exact⟨⟨es,cl,by rw[u _ hb];exact h1,h2,h3⟩,h.all⟩
end
def qNF(v:AV):Prop:=∃n,v=.int .u32 n
theorem qTu:Dec (qMC (.int .i64)) qNF:=by
 rintro k k' ⟨n,rfl⟩ ⟨m,rfl⟩;refine⟨n == m,?_,?_⟩
 ·show cond (qB7 .u32 .u32) (some (eqI n m)) none=_
  rw[qD5];rfl
 ·simp
variable {keys:List AV} {U:AV→Prop}
theorem SM.getM{n:Int}(h:SM qNF s mb keys){J:Option AV->Prop}(hJ:∀r b,retM (.bool false) false r=.bool b->(b=true↔AV.int .u32 n∈keys)->J r):oK (AM.getM s (.map mb) (.int .u32 n)) J:=by
 obtain⟨es,cl,h1,h2,_⟩:=h.fnd qTu ⟨n,rfl⟩;unfold AM.getM;simp only[h1,qQN];rcases h2 with⟨g1,g2⟩|⟨j,e,_,_,g1,g2⟩
 ·rw[g1]
  exact hJ none false rfl ⟨λq=>(by cases q),λq=>absurd q g2⟩
 ·rw[g1]
  exact hJ _ true rfl ⟨λ_=>g2,λ_=>rfl⟩
theorem SM.putM{n:Int}(h:SM qNF s mb keys){J:Hq->Prop}(hJ:∀s',SM qNF s' mb (keys ++ [.int .u32 n])->Upto mb s s'->J s'):oK (AM.putM s (.map mb) (.int .u32 n) (.bool true)) J:=by
 obtain⟨es,cl,h1,h2,hv,h3⟩:=h.fnd qTu (k:=.int .u32 n) ⟨n,rfl⟩;unfold AM.putM putE;simp only[h1,qQN];rcases h2 with⟨g1,g2⟩|⟨j,e,g0,g3,g1,g2⟩
 ·rw[g1]
  exact hJ _ (h.next (cl:=cl) ⟨n,rfl⟩ hv h3 qC2 (.inr rfl)) λ_ hi=>qCE hi
 ·rw[g1]
  exact hJ _ (h.next (cl:=cl) ⟨n,rfl⟩ hv h3 qC2 (.inl ⟨j,e,g0,g3,g2,rfl⟩)) λ_ hi=>qCE hi
structure KT(P:Program)(kt:TypeId)(U:AV->Prop):Prop where
 ex:∃d,P.underlying kt=some d/\aggD d=true/\Dec (qIJ P kt d) U
 ok:∀k,U k->qEo P 10 kt k=true
variable {P:Program}
theorem SM.getG{kt:TypeId}(hT:KT P kt U)(h:SM U s mb keys)(hk:U k){J:Option AV->Prop}(hJ:∀r b,retM (.bool false) false r=.bool b->(b=true↔k∈keys)->J r):oK (AM.getG P kt s (.map mb) k) J:=by
 obtain⟨d,hd,ha,hq⟩:=hT.ex;obtain⟨es,cl,h1,h2,_⟩:=h.fnd hq hk;unfold AM.getG;rw[hd];simp only[ha,hT.ok k hk,Bool.and_self,cond_true,h1,qQz];rcases h2 with⟨g1,g2⟩|⟨j,e,_,_,g1,g2⟩
 ·rw[g1]
  exact hJ none false rfl ⟨λq=>(by cases q),λq=>absurd q g2⟩
 ·rw[g1]
  exact hJ _ true rfl ⟨λ_=>g2,λ_=>rfl⟩
theorem SM.putG{kt:TypeId}(hT:KT P kt U)(h:SM U s mb keys)(hk:U k){J:Hq->Prop}(hJ:∀s',SM U s' mb (keys ++ [k])->Upto mb s s'->J s'):oK (AM.putG P kt s (.map mb) k (.bool true)) J:=by
 obtain⟨d,hd,ha,hq⟩:=hT.ex;obtain⟨es,cl,h1,h2,hv,h3⟩:=h.fnd hq hk;unfold AM.putG;rw[hd];simp only[ha,hT.ok k hk,Bool.and_self,cond_true,h1,qQz];rcases h2 with⟨g1,g2⟩|⟨j,e,g0,g3,g1,g2⟩
 ·rw[g1]
  exact hJ _ (h.next (cl:=cl) hk hv h3 qC2 (.inr rfl)) λ_ hi=>qCE hi
 ·rw[g1]
  exact hJ _ (h.next (cl:=cl) hk hv h3 qC2 (.inl ⟨j,e,g0,g3,g2,rfl⟩)) λ_ hi=>qCE hi
structure RepR(s:Hq)(v:AV)(ks:List AV):Prop where
 ex:∃bs:List Bool,Sl s v (bs.map AV.bool)/\bs.length=ks.length/\∀(j:Nat) b,bs[j]?=some b->(b=true↔∃k,ks[j]?=some k/\k∈ks.take j)
theorem RepR.sub{ks:List AV}(h:RepR s v ks)(k:Sub s s'):RepR s' v ks:=by obtain⟨bs,h1,h2,h3⟩:=h.ex;exact⟨bs,h1.sub k,h2,h3⟩
theorem RepR.at{ks:List AV}(h:RepR s v ks){j:Nat}{k:AV}(hk:ks[j]?=some k):∃p b,qAY 1 v (.int .i64 (j:Int))=some p/\rd1 s p=some (.bool b)/\(b=true↔k∈ks.take j):=by
 obtain⟨bs,h1,h2,h3⟩:=h.ex;have hj:j<bs.length:=by rw[h2];exact(gS hk).1
 obtain⟨p,g1,g2⟩:=h1.get (i:=j) (by simpa using hj);have hb:bs[j]?=some bs[j]:=gE hj;refine⟨p,bs[j],g1,by rw[g2,List.getElem?_map,hb];rfl,(h3 j _ hb).trans ⟨λ⟨k',e1,e2⟩=>?_,λe=>⟨k,hk,e⟩⟩⟩;rw[hk]at e1;cases e1;exact e2
structure RP(U:AV->Prop)(s0 s:Hq)(mb rb:Nat)(ks:List AV)(i:Nat):Prop where
 keep:Sub s0 s
 nm:s0 mb=none
 nr:s0 rb=none
 ne:mb≠rb
 map:SM U s mb (ks.take i)
 arr:∃bs:List Bool,s rb=some (false,.cells 4 (bs.map AV.bool))/\bs.length=ks.length/\∀(j:Nat) b,j<i->bs[j]?=some b->(b=true↔∃k,ks[j]?=some k/\k∈ks.take j)
theorem RP.sub{ks:List AV}{i:Nat}(h:RP U s0 s mb rb ks i)(k:Sub s s'):RP U s0 s' mb rb ks i:=by obtain⟨bs,h1,h2,h3⟩:=h.arr;exact⟨h.keep.trans k,h.nm,h.nr,h.ne,h.map.sub k,bs,k _ _ h1,h2,h3⟩
theorem RP.put{ks:List AV}{i:Nat}{k:AV}{b:Bool}(h:RP U s0 s mb rb ks i)(hk:ks[i]?=some k)(hb:b=true↔k∈ks.take i){J:Hq->Prop}
  (hJ:∀(s':Hq) (bs:List Bool),SM U s' mb (ks.take i)->Sub s0 s'->s' rb=some (false,.cells 4 (bs.map AV.bool))->bs.length=ks.length->(∀(j:Nat) b,j<i+1->bs[j]?=some b->(b=true↔∃k,ks[j]?=some k/\k∈ks.take j))->J s') :
  oK (qAY 1 (.slc rb 0 ks.length (some ks.length) 1) (.int .i64 (i:Int))) λp=>oK (wr1 s p (.bool b)) J:=by
 obtain⟨bs,h1,h2,h3⟩:=h.arr;have hi:i<ks.length:=(gS hk).1;have e1:qAY 1 (.slc rb 0 ks.length (some ks.length) 1) (.int .i64 (i:Int))=some (.ptr rb i):=by
  have:Nat.blt i ks.length=true:=by rw[Nat.blt_eq];exact hi
  simp[qAY,this]
 rw[e1];simp only[qAB];refine qBF h1 (by simp;omega) rfl λs' h4 u4=>?_;refine hJ s' (bs.set i b) (h.map.upto u4 h.ne) (qAW h.keep u4 h.nr) (by rw[h4,List.map_set]) (by simp[h2]) λj b' hj hb'=>?_
 by_cases e:i=j
 ·subst e
  rw[List.getElem?_set_self (by omega)]at hb';cases hb';exact hb.trans ⟨λq=>⟨k,hk,q⟩,λ⟨k',q1,q2⟩=>by rw[hk]at q1;cases q1;exact q2⟩
 ·rw[List.getElem?_set_ne e]at hb'
  exact h3 j b' (by omega) hb'
theorem RP.done{ks:List AV}(h:RP U s0 s mb rb ks ks.length):RepR s (.slc rb 0 ks.length (some ks.length) 1) ks:=by obtain⟨bs,h1,h2,h3⟩:=h.arr;refine⟨bs,Sl.mk h1 (by simp[h2]) (λc e=>by cases e;simp[h2]),h2,λj b hb=>h3 j b ?_ hb⟩;rw[<- h2];exact(gS hb).1
theorem RP.start{ks:List AV}(h1:s0 mb=none)(h2:s0 rb=none)(hne:mb≠rb)(hs:Sub s0 s)(hm:s mb=some (false,.map [] 0))(hr:s rb=some (false,.cells 4 (repl ks.length [.bool false]))):RP U s0 s mb rb ks 0:=
 ⟨hs,h1,h2,hne,⟨⟨[],0,hm,by simp,by simp⟩,by simp⟩,List.replicate ks.length false,by rw[hr,qOD];simp,by simp,λj b hj=>by omega⟩
end Go.AM.TN
set_option maxRecDepth 100000
namespace Go.AM.TN
open Go Go.Proofs
variable {K:AV→Hq→Prop} {s s' s0:Hq} {v k:AV} {b mb rb:Nat} {Y:Td} {U:AV→Prop}
theorem qMM{k:IntKind}{n:Int}{p:Prop}:intK (.int k n) p=p:=id rfl
theorem RP.putU{ks:List AV}{i:Nat}{k:AV}{b:Bool}(h:RP U s0 s mb rb ks i)(hk:ks[i]?=some k)(hb:b=true↔k∈ks.take i){J:Hq->Prop}
  (hJ:∀(s':Hq) (bs:List Bool),SM U s' mb (ks.take i)->Sub s0 s'->s' rb=some (false,.cells 4 (bs.map AV.bool))->bs.length=ks.length->(∀(j:Nat) b,j<i+1->bs[j]?=some b->(b=true↔∃k,ks[j]?=some k/\k∈ks.take j))->Upto rb s s'->J s') :
  oK (qAY 1 (.slc rb 0 ks.length (some ks.length) 1) (.int .i64 (i:Int))) λp=>oK (wr1 s p (.bool b)) J:=by
 obtain⟨bs,h1,h2,h3⟩:=h.arr;have hi:i<ks.length:=(gS hk).1;have e1:qAY 1 (.slc rb 0 ks.length (some ks.length) 1) (.int .i64 (i:Int))=some (.ptr rb i):=by
  have:Nat.blt i ks.length=true:=by rw[Nat.blt_eq];exact hi
  simp[qAY,this]
 rw[e1];simp only[qAB];refine qBF h1 (by simp;omega) rfl λs' h4 u4=>?_;refine hJ s' (bs.set i b) (h.map.upto u4 h.ne) (qAW h.keep u4 h.nr) (by rw[h4,List.map_set]) (by simp[h2]) (λj b' hj hb'=>?_) u4
 by_cases e:i=j
 ·subst e
  rw[List.getElem?_set_self (by omega)]at hb';cases hb';exact hb.trans ⟨λq=>⟨k,hk,q⟩,λ⟨k',q1,q2⟩=>by rw[hk]at q1;cases q1;exact q2⟩
 ·rw[List.getElem?_set_ne e]at hb'
  exact h3 j b' (by omega) hb'
theorem qYG(hY:Fn0 Y){A:Type}{rows:List A}{rowC:A->List AV}(hl:∀x,(rowC x).length=2)(ho:∀x,qAa (rowC x)=true){key1:AV}{kf:A->Int}(hkey:∀(x:A) (s:Hq) (J:AV->Hq->Prop),(∀s',Sub s s'->J (AV.int .u32 (kf x)) s')->funK TP Y key1 [.agg (rowC x)] J s)(hv:SlR 2 s v (rows.map rowC))(hn:rows.length<=4294967296)(hK:∀s' r,Sub s s'->RepR s' r (rows.map λx=>AV.int .u32 (kf x))->K r s'):wC TP Y 154 [v,key1] K s:=by
 refine qGk hY.fr (hY.no _ rfl) ?_;unfold qEb;have hlen:qAQ v=some rows.length:=by rw[hv.len,lM]
 have hkl0:(rows.map λx=>AV.int .u32 (kf x)).length=rows.length:=lM _;rw[hlen];simp only[qAB];rw[qMM];intro mb hmb;simp only[nat?_mk,qAB];refine⟨⟨Nat.le_refl _,hn⟩,qAM λrb s9 hrb h9 u9=>?_⟩;have k3:Sub s (hset s mb (false,.map [] 0)):=qLi hmb;have hne:mb≠rb:=λe=>by rw[<- e,qC2]at hrb;cases hrb
 have hsrb:s rb=none:=by rw[qCE (Ne.symm hne)]at hrb;exact hrb
 have hm9:s9 mb=some (false,.map [] 0):=by rw[u9 _ hne,qC2]
 have rp0:RP qNF s s9 mb rb (rows.map λx=>AV.int .u32 (kf x)) 0:=.start hmb hsrb hne (k3.trans (u9.sub hrb)) hm9 (by rw[hkl0];exact h9);refine⟨λys t m=>∃i:Nat,ys=[.int .i64 (i:Int)]/\i<=rows.length/\m=rows.length-i/\RP qNF s t mb rb (rows.map λx=>AV.int .u32 (kf x)) i,⟨_,0,rfl,by omega,rfl,rp0⟩,?_⟩;rintro f t m ⟨i,hy,hi,rfl,rp⟩;simp only[cI,and_true]at hy;rw[hy];simp only[qDp,qAP,qAB];refine qAJ (λhlt=>?_) (λhge=>?_)
 rotate_left
 ·have hge:i=rows.length:=by have:=oF hge;omega
  subst hge;have:=RP.done (by rw[hkl0];exact rp);rw[hkl0]at this;exact hK t _ rp.keep this
 have hlt:i<rows.length:=by have:=oT hlt;omega
 have hx:rows[i]?=some rows[i]:=gE hlt;generalize rows[i]=x at hx;obtain⟨pb,po,e1,e2,_⟩:=(hv.sub rp.keep).get (i:=i) (r:=rowC x) (by rw[List.getElem?_map,hx];rfl);have hkx:(rows.map λx=>AV.int .u32 (kf x))[i]?=some (AV.int .u32 (kf x)):=by rw[List.getElem?_map,hx];rfl
 rw[e1];simp only[qAB,e2];refine qAM λb15 s16 hb15 h16 u16=>qAT h16 (by rw[hl x];rfl) rfl (ho x) λs17 h17 u17=>qAA (qAU h17 (hl x)) ?_;have k17:Sub t s17:=qAW (u16.sub hb15) u17 hb15;refine hkey x s17 _ λs20 k20=>?_;have rp20:=rp.sub (k17.trans k20);refine rp20.map.getM λr b hr hb=>?_;rw[hr];rw[<- hkl0];refine rp20.put hkx hb λs23 bs sm23 k23 h23 hbl hbs=>?_;refine sm23.putM λs24 sm24 u24=>?_;have rp24:RP qNF s s24 mb rb (rows.map λx=>AV.int .u32 (kf x)) (i+1):=⟨qAW k23 u24 hmb,hmb,hsrb,hne,by rw[List.take_add_one,hkx];exact sm24,bs,by rw[u24 _ (Ne.symm hne)];exact h23,hbl,hbs⟩
 simp only[qAN,qAB];rw[qAb (by omega) (by omega)];exact⟨_,by omega,i+1,rfl,by omega,rfl,rp24⟩
theorem qX8(hY:Fn0 Y){A:Type}{rows:List A}{rowC:A->List AV}(hl:∀x,(rowC x).length=6)(ho:∀x,qAa (rowC x)=true){key1:AV}{kf:A->Int}(hkey:∀(x:A) (s:Hq) (J:AV->Hq->Prop),(∀s',Sub s s'->J (AV.int .u32 (kf x)) s')->funK TP Y key1 [.agg (rowC x)] J s)(hv:SlR 6 s v (rows.map rowC))(hn:rows.length<=4294967296)(hK:∀s' r,Sub s s'->RepR s' r (rows.map λx=>AV.int .u32 (kf x))->K r s'):wC TP Y 157 [v,key1] K s:=by
 refine qIx hY.fr (hY.no _ rfl) ?_;unfold qGm;have hlen:qAQ v=some rows.length:=by rw[hv.len,lM]
 have hkl0:(rows.map λx=>AV.int .u32 (kf x)).length=rows.length:=lM _;rw[hlen];simp only[qAB];rw[qMM];intro mb hmb;simp only[nat?_mk,qAB];refine⟨⟨Nat.le_refl _,hn⟩,qAM λrb s9 hrb h9 u9=>?_⟩;have k3:Sub s (hset s mb (false,.map [] 0)):=qLi hmb;have hne:mb≠rb:=λe=>by rw[<- e,qC2]at hrb;cases hrb
 have hsrb:s rb=none:=by rw[qCE (Ne.symm hne)]at hrb;exact hrb
 have hm9:s9 mb=some (false,.map [] 0):=by rw[u9 _ hne,qC2]
 have rp0:RP qNF s s9 mb rb (rows.map λx=>AV.int .u32 (kf x)) 0:=.start hmb hsrb hne (k3.trans (u9.sub hrb)) hm9 (by rw[hkl0];exact h9);refine⟨λys t m=>∃i:Nat,ys=[.int .i64 (i:Int)]/\i<=rows.length/\m=rows.length-i/\RP qNF s t mb rb (rows.map λx=>AV.int .u32 (kf x)) i,⟨_,0,rfl,by omega,rfl,rp0⟩,?_⟩;rintro f t m ⟨i,hy,hi,rfl,rp⟩;simp only[cI,and_true]at hy;rw[hy];simp only[qEq,qAP,qAB];refine qAJ (λhlt=>?_) (λhge=>?_)
 rotate_left
 ·have hge:i=rows.length:=by have:=oF hge;omega
  subst hge;have:=RP.done (by rw[hkl0];exact rp);rw[hkl0]at this;exact hK t _ rp.keep this
 have hlt:i<rows.length:=by have:=oT hlt;omega
 have hx:rows[i]?=some rows[i]:=gE hlt;generalize rows[i]=x at hx;obtain⟨pb,po,e1,e2,_⟩:=(hv.sub rp.keep).get (i:=i) (r:=rowC x) (by rw[List.getElem?_map,hx];rfl);have hkx:(rows.map λx=>AV.int .u32 (kf x))[i]?=some (AV.int .u32 (kf x)):=by rw[List.getElem?_map,hx];rfl
 rw[e1];simp only[qAB,e2];refine qAM λb15 s16 hb15 h16 u16=>qAT h16 (by rw[hl x];rfl) rfl (ho x) λs17 h17 u17=>qAA (qAU h17 (hl x)) ?_;have k17:Sub t s17:=qAW (u16.sub hb15) u17 hb15;refine hkey x s17 _ λs20 k20=>?_;have rp20:=rp.sub (k17.trans k20);refine rp20.map.getM λr b hr hb=>?_;rw[hr];rw[<- hkl0];refine rp20.put hkx hb λs23 bs sm23 k23 h23 hbl hbs=>?_;refine sm23.putM λs24 sm24 u24=>?_;have rp24:RP qNF s s24 mb rb (rows.map λx=>AV.int .u32 (kf x)) (i+1):=⟨qAW k23 u24 hmb,hmb,hsrb,hne,by rw[List.take_add_one,hkx];exact sm24,bs,by rw[u24 _ (Ne.symm hne)];exact h23,hbl,hbs⟩
 simp only[qAN,qAB];rw[qAb (by omega) (by omega)];exact⟨_,by omega,i+1,rfl,by omega,rfl,rp24⟩
theorem zAAr(hY:Fn0 Y){A:Type}{rows:List A}{rowC:A->List AV}(hl:∀x,(rowC x).length=3)(ho:∀x,qAa (rowC x)=true){key1:AV}{kf:A->List AV}{U:AV->Prop}(hT:KT TP 199 U)(hU:∀x,U (.agg (kf x)))(hkl:∀x,(kf x).length=2)(hko:∀x,qAa (kf x)=true)(hkey:∀(x:A) (s:Hq) (J:AV->Hq->Prop),(∀s',Sub s s'->J (AV.agg (kf x)) s')->funK TP Y key1 [.agg (rowC x)] J s)(hv:SlR 3 s v (rows.map rowC))(hn:rows.length<=4294967296)(hK:∀s' r,Sub s s'->RepR s' r (rows.map λx=>AV.agg (kf x))->K r s'):wC TP Y 151 [v,key1] K s:=by
 refine qHp hY.fr (hY.no _ rfl) ?_;unfold qFb;have hlen:qAQ v=some rows.length:=by rw[hv.len,lM]
 have hkl0:(rows.map λx=>AV.agg (kf x)).length=rows.length:=lM _;rw[hlen];simp only[qAB];rw[qMM];intro mb hmb;simp only[nat?_mk,qAB];refine⟨⟨Nat.le_refl _,hn⟩,qAM λrb s9 hrb h9 u9=>?_⟩;have k3:Sub s (hset s mb (false,.map [] 0)):=qLi hmb;have hne:mb≠rb:=λe=>by rw[<- e,qC2]at hrb;cases hrb
 have hsrb:s rb=none:=by rw[qCE (Ne.symm hne)]at hrb;exact hrb
 have hm9:s9 mb=some (false,.map [] 0):=by rw[u9 _ hne,qC2]
 have rp0:RP U s s9 mb rb (rows.map λx=>AV.agg (kf x)) 0:=.start hmb hsrb hne (k3.trans (u9.sub hrb)) hm9 (by rw[hkl0];exact h9);refine⟨λys t m=>∃i:Nat,ys=[.int .i64 (i:Int)]/\i<=rows.length/\m=rows.length-i/\RP U s t mb rb (rows.map λx=>AV.agg (kf x)) i,⟨_,0,rfl,by omega,rfl,rp0⟩,?_⟩;rintro f t m ⟨i,hy,hi,rfl,rp⟩;simp only[cI,and_true]at hy;rw[hy];simp only[qD7,qAP,qAB];refine qAJ (λhlt=>?_) (λhge=>?_)
 rotate_left
 ·have hge:i=rows.length:=by have:=oF hge;omega
  subst hge;have:=RP.done (by rw[hkl0];exact rp);rw[hkl0]at this;exact hK t _ rp.keep this
 have hlt:i<rows.length:=by have:=oT hlt;omega
 have hx:rows[i]?=some rows[i]:=gE hlt;generalize rows[i]=x at hx;obtain⟨pb,po,e1,e2,_⟩:=(hv.sub rp.keep).get (i:=i) (r:=rowC x) (by rw[List.getElem?_map,hx];rfl);have hkx:(rows.map λx=>AV.agg (kf x))[i]?=some (AV.agg (kf x)):=by rw[List.getElem?_map,hx];rfl
 rw[e1];simp only[qAB,e2];refine qAM λb15 s16 hb15 h16 u16=>qAT h16 (by rw[hl x];rfl) rfl (ho x) λs17 h17 u17=>qAA (qAU h17 (hl x)) ?_;have k17:Sub t s17:=qAW (u16.sub hb15) u17 hb15;refine hkey x s17 _ λs20 k20=>?_;refine qAM λb21 s22 hb21 h22 u22=>qAT h22 (by rw[hkl x];rfl) rfl (hko x) λs23 h23' u23'=>qAA (qAU h23' (hkl x)) ?_;have k23':Sub s20 s23:=qAW (u22.sub hb21) u23' hb21;have rp20:=rp.sub ((k17.trans k20).trans k23');have h20:=rp20.map.ex;refine rp20.map.getG hT (hU x) λr b hr hb=>?_;rw[hr];rw[<- hkl0];have nrb:b21≠rb:=λe=>by obtain⟨bs,q,_⟩:=(rp.sub (k17.trans k20)).arr;rw[e,q]at hb21;cases hb21
 obtain⟨bs0,q0,_⟩:=rp20.arr;refine rp20.putU hkx hb λs27 bs sm27 k27 h27 hbl hbs u27=>?_;have h27':s27 b21=some (false,.cells 199 (kf x)):=by rw[u27 _ nrb];exact h23'
 refine qAA (qAU h27' (hkl x)) ?_;refine sm27.putG hT (hU x) λs24 sm24 u24=>?_;have rp24:RP U s s24 mb rb (rows.map λx=>AV.agg (kf x)) (i+1):=⟨qAW k27 u24 hmb,hmb,hsrb,hne,by rw[List.take_add_one,hkx];exact sm24,bs,by rw[u24 _ (Ne.symm hne)];exact h27,hbl,hbs⟩
 simp only[qAN,qAB];rw[qAb (by omega) (by omega)];exact⟨_,by omega,i+1,rfl,by omega,rfl,rp24⟩
theorem qYV(hY:Fn0 Y){A:Type}{rows:List A}{rowC:A->List AV}(hl:∀x,(rowC x).length=4)(ho:∀x,qAa (rowC x)=true){key1:AV}{kf:A->List AV}{U:AV->Prop}(hT:KT TP 212 U)(hU:∀x,U (.agg (kf x)))(hkl:∀x,(kf x).length=2)(hko:∀x,qAa (kf x)=true)(hkey:∀(x:A) (s:Hq) (J:AV->Hq->Prop),(∀s',Sub s s'->J (AV.agg (kf x)) s')->funK TP Y key1 [.agg (rowC x)] J s)(hv:SlR 4 s v (rows.map rowC))(hn:rows.length<=4294967296)(hK:∀s' r,Sub s s'->RepR s' r (rows.map λx=>AV.agg (kf x))->K r s'):wC TP Y 168 [v,key1] K s:=by
 refine qEt hY.fr (hY.no _ rfl) ?_;unfold qDd;have hlen:qAQ v=some rows.length:=by rw[hv.len,lM]
 have hkl0:(rows.map λx=>AV.agg (kf x)).length=rows.length:=lM _;rw[hlen];simp only[qAB];rw[qMM];intro mb hmb;simp only[nat?_mk,qAB];refine⟨⟨Nat.le_refl _,hn⟩,qAM λrb s9 hrb h9 u9=>?_⟩;have k3:Sub s (hset s mb (false,.map [] 0)):=qLi hmb;have hne:mb≠rb:=λe=>by rw[<- e,qC2]at hrb;cases hrb
 have hsrb:s rb=none:=by rw[qCE (Ne.symm hne)]at hrb;exact hrb
 have hm9:s9 mb=some (false,.map [] 0):=by rw[u9 _ hne,qC2]
 have rp0:RP U s s9 mb rb (rows.map λx=>AV.agg (kf x)) 0:=.start hmb hsrb hne (k3.trans (u9.sub hrb)) hm9 (by rw[hkl0];exact h9);refine⟨λys t m=>∃i:Nat,ys=[.int .i64 (i:Int)]/\i<=rows.length/\m=rows.length-i/\RP U s t mb rb (rows.map λx=>AV.agg (kf x)) i,⟨_,0,rfl,by omega,rfl,rp0⟩,?_⟩;rintro f t m ⟨i,hy,hi,rfl,rp⟩;simp only[cI,and_true]at hy;rw[hy];simp only[qC4,qAP,qAB];refine qAJ (λhlt=>?_) (λhge=>?_)
 rotate_left
 ·have hge:i=rows.length:=by have:=oF hge;omega
  subst hge;have:=RP.done (by rw[hkl0];exact rp);rw[hkl0]at this;exact hK t _ rp.keep this
 have hlt:i<rows.length:=by have:=oT hlt;omega
 have hx:rows[i]?=some rows[i]:=gE hlt;generalize rows[i]=x at hx;obtain⟨pb,po,e1,e2,_⟩:=(hv.sub rp.keep).get (i:=i) (r:=rowC x) (by rw[List.getElem?_map,hx];rfl);have hkx:(rows.map λx=>AV.agg (kf x))[i]?=some (AV.agg (kf x)):=by rw[List.getElem?_map,hx];rfl
 rw[e1];simp only[qAB,e2];refine qAM λb15 s16 hb15 h16 u16=>qAT h16 (by rw[hl x];rfl) rfl (ho x) λs17 h17 u17=>qAA (qAU h17 (hl x)) ?_;have k17:Sub t s17:=qAW (u16.sub hb15) u17 hb15;refine hkey x s17 _ λs20 k20=>?_;refine qAM λb21 s22 hb21 h22 u22=>qAT h22 (by rw[hkl x];rfl) rfl (hko x) λs23 h23' u23'=>qAA (qAU h23' (hkl x)) ?_;have k23':Sub s20 s23:=qAW (u22.sub hb21) u23' hb21;have rp20:=rp.sub ((k17.trans k20).trans k23');have h20:=rp20.map.ex;refine rp20.map.getG hT (hU x) λr b hr hb=>?_;rw[hr];rw[<- hkl0];have nrb:b21≠rb:=λe=>by obtain⟨bs,q,_⟩:=(rp.sub (k17.trans k20)).arr;rw[e,q]at hb21;cases hb21
 obtain⟨bs0,q0,_⟩:=rp20.arr;refine rp20.putU hkx hb λs27 bs sm27 k27 h27 hbl hbs u27=>?_;have h27':s27 b21=some (false,.cells 212 (kf x)):=by rw[u27 _ nrb];exact h23'
 refine qAA (qAU h27' (hkl x)) ?_;refine sm27.putG hT (hU x) λs24 sm24 u24=>?_;have rp24:RP U s s24 mb rb (rows.map λx=>AV.agg (kf x)) (i+1):=⟨qAW k27 u24 hmb,hmb,hsrb,hne,by rw[List.take_add_one,hkx];exact sm24,bs,by rw[u24 _ (Ne.symm hne)];exact h27,hbl,hbs⟩
 simp only[qAN,qAB];rw[qAb (by omega) (by omega)];exact⟨_,by omega,i+1,rfl,by omega,rfl,rp24⟩
theorem zABh(hY:Fn0 Y){A:Type}{rows:List A}{rowC:A->List AV}(hl:∀x,(rowC x).length=4)(ho:∀x,qAa (rowC x)=true){key1:AV}{kf:A->List AV}{U:AV->Prop}(hT:KT TP 118 U)(hU:∀x,U (.agg (kf x)))(hkl:∀x,(kf x).length=4)(hko:∀x,qAa (kf x)=true)(hkey:∀(x:A) (s:Hq) (J:AV->Hq->Prop),(∀s',Sub s s'->J (AV.agg (kf x)) s')->funK TP Y key1 [.agg (rowC x)] J s)(hv:SlR 4 s v (rows.map rowC))(hn:rows.length<=4294967296)(hK:∀s' r,Sub s s'->RepR s' r (rows.map λx=>AV.agg (kf x))->K r s'):wC TP Y 173 [v,key1] K s:=by
 refine qGd hY.fr (hY.no _ rfl) ?_;unfold qEX;have hlen:qAQ v=some rows.length:=by rw[hv.len,lM]
 have hkl0:(rows.map λx=>AV.agg (kf x)).length=rows.length:=lM _;rw[hlen];simp only[qAB];rw[qMM];intro mb hmb;simp only[nat?_mk,qAB];refine⟨⟨Nat.le_refl _,hn⟩,qAM λrb s9 hrb h9 u9=>?_⟩;have k3:Sub s (hset s mb (false,.map [] 0)):=qLi hmb;have hne:mb≠rb:=λe=>by rw[<- e,qC2]at hrb;cases hrb
 have hsrb:s rb=none:=by rw[qCE (Ne.symm hne)]at hrb;exact hrb
 have hm9:s9 mb=some (false,.map [] 0):=by rw[u9 _ hne,qC2]
 have rp0:RP U s s9 mb rb (rows.map λx=>AV.agg (kf x)) 0:=.start hmb hsrb hne (k3.trans (u9.sub hrb)) hm9 (by rw[hkl0];exact h9);refine⟨λys t m=>∃i:Nat,ys=[.int .i64 (i:Int)]/\i<=rows.length/\m=rows.length-i/\RP U s t mb rb (rows.map λx=>AV.agg (kf x)) i,⟨_,0,rfl,by omega,rfl,rp0⟩,?_⟩;rintro f t m ⟨i,hy,hi,rfl,rp⟩;simp only[cI,and_true]at hy;rw[hy];simp only[qDl,qAP,qAB];refine qAJ (λhlt=>?_) (λhge=>?_)
 rotate_left
 ·have hge:i=rows.length:=by have:=oF hge;omega
  subst hge;have:=RP.done (by rw[hkl0];exact rp);rw[hkl0]at this;exact hK t _ rp.keep this
 have hlt:i<rows.length:=by have:=oT hlt;omega
 have hx:rows[i]?=some rows[i]:=gE hlt;generalize rows[i]=x at hx;obtain⟨pb,po,e1,e2,_⟩:=(hv.sub rp.keep).get (i:=i) (r:=rowC x) (by rw[List.getElem?_map,hx];rfl);have hkx:(rows.map λx=>AV.agg (kf x))[i]?=some (AV.agg (kf x)):=by rw[List.getElem?_map,hx];rfl
 rw[e1];simp only[qAB,e2];refine qAM λb15 s16 hb15 h16 u16=>qAT h16 (by rw[hl x];rfl) rfl (ho x) λs17 h17 u17=>qAA (qAU h17 (hl x)) ?_;have k17:Sub t s17:=qAW (u16.sub hb15) u17 hb15;refine hkey x s17 _ λs20 k20=>?_;refine qAM λb21 s22 hb21 h22 u22=>qAT h22 (by rw[hkl x];rfl) rfl (hko x) λs23 h23' u23'=>qAA (qAU h23' (hkl x)) ?_;have k23':Sub s20 s23:=qAW (u22.sub hb21) u23' hb21;have rp20:=rp.sub ((k17.trans k20).trans k23');have h20:=rp20.map.ex;refine rp20.map.getG hT (hU x) λr b hr hb=>?_;rw[hr];rw[<- hkl0];have nrb:b21≠rb:=λe=>by obtain⟨bs,q,_⟩:=(rp.sub (k17.trans k20)).arr;rw[e,q]at hb21;cases hb21
 obtain⟨bs0,q0,_⟩:=rp20.arr;refine rp20.putU hkx hb λs27 bs sm27 k27 h27 hbl hbs u27=>?_;have h27':s27 b21=some (false,.cells 118 (kf x)):=by rw[u27 _ nrb];exact h23'
 refine qAA (qAU h27' (hkl x)) ?_;refine sm27.putG hT (hU x) λs24 sm24 u24=>?_;have rp24:RP U s s24 mb rb (rows.map λx=>AV.agg (kf x)) (i+1):=⟨qAW k27 u24 hmb,hmb,hsrb,hne,by rw[List.take_add_one,hkx];exact sm24,bs,by rw[u24 _ (Ne.symm hne)];exact h27,hbl,hbs⟩
 simp only[qAN,qAB];rw[qAb (by omega) (by omega)];exact⟨_,by omega,i+1,rfl,by omega,rfl,rp24⟩
end Go.AM.TN
set_option maxRecDepth 100000
namespace Go.AM.TN
open Go Go.Proofs
variable {s s':Hq} {k:AV} {b c:Nat} {Y:Td} {J:AV→Hq→Prop}
theorem k206(a b a' b':Int):qIJ TP 199 (.array 2 3) (.agg [.int .i64 a,.int .i64 b]) (.agg [.int .i64 a',.int .i64 b'])=(match mB (some (eqI a a')) (mB (some (eqI b b')) (some true))with
 |some true=>cond (eqI a a'&&(eqI b b'&&true)) (some true) none
 |r=>r):=by kernel_rfl
theorem zACf:KT TP 199 (λk=>∃a b,k=.agg [.int .i64 a,.int .i64 b]):=by
 refine⟨⟨_,Tryz.underlying199,rfl,?_⟩,?_⟩
 ·rintro k k' ⟨a,b,rfl⟩ ⟨a',b',rfl⟩
  refine⟨decide (a=a'/\b=b'),?_,by simp⟩;rw[k206,qD1,qD1]
  by_cases h1:a=a'
  ·by_cases h2:b=b'
   ·simp[mB,h1,h2]
   ·simp[mB,h1,h2]
  ·simp[mB,h1]
 ·rintro k ⟨a,b,rfl⟩
  have:∀a b:Int,qEo TP 10 199 (.agg [.int .i64 a,.int .i64 b])=true:=λa b=>by kernel_rfl
  exact this a b
theorem k223(a b a' b':Int):qIJ TP 212 (.struct #[{ name:="bd",type:=3,offset:=0,embedded:=false,tag:="",pkgPath:="leafmesh/tenant",byteOffset:=0 },{ name:="addr",type:=39,offset:=1,embedded:=false,tag:="",pkgPath:="leafmesh/tenant",byteOffset:=8 }]) (.agg [.int .i64 a,.int .u64 b]) (.agg [.int .i64 a',.int .u64 b'])=(match mB (some (eqI a a')) (mB (some (eqI b b')) (some true))with
 |some true=>cond (eqI a a'&&(eqI b b'&&true)) (some true) none
 |r=>r):=by kernel_rfl
theorem zAAZ:KT TP 212 (λk=>∃a b,k=.agg [.int .i64 a,.int .u64 b]):=by
 refine⟨⟨_,Tryz.underlying212,rfl,?_⟩,?_⟩
 ·rintro k k' ⟨a,b,rfl⟩ ⟨a',b',rfl⟩
  refine⟨decide (a=a'/\b=b'),?_,by simp⟩;rw[k223,qD1,qD1]
  by_cases h1:a=a'
  ·by_cases h2:b=b'
   ·simp[mB,h1,h2]
   ·simp[mB,h1,h2]
  ·simp[mB,h1]
 ·rintro k ⟨a,b,rfl⟩
  have:∀a b:Int,qEo TP 10 212 (.agg [.int .i64 a,.int .u64 b])=true:=λa b=>by kernel_rfl
  exact this a b
theorem k140(a b c d a' b' c' d':Int):qIJ TP 118 (.struct #[{ name:="From",type:=3,offset:=0,embedded:=false,tag:="",pkgPath:="",byteOffset:=0 },{ name:="To",type:=3,offset:=1,embedded:=false,tag:="",pkgPath:="",byteOffset:=8 },{ name:="Prefix",type:=67,offset:=2,embedded:=false,tag:="",pkgPath:="",byteOffset:=16 }]) (.agg [.int .i64 a,.int .i64 b,.int .u32 c,.int .i64 d]) (.agg [.int .i64 a',.int .i64 b',.int .u32 c',.int .i64 d'])=(match mB (some (eqI a a')) (mB (some (eqI b b')) (mB (mB (some (eqI c c')) (mB (some (eqI d d')) (some true))) (some true)))with
 |some true=>cond (eqI a a'&&(eqI b b'&&(eqI c c'&&(eqI d d'&&true)))) (some true) none
 |r=>r):=by kernel_rfl
theorem zACG:KT TP 118 (λk=>∃x,k=.agg (ggC x)):=by
 refine⟨⟨_,Tryz.underlying118,rfl,?_⟩,?_⟩
 ·rintro k k' ⟨⟨a,b,c,d⟩,rfl⟩ ⟨⟨a',b',c',d'⟩,rfl⟩
  refine⟨decide (a=a'/\b=b'/\c=c'/\d=d'),?_,by simp[ggC]⟩;show qIJ TP 118 _ (.agg [.int .i64 a,.int .i64 b,.int .u32 c,.int .i64 d]) (.agg [.int .i64 a',.int .i64 b',.int .u32 c',.int .i64 d'])=_;rw[k140,qD1,qD1,qD1,qD1]
  by_cases h1:a=a'
  ·by_cases h2:b=b'
   ·by_cases h3:c=c'
    ·by_cases h4:d=d'
     ·simp[mB,h1,h2,h3,h4]
     ·simp[mB,h1,h2,h3,h4]
    ·simp[mB,h1,h2,h3]
   ·simp[mB,h1,h2]
  ·simp[mB,h1]
 ·rintro k ⟨⟨a,b,c,d⟩,rfl⟩
  have:∀a b c d:Int,qEo TP 10 118 (.agg [.int .i64 a,.int .i64 b,.int .u32 c,.int .i64 d])=true:=λa b c d=>by kernel_rfl
  exact this a b c d
theorem qKF{Y:Td}{f:FuncId}{args:List AV}(hf:isFn TP f=true)(h:wC TP Y f args J s):funK TP Y (.fn (.func f) [] []) args J s:=
 qVa hf (by rw[List.nil_append,List.append_nil];exact h)
theorem qYJ(hY:Fn0 Y)(x:Int×Int)(s:Hq)(J:AV->Hq->Prop)(hJ:∀s',Sub s s'->J (.int .u32 x.1) s'):funK TP Y (.fn (.func 155) [] []) [.agg (tgC x)] J s:=by refine qKF (by kernel_rfl) (qLk hY.fr (hY.no _ rfl) ⟨rfl,qAM λb s1 hb h1 u1=>?_⟩);have h1:s1 b=some (false,.cells 93 (tgC x)):=h1;have e0:(tgC x)[0]?=some (.int .u32 x.1):=rfl;simp only[qAI,zAY,qAB,qAK h1,e0];exact hJ s1 (u1.sub hb)
theorem qYd(hY:Fn0 Y)(x:Int×Int)(s:Hq)(J:AV->Hq->Prop)(hJ:∀s',Sub s s'->J (.int .u32 x.2) s'):funK TP Y (.fn (.func 156) [] []) [.agg (tgC x)] J s:=by refine qKF (by kernel_rfl) (qJ3 hY.fr (hY.no _ rfl) ⟨rfl,qAM λb s1 hb h1 u1=>?_⟩);have h1:s1 b=some (false,.cells 93 (tgC x)):=h1;have e0:(tgC x)[1]?=some (.int .u32 x.2):=rfl;simp only[qAI,zAY,qAB,qAK h1,e0];exact hJ s1 (u1.sub hb)
theorem zABi(hY:Fn0 Y)(x:BG)(s:Hq)(J:AV->Hq->Prop)(hJ:∀s',Sub s s'->J (.int .u32 x.2.1) s'):funK TP Y (.fn (.func 158) [] []) [.agg (bgC x)] J s:=by refine qKF (by kernel_rfl) (qMV hY.fr (hY.no _ rfl) ⟨rfl,qAM λb s1 hb h1 u1=>?_⟩);have h1:s1 b=some (false,.cells 69 (bgC x)):=h1;have e0:(bgC x)[1]?=some (.int .u32 x.2.1):=rfl;simp only[qAI,zAY,qAB,qAK h1,e0];exact hJ s1 (u1.sub hb)
theorem zABg(hY:Fn0 Y)(x:BG)(s:Hq)(J:AV->Hq->Prop)(hJ:∀s',Sub s s'->J (.int .u32 x.2.2.1) s'):funK TP Y (.fn (.func 159) [] []) [.agg (bgC x)] J s:=by refine qKF (by kernel_rfl) (qJq hY.fr (hY.no _ rfl) ⟨rfl,qAM λb s1 hb h1 u1=>?_⟩);have h1:s1 b=some (false,.cells 69 (bgC x)):=h1;have e0:(bgC x)[2]?=some (.int .u32 x.2.2.1):=rfl;simp only[qAI,zAY,qAB,qAK h1,e0];exact hJ s1 (u1.sub hb)
theorem zABV(hY:Fn0 Y)(x:RLk)(s:Hq)(J:AV->Hq->Prop)(hJ:∀s',Sub s s'->J (.agg [.int .i64 x.1,.int .i64 x.2.1]) s'):funK TP Y (.fn (.func 152) [] []) [.agg (lkC x)] J s:=by refine qKF (by kernel_rfl) (qOW hY.fr (hY.no _ rfl) ⟨rfl,qAM λb s1 hb h1 u1=>qAM λb2 s3 hb2 h3 u3=>?_⟩);have h1:s1 b=some (false,.cells 91 (lkC x)):=h1;have k1:=u1.sub hb;have k3:=u3.sub hb2;have e0:(lkC x)[0]?=some (.int .i64 x.1):=rfl;have e1:(lkC x)[1]?=some (.int .i64 x.2.1):=rfl;have h13:=k3 _ _ h1;simp only[qAI,zAY,qAB,qAK h13,e0,e1];refine qAA (a:=[.int .i64 x.1,.int .i64 x.2.1]) rfl (qAT h3 rfl rfl rfl λs9 h9 u9=>qAA (qAU h9 rfl) ?_);exact hJ s9 (k1.trans (qAW k3 u9 hb2))
theorem zAAe(hY:Fn0 Y)(x:R4)(s:Hq)(J:AV->Hq->Prop)(hJ:∀s',Sub s s'->J (.agg (ggC x)) s'):funK TP Y (.fn (.func 174) [] []) [.agg (ggC x)] J s:=by refine qKF (by kernel_rfl) (qN0 hY.fr (hY.no _ rfl) ⟨rfl,qAM λb s1 hb h1 u1=>qAM λb2 s3 hb2 h3 u3=>?_⟩);have h1:s1 b=some (false,.cells 118 (ggC x)):=h1;have k1:=u1.sub hb;have k3:=u3.sub hb2;have h13:=k3 _ _ h1;refine qAA (qAU h13 rfl) (qAT h3 rfl rfl rfl λs9 h9 u9=>qAA (qAU h9 rfl) ?_);exact hJ s9 (k1.trans (qAW k3 u9 hb2))
end Go.AM.TN
set_option maxRecDepth 100000
namespace Go.AM.TN
open Go Go.Proofs
variable {K:AV→Hq→Prop} {s s':Hq} {y k:AV} {b c:Nat} {Y:Td} {F:FG} {v2 v3 v4 v5 v6 v7:AV} {t:Bool}
theorem zAAW(hY:Fn0 Y)(x:R4)(s:Hq)(J:AV->Hq->Prop)(hJ:∀s',Sub s s'->J (.agg [.int .i64 x.2.2.1,.int .u64 x.1]) s'):funK TP Y (.fn (.func 169) [] []) [.agg (hgC x)] J s:=by refine qKF (by kernel_rfl) (qN3 hY.fr (hY.no _ rfl) ⟨rfl,qAM λb s1 hb h1 u1=>qAM λb2 s3 hb2 h3 u3=>?_⟩);have h1:s1 b=some (false,.cells 61 (hgC x)):=h1;have k1:=u1.sub hb;have k3:=u3.sub hb2;have e0:(hgC x)[0]?=some (.int .u64 x.1):=rfl;have e2:(hgC x)[2]?=some (.int .i64 x.2.2.1):=rfl;have h13:=k3 _ _ h1;simp only[qAI,zAY,qAB,qAK h13,e0,e2];refine qAA (a:=[.int .i64 x.2.2.1,.int .u64 x.1]) rfl (qAT h3 rfl rfl rfl λs9 h9 u9=>qAA (qAU h9 rfl) ?_);exact hJ s9 (k1.trans (qAW k3 u9 hb2))
theorem zAA6(hY:Fn0 Y)(x:R4)(s:Hq)(J:AV->Hq->Prop)(hJ:∀s',Sub s s'->J (.agg [.int .i64 x.2.2.1,.int .u64 (qBq .u64 x.2.1)]) s'):funK TP Y (.fn (.func 170) [] []) [.agg (hgC x)] J s:=by refine qKF (by kernel_rfl) (qOv hY.fr (hY.no _ rfl) ⟨rfl,qAM λb s1 hb h1 u1=>qAM λb2 s3 hb2 h3 u3=>?_⟩);have h1:s1 b=some (false,.cells 61 (hgC x)):=h1;have k1:=u1.sub hb;have k3:=u3.sub hb2;have e1:(hgC x)[1]?=some (.int .u32 x.2.1):=rfl;have e2:(hgC x)[2]?=some (.int .i64 x.2.2.1):=rfl;have ec:qEC .u64 (.int .u32 x.2.1)=some (.int .u64 (qBq .u64 x.2.1)):=rfl;have h13:=k3 _ _ h1;simp only[qAI,zAY,qAB,qAK h13,e1,e2,ec];refine qAA (a:=[.int .i64 x.2.2.1,.int .u64 (qBq .u64 x.2.1)]) rfl (qAT h3 rfl rfl rfl λs9 h9 u9=>qAA (qAU h9 rfl) ?_);exact hJ s9 (k1.trans (qAW k3 u9 hb2))
theorem qNU{α:Type}{ks:List α}(h:ks.Nodup)(j:Nat)(k:α)(hk:ks[j]?=some k):k ∉ ks.take j:=by intro hm;obtain⟨i,hi,e⟩:=List.getElem_of_mem hm;obtain⟨hj,hk'⟩:=gS hk;rw[List.length_take]at hi;rw[List.getElem_take]at e;exact(List.pairwise_iff_getElem.1 h) i j (by omega) hj (by omega) (by rw[e,hk'])
theorem qDh{α β γ:Type}{f:α->β}{g:α->γ}(h:∀x y,f x=f y↔g x=g y){l:List α}{x:α}:f x∈l.map f↔g x∈l.map g:=by simp only[List.mem_map];exact⟨λ⟨a,h1,h2⟩=>⟨a,h1,(h a x).1 h2⟩,λ⟨a,h1,h2⟩=>⟨a,h1,(h a x).2 h2⟩⟩
def LkG(F:FG)(x:RLk):Prop:=(0<=x.1/\x.1<F.lf)/\(F.lf<=x.2.1/\x.2.1<F.lf+F.sp)/\1<=x.2.2/\x.2.2<=1000
structure LinksOk(F:FG):Prop where
 n:F.L.length<=128
 row:∀(i:Nat) x,F.L[i]?=some x->LkG F x/\(x.1,x.2.1) ∉ (F.L.take i).map λx=>(x.1,x.2.1)
theorem qXH(hF:FabOk F)(hn:F.L.length<=4294967296)(hc:s c=some (t,.cells 159 (csG F v2 v3 v4 v5 v6 v7)))(hL:FL s F v2 v3 v4 v5 v6 v7)(hK:Kok s (LinksOk F) K)(hR:Rbad s (LinksOk F) NoR):wC TP XX 121 [.ptr c 0] K s:=by
 refine qQm (qKa rfl hc hL λb3 s5 h5 k5=>?_);have hL5:=(hL.sub k5).L;have hlen:qAQ v2=some F.L.length:=by rw[hL5.len,lM]
 simp only[qAI,zAY,qAB,qAK h5,csG2,hlen,qBO];refine qBG (λq=>?_) λq=>hR (λg=>by have:=oT q;have:=g.n;omega) _ _ _ s5 (by omega) k5;have hn128:F.L.length<=128:=by have:=oF q;omega
 simp only[qAK h5,csG2,qAB];refine zAAr XX_0 (rows:=F.L) (rowC:=lkC) (λ_=>rfl) (λ_=>rfl) (kf:=λx=>[.int .i64 x.1,.int .i64 x.2.1]) zACf (λx=>⟨_,_,rfl⟩) (λ_=>rfl) (λ_=>rfl) (λx s J=>zABV XX_0 x s J) hL5 (by omega) λs16 again k16 rep=>?_;have h16:=k16 _ _ h5;simp only[qAK h16,csG2,qAB,hlen];have hinj:∀x y:RLk,(AV.agg [.int .i64 x.1,.int .i64 x.2.1]=AV.agg [.int .i64 y.1,.int .i64 y.2.1])↔(x.1,x.2.1)=(y.1,y.2.1):=λx y=>by simp
 refine⟨λys t m=>∃i:Nat,ys=[.int .i64 (i:Int)]/\i<=F.L.length/\m=F.L.length-i/\Sub s16 t/\∀(j:Nat) x,j<i->F.L[j]?=some x->LkG F x/\(x.1,x.2.1) ∉ (F.L.take j).map λx=>(x.1,x.2.1),⟨_,0,rfl,by omega,rfl,.refl _,λj x hj=>by omega⟩,?_⟩;rintro f t m ⟨i,hy,hi,rfl,kt,hall⟩;simp only[cI,and_true]at hy;rw[hy];simp only[qML,qAP,qAB];refine qAJ (λhlt=>?_) (λhge=>?_)
 rotate_left
 ·have hge:i=F.L.length:=by have:=oF hge;omega
  subst hge;exact hK ⟨hn128,λj x hx=>hall j x (gS hx).1 hx⟩ t (k5.trans (k16.trans kt))
 have hlt:i<F.L.length:=by have:=oT hlt;omega
 have hx:F.L[i]?=some F.L[i]:=gE hlt;generalize F.L[i]=x at hx;obtain⟨pb,po,e1,e2,_⟩:=(hL5.sub (k16.trans kt)).get (i:=i) (r:=lkC x) (by rw[List.getElem?_map,hx];rfl);rw[e1];simp only[qAB,e2];refine qAM λb24 s25 hb24 h25 u25=>qAT h25 rfl rfl rfl λs26 h26 u26=>?_;have k26:Sub t s26:=qAW (u25.sub hb24) u26 hb24;have h3:=k26 _ _ (kt _ _ h16);have kall:Sub s s26:=k5.trans (k16.trans (kt.trans k26));have a0:(lkC x)[0]?=some (.int .i64 x.1):=rfl;have a1:(lkC x)[1]?=some (.int .i64 x.2.1):=rfl;have a2:(lkC x)[2]?=some (.int .i64 x.2.2):=rfl;have bad:¬LkG F x->¬LinksOk F:=λq g=>q (g.row i x hx).1;have j3:∀(p q:AV) (bd:Bool),qAR p (.bool true) q=some (.bool bd)->(bd=true->¬LkG F x)->(bd=false->LkG F x)->qG7 XX again (.int .i64 (i:Int)) (.int .i64 (i:Int)) p q (λys t m=>∃i:Nat,ys=[.int .i64 (i:Int)]/\i<=F.L.length/\m=F.L.length-i/\Sub s16 t/\∀(j:Nat) x,j<i->F.L[j]?=some x->LkG F x/\(x.1,x.2.1) ∉ (F.L.take j).map λx=>(x.1,x.2.1)) (F.L.length-i) K s26:=λp q bd h h1 h2=>by
  unfold qG7;rw[h];simp only[qAB];refine qBG (λq1=>?_) λq1=>hR (bad (h1 q1)) _ _ _ s26 (by omega) kall;obtain⟨pp,bb,g1,g2,g3⟩:=(rep.sub (kt.trans k26)).at (j:=i) (k:=.agg [.int .i64 x.1,.int .i64 x.2.1]) (by rw[List.getElem?_map,hx];rfl);rw[<- List.map_take,qDh hinj]at g3;rw[g1];simp only[qAB,g2];refine qBG (λq2=>?_) λq2=>hR (λg=>(g.row i x hx).2 (g3.1 q2)) _ _ _ s26 (by omega) kall;simp only[qAN,qAB];rw[qAb (by omega) (by omega)];refine⟨_,by omega,i+1,rfl,by omega,rfl,kt.trans k26,λj z hj hz=>?_⟩
  by_cases e:j<i
  ·exact hall j z e hz
  ·have:j=i:=by omega
   subst this;rw[hx]at hz;cases hz;exact⟨h2 q1,λq3=>by rw[g3.2 q3]at q2;cases q2⟩
 have j2:∀(p q:AV) (ok:Bool),qAR p q (.bool false)=some (.bool ok)->(ok=false->¬LkG F x)->(ok=true->(0<=x.1/\x.1<F.lf)/\(F.lf<=x.2.1/\x.2.1<F.lf+F.sp))->qGu XX again (.int .i64 (i:Int)) (.ptr b24 0) (.int .i64 (i:Int)) p q (λys t m=>∃i:Nat,ys=[.int .i64 (i:Int)]/\i<=F.L.length/\m=F.L.length-i/\Sub s16 t/\∀(j:Nat) x,j<i->F.L[j]?=some x->LkG F x/\(x.1,x.2.1) ∉ (F.L.take j).map λx=>(x.1,x.2.1)) (F.L.length-i) K s26:=λp q ok h h1 h2=>by
  unfold qGu;rw[h];simp only[qAB,qAe];refine qAJ (λq1=>?_) (λq1=>?_)
  ·have hok:ok=false:=by simpa using q1
   exact j3 _ _ true (by rw[q1];rfl) (λ_=>h1 hok) (λq2=>by cases q2)
  ·have hok:ok=true:=by simpa using q1
   simp only[qAI,zAY,qAB,qAK h26,a2];refine qB0 XX_0 ?_;exact j3 _ _ (outB x.2.2 1 1000) (by rw[q1];rfl) (λq2 g=>by have:=qCT.2 g.2.2;rw[this]at q2;cases q2) (λq2=>⟨(h2 hok).1,(h2 hok).2,qCT.1 q2⟩)
 have j1:∀(p q:AV) (ok:Bool),qAR p q (.bool false)=some (.bool ok)->(ok=false->¬LkG F x)->(ok=true->(0<=x.1/\x.1<F.lf)/\F.lf<=x.2.1)->qHZ XX (.ptr b3 0) again (.int .i64 (i:Int)) (.ptr b24 0) (.int .i64 (i:Int)) p q (λys t m=>∃i:Nat,ys=[.int .i64 (i:Int)]/\i<=F.L.length/\m=F.L.length-i/\Sub s16 t/\∀(j:Nat) x,j<i->F.L[j]?=some x->LkG F x/\(x.1,x.2.1) ∉ (F.L.take j).map λx=>(x.1,x.2.1)) (F.L.length-i) K s26:=λp q ok h h1 h2=>by
  unfold qHZ;rw[h];simp only[qAB];refine qAJ (λq1=>?_) (λq1=>?_)
  ·have:=hF.lf
   have:=hF.sp;simp only[qAI,zAY,qAB,qAK h26,a1,qAK h3,csG0,csG1,qAN,qAP];rw[qAb (by omega) (by omega)];exact j2 _ _ (decide (x.2.1<F.lf+F.sp)) (by rw[q1];rfl) (λq2 g=>by have:=oF q2;have:=g.2.1.2;omega) (λq2=>⟨(h2 q1).1,(h2 q1).2,oT q2⟩)
  ·exact j2 _ _ false (by rw[q1];rfl) (λ_=>h1 q1) (λq2=>by cases q2)
 simp only[qAI,zAY,qAB,qAK h26,a0,qAK h3,csG0];refine qDU XX_0 ?_;refine qAJ (λq1=>?_) (λq1=>?_)
 ·simp only[qAB,qAK h26,a1,qAK h3,csG0,qBV]
  exact j1 _ _ (decide (F.lf<=x.2.1)) (by rw[q1];rfl) (λq2 g=>by have:=oF q2;have:=g.2.1.1;omega) (λq2=>⟨qKc.1 q1,oT q2⟩)
 ·exact j1 _ _ false (by rw[q1];rfl) (λ_ g=>by have:=qKc.2 g.1;rw[this]at q1;cases q1) (λq2=>by cases q2)
end Go.AM.TN
set_option maxRecDepth 100000
namespace Go.AM.TN
open Go Go.Proofs
variable {K:AV→Hq→Prop} {s:Hq} {y k:AV} {c:Nat} {F:FG} {v2 v3 v4 v5 v6 v7:AV} {t:Bool}
def TnG(x:Int×Int):Prop:=1<=x.1/\x.1<=16777215/\x.2≠0
structure TenOk(F:FG):Prop where
 n:F.T.length<=16
 row:∀(i:Nat) x,F.T[i]?=some x->TnG x/\x.1 ∉ (F.T.take i).map (·.1)/\x.2 ∉ (F.T.take i).map (·.2)
abbrev InvT(F:FG)(s16:Hq):List AV->Hq->Nat->Prop:=λys t m=>∃i:Nat,ys=[.int .i64 (i:Int)]/\i<=F.T.length/\m=F.T.length-i/\Sub s16 t/\∀(j:Nat) x,j<i->F.T[j]?=some x->TnG x/\x.1 ∉ (F.T.take j).map (·.1)/\x.2 ∉ (F.T.take j).map (·.2)
theorem qS2(hn:F.T.length<=4294967296)(hc:s c=some (t,.cells 159 (csG F v2 v3 v4 v5 v6 v7)))(hL:FL s F v2 v3 v4 v5 v6 v7)(hK:Kok s (TenOk F) K)(hR:Rbad s (TenOk F) NoR):wC TP XX 122 [.ptr c 0] K s:=by
 refine qOo ?_;unfold qNs;have hlen:qAQ v3=some F.T.length:=by rw[hL.T.len,lM]
 simp only[qGA,qAI,zAY,qAB,qAK hc,csG3,hlen,qBO];refine qBG (λq=>?_) λq=>hR (λg=>by have:=oT q;have:=g.n;omega) _ _ _ s (by omega) (.refl _);have hn16:F.T.length<=16:=by have:=oF q;omega
 refine qYG XX_0 (rows:=F.T) (rowC:=tgC) (λ_=>rfl) (λ_=>rfl) (kf:=λx=>x.1) (λx s J=>qYJ XX_0 x s J) hL.T (by omega) λs10 vn k10 repv=>?_;refine qYG XX_0 (rows:=F.T) (rowC:=tgC) (λ_=>rfl) (λ_=>rfl) (kf:=λx=>x.2) (λx s J=>qYd XX_0 x s J) (hL.T.sub k10) (by omega) λs12 tg k12 rept=>?_;have hiv:∀x y:Int×Int,(AV.int .u32 x.1=AV.int .u32 y.1)↔x.1=y.1:=λx y=>by simp
 have hit:∀x y:Int×Int,(AV.int .u32 x.2=AV.int .u32 y.2)↔x.2=y.2:=λx y=>by simp
 refine⟨InvT F s12,⟨_,0,rfl,by omega,rfl,.refl _,λj x hj=>by omega⟩,?_⟩;rintro f t m ⟨i,hy,hi,rfl,kt,hall⟩;simp only[cI,and_true]at hy;rw[hy];simp only[qKI,qAP,qAB];refine qAJ (λhlt=>?_) (λhge=>?_)
 rotate_left
 ·have hge:i=F.T.length:=by have:=oF hge;omega
  subst hge;exact hK ⟨hn16,λj x hx=>hall j x (gS hx).1 hx⟩ t (k10.trans (k12.trans kt))
 have hlt:i<F.T.length:=by have:=oT hlt;omega
 have hx:F.T[i]?=some F.T[i]:=gE hlt;generalize F.T[i]=x at hx;obtain⟨pb,po,e1,e2,_⟩:=(hL.T.sub (k10.trans (k12.trans kt))).get (i:=i) (r:=tgC x) (by rw[List.getElem?_map,hx];rfl);rw[e1];simp only[qAB,e2];refine qAM λb18 s19 hb18 h19 u19=>qAT h19 rfl rfl rfl λs20 h20 u20=>?_;have k20:Sub t s20:=qAW (u19.sub hb18) u20 hb18;have kall:Sub s s20:=k10.trans (k12.trans (kt.trans k20));have a0:(tgC x)[0]?=some (.int .u32 x.1):=rfl;have a1:(tgC x)[1]?=some (.int .u32 x.2):=rfl;have bad:¬TnG x->¬TenOk F:=λq g=>q (g.row i x hx).1;obtain⟨p1,w1,g11,g12,g13⟩:=(repv.sub (k12.trans (kt.trans k20))).at (j:=i) (k:=.int .u32 x.1) (by rw[List.getElem?_map,hx];rfl);obtain⟨p2,w2,g21,g22,g23⟩:=(rept.sub (kt.trans k20)).at (j:=i) (k:=.int .u32 x.2) (by rw[List.getElem?_map,hx];rfl);rw[<- List.map_take,qDh hiv]at g13;rw[<- List.map_take,qDh hit]at g23;have j3:∀(p q:AV) (bd:Bool),qAR p (.bool true) q=some (.bool bd)->(bd=true->¬TenOk F)->(bd=false->TnG x/\x.1 ∉ (F.T.take i).map (·.1)/\x.2 ∉ (F.T.take i).map (·.2))->qEr XX (.int .i64 (i:Int)) (.int .i64 (i:Int)) p q (InvT F s12) (F.T.length-i) K s20:=λp q bd h h1 h2=>by
  unfold qEr;rw[h];simp only[qAB];refine qBG (λq1=>?_) λq1=>hR (h1 q1) _ _ _ s20 (by omega) kall;simp only[qAN,qAB];rw[qAb (by omega) (by omega)];refine⟨_,by omega,i+1,rfl,by omega,rfl,kt.trans k20,λj z hj hz=>?_⟩
  by_cases e:j<i
  ·exact hall j z e hz
  ·have:j=i:=by omega
   subst this;rw[hx]at hz;cases hz;exact h2 q1
 have j2:∀(p q:AV) (bd:Bool),qAR p (.bool true) q=some (.bool bd)->(bd=true->¬TnG x)->(bd=false->TnG x)->qEv XX vn tg (.int .i64 (i:Int)) (.int .i64 (i:Int)) p q (InvT F s12) (F.T.length-i) K s20:=λp q bd h h1 h2=>by
  unfold qEv;rw[h];simp only[qAB];refine qBG (λq1=>?_) λq1=>hR (bad (h1 q1)) _ _ _ s20 (by omega) kall;rw[g11];simp only[qAB,g12];refine qAJ (λq2=>?_) (λq2=>?_)
  ·exact j3 _ _ true (by rw[q2];rfl) (λ_ g=>(g.row i x hx).2.1 (g13.1 q2)) (λq=>by cases q)
  ·rw[g21]
   simp only[qAB,g22];exact j3 _ _ w2 (by rw[q2];rfl) (λq3 g=>(g.row i x hx).2.2 (g23.1 q3)) (λq3=>⟨h2 q1,λz=>(by rw[g13.2 z]at q2;cases q2),λz=>(by rw[g23.2 z]at q3;cases q3)⟩)
 have j1:∀(p q:AV) (bd:Bool),qAR p (.bool true) q=some (.bool bd)->(bd=true->¬TnG x)->(bd=false->1<=x.1/\x.1<=16777215)->qE8 XX vn tg (.int .i64 (i:Int)) (.ptr b18 0) (.int .i64 (i:Int)) p q (InvT F s12) (F.T.length-i) K s20:=λp q bd h h1 h2=>by
  unfold qE8;rw[h];simp only[qAB];refine qAJ (λq1=>?_) (λq1=>?_)
  ·exact j2 _ _ bd (by rw[q1];rfl) h1 (λq2=>by rw[q1]at q2;cases q2)
  ·simp only[qAI,zAY,qAB,qAK h20,a1,qAX,qAV,Bool.false_bne]
   exact j2 _ _ (x.2 == 0) (by rw[q1];rfl) (λq2 g=>g.2.2 (by simpa using q2)) (λq2=>⟨(h2 q1).1,(h2 q1).2,by simpa using q2⟩)
 simp only[qAI,zAY,qAB,qAK h20,a0,qAP];refine qAJ (λq1=>?_) (λq1=>?_)
 ·exact j1 _ _ true (by rw[q1];rfl) (λ_ g=>by have:=oT q1;have:=g.1;omega) (λq2=>by cases q2)
 ·simp only[qAB,qBO]
  exact j1 _ _ (decide (16777215<x.1)) (by rw[q1];rfl) (λq2 g=>by have:=oT q2;have:=g.2.1;omega) (λq2=>⟨by have:=oF q1;omega,by have:=oF q2;omega⟩)
end Go.AM.TN
set_option maxRecDepth 100000
namespace Go.AM.TN
open Go Go.Proofs
variable {K:AV→Hq→Prop} {s s':Hq} {y:AV} {b:Nat} {Y:Td}
def andU(x y:Int):Int:=qBq .u32 ((BitVec.ofInt 32 x &&& BitVec.ofInt 32 y).toNat:Nat)
def orU(x y:Int):Int:=qBq .u32 ((BitVec.ofInt 32 x |||BitVec.ofInt 32 y).toNat:Nat)
def xorU(x y:Int):Int:=qBq .u32 ((BitVec.ofInt 32 x ^^^ BitVec.ofInt 32 y).toNat:Nat)
theorem qNt{x y:Int}:qAG .and (.int .u32 x) (.int .u32 y)=some (.int .u32 (andU x y)):=by simp only[qAG,arith,qCO,qCy,cond_true];rfl
theorem qTt{x y:Int}:qAG .or (.int .u32 x) (.int .u32 y)=some (.int .u32 (orU x y)):=by simp only[qAG,arith,qCO,qCy,cond_true];rfl
theorem qSR{x y:Int}:qAG .xor (.int .u32 x) (.int .u32 y)=some (.int .u32 (xorU x y)):=by simp only[qAG,arith,qCO,qCy,cond_true];rfl
def shlU(x:Int)(n:Nat):Int:=qBq .u32 (x*((2^(min n 32):Nat):Int))
def mskU(len:Int):Int:=shlU 4294967295 (32-len).toNat
def qI6(len:Int):Bool:=decide (0<=len)&&decide (len<=32)
theorem qR2{len:Int}:qI6 len=true↔0<=len/\len<=32:=by unfold qI6;simp
theorem qYN{x len:Int}(h:len<=32):qGn .shl (.int .u32 x) (.int .i64 (32-len))=some (.int .u32 (shlU x (32-len).toNat)):=by
 obtain⟨n,hn⟩:∃n:Nat,32-len=n:=⟨(32-len).toNat,by omega⟩
 rw[hn];show frc (qBq .u32 (x*((2^(min n (IntKind.bits .u32)):Nat):Int))) (λn=>some (AV.int .u32 n))=_;rw[qCO];rfl
abbrev pfC(ip len:Int):List AV:=[.int .u32 ip,.int .i64 len]
theorem qSA(hY:Fn0 Y){ip len:Int}(hK:∀s',Sub s s'->K (.bool (qI6 len)) s'):wC TP Y 105 [.agg (pfC ip len)] K s:=by
 refine qLI hY.fr (hY.no _ rfl) ⟨rfl,qAM λb s1 hb h1 u1=>?_⟩;have h1:s1 b=some (false,.cells 67 (pfC ip len)):=h1;have e1:(pfC ip len)[1]?=some (.int .i64 len):=rfl;have k1:=u1.sub hb;simp only[qAI,zAY,qAB,qAK h1,e1,qBV,qId];have hk:=hK s1 k1;unfold qI6 at hk;refine qAJ (λe=>?_) (λe=>?_)
 ·rw[e]at hk ⊢;exact hk
 ·rw[e]at hk ⊢;exact hk
theorem qUE(hY:Fn0 Y){len:Int}(h:0<=len/\len<=32)(hK:K (.int .u32 (mskU len)) s):wC TP Y 106 [.int .i64 len] K s:=by refine qMi hY.fr (hY.no _ rfl) ?_;unfold qKs;simp only[qDY,qAB];rw[qAb (by omega) (by omega),qYN h.2];exact hK
def qCe(ip len x:Int):Bool:=qI6 len&&(andU (xorU ip x) (mskU len) == 0)
theorem qG4(hY:Fn0 Y){ip len x:Int}(hK:∀s',Sub s s'->K (.bool (qCe ip len x)) s'):wC TP Y 84 [.agg (pfC ip len),.int .u32 x] K s:=by
 refine qJI hY.fr (hY.no _ rfl) ⟨rfl,qAM λb s1 hb h1 u1=>?_⟩;have h1:s1 b=some (false,.cells 67 (pfC ip len)):=h1;have k1:=u1.sub hb;refine qAA (qAU h1 rfl) (qSA hY λs4 k4=>?_);have h4:=k4 _ _ h1;have e0:(pfC ip len)[0]?=some (.int .u32 ip):=rfl;have e1:(pfC ip len)[1]?=some (.int .i64 len):=rfl;have hk:=hK s4 (k1.trans k4);unfold qCe at hk;refine qAJ (λe=>?_) (λe=>?_)
 ·simp only[qAI,zAY,qAB,qAK h4,e0,e1,qSR]
  refine qUE hY (qR2.1 e) λ_=>?_;rw[e]at hk;simp only[qNt,qAB,qAX,qAV,Bool.false_bne,e,qGj,qVK];exact hk
 ·rw[e]at hk ⊢
  exact hk
def qGZ(ip len:Int):Bool:=qI6 len&&(andU ip (mskU len) == ip)
theorem qXN(hY:Fn0 Y){ip len:Int}(h1:qI6 len=false->∀s',Sub s s'->K (.tup [.agg (pfC 0 0),.int .i64 2]) s')(h2:qI6 len=true->∀s',Sub s s'->K (.tup [.agg (pfC (andU ip (mskU len)) len),.int .i64 0]) s'):wC TP Y 192 [.agg (pfC ip len)] K s:=by
 refine qLO hY.fr (hY.no _ rfl) ⟨rfl,qAM λb s1 hb q1 u1=>qAM λb2 s3 hb2 q3 u3=>?_⟩;have q1:s1 b=some (false,.cells 67 (pfC ip len)):=q1;have k1:=u1.sub hb;have k3:=u3.sub hb2;refine qAA (qAU (k3 _ _ q1) rfl) (qSA hY λs6 k6=>?_);have q6:=k6 _ _ (k3 _ _ q1);have z6:=k6 _ _ q3;have e0:(pfC ip len)[0]?=some (.int .u32 ip):=rfl;have e1:(pfC ip len)[1]?=some (.int .i64 len):=rfl;have nb:b≠b2:=λe=>by rw[<- e,q1]at hb2;cases hb2
 have sb2:s b2=none:=qA6 k1 hb2;have k06:Sub s s6:=k1.trans (k3.trans k6);simp only[qAe,qAB];refine qAJ (λe=>?_) (λe=>?_)
 ·have e:qI6 len=false:=by simpa using e
  refine qAA (a:=[.int .u32 0,.int .i64 0]) rfl (qAT z6 rfl rfl rfl λs9 h9 u9=>qAA (qAU h9 rfl) ?_);exact h1 e s9 (qAW k06 u9 sb2)
 ·have e:qI6 len=true:=by simpa using e
  simp only[qAI,zAY,qAB,qAK q6,e0,e1];refine qUE hY (qR2.1 e) λ_=>?_;simp only[qNt,qAB,qVK];refine qBF q6 (by show 0<2;omega) rfl λs19 h19 u19=>qAA (qAU h19 rfl) ?_;have z19:s19 b2=some (false,.cells 67 [.int .u32 0,.int .i64 0]):=by rw[u19 _ (Ne.symm nb)];exact z6
  refine qAT z19 rfl rfl rfl λs21 h21 u21=>qAA (qAU h21 rfl) ?_;exact h2 e s21 (qAW (qAW k06 u19 hb) u21 sb2)
theorem eq41(a l a' l':Int):qGg TP 67 (.agg [.int .u32 a,.int .i64 l]) (.agg [.int .u32 a',.int .i64 l'])=mB (some (eqI a a')) (mB (some (eqI l l')) (some true)):=by kernel_rfl
theorem eq41'{a l a' l':Int}:qGg TP 67 (.agg [.int .u32 a,.int .i64 l]) (.agg [.int .u32 a',.int .i64 l'])=some (a == a'&&l == l'):=by
 rw[eq41,qD1,qD1]
 by_cases h1:a=a'
 ·by_cases h2:l=l'
  ·simp[mB,h1,h2]
  ·simp[mB,h1,h2]
 ·simp[mB,h1]
theorem qRd(hY:Fn0 Y){ip len:Int}(hK:∀s',Sub s s'->K (.bool (qGZ ip len)) s'):wC TP Y 161 [.agg (pfC ip len)] K s:=by
 refine qRP hY.fr (hY.no _ rfl) ⟨rfl,qAM λb s1 hb q1 u1=>?_⟩;have q1:s1 b=some (false,.cells 67 (pfC ip len)):=q1;have k1:=u1.sub hb;refine qAA (qAU q1 rfl) (qXN hY (λe s4 k4=>?_) λe s4 k4=>?_)
 ·refine qAA (a:=.agg (pfC 0 0)) rfl (qAA (a:=.int .i64 2) rfl (qAM λb7 s8 hb7 h8 u8=>qAT h8 rfl rfl rfl λs9 h9 u9=>?_))
  have hk:=hK s9 (k1.trans (k4.trans (qAW (u8.sub hb7) u9 hb7)));unfold qGZ at hk;rw[e]at hk;simp only[qAX,qAV,Bool.false_bne,qAB];exact hk
 ·refine qAA (a:=.agg (pfC (andU ip (mskU len)) len)) rfl (qAA (a:=.int .i64 0) rfl (qAM λb7 s8 hb7 h8 u8=>qAT h8 rfl rfl rfl λs9 h9 u9=>?_))
  have k9:Sub s4 s9:=qAW (u8.sub hb7) u9 hb7;have hk:=hK s9 (k1.trans (k4.trans k9));unfold qGZ at hk;rw[e]at hk;have q9:=k9 _ _ (k4 _ _ q1);simp only[qAX,qAV,Bool.false_bne,qAB];show qAL (.bool true) _ _;rw[qAF];refine qAA (qAU h9 rfl) (qAA (qAU q9 rfl) ?_);rw[eq41'];simp only[qAV,Bool.false_bne,qAB];have:(andU ip (mskU len) == ip&&len == len)=(andU ip (mskU len) == ip):=by simp
  rw[this];exact hk
def zAAz(ip len:Int):Int:=orU ip (IntKind.u32.wrap (shlU 1 (32-len).toNat-1))
def qKJ(ip len x:Int):Bool:=qCe ip len x&&(x != ip)&&(x != zAAz ip len)
theorem qRv(hY:Fn0 Y){ip len x:Int}(h:-1000<=len/\len<=32)(hK:∀s',Sub s s'->K (.bool (qKJ ip len x)) s'):wC TP Y 162 [.agg (pfC ip len),.int .u32 x] K s:=by
 refine qRJ hY.fr (hY.no _ rfl) ⟨rfl,qAM λb s1 hb q1 u1=>?_⟩;have q1:s1 b=some (false,.cells 67 (pfC ip len)):=q1;have k1:=u1.sub hb;have e0:(pfC ip len)[0]?=some (.int .u32 ip):=rfl;have e1:(pfC ip len)[1]?=some (.int .i64 len):=rfl;simp only[qAI,zAY,qAB,qAK q1,e0,e1,qDY];rw[qAb (by omega) (by omega),qYN h.2];simp only[qDY,qAB,qTt];refine qAA (qAU q1 rfl) (qG4 hY λs12 k12=>?_);have q12:=k12 _ _ q1;have hk:=hK s12 (k1.trans k12);unfold qKJ at hk;have hl:orU ip (IntKind.u32.wrap (shlU 1 (32-len).toNat-1))=zAAz ip len:=rfl;rw[hl];refine qAJ (λe=>?_) (λe=>?_)
 ·simp only[qAB,qAK q12,e0,qAX,qAV,Bool.true_bne]
  rw[e]at hk ⊢;simp only[qJS,qGj,qAB];have e2:(!(x == ip))=(x != ip):=rfl;rw[e2];refine qAJ (λe3=>?_) (λe3=>?_)
  ·rw[e3]at hk ⊢
   simp only[qAX,qAV,Bool.true_bne,qAB,qJc,qGj];exact hk
  ·rw[e3]at hk ⊢
   exact hk
 ·rw[e]at hk ⊢
  exact hk
end Go.AM.TN
set_option maxRecDepth 100000
namespace Go.AM.TN
open Go Go.Proofs
variable {K:AV→Hq→Prop} {s s':Hq} {v k:AV} {b:Nat} {Y:Td} {t:Bool} {J:AV→Hq→Prop}
def fstI{A:Type}(p:A->Bool)(l:List A):Int:=match l.findIdx? p with
 |some i=>(i:Int)
 |none=>-1
theorem qMn{A:Type}{p:A->Bool}{l:List A}:decide (0<=fstI p l)=l.any p:=by
 unfold fstI;cases h:l.findIdx? p with
 | none=>
   have:=List.findIdx?_eq_none_iff.1 h;have e:l.any p=false:=by rw[List.any_eq_false];exact λx hx=>by rw[this x hx];simp
   rw[e];rfl
 | some i=>
   obtain⟨hi,hp,_⟩:=List.findIdx?_eq_some_iff_getElem.1 h;have e:l.any p=true:=List.any_eq_true.2 ⟨l[i],List.getElem_mem hi,hp⟩;rw[e];show decide ((0:Int)<=(i:Int))=true;exact decide_eq_true (by omega)
theorem qKC{A:Type}{p:A->Bool}{l:List A}{i:Nat}{x:A}(hx:l[i]?=some x)(hp:p x=true)(hb:∀j z,j<i->l[j]?=some z->p z=false):fstI p l=i:=by unfold fstI;obtain⟨hi,e⟩:=gS hx;have:l.findIdx? p=some i:=List.findIdx?_eq_some_iff_getElem.2 ⟨hi,by rw[e];exact hp,λj hj=>by rw[hb j l[j] hj (gE (by omega))];simp⟩;rw[this]
theorem qIK{A:Type}{p:A->Bool}{l:List A}(hb:∀(j:Nat) z,l[j]?=some z->p z=false):fstI p l=-1:=by
 unfold fstI;have:l.findIdx? p=none:=List.findIdx?_eq_none_iff.2 λx hx=>by obtain⟨j,hj⟩:=List.getElem?_of_mem hx;exact hb j x hj
 rw[this]
theorem qSr(hY:Fn0 Y){p:BG->Bool}{rows:List BG}{fv:AV}(hn:rows.length<=4294967296)(hv:SlR 6 s v (rows.map bgC))(hp:∀(x:BG) (s1:Hq) (J:AV->Hq->Prop),Sub s s1->(∀s',Sub s1 s'->J (.bool (p x)) s')->funK TP Y fv [.agg (bgC x)] J s1)
  (hK:∀s',Sub s s'->K (.int .i64 (fstI p rows)) s'):wC TP Y 193 [v,fv] K s:=by
 refine qD4 hY.fr (hY.no _ rfl) ?_;unfold qCv;have hlen:qAQ v=some rows.length:=by rw[hv.len,lM]
 rw[hlen];simp only[qAB];refine⟨λys t m=>∃i:Nat,ys=[.int .i64 (i:Int)]/\i<=rows.length/\m=rows.length-i/\Sub s t/\∀j z,j<i->rows[j]?=some z->p z=false,⟨_,0,rfl,by omega,rfl,.refl _,λj z hj=>by omega⟩,?_⟩;rintro f t m ⟨i,hy,hi,rfl,kt,hall⟩;simp only[cI,and_true]at hy;rw[hy];simp only[qCa,qAP,qAB];refine qAJ (λhlt=>?_) (λhge=>?_)
 rotate_left
 ·have hge:i=rows.length:=by have:=oF hge;omega
  subst hge;have:=hK t kt;rw[qIK λj z hz=>hall j z (gS hz).1 hz]at this;exact this
 have hlt:i<rows.length:=by have:=oT hlt;omega
 have hx:rows[i]?=some rows[i]:=gE hlt;generalize rows[i]=x at hx;obtain⟨pb,po,e1,e2,_⟩:=(hv.sub kt).get (i:=i) (r:=bgC x) (by rw[List.getElem?_map,hx];rfl);rw[e1];simp only[qAB,e2];refine hp x t _ kt λs6 k6=>?_;refine qAJ (λq=>?_) (λq=>?_)
 ·have:=hK s6 (kt.trans k6)
  rw[qKC hx q hall]at this;exact this
 ·simp only[qAN,qAB]
  rw[qAb (by omega) (by omega)];refine⟨_,by omega,i+1,rfl,by omega,rfl,kt.trans k6,λj z hj hz=>?_⟩
  by_cases e:j<i
  ·exact hall j z e hz
  ·have:j=i:=by omega
   subst this;rw[hx]at hz;cases hz;exact q
theorem qTi(hY:Fn0 Y){p:Int×Int->Bool}{rows:List (Int×Int)}{fv:AV}(hn:rows.length<=4294967296)(hv:SlR 2 s v (rows.map tgC))(hp:∀(x:Int×Int) (s1:Hq) (J:AV->Hq->Prop),Sub s s1->(∀s',Sub s1 s'->J (.bool (p x)) s')->funK TP Y fv [.agg (tgC x)] J s1)
  (hK:∀s',Sub s s'->K (.int .i64 (fstI p rows)) s'):wC TP Y 198 [v,fv] K s:=by
 refine qDB hY.fr (hY.no _ rfl) ?_;unfold qCB;have hlen:qAQ v=some rows.length:=by rw[hv.len,lM]
 rw[hlen];simp only[qAB];refine⟨λys t m=>∃i:Nat,ys=[.int .i64 (i:Int)]/\i<=rows.length/\m=rows.length-i/\Sub s t/\∀j z,j<i->rows[j]?=some z->p z=false,⟨_,0,rfl,by omega,rfl,.refl _,λj z hj=>by omega⟩,?_⟩;rintro f t m ⟨i,hy,hi,rfl,kt,hall⟩;simp only[cI,and_true]at hy;rw[hy];simp only[qBs,qAP,qAB];refine qAJ (λhlt=>?_) (λhge=>?_)
 rotate_left
 ·have hge:i=rows.length:=by have:=oF hge;omega
  subst hge;have:=hK t kt;rw[qIK λj z hz=>hall j z (gS hz).1 hz]at this;exact this
 have hlt:i<rows.length:=by have:=oT hlt;omega
 have hx:rows[i]?=some rows[i]:=gE hlt;generalize rows[i]=x at hx;obtain⟨pb,po,e1,e2,_⟩:=(hv.sub kt).get (i:=i) (r:=tgC x) (by rw[List.getElem?_map,hx];rfl);rw[e1];simp only[qAB,e2];refine hp x t _ kt λs6 k6=>?_;refine qAJ (λq=>?_) (λq=>?_)
 ·have:=hK s6 (kt.trans k6)
  rw[qKC hx q hall]at this;exact this
 ·simp only[qAN,qAB]
  rw[qAb (by omega) (by omega)];refine⟨_,by omega,i+1,rfl,by omega,rfl,kt.trans k6,λj z hj hz=>?_⟩
  by_cases e:j<i
  ·exact hall j z e hz
  ·have:j=i:=by omega
   subst this;rw[hx]at hz;cases hz;exact q
theorem qPP(hY:Fn0 Y){p:Int->Bool}{l:List Int}{fv:AV}(hn:l.length<=4294967296)(hv:Sl s v (ix l))(hp:∀(x:Int) (s1:Hq) (J:AV->Hq->Prop),Sub s s1->(∀s',Sub s1 s'->J (.bool (p x)) s')->funK TP Y fv [.int .i64 x] J s1)
  (hK:∀s',Sub s s'->K (.int .i64 (fstI p l)) s'):wC TP Y 102 [v,fv] K s:=by
 refine qFv hY.fr (hY.no _ rfl) ?_;unfold qDv;have hlen:qAQ v=some l.length:=by rw[hv.len,qA3]
 rw[hlen];simp only[qAB];refine⟨λys t m=>∃i:Nat,ys=[.int .i64 (i:Int)]/\i<=l.length/\m=l.length-i/\Sub s t/\∀j z,j<i->l[j]?=some z->p z=false,⟨_,0,rfl,by omega,rfl,.refl _,λj z hj=>by omega⟩,?_⟩;rintro f t m ⟨i,hy,hi,rfl,kt,hall⟩;simp only[cI,and_true]at hy;rw[hy];simp only[qDP,qAP,qAB];refine qAJ (λhlt=>?_) (λhge=>?_)
 rotate_left
 ·have hge:i=l.length:=by have:=oF hge;omega
  subst hge;have:=hK t kt;rw[qIK λj z hz=>hall j z (gS hz).1 hz]at this;exact this
 have hlt:i<l.length:=by have:=oT hlt;omega
 obtain⟨pp,g1,g2⟩:=(hv.sub kt).get (i:=i) (by rw[qA3];exact hlt);rw[qFd hlt]at g2;have hx:l[i]?=some l[i]:=gE hlt;generalize l[i]=x at hx g2;rw[g1];simp only[qAB,g2];refine hp x t _ kt λs6 k6=>?_;refine qAJ (λq=>?_) (λq=>?_)
 ·have:=hK s6 (kt.trans k6)
  rw[qKC hx q hall]at this;exact this
 ·simp only[qAN,qAB]
  rw[qAb (by omega) (by omega)];refine⟨_,by omega,i+1,rfl,by omega,rfl,kt.trans k6,λj z hj hz=>?_⟩
  by_cases e:j<i
  ·exact hall j z e hz
  ·have:j=i:=by omega
   subst this;rw[hx]at hz;cases hz;exact q
theorem qOn(hY:Fn0 Y){p:BG->Bool}{rows:List BG}{fv:AV}(hn:rows.length<=4294967296)(hv:SlR 6 s v (rows.map bgC))(hp:∀(x:BG) (s1:Hq) (J:AV->Hq->Prop),Sub s s1->(∀s',Sub s1 s'->J (.bool (p x)) s')->funK TP Y fv [.agg (bgC x)] J s1)
  (hK:∀s',Sub s s'->K (.bool (rows.any p)) s'):wC TP Y 163 [v,fv] K s:=by
 refine qDg hY.fr (hY.no _ rfl) ?_;unfold qCb;refine qSr hY hn hv hp λs' k=>?_;simp only[qBV,qAB,qMn];exact hK s' k
theorem qOh(hY:Fn0 Y){p:Int×Int->Bool}{rows:List (Int×Int)}{fv:AV}(hn:rows.length<=4294967296)(hv:SlR 2 s v (rows.map tgC))(hp:∀(x:Int×Int) (s1:Hq) (J:AV->Hq->Prop),Sub s s1->(∀s',Sub s1 s'->J (.bool (p x)) s')->funK TP Y fv [.agg (tgC x)] J s1)
  (hK:∀s',Sub s s'->K (.bool (rows.any p)) s'):wC TP Y 190 [v,fv] K s:=by
 refine qCr hY.fr (hY.no _ rfl) ?_;unfold qBr;refine qTi hY hn hv hp λs' k=>?_;simp only[qBV,qAB,qMn];exact hK s' k
theorem qIH(hY:Fn0 Y){p:Int->Bool}{l:List Int}{fv:AV}(hn:l.length<=4294967296)(hv:Sl s v (ix l))(hp:∀(x:Int) (s1:Hq) (J:AV->Hq->Prop),Sub s s1->(∀s',Sub s1 s'->J (.bool (p x)) s')->funK TP Y fv [.int .i64 x] J s1)
  (hK:∀s',Sub s s'->K (.bool (l.any p)) s'):wC TP Y 114 [v,fv] K s:=by
 refine qEh hY.fr (hY.no _ rfl) ?_;unfold qDO;refine qPP hY hn hv hp λs' k=>?_;simp only[qBV,qAB,qMn];exact hK s' k
theorem qX9(hY:Fn0 Y){kf:Int×Int->Int}{rows:List (Int×Int)}{g:FuncId}{n:Int}(hn:rows.length<=4294967296)(hv:SlR 2 s v (rows.map tgC))(hg:∀(x:Int×Int) (s:Hq) (J:AV->Hq->Prop),(∀s',Sub s s'->J (.int .u32 (kf x)) s')->funK TP Y (.fn (.func g) [] []) [.agg (tgC x)] J s)
  (hK:∀s',Sub s s'->K (.bool (rows.any λx=>kf x == n)) s'):wC TP Y 160 [v,.fn (.func g) [] [],.int .u32 n] K s:=by
 refine qE0 hY.fr (hY.no _ rfl) (qDN rfl λb0 s1 hb0 h1 u1=>qDN rfl λb2 s3 hb2 h3 u3=>?_);have k1:=u1.sub hb0;have k3:=u3.sub hb2;refine qOh hY (p:=λx=>kf x == n) hn (hv.sub (k1.trans k3)) (λx sA J kA hJ=>?_) λs' k=>hK s' ((k1.trans k3).trans k);refine qVa (by kernel_rfl) (qEY hY.fr (hY.no _ rfl) ⟨rfl,qAM λb s5 hb h5 u5=>?_⟩);have h5:s5 b=some (false,.cells 93 (tgC x)):=h5;have k5:=u5.sub hb;have e0:[AV.fn (.func g) [] []][0]?=some (.fn (.func g) [] []):=rfl;have h15:=k5 _ _ (kA _ _ (k3 _ _ h1));have h35:=k5 _ _ (kA _ _ h3);simp only[qAK h15,e0,qAB];refine qAA (qAU h5 rfl) (hg x (frz s5) _ λs6 k6 _=>?_);have h36:cutH [(s5,add s5 s6)] (add s5 s6) b2=some (false,.cells 41 [.int .u32 n]):=qLU h35 (qBt h35);have e1:[AV.int .u32 n][0]?=some (.int .u32 n):=rfl;simp only[qAK h36,e1,qAB,qAX,qAV,Bool.false_bne];exact hJ _ (k5.trans qGy)
def qVJ(b x:BG):Bool:=(x.1 == b.1)&&(x.2.2.2.2.2 != 0)&&(qCe x.2.2.2.1 x.2.2.2.2.1 b.2.2.2.1||qCe b.2.2.2.1 b.2.2.2.2.1 x.2.2.2.1)
theorem zAAG(hY:Fn0 Y){d x:BG}{cb:Nat}{t:Bool}(hd:s cb=some (t,.cells 69 (bgC d)))(hJ:∀s',Sub s s'->J (.bool (qVJ d x)) s'):funK TP Y (.fn (.func 164) [] [.ptr cb 0]) [.agg (bgC x)] J s:=by
 refine qVa (by kernel_rfl) (qMT hY.fr (hY.no _ rfl) ⟨rfl,qAM λb s1 hb h1 u1=>?_⟩);have h1:s1 b=some (false,.cells 69 (bgC x)):=h1;have k1:=u1.sub hb;have hd1:=k1 _ _ hd;have a0:(bgC x)[0]?=some (.int .i64 x.1):=rfl;have a3:(bgC x)[3]?=some (.int .u32 x.2.2.2.1):=rfl;have a5:(bgC x)[5]?=some (.int .u32 x.2.2.2.2.2):=rfl;have d0:(bgC d)[0]?=some (.int .i64 d.1):=rfl;have d3:(bgC d)[3]?=some (.int .u32 d.2.2.2.1):=rfl;have rx:∀{s2:Hq},Sub s1 s2->rdN s2 2 (.ptr b 3)=some (pfC x.2.2.2.1 x.2.2.2.2.1):=fun {s2} q=>by simp only[rdN,q _ _ h1];rfl
 have rd:∀{s2:Hq},Sub s1 s2->rdN s2 2 (.ptr cb 3)=some (pfC d.2.2.2.1 d.2.2.2.2.1):=fun {s2} q=>by simp only[rdN,q _ _ hd1];rfl
 simp only[qAI,zAY,qAB,qAK h1,qAK hd1,a0,d0,qAX,qAV,Bool.false_bne];unfold qVJ at hJ;have j0:∀(p q:AV) (ok:Bool),qAR p q (.bool false)=some (.bool ok)->((x.1 == d.1)&&(x.2.2.2.2.2 != 0))=ok->qDw Y (.ptr cb 0) (.ptr b 0) p q J s1:=λp q ok h he=>by
  unfold qDw;rw[h];rw[he]at hJ;simp only[qAB];refine qAJ (λe=>?_) (λe=>?_)
  ·simp only[qAI,zAY,qAB,qAK hd1,d3,rx (.refl _)]
   refine qG4 hY λs14 k14=>?_;refine qAJ (λe2=>?_) (λe2=>?_)
   ·have:=hJ s14 (k1.trans k14)
    rw[e,e2]at this;rw[e,e2];exact this
   ·have h14:=k14 _ _ h1
    simp only[qAB,qAK h14,a3,rd k14];refine qG4 hY λs23 k23=>?_;have:=hJ s23 (k1.trans (k14.trans k23));rw[e,e2]at this;rw[e,e2];exact this
  ·have:=hJ s1 k1
   rw[e]at this;rw[e];exact this
 refine qAJ (λe=>?_) (λe=>?_)
 ·simp only[qAB,a5,qAX,qAV,Bool.true_bne]
  exact j0 _ _ (!(x.2.2.2.2.2 == 0)) (by rw[e];rfl) (by rw[e];rfl)
 ·exact j0 _ _ false (by rw[e];rfl) (by rw[e];rfl)
end Go.AM.TN
set_option maxRecDepth 100000
namespace Go.AM.TN
open Go Go.Proofs
variable {K:AV→Hq→Prop} {s:Hq} {v y k:AV} {c:Nat} {F:FG} {v2 v3 v4 v5 v6 v7:AV} {t:Bool} {J:AV→Hq→Prop}
theorem RepR.addf{s2:Hq}{ks:List AV}(h:RepR s2 v ks)(hs:Sub (AM.frz s) s2):RepR (add s s2) v ks:=by obtain⟨bs,h1,h2,h3⟩:=h.ex;exact⟨bs,h1.addf hs,h2,h3⟩
def BdG(F:FG)(x:BG):Prop:=(0<=x.1/\x.1<(F.T.length:Int))/\(1<=x.2.1/\x.2.1<=16777215)/\x.2.2.1≠0
def BdS(F:FG)(i:Nat)(x:BG):Prop:=(x.2.2.2.2.2=0->x.2.2.2.1=0/\x.2.2.2.2.1=0)/\(x.2.2.2.2.2≠0->qGZ x.2.2.2.1 x.2.2.2.2.1=true/\(8<=x.2.2.2.2.1/\x.2.2.2.2.1<=30)/\qKJ x.2.2.2.1 x.2.2.2.2.1 x.2.2.2.2.2=true/\(F.B.take i).any (qVJ x)=false)
structure BdRow(F:FG)(i:Nat)(x:BG):Prop where
 g:BdG F x
 vn:x.2.1 ∉ (F.B.take i).map (·.2.1)
 tg:x.2.2.1 ∉ (F.B.take i).map (·.2.2.1)
 tv:F.T.any (λy=>y.1 == x.2.1)=false
 tt:F.T.any (λy=>y.2 == x.2.2.1)=false
 s:BdS F i x
structure DomOk(F:FG):Prop where
 n:F.B.length<=32
 row:∀(i:Nat) x,F.B[i]?=some x->BdRow F i x
abbrev InvB(F:FG)(s20:Hq):List AV->Hq->Nat->Prop:=λys t m=>∃i:Nat,ys=[.int .i64 (i:Int)]/\i<=F.B.length/\m=F.B.length-i/\Sub s20 t/\∀(j:Nat) x,j<i->F.B[j]?=some x->BdRow F j x
theorem qTW(hT:F.T.length<=16)(hn:F.B.length<=4294967296)(hc:s c=some (t,.cells 159 (csG F v2 v3 v4 v5 v6 v7)))(hL:FL s F v2 v3 v4 v5 v6 v7)(hK:Kok s (DomOk F) K)(hR:Rbad s (DomOk F) NoR):wC TP XX 123 [.ptr c 0] K s:=by
 refine qOp (qKa rfl hc hL λb3 s5 h5 k5=>?_);have hL5:=(hL.sub k5).B;have hlen:qAQ v4=some F.B.length:=by rw[hL5.len,lM]
 simp only[qAI,zAY,qAB,qAK h5,csG4,hlen,qBO];refine qBG (λq=>?_) λq=>hR (λg=>by have:=oT q;have:=g.n;omega) _ _ _ s5 (by omega) k5;have hn32:F.B.length<=32:=by have:=oF q;omega
 simp only[qAK h5,csG4,qAB];refine qX8 XX_0 (rows:=F.B) (rowC:=bgC) (λ_=>rfl) (λ_=>rfl) (kf:=λx=>x.2.1) (λx s J=>zABi XX_0 x s J) hL5.frz (by omega) λs16 vn k16 repv=>?_;intro _;have h516:cutH [(s5,add s5 s16)] (add s5 s16) b3=some (false,.cells 31 (csG F v2 v3 v4 v5 v6 v7)):=qLU h5 (qBt h5);have repv':=repv.addf k16;have ka:Sub s5 (add s5 s16):=qGy;simp only[qAK h516,csG4,qAB];generalize add s5 s16=s17 at repv' ka ⊢;refine qX8 XX_0 (rows:=F.B) (rowC:=bgC) (λ_=>rfl) (λ_=>rfl) (kf:=λx=>x.2.2.1) (λx s J=>zABg XX_0 x s J) (hL5.sub ka) (by omega) λs20 tg k20 rept=>?_;have h20:=k20 _ _ (ka _ _ h5);have k520:Sub s5 s20:=ka.trans k20;simp only[qAK h20,csG4,qAB,hlen];have hiv:∀x y:BG,(AV.int .u32 x.2.1=AV.int .u32 y.2.1)↔x.2.1=y.2.1:=λx y=>by simp
 have hit:∀x y:BG,(AV.int .u32 x.2.2.1=AV.int .u32 y.2.2.1)↔x.2.2.1=y.2.2.1:=λx y=>by simp
 refine⟨InvB F s20,⟨_,0,rfl,by omega,rfl,.refl _,λj x hj=>by omega⟩,?_⟩;rintro f t m ⟨i,hy,hi,rfl,kt,hall⟩;simp only[cI,and_true]at hy;rw[hy];simp only[qJm,qAP,qAB];refine qAJ (λhlt=>?_) (λhge=>?_)
 rotate_left
 ·have hge:i=F.B.length:=by have:=oF hge;omega
  subst hge;exact hK ⟨hn32,λj x hx=>hall j x (gS hx).1 hx⟩ t (k5.trans (k520.trans kt))
 have hlt:i<F.B.length:=by have:=oT hlt;omega
 have hx:F.B[i]?=some F.B[i]:=gE hlt;generalize F.B[i]=x at hx;obtain⟨pb,po,e1,e2,_⟩:=(hL5.sub (k520.trans kt)).get (i:=i) (r:=bgC x) (by rw[List.getElem?_map,hx];rfl);rw[e1];simp only[qAB,e2];refine qAM λb29 s30 hb29 h30 u30=>qAT h30 rfl rfl rfl λs31 h31 u31=>?_;have k31:Sub t s31:=qAW (u30.sub hb29) u31 hb29;have kall:Sub s s31:=k5.trans (k520.trans (kt.trans k31));have h3:s31 b3=some (false,.cells 31 (csG F v2 v3 v4 v5 v6 v7)):=k31 _ _ (kt _ _ h20);have hL3:FL s31 F v2 v3 v4 v5 v6 v7:=hL.sub kall;have lenT:qAQ v3=some F.T.length:=by rw[hL.T.len,lM]
 have a0:(bgC x)[0]?=some (.int .i64 x.1):=rfl;have a1:(bgC x)[1]?=some (.int .u32 x.2.1):=rfl;have a2:(bgC x)[2]?=some (.int .u32 x.2.2.1):=rfl;have a4:(bgC x)[4]?=some (.int .i64 x.2.2.2.2.1):=rfl;have a5:(bgC x)[5]?=some (.int .u32 x.2.2.2.2.2):=rfl;have rx:∀{s2:Hq},Sub s31 s2->rdN s2 2 (.ptr b29 3)=some (pfC x.2.2.2.1 x.2.2.2.2.1):=fun {s2} q=>by simp only[rdN,q _ _ h31];rfl
 obtain⟨p1,w1,g11,g12,g13⟩:=(repv'.sub (k20.trans (kt.trans k31))).at (j:=i) (k:=.int .u32 x.2.1) (by rw[List.getElem?_map,hx];rfl);obtain⟨p2,w2,g21,g22,g23⟩:=(rept.sub (kt.trans k31)).at (j:=i) (k:=.int .u32 x.2.2.1) (by rw[List.getElem?_map,hx];rfl);rw[<- List.map_take,qDh hiv]at g13;rw[<- List.map_take,qDh hit]at g23;have j1:BdRow F i x->∀{s2:Hq},Sub s31 s2->qEz XX (.int .i64 (i:Int)) (InvB F s20) (F.B.length-i) K s2:=λok {s2} k2=>by
  unfold qEz;simp only[qAN,qAB];rw[qAb (by omega) (by omega)];refine⟨_,by omega,i+1,rfl,by omega,rfl,kt.trans (k31.trans k2),λj z hj hz=>?_⟩
  by_cases e:j<i
  ·exact hall j z e hz
  ·have:j=i:=by omega
   subst this;rw[hx]at hz;cases hz;exact ok
 have hbad:∀{s2:Hq},¬BdRow F i x->Sub s31 s2->∀(e:Int) (p:ByteArray) (i:Int),e≠0->NoR (flV e p i) s2:=fun {s2} q k2 e p i he=>hR (λg=>q (g.row _ x hx)) e p i s2 he (kall.trans k2);have j8:∀(p q:AV) (bd:Bool),qAR p (.bool true) q=some (.bool bd)->(bd=true->¬BdRow F i x)->(bd=false->(8<=x.2.2.2.2.1/\x.2.2.2.2.1<=30)/\qGZ x.2.2.2.1 x.2.2.2.2.1=true)->x.2.2.2.2.2≠0->(BdS F i x->BdRow F i x)->∀{s2:Hq},Sub s31 s2->qE6 XX (.ptr b3 0) (.int .i64 (i:Int)) (.ptr b29 0) (.int .i64 (i:Int)) p q (InvB F s20) (F.B.length-i) K s2:=λp q bd h h1 h2 hg ok {s2} k2=>by
  unfold qE6;rw[h];simp only[qAB];refine qBG (λq1=>?_) λq1=>hbad (h1 q1) k2 _ _ _ (by omega);obtain⟨m1,m2⟩:=h2 q1;have h31':=k2 _ _ h31;simp only[qAI,zAY,qAB,rx k2,qAK h31',a5];refine qRv XX_0 (by omega) λs75 k75=>?_;simp only[qAe,qAB];refine qBG (λq2=>?_) λq2=>hbad (λg=>by have:=(g.s.2 hg).2.2.1;rw[this]at q2;cases q2) (k2.trans k75) _ _ _ (by omega);have q2:qKJ x.2.2.2.1 x.2.2.2.2.1 x.2.2.2.2.2=true:=by simpa using q2
  have h3':=k75 _ _ (k2 _ _ h3);simp only[qAK h3',csG4,qAB];obtain⟨v',z1,z2,_⟩:=(hL3.B.sub (k2.trans k75)).take (k:=i) (by rw[lM];omega) (λe=>by have:=congrArg List.length e;rw[lM,List.length_nil]at this;omega);rw[<- List.map_take]at z2;rw[z1];simp only[qAB];refine qOn XX_0 (p:=qVJ x) (by rw[List.length_take];omega) z2 (λz sA J kA hJ=>zAAG XX_0 (kA _ _ (k75 _ _ h31')) hJ) λs83 k83=>?_;refine qBG (λq3=>?_) λq3=>hbad (λg=>by have:=(g.s.2 hg).2.2.2;rw[this]at q3;cases q3) ((k2.trans k75).trans k83) _ _ _ (by omega);exact j1 (ok ⟨λe=>absurd e hg,λ_=>⟨m2,m1,q2,q3⟩⟩) ((k2.trans k75).trans k83)
 have j7:∀(p q:AV) (bd:Bool),qAR p (.bool true) q=some (.bool bd)->(bd=true->¬BdRow F i x)->(bd=false->BdS F i x->BdRow F i x)->∀{s2:Hq},Sub s31 s2->qE7 XX (.ptr b3 0) (.int .i64 (i:Int)) (.ptr b29 0) (.int .i64 (i:Int)) p q (InvB F s20) (F.B.length-i) K s2:=λp q bd h h1 h2 {s2} k2=>by
  unfold qE7;rw[h];simp only[qAB];refine qBG (λq1=>?_) λq1=>hbad (h1 q1) k2 _ _ _ (by omega);have h31':=k2 _ _ h31;simp only[qAI,zAY,qAB,qAK h31',a5,qAX,qAV,Bool.false_bne];refine qAJ (λq2=>?_) (λq2=>?_)
  ·have q2:x.2.2.2.2.2=0:=by simpa using q2
   rw[rx k2];simp only[qAB];refine qAA (a:=[.int .u32 0,.int .i64 0]) rfl ?_;rw[eq41'];simp only[qAV,Bool.true_bne,qAB];refine qBG (λq3=>?_) λq3=>hbad (λg=>by obtain⟨z1,z2⟩:=g.s.1 q2;simp[z1,z2]at q3) k2 _ _ _ (by omega);have q3:x.2.2.2.1=0/\x.2.2.2.2.1=0:=by simpa using q3
   exact j1 (h2 q1 ⟨λ_=>q3,λe=>absurd q2 e⟩) k2
  ·have q2:x.2.2.2.2.2≠0:=by simpa using q2
   rw[rx k2];simp only[qAB];refine qRd XX_0 λs65 k65=>?_;simp only[qAe,qAB];refine qAJ (λq3=>?_) (λq3=>?_)
   ·exact j8 _ _ true (by rw[q3];rfl) (λ_ g=>by have:=(g.s.2 q2).1;rw[this]at q3;cases q3) (λq4=>by cases q4) q2 (h2 q1) (k2.trans k65)
   ·have h31'':=k65 _ _ h31'
    have hcl:qGZ x.2.2.2.1 x.2.2.2.2.1=true:=by simpa using q3
    simp only[qAB,qAK h31'',a4];refine qB0 XX_0 ?_;exact j8 _ _ (outB x.2.2.2.2.1 8 30) (by rw[q3];rfl) (λq4 g=>by have:=qCT.2 (g.s.2 q2).2.1;rw[this]at q4;cases q4) (λq4=>⟨qCT.1 q4,hcl⟩) q2 (h2 q1) (k2.trans k65)
 have j6:∀(p q:AV) (bd:Bool),qAR p (.bool true) q=some (.bool bd)->(bd=true->¬BdRow F i x)->(bd=false->F.T.any (λy=>y.2 == x.2.2.1)=false->BdS F i x->BdRow F i x)->∀{s2:Hq},Sub s31 s2->qEw XX (.ptr b3 0) (.int .i64 (i:Int)) (.ptr b29 0) (.int .i64 (i:Int)) p q (InvB F s20) (F.B.length-i) K s2:=λp q bd h h1 h2 {s2} k2=>by
  unfold qEw;rw[h];simp only[qAB];refine qAJ (λq1=>?_) (λq1=>?_)
  ·exact j7 _ _ bd (by rw[q1];rfl) h1 (λq2=>by rw[q1]at q2;cases q2) k2
  ·simp only[qAI,zAY,qAB,qAK (k2 _ _ h3),csG3,qAK (k2 _ _ h31),a2]
   refine qX9 XX_0 (kf:=λy=>y.2) (by omega) (hL3.T.sub k2) (λy s J=>qYd XX_0 y s J) λs96 k96=>?_;exact j7 _ _ (F.T.any λy=>y.2 == x.2.2.1) (by rw[q1];rfl) (λq2 g=>by rw[g.tt]at q2;cases q2) (λq2=>h2 q1 q2) (k2.trans k96)
 have j5:∀(p q:AV) (bd:Bool),qAR p (.bool true) q=some (.bool bd)->(bd=true->¬BdRow F i x)->(bd=false->F.T.any (λy=>y.1 == x.2.1)=false->F.T.any (λy=>y.2 == x.2.2.1)=false->BdS F i x->BdRow F i x)->qEu XX (.ptr b3 0) (.int .i64 (i:Int)) (.ptr b29 0) (.int .i64 (i:Int)) p q (InvB F s20) (F.B.length-i) K s31:=λp q bd h h1 h2=>by
  unfold qEu;rw[h];simp only[qAB];refine qAJ (λq1=>?_) (λq1=>?_)
  ·exact j6 _ _ bd (by rw[q1];rfl) h1 (λq2=>by rw[q1]at q2;cases q2) (.refl _)
  ·simp only[qAI,zAY,qAB,qAK h3,csG3,qAK h31,a1]
   refine qX9 XX_0 (kf:=λy=>y.1) (by omega) hL3.T (λy s J=>qYJ XX_0 y s J) λs102 k102=>?_;exact j6 _ _ (F.T.any λy=>y.1 == x.2.1) (by rw[q1];rfl) (λq2 g=>by rw[g.tv]at q2;cases q2) (λq2=>h2 q1 q2) k102
 have j4:∀(p q:AV) (bd:Bool),qAR p (.bool true) q=some (.bool bd)->(bd=true->¬BdG F x)->(bd=false->BdG F x)->qE3 XX (.ptr b3 0) vn tg (.int .i64 (i:Int)) (.ptr b29 0) (.int .i64 (i:Int)) p q (InvB F s20) (F.B.length-i) K s31:=λp q bd h h1 h2=>by
  unfold qE3;rw[h];simp only[qAB];refine qBG (λq1=>?_) λq1=>hbad (λg=>h1 q1 g.g) (.refl _) _ _ _ (by omega);rw[g11];simp only[qAB,g12];refine qAJ (λq2=>?_) (λq2=>?_)
  ·exact j5 _ _ true (by rw[q2];rfl) (λ_ g=>g.vn (g13.1 q2)) (λq=>by cases q)
  ·rw[g21]
   simp only[qAB,g22];exact j5 _ _ w2 (by rw[q2];rfl) (λq3 g=>g.tg (g23.1 q3)) (λq3 q4 q5 q6=>⟨h2 q1,λz=>(by rw[g13.2 z]at q2;cases q2),λz=>(by rw[g23.2 z]at q3;cases q3),q4,q5,q6⟩)
 have j3:∀(p q:AV) (bd:Bool),qAR p (.bool true) q=some (.bool bd)->(bd=true->¬BdG F x)->(bd=false->x.2.2.1≠0->BdG F x)->qE1 XX (.ptr b3 0) vn tg (.int .i64 (i:Int)) (.ptr b29 0) (.int .i64 (i:Int)) p q (InvB F s20) (F.B.length-i) K s31:=λp q bd h h1 h2=>by
  unfold qE1;rw[h];simp only[qAB];refine qAJ (λq1=>?_) (λq1=>?_)
  ·exact j4 _ _ bd (by rw[q1];rfl) h1 (λq2=>by rw[q1]at q2;cases q2)
  ·simp only[qAI,zAY,qAB,qAK h31,a2,qAX,qAV,Bool.false_bne]
   exact j4 _ _ (x.2.2.1 == 0) (by rw[q1];rfl) (λq2 g=>g.2.2 (by simpa using q2)) (λq2=>h2 q1 (by simpa using q2))
 have j2:∀(p q:AV) (bd:Bool),qAR p (.bool true) q=some (.bool bd)->(bd=true->¬BdG F x)->(bd=false->x.2.1<=16777215->x.2.2.1≠0->BdG F x)->qFB XX (.ptr b3 0) vn tg (.int .i64 (i:Int)) (.ptr b29 0) (.int .i64 (i:Int)) p q (InvB F s20) (F.B.length-i) K s31:=λp q bd h h1 h2=>by
  unfold qFB;rw[h];simp only[qAB];refine qAJ (λq1=>?_) (λq1=>?_)
  ·exact j3 _ _ bd (by rw[q1];rfl) h1 (λq2=>by rw[q1]at q2;cases q2)
  ·simp only[qAI,zAY,qAB,qAK h31,a1,qBO]
   exact j3 _ _ (decide (16777215<x.2.1)) (by rw[q1];rfl) (λq2 g=>by have:=oT q2;have:=g.2.1.2;omega) (λq2=>h2 q1 (by have:=oF q2;omega))
 simp only[qAI,zAY,qAB,qAK h31,a0,qAK h3,csG3,lenT];refine qDU XX_0 ?_;simp only[qAe,qAB];refine qAJ (λq1=>?_) (λq1=>?_)
 ·exact j2 _ _ true (by rw[q1];rfl) (λ_ g=>by rw[qKc.2 g.1]at q1;cases q1) (λq2=>by cases q2)
 ·have hin:inB x.1 (F.T.length:Int)=true:=by simpa using q1
  simp only[qAB,qAK h31,a1,qAP];exact j2 _ _ (decide (x.2.1<1)) (by rw[q1];rfl) (λq2 g=>by have:=oT q2;have:=g.2.1.1;omega) (λq2 q3 q4=>⟨qKc.1 hin,⟨by have:=oF q2;omega,q3⟩,q4⟩)
end Go.AM.TN
set_option maxRecDepth 100000
namespace Go.AM.TN
open Go Go.Proofs
variable {K:AV→Hq→Prop} {s s':Hq} {v k:AV} {b:Nat} {Y:Td} {F:FG} {v2 v3 v4 v5 v6 v7:AV} {t:Bool} {J:AV→Hq→Prop}
theorem zABs{l:List Int}(h:∀(j:Nat) (hj:j+1<l.length),l[j]<l[j+1]):l.Pairwise (· < ·):=by
 refine List.pairwise_iff_getElem.2 λi j hi hj hij=>?_;obtain⟨d,rfl⟩:∃d,j=i+1+d:=⟨j-i-1,by omega⟩
 induction d with
 |zero=>exact h i hj
 | succ d ih=>
   have h1:=ih (by omega) (by omega);have h2:=h (i+1+d) (by omega);have e:i+1+d+1=i+1+(d+1):=by omega
   simp only[e]at h2;omega
theorem qLA(hY:Fn0 Y){l:List Int}(hn:l.length<=4294967296)(hv:Sl s v (ix l))(hK:∀b:Bool,(b=true↔l.Pairwise (· < ·))->K (.bool b) s):wC TP Y 167 [v] K s:=by
 refine qMJ hY.fr (hY.no _ rfl) ?_;unfold qLB;refine⟨λys t m=>∃i:Nat,ys=[.int .i64 (i:Int)]/\m=l.length-i/\t=s/\1<=i/\∀(j:Nat) (hj:j+1<l.length),j+1<i->l[j]<l[j+1],⟨_,1,rfl,rfl,rfl,by omega,λj hj h=>by omega⟩,?_⟩;rintro f t m ⟨i,hy,rfl,rfl,hi,hall⟩;simp only[cI,and_true]at hy;rw[hy];have hlen:qAQ v=some l.length:=by rw[hv.len,qA3]
 simp only[qIA,hlen,qAP,qAB];refine qAJ (λhlt=>?_) (λhge=>?_)
 rotate_left
 ·have hge:l.length<=i:=by have:=oF hge;omega
  exact hK true ⟨λ_=>zABs λj hj=>hall j hj (by omega),λ_=>rfl⟩
 have hlt:i<l.length:=by have:=oT hlt;omega
 obtain⟨p1,g1,g2⟩:=hv.get (i:=i) (by rw[qA3];exact hlt);rw[qFd hlt]at g2;have hlt':i-1<l.length:=by omega
 obtain⟨p2,g3,g4⟩:=hv.get (i:=i-1) (by rw[qA3];exact hlt');rw[qFd hlt']at g4;rw[g1];simp only[qAB,g2,qDY];rw[qAb (by omega) (by omega),show((i:Int)-1)=((i-1:Nat):Int)by omega,g3];simp only[qAB,g4,qId];have e:i-1+1=i:=by omega
 refine qAJ (λq=>?_) (λq=>?_)
 ·have q:=oT q
  refine hK false ⟨λq=>(by cases q),λg=>?_⟩;have:=(List.pairwise_iff_getElem.1 g) (i-1) i hlt' hlt (by omega);omega
 ·have q:=oF q
  simp only[qAN,qAB];rw[qAb (by omega) (by omega)];refine⟨_,by omega,i+1,rfl,rfl,by trivial,by omega,λj hj h=>?_⟩
  by_cases e2:j+1<i
  ·exact hall j hj e2
  ·have:j=i-1:=by omega
   subst this;simp only[e];omega
def prt(P:List Int):List AV:=(List.range 32).map λ(n:Nat)=>AV.int .i64 ((P.count (n:Int):Nat):Int)
theorem qOz{P:List Int}:(prt P).length=32:=by unfold prt;simp
theorem qL1{P:List Int}{n:Nat}(h:n<32):(prt P)[n]?=some (.int .i64 ((P.count (n:Int):Nat):Int)):=by unfold prt;simp[h]
theorem qZB{P:List Int}{n:Nat}(h:n<32):(prt P).set n (.int .i64 ((P.count (n:Int):Nat)+1:Int))=prt (P ++ [(n:Int)]):=by
 apply List.ext_getElem?;intro i
 by_cases e:n=i
 ·subst e
  rw[List.getElem?_set_self (by rw[qOz];exact h),qL1 h,List.count_append];simp
 ·rw[List.getElem?_set_ne e]
  by_cases hi:i<32
  ·rw[qL1 hi,qL1 hi,List.count_append]
   have:List.count (i:Int) [(n:Int)]=0:=by rw[List.count_eq_zero];simp only[List.mem_singleton];omega
   rw[this,Nat.add_zero]
  ·rw[List.getElem?_eq_none (by rw[qOz];omega),List.getElem?_eq_none (by rw[qOz];omega)]
theorem qUd{n:Nat}(h:n<32):qK8 32 1 (.ptr b 0) (.int .i64 (n:Int))=some (.ptr b n):=by
 have:Nat.blt n 32=true:=by rw[Nat.blt_eq];exact h
 simp[qK8,this]
def qPr(F:FG)(x:List Int×List Int):Prop:=(x.1≠[]/\x.2≠[])/\((∀n∈x.1,0<=n/\n<F.lf)/\∀n∈x.2,0<=n/\n<(F.B.length:Int))/\x.1.Pairwise (· < ·)/\x.2.Pairwise (· < ·)
structure SegOk(F:FG):Prop where
 n:F.S.length<=64
 row:∀x∈F.S,qPr F x
 port:∀n:Int,((F.S.map (·.1)).flatten).count n<=32
abbrev InvS(F:FG)(s14:Hq)(b13:Nat):List AV->Hq->Nat->Prop:=λys t m=>∃i:Nat,ys=[.int .i64 (i:Int)]/\i<=F.S.length/\m=F.S.length-i/\qAc (λj=>j=b13) s14 t/\t b13=some (false,.cells 208 (prt ((F.S.take i).map (·.1)).flatten))/\(∀x∈F.S.take i,qPr F x)/\∀n:Int,(((F.S.take i).map (·.1)).flatten).count n<=32
abbrev InvP(F:FG)(s14:Hq)(b13:Nat)(P l:List Int):List AV->Hq->Nat->Prop:=λys t m=>∃k:Nat,ys=[.int .i64 (k:Int)]/\k<=l.length/\m=l.length-k/\qAc (λj=>j=b13) s14 t/\t b13=some (false,.cells 208 (prt (P++l.take k)))/\∀n:Int,(P++l.take k).count n<=32
theorem sin1{x0:Int}{cb:Nat}(hc:s cb=some (t,.cells 31 (csG F v2 v3 v4 v5 v6 v7)))(hJ:∀s',Sub s s'->J (.bool (!inB x0 F.lf)) s'):funK TP XX (.fn (.func 165) [] [.ptr cb 0]) [.int .i64 x0] J s:=by refine qVa (by kernel_rfl) (qLM XX_0.fr (XX_0.no _ rfl) ?_);unfold qJz;simp only[qAI,zAY,qAB,qAK hc,csG0];refine qDU XX_0 ?_;simp only[qAe,qAB];exact hJ s (.refl _)
theorem sin2{x0:Int}{cb:Nat}(hc:s cb=some (t,.cells 31 (csG F v2 v3 v4 v5 v6 v7)))(hB:qAQ v4=some F.B.length)(hJ:∀s',Sub s s'->J (.bool (!inB x0 (F.B.length:Int))) s'):funK TP XX (.fn (.func 166) [] [.ptr cb 0]) [.int .i64 x0] J s:=by refine qVa (by kernel_rfl) (qLC XX_0.fr (XX_0.no _ rfl) ?_);unfold qJg;simp only[qAI,zAY,qAB,qAK hc,csG4,hB];refine qDU XX_0 ?_;simp only[qAe,qAB];exact hJ s (.refl _)
theorem qO2{l:List Int}{n:Int}:l.any (λx=>!inB x n)=false↔∀x∈l,0<=x/\x<n:=by
 rw[List.any_eq_false];refine⟨λh x hx=>?_,λh x hx=>?_⟩
 ·have:=h x hx
  exact qKc.1 (by simpa using this)
 ·rw[qKc.2 (h x hx)];simp
end Go.AM.TN
set_option maxRecDepth 100000
namespace Go.AM.TN
open Go Go.Proofs
variable {K:AV→Hq→Prop} {s:Hq} {c:Nat} {F:FG} {v2 v3 v4 v5 v6 v7:AV} {t:Bool} {J:AV→Hq→Prop}
theorem qTV{α β:Type}{f:α->List β}{S:List α}{i:Nat}{x:α}(hx:S[i]?=some x):(S.map f).flatten=((S.take i).map f).flatten++(f x++((S.drop (i+1)).map f).flatten):=by
 obtain⟨hi,e⟩:=gS hx;have h1:S=S.take i++x::S.drop (i+1):=by rw[<- e,List.getElem_cons_drop,List.take_append_drop]
 conv=>lhs;rw[h1]
 simp
theorem qP5{α β:Type}{f:α->List β}{S:List α}{i:Nat}{x:α}(hx:S[i]?=some x):((S.take (i+1)).map f).flatten=((S.take i).map f).flatten++f x:=by rw[List.take_add_one,hx];simp
theorem qQp(hF:FabOk F)(hB:F.B.length<=32)(hn:F.S.length<=4294967296)(hnn:∀x∈F.S,x.1.length<=4294967296/\x.2.length<=4294967296)(hc:s c=some (t,.cells 159 (csG F v2 v3 v4 v5 v6 v7)))(hL:FL s F v2 v3 v4 v5 v6 v7)(hK:Kok s (SegOk F) K)(hR:Rbad s (SegOk F) NoR):wC TP XX 124 [.ptr c 0] K s:=by
 refine qM1 (qKa rfl hc hL λb3 s5 h5 k5=>?_);have hL5:=hL.sub k5;have hlen:qAQ v5=some F.S.length:=hL5.S.len;have lenB:qAQ v4=some F.B.length:=by rw[hL.B.len,lM]
 simp only[qAI,zAY,qAB,qAK h5,csG5,hlen,qBO];refine qBG (λq=>?_) λq=>hR (λg=>by have:=oT q;have:=g.n;omega) _ _ _ s5 (by omega) k5;have hn64:F.S.length<=64:=by have:=oF q;omega
 refine qAM λb13 s14 hb13 h13 u13=>?_;have h13:s14 b13=some (false,.cells 208 (prt [])):=h13;have k14:=u13.sub hb13;simp only[qAK (k14 _ _ h5),csG5,qAB,hlen];have sub5:∀{t:Hq},qAc (λj=>j=b13) s14 t->Sub s5 t:=fun {t} kp i e hi=>kp i e (k14 i e hi) (qFG hb13 hi);refine⟨InvS F s14 b13,⟨_,0,rfl,by omega,rfl,.refl _ _,h13,by simp,by simp⟩,?_⟩;rintro f t m ⟨i,hy,hi,rfl,kp,hprt,hall,hcnt⟩;simp only[cI,and_true]at hy;rw[hy];simp only[qJB,qAP,qAB];refine qAJ (λhlt=>?_) (λhge=>?_)
 rotate_left
 ·have hge:i=F.S.length:=by have:=oF hge;omega
  subst hge;rw[List.take_length]at hall hcnt;exact hK ⟨hn64,hall,hcnt⟩ t (k5.trans (sub5 kp))
 have hlt:i<F.S.length:=by have:=oT hlt;omega
 have hx:F.S[i]?=some F.S[i]:=gE hlt;have hxm:F.S[i]∈F.S:=List.getElem_mem hlt;generalize F.S[i]=x at hx hxm;have hxn:=hnn x hxm;obtain⟨pb,po,l1,l2,e1,e2,_,_,q1,q2⟩:=(hL5.S.sub (sub5 kp)).at hx;rw[e1];simp only[qAB,e2];refine qAM λb22 s23 hb22 h23 u23=>qAT h23 rfl rfl (by simp[q1.one,q2.one]) λs24 h24 u24=>?_;have k24:Sub t s24:=qAW (u23.sub hb22) u24 hb22;have kp24:qAc (λj=>j=b13) s14 s24:=kp.trans k24.keep;have kall:Sub s s24:=k5.trans (sub5 kp24);have a0:[l1,l2][0]?=some l1:=rfl;have a1:[l1,l2][1]?=some l2:=rfl;have n1:qAQ l1=some x.1.length:=by rw[q1.len,qA3]
 have n2:qAQ l2=some x.2.length:=by rw[q2.len,qA3]
 have h3:=sub5 kp24 _ _ h5;have hp24:=k24 _ _ hprt;have hbad:∀{s2:Hq},¬qPr F x->Sub s24 s2->∀(e:Int) (p:ByteArray) (i:Int),e≠0->NoR (flV e p i) s2:=fun {s2} q k2 e p i he=>hR (λg=>q (g.row _ hxm)) e p i s2 he (kall.trans k2);have j3:∀(p q:AV) (bd:Bool),qAR p (.bool true) q=some (.bool bd)->(bd=true->¬qPr F x)->(bd=false->qPr F x)->∀{s2:Hq},Sub s24 s2->qEQ XX (.ptr b13 0) (.int .i64 (i:Int)) (.ptr b22 0) (.int .i64 (i:Int)) p q (InvS F s14 b13) (F.S.length-i) K s2:=λp q bd h h1 h2 {s2} k2=>by
  unfold qEQ;rw[h];simp only[qAB];refine qBG (λe=>?_) λe=>hbad (h1 e) k2 _ _ _ (by omega);have row:=h2 e;simp only[qAI,zAY,qAB,qAK (k2 _ _ h24),a0,n1];refine⟨InvP F s14 b13 ((F.S.take i).map (·.1)).flatten x.1,⟨_,0,rfl,by omega,rfl,kp24.trans k2.keep,by rw[List.take_zero,List.append_nil];exact k2 _ _ hp24,by rw[List.take_zero,List.append_nil];exact hcnt⟩,?_⟩;rintro f t2 m ⟨kk,hy,hk,rfl,kp2,hp2,hc2⟩;simp only[cI,and_true]at hy;rw[hy];simp only[qJF,qAP,qAB];refine qAJ (λhl=>?_) (λhg=>?_)
  rotate_left
  ·have hg:kk=x.1.length:=by have:=oF hg;omega
   subst hg;rw[List.take_length]at hp2 hc2;simp only[qAN,qAB];rw[qAb (by omega) (by omega)];refine⟨_,by omega,i+1,rfl,by omega,rfl,kp2,by rw[qP5 hx];exact hp2,λz hz=>?_,by rw[qP5 hx];exact hc2⟩;rw[List.take_add_one,hx]at hz;rcases mP hz with hz|hz
   ·exact hall z hz
   ·simp only[Option.toList_some,List.mem_singleton]at hz
    rw[hz];exact row
  have hl:kk<x.1.length:=by have:=oT hl;omega
  have hq1:Sl t2 l1 (ix x.1):=by
   obtain⟨pb',po',l1',l2',e1',e2',_,_,q1',_⟩:=(hL5.S.sub (sub5 kp2)).at hx;obtain⟨vs,w1,w2,w3⟩:=hL5.S;have hi':i<vs.length:=by rw[w2];exact hlt
   have hq:vs[i]?=some vs[i]:=gE hi';obtain⟨pb1,po1,x1,x2,_⟩:=(w1.sub (sub5 kp)).get (i:=i) (r:=[vs[i].1,vs[i].2]) (by rw[List.getElem?_map,hq];rfl);rw[e1]at x1;cases Option.some.inj x1;rw[e2]at x2;simp only[Option.some.injEq,cI,and_true]at x2;have:=(w3 i _ x hq hx).1;rw[<- x2.1]at this;exact this.sub (sub5 kp2)
  obtain⟨pp,g1,g2⟩:=hq1.get (i:=kk) (by rw[qA3];exact hl);rw[qFd hl]at g2;obtain⟨r1,r2⟩:=row.2.1.1 _ (List.getElem_mem hl);have hlf:=hF.lf;obtain⟨n,hn'⟩:∃n:Nat,x.1[kk]=(n:Int):=⟨x.1[kk].toNat,by omega⟩
  have hn32:n<32:=by omega
  rw[hn']at g2;rw[g1];simp only[qAB,g2,qUd hn32,qAK hp2,qL1 hn32,qAN];have hcn:=hc2 (n:Int);rw[qAb (by omega) (by omega)];refine qBF hp2 (by rw[qOz];exact hn32) rfl λs59 h59 u59=>?_;rw[qZB hn32]at h59;have et:(((F.S.take i).map (·.1)).flatten++x.1.take kk) ++ [(n:Int)]=((F.S.take i).map (·.1)).flatten++x.1.take (kk+1):=by rw[List.append_assoc,List.take_add_one,gE hl,hn'];rfl
  rw[et]at h59;simp only[qAK h59,qL1 hn32,qAB,qBO];have kp59:qAc (λj=>j=b13) s14 s59:=kp2.trans (u59.keep rfl);refine qBG (λe2=>?_) λe2=>hR (λg=>?_) _ _ _ s59 (by omega) (k5.trans (sub5 kp59))
  ·have e2:=oF e2
   rw[qAb (by omega) (by omega)];refine⟨_,by omega,kk+1,rfl,by omega,rfl,kp59,h59,λn'=>?_⟩
   by_cases en:n'=(n:Int)
   ·rw[en]
    omega
   ·rw[<- et,List.count_append]
    have:List.count n' [(n:Int)]=0:=by rw[List.count_eq_zero];simp only[List.mem_singleton];exact en
    rw[this,Nat.add_zero];exact hc2 n'
  ·have e2:=oT e2
   have:=g.port (n:Int);rw[qTV (f:=λ(z:List Int×List Int)=>z.1) hx]at this;have e3:x.1=x.1.take (kk+1)++x.1.drop (kk+1):=(List.take_append_drop _ _).symm;have e4:List.count (n:Int) x.1=List.count (n:Int) (x.1.take (kk+1))+List.count (n:Int) (x.1.drop (kk+1)):=by
    conv=>lhs;rw[e3]
    rw[List.count_append]
   rw[List.count_append]at e2;simp only[List.count_append]at this;omega
 have j2:∀(p q:AV) (bd:Bool),qAR p (.bool true) q=some (.bool bd)->(bd=true->¬qPr F x)->(bd=false->x.1.Pairwise (· < ·)->x.2.Pairwise (· < ·)->qPr F x)->∀{s2:Hq},Sub s24 s2->qES XX (.ptr b13 0) (.int .i64 (i:Int)) (.ptr b22 0) (.int .i64 (i:Int)) p q (InvS F s14 b13) (F.S.length-i) K s2:=λp q bd h h1 h2 {s2} k2=>by
  unfold qES;rw[h];simp only[qAB];refine qBG (λe=>?_) λe=>hbad (h1 e) k2 _ _ _ (by omega);simp only[qAI,zAY,qAB,qAK (k2 _ _ h24),a0];refine qLA XX_0 hxn.1 (q1.sub (k24.trans k2)) λb1 hb1=>?_;simp only[qAe,qAB];refine qAJ (λe1=>?_) (λe1=>?_)
  ·exact j3 _ _ true (by rw[e1];rfl) (λ_ g=>by rw[hb1.2 g.2.2.1]at e1;cases e1) (λq=>by cases q) k2
  ·simp only[qAK (k2 _ _ h24),a1,qAB]
   refine qLA XX_0 hxn.2 (q2.sub (k24.trans k2)) λb2 hb2=>?_;simp only[qAe,qAB];exact j3 _ _ (!b2) (by rw[e1];rfl) (λe2 g=>by rw[hb2.2 g.2.2.2]at e2;cases e2) (λe2=>h2 e (hb1.1 (by simpa using e1)) (hb2.1 (by simpa using e2))) k2
 have j1:∀(p q:AV) (bd:Bool),qAR p (.bool true) q=some (.bool bd)->(bd=true->¬qPr F x)->(bd=false->x.1≠[]/\x.2≠[])->qEP XX (.ptr b3 0) (.ptr b13 0) (.int .i64 (i:Int)) (.ptr b22 0) (.int .i64 (i:Int)) p q (InvS F s14 b13) (F.S.length-i) K s24:=λp q bd h h1 h2=>by
  unfold qEP;rw[h];simp only[qAB];refine qBG (λe=>?_) λe=>hbad (h1 e) (.refl _) _ _ _ (by omega);simp only[qAI,zAY,qAB,qAK h24,a0];refine qIH XX_0 (p:=λn=>!inB n F.lf) hxn.1 (q1.sub k24) (λz sA J kA hJ=>sin1 (kA _ _ h3) hJ) λs36 k36=>?_;refine qAJ (λe1=>?_) (λe1=>?_)
  ·exact j2 _ _ true (by rw[e1];rfl) (λ_ g=>by have:=qO2.2 g.2.1.1;rw[this]at e1;cases e1) (λq=>by cases q) k36
  ·simp only[qAK (k36 _ _ h24),a1,qAB]
   refine qIH XX_0 (p:=λn=>!inB n (F.B.length:Int)) hxn.2 (q2.sub (k24.trans k36)) (λz sA J kA hJ=>sin2 (kA _ _ (k36 _ _ h3)) lenB hJ) λs75 k75=>?_;exact j2 _ _ (x.2.any λn=>!inB n (F.B.length:Int)) (by rw[e1];rfl) (λe2 g=>by have:=qO2.2 g.2.1.2;rw[this]at e2;cases e2) (λe2 p1 p2=>⟨h2 e,⟨qO2.1 e1,qO2.1 e2⟩,p1,p2⟩) (k36.trans k75)
 simp only[qAI,zAY,qAB,qAK h24,a0,n1,qAX,qAV,Bool.false_bne];have em:∀{l:List Int},(((l.length:Nat):Int) == 0)=true↔l=[]:=fun {l}=>by
  rw[beq_iff_eq];constructor
  ·intro h
   exact List.length_eq_zero_iff.1 (by omega)
  ·rintro rfl;rfl
 refine qAJ (λe=>?_) (λe=>?_)
 ·exact j1 _ _ true (by rw[e];rfl) (λ_ g=>g.1.1 (em.1 e)) (λq=>by cases q)
 ·simp only[a1,qAB,n2]
  exact j1 _ _ (((x.2.length:Nat):Int) == 0) (by rw[e];rfl) (λq g=>g.1.2 (em.1 q)) (λq=>⟨λz=>(by rw[em.2 z]at e;cases e),λz=>(by rw[em.2 z]at q;cases q)⟩)
end Go.AM.TN
set_option maxRecDepth 100000
namespace Go.AM.TN
open Go Go.Proofs
variable {K:AV→Hq→Prop} {s s':Hq} {v y:AV} {b:Nat} {Y:Td} {t:Bool}
theorem qXE(hY:Fn0 Y){l:List Int}{n:Int}(hn:l.length<=4294967296)(hv:Sl s v (ix l))(hK:K (.int .i64 (fstI (λx=>n == x) l)) s):wC TP Y 101 [v,.int .i64 n] K s:=by
 refine qHu hY.fr (hY.no _ rfl) ?_;unfold qFL;have hlen:qAQ v=some l.length:=by rw[hv.len,qA3]
 rw[hlen];simp only[qAB];refine⟨λys t m=>∃i:Nat,ys=[.int .i64 (i:Int)]/\i<=l.length/\m=l.length-i/\t=s/\∀j z,j<i->l[j]?=some z->(n == z)=false,⟨_,0,rfl,by omega,rfl,rfl,λj z hj=>by omega⟩,?_⟩;rintro f t m ⟨i,hy,hi,rfl,rfl,hall⟩;simp only[cI,and_true]at hy;rw[hy];simp only[qD8,qAP,qAB];refine qAJ (λhlt=>?_) (λhge=>?_)
 rotate_left
 ·have hge:i=l.length:=by have:=oF hge;omega
  subst hge;rw[qIK λj z hz=>hall j z (gS hz).1 hz]at hK;exact hK
 have hlt:i<l.length:=by have:=oT hlt;omega
 obtain⟨pp,g1,g2⟩:=hv.get (i:=i) (by rw[qA3];exact hlt);rw[qFd hlt]at g2;have hx:l[i]?=some l[i]:=gE hlt;generalize l[i]=x at hx g2;rw[g1];simp only[qAB,g2,qAX,qAV,Bool.false_bne];refine qAJ (λq=>?_) (λq=>?_)
 ·rw[qKC hx q hall]at hK
  exact hK
 ·simp only[qAN,qAB]
  rw[qAb (by omega) (by omega)];refine⟨_,by omega,i+1,rfl,by omega,rfl,by trivial,λj z hj hz=>?_⟩
  by_cases e:j<i
  ·exact hall j z e hz
  ·have:j=i:=by omega
   subst this;rw[hx]at hz;cases hz;exact q
theorem qFh(hY:Fn0 Y){l:List Int}{n:Int}(hn:l.length<=4294967296)(hv:Sl s v (ix l))(hK:K (.bool (decide (n∈l))) s):wC TP Y 72 [v,.int .i64 n] K s:=by
 refine qGS hY.fr (hY.no _ rfl) ?_;unfold qEA;refine qXE hY hn hv ?_;simp only[qBV,qAB,qMn];have:l.any (λx=>n == x)=decide (n∈l):=by
  by_cases h:n∈l
  ·rw[decide_eq_true h]
   exact List.any_eq_true.2 ⟨n,h,by simp⟩
  ·rw[decide_eq_false h,List.any_eq_false]
   intro x hx;simp only[beq_iff_eq];rintro rfl;exact h hx
 rw[this];exact hK
def andL(x y:Int):Int:=qBq .u64 ((BitVec.ofInt 64 x &&& BitVec.ofInt 64 y).toNat:Nat)
theorem qSc{x y:Int}:qAG .and (.int .u64 x) (.int .u64 y)=some (.int .u64 (andL x y)):=by simp only[qAG,arith,qCO,qCy,cond_true];rfl
theorem zACF{x:Int}:qGn .shr (.int .u64 x) (.int .u64 40)=some (.int .u64 (x.fdiv 1099511627776)):=by show frc (x.fdiv ((2^(min 40 (IntKind.bits .u64)):Nat):Int)) (λn=>some (AV.int .u64 n))=_;rw[qCO];rfl
def qNG(m:Int):Bool:=decide (m<=281474976710655)&&(andL (m.fdiv 1099511627776) 1 != 0)
theorem qIb(hY:Fn0 Y){m:Int}(hK:K (.bool (qNG m)) s):wC TP Y 21 [.int .u64 m] K s:=by
 refine qI2 hY.fr (hY.no _ rfl) ?_;unfold qGp;unfold qNG at hK;simp only[qId,qAB];refine qAJ (λe=>?_) (λe=>?_)
 ·rw[zACF]
  simp only[qAB,qSc,qAX,qAV,Bool.true_bne];rw[e]at hK ⊢;exact hK
 ·rw[e]at hK ⊢
  exact hK
def qJJ(m:Int):Bool:=!(decide (m<2199023255552)||decide (2199023255584<=m))
theorem qVh(hY:Fn0 Y){m:Int}(hK:∀r,K (.tup [.int .i64 r,.bool (qJJ m)]) s):wC TP Y 171 [.int .u64 m] K s:=by
 refine qID hY.fr (hY.no _ rfl) ?_;unfold qF2;unfold qJJ at hK;simp only[qAP,qAB];have j0:∀(p q:AV) (bd:Bool),qAR p (.bool true) q=some (.bool bd)->(decide (m<2199023255552)||decide (2199023255584<=m))=bd->qCQ Y (.int .u64 m) p q K s:=λp q bd h he=>by
  unfold qCQ;rw[h];rw[he]at hK;simp only[qAB];refine qAJ (λe=>?_) (λe=>?_)
  ·rw[e]at hK;exact hK 0
  ·rw[e]at hK
   simp only[qDY,qAB];exact hK _
 refine qAJ (λe=>?_) (λe=>?_)
 ·exact j0 _ _ true (by rw[e];rfl) (by rw[e];rfl)
 ·simp only[qBV,qAB]
  exact j0 _ _ (decide (2199023255584<=m)) (by rw[e];rfl) (by rw[e];rfl)
def qRI(d:BG)(ip:Int):Bool:=(ip == 0)||((d.2.2.2.2.2 != 0)&&(ip != d.2.2.2.2.2)&&qKJ d.2.2.2.1 d.2.2.2.2.1 ip)
theorem qPf(hY:Fn0 Y){d:BG}{ip:Int}(hd:d.2.2.2.2.2≠0->-1000<=d.2.2.2.2.1/\d.2.2.2.2.1<=32)(hK:∀s',Sub s s'->K (.bool (qRI d ip)) s'):wC TP Y 172 [.agg (bgC d),.int .u32 ip] K s:=by
 refine qLo hY.fr (hY.no _ rfl) ⟨rfl,qAM λb s1 hb h1 u1=>?_⟩;have h1:s1 b=some (false,.cells 69 (bgC d)):=h1;have k1:=u1.sub hb;have d5:(bgC d)[5]?=some (.int .u32 d.2.2.2.2.2):=rfl;have rd:rdN s1 2 (.ptr b 3)=some (pfC d.2.2.2.1 d.2.2.2.2.1):=by simp only[rdN,h1];rfl
 have hk:=λs' (q:Sub s1 s')=>hK s' (k1.trans q);unfold qRI at hk;simp only[qAX,qAV,Bool.false_bne,qAB];refine qAJ (λe=>?_) (λe=>?_)
 ·have:=hk s1 (.refl _)
  rw[e]at this;exact this
 ·rw[e]at hk
  simp only[qAI,zAY,qAB,qAK h1,d5,qAX,qAV,Bool.true_bne];have j0:∀(p q:AV) (ok:Bool),qAR p q (.bool false)=some (.bool ok)->((d.2.2.2.2.2 != 0)&&(ip != d.2.2.2.2.2))=ok->(ok=true->d.2.2.2.2.2≠0)->qDz Y (.int .u32 ip) (.ptr b 0) p q K s1:=λp q ok h he h0=>by
   unfold qDz;rw[h];rw[he]at hk;simp only[qAB];refine qAJ (λe2=>?_) (λe2=>?_)
   ·simp only[qAI,zAY,qAB,rd]
    refine qRv hY (hd (h0 e2)) λs11 k11=>?_;have:=hk s11 k11;rw[e2]at this;rw[e2];exact this
   ·have:=hk s1 (.refl _)
    rw[e2]at this;rw[e2];exact this
  have en:(!(d.2.2.2.2.2 == 0))=(d.2.2.2.2.2 != 0):=rfl;rw[en];refine qAJ (λe2=>?_) (λe2=>?_)
  ·exact j0 _ _ (!(ip == d.2.2.2.2.2)) (by rw[e2];rfl) (by rw[e2];rfl) (λ_=>by simpa using e2)
  ·exact j0 _ _ false (by rw[e2];rfl) (by rw[e2];rfl) (λq=>by cases q)
theorem qTC{α β γ:Type}{f:α->β}{g:α->γ}{l:List α}{x:α}(h:∀y∈l,f x=f y↔g x=g y):f x∈l.map f↔g x∈l.map g:=by simp only[List.mem_map];exact⟨λ⟨a,h1,h2⟩=>⟨a,h1,((h a h1).1 h2.symm).symm⟩,λ⟨a,h1,h2⟩=>⟨a,h1,((h a h1).2 h2.symm).symm⟩⟩
theorem w64u{n:Int}(h:0<=n/\n<4294967296):qBq .u64 n=n:=by simp only[qBq];rw[qHU _ _ _ (by omega) (by omega)];split<;>omega
end Go.AM.TN
set_option maxRecDepth 100000
namespace Go.AM.TN
open Go Go.Proofs
variable {K:AV→Hq→Prop} {s s':Hq} {v y k:AV} {b c:Nat} {F:FG} {v2 v3 v4 v5 v6 v7:AV} {t:Bool} {J:AV→Hq→Prop}
theorem qQk{p:AV}(h:rd1 s p=some v)(k:Sub s s'):rd1 s' p=some v:=by
 cases p<;>try (simp[rd1]at h;done)
 rename_i b o;obtain⟨t,e,l,h1,h2⟩:=qUq h;rw[qAK (k _ _ h1)];exact h2
structure HoRow(F:FG)(i:Nat)(x:R4):Prop where
 m:x.1≠0/\x.1<=281474976710655/\qNG x.1=false
 r:(0<=x.2.2.1/\x.2.2.1<(F.B.length:Int))/\(-1<=x.2.2.2/\x.2.2.2<=(F.S.length:Int)-1)
 s:x.2.2.2≠-1->∀y,F.S[x.2.2.2.toNat]?=some y->x.2.2.1∈y.2
 a:(x.1≠1577058561/\qJJ x.1=false)/\∀d,F.B[x.2.2.1.toNat]?=some d->qRI d x.2.1=true
 dm:(x.2.2.1,x.1) ∉ (F.H.take i).map λy=>(y.2.2.1,y.1)
 di:x.2.1≠0->(x.2.2.1,x.2.1) ∉ (F.H.take i).map λy=>(y.2.2.1,y.2.1)
structure HosOk(F:FG):Prop where
 n:F.H.length<=128
 row:∀(i:Nat) x,F.H[i]?=some x->HoRow F i x
abbrev InvH(F:FG)(s20:Hq):List AV->Hq->Nat->Prop:=λys t m=>∃i:Nat,ys=[.int .i64 (i:Int)]/\i<=F.H.length/\m=F.H.length-i/\Sub s20 t/\∀(j:Nat) x,j<i->F.H[j]?=some x->HoRow F j x
theorem qWw(hD:DomOk F)(hS:F.S.length<=64)(hn:F.H.length<=4294967296)(hnn:∀x∈F.S,x.1.length<=4294967296/\x.2.length<=4294967296)(hip:∀x∈F.H,0<=x.2.1/\x.2.1<4294967296)(hc:s c=some (t,.cells 159 (csG F v2 v3 v4 v5 v6 v7)))(hL:FL s F v2 v3 v4 v5 v6 v7)(hK:Kok s (HosOk F) K)(hR:Rbad s (HosOk F) NoR):wC TP XX 125 [.ptr c 0] K s:=by
 refine qRQ (qKa rfl hc hL λb3 s5 h5 k5=>?_);have hL5:=hL.sub k5;have hlen:qAQ v6=some F.H.length:=by rw[hL5.H.len,lM]
 have lenB:qAQ v4=some F.B.length:=by rw[hL5.B.len,lM]
 have lenS:qAQ v5=some F.S.length:=hL5.S.len;simp only[qAI,zAY,qAB,qAK h5,csG6,hlen,qBO];refine qBG (λq=>?_) λq=>hR (λg=>by have:=oT q;have:=g.n;omega) _ _ _ s5 (by omega) k5;have hn128:F.H.length<=128:=by have:=oF q;omega
 simp only[qAK h5,csG6,qAB];refine qYV XX_0 (rows:=F.H) (rowC:=hgC) (λ_=>rfl) (λ_=>rfl) (kf:=λx=>[.int .i64 x.2.2.1,.int .u64 x.1]) zAAZ (λx=>⟨_,_,rfl⟩) (λ_=>rfl) (λ_=>rfl) (λx s J=>zAAW XX_0 x s J) hL5.H (by omega) λs16 ma k16 repm=>?_;have h16:=k16 _ _ h5;simp only[qAK h16,csG6,qAB];refine qYV XX_0 (rows:=F.H) (rowC:=hgC) (λ_=>rfl) (λ_=>rfl) (kf:=λx=>[.int .i64 x.2.2.1,.int .u64 (qBq .u64 x.2.1)]) zAAZ (λx=>⟨_,_,rfl⟩) (λ_=>rfl) (λ_=>rfl) (λx s J=>zAA6 XX_0 x s J) (hL5.H.sub k16) (by omega) λs20 ia k20 repi=>?_;have h20:=k20 _ _ h16;have k520:Sub s5 s20:=k16.trans k20;simp only[qAK h20,csG6,qAB,hlen];have him:∀x y:R4,(AV.agg [.int .i64 x.2.2.1,.int .u64 x.1]=AV.agg [.int .i64 y.2.2.1,.int .u64 y.1])↔(x.2.2.1,x.1)=(y.2.2.1,y.1):=λx y=>by simp
 refine⟨InvH F s20,⟨_,0,rfl,by omega,rfl,.refl _,λj x hj=>by omega⟩,?_⟩;rintro f t m ⟨i,hy,hi,rfl,kt,hall⟩;simp only[cI,and_true]at hy;rw[hy];simp only[qMd,qAP,qAB];refine qAJ (λhlt=>?_) (λhge=>?_)
 rotate_left
 ·have hge:i=F.H.length:=by have:=oF hge;omega
  subst hge;exact hK ⟨hn128,λj x hx=>hall j x (gS hx).1 hx⟩ t (k5.trans (k520.trans kt))
 have hlt:i<F.H.length:=by have:=oT hlt;omega
 have hx:F.H[i]?=some F.H[i]:=gE hlt;have hxm:F.H[i]∈F.H:=List.getElem_mem hlt;generalize F.H[i]=x at hx hxm;have hxi:=hip x hxm;obtain⟨pb,po,e1,e2,_⟩:=(hL5.H.sub (k520.trans kt)).get (i:=i) (r:=hgC x) (by rw[List.getElem?_map,hx];rfl);rw[e1];simp only[qAB,e2];refine qAM λb28 s29 hb28 h29 u29=>qAT h29 rfl rfl rfl λs30 h30 u30=>?_;have k30:Sub t s30:=qAW (u29.sub hb28) u30 hb28;have kall:Sub s s30:=k5.trans (k520.trans (kt.trans k30));have h3:s30 b3=some (false,.cells 31 (csG F v2 v3 v4 v5 v6 v7)):=k30 _ _ (kt _ _ h20);have hL3:FL s30 F v2 v3 v4 v5 v6 v7:=hL.sub kall;have a0:(hgC x)[0]?=some (.int .u64 x.1):=rfl;have a1:(hgC x)[1]?=some (.int .u32 x.2.1):=rfl;have a2:(hgC x)[2]?=some (.int .i64 x.2.2.1):=rfl;have a3:(hgC x)[3]?=some (.int .i64 x.2.2.2):=rfl;obtain⟨p1,w1,g11,g12,g13⟩:=(repm.sub (k20.trans (kt.trans k30))).at (j:=i) (k:=.agg [.int .i64 x.2.2.1,.int .u64 x.1]) (by rw[List.getElem?_map,hx];rfl);obtain⟨p2,w2,g21,g22,g23⟩:=(repi.sub (kt.trans k30)).at (j:=i) (k:=.agg [.int .i64 x.2.2.1,.int .u64 (qBq .u64 x.2.1)]) (by rw[List.getElem?_map,hx];rfl);rw[<- List.map_take,qDh him]at g13;rw[<- List.map_take,qTC (f:=λx:R4=>AV.agg [.int .i64 x.2.2.1,.int .u64 (qBq .u64 x.2.1)]) (g:=λy:R4=>(y.2.2.1,y.2.1)) (λy hy=>by have:=hip y (List.mem_of_mem_take hy);simp only[AV.agg.injEq,cI,AV.int.injEq,true_and,and_true,w64u hxi,w64u this,Prod.mk.injEq])]at g23
 have next:HoRow F i x->∀{s2:Hq},Sub s30 s2->∃m',m'<F.H.length-i/\InvH F s20 [.int .i64 ((i:Int)+1)] s2 m':=λok {s2} k2=>by
  refine⟨_,by omega,i+1,rfl,by omega,rfl,kt.trans (k30.trans k2),λj z hj hz=>?_⟩
  by_cases e:j<i
  ·exact hall j z e hz
  ·have:j=i:=by omega
   subst this;rw[hx]at hz;cases hz;exact ok
 have hbad:∀{s2:Hq},¬HoRow F i x->Sub s30 s2->∀(e:Int) (p:ByteArray) (i:Int),e≠0->NoR (flV e p i) s2:=fun {s2} q k2 e p i he=>hR (λg=>q (g.row _ x hx)) e p i s2 he (kall.trans k2);have j7:∀(p r:AV) (bd:Bool),(oK (qAR p r (.bool false)) λv=>oK (qAR (.bool w1) (.bool true) v) λv=>v=.bool bd)->(bd=true->¬HoRow F i x)->(bd=false->HoRow F i x)->∀{s2:Hq},Sub s30 s2->qHQ XX (.int .i64 (i:Int)) (.int .i64 (i:Int)) (.bool w1) p r (InvH F s20) (F.H.length-i) K s2:=λp r bd h h1 h2 {s2} k2=>by unfold qHQ;obtain⟨z1,z2,h⟩:=qAf h;obtain⟨z3,z4,h⟩:=qAf h;rw[z2];simp only[qAB,z4,h];refine qBG (λq=>?_) λq=>hbad (h1 q) k2 _ _ _ (by omega);simp only[qAN,qAB];rw[qAb (by omega) (by omega)];exact next (h2 q) k2
 have j6:∀(p q:AV) (bd:Bool),qAR p (.bool true) q=some (.bool bd)->(bd=true->¬HoRow F i x)->(bd=false->(x.2.2.1,x.1) ∉ ((F.H.take i).map λy=>(y.2.2.1,y.1))->(x.2.1≠0->(x.2.2.1,x.2.1) ∉ (F.H.take i).map λy=>(y.2.2.1,y.2.1))->HoRow F i x)->∀{s2:Hq},Sub s30 s2->qG3 XX ma ia (.int .i64 (i:Int)) (.ptr b28 0) (.int .i64 (i:Int)) p q (InvH F s20) (F.H.length-i) K s2:=λp q bd h h1 h2 {s2} k2=>by
  unfold qG3;rw[h];simp only[qAB];refine qBG (λq1=>?_) λq1=>hbad (h1 q1) k2 _ _ _ (by omega);have g12':=qQk g12 k2;have g22':=qQk g22 k2;rw[g11];simp only[qAB,g12'];refine qAJ (λq2=>?_) (λq2=>?_)
  ·subst q2
   refine qAA (a:=.bool true) rfl ?_;refine qBG (λq=>by cases q) λq=>hbad (λg=>g.dm (g13.1 rfl)) k2 _ _ _ (by omega)
  ·subst q2
   have hdm:(x.2.2.1,x.1) ∉ ((F.H.take i).map λy=>(y.2.2.1,y.1)):=λz=>by cases g13.2 z
   simp only[qAI,zAY,qAB,qAK (k2 _ _ h30),a1,qAX,qAV,Bool.true_bne];refine qAJ (λq3=>?_) (λq3=>?_)
   ·rw[g21]
    simp only[qAB,g22',q3];have hne:x.2.1≠0:=by simpa using q3
    exact j7 _ _ w2 (by cases w2<;>exact qAA (a:=.bool _) rfl (qAA (a:=.bool _) rfl rfl)) (λq4 g=>g.di hne (g23.1 q4)) (λq4=>h2 q1 hdm λ_ z=>by rw[g23.2 z]at q4;cases q4) k2
   ·rw[q3]
    have he:x.2.1=0:=by simpa using q3
    exact j7 _ _ false (qAA (a:=.bool false) rfl (qAA (a:=.bool false) rfl rfl)) (λq4=>by cases q4) (λq4=>h2 q1 hdm λz=>absurd he z) k2
 have j5:∀(p q:AV) (bd:Bool),qAR p (.bool true) q=some (.bool bd)->(bd=true->¬HoRow F i x)->(bd=false->(∀d,F.B[x.2.2.1.toNat]?=some d->qRI d x.2.1=true)->(x.2.2.1,x.1) ∉ ((F.H.take i).map λy=>(y.2.2.1,y.1))->(x.2.1≠0->(x.2.2.1,x.2.1) ∉ (F.H.take i).map λy=>(y.2.2.1,y.2.1))->HoRow F i x)->(0<=x.2.2.1/\x.2.2.1<(F.B.length:Int))->∀{s2:Hq},Sub s30 s2->qG9 XX (.ptr b3 0) ma ia (.int .i64 (i:Int)) (.ptr b28 0) (.int .i64 (i:Int)) p q (InvH F s20) (F.H.length-i) K s2:=λp q bd h h1 h2 hr {s2} k2=>by
  unfold qG9;rw[h];simp only[qAB];refine qAJ (λq1=>?_) (λq1=>?_)
  ·exact j6 _ _ true (by rw[q1];rfl) (λ_=>h1 q1) (λq2=>by cases q2) k2
  ·have hb:x.2.2.1.toNat<F.B.length:=by omega
   have hd:F.B[x.2.2.1.toNat]?=some F.B[x.2.2.1.toNat]:=gE hb;generalize F.B[x.2.2.1.toNat]=d at hd;obtain⟨pb,po,f1,f2,_⟩:=(hL3.B.sub k2).get (i:=x.2.2.1.toNat) (r:=bgC d) (by rw[List.getElem?_map,hd];rfl);rw[show((x.2.2.1.toNat:Nat):Int)=x.2.2.1 by omega]at f1;simp only[qAI,zAY,qAB,qAK (k2 _ _ h3),csG4,qAK (k2 _ _ h30),a2,f1,f2,a1];refine qPf XX_0 (λq3=>?_) λs94 k94=>?_
   ·have:=((hD.row _ d hd).s.2 q3).2.1
    omega
   ·simp only[qAe,qAB]
    exact j6 _ _ (!qRI d x.2.1) (by rw[q1];rfl) (λq2 g=>by rw[g.a.2 d hd]at q2;cases q2) (λq2=>h2 q1 λd' hd'=>by rw[hd]at hd';cases hd';simpa using q2) (k2.trans k94)
 have j4:∀(p q:AV) (ok:Bool),qAR p q (.bool false)=some (.bool ok)->(ok=true->¬HoRow F i x)->(ok=false->(x.1≠1577058561/\qJJ x.1=false)->(∀d,F.B[x.2.2.1.toNat]?=some d->qRI d x.2.1=true)->(x.2.2.1,x.1) ∉ ((F.H.take i).map λy=>(y.2.2.1,y.1))->(x.2.1≠0->(x.2.2.1,x.2.1) ∉ (F.H.take i).map λy=>(y.2.2.1,y.2.1))->HoRow F i x)->(0<=x.2.2.1/\x.2.2.1<(F.B.length:Int))->∀{s2:Hq},Sub s30 s2->qHX XX (.ptr b3 0) ma ia (.int .i64 (i:Int)) (.ptr b28 0) (.int .i64 (i:Int)) p q (InvH F s20) (F.H.length-i) K s2:=λp q ok h h1 h2 hr {s2} k2=>by
  unfold qHX;rw[h];simp only[qAB];refine qBG (λq1=>?_) λq1=>hbad (h1 q1) k2 _ _ _ (by omega);simp only[qAI,zAY,qAB,qAK (k2 _ _ h30),a0];refine qVh XX_0 λr=>?_;refine qAA (a:=.int .i64 r) rfl (qAA (a:=.bool (qJJ x.1)) rfl ?_);simp only[qAB,qAK (k2 _ _ h30),a0,qAX,qAV,Bool.false_bne];refine qAJ (λq2=>?_) (λq2=>?_)
  ·rw[q2]
   exact j5 _ _ true rfl (λ_ g=>g.a.1.1 (by simpa using q2)) (λq=>by cases q) hr k2
  ·rw[q2]
   exact j5 _ _ (qJJ x.1) rfl (λq3 g=>by rw[g.a.1.2]at q3;cases q3) (λq3=>h2 q1 ⟨by simpa using q2,q3⟩) hr k2
 have j3:∀(p q:AV) (bd:Bool),qAR p (.bool true) q=some (.bool bd)->(bd=true->¬HoRow F i x)->(bd=false->((0<=x.2.2.1/\x.2.2.1<(F.B.length:Int))/\(-1<=x.2.2.2/\x.2.2.2<=(F.S.length:Int)-1))/\((x.2.2.2≠-1->∀y,F.S[x.2.2.2.toNat]?=some y->x.2.2.1∈y.2)->(x.1≠1577058561/\qJJ x.1=false)->(∀d,F.B[x.2.2.1.toNat]?=some d->qRI d x.2.1=true)->(x.2.2.1,x.1) ∉ ((F.H.take i).map λy=>(y.2.2.1,y.1))->(x.2.1≠0->(x.2.2.1,x.2.1) ∉ (F.H.take i).map λy=>(y.2.2.1,y.2.1))->HoRow F i x))->∀{s2:Hq},Sub s30 s2->qGw XX (.ptr b3 0) ma ia (.int .i64 (i:Int)) (.ptr b28 0) (.int .i64 (i:Int)) p q (InvH F s20) (F.H.length-i) K s2:=λp q bd h h1 h2 {s2} k2=>by
  unfold qGw;rw[h];simp only[qAB];refine qBG (λq1=>?_) λq1=>hbad (h1 q1) k2 _ _ _ (by omega);obtain⟨⟨r1,r2⟩,ok⟩:=h2 q1;simp only[qAI,zAY,qAB,qAK (k2 _ _ h30),a3,qAX,qAV,Bool.true_bne];refine qAJ (λq2=>?_) (λq2=>?_)
  ·have hne:x.2.2.2≠-1:=by simpa using q2
   have hb:x.2.2.2.toNat<F.S.length:=by omega
   have hy:F.S[x.2.2.2.toNat]?=some F.S[x.2.2.2.toNat]:=gE hb;have hym:F.S[x.2.2.2.toNat]∈F.S:=List.getElem_mem hb;generalize F.S[x.2.2.2.toNat]=y at hy hym;obtain⟨pb,po,l1,l2,f1,_,_,f4,_,f5⟩:=(hL3.S.sub k2).at hy;rw[show((x.2.2.2.toNat:Nat):Int)=x.2.2.2 by omega]at f1;simp only[qAI,qAB,qAK (k2 _ _ h3),csG5,f1,f4,a2];refine qFh XX_0 (hnn y hym).2 f5 ?_;simp only[qAe,qAB];rw[q2];exact j4 _ _ (!decide (x.2.2.1∈y.2)) rfl (λq3 g=>by have:=g.s hne y hy;simp[this]at q3) (λq3=>ok λ_ y' hy'=>by rw[hy]at hy';cases hy';simpa using q3) r1 k2
  ·rw[q2]
   have he:x.2.2.2=-1:=by simpa using q2
   exact j4 _ _ false rfl (λq3=>by cases q3) (λ_=>ok λz=>absurd he z) r1 k2
 have j2:∀(p q:AV) (bd:Bool),qAR p (.bool true) q=some (.bool bd)->(bd=true->¬HoRow F i x)->(bd=false->x.1≠0/\x.1<=281474976710655/\qNG x.1=false)->qHH XX (.ptr b3 0) ma ia (.int .i64 (i:Int)) (.ptr b28 0) (.int .i64 (i:Int)) p q (InvH F s20) (F.H.length-i) K s30:=λp q bd h h1 h2=>by
  unfold qHH;rw[h];simp only[qAB];refine qBG (λq1=>?_) λq1=>hbad (h1 q1) (.refl _) _ _ _ (by omega);have gm:=h2 q1;simp only[qAI,zAY,qAB,qAK h30,a2,qAK h3,csG4,lenB];refine qDU XX_0 ?_;simp only[qAe,qAB];refine qAJ (λq2=>?_) (λq2=>?_)
  ·exact j3 _ _ true (by rw[q2];rfl) (λ_ g=>by rw[qKc.2 g.r.1]at q2;cases q2) (λq3=>by cases q3) (.refl _)
  ·have hin:inB x.2.2.1 (F.B.length:Int)=true:=by simpa using q2
   simp only[qAB,qAK h30,a3,qAK h3,csG5,lenS,qDY];rw[qAb (by omega) (by omega)];refine qB0 XX_0 ?_;exact j3 _ _ (outB x.2.2.2 (-1) ((F.S.length:Int)-1)) (by rw[q2];rfl) (λq3 g=>by have:=qCT.2 g.r.2;rw[this]at q3;cases q3) (λq3=>⟨⟨qKc.1 hin,qCT.1 q3⟩,λz1 z2 z3 z4 z5=>⟨gm,⟨qKc.1 hin,qCT.1 q3⟩,z1,⟨z2,z3⟩,z4,z5⟩⟩) (.refl _)
 have j1:∀(p q:AV) (bd:Bool),qAR p (.bool true) q=some (.bool bd)->(bd=true->¬HoRow F i x)->(bd=false->x.1≠0/\x.1<=281474976710655)->qGv XX (.ptr b3 0) ma ia (.int .i64 (i:Int)) (.ptr b28 0) (.int .i64 (i:Int)) p q (InvH F s20) (F.H.length-i) K s30:=λp q bd h h1 h2=>by
  unfold qGv;rw[h];simp only[qAB];refine qAJ (λq1=>?_) (λq1=>?_)
  ·exact j2 _ _ true (by rw[q1];rfl) (λ_=>h1 q1) (λq2=>by cases q2)
  ·simp only[qAI,zAY,qAB,qAK h30,a0]
   refine qIb XX_0 ?_;exact j2 _ _ (qNG x.1) (by rw[q1];rfl) (λq2 g=>by rw[g.m.2.2]at q2;cases q2) (λq2=>⟨(h2 q1).1,(h2 q1).2,q2⟩)
 simp only[qAI,zAY,qAB,qAK h30,a0,qAX,qAV,Bool.false_bne];refine qAJ (λq1=>?_) (λq1=>?_)
 ·exact j1 _ _ true (by rw[q1];rfl) (λ_ g=>g.m.1 (by simpa using q1)) (λq2=>by cases q2)
 ·simp only[qAB,qBO]
  exact j1 _ _ (decide (281474976710655<x.1)) (by rw[q1];rfl) (λq2 g=>by have:=oT q2;have:=g.m.2.1;omega) (λq2=>⟨by simpa using q1,by have:=oF q2;omega⟩)
end Go.AM.TN
set_option maxRecDepth 100000
namespace Go.AM.TN
open Go Go.Proofs
variable {K:AV→Hq→Prop} {s:Hq} {y k:AV} {b c:Nat} {F:FG} {v2 v3 v4 v5 v6 v7:AV} {t:Bool} {J:AV→Hq→Prop}
structure LeRow(F:FG)(i:Nat)(x:R4):Prop where
 r:(0<=x.1/\x.1<(F.T.length:Int))/\(0<=x.2.1/\x.2.1<(F.T.length:Int))
 p:x.1≠x.2.1/\qGZ x.2.2.1 x.2.2.2=true
 d:x ∉ F.G.take i
structure LeaOk(F:FG):Prop where
 n:F.G.length<=256
 row:∀(i:Nat) x,F.G[i]?=some x->LeRow F i x
abbrev InvG(F:FG)(s16:Hq):List AV->Hq->Nat->Prop:=λys t m=>∃i:Nat,ys=[.int .i64 (i:Int)]/\i<=F.G.length/\m=F.G.length-i/\Sub s16 t/\∀(j:Nat) x,j<i->F.G[j]?=some x->LeRow F j x
theorem qXy(hn:F.G.length<=4294967296)(hc:s c=some (t,.cells 159 (csG F v2 v3 v4 v5 v6 v7)))(hL:FL s F v2 v3 v4 v5 v6 v7)(hK:Kok s (LeaOk F) K)(hR:Rbad s (LeaOk F) NoR):wC TP XX 126 [.ptr c 0] K s:=by
 refine qQw (qKa rfl hc hL λb3 s5 h5 k5=>?_);have hL5:=(hL.sub k5).G;have hlen:qAQ v7=some F.G.length:=by rw[hL5.len,lM]
 have lenT:qAQ v3=some F.T.length:=by rw[hL.T.len,lM]
 simp only[qAI,zAY,qAB,qAK h5,csG7,hlen,qBO];refine qBG (λq=>?_) λq=>hR (λg=>by have:=oT q;have:=g.n;omega) _ _ _ s5 (by omega) k5;have hn256:F.G.length<=256:=by have:=oF q;omega
 simp only[qAK h5,csG7,qAB];refine zABh XX_0 (rows:=F.G) (rowC:=ggC) (λ_=>rfl) (λ_=>rfl) (kf:=λx=>ggC x) zACG (λx=>⟨_,rfl⟩) (λ_=>rfl) (λ_=>rfl) (λx s J=>zAAe XX_0 x s J) hL5 (by omega) λs16 again k16 rep=>?_;have h16:=k16 _ _ h5;simp only[qAK h16,csG7,qAB,hlen];have hinj:∀x y:R4,(AV.agg (ggC x)=AV.agg (ggC y))↔x=y:=λx y=>by obtain⟨a,b,c,d⟩:=x;obtain⟨a',b',c',d'⟩:=y;simp[ggC]
 refine⟨InvG F s16,⟨_,0,rfl,by omega,rfl,.refl _,λj x hj=>by omega⟩,?_⟩;rintro f t m ⟨i,hy,hi,rfl,kt,hall⟩;simp only[cI,and_true]at hy;rw[hy];simp only[qL3,qAP,qAB];refine qAJ (λhlt=>?_) (λhge=>?_)
 rotate_left
 ·have hge:i=F.G.length:=by have:=oF hge;omega
  subst hge;exact hK ⟨hn256,λj x hx=>hall j x (gS hx).1 hx⟩ t (k5.trans (k16.trans kt))
 have hlt:i<F.G.length:=by have:=oT hlt;omega
 have hx:F.G[i]?=some F.G[i]:=gE hlt;generalize F.G[i]=x at hx;obtain⟨pb,po,e1,e2,_⟩:=(hL5.sub (k16.trans kt)).get (i:=i) (r:=ggC x) (by rw[List.getElem?_map,hx];rfl);rw[e1];simp only[qAB,e2];refine qAM λb24 s25 hb24 h25 u25=>qAT h25 rfl rfl rfl λs26 h26 u26=>?_;have k26:Sub t s26:=qAW (u25.sub hb24) u26 hb24;have h3:s26 b3=some (false,.cells 31 (csG F v2 v3 v4 v5 v6 v7)):=k26 _ _ (kt _ _ h16);have kall:Sub s s26:=k5.trans (k16.trans (kt.trans k26));have a0:(ggC x)[0]?=some (.int .i64 x.1):=rfl;have a1:(ggC x)[1]?=some (.int .i64 x.2.1):=rfl;have rx:∀{s2:Hq},Sub s26 s2->rdN s2 2 (.ptr b24 2)=some (pfC x.2.2.1 x.2.2.2):=fun {s2} q=>by simp only[rdN,q _ _ h26];rfl
 obtain⟨p1,w1,g1,g2,g3⟩:=(rep.sub (kt.trans k26)).at (j:=i) (k:=.agg (ggC x)) (by rw[List.getElem?_map,hx];rfl);rw[<- List.map_take,qDh (g:=λx=>x) hinj,List.map_id']at g3;have hbad:∀{s2:Hq},¬LeRow F i x->Sub s26 s2->∀(e:Int) (p:ByteArray) (i:Int),e≠0->NoR (flV e p i) s2:=fun {s2} q k2 e p i he=>hR (λg=>q (g.row _ x hx)) e p i s2 he (kall.trans k2);have j2:∀(p q:AV) (bd:Bool),qAR p (.bool true) q=some (.bool bd)->(bd=true->¬LeRow F i x)->(bd=false->x ∉ F.G.take i->LeRow F i x)->∀{s2:Hq},Sub s26 s2->qHP XX again (.int .i64 (i:Int)) (.int .i64 (i:Int)) p q (InvG F s16) (F.G.length-i) K s2:=λp q bd h h1 h2 {s2} k2=>by
  unfold qHP;rw[h];simp only[qAB];refine qBG (λq1=>?_) λq1=>hbad (h1 q1) k2 _ _ _ (by omega);have g2':=qQk g2 k2;rw[g1];simp only[qAB,g2'];refine qBG (λq2=>?_) λq2=>hbad (λg=>g.d (g3.1 q2)) k2 _ _ _ (by omega);simp only[qAN,qAB];rw[qAb (by omega) (by omega)];refine⟨_,by omega,i+1,rfl,by omega,rfl,kt.trans (k26.trans k2),λj z hj hz=>?_⟩
  by_cases e:j<i
  ·exact hall j z e hz
  ·have:j=i:=by omega
   subst this;rw[hx]at hz;cases hz;exact h2 q1 λq3=>by rw[g3.2 q3]at q2;cases q2
 have j1:∀(p q:AV) (bd:Bool),qAR p (.bool true) q=some (.bool bd)->(bd=true->¬LeRow F i x)->(bd=false->(0<=x.1/\x.1<(F.T.length:Int))/\(0<=x.2.1/\x.2.1<(F.T.length:Int)))->qHJ XX again (.int .i64 (i:Int)) (.ptr b24 0) (.int .i64 (i:Int)) p q (InvG F s16) (F.G.length-i) K s26:=λp q bd h h1 h2=>by
  unfold qHJ;rw[h];simp only[qAB];refine qBG (λq1=>?_) λq1=>hbad (h1 q1) (.refl _) _ _ _ (by omega);simp only[qAI,zAY,qAB,qAK h26,a0,a1,qAX,qAV,Bool.false_bne];refine qAJ (λq2=>?_) (λq2=>?_)
  ·exact j2 _ _ true (by rw[q2];rfl) (λ_ g=>g.p.1 (by simpa using q2)) (λq=>by cases q) (.refl _)
  ·rw[rx (.refl _)]
   simp only[qAB];refine qRd XX_0 λs55 k55=>?_;simp only[qAe,qAB];exact j2 _ _ (!qGZ x.2.2.1 x.2.2.2) (by rw[q2];rfl) (λq3 g=>by rw[g.p.2]at q3;cases q3) (λq3 z=>⟨h2 q1,⟨by simpa using q2,by simpa using q3⟩,z⟩) k55
 simp only[qAI,zAY,qAB,qAK h26,a0,qAK h3,csG3,lenT];refine qDU XX_0 ?_;simp only[qAe,qAB];refine qAJ (λq1=>?_) (λq1=>?_)
 ·exact j1 _ _ true (by rw[q1];rfl) (λ_ g=>by rw[qKc.2 g.r.1]at q1;cases q1) (λq2=>by cases q2)
 ·have hin:inB x.1 (F.T.length:Int)=true:=by simpa using q1
  simp only[qAB,qAK h26,a1,qAK h3,csG3,lenT];refine qDU XX_0 ?_;simp only[qAe,qAB];exact j1 _ _ (!inB x.2.1 (F.T.length:Int)) (by rw[q1];rfl) (λq2 g=>by rw[qKc.2 g.r.2]at q2;cases q2) (λq2=>⟨qKc.1 hin,qKc.1 (by simpa using q2)⟩)
end Go.AM.TN
set_option maxRecDepth 100000
namespace Go.AM.TN
open Go Go.Proofs
variable {K:AV→Hq→Prop} {s s':Hq} {b c:Nat} {cs:List AV} {Y:Td} {F:FG} {v2 v3 v4 v5 v6 v7:AV} {t:Bool}
structure Sz(F:FG):Prop where
 L:F.L.length<=4294967296
 T:F.T.length<=4294967296
 B:F.B.length<=4294967296
 S:F.S.length<=4294967296
 H:F.H.length<=4294967296
 G:F.G.length<=4294967296
 N:∀x∈F.S,x.1.length<=4294967296/\x.2.length<=4294967296
 I:∀x∈F.H,0<=x.2.1/\x.2.1<4294967296
def VS(F:FG):Nat->Prop
 | 0=>FabOk F
 | 1=>TimOk F
 | 2=>LinksOk F
 | 3=>TenOk F
 | 4=>DomOk F
 | 5=>SegOk F
 | 6=>HosOk F
 | 7=>LeaOk F
 |_=>True
def Valid(F:FG):Prop:=∀i,i<8->VS F i
theorem qZz(z:Sz F){i:Nat}(hi:i<8)(hall:∀j,j<i->VS F j)(hc:s c=some (t,.cells 159 (csG F v2 v3 v4 v5 v6 v7)))(hL:FL s F v2 v3 v4 v5 v6 v7)(hK:Kok s (VS F i) K)(hR:Rbad s (VS F i) NoR):wC TP XX (119+i) [.ptr c 0] K s:=by
 match i,hi with
 | 0,_=>exact qTv hc hL hK hR
 | 1,_=>exact qUJ hc hK hR
 | 2,_=>exact qXH (hall 0 (by omega)) z.L hc hL hK hR
 | 3,_=>exact qS2 z.T hc hL hK hR
 | 4,_=>exact qTW (show TenOk F from hall 3 (by omega)).n z.B hc hL hK hR
 | 5,_=>exact qQp (hall 0 (by omega)) (show DomOk F from hall 4 (by omega)).n z.S z.N hc hL hK hR
 | 6,_=>exact qWw (hall 4 (by omega)) (show SegOk F from hall 5 (by omega)).n z.H z.N z.I hc hL hK hR
 | 7,_=>exact qXy z.G hc hL hK hR
 |n+8,h=>omega
theorem qY1{f:FuncId}{args:List AV}(h2:isFn TP f=true)(h:wC TP XX f args K s):funK TP XX (.fn (.func f) [] []) args K s:=qKF h2 h
def chk:List AV:=[.fn (.func 119) [] [],.fn (.func 120) [] [],.fn (.func 121) [] [],.fn (.func 122) [] [],.fn (.func 123) [] [],.fn (.func 124) [] [],.fn (.func 125) [] [],.fn (.func 126) [] []]
theorem qZl{i:Nat}(h:i<8):chk[i]?=some (.fn (.func (119+i)) [] [])/\isFn TP (119+i)=true:=by
 match i,h with
 | 0,_=>exact⟨rfl,by kernel_rfl⟩
 | 1,_=>exact⟨rfl,by kernel_rfl⟩
 | 2,_=>exact⟨rfl,by kernel_rfl⟩
 | 3,_=>exact⟨rfl,by kernel_rfl⟩
 | 4,_=>exact⟨rfl,by kernel_rfl⟩
 | 5,_=>exact⟨rfl,by kernel_rfl⟩
 | 6,_=>exact⟨rfl,by kernel_rfl⟩
 | 7,_=>exact⟨rfl,by kernel_rfl⟩
 |n+8,h=>omega
theorem qVM(hY:Fn0 Y)(hK:∀b s',s b=none->s' b=some (false,.cells 162 chk)->Sub s s'->K (.slc b 0 8 (some 8) 1) s'):wC TP Y 98 [] K s:=by refine qPs hY.fr (hY.no _ rfl) ?_;unfold qPa;refine qAA (a:=chk) rfl ⟨rfl,qAM λb s2 hb h2 u2=>?_⟩;exact hK b s2 hb h2 (u2.sub hb)
theorem qN9(hv0:Valid F)(z:Sz F)(hF:FabR s cs F)(h1:Valid F->∀s',Sub s s'->K (.tup [.int .i64 0,.str ⟨#[]⟩,.int .i64 0]) s')(h2:¬Valid F->∀(e:Int) (p:ByteArray) (i:Int) s',e≠0->Sub s s'->K (.tup [.int .i64 e,.str p,.int .i64 i]) s'):wC TP XX 70 [.agg cs] K s:=by
 obtain⟨v2,v3,v4,v5,v6,v7,rfl,hL⟩:=hF;refine qQo ⟨hL.all,qAM λb0 s1 hb0 q0 u0=>qAM λb2 s3 hb2 q2 u2=>qAM λb4 s5 hb4 q4 u4=>qAM λb6 s7 hb6 q6 u6=>⟨by show isFn TP 97=true;kernel_rfl,?_⟩⟩;have q0:s1 b0=some (false,.cells 31 (csG F v2 v3 v4 v5 v6 v7)):=q0;have k1:=u0.sub hb0;have k3:=u2.sub hb2;have k5:=u4.sub hb4;have k7:=u6.sub hb6;have q0':=k7 _ _ (k5 _ _ (k3 _ _ q0));refine qAA (qAU q0' rfl) (qAA (a:=csG F v2 v3 v4 v5 v6 v7) rfl ⟨hL.all,qAM λb10 s11 hb10 q10 u10=>?_⟩);have q10:s11 b10=some (false,.cells 159 (csG F v2 v3 v4 v5 v6 v7)):=q10;have k11:=u10.sub hb10;refine qVM XX_0 λb12 s13 hb12 q12 k13=>qAA (a:=8) rfl ?_;have m2:s13 b2=some (false,.cells 132 [.int .i64 0]):=k13 _ _ (k11 _ _ (k7 _ _ (k5 _ _ q2)));have m4:s13 b4=some (false,.cells 9 [.str ⟨#[]⟩]):=k13 _ _ (k11 _ _ (k7 _ _ q4));have m6:s13 b6=some (false,.cells 3 [.int .i64 0]):=k13 _ _ (k11 _ _ q6);have m10:=k13 _ _ q10;have kk:Sub s s13:=k1.trans (k3.trans (k5.trans (k7.trans (k11.trans k13))));have n2:s b2=none:=by
  cases e:s b2 with
  |none=>rfl
  |some x=>rw[k1 _ _ e]at hb2;cases hb2
 have n4:s b4=none:=by
  cases e:s b4 with
  |none=>rfl
  |some x=>rw[k3 _ _ (k1 _ _ e)]at hb4;cases hb4
 have n6:s b6=none:=by
  cases e:s b6 with
  |none=>rfl
  |some x=>rw[k5 _ _ (k3 _ _ (k1 _ _ e))]at hb6;cases hb6
 have d24:b2≠b4:=λe=>by rw[<- e,q2]at hb4;cases hb4
 have d26:b2≠b6:=λe=>by rw[<- e,k5 _ _ q2]at hb6;cases hb6
 have d46:b4≠b6:=λe=>by rw[<- e,q4]at hb6;cases hb6
 refine⟨λys t m=>∃i:Nat,ys=[.int .i64 (i:Int)]/\i<=8/\m=8-i/\Sub s13 t,⟨_,0,rfl,by omega,rfl,.refl _⟩,?_⟩;rintro f t m ⟨i,hy,hi,rfl,kt⟩;simp only[cI,and_true]at hy;rw[hy];simp only[qL8,qAP,qAB];refine qAJ (λhlt=>?_) (λhge=>?_)
 ·have hlt:i<8:=by have:=oT hlt;omega
  obtain⟨g1,g3⟩:=qZl hlt;have e1:qAY 1 (.slc b12 0 8 (some 8) 1) (.int .i64 (i:Int))=some (.ptr b12 i):=by
   have:Nat.blt i 8=true:=by rw[Nat.blt_eq];exact hlt
   simp[qAY,this]
  rw[e1];simp only[qAB,qAK (kt _ _ q12),g1];refine qY1 g3 (qZz z hlt (λj hj=>hv0 j (by omega)) (kt _ _ m10) (hL.sub (kk.trans kt)) (λ_ s20 k20=>?_) (λhv=>absurd (hv0 i hlt) hv));simp only[qAN,qAB];rw[qAb (by omega) (by omega)];exact⟨_,by omega,i+1,rfl,by omega,rfl,kt.trans k20⟩
 ·refine qBF (kt _ _ m2) (by simp) rfl λs3 h3 u3=>?_
  refine qBF (by rw[u3 _ (Ne.symm d24)];exact kt _ _ m4) (by simp) rfl λs4 h4 u4=>?_;refine qBF (by rw[u4 _ (Ne.symm d46),u3 _ (Ne.symm d26)];exact kt _ _ m6) (by simp) rfl λs5 h5 u5=>?_;have k5':Sub s s5:=qAW (qAW (qAW (kk.trans kt) u3 n2) u4 n4) u5 n6;have h2':s5 b2=some (false,.cells 132 [.int .i64 0]):=by rw[u5 _ d26,u4 _ d24];exact h3
  have h4':s5 b4=some (false,.cells 9 [.str ⟨#[]⟩]):=by rw[u5 _ d46];exact h4
  refine qNA (K:=λ_ s_31=>oK (rd1 s_31 (.ptr b2 0)) λerr2_32=>oK (rd1 s_31 (.ptr b4 0)) λpart3_33=>oK (rd1 s_31 (.ptr b6 0)) λindex4_34=>K (.tup [err2_32,part3_33,index4_34]) s_31) ?_;unfold qNf;refine qAA (a:=.bool true) rfl ?_;simp only[qAL];refine qAA (a:=.int .i64 0) (by rw[qAK h2'];rfl) (qAA (a:=.str ⟨#[]⟩) (by rw[qAK h4'];rfl) (qAA (a:=.int .i64 0) (by rw[qAK h5];rfl) ?_));exact h1 hv0 s5 k5'
end Go.AM.TN
set_option maxRecDepth 100000
namespace Go.AM.TN
open Go Go.Proofs
variable {s:Hq} {cs:List AV}
theorem qMr{α β γ:Type}{f:Nat->α->β}{g:β->γ}{l:List α}:(l.mapIdx f).map g=l.mapIdx λi x=>g (f i x):=by apply List.ext_getElem?;intro i;simp only[List.getElem?_map,List.getElem?_mapIdx,Option.map_map];rfl
def ni(l:List Nat):List Int:=l.map λ(n:Nat)=>(n:Int)
theorem zACQ{l:List Nat}:ix (ni l)=iz l:=by unfold ix ni iz;simp
def tgN(i:Nat):Int×Int:=(100+(i:Int),900+(i:Int))
def bgN(i:Nat)(x:Bd):BG:=((x.1:Int),10+(i:Int),500+(i:Int),subN i x.2,lenN x.2,gwN i x.2)
def hgN(i:Nat)(x:Hst):R4:=(2199023951872+(i:Int),ipN i x,(x.1:Int),sgN x)
def ggN(x:Lkg):R4:=((x.1:Int),(x.2.1:Int),pfN x.2.2,plN x.2.2)
def NFab.toG(F:NFab):FG:=⟨F.x.lf,F.x.sp,F.x.el,F.x.hz,F.x.ro,F.x.su,F.x.tr,F.x.de,9,F.x.ag,20,5,30,F.L,(List.range F.n).map tgN,F.B.mapIdx bgN,F.S.map λx=>(ni x.1,ni x.2),F.H.mapIdx hgN,F.G.map ggN⟩
theorem NFR.fab{F:NFab}(h:NFR s cs F):FabR s cs F.toG:=by
 obtain⟨v2,v3,v4,v5,v6,v7,rfl,h2,h3,h4,h5,h6,h7⟩:=h.ex;refine⟨v2,v3,v4,v5,v6,v7,rfl,⟨h2,?_,?_,?_,?_,?_⟩⟩
 ·show SlR 2 s v3 (((List.range F.n).map tgN).map tgC)
  rw[List.map_map];exact h3
 ·show SlR 6 s v4 ((F.B.mapIdx bgN).map bgC)
  rw[qMr];exact h4
 ·obtain⟨vs,a1,a2,a3⟩:=h5
  refine⟨vs,a1,by show vs.length=(F.S.map _).length;rw[a2,lM],λi q x hq hx=>?_⟩;have hx:(F.S.map λx=>(ni x.1,ni x.2))[i]?=some x:=hx;rw[List.getElem?_map]at hx;cases e:F.S[i]? with
  |none=>rw[e]at hx;cases hx
  | some y=>
    rw[e]at hx;cases hx;obtain⟨b1,b2⟩:=a3 i q y hq e;simp only[zACQ];exact⟨b1,b2⟩
 ·show SlR 4 s v6 ((F.H.mapIdx hgN).map hgC)
  rw[qMr];exact h6
 ·show SlR 4 s v7 ((F.G.map ggN).map ggC)
  rw[List.map_map];exact h7
theorem qUI{l:List Nat}{x:Int}:x∈ni l↔∃n∈l,(n:Int)=x:=by unfold ni;simp
theorem qUc{l:List Nat}(h:l.Pairwise (· < ·)):(ni l).Pairwise (· < ·):=by unfold ni;rw[List.pairwise_map];exact h.imp λh=>by omega
theorem qVo:∀i:Nat,i<4->qGZ (167772160+(i:Int)*65536) 24=true/\qGZ (167772160+(i:Int)*65536) 16=true/\qKJ (167772160+(i:Int)*65536) 24 (167772160+(i:Int)*65536+1)=true:=by decide +kernel
theorem zABA:∀i:Nat,i<4->∀j:Nat,j<i->qCe (167772160+(i:Int)*65536) 24 (167772160+(j:Int)*65536)=false/\qCe (167772160+(j:Int)*65536) 24 (167772160+(i:Int)*65536)=false:=by decide +kernel
theorem zAAU:∀j:Nat,j<4->∀i:Nat,i<8->qKJ (167772160+(j:Int)*65536) 24 (167772160+(j:Int)*65536+(10+(i:Int)))=true:=by decide +kernel
theorem zACa:∀i:Nat,i<8->qNG (2199023951872+(i:Int))=false:=by decide +kernel
theorem qZJ:qGZ 0 0=true:=by decide +kernel
theorem qFR{α β:Type}{f:Nat->α->β}{l:List α}{i:Nat}{y:β}(h:y∈(l.mapIdx f).take i):∃j x,j<i/\l[j]?=some x/\y=f j x:=by obtain⟨j,hj,e⟩:=List.getElem_of_mem h;rw[List.length_take,List.length_mapIdx]at hj;rw[List.getElem_take,List.getElem_mapIdx]at e;exact⟨j,l[j],by omega,gE (by omega),e.symm⟩
theorem qJv{α β:Type}{f:Nat->α->β}{l:List α}{i:Nat}{y:β}(h:(l.mapIdx f)[i]?=some y):∃x,l[i]?=some x/\y=f i x:=by
 rw[List.getElem?_mapIdx]at h;cases e:l[i]? with
 |none=>rw[e]at h;cases h
 |some x=>rw[e]at h;cases h;exact⟨x,rfl,rfl⟩
theorem qNo{α:Type}{f:α->List Int}{n:Int}:∀{l:List α},(∀x∈l,(f x).Nodup)->((l.map f).flatten).count n<=l.length
 |[],_=>by simp
 | x::l,h=>by
   have ih:=qNo (n:=n) (λy hy=>h y (mO _ hy));have h1:(f x).count n<=1:=List.nodup_iff_count.1 (h x List.mem_cons_self) n;simp only[List.map_cons,List.flatten_cons,List.count_append,List.length_cons];omega
theorem NFok.valid{F:NFab}(h:NFok F):Valid F.toG:=by
 have hx:=h.x;intro i hi
 match i,hi with
 | 0,_=>
   have:=hx.lf;have:=hx.sp;have:=hx.el;have:=hx.hz;have:=hx.ro;exact⟨by show 1<=(F.x.lf:Int)/\(F.x.lf:Int)<=32;omega,by show 0<=(F.x.sp:Int)/\(F.x.sp:Int)<=32;omega,by show(F.x.lf:Int)+F.x.sp<=32;omega,by show 0<=(F.x.el:Int)/\(F.x.el:Int)<=2;omega,by show 0<=(F.x.hz:Int)/\(F.x.hz:Int)<=1;omega,by show 0<=(F.x.ro:Int)/\(F.x.ro:Int)<=1;omega⟩
 | 1,_=>
   have:=hx.de;have:=hx.ag;exact⟨by show 1<=(F.x.de:Int)/\(F.x.de:Int)<=100;omega,by show(3:Int)<=9/\(9:Int)<=1000;omega,by show 1<=(F.x.ag:Int)/\(F.x.ag:Int)<=10000;omega,by show(0:Int)<=20/\(20:Int)<=1000;omega,by show(1:Int)<=5/\(5:Int)<=100;omega,by show(1:Int)<=30/\(30:Int)<=10000;omega⟩
 | 2,_=>
   refine⟨Nat.le_trans h.Ln (by omega),λi x hi=>⟨?_,?_⟩⟩
   ·have hi:F.L[i]?=some x:=hi
    obtain⟨a,b,c⟩:=h.L.2 x (mG hi);exact⟨a,⟨b.1,by have:=b.2;show x.2.1<(F.x.lf:Int)+F.x.sp;omega⟩,c.1,by omega⟩
   ·have hi:F.L[i]?=some x:=hi
    show(x.1,x.2.1) ∉ (F.L.take i).map λx=>(x.1,x.2.1)
    rw[List.map_take];exact qNU h.L.1 i _ (by rw[List.getElem?_map,hi];rfl)
 | 3,_=>
   have hn:=h.n;have at_:∀(i:Nat) x,((List.range F.n).map tgN)[i]?=some x->i<F.n/\x=tgN i:=λi x hi=>by
    rw[List.getElem?_map]at hi
    by_cases e:i<F.n
    ·rw[List.getElem?_range e]at hi;cases hi;exact⟨e,rfl⟩
    ·rw[List.getElem?_eq_none (by simpa using e)]at hi;cases hi
   have tk:∀(i:Nat) y,y∈((List.range F.n).map tgN).take i->∃j,j<i/\y=tgN j:=λi y hy=>by obtain⟨j,hj,e⟩:=List.getElem_of_mem hy;rw[List.length_take]at hj;rw[List.getElem_take]at e;refine⟨j,by omega,?_⟩;rw[<- e];simp
   refine⟨by show((List.range F.n).map tgN).length<=16;simp;omega,λi x hi=>?_⟩;obtain⟨a,rfl⟩:=at_ i x hi;refine⟨⟨by show(1:Int)<=100+(i:Int);omega,by show(100:Int)+(i:Int)<=16777215;omega,by show(900:Int)+(i:Int)≠0;omega⟩,?_,?_⟩
   ·intro hm
    obtain⟨y,hy,e⟩:=List.mem_map.1 hm;obtain⟨j,hj,rfl⟩:=tk i y hy;have e:(100:Int)+(j:Int)=100+(i:Int):=e;omega
   ·intro hm
    obtain⟨y,hy,e⟩:=List.mem_map.1 hm;obtain⟨j,hj,rfl⟩:=tk i y hy;have e:(900:Int)+(j:Int)=900+(i:Int):=e;omega
 | 4,_=>
   have hB:=h.Bn;have hT:∀y∈(List.range F.n).map tgN,∃j:Nat,y=tgN j:=λy hy=>by obtain⟨j,_,e⟩:=List.mem_map.1 hy;exact⟨j,e.symm⟩
   refine⟨by show(F.B.mapIdx bgN).length<=32;simp;omega,λi y hi=>?_⟩;have hi:(F.B.mapIdx bgN)[i]?=some y:=hi;obtain⟨x,hx,rfl⟩:=qJv hi;have hi4:i<4:=by have:=(gS hx).1;omega
   have hxn:=h.B x (mG hx);refine⟨⟨⟨by show(0:Int)<=(x.1:Int);omega,by show(x.1:Int)<(((List.range F.n).map tgN).length:Int);simp;exact hxn⟩,⟨by show(1:Int)<=10+(i:Int);omega,by show 10+(i:Int)<=16777215;omega⟩,by show 500+(i:Int)≠0;omega⟩,?_,?_,?_,?_,?_⟩
   ·intro hm
    obtain⟨y,hy,e⟩:=List.mem_map.1 hm;obtain⟨j,x',hj,_,rfl⟩:=qFR hy;have e:(10:Int)+(j:Int)=10+(i:Int):=e;omega
   ·intro hm
    obtain⟨y,hy,e⟩:=List.mem_map.1 hm;obtain⟨j,x',hj,_,rfl⟩:=qFR hy;have e:(500:Int)+(j:Int)=500+(i:Int):=e;omega
   ·refine List.any_eq_false.2 λy hy=>?_
    obtain⟨j,rfl⟩:=hT y hy;show ¬(((100:Int)+(j:Int) == 10+(i:Int))=true);rw[beq_iff_eq];omega
   ·refine List.any_eq_false.2 λy hy=>?_
    obtain⟨j,hj,rfl⟩:∃j:Nat,j<F.n/\y=tgN j:=by obtain⟨j,hj,e⟩:=List.mem_map.1 hy;exact⟨j,List.mem_range.1 hj,e.symm⟩
    have:=h.n;show ¬(((900:Int)+(j:Int) == 500+(i:Int))=true);rw[beq_iff_eq];omega
   ·show(gwN i x.2=0->subN i x.2=0/\lenN x.2=0)/\(gwN i x.2≠0->qGZ (subN i x.2) (lenN x.2)=true/\(8<=lenN x.2/\lenN x.2<=30)/\qKJ (subN i x.2) (lenN x.2) (gwN i x.2)=true/\((F.B.mapIdx bgN).take i).any (qVJ (bgN i x))=false)
    unfold gwN subN lenN;cases hr:x.2 with
    |false=>exact⟨λ_=>⟨rfl,rfl⟩,λq=>absurd rfl q⟩
    | true=>
      simp only[if_true];obtain⟨c1,_,c3⟩:=qVo i hi4;refine⟨λq=>by omega,λ_=>⟨c1,⟨by omega,by omega⟩,c3,?_⟩⟩;refine List.any_eq_false.2 λy hy=>?_;obtain⟨j,x',hj,_,rfl⟩:=qFR hy;show ¬((((x'.1:Int) == (x.1:Int))&&(gwN j x'.2 != 0)&&(qCe (subN j x'.2) (lenN x'.2) (subN i x.2)||qCe (subN i x.2) (lenN x.2) (subN j x'.2)))=true);unfold gwN subN lenN;cases x'.2 with
      |false=>simp
      | true=>
        obtain⟨d1,d2⟩:=zABA i hi4 j hj;rw[hr];simp only[if_true,d1,d2,Bool.or_self,Bool.and_false,Bool.false_eq_true,not_false_eq_true]
 | 5,_=>
   have hS:=h.Sn;refine⟨by show(F.S.map _).length<=64;rw[lM];omega,λy hy=>?_,λn=>?_⟩
   ·have hy:y∈F.S.map λx=>(ni x.1,ni x.2):=hy
    obtain⟨x,hx,rfl⟩:=List.mem_map.1 hy;obtain⟨a1,a2,a3,_,a5,a6,a7,_⟩:=h.S x hx;refine⟨⟨λe=>a2 (List.map_eq_nil_iff.1 e),λe=>a6 (List.map_eq_nil_iff.1 e)⟩,⟨λn hn=>?_,λn hn=>?_⟩,qUc a1,qUc a5⟩
    ·obtain⟨m,hm,rfl⟩:=qUI.1 hn
     have:=a3 m hm;exact⟨by omega,by show(m:Int)<(F.x.lf:Int);omega⟩
    ·obtain⟨m,hm,rfl⟩:=qUI.1 hn
     have:=a7 m hm;exact⟨by omega,by show(m:Int)<((F.B.mapIdx bgN).length:Int);rw[List.length_mapIdx];omega⟩
   ·show(((F.S.map λx=>(ni x.1,ni x.2)).map (·.1)).flatten).count n<=32
    rw[List.map_map];refine Nat.le_trans (qNo λx hx=>?_) (by omega);exact(qUc (h.S x hx).1).imp λh=>by omega
 | 6,_=>
   have hH:=h.Hn;have hB:=h.Bn;refine⟨by show(F.H.mapIdx hgN).length<=128;simp;omega,λi y hi=>?_⟩;have hi:(F.H.mapIdx hgN)[i]?=some y:=hi;obtain⟨x,hx,rfl⟩:=qJv hi;have hi8:i<8:=by have:=(gS hx).1;omega
   obtain⟨⟨g,hg,hxg⟩,hip⟩:=h.H x (mG hx);obtain⟨_,_,_,_,_,_,a7,_⟩:=h.S g (mG hg);have hbd:=a7 x.1 hxg;have hsl:=(gS hg).1;refine⟨⟨by show 2199023951872+(i:Int)≠0;omega,by show 2199023951872+(i:Int)<=281474976710655;omega,zACa i hi8⟩,⟨⟨by show(0:Int)<=(x.1:Int);omega,by show(x.1:Int)<((F.B.mapIdx bgN).length:Int);rw[List.length_mapIdx];omega⟩,?_⟩,?_,⟨⟨by show 2199023951872+(i:Int)≠1577058561;omega,?_⟩,?_⟩,?_,?_⟩
   ·show -1<=sgN x/\sgN x<=((F.S.map λx=>(ni x.1,ni x.2)).length:Int)-1
    rw[lM];unfold sgN;split<;>omega
   ·show sgN x≠-1->∀y,(F.S.map λx=>(ni x.1,ni x.2))[(sgN x).toNat]?=some y->(x.1:Int)∈y.2
    unfold sgN;split
    ·intro q;exact absurd rfl q
    ·intro _ y hy
     rw[Int.toNat_natCast,List.getElem?_map,hg]at hy;cases hy;exact qUI.2 ⟨x.1,hxg,rfl⟩
   ·show(!(decide (2199023951872+(i:Int)<2199023255552)||decide (2199023255584<=2199023951872+(i:Int))))=false
    have:decide ((2199023255584:Int)<=2199023951872+(i:Int))=true:=decide_eq_true (by omega);rw[this];simp
   ·intro d hd
    have hd:(F.B.mapIdx bgN)[((x.1:Nat):Int).toNat]?=some d:=hd;rw[Int.toNat_natCast]at hd;obtain⟨xb,hxb,rfl⟩:=qJv hd;show((ipN i x == 0)||((gwN x.1 xb.2 != 0)&&(ipN i x != gwN x.1 xb.2)&&qKJ (subN x.1 xb.2) (lenN xb.2) (ipN i x)))=true;unfold ipN;cases hr:x.2.2.1 with
    |false=>rfl
    | true=>
      obtain⟨d',q1,q2⟩:=hip hr;rw[hxb]at q1;cases q1;have hc:=zAAU x.1 (by omega) i hi8;unfold gwN subN lenN;rw[q2];simp only[if_true,hc,Bool.and_true,Bool.or_eq_true,beq_iff_eq,Bool.and_eq_true,bne_iff_ne];exact .inr ⟨by omega,by omega⟩
   ·intro hm
    obtain⟨y,hy,e⟩:=List.mem_map.1 hm;obtain⟨j,x',hj,_,rfl⟩:=qFR hy;have e:((x'.1:Int),2199023951872+(j:Int))=((x.1:Int),2199023951872+(i:Int)):=e;simp only[Prod.mk.injEq]at e;omega
   ·intro hne hm
    obtain⟨y,hy,e⟩:=List.mem_map.1 hm;obtain⟨j,x',hj,_,rfl⟩:=qFR hy;have e:((x'.1:Int),ipN j x')=((x.1:Int),ipN i x):=e;have hne:ipN i x≠0:=hne;simp only[Prod.mk.injEq]at e;obtain⟨e1,e2⟩:=e;unfold ipN at e2 hne;cases hr:x.2.2.1 with
    |false=>rw[hr]at hne;exact hne rfl
    | true=>
      rw[hr]at e2;cases hr':x'.2.2.1 with
      |false=>rw[hr']at e2;simp only[if_true,Bool.false_eq_true,if_false]at e2;omega
      |true=>rw[hr']at e2;simp only[if_true]at e2;omega
 | 7,_=>
   have hG:=h.G;have hGn:=h.Gn;refine⟨by show(F.G.map ggN).length<=256;rw[lM];omega,λi y hi=>?_⟩;have hi:(F.G.map ggN)[i]?=some y:=hi;rw[List.getElem?_map]at hi;cases hx:F.G[i]? with
   |none=>rw[hx]at hi;cases hi
   | some x=>
     rw[hx]at hi;cases hi;obtain⟨b1,b2,b3,b4⟩:=hG.2 x (mG hx);have hlen:(((List.range F.n).map tgN).length:Int)=(F.n:Int):=by simp
     refine⟨⟨⟨by show(0:Int)<=(x.1:Int);omega,by show(x.1:Int)<(((List.range F.n).map tgN).length:Int);rw[hlen];omega⟩,⟨by show(0:Int)<=(x.2.1:Int);omega,by show(x.2.1:Int)<(((List.range F.n).map tgN).length:Int);rw[hlen];omega⟩⟩,⟨by show(x.1:Int)≠(x.2.1:Int);omega,?_⟩,?_⟩
     ·show qGZ (pfN x.2.2) (plN x.2.2)=true
      cases hp:x.2.2 with
      |none=>exact qZJ
      |some j=>exact(qVo j (b4 j hp)).2.1
     ·intro hm
      have hm:ggN x∈(F.G.map ggN).take i:=hm;rw[<- List.map_take]at hm;obtain⟨y,hy,e⟩:=List.mem_map.1 hm;have:y=x:=by
       obtain⟨y1,y2,y3⟩:=y;obtain⟨x1,x2,x3⟩:=x;have e:((y1:Int),(y2:Int),pfN y3,plN y3)=((x1:Int),(x2:Int),pfN x3,plN x3):=e;simp only[Prod.mk.injEq]at e;obtain⟨e1,e2,e3,e4⟩:=e;have h1:y1=x1:=by omega
       have h2:y2=x2:=by omega
       have h3:y3=x3:=by
        cases y3<;>cases x3<;>simp only[pfN,plN]at e3 e4
        ·rfl
        ·omega
        ·omega
        ·congr 1;omega
       rw[h1,h2,h3]
      subst this;exact qNU hG.1 i y hx hy
 |n+8,hi=>omega
theorem NFok.sz{F:NFab}(h:NFok F):Sz F.toG:=by
 have:=h.Ln;have:=h.n;have:=h.Bn;have:=h.Sn;have:=h.Hn;have:=h.Gn;refine⟨by show F.L.length<=_;omega,by show((List.range F.n).map tgN).length<=_;simp;omega,by show(F.B.mapIdx bgN).length<=_;simp;omega,by show(F.S.map _).length<=_;rw[lM];omega,by show(F.H.mapIdx hgN).length<=_;simp;omega,by show(F.G.map ggN).length<=_;rw[lM];omega,λy hy=>?_,λy hy=>?_⟩
 ·have hy:y∈F.S.map λx=>(ni x.1,ni x.2):=hy
  obtain⟨x,hx,rfl⟩:=List.mem_map.1 hy;obtain⟨_,_,_,a4,_,_,_,a8⟩:=h.S x hx;unfold ni;simp only[lM];omega
 ·have hy:y∈F.H.mapIdx hgN:=hy
  obtain⟨i,hi⟩:=List.getElem?_of_mem hy;obtain⟨x,hx,rfl⟩:=qJv hi;have hi8:=(gS hx).1;obtain⟨⟨g,hg,hxg⟩,_⟩:=h.H x (mG hx);obtain⟨_,_,_,_,_,_,a7,_⟩:=h.S g (mG hg);have:=a7 x.1 hxg;show 0<=ipN i x/\ipN i x<4294967296;unfold ipN;split<;>omega
end Go.AM.TN
