/- Part A3 of the proof: see the last part. -/
import Derived.Test.YtcmcofklcgafiaaGreatA2
import Derived.Maps.RangeRun
import Derived.RangeFuncNested
import Derived.DataReads
import Derived.ProofKit
import Derived.ChangeAt
import Derived.ChangeArms
import Derived.OpenShut
import Derived.Shelf.SlIterI.Nil
import Derived.Shelf.SortM.Plain
import Derived.Shelf.SortM.SortNone
import Derived.Ground.GgzProg
import Derived.Ground.SlgmProg
import Derived.RecoverIn
set_option linter.unusedVariables false
namespace Go.AM
open Go Go.RowKit List Nat
section
variable {P:Program} {A:Nat→List Nat} {nt base:Nat} {rnd:Option Nat} {ρ ρ' ρ1 ρ2:Ren} {s s' s1 s2 t t1 t2:Hq} {w w' w1 w2:World} {ds0 ds:List Deferred} {env:Env} {a:Act}
theorem tY{n b:Nat}:∀{l:List Nat},hasN n (l ++ [b])=(hasN n l||beq n b)
 |[]=>by unfold hasN;simp[hasN]
 | m::l=>by
   show(beq n m||hasN n (l ++ [b]))=((beq n m||hasN n l)||beq n b)
   rw[tY,Bool.or_assoc]
theorem zZ{seen:List Nat}:∀{es:List AEnt}{e:AEnt},e∈dw seen es->e∈es/\hasN e.born seen=false
 | x::es,e,h=>by
   unfold dw at h;cases c:hasN x.born seen with
   | true=>
     rw[c]at h;have ⟨h1,h2⟩:=zZ h
     grind
   | false=>
     rw[c]at h;rcases mCY h with rfl|h
     ·grind
     ·have ⟨h1,h2⟩:=zZ h
      grind
theorem KR{seen:List Nat}{b:Nat}:∀{es:List AEnt},(dw (seen ++ [b]) es).length<=(dw seen es).length
 |[]=>Nat.le_refl _
 | x::es=>by
   unfold dw;rw[tY];have:=KR (seen:=seen) (b:=b) (es:=es)
   grind
theorem Aa{seen:List Nat}:∀{es:List AEnt}{e:AEnt},e∈dw seen es->(dw (seen ++ [e.born]) es).length<(dw seen es).length
 | x::es,e,h=>by
   have hle:=KR (seen:=seen) (b:=e.born) (es:=es);unfold dw at h ⊢;rw[tY];cases c:hasN x.born seen with
   | true=>
     rw[c]at h;exact Aa h
   | false=>
     rw[c]at h;rcases mCY h with rfl|h
     ·simp only[beq_refl,Bool.or_true,cond_true,cond_false,length_cons];omega
     ·have:=Aa h
      cases d:beq x.born e.born with
      |true=>simp only[Bool.or_true,cond_true,cond_false,length_cons];omega
      |false=>simp only[Bool.or_false,cond_false,length_cons];omega
theorem KS:∀es:List AEnt,dw [] es=es
 |[]=>rfl
 | x::es=>by
   show cond (hasN x.born []) (dw [] es) (x::dw [] es)=_;rw[KS es];rfl
theorem KU{seen:List Nat}:∀{es:List AEnt},dw seen es=[]->∀e∈es,hasN e.born seen=true
 | x::es,h,e,he=>by
   unfold dw at h;cases c:hasN x.born seen with
   |false=>rw[c]at h;cases h
   | true=>
     rw[c]at h;rcases mCY he with rfl|he;exact c;exact KU h e he
theorem nX(n:Nat):∀l:List Nat,hasN n l=l.toArray.contains n
 |[]=>by simp[hasN]
 | m::l=>by
   unfold hasN;rw[nX n l];have:beq n m=decide (n=m):=by
    cases h:beq n m with
    |true=>simp_all
    |false=>have:n≠m:=λe=>by subst e;simp at h
            simp[this]
   grind
theorem KV{seen:List Nat}:∀{es:List AEnt}{es':List MapEntry},EsRel ρ es es'->EsRel ρ (dw seen es) (es'.filter λe=>!seen.toArray.contains e.born)
 | [],es',hr=>by
   have:=hr.len
   grind [dw]
 | a::es,es',hr=>by
   cases es' with
   |nil=>have:=hr.len;simp at this
   | cons a' es'=>
     have ha:=hr.at_ 0 a a' rfl rfl;have ht:EsRel ρ es es':=⟨by have:=hr.len;simpa using this,λi x y hx hy=>hr.at_ (i+1) x y (by simpa using hx) (by simpa using hy)⟩
     have ih:=KV (seen:=seen) ht;unfold dw;rw[nX,<- ha.born];cases hc:seen.toArray.contains a'.born with
     |true=>grind
     | false=>
       refine⟨by grind [EsRel.len],λi x y hx hy=>?_⟩
       grind [EsRel.at_]
theorem EsRel.mem{es:List AEnt}{es':List MapEntry}(h:EsRel ρ es es'){e':MapEntry}(he:e'∈es'):∃e∈es,ERel ρ e e':=by
 obtain⟨i,hi,rfl⟩:=mem_iff_getElem.1 he;have hl:i<es.length:=by rw[<- h.len];exact hi
 exact⟨es[i],getElem_mem hl,h.at_ i _ _ (gE hl) (gE hi)⟩
theorem Ab{since:Nat}:∀{es:List AEnt}{es':List MapEntry},EsRel ρ es es'->gp since es=true->∀x∈es',x.born<since:=by
 intro es es' hr h x hx;have ⟨e,he,hre⟩:=hr.mem hx;rw[hre.born];clear hr hx hre
 induction es with
 |nil=>cases he
 | cons a es ih=>
   unfold gp at h;simp only[Bool.and_eq_true]at h;rcases mCY he with rfl|he
   ·simp_all
   ·exact ih h.2 he
theorem nY{b:Code}{s:MapStep}(hs:iS b=some s){r:Option Nat}{Q:Exit->Act->World->Prop}{vs:Array Value}{t:Bool}{w1:World}(hn:s.nx<a.tmps.size)
  (hrun:∀ty,(Instr.next (a.tmps.getD s.it undef) false ty).run P w=.ok (.tuple vs) w1) (hv:vs[0]?=some (.bool t))
  (h:s.rest.wpIn (FR r) 0 P Q ((a.put (some s.nx) (.tuple vs)).put (some s.more) (.bool t)) w1):b.wpIn (FR r) 0 P Q a w:=by
 unfold iS at hs;split at hs
 ·rename_i id ops rest
  split at hs
  ·rename_i nx it ty1 pos1 af1 more nx' ty2 pos2 af2 hops
   have ⟨hc,hs⟩:=cy hs;cases hs;have hc:=bE hc;have e0:ops=#[⟨some nx,.next (.tmp it) false,ty1,pos1,af1,none⟩,⟨some more,.extract (.tmp nx) 0,ty2,pos2,af2,none⟩]:=by
    grind
   subst e0;refine wpIn_seq (wpIn_region ?_);simp only[size_toArray,length_cons,length_nil,zAY,reduceAdd,show List.range 2=[0,1]from rfl,wpOpsIn,getElem?_toArray,g0Y,g1Y];have w1t:∀(o:Oper) (t':Nat->Option Bool),o.guard=none->Region.wanted o t'=true:=λo t' h=>by unfold Region.wanted;rw[h]
   refine⟨fT,?_⟩;rw[Oper.semAt_eq _ _ _ (by intro c h;cases h)];have e1:(execOp a.eval ⟨some nx,.next (.tmp it) false,ty1,pos1,af1,none⟩).run P w=.ok (.value (.tuple vs)) w1:=by
    have he:a.eval (.tmp it)=a.tmps.getD it undef:=by simp[Act.eval]
    simp only[execOp,he,Sem.run_bind,hrun ty1,Result.andThen_ok,Sem.run_pure]
   rw[e1,Oper.uponIn_value];refine⟨fT,?_⟩;rw[Oper.semAt_eq _ _ _ (by intro c h;cases h)];have e2:(execOp (a.put (some nx) (.tuple vs)).eval ⟨some more,.extract (.tmp nx) 0,ty2,pos2,af2,none⟩).run P w1=.ok (.value (.bool t)) w1:=by
    have he:(a.put (some nx) (.tuple vs)).eval (.tmp nx)=.tuple vs:=by
     simp only[Act.eval,Act.put]
     simp_all
    simp only[execOp,he,Sem.run_bind,Instr.extract,hv,Sem.run_pure,Result.andThen_ok]
   rw[e2,Oper.uponIn_value];exact h
  ·cases hs
 ·cases hs
theorem Rb{t:Hq}{i:Nat}{x y:Bool×Blk}:hset (hset t i x) i y=hset t i y:=by
 grind [hset]
theorem Fit.hideOwn{r:Nat}{b:Blk}(h:Fit ρ base s t w)(hs:s r=some (false,b)):t r=none/\Fit ρ base (hdel s r) (hset t r (false,b)) w:=by
 have ⟨_,_,_,h3⟩:=h.get hs;refine⟨(h3 rfl).2,?_,λi x hx=>?_⟩
 ·have e:add (hset t r (false,b)) (hdel s r)=add t s:=by
   funext i
   by_cases q:i=r
   ·subst q;rw[bJ cr,aV (h3 rfl).2,hs]
   grind [add,bg,bZ]
  rw[e];exact h.wr
 ·by_cases q:i=r
  ·grind [eo]
  ·rw[bg q]at hx;rw[bZ q];exact h.fr i x hx
theorem Fit.show_{r:Nat}{b:Blk}(h:Fit ρ base s (hset t r (false,b)) w):Fit ρ base (hset s r (true,b)) (hset t r (false,b)) w:=by
 refine⟨?_,λi x hx=>?_⟩
 ·have e:add (hset t r (false,b)) (hset s r (true,b))=add (hset t r (false,b)) s:=by
   grind [cr,add,bg]
  rw[e];exact h.wr
 ·by_cases q:i=r
  ·grind [cr]
  ·rw[bg q];exact h.fr i x hx
theorem Ac{r since stp c:Nat}{mo:Option Nat}{sn:List Nat}{es:List AEnt}{x':Value}(hf:Fit ρ base s (hset t r (false,.iter mo since sn stp)) w)(hs:s r=none)(hst:since<=stp)(hmap:gQ s mo c es)(hold:gp since es=true)(hx:Rel ρ (Pp r) x'):
  (dw sn es=[]/\∀ty,(Instr.next x' false ty).run P w=.ok (.tuple #[.bool false]) w)∨
   (∃e∈dw sn es,∃e' w1,(ERel ρ e e')/\(∀ty,(Instr.next x' false ty).run P w=.ok (.tuple #[.bool true,e'.key,e'.val]) w1)/\Fit ρ base s (hset t r (false,.iter mo since (sn ++ [e.born]) c)) w1/\Below base w w1):=by
 obtain⟨L,hL,rfl⟩:=hx;have ⟨L',hL',⟨hsh,M,q1,q2⟩,hbase⟩:=hf.wr.at_ r false _ (bJ cr);rw[hL]at hL';cases hL';cases mo with
 | none=>
   subst q1;subst hmap;exact .inl ⟨rfl,λty=>by simp[Instr.next,hsh,getObj,Sem.run,q2]⟩
 | some m=>
   obtain⟨D,q3,rfl⟩:=q1;have ⟨tg,hm⟩:=hmap;have ⟨D',hD',⟨es',q4,q5⟩,_⟩:=hf.get hm;rw[q3]at hD';cases hD';have ho:=Ab q5 hold;have hleft:=KV (seen:=sn) q5;have hfil:(leftOf es' sn.toArray).toList=es'.toList.filter λe=>!sn.toArray.contains e.born:=by unfold leftOf;exact Array.toList_filter
   rw[<- hfil]at hleft;have step:=λty=>run_next_at (P:=P) w ty L.blk D.blk since stp sn.toArray es' c q2 q4 ho hst;rcases step 0 with⟨s1,_⟩|⟨e',he',_⟩
   ·left
    refine⟨eq_nil_of_length_eq_zero (by grind [EsRel.len]),λty=>?_⟩
    grind
   ·right
    have hpos:0<(leftOf es' sn.toArray).size:=gR;have step0:∃e'∈(leftOf es' sn.toArray).toList,∃w1:World,(w1=w∨w1=w.drew)/\∀ty,(Instr.next (.pointer (some ⟨L.blk,0,none⟩)) false ty).run P w=.ok (.tuple #[.bool true,e'.key,e'.val]) (Go.ChangeMaps.setBlock w1 L.blk (.mapIter (some D.blk) since (sn.toArray.push e'.born) c)):=by
     rcases step 0 with⟨s1,_⟩|⟨e',he',w1,a,b⟩
     ·omega
     ·exact⟨e',he',w1,a,λty=>b⟩
    have ⟨e',he',w1,hw1,hrun⟩:=step0;have ⟨e,he,hre⟩:=hleft.mem he';have hlt:=mI q2;have hu:Upd w L.blk (.mapIter (some D.blk) since (sn.toArray.push e'.born) c) (Go.ChangeMaps.setBlock w1 L.blk (.mapIter (some D.blk) since (sn.toArray.push e'.born) c)):=by
     rcases hw1 with rfl|rfl
     ·exact⟨rfl,rfl,rfl,by simp[Go.ChangeMaps.setBlock],by simp[Go.ChangeMaps.setBlock,hlt],λk hk=>Array.getElem?_setIfInBounds_ne (λe=>hk e.symm)⟩
     ·exact⟨rfl,rfl,rfl,by simp[Go.ChangeMaps.setBlock],by simp[Go.ChangeMaps.setBlock,hlt],λk hk=>Array.getElem?_setIfInBounds_ne (λe=>hk e.symm)⟩
    have ⟨k1,k2⟩:=hf.wr.put (tg:=false) (b:=.iter (some m) since (sn ++ [e.born]) c) (bJ cr) hL hu ⟨hsh,some D.blk,⟨D,q3,rfl⟩,by simp[hre.born]⟩;refine⟨e,he,e',_,hre,(by simp_all),⟨?_,λi x hx=>?_⟩,k2⟩
    ·have e0:hset (add (hset t r (false,.iter (some m) since sn stp)) s) r (false,.iter (some m) since (sn ++ [e.born]) c)=add (hset t r (false,.iter (some m) since (sn ++ [e.born]) c)) s:=by
      funext i
      grind [cr,add,bg]
     rw[<- e0];exact k1
    ·by_cases q:i=r
     ·subst q;exact .inl hs
     ·rw[bg q]at hx;exact hf.fr i x (by rw[bg q];exact hx)
theorem Ms.up{r:Nat}{x:Bool×Blk}(h:Ms ρ t t1 s ds0 ds)(hr:t1 r=none)(hs:∀i,i≠r->s i=none->s' i=none):Ms ρ (hset t r x) (hset t1 r x) s' ds0 ds:=by
 obtain⟨ms,rfl,h1,h2,h3⟩:=h;have hm:∀i∈ms,i≠r:=λi hi q=>by subst q;rw[aV (h1 i hi).1,kP hi]at hr;cases hr
 refine⟨ms,?_,λi hi=>⟨by rw[bg (hm i hi)];exact(h1 i hi).1,hs i (hm i hi) (h1 i hi).2⟩,h2,h3⟩
 grind [cr,add,bg]
theorem Ms.down{r:Nat}{x:Bool×Blk}(h:Ms ρ (hset t r x) t2 s ds0 ds)(hr:t r=none)(hs:∀i,i≠r->s i=none->s' i=none):∃u,t2=hset u r x/\u r=none/\Ms ρ t u s' ds0 ds:=by
 obtain⟨ms,rfl,h1,h2,h3⟩:=h;have hm:∀i∈ms,i≠r:=λi hi q=>by
  subst q
  grind [cr]
 refine⟨add t (mkH ms),?_,?_,ms,rfl,λi hi=>⟨?_,hs i (hm i hi) (h1 i hi).2⟩,h2,h3⟩
 ·grind [cr,add,bg]
 ·grind [aV,zU]
 ·have:=(h1 i hi).1
  rw[bg (hm i hi)]at this;exact this
theorem Rc{b:Code}{st:MapStep}(hms:iS b=some st)(hb:eZ P A nt rnd st.rest)(hok:tW nt st (assigned b)=true){ls:List Nat}{K:AExit->Env->Hq->Prop}
  (h:KO st ls (assigned b) (λenv K s=>wpC P A nt rnd st.rest env K s) env K s):CW P nt rnd (.loop b) env K s:=by
 intro g t t1 ρ base w a r0 ds0 Q hf hT hr hd hQ;unfold tW at hok;simp only[Bool.and_eq_true,Bool.not_eq_true']at hok;have ⟨hits,⟨k3,k4⟩,k5,k6⟩:=hok;have ⟨p,hp,I,hI0,hstep⟩:=aX h;have ⟨r,mo,since,c,es⟩:=p;simp only at hI0 hstep;have ⟨hit,stepped,q1,q2,q3,q4,_,_⟩:=Ra hp;have ⟨b0,hseq⟩:=KP hms;have hsub:∀j,j ∉ assigned b->j ∉ assigned st.rest/\j≠st.nx/\j≠st.more:=(by grind [assigned,fW])
 have offs:∀{env1 env':Env}{v u:AV}{d1 d2:List Deferred},Off b env env1 a.defers d1->Off st.rest (upd (upd env1 st.nx v) st.more u) env' d1 d2->Off b env env' a.defers d2:=fun {env1 env' v u d1 d2} ho hj=>⟨λj hm=>by
  have ⟨z1,z2,z3⟩:=hsub j hm;rw[hj.1 j z1];have e:∀{k:Nat},j≠k->beq j k=false:=fun {k} q=>by
   cases e:beq j k with
   |false=>rfl
   |true=>exact absurd (bE e) q
  unfold upd;rw[e z2,e z3];exact ho.1 j hm,λq=>(hj.2 (by rw[hseq]at q;exact(Bool.and_eq_true_iff.1 q).2)).trans (ho.2 q)⟩
 have ⟨htr,hf0⟩:=hf.hideOwn q1;have htr0:t r=none:=by
  cases q:t r with
  |none=>rfl
  |some x=>have:=hd.fr (i:=r) (by rw[q];simp);grind
 have hQ2:∀e env' s' ρ' a' w' u bk,K e env' s'->s' r=none->u r=none->Off b env env' a.defers a'.defers->SG ρ ρ' base (hdel s r) s' t (hset u r bk) w w'->ER ρ' nt env' a'.tmps->Ms ρ' t u s' ds0 a'.defers->Q (gP e) a' w':=λe env' s' ρ' a' w' u bk j1 j2 j3 j4 j5 j6 j7=>
  hQ e env' s' ρ' a' w' u j1 j4 ⟨j5.le,j5.below,λi x hi=>j5.pers i x (by rw[bZ λq=>by subst q;rw[q1]at hi;cases hi];exact hi),j5.fit.drop (λi x hx=>by rw[bg λq=>by subst q;rw[j3]at hx;cases hx];exact hx) (λi h1 h2=>by
   by_cases q:i=r
   ·subst q;exact j2
   ·rw[bg q]at h2;exact absurd h1 h2),λi hi hs=>j5.nw i hi (by unfold hdel;split<;>first|rfl|exact hs)⟩ j6 j7
 refine wpIn_loop_rounds (es.length+1) ?_;have key:∀(k:Nat) (sn:List Nat) (env1:Env) (s1:Hq) (stp:Nat) (ρ1:Ren) (a1:Act) (w1:World) (u1:Hq),u1 r=none->(dw sn es).length<k->I sn (ls.map env1) s1->s1 r=none->since<=stp->
   Off b env env1 a.defers a1.defers->SG ρ ρ1 base (hdel s r) s1 t (hset u1 r (false,.iter mo since sn stp)) w w1->ER ρ1 nt env1 a1.tmps->Ms ρ1 t u1 s1 ds0 a1.defers->Code.roundsIn (FR r0) 0 P b Q k a1 w1:=by
  intro k
  induction k with
  |zero=>grind
  | succ k ih=>
    intro sn env1 s1 stp ρ1 a1 w1 u1 hu hk hI hs1 hstp hoff sp hT1 hd1;have ⟨hmap,hmore,hdone⟩:=hstep sn env1 s1 hI hs1;rw[nW hoff.1]at hmore hdone;have hx:=hT1.at_ st.it;have e0:=(hoff.1 st.it λq=>by rw[fW.2 q]at hits;cases hits).trans hit;rw[e0]at hx;have n1:st.nx<nt:=by simpa [blt_eq]using k5
    rcases Ac (P:=P) sp.fit hs1 hstp hmap q4 hx with⟨hl,c5⟩|⟨e,he,e',w2,c5,c6,c7,c8⟩
    ·refine nY (t:=false) hms (by rw[hT1.size];exact n1) c5 rfl ?_
     refine hb _ _ s1 (hdone (KU hl)) g (hset t r (false,.iter mo since sn stp)) (hset u1 r (false,.iter mo since sn stp)) ρ1 base w1 _ r0 ds0 _ sp.fit
      ((hT1.put (v:=.tup [false]) (v':=.tuple #[.bool false]) k5 (by unfold Rel;exact⟨_,rfl,.cons (by unfold Rel;rfl) .nil⟩)).put (v:=false) (v':=.bool false) k6 (by unfold Rel;rfl))
      (hr.mono sp.le) (by rw[dy,dy];exact hd1.up hu λi _ h=>h) λex env2 s2 ρ2 a2 w3 u2 j1 j3 j4 j5 j6=>?_
     have hr2:=j4.nw r (by rw[cr];simp) hs1;obtain⟨u,rfl,hu2,hm2⟩:=j6.down (s':=s2) htr0 λi _ h=>h;have sp2:SG ρ ρ2 base (hdel s r) s2 t (hset u r (false,.iter mo since sn stp)) w w3:=⟨sp.le.trans j4.le,sp.below.trans j4.below,sp.pers.trans j4.pers,j4.fit,λi a b=>j4.nw i (by rw[bg λq=>by subst q;exact a htr0];exact a) (sp.nw i a b)⟩
     cases ex with
     |nrm=>exact j1.elim
     |exit id=>exact hQ2 _ env2 s2 ρ2 a2 w3 u _ j1 hr2 hu2 (offs hoff (by rw[dy,dy]at j3;exact j3)) sp2 j5 hm2
     |ret=>exact hQ2 _ env2 s2 ρ2 a2 w3 u _ j1 hr2 hu2 (offs hoff (by rw[dy,dy]at j3;exact j3)) sp2 j5 hm2
    ·have ⟨m1,m2⟩:=zZ he
     refine nY (t:=true) hms (by rw[hT1.size];exact n1) c6 rfl ?_;refine hb _ _ _ (hmore e m1 m2) g (hset t r (false,.iter mo since (sn ++ [e.born]) c)) (hset u1 r (false,.iter mo since (sn ++ [e.born]) c)) ρ1 base w2 _ r0 ds0 _ c7.show_
      ((hT1.put (v:=.tup [true,e.key,e.val]) (v':=.tuple #[.bool true,e'.key,e'.val]) k5 (by unfold Rel;exact⟨_,rfl,.cons (by unfold Rel;rfl) (.cons c5.key (.cons c5.val .nil))⟩)).put (v:=true) (v':=.bool true) k6 (by unfold Rel;rfl))
      (hr.mono sp.le) (by rw[dy,dy];exact hd1.up hu λi q h=>by rw[bg q];exact h) λex env2 s2 ρ2 a2 w3 u2 j1 j3 j4 j5 j6=>?_
     obtain⟨u,rfl,hu2,hm2⟩:=j6.down (s':=hdel s2 r) htr0 λi q h=>by rw[bZ q];exact h
     have sp2:SG ρ ρ2 base (hdel s r) (hdel s2 r) t (hset u r (false,.iter mo since (sn ++ [e.born]) c)) w w3:=by
      refine⟨sp.le.trans j4.le,(sp.below.trans c8).trans j4.below,λi bk hi=>?_,j4.fit.sub λi x hi=>?_,λi a b=>?_⟩
      ·have hne:i≠r:=λq=>by subst q;rw[eo]at hi;cases hi
       rw[bZ hne];exact j4.pers i bk (by rw[bg hne];exact sp.pers i bk hi)
      ·by_cases q:i=r
       ·subst q;rw[eo]at hi;cases hi
       ·rw[bZ q]at hi;exact hi
      ·have hne:i≠r:=λq=>by subst q;exact a htr0
       rw[bZ hne];exact j4.nw i (by rw[bg hne];exact a) (by rw[bg hne];exact sp.nw i a b)
     cases ex with
     | nrm=>
       have hsc:=q3;have:=Aa he;exact ih (sn ++ [e.born]) env2 (hdel s2 r) c ρ2 a2 w3 u hu2 oM j1 eo hsc (offs hoff (by rw[dy,dy]at j3;exact j3)) sp2 j5 hm2
     |exit id=>exact hQ2 _ env2 _ ρ2 a2 w3 u _ j1 eo hu2 (offs hoff (by rw[dy,dy]at j3;exact j3)) sp2 j5 hm2
     |ret=>exact hQ2 _ env2 _ ρ2 a2 w3 u _ j1 eo hu2 (offs hoff (by rw[dy,dy]at j3;exact j3)) sp2 j5 hm2
 exact key (es.length+1) [] env (hdel s r) stepped ρ a w t1 htr (by rw[KS];omega) hI0 eo q2 ⟨λ_ _=>rfl,λ_=>rfl⟩ (.refl hf0) hT (hd.sub λi h=>by unfold hdel;split<;>first|rfl|exact h)
end
section
variable {P:Program} {A:Nat→List Nat} {nt base:Nat} {rnd:Option Nat} {ρ ρ' ρ1 ρ2:Ren} {s t t1 t2:Hq} {w w' w1:World} {ds0 ds:List Deferred} {env:Env} {a:Act}
theorem Ms.mono(h:Ms ρ t t1 s ds0 ds)(hl:Le ρ ρ'):Ms ρ' t t1 s ds0 ds:=by have ⟨ms,a,b,c,d⟩:=h;exact⟨ms,a,b,c,d.mono hl⟩
theorem Ad{l:Nat}{L:Loc}{st st2:LoopState}{pd pd2:Option Code}{nt2:Nat}{keep:List (Nat×AV)}{ps:List Tmp}{az bo:Code}{d:Nat}(hf:Fit ρ base s t w)(hL:ρ l=some L)(hs:s l=some (false,.loop st pd nt2 keep ps az bo d)):
  ∃r:Loop,w.heap[L.blk]?=some (.loop r)/\r.state=st/\r.pending=pd/\Stp ρ ρ base s (hset s l (false,.loop st2 pd2 nt2 keep ps az bo d)) t w (w.putObj L.blk (.loop { r with state:=st2,pending:=pd2 })):=by
 have ⟨L',hL',⟨fn,tm,D,env,q1,q2,q3⟩,_⟩:=hf.get hs;rw[hL]at hL';cases hL';exact⟨_,q2,rfl,rfl,hf.put hs hL (KQ _ q2) ⟨fn,tm,D,env,q1,rfl,q3⟩⟩
theorem Ae{r:Option Nat}{ps:Array Tmp}{az bo:Code}{keep:List (Nat×AV)}(hr:RR ρ rnd r)(hk:rndK rnd s)(hf:Fit ρ base s t1 w)(hT:ER ρ nt env a.tmps)(hd:Ms ρ t t1 s ds0 a.defers)(hkeep:∀p∈keep,env p.1=p.2)(fn:FuncId):
  ∃(L:Loc) (mark:List Deferred) (l d:Nat) (t2:Hq) (w':World) (ρ':Ren),(Instr.enterLoop fn a.tmps ps az bo r).run P w=.ok (L.blk,mark) w'/\s l=none/\t2 l=none/\ρ' l=some L/\Le ρ ρ'/\Below base w w'/\Fit ρ' base (hset s l (false,.loop .ready none nt keep ps.toList az bo d)) t2 w'/\Ms ρ' t t2 s ds0 (mark++a.defers):=by
 have bl:∀{ρ':Ren}{D:Loc}{d:Nat}{o:Obj},Le ρ ρ'->ρ' d=some D->o=.loop { state:=.ready,pending:=none,fn:=fn,tmps:=a.tmps,params:=ps,assign:=az,body:=bo,defers:=D.blk }->∀ ρ2,Le ρ' ρ2->BR ρ2 True ⟨0,0,0⟩ (.loop .ready none nt keep ps.toList az bo d) (some o):=fun {ρ' D d o} h1 h2 h3 ρ2 h4=>⟨fn,a.tmps,D,env,h4 _ _ h2,by rw[h3],hT.size,(by grind [Rel.mono,ER.at_]),hkeep⟩
 cases rnd with
 | none=>
   have hr:r=none:=hr;subst hr;have ⟨d,ρ1,f1,f2,f3⟩:=hf.push (b:=.deferred true) (o:=.deferred (some [])) (n:=0) λ_ _=>rfl;have ⟨g1,g2⟩:=f3.hide f1;have ⟨l,ρ2,h1,h2,h3⟩:=g2.push (b:=.loop .ready none nt keep ps.toList az bo d) (o:=.loop { state:=.ready,pending:=none,fn:=fn,tmps:=a.tmps,params:=ps,assign:=az,body:=bo,defers:=w.heap.size }) (n:=0) λρ2 hle=>bl f3.le f2 rfl ρ2 hle;have hl:hset t1 d (false,Blk.deferred true) l=none:=by
    cases q:hset t1 d (false,Blk.deferred true) l with
    |none=>rfl
    |some x=>have:=h3.nw l (by rw[q];simp) h1;grind [cr]
   refine⟨⟨w.heap.size+1,0,0⟩,_,l,d,_,_,ρ2,run_enterLoop_outer fn a.tmps ps az bo,h1,hl,by rw[h2];simp,f3.le.trans h3.le,f3.below.trans h3.below,h3.fit,?_⟩;obtain⟨ms,rfl,m1,m2,m3⟩:=hd;have td:t d=none:=by
    cases q:t d with
    |none=>rfl
    |some x=>grind [bJ]
   refine⟨d::ms,?_,λi hi=>?_,nodup_cons.2 ⟨λq=>?_,m2⟩,⟨w.heap.size,0,0⟩,a.defers,h3.le _ _ f2,rfl,m3.mono (f3.le.trans h3.le)⟩
   ·funext i
    by_cases q:i=d
    ·subst q;rw[cr,aV td,kP sI]
    ·rw[bg q]
     unfold add mkH;simp only[mem_cons,q,false_or]
   ·rcases mCY hi with rfl|hi
    ·exact⟨td,f1⟩
    ·exact m1 i hi
   ·rw[aV td,kP q]at g1;cases g1
 | some l0=>
   obtain⟨L0,hL0,rfl⟩:=hr;have hk:jc l0 s:=hk;unfold jc at hk;split at hk
   ·rename_i e0 st pd nt2 keep2 ps2 as2 bo2 d2 hs0
    have ⟨L',hL',⟨fn2,tm2,D,env2,q1,q2,_⟩,_⟩:=hf.get hs0;rw[hL0]at hL';cases hL';have ⟨l,ρ2,h1,h2,h3⟩:=hf.push (b:=.loop .ready none nt keep ps.toList az bo d2) (o:=.loop { state:=.ready,pending:=none,fn:=fn,tmps:=a.tmps,params:=ps,assign:=az,body:=bo,defers:=D.blk }) (n:=0) λρ2 hle=>bl (.refl _) q1 rfl ρ2 hle;have hl:t1 l=none:=by
     cases q:t1 l with
     |none=>rfl
     |some x=>have:=h3.nw l (by rw[q];simp) h1;rw[cr]at this;cases this
    exact⟨⟨w.heap.size,0,0⟩,[],l,d2,t1,_,ρ2,run_enterLoop_inner q2 fn a.tmps ps az bo,h1,hl,h2,h3.le,h3.below,h3.fit,hd.mono h3.le⟩
   ·exact hk.elim
theorem Af{x:Operand}{ps:Array Tmp}{az bo:Code}:eZ P A nt rnd (.rangeFunc x ps az bo):=by
 intro env K s h g t t1 ρ base w a r ds0 Q hf hT hr hd hQ;unfold wpC at h;cases hok:okX x with
 |false=>grind
 |true=>
 rw[hok,cond_true]at h;have hv:=eX hT hok;unfold nV at h;split at h
 ·rename_i k first cap hx
  rw[hx]at hv;have ⟨h1,h2,h3⟩:=h;refine wpIn_rangeFunc λfn _=>?_;obtain⟨L,mark,l,d,t2,w1,ρ1,e1,e2,e3,e4,e5,e6,e7,e8⟩:=Ae (P:=P) (ps:=ps) (az:=az) (bo:=bo) (keep:=(A (2*iB bo+1)).map λi=>(i,env i)) hr h2 hf hT hd ((by simp_all)) fn;unfold Rel at hv;obtain⟨fs,cs,he,g1,g2⟩:=hv;have hres:(resolve a.eval (rangeCall x L.blk) 0).run P w1=.ok { target:=.fn (.func k) cs,args:=fs ++ #[.func (.yield L.blk) #[] #[]] } w1:=by
   have e1:(#[Operand.const (.func (.yield L.blk) #[] #[])].map a.eval:Array Value)=#[.func (.yield L.blk) #[] #[]]:=by simp[Act.eval]
   simp only[resolve,e1,he,Deferred.ofValue,Sem.run_pure]
  have hyl:Rel ρ1 (.yield l) (.func (.yield L.blk) #[] #[]):=by grind [Rel]
  have hargs:RelL ρ1 (first ++ [.yield l]++cap) (fs ++ #[Value.func (.yield L.blk) #[] #[]]++cs).toList:=by
   grind [RelL.mono,RelL.append,RelL.cons]
  refine⟨L.blk,mark,w1,_,w1,k,fs ++ #[Value.func (.yield L.blk) #[] #[]]++cs,w1,e1,hres,λ_ _=>trivial,?_,λh=>by simp[FR,Fence.wide]at h,?_⟩
  ·simp only[invoke]
   grind [m9,Grd.nonum]
  ·have h5:CallsIn (FR r) 0 P k (fs ++ #[Value.func (.yield L.blk) #[] #[]]++cs) w1 (fQ ρ1 base _ t2 w1 _):=h3 l d e2 g ρ1 base t2 w1 _ e7 hargs
   refine h5.mono ?_;rintro en w3 ⟨v,v',s3,ρ3,rfl,_,st3,hk⟩;unfold nS at hk;split at hk
   ·rename_i st pd nt2 keep2 ps2 as2 bo2 d2 hs3
    have ⟨hst,hk⟩:=hk;obtain⟨rc,b1,b2,b3,b4⟩:=Ad (st2:=.exhausted) (pd2:=pd) st3.fit (st3.le _ _ e4) hs3;refine⟨pd,w3.putObj L.blk (.loop { rc with state:=.exhausted }),by rw[<- b3];exact run_endLoop b1 (by rw[b2];exact hst),?_⟩;have erc:{ rc with state:=LoopState.exhausted,pending:=pd }={ rc with state:=LoopState.exhausted }:=by rw[<- b3]
    rw[erc]at b4;have sg:SG ρ ρ3 base s (hdel s3 l) t t2 w (w3.putObj L.blk (.loop { rc with state:=.exhausted })):=by
     refine⟨e5.trans st3.le,(e6.trans st3.below).trans b4.below,λi b hi=>?_,b4.fit.sub λi y hi=>?_,λi hi hn=>?_⟩
     ·have hne:i≠l:=λq=>gR
      rw[bZ hne];exact st3.pers i b (by grind [bg])
     ·grind [eo,bZ,bg]
     ·have ht2:=e8.fr hi
      have hne:i≠l:=λq=>gR;rw[bZ hne];exact st3.nw i (by rw[ht2];exact hi) (by grind [bg])
    have hm:Ms ρ3 t t2 (hdel s3 l) ds0 (mark++a.defers):=by
     obtain⟨ms,rfl,m1,m2,m3⟩:=e8;refine⟨ms,rfl,λi hi=>⟨(m1 i hi).1,?_⟩,m2,m3.mono st3.le⟩;have hti:add t (mkH ms) i≠none:=by grind [aV,kP]
     have hne:i≠l:=λq=>by subst q;exact hti e3
     rw[bZ hne];exact st3.nw i hti (by grind [bg])
    have fin:=λe (k:K e env (hdel s3 l))=>hQ e env _ ρ3 { a with defers:=mark++a.defers } _ t2 k ⟨λ_ _=>rfl,λq=>nomatch q⟩ sg (hT.mono sg.le) hm;cases pd with
    |none=>exact fin .nrm hk
    | some c=>
      cases c with
      |ret=>exact wpIn_ret (fin .ret hk)
      |exit id=>exact wpIn_exit (fin (.exit id) hk)
      |_=>exact hk.elim
   ·exact hk.elim
 ·exact h.elim
theorem ep:∀(c:Code),eZ P A nt rnd c
 | .skip=>λ_ _ _ h=>jd (e:=.nrm) (λ_ _ _ _ h=>wpIn_skip h) h
 | .region _ _ _=>zV
 | .seq a b=>seqW (ep a) (ep b)
 | .cond _ a b=>zW (ep a) (ep b)
 | .block _ b=>zX (ep b)
 | .loop b=>λenv K s h=>by
   have hb:=ep b;unfold wpC at h;cases hms:iS b with
   |none=>grind [zY]
   | some st=>
     rw[hms]at h;simp only at h;cases hok:tW nt st (assigned b)with
     |false=>grind
     | true=>
       rw[hok,cond_true]at h;have ⟨a,hseq⟩:=KP hms;subst hseq;exact Rc hms (ep st.rest) hok h
 | .exit id=>λ_ _ _ h=>jd (e:=.exit id) (λ_ _ _ _ h=>wpIn_exit h) h
 | .ret=>λ_ _ _ h=>jd (e:=.ret) (λ_ _ _ _ h=>wpIn_ret h) h
 | .rangeFunc _ _ _ _=>Af
 | .scope _=>λ_ _ _ h=>h.elim
 | .label _=>λ_ _ _ h=>h.elim
 | .goto _=>λ_ _ _ h=>h.elim
 | .refuse _=>λ_ _ _ h=>h.elim
end
section
variable {P:Program} {A:Nat→List Nat} {nt base:Nat} {rnd:Option Nat} {ρ ρ' ρ1 ρ2:Ren} {s s' s1 s2 t t1 t2:Hq} {w w' w1 w2:World} {ds0 ds:List Deferred} {env:Env} {a:Act}
theorem Ah{vs:List AV}{vs':List Value}(h:RelL ρ vs vs'):Rel ρ (oneV vs) (if h:vs'.toArray.size=1 then vs'.toArray[0]else .tuple vs'.toArray):=by
 match vs,h with
 |[],h=>unfold RelL at h;subst h;show Rel ρ (.tup []) _;grind [Rel,RelL.nil]
 | [x],h=>
   obtain⟨y,ys,rfl,h1,h2⟩:=h;unfold RelL at h2;subst h2;exact h1
 | x::x2::xs,h=>
   have hl:=h.length;show Rel ρ (.tup (x::x2::xs)) _
   grind [Rel,RelL.nil]
theorem Ai{fn:Func}{tm:Array Value}{vs':List Value}(h:(fn.results.toList.mapM λr=>(match r with
   | .tmp t=>pure (tm.getD t undef)
   | .cell a t=>do loadVar t (<- asAddr (tm.getD a undef)):Sem Value)).run P w=.ok vs' w) :
  (results fn tm).run P w=.ok (if h:vs'.toArray.size=1 then vs'.toArray[0]else .tuple vs'.toArray) w:=by
 have e:results fn tm=(do
  let vs <- fn.results.mapM λr=>(match r with
   | .tmp t=>pure (tm.getD t undef)
   | .cell a t=>do loadVar t (<- asAddr (tm.getD a undef)):Sem Value)
  pure (if h:vs.size=1 then vs[0]else .tuple vs)):=rfl
 rw[e,Array.mapM_eq_mapM_toList]
 simp_all
def setE:Env->List Tmp->List AV->Env
 |e,p::ps,v::vs=>setE (upd e p v) ps vs
 |e,_,_=>e
def dC(l:Nat)(K:Hq->Prop)(s:Hq):Prop:=match s l with
 |some (false,.loop .ready pd nt keep ps az bo d)=>K (hset s l (false,.loop .busy pd nt keep ps az bo d))
 |_=>False
def endK(l:Nat)(e:AExit)(K:AV->Hq->Prop)(s:Hq):Prop:=match s l with
 | some (false,.loop _ _ nt keep ps az bo d)=>(match e with
   | .nrm=>K true (hset s l (false,.loop .ready none nt keep ps az bo d))
   | .ret=>K false (hset s l (false,.loop .done (some .ret) nt keep ps az bo d))
   | .exit id=>K false (hset s l (false,.loop .done (some (.exit id)) nt keep ps az bo d)))
 |_=>False
theorem kT{args:List AV}{args':Array Value}(hr:RelL ρ args args'.toList)(hn:args.length<=nt):ER ρ nt (d7 args) (args'++Array.replicate (nt-args'.size) undef):=by
 have hl:args'.size=args.length:=by simpa using hr.length
 refine⟨by simp;omega,λi=>?_⟩;unfold d7;rw[getD_eq_getElem?_getD,Array.getD_eq_getD_getElem?]
 grind [kj,RelL.get]
theorem KW:∀(ps:List Tmp) (args:List AV) (vs:List Value) (env:Env) (tm:Array Value),ps.length=args.length->(ps.all λp=>blt p nt)=true->ER ρ nt env tm->RelL ρ args vs->ER ρ nt (setE env ps args) ((ps.zip vs).foldl (λtmps (x:Tmp×Value)=>tmps.setIfInBounds x.1 x.2) tm)
 |[],[],_,_,_,_,_,hT,_=>hT
 |[],_::_,_,_,_,h,_,_,_=>by cases h
 |_::_,[],_,_,_,h,_,_,_=>by cases h
 | p::ps,x::xs,vs,env,tm,hl,hp,hT,hr=>by
   obtain⟨y,ys,rfl,h1,h2⟩:=hr;simp only[all_cons,Bool.and_eq_true]at hp;exact KW ps xs ys _ _ (by simpa using hl) hp.2 (ER.put (a:={ tmps:=tm,defers:=[] }) hT hp.1 h1) h2
theorem nZ{tm:Array Value}(hf:Fit ρ base s t w)(hT:ER ρ nt env tm):∀(rs:List ResultVar) (k:List AV->Prop),resK P rs env k s->∃vs vs',(rs.mapM λr=>(match r with
   | .tmp t=>pure (tm.getD t undef)
   | .cell a t=>do loadVar t (<- asAddr (tm.getD a undef)):Sem Value)).run P w=.ok vs' w/\RelL ρ vs vs'/\k vs
 |[],k,h=>⟨[],[],sI,by unfold RelL;rfl,h⟩
 | .tmp d::rs,k,h=>by
   have ⟨vs,vs',a4,a5,a6⟩:=nZ hf hT rs _ h;exact⟨env d::vs,tm.getD d undef::vs',by simp_all,.cons (hT.at_ d) a5,a6⟩
 | .cell x ty::rs,k,h=>by
   have hx:=hT.at_ x;have ⟨ad,v,v',e1,e2,e3,e4⟩:=yx hf h hx;have ⟨vs,vs',a4,a5,a6⟩:=nZ hf hT rs _ e4;refine⟨v::vs,v'::vs',?_,.cons e3 a5,a6⟩;have ea:(asAddr (tm.getD x undef)).run P w=.ok ad w:=by rw[e1];rfl
   simp_all
theorem Aj{fn:Func}{tmps:Array Value}{R:Ending->World->Prop}{ds0:List Deferred}:∀{ms:List Nat}{ds:List Deferred}{w:World},Fit ρ base s (add t (mkH ms)) w->(∀i∈ms,t i=none/\s i=none)->ms.Nodup->DRel ρ ms ds ds0->
  (∀w',Fit ρ base s t w'->Below base w w'->LeavesInM Fence.wide 0 P fn tmps R ds0 .returning w')->LeavesInM Fence.wide 0 P fn tmps R ds .returning w
 | [],ds,w,hf,_,_,hd,hQ=>by
   subst hd;have e:add t (mkH [])=t:=by funext i;unfold add;cases t i<;>rfl
   rw[e]at hf;exact hQ w hf (.refl _ _)
 | m::ms,ds,w,hf,hm,hn,hd,hQ=>by
   obtain⟨L,ds',hL,rfl,hd⟩:=hd;have h1:add t (mkH (m::ms)) m=some (false,.deferred true):=by grind [aV,kP]
   have ⟨L',hL',hobj,_⟩:=hf.wr.at_ m false _ (bJ h1);rw[hL]at hL';cases hL';have ⟨q1,q2⟩:=hf.wr.put (tg:=false) (b:=.deferred false) (bJ h1) hL (KQ (.deferred none) hobj) rfl;have hf2:Fit ρ base s (add t (mkH ms)) (w.putObj L.blk (.deferred none)):=by
    refine⟨q1.sub λi e hi=>?_,λi x hx=>?_⟩
    ·grind [bg,add,mkH]
    ·have hne:i≠m:=(by grind [aV,zU])
     refine hf.fr i x ?_
     grind [add,mkH]
   exact⟨sI,.inl ⟨L.blk,_,rfl,run_takeDeferred hobj,Aj hf2 (λi hi=>hm i (by simp[hi])) (nodup_cons.1 hn).2 hd λw' a b=>hQ w' a (q2.trans b)⟩⟩
theorem Ak(A:Nat->List Nat){f:FuncId}{fn:Func}{c:Code}(hf:P.funcs[f]?=some fn)(hb:fn.body=some c){args:List AV}(hl:ble args.length fn.ntmps=true){K:AV->Hq->Prop}{s:Hq}
  (h:wpC P A fn.ntmps none c (d7 args) (λe env s=>retK e (resK P fn.results.toList env (λvs=>K (oneV vs) s) s)) s):wC P f args K s:=λg ρ base t w args' hfit hr=>by
 refine callsIn_of_wp_marks hf hb trivial ?_ rfl;refine ep (A:=A) (rnd:=none) c (d7 args) _ s h g t t ρ base w _ none [] _ hfit ((by simp_all [kT])) rfl .nil λe env' s' ρ' a' w' t2 k1 _ k3 k4 k5=>?_;have body:resK P fn.results.toList env' (λvs=>K (oneV vs) s') s'->LeavesInM Fence.wide 0 P fn a'.tmps (fQ ρ base s t w K) a'.defers .returning w':=λhk=>by obtain⟨ms,rfl,m1,m2,m3⟩:=k5;refine Aj k3.fit m1 m2 m3 λw2 f2 b2=>?_;have ⟨vs,vs',a4,a5,a6⟩:=nZ f2 k4 _ _ hk;exact⟨_,Ai a4,_,_,s',ρ',rfl,Ah a5,⟨k3.le,k3.below.trans b2,k3.pers,f2,k3.nw⟩,a6⟩
 cases e with
 |exit id=>exact k1.elim
 |nrm=>exact body k1
 |ret=>exact body k1
theorem je(A:Nat->List Nat){l:Nat}{args:List AV}{K:AV->Hq->Prop}{s:Hq}{e0:Bool}{st:LoopState}{pd:Option Code}{nt:Nat}{keep:List (Nat×AV)}{ps:List Tmp}{az bo:Code}{d:Nat}
  (hs:s l=some (e0,.loop st pd nt keep ps az bo d)) (hl:ps.length=args.length) (hnt:(ps.all λp=>blt p nt)=true)
  (h:∀f:Env,(∀p∈keep,f p.1=p.2)->wpC P A nt (some l) az (setE f ps args) (λe env s=>e=.nrm/\dC l (λs=>wpC P A nt (some l) bo env (λe _ s=>endK l e K s) s) s) s):dL P l args K s:=λg ρ base t w args' L n hf hL hr hy=>by
 have ⟨L',hL',⟨fn,tm,D,env,q1,q2,q3,q4,q5⟩,_⟩:=hf.get hs;rw[hL]at hL';cases hL';have hsz:args'.size=ps.length:=by have:=hr.length;simp at this;omega
 rw[run_yield q2 (by simpa using hsz)]at hy;cases hy;refine⟨_,_,_,_,rfl,?_⟩;refine roundIn_of_wpIn trivial ?_;have hT:ER ρ nt (setE env ps args) ((ps.toArray.zip args').foldl (λtmps (x:Tmp×Value)=>tmps.setIfInBounds x.1 x.2) tm):=by rw[<- Array.foldl_toList];simpa using KW ps args args'.toList env tm hl hnt ⟨q3,q4⟩ hr
 refine ep (A:=A) (rnd:=some l) az _ _ s (h env q5) g t t ρ base w { tmps:=_,defers:=[] } (some L.blk) [] _ hf hT ⟨L,hL,rfl⟩ .nil λe env1 s1 ρ1 a1 w1 t1 k1 _ k3 k4 k5=>?_;obtain⟨rfl,k1⟩:=k1;unfold dC at k1;split at k1
 ·rename_i pd1 nt1 keep1 ps1 as1 bo1 d1 hs1
  obtain⟨rc,b1,b2,b3,b4⟩:=Ad (st2:=.busy) (pd2:=pd1) k3.fit (k3.le _ _ hL) hs1;have erc:{ rc with state:=LoopState.busy,pending:=pd1 }={ rc with state:=LoopState.busy }:=by rw[<- b3]
  rw[erc]at b4;refine⟨_,run_beginRound b1 b2,?_⟩;refine ep (A:=A) (rnd:=some l) bo _ _ _ k1 g t t1 ρ1 base _ a1 (some L.blk) [] _ b4.fit k4 ⟨L,k3.le _ _ hL,rfl⟩ (k5.step b4) λe env2 s2 ρ2 a2 w2 t2 j1 _ j3 j4 j5=>?_;have sg:=(k3.trans (.of b4 k5)).trans j3;have fin:∀{st3 pd3 v},(∃st' pd' keep' ps' as' bo' d' nt',s2 l=some (false,.loop st' pd' nt' keep' ps' as' bo' d')/\K v (hset s2 l (false,.loop st3 pd3 nt' keep' ps' as' bo' d')))->∃rc:Loop,w2.heap[L.blk]?=some (.loop rc)/\∀v',Rel ρ2 v v'->fQ ρ base s t w K (.returned v') (w2.putObj L.blk (.loop { rc with state:=st3,pending:=pd3 })):=fun {st3 pd3 v} ⟨st',pd',keep',ps',as',bo',d',nt',hs2,hk⟩=>by
   have ⟨rc,c1,c2,c3,c4⟩:=Ad (st2:=st3) (pd2:=pd3) j3.fit (sg.le _ _ hL) hs2;refine⟨rc,c1,λv' hv=>⟨v,v',_,ρ2,rfl,hv,⟨sg.le,sg.below.trans c4.below,sg.pers.trans c4.pers,c4.fit.drop (λi x hx=>?_) (λi h1 h2=>?_),λi a b=>c4.nw i (by rw[j5.fr a];exact a) (sg.nw i a b)⟩,hk⟩⟩
   ·rw[j5.fr (by rw[hx];simp)];exact hx
   ·obtain⟨ms,rfl,m1,_,_⟩:=j5.step c4
    grind [aV,zU]
  unfold endK at j1;split at j1
  ·rename_i st' pd' nt' keep' ps' as' bo' d' hs2
   cases e with
   | nrm=>
     have ⟨rc,c1,c2⟩:=fin ⟨_,_,_,_,_,_,_,_,hs2,j1⟩;exact⟨_,_,run_endRound none c1,c2 _ (by unfold Rel;rfl)⟩
   | ret=>
     have ⟨rc,c1,c2⟩:=fin ⟨_,_,_,_,_,_,_,_,hs2,j1⟩;exact⟨_,_,run_endRound (some .ret) c1,c2 _ (by unfold Rel;rfl)⟩
   | exit id=>
     have ⟨rc,c1,c2⟩:=fin ⟨_,_,_,_,_,_,_,_,hs2,j1⟩;exact⟨_,_,run_endRound (some (.exit id)) c1,c2 _ (by unfold Rel;rfl)⟩
  ·exact j1.elim
 ·exact k1.elim
theorem wC.mono{f:FuncId}{args:List AV}{K K':AV->Hq->Prop}(h:wC P f args K s)(hk:∀v s',K v s'->K' v s'):wC P f args K' s:=λg ρ base t w args' hf hr=>
 (h g ρ base t w args' hf hr).mono λ_ _ ⟨v,v',s',ρ',h1,h2,h3,h4⟩=>⟨v,v',s',ρ',h1,h2,h3,hk _ _ h4⟩
theorem tZ{K:AV->Hq->Prop}{r:Hq}(hsub:Sub r s)(hf:Fit ρ base s t w):Fit ρ base r (add t (rest s r)) w/\
  ∀e w',fQ ρ base r (add t (rest s r)) w (λv s1=>(∀i,s i≠none->r i=none->s1 i=none)->K v (add s1 (rest s r))) e w'->fQ ρ base s t w K e w':=by
 have rno:∀i,s i=none->r i=none:=λi hi=>by
  cases q:r i with
  |none=>rfl
  |some x=>rw[hsub i x q]at hi;cases hi
 have r0:∀i,r i=none->rest s r i=s i:=λi hi=>if_pos hi;have r1:∀i x,r i=some x->rest s r i=none:=λi x hi=>if_neg (by rw[hi];simp);have e1:add (add t (rest s r)) r=add t s:=by
  funext i
  cases q:t i with
  |some x=>grind [bJ]
  | none=>
    rw[aV q];cases q2:r i with
    |some y=>rw[aV (by grind [aV]),q2,hsub i y q2]
    | none=>
      cases q3:s i with
      |none=>grind [aV]
      |some y=>grind [bJ,aV]
 have hf2:Fit ρ base r (add t (rest s r)) w:=⟨by rw[e1];exact hf.wr,λi x hx=>by
  cases q2:r i with
  |none=>exact .inl rfl
  | some y=>
    cases q:t i with
    |none=>grind [aV]
    | some z=>
      rw[bJ q]at hx;cases hx;rcases hf.fr i _ q with k|k
      ·grind
      ·rw[hsub i y q2]at k;exact .inr k⟩
 refine⟨hf2,?_⟩;rintro e w' ⟨v,v',s1,ρ',rfl,hv,st,k⟩;have out:∀i,r i=none->s i≠none->s1 i=none:=λi hi hs=>st.nw i (by
  cases q:t i with
  |some x=>rw[bJ q];simp
  |none=>grind [aV]) hi
 have e2:add t (add s1 (rest s r))=add (add t (rest s r)) s1:=by
  grind [rest,add]
 refine⟨v,v',add s1 (rest s r),ρ',rfl,hv,⟨st.le,st.below,λi b hi=>?_,⟨by rw[e2];exact st.fit.wr,λi x hx=>?_⟩,λi hi hs=>?_⟩,k λi hi hr=>out i hr hi⟩
 ·cases q:r i with
  | some x=>
    have:=hsub i x q;rw[hi]at this;cases this;exact bJ (st.pers i b q)
  |none=>grind [aV]
 ·have:=st.fit.fr i x (bJ hx)
  cases q:s1 i with
  |some y=>grind [bJ]
  | none=>
    rw[aV q];cases q2:r i with
    |some y=>exact .inl (r1 i y q2)
    |none=>rw[r0 i q2];exact hf.fr i x hx
 ·have hri:=rno i hs
  rw[aV (st.nw i (by cases q:t i with
   |none=>exact absurd q hi
   |some x=>rw[bJ q];simp) hri),r0 i hri]
  exact hs
theorem wC.frame{f:FuncId}{args:List AV}{K:AV->Hq->Prop}{r:Hq}(hsub:Sub r s)
  (h:wC P f args (λv s1=>(∀i,s i≠none->r i=none->s1 i=none)->K v (add s1 (rest s r))) r):wC P f args K s:=λg ρ base t w args' hf hr=>
 (h g ρ base _ w args' (tZ (K:=K) hsub hf).1 hr).mono (tZ hsub hf).2
theorem Rd{f:Nat}{args:List AV}{K:AV->Hq->Prop}{r:Hq}(hsub:Sub r s)
  (h:dL P f args (λv s1=>(∀i,s i≠none->r i=none->s1 i=none)->K v (add s1 (rest s r))) r):dL P f args K s:=λg ρ base t w args' L n hf hL hr hy=>by
 have ⟨fn,tm,az,bo,h1,h2⟩:=h g ρ base _ w args' L n (tZ (K:=K) hsub hf).1 hL hr hy;exact⟨fn,tm,az,bo,h1,h2.mono (tZ hsub hf).2⟩
theorem KX{f:Nat}{args:List AV}{K K':AV->Hq->Prop}(h:dL P f args K s)(hk:∀v s',K v s'->K' v s'):dL P f args K' s:=λg ρ base t w args' L n hf hL hr hy=>by have ⟨fn,tm,az,bo,h1,h2⟩:=h g ρ base t w args' L n hf hL hr hy;exact⟨fn,tm,az,bo,h1,h2.mono λ_ _ ⟨v,v',s',ρ',q1,q2,q3,q4⟩=>⟨v,v',s',ρ',q1,q2,q3,hk _ _ q4⟩⟩
theorem wC.part{f:FuncId}{args:List AV}{K:AV->Hq->Prop}{r:Hq}(hsub:Sub r s)
  (h:wC P f args (λv s1=>∀s',Sub s1 s'->(∀i,r i=none->s i≠none->s' i=s i/\s1 i=none)->K v s') r):wC P f args K s:=
 wC.frame hsub (h.mono λv s1 hk hout=>hk _ (λi e hi=>bJ hi) λi hr hi=>⟨by rw[aV (hout i hi hr)];exact if_pos hr,hout i hi hr⟩)
def minus(s h:Hq):Hq:=λi=>if h i=none then s i else none
theorem unlock{S h:Hq}(hs:Sub h S):add h (lock S h)=S:=by
 funext i
 cases q:h i with
 |some x=>rw[bJ q];exact(hs i x q).symm
 |none=>grind [aV,dJ]
theorem Re{S h:Hq}{b:Nat}(hs:Sub h S):lock S h b=none↔S b=none:=by
 cases q:h b with
 |some x=>rw[fV q,cG (hs b x q),hs b x q];simp
 |none=>rw[dJ q]
theorem KY{S h:Hq}{b:Nat}(hs:Sub h S)(hb:S b=none):h b=none:=by
 cases q:h b with
 |none=>rfl
 |some x=>rw[hs b x q]at hb;cases hb
theorem Al{S h:Hq}{b:Nat}{x:Bool×Blk}(hb:h b=none):lock (hset S b x) h=hset (lock S h) b x:=by
 funext i
 by_cases q:i=b
 ·grind [dJ,cr]
 ·rw[bg q]
  cases q2:h i with
  |some y=>grind [fV,frz,bg]
  |none=>grind [dJ,bg]
theorem n9{S h:Hq}{el:TypeId}{cs:List AV}{K:Nat->Hq->Prop}(hs:Sub h S)(hk:newK el cs (λb S2=>Sub h S2->K b (lock S2 h)) S):newK el cs K (lock S h):=λb hb=>by
 have hb:=(Re hs).1 hb;have:=hk b hb λi x hi=>by rw[bg λq=>by subst q;rw[KY hs hb]at hi;cases hi];exact hs i x hi
 rw[Al (KY hs hb)]at this;exact this
theorem Am{f:FuncId}{args:List AV}{K:AV->Hq->Prop}{h:Hq}(hs:Sub h s)
  (hc:wC P f args (λv s1=>(∀i,h i≠none->s1 i=none)->K v (lock (add s1 h) h)) (minus s h)):wC P f args K (lock s h):=by
 have hm:Sub (minus s h) (lock s h):=λi x hi=>by
  unfold minus at hi;split at hi
  ·rename_i q;rw[dJ q];exact hi
  ·cases hi
 refine wC.frame hm (hc.mono λv s1 hk hout=>?_);have h1:=λi hi=>by
  cases q:h i with
  |none=>exact absurd q hi
  |some x=>exact hout i (by rw[fV q,cG (hs i x q)];simp) (if_neg hi)
 have e:lock (add s1 h) h=add s1 (rest (lock s h) (minus s h)):=by
  funext i
  cases q:h i with
  | some x=>
    rw[fV q,cG (by rw[aV (h1 i (by rw[q];simp))];exact q),aV (h1 i (by rw[q];simp))];unfold rest minus;rw[if_pos (if_neg (by rw[q];simp)),fV q,cG (hs i x q)]
  | none=>
    rw[dJ q];cases q2:s1 i with
    |some y=>grind [bJ]
    | none=>
      grind [aV,rest,minus,dJ]
 grind
abbrev oneH(s:Hq)(q:Nat):Hq:=λi=>if i=q then s i else none
theorem oe{q:Nat}:Sub (oneH s q) s:=λi x hi=>by
 by_cases k:i=q
 ·simpa [oneH,k]using hi
 ·simp[oneH,k]at hi
theorem iC{q:Nat}{x:Option (Bool×Blk)}(h:s q=x):oneH s q q=x:=(if_pos rfl).trans h
theorem ua{q:Nat}{S:Hq}(h:S q=s q):Sub (oneH s q) S:=λi x hi=>by
 by_cases k:i=q
 ·subst k;rw[h];simpa [oneH]using hi
 ·simp[oneH,k]at hi
theorem An{q:Nat}{S:Hq}(h:S q=s q):oneH s q=oneH S q:=by
 grind
theorem og{f:FuncId}{args:List AV}{K:AV->Hq->Prop}{q:Nat}
  (hc:wC P f args (λv s1=>(∀i,s i≠none->hdel s q i=none->s1 i=none)->K v (lock (add s1 (rest s (hdel s q))) (oneH s q))) (hdel s q)):wC P f args K (lock s (oneH s q)):=by
 have e:minus s (oneH s q)=hdel s q:=by
  funext i
  unfold minus hdel
  grind
 refine Am oe ?_;rw[e];refine hc.mono λv s1 hk hout=>?_;have e2:add s1 (rest s (hdel s q))=add s1 (oneH s q):=by
  funext i
  unfold add;cases s1 i with
  |some _=>rfl
  | none=>
    unfold rest
    by_cases k:i=q
    ·simp_all [eo]
    simp_all [bZ]
 rw[<- e2];refine hk λi hi hd=>hout i ?_
 by_cases k:i=q
 ·grind
 grind [bZ]
end
open Go.ChangeShapes Go.WideShapes Go.ChangeAt
def tiles(P:Program)(total:Nat):Nat->List Field->Bool
 |off,[]=>beq off total
 |off,f::fs=>beq f.offset off&&tiles P total (off+P.cellsOf f.type) fs
def plainT(P:Program):Nat->TypeId->Bool
 | 0,_=>false
 | d+1,t=>match P.underlying t with
   |some .bool|some (.int _)|some .string=>true
   |some (.slice e)=>blt 0 (P.cellsOf e)&&plainT P d e
   |some (.struct fs)=>tiles P (P.cellsOf t) 0 fs.toList&&fs.toList.all λf=>plainT P d f.type
   |some (.array n e)=>beq (P.cellsOf t) (n*P.cellsOf e)&&(blt 0 (P.cellsOf e)&&plainT P d e)
   |_=>false
def Inp(P:Program)(s:Hq):Nat->TypeId->List AV->Prop
 | 0,_,_=>False
 | d+1,t,xs=>match P.underlying t with
   |some .bool=>∃b,xs=[.bool b]
   |some (.int k)=>∃n,xs=[.int k n]/\(Lit.int k n).wf=true
   |some .string=>∃v,xs=[.str v]/\v.size<=maxLen
   |some (.slice e)=>xs=[.nilslc]∨∃b len cap,xs=[.slc b 0 len (some cap) (P.cellsOf e)]/\len<=cap/\cap<=maxLen/\
     (0<cap->∃el l,s b=some (true,.cells el l)/\l.length=cap*P.cellsOf e/\∀i,i<cap->Inp P s d e ((l.drop (i*P.cellsOf e)).take (P.cellsOf e)))
   |some (.struct fs)=>xs.length=P.cellsOf t/\∀f∈fs.toList,Inp P s d f.type ((xs.drop f.offset).take (P.cellsOf f.type))
   |some (.array n e)=>xs.length=P.cellsOf t/\∀i,i<n->Inp P s d e ((xs.drop (i*P.cellsOf e)).take (P.cellsOf e))
   |_=>False
abbrev IB:=List (Loc×TypeId×List AV)
def rhoB(B:IB):Ren:=λid=>match id with
 | 0=>some ⟨0,0,0⟩
 | i+1=>match B[i]? with
   |some x=>some x.1
   |none=>none
def eD(B:IB):Hq:=λid=>match id with
 | 0=>none
 | i+1=>match B[i]? with
   |some x=>some (true,.cells x.2.1 x.2.2)
   |none=>none
theorem oh(B C:IB):Le (rhoB B) (rhoB (B++C)):=by
 intro id L h;cases id with
 |zero=>exact h
 | succ i=>
   grind [rhoB]
theorem uc(B C:IB):Sub (eD B) (eD (B++C)):=by
 intro id L h;cases id with
 |zero=>exact h
 | succ i=>
   grind [eD]
theorem Inp.sub{P:Program}{s s':Hq}(hs:Sub s s'):∀(d:Nat) (t:TypeId) (xs:List AV),Inp P s d t xs->Inp P s' d t xs
 | 0,_,_,h=>h
 | d+1,t,xs,h=>by
   unfold Inp at h ⊢;split at h;exact h;exact h;exact h;rcases h with h|⟨b,len,cap,h1,h2,h3,h4⟩;exact .inl h;refine .inr ⟨b,len,cap,h1,h2,h3,λhc=>?_⟩;have ⟨el,l,q1,q2,q3⟩:=h4 hc;exact⟨el,l,hs _ _ q1,q2,λi hi=>Inp.sub hs d _ _ (q3 i hi)⟩;exact⟨h.1,λf hf=>Inp.sub hs d _ _ (h.2 f hf)⟩;exact⟨h.1,λi hi=>Inp.sub hs d _ _ (h.2 i hi)⟩;exact h
def VB(B:IB)(W:World):Prop:=∀(i:Nat) (x:Loc×TypeId×List AV),B[i]?=some x->∃(cc:Array Value) (fr:Nat×Nat),W.heap[x.1.blk]?=some (.cells cc x.2.1 fr)/\cc.size=x.1.sz/\x.1.sh+x.2.2.length<=cc.size/\aD x.2.2=true/\
 ∀(j:Nat) (v:AV),x.2.2[j]?=some v->∃v',cc[x.1.sh+j]?=some v'/\Rel (rhoB B) v v'/\v'.oneCell'=true
theorem VB.snoc{B:IB}{W:World}(h:VB B W)(x:Loc×TypeId×List AV)
  (hx:∃(cc:Array Value) (fr:Nat×Nat),W.heap[x.1.blk]?=some (.cells cc x.2.1 fr)/\cc.size=x.1.sz/\x.1.sh+x.2.2.length<=cc.size/\aD x.2.2=true/\∀(j:Nat) (v:AV),x.2.2[j]?=some v->∃v',cc[x.1.sh+j]?=some v'/\Rel (rhoB B) v v'/\v'.oneCell'=true):VB (B ++ [x]) W:=by
 intro i y hy;rw[getElem?_append]at hy;split at hy;obtain⟨cc,fr,h1,h2,h3,h4,h5⟩:=h i y hy;exact⟨cc,fr,h1,h2,h3,h4,λj v hv=>let ⟨v',q1,q2,q3⟩:=h5 j v hv;⟨v',q1,Rel.mono (oh B [x]) _ _ q2,q3⟩⟩;have:y=x:=by
  grind
 subst this;have ⟨cc,fr,h1,h2,h3,h4,h5⟩:=hx;exact⟨cc,fr,h1,h2,h3,h4,λj v hv=>let ⟨v',q1,q2,q3⟩:=h5 j v hv;⟨v',q1,Rel.mono (oh B [y]) _ _ q2,q3⟩⟩
section
variable {H:Type} {enc:TypeId × Value→H} {P:Program} {W:World}
theorem Ao(Q:Nat->List AV->Hq->Prop)(hQ:∀i xs s s',Sub s s'->Q i xs s->Q i xs s')(css:Nat->List Value):∀(n:Nat) (B:IB),VB B W->
  (∀i,i<n->∀B,VB B W->∃xs C,VB (B++C) W/\RelL (rhoB (B++C)) xs (css i)/\aD xs=true/\Q i xs (eD (B++C)))->
  ∃(xss:Nat->List AV) (C:IB),VB (B++C) W/\∀i,i<n->RelL (rhoB (B++C)) (xss i) (css i)/\aD (xss i)=true/\Q i (xss i) (eD (B++C))
 | 0,B,hB,_=>⟨λ_=>[],[],by simpa using hB,λi hi=>oM⟩
 | n+1,B,hB,h=>by
   have ⟨xss,C,h1,h2⟩:=Ao Q hQ css n B hB λi hi=>h i oM;have ⟨xs,D,g1,g2,g3,g4⟩:=h n oM (B++C) h1;refine⟨λi=>if i=n then xs else xss i,C++D,gR,λi hi=>?_⟩
   grind [RelL.mono,oh,uc]
def pieces(xss:Nat->List AV)(es n:Nat):List AV:=(List.range (n*es)).map λj=>(xss (j / es)).getD (j % es) .undef
theorem jf(xss:Nat->List AV)(es n:Nat):(pieces xss es n).length=n*es:=by simp[pieces]
theorem oi(xss:Nat->List AV)(es n j:Nat)(h:j<n*es):(pieces xss es n)[j]?=some ((xss (j / es)).getD (j % es) .undef):=by simp[pieces,h]
theorem KZ(xss:Nat->List AV)(es n i:Nat)(h0:0<es)(hi:i<n)(hl:(xss i).length=es):((pieces xss es n).drop (i*es)).take es=xss i:=by
 have hm:(i+1)*es<=n*es:=mul_le_mul_right _ hi;rw[Nat.add_mul,Nat.one_mul]at hm;apply ext_getElem?;intro j;rw[getElem?_take];split;rename_i hj;rw[getElem?_drop,oi _ _ _ _ oM];have e1:(i*es+j) / es=i:=by rw[Nat.mul_comm,mul_add_div h0,div_eq_of_lt hj];omega
 have e2:(i*es+j) % es=j:=by rw[Nat.mul_comm,mul_add_mod,mod_eq_of_lt hj]
 grind
 grind
theorem K2{l:List AV}(h:∀(j:Nat) (v:AV),l[j]?=some v->v.one=true):aD l=true:=yu λx hx=>by have ⟨i,hi⟩:=getElem?_of_mem hx;exact h i x hi
theorem K3{P:Program}{total:Nat}:∀{fs:List Field}{off:Nat},tiles P total off fs=true->off<=total
 |[],off,h=>by have:=bE h;omega
 | f::fs,off,h=>by
   have:=K3 (Bool.and_eq_true_iff.1 h).2;omega
theorem K4(d:Nat)(cs:List Value)(total:Nat)(hl:cs.length=total):∀(fs:List Field) (off:Nat) (B:IB),VB B W->tiles P total off fs=true->
  (∀f∈fs,∀B,VB B W->∃xs C,VB (B++C) W/\RelL (rhoB (B++C)) xs ((cs.drop f.offset).take (P.cellsOf f.type))/\aD xs=true/\Inp P (eD (B++C)) d f.type xs)->
  ∃xs C,VB (B++C) W/\RelL (rhoB (B++C)) xs (cs.drop off)/\aD xs=true/\∀f∈fs,off<=f.offset/\Inp P (eD (B++C)) d f.type ((xs.drop (f.offset-off)).take (P.cellsOf f.type))
 | [],off,B,hB,ht,_=>by
   refine⟨[],[],by simpa using hB,?_,rfl,sI⟩;have:=bE ht
   grind [RelL.nil]
 | f::fs,off,B,hB,ht,h=>by
   have ⟨h1,h2⟩:=Bool.and_eq_true_iff.1 ht;have ho:=bE h1;have hle:=K3 h2;have ⟨xs,C,g1,g2,g3,g4⟩:=h f sI B hB;have ⟨ys,D,k1,k2,k3,k4⟩:=K4 d cs total hl fs (off+P.cellsOf f.type) (B++C) g1 h2 λf' hf'=>h f' (by simp[hf']);have hx:xs.length=P.cellsOf f.type:=by
    have:=g2.length
    grind
   refine⟨xs++ys,C++D,gR,?_,tI g3 k3,λf' hf'=>?_⟩;have e:cs.drop off=(cs.drop f.offset).take (P.cellsOf f.type)++cs.drop (off+P.cellsOf f.type):=by rw[ho,<- drop_drop,take_append_drop]
   grind [RelL.append,RelL.mono,oh]
   rw[<- append_assoc];rcases mCY hf' with rfl|hf';rw[ho,Nat.sub_self,drop_zero,<- hx,take_left]
   grind [Inp.sub,uc]
   have ⟨q1,q2⟩:=k4 f' hf';refine⟨oM,?_⟩;have e:(xs++ys).drop (f'.offset-off)=ys.drop (f'.offset-(off+P.cellsOf f.type)):=by
    rw[drop_append,drop_eq_nil_of_le oM,nil_append,hx]
    congr 1;omega
   rw[e];exact q2
theorem ud:∀(d:Nat) (t:TypeId) (cs:List Value) (fuel:Nat) (x:DataW H×List MemPlace),plainT P d t=true->DataW.trod enc P W 0 (λ_=>true) true fuel t cs=some x->
  ∀B,VB B W->∃xs C,VB (B++C) W/\RelL (rhoB (B++C)) xs cs/\aD xs=true/\Inp P (eD (B++C)) d t xs
 | 0,_,_,_,_,hp,_,_,_=>by cases hp
 | d+1,t,cs,fuel,x,hp,h,B,hB=>by
   unfold plainT at hp;unfold Inp;split at hp;rename_i hu;obtain⟨b,rfl,_⟩:=DataW.trod_bool hu h;refine⟨[b],[],by simpa using hB,.cons (by unfold Rel;rfl) .nil,rfl,?_⟩;exact⟨b,rfl⟩;rename_i k hu;obtain⟨n,rfl,_,hw⟩:=DataW.trod_int hu h;refine⟨[.int k n],[],by simpa using hB,.cons (by unfold Rel;rfl) .nil,rfl,?_⟩;exact⟨n,rfl,hw⟩;rename_i hu;obtain⟨v,rfl,_,hv⟩:=DataW.trod_string hu h;refine⟨[.str v],[],by simpa using hB,.cons (by unfold Rel;rfl) .nil,rfl,?_⟩;exact⟨v,rfl,hv⟩
   ·rename_i e hu
    have ⟨hp1,hp2⟩:=Bool.and_eq_true_iff.1 hp;have hes:0<P.cellsOf e:=by rwa [blt_eq]at hp1
    rcases DataW.trod_slice hu h with⟨rfl,_⟩|⟨a,len,cap,elems,rest,n,_,rfl,_,_,hlc,hcm,hel,hrd,hsp,_⟩;exact⟨[.nilslc],[],by simpa using hB,.cons (by unfold Rel;rfl) .nil,rfl,.inl rfl⟩
    ·have ⟨hrl,hrd2⟩:=hsp rfl
     have each:∀i,i<cap->∃y,(W.cells? 0 (a.add (i*P.cellsOf e)) (P.cellsOf e)).bind (DataW.trod enc P W 0 (λ_=>true) true n e)=some y:=by
      intro i hi
      by_cases hil:i<len
      grind
      have:=hrd2 (i-len) oM
      grind
     by_cases hc:cap=0
     ·subst hc
      have hl0:len=0:=oM;subst hl0;refine⟨[.slc 0 0 0 (some 0) (P.cellsOf e)],[],by simpa using hB,.cons ?_ .nil,rfl,gR⟩;exact⟨⟨0,0,0⟩,a,0,rfl,rfl,.inr ⟨rfl,rfl⟩,Nat.le_refl _,λk hk=>by cases hk;rfl⟩
     ·have css:∀i,i<cap->∃c,W.cells? 0 (a.add (i*P.cellsOf e)) (P.cellsOf e)=some c/\∃y,DataW.trod enc P W 0 (λ_=>true) true n e c=some y:=by
       intro i hi;have ⟨y,hy⟩:=each i hi;rw[Option.bind_eq_some_iff]at hy
       grind
      have ⟨xss,C,h1,h2⟩:=Ao (W:=W) (λ_ xs s=>Inp P s d e xs) ((by grind [Inp.sub])) (λi=>(W.cells? 0 (a.add (i*P.cellsOf e)) (P.cellsOf e)).getD []) cap B hB λi hi B hB=>by have ⟨c,g1,y,g2⟩:=css i hi;rw[g1];exact ud d e c n y hp2 g2 B hB
      have cell:∀i j,i<cap->j<P.cellsOf e->∃v,W.cell? (a.add (i*P.cellsOf e+j))=some v/\((W.cells? 0 (a.add (i*P.cellsOf e)) (P.cellsOf e)).getD [])[j]?=some v:=by
       intro i j hi hj;have ⟨c,g1,_⟩:=css i hi;have ⟨_,g2,g3⟩:=World.cells?_some g1;have g4:=g3 j hj;rw[gE oM]at g4;refine⟨c[j]'oM,?_,by rw[g1];simp⟩;rw[<- g4]
       congr 1
       unfold Addr.add
       grind
      have ⟨v0,hv0,_⟩:=cell 0 0 oM hes;rw[Nat.zero_mul,zAY]at hv0;have hblk:∃cc el fr,W.heap[a.block]?=some (.cells cc el fr)/\a.spot=none:=by
       have e0:a.add 0=a:=by simp[Addr.add]
       unfold World.cell? at hv0;split at hv0
       simp_all
       ·cases hv0
      have ⟨cc,el,fr,hb,hspot⟩:=hblk;have ha:a=⟨a.block,a.off,none⟩:=by cases a;grind
      have at_:∀k,k<cap*P.cellsOf e->∃v,cc[a.off+k]?=some v/\((W.cells? 0 (a.add ((k / P.cellsOf e)*P.cellsOf e)) (P.cellsOf e)).getD [])[k % P.cellsOf e]?=some v:=by
       intro k hk;have hq:k / P.cellsOf e<cap:=by rw[div_lt_iff_lt_mul hes];exact hk
       have ⟨v,g1,g2⟩:=cell (k / P.cellsOf e) (k % P.cellsOf e) hq (mod_lt _ hes);refine⟨v,?_,g2⟩;rw[Nat.mul_comm,div_add_mod,ha,fB,iY hb]at g1;exact g1
      have hlen:∀i,i<cap->(xss i).length=P.cellsOf e:=by intro i hi;have:=(h2 i hi).1.length;have ⟨c,g1,_⟩:=css i hi;rw[g1]at this;rw[<- this];exact(World.cells?_some g1).2.1
      have hsz:a.off+cap*P.cellsOf e<=cc.size:=by
       have hpos:0<cap*P.cellsOf e:=Nat.mul_pos oM hes;have ⟨v,g1,_⟩:=at_ (cap*P.cellsOf e-1) oM
       grind
      have hvb:VB ((B++C) ++ [(⟨a.block,a.off,cc.size⟩,el,pieces xss (P.cellsOf e) cap)]) W:=by
       refine h1.snoc _ ⟨cc,fr,hb,rfl,by grind [jf],?_,λj v hv=>?_⟩;refine K2 λj v hv=>?_;have hj:j<cap*P.cellsOf e:=by grind [jf]
       rw[oi _ _ _ _ hj]at hv;have hq:j / P.cellsOf e<cap:=by rw[div_lt_iff_lt_mul hes];exact hj
       have hm:j % P.cellsOf e<(xss (j / P.cellsOf e)).length:=by rw[hlen _ hq];exact mod_lt _ hes
       grind [mJ]
       ·have hj:j<cap*P.cellsOf e:=by grind [jf]
        rw[oi _ _ _ _ hj]at hv;have hq:j / P.cellsOf e<cap:=by rw[div_lt_iff_lt_mul hes];exact hj
        have hm:j % P.cellsOf e<(xss (j / P.cellsOf e)).length:=by rw[hlen _ hq];exact mod_lt _ hes
        rw[getD_eq_getElem?_getD,gE hm]at hv;cases hv;have ⟨r1,r2,_⟩:=h2 _ hq;have ⟨y,g1,g2⟩:=r1.get (j % P.cellsOf e) _ (gE hm);have ⟨v',k1,k2⟩:=at_ j hj;rw[g1]at k2;cases k2;exact⟨y,k1,g2,J4 g2 (mJ r2 _ (getElem_mem hm))⟩
      refine⟨[.slc ((B++C).length+1) 0 len (some cap) (P.cellsOf e)],C ++ [(⟨a.block,a.off,cc.size⟩,el,pieces xss (P.cellsOf e) cap)],gR,?_,rfl,.inr ⟨_,len,cap,rfl,hlc,hcm,λ_=>⟨el,pieces xss (P.cellsOf e) cap,?_,jf _ _ _,λi hi=>?_⟩⟩⟩
      ·rw[<- append_assoc]
       refine .cons ?_ .nil;refine⟨⟨a.block,a.off,cc.size⟩,a,cap,?_,rfl,.inl ⟨ha,by simpa using hsz⟩,hlc,λk hk=>by cases hk;rfl⟩;unfold rhoB;simp
      unfold eD;simp;rw[KZ _ _ _ _ hes hi (hlen i hi),<- append_assoc]
      grind [Inp.sub,uc]
   rename_i fs hu;have ⟨hp1,hp2⟩:=Bool.and_eq_true_iff.1 hp;have ⟨xs,n,_,_,hl,hxl,hx⟩:=DataW.trod_struct hu h;have ⟨ys,C,g1,g2,g3,g4⟩:=K4 (W:=W) (P:=P) d cs (P.cellsOf t) hl fs.toList 0 B hB hp1 λf hf B hB=>by
    have ⟨i,hi⟩:=getElem?_of_mem hf;have hi':fs[i]?=some f:=by simpa using hi
    have:=hx i f hi';rw[gE gR]at this;exact ud d f.type _ n _ (all_eq_true.1 hp2 f hf) this B hB
   grind [RelL.length]
   ·rename_i n e hu
    have ⟨hp1,hp2⟩:=Bool.and_eq_true_iff.1 hp;have ⟨hp2,hp3⟩:=Bool.and_eq_true_iff.1 hp2;have hes:0<P.cellsOf e:=by rwa [blt_eq]at hp2
    have htot:=bE hp1;have ⟨ys,m,_,_,hl,hyl,hy⟩:=DataW.trod_array hu h;have ⟨xss,C,h1,h2⟩:=Ao (W:=W) (λ_ xs s=>Inp P s d e xs) ((by grind [Inp.sub])) (λi=>(cs.drop (i*P.cellsOf e)).take (P.cellsOf e)) n B hB λi hi B hB=>by have:=hy i hi;rw[gE oM]at this;exact ud d e _ m _ hp3 this B hB
    have hlen:∀i,i<n->(xss i).length=P.cellsOf e:=by
     intro i hi;have:=(h2 i hi).1.length;have:(i+1)*P.cellsOf e<=n*P.cellsOf e:=mul_le_mul_right _ hi
     grind
    refine⟨pieces xss (P.cellsOf e) n,C,h1,?_,?_,by rw[jf,htot],λi hi=>?_⟩
    ·refine RelL.of_get (by grind [jf]) λj x y hx hy'=>?_
     have hj:j<n*P.cellsOf e:=gR;rw[oi _ _ _ _ hj]at hx;have hq:j / P.cellsOf e<n:=by rw[div_lt_iff_lt_mul hes];exact hj
     have hm:j % P.cellsOf e<(xss (j / P.cellsOf e)).length:=by rw[hlen _ hq];exact mod_lt _ hes
     rw[getD_eq_getElem?_getD,gE hm]at hx;cases hx;have ⟨y',g1,g2⟩:=(h2 _ hq).1.get (j % P.cellsOf e) _ (gE hm);rw[getElem?_take,if_pos (mod_lt _ hes),getElem?_drop,Nat.mul_comm,div_add_mod,hy']at g1;cases g1;exact g2
    refine K2 λj v hv=>?_;have hj:j<n*P.cellsOf e:=by grind [jf]
    rw[oi _ _ _ _ hj]at hv;have hq:j / P.cellsOf e<n:=by rw[div_lt_iff_lt_mul hes];exact hj
    have hm:j % P.cellsOf e<(xss (j / P.cellsOf e)).length:=by rw[hlen _ hq];exact mod_lt _ hes
    grind [mJ]
    grind [KZ]
   ·cases hp
end
section
variable {H:Type} {enc:TypeId × Value→H} {P:Program} {W:World}
def Arg(P:Program)(s:Hq)(d:Nat)(t:TypeId)(v:AV):Prop:=Inp P s d t v.cells/\(dR P t=some true->∃l,v=.agg l/\aD l=true)/\(dR P t≠some true->v.cells=[v])
def ArgL(P:Program)(s:Hq)(d:Nat):List TypeId->List AV->Prop
 |[],[]=>True
 |t::ts,v::vs=>Arg P s d t v/\ArgL P s d ts vs
 |_,_=>False
theorem Arg.sub{s s':Hq}(hs:Sub s s'){d:Nat}{t:TypeId}{v:AV}(h:Arg P s d t v):Arg P s' d t v:=⟨Inp.sub hs _ _ _ h.1,h.2⟩
theorem Rf{base:Nat}{t:TypeId}{v:Value}{d:Nat}(hp:plainT P d t=true)(h:Value.okWide P W .any base t v):(dR P t=some true/\∃cs,v=.agg cs)∨(dR P t≠some true/\v.cells=#[v]):=by
 cases d with
 |zero=>cases hp
 | succ d=>
   unfold plainT at hp;unfold Value.okWide at h;unfold dR;split at hp<;>rename_i hu
   all_goals (try rw[hu]at h)
   all_goals (try simp only at h)
   ·right
    unfold Cell.okWide Cell.ok at h;cases v<;>simp_all<;>rfl
   ·right
    unfold Cell.okWide Cell.ok at h;cases v<;>simp_all<;>rfl
   ·right
    unfold Cell.okWide Cell.ok at h;cases v<;>simp_all<;>rfl
   ·right
    unfold Cell.okWide Cell.ok at h;cases v<;>simp_all<;>rfl
   grind
   grind
   ·cases hp
theorem K5(d:Nat)(base:Nat):∀(ts:List TypeId) (vs:List Value) (ds:List (DataW H)) (ps:List MemPlace) (B:IB),VB B W->(ts.all λt=>plainT P d t)=true->DataW.TrodAll enc P W 0 (λ_=>true) true ts vs ds ps->
  (∀(j:Nat) t v,ts[j]?=some t->vs[j]?=some v->Value.okWide P W .any base t v)->∃xs C,VB (B++C) W/\RelL (rhoB (B++C)) xs vs/\ArgL P (eD (B++C)) d ts xs
 | [],vs,ds,ps,B,hB,_,h,_=>by
   cases vs with
   |nil=>exact⟨[],[],by simpa using hB,.nil,trivial⟩
   |cons v vs=>cases ds<;>exact h.elim
 |t::ts,[],ds,ps,B,hB,_,h,_=>by cases ds<;>exact h.elim
 |t::ts,v::vs,[],ps,B,hB,_,h,_=>h.elim
 | t::ts,v::vs,x::ds,ps,B,hB,hp,h,hv=>by
   simp only[all_cons,Bool.and_eq_true]at hp;obtain⟨p,q,⟨fuel,h1⟩,h2,rfl⟩:=h;have ⟨xs,C,g1,g2,g3,g4⟩:=ud d t _ fuel _ hp.1 h1 B hB;have ⟨ys,D,k1,k2,k3⟩:=K5 d base ts vs ds q (B++C) g1 hp.2 h2 λj t v hj hv'=>hv (j+1) t v (by simpa using hj) (by simpa using hv');have hsub:=uc (B++C) D;have hle:=oh (B++C) D;rcases Rf hp.1 (hv 0 t v rfl rfl)with⟨ha,cs,rfl⟩|⟨ha,hc⟩;refine⟨.agg xs::ys,C++D,gR,?_,?_⟩;rw[<- append_assoc];exact .cons (by unfold Rel;exact⟨cs,rfl,RelL.mono hle _ _ g2⟩) k2;rw[<- append_assoc];exact⟨⟨Inp.sub hsub _ _ _ g4,λ_=>⟨xs,rfl,g3⟩,λh=>absurd ha h⟩,k3⟩;rw[hc]at g2;obtain⟨y,rfl⟩:∃y,xs=[y]:=by
    have:=g2.length;rcases xs with _|⟨y,r⟩;simp at this
    grind
   have hr:Rel (rhoB (B++C)) y v:=by
    grind [RelL]
   have hy:y.one=true:=by simpa [aD]using g3
   refine⟨y::ys,C++D,gR,?_,?_⟩;rw[<- append_assoc];exact .cons (Rel.mono hle _ _ hr) k2;rw[<- append_assoc];refine⟨⟨?_,λh=>absurd h ha,λ_=>dx hy⟩,k3⟩;rw[dx hy];exact Inp.sub hsub _ _ _ g4
theorem VB.wr{B:IB}(h:VB B W):WR (rhoB B) W.heap.size (eD B) W:=by
 have get:∀i e b,eD B i=some (e,b)->∃x,B[i-1]?=some x/\rhoB B i=some x.1/\e=true/\b=.cells x.2.1 x.2.2:=λi e b hi=>by
  cases i with
  |zero=>cases hi
  | succ j=>
    grind [eD,rhoB]
 refine⟨λi e b hi=>?_,λi j bi e bj Li Lj hi=>?_,Nat.le_refl _,B.length+1,λi hi=>?_⟩
 ·obtain⟨x,h1,h2,rfl,rfl⟩:=get i e b hi
  obtain⟨cc,fr,q1,q2,q3,_,q5⟩:=h _ x h1;exact⟨x.1,h2,⟨cc,fr,q1,(λk=>nomatch k),q2,q3,q5⟩,λk=>nomatch k⟩
 ·grind
 ·cases i with
  |zero=>omega
  | succ j=>
    unfold rhoB
    grind
theorem law_of_wp(g:Grd P){f:FuncId}{ts:List TypeId}(d:Nat)(hp:(ts.all λt=>plainT P d t)=true)
  (h:∀(s:Hq) (xs:List AV),ArgL P s d ts xs->wC P f xs (λv _=>v=true) s) {base:Nat}{args:Array Value}{ds:List (DataW H)}{ps:List MemPlace}
  (hA:DataW.TrodAll enc P W 0 (λ_=>true) true ts args.toList ds ps) (hv:∀(j:Nat) t v,ts[j]?=some t->args[j]?=some v->Value.okWide P W .any base t v) :
  Calls P f args W λe W'=>e=.returned (.bool true)/\Below W.heap.size W W':=by
 have ⟨xs,C,h1,h2,h3⟩:=K5 (W:=W) d base ts args.toList ds ps [] (λi x hx=>by simp at hx) hp hA gR;have hfit:Fit (rhoB C) W.heap.size (eD C) (λ_=>none) W:=⟨h1.wr,λi x hx=>by cases hx⟩
 refine callsIn_wide.1 ((h (eD C) xs h3 g _ _ _ W args hfit h2).mono ?_);rintro e W' ⟨v,v',s',ρ',rfl,hr,st,rfl⟩
 grind [Rel,Stp.below]
end
section
def aI(fn:Func):Code:=match fn.body with
 |some c=>c
 |none=>.refuse ""
variable {α:Type} {K:α→Prop} {s s':Hq}
@[simp] theorem bG{a:α}:oK (some a) K=K a:=id rfl
theorem am{o:Option α}{a:α}(h:o=some a)(hk:K a):oK o K:=by rw[h];exact hk
@[simp] theorem aF{p q:Prop}:ai true p q=p:=id rfl
@[simp] theorem ay{p q:Prop}:ai false p q=q:=id rfl
theorem au{b:Bool}{p q:Prop}(h1:b=true->p)(h2:b=false->q):ai b p q:=by cases b;exact h2 rfl;exact h1 rfl
@[simp] theorem aU{a b:AV}:bK true a b=some a:=id rfl
@[simp] theorem aS{a b:AV}:bK false a b=some b:=id rfl
@[simp] theorem Rg{c d:Bool}:bK c d false=some (.bool (c&&d)):=by cases c<;>rfl
@[simp] theorem Rh{c d:Bool}:bK c true d=some (.bool (c||d)):=by cases c<;>rfl
@[simp] theorem aO{b o:Nat}:cJ (.ptr b o)=some (.ptr b o):=id rfl
@[simp] theorem ao{b o k:Nat}:cO k (.ptr b o)=some (.ptr b (o+k)):=id rfl
@[simp] theorem nat?_mk{k:IntKind}{n:Nat}:nat? (.int k (n:Int))=some n:=id rfl
@[simp] theorem iD{k:IntKind}:eO k k=true:=by cases k<;>rfl
@[simp] theorem aJ{k:IntKind}{x y:Int}:bO .add (.int k x) (.int k y)=some (.int k (k.wrap (x+y))):=by simp[bO,arith,cD,dH]
@[simp] theorem cA{k:IntKind}{x y:Int}:bO .sub (.int k x) (.int k y)=some (.int k (k.wrap (x-y))):=by simp[bO,arith,cD,dH]
@[simp] theorem oj{k:IntKind}{x y:Int}:bO .mul (.int k x) (.int k y)=some (.int k (k.wrap (x*y))):=by simp[bO,arith,cD,dH]
theorem ue{k:IntKind}{x y:Int}(h:y≠0):bO .quo (.int k x) (.int k y)=some (.int k (k.wrap (x.tdiv y))):=by
 grind [bO,arith,cD,dH,eM,iD]
theorem jg{k:IntKind}{x y:Int}(h:y≠0):bO .rem (.int k x) (.int k y)=some (.int k (x.tmod y)):=by
 grind [bO,arith,cD,eM,iD]
@[simp] theorem aH{k:IntKind}{x y:Int}:bO .lss (.int k x) (.int k y)=some (.bool (decide (x<y))):=by simp[bO,arith,d6]
@[simp] theorem bW{k:IntKind}{x y:Int}:bO .gtr (.int k x) (.int k y)=some (.bool (decide (y<x))):=by simp[bO,arith,d6]
@[simp] theorem eR{k:IntKind}{x y:Int}:bO .leq (.int k x) (.int k y)=some (.bool (decide (x<=y))):=by
 simp only[bO,arith,d6,iD,cond_true]
 by_cases h:x<=y
 simp[h,Int.not_lt.2 h];simp[h,Int.not_le.1 h]
@[simp] theorem ci{k:IntKind}{x y:Int}:bO .geq (.int k x) (.int k y)=some (.bool (decide (y<=x))):=by
 simp only[bO,arith,d6,iD,cond_true]
 by_cases h:y<=x
 simp[h,Int.not_lt.2 h];simp[h,Int.not_le.1 h]
@[simp] theorem aR{c:Bool}{k:IntKind}{x y:Int}:eqV 0 c (.int k x) (.int k y)=some (x == y):=by simp[eqV,eM]
@[simp] theorem Ri{c:Bool}{x y:Bool}:eqV 1 c x y=some (x == y):=id rfl
@[simp] theorem jh{c:Bool}{b o:Nat}:eqV 3 c (.ptr b o) .nilptr=some false:=id rfl
@[simp] theorem Rj{c:Bool}:eqV 3 c .nilptr .nilptr=some true:=id rfl
@[simp] theorem gT{c:Bool}{b o l es:Nat}{cp:Option Nat}:eqV 5 c (.slc b o l cp es) .nilslc=some false:=id rfl
@[simp] theorem ji{c:Bool}:eqV 5 c .nilslc .nilslc=some true:=id rfl
@[simp] theorem aG{n b:Bool}:negB n (some b)=some (.bool (n != b)):=by cases n<;>cases b<;>rfl
@[simp] theorem bD{b:Bool}:ki .not b=some (.bool !b):=id rfl
@[simp] theorem c9{b o l es:Nat}{cp:Option Nat}:bp (.slc b o l cp es)=some l:=id rfl
@[simp] theorem Aq:bp .nilslc=some 0:=id rfl
theorem aj{b o:Nat}{t:Bool}{e:TypeId}{l:List AV}(h:s b=some (t,.cells e l)):rd1 s (.ptr b o)=l[o]?:=by simp[rd1,h]
theorem Ar{b o:Nat}{e:TypeId}{l:List AV}{v:AV}(h:Hc s b e l)(hl:o<l.length)(hv:v.one=true):wr1 s (.ptr b o) v=some (hset s b (false,.cells e (l.set o v))):=by
 have:blt o l.length=true:=by rw[blt_eq];exact hl
 simp[wr1,h,hv,this]
@[simp] theorem As{k:IntKind}{n:Int}:(AV.int k n).one=true:=id rfl
@[simp] theorem K6{b:Bool}:(AV.bool b).one=true:=id rfl
@[simp] theorem Rk{b o l es:Nat}{cp:Option Nat}:(AV.slc b o l cp es).one=true:=id rfl
@[simp] theorem Au{k:IntKind}{n:Int}:(AV.int k n).cells=[.int k n]:=id rfl
@[simp] theorem Av{b o:Nat}:(AV.ptr b o).cells=[.ptr b o]:=id rfl
@[simp] theorem fC{l:List AV}:(AV.agg l).cells=l:=id rfl
@[simp] theorem K7:aD []=true:=id rfl
@[simp] theorem bP{v:AV}{l:List AV}:aD (v::l)=(v.one&&aD l):=id rfl
theorem aC{n:Int}(h1:-9223372036854775808<=n:=by omega)(h2:n<=9223372036854775807:=by omega):IntKind.i64.wrap n=n:=by
 simp only[IntKind.wrap,IntKind.bits,IntKind.signed]
 grind
def aB(fp:Nat->Prop)(s s':Hq):Prop:=∀b e,s b=some e->¬fp b->s' b=some e
theorem aB.refl(fp:Nat->Prop)(s:Hq):aB fp s s:=λ_ _ h _=>h
theorem aB.trans{fp:Nat->Prop}{a b c:Hq}(h:aB fp a b)(k:aB fp b c):aB fp a c:=λi e hi hf=>k i e (h i e hi hf) hf
theorem aB.mono{fp fp':Nat->Prop}{a b:Hq}(h:aB fp a b)(hf:∀i,fp i->fp' i):aB fp' a b:=λi e hi hn=>h i e hi λk=>hn (hf i k)
theorem Sub.keep{fp:Nat->Prop}{a b:Hq}(h:Sub a b):aB fp a b:=λi e hi _=>h i e hi
theorem Sub.refl(s:Hq):Sub s s:=λ_ _ h=>h
theorem Sub.trans{a b c:Hq}(h:Sub a b)(k:Sub b c):Sub a c:=λi e hi=>k i e (h i e hi)
theorem gy{b:Nat}{e:Bool×Blk}(h:s b=none):Sub s (hset s b e):=λi x hi=>by
 unfold hset;have:i≠b:=λq=>by rw[q,h]at hi;cases hi
 rw[if_neg this];exact hi
@[simp] theorem cK{b:Nat}{e:Bool×Blk}:hset s b e b=some e:=if_pos rfl
theorem cE{b i:Nat}{e:Bool×Blk}(h:i≠b):hset s b e i=s i:=if_neg h
theorem cx{b i:Nat}{e:Bool×Blk}(hb:s b=none)(hi:s i=some e):i≠b:=λq=>gR
theorem gU{s:Hq}:add s (frz s)=s:=by
 grind [add,frz]
theorem eF{s t:Hq}:Sub s (add s t):=λi e hi=>bJ hi
theorem dV{P:Program}{k:FuncId}{first cap args:List AV}{K:AV->Hq->Prop}{s:Hq}(hk:isFn P k=true)(h:wC P k (first++args++cap) K s):funK P (.fn (.func k) first cap) args K s:=⟨hk,h⟩
theorem Aw{b:Nat}{e:TypeId}{l cs:List AV}{n:Nat}{s:Hq}(h:Hc s b e l)(hl:cs.length=l.length)(hn:l.length=n)(ho:aD cs=true):cn s n (Pp b) (.agg cs)=some (hset s b (false,.cells e cs)):=by
 have e1:beq cs.length n=true:=by simp_all
 have e2:ble (0+cs.length) l.length=true:=bL oM
 grind [bN,cn,fC,wrN]
theorem aQ{b:Nat}{t:Bool}{e:TypeId}{l:List AV}{n:Nat}{s:Hq}(h:s b=some (t,.cells e l))(hn:l.length=n):rdN s n (Pp b)=some l:=by
 have e1:ble (0+n) l.length=true:=bL oM
 grind [rdN,eA]
theorem Ax{elem:TypeId}{v:AV}{K:AV->Hq->Prop}{s:Hq}(hv:v.one=true)(h:∀b,s b=none->K (Pp b) (hset s b (false,.cells elem [v]))):boxK elem v K s:=by unfold boxK;rw[dx hv];exact⟨by simp[hv],h⟩
def Upto(b:Nat)(s s':Hq):Prop:=∀i,i≠b->s' i=s i
theorem Upto.keep{fp:Nat->Prop}{b:Nat}{s s':Hq}(h:Upto b s s')(hb:fp b):aB fp s s':=λi e hi hn=>by rw[h i λq=>hn (q ▸ hb)];exact hi
theorem Upto.sub{b:Nat}{s s':Hq}(h:Upto b s s')(hb:s b=none):Sub s s':=λi e hi=>by rw[h i (cx hb hi)];exact hi
theorem Upto.at{b i:Nat}{s s':Hq}{e:Bool×Blk}(h:Upto b s s')(hi:s i=some e)(hb:s b=none):s' i=some e:=h.sub hb i e hi
theorem an{elem:TypeId}{cs:List AV}{K:Nat->Hq->Prop}{s:Hq}(h:∀b s',s b=none->Hc s' b elem cs->Upto b s s'->K b s'):newK elem cs K s:=
 λb hb=>h b _ hb cK λ_ hi=>cE hi
theorem aT{b o:Nat}{e:TypeId}{l:List AV}{v:AV}{K:Hq->Prop}{s:Hq}(h:Hc s b e l)(ho:o<l.length)(hv:v.one=true)(hk:∀s',Hc s' b e (l.set o v)->Upto b s s'->K s'):oK (wr1 s (.ptr b o) v) K:=
 am (Ar h ho hv) (hk _ cK λ_ hi=>cE hi)
theorem aZ{b:Nat}{e:TypeId}{l cs:List AV}{n:Nat}{K:Hq->Prop}{s:Hq}(h:Hc s b e l)(hl:cs.length=l.length)(hn:l.length=n)(ho:aD cs=true)(hk:∀s',Hc s' b e cs->Upto b s s'->K s'):oK (cn s n (Pp b) (.agg cs)) K:=
 am (Aw h hl hn ho) (hk _ cK λ_ hi=>cE hi)
theorem cW{elem:TypeId}{v:AV}{K:AV->Hq->Prop}{s:Hq}(hv:v.one=true)(h:∀b s',s b=none->Hc s' b elem [v]->Upto b s s'->K (Pp b) s'):boxK elem v K s:=
 Ax hv λb hb=>h b _ hb cK λ_ hi=>cE hi
end
section
def Sl(s:Hq)(v:AV)(l:List AV):Prop:=(v=.nilslc/\l=[])∨∃b o cap,v=.slc b o l.length cap 1/\(∀c,cap=some c->l.length<=c)/\
 (l≠[]->∃t e cs,s b=some (t,.cells e cs)/\o+l.length<=cs.length/\∀i,i<l.length->cs[o+i]?=l[i]?)
variable {s s':Hq} {v:AV} {l:List AV}
theorem Sl.len(h:Sl s v l):bp v=some l.length:=by
 rcases h with⟨rfl,rfl⟩|⟨b,o,cap,rfl,_⟩
 ·rfl
 ·rfl
theorem Sl.get(h:Sl s v l){i:Nat}(hi:i<l.length):∃p,ba 1 v i=some p/\rd1 s p=l[i]?:=by
 rcases h with⟨rfl,rfl⟩|⟨b,o,cap,rfl,_,h⟩
 ·simp at hi
 ·have ⟨t,e,cs,h1,h2,h3⟩:=h (by rintro rfl;simp at hi)
  refine⟨.ptr b (o+i),?_,by rw[aj h1,h3 i hi]⟩;have:blt i l.length=true:=by rw[blt_eq];exact hi
  simp[ba,this]
theorem Sl.rd(h:Sl s v l):rdSl s 1 v=some l:=by
 rcases h with⟨rfl,rfl⟩|⟨b,o,cap,rfl,_,h⟩
 ·rfl
 ·cases l with
  |nil=>rfl
  | cons x r=>
    have ⟨t,e,cs,h1,h2,h3⟩:=h sI;have e1:beq ((x::r).length*1) 0=false:=rfl;have e2:ble (o+(x::r).length*1) cs.length=true:=bL oM;simp only[rdSl,beq_refl,cond_true,e1,cond_false,h1,eA,e2]
    congr 1
    apply ext_getElem?
    grind
theorem Sl.sub(h:Sl s v l)(hs:Sub s s'):Sl s' v l:=by
 rcases h with h|⟨b,o,cap,h1,h2,h3⟩
 ·exact .inl h
 ·refine .inr ⟨b,o,cap,h1,h2,λhl=>?_⟩
  have ⟨t,e,cs,q1,q2⟩:=h3 hl;exact⟨t,e,cs,hs _ _ q1,q2⟩
theorem Sl.keep{fp:Nat->Prop}(h:Sl s v l)(hs:aB fp s s')(hn:∀b o n c,v=.slc b o n c 1->l≠[]->¬fp b):Sl s' v l:=by
 rcases h with h|⟨b,o,cap,h1,h2,h3⟩
 ·exact .inl h
 ·refine .inr ⟨b,o,cap,h1,h2,λhl=>?_⟩
  have ⟨t,e,cs,q1,q2⟩:=h3 hl;exact⟨t,e,cs,hs _ _ q1 (hn b o _ cap h1 hl),q2⟩
theorem Sl.mk{b:Nat}{t:Bool}{e:TypeId}{n:Nat}{cap:Option Nat}(h:s b=some (t,.cells e l))(hn:n=l.length)(hc:∀c,cap=some c->l.length<=c):Sl s (.slc b 0 n cap 1) l:=by subst hn;exact .inr ⟨b,0,cap,rfl,hc,λ_=>gR⟩
def Acc(elem:TypeId)(s0 s:Hq)(v:AV)(l:List AV):Prop:=(v=.nilslc/\l=[])∨∃b,s0 b=none/\v=.slc b 0 l.length none 1/\Hc s b elem l
theorem Acc.sl{elem:TypeId}{s0:Hq}(h:Acc elem s0 s v l):Sl s v l:=by
 rcases h with h|⟨b,_,rfl,h⟩
 ·exact .inl h
 ·exact Sl.mk h rfl sI
theorem Acc.app{elem:TypeId}{s0:Hq}{y:AV}{m:List AV}{K:AV->Hq->Prop}(h:Acc elem s0 s v l)(hy:Sl s y m)(hm:m≠[])(hl:l.length+m.length<=16777216)(hdom:∀i,s0 i≠none->s i≠none)
  (hK:∀v' s',Acc elem s0 s' v' (l++m)->(∀i e,s i=some e->(∀b,v=.slc b 0 l.length none 1->i≠b)->s' i=some e)->K v' s'):appK elem 1 v y K s:=by
 have ⟨k,hk⟩:∃k,m.length=k+1:=by cases m with|nil=>exact absurd rfl hm|cons a r=>exact⟨r.length,rfl⟩
 refine am hy.rd (am hy.len ?_);rcases h with⟨rfl,rfl⟩|⟨b,hb0,rfl,hb⟩
 ·simp only
  rw[hk];refine⟨by simp at hl;omega,an λc s1 hc h1 u1=>hK _ _ (.inr ⟨c,?_,?_,by simpa using h1⟩) λi e hi _=>u1.at hi hc⟩
  ·cases q:s0 c with
   |none=>rfl
   |some x=>exact absurd hc (hdom c (by rw[q];simp))
  ·simp[hk]
 ·refine⟨rfl,?_⟩
  rw[hk];refine am (Sl.rd (Sl.mk (l:=l) hb rfl sI)) ?_;unfold gw;rw[hb];refine⟨rfl,oM,an λc s1 hc h1 u1=>hK _ _ (.inr ⟨c,?_,by simp[hk],h1⟩) λi e hi hib=>?_⟩
  ·by_cases e:c=b
   ·rw[e];exact hb0
   ·have hc':s c=none:=by rw[<- hc];exact(if_neg e).symm
    grind
  ·have hne:=hib b rfl
   have:hdel s b i=some e:=by rw[<- hi];exact if_neg hne
   exact u1.at this hc
theorem ol{elem:TypeId}{b:Nat}{y:AV}{m:List AV}{K:AV->Hq->Prop}(hy:Sl s y m)(hl:m.length<=16777216)
  (hK:∀v' s',Sub s s'->(m=[]->v'=.slc b 0 0 (some 0) 1)->(m≠[]->∃c,s c=none/\v'=.slc c 0 m.length none 1/\Hc s' c elem m)->K v' s'):appK elem 1 (.slc b 0 0 (some 0) 1) y K s:=by
 refine am hy.rd (am hy.len ⟨rfl,?_⟩);cases m with
 |nil=>simp_all [Sub.refl]
 | cons x r=>
   have e0:ble (0+(r.length+1)) 0=false:=by rw[zAY];rfl
   simp only[length_cons,e0,cond_false];refine am (a:=[]) rfl ⟨by simp at hl;omega,an λc s1 hc h1 u1=>hK _ _ (u1.sub hc) sI λ_=>⟨c,hc,sI,by simpa using h1⟩⟩
theorem uf{elem:TypeId}{z v:AV}{K:Nat->Hq->Prop}(hz:z.one=true)(hv:v.one=true)(hK:∀b s',s b=none->Hc s' b elem [v]->Upto b s s'->K b s'):
  oK (aq (repl 1 [z]) [(0,1,v)]) λc=>aD c=true/\newK elem c K s:=by
 refine am (a:=[v]) ?_ ⟨by simp[hv],an hK⟩;show cond (beq v.cells.length 1&&ble (0+v.cells.length) 1) (aq (bN [z] 0 v.cells) []) none=_;rw[dx hv];rfl
theorem eH(z:AV):∀n,repl n [z]=replicate n z
 | 0=>rfl
 |n+1=>by rw[repl,eH z n];rfl
end
section
section
variable {P:Program} {s:Hq} {d:Nat} {t e:TypeId} {v:AV}
theorem om{k:IntKind}(hu:P.underlying t=some (.int k))(h:Arg P s (d+1) t v):∃n,v=.int k n/\(Lit.int k n).wf=true:=by
 have ⟨h1,_,h3⟩:=h
 simp_all [dR,Inp]
theorem Ay(hu:P.underlying t=some (.slice e))(hc:P.cellsOf e=1){A:Type}(f:A->AV)(Q:A->Prop)(he:∀xs,Inp P s d e xs->∃a,xs=[f a]/\Q a){xs:List AV}(h:Inp P s (d+1) t xs):∃v,xs=[v]/\∃l:List A,Sl s v (l.map f)/\(∀a∈l,Q a)/\l.length<=maxLen:=by
 unfold Inp at h;simp only[hu]at h;rcases h with rfl|⟨b,len,cap,rfl,h1,h2,h3⟩;exact⟨_,rfl,[],.inl ⟨rfl,rfl⟩,sI,sI⟩;refine⟨_,rfl,?_⟩;rw[hc]at h3 ⊢
 by_cases hz:cap=0
 subst hz;have:len=0:=oM;subst this;exact⟨[],.inr ⟨b,0,some 0,rfl,sI,sI⟩,sI,sI⟩;have ⟨el,l,g1,g2,g3⟩:=h3 oM;have each:∀i,i<cap->∃a,l[i]?=some (f a)/\Q a:=by intro i hi;have ⟨a,q1,q2⟩:=he _ (g3 i hi);refine⟨a,?_,q2⟩;have:=congrArg (λr:List AV=>r[0]?) q1;simpa [getElem?_take,getElem?_drop]using this
 have mk:∀n,n<=cap->∃r:List A,r.length=n/\(∀i,i<n->l[i]?=(r.map f)[i]?)/\∀a∈r,Q a:=by
  intro n
  induction n with
  |zero=>simp_all
  | succ n ih=>
    intro hn;have ⟨r,r1,r2,r3⟩:=ih oM;have ⟨a,a1,a2⟩:=each n oM;refine⟨r ++ [a],by simp[r1],λi hi=>?_,λb hb=>?_⟩
    by_cases e:i=n
    simp_all
    rw[r2 i oM];grind
    grind
 have ⟨r,r1,r2,r3⟩:=mk len h1;refine⟨r,.inr ⟨b,0,some cap,by simp[r1],by simp[r1];exact h1,λ_=>⟨true,el,l,g1,by simp[r1];omega,λi hi=>?_⟩⟩,r3,oM⟩;rw[zAY];exact r2 i (by simpa [r1]using hi)
theorem Az(hu:P.underlying t=some (.slice e))(hc:P.cellsOf e=1){A:Type}(f:A->AV)(Q:A->Prop)(he:∀xs,Inp P s d e xs->∃a,xs=[f a]/\Q a)(h:Arg P s (d+1) t v):∃l:List A,Sl s v (l.map f)/\(∀a∈l,Q a)/\l.length<=maxLen:=by
 have ⟨h1,_,h3⟩:=h;have:dR P t≠some true:=by grind [dR]
 rw[h3 this]at h1;have ⟨v',e1,h4⟩:=Ay hu hc f Q he h1;cases e1;exact h4
theorem AA{k:IntKind}(hu:P.underlying t=some (.int k)){xs:List AV}(h:Inp P s (d+1) t xs):∃n,xs=[.int k n]/\(Lit.int k n).wf=true:=by
 grind [Inp]
theorem AB(hu:P.underlying t=some .bool){xs:List AV}(h:Inp P s (d+1) t xs):∃b,xs=[.bool b]/\True:=by
 grind [Inp]
end
end
section
section
variable {s s2:Hq} {v:AV} {l:List AV}
theorem Sl.addf(h:Sl s2 v l)(hs:Sub (frz s) s2):Sl (add s s2) v l:=by
 rcases h with h|⟨b,o,cap,h1,h2,h3⟩
 ·exact .inl h
 ·refine .inr ⟨b,o,cap,h1,h2,λhl=>?_⟩
  cases hb:s b with
  |none=>grind [aV]
  | some x=>
    have:=hs b _ (cG hb)
    grind [bJ]
theorem Sl.frz(h:Sl s v l):Sl (frz s) v l:=by
 rcases h with h|⟨b,o,cap,h1,h2,h3⟩
 ·exact .inl h
 ·refine .inr ⟨b,o,cap,h1,h2,λhl=>?_⟩
  have ⟨t,e,cs,q1,q2⟩:=h3 hl;exact⟨true,e,cs,cG q1,q2⟩
theorem Sl.ne(h:Sl s v l){b:Nat}(hb:s b=none):∀b' o n c,v=.slc b' o n c 1->l≠[]->¬b'=b:=by
 rintro b' o n c rfl hl rfl;rcases h with⟨h,_⟩|⟨b,o,cap,h1,h2,h3⟩
 ·cases h
 grind
theorem Sl.one{v:AV}{l:List AV}(h:Sl s v l):v.one=true:=by rcases h with⟨rfl,_⟩|⟨b,o,cap,rfl,_⟩<;>rfl
end
end
section
theorem ArgL.sub{P:Program}{s s':Hq}(hs:Sub s s'){d:Nat}:∀{ts:List TypeId}{xs:List AV},ArgL P s d ts xs->ArgL P s' d ts xs
 |[],[],_=>trivial
 |[],_::_,h=>h.elim
 |_::_,[],h=>h.elim
 |_::_,_::_,⟨h1,h2⟩=>⟨Arg.sub hs h1,ArgL.sub hs h2⟩
end
section
variable {P:Program} {A:Nat→List Nat}
def gz:Code->List (Array Tmp×Code×Code)
 | .seq a b=>gz a++gz b
 | .cond _ a b=>gz a++gz b
 | .block _ b=>gz b
 | .loop b=>gz b
 | .rangeFunc _ ps az bo=>(ps,az,bo)::(gz az++gz bo)
 |_=>[]
def rfAs(j:Nat)(c:Code):Code:=match (gz c)[j]? with
 |some (_,az,_)=>az
 |none=>.skip
def rfBo(j:Nat)(c:Code):Code:=match (gz c)[j]? with
 |some (_,_,bo)=>bo
 |none=>.skip
def kU(l:Nat)(Kn Kr:Hq->Prop)(Ke:Nat->Hq->Prop)(s:Hq):Prop:=match s l with
 | some (false,.loop st pd _ _ _ _ _ _)=>st≠.busy/\(match pd with
   |none=>Kn (hdel s l)
   |some .ret=>Kr (hdel s l)
   |some (.exit id)=>Ke id (hdel s l)
   |some _=>False)
 |_=>False
def rngK(P:Program)(nt:Nat)(rnd:Option Nat)(f:AV)(keep:List (Nat×AV))(ps:List Tmp)(az bo:Code)(Kn Kr:Hq->Prop)(Ke:Nat->Hq->Prop)(s:Hq):Prop:=match f with
 | .fn (.func k) first cap=>isFn P k=true/\rndK rnd s/\∀l d,s l=none->wC P k (first ++ [.yield l]++cap) (λ_ s=>kU l Kn Kr Ke s) (hset s l (false,.loop .ready none nt keep ps az bo d))
 |_=>False
end
section
def SlR(es:Nat)(s:Hq)(v:AV)(rows:List (List AV)):Prop:=(∀r∈rows,r.length=es)/\((v=.nilslc/\rows=[])∨∃b o cap,v=.slc b o rows.length cap es/\(∀c,cap=some c->rows.length<=c)/\
 (rows≠[]->∃t e cs,s b=some (t,.cells e cs)/\o+rows.length*es<=cs.length/\(cs.drop o).take (rows.length*es)=rows.flatten))
theorem gA{es:Nat}:∀{rows:List (List AV)},(∀r∈rows,r.length=es)->rows.flatten.length=rows.length*es
 |[],_=>sI
 | r::rows,h=>by
   rw[flatten_cons,lAp,gA λq hq=>h q (by simp[hq]),h r sI,length_cons,succ_mul,Nat.add_comm]
theorem K8{es:Nat}:∀{rows:List (List AV)}{i:Nat}{r:List AV},(∀r∈rows,r.length=es)->rows[i]?=some r->(rows.flatten.drop (i*es)).take es=r
 |[],_,_,_,h=>by simp at h
 | q::rows,0,r,hl,h=>by
   grind
 | q::rows,i+1,r,hl,h=>by
   have hq:=hl q sI;have e1:(i+1)*es=i*es+es:=succ_mul _ _;rw[flatten_cons,drop_append,drop_eq_nil_of_le oM,nil_append,hq,e1,Nat.add_sub_cancel];exact K8 (λr hr=>hl r (by simp[hr])) (by simpa using h)
variable {s s2 s':Hq} {v:AV} {rows:List (List AV)} {es:Nat}
theorem SlR.len(h:SlR es s v rows):bp v=some rows.length:=by
 rcases h.2 with⟨rfl,rfl⟩|⟨b,o,cap,rfl,_⟩
 ·rfl
 ·rfl
theorem SlR.one(h:SlR es s v rows):v.one=true:=by rcases h.2 with⟨rfl,_⟩|⟨b,o,cap,rfl,_⟩<;>rfl
theorem SlR.get(h:SlR es s v rows){i:Nat}{r:List AV}(hi:rows[i]?=some r):∃b o,ba es v i=some (.ptr b o)/\rdN s es (.ptr b o)=some r/\∀j,j<es->rd1 s (.ptr b (o+j))=r[j]?:=by
 have hlt:=(gS hi).1;have ⟨hl,h⟩:=h;rcases h with⟨rfl,rfl⟩|⟨b,o,cap,rfl,_,h⟩
 ·simp at hlt
 ·have ⟨t,e,cs,h1,h2,h3⟩:=h (by rintro rfl;simp at hlt)
  have e1:blt i rows.length=true:=by simp_all
  have e2:(i+1)*es<=rows.length*es:=mul_le_mul_right _ hlt;rw[succ_mul]at e2;have row:(cs.drop (o+i*es)).take es=r:=by rw[<- K8 hl hi,<- h3,drop_take,take_take,drop_drop,Nat.min_eq_left oM]
  refine⟨b,o+i*es,by simp[ba,e1],?_,λj hj=>?_⟩
  ·have e3:ble (o+i*es+es) cs.length=true:=bL oM
   grind [rdN,eA]
  grind [aj]
theorem SlR.rd(h:SlR es s v rows):rdSl s es v=some rows.flatten:=by
 have ⟨hl,h⟩:=h;rcases h with⟨rfl,rfl⟩|⟨b,o,cap,rfl,_,h⟩
 ·rfl
 ·simp only[rdSl,beq_refl,cond_true]
  cases hz:beq (rows.length*es) 0 with
  | true=>
    have:=gA hl;rw[bE hz]at this
    grind
  | false=>
    have ⟨t,e,cs,h1,h2,h3⟩:=h (by rintro rfl;simp at hz);have e2:=bL h2
    grind [eA]
theorem SlR.sub(h:SlR es s v rows)(hs:Sub s s'):SlR es s' v rows:=by
 refine⟨h.1,?_⟩;rcases h.2 with h|⟨b,o,cap,h1,h2,h3⟩
 ·exact .inl h
 ·refine .inr ⟨b,o,cap,h1,h2,λhl=>?_⟩
  have ⟨t,e,cs,q1,q2⟩:=h3 hl;exact⟨t,e,cs,hs _ _ q1,q2⟩
theorem SlR.frz(h:SlR es s v rows):SlR es (frz s) v rows:=by
 refine⟨h.1,?_⟩;rcases h.2 with h|⟨b,o,cap,h1,h2,h3⟩
 ·exact .inl h
 ·refine .inr ⟨b,o,cap,h1,h2,λhl=>?_⟩
  have ⟨t,e,cs,q1,q2⟩:=h3 hl;exact⟨true,e,cs,cG q1,q2⟩
theorem SlR.keep{fp:Nat->Prop}(h:SlR es s v rows)(hs:aB fp s s')(hn:∀b o n c,v=.slc b o n c es->rows≠[]->¬fp b):SlR es s' v rows:=by
 refine⟨h.1,?_⟩;rcases h.2 with h|⟨b,o,cap,h1,h2,h3⟩
 ·exact .inl h
 ·refine .inr ⟨b,o,cap,h1,h2,λhl=>?_⟩
  have ⟨t,e,cs,q1,q2⟩:=h3 hl;exact⟨t,e,cs,hs _ _ q1 (hn b o _ cap h1 hl),q2⟩
theorem SlR.was(h:SlR es s v rows):∀b o n c,v=.slc b o n c es->rows≠[]->s b≠none:=by
 rintro b o n c rfl hl;rcases h.2 with⟨h,_⟩|⟨b',o',cap,h1,h2,h3⟩
 ·cases h
 grind
theorem SlR.mk{b:Nat}{t:Bool}{e:TypeId}{n:Nat}{cap:Option Nat}(hl:∀r∈rows,r.length=es)(h:s b=some (t,.cells e rows.flatten))(hn:n=rows.length)(hc:∀c,cap=some c->rows.length<=c):SlR es s (.slc b 0 n cap es) rows:=by subst hn;refine⟨hl,.inr ⟨b,0,cap,rfl,hc,λ_=>⟨t,e,_,h,by rw[gA hl];omega,?_⟩⟩⟩;rw[drop_zero,<- gA hl,take_of_length_le (Nat.le_refl _)]
theorem SlR.empty{b o:Nat}{c:Nat}:SlR es s (.slc b o 0 (some c) es) []:=⟨sI,.inr ⟨b,o,some c,rfl,sI,λh=>absurd rfl h⟩⟩
theorem SlR.drop(h:SlR es s v rows){k:Nat}(hk:k<=rows.length)(hne:rows≠[]):∃v',cU es v (some k) none none=some v'/\SlR es s v' (rows.drop k)/\∀b o n c,v'=.slc b o n c es->∃o n c,v=.slc b o n c es:=by
 have ⟨hl,h⟩:=h;rcases h with⟨rfl,rfl⟩|⟨b,o,cap,rfl,hc,h⟩
 ·exact absurd rfl hne
 ·have ⟨t,e,cs,h1,h2,h3⟩:=h hne
  have hrow:∀r∈rows.drop k,r.length=es:=λr hr=>hl r (mem_of_mem_drop hr);have hlen:(rows.drop k).length=rows.length-k:=length_drop;have data:rows.drop k≠[]->∃t e cs,s b=some (t,.cells e cs)/\o+k*es+(rows.drop k).length*es<=cs.length/\(cs.drop (o+k*es)).take ((rows.drop k).length*es)=(rows.drop k).flatten:=λ_=>by
   have e2:k*es+(rows.length-k)*es=rows.length*es:=by rw[<- Nat.add_mul];congr 1;omega
   refine⟨t,e,cs,h1,by rw[hlen];omega,?_⟩;have e3:rows.flatten.drop (k*es)=(rows.drop k).flatten:=by
    have:rows.flatten=(rows.take k).flatten++(rows.drop k).flatten:=by rw[<- flatten_append,take_append_drop]
    have hk2:(rows.take k).flatten.length=k*es:=by rw[gA λr hr=>hl r (mem_of_mem_take hr),length_take,Nat.min_eq_left hk]
    grind
   rw[<- e3,<- h3,drop_take,drop_drop,hlen]
   congr 1
   omega
  have b1:bound (some k) 0 rows.length=some k:=by simp[bound,bL hk]
  cases cap with
  | none=>
    refine⟨.slc b (o+k*es) (rows.length-k) none es,?_,⟨hrow,.inr ⟨b,o+k*es,none,by rw[hlen],sI,data⟩⟩,(by simp_all)⟩
    simp_all [cU,bound]
  | some c=>
    refine⟨.slc b (o+k*es) (rows.length-k) (some (c-k)) es,?_,⟨hrow,.inr ⟨b,o+k*es,some (c-k),by rw[hlen],λd hd=>gR,data⟩⟩,λb' o' n' c' e=>gR⟩
    simp_all [cU,bound]
theorem K9{elem:TypeId}{b:Nat}{y:AV}{K:AV->Hq->Prop}(hy:SlR es s y rows)(hl:rows.length<=16777216)
  (hK:∀v' s',Sub s s'->SlR es s' v' rows->(∀b o n c,v'=.slc b o n c es->rows≠[]->s b=none)->K v' s'):appK elem es (.slc b 0 0 (some 0) es) y K s:=by
 refine am hy.rd (am hy.len ⟨rfl,?_⟩);cases rows with
 |nil=>simp_all [Sub.refl,SlR.empty]
 | cons x r=>
   have e0:ble (0+(r.length+1)) 0=false:=by rw[zAY];rfl
   simp only[length_cons,e0,cond_false];have hx:rdSl s es (.slc b 0 0 (some 0) es)=some []:=by simp[rdSl]
   refine am hx ⟨by simp at hl;omega,an λc s1 hc h1 u1=>hK _ _ (u1.sub hc) (SlR.mk hy.1 (by simpa using h1) sI sI) gR⟩
theorem inpR{P:Program}{d:Nat}{t e:TypeId}(hu:P.underlying t=some (.slice e)){A:Type}(f:A->List AV)(Q:A->Prop)(hf:∀a,(f a).length=P.cellsOf e)(he:∀xs,Inp P s d e xs->∃a,xs=f a/\Q a){xs:List AV}(h:Inp P s (d+1) t xs):∃v,xs=[v]/\∃l:List A,SlR (P.cellsOf e) s v (l.map f)/\(∀a∈l,Q a)/\l.length<=maxLen:=by
 unfold Inp at h;simp only[hu]at h;have hrow:∀(l:List A),∀r∈l.map f,r.length=P.cellsOf e:=(by simp_all)
 rcases h with rfl|⟨b,len,cap,rfl,h1,h2,h3⟩
 ·exact⟨_,rfl,[],⟨hrow [],.inl ⟨rfl,rfl⟩⟩,sI,sI⟩
 ·refine⟨_,rfl,?_⟩
  by_cases hz:cap=0
  ·subst hz
   have:len=0:=oM;subst this;exact⟨[],.empty,sI,sI⟩
  ·have ⟨el,l,g1,g2,g3⟩:=h3 oM
   have mk:∀n,n<=cap->∃r:List A,r.length=n/\(r.map f).flatten=l.take (n*P.cellsOf e)/\∀a∈r,Q a:=by
    intro n
    induction n with
    |zero=>simp_all
    | succ n ih=>
      intro hn;have ⟨r,r1,r2,r3⟩:=ih oM;have ⟨a,a1,a2⟩:=he _ (g3 n oM);refine⟨r ++ [a],by simp[r1],?_,λb hb=>?_⟩
      ·rw[map_append,flatten_append,r2,map_singleton,flatten_singleton,<- a1,succ_mul,take_add]
      grind
   have ⟨r,r1,r2,r3⟩:=mk len h1;refine⟨r,⟨hrow r,.inr ⟨b,0,some cap,by simp[r1],by simp[r1];exact h1,λ_=>⟨true,el,l,g1,?_,?_⟩⟩⟩,r3,oM⟩
   ·rw[lMY,r1,g2,zAY];exact mul_le_mul_right _ h1
   grind
theorem argR{P:Program}{d:Nat}{t e:TypeId}{v:AV}(hu:P.underlying t=some (.slice e)){A:Type}(f:A->List AV)(Q:A->Prop)(hf:∀a,(f a).length=P.cellsOf e)(he:∀xs,Inp P s d e xs->∃a,xs=f a/\Q a)(h:Arg P s (d+1) t v):∃l:List A,SlR (P.cellsOf e) s v (l.map f)/\(∀a∈l,Q a)/\l.length<=maxLen:=by
 have ⟨h1,_,h3⟩:=h;have:dR P t≠some true:=by grind [dR]
 rw[h3 this]at h1;have ⟨v',e1,h4⟩:=inpR hu f Q hf he h1;cases e1;exact h4
theorem AC{P:Program}{d:Nat}{t u w y:TypeId}{xs:List AV}(h:ArgL P s d [t,u,w,y] xs):∃a b c e,xs=[a,b,c,e]/\Arg P s d t a/\Arg P s d u b/\Arg P s d w c/\Arg P s d y e:=by
 match xs,h with
 |[a,b,c,e],⟨h1,h2,h3,h4,_⟩=>grind
end
section
variable {s s2 s':Hq} {v:AV} {rows:List (List AV)} {es:Nat}
theorem SlR.take(h:SlR es s v rows){k:Nat}(hk:k<=rows.length)(hne:rows≠[]):∃v',cU es v none (some k) none=some v'/\SlR es s v' (rows.take k)/\∀b o n c,v'=.slc b o n c es->∃o n c,v=.slc b o n c es:=by
 have ⟨hl,h⟩:=h;rcases h with⟨rfl,rfl⟩|⟨b,o,cap,rfl,hc,h⟩;exact absurd rfl hne;have hrow:∀r∈rows.take k,r.length=es:=λr hr=>hl r (mem_of_mem_take hr);have hlen:(rows.take k).length=k:=gR;have e2:k*es<=rows.length*es:=mul_le_mul_right _ hk;have data:rows.take k≠[]->∃t e cs,s b=some (t,.cells e cs)/\o+(rows.take k).length*es<=cs.length/\(cs.drop o).take ((rows.take k).length*es)=(rows.take k).flatten:=λ_=>by
  have e3:rows.flatten.take (k*es)=(rows.take k).flatten:=by
   have:rows.flatten=(rows.take k).flatten++(rows.drop k).flatten:=by rw[<- flatten_append,take_append_drop]
   have hk2:(rows.take k).flatten.length=k*es:=by rw[gA hrow,hlen]
   grind
  grind
 rcases cap with _|c;refine⟨.slc b o k none es,?_,⟨hrow,.inr ⟨b,o,none,by rw[hlen],sI,data⟩⟩,(by simp_all)⟩;simp[cU,bound,bL hk];have hc':=hc c rfl;refine⟨.slc b o k (some c) es,?_,⟨hrow,.inr ⟨b,o,some c,by rw[hlen],λd hd=>gR,data⟩⟩,(by simp_all)⟩;simp[cU,bound,bL (Nat.le_trans hk hc')]
def AccR(elem:TypeId)(es:Nat)(s0 s:Hq)(v:AV)(rows:List (List AV)):Prop:=(∀r∈rows,r.length=es)/\((v=.nilslc/\rows=[])∨∃b,s0 b=none/\v=.slc b 0 rows.length none es/\Hc s b elem rows.flatten)
theorem AccR.sl{elem:TypeId}{s0:Hq}(h:AccR elem es s0 s v rows):SlR es s v rows:=by obtain⟨hl,h⟩:=h;rcases h with h|⟨b,_,rfl,h⟩;exact⟨hl,.inl h⟩;exact SlR.mk hl h rfl sI
theorem AccR.sub{elem:TypeId}{s0 s s':Hq}(h:AccR elem es s0 s v rows)(hs:Sub s s'):AccR elem es s0 s' v rows:=by obtain⟨hl,h⟩:=h;rcases h with h|⟨b,h0,rfl,h⟩;exact⟨hl,.inl h⟩;exact⟨hl,.inr ⟨b,h0,rfl,hs _ _ h⟩⟩
theorem AccR.app{elem:TypeId}{s0:Hq}{y:AV}{m:List (List AV)}{K:AV->Hq->Prop}(h:AccR elem es s0 s v rows)(hy:SlR es s y m)(hm:m≠[])(hl:rows.length+m.length<=16777216)(hdom:Sub s0 s)
  (hK:∀v' s',AccR elem es s0 s' v' (rows++m)->Sub s0 s'->K v' s'):appK elem es v y K s:=by
 have ⟨k,hk⟩:∃k,m.length=k+1:=by cases m with|nil=>exact absurd rfl hm|cons a r=>exact⟨r.length,rfl⟩
 refine am hy.rd (am hy.len ?_);have ⟨hrow,h⟩:=h;have hrow2:∀r∈rows++m,r.length=es:=λr hr=>by rcases mP hr with hr|hr;exact hrow r hr;exact hy.1 r hr
 rcases h with⟨rfl,rfl⟩|⟨b,hb0,rfl,hb⟩
 ·simp only
  rw[hk];refine⟨by simp at hl;omega,an λc s1 hc h1 u1=>hK _ _ ⟨hrow2,.inr ⟨c,?_,by simp[hk],by simpa using h1⟩⟩ (hdom.trans (u1.sub hc))⟩;cases q:s0 c with
  |none=>rfl
  |some x=>rw[hdom c x q]at hc;cases hc
 ·refine⟨rfl,?_⟩
  rw[hk];refine am (SlR.rd (SlR.mk hrow hb rfl sI)) ?_;unfold gw;rw[hb];have hdel0:Sub s0 (hdel s b):=λi e hi=>by have hib:=cx hb0 hi;rw[<- hdom i e hi];exact if_neg hib
  refine⟨rfl,oM,an λc s1 hc h1 u1=>hK _ _ ⟨hrow2,.inr ⟨c,?_,by simp[hk],by simpa using h1⟩⟩ (hdel0.trans (u1.sub hc))⟩;cases q:s0 c with
  |none=>rfl
  |some x=>rw[hdel0 c x q]at hc;cases hc
end
section
variable {P:Program}
def jj:Code->Option (List Oper×List Oper×Call)
 | .region _ ops false=>match iw ops.toList with
   |some p=>some (ops.toList,p.1,p.2)
   |none=>none
 |_=>none
def oo(c:Call):Option Operand:=match c.callee with
 | .value f=>cond (c.args.toList.isEmpty&&okX f) (some f) none
 |_=>none
end
section
variable {P:Program} {K:AV→Hq→Prop} {s:Hq}
theorem ug{t:TypeId}{v:AV}{name:String}{f:FuncId}{args:List AV}(hm:iZ P t name=some (f,none))(hf:isFn P f=true)(h:wC P f (v::args) K s):cz P (.ifc t v) name args K s:=by simp only[cz,hm];exact⟨hf,h⟩
theorem AD{t e:TypeId}{v:AV}{name:String}{f:FuncId}{args:List AV}(hm:iZ P t name=some (f,some e))(hf:isFn P f=true)(h:dU P e v (λr=>wC P f (r::args) K s) s):cz P (.ifc t v) name args K s:=by
 simp only[cz,hm];unfold dU at h ⊢;split at h
 ·have ⟨l,h1,h2⟩:=aX h;rw[h1];exact⟨hf,h2⟩
 ·have ⟨l,h1,h2⟩:=aX h;rw[h1];exact⟨hf,h2⟩
 ·exact h.elim
theorem AE{t fty:TypeId}{cs:List AV}{off:Nat}{r:AV}{name:String}{f:FuncId}{args:List AV}(hm:iZ P t name=none)(hF:gM P t name=some (f,fty,off))(hr:dB P fty cs off=some r)(hf:isFn P f=true)(h:wC P f (r::args) K s):cz P (.ifc t (.agg cs)) name args K s:=by simp only[cz,hm,hF,hr];exact⟨hf,h⟩
theorem gB{k:IntKind}{n:Int}:bV k n=if k.signed&&n % (2^k.bits:Int) ≥ (2^(k.bits-1):Int)then n % (2^k.bits:Int)-(2^k.bits:Int)else n % (2^k.bits:Int):=rfl
theorem AF{S h:Hq}{es:Nat}{y:AV}(hs:Sub h S):rdSl (lock S h) es y=rdSl S es y:=by
 cases y<;>first|rfl|skip
 rename_i b o len cap es';simp only[rdSl];cases q:h b with
 |none=>rw[dJ q]
 | some x=>
   have ⟨e,bl⟩:=x;rw[fV q,cG (hs b _ q),hs b _ q];cases bl<;>rfl
theorem AG{S h:Hq}{elem:TypeId}{es n:Nat}{cs:List AV}{K:AV->Hq->Prop}(hs:Sub h S)(hk:fx elem es n cs (λv S2=>Sub h S2->K v (lock S2 h)) S):fx elem es n cs K (lock S h):=by
 grind [fx,n9]
theorem AH{S h:Hq}{b:Nat}(hb:h b=none):lock (hdel S b) h=hdel (lock S h) b:=by
 funext i
 by_cases q:i=b
 ·grind [dJ,eo]
 ·rw[bZ q]
  cases q2:h i with
  |some y=>grind [fV,frz,bZ]
  |none=>grind [dJ,bZ]
theorem La{S h:Hq}{elem:TypeId}{es:Nat}{x y:AV}{K:AV->Hq->Prop}(hs:Sub h S)(hx:∀b o n c,x=.slc b o n c es->h b=none)(hk:appK elem es x y (λv S2=>Sub h S2->K v (lock S2 h)) S):appK elem es x y K (lock S h):=by
 unfold appK at hk ⊢;rw[AF hs];have ⟨nw,h1,hk⟩:=aX hk;have ⟨n,h2,hk⟩:=aX hk;rw[h1,h2];simp only[bG];cases x with
 |nilslc=>grind [AG]
 | slc b o len cap es'=>
   have ⟨rfl,hk⟩:=hk;have hb:=hx _ _ _ _ rfl;refine⟨rfl,?_⟩;cases n with
   |zero=>exact⟨hk.1,hk.2 hs⟩
   | succ n=>
     cases cap with
     | some c=>
       simp only at hk ⊢;cases e:ble (len+(n+1)) c with
       | true=>
         rw[e,cond_true]at hk;have ⟨s2,h3,hk⟩:=aX hk;have e2:wrN (lock S h) (.ptr b (o+len*es)) nw=some (lock s2 h)/\Sub h s2:=by
          unfold wrN at h3 ⊢;simp only at h3 ⊢;rw[dJ hb];split at h3
          ·have ⟨hc,h3⟩:=cy h3
           rw[hc];cases h3;rw[Al hb];exact⟨rfl,λi y hi=>by rw[bg λq=>gR];exact hs i y hi⟩
          ·cases h3
         simp_all
       | false=>
         rw[e,cond_false]at hk;rw[cond_false,AF hs];have ⟨od,h3,hk⟩:=aX hk
         simp_all [AG]
     | none=>
       rw[AF hs];have ⟨od,h3,hk⟩:=aX hk;rw[h3];unfold gw at hk ⊢;rw[dJ hb];cases q:S b with
       |none=>grind
       | some z=>
         have ⟨e,bl⟩:=z;rw[q]at hk;cases e<;>cases bl<;>first|exact hk.elim|skip
         refine⟨hk.1,?_⟩;rw[<- AH hb];exact AG (λi y hi=>by rw[bZ λq=>gR];exact hs i y hi) hk.2
 |_=>exact hk.elim
theorem AI{el:TypeId}{cs:List AV}{K K':Nat->Hq->Prop}{s:Hq}(h:newK el cs K s)(hk:∀b s',K b s'->K' b s'):newK el cs K' s:=λb hb=>hk _ _ (h b hb)
theorem Lb{elem:TypeId}{es:Nat}{x y:AV}{K K':AV->Hq->Prop}{s:Hq}(h:appK elem es x y K s)(hk:∀v s',K v s'->K' v s'):appK elem es x y K' s:=by
 unfold appK at h ⊢;have ⟨nw,h1,h⟩:=aX h;have ⟨n,h2,h⟩:=aX h;rw[h1,h2];simp only[bG];have gr:∀{es n cs s},fx elem es n cs K s->fx elem es n cs K' s:=λh=>⟨h.1,AI h.2 λ_ _=>hk _ _⟩
 cases x with
 |nilslc=>grind
 | slc b o len cap es'=>
   refine⟨h.1,?_⟩
   replace h:=h.2
   cases n with
   |zero=>grind
   | succ n=>
     cases cap with
     | some c=>
       simp only at h ⊢;cases e:ble (len+(n+1)) c with
       | true=>
         rw[e,cond_true]at h;have ⟨s2,h3,h⟩:=aX h
         simp_all
       | false=>
         rw[e,cond_false]at h;have ⟨od,h3,h⟩:=aX h
         simp_all
     | none=>
       grind [aX,bG,gw]
 |_=>exact h.elim
theorem AJ{n:Nat}{l:List Nat}:fO (l ++ [n])=some n:=by rw[yP];simp
theorem AK{s:Hq}{b o:Nat}{v:AV}(h:rd1 s (.ptr b o)=some v):∃t e l,s b=some (t,.cells e l)/\l[o]?=some v:=by
 grind [rd1]
theorem eu{s:Hq}{b:Nat}:frz s b=none↔s b=none:=by
 grind [frz]
theorem d8{s:Hq}:lock s s=frz s:=by
 grind [dJ,frz,fV]
end
open Go.Proofs Go.Maps Go.Sort Go.Shelf
def insI(n:Int):List Int->List Int
 |[]=>[n]
 |m::l=>cond (ltI m n) (m::insI n l) (n::m::l)
def cB:List Int->List Int
 |[]=>[]
 |n::l=>insI n (cB l)
theorem AL(n:Int):∀l,(insI n l).Perm (n::l)
 |[]=>.refl _
 | m::l=>by
   unfold insI;cases ltI m n with
   |true=>exact((AL n l).cons m).trans (.swap n m l)
   |false=>exact .refl _
theorem eI:∀l,(cB l).Perm l
 |[]=>.refl _
 |n::l=>(AL n (cB l)).trans ((eI l).cons n)
theorem Lc(n:Int):∀l:List Int,l.Pairwise (·<=·)->(insI n l).Pairwise (·<=·)
 |[],_=>by simp[insI]
 | m::l,h=>by
   have h':=pairwise_cons.1 h;unfold insI;rcases hb:ltI m n with _|_;rw[d6,decide_eq_false_iff_not]at hb;refine pairwise_cons.2 ⟨λx hx=>?_,h⟩
   grind
   rw[d6,decide_eq_true_eq]at hb;refine pairwise_cons.2 ⟨λx hx=>?_,Lc n l h'.2⟩
   grind [AL]
theorem uh:∀l:List Int,(cB l).Pairwise (·<=·)
 |[]=>by simp[cB]
 |n::l=>Lc n _ (uh l)
theorem Ld{ss l:List Int}(h:ss.Perm l):ss.mergeSort (λx y=>decide (x<=y))=cB l:=by have tr:∀a b c:Int,decide (a<=b)=true->decide (b<=c)=true->decide (a<=c)=true:=gR;have to:∀a b:Int,(decide (a<=b)||decide (b<=a))=true:=λa b=>gR;refine List.Perm.eq_of_pairwise (le:=λa b:Int=>a<=b) (λa b _ _ h1 h2=>oM) ((pairwise_mergeSort tr to ss).imp λh=>by simpa using h) (uh l) (((mergeSort_perm ss _).trans h).trans (eI l).symm)
abbrev izs(l:List Int):List AV:=l.map (AV.int .i64)
section
variable {K:AV→Hq→Prop} {s:Hq} {P:Program}
structure EsOK(es:List AEnt)(c:Nat)(l:List (Int×AV)):Prop where
 kv:es.map (λe=>(e.key,e.val))=l.map λp=>(AV.int .i64 p.1,p.2)
 nd:(l.map (·.1)).Nodup
 bd:∀p∈l,-9223372036854775808<=p.1/\p.1<=9223372036854775807
 bs:(es.map (·.born)).Nodup
 lt:∀e∈es,e.born<c
theorem EsOK.nil:EsOK [] 0 []:=⟨rfl,sI,sI,sI,sI⟩
def look{V:Type}(l:List (Int×V))(k:Int):Option V:=(l.find? λp=>p.1 == k).map (·.2)
theorem EsOK.len{es:List AEnt}{c:Nat}{l:List (Int×AV)}(h:EsOK es c l):es.length=l.length:=by have:=congrArg List.length h.kv;simpa using this
theorem AN{k n:Int}:gk (.int .i64) k n=some (k == n):=by show cond (eO .i64 .i64) (some (eqI k n)) none=_;rw[eM];rfl
theorem AO:∀{es:List AEnt}{l:List (Int×AV)}{k:Int}{i:Nat},es.map (λe=>(e.key,e.val))=l.map (λp=>(AV.int .i64 p.1,p.2))->
  ∃r,fz k es i=some r/\r.map (·.2)=look l k/\∀p,r=some p->∃j,p.1=i+j/\∃v,l[j]?=some (k,v):=by
 intro es
 induction es with
 | nil=>
   intro l k i h;cases l with
   |nil=>exact⟨none,rfl,rfl,λp e=>by cases e⟩
   |cons p l=>simp at h
 | cons e es ih=>
   intro l k i h;cases l with
   |nil=>simp at h
   | cons p l=>
     have ⟨pk,pv⟩:=p;simp only[map_cons,cI,Prod.mk.injEq]at h;have ⟨⟨h1,h2⟩,h3⟩:=h;unfold fz;rw[h1,AN]
     by_cases e1:k=pk
     ·rw[beq_iff_eq.2 e1]
      refine⟨_,rfl,?_,λp e=>?_⟩;rw[e1];simp[look,h2]
      ·cases e
       grind
     rw[beq_eq_false_iff_ne.2 e1];have ⟨r,g1,g2,g3⟩:=ih (l:=l) (k:=k) (i:=i+1) h3;refine⟨r,g1,?_,λp e=>?_⟩;rw[g2];unfold look;rw[find?_cons_of_neg (by simpa using Ne.symm e1)];have ⟨j,q1,v,q2⟩:=g3 p e;exact⟨j+1,oM,v,by simpa using q2⟩
def da(s:Hq)(b:Nat)(l:List (Int×AV)):Prop:=∃es c,s b=some (false,.map es c)/\EsOK es c l
theorem da.get{b:Nat}{l:List (Int×AV)}(h:da s b l){k:Int}:getM s (.map b) k=some (look l k):=by
 have ⟨es,c,hb,ho⟩:=h;have ⟨r,g1,g2,_⟩:=AO (k:=k) (i:=0) ho.kv
 grind [getM]
theorem da.len{b:Nat}{l:List (Int×AV)}(h:da s b l):lenM s (.map b)=some l.length:=by have ⟨es,c,hb,ho⟩:=h;simp[lenM,hb,ho.len]
def stor{V:Type}(l:List (Int×V))(k:Int)(v:V):List (Int×V):=match look l k with
 |some _=>l.map λp=>if p.1=k then(k,v)else p
 |none=>l ++ [(k,v)]
theorem oq{V:Type}{l:List (Int×V)}{k:Int}:look l k=none↔k ∉ l.map (·.1):=by
 unfold look;rw[Option.map_eq_none_iff,find?_eq_none]
 grind
theorem Lf{es:List AEnt}{k v:AV}:∀{i:Nat},(modE es i (λe=>{ e with key:=k,val:=v })).map (·.born)=es.map (·.born):=by
 induction es with
 |nil=>intro i;cases i<;>rfl
 | cons e es ih=>
   intro i;cases i with
   |zero=>rfl
   | succ i=>
     grind [modE]
theorem AP{k:Int}{v:AV}:∀{es:List AEnt}{l:List (Int×AV)}{j:Nat}{w:AV},es.map (λe=>(e.key,e.val))=l.map (λp=>(AV.int .i64 p.1,p.2))->(l.map (·.1)).Nodup->l[j]?=some (k,w)->
  (modE es j (λe=>{ e with key:=k,val:=v })).map (λe=>(e.key,e.val))=(l.map λp=>if p.1=k then(k,v)else p).map λp=>(AV.int .i64 p.1,p.2):=by
 intro es
 induction es with
 | nil=>
   simp_all
 | cons e es ih=>
   intro l j w h nd hj;cases l with
   |nil=>simp at h
   | cons p l=>
     have ⟨pk,pv⟩:=p;simp only[map_cons,cI,Prod.mk.injEq]at h;cases j with
     | zero=>
       have hj:pk=k:=by simp at hj;exact hj.1
       subst hj;have hl:(l.map λp=>if p.1=pk then(pk,v)else p)=l:=by
        refine(map_congr_left λp hp=>?_).trans (map_id l)
        grind
       show((AV.int .i64 pk,v)::es.map λe=>(e.key,e.val))=_
       grind
     | succ j=>
       grind [modE]
theorem da.put{b:Nat}{l:List (Int×AV)}{k:Int}{v:AV}{R:Hq->Prop}(h:da s b l)(hk:-9223372036854775808<=k/\k<=9223372036854775807)(hK:∀s',da s' b (stor l k v)->Upto b s s'->R s'):oK (putM s (.map b) k v) R:=by
 have ⟨es,c,hb,ho⟩:=h;have ⟨r,g1,g2,g3⟩:=AO (k:=k) (i:=0) ho.kv;unfold putM putE;simp only[hb,g1];cases r with
 | none=>
   refine hK _ ⟨_,_,cK,?_⟩ λ_ hi=>cE hi;have hl:look l k=none:=g2.symm;unfold stor;rw[hl];refine⟨?_,?_,?_,?_,?_⟩
   ·grind [EsOK.kv]
   ·rw[map_append]
    exact nodup_append.2 ⟨ho.nd,sI,λa ha b hb=>by
     grind [oq]⟩
   ·intro p hp
    rw[mem_append,mem_singleton]at hp;rcases hp with hp|rfl
    ·exact ho.bd p hp
    ·exact hk
   ·rw[map_append]
    exact nodup_append.2 ⟨ho.bs,sI,λa ha b hb=>by
     have hb:b=c:=by simpa using hb
     rintro rfl;obtain⟨e,he,rfl⟩:=mem_map.1 ha;have:=ho.lt e he;omega⟩
   ·intro e he
    rw[mem_append,mem_singleton]at he;rcases he with he|rfl
    ·have:=ho.lt e he;omega
    grind
 | some p=>
   have ⟨j,q1,w,q2⟩:=g3 p rfl;rw[zAY]at q1;refine hK _ ⟨_,_,cK,?_⟩ λ_ hi=>cE hi;have hl:look l k=some p.2:=g2.symm;unfold stor;rw[hl,q1];refine⟨AP ho.kv ho.nd q2,?_,?_,?_,?_⟩
   ·rw[map_map]
    have:((λp:Int×AV=>p.1)∘λp=>if p.1=k then(k,v)else p)=λp=>p.1:=by
     grind
    rw[this];exact ho.nd
   ·intro p hp
    obtain⟨q,hq,rfl⟩:=mem_map.1 hp;split
    ·exact hk
    ·exact ho.bd q hq
   ·show((modE es j _).map (·.born)).Nodup
    rw[Lf];exact ho.bs
   ·intro e he
    have:e.born∈(modE es j (λe=>{ e with key:=k,val:=v })).map (·.born):=mem_map.2 ⟨e,he,rfl⟩;rw[Lf]at this;have ⟨e',he',q⟩:=mem_map.1 this;rw[<- q];exact ho.lt e' he'
theorem ot{R:AV->Hq->Prop}(h:∀b s',s b=none->da s' b []->Upto b s s'->R (.map b) s'):mapK R s:=λb hb=>h b _ hb ⟨_,_,cK,.nil⟩ λ_ hi=>cE hi
theorem jl{V:Type}{p:Int×V}{l:List (Int×V)}{j:Int}:look (p::l) j=if p.1=j then some p.2 else look l j:=by
 grind [look]
theorem AQ{V:Type}{k j:Int}{v:V}(hj:j≠k):∀{l:List (Int×V)},look (l.map λp=>if p.1=k then(k,v)else p) j=look l j:=by
 intro l
 induction l with
 |nil=>rfl
 | cons p l ih=>
   grind [jl]
theorem Rl{V:Type}{k:Int}{v:V}:∀{l:List (Int×V)}{w:V},look l k=some w->look (l.map λp=>if p.1=k then(k,v)else p) k=some v:=by
 intro l
 induction l with
 |nil=>intro w h;cases h
 | cons p l ih=>
   grind [jl]
theorem AS{V:Type}{l:List (Int×V)}{k j:Int}{v:V}(h:look l k=none):look (l ++ [(k,v)]) j=if j=k then some v else look l j:=by
 induction l with
 | nil=>
   grind [jl]
 | cons p l ih=>
   grind [jl]
theorem ui{V:Type}{l:List (Int×V)}{k j:Int}{v:V}:look (stor l k v) j=if j=k then some v else look l j:=by
 unfold stor;rcases h:look l k with _|w;exact AS h;simp only
 by_cases e:j=k
 grind [Rl]
 simp_all [AQ]
end
section
variable {P:Program} {ρ:Ren} {base:Nat} {s t:Hq} {w:World}
structure KeysOK(clock:Nat)(es':List MapEntry)(l:List Int):Prop where
 keys:es'.map (·.key)=l.map encZ
 wf:∀n∈l,(Lit.int .i64 n).wf=true
 born:∀x∈es',x.born<clock
 stamps:(es'.map (·.born)).Nodup
 apart:l.Nodup
theorem AT{n:Int}(h:-9223372036854775808<=n/\n<=9223372036854775807):(Lit.int .i64 n).wf=true:=by simp[Lit.wf,IntKind.min,IntKind.max,IntKind.bits,IntKind.signed];omega
theorem EsRel.map_born{es:List AEnt}{es':List MapEntry}(h:EsRel ρ es es'):es'.map (·.born)=es.map (·.born):=by
 apply ext_getElem?;intro i;rw[getElem?_map,getElem?_map];cases q:es[i]? with
 | none=>
   have:=List.getElem?_eq_none_iff.1 q;rw[getElem?_eq_none (by rw[h.len];exact this)];rfl
 | some e=>
   have hi:=(gS q).1;have ⟨e',q2⟩:∃e',es'[i]?=some e':=⟨_,gE (by rw[h.len];exact hi)⟩
   rw[q2,Option.map_some,Option.map_some,(h.at_ i e e' q q2).born]
theorem AU{es:List AEnt}{es':List MapEntry}{c:Nat}{l:List (Int×AV)}(h:EsRel ρ es es')(ho:EsOK es c l):KeysOK c es' (l.map (·.1)):=by
 refine⟨?_,λn hn=>?_,λx hx=>?_,by rw[h.map_born];exact ho.bs,ho.nd⟩
 ·apply ext_getElem?
  intro i;have hl:=ho.len;cases q:es[i]? with
  | none=>
    grind [EsRel.len]
  | some e=>
    have hi:=(gS q).1;have ⟨e',q2⟩:∃e',es'[i]?=some e':=⟨_,gE (by rw[h.len];exact hi)⟩
    have hk:=congrArg (·[i]?) ho.kv;have hr:=(h.at_ i e e' q q2).key
    grind [Rel]
 ·obtain⟨p,hp,rfl⟩:=mem_map.1 hn
  exact AT (ho.bd p hp)
 ·have:x.born∈es.map (·.born):=by rw[<- h.map_born];grind
  have ⟨e,he,q⟩:=mem_map.1 this;rw[<- q];exact ho.lt e he
def R1:Value->Option (DataW Unit×List MemPlace):=λ_=>some (.lit (.bool true),[])
theorem AW{T:TypeId}(hT:P.underlying T=some (.int .i64)){w:World}{b clock:Nat}{es':Array MapEntry}{l:List Int}(hb:w.heap[b]?=some (.map es' clock))(hk:KeysOK clock es'.toList l)(hsz:es'.size<=100000):
  ∃D0:DataW Unit,w.ownsMap P T R1 b es'.size D0/\(intKeys D0).Perm l/\Maps.size D0<=100000:=by
 have rdk:∀x∈es'.toList,∃n,x.key=encZ n/\WideElems.rd P T R1 x=some (.int .i64 n,.lit (.bool true)):=by intro x hx;have:x.key∈es'.toList.map (·.key):=mem_map.2 ⟨x,hx,rfl⟩;rw[hk.keys]at this;have ⟨n,hn,he⟩:=mem_map.1 this;have hw:=hk.wf n hn;simp[WideElems.rd,Go.keyOf,hT,mapKey,<- he,hw,R1]
 refine⟨_,⟨es',clock,hb,⟨by unfold maxLen;omega,⟨hk.born,hk.stamps,by rw[hk.keys];exact(pairwise_map.2 (hk.apart.imp λhne e=>hne (encZ_inj e)))⟩,λx hx=>?_⟩,Nat.le_refl _,rfl⟩,?_,?_⟩
 grind
 refine((sorted_perm _).map _).trans ?_;have:∀(xs:List MapEntry) (ls:List Int),xs.map (·.key)=ls.map encZ->(∀x∈xs,∃n,x.key=encZ n/\WideElems.rd P T R1 x=some (.int .i64 n,.lit (.bool true)))->(xs.map (WideElems.rg P T R1)).map (λp=>intOf p.1)=ls:=by
  intro xs
  induction xs with
  |nil=>simp_all
  | cons x xs ih=>
    intro ls h hr;rcases ls with _|⟨n,ls⟩;simp at h;simp only[map_cons,cI]at h ⊢;have ⟨m,hm,hr1⟩:=hr x sI;refine⟨?_,gR⟩;rw[h.1]at hm;have:=encZ_inj hm;subst this;simp[WideElems.rg,hr1,intOf]
 rw[this es'.toList l hk.keys rdk];show(((es'.toList.map (WideElems.rg P T R1)).foldr DataW.insert [])).length<=100000;rw[(sorted_perm _).length_eq];simpa using hsz
structure SortedOK(P:Program)(T:TypeId)(fs:FuncId)(l:List (FuncId×FuncId×TypeId)):Prop where
 ty:P.underlying T=some (.int .i64)
 keys:∀p∈l,∀mb W,CallsIn Fence.wide 0 P p.1 #[.map mb] W λe w'=>e=.returned (.func (.func p.2.1) #[] #[.pointer (some ⟨W.heap.size,0,none⟩)])/\w'=W.alloc (.cells #[.map mb] p.2.2)
 sorted:∀p∈l,∀(Bm b nn:Nat) (D0:DataW Unit) (w:World),Bm<w.heap.size->w.cell? ⟨Bm,0,none⟩=some (.map (some b))->w.ownsMap P T R1 b nn D0->Maps.size D0<=100000->
  CallsIn Fence.wide 0 P fs #[.func (.func p.2.1) #[] #[.pointer (some ⟨Bm,0,none⟩)]] w λe w'=>∃(v:Value) (ss:List Int),e=.returned v/\ss.Perm (intKeys D0)/\
   w'.ownsRow w.heap.size T 1 v ss.length ((ss.mergeSort (λx y=>decide (x<=y))).map encZ)/\(v=.slice none 0 0↔ss=[])/\Below w.heap.size w w'
 none:∀p∈l,∀(Bm:Nat) (w:World),Bm<w.heap.size->w.cell? ⟨Bm,0,none⟩=some (.map none)->
  CallsIn Fence.wide 0 P fs #[.func (.func p.2.1) #[] #[.pointer (some ⟨Bm,0,none⟩)]] w λe w'=>e=.returned (.slice none 0 0)/\Below w.heap.size w w'
theorem AX{T:TypeId}{fs:FuncId}{L:List (FuncId×FuncId×TypeId)}(hP:SortedOK P T fs L){p:FuncId×FuncId×TypeId}(hp:p∈L){m:Nat}{K:AV->Hq->Prop}(h:∀b s',s b=none->s' b=some (false,.one (.map m))->Upto b s s'->K (.fn (.func p.2.1) [] [Pp b]) s'):wC P p.1 [.map m] K s:=λg ρ base t w args' hf hr=>by
 have ⟨y,ys,g1,g2,g3⟩:=hr;subst g3;obtain⟨D,hD,rfl⟩:=g2;have e:args'=#[.map (some D.blk)]:=gR;subst e;refine(hP.keys p hp _ w).mono ?_;rintro en w' ⟨rfl,rfl⟩;have ⟨id,ρ',f1,f2,f3⟩:=hf.push (b:=.one (.map m)) (o:=.cells #[.map (some D.blk)] p.2.2) (n:=1) λρ' hl=>⟨rfl,_,_,_,rfl,by unfold Rel;exact⟨D,hl _ _ hD,rfl⟩⟩
 refine⟨_,_,_,ρ',rfl,?_,f3,h id _ f1 cr λi hi=>bg hi⟩
 grind [Rel,RelL.nil,RelL.cons]
theorem Lg{T:TypeId}{fs:FuncId}{L:List (FuncId×FuncId×TypeId)}(hP:SortedOK P T fs L){p:FuncId×FuncId×TypeId}(hp:p∈L){m b c:Nat}{e0 e1:Bool}{es:List AEnt}{l:List (Int×AV)}{K:AV->Hq->Prop}(hb:s b=some (e0,.one (.map m)))(hm:s m=some (e1,.map es c))(ho:EsOK es c l)(hl:l.length<=1000)
  (h:∀v s',Acc T s s' v (izs (cB (l.map (·.1))))->Sub s s'->K v s'):wC P fs [.fn (.func p.2.1) [] [Pp b]] K s:=λg ρ base t w args' hf hra=>by
 have harg:∃L,ρ b=some L/\args'=#[.func (.func p.2.1) #[] #[.pointer (some ⟨L.blk,L.sh+0,none⟩)]]:=by have ⟨y,ys,g1,g2,g3⟩:=hra;subst g3;obtain⟨as',bs',rfl,g4,g5⟩:=g2;unfold RelL at g4 g5;have ⟨z,zs,g6,g7,g8⟩:=g5;subst g8;obtain⟨L,hL,rfl⟩:=g7;refine⟨L,hL,?_⟩;apply Array.toList_inj.1;rw[g1];have:as'=#[]:=gR;have h2:bs'=#[.pointer (some ⟨L.blk,L.sh+0,Option.none⟩)]:=gR;rw[this,h2]
 obtain⟨L,hL,rfl⟩:=harg;have ⟨L',hL',⟨hsh,v1,el,fr,q1,q2⟩,_⟩:=hf.get hb;rw[hL]at hL';cases hL';rw[hsh];have hcell:w.cell? ⟨L.blk,0,Option.none⟩=some v1:=by simp[World.cell?,q1]
 obtain⟨D,hD,rfl⟩:=q2;have ⟨D',hD',⟨es',q4,q5⟩,_⟩:=hf.get hm;rw[hD]at hD';cases hD';have hko:=AU q5 ho;have hsz:es'.size<=100000:=by have:=q5.len;grind [EsOK.len]
 have ⟨D0,o1,o2,o3⟩:=AW hP.ty q4 hko hsz;refine(hP.sorted p hp L.blk D.blk _ D0 w (mI q1) hcell o1 o3).mono ?_;rintro en w' ⟨v',ss,rfl,hperm,hrow,hnil,hbel⟩;have hms:=Ld (hperm.trans o2);have hlen:ss.length=(cB (l.map (·.1))).length:=by rw[<- hms];exact(length_mergeSort _).symm
 have hf2:Fit ρ base s t w':=⟨hf.wr.below hbel,hf.fr⟩
 cases hs:cB (l.map (·.1))with
 | nil=>
   rw[hs]at hlen;have:ss=[]:=eq_nil_of_length_eq_zero hlen;have hv:=hnil.2 this;subst hv;exact⟨.nilslc,_,s,ρ,rfl,by unfold Rel;rfl,⟨.refl _,hbel.mono hf.wr.base,λ_ _ h=>h,hf2,λ_ _ h=>h⟩,h _ s (.inl ⟨rfl,by rw[hs];rfl⟩) (.refl s)⟩
 | cons x lx=>
   have ⟨_,hrow⟩:=hrow;rcases hrow with⟨hv,hz⟩|⟨gb,cap,cur,rfl,hbase,hgb,r1,r2,r3,r4⟩
   ·grind
   ·have hu:Upd w' gb (.cells cur T (0,0)) w':=⟨rfl,rfl,rfl,Nat.le_refl _,hgb,λ_ _=>rfl⟩
    have hcells:∀(i:Nat) v,(izs (x::lx))[i]?=some v->∃v',cur[0+i]?=some v'/\∀ ρ',Rel ρ' v v'/\v'.oneCell'=true:=by
     intro i v hv;rw[getElem?_map]at hv;obtain⟨n,hn1,rfl⟩:=Option.map_eq_some_iff.1 hv;refine⟨encZ n,?_,λρ'=>⟨by unfold Rel;rfl,rfl⟩⟩;have h9:(cur.toList.take (ss.length*1))[i]?=some (encZ n):=gR
     grind
    have ⟨id,ρ',x1,x2,x3⟩:=hf2.new (w':=w') (L:=⟨gb,0,cur.size⟩) (b:=.cells T (izs (x::lx))) (λj e bj Lj hj hLj=>ne_of_lt (Nat.lt_of_lt_of_le (hf.wr.live hj hLj) hbase)) (Nat.le_trans hf.wr.base hbase) hu
     (λρ' id hle _=>⟨cur,(0,0),rfl,λ_=>rfl,rfl,by simp;grind,λi v hv=>by have ⟨v',h10,h11⟩:=hcells i v hv;exact⟨v',h10,(h11 ρ').1,(h11 ρ').2⟩⟩)
    refine⟨.slc id 0 (lx.length+1) none 1,_,_,ρ',rfl,?_,⟨x3.le,(hbel.mono hf.wr.base).trans x3.below,x3.pers,x3.fit,x3.nw⟩,h _ _ (.inr ⟨id,x1,by rw[hs];simp,by rw[hs];exact cr⟩) (gy x1)⟩
    grind [Rel]
structure SortOK(P:Program)(fs:FuncId):Prop where
 row:∀(blk off cap:Nat) (zs:List Int) (w:World),Holds (Value.int .i64) w blk off zs.toArray->blk<w.heap.size->zs.length<4611686018427387904->
  CallsIn Fence.wide 0 P fs #[.slice (some ⟨blk,off,none⟩) zs.length cap] w λe w'=>e=.returned (.tuple #[])/\∃n os,w'=grow (putRow (Value.int .i64) (Sort.ahead w n) blk off (zs.mergeSort λx y=>decide (x<=y)).toArray) os
 none:∀(p:Option Addr) (cap:Nat) (w:World),CallsIn Fence.wide 0 P fs #[.slice p 0 cap] w λe w'=>e=.returned (.tuple #[])/\w'=w
theorem AY(w:World)(os:Array Obj):Below w.heap.size w (grow w os):=by refine⟨rfl,rfl,rfl,by simp[grow],λk hk=>?_⟩;simp[grow,Array.getElem?_append,hk]
theorem AZ{w:World}{B off:Nat}{cc:Array Value}{e:TypeId}{fr:Nat×Nat}{d:Array Int}(m:Nat)(h:w.heap[B]?=some (.cells cc e fr)):
  Upd w B (.cells (putCells (Value.int .i64) off d cc) e fr) (putRow (Value.int .i64) (Sort.ahead w m) B off d):=by
 refine⟨rfl,rfl,rfl,by simp_all,?_,λj hj=>?_⟩;simp[putRow,mapBlock,Sort.ahead,Array.getElem?_modify,h,onCells];simp[putRow,mapBlock,Sort.ahead,Array.getElem?_modify,Ne.symm hj]
theorem A0:∀k:List Int,aD (izs k)=true
 |[]=>rfl
 |_::k=>by simpa [aD]using A0 k
theorem Rm{fs:FuncId}(hP:SortOK P fs){e:TypeId}{b:Nat}{cap:Option Nat}{l:List Int}{T:List AV}{K:AV->Hq->Prop}(hb:Hc s b e (izs l++T))(hl:l.length<=1000000)
  (hK:∀s',Hc s' b e (izs (cB l)++T)->Upto b s s'->K (.tup []) s'):wC P fs [.slc b 0 l.length cap 1] K s:=λg ρ base t w args' hf hra=>by
 have ⟨v1,ys,g1,hv1,g3⟩:=hra;subst g3;obtain⟨L,a,c,hL,rfl,ha,hc1,hc2⟩:=hv1;have e0:args'=#[.slice (some a) l.length c]:=gR;subst e0;have ⟨L',hL',⟨cc,fr,p1,p2,p3,p4,p5⟩,_⟩:=hf.get hb;rw[hL]at hL';cases hL';have tup0:Rel ρ (.tup []) (.tuple #[]):=by grind [Rel,RelL.nil]
 by_cases hz:l.length=0
 ·have hl0:=eq_nil_of_length_eq_zero hz
  subst hl0;refine(hP.none _ c w).mono ?_;rintro en w' ⟨rfl,rfl⟩;exact⟨_,_,s,ρ,rfl,tup0,.refl hf,hK s hb λ_ _=>rfl⟩
 ·have ha:a=⟨L.blk,L.sh+0,Option.none⟩:=gR
  subst ha;have hfr:=p2 rfl;subst hfr;have hH:Holds (Value.int .i64) w L.blk (L.sh+0) l.toArray:=by
   intro j hj;have hcj:(izs l++T)[j]?=some (l[j]):=gR
   grind [Rel,Kc,iY]
  refine(hP.row L.blk (L.sh+0) c l w hH (mI p1) oM).mono ?_;rintro en w' ⟨rfl,m,os,rfl⟩;rw[Ld (.refl l)];have hsl:=(eI l).length_eq;have hu:=AZ (off:=L.sh+0) (d:=(cB l).toArray) m p1;have p4:L.sh+(l.length+T.length)<=cc.size:=by simpa using p4
  have st:=hf.put (b:=.cells e (izs (cB l)++T)) hb hL hu (by
   refine⟨_,(0,0),rfl,λ_=>rfl,by simp[putCells,p3],by simp[putCells,hsl];omega,λi v hv=>?_⟩
   by_cases hi:i<l.length
   ·rw[getElem?_append_left (by simp;omega),getElem?_map]at hv
    obtain⟨x,hx,rfl⟩:=Option.map_eq_some_iff.1 hv;refine⟨.int .i64 x,?_,by unfold Rel;rfl,rfl⟩;have hcb:L.sh+i<cc.size:=oM;simp only[putCells,Array.getElem?_mapIdx,Array.getElem?_eq_getElem hcb,Option.map_some];have:L.sh+i-(L.sh+0)=i:=oM;have hlt:i<(cB l).length:=oM;simp[gS hx |>.2,hlt]
   ·rw[getElem?_append_right (by simp;omega)]at hv
    have ⟨v',q1,q2,q3⟩:=p5 i v gR;refine⟨v',?_,q2,q3⟩;simp only[putCells,Array.getElem?_mapIdx,q1,Option.map_some];simp;omega)
  have hbg:=AY (putRow (Value.int .i64) (Sort.ahead w m) L.blk (L.sh+0) (cB l).toArray) os;exact⟨_,_,_,ρ,rfl,tup0,⟨st.le,st.below.trans (hbg.mono st.fit.wr.base),st.pers,⟨st.fit.wr.below hbg,st.fit.fr⟩,st.nw⟩,hK _ cr λi hi=>bg hi⟩
theorem Rn{fs:FuncId}(hP:SortOK P fs){K:AV->Hq->Prop}(hK:K (.tup []) s):wC P fs [.nilslc] K s:=λg ρ base t w args' hf hra=>by have ⟨v1,ys,g1,hv1,g3⟩:=hra;subst g3;subst hv1;have e0:args'=#[.slice none 0 0]:=gR;subst e0;refine(hP.none _ _ w).mono ?_;rintro en w' ⟨rfl,rfl⟩;exact⟨_,_,s,ρ,rfl,by grind [Rel,RelL.nil],.refl hf,hK⟩
end
section
variable (P : Program)
def gV(k:FuncId)(args:List AV)(Q:Hq->Prop)(s:Hq):Prop:=Grd P->∀(ρ:Ren) (base:Nat) (t:Hq) (w:World) (args':Array Value),Fit ρ base s t w->RelL ρ args args'.toList->
 CallsDIn Fence.wide 0 P k args' .returning w λe u w'=>u=.returning/\∃v' s' ρ',e=.returned v'/\Stp ρ ρ' base s s' t w w'/\Q s'
def runK(v:AV)(Q:Hq->Prop)(s:Hq):Prop:=match v with
 | .fn (.func k) first cap=>gV P k (first++cap) Q s
 |_=>False
def jm(v:AV):Prop:=match v with
 | .fn (.func k) _ _=>isFn P k=true
 |_=>False
end
def ou(c:Code):Code:=match mq c with
 |some (_,r)=>r
 |none=>c
def ox(c:Code)(env:Env):Env:=match mq c with
 |some (t,_)=>upd env t .nilIface
 |none=>env
def oy(c:Code)(nt:Nat):Bool:=match mq c with
 |some (t,r)=>noRF r&&blt t nt
 |none=>noRF c
def wpDR(P:Program)(A:Nat->List Nat)(nt:Nat):Code->Env->(AV->AExit->Env->Hq->Prop)->Hq->Prop
 | .seq a b,env,K,s=>match jj a with
   | some (alL,l,c)=>match oo c with
     |some f=>cond (l.all λo=>okOp o.op) (opsE P nt alL l [] env (λenv s=>jm P (evD env f)/\wpC P A nt none b env (K (evD env f)) s) s) False
     |none=>False
   | none=>cond (noRF a) (wpC P A nt none a env (λe env s=>match e with
     | .nrm=>wpDR P A nt b env K s
     |_=>False) s) False
 |_,_,_,_=>False
section
variable {P:Program} {A:Nat→List Nat} {nt base:Nat} {ρ:Ren} {s t:Hq} {w:World} {env:Env} {a:Act}
theorem Ms.none_left{ρ:Ren}{t2:Hq}(h:Ms ρ t t2 s [] []):t2=t:=by
 obtain⟨ms,rfl,_,_,h4⟩:=h;cases ms with
 |nil=>funext i;unfold add;cases t i<;>rfl
 |cons m ms=>have ⟨_,_,_,h,_⟩:=h4;cases h
theorem Lh(A:Nat->List Nat){k:FuncId}{fn:Func}{c:Code}(hf:P.funcs[k]?=some fn)(hb:fn.body=some c)(hr:fn.results.toList=[])(hc:oy c fn.ntmps=true){args:List AV}(hl:ble args.length fn.ntmps=true){K:AV->Hq->Prop}{s:Hq}
  (h:wpC P A fn.ntmps none (ou c) (ox c (d7 args)) (λe env s=>retK e (resK P fn.results.toList env (λvs=>K (oneV vs) s) s)) s):gV P k args (λs=>K (.tup []) s) s:=λg ρ base t w args' hfit hrel=>by
 rw[hr]at h;have hres:fn.results=#[]:=gR;have hstart:=kT (nt:=fn.ntmps) hrel (le_of_ble_eq_true hl);refine callsDIn_of_wpSIn hf hb trivial λc₀ cs hu=>?_;have fin:∀(c':Code) (env:Env) (a0:Act),noRF c'=true->a0.defers=[]->ER ρ fn.ntmps env a0.tmps->wpC P A fn.ntmps none c' env (λe env s=>retK e (resK P [] env (λvs=>K (oneV vs) s) s)) s->c'.wpSIn Fence.wide 0 P (bodyPostS P fn c₀ cs λe u w'=>u=.returning/\∃v' s' ρ',e=.returned v'/\Stp ρ ρ' base s s' t w w'/\K (.tup []) s') a0 (c₀::cs) w:=by
  intro c' env a0 hn hd0 hT0 hk;refine wpSIn_of_wpIn rfl (ep (A:=A) (rnd:=none) c' env _ s hk g t t ρ base w a0 none [] _ hfit hT0 rfl (by rw[hd0];exact .nil) λe env' s' ρ' a' w' t2 k1 k2 k3 k4 k5=>?_);have hd1:=(k2.2 hn).trans hd0;rw[hd1]at k5;have:=k5.none_left;subst this;have main:K (.tup []) s'->a'.defers=[]/\∃u',(c₀::cs)={ c₀ with mode:=u' }::cs/\∃v,(results fn a'.tmps).run P w'=.ok v w'/\(u'=.returning/\∃v' s' ρ',Ending.returned v=.returned v'/\Stp ρ ρ' base s s' t2 w w'/\K (.tup []) s'):=λhk=>
   ⟨hd1,.returning,by cases c₀;grind,.tuple #[],by simp[results,hres],rfl,_,s',ρ',rfl,⟨k3.le,k3.below,k3.pers,k3.fit,k3.nw⟩,hk⟩
  cases e with
  |nrm=>exact main k1
  |ret=>exact main k1
  |exit i=>exact k1.elim
 unfold oy at hc;unfold ou ox at h;cases hrt:mq c with
 | none=>
   grind
 | some q=>
   have ⟨t,rest⟩:=q;rw[hrt]at hc h;have ⟨hn,hlt⟩:=Bool.and_eq_true_iff.1 hc;unfold mq at hrt;split at hrt
   ·rename_i id ops rest'
    split at hrt
    ·rename_i t' ts ty pos af hops
     cases hrt;have e0:ops=#[⟨some t,.call ⟨.builtin .recover,#[],ts⟩,ty,pos,af,none⟩]:=gR;subst e0;refine wpSIn_seq (wpSIn_region ?_);simp only[size_toArray,length_cons,length_nil,zAY,show List.range 1=[0]from rfl,wpOpsSIn,getElem?_toArray,g0Y];refine⟨fT,?_⟩;have rec_exec:∀a:Act,(execOp a.eval ⟨some t,.call ⟨.builtin .recover,#[],ts⟩,ty,pos,af,none⟩).run P w=.ok .recover w:=λa=>by rfl
     have rd:recoverD (c₀::cs)=none:=by simp[recoverD,hu]
     simp only[rd];exact fin _ _ _ hn (dy _ _ _) (hstart.put hlt (by unfold Rel;rfl)) h
    ·cases hrt
   ·cases hrt
theorem Ll:∀{l l':List Oper}{c:Call},iw l=some (l',c)->∃o,l=l' ++ [o]/\o.dst=none/\o.op=.defer c/\o.guard=none
 |[],_,_,h=>by cases h
 | [o],l',c,h=>by
   unfold iw at h;simp only at h;split at h
   ·cases h;simp_all
   ·cases h
 | o::o2::os,l',c,h=>by
   unfold iw at h;cases hr:iw (o2::os)with
   |none=>grind
   | some p=>
     simp only[hr]at h;have ⟨o',h1,h2⟩:=Ll hr
     grind
theorem Lm(g:Grd P){id:Nat}{ops:Array Oper}{l:List Oper}{c:Call}{f:Operand}{K:Env->Hq->Prop}{Q:Exit->Act->World->Prop}(h1:iw ops.toList=some (l,c))(h2:oo c=some f)(hok:(l.all λo=>okOp o.op)=true)
  (h:opsE P nt ops.toList l [] env (λenv s=>jm P (evD env f)/\K env s) s) (hf:Fit ρ base s t w) (hT:ER ρ nt env a.tmps) (hd:a.defers=[])
  (hQ:∀env' s' ρ' a' w' k first cap fs cs,evD env' f=.fn (.func k) first cap->isFn P k=true->K env' s'->Stp ρ ρ' base s s' t w w'->ER ρ' nt env' a'.tmps->RelL ρ' (first++cap) (fs++cs:Array Value).toList->a'.defers=[{ target:=.fn (.func k) cs,args:=fs }]->Q .normal a' w'):(Code.region id ops false).wpIn (FR none) 0 P Q a w:=by
 have ⟨o1,ho1,hdst,hop,hgd⟩:=Ll h1;refine wpIn_region ?_;have hsz:ops.size=l.length+1:=by have:=congrArg List.length ho1;simpa using this
 have hrange:List.range ops.size=range' 0 l.length ++ [l.length]:=by rw[hsz,range_succ,range_eq_range']
 rw[hrange];have hget:∀j,j<l.length->l[j]?=ops[0+j]?:=λj hj=>by rw[zAY,<- Array.getElem?_toList,ho1,getElem?_append_left hj]
 have hlast:ops[l.length]?=some o1:=by rw[<- Array.getElem?_toList,ho1];simp
 refine tR (r:=none) (Q:=Q) g [l.length] l 0 [] env s ρ w a hget hok .nil h hf hT λenv' s' ρ' a' w' k1 _ k4 k5 k6=>?_;simp only[wpOpsIn,hlast];rw[if_pos (by unfold Region.wanted;rw[hgd])];refine⟨fT,?_⟩;have ⟨k1,k2⟩:=k1;unfold jm at k1;split at k1
 ·rename_i k first cap hv
  have ⟨callee,as',ts⟩:=c;unfold oo at h2;split at h2
  ·rename_i f' hcal
   have ⟨hz,h2⟩:=cy h2;cases h2;have ⟨z1,z2⟩:=Bool.and_eq_true_iff.1 hz;subst hcal;have z1:as'=#[]:=gR;subst z1;have r2:=eX k5 z2;rw[hv]at r2;have ⟨fs,cs,he,g1,g2⟩:=r2;have e1:((o1.semAt (FR none).round a'.eval).run P w')=.ok (.defer { target:=.fn (.func k) cs,args:=fs }) w':=by show((o1.semAt none a'.eval).run P w')=_;rw[Oper.semAt_none];simp only[execOp,hop,resolve,he,Deferred.ofValue,Sem.run_bind,Sem.run_pure,Result.andThen_ok,Array.map_empty,Array.append_empty]
   rw[e1,Oper.uponIn_defer];refine hQ env' s' ρ' _ w' k first cap fs cs hv k1 k2 k4 (by rw[hdst];exact k5) (by simpa using g1.append g2) ?_
   grind [dy]
  ·cases h2
 ·exact k1.elim
theorem oz(g:Grd P){Q:Exit->Act->World->Prop}:∀(c:Code) (env:Env) (K:AV->AExit->Env->Hq->Prop) (s:Hq) (ρ0 ρ:Ren) (w0 w:World) (s0:Hq) (a:Act),wpDR P A nt c env K s->Stp ρ0 ρ base s0 s t w0 w->ER ρ nt env a.tmps->a.defers=[]->
  (∀k first cap fs cs e env' s' ρ' a' w' t2,isFn P k=true->K (.fn (.func k) first cap) e env' s'->SG ρ0 ρ' base s0 s' t t2 w0 w'->ER ρ' nt env' a'.tmps->RelL ρ' (first++cap) (fs++cs:Array Value).toList->Ms ρ' t t2 s' [{ target:=.fn (.func k) cs,args:=fs }] a'.defers->Q (gP e) a' w')->c.wpIn (FR none) 0 P Q a w
 | .seq x y,env,K,s,ρ0,ρ,w0,w,s0,a,h,st,hT,hd,hQ=>by
   unfold wpDR at h;refine wpIn_seq ?_;cases hdt:jj x with
   | some p=>
     have ⟨alL,l,c⟩:=p;rw[hdt]at h;simp only at h;cases hf:oo c with
     |none=>grind
     |some f=>
     rw[hf]at h;simp only at h;cases hok:(l.all λo=>okOp o.op)with
     |false=>grind
     |true=>
     rw[hok,cond_true]at h;unfold jj at hdt;split at hdt
     ·rename_i id ops
      split at hdt
      ·rename_i q hq
       obtain⟨rfl,rfl,rfl⟩:=hdt;refine Lm g hq hf hok h st.fit hT hd λenv' s' ρ' a' w' k first cap fs cs hv hk k1 k4 k5 k6 k7=>?_
       rw[hv]at k1;refine ep (A:=A) (rnd:=none) y env' _ s' k1 g t t ρ' base w' a' none _ Q k4.fit k5 rfl (by rw[k7];exact .nil) λe env2 s2 ρ2 a2 w2 t2 j1 _ j3 j4 j5=>?_;have s3:=st.trans k4;exact hQ k first cap fs cs e env2 s2 ρ2 a2 w2 t2 hk j1 ⟨s3.le.trans j3.le,s3.below.trans j3.below,s3.pers.trans j3.pers,j3.fit,λi p q=>j3.nw i p (s3.nw i p q)⟩ j4 (RelL.mono j3.le _ _ k6) j5
      ·cases hdt
     ·cases hdt
   | none=>
     rw[hdt]at h;cases hn:noRF x with
     |false=>grind
     |true=>
     rw[hn,cond_true]at h;refine ep (A:=A) (rnd:=none) x env _ s h g t t ρ base w a none [] _ st.fit hT rfl (by rw[hd];exact .nil) λe env2 s2 ρ2 a2 w2 t2 j1 j2 j3 j4 j5=>?_;have hd2:=(j2.2 hn).trans hd;rw[hd2]at j5;rw[j5.none_left]at j3;cases e with
     |nrm=>exact oz g y env2 K s2 ρ0 ρ2 w0 w2 s0 a2 j1 (st.trans ⟨j3.le,j3.below,j3.pers,j3.fit,j3.nw⟩) j4 hd2 hQ
     |ret=>exact j1.elim
     |exit id=>exact j1.elim
 | .skip,_,_,_,_,_,_,_,_,_,h,_,_,_,_=>h.elim
 | .region _ _ _,_,_,_,_,_,_,_,_,_,h,_,_,_,_=>h.elim
 | .cond _ _ _,_,_,_,_,_,_,_,_,_,h,_,_,_,_=>h.elim
 | .block _ _,_,_,_,_,_,_,_,_,_,h,_,_,_,_=>h.elim
 | .loop _,_,_,_,_,_,_,_,_,_,h,_,_,_,_=>h.elim
 | .exit _,_,_,_,_,_,_,_,_,_,h,_,_,_,_=>h.elim
 | .ret,_,_,_,_,_,_,_,_,_,h,_,_,_,_=>h.elim
 | .rangeFunc _ _ _ _,_,_,_,_,_,_,_,_,_,h,_,_,_,_=>h.elim
 | .scope _,_,_,_,_,_,_,_,_,_,h,_,_,_,_=>h.elim
 | .label _,_,_,_,_,_,_,_,_,_,h,_,_,_,_=>h.elim
 | .goto _,_,_,_,_,_,_,_,_,_,h,_,_,_,_=>h.elim
 | .refuse _,_,_,_,_,_,_,_,_,_,h,_,_,_,_=>h.elim
theorem Lo(A:Nat->List Nat){f:FuncId}{fn:Func}{c:Code}(hf:P.funcs[f]?=some fn)(hb:fn.body=some c){args:List AV}(hl:ble args.length fn.ntmps=true){K:AV->Hq->Prop}{s:Hq}
  (h:wpDR P A fn.ntmps c (d7 args) (λv e env s=>retK e (runK P v (λs=>resK P fn.results.toList env (λvs=>K (oneV vs) s) s) s)) s):wC P f args K s:=λg ρ base t w args' hfit hr=>by
 refine callsIn_of_wp_marks hf hb trivial ?_ rfl;refine oz (A:=A) g c (d7 args) _ s ρ ρ w w s _ h (.refl hfit) ((by simp_all [kT])) rfl λk first cap fs cs e env' s' ρ' a' w' t2 hk k1 k3 k4 k5 k6=>?_
 have body:runK P (.fn (.func k) first cap) (λs=>resK P fn.results.toList env' (λvs=>K (oneV vs) s) s) s'->LeavesInM Fence.wide 0 P fn a'.tmps (fQ ρ base s t w K) a'.defers .returning w':=λhrun=>by obtain⟨ms,rfl,m1,m2,m3⟩:=k6;refine Aj k3.fit m1 m2 m3 λw2 f2 b2=>?_;refine⟨sI,.inr ⟨λh=>by simp[Fence.wide]at h,.func k,cs,k,fs++cs,rfl,by simp only[invoke];grind [m9,Grd.nonum],λ_ _=>trivial,(hrun g ρ' base t w2 _ f2 k5).mono ?_⟩⟩;rintro en u w3 ⟨rfl,v',s3,ρ3,rfl,st3,hk3⟩;have ⟨vs,vs',a4,a5,a6⟩:=nZ st3.fit (k4.mono st3.le) _ _ hk3;exact⟨_,Ai a4,_,_,s3,ρ3,rfl,Ah a5,⟨k3.le.trans st3.le,(k3.below.trans b2).trans st3.below,k3.pers.trans st3.pers,st3.fit,λi p q=>st3.nw i p (k3.nw i p q)⟩,a6⟩
 cases e with
 |exit id=>exact k1.elim
 |nrm=>exact body k1
 |ret=>exact body k1
end
def iE:Nat->Code->Code
 | 0,c=>c
 |d+1,.seq _ b=>iE d b
 |_+1,c=>c
def oA:Nat->Code->Bool
 | 0,_=>true
 |d+1,.seq _ b=>oA d b
 |_+1,_=>false
def wpCD(P:Program)(A:Nat->List Nat)(nt:Nat)(rnd:Option Nat):Nat->(Env->Hq->Prop)->Code->Env->(AExit->Env->Hq->Prop)->Hq->Prop
 | 0,J,_,env,_,s=>J env s
 |d+1,J,.seq a b,env,K,s=>wpC P A nt rnd a env (λe env s=>match e with
   | .nrm=>wpCD P A nt rnd d J b env K s
   |e=>K e env s) s
 |_+1,_,_,_,_,_=>False
theorem jo{P:Program}{A:Nat->List Nat}{nt:Nat}{rnd:Option Nat}{K:AExit->Env->Hq->Prop}:∀(d:Nat) (J:Env->Hq->Prop) (c:Code),oA d c=true->(∀env s,wpC P A nt rnd (iE d c) env K s=J env s)->∀env s,wpC P A nt rnd c env K s=wpCD P A nt rnd d J c env K s
 | 0,J,c,_,h,env,s=>h env s
 | d+1,J,c,hs,h,env,s=>by
   cases c with
   | seq a b=>
     have ih:=jo (P:=P) (A:=A) (nt:=nt) (rnd:=rnd) (K:=K) d J b hs h;show wpC P A nt rnd a env _ s=wpC P A nt rnd a env _ s
     grind
   |_=>cases hs
def noNumB(P:Program):Bool:=P.funcs.toList.all λfn=>!(fn.name == "runtime.NumGoroutine")
theorem A4{P:Program}(h:noNumB P=true):i4 P:=by intro k fn hk e;have hm:fn∈P.funcs.toList:=gR;have:=all_eq_true.1 h fn hm;simp[e]at this
theorem post_of_below{H:Type}{enc:TypeId×Value->H}{P:Program}{f:Func}{s:ChangeSpec}{apart fresh handsOn again:Bool}{W W':World}{args:Array Value}{v:Value}{ds gs:List (DataW H)}{before pa pv:List MemPlace}
  (hW:DataW.Whole enc P f.params.toList s.vars apart W args.toList ds gs before) (hb:Below W.heap.size W W')
  (hres:∀(b:Nat) (sp:Nat->Bool) (hd:Bool),DataW.TrodAll enc P W' b sp hd f.resultTypes.toList (v.resultList f.resultTypes.size) (s.fn H (ds++gs)).results [])
  (hargs:∀sp:Nat->Bool,(∀p∈before,sp p.block=true)->DataW.TrodAll enc P W' 0 sp true f.params.toList args.toList (s.fn H (ds++gs)).args pa)
  (hvars:∀sp:Nat->Bool,(∀p∈before,sp p.block=true)->DataW.TrodVars enc P W' sp s.vars (s.fn H (ds++gs)).vars pv)
  (hps:before=pa++pv)
  (hok:∀(j:Nat) (t:TypeId) (r:Value),f.resultTypes[j]?=some t->(v.resultList f.resultTypes.size)[j]?=some r->Value.okWide P W' .any 0 t r) :
  s.post enc P f apart fresh handsOn again W args v W':=by
 have hold:∀p∈before,(λb=>decide (b<W.heap.size)) p.block=true:=λp hp=>by simpa using hW.lt p hp
 have hlt:=hW.lt;refine⟨ds,gs,before,[],pa,pv,hW,hres _ _ _,hargs _ hold,hvars _ hold,World.keptBut_mono (λp hp=>⟨hp,?_⟩) (hb.frame (·∈before)),λ_=>?_⟩
 grind
 have ⟨_,_,_,_,_,hz,hn⟩:=hW;refine⟨hok,_,_,([]++pa)++pv,⟨[]++pa,pv,trodAll_append (hargs _ (λ_ _=>rfl)) (hres _ _ _),hvars _ (λ_ _=>rfl),rfl,?_,?_⟩,?_⟩;intro b off hp;have hm:MemPlace.cell b off∈before:=by rw[hps];simpa using hp
 rw[hb.frozen (p:=⟨b,off,none⟩) (hlt _ hm)];exact hz b off hm
 grind
 grind
section
variable {H:Type} {enc:TypeId × Value→H} {P:Program} {W W':World}
theorem kV{α β:Type}{f g:α->Option β}:∀{l:List α}{ys:List β},l.mapM f=some ys->(∀x∈l,∀y∈ys,f x=some y->g x=some y)->l.mapM g=some ys
 |[],ys,h,_=>by simpa using h
 | a::l,ys,h,hg=>by
   rw[mapM_cons]at h ⊢;cases ha:f a with
   |none=>rw[ha]at h;cases h
   | some b=>
     rw[ha]at h;cases hl:l.mapM f with
     |none=>rw[hl]at h;cases h
     | some bs=>
       rw[hl]at h;cases h;rw[hg a sI b sI ha,kV hl λx hx y hy=>gR];rfl
theorem A5(hb:Below W.heap.size W W'){a:Addr}{n:Nat}{cs:List Value}(h:W.cells? 0 a n=some cs):W'.cells? 0 a n=some cs:=by
 unfold World.cells? at h ⊢;rw[if_pos (zero_le _)]at h ⊢;refine kV h λi _ v _ hv=>?_;have hlt:(a.add i).block<W.heap.size:=by
  unfold World.cell? at hv
  grind
 rw[<- hv];exact hb.cell hlt
theorem uj(hb:Below W.heap.size W W')(sp:Nat->Bool):∀(d:Nat) (t:TypeId) (cs:List Value) (fuel:Nat) (x:DataW H×List MemPlace),plainT P d t=true->DataW.trod enc P W 0 (λ_=>true) true fuel t cs=some x->
  (∀p∈x.2,sp p.block=true)->DataW.trod enc P W' 0 sp true fuel t cs=some x
 | 0,_,_,_,_,hp,_,_=>by cases hp
 | d+1,t,cs,fuel,x,hp,h,hsp=>by
   unfold plainT at hp;cases fuel with
   |zero=>cases h
   |succ fuel=>
   split at hp;rename_i hu;obtain⟨b,rfl,rfl⟩:=DataW.trod_bool hu h;simp only[DataW.trod,hu];rename_i k hu;obtain⟨n,rfl,rfl,hw⟩:=DataW.trod_int hu h;simp[DataW.trod,hu,hw];rename_i hu;obtain⟨v,rfl,rfl,hv⟩:=DataW.trod_string hu h;simp[DataW.trod,hu,hv];rename_i e hu;have ⟨hp1,hp2⟩:=Bool.and_eq_true_iff.1 hp;have hes:0<P.cellsOf e:=by rwa [blt_eq]at hp1
   rcases DataW.trod_slice hu h with⟨rfl,rfl⟩|⟨a,len,cap,elems,rest,n,hn,rfl,rfl,_,hlc,hcm,hel,_,hspare,_⟩;simp only[DataW.trod,hu];have ⟨hrl,_⟩:=hspare rfl;have h0:=h;simp only[DataW.trod,hu,if_true,zero_le,true_and]at h ⊢;rw[if_pos ⟨hlc,hcm⟩]at h ⊢;rw[Option.bind_eq_some_iff]at h;have ⟨el2,g1,g2⟩:=h;rw[Option.map_eq_some_iff]at g2;have ⟨re2,g2,g3⟩:=g2;have hlen1:el2.length=len:=by rw[mapM_some_length g1];simp
   have hlen2:re2.length=cap-len:=by rw[mapM_some_length g2];simp
   simp only[Prod.mk.injEq,DataW.slice.injEq]at g3;have ⟨⟨g31,g32⟩,g4⟩:=g3;have keepE:∀y,(y∈el2∨y∈re2)->∀c,DataW.trod enc P W 0 (λ_=>true) true fuel e c=some y->DataW.trod enc P W' 0 sp true fuel e c=some y:=by
    intro y hy c hc;refine uj hb sp d e c fuel y hp2 hc λp hpm=>hsp p ?_
    grind
   have keepB:∀i y,(y∈el2∨y∈re2)->(W.cells? 0 (a.add (i*P.cellsOf e)) (P.cellsOf e)).bind (DataW.trod enc P W 0 (λ_=>true) true fuel e)=some y->
     (W'.cells? 0 (a.add (i*P.cellsOf e)) (P.cellsOf e)).bind (DataW.trod enc P W' 0 sp true fuel e)=some y:=by
    intro i y hy hi;rw[Option.bind_eq_some_iff]at hi ⊢
    grind [A5]
   rw[kV g1 gR];simp only[Option.bind_some]
   by_cases hz:cap-len=0
   have:re2=[]:=gR;subst this;simp only[hz,range_zero,mapM_nil];simp only[<- g31,<- g32,<- g4,map_nil];split<;>simp
   have hblk:sp a.block=true:=by refine hsp (.cell a.block (a.off+0)) ?_;simp only;refine mem_append_left _ ?_;unfold MemPlace.row;refine mem_map.2 ⟨0,?_,rfl⟩;rw[mem_range,hel,hrl];exact Nat.mul_pos oM hes
   rw[if_pos hblk,kV g2 gR];simp only[Option.map_some,<- g31,<- g32,<- g4];rename_i fs hu;have ⟨_,hp2⟩:=Bool.and_eq_true_iff.1 hp;obtain⟨xs,n,_,rfl,hl,hxl,hx⟩:=DataW.trod_struct hu h;simp only[DataW.trod,hu]at h ⊢;rw[if_pos hl]at h ⊢;rw[Option.map_eq_some_iff]at h ⊢;have ⟨ys,h1,h2⟩:=h;refine⟨ys,kV h1 λf hf y hy hfy=>?_,h2⟩;refine uj hb sp d f.type _ fuel y (all_eq_true.1 hp2 f hf) hfy λp hpm=>hsp p ?_;simp only[Prod.mk.injEq]at h2 ⊢;rw[<- h2.2];exact mem_flatMap.2 ⟨y,hy,hpm⟩;rename_i n e hu;have ⟨_,hp2⟩:=Bool.and_eq_true_iff.1 hp;have ⟨_,hp3⟩:=Bool.and_eq_true_iff.1 hp2;obtain⟨xs,m,_,rfl,hl,hxl,hx⟩:=DataW.trod_array hu h;simp only[DataW.trod,hu]at h ⊢;rw[if_pos hl]at h ⊢;rw[Option.map_eq_some_iff]at h ⊢;have ⟨ys,h1,h2⟩:=h;refine⟨ys,kV h1 λi _ y hy hfy=>?_,h2⟩;refine uj hb sp d e _ fuel y hp3 hfy λp hpm=>hsp p ?_;simp only[Prod.mk.injEq]at h2 ⊢;rw[<- h2.2];exact mem_flatMap.2 ⟨y,hy,hpm⟩
   ·cases hp
theorem trodAll_keep(hb:Below W.heap.size W W')(sp:Nat->Bool)(d:Nat):∀(ts:List TypeId) (vs:List Value) (ds:List (DataW H)) (ps:List MemPlace),(ts.all λt=>plainT P d t)=true->DataW.TrodAll enc P W 0 (λ_=>true) true ts vs ds ps->
  (∀p∈ps,sp p.block=true)->DataW.TrodAll enc P W' 0 sp true ts vs ds ps
 | [],vs,ds,ps,_,h,_=>by
   cases vs<;>cases ds<;>first|exact h|exact h.elim
 |t::ts,[],ds,ps,_,h,_=>by cases ds<;>exact h.elim
 |t::ts,v::vs,[],ps,_,h,_=>h.elim
 | t::ts,v::vs,x::ds,ps,hp,h,hsp=>by
   simp only[all_cons,Bool.and_eq_true]at hp;obtain⟨p,q,⟨fuel,h1⟩,h2,rfl⟩:=h;exact⟨p,q,⟨fuel,(by grind [uj])⟩,trodAll_keep hb sp d ts vs ds q hp.2 h2 λp hpm=>hsp p (by simp[hpm]),rfl⟩
end
theorem grd_of{P:Program}(h:P.follows .mixedOrders=true)(k:noNumB P=true):Grd P:=⟨h,A4 k⟩
section
variable (P : Program)
def fc(f:FuncId)(args:List AV)(R:AV->Hq->Prop)(s:Hq):Prop:=Grd P->∀(ρ:Ren) (base:Nat) (t:Hq) (w:World) (args':Array Value),Fit ρ base s t w->RelL ρ args args'.toList->
 CallsIn Fence.wide 0 P f args' w λe w'=>∃v v' s' ρ',e=.panicked [{ v:=v',recovered:=false }]/\Rel ρ' v v'/\Stp ρ ρ' base s s' t w w'/\R v s'
def gW(k:FuncId)(args:List AV)(x:AV)(Q:Hq->Prop)(s:Hq):Prop:=Grd P->∀(ρ:Ren) (base:Nat) (t:Hq) (w:World) (args':Array Value) (x':Value),Fit ρ base s t w->RelL ρ args args'.toList->Rel ρ x x'->
 CallsDIn Fence.wide 0 P k args' (.panicking [{ v:=x',recovered:=false }]) w λe u w'=>u=.panicking [{ v:=x',recovered:=true }]/\∃v' s' ρ',e=.returned v'/\Stp ρ ρ' base s s' t w w'/\Q s'
variable (nt : Nat)
abbrev DieR(ρ:Ren)(base:Nat)(s t:Hq)(w:World)(D:List Deferred)(R:AV->Env->Hq->Prop)(Q:Exit->Act->World->Prop):Prop:=
 ∀v v' env' s' ρ' a' w',Rel ρ' v v'->Stp ρ ρ' base s s' t w w'->ER ρ' nt env' a'.tmps->a'.defers=D->R v env' s'->Q (.panic [{ v:=v',recovered:=false }]) a' w'
def DieC(c:Code)(env:Env)(R:AV->Env->Hq->Prop)(s:Hq):Prop:=Grd P->∀(t:Hq) (ρ:Ren) (base:Nat) (w:World) (a:Act) (Q:Exit->Act->World->Prop),Fit ρ base s t w->ER ρ nt env a.tmps->DieR nt ρ base s t w a.defers R Q->c.wpIn (FR none) 0 P Q a w
def DieO(o:Oper)(env:Env)(R:AV->Env->Hq->Prop)(s:Hq):Prop:=Grd P->∀(t:Hq) (ρ:Ren) (base:Nat) (w:World) (a:Act) (next:Act->World->Prop) (Q:Exit->Act->World->Prop),Fit ρ base s t w->ER ρ nt env a.tmps->DieR nt ρ base s t w a.defers R Q->o.uponIn (FR none) 0 P a next Q ((o.semAt none a.eval).run P w)
end
section
variable {P:Program} {A:Nat→List Nat} {nt:Nat} {s:Hq} {env:Env} {R:AV→Env→Hq→Prop} {x y:Code}
theorem DRel.len{ρ:Ren}{ds0:List Deferred}:∀{ms:List Nat}{ds:List Deferred},DRel ρ ms ds ds0->ds.length=ms.length+ds0.length
 |[],ds,h=>by have h:=h;rw[h];simp
 |m::ms,ds,⟨_,ds',_,e,h⟩=>by rw[e,length_cons,DRel.len h,length_cons];omega
theorem Ms.same{ρ:Ren}{t t2:Hq}{D:List Deferred}(h:Ms ρ t t2 s D D):t2=t:=by
 obtain⟨ms,rfl,_,_,h4⟩:=h;have:=h4.len;have:ms=[]:=gR;subst this
 funext i;unfold add;cases t i<;>rfl
theorem DieR.pre{ρ ρ1:Ren}{base:Nat}{s1 t:Hq}{w w1:World}{D:List Deferred}{Q:Exit->Act->World->Prop}(h:DieR nt ρ base s t w D R Q)(st:Stp ρ ρ1 base s s1 t w w1):DieR nt ρ1 base s1 t w1 D R Q:=
 λv v' env' s' ρ' a' w' r k e d q=>h v v' env' s' ρ' a' w' r (st.trans k) e d q
theorem DieC.left(h:DieC P nt x env R s):DieC P nt (.seq x y) env R s:=λg t ρ base w a Q hf hT hQ=>
 wpIn_seq (h g t ρ base w a _ hf hT λv v' env' s' ρ' a' w' r k e d q=>hQ v v' env' s' ρ' a' w' r k e d q)
theorem DieC.then(A:Nat->List Nat)(hn:noRF x=true){K:Env->Hq->Prop}(h:wpC P A nt none x env (λe env s=>match e with | .nrm=>K env s|_=>False) s)(hK:∀env s,K env s->DieC P nt y env R s):DieC P nt (.seq x y) env R s:=λg t ρ base w a Q hf hT hQ=>by
 refine wpIn_seq (ep (A:=A) (rnd:=none) x env _ s h g t t ρ base w a none _ _ hf hT rfl .nil λe env2 s2 ρ2 a2 w2 t2 j1 j2 j3 j4 j5=>?_);have hd2:=j2.2 hn;rw[hd2]at j5;rw[j5.same]at j3;have st:Stp ρ ρ2 base s s2 t w w2:=⟨j3.le,j3.below,j3.pers,j3.fit,j3.nw⟩
 cases e with
 |nrm=>exact hK _ _ j1 g t ρ2 base w2 a2 Q j3.fit j4 (by rw[hd2];exact hQ.pre st)
 |ret=>exact j1.elim
 |exit id=>exact j1.elim
theorem DieC.cond{c:Operand}{b:Bool}(hc:okX c=true)(he:evD env c=b)(h:DieC P nt (if b then x else y) env R s):DieC P nt (.cond c x y) env R s:=λg t ρ base w a Q hf hT hQ=>by have hv:=eX hT hc;rw[he]at hv;exact wpIn_cond hv (h g t ρ base w a Q hf hT hQ)
theorem DieC.block{id:Nat}(h:DieC P nt x env R s):DieC P nt (.block id x) env R s:=λg t ρ base w a Q hf hT hQ=>
 wpIn_block (h g t ρ base w a _ hf hT λv v' env' s' ρ' a' w' r k e d q=>hQ v v' env' s' ρ' a' w' r k e d q)
theorem DieC.loop(h:DieC P nt x env R s):DieC P nt (.loop x) env R s:=λg t ρ base w a Q hf hT hQ=>
 wpIn_loop (λa' w'=>a'=a/\w'=w) (λ_ _=>0) ⟨rfl,rfl⟩ λa' w' ⟨e1,e2⟩=>by subst e1 e2;exact h g t ρ base w' a' _ hf hT λv v' env' s' ρ' a' w' r k e d q=>hQ v v' env' s' ρ' a' w' r k e d q
theorem DieC.last{id:Nat}{ops:Array Oper}{l:List Oper}{o:Oper}{K:Env->Hq->Prop}(h1:ops.toList=l ++ [o])(hg:o.guard=none)(hok:(l.all λo=>okOp o.op)=true)(h:opsE P nt ops.toList l [] env K s)(hK:∀env s,K env s->DieO P nt o env R s):DieC P nt (.region id ops false) env R s:=λg t ρ base w a Q hf hT hQ=>by
 refine wpIn_region ?_;have hsz:ops.size=l.length+1:=by have:=congrArg List.length h1;simpa using this
 have hrange:List.range ops.size=range' 0 l.length ++ [l.length]:=by rw[hsz,range_succ,range_eq_range']
 rw[hrange];have hget:∀j,j<l.length->l[j]?=ops[0+j]?:=λj hj=>by rw[zAY,<- Array.getElem?_toList,h1,getElem?_append_left hj]
 have hlast:ops[l.length]?=some o:=by rw[<- Array.getElem?_toList,h1];simp
 refine tR (r:=none) (Q:=Q) g [l.length] l 0 [] env s ρ w a hget hok .nil h hf hT λenv' s' ρ' a' w' k1 _ k4 k5 k6=>?_;simp only[wpOpsIn,hlast];rw[if_pos (by unfold Region.wanted;rw[hg])];refine⟨fT,?_⟩;exact hK env' s' k1 g t ρ' base w' a' _ Q k4.fit k5 (by rw[k6];exact hQ.pre k4)
theorem DieO.panic{o:Oper}{z:Operand}{ty:TypeId}{v:AV}(ho:o.op=.panic z)(hz:okX z=true)(he:evD env z=.ifc ty v)(hR:R (.ifc ty v) env s):DieO P nt o env R s:=λg t ρ base w a next Q hf hT hQ=>by
 have hv:=eX hT hz;have ⟨v',e,hr⟩:∃v',a.eval z=.iface ty v'/\Rel ρ v v':=by grind [Rel]
 have e1:(o.semAt none a.eval).run P w=.halt (.panic (.iface ty v')) w:=by rw[Oper.semAt_none];simp only[execOp,ho,e,Instr.panic];rfl
 rw[e1,Oper.uponIn_panic];exact hQ (.ifc ty v) _ env s ρ a w gR (.refl hf) hT rfl hR
theorem DieO.call{o:Oper}{c:Call}{f:Operand}{k:FuncId}(ho:o.op=.call c)(hcal:c.callee=.value f)(hok:(c.args.toList.all okX&&okX f)=true)(he:evD env f=.fn (.func k) [] [])(hk:isFn P k=true)(h:fc P k (c.args.toList.map (evD env)) (λv s=>R v env s) s):DieO P nt o env R s:=λg t ρ base w a next Q hf hT hQ=>by
 have ⟨h1,h2⟩:=Bool.and_eq_true_iff.1 hok;have hr:=kI hT h1;have hr':RelL ρ (c.args.toList.map (evD env)) (c.args.map a.eval).toList:=by simpa using hr
 have hv:=eX hT h2;rw[he]at hv;have ⟨fs,cs,e,g1,g2⟩:=hv;unfold RelL at g1 g2;have f0:fs=#[]:=gR;have c0:cs=#[]:=gR;have e1:(o.semAt none a.eval).run P w=.ok (.enter k (c.args.map a.eval)) w:=by
  rw[Oper.semAt_none];simp only[execOp,ho,resolve,hcal,e,Deferred.ofValue,invoke,Sem.run_bind,Sem.run_pure,Result.andThen_ok]
  grind [m9,Grd.nonum]
 rw[e1,Oper.uponIn_enter];refine⟨λh=>by simp[FR,Fence.wide]at h,(h g ρ base t w _ hf hr').mono ?_⟩;rintro en w2 ⟨v,v',s',ρ',rfl,q1,q2,q3⟩;exact hQ v v' env s' ρ' a w2 q1 q2 (hT.mono q2.le) rfl q3
theorem Lp{f:FuncId}{fn:Func}{c:Code}(hf:P.funcs[f]?=some fn)(hb:fn.body=some c){args:List AV}(hl:ble args.length fn.ntmps=true){R:AV->Hq->Prop}(h:DieC P fn.ntmps c (d7 args) (λv _ s=>R v s) s):fc P f args R s:=λg ρ base t w args' hfit hr=>by refine callsIn_of_wp hf hb trivial ?_ rfl;refine h g t ρ base w _ _ hfit (kT hr (le_of_ble_eq_true hl)) λv v' env' s' ρ' a' w' q1 q2 _ q4 q5=>?_;exact⟨q4,v,v',s',ρ',rfl,q1,q2,q5⟩
theorem Rp(A:Nat->List Nat){k:FuncId}{fn:Func}{id tm:Nat}{rest:Code}{o:Oper}(hf:P.funcs[k]?=some fn)(hb:fn.body=some (.seq (.region id #[o] false) rest))(hr:fn.results.toList=[])(ho:o.dst=some tm/\o.guard=none/\∃ts,o.op=.call ⟨.builtin .recover,#[],ts⟩)(hn:noRF rest=true)(hlt:blt tm fn.ntmps=true){args:List AV}(hl:ble args.length fn.ntmps=true){x:AV}{Q:Hq->Prop}
  (h:wpC P A fn.ntmps none rest (upd (d7 args) tm x) (λe env s=>retK e (Q s)) s):gW P k args x Q s:=λg ρ base t w args' x' hfit hrel hx=>by
 have hres:fn.results=#[]:=by apply Array.toList_inj.1;rw[hr]
 have hstart:=kT (nt:=fn.ntmps) hrel (le_of_ble_eq_true hl);have ⟨o1,o2,ts,o3⟩:=ho;refine callsDIn_of_wpSIn hf hb trivial λc₀ cs hu=>?_;refine wpSIn_seq (wpSIn_region ?_);simp only[size_toArray,length_cons,length_nil,zAY,show List.range 1=[0]from rfl,wpOpsSIn,getElem?_toArray,g0Y];refine⟨fT,?_⟩;have rec_exec:∀a:Act,(execOp a.eval o).run P w=.ok .recover w:=λa=>by simp only[execOp,o3,resolve,invoke,Array.map_empty,Sem.run_bind,Sem.run_pure,Result.andThen_ok];rfl
 have rd:recoverD (c₀::cs)=some (x',{ c₀ with mode:=.panicking [{ v:=x',recovered:=true }] }::cs):=by simp[recoverD,hu]
 rw[if_pos (by unfold Region.wanted;rw[o2]),rec_exec];simp only[rd];refine wpSIn_of_wpIn rfl (ep (A:=A) (rnd:=none) rest _ _ s h g t t ρ base w _ none [] _ hfit (by grind [ER.put]) rfl (by grind [dy,Ms.nil]) λe env' s' ρ' a' w' t2 k1 k2 k3 k4 k5=>?_);have hd1:=(k2.2 hn).trans (dy _ _ _);rw[hd1]at k5;have:=k5.none_left;subst this;have main:Q s'->a'.defers=[]/\∃u',({ c₀ with mode:=.panicking [{ v:=x',recovered:=true }] }::cs)={ c₀ with mode:=u' }::cs/\∃v,(results fn a'.tmps).run P w'=.ok v w'/\(u'=.panicking [{ v:=x',recovered:=true }]/\∃v' s' ρ',Ending.returned v=.returned v'/\Stp ρ ρ' base s s' t2 w w'/\Q s'):=λhk=>
  ⟨hd1,_,rfl,.tuple #[],by simp[results,hres],rfl,_,s',ρ',rfl,⟨k3.le,k3.below,k3.pers,k3.fit,k3.nw⟩,hk⟩
 cases e with
 |nrm=>exact main k1
 |ret=>exact main k1
 |exit i=>exact k1.elim
def recK(P:Program)(f v:AV)(Q:Hq->Prop)(s:Hq):Prop:=match f with
 | .fn (.func k) first cap=>gW P k (first++cap) v Q s
 |_=>False
theorem Rq(A:Nat->List Nat){f:FuncId}{fn:Func}{id:Nat}{r0 rest:Code}{ops:Array Oper}{l:List Oper}{c:Call}{fo:Operand}(hf:P.funcs[f]?=some fn)(hb:fn.body=some (.seq r0 (.seq (.region id ops false) rest))){args:List AV}(hl:ble args.length fn.ntmps=true)(hn:noRF r0=true)(h1:iw ops.toList=some (l,c))(h2:oo c=some fo)(hok:(l.all λo=>okOp o.op)=true){K:AV->Hq->Prop}
  {K0:Env->Hq->Prop}(h:wpC P A fn.ntmps none r0 (d7 args) (λe env s=>match e with
   | .nrm=>opsE P fn.ntmps ops.toList l [] env (λenv s=>jm P (evD env fo)/\K0 env s) s
   |_=>False) s)
  (hK:∀env s,K0 env s->DieC P fn.ntmps rest env (λv env' s'=>recK P (evD env fo) v (λs=>resK P fn.results.toList env' (λvs=>K (oneV vs) s) s) s') s):wC P f args K s:=λg ρ base t w args' hfit hr=>by
 refine callsIn_of_wp_marks hf hb trivial ?_ rfl;refine wpIn_seq (ep (A:=A) (rnd:=none) r0 _ _ s h g t t ρ base w _ none [] _ hfit ((by simp_all [kT])) rfl .nil λe env2 s2 ρ2 a2 w2 t2 j1 j2 j3 j4 j5=>?_);have hd2:=j2.2 hn;rw[hd2]at j5;rw[j5.none_left]at j3;cases e with
 |ret=>exact j1.elim
 |exit id=>exact j1.elim
 |nrm=>
 have st2:Stp ρ ρ2 base s s2 t w w2:=⟨j3.le,j3.below,j3.pers,j3.fit,j3.nw⟩
 refine wpIn_seq (Lm g h1 h2 hok j1 j3.fit j4 hd2 λenv' s' ρ' a' w' k first cap fs cs hv hk k1 k4 k5 k6 k7=>?_);refine hK _ _ k1 g t ρ' base w' a' _ k4.fit k5 λv v' env3 s3 ρ3 a3 w3 q1 q2 q3 q4 q5=>?_;rw[hv]at q5;show LeavesInM Fence.wide 0 P fn a3.tmps (fQ ρ base s t w K) a3.defers (.panicking [{ v:=v',recovered:=false }]) w3;rw[q4,k7];refine⟨sI,.inr ⟨λh=>by simp[Fence.wide]at h,.func k,cs,k,fs++cs,rfl,by simp only[invoke];grind [m9,Grd.nonum],λ_ _=>trivial,(q5 g ρ3 base t w3 _ _ q2.fit (RelL.mono q2.le _ _ k6) q1).mono ?_⟩⟩;rintro en u w4 ⟨rfl,v4,s4,ρ4,rfl,st4,hk4⟩;have ⟨vs,vs',a4,a5,a6⟩:=nZ st4.fit (q3.mono st4.le) _ _ hk4;exact⟨_,Ai a4,_,_,s4,ρ4,rfl,Ah a5,((st2.trans k4).trans q2).trans st4,a6⟩
end
end Go.AM
