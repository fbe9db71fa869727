/- Part A3 of the proof: see the last part. -/
import Derived.Test.YtcmcofklcgafiaaGreatA2
import Derived.Maps.RangeRun
import Derived.RangeFuncNested
import Derived.DataReads
import Derived.ProofKit
import Derived.ChangeAt
import Derived.ChangeArms
import Derived.OpenShut
import Derived.Shelf.SlIterI.Nil
import Derived.Shelf.SortM.Plain
import Derived.Shelf.SortM.SortNone
import Derived.Ground.GgzProg
import Derived.Ground.SlgmProg
import Derived.RecoverIn
open Go renaming CallsIn→fO,DataW→bp,Deferred→cx,Fence→bY,FuncId→aQ,IntKind→aA,LoopState→dg,MapEntry→bS,MemPlace→d7,Operand→aP,Program→ay,Result→aU,TypeId→ah,Value→ai,World→am,callsIn_of_wp_marks→iu,execOp→cX,maxLen→eZ,wpIn_seq→fC
open List renaming all_cons→eu,all_eq_true→bU,append_assoc→cn,drop_eq_nil_of_le→fc,eq_nil_of_length_eq_zero→iv,ext_getElem?→d8,flatten_append→iw,getD_eq_getElem?_getD→dO,getElem?_append_left→da,getElem?_map→cq,getElem?_of_mem→eA,getElem?_take→iy,getElem?_toArray→iA,length_cons→cr,length_nil→iB,map_append→bM,map_cons→cL,mem_map→aG,mem_of_mem_take→jC,mem_singleton→bN,pairwise_cons→aB,range_eq_range'→jD,take_append_drop→fD
open Nat renaming blt_eq→bZ,div_lt_iff_lt_mul→fP,le_of_ble_eq_true→cJ,mul_le_mul_right→cV,succ_mul→eB
set_option linter.unusedVariables false
namespace Go.AM
open Go Go.RowKit List Nat
section
variable {P:ay} {A:Nat→List Nat} {nt base:Nat} {rnd:Option Nat} {ρ ρ' ρ1 ρ2:Ren} {s s' s1 s2 t t1 t2:Hq} {w w' w1 w2:am} {ds0 ds:List cx} {env:Env} {a:Act}
theorem xa{n b:Nat}:∀{l:List Nat},hasN n (l ++ [b])=(hasN n l||beq n b)
 |[]=>by unfold hasN;simp[hasN]
 | m::l=>by
   show(beq n m||hasN n (l ++ [b]))=((beq n m||hasN n l)||beq n b)
   rw[xa,Bool.or_assoc]
theorem Cy{seen:List Nat}:∀{es:List AEnt}{e:AEnt},e∈fY seen es->e∈es/\hasN e.born seen=false
 | x::es,e,h=>by
   unfold fY at h;cases c:hasN x.born seen with
   | true=>
     rw[c]at h;have ⟨h1,h2⟩:=Cy h
     grind
   | false=>
     rw[c]at h;rcases mCY h with rfl|h
     ·grind
     ·have ⟨h1,h2⟩:=Cy h
      grind
theorem NZ{seen:List Nat}{b:Nat}:∀{es:List AEnt},(fY (seen ++ [b]) es).length<=(fY seen es).length
 |[]=>Nat.le_refl _
 | x::es=>by
   unfold fY;rw[xa];have:=NZ (seen:=seen) (b:=b) (es:=es)
   grind
theorem Cz{seen:List Nat}:∀{es:List AEnt}{e:AEnt},e∈fY seen es->(fY (seen ++ [e.born]) es).length<(fY seen es).length
 | x::es,e,h=>by
   have hle:=NZ (seen:=seen) (b:=e.born) (es:=es);unfold fY at h ⊢;rw[xa];cases c:hasN x.born seen with
   | true=>
     rw[c]at h;exact Cz h
   | false=>
     rw[c]at h;rcases mCY h with rfl|h
     ·simp only[beq_refl,Bool.or_true,aD,cond_false,cr];omega
     ·have:=Cz h
      cases d:beq x.born e.born with
      |true=>simp only[Bool.or_true,aD,cond_false,cr];omega
      |false=>simp only[Bool.or_false,cond_false,cr];omega
theorem N0:∀es:List AEnt,fY [] es=es
 |[]=>rfl
 | x::es=>by
   show cond (hasN x.born []) (fY [] es) (x::fY [] es)=_;rw[N0 es];rfl
theorem N1{seen:List Nat}:∀{es:List AEnt},fY seen es=[]->∀e∈es,hasN e.born seen=true
 | x::es,h,e,he=>by
   unfold fY at h;cases c:hasN x.born seen with
   |false=>rw[c]at h;cases h
   | true=>
     rw[c]at h;rcases mCY he with rfl|he;exact c;exact N1 h e he
theorem rP(n:Nat):∀l:List Nat,hasN n l=l.toArray.contains n
 |[]=>by simp[hasN]
 | m::l=>by
   unfold hasN;rw[rP n l];have:beq n m=decide (n=m):=by
    cases h:beq n m with
    |true=>simp_all
    |false=>have:n≠m:=λe=>by subst e;simp at h
            simp[this]
   grind
theorem N2{seen:List Nat}:∀{es:List AEnt}{es':List bS},EsRel ρ es es'->EsRel ρ (fY seen es) (es'.filter λe=>!seen.toArray.contains e.born)
 | [],es',hr=>by
   have:=hr.len
   grind [fY]
 | a::es,es',hr=>by
   cases es' with
   |nil=>have:=hr.len;simp at this
   | cons a' es'=>
     have ha:=hr.at_ 0 a a' rfl rfl;have ht:EsRel ρ es es':=⟨by have:=hr.len;simpa using this,λi x y hx hy=>hr.at_ (i+1) x y (by simpa using hx) (by simpa using hy)⟩
     have ih:=N2 (seen:=seen) ht;unfold fY;rw[rP,<- ha.born];cases hc:seen.toArray.contains a'.born with
     |true=>grind
     | false=>
       refine⟨by grind [EsRel.len],λi x y hx hy=>?_⟩
       grind [EsRel.at_]
theorem EsRel.mem{es:List AEnt}{es':List bS}(h:EsRel ρ es es'){e':bS}(he:e'∈es'):∃e∈es,ERel ρ e e':=by
 obtain⟨i,hi,rfl⟩:=mem_iff_getElem.1 he;have hl:i<es.length:=by rw[<- h.len];exact hi
 exact⟨es[i],getElem_mem hl,h.at_ i _ _ (gE hl) (gE hi)⟩
theorem CA{since:Nat}:∀{es:List AEnt}{es':List bS},EsRel ρ es es'->jV since es=true->∀x∈es',x.born<since:=by
 intro es es' hr h x hx;have ⟨e,he,hre⟩:=hr.mem hx;rw[hre.born];clear hr hx hre
 induction es with
 |nil=>cases he
 | cons a es ih=>
   unfold jV at h;simp only[Bool.and_eq_true]at h;rcases mCY he with rfl|he
   ·simp_all
   ·exact ih h.2 he
theorem rQ{b:Code}{s:MapStep}(hs:mA b=some s){r:Option Nat}{Q:Exit->Act->am->Prop}{vs:Array ai}{t:Bool}{w1:am}(hn:s.nx<a.tmps.size)
  (hrun:∀ty,(Instr.next (a.tmps.getD s.it undef) false ty).run P w=.ok (.tuple vs) w1) (hv:vs[0]?=some (.bool t))
  (h:s.rest.wpIn (FR r) 0 P Q ((a.put (some s.nx) (.tuple vs)).put (some s.more) (.bool t)) w1):b.wpIn (FR r) 0 P Q a w:=by
 unfold mA at hs;split at hs
 ·rename_i id ops rest
  split at hs
  ·rename_i nx it ty1 pos1 af1 more nx' ty2 pos2 af2 hops
   have ⟨hc,hs⟩:=d6 hs;cases hs;have hc:=bE hc;have e0:ops=#[⟨some nx,.next (.tmp it) false,ty1,pos1,af1,none⟩,⟨some more,.extract (.tmp nx) 0,ty2,pos2,af2,none⟩]:=by
    grind
   subst e0;refine fC (wpIn_region ?_);simp only[size_toArray,cr,iB,zAY,reduceAdd,show List.range 2=[0,1]from rfl,wpOpsIn,iA,g0Y,g1Y];have w1t:∀(o:Oper) (t':Nat->Option Bool),o.guard=none->Region.wanted o t'=true:=λo t' h=>by unfold Region.wanted;rw[h]
   refine⟨jz,?_⟩;rw[Oper.semAt_eq _ _ _ (by intro c h;cases h)];have e1:(cX a.eval ⟨some nx,.next (.tmp it) false,ty1,pos1,af1,none⟩).run P w=.ok (.value (.tuple vs)) w1:=by
    have he:a.eval (.tmp it)=a.tmps.getD it undef:=by simp[Act.eval]
    simp only[cX,he,Sem.run_bind,hrun ty1,aU.andThen_ok,Sem.run_pure]
   rw[e1,Oper.uponIn_value];refine⟨jz,?_⟩;rw[Oper.semAt_eq _ _ _ (by intro c h;cases h)];have e2:(cX (a.put (some nx) (.tuple vs)).eval ⟨some more,.extract (.tmp nx) 0,ty2,pos2,af2,none⟩).run P w1=.ok (.value (.bool t)) w1:=by
    have he:(a.put (some nx) (.tuple vs)).eval (.tmp nx)=.tuple vs:=by
     simp only[Act.eval,Act.put]
     simp_all
    simp only[cX,he,Sem.run_bind,Instr.extract,hv,Sem.run_pure,aU.andThen_ok]
   rw[e2,Oper.uponIn_value];exact h
  ·cases hs
 ·cases hs
theorem Fit.hideOwn{r:Nat}{b:Blk}(h:Fit ρ base s t w)(hs:s r=some (false,b)):t r=none/\Fit ρ base (hdel s r) (hset t r (false,b)) w:=by
 have ⟨_,_,_,h3⟩:=h.get hs;refine⟨(h3 rfl).2,?_,λi x hx=>?_⟩
 ·have e:add (hset t r (false,b)) (hdel s r)=add t s:=by
   funext i
   by_cases q:i=r
   ·subst q;rw[cU dT,cC (h3 rfl).2,hs]
   grind [add,cG,dL]
  rw[e];exact h.wr
 ·by_cases q:i=r
  ·grind [ic]
  ·rw[cG q]at hx;rw[dL q];exact h.fr i x hx
theorem Fit.show_{r:Nat}{b:Blk}(h:Fit ρ base s (hset t r (false,b)) w):Fit ρ base (hset s r (true,b)) (hset t r (false,b)) w:=by
 refine⟨?_,λi x hx=>?_⟩
 ·have e:add (hset t r (false,b)) (hset s r (true,b))=add (hset t r (false,b)) s:=by
   grind [dT,add,cG]
  rw[e];exact h.wr
 ·by_cases q:i=r
  ·grind [dT]
  ·rw[cG q];exact h.fr i x hx
theorem CB{r since stp c:Nat}{mo:Option Nat}{sn:List Nat}{es:List AEnt}{x':ai}(hf:Fit ρ base s (hset t r (false,.iter mo since sn stp)) w)(hs:s r=none)(hst:since<=stp)(hmap:kX s mo c es)(hold:jV since es=true)(hx:Rel ρ (Pp r) x'):
  (fY sn es=[]/\∀ty,(Instr.next x' false ty).run P w=.ok (.tuple #[.bool false]) w)∨
   (∃e∈fY sn es,∃e' w1,(ERel ρ e e')/\(∀ty,(Instr.next x' false ty).run P w=.ok (.tuple #[.bool true,e'.key,e'.val]) w1)/\Fit ρ base s (hset t r (false,.iter mo since (sn ++ [e.born]) c)) w1/\Below base w w1):=by
 obtain⟨L,hL,rfl⟩:=hx;have ⟨L',hL',⟨hsh,M,q1,q2⟩,hbase⟩:=hf.wr.at_ r false _ (cU dT);rw[hL]at hL';cases hL';cases mo with
 | none=>
   subst q1;subst hmap;exact .inl ⟨rfl,λty=>by simp[Instr.next,hsh,getObj,Sem.run,q2]⟩
 | some m=>
   obtain⟨D,q3,rfl⟩:=q1;have ⟨tg,hm⟩:=hmap;have ⟨D',hD',⟨es',q4,q5⟩,_⟩:=hf.get hm;rw[q3]at hD';cases hD';have ho:=CA q5 hold;have hleft:=N2 (seen:=sn) q5;have hfil:(leftOf es' sn.toArray).toList=es'.toList.filter λe=>!sn.toArray.contains e.born:=by unfold leftOf;exact Array.toList_filter
   rw[<- hfil]at hleft;have step:=λty=>run_next_at (P:=P) w ty L.blk D.blk since stp sn.toArray es' c q2 q4 ho hst;rcases step 0 with⟨s1,_⟩|⟨e',he',_⟩
   ·left
    refine⟨iv (by grind [EsRel.len]),λty=>?_⟩
    grind
   ·right
    have hpos:0<(leftOf es' sn.toArray).size:=gR;have step0:∃e'∈(leftOf es' sn.toArray).toList,∃w1:am,(w1=w∨w1=w.drew)/\∀ty,(Instr.next (.pointer (some ⟨L.blk,0,none⟩)) false ty).run P w=.ok (.tuple #[.bool true,e'.key,e'.val]) (Go.ChangeMaps.setBlock w1 L.blk (.mapIter (some D.blk) since (sn.toArray.push e'.born) c)):=by
     rcases step 0 with⟨s1,_⟩|⟨e',he',w1,a,b⟩
     ·omega
     ·exact⟨e',he',w1,a,λty=>b⟩
    have ⟨e',he',w1,hw1,hrun⟩:=step0;have ⟨e,he,hre⟩:=hleft.mem he';have hlt:=qF q2;have hu:Upd w L.blk (.mapIter (some D.blk) since (sn.toArray.push e'.born) c) (Go.ChangeMaps.setBlock w1 L.blk (.mapIter (some D.blk) since (sn.toArray.push e'.born) c)):=by
     rcases hw1 with rfl|rfl
     ·exact⟨rfl,rfl,rfl,by simp[Go.ChangeMaps.setBlock],by simp[Go.ChangeMaps.setBlock,hlt],λk hk=>Array.getElem?_setIfInBounds_ne (λe=>hk e.symm)⟩
     ·exact⟨rfl,rfl,rfl,by simp[Go.ChangeMaps.setBlock],by simp[Go.ChangeMaps.setBlock,hlt],λk hk=>Array.getElem?_setIfInBounds_ne (λe=>hk e.symm)⟩
    have ⟨k1,k2⟩:=hf.wr.put (tg:=false) (b:=.iter (some m) since (sn ++ [e.born]) c) (cU dT) hL hu ⟨hsh,some D.blk,⟨D,q3,rfl⟩,by simp[hre.born]⟩;refine⟨e,he,e',_,hre,(by simp_all),⟨?_,λi x hx=>?_⟩,k2⟩
    ·have e0:hset (add (hset t r (false,.iter (some m) since sn stp)) s) r (false,.iter (some m) since (sn ++ [e.born]) c)=add (hset t r (false,.iter (some m) since (sn ++ [e.born]) c)) s:=by
      funext i
      grind [dT,add,cG]
     rw[<- e0];exact k1
    ·by_cases q:i=r
     ·subst q;exact .inl hs
     ·rw[cG q]at hx;exact hf.fr i x (by rw[cG q];exact hx)
theorem Ms.up{r:Nat}{x:Bool×Blk}(h:Ms ρ t t1 s ds0 ds)(hr:t1 r=none)(hs:∀i,i≠r->s i=none->s' i=none):Ms ρ (hset t r x) (hset t1 r x) s' ds0 ds:=by
 obtain⟨ms,rfl,h1,h2,h3⟩:=h;have hm:∀i∈ms,i≠r:=λi hi q=>by subst q;rw[cC (h1 i hi).1,oV hi]at hr;cases hr
 refine⟨ms,?_,λi hi=>⟨by rw[cG (hm i hi)];exact(h1 i hi).1,hs i (hm i hi) (h1 i hi).2⟩,h2,h3⟩
 grind [dT,add,cG]
theorem Ms.down{r:Nat}{x:Bool×Blk}(h:Ms ρ (hset t r x) t2 s ds0 ds)(hr:t r=none)(hs:∀i,i≠r->s i=none->s' i=none):∃u,t2=hset u r x/\u r=none/\Ms ρ t u s' ds0 ds:=by
 obtain⟨ms,rfl,h1,h2,h3⟩:=h;have hm:∀i∈ms,i≠r:=λi hi q=>by
  subst q
  grind [dT]
 refine⟨add t (mkH ms),?_,?_,ms,rfl,λi hi=>⟨?_,hs i (hm i hi) (h1 i hi).2⟩,h2,h3⟩
 ·grind [dT,add,cG]
 ·grind [cC,Ct]
 ·have:=(h1 i hi).1
  rw[cG (hm i hi)]at this;exact this
theorem Uu{b:Code}{st:MapStep}(hms:mA b=some st)(hb:iW P A nt rnd st.rest)(hok:wZ nt st (assigned b)=true){ls:List Nat}{K:AExit->Env->Hq->Prop}
  (h:NV st ls (assigned b) (λenv K s=>wpC P A nt rnd st.rest env K s) env K s):CW P nt rnd (.loop b) env K s:=by
 intro g t t1 ρ base w a r0 ds0 Q hf hT hr hd hQ;unfold wZ at hok;simp only[Bool.and_eq_true,Bool.not_eq_true']at hok;have ⟨hits,⟨k3,k4⟩,k5,k6⟩:=hok;have ⟨p,hp,I,hI0,hstep⟩:=cB h;have ⟨r,mo,since,c,es⟩:=p;simp only at hI0 hstep;have ⟨hit,stepped,q1,q2,q3,q4,_,_⟩:=Ut hp;have ⟨b0,hseq⟩:=NW hms;have hsub:∀j,j ∉ assigned b->j ∉ assigned st.rest/\j≠st.nx/\j≠st.more:=(by grind [assigned,jB])
 have offs:∀{env1 env':Env}{v u:AV}{d1 d2:List cx},Off b env env1 a.defers d1->Off st.rest (upd (upd env1 st.nx v) st.more u) env' d1 d2->Off b env env' a.defers d2:=fun {env1 env' v u d1 d2} ho hj=>⟨λj hm=>by
  have ⟨z1,z2,z3⟩:=hsub j hm;rw[hj.1 j z1];have e:∀{k:Nat},j≠k->beq j k=false:=fun {k} q=>by
   cases e:beq j k with
   |false=>rfl
   |true=>exact absurd (bE e) q
  unfold upd;rw[e z2,e z3];exact ho.1 j hm,λq=>(hj.2 (by rw[hseq]at q;exact(Bool.and_eq_true_iff.1 q).2)).trans (ho.2 q)⟩
 have ⟨htr,hf0⟩:=hf.hideOwn q1;have htr0:t r=none:=by
  cases q:t r with
  |none=>rfl
  |some x=>have:=hd.fr (i:=r) (by rw[q];simp);grind
 have hQ2:∀e env' s' ρ' a' w' u bk,K e env' s'->s' r=none->u r=none->Off b env env' a.defers a'.defers->SG ρ ρ' base (hdel s r) s' t (hset u r bk) w w'->ER ρ' nt env' a'.tmps->Ms ρ' t u s' ds0 a'.defers->Q (kW e) a' w':=λe env' s' ρ' a' w' u bk j1 j2 j3 j4 j5 j6 j7=>
  hQ e env' s' ρ' a' w' u j1 j4 ⟨j5.le,j5.below,λi x hi=>j5.pers i x (by rw[dL λq=>by subst q;rw[q1]at hi;cases hi];exact hi),j5.fit.drop (λi x hx=>by rw[cG λq=>by subst q;rw[j3]at hx;cases hx];exact hx) (λi h1 h2=>by
   by_cases q:i=r
   ·subst q;exact j2
   ·rw[cG q]at h2;exact absurd h1 h2),λi hi hs=>j5.nw i hi (by unfold hdel;split<;>first|rfl|exact hs)⟩ j6 j7
 refine wpIn_loop_rounds (es.length+1) ?_;have key:∀(k:Nat) (sn:List Nat) (env1:Env) (s1:Hq) (stp:Nat) (ρ1:Ren) (a1:Act) (w1:am) (u1:Hq),u1 r=none->(fY sn es).length<k->I sn (ls.map env1) s1->s1 r=none->since<=stp->
   Off b env env1 a.defers a1.defers->SG ρ ρ1 base (hdel s r) s1 t (hset u1 r (false,.iter mo since sn stp)) w w1->ER ρ1 nt env1 a1.tmps->Ms ρ1 t u1 s1 ds0 a1.defers->Code.roundsIn (FR r0) 0 P b Q k a1 w1:=by
  intro k
  induction k with
  |zero=>grind
  | succ k ih=>
    intro sn env1 s1 stp ρ1 a1 w1 u1 hu hk hI hs1 hstp hoff sp hT1 hd1;have ⟨hmap,hmore,hdone⟩:=hstep sn env1 s1 hI hs1;rw[rM hoff.1]at hmore hdone;have hx:=hT1.at_ st.it;have e0:=(hoff.1 st.it λq=>by rw[jB.2 q]at hits;cases hits).trans hit;rw[e0]at hx;have n1:st.nx<nt:=by simpa [bZ]using k5
    rcases CB (P:=P) sp.fit hs1 hstp hmap q4 hx with⟨hl,c5⟩|⟨e,he,e',w2,c5,c6,c7,c8⟩
    ·refine rQ (t:=false) hms (by rw[hT1.size];exact n1) c5 rfl ?_
     refine hb _ _ s1 (hdone (N1 hl)) g (hset t r (false,.iter mo since sn stp)) (hset u1 r (false,.iter mo since sn stp)) ρ1 base w1 _ r0 ds0 _ sp.fit
      ((hT1.put (v:=.tup [false]) (v':=.tuple #[.bool false]) k5 (by unfold Rel;exact⟨_,rfl,.cons (by unfold Rel;rfl) .nil⟩)).put (v:=false) (v':=.bool false) k6 (by unfold Rel;rfl))
      (hr.mono sp.le) (by rw[ga,ga];exact hd1.up hu λi _ h=>h) λex env2 s2 ρ2 a2 w3 u2 j1 j3 j4 j5 j6=>?_
     have hr2:=j4.nw r (by rw[dT];simp) hs1;obtain⟨u,rfl,hu2,hm2⟩:=j6.down (s':=s2) htr0 λi _ h=>h;have sp2:SG ρ ρ2 base (hdel s r) s2 t (hset u r (false,.iter mo since sn stp)) w w3:=⟨sp.le.trans j4.le,sp.below.trans j4.below,sp.pers.trans j4.pers,j4.fit,λi a b=>j4.nw i (by rw[cG λq=>by subst q;exact a htr0];exact a) (sp.nw i a b)⟩
     cases ex with
     |nrm=>exact j1.elim
     |exit id=>exact hQ2 _ env2 s2 ρ2 a2 w3 u _ j1 hr2 hu2 (offs hoff (by rw[ga,ga]at j3;exact j3)) sp2 j5 hm2
     |ret=>exact hQ2 _ env2 s2 ρ2 a2 w3 u _ j1 hr2 hu2 (offs hoff (by rw[ga,ga]at j3;exact j3)) sp2 j5 hm2
    ·have ⟨m1,m2⟩:=Cy he
     refine rQ (t:=true) hms (by rw[hT1.size];exact n1) c6 rfl ?_;refine hb _ _ _ (hmore e m1 m2) g (hset t r (false,.iter mo since (sn ++ [e.born]) c)) (hset u1 r (false,.iter mo since (sn ++ [e.born]) c)) ρ1 base w2 _ r0 ds0 _ c7.show_
      ((hT1.put (v:=.tup [true,e.key,e.val]) (v':=.tuple #[.bool true,e'.key,e'.val]) k5 (by unfold Rel;exact⟨_,rfl,.cons (by unfold Rel;rfl) (.cons c5.key (.cons c5.val .nil))⟩)).put (v:=true) (v':=.bool true) k6 (by unfold Rel;rfl))
      (hr.mono sp.le) (by rw[ga,ga];exact hd1.up hu λi q h=>by rw[cG q];exact h) λex env2 s2 ρ2 a2 w3 u2 j1 j3 j4 j5 j6=>?_
     obtain⟨u,rfl,hu2,hm2⟩:=j6.down (s':=hdel s2 r) htr0 λi q h=>by rw[dL q];exact h
     have sp2:SG ρ ρ2 base (hdel s r) (hdel s2 r) t (hset u r (false,.iter mo since (sn ++ [e.born]) c)) w w3:=by
      refine⟨sp.le.trans j4.le,(sp.below.trans c8).trans j4.below,λi bk hi=>?_,j4.fit.sub λi x hi=>?_,λi a b=>?_⟩
      ·have hne:i≠r:=λq=>by subst q;rw[ic]at hi;cases hi
       rw[dL hne];exact j4.pers i bk (by rw[cG hne];exact sp.pers i bk hi)
      ·by_cases q:i=r
       ·subst q;rw[ic]at hi;cases hi
       ·rw[dL q]at hi;exact hi
      ·have hne:i≠r:=λq=>by subst q;exact a htr0
       rw[dL hne];exact j4.nw i (by rw[cG hne];exact a) (by rw[cG hne];exact sp.nw i a b)
     cases ex with
     | nrm=>
       have hsc:=q3;have:=Cz he;exact ih (sn ++ [e.born]) env2 (hdel s2 r) c ρ2 a2 w3 u hu2 oM j1 ic hsc (offs hoff (by rw[ga,ga]at j3;exact j3)) sp2 j5 hm2
     |exit id=>exact hQ2 _ env2 _ ρ2 a2 w3 u _ j1 ic hu2 (offs hoff (by rw[ga,ga]at j3;exact j3)) sp2 j5 hm2
     |ret=>exact hQ2 _ env2 _ ρ2 a2 w3 u _ j1 ic hu2 (offs hoff (by rw[ga,ga]at j3;exact j3)) sp2 j5 hm2
 exact key (es.length+1) [] env (hdel s r) stepped ρ a w t1 htr (by rw[N0];omega) hI0 ic q2 ⟨λ_ _=>rfl,λ_=>rfl⟩ (.refl hf0) hT (hd.sub λi h=>by unfold hdel;split<;>first|rfl|exact h)
end
section
variable {P:ay} {A:Nat→List Nat} {nt base:Nat} {rnd:Option Nat} {ρ ρ' ρ1 ρ2:Ren} {s t t1 t2:Hq} {w w' w1:am} {ds0 ds:List cx} {env:Env} {a:Act}
theorem Ms.mono(h:Ms ρ t t1 s ds0 ds)(hl:Le ρ ρ'):Ms ρ' t t1 s ds0 ds:=by have ⟨ms,a,b,c,d⟩:=h;exact⟨ms,a,b,c,d.mono hl⟩
theorem CC{l:Nat}{L:Loc}{st st2:dg}{pd pd2:Option Code}{nt2:Nat}{keep:List (Nat×AV)}{ps:List Tmp}{az bo:Code}{d:Nat}(hf:Fit ρ base s t w)(hL:ρ l=some L)(hs:s l=some (false,.loop st pd nt2 keep ps az bo d)):
  ∃r:Loop,w.heap[L.blk]?=some (.loop r)/\r.state=st/\r.pending=pd/\Stp ρ ρ base s (hset s l (false,.loop st2 pd2 nt2 keep ps az bo d)) t w (w.putObj L.blk (.loop { r with state:=st2,pending:=pd2 })):=by
 have ⟨L',hL',⟨fn,tm,D,env,q1,q2,q3⟩,_⟩:=hf.get hs;rw[hL]at hL';cases hL';exact⟨_,q2,rfl,rfl,hf.put hs hL (NY _ q2) ⟨fn,tm,D,env,q1,rfl,q3⟩⟩
theorem CD{r:Option Nat}{ps:Array Tmp}{az bo:Code}{keep:List (Nat×AV)}(hr:RR ρ rnd r)(hk:rndK rnd s)(hf:Fit ρ base s t1 w)(hT:ER ρ nt env a.tmps)(hd:Ms ρ t t1 s ds0 a.defers)(hkeep:∀p∈keep,env p.1=p.2)(fn:aQ):
  ∃(L:Loc) (mark:List cx) (l d:Nat) (t2:Hq) (w':am) (ρ':Ren),(Instr.enterLoop fn a.tmps ps az bo r).run P w=.ok (L.blk,mark) w'/\s l=none/\t2 l=none/\ρ' l=some L/\Le ρ ρ'/\Below base w w'/\Fit ρ' base (hset s l (false,.loop .ready none nt keep ps.toList az bo d)) t2 w'/\Ms ρ' t t2 s ds0 (mark++a.defers):=by
 have bl:∀{ρ':Ren}{D:Loc}{d:Nat}{o:Obj},Le ρ ρ'->ρ' d=some D->o=.loop { state:=.ready,pending:=none,fn:=fn,tmps:=a.tmps,params:=ps,assign:=az,body:=bo,defers:=D.blk }->∀ ρ2,Le ρ' ρ2->BR ρ2 True ⟨0,0,0⟩ (.loop .ready none nt keep ps.toList az bo d) (some o):=fun {ρ' D d o} h1 h2 h3 ρ2 h4=>⟨fn,a.tmps,D,env,h4 _ _ h2,by rw[h3],hT.size,(by grind [Rel.mono,ER.at_]),hkeep⟩
 cases rnd with
 | none=>
   have hr:r=none:=hr;subst hr;have ⟨d,ρ1,f1,f2,f3⟩:=hf.push (b:=.deferred true) (o:=.deferred (some [])) (n:=0) λ_ _=>rfl;have ⟨g1,g2⟩:=f3.hide f1;have ⟨l,ρ2,h1,h2,h3⟩:=g2.push (b:=.loop .ready none nt keep ps.toList az bo d) (o:=.loop { state:=.ready,pending:=none,fn:=fn,tmps:=a.tmps,params:=ps,assign:=az,body:=bo,defers:=w.heap.size }) (n:=0) λρ2 hle=>bl f3.le f2 rfl ρ2 hle;have hl:hset t1 d (false,Blk.deferred true) l=none:=by
    cases q:hset t1 d (false,Blk.deferred true) l with
    |none=>rfl
    |some x=>have:=h3.nw l (by rw[q];simp) h1;grind [dT]
   refine⟨⟨w.heap.size+1,0,0⟩,_,l,d,_,_,ρ2,run_enterLoop_outer fn a.tmps ps az bo,h1,hl,by rw[h2];simp,f3.le.trans h3.le,f3.below.trans h3.below,h3.fit,?_⟩;obtain⟨ms,rfl,m1,m2,m3⟩:=hd;have td:t d=none:=by
    cases q:t d with
    |none=>rfl
    |some x=>grind [cU]
   refine⟨d::ms,?_,λi hi=>?_,nodup_cons.2 ⟨λq=>?_,m2⟩,⟨w.heap.size,0,0⟩,a.defers,h3.le _ _ f2,rfl,m3.mono (f3.le.trans h3.le)⟩
   ·funext i
    by_cases q:i=d
    ·subst q;rw[dT,cC td,oV sI]
    ·rw[cG q]
     unfold add mkH;simp only[mem_cons,q,false_or]
   ·rcases mCY hi with rfl|hi
    ·exact⟨td,f1⟩
    ·exact m1 i hi
   ·rw[cC td,oV q]at g1;cases g1
 | some l0=>
   obtain⟨L0,hL0,rfl⟩:=hr;have hk:mZ l0 s:=hk;unfold mZ at hk;split at hk
   ·rename_i e0 st pd nt2 keep2 ps2 as2 bo2 d2 hs0
    have ⟨L',hL',⟨fn2,tm2,D,env2,q1,q2,_⟩,_⟩:=hf.get hs0;rw[hL0]at hL';cases hL';have ⟨l,ρ2,h1,h2,h3⟩:=hf.push (b:=.loop .ready none nt keep ps.toList az bo d2) (o:=.loop { state:=.ready,pending:=none,fn:=fn,tmps:=a.tmps,params:=ps,assign:=az,body:=bo,defers:=D.blk }) (n:=0) λρ2 hle=>bl (.refl _) q1 rfl ρ2 hle;have hl:t1 l=none:=by
     cases q:t1 l with
     |none=>rfl
     |some x=>have:=h3.nw l (by rw[q];simp) h1;rw[dT]at this;cases this
    exact⟨⟨w.heap.size,0,0⟩,[],l,d2,t1,_,ρ2,run_enterLoop_inner q2 fn a.tmps ps az bo,h1,hl,h2,h3.le,h3.below,h3.fit,hd.mono h3.le⟩
   ·exact hk.elim
theorem CE{x:aP}{ps:Array Tmp}{az bo:Code}:iW P A nt rnd (.rangeFunc x ps az bo):=by
 intro env K s h g t t1 ρ base w a r ds0 Q hf hT hr hd hQ;unfold wpC at h;cases hok:okX x with
 |false=>grind
 |true=>
 rw[hok,aD]at h;have hv:=iU hT hok;unfold rL at h;split at h
 ·rename_i k first cap hx
  rw[hx]at hv;have ⟨h1,h2,h3⟩:=h;refine wpIn_rangeFunc λfn _=>?_;obtain⟨L,mark,l,d,t2,w1,ρ1,e1,e2,e3,e4,e5,e6,e7,e8⟩:=CD (P:=P) (ps:=ps) (az:=az) (bo:=bo) (keep:=(A (2*lV bo+1)).map λi=>(i,env i)) hr h2 hf hT hd ((by simp_all)) fn;unfold Rel at hv;obtain⟨fs,cs,he,g1,g2⟩:=hv;have hres:(resolve a.eval (rangeCall x L.blk) 0).run P w1=.ok { target:=.fn (.func k) cs,args:=fs ++ #[.func (.yield L.blk) #[] #[]] } w1:=by
   have e1:(#[aP.const (.func (.yield L.blk) #[] #[])].map a.eval:Array ai)=#[.func (.yield L.blk) #[] #[]]:=by simp[Act.eval]
   simp only[resolve,e1,he,cx.ofValue,Sem.run_pure]
  have hyl:Rel ρ1 (.yield l) (.func (.yield L.blk) #[] #[]):=by grind [Rel]
  have hargs:RelL ρ1 (first ++ [.yield l]++cap) (fs ++ #[ai.func (.yield L.blk) #[] #[]]++cs).toList:=by
   grind [RelL.mono,RelL.append,RelL.cons]
  refine⟨L.blk,mark,w1,_,w1,k,fs ++ #[ai.func (.yield L.blk) #[] #[]]++cs,w1,e1,hres,λ_ _=>trivial,?_,λh=>by simp[FR,bY.wide]at h,?_⟩
  ·simp only[invoke]
   grind [qT,Grd.nonum]
  ·have h5:fO (FR r) 0 P k (fs ++ #[ai.func (.yield L.blk) #[] #[]]++cs) w1 (kT ρ1 base _ t2 w1 _):=h3 l d e2 g ρ1 base t2 w1 _ e7 hargs
   refine h5.mono ?_;rintro en w3 ⟨v,v',s3,ρ3,rfl,_,st3,hk⟩;unfold rJ at hk;split at hk
   ·rename_i st pd nt2 keep2 ps2 as2 bo2 d2 hs3
    have ⟨hst,hk⟩:=hk;obtain⟨rc,b1,b2,b3,b4⟩:=CC (st2:=.exhausted) (pd2:=pd) st3.fit (st3.le _ _ e4) hs3;refine⟨pd,w3.putObj L.blk (.loop { rc with state:=.exhausted }),by rw[<- b3];exact run_endLoop b1 (by rw[b2];exact hst),?_⟩;have erc:{ rc with state:=dg.exhausted,pending:=pd }={ rc with state:=dg.exhausted }:=by rw[<- b3]
    rw[erc]at b4;have sg:SG ρ ρ3 base s (hdel s3 l) t t2 w (w3.putObj L.blk (.loop { rc with state:=.exhausted })):=by
     refine⟨e5.trans st3.le,(e6.trans st3.below).trans b4.below,λi b hi=>?_,b4.fit.sub λi y hi=>?_,λi hi hn=>?_⟩
     ·have hne:i≠l:=λq=>gR
      rw[dL hne];exact st3.pers i b (by grind [cG])
     ·grind [ic,dL,cG]
     ·have ht2:=e8.fr hi
      have hne:i≠l:=λq=>gR;rw[dL hne];exact st3.nw i (by rw[ht2];exact hi) (by grind [cG])
    have hm:Ms ρ3 t t2 (hdel s3 l) ds0 (mark++a.defers):=by
     obtain⟨ms,rfl,m1,m2,m3⟩:=e8;refine⟨ms,rfl,λi hi=>⟨(m1 i hi).1,?_⟩,m2,m3.mono st3.le⟩;have hti:add t (mkH ms) i≠none:=by grind [cC,oV]
     have hne:i≠l:=λq=>by subst q;exact hti e3
     rw[dL hne];exact st3.nw i hti (by grind [cG])
    have fin:=λe (k:K e env (hdel s3 l))=>hQ e env _ ρ3 { a with defers:=mark++a.defers } _ t2 k ⟨λ_ _=>rfl,λq=>nomatch q⟩ sg (hT.mono sg.le) hm;cases pd with
    |none=>exact fin .nrm hk
    | some c=>
      cases c with
      |ret=>exact wpIn_ret (fin .ret hk)
      |exit id=>exact wpIn_exit (fin (.exit id) hk)
      |_=>exact hk.elim
   ·exact hk.elim
 ·exact h.elim
theorem ie:∀(c:Code),iW P A nt rnd c
 | .skip=>λ_ _ _ h=>m7 (e:=.nrm) (λ_ _ _ _ h=>wpIn_skip h) h
 | .region _ _ _=>Cu
 | .seq a b=>seqW (ie a) (ie b)
 | .cond _ a b=>Cv (ie a) (ie b)
 | .block _ b=>Cw (ie b)
 | .loop b=>λenv K s h=>by
   have hb:=ie b;unfold wpC at h;cases hms:mA b with
   |none=>grind [Cx]
   | some st=>
     rw[hms]at h;simp only at h;cases hok:wZ nt st (assigned b)with
     |false=>grind
     | true=>
       rw[hok,aD]at h;have ⟨a,hseq⟩:=NW hms;subst hseq;exact Uu hms (ie st.rest) hok h
 | .exit id=>λ_ _ _ h=>m7 (e:=.exit id) (λ_ _ _ _ h=>wpIn_exit h) h
 | .ret=>λ_ _ _ h=>m7 (e:=.ret) (λ_ _ _ _ h=>wpIn_ret h) h
 | .rangeFunc _ _ _ _=>CE
 | .scope _=>λ_ _ _ h=>h.elim
 | .label _=>λ_ _ _ h=>h.elim
 | .goto _=>λ_ _ _ h=>h.elim
 | .refuse _=>λ_ _ _ h=>h.elim
end
section
variable {P:ay} {A:Nat→List Nat} {nt base:Nat} {rnd:Option Nat} {ρ ρ' ρ1 ρ2:Ren} {s s' s1 s2 t t1 t2:Hq} {w w' w1 w2:am} {ds0 ds:List cx} {env:Env} {a:Act}
theorem CF{vs:List AV}{vs':List ai}(h:RelL ρ vs vs'):Rel ρ (oneV vs) (if h:vs'.toArray.size=1 then vs'.toArray[0]else .tuple vs'.toArray):=by
 match vs,h with
 |[],h=>unfold RelL at h;subst h;show Rel ρ (.tup []) _;grind [Rel,RelL.nil]
 | [x],h=>
   obtain⟨y,ys,rfl,h1,h2⟩:=h;unfold RelL at h2;subst h2;exact h1
 | x::x2::xs,h=>
   have hl:=h.length;show Rel ρ (.tup (x::x2::xs)) _
   grind [Rel,RelL.nil]
theorem CG{fn:Func}{tm:Array ai}{vs':List ai}(h:(fn.results.toList.mapM λr=>(match r with
   | .tmp t=>pure (tm.getD t undef)
   | .cell a t=>do loadVar t (<- asAddr (tm.getD a undef)):Sem ai)).run P w=.ok vs' w) :
  (results fn tm).run P w=.ok (if h:vs'.toArray.size=1 then vs'.toArray[0]else .tuple vs'.toArray) w:=by
 have e:results fn tm=(do
  let vs <- fn.results.mapM λr=>(match r with
   | .tmp t=>pure (tm.getD t undef)
   | .cell a t=>do loadVar t (<- asAddr (tm.getD a undef)):Sem ai)
  pure (if h:vs.size=1 then vs[0]else .tuple vs)):=rfl
 rw[e,Array.mapM_eq_mapM_toList]
 simp_all
def setE:Env->List Tmp->List AV->Env
 |e,p::ps,v::vs=>setE (upd e p v) ps vs
 |e,_,_=>e
def gj(l:Nat)(K:Hq->Prop)(s:Hq):Prop:=match s l with
 |some (false,.loop .ready pd nt keep ps az bo d)=>K (hset s l (false,.loop .busy pd nt keep ps az bo d))
 |_=>False
def endK(l:Nat)(e:AExit)(K:AV->Hq->Prop)(s:Hq):Prop:=match s l with
 | some (false,.loop _ _ nt keep ps az bo d)=>(match e with
   | .nrm=>K true (hset s l (false,.loop .ready none nt keep ps az bo d))
   | .ret=>K false (hset s l (false,.loop .done (some .ret) nt keep ps az bo d))
   | .exit id=>K false (hset s l (false,.loop .done (some (.exit id)) nt keep ps az bo d)))
 |_=>False
theorem oW{args:List AV}{args':Array ai}(hr:RelL ρ args args'.toList)(hn:args.length<=nt):ER ρ nt (gZ args) (args'++Array.replicate (nt-args'.size) undef):=by
 have hl:args'.size=args.length:=by simpa using hr.length
 refine⟨by simp;omega,λi=>?_⟩;unfold gZ;rw[dO,Array.getD_eq_getD_getElem?]
 grind [oH,RelL.get]
theorem N3:∀(ps:List Tmp) (args:List AV) (vs:List ai) (env:Env) (tm:Array ai),ps.length=args.length->(ps.all λp=>blt p nt)=true->ER ρ nt env tm->RelL ρ args vs->ER ρ nt (setE env ps args) ((ps.zip vs).foldl (λtmps (x:Tmp×ai)=>tmps.setIfInBounds x.1 x.2) tm)
 |[],[],_,_,_,_,_,hT,_=>hT
 |[],_::_,_,_,_,h,_,_,_=>by cases h
 |_::_,[],_,_,_,h,_,_,_=>by cases h
 | p::ps,x::xs,vs,env,tm,hl,hp,hT,hr=>by
   obtain⟨y,ys,rfl,h1,h2⟩:=hr;simp only[eu,Bool.and_eq_true]at hp;exact N3 ps xs ys _ _ (by simpa using hl) hp.2 (ER.put (a:={ tmps:=tm,defers:=[] }) hT hp.1 h1) h2
theorem rR{tm:Array ai}(hf:Fit ρ base s t w)(hT:ER ρ nt env tm):∀(rs:List ResultVar) (k:List AV->Prop),resK P rs env k s->∃vs vs',(rs.mapM λr=>(match r with
   | .tmp t=>pure (tm.getD t undef)
   | .cell a t=>do loadVar t (<- asAddr (tm.getD a undef)):Sem ai)).run P w=.ok vs' w/\RelL ρ vs vs'/\k vs
 |[],k,h=>⟨[],[],sI,by unfold RelL;rfl,h⟩
 | .tmp d::rs,k,h=>by
   have ⟨vs,vs',a4,a5,a6⟩:=rR hf hT rs _ h;exact⟨env d::vs,tm.getD d undef::vs',by simp_all,.cons (hT.at_ d) a5,a6⟩
 | .cell x ty::rs,k,h=>by
   have hx:=hT.at_ x;have ⟨ad,v,v',e1,e2,e3,e4⟩:=Bq hf h hx;have ⟨vs,vs',a4,a5,a6⟩:=rR hf hT rs _ e4;refine⟨v::vs,v'::vs',?_,.cons e3 a5,a6⟩;have ea:(asAddr (tm.getD x undef)).run P w=.ok ad w:=by rw[e1];rfl
   simp_all
theorem CH{fn:Func}{tmps:Array ai}{R:Ending->am->Prop}{ds0:List cx}:∀{ms:List Nat}{ds:List cx}{w:am},Fit ρ base s (add t (mkH ms)) w->(∀i∈ms,t i=none/\s i=none)->ms.Nodup->DRel ρ ms ds ds0->
  (∀w',Fit ρ base s t w'->Below base w w'->LeavesInM bY.wide 0 P fn tmps R ds0 .returning w')->LeavesInM bY.wide 0 P fn tmps R ds .returning w
 | [],ds,w,hf,_,_,hd,hQ=>by
   subst hd;have e:add t (mkH [])=t:=by funext i;unfold add;cases t i<;>rfl
   rw[e]at hf;exact hQ w hf (.refl _ _)
 | m::ms,ds,w,hf,hm,hn,hd,hQ=>by
   obtain⟨L,ds',hL,rfl,hd⟩:=hd;have h1:add t (mkH (m::ms)) m=some (false,.deferred true):=by grind [cC,oV]
   have ⟨L',hL',hobj,_⟩:=hf.wr.at_ m false _ (cU h1);rw[hL]at hL';cases hL';have ⟨q1,q2⟩:=hf.wr.put (tg:=false) (b:=.deferred false) (cU h1) hL (NY (.deferred none) hobj) rfl;have hf2:Fit ρ base s (add t (mkH ms)) (w.putObj L.blk (.deferred none)):=by
    refine⟨q1.sub λi e hi=>?_,λi x hx=>?_⟩
    ·grind [cG,add,mkH]
    ·have hne:i≠m:=(by grind [cC,Ct])
     refine hf.fr i x ?_
     grind [add,mkH]
   exact⟨sI,.inl ⟨L.blk,_,rfl,run_takeDeferred hobj,CH hf2 (λi hi=>hm i (by simp[hi])) (nodup_cons.1 hn).2 hd λw' a b=>hQ w' a (q2.trans b)⟩⟩
theorem CI(A:Nat->List Nat){f:aQ}{fn:Func}{c:Code}(hf:P.funcs[f]?=some fn)(hb:fn.body=some c){args:List AV}(hl:ble args.length fn.ntmps=true){K:AV->Hq->Prop}{s:Hq}
  (h:wpC P A fn.ntmps none c (gZ args) (λe env s=>retK e (resK P fn.results.toList env (λvs=>K (oneV vs) s) s)) s):wC P f args K s:=λg ρ base t w args' hfit hr=>by
 refine iu hf hb trivial ?_ rfl;refine ie (A:=A) (rnd:=none) c (gZ args) _ s h g t t ρ base w _ none [] _ hfit ((by simp_all [oW])) rfl .nil λe env' s' ρ' a' w' t2 k1 _ k3 k4 k5=>?_;have body:resK P fn.results.toList env' (λvs=>K (oneV vs) s') s'->LeavesInM bY.wide 0 P fn a'.tmps (kT ρ base s t w K) a'.defers .returning w':=λhk=>by obtain⟨ms,rfl,m1,m2,m3⟩:=k5;refine CH k3.fit m1 m2 m3 λw2 f2 b2=>?_;have ⟨vs,vs',a4,a5,a6⟩:=rR f2 k4 _ _ hk;exact⟨_,CG a4,_,_,s',ρ',rfl,CF a5,⟨k3.le,k3.below.trans b2,k3.pers,f2,k3.nw⟩,a6⟩
 cases e with
 |exit id=>exact k1.elim
 |nrm=>exact body k1
 |ret=>exact body k1
theorem m8(A:Nat->List Nat){l:Nat}{args:List AV}{K:AV->Hq->Prop}{s:Hq}{e0:Bool}{st:dg}{pd:Option Code}{nt:Nat}{keep:List (Nat×AV)}{ps:List Tmp}{az bo:Code}{d:Nat}
  (hs:s l=some (e0,.loop st pd nt keep ps az bo d)) (hl:ps.length=args.length) (hnt:(ps.all λp=>blt p nt)=true)
  (h:∀f:Env,(∀p∈keep,f p.1=p.2)->wpC P A nt (some l) az (setE f ps args) (λe env s=>e=.nrm/\gj l (λs=>wpC P A nt (some l) bo env (λe _ s=>endK l e K s) s) s) s):gF P l args K s:=λg ρ base t w args' L n hf hL hr hy=>by
 have ⟨L',hL',⟨fn,tm,D,env,q1,q2,q3,q4,q5⟩,_⟩:=hf.get hs;rw[hL]at hL';cases hL';have hsz:args'.size=ps.length:=by have:=hr.length;simp at this;omega
 rw[run_yield q2 (by simpa using hsz)]at hy;cases hy;refine⟨_,_,_,_,rfl,?_⟩;refine roundIn_of_wpIn trivial ?_;have hT:ER ρ nt (setE env ps args) ((ps.toArray.zip args').foldl (λtmps (x:Tmp×ai)=>tmps.setIfInBounds x.1 x.2) tm):=by rw[<- Array.foldl_toList];simpa using N3 ps args args'.toList env tm hl hnt ⟨q3,q4⟩ hr
 refine ie (A:=A) (rnd:=some l) az _ _ s (h env q5) g t t ρ base w { tmps:=_,defers:=[] } (some L.blk) [] _ hf hT ⟨L,hL,rfl⟩ .nil λe env1 s1 ρ1 a1 w1 t1 k1 _ k3 k4 k5=>?_;obtain⟨rfl,k1⟩:=k1;unfold gj at k1;split at k1
 ·rename_i pd1 nt1 keep1 ps1 as1 bo1 d1 hs1
  obtain⟨rc,b1,b2,b3,b4⟩:=CC (st2:=.busy) (pd2:=pd1) k3.fit (k3.le _ _ hL) hs1;have erc:{ rc with state:=dg.busy,pending:=pd1 }={ rc with state:=dg.busy }:=by rw[<- b3]
  rw[erc]at b4;refine⟨_,run_beginRound b1 b2,?_⟩;refine ie (A:=A) (rnd:=some l) bo _ _ _ k1 g t t1 ρ1 base _ a1 (some L.blk) [] _ b4.fit k4 ⟨L,k3.le _ _ hL,rfl⟩ (k5.step b4) λe env2 s2 ρ2 a2 w2 t2 j1 _ j3 j4 j5=>?_;have sg:=(k3.trans (.of b4 k5)).trans j3;have fin:∀{st3 pd3 v},(∃st' pd' keep' ps' as' bo' d' nt',s2 l=some (false,.loop st' pd' nt' keep' ps' as' bo' d')/\K v (hset s2 l (false,.loop st3 pd3 nt' keep' ps' as' bo' d')))->∃rc:Loop,w2.heap[L.blk]?=some (.loop rc)/\∀v',Rel ρ2 v v'->kT ρ base s t w K (.returned v') (w2.putObj L.blk (.loop { rc with state:=st3,pending:=pd3 })):=fun {st3 pd3 v} ⟨st',pd',keep',ps',as',bo',d',nt',hs2,hk⟩=>by
   have ⟨rc,c1,c2,c3,c4⟩:=CC (st2:=st3) (pd2:=pd3) j3.fit (sg.le _ _ hL) hs2;refine⟨rc,c1,λv' hv=>⟨v,v',_,ρ2,rfl,hv,⟨sg.le,sg.below.trans c4.below,sg.pers.trans c4.pers,c4.fit.drop (λi x hx=>?_) (λi h1 h2=>?_),λi a b=>c4.nw i (by rw[j5.fr a];exact a) (sg.nw i a b)⟩,hk⟩⟩
   ·rw[j5.fr (by rw[hx];simp)];exact hx
   ·obtain⟨ms,rfl,m1,_,_⟩:=j5.step c4
    grind [cC,Ct]
  unfold endK at j1;split at j1
  ·rename_i st' pd' nt' keep' ps' as' bo' d' hs2
   cases e with
   | nrm=>
     have ⟨rc,c1,c2⟩:=fin ⟨_,_,_,_,_,_,_,_,hs2,j1⟩;exact⟨_,_,run_endRound none c1,c2 _ (by unfold Rel;rfl)⟩
   | ret=>
     have ⟨rc,c1,c2⟩:=fin ⟨_,_,_,_,_,_,_,_,hs2,j1⟩;exact⟨_,_,run_endRound (some .ret) c1,c2 _ (by unfold Rel;rfl)⟩
   | exit id=>
     have ⟨rc,c1,c2⟩:=fin ⟨_,_,_,_,_,_,_,_,hs2,j1⟩;exact⟨_,_,run_endRound (some (.exit id)) c1,c2 _ (by unfold Rel;rfl)⟩
  ·exact j1.elim
 ·exact k1.elim
theorem wC.mono{f:aQ}{args:List AV}{K K':AV->Hq->Prop}(h:wC P f args K s)(hk:∀v s',K v s'->K' v s'):wC P f args K' s:=λg ρ base t w args' hf hr=>
 (h g ρ base t w args' hf hr).mono λ_ _ ⟨v,v',s',ρ',h1,h2,h3,h4⟩=>⟨v,v',s',ρ',h1,h2,h3,hk _ _ h4⟩
theorem xe{K:AV->Hq->Prop}{r:Hq}(hsub:Sub r s)(hf:Fit ρ base s t w):Fit ρ base r (add t (rest s r)) w/\
  ∀e w',kT ρ base r (add t (rest s r)) w (λv s1=>(∀i,s i≠none->r i=none->s1 i=none)->K v (add s1 (rest s r))) e w'->kT ρ base s t w K e w':=by
 have rno:∀i,s i=none->r i=none:=λi hi=>by
  cases q:r i with
  |none=>rfl
  |some x=>rw[hsub i x q]at hi;cases hi
 have r0:∀i,r i=none->rest s r i=s i:=λi hi=>ak hi;have r1:∀i x,r i=some x->rest s r i=none:=λi x hi=>aj (by rw[hi];simp);have e1:add (add t (rest s r)) r=add t s:=by
  funext i
  cases q:t i with
  |some x=>grind [cU]
  | none=>
    rw[cC q];cases q2:r i with
    |some y=>rw[cC (by grind [cC]),q2,hsub i y q2]
    | none=>
      cases q3:s i with
      |none=>grind [cC]
      |some y=>grind [cU,cC]
 have hf2:Fit ρ base r (add t (rest s r)) w:=⟨by rw[e1];exact hf.wr,λi x hx=>by
  cases q2:r i with
  |none=>exact .inl rfl
  | some y=>
    cases q:t i with
    |none=>grind [cC]
    | some z=>
      rw[cU q]at hx;cases hx;rcases hf.fr i _ q with k|k
      ·grind
      ·rw[hsub i y q2]at k;exact .inr k⟩
 refine⟨hf2,?_⟩;rintro e w' ⟨v,v',s1,ρ',rfl,hv,st,k⟩;have out:∀i,r i=none->s i≠none->s1 i=none:=λi hi hs=>st.nw i (by
  cases q:t i with
  |some x=>rw[cU q];simp
  |none=>grind [cC]) hi
 have e2:add t (add s1 (rest s r))=add (add t (rest s r)) s1:=by
  grind [rest,add]
 refine⟨v,v',add s1 (rest s r),ρ',rfl,hv,⟨st.le,st.below,λi b hi=>?_,⟨by rw[e2];exact st.fit.wr,λi x hx=>?_⟩,λi hi hs=>?_⟩,k λi hi hr=>out i hr hi⟩
 ·cases q:r i with
  | some x=>
    have:=hsub i x q;rw[hi]at this;cases this;exact cU (st.pers i b q)
  |none=>grind [cC]
 ·have:=st.fit.fr i x (cU hx)
  cases q:s1 i with
  |some y=>grind [cU]
  | none=>
    rw[cC q];cases q2:r i with
    |some y=>exact .inl (r1 i y q2)
    |none=>rw[r0 i q2];exact hf.fr i x hx
 ·have hri:=rno i hs
  rw[cC (st.nw i (by cases q:t i with
   |none=>exact absurd q hi
   |some x=>rw[cU q];simp) hri),r0 i hri]
  exact hs
theorem wC.frame{f:aQ}{args:List AV}{K:AV->Hq->Prop}{r:Hq}(hsub:Sub r s)
  (h:wC P f args (λv s1=>(∀i,s i≠none->r i=none->s1 i=none)->K v (add s1 (rest s r))) r):wC P f args K s:=λg ρ base t w args' hf hr=>
 (h g ρ base _ w args' (xe (K:=K) hsub hf).1 hr).mono (xe hsub hf).2
theorem Uv{f:Nat}{args:List AV}{K:AV->Hq->Prop}{r:Hq}(hsub:Sub r s)
  (h:gF P f args (λv s1=>(∀i,s i≠none->r i=none->s1 i=none)->K v (add s1 (rest s r))) r):gF P f args K s:=λg ρ base t w args' L n hf hL hr hy=>by
 have ⟨fn,tm,az,bo,h1,h2⟩:=h g ρ base _ w args' L n (xe (K:=K) hsub hf).1 hL hr hy;exact⟨fn,tm,az,bo,h1,h2.mono (xe hsub hf).2⟩
theorem N4{f:Nat}{args:List AV}{K K':AV->Hq->Prop}(h:gF P f args K s)(hk:∀v s',K v s'->K' v s'):gF P f args K' s:=λg ρ base t w args' L n hf hL hr hy=>by have ⟨fn,tm,az,bo,h1,h2⟩:=h g ρ base t w args' L n hf hL hr hy;exact⟨fn,tm,az,bo,h1,h2.mono λ_ _ ⟨v,v',s',ρ',q1,q2,q3,q4⟩=>⟨v,v',s',ρ',q1,q2,q3,hk _ _ q4⟩⟩
theorem wC.part{f:aQ}{args:List AV}{K:AV->Hq->Prop}{r:Hq}(hsub:Sub r s)
  (h:wC P f args (λv s1=>∀s',Sub s1 s'->(∀i,r i=none->s i≠none->s' i=s i/\s1 i=none)->K v s') r):wC P f args K s:=
 wC.frame hsub (h.mono λv s1 hk hout=>hk _ (λi e hi=>cU hi) λi hr hi=>⟨by rw[cC (hout i hi hr)];exact ak hr,hout i hi hr⟩)
def minus(s h:Hq):Hq:=λi=>if h i=none then s i else none
theorem unlock{S h:Hq}(hs:Sub h S):add h (lock S h)=S:=by
 funext i
 cases q:h i with
 |some x=>rw[cU q];exact(hs i x q).symm
 |none=>grind [cC,gB]
theorem Uw{S h:Hq}{b:Nat}(hs:Sub h S):lock S h b=none↔S b=none:=by
 cases q:h b with
 |some x=>rw[jA q,eK (hs b x q),hs b x q];simp
 |none=>rw[gB q]
theorem N5{S h:Hq}{b:Nat}(hs:Sub h S)(hb:S b=none):h b=none:=by
 cases q:h b with
 |none=>rfl
 |some x=>rw[hs b x q]at hb;cases hb
theorem CJ{S h:Hq}{b:Nat}{x:Bool×Blk}(hb:h b=none):lock (hset S b x) h=hset (lock S h) b x:=by
 funext i
 by_cases q:i=b
 ·grind [gB,dT]
 ·rw[cG q]
  cases q2:h i with
  |some y=>grind [jA,frz,cG]
  |none=>grind [gB,cG]
theorem rU{S h:Hq}{el:ah}{cs:List AV}{K:Nat->Hq->Prop}(hs:Sub h S)(hk:newK el cs (λb S2=>Sub h S2->K b (lock S2 h)) S):newK el cs K (lock S h):=λb hb=>by
 have hb:=(Uw hs).1 hb;have:=hk b hb λi x hi=>by rw[cG λq=>by subst q;rw[N5 hs hb]at hi;cases hi];exact hs i x hi
 rw[CJ (N5 hs hb)]at this;exact this
theorem CK{f:aQ}{args:List AV}{K:AV->Hq->Prop}{h:Hq}(hs:Sub h s)
  (hc:wC P f args (λv s1=>(∀i,h i≠none->s1 i=none)->K v (lock (add s1 h) h)) (minus s h)):wC P f args K (lock s h):=by
 have hm:Sub (minus s h) (lock s h):=λi x hi=>by
  unfold minus at hi;split at hi
  ·rename_i q;rw[gB q];exact hi
  ·cases hi
 refine wC.frame hm (hc.mono λv s1 hk hout=>?_);have h1:=λi hi=>by
  cases q:h i with
  |none=>exact absurd q hi
  |some x=>exact hout i (by rw[jA q,eK (hs i x q)];simp) (aj hi)
 have e:lock (add s1 h) h=add s1 (rest (lock s h) (minus s h)):=by
  funext i
  cases q:h i with
  | some x=>
    rw[jA q,eK (by rw[cC (h1 i (by rw[q];simp))];exact q),cC (h1 i (by rw[q];simp))];unfold rest minus;rw[ak (aj (by rw[q];simp)),jA q,eK (hs i x q)]
  | none=>
    rw[gB q];cases q2:s1 i with
    |some y=>grind [cU]
    | none=>
      grind [cC,rest,minus,gB]
 grind
abbrev oneH(s:Hq)(q:Nat):Hq:=λi=>if i=q then s i else none
theorem rV{q:Nat}:Sub (oneH s q) s:=λi x hi=>by
 by_cases k:i=q
 ·simpa [oneH,k]using hi
 ·simp[oneH,k]at hi
theorem lW{q:Nat}{x:Option (Bool×Blk)}(h:s q=x):oneH s q q=x:=(ak rfl).trans h
theorem xf{q:Nat}{S:Hq}(h:S q=s q):Sub (oneH s q) S:=λi x hi=>by
 by_cases k:i=q
 ·subst k;rw[h];simpa [oneH]using hi
 ·simp[oneH,k]at hi
theorem CL{q:Nat}{S:Hq}(h:S q=s q):oneH s q=oneH S q:=by
 grind
theorem rW{f:aQ}{args:List AV}{K:AV->Hq->Prop}{q:Nat}
  (hc:wC P f args (λv s1=>(∀i,s i≠none->hdel s q i=none->s1 i=none)->K v (lock (add s1 (rest s (hdel s q))) (oneH s q))) (hdel s q)):wC P f args K (lock s (oneH s q)):=by
 have e:minus s (oneH s q)=hdel s q:=by
  funext i
  unfold minus hdel
  grind
 refine CK rV ?_;rw[e];refine hc.mono λv s1 hk hout=>?_;have e2:add s1 (rest s (hdel s q))=add s1 (oneH s q):=by
  funext i
  unfold add;cases s1 i with
  |some _=>rfl
  | none=>
    unfold rest
    by_cases k:i=q
    ·simp_all [ic]
    simp_all [dL]
 rw[<- e2];refine hk λi hi hd=>hout i ?_
 by_cases k:i=q
 ·grind
 grind [dL]
end
open Go.ChangeShapes Go.WideShapes Go.ChangeAt
def tiles(P:ay)(total:Nat):Nat->List Field->Bool
 |off,[]=>beq off total
 |off,f::fs=>beq f.offset off&&tiles P total (off+P.cellsOf f.type) fs
def plainT(P:ay):Nat->ah->Bool
 | 0,_=>false
 | d+1,t=>match P.underlying t with
   |some .bool|some (.int _)|some .string=>true
   |some (.slice e)=>blt 0 (P.cellsOf e)&&plainT P d e
   |some (.struct fs)=>tiles P (P.cellsOf t) 0 fs.toList&&fs.toList.all λf=>plainT P d f.type
   |some (.array n e)=>beq (P.cellsOf t) (n*P.cellsOf e)&&(blt 0 (P.cellsOf e)&&plainT P d e)
   |_=>false
def Inp(P:ay)(s:Hq):Nat->ah->List AV->Prop
 | 0,_,_=>False
 | d+1,t,xs=>match P.underlying t with
   |some .bool=>∃b,xs=[.bool b]
   |some (.int k)=>∃n,xs=[.int k n]/\(Lit.int k n).wf=true
   |some .string=>∃v,xs=[.str v]/\v.size<=eZ
   |some (.slice e)=>xs=[.nilslc]∨∃b len cap,xs=[.slc b 0 len (some cap) (P.cellsOf e)]/\len<=cap/\cap<=eZ/\
     (0<cap->∃el l,s b=some (true,.cells el l)/\l.length=cap*P.cellsOf e/\∀i,i<cap->Inp P s d e ((l.drop (i*P.cellsOf e)).take (P.cellsOf e)))
   |some (.struct fs)=>xs.length=P.cellsOf t/\∀f∈fs.toList,Inp P s d f.type ((xs.drop f.offset).take (P.cellsOf f.type))
   |some (.array n e)=>xs.length=P.cellsOf t/\∀i,i<n->Inp P s d e ((xs.drop (i*P.cellsOf e)).take (P.cellsOf e))
   |_=>False
abbrev IB:=List (Loc×ah×List AV)
def rhoB(B:IB):Ren:=λid=>match id with
 | 0=>some ⟨0,0,0⟩
 | i+1=>match B[i]? with
   |some x=>some x.1
   |none=>none
def iC(B:IB):Hq:=λid=>match id with
 | 0=>none
 | i+1=>match B[i]? with
   |some x=>some (true,.cells x.2.1 x.2.2)
   |none=>none
theorem rX(B C:IB):Le (rhoB B) (rhoB (B++C)):=by
 intro id L h;cases id with
 |zero=>exact h
 | succ i=>
   grind [rhoB]
theorem xg(B C:IB):Sub (iC B) (iC (B++C)):=by
 intro id L h;cases id with
 |zero=>exact h
 | succ i=>
   grind [iC]
theorem Inp.sub{P:ay}{s s':Hq}(hs:Sub s s'):∀(d:Nat) (t:ah) (xs:List AV),Inp P s d t xs->Inp P s' d t xs
 | 0,_,_,h=>h
 | d+1,t,xs,h=>by
   unfold Inp at h ⊢;split at h;exact h;exact h;exact h;rcases h with h|⟨b,len,cap,h1,h2,h3,h4⟩;exact .inl h;refine .inr ⟨b,len,cap,h1,h2,h3,λhc=>?_⟩;have ⟨el,l,q1,q2,q3⟩:=h4 hc;exact⟨el,l,hs _ _ q1,q2,λi hi=>Inp.sub hs d _ _ (q3 i hi)⟩;exact⟨h.1,λf hf=>Inp.sub hs d _ _ (h.2 f hf)⟩;exact⟨h.1,λi hi=>Inp.sub hs d _ _ (h.2 i hi)⟩;exact h
def VB(B:IB)(W:am):Prop:=∀(i:Nat) (x:Loc×ah×List AV),B[i]?=some x->∃(cc:Array ai) (fr:Nat×Nat),W.heap[x.1.blk]?=some (.cells cc x.2.1 fr)/\cc.size=x.1.sz/\x.1.sh+x.2.2.length<=cc.size/\aX x.2.2=true/\
 ∀(j:Nat) (v:AV),x.2.2[j]?=some v->∃v',cc[x.1.sh+j]?=some v'/\Rel (rhoB B) v v'/\v'.oneCell'=true
theorem VB.snoc{B:IB}{W:am}(h:VB B W)(x:Loc×ah×List AV)
  (hx:∃(cc:Array ai) (fr:Nat×Nat),W.heap[x.1.blk]?=some (.cells cc x.2.1 fr)/\cc.size=x.1.sz/\x.1.sh+x.2.2.length<=cc.size/\aX x.2.2=true/\∀(j:Nat) (v:AV),x.2.2[j]?=some v->∃v',cc[x.1.sh+j]?=some v'/\Rel (rhoB B) v v'/\v'.oneCell'=true):VB (B ++ [x]) W:=by
 intro i y hy;rw[getElem?_append]at hy;split at hy;obtain⟨cc,fr,h1,h2,h3,h4,h5⟩:=h i y hy;exact⟨cc,fr,h1,h2,h3,h4,λj v hv=>let ⟨v',q1,q2,q3⟩:=h5 j v hv;⟨v',q1,Rel.mono (rX B [x]) _ _ q2,q3⟩⟩;have:y=x:=by
  grind
 subst this;have ⟨cc,fr,h1,h2,h3,h4,h5⟩:=hx;exact⟨cc,fr,h1,h2,h3,h4,λj v hv=>let ⟨v',q1,q2,q3⟩:=h5 j v hv;⟨v',q1,Rel.mono (rX B [y]) _ _ q2,q3⟩⟩
section
variable {H:Type} {enc:ah × ai→H} {P:ay} {W:am}
theorem CM(Q:Nat->List AV->Hq->Prop)(hQ:∀i xs s s',Sub s s'->Q i xs s->Q i xs s')(css:Nat->List ai):∀(n:Nat) (B:IB),VB B W->
  (∀i,i<n->∀B,VB B W->∃xs C,VB (B++C) W/\RelL (rhoB (B++C)) xs (css i)/\aX xs=true/\Q i xs (iC (B++C)))->
  ∃(xss:Nat->List AV) (C:IB),VB (B++C) W/\∀i,i<n->RelL (rhoB (B++C)) (xss i) (css i)/\aX (xss i)=true/\Q i (xss i) (iC (B++C))
 | 0,B,hB,_=>⟨λ_=>[],[],by simpa using hB,λi hi=>oM⟩
 | n+1,B,hB,h=>by
   have ⟨xss,C,h1,h2⟩:=CM Q hQ css n B hB λi hi=>h i oM;have ⟨xs,D,g1,g2,g3,g4⟩:=h n oM (B++C) h1;refine⟨λi=>if i=n then xs else xss i,C++D,gR,λi hi=>?_⟩
   grind [RelL.mono,rX,xg]
def pieces(xss:Nat->List AV)(es n:Nat):List AV:=(List.range (n*es)).map λj=>(xss (j / es)).getD (j % es) .undef
theorem m9(xss:Nat->List AV)(es n:Nat):(pieces xss es n).length=n*es:=by simp[pieces]
theorem rY(xss:Nat->List AV)(es n j:Nat)(h:j<n*es):(pieces xss es n)[j]?=some ((xss (j / es)).getD (j % es) .undef):=by simp[pieces,h]
theorem N6(xss:Nat->List AV)(es n i:Nat)(h0:0<es)(hi:i<n)(hl:(xss i).length=es):((pieces xss es n).drop (i*es)).take es=xss i:=by
 have hm:(i+1)*es<=n*es:=cV _ hi;rw[Nat.add_mul,Nat.one_mul]at hm;apply d8;intro j;rw[iy];split;rename_i hj;rw[getElem?_drop,rY _ _ _ _ oM];have e1:(i*es+j) / es=i:=by rw[Nat.mul_comm,mul_add_div h0,div_eq_of_lt hj];omega
 have e2:(i*es+j) % es=j:=by rw[Nat.mul_comm,mul_add_mod,mod_eq_of_lt hj]
 grind
 grind
theorem N7{l:List AV}(h:∀(j:Nat) (v:AV),l[j]?=some v->v.one=true):aX l=true:=Bl λx hx=>by have ⟨i,hi⟩:=eA hx;exact h i x hi
theorem N8{P:ay}{total:Nat}:∀{fs:List Field}{off:Nat},tiles P total off fs=true->off<=total
 |[],off,h=>by have:=bE h;omega
 | f::fs,off,h=>by
   have:=N8 (Bool.and_eq_true_iff.1 h).2;omega
theorem N9(d:Nat)(cs:List ai)(total:Nat)(hl:cs.length=total):∀(fs:List Field) (off:Nat) (B:IB),VB B W->tiles P total off fs=true->
  (∀f∈fs,∀B,VB B W->∃xs C,VB (B++C) W/\RelL (rhoB (B++C)) xs ((cs.drop f.offset).take (P.cellsOf f.type))/\aX xs=true/\Inp P (iC (B++C)) d f.type xs)->
  ∃xs C,VB (B++C) W/\RelL (rhoB (B++C)) xs (cs.drop off)/\aX xs=true/\∀f∈fs,off<=f.offset/\Inp P (iC (B++C)) d f.type ((xs.drop (f.offset-off)).take (P.cellsOf f.type))
 | [],off,B,hB,ht,_=>by
   refine⟨[],[],by simpa using hB,?_,rfl,sI⟩;have:=bE ht
   grind [RelL.nil]
 | f::fs,off,B,hB,ht,h=>by
   have ⟨h1,h2⟩:=Bool.and_eq_true_iff.1 ht;have ho:=bE h1;have hle:=N8 h2;have ⟨xs,C,g1,g2,g3,g4⟩:=h f sI B hB;have ⟨ys,D,k1,k2,k3,k4⟩:=N9 d cs total hl fs (off+P.cellsOf f.type) (B++C) g1 h2 λf' hf'=>h f' (by simp[hf']);have hx:xs.length=P.cellsOf f.type:=by
    have:=g2.length
    grind
   refine⟨xs++ys,C++D,gR,?_,wN g3 k3,λf' hf'=>?_⟩;have e:cs.drop off=(cs.drop f.offset).take (P.cellsOf f.type)++cs.drop (off+P.cellsOf f.type):=by rw[ho,<- drop_drop,fD]
   grind [RelL.append,RelL.mono,rX]
   rw[<- cn];rcases mCY hf' with rfl|hf';rw[ho,Nat.sub_self,drop_zero,<- hx,take_left]
   grind [Inp.sub,xg]
   have ⟨q1,q2⟩:=k4 f' hf';refine⟨oM,?_⟩;have e:(xs++ys).drop (f'.offset-off)=ys.drop (f'.offset-(off+P.cellsOf f.type)):=by
    rw[drop_append,fc oM,nil_append,hx]
    congr 1;omega
   rw[e];exact q2
theorem xh:∀(d:Nat) (t:ah) (cs:List ai) (fuel:Nat) (x:bp H×List d7),plainT P d t=true->bp.trod enc P W 0 (λ_=>true) true fuel t cs=some x->
  ∀B,VB B W->∃xs C,VB (B++C) W/\RelL (rhoB (B++C)) xs cs/\aX xs=true/\Inp P (iC (B++C)) d t xs
 | 0,_,_,_,_,hp,_,_,_=>by cases hp
 | d+1,t,cs,fuel,x,hp,h,B,hB=>by
   unfold plainT at hp;unfold Inp;split at hp;rename_i hu;obtain⟨b,rfl,_⟩:=bp.trod_bool hu h;refine⟨[b],[],by simpa using hB,.cons (by unfold Rel;rfl) .nil,rfl,?_⟩;exact⟨b,rfl⟩;rename_i k hu;obtain⟨n,rfl,_,hw⟩:=bp.trod_int hu h;refine⟨[.int k n],[],by simpa using hB,.cons (by unfold Rel;rfl) .nil,rfl,?_⟩;exact⟨n,rfl,hw⟩;rename_i hu;obtain⟨v,rfl,_,hv⟩:=bp.trod_string hu h;refine⟨[.str v],[],by simpa using hB,.cons (by unfold Rel;rfl) .nil,rfl,?_⟩;exact⟨v,rfl,hv⟩
   ·rename_i e hu
    have ⟨hp1,hp2⟩:=Bool.and_eq_true_iff.1 hp;have hes:0<P.cellsOf e:=by rwa [bZ]at hp1
    rcases bp.trod_slice hu h with⟨rfl,_⟩|⟨a,len,cap,elems,rest,n,_,rfl,_,_,hlc,hcm,hel,hrd,hsp,_⟩;exact⟨[.nilslc],[],by simpa using hB,.cons (by unfold Rel;rfl) .nil,rfl,.inl rfl⟩
    ·have ⟨hrl,hrd2⟩:=hsp rfl
     have each:∀i,i<cap->∃y,(W.cells? 0 (a.add (i*P.cellsOf e)) (P.cellsOf e)).bind (bp.trod enc P W 0 (λ_=>true) true n e)=some y:=by
      intro i hi
      by_cases hil:i<len
      grind
      have:=hrd2 (i-len) oM
      grind
     by_cases hc:cap=0
     ·subst hc
      have hl0:len=0:=oM;subst hl0;refine⟨[.slc 0 0 0 (some 0) (P.cellsOf e)],[],by simpa using hB,.cons ?_ .nil,rfl,gR⟩;exact⟨⟨0,0,0⟩,a,0,rfl,rfl,.inr ⟨rfl,rfl⟩,Nat.le_refl _,λk hk=>by cases hk;rfl⟩
     ·have css:∀i,i<cap->∃c,W.cells? 0 (a.add (i*P.cellsOf e)) (P.cellsOf e)=some c/\∃y,bp.trod enc P W 0 (λ_=>true) true n e c=some y:=by
       intro i hi;have ⟨y,hy⟩:=each i hi;rw[Option.bind_eq_some_iff]at hy
       grind
      have ⟨xss,C,h1,h2⟩:=CM (W:=W) (λ_ xs s=>Inp P s d e xs) ((by grind [Inp.sub])) (λi=>(W.cells? 0 (a.add (i*P.cellsOf e)) (P.cellsOf e)).getD []) cap B hB λi hi B hB=>by have ⟨c,g1,y,g2⟩:=css i hi;rw[g1];exact xh d e c n y hp2 g2 B hB
      have cell:∀i j,i<cap->j<P.cellsOf e->∃v,W.cell? (a.add (i*P.cellsOf e+j))=some v/\((W.cells? 0 (a.add (i*P.cellsOf e)) (P.cellsOf e)).getD [])[j]?=some v:=by
       intro i j hi hj;have ⟨c,g1,_⟩:=css i hi;have ⟨_,g2,g3⟩:=am.cells?_some g1;have g4:=g3 j hj;rw[gE oM]at g4;refine⟨c[j]'oM,?_,by rw[g1];simp⟩;rw[<- g4]
       congr 1
       unfold Addr.add
       grind
      have ⟨v0,hv0,_⟩:=cell 0 0 oM hes;rw[Nat.zero_mul,zAY]at hv0;have hblk:∃cc el fr,W.heap[a.block]?=some (.cells cc el fr)/\a.spot=none:=by
       have e0:a.add 0=a:=by simp[Addr.add]
       unfold am.cell? at hv0;split at hv0
       simp_all
       ·cases hv0
      have ⟨cc,el,fr,hb,hspot⟩:=hblk;have ha:a=⟨a.block,a.off,none⟩:=by cases a;grind
      have at_:∀k,k<cap*P.cellsOf e->∃v,cc[a.off+k]?=some v/\((W.cells? 0 (a.add ((k / P.cellsOf e)*P.cellsOf e)) (P.cellsOf e)).getD [])[k % P.cellsOf e]?=some v:=by
       intro k hk;have hq:k / P.cellsOf e<cap:=by rw[fP hes];exact hk
       have ⟨v,g1,g2⟩:=cell (k / P.cellsOf e) (k % P.cellsOf e) hq (mod_lt _ hes);refine⟨v,?_,g2⟩;rw[Nat.mul_comm,div_add_mod,ha,jf,mK hb]at g1;exact g1
      have hlen:∀i,i<cap->(xss i).length=P.cellsOf e:=by intro i hi;have:=(h2 i hi).1.length;have ⟨c,g1,_⟩:=css i hi;rw[g1]at this;rw[<- this];exact(am.cells?_some g1).2.1
      have hsz:a.off+cap*P.cellsOf e<=cc.size:=by
       have hpos:0<cap*P.cellsOf e:=Nat.mul_pos oM hes;have ⟨v,g1,_⟩:=at_ (cap*P.cellsOf e-1) oM
       grind
      have hvb:VB ((B++C) ++ [(⟨a.block,a.off,cc.size⟩,el,pieces xss (P.cellsOf e) cap)]) W:=by
       refine h1.snoc _ ⟨cc,fr,hb,rfl,by grind [m9],?_,λj v hv=>?_⟩;refine N7 λj v hv=>?_;have hj:j<cap*P.cellsOf e:=by grind [m9]
       rw[rY _ _ _ _ hj]at hv;have hq:j / P.cellsOf e<cap:=by rw[fP hes];exact hj
       have hm:j % P.cellsOf e<(xss (j / P.cellsOf e)).length:=by rw[hlen _ hq];exact mod_lt _ hes
       grind [qG]
       ·have hj:j<cap*P.cellsOf e:=by grind [m9]
        rw[rY _ _ _ _ hj]at hv;have hq:j / P.cellsOf e<cap:=by rw[fP hes];exact hj
        have hm:j % P.cellsOf e<(xss (j / P.cellsOf e)).length:=by rw[hlen _ hq];exact mod_lt _ hes
        rw[dO,gE hm]at hv;cases hv;have ⟨r1,r2,_⟩:=h2 _ hq;have ⟨y,g1,g2⟩:=r1.get (j % P.cellsOf e) _ (gE hm);have ⟨v',k1,k2⟩:=at_ j hj;rw[g1]at k2;cases k2;exact⟨y,k1,g2,Nd g2 (qG r2 _ (getElem_mem hm))⟩
      refine⟨[.slc ((B++C).length+1) 0 len (some cap) (P.cellsOf e)],C ++ [(⟨a.block,a.off,cc.size⟩,el,pieces xss (P.cellsOf e) cap)],gR,?_,rfl,.inr ⟨_,len,cap,rfl,hlc,hcm,λ_=>⟨el,pieces xss (P.cellsOf e) cap,?_,m9 _ _ _,λi hi=>?_⟩⟩⟩
      ·rw[<- cn]
       refine .cons ?_ .nil;refine⟨⟨a.block,a.off,cc.size⟩,a,cap,?_,rfl,.inl ⟨ha,by simpa using hsz⟩,hlc,λk hk=>by cases hk;rfl⟩;unfold rhoB;simp
      unfold iC;simp;rw[N6 _ _ _ _ hes hi (hlen i hi),<- cn]
      grind [Inp.sub,xg]
   rename_i fs hu;have ⟨hp1,hp2⟩:=Bool.and_eq_true_iff.1 hp;have ⟨xs,n,_,_,hl,hxl,hx⟩:=bp.trod_struct hu h;have ⟨ys,C,g1,g2,g3,g4⟩:=N9 (W:=W) (P:=P) d cs (P.cellsOf t) hl fs.toList 0 B hB hp1 λf hf B hB=>by
    have ⟨i,hi⟩:=eA hf;have hi':fs[i]?=some f:=by simpa using hi
    have:=hx i f hi';rw[gE gR]at this;exact xh d f.type _ n _ (bU.1 hp2 f hf) this B hB
   grind [RelL.length]
   ·rename_i n e hu
    have ⟨hp1,hp2⟩:=Bool.and_eq_true_iff.1 hp;have ⟨hp2,hp3⟩:=Bool.and_eq_true_iff.1 hp2;have hes:0<P.cellsOf e:=by rwa [bZ]at hp2
    have htot:=bE hp1;have ⟨ys,m,_,_,hl,hyl,hy⟩:=bp.trod_array hu h;have ⟨xss,C,h1,h2⟩:=CM (W:=W) (λ_ xs s=>Inp P s d e xs) ((by grind [Inp.sub])) (λi=>(cs.drop (i*P.cellsOf e)).take (P.cellsOf e)) n B hB λi hi B hB=>by have:=hy i hi;rw[gE oM]at this;exact xh d e _ m _ hp3 this B hB
    have hlen:∀i,i<n->(xss i).length=P.cellsOf e:=by
     intro i hi;have:=(h2 i hi).1.length;have:(i+1)*P.cellsOf e<=n*P.cellsOf e:=cV _ hi
     grind
    refine⟨pieces xss (P.cellsOf e) n,C,h1,?_,?_,by rw[m9,htot],λi hi=>?_⟩
    ·refine RelL.of_get (by grind [m9]) λj x y hx hy'=>?_
     have hj:j<n*P.cellsOf e:=gR;rw[rY _ _ _ _ hj]at hx;have hq:j / P.cellsOf e<n:=by rw[fP hes];exact hj
     have hm:j % P.cellsOf e<(xss (j / P.cellsOf e)).length:=by rw[hlen _ hq];exact mod_lt _ hes
     rw[dO,gE hm]at hx;cases hx;have ⟨y',g1,g2⟩:=(h2 _ hq).1.get (j % P.cellsOf e) _ (gE hm);rw[iy,ak (mod_lt _ hes),getElem?_drop,Nat.mul_comm,div_add_mod,hy']at g1;cases g1;exact g2
    refine N7 λj v hv=>?_;have hj:j<n*P.cellsOf e:=by grind [m9]
    rw[rY _ _ _ _ hj]at hv;have hq:j / P.cellsOf e<n:=by rw[fP hes];exact hj
    have hm:j % P.cellsOf e<(xss (j / P.cellsOf e)).length:=by rw[hlen _ hq];exact mod_lt _ hes
    grind [qG]
    grind [N6]
   ·cases hp
end
section
variable {H:Type} {enc:ah × ai→H} {P:ay} {W:am}
def Arg(P:ay)(s:Hq)(d:Nat)(t:ah)(v:AV):Prop:=Inp P s d t v.cells/\(gY P t=some true->∃l,v=.agg l/\aX l=true)/\(gY P t≠some true->v.cells=[v])
def ArgL(P:ay)(s:Hq)(d:Nat):List ah->List AV->Prop
 |[],[]=>True
 |t::ts,v::vs=>Arg P s d t v/\ArgL P s d ts vs
 |_,_=>False
theorem Arg.sub{s s':Hq}(hs:Sub s s'){d:Nat}{t:ah}{v:AV}(h:Arg P s d t v):Arg P s' d t v:=⟨Inp.sub hs _ _ _ h.1,h.2⟩
theorem Ux{base:Nat}{t:ah}{v:ai}{d:Nat}(hp:plainT P d t=true)(h:ai.okWide P W .any base t v):(gY P t=some true/\∃cs,v=.agg cs)∨(gY P t≠some true/\v.cells=#[v]):=by
 cases d with
 |zero=>cases hp
 | succ d=>
   unfold plainT at hp;unfold ai.okWide at h;unfold gY;split at hp<;>rename_i hu
   all_goals (try rw[hu]at h)
   all_goals (try simp only at h)
   ·right
    unfold Cell.okWide Cell.ok at h;cases v<;>simp_all<;>rfl
   ·right
    unfold Cell.okWide Cell.ok at h;cases v<;>simp_all<;>rfl
   ·right
    unfold Cell.okWide Cell.ok at h;cases v<;>simp_all<;>rfl
   ·right
    unfold Cell.okWide Cell.ok at h;cases v<;>simp_all<;>rfl
   grind
   grind
   ·cases hp
theorem Oa(d:Nat)(base:Nat):∀(ts:List ah) (vs:List ai) (ds:List (bp H)) (ps:List d7) (B:IB),VB B W->(ts.all λt=>plainT P d t)=true->bp.TrodAll enc P W 0 (λ_=>true) true ts vs ds ps->
  (∀(j:Nat) t v,ts[j]?=some t->vs[j]?=some v->ai.okWide P W .any base t v)->∃xs C,VB (B++C) W/\RelL (rhoB (B++C)) xs vs/\ArgL P (iC (B++C)) d ts xs
 | [],vs,ds,ps,B,hB,_,h,_=>by
   cases vs with
   |nil=>exact⟨[],[],by simpa using hB,.nil,trivial⟩
   |cons v vs=>cases ds<;>exact h.elim
 |t::ts,[],ds,ps,B,hB,_,h,_=>by cases ds<;>exact h.elim
 |t::ts,v::vs,[],ps,B,hB,_,h,_=>h.elim
 | t::ts,v::vs,x::ds,ps,B,hB,hp,h,hv=>by
   simp only[eu,Bool.and_eq_true]at hp;obtain⟨p,q,⟨fuel,h1⟩,h2,rfl⟩:=h;have ⟨xs,C,g1,g2,g3,g4⟩:=xh d t _ fuel _ hp.1 h1 B hB;have ⟨ys,D,k1,k2,k3⟩:=Oa d base ts vs ds q (B++C) g1 hp.2 h2 λj t v hj hv'=>hv (j+1) t v (by simpa using hj) (by simpa using hv');have hsub:=xg (B++C) D;have hle:=rX (B++C) D;rcases Ux hp.1 (hv 0 t v rfl rfl)with⟨ha,cs,rfl⟩|⟨ha,hc⟩;refine⟨.agg xs::ys,C++D,gR,?_,?_⟩;rw[<- cn];exact .cons (by unfold Rel;exact⟨cs,rfl,RelL.mono hle _ _ g2⟩) k2;rw[<- cn];exact⟨⟨Inp.sub hsub _ _ _ g4,λ_=>⟨xs,rfl,g3⟩,λh=>absurd ha h⟩,k3⟩;rw[hc]at g2;obtain⟨y,rfl⟩:∃y,xs=[y]:=by
    have:=g2.length;rcases xs with _|⟨y,r⟩;simp at this
    grind
   have hr:Rel (rhoB (B++C)) y v:=by
    grind [RelL]
   have hy:y.one=true:=by simpa [aX]using g3
   refine⟨y::ys,C++D,gR,?_,?_⟩;rw[<- cn];exact .cons (Rel.mono hle _ _ hr) k2;rw[<- cn];refine⟨⟨?_,λh=>absurd h ha,λ_=>fZ hy⟩,k3⟩;rw[fZ hy];exact Inp.sub hsub _ _ _ g4
theorem VB.wr{B:IB}(h:VB B W):WR (rhoB B) W.heap.size (iC B) W:=by
 have get:∀i e b,iC B i=some (e,b)->∃x,B[i-1]?=some x/\rhoB B i=some x.1/\e=true/\b=.cells x.2.1 x.2.2:=λi e b hi=>by
  cases i with
  |zero=>cases hi
  | succ j=>
    grind [iC,rhoB]
 refine⟨λi e b hi=>?_,λi j bi e bj Li Lj hi=>?_,Nat.le_refl _,B.length+1,λi hi=>?_⟩
 ·obtain⟨x,h1,h2,rfl,rfl⟩:=get i e b hi
  obtain⟨cc,fr,q1,q2,q3,_,q5⟩:=h _ x h1;exact⟨x.1,h2,⟨cc,fr,q1,(λk=>nomatch k),q2,q3,q5⟩,λk=>nomatch k⟩
 ·grind
 ·cases i with
  |zero=>omega
  | succ j=>
    unfold rhoB
    grind
theorem law_of_wp(g:Grd P){f:aQ}{ts:List ah}(d:Nat)(hp:(ts.all λt=>plainT P d t)=true)
  (h:∀(s:Hq) (xs:List AV),ArgL P s d ts xs->wC P f xs (λv _=>v=true) s) {base:Nat}{args:Array ai}{ds:List (bp H)}{ps:List d7}
  (hA:bp.TrodAll enc P W 0 (λ_=>true) true ts args.toList ds ps) (hv:∀(j:Nat) t v,ts[j]?=some t->args[j]?=some v->ai.okWide P W .any base t v) :
  Calls P f args W λe W'=>e=.returned (.bool true)/\Below W.heap.size W W':=by
 have ⟨xs,C,h1,h2,h3⟩:=Oa (W:=W) d base ts args.toList ds ps [] (λi x hx=>by simp at hx) hp hA gR;have hfit:Fit (rhoB C) W.heap.size (iC C) (λ_=>none) W:=⟨h1.wr,λi x hx=>by cases hx⟩
 refine callsIn_wide.1 ((h (iC C) xs h3 g _ _ _ W args hfit h2).mono ?_);rintro e W' ⟨v,v',s',ρ',rfl,hr,st,rfl⟩
 grind [Rel,Stp.below]
end
section
def bH(fn:Func):Code:=match fn.body with
 |some c=>c
 |none=>.refuse ""
variable {α:Type} {K:α→Prop} {s s':Hq}
@[simp] theorem cP{a:α}:oK (some a) K=K a:=id rfl
theorem aE{o:Option α}{a:α}(h:o=some a)(hk:K a):oK o K:=by rw[h];exact hk
@[simp] theorem bD{p q:Prop}:ao true p q=p:=id rfl
@[simp] theorem aR{p q:Prop}:ao false p q=q:=id rfl
theorem aL{b:Bool}{p q:Prop}(h1:b=true->p)(h2:b=false->q):ao b p q:=by cases b;exact h2 rfl;exact h1 rfl
@[simp] theorem cy{a b:AV}:cW true a b=some a:=id rfl
@[simp] theorem ct{a b:AV}:cW false a b=some b:=id rfl
@[simp] theorem Uy{c d:Bool}:cW c d false=some (.bool (c&&d)):=by cases c<;>rfl
@[simp] theorem Uz{c d:Bool}:cW c true d=some (.bool (c||d)):=by cases c<;>rfl
@[simp] theorem bQ{b o:Nat}:eX (.ptr b o)=some (.ptr b o):=id rfl
@[simp] theorem aK{b o k:Nat}:fu k (.ptr b o)=some (.ptr b (o+k)):=id rfl
@[simp] theorem nat?_mk{k:aA}{n:Nat}:nat? (.int k (n:Int))=some n:=id rfl
@[simp] theorem lX{k:aA}:iR k k=true:=by cases k<;>rfl
@[simp] theorem bg{k:aA}{x y:Int}:cZ .add (.int k x) (.int k y)=some (.int k (k.wrap (x+y))):=by simp[cZ,arith,eQ,gz]
@[simp] theorem eC{k:aA}{x y:Int}:cZ .sub (.int k x) (.int k y)=some (.int k (k.wrap (x-y))):=by simp[cZ,arith,eQ,gz]
@[simp] theorem oX{k:aA}{x y:Int}:cZ .mul (.int k x) (.int k y)=some (.int k (k.wrap (x*y))):=by simp[cZ,arith,eQ,gz]
theorem xi{k:aA}{x y:Int}(h:y≠0):cZ .quo (.int k x) (.int k y)=some (.int k (k.wrap (x.tdiv y))):=by
 grind [cZ,arith,eQ,gz,iL,lX]
theorem na{k:aA}{x y:Int}(h:y≠0):cZ .rem (.int k x) (.int k y)=some (.int k (x.tmod y)):=by
 grind [cZ,arith,eQ,iL,lX]
@[simp] theorem bu{k:aA}{x y:Int}:cZ .lss (.int k x) (.int k y)=some (.bool (decide (x<y))):=by simp[cZ,arith,ib]
@[simp] theorem dy{k:aA}{x y:Int}:cZ .gtr (.int k x) (.int k y)=some (.bool (decide (y<x))):=by simp[cZ,arith,ib]
@[simp] theorem iX{k:aA}{x y:Int}:cZ .leq (.int k x) (.int k y)=some (.bool (decide (x<=y))):=by
 simp only[cZ,arith,ib,lX,aD]
 by_cases h:x<=y
 simp[h,Int.not_lt.2 h];simp[h,Int.not_le.1 h]
@[simp] theorem dQ{k:aA}{x y:Int}:cZ .geq (.int k x) (.int k y)=some (.bool (decide (y<=x))):=by
 simp only[cZ,arith,ib,lX,aD]
 by_cases h:y<=x
 simp[h,Int.not_lt.2 h];simp[h,Int.not_le.1 h]
@[simp] theorem cj{c:Bool}{k:aA}{x y:Int}:eqV 0 c (.int k x) (.int k y)=some (x == y):=by simp[eqV,iL]
@[simp] theorem UA{c:Bool}{x y:Bool}:eqV 1 c x y=some (x == y):=id rfl
@[simp] theorem nc{c:Bool}{b o:Nat}:eqV 3 c (.ptr b o) .nilptr=some false:=id rfl
@[simp] theorem CN{c:Bool}:eqV 3 c .nilptr .nilptr=some true:=id rfl
@[simp] theorem kY{c:Bool}{b o l es:Nat}{cp:Option Nat}:eqV 5 c (.slc b o l cp es) .nilslc=some false:=id rfl
@[simp] theorem ng{c:Bool}:eqV 5 c .nilslc .nilslc=some true:=id rfl
@[simp] theorem bJ{n b:Bool}:negB n (some b)=some (.bool (n != b)):=by cases n<;>cases b<;>rfl
@[simp] theorem cQ{b:Bool}:oG .not b=some (.bool !b):=id rfl
@[simp] theorem ge{b o l es:Nat}{cp:Option Nat}:cM (.slc b o l cp es)=some l:=id rfl
theorem au{b o:Nat}{t:Bool}{e:ah}{l:List AV}(h:s b=some (t,.cells e l)):rd1 s (.ptr b o)=l[o]?:=by simp[rd1,h]
theorem CO{b o:Nat}{e:ah}{l:List AV}{v:AV}(h:Hc s b e l)(hl:o<l.length)(hv:v.one=true):wr1 s (.ptr b o) v=some (hset s b (false,.cells e (l.set o v))):=by
 have:blt o l.length=true:=by rw[bZ];exact hl
 simp[wr1,h,hv,this]
@[simp] theorem rZ{k:aA}{n:Int}:(AV.int k n).one=true:=id rfl
@[simp] theorem xj{b:Bool}:(AV.bool b).one=true:=id rfl
@[simp] theorem UB{b o l es:Nat}{cp:Option Nat}:(AV.slc b o l cp es).one=true:=id rfl
@[simp] theorem CP{k:aA}{n:Int}:(AV.int k n).cells=[.int k n]:=id rfl
@[simp] theorem CQ{b o:Nat}:(AV.ptr b o).cells=[.ptr b o]:=id rfl
@[simp] theorem jZ{l:List AV}:(AV.agg l).cells=l:=id rfl
@[simp] theorem xk:aX []=true:=id rfl
@[simp] theorem dh{v:AV}{l:List AV}:aX (v::l)=(v.one&&aX l):=id rfl
theorem aT{n:Int}(h1:-9223372036854775808<=n:=by omega)(h2:n<=9223372036854775807:=by omega):aA.i64.wrap n=n:=by
 simp only[aA.wrap,aA.bits,aA.signed]
 grind
def aV(fp:Nat->Prop)(s s':Hq):Prop:=∀b e,s b=some e->¬fp b->s' b=some e
theorem aV.refl(fp:Nat->Prop)(s:Hq):aV fp s s:=λ_ _ h _=>h
theorem aV.trans{fp:Nat->Prop}{a b c:Hq}(h:aV fp a b)(k:aV fp b c):aV fp a c:=λi e hi hf=>k i e (h i e hi hf) hf
theorem aV.mono{fp fp':Nat->Prop}{a b:Hq}(h:aV fp a b)(hf:∀i,fp i->fp' i):aV fp' a b:=λi e hi hn=>h i e hi λk=>hn (hf i k)
theorem Sub.keep{fp:Nat->Prop}{a b:Hq}(h:Sub a b):aV fp a b:=λi e hi _=>h i e hi
theorem Sub.refl(s:Hq):Sub s s:=λ_ _ h=>h
theorem Sub.trans{a b c:Hq}(h:Sub a b)(k:Sub b c):Sub a c:=λi e hi=>k i e (h i e hi)
theorem j9{b:Nat}{e:Bool×Blk}(h:s b=none):Sub s (hset s b e):=λi x hi=>by
 unfold hset;have:i≠b:=λq=>by rw[q,h]at hi;cases hi
 rw[aj this];exact hi
@[simp] theorem fe{b:Nat}{e:Bool×Blk}:hset s b e b=some e:=ak rfl
theorem eL{b i:Nat}{e:Bool×Blk}(h:i≠b):hset s b e i=s i:=aj h
theorem dZ{b i:Nat}{e:Bool×Blk}(hb:s b=none)(hi:s i=some e):i≠b:=λq=>gR
theorem ke{s:Hq}:add s (frz s)=s:=by
 grind [add,frz]
theorem iD{s t:Hq}:Sub s (add s t):=λi e hi=>cU hi
theorem gQ{P:ay}{k:aQ}{first cap args:List AV}{K:AV->Hq->Prop}{s:Hq}(hk:isFn P k=true)(h:wC P k (first++args++cap) K s):funK P (.fn (.func k) first cap) args K s:=⟨hk,h⟩
theorem CR{b:Nat}{e:ah}{l cs:List AV}{n:Nat}{s:Hq}(h:Hc s b e l)(hl:cs.length=l.length)(hn:l.length=n)(ho:aX cs=true):dP s n (Pp b) (.agg cs)=some (hset s b (false,.cells e cs)):=by
 have e1:beq cs.length n=true:=by simp_all
 have e2:ble (0+cs.length) l.length=true:=bL oM
 grind [dB,dP,jZ,wrN]
theorem bX{b:Nat}{t:Bool}{e:ah}{l:List AV}{n:Nat}{s:Hq}(h:s b=some (t,.cells e l))(hn:l.length=n):rdN s n (Pp b)=some l:=by
 have e1:ble (0+n) l.length=true:=bL oM
 grind [rdN,ju]
theorem CS{elem:ah}{v:AV}{K:AV->Hq->Prop}{s:Hq}(hv:v.one=true)(h:∀b,s b=none->K (Pp b) (hset s b (false,.cells elem [v]))):boxK elem v K s:=by unfold boxK;rw[fZ hv];exact⟨by simp[hv],h⟩
def Upto(b:Nat)(s s':Hq):Prop:=∀i,i≠b->s' i=s i
theorem Upto.keep{fp:Nat->Prop}{b:Nat}{s s':Hq}(h:Upto b s s')(hb:fp b):aV fp s s':=λi e hi hn=>by rw[h i λq=>hn (q ▸ hb)];exact hi
theorem Upto.sub{b:Nat}{s s':Hq}(h:Upto b s s')(hb:s b=none):Sub s s':=λi e hi=>by rw[h i (dZ hb hi)];exact hi
theorem Upto.at{b i:Nat}{s s':Hq}{e:Bool×Blk}(h:Upto b s s')(hi:s i=some e)(hb:s b=none):s' i=some e:=h.sub hb i e hi
theorem aI{elem:ah}{cs:List AV}{K:Nat->Hq->Prop}{s:Hq}(h:∀b s',s b=none->Hc s' b elem cs->Upto b s s'->K b s'):newK elem cs K s:=
 λb hb=>h b _ hb fe λ_ hi=>eL hi
theorem cw{b o:Nat}{e:ah}{l:List AV}{v:AV}{K:Hq->Prop}{s:Hq}(h:Hc s b e l)(ho:o<l.length)(hv:v.one=true)(hk:∀s',Hc s' b e (l.set o v)->Upto b s s'->K s'):oK (wr1 s (.ptr b o) v) K:=
 aE (CO h ho hv) (hk _ fe λ_ hi=>eL hi)
theorem cD{b:Nat}{e:ah}{l cs:List AV}{n:Nat}{K:Hq->Prop}{s:Hq}(h:Hc s b e l)(hl:cs.length=l.length)(hn:l.length=n)(ho:aX cs=true)(hk:∀s',Hc s' b e cs->Upto b s s'->K s'):oK (dP s n (Pp b) (.agg cs)) K:=
 aE (CR h hl hn ho) (hk _ fe λ_ hi=>eL hi)
theorem fG{elem:ah}{v:AV}{K:AV->Hq->Prop}{s:Hq}(hv:v.one=true)(h:∀b s',s b=none->Hc s' b elem [v]->Upto b s s'->K (Pp b) s'):boxK elem v K s:=
 CS hv λb hb=>h b _ hb fe λ_ hi=>eL hi
end
section
def Sl(s:Hq)(v:AV)(l:List AV):Prop:=(v=.nilslc/\l=[])∨∃b o cap,v=.slc b o l.length cap 1/\(∀c,cap=some c->l.length<=c)/\
 (l≠[]->∃t e cs,s b=some (t,.cells e cs)/\o+l.length<=cs.length/\∀i,i<l.length->cs[o+i]?=l[i]?)
variable {s s':Hq} {v:AV} {l:List AV}
theorem Sl.len(h:Sl s v l):cM v=some l.length:=by
 rcases h with⟨rfl,rfl⟩|⟨b,o,cap,rfl,_⟩
 ·rfl
 ·rfl
theorem Sl.get(h:Sl s v l){i:Nat}(hi:i<l.length):∃p,cF 1 v i=some p/\rd1 s p=l[i]?:=by
 rcases h with⟨rfl,rfl⟩|⟨b,o,cap,rfl,_,h⟩
 ·simp at hi
 ·have ⟨t,e,cs,h1,h2,h3⟩:=h (by rintro rfl;simp at hi)
  refine⟨.ptr b (o+i),?_,by rw[au h1,h3 i hi]⟩;have:blt i l.length=true:=by rw[bZ];exact hi
  simp[cF,this]
theorem Sl.rd(h:Sl s v l):rdSl s 1 v=some l:=by
 rcases h with⟨rfl,rfl⟩|⟨b,o,cap,rfl,_,h⟩
 ·rfl
 ·cases l with
  |nil=>rfl
  | cons x r=>
    have ⟨t,e,cs,h1,h2,h3⟩:=h sI;have e1:beq ((x::r).length*1) 0=false:=rfl;have e2:ble (o+(x::r).length*1) cs.length=true:=bL oM;simp only[rdSl,beq_refl,aD,e1,cond_false,h1,ju,e2]
    congr 1
    apply d8
    grind
theorem Sl.sub(h:Sl s v l)(hs:Sub s s'):Sl s' v l:=by
 rcases h with h|⟨b,o,cap,h1,h2,h3⟩
 ·exact .inl h
 ·refine .inr ⟨b,o,cap,h1,h2,λhl=>?_⟩
  have ⟨t,e,cs,q1,q2⟩:=h3 hl;exact⟨t,e,cs,hs _ _ q1,q2⟩
theorem Sl.keep{fp:Nat->Prop}(h:Sl s v l)(hs:aV fp s s')(hn:∀b o n c,v=.slc b o n c 1->l≠[]->¬fp b):Sl s' v l:=by
 rcases h with h|⟨b,o,cap,h1,h2,h3⟩
 ·exact .inl h
 ·refine .inr ⟨b,o,cap,h1,h2,λhl=>?_⟩
  have ⟨t,e,cs,q1,q2⟩:=h3 hl;exact⟨t,e,cs,hs _ _ q1 (hn b o _ cap h1 hl),q2⟩
theorem Sl.mk{b:Nat}{t:Bool}{e:ah}{n:Nat}{cap:Option Nat}(h:s b=some (t,.cells e l))(hn:n=l.length)(hc:∀c,cap=some c->l.length<=c):Sl s (.slc b 0 n cap 1) l:=by subst hn;exact .inr ⟨b,0,cap,rfl,hc,λ_=>gR⟩
def Acc(elem:ah)(s0 s:Hq)(v:AV)(l:List AV):Prop:=(v=.nilslc/\l=[])∨∃b,s0 b=none/\v=.slc b 0 l.length none 1/\Hc s b elem l
theorem Acc.sl{elem:ah}{s0:Hq}(h:Acc elem s0 s v l):Sl s v l:=by
 rcases h with h|⟨b,_,rfl,h⟩
 ·exact .inl h
 ·exact Sl.mk h rfl sI
theorem Acc.app{elem:ah}{s0:Hq}{y:AV}{m:List AV}{K:AV->Hq->Prop}(h:Acc elem s0 s v l)(hy:Sl s y m)(hm:m≠[])(hl:l.length+m.length<=16777216)(hdom:∀i,s0 i≠none->s i≠none)
  (hK:∀v' s',Acc elem s0 s' v' (l++m)->(∀i e,s i=some e->(∀b,v=.slc b 0 l.length none 1->i≠b)->s' i=some e)->K v' s'):appK elem 1 v y K s:=by
 have ⟨k,hk⟩:∃k,m.length=k+1:=by cases m with|nil=>exact absurd rfl hm|cons a r=>exact⟨r.length,rfl⟩
 refine aE hy.rd (aE hy.len ?_);rcases h with⟨rfl,rfl⟩|⟨b,hb0,rfl,hb⟩
 ·simp only
  rw[hk];refine⟨by simp at hl;omega,aI λc s1 hc h1 u1=>hK _ _ (.inr ⟨c,?_,?_,by simpa using h1⟩) λi e hi _=>u1.at hi hc⟩
  ·cases q:s0 c with
   |none=>rfl
   |some x=>exact absurd hc (hdom c (by rw[q];simp))
  ·simp[hk]
 ·refine⟨rfl,?_⟩
  rw[hk];refine aE (Sl.rd (Sl.mk (l:=l) hb rfl sI)) ?_;unfold lQ;rw[hb];refine⟨rfl,oM,aI λc s1 hc h1 u1=>hK _ _ (.inr ⟨c,?_,by simp[hk],h1⟩) λi e hi hib=>?_⟩
  ·by_cases e:c=b
   ·rw[e];exact hb0
   ·have hc':s c=none:=by rw[<- hc];exact(aj e).symm
    grind
  ·have hne:=hib b rfl
   have:hdel s b i=some e:=by rw[<- hi];exact aj hne
   exact u1.at this hc
theorem se{elem:ah}{b:Nat}{y:AV}{m:List AV}{K:AV->Hq->Prop}(hy:Sl s y m)(hl:m.length<=16777216)
  (hK:∀v' s',Sub s s'->(m=[]->v'=.slc b 0 0 (some 0) 1)->(m≠[]->∃c,s c=none/\v'=.slc c 0 m.length none 1/\Hc s' c elem m)->K v' s'):appK elem 1 (.slc b 0 0 (some 0) 1) y K s:=by
 refine aE hy.rd (aE hy.len ⟨rfl,?_⟩);cases m with
 |nil=>simp_all [Sub.refl]
 | cons x r=>
   have e0:ble (0+(r.length+1)) 0=false:=by rw[zAY];rfl
   simp only[cr,e0,cond_false];refine aE (a:=[]) rfl ⟨by simp at hl;omega,aI λc s1 hc h1 u1=>hK _ _ (u1.sub hc) sI λ_=>⟨c,hc,sI,by simpa using h1⟩⟩
theorem xl{elem:ah}{z v:AV}{K:Nat->Hq->Prop}(hz:z.one=true)(hv:v.one=true)(hK:∀b s',s b=none->Hc s' b elem [v]->Upto b s s'->K b s'):
  oK (aM (repl 1 [z]) [(0,1,v)]) λc=>aX c=true/\newK elem c K s:=by
 refine aE (a:=[v]) ?_ ⟨by simp[hv],aI hK⟩;show cond (beq v.cells.length 1&&ble (0+v.cells.length) 1) (aM (dB [z] 0 v.cells) []) none=_;rw[fZ hv];rfl
theorem ig(z:AV):∀n,repl n [z]=replicate n z
 | 0=>rfl
 |n+1=>by rw[repl,ig z n];rfl
end
section
section
variable {P:ay} {s:Hq} {d:Nat} {t e:ah} {v:AV}
theorem CT(hu:P.underlying t=some (.slice e))(hc:P.cellsOf e=1){A:Type}(f:A->AV)(Q:A->Prop)(he:∀xs,Inp P s d e xs->∃a,xs=[f a]/\Q a){xs:List AV}(h:Inp P s (d+1) t xs):∃v,xs=[v]/\∃l:List A,Sl s v (l.map f)/\(∀a∈l,Q a)/\l.length<=eZ:=by
 unfold Inp at h;simp only[hu]at h;rcases h with rfl|⟨b,len,cap,rfl,h1,h2,h3⟩;exact⟨_,rfl,[],.inl ⟨rfl,rfl⟩,sI,sI⟩;refine⟨_,rfl,?_⟩;rw[hc]at h3 ⊢
 by_cases hz:cap=0
 subst hz;have:len=0:=oM;subst this;exact⟨[],.inr ⟨b,0,some 0,rfl,sI,sI⟩,sI,sI⟩;have ⟨el,l,g1,g2,g3⟩:=h3 oM;have each:∀i,i<cap->∃a,l[i]?=some (f a)/\Q a:=by intro i hi;have ⟨a,q1,q2⟩:=he _ (g3 i hi);refine⟨a,?_,q2⟩;have:=aJ (λr:List AV=>r[0]?) q1;simpa [iy,getElem?_drop]using this
 have mk:∀n,n<=cap->∃r:List A,r.length=n/\(∀i,i<n->l[i]?=(r.map f)[i]?)/\∀a∈r,Q a:=by
  intro n
  induction n with
  |zero=>simp_all
  | succ n ih=>
    intro hn;have ⟨r,r1,r2,r3⟩:=ih oM;have ⟨a,a1,a2⟩:=each n oM;refine⟨r ++ [a],by simp[r1],λi hi=>?_,λb hb=>?_⟩
    by_cases e:i=n
    simp_all
    rw[r2 i oM];grind
    grind
 have ⟨r,r1,r2,r3⟩:=mk len h1;refine⟨r,.inr ⟨b,0,some cap,by simp[r1],by simp[r1];exact h1,λ_=>⟨true,el,l,g1,by simp[r1];omega,λi hi=>?_⟩⟩,r3,oM⟩;rw[zAY];exact r2 i (by simpa [r1]using hi)
theorem CU(hu:P.underlying t=some (.slice e))(hc:P.cellsOf e=1){A:Type}(f:A->AV)(Q:A->Prop)(he:∀xs,Inp P s d e xs->∃a,xs=[f a]/\Q a)(h:Arg P s (d+1) t v):∃l:List A,Sl s v (l.map f)/\(∀a∈l,Q a)/\l.length<=eZ:=by
 have ⟨h1,_,h3⟩:=h;have:gY P t≠some true:=by grind [gY]
 rw[h3 this]at h1;have ⟨v',e1,h4⟩:=CT hu hc f Q he h1;cases e1;exact h4
theorem CV{k:aA}(hu:P.underlying t=some (.int k)){xs:List AV}(h:Inp P s (d+1) t xs):∃n,xs=[.int k n]/\(Lit.int k n).wf=true:=by
 grind [Inp]
theorem CX(hu:P.underlying t=some .bool){xs:List AV}(h:Inp P s (d+1) t xs):∃b,xs=[.bool b]/\True:=by
 grind [Inp]
end
end
section
section
variable {s s2:Hq} {v:AV} {l:List AV}
theorem Sl.addf(h:Sl s2 v l)(hs:Sub (frz s) s2):Sl (add s s2) v l:=by
 rcases h with h|⟨b,o,cap,h1,h2,h3⟩
 ·exact .inl h
 ·refine .inr ⟨b,o,cap,h1,h2,λhl=>?_⟩
  cases hb:s b with
  |none=>grind [cC]
  | some x=>
    have:=hs b _ (eK hb)
    grind [cU]
theorem Sl.frz(h:Sl s v l):Sl (frz s) v l:=by
 rcases h with h|⟨b,o,cap,h1,h2,h3⟩
 ·exact .inl h
 ·refine .inr ⟨b,o,cap,h1,h2,λhl=>?_⟩
  have ⟨t,e,cs,q1,q2⟩:=h3 hl;exact⟨true,e,cs,eK q1,q2⟩
theorem Sl.ne(h:Sl s v l){b:Nat}(hb:s b=none):∀b' o n c,v=.slc b' o n c 1->l≠[]->¬b'=b:=by
 rintro b' o n c rfl hl rfl;rcases h with⟨h,_⟩|⟨b,o,cap,h1,h2,h3⟩
 ·cases h
 grind
theorem Sl.one{v:AV}{l:List AV}(h:Sl s v l):v.one=true:=by rcases h with⟨rfl,_⟩|⟨b,o,cap,rfl,_⟩<;>rfl
end
end
section
theorem ArgL.sub{P:ay}{s s':Hq}(hs:Sub s s'){d:Nat}:∀{ts:List ah}{xs:List AV},ArgL P s d ts xs->ArgL P s' d ts xs
 |[],[],_=>trivial
 |[],_::_,h=>h.elim
 |_::_,[],h=>h.elim
 |_::_,_::_,⟨h1,h2⟩=>⟨Arg.sub hs h1,ArgL.sub hs h2⟩
end
section
variable {P:ay} {A:Nat→List Nat}
def kg:Code->List (Array Tmp×Code×Code)
 | .seq a b=>kg a++kg b
 | .cond _ a b=>kg a++kg b
 | .block _ b=>kg b
 | .loop b=>kg b
 | .rangeFunc _ ps az bo=>(ps,az,bo)::(kg az++kg bo)
 |_=>[]
def rfAs(j:Nat)(c:Code):Code:=match (kg c)[j]? with
 |some (_,az,_)=>az
 |none=>.skip
def rfBo(j:Nat)(c:Code):Code:=match (kg c)[j]? with
 |some (_,_,bo)=>bo
 |none=>.skip
def oY(l:Nat)(Kn Kr:Hq->Prop)(Ke:Nat->Hq->Prop)(s:Hq):Prop:=match s l with
 | some (false,.loop st pd _ _ _ _ _ _)=>st≠.busy/\(match pd with
   |none=>Kn (hdel s l)
   |some .ret=>Kr (hdel s l)
   |some (.exit id)=>Ke id (hdel s l)
   |some _=>False)
 |_=>False
def rngK(P:ay)(nt:Nat)(rnd:Option Nat)(f:AV)(keep:List (Nat×AV))(ps:List Tmp)(az bo:Code)(Kn Kr:Hq->Prop)(Ke:Nat->Hq->Prop)(s:Hq):Prop:=match f with
 | .fn (.func k) first cap=>isFn P k=true/\rndK rnd s/\∀l d,s l=none->wC P k (first ++ [.yield l]++cap) (λ_ s=>oY l Kn Kr Ke s) (hset s l (false,.loop .ready none nt keep ps az bo d))
 |_=>False
end
section
def SlR(es:Nat)(s:Hq)(v:AV)(rows:List (List AV)):Prop:=(∀r∈rows,r.length=es)/\((v=.nilslc/\rows=[])∨∃b o cap,v=.slc b o rows.length cap es/\(∀c,cap=some c->rows.length<=c)/\
 (rows≠[]->∃t e cs,s b=some (t,.cells e cs)/\o+rows.length*es<=cs.length/\(cs.drop o).take (rows.length*es)=rows.flatten))
theorem ki{es:Nat}:∀{rows:List (List AV)},(∀r∈rows,r.length=es)->rows.flatten.length=rows.length*es
 |[],_=>sI
 | r::rows,h=>by
   rw[flatten_cons,lAp,ki λq hq=>h q (by simp[hq]),h r sI,cr,eB,Nat.add_comm]
theorem Ob{es:Nat}:∀{rows:List (List AV)}{i:Nat}{r:List AV},(∀r∈rows,r.length=es)->rows[i]?=some r->(rows.flatten.drop (i*es)).take es=r
 |[],_,_,_,h=>by simp at h
 | q::rows,0,r,hl,h=>by
   grind
 | q::rows,i+1,r,hl,h=>by
   have hq:=hl q sI;have e1:(i+1)*es=i*es+es:=eB _ _;rw[flatten_cons,drop_append,fc oM,nil_append,hq,e1,Nat.add_sub_cancel];exact Ob (λr hr=>hl r (by simp[hr])) (by simpa using h)
variable {s s2 s':Hq} {v:AV} {rows:List (List AV)} {es:Nat}
theorem SlR.len(h:SlR es s v rows):cM v=some rows.length:=by
 rcases h.2 with⟨rfl,rfl⟩|⟨b,o,cap,rfl,_⟩
 ·rfl
 ·rfl
theorem SlR.one(h:SlR es s v rows):v.one=true:=by rcases h.2 with⟨rfl,_⟩|⟨b,o,cap,rfl,_⟩<;>rfl
theorem SlR.get(h:SlR es s v rows){i:Nat}{r:List AV}(hi:rows[i]?=some r):∃b o,cF es v i=some (.ptr b o)/\rdN s es (.ptr b o)=some r/\∀j,j<es->rd1 s (.ptr b (o+j))=r[j]?:=by
 have hlt:=(gS hi).1;have ⟨hl,h⟩:=h;rcases h with⟨rfl,rfl⟩|⟨b,o,cap,rfl,_,h⟩
 ·simp at hlt
 ·have ⟨t,e,cs,h1,h2,h3⟩:=h (by rintro rfl;simp at hlt)
  have e1:blt i rows.length=true:=by simp_all
  have e2:(i+1)*es<=rows.length*es:=cV _ hlt;rw[eB]at e2;have row:(cs.drop (o+i*es)).take es=r:=by rw[<- Ob hl hi,<- h3,drop_take,take_take,drop_drop,Nat.min_eq_left oM]
  refine⟨b,o+i*es,by simp[cF,e1],?_,λj hj=>?_⟩
  ·have e3:ble (o+i*es+es) cs.length=true:=bL oM
   grind [rdN,ju]
  grind [au]
theorem SlR.rd(h:SlR es s v rows):rdSl s es v=some rows.flatten:=by
 have ⟨hl,h⟩:=h;rcases h with⟨rfl,rfl⟩|⟨b,o,cap,rfl,_,h⟩
 ·rfl
 ·simp only[rdSl,beq_refl,aD]
  cases hz:beq (rows.length*es) 0 with
  | true=>
    have:=ki hl;rw[bE hz]at this
    grind
  | false=>
    have ⟨t,e,cs,h1,h2,h3⟩:=h (by rintro rfl;simp at hz);have e2:=bL h2
    grind [ju]
theorem SlR.sub(h:SlR es s v rows)(hs:Sub s s'):SlR es s' v rows:=by
 refine⟨h.1,?_⟩;rcases h.2 with h|⟨b,o,cap,h1,h2,h3⟩
 ·exact .inl h
 ·refine .inr ⟨b,o,cap,h1,h2,λhl=>?_⟩
  have ⟨t,e,cs,q1,q2⟩:=h3 hl;exact⟨t,e,cs,hs _ _ q1,q2⟩
theorem SlR.frz(h:SlR es s v rows):SlR es (frz s) v rows:=by
 refine⟨h.1,?_⟩;rcases h.2 with h|⟨b,o,cap,h1,h2,h3⟩
 ·exact .inl h
 ·refine .inr ⟨b,o,cap,h1,h2,λhl=>?_⟩
  have ⟨t,e,cs,q1,q2⟩:=h3 hl;exact⟨true,e,cs,eK q1,q2⟩
theorem SlR.keep{fp:Nat->Prop}(h:SlR es s v rows)(hs:aV fp s s')(hn:∀b o n c,v=.slc b o n c es->rows≠[]->¬fp b):SlR es s' v rows:=by
 refine⟨h.1,?_⟩;rcases h.2 with h|⟨b,o,cap,h1,h2,h3⟩
 ·exact .inl h
 ·refine .inr ⟨b,o,cap,h1,h2,λhl=>?_⟩
  have ⟨t,e,cs,q1,q2⟩:=h3 hl;exact⟨t,e,cs,hs _ _ q1 (hn b o _ cap h1 hl),q2⟩
theorem SlR.was(h:SlR es s v rows):∀b o n c,v=.slc b o n c es->rows≠[]->s b≠none:=by
 rintro b o n c rfl hl;rcases h.2 with⟨h,_⟩|⟨b',o',cap,h1,h2,h3⟩
 ·cases h
 grind
theorem SlR.mk{b:Nat}{t:Bool}{e:ah}{n:Nat}{cap:Option Nat}(hl:∀r∈rows,r.length=es)(h:s b=some (t,.cells e rows.flatten))(hn:n=rows.length)(hc:∀c,cap=some c->rows.length<=c):SlR es s (.slc b 0 n cap es) rows:=by subst hn;refine⟨hl,.inr ⟨b,0,cap,rfl,hc,λ_=>⟨t,e,_,h,by rw[ki hl];omega,?_⟩⟩⟩;rw[drop_zero,<- ki hl,take_of_length_le (Nat.le_refl _)]
theorem SlR.empty{b o:Nat}{c:Nat}:SlR es s (.slc b o 0 (some c) es) []:=⟨sI,.inr ⟨b,o,some c,rfl,sI,λh=>absurd rfl h⟩⟩
theorem SlR.drop(h:SlR es s v rows){k:Nat}(hk:k<=rows.length)(hne:rows≠[]):∃v',fI es v (some k) none none=some v'/\SlR es s v' (rows.drop k)/\∀b o n c,v'=.slc b o n c es->∃o n c,v=.slc b o n c es:=by
 have ⟨hl,h⟩:=h;rcases h with⟨rfl,rfl⟩|⟨b,o,cap,rfl,hc,h⟩
 ·exact absurd rfl hne
 ·have ⟨t,e,cs,h1,h2,h3⟩:=h hne
  have hrow:∀r∈rows.drop k,r.length=es:=λr hr=>hl r (mem_of_mem_drop hr);have hlen:(rows.drop k).length=rows.length-k:=length_drop;have data:rows.drop k≠[]->∃t e cs,s b=some (t,.cells e cs)/\o+k*es+(rows.drop k).length*es<=cs.length/\(cs.drop (o+k*es)).take ((rows.drop k).length*es)=(rows.drop k).flatten:=λ_=>by
   have e2:k*es+(rows.length-k)*es=rows.length*es:=by rw[<- Nat.add_mul];congr 1;omega
   refine⟨t,e,cs,h1,by rw[hlen];omega,?_⟩;have e3:rows.flatten.drop (k*es)=(rows.drop k).flatten:=by
    have:rows.flatten=(rows.take k).flatten++(rows.drop k).flatten:=by rw[<- iw,fD]
    have hk2:(rows.take k).flatten.length=k*es:=by rw[ki λr hr=>hl r (jC hr),length_take,Nat.min_eq_left hk]
    grind
   rw[<- e3,<- h3,drop_take,drop_drop,hlen]
   congr 1
   omega
  have b1:bound (some k) 0 rows.length=some k:=by simp[bound,bL hk]
  cases cap with
  | none=>
    refine⟨.slc b (o+k*es) (rows.length-k) none es,?_,⟨hrow,.inr ⟨b,o+k*es,none,by rw[hlen],sI,data⟩⟩,(by simp_all)⟩
    simp_all [fI,bound]
  | some c=>
    refine⟨.slc b (o+k*es) (rows.length-k) (some (c-k)) es,?_,⟨hrow,.inr ⟨b,o+k*es,some (c-k),by rw[hlen],λd hd=>gR,data⟩⟩,λb' o' n' c' e=>gR⟩
    simp_all [fI,bound]
theorem Oc{elem:ah}{b:Nat}{y:AV}{K:AV->Hq->Prop}(hy:SlR es s y rows)(hl:rows.length<=16777216)
  (hK:∀v' s',Sub s s'->SlR es s' v' rows->(∀b o n c,v'=.slc b o n c es->rows≠[]->s b=none)->K v' s'):appK elem es (.slc b 0 0 (some 0) es) y K s:=by
 refine aE hy.rd (aE hy.len ⟨rfl,?_⟩);cases rows with
 |nil=>simp_all [Sub.refl,SlR.empty]
 | cons x r=>
   have e0:ble (0+(r.length+1)) 0=false:=by rw[zAY];rfl
   simp only[cr,e0,cond_false];have hx:rdSl s es (.slc b 0 0 (some 0) es)=some []:=by simp[rdSl]
   refine aE hx ⟨by simp at hl;omega,aI λc s1 hc h1 u1=>hK _ _ (u1.sub hc) (SlR.mk hy.1 (by simpa using h1) sI sI) gR⟩
theorem inpR{P:ay}{d:Nat}{t e:ah}(hu:P.underlying t=some (.slice e)){A:Type}(f:A->List AV)(Q:A->Prop)(hf:∀a,(f a).length=P.cellsOf e)(he:∀xs,Inp P s d e xs->∃a,xs=f a/\Q a){xs:List AV}(h:Inp P s (d+1) t xs):∃v,xs=[v]/\∃l:List A,SlR (P.cellsOf e) s v (l.map f)/\(∀a∈l,Q a)/\l.length<=eZ:=by
 unfold Inp at h;simp only[hu]at h;have hrow:∀(l:List A),∀r∈l.map f,r.length=P.cellsOf e:=(by simp_all)
 rcases h with rfl|⟨b,len,cap,rfl,h1,h2,h3⟩
 ·exact⟨_,rfl,[],⟨hrow [],.inl ⟨rfl,rfl⟩⟩,sI,sI⟩
 ·refine⟨_,rfl,?_⟩
  by_cases hz:cap=0
  ·subst hz
   have:len=0:=oM;subst this;exact⟨[],.empty,sI,sI⟩
  ·have ⟨el,l,g1,g2,g3⟩:=h3 oM
   have mk:∀n,n<=cap->∃r:List A,r.length=n/\(r.map f).flatten=l.take (n*P.cellsOf e)/\∀a∈r,Q a:=by
    intro n
    induction n with
    |zero=>simp_all
    | succ n ih=>
      intro hn;have ⟨r,r1,r2,r3⟩:=ih oM;have ⟨a,a1,a2⟩:=he _ (g3 n oM);refine⟨r ++ [a],by simp[r1],?_,λb hb=>?_⟩
      ·rw[bM,iw,r2,map_singleton,flatten_singleton,<- a1,eB,take_add]
      grind
   have ⟨r,r1,r2,r3⟩:=mk len h1;refine⟨r,⟨hrow r,.inr ⟨b,0,some cap,by simp[r1],by simp[r1];exact h1,λ_=>⟨true,el,l,g1,?_,?_⟩⟩⟩,r3,oM⟩
   ·rw[lMY,r1,g2,zAY];exact cV _ h1
   grind
theorem argR{P:ay}{d:Nat}{t e:ah}{v:AV}(hu:P.underlying t=some (.slice e)){A:Type}(f:A->List AV)(Q:A->Prop)(hf:∀a,(f a).length=P.cellsOf e)(he:∀xs,Inp P s d e xs->∃a,xs=f a/\Q a)(h:Arg P s (d+1) t v):∃l:List A,SlR (P.cellsOf e) s v (l.map f)/\(∀a∈l,Q a)/\l.length<=eZ:=by
 have ⟨h1,_,h3⟩:=h;have:gY P t≠some true:=by grind [gY]
 rw[h3 this]at h1;have ⟨v',e1,h4⟩:=inpR hu f Q hf he h1;cases e1;exact h4
end
section
variable {s s2 s':Hq} {v:AV} {rows:List (List AV)} {es:Nat}
theorem SlR.take(h:SlR es s v rows){k:Nat}(hk:k<=rows.length)(hne:rows≠[]):∃v',fI es v none (some k) none=some v'/\SlR es s v' (rows.take k)/\∀b o n c,v'=.slc b o n c es->∃o n c,v=.slc b o n c es:=by
 have ⟨hl,h⟩:=h;rcases h with⟨rfl,rfl⟩|⟨b,o,cap,rfl,hc,h⟩;exact absurd rfl hne;have hrow:∀r∈rows.take k,r.length=es:=λr hr=>hl r (jC hr);have hlen:(rows.take k).length=k:=gR;have e2:k*es<=rows.length*es:=cV _ hk;have data:rows.take k≠[]->∃t e cs,s b=some (t,.cells e cs)/\o+(rows.take k).length*es<=cs.length/\(cs.drop o).take ((rows.take k).length*es)=(rows.take k).flatten:=λ_=>by
  have e3:rows.flatten.take (k*es)=(rows.take k).flatten:=by
   have:rows.flatten=(rows.take k).flatten++(rows.drop k).flatten:=by rw[<- iw,fD]
   have hk2:(rows.take k).flatten.length=k*es:=by rw[ki hrow,hlen]
   grind
  grind
 rcases cap with _|c;refine⟨.slc b o k none es,?_,⟨hrow,.inr ⟨b,o,none,by rw[hlen],sI,data⟩⟩,(by simp_all)⟩;simp[fI,bound,bL hk];have hc':=hc c rfl;refine⟨.slc b o k (some c) es,?_,⟨hrow,.inr ⟨b,o,some c,by rw[hlen],λd hd=>gR,data⟩⟩,(by simp_all)⟩;simp[fI,bound,bL (Nat.le_trans hk hc')]
def AccR(elem:ah)(es:Nat)(s0 s:Hq)(v:AV)(rows:List (List AV)):Prop:=(∀r∈rows,r.length=es)/\((v=.nilslc/\rows=[])∨∃b,s0 b=none/\v=.slc b 0 rows.length none es/\Hc s b elem rows.flatten)
theorem AccR.sl{elem:ah}{s0:Hq}(h:AccR elem es s0 s v rows):SlR es s v rows:=by obtain⟨hl,h⟩:=h;rcases h with h|⟨b,_,rfl,h⟩;exact⟨hl,.inl h⟩;exact SlR.mk hl h rfl sI
theorem AccR.sub{elem:ah}{s0 s s':Hq}(h:AccR elem es s0 s v rows)(hs:Sub s s'):AccR elem es s0 s' v rows:=by obtain⟨hl,h⟩:=h;rcases h with h|⟨b,h0,rfl,h⟩;exact⟨hl,.inl h⟩;exact⟨hl,.inr ⟨b,h0,rfl,hs _ _ h⟩⟩
theorem AccR.app{elem:ah}{s0:Hq}{y:AV}{m:List (List AV)}{K:AV->Hq->Prop}(h:AccR elem es s0 s v rows)(hy:SlR es s y m)(hm:m≠[])(hl:rows.length+m.length<=16777216)(hdom:Sub s0 s)
  (hK:∀v' s',AccR elem es s0 s' v' (rows++m)->Sub s0 s'->K v' s'):appK elem es v y K s:=by
 have ⟨k,hk⟩:∃k,m.length=k+1:=by cases m with|nil=>exact absurd rfl hm|cons a r=>exact⟨r.length,rfl⟩
 refine aE hy.rd (aE hy.len ?_);have ⟨hrow,h⟩:=h;have hrow2:∀r∈rows++m,r.length=es:=λr hr=>by rcases mP hr with hr|hr;exact hrow r hr;exact hy.1 r hr
 rcases h with⟨rfl,rfl⟩|⟨b,hb0,rfl,hb⟩
 ·simp only
  rw[hk];refine⟨by simp at hl;omega,aI λc s1 hc h1 u1=>hK _ _ ⟨hrow2,.inr ⟨c,?_,by simp[hk],by simpa using h1⟩⟩ (hdom.trans (u1.sub hc))⟩;cases q:s0 c with
  |none=>rfl
  |some x=>rw[hdom c x q]at hc;cases hc
 ·refine⟨rfl,?_⟩
  rw[hk];refine aE (SlR.rd (SlR.mk hrow hb rfl sI)) ?_;unfold lQ;rw[hb];have hdel0:Sub s0 (hdel s b):=λi e hi=>by have hib:=dZ hb0 hi;rw[<- hdom i e hi];exact aj hib
  refine⟨rfl,oM,aI λc s1 hc h1 u1=>hK _ _ ⟨hrow2,.inr ⟨c,?_,by simp[hk],by simpa using h1⟩⟩ (hdel0.trans (u1.sub hc))⟩;cases q:s0 c with
  |none=>rfl
  |some x=>rw[hdel0 c x q]at hc;cases hc
end
section
variable {P:ay}
def nh:Code->Option (List Oper×List Oper×Call)
 | .region _ ops false=>match lP ops.toList with
   |some p=>some (ops.toList,p.1,p.2)
   |none=>none
 |_=>none
def si(c:Call):Option aP:=match c.callee with
 | .value f=>cond (c.args.toList.isEmpty&&okX f) (some f) none
 |_=>none
end
section
variable {P:ay} {K:AV→Hq→Prop} {s:Hq}
theorem xm{t:ah}{v:AV}{name:String}{f:aQ}{args:List AV}(hm:mL P t name=some (f,none))(hf:isFn P f=true)(h:wC P f (v::args) K s):eg P (.ifc t v) name args K s:=by simp only[eg,hm];exact⟨hf,h⟩
theorem CY{t e:ah}{v:AV}{name:String}{f:aQ}{args:List AV}(hm:mL P t name=some (f,some e))(hf:isFn P f=true)(h:gP P e v (λr=>wC P f (r::args) K s) s):eg P (.ifc t v) name args K s:=by
 simp only[eg,hm];unfold gP at h ⊢;split at h
 ·have ⟨l,h1,h2⟩:=cB h;rw[h1];exact⟨hf,h2⟩
 ·have ⟨l,h1,h2⟩:=cB h;rw[h1];exact⟨hf,h2⟩
 ·exact h.elim
theorem CZ{t fty:ah}{cs:List AV}{off:Nat}{r:AV}{name:String}{f:aQ}{args:List AV}(hm:mL P t name=none)(hF:kP P t name=some (f,fty,off))(hr:gh P fty cs off=some r)(hf:isFn P f=true)(h:wC P f (r::args) K s):eg P (.ifc t (.agg cs)) name args K s:=by simp only[eg,hm,hF,hr];exact⟨hf,h⟩
theorem kj{k:aA}{n:Int}:dw k n=if k.signed&&n % (2^k.bits:Int) ≥ (2^(k.bits-1):Int)then n % (2^k.bits:Int)-(2^k.bits:Int)else n % (2^k.bits:Int):=rfl
theorem C1{S h:Hq}{es:Nat}{y:AV}(hs:Sub h S):rdSl (lock S h) es y=rdSl S es y:=by
 cases y<;>first|rfl|skip
 rename_i b o len cap es';simp only[rdSl];cases q:h b with
 |none=>rw[gB q]
 | some x=>
   have ⟨e,bl⟩:=x;rw[jA q,eK (hs b _ q),hs b _ q];cases bl<;>rfl
theorem C2{S h:Hq}{elem:ah}{es n:Nat}{cs:List AV}{K:AV->Hq->Prop}(hs:Sub h S)(hk:jX elem es n cs (λv S2=>Sub h S2->K v (lock S2 h)) S):jX elem es n cs K (lock S h):=by
 grind [jX,rU]
theorem C3{S h:Hq}{b:Nat}(hb:h b=none):lock (hdel S b) h=hdel (lock S h) b:=by
 funext i
 by_cases q:i=b
 ·grind [gB,ic]
 ·rw[dL q]
  cases q2:h i with
  |some y=>grind [jA,frz,dL]
  |none=>grind [gB,dL]
theorem Od{S h:Hq}{elem:ah}{es:Nat}{x y:AV}{K:AV->Hq->Prop}(hs:Sub h S)(hx:∀b o n c,x=.slc b o n c es->h b=none)(hk:appK elem es x y (λv S2=>Sub h S2->K v (lock S2 h)) S):appK elem es x y K (lock S h):=by
 unfold appK at hk ⊢;rw[C1 hs];have ⟨nw,h1,hk⟩:=cB hk;have ⟨n,h2,hk⟩:=cB hk;rw[h1,h2];simp only[cP];cases x with
 |nilslc=>grind [C2]
 | slc b o len cap es'=>
   have ⟨rfl,hk⟩:=hk;have hb:=hx _ _ _ _ rfl;refine⟨rfl,?_⟩;cases n with
   |zero=>exact⟨hk.1,hk.2 hs⟩
   | succ n=>
     cases cap with
     | some c=>
       simp only at hk ⊢;cases e:ble (len+(n+1)) c with
       | true=>
         rw[e,aD]at hk;have ⟨s2,h3,hk⟩:=cB hk;have e2:wrN (lock S h) (.ptr b (o+len*es)) nw=some (lock s2 h)/\Sub h s2:=by
          unfold wrN at h3 ⊢;simp only at h3 ⊢;rw[gB hb];split at h3
          ·have ⟨hc,h3⟩:=d6 h3
           rw[hc];cases h3;rw[CJ hb];exact⟨rfl,λi y hi=>by rw[cG λq=>gR];exact hs i y hi⟩
          ·cases h3
         simp_all
       | false=>
         rw[e,cond_false]at hk;rw[cond_false,C1 hs];have ⟨od,h3,hk⟩:=cB hk
         simp_all [C2]
     | none=>
       rw[C1 hs];have ⟨od,h3,hk⟩:=cB hk;rw[h3];unfold lQ at hk ⊢;rw[gB hb];cases q:S b with
       |none=>grind
       | some z=>
         have ⟨e,bl⟩:=z;rw[q]at hk;cases e<;>cases bl<;>first|exact hk.elim|skip
         refine⟨hk.1,?_⟩;rw[<- C3 hb];exact C2 (λi y hi=>by rw[dL λq=>gR];exact hs i y hi) hk.2
 |_=>exact hk.elim
theorem C4{el:ah}{cs:List AV}{K K':Nat->Hq->Prop}{s:Hq}(h:newK el cs K s)(hk:∀b s',K b s'->K' b s'):newK el cs K' s:=λb hb=>hk _ _ (h b hb)
theorem Oe{elem:ah}{es:Nat}{x y:AV}{K K':AV->Hq->Prop}{s:Hq}(h:appK elem es x y K s)(hk:∀v s',K v s'->K' v s'):appK elem es x y K' s:=by
 unfold appK at h ⊢;have ⟨nw,h1,h⟩:=cB h;have ⟨n,h2,h⟩:=cB h;rw[h1,h2];simp only[cP];have gr:∀{es n cs s},jX elem es n cs K s->jX elem es n cs K' s:=λh=>⟨h.1,C4 h.2 λ_ _=>hk _ _⟩
 cases x with
 |nilslc=>grind
 | slc b o len cap es'=>
   refine⟨h.1,?_⟩
   replace h:=h.2
   cases n with
   |zero=>grind
   | succ n=>
     cases cap with
     | some c=>
       simp only at h ⊢;cases e:ble (len+(n+1)) c with
       | true=>
         rw[e,aD]at h;have ⟨s2,h3,h⟩:=cB h
         simp_all
       | false=>
         rw[e,cond_false]at h;have ⟨od,h3,h⟩:=cB h
         simp_all
     | none=>
       grind [cB,cP,lQ]
 |_=>exact h.elim
theorem C5{n:Nat}{l:List Nat}:jt (l ++ [n])=some n:=by rw[BJ];simp
theorem C6{s:Hq}{b o:Nat}{v:AV}(h:rd1 s (.ptr b o)=some v):∃t e l,s b=some (t,.cells e l)/\l[o]?=some v:=by
 grind [rd1]
theorem jg{s:Hq}{b:Nat}:frz s b=none↔s b=none:=by
 grind [frz]
theorem gT{s:Hq}:lock s s=frz s:=by
 grind [gB,frz,jA]
end
open Go.Proofs Go.Maps Go.Sort Go.Shelf
def insI(n:Int):List Int->List Int
 |[]=>[n]
 |m::l=>cond (ltI m n) (m::insI n l) (n::m::l)
def eH:List Int->List Int
 |[]=>[]
 |n::l=>insI n (eH l)
theorem C7(n:Int):∀l,(insI n l).Perm (n::l)
 |[]=>.refl _
 | m::l=>by
   unfold insI;cases ltI m n with
   |true=>exact((C7 n l).cons m).trans (.swap n m l)
   |false=>exact .refl _
theorem ii:∀l,(eH l).Perm l
 |[]=>.refl _
 |n::l=>(C7 n (eH l)).trans ((ii l).cons n)
theorem Of(n:Int):∀l:List Int,l.Pairwise (·<=·)->(insI n l).Pairwise (·<=·)
 |[],_=>by simp[insI]
 | m::l,h=>by
   have h':=aB.1 h;unfold insI;rcases hb:ltI m n with _|_;rw[ib,decide_eq_false_iff_not]at hb;refine aB.2 ⟨λx hx=>?_,h⟩
   grind
   rw[ib,decide_eq_true_eq]at hb;refine aB.2 ⟨λx hx=>?_,Of n l h'.2⟩
   grind [C7]
theorem xn:∀l:List Int,(eH l).Pairwise (·<=·)
 |[]=>by simp[eH]
 |n::l=>Of n _ (xn l)
theorem Og{ss l:List Int}(h:ss.Perm l):ss.mergeSort (λx y=>decide (x<=y))=eH l:=by have tr:∀a b c:Int,decide (a<=b)=true->decide (b<=c)=true->decide (a<=c)=true:=gR;have to:∀a b:Int,(decide (a<=b)||decide (b<=a))=true:=λa b=>gR;refine List.Perm.eq_of_pairwise (le:=λa b:Int=>a<=b) (λa b _ _ h1 h2=>oM) ((pairwise_mergeSort tr to ss).imp λh=>by simpa using h) (xn l) (((mergeSort_perm ss _).trans h).trans (ii l).symm)
abbrev izs(l:List Int):List AV:=l.map (AV.int .i64)
section
variable {K:AV→Hq→Prop} {s:Hq} {P:ay}
structure EsOK(es:List AEnt)(c:Nat)(l:List (Int×AV)):Prop where
 kv:es.map (λe=>(e.key,e.val))=l.map λp=>(AV.int .i64 p.1,p.2)
 nd:(l.map (·.1)).Nodup
 bd:∀p∈l,-9223372036854775808<=p.1/\p.1<=9223372036854775807
 bs:(es.map (·.born)).Nodup
 lt:∀e∈es,e.born<c
theorem EsOK.nil:EsOK [] 0 []:=⟨rfl,sI,sI,sI,sI⟩
def look{V:Type}(l:List (Int×V))(k:Int):Option V:=(l.find? λp=>p.1 == k).map (·.2)
theorem EsOK.len{es:List AEnt}{c:Nat}{l:List (Int×AV)}(h:EsOK es c l):es.length=l.length:=by have:=aJ List.length h.kv;simpa using this
theorem C8{k n:Int}:jU (.int .i64) k n=some (k == n):=by show cond (iR .i64 .i64) (some (eqI k n)) none=_;rw[iL];rfl
theorem C9:∀{es:List AEnt}{l:List (Int×AV)}{k:Int}{i:Nat},es.map (λe=>(e.key,e.val))=l.map (λp=>(AV.int .i64 p.1,p.2))->
  ∃r,jd k es i=some r/\r.map (·.2)=look l k/\∀p,r=some p->∃j,p.1=i+j/\∃v,l[j]?=some (k,v):=by
 intro es
 induction es with
 | nil=>
   intro l k i h;cases l with
   |nil=>exact⟨none,rfl,rfl,λp e=>by cases e⟩
   |cons p l=>simp at h
 | cons e es ih=>
   intro l k i h;cases l with
   |nil=>simp at h
   | cons p l=>
     have ⟨pk,pv⟩:=p;simp only[cL,cI,Prod.mk.injEq]at h;have ⟨⟨h1,h2⟩,h3⟩:=h;unfold jd;rw[h1,C8]
     by_cases e1:k=pk
     ·rw[beq_iff_eq.2 e1]
      refine⟨_,rfl,?_,λp e=>?_⟩;rw[e1];simp[look,h2]
      ·cases e
       grind
     rw[beq_eq_false_iff_ne.2 e1];have ⟨r,g1,g2,g3⟩:=ih (l:=l) (k:=k) (i:=i+1) h3;refine⟨r,g1,?_,λp e=>?_⟩;rw[g2];unfold look;rw[find?_cons_of_neg (by simpa using Ne.symm e1)];have ⟨j,q1,v,q2⟩:=g3 p e;exact⟨j+1,oM,v,by simpa using q2⟩
def fK(s:Hq)(b:Nat)(l:List (Int×AV)):Prop:=∃es c,s b=some (false,.map es c)/\EsOK es c l
theorem fK.get{b:Nat}{l:List (Int×AV)}(h:fK s b l){k:Int}:getM s (.map b) k=some (look l k):=by
 have ⟨es,c,hb,ho⟩:=h;have ⟨r,g1,g2,_⟩:=C9 (k:=k) (i:=0) ho.kv
 grind [getM]
theorem fK.len{b:Nat}{l:List (Int×AV)}(h:fK s b l):lenM s (.map b)=some l.length:=by have ⟨es,c,hb,ho⟩:=h;simp[lenM,hb,ho.len]
def stor{V:Type}(l:List (Int×V))(k:Int)(v:V):List (Int×V):=match look l k with
 |some _=>l.map λp=>if p.1=k then(k,v)else p
 |none=>l ++ [(k,v)]
theorem sx{V:Type}{l:List (Int×V)}{k:Int}:look l k=none↔k ∉ l.map (·.1):=by
 unfold look;rw[Option.map_eq_none_iff,find?_eq_none]
 grind
theorem Oh{es:List AEnt}{k v:AV}:∀{i:Nat},(modE es i (λe=>{ e with key:=k,val:=v })).map (·.born)=es.map (·.born):=by
 induction es with
 |nil=>intro i;cases i<;>rfl
 | cons e es ih=>
   intro i;cases i with
   |zero=>rfl
   | succ i=>
     grind [modE]
theorem Da{k:Int}{v:AV}:∀{es:List AEnt}{l:List (Int×AV)}{j:Nat}{w:AV},es.map (λe=>(e.key,e.val))=l.map (λp=>(AV.int .i64 p.1,p.2))->(l.map (·.1)).Nodup->l[j]?=some (k,w)->
  (modE es j (λe=>{ e with key:=k,val:=v })).map (λe=>(e.key,e.val))=(l.map λp=>if p.1=k then(k,v)else p).map λp=>(AV.int .i64 p.1,p.2):=by
 intro es
 induction es with
 | nil=>
   simp_all
 | cons e es ih=>
   intro l j w h nd hj;cases l with
   |nil=>simp at h
   | cons p l=>
     have ⟨pk,pv⟩:=p;simp only[cL,cI,Prod.mk.injEq]at h;cases j with
     | zero=>
       have hj:pk=k:=by simp at hj;exact hj.1
       subst hj;have hl:(l.map λp=>if p.1=pk then(pk,v)else p)=l:=by
        refine(map_congr_left λp hp=>?_).trans (map_id l)
        grind
       show((AV.int .i64 pk,v)::es.map λe=>(e.key,e.val))=_
       grind
     | succ j=>
       grind [modE]
theorem fK.put{b:Nat}{l:List (Int×AV)}{k:Int}{v:AV}{R:Hq->Prop}(h:fK s b l)(hk:-9223372036854775808<=k/\k<=9223372036854775807)(hK:∀s',fK s' b (stor l k v)->Upto b s s'->R s'):oK (putM s (.map b) k v) R:=by
 have ⟨es,c,hb,ho⟩:=h;have ⟨r,g1,g2,g3⟩:=C9 (k:=k) (i:=0) ho.kv;unfold putM putE;simp only[hb,g1];cases r with
 | none=>
   refine hK _ ⟨_,_,fe,?_⟩ λ_ hi=>eL hi;have hl:look l k=none:=g2.symm;unfold stor;rw[hl];refine⟨?_,?_,?_,?_,?_⟩
   ·grind [EsOK.kv]
   ·rw[bM]
    exact nodup_append.2 ⟨ho.nd,sI,λa ha b hb=>by
     grind [sx]⟩
   ·intro p hp
    rw[mem_append,bN]at hp;rcases hp with hp|rfl
    ·exact ho.bd p hp
    ·exact hk
   ·rw[bM]
    exact nodup_append.2 ⟨ho.bs,sI,λa ha b hb=>by
     have hb:b=c:=by simpa using hb
     rintro rfl;obtain⟨e,he,rfl⟩:=aG.1 ha;have:=ho.lt e he;omega⟩
   ·intro e he
    rw[mem_append,bN]at he;rcases he with he|rfl
    ·have:=ho.lt e he;omega
    grind
 | some p=>
   have ⟨j,q1,w,q2⟩:=g3 p rfl;rw[zAY]at q1;refine hK _ ⟨_,_,fe,?_⟩ λ_ hi=>eL hi;have hl:look l k=some p.2:=g2.symm;unfold stor;rw[hl,q1];refine⟨Da ho.kv ho.nd q2,?_,?_,?_,?_⟩
   ·rw[map_map]
    have:((λp:Int×AV=>p.1)∘λp=>if p.1=k then(k,v)else p)=λp=>p.1:=by
     grind
    rw[this];exact ho.nd
   ·intro p hp
    obtain⟨q,hq,rfl⟩:=aG.1 hp;split
    ·exact hk
    ·exact ho.bd q hq
   ·show((modE es j _).map (·.born)).Nodup
    rw[Oh];exact ho.bs
   ·intro e he
    have:e.born∈(modE es j (λe=>{ e with key:=k,val:=v })).map (·.born):=aG.2 ⟨e,he,rfl⟩;rw[Oh]at this;have ⟨e',he',q⟩:=aG.1 this;rw[<- q];exact ho.lt e' he'
theorem sy{R:AV->Hq->Prop}(h:∀b s',s b=none->fK s' b []->Upto b s s'->R (.map b) s'):mapK R s:=λb hb=>h b _ hb ⟨_,_,fe,.nil⟩ λ_ hi=>eL hi
theorem nj{V:Type}{p:Int×V}{l:List (Int×V)}{j:Int}:look (p::l) j=if p.1=j then some p.2 else look l j:=by
 grind [look]
theorem Dc{V:Type}{k j:Int}{v:V}(hj:j≠k):∀{l:List (Int×V)},look (l.map λp=>if p.1=k then(k,v)else p) j=look l j:=by
 intro l
 induction l with
 |nil=>rfl
 | cons p l ih=>
   grind [nj]
theorem UC{V:Type}{k:Int}{v:V}:∀{l:List (Int×V)}{w:V},look l k=some w->look (l.map λp=>if p.1=k then(k,v)else p) k=some v:=by
 intro l
 induction l with
 |nil=>intro w h;cases h
 | cons p l ih=>
   grind [nj]
theorem Dd{V:Type}{l:List (Int×V)}{k j:Int}{v:V}(h:look l k=none):look (l ++ [(k,v)]) j=if j=k then some v else look l j:=by
 induction l with
 | nil=>
   grind [nj]
 | cons p l ih=>
   grind [nj]
theorem jE{V:Type}{l:List (Int×V)}{k j:Int}{v:V}:look (stor l k v) j=if j=k then some v else look l j:=by
 unfold stor;rcases h:look l k with _|w;exact Dd h;simp only
 by_cases e:j=k
 grind [UC]
 simp_all [Dc]
end
section
variable {P:ay} {ρ:Ren} {base:Nat} {s t:Hq} {w:am}
structure KeysOK(clock:Nat)(es':List bS)(l:List Int):Prop where
 keys:es'.map (·.key)=l.map encZ
 wf:∀n∈l,(Lit.int .i64 n).wf=true
 born:∀x∈es',x.born<clock
 stamps:(es'.map (·.born)).Nodup
 apart:l.Nodup
theorem De{n:Int}(h:-9223372036854775808<=n/\n<=9223372036854775807):(Lit.int .i64 n).wf=true:=by simp[Lit.wf,aA.min,aA.max,aA.bits,aA.signed];omega
theorem EsRel.map_born{es:List AEnt}{es':List bS}(h:EsRel ρ es es'):es'.map (·.born)=es.map (·.born):=by
 apply d8;intro i;rw[cq,cq];cases q:es[i]? with
 | none=>
   have:=List.getElem?_eq_none_iff.1 q;rw[getElem?_eq_none (by rw[h.len];exact this)];rfl
 | some e=>
   have hi:=(gS q).1;have ⟨e',q2⟩:∃e',es'[i]?=some e':=⟨_,gE (by rw[h.len];exact hi)⟩
   rw[q2,Option.map_some,Option.map_some,(h.at_ i e e' q q2).born]
theorem Df{es:List AEnt}{es':List bS}{c:Nat}{l:List (Int×AV)}(h:EsRel ρ es es')(ho:EsOK es c l):KeysOK c es' (l.map (·.1)):=by
 refine⟨?_,λn hn=>?_,λx hx=>?_,by rw[h.map_born];exact ho.bs,ho.nd⟩
 ·apply d8
  intro i;have hl:=ho.len;cases q:es[i]? with
  | none=>
    grind [EsRel.len]
  | some e=>
    have hi:=(gS q).1;have ⟨e',q2⟩:∃e',es'[i]?=some e':=⟨_,gE (by rw[h.len];exact hi)⟩
    have hk:=aJ (·[i]?) ho.kv;have hr:=(h.at_ i e e' q q2).key
    grind [Rel]
 ·obtain⟨p,hp,rfl⟩:=aG.1 hn
  exact De (ho.bd p hp)
 ·have:x.born∈es.map (·.born):=by rw[<- h.map_born];grind
  have ⟨e,he,q⟩:=aG.1 this;rw[<- q];exact ho.lt e he
def R1:ai->Option (bp Unit×List d7):=λ_=>some (.lit (.bool true),[])
theorem Dg{T:ah}(hT:P.underlying T=some (.int .i64)){w:am}{b clock:Nat}{es':Array bS}{l:List Int}(hb:w.heap[b]?=some (.map es' clock))(hk:KeysOK clock es'.toList l)(hsz:es'.size<=100000):
  ∃D0:bp Unit,w.ownsMap P T R1 b es'.size D0/\(intKeys D0).Perm l/\Maps.size D0<=100000:=by
 have rdk:∀x∈es'.toList,∃n,x.key=encZ n/\WideElems.rd P T R1 x=some (.int .i64 n,.lit (.bool true)):=by intro x hx;have:x.key∈es'.toList.map (·.key):=aG.2 ⟨x,hx,rfl⟩;rw[hk.keys]at this;have ⟨n,hn,he⟩:=aG.1 this;have hw:=hk.wf n hn;simp[WideElems.rd,Go.keyOf,hT,mapKey,<- he,hw,R1]
 refine⟨_,⟨es',clock,hb,⟨by unfold eZ;omega,⟨hk.born,hk.stamps,by rw[hk.keys];exact(pairwise_map.2 (hk.apart.imp λhne e=>hne (encZ_inj e)))⟩,λx hx=>?_⟩,Nat.le_refl _,rfl⟩,?_,?_⟩
 grind
 refine((sorted_perm _).map _).trans ?_;have:∀(xs:List bS) (ls:List Int),xs.map (·.key)=ls.map encZ->(∀x∈xs,∃n,x.key=encZ n/\WideElems.rd P T R1 x=some (.int .i64 n,.lit (.bool true)))->(xs.map (WideElems.rg P T R1)).map (λp=>intOf p.1)=ls:=by
  intro xs
  induction xs with
  |nil=>simp_all
  | cons x xs ih=>
    intro ls h hr;rcases ls with _|⟨n,ls⟩;simp at h;simp only[cL,cI]at h ⊢;have ⟨m,hm,hr1⟩:=hr x sI;refine⟨?_,gR⟩;rw[h.1]at hm;have:=encZ_inj hm;subst this;simp[WideElems.rg,hr1,intOf]
 rw[this es'.toList l hk.keys rdk];show(((es'.toList.map (WideElems.rg P T R1)).foldr bp.insert [])).length<=100000;rw[(sorted_perm _).length_eq];simpa using hsz
structure SortedOK(P:ay)(T:ah)(fs:aQ)(l:List (aQ×aQ×ah)):Prop where
 ty:P.underlying T=some (.int .i64)
 keys:∀p∈l,∀mb W,fO bY.wide 0 P p.1 #[.map mb] W λe w'=>e=.returned (.func (.func p.2.1) #[] #[.pointer (some ⟨W.heap.size,0,none⟩)])/\w'=W.alloc (.cells #[.map mb] p.2.2)
 sorted:∀p∈l,∀(Bm b nn:Nat) (D0:bp Unit) (w:am),Bm<w.heap.size->w.cell? ⟨Bm,0,none⟩=some (.map (some b))->w.ownsMap P T R1 b nn D0->Maps.size D0<=100000->
  fO bY.wide 0 P fs #[.func (.func p.2.1) #[] #[.pointer (some ⟨Bm,0,none⟩)]] w λe w'=>∃(v:ai) (ss:List Int),e=.returned v/\ss.Perm (intKeys D0)/\
   w'.ownsRow w.heap.size T 1 v ss.length ((ss.mergeSort (λx y=>decide (x<=y))).map encZ)/\(v=.slice none 0 0↔ss=[])/\Below w.heap.size w w'
 none:∀p∈l,∀(Bm:Nat) (w:am),Bm<w.heap.size->w.cell? ⟨Bm,0,none⟩=some (.map none)->
  fO bY.wide 0 P fs #[.func (.func p.2.1) #[] #[.pointer (some ⟨Bm,0,none⟩)]] w λe w'=>e=.returned (.slice none 0 0)/\Below w.heap.size w w'
theorem Dh{T:ah}{fs:aQ}{L:List (aQ×aQ×ah)}(hP:SortedOK P T fs L){p:aQ×aQ×ah}(hp:p∈L){m:Nat}{K:AV->Hq->Prop}(h:∀b s',s b=none->s' b=some (false,.one (.map m))->Upto b s s'->K (.fn (.func p.2.1) [] [Pp b]) s'):wC P p.1 [.map m] K s:=λg ρ base t w args' hf hr=>by
 have ⟨y,ys,g1,g2,g3⟩:=hr;subst g3;obtain⟨D,hD,rfl⟩:=g2;have e:args'=#[.map (some D.blk)]:=gR;subst e;refine(hP.keys p hp _ w).mono ?_;rintro en w' ⟨rfl,rfl⟩;have ⟨id,ρ',f1,f2,f3⟩:=hf.push (b:=.one (.map m)) (o:=.cells #[.map (some D.blk)] p.2.2) (n:=1) λρ' hl=>⟨rfl,_,_,_,rfl,by unfold Rel;exact⟨D,hl _ _ hD,rfl⟩⟩
 refine⟨_,_,_,ρ',rfl,?_,f3,h id _ f1 dT λi hi=>cG hi⟩
 grind [Rel,RelL.nil,RelL.cons]
theorem Oi{T:ah}{fs:aQ}{L:List (aQ×aQ×ah)}(hP:SortedOK P T fs L){p:aQ×aQ×ah}(hp:p∈L){m b c:Nat}{e0 e1:Bool}{es:List AEnt}{l:List (Int×AV)}{K:AV->Hq->Prop}(hb:s b=some (e0,.one (.map m)))(hm:s m=some (e1,.map es c))(ho:EsOK es c l)(hl:l.length<=1000)
  (h:∀v s',Acc T s s' v (izs (eH (l.map (·.1))))->Sub s s'->K v s'):wC P fs [.fn (.func p.2.1) [] [Pp b]] K s:=λg ρ base t w args' hf hra=>by
 have harg:∃L,ρ b=some L/\args'=#[.func (.func p.2.1) #[] #[.pointer (some ⟨L.blk,L.sh+0,none⟩)]]:=by have ⟨y,ys,g1,g2,g3⟩:=hra;subst g3;obtain⟨as',bs',rfl,g4,g5⟩:=g2;unfold RelL at g4 g5;have ⟨z,zs,g6,g7,g8⟩:=g5;subst g8;obtain⟨L,hL,rfl⟩:=g7;refine⟨L,hL,?_⟩;apply Array.toList_inj.1;rw[g1];have:as'=#[]:=gR;have h2:bs'=#[.pointer (some ⟨L.blk,L.sh+0,Option.none⟩)]:=gR;rw[this,h2]
 obtain⟨L,hL,rfl⟩:=harg;have ⟨L',hL',⟨hsh,v1,el,fr,q1,q2⟩,_⟩:=hf.get hb;rw[hL]at hL';cases hL';rw[hsh];have hcell:w.cell? ⟨L.blk,0,Option.none⟩=some v1:=by simp[am.cell?,q1]
 obtain⟨D,hD,rfl⟩:=q2;have ⟨D',hD',⟨es',q4,q5⟩,_⟩:=hf.get hm;rw[hD]at hD';cases hD';have hko:=Df q5 ho;have hsz:es'.size<=100000:=by have:=q5.len;grind [EsOK.len]
 have ⟨D0,o1,o2,o3⟩:=Dg hP.ty q4 hko hsz;refine(hP.sorted p hp L.blk D.blk _ D0 w (qF q1) hcell o1 o3).mono ?_;rintro en w' ⟨v',ss,rfl,hperm,hrow,hnil,hbel⟩;have hms:=Og (hperm.trans o2);have hlen:ss.length=(eH (l.map (·.1))).length:=by rw[<- hms];exact(length_mergeSort _).symm
 have hf2:Fit ρ base s t w':=⟨hf.wr.below hbel,hf.fr⟩
 cases hs:eH (l.map (·.1))with
 | nil=>
   rw[hs]at hlen;have:ss=[]:=iv hlen;have hv:=hnil.2 this;subst hv;exact⟨.nilslc,_,s,ρ,rfl,by unfold Rel;rfl,⟨.refl _,hbel.mono hf.wr.base,λ_ _ h=>h,hf2,λ_ _ h=>h⟩,h _ s (.inl ⟨rfl,by rw[hs];rfl⟩) (.refl s)⟩
 | cons x lx=>
   have ⟨_,hrow⟩:=hrow;rcases hrow with⟨hv,hz⟩|⟨gb,cap,cur,rfl,hbase,hgb,r1,r2,r3,r4⟩
   ·grind
   ·have hu:Upd w' gb (.cells cur T (0,0)) w':=⟨rfl,rfl,rfl,Nat.le_refl _,hgb,λ_ _=>rfl⟩
    have hcells:∀(i:Nat) v,(izs (x::lx))[i]?=some v->∃v',cur[0+i]?=some v'/\∀ ρ',Rel ρ' v v'/\v'.oneCell'=true:=by
     intro i v hv;rw[cq]at hv;obtain⟨n,hn1,rfl⟩:=Option.map_eq_some_iff.1 hv;refine⟨encZ n,?_,λρ'=>⟨by unfold Rel;rfl,rfl⟩⟩;have h9:(cur.toList.take (ss.length*1))[i]?=some (encZ n):=gR
     grind
    have ⟨id,ρ',x1,x2,x3⟩:=hf2.new (w':=w') (L:=⟨gb,0,cur.size⟩) (b:=.cells T (izs (x::lx))) (λj e bj Lj hj hLj=>ne_of_lt (Nat.lt_of_lt_of_le (hf.wr.live hj hLj) hbase)) (Nat.le_trans hf.wr.base hbase) hu
     (λρ' id hle _=>⟨cur,(0,0),rfl,λ_=>rfl,rfl,by simp;grind,λi v hv=>by have ⟨v',h10,h11⟩:=hcells i v hv;exact⟨v',h10,(h11 ρ').1,(h11 ρ').2⟩⟩)
    refine⟨.slc id 0 (lx.length+1) none 1,_,_,ρ',rfl,?_,⟨x3.le,(hbel.mono hf.wr.base).trans x3.below,x3.pers,x3.fit,x3.nw⟩,h _ _ (.inr ⟨id,x1,by rw[hs];simp,by rw[hs];exact dT⟩) (j9 x1)⟩
    grind [Rel]
structure SortOK(P:ay)(fs:aQ):Prop where
 row:∀(blk off cap:Nat) (zs:List Int) (w:am),Holds (ai.int .i64) w blk off zs.toArray->blk<w.heap.size->zs.length<4611686018427387904->
  fO bY.wide 0 P fs #[.slice (some ⟨blk,off,none⟩) zs.length cap] w λe w'=>e=.returned (.tuple #[])/\∃n os,w'=grow (putRow (ai.int .i64) (Sort.ahead w n) blk off (zs.mergeSort λx y=>decide (x<=y)).toArray) os
 none:∀(p:Option Addr) (cap:Nat) (w:am),fO bY.wide 0 P fs #[.slice p 0 cap] w λe w'=>e=.returned (.tuple #[])/\w'=w
theorem Di(w:am)(os:Array Obj):Below w.heap.size w (grow w os):=by refine⟨rfl,rfl,rfl,by simp[grow],λk hk=>?_⟩;simp[grow,Array.getElem?_append,hk]
theorem Dk{w:am}{B off:Nat}{cc:Array ai}{e:ah}{fr:Nat×Nat}{d:Array Int}(m:Nat)(h:w.heap[B]?=some (.cells cc e fr)):
  Upd w B (.cells (putCells (ai.int .i64) off d cc) e fr) (putRow (ai.int .i64) (Sort.ahead w m) B off d):=by
 refine⟨rfl,rfl,rfl,by simp_all,?_,λj hj=>?_⟩;simp[putRow,mapBlock,Sort.ahead,Array.getElem?_modify,h,onCells];simp[putRow,mapBlock,Sort.ahead,Array.getElem?_modify,Ne.symm hj]
theorem UD{fs:aQ}(hP:SortOK P fs){e:ah}{b:Nat}{cap:Option Nat}{l:List Int}{T:List AV}{K:AV->Hq->Prop}(hb:Hc s b e (izs l++T))(hl:l.length<=1000000)
  (hK:∀s',Hc s' b e (izs (eH l)++T)->Upto b s s'->K (.tup []) s'):wC P fs [.slc b 0 l.length cap 1] K s:=λg ρ base t w args' hf hra=>by
 have ⟨v1,ys,g1,hv1,g3⟩:=hra;subst g3;obtain⟨L,a,c,hL,rfl,ha,hc1,hc2⟩:=hv1;have e0:args'=#[.slice (some a) l.length c]:=gR;subst e0;have ⟨L',hL',⟨cc,fr,p1,p2,p3,p4,p5⟩,_⟩:=hf.get hb;rw[hL]at hL';cases hL';have tup0:Rel ρ (.tup []) (.tuple #[]):=by grind [Rel,RelL.nil]
 by_cases hz:l.length=0
 ·have hl0:=iv hz
  subst hl0;refine(hP.none _ c w).mono ?_;rintro en w' ⟨rfl,rfl⟩;exact⟨_,_,s,ρ,rfl,tup0,.refl hf,hK s hb λ_ _=>rfl⟩
 ·have ha:a=⟨L.blk,L.sh+0,Option.none⟩:=gR
  subst ha;have hfr:=p2 rfl;subst hfr;have hH:Holds (ai.int .i64) w L.blk (L.sh+0) l.toArray:=by
   intro j hj;have hcj:(izs l++T)[j]?=some (l[j]):=gR
   grind [Rel,Nm,mK]
  refine(hP.row L.blk (L.sh+0) c l w hH (qF p1) oM).mono ?_;rintro en w' ⟨rfl,m,os,rfl⟩;rw[Og (.refl l)];have hsl:=(ii l).length_eq;have hu:=Dk (off:=L.sh+0) (d:=(eH l).toArray) m p1;have p4:L.sh+(l.length+T.length)<=cc.size:=by simpa using p4
  have st:=hf.put (b:=.cells e (izs (eH l)++T)) hb hL hu (by
   refine⟨_,(0,0),rfl,λ_=>rfl,by simp[putCells,p3],by simp[putCells,hsl];omega,λi v hv=>?_⟩
   by_cases hi:i<l.length
   ·rw[da (by simp;omega),cq]at hv
    obtain⟨x,hx,rfl⟩:=Option.map_eq_some_iff.1 hv;refine⟨.int .i64 x,?_,by unfold Rel;rfl,rfl⟩;have hcb:L.sh+i<cc.size:=oM;simp only[putCells,Array.getElem?_mapIdx,Array.getElem?_eq_getElem hcb,Option.map_some];have:L.sh+i-(L.sh+0)=i:=oM;have hlt:i<(eH l).length:=oM;simp[gS hx |>.2,hlt]
   ·rw[getElem?_append_right (by simp;omega)]at hv
    have ⟨v',q1,q2,q3⟩:=p5 i v gR;refine⟨v',?_,q2,q3⟩;simp only[putCells,Array.getElem?_mapIdx,q1,Option.map_some];simp;omega)
  have hbg:=Di (putRow (ai.int .i64) (Sort.ahead w m) L.blk (L.sh+0) (eH l).toArray) os;exact⟨_,_,_,ρ,rfl,tup0,⟨st.le,st.below.trans (hbg.mono st.fit.wr.base),st.pers,⟨st.fit.wr.below hbg,st.fit.fr⟩,st.nw⟩,hK _ dT λi hi=>cG hi⟩
theorem UE{fs:aQ}(hP:SortOK P fs){K:AV->Hq->Prop}(hK:K (.tup []) s):wC P fs [.nilslc] K s:=λg ρ base t w args' hf hra=>by have ⟨v1,ys,g1,hv1,g3⟩:=hra;subst g3;subst hv1;have e0:args'=#[.slice none 0 0]:=gR;subst e0;refine(hP.none _ _ w).mono ?_;rintro en w' ⟨rfl,rfl⟩;exact⟨_,_,s,ρ,rfl,by grind [Rel,RelL.nil],.refl hf,hK⟩
end
section
variable (P : ay)
def kZ(k:aQ)(args:List AV)(Q:Hq->Prop)(s:Hq):Prop:=Grd P->∀(ρ:Ren) (base:Nat) (t:Hq) (w:am) (args':Array ai),Fit ρ base s t w->RelL ρ args args'.toList->
 CallsDIn bY.wide 0 P k args' .returning w λe u w'=>u=.returning/\∃v' s' ρ',e=.returned v'/\Stp ρ ρ' base s s' t w w'/\Q s'
def runK(v:AV)(Q:Hq->Prop)(s:Hq):Prop:=match v with
 | .fn (.func k) first cap=>kZ P k (first++cap) Q s
 |_=>False
def nk(v:AV):Prop:=match v with
 | .fn (.func k) _ _=>isFn P k=true
 |_=>False
end
def sD(c:Code):Code:=match pY c with
 |some (_,r)=>r
 |none=>c
def sE(c:Code)(env:Env):Env:=match pY c with
 |some (t,_)=>upd env t .nilIface
 |none=>env
def sF(c:Code)(nt:Nat):Bool:=match pY c with
 |some (t,r)=>noRF r&&blt t nt
 |none=>noRF c
def wpDR(P:ay)(A:Nat->List Nat)(nt:Nat):Code->Env->(AV->AExit->Env->Hq->Prop)->Hq->Prop
 | .seq a b,env,K,s=>match nh a with
   | some (alL,l,c)=>match si c with
     |some f=>cond (l.all λo=>okOp o.op) (opsE P nt alL l [] env (λenv s=>nk P (evD env f)/\wpC P A nt none b env (K (evD env f)) s) s) False
     |none=>False
   | none=>cond (noRF a) (wpC P A nt none a env (λe env s=>match e with
     | .nrm=>wpDR P A nt b env K s
     |_=>False) s) False
 |_,_,_,_=>False
section
variable {P:ay} {A:Nat→List Nat} {nt base:Nat} {ρ:Ren} {s t:Hq} {w:am} {env:Env} {a:Act}
theorem Ms.none_left{ρ:Ren}{t2:Hq}(h:Ms ρ t t2 s [] []):t2=t:=by
 obtain⟨ms,rfl,_,_,h4⟩:=h;cases ms with
 |nil=>funext i;unfold add;cases t i<;>rfl
 |cons m ms=>have ⟨_,_,_,h,_⟩:=h4;cases h
theorem Oj(A:Nat->List Nat){k:aQ}{fn:Func}{c:Code}(hf:P.funcs[k]?=some fn)(hb:fn.body=some c)(hr:fn.results.toList=[])(hc:sF c fn.ntmps=true){args:List AV}(hl:ble args.length fn.ntmps=true){K:AV->Hq->Prop}{s:Hq}
  (h:wpC P A fn.ntmps none (sD c) (sE c (gZ args)) (λe env s=>retK e (resK P fn.results.toList env (λvs=>K (oneV vs) s) s)) s):kZ P k args (λs=>K (.tup []) s) s:=λg ρ base t w args' hfit hrel=>by
 rw[hr]at h;have hres:fn.results=#[]:=gR;have hstart:=oW (nt:=fn.ntmps) hrel (cJ hl);refine callsDIn_of_wpSIn hf hb trivial λc₀ cs hu=>?_;have fin:∀(c':Code) (env:Env) (a0:Act),noRF c'=true->a0.defers=[]->ER ρ fn.ntmps env a0.tmps->wpC P A fn.ntmps none c' env (λe env s=>retK e (resK P [] env (λvs=>K (oneV vs) s) s)) s->c'.wpSIn bY.wide 0 P (bodyPostS P fn c₀ cs λe u w'=>u=.returning/\∃v' s' ρ',e=.returned v'/\Stp ρ ρ' base s s' t w w'/\K (.tup []) s') a0 (c₀::cs) w:=by
  intro c' env a0 hn hd0 hT0 hk;refine wpSIn_of_wpIn rfl (ie (A:=A) (rnd:=none) c' env _ s hk g t t ρ base w a0 none [] _ hfit hT0 rfl (by rw[hd0];exact .nil) λe env' s' ρ' a' w' t2 k1 k2 k3 k4 k5=>?_);have hd1:=(k2.2 hn).trans hd0;rw[hd1]at k5;have:=k5.none_left;subst this;have main:K (.tup []) s'->a'.defers=[]/\∃u',(c₀::cs)={ c₀ with mode:=u' }::cs/\∃v,(results fn a'.tmps).run P w'=.ok v w'/\(u'=.returning/\∃v' s' ρ',Ending.returned v=.returned v'/\Stp ρ ρ' base s s' t2 w w'/\K (.tup []) s'):=λhk=>
   ⟨hd1,.returning,by cases c₀;grind,.tuple #[],by simp[results,hres],rfl,_,s',ρ',rfl,⟨k3.le,k3.below,k3.pers,k3.fit,k3.nw⟩,hk⟩
  cases e with
  |nrm=>exact main k1
  |ret=>exact main k1
  |exit i=>exact k1.elim
 unfold sF at hc;unfold sD sE at h;cases hrt:pY c with
 | none=>
   grind
 | some q=>
   have ⟨t,rest⟩:=q;rw[hrt]at hc h;have ⟨hn,hlt⟩:=Bool.and_eq_true_iff.1 hc;unfold pY at hrt;split at hrt
   ·rename_i id ops rest'
    split at hrt
    ·rename_i t' ts ty pos af hops
     cases hrt;have e0:ops=#[⟨some t,.call ⟨.builtin .recover,#[],ts⟩,ty,pos,af,none⟩]:=gR;subst e0;refine wpSIn_seq (wpSIn_region ?_);simp only[size_toArray,cr,iB,zAY,show List.range 1=[0]from rfl,wpOpsSIn,iA,g0Y];refine⟨jz,?_⟩;have rec_exec:∀a:Act,(cX a.eval ⟨some t,.call ⟨.builtin .recover,#[],ts⟩,ty,pos,af,none⟩).run P w=.ok .recover w:=λa=>by rfl
     have rd:recoverD (c₀::cs)=none:=by simp[recoverD,hu]
     simp only[rd];exact fin _ _ _ hn (ga _ _ _) (hstart.put hlt (by unfold Rel;rfl)) h
    ·cases hrt
   ·cases hrt
theorem Ok:∀{l l':List Oper}{c:Call},lP l=some (l',c)->∃o,l=l' ++ [o]/\o.dst=none/\o.op=.defer c/\o.guard=none
 |[],_,_,h=>by cases h
 | [o],l',c,h=>by
   unfold lP at h;simp only at h;split at h
   ·cases h;simp_all
   ·cases h
 | o::o2::os,l',c,h=>by
   unfold lP at h;cases hr:lP (o2::os)with
   |none=>grind
   | some p=>
     simp only[hr]at h;have ⟨o',h1,h2⟩:=Ok hr
     grind
theorem Ol(g:Grd P){id:Nat}{ops:Array Oper}{l:List Oper}{c:Call}{f:aP}{K:Env->Hq->Prop}{Q:Exit->Act->am->Prop}(h1:lP ops.toList=some (l,c))(h2:si c=some f)(hok:(l.all λo=>okOp o.op)=true)
  (h:opsE P nt ops.toList l [] env (λenv s=>nk P (evD env f)/\K env s) s) (hf:Fit ρ base s t w) (hT:ER ρ nt env a.tmps) (hd:a.defers=[])
  (hQ:∀env' s' ρ' a' w' k first cap fs cs,evD env' f=.fn (.func k) first cap->isFn P k=true->K env' s'->Stp ρ ρ' base s s' t w w'->ER ρ' nt env' a'.tmps->RelL ρ' (first++cap) (fs++cs:Array ai).toList->a'.defers=[{ target:=.fn (.func k) cs,args:=fs }]->Q .normal a' w'):(Code.region id ops false).wpIn (FR none) 0 P Q a w:=by
 have ⟨o1,ho1,hdst,hop,hgd⟩:=Ok h1;refine wpIn_region ?_;have hsz:ops.size=l.length+1:=by have:=aJ List.length ho1;simpa using this
 have hrange:List.range ops.size=range' 0 l.length ++ [l.length]:=by rw[hsz,range_succ,jD]
 rw[hrange];have hget:∀j,j<l.length->l[j]?=ops[0+j]?:=λj hj=>by rw[zAY,<- Array.getElem?_toList,ho1,da hj]
 have hlast:ops[l.length]?=some o1:=by rw[<- Array.getElem?_toList,ho1];simp
 refine wV (r:=none) (Q:=Q) g [l.length] l 0 [] env s ρ w a hget hok .nil h hf hT λenv' s' ρ' a' w' k1 _ k4 k5 k6=>?_;simp only[wpOpsIn,hlast];rw[ak (by unfold Region.wanted;rw[hgd])];refine⟨jz,?_⟩;have ⟨k1,k2⟩:=k1;unfold nk at k1;split at k1
 ·rename_i k first cap hv
  have ⟨callee,as',ts⟩:=c;unfold si at h2;split at h2
  ·rename_i f' hcal
   have ⟨hz,h2⟩:=d6 h2;cases h2;have ⟨z1,z2⟩:=Bool.and_eq_true_iff.1 hz;subst hcal;have z1:as'=#[]:=gR;subst z1;have r2:=iU k5 z2;rw[hv]at r2;have ⟨fs,cs,he,g1,g2⟩:=r2;have e1:((o1.semAt (FR none).round a'.eval).run P w')=.ok (.defer { target:=.fn (.func k) cs,args:=fs }) w':=by show((o1.semAt none a'.eval).run P w')=_;rw[Oper.semAt_none];simp only[cX,hop,resolve,he,cx.ofValue,Sem.run_bind,Sem.run_pure,aU.andThen_ok,Array.map_empty,Array.append_empty]
   rw[e1,Oper.uponIn_defer];refine hQ env' s' ρ' _ w' k first cap fs cs hv k1 k2 k4 (by rw[hdst];exact k5) (by simpa using g1.append g2) ?_
   grind [ga]
  ·cases h2
 ·exact k1.elim
theorem sG(g:Grd P){Q:Exit->Act->am->Prop}:∀(c:Code) (env:Env) (K:AV->AExit->Env->Hq->Prop) (s:Hq) (ρ0 ρ:Ren) (w0 w:am) (s0:Hq) (a:Act),wpDR P A nt c env K s->Stp ρ0 ρ base s0 s t w0 w->ER ρ nt env a.tmps->a.defers=[]->
  (∀k first cap fs cs e env' s' ρ' a' w' t2,isFn P k=true->K (.fn (.func k) first cap) e env' s'->SG ρ0 ρ' base s0 s' t t2 w0 w'->ER ρ' nt env' a'.tmps->RelL ρ' (first++cap) (fs++cs:Array ai).toList->Ms ρ' t t2 s' [{ target:=.fn (.func k) cs,args:=fs }] a'.defers->Q (kW e) a' w')->c.wpIn (FR none) 0 P Q a w
 | .seq x y,env,K,s,ρ0,ρ,w0,w,s0,a,h,st,hT,hd,hQ=>by
   unfold wpDR at h;refine fC ?_;cases hdt:nh x with
   | some p=>
     have ⟨alL,l,c⟩:=p;rw[hdt]at h;simp only at h;cases hf:si c with
     |none=>grind
     |some f=>
     rw[hf]at h;simp only at h;cases hok:(l.all λo=>okOp o.op)with
     |false=>grind
     |true=>
     rw[hok,aD]at h;unfold nh at hdt;split at hdt
     ·rename_i id ops
      split at hdt
      ·rename_i q hq
       obtain⟨rfl,rfl,rfl⟩:=hdt;refine Ol g hq hf hok h st.fit hT hd λenv' s' ρ' a' w' k first cap fs cs hv hk k1 k4 k5 k6 k7=>?_
       rw[hv]at k1;refine ie (A:=A) (rnd:=none) y env' _ s' k1 g t t ρ' base w' a' none _ Q k4.fit k5 rfl (by rw[k7];exact .nil) λe env2 s2 ρ2 a2 w2 t2 j1 _ j3 j4 j5=>?_;have s3:=st.trans k4;exact hQ k first cap fs cs e env2 s2 ρ2 a2 w2 t2 hk j1 ⟨s3.le.trans j3.le,s3.below.trans j3.below,s3.pers.trans j3.pers,j3.fit,λi p q=>j3.nw i p (s3.nw i p q)⟩ j4 (RelL.mono j3.le _ _ k6) j5
      ·cases hdt
     ·cases hdt
   | none=>
     rw[hdt]at h;cases hn:noRF x with
     |false=>grind
     |true=>
     rw[hn,aD]at h;refine ie (A:=A) (rnd:=none) x env _ s h g t t ρ base w a none [] _ st.fit hT rfl (by rw[hd];exact .nil) λe env2 s2 ρ2 a2 w2 t2 j1 j2 j3 j4 j5=>?_;have hd2:=(j2.2 hn).trans hd;rw[hd2]at j5;rw[j5.none_left]at j3;cases e with
     |nrm=>exact sG g y env2 K s2 ρ0 ρ2 w0 w2 s0 a2 j1 (st.trans ⟨j3.le,j3.below,j3.pers,j3.fit,j3.nw⟩) j4 hd2 hQ
     |ret=>exact j1.elim
     |exit id=>exact j1.elim
 | .skip,_,_,_,_,_,_,_,_,_,h,_,_,_,_=>h.elim
 | .region _ _ _,_,_,_,_,_,_,_,_,_,h,_,_,_,_=>h.elim
 | .cond _ _ _,_,_,_,_,_,_,_,_,_,h,_,_,_,_=>h.elim
 | .block _ _,_,_,_,_,_,_,_,_,_,h,_,_,_,_=>h.elim
 | .loop _,_,_,_,_,_,_,_,_,_,h,_,_,_,_=>h.elim
 | .exit _,_,_,_,_,_,_,_,_,_,h,_,_,_,_=>h.elim
 | .ret,_,_,_,_,_,_,_,_,_,h,_,_,_,_=>h.elim
 | .rangeFunc _ _ _ _,_,_,_,_,_,_,_,_,_,h,_,_,_,_=>h.elim
 | .scope _,_,_,_,_,_,_,_,_,_,h,_,_,_,_=>h.elim
 | .label _,_,_,_,_,_,_,_,_,_,h,_,_,_,_=>h.elim
 | .goto _,_,_,_,_,_,_,_,_,_,h,_,_,_,_=>h.elim
 | .refuse _,_,_,_,_,_,_,_,_,_,h,_,_,_,_=>h.elim
theorem Om(A:Nat->List Nat){f:aQ}{fn:Func}{c:Code}(hf:P.funcs[f]?=some fn)(hb:fn.body=some c){args:List AV}(hl:ble args.length fn.ntmps=true){K:AV->Hq->Prop}{s:Hq}
  (h:wpDR P A fn.ntmps c (gZ args) (λv e env s=>retK e (runK P v (λs=>resK P fn.results.toList env (λvs=>K (oneV vs) s) s) s)) s):wC P f args K s:=λg ρ base t w args' hfit hr=>by
 refine iu hf hb trivial ?_ rfl;refine sG (A:=A) g c (gZ args) _ s ρ ρ w w s _ h (.refl hfit) ((by simp_all [oW])) rfl λk first cap fs cs e env' s' ρ' a' w' t2 hk k1 k3 k4 k5 k6=>?_
 have body:runK P (.fn (.func k) first cap) (λs=>resK P fn.results.toList env' (λvs=>K (oneV vs) s) s) s'->LeavesInM bY.wide 0 P fn a'.tmps (kT ρ base s t w K) a'.defers .returning w':=λhrun=>by obtain⟨ms,rfl,m1,m2,m3⟩:=k6;refine CH k3.fit m1 m2 m3 λw2 f2 b2=>?_;refine⟨sI,.inr ⟨λh=>by simp[bY.wide]at h,.func k,cs,k,fs++cs,rfl,by simp only[invoke];grind [qT,Grd.nonum],λ_ _=>trivial,(hrun g ρ' base t w2 _ f2 k5).mono ?_⟩⟩;rintro en u w3 ⟨rfl,v',s3,ρ3,rfl,st3,hk3⟩;have ⟨vs,vs',a4,a5,a6⟩:=rR st3.fit (k4.mono st3.le) _ _ hk3;exact⟨_,CG a4,_,_,s3,ρ3,rfl,CF a5,⟨k3.le.trans st3.le,(k3.below.trans b2).trans st3.below,k3.pers.trans st3.pers,st3.fit,λi p q=>st3.nw i p (k3.nw i p q)⟩,a6⟩
 cases e with
 |exit id=>exact k1.elim
 |nrm=>exact body k1
 |ret=>exact body k1
end
def lY:Nat->Code->Code
 | 0,c=>c
 |d+1,.seq _ b=>lY d b
 |_+1,c=>c
def sJ:Nat->Code->Bool
 | 0,_=>true
 |d+1,.seq _ b=>sJ d b
 |_+1,_=>false
def wpCD(P:ay)(A:Nat->List Nat)(nt:Nat)(rnd:Option Nat):Nat->(Env->Hq->Prop)->Code->Env->(AExit->Env->Hq->Prop)->Hq->Prop
 | 0,J,_,env,_,s=>J env s
 |d+1,J,.seq a b,env,K,s=>wpC P A nt rnd a env (λe env s=>match e with
   | .nrm=>wpCD P A nt rnd d J b env K s
   |e=>K e env s) s
 |_+1,_,_,_,_,_=>False
theorem nq{P:ay}{A:Nat->List Nat}{nt:Nat}{rnd:Option Nat}{K:AExit->Env->Hq->Prop}:∀(d:Nat) (J:Env->Hq->Prop) (c:Code),sJ d c=true->(∀env s,wpC P A nt rnd (lY d c) env K s=J env s)->∀env s,wpC P A nt rnd c env K s=wpCD P A nt rnd d J c env K s
 | 0,J,c,_,h,env,s=>h env s
 | d+1,J,c,hs,h,env,s=>by
   cases c with
   | seq a b=>
     have ih:=nq (P:=P) (A:=A) (nt:=nt) (rnd:=rnd) (K:=K) d J b hs h;show wpC P A nt rnd a env _ s=wpC P A nt rnd a env _ s
     grind
   |_=>cases hs
def noNumB(P:ay):Bool:=P.funcs.toList.all λfn=>!(fn.name == "runtime.NumGoroutine")
theorem Dl{P:ay}(h:noNumB P=true):mM P:=by intro k fn hk e;have hm:fn∈P.funcs.toList:=gR;have:=bU.1 h fn hm;simp[e]at this
theorem post_of_below{H:Type}{enc:ah×ai->H}{P:ay}{f:Func}{s:ChangeSpec}{apart fresh handsOn again:Bool}{W W':am}{args:Array ai}{v:ai}{ds gs:List (bp H)}{before pa pv:List d7}
  (hW:bp.Whole enc P f.params.toList s.vars apart W args.toList ds gs before) (hb:Below W.heap.size W W')
  (hres:∀(b:Nat) (sp:Nat->Bool) (hd:Bool),bp.TrodAll enc P W' b sp hd f.resultTypes.toList (v.resultList f.resultTypes.size) (s.fn H (ds++gs)).results [])
  (hargs:∀sp:Nat->Bool,(∀p∈before,sp p.block=true)->bp.TrodAll enc P W' 0 sp true f.params.toList args.toList (s.fn H (ds++gs)).args pa)
  (hvars:∀sp:Nat->Bool,(∀p∈before,sp p.block=true)->bp.TrodVars enc P W' sp s.vars (s.fn H (ds++gs)).vars pv)
  (hps:before=pa++pv)
  (hok:∀(j:Nat) (t:ah) (r:ai),f.resultTypes[j]?=some t->(v.resultList f.resultTypes.size)[j]?=some r->ai.okWide P W' .any 0 t r) :
  s.post enc P f apart fresh handsOn again W args v W':=by
 have hold:∀p∈before,(λb=>decide (b<W.heap.size)) p.block=true:=λp hp=>by simpa using hW.lt p hp
 have hlt:=hW.lt;refine⟨ds,gs,before,[],pa,pv,hW,hres _ _ _,hargs _ hold,hvars _ hold,am.keptBut_mono (λp hp=>⟨hp,?_⟩) (hb.frame (·∈before)),λ_=>?_⟩
 grind
 have ⟨_,_,_,_,_,hz,hn⟩:=hW;refine⟨hok,_,_,([]++pa)++pv,⟨[]++pa,pv,trodAll_append (hargs _ (λ_ _=>rfl)) (hres _ _ _),hvars _ (λ_ _=>rfl),rfl,?_,?_⟩,?_⟩;intro b off hp;have hm:d7.cell b off∈before:=by rw[hps];simpa using hp
 rw[hb.frozen (p:=⟨b,off,none⟩) (hlt _ hm)];exact hz b off hm
 grind
 grind
section
variable {H:Type} {enc:ah × ai→H} {P:ay} {W W':am}
theorem oZ{α β:Type}{f g:α->Option β}:∀{l:List α}{ys:List β},l.mapM f=some ys->(∀x∈l,∀y∈ys,f x=some y->g x=some y)->l.mapM g=some ys
 |[],ys,h,_=>by simpa using h
 | a::l,ys,h,hg=>by
   rw[mapM_cons]at h ⊢;cases ha:f a with
   |none=>rw[ha]at h;cases h
   | some b=>
     rw[ha]at h;cases hl:l.mapM f with
     |none=>rw[hl]at h;cases h
     | some bs=>
       rw[hl]at h;cases h;rw[hg a sI b sI ha,oZ hl λx hx y hy=>gR];rfl
theorem Dm(hb:Below W.heap.size W W'){a:Addr}{n:Nat}{cs:List ai}(h:W.cells? 0 a n=some cs):W'.cells? 0 a n=some cs:=by
 unfold am.cells? at h ⊢;refine oZ h λi _ v _ hv=>?_;have hlt:(a.add i).block<W.heap.size:=by
  unfold am.cell? at hv
  grind
 rw[<- hv];exact hb.cell hlt
theorem xo(hb:Below W.heap.size W W')(sp:Nat->Bool):∀(d:Nat) (t:ah) (cs:List ai) (fuel:Nat) (x:bp H×List d7),plainT P d t=true->bp.trod enc P W 0 (λ_=>true) true fuel t cs=some x->
  (∀p∈x.2,sp p.block=true)->bp.trod enc P W' 0 sp true fuel t cs=some x
 | 0,_,_,_,_,hp,_,_=>by cases hp
 | d+1,t,cs,fuel,x,hp,h,hsp=>by
   unfold plainT at hp;cases fuel with
   |zero=>cases h
   |succ fuel=>
   split at hp;rename_i hu;obtain⟨b,rfl,rfl⟩:=bp.trod_bool hu h;simp only[bp.trod,hu];rename_i k hu;obtain⟨n,rfl,rfl,hw⟩:=bp.trod_int hu h;simp[bp.trod,hu,hw];rename_i hu;obtain⟨v,rfl,rfl,hv⟩:=bp.trod_string hu h;simp[bp.trod,hu,hv];rename_i e hu;have ⟨hp1,hp2⟩:=Bool.and_eq_true_iff.1 hp;have hes:0<P.cellsOf e:=by rwa [bZ]at hp1
   rcases bp.trod_slice hu h with⟨rfl,rfl⟩|⟨a,len,cap,elems,rest,n,hn,rfl,rfl,_,hlc,hcm,hel,_,hspare,_⟩;simp only[bp.trod,hu];have ⟨hrl,_⟩:=hspare rfl;have h0:=h;simp only[bp.trod,hu,if_true,zero_le,true_and]at h ⊢;rw[ak ⟨hlc,hcm⟩]at h ⊢;rw[Option.bind_eq_some_iff]at h;have ⟨el2,g1,g2⟩:=h;rw[Option.map_eq_some_iff]at g2;have ⟨re2,g2,g3⟩:=g2;have hlen1:el2.length=len:=by rw[mapM_some_length g1];simp
   have hlen2:re2.length=cap-len:=by rw[mapM_some_length g2];simp
   simp only[Prod.mk.injEq,bp.slice.injEq]at g3;have ⟨⟨g31,g32⟩,g4⟩:=g3;have keepE:∀y,(y∈el2∨y∈re2)->∀c,bp.trod enc P W 0 (λ_=>true) true fuel e c=some y->bp.trod enc P W' 0 sp true fuel e c=some y:=by
    intro y hy c hc;refine xo hb sp d e c fuel y hp2 hc λp hpm=>hsp p ?_
    grind
   have keepB:∀i y,(y∈el2∨y∈re2)->(W.cells? 0 (a.add (i*P.cellsOf e)) (P.cellsOf e)).bind (bp.trod enc P W 0 (λ_=>true) true fuel e)=some y->
     (W'.cells? 0 (a.add (i*P.cellsOf e)) (P.cellsOf e)).bind (bp.trod enc P W' 0 sp true fuel e)=some y:=by
    intro i y hy hi;rw[Option.bind_eq_some_iff]at hi ⊢
    grind [Dm]
   rw[oZ g1 gR];simp only[Option.bind_some]
   by_cases hz:cap-len=0
   have:re2=[]:=gR;subst this;simp only[hz,range_zero,mapM_nil];simp only[<- g31,<- g32,<- g4,map_nil];split<;>simp
   have hblk:sp a.block=true:=by refine hsp (.cell a.block (a.off+0)) ?_;simp only;refine mem_append_left _ ?_;unfold d7.row;refine aG.2 ⟨0,?_,rfl⟩;rw[mem_range,hel,hrl];exact Nat.mul_pos oM hes
   rw[ak hblk,oZ g2 gR];simp only[Option.map_some,<- g31,<- g32,<- g4];rename_i fs hu;have ⟨_,hp2⟩:=Bool.and_eq_true_iff.1 hp;obtain⟨xs,n,_,rfl,hl,hxl,hx⟩:=bp.trod_struct hu h;simp only[bp.trod,hu]at h ⊢;rw[ak hl]at h ⊢;rw[Option.map_eq_some_iff]at h ⊢;have ⟨ys,h1,h2⟩:=h;refine⟨ys,oZ h1 λf hf y hy hfy=>?_,h2⟩;refine xo hb sp d f.type _ fuel y (bU.1 hp2 f hf) hfy λp hpm=>hsp p ?_;simp only[Prod.mk.injEq]at h2 ⊢;rw[<- h2.2];exact mem_flatMap.2 ⟨y,hy,hpm⟩;rename_i n e hu;have ⟨_,hp2⟩:=Bool.and_eq_true_iff.1 hp;have ⟨_,hp3⟩:=Bool.and_eq_true_iff.1 hp2;obtain⟨xs,m,_,rfl,hl,hxl,hx⟩:=bp.trod_array hu h;simp only[bp.trod,hu]at h ⊢;rw[ak hl]at h ⊢;rw[Option.map_eq_some_iff]at h ⊢;have ⟨ys,h1,h2⟩:=h;refine⟨ys,oZ h1 λi _ y hy hfy=>?_,h2⟩;refine xo hb sp d e _ fuel y hp3 hfy λp hpm=>hsp p ?_;simp only[Prod.mk.injEq]at h2 ⊢;rw[<- h2.2];exact mem_flatMap.2 ⟨y,hy,hpm⟩
   ·cases hp
theorem trodAll_keep(hb:Below W.heap.size W W')(sp:Nat->Bool)(d:Nat):∀(ts:List ah) (vs:List ai) (ds:List (bp H)) (ps:List d7),(ts.all λt=>plainT P d t)=true->bp.TrodAll enc P W 0 (λ_=>true) true ts vs ds ps->
  (∀p∈ps,sp p.block=true)->bp.TrodAll enc P W' 0 sp true ts vs ds ps
 | [],vs,ds,ps,_,h,_=>by
   cases vs<;>cases ds<;>first|exact h|exact h.elim
 |t::ts,[],ds,ps,_,h,_=>by cases ds<;>exact h.elim
 |t::ts,v::vs,[],ps,_,h,_=>h.elim
 | t::ts,v::vs,x::ds,ps,hp,h,hsp=>by
   simp only[eu,Bool.and_eq_true]at hp;obtain⟨p,q,⟨fuel,h1⟩,h2,rfl⟩:=h;exact⟨p,q,⟨fuel,(by grind [xo])⟩,trodAll_keep hb sp d ts vs ds q hp.2 h2 λp hpm=>hsp p (by simp[hpm]),rfl⟩
end
theorem grd_of{P:ay}(h:P.follows .mixedOrders=true)(k:noNumB P=true):Grd P:=⟨h,Dl k⟩
section
variable (P : ay)
def iY(f:aQ)(args:List AV)(R:AV->Hq->Prop)(s:Hq):Prop:=Grd P->∀(ρ:Ren) (base:Nat) (t:Hq) (w:am) (args':Array ai),Fit ρ base s t w->RelL ρ args args'.toList->
 fO bY.wide 0 P f args' w λe w'=>∃v v' s' ρ',e=.panicked [{ v:=v',recovered:=false }]/\Rel ρ' v v'/\Stp ρ ρ' base s s' t w w'/\R v s'
def lc(k:aQ)(args:List AV)(x:AV)(Q:Hq->Prop)(s:Hq):Prop:=Grd P->∀(ρ:Ren) (base:Nat) (t:Hq) (w:am) (args':Array ai) (x':ai),Fit ρ base s t w->RelL ρ args args'.toList->Rel ρ x x'->
 CallsDIn bY.wide 0 P k args' (.panicking [{ v:=x',recovered:=false }]) w λe u w'=>u=.panicking [{ v:=x',recovered:=true }]/\∃v' s' ρ',e=.returned v'/\Stp ρ ρ' base s s' t w w'/\Q s'
variable (nt : Nat)
abbrev DieR(ρ:Ren)(base:Nat)(s t:Hq)(w:am)(D:List cx)(R:AV->Env->Hq->Prop)(Q:Exit->Act->am->Prop):Prop:=
 ∀v v' env' s' ρ' a' w',Rel ρ' v v'->Stp ρ ρ' base s s' t w w'->ER ρ' nt env' a'.tmps->a'.defers=D->R v env' s'->Q (.panic [{ v:=v',recovered:=false }]) a' w'
def DieC(c:Code)(env:Env)(R:AV->Env->Hq->Prop)(s:Hq):Prop:=Grd P->∀(t:Hq) (ρ:Ren) (base:Nat) (w:am) (a:Act) (Q:Exit->Act->am->Prop),Fit ρ base s t w->ER ρ nt env a.tmps->DieR nt ρ base s t w a.defers R Q->c.wpIn (FR none) 0 P Q a w
def DieO(o:Oper)(env:Env)(R:AV->Env->Hq->Prop)(s:Hq):Prop:=Grd P->∀(t:Hq) (ρ:Ren) (base:Nat) (w:am) (a:Act) (next:Act->am->Prop) (Q:Exit->Act->am->Prop),Fit ρ base s t w->ER ρ nt env a.tmps->DieR nt ρ base s t w a.defers R Q->o.uponIn (FR none) 0 P a next Q ((o.semAt none a.eval).run P w)
end
section
variable {P:ay} {A:Nat→List Nat} {nt:Nat} {s:Hq} {env:Env} {R:AV→Env→Hq→Prop} {x y:Code}
theorem DRel.len{ρ:Ren}{ds0:List cx}:∀{ms:List Nat}{ds:List cx},DRel ρ ms ds ds0->ds.length=ms.length+ds0.length
 |[],ds,h=>by have h:=h;rw[h];simp
 |m::ms,ds,⟨_,ds',_,e,h⟩=>by rw[e,cr,DRel.len h,cr];omega
theorem Ms.same{ρ:Ren}{t t2:Hq}{D:List cx}(h:Ms ρ t t2 s D D):t2=t:=by
 obtain⟨ms,rfl,_,_,h4⟩:=h;have:=h4.len;have:ms=[]:=gR;subst this
 funext i;unfold add;cases t i<;>rfl
theorem DieR.pre{ρ ρ1:Ren}{base:Nat}{s1 t:Hq}{w w1:am}{D:List cx}{Q:Exit->Act->am->Prop}(h:DieR nt ρ base s t w D R Q)(st:Stp ρ ρ1 base s s1 t w w1):DieR nt ρ1 base s1 t w1 D R Q:=
 λv v' env' s' ρ' a' w' r k e d q=>h v v' env' s' ρ' a' w' r (st.trans k) e d q
theorem DieC.left(h:DieC P nt x env R s):DieC P nt (.seq x y) env R s:=λg t ρ base w a Q hf hT hQ=>
 fC (h g t ρ base w a _ hf hT λv v' env' s' ρ' a' w' r k e d q=>hQ v v' env' s' ρ' a' w' r k e d q)
theorem DieC.then(A:Nat->List Nat)(hn:noRF x=true){K:Env->Hq->Prop}(h:wpC P A nt none x env (λe env s=>match e with | .nrm=>K env s|_=>False) s)(hK:∀env s,K env s->DieC P nt y env R s):DieC P nt (.seq x y) env R s:=λg t ρ base w a Q hf hT hQ=>by
 refine fC (ie (A:=A) (rnd:=none) x env _ s h g t t ρ base w a none _ _ hf hT rfl .nil λe env2 s2 ρ2 a2 w2 t2 j1 j2 j3 j4 j5=>?_);have hd2:=j2.2 hn;rw[hd2]at j5;rw[j5.same]at j3;have st:Stp ρ ρ2 base s s2 t w w2:=⟨j3.le,j3.below,j3.pers,j3.fit,j3.nw⟩
 cases e with
 |nrm=>exact hK _ _ j1 g t ρ2 base w2 a2 Q j3.fit j4 (by rw[hd2];exact hQ.pre st)
 |ret=>exact j1.elim
 |exit id=>exact j1.elim
theorem DieC.cond{c:aP}{b:Bool}(hc:okX c=true)(he:evD env c=b)(h:DieC P nt (if b then x else y) env R s):DieC P nt (.cond c x y) env R s:=λg t ρ base w a Q hf hT hQ=>by have hv:=iU hT hc;rw[he]at hv;exact wpIn_cond hv (h g t ρ base w a Q hf hT hQ)
theorem DieC.block{id:Nat}(h:DieC P nt x env R s):DieC P nt (.block id x) env R s:=λg t ρ base w a Q hf hT hQ=>
 wpIn_block (h g t ρ base w a _ hf hT λv v' env' s' ρ' a' w' r k e d q=>hQ v v' env' s' ρ' a' w' r k e d q)
theorem DieC.loop(h:DieC P nt x env R s):DieC P nt (.loop x) env R s:=λg t ρ base w a Q hf hT hQ=>
 wpIn_loop (λa' w'=>a'=a/\w'=w) (λ_ _=>0) ⟨rfl,rfl⟩ λa' w' ⟨e1,e2⟩=>by subst e1 e2;exact h g t ρ base w' a' _ hf hT λv v' env' s' ρ' a' w' r k e d q=>hQ v v' env' s' ρ' a' w' r k e d q
theorem DieC.last{id:Nat}{ops:Array Oper}{l:List Oper}{o:Oper}{K:Env->Hq->Prop}(h1:ops.toList=l ++ [o])(hg:o.guard=none)(hok:(l.all λo=>okOp o.op)=true)(h:opsE P nt ops.toList l [] env K s)(hK:∀env s,K env s->DieO P nt o env R s):DieC P nt (.region id ops false) env R s:=λg t ρ base w a Q hf hT hQ=>by
 refine wpIn_region ?_;have hsz:ops.size=l.length+1:=by have:=aJ List.length h1;simpa using this
 have hrange:List.range ops.size=range' 0 l.length ++ [l.length]:=by rw[hsz,range_succ,jD]
 rw[hrange];have hget:∀j,j<l.length->l[j]?=ops[0+j]?:=λj hj=>by rw[zAY,<- Array.getElem?_toList,h1,da hj]
 have hlast:ops[l.length]?=some o:=by rw[<- Array.getElem?_toList,h1];simp
 refine wV (r:=none) (Q:=Q) g [l.length] l 0 [] env s ρ w a hget hok .nil h hf hT λenv' s' ρ' a' w' k1 _ k4 k5 k6=>?_;simp only[wpOpsIn,hlast];rw[ak (by unfold Region.wanted;rw[hg])];refine⟨jz,?_⟩;exact hK env' s' k1 g t ρ' base w' a' _ Q k4.fit k5 (by rw[k6];exact hQ.pre k4)
theorem DieO.panic{o:Oper}{z:aP}{ty:ah}{v:AV}(ho:o.op=.panic z)(hz:okX z=true)(he:evD env z=.ifc ty v)(hR:R (.ifc ty v) env s):DieO P nt o env R s:=λg t ρ base w a next Q hf hT hQ=>by
 have hv:=iU hT hz;have ⟨v',e,hr⟩:∃v',a.eval z=.iface ty v'/\Rel ρ v v':=by grind [Rel]
 have e1:(o.semAt none a.eval).run P w=.halt (.panic (.iface ty v')) w:=by rw[Oper.semAt_none];simp only[cX,ho,e,Instr.panic];rfl
 rw[e1,Oper.uponIn_panic];exact hQ (.ifc ty v) _ env s ρ a w gR (.refl hf) hT rfl hR
theorem DieO.call{o:Oper}{c:Call}{f:aP}{k:aQ}(ho:o.op=.call c)(hcal:c.callee=.value f)(hok:(c.args.toList.all okX&&okX f)=true)(he:evD env f=.fn (.func k) [] [])(hk:isFn P k=true)(h:iY P k (c.args.toList.map (evD env)) (λv s=>R v env s) s):DieO P nt o env R s:=λg t ρ base w a next Q hf hT hQ=>by
 have ⟨h1,h2⟩:=Bool.and_eq_true_iff.1 hok;have hr:=oP hT h1;have hr':RelL ρ (c.args.toList.map (evD env)) (c.args.map a.eval).toList:=by simpa using hr
 have hv:=iU hT h2;rw[he]at hv;have ⟨fs,cs,e,g1,g2⟩:=hv;unfold RelL at g1 g2;have f0:fs=#[]:=gR;have c0:cs=#[]:=gR;have e1:(o.semAt none a.eval).run P w=.ok (.enter k (c.args.map a.eval)) w:=by
  rw[Oper.semAt_none];simp only[cX,ho,resolve,hcal,e,cx.ofValue,invoke,Sem.run_bind,Sem.run_pure,aU.andThen_ok]
  grind [qT,Grd.nonum]
 rw[e1,Oper.uponIn_enter];refine⟨λh=>by simp[FR,bY.wide]at h,(h g ρ base t w _ hf hr').mono ?_⟩;rintro en w2 ⟨v,v',s',ρ',rfl,q1,q2,q3⟩;exact hQ v v' env s' ρ' a w2 q1 q2 (hT.mono q2.le) rfl q3
theorem On{f:aQ}{fn:Func}{c:Code}(hf:P.funcs[f]?=some fn)(hb:fn.body=some c){args:List AV}(hl:ble args.length fn.ntmps=true){R:AV->Hq->Prop}(h:DieC P fn.ntmps c (gZ args) (λv _ s=>R v s) s):iY P f args R s:=λg ρ base t w args' hfit hr=>by refine callsIn_of_wp hf hb trivial ?_ rfl;refine h g t ρ base w _ _ hfit (oW hr (cJ hl)) λv v' env' s' ρ' a' w' q1 q2 _ q4 q5=>?_;exact⟨q4,v,v',s',ρ',rfl,q1,q2,q5⟩
theorem Do(A:Nat->List Nat){k:aQ}{fn:Func}{id tm:Nat}{rest:Code}{o:Oper}(hf:P.funcs[k]?=some fn)(hb:fn.body=some (.seq (.region id #[o] false) rest))(hr:fn.results.toList=[])(ho:o.dst=some tm/\o.guard=none/\∃ts,o.op=.call ⟨.builtin .recover,#[],ts⟩)(hn:noRF rest=true)(hlt:blt tm fn.ntmps=true){args:List AV}(hl:ble args.length fn.ntmps=true){x:AV}{Q:Hq->Prop}
  (h:wpC P A fn.ntmps none rest (upd (gZ args) tm x) (λe env s=>retK e (Q s)) s):lc P k args x Q s:=λg ρ base t w args' x' hfit hrel hx=>by
 have hres:fn.results=#[]:=by apply Array.toList_inj.1;rw[hr]
 have hstart:=oW (nt:=fn.ntmps) hrel (cJ hl);have ⟨o1,o2,ts,o3⟩:=ho;refine callsDIn_of_wpSIn hf hb trivial λc₀ cs hu=>?_;refine wpSIn_seq (wpSIn_region ?_);simp only[size_toArray,cr,iB,zAY,show List.range 1=[0]from rfl,wpOpsSIn,iA,g0Y];refine⟨jz,?_⟩;have rec_exec:∀a:Act,(cX a.eval o).run P w=.ok .recover w:=λa=>by simp only[cX,o3,resolve,invoke,Array.map_empty,Sem.run_bind,Sem.run_pure,aU.andThen_ok];rfl
 have rd:recoverD (c₀::cs)=some (x',{ c₀ with mode:=.panicking [{ v:=x',recovered:=true }] }::cs):=by simp[recoverD,hu]
 rw[ak (by unfold Region.wanted;rw[o2]),rec_exec];simp only[rd];refine wpSIn_of_wpIn rfl (ie (A:=A) (rnd:=none) rest _ _ s h g t t ρ base w _ none [] _ hfit (by grind [ER.put]) rfl (by grind [ga,Ms.nil]) λe env' s' ρ' a' w' t2 k1 k2 k3 k4 k5=>?_);have hd1:=(k2.2 hn).trans (ga _ _ _);rw[hd1]at k5;have:=k5.none_left;subst this;have main:Q s'->a'.defers=[]/\∃u',({ c₀ with mode:=.panicking [{ v:=x',recovered:=true }] }::cs)={ c₀ with mode:=u' }::cs/\∃v,(results fn a'.tmps).run P w'=.ok v w'/\(u'=.panicking [{ v:=x',recovered:=true }]/\∃v' s' ρ',Ending.returned v=.returned v'/\Stp ρ ρ' base s s' t2 w w'/\Q s'):=λhk=>
  ⟨hd1,_,rfl,.tuple #[],by simp[results,hres],rfl,_,s',ρ',rfl,⟨k3.le,k3.below,k3.pers,k3.fit,k3.nw⟩,hk⟩
 cases e with
 |nrm=>exact main k1
 |ret=>exact main k1
 |exit i=>exact k1.elim
def recK(P:ay)(f v:AV)(Q:Hq->Prop)(s:Hq):Prop:=match f with
 | .fn (.func k) first cap=>lc P k (first++cap) v Q s
 |_=>False
theorem UF(A:Nat->List Nat){f:aQ}{fn:Func}{id:Nat}{r0 rest:Code}{ops:Array Oper}{l:List Oper}{c:Call}{fo:aP}(hf:P.funcs[f]?=some fn)(hb:fn.body=some (.seq r0 (.seq (.region id ops false) rest))){args:List AV}(hl:ble args.length fn.ntmps=true)(hn:noRF r0=true)(h1:lP ops.toList=some (l,c))(h2:si c=some fo)(hok:(l.all λo=>okOp o.op)=true){K:AV->Hq->Prop}
  {K0:Env->Hq->Prop}(h:wpC P A fn.ntmps none r0 (gZ args) (λe env s=>match e with
   | .nrm=>opsE P fn.ntmps ops.toList l [] env (λenv s=>nk P (evD env fo)/\K0 env s) s
   |_=>False) s)
  (hK:∀env s,K0 env s->DieC P fn.ntmps rest env (λv env' s'=>recK P (evD env fo) v (λs=>resK P fn.results.toList env' (λvs=>K (oneV vs) s) s) s') s):wC P f args K s:=λg ρ base t w args' hfit hr=>by
 refine iu hf hb trivial ?_ rfl;refine fC (ie (A:=A) (rnd:=none) r0 _ _ s h g t t ρ base w _ none [] _ hfit ((by simp_all [oW])) rfl .nil λe env2 s2 ρ2 a2 w2 t2 j1 j2 j3 j4 j5=>?_);have hd2:=j2.2 hn;rw[hd2]at j5;rw[j5.none_left]at j3;cases e with
 |ret=>exact j1.elim
 |exit id=>exact j1.elim
 |nrm=>
 have st2:Stp ρ ρ2 base s s2 t w w2:=⟨j3.le,j3.below,j3.pers,j3.fit,j3.nw⟩
 refine fC (Ol g h1 h2 hok j1 j3.fit j4 hd2 λenv' s' ρ' a' w' k first cap fs cs hv hk k1 k4 k5 k6 k7=>?_);refine hK _ _ k1 g t ρ' base w' a' _ k4.fit k5 λv v' env3 s3 ρ3 a3 w3 q1 q2 q3 q4 q5=>?_;rw[hv]at q5;show LeavesInM bY.wide 0 P fn a3.tmps (kT ρ base s t w K) a3.defers (.panicking [{ v:=v',recovered:=false }]) w3;rw[q4,k7];refine⟨sI,.inr ⟨λh=>by simp[bY.wide]at h,.func k,cs,k,fs++cs,rfl,by simp only[invoke];grind [qT,Grd.nonum],λ_ _=>trivial,(q5 g ρ3 base t w3 _ _ q2.fit (RelL.mono q2.le _ _ k6) q1).mono ?_⟩⟩;rintro en u w4 ⟨rfl,v4,s4,ρ4,rfl,st4,hk4⟩;have ⟨vs,vs',a4,a5,a6⟩:=rR st4.fit (q3.mono st4.le) _ _ hk4;exact⟨_,CG a4,_,_,s4,ρ4,rfl,CF a5,((st2.trans k4).trans q2).trans st4,a6⟩
end
end Go.AM
