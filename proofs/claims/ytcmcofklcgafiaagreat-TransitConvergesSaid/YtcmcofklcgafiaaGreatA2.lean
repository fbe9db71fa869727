/- Part A2 of the proof: see the last part. -/
import Derived.Test.YtcmcofklcgafiaaGreatA1
import Derived.LoopNIn
open Go renaming Builtin→aW,Deferred→cx,Operand→aP,Program→ay,TypeId→ah,Value→ai,World→am,execOp→cX,run_underlying→aF
open List renaming all_eq_true→bU,append_assoc→cn,append_of_mem→eY,map_congr_left→cK,mem_append→cR,mem_append_left→dV,mem_append_right→dN,mem_filterMap→jy,nodup_append→gG,nodup_cons→fB,pairwise_cons→aB
open Nat renaming le_of_ble_eq_true→cJ
set_option linter.unusedVariables false
namespace Go.AM
open Go Go.RowKit List Nat
section
variable {P:ay} {ρ:Ren} {base nt:Nat} {s t:Hq} {w:am} {K:AV→Hq→Prop} {env:Env} {a:Act}
def clsD(P:ay):Op->Nat
 | .slice t _ _ _ _=>match P.underlying t with
   |some (.slice _)=>0
   |_=>1
 | .move _ | .assign _ | .pick _ _ _ | .nilCheck _ | .binOp _ _ _ _ _ | .unOp _ _ _ | .convert _ _ _ | .makeInterface _ _ | .makeFunc _ _ _ | .fieldAddr _ _ _ | .field _ _ _ | .indexAddr _ _ _ | .index _ _ _
 | .typeAssert _ _ _ _ | .extract _ _ | .build _ _ | .sliceToArrayPointer _ _=>0
 | .load _ _ | .lookup _ _ _ _=>1
 | .alloc _ | .box _ _ | .buildSlice _ _ _=>2
 | .call c=>match c.callee with
   | .builtin .min | .builtin .max=>0
   | .builtin .len=>match c.argTypes.toList with
     | t::_=>(match P.underlying t with
       |some (.map _ _)=>1
       |_=>0)
     |[]=>3
   |_=>3
 |_=>3
def OkD(P:ay)(ρ:Ren)(s:Hq)(w:am)(K:AV->Hq->Prop)(r:Result Next):Prop:=∃v v',r=.ok (.value v') w/\Rel ρ v v'/\K v s
theorem OkD.det{m:Sem ai}{v:AV}(h:∃v',m.run P w=.ok v' w/\Rel ρ v v')(hk:K v s):OkD P ρ s w K ((do pure (.value (<- m)):Sem Next).run P w):=by have ⟨v',e,r⟩:=h;exact⟨v,v',by simp[e],r,hk⟩
theorem OkD.n{r:Result Next}(hf:Fit ρ base s t w)(h:OkD P ρ s w K r):OkN P ρ base s t w K r:=by have ⟨v,v',e,q,k⟩:=h;exact⟨_,w,e,(by grind [Stp.refl])⟩
theorem BV{ty elem:ah}{n es:Nat}{x v:AV}{lo hi mx:Option AV}{x':ai}{lo' hi' mx':Option ai}(hu:P.underlying ty=some (.array n elem))(hs:sz P elem=some es)(hf:Fit ρ base s t w)(h:oL s n es x lo hi mx=some v)(hx:Rel ρ x x')
  (hlo:ORel ρ lo lo') (hhi:ORel ρ hi hi') (hmx:ORel ρ mx mx'):∃v',(Instr.sliceAt ty x' lo' hi' mx').run P w=.ok v' w/\Rel ρ v v':=by
 unfold oL at h;split at h<;>try (cases h;done)
 rename_i b o;split at h<;>try (cases h;done)
 rename_i e el l hb
 replace h:=d6 h
 have ⟨h0,h⟩:=h;have h0:=cJ h0;split at h<;>try (cases h;done)
 rename_i m e1;split at h<;>try (cases h;done)
 rename_i hh e2;split at h<;>try (cases h;done)
 rename_i lw e3
 replace h:=d6 h
 have ⟨hg,h⟩:=h;cases h;obtain⟨L,hL,rfl⟩:=hx;have ⟨L',hL',⟨cc,fr,q1,_,q3,q4,_⟩,_⟩:=hf.get hb;have ⟨M,hb',hlh,hhM,_,hMc,hmd,hMm⟩:=Bi (P:=P) hlo hhi hmx false e1 e2 e3 hg (Nat.le_refl n) (Nat.le_refl n) w;obtain rfl:=hMm (.inr rfl);have ⟨h2,h3,h4⟩:=qE (es:=es) (show lw<=M by omega) hmd;refine⟨.slice (some (if M=lw then⟨L.blk,L.sh+o,none⟩else(⟨L.blk,L.sh+o,none⟩:Addr).add (lw*es))) (hh-lw) (M-lw),by simp[Instr.sliceAt,aF hu,Instr.sureAddr,hb',gO hs],?_⟩
 grind [Rel,jf]
theorem BW{neg:Bool}{ty:ah}{x y:aP}{p q:AV}{p' q':ai}(hf:Fit ρ base s t w)(h:eqK P neg ty (isC x||isC y) p q K s)(hp:Rel ρ p p')(hq:Rel ρ q q'):
  ∃v v',(do eqGuard (cond neg .neq .eql) ty x y p' q';binOp (cond neg .neq .eql) ty p' q':Sem ai).run P w=.ok v' w/\Rel ρ v v'/\K v s:=by
 unfold eqK at h;split at h
 ·rename_i d hu
  split at h
  ·rename_i kd hk
   have ⟨v,h1,h2⟩:=cB h;have ⟨v',e,r⟩:=wL (A8 hu hk p q v h1) hp hq w
   grind
  ·cases hg:P.eqGuardType P.depth ty with
   |true=>grind
   | false=>
     rw[hg,cond_false]at h;have ⟨v,h1,h2⟩:=cB h;obtain⟨b,h3,rfl⟩:=Nk h1;unfold fF at h3;split at h3
     ·rename_i l m
      have hb:binA P (cond neg .neq .eql) ty x y (.agg l) (.agg m)=some (cond neg (!b) b):=by
       grind [je,binA]
      have ⟨v',e,r⟩:=wL hb hp hq w
      grind
     ·cases h3
 ·exact h.elim
theorem qV{o:Oper}(hcl:clsD P o.op<=1)(hf:Fit ρ base s t w)(hT:ER ρ nt env a.tmps)(ho:okOp o.op=true)(h:wpOp P env K s o.op):OkD P ρ s w K ((cX a.eval o).run P w):=by
 have ⟨dst,op,type,pos,after,guard⟩:=o
 by_cases hgl:∃ty q,op=.load ty (.global q)
 ·obtain⟨ty,q,rfl⟩:=hgl
  simp only[wpOp]at h;have ⟨v,v',e,r,k⟩:=Br (P:=P) hf h;exact .det ⟨v',by simp[Instr.loadAt,Instr.sureAddr,Act.eval,e],r⟩ k
 have hops:=NI ho λty q e=>hgl ⟨ty,q,e⟩;have hm:=λx hx=>bU.1 hops x hx;have rel:=λx hx=>iU hT (hm x hx);cases op<;>first|(exfalso;simp[clsD]at hcl;done)|skip
 all_goals simp only[wpOp,cX]at h ⊢
 case move x=>exact⟨_,_,rfl,rel x (by simp[Op.operands]),h⟩
 case assign x=>exact⟨_,_,rfl,rel x (by simp[Op.operands]),h⟩
 case pick c x y=>
  have ⟨v,h1,h2⟩:=cB h;have rc:=rel c (by simp[Op.operands]);have rx:=rel x (by simp[Op.operands]);have ry:=rel y (by simp[Op.operands]);unfold cW at h1;split at h1<;>cases h1
  ·rename_i e
   rw[e]at rc;unfold Rel at rc;exact⟨_,_,by simp only[rc];rfl,rx,h2⟩
  ·rename_i e
   rw[e]at rc;unfold Rel at rc;exact⟨_,_,by simp only[rc];rfl,ry,h2⟩
 case build ty ps=>
  have hp:(ps.toList.all λp=>okX p.2)=true:=bU.2 λp hp=>hm p.2 (by simp only[Op.operands,mem_map];exact⟨p,hp,rfl⟩);split at h
  ·rename_i z fields hz hu
   cases hall:(fields.toList.all λf=>(sz P f.type).isSome)with
   |false=>grind
   | true=>
     rw[hall,aD]at h;split at h
     ·rename_i l hl
      have ⟨cs,h1,h2⟩:=cB h;exact .det (BB hz hu hall hT hl hp h1 w) h2
     ·exact h.elim
  ·rename_i z n elem hz hu
   split at h
   ·rename_i m hs
    split at h
    ·rename_i l hl
     have ⟨cs,h1,h2⟩:=cB h;exact .det (Ub hz hu hs hT hl hp h1 w) h2
    ·exact h.elim
   ·exact h.elim
  ·exact h.elim
 case load ty x=>have h:gP P ty (evD env x) (K · s) s:=gR;have ⟨p,v,v',hp,e,r,k⟩:=Bq hf h (rel x (by simp[Op.operands]));exact .det ⟨v',by simp[Instr.loadAt,hp,Instr.sureAddr,e],r⟩ k
 case nilCheck x=>have ⟨v,h1,h2⟩:=cB h;obtain⟨rfl,r⟩:=Um h1 (rel x (by simp[Op.operands]));have e:=BU (P:=P) (y:=x) (dst:=dst) (type:=type) (pos:=pos) (after:=after) (guard:=guard) r w;exact⟨_,_,e,rel x (by simp[Op.operands]),h2⟩
 case binOp op ty x y t2=>
  have rx:=rel x (by simp[Op.operands]);have ry:=rel y (by simp[Op.operands]);have fin:(∃v v',(do eqGuard op ty x y (a.eval x) (a.eval y);binOp op ty (a.eval x) (a.eval y):Sem ai).run P w=.ok v' w/\Rel ρ v v'/\K v s)->OkD P ρ s w K ((do pure (.value (<- (do eqGuard op ty x y (a.eval x) (a.eval y);binOp op ty (a.eval x) (a.eval y):Sem ai))):Sem Next).run P w):=by rintro ⟨v,v',e,r,k⟩;exact .det ⟨v',e,r⟩ k
  have ar:op≠.shl->op≠.shr->oK (cZ op (evD env x) (evD env y)) (K · s)->∃v v',(do eqGuard op ty x y (a.eval x) (a.eval y);binOp op ty (a.eval x) (a.eval y):Sem ai).run P w=.ok v' w/\Rel ρ v v'/\K v s:=λh1 h2 h=>by have ⟨v,h3,h4⟩:=cB h;obtain⟨v',e,r⟩:=wL (A6 (t:=ty) (x:=x) (y:=y) h1 h2 _ _ _ h3) rx ry w;exact⟨v,v',e,r,h4⟩
  have sh:(op=.shl∨op=.shr)->oK (fN op (evD env x) (evD env y)) (K · s)->∃v v',(do eqGuard op ty x y (a.eval x) (a.eval y);binOp op ty (a.eval x) (a.eval y):Sem ai).run P w=.ok v' w/\Rel ρ v v'/\K v s:=λh1 h=>by have ⟨v,h3,h4⟩:=cB h;obtain⟨v',e,r⟩:=wL (A7 (t:=ty) (x:=x) (y:=y) h1 _ _ _ h3) rx ry w;exact⟨v,v',e,r,h4⟩
  grind [BW]
 case unOp op ty x=>have ⟨v,h1,h2⟩:=cB h;exact .det (A5 h1 (rel x (by simp[Op.operands])) w) h2
 case convert p q x=>
  have rx:=rel x (by simp[Op.operands]);split at h
  ·rename_i k1 k2 h1 h2
   have ⟨v,h3,h4⟩:=cB h;exact .det (A9 h1 h2 h3 rx w) h4
  ·rename_i h1 h2
   have ⟨v,h3,h4⟩:=cB h;exact .det (Ba h1 h2 h3 rx w) h4
  ·exact h.elim
 case sliceToArrayPointer ty x=>
  have ⟨v,h1,h2⟩:=cB h;have hr:=rel x (by simp[Op.operands]);unfold qu at h1;split at h1<;>try (cases h1;done)
  rename_i n e hd;unfold qq at h1;split at h1<;>try (cases h1;done)
  rename_i b o len c es hx;have ⟨hl,hu⟩:=d6 h1;have ⟨h3,h4⟩:=Bool.and_eq_true_iff.1 hl;have h3:=cJ h3;have h4:=cJ h4;rw[hx]at hr;have ⟨L,a',c',hL,hv,hor,_⟩:=hr;have ha:a'=⟨L.blk,L.sh+o,none⟩:=gR;have hnl:¬len<n:=oM;exact .det ⟨.pointer (some ⟨L.blk,L.sh+o,none⟩),by simp[Instr.arrayAt,aF hd,hv,ha,hnl],by grind [Rel]⟩ h2
 case makeInterface ty x=>
  split at h
  ·exact h.elim
  ·rename_i d hni hu
   exact .det (TW hu (λq e=>hni q (by rw[e])) (rel x (by simp[Op.operands])) w) h
  ·exact h.elim
 case makeFunc f fs cs=>
  have r1:=oP hT (l:=fs.toList) (bU.2 λx hx=>hm x (by simp only[Op.operands,Array.toList_append,cR];exact .inl hx));have r2:=oP hT (l:=cs.toList) (bU.2 λx hx=>hm x (by simp only[Op.operands,Array.toList_append,cR];exact .inr hx));split at h
  ·exact .det ⟨.func _ (fs.map a.eval) (cs.map a.eval),rfl,by unfold Rel;exact⟨_,_,rfl,by simpa using r1,by simpa using r2⟩⟩ h
  ·exact .det ⟨.func _ (fs.map a.eval) (cs.map a.eval),rfl,by unfold Rel;exact⟨_,_,rfl,by simpa using r1,by simpa using r2⟩⟩ h
  ·exact h.elim
 case slice ty x lo hi mx=>
  have rx:=rel x (by simp[Op.operands]);have rlo:=Bw hT (x:=lo) λy e=>hm y (by subst e;simp[Op.operands]);have rhi:=Bw hT (x:=hi) λy e=>hm y (by subst e;simp[Op.operands]);have rmx:=Bw hT (x:=mx) λy e=>hm y (by subst e;simp[Op.operands]);split at h
  ·rename_i elem hu
   split at h
   ·rename_i es hs
    have ⟨v,h1,h2⟩:=cB h;exact .det (Bj hu hs h1 rx rlo rhi rmx w) h2
   ·exact h.elim
  ·rename_i n elem hu
   split at h
   ·rename_i es hs
    have ⟨v,h1,h2⟩:=cB h;exact .det ((by grind [BV])) h2
   ·exact h.elim
  ·exact h.elim
 case fieldAddr ty x f=>
  split at h
  ·rename_i k hk
   have ⟨v,h1,h2⟩:=cB h;exact .det (TU hk h1 (rel x (by simp[Op.operands])) w) h2
  ·exact h.elim
 case field ty x f=>
  split at h
  ·rename_i fields hu
   split at h
   ·rename_i fd hfd
    split at h
    ·rename_i q hq
     have ⟨v,h1,h2⟩:=cB h;exact .det (Bb hu hfd hq h1 (rel x (by simp[Op.operands])) w) h2
    ·exact h.elim
   ·exact h.elim
  ·exact h.elim
 case indexAddr ty x i=>
  have rx:=rel x (by simp[Op.operands]);have ri:=rel i (by simp[Op.operands]);split at h
  ·rename_i len elem hu
   split at h
   ·rename_i n hs
    have ⟨v,h1,h2⟩:=cB h;exact .det (Bc hu hs h1 rx ri w) h2
   ·exact h.elim
  ·rename_i elem hu
   split at h
   ·rename_i n hs
    have ⟨v,h1,h2⟩:=cB h;exact .det (Be hu hs h1 rx ri w) h2
   ·exact h.elim
  ·exact h.elim
 case index ty x i=>
  have rx:=rel x (by simp[Op.operands]);have ri:=rel i (by simp[Op.operands]);split at h
  ·rename_i len elem hu
   split at h
   ·rename_i n q hs hq
    have ⟨v,h1,h2⟩:=cB h;exact .det (Bg hu hs hq h1 rx ri w) h2
   ·exact h.elim
  ·rename_i hu
   have ⟨v,h1,h2⟩:=cB h;exact .det (TV hu h1 rx ri w) h2
  ·exact h.elim
 case lookup ty x k ok=>
  have rx:=rel x (by simp[Op.operands]);have rk:=rel k (by simp[Op.operands]);split at h
  ·rename_i kt et hu
   split at h
   ·rename_i ik z hku hz
    have ⟨r,h1,h2⟩:=cB h;exact .det (BN hu hku hz hf h1 rx rk) h2
   ·rename_i kd z _ hku hz
    have ⟨r,h1,h2⟩:=cB h;exact .det (BO hu hku hz hf h1 rx rk) h2
   ·exact h.elim
  ·exact h.elim
 case typeAssert x xt ty ok=>
  split at h
  ·exact h.elim
  ·rename_i d hni hu
   have ⟨v,h1,h2⟩:=cB h;exact .det (Bh hu (λq e=>hni q (by rw[e])) h1 (rel x (by simp[Op.operands])) w) h2
  ·exact h.elim
 case extract x i=>have ⟨v,h1,h2⟩:=cB h;exact .det (TX h1 (rel x (by simp[Op.operands])) w) h2
 case call c=>
  have hargs:c.args.toList.all okX=true:=bU.2 λx hx=>hm x (by simp only[Op.operands];unfold Call.operands;grind);have hr:RelL ρ (c.args.toList.map (evD env)) (c.args.map a.eval).toList:=by simpa using oP hT hargs
  simp only[clsD]at hcl;cases hc:c.callee with
  | builtin b=>
    simp only[hc]at h hcl;simp only[resolve,hc,invoke,Sem.run_bind,Sem.run_pure,Result.andThen_ok];generalize c.args.map a.eval=args' at hr;have ⟨args'⟩:=args';generalize c.args.toList.map (evD env)=args at hr h;generalize hts:c.argTypes=ts at h hcl;have ⟨ts⟩:=ts;simp only at hr h hcl;unfold lR at h;split at h
    ·simp at hcl
    ·rename_i ty' ts x
     unfold RelL at hr;obtain⟨x',l1,rfl,hx,hr⟩:=hr;unfold RelL at hr;subst hr;split at h
     ·rename_i kt et hu
      have ⟨n,h1,h2⟩:=cB h;exact .det (qL hu hf h1 hx ts) h2
     ·rename_i d _ hu
      have ⟨n,h1,h2⟩:=cB h;exact .det (qK hu h1 hx ts) h2
     ·exact h.elim
    ·simp at hcl
    ·rename_i x xs
     unfold RelL at hr;obtain⟨x',l1,rfl,hx,hr⟩:=hr;have ⟨r,h1,h2⟩:=cB h;have ⟨v',e,q⟩:=qI (P:=P) h1 hx hr w;exact .det (m:=aW.min_ _ _ _) ⟨v',by simpa [aW.min_]using e,q⟩ h2
    ·rename_i x xs
     unfold RelL at hr;obtain⟨x',l1,rfl,hx,hr⟩:=hr;have ⟨r,h1,h2⟩:=cB h;have ⟨v',e,q⟩:=qJ (P:=P) h1 hx hr w;exact .det (m:=aW.max_ _ _ _) ⟨v',by simpa [aW.max_]using e,q⟩ h2
    ·exact h.elim
  |_=>simp[hc]at hcl
theorem BX{o:Oper}(g:Grd P)(hf:Fit ρ base s t w)(hT:ER ρ nt env a.tmps)(ho:okOp o.op=true)(h:wpOp P env K s o.op):OkN P ρ base s t w K ((cX a.eval o).run P w):=by
 have ⟨dst,op,type,pos,after,guard⟩:=o
 by_cases hcl:clsD P op<=1
 ·grind [qV,OkD.n]
 by_cases hgl:∃ty q,op=.load ty (.global q)
 ·obtain⟨ty,q,rfl⟩:=hgl
  exact absurd (Nat.le_refl 1) hcl
 have hops:=NI ho λty q e=>hgl ⟨ty,q,e⟩;have hm:=λx hx=>bU.1 hops x hx;have rel:=λx hx=>iU hT (hm x hx);cases op<;>first|(exfalso;simp[clsD]at hcl;done)|skip
 all_goals simp only[wpOp,cX]at h ⊢
 all_goals try (exact h.elim)
 case slice=>exact(hcl (by show clsD P (.slice _ _ _ _ _)<=1;simp only[clsD];split<;>omega)).elim
 case alloc ty=>
  split at h
  ·rename_i z hz;exact .of_val (Bu hf hz h)
  ·exact h.elim
 case box ty x=>exact .of_val (Bv hf h (rel x (by simp[Op.operands])))
 case buildSlice ty n ps=>
  have hp:(ps.toList.all λp=>okX p.2)=true:=bU.2 λp hp=>hm p.2 (by simp only[Op.operands,mem_map];exact⟨p,hp,rfl⟩);split at h
  ·rename_i elem hu
   split at h
   ·rename_i z es hz
    cases hb:ble (n*es) 16777216 with
    |false=>grind
    | true=>
      rw[hb,aD]at h;split at h
      ·rename_i l hl
       have ⟨cs,h1,h2,h3⟩:=cB h
       grind [Uc,OkN.of_val]
      ·exact h.elim
   ·exact h.elim
  ·exact h.elim
 case insert ty m k x=>
  have rm:=rel m (by simp[Op.operands]);have rk:=rel k (by simp[Op.operands]);have rx:=rel x (by simp[Op.operands]);split at h
  ·rename_i kt et hu
   split at h
   ·rename_i ik hku
    have ⟨s',h1,h2⟩:=cB h
    grind [qP,OkN.skip]
   ·rename_i kd _ hku
    have ⟨s',h1,h2⟩:=cB h
    grind [qQ,OkN.skip]
   ·exact h.elim
  ·exact h.elim
 case store ty p x=>have ⟨w',s',e,st,k⟩:=Bt hf h (rel p (by simp[Op.operands])) (rel x (by simp[Op.operands]));exact .skip e st k
 case makeMap ty r=>
  split at h
  ·rename_i kt et hu
   cases r with
   |none=>grind [qR,OkN.of_val]
   | some x=>
     simp only at h;unfold intK at h;split at h
     ·rename_i k n e
      have hr:=rel x (by simp[Op.operands])
      grind [Rel,qR,OkN.of_val]
     ·exact h.elim
  ·exact h.elim
 case makeSlice ty x y=>
  split at h
  ·rename_i elem hu
   split at h
   ·rename_i z es by_ hz hb
    cases hby:ble by_ 32768 with
    |false=>grind
    | true=>
      rw[hby,aD]at h;have ⟨n,h1,h⟩:=cB h;have ⟨m,h2,h3,h4⟩:=cB h;exact .of_val (Ud hu hz hb hby h1 h2 h3 (rel x (by simp[Op.operands])) (rel y (by simp[Op.operands])) hf h4)
   ·exact h.elim
  ·exact h.elim
 case mapUpdate ty m k x=>
  have rm:=rel m (by simp[Op.operands]);have rk:=rel k (by simp[Op.operands]);have rx:=rel x (by simp[Op.operands]);split at h
  ·rename_i kt et hu
   split at h
   ·rename_i ik hku
    have ⟨s',h1,h2⟩:=cB h
    grind [qP,OkN.skip]
   ·rename_i kd _ hku
    have ⟨s',h1,h2⟩:=cB h
    grind [qQ,OkN.skip]
   ·exact h.elim
  ·exact h.elim
 case range ty x=>
  split at h
  ·rename_i kt et hu
   exact .of_val (BI hu hf h (rel x (by simp[Op.operands])))
  ·exact h.elim
 case entry x=>have ⟨v,h1,h2⟩:=cB h;exact .det hf (BK hf h1 (rel x (by simp[Op.operands]))) h2
 case call c=>exact BT g hf hT hops h
end
def FR(r:Option Nat):Fence:={ Fence.wide with round:=r }
def setK(nt:Nat)(dst:Option Tmp)(env:Env)(v:AV)(K:Env->Prop):Prop:=match dst with
 |none=>K env
 |some d=>cond (blt d nt) (K (upd env d v)) False
abbrev Kn:=List (Nat×Option Bool)
def forget(kn:Kn):Option Tmp->Kn
 |none=>kn
 |some d=>kn.filter λp=>!beq p.1 d
def mark(kn:Kn):Option Tmp->Kn
 |none=>kn
 |some d=>(d,none)::forget kn (some d)
def known:Kn->Nat->Option (Option Bool)
 |[],_=>none
 |p::ps,d=>cond (beq p.1 d) (some p.2) (known ps d)
def jY(all:List Oper)(j:Nat):Option Nat:=match all[j]? with
 |some o=>o.dst
 |none=>none
def oQ(all:List Oper)(g:Option (Nat×Bool))(kn:Kn)(env:Env)(go skip:Kn->Prop):Prop:=match g with
 |none=>go kn
 | some (j,w)=>match jY all j with
   |none=>skip kn
   | some d=>match known kn d with
     |some (some b)=>cond (b == w) (go kn) (skip kn)
     |some none=>skip kn
     |none=>ao (env d) (cond w (go ((d,some true)::kn)) (skip ((d,some true)::kn))) (cond w (skip ((d,some false)::kn)) (go ((d,some false)::kn)))
def memN(i:Nat):List Nat->Bool
 |[]=>false
 |j::l=>cond (beq i j) true (memN i l)
def rest(s r:Hq):Hq:=λb=>if r b=none then s b else none
def frz(s:Hq):Hq:=λb=>match s b with
 |some (_,x)=>some (true,x)
 |none=>none
def opsE(P:ay)(nt:Nat)(all:List Oper):List Oper->Kn->Env->(Env->Hq->Prop)->Hq->Prop
 |[],_,env,K,s=>K env s
 |o::os,kn,env,K,s=>oQ all o.guard kn env
   (λkn=>wpOp P env (λv s=>setK nt o.dst env v λenv=>opsE P nt all os (forget kn o.dst) env K s) s o.op)
   (λkn=>setK nt o.dst env .undef λenv=>opsE P nt all os (mark kn o.dst) env K s)
section
variable {env:Env}
def knV:Option Bool->AV
 |some b=>b
 |none=>.undef
def KnOk(kn:Kn)(env:Env):Prop:=∀d b,known kn d=some b->env d=knV b
theorem BY:∀{kn:Kn}{d d':Nat}{b:Option Bool},known (kn.filter λp=>!beq p.1 d) d'=some b->d'≠d/\known kn d'=some b
 |[],_,_,_,h=>by cases h
 | p::ps,d,d',b,h=>by
   rw[filter_cons]at h
   by_cases hp:beq p.1 d=true
   ·rw[aj (by simp[hp])]at h
    have ⟨h1,h2⟩:=BY h;refine⟨h1,?_⟩;unfold known;have:beq p.1 d'=false:=by
     cases hq:beq p.1 d' with
     |false=>rfl
     |true=>simp_all
    rw[this];exact h2
   ·rw[ak (by simp[hp])]at h
    unfold known at h ⊢;cases hq:beq p.1 d' with
    | true=>
      grind
    |false=>rw[hq]at h;exact BY h
theorem KnOk.forget{kn:Kn}{env':Env}{dst:Option Tmp}(h:KnOk kn env)(he:∀d,dst≠some d->env' d=env d):KnOk (forget kn dst) env':=by
 intro d b hd;cases dst with
 |none=>rw[he d sI];exact h d b hd
 | some d0=>
   have ⟨h1,h2⟩:=BY hd;rw[he d (λe=>h1 (Option.some.inj e).symm)];exact h d b h2
theorem KnOk.cons{kn:Kn}{d:Nat}{b:Option Bool}(h:KnOk kn env)(he:env d=knV b):KnOk ((d,b)::kn) env:=by
 intro d' b' h';unfold known at h';cases hq:beq d d' with
 |true=>simp_all
 |false=>rw[hq]at h';exact h d' b' h'
theorem KnOk.mark{kn:Kn}{env':Env}{dst:Option Tmp}(h:KnOk kn env)(he:∀d,dst≠some d->env' d=env d)(hv:∀d,dst=some d->env' d=.undef):KnOk (mark kn dst) env':=by
 cases dst with
 |none=>exact h.forget (dst:=none) he
 |some d=>exact(h.forget he).cons (hv d rfl)
theorem KnOk.nil:KnOk [] env:=λ_ _ h=>by cases h
end
section
variable {P:ay} {ρ:Ren} {base nt:Nat} {s t:Hq} {w:am} {env:Env} {a:Act} {r:Option Nat}
theorem ga(a:Act)(dst:Option Tmp)(v:ai):(a.put dst v).defers=a.defers:=by cases dst<;>rfl
theorem ER.put{v:AV}{v':ai}{d:Nat}(h:ER ρ nt env a.tmps)(hd:blt d nt=true)(hv:Rel ρ v v'):ER ρ nt (upd env d v) (a.put (some d) v').tmps:=by
 have hd:d<nt:=by rwa [blt_eq]at hd
 refine⟨by simp[Act.put,h.size],λi=>?_⟩;have hlt:d<a.tmps.size:=by rw[h.size];exact hd
 unfold upd;simp only[Act.put];cases e:beq i d with
 | true=>
   simp_all
 | false=>
   have hne:d≠i:=λq=>by subst q;simp at e
   have:=h.at_ i
   simp_all
theorem BZ{dst:Option Tmp}{v:AV}{v':ai}{K:Env->Prop}(h:setK nt dst env v K)(hT:ER ρ nt env a.tmps)(hv:Rel ρ v v'):
  ∃env',K env'/\ER ρ nt env' (a.put dst v').tmps/\(∀d,dst≠some d->env' d=env d)/\∀d,dst=some d->env' d=v:=by
 cases dst with
 |none=>exact⟨env,h,hT,λ_ _=>rfl,λd e=>by cases e⟩
 | some d=>
   unfold setK at h;simp only at h;cases hd:blt d nt with
   |false=>grind
   | true=>
     rw[hd,aD]at h;refine⟨upd env d v,h,hT.put hd hv,λi hi=>?_,λi hi=>?_⟩
     ·unfold upd
      cases e:beq i d with
      |true=>simp_all
      |false=>rfl
     simp_all [upd]
theorem oR{ops:Array Oper}{j d:Nat}{v:AV}(hT:ER ρ nt env a.tmps)(hd:jY ops.toList j=some d)(he:env d=v):(∀b,v=.bool b->yielded ops a.tmps j=some b)/\(v=.undef->yielded ops a.tmps j=none):=by
 have hr:=hT.at_ d;rw[he]at hr;have hy:yielded ops a.tmps j=match a.tmps[d]? with|some (.bool b)=>some b|_=>none:=by
  unfold jY at hd;unfold yielded
  grind
 refine⟨λb hb=>?_,λhu=>?_⟩
 ·subst hb
  unfold Rel at hr;rw[Array.getD_eq_getD_getElem?]at hr;cases q:a.tmps[d]? with
  |none=>rw[q]at hr;simp[undef]at hr
  |some x=>grind
 ·subst hu
  have hr:Rel ρ (.tup []) _:=hr;unfold Rel at hr;have ⟨cs,e,_⟩:=hr;rw[Array.getD_eq_getD_getElem?]at e
  grind
theorem B0{ops:Array Oper}{o:Oper}{kn:Kn}{go skip:Kn->Prop}(hT:ER ρ nt env a.tmps)(hk:KnOk kn env)(h:oQ ops.toList o.guard kn env go skip):
  ∃kn',KnOk kn' env/\((Region.wanted o (yielded ops a.tmps)=true/\go kn')∨(Region.wanted o (yielded ops a.tmps)=false/\skip kn')):=by
 unfold oQ at h;unfold Region.wanted;split at h
 ·grind
 ·rename_i j want e
  rw[e];simp only;split at h
  ·rename_i hd
   have:yielded ops a.tmps j=none:=by
    unfold jY at hd;unfold yielded
    grind
   grind
  ·rename_i d hd
   split at h
   ·rename_i b hb
    rw[(oR hT hd (hk d (some b) hb)).1 b rfl]
    grind
   ·rename_i hb
    rw[(oR hT hd (hk d none hb)).2 rfl]
    grind
   ·unfold ao at h
    split at h
    ·rename_i he
     rw[(oR hT hd he).1 _ rfl];refine⟨_,hk.cons (b:=some true) he,?_⟩
     grind
    ·rename_i he
     rw[(oR hT hd he).1 _ rfl];refine⟨_,hk.cons (b:=some false) he,?_⟩
     grind
    ·exact h.elim
theorem jz{o:Oper}{r:Option Nat}{ρ':aP->ai}:∀f,o.about P w ρ'=some f->(FR r).fn f:=λ_ _=>trivial
theorem kU{o:Oper}{K:AV->Hq->Prop}{Q:Exit->Act->am->Prop}{KK:Act->am->Prop}(g:Grd P)(hf:Fit ρ base s t w)(hT:ER ρ nt env a.tmps)(ho:okOp o.op=true)(h:wpOp P env K s o.op)
  (hK:∀v v' ρ' s' w',K v s'->Stp ρ ρ' base s s' t w w'->Rel ρ' v v'->KK (a.put o.dst v') w'):o.wpIn (FR r) 0 P a w KK Q:=by
 have hnd:∀c,o.op≠.defer c:=λc e=>by rw[e]at h;exact h
 have ⟨nx,w1,e1,x4⟩:=BX g hf hT ho h;refine⟨jz,?_⟩;rw[Oper.semAt_eq _ _ _ hnd,e1];rcases x4 with⟨v,v',ρ',s',hn,st,hr,hk⟩|⟨rfl,f,args,args',rfl,ha,hc⟩|⟨rfl,l,L,args,args',hL,ha,hy,hc⟩
 ·rcases hn with rfl|⟨rfl,rfl⟩
  ·exact hK v v' ρ' s' w1 hk st hr
  ·exact hK v undef ρ' s' w1 hk st hr
 ·refine⟨λh=>by simp[FR,Fence.wide]at h,?_⟩
  have h5:=hc g ρ base t w1 args' hf ha;refine h5.mono ?_;rintro e w2 ⟨v,v',s',ρ',rfl,hr,st,hk⟩
  grind
 ·obtain⟨fn,tm,az,bo,rfl,hri⟩:=hc g ρ base t w1 args' L nx hf hL ha hy
  refine⟨λh=>by simp[FR,Fence.wide]at h,?_⟩;have h5:=hri;refine h5.mono ?_;rintro e w2 ⟨v,v',s',ρ',rfl,hr,st,hk⟩
  grind
theorem wV{ops:Array Oper}{K:Env->Hq->Prop}{Q:Exit->Act->am->Prop}(g:Grd P)(rest:List Nat):∀(os:List Oper) (k:Nat) (kn:Kn) (env:Env) (s:Hq) (ρ:Ren) (w:am) (a:Act),(∀j,j<os.length->os[j]?=ops[k+j]?)->
  (os.all λo=>okOp o.op)=true->KnOk kn env->opsE P nt ops.toList os kn env K s->Fit ρ base s t w->ER ρ nt env a.tmps->
  (∀env' s' ρ' a' w',K env' s'->(∀j,(∀o∈os,o.dst≠some j)->env' j=env j)->Stp ρ ρ' base s s' t w w'->ER ρ' nt env' a'.tmps->a'.defers=a.defers->wpOpsIn (FR r) 0 P ops Q rest a' w')->
  wpOpsIn (FR r) 0 P ops Q (range' k os.length++rest) a w
 | [],k,kn,env,s,ρ,w,a,_,_,_,h,hf,hT,hQ=>by
   exact hQ env s ρ a w h (λ_ _=>rfl) (.refl hf) hT rfl
 | o::os,k,kn,env,s,ρ,w,a,hk,ha,hkn,h,hf,hT,hQ=>by
   simp only[all_cons,Bool.and_eq_true]at ha;have h0:ops[k]?=some o:=by have:=hk 0 sI;simpa using this.symm
   have ⟨kn',hkn',hcase⟩:=B0 hT hkn h;simp only[length_cons,range'_succ,cons_append,wpOpsIn,h0];have next:∀(v:AV) (v':ai) (kn2:Kn) (s1:Hq) (ρ1:Ren) (w1:am),(∀env',(∀d,o.dst≠some d->env' d=env d)->(∀d,o.dst=some d->env' d=v)->KnOk kn2 env')->(setK nt o.dst env v λenv=>opsE P nt ops.toList os kn2 env K s1)->
     Stp ρ ρ1 base s s1 t w w1->Rel ρ1 v v'->wpOpsIn (FR r) 0 P ops Q (range' (k+1) os.length++rest) (a.put o.dst v') w1:=by
    intro v v' kn2 s1 ρ1 w1 hk2 hv st hrel;have ⟨env',e1,e2,e3,e4⟩:=BZ hv (hT.mono st.le) hrel;refine wV g rest os (k+1) kn2 env' s1 ρ1 w1 _ (λj hj=>by have:=hk (j+1) (by simpa using hj);grind) ha.2 (hk2 env' e3 e4) e1 st.fit e2 ?_;intro env2 s2 ρ2 a2 w2 k1 k3 k4 k5 k6;exact hQ env2 s2 ρ2 a2 w2 k1 (gR) (st.trans k4) k5 (k6.trans (ga _ _ _))
   rcases hcase with⟨hw,h⟩|⟨hw,h⟩
   ·rw[ak hw]
    exact kU g hf hT ha.1 h λv v' ρ1 s1 w1 hv st hrel=>next v v' _ s1 ρ1 w1 (λenv' e4 _=>hkn'.forget e4) hv st hrel
   ·rw[aj (by rw[hw];simp)]
    exact⟨jz,next .undef undef _ s ρ w (λenv' e4 e5=>hkn'.mark e4 e5) h (.refl hf) oH⟩
end
section
variable {P:ay} {env env':Env} {s s':Hq} {K K':AV→Hq→Prop}
def Vis(h S:Hq):Prop:=∀i e b,h i=some (e,b)->∃e',S i=some (e',b)
theorem Vis.refl(s:Hq):Vis s s:=λ_ e _ h=>⟨e,h⟩
theorem qW(hx:∀x,okX x=true->True):∀{l:List (Nat×Nat×aP)},(∀p∈l,evD env' p.2.2=evD env p.2.2)->evPl env' l=evPl env l
 |[],_=>rfl
 | (o,n,x)::l,h=>by
   simp only[evPl];rw[qW hx λp hp=>h p (by simp[hp]),h (o,n,x) sI]
theorem qX{place:Nat->Option (Nat×Nat)}:∀{ps:List (Nat×aP)}{l:List (Nat×Nat×aP)},places place ps=some l->∀p∈l,p.2.2∈ps.map (·.2)
 |[],l,h,p,hp=>by cases h;cases hp
 | (i,x)::ps,l,h,p,hp=>by
   unfold places at h;split at h<;>cases h
   rename_i off size l' h1 h2;rcases mCY hp with rfl|hp
   ·simp
   ·have:=qX h2 p hp;grind
theorem B4(hv:Vis s s'){n:Nat}{p:AV}{l:List AV}(h:rdN s n p=some l):rdN s' n p=some l:=by
 unfold rdN at h ⊢;split at h<;>try (cases h;done)
 split at h<;>try (cases h;done)
 rename_i hb;have ⟨e',q⟩:=hv _ _ _ hb;rw[q];exact h
theorem B5(hv:Vis s s'){p v:AV}(h:rd1 s p=some v):rd1 s' p=some v:=by
 unfold rd1 at h ⊢;split at h<;>try (cases h;done)
 split at h<;>try (cases h;done)
 rename_i hb;have ⟨e',q⟩:=hv _ _ _ hb;rw[q];exact h
theorem NL(hv:Vis s s'){t:ah}{p:AV}{K:AV->Prop}(h:gP P t p K s):∃v,K v/\∀K':AV->Prop,K' v->gP P t p K' s':=by
 unfold gP at h;split at h
 ·rename_i n e
  have ⟨l,h1,h2⟩:=cB h;exact⟨_,h2,λK' h=>by unfold gP;rw[e];simp only;rw[B4 hv h1];exact h⟩
 ·rename_i e
  have ⟨l,h1,h2⟩:=cB h;exact⟨_,h2,λK' h=>by unfold gP;rw[e];simp only;rw[B5 hv h1];exact h⟩
 ·exact h.elim
theorem NM(hv:Vis s s'){t:ah}{g:Nat}{K:AV->Prop}(h:gldK P t g K s):∃v,K v/\∀K':AV->Prop,K' v->gldK P t g K' s':=by
 unfold gldK at h;split at h
 ·rename_i n e
  have ⟨l,h1,h2⟩:=cB h;refine⟨_,h2,λK' h=>?_⟩;unfold gldK;rw[e];unfold gldN at h1 ⊢;split at h1<;>try (cases h1;done)
  rename_i hb;have ⟨e',q⟩:=hv _ _ _ hb;rw[q];simp only;rw[h1];exact h
 ·exact h.elim
theorem B6(hv:Vis s s'){m k:AV}{r:Option AV}(h:getM s m k=some r):getM s' m k=some r:=by
 unfold getM at h ⊢;split at h<;>try (cases h;done)
 split at h<;>try (cases h;done)
 ·exact h
 ·split at h<;>try (cases h;done)
  rename_i hb;have ⟨e',q⟩:=hv _ _ _ hb;simp only[q];exact h
theorem B8(hv:Vis s s'){kt:ah}{m k:AV}{r:Option AV}(h:getG P kt s m k=some r):getG P kt s' m k=some r:=by
 unfold getG at h ⊢;split at h<;>try (cases h;done)
 have ⟨h0,h⟩:=d6 h;rw[h0,aD];split at h<;>try (cases h;done)
 ·exact h
 ·split at h<;>try (cases h;done)
  rename_i hb;have ⟨e',q⟩:=hv _ _ _ hb;simp only[q];exact h
theorem B9(hv:Vis s s'){n es:Nat}{x v:AV}{lo hi mx:Option AV}(h:oL s n es x lo hi mx=some v):oL s' n es x lo hi mx=some v:=by
 unfold oL at h ⊢;split at h<;>try (cases h;done)
 split at h<;>try (cases h;done)
 rename_i hb;have ⟨e',q⟩:=hv _ _ _ hb;simp only[q];exact h
theorem Ca(hv:Vis s s'){x:AV}{n:Nat}(h:lenM s x=some n):lenM s' x=some n:=by
 unfold lenM at h ⊢;split at h<;>try (cases h;done)
 ·exact h
 ·split at h<;>try (cases h;done)
  rename_i hb;have ⟨e',q⟩:=hv _ _ _ hb;simp only[q];exact h
theorem Cb{x:Option aP}(h:∀y,x=some y->evD env' y=evD env y):oev env' x=oev env x:=by
 cases x with
 |none=>rfl
 |some y=>simp only[oev,h y rfl]
theorem gA{o:Option AV}(h:oK o (K · s)):∃v,K v s/\∀(K':AV->Hq->Prop) (s':Hq),K' v s'->oK o (K' · s'):=by have ⟨v,h1,h2⟩:=cB h;exact⟨v,h2,λK' s' h=>by rw[h1];exact h⟩
theorem Cc{o:Op}(hc:clsD P o<=1)(h:wpOp P env K s o):∃v,K v s/\∀(env':Env) (s':Hq) (K':AV->Hq->Prop),(∀x∈o.operands.toList,evD env' x=evD env x)->(clsD P o=0∨Vis s s')->K' v s'->wpOp P env' K' s' o:=by
 cases o<;>first|(exfalso;simp[clsD]at hc;done)|skip
 all_goals simp only[wpOp]at h
 case move x=>exact⟨_,h,λenv' s' K' hx _ hk=>by simp only[wpOp];rw[hx x (by simp[Op.operands])];exact hk⟩
 case assign x=>exact⟨_,h,λenv' s' K' hx _ hk=>by simp only[wpOp];rw[hx x (by simp[Op.operands])];exact hk⟩
 case pick c x y=>have ⟨v,h1,h2⟩:=gA h;exact⟨v,h1,λenv' s' K' hx _ hk=>by simp only[wpOp];rw[hx c (by simp[Op.operands]),hx x (by simp[Op.operands]),hx y (by simp[Op.operands])];exact h2 K' s' hk⟩
 case build t ps=>
  split at h
  ·rename_i z fields hz hu
   cases e0:(fields.toList.all λf=>(sz P f.type).isSome)with
   |false=>grind
   | true=>
     rw[e0,aD]at h;split at h
     ·rename_i l hl
      have ⟨cs,h1,h2⟩:=cB h;refine⟨_,h2,λenv' s' K' hx _ hk=>?_⟩;simp only[wpOp,hz,hu,e0,hl,aD];rw[qW (λ_ _=>trivial) λp hp=>hx _ (by simpa [Op.operands]using qX hl p hp),h1];exact hk
     ·exact h.elim
  ·rename_i z n elem hz hu
   split at h
   ·rename_i m hs
    split at h
    ·rename_i l hl
     have ⟨cs,h1,h2⟩:=cB h;refine⟨_,h2,λenv' s' K' hx _ hk=>?_⟩;simp only[wpOp,hz,hu,hs,hl];rw[qW (λ_ _=>trivial) λp hp=>hx _ (by simpa [Op.operands]using qX hl p hp),h1];exact hk
    ·exact h.elim
   ·exact h.elim
  ·exact h.elim
 case load t x=>
  by_cases hg:∃g,x=.global g
  ·obtain⟨g,rfl⟩:=hg
   have ⟨v,h1,h2⟩:=NM (Vis.refl s) h;refine⟨v,h1,λenv' s' K' hx hs hk=>?_⟩;rcases hs with hs|hs
   ·simp[clsD]at hs
   ·have ⟨v',h3,h4⟩:=NM (P:=P) hs (K:=(·=v)) (h2 (·=v) rfl)
    grind [wpOp]
  ·have h:gP P t (evD env x) (K · s) s:=gR
   have ⟨v,h1,h2⟩:=NL (Vis.refl s) h;refine⟨v,h1,λenv' s' K' hx hs hk=>?_⟩;rcases hs with hs|hs
   ·simp[clsD]at hs
   ·have ⟨v',h3,h4⟩:=NL (P:=P) hs (K:=(·=v)) (h2 (·=v) rfl)
    subst h3;have:=h4 (K' · s') hk;rw[<- hx x (by simp[Op.operands])]at this;cases x<;>first|exact this|grind
 case nilCheck x=>have ⟨v,h1,h2⟩:=gA h;exact⟨v,h1,λenv' s' K' hx _ hk=>by simp only[wpOp];rw[hx x (by simp[Op.operands])];exact h2 K' s' hk⟩
 case binOp op t x y t2=>
  have e1:∀{env':Env},(∀q∈(Op.binOp op t x y t2).operands.toList,evD env' q=evD env q)->evD env' x=evD env x/\evD env' y=evD env y:=λhx=>⟨hx x (by simp[Op.operands]),hx y (by simp[Op.operands])⟩
  have eq:∀neg,eqK P neg t (isC x||isC y) (evD env x) (evD env y) K s->∃v,K v s/\∀(K':AV->Hq->Prop) (s':Hq),K' v s'->eqK P neg t (isC x||isC y) (evD env x) (evD env y) K' s':=λneg h=>by
   unfold eqK at h ⊢;split at h
   ·rename_i d hu
    split at h
    ·exact gA h
    simp_all [gA]
   ·exact h.elim
  have fin:(∃v,K v s/\∀(K':AV->Hq->Prop) (s':Hq),K' v s'->wpOp P env K' s' (.binOp op t x y t2))->∃v,K v s/\∀(env':Env) (s':Hq) (K':AV->Hq->Prop),(∀q∈(Op.binOp op t x y t2).operands.toList,evD env' q=evD env q)->(clsD P (.binOp op t x y t2)=0∨Vis s s')->K' v s'->wpOp P env' K' s' (.binOp op t x y t2):=by
   rintro ⟨v,h1,h2⟩;refine⟨v,h1,λenv' s' K' hx _ hk=>?_⟩;have:=h2 K' s' hk
   grind [wpOp]
  refine fin ?_;cases op<;>first|exact gA h|exact eq _ h
 case unOp op t x=>have ⟨v,h1,h2⟩:=gA h;exact⟨v,h1,λenv' s' K' hx _ hk=>by simp only[wpOp];rw[hx x (by simp[Op.operands])];exact h2 K' s' hk⟩
 case convert p q x=>
  split at h
  ·rename_i k1 k2 e1 e2
   have ⟨v,h1,h2⟩:=gA h;exact⟨v,h1,λenv' s' K' hx _ hk=>by simp only[wpOp,e1,e2];rw[hx x (by simp[Op.operands])];exact h2 K' s' hk⟩
  ·rename_i e1 e2
   have ⟨v,h1,h2⟩:=gA h;exact⟨v,h1,λenv' s' K' hx _ hk=>by simp only[wpOp,e1,e2];rw[hx x (by simp[Op.operands])];exact h2 K' s' hk⟩
  ·exact h.elim
 case sliceToArrayPointer t x=>have ⟨v,h1,h2⟩:=gA h;exact⟨v,h1,λenv' s' K' hx _ hk=>by simp only[wpOp];rw[hx x (by simp[Op.operands])];exact h2 K' s' hk⟩
 case makeInterface t x=>
  split at h
  ·exact h.elim
  ·rename_i d hni hu
   refine⟨_,h,λenv' s' K' hx _ hk=>?_⟩;simp only[wpOp,hu];rw[hx x (by simp[Op.operands])];exact hk
  ·exact h.elim
 case makeFunc f fs cs=>
  have e1:∀{env':Env},(∀q∈(Op.makeFunc f fs cs).operands.toList,evD env' q=evD env q)->fs.toList.map (evD env')=fs.toList.map (evD env)/\cs.toList.map (evD env')=cs.toList.map (evD env):=λhx=>
   ⟨cK λq hq=>hx q (by simp only[Op.operands,Array.toList_append,cR];exact .inl hq),cK λq hq=>hx q (by simp only[Op.operands,Array.toList_append,cR];exact .inr hq)⟩
  grind [wpOp]
 case slice t x lo hi mx=>
  have e1:∀{env':Env},(∀q∈(Op.slice t x lo hi mx).operands.toList,evD env' q=evD env q)->evD env' x=evD env x/\oev env' lo=oev env lo/\oev env' hi=oev env hi/\oev env' mx=oev env mx:=λhx=>
   ⟨hx x (by simp[Op.operands]),Cb λy e=>hx y (by subst e;simp[Op.operands]),Cb λy e=>hx y (by subst e;simp[Op.operands]),Cb λy e=>hx y (by subst e;simp[Op.operands])⟩
  split at h
  ·rename_i elem hu
   split at h
   ·rename_i es hs
    have ⟨v,h1,h2⟩:=gA h;exact⟨v,h1,(by simp_all [wpOp])⟩
   ·exact h.elim
  ·rename_i n elem hu
   split at h
   ·rename_i es hs
    have ⟨v,h1,h2⟩:=cB h;refine⟨v,h2,λenv' s' K' hx hvs hk=>?_⟩;have ⟨q1,q2,q3,q4⟩:=e1 hx;simp only[wpOp,hu,hs,q1,q2,q3,q4];rcases hvs with hvs|hvs
    ·simp[clsD,hu]at hvs
    ·rw[B9 hvs h1];exact hk
   ·exact h.elim
  ·exact h.elim
 case fieldAddr t x f=>
  split at h
  ·rename_i k e
   have ⟨v,h1,h2⟩:=gA h;exact⟨v,h1,λenv' s' K' hx _ hk=>by simp only[wpOp,e];rw[hx x (by simp[Op.operands])];exact h2 K' s' hk⟩
  ·exact h.elim
 case field t x f=>
  split at h
  ·rename_i fields hu
   split at h
   ·rename_i fd hfd
    split at h
    ·rename_i g hg
     have ⟨v,h1,h2⟩:=gA h;exact⟨v,h1,λenv' s' K' hx _ hk=>by simp only[wpOp,hu,hfd,hg];rw[hx x (by simp[Op.operands])];exact h2 K' s' hk⟩
    ·exact h.elim
   ·exact h.elim
  ·exact h.elim
 case indexAddr t x i=>
  split at h
  ·rename_i len elem hu
   split at h
   ·rename_i n hs
    have ⟨v,h1,h2⟩:=gA h;exact⟨v,h1,λenv' s' K' hx _ hk=>by simp only[wpOp,hu,hs];rw[hx x (by simp[Op.operands]),hx i (by simp[Op.operands])];exact h2 K' s' hk⟩
   ·exact h.elim
  ·rename_i elem hu
   split at h
   ·rename_i n hs
    have ⟨v,h1,h2⟩:=gA h;exact⟨v,h1,λenv' s' K' hx _ hk=>by simp only[wpOp,hu,hs];rw[hx x (by simp[Op.operands]),hx i (by simp[Op.operands])];exact h2 K' s' hk⟩
   ·exact h.elim
  ·exact h.elim
 case index t x i=>
  split at h
  ·rename_i len elem hu
   split at h
   ·rename_i n g hs hg
    have ⟨v,h1,h2⟩:=gA h;exact⟨v,h1,λenv' s' K' hx _ hk=>by simp only[wpOp,hu,hs,hg];rw[hx x (by simp[Op.operands]),hx i (by simp[Op.operands])];exact h2 K' s' hk⟩
   ·exact h.elim
  ·rename_i hu
   have ⟨v,h1,h2⟩:=gA h;exact⟨v,h1,λenv' s' K' hx _ hk=>by simp only[wpOp,hu];rw[hx x (by simp[Op.operands]),hx i (by simp[Op.operands])];exact h2 K' s' hk⟩
  ·exact h.elim
 case lookup t x k ok=>
  split at h
  ·rename_i kt et hu
   split at h
   ·rename_i ik z hku hz
    have ⟨r,h1,h2⟩:=cB h;refine⟨_,h2,λenv' s' K' hx hvs hk=>?_⟩;simp only[wpOp,hu,hku,hz];rw[hx x (by simp[Op.operands]),hx k (by simp[Op.operands])];rcases hvs with hvs|hvs
    ·simp[clsD]at hvs
    ·rw[B6 hvs h1];exact hk
   ·rename_i kd z hni hku hz
    have ⟨r,h1,h2⟩:=cB h;refine⟨_,h2,λenv' s' K' hx hvs hk=>?_⟩;simp only[wpOp,hu,hz];rw[hx x (by simp[Op.operands]),hx k (by simp[Op.operands])];rcases hvs with hvs|hvs
    ·simp[clsD]at hvs
    ·rw[hku,B8 hvs h1]
     cases kd<;>first|exact hk|exact absurd rfl (hni _)
   ·exact h.elim
  ·exact h.elim
 case typeAssert x xt t ok=>
  split at h
  ·exact h.elim
  ·rename_i d hni hu
   have ⟨v,h1,h2⟩:=gA h;refine⟨v,h1,λenv' s' K' hx _ hk=>?_⟩;simp only[wpOp,hu];rw[hx x (by simp[Op.operands])]
   simp_all
  ·exact h.elim
 case extract x i=>have ⟨v,h1,h2⟩:=gA h;exact⟨v,h1,λenv' s' K' hx _ hk=>by simp only[wpOp];rw[hx x (by simp[Op.operands])];exact h2 K' s' hk⟩
 case call c=>
  simp only[clsD]at hc;cases hcal:c.callee with
  | builtin b=>
    simp only[hcal]at h hc;have e1:∀{env':Env},(∀q∈(Op.call c).operands.toList,evD env' q=evD env q)->c.args.toList.map (evD env')=c.args.toList.map (evD env):=λhx=>
     cK λq hq=>hx q (by simp only[Op.operands];unfold Call.operands;grind)
    have fin:(∃v,K v s/\∀(s':Hq) (K':AV->Hq->Prop),(clsD P (.call c)=0∨Vis s s')->K' v s'->lR P b c.argTypes.toList (c.args.toList.map (evD env)) K' s')->∃v,K v s/\∀(env':Env) (s':Hq) (K':AV->Hq->Prop),(∀q∈(Op.call c).operands.toList,evD env' q=evD env q)->(clsD P (.call c)=0∨Vis s s')->K' v s'->wpOp P env' K' s' (.call c):=by
     grind [wpOp]
    refine fin ?_;generalize c.args.toList.map (evD env)=args at h ⊢;have hcl:clsD P (.call c)=clsD P (.call c):=rfl
    conv at hcl=>rhs;simp only[clsD,hcal]
    generalize c.argTypes.toList=ts at h hc hcl ⊢;unfold lR at h;split at h
    ·simp at hc
    ·rename_i ty' ts' x
     split at h
     ·rename_i kt et hu
      have ⟨n,h1,h2⟩:=cB h;refine⟨_,h2,λs' K' hvs hk=>?_⟩;simp only[lR,hu];rcases hvs with hvs|hvs
      ·grind
      ·rw[Ca hvs h1];exact hk
     ·rename_i d hni hu
      have ⟨n,h1,h2⟩:=cB h;refine⟨_,h2,λs' K' _ hk=>?_⟩;simp only[lR,hu];cases d<;>first|(rw[h1];exact hk)|exact absurd rfl (hni _ _)
     ·exact h.elim
    ·simp at hc
    ·have ⟨v,h1,h2⟩:=gA h
     exact⟨v,h1,λs' K' _ hk=>h2 K' s' hk⟩
    ·have ⟨v,h1,h2⟩:=gA h
     exact⟨v,h1,λs' K' _ hk=>h2 K' s' hk⟩
    ·exact h.elim
  |_=>simp[hcal]at hc
end
def oS(acc:List Nat)(s:Nat)(e:Edge):Nat:=cond (Region.binds .any e) (s |||(2^e.on |||acc.getD e.on 0)) s
theorem qY(acc:List Nat):∀(l:List Edge) (s i:Nat),Nat.testBit (l.foldl (oS acc) s) i=true->Nat.testBit s i=true∨∃e∈l,Region.binds .any e=true/\(e.on=i∨Nat.testBit (acc.getD e.on 0) i=true)
 |[],s,i,h=>.inl h
 | e::l,s,i,h=>by
   rcases qY acc l _ i h with h|⟨e',he,hb⟩;unfold oS at h;rcases hb:Region.binds .any e with _|_;rw[hb]at h;exact .inl h;rw[hb]at h;simp only[aD,testBit_or,Bool.or_eq_true]at h;rcases h with h|h|h;exact .inl h;refine .inr ⟨e,sI,hb,.inl ?_⟩;rw[testBit_two_pow]at h;simpa using h;exact .inr ⟨e,sI,hb,.inr h⟩
   grind
theorem NN:∀(os:List Oper) (acc:List Nat),∃L:List Nat,masks os acc=acc++L/\L.length=os.length/\
  ∀j o,os[j]?=some o->∃pre:List Nat,(∀k,k<acc.length+j->pre[k]?=(acc++L)[k]?)/\pre.length=acc.length+j/\L[j]?=some (o.after.toList.foldl (oS pre) 0):=by
 intro os
 induction os with
 |nil=>simp_all [masks]
 | cons o os ih=>
   intro acc;have ⟨L,h1,h2,h3⟩:=ih (acc ++ [o.after.toList.foldl (oS acc) 0]);refine⟨o.after.toList.foldl (oS acc) 0::L,?_,by simp[h2],λj q hq=>?_⟩;show masks os (acc ++ [_])=_;rw[show(acc ++ [o.after.toList.foldl (λs e=>cond (Region.binds .any e) (s |||(2^e.on |||acc.getD e.on 0)) s) 0])=acc ++ [o.after.toList.foldl (oS acc) 0]from rfl,h1];simp
   ·cases j with
    | zero=>
      grind
    | succ j=>
      simp at hq;have ⟨pre,p1,p2,p3⟩:=h3 j q hq;refine⟨pre,λk hk=>?_,by rw[p2];simp;omega,by simpa using p3⟩
      grind
theorem Un{ops:Array Oper}(hb:∀(j:Nat) (o:Oper),ops[j]?=some o->∀e∈o.after,Region.binds .any e=true->e.on<j)(X:Nat->Prop)
  (hX:∀(j:Nat) (o:Oper),ops[j]?=some o->X j->∀e∈o.after,Region.binds .any e=true->X e.on) :
  ∀(j:Nat) (o:Oper) (mk i:Nat),ops[j]?=some o->(masks ops.toList [])[j]?=some mk->Nat.testBit mk i=true->(∀e∈o.after,Region.binds .any e=true->X e.on)->X i:=by
 have ⟨L,h1,h2,h3⟩:=NN ops.toList [];rw[h1];simp only[nil_append]at h3 ⊢;intro j
 induction j using Nat.strongRecOn with
 | _ j ih=>
   intro o mk i ho hmk hbit hready;have ⟨pre,p1,p2,p3⟩:=h3 j o gR;rw[p3]at hmk;cases hmk;rcases qY pre _ _ _ hbit with h|⟨e,he,hbe,h⟩;simp at h;have he':e∈o.after:=Array.mem_def.2 he;rcases h with rfl|h;exact hready e he' hbe;have hlt:=hb j o ho e he' hbe;have hXe:=hready e he' hbe;have hge:e.on<ops.size:=gR;have hoe:ops[e.on]?=some ops[e.on]:=Array.getElem?_eq_getElem hge;have hm:L[e.on]?=some (pre.getD e.on 0):=by
    rw[<- p1 e.on (by simp at p2 ⊢;omega)];have:e.on<pre.length:=by simp at p2;omega
    grind
   exact ih e.on hlt _ _ i hoe hm h (hX e.on _ hoe hXe)
theorem NO:∀(l:List Oper) (i:Nat),pW l i=true->∀j o,l[j]?=some o->∀e∈o.after,Region.binds .any e=true->e.on<i+j
 |[],_,_,j,o,h=>by simp at h
 | p::l,i,h,j,o,ho=>by
   simp only[pW,Bool.and_eq_true]at h;cases j with
   | zero=>
     simp at ho;subst ho;intro e he hb;have:=bU.1 h.1 e (Array.mem_def.1 he)
     simp_all
   | succ j=>
     simp at ho;intro e he hb;have:=NO l (i+1) h.2 j o ho e he hb;omega
def Closed(ops:Array Oper)(X:Nat->Prop):Prop:=∀(j:Nat) (o:Oper),ops[j]?=some o->X j->∀e∈o.after,Region.binds .any e=true->X e.on
def cntF:List Bool->Nat
 |[]=>0
 |b::l=>(if b then 0 else 1)+cntF l
theorem NP:∀(l:List Bool) (i:Nat),l[i]?=some false->cntF (l.set i true)+1=cntF l
 |[],i,h=>by simp at h
 |b::l,0,h=>by grind [cntF]
 |b::l,i+1,h=>by simp at h;have:=NP l i h;grind [cntF]
theorem NQ:∀(l:List Bool),cntF l=0->∀i:Nat,l[i]?≠some false
 |[],_,i=>sI
 | b::l,h,i=>by
   simp only[cntF]at h;cases b with
   |false=>simp at h
   | true=>
     cases i with
     |zero=>simp
     |succ i=>simpa using NQ l (by simpa using h) i
theorem Uo(n:Nat):cntF (replicate n false)=n:=by
 induction n with
 |zero=>rfl
 |succ n ih=>grind [cntF]
def Done(listed:Array Bool):Nat->Prop:=λi=>listed.getD i true=true
theorem NR{listed:Array Bool}{j:Nat}(h:listed.getD j true=false):Done (listed.setIfInBounds j true)=λi=>i=j∨Done listed i:=by
 funext i
 apply propext;unfold Done
 by_cases e:j=i
 simp_all
 rw[getD_set_ne true e]
 grind
theorem undone{listed:Array Bool}{j:Nat}(h:listed.getD j true=false):listed.toList[j]?=some false:=by
 rcases Nat.lt_or_ge j listed.size with h'|h'
 simp_all
 grind
theorem Uq{listed:Array Bool}{j:Nat}(h:listed.getD j false=true):Done listed j:=by
 grind [Done]
theorem Ur{l:List Oper}(h:pX l=true):pW l 0=true/\∀o∈l,∀c,o.op≠.defer c:=by
 grind [pX]
section
variable {P:ay} {r:Option Nat}
theorem Cd{id:Nat}{ops:Array Oper}{Q:Exit->Act->am->Prop}(hm:P.follows .mixedOrders=true)(hrg:pX ops.toList=true)(I:(Nat->Prop)->Act->am->Prop)
  (step:∀(X:Nat->Prop) a w j o (KK:Act->am->Prop),I X a w->Closed ops X->ops[j]?=some o->¬X j->(∀i,Nat.testBit ((masks ops.toList []).getD j 0) i=true->X i)->(∀a' w',I (λi=>i=j∨X i) a' w'->KK a' w')->wpOpIn (FR r) 0 P ops Q j KK a w)
  (fin:∀(X:Nat->Prop) a w,(∀i,i<ops.size->X i)->I X a w->Q .normal a w) {a:Act}{w:am}(h:I (λ_=>False) a { w with drawn:=w.drawn+1 }) (hcg:∀X Y a w,(∀i,i<ops.size->(X i↔Y i))->I X a w->I Y a w):(Code.region id ops true).wpIn (FR r) 0 P Q a w:=by
 refine wpIn_region_any hm ?_;have ⟨hback,_⟩:=Ur hrg;have back:∀(j:Nat) (o:Oper),ops[j]?=some o->∀e∈o.after,Region.binds .any e=true->e.on<j:=λj o ho e he hb=>by have:=NO ops.toList 0 hback j o gR e he hb;omega
 have ⟨L,l1,l2,_⟩:=NN ops.toList [];have ready:∀(listed:Array Bool),listed.size=ops.size->Region.ready .any ops listed=[]->∀i,i<ops.size->Done listed i:=by
  intro listed hs hnil i
  induction i using Nat.strongRecOn with
  | _ i ih2=>
    intro hi;unfold Done;rcases hg:listed.getD i true with _|_
    ·exfalso
     have ho:ops[i]?=some ops[i]:=Array.getElem?_eq_getElem hi;have:i∈Region.ready .any ops listed:=mem_ready.2 (by grind [Done])
     grind
    ·rfl
 have main:∀(fuel:Nat) (listed:Array Bool) (a:Act) (w:am),listed.size=ops.size->cntF listed.toList<=fuel->Closed ops (Done listed)->I (Done listed) a w->wpAnyIn (FR r) 0 P .any ops Q fuel listed a w:=by
  intro fuel
  induction fuel with
  | zero=>
    intro listed a w hs hcnt hc hi;have hall:∀i,i<ops.size->Done listed i:=by
     intro i _;unfold Done;rcases hg:listed.getD i true with _|_
     ·exact absurd (undone hg) (NQ _ oM i)
     ·rfl
    refine⟨?_,fin _ _ _ hall hi⟩;rcases hrd:Region.ready .any ops listed with _|⟨x,xs⟩
    ·rfl
    ·exfalso
     have hx:x∈Region.ready .any ops listed:=by rw[hrd];simp
     have ⟨h1,o,ho,_⟩:=mem_ready.1 hx
     grind [Done]
  | succ fuel ih2=>
    intro listed a w hs hcnt hc hi;refine⟨λhnil=>fin _ _ _ (ready listed hs hnil) hi,λj hj=>?_⟩;have ⟨hjun,o,ho,hall⟩:=mem_ready.1 hj;have hjx:¬Done listed j:=by grind [Done]
    have hrdy:∀e∈o.after,Region.binds .any e=true->Done listed e.on:=by grind [Uq]
    refine step _ _ _ j o _ hi hc ho hjx (λi hb=>?_) λa' w' hi'=>?_
    ·have hlen:(masks ops.toList []).length=ops.size:=by rw[l1];simp[l2]
     have hjl:=(Array.getElem?_eq_some_iff.1 ho).1;have hmm:(masks ops.toList [])[j]?=some ((masks ops.toList []).getD j 0):=gR;exact Un back (Done listed) hc j o _ i ho hmm hb hrdy
    ·rw[<- NR hjun]at hi'
     refine ih2 _ a' w' (by simp[hs]) ?_ ?_ hi'
     ·have:=NP _ _ (undone hjun)
      grind
     ·rw[NR hjun]
      intro i p hp hi e he hb;rcases hi with rfl|hi
      ·grind
      ·exact .inr (hc i p hp hi e he hb)
 have hno:∀i,i<ops.size->¬Done (Array.replicate ops.size false) i:=by intro i hi;unfold Done;simp[hi]
 refine main ops.size _ a _ sI (by simp[Uo]) (λi o ho hi=>?_) (gR)
 grind
end
section
variable {P:ay} {env env':Env} {s s':Hq} {K:AV→Hq→Prop}
theorem Ce{o:Op}(hx:∀x∈o.operands.toList,evD env' x=evD env x)(h:wpOp P env K s o):wpOp P env' K s o:=by
 by_cases hc:clsD P o<=1
 ·grind [Cc,Vis.refl]
 cases o<;>first|(exfalso;simp[clsD]at hc;done)|skip
 all_goals simp only[wpOp]at h
 all_goals try (exact h.elim)
 case alloc t=>simp only[wpOp];exact h
 case box t x=>simp only[wpOp];rw[hx x (by simp[Op.operands])];exact h
 case buildSlice t n ps=>
  simp only[wpOp];split at h
  ·split at h
   ·cases e:ble (n*_) 16777216 with
    |false=>rw[e]at h;exact h.elim
    | true=>
      rw[e,aD]at h;rw[aD];split at h
      ·rename_i l hl
       rw[qW (λ_ _=>trivial) λp hp=>hx _ (by simpa [Op.operands]using qX hl p hp)];exact h
      ·exact h.elim
   ·exact h.elim
  ·exact h.elim
 case insert t m k x=>simp only[wpOp];rw[hx m (by simp[Op.operands]),hx k (by simp[Op.operands]),hx x (by simp[Op.operands])];exact h
 case store t p x=>simp only[wpOp];rw[hx p (by simp[Op.operands]),hx x (by simp[Op.operands])];exact h
 case makeMap t r=>
  cases r with
  |none=>simp only[wpOp];exact h
  |some x=>simp only[wpOp];rw[hx x (by simp[Op.operands])];exact h
 case makeSlice t x y=>simp only[wpOp];rw[hx x (by simp[Op.operands]),hx y (by simp[Op.operands])];exact h
 case slice=>exact(hc (by show clsD P (.slice _ _ _ _ _)<=1;simp only[clsD];split<;>omega)).elim
 case mapUpdate t m k x=>simp only[wpOp];rw[hx m (by simp[Op.operands]),hx k (by simp[Op.operands]),hx x (by simp[Op.operands])];exact h
 case range t x=>simp only[wpOp];rw[hx x (by simp[Op.operands])];exact h
 case entry x=>simp only[wpOp];rw[hx x (by simp[Op.operands])];exact h
 case call c=>
  have e1:c.args.toList.map (evD env')=c.args.toList.map (evD env):=cK λq hq=>hx q (by simp only[Op.operands];unfold Call.operands;grind);simp only[wpOp];rw[e1];cases hc:c.callee with
  |builtin b=>rw[hc]at h;exact h
  |invoke r name=>rw[hc]at h;simp only at h ⊢;rw[hx r (by simp[Op.operands,Call.operands,hc])];exact h
  | value f=>
    rw[hc]at h;simp only at h ⊢;have e2:=hx f (by simp[Op.operands,Call.operands,hc]);cases f with
    |func k=>exact h
    |_=>simp only at h ⊢;rw[e2];exact h
end
def ir(all:List Oper)(g:Option (Nat×Bool))(env:Env):Bool:=match g with
 |none=>true
 | some (j,w)=>match jY all j with
   |none=>false
   | some d=>match env d with
     | .bool b=>b == w
     |_=>false
def GV(all:List Oper)(g:Option (Nat×Bool))(env:Env):Prop:=∀j w d,g=some (j,w)->jY all j=some d->(∃b,env d=.bool b)∨env d=.undef
section
variable {P:ay} {ρ ρ':Ren} {base nt:Nat} {s s' t h:Hq} {w:am} {env env':Env} {a:Act} {r:Option Nat} {ops:Array Oper} {o:Oper}
theorem Cf{all:List Oper}{g:Option (Nat×Bool)}{kn:Kn}{go skip:Kn->Prop}(hk:KnOk kn env)(h:oQ all g kn env go skip):
  GV all g env/\∃kn',KnOk kn' env/\((ir all g env=true/\go kn')∨(ir all g env=false/\skip kn')):=by
 unfold oQ at h;split at h
 ·exact⟨(λ_ _ _ e=>nomatch e),kn,hk,.inl ⟨rfl,h⟩⟩
 ·rename_i j want
  split at h
  ·rename_i hd
   refine⟨(λj' w' d e hd'=>by cases e;rw[hd]at hd';cases hd'),kn,hk,.inr ⟨by simp only[ir,hd],h⟩⟩
  ·rename_i d hd
   have hw:∀b,env d=.bool b->ir all (some (j,want)) env=(b == want):=(by grind [ir])
   have hu:env d=.undef->ir all (some (j,want)) env=false:=(by grind [ir,AV.undef])
   have gv:((∃b,env d=.bool b)∨env d=.undef)->GV all (some (j,want)) env:=λk j' w' d' e hd'=>by cases e;rw[hd]at hd';cases hd';exact k
   split at h
   ·rename_i b hb
    have e:env d=b:=hk d (some b) hb
    grind
   ·rename_i hb
    have e:env d=.undef:=hk d none hb
    grind
   ·unfold ao at h
    split at h
    ·rename_i he
     refine⟨gv (.inl ⟨_,he⟩),_,hk.cons (b:=some true) he,?_⟩
     grind
    ·rename_i he
     refine⟨gv (.inl ⟨_,he⟩),_,hk.cons (b:=some false) he,?_⟩
     grind
    ·exact h.elim
theorem NS(hT:ER ρ nt env a.tmps)(hg:GV ops.toList o.guard env):Region.wanted o (yielded ops a.tmps)=ir ops.toList o.guard env:=by
 unfold Region.wanted ir;cases e:o.guard with
 |none=>rfl
 | some p=>
   have ⟨j,want⟩:=p;simp only;cases hd:jY ops.toList j with
   | none=>
     have:yielded ops a.tmps j=none:=by
      unfold jY at hd;unfold yielded
      grind
     rw[this];rfl
   | some d=>
     simp only;rcases hg j want d e hd with⟨b,hb⟩|hb
     ·rw[(oR hT hd hb).1 b rfl,hb];grind
     ·rw[(oR hT hd hb).2 rfl,hb];rfl
def Ag(ops:Array Oper)(o:Oper)(env env':Env):Prop:=∀x∈o.looksAt ops,env' x=env x
theorem Ag.opd(h:Ag ops o env env'):∀x∈o.op.operands.toList,evD env' x=evD env x:=λx hx=>by
 cases x with
 |tmp t=>exact h t (dV _ (jy.2 ⟨.tmp t,by simpa using hx,rfl⟩))
 |_=>rfl
theorem Ag.slot(h:Ag ops o env env'){j:Nat}{w:Bool}{d:Nat}(e:o.guard=some (j,w))(hd:jY ops.toList j=some d):env' d=env d:=by
 refine h d (dN _ ?_)
 grind [jY]
theorem Ag.want(h:Ag ops o env env'):ir ops.toList o.guard env'=ir ops.toList o.guard env:=by
 unfold ir
 grind [slot]
theorem Ag.gv(h:Ag ops o env env')(hg:GV ops.toList o.guard env):GV ops.toList o.guard env':=λj w d e hd=>by rw[h.slot e hd];exact hg j w d e hd
theorem Ag.symm(h:Ag ops o env env'):Ag ops o env' env:=λx hx=>(h x hx).symm
theorem Ag.trans{env2:Env}(h:Ag ops o env env')(k:Ag ops o env' env2):Ag ops o env env2:=λx hx=>(k x hx).trans (h x hx)
def SF(P:ay)(ops:Array Oper)(nt:Nat)(h:Hq)(o:Oper)(env:Env)(v:AV):Prop:=GV ops.toList o.guard env/\(∀d,o.dst=some d->blt d nt=true)/\okOp o.op=true/\
 ((ir ops.toList o.guard env=true/\((clsD P o.op<=1/\∀s',(clsD P o.op=0∨Vis h s')->wpOp P env (λv' _=>v'=v) s' o.op)∨(clsD P o.op≠0/\wpOp P env (λv' _=>v'=v) (frz h) o.op)))∨(ir ops.toList o.guard env=false/\v=.undef))
theorem SF.ag{v:AV}(hs:SF P ops nt h o env v)(k:Ag ops o env env'):SF P ops nt h o env' v:=by
 have ⟨h1,h2,h3,h4⟩:=hs;refine⟨k.gv h1,h2,h3,?_⟩;rw[k.want];rcases h4 with⟨h5,h6⟩|h4
 ·refine .inl ⟨h5,?_⟩
  rcases h6 with⟨h7,h8⟩|⟨h7,h8⟩
  ·exact .inl ⟨h7,λs' hv=>Ce k.opd (h8 s' hv)⟩
  grind [Ce,Ag.opd]
 ·exact .inr h4
theorem Cg(h:Hq):Vis h (frz h):=λi e b hi=>⟨true,by unfold frz;rw[hi]⟩
theorem Fit.look(hf:Fit ρ base s t w)(hv:Vis h (add t s)):Fit ρ base (frz h) (add t s) w:=by
 have e:∀i x,frz h i=some x->∃e',add t s i=some (e',x.2)/\x.1=true:=λi x hx=>by
  unfold frz at hx;split at hx
  ·rename_i e b hb;cases hx;have ⟨e',q⟩:=hv _ _ _ hb;exact⟨e',q,rfl⟩
  ·cases hx
 have e1:add (add t s) (frz h)=add t s:=by
  grind [add,frz]
 refine⟨by rw[e1];exact hf.wr,λi x hx=>?_⟩;cases q:frz h i with
 |none=>exact .inl rfl
 | some y=>
   grind
theorem SF.run{v:AV}{KK:Act->am->Prop}{Q:Exit->Act->am->Prop}(g:Grd P)(hs:SF P ops nt h o env v)(hf:Fit ρ base s t w)(hv:clsD P o.op≠0->Vis h (add t s))(hT:ER ρ nt env a.tmps)
  (next:∀v' ρ' w',Le ρ ρ'->Below base w w'->Fit ρ' base s t w'->Rel ρ' v v'->KK (a.put o.dst v') w') :
  if Region.wanted o (yielded ops a.tmps)then o.wpIn (FR r) 0 P a w KK Q else(∀f,o.about P w a.eval=some f->(FR r).fn f)/\KK (a.put o.dst undef) w:=by
 have ⟨h1,h2,h3,h4⟩:=hs;rw[NS hT h1];rcases h4 with⟨h5,h6⟩|⟨h5,h6⟩
 ·rw[h5,ak rfl]
  rcases h6 with⟨h7,h8⟩|⟨h7,h8⟩
  ·have det:∀s' t',Fit ρ base s' t' w->wpOp P env (λv' _=>v'=v) s' o.op->o.wpIn (FR r) 0 P a w KK Q:=λs' t' hf' hw=>by
    obtain⟨v1,v',e,hr,rfl⟩:=qV h7 hf' hT h3 hw;have hnd:∀c,o.op≠.defer c:=λc e=>by rw[e]at h7;exact absurd h7 (by simp[clsD])
    refine⟨jz,?_⟩;rw[Oper.semAt_eq _ _ _ hnd,e];exact next v' ρ w (.refl _) (.refl _ _) hf hr
   by_cases h0:clsD P o.op=0
   ·grind
   ·exact det _ _ (hf.look (hv h0)) (h8 _ (.inr (Cg h)))
  ·refine kU g (hf.look (hv h7)) hT h3 h8 λv1 v' ρ' s' w' e st hr=>?_
   subst e;refine next v' ρ' w' st.le st.below ⟨st.fit.wr.sub λi e hi=>cU hi,hf.fr⟩ hr
 ·rw[h5,aj sI]
  subst h6;exact⟨jz,next undef ρ w (.refl _) (.refl _ _) hf oH⟩
end
structure Plan where
 S:List Nat
 M:List Nat
 N:List Nat
 T:List Nat
def gH(ops:List Oper):List Nat->List Oper
 |[]=>[]
 | i::l=>match ops[i]? with
   |some o=>o::gH ops l
   |none=>gH ops l
abbrev NewD:=Option Tmp×ah×List AV×(Nat->AV)
section
variable (P : ay) (nt : Nat)
def mQ(env:Env)(o:Op)(K:ah->List AV->(Nat->AV)->Prop):Prop:=match o with
 | .alloc t=>match zcells P t with
   |some z=>K t z (λb=>Pp b)
   |none=>False
 | .box t x=>aX (evD env x).cells=true/\K t (evD env x).cells (λb=>Pp b)
 | .buildSlice t len ps=>match P.underlying t with
   | some (.slice elem)=>match zelem P elem with
     | some (z,es)=>cond (ble (len*es) 16777216) (match places (λi=>some (i*es,es)) ps.toList with
       |some l=>oK (aM (repl len z) (evPl env l)) λcs=>aX cs=true/\K elem cs (λb=>.slc b 0 len (some len) es)
       |none=>False) False
     |none=>False
   |_=>False
 |_=>False
def evS(all:List Oper)(h:Hq):List Oper->Kn->Env->(Env->Prop)->Prop
 |[],_,env,K=>K env
 |o::os,kn,env,K=>oQ all o.guard kn env
   (λkn=>cond (ble (clsD P o.op) 1) (wpOp P env (λv _=>setK nt o.dst env v λenv=>evS all h os (forget kn o.dst) env K) h o.op)
    (∃v,wpOp P env (λv' _=>v'=v) (frz h) o.op/\setK nt o.dst env v λenv=>evS all h os (forget kn o.dst) env K))
   (λkn=>setK nt o.dst env .undef λenv=>evS all h os (mark kn o.dst) env K)
def evC(env:Env):List Oper->(List NewD->Prop)->Prop
 |[],K=>K []
 |o::os,K=>mQ P env o.op λel cs f=>evC env os λl=>K ((o.dst,el,cs,f)::l)
def evN:List NewD->Env->(Env->Hq->Prop)->Hq->Prop
 |[],env,K,s=>K env s
 |(d,el,cs,f)::l,env,K,s=>newK el cs (λb s=>setK nt d env (f b) λenv=>evN l env K s) s
def kV(all:List Oper)(p:Plan)(h sM:Hq)(un:Hq->Hq)(env:Env)(K:Env->Hq->Prop):Prop:=
 evS P nt all h (gH all p.S) [] env λenv1=>evC P env1 (gH all p.N) λns=>opsE P nt all (gH all p.M) [] env1 (λenv2 s2=>evN nt ns env2 (λenv3 s3=>opsE P nt all (gH all p.T) [] env3 K s3) (un s2)) sM
end
def bf(ops:Array Oper)(i j:Nat):Prop:=Nat.testBit ((masks ops.toList []).getD j 0) i=true
def Ow(ops:Array Oper)(i:Nat):Prop:=∃(j:Nat) (x y:Oper) (d:Nat),ops[i]?=some x/\ops[j]?=some y/\x.dst=some d/\d∈y.looksAt ops/\¬bf ops i j
def Nz(P:ay)(ops:Array Oper)(i:Nat):Prop:=∃o,ops[i]?=some o/\(clsD P o.op≠0∨Ow ops i)
def Mv(P:ay)(ops:Array Oper)(i:Nat):Prop:=∃o,ops[i]?=some o/\(1<clsD P o.op∨Ow ops i)
def chOf(late:Bool)(p:Plan):List Nat:=cond late p.M (p.S++p.M)
structure DrOK(P:ay)(ops:Array Oper)(p:Plan)(lk late:Bool):Prop where
 rg:pX ops.toList=true
 ok:∀(j:Nat) (o:Oper),ops[j]?=some o->okOp o.op=true
 cov:∀j,j<ops.size->j∈p.S∨j∈p.M∨j∈p.N∨j∈p.T
 nd:(p.S++(p.M++(p.N++p.T))).Nodup
 lt:∀j∈p.S++(p.M++(p.N++p.T)),j<ops.size
 dst:∀(i j:Nat) (x y:Oper) (d:Nat),ops[i]?=some x->ops[j]?=some y->x.dst=some d->(i≠j->y.dst≠some d)/\(d∈y.looksAt ops->i≠j/\(bf ops i j∨bf ops j i))
 oSN:∀i∈p.S++p.N,¬Ow ops i
 lS:∀l1 j l2,p.S=l1++j::l2->∀i,i<ops.size->bf ops i j->i∈l1
 lM:∀l1 j l2,p.M=l1++j::l2->(∀i,i<ops.size->bf ops i j->i∈p.S∨i∈l1)/\∀m∈l1,Nz P ops m->(Mv P ops m∨Mv P ops j)->bf ops m j
 lN:∀n∈p.N,(∀o,ops[n]?=some o->o.guard=none/\clsD P o.op=2)/\∀i,i<ops.size->bf ops i n->i∈p.S
 lT:∀l1 j l2,p.T=l1++j::l2->(∀i,i<ops.size->bf ops i j->i∈p.S∨i∈p.M∨i∈p.N∨i∈l1)/\(∀m∈chOf late p++l1,Nz P ops m->(Mv P ops m∨Mv P ops j)->bf ops m j)/\∀n∈p.N,bf ops n j
 lk:lk=false->∀m∈p.M,Mv P ops m->∀i∈p.S,Nz P ops i->bf ops i m
section
variable {P:ay} {nt:Nat} {ops:Array Oper} {h:Hq} {env:Env}
theorem wW{i:Nat}{l:List Nat}(hi:i<ops.size):gH ops.toList (i::l)=ops[i]::gH ops.toList l:=by
 grind [gH]
theorem wX{dst:Option Tmp}{v:AV}{K:Env->Prop}(h:setK nt dst env v K):∃env',K env'/\(∀d,dst≠some d->env' d=env d)/\∀d,dst=some d->env' d=v/\blt d nt=true:=by
 cases dst with
 |none=>exact⟨env,h,λ_ _=>rfl,λd e=>by cases e⟩
 | some d=>
   unfold setK at h;simp only at h;cases hd:blt d nt with
   |false=>grind
   | true=>
     rw[hd,aD]at h;refine⟨upd env d v,h,λi hi=>?_,λi hi=>?_⟩
     ·unfold upd
      cases e:beq i d with
      |true=>simp_all
      |false=>rfl
     simp_all [upd]
def Apart(ops:Array Oper)(l:List Nat):Prop:=l.Nodup/\(∀i∈l,i<ops.size)/\(∀i∈l,∀j∈l,i≠j->∀x y d,ops[i]?=some x->ops[j]?=some y->x.dst=some d->y.dst≠some d)/\∀l1 j l2,l=l1++j::l2->∀i∈j::l2,¬Ow ops i->∀x y d,ops[i]?=some x->ops[j]?=some y->x.dst=some d->d ∉ y.looksAt ops
theorem Apart.tail{i:Nat}{l:List Nat}(h:Apart ops (i::l)):Apart ops l:=
 ⟨(fB.1 h.1).2,λj hj=>h.2.1 j (by simp[hj]),λa ha b hb=>h.2.2.1 a (by simp[ha]) b (by simp[hb]),λl1 j l2 e=>h.2.2.2 (i::l1) j l2 (by rw[e];rfl)⟩
theorem qZ{kn:Kn}{o:Oper}{K:AV->Hq->Prop}{s:Hq}{v:AV}(hok:okOp o.op=true)(hb:∀d,o.dst=some d->blt d nt=true)(hgv:GV ops.toList o.guard env)(hw:ir ops.toList o.guard env=true)(hc:clsD P o.op<=1)
  (hd:∀(env':Env) (s':Hq) (K':AV->Hq->Prop),(∀x∈o.op.operands.toList,evD env' x=evD env x)->(clsD P o.op=0∨Vis h s')->K' v s'->wpOp P env' K' s' o.op):SF P ops nt h o env v:=
 ⟨hgv,hb,hok,.inl ⟨hw,.inl ⟨hc,λs' hv=>hd env s' _ (λ_ _=>rfl) hv rfl⟩⟩⟩
theorem rf(hok:∀(j:Nat) (o:Oper),ops[j]?=some o->okOp o.op=true){K:Env->Prop}:∀(l:List Nat) (kn:Kn) (env:Env),Apart ops l->(∀i∈l,¬Ow ops i)->KnOk kn env->evS P nt ops.toList h (gH ops.toList l) kn env K->
  ∃(env1:Env) (vS:Nat->AV),K env1/\(∀x,(∀i∈l,∀o,ops[i]?=some o->o.dst≠some x)->env1 x=env x)/\∀i∈l,∀o,ops[i]?=some o->SF P ops nt h o env1 (vS i)/\∀d,o.dst=some d->env1 d=vS i
 |[],kn,env,_,_,_,hk=>⟨env,λ_=>.undef,hk,λ_ _=>rfl,λi hi=>by cases hi⟩
 | i::l,kn,env,ha,hO,hkn,hk=>by
   have hi:=ha.2.1 i sI;have ho:=Array.getElem?_eq_getElem hi;rw[wW hi]at hk;generalize ops[i]=o at hk ho;have ⟨hgv,kn',hkn',hcase⟩:=Cf hkn hk;have next:∀(v:AV) (kn2:Kn),(∀env',(∀d,o.dst≠some d->env' d=env d)->(∀d,o.dst=some d->env' d=v)->KnOk kn2 env')->(setK nt o.dst env v λenv=>evS P nt ops.toList h (gH ops.toList l) kn2 env K)->((∀d,o.dst=some d->blt d nt=true)->SF P ops nt h o env v)->
     ∃(env1:Env) (vS:Nat->AV),K env1/\(∀x,(∀i_1∈i::l,∀o,ops[i_1]?=some o->o.dst≠some x)->env1 x=env x)/\∀i_1∈i::l,∀o,ops[i_1]?=some o->SF P ops nt h o env1 (vS i_1)/\∀d,o.dst=some d->env1 d=vS i_1:=by
    intro v kn2 hk2 hset hsf;have ⟨env2,e1,e2,e3⟩:=wX hset;have ⟨env1,vS,k1,k2,k3⟩:=rf hok l kn2 env2 ha.tail (λi hi=>hO i (by simp[hi])) (hk2 env2 e2 λd hd=>(e3 d hd).1) e1;have hnl:=(fB.1 ha.1).1;refine⟨env1,λj=>if j=i then v else vS j,k1,λx hx=>?_,λj hj p hp=>?_⟩
    ·grind
    ·rcases mCY hj with rfl|hj
     ·rw[ho]at hp;cases hp
      simp only[↓reduceIte];have hd1:∀d,o.dst=some d->env1 d=v:=λd hd=>by rw[k2 d λq hq y hy e=>ha.2.2.1 j sI q (by simp[hq]) (λe=>hnl (e ▸ hq)) o y d ho hy hd e];exact(e3 d hd).1
      refine⟨(hsf λd hd=>(e3 d hd).2).ag λx hx=>?_,hd1⟩;have no:=λq hq y hy e=>ha.2.2.2 [] j l rfl q hq (hO q hq) y o x hy ho e hx
      grind
     grind
   rcases hcase with⟨hw,h1⟩|⟨hw,h1⟩
   ·cases hc:ble (clsD P o.op) 1 with
    | true=>
      rw[hc,aD]at h1;have hc:=cJ hc;have ⟨v,q1,q2⟩:=Cc hc h1;exact next v _ (λenv' e4 _=>hkn'.forget e4) q1 λhb=>qZ (kn:=kn) (K:=λ_ _=>True) (s:=h) (hok i o ho) hb hgv hw hc q2
    | false=>
      rw[hc,cond_false]at h1;have ⟨v,q1,q2⟩:=h1;refine next v _ (λenv' e4 _=>hkn'.forget e4) q2 λhb=>⟨hgv,hb,hok i o ho,.inl ⟨hw,.inr ⟨λe=>?_,q1⟩⟩⟩
      rw[e]at hc;cases hc
   ·exact next .undef _ (λenv' e4 e5=>hkn'.mark e4 e5) h1 λhb=>⟨hgv,hb,hok i o ho,.inr ⟨hw,rfl⟩⟩
theorem absorb(hok:∀(j:Nat) (o:Oper),ops[j]?=some o->okOp o.op=true){K:Env->Hq->Prop}{s:Hq}:∀(k:List Nat) (kn:Kn) (env:Env),Apart ops k->KnOk kn env->opsE P nt ops.toList (gH ops.toList k) kn env K s->
  ∃(env1:Env) (vS:Nat->AV) (d k':List Nat) (kn':Kn),k=d++k'/\(k'=[]∨∃m l,k'=m::l/\Mv P ops m)/\KnOk kn' env1/\opsE P nt ops.toList (gH ops.toList k') kn' env1 K s/\(∀x,(∀i∈d,∀o,ops[i]?=some o->o.dst≠some x)->env1 x=env x)/\
   ∀i∈d,∀o,ops[i]?=some o->¬Mv P ops i/\SF P ops nt s o env1 (vS i)/\∀d,o.dst=some d->env1 d=vS i
 |[],kn,env,_,hkn,hk=>⟨env,λ_=>.undef,[],[],kn,rfl,.inl rfl,hkn,hk,λ_ _=>rfl,λi hi=>by cases hi⟩
 | i::l,kn,env,ha,hkn,hk=>by
   have hi:=ha.2.1 i sI;have ho:=Array.getElem?_eq_getElem hi
   by_cases hmv:Mv P ops i
   case neg=>
    have h0:=Nat.le_of_not_lt λq=>hmv ⟨_,ho,.inl q⟩;rw[wW hi]at hk;generalize ops[i]=o at hk ho h0;have ⟨hgv,kn',hkn',hcase⟩:=Cf hkn hk;have next:∀(v:AV) (kn2:Kn),(∀env',(∀d,o.dst≠some d->env' d=env d)->(∀d,o.dst=some d->env' d=v)->KnOk kn2 env')->(setK nt o.dst env v λenv=>opsE P nt ops.toList (gH ops.toList l) kn2 env K s)->((∀d,o.dst=some d->blt d nt=true)->SF P ops nt s o env v)->
      ∃(env1:Env) (vS:Nat->AV) (d k':List Nat) (kn':Kn),i::l=d++k'/\(k'=[]∨∃m l,k'=m::l/\Mv P ops m)/\KnOk kn' env1/\opsE P nt ops.toList (gH ops.toList k') kn' env1 K s/\(∀x,(∀i∈d,∀o,ops[i]?=some o->o.dst≠some x)->env1 x=env x)/\
       ∀i∈d,∀o,ops[i]?=some o->¬Mv P ops i/\SF P ops nt s o env1 (vS i)/\∀d,o.dst=some d->env1 d=vS i:=by
     intro v kn2 hk2 hset hsf;have ⟨env2,e1,e2,e3⟩:=wX hset;obtain⟨env1,vS,d,k',kn3,rfl,k2,k3,k4,k5,k6⟩:=absorb hok l kn2 env2 ha.tail (hk2 env2 e2 λd hd=>(e3 d hd).1) e1;have hnl:i ∉ d:=λe=>(fB.1 ha.1).1 (by simp[e]);refine⟨env1,λj=>if j=i then v else vS j,i::d,k',kn3,rfl,k2,k3,k4,λx hx=>?_,λj hj p hp=>?_⟩
     ·grind
     ·rcases mCY hj with rfl|hj
      ·rw[ho]at hp;cases hp
       simp only[↓reduceIte];have hd1:∀dd,o.dst=some dd->env1 dd=v:=λdd hd=>by rw[k5 dd λq hq y hy e=>ha.2.2.1 j sI q (by simp[hq]) (λe=>hnl (e ▸ hq)) o y dd ho hy hd e];exact(e3 dd hd).1
       refine⟨hmv,(hsf λd hd=>(e3 d hd).2).ag λx hx=>?_,hd1⟩;have no:∀q∈j::d,∀y,ops[q]?=some y->y.dst≠some x:=λq hq y hy e=>ha.2.2.2 [] j (d++k') rfl q (by
        grind) (λhow=>by
        rcases mCY hq with rfl|hq
        ·exact hmv ⟨_,hy,.inr how⟩
        ·exact(k6 q hq y hy).1 ⟨_,hy,.inr how⟩) y o x hy ho e hx
       grind
      grind
    rcases hcase with⟨hw,h1⟩|⟨hw,h1⟩
    ·have ⟨v,q1,q2⟩:=Cc h0 h1
     exact next v _ (λenv' e4 _=>hkn'.forget e4) q1 λhb=>qZ (kn:=kn) (K:=λ_ _=>True) (s:=s) (hok i o ho) hb hgv hw h0 q2
    ·exact next .undef _ (λenv' e4 e5=>hkn'.mark e4 e5) h1 λhb=>⟨hgv,hb,hok i o ho,.inr ⟨hw,rfl⟩⟩
   case pos=>exact⟨env,λ_=>.undef,[],i::l,kn,rfl,.inr ⟨i,l,rfl,hmv⟩,hkn,hk,λ_ _=>rfl,λi hi=>by cases hi⟩
theorem Ch{o:Op}{K:ah->List AV->(Nat->AV)->Prop}(h:mQ P env o K):∃el cs f,K el cs f/\∀(env':Env) (s':Hq) (K':AV->Hq->Prop),(∀x∈o.operands.toList,evD env' x=evD env x)->(∀b,s' b=none->K' (f b) (hset s' b (false,.cells el cs)))->wpOp P env' K' s' o:=by
 unfold mQ at h;split at h
 ·split at h
  ·rename_i t z hz
   exact⟨_,_,_,h,λenv' s' K' _ hk=>by simp only[wpOp,hz];exact hk⟩
  ·exact h.elim
 ·rename_i t x
  refine⟨_,_,_,h.2,λenv' s' K' hx hk=>?_⟩;simp only[wpOp];rw[hx x (by simp[Op.operands])];exact⟨h.1,hk⟩
 ·rename_i t n ps
  split at h
  ·rename_i elem hu
   split at h
   ·rename_i z es hz
    cases e:ble (n*es) 16777216 with
    |false=>rw[e]at h;exact h.elim
    | true=>
      rw[e,aD]at h;split at h
      ·rename_i l hl
       have ⟨cs,h1,h2,h3⟩:=cB h;refine⟨_,_,_,h3,λenv' s' K' hx hk=>?_⟩;simp only[wpOp,hu,hz,e,aD,hl];rw[qW (λ_ _=>trivial) λp hp=>hx _ (by simpa [Op.operands]using qX hl p hp),h1];exact⟨h2,hk⟩
      ·exact h.elim
   ·exact h.elim
  ·exact h.elim
 ·exact h.elim
theorem rh{K:List NewD->Prop}:∀(l:List Nat),l.Nodup->(∀i∈l,i<ops.size)->evC P env (gH ops.toList l) K->∃D:Nat->NewD,K (l.map D)/\∀n∈l,∀o,ops[n]?=some o->(D n).1=o.dst/\
  ∀(env':Env) (s':Hq) (K':AV->Hq->Prop),(∀x∈o.op.operands.toList,evD env' x=evD env x)->(∀b,s' b=none->K' ((D n).2.2.2 b) (hset s' b (false,.cells (D n).2.1 (D n).2.2.1)))->wpOp P env' K' s' o.op
 |[],_,_,h=>⟨λ_=>(none,0,[],λ_=>.undef),h,λn hn=>by cases hn⟩
 | i::l,hnd,hlt,h=>by
   have hi:=hlt i sI;rw[wW hi]at h;have ⟨el,cs,f,h1,h2⟩:=Ch h;have ⟨D,h3,h4⟩:=rh l (fB.1 hnd).2 (λj hj=>hlt j (by simp[hj])) h1;obtain⟨D',d1,d2⟩:∃D':Nat->NewD,D' i=(ops[i].dst,el,cs,f)/\∀j,j≠i->D' j=D j:=⟨λj=>if j=i then(ops[i].dst,el,cs,f)else D j,ak rfl,λj hj=>aj hj⟩
   refine⟨D',?_,λn hn o hno=>?_⟩
   ·have:l.map D'=l.map D:=cK gR
    grind
   ·rcases mCY hn with rfl|hn
    ·simp_all
    grind
end
structure DCx where
 P:ay
 ops:Array Oper
 nt:Nat
 p:Plan
 lk:Bool
 late:Bool
 h:Hq
 s:Hq
 sM:Hq
 t:Hq
 t0:Hq
 un:Hq->Hq
 env0:Env
 env1:Env
 Kf:Env->Hq->Prop
 D:Nat->NewD
 vS:Nat->AV
 base:Nat
 ρ0:Ren
 w0:am
 ds0:List cx
abbrev DCx.B(c:DCx)(n:Nat):Bool×Blk:=(false,.cells (c.D n).2.1 (c.D n).2.2.1)
abbrev DCx.KA(c:DCx):Env->Hq->Prop:=λenv2 s2=>evN c.nt (c.p.N.map c.D) env2 (λenv3 s3=>opsE c.P c.nt c.ops.toList (gH c.ops.toList c.p.T) [] env3 c.Kf s3) (c.un s2)
structure DCxOK(c:DCx):Prop where
 g:Grd c.P
 dk:DrOK c.P c.ops c.p c.lk c.late
 vlk:c.lk=true->Vis c.h c.t0
 vla:c.late=true->c.lk=true/\Vis c.h c.t
 un:∀s',Pers c.sM s'->(∀i,c.t0 i≠none->c.sM i=none->s' i=none)->(∀i x,c.t0 i=some x->s' i=none∨s' i=some (true,x.2))->
  add c.t (c.un s')=add c.t0 s'/\(∀i x,c.t i=some x->c.un s' i=none∨c.un s' i=some (true,x.2))/\Pers c.s (c.un s')/\∀i,c.t i≠none->c.s i=none->c.un s' i=none
 nD:∀n∈c.p.N,∀o,c.ops[n]?=some o->(c.D n).1=o.dst/\∀(env':Env) (s':Hq) (K':AV->Hq->Prop),(∀x∈o.op.operands.toList,evD env' x=evD c.env1 x)->(∀b,s' b=none->K' ((c.D n).2.2.2 b) (hset s' b (c.B n)))->wpOp c.P env' K' s' o.op
 nB:∀n∈c.p.N,∀o,c.ops[n]?=some o->∀d,o.dst=some d->blt d c.nt=true
 eS:∀i∈c.p.S,∀o d,c.ops[i]?=some o->o.dst=some d->c.env1 d=c.vS i
 e1:∀x,(∀i∈c.p.S,∀o,c.ops[i]?=some o->o.dst≠some x)->c.env1 x=c.env0 x
structure St(c:DCx)(L:Bool)(X:Nat->Prop)(a:Act)(w:am)(val:Nat->AV)(e env:Env)(ρ:Ren)(sc tF:Hq)(pd k:List Nat)(KK:Env->Hq->Prop):Prop where
 er:ER ρ c.nt e a.tmps
 df:a.defers=c.ds0
 le:Le c.ρ0 ρ
 be:Below c.base c.w0 w
 fit:Fit ρ c.base sc tF w
 ev1:∀i x d,X i->c.ops[i]?=some x->x.dst=some d->e d=val i
 ev2:∀x,(∀i o,X i->c.ops[i]?=some o->o.dst≠some x)->e x=c.env0 x
 cv1:∀i∈pd,∀o d,c.ops[i]?=some o->o.dst=some d->env d=val i
 cv2:∀x,(∀i∈pd,∀o,c.ops[i]?=some o->o.dst≠some x)->env x=c.env0 x
 fa:∀i∈pd,X i∨∃hh,(Nz c.P c.ops i->((L=true/\i∈c.p.S)/\hh=c.h)∨(¬(L=true/\i∈c.p.S)/\Vis hh (add tF sc)/\∀m∈k,Mv c.P c.ops m->bf c.ops i m))/\∀o,c.ops[i]?=some o->SF c.P c.ops c.nt hh o env (val i)
 no:∀i∈k,¬X i
 co:∃kn,KnOk kn env/\opsE c.P c.nt c.ops.toList (gH c.ops.toList k) kn env KK sc
 cp:∀i∈pd,∀m,m<c.ops.size->bf c.ops m i->m∈pd
 pk:∀i∈pd,i ∉ k
 lp:∀i∈pd,i<c.ops.size
 ap:Apart c.ops k
 kS:∀i∈k,i ∉ c.p.S
 xc:∀i,i<c.ops.size->X i->∀m,m<c.ops.size->bf c.ops m i->X m
 ow:∀i∈pd,Ow c.ops i->X i
 kb:∀l1 j l2,k=l1++j::l2->∀i∈l1,Nz c.P c.ops i->(Mv c.P c.ops i∨Mv c.P c.ops j)->bf c.ops i j
 lb:∀l1 j l2,k=l1++j::l2->∀m,m<c.ops.size->bf c.ops m j->m∈pd∨m∈l1
section
variable {c:DCx} {L:Bool} {X:Nat→Prop} {a:Act} {w:am} {val:Nat→AV} {e env:Env} {ρ:Ren} {sc tF:Hq} {pd k:List Nat} {KK:Env→Hq→Prop}
theorem lU{ops:Array Oper}{i:Nat}{o:Oper}(h:ops[i]?=some o):i<ops.size:=(Array.getElem?_eq_some_iff.1 h).1
theorem rn{h t s:Hq}(hv:Vis h t):Vis h (add t s):=λi e b hi=>by
 have ⟨e',q⟩:=hv i e b hi
 grind [cU]
theorem Ci{ρ:Ren}{base:Nat}{s t:Hq}{w:am}(hf:Fit ρ base s t w):Vis s (add t s):=λi e b hi=>by
 cases q:t i with
 |none=>grind [cC]
 | some x=>
   rcases hf.fr i x q with k|k
   ·rw[hi]at k;cases k
   grind [cU]
theorem St.absorb(ok:DCxOK c)(z:St c L X a w val e env ρ sc tF pd k KK):∃(val':Nat->AV) (env':Env) (d k':List Nat),k=d++k'/\(k'=[]∨∃m l,k'=m::l/\Mv c.P c.ops m)/\(∀i,i ∉ d->val' i=val i)/\St c L X a w val' e env' ρ sc tF (pd++d) k' KK:=by
 have ⟨kn,q1,q2⟩:=z.co;obtain⟨env',vS,d,k',kn',rfl,k2,k3,k4,k5,k6⟩:=AM.absorb ok.dk.ok k kn env z.ap q1 q2;obtain⟨val',v1,v2⟩:∃val':Nat->AV,(∀i∈d,val' i=vS i)/\∀i,i ∉ d->val' i=val i:=by
  classical
  exact⟨λi=>if i∈d then vS i else val i,λi hi=>ak hi,λi hi=>aj hi⟩
 have hap:=z.ap;have nd:=hap.1;have off:=λi hi hd=>z.pk i hi (dV _ hd);have stay:∀i∈pd,∀o,c.ops[i]?=some o->(∀x∈o.looksAt c.ops,env' x=env x)/\∀dd,o.dst=some dd->env' dd=env dd:=λi hi o ho=>by
  refine⟨λx hx=>k5 x λm hm y hy q=>?_,λdd hdd=>k5 dd λm hm y hy q=>?_⟩
  ·have hb:=Classical.byContradiction λhn=>(k6 m hm y hy).1 ⟨y,hy,.inr ⟨i,y,o,x,hy,ho,q,hx,hn⟩⟩
   exact off m (z.cp i hi m (lU hy) hb) hm
  ·exact(ok.dk.dst i m o y dd ho hy hdd).1 (λq=>off i hi (q ▸ hm)) q
 refine⟨val',env',d,k',rfl,k2,v2,⟨z.er,z.df,z.le,z.be,z.fit,λi x dd hx ho hd=>?_,z.ev2,λi hi o dd ho hd=>?_,λx hx=>?_,λi hi=>?_,λi hi=>z.no i (dN _ hi),⟨kn',k3,k4⟩,λi hi m hm hb=>?_,λi hi hk=>?_,λi hi=>?_,?_,λi hi=>z.kS i (dN _ hi),z.xc,λi hi ho=>?_,λl1 j l2 hj i hi=>z.kb (d++l1) j l2 gR i (dN _ hi),λl1 j l2 hj m hm hb=>?_⟩⟩
 ·rw[v2 i λq=>z.no i (dV _ q) hx];grind [ev1]
 ·rcases mP hi with hi|hi
  ·rw[(stay i hi o ho).2 dd hd,v2 i (off i hi)];grind [cv1]
  grind
 ·rw[k5 x gR]
  exact z.cv2 x gR
 ·rcases mP hi with hi|hi
  ·rcases z.fa i hi with q|q
   ·exact .inl q
   ·have ⟨hh,q1,q2⟩:=q
    exact .inr ⟨hh,λhz=>gR,λo ho=>by rw[v2 i (off i hi)];exact(q2 o ho).ag (stay i hi o ho).1⟩
  ·refine .inr ⟨sc,λhz=>.inr ⟨λq=>z.kS i (dV _ hi) q.2,Ci z.fit,λm hm hmv=>?_⟩,λo ho=>gR⟩
   have ⟨l1,l2,e⟩:=eY hm;exact z.kb (d++l1) m l2 (by rw[e,cn]) i (dV _ hi) hz (.inr hmv)
 ·rcases mP hi with hi|hi
  ·exact dV _ (z.cp i hi m hm hb)
  ·obtain⟨l1,l2,rfl⟩:=eY hi
   rcases z.lb l1 i (l2++k') sI m hm hb with q|q
   ·grind
   grind
 ·rcases mP hi with hi|hi
  ·exact z.pk i hi (dN _ hk)
  grind
 ·rcases mP hi with hi|hi
  ·exact z.lp i hi
  ·exact hap.2.1 i (dV _ hi)
 rotate_left
 ·rcases mP hi with hi|hi
  ·exact z.ow i hi ho
  ·have ⟨_,o,_,_,q,_⟩:=id ho
   exact absurd ⟨o,q,.inr ho⟩ (k6 i hi o q).1
 rotate_right
 ·refine⟨(gG.1 nd).2.1,λi hi=>hap.2.1 i (dN _ hi),λi hi j hj=>hap.2.2.1 i (dN _ hi) j (dN _ hj),λl1 j l2 q=>hap.2.2.2 (d++l1) j l2 (by rw[q,cn])⟩
 ·rcases z.lb (d++l1) j l2 gR m hm hb with q|q
  ·grind
  grind
theorem St.look(ok:DCxOK c)(z:St c L X a w val e env ρ sc tF pd k KK){j:Nat}{o:Oper}(ho:c.ops[j]?=some o)(hj:¬X j)(hr:∀i,bf c.ops i j->X i)(hp:∀m,m<c.ops.size->bf c.ops m j->m∈pd):Ag c.ops o env e:=λx hx=>by
 by_cases hq:∃(i:Nat) (y:Oper),c.ops[i]?=some y/\y.dst=some x
 ·have ⟨i,y,hy,hd⟩:=hq
  by_cases hb:bf c.ops i j
  ·rw[z.ev1 i y x (hr i hb) hy hd,z.cv1 i (hp i (lU hy) hb) y x hy hd]
  ·have hXi:=λq=>hj (z.xc i (lU hy) q j (lU ho) (((ok.dk.dst i j y o x hy ho hd).2 hx).2.resolve_left hb))
   have hpi:=λq=>hXi (z.ow i q ⟨j,y,o,x,hy,ho,hd,hx,hb⟩);rw[z.ev2 x λm q hm hq hd2=>(ok.dk.dst m i q y x hq hy hd2).1 (λe=>hXi (e ▸ hm)) hd,z.cv2 x λm hm q hq hd2=>(ok.dk.dst m i q y x hq hy hd2).1 (λe=>hpi (e ▸ hm)) hd]
 ·rw[z.ev2 x gR,z.cv2 x gR]
theorem ER.put2{ρ:Ren}{nt:Nat}{v:AV}{v':ai}(h:ER ρ nt e a.tmps){dst:Option Tmp}(hb:∀d,dst=some d->blt d nt=true)(hv:Rel ρ v v'):∃e',ER ρ nt e' (a.put dst v').tmps/\(∀d,dst=some d->e' d=v)/\∀d,dst≠some d->e' d=e d:=by
 cases dst with
 |none=>exact⟨e,h,(λd q=>nomatch q),λ_ _=>rfl⟩
 | some d=>
   refine⟨upd e d v,h.put (hb d rfl) hv,λi hi=>?_,λi hi=>?_⟩
   ·simp_all [upd]
   ·unfold upd
    cases q:beq i d with
    |true=>simp_all
    |false=>rfl
theorem St.done(ok:DCxOK c)(z:St c L X a w val e env ρ sc tF pd k KK){j:Nat}{o:Oper}(ho:c.ops[j]?=some o)(hj:¬X j){v':ai}{ρ':Ren}{val':Nat->AV}(hval:∀i,i≠j->val' i=val i)(hle:Le ρ ρ')(hv:Rel ρ' (val' j) v')(hb:∀d,o.dst=some d->blt d c.nt=true):
  ∃e',ER ρ' c.nt e' (a.put o.dst v').tmps/\(∀i x d,(i=j∨X i)->c.ops[i]?=some x->x.dst=some d->e' d=val' i)/\∀x,(∀i o,(i=j∨X i)->c.ops[i]?=some o->o.dst≠some x)->e' x=c.env0 x:=by
 have ⟨e',e1,e2,e3⟩:=(z.er.mono hle).put2 hb hv;refine⟨e',e1,λi x d hi hx hd=>?_,λx hx=>?_⟩
 ·by_cases q:i=j
  ·grind
  ·have hXi:=hi.resolve_left q
   rw[e3 d ((ok.dk.dst i j x o d hx ho hd).1 q),hval i q]
   grind [ev1]
 ·rw[e3 x (hx j o (.inl rfl) ho)]
  exact z.ev2 x λi o hi=>hx i o (.inr hi)
theorem St.runPd(ok:DCxOK c)(z:St c L X a w val e env ρ sc tF pd k KK){j:Nat}{o:Oper}{r:Option Nat}{Q:Exit->Act->am->Prop}{K:Act->am->Prop}(ho:c.ops[j]?=some o)(hj:¬X j)(hp:j∈pd)(hr:∀i,bf c.ops i j->X i)(hlv:L=true->Vis c.h tF)
  (next:∀a' w' e' ρ',St c L (λi=>i=j∨X i) a' w' val e' env ρ' sc tF pd k KK->K a' w'):wpOpIn (FR r) 0 c.P c.ops Q j K a w:=by
 unfold wpOpIn;simp only[ho];have ⟨hh,hvis,hsf⟩:=(z.fa j hp).resolve_left hj;have hsf:=hsf o ho;have ag:=z.look ok ho hj hr λm hm hb=>z.cp j hp m hm hb;refine(hsf.ag ag).run ok.g z.fit (λh0=>(hvis ⟨o,ho,.inl h0⟩).elim (λq=>by rw[q.2];exact rn (hlv q.1.1)) (·.2.1)) z.er λv' ρ' w' l1 l2 l3 l4=>?_;have ⟨e',e1,e2,e3⟩:=z.done ok ho hj (val':=val) (λ_ _=>rfl) l1 l4 hsf.2.1;exact next _ w' e' ρ' ⟨e1,by grind [ga,df],z.le.trans l1,z.be.trans l2,l3,e2,e3,z.cv1,z.cv2,λi hi=>(z.fa i hi).imp_left .inr,λi hi q=>q.elim (λq=>z.pk j hp (q ▸ hi)) (z.no i hi),z.co,z.cp,z.pk,z.lp,z.ap,z.kS,λi hl hi m hm hb=>hi.elim (λq=>.inr (hr m (q ▸ hb))) λq=>.inr (z.xc i hl q m hm hb),λi hi h=>.inr (z.ow i hi h),z.kb,z.lb⟩
theorem St.runHd(ok:DCxOK c){m:Nat}{l:List Nat}(z:St c L X a w val e env ρ sc tF pd (m::l) KK){o:Oper}{r:Option Nat}{Q:Exit->Act->am->Prop}{K:Act->am->Prop}(ho:c.ops[m]?=some o)(hr:∀i,bf c.ops i m->X i)(hmv:Mv c.P c.ops m)
  (next:∀a' w' val' e' env' ρ' sc',(∀i,i≠m->val' i=val i)->Pers sc sc'->(∀i,tF i≠none->sc i=none->sc' i=none)->St c L (λi=>i=m∨X i) a' w' val' e' env' ρ' sc' tF (pd ++ [m]) l KK->K a' w'):wpOpIn (FR r) 0 c.P c.ops Q m K a w:=by
 unfold wpOpIn;simp only[ho];have hm:=z.no m sI;have hlt:=lU ho;have hpm:=λq=>z.pk m q sI;have lbm:=λq hq hb=>(z.lb [] m l rfl q hq hb).resolve_right sI;have ag:=z.look ok ho hm hr lbm;have ⟨kn,q1,q2⟩:=z.co;rw[wW hlt,show c.ops[m]=o by grind]at q2;have ⟨hgv,kn',hkn',hcase⟩:=Cf q1 q2;have hml:=(fB.1 z.ap.1).1;have fin:∀(v:AV) (v':ai) (kn2:Kn) (sc':Hq) (ρ':Ren) (w':am),(∀env',(∀d,o.dst≠some d->env' d=env d)->(∀d,o.dst=some d->env' d=v)->KnOk kn2 env')->(setK c.nt o.dst env v λenv=>opsE c.P c.nt c.ops.toList (gH c.ops.toList l) kn2 env KK sc')->
   Stp ρ ρ' c.base sc sc' tF w w'->Rel ρ' v v'->K (a.put o.dst v') w':=by
  intro v v' kn2 sc' ρ' w' hk2 hset st hrel;have ⟨env2,c1,c2,c3⟩:=wX hset;have ⟨val',v1,v2⟩:∃val':Nat->AV,val' m=v/\∀i,i≠m->val' i=val i:=⟨λi=>if i=m then v else val i,ak rfl,λi hi=>aj hi⟩
  obtain⟨e',e1,e2,e3⟩:=z.done ok ho hm (val':=val') v2 st.le (by rw[v1];exact hrel) λd hd=>(c3 d hd).2;have stay:∀i∈pd,∀y,c.ops[i]?=some y->(¬X i->∀x∈y.looksAt c.ops,env2 x=env x)/\∀dd,y.dst=some dd->env2 dd=env dd:=λi hi y hy=>by
   refine⟨λhXi x hx=>c2 x λq=>?_,λdd hdd=>c2 dd λq=>?_⟩
   ·rcases((ok.dk.dst m i o y x ho hy q).2 hx).2 with hb|hb
    ·exact hpm (z.cp i hi m hlt hb)
    ·exact hXi (hr i hb)
   ·exact(ok.dk.dst i m y o dd hy ho hdd).1 (λq=>hpm (q ▸ hi)) q
  refine next _ w' val' e' env2 ρ' sc' v2 st.pers st.nw ⟨e1,by grind [ga,df],z.le.trans st.le,z.be.trans st.below,st.fit,e2,e3,λi hi y dd hy hd=>?_,λx hx=>?_,λi hi=>?_,λi hi q=>?_,gR,
   λi hi q hq hb=>?_,λi hi hk=>?_,λi hi=>?_,z.ap.tail,λi hi=>z.kS i (by simp[hi]),λi hl hi q hq hb=>hi.elim (λe=>.inr (hr q (e ▸ hb))) λe=>.inr (z.xc i hl e q hq hb),λi hi h=>?_,λl1 j l2 hj i hi=>z.kb (m::l1) j l2 (by rw[hj];rfl) i (by simp[hi]),λl1 j l2 hj q hq hb=>?_⟩
  ·rcases mP hi with hi|hi
   ·rw[(stay i hi y hy).2 dd hd,v2 i λq=>hpm (q ▸ hi)];grind [cv1]
   grind
  ·rw[c2 x (hx m sI o ho)]
   exact z.cv2 x gR
  ·rcases mP hi with hi|hi
   ·rcases z.fa i hi with q|q
    ·exact .inl (.inr q)
    ·have ⟨hh,q1,q2⟩:=q
     by_cases hXi:X i
     ·exact .inl (.inr hXi)
     ·refine .inr ⟨hh,λhz=>gR,λy hy=>by rw[v2 i λq=>hpm (q ▸ hi)];exact(q2 y hy).ag ((stay i hi y hy).1 hXi)⟩
   grind
  ·rcases q with rfl|q
   ·exact hml hi
   ·exact z.no i (by simp[hi]) q
  ·rcases mP hi with hi|hi
   ·exact dV _ (z.cp i hi q hq hb)
   grind
  ·rcases mP hi with hi|hi
   ·exact z.pk i hi (by simp[hk])
   grind
  ·grind [lp]
  ·rcases mP hi with hi|hi
   ·exact .inr (z.ow i hi h)
   grind
  ·rcases z.lb (m::l1) j l2 (by rw[hj];rfl) q hq hb with k|k
   ·grind
   grind
 rw[NS z.er (ag.gv hgv),ag.want];rcases hcase with⟨hw,h1⟩|⟨hw,h1⟩
 ·rw[hw,ak rfl]
  exact kU ok.g z.fit z.er (ok.dk.ok m o ho) (Ce ag.opd h1) λv v' ρ' s' w' hk st hrel=>fin v v' _ s' ρ' w' (λenv' e4 _=>hkn'.forget e4) hk st hrel
 ·rw[hw,aj sI]
  exact⟨jz,fin .undef undef _ sc ρ w (λenv' e4 e5=>hkn'.mark e4 e5) h1 (.refl z.fit) oH⟩
end
structure PhA(c:DCx)(X:Nat->Prop)(val:Nat->AV)(sc tF:Hq)(pd k:List Nat)(nb:Nat->Nat):Prop where
 ls:∃dn,c.p.M=dn++k/\∀i,i∈pd↔i∈c.p.S∨i∈dn
 pers:Pers c.sM sc
 nw:∀i,c.t0 i≠none->c.sM i=none->sc i=none
 n1:∀n∈c.p.N,X n->tF (nb n)=some (c.B n)/\c.t0 (nb n)=none/\val n=(c.D n).2.2.2 (nb n)/\sc (nb n)=none
 n2:∀i,(∀n∈c.p.N,X n->nb n≠i)->tF i=c.t0 i
 n3:∀n∈c.p.N,∀n'∈c.p.N,X n->X n'->nb n=nb n'->n=n'
 nT:∀i∈c.p.T,¬X i
 vs:∀i∈c.p.S,val i=c.vS i
structure PhB(c:DCx)(sc tF:Hq)(pd k:List Nat):Prop where
 ls:∃dn,c.p.T=dn++k/\∀i,i∈pd↔i∈c.p.S∨i∈c.p.M∨i∈c.p.N∨i∈dn
 tf:tF=c.t
 pers:Pers c.s sc
 nw:∀i,c.t i≠none->c.s i=none->sc i=none
def HdO(c:DCx)(k:List Nat):Prop:=k=[]∨∃m l,k=m::l/\Mv c.P c.ops m
def DI(c:DCx)(X:Nat->Prop)(a:Act)(w:am):Prop:=∃val e env ρ sc tF pd k,HdO c k/\
 ((∃nb,PhA c X val sc tF pd k nb/\St c c.lk X a w val e env ρ sc tF pd k c.KA/\¬(k=[]/\∀n∈c.p.N,X n))∨(PhB c sc tF pd k/\St c c.late X a w val e env ρ sc tF pd k c.Kf))
section
variable {c:DCx} {X:Nat→Prop} {a:Act} {w:am} {val:Nat→AV} {e env:Env} {ρ:Ren} {sc tF:Hq} {pd k:List Nat} {nb:Nat→Nat}
theorem PhA.lv(ok:DCxOK c)(h:PhA c X val sc tF pd k nb)(hl:c.lk=true):Vis c.h tF:=λi e0 b hi=>by
 have ⟨e',q'⟩:=ok.vlk hl i e0 b hi;refine⟨e',?_⟩;rw[h.n2 i λn hn hX q2=>?_]
 ·exact q'
 ·rw[<- q2,(h.n1 n hn hX).2.1]at q';cases q'
theorem rq(ok:DCxOK c)(h:PhB c sc tF pd k)(z:St c c.late X a w val e env ρ sc tF pd k c.Kf):DI c X a w:=by
 obtain⟨val',env',d,k',rfl,hd,_,z'⟩:=z.absorb ok;have ⟨dn,e1,e2⟩:=h.ls;refine⟨val',e,env',ρ,sc,tF,pd++d,k',hd,.inr ⟨⟨⟨dn++d,by rw[e1,cn],λi=>?_⟩,h.tf,h.pers,h.nw⟩,z'⟩⟩;rw[cR,e2 i,cR];constructor
 ·rintro ((q|q|q|q)|q)
  ·exact .inl q
  ·exact .inr (.inl q)
  ·exact .inr (.inr (.inl q))
  ·exact .inr (.inr (.inr (.inl q)))
  ·exact .inr (.inr (.inr (.inr q)))
 ·rintro (q|q|q|q|q)
  ·exact .inl (.inl q)
  ·exact .inl (.inr (.inl q))
  ·exact .inl (.inr (.inr (.inl q)))
  ·exact .inl (.inr (.inr (.inr q)))
  ·exact .inr q
theorem rr{D:Nat->NewD}{nt:Nat}{ρ:Ren}{base:Nat}{w:am}{K:Env->Hq->Prop}:∀(l:List Nat) (env:Env) (s tF:Hq),evN nt (l.map D) env K s->Fit ρ base s tF w->(∀n∈l,Hc tF (nb n) (D n).2.1 (D n).2.2.1/\s (nb n)=none)->(l.Pairwise λm n=>nb m≠nb n)->(l.Pairwise λm n=>∀d,(D m).1=some d->(D n).1≠some d)->
  ∃env' s' tF',K env' s'/\Fit ρ base s' tF' w/\add tF' s'=add tF s/\(∀i,(∀n∈l,nb n≠i)->tF' i=tF i/\s' i=s i)/\(∀n∈l,tF' (nb n)=none)/\(∀n∈l,∀d,(D n).1=some d->env' d=(D n).2.2.2 (nb n)/\blt d nt=true)/\∀x,(∀n∈l,(D n).1≠some x)->env' x=env x
 |[],env,s,tF,h,hf,_,_,_=>⟨env,s,tF,h,hf,rfl,λ_ _=>⟨rfl,rfl⟩,λn hn=>by simp at hn,λn hn=>by simp at hn,λ_ _=>rfl⟩
 | n::l,env,s,tF,h,hf,ha,hp,hq=>by
   have ⟨p1,p2⟩:=aB.1 hp;have ⟨r1,r2⟩:=aB.1 hq;have ⟨a1,a2⟩:=ha n sI;have ⟨env2,c1,c2,c3⟩:=wX (h (nb n) a2);have e0:add (hdel tF (nb n)) (hset s (nb n) (false,.cells (D n).2.1 (D n).2.2.1))=add tF s:=by
    grind [ic,dT,add,dL,cG]
   have hf2:Fit ρ base (hset s (nb n) (false,.cells (D n).2.1 (D n).2.2.1)) (hdel tF (nb n)) w:=⟨by rw[e0];exact hf.wr,λi x hx=>by
    have q:i≠nb n:=(by grind [ic])
    rw[cG q];rw[dL q]at hx;exact hf.fr i x hx⟩
   have ⟨env',s',tF',k1,k2,k3,k4,k5,k6,k7⟩:=rr l env2 _ _ c1 hf2 ((by grind [dL,cG])) p2 r2;refine⟨env',s',tF',k1,k2,k3.trans e0,λi hi=>?_,λm hm=>?_,λm hm d hd=>?_,λx hx=>?_⟩
   ·grind [dL,cG]
   ·grind [ic]
   ·grind
   grind
theorem mem4{p:Plan}{i:Nat}:i∈p.S++(p.M++(p.N++p.T))↔i∈p.S∨i∈p.M∨i∈p.N∨i∈p.T:=gR
structure Dj(p:Plan):Prop where
 sm:∀i∈p.S,i ∉ p.M
 sn:∀i∈p.S,i ∉ p.N
 st:∀i∈p.S,i ∉ p.T
 mn:∀i∈p.M,i ∉ p.N
 mt:∀i∈p.M,i ∉ p.T
 nt:∀i∈p.N,i ∉ p.T
 S:p.S.Nodup
 M:p.M.Nodup
 N:p.N.Nodup
 T:p.T.Nodup
theorem DrOK.dj{P:ay}{ops:Array Oper}{p:Plan}{lk late:Bool}(dk:DrOK P ops p lk late):Dj p:=by have ⟨a1,a2,a3⟩:=gG.1 dk.nd;have ⟨b1,b2,b3⟩:=gG.1 a2;have ⟨c1,c2,c3⟩:=gG.1 b2;exact⟨λi h k=>a3 i h i (by simp[k]) rfl,λi h k=>a3 i h i (by simp[k]) rfl,λi h k=>a3 i h i (by simp[k]) rfl,λi h k=>b3 i h i (by simp[k]) rfl,λi h k=>b3 i h i (by simp[k]) rfl,λi h k=>c3 i h i k rfl,a1,b1,c1,c2⟩
theorem DrOK.ap{P:ay}{ops:Array Oper}{p:Plan}{lk late:Bool}(dk:DrOK P ops p lk late){l:List Nat}(hn:l.Nodup)(hl:∀i∈l,i∈p.S++(p.M++(p.N++p.T)))(hb:∀l1 j l2,l=l1++j::l2->∀i∈j::l2,i<ops.size->bf ops i j->i ∉ l1->False):Apart ops l:=by
 refine⟨hn,λi hi=>dk.lt i (hl i hi),λi hi j hj hne x y d hx hy hd=>(dk.dst i j x y d hx hy hd).1 hne,λl1 j l2 e i hi hno x y d hx hy hd hlook=>?_⟩;have q2:=Classical.byContradiction λhn=>hno ⟨j,x,y,d,hx,hy,hd,hlook,hn⟩
 grind
theorem DrOK.apS{P:ay}{ops:Array Oper}{p:Plan}{lk late:Bool}(dk:DrOK P ops p lk late):Apart ops p.S:=
 dk.ap dk.dj.S (λi hi=>mem4.2 (.inl hi)) λl1 j l2 e i hi hlt hb hn=>hn (dk.lS l1 j l2 e i hlt hb)
theorem DrOK.apM{P:ay}{ops:Array Oper}{p:Plan}{lk late:Bool}(dk:DrOK P ops p lk late):Apart ops p.M:=
 dk.ap dk.dj.M (λi hi=>mem4.2 (.inr (.inl hi))) λl1 j l2 e i hi hlt hb hn=>by
  have him:i∈p.M:=gR;rcases(dk.lM l1 j l2 e).1 i hlt hb with q|q
  ·exact dk.dj.sm i q him
  ·exact hn q
theorem DrOK.apT{P:ay}{ops:Array Oper}{p:Plan}{lk late:Bool}(dk:DrOK P ops p lk late):Apart ops p.T:=
 dk.ap dk.dj.T ((by simp_all)) λl1 j l2 e i hi hlt hb hn=>by
  have hit:i∈p.T:=gR;rcases(dk.lT l1 j l2 e).1 i hlt hb with q|q|q|q
  ·exact dk.dj.st i q hit
  ·exact dk.dj.mt i q hit
  ·exact dk.dj.nt i q hit
  ·exact hn q
theorem mR(ok:DCxOK c)(h:PhA c X val sc tF pd k nb)(z:St c c.lk X a w val e env ρ sc tF pd k c.KA):DI c X a w:=by
 obtain⟨val',env',d,k',rfl,hd,hv,z'⟩:=z.absorb ok;have ⟨dn,e1,e2⟩:=h.ls;have dk:=ok.dk;have dj:=dk.dj;have hA:PhA c X val' sc tF (pd++d) k' nb:=by
  refine⟨⟨dn++d,by rw[e1,cn],λi=>?_⟩,h.pers,h.nw,λn hn hX=>?_,h.n2,h.n3,h.nT,λi hi=>(hv i λq=>dj.sm i hi (by rw[e1];simp[q])).trans (h.vs i hi)⟩
  ·rw[cR,e2 i,cR,or_assoc]
  ·rw[hv n λq=>dj.mn n (by rw[e1];simp[q]) hn]
   exact h.n1 n hn hX
 by_cases hsw:k'=[]/\∀n∈c.p.N,X n
 ·obtain⟨rfl,hN⟩:=hsw
  have ⟨kn,_,hK⟩:=z'.co;have ⟨dn2,f1,f2⟩:=hA.ls;rw[append_nil]at f1
  classical
  have hfr:∀i x,c.t0 i=some x->sc i=none∨sc i=some (true,x.2):=λi x hx=>by refine z'.fit.fr i x ?_;rw[hA.n2 i λn hn hX q=>?_,hx];rw[<- q,(hA.n1 n hn hX).2.1]at hx;cases hx
  have ⟨u1,u2,u3,u4⟩:=ok.un sc hA.pers hA.nw hfr;have u1i:∀i,add c.t (c.un sc) i=add c.t0 sc i:=λi=>by rw[u1]
  have low:∀n∈c.p.N,c.un sc (nb n)=none/\c.t (nb n)=none:=λn hn=>by
   have ⟨_,b2,_,b4⟩:=hA.n1 n hn (hN n hn);have:=u1i (nb n);rw[cC b2,b4]at this;cases q:c.t (nb n)with
   |some x=>rw[cU q]at this;cases this
   |none=>grind [cC]
  obtain⟨tU,t1,t2⟩:∃tU:Hq,(∀n∈c.p.N,tU (nb n)=some (c.B n))/\∀i,(∀n∈c.p.N,nb n≠i)->tU i=c.t i:=by refine⟨λi=>if ∃n∈c.p.N,nb n=i then tF i else c.t i,λn hn=>?_,gR⟩;show(if _ then _ else _)=_;rw[ak ⟨n,hn,rfl⟩];grind [PhA.n1]
  have eU:add tU (c.un sc)=add tF sc:=by
   funext i
   by_cases q:∃n∈c.p.N,nb n=i
   ·grind [cU,PhA.n1]
   ·have q':=λn hn k=>q ⟨n,hn,k⟩
    have v1:=u1i i;unfold add at v1 ⊢;rw[t2 i q',hA.n2 i λn hn _=>q' n hn];exact v1
  have fU:Fit ρ c.base (c.un sc) tU w:=⟨by rw[eU];exact z'.fit.wr,λi x hx=>by
   grind⟩
  have pw1:c.p.N.Pairwise λm n=>nb m≠nb n:=dj.N.imp_of_mem (by grind [PhA.n3]);have opn:∀n∈c.p.N,∃o,c.ops[n]?=some o/\(c.D n).1=o.dst:=λn hn=>by
   have:=dk.lt n (mem4.2 (.inr (.inr (.inl hn))))
   simp_all [DCxOK.nD]
  have pw2:c.p.N.Pairwise λm n=>∀d,(c.D m).1=some d->(c.D n).1≠some d:=dj.N.imp_of_mem fun {m n} hm hn hne d h1 h2=>by have ⟨o1,p1,p2⟩:=opn m hm;have ⟨o2,p3,p4⟩:=opn n hn;exact(dk.dst m n o1 o2 d p1 p3 (p2 ▸ h1)).1 hne (p4 ▸ h2)
  have ⟨env3,s3,t3,k1,k2,k3,k4,k5,k6,k7⟩:=rr (nb:=nb) c.p.N env' (c.un sc) tU hK fU (gR) pw1 pw2;have et:t3=c.t:=by
   grind
  subst et;have pdlt:∀i∈pd++d,i ∉ c.p.N/\i ∉ c.p.T:=(by grind [Dj.sn,Dj.st,Dj.mn,Dj.mt])
  have stay:∀i∈pd++d,∀o,c.ops[i]?=some o->(∀x∈o.looksAt c.ops,env3 x=env' x)/\∀dd,o.dst=some dd->env3 dd=env' dd:=λi hi o ho=>by
   refine⟨λx hx=>k7 x λn hn q=>?_,λdd hdd=>k7 dd λn hn q=>?_⟩
   ·have ⟨o1,p1,p2⟩:=opn n hn
    have hb:=Classical.byContradiction λhn2=>dk.oSN n (by simp[hn]) ⟨i,o1,o,x,p1,ho,p2 ▸ q,hx,hn2⟩
    grind [St.cp]
   ·have ⟨o1,p1,p2⟩:=opn n hn
    exact(dk.dst n i o1 o dd p1 ho (p2 ▸ q)).1 (λq=>(pdlt i hi).1 (q ▸ hn)) hdd
  refine rq ok (tF:=c.t) (sc:=s3) (pd:=(pd++d)++c.p.N) (k:=c.p.T) (val:=val') (env:=env3) (e:=e) (ρ:=ρ) ⟨⟨[],rfl,λi=>?_⟩,rfl,λi x hi=>?_,λi hi hs=>?_⟩ ⟨z'.er,z'.df,z'.le,z'.be,k2,z'.ev1,z'.ev2,λi hi o dd ho hdd=>?_,λx hx=>?_,λi hi=>?_,λi hi hX=>?_,⟨[],.nil,k1⟩,λi hi m hm hb=>?_,λi hi hk=>?_,λi hi=>?_,dk.apT,λi hi q=>dj.st i q hi,z'.xc,λi hi how=>?_,(by grind [DrOK.lT]),λl1 j l2 hj m hm hb=>?_⟩
  ·grind
  ·rw[(k4 i λn hn q=>?_).2]
   ·exact u3 i x hi
   ·have:=u3 i x hi;grind
  ·grind
  ·rcases mP hi with hi|hi
   ·grind [St.cv1]
   ·have ⟨o1,p1,p2⟩:=opn i hi
    grind [PhA.n1]
  ·rw[k7 x λn hn q=>?_]
   ·exact z'.cv2 x gR
   grind
  ·rcases mP hi with hi|hi
   ·rcases z'.fa i hi with q|q
    ·exact .inl q
    ·have ⟨hh,q1,q2⟩:=q
     have hv:Nz c.P c.ops i->Vis hh (add tF sc):=(by grind [rn,PhA.lv])
     refine .inr ⟨hh,λhz=>?_,λo ho=>(q2 o ho).ag (stay i hi o ho).1⟩
     by_cases hl:c.late=true/\i∈c.p.S
     ·grind [DCxOK.vla]
     ·refine .inr ⟨hl,by rw[k3,eU];exact hv hz,λm hm hmv=>?_⟩
      have ⟨l1,l2,e⟩:=eY hm;refine(dk.lT l1 m l2 e).2.1 i ?_ hz (.inr hmv);unfold chOf;cases hq:c.late with
      |false=>grind
      | true=>
        grind
   ·exact .inl (hN i hi)
  ·exact hA.nT i hi hX
  ·rcases mP hi with hi|hi
   ·grind [St.cp]
   ·exact dV _ ((f2 m).2 (.inl ((dk.lN i hi).2 m hm hb)))
  ·grind [Dj.nt]
  ·rcases mP hi with hi|hi
   ·exact z'.lp i hi
   grind
  ·grind [St.ow]
  grind [DrOK.lT]
 ·exact⟨val',e,env',ρ,sc,tF,pd++d,k',hd,.inl ⟨nb,hA,z',hsw⟩⟩
end
section
variable {c:DCx} {L:Bool} {X:Nat→Prop} {a:Act} {w:am} {val:Nat→AV} {e env:Env} {ρ:Ren} {sc tF:Hq} {pd k:List Nat} {KK:Env→Hq→Prop} {nb:Nat→Nat} {r:Option Nat} {Q:Exit→Act→am→Prop} {K:Act→am→Prop} {j:Nat} {o:Oper}
theorem Cj{h t s:Hq}{b:Nat}{x:Bool×Blk}(hv:Vis h (add t s))(hb:s b=none):Vis h (add t (hset s b x)):=λi e y hi=>by
 have ⟨e',q⟩:=hv i e y hi;cases q3:t i with
 |some z=>grind [cU]
 | none=>
   grind [cC,cG]
theorem Cl(ok:DCxOK c)(h:PhA c X val sc tF pd k nb)(z:St c c.lk X a w val e env ρ sc tF pd k c.KA)(ho:c.ops[j]?=some o)(hj:¬X j)(hr:∀i,bf c.ops i j->X i)(hN:j∈c.p.N)(next:∀a' w',DI c (λi=>i=j∨X i) a' w'->K a' w'):wpOpIn (FR r) 0 c.P c.ops Q j K a w:=by
 have dk:=ok.dk;have dj:=dk.dj;have ⟨dn,e1,e2⟩:=h.ls;have hpd:j ∉ pd:=(by grind [Dj.sn,Dj.mn])
 have hk:∀i∈k,i≠j:=(by grind [Dj.mn])
 have lb:∀m,m<c.ops.size->bf c.ops m j->m∈pd:=(by grind [DrOK.lN])
 have ag:=z.look ok ho hj hr lb;have ⟨hg0,h2⟩:=(dk.lN j hN).1 o ho;have ⟨d1,d2⟩:=ok.nD j hN o ho;have hx:∀x∈o.op.operands.toList,evD e x=evD c.env1 x:=λx hx=>by
  cases x with
  | tmp t=>
    have hl:t∈o.looksAt c.ops:=dV _ (jy.2 ⟨.tmp t,by simpa using hx,rfl⟩);show e t=c.env1 t;rw[ag t hl]
    by_cases hq:∃(i:Nat) (y:Oper),c.ops[i]?=some y/\y.dst=some t
    ·have ⟨i,y,hy,hd⟩:=hq
     by_cases hb:bf c.ops i j
     ·have hiS:=(dk.lN j hN).2 i (lU hy) hb
      rw[z.cv1 i ((e2 i).2 (.inl hiS)) y t hy hd,ok.eS i hiS y t hy hd];exact h.vs i hiS
     ·have how:Ow c.ops i:=⟨j,y,o,t,hy,ho,hd,hl,hb⟩
      have hXi:¬X i:=(by grind [St.xc,DrOK.dst])
      rw[z.cv2 t λm hm q hq hd2=>(dk.dst m i q y t hq hy hd2).1 ((by grind [St.ow])) hd,ok.e1 t λm hm q hq hd2=>(dk.dst m i q y t hq hy hd2).1 ((by grind [DrOK.oSN])) hd]
    grind [St.cv2,DCxOK.e1]
  |_=>rfl
 have hb:=(ok.nB j hN o ho)
 unfold wpOpIn;simp only[ho];have hw:Region.wanted o (yielded c.ops a.tmps)=true:=by unfold Region.wanted;rw[hg0]
 rw[hw,ak rfl];refine kU ok.g z.fit z.er (dk.ok j o ho) (d2 e sc (λv s'=>∃b,sc b=none/\v=(c.D j).2.2.2 b/\s'=hset sc b (c.B j)) hx λb hb=>⟨b,hb,rfl,rfl⟩) ?_;rintro v v' ρ' s' w' ⟨b,hb1,rfl,rfl⟩ st hrel;have htb:tF b=none:=by
  cases q:tF b with
  |none=>rfl
  |some x=>have:=st.nw b (by rw[q];simp) hb1;grind [dT]
 have hea:add (hset tF b (c.B j)) sc=add tF (hset sc b (c.B j)):=by
  grind [dT,add,cG]
 have hfit:Fit ρ' c.base sc (hset tF b (c.B j)) w':=⟨by rw[hea];exact st.fit.wr,λi x hx=>by
  by_cases q:i=b
  ·subst q;exact .inl hb1
  ·rw[cG q]at hx;exact z.fit.fr i x hx⟩
 obtain⟨val',v1,v2⟩:∃val':Nat->AV,val' j=(c.D j).2.2.2 b/\∀i,i≠j->val' i=val i:=⟨λi=>if i=j then(c.D j).2.2.2 b else val i,ak rfl,λi hi=>aj hi⟩
 have ⟨nb',n1,n2⟩:∃nb':Nat->Nat,nb' j=b/\∀i,i≠j->nb' i=nb i:=⟨λi=>if i=j then b else nb i,ak rfl,λi hi=>aj hi⟩
 obtain⟨e',f1,f2,f3⟩:=z.done ok ho hj (val':=val') v2 st.le (by rw[v1];exact hrel) hb;have nej:∀i∈pd,i≠j:=λi hi q=>hpd (q ▸ hi);have nbne:∀n∈c.p.N,X n->n≠j/\nb n≠b:=λn hn hX=>⟨λq=>hj (q ▸ hX),λq=>by have:=(h.n1 n hn hX).1;grind⟩
 have t0b:c.t0 b=none:=by grind [PhA.n2]
 refine next _ w' (mR ok (val:=val') (sc:=sc) (tF:=hset tF b (c.B j)) (pd:=pd) (k:=k) (nb:=nb') (e:=e') (env:=env) (ρ:=ρ')
  ⟨h.ls,h.pers,h.nw,λn hn hX=>?_,λi hi=>?_,λn hn n' hn' hX hX' hq=>?_,λi hi hX=>?_,λi hi=>?_⟩
  ⟨f1,by grind [ga,St.df],z.le.trans st.le,z.be.trans st.below,hfit,f2,f3,λi hi y dd hy hd=>?_,z.cv2,λi hi=>?_,λi hi q=>?_,z.co,z.cp,z.pk,z.lp,z.ap,z.kS,(by grind [St.xc]),λi hi h=>.inr (z.ow i hi h),z.kb,z.lb⟩)
 ·grind [dT,cG,PhA.n1]
 ·grind [cG,PhA.n2]
 ·grind [PhA.n3]
 ·grind [Dj.nt,PhA.nT]
 ·grind [PhA.vs]
 ·grind [St.cv1]
 ·rw[v2 i (nej i hi)]
  rcases z.fa i hi with q|⟨hh,q1,q2⟩
  ·exact .inl (.inr q)
  ·exact .inr ⟨hh,(by grind [Cj]),q2⟩
 grind [St.no]
theorem mS{P:ay}{ops:Array Oper}{m:Nat}(h:Mv P ops m):Nz P ops m:=by have ⟨o,h1,h2⟩:=h;exact⟨o,h1,h2.imp_left λq=>oM⟩
theorem ru{l:List Nat}(hk:HdO c k)(hj:j∈k)(hb:∀m l,k=m::l->Mv c.P c.ops m->j∈l->X m)(no:∀i∈k,¬X i):∃l,k=j::l:=by
 rcases hk with rfl|⟨m,l,rfl,hm⟩
 ·cases hj
 grind
theorem Cm(ok:DCxOK c)(h:DI c X a w)(ho:c.ops[j]?=some o)(hj:¬X j)(hr:∀i,bf c.ops i j->X i)(next:∀a' w',DI c (λi=>i=j∨X i) a' w'->K a' w'):wpOpIn (FR r) 0 c.P c.ops Q j K a w:=by
 have dk:=ok.dk;have dj:=dk.dj;have hlt:=lU ho;obtain⟨val,e,env,ρ,sc,tF,pd,k,hk,⟨nb,hA,z,hns⟩|⟨hB,z⟩⟩:=h
 ·have ⟨dn,e1,e2⟩:=hA.ls
  have noT:j ∉ c.p.T:=λhT=>by
   have ⟨l1,l2,q⟩:=eY hT;have ⟨_,q2,q3⟩:=dk.lT l1 j l2 q;apply hns;refine⟨?_,λn hn=>hr n (q3 n hn)⟩;rcases hk with q|⟨m,l,rfl,hm⟩
   ·exact q
   grind [chOf,mS,St.no]
  by_cases hp:j∈pd
  ·have nN:∀n∈c.p.N,n≠j:=(by grind [Dj.sn,Dj.mn])
   refine z.runPd ok ho hj hp hr (hA.lv ok) λa' w' e' ρ' z'=>next a' w' ⟨val,e',env,ρ',sc,tF,pd,k,hk,.inl ⟨nb,⟨hA.ls,hA.pers,hA.nw,λn hn hX=>?_,(by grind [PhA.n2]),λn hn n' hn' hX hX'=>?_,λi hi hX=>?_,hA.vs⟩,z',λq=>hns ⟨q.1,λn hn=>?_⟩⟩⟩
   ·exact hA.n1 n hn (hX.resolve_left (nN n hn))
   ·exact hA.n3 n hn n' hn' (hX.resolve_left (nN n hn)) (hX'.resolve_left (nN n' hn'))
   ·exact hX.elim (λq=>noT (q ▸ hi)) (hA.nT i hi)
   ·exact(q.2 n hn).resolve_left (nN n hn)
  ·rcases dk.cov j hlt with q|q|q|q
   ·exact absurd ((e2 j).2 (.inl q)) hp
   ·have hjk:j∈k:=by
     rw[e1]at q;rcases mP q with q|q
     ·exact absurd ((e2 j).2 (.inr q)) hp
     ·exact q
    obtain⟨l,rfl⟩:=ru (l:=[]) hk hjk (λm l q hm hl=>by obtain⟨l1,l2,rfl⟩:=eY hl;exact hr m ((dk.lM (dn++m::l1) j l2 (by rw[e1,q];simp)).2 m sI (mS hm) (.inl hm))) z.no
    have nN:∀n∈c.p.N,n≠j:=λn hn q'=>dj.mn j q (q' ▸ hn);have hm:Mv c.P c.ops j:=by
     rcases hk with q'|⟨m,l',q',hm⟩
     ·cases q'
     ·cases q';exact hm
    refine z.runHd ok ho hr hm λa' w' val' e' env' ρ' sc' hval hpe hnw z'=>next a' w' (mR ok (nb:=nb) ⟨⟨dn ++ [j],by rw[e1];simp,λi=>?_⟩,hA.pers.trans hpe,λi hi hs=>hnw i (λq'=>?_) (hA.nw i hi hs),λn hn hX=>?_,(by grind [PhA.n2]),(by grind [PhA.n3]),(by grind [PhA.nT]),λi hi=>?_⟩ z')
    ·grind
    ·by_cases q2:∃n∈c.p.N,X n/\nb n=i
     ·obtain⟨n,hn,hX,rfl⟩:=q2
      exact hi (hA.n1 n hn hX).2.1
     grind [PhA.n2]
    ·grind [PhA.n1]
    grind [PhA.vs]
   ·grind [Cl]
   ·exact absurd q noT
 ·have ⟨dn,e1,e2⟩:=hB.ls
  by_cases hp:j∈pd
  ·exact z.runPd ok ho hj hp hr (λq=>by rw[hB.tf];exact(ok.vla q).2) λa' w' e' ρ' z'=>next a' w' ⟨val,e',env,ρ',sc,tF,pd,k,hk,.inr ⟨hB,z'⟩⟩
  ·have hjk:j∈k:=by
    grind [DrOK.cov]
   obtain⟨l,rfl⟩:=ru (l:=[]) hk hjk (λm l q hm hl=>by
    obtain⟨l1,l2,rfl⟩:=eY hl
    grind [mS,DrOK.lT]) z.no
   have hm:Mv c.P c.ops j:=by
    rcases hk with q'|⟨m,l',q',hm⟩
    ·cases q'
    ·cases q';exact hm
   refine z.runHd ok ho hr hm λa' w' val' e' env' ρ' sc' hval hpe hnw z'=>next a' w' (rq ok ⟨⟨dn ++ [j],by rw[e1];simp,λi=>?_⟩,hB.tf,hB.pers.trans hpe,(by grind [PhB.tf,PhB.nw])⟩ z')
   grind
theorem rz(hX:∀i,i<c.ops.size->X i)(hk:HdO c k)(z:St c L X a w val e env ρ sc tF pd k KK):k=[]:=by
 rcases hk with q|⟨m,l,rfl,_⟩
 ·exact q
 ·exact absurd (hX m (z.ap.2.1 m sI)) (z.no m sI)
theorem Cn(ok:DCxOK c)(h:DI c X a w)(hX:∀i,i<c.ops.size->X i):∃e ρ sc,ER ρ c.nt e a.tmps/\a.defers=c.ds0/\Le c.ρ0 ρ/\Below c.base c.w0 w/\Fit ρ c.base sc c.t w/\Pers c.s sc/\(∀i,c.t i≠none->c.s i=none->sc i=none)/\c.Kf e sc/\∀x,(∀(i:Nat) o,c.ops[i]?=some o->o.dst≠some x)->e x=c.env0 x:=by
 have dk:=ok.dk;obtain⟨val,e,env,ρ,sc,tF,pd,k,hk,⟨nb,hA,z,hns⟩|⟨hB,z⟩⟩:=h
 ·grind [rz,DrOK.lt]
 ·obtain rfl:=rz hX hk z
  have ⟨dn,e1,e2⟩:=hB.ls;have hpd:∀i,i<c.ops.size->i∈pd:=(by grind [DrOK.cov])
  have he:env=e:=by
   funext x
   by_cases hq:∃(i:Nat) (y:Oper),c.ops[i]?=some y/\y.dst=some x
   ·grind [St.cv1,St.ev1]
   ·rw[z.cv2 x gR,z.ev2 x gR]
  have ⟨kn,_,hK⟩:=z.co;have hK:c.Kf env sc:=hK;have hfit:=z.fit;rw[hB.tf]at hfit
  grind [St.er,St.df,St.le,St.be,PhB.pers,PhB.nw,St.ev2]
theorem DI.cg{Y:Nat->Prop}(ok:DCxOK c)(hXY:∀i,i<c.ops.size->(X i↔Y i))(h:DI c X a w):DI c Y a w:=by
 have dk:=ok.dk;have ap:∀{L val e env ρ sc tF pd k KK},St c L X a w val e env ρ sc tF pd k KK->St c L Y a w val e env ρ sc tF pd k KK:=λz=>
  ⟨z.er,z.df,z.le,z.be,z.fit,λi x d hY hx=>z.ev1 i x d ((hXY i (lU hx)).2 hY) hx,λx hx=>z.ev2 x gR,z.cv1,z.cv2,λi hi=>(z.fa i hi).imp_left (hXY i (z.lp i hi)).1,λi hi hY=>z.no i hi ((hXY i (z.ap.2.1 i hi)).2 hY),z.co,z.cp,z.pk,z.lp,z.ap,z.kS,λi hl hi m hm hb=>(hXY m hm).1 (z.xc i hl ((hXY i hl).2 hi) m hm hb),λi hi how=>(hXY i (z.lp i hi)).1 (z.ow i hi how),z.kb,z.lb⟩
 have nl:=λn hn=>dk.lt n (mem4.2 (.inr (.inr (.inl hn))));obtain⟨val,e,env,ρ,sc,tF,pd,k,hk,⟨nb,hA,z,hns⟩|⟨hB,z⟩⟩:=h
 ·exact⟨val,e,env,ρ,sc,tF,pd,k,hk,.inl ⟨nb,⟨hA.ls,hA.pers,hA.nw,λn hn hY=>hA.n1 n hn ((hXY n (nl n hn)).2 hY),λi hi=>hA.n2 i gR,λn hn n' hn' hY hY'=>hA.n3 n hn n' hn' ((hXY n (nl n hn)).2 hY) ((hXY n' (nl n' hn')).2 hY'),λi hi hY=>hA.nT i hi ((hXY i (dk.lt i (mem4.2 (.inr (.inr (.inr hi)))))).2 hY),hA.vs⟩,ap z,(by simp_all)⟩⟩
 ·exact⟨val,e,env,ρ,sc,tF,pd,k,hk,.inr ⟨hB,ap z⟩⟩
end
def lock(s h:Hq):Hq:=λb=>match h b with
 |none=>s b
 |some _=>frz s b
def mU(P:ay)(nt:Nat)(ops:Array Oper)(p:Plan)(lk:Nat)(env:Env)(K:Env->Hq->Prop)(s:Hq):Prop:=match lk with
 | 0=>kV P nt ops.toList p s s id env K
 | 1=>∃h,Sub h s/\kV P nt ops.toList p h (lock s h) (add h) env K
 |_=>∃h,Sub h s/\kV P nt ops.toList p h (lock s h) id env (λe s'=>K e (add h s'))
def lkB:Nat->Bool
 | 0=>false
 |_=>true
def laB:Nat->Bool
 | 0 | 1=>false
 |_=>true
section
variable {P:ay} {r:Option Nat} {ops:Array Oper} {nt base:Nat} {ρ:Ren} {s t h:Hq} {w:am} {env:Env} {a:Act} {p:Plan} {lk late:Bool}
theorem jA{i:Nat}{x:Bool×Blk}(hi:h i=some x):lock s h i=frz s i:=by unfold lock;rw[hi]
theorem gB{i:Nat}(hi:h i=none):lock s h i=s i:=by unfold lock;rw[hi]
theorem eK{i:Nat}{x:Bool×Blk}(hi:s i=some x):frz s i=some (true,x.2):=by unfold frz;rw[hi]
theorem Fit.lock(hf:Fit ρ base s t w)(hs:Sub h s):Fit ρ base (lock s h) (add t h) w:=by
 have e:add (add t h) (AM.lock s h)=add t s:=by
  funext i
  cases q:t i with
  |some x=>rw[cU (cU q),cU q]
  | none=>
    cases q2:h i with
    |some y=>rw[cU (e:=y) (by rw[cC q];exact q2),cC q];exact(hs i y q2).symm
    |none=>rw[cC (by rw[cC q];exact q2),cC q,gB q2]
 refine⟨by rw[e];exact hf.wr,λi x hx=>?_⟩;cases q2:h i with
 | none=>
   rw[gB q2];cases q:t i with
   |none=>grind [cC]
   |some y=>rw[cU q]at hx;cases hx;exact hf.fr i _ q
 | some y=>
   rw[jA q2,eK (hs i y q2)];cases q:t i with
   |none=>grind [cC]
   | some y'=>
     rw[cU q]at hx;cases hx;rcases hf.fr i _ q with k|k
     ·rw[hs i y q2]at k;cases k
     ·rw[hs i y q2]at k;cases k;exact .inr rfl
theorem Vis.lock(hf:Fit ρ base s t w)(hs:Sub h s):Vis h (add t h):=λi e b hi=>by
 cases q:t i with
 |none=>grind [cC]
 | some x=>
   rcases hf.fr i x q with k|k
   ·rw[hs i _ hi]at k;cases k
   ·rw[hs i _ hi]at k;grind [cU]
theorem Vis.own(hf:Fit ρ base s t w):Vis s (add t s):=Vis.lock hf λ_ _ h=>h
theorem rA(hf:Fit ρ base s t w)(hs:Sub h s)(s':Hq)(hp:Pers (lock s h) s')(hn:∀i,add t h i≠none->lock s h i=none->s' i=none)(hfr:∀i x,add t h i=some x->s' i=none∨s' i=some (true,x.2)):
  add t (add h s')=add (add t h) s'/\(∀i x,t i=some x->add h s' i=none∨add h s' i=some (true,x.2))/\Pers s (add h s')/\∀i,t i≠none->s i=none->add h s' i=none:=by
 refine⟨?_,λi x hx=>?_,λi b hi=>?_,λi hi hsn=>?_⟩
 ·grind [add]
 ·cases q2:h i with
  | some y=>
    rw[cU q2];rcases hf.fr i x hx with k|k
    ·rw[hs i y q2]at k;cases k
    ·rw[hs i y q2]at k;exact .inr k
  |none=>grind [cC,cU]
 ·cases q2:h i with
  |some y=>rw[cU q2];rw[hs i y q2]at hi;exact hi
  |none=>rw[cC q2];exact hp i b (by grind [gB])
 ·have q2:h i=none:=by
   cases q:h i with
   |none=>rfl
   |some y=>rw[hs i y q]at hsn;cases hsn
  rw[cC q2];exact hn i (by
   cases q:t i with
   |none=>exact absurd q hi
   |some y=>rw[cU q];simp) (by grind [gB])
theorem Co(g:Grd P)(dk:DrOK P ops p lk late)(hnB:∀n∈p.N,∀o,ops[n]?=some o->∀d,o.dst=some d->blt d nt=true){id:Nat}{sM t0:Hq}{un:Hq->Hq}{K:Env->Hq->Prop}{Q:Exit->Act->am->Prop}(hm:P.follows .mixedOrders=true)(hT:ER ρ nt env a.tmps)(hf0:Fit ρ base sM t0 w)(hvi:Vis h (add t0 sM))(hvl:lk=true->Vis h t0)(hva:late=true->lk=true/\Vis h t)
  (hun:∀s',Pers sM s'->(∀i,t0 i≠none->sM i=none->s' i=none)->(∀i x,t0 i=some x->s' i=none∨s' i=some (true,x.2))->add t (un s')=add t0 s'/\(∀i x,t i=some x->un s' i=none∨un s' i=some (true,x.2))/\Pers s (un s')/\∀i,t i≠none->s i=none->un s' i=none)
  (hk:kV P nt ops.toList p h sM un env K) (hQ:∀e s' ρ' a' w',K e s'->(∀x,(∀(i:Nat) o,ops[i]?=some o->o.dst≠some x)->e x=env x)->Stp ρ ρ' base s s' t w w'->ER ρ' nt e a'.tmps->a'.defers=a.defers->Q .normal a' w'):(Code.region id ops true).wpIn (FR r) 0 P Q a w:=by
 have ⟨env1,vS,k1,k2,k3⟩:=rf dk.ok p.S [] env dk.apS (λi hi=>dk.oSN i (by simp[hi])) .nil hk;have ⟨D,k4,k5⟩:=rh p.N dk.dj.N (λi hi=>dk.lt i (mem4.2 (.inr (.inr (.inl hi))))) k1
 let c:DCx:=⟨P,ops,nt,p,lk,late,h,s,sM,t,t0,un,env,env1,K,D,vS,base,ρ,w,a.defers⟩
 have ok:DCxOK c:=⟨g,dk,hvl,hva,hun,k5,hnB,gR,k2⟩
 refine Cd (r:=r) hm dk.rg (DI c) (λX a' w' j o KK hI _ ho hj hr next=>Cm ok hI ho hj hr next) (λX a' w' hX hI=>?_) ?_ (by grind [DI.cg])
 ·have ⟨e,ρ',sc,q1,q2,q3,q4,q5,q6,q7,q8,q9⟩:=Cn ok hI hX
  exact hQ e sc ρ' a' w' q8 q9 ⟨q3,q4,q6,q5,q7⟩ q1 q2
 ·refine mR ok (val:=vS) (e:=env) (env:=env1) (ρ:=ρ) (sc:=sM) (tF:=t0) (pd:=p.S) (k:=p.M) (nb:=λ_=>0) ⟨⟨[],rfl,λi=>gR⟩,λ_ _ h=>h,λ_ _ h=>h,λ_ _ h=>h.elim,λ_ _=>rfl,λ_ _ _ _ h=>h.elim,λ_ _ h=>h,λ_ _=>rfl⟩
   ⟨hT,rfl,.refl _,?_,hf0.same rfl,λ_ _ _ h=>h.elim,λ_ _=>rfl,gR,k2,λi hi=>.inr ⟨h,λhz=>?_,λo ho=>(k3 i hi o ho).1⟩,λ_ _ h=>h,⟨[],.nil,k4⟩,λi hi m hm hb=>?_,dk.dj.sm,λi hi=>dk.lt i (mem4.2 (.inl hi)),dk.apM,λi hi q=>dk.dj.sm i q hi,λ_ _ h=>h.elim,(by grind [DrOK.oSN]),(by grind [DrOK.lM]),(by grind [DrOK.lM])⟩
  ·exact Nv (.refl _ _)
  ·grind [DrOK.lk]
  ·have ⟨l1,l2,q⟩:=eY hi
   grind [DrOK.lS]
theorem Cp{lk:Nat}(g:Grd P)(dk:DrOK P ops p (lkB lk) (laB lk))(hnB:∀n∈p.N,∀o,ops[n]?=some o->∀d,o.dst=some d->blt d nt=true){id:Nat}{K:Env->Hq->Prop}{Q:Exit->Act->am->Prop}(hm:P.follows .mixedOrders=true)(hT:ER ρ nt env a.tmps)(hf:Fit ρ base s t w)
  (hk:mU P nt ops p lk env K s) (hQ:∀e s' ρ' a' w',K e s'->(∀x,(∀(i:Nat) o,ops[i]?=some o->o.dst≠some x)->e x=env x)->Stp ρ ρ' base s s' t w w'->ER ρ' nt e a'.tmps->a'.defers=a.defers->Q .normal a' w'):(Code.region id ops true).wpIn (FR r) 0 P Q a w:=by
 have vl:∀{h},Sub h s->Vis h (add (add t h) (lock s h)):=λhs i e b hi=>by
  have ⟨e',q⟩:=Vis.lock hf hs i e b hi
  grind [cU]
 unfold mU at hk;split at hk
 ·exact Co (t0:=t) g dk hnB hm hT hf (Vis.own hf) (λh=>nomatch h) (λh=>nomatch h) (λs' h1 h2 h3=>⟨rfl,h3,h1,h2⟩) hk hQ
 ·obtain⟨h,hs,hk⟩:=hk
  exact Co (t0:=add t h) g dk hnB hm hT (hf.lock hs) (vl hs) (λ_=>Vis.lock hf hs) (λh=>nomatch h) (rA hf hs) hk hQ
 ·have ⟨h,hs,hk⟩:=hk
  refine Co (s:=lock s h) (t:=add t h) (t0:=add t h) g dk hnB hm hT (hf.lock hs) (vl hs) (λ_=>Vis.lock hf hs) (λ_=>⟨?_,Vis.lock hf hs⟩) (λs' h1 h2 h3=>⟨rfl,h3,h1,h2⟩) hk λe s' ρ' a' w' k1 k2 k3 k4 k5=>?_
  ·cases lk with
   |zero=>grind
   |succ n=>rfl
  ·have ⟨u1,u2,u3,u4⟩:=rA hf hs s' k3.pers k3.nw k3.fit.fr
   exact hQ e _ ρ' a' w' k1 k2 ⟨k3.le,k3.below,u3,⟨by rw[u1];exact k3.fit.wr,u2⟩,u4⟩ k4 k5
end
def bfB(mk:List Nat)(i j:Nat):Bool:=Nat.testBit (mk.getD j 0) i
def atL(p:Nat->Bool)(cl:List Nat)(i:Nat):Bool:=match cl[i]? with
 |some c=>p c
 |none=>false
def nzB(cl:List Nat)(i:Nat):Bool:=atL (λc=>blt 0 c) cl i
def mvB(cl:List Nat)(i:Nat):Bool:=atL (λc=>blt 1 c) cl i
def ordB(mk cl:List Nat)(n:Nat)(chk:Bool)(pre ch:List Nat):List Nat->List Nat->Bool
 |_,[]=>true
 |done,j::l=>((List.range n).all λi=>!bfB mk i j||(memN i pre||memN i done))&&((!chk||(ch++done).all λm=>!(nzB cl m&&(mvB cl m||mvB cl j))||bfB mk m j)&&ordB mk cl n chk pre ch (done ++ [j]) l)
def dstB(mk:List Nat)(ops:List Oper)(arr:Array Oper):List Oper->Nat->Bool
 |[],_=>true
 | x::xs,i=>(match x.dst with
   |none=>true
   | some d=>(List.range ops.length).all λj=>match ops[j]? with
     |none=>true
     |some y=>(beq i j||(match y.dst with|none=>true|some e=>!beq d e))&&(!memN d (y.looksAt arr)||(!beq i j&&(bfB mk i j||bfB mk j i))))&&dstB mk ops arr xs (i+1)
def wY:List Nat->Bool
 |[]=>true
 |x::xs=>!memN x xs&&wY xs
def owB(mk:List Nat)(ops:List Oper)(arr:Array Oper)(x:Oper)(i:Nat):Bool:=match x.dst with
 |none=>false
 | some d=>(List.range ops.length).any λj=>match ops[j]? with
   |none=>false
   |some y=>memN d (y.looksAt arr)&&!bfB mk i j
def clsA(P:ay)(mk:List Nat)(ops:List Oper)(arr:Array Oper):List Oper->Nat->List Nat
 |[],_=>[]
 |o::os,i=>cond (owB mk ops arr o i) 3 (clsD P o.op)::clsA P mk ops arr os (i+1)
def clsL(P:ay)(ops:Array Oper):List Nat:=clsA P (masks ops.toList []) ops.toList ops ops.toList 0
def drB(P:ay)(nt:Nat)(ops:Array Oper)(p:Plan)(lk late:Bool):Bool:=
 let mk:=masks ops.toList []
 let cl:=clsL P ops
 let n:=ops.toList.length
 pX ops.toList&&((ops.toList.all λo=>okOp o.op)&&(((List.range n).all λj=>memN j p.S||(memN j p.M||(memN j p.N||memN j p.T)))&&(wY (p.S++(p.M++(p.N++p.T)))&&(((p.S++(p.M++(p.N++p.T))).all λj=>blt j n)&&(dstB mk ops.toList ops ops.toList 0&&(((p.S++p.N).all λi=>match ops.toList[i]? with|none=>true|some x=>!owB mk ops.toList ops x i) &&
  (ordB mk cl n false [] [] [] p.S&&(ordB mk cl n true p.S [] [] p.M&&(ordB mk cl n true (p.S++(p.M++p.N)) (chOf late p) [] p.T&&((p.T.all λj=>p.N.all λi=>bfB mk i j) &&
  ((p.N.all λi=>(match ops.toList[i]? with
    |none=>false
    |some o=>o.guard.isNone&&(beq (clsD P o.op) 2&&(match o.dst with|none=>true|some d=>blt d nt)))&&(List.range n).all λm=>!bfB mk m i||memN m p.S) &&
  (lk||p.M.all λm=>!mvB cl m||p.S.all λi=>!nzB cl i||bfB mk i m))))))))))))
section
variable {P:ay} {nt:Nat} {ops:Array Oper} {p:Plan} {lk late:Bool}
theorem jB{i:Nat}:∀{l:List Nat},memN i l=true↔i∈l
 |[]=>by simp[memN]
 | j::l=>by
   unfold memN;cases h:beq i j with
   |true=>simp_all
   | false=>
     have:i≠j:=λe=>by simp_all
     simp[jB (l:=l),this]
theorem NT{mk:List Nat}{os:List Oper}{arr:Array Oper}:∀(l:List Oper) (k i:Nat),(clsA P mk os arr l k)[i]?=(l[i]?).map λo=>cond (owB mk os arr o (k+i)) 3 (clsD P o.op)
 |[],_,i=>by simp[clsA]
 |o::l,k,0=>by simp[clsA]
 | o::l,k,i+1=>by
   simp only[clsA,g1Y];rw[NT l (k+1) i,show k+1+i=k+(i+1)by omega]
theorem rC{i:Nat}{o:Oper}(ho:ops[i]?=some o):owB (masks ops.toList []) ops.toList ops o i=true↔Ow ops i:=by
 unfold owB;constructor
 ·intro h
  split at h
  ·cases h
  ·rename_i d hd
   have ⟨j,_,hj⟩:=any_eq_true.1 h;split at hj
   ·cases hj
   ·rename_i y hy
    rw[Bool.and_eq_true,Bool.not_eq_true']at hj;exact⟨j,o,y,d,ho,gR,hd,jB.1 hj.1,λq=>by have q:bfB (masks ops.toList []) i j=true:=q;rw[q]at hj;cases hj.2⟩
 ·rintro ⟨j,x,y,d,hx,hy,hd,hl,hb⟩
  rw[ho]at hx;cases hx;rw[hd];refine any_eq_true.2 ⟨j,gR,?_⟩;have hy2:ops.toList[j]?=some y:=gR;simp only[hy2];rw[Bool.and_eq_true,Bool.not_eq_true'];refine⟨jB.2 hl,?_⟩;cases q:bfB (masks ops.toList []) i j with
  |false=>rfl
  |true=>exact absurd q hb
theorem rD{q:Nat->Bool}{i:Nat}(h3:q 3=true):atL q (clsL P ops) i=true↔∃o,ops[i]?=some o/\(q (clsD P o.op)=true∨Ow ops i):=by
 grind [atL,clsL,NT,rC]
theorem mX{i:Nat}:nzB (clsL P ops) i=true↔Nz P ops i:=by unfold nzB Nz;rw[rD rfl];simp only[blt_eq,Nat.pos_iff_ne_zero]
theorem rE{i:Nat}:mvB (clsL P ops) i=true↔Mv P ops i:=by
 simp_all [mvB,Mv,rD]
theorem oU{mk cl:List Nat}{n:Nat}{chk:Bool}{pre ch:List Nat}:∀(l done:List Nat),ordB mk cl n chk pre ch done l=true->∀l1 j l2,l=l1++j::l2->(∀i,i<n->bfB mk i j=true->i∈pre∨i∈done++l1)/\(chk=true->∀m∈ch++(done++l1),nzB cl m=true->(mvB cl m=true∨mvB cl j=true)->bfB mk m j=true)
 |[],_,_,l1,j,l2,e=>by cases l1<;>cases e
 | x::xs,done,h,l1,j,l2,e=>by
   unfold ordB at h;simp only[Bool.and_eq_true]at h;have ⟨h1,h2,h3⟩:=h;cases l1 with
   | nil=>
     grind [jB]
   | cons y ys=>
     cases e;have:=oU _ _ h3 ys j l2 rfl
     grind
theorem NU:∀{l:List Nat},wY l=true->l.Nodup
 |[],_=>.nil
 | x::xs,h=>by
   unfold wY at h;simp only[Bool.and_eq_true,Bool.not_eq_true']at h;refine fB.2 ⟨λq=>?_,NU h.2⟩
   grind [jB]
theorem rF{mk:List Nat}{os:List Oper}{arr:Array Oper}:∀(l:List Oper) (k:Nat),dstB mk os arr l k=true->∀i x d j y,l[i]?=some x->x.dst=some d->os[j]?=some y->(k+i≠j->y.dst≠some d)/\(d∈y.looksAt arr->k+i≠j/\(bfB mk (k+i) j=true∨bfB mk j (k+i)=true))
 |[],_,_,i,x,_,_,_,h,_,_=>by simp at h
 | z::zs,k,h,i,x,d,j,y,hx,hd,hy=>by
   unfold dstB at h;simp only[Bool.and_eq_true]at h;cases i with
   | zero=>
     simp only[g0Y,Option.some.injEq]at hx;subst hx;have h1:=h.1;rw[hd]at h1;have:=bU.1 h1 j (by have:=(gS hy).1;simp[this]);simp only[hy,Bool.and_eq_true,Bool.or_eq_true]at this;have ⟨a1,a2⟩:=this;refine⟨λhne he=>?_,λhl=>?_⟩
     ·rcases a1 with q|q
      ·exact hne (by have:=bE q;omega)
      ·rw[he]at q;simp at q
     ·rcases a2 with q|q
      ·grind [jB]
      ·exact⟨λe=>(by simp_all),by simpa using q.2⟩
   | succ i=>
     have:=rF zs (k+1) h.2 i x d j y (by simpa using hx) hd hy
     grind
theorem Cq(h:drB P nt ops p lk late=true):DrOK P ops p lk late/\∀n∈p.N,∀o,ops[n]?=some o->∀d,o.dst=some d->blt d nt=true:=by
 unfold drB at h;simp only[Bool.and_eq_true]at h;have ⟨h1,h2,h3,h4,h5,h6,hO,h7,h8,h9,h10,h11,h12⟩:=h;have hn:ops.toList.length=ops.size:=sI;rw[hn]at h3 h5 h7 h8 h9 h11;have hN:∀n∈p.N,∀o,ops[n]?=some o->o.guard=none/\clsD P o.op=2/\∀d,o.dst=some d->blt d nt=true:=λn hn o ho=>by
  have:=bU.1 h11 n hn;rw[Bool.and_eq_true]at this;have:=this.1;rw[Array.getElem?_toList,ho]at this;simp only[Bool.and_eq_true]at this;refine⟨by simpa using this.1,bE this.2.1,λd hd=>?_⟩
  grind
 refine⟨⟨h1,λj o ho=>?_,λj hj=>?_,NU h4,λj hj=>?_,λi j x y d hx hy hd=>?_,λi hi how=>?_,λl1 j l2 e i hi hb=>?_,λl1 j l2 e=>⟨λi hi hb=>?_,λm hm hz hmv=>?_⟩,λn hn=>⟨λo ho=>gR,λi hi hb=>?_⟩,λl1 j l2 e=>⟨λi hi hb=>?_,λm hm hz hmv=>?_,λn hn=>?_⟩,λhl m hm hmv i hi hz=>?_⟩,λn hn o ho=>(hN n hn o ho).2.2⟩
 ·grind
 ·have:=bU.1 h3 j (by simp[hj])
  grind [jB]
 ·have:=bU.1 h5 j hj
  simpa using this
 ·have:=rF ops.toList 0 h6 i x d j y gR hd gR
  rw[zAY]at this;exact this
 ·have:=bU.1 hO i hi
  have ⟨_,x,_,_,hx,_⟩:=id how;rw[Array.getElem?_toList,hx]at this
  grind [rC]
 ·have:=(oU p.S [] h7 l1 j l2 e).1 i hi hb
  simpa using this
 ·have:=(oU p.M [] h8 l1 j l2 e).1 i hi hb
  simpa using this
 ·exact(oU p.M [] h8 l1 j l2 e).2 rfl m (by simpa using hm) (mX.2 hz) (hmv.imp rE.2 rE.2)
 ·have:=bU.1 h11 n hn
  rw[Bool.and_eq_true]at this;have:=bU.1 this.2 i (by simp[hi]);have hb:bfB (masks ops.toList []) i n=true:=hb
  grind [jB]
 ·have:=(oU p.T [] h9 l1 j l2 e).1 i hi hb
  grind
 ·exact(oU p.T [] h9 l1 j l2 e).2 rfl m gR (mX.2 hz) (hmv.imp rE.2 rE.2)
 ·exact bU.1 (bU.1 h10 j (by rw[e];simp)) n hn
 ·rw[hl,Bool.false_or]at h12
  have:=bU.1 h12 m hm;rw[rE.2 hmv,Bool.not_true,Bool.false_or]at this;have:=bU.1 this i hi;rw[mX.2 hz,Bool.not_true,Bool.false_or]at this;exact this
end
def insP(mk cl:List Nat)(j:Nat):List Nat->List Nat
 |[]=>[j]
 |m::l=>cond (mvB cl m&&!bfB mk m j) (j::m::l) (m::insP mk cl j l)
def rG(mk cl:List Nat):Nat->List Nat->List Nat
 | 0,out=>out
 |k+1,out=>rG mk cl k (let j:=cl.length-(k+1);cond (mvB cl j) (out ++ [j]) (insP mk cl j out))
def mY(P:ay)(A:Nat->List Nat)(id:Nat)(ops:Array Oper):Plan:=match A (3000000+id)with
 |[]=>⟨[],rG (masks ops.toList []) (clsL P ops) ops.size [],[],[]⟩
 |_=>⟨A (2000000+4*id),A (2000001+4*id),A (2000002+4*id),A (2000003+4*id)⟩
def lkOf(A:Nat->List Nat)(id:Nat):Nat:=match A (3000000+id)with
 |l::_=>l
 |[]=>0
def kW:AExit->Exit
 | .nrm=>.normal
 | .exit id=>.exit id
 | .ret=>.ret
def RR(ρ:Ren):Option Nat->Option Nat->Prop
 |none,r=>r=none
 |some l,r=>∃L,ρ l=some L/\r=some L.blk
theorem RR.mono{ρ ρ':Ren}{x r:Option Nat}(h:RR ρ x r)(hl:Le ρ ρ'):RR ρ' x r:=by rcases x with _|l;exact h;have ⟨L,h1,h2⟩:=h;exact⟨L,hl _ _ h1,h2⟩
def mixE(slots:List Nat)(f env:Env):Env:=λj=>cond (memN j slots) (f j) (env j)
def rH:List Oper->List Nat
 |[]=>[]
 | o::os=>match o.dst with
   |some d=>d::rH os
   |none=>rH os
def assigned:Code->List Nat
 | .region _ ops _=>rH ops.toList
 | .seq a b=>assigned a++assigned b
 | .cond _ a b=>assigned a++assigned b
 | .block _ b=>assigned b
 | .loop b=>assigned b
 |_=>[]
def lV:Code->Nat
 | .region id _ _=>id
 | .seq a _=>lV a
 | .block _ b=>lV b
 | .loop b=>lV b
 | .cond _ a _=>lV a
 |_=>0
def rI(ls slots:List Nat)(body:Env->(AExit->Env->Hq->Prop)->Hq->Prop)(env:Env)(K:AExit->Env->Hq->Prop)(s:Hq):Prop:=
 ∃I:List AV->Hq->Nat->Prop,(∃m,I (ls.map env) s m)/\∀(f:Env) (s:Hq) (m:Nat),I (ls.map f) s m->
  body (mixE slots f env) (λe env' s'=>match e with
   | .nrm=>∃m',m'<m/\I (ls.map env') s' m'
   |e=>K e env' s') s
def mZ(l:Nat)(s:Hq):Prop:=match s l with
 |some (_,.loop _ _ _ _ _ _ _ _)=>True
 |_=>False
def rJ(l:Nat)(K:AExit->Hq->Prop)(s:Hq):Prop:=match s l with
 | some (false,.loop st pd _ _ _ _ _ _)=>st≠.busy/\(match pd with
   |none=>K .nrm (hdel s l)
   |some .ret=>K .ret (hdel s l)
   |some (.exit id)=>K (.exit id) (hdel s l)
   |some _=>False)
 |_=>False
def rndK(rnd:Option Nat)(s:Hq):Prop:=match rnd with
 |none=>True
 |some l=>mZ l s
def rK(s:Hq)(x:AV):Option (Nat×Option Nat×Nat×Nat×List AEnt):=match x with
 | .ptr r 0=>match s r with
   |some (false,.iter none since [] stepped)=>cond (ble since stepped) (some (r,none,since,since,[])) none
   | some (false,.iter (some m) since [] stepped)=>match s m with
     |some (_,.map es c)=>cond (ble since stepped&&(ble since c&&(jV since es&&blt es.length 900))) (some (r,some m,since,c,es)) none
     |_=>none
   |_=>none
 |_=>none
def kX(s0:Hq)(mo:Option Nat)(c:Nat)(es:List AEnt):Prop:=match mo with
 |none=>es=[]
 |some m=>∃t,s0 m=some (t,.map es c)
abbrev Cr(st:MapStep)(env:Env)(e:AEnt):Env:=upd (upd env st.nx (.tup [true,e.key,e.val])) st.more true
abbrev Cs(st:MapStep)(env:Env):Env:=upd (upd env st.nx (.tup [false])) st.more false
def NV(st:MapStep)(ls slots:List Nat)(body:Env->(AExit->Env->Hq->Prop)->Hq->Prop)(env:Env)(K:AExit->Env->Hq->Prop)(s:Hq):Prop:=
 oK (rK s (env st.it)) λp=>∃I:List Nat->List AV->Hq->Prop,I [] (ls.map env) (hdel s p.1)/\
  ∀(sn:List Nat) (f:Env) (s1:Hq),I sn (ls.map f) s1->s1 p.1=none->kX s1 p.2.1 p.2.2.2.1 p.2.2.2.2/\
   (∀e∈p.2.2.2.2,hasN e.born sn=false->body (Cr st (mixE slots f env) e) (λex env' s2=>match ex with
    | .nrm=>I (sn ++ [e.born]) (ls.map env') (hdel s2 p.1)
    |ex=>K ex env' (hdel s2 p.1)) (hset s1 p.1 (true,.iter p.2.1 p.2.2.1 (sn ++ [e.born]) p.2.2.2.1)))/\
   ((∀e∈p.2.2.2.2,hasN e.born sn=true)->body (Cs st (mixE slots f env)) (λex env' s2=>match ex with
     | .nrm=>False
     |ex=>K ex env' s2) s1)
def wZ(nt:Nat)(st:MapStep)(slots:List Nat):Bool:=(!memN st.it slots)&&((memN st.nx slots&&memN st.more slots)&&(blt st.nx nt&&blt st.more nt))
def rL(P:ay)(A:Nat->List Nat)(nt:Nat)(rnd:Option Nat)(f:AV)(ps:Array Tmp)(az bo:Code)(env:Env)(K:AExit->Hq->Prop)(s:Hq):Prop:=match f with
 | .fn (.func k) first cap=>isFn P k=true/\rndK rnd s/\∀l d,s l=none->wC P k (first ++ [.yield l]++cap) (λ_ s=>rJ l K s) (hset s l (false,.loop .ready none nt ((A (2*lV bo+1)).map λi=>(i,env i)) ps.toList az bo d))
 |_=>False
def wpC(P:ay)(A:Nat->List Nat)(nt:Nat)(rnd:Option Nat):Code->Env->(AExit->Env->Hq->Prop)->Hq->Prop
 | .skip,env,K,s=>K .nrm env s
 | .region id ops draw,env,K,s=>cond draw (cond (drB P nt ops (mY P A id ops) (lkB (lkOf A id)) (laB (lkOf A id))) (mU P nt ops (mY P A id ops) (lkOf A id) env (λenv s=>K .nrm env s) s) False)
   (cond (ops.toList.all λo=>okOp o.op) (opsE P nt ops.toList ops.toList [] env (λenv s=>K .nrm env s) s) False)
 | .seq a b,env,K,s=>wpC P A nt rnd a env (λe env s=>match e with
   | .nrm=>wpC P A nt rnd b env K s
   |e=>K e env s) s
 | .cond c a b,env,K,s=>cond (okX c) (ao (evD env c) (wpC P A nt rnd a env K s) (wpC P A nt rnd b env K s)) False
 | .block id b,env,K,s=>wpC P A nt rnd b env (λe env s=>match e with
   | .exit id'=>cond (beq id' id) (K .nrm env s) (K (.exit id') env s)
   |e=>K e env s) s
 | .loop b,env,K,s=>match mA b with
   | some st=>cond (wZ nt st (assigned b)) (NV st (A (2*lV b)) (assigned b) (match b with
     | .seq _ r=>λenv K s=>wpC P A nt rnd r env K s
     |_=>λ_ _ _=>False) env K s) False
   |none=>rI (A (2*lV b)) (assigned b) (λenv K s=>wpC P A nt rnd b env K s) env K s
 | .exit id,env,K,s=>K (.exit id) env s
 | .ret,env,K,s=>K .ret env s
 | .rangeFunc f ps az bo,env,K,s=>cond (okX f) (rL P A nt rnd (evD env f) ps az bo env (λe s=>K e env s) s) False
 |_,_,_,_=>False
section
variable (P : ay)
def resK:List ResultVar->Env->(List AV->Prop)->Hq->Prop
 |[],_,k,_=>k []
 | .tmp t::rs,env,k,s=>resK rs env (λvs=>k (env t::vs)) s
 | .cell a t::rs,env,k,s=>gP P t (env a) (λv=>resK rs env (λvs=>k (v::vs)) s) s
end
def retK(e:AExit)(p:Prop):Prop:=match e with
 | .exit _=>False
 |_=>p
def mkH(ms:List Nat):Hq:=λi=>if i∈ms then some (false,.deferred true)else none
theorem w9:∀{l:List Oper}{o:Oper}{d:Nat},o∈l->o.dst=some d->d∈rH l
 |[],_,_,h,_=>by cases h
 | p::l,o,d,h,hd=>by
   unfold rH;rcases mCY h with rfl|h
   ·grind
   ·cases p.dst with
    |none=>exact w9 h hd
    |some _=>exact mO _ (w9 h hd)
theorem Ut{s:Hq}{x:AV}{r since c:Nat}{mo:Option Nat}{es:List AEnt}(h:rK s x=some (r,mo,since,c,es)):x=Pp r/\∃stepped,s r=some (false,.iter mo since [] stepped)/\since<=stepped/\since<=c/\jV since es=true/\es.length<900/\kX (hdel s r) mo c es:=by
 unfold rK at h;split at h
 ·rename_i r'
  split at h
  ·rename_i since stepped hr
   cases e:ble since stepped with
   |false=>rw[e]at h;cases h
   | true=>
     rw[e]at h;cases h;exact⟨rfl,stepped,hr,cJ e,Nat.le_refl _,rfl,sI,rfl⟩
  ·rename_i m since stepped hr
   split at h
   ·rename_i t es' c hm
    cases e:(ble since stepped&&(ble since c&&(jV since es'&&blt es'.length 900)))with
    |false=>rw[e]at h;cases h
    | true=>
      rw[e]at h;cases h;simp only[Bool.and_eq_true,blt_eq]at e;refine⟨rfl,stepped,hr,cJ e.1,cJ e.2.1,e.2.2.1,e.2.2.2,t,?_⟩;show(if m=r then none else s m)=_
      grind
   ·cases h
  ·cases h
 ·cases h
theorem NW{b:Code}{st:MapStep}(h:mA b=some st):∃a,b=.seq a st.rest:=by
 unfold mA at h
 grind
theorem NY{w:am}{B:Nat}{o0:Obj}(o:Obj)(h:w.heap[B]?=some o0):Upd w B o (w.putObj B o):=
 ⟨rfl,rfl,rfl,sI,am.putObj_heap_same (qF h),λ_ hk=>am.putObj_heap_other hk⟩
def DRel(ρ:Ren):List Nat->List cx->List cx->Prop
 |[],ds,ds0=>ds=ds0
 |m::ms,ds,ds0=>∃L ds',ρ m=some L/\ds={ target:=.collected L.blk,args:=#[] }::ds'/\DRel ρ ms ds' ds0
theorem DRel.mono{ρ ρ':Ren}(h:Le ρ ρ'){ds0:List cx}:∀{ms:List Nat}{ds:List cx},DRel ρ ms ds ds0->DRel ρ' ms ds ds0
 |[],_,r=>r
 |_::_,_,⟨L,ds',h1,h2,h3⟩=>⟨L,ds',h _ _ h1,h2,DRel.mono h h3⟩
def Ms(ρ:Ren)(t t1 s:Hq)(ds0 ds:List cx):Prop:=∃ms:List Nat,t1=add t (mkH ms)/\(∀i∈ms,t i=none/\s i=none)/\ms.Nodup/\DRel ρ ms ds ds0
structure SG(ρ ρ':Ren)(base:Nat)(s s' t t2:Hq)(w w':am):Prop where
 le:Le ρ ρ'
 below:Below base w w'
 pers:Pers s s'
 fit:Fit ρ' base s' t2 w'
 nw:∀i,t i≠none->s i=none->s' i=none
section
variable {P:ay} {A:Nat→List Nat} {nt base:Nat} {rnd:Option Nat} {ρ ρ' ρ1 ρ2:Ren} {s s' s1 s2 t t1 t2:Hq} {w w' w1 w2:am} {ds0 ds:List cx} {env:Env} {a:Act}
theorem oV{ms:List Nat}{i:Nat}(h:i∈ms):mkH ms i=some (false,.deferred true):=ak h
theorem Ct{ms:List Nat}{i:Nat}(h:i ∉ ms):mkH ms i=none:=aj h
theorem Ms.nil:Ms ρ t t s ds ds:=⟨[],by funext i;unfold add;cases t i<;>rfl,(λ_ h=>nomatch h),.nil,rfl⟩
theorem Ms.step(h:Ms ρ t t1 s ds0 ds)(st:Stp ρ ρ' base s s' t1 w w'):Ms ρ' t t1 s' ds0 ds:=by obtain⟨ms,rfl,h1,h2,h3⟩:=h;exact⟨ms,rfl,λi hi=>⟨(h1 i hi).1,st.nw i (by rw[cC (h1 i hi).1,oV hi];simp) (h1 i hi).2⟩,h2,h3.mono st.le⟩
theorem Ms.sub(h:Ms ρ t t1 s ds0 ds)(hs:∀i,s i=none->s' i=none):Ms ρ t t1 s' ds0 ds:=by obtain⟨ms,rfl,h1,h2,h3⟩:=h;exact⟨ms,rfl,λi hi=>⟨(h1 i hi).1,hs i (h1 i hi).2⟩,h2,h3⟩
theorem Ms.fr(h:Ms ρ t t1 s ds0 ds){i:Nat}(hi:t i≠none):t1 i=t i:=by
 obtain⟨ms,rfl,h1,h2,h3⟩:=h;cases q:t i with
 |none=>exact absurd q hi
 |some x=>exact cU q
theorem SG.refl(h:Fit ρ base s t1 w):SG ρ ρ base s s t t1 w w:=⟨.refl _,.refl _ _,.refl _,h,λ_ _ h=>h⟩
theorem SG.trans(h:SG ρ ρ1 base s s1 t t1 w w1)(k:SG ρ1 ρ2 base s1 s2 t t2 w1 w2):SG ρ ρ2 base s s2 t t2 w w2:=
 ⟨h.le.trans k.le,h.below.trans k.below,h.pers.trans k.pers,k.fit,λi a b=>k.nw i a (h.nw i a b)⟩
theorem SG.of(h:Stp ρ ρ' base s s' t1 w w')(hm:Ms ρ t t1 s ds0 ds):SG ρ ρ' base s s' t t1 w w':=
 ⟨h.le,h.below,h.pers,h.fit,λi a b=>h.nw i (by rw[hm.fr a];exact a) b⟩
theorem Fit.drop(h:Fit ρ base s t1 w)(hs:Sub t t1)(hn:∀i,t i=none->t1 i≠none->s i=none):Fit ρ base s t w:=
 ⟨h.wr.sub λi e hi=>by
  cases q:t i with
  |some x=>rw[cU q]at hi;cases hi;exact cU (hs i _ q)
  | none=>
    rw[cC q]at hi;cases q2:t1 i with
    |none=>grind [cC]
    |some y=>grind,λi x hx=>h.fr i x (hs i x hx)⟩
theorem Stp.hide{id:Nat}{b:Blk}(h:Stp ρ ρ' base s (hset s id (false,b)) t w w')(hs:s id=none):t id=none/\Fit ρ' base s (hset t id (false,b)) w':=by
 have ht:t id=none:=by
  cases q:t id with
  |none=>rfl
  |some x=>have:=h.nw id (by rw[q];simp) hs;grind [dT]
 refine⟨ht,?_,λi x hx=>?_⟩
 ·have e:add (hset t id (false,b)) s=add t (hset s id (false,b)):=by
   grind [dT,add,cG]
  rw[e];exact h.fit.wr
 ·by_cases q:i=id
  ·subst q;exact .inl hs
  ·rw[cG q]at hx
   have:=h.fit.fr i x hx
   grind [cG]
def noRF:Code->Bool
 | .seq a b=>noRF a&&noRF b
 | .cond _ a b=>noRF a&&noRF b
 | .block _ b=>noRF b
 | .loop b=>noRF b
 | .rangeFunc _ _ _ _=>false
 |_=>true
def Off(c:Code)(env env':Env)(d d':List cx):Prop:=(∀j,j ∉ assigned c->env' j=env j)/\(noRF c=true->d'=d)
def CW(P:ay)(nt:Nat)(rnd:Option Nat)(c:Code)(env:Env)(K:AExit->Env->Hq->Prop)(s:Hq):Prop:=Grd P->∀(t t1:Hq) (ρ:Ren) (base:Nat) (w:am) (a:Act) (r:Option Nat) (ds0:List cx) (Q:Exit->Act->am->Prop),
 Fit ρ base s t1 w->ER ρ nt env a.tmps->RR ρ rnd r->Ms ρ t t1 s ds0 a.defers->
 (∀e env' s' ρ' a' w' t2,K e env' s'->Off c env env' a.defers a'.defers->SG ρ ρ' base s s' t t2 w w'->ER ρ' nt env' a'.tmps->Ms ρ' t t2 s' ds0 a'.defers->Q (kW e) a' w')->c.wpIn (FR r) 0 P Q a w
def iW(P:ay)(A:Nat->List Nat)(nt:Nat)(rnd:Option Nat)(c:Code):Prop:=∀(env:Env) (K:AExit->Env->Hq->Prop) (s:Hq),wpC P A nt rnd c env K s->CW P nt rnd c env K s
theorem m7{c:Code}{e:AExit}(hc:∀(r:Option Nat) (Q:Exit->Act->am->Prop) (a:Act) (w:am),Q (kW e) a w->c.wpIn (FR r) 0 P Q a w){K:AExit->Env->Hq->Prop}(h:K e env s):CW P nt rnd c env K s:=
 λ_ _ t1 ρ _ w a r _ Q hf hT hr hd hQ=>hc r Q a w (hQ e env s ρ a w t1 h ⟨λ_ _=>rfl,λ_=>rfl⟩ (.refl hf) hT hd)
theorem Cu{id:Nat}{ops:Array Oper}{draw:Bool}:iW P A nt rnd (.region id ops draw):=by
 intro env K s h g t t1 ρ base w a r ds0 Q hf hT hr hd hQ;unfold wpC at h;cases draw with
 | true=>
   cases hdr:drB P nt ops (mY P A id ops) (lkB (lkOf A id)) (laB (lkOf A id))with
   |false=>grind
   | true=>
     rw[hdr,aD]at h;have ⟨dk,hnB⟩:=Cq hdr;exact Cp g dk hnB g.mixed hT hf h λe s' ρ' a' w' k1 k2 k3 k4 k5=>hQ .nrm e s' ρ' a' w' t1 k1 ⟨λj hj=>k2 j λi o ho hd=>hj (w9 gR hd),λ_=>k5⟩ (.of k3 hd) k4 (by rw[k5];exact hd.step k3)
 | false=>
   cases hok:(ops.toList.all λo=>okOp o.op)with
   |false=>grind
   | true=>
     rw[hok,aD]at h;refine wpIn_region ?_;rw[range_eq_range'];have:=wV (r:=r) (ops:=ops) (Q:=Q) (K:=λenv s=>K .nrm env s) g [] ops.toList 0 [] env s ρ w a (λj _=>sI) hok .nil h hf hT λenv' s' ρ' a' w' k1 k3 k4 k5 k6=>show Q .normal a' w' from hQ .nrm env' s' ρ' a' w' t1 k1 ⟨λj hj=>k3 j λo ho hd=>hj (w9 ho hd),λ_=>k6⟩ (.of k4 hd) k5 (by rw[k6];exact hd.step k4)
     simpa using this
theorem seqW{x y:Code}(ha:iW P A nt rnd x)(hb:iW P A nt rnd y):iW P A nt rnd (.seq x y):=by
 intro env K s h g t t1 ρ base w a r ds0 Q hf hT hr hd hQ;refine wpIn_seq (ha env _ s h g t t1 ρ base w a r ds0 _ hf hT hr hd λe env1 s1 ρ1 a1 w1 u1 k1 k3 k4 k5 k6=>?_);cases e with
 | nrm=>
   refine hb env1 K s1 k1 g t u1 ρ1 base w1 a1 r ds0 Q k4.fit k5 (hr.mono k4.le) k6 λe env2 s2 ρ2 a2 w2 u2 j1 j3 j4 j5 j6=>?_;exact hQ e env2 s2 ρ2 a2 w2 u2 j1 ⟨λj hj=>by simp only[assigned,cR,not_or]at hj;exact(j3.1 j hj.2).trans (k3.1 j hj.1),λq=>(j3.2 (Bool.and_eq_true_iff.1 q).2).trans (k3.2 (Bool.and_eq_true_iff.1 q).1)⟩ (k4.trans j4) j5 j6
 |exit id=>exact hQ _ env1 s1 ρ1 a1 w1 u1 k1 ⟨λj hj=>by simp only[assigned,cR,not_or]at hj;exact k3.1 j hj.1,λq=>k3.2 (Bool.and_eq_true_iff.1 q).1⟩ k4 k5 k6
 |ret=>exact hQ _ env1 s1 ρ1 a1 w1 u1 k1 ⟨λj hj=>by simp only[assigned,cR,not_or]at hj;exact k3.1 j hj.1,λq=>k3.2 (Bool.and_eq_true_iff.1 q).1⟩ k4 k5 k6
theorem Cv{c:aP}{x y:Code}(ha:iW P A nt rnd x)(hb:iW P A nt rnd y):iW P A nt rnd (.cond c x y):=by
 intro env K s h g t t1 ρ base w a r ds0 Q hf hT hr hd hQ;unfold wpC at h;cases hok:okX c with
 |false=>grind
 | true=>
   rw[hok,aD]at h;have hv:=iU hT hok;unfold ao at h;split at h
   ·rename_i e
    rw[e]at hv;exact wpIn_cond hv (ha env K s h g t t1 ρ base w a r ds0 Q hf hT hr hd λe env' s' ρ' a' w' t2 k1 k2=>hQ e env' s' ρ' a' w' t2 k1 ⟨λj hj=>k2.1 j λq=>hj (by simp[assigned,q]),λq=>k2.2 (Bool.and_eq_true_iff.1 q).1⟩)
   ·rename_i e
    rw[e]at hv;exact wpIn_cond hv (hb env K s h g t t1 ρ base w a r ds0 Q hf hT hr hd λe env' s' ρ' a' w' t2 k1 k2=>hQ e env' s' ρ' a' w' t2 k1 ⟨λj hj=>k2.1 j λq=>hj (by simp[assigned,q]),λq=>k2.2 (Bool.and_eq_true_iff.1 q).2⟩)
   ·exact h.elim
theorem Cw{id:Nat}{b:Code}(hb:iW P A nt rnd b):iW P A nt rnd (.block id b):=by
 intro env K s h g t t1 ρ base w a r ds0 Q hf hT hr hd hQ;refine wpIn_block (hb env _ s h g t t1 ρ base w a r ds0 _ hf hT hr hd λe env1 s1 ρ1 a1 w1 u1 k1 k3 k4 k5 k6=>?_);cases e with
 | exit id'=>
   simp only at k1;cases hb:beq id' id with
   | false=>
     rw[hb]at k1;have e:id'≠id:=λe=>by subst e;simp at hb
     show(if id'=id then _ else _);rw[aj e];exact hQ (.exit id') env1 s1 ρ1 a1 w1 u1 k1 k3 k4 k5 k6
   | true=>
     rw[hb]at k1;show(if id'=id then _ else _);rw[ak (bE hb)];exact hQ .nrm env1 s1 ρ1 a1 w1 u1 k1 k3 k4 k5 k6
 |nrm=>exact hQ .nrm env1 s1 ρ1 a1 w1 u1 k1 k3 k4 k5 k6
 |ret=>exact hQ .ret env1 s1 ρ1 a1 w1 u1 k1 k3 k4 k5 k6
theorem rM{l:List Nat}{env1:Env}(h:∀j,j ∉ l->env1 j=env j):mixE l env1 env=env1:=by
 grind [mixE,jB]
theorem Cx{b:Code}(hb:iW P A nt rnd b){ls:List Nat}{K:AExit->Env->Hq->Prop}(h:rI ls (assigned b) (λenv K s=>wpC P A nt rnd b env K s) env K s):CW P nt rnd (.loop b) env K s:=by
 intro g t t1 ρ base w a r ds0 Q hf hT hr hd hQ;have ⟨I,⟨m,h0⟩,hstep⟩:=h;refine wpIn_loop_rounds (m+1) ?_;have key:∀(k m:Nat) (env1:Env) (s1:Hq) (ρ1:Ren) (a1:Act) (w1:am) (u1:Hq),m<k->I (ls.map env1) s1 m->Off b env env1 a.defers a1.defers->SG ρ ρ1 base s s1 t u1 w w1->ER ρ1 nt env1 a1.tmps->Ms ρ1 t u1 s1 ds0 a1.defers->Code.roundsIn (FR r) 0 P b Q k a1 w1:=by
  intro k
  induction k with
  |zero=>grind
  | succ k ih=>
    intro m env1 s1 ρ1 a1 w1 u1 hm hI hoff st hT1 hd1;have hbody:=hstep env1 s1 m hI;rw[rM hoff.1]at hbody;refine hb env1 _ s1 hbody g t u1 ρ1 base w1 a1 r ds0 _ st.fit hT1 (hr.mono st.le) hd1 λe env2 s2 ρ2 a2 w2 u2 k1 k3 k4 k5 k6=>?_;have hoff2:Off b env env2 a.defers a2.defers:=⟨λj hj=>(k3.1 j hj).trans (hoff.1 j hj),λq=>(k3.2 q).trans (hoff.2 q)⟩
    cases e with
    | nrm=>
      have ⟨m',hlt,hI'⟩:=k1;exact ih m' env2 s2 ρ2 a2 w2 u2 oM hI' hoff2 (st.trans k4) k5 k6
    |exit id=>exact hQ _ env2 s2 ρ2 a2 w2 u2 k1 hoff2 (st.trans k4) k5 k6
    |ret=>exact hQ _ env2 s2 ρ2 a2 w2 u2 k1 hoff2 (st.trans k4) k5 k6
 exact key (m+1) m env s ρ a w t1 (lt_succ_self _) h0 ⟨λ_ _=>rfl,λ_=>rfl⟩ (.refl hf) hT hd
end
end Go.AM
