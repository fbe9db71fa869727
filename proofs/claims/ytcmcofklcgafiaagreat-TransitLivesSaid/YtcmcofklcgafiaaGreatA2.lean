/- Part A2 of the proof: see the last part. -/
import Derived.Test.YtcmcofklcgafiaaGreatA1
import Derived.LoopNIn
set_option linter.unusedVariables false
namespace Go.AM
open Go Go.RowKit List Nat
section
variable {P:Program} {ρ:Ren} {base nt:Nat} {s t:Hq} {w:World} {K:AV→Hq→Prop} {env:Env} {a:Act}
def clsD(P:Program):Op->Nat
 | .slice t _ _ _ _=>match P.underlying t with
   |some (.slice _)=>0
   |_=>1
 | .move _ | .assign _ | .pick _ _ _ | .nilCheck _ | .binOp _ _ _ _ _ | .unOp _ _ _ | .convert _ _ _ | .makeInterface _ _ | .makeFunc _ _ _ | .fieldAddr _ _ _ | .field _ _ _ | .indexAddr _ _ _ | .index _ _ _
 | .typeAssert _ _ _ _ | .extract _ _ | .build _ _ | .sliceToArrayPointer _ _=>0
 | .load _ _ | .lookup _ _ _ _=>1
 | .alloc _ | .box _ _ | .buildSlice _ _ _=>2
 | .call c=>match c.callee with
   | .builtin .min | .builtin .max=>0
   | .builtin .len=>match c.argTypes.toList with
     | t::_=>(match P.underlying t with
       |some (.map _ _)=>1
       |_=>0)
     |[]=>3
   |_=>3
 |_=>3
def OkD(P:Program)(ρ:Ren)(s:Hq)(w:World)(K:AV->Hq->Prop)(r:Result Next):Prop:=∃v v',r=.ok (.value v') w/\Rel ρ v v'/\K v s
theorem OkD.det{m:Sem Value}{v:AV}(h:∃v',m.run P w=.ok v' w/\Rel ρ v v')(hk:K v s):OkD P ρ s w K ((do pure (.value (<- m)):Sem Next).run P w):=by have ⟨v',e,r⟩:=h;exact⟨v,v',by simp[e],r,hk⟩
theorem OkD.n{r:Result Next}(hf:Fit ρ base s t w)(h:OkD P ρ s w K r):OkN P ρ base s t w K r:=by have ⟨v,v',e,q,k⟩:=h;exact⟨_,w,e,(by grind [Stp.refl])⟩
theorem y6{ty elem:TypeId}{n es:Nat}{x v:AV}{lo hi mx:Option AV}{x':Value}{lo' hi' mx':Option Value}(hu:P.underlying ty=some (.array n elem))(hs:sz P elem=some es)(hf:Fit ρ base s t w)(h:kx s n es x lo hi mx=some v)(hx:Rel ρ x x')
  (hlo:ORel ρ lo lo') (hhi:ORel ρ hi hi') (hmx:ORel ρ mx mx'):∃v',(Instr.sliceAt ty x' lo' hi' mx').run P w=.ok v' w/\Rel ρ v v':=by
 unfold kx at h;split at h<;>try (cases h;done)
 rename_i b o;split at h<;>try (cases h;done)
 rename_i e el l hb
 replace h:=cy h
 have ⟨h0,h⟩:=h;have h0:=le_of_ble_eq_true h0;split at h<;>try (cases h;done)
 rename_i m e1;split at h<;>try (cases h;done)
 rename_i hh e2;split at h<;>try (cases h;done)
 rename_i lw e3
 replace h:=cy h
 have ⟨hg,h⟩:=h;cases h;obtain⟨L,hL,rfl⟩:=hx;have ⟨L',hL',⟨cc,fr,q1,_,q3,q4,_⟩,_⟩:=hf.get hb;have ⟨M,hb',hlh,hhM,_,hMc,hmd,hMm⟩:=yq (P:=P) hlo hhi hmx false e1 e2 e3 hg (Nat.le_refl n) (Nat.le_refl n) w;obtain rfl:=hMm (.inr rfl);have ⟨h2,h3,h4⟩:=mH (es:=es) (show lw<=M by omega) hmd;refine⟨.slice (some (if M=lw then⟨L.blk,L.sh+o,none⟩else(⟨L.blk,L.sh+o,none⟩:Addr).add (lw*es))) (hh-lw) (M-lw),by simp[Instr.sliceAt,run_underlying hu,Instr.sureAddr,hb',dT hs],?_⟩
 grind [Rel,fB]
theorem y7{neg:Bool}{ty:TypeId}{x y:Operand}{p q:AV}{p' q':Value}(hf:Fit ρ base s t w)(h:eqK P neg ty (isC x||isC y) p q K s)(hp:Rel ρ p p')(hq:Rel ρ q q'):
  ∃v v',(do eqGuard (cond neg .neq .eql) ty x y p' q';binOp (cond neg .neq .eql) ty p' q':Sem Value).run P w=.ok v' w/\Rel ρ v v'/\K v s:=by
 unfold eqK at h;split at h
 ·rename_i d hu
  split at h
  ·rename_i kd hk
   have ⟨v,h1,h2⟩:=aX h;have ⟨v',e,r⟩:=tG (yj hu hk p q v h1) hp hq w
   grind
  ·cases hg:P.eqGuardType P.depth ty with
   |true=>grind
   | false=>
     rw[hg,cond_false]at h;have ⟨v,h1,h2⟩:=aX h;obtain⟨b,h3,rfl⟩:=Ka h1;unfold cZ at h3;split at h3
     ·rename_i l m
      have hb:binA P (cond neg .neq .eql) ty x y (.agg l) (.agg m)=some (cond neg (!b) b):=by
       grind [fA,binA]
      have ⟨v',e,r⟩:=tG hb hp hq w
      grind
     ·cases h3
 ·exact h.elim
theorem nc{o:Oper}(hcl:clsD P o.op<=1)(hf:Fit ρ base s t w)(hT:ER ρ nt env a.tmps)(ho:okOp o.op=true)(h:wpOp P env K s o.op):OkD P ρ s w K ((execOp a.eval o).run P w):=by
 have ⟨dst,op,type,pos,after,guard⟩:=o
 by_cases hgl:∃ty q,op=.load ty (.global q)
 ·obtain⟨ty,q,rfl⟩:=hgl
  simp only[wpOp]at h;have ⟨v,v',e,r,k⟩:=yy (P:=P) hf h;exact .det ⟨v',by simp[Instr.loadAt,Instr.sureAddr,Act.eval,e],r⟩ k
 have hops:=Kz ho λty q e=>hgl ⟨ty,q,e⟩;have hm:=λx hx=>all_eq_true.1 hops x hx;have rel:=λx hx=>eX hT (hm x hx);cases op<;>first|(exfalso;simp[clsD]at hcl;done)|skip
 all_goals simp only[wpOp,execOp]at h ⊢
 case move x=>exact⟨_,_,rfl,rel x (by simp[Op.operands]),h⟩
 case assign x=>exact⟨_,_,rfl,rel x (by simp[Op.operands]),h⟩
 case pick c x y=>
  have ⟨v,h1,h2⟩:=aX h;have rc:=rel c (by simp[Op.operands]);have rx:=rel x (by simp[Op.operands]);have ry:=rel y (by simp[Op.operands]);unfold bK at h1;split at h1<;>cases h1
  ·rename_i e
   rw[e]at rc;unfold Rel at rc;exact⟨_,_,by simp only[rc];rfl,rx,h2⟩
  ·rename_i e
   rw[e]at rc;unfold Rel at rc;exact⟨_,_,by simp only[rc];rfl,ry,h2⟩
 case build ty ps=>
  have hp:(ps.toList.all λp=>okX p.2)=true:=all_eq_true.2 λp hp=>hm p.2 (by simp only[Op.operands,mem_map];exact⟨p,hp,rfl⟩);split at h
  ·rename_i z fields hz hu
   cases hall:(fields.toList.all λf=>(sz P f.type).isSome)with
   |false=>grind
   | true=>
     rw[hall,cond_true]at h;split at h
     ·rename_i l hl
      have ⟨cs,h1,h2⟩:=aX h;exact .det (QJ hz hu hall hT hl hp h1 w) h2
     ·exact h.elim
  ·rename_i z n elem hz hu
   split at h
   ·rename_i m hs
    split at h
    ·rename_i l hl
     have ⟨cs,h1,h2⟩:=aX h;exact .det (QK hz hu hs hT hl hp h1 w) h2
    ·exact h.elim
   ·exact h.elim
  ·exact h.elim
 case load ty x=>have h:dU P ty (evD env x) (K · s) s:=gR;have ⟨p,v,v',hp,e,r,k⟩:=yx hf h (rel x (by simp[Op.operands]));exact .det ⟨v',by simp[Instr.loadAt,hp,Instr.sureAddr,e],r⟩ k
 case nilCheck x=>have ⟨v,h1,h2⟩:=aX h;obtain⟨rfl,r⟩:=QX h1 (rel x (by simp[Op.operands]));have e:=yZ (P:=P) (y:=x) (dst:=dst) (type:=type) (pos:=pos) (after:=after) (guard:=guard) r w;exact⟨_,_,e,rel x (by simp[Op.operands]),h2⟩
 case binOp op ty x y t2=>
  have rx:=rel x (by simp[Op.operands]);have ry:=rel y (by simp[Op.operands]);have fin:(∃v v',(do eqGuard op ty x y (a.eval x) (a.eval y);binOp op ty (a.eval x) (a.eval y):Sem Value).run P w=.ok v' w/\Rel ρ v v'/\K v s)->OkD P ρ s w K ((do pure (.value (<- (do eqGuard op ty x y (a.eval x) (a.eval y);binOp op ty (a.eval x) (a.eval y):Sem Value))):Sem Next).run P w):=by rintro ⟨v,v',e,r,k⟩;exact .det ⟨v',e,r⟩ k
  have ar:op≠.shl->op≠.shr->oK (bO op (evD env x) (evD env y)) (K · s)->∃v v',(do eqGuard op ty x y (a.eval x) (a.eval y);binOp op ty (a.eval x) (a.eval y):Sem Value).run P w=.ok v' w/\Rel ρ v v'/\K v s:=λh1 h2 h=>by have ⟨v,h3,h4⟩:=aX h;obtain⟨v',e,r⟩:=tG (yh (t:=ty) (x:=x) (y:=y) h1 h2 _ _ _ h3) rx ry w;exact⟨v,v',e,r,h4⟩
  have sh:(op=.shl∨op=.shr)->oK (dh op (evD env x) (evD env y)) (K · s)->∃v v',(do eqGuard op ty x y (a.eval x) (a.eval y);binOp op ty (a.eval x) (a.eval y):Sem Value).run P w=.ok v' w/\Rel ρ v v'/\K v s:=λh1 h=>by have ⟨v,h3,h4⟩:=aX h;obtain⟨v',e,r⟩:=tG (yi (t:=ty) (x:=x) (y:=y) h1 _ _ _ h3) rx ry w;exact⟨v,v',e,r,h4⟩
  grind [y7]
 case unOp op ty x=>have ⟨v,h1,h2⟩:=aX h;exact .det (yg h1 (rel x (by simp[Op.operands])) w) h2
 case convert p q x=>
  have rx:=rel x (by simp[Op.operands]);split at h
  ·rename_i k1 k2 h1 h2
   have ⟨v,h3,h4⟩:=aX h;exact .det (yk h1 h2 h3 rx w) h4
  ·rename_i h1 h2
   have ⟨v,h3,h4⟩:=aX h;exact .det (yl h1 h2 h3 rx w) h4
  ·exact h.elim
 case sliceToArrayPointer ty x=>
  have ⟨v,h1,h2⟩:=aX h;have hr:=rel x (by simp[Op.operands]);unfold mA at h1;split at h1<;>try (cases h1;done)
  rename_i n e hd;unfold mz at h1;split at h1<;>try (cases h1;done)
  rename_i b o len c es hx;have ⟨hl,hu⟩:=cy h1;have ⟨h3,h4⟩:=Bool.and_eq_true_iff.1 hl;have h3:=le_of_ble_eq_true h3;have h4:=le_of_ble_eq_true h4;rw[hx]at hr;have ⟨L,a',c',hL,hv,hor,_⟩:=hr;have ha:a'=⟨L.blk,L.sh+o,none⟩:=gR;have hnl:¬len<n:=oM;exact .det ⟨.pointer (some ⟨L.blk,L.sh+o,none⟩),by simp[Instr.arrayAt,run_underlying hd,hv,ha,hnl],by grind [Rel]⟩ h2
 case makeInterface ty x=>
  split at h
  ·exact h.elim
  ·rename_i d hni hu
   exact .det (QB hu (λq e=>hni q (by rw[e])) (rel x (by simp[Op.operands])) w) h
  ·exact h.elim
 case makeFunc f fs cs=>
  have r1:=kI hT (l:=fs.toList) (all_eq_true.2 λx hx=>hm x (by simp only[Op.operands,Array.toList_append,mem_append];exact .inl hx));have r2:=kI hT (l:=cs.toList) (all_eq_true.2 λx hx=>hm x (by simp only[Op.operands,Array.toList_append,mem_append];exact .inr hx));split at h
  ·exact .det ⟨.func _ (fs.map a.eval) (cs.map a.eval),rfl,by unfold Rel;exact⟨_,_,rfl,by simpa using r1,by simpa using r2⟩⟩ h
  ·exact .det ⟨.func _ (fs.map a.eval) (cs.map a.eval),rfl,by unfold Rel;exact⟨_,_,rfl,by simpa using r1,by simpa using r2⟩⟩ h
  ·exact h.elim
 case slice ty x lo hi mx=>
  have rx:=rel x (by simp[Op.operands]);have rlo:=yD hT (x:=lo) λy e=>hm y (by subst e;simp[Op.operands]);have rhi:=yD hT (x:=hi) λy e=>hm y (by subst e;simp[Op.operands]);have rmx:=yD hT (x:=mx) λy e=>hm y (by subst e;simp[Op.operands]);split at h
  ·rename_i elem hu
   split at h
   ·rename_i es hs
    have ⟨v,h1,h2⟩:=aX h;exact .det (yr hu hs h1 rx rlo rhi rmx w) h2
   ·exact h.elim
  ·rename_i n elem hu
   split at h
   ·rename_i es hs
    have ⟨v,h1,h2⟩:=aX h;exact .det ((by grind [y6])) h2
   ·exact h.elim
  ·exact h.elim
 case fieldAddr ty x f=>
  split at h
  ·rename_i k hk
   have ⟨v,h1,h2⟩:=aX h;exact .det (Qy hk h1 (rel x (by simp[Op.operands])) w) h2
  ·exact h.elim
 case field ty x f=>
  split at h
  ·rename_i fields hu
   split at h
   ·rename_i fd hfd
    split at h
    ·rename_i q hq
     have ⟨v,h1,h2⟩:=aX h;exact .det (ym hu hfd hq h1 (rel x (by simp[Op.operands])) w) h2
    ·exact h.elim
   ·exact h.elim
  ·exact h.elim
 case indexAddr ty x i=>
  have rx:=rel x (by simp[Op.operands]);have ri:=rel i (by simp[Op.operands]);split at h
  ·rename_i len elem hu
   split at h
   ·rename_i n hs
    have ⟨v,h1,h2⟩:=aX h;exact .det (yn hu hs h1 rx ri w) h2
   ·exact h.elim
  ·rename_i elem hu
   split at h
   ·rename_i n hs
    have ⟨v,h1,h2⟩:=aX h;exact .det (Qz hu hs h1 rx ri w) h2
   ·exact h.elim
  ·exact h.elim
 case index ty x i=>
  have rx:=rel x (by simp[Op.operands]);have ri:=rel i (by simp[Op.operands]);split at h
  ·rename_i len elem hu
   split at h
   ·rename_i n q hs hq
    have ⟨v,h1,h2⟩:=aX h;exact .det (yo hu hs hq h1 rx ri w) h2
   ·exact h.elim
  ·rename_i hu
   have ⟨v,h1,h2⟩:=aX h;exact .det (QA hu h1 rx ri w) h2
  ·exact h.elim
 case lookup ty x k ok=>
  have rx:=rel x (by simp[Op.operands]);have rk:=rel k (by simp[Op.operands]);split at h
  ·rename_i kt et hu
   split at h
   ·rename_i ik z hku hz
    have ⟨r,h1,h2⟩:=aX h;exact .det (yT hu hku hz hf h1 rx rk) h2
   ·rename_i kd z _ hku hz
    have ⟨r,h1,h2⟩:=aX h;exact .det (yU hu hku hz hf h1 rx rk) h2
   ·exact h.elim
  ·exact h.elim
 case typeAssert x xt ty ok=>
  split at h
  ·exact h.elim
  ·rename_i d hni hu
   have ⟨v,h1,h2⟩:=aX h;exact .det (yp hu (λq e=>hni q (by rw[e])) h1 (rel x (by simp[Op.operands])) w) h2
  ·exact h.elim
 case extract x i=>have ⟨v,h1,h2⟩:=aX h;exact .det (QC h1 (rel x (by simp[Op.operands])) w) h2
 case call c=>
  have hargs:c.args.toList.all okX=true:=all_eq_true.2 λx hx=>hm x (by simp only[Op.operands];unfold Call.operands;grind);have hr:RelL ρ (c.args.toList.map (evD env)) (c.args.map a.eval).toList:=by simpa using kI hT hargs
  simp only[clsD]at hcl;cases hc:c.callee with
  | builtin b=>
    simp only[hc]at h hcl;simp only[resolve,hc,invoke,Sem.run_bind,Sem.run_pure,Result.andThen_ok];generalize c.args.map a.eval=args' at hr;have ⟨args'⟩:=args';generalize c.args.toList.map (evD env)=args at hr h;generalize hts:c.argTypes=ts at h hcl;have ⟨ts⟩:=ts;simp only at hr h hcl;unfold iy at h;split at h
    ·simp at hcl
    ·rename_i ty' ts x
     unfold RelL at hr;obtain⟨x',l1,rfl,hx,hr⟩:=hr;unfold RelL at hr;subst hr;split at h
     ·rename_i kt et hu
      have ⟨n,h1,h2⟩:=aX h;exact .det (mR hu hf h1 hx ts) h2
     ·rename_i d _ hu
      have ⟨n,h1,h2⟩:=aX h;exact .det (mQ hu h1 hx ts) h2
     ·exact h.elim
    ·simp at hcl
    ·rename_i x xs
     unfold RelL at hr;obtain⟨x',l1,rfl,hx,hr⟩:=hr;have ⟨r,h1,h2⟩:=aX h;have ⟨v',e,q⟩:=mL (P:=P) h1 hx hr w;exact .det (m:=Builtin.min_ _ _ _) ⟨v',by simpa [Builtin.min_]using e,q⟩ h2
    ·rename_i x xs
     unfold RelL at hr;obtain⟨x',l1,rfl,hx,hr⟩:=hr;have ⟨r,h1,h2⟩:=aX h;have ⟨v',e,q⟩:=mM (P:=P) h1 hx hr w;exact .det (m:=Builtin.max_ _ _ _) ⟨v',by simpa [Builtin.max_]using e,q⟩ h2
    ·exact h.elim
  |_=>simp[hc]at hcl
theorem y8{o:Oper}(g:Grd P)(hf:Fit ρ base s t w)(hT:ER ρ nt env a.tmps)(ho:okOp o.op=true)(h:wpOp P env K s o.op):OkN P ρ base s t w K ((execOp a.eval o).run P w):=by
 have ⟨dst,op,type,pos,after,guard⟩:=o
 by_cases hcl:clsD P op<=1
 ·grind [nc,OkD.n]
 by_cases hgl:∃ty q,op=.load ty (.global q)
 ·obtain⟨ty,q,rfl⟩:=hgl
  exact absurd (Nat.le_refl 1) hcl
 have hops:=Kz ho λty q e=>hgl ⟨ty,q,e⟩;have hm:=λx hx=>all_eq_true.1 hops x hx;have rel:=λx hx=>eX hT (hm x hx);cases op<;>first|(exfalso;simp[clsD]at hcl;done)|skip
 all_goals simp only[wpOp,execOp]at h ⊢
 all_goals try (exact h.elim)
 case slice=>exact(hcl (by show clsD P (.slice _ _ _ _ _)<=1;simp only[clsD];split<;>omega)).elim
 case alloc ty=>
  split at h
  ·rename_i z hz;exact .of_val (yB hf hz h)
  ·exact h.elim
 case box ty x=>exact .of_val (yC hf h (rel x (by simp[Op.operands])))
 case buildSlice ty n ps=>
  have hp:(ps.toList.all λp=>okX p.2)=true:=all_eq_true.2 λp hp=>hm p.2 (by simp only[Op.operands,mem_map];exact⟨p,hp,rfl⟩);split at h
  ·rename_i elem hu
   split at h
   ·rename_i z es hz
    cases hb:ble (n*es) 16777216 with
    |false=>grind
    | true=>
      rw[hb,cond_true]at h;split at h
      ·rename_i l hl
       have ⟨cs,h1,h2,h3⟩:=aX h
       grind [QL,OkN.of_val]
      ·exact h.elim
   ·exact h.elim
  ·exact h.elim
 case insert ty m k x=>
  have rm:=rel m (by simp[Op.operands]);have rk:=rel k (by simp[Op.operands]);have rx:=rel x (by simp[Op.operands]);split at h
  ·rename_i kt et hu
   split at h
   ·rename_i ik hku
    have ⟨s',h1,h2⟩:=aX h
    grind [mY,OkN.skip]
   ·rename_i kd _ hku
    have ⟨s',h1,h2⟩:=aX h
    grind [mZ,OkN.skip]
   ·exact h.elim
  ·exact h.elim
 case store ty p x=>have ⟨w',s',e,st,k⟩:=yA hf h (rel p (by simp[Op.operands])) (rel x (by simp[Op.operands]));exact .skip e st k
 case makeMap ty r=>
  split at h
  ·rename_i kt et hu
   cases r with
   |none=>grind [m7,OkN.of_val]
   | some x=>
     simp only at h;unfold intK at h;split at h
     ·rename_i k n e
      have hr:=rel x (by simp[Op.operands])
      grind [Rel,m7,OkN.of_val]
     ·exact h.elim
  ·exact h.elim
 case makeSlice ty x y=>
  split at h
  ·rename_i elem hu
   split at h
   ·rename_i z es by_ hz hb
    cases hby:ble by_ 32768 with
    |false=>grind
    | true=>
      rw[hby,cond_true]at h;have ⟨n,h1,h⟩:=aX h;have ⟨m,h2,h3,h4⟩:=aX h;exact .of_val (QN hu hz hb hby h1 h2 h3 (rel x (by simp[Op.operands])) (rel y (by simp[Op.operands])) hf h4)
   ·exact h.elim
  ·exact h.elim
 case mapUpdate ty m k x=>
  have rm:=rel m (by simp[Op.operands]);have rk:=rel k (by simp[Op.operands]);have rx:=rel x (by simp[Op.operands]);split at h
  ·rename_i kt et hu
   split at h
   ·rename_i ik hku
    have ⟨s',h1,h2⟩:=aX h
    grind [mY,OkN.skip]
   ·rename_i kd _ hku
    have ⟨s',h1,h2⟩:=aX h
    grind [mZ,OkN.skip]
   ·exact h.elim
  ·exact h.elim
 case range ty x=>
  split at h
  ·rename_i kt et hu
   exact .of_val (yO hu hf h (rel x (by simp[Op.operands])))
  ·exact h.elim
 case entry x=>have ⟨v,h1,h2⟩:=aX h;exact .det hf (yQ hf h1 (rel x (by simp[Op.operands]))) h2
 case call c=>exact yY g hf hT hops h
end
def FR(r:Option Nat):Fence:={ Fence.wide with round:=r }
def setK(nt:Nat)(dst:Option Tmp)(env:Env)(v:AV)(K:Env->Prop):Prop:=match dst with
 |none=>K env
 |some d=>cond (blt d nt) (K (upd env d v)) False
abbrev Kn:=List (Nat×Option Bool)
def forget(kn:Kn):Option Tmp->Kn
 |none=>kn
 |some d=>kn.filter λp=>!beq p.1 d
def mark(kn:Kn):Option Tmp->Kn
 |none=>kn
 |some d=>(d,none)::forget kn (some d)
def known:Kn->Nat->Option (Option Bool)
 |[],_=>none
 |p::ps,d=>cond (beq p.1 d) (some p.2) (known ps d)
def gx(all:List Oper)(j:Nat):Option Nat:=match all[j]? with
 |some o=>o.dst
 |none=>none
def kJ(all:List Oper)(g:Option (Nat×Bool))(kn:Kn)(env:Env)(go skip:Kn->Prop):Prop:=match g with
 |none=>go kn
 | some (j,w)=>match gx all j with
   |none=>skip kn
   | some d=>match known kn d with
     |some (some b)=>cond (b == w) (go kn) (skip kn)
     |some none=>skip kn
     |none=>ai (env d) (cond w (go ((d,some true)::kn)) (skip ((d,some true)::kn))) (cond w (skip ((d,some false)::kn)) (go ((d,some false)::kn)))
def memN(i:Nat):List Nat->Bool
 |[]=>false
 |j::l=>cond (beq i j) true (memN i l)
def rest(s r:Hq):Hq:=λb=>if r b=none then s b else none
def frz(s:Hq):Hq:=λb=>match s b with
 |some (_,x)=>some (true,x)
 |none=>none
def opsE(P:Program)(nt:Nat)(all:List Oper):List Oper->Kn->Env->(Env->Hq->Prop)->Hq->Prop
 |[],_,env,K,s=>K env s
 |o::os,kn,env,K,s=>kJ all o.guard kn env
   (λkn=>wpOp P env (λv s=>setK nt o.dst env v λenv=>opsE P nt all os (forget kn o.dst) env K s) s o.op)
   (λkn=>setK nt o.dst env .undef λenv=>opsE P nt all os (mark kn o.dst) env K s)
section
variable {env:Env}
def knV:Option Bool->AV
 |some b=>b
 |none=>.undef
def KnOk(kn:Kn)(env:Env):Prop:=∀d b,known kn d=some b->env d=knV b
theorem y9:∀{kn:Kn}{d d':Nat}{b:Option Bool},known (kn.filter λp=>!beq p.1 d) d'=some b->d'≠d/\known kn d'=some b
 |[],_,_,_,h=>by cases h
 | p::ps,d,d',b,h=>by
   rw[filter_cons]at h
   by_cases hp:beq p.1 d=true
   ·rw[if_neg (by simp[hp])]at h
    have ⟨h1,h2⟩:=y9 h;refine⟨h1,?_⟩;unfold known;have:beq p.1 d'=false:=by
     cases hq:beq p.1 d' with
     |false=>rfl
     |true=>simp_all
    rw[this];exact h2
   ·rw[if_pos (by simp[hp])]at h
    unfold known at h ⊢;cases hq:beq p.1 d' with
    | true=>
      grind
    |false=>rw[hq]at h;exact y9 h
theorem KnOk.forget{kn:Kn}{env':Env}{dst:Option Tmp}(h:KnOk kn env)(he:∀d,dst≠some d->env' d=env d):KnOk (forget kn dst) env':=by
 intro d b hd;cases dst with
 |none=>rw[he d sI];exact h d b hd
 | some d0=>
   have ⟨h1,h2⟩:=y9 hd;rw[he d (λe=>h1 (Option.some.inj e).symm)];exact h d b h2
theorem KnOk.cons{kn:Kn}{d:Nat}{b:Option Bool}(h:KnOk kn env)(he:env d=knV b):KnOk ((d,b)::kn) env:=by
 intro d' b' h';unfold known at h';cases hq:beq d d' with
 |true=>simp_all
 |false=>rw[hq]at h';exact h d' b' h'
theorem KnOk.mark{kn:Kn}{env':Env}{dst:Option Tmp}(h:KnOk kn env)(he:∀d,dst≠some d->env' d=env d)(hv:∀d,dst=some d->env' d=.undef):KnOk (mark kn dst) env':=by
 cases dst with
 |none=>exact h.forget (dst:=none) he
 |some d=>exact(h.forget he).cons (hv d rfl)
theorem KnOk.nil:KnOk [] env:=λ_ _ h=>by cases h
end
section
variable {P:Program} {ρ:Ren} {base nt:Nat} {s t:Hq} {w:World} {env:Env} {a:Act} {r:Option Nat}
theorem dy(a:Act)(dst:Option Tmp)(v:Value):(a.put dst v).defers=a.defers:=by cases dst<;>rfl
theorem ER.put{v:AV}{v':Value}{d:Nat}(h:ER ρ nt env a.tmps)(hd:blt d nt=true)(hv:Rel ρ v v'):ER ρ nt (upd env d v) (a.put (some d) v').tmps:=by
 have hd:d<nt:=by rwa [blt_eq]at hd
 refine⟨by simp[Act.put,h.size],λi=>?_⟩;have hlt:d<a.tmps.size:=by rw[h.size];exact hd
 unfold upd;simp only[Act.put];cases e:beq i d with
 | true=>
   simp_all
 | false=>
   have hne:d≠i:=λq=>by subst q;simp at e
   have:=h.at_ i
   simp_all
theorem zh{dst:Option Tmp}{v:AV}{v':Value}{K:Env->Prop}(h:setK nt dst env v K)(hT:ER ρ nt env a.tmps)(hv:Rel ρ v v'):
  ∃env',K env'/\ER ρ nt env' (a.put dst v').tmps/\(∀d,dst≠some d->env' d=env d)/\∀d,dst=some d->env' d=v:=by
 cases dst with
 |none=>exact⟨env,h,hT,λ_ _=>rfl,λd e=>by cases e⟩
 | some d=>
   unfold setK at h;simp only at h;cases hd:blt d nt with
   |false=>grind
   | true=>
     rw[hd,cond_true]at h;refine⟨upd env d v,h,hT.put hd hv,λi hi=>?_,λi hi=>?_⟩
     ·unfold upd
      cases e:beq i d with
      |true=>simp_all
      |false=>rfl
     simp_all [upd]
theorem kK{ops:Array Oper}{j d:Nat}{v:AV}(hT:ER ρ nt env a.tmps)(hd:gx ops.toList j=some d)(he:env d=v):(∀b,v=.bool b->yielded ops a.tmps j=some b)/\(v=.undef->yielded ops a.tmps j=none):=by
 have hr:=hT.at_ d;rw[he]at hr;have hy:yielded ops a.tmps j=match a.tmps[d]? with|some (.bool b)=>some b|_=>none:=by
  unfold gx at hd;unfold yielded
  grind
 refine⟨λb hb=>?_,λhu=>?_⟩
 ·subst hb
  unfold Rel at hr;rw[Array.getD_eq_getD_getElem?]at hr;cases q:a.tmps[d]? with
  |none=>rw[q]at hr;simp[undef]at hr
  |some x=>grind
 ·subst hu
  have hr:Rel ρ (.tup []) _:=hr;unfold Rel at hr;have ⟨cs,e,_⟩:=hr;rw[Array.getD_eq_getD_getElem?]at e
  grind
theorem zm{ops:Array Oper}{o:Oper}{kn:Kn}{go skip:Kn->Prop}(hT:ER ρ nt env a.tmps)(hk:KnOk kn env)(h:kJ ops.toList o.guard kn env go skip):
  ∃kn',KnOk kn' env/\((Region.wanted o (yielded ops a.tmps)=true/\go kn')∨(Region.wanted o (yielded ops a.tmps)=false/\skip kn')):=by
 unfold kJ at h;unfold Region.wanted;split at h
 ·grind
 ·rename_i j want e
  rw[e];simp only;split at h
  ·rename_i hd
   have:yielded ops a.tmps j=none:=by
    unfold gx at hd;unfold yielded
    grind
   grind
  ·rename_i d hd
   split at h
   ·rename_i b hb
    rw[(kK hT hd (hk d (some b) hb)).1 b rfl]
    grind
   ·rename_i hb
    rw[(kK hT hd (hk d none hb)).2 rfl]
    grind
   ·unfold ai at h
    split at h
    ·rename_i he
     rw[(kK hT hd he).1 _ rfl];refine⟨_,hk.cons (b:=some true) he,?_⟩
     grind
    ·rename_i he
     rw[(kK hT hd he).1 _ rfl];refine⟨_,hk.cons (b:=some false) he,?_⟩
     grind
    ·exact h.elim
theorem fT{o:Oper}{r:Option Nat}{ρ':Operand->Value}:∀f,o.about P w ρ'=some f->(FR r).fn f:=λ_ _=>trivial
theorem gN{o:Oper}{K:AV->Hq->Prop}{Q:Exit->Act->World->Prop}{KK:Act->World->Prop}(g:Grd P)(hf:Fit ρ base s t w)(hT:ER ρ nt env a.tmps)(ho:okOp o.op=true)(h:wpOp P env K s o.op)
  (hK:∀v v' ρ' s' w',K v s'->Stp ρ ρ' base s s' t w w'->Rel ρ' v v'->KK (a.put o.dst v') w'):o.wpIn (FR r) 0 P a w KK Q:=by
 have hnd:∀c,o.op≠.defer c:=λc e=>by rw[e]at h;exact h
 have ⟨nx,w1,e1,x4⟩:=y8 g hf hT ho h;refine⟨fT,?_⟩;rw[Oper.semAt_eq _ _ _ hnd,e1];rcases x4 with⟨v,v',ρ',s',hn,st,hr,hk⟩|⟨rfl,f,args,args',rfl,ha,hc⟩|⟨rfl,l,L,args,args',hL,ha,hy,hc⟩
 ·rcases hn with rfl|⟨rfl,rfl⟩
  ·exact hK v v' ρ' s' w1 hk st hr
  ·exact hK v undef ρ' s' w1 hk st hr
 ·refine⟨λh=>by simp[FR,Fence.wide]at h,?_⟩
  have h5:CallsIn (FR r) 0 P f args' w1 (fQ ρ base s t w1 K):=hc g ρ base t w1 args' hf ha;refine h5.mono ?_;rintro e w2 ⟨v,v',s',ρ',rfl,hr,st,hk⟩
  grind
 ·obtain⟨fn,tm,az,bo,rfl,hri⟩:=hc g ρ base t w1 args' L nx hf hL ha hy
  refine⟨λh=>by simp[FR,Fence.wide]at h,?_⟩;have h5:RoundIn (FR r) 0 P L.blk fn tm az bo w1 (fQ ρ base s t w1 K):=hri;refine h5.mono ?_;rintro e w2 ⟨v,v',s',ρ',rfl,hr,st,hk⟩
  grind
theorem tR{ops:Array Oper}{K:Env->Hq->Prop}{Q:Exit->Act->World->Prop}(g:Grd P)(rest:List Nat):∀(os:List Oper) (k:Nat) (kn:Kn) (env:Env) (s:Hq) (ρ:Ren) (w:World) (a:Act),(∀j,j<os.length->os[j]?=ops[k+j]?)->
  (os.all λo=>okOp o.op)=true->KnOk kn env->opsE P nt ops.toList os kn env K s->Fit ρ base s t w->ER ρ nt env a.tmps->
  (∀env' s' ρ' a' w',K env' s'->(∀j,(∀o∈os,o.dst≠some j)->env' j=env j)->Stp ρ ρ' base s s' t w w'->ER ρ' nt env' a'.tmps->a'.defers=a.defers->wpOpsIn (FR r) 0 P ops Q rest a' w')->
  wpOpsIn (FR r) 0 P ops Q (range' k os.length++rest) a w
 | [],k,kn,env,s,ρ,w,a,_,_,_,h,hf,hT,hQ=>by
   simp only[length_nil,range'_zero,nil_append];exact hQ env s ρ a w h (λ_ _=>rfl) (.refl hf) hT rfl
 | o::os,k,kn,env,s,ρ,w,a,hk,ha,hkn,h,hf,hT,hQ=>by
   simp only[all_cons,Bool.and_eq_true]at ha;have h0:ops[k]?=some o:=by have:=hk 0 sI;simpa using this.symm
   have ⟨kn',hkn',hcase⟩:=zm hT hkn h;simp only[length_cons,range'_succ,cons_append,wpOpsIn,h0];have next:∀(v:AV) (v':Value) (kn2:Kn) (s1:Hq) (ρ1:Ren) (w1:World),(∀env',(∀d,o.dst≠some d->env' d=env d)->(∀d,o.dst=some d->env' d=v)->KnOk kn2 env')->(setK nt o.dst env v λenv=>opsE P nt ops.toList os kn2 env K s1)->
     Stp ρ ρ1 base s s1 t w w1->Rel ρ1 v v'->wpOpsIn (FR r) 0 P ops Q (range' (k+1) os.length++rest) (a.put o.dst v') w1:=by
    intro v v' kn2 s1 ρ1 w1 hk2 hv st hrel;have ⟨env',e1,e2,e3,e4⟩:=zh hv (hT.mono st.le) hrel;refine tR g rest os (k+1) kn2 env' s1 ρ1 w1 _ (λj hj=>by have:=hk (j+1) (by simpa using hj);grind) ha.2 (hk2 env' e3 e4) e1 st.fit e2 ?_;intro env2 s2 ρ2 a2 w2 k1 k3 k4 k5 k6;exact hQ env2 s2 ρ2 a2 w2 k1 (gR) (st.trans k4) k5 (k6.trans (dy _ _ _))
   rcases hcase with⟨hw,h⟩|⟨hw,h⟩
   ·rw[if_pos hw]
    exact gN g hf hT ha.1 h λv v' ρ1 s1 w1 hv st hrel=>next v v' _ s1 ρ1 w1 (λenv' e4 _=>hkn'.forget e4) hv st hrel
   ·rw[if_neg (by rw[hw];simp)]
    exact⟨fT,next .undef undef _ s ρ w (λenv' e4 e5=>hkn'.mark e4 e5) h (.refl hf) kj⟩
end
section
variable {P:Program} {env env':Env} {s s':Hq} {K K':AV→Hq→Prop}
def Vis(h S:Hq):Prop:=∀i e b,h i=some (e,b)->∃e',S i=some (e',b)
theorem Vis.refl(s:Hq):Vis s s:=λ_ e _ h=>⟨e,h⟩
theorem ng(hx:∀x,okX x=true->True):∀{l:List (Nat×Nat×Operand)},(∀p∈l,evD env' p.2.2=evD env p.2.2)->evPl env' l=evPl env l
 |[],_=>rfl
 | (o,n,x)::l,h=>by
   simp only[evPl];rw[ng hx λp hp=>h p (by simp[hp]),h (o,n,x) sI]
theorem nh{place:Nat->Option (Nat×Nat)}:∀{ps:List (Nat×Operand)}{l:List (Nat×Nat×Operand)},places place ps=some l->∀p∈l,p.2.2∈ps.map (·.2)
 |[],l,h,p,hp=>by cases h;cases hp
 | (i,x)::ps,l,h,p,hp=>by
   unfold places at h;split at h<;>cases h
   rename_i off size l' h1 h2;rcases mCY hp with rfl|hp
   ·simp
   ·have:=nh h2 p hp;grind
theorem zo(hv:Vis s s'){n:Nat}{p:AV}{l:List AV}(h:rdN s n p=some l):rdN s' n p=some l:=by
 unfold rdN at h ⊢;split at h<;>try (cases h;done)
 split at h<;>try (cases h;done)
 rename_i hb;have ⟨e',q⟩:=hv _ _ _ hb;rw[q];exact h
theorem zq(hv:Vis s s'){p v:AV}(h:rd1 s p=some v):rd1 s' p=some v:=by
 unfold rd1 at h ⊢;split at h<;>try (cases h;done)
 split at h<;>try (cases h;done)
 rename_i hb;have ⟨e',q⟩:=hv _ _ _ hb;rw[q];exact h
theorem KD(hv:Vis s s'){t:TypeId}{p:AV}{K:AV->Prop}(h:dU P t p K s):∃v,K v/\∀K':AV->Prop,K' v->dU P t p K' s':=by
 unfold dU at h;split at h
 ·rename_i n e
  have ⟨l,h1,h2⟩:=aX h;exact⟨_,h2,λK' h=>by unfold dU;rw[e];simp only;rw[zo hv h1];exact h⟩
 ·rename_i e
  have ⟨l,h1,h2⟩:=aX h;exact⟨_,h2,λK' h=>by unfold dU;rw[e];simp only;rw[zq hv h1];exact h⟩
 ·exact h.elim
theorem KE(hv:Vis s s'){t:TypeId}{g:Nat}{K:AV->Prop}(h:gldK P t g K s):∃v,K v/\∀K':AV->Prop,K' v->gldK P t g K' s':=by
 unfold gldK at h;split at h
 ·rename_i n e
  have ⟨l,h1,h2⟩:=aX h;refine⟨_,h2,λK' h=>?_⟩;unfold gldK;rw[e];unfold gldN at h1 ⊢;split at h1<;>try (cases h1;done)
  rename_i hb;have ⟨e',q⟩:=hv _ _ _ hb;rw[q];simp only;rw[h1];exact h
 ·exact h.elim
theorem zw(hv:Vis s s'){m k:AV}{r:Option AV}(h:getM s m k=some r):getM s' m k=some r:=by
 unfold getM at h ⊢;split at h<;>try (cases h;done)
 split at h<;>try (cases h;done)
 ·exact h
 ·split at h<;>try (cases h;done)
  rename_i hb;have ⟨e',q⟩:=hv _ _ _ hb;simp only[q];exact h
theorem zx(hv:Vis s s'){kt:TypeId}{m k:AV}{r:Option AV}(h:getG P kt s m k=some r):getG P kt s' m k=some r:=by
 unfold getG at h ⊢;split at h<;>try (cases h;done)
 have ⟨h0,h⟩:=cy h;rw[h0,cond_true];split at h<;>try (cases h;done)
 ·exact h
 ·split at h<;>try (cases h;done)
  rename_i hb;have ⟨e',q⟩:=hv _ _ _ hb;simp only[q];exact h
theorem QY(hv:Vis s s'){n es:Nat}{x v:AV}{lo hi mx:Option AV}(h:kx s n es x lo hi mx=some v):kx s' n es x lo hi mx=some v:=by
 unfold kx at h ⊢;split at h<;>try (cases h;done)
 split at h<;>try (cases h;done)
 rename_i hb;have ⟨e',q⟩:=hv _ _ _ hb;simp only[q];exact h
theorem zy(hv:Vis s s'){x:AV}{n:Nat}(h:lenM s x=some n):lenM s' x=some n:=by
 unfold lenM at h ⊢;split at h<;>try (cases h;done)
 ·exact h
 ·split at h<;>try (cases h;done)
  rename_i hb;have ⟨e',q⟩:=hv _ _ _ hb;simp only[q];exact h
theorem zC{x:Option Operand}(h:∀y,x=some y->evD env' y=evD env y):oev env' x=oev env x:=by
 cases x with
 |none=>rfl
 |some y=>simp only[oev,h y rfl]
theorem dI{o:Option AV}(h:oK o (K · s)):∃v,K v s/\∀(K':AV->Hq->Prop) (s':Hq),K' v s'->oK o (K' · s'):=by have ⟨v,h1,h2⟩:=aX h;exact⟨v,h2,λK' s' h=>by rw[h1];exact h⟩
theorem zD{o:Op}(hc:clsD P o<=1)(h:wpOp P env K s o):∃v,K v s/\∀(env':Env) (s':Hq) (K':AV->Hq->Prop),(∀x∈o.operands.toList,evD env' x=evD env x)->(clsD P o=0∨Vis s s')->K' v s'->wpOp P env' K' s' o:=by
 cases o<;>first|(exfalso;simp[clsD]at hc;done)|skip
 all_goals simp only[wpOp]at h
 case move x=>exact⟨_,h,λenv' s' K' hx _ hk=>by simp only[wpOp];rw[hx x (by simp[Op.operands])];exact hk⟩
 case assign x=>exact⟨_,h,λenv' s' K' hx _ hk=>by simp only[wpOp];rw[hx x (by simp[Op.operands])];exact hk⟩
 case pick c x y=>have ⟨v,h1,h2⟩:=dI h;exact⟨v,h1,λenv' s' K' hx _ hk=>by simp only[wpOp];rw[hx c (by simp[Op.operands]),hx x (by simp[Op.operands]),hx y (by simp[Op.operands])];exact h2 K' s' hk⟩
 case build t ps=>
  split at h
  ·rename_i z fields hz hu
   cases e0:(fields.toList.all λf=>(sz P f.type).isSome)with
   |false=>grind
   | true=>
     rw[e0,cond_true]at h;split at h
     ·rename_i l hl
      have ⟨cs,h1,h2⟩:=aX h;refine⟨_,h2,λenv' s' K' hx _ hk=>?_⟩;simp only[wpOp,hz,hu,e0,hl,cond_true];rw[ng (λ_ _=>trivial) λp hp=>hx _ (by simpa [Op.operands]using nh hl p hp),h1];exact hk
     ·exact h.elim
  ·rename_i z n elem hz hu
   split at h
   ·rename_i m hs
    split at h
    ·rename_i l hl
     have ⟨cs,h1,h2⟩:=aX h;refine⟨_,h2,λenv' s' K' hx _ hk=>?_⟩;simp only[wpOp,hz,hu,hs,hl];rw[ng (λ_ _=>trivial) λp hp=>hx _ (by simpa [Op.operands]using nh hl p hp),h1];exact hk
    ·exact h.elim
   ·exact h.elim
  ·exact h.elim
 case load t x=>
  by_cases hg:∃g,x=.global g
  ·obtain⟨g,rfl⟩:=hg
   have ⟨v,h1,h2⟩:=KE (Vis.refl s) h;refine⟨v,h1,λenv' s' K' hx hs hk=>?_⟩;rcases hs with hs|hs
   ·simp[clsD]at hs
   ·have ⟨v',h3,h4⟩:=KE (P:=P) hs (K:=(·=v)) (h2 (·=v) rfl)
    grind [wpOp]
  ·have h:dU P t (evD env x) (K · s) s:=gR
   have ⟨v,h1,h2⟩:=KD (Vis.refl s) h;refine⟨v,h1,λenv' s' K' hx hs hk=>?_⟩;rcases hs with hs|hs
   ·simp[clsD]at hs
   ·have ⟨v',h3,h4⟩:=KD (P:=P) hs (K:=(·=v)) (h2 (·=v) rfl)
    subst h3;have:=h4 (K' · s') hk;rw[<- hx x (by simp[Op.operands])]at this;cases x<;>first|exact this|grind
 case nilCheck x=>have ⟨v,h1,h2⟩:=dI h;exact⟨v,h1,λenv' s' K' hx _ hk=>by simp only[wpOp];rw[hx x (by simp[Op.operands])];exact h2 K' s' hk⟩
 case binOp op t x y t2=>
  have e1:∀{env':Env},(∀q∈(Op.binOp op t x y t2).operands.toList,evD env' q=evD env q)->evD env' x=evD env x/\evD env' y=evD env y:=λhx=>⟨hx x (by simp[Op.operands]),hx y (by simp[Op.operands])⟩
  have eq:∀neg,eqK P neg t (isC x||isC y) (evD env x) (evD env y) K s->∃v,K v s/\∀(K':AV->Hq->Prop) (s':Hq),K' v s'->eqK P neg t (isC x||isC y) (evD env x) (evD env y) K' s':=λneg h=>by
   unfold eqK at h ⊢;split at h
   ·rename_i d hu
    split at h
    ·exact dI h
    simp_all [dI]
   ·exact h.elim
  have fin:(∃v,K v s/\∀(K':AV->Hq->Prop) (s':Hq),K' v s'->wpOp P env K' s' (.binOp op t x y t2))->∃v,K v s/\∀(env':Env) (s':Hq) (K':AV->Hq->Prop),(∀q∈(Op.binOp op t x y t2).operands.toList,evD env' q=evD env q)->(clsD P (.binOp op t x y t2)=0∨Vis s s')->K' v s'->wpOp P env' K' s' (.binOp op t x y t2):=by
   rintro ⟨v,h1,h2⟩;refine⟨v,h1,λenv' s' K' hx _ hk=>?_⟩;have:=h2 K' s' hk
   grind [wpOp]
  refine fin ?_;cases op<;>first|exact dI h|exact eq _ h
 case unOp op t x=>have ⟨v,h1,h2⟩:=dI h;exact⟨v,h1,λenv' s' K' hx _ hk=>by simp only[wpOp];rw[hx x (by simp[Op.operands])];exact h2 K' s' hk⟩
 case convert p q x=>
  split at h
  ·rename_i k1 k2 e1 e2
   have ⟨v,h1,h2⟩:=dI h;exact⟨v,h1,λenv' s' K' hx _ hk=>by simp only[wpOp,e1,e2];rw[hx x (by simp[Op.operands])];exact h2 K' s' hk⟩
  ·rename_i e1 e2
   have ⟨v,h1,h2⟩:=dI h;exact⟨v,h1,λenv' s' K' hx _ hk=>by simp only[wpOp,e1,e2];rw[hx x (by simp[Op.operands])];exact h2 K' s' hk⟩
  ·exact h.elim
 case sliceToArrayPointer t x=>have ⟨v,h1,h2⟩:=dI h;exact⟨v,h1,λenv' s' K' hx _ hk=>by simp only[wpOp];rw[hx x (by simp[Op.operands])];exact h2 K' s' hk⟩
 case makeInterface t x=>
  split at h
  ·exact h.elim
  ·rename_i d hni hu
   refine⟨_,h,λenv' s' K' hx _ hk=>?_⟩;simp only[wpOp,hu];rw[hx x (by simp[Op.operands])];exact hk
  ·exact h.elim
 case makeFunc f fs cs=>
  have e1:∀{env':Env},(∀q∈(Op.makeFunc f fs cs).operands.toList,evD env' q=evD env q)->fs.toList.map (evD env')=fs.toList.map (evD env)/\cs.toList.map (evD env')=cs.toList.map (evD env):=λhx=>
   ⟨map_congr_left λq hq=>hx q (by simp only[Op.operands,Array.toList_append,mem_append];exact .inl hq),map_congr_left λq hq=>hx q (by simp only[Op.operands,Array.toList_append,mem_append];exact .inr hq)⟩
  grind [wpOp]
 case slice t x lo hi mx=>
  have e1:∀{env':Env},(∀q∈(Op.slice t x lo hi mx).operands.toList,evD env' q=evD env q)->evD env' x=evD env x/\oev env' lo=oev env lo/\oev env' hi=oev env hi/\oev env' mx=oev env mx:=λhx=>
   ⟨hx x (by simp[Op.operands]),zC λy e=>hx y (by subst e;simp[Op.operands]),zC λy e=>hx y (by subst e;simp[Op.operands]),zC λy e=>hx y (by subst e;simp[Op.operands])⟩
  split at h
  ·rename_i elem hu
   split at h
   ·rename_i es hs
    have ⟨v,h1,h2⟩:=dI h;exact⟨v,h1,(by simp_all [wpOp])⟩
   ·exact h.elim
  ·rename_i n elem hu
   split at h
   ·rename_i es hs
    have ⟨v,h1,h2⟩:=aX h;refine⟨v,h2,λenv' s' K' hx hvs hk=>?_⟩;have ⟨q1,q2,q3,q4⟩:=e1 hx;simp only[wpOp,hu,hs,q1,q2,q3,q4];rcases hvs with hvs|hvs
    ·simp[clsD,hu]at hvs
    ·rw[QY hvs h1];exact hk
   ·exact h.elim
  ·exact h.elim
 case fieldAddr t x f=>
  split at h
  ·rename_i k e
   have ⟨v,h1,h2⟩:=dI h;exact⟨v,h1,λenv' s' K' hx _ hk=>by simp only[wpOp,e];rw[hx x (by simp[Op.operands])];exact h2 K' s' hk⟩
  ·exact h.elim
 case field t x f=>
  split at h
  ·rename_i fields hu
   split at h
   ·rename_i fd hfd
    split at h
    ·rename_i g hg
     have ⟨v,h1,h2⟩:=dI h;exact⟨v,h1,λenv' s' K' hx _ hk=>by simp only[wpOp,hu,hfd,hg];rw[hx x (by simp[Op.operands])];exact h2 K' s' hk⟩
    ·exact h.elim
   ·exact h.elim
  ·exact h.elim
 case indexAddr t x i=>
  split at h
  ·rename_i len elem hu
   split at h
   ·rename_i n hs
    have ⟨v,h1,h2⟩:=dI h;exact⟨v,h1,λenv' s' K' hx _ hk=>by simp only[wpOp,hu,hs];rw[hx x (by simp[Op.operands]),hx i (by simp[Op.operands])];exact h2 K' s' hk⟩
   ·exact h.elim
  ·rename_i elem hu
   split at h
   ·rename_i n hs
    have ⟨v,h1,h2⟩:=dI h;exact⟨v,h1,λenv' s' K' hx _ hk=>by simp only[wpOp,hu,hs];rw[hx x (by simp[Op.operands]),hx i (by simp[Op.operands])];exact h2 K' s' hk⟩
   ·exact h.elim
  ·exact h.elim
 case index t x i=>
  split at h
  ·rename_i len elem hu
   split at h
   ·rename_i n g hs hg
    have ⟨v,h1,h2⟩:=dI h;exact⟨v,h1,λenv' s' K' hx _ hk=>by simp only[wpOp,hu,hs,hg];rw[hx x (by simp[Op.operands]),hx i (by simp[Op.operands])];exact h2 K' s' hk⟩
   ·exact h.elim
  ·rename_i hu
   have ⟨v,h1,h2⟩:=dI h;exact⟨v,h1,λenv' s' K' hx _ hk=>by simp only[wpOp,hu];rw[hx x (by simp[Op.operands]),hx i (by simp[Op.operands])];exact h2 K' s' hk⟩
  ·exact h.elim
 case lookup t x k ok=>
  split at h
  ·rename_i kt et hu
   split at h
   ·rename_i ik z hku hz
    have ⟨r,h1,h2⟩:=aX h;refine⟨_,h2,λenv' s' K' hx hvs hk=>?_⟩;simp only[wpOp,hu,hku,hz];rw[hx x (by simp[Op.operands]),hx k (by simp[Op.operands])];rcases hvs with hvs|hvs
    ·simp[clsD]at hvs
    ·rw[zw hvs h1];exact hk
   ·rename_i kd z hni hku hz
    have ⟨r,h1,h2⟩:=aX h;refine⟨_,h2,λenv' s' K' hx hvs hk=>?_⟩;simp only[wpOp,hu,hz];rw[hx x (by simp[Op.operands]),hx k (by simp[Op.operands])];rcases hvs with hvs|hvs
    ·simp[clsD]at hvs
    ·rw[hku,zx hvs h1]
     cases kd<;>first|exact hk|exact absurd rfl (hni _)
   ·exact h.elim
  ·exact h.elim
 case typeAssert x xt t ok=>
  split at h
  ·exact h.elim
  ·rename_i d hni hu
   have ⟨v,h1,h2⟩:=dI h;refine⟨v,h1,λenv' s' K' hx _ hk=>?_⟩;simp only[wpOp,hu];rw[hx x (by simp[Op.operands])]
   simp_all
  ·exact h.elim
 case extract x i=>have ⟨v,h1,h2⟩:=dI h;exact⟨v,h1,λenv' s' K' hx _ hk=>by simp only[wpOp];rw[hx x (by simp[Op.operands])];exact h2 K' s' hk⟩
 case call c=>
  simp only[clsD]at hc;cases hcal:c.callee with
  | builtin b=>
    simp only[hcal]at h hc;have e1:∀{env':Env},(∀q∈(Op.call c).operands.toList,evD env' q=evD env q)->c.args.toList.map (evD env')=c.args.toList.map (evD env):=λhx=>
     map_congr_left λq hq=>hx q (by simp only[Op.operands];unfold Call.operands;grind)
    have fin:(∃v,K v s/\∀(s':Hq) (K':AV->Hq->Prop),(clsD P (.call c)=0∨Vis s s')->K' v s'->iy P b c.argTypes.toList (c.args.toList.map (evD env)) K' s')->∃v,K v s/\∀(env':Env) (s':Hq) (K':AV->Hq->Prop),(∀q∈(Op.call c).operands.toList,evD env' q=evD env q)->(clsD P (.call c)=0∨Vis s s')->K' v s'->wpOp P env' K' s' (.call c):=by
     grind [wpOp]
    refine fin ?_;generalize c.args.toList.map (evD env)=args at h ⊢;have hcl:clsD P (.call c)=clsD P (.call c):=rfl
    conv at hcl=>rhs;simp only[clsD,hcal]
    generalize c.argTypes.toList=ts at h hc hcl ⊢;unfold iy at h;split at h
    ·simp at hc
    ·rename_i ty' ts' x
     split at h
     ·rename_i kt et hu
      have ⟨n,h1,h2⟩:=aX h;refine⟨_,h2,λs' K' hvs hk=>?_⟩;simp only[iy,hu];rcases hvs with hvs|hvs
      ·grind
      ·rw[zy hvs h1];exact hk
     ·rename_i d hni hu
      have ⟨n,h1,h2⟩:=aX h;refine⟨_,h2,λs' K' _ hk=>?_⟩;simp only[iy,hu];cases d<;>first|(rw[h1];exact hk)|exact absurd rfl (hni _ _)
     ·exact h.elim
    ·simp at hc
    ·have ⟨v,h1,h2⟩:=dI h
     exact⟨v,h1,λs' K' _ hk=>h2 K' s' hk⟩
    ·have ⟨v,h1,h2⟩:=dI h
     exact⟨v,h1,λs' K' _ hk=>h2 K' s' hk⟩
    ·exact h.elim
  |_=>simp[hcal]at hc
end
def kL(acc:List Nat)(s:Nat)(e:Edge):Nat:=cond (Region.binds .any e) (s |||(2^e.on |||acc.getD e.on 0)) s
theorem nj(acc:List Nat):∀(l:List Edge) (s i:Nat),Nat.testBit (l.foldl (kL acc) s) i=true->Nat.testBit s i=true∨∃e∈l,Region.binds .any e=true/\(e.on=i∨Nat.testBit (acc.getD e.on 0) i=true)
 |[],s,i,h=>.inl h
 | e::l,s,i,h=>by
   rcases nj acc l _ i h with h|⟨e',he,hb⟩;unfold kL at h;rcases hb:Region.binds .any e with _|_;rw[hb]at h;exact .inl h;rw[hb]at h;simp only[cond_true,testBit_or,Bool.or_eq_true]at h;rcases h with h|h|h;exact .inl h;refine .inr ⟨e,sI,hb,.inl ?_⟩;rw[testBit_two_pow]at h;simpa using h;exact .inr ⟨e,sI,hb,.inr h⟩
   grind
theorem KF:∀(os:List Oper) (acc:List Nat),∃L:List Nat,masks os acc=acc++L/\L.length=os.length/\
  ∀j o,os[j]?=some o->∃pre:List Nat,(∀k,k<acc.length+j->pre[k]?=(acc++L)[k]?)/\pre.length=acc.length+j/\L[j]?=some (o.after.toList.foldl (kL pre) 0):=by
 intro os
 induction os with
 |nil=>simp_all [masks]
 | cons o os ih=>
   intro acc;have ⟨L,h1,h2,h3⟩:=ih (acc ++ [o.after.toList.foldl (kL acc) 0]);refine⟨o.after.toList.foldl (kL acc) 0::L,?_,by simp[h2],λj q hq=>?_⟩;show masks os (acc ++ [_])=_;rw[show(acc ++ [o.after.toList.foldl (λs e=>cond (Region.binds .any e) (s |||(2^e.on |||acc.getD e.on 0)) s) 0])=acc ++ [o.after.toList.foldl (kL acc) 0]from rfl,h1];simp
   ·cases j with
    | zero=>
      grind
    | succ j=>
      simp at hq;have ⟨pre,p1,p2,p3⟩:=h3 j q hq;refine⟨pre,λk hk=>?_,by rw[p2];simp;omega,by simpa using p3⟩
      grind
theorem QZ{ops:Array Oper}(hb:∀(j:Nat) (o:Oper),ops[j]?=some o->∀e∈o.after,Region.binds .any e=true->e.on<j)(X:Nat->Prop)
  (hX:∀(j:Nat) (o:Oper),ops[j]?=some o->X j->∀e∈o.after,Region.binds .any e=true->X e.on) :
  ∀(j:Nat) (o:Oper) (mk i:Nat),ops[j]?=some o->(masks ops.toList [])[j]?=some mk->Nat.testBit mk i=true->(∀e∈o.after,Region.binds .any e=true->X e.on)->X i:=by
 have ⟨L,h1,h2,h3⟩:=KF ops.toList [];rw[h1];simp only[nil_append]at h3 ⊢;intro j
 induction j using Nat.strongRecOn with
 | _ j ih=>
   intro o mk i ho hmk hbit hready;have ⟨pre,p1,p2,p3⟩:=h3 j o gR;rw[p3]at hmk;cases hmk;rcases nj pre _ _ _ hbit with h|⟨e,he,hbe,h⟩;simp at h;have he':e∈o.after:=Array.mem_def.2 he;rcases h with rfl|h;exact hready e he' hbe;have hlt:=hb j o ho e he' hbe;have hXe:=hready e he' hbe;have hge:e.on<ops.size:=gR;have hoe:ops[e.on]?=some ops[e.on]:=Array.getElem?_eq_getElem hge;have hm:L[e.on]?=some (pre.getD e.on 0):=by
    rw[<- p1 e.on (by simp at p2 ⊢;omega)];have:e.on<pre.length:=by simp at p2;omega
    grind
   exact ih e.on hlt _ _ i hoe hm h (hX e.on _ hoe hXe)
theorem KG:∀(l:List Oper) (i:Nat),mh l i=true->∀j o,l[j]?=some o->∀e∈o.after,Region.binds .any e=true->e.on<i+j
 |[],_,_,j,o,h=>by simp at h
 | p::l,i,h,j,o,ho=>by
   simp only[mh,Bool.and_eq_true]at h;cases j with
   | zero=>
     simp at ho;subst ho;intro e he hb;have:=all_eq_true.1 h.1 e (Array.mem_def.1 he)
     simp_all
   | succ j=>
     simp at ho;intro e he hb;have:=KG l (i+1) h.2 j o ho e he hb;omega
def Closed(ops:Array Oper)(X:Nat->Prop):Prop:=∀(j:Nat) (o:Oper),ops[j]?=some o->X j->∀e∈o.after,Region.binds .any e=true->X e.on
def cntF:List Bool->Nat
 |[]=>0
 |b::l=>(if b then 0 else 1)+cntF l
theorem KH:∀(l:List Bool) (i:Nat),l[i]?=some false->cntF (l.set i true)+1=cntF l
 |[],i,h=>by simp at h
 |b::l,0,h=>by grind [cntF]
 |b::l,i+1,h=>by simp at h;have:=KH l i h;grind [cntF]
theorem KI:∀(l:List Bool),cntF l=0->∀i:Nat,l[i]?≠some false
 |[],_,i=>sI
 | b::l,h,i=>by
   simp only[cntF]at h;cases b with
   |false=>simp at h
   | true=>
     cases i with
     |zero=>simp
     |succ i=>simpa using KI l (by simpa using h) i
theorem Q0(n:Nat):cntF (replicate n false)=n:=by
 induction n with
 |zero=>rfl
 |succ n ih=>grind [cntF]
def Done(listed:Array Bool):Nat->Prop:=λi=>listed.getD i true=true
theorem KJ{listed:Array Bool}{j:Nat}(h:listed.getD j true=false):Done (listed.setIfInBounds j true)=λi=>i=j∨Done listed i:=by
 funext i
 apply propext;unfold Done
 by_cases e:j=i
 simp_all
 rw[getD_set_ne true e]
 grind
theorem undone{listed:Array Bool}{j:Nat}(h:listed.getD j true=false):listed.toList[j]?=some false:=by
 rcases Nat.lt_or_ge j listed.size with h'|h'
 simp_all
 grind
theorem Q3{listed:Array Bool}{j:Nat}(h:listed.getD j false=true):Done listed j:=by
 grind [Done]
theorem Q4{l:List Oper}(h:ml l=true):mh l 0=true/\∀o∈l,∀c,o.op≠.defer c:=by
 grind [ml]
section
variable {P:Program} {r:Option Nat}
theorem zE{id:Nat}{ops:Array Oper}{Q:Exit->Act->World->Prop}(hm:P.follows .mixedOrders=true)(hrg:ml ops.toList=true)(I:(Nat->Prop)->Act->World->Prop)
  (step:∀(X:Nat->Prop) a w j o (KK:Act->World->Prop),I X a w->Closed ops X->ops[j]?=some o->¬X j->(∀i,Nat.testBit ((masks ops.toList []).getD j 0) i=true->X i)->(∀a' w',I (λi=>i=j∨X i) a' w'->KK a' w')->wpOpIn (FR r) 0 P ops Q j KK a w)
  (fin:∀(X:Nat->Prop) a w,(∀i,i<ops.size->X i)->I X a w->Q .normal a w) {a:Act}{w:World}(h:I (λ_=>False) a { w with drawn:=w.drawn+1 }) (hcg:∀X Y a w,(∀i,i<ops.size->(X i↔Y i))->I X a w->I Y a w):(Code.region id ops true).wpIn (FR r) 0 P Q a w:=by
 refine wpIn_region_any hm ?_;have ⟨hback,_⟩:=Q4 hrg;have back:∀(j:Nat) (o:Oper),ops[j]?=some o->∀e∈o.after,Region.binds .any e=true->e.on<j:=λj o ho e he hb=>by have:=KG ops.toList 0 hback j o gR e he hb;omega
 have ⟨L,l1,l2,_⟩:=KF ops.toList [];have ready:∀(listed:Array Bool),listed.size=ops.size->Region.ready .any ops listed=[]->∀i,i<ops.size->Done listed i:=by
  intro listed hs hnil i
  induction i using Nat.strongRecOn with
  | _ i ih2=>
    intro hi;unfold Done;rcases hg:listed.getD i true with _|_
    ·exfalso
     have ho:ops[i]?=some ops[i]:=Array.getElem?_eq_getElem hi;have:i∈Region.ready .any ops listed:=mem_ready.2 (by grind [Done])
     grind
    ·rfl
 have main:∀(fuel:Nat) (listed:Array Bool) (a:Act) (w:World),listed.size=ops.size->cntF listed.toList<=fuel->Closed ops (Done listed)->I (Done listed) a w->wpAnyIn (FR r) 0 P .any ops Q fuel listed a w:=by
  intro fuel
  induction fuel with
  | zero=>
    intro listed a w hs hcnt hc hi;have hall:∀i,i<ops.size->Done listed i:=by
     intro i _;unfold Done;rcases hg:listed.getD i true with _|_
     ·exact absurd (undone hg) (KI _ oM i)
     ·rfl
    refine⟨?_,fin _ _ _ hall hi⟩;rcases hrd:Region.ready .any ops listed with _|⟨x,xs⟩
    ·rfl
    ·exfalso
     have hx:x∈Region.ready .any ops listed:=by rw[hrd];simp
     have ⟨h1,o,ho,_⟩:=mem_ready.1 hx
     grind [Done]
  | succ fuel ih2=>
    intro listed a w hs hcnt hc hi;refine⟨λhnil=>fin _ _ _ (ready listed hs hnil) hi,λj hj=>?_⟩;have ⟨hjun,o,ho,hall⟩:=mem_ready.1 hj;have hjx:¬Done listed j:=by grind [Done]
    have hrdy:∀e∈o.after,Region.binds .any e=true->Done listed e.on:=by grind [Q3]
    refine step _ _ _ j o _ hi hc ho hjx (λi hb=>?_) λa' w' hi'=>?_
    ·have hlen:(masks ops.toList []).length=ops.size:=by rw[l1];simp[l2]
     have hjl:=(Array.getElem?_eq_some_iff.1 ho).1;have hmm:(masks ops.toList [])[j]?=some ((masks ops.toList []).getD j 0):=gR;exact QZ back (Done listed) hc j o _ i ho hmm hb hrdy
    ·rw[<- KJ hjun]at hi'
     refine ih2 _ a' w' (by simp[hs]) ?_ ?_ hi'
     ·have:=KH _ _ (undone hjun)
      grind
     ·rw[KJ hjun]
      intro i p hp hi e he hb;rcases hi with rfl|hi
      ·grind
      ·exact .inr (hc i p hp hi e he hb)
 have hno:∀i,i<ops.size->¬Done (Array.replicate ops.size false) i:=by intro i hi;unfold Done;simp[hi]
 refine main ops.size _ a _ sI (by simp[Q0]) (λi o ho hi=>?_) (gR)
 grind
end
section
variable {P:Program} {env env':Env} {s s':Hq} {K:AV→Hq→Prop}
theorem zF{o:Op}(hx:∀x∈o.operands.toList,evD env' x=evD env x)(h:wpOp P env K s o):wpOp P env' K s o:=by
 by_cases hc:clsD P o<=1
 ·grind [zD,Vis.refl]
 cases o<;>first|(exfalso;simp[clsD]at hc;done)|skip
 all_goals simp only[wpOp]at h
 all_goals try (exact h.elim)
 case alloc t=>simp only[wpOp];exact h
 case box t x=>simp only[wpOp];rw[hx x (by simp[Op.operands])];exact h
 case buildSlice t n ps=>
  simp only[wpOp];split at h
  ·split at h
   ·cases e:ble (n*_) 16777216 with
    |false=>rw[e]at h;exact h.elim
    | true=>
      rw[e,cond_true]at h;rw[cond_true];split at h
      ·rename_i l hl
       rw[ng (λ_ _=>trivial) λp hp=>hx _ (by simpa [Op.operands]using nh hl p hp)];exact h
      ·exact h.elim
   ·exact h.elim
  ·exact h.elim
 case insert t m k x=>simp only[wpOp];rw[hx m (by simp[Op.operands]),hx k (by simp[Op.operands]),hx x (by simp[Op.operands])];exact h
 case store t p x=>simp only[wpOp];rw[hx p (by simp[Op.operands]),hx x (by simp[Op.operands])];exact h
 case makeMap t r=>
  cases r with
  |none=>simp only[wpOp];exact h
  |some x=>simp only[wpOp];rw[hx x (by simp[Op.operands])];exact h
 case makeSlice t x y=>simp only[wpOp];rw[hx x (by simp[Op.operands]),hx y (by simp[Op.operands])];exact h
 case slice=>exact(hc (by show clsD P (.slice _ _ _ _ _)<=1;simp only[clsD];split<;>omega)).elim
 case mapUpdate t m k x=>simp only[wpOp];rw[hx m (by simp[Op.operands]),hx k (by simp[Op.operands]),hx x (by simp[Op.operands])];exact h
 case range t x=>simp only[wpOp];rw[hx x (by simp[Op.operands])];exact h
 case entry x=>simp only[wpOp];rw[hx x (by simp[Op.operands])];exact h
 case call c=>
  have e1:c.args.toList.map (evD env')=c.args.toList.map (evD env):=map_congr_left λq hq=>hx q (by simp only[Op.operands];unfold Call.operands;grind);simp only[wpOp];rw[e1];cases hc:c.callee with
  |builtin b=>rw[hc]at h;exact h
  |invoke r name=>rw[hc]at h;simp only at h ⊢;rw[hx r (by simp[Op.operands,Call.operands,hc])];exact h
  | value f=>
    rw[hc]at h;simp only at h ⊢;have e2:=hx f (by simp[Op.operands,Call.operands,hc]);cases f with
    |func k=>exact h
    |_=>simp only at h ⊢;rw[e2];exact h
end
def eC(all:List Oper)(g:Option (Nat×Bool))(env:Env):Bool:=match g with
 |none=>true
 | some (j,w)=>match gx all j with
   |none=>false
   | some d=>match env d with
     | .bool b=>b == w
     |_=>false
def GV(all:List Oper)(g:Option (Nat×Bool))(env:Env):Prop:=∀j w d,g=some (j,w)->gx all j=some d->(∃b,env d=.bool b)∨env d=.undef
section
variable {P:Program} {ρ ρ':Ren} {base nt:Nat} {s s' t h:Hq} {w:World} {env env':Env} {a:Act} {r:Option Nat} {ops:Array Oper} {o:Oper}
theorem zG{all:List Oper}{g:Option (Nat×Bool)}{kn:Kn}{go skip:Kn->Prop}(hk:KnOk kn env)(h:kJ all g kn env go skip):
  GV all g env/\∃kn',KnOk kn' env/\((eC all g env=true/\go kn')∨(eC all g env=false/\skip kn')):=by
 unfold kJ at h;split at h
 ·exact⟨(λ_ _ _ e=>nomatch e),kn,hk,.inl ⟨rfl,h⟩⟩
 ·rename_i j want
  split at h
  ·rename_i hd
   refine⟨(λj' w' d e hd'=>by cases e;rw[hd]at hd';cases hd'),kn,hk,.inr ⟨by simp only[eC,hd],h⟩⟩
  ·rename_i d hd
   have hw:∀b,env d=.bool b->eC all (some (j,want)) env=(b == want):=(by grind [eC])
   have hu:env d=.undef->eC all (some (j,want)) env=false:=(by grind [eC,AV.undef])
   have gv:((∃b,env d=.bool b)∨env d=.undef)->GV all (some (j,want)) env:=λk j' w' d' e hd'=>by cases e;rw[hd]at hd';cases hd';exact k
   split at h
   ·rename_i b hb
    have e:env d=b:=hk d (some b) hb
    grind
   ·rename_i hb
    have e:env d=.undef:=hk d none hb
    grind
   ·unfold ai at h
    split at h
    ·rename_i he
     refine⟨gv (.inl ⟨_,he⟩),_,hk.cons (b:=some true) he,?_⟩
     grind
    ·rename_i he
     refine⟨gv (.inl ⟨_,he⟩),_,hk.cons (b:=some false) he,?_⟩
     grind
    ·exact h.elim
theorem KL(hT:ER ρ nt env a.tmps)(hg:GV ops.toList o.guard env):Region.wanted o (yielded ops a.tmps)=eC ops.toList o.guard env:=by
 unfold Region.wanted eC;cases e:o.guard with
 |none=>rfl
 | some p=>
   have ⟨j,want⟩:=p;simp only;cases hd:gx ops.toList j with
   | none=>
     have:yielded ops a.tmps j=none:=by
      unfold gx at hd;unfold yielded
      grind
     rw[this];rfl
   | some d=>
     simp only;rcases hg j want d e hd with⟨b,hb⟩|hb
     ·rw[(kK hT hd hb).1 b rfl,hb];grind
     ·rw[(kK hT hd hb).2 rfl,hb];rfl
def Ag(ops:Array Oper)(o:Oper)(env env':Env):Prop:=∀x∈o.looksAt ops,env' x=env x
theorem Ag.opd(h:Ag ops o env env'):∀x∈o.op.operands.toList,evD env' x=evD env x:=λx hx=>by
 cases x with
 |tmp t=>exact h t (mem_append_left _ (mem_filterMap.2 ⟨.tmp t,by simpa using hx,rfl⟩))
 |_=>rfl
theorem Ag.slot(h:Ag ops o env env'){j:Nat}{w:Bool}{d:Nat}(e:o.guard=some (j,w))(hd:gx ops.toList j=some d):env' d=env d:=by
 refine h d (mem_append_right _ ?_)
 grind [gx]
theorem Ag.want(h:Ag ops o env env'):eC ops.toList o.guard env'=eC ops.toList o.guard env:=by
 unfold eC
 grind [slot]
theorem Ag.gv(h:Ag ops o env env')(hg:GV ops.toList o.guard env):GV ops.toList o.guard env':=λj w d e hd=>by rw[h.slot e hd];exact hg j w d e hd
theorem Ag.symm(h:Ag ops o env env'):Ag ops o env' env:=λx hx=>(h x hx).symm
theorem Ag.trans{env2:Env}(h:Ag ops o env env')(k:Ag ops o env' env2):Ag ops o env env2:=λx hx=>(k x hx).trans (h x hx)
def SF(P:Program)(ops:Array Oper)(nt:Nat)(h:Hq)(o:Oper)(env:Env)(v:AV):Prop:=GV ops.toList o.guard env/\(∀d,o.dst=some d->blt d nt=true)/\okOp o.op=true/\
 ((eC ops.toList o.guard env=true/\((clsD P o.op<=1/\∀s',(clsD P o.op=0∨Vis h s')->wpOp P env (λv' _=>v'=v) s' o.op)∨(clsD P o.op≠0/\wpOp P env (λv' _=>v'=v) (frz h) o.op)))∨(eC ops.toList o.guard env=false/\v=.undef))
theorem SF.ag{v:AV}(hs:SF P ops nt h o env v)(k:Ag ops o env env'):SF P ops nt h o env' v:=by
 have ⟨h1,h2,h3,h4⟩:=hs;refine⟨k.gv h1,h2,h3,?_⟩;rw[k.want];rcases h4 with⟨h5,h6⟩|h4
 ·refine .inl ⟨h5,?_⟩
  rcases h6 with⟨h7,h8⟩|⟨h7,h8⟩
  ·exact .inl ⟨h7,λs' hv=>zF k.opd (h8 s' hv)⟩
  grind [zF,Ag.opd]
 ·exact .inr h4
theorem zH(h:Hq):Vis h (frz h):=λi e b hi=>⟨true,by unfold frz;rw[hi]⟩
theorem Fit.look(hf:Fit ρ base s t w)(hv:Vis h (add t s)):Fit ρ base (frz h) (add t s) w:=by
 have e:∀i x,frz h i=some x->∃e',add t s i=some (e',x.2)/\x.1=true:=λi x hx=>by
  unfold frz at hx;split at hx
  ·rename_i e b hb;cases hx;have ⟨e',q⟩:=hv _ _ _ hb;exact⟨e',q,rfl⟩
  ·cases hx
 have e1:add (add t s) (frz h)=add t s:=by
  grind [add,frz]
 refine⟨by rw[e1];exact hf.wr,λi x hx=>?_⟩;cases q:frz h i with
 |none=>exact .inl rfl
 | some y=>
   grind
theorem SF.run{v:AV}{KK:Act->World->Prop}{Q:Exit->Act->World->Prop}(g:Grd P)(hs:SF P ops nt h o env v)(hf:Fit ρ base s t w)(hv:clsD P o.op≠0->Vis h (add t s))(hT:ER ρ nt env a.tmps)
  (next:∀v' ρ' w',Le ρ ρ'->Below base w w'->Fit ρ' base s t w'->Rel ρ' v v'->KK (a.put o.dst v') w') :
  if Region.wanted o (yielded ops a.tmps)then o.wpIn (FR r) 0 P a w KK Q else(∀f,o.about P w a.eval=some f->(FR r).fn f)/\KK (a.put o.dst undef) w:=by
 have ⟨h1,h2,h3,h4⟩:=hs;rw[KL hT h1];rcases h4 with⟨h5,h6⟩|⟨h5,h6⟩
 ·rw[h5,if_pos rfl]
  rcases h6 with⟨h7,h8⟩|⟨h7,h8⟩
  ·have det:∀s' t',Fit ρ base s' t' w->wpOp P env (λv' _=>v'=v) s' o.op->o.wpIn (FR r) 0 P a w KK Q:=λs' t' hf' hw=>by
    obtain⟨v1,v',e,hr,rfl⟩:=nc h7 hf' hT h3 hw;have hnd:∀c,o.op≠.defer c:=λc e=>by rw[e]at h7;exact absurd h7 (by simp[clsD])
    refine⟨fT,?_⟩;rw[Oper.semAt_eq _ _ _ hnd,e];exact next v' ρ w (.refl _) (.refl _ _) hf hr
   by_cases h0:clsD P o.op=0
   ·grind
   ·exact det _ _ (hf.look (hv h0)) (h8 _ (.inr (zH h)))
  ·refine gN g (hf.look (hv h7)) hT h3 h8 λv1 v' ρ' s' w' e st hr=>?_
   subst e;refine next v' ρ' w' st.le st.below ⟨st.fit.wr.sub λi e hi=>bJ hi,hf.fr⟩ hr
 ·rw[h5,if_neg sI]
  subst h6;exact⟨fT,next undef ρ w (.refl _) (.refl _ _) hf kj⟩
end
structure Plan where
 S:List Nat
 M:List Nat
 N:List Nat
 T:List Nat
def dM(ops:List Oper):List Nat->List Oper
 |[]=>[]
 | i::l=>match ops[i]? with
   |some o=>o::dM ops l
   |none=>dM ops l
abbrev NewD:=Option Tmp×TypeId×List AV×(Nat->AV)
section
variable (P : Program) (nt : Nat)
def i5(env:Env)(o:Op)(K:TypeId->List AV->(Nat->AV)->Prop):Prop:=match o with
 | .alloc t=>match zcells P t with
   |some z=>K t z (λb=>Pp b)
   |none=>False
 | .box t x=>aD (evD env x).cells=true/\K t (evD env x).cells (λb=>Pp b)
 | .buildSlice t len ps=>match P.underlying t with
   | some (.slice elem)=>match zelem P elem with
     | some (z,es)=>cond (ble (len*es) 16777216) (match places (λi=>some (i*es,es)) ps.toList with
       |some l=>oK (aq (repl len z) (evPl env l)) λcs=>aD cs=true/\K elem cs (λb=>.slc b 0 len (some len) es)
       |none=>False) False
     |none=>False
   |_=>False
 |_=>False
def evS(all:List Oper)(h:Hq):List Oper->Kn->Env->(Env->Prop)->Prop
 |[],_,env,K=>K env
 |o::os,kn,env,K=>kJ all o.guard kn env
   (λkn=>cond (ble (clsD P o.op) 1) (wpOp P env (λv _=>setK nt o.dst env v λenv=>evS all h os (forget kn o.dst) env K) h o.op)
    (∃v,wpOp P env (λv' _=>v'=v) (frz h) o.op/\setK nt o.dst env v λenv=>evS all h os (forget kn o.dst) env K))
   (λkn=>setK nt o.dst env .undef λenv=>evS all h os (mark kn o.dst) env K)
def evC(env:Env):List Oper->(List NewD->Prop)->Prop
 |[],K=>K []
 |o::os,K=>i5 P env o.op λel cs f=>evC env os λl=>K ((o.dst,el,cs,f)::l)
def evN:List NewD->Env->(Env->Hq->Prop)->Hq->Prop
 |[],env,K,s=>K env s
 |(d,el,cs,f)::l,env,K,s=>newK el cs (λb s=>setK nt d env (f b) λenv=>evN l env K s) s
def gO(all:List Oper)(p:Plan)(h sM:Hq)(un:Hq->Hq)(env:Env)(K:Env->Hq->Prop):Prop:=
 evS P nt all h (dM all p.S) [] env λenv1=>evC P env1 (dM all p.N) λns=>opsE P nt all (dM all p.M) [] env1 (λenv2 s2=>evN nt ns env2 (λenv3 s3=>opsE P nt all (dM all p.T) [] env3 K s3) (un s2)) sM
end
def bf(ops:Array Oper)(i j:Nat):Prop:=Nat.testBit ((masks ops.toList []).getD j 0) i=true
def Ow(ops:Array Oper)(i:Nat):Prop:=∃(j:Nat) (x y:Oper) (d:Nat),ops[i]?=some x/\ops[j]?=some y/\x.dst=some d/\d∈y.looksAt ops/\¬bf ops i j
def Nz(P:Program)(ops:Array Oper)(i:Nat):Prop:=∃o,ops[i]?=some o/\(clsD P o.op≠0∨Ow ops i)
def Mv(P:Program)(ops:Array Oper)(i:Nat):Prop:=∃o,ops[i]?=some o/\(1<clsD P o.op∨Ow ops i)
def chOf(late:Bool)(p:Plan):List Nat:=cond late p.M (p.S++p.M)
structure DrOK(P:Program)(ops:Array Oper)(p:Plan)(lk late:Bool):Prop where
 rg:ml ops.toList=true
 ok:∀(j:Nat) (o:Oper),ops[j]?=some o->okOp o.op=true
 cov:∀j,j<ops.size->j∈p.S∨j∈p.M∨j∈p.N∨j∈p.T
 nd:(p.S++(p.M++(p.N++p.T))).Nodup
 lt:∀j∈p.S++(p.M++(p.N++p.T)),j<ops.size
 dst:∀(i j:Nat) (x y:Oper) (d:Nat),ops[i]?=some x->ops[j]?=some y->x.dst=some d->(i≠j->y.dst≠some d)/\(d∈y.looksAt ops->i≠j/\(bf ops i j∨bf ops j i))
 oSN:∀i∈p.S++p.N,¬Ow ops i
 lS:∀l1 j l2,p.S=l1++j::l2->∀i,i<ops.size->bf ops i j->i∈l1
 lM:∀l1 j l2,p.M=l1++j::l2->(∀i,i<ops.size->bf ops i j->i∈p.S∨i∈l1)/\∀m∈l1,Nz P ops m->(Mv P ops m∨Mv P ops j)->bf ops m j
 lN:∀n∈p.N,(∀o,ops[n]?=some o->o.guard=none/\clsD P o.op=2)/\∀i,i<ops.size->bf ops i n->i∈p.S
 lT:∀l1 j l2,p.T=l1++j::l2->(∀i,i<ops.size->bf ops i j->i∈p.S∨i∈p.M∨i∈p.N∨i∈l1)/\(∀m∈chOf late p++l1,Nz P ops m->(Mv P ops m∨Mv P ops j)->bf ops m j)/\∀n∈p.N,bf ops n j
 lk:lk=false->∀m∈p.M,Mv P ops m->∀i∈p.S,Nz P ops i->bf ops i m
section
variable {P:Program} {nt:Nat} {ops:Array Oper} {h:Hq} {env:Env}
theorem tS{i:Nat}{l:List Nat}(hi:i<ops.size):dM ops.toList (i::l)=ops[i]::dM ops.toList l:=by
 grind [dM]
theorem tT{dst:Option Tmp}{v:AV}{K:Env->Prop}(h:setK nt dst env v K):∃env',K env'/\(∀d,dst≠some d->env' d=env d)/\∀d,dst=some d->env' d=v/\blt d nt=true:=by
 cases dst with
 |none=>exact⟨env,h,λ_ _=>rfl,λd e=>by cases e⟩
 | some d=>
   unfold setK at h;simp only at h;cases hd:blt d nt with
   |false=>grind
   | true=>
     rw[hd,cond_true]at h;refine⟨upd env d v,h,λi hi=>?_,λi hi=>?_⟩
     ·unfold upd
      cases e:beq i d with
      |true=>simp_all
      |false=>rfl
     simp_all [upd]
def Apart(ops:Array Oper)(l:List Nat):Prop:=l.Nodup/\(∀i∈l,i<ops.size)/\(∀i∈l,∀j∈l,i≠j->∀x y d,ops[i]?=some x->ops[j]?=some y->x.dst=some d->y.dst≠some d)/\∀l1 j l2,l=l1++j::l2->∀i∈j::l2,¬Ow ops i->∀x y d,ops[i]?=some x->ops[j]?=some y->x.dst=some d->d ∉ y.looksAt ops
theorem Apart.tail{i:Nat}{l:List Nat}(h:Apart ops (i::l)):Apart ops l:=
 ⟨(nodup_cons.1 h.1).2,λj hj=>h.2.1 j (by simp[hj]),λa ha b hb=>h.2.2.1 a (by simp[ha]) b (by simp[hb]),λl1 j l2 e=>h.2.2.2 (i::l1) j l2 (by rw[e];rfl)⟩
theorem nk{kn:Kn}{o:Oper}{K:AV->Hq->Prop}{s:Hq}{v:AV}(hok:okOp o.op=true)(hb:∀d,o.dst=some d->blt d nt=true)(hgv:GV ops.toList o.guard env)(hw:eC ops.toList o.guard env=true)(hc:clsD P o.op<=1)
  (hd:∀(env':Env) (s':Hq) (K':AV->Hq->Prop),(∀x∈o.op.operands.toList,evD env' x=evD env x)->(clsD P o.op=0∨Vis h s')->K' v s'->wpOp P env' K' s' o.op):SF P ops nt h o env v:=
 ⟨hgv,hb,hok,.inl ⟨hw,.inl ⟨hc,λs' hv=>hd env s' _ (λ_ _=>rfl) hv rfl⟩⟩⟩
theorem nq(hok:∀(j:Nat) (o:Oper),ops[j]?=some o->okOp o.op=true){K:Env->Prop}:∀(l:List Nat) (kn:Kn) (env:Env),Apart ops l->(∀i∈l,¬Ow ops i)->KnOk kn env->evS P nt ops.toList h (dM ops.toList l) kn env K->
  ∃(env1:Env) (vS:Nat->AV),K env1/\(∀x,(∀i∈l,∀o,ops[i]?=some o->o.dst≠some x)->env1 x=env x)/\∀i∈l,∀o,ops[i]?=some o->SF P ops nt h o env1 (vS i)/\∀d,o.dst=some d->env1 d=vS i
 |[],kn,env,_,_,_,hk=>⟨env,λ_=>.undef,hk,λ_ _=>rfl,λi hi=>by cases hi⟩
 | i::l,kn,env,ha,hO,hkn,hk=>by
   have hi:=ha.2.1 i sI;have ho:=Array.getElem?_eq_getElem hi;rw[tS hi]at hk;generalize ops[i]=o at hk ho;have ⟨hgv,kn',hkn',hcase⟩:=zG hkn hk;have next:∀(v:AV) (kn2:Kn),(∀env',(∀d,o.dst≠some d->env' d=env d)->(∀d,o.dst=some d->env' d=v)->KnOk kn2 env')->(setK nt o.dst env v λenv=>evS P nt ops.toList h (dM ops.toList l) kn2 env K)->((∀d,o.dst=some d->blt d nt=true)->SF P ops nt h o env v)->
     ∃(env1:Env) (vS:Nat->AV),K env1/\(∀x,(∀i_1∈i::l,∀o,ops[i_1]?=some o->o.dst≠some x)->env1 x=env x)/\∀i_1∈i::l,∀o,ops[i_1]?=some o->SF P ops nt h o env1 (vS i_1)/\∀d,o.dst=some d->env1 d=vS i_1:=by
    intro v kn2 hk2 hset hsf;have ⟨env2,e1,e2,e3⟩:=tT hset;have ⟨env1,vS,k1,k2,k3⟩:=nq hok l kn2 env2 ha.tail (λi hi=>hO i (by simp[hi])) (hk2 env2 e2 λd hd=>(e3 d hd).1) e1;have hnl:=(nodup_cons.1 ha.1).1;refine⟨env1,λj=>if j=i then v else vS j,k1,λx hx=>?_,λj hj p hp=>?_⟩
    ·grind
    ·rcases mCY hj with rfl|hj
     ·rw[ho]at hp;cases hp
      simp only[↓reduceIte];have hd1:∀d,o.dst=some d->env1 d=v:=λd hd=>by rw[k2 d λq hq y hy e=>ha.2.2.1 j sI q (by simp[hq]) (λe=>hnl (e ▸ hq)) o y d ho hy hd e];exact(e3 d hd).1
      refine⟨(hsf λd hd=>(e3 d hd).2).ag λx hx=>?_,hd1⟩;have no:=λq hq y hy e=>ha.2.2.2 [] j l rfl q hq (hO q hq) y o x hy ho e hx
      grind
     grind
   rcases hcase with⟨hw,h1⟩|⟨hw,h1⟩
   ·cases hc:ble (clsD P o.op) 1 with
    | true=>
      rw[hc,cond_true]at h1;have hc:=le_of_ble_eq_true hc;have ⟨v,q1,q2⟩:=zD hc h1;exact next v _ (λenv' e4 _=>hkn'.forget e4) q1 λhb=>nk (kn:=kn) (K:=λ_ _=>True) (s:=h) (hok i o ho) hb hgv hw hc q2
    | false=>
      rw[hc,cond_false]at h1;have ⟨v,q1,q2⟩:=h1;refine next v _ (λenv' e4 _=>hkn'.forget e4) q2 λhb=>⟨hgv,hb,hok i o ho,.inl ⟨hw,.inr ⟨λe=>?_,q1⟩⟩⟩
      rw[e]at hc;cases hc
   ·exact next .undef _ (λenv' e4 e5=>hkn'.mark e4 e5) h1 λhb=>⟨hgv,hb,hok i o ho,.inr ⟨hw,rfl⟩⟩
theorem absorb(hok:∀(j:Nat) (o:Oper),ops[j]?=some o->okOp o.op=true){K:Env->Hq->Prop}{s:Hq}:∀(k:List Nat) (kn:Kn) (env:Env),Apart ops k->KnOk kn env->opsE P nt ops.toList (dM ops.toList k) kn env K s->
  ∃(env1:Env) (vS:Nat->AV) (d k':List Nat) (kn':Kn),k=d++k'/\(k'=[]∨∃m l,k'=m::l/\Mv P ops m)/\KnOk kn' env1/\opsE P nt ops.toList (dM ops.toList k') kn' env1 K s/\(∀x,(∀i∈d,∀o,ops[i]?=some o->o.dst≠some x)->env1 x=env x)/\
   ∀i∈d,∀o,ops[i]?=some o->¬Mv P ops i/\SF P ops nt s o env1 (vS i)/\∀d,o.dst=some d->env1 d=vS i
 |[],kn,env,_,hkn,hk=>⟨env,λ_=>.undef,[],[],kn,rfl,.inl rfl,hkn,hk,λ_ _=>rfl,λi hi=>by cases hi⟩
 | i::l,kn,env,ha,hkn,hk=>by
   have hi:=ha.2.1 i sI;have ho:=Array.getElem?_eq_getElem hi
   by_cases hmv:Mv P ops i
   case neg=>
    have h0:=Nat.le_of_not_lt λq=>hmv ⟨_,ho,.inl q⟩;rw[tS hi]at hk;generalize ops[i]=o at hk ho h0;have ⟨hgv,kn',hkn',hcase⟩:=zG hkn hk;have next:∀(v:AV) (kn2:Kn),(∀env',(∀d,o.dst≠some d->env' d=env d)->(∀d,o.dst=some d->env' d=v)->KnOk kn2 env')->(setK nt o.dst env v λenv=>opsE P nt ops.toList (dM ops.toList l) kn2 env K s)->((∀d,o.dst=some d->blt d nt=true)->SF P ops nt s o env v)->
      ∃(env1:Env) (vS:Nat->AV) (d k':List Nat) (kn':Kn),i::l=d++k'/\(k'=[]∨∃m l,k'=m::l/\Mv P ops m)/\KnOk kn' env1/\opsE P nt ops.toList (dM ops.toList k') kn' env1 K s/\(∀x,(∀i∈d,∀o,ops[i]?=some o->o.dst≠some x)->env1 x=env x)/\
       ∀i∈d,∀o,ops[i]?=some o->¬Mv P ops i/\SF P ops nt s o env1 (vS i)/\∀d,o.dst=some d->env1 d=vS i:=by
     intro v kn2 hk2 hset hsf;have ⟨env2,e1,e2,e3⟩:=tT hset;obtain⟨env1,vS,d,k',kn3,rfl,k2,k3,k4,k5,k6⟩:=absorb hok l kn2 env2 ha.tail (hk2 env2 e2 λd hd=>(e3 d hd).1) e1;have hnl:i ∉ d:=λe=>(nodup_cons.1 ha.1).1 (by simp[e]);refine⟨env1,λj=>if j=i then v else vS j,i::d,k',kn3,rfl,k2,k3,k4,λx hx=>?_,λj hj p hp=>?_⟩
     ·grind
     ·rcases mCY hj with rfl|hj
      ·rw[ho]at hp;cases hp
       simp only[↓reduceIte];have hd1:∀dd,o.dst=some dd->env1 dd=v:=λdd hd=>by rw[k5 dd λq hq y hy e=>ha.2.2.1 j sI q (by simp[hq]) (λe=>hnl (e ▸ hq)) o y dd ho hy hd e];exact(e3 dd hd).1
       refine⟨hmv,(hsf λd hd=>(e3 d hd).2).ag λx hx=>?_,hd1⟩;have no:∀q∈j::d,∀y,ops[q]?=some y->y.dst≠some x:=λq hq y hy e=>ha.2.2.2 [] j (d++k') rfl q (by
        grind) (λhow=>by
        rcases mCY hq with rfl|hq
        ·exact hmv ⟨_,hy,.inr how⟩
        ·exact(k6 q hq y hy).1 ⟨_,hy,.inr how⟩) y o x hy ho e hx
       grind
      grind
    rcases hcase with⟨hw,h1⟩|⟨hw,h1⟩
    ·have ⟨v,q1,q2⟩:=zD h0 h1
     exact next v _ (λenv' e4 _=>hkn'.forget e4) q1 λhb=>nk (kn:=kn) (K:=λ_ _=>True) (s:=s) (hok i o ho) hb hgv hw h0 q2
    ·exact next .undef _ (λenv' e4 e5=>hkn'.mark e4 e5) h1 λhb=>⟨hgv,hb,hok i o ho,.inr ⟨hw,rfl⟩⟩
   case pos=>exact⟨env,λ_=>.undef,[],i::l,kn,rfl,.inr ⟨i,l,rfl,hmv⟩,hkn,hk,λ_ _=>rfl,λi hi=>by cases hi⟩
theorem zI{o:Op}{K:TypeId->List AV->(Nat->AV)->Prop}(h:i5 P env o K):∃el cs f,K el cs f/\∀(env':Env) (s':Hq) (K':AV->Hq->Prop),(∀x∈o.operands.toList,evD env' x=evD env x)->(∀b,s' b=none->K' (f b) (hset s' b (false,.cells el cs)))->wpOp P env' K' s' o:=by
 unfold i5 at h;split at h
 ·split at h
  ·rename_i t z hz
   exact⟨_,_,_,h,λenv' s' K' _ hk=>by simp only[wpOp,hz];exact hk⟩
  ·exact h.elim
 ·rename_i t x
  refine⟨_,_,_,h.2,λenv' s' K' hx hk=>?_⟩;simp only[wpOp];rw[hx x (by simp[Op.operands])];exact⟨h.1,hk⟩
 ·rename_i t n ps
  split at h
  ·rename_i elem hu
   split at h
   ·rename_i z es hz
    cases e:ble (n*es) 16777216 with
    |false=>rw[e]at h;exact h.elim
    | true=>
      rw[e,cond_true]at h;split at h
      ·rename_i l hl
       have ⟨cs,h1,h2,h3⟩:=aX h;refine⟨_,_,_,h3,λenv' s' K' hx hk=>?_⟩;simp only[wpOp,hu,hz,e,cond_true,hl];rw[ng (λ_ _=>trivial) λp hp=>hx _ (by simpa [Op.operands]using nh hl p hp),h1];exact⟨h2,hk⟩
      ·exact h.elim
   ·exact h.elim
  ·exact h.elim
 ·exact h.elim
theorem ny{K:List NewD->Prop}:∀(l:List Nat),l.Nodup->(∀i∈l,i<ops.size)->evC P env (dM ops.toList l) K->∃D:Nat->NewD,K (l.map D)/\∀n∈l,∀o,ops[n]?=some o->(D n).1=o.dst/\
  ∀(env':Env) (s':Hq) (K':AV->Hq->Prop),(∀x∈o.op.operands.toList,evD env' x=evD env x)->(∀b,s' b=none->K' ((D n).2.2.2 b) (hset s' b (false,.cells (D n).2.1 (D n).2.2.1)))->wpOp P env' K' s' o.op
 |[],_,_,h=>⟨λ_=>(none,0,[],λ_=>.undef),h,λn hn=>by cases hn⟩
 | i::l,hnd,hlt,h=>by
   have hi:=hlt i sI;rw[tS hi]at h;have ⟨el,cs,f,h1,h2⟩:=zI h;have ⟨D,h3,h4⟩:=ny l (nodup_cons.1 hnd).2 (λj hj=>hlt j (by simp[hj])) h1;obtain⟨D',d1,d2⟩:∃D':Nat->NewD,D' i=(ops[i].dst,el,cs,f)/\∀j,j≠i->D' j=D j:=⟨λj=>if j=i then(ops[i].dst,el,cs,f)else D j,if_pos rfl,λj hj=>if_neg hj⟩
   refine⟨D',?_,λn hn o hno=>?_⟩
   ·have:l.map D'=l.map D:=map_congr_left gR
    grind
   ·rcases mCY hn with rfl|hn
    ·simp_all
    grind
end
structure DCx where
 P:Program
 ops:Array Oper
 nt:Nat
 p:Plan
 lk:Bool
 late:Bool
 h:Hq
 s:Hq
 sM:Hq
 t:Hq
 t0:Hq
 un:Hq->Hq
 env0:Env
 env1:Env
 Kf:Env->Hq->Prop
 D:Nat->NewD
 vS:Nat->AV
 base:Nat
 ρ0:Ren
 w0:World
 ds0:List Deferred
abbrev DCx.B(c:DCx)(n:Nat):Bool×Blk:=(false,.cells (c.D n).2.1 (c.D n).2.2.1)
abbrev DCx.KA(c:DCx):Env->Hq->Prop:=λenv2 s2=>evN c.nt (c.p.N.map c.D) env2 (λenv3 s3=>opsE c.P c.nt c.ops.toList (dM c.ops.toList c.p.T) [] env3 c.Kf s3) (c.un s2)
structure DCxOK(c:DCx):Prop where
 g:Grd c.P
 dk:DrOK c.P c.ops c.p c.lk c.late
 vlk:c.lk=true->Vis c.h c.t0
 vla:c.late=true->c.lk=true/\Vis c.h c.t
 un:∀s',Pers c.sM s'->(∀i,c.t0 i≠none->c.sM i=none->s' i=none)->(∀i x,c.t0 i=some x->s' i=none∨s' i=some (true,x.2))->
  add c.t (c.un s')=add c.t0 s'/\(∀i x,c.t i=some x->c.un s' i=none∨c.un s' i=some (true,x.2))/\Pers c.s (c.un s')/\∀i,c.t i≠none->c.s i=none->c.un s' i=none
 nD:∀n∈c.p.N,∀o,c.ops[n]?=some o->(c.D n).1=o.dst/\∀(env':Env) (s':Hq) (K':AV->Hq->Prop),(∀x∈o.op.operands.toList,evD env' x=evD c.env1 x)->(∀b,s' b=none->K' ((c.D n).2.2.2 b) (hset s' b (c.B n)))->wpOp c.P env' K' s' o.op
 nB:∀n∈c.p.N,∀o,c.ops[n]?=some o->∀d,o.dst=some d->blt d c.nt=true
 eS:∀i∈c.p.S,∀o d,c.ops[i]?=some o->o.dst=some d->c.env1 d=c.vS i
 e1:∀x,(∀i∈c.p.S,∀o,c.ops[i]?=some o->o.dst≠some x)->c.env1 x=c.env0 x
structure St(c:DCx)(L:Bool)(X:Nat->Prop)(a:Act)(w:World)(val:Nat->AV)(e env:Env)(ρ:Ren)(sc tF:Hq)(pd k:List Nat)(KK:Env->Hq->Prop):Prop where
 er:ER ρ c.nt e a.tmps
 df:a.defers=c.ds0
 le:Le c.ρ0 ρ
 be:Below c.base c.w0 w
 fit:Fit ρ c.base sc tF w
 ev1:∀i x d,X i->c.ops[i]?=some x->x.dst=some d->e d=val i
 ev2:∀x,(∀i o,X i->c.ops[i]?=some o->o.dst≠some x)->e x=c.env0 x
 cv1:∀i∈pd,∀o d,c.ops[i]?=some o->o.dst=some d->env d=val i
 cv2:∀x,(∀i∈pd,∀o,c.ops[i]?=some o->o.dst≠some x)->env x=c.env0 x
 fa:∀i∈pd,X i∨∃hh,(Nz c.P c.ops i->((L=true/\i∈c.p.S)/\hh=c.h)∨(¬(L=true/\i∈c.p.S)/\Vis hh (add tF sc)/\∀m∈k,Mv c.P c.ops m->bf c.ops i m))/\∀o,c.ops[i]?=some o->SF c.P c.ops c.nt hh o env (val i)
 no:∀i∈k,¬X i
 co:∃kn,KnOk kn env/\opsE c.P c.nt c.ops.toList (dM c.ops.toList k) kn env KK sc
 cp:∀i∈pd,∀m,m<c.ops.size->bf c.ops m i->m∈pd
 pk:∀i∈pd,i ∉ k
 lp:∀i∈pd,i<c.ops.size
 ap:Apart c.ops k
 kS:∀i∈k,i ∉ c.p.S
 xc:∀i,i<c.ops.size->X i->∀m,m<c.ops.size->bf c.ops m i->X m
 ow:∀i∈pd,Ow c.ops i->X i
 kb:∀l1 j l2,k=l1++j::l2->∀i∈l1,Nz c.P c.ops i->(Mv c.P c.ops i∨Mv c.P c.ops j)->bf c.ops i j
 lb:∀l1 j l2,k=l1++j::l2->∀m,m<c.ops.size->bf c.ops m j->m∈pd∨m∈l1
section
variable {c:DCx} {L:Bool} {X:Nat→Prop} {a:Act} {w:World} {val:Nat→AV} {e env:Env} {ρ:Ren} {sc tF:Hq} {pd k:List Nat} {KK:Env→Hq→Prop}
theorem iA{ops:Array Oper}{i:Nat}{o:Oper}(h:ops[i]?=some o):i<ops.size:=(Array.getElem?_eq_some_iff.1 h).1
theorem nA{h t s:Hq}(hv:Vis h t):Vis h (add t s):=λi e b hi=>by
 have ⟨e',q⟩:=hv i e b hi
 grind [bJ]
theorem zJ{ρ:Ren}{base:Nat}{s t:Hq}{w:World}(hf:Fit ρ base s t w):Vis s (add t s):=λi e b hi=>by
 cases q:t i with
 |none=>grind [aV]
 | some x=>
   rcases hf.fr i x q with k|k
   ·rw[hi]at k;cases k
   grind [bJ]
theorem St.absorb(ok:DCxOK c)(z:St c L X a w val e env ρ sc tF pd k KK):∃(val':Nat->AV) (env':Env) (d k':List Nat),k=d++k'/\(k'=[]∨∃m l,k'=m::l/\Mv c.P c.ops m)/\(∀i,i ∉ d->val' i=val i)/\St c L X a w val' e env' ρ sc tF (pd++d) k' KK:=by
 have ⟨kn,q1,q2⟩:=z.co;obtain⟨env',vS,d,k',kn',rfl,k2,k3,k4,k5,k6⟩:=AM.absorb ok.dk.ok k kn env z.ap q1 q2;obtain⟨val',v1,v2⟩:∃val':Nat->AV,(∀i∈d,val' i=vS i)/\∀i,i ∉ d->val' i=val i:=by
  classical
  exact⟨λi=>if i∈d then vS i else val i,λi hi=>if_pos hi,λi hi=>if_neg hi⟩
 have hap:=z.ap;have nd:=hap.1;have off:=λi hi hd=>z.pk i hi (mem_append_left _ hd);have stay:∀i∈pd,∀o,c.ops[i]?=some o->(∀x∈o.looksAt c.ops,env' x=env x)/\∀dd,o.dst=some dd->env' dd=env dd:=λi hi o ho=>by
  refine⟨λx hx=>k5 x λm hm y hy q=>?_,λdd hdd=>k5 dd λm hm y hy q=>?_⟩
  ·have hb:=Classical.byContradiction λhn=>(k6 m hm y hy).1 ⟨y,hy,.inr ⟨i,y,o,x,hy,ho,q,hx,hn⟩⟩
   exact off m (z.cp i hi m (iA hy) hb) hm
  ·exact(ok.dk.dst i m o y dd ho hy hdd).1 (λq=>off i hi (q ▸ hm)) q
 refine⟨val',env',d,k',rfl,k2,v2,⟨z.er,z.df,z.le,z.be,z.fit,λi x dd hx ho hd=>?_,z.ev2,λi hi o dd ho hd=>?_,λx hx=>?_,λi hi=>?_,λi hi=>z.no i (mem_append_right _ hi),⟨kn',k3,k4⟩,λi hi m hm hb=>?_,λi hi hk=>?_,λi hi=>?_,?_,λi hi=>z.kS i (mem_append_right _ hi),z.xc,λi hi ho=>?_,λl1 j l2 hj i hi=>z.kb (d++l1) j l2 gR i (mem_append_right _ hi),λl1 j l2 hj m hm hb=>?_⟩⟩
 ·rw[v2 i λq=>z.no i (mem_append_left _ q) hx];grind [ev1]
 ·rcases mP hi with hi|hi
  ·rw[(stay i hi o ho).2 dd hd,v2 i (off i hi)];grind [cv1]
  grind
 ·rw[k5 x gR]
  exact z.cv2 x gR
 ·rcases mP hi with hi|hi
  ·rcases z.fa i hi with q|q
   ·exact .inl q
   ·have ⟨hh,q1,q2⟩:=q
    exact .inr ⟨hh,λhz=>gR,λo ho=>by rw[v2 i (off i hi)];exact(q2 o ho).ag (stay i hi o ho).1⟩
  ·refine .inr ⟨sc,λhz=>.inr ⟨λq=>z.kS i (mem_append_left _ hi) q.2,zJ z.fit,λm hm hmv=>?_⟩,λo ho=>gR⟩
   have ⟨l1,l2,e⟩:=append_of_mem hm;exact z.kb (d++l1) m l2 (by rw[e,append_assoc]) i (mem_append_left _ hi) hz (.inr hmv)
 ·rcases mP hi with hi|hi
  ·exact mem_append_left _ (z.cp i hi m hm hb)
  ·obtain⟨l1,l2,rfl⟩:=append_of_mem hi
   rcases z.lb l1 i (l2++k') sI m hm hb with q|q
   ·grind
   grind
 ·rcases mP hi with hi|hi
  ·exact z.pk i hi (mem_append_right _ hk)
  grind
 ·rcases mP hi with hi|hi
  ·exact z.lp i hi
  ·exact hap.2.1 i (mem_append_left _ hi)
 rotate_left
 ·rcases mP hi with hi|hi
  ·exact z.ow i hi ho
  ·have ⟨_,o,_,_,q,_⟩:=id ho
   exact absurd ⟨o,q,.inr ho⟩ (k6 i hi o q).1
 rotate_right
 ·refine⟨(nodup_append.1 nd).2.1,λi hi=>hap.2.1 i (mem_append_right _ hi),λi hi j hj=>hap.2.2.1 i (mem_append_right _ hi) j (mem_append_right _ hj),λl1 j l2 q=>hap.2.2.2 (d++l1) j l2 (by rw[q,append_assoc])⟩
 ·rcases z.lb (d++l1) j l2 gR m hm hb with q|q
  ·grind
  grind
theorem St.look(ok:DCxOK c)(z:St c L X a w val e env ρ sc tF pd k KK){j:Nat}{o:Oper}(ho:c.ops[j]?=some o)(hj:¬X j)(hr:∀i,bf c.ops i j->X i)(hp:∀m,m<c.ops.size->bf c.ops m j->m∈pd):Ag c.ops o env e:=λx hx=>by
 by_cases hq:∃(i:Nat) (y:Oper),c.ops[i]?=some y/\y.dst=some x
 ·have ⟨i,y,hy,hd⟩:=hq
  by_cases hb:bf c.ops i j
  ·rw[z.ev1 i y x (hr i hb) hy hd,z.cv1 i (hp i (iA hy) hb) y x hy hd]
  ·have hXi:=λq=>hj (z.xc i (iA hy) q j (iA ho) (((ok.dk.dst i j y o x hy ho hd).2 hx).2.resolve_left hb))
   have hpi:=λq=>hXi (z.ow i q ⟨j,y,o,x,hy,ho,hd,hx,hb⟩);rw[z.ev2 x λm q hm hq hd2=>(ok.dk.dst m i q y x hq hy hd2).1 (λe=>hXi (e ▸ hm)) hd,z.cv2 x λm hm q hq hd2=>(ok.dk.dst m i q y x hq hy hd2).1 (λe=>hpi (e ▸ hm)) hd]
 ·rw[z.ev2 x gR,z.cv2 x gR]
theorem ER.put2{ρ:Ren}{nt:Nat}{v:AV}{v':Value}(h:ER ρ nt e a.tmps){dst:Option Tmp}(hb:∀d,dst=some d->blt d nt=true)(hv:Rel ρ v v'):∃e',ER ρ nt e' (a.put dst v').tmps/\(∀d,dst=some d->e' d=v)/\∀d,dst≠some d->e' d=e d:=by
 cases dst with
 |none=>exact⟨e,h,(λd q=>nomatch q),λ_ _=>rfl⟩
 | some d=>
   refine⟨upd e d v,h.put (hb d rfl) hv,λi hi=>?_,λi hi=>?_⟩
   ·simp_all [upd]
   ·unfold upd
    cases q:beq i d with
    |true=>simp_all
    |false=>rfl
theorem St.done(ok:DCxOK c)(z:St c L X a w val e env ρ sc tF pd k KK){j:Nat}{o:Oper}(ho:c.ops[j]?=some o)(hj:¬X j){v':Value}{ρ':Ren}{val':Nat->AV}(hval:∀i,i≠j->val' i=val i)(hle:Le ρ ρ')(hv:Rel ρ' (val' j) v')(hb:∀d,o.dst=some d->blt d c.nt=true):
  ∃e',ER ρ' c.nt e' (a.put o.dst v').tmps/\(∀i x d,(i=j∨X i)->c.ops[i]?=some x->x.dst=some d->e' d=val' i)/\∀x,(∀i o,(i=j∨X i)->c.ops[i]?=some o->o.dst≠some x)->e' x=c.env0 x:=by
 have ⟨e',e1,e2,e3⟩:=(z.er.mono hle).put2 hb hv;refine⟨e',e1,λi x d hi hx hd=>?_,λx hx=>?_⟩
 ·by_cases q:i=j
  ·grind
  ·have hXi:=hi.resolve_left q
   rw[e3 d ((ok.dk.dst i j x o d hx ho hd).1 q),hval i q]
   grind [ev1]
 ·rw[e3 x (hx j o (.inl rfl) ho)]
  exact z.ev2 x λi o hi=>hx i o (.inr hi)
theorem St.runPd(ok:DCxOK c)(z:St c L X a w val e env ρ sc tF pd k KK){j:Nat}{o:Oper}{r:Option Nat}{Q:Exit->Act->World->Prop}{K:Act->World->Prop}(ho:c.ops[j]?=some o)(hj:¬X j)(hp:j∈pd)(hr:∀i,bf c.ops i j->X i)(hlv:L=true->Vis c.h tF)
  (next:∀a' w' e' ρ',St c L (λi=>i=j∨X i) a' w' val e' env ρ' sc tF pd k KK->K a' w'):wpOpIn (FR r) 0 c.P c.ops Q j K a w:=by
 unfold wpOpIn;simp only[ho];have ⟨hh,hvis,hsf⟩:=(z.fa j hp).resolve_left hj;have hsf:=hsf o ho;have ag:=z.look ok ho hj hr λm hm hb=>z.cp j hp m hm hb;refine(hsf.ag ag).run ok.g z.fit (λh0=>(hvis ⟨o,ho,.inl h0⟩).elim (λq=>by rw[q.2];exact nA (hlv q.1.1)) (·.2.1)) z.er λv' ρ' w' l1 l2 l3 l4=>?_;have ⟨e',e1,e2,e3⟩:=z.done ok ho hj (val':=val) (λ_ _=>rfl) l1 l4 hsf.2.1;exact next _ w' e' ρ' ⟨e1,by grind [dy,df],z.le.trans l1,z.be.trans l2,l3,e2,e3,z.cv1,z.cv2,λi hi=>(z.fa i hi).imp_left .inr,λi hi q=>q.elim (λq=>z.pk j hp (q ▸ hi)) (z.no i hi),z.co,z.cp,z.pk,z.lp,z.ap,z.kS,λi hl hi m hm hb=>hi.elim (λq=>.inr (hr m (q ▸ hb))) λq=>.inr (z.xc i hl q m hm hb),λi hi h=>.inr (z.ow i hi h),z.kb,z.lb⟩
theorem St.runHd(ok:DCxOK c){m:Nat}{l:List Nat}(z:St c L X a w val e env ρ sc tF pd (m::l) KK){o:Oper}{r:Option Nat}{Q:Exit->Act->World->Prop}{K:Act->World->Prop}(ho:c.ops[m]?=some o)(hr:∀i,bf c.ops i m->X i)(hmv:Mv c.P c.ops m)
  (next:∀a' w' val' e' env' ρ' sc',(∀i,i≠m->val' i=val i)->Pers sc sc'->(∀i,tF i≠none->sc i=none->sc' i=none)->St c L (λi=>i=m∨X i) a' w' val' e' env' ρ' sc' tF (pd ++ [m]) l KK->K a' w'):wpOpIn (FR r) 0 c.P c.ops Q m K a w:=by
 unfold wpOpIn;simp only[ho];have hm:=z.no m sI;have hlt:=iA ho;have hpm:=λq=>z.pk m q sI;have lbm:=λq hq hb=>(z.lb [] m l rfl q hq hb).resolve_right sI;have ag:=z.look ok ho hm hr lbm;have ⟨kn,q1,q2⟩:=z.co;rw[tS hlt,show c.ops[m]=o by grind]at q2;have ⟨hgv,kn',hkn',hcase⟩:=zG q1 q2;have hml:=(nodup_cons.1 z.ap.1).1;have fin:∀(v:AV) (v':Value) (kn2:Kn) (sc':Hq) (ρ':Ren) (w':World),(∀env',(∀d,o.dst≠some d->env' d=env d)->(∀d,o.dst=some d->env' d=v)->KnOk kn2 env')->(setK c.nt o.dst env v λenv=>opsE c.P c.nt c.ops.toList (dM c.ops.toList l) kn2 env KK sc')->
   Stp ρ ρ' c.base sc sc' tF w w'->Rel ρ' v v'->K (a.put o.dst v') w':=by
  intro v v' kn2 sc' ρ' w' hk2 hset st hrel;have ⟨env2,c1,c2,c3⟩:=tT hset;have ⟨val',v1,v2⟩:∃val':Nat->AV,val' m=v/\∀i,i≠m->val' i=val i:=⟨λi=>if i=m then v else val i,if_pos rfl,λi hi=>if_neg hi⟩
  obtain⟨e',e1,e2,e3⟩:=z.done ok ho hm (val':=val') v2 st.le (by rw[v1];exact hrel) λd hd=>(c3 d hd).2;have stay:∀i∈pd,∀y,c.ops[i]?=some y->(¬X i->∀x∈y.looksAt c.ops,env2 x=env x)/\∀dd,y.dst=some dd->env2 dd=env dd:=λi hi y hy=>by
   refine⟨λhXi x hx=>c2 x λq=>?_,λdd hdd=>c2 dd λq=>?_⟩
   ·rcases((ok.dk.dst m i o y x ho hy q).2 hx).2 with hb|hb
    ·exact hpm (z.cp i hi m hlt hb)
    ·exact hXi (hr i hb)
   ·exact(ok.dk.dst i m y o dd hy ho hdd).1 (λq=>hpm (q ▸ hi)) q
  refine next _ w' val' e' env2 ρ' sc' v2 st.pers st.nw ⟨e1,by grind [dy,df],z.le.trans st.le,z.be.trans st.below,st.fit,e2,e3,λi hi y dd hy hd=>?_,λx hx=>?_,λi hi=>?_,λi hi q=>?_,gR,
   λi hi q hq hb=>?_,λi hi hk=>?_,λi hi=>?_,z.ap.tail,λi hi=>z.kS i (by simp[hi]),λi hl hi q hq hb=>hi.elim (λe=>.inr (hr q (e ▸ hb))) λe=>.inr (z.xc i hl e q hq hb),λi hi h=>?_,λl1 j l2 hj i hi=>z.kb (m::l1) j l2 (by rw[hj];rfl) i (by simp[hi]),λl1 j l2 hj q hq hb=>?_⟩
  ·rcases mP hi with hi|hi
   ·rw[(stay i hi y hy).2 dd hd,v2 i λq=>hpm (q ▸ hi)];grind [cv1]
   grind
  ·rw[c2 x (hx m sI o ho)]
   exact z.cv2 x gR
  ·rcases mP hi with hi|hi
   ·rcases z.fa i hi with q|q
    ·exact .inl (.inr q)
    ·have ⟨hh,q1,q2⟩:=q
     by_cases hXi:X i
     ·exact .inl (.inr hXi)
     ·refine .inr ⟨hh,λhz=>gR,λy hy=>by rw[v2 i λq=>hpm (q ▸ hi)];exact(q2 y hy).ag ((stay i hi y hy).1 hXi)⟩
   grind
  ·rcases q with rfl|q
   ·exact hml hi
   ·exact z.no i (by simp[hi]) q
  ·rcases mP hi with hi|hi
   ·exact mem_append_left _ (z.cp i hi q hq hb)
   grind
  ·rcases mP hi with hi|hi
   ·exact z.pk i hi (by simp[hk])
   grind
  ·grind [lp]
  ·rcases mP hi with hi|hi
   ·exact .inr (z.ow i hi h)
   grind
  ·rcases z.lb (m::l1) j l2 (by rw[hj];rfl) q hq hb with k|k
   ·grind
   grind
 rw[KL z.er (ag.gv hgv),ag.want];rcases hcase with⟨hw,h1⟩|⟨hw,h1⟩
 ·rw[hw,if_pos rfl]
  exact gN ok.g z.fit z.er (ok.dk.ok m o ho) (zF ag.opd h1) λv v' ρ' s' w' hk st hrel=>fin v v' _ s' ρ' w' (λenv' e4 _=>hkn'.forget e4) hk st hrel
 ·rw[hw,if_neg sI]
  exact⟨fT,fin .undef undef _ sc ρ w (λenv' e4 e5=>hkn'.mark e4 e5) h1 (.refl z.fit) kj⟩
end
structure PhA(c:DCx)(X:Nat->Prop)(val:Nat->AV)(sc tF:Hq)(pd k:List Nat)(nb:Nat->Nat):Prop where
 ls:∃dn,c.p.M=dn++k/\∀i,i∈pd↔i∈c.p.S∨i∈dn
 pers:Pers c.sM sc
 nw:∀i,c.t0 i≠none->c.sM i=none->sc i=none
 n1:∀n∈c.p.N,X n->tF (nb n)=some (c.B n)/\c.t0 (nb n)=none/\val n=(c.D n).2.2.2 (nb n)/\sc (nb n)=none
 n2:∀i,(∀n∈c.p.N,X n->nb n≠i)->tF i=c.t0 i
 n3:∀n∈c.p.N,∀n'∈c.p.N,X n->X n'->nb n=nb n'->n=n'
 nT:∀i∈c.p.T,¬X i
 vs:∀i∈c.p.S,val i=c.vS i
structure PhB(c:DCx)(sc tF:Hq)(pd k:List Nat):Prop where
 ls:∃dn,c.p.T=dn++k/\∀i,i∈pd↔i∈c.p.S∨i∈c.p.M∨i∈c.p.N∨i∈dn
 tf:tF=c.t
 pers:Pers c.s sc
 nw:∀i,c.t i≠none->c.s i=none->sc i=none
def HdO(c:DCx)(k:List Nat):Prop:=k=[]∨∃m l,k=m::l/\Mv c.P c.ops m
def DI(c:DCx)(X:Nat->Prop)(a:Act)(w:World):Prop:=∃val e env ρ sc tF pd k,HdO c k/\
 ((∃nb,PhA c X val sc tF pd k nb/\St c c.lk X a w val e env ρ sc tF pd k c.KA/\¬(k=[]/\∀n∈c.p.N,X n))∨(PhB c sc tF pd k/\St c c.late X a w val e env ρ sc tF pd k c.Kf))
section
variable {c:DCx} {X:Nat→Prop} {a:Act} {w:World} {val:Nat→AV} {e env:Env} {ρ:Ren} {sc tF:Hq} {pd k:List Nat} {nb:Nat→Nat}
theorem PhA.lv(ok:DCxOK c)(h:PhA c X val sc tF pd k nb)(hl:c.lk=true):Vis c.h tF:=λi e0 b hi=>by
 have ⟨e',q'⟩:=ok.vlk hl i e0 b hi;refine⟨e',?_⟩;rw[h.n2 i λn hn hX q2=>?_]
 ·exact q'
 ·rw[<- q2,(h.n1 n hn hX).2.1]at q';cases q'
theorem nC(ok:DCxOK c)(h:PhB c sc tF pd k)(z:St c c.late X a w val e env ρ sc tF pd k c.Kf):DI c X a w:=by
 obtain⟨val',env',d,k',rfl,hd,_,z'⟩:=z.absorb ok;have ⟨dn,e1,e2⟩:=h.ls;refine⟨val',e,env',ρ,sc,tF,pd++d,k',hd,.inr ⟨⟨⟨dn++d,by rw[e1,append_assoc],λi=>?_⟩,h.tf,h.pers,h.nw⟩,z'⟩⟩;rw[mem_append,e2 i,mem_append];constructor
 ·rintro ((q|q|q|q)|q)
  ·exact .inl q
  ·exact .inr (.inl q)
  ·exact .inr (.inr (.inl q))
  ·exact .inr (.inr (.inr (.inl q)))
  ·exact .inr (.inr (.inr (.inr q)))
 ·rintro (q|q|q|q|q)
  ·exact .inl (.inl q)
  ·exact .inl (.inr (.inl q))
  ·exact .inl (.inr (.inr (.inl q)))
  ·exact .inl (.inr (.inr (.inr q)))
  ·exact .inr q
theorem nE{D:Nat->NewD}{nt:Nat}{ρ:Ren}{base:Nat}{w:World}{K:Env->Hq->Prop}:∀(l:List Nat) (env:Env) (s tF:Hq),evN nt (l.map D) env K s->Fit ρ base s tF w->(∀n∈l,Hc tF (nb n) (D n).2.1 (D n).2.2.1/\s (nb n)=none)->(l.Pairwise λm n=>nb m≠nb n)->(l.Pairwise λm n=>∀d,(D m).1=some d->(D n).1≠some d)->
  ∃env' s' tF',K env' s'/\Fit ρ base s' tF' w/\add tF' s'=add tF s/\(∀i,(∀n∈l,nb n≠i)->tF' i=tF i/\s' i=s i)/\(∀n∈l,tF' (nb n)=none)/\(∀n∈l,∀d,(D n).1=some d->env' d=(D n).2.2.2 (nb n)/\blt d nt=true)/\∀x,(∀n∈l,(D n).1≠some x)->env' x=env x
 |[],env,s,tF,h,hf,_,_,_=>⟨env,s,tF,h,hf,rfl,λ_ _=>⟨rfl,rfl⟩,λn hn=>by simp at hn,λn hn=>by simp at hn,λ_ _=>rfl⟩
 | n::l,env,s,tF,h,hf,ha,hp,hq=>by
   have ⟨p1,p2⟩:=pairwise_cons.1 hp;have ⟨r1,r2⟩:=pairwise_cons.1 hq;have ⟨a1,a2⟩:=ha n sI;have ⟨env2,c1,c2,c3⟩:=tT (h (nb n) a2);have e0:add (hdel tF (nb n)) (hset s (nb n) (false,.cells (D n).2.1 (D n).2.2.1))=add tF s:=by
    grind [eo,cr,add,bZ,bg]
   have hf2:Fit ρ base (hset s (nb n) (false,.cells (D n).2.1 (D n).2.2.1)) (hdel tF (nb n)) w:=⟨by rw[e0];exact hf.wr,λi x hx=>by
    have q:i≠nb n:=(by grind [eo])
    rw[bg q];rw[bZ q]at hx;exact hf.fr i x hx⟩
   have ⟨env',s',tF',k1,k2,k3,k4,k5,k6,k7⟩:=nE l env2 _ _ c1 hf2 ((by grind [bZ,bg])) p2 r2;refine⟨env',s',tF',k1,k2,k3.trans e0,λi hi=>?_,λm hm=>?_,λm hm d hd=>?_,λx hx=>?_⟩
   ·grind [bZ,bg]
   ·grind [eo]
   ·grind
   grind
theorem mem4{p:Plan}{i:Nat}:i∈p.S++(p.M++(p.N++p.T))↔i∈p.S∨i∈p.M∨i∈p.N∨i∈p.T:=gR
structure Dj(p:Plan):Prop where
 sm:∀i∈p.S,i ∉ p.M
 sn:∀i∈p.S,i ∉ p.N
 st:∀i∈p.S,i ∉ p.T
 mn:∀i∈p.M,i ∉ p.N
 mt:∀i∈p.M,i ∉ p.T
 nt:∀i∈p.N,i ∉ p.T
 S:p.S.Nodup
 M:p.M.Nodup
 N:p.N.Nodup
 T:p.T.Nodup
theorem DrOK.dj{P:Program}{ops:Array Oper}{p:Plan}{lk late:Bool}(dk:DrOK P ops p lk late):Dj p:=by have ⟨a1,a2,a3⟩:=nodup_append.1 dk.nd;have ⟨b1,b2,b3⟩:=nodup_append.1 a2;have ⟨c1,c2,c3⟩:=nodup_append.1 b2;exact⟨λi h k=>a3 i h i (by simp[k]) rfl,λi h k=>a3 i h i (by simp[k]) rfl,λi h k=>a3 i h i (by simp[k]) rfl,λi h k=>b3 i h i (by simp[k]) rfl,λi h k=>b3 i h i (by simp[k]) rfl,λi h k=>c3 i h i k rfl,a1,b1,c1,c2⟩
theorem Q5{l1 l2:List Nat}{i j:Nat}(h:(l1++j::l2).Nodup)(h1:i∈l1)(h2:i∈j::l2):False:=gR
theorem DrOK.ap{P:Program}{ops:Array Oper}{p:Plan}{lk late:Bool}(dk:DrOK P ops p lk late){l:List Nat}(hn:l.Nodup)(hl:∀i∈l,i∈p.S++(p.M++(p.N++p.T)))(hb:∀l1 j l2,l=l1++j::l2->∀i∈j::l2,i<ops.size->bf ops i j->i ∉ l1->False):Apart ops l:=by
 refine⟨hn,λi hi=>dk.lt i (hl i hi),λi hi j hj hne x y d hx hy hd=>(dk.dst i j x y d hx hy hd).1 hne,λl1 j l2 e i hi hno x y d hx hy hd hlook=>?_⟩;have q2:=Classical.byContradiction λhn=>hno ⟨j,x,y,d,hx,hy,hd,hlook,hn⟩
 grind
theorem DrOK.apS{P:Program}{ops:Array Oper}{p:Plan}{lk late:Bool}(dk:DrOK P ops p lk late):Apart ops p.S:=
 dk.ap dk.dj.S (λi hi=>mem4.2 (.inl hi)) λl1 j l2 e i hi hlt hb hn=>hn (dk.lS l1 j l2 e i hlt hb)
theorem DrOK.apM{P:Program}{ops:Array Oper}{p:Plan}{lk late:Bool}(dk:DrOK P ops p lk late):Apart ops p.M:=
 dk.ap dk.dj.M (λi hi=>mem4.2 (.inr (.inl hi))) λl1 j l2 e i hi hlt hb hn=>by
  have him:i∈p.M:=gR;rcases(dk.lM l1 j l2 e).1 i hlt hb with q|q
  ·exact dk.dj.sm i q him
  ·exact hn q
theorem DrOK.apT{P:Program}{ops:Array Oper}{p:Plan}{lk late:Bool}(dk:DrOK P ops p lk late):Apart ops p.T:=
 dk.ap dk.dj.T ((by simp_all)) λl1 j l2 e i hi hlt hb hn=>by
  have hit:i∈p.T:=gR;rcases(dk.lT l1 j l2 e).1 i hlt hb with q|q|q|q
  ·exact dk.dj.st i q hit
  ·exact dk.dj.mt i q hit
  ·exact dk.dj.nt i q hit
  ·exact hn q
theorem i6(ok:DCxOK c)(h:PhA c X val sc tF pd k nb)(z:St c c.lk X a w val e env ρ sc tF pd k c.KA):DI c X a w:=by
 obtain⟨val',env',d,k',rfl,hd,hv,z'⟩:=z.absorb ok;have ⟨dn,e1,e2⟩:=h.ls;have dk:=ok.dk;have dj:=dk.dj;have hA:PhA c X val' sc tF (pd++d) k' nb:=by
  refine⟨⟨dn++d,by rw[e1,append_assoc],λi=>?_⟩,h.pers,h.nw,λn hn hX=>?_,h.n2,h.n3,h.nT,λi hi=>(hv i λq=>dj.sm i hi (by rw[e1];simp[q])).trans (h.vs i hi)⟩
  ·rw[mem_append,e2 i,mem_append,or_assoc]
  ·rw[hv n λq=>dj.mn n (by rw[e1];simp[q]) hn]
   exact h.n1 n hn hX
 by_cases hsw:k'=[]/\∀n∈c.p.N,X n
 ·obtain⟨rfl,hN⟩:=hsw
  have ⟨kn,_,hK⟩:=z'.co;have ⟨dn2,f1,f2⟩:=hA.ls;rw[append_nil]at f1
  classical
  have hfr:∀i x,c.t0 i=some x->sc i=none∨sc i=some (true,x.2):=λi x hx=>by refine z'.fit.fr i x ?_;rw[hA.n2 i λn hn hX q=>?_,hx];rw[<- q,(hA.n1 n hn hX).2.1]at hx;cases hx
  have ⟨u1,u2,u3,u4⟩:=ok.un sc hA.pers hA.nw hfr;have u1i:∀i,add c.t (c.un sc) i=add c.t0 sc i:=λi=>by rw[u1]
  have low:∀n∈c.p.N,c.un sc (nb n)=none/\c.t (nb n)=none:=λn hn=>by
   have ⟨_,b2,_,b4⟩:=hA.n1 n hn (hN n hn);have:=u1i (nb n);rw[aV b2,b4]at this;cases q:c.t (nb n)with
   |some x=>rw[bJ q]at this;cases this
   |none=>grind [aV]
  obtain⟨tU,t1,t2⟩:∃tU:Hq,(∀n∈c.p.N,tU (nb n)=some (c.B n))/\∀i,(∀n∈c.p.N,nb n≠i)->tU i=c.t i:=by refine⟨λi=>if ∃n∈c.p.N,nb n=i then tF i else c.t i,λn hn=>?_,gR⟩;show(if _ then _ else _)=_;rw[if_pos ⟨n,hn,rfl⟩];grind [PhA.n1]
  have eU:add tU (c.un sc)=add tF sc:=by
   funext i
   by_cases q:∃n∈c.p.N,nb n=i
   ·grind [bJ,PhA.n1]
   ·have q':=λn hn k=>q ⟨n,hn,k⟩
    have v1:=u1i i;unfold add at v1 ⊢;rw[t2 i q',hA.n2 i λn hn _=>q' n hn];exact v1
  have fU:Fit ρ c.base (c.un sc) tU w:=⟨by rw[eU];exact z'.fit.wr,λi x hx=>by
   grind⟩
  have pw1:c.p.N.Pairwise λm n=>nb m≠nb n:=dj.N.imp_of_mem (by grind [PhA.n3]);have opn:∀n∈c.p.N,∃o,c.ops[n]?=some o/\(c.D n).1=o.dst:=λn hn=>by
   have:=dk.lt n (mem4.2 (.inr (.inr (.inl hn))))
   simp_all [DCxOK.nD]
  have pw2:c.p.N.Pairwise λm n=>∀d,(c.D m).1=some d->(c.D n).1≠some d:=dj.N.imp_of_mem fun {m n} hm hn hne d h1 h2=>by have ⟨o1,p1,p2⟩:=opn m hm;have ⟨o2,p3,p4⟩:=opn n hn;exact(dk.dst m n o1 o2 d p1 p3 (p2 ▸ h1)).1 hne (p4 ▸ h2)
  have ⟨env3,s3,t3,k1,k2,k3,k4,k5,k6,k7⟩:=nE (nb:=nb) c.p.N env' (c.un sc) tU hK fU (gR) pw1 pw2;have et:t3=c.t:=by
   grind
  subst et;have pdlt:∀i∈pd++d,i ∉ c.p.N/\i ∉ c.p.T:=(by grind [Dj.sn,Dj.st,Dj.mn,Dj.mt])
  have stay:∀i∈pd++d,∀o,c.ops[i]?=some o->(∀x∈o.looksAt c.ops,env3 x=env' x)/\∀dd,o.dst=some dd->env3 dd=env' dd:=λi hi o ho=>by
   refine⟨λx hx=>k7 x λn hn q=>?_,λdd hdd=>k7 dd λn hn q=>?_⟩
   ·have ⟨o1,p1,p2⟩:=opn n hn
    have hb:=Classical.byContradiction λhn2=>dk.oSN n (by simp[hn]) ⟨i,o1,o,x,p1,ho,p2 ▸ q,hx,hn2⟩
    grind [St.cp]
   ·have ⟨o1,p1,p2⟩:=opn n hn
    exact(dk.dst n i o1 o dd p1 ho (p2 ▸ q)).1 (λq=>(pdlt i hi).1 (q ▸ hn)) hdd
  refine nC ok (tF:=c.t) (sc:=s3) (pd:=(pd++d)++c.p.N) (k:=c.p.T) (val:=val') (env:=env3) (e:=e) (ρ:=ρ) ⟨⟨[],rfl,λi=>?_⟩,rfl,λi x hi=>?_,λi hi hs=>?_⟩ ⟨z'.er,z'.df,z'.le,z'.be,k2,z'.ev1,z'.ev2,λi hi o dd ho hdd=>?_,λx hx=>?_,λi hi=>?_,λi hi hX=>?_,⟨[],.nil,k1⟩,λi hi m hm hb=>?_,λi hi hk=>?_,λi hi=>?_,dk.apT,λi hi q=>dj.st i q hi,z'.xc,λi hi how=>?_,(by grind [DrOK.lT]),λl1 j l2 hj m hm hb=>?_⟩
  ·grind
  ·rw[(k4 i λn hn q=>?_).2]
   ·exact u3 i x hi
   ·have:=u3 i x hi;grind
  ·grind
  ·rcases mP hi with hi|hi
   ·grind [St.cv1]
   ·have ⟨o1,p1,p2⟩:=opn i hi
    grind [PhA.n1]
  ·rw[k7 x λn hn q=>?_]
   ·exact z'.cv2 x gR
   grind
  ·rcases mP hi with hi|hi
   ·rcases z'.fa i hi with q|q
    ·exact .inl q
    ·have ⟨hh,q1,q2⟩:=q
     have hv:Nz c.P c.ops i->Vis hh (add tF sc):=(by grind [nA,PhA.lv])
     refine .inr ⟨hh,λhz=>?_,λo ho=>(q2 o ho).ag (stay i hi o ho).1⟩
     by_cases hl:c.late=true/\i∈c.p.S
     ·grind [DCxOK.vla]
     ·refine .inr ⟨hl,by rw[k3,eU];exact hv hz,λm hm hmv=>?_⟩
      have ⟨l1,l2,e⟩:=append_of_mem hm;refine(dk.lT l1 m l2 e).2.1 i ?_ hz (.inr hmv);unfold chOf;cases hq:c.late with
      |false=>grind
      | true=>
        grind
   ·exact .inl (hN i hi)
  ·exact hA.nT i hi hX
  ·rcases mP hi with hi|hi
   ·grind [St.cp]
   ·exact mem_append_left _ ((f2 m).2 (.inl ((dk.lN i hi).2 m hm hb)))
  ·grind [Dj.nt]
  ·rcases mP hi with hi|hi
   ·exact z'.lp i hi
   grind
  ·grind [St.ow]
  grind [DrOK.lT]
 ·exact⟨val',e,env',ρ,sc,tF,pd++d,k',hd,.inl ⟨nb,hA,z',hsw⟩⟩
end
section
variable {c:DCx} {L:Bool} {X:Nat→Prop} {a:Act} {w:World} {val:Nat→AV} {e env:Env} {ρ:Ren} {sc tF:Hq} {pd k:List Nat} {KK:Env→Hq→Prop} {nb:Nat→Nat} {r:Option Nat} {Q:Exit→Act→World→Prop} {K:Act→World→Prop} {j:Nat} {o:Oper}
theorem Q7{h t:Hq}{b:Nat}{x:Bool×Blk}(hv:Vis h t)(hb:t b=none):Vis h (hset t b x):=λi e y hi=>by
 have ⟨e',q⟩:=hv i e y hi
 grind [bg]
theorem zK{h t s:Hq}{b:Nat}{x:Bool×Blk}(hv:Vis h (add t s))(hb:s b=none):Vis h (add t (hset s b x)):=λi e y hi=>by
 have ⟨e',q⟩:=hv i e y hi;cases q3:t i with
 |some z=>grind [bJ]
 | none=>
   grind [aV,bg]
theorem zL(ok:DCxOK c)(h:PhA c X val sc tF pd k nb)(z:St c c.lk X a w val e env ρ sc tF pd k c.KA)(ho:c.ops[j]?=some o)(hj:¬X j)(hr:∀i,bf c.ops i j->X i)(hN:j∈c.p.N)(next:∀a' w',DI c (λi=>i=j∨X i) a' w'->K a' w'):wpOpIn (FR r) 0 c.P c.ops Q j K a w:=by
 have dk:=ok.dk;have dj:=dk.dj;have ⟨dn,e1,e2⟩:=h.ls;have hpd:j ∉ pd:=(by grind [Dj.sn,Dj.mn])
 have hk:∀i∈k,i≠j:=(by grind [Dj.mn])
 have lb:∀m,m<c.ops.size->bf c.ops m j->m∈pd:=(by grind [DrOK.lN])
 have ag:=z.look ok ho hj hr lb;have ⟨hg0,h2⟩:=(dk.lN j hN).1 o ho;have ⟨d1,d2⟩:=ok.nD j hN o ho;have hx:∀x∈o.op.operands.toList,evD e x=evD c.env1 x:=λx hx=>by
  cases x with
  | tmp t=>
    have hl:t∈o.looksAt c.ops:=mem_append_left _ (mem_filterMap.2 ⟨.tmp t,by simpa using hx,rfl⟩);show e t=c.env1 t;rw[ag t hl]
    by_cases hq:∃(i:Nat) (y:Oper),c.ops[i]?=some y/\y.dst=some t
    ·have ⟨i,y,hy,hd⟩:=hq
     by_cases hb:bf c.ops i j
     ·have hiS:=(dk.lN j hN).2 i (iA hy) hb
      rw[z.cv1 i ((e2 i).2 (.inl hiS)) y t hy hd,ok.eS i hiS y t hy hd];exact h.vs i hiS
     ·have how:Ow c.ops i:=⟨j,y,o,t,hy,ho,hd,hl,hb⟩
      have hXi:¬X i:=(by grind [St.xc,DrOK.dst])
      rw[z.cv2 t λm hm q hq hd2=>(dk.dst m i q y t hq hy hd2).1 ((by grind [St.ow])) hd,ok.e1 t λm hm q hq hd2=>(dk.dst m i q y t hq hy hd2).1 ((by grind [DrOK.oSN])) hd]
    grind [St.cv2,DCxOK.e1]
  |_=>rfl
 have hb:=(ok.nB j hN o ho)
 unfold wpOpIn;simp only[ho];have hw:Region.wanted o (yielded c.ops a.tmps)=true:=by unfold Region.wanted;rw[hg0]
 rw[hw,if_pos rfl];refine gN ok.g z.fit z.er (dk.ok j o ho) (d2 e sc (λv s'=>∃b,sc b=none/\v=(c.D j).2.2.2 b/\s'=hset sc b (c.B j)) hx λb hb=>⟨b,hb,rfl,rfl⟩) ?_;rintro v v' ρ' s' w' ⟨b,hb1,rfl,rfl⟩ st hrel;have htb:tF b=none:=by
  cases q:tF b with
  |none=>rfl
  |some x=>have:=st.nw b (by rw[q];simp) hb1;grind [cr]
 have hea:add (hset tF b (c.B j)) sc=add tF (hset sc b (c.B j)):=by
  grind [cr,add,bg]
 have hfit:Fit ρ' c.base sc (hset tF b (c.B j)) w':=⟨by rw[hea];exact st.fit.wr,λi x hx=>by
  by_cases q:i=b
  ·subst q;exact .inl hb1
  ·rw[bg q]at hx;exact z.fit.fr i x hx⟩
 obtain⟨val',v1,v2⟩:∃val':Nat->AV,val' j=(c.D j).2.2.2 b/\∀i,i≠j->val' i=val i:=⟨λi=>if i=j then(c.D j).2.2.2 b else val i,if_pos rfl,λi hi=>if_neg hi⟩
 have ⟨nb',n1,n2⟩:∃nb':Nat->Nat,nb' j=b/\∀i,i≠j->nb' i=nb i:=⟨λi=>if i=j then b else nb i,if_pos rfl,λi hi=>if_neg hi⟩
 obtain⟨e',f1,f2,f3⟩:=z.done ok ho hj (val':=val') v2 st.le (by rw[v1];exact hrel) hb;have nej:∀i∈pd,i≠j:=λi hi q=>hpd (q ▸ hi);have nbne:∀n∈c.p.N,X n->n≠j/\nb n≠b:=λn hn hX=>⟨λq=>hj (q ▸ hX),λq=>by have:=(h.n1 n hn hX).1;grind⟩
 have t0b:c.t0 b=none:=by grind [PhA.n2]
 refine next _ w' (i6 ok (val:=val') (sc:=sc) (tF:=hset tF b (c.B j)) (pd:=pd) (k:=k) (nb:=nb') (e:=e') (env:=env) (ρ:=ρ')
  ⟨h.ls,h.pers,h.nw,λn hn hX=>?_,λi hi=>?_,λn hn n' hn' hX hX' hq=>?_,λi hi hX=>?_,λi hi=>?_⟩
  ⟨f1,by grind [dy,St.df],z.le.trans st.le,z.be.trans st.below,hfit,f2,f3,λi hi y dd hy hd=>?_,z.cv2,λi hi=>?_,λi hi q=>?_,z.co,z.cp,z.pk,z.lp,z.ap,z.kS,(by grind [St.xc]),λi hi h=>.inr (z.ow i hi h),z.kb,z.lb⟩)
 ·grind [cr,bg,PhA.n1]
 ·grind [bg,PhA.n2]
 ·grind [PhA.n3]
 ·grind [Dj.nt,PhA.nT]
 ·grind [PhA.vs]
 ·grind [St.cv1]
 ·rw[v2 i (nej i hi)]
  rcases z.fa i hi with q|⟨hh,q1,q2⟩
  ·exact .inl (.inr q)
  ·exact .inr ⟨hh,(by grind [zK]),q2⟩
 grind [St.no]
theorem i7{P:Program}{ops:Array Oper}{m:Nat}(h:Mv P ops m):Nz P ops m:=by have ⟨o,h1,h2⟩:=h;exact⟨o,h1,h2.imp_left λq=>oM⟩
theorem nG{l:List Nat}(hk:HdO c k)(hj:j∈k)(hb:∀m l,k=m::l->Mv c.P c.ops m->j∈l->X m)(no:∀i∈k,¬X i):∃l,k=j::l:=by
 rcases hk with rfl|⟨m,l,rfl,hm⟩
 ·cases hj
 grind
theorem zM(ok:DCxOK c)(h:DI c X a w)(ho:c.ops[j]?=some o)(hj:¬X j)(hr:∀i,bf c.ops i j->X i)(next:∀a' w',DI c (λi=>i=j∨X i) a' w'->K a' w'):wpOpIn (FR r) 0 c.P c.ops Q j K a w:=by
 have dk:=ok.dk;have dj:=dk.dj;have hlt:=iA ho;obtain⟨val,e,env,ρ,sc,tF,pd,k,hk,⟨nb,hA,z,hns⟩|⟨hB,z⟩⟩:=h
 ·have ⟨dn,e1,e2⟩:=hA.ls
  have noT:j ∉ c.p.T:=λhT=>by
   have ⟨l1,l2,q⟩:=append_of_mem hT;have ⟨_,q2,q3⟩:=dk.lT l1 j l2 q;apply hns;refine⟨?_,λn hn=>hr n (q3 n hn)⟩;rcases hk with q|⟨m,l,rfl,hm⟩
   ·exact q
   grind [chOf,i7,St.no]
  by_cases hp:j∈pd
  ·have nN:∀n∈c.p.N,n≠j:=(by grind [Dj.sn,Dj.mn])
   refine z.runPd ok ho hj hp hr (hA.lv ok) λa' w' e' ρ' z'=>next a' w' ⟨val,e',env,ρ',sc,tF,pd,k,hk,.inl ⟨nb,⟨hA.ls,hA.pers,hA.nw,λn hn hX=>?_,(by grind [PhA.n2]),λn hn n' hn' hX hX'=>?_,λi hi hX=>?_,hA.vs⟩,z',λq=>hns ⟨q.1,λn hn=>?_⟩⟩⟩
   ·exact hA.n1 n hn (hX.resolve_left (nN n hn))
   ·exact hA.n3 n hn n' hn' (hX.resolve_left (nN n hn)) (hX'.resolve_left (nN n' hn'))
   ·exact hX.elim (λq=>noT (q ▸ hi)) (hA.nT i hi)
   ·exact(q.2 n hn).resolve_left (nN n hn)
  ·rcases dk.cov j hlt with q|q|q|q
   ·exact absurd ((e2 j).2 (.inl q)) hp
   ·have hjk:j∈k:=by
     rw[e1]at q;rcases mP q with q|q
     ·exact absurd ((e2 j).2 (.inr q)) hp
     ·exact q
    obtain⟨l,rfl⟩:=nG (l:=[]) hk hjk (λm l q hm hl=>by obtain⟨l1,l2,rfl⟩:=append_of_mem hl;exact hr m ((dk.lM (dn++m::l1) j l2 (by rw[e1,q];simp)).2 m sI (i7 hm) (.inl hm))) z.no
    have nN:∀n∈c.p.N,n≠j:=λn hn q'=>dj.mn j q (q' ▸ hn);have hm:Mv c.P c.ops j:=by
     rcases hk with q'|⟨m,l',q',hm⟩
     ·cases q'
     ·cases q';exact hm
    refine z.runHd ok ho hr hm λa' w' val' e' env' ρ' sc' hval hpe hnw z'=>next a' w' (i6 ok (nb:=nb) ⟨⟨dn ++ [j],by rw[e1];simp,λi=>?_⟩,hA.pers.trans hpe,λi hi hs=>hnw i (λq'=>?_) (hA.nw i hi hs),λn hn hX=>?_,(by grind [PhA.n2]),(by grind [PhA.n3]),(by grind [PhA.nT]),λi hi=>?_⟩ z')
    ·grind
    ·by_cases q2:∃n∈c.p.N,X n/\nb n=i
     ·obtain⟨n,hn,hX,rfl⟩:=q2
      exact hi (hA.n1 n hn hX).2.1
     grind [PhA.n2]
    ·grind [PhA.n1]
    grind [PhA.vs]
   ·grind [zL]
   ·exact absurd q noT
 ·have ⟨dn,e1,e2⟩:=hB.ls
  by_cases hp:j∈pd
  ·exact z.runPd ok ho hj hp hr (λq=>by rw[hB.tf];exact(ok.vla q).2) λa' w' e' ρ' z'=>next a' w' ⟨val,e',env,ρ',sc,tF,pd,k,hk,.inr ⟨hB,z'⟩⟩
  ·have hjk:j∈k:=by
    grind [DrOK.cov]
   obtain⟨l,rfl⟩:=nG (l:=[]) hk hjk (λm l q hm hl=>by
    obtain⟨l1,l2,rfl⟩:=append_of_mem hl
    grind [i7,DrOK.lT]) z.no
   have hm:Mv c.P c.ops j:=by
    rcases hk with q'|⟨m,l',q',hm⟩
    ·cases q'
    ·cases q';exact hm
   refine z.runHd ok ho hr hm λa' w' val' e' env' ρ' sc' hval hpe hnw z'=>next a' w' (nC ok ⟨⟨dn ++ [j],by rw[e1];simp,λi=>?_⟩,hB.tf,hB.pers.trans hpe,(by grind [PhB.tf,PhB.nw])⟩ z')
   grind
theorem nI(hX:∀i,i<c.ops.size->X i)(hk:HdO c k)(z:St c L X a w val e env ρ sc tF pd k KK):k=[]:=by
 rcases hk with q|⟨m,l,rfl,_⟩
 ·exact q
 ·exact absurd (hX m (z.ap.2.1 m sI)) (z.no m sI)
theorem zN(ok:DCxOK c)(h:DI c X a w)(hX:∀i,i<c.ops.size->X i):∃e ρ sc,ER ρ c.nt e a.tmps/\a.defers=c.ds0/\Le c.ρ0 ρ/\Below c.base c.w0 w/\Fit ρ c.base sc c.t w/\Pers c.s sc/\(∀i,c.t i≠none->c.s i=none->sc i=none)/\c.Kf e sc/\∀x,(∀(i:Nat) o,c.ops[i]?=some o->o.dst≠some x)->e x=c.env0 x:=by
 have dk:=ok.dk;obtain⟨val,e,env,ρ,sc,tF,pd,k,hk,⟨nb,hA,z,hns⟩|⟨hB,z⟩⟩:=h
 ·grind [nI,DrOK.lt]
 ·obtain rfl:=nI hX hk z
  have ⟨dn,e1,e2⟩:=hB.ls;have hpd:∀i,i<c.ops.size->i∈pd:=(by grind [DrOK.cov])
  have he:env=e:=by
   funext x
   by_cases hq:∃(i:Nat) (y:Oper),c.ops[i]?=some y/\y.dst=some x
   ·grind [St.cv1,St.ev1]
   ·rw[z.cv2 x gR,z.ev2 x gR]
  have ⟨kn,_,hK⟩:=z.co;have hK:c.Kf env sc:=hK;have hfit:=z.fit;rw[hB.tf]at hfit
  grind [St.er,St.df,St.le,St.be,PhB.pers,PhB.nw,St.ev2]
theorem DI.cg{Y:Nat->Prop}(ok:DCxOK c)(hXY:∀i,i<c.ops.size->(X i↔Y i))(h:DI c X a w):DI c Y a w:=by
 have dk:=ok.dk;have ap:∀{L val e env ρ sc tF pd k KK},St c L X a w val e env ρ sc tF pd k KK->St c L Y a w val e env ρ sc tF pd k KK:=λz=>
  ⟨z.er,z.df,z.le,z.be,z.fit,λi x d hY hx=>z.ev1 i x d ((hXY i (iA hx)).2 hY) hx,λx hx=>z.ev2 x gR,z.cv1,z.cv2,λi hi=>(z.fa i hi).imp_left (hXY i (z.lp i hi)).1,λi hi hY=>z.no i hi ((hXY i (z.ap.2.1 i hi)).2 hY),z.co,z.cp,z.pk,z.lp,z.ap,z.kS,λi hl hi m hm hb=>(hXY m hm).1 (z.xc i hl ((hXY i hl).2 hi) m hm hb),λi hi how=>(hXY i (z.lp i hi)).1 (z.ow i hi how),z.kb,z.lb⟩
 have nl:=λn hn=>dk.lt n (mem4.2 (.inr (.inr (.inl hn))));obtain⟨val,e,env,ρ,sc,tF,pd,k,hk,⟨nb,hA,z,hns⟩|⟨hB,z⟩⟩:=h
 ·exact⟨val,e,env,ρ,sc,tF,pd,k,hk,.inl ⟨nb,⟨hA.ls,hA.pers,hA.nw,λn hn hY=>hA.n1 n hn ((hXY n (nl n hn)).2 hY),λi hi=>hA.n2 i gR,λn hn n' hn' hY hY'=>hA.n3 n hn n' hn' ((hXY n (nl n hn)).2 hY) ((hXY n' (nl n' hn')).2 hY'),λi hi hY=>hA.nT i hi ((hXY i (dk.lt i (mem4.2 (.inr (.inr (.inr hi)))))).2 hY),hA.vs⟩,ap z,(by simp_all)⟩⟩
 ·exact⟨val,e,env,ρ,sc,tF,pd,k,hk,.inr ⟨hB,ap z⟩⟩
end
def lock(s h:Hq):Hq:=λb=>match h b with
 |none=>s b
 |some _=>frz s b
def i9(P:Program)(nt:Nat)(ops:Array Oper)(p:Plan)(lk:Nat)(env:Env)(K:Env->Hq->Prop)(s:Hq):Prop:=match lk with
 | 0=>gO P nt ops.toList p s s id env K
 | 1=>∃h,Sub h s/\gO P nt ops.toList p h (lock s h) (add h) env K
 |_=>∃h,Sub h s/\gO P nt ops.toList p h (lock s h) id env (λe s'=>K e (add h s'))
def lkB:Nat->Bool
 | 0=>false
 |_=>true
def laB:Nat->Bool
 | 0 | 1=>false
 |_=>true
section
variable {P:Program} {r:Option Nat} {ops:Array Oper} {nt base:Nat} {ρ:Ren} {s t h:Hq} {w:World} {env:Env} {a:Act} {p:Plan} {lk late:Bool}
theorem fV{i:Nat}{x:Bool×Blk}(hi:h i=some x):lock s h i=frz s i:=by unfold lock;rw[hi]
theorem dJ{i:Nat}(hi:h i=none):lock s h i=s i:=by unfold lock;rw[hi]
theorem cG{i:Nat}{x:Bool×Blk}(hi:s i=some x):frz s i=some (true,x.2):=by unfold frz;rw[hi]
theorem Fit.lock(hf:Fit ρ base s t w)(hs:Sub h s):Fit ρ base (lock s h) (add t h) w:=by
 have e:add (add t h) (AM.lock s h)=add t s:=by
  funext i
  cases q:t i with
  |some x=>rw[bJ (bJ q),bJ q]
  | none=>
    cases q2:h i with
    |some y=>rw[bJ (e:=y) (by rw[aV q];exact q2),aV q];exact(hs i y q2).symm
    |none=>rw[aV (by rw[aV q];exact q2),aV q,dJ q2]
 refine⟨by rw[e];exact hf.wr,λi x hx=>?_⟩;cases q2:h i with
 | none=>
   rw[dJ q2];cases q:t i with
   |none=>grind [aV]
   |some y=>rw[bJ q]at hx;cases hx;exact hf.fr i _ q
 | some y=>
   rw[fV q2,cG (hs i y q2)];cases q:t i with
   |none=>grind [aV]
   | some y'=>
     rw[bJ q]at hx;cases hx;rcases hf.fr i _ q with k|k
     ·rw[hs i y q2]at k;cases k
     ·rw[hs i y q2]at k;cases k;exact .inr rfl
theorem Vis.lock(hf:Fit ρ base s t w)(hs:Sub h s):Vis h (add t h):=λi e b hi=>by
 cases q:t i with
 |none=>grind [aV]
 | some x=>
   rcases hf.fr i x q with k|k
   ·rw[hs i _ hi]at k;cases k
   ·rw[hs i _ hi]at k;grind [bJ]
theorem Vis.own(hf:Fit ρ base s t w):Vis s (add t s):=Vis.lock hf λ_ _ h=>h
theorem nJ(hf:Fit ρ base s t w)(hs:Sub h s)(s':Hq)(hp:Pers (lock s h) s')(hn:∀i,add t h i≠none->lock s h i=none->s' i=none)(hfr:∀i x,add t h i=some x->s' i=none∨s' i=some (true,x.2)):
  add t (add h s')=add (add t h) s'/\(∀i x,t i=some x->add h s' i=none∨add h s' i=some (true,x.2))/\Pers s (add h s')/\∀i,t i≠none->s i=none->add h s' i=none:=by
 refine⟨?_,λi x hx=>?_,λi b hi=>?_,λi hi hsn=>?_⟩
 ·grind [add]
 ·cases q2:h i with
  | some y=>
    rw[bJ q2];rcases hf.fr i x hx with k|k
    ·rw[hs i y q2]at k;cases k
    ·rw[hs i y q2]at k;exact .inr k
  |none=>grind [aV,bJ]
 ·cases q2:h i with
  |some y=>rw[bJ q2];rw[hs i y q2]at hi;exact hi
  |none=>rw[aV q2];exact hp i b (by grind [dJ])
 ·have q2:h i=none:=by
   cases q:h i with
   |none=>rfl
   |some y=>rw[hs i y q]at hsn;cases hsn
  rw[aV q2];exact hn i (by
   cases q:t i with
   |none=>exact absurd q hi
   |some y=>rw[bJ q];simp) (by grind [dJ])
theorem zO(g:Grd P)(dk:DrOK P ops p lk late)(hnB:∀n∈p.N,∀o,ops[n]?=some o->∀d,o.dst=some d->blt d nt=true){id:Nat}{sM t0:Hq}{un:Hq->Hq}{K:Env->Hq->Prop}{Q:Exit->Act->World->Prop}(hm:P.follows .mixedOrders=true)(hT:ER ρ nt env a.tmps)(hf0:Fit ρ base sM t0 w)(hvi:Vis h (add t0 sM))(hvl:lk=true->Vis h t0)(hva:late=true->lk=true/\Vis h t)
  (hun:∀s',Pers sM s'->(∀i,t0 i≠none->sM i=none->s' i=none)->(∀i x,t0 i=some x->s' i=none∨s' i=some (true,x.2))->add t (un s')=add t0 s'/\(∀i x,t i=some x->un s' i=none∨un s' i=some (true,x.2))/\Pers s (un s')/\∀i,t i≠none->s i=none->un s' i=none)
  (hk:gO P nt ops.toList p h sM un env K) (hQ:∀e s' ρ' a' w',K e s'->(∀x,(∀(i:Nat) o,ops[i]?=some o->o.dst≠some x)->e x=env x)->Stp ρ ρ' base s s' t w w'->ER ρ' nt e a'.tmps->a'.defers=a.defers->Q .normal a' w'):(Code.region id ops true).wpIn (FR r) 0 P Q a w:=by
 have ⟨env1,vS,k1,k2,k3⟩:=nq dk.ok p.S [] env dk.apS (λi hi=>dk.oSN i (by simp[hi])) .nil hk;have ⟨D,k4,k5⟩:=ny p.N dk.dj.N (λi hi=>dk.lt i (mem4.2 (.inr (.inr (.inl hi))))) k1
 let c:DCx:=⟨P,ops,nt,p,lk,late,h,s,sM,t,t0,un,env,env1,K,D,vS,base,ρ,w,a.defers⟩
 have ok:DCxOK c:=⟨g,dk,hvl,hva,hun,k5,hnB,gR,k2⟩
 refine zE (r:=r) hm dk.rg (DI c) (λX a' w' j o KK hI _ ho hj hr next=>zM ok hI ho hj hr next) (λX a' w' hX hI=>?_) ?_ (by grind [DI.cg])
 ·have ⟨e,ρ',sc,q1,q2,q3,q4,q5,q6,q7,q8,q9⟩:=zN ok hI hX
  exact hQ e sc ρ' a' w' q8 q9 ⟨q3,q4,q6,q5,q7⟩ q1 q2
 ·refine i6 ok (val:=vS) (e:=env) (env:=env1) (ρ:=ρ) (sc:=sM) (tF:=t0) (pd:=p.S) (k:=p.M) (nb:=λ_=>0) ⟨⟨[],rfl,λi=>gR⟩,λ_ _ h=>h,λ_ _ h=>h,λ_ _ h=>h.elim,λ_ _=>rfl,λ_ _ _ _ h=>h.elim,λ_ _ h=>h,λ_ _=>rfl⟩
   ⟨hT,rfl,.refl _,?_,hf0.same rfl,λ_ _ _ h=>h.elim,λ_ _=>rfl,gR,k2,λi hi=>.inr ⟨h,λhz=>?_,λo ho=>(k3 i hi o ho).1⟩,λ_ _ h=>h,⟨[],.nil,k4⟩,λi hi m hm hb=>?_,dk.dj.sm,λi hi=>dk.lt i (mem4.2 (.inl hi)),dk.apM,λi hi q=>dk.dj.sm i q hi,λ_ _ h=>h.elim,(by grind [DrOK.oSN]),(by grind [DrOK.lM]),(by grind [DrOK.lM])⟩
  ·exact Km (.refl _ _)
  ·grind [DrOK.lk]
  ·have ⟨l1,l2,q⟩:=append_of_mem hi
   grind [DrOK.lS]
theorem zQ{lk:Nat}(g:Grd P)(dk:DrOK P ops p (lkB lk) (laB lk))(hnB:∀n∈p.N,∀o,ops[n]?=some o->∀d,o.dst=some d->blt d nt=true){id:Nat}{K:Env->Hq->Prop}{Q:Exit->Act->World->Prop}(hm:P.follows .mixedOrders=true)(hT:ER ρ nt env a.tmps)(hf:Fit ρ base s t w)
  (hk:i9 P nt ops p lk env K s) (hQ:∀e s' ρ' a' w',K e s'->(∀x,(∀(i:Nat) o,ops[i]?=some o->o.dst≠some x)->e x=env x)->Stp ρ ρ' base s s' t w w'->ER ρ' nt e a'.tmps->a'.defers=a.defers->Q .normal a' w'):(Code.region id ops true).wpIn (FR r) 0 P Q a w:=by
 have vl:∀{h},Sub h s->Vis h (add (add t h) (lock s h)):=λhs i e b hi=>by
  have ⟨e',q⟩:=Vis.lock hf hs i e b hi
  grind [bJ]
 unfold i9 at hk;split at hk
 ·exact zO (t0:=t) g dk hnB hm hT hf (Vis.own hf) (λh=>nomatch h) (λh=>nomatch h) (λs' h1 h2 h3=>⟨rfl,h3,h1,h2⟩) hk hQ
 ·obtain⟨h,hs,hk⟩:=hk
  exact zO (t0:=add t h) g dk hnB hm hT (hf.lock hs) (vl hs) (λ_=>Vis.lock hf hs) (λh=>nomatch h) (nJ hf hs) hk hQ
 ·have ⟨h,hs,hk⟩:=hk
  refine zO (s:=lock s h) (t:=add t h) (t0:=add t h) g dk hnB hm hT (hf.lock hs) (vl hs) (λ_=>Vis.lock hf hs) (λ_=>⟨?_,Vis.lock hf hs⟩) (λs' h1 h2 h3=>⟨rfl,h3,h1,h2⟩) hk λe s' ρ' a' w' k1 k2 k3 k4 k5=>?_
  ·cases lk with
   |zero=>grind
   |succ n=>rfl
  ·have ⟨u1,u2,u3,u4⟩:=nJ hf hs s' k3.pers k3.nw k3.fit.fr
   exact hQ e _ ρ' a' w' k1 k2 ⟨k3.le,k3.below,u3,⟨by rw[u1];exact k3.fit.wr,u2⟩,u4⟩ k4 k5
end
def bfB(mk:List Nat)(i j:Nat):Bool:=Nat.testBit (mk.getD j 0) i
def atL(p:Nat->Bool)(cl:List Nat)(i:Nat):Bool:=match cl[i]? with
 |some c=>p c
 |none=>false
def nzB(cl:List Nat)(i:Nat):Bool:=atL (λc=>blt 0 c) cl i
def mvB(cl:List Nat)(i:Nat):Bool:=atL (λc=>blt 1 c) cl i
def Q8(i:Nat)(l:List Nat):Bool:=memN i l
def ordB(mk cl:List Nat)(n:Nat)(chk:Bool)(pre ch:List Nat):List Nat->List Nat->Bool
 |_,[]=>true
 |done,j::l=>((List.range n).all λi=>!bfB mk i j||(memN i pre||memN i done))&&((!chk||(ch++done).all λm=>!(nzB cl m&&(mvB cl m||mvB cl j))||bfB mk m j)&&ordB mk cl n chk pre ch (done ++ [j]) l)
def dstB(mk:List Nat)(ops:List Oper)(arr:Array Oper):List Oper->Nat->Bool
 |[],_=>true
 | x::xs,i=>(match x.dst with
   |none=>true
   | some d=>(List.range ops.length).all λj=>match ops[j]? with
     |none=>true
     |some y=>(beq i j||(match y.dst with|none=>true|some e=>!beq d e))&&(!memN d (y.looksAt arr)||(!beq i j&&(bfB mk i j||bfB mk j i))))&&dstB mk ops arr xs (i+1)
def tV:List Nat->Bool
 |[]=>true
 |x::xs=>!memN x xs&&tV xs
def owB(mk:List Nat)(ops:List Oper)(arr:Array Oper)(x:Oper)(i:Nat):Bool:=match x.dst with
 |none=>false
 | some d=>(List.range ops.length).any λj=>match ops[j]? with
   |none=>false
   |some y=>memN d (y.looksAt arr)&&!bfB mk i j
def clsA(P:Program)(mk:List Nat)(ops:List Oper)(arr:Array Oper):List Oper->Nat->List Nat
 |[],_=>[]
 |o::os,i=>cond (owB mk ops arr o i) 3 (clsD P o.op)::clsA P mk ops arr os (i+1)
def clsL(P:Program)(ops:Array Oper):List Nat:=clsA P (masks ops.toList []) ops.toList ops ops.toList 0
def drB(P:Program)(nt:Nat)(ops:Array Oper)(p:Plan)(lk late:Bool):Bool:=
 let mk:=masks ops.toList []
 let cl:=clsL P ops
 let n:=ops.toList.length
 ml ops.toList&&((ops.toList.all λo=>okOp o.op)&&(((List.range n).all λj=>memN j p.S||(memN j p.M||(memN j p.N||memN j p.T)))&&(tV (p.S++(p.M++(p.N++p.T)))&&(((p.S++(p.M++(p.N++p.T))).all λj=>blt j n)&&(dstB mk ops.toList ops ops.toList 0&&(((p.S++p.N).all λi=>match ops.toList[i]? with|none=>true|some x=>!owB mk ops.toList ops x i) &&
  (ordB mk cl n false [] [] [] p.S&&(ordB mk cl n true p.S [] [] p.M&&(ordB mk cl n true (p.S++(p.M++p.N)) (chOf late p) [] p.T&&((p.T.all λj=>p.N.all λi=>bfB mk i j) &&
  ((p.N.all λi=>(match ops.toList[i]? with
    |none=>false
    |some o=>o.guard.isNone&&(beq (clsD P o.op) 2&&(match o.dst with|none=>true|some d=>blt d nt)))&&(List.range n).all λm=>!bfB mk m i||memN m p.S) &&
  (lk||p.M.all λm=>!mvB cl m||p.S.all λi=>!nzB cl i||bfB mk i m))))))))))))
section
variable {P:Program} {nt:Nat} {ops:Array Oper} {p:Plan} {lk late:Bool}
theorem fW{i:Nat}:∀{l:List Nat},memN i l=true↔i∈l
 |[]=>by simp[memN]
 | j::l=>by
   unfold memN;cases h:beq i j with
   |true=>simp_all
   | false=>
     have:i≠j:=λe=>by simp_all
     simp[fW (l:=l),this]
theorem KM{mk:List Nat}{os:List Oper}{arr:Array Oper}:∀(l:List Oper) (k i:Nat),(clsA P mk os arr l k)[i]?=(l[i]?).map λo=>cond (owB mk os arr o (k+i)) 3 (clsD P o.op)
 |[],_,i=>by simp[clsA]
 |o::l,k,0=>by simp[clsA]
 | o::l,k,i+1=>by
   simp only[clsA,g1Y];rw[KM l (k+1) i,show k+1+i=k+(i+1)by omega]
theorem nK{i:Nat}{o:Oper}(ho:ops[i]?=some o):owB (masks ops.toList []) ops.toList ops o i=true↔Ow ops i:=by
 unfold owB;constructor
 ·intro h
  split at h
  ·cases h
  ·rename_i d hd
   have ⟨j,_,hj⟩:=any_eq_true.1 h;split at hj
   ·cases hj
   ·rename_i y hy
    rw[Bool.and_eq_true,Bool.not_eq_true']at hj;exact⟨j,o,y,d,ho,gR,hd,fW.1 hj.1,λq=>by have q:bfB (masks ops.toList []) i j=true:=q;rw[q]at hj;cases hj.2⟩
 ·rintro ⟨j,x,y,d,hx,hy,hd,hl,hb⟩
  rw[ho]at hx;cases hx;rw[hd];refine any_eq_true.2 ⟨j,gR,?_⟩;have hy2:ops.toList[j]?=some y:=gR;simp only[hy2];rw[Bool.and_eq_true,Bool.not_eq_true'];refine⟨fW.2 hl,?_⟩;cases q:bfB (masks ops.toList []) i j with
  |false=>rfl
  |true=>exact absurd q hb
theorem nL{q:Nat->Bool}{i:Nat}(h3:q 3=true):atL q (clsL P ops) i=true↔∃o,ops[i]?=some o/\(q (clsD P o.op)=true∨Ow ops i):=by
 grind [atL,clsL,KM,nK]
theorem ja{i:Nat}:nzB (clsL P ops) i=true↔Nz P ops i:=by unfold nzB Nz;rw[nL rfl];simp only[blt_eq,Nat.pos_iff_ne_zero]
theorem nM{i:Nat}:mvB (clsL P ops) i=true↔Mv P ops i:=by
 simp_all [mvB,Mv,nL]
theorem kN{mk cl:List Nat}{n:Nat}{chk:Bool}{pre ch:List Nat}:∀(l done:List Nat),ordB mk cl n chk pre ch done l=true->∀l1 j l2,l=l1++j::l2->(∀i,i<n->bfB mk i j=true->i∈pre∨i∈done++l1)/\(chk=true->∀m∈ch++(done++l1),nzB cl m=true->(mvB cl m=true∨mvB cl j=true)->bfB mk m j=true)
 |[],_,_,l1,j,l2,e=>by cases l1<;>cases e
 | x::xs,done,h,l1,j,l2,e=>by
   unfold ordB at h;simp only[Bool.and_eq_true]at h;have ⟨h1,h2,h3⟩:=h;cases l1 with
   | nil=>
     grind [fW]
   | cons y ys=>
     cases e;have:=kN _ _ h3 ys j l2 rfl
     grind
theorem KN:∀{l:List Nat},tV l=true->l.Nodup
 |[],_=>.nil
 | x::xs,h=>by
   unfold tV at h;simp only[Bool.and_eq_true,Bool.not_eq_true']at h;refine nodup_cons.2 ⟨λq=>?_,KN h.2⟩
   grind [fW]
theorem nO{mk:List Nat}{os:List Oper}{arr:Array Oper}:∀(l:List Oper) (k:Nat),dstB mk os arr l k=true->∀i x d j y,l[i]?=some x->x.dst=some d->os[j]?=some y->(k+i≠j->y.dst≠some d)/\(d∈y.looksAt arr->k+i≠j/\(bfB mk (k+i) j=true∨bfB mk j (k+i)=true))
 |[],_,_,i,x,_,_,_,h,_,_=>by simp at h
 | z::zs,k,h,i,x,d,j,y,hx,hd,hy=>by
   unfold dstB at h;simp only[Bool.and_eq_true]at h;cases i with
   | zero=>
     simp only[g0Y,Option.some.injEq]at hx;subst hx;have h1:=h.1;rw[hd]at h1;have:=all_eq_true.1 h1 j (by have:=(gS hy).1;simp[this]);simp only[hy,Bool.and_eq_true,Bool.or_eq_true]at this;have ⟨a1,a2⟩:=this;refine⟨λhne he=>?_,λhl=>?_⟩
     ·rcases a1 with q|q
      ·exact hne (by have:=bE q;omega)
      ·rw[he]at q;simp at q
     ·rcases a2 with q|q
      ·grind [fW]
      ·exact⟨λe=>(by simp_all),by simpa using q.2⟩
   | succ i=>
     have:=nO zs (k+1) h.2 i x d j y (by simpa using hx) hd hy
     grind
theorem zR(h:drB P nt ops p lk late=true):DrOK P ops p lk late/\∀n∈p.N,∀o,ops[n]?=some o->∀d,o.dst=some d->blt d nt=true:=by
 unfold drB at h;simp only[Bool.and_eq_true]at h;have ⟨h1,h2,h3,h4,h5,h6,hO,h7,h8,h9,h10,h11,h12⟩:=h;have hn:ops.toList.length=ops.size:=sI;rw[hn]at h3 h5 h7 h8 h9 h11;have hN:∀n∈p.N,∀o,ops[n]?=some o->o.guard=none/\clsD P o.op=2/\∀d,o.dst=some d->blt d nt=true:=λn hn o ho=>by
  have:=all_eq_true.1 h11 n hn;rw[Bool.and_eq_true]at this;have:=this.1;rw[Array.getElem?_toList,ho]at this;simp only[Bool.and_eq_true]at this;refine⟨by simpa using this.1,bE this.2.1,λd hd=>?_⟩
  grind
 refine⟨⟨h1,λj o ho=>?_,λj hj=>?_,KN h4,λj hj=>?_,λi j x y d hx hy hd=>?_,λi hi how=>?_,λl1 j l2 e i hi hb=>?_,λl1 j l2 e=>⟨λi hi hb=>?_,λm hm hz hmv=>?_⟩,λn hn=>⟨λo ho=>gR,λi hi hb=>?_⟩,λl1 j l2 e=>⟨λi hi hb=>?_,λm hm hz hmv=>?_,λn hn=>?_⟩,λhl m hm hmv i hi hz=>?_⟩,λn hn o ho=>(hN n hn o ho).2.2⟩
 ·grind
 ·have:=all_eq_true.1 h3 j (by simp[hj])
  grind [fW]
 ·have:=all_eq_true.1 h5 j hj
  simpa using this
 ·have:=nO ops.toList 0 h6 i x d j y gR hd gR
  rw[zAY]at this;exact this
 ·have:=all_eq_true.1 hO i hi
  have ⟨_,x,_,_,hx,_⟩:=id how;rw[Array.getElem?_toList,hx]at this
  grind [nK]
 ·have:=(kN p.S [] h7 l1 j l2 e).1 i hi hb
  simpa using this
 ·have:=(kN p.M [] h8 l1 j l2 e).1 i hi hb
  simpa using this
 ·exact(kN p.M [] h8 l1 j l2 e).2 rfl m (by simpa using hm) (ja.2 hz) (hmv.imp nM.2 nM.2)
 ·have:=all_eq_true.1 h11 n hn
  rw[Bool.and_eq_true]at this;have:=all_eq_true.1 this.2 i (by simp[hi]);have hb:bfB (masks ops.toList []) i n=true:=hb
  grind [fW]
 ·have:=(kN p.T [] h9 l1 j l2 e).1 i hi hb
  grind
 ·exact(kN p.T [] h9 l1 j l2 e).2 rfl m gR (ja.2 hz) (hmv.imp nM.2 nM.2)
 ·exact all_eq_true.1 (all_eq_true.1 h10 j (by rw[e];simp)) n hn
 ·rw[hl,Bool.false_or]at h12
  have:=all_eq_true.1 h12 m hm;rw[nM.2 hmv,Bool.not_true,Bool.false_or]at this;have:=all_eq_true.1 this i hi;rw[ja.2 hz,Bool.not_true,Bool.false_or]at this;exact this
end
def insP(mk cl:List Nat)(j:Nat):List Nat->List Nat
 |[]=>[j]
 |m::l=>cond (mvB cl m&&!bfB mk m j) (j::m::l) (m::insP mk cl j l)
def nP(mk cl:List Nat):Nat->List Nat->List Nat
 | 0,out=>out
 |k+1,out=>nP mk cl k (let j:=cl.length-(k+1);cond (mvB cl j) (out ++ [j]) (insP mk cl j out))
def jb(P:Program)(A:Nat->List Nat)(id:Nat)(ops:Array Oper):Plan:=match A (3000000+id)with
 |[]=>⟨[],nP (masks ops.toList []) (clsL P ops) ops.size [],[],[]⟩
 |_=>⟨A (2000000+4*id),A (2000001+4*id),A (2000002+4*id),A (2000003+4*id)⟩
def lkOf(A:Nat->List Nat)(id:Nat):Nat:=match A (3000000+id)with
 |l::_=>l
 |[]=>0
def gP:AExit->Exit
 | .nrm=>.normal
 | .exit id=>.exit id
 | .ret=>.ret
def RR(ρ:Ren):Option Nat->Option Nat->Prop
 |none,r=>r=none
 |some l,r=>∃L,ρ l=some L/\r=some L.blk
theorem RR.mono{ρ ρ':Ren}{x r:Option Nat}(h:RR ρ x r)(hl:Le ρ ρ'):RR ρ' x r:=by rcases x with _|l;exact h;have ⟨L,h1,h2⟩:=h;exact⟨L,hl _ _ h1,h2⟩
def mixE(slots:List Nat)(f env:Env):Env:=λj=>cond (memN j slots) (f j) (env j)
def nQ:List Oper->List Nat
 |[]=>[]
 | o::os=>match o.dst with
   |some d=>d::nQ os
   |none=>nQ os
def assigned:Code->List Nat
 | .region _ ops _=>nQ ops.toList
 | .seq a b=>assigned a++assigned b
 | .cond _ a b=>assigned a++assigned b
 | .block _ b=>assigned b
 | .loop b=>assigned b
 |_=>[]
def iB:Code->Nat
 | .region id _ _=>id
 | .seq a _=>iB a
 | .block _ b=>iB b
 | .loop b=>iB b
 | .cond _ a _=>iB a
 |_=>0
def nR(ls slots:List Nat)(body:Env->(AExit->Env->Hq->Prop)->Hq->Prop)(env:Env)(K:AExit->Env->Hq->Prop)(s:Hq):Prop:=
 ∃I:List AV->Hq->Nat->Prop,(∃m,I (ls.map env) s m)/\∀(f:Env) (s:Hq) (m:Nat),I (ls.map f) s m->
  body (mixE slots f env) (λe env' s'=>match e with
   | .nrm=>∃m',m'<m/\I (ls.map env') s' m'
   |e=>K e env' s') s
def jc(l:Nat)(s:Hq):Prop:=match s l with
 |some (_,.loop _ _ _ _ _ _ _ _)=>True
 |_=>False
def nS(l:Nat)(K:AExit->Hq->Prop)(s:Hq):Prop:=match s l with
 | some (false,.loop st pd _ _ _ _ _ _)=>st≠.busy/\(match pd with
   |none=>K .nrm (hdel s l)
   |some .ret=>K .ret (hdel s l)
   |some (.exit id)=>K (.exit id) (hdel s l)
   |some _=>False)
 |_=>False
def rndK(rnd:Option Nat)(s:Hq):Prop:=match rnd with
 |none=>True
 |some l=>jc l s
def nU(s:Hq)(x:AV):Option (Nat×Option Nat×Nat×Nat×List AEnt):=match x with
 | .ptr r 0=>match s r with
   |some (false,.iter none since [] stepped)=>cond (ble since stepped) (some (r,none,since,since,[])) none
   | some (false,.iter (some m) since [] stepped)=>match s m with
     |some (_,.map es c)=>cond (ble since stepped&&(ble since c&&(gp since es&&blt es.length 900))) (some (r,some m,since,c,es)) none
     |_=>none
   |_=>none
 |_=>none
def gQ(s0:Hq)(mo:Option Nat)(c:Nat)(es:List AEnt):Prop:=match mo with
 |none=>es=[]
 |some m=>∃t,s0 m=some (t,.map es c)
abbrev zS(st:MapStep)(env:Env)(e:AEnt):Env:=upd (upd env st.nx (.tup [true,e.key,e.val])) st.more true
abbrev zT(st:MapStep)(env:Env):Env:=upd (upd env st.nx (.tup [false])) st.more false
def KO(st:MapStep)(ls slots:List Nat)(body:Env->(AExit->Env->Hq->Prop)->Hq->Prop)(env:Env)(K:AExit->Env->Hq->Prop)(s:Hq):Prop:=
 oK (nU s (env st.it)) λp=>∃I:List Nat->List AV->Hq->Prop,I [] (ls.map env) (hdel s p.1)/\
  ∀(sn:List Nat) (f:Env) (s1:Hq),I sn (ls.map f) s1->s1 p.1=none->gQ s1 p.2.1 p.2.2.2.1 p.2.2.2.2/\
   (∀e∈p.2.2.2.2,hasN e.born sn=false->body (zS st (mixE slots f env) e) (λex env' s2=>match ex with
    | .nrm=>I (sn ++ [e.born]) (ls.map env') (hdel s2 p.1)
    |ex=>K ex env' (hdel s2 p.1)) (hset s1 p.1 (true,.iter p.2.1 p.2.2.1 (sn ++ [e.born]) p.2.2.2.1)))/\
   ((∀e∈p.2.2.2.2,hasN e.born sn=true)->body (zT st (mixE slots f env)) (λex env' s2=>match ex with
     | .nrm=>False
     |ex=>K ex env' s2) s1)
def tW(nt:Nat)(st:MapStep)(slots:List Nat):Bool:=(!memN st.it slots)&&((memN st.nx slots&&memN st.more slots)&&(blt st.nx nt&&blt st.more nt))
def nV(P:Program)(A:Nat->List Nat)(nt:Nat)(rnd:Option Nat)(f:AV)(ps:Array Tmp)(az bo:Code)(env:Env)(K:AExit->Hq->Prop)(s:Hq):Prop:=match f with
 | .fn (.func k) first cap=>isFn P k=true/\rndK rnd s/\∀l d,s l=none->wC P k (first ++ [.yield l]++cap) (λ_ s=>nS l K s) (hset s l (false,.loop .ready none nt ((A (2*iB bo+1)).map λi=>(i,env i)) ps.toList az bo d))
 |_=>False
def wpC(P:Program)(A:Nat->List Nat)(nt:Nat)(rnd:Option Nat):Code->Env->(AExit->Env->Hq->Prop)->Hq->Prop
 | .skip,env,K,s=>K .nrm env s
 | .region id ops draw,env,K,s=>cond draw (cond (drB P nt ops (jb P A id ops) (lkB (lkOf A id)) (laB (lkOf A id))) (i9 P nt ops (jb P A id ops) (lkOf A id) env (λenv s=>K .nrm env s) s) False)
   (cond (ops.toList.all λo=>okOp o.op) (opsE P nt ops.toList ops.toList [] env (λenv s=>K .nrm env s) s) False)
 | .seq a b,env,K,s=>wpC P A nt rnd a env (λe env s=>match e with
   | .nrm=>wpC P A nt rnd b env K s
   |e=>K e env s) s
 | .cond c a b,env,K,s=>cond (okX c) (ai (evD env c) (wpC P A nt rnd a env K s) (wpC P A nt rnd b env K s)) False
 | .block id b,env,K,s=>wpC P A nt rnd b env (λe env s=>match e with
   | .exit id'=>cond (beq id' id) (K .nrm env s) (K (.exit id') env s)
   |e=>K e env s) s
 | .loop b,env,K,s=>match iS b with
   | some st=>cond (tW nt st (assigned b)) (KO st (A (2*iB b)) (assigned b) (match b with
     | .seq _ r=>λenv K s=>wpC P A nt rnd r env K s
     |_=>λ_ _ _=>False) env K s) False
   |none=>nR (A (2*iB b)) (assigned b) (λenv K s=>wpC P A nt rnd b env K s) env K s
 | .exit id,env,K,s=>K (.exit id) env s
 | .ret,env,K,s=>K .ret env s
 | .rangeFunc f ps az bo,env,K,s=>cond (okX f) (nV P A nt rnd (evD env f) ps az bo env (λe s=>K e env s) s) False
 |_,_,_,_=>False
section
variable (P : Program)
def resK:List ResultVar->Env->(List AV->Prop)->Hq->Prop
 |[],_,k,_=>k []
 | .tmp t::rs,env,k,s=>resK rs env (λvs=>k (env t::vs)) s
 | .cell a t::rs,env,k,s=>dU P t (env a) (λv=>resK rs env (λvs=>k (v::vs)) s) s
end
def retK(e:AExit)(p:Prop):Prop:=match e with
 | .exit _=>False
 |_=>p
def mkH(ms:List Nat):Hq:=λi=>if i∈ms then some (false,.deferred true)else none
theorem tX:∀{l:List Oper}{o:Oper}{d:Nat},o∈l->o.dst=some d->d∈nQ l
 |[],_,_,h,_=>by cases h
 | p::l,o,d,h,hd=>by
   unfold nQ;rcases mCY h with rfl|h
   ·grind
   ·cases p.dst with
    |none=>exact tX h hd
    |some _=>exact mO _ (tX h hd)
theorem Ra{s:Hq}{x:AV}{r since c:Nat}{mo:Option Nat}{es:List AEnt}(h:nU s x=some (r,mo,since,c,es)):x=Pp r/\∃stepped,s r=some (false,.iter mo since [] stepped)/\since<=stepped/\since<=c/\gp since es=true/\es.length<900/\gQ (hdel s r) mo c es:=by
 unfold nU at h;split at h
 ·rename_i r'
  split at h
  ·rename_i since stepped hr
   cases e:ble since stepped with
   |false=>rw[e]at h;cases h
   | true=>
     rw[e]at h;cases h;exact⟨rfl,stepped,hr,le_of_ble_eq_true e,Nat.le_refl _,rfl,sI,rfl⟩
  ·rename_i m since stepped hr
   split at h
   ·rename_i t es' c hm
    cases e:(ble since stepped&&(ble since c&&(gp since es'&&blt es'.length 900)))with
    |false=>rw[e]at h;cases h
    | true=>
      rw[e]at h;cases h;simp only[Bool.and_eq_true,blt_eq]at e;refine⟨rfl,stepped,hr,le_of_ble_eq_true e.1,le_of_ble_eq_true e.2.1,e.2.2.1,e.2.2.2,t,?_⟩;show(if m=r then none else s m)=_
      grind
   ·cases h
  ·cases h
 ·cases h
theorem KP{b:Code}{st:MapStep}(h:iS b=some st):∃a,b=.seq a st.rest:=by
 unfold iS at h
 grind
theorem KQ{w:World}{B:Nat}{o0:Obj}(o:Obj)(h:w.heap[B]?=some o0):Upd w B o (w.putObj B o):=
 ⟨rfl,rfl,rfl,sI,World.putObj_heap_same (mI h),λ_ hk=>World.putObj_heap_other hk⟩
def DRel(ρ:Ren):List Nat->List Deferred->List Deferred->Prop
 |[],ds,ds0=>ds=ds0
 |m::ms,ds,ds0=>∃L ds',ρ m=some L/\ds={ target:=.collected L.blk,args:=#[] }::ds'/\DRel ρ ms ds' ds0
theorem DRel.mono{ρ ρ':Ren}(h:Le ρ ρ'){ds0:List Deferred}:∀{ms:List Nat}{ds:List Deferred},DRel ρ ms ds ds0->DRel ρ' ms ds ds0
 |[],_,r=>r
 |_::_,_,⟨L,ds',h1,h2,h3⟩=>⟨L,ds',h _ _ h1,h2,DRel.mono h h3⟩
def Ms(ρ:Ren)(t t1 s:Hq)(ds0 ds:List Deferred):Prop:=∃ms:List Nat,t1=add t (mkH ms)/\(∀i∈ms,t i=none/\s i=none)/\ms.Nodup/\DRel ρ ms ds ds0
structure SG(ρ ρ':Ren)(base:Nat)(s s' t t2:Hq)(w w':World):Prop where
 le:Le ρ ρ'
 below:Below base w w'
 pers:Pers s s'
 fit:Fit ρ' base s' t2 w'
 nw:∀i,t i≠none->s i=none->s' i=none
section
variable {P:Program} {A:Nat→List Nat} {nt base:Nat} {rnd:Option Nat} {ρ ρ' ρ1 ρ2:Ren} {s s' s1 s2 t t1 t2:Hq} {w w' w1 w2:World} {ds0 ds:List Deferred} {env:Env} {a:Act}
theorem kP{ms:List Nat}{i:Nat}(h:i∈ms):mkH ms i=some (false,.deferred true):=if_pos h
theorem zU{ms:List Nat}{i:Nat}(h:i ∉ ms):mkH ms i=none:=if_neg h
theorem Ms.nil:Ms ρ t t s ds ds:=⟨[],by funext i;unfold add;cases t i<;>rfl,(λ_ h=>nomatch h),.nil,rfl⟩
theorem Ms.step(h:Ms ρ t t1 s ds0 ds)(st:Stp ρ ρ' base s s' t1 w w'):Ms ρ' t t1 s' ds0 ds:=by obtain⟨ms,rfl,h1,h2,h3⟩:=h;exact⟨ms,rfl,λi hi=>⟨(h1 i hi).1,st.nw i (by rw[aV (h1 i hi).1,kP hi];simp) (h1 i hi).2⟩,h2,h3.mono st.le⟩
theorem Ms.sub(h:Ms ρ t t1 s ds0 ds)(hs:∀i,s i=none->s' i=none):Ms ρ t t1 s' ds0 ds:=by obtain⟨ms,rfl,h1,h2,h3⟩:=h;exact⟨ms,rfl,λi hi=>⟨(h1 i hi).1,hs i (h1 i hi).2⟩,h2,h3⟩
theorem Ms.fr(h:Ms ρ t t1 s ds0 ds){i:Nat}(hi:t i≠none):t1 i=t i:=by
 obtain⟨ms,rfl,h1,h2,h3⟩:=h;cases q:t i with
 |none=>exact absurd q hi
 |some x=>exact bJ q
theorem SG.refl(h:Fit ρ base s t1 w):SG ρ ρ base s s t t1 w w:=⟨.refl _,.refl _ _,.refl _,h,λ_ _ h=>h⟩
theorem SG.trans(h:SG ρ ρ1 base s s1 t t1 w w1)(k:SG ρ1 ρ2 base s1 s2 t t2 w1 w2):SG ρ ρ2 base s s2 t t2 w w2:=
 ⟨h.le.trans k.le,h.below.trans k.below,h.pers.trans k.pers,k.fit,λi a b=>k.nw i a (h.nw i a b)⟩
theorem SG.of(h:Stp ρ ρ' base s s' t1 w w')(hm:Ms ρ t t1 s ds0 ds):SG ρ ρ' base s s' t t1 w w':=
 ⟨h.le,h.below,h.pers,h.fit,λi a b=>h.nw i (by rw[hm.fr a];exact a) b⟩
theorem Fit.drop(h:Fit ρ base s t1 w)(hs:Sub t t1)(hn:∀i,t i=none->t1 i≠none->s i=none):Fit ρ base s t w:=
 ⟨h.wr.sub λi e hi=>by
  cases q:t i with
  |some x=>rw[bJ q]at hi;cases hi;exact bJ (hs i _ q)
  | none=>
    rw[aV q]at hi;cases q2:t1 i with
    |none=>grind [aV]
    |some y=>grind,λi x hx=>h.fr i x (hs i x hx)⟩
theorem Stp.hide{id:Nat}{b:Blk}(h:Stp ρ ρ' base s (hset s id (false,b)) t w w')(hs:s id=none):t id=none/\Fit ρ' base s (hset t id (false,b)) w':=by
 have ht:t id=none:=by
  cases q:t id with
  |none=>rfl
  |some x=>have:=h.nw id (by rw[q];simp) hs;grind [cr]
 refine⟨ht,?_,λi x hx=>?_⟩
 ·have e:add (hset t id (false,b)) s=add t (hset s id (false,b)):=by
   grind [cr,add,bg]
  rw[e];exact h.fit.wr
 ·by_cases q:i=id
  ·subst q;exact .inl hs
  ·rw[bg q]at hx
   have:=h.fit.fr i x hx
   grind [bg]
def noRF:Code->Bool
 | .seq a b=>noRF a&&noRF b
 | .cond _ a b=>noRF a&&noRF b
 | .block _ b=>noRF b
 | .loop b=>noRF b
 | .rangeFunc _ _ _ _=>false
 |_=>true
def Off(c:Code)(env env':Env)(d d':List Deferred):Prop:=(∀j,j ∉ assigned c->env' j=env j)/\(noRF c=true->d'=d)
def CW(P:Program)(nt:Nat)(rnd:Option Nat)(c:Code)(env:Env)(K:AExit->Env->Hq->Prop)(s:Hq):Prop:=Grd P->∀(t t1:Hq) (ρ:Ren) (base:Nat) (w:World) (a:Act) (r:Option Nat) (ds0:List Deferred) (Q:Exit->Act->World->Prop),
 Fit ρ base s t1 w->ER ρ nt env a.tmps->RR ρ rnd r->Ms ρ t t1 s ds0 a.defers->
 (∀e env' s' ρ' a' w' t2,K e env' s'->Off c env env' a.defers a'.defers->SG ρ ρ' base s s' t t2 w w'->ER ρ' nt env' a'.tmps->Ms ρ' t t2 s' ds0 a'.defers->Q (gP e) a' w')->c.wpIn (FR r) 0 P Q a w
def eZ(P:Program)(A:Nat->List Nat)(nt:Nat)(rnd:Option Nat)(c:Code):Prop:=∀(env:Env) (K:AExit->Env->Hq->Prop) (s:Hq),wpC P A nt rnd c env K s->CW P nt rnd c env K s
theorem jd{c:Code}{e:AExit}(hc:∀(r:Option Nat) (Q:Exit->Act->World->Prop) (a:Act) (w:World),Q (gP e) a w->c.wpIn (FR r) 0 P Q a w){K:AExit->Env->Hq->Prop}(h:K e env s):CW P nt rnd c env K s:=
 λ_ _ t1 ρ _ w a r _ Q hf hT hr hd hQ=>hc r Q a w (hQ e env s ρ a w t1 h ⟨λ_ _=>rfl,λ_=>rfl⟩ (.refl hf) hT hd)
theorem zV{id:Nat}{ops:Array Oper}{draw:Bool}:eZ P A nt rnd (.region id ops draw):=by
 intro env K s h g t t1 ρ base w a r ds0 Q hf hT hr hd hQ;unfold wpC at h;cases draw with
 | true=>
   cases hdr:drB P nt ops (jb P A id ops) (lkB (lkOf A id)) (laB (lkOf A id))with
   |false=>grind
   | true=>
     rw[hdr,cond_true]at h;have ⟨dk,hnB⟩:=zR hdr;exact zQ g dk hnB g.mixed hT hf h λe s' ρ' a' w' k1 k2 k3 k4 k5=>hQ .nrm e s' ρ' a' w' t1 k1 ⟨λj hj=>k2 j λi o ho hd=>hj (tX gR hd),λ_=>k5⟩ (.of k3 hd) k4 (by rw[k5];exact hd.step k3)
 | false=>
   cases hok:(ops.toList.all λo=>okOp o.op)with
   |false=>grind
   | true=>
     rw[hok,cond_true]at h;refine wpIn_region ?_;rw[range_eq_range'];have:=tR (r:=r) (ops:=ops) (Q:=Q) (K:=λenv s=>K .nrm env s) g [] ops.toList 0 [] env s ρ w a (λj _=>sI) hok .nil h hf hT λenv' s' ρ' a' w' k1 k3 k4 k5 k6=>show Q .normal a' w' from hQ .nrm env' s' ρ' a' w' t1 k1 ⟨λj hj=>k3 j λo ho hd=>hj (tX ho hd),λ_=>k6⟩ (.of k4 hd) k5 (by rw[k6];exact hd.step k4)
     simpa using this
theorem seqW{x y:Code}(ha:eZ P A nt rnd x)(hb:eZ P A nt rnd y):eZ P A nt rnd (.seq x y):=by
 intro env K s h g t t1 ρ base w a r ds0 Q hf hT hr hd hQ;refine wpIn_seq (ha env _ s h g t t1 ρ base w a r ds0 _ hf hT hr hd λe env1 s1 ρ1 a1 w1 u1 k1 k3 k4 k5 k6=>?_);cases e with
 | nrm=>
   refine hb env1 K s1 k1 g t u1 ρ1 base w1 a1 r ds0 Q k4.fit k5 (hr.mono k4.le) k6 λe env2 s2 ρ2 a2 w2 u2 j1 j3 j4 j5 j6=>?_;exact hQ e env2 s2 ρ2 a2 w2 u2 j1 ⟨λj hj=>by simp only[assigned,mem_append,not_or]at hj;exact(j3.1 j hj.2).trans (k3.1 j hj.1),λq=>(j3.2 (Bool.and_eq_true_iff.1 q).2).trans (k3.2 (Bool.and_eq_true_iff.1 q).1)⟩ (k4.trans j4) j5 j6
 |exit id=>exact hQ _ env1 s1 ρ1 a1 w1 u1 k1 ⟨λj hj=>by simp only[assigned,mem_append,not_or]at hj;exact k3.1 j hj.1,λq=>k3.2 (Bool.and_eq_true_iff.1 q).1⟩ k4 k5 k6
 |ret=>exact hQ _ env1 s1 ρ1 a1 w1 u1 k1 ⟨λj hj=>by simp only[assigned,mem_append,not_or]at hj;exact k3.1 j hj.1,λq=>k3.2 (Bool.and_eq_true_iff.1 q).1⟩ k4 k5 k6
theorem zW{c:Operand}{x y:Code}(ha:eZ P A nt rnd x)(hb:eZ P A nt rnd y):eZ P A nt rnd (.cond c x y):=by
 intro env K s h g t t1 ρ base w a r ds0 Q hf hT hr hd hQ;unfold wpC at h;cases hok:okX c with
 |false=>grind
 | true=>
   rw[hok,cond_true]at h;have hv:=eX hT hok;unfold ai at h;split at h
   ·rename_i e
    rw[e]at hv;exact wpIn_cond hv (ha env K s h g t t1 ρ base w a r ds0 Q hf hT hr hd λe env' s' ρ' a' w' t2 k1 k2=>hQ e env' s' ρ' a' w' t2 k1 ⟨λj hj=>k2.1 j λq=>hj (by simp[assigned,q]),λq=>k2.2 (Bool.and_eq_true_iff.1 q).1⟩)
   ·rename_i e
    rw[e]at hv;exact wpIn_cond hv (hb env K s h g t t1 ρ base w a r ds0 Q hf hT hr hd λe env' s' ρ' a' w' t2 k1 k2=>hQ e env' s' ρ' a' w' t2 k1 ⟨λj hj=>k2.1 j λq=>hj (by simp[assigned,q]),λq=>k2.2 (Bool.and_eq_true_iff.1 q).2⟩)
   ·exact h.elim
theorem zX{id:Nat}{b:Code}(hb:eZ P A nt rnd b):eZ P A nt rnd (.block id b):=by
 intro env K s h g t t1 ρ base w a r ds0 Q hf hT hr hd hQ;refine wpIn_block (hb env _ s h g t t1 ρ base w a r ds0 _ hf hT hr hd λe env1 s1 ρ1 a1 w1 u1 k1 k3 k4 k5 k6=>?_);cases e with
 | exit id'=>
   simp only at k1;cases hb:beq id' id with
   | false=>
     rw[hb]at k1;have e:id'≠id:=λe=>by subst e;simp at hb
     show(if id'=id then _ else _);rw[if_neg e];exact hQ (.exit id') env1 s1 ρ1 a1 w1 u1 k1 k3 k4 k5 k6
   | true=>
     rw[hb]at k1;show(if id'=id then _ else _);rw[if_pos (bE hb)];exact hQ .nrm env1 s1 ρ1 a1 w1 u1 k1 k3 k4 k5 k6
 |nrm=>exact hQ .nrm env1 s1 ρ1 a1 w1 u1 k1 k3 k4 k5 k6
 |ret=>exact hQ .ret env1 s1 ρ1 a1 w1 u1 k1 k3 k4 k5 k6
theorem nW{l:List Nat}{env1:Env}(h:∀j,j ∉ l->env1 j=env j):mixE l env1 env=env1:=by
 grind [mixE,fW]
theorem zY{b:Code}(hb:eZ P A nt rnd b){ls:List Nat}{K:AExit->Env->Hq->Prop}(h:nR ls (assigned b) (λenv K s=>wpC P A nt rnd b env K s) env K s):CW P nt rnd (.loop b) env K s:=by
 intro g t t1 ρ base w a r ds0 Q hf hT hr hd hQ;have ⟨I,⟨m,h0⟩,hstep⟩:=h;refine wpIn_loop_rounds (m+1) ?_;have key:∀(k m:Nat) (env1:Env) (s1:Hq) (ρ1:Ren) (a1:Act) (w1:World) (u1:Hq),m<k->I (ls.map env1) s1 m->Off b env env1 a.defers a1.defers->SG ρ ρ1 base s s1 t u1 w w1->ER ρ1 nt env1 a1.tmps->Ms ρ1 t u1 s1 ds0 a1.defers->Code.roundsIn (FR r) 0 P b Q k a1 w1:=by
  intro k
  induction k with
  |zero=>grind
  | succ k ih=>
    intro m env1 s1 ρ1 a1 w1 u1 hm hI hoff st hT1 hd1;have hbody:=hstep env1 s1 m hI;rw[nW hoff.1]at hbody;refine hb env1 _ s1 hbody g t u1 ρ1 base w1 a1 r ds0 _ st.fit hT1 (hr.mono st.le) hd1 λe env2 s2 ρ2 a2 w2 u2 k1 k3 k4 k5 k6=>?_;have hoff2:Off b env env2 a.defers a2.defers:=⟨λj hj=>(k3.1 j hj).trans (hoff.1 j hj),λq=>(k3.2 q).trans (hoff.2 q)⟩
    cases e with
    | nrm=>
      have ⟨m',hlt,hI'⟩:=k1;exact ih m' env2 s2 ρ2 a2 w2 u2 oM hI' hoff2 (st.trans k4) k5 k6
    |exit id=>exact hQ _ env2 s2 ρ2 a2 w2 u2 k1 hoff2 (st.trans k4) k5 k6
    |ret=>exact hQ _ env2 s2 ρ2 a2 w2 u2 k1 hoff2 (st.trans k4) k5 k6
 exact key (m+1) m env s ρ a w t1 (lt_succ_self _) h0 ⟨λ_ _=>rfl,λ_=>rfl⟩ (.refl hf) hT hd
end
end Go.AM
