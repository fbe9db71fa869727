/- Part G of the proof: see the last part. -/
import Derived.Test.YtcmcofklcgafiaaGreatE
import Derived.Test.YtcmcofklcgafiaaGreatC
import Derived.Test.YtcmcofklcgafiaaGreatV
open Go renaming IntKind→aA,TypeId→ah
open List renaming getElem?_append_left→da,getElem?_append_right→ez,getElem?_map→cq,getElem_mem→aN,map_append→bM,map_cons→cL,map_take→du,pairwise_append→fh,pairwise_cons→aB,pairwise_iff_getElem→cE,take_add_one→bO
set_option linter.unusedVariables false
namespace Go.AM.RT
open Go Go.Proofs List Nat
set_option maxRecDepth 100000
variable{K:AV→Hq→Prop}{s s' t o rd st rt:Hq}{p wm d f N x:Nat}{lf sp la dl:Int}{lv mv uv dv v hv:AV}{tk:Bool}{F:List (Int × LS.Rec)}{U U':List Bool}{L:List LS.Lnk}{Bf:Nat→List Int}{X:List Hq}
abbrev tL(L:List LS.Lnk):List Lnk:=L.map toL
structure Pln(N:Nat)(L:List LS.Lnk)(lf sp:Int):Prop where
 n:1<=N/\N<=32
 l:L.length<=64
 ok:∀y∈L,okL (N:Int) y
 ls:lf+sp=(N:Int)/\0<=lf/\0<=sp
theorem Pln.vld(z:Pln N L lf sp)(h:U.length=L.length):vld (N:Int) L U:=⟨by have:=z.n;omega,by have:=z.n;omega,by have:=z.l;omega,h,z.ok⟩
abbrev pC(p:Nat)(x:Nat)(lf sp:Int)(lv mv:AV)(wm d f:Nat)(tk:Bool)(la:Int)(uv dv:AV):Hq:=one p (false,.cells 75 (roC (x:Int) (lbk x) lf sp lv mv wm d f tk la uv dv))
theorem uW{p:Nat}{c c':Bool×Blk}:hset (one p c) p c'=one p c':=by
 grind [dT,cG,one]
theorem Jf{rt:Hq}{Bf:Nat->List Int}(z:FB.Tab rt f N x L U Bf):rt f≠none:=by have ⟨H,mb,lv,ev,R,ws,Mf,h1,_⟩:=z.ex;rw[h1.cf];simp
theorem Sep.fresh{s s':Hq}{l:List Hq}(z:Sep s l)(k:Sub s s'){c:Nat}{x:Bool×Blk}(hc:s c=none)(h:s' c=some x):Sep s' (one c x::l):=by
 have z':=z.more k;refine⟨λa ha=>?_,aB.2 ⟨λa ha i hi=>?_,z'.dj⟩⟩;rcases mCY ha with e|ha;rw[e];intro i e hi;have:=jl (c:=c) (x:=x) (i:=i) (by rw[hi];simp)
 grind [bW]
 exact z'.sub a ha;rw[jl hi];exact dU (z.sub a ha) hc
theorem Sep.take2{a b c:Hq}{l:List Hq}(z:Sep s (a::b::c::l)):Sep s (b::add a c::l):=by
 have z1:=z.perm (List.Perm.swap b a (c::l));have h:=(aB.1 z1.dj)
 have z2:Sep s (add a c::l):=Sep.join ⟨λy hy=>z1.sub y (mO _ hy),h.2⟩;refine⟨λy hy=>?_,aB.2 ⟨λy hy i hi=>?_,z2.dj⟩⟩;rcases mCY hy with e|hy;rw[e];exact z1.sub b sI;exact z2.sub y hy;rcases mCY hy with e|hy;rw[e];rw[cC (h.1 a sI i hi)];exact h.1 c sI i hi;exact h.1 y (by simp[hy]) i hi
theorem lD{a b:Hq}(h:Dj a b):Sub b (add a b):=λi e hi=>by rw[cC (h.symm i (by rw[hi];simp))];exact hi
structure DsAt(st:Hq)(dv:AV)(N:Nat)(L:List LS.Lnk)(U:List Bool)(x:Nat):Prop where
 ex:∃dd:Nat->Int,IsDist N (tL L) U x dd/\(∀m,m<N->-1<=dd m/\dd m<=32000)/\Sl st dv (AM.dl N dd)
theorem DsAt.sub{st':Hq}(z:DsAt st dv N L U x)(k:Sub st st'):DsAt st' dv N L U x:=by have ⟨dd,h1,h2,h3⟩:=z.ex;exact⟨dd,h1,h2,h3.sub k⟩
theorem SH(P:Pln N L lf sp)(hx:x<N)(hU:U'.length=L.length)(z:Sep s (pC p x lf sp lv mv wm d f tk la uv dv::st::rt::X))(hl:SlR 3 st lv (L.map LS.lnR))(hu:Sl st v (U'.map AV.bool))(zt:FB.Tab rt f N x L U Bf)
  (hK:∀s' st' rt' dv' Bf',Sep s' (pC p x lf sp lv mv wm d f tk la v dv'::st'::rt'::X)->Sub st st'->FB.Tab rt' f N x L U' Bf'->DsAt st' dv' N L U' x->K (.tup []) s'):wC TP 68 [Pp p,v] K s:=by
 have hp:Hc s p 75 (roC (x:Int) (lbk x) lf sp lv mv wm d f tk la uv dv):=z.sub (pC p x lf sp lv mv wm d f tk la uv dv) sI _ _ bW;refine Z4 ?_;unfold Re;simp only[bQ,ae,aK,zAY];refine cw hp sI (Sl.one hu) λs1 h1 u1=>?_;have h1:Hc s1 p 75 (roC (x:Int) (lbk x) lf sp lv mv wm d f tk la v dv):=h1;have z1:=Sep.wr1 z u1 (by simp_all [bW]) h1;rw[uW]at z1;simp only[au h1,g1Y,g0Y,ae];have sst:=z1.sub st sI;have srt:=z1.sub rt sI;have hdj:Dj st rt:=(aB.1 (aB.1 z1.dj).2).1 rt sI;refine FB.HV zt srt (P.vld hU) hx P.l (hu.sub sst) (λb o n c e hne q=>?_) λrt' s2 Bf' zt' g _=>?_
 ·rcases hu with⟨q2,_⟩|⟨b',o',c',q2,_,q3⟩
  ·rw[e]at q2;cases q2
  ·rw[e]at q2;cases q2
   have ⟨t1,e1,cs,q4,_⟩:=q3 hne;exact Jf zt (by rw[<- q];exact hdj b (by rw[q4];simp))
 have z2:=Sep.goes (l1:=[pC p x lf sp lv mv wm d f tk la v dv,st]) (l2:=X) z1 g;have h2:Hc s2 p 75 (roC (x:Int) (lbk x) lf sp lv mv wm d f tk la v dv):=z2.sub (pC p x lf sp lv mv wm d f tk la v dv) sI _ _ bW;refine⟨s2,.refl s2,?_⟩;simp only[au h2,g1Y,g0Y,ae];rw[gT];refine IL (t:=true) (eK h2) ⟨P.ls.2.1,by have:=P.n;have:=P.ls;omega⟩ ⟨P.ls.2.2,by have:=P.n;have:=P.ls;omega⟩ ?_;rw[ke];rw[P.ls.1];have s2st:=z2.sub st sI;refine pD (L:=L) (hl.sub s2st) (by have:=P.l;omega) (hu.sub s2st) λdv' s3 sub3 _ hd=>?_;obtain⟨dd,b,i1,i2,rfl,hb,h3⟩:=hd N x (P.vld hU) rfl hx rfl;have z3:=z2.fresh sub3 hb h3;have hn:st b=none:=dU s2st hb;refine cw (sub3 _ _ h2) sI rfl λs4 h4 u4=>?_;have z4:=Sep.wr (l1:=[one b (false,.cells 3 (AM.dl N dd))]) z3 u4 (by simp_all [bW]) h4;unfold pC at z4;rw[uW]at z4;have hdj2:Dj (one b (false,.cells 3 (AM.dl N dd))) st:=(aB.1 z3.dj).1 st sI;refine hK s4 (add (one b (false,.cells 3 (AM.dl N dd))) st) rt' _ Bf' (Sep.take2 z4) (lD hdj2) zt' ⟨dd,i1,i2,?_⟩;exact Sl.mk (cU bW) (by simp[AM.dl]) (by grind [AM.dl])
theorem qZ8(P:Pln N L lf sp)(hx:x<N)(hU:U.length=L.length)(z:Sep s (pC p x lf sp lv mv wm d f tk la uv dv::st::rt::rd::X))(hl:SlR 3 st lv (L.map LS.lnR))(hu:Sl st uv (U.map AV.bool))(zt:FB.Tab rt f N x L U Bf)(zd:DbAt rd d N x dl F)(hasc:LS.AscF F)(hds:DsAt st dv N L U x)
  (hK:∀s' st' rt' uv' dv' Bf',Sep s' (pC p x lf sp lv mv wm d f tk la uv' dv'::st'::rt'::rd::X)->Sub st st'->FB.Tab rt' f N x L (LS.fw (LS.lsB F) L) Bf'->Sl st' uv' ((LS.fw (LS.lsB F) L).map AV.bool)->DsAt st' dv' N L (LS.fw (LS.lsB F) L) x->K (.tup []) s'):wC TP 51 [Pp p] K s:=by
 have hp:Hc s p 75 (roC (x:Int) (lbk x) lf sp lv mv wm d f tk la uv dv):=z.sub (pC p x lf sp lv mv wm d f tk la uv dv) sI _ _ bW;have ⟨m,zd⟩:=zd;have srd:=z.sub rd sI;have sst:=z.sub st sI;refine Z5 ?_;unfold Rf;simp only[bQ,ae,aK,zAY,au hp,g1Y,g0Y];refine LS.uI (lC zd srd) hasc (hl.sub sst) (by have:=P.l;omega) λv s1 sub1 hv hf=>?_;simp only[au (sub1 _ _ hp),g1Y,g0Y,ae];have hvl:(LS.fw (LS.lsB F) L).length=L.length:=by unfold LS.fw;rw[aj (by have:=P.l;omega)];simp
 refine Je hv ((hu.sub sst).sub sub1) (by rw[hvl];have:=P.l;omega) ?_;simp only[cQ,ae];refine aL (λhne=>?_) (λheq=>?_)
 ·
  obtain⟨nb,hnb,hz⟩:∃nb:Hq,Sl nb v ((LS.fw (LS.lsB F) L).map AV.bool)/\Sep s1 (nb::pC p x lf sp lv mv wm d f tk la uv dv::st::rt::rd::X):=by
   rcases hv with⟨e1,e2⟩|⟨b,o,c,e1,e2,e3⟩
   ·refine⟨λ_=>none,.inl ⟨e1,e2⟩,⟨λy hy=>?_,aB.2 ⟨λy hy i hi=>absurd rfl hi,z.dj⟩⟩⟩
    rcases mCY hy with e|hy
    ·rw[e];intro i e hi;cases hi
    exact(z.sub y hy).trans sub1
   by_cases hn:(LS.fw (LS.lsB F) L).map AV.bool=[]
   grind
   have ⟨t1,el,cs,q1,q2,q3⟩:=e3 hn;exact⟨one b (t1,.cells el cs),.inr ⟨b,o,c,e1,e2,(by grind [bW])⟩,z.fresh sub1 (hf _ _ _ _ e1) q1⟩
  have hd2:Dj nb st:=(aB.1 hz.dj).1 st sI;have z2:=Sep.take2 hz;refine SH P hx hvl z2 (hl.sub (lD hd2)) (hnb.sub λi e hi=>cU hi) zt λs' st' rt' dv' Bf' z' k zt' ds'=>?_;exact hK s' st' rt' v dv' Bf' z' ((lD hd2).trans k) zt' ((hnb.sub λi e hi=>cU hi).sub k) ds'
 grind [Sep.more,Sub.refl]
variable{r rv0:Hq}{now:Int}{wl:Wb}{W:Nat→DT.Wt}
structure Ro where
 W:Nat->DT.Wt
 tk:Bool
 la:Int
 dl:Int
 F:List (Int×LS.Rec)
 U:List Bool
 M:List Bool
def ownL(L:List LS.Lnk)(x:Nat):List Nat:=(List.range L.length).filter λi=>owB L (x:Int) (i:Int)
def MsAt(st:Hq)(mv:AV)(x:Nat)(M:List Bool):Prop:=∃vs,Sl st mv vs/\vs.length<=32/\(M≠[]->vs.length=M.length/\∀i:Nat,M[i]?=some true->∃v l,vs[i]?=some v/\LS.Sli st v l/\l.length<=72/\(x:Int)∈l)
theorem MsAt.sub{M:List Bool}{st':Hq}(h:MsAt st mv x M)(k:Sub st st'):MsAt st' mv x M:=by have ⟨vs,h1,h2,h3⟩:=h;refine⟨vs,h1.sub k,h2,λhm=>⟨(h3 hm).1,λi hi=>?_⟩⟩;have ⟨v,l,a,b,c⟩:=(h3 hm).2 i hi;exact⟨v,l,a,b.sub k,c⟩
structure Pt(N:Nat)(L:List LS.Lnk)(x:Nat)(M:List Bool)(W:Nat->DT.Wt)(dl:Int)(F:List (Int×LS.Rec))(U:List Bool)(st rv0 rd rt:Hq)(wl:Wb)(wm d f:Nat)(lv mv uv dv:AV):Prop where
 l:SlR 3 st lv (L.map LS.lnR)
 m:MsAt st mv x M
 u:Sl st uv (U.map AV.bool)
 ds:DsAt st dv N L U x
 ws:WsAt rv0 wm wl W
 wk:wl.map (·.1)=ownL L x
 db:DbAt rd d N x dl F
 tb:∃Bf,FB.Tab rt f N x L U Bf
structure RoAt(N:Nat)(L:List LS.Lnk)(lf sp:Int)(x:Nat)(r:Hq)(p:Nat)(S:Ro):Prop where
 ex:∃(st rv0 rd rt:Hq) (wl:Wb) (wm d f:Nat) (lv mv uv dv:AV),Sep r [pC p x lf sp lv mv wm d f S.tk S.la uv dv,st,rv0,rd,rt]/\Pt N L x S.M S.W S.dl S.F S.U st rv0 rd rt wl wm d f lv mv uv dv
theorem RoAt.sub{S:Ro}{r':Hq}(z:RoAt N L lf sp x r p S)(k:Sub r r'):RoAt N L lf sp x r' p S:=by have ⟨st,rv0,rd,rt,wl,wm,d,f,lv,mv,uv,dv,h1,h2⟩:=z.ex;exact⟨st,rv0,rd,rt,wl,wm,d,f,lv,mv,uv,dv,h1.more k,h2⟩
def joinL(l:List Hq):Hq:=l.foldr add λ_=>none
theorem SI{a:Hq}{l:List Hq}:joinL (a::l)=add a (joinL l):=rfl
theorem Jg{a:Hq}:∀{l:List Hq},(∀h∈l,Dj a h)->Dj a (joinL l)
 |[],_=>λi _=>rfl
 | b::l,h=>λi hi=>by
   rw[SI,cC (h b sI i hi)];exact Jg (λy hy=>h y (by simp[hy])) i hi
theorem uX:∀{l:List Hq},l.Pairwise Dj->Sep (joinL l) l
 |[],_=>⟨λh hh=>by simp at hh,.nil⟩
 | a::l,h=>by
   have ⟨h1,h2⟩:=aB.1 h;refine⟨λy hy=>?_,h⟩;rcases mCY hy with rfl|hy
   ·exact λi e hi=>cU hi
   ·exact((uX h2).sub y hy).trans (lD (Jg h1))
theorem Sep.joinL:∀{l m:List Hq},Sep s (l++m)->Sep s (RT.joinL l::m)
 |[],m,z=>⟨λh hh=>by
   rcases mCY hh with e|hh
   ·rw[e];intro i e hi;cases hi
   ·exact z.sub h hh,aB.2 ⟨λa ha i hi=>absurd rfl hi,z.dj⟩⟩
 | a::l,m,z=>by
   have z1:=Sep.joinL (l:=l) (m:=m) (Sep.drop (b:=a) z);have ha:=(aB.1 (show(a::(l++m)).Pairwise Dj from z.dj)).1;rw[SI];refine Sep.join ⟨λh hh=>?_,aB.2 ⟨λy hy=>?_,z1.dj⟩⟩
   ·rcases mCY hh with e|hh
    ·rw[e];exact z.sub a sI
    ·exact z1.sub h hh
   ·rcases mCY hy with e|hy
    ·rw[e];exact Jg λh hh=>ha h (by simp[hh])
    grind
theorem Sep.unjoin{l m:List Hq}(hl:l.Pairwise Dj)(z:Sep s (RT.joinL l::m)):Sep s (l++m):=by
 have ⟨h1,h2⟩:=aB.1 z.dj;have hj:=(uX hl).sub;refine⟨λh hh=>?_,fh.2 ⟨hl,h2,λa ha b hb i hi=>?_⟩⟩
 ·rcases mP hh with hh|hh
  ·exact(hj h hh).trans (z.sub _ sI)
  ·exact z.sub h (by simp[hh])
 ·refine h1 b hb i ?_
  cases q:a i with
  |none=>exact absurd q hi
  |some y=>rw[hj a ha i y q];simp
def Wn(own:List Nat)(W:Nat->DT.Wt)(now:Int)(heard:List Int)(n:Nat):DT.Wt:=if n∈own then DT.gW (W n) now (decide ((n:Int)∈heard))else W n
def rsn(own:List Nat)(W:Nat->DT.Wt)(now:Int)(heard:List Int)(n:Nat):Bool:=decide (n∈own)&&(DT.eT (W n) now (decide ((n:Int)∈heard))&&(DT.gW (W n) now (decide ((n:Int)∈heard))).up)
def ups(own:List Nat)(W:Nat->DT.Wt):List Int:=(own.filter λn=>(W n).up).map λ(n:Nat)=>(n:Int)
def ntsL(own:List Nat)(up:Nat->Bool)(ch:Nat->List LS.Rec):List Ntc:=own.flatMap λn=>if up n=true then(ch n).map λr=>(n,r)else[]
theorem Jh{heard:List Int}:Wk wl W now heard wl.length=Wn (wl.map (·.1)) W now heard:=by
 grind [Wk,Wn]
theorem Ji{heard:List Int}:risen wl W now heard wl.length=rsn (wl.map (·.1)) W now heard:=by
 grind [risen,rsn]
theorem uY:upL wl W=ups (wl.map (·.1)) W:=by unfold upL lks ups;rw[filter_map,map_map];rfl
theorem Jj{up:Nat->Bool}{ch:Nat->List LS.Rec}:gX wl up ch=ntsL (wl.map (·.1)) up ch:=by unfold gX ntsL;rw[flatMap_map]
def gM(x:Nat)(own:List Nat)(S:Ro)(now:Int)(heard:List Int):LS.OwnG:=LS.ownR (x:Int) S.dl S.F (ups own (Wn own S.W now heard))
def iO(x:Nat)(L:List LS.Lnk)(S:Ro)(now:Int)(heard:List Int):Ro:=
 ⟨Wn (ownL L x) S.W now heard,true,now,(gM x (ownL L x) S now heard).last,(gM x (ownL L x) S now heard).F,LS.fw (LS.lsB (gM x (ownL L x) S now heard).F) L,S.M⟩
def gD(x:Nat)(L:List LS.Lnk)(S:Ro)(now:Int)(heard:List Int):List Ntc:=
 ntsL (ownL L x) (λn=>(Wn (ownL L x) S.W now heard n).up) (chT now (rsn (ownL L x) S.W now heard) (gM x (ownL L x) S now heard).F (if(gM x (ownL L x) S now heard).err=0 then(gM x (ownL L x) S now heard).nw else false) (gM x (ownL L x) S now heard).r)
variable{w:AV}{l m:List Hq}
theorem Sep.into(z:Sep s (r::m))(y:Sep r l):Sep s (l++m):=by
 have ⟨h1,h2⟩:=aB.1 z.dj;refine⟨λh hh=>?_,fh.2 ⟨y.dj,h2,λa ha b hb i hi=>h1 b hb i ?_⟩⟩;rcases mP hh with hh|hh;exact(y.sub h hh).trans (z.sub _ sI);exact z.sub h (by simp[hh])
 ·cases q:a i with
  |none=>exact absurd q hi
  |some e=>rw[y.sub a ha i e q];simp
theorem Sep.lst{L:List Int}(z:Sep s l)(h:LS.Sli s v L)(hf:∀b o n c,v=.slc b o n c 1->L≠[]->∀y∈l,y b=none):∃nb,LS.Sli nb v L/\Sep s (nb::l):=by
 have no:(v=.nilslc∨L=[] )->LS.Sli (λ_=>none) v L->∃nb,LS.Sli nb v L/\Sep s (nb::l):=λ_ h=>⟨λ_=>none,h,⟨λy hy=>by
  rcases mCY hy with e|hy
  ·rw[e];intro i e hi;cases hi
  exact z.sub y hy,aB.2 ⟨λy hy i hi=>absurd rfl hi,z.dj⟩⟩⟩
 rcases h with⟨e1,e2⟩|⟨b,o,c,e1,e2,e3⟩;exact no (.inl e1) (.inl ⟨e1,e2⟩)
 by_cases hn:L=[]
 exact no (.inr hn) (.inr ⟨b,o,c,e1,e2,λq=>absurd (by rw[hn];rfl) q⟩);have ⟨t1,el,cs,q1,q2,q3⟩:=e3 (by simpa using hn);have far:=hf _ _ _ _ e1 hn;refine⟨one b (t1,.cells el cs),.inr ⟨b,o,c,e1,e2,(by grind [bW])⟩,⟨λy hy=>?_,aB.2 ⟨λy hy i hi=>?_,z.dj⟩⟩⟩;rcases mCY hy with e|hy;rw[e];intro i e hi;have:=jl (c:=b) (x:=(t1,Blk.cells el cs)) (i:=i) (by rw[hi];simp)
 grind [bW]
 exact z.sub y hy
 grind [jl]
theorem MapR.frz{l:List (Int×AV)}{b:Nat}(h:LS.MapR s b l):LS.MapR (frz s) b l:=by have ⟨t,es,c,h1,h2⟩:=h;exact⟨true,es,c,eK h1,h2⟩
theorem uZ{o:Option Int}(h:DT.opI s v o):DT.opI (frz s) v o:=by
 cases o with
 |none=>exact h
 | some n=>
   have ⟨b,t,e,h1,h2⟩:=h;exact⟨b,true,e,h1,eK h2⟩
theorem WtAt.frz{w:Nat}{t:Bool}{y:DT.Wt}(h:DT.WtAt s w t y):DT.WtAt (frz s) w true y:=by have ⟨e,L,D,h1,h2,h3⟩:=h;exact⟨e,L,D,eK h1,uZ h2,uZ h3⟩
variable{s0 O:Hq}{cv:AV}{Y:List Hq}
theorem pK:(ownL L x).length<=L.length:=by
 grind [ownL]
theorem jm{n:Nat}:n∈ownL L x↔owB L (x:Int) (n:Int)=true:=by unfold ownL;rw[mem_filter,mem_range];refine⟨λh=>h.2,λh=>⟨?_,h⟩⟩;have:=(oT h).2.1;omega
theorem Jk{a b c d e:Hq}{l:List Hq}:List.Perm (a::b::c::d::e::l) (a::b::e::d::c::l):=by refine .cons _ (.cons _ ?_);refine(List.Perm.swap d c (e::l)).trans ?_;refine(List.Perm.cons d (List.Perm.swap e c l)).trans ?_;exact List.Perm.swap e d (c::l)
theorem va{M:List Bool}{bR:Nat}{ch:Nat->List LS.Rec}(P:Pln N L lf sp)(hx:x<N)(z:Sep s (pC p x lf sp lv mv wm d f tk la uv dv::st::rt::rd::rv0::O::Y))(pt:Pt N L x M W dl F U st rv0 rd rt wl wm d f lv mv uv dv)(hU:U.length=L.length)(hasc:LS.AscF F)(hbR:one bR (false,.cells 22 [Pp p])∈Y)
  (hw:∀n∈ownL L x,0<(W n).m) (hcv:cv.one=true) (hcl:∀n∈ownL L x,(ch n).length<=40)
  (hc:∀s1 uv1 dv1,(∀y∈O::Y,Sub y s1)->Sub rd s1->Hc s1 p 75 (roC (x:Int) (lbk x) lf sp lv mv wm d f tk la uv1 dv1)->ChO s1 cv wl (λn=>(W n).up) ch)
  (hK:∀r' s' v s0,RoAt N L lf sp x r' p ⟨W,tk,la,dl,F,LS.fw (LS.lsB F) L,M⟩->Sep s' [r',O]->Sub r' s0->Sub O s0->Sub s0 s'->Nts s0 s' v (ntsL (ownL L x) (λn=>(W n).up) ch)->K v s') :
  oK (rd1 s (Pp bR)) λv_74=>wC TP 51 [v_74] (λv_75 s_76=>oK (rd1 s_76 (Pp bR)) λv_77=>wC TP 53 [v_77,cv] (λv_78 s_79=>wC TP 52 [v_78] (λv_80 s_81=>K v_80 s_81) s_79) s_76) s:=by
 have hR:Hc s bR 22 [Pp p]:=z.sub _ (by simp[hbR]) _ _ bW;simp only[au hR,g0Y,ae];have ⟨Bf,zt⟩:=pt.tb;refine qZ8 P hx hU z pt.l pt.u zt pt.db hasc pt.ds λs1 st1 rt1 uv1 dv1 Bf1 z1 k1 zt1 hu1 hds1=>?_;have hR1:Hc s1 bR 22 [Pp p]:=z1.sub _ (by simp[hbR]) _ _ bW;have hp1:Hc s1 p 75 (roC (x:Int) (lbk x) lf sp lv mv wm d f tk la uv1 dv1):=z1.sub (pC p x lf sp lv mv wm d f tk la uv1 dv1) sI _ _ bW;simp only[au hR1,g0Y,ae];have srw:Sub rv0 s1:=z1.sub rv0 sI;have srd:Sub rd s1:=z1.sub rd sI;have hlen:wl.length<=200:=by
  have h1:(wl.map (·.1)).length<=L.length:=by grind [pK,Pt.wk]
  grind [Pln.l]
 have own:∀q∈wl,q.1∈ownL L x:=λq hq=>by rw[<- pt.wk];grind
 refine qWi (W:=W) (ch:=ch) pt.ws.asc hlen hp1 (pt.ws.mr.sub srw) (λq hq=>⟨⟨false,(pt.ws.w q hq).sub srw⟩,hw _ (own q hq)⟩) (λs2 k2=>hc s2 uv1 dv1 (λy hy=>(z1.sub y gR).trans k2) (srd.trans k2) (k2 _ _ hp1)) hcv (λq hq=>hcl _ (own q hq)) λs2 s3 v k2 k3 k4 hn=>?_;rw[Jj,pt.wk]at hn;have z3:Sep s1 ([pC p x lf sp lv mv wm d f tk la uv1 dv1,st1,rv0,rd,rt1]++(O::Y)):=z1.perm Jk;have zp:=fh.1 z3.dj;have z4:Sep s1 [joinL [pC p x lf sp lv mv wm d f tk la uv1 dv1,st1,rv0,rd,rt1],O]:=by have z5:=Sep.joinL z3;exact⟨(by grind [Sep.sub]),(aB.2 ⟨λa ha=>(aB.1 z5.dj).1 a (by simp at ha;simp[ha]),sI⟩)⟩
 refine hK _ s3 v s2 ⟨st1,rv0,rd,rt1,wl,wm,d,f,lv,mv,uv1,dv1,uX zp.1,?_⟩ (z4.more k3) ((z4.sub _ sI).trans k2) ((z4.sub O sI).trans k2) k4 hn;exact⟨pt.l.sub k1,pt.m.sub k1,hu1,hds1,pt.ws,pt.wk,pt.db,⟨Bf1,zt1⟩⟩
variable{h:Hq}
theorem Sep.lock(z:Sep s (h::l)):Sep (lock s h) (frz h::l):=by
 have ⟨d1,d2⟩:=aB.1 z.dj;refine⟨λy hy=>?_,aB.2 ⟨λy hy i hi=>d1 y hy i λq=>hi (jg.2 q),d2⟩⟩;rcases mCY hy with rfl|hy
 ·intro i x hx
  cases q:h i with
  |none=>rw[jg.2 q]at hx;cases hx
  |some y=>rw[eK q]at hx;rw[jA q,eK (z.sub h sI i y q)];exact hx
 ·intro i x hx
  have:h i=none:=by
   cases q:h i with
   |none=>rfl
   |some w=>have:=d1 y hy i (by rw[q];simp);rw[hx]at this;cases this
  rw[gB this];exact z.sub y (by simp[hy]) i x hx
theorem Sep.unlock(z:Sep s' (frz h::l)):Sep (add h s') (h::l):=by
 have ⟨d1,d2⟩:=aB.1 z.dj;have d1:∀y∈l,Dj h y:=λy hy i hi=>d1 y hy i λq=>hi (jg.1 q);refine⟨λy hy=>?_,aB.2 ⟨d1,d2⟩⟩;rcases mCY hy with rfl|hy
 ·exact λi x hx=>cU hx
 ·intro i x hx
  have:h i=none:=by
   cases q:h i with
   |none=>rfl
   |some w=>have:=d1 y hy i (by rw[q];simp);rw[hx]at this;cases this
  rw[cC this];exact z.sub y (by simp[hy]) i x hx
theorem Jl{b o:Nat}{v:AV}{K:Hq->Prop}(hs:Sub h s)(hb:h b=none)(hk:oK (wr1 s (.ptr b o) v) λs2=>Sub h s2->K (AM.lock s2 h)):oK (wr1 (AM.lock s h) (.ptr b o) v) K:=by
 unfold wr1 at hk ⊢;simp only at hk ⊢;rw[gB hb];split at hk
 ·rename_i e cl q
  cases c:(blt o cl.length&&v.one)with
  |false=>rw[c]at hk;exact hk.elim
  | true=>
    rw[c]at hk;simp only[aD,ae]at hk ⊢;rw[<- CJ hb];exact hk λi y hi=>by rw[cG λq=>by subst q;rw[hb]at hi;cases hi];exact hs i y hi
 ·exact hk.elim
variable{rw':Hq}
structure TkP(x:Nat)(L:List LS.Lnk)(S:Ro)(now:Int)(heard:List Int):Prop where
 w:∀n∈ownL L x,(S.W n).ok/\(0<=(S.W n).changes/\(S.W n).changes<=1000000000000)/\DT.jj (S.W n) now=none
 nw:0<=now/\now<=1099511627776
 la:S.tk=true->S.la<now
 dl:0<=S.dl
 U:S.U.length=L.length
 asc:heard.Pairwise (· < ·)
 own:∀i∈heard,owB L (x:Int) i=true
 hl:heard.length<=1000
 F:LS.AscF (gM x (ownL L x) S now heard).F
 rl:(gM x (ownL L x) S now heard).r.2.2.length<=100000
 al:(LS.allR (gM x (ownL L x) S now heard).F).length<=40
theorem Jm{rs:Nat->Bool}{made:Bool}{rec:LS.Rec}{n:Nat}(h:(LS.allR F).length<=40):(chT now rs F made rec n).length<=40:=by
 grind [chT]
theorem Sep.idx(z:Sep s l)(is:List Nat)(h:is.Nodup):Sep s (is.filterMap (l[·]?)):=by refine⟨λy hy=>?_,?_⟩;have ⟨i,_,hi⟩:=mem_filterMap.1 hy;exact z.sub y (mG hi);rw[pairwise_filterMap];refine List.Pairwise.imp (fun {a b} hne y hy y' hy'=>?_) h;obtain⟨ha,rfl⟩:=gS hy;obtain⟨hb,rfl⟩:=gS hy';rcases Nat.lt_or_gt_of_ne hne with q|q;exact cE.1 z.dj a b ha hb q;exact(cE.1 z.dj b a hb ha q).symm
theorem Jn{b':Hq}{l1 l2:List Hq}{a:Hq}{c:Nat}(z:Sep s (l1++a::l2))(h:s c=none/\b' c=none):∀y∈l1++b'::l2,y c=none:=λy hy=>by rcases mP hy with hy|hy;exact dU (z.sub y (by simp[hy])) h.1;rcases mCY hy with e|hy;rw[e];exact h.2;exact dU (z.sub y (by simp[hy])) h.1
theorem Jo{S:Ro}{heard:List Int}{bR bn bh:Nat}(P:Pln N L lf sp)(hx:x<N)(T:TkP x L S now heard)(pt:Pt N L x S.M S.W S.dl S.F S.U st rv0 rd rt wl wm d f lv mv uv dv)(hhv:LS.Sli O hv heard)
  (z4:Sep s ([pC p x lf sp lv mv wm d f S.tk S.la uv dv,st,rv0,rd,rt] ++ [one bh (false,.cells 25 [hv]),one bn (false,.cells 3 [now]),one bR (false,.cells 22 [Pp p]),O]))
  (hK:∀r' s' v s0,RoAt N L lf sp x r' p (iO x L S now heard)->Sep s' [r',O]->Sub r' s0->Sub O s0->Sub s0 s'->Nts s0 s' v (gD x L S now heard)->K (.tup [v,Ii 0]) s') {a b:AV}(e:cW a b false=some (.bool false)):pq (Pp bR) (Pp bn) (Pp bh) .nilslc (Ii 0) a b K s:=by
 have own:∀q∈wl,q.1∈ownL L x:=λq hq=>by rw[<- pt.wk];grind
 have hR:=z4.sub (one bR (false,.cells 22 [Pp p])) sI _ _ bW;have hn:=z4.sub (one bn (false,.cells 3 [now])) sI _ _ bW;have hp:=z4.sub (pC p x lf sp lv mv wm d f S.tk S.la uv dv) sI _ _ bW;have far:p≠bR/\p≠bn:=by
  grind
 unfold pq;simp only[e,ae,aR];refine⟨AM.h3 s bR bn bn,pB,?_⟩;simp only[au (h3_1 hR),au (h3_2 hn),ae,g0Y,bQ,aK,zAY]
 ·refine Jl pB (tR far.1 far.2 far.2) (cw hp sI rfl λs1 h1 u1 hs1=>?_)
  rw[unlock hs1];refine cw h1 sI rfl λs2 h2 u2=>?_;have h2:Hc s2 p 75 (roC (x:Int) (lbk x) lf sp lv mv wm d f true now uv dv):=h2;have z5:=Sep.wr1 (Sep.wr1 z4 u1 (by simp_all [bW]) h1) u2 (by rw[dT];simp) h2;rw[show hset (hset (pC p x lf sp lv mv wm d f S.tk S.la uv dv) p _) p (false,.cells 75 (roC (x:Int) (lbk x) lf sp lv mv wm d f true now uv dv))=pC p x lf sp lv mv wm d f true now uv dv from by
   grind [cG,one,fe]]at z5
  refine aI λbr s3 hbr h3 u3=>?_;have z6:=z5.new u3 hbr h3;have hR3:=z6.sub (one bR (false,.cells 22 [Pp p])) sI _ _ bW;simp only[au hR3,g0Y,ae];have z7:Sep s3 ([pC p x lf sp lv mv wm d f true now uv dv,st,rd,rt,one bh (false,.cells 25 [hv]),one bn (false,.cells 3 [now]),one bR (false,.cells 22 [Pp p]),O] ++ [rv0,one br (false,.cells 134 (iJ λ_=>false))]):=z6.idx [1,2,4,5,6,7,8,9,3,0] dE;have dj7:=(fh.1 z7.dj).1;have z8:=(Sep.joinL z7).perm (List.Perm.swap _ _ _);have sj:=(uX dj7).sub;have hlen:wl.length<=200:=by
   have h1:(wl.map (·.1)).length<=L.length:=by grind [pK,Pt.wk]
   grind [Pln.l]
  have tkh:TkH wl S.W now:=⟨λq hq=>(T.w _ (own q hq)).1,λq hq=>(T.w _ (own q hq)).2.1,λq hq=>(T.w _ (own q hq)).2.2,λq hq=>by have:=(oT (jm.1 (own q hq))).2.1;have:=P.l;omega⟩
  refine I9 (p:=p) (bR:=bR) (bh:=bh) (heard:=heard) pt.ws tkh hlen (sj (pC p x lf sp lv mv wm d f true now uv dv) sI _ _ bW) (sj (one bn (false,.cells 3 [now])) sI _ _ bW) (sj (one bh (false,.cells 25 [hv])) sI _ _ bW) (hhv.sub (sj O sI)) T.asc (by have:=T.hl;omega) z8 λrw' s4 ws4 z9=>?_;rw[Jh,pt.wk]at ws4;rw[Ji,pt.wk]at z9;have za:=Sep.unjoin dj7 (z9.perm (List.Perm.swap _ _ _));have hp4:=za.sub (pC p x lf sp lv mv wm d f true now uv dv) sI _ _ bW;have zl:=Sep.lock (Sep.join (za.idx [6,0,1,2,3,4,5,7,8,9] dE));obtain⟨Hh,eHh⟩:∃Hh,Hh=add (one bR (false,.cells 22 [Pp p])) (pC p x lf sp lv mv wm d f true now uv dv):=⟨_,rfl⟩
  have hHR:Hc Hh bR 22 [Pp p]:=by rw[eHh];exact cU bW
  have hHp:Hc Hh p 75 (roC (x:Int) (lbk x) lf sp lv mv wm d f true now uv dv):=by rw[eHh,cC (by grind [one])];exact bW
  have hHs:Sub Hh s4:=by rw[eHh];exact(Sep.join (za.idx [6,0,1,2,3,4,5,7,8,9] dE)).sub _ mem_cons_self
  refine⟨Hh,hHs,?_⟩;simp only[au hHR,g0Y,ae,bQ,aK,zAY,au hHp,g1Y];have wm4:∀n∈ownL L x,0<(Wn (ownL L x) S.W now heard n).m:=λn hn=>by unfold Wn;rw[ak hn];have:=(T.w n hn).1.1;show 0<(S.W n).m;omega
  rw[<- eHh]at zl;have srw4:=zl.sub rw' sI;have hpL:AM.lock s4 Hh p=some (true,.cells 75 (roC (x:Int) (lbk x) lf sp lv mv wm d f true now uv dv)):=by rw[jA hHp,eK hp4]
  refine Up_in ws4.asc hlen hpL (ws4.mr.sub srw4) (λq hq=>⟨⟨_,(ws4.w q hq).sub srw4⟩,wm4 _ (own q hq)⟩) λs5 v5 k5 acc5=>?_;rw[uY,pt.wk]at acc5;have hsl:=acc5.sl;have zb:=zl.more k5;have lenu:(ups (ownL L x) (Wn (ownL L x) S.W now heard)).length<=100000:=by
   grind [ups,pK,Pln.l]
  refine Jc pt.db (zb.sub rd sI) hsl lenu T.dl λrd' s6 lv6 db6 g6 li6 fr6=>?_;have zc:=Sep.goes (l1:=[frz Hh,st]) zb g6;have ⟨nb,hnb,zd⟩:=Sep.lst zc li6 λb o n c e1 e2=>Jn (l1:=[frz Hh,st]) zb (fr6 b o n c e1 e2);obtain⟨G,hG⟩:∃G,G=gM x (ownL L x) S now heard:=⟨_,rfl⟩
  have eG:LS.ownR (x:Int) S.dl S.F (ups (ownL L x) (Wn (ownL L x) S.W now heard))=G:=hG.symm;rw[eG]at li6 hnb db6;simp only[eG];have x0:∀a b c:AV,bV (.tup [a,b,c]) 0=some a:=λ_ _ _=>rfl;have x1:∀a b c:AV,bV (.tup [a,b,c]) 1=some b:=λ_ _ _=>rfl;have x2:∀a b c:AV,bV (.tup [a,b,c]) 2=some c:=λ_ _ _=>rfl;have ze1:=Sep.unlock (zd.idx [1,0,2,3,4,5,6,7,8,9] dE);have ⟨s7,hs7⟩:∃s7,s7=add Hh s6:=⟨_,rfl⟩
  rw[<- hs7]at ze1 ⊢;rw[eHh]at ze1;have ze2:=(Sep.split ze1 (λi hi=>by have e:=jl hi;rw[e];exact aj (Ne.symm far.1))).idx [2,1,3,4,5,6,7,0,8,9,10] dE
  refine aI λbq t7 n7 h7' u7'=>?_;refine aI λbm s8 n8 h8' u8'=>?_;have ze:=(ze2.new u7' n7 h7').new u8' n8 h8';have hq8:=ze.sub (one bq (false,.cells 34 [Ii 0,Ii 0,.nilslc])) sI _ _ bW;refine cD hq8 rfl rfl (by rw[dh,dh,dh,hnb.one];rfl) λs9 h9 u9=>?_;have zf:=Sep.wr (l1:=[one bm (false,.cells 4 [false])]) ze u9 (by rw[bW];simp) h9;have i6:∀{c:Nat}{a b:Bool×Blk},hset (one c a) c b=one c b:=fun {c a b}=>by
   funext i
   by_cases e:i=c
   grind [dT,bW]
   grind [cG,one]
  rw[i6]at zf;have hm9:=zf.sub (one bm (false,.cells 4 [false])) sI _ _ bW;refine cw hm9 sI rfl λs10 h10 u10=>?_;have zg:=Sep.wr1 zf u10 (by rw[bW];simp) h10;rw[i6]at zg;have fin:∀s11 made,made=(if G.err=0 then G.nw else false)->Sep s11 (one bm (false,.cells 4 [made])::one bq (false,.cells 34 [G.r.1,G.r.2.1,lv6])::nb::([pC p x lf sp lv mv wm d f true now uv dv,st]++rd' :: [rt,one bh (false,.cells 25 [hv]),one bn (false,.cells 3 [now]),one bR (false,.cells 22 [Pp p]),O,rw',one br (false,.cells 134 (iJ (rsn (ownL L x) S.W now heard)))]))->
    E1 (Pp bR) (Pp bn) (Pp br) (Pp bq) (Pp bm) K s11:=by
   intro s11 made hmd zz;refine va (p:=p) (tk:=true) (la:=now) (W:=Wn (ownL L x) S.W now heard) (dl:=G.last) (F:=G.F) (U:=S.U) (O:=O) (Y:=[one bm (false,.cells 4 [made]),one bq (false,.cells 34 [G.r.1,G.r.2.1,lv6]),nb,one bn (false,.cells 3 [now]),one bR (false,.cells 22 [Pp p]),one br (false,.cells 134 (iJ (rsn (ownL L x) S.W now heard)))]) (ch:=chT now (rsn (ownL L x) S.W now heard) G.F made G.r) P hx ?_ ⟨pt.l,pt.m,pt.u,pt.ds,ws4,pt.wk,db6,pt.tb⟩ T.U (by grind [TkP.F]) sI wm4 rfl ((by grind [Jm,TkP.al])) (λs12 uv12 dv12 hY hd12 hp12=>?_) λr' s' v s0 q1 q2 q3 q4 q5 q6=>?_;exact zz.idx [3,4,6,5,11,10,0,1,2,8,9,12] dE;have ⟨m6,db6⟩:=db6;exact IZ (hY _ sI _ _ bW) hp12 (db6.sub hd12) (hY _ sI _ _ bW) (hY _ sI _ _ bW) (hY _ sI _ _ bW) (hY _ sI _ _ bW) (hnb.sub (hY nb sI)) (by have:=T.rl;grind) λq hq=>tkh.lt q hq;refine hK r' s' v s0 ?_ q2 q3 q4 q5 ?_
   grind [iO]
   unfold gD;rw[<- hG,<- hmd];exact q6
  have e3:negB true (eqV 0 true G.err (Ii 0))=some (.bool (!(G.err == 0))):=by rw[cj,bJ,Bool.true_bne]
  rw[e3,cP];refine aL (λhe=>?_) (λhe=>?_);refine cw h10 sI rfl λs11 h11 u11=>fin s11 false gR ?_;have:=Sep.wr1 zg u11 (by rw[bW];simp) (show Hc s11 bm 4 [false]from h11);rw[i6]at this;exact this;exact fin s10 G.nw gR zg
theorem Ar{S:Ro}{heard:List Int}(P:Pln N L lf sp)(hx:x<N)(k:Sub r s)(z:RoAt N L lf sp x r p S)(hhv:LS.Sli (rest s r) hv heard)(T:TkP x L S now heard)
  (hK:∀r' s' v s0,RoAt N L lf sp x r' p (iO x L S now heard)->Goes r s r' s'->Sub r' s0->Sub (rest s r) s0->Sub s0 s'->Nts s0 s' v (gD x L S now heard)->K (.tup [v,Ii 0]) s'):wC TP 18 [Pp p,now,hv] K s:=by
 have ⟨st,rv0,rd,rt,wl,wm,d,f,lv,mv,uv,dv,zs,pt⟩:=z.ex;refine Rh (fG rfl λbR s1 hbR h1 u1=>fG rfl λbn s2 hbn h2 u2=>fG hhv.one λbh s3 hbh h3 u3=>?_);have z0:=IJ k;have ⟨O,hO⟩:∃O,O=rest s r:=⟨_,rfl⟩
 rw[<- hO]at z0 hhv;have z3:=((z0.new u1 hbR h1).new u2 hbn h2).new u3 hbh h3;have z3:=z3.idx [3,0,1,2,4] dE;have z4:=z3.into zs;have hR:=z4.sub (one bR (false,.cells 22 [Pp p])) sI _ _ bW;have hn:=z4.sub (one bn (false,.cells 3 [now])) sI _ _ bW;have hh:Hc s3 bh 25 [hv]:=gR;have hp:=z4.sub (pC p x lf sp lv mv wm d f S.tk S.la uv dv) sI _ _ bW;have hv3:=hhv.sub (z4.sub O sI);have hl3:=pt.l.sub (z4.sub st sI);simp only[au hR,g0Y,ae];refine fk hp ?_;have now0:decide (now<0)=false:=aC (by have:=T.nw;omega);have now1:decide (now>1099511627776)=false:=aC (by have:=T.nw;omega);have lenh:cM hv=some heard.length:=by rw[hv3.len];simp
 simp only[cQ,Bool.not_true,ae,aR,au hn,g0Y,bu,now0,dy,now1,yR,ct,au hh,lenh,bG];refine⟨λys s1 n=>∃i:Nat,ys=[.nilslc,Ii 0,Ii i]/\s1=s3/\i<=heard.length/\n=heard.length-i,⟨_,0,rfl,rfl,oM,rfl⟩,?_⟩;rintro g s1' n ⟨i,hy,rfl,hi,rfl⟩;simp only[cI,aq]at hy;have ⟨y1,y2,y3⟩:=hy;rw[y1,y2,y3];simp only[E2,ae,bu];refine aL (λhlt=>?_) (λhge=>?_);have hlt:i<heard.length:=gR;have ⟨q,g1,g2⟩:=LS.gC hv3 hlt;simp only[g1,g2,ae,au hR,g0Y,bQ,aK,zAY];refine pJ hp hl3 ?_;rw[T.own _ (aN hlt)];simp only[cQ,Bool.not_true,ae,aR,dy];have fin:∀t44 t51:AV,cW t44 t51 false=some false->tC .nilslc (Ii 0) i t44 t51 (λys s1 n=>∃i:Nat,ys=[.nilslc,Ii 0,Ii i]/\s1=s1'/\i<=heard.length/\n=heard.length-i) (heard.length-i) K s1':=by intro a b e;unfold tC;simp only[e,ae,bg];rw[aT oM (by have:=T.hl;omega)];exact⟨_,oM,i+1,sI,by trivial,oM,rfl⟩
 refine aL (λh0=>?_) (λh0=>?_);have h0:0<i:=gR;simp only[au hh,g0Y,ae,eC];rw[aT oM (by have:=T.hl;omega),show((i:Int)-1)=((i-1:Nat):Int)by omega];have ⟨q',g3,g4⟩:=LS.gC hv3 (k:=i-1) oM;have hlt':=cE.1 T.asc (i-1) i oM hlt oM
 simp_all
 simp_all
 simp only[au hR,g0Y,ae,bQ,aK,zAY,au hp,g1Y];have main:∀t58 t64:AV,cW t58 t64 false=some false->pq (Pp bR) (Pp bn) (Pp bh) .nilslc (Ii 0) t58 t64 K s1':=λa b e=>Jo P hx T pt hhv z4 ((by grind [Sep.back])) e;refine aL (λht=>?_) (λht=>?_);rw[ht];simp only[au hn,g0Y,ae,iX];rw[aC (by have:=T.la ht;omega)];exact main _ _ rfl
 simp_all
def eF(N x:Nat)(S:Ro)(q:LS.Rec):LS.Got:=LS.eI (N:Int) (x:Int) S.dl S.F q
def iP(N x:Nat)(L:List LS.Lnk)(S:Ro)(q:LS.Rec):Ro:=
 ⟨S.W,S.tk,S.la,(eF N x S q).last,(eF N x S q).F,LS.fw (LS.lsB (eF N x S q).F) L,S.M⟩
def il(N x:Nat)(L:List LS.Lnk)(S:Ro)(lk:Int)(q:LS.Rec):List Ntc:=
 ntsL (ownL L x) (λn=>(S.W n).up) (chR (eF N x S q).code lk q (LS.gotR (eF N x S q).F q.1))
structure RvP(N x:Nat)(L:List LS.Lnk)(S:Ro)(lk:Int)(q:LS.Rec):Prop where
 m:∀n∈ownL L x,0<(S.W n).m
 own:owB L (x:Int) lk=true
 U:S.U.length=L.length
 ql:q.2.2.length<=100000
 e:(eF N x S q).err=0
 F:LS.AscF (eF N x S q).F
theorem Jp{code lk:Int}{rec old:LS.Rec}{n:Nat}:(chR code lk rec old n).length<=40:=by
 grind [chR]
theorem Jq{S:Ro}{q:LS.Rec}(h:(eF N x S q).code=2∨(eF N x S q).code=3):look (eF N x S q).F q.1=some (LS.gotR (eF N x S q).F q.1):=by
 have:∃y,look (eF N x S q).F q.1=some y:=by
  grind [eF,LS.eI,jE]
 grind [LS.gotR]
theorem Am{S:Ro}{lk:Int}{q:LS.Rec}(P:Pln N L lf sp)(hx:x<N)(k:Sub r s)(z:RoAt N L lf sp x r p S)(hv:LS.Sli (rest s r) v q.2.2)(T:RvP N x L S lk q)
  (hK:∀r' s' v s0,RoAt N L lf sp x r' p (iP N x L S q)->Goes r s r' s'->Sub r' s0->Sub (rest s r) s0->Sub s0 s'->Nts s0 s' v (il N x L S lk q)->K (.tup [v,Ii 0]) s'):wC TP 17 [Pp p,lk,LS.recV q.1 q.2.1 v] K s:=by
 have ⟨st,rv0,rd,rt,wl,wm,d,f,lv,mv,uv,dv,zs,pt⟩:=z.ex;have ones:aX (LS.recV q.1 q.2.1 v).cells=true:=by show aX [q.1,q.2.1,v]=true;rw[dh,dh,dh,hv.one];rfl
 refine Rj (fG rfl λbR s1 hbR h1 u1=>fG rfl λbl s2 hbl h2 u2=>⟨ones,aI λbx s3 hbx h3 u3=>?_⟩);have h3:Hc s3 bx 34 [q.1,q.2.1,v]:=h3;have z0:=IJ k;have ⟨O,hO⟩:∃O,O=rest s r:=⟨_,rfl⟩
 rw[<- hO]at z0 hv;have z3:Sep s3 (r :: [one bx (false,.cells 34 [q.1,q.2.1,v]),one bl (false,.cells 3 [lk]),one bR (false,.cells 22 [Pp p]),O]):=(((z0.new u1 hbR h1).new u2 hbl h2).new u3 hbx h3).idx [3,0,1,2,4] dE;have z4:=z3.into zs;have hR:Hc s3 bR 22 [Pp p]:=z4.sub (one bR (false,.cells 22 [Pp p])) sI _ _ bW;have hl:Hc s3 bl 3 [lk]:=z4.sub (one bl (false,.cells 3 [lk])) sI _ _ bW;have hp:Hc s3 p 75 (roC (x:Int) (lbk x) lf sp lv mv wm d f S.tk S.la uv dv):=z4.sub (pC p x lf sp lv mv wm d f S.tk S.la uv dv) sI _ _ bW;simp only[au hR,g0Y,ae];refine fk hp ?_;simp only[cQ,Bool.not_true,ae,aR,bQ,aK,au hR,au hl,zAY,g0Y];refine pJ hp (pt.l.sub (z4.sub st sI)) ?_;rw[T.own];simp only[cQ,Bool.not_true,ae,aR,au hR,bQ,aK,zAY,au hp,g1Y,g0Y,bX (n:=3) h3 rfl];have ⟨G,hG⟩:∃G,G=eF N x S q:=⟨_,rfl⟩
 have eG:LS.eI (N:Int) (x:Int) S.dl S.F q=G:=hG.symm;show wC TP 50 [Pp d,LS.recV q.1 q.2.1 v] _ s3;refine Jd pt.db (z4.sub rd sI) (hv.sub (z4.sub O sI)) T.ql λrd' s6 db6 g6=>?_;rw[eG]at db6;rw[eG];have x0:∀a b:AV,bV (.tup [a,b]) 0=some a:=λ_ _=>rfl;have x1:∀a b:AV,bV (.tup [a,b]) 1=some b:=λ_ _=>rfl;simp only[x0,x1,ae];have zc:=Sep.goes (l1:=[pC p x lf sp lv mv wm d f S.tk S.la uv dv,st,rv0]) z4 g6;refine aI λbw t7 n7 h7' u7'=>?_;have zd:=zc.new u7' n7 h7';refine cw h7' sI rfl λs8 h8 u8=>?_;have h8:Hc s8 bw 3 [G.code]:=h8;have ze:=Sep.wr1 zd u8 (by rw[bW];simp) h8;rw[show hset (one bw (false,.cells 3 [Ii 0])) bw (false,.cells 3 [G.code])=one bw (false,.cells 3 [G.code])from by
  funext i
  by_cases e:i=bw
  subst e;rw[dT,bW];rw[cG e];unfold one;rw[aj e,aj e]]at ze
 have ee:G.err=0:=by rw[hG];exact T.e
 rw[ee];simp only[cj,bJ,ae,aZ,Bool.true_bne,Bool.not_true,aR];refine va (p:=p) (tk:=S.tk) (la:=S.la) (W:=S.W) (dl:=G.last) (F:=G.F) (U:=S.U) (O:=O) (Y:=[one bw (false,.cells 3 [G.code]),one bx (false,.cells 34 [q.1,q.2.1,v]),one bl (false,.cells 3 [lk]),one bR (false,.cells 22 [Pp p])]) (ch:=chR G.code lk q (LS.gotR G.F q.1)) P hx ?_ ⟨pt.l,pt.m,pt.u,pt.ds,pt.ws,pt.wk,db6,pt.tb⟩ T.U (by grind [RvP.F]) sI T.m rfl (λn _=>Jp) (λs12 uv12 dv12 hY hd12 hp12=>?_) λr' s' v s0 q1 q2 q3 q4 q5 q6=>?_;exact ze.idx [1,2,5,4,3,9,0,6,7,8] dE;have ⟨m6,db6⟩:=db6;exact I6 (hY _ sI _ _ bW) hp12 (db6.sub hd12) (hY _ sI _ _ bW) (hY _ sI _ _ bW) (hY _ sI _ _ bW) (hv.sub (hY O sI)) T.ql ((by grind [Jq]))
 grind [Sep.back,iP,il]
end Go.AM.RT
namespace Go.AM.TN
open Go Go.Proofs List Nat
set_option maxRecDepth 100000
variable{K:AV→Hq→Prop}{s s' s0 t:Hq}{lv v y:AV}{b:Nat}
theorem _root_.Go.AM.AccR.upto{elem:ah}{es:Nat}{rows:List (List AV)}{b:Nat}(h:AccR elem es s0 s v rows)(u:Upto b s s')(hb:s0 b≠none):AccR elem es s0 s' v rows:=⟨h.1,h.2.imp id λ⟨c,h0,h1,h2⟩=>⟨c,h0,h1,by rw[u c λe=>hb (by rw[<- e];exact h0)];exact h2⟩⟩
theorem Tk.at(h:Tk s0 t b):t b≠none:=by
 grind [ex]
theorem vc{elem:ah}{es:Nat}{rows:List (List AV)}{row:List AV}{t0:Hq}(h0:Tk s0 t0 b)(tk:Tk s0 t b)(kp:aV (λi=>i=b) t0 t)(acc:AccR elem es t0 t v rows)(hy:SlR es t y [row])(hl:rows.length<=1000)
  (hK:∀v' t',Tk s0 t' b->aV (λi=>i=b) t0 t'->AccR elem es t0 t' v' (rows ++ [row])->K v' t'):appK elem es v y K t:=by
 have a4:AccR elem es (λj=>if j=b then t j else t0 j) t v rows:=⟨acc.1,acc.2.imp id λ⟨c,q0,q1,q2⟩=>⟨c,by show(if c=b then t c else t0 c)=none;rw[aj λe=>h0.at (by rw[<- e];exact q0)];exact q0,q1,q2⟩⟩
 have s4:Sub (λj=>if j=b then t j else t0 j) t:=λj e hj=>by have hj:(if j=b then t j else t0 j)=some e:=hj;split at hj;exact hj;rename_i ne;exact kp _ _ hj ne
 refine a4.app hy sI gR s4 λv' t5 a5 k5=>?_;have kp5:aV (λi=>i=b) t0 t5:=λj e hj ne=>k5 _ _ gR;have tb5:t5 b=t b:=by rcases q:t b with _|e;exact absurd q tk.at;exact k5 _ _ gR
 refine hK v' t5 ?_ kp5 ⟨a5.1,a5.2.imp id λ⟨c,q0,q1,q2⟩=>⟨c,?_,q1,q2⟩⟩;have ⟨lv,l',i',q',q''⟩:=tk.ex;refine⟨λj e hj=>?_,h0.fr,lv,l',i',by rw[tb5];exact q',q''⟩;have ne:j≠b:=(by grind [Tk.fr])
 exact kp5 _ _ (h0.sub _ _ hj) ne
 grind
theorem row1{es:Nat}{elem:ah}{c:Nat}{row:List AV}(h:Hc s c elem row)(hr:row.length=es):SlR es s (.slc c 0 1 (some 1) es) [row]:=
 SlR.mk (rows:=[row]) gR (by simpa using h) rfl sI
theorem kx{zs c:List AV}(h:c.length=zs.length):aM (repl 1 zs) [(0,zs.length,.agg c)]=some c:=by
 have e0:repl 1 zs=zs:=by simp[repl]
 rw[e0];have e2:beq c.length zs.length=true:=by simp_all
 have e3:ble (0+c.length) zs.length=true:=bL oM
 grind [aM,jZ,dB]
def LkOk(lf sp:Nat)(L:List RLk):Prop:=(L.map λx=>(x.1,x.2.1)).Nodup/\∀x∈L,(0<=x.1/\x.1<lf)/\((lf:Int)<=x.2.1/\x.2.1<(lf+sp:Nat))/\1<=x.2.2/\x.2.2<=2
theorem Jr{lf sp:Nat}(h:Tk s0 t b)(h1:lf<=10)(h2:sp<=10)(hK:∀t' v (L:List RLk),Tk s0 t' b->aV (λi=>i=b) t t'->AccR 145 3 t t' v (L.map lkC)->LkOk lf sp L->L.length<=lf*sp->K v t'):wC TP 78 [Pp b,lf,sp] K t:=by
 refine UK ?_;refine⟨λys t2 m=>∃(a:Nat) (v:AV) (L:List RLk),ys=[v,a]/\a<=lf/\m=lf-a/\Tk s0 t2 b/\aV (λi=>i=b) t t2/\AccR 145 3 t t2 v (L.map lkC)/\LkOk lf sp L/\L.length<=a*sp/\∀x∈L,x.1<a,⟨_,0,.nilslc,[],rfl,oM,rfl,h,.refl _ _,⟨(λr h=>by cases h),.inl ⟨rfl,rfl⟩⟩,⟨.nil,sI⟩,sI,sI⟩,?_⟩;rintro f t2 m ⟨a,v,L,hy,ha,rfl,tk,kp,acc,ok,len,lt⟩;simp only[cI,aq]at hy;rw[hy.1,hy.2];simp only[Ot,bu,ae,bG];refine aL (λhlt=>?_) (λhge=>?_)
 rotate_left
 grind
 have hlt:a<lf:=gR;refine⟨λys t3 m=>∃(c:Nat) (v:AV) (L:List RLk),ys=[v,c]/\c<=sp/\m=sp-c/\Tk s0 t3 b/\aV (λi=>i=b) t t3/\AccR 145 3 t t3 v (L.map lkC)/\LkOk lf sp L/\L.length<=a*sp+c/\∀x∈L,x.1<a∨(x.1=a/\x.2.1<(lf+c:Nat)),⟨_,0,v,L,rfl,oM,rfl,tk,kp,acc,ok,oM,λx hx=>.inl (lt x hx)⟩,?_⟩;rintro f t3 m ⟨c,v,L,hy,hc,rfl,tk,kp,acc,ok,len,lt⟩;simp only[cI,aq]at hy;rw[hy.1,hy.2];have hmul:a*sp<=100:=Nat.le_trans (Nat.mul_le_mul (show a<=10 by omega) h2) oM;simp only[Or,bu,ae,aS];refine aL (λhlc=>?_) (λhgc=>?_)
 rotate_left
 have hgc:c=sp:=gR;subst hgc;simp only[bg,ae];rw[aT];refine⟨_,oM,a+1,v,L,rfl,oM,rfl,tk,kp,acc,ok,?_,λx hx=>?_⟩;rw[Nat.add_mul];omega
 grind
 have hlc:c<sp:=gR;refine fz tk (n:=8) oM oM λt4 r hr tk4 u4=>?_;have kp4:=kp.trans (u4.keep (fp:=λi=>i=b) rfl);have acc4:=acc.upto u4 h.at;simp only[cj,bJ,Bool.true_bne,ae];refine aL (λ_=>?_) (λ_=>?_)
 rotate_left
 simp only[xp,bg,ae,aS];rw[aT];exact⟨_,oM,c+1,v,L,rfl,oM,rfl,tk4,kp4,acc4,ok,oM,gR⟩;simp only[bg,ae];refine fz tk4 (n:=2) oM oM λt5 r2 hr2 tk5 u5=>?_;have kp5:=kp4.trans (u5.keep (fp:=λi=>i=b) rfl);have acc5:=acc4.upto u5 h.at;simp only[bg,ae];rw[aT,aT];refine aE (a:=lkC ((a:Int),(lf:Int)+(c:Int),1+(r2:Int))) rfl (aE (kx (zs:=[(Ii 0),(Ii 0),(Ii 0)]) (c:=lkC ((a:Int),(lf:Int)+(c:Int),1+(r2:Int))) rfl) ⟨rfl,aI λd t6 hd h6 u6=>?_⟩);have k6:=u6.sub hd;refine vc h (tk5.more k6) (kp5.trans k6.keep) (acc5.sub k6) (row1 h6 rfl) gR λv' t7 tk7 kp7 acc7=>?_;simp only[xp,bg,ae,aS];rw[aT];refine⟨_,oM,c+1,v',L ++ [((a:Int),(lf:Int)+(c:Int),1+(r2:Int))],rfl,oM,rfl,tk7,kp7,gR,⟨?_,λx hx=>?_⟩,gR,λx hx=>?_⟩;rw[bM,nodup_append];refine⟨ok.1,sI,λp hp q hq e=>?_⟩
 grind
 rcases mP hx with q|q;exact ok.2 x q
 grind
 grind
theorem n9{n:Int}(h1:0<=n)(h2:n<4294967296):dX .u32 n=some (Iw n):=by show some (AV.int .u32 (dw .u32 n))=_;rw[show dw .u32 n=n by rw[kj];simp[aA.bits,aA.signed]<;>omega]
theorem Js{n:Int}(h1:0<=n)(h2:n<9223372036854775808):dX .u64 n=some (Iq n):=by show some (AV.int .u64 (dw .u64 n))=_;rw[show dw .u64 n=n by rw[kj];simp[aA.bits,aA.signed]<;>omega]
theorem w32{x:Int}(h1:0<=x)(h2:x<4294967296):aA.u32.wrap x=x:=by unfold aA.wrap;simp[aA.bits,aA.signed];omega
theorem vd{i:Nat}(h:i<1000):fN .shl i (Iq 16)=some (Ii ((i*65536:Nat))):=by show frc (dw .i64 ((i:Int)*((2^(min 16 (aA.bits .i64)):Nat):Int))) (λn=>some (AV.int .i64 n))=_;rw[eQ,Nat.min_eq_left (show 16<=aA.bits .i64 by decide)];have:(i:Int)*((2^16:Nat):Int)=((i*65536:Nat):Int):=oM;rw[this,show dw .i64 ((i*65536:Nat):Int)=((i*65536:Nat):Int)by rw[kj];simp[aA.bits,aA.signed]<;>omega]
abbrev Bd:=Nat×Bool
def subN(i:Nat)(r:Bool):Int:=if r then 167772160+(i:Int)*65536 else 0
def gwN(i:Nat)(r:Bool):Int:=if r then 167772160+(i:Int)*65536+1 else 0
def lenN(r:Bool):Int:=if r then 24 else 0
def bdC(i:Nat)(x:Bd):List AV:=[x.1,Iw (10+(i:Int)),Iw (500+(i:Int)),Iw (subN i x.2),(lenN x.2:Int),Iw (gwN i x.2)]
theorem ve{b o n:Nat}{e:ah}{l cs:List AV}{K:Hq->Prop}(h:Hc s b e l)(hl:cs.length=n)(ho:o+n<=l.length)(h1:aX cs=true)
  (hk:∀s',Hc s' b e (dB l o cs)->Upto b s s'->K s'):oK (dP s n (.ptr b o) (.agg cs)) K:=by
 refine aE (a:=hset s b (false,.cells e (dB l o cs))) ?_ (hk _ (by simp[hset]) λi hi=>by simp[hset,hi]);have e2:=bL oM;have e3:beq cs.length n=true:=by simp_all
 grind [dP,wrN,jZ]
theorem Tk.u(h:Tk s0 t b){c:Nat}(u:Upto c t s)(hc:s0 c=none)(hb:b≠c):Tk s0 s b:=h.keep (fp:=λi=>i=c) (u.keep rfl) hb λi hi=>by rw[hi];exact hc
theorem Jt{i k:Nat}(h:Tk s0 t b)(hi:i<100)(hk1:1<=k)(hk2:k<=100)(hK:∀t' (x:Bd),Tk s0 t' b->aV (λi=>i=b) t t'->x.1<k->K (.agg (bdC i x)) t'):wC TP 79 [Pp b,i,k] K t:=by
 refine UL (aI λb0 t1 hb0 h1 u1=>?_);have k1:=u1.sub hb0;refine fz (h.more k1) hk1 oM λt2 tn htn tk2 u2=>?_;have nb0:b0≠b:=(by grind [Tk.at])
 simp only[bg,ae];rw[aT,n9 oM oM];rw[aT,n9 oM oM];simp only[ae];refine aE (a:=bdC i (tn,false)) rfl (aI λb9 t3 hb9 h3 u3=>cD h3 rfl rfl rfl λt4 h4 u4=>?_);have k4:=dp (u3.sub hb9) u4 hb9;have nb9:b9≠b:=(by grind [Tk.at])
 refine fz (tk2.more k4) (n:=4) oM oM λt5 r hr tk5 u5=>?_;have h5:Hc t5 b9 161 (bdC i (tn,false)):=by rw[u5 _ nb9];exact h4
 have b0at:∀{x:Hq},Upto b t4 x->Hc x b0 161 [(Ii 0),(Iw 0),(Iw 0),(Iw 0),(Ii 0),(Iw 0)]:=fun {x} u=>by rw[u _ nb0];refine k4 _ _ ?_;rw[u2 _ nb0];exact h1
 have n09:b0≠b9:=λe=>by rw[<- e]at hb9;rw[u2 _ nb0,h1]at hb9;cases hb9
 have s0b9:=eM tk2.sub hb9;have s0b0:=eM h.sub hb0;have tb9:=eM k1 (by rw[<- u2 _ nb9];exact hb9);have kp5:aV (λi=>i=b) t t5:=λj e hj ne=>by rw[u5 _ ne];refine k4 _ _ ?_;rw[u2 _ ne];exact k1 _ _ hj
 have fin:∀(x:Hq) (rb:Bool),Tk s0 x b->aV (λi=>i=b) t x->Hc x b9 161 (bdC i (tn,rb))->Hc x b0 161 [(Ii 0),(Iw 0),(Iw 0),(Iw 0),(Ii 0),(Iw 0)]->Dz (Pp b0) (Pp b9) K x:=λx rb tk kp q1 q2=>by refine aE (bX q1 rfl) (cD q2 rfl rfl rfl λx2 q3 u3=>aE (bX q3 rfl) ?_);refine hK x2 (tn,rb) (tk.u u3 s0b0 (Ne.symm nb0)) (λj e hj ne=>?_) htn;have e2:j≠b0:=λq=>gR;rw[u3 _ e2];exact kp _ _ hj ne
 refine aL (λ_=>?_) ((by simp_all));simp only[vd (show i<1000 by omega),bg,ae];rw[aT,n9 oM oM];simp only[aK,zAY,ae];refine ve h5 rfl (by show 3+2<=6;omega) rfl λt6 h6 u6=>?_;have h6:Hc t6 b9 161 [tn,Iw (10+(i:Int)),Iw (500+(i:Int)),Iw (167772160+((i*65536:Nat):Int)),Ii 24,Iw 0]:=h6;have e3:[AV.int .i64 (tn:Int),Iw (10+(i:Int)),Iw (500+(i:Int)),Iw (167772160+((i*65536:Nat):Int)),Ii 24,Iw 0][3]?=some (Iw (167772160+((i*65536:Nat):Int))):=rfl;simp only[au h6,e3,bg,ae];rw[w32 oM oM];refine cw h6 sI rfl λt7 h7 u7=>?_;have kp7:aV (λi=>i=b) t t7:=λj e hj ne=>by have ne9:j≠b9:=λq=>gR;rw[u7 _ ne9,u6 _ ne9];exact kp5 _ _ hj ne
 exact fin t7 true ((tk5.u u6 s0b9 (Ne.symm nb9)).u u7 s0b9 (Ne.symm nb9)) kp7 h7 (by rw[u7 _ n09,u6 _ n09];exact b0at u5)
abbrev Lkg:=Nat×Nat×Option Nat
def pfN:Option Nat->Int
 |some j=>167772160+(j:Int)*65536
 |none=>0
def plN:Option Nat->Int
 |some _=>16
 |none=>0
def lgC(x:Lkg):List AV:=[x.1,x.2.1,Iw (pfN x.2.2),(plN x.2.2:Int)]
def LgOk(k:Nat)(x:Lkg):Prop:=x.1<k/\x.2.1<k/\x.1≠x.2.1/\∀j,x.2.2=some j->j<4
theorem Ju{k:Nat}(h:Tk s0 t b)(hk1:2<=k)(hk2:k<=100)(hK:∀t' (x:Lkg),Tk s0 t' b->aV (λi=>i=b) t t'->LgOk k x->K (.agg (lgC x)) t'):wC TP 83 [Pp b,k] K t:=by
 refine DM (aI λb0 t1 hb0 h1 u1=>?_);have k1:=u1.sub hb0;have nb0:b0≠b:=(by grind [Tk.at])
 refine fz (h.more k1) oM oM λt2 fr hfr tk2 u2=>?_;simp only[bg,eC,ae];rw[aT,aT];have ek:(k:Int)-1=((k-1:Nat):Int):=oM;rw[ek];refine fz tk2 (n:=k-1) oM oM λt3 ad had tk3 u3=>?_;simp only[bg,ae];rw[aT,na (show(k:Int)≠0 by omega)];have em:((fr:Int)+1+(ad:Int)).tmod (k:Int)=(((fr+1+ad) % k:Nat):Int):=by
  grind
 rw[em];have hto:(fr+1+ad) % k<k:=mod_lt _ oM;have hne:fr≠(fr+1+ad) % k:=by
  by_cases q:fr+1+ad<k
  rw[mod_eq_of_lt q];omega;rw[mod_eq_sub_mod oM,mod_eq_of_lt oM];omega
 simp only[ae];refine aE (a:=lgC (fr,(fr+1+ad) % k,none)) rfl (aI λb9 t4 hb9 h4 u4=>cD h4 rfl rfl rfl λt5 h5 u5=>?_);have k5:=dp (u4.sub hb9) u5 hb9;have nb9:b9≠b:=(by grind [Tk.at])
 have at3:Hc t3 b0 186 [(Ii 0),(Ii 0),(Iw 0),(Ii 0)]:=by rw[u3 _ nb0,u2 _ nb0];exact h1
 have n09:b0≠b9:=λe=>gR;have s0b9:=eM tk3.sub hb9;have s0b0:=eM h.sub hb0;have tb9:=eM k1 (by rw[<- u2 _ nb9,<- u3 _ nb9];exact hb9);refine fz (tk3.more k5) (n:=2) oM oM λt6 r hr tk6 u6=>?_;have h6:Hc t6 b9 186 (lgC (fr,(fr+1+ad) % k,none)):=by rw[u6 _ nb9];exact h5
 have z6:Hc t6 b0 186 [(Ii 0),(Ii 0),(Iw 0),(Ii 0)]:=by rw[u6 _ nb0];exact k5 _ _ at3
 have kp6:aV (λi=>i=b) t t6:=λj e hj ne=>by rw[u6 _ ne];refine k5 _ _ ?_;rw[u3 _ ne,u2 _ ne];exact k1 _ _ hj
 have fin:∀(x:Hq) (p:Option Nat),(∀j,p=some j->j<4)->Tk s0 x b->aV (λi=>i=b) t x->Hc x b9 186 (lgC (fr,(fr+1+ad) % k,p))->Hc x b0 186 [(Ii 0),(Ii 0),(Iw 0),(Ii 0)]->DK (Pp b0) (Pp b9) K x:=λx p hp tk kp q1 q2=>by refine aE (bX q1 rfl) (cD q2 rfl rfl rfl λx2 q3 u3=>aE (bX q3 rfl) ?_);refine hK x2 (fr,(fr+1+ad) % k,p) (tk.u u3 s0b0 (Ne.symm nb0)) (λj e hj ne=>?_) ⟨hfr,hto,hne,hp⟩;have e2:j≠b0:=λq=>gR;rw[u3 _ e2];exact kp _ _ hj ne
 refine aL (λ_=>?_) (λ_=>gR);refine fz tk6 (n:=4) oM oM λt7 j hj tk7 u7=>?_;have h7:Hc t7 b9 186 (lgC (fr,(fr+1+ad) % k,none)):=by rw[u7 _ nb9];exact h6
 have z7:=z6;rw[<- u7 _ nb0]at z7;have kp7:=kp6.trans (u7.keep (fp:=λi=>i=b) rfl);simp only[vd (show j<1000 by omega),bg,ae];rw[aT,n9 oM oM];refine ve h7 rfl (by show 2+2<=4;omega) rfl λt8 h8 u8=>?_;refine fin t8 (some j) (λj' e=>by cases e;exact hj) (tk7.u u8 s0b9 (Ne.symm nb9)) (λi e hi ne=>?_) h8 (by rw[u8 _ n09];exact z7);have ne9:i≠b9:=λq=>gR;rw[u8 _ ne9];exact kp7 _ _ hi ne
theorem Jv{x y:Lkg}(hx:∀j,x.2.2=some j->j<4)(hy:∀j,y.2.2=some j->j<4)(h:lgC x=lgC y):x=y:=by
 have ⟨a,c,p⟩:=x;have ⟨a',c',p'⟩:=y;unfold lgC at h;simp only[cI,AV.int.injEq,true_and,aq]at h;have ⟨h1,h2,h3,h4⟩:=h;have:p=p':=by
  cases p with
  | none=>cases p' with
    |none=>rfl
    |some j=>exact absurd h4 (by show ¬(0:Int)=16;omega)
  | some j=>cases p' with
    |none=>exact absurd h4 (by show ¬(16:Int)=0;omega)
    | some j'=>
      have h3:167772160+(j:Int)*65536=167772160+(j':Int)*65536:=h3
      grind
 grind
def mB(r:Option Bool)(k:Option Bool):Option Bool:=match r with
 |some true=>k
 |some false=>some false
 |none=>none
theorem jo{a b:Int}:eqI a b=decide (a=b):=by
 grind [iL]
theorem Jw(a c p q a' c' p' q':Int):fF TP 186 (.agg [a,c,Iw p,q]) (.agg [a',c',Iw p',q'])=mB (some (eqI a a')) (mB (some (eqI c c')) (mB (mB (some (eqI p p')) (mB (some (eqI q q')) (some true))) (some true))):=kR
theorem Jx{x y:Lkg}(hx:∀j,x.2.2=some j->j<4)(hy:∀j,y.2.2=some j->j<4):fF TP 186 (.agg (lgC x)) (.agg (lgC y))=some (decide (x=y)):=by
 have e:fF TP 186 (.agg (lgC x)) (.agg (lgC y))=mB (some (eqI (x.1:Int) y.1)) (mB (some (eqI (x.2.1:Int) y.2.1)) (mB (mB (some (eqI (pfN x.2.2) (pfN y.2.2))) (mB (some (eqI (plN x.2.2) (plN y.2.2))) (some true))) (some true))):=Jw _ _ _ _ _ _ _ _;rw[e,jo,jo,jo,jo]
 by_cases h:x=y
 subst h;simp[mB]
 ·rw[aC h]
  by_cases h1:(x.1:Int)=y.1
  rotate_left
  simp[mB,h1]
  by_cases h2:(x.2.1:Int)=y.2.1
  rotate_left
  simp[mB,h1,h2]
  by_cases h3:pfN x.2.2=pfN y.2.2
  rotate_left
  simp[mB,h1,h2,h3]
  by_cases h4:plN x.2.2=plN y.2.2
  rotate_left
  simp[mB,h1,h2,h3,h4]
  grind [Jv,lgC]
theorem Jy{v:AV}{l:List Lkg}{x:Lkg}{t0:Hq}(h0:Tk s0 t0 b)(tk:Tk s0 t b)(kp:aV (λi=>i=b) t0 t)(acc:AccR 186 4 t0 t v (l.map lgC))(hl:l.length<=100)(hx:∀j,x.2.2=some j->j<4)(hall:∀y∈l,∀j,y.2.2=some j->j<4)
  (hK:∀v' t' l',Tk s0 t' b->aV (λi=>i=b) t0 t'->AccR 186 4 t0 t' v' (l'.map lgC)->(l'=l∨(x ∉ l/\l'=l ++ [x]))->K v' t'):wC TP 82 [v,.agg (lgC x)] K t:=by
 refine UO ⟨rfl,aI λc t1 hc h1 u1=>?_⟩;have k1:=u1.sub hc;have h1:Hc t1 c 186 (lgC x):=h1;refine⟨λys t2 m=>∃i:Nat,ys=[Ii i]/\i<=l.length/\m=l.length-i/\t2=t1/\x ∉ l.take i,⟨_,0,rfl,oM,rfl,rfl,sI⟩,?_⟩;rintro f t2 m ⟨i,hy,hi,rfl,rfl,hq⟩;simp only[cI,aq]at hy;rw[hy];have acc1:=acc.sub k1;simp only[Ox,acc1.sl.len,lMY,bu,ae,aS];refine aL (λhlt=>?_) (λhge=>?_);have hlt:i<l.length:=gR;have hli:=gE hlt;have ⟨pb,po,e1,e2,_⟩:=acc1.sl.get (i:=i) (r:=lgC l[i]) gR;simp only[e1,e2,ae];refine aE (bX h1 rfl) ?_;rw[Jx (hall _ (aN hlt)) hx];refine aL (λce=>?_) (λce=>?_)
 grind [Tk.more,aV.trans,Sub.keep]
 simp only[bg,ae];rw[aT];refine⟨_,oM,i+1,rfl,oM,rfl,by trivial,?_⟩;rw[bO,hli]
 grind
 have hge:i=l.length:=gR;subst hge;rw[take_length]at hq;refine aE (bX h1 rfl) (aE (kx (zs:=[(Ii 0),(Ii 0),(Iw 0),(Ii 0)]) (c:=lgC x) rfl) ⟨rfl,aI λd t3 hd h3 u3=>?_⟩);have k3:=k1.trans (u3.sub hd);refine vc h0 (tk.more k3) (kp.trans k3.keep) (acc.sub k3) (row1 h3 rfl) gR λv' t4 tk4 kp4 acc4=>?_;exact hK v' t4 (l ++ [x]) tk4 kp4 gR (.inr ⟨hq,rfl⟩)
abbrev Sg:=List Nat×List Nat
def SgR(s:Hq)(v:AV)(S:List Sg):Prop:=∃vs:List (AV×AV),SlR 2 s v (vs.map λp=>[p.1,p.2])/\vs.length=S.length/\∀(i:Nat) (q:AV×AV) (x:Sg),vs[i]?=some q->S[i]?=some x->Sl s q.1 (iz x.1)/\Sl s q.2 (iz x.2)
theorem SgR.sub{S:List Sg}(h:SgR s v S)(k:Sub s s'):SgR s' v S:=by have ⟨vs,h1,h2,h3⟩:=h;exact⟨vs,h1.sub k,h2,λi q x a c=>⟨(h3 i q x a c).1.sub k,(h3 i q x a c).2.sub k⟩⟩
theorem SgR.len{S:List Sg}(h:SgR s v S):cM v=some S.length:=by have ⟨vs,h1,h2,_⟩:=h;rw[h1.len,lMY,h2]
theorem SgR.at{S:List Sg}(h:SgR s v S){i:Nat}{x:Sg}(hx:S[i]?=some x):∃pb po l1 l2,cF 2 v i=some (.ptr pb po)/\rdN s 2 (.ptr pb po)=some [l1,l2]/\rd1 s (.ptr pb po)=some l1/\rd1 s (.ptr pb (po+1))=some l2/\Sl s l1 (iz x.1)/\Sl s l2 (iz x.2):=by have ⟨vs,h1,h2,h3⟩:=h;have hi:i<vs.length:=gR;have hq:vs[i]?=some vs[i]:=gE hi;have ⟨pb,po,e1,e2,e3⟩:=h1.get (i:=i) (r:=[vs[i].1,vs[i].2]) gR;have ⟨a,c⟩:=h3 i _ x hq hx;exact⟨pb,po,vs[i].1,vs[i].2,e1,e2,e3 0 oM,e3 1 oM,a,c⟩
theorem SgR.one{S:List Sg}(h:SgR s v S):v.one=true:=by have ⟨vs,h1,_⟩:=h;exact h1.one
abbrev Hst:=Nat×Nat×Bool×Bool
def ipN(i:Nat)(x:Hst):Int:=if x.2.2.1 then 167772160+(x.1:Int)*65536+(10+(i:Int))else 0
def sgN(x:Hst):Int:=if x.2.2.2 then -1 else(x.2.1:Int)
def hoC(i:Nat)(x:Hst):List AV:=[Iq (2199023951872+(i:Int)),Iw (ipN i x),x.1,(sgN x:Int)]
def iK(B:List Bd):List (List AV):=B.mapIdx λi x=>bdC i x
def jp(H:List Hst):List (List AV):=H.mapIdx λi x=>hoC i x
theorem SJ{B:List Bd}{i:Nat}{x:Bd}(h:B[i]?=some x):(iK B)[i]?=some (bdC i x):=by grind [iK]
theorem SK{B:List Bd}:(iK B).length=B.length:=by unfold iK;simp
theorem Jz{B:List Bd}{x:Bd}:iK (B ++ [x])=iK B ++ [bdC B.length x]:=by grind [iK]
theorem JA{H:List Hst}:(jp H).length=H.length:=by unfold jp;simp
theorem JB{H:List Hst}{x:Hst}:jp (H ++ [x])=jp H ++ [hoC H.length x]:=by grind [jp]
def SgOk(lf n:Nat)(x:Sg):Prop:=x.1.Pairwise (· < ·)/\x.1≠[]/\(∀i∈x.1,i<lf)/\x.1.length<=3/\x.2.Pairwise (· < ·)/\x.2≠[]/\(∀i∈x.2,i<n)/\x.2.length<=4
def HoOk(B:List Bd)(S:List Sg)(x:Hst):Prop:=(∃g,S[x.2.1]?=some g/\x.1∈g.2)/\(x.2.2.1=true->∃d,B[x.1]?=some d/\d.2=true)
theorem JC{i:Nat}{cs:List AV}{bv sv:AV}{B:List Bd}{S:List Sg}{lf:Nat}(h:Tk s0 t b)(hi:i<100)(hl:cs.length=19)(ho:aX cs=true)(h4:cs[4]?=some bv)(h5:cs[5]?=some sv)(hB:SlR 6 (hdel t b) bv (iK B))(hS:SgR (hdel t b) sv S)(hS1:1<=S.length)(hS2:S.length<=100)(hok:∀x∈S,SgOk lf B.length x)(hB2:B.length<=100)
  (hK:∀t' (x:Hst),Tk s0 t' b->aV (λi=>i=b) t t'->HoOk B S x->K (.agg (hoC i x)) t'):wC TP 81 [Pp b,.agg cs,i] K t:=by
 have hdt:∀{x:Hq},aV (λi=>i=b) t x->Sub (hdel t b) x:=fun {x} kp j e hj=>by
  unfold hdel at hj;split at hj
  ·cases hj
  rename_i ne;exact kp _ _ hj ne
 refine DH ⟨ho,aI λc0 t1 hc0 h1 u1=>aI λb2 t2 hb2 h2 u2=>?_⟩;have h1:Hc t1 c0 52 cs:=h1;have k1:=u1.sub hc0;have k2:=u2.sub hb2;have k02:=k1.trans k2;have c2:=k2 _ _ h1;have nc0:c0≠b:=λe=>by rw[e]at hc0;exact h.at hc0
 have nb2:b2≠b:=λe=>by rw[e]at hb2;exact(h.more k1).at hb2
 simp only[aK,zAY,au c2,h5,hS.len,ae];refine fz (h.more k02) hS1 oM λt3 sg hsg tk3 u3=>?_;have kp3:aV (λi=>i=b) t t3:=k02.keep.trans (u3.keep rfl);have c3:Hc t3 c0 52 cs:=by rw[u3 _ nc0];exact c2
 have z3:Hc t3 b2 182 [(Iq 0),(Iw 0),(Ii 0),(Ii 0)]:=by rw[u3 _ nb2];exact h2
 have ⟨g,hg⟩:∃g,S[sg]?=some g:=(by simp_all)
 have gok:=hok g (mG hg);have ⟨pb,po,l1,l2,e1,e2,e3,e4,q1,q2⟩:=(hS.sub (hdt kp3)).at hg;simp only[aK,au c3,h5,e1,e4,bg,ae];rw[aT,Js oM oM];simp only[q2.len,lA,ae];have gl:=length_pos_iff.2 gok.2.2.2.2.2.1;refine fz tk3 (n:=g.2.length) oM (by have:=gok.2.2.2.2.2.2.2;omega) λt4 ix hix tk4 u4=>?_;have kp4:=kp3.trans (u4.keep (fp:=λi=>i=b) rfl);have q24:Sl t4 l2 (iz g.2):=by
  have ⟨pb',po',l1',l2',e1',_,_,e4',_,q2'⟩:=(hS.sub (hdt kp4)).at hg;have e5:rd1 t4 (.ptr pb (po+1))=some l2:=by
   have ⟨vs,h1',h2',h3'⟩:=hS;have hi':sg<vs.length:=by rw[h2'];exact hsg
   have hq:vs[sg]?=some vs[sg]:=gE hi';have ⟨pb1,po1,x1,_,x3⟩:=(h1'.sub (hdt kp3)).get (i:=sg) (r:=[vs[sg].1,vs[sg].2]) gR;have ⟨pb2,po2,y1,_,y3⟩:=(h1'.sub (hdt kp4)).get (i:=sg) (r:=[vs[sg].1,vs[sg].2]) gR;rw[e1]at x1 y1;cases x1;cases y1;have x4:=x3 1 oM;have y4:=y3 1 oM;rw[e4]at x4;rw[y4];exact x4.symm
  rw[e1]at e1';cases e1';rw[e5]at e4';have:=Option.some.inj e4';rw[this];exact q2'
 have ⟨p,g1,g2⟩:=q24.get (i:=ix) (by rw[lA];exact hix);have g3:(iz g.2)[ix]?=some (Ii (g.2[ix])):=by unfold iz;simp[hix]
 rw[g3]at g2;have hbd:=gok.2.2.2.2.2.2.1 _ (aN hix);have hmem:=aN hix;generalize g.2[ix]=bd at g2 hbd hmem;have c4:Hc t4 c0 52 cs:=by rw[u4 _ nc0];exact c3
 have z4:Hc t4 b2 182 [(Iq 0),(Iw 0),(Ii 0),(Ii 0)]:=by rw[u4 _ nb2];exact z3
 simp only[g1,g2,ae];refine aE (a:=hoC i (bd,sg,false,false)) rfl (aI λb9 t5 hb9 h5' u5=>cD h5' rfl rfl rfl λt6 h6 u6=>?_);have k6:=dp (u5.sub hb9) u6 hb9;have nb9:b9≠b:=(by grind [Tk.at])
 have n29:b2≠b9:=λe=>gR;have n09:c0≠b9:=λe=>gR;have s0b9:=eM tk4.sub hb9;have tb2:=eM k1 hb2;have s0b2:=eM h.sub tb2;have tb9:=eM k02 (by rw[<- u3 _ nb9,<- u4 _ nb9];exact hb9);have kp6:=kp4.trans (k6.keep (fp:=λi=>i=b));have ⟨d,hd⟩:∃d,B[bd]?=some d:=(by simp_all)
 have c6:=k6 _ _ c4;have bt:(hoC i (bd,sg,false,false))[2]?=some (Ii bd):=rfl;have ⟨pb6,po6,w1,_,w3⟩:=(hB.sub (hdt kp6)).get (i:=bd) (SJ hd);have w5:rd1 t6 (.ptr pb6 (po6+5))=some (Iw (gwN bd d.2)):=w3 5 oM;simp only[aK,au c6,h4,au h6,bt,w1,w5,cj,bJ,Bool.true_bne,ae];have fin2:∀(x:Hq) (on lone:Bool),(on=true->d.2=true)->Tk s0 x b->aV (λi=>i=b) t x->Hc x b9 182 (hoC i (bd,sg,on,lone))->Hc x b2 182 [(Iq 0),(Iw 0),(Ii 0),(Ii 0)]->DD (Pp b2) (Pp b9) K x:=λx on lone hon tk kp q1 q2=>by refine aE (bX q1 rfl) (cD q2 rfl rfl rfl λx2 q3 u3=>aE (bX q3 rfl) ?_);refine hK x2 (bd,sg,on,lone) (tk.u u3 s0b2 (Ne.symm nb2)) (λj e hj ne=>?_) ⟨⟨g,hg,hmem⟩,λe=>⟨d,hd,hon e⟩⟩;have e2:j≠b2:=λq=>gR;rw[u3 _ e2];exact kp _ _ hj ne
 have fin1:∀(x:Hq) (on:Bool),(on=true->d.2=true)->Tk s0 x b->aV (λi=>i=b) t x->Hc x b9 182 (hoC i (bd,sg,on,false))->Hc x b2 182 [(Iq 0),(Iw 0),(Ii 0),(Ii 0)]->DE (Pp b) (Pp b2) (Pp b9) K x:=λx on hon tk kp q1 q2=>by refine fz tk (n:=10) oM oM λx2 r hr tk2 u2=>?_;have q12:=q1;rw[<- u2 _ nb9]at q12;have q22:=q2;rw[<- u2 _ nb2]at q22;have kp2:=kp.trans (u2.keep (fp:=λi=>i=b) rfl);refine aL (λ_=>?_) (λ_=>gR);refine cw q12 (show 3<(hoC i (bd,sg,on,false)).length from by show 3<4;omega) rfl λx3 q3 u3=>?_;refine fin2 x3 on true hon (tk2.u u3 s0b9 (Ne.symm nb9)) (λj e hj ne=>?_) q3 (by rw[u3 _ n29];exact q22);have e2:j≠b9:=λq=>gR;rw[u3 _ e2];exact kp2 _ _ hj ne
 have z6:=k6 _ _ z4;refine aL (λcg=>?_) (λcg=>?_)
 rotate_left
 ·rw[cg]
  simp only[DF,ct,aR,ae];exact fin1 t6 false (λe=>by cases e) (tk4.more k6) kp6 h6 z6
 rw[cg];have hd2:d.2=true:=by
  grind [gwN]
 refine fz (tk4.more k6) (n:=6) oM oM λt7 r hr tk7 u7=>?_;have h7:Hc t7 b9 182 (hoC i (bd,sg,false,false)):=by rw[u7 _ nb9];exact h6
 have z7:=z6;rw[<- u7 _ nb2]at z7;have c7:Hc t7 c0 52 cs:=by rw[u7 _ nc0];exact c6
 have kp7:=kp6.trans (u7.keep (fp:=λi=>i=b) rfl);refine aL (λ_=>?_) (λ_=>gR);have ⟨pb7,po7,w1',_,w3'⟩:=(hB.sub (hdt kp7)).get (i:=bd) (SJ hd);have w6:rd1 t7 (.ptr pb7 (po7+3))=some (Iw (subN bd d.2)):=w3' 3 oM;have es:subN bd d.2=167772160+(bd:Int)*65536:=by rw[hd2];rfl
 rw[es]at w6;have hbd100:=oM;simp only[aK,zAY,au c7,h4,au h7,bt,w1',w6,bg,ae];rw[aT,n9 oM oM];simp only[bg,ae];rw[w32 oM oM];refine cw h7 (gR) rfl λt8 h8 u8=>?_;refine fin1 t8 true (λ_=>hd2) (tk7.u u8 s0b9 (Ne.symm nb9)) (λj e hj ne=>?_) h8 (by rw[u8 _ n29];exact z7);have e2:j≠b9:=λq=>gR;rw[u8 _ e2];exact kp7 _ _ hj ne
def offV(v:AV)(t:Hq):Hq:=match v with
 | .slc b _ _ _ _=>hdel t b
 |_=>t
theorem lB{v:AV}:Sub (offV v t) t:=λi x hi=>by
 unfold offV at hi;split at hi
 grind [hdel]
 exact hi
theorem gV{v:AV}{i:Nat}(h:∀b o n c e,v=.slc b o n c e->i≠b):offV v t i=t i:=by unfold offV;split;exact aj (h _ _ _ _ _ rfl);rfl
theorem _root_.Go.AM.AccR.offv{elem:ah}{es:Nat}{rows:List (List AV)}(h:AccR elem es s0 t v rows):AccR elem es (offV v t) t v rows:=by refine⟨h.1,h.2.imp id λ⟨i,q1,q2,q3⟩=>⟨i,?_,q2,q3⟩⟩;rw[q2];exact ak rfl
theorem _root_.Go.AM.AccR.own{elem:ah}{es:Nat}{rows:List (List AV)}(h:AccR elem es s0 t v rows){i:Nat}(hi:s0 i≠none):∀b o n c e,v=.slc b o n c e->i≠b:=λb o n c e q q2=>by
 rcases h.2 with⟨r,_⟩|⟨j,r1,r2,_⟩
 ·rw[r]at q;cases q
 grind
structure FS(el:ah)(s0 H t:Hq)(b3 b24:Nat)(cs:List AV):Prop where
 tk:Tk s0 t b3
 fb:Hc t b24 el cs
 sub:Sub H t
 n3:H b3=none
 n24:H b24=none
 base:Sub s0 H
 ne:b3≠b24
variable{el:ah}{H:Hq}{b3 b24:Nat}{cs:List AV}
def ext(H t:Hq)(b3 b24:Nat):Hq:=λi=>if i=b3∨i=b24 then t i else H i
theorem FS.f0(z:FS el s0 H t b3 b24 cs):s0 b24=none:=eM z.base z.n24
theorem FS.e1(z:FS el s0 H t b3 b24 cs){i:Nat}(h:i=b3∨i=b24):ext H t b3 b24 i=t i:=ak h
theorem FS.e2(z:FS el s0 H t b3 b24 cs):Sub H (ext H t b3 b24):=λi e hi=>by
 unfold ext
 grind [n3,n24]
theorem SL{elem:ah}{es k:Nat}{rows rows':List (List AV)}{v':AV}{t2 t3:Hq}{R:Hq->Prop}(z:FS el s0 H t b3 b24 cs)(acc:AccR elem es (ext H t b3 b24) t v rows)(kp:aV (λi=>i=b3) t t2)(tk2:t2 b3≠none)(a3:AccR elem es (offV v t2) t3 v' rows')(ko:aV (λi=>i=b3) (offV v t2) t3)(tk3:Tk s0 t3 b3)(hk:k<cs.length)
  (hK:∀t4 H',FS el s0 H' t4 b3 b24 (cs.set k v')->AccR elem es (ext H' t4 b3 b24) t4 v' rows'->Sub H H'->(∀i e,t2 i=some e->i≠b3->i≠b24->(∀b o n c e,v=.slc b o n c e->i≠b)->H' i=some e)->R t4) :
  oK (wr1 t3 (.ptr b24 k) v') R:=by
 have n3:∀b o n c e,v=.slc b o n c e->b3≠b:=acc.own (by rw[z.e1 (.inl rfl)];exact z.tk.at);have n24:∀b o n c e,v=.slc b o n c e->b24≠b:=acc.own (by rw[z.e1 (.inr rfl),z.fb];simp);have nH:∀{i e},H i=some e->∀b o n c e,v=.slc b o n c e->i≠b:=fun {i e} hi=>acc.own (by rw[z.e2 _ _ hi];simp);have fb3:Hc t3 b24 el cs:=ko _ _ (by rw[gV n24];exact kp _ _ z.fb (Ne.symm z.ne)) (Ne.symm z.ne);refine cw fb3 hk a3.sl.one λt4 h4 u4=>?_;have cb:∀c o n cp e,v'=.slc c o n cp e->offV v t2 c=none/\t3 c≠none:=λc o n cp e q=>by
  rcases a3.2 with⟨r,_⟩|⟨j,r1,r2,r3⟩
  ·rw[r]at q;cases q
  grind
 have m3:∀c o n cp e,v'=.slc c o n cp e->b3≠c:=(by grind [gV])
 have m24:∀c o n cp e,v'=.slc c o n cp e->b24≠c:=λc o n cp e q q2=>by have:=(cb c o n cp e q).1;rw[<- q2,gV n24,kp _ _ z.fb (Ne.symm z.ne)]at this;cases this
 have hH':∃H':Hq,H'=λi=>if i=b3∨i=b24 then none else offV v' t4 i:=⟨_,rfl⟩
 have ⟨H',hH'⟩:=hH';have H'at:∀{i e},t2 i=some e->i≠b3->i≠b24->(∀b o n c e,v=.slc b o n c e->i≠b)->H' i=some e:=fun {i e} hi i1 i2 i3=>by
  have hi3:=ko i e (by rw[gV i3];exact hi) i1;rw[hH'];show(if i=b3∨i=b24 then none else offV v' t4 i)=some e;rw[aj (by rintro (q|q)<;>contradiction),gV,u4 _ i2];exact hi3
  grind [gV]
 have HH:Sub H H':=λi e hi=>by
  have i1:i≠b3:=(by grind [FS.n3])
  have i2:i≠b24:=(by grind [FS.n24])
  exact H'at (kp _ _ (z.sub _ _ hi) i1) i1 i2 (nH hi)
 have sH:Sub H' t4:=λi e hi=>by
  rw[hH']at hi;have hi:(if i=b3∨i=b24 then none else offV v' t4 i)=some e:=hi;split at hi
  ·cases hi
  exact lB _ _ hi
 have tk4:Tk s0 t4 b3:=tk3.u u4 z.f0 z.ne;refine hK t4 H' ⟨tk4,h4,sH,by rw[hH'];simp,by rw[hH'];simp,z.base.trans HH,z.ne⟩ ⟨a3.1,a3.2.imp id λ⟨c,q0,q1,q2⟩=>⟨c,?_,q1,?_⟩⟩ HH λi e=>H'at
 unfold ext;rw[aj (by rintro (q|q);exact m3 c _ _ _ _ q1 q.symm;exact m24 c _ _ _ _ q1 q.symm),hH'];show(if c=b3∨c=b24 then none else offV v' t4 c)=none;rw[q1];split;rfl;exact ak rfl;rw[u4 _ (Ne.symm (m24 c _ _ _ _ q1))];exact q2
theorem vf{elem:ah}{es:Nat}{rows:List (List AV)}{t2:Hq}(z:FS el s0 H t b3 b24 cs)(acc:AccR elem es (ext H t b3 b24) t v rows)(kp:aV (λi=>i=b3) t t2):AccR elem es (offV v t2) t2 v rows:=by
 have n3:∀b o n c e,v=.slc b o n c e->b3≠b:=acc.own (by rw[z.e1 (.inl rfl)];exact z.tk.at);have acc2:AccR elem es (ext H t b3 b24) t2 v rows:=⟨acc.1,acc.2.imp id λ⟨c,q0,q1,q2⟩=>⟨c,q0,q1,kp _ _ q2 λe=>n3 c 0 _ _ _ q1 e.symm⟩⟩
 exact acc2.offv
theorem vg{elem:ah}{es:Nat}{rows:List (List AV)}{t2:Hq}(z:FS el s0 H t b3 b24 cs)(acc:AccR elem es (ext H t b3 b24) t v rows)(tk2:Tk s0 t2 b3):Tk s0 (offV v t2) b3:=by have n3:∀b o n c e,v=.slc b o n c e->b3≠b:=acc.own (by rw[z.e1 (.inl rfl)];exact z.tk.at);have ⟨lv,l',i',q',q''⟩:=tk2.ex;refine⟨λj e hj=>?_,z.tk.fr,lv,l',i',by rw[gV n3];exact q',q''⟩;rw[gV (acc.own (by rw[z.e2 _ _ (z.base _ _ hj)];simp))];exact tk2.sub _ _ hj
theorem push{elem:ah}{es k:Nat}{rows:List (List AV)}{row:List AV}{t2:Hq}{R:Hq->Prop}(z:FS el s0 H t b3 b24 cs)(acc:AccR elem es (ext H t b3 b24) t v rows)(kp:aV (λi=>i=b3) t t2)(tk2:Tk s0 t2 b3)(hy:SlR es t2 y [row])(hl:rows.length<=1000)(hk:k<cs.length)
  (hK:∀v' t4 H',FS el s0 H' t4 b3 b24 (cs.set k v')->AccR elem es (ext H' t4 b3 b24) t4 v' (rows ++ [row])->Sub H H'->(∀i e,t2 i=some e->i≠b3->i≠b24->(∀b o n c e,v=.slc b o n c e->i≠b)->H' i=some e)->R t4) :
  appK elem es v y (λv' t3=>oK (wr1 t3 (.ptr b24 k) v') R) t2:=by
 refine(vf z acc kp).app hy sI gR lB λv' t3 a3 k3=>?_;exact SL z acc kp tk2.at a3 k3.keep ((vg z acc tk2).more k3) hk gR
theorem FS.step(z:FS el s0 H t b3 b24 cs){t2:Hq}(kp:aV (λi=>i=b3) t t2)(tk2:Tk s0 t2 b3):FS el s0 H t2 b3 b24 cs:=
 ⟨tk2,kp _ _ z.fb (Ne.symm z.ne),λi e hi=>kp _ _ (z.sub _ _ hi) λq=>(by grind [n3]),z.n3,z.n24,z.base,z.ne⟩
theorem finish{elem:ah}{es b0:Nat}{rows:List (List AV)}(z:FS el s0 H t b3 b24 cs)(acc:AccR elem es (ext H t b3 b24) t v rows)(hb0:H b0≠none):∃H2,FS el s0 H2 t b3 b24 cs/\Sub H H2/\SlR es (hdel H2 b0) v rows:=by
 refine⟨λi=>if i=b3∨i=b24 then none else t i,⟨z.tk,z.fb,λi e hi=>?_,sI,sI,λi e hi=>?_,z.ne⟩,λi e hi=>?_,?_⟩
 grind
 have h1:=z.base _ _ hi;show(if i=b3∨i=b24 then none else t i)=some e;rw[aj];exact z.sub _ _ h1
 grind [FS.n3,FS.n24]
 show(if i=b3∨i=b24 then none else t i)=some e;rw[aj];exact z.sub _ _ hi
 grind [FS.n3,FS.n24]
 ·refine⟨acc.1,?_⟩
  rcases acc.2 with q|⟨c,q0,q1,q2⟩;exact .inl q
  ·have c3:c≠b3:=(by grind [FS.e1])
   have c24:c≠b24:=(by grind [FS.e1])
   have c0:c≠b0:=λe=>by
    rw[e]at q0;cases h:H b0 with
    |none=>exact hb0 h
    |some x=>rw[z.e2 _ _ h]at q0;cases q0
   have:=AccR.sl (s:=hdel (λi=>if i=b3∨i=b24 then none else t i) b0) (s0:=s0) (elem:=elem) (es:=es) (v:=v) (rows:=rows) ⟨acc.1,.inr ⟨c,eM z.base (eM z.e2 q0),q1,by
    grind [dL]⟩⟩
   exact this.2
theorem JD{q b:Nat}{t':Hq}(hq:t q≠none)(kp:aV (λi=>i=b) (hdel t q) t')(hh:∀i,t i≠none->hdel t q i=none->t' i=none):aV (λi=>i=b) t (add t' (rest t (hdel t q))):=λi e hi ne=>by
 by_cases e1:i=q
 grind [cC,hdel,rest]
 exact cU (kp _ _ (by rw[dL e1];exact hi) ne)
theorem Tk.hid{q:Nat}(h:Tk s0 t b)(hq:s0 q=none)(hb:b≠q):Tk s0 (hdel t q) b:=by have ⟨lv,l',i',q',q''⟩:=h.ex;refine⟨λj e hj=>?_,h.fr,lv,l',i',by rw[dL hb];exact q',q''⟩;have ne:j≠q:=λe=>gR;rw[dL ne];exact h.sub _ _ hj
variable{w:AV}{b0:Nat}
def Fv(s0:Hq)(v:AV):Prop:=∀b o n c e,v=.slc b o n c e->s0 b=none
structure NX where
 lf:Nat
 sp:Nat
 el:Nat
 hz:Nat
 ro:Nat
 su:Bool
 tr:Bool
 de:Nat
 ag:Nat
structure NXok(x:NX):Prop where
 lf:2<=x.lf/\x.lf<=4
 sp:1<=x.sp/\x.sp<=3
 el:x.el<=2
 hz:x.hz<=1
 ro:x.ro<=1
 de:1<=x.de/\x.de<=3
 ag:40<=x.ag/\x.ag<=69
def csF(x:NX)(v2 v3 v4 v5 v6 v7:AV):List AV:=[x.lf,x.sp,v2,v3,v4,v5,v6,v7,x.el,x.hz,x.ro,x.su,x.tr,x.de,Ii 9,x.ag,Ii 20,Ii 5,Ii 30]
def tnC(i:Nat):List AV:=[Iw (100+(i:Int)),Iw (900+(i:Int))]
def jq(n:Nat):List (List AV):=(List.range n).map tnC
theorem JE{n:Nat}:(jq n).length=n:=by unfold jq;simp
theorem JF{n:Nat}:jq (n+1)=jq n ++ [tnC n]:=by unfold jq;rw[range_succ,bM];rfl
structure NFab where
 x:NX
 L:List RLk
 n:Nat
 B:List Bd
 S:List Sg
 H:List Hst
 G:List Lkg
structure NFok(F:NFab):Prop where
 x:NXok F.x
 L:LkOk F.x.lf F.x.sp F.L
 Ln:F.L.length<=12
 n:1<=F.n/\F.n<=3
 Bn:1<=F.B.length/\F.B.length<=4
 B:∀x∈F.B,x.1<F.n
 Sn:2<=F.S.length/\F.S.length<=6
 S:∀x∈F.S,SgOk F.x.lf F.B.length x
 Hn:F.H.length<=8
 H:∀x∈F.H,HoOk F.B F.S x
 Gn:F.G.length<=2
 G:F.G.Nodup/\∀x∈F.G,LgOk F.n x
structure NFR(s:Hq)(cs:List AV)(F:NFab):Prop where
 ex:∃v2 v3 v4 v5 v6 v7,cs=csF F.x v2 v3 v4 v5 v6 v7/\SlR 3 s v2 (F.L.map lkC)/\SlR 2 s v3 (jq F.n)/\SlR 6 s v4 (iK F.B)/\SgR s v5 F.S/\SlR 4 s v6 (jp F.H)/\SlR 4 s v7 (F.G.map lgC)
theorem i7(k:Sub s s'):Sub (hdel s b) (hdel s' b):=λi e hi=>by
 unfold hdel at hi ⊢;split at hi
 ·cases hi
 rename_i ne;rw[aj ne];exact k _ _ hi
theorem vh:Sub (hdel s b) s:=λi e hi=>by
 unfold hdel at hi;split at hi
 ·cases hi
 exact hi
def offB(t:Hq)(b3 b24:Nat):Hq:=λi=>if i=b3∨i=b24 then none else t i
theorem vi{q b:Nat}{t':Hq}(z:FS el s0 H t b q cs)(tk':Tk s0 t' b)(kp:aV (λi=>i=b) (hdel t q) t')(hh:∀i,t i≠none->hdel t q i=none->t' i=none):
  aV (λi=>i=b) t (add t' (rest t (hdel t q)))/\Tk s0 (add t' (rest t (hdel t q))) b/\FS el s0 H (add t' (rest t (hdel t q))) b q cs:=
 have h1:=JD (t:=t) (q:=q) (b:=b) (t':=t') (by rw[z.fb];simp) kp hh
 (by grind [iD,Tk.more,FS.step])
theorem SN{q:Nat}(hq:H q=none)(k:Sub H t):Sub H (hdel t q):=λi e hi=>by rw[dL (dZ hq hi)];exact k _ _ hi
theorem NFR.sub{F:NFab}(h:NFR s cs F)(k:Sub s s'):NFR s' cs F:=by have ⟨v2,v3,v4,v5,v6,v7,e,h2,h3,h4,h5,h6,h7⟩:=h.ex;exact⟨v2,v3,v4,v5,v6,v7,e,h2.sub k,h3.sub k,h4.sub k,h5.sub k,h6.sub k,h7.sub k⟩
theorem NFR.len{F:NFab}(h:NFR s cs F):cs.length=19:=by obtain⟨v2,v3,v4,v5,v6,v7,rfl,_⟩:=h.ex;rfl
theorem NFR.all{F:NFab}(h:NFR s cs F):aX cs=true:=by
 obtain⟨v2,v3,v4,v5,v6,v7,rfl,h2,h3,h4,h5,h6,h7⟩:=h.ex
 grind [csF,dh,rZ,SlR.one,SgR.one,xj,xk]
theorem JG{F:NFab}{zs:List AV}(z:FS 52 s0 H t b3 b24 cs)(hb0:Hc H b0 52 zs)(hz:zs.length=19)(h0:s0 b0=none)(hF:NFR (hdel H b0) cs F)(hok:NFok F)(hf:∀v,cs[6]?=some v->Fv s0 v)(hK:∀t' cs F,Sub s0 t'->NFok F->NFR t' cs F->(∀v,cs[6]?=some v->Fv s0 v)->K (.agg cs) t'):mc (Pp b0) (Pp b24) K t:=by
 refine aE (bX z.fb hF.len) (cD (z.sub _ _ hb0) (by rw[hF.len,hz]) hz hF.all λt' h1 u1=>aE (bX h1 hF.len) ?_);refine hK t' cs F (λi e hi=>?_) hok (hF.sub λi e hi=>?_) hf;rw[u1 i (dZ h0 hi)];exact z.sub _ _ (z.base _ _ hi)
 ·unfold hdel at hi
  split at hi
  ·cases hi
  rename_i ne;rw[u1 i ne];exact z.sub _ _ hi
variable{x:NX}{v2 v3 v4 v5 v6 v7:AV}{z0:Bool × Blk}{R:Hq→Prop}{n many:Nat}
theorem JH(hR:∀a b,Sub a b->R a->R b)(hn:2<=n)(hn2:n<=3)(hm:many<=2)(z:FS 52 s0 H t b3 b24 (csF x v2 v3 v4 v5 v6 .nilslc))(hb0:H b0=some z0)(r:R (hdel H b0))
  (fin:∀(t H:Hq) (v:AV) (G:List Lkg),FS 52 s0 H t b3 b24 (csF x v2 v3 v4 v5 v6 v)->H b0=some z0->R (hdel H b0)->SlR 4 (hdel H b0) v (G.map lgC)->G.length<=2->G.Nodup->(∀x∈G,LgOk n x)->mc (Pp b0) (Pp b24) K t) :
  ∃I5:List AV->Hq->Nat->Prop,(∃m,I5 [(Ii 0)] t m)/\∀(f:Env) (s:Hq) (m5:Nat),I5 [f 11] s m5->Dt (Pp b0) (Pp b3) (Pp b24) many n (f 11) I5 m5 K s:=by
 refine⟨λys t m=>∃(i:Nat) (H:Hq) (v:AV) (G:List Lkg),ys=[Ii i]/\i<=many/\m=many-i/\FS 52 s0 H t b3 b24 (csF x v2 v3 v4 v5 v6 v)/\H b0=some z0/\R (hdel H b0)/\AccR 186 4 (ext H t b3 b24) t v (G.map lgC)/\G.length<=i/\G.Nodup/\∀x∈G,LgOk n x,⟨_,0,H,.nilslc,[],rfl,oM,rfl,z,hb0,r,⟨λr h=>(by cases h),.inl ⟨rfl,rfl⟩⟩,sI,.nil,sI⟩,?_⟩;rintro f t m ⟨i,H,v,G,hy,hi,rfl,z,hb0,r,acc,hG1,hG2,hG3⟩;simp only[cI,aq]at hy;rw[hy];simp only[Dt,bu,ae,aS];refine aL (λhlt=>?_) (λhge=>?_);have hlt:i<many:=gR;simp only[aK,zAY,ae];refine⟨oneH t b24,rV,aE (a:=v) (by rw[au (lW z.fb)];rfl) (rW ?_)⟩;refine Ju (z.tk.hid z.f0 z.ne) hn oM λt1 g tk1 kp1 gok=>?_;intro hh;have ⟨kp,tk2,z2⟩:=vi z tk1 kp1 hh;rw[unlock (xf (z2.fb.trans z.fb.symm))];generalize add t1 (rest t (hdel t b24))=t2 at kp tk2 z2 ⊢;refine Jy (t0:=offV v t2) (vg z acc tk2) tk2 lB.keep (vf z acc kp) oM gok.2.2.2 (λy hy=>(hG3 y hy).2.2.2) λv' t3 G' tk3 kp3 acc3 hG'=>?_;refine SL z acc kp tk2.at acc3 kp3 tk3 (by show 7<19;omega) λt4 H' z4 acc4 hHH _=>?_;simp only[bg,ae];rw[aT];refine⟨_,oM,i+1,H',v',G',rfl,oM,rfl,z4,hHH _ _ hb0,hR _ _ (i7 hHH) r,acc4,?_⟩;rcases hG' with rfl|⟨q1,rfl⟩
 grind
 grind
 have ⟨H2,z2,k2,sl⟩:=finish (b0:=b0) z acc (by rw[hb0];simp);exact fin t H2 v G z2 (k2 _ _ hb0) (hR _ _ (i7 k2) r) sl oM hG2 hG3
theorem JI(hR:∀a b,Sub a b->R a->R b){B:List Bd}{S:List Sg}{lf:Nat}(rT:∀a,R a->SlR 2 a v3 (jq n))(rB:∀a,R a->SlR 6 a v4 (iK B))(rS:∀a,R a->SgR a v5 S)(hn:n<=3)(hm:many<=8)(hB:B.length<=4)(hS:2<=S.length/\S.length<=6)(okS:∀x∈S,SgOk lf B.length x)(z:FS 52 s0 H t b3 b24 (csF x v2 v3 v4 v5 .nilslc .nilslc))(hb0:H b0=some z0)(r:R (hdel H b0))
  (ho:∀v6 v7:AV,v6.one=true->v7.one=true->aX (csF x v2 v3 v4 v5 v6 v7)=true)
  (fin:∀(t H:Hq) (v6 v7:AV) (Hs:List Hst) (G:List Lkg),FS 52 s0 H t b3 b24 (csF x v2 v3 v4 v5 v6 v7)->H b0=some z0->R (hdel H b0)->SlR 4 (hdel H b0) v6 (jp Hs)/\Fv s0 v6->Hs.length<=8->(∀x∈Hs,HoOk B S x)->SlR 4 (hdel H b0) v7 (G.map lgC)->G.length<=2->G.Nodup->(∀x∈G,LgOk n x)->mc (Pp b0) (Pp b24) K t) :
  ∃I3:List AV->Hq->Nat->Prop,(∃m,I3 [(Ii 0)] t m)/\∀(f:Env) (s:Hq) (m3:Nat),I3 [f 9] s m3->Du (Pp b0) (Pp b3) (Pp b24) many (f 9) I3 m3 K s:=by
 refine⟨λys t m=>∃(i:Nat) (H:Hq) (v:AV) (Hs:List Hst),ys=[Ii i]/\i<=many/\m=many-i/\FS 52 s0 H t b3 b24 (csF x v2 v3 v4 v5 v .nilslc)/\H b0=some z0/\R (hdel H b0)/\AccR 182 4 (ext H t b3 b24) t v (jp Hs)/\Hs.length=i/\∀x∈Hs,HoOk B S x,⟨_,0,H,.nilslc,[],rfl,oM,rfl,z,hb0,r,⟨λr h=>(by cases h),.inl ⟨rfl,rfl⟩⟩,sI,sI⟩,?_⟩;rintro f t m ⟨i,H,v,Hs,hy,hi,rfl,z,hb0,r,acc,hl,hHs⟩;simp only[cI,aq]at hy;rw[hy];simp only[Du,bu,ae,bG,aS];refine aL (λhlt=>?_) (λhge=>?_);have hlt:i<many:=gR;simp only[aK,zAY,ae];refine⟨oneH t b24,rV,aE (a:=v) (by rw[au (lW z.fb)];rfl) (aE (bX (lW z.fb) rfl) (rW ?_))⟩;have hk:Sub (hdel H b0) (hdel (hdel t b24) b3):=vh.trans (SN z.n3 (SN z.n24 z.sub));refine JC (z.tk.hid z.f0 z.ne) oM rfl (ho _ _ acc.sl.one rfl) rfl rfl ((rB _ r).sub hk) ((rS _ r).sub hk) oM oM okS oM λt1 g tk1 kp1 gok=>?_;intro hh;have ⟨kp,tk2,z2⟩:=vi z tk1 kp1 hh;refine aE (kx (zs:=[(Iq 0),(Iw 0),(Ii 0),(Ii 0)]) (c:=hoC i g) rfl) ⟨rfl,rU (xf (z2.fb.trans z.fb.symm)) (aI λd t3 hd h2 u2 hs3=>?_)⟩;rw[unlock hs3];have k3:=u2.sub hd;refine push z acc (kp.trans k3.keep) (tk2.more k3) (row1 h2 rfl) (by rw[JA];omega) (by show 6<19;omega) λv' t4 H' z4 acc4 hHH _=>?_;simp only[bg,ae];rw[aT];refine⟨_,oM,i+1,H',v',Hs ++ [g],rfl,oM,rfl,z4,hHH _ _ hb0,hR _ _ (i7 hHH) r,by grind [JB],gR,λy hy=>?_⟩
 grind
 ·have ⟨H2,z2,k2,sl⟩:=finish (b0:=b0) z acc (by rw[hb0];simp)
  have r2:=hR _ _ (i7 k2) r;have fv:Fv s0 v:=λb o n c e q=>by
   rcases acc.2 with⟨r,_⟩|⟨d,h0,r,_⟩
   ·rw[r]at q;cases q
   ·rw[r]at q;cases q;exact eM (z.base.trans z.e2) h0
  simp only[aK,zAY,ae];refine aE (a:=v3) (by rw[au z.fb];rfl) (aE (a:=n) (by grind [JE,SlR.len]) ?_);simp only[dy,ae];refine aL (λhg=>?_) (λ_=>?_);have hg:2<=n:=gR;refine fz z2.tk (n:=3) oM oM λt5 m5 hm5 tk5 u5=>?_;refine JH (R:=λa=>R a/\SlR 4 a v (jp Hs)) ((by grind [SlR.sub])) hg hn oM (z2.step (u5.keep rfl) tk5) (k2 _ _ hb0) ⟨r2,sl⟩ λt' H' v' G z' hb' r' sl' g1 g2 g3=>?_;exact fin t' H' v v' Hs G z' hb' r'.1 ⟨r'.2,fv⟩ oM hHs sl' g1 g2 g3
  ·exact fin t H2 v .nilslc Hs [] z2 (k2 _ _ hb0) r2 ⟨sl,fv⟩ oM hHs ⟨λr h=>(by cases h),.inl ⟨rfl,rfl⟩⟩ sI .nil sI
theorem Av{elem:ah}{es:Nat}{rows:List (List AV)}{t2:Hq}(z:FS el s0 H t b3 b24 cs)(acc:AccR elem es (ext H t b3 b24) t v rows)(kp:aV (λi=>i=b3) t t2):AccR elem es (ext H t2 b3 b24) t2 v rows:=by
 have n3:=acc.own (by rw[z.e1 (.inl rfl)];exact z.tk.at);have n24:=acc.own (by rw[z.e1 (.inr rfl),z.fb];simp);refine⟨acc.1,acc.2.imp id λ⟨c,q0,q1,q2⟩=>⟨c,?_,q1,kp _ _ q2 λe=>n3 c 0 _ _ _ q1 e.symm⟩⟩;have h:¬(c=b3∨c=b24):=by
  grind
 simp_all [ext]
theorem vj{t':Hq}{rows:List (List AV)}(z:FS el s0 H t b3 b24 cs)(acc:AccR 163 2 (ext H t b3 b24) t v rows)(hb0:H b0≠none)(hh:∀i,t i≠none->hdel t b24 i=none->t' i=none){l:List Nat}(ne:l≠[])(h:Acc 3 (hdel t b24) t' w (iz l)∨∃c,hdel t b24 c=none/\w=.slc c 0 1 (some 1) 1/\Hc t' c 3 (iz l)/\l.length=1):
  ∃c cap,w=.slc c 0 (iz l).length cap 1/\(∀k,cap=some k->(iz l).length<=k)/\Hc t' c 3 (iz l)/\c≠b3/\c≠b24/\c≠b0/\∀b o n cp e,v=.slc b o n cp e->c≠b:=by
 obtain⟨c,cap,h1,h2,h3,h4⟩:∃c cap,w=.slc c 0 (iz l).length cap 1/\(∀k,cap=some k->(iz l).length<=k)/\hdel t b24 c=none/\Hc t' c 3 (iz l):=by
  rcases h with(⟨_,q⟩|⟨c,q1,q2,q3⟩)|⟨c,q1,q2,q3,q4⟩
  grind [iz]
  grind
  grind [lA]
 have n24:c≠b24:=λe=>by
  have:=hh b24 (by rw[z.fb];simp) (by simp[hdel])
  grind
 have tc:t c=none:=gR;refine⟨c,cap,h1,h2,h4,λe=>z.tk.at (by rw[<- e];exact tc),n24,λe=>?_,λb o n cp e' q e=>?_⟩
 ·cases q:H b0 with
  |none=>exact hb0 q
  |some x=>rw[e,z.sub _ _ q]at tc;cases tc
 ·rcases acc.2 with⟨r,_⟩|⟨j,r1,r2,r3⟩
  ·rw[r]at q;cases q
  grind
theorem JJ(hR:∀a b,Sub a b->R a->R b){B:List Bd}(rT:∀a,R a->SlR 2 a v3 (jq n))(rB:∀a,R a->SlR 6 a v4 (iK B))(hx:1<=x.lf/\x.lf<=10)(hn:n<=3)(hm:2<=many/\many<=6)(hB:1<=B.length/\B.length<=4)(z:FS 52 s0 H t b3 b24 (csF x v2 v3 v4 .nilslc .nilslc .nilslc))(hb0:H b0=some z0)(r:R (hdel H b0))
  (ho:∀v5 v6 v7:AV,v5.one=true->v6.one=true->v7.one=true->aX (csF x v2 v3 v4 v5 v6 v7)=true)
  (fin:∀(t H:Hq) (v5 v6 v7:AV) (S:List Sg) (Hs:List Hst) (G:List Lkg),FS 52 s0 H t b3 b24 (csF x v2 v3 v4 v5 v6 v7)->H b0=some z0->R (hdel H b0)->SgR (hdel H b0) v5 S->2<=S.length/\S.length<=6->(∀y∈S,SgOk x.lf B.length y)->SlR 4 (hdel H b0) v6 (jp Hs)/\Fv s0 v6->Hs.length<=8->(∀x∈Hs,HoOk B S x)->SlR 4 (hdel H b0) v7 (G.map lgC)->G.length<=2->G.Nodup->(∀x∈G,LgOk n x)->mc (Pp b0) (Pp b24) K t) :
  ∃I2:List AV->Hq->Nat->Prop,(∃m,I2 [(Ii 0)] t m)/\∀(f:Env) (s:Hq) (m2:Nat),I2 [f 8] s m2->Dv (Pp b0) (Pp b3) (Pp b24) many (f 8) I2 m2 K s:=by
 refine⟨λys t m=>∃(i:Nat) (H:Hq) (v:AV) (S:List Sg) (vs:List (AV×AV)),ys=[Ii i]/\i<=many/\m=many-i/\FS 52 s0 H t b3 b24 (csF x v2 v3 v4 v .nilslc .nilslc)/\H b0=some z0/\R (hdel H b0)/\AccR 163 2 (ext H t b3 b24) t v (vs.map λp=>[p.1,p.2])/\vs.length=S.length/\(∀(i:Nat) (q:AV×AV) (x:Sg),vs[i]?=some q->S[i]?=some x->Sl (hdel H b0) q.1 (iz x.1)/\Sl (hdel H b0) q.2 (iz x.2))/\S.length=i/\∀y∈S,SgOk x.lf B.length y,⟨_,0,H,.nilslc,[],[],rfl,oM,rfl,z,hb0,r,⟨λr h=>(by cases h),.inl ⟨rfl,rfl⟩⟩,rfl,sI,sI,sI⟩,?_⟩;rintro f t m ⟨i,H,v,S,vs,hy,hi,rfl,z,hb0,r,acc,hvs,hq,hl,hS⟩;simp only[cI,aq]at hy;rw[hy];simp only[Dv,bu,ae,bG,aS];refine aL (λhlt=>?_) (λhge=>?_)
 ·have hlt:i<many:=gR
  simp only[aK,zAY,ae];refine⟨oneH t b24,rV,aE (a:=v) (by rw[au (lW z.fb)];rfl) (aE (a:=x.lf) (by rw[au (lW z.fb)];rfl) (aE (a:=v4) (by rw[au (lW z.fb)];rfl) (aE (a:=B.length) (by grind [SK,SlR.len]) (rW ?_))))⟩;refine tV (z.tk.hid z.f0 z.ne) hx.1 oM (most:=3) oM oM λt1 w1 l1 tk1 kp1 acc1 asc1 ne1 lt1 len1=>?_;intro hh;have ⟨kp,tk2,z2⟩:=vi z tk1 kp1 hh;obtain⟨c1,cap1,ew1,ec1,et1,n13,n124,n10,n1v⟩:=vj z acc (by rw[hb0];simp) hh ne1 acc1;have et1:add t1 (rest t (hdel t b24)) c1=some (false,.cells 3 (iz l1)):=cU et1;generalize add t1 (rest t (hdel t b24))=t2 at kp tk2 z2 et1 ⊢;rw[CL (z2.fb.trans z.fb.symm)];refine rW ?_;refine tV (z2.tk.hid z2.f0 z2.ne) hB.1 oM (most:=4) oM oM λt3 w2 l2 tk3 kp3 acc3 asc3 ne3 lt3 len3=>?_;intro hh3;have ⟨kp4,tk4,z4⟩:=vi z2 tk3 kp3 hh3;have accs:=Av z acc kp;obtain⟨c2,cap2,ew2,ec2,et2,n23,n224,n20,n2v⟩:=vj z2 accs (by rw[hb0];simp) hh3 ne3 acc3;have et2:add t3 (rest t2 (hdel t2 b24)) c2=some (false,.cells 3 (iz l2)):=cU et2;generalize add t3 (rest t2 (hdel t2 b24))=t4 at kp4 tk4 z4 et2 ⊢;have et14:=kp4 _ _ et1 n13;have o1:w1.one=true:=by rw[ew1];rfl
  have o2:w2.one=true:=by rw[ew2];rfl
  refine aE (a:=[w1,w2]) (by rw[ew1,ew2];rfl) (aE (kx (zs:=[.nilslc,.nilslc]) (c:=[w1,w2]) rfl) ⟨by simp[o1,o2],rU (xf (z4.fb.trans z2.fb.symm)) (aI λd t5 hd h2 u2 hs5=>?_)⟩);rw[unlock hs5];have k5:=u2.sub hd;refine push z acc ((kp.trans kp4).trans k5.keep) (tk4.more k5) (row1 h2 rfl) gR (by show 5<19;omega) λv' t6 H' z6 acc6 hHH hnew=>?_;simp only[bg,ae];rw[aT];have a1:Sl (hdel H' b0) w1 (iz l1):=by rw[ew1];exact Sl.mk (t:=false) (e:=3) (by rw[dL n10];exact hnew _ _ (k5 _ _ et14) n13 n124 n1v) rfl ec1
  have a2:Sl (hdel H' b0) w2 (iz l2):=by rw[ew2];exact Sl.mk (t:=false) (e:=3) (by rw[dL n20];exact hnew _ _ (k5 _ _ et2) n23 n224 n2v) rfl ec2
  refine⟨_,oM,i+1,H',v',S ++ [(l1,l2)],vs ++ [(w1,w2)],rfl,oM,rfl,z6,hHH _ _ hb0,hR _ _ (i7 hHH) r,by rw[bM];exact acc6,by rw[lAp,lAp,hvs];rfl,λj q g hj hg=>?_,by rw[lAp,hl];rfl,λy hy=>?_⟩
  ·rcases Nat.lt_or_ge j vs.length with e|e
   rw[da e]at hj;rw[da oM]at hg;have ⟨m1,m2⟩:=hq j q g hj hg;exact⟨m1.sub (i7 hHH),m2.sub (i7 hHH)⟩
   ·rw[ez e]at hj
    rw[ez oM]at hg;have:j-vs.length=0:=by
     rcases eq_zero_or_pos (j-vs.length)with h|h;exact h
     ·rw[getElem?_eq_none (by simp only[length_singleton];omega)]at hj;cases hj
    grind
  rcases mP hy with q|q;exact hS y q;rw[mem_singleton]at q;rw[q];exact⟨asc1,ne1,lt1,len1,asc3,ne3,lt3,len3⟩
 have hge:i=many:=gR;subst hge;refine fz z.tk (n:=9) oM oM λt5 m5 hm5 tk5 u5=>?_;have z5:=z.step (u5.keep rfl) tk5;have acc5:=Av z acc (u5.keep rfl);have ⟨H2,z2,k2,sl⟩:=finish (b0:=b0) z5 acc5 (by rw[hb0];simp);have r2:=hR _ _ (i7 k2) r;have sg:SgR (hdel H2 b0) v S:=⟨vs,sl,hvs,(by grind [i7,Sl.sub])⟩
 refine JI (R:=λa=>R a/\SgR a v S) (B:=B) (S:=S) (lf:=x.lf) ((by grind [SgR.sub])) (λa q=>rT a q.1) (λa q=>rB a q.1) (λa q=>q.2) hn oM hB.2 oM hS z2 (k2 _ _ hb0) ⟨r2,sg⟩ ((by grind [SgR.one])) λt' H' v6 v7 Hs G z' hb' r' q1 q2 q3 q4 q5 q6 q7=>?_;exact fin t' H' v v6 v7 S Hs G z' hb' r'.1 r'.2 oM hS q1 q2 q3 q4 q5 q6 q7
theorem JK(hR:∀a b,Sub a b->R a->R b)(rT:∀a,R a->SlR 2 a v3 (jq n))(hx:1<=x.lf/\x.lf<=10)(hn:1<=n/\n<=3)(hm:1<=many/\many<=4)(z:FS 52 s0 H t b3 b24 (csF x v2 v3 .nilslc .nilslc .nilslc .nilslc))(hb0:H b0=some z0)(r:R (hdel H b0))
  (ho:∀v4 v5 v6 v7:AV,v4.one=true->v5.one=true->v6.one=true->v7.one=true->aX (csF x v2 v3 v4 v5 v6 v7)=true)
  (fin:∀(t H:Hq) (v4 v5 v6 v7:AV) (B:List Bd) (S:List Sg) (Hs:List Hst) (G:List Lkg),FS 52 s0 H t b3 b24 (csF x v2 v3 v4 v5 v6 v7)->H b0=some z0->R (hdel H b0)->SlR 6 (hdel H b0) v4 (iK B)->1<=B.length/\B.length<=4->(∀y∈B,y.1<n)->SgR (hdel H b0) v5 S->2<=S.length/\S.length<=6->(∀y∈S,SgOk x.lf B.length y)->SlR 4 (hdel H b0) v6 (jp Hs)/\Fv s0 v6->Hs.length<=8->(∀x∈Hs,HoOk B S x)->SlR 4 (hdel H b0) v7 (G.map lgC)->G.length<=2->G.Nodup->(∀x∈G,LgOk n x)->mc (Pp b0) (Pp b24) K t) :
  ∃I1:List AV->Hq->Nat->Prop,(∃m,I1 [(Ii 0)] t m)/\∀(f:Env) (s:Hq) (m1:Nat),I1 [f 7] s m1->Dw (Pp b0) (Pp b3) (Pp b24) many (f 7) I1 m1 K s:=by
 refine⟨λys t m=>∃(i:Nat) (H:Hq) (v:AV) (B:List Bd),ys=[Ii i]/\i<=many/\m=many-i/\FS 52 s0 H t b3 b24 (csF x v2 v3 v .nilslc .nilslc .nilslc)/\H b0=some z0/\R (hdel H b0)/\AccR 161 6 (ext H t b3 b24) t v (iK B)/\B.length=i/\∀y∈B,y.1<n,⟨_,0,H,.nilslc,[],rfl,oM,rfl,z,hb0,r,⟨λr h=>(by cases h),.inl ⟨rfl,rfl⟩⟩,rfl,sI⟩,?_⟩;rintro f t m ⟨i,H,v,B,hy,hi,rfl,z,hb0,r,acc,hl,hB⟩;simp only[cI,aq]at hy;rw[hy];simp only[Dw,bu,ae,bG,aS];refine aL (λhlt=>?_) (λhge=>?_);have hlt:i<many:=gR;simp only[aK,zAY,ae];refine⟨oneH t b24,rV,aE (a:=v) (by rw[au (lW z.fb)];rfl) (aE (a:=v3) (by rw[au (lW z.fb)];rfl) (aE (a:=n) (by grind [JE,SlR.len]) (rW ?_)))⟩;refine Jt (z.tk.hid z.f0 z.ne) oM hn.1 oM λt1 g tk1 kp1 gok=>?_;intro hh;have ⟨kp,tk2,z2⟩:=vi z tk1 kp1 hh;refine aE (kx (zs:=[(Ii 0),(Iw 0),(Iw 0),(Iw 0),(Ii 0),(Iw 0)]) (c:=bdC i g) rfl) ⟨rfl,rU (xf (z2.fb.trans z.fb.symm)) (aI λd t3 hd h2 u2 hs3=>?_)⟩;rw[unlock hs3];have k3:=u2.sub hd;refine push z acc (kp.trans k3.keep) (tk2.more k3) (row1 h2 rfl) (by rw[SK];omega) (by show 4<19;omega) λv' t4 H' z4 acc4 hHH _=>?_;simp only[bg,ae];rw[aT];refine⟨_,oM,i+1,H',v',B ++ [g],rfl,oM,rfl,z4,hHH _ _ hb0,hR _ _ (i7 hHH) r,by grind [Jz],gR,λy hy=>?_⟩
 grind
 have hge:i=many:=gR;subst hge;refine fz z.tk (n:=5) oM oM λt5 m5 hm5 tk5 u5=>?_;have z5:=z.step (u5.keep rfl) tk5;have acc5:=Av z acc (u5.keep rfl);have ⟨H2,z2,k2,sl⟩:=finish (b0:=b0) z5 acc5 (by rw[hb0];simp);have r2:=hR _ _ (i7 k2) r;simp only[bg,ae];rw[aT];have em:(2:Int)+(m5:Int)=((2+m5:Nat):Int):=oM;rw[em];refine JJ (R:=λa=>R a/\SlR 6 a v (iK B)) (B:=B) ((by grind [SlR.sub])) (λa q=>rT a q.1) (λa q=>q.2) hx hn.2 oM oM z2 (k2 _ _ hb0) ⟨r2,sl⟩ (λv5 v6 v7 h5 h6 h7=>ho v v5 v6 v7 sl.one h5 h6 h7) λt' H' v5 v6 v7 S Hs G z' hb' r'=>?_;exact fin t' H' v v5 v6 v7 B S Hs G z' hb' r'.1 r'.2 oM hB
theorem JL(hR:∀a b,Sub a b->R a->R b)(hx:1<=x.lf/\x.lf<=10)(z:FS 52 s0 H t b3 b24 (csF x v2 .nilslc .nilslc .nilslc .nilslc .nilslc))(hb0:H b0=some z0)(r:R (hdel H b0))(hv2:v2.one=true)
  (fin:∀(t H:Hq) (v3 v4 v5 v6 v7:AV) (n:Nat) (B:List Bd) (S:List Sg) (Hs:List Hst) (G:List Lkg),FS 52 s0 H t b3 b24 (csF x v2 v3 v4 v5 v6 v7)->H b0=some z0->R (hdel H b0)->SlR 2 (hdel H b0) v3 (jq n)->1<=n/\n<=3->SlR 6 (hdel H b0) v4 (iK B)->1<=B.length/\B.length<=4->(∀y∈B,y.1<n)->SgR (hdel H b0) v5 S->2<=S.length/\S.length<=6->(∀y∈S,SgOk x.lf B.length y)->SlR 4 (hdel H b0) v6 (jp Hs)/\Fv s0 v6->Hs.length<=8->(∀x∈Hs,HoOk B S x)->SlR 4 (hdel H b0) v7 (G.map lgC)->G.length<=2->G.Nodup->(∀x∈G,LgOk n x)->mc (Pp b0) (Pp b24) K t) :
  ∃I0:List AV->Hq->Nat->Prop,(∃m,I0 [(Ii 0)] t m)/\∀(f:Env) (s:Hq) (m0:Nat),I0 [f 5] s m0->Oo (Pp b0) (Pp b3) (Pp b24) (f 5) I0 m0 K s:=by
 refine⟨λys t m=>∃(i:Nat) (H:Hq) (v:AV),ys=[Ii i]/\i<=3/\m=3-i/\FS 52 s0 H t b3 b24 (csF x v2 v .nilslc .nilslc .nilslc .nilslc)/\H b0=some z0/\R (hdel H b0)/\AccR 157 2 (ext H t b3 b24) t v (jq i),⟨_,0,H,.nilslc,rfl,oM,rfl,z,hb0,r,⟨λr h=>(by cases h),.inl ⟨rfl,rfl⟩⟩⟩,?_⟩;rintro f t m ⟨i,H,v,hy,hi,rfl,z,hb0,r,acc⟩;simp only[cI,aq]at hy;rw[hy];refine fz z.tk (n:=3) oM oM λt1 j hj tk1 u1=>?_;have kp1:aV (λi=>i=b3) t t1:=u1.keep rfl;have z1:=z.step kp1 tk1;simp only[iX,ae];refine aL (λhlt=>?_) (λhge=>?_);have hlt:i<3:=gR;simp only[aK,zAY,ae];refine aE (a:=v) (by rw[au z1.fb];rfl) ?_;simp only[bg,ae];rw[aT (n:=100+(i:Int)) oM oM,aT (n:=900+(i:Int)) oM oM,n9 oM oM,n9 oM oM];simp only[ae];refine aE (a:=tnC i) rfl (aE (kx (zs:=[(Iw 0),(Iw 0)]) (c:=tnC i) rfl) ⟨rfl,aI λd t2 hd h2 u2=>?_⟩);have k2:=u2.sub hd;refine push z acc (kp1.trans k2.keep) (tk1.more k2) (row1 h2 rfl) (by rw[JE];omega) (by show 3<19;omega) λv' t4 H' z4 acc4 hHH _=>?_;rw[aT];exact⟨_,oM,i+1,H',v',rfl,oM,rfl,z4,hHH _ _ hb0,hR _ _ (i7 hHH) r,by grind [JF]⟩;have hge:1<=i:=gR;refine fz tk1 (n:=4) oM oM λt5 m5 hm5 tk5 u5=>?_;have kp5:=kp1.trans (u5.keep rfl);have z5:=z.step kp5 tk5;have acc5:=Av z acc kp5;have ⟨H2,z2,k2,sl⟩:=finish (b0:=b0) z5 acc5 (by rw[hb0];simp);have r2:=hR _ _ (i7 k2) r;simp only[bg,ae];rw[aT];have em:(1:Int)+(m5:Int)=((1+m5:Nat):Int):=oM;rw[em];refine JK (R:=λa=>R a/\SlR 2 a v (jq i)) (n:=i) ((by grind [SlR.sub])) (λa q=>q.2) hx oM oM z2 (k2 _ _ hb0) ⟨r2,sl⟩ (λv4 v5 v6 v7 h4 h5 h6 h7=>by simp[csF,hv2,sl.one,h4,h5,h6,h7]) λt' H' v4 v5 v6 v7 B S Hs G z' hb' r'=>?_;exact fin t' H' v v4 v5 v6 v7 i B S Hs G z' hb' r'.1 r'.2 oM
theorem JM(a b c d e:Int)(f g:Bool):aM [(Ii 0),(Ii 0),.nilslc,.nilslc,.nilslc,.nilslc,.nilslc,.nilslc,(Ii 0),(Ii 0),(Ii 0),false,false,(Ii 0),(Ii 0),(Ii 0),(Ii 0),(Ii 0),(Ii 0)] [(0,1,a),(1,1,b),(8,1,c),(9,1,d),(10,1,e),(11,1,f),(12,1,g)]=some [Ii a,Ii b,.nilslc,.nilslc,.nilslc,.nilslc,.nilslc,.nilslc,Ii c,Ii d,Ii e,.bool f,.bool g,Ii 0,Ii 0,Ii 0,Ii 0,Ii 0,Ii 0]:=rfl
theorem JN(a b:Int):aM [(Ii 0),(Ii 0),(Ii 0),(Ii 0),(Ii 0),(Ii 0)] [(0,1,a),(1,1,Ii 9),(2,1,b),(3,1,Ii 20),(4,1,Ii 5),(5,1,Ii 30)]=some [Ii a,Ii 9,Ii b,Ii 20,Ii 5,Ii 30]:=rfl
theorem timN(a b c d e h i:Int)(f g:Bool):dB [a,b,.nilslc,.nilslc,.nilslc,.nilslc,.nilslc,.nilslc,c,d,e,f,g,Ii 0,Ii 0,Ii 0,Ii 0,Ii 0,Ii 0] 13 [h,Ii 9,i,Ii 20,Ii 5,Ii 30]=[Ii a,Ii b,.nilslc,.nilslc,.nilslc,.nilslc,.nilslc,.nilslc,Ii c,Ii d,Ii e,.bool f,.bool g,Ii h,Ii 9,Ii i,Ii 20,Ii 5,Ii 30]:=rfl
set_option maxHeartbeats 2000000 in
theorem JO{l:List Int}(hl:Sl s lv (l.map (AV.int .i64)))(hlen:l.length<=9223372036854775807)(hb:∀x∈l,-9223372036854775808<=x/\x<=9223372036854775807)(hK:∀t' cs F,Sub s t'->NFok F->NFR t' cs F->(∀v,cs[6]?=some v->Fv s v)->K (.agg cs) t'):wC TP 29 [lv] K s:=by
 refine UH (aI λb0 t1 hb0 h1 u1=>?_);have k1:=u1.sub hb0;refine aE (a:=[lv,.int .i64 0]) ?_ ⟨by simp[hl.one],aI λb3 t4 hb3 h4 u4=>?_⟩;simp only[aM,fZ hl.one];rfl;have k4:=u4.sub hb3;have s3:s b3=none:=eM k1 hb3;have h4:t4 b3=some (false,.cells 176 [lv,.int .i64 ((0:Nat):Int)]):=h4;have tk4:Tk s t4 b3:=⟨k1.trans k4,s3,lv,l,0,h4,by omega,hlen,hl,hb⟩
 refine fz tk4 (n:=3) (by omega) (by omega) λt6 r1 hr1 tk6 u6=>?_;simp only[bg,ae];rw[aT];refine fz tk6 (n:=3) (by omega) (by omega) λt9 r2 hr2 tk9 u9=>?_;simp only[bg,ae];rw[aT];refine fz tk9 (n:=3) (by omega) (by omega) λt12 r3 hr3 tk12 u12=>?_;refine fz tk12 (n:=2) (by omega) (by omega) λt14 r4 hr4 tk14 u14=>?_;refine fz tk14 (n:=2) (by omega) (by omega) λt16 r5 hr5 tk16 u16=>?_;refine fz tk16 (n:=2) (by omega) (by omega) λt18 r6 hr6 tk18 u18=>?_;simp only[cj,bJ,Bool.false_bne,ae];refine fz tk18 (n:=3) (by omega) (by omega) λt21 r7 hr7 tk21 u21=>?_;simp only[cj,bJ,Bool.false_bne,ae];have e1:(2:Int)+(r1:Int)=((2+r1:Nat):Int):=by omega
 have e2:(1:Int)+(r2:Int)=((1+r2:Nat):Int):=by omega
 rw[e1,e2];refine aE (JM _ _ _ _ _ _ _) ?_;refine aI λb24 t25 hb24 h25 u25=>cD h25 rfl rfl rfl λt26 h26 u26=>?_;have kp21:aV (λi=>i=b3) t4 t21:=λi e hi ne=>by rw[u21 i ne,u18 i ne,u16 i ne,u14 i ne,u12 i ne,u9 i ne,u6 i ne];exact hi
 have k26:Sub t21 t26:=dp (u25.sub hb24) u26 hb24;have n324:b3≠b24:=λe=>by rw[<- e]at hb24;exact tk21.at hb24
 have n03:b0≠b3:=λe=>by rw[<- e,h1]at hb3;cases hb3
 have h21:=kp21 _ _ (k4 _ _ h1) n03;have n024:b0≠b24:=λe=>by rw[<- e,h21]at hb24;cases hb24
 refine fz (tk21.more k26) (n:=3) (by omega) (by omega) λt28 r8 hr8 tk28 u28=>?_;simp only[bg,ae];rw[aT];refine fz tk28 (n:=30) (by omega) (by omega) λt31 r9 hr9 tk31 u31=>?_;simp only[bg,ae];rw[aT];have e8:(1:Int)+(r8:Int)=((1+r8:Nat):Int):=by omega
 have e9:(40:Int)+(r9:Int)=((40+r9:Nat):Int):=by omega
 rw[e8,e9];have h31:t31 b24=some (false,.cells 52 [.int .i64 ((2+r1:Nat):Int),.int .i64 ((1+r2:Nat):Int),.nilslc,.nilslc,.nilslc,.nilslc,.nilslc,.nilslc,.int .i64 (r3:Int),.int .i64 (r4:Int),.int .i64 (r5:Int),.bool ((r6:Int) == 0),.bool ((r7:Int) == 1),.int .i64 0,.int .i64 0,.int .i64 0,.int .i64 0,.int .i64 0,.int .i64 0]):=by rw[u31 _ (Ne.symm n324),u28 _ (Ne.symm n324)];exact h26
 refine aE (JN _ _) ?_;simp only[aK,zAY,ae];refine ve h31 rfl (by show 13+6<=19;omega) rfl λt35 h35 u35=>?_;rw[timN]at h35;have h35:t35 b24=some (false,.cells 52 (csF ⟨2+r1,1+r2,r3,r4,r5,(r6:Int) == 0,(r7:Int) == 1,1+r8,40+r9⟩ .nilslc .nilslc .nilslc .nilslc .nilslc .nilslc)):=h35;have xok:NXok ⟨2+r1,1+r2,r3,r4,r5,(r6:Int) == 0,(r7:Int) == 1,1+r8,40+r9⟩:=⟨by show 2<=2+r1/\2+r1<=4;omega,by show 1<=1+r2/\1+r2<=3;omega,by show r3<=2;omega,by show r4<=1;omega,by show r5<=1;omega,by show 1<=1+r8/\1+r8<=3;omega,by show 40<=40+r9/\40+r9<=69;omega⟩
 have elf:(⟨2+r1,1+r2,r3,r4,r5,(r6:Int) == 0,(r7:Int) == 1,1+r8,40+r9⟩:NX).lf=2+r1:=rfl;have esp:(⟨2+r1,1+r2,r3,r4,r5,(r6:Int) == 0,(r7:Int) == 1,1+r8,40+r9⟩:NX).sp=1+r2:=rfl;generalize(⟨2+r1,1+r2,r3,r4,r5,(r6:Int) == 0,(r7:Int) == 1,1+r8,40+r9⟩:NX)=x at h35 xok elf esp;have s24:s b24=none:=eM tk21.sub hb24;have tk35:Tk s t35 b3:=tk31.u u35 s24 n324;have b035:t35 b0=some (false,.cells 52 [(.int .i64 0),(.int .i64 0),.nilslc,.nilslc,.nilslc,.nilslc,.nilslc,.nilslc,(.int .i64 0),(.int .i64 0),(.int .i64 0),(.bool false),(.bool false),(.int .i64 0),(.int .i64 0),(.int .i64 0),(.int .i64 0),(.int .i64 0),(.int .i64 0)]):=by rw[u35 _ n024,u31 _ n03,u28 _ n03];exact k26 _ _ h21
 refine aE (a:=.int .i64 ((2+r1:Nat):Int)) (by rw[au h35,<- elf];rfl) (aE (a:=.int .i64 ((1+r2:Nat):Int)) (by rw[au h35,<- esp];rfl) ?_);refine Jr tk35 (by omega) (by omega) λt41 v2 L tk41 kp41 acc41 lok llen=>?_;have h41:=kp41 _ _ h35 (Ne.symm n324);refine cw h41 (by show 2<19;omega) acc41.sl.one λt43 h43 u43=>?_;have h43:t43 b24=some (false,.cells 52 (csF x v2 .nilslc .nilslc .nilslc .nilslc .nilslc)):=h43;have tk43:Tk s t43 b3:=tk41.u u43 s24 n324;have z:FS 52 s (offB t43 b3 b24) t43 b3 b24 (csF x v2 .nilslc .nilslc .nilslc .nilslc .nilslc):=by
  refine⟨tk43,h43,λi e hi=>?_,ak (.inl rfl),ak (.inr rfl),λi e hi=>?_,n324⟩
  ·unfold offB at hi
   split at hi
   ·cases hi
   exact hi
  ·unfold offB
   rw[aj (by
    rintro (q|q)
    ·rw[q,s3]at hi;cases hi
    ·rw[q,s24]at hi;cases hi)]
   exact tk43.sub _ _ hi
 have hb0':offB t43 b3 b24 b0=some (false,.cells 52 [(.int .i64 0),(.int .i64 0),.nilslc,.nilslc,.nilslc,.nilslc,.nilslc,.nilslc,(.int .i64 0),(.int .i64 0),(.int .i64 0),(.bool false),(.bool false),(.int .i64 0),(.int .i64 0),(.int .i64 0),(.int .i64 0),(.int .i64 0),(.int .i64 0)]):=by
  unfold offB;rw[aj (by rintro (q|q);exact n03 q;exact n024 q),u43 _ n024]
  exact kp41 _ _ b035 n03
 have slL:SlR 3 (hdel (offB t43 b3 b24) b0) v2 (L.map lkC):=by
  have n3:∀b o n c e,v2=.slc b o n c e->b3≠b:=acc41.own tk35.at;have n24:∀b o n c e,v2=.slc b o n c e->b24≠b:=acc41.own (by rw[h35];simp);have n0:∀b o n c e,v2=.slc b o n c e->b0≠b:=acc41.own (by rw[b035];simp);refine(AccR.sl (elem:=145) (s0:=t35) ⟨acc41.1,acc41.2.imp id λ⟨c,q0,q1,q2⟩=>⟨c,q0,q1,?_⟩⟩);rw[dL (Ne.symm (n0 _ _ _ _ _ q1))];unfold offB;rw[aj (by rintro (q|q);exact n3 _ _ _ _ _ q1 q.symm;exact n24 _ _ _ _ _ q1 q.symm),u43 _ (Ne.symm (n24 _ _ _ _ _ q1))]
  exact q2
 refine JL (R:=λa=>SlR 3 a v2 (L.map lkC)) (λa b k q=>q.sub k) ⟨by have:=xok.lf;omega,by have:=xok.lf;omega⟩ z hb0' slL acc41.sl.one λt' H' v3 v4 v5 v6 v7 n B S Hs G z' hb' r' q1 q2 q3 q4 q5 q6 q7 q8 q9 q10 q11 q12 q13 q14 q15=>?_;refine JG (F:=⟨x,L,n,B,S,Hs,G⟩) z' hb' rfl hb0 ⟨v2,v3,v4,v5,v6,v7,rfl,r',q1,q3,q6,q9.1,q12⟩ ⟨xok,by rw[<- elf,<- esp]at lok;exact lok,?_,q2,q4,q5,q7,q8,q10,q11,q13,q14,q15⟩ (λv e=>by have e:some v6=some v:=e;cases e;exact q9.2) hK;exact Nat.le_trans llen (Nat.le_trans (Nat.mul_le_mul (show 2+r1<=4 by omega) (show 1+r2<=3 by omega)) (by omega))
variable{c:Nat}
abbrev BG:=Int×Int×Int×Int×Int×Int
abbrev R4:=Int×Int×Int×Int
structure FG where
 lf:Int
 sp:Int
 el:Int
 hz:Int
 ro:Int
 su:Bool
 tr:Bool
 de:Int
 ho:Int
 ag:Int
 re:Int
 mo:Int
 wi:Int
 L:List RLk
 T:List (Int×Int)
 B:List BG
 S:List (List Int×List Int)
 H:List R4
 G:List R4
def tgC(x:Int×Int):List AV:=[Iw x.1,Iw x.2]
def bgC(x:BG):List AV:=[x.1,Iw x.2.1,Iw x.2.2.1,Iw x.2.2.2.1,x.2.2.2.2.1,Iw x.2.2.2.2.2]
def hgC(x:R4):List AV:=[Iq x.1,Iw x.2.1,x.2.2.1,x.2.2.2]
def ggC(x:R4):List AV:=[x.1,x.2.1,Iw x.2.2.1,x.2.2.2]
def ix(l:List Int):List AV:=l.map (AV.int .i64)
theorem jJ{l:List Int}:(ix l).length=l.length:=by unfold ix;simp
theorem pL{l:List Int}{i:Nat}(h:i<l.length):(ix l)[i]?=some (Ii l[i]):=by unfold ix;simp[h]
def SgG(s:Hq)(v:AV)(S:List (List Int×List Int)):Prop:=∃vs:List (AV×AV),SlR 2 s v (vs.map λp=>[p.1,p.2])/\vs.length=S.length/\∀(i:Nat) (q:AV×AV) (x:List Int×List Int),vs[i]?=some q->S[i]?=some x->Sl s q.1 (ix x.1)/\Sl s q.2 (ix x.2)
theorem SgG.sub{S:List (List Int×List Int)}(h:SgG s v S)(k:Sub s s'):SgG s' v S:=by have ⟨vs,h1,h2,h3⟩:=h;exact⟨vs,h1.sub k,h2,λi q x a c=>⟨(h3 i q x a c).1.sub k,(h3 i q x a c).2.sub k⟩⟩
theorem SgG.len{S:List (List Int×List Int)}(h:SgG s v S):cM v=some S.length:=by have ⟨vs,h1,h2,_⟩:=h;rw[h1.len,lMY,h2]
theorem SgG.one{S:List (List Int×List Int)}(h:SgG s v S):v.one=true:=by have ⟨vs,h1,_⟩:=h;exact h1.one
theorem SgG.at{S:List (List Int×List Int)}(h:SgG s v S){i:Nat}{x:List Int×List Int}(hx:S[i]?=some x):∃pb po l1 l2,cF 2 v i=some (.ptr pb po)/\rdN s 2 (.ptr pb po)=some [l1,l2]/\rd1 s (.ptr pb po)=some l1/\rd1 s (.ptr pb (po+1))=some l2/\Sl s l1 (ix x.1)/\Sl s l2 (ix x.2):=by have ⟨vs,h1,h2,h3⟩:=h;have hi:i<vs.length:=gR;have hq:vs[i]?=some vs[i]:=gE hi;have ⟨pb,po,e1,e2,e3⟩:=h1.get (i:=i) (r:=[vs[i].1,vs[i].2]) gR;have ⟨a,c⟩:=h3 i _ x hq hx;exact⟨pb,po,vs[i].1,vs[i].2,e1,e2,e3 0 oM,e3 1 oM,a,c⟩
def csG(F:FG)(v2 v3 v4 v5 v6 v7:AV):List AV:=[F.lf,F.sp,v2,v3,v4,v5,v6,v7,F.el,F.hz,F.ro,F.su,F.tr,F.de,F.ho,F.ag,F.re,F.mo,F.wi]
structure FL(s:Hq)(F:FG)(v2 v3 v4 v5 v6 v7:AV):Prop where
 L:SlR 3 s v2 (F.L.map lkC)
 T:SlR 2 s v3 (F.T.map tgC)
 B:SlR 6 s v4 (F.B.map bgC)
 S:SgG s v5 F.S
 H:SlR 4 s v6 (F.H.map hgC)
 G:SlR 4 s v7 (F.G.map ggC)
theorem FL.sub{F:FG}{v2 v3 v4 v5 v6 v7:AV}(h:FL s F v2 v3 v4 v5 v6 v7)(k:Sub s s'):FL s' F v2 v3 v4 v5 v6 v7:=⟨h.L.sub k,h.T.sub k,h.B.sub k,h.S.sub k,h.H.sub k,h.G.sub k⟩
theorem FL.all{F:FG}{v2 v3 v4 v5 v6 v7:AV}(h:FL s F v2 v3 v4 v5 v6 v7):aX (csG F v2 v3 v4 v5 v6 v7)=true:=by simp[csG,h.L.one,h.T.one,h.B.one,h.S.one,h.H.one,h.G.one]
def FabR(s:Hq)(cs:List AV)(F:FG):Prop:=∃v2 v3 v4 v5 v6 v7,cs=csG F v2 v3 v4 v5 v6 v7/\FL s F v2 v3 v4 v5 v6 v7
theorem FabR.sub{F:FG}(h:FabR s cs F)(k:Sub s s'):FabR s' cs F:=by have ⟨v2,v3,v4,v5,v6,v7,e,h⟩:=h;exact⟨v2,v3,v4,v5,v6,v7,e,h.sub k⟩
def outB(n lo hi:Int):Bool:=decide (n<lo)||decide (hi<n)
theorem fA{n lo hi:Int}:outB n lo hi=false↔lo<=n/\n<=hi:=by unfold outB;simp
theorem gK{n lo hi:Int}(hK:K (outB n lo hi) s):wC TP 177 [n,lo,hi] K s:=by refine UQ ?_;unfold outB at hK;simp only[OA,bu,dy,ae];refine aL (λe=>?_) (λe=>?_);rw[e]at hK ⊢;exact hK;rw[e]at hK ⊢;exact hK
def inB(i n:Int):Bool:=decide (0<=i)&&decide (i<n)
theorem jK{i n:Int}:inB i n=true↔0<=i/\i<n:=by unfold inB;simp
theorem oe{i n:Int}(hK:K (inB i n) s):wC TP 180 [i,n] K s:=by refine VP ?_;unfold inB at hK;simp only[O2,dQ,bu,ae];refine aL (λe=>?_) (λe=>?_);rw[e]at hK ⊢;exact hK;rw[e]at hK ⊢;exact hK
def flV(e:Int)(p:ByteArray)(i:Int):AV:=.ifc 235 (.agg [e,.str p,i])
abbrev NoR:AV->Hq->Prop:=λ_ _=>False
theorem eJ{bad:Bool}{e i:Int}{p:ByteArray}(hK:bad=false->K (.tup []) s)(hR:bad=true->NoR (flV e p i) s):wC TP 176 [bad,e,.str p,i] K s:=by
 grind [DZ,sQ,aL]
variable{F:FG}{t:Bool}
theorem JP:(csG F v2 v3 v4 v5 v6 v7).length=19:=rfl
theorem csG0:(csG F v2 v3 v4 v5 v6 v7)[0]?=some (Ii F.lf):=id rfl
theorem csG1:(csG F v2 v3 v4 v5 v6 v7)[1]?=some (Ii F.sp):=id rfl
theorem csG2:(csG F v2 v3 v4 v5 v6 v7)[2]?=some v2:=id rfl
theorem csG3:(csG F v2 v3 v4 v5 v6 v7)[3]?=some v3:=id rfl
theorem csG4:(csG F v2 v3 v4 v5 v6 v7)[4]?=some v4:=id rfl
theorem csG5:(csG F v2 v3 v4 v5 v6 v7)[5]?=some v5:=id rfl
theorem csG6:(csG F v2 v3 v4 v5 v6 v7)[6]?=some v6:=id rfl
theorem csG7:(csG F v2 v3 v4 v5 v6 v7)[7]?=some v7:=id rfl
theorem csG8:(csG F v2 v3 v4 v5 v6 v7)[8]?=some (Ii F.el):=id rfl
theorem csG9:(csG F v2 v3 v4 v5 v6 v7)[9]?=some (Ii F.hz):=id rfl
theorem JQ:(csG F v2 v3 v4 v5 v6 v7)[10]?=some (Ii F.ro):=id rfl
theorem pM{zs:List AV}(hz:zs.length=19)(hc:s c=some (t,.cells 238 (csG F v2 v3 v4 v5 v6 v7)))(hL:FL s F v2 v3 v4 v5 v6 v7){J:Nat->Hq->Prop}(h:∀b s',Hc s' b 52 (csG F v2 v3 v4 v5 v6 v7)->Sub s s'->J b s'):
  oK (eX (Pp c)) λv0=>oK (fu 0 v0) λv1=>oK (rdN s 19 v1) λv2=>newK 52 zs (λb s4=>oK (dP s4 19 (Pp b) (.agg v2)) λs5=>J b s5) s:=by
 simp only[bQ,aK,zAY,ae];refine aE (bX hc rfl) (aI λb s4 hb h4 u4=>cD h4 (by rw[JP,hz]) hz hL.all λs5 h5 u5=>?_);exact h b s5 h5 (dp (u4.sub hb) u5 hb)
structure FabOk(F:FG):Prop where
 lf:1<=F.lf/\F.lf<=32
 sp:0<=F.sp/\F.sp<=32
 sum:F.lf+F.sp<=32
 el:0<=F.el/\F.el<=2
 hz:0<=F.hz/\F.hz<=1
 ro:0<=F.ro/\F.ro<=1
abbrev Kok(s:Hq)(P:Prop)(K:AV->Hq->Prop):Prop:=P->∀s',Sub s s'->K (.tup []) s'
abbrev Rbad(s:Hq)(P:Prop)(R:AV->Hq->Prop):Prop:=¬P->∀(e:Int) (p:ByteArray) (i:Int) s',e≠0->Sub s s'->R (flV e p i) s'
theorem JR(hc:s c=some (t,.cells 238 (csG F v2 v3 v4 v5 v6 v7)))(hL:FL s F v2 v3 v4 v5 v6 v7)(hK:Kok s (FabOk F) K)(hR:Rbad s (FabOk F) NoR):wC TP 145 [Pp c] K s:=by
 refine VQ (pM rfl hc hL λb3 s5 h5 k5=>?_);simp only[aK,zAY,ae,au h5,csG0];have j2:∀(x y:AV) (bad:Bool),cW x true y=some bad->(bad=true->¬FabOk F)->(bad=false->FabOk F)->xx x y K s5:=(by simp_all [xx,eJ,ae])
 have j1:∀(x y:AV) (bad:Bool),cW x true y=some (.bool bad)->(bad=true->¬FabOk F)->(bad=false->outB F.ro 0 1=false->FabOk F)->xy (Pp b3) x y K s5:=λx y bad h h1 h2=>by
  unfold xy;rw[h];refine aL (λq=>?_) (λq=>?_)
  simp_all
  simp only[aK,zAY,ae,au h5,JQ];refine gK ?_;exact j2 _ _ (outB F.ro 0 1) (by rw[q];rfl) ((by grind [fA,FabOk.ro])) (λq2=>h2 q q2)
 have j0:∀(x y:AV) (bad:Bool),cW x true y=some (.bool bad)->(bad=true->¬FabOk F)->(bad=false->(1<=F.lf/\F.lf<=32)/\(0<=F.sp/\F.sp<=32))->xz (Pp b3) x y K s5:=λx y bad h h1 h2=>by
  unfold xz;rw[h];refine eJ (λq=>?_) (by simp_all);have ⟨g1,g2⟩:=h2 q;simp only[aK,zAY,ae,au h5,csG0,csG1,bg,dy];rw[aT];refine eJ (λq2=>?_) λq2=>hR (λg=>by have:=oT q2;have:=g.sum;omega) _ _ _ s5 oM k5;have g3:=oF q2;simp only[au h5,csG8,ae];refine gK ?_;have fin:outB F.el 0 2=false->outB F.hz 0 1=false->outB F.ro 0 1=false->FabOk F:=λa b c=>⟨g1,g2,oM,fA.1 a,fA.1 b,fA.1 c⟩
  refine aL (λq=>?_) (λq=>?_)
  ·exact j1 _ _ true (by rw[q];rfl) ((by grind [fA,FabOk.el])) (λq2=>by cases q2)
  simp only[ae,au h5,csG9];refine gK ?_;exact j1 _ _ (outB F.hz 0 1) (by rw[q];rfl) ((by grind [fA,FabOk.hz])) (λq2 q3=>fin q q2 q3)
 refine gK ?_;refine aL (λq=>?_) (λq=>?_)
 ·exact j0 _ _ true (by rw[q];rfl) ((by grind [fA,FabOk.lf])) (λq2=>by cases q2)
 simp only[ae,au h5,csG1];refine gK ?_;exact j0 _ _ (outB F.sp 0 32) (by rw[q];rfl) ((by grind [fA,FabOk.sp])) ((by grind [fA]))
structure TimOk(F:FG):Prop where
 de:1<=F.de/\F.de<=100
 ho:3<=F.ho/\F.ho<=1000
 ag:1<=F.ag/\F.ag<=10000
 re:0<=F.re/\F.re<=1000
 mo:1<=F.mo/\F.mo<=100
 wi:1<=F.wi/\F.wi<=10000
theorem JS(hc:s c=some (t,.cells 238 (csG F v2 v3 v4 v5 v6 v7)))(hK:Kok s (TimOk F) K)(hR:Rbad s (TimOk F) NoR):wC TP 146 [Pp c] K s:=by
 refine VR ?_;unfold O3;simp only[bQ,aK,zAY,ae];have hrd:rdN s 6 (.ptr c 13)=some [Ii F.de,Ii F.ho,Ii F.ag,Ii F.re,Ii F.mo,Ii F.wi]:=by simp only[rdN,hc];rfl
 refine aE hrd (aI λb4 s5 hb h5' u5=>cD h5' rfl rfl rfl λs6 h6 u6=>?_);have k6:=dp (u5.sub hb) u6 hb;have c0:rd1 s6 (Pp b4)=some F.de:=by rw[au h6];rfl
 have c1:rd1 s6 (.ptr b4 1)=some F.ho:=by rw[au h6];rfl
 have c2:rd1 s6 (.ptr b4 2)=some F.ag:=by rw[au h6];rfl
 have c3:rd1 s6 (.ptr b4 3)=some F.re:=by rw[au h6];rfl
 have c4:rd1 s6 (.ptr b4 4)=some F.mo:=by rw[au h6];rfl
 have c5:rd1 s6 (.ptr b4 5)=some F.wi:=by rw[au h6];rfl
 have j3:∀(x y:AV) (bad:Bool),cW x true y=some bad->(bad=true->¬TimOk F)->(bad=false->TimOk F)->xA x y K s6:=(by simp_all [xA,eJ,ae])
 have j2:∀(x y:AV) (bad:Bool),cW x true y=some (.bool bad)->(bad=true->¬TimOk F)->(bad=false->outB F.wi 1 10000=false->TimOk F)->xC (Pp b4) x y K s6:=λx y bad h h1 h2=>by
  unfold xC;rw[h];refine aL (λq=>?_) (λq=>?_)
  simp_all
  simp only[aK,zAY,ae,c5];refine gK ?_;exact j3 _ _ (outB F.wi 1 10000) (by rw[q];rfl) ((by grind [fA,TimOk.wi])) (λq2=>h2 q q2)
 have j1:∀(x y:AV) (bad:Bool),cW x true y=some (.bool bad)->(bad=true->¬TimOk F)->(bad=false->outB F.re 0 1000=false->outB F.mo 1 100=false->outB F.wi 1 10000=false->TimOk F)->xD (Pp b4) x y K s6:=λx y bad h h1 h2=>by
  unfold xD;rw[h];refine eJ (λq=>?_) (by simp_all);simp only[aK,zAY,ae,c3];refine gK ?_;refine aL (λq2=>?_) (λq2=>?_)
  ·exact j2 _ _ true (by rw[q2];rfl) ((by grind [fA,TimOk.re])) (λq2=>by cases q2)
  simp only[c4];refine gK ?_;exact j2 _ _ (outB F.mo 1 100) (by rw[q2];rfl) ((by grind [fA,TimOk.mo])) (λq3 q4=>h2 q q2 q3 q4)
 have j0:∀(x y:AV) (bad:Bool),cW x true y=some (.bool bad)->(bad=true->¬TimOk F)->(bad=false->outB F.ag 1 10000=false->outB F.re 0 1000=false->outB F.mo 1 100=false->outB F.wi 1 10000=false->TimOk F)->xE (Pp b4) x y K s6:=λx y bad h h1 h2=>by
  unfold xE;rw[h];refine aL (λq=>?_) (λq=>?_)
  simp_all
  simp only[aK,zAY,ae,c2];refine gK ?_;exact j1 _ _ (outB F.ag 1 10000) (by rw[q];rfl) ((by grind [fA,TimOk.ag])) (λq2=>h2 q q2)
 simp only[c0];refine gK ?_;refine aL (λq=>?_) (λq=>?_)
 ·exact j0 _ _ true (by rw[q];rfl) ((by grind [fA,TimOk.de])) (λq2=>by cases q2)
 simp only[c1];refine gK ?_;exact j0 _ _ (outB F.ho 3 1000) (by rw[q];rfl) ((by grind [fA,TimOk.ho])) (λq2 q3 q4 q5 q6=>⟨fA.1 q,fA.1 q2,fA.1 q3,fA.1 q4,fA.1 q5,fA.1 q6⟩)
variable{k:AV}{mb rb:Nat}
def kD(q:AV->AV->Option Bool)(k:AV):List AEnt->Nat->Option (Option (Nat×AV))
 |[],_=>some none
 | e::es,i=>match q k e.key with
   |some true=>some (some (i,e.val))
   |some false=>kD q k es (i+1)
   |none=>none
theorem JT(k:AV):∀(es:List AEnt) (i:Nat),jd k es i=kD (jU (.int .i64)) k es i
 |[],_=>rfl
 | e::es,i=>by
   unfold jd kD;rw[JT k es (i+1)];cases jU (.int .i64) k e.key with
   |none=>rfl
   |some b=>cases b<;>rfl
theorem JU(P:Program)(kt:ah)(d:TypeDesc)(k:AV):∀(es:List AEnt) (i:Nat),iM P kt d k es i=kD (js P kt d) k es i
 |[],_=>rfl
 | e::es,i=>by
   unfold iM kD;rw[JU P kt d k es (i+1)];cases js P kt d k e.key with
   |none=>rfl
   |some b=>cases b<;>rfl
def Dec(q:AV->AV->Option Bool)(U:AV->Prop):Prop:=∀k k',U k->U k'->∃b,q k k'=some b/\(b=true↔k=k')
structure SM(U:AV->Prop)(s:Hq)(mb:Nat)(keys:List AV):Prop where
 ex:∃es cl,s mb=some (false,.map es cl)/\(∀e∈es,e.val=true)/\∀k,k∈es.map (·.key)↔k∈keys
 all:∀k∈keys,U k
theorem SO{q:AV->AV->Option Bool}{U:AV->Prop}(hq:Dec q U){k:AV}(hk:U k):∀(es:List AEnt) (i:Nat),(∀e∈es,U e.key)->
  (kD q k es i=some none/\k ∉ es.map (·.key))∨∃j e,es[j]?=some e/\e.key=k/\kD q k es i=some (some (i+j,e.val))
 |[],i,_=>.inl ⟨rfl,sI⟩
 | e::es,i,h=>by
   have ⟨b,h1,h2⟩:=hq k e.key hk (h e sI);unfold kD;rw[h1];cases b with
   |true=>exact .inr ⟨0,e,rfl,(h2.1 rfl).symm,sI⟩
   | false=>
     have hne:k≠e.key:=λq=>by have:=h2.2 q;cases this
     rcases SO hq hk es (i+1) (λe' he'=>h e' (by simp[he']))with⟨g1,g2⟩|⟨j,e',g1,g2,g3⟩;exact .inl ⟨g1,by simp only[cL,mem_cons,not_or];exact⟨hne,g2⟩⟩;exact .inr ⟨j+1,e',by simpa using g1,g2,by simp only;rw[g3];congr 3;omega⟩
theorem SP{k v:AV}:∀{es:List AEnt}{j:Nat}{e:AEnt},es[j]?=some e->e.key=k->(modE es j λe=>{ e with key:=k,val:=v }).map (·.key)=es.map (·.key)
 |[],_,_,h,_=>by simp at h
 | x::es,0,e,h,he=>by
   have:x=e:=by simpa using h
   subst this;show k::es.map (·.key)=_;rw[cL,he]
 | x::es,j+1,e,h,he=>by
   show x.key::(modE es j _).map (·.key)=_;rw[SP (es:=es) (by simpa using h) he,cL]
theorem SQ{k v:AV}:∀{es:List AEnt}{j:Nat},(∀e∈es,e.val=v)->∀e∈modE es j (λe=>{ e with key:=k,val:=v }),e.val=v
 |[],0,_,e,h=>by cases h
 |[],_+1,_,e,h=>by cases h
 | x::es,0,hv,e,h=>by
   have h:e∈({ x with key:=k,val:=v }:AEnt)::es:=h
   grind
 | x::es,j+1,hv,e,h=>by
   rcases mCY h with rfl|h;exact hv e sI;exact SQ (λe he=>hv e (by simp[he])) e h
section
variable {q:AV→AV→Option Bool} {U:AV→Prop} {keys:List AV}
theorem SM.fnd(h:SM U s mb keys)(hq:Dec q U)(hk:U k):∃es cl,s mb=some (false,.map es cl)/\((kD q k es 0=some none/\k ∉ keys)∨∃j e,es[j]?=some e/\e.key=k/\kD q k es 0=some (some (j,.bool true))/\k∈keys)/\(∀e∈es,e.val=true)/\∀k,k∈es.map (·.key)↔k∈keys:=by
 have ⟨es,cl,h1,h2,h3⟩:=h.ex;rcases SO hq hk es 0 λe he=>h.all _ (gR)with⟨g1,g2⟩|⟨j,e,g1,g2,g3⟩
 grind
 grind
theorem SM.next{es:List AEnt}{cl:Nat}(h:SM U s mb keys)(hk:U k)(hv:∀e∈es,e.val=true)(h3:∀k,k∈es.map (·.key)↔k∈keys){es':List AEnt}{cl':Nat}(hb:s' mb=some (false,.map es' cl'))
  (hes:(∃j e,es[j]?=some e/\e.key=k/\k∈keys/\es'=modE es j λe=>{ e with key:=k,val:=true })∨es'=es ++ [{ key:=k,val:=true,born:=cl }]):SM U s' mb (keys ++ [k]):=by
 refine⟨⟨es',cl',hb,λe he=>?_,λk'=>?_⟩,λk' hk'=>?_⟩;rcases hes with⟨j,e0,g1,g2,_,rfl⟩|rfl;exact SQ hv e he
 grind
 rcases hes with⟨j,e0,g1,g2,g3,rfl⟩|rfl
 simp_all [SP]
 grind
 grind [all]
theorem SM.sub(h:SM U s mb keys)(k:Sub s s'):SM U s' mb keys:=by have ⟨es,cl,h1,h2,h3⟩:=h.ex;exact⟨⟨es,cl,k _ _ h1,h2,h3⟩,h.all⟩
theorem SM.upto(h:SM U s mb keys)(u:Upto b s s')(hb:mb≠b):SM U s' mb keys:=by have ⟨es,cl,h1,h2,h3⟩:=h.ex;exact⟨⟨es,cl,by rw[u _ hb];exact h1,h2,h3⟩,h.all⟩
end
def og(v:AV):Prop:=∃n,v=Iw n
theorem vk:Dec (jU (.int .i64)) og:=by rintro k k' ⟨n,rfl⟩ ⟨m,rfl⟩;refine⟨n == m,?_,?_⟩;show cond (iR .u32 .u32) (some (eqI n m)) none=_;rw[iL];rfl;simp
variable{keys:List AV}{U:AV→Prop}
theorem SM.getM{n:Int}(h:SM og s mb keys){J:Option AV->Prop}(hJ:∀r b,retM false false r=.bool b->(b=true↔AV.int .u32 n∈keys)->J r):oK (AM.getM s (.map mb) (Iw n)) J:=by have ⟨es,cl,h1,h2,_⟩:=h.fnd vk ⟨n,rfl⟩;unfold AM.getM;simp only[h1,JT];rcases h2 with⟨g1,g2⟩|⟨j,e,_,_,g1,g2⟩;rw[g1];exact hJ none false rfl gR;rw[g1];exact hJ _ true rfl ⟨λ_=>g2,λ_=>rfl⟩
theorem SM.putM{n:Int}(h:SM og s mb keys){J:Hq->Prop}(hJ:∀s',SM og s' mb (keys ++ [Iw n])->Upto mb s s'->J s'):oK (AM.putM s (.map mb) (Iw n) true) J:=by
 have ⟨es,cl,h1,h2,hv,h3⟩:=h.fnd vk (k:=Iw n) ⟨n,rfl⟩;unfold AM.putM putE;simp only[h1,JT];rcases h2 with⟨g1,g2⟩|⟨j,e,g0,g3,g1,g2⟩
 ·rw[g1]
  exact hJ _ (h.next (cl:=cl) ⟨n,rfl⟩ hv h3 fe (.inr rfl)) λ_ hi=>eL hi
 ·rw[g1]
  exact hJ _ (h.next (cl:=cl) ⟨n,rfl⟩ hv h3 fe (.inl ⟨j,e,g0,g3,g2,rfl⟩)) λ_ hi=>eL hi
structure KT(P:Program)(kt:ah)(U:AV->Prop):Prop where
 ex:∃d,P.underlying kt=some d/\aggD d=true/\Dec (js P kt d) U
 ok:∀k,U k->iN P 10 kt k=true
variable{P:Program}
theorem SM.getG{kt:ah}(hT:KT P kt U)(h:SM U s mb keys)(hk:U k){J:Option AV->Prop}(hJ:∀r b,retM false false r=.bool b->(b=true↔k∈keys)->J r):oK (AM.getG P kt s (.map mb) k) J:=by have ⟨d,hd,ha,hq⟩:=hT.ex;have ⟨es,cl,h1,h2,_⟩:=h.fnd hq hk;unfold AM.getG;rw[hd];simp only[ha,hT.ok k hk,Bool.and_self,aD,h1,JU];rcases h2 with⟨g1,g2⟩|⟨j,e,_,_,g1,g2⟩;rw[g1];exact hJ none false rfl gR;rw[g1];exact hJ _ true rfl ⟨λ_=>g2,λ_=>rfl⟩
theorem SM.putG{kt:ah}(hT:KT P kt U)(h:SM U s mb keys)(hk:U k){J:Hq->Prop}(hJ:∀s',SM U s' mb (keys ++ [k])->Upto mb s s'->J s'):oK (AM.putG P kt s (.map mb) k true) J:=by
 have ⟨d,hd,ha,hq⟩:=hT.ex;have ⟨es,cl,h1,h2,hv,h3⟩:=h.fnd hq hk;unfold AM.putG;rw[hd];simp only[ha,hT.ok k hk,Bool.and_self,aD,h1,JU];rcases h2 with⟨g1,g2⟩|⟨j,e,g0,g3,g1,g2⟩
 ·rw[g1]
  exact hJ _ (h.next (cl:=cl) hk hv h3 fe (.inr rfl)) λ_ hi=>eL hi
 ·rw[g1]
  exact hJ _ (h.next (cl:=cl) hk hv h3 fe (.inl ⟨j,e,g0,g3,g2,rfl⟩)) λ_ hi=>eL hi
structure RepR(s:Hq)(v:AV)(ks:List AV):Prop where
 ex:∃bs:List Bool,Sl s v (bs.map AV.bool)/\bs.length=ks.length/\∀(j:Nat) b,bs[j]?=some b->(b=true↔∃k,ks[j]?=some k/\k∈ks.take j)
theorem RepR.sub{ks:List AV}(h:RepR s v ks)(k:Sub s s'):RepR s' v ks:=by have ⟨bs,h1,h2,h3⟩:=h.ex;exact⟨bs,h1.sub k,h2,h3⟩
theorem RepR.at{ks:List AV}(h:RepR s v ks){j:Nat}{k:AV}(hk:ks[j]?=some k):∃p b,cF 1 v j=some p/\rd1 s p=some (.bool b)/\(b=true↔k∈ks.take j):=by
 have ⟨bs,h1,h2,h3⟩:=h.ex;have hj:j<bs.length:=gR;have ⟨p,g1,g2⟩:=h1.get (i:=j) (by simpa using hj)
 grind
structure RP(U:AV->Prop)(s0 s:Hq)(mb rb:Nat)(ks:List AV)(i:Nat):Prop where
 keep:Sub s0 s
 nm:s0 mb=none
 nr:s0 rb=none
 ne:mb≠rb
 map:SM U s mb (ks.take i)
 arr:∃bs:List Bool,Hc s rb 4 (bs.map AV.bool)/\bs.length=ks.length/\∀(j:Nat) b,j<i->bs[j]?=some b->(b=true↔∃k,ks[j]?=some k/\k∈ks.take j)
theorem RP.sub{ks:List AV}{i:Nat}(h:RP U s0 s mb rb ks i)(k:Sub s s'):RP U s0 s' mb rb ks i:=by have ⟨bs,h1,h2,h3⟩:=h.arr;exact⟨h.keep.trans k,h.nm,h.nr,h.ne,h.map.sub k,bs,k _ _ h1,h2,h3⟩
theorem RP.put{ks:List AV}{i:Nat}{k:AV}{b:Bool}(h:RP U s0 s mb rb ks i)(hk:ks[i]?=some k)(hb:b=true↔k∈ks.take i){J:Hq->Prop}
  (hJ:∀(s':Hq) (bs:List Bool),SM U s' mb (ks.take i)->Sub s0 s'->Hc s' rb 4 (bs.map AV.bool)->bs.length=ks.length->(∀(j:Nat) b,j<i+1->bs[j]?=some b->(b=true↔∃k,ks[j]?=some k/\k∈ks.take j))->J s') :
  oK (cF 1 (.slc rb 0 ks.length (some ks.length) 1) i) λp=>oK (wr1 s p b) J:=by
 have ⟨bs,h1,h2,h3⟩:=h.arr;have hi:=(gS hk).1;have e1:cF 1 (.slc rb 0 ks.length (some ks.length) 1) i=some (.ptr rb i):=by
  have:blt i ks.length=true:=by rw[blt_eq];exact hi
  simp[cF,this]
 rw[e1];refine cw h1 (by simp;omega) rfl λs' h4 u4=>?_;refine hJ s' (bs.set i b) (h.map.upto u4 h.ne) (dp h.keep u4 h.nr) (by rw[h4,map_set]) (by simp[h2]) λj b' hj hb'=>?_
 grind
theorem RP.done{ks:List AV}(h:RP U s0 s mb rb ks ks.length):RepR s (.slc rb 0 ks.length (some ks.length) 1) ks:=by
 have ⟨bs,h1,h2,h3⟩:=h.arr;refine⟨bs,Sl.mk h1 (by simp[h2]) (λc e=>by cases e;simp[h2]),h2,λj b hb=>h3 j b ?_ hb⟩
 grind
theorem RP.start{ks:List AV}(h1:s0 mb=none)(h2:s0 rb=none)(hne:mb≠rb)(hs:Sub s0 s)(hm:s mb=some (false,.map [] 0))(hr:Hc s rb 4 (repl ks.length [false])):RP U s0 s mb rb ks 0:=
 ⟨hs,h1,h2,hne,⟨⟨[],0,hm,sI,sI⟩,sI⟩,replicate ks.length false,by rw[hr,ig];simp,sI,λj b hj=>oM⟩
theorem jaW{k:aA}{n:Int}{p:Prop}:intK (.int k n) p=p:=id rfl
theorem RP.putU{ks:List AV}{i:Nat}{k:AV}{b:Bool}(h:RP U s0 s mb rb ks i)(hk:ks[i]?=some k)(hb:b=true↔k∈ks.take i){J:Hq->Prop}
  (hJ:∀(s':Hq) (bs:List Bool),SM U s' mb (ks.take i)->Sub s0 s'->Hc s' rb 4 (bs.map AV.bool)->bs.length=ks.length->(∀(j:Nat) b,j<i+1->bs[j]?=some b->(b=true↔∃k,ks[j]?=some k/\k∈ks.take j))->Upto rb s s'->J s') :
  oK (cF 1 (.slc rb 0 ks.length (some ks.length) 1) i) λp=>oK (wr1 s p b) J:=by
 obtain⟨bs,h1,h2,h3⟩:=h.arr;have hi:=(gS hk).1;have e1:cF 1 (.slc rb 0 ks.length (some ks.length) 1) i=some (.ptr rb i):=by
  have:blt i ks.length=true:=by rw[blt_eq];exact hi
  simp[cF,this]
 rw[e1];refine cw h1 (by simp;omega) rfl λs' h4 u4=>?_;refine hJ s' (bs.set i b) (h.map.upto u4 h.ne) (dp h.keep u4 h.nr) (by rw[h4,map_set]) (by simp[h2]) (λj b' hj hb'=>?_) u4
 by_cases e:i=j
 ·subst e
  rw[getElem?_set_self oM]at hb';cases hb';exact hb.trans ⟨λq=>⟨k,hk,q⟩,λ⟨k',q1,q2⟩=>by rw[hk]at q1;cases q1;exact q2⟩
 rw[getElem?_set_ne e]at hb';exact h3 j b' oM hb'
theorem lE{es ty n:Nat}{z:List AV}(hok:∀{l k:AV}{K:AV->Hq->Prop}{s:Hq},xr es ty z l k K s->wC TP n [l,k] K s)(hz:z.length=es){A:Type}{rows:List A}{rowC:A->List AV}(hl:∀x,(rowC x).length=es)(ho:∀x,aX (rowC x)=true){key1:AV}{kf:A->Int}(hkey:∀(x:A) (s:Hq) (J:AV->Hq->Prop),(∀s',Sub s s'->J (AV.int .u32 (kf x)) s')->funK TP key1 [.agg (rowC x)] J s)(hv:SlR es s v (rows.map rowC))(hn:rows.length<=4294967296)(hK:∀s' r,Sub s s'->RepR s' r (rows.map λx=>AV.int .u32 (kf x))->K r s'):wC TP n [v,key1] K s:=by
 refine hok ?_;unfold xr bG;have hlen:cM v=some rows.length:=by rw[hv.len,lMY]
 have hkl0:(rows.map λx=>AV.int .u32 (kf x)).length=rows.length:=lMY _;rw[hlen];simp only[ae];intro mb hmb;refine⟨⟨Nat.le_refl _,hn⟩,aI λrb s9 hrb h9 u9=>?_⟩;have k3:Sub s (hset s mb (false,.map [] 0)):=j9 hmb;have hne:mb≠rb:=λe=>by rw[<- e,fe]at hrb;cases hrb
 have hsrb:s rb=none:=by rw[eL (Ne.symm hne)]at hrb;exact hrb
 have hm9:s9 mb=some (false,.map [] 0):=by rw[u9 _ hne,fe]
 have rp0:RP og s s9 mb rb (rows.map λx=>AV.int .u32 (kf x)) 0:=.start hmb hsrb hne (k3.trans (u9.sub hrb)) hm9 (by rw[hkl0];exact h9);refine⟨λys t m=>∃i:Nat,ys=[Ii i]/\i<=rows.length/\m=rows.length-i/\RP og s t mb rb (rows.map λx=>AV.int .u32 (kf x)) i,⟨_,0,rfl,oM,rfl,rp0⟩,?_⟩;rintro f t m ⟨i,hy,hi,rfl,rp⟩;simp only[cI,aq]at hy;rw[hy];simp only[OC,bu,ae,aS];refine aL (λhlt=>?_) (λhge=>?_)
 rotate_left
 have hge:i=rows.length:=by have:=oF hge;omega
 subst hge;have:=RP.done (by rw[hkl0];exact rp);rw[hkl0]at this;exact hK t _ rp.keep this;have hlt:i<rows.length:=by have:=oT hlt;omega
 have hx:rows[i]?=some rows[i]:=gE hlt;generalize rows[i]=x at hx;have ⟨pb,po,e1,e2,_⟩:=(hv.sub rp.keep).get (i:=i) (r:=rowC x) (by rw[cq,hx];rfl);have hkx:(rows.map λx=>AV.int .u32 (kf x))[i]?=some (AV.int .u32 (kf x)):=by rw[cq,hx];rfl
 rw[e1];simp only[ae,e2];refine aI λb15 s16 hb15 h16 u16=>cD h16 (by rw[hl x,hz]) hz (ho x) λs17 h17 u17=>aE (bX h17 (hl x)) ?_;have k17:=dp (u16.sub hb15) u17 hb15;refine hkey x s17 _ λs20 k20=>?_;have rp20:=rp.sub (k17.trans k20);refine rp20.map.getM λr b hr hb=>?_;rw[hr];rw[<- hkl0];refine rp20.put hkx hb λs23 bs sm23 k23 h23 hbl hbs=>?_;refine sm23.putM λs24 sm24 u24=>?_;have rp24:RP og s s24 mb rb (rows.map λx=>AV.int .u32 (kf x)) (i+1):=⟨dp k23 u24 hmb,hmb,hsrb,hne,by rw[bO,hkx];exact sm24,bs,by rw[u24 _ (Ne.symm hne)];exact h23,hbl,hbs⟩
 simp only[bg,ae];rw[aT];exact⟨_,oM,i+1,rfl,oM,rfl,rp24⟩
theorem lF{es ty kn kt n:Nat}{z kz:List AV}(hok:∀{l k:AV}{K:AV->Hq->Prop}{s:Hq},sP es ty z kn kt kz l k K s->wC TP n [l,k] K s)(hz:z.length=es)(hkz:kz.length=kn){A:Type}{rows:List A}{rowC:A->List AV}(hl:∀x,(rowC x).length=es)(ho:∀x,aX (rowC x)=true){key1:AV}{kf:A->List AV}{U:AV->Prop}(hT:KT TP kt U)(hU:∀x,U (.agg (kf x)))(hkl:∀x,(kf x).length=kn)(hko:∀x,aX (kf x)=true)(hkey:∀(x:A) (s:Hq) (J:AV->Hq->Prop),(∀s',Sub s s'->J (AV.agg (kf x)) s')->funK TP key1 [.agg (rowC x)] J s)(hv:SlR es s v (rows.map rowC))(hn:rows.length<=4294967296)(hK:∀s' r,Sub s s'->RepR s' r (rows.map λx=>AV.agg (kf x))->K r s'):wC TP n [v,key1] K s:=by
 refine hok ?_;unfold sP bG;have hlen:cM v=some rows.length:=by rw[hv.len,lMY]
 have hkl0:(rows.map λx=>AV.agg (kf x)).length=rows.length:=lMY _;rw[hlen];simp only[ae];intro mb hmb;refine⟨⟨Nat.le_refl _,hn⟩,aI λrb s9 hrb h9 u9=>?_⟩;have k3:Sub s (hset s mb (false,.map [] 0)):=j9 hmb;have hne:mb≠rb:=λe=>by rw[<- e,fe]at hrb;cases hrb
 have hsrb:s rb=none:=by rw[eL (Ne.symm hne)]at hrb;exact hrb
 have hm9:s9 mb=some (false,.map [] 0):=by rw[u9 _ hne,fe]
 have rp0:RP U s s9 mb rb (rows.map λx=>AV.agg (kf x)) 0:=.start hmb hsrb hne (k3.trans (u9.sub hrb)) hm9 (by rw[hkl0];exact h9);refine⟨λys t m=>∃i:Nat,ys=[Ii i]/\i<=rows.length/\m=rows.length-i/\RP U s t mb rb (rows.map λx=>AV.agg (kf x)) i,⟨_,0,rfl,oM,rfl,rp0⟩,?_⟩;rintro f t m ⟨i,hy,hi,rfl,rp⟩;simp only[cI,aq]at hy;rw[hy];simp only[OB,bu,ae,aS];refine aL (λhlt=>?_) (λhge=>?_)
 rotate_left
 have hge:i=rows.length:=by have:=oF hge;omega
 subst hge;have:=RP.done (by rw[hkl0];exact rp);rw[hkl0]at this;exact hK t _ rp.keep this;have hlt:i<rows.length:=by have:=oT hlt;omega
 have hx:rows[i]?=some rows[i]:=gE hlt;generalize rows[i]=x at hx;have ⟨pb,po,e1,e2,_⟩:=(hv.sub rp.keep).get (i:=i) (r:=rowC x) (by rw[cq,hx];rfl);have hkx:(rows.map λx=>AV.agg (kf x))[i]?=some (AV.agg (kf x)):=by rw[cq,hx];rfl
 rw[e1];simp only[ae,e2];refine aI λb15 s16 hb15 h16 u16=>cD h16 (by rw[hl x,hz]) hz (ho x) λs17 h17 u17=>aE (bX h17 (hl x)) ?_;have k17:=dp (u16.sub hb15) u17 hb15;refine hkey x s17 _ λs20 k20=>?_;refine aI λb21 s22 hb21 h22 u22=>cD h22 (by rw[hkl x,hkz]) hkz (hko x) λs23 h23' u23'=>aE (bX h23' (hkl x)) ?_;have k23':=dp (u22.sub hb21) u23' hb21;have rp20:=rp.sub ((k17.trans k20).trans k23');refine rp20.map.getG hT (hU x) λr b hr hb=>?_;rw[hr];rw[<- hkl0];have nrb:b21≠rb:=λe=>by have ⟨bs,q,_⟩:=(rp.sub (k17.trans k20)).arr;rw[e,q]at hb21;cases hb21
 refine rp20.putU hkx hb λs27 bs sm27 k27 h27 hbl hbs u27=>?_;have h27':Hc s27 b21 kt (kf x):=by rw[u27 _ nrb];exact h23'
 refine aE (bX h27' (hkl x)) ?_;refine sm27.putG hT (hU x) λs24 sm24 u24=>?_;have rp24:RP U s s24 mb rb (rows.map λx=>AV.agg (kf x)) (i+1):=⟨dp k27 u24 hmb,hmb,hsrb,hne,by rw[bO,hkx];exact sm24,bs,by rw[u24 _ (Ne.symm hne)];exact h27,hbl,hbs⟩
 simp only[bg,ae];rw[aT];exact⟨_,oM,i+1,rfl,oM,rfl,rp24⟩
variable{J:AV→Hq→Prop}
theorem k206(a b a' b':Int):js TP 312 (.array 2 3) (.agg [a,b]) (.agg [a',b'])=(match mB (some (eqI a a')) (mB (some (eqI b b')) (some true))with
 |some true=>cond (eqI a a'&&(eqI b b'&&true)) (some true) none
 |r=>r):=kR
theorem JV:KT TP 312 (λk=>∃a b,k=.agg [Ii a,Ii b]):=by
 refine⟨⟨_,Tryz.underlying312,rfl,?_⟩,?_⟩;rintro k k' ⟨a,b,rfl⟩ ⟨a',b',rfl⟩;refine⟨decide (a=a'/\b=b'),?_,sI⟩
 grind [k206,jo,mB]
 rintro k ⟨a,b,rfl⟩;have:∀a b:Int,iN TP 10 312 (.agg [a,b])=true:=λa b=>kR;exact this a b
theorem k223(a b a' b':Int):js TP 327 (.struct #[{ name:="bd",type:=3,offset:=0,embedded:=false,tag:="",pkgPath:="leafmesh/tenant",byteOffset:=0 },{ name:="addr",type:=55,offset:=1,embedded:=false,tag:="",pkgPath:="leafmesh/tenant",byteOffset:=8 }]) (.agg [a,Iq b]) (.agg [a',Iq b'])=(match mB (some (eqI a a')) (mB (some (eqI b b')) (some true))with
 |some true=>cond (eqI a a'&&(eqI b b'&&true)) (some true) none
 |r=>r):=kR
theorem vm:KT TP 327 (λk=>∃a b,k=.agg [Ii a,Iq b]):=by
 refine⟨⟨_,Tryz.underlying327,rfl,?_⟩,?_⟩;rintro k k' ⟨a,b,rfl⟩ ⟨a',b',rfl⟩
 grind [k223,jo,mB]
 rintro k ⟨a,b,rfl⟩;have:∀a b:Int,iN TP 10 327 (.agg [a,Iq b])=true:=λa b=>kR;exact this a b
theorem k140(a b c d a' b' c' d':Int):js TP 186 (.struct #[{ name:="From",type:=3,offset:=0,embedded:=false,tag:="",pkgPath:="",byteOffset:=0 },{ name:="To",type:=3,offset:=1,embedded:=false,tag:="",pkgPath:="",byteOffset:=8 },{ name:="Prefix",type:=159,offset:=2,embedded:=false,tag:="",pkgPath:="",byteOffset:=16 }]) (.agg [a,b,Iw c,d]) (.agg [a',b',Iw c',d'])=(match mB (some (eqI a a')) (mB (some (eqI b b')) (mB (mB (some (eqI c c')) (mB (some (eqI d d')) (some true))) (some true)))with
 |some true=>cond (eqI a a'&&(eqI b b'&&(eqI c c'&&(eqI d d'&&true)))) (some true) none
 |r=>r):=kR
theorem JW:KT TP 186 (λk=>∃x,k=.agg (ggC x)):=by
 refine⟨⟨_,Tryz.underlying186,rfl,?_⟩,?_⟩;rintro k k' ⟨⟨a,b,c,d⟩,rfl⟩ ⟨⟨a',b',c',d'⟩,rfl⟩;refine⟨decide (a=a'/\b=b'/\c=c'/\d=d'),?_,by simp[ggC]⟩;show js TP 186 _ (.agg [a,b,Iw c,d]) (.agg [a',b',Iw c',d'])=_;rw[k140,jo,jo,jo,jo]
 by_cases h1:a=a'
 by_cases h2:b=b'
 by_cases h3:c=c'
 by_cases h4:d=d'
 simp[mB,h1,h2,h3,h4];simp[mB,h1,h2,h3,h4];simp[mB,h1,h2,h3];simp[mB,h1,h2];simp[mB,h1];rintro k ⟨⟨a,b,c,d⟩,rfl⟩;have:∀a b c d:Int,iN TP 10 186 (.agg [a,b,Iw c,d])=true:=λa b c d=>kR;exact this a b c d
theorem lG{f:FuncId}{args:List AV}(hf:isFn TP f=true)(h:wC TP f args J s):funK TP (.fn (.func f) [] []) args J s:=
 (by grind [gQ])
theorem vo(x:Int×Int)(s:Hq)(J:AV->Hq->Prop)(hJ:∀s',Sub s s'->J (Iw x.1) s'):funK TP (.fn (.func 182) [] []) [.agg (tgC x)] J s:=by
 refine lG kR (UW ⟨rfl,aI λb s1 hb h1 u1=>?_⟩);have h1:Hc s1 b 157 (tgC x):=h1;have e0:(tgC x)[0]?=some (Iw x.1):=rfl
 grind [aK,cP,au,Upto.sub]
theorem vp(x:Int×Int)(s:Hq)(J:AV->Hq->Prop)(hJ:∀s',Sub s s'->J (Iw x.2) s'):funK TP (.fn (.func 183) [] []) [.agg (tgC x)] J s:=by
 refine lG kR (UY ⟨rfl,aI λb s1 hb h1 u1=>?_⟩);have h1:Hc s1 b 157 (tgC x):=h1;have e0:(tgC x)[1]?=some (Iw x.2):=rfl
 grind [aK,cP,au,Upto.sub]
theorem JX(x:BG)(s:Hq)(J:AV->Hq->Prop)(hJ:∀s',Sub s s'->J (Iw x.2.1) s'):funK TP (.fn (.func 185) [] []) [.agg (bgC x)] J s:=by
 refine lG kR (U1 ⟨rfl,aI λb s1 hb h1 u1=>?_⟩);have h1:Hc s1 b 161 (bgC x):=h1;have e0:(bgC x)[1]?=some (Iw x.2.1):=rfl
 grind [aK,cP,au,Upto.sub]
theorem JY(x:BG)(s:Hq)(J:AV->Hq->Prop)(hJ:∀s',Sub s s'->J (Iw x.2.2.1) s'):funK TP (.fn (.func 186) [] []) [.agg (bgC x)] J s:=by
 refine lG kR (U4 ⟨rfl,aI λb s1 hb h1 u1=>?_⟩);have h1:Hc s1 b 161 (bgC x):=h1;have e0:(bgC x)[2]?=some (Iw x.2.2.1):=rfl
 grind [aK,cP,au,Upto.sub]
theorem JZ(x:RLk)(s:Hq)(J:AV->Hq->Prop)(hJ:∀s',Sub s s'->J (.agg [x.1,x.2.1]) s'):funK TP (.fn (.func 179) [] []) [.agg (lkC x)] J s:=by
 refine lG kR (UT ⟨rfl,aI λb s1 hb h1 u1=>aI λb2 s3 hb2 h3 u3=>?_⟩);have h1:Hc s1 b 145 (lkC x):=h1;have k1:=u1.sub hb;have k3:=u3.sub hb2;have e0:(lkC x)[0]?=some (Ii x.1):=rfl;have e1:(lkC x)[1]?=some (Ii x.2.1):=rfl;have h13:=k3 _ _ h1;simp only[aK,zAY,ae,au h13,e0,e1];refine aE (a:=[x.1,x.2.1]) rfl (cD h3 rfl rfl rfl λs9 h9 u9=>aE (bX h9 rfl) ?_)
 grind [dp,Sub.trans]
theorem J0(x:R4)(s:Hq)(J:AV->Hq->Prop)(hJ:∀s',Sub s s'->J (.agg (ggC x)) s'):funK TP (.fn (.func 204) [] []) [.agg (ggC x)] J s:=by
 refine lG kR (Vv ⟨rfl,aI λb s1 hb h1 u1=>aI λb2 s3 hb2 h3 u3=>?_⟩);have h1:Hc s1 b 186 (ggC x):=h1;have k1:=u1.sub hb;have k3:=u3.sub hb2;have h13:=k3 _ _ h1;refine aE (bX h13 rfl) (cD h3 rfl rfl rfl λs9 h9 u9=>aE (bX h9 rfl) ?_)
 grind [dp,Sub.trans]
theorem J1(x:R4)(s:Hq)(J:AV->Hq->Prop)(hJ:∀s',Sub s s'->J (.agg [x.2.2.1,Iq x.1]) s'):funK TP (.fn (.func 197) [] []) [.agg (hgC x)] J s:=by
 refine lG kR (Vm ⟨rfl,aI λb s1 hb h1 u1=>aI λb2 s3 hb2 h3 u3=>?_⟩);have h1:Hc s1 b 182 (hgC x):=h1;have k1:=u1.sub hb;have k3:=u3.sub hb2;have e0:(hgC x)[0]?=some (Iq x.1):=rfl;have e2:(hgC x)[2]?=some (Ii x.2.2.1):=rfl;have h13:=k3 _ _ h1;simp only[aK,zAY,ae,au h13,e0,e2];refine aE (a:=[x.2.2.1,Iq x.1]) rfl (cD h3 rfl rfl rfl λs9 h9 u9=>aE (bX h9 rfl) ?_)
 grind [dp,Sub.trans]
theorem J2(x:R4)(s:Hq)(J:AV->Hq->Prop)(hJ:∀s',Sub s s'->J (.agg [x.2.2.1,Iq (dw .u64 x.2.1)]) s'):funK TP (.fn (.func 198) [] []) [.agg (hgC x)] J s:=by
 refine lG kR (Vn ⟨rfl,aI λb s1 hb h1 u1=>aI λb2 s3 hb2 h3 u3=>?_⟩);have h1:Hc s1 b 182 (hgC x):=h1;have k1:=u1.sub hb;have k3:=u3.sub hb2;have e1:(hgC x)[1]?=some (Iw x.2.1):=rfl;have e2:(hgC x)[2]?=some (Ii x.2.2.1):=rfl;have ec:dX .u64 (Iw x.2.1)=some (Iq (dw .u64 x.2.1)):=rfl;have h13:=k3 _ _ h1;simp only[aK,zAY,ae,au h13,e1,e2,ec];refine aE (a:=[x.2.2.1,Iq (dw .u64 x.2.1)]) rfl (cD h3 rfl rfl rfl λs9 h9 u9=>aE (bX h9 rfl) ?_)
 grind [dp,Sub.trans]
theorem SR{α:Type}{ks:List α}(h:ks.Nodup)(j:Nat)(k:α)(hk:ks[j]?=some k):k ∉ ks.take j:=by intro hm;have ⟨i,hi,e⟩:=getElem_of_mem hm;have ⟨hj,hk'⟩:=gS hk;rw[length_take]at hi;rw[getElem_take]at e;exact(cE.1 h) i j oM hj oM (by rw[e,hk'])
theorem oh{α β γ:Type}{f:α->β}{g:α->γ}(h:∀x y,f x=f y↔g x=g y){l:List α}{x:α}:f x∈l.map f↔g x∈l.map g:=by
 grind
def LkG(F:FG)(x:RLk):Prop:=(0<=x.1/\x.1<F.lf)/\(F.lf<=x.2.1/\x.2.1<F.lf+F.sp)/\1<=x.2.2/\x.2.2<=1000
structure LinksOk(F:FG):Prop where
 n:F.L.length<=128
 row:∀(i:Nat) x,F.L[i]?=some x->LkG F x/\(x.1,x.2.1) ∉ (F.L.take i).map λx=>(x.1,x.2.1)
theorem J3(hF:FabOk F)(hn:F.L.length<=4294967296)(hc:s c=some (t,.cells 238 (csG F v2 v3 v4 v5 v6 v7)))(hL:FL s F v2 v3 v4 v5 v6 v7)(hK:Kok s (LinksOk F) K)(hR:Rbad s (LinksOk F) NoR):wC TP 147 [Pp c] K s:=by
 refine VU (pM rfl hc hL λb3 s5 h5 k5=>?_);have hL5:=(hL.sub k5).L;have hlen:cM v2=some F.L.length:=by rw[hL5.len,lMY]
 simp only[aK,zAY,ae,au h5,csG2,hlen,dy];refine eJ (λq=>?_) λq=>hR ((by grind [LinksOk.n])) _ _ _ s5 oM k5;have hn128:F.L.length<=128:=gR;simp only[au h5,csG2,ae];refine lF (λh=>US h) rfl rfl (rows:=F.L) (rowC:=lkC) (λ_=>rfl) (λ_=>rfl) (kf:=λx=>[x.1,x.2.1]) JV (λx=>⟨_,_,rfl⟩) (λ_=>rfl) (λ_=>rfl) (λx s J=>JZ x s J) hL5 oM λs16 again k16 rep=>?_;have h16:=k16 _ _ h5;simp only[au h16,csG2,ae,hlen];have hinj:∀x y:RLk,(AV.agg [x.1,x.2.1]=AV.agg [y.1,y.2.1])↔(x.1,x.2.1)=(y.1,y.2.1):=λx y=>sI;refine⟨λys t m=>∃i:Nat,ys=[Ii i]/\i<=F.L.length/\m=F.L.length-i/\Sub s16 t/\∀(j:Nat) x,j<i->F.L[j]?=some x->LkG F x/\(x.1,x.2.1) ∉ (F.L.take j).map λx=>(x.1,x.2.1),⟨_,0,rfl,oM,rfl,.refl _,λj x hj=>oM⟩,?_⟩;rintro f t m ⟨i,hy,hi,rfl,kt,hall⟩;simp only[cI,aq]at hy;rw[hy];simp only[O4,bu,ae];refine aL (λhlt=>?_) (λhge=>?_)
 rotate_left
 have hge:i=F.L.length:=gR;subst hge;exact hK ⟨hn128,gR⟩ t (k5.trans (k16.trans kt));have hlt:i<F.L.length:=gR;have hx:F.L[i]?=some F.L[i]:=gE hlt;generalize F.L[i]=x at hx;have ⟨pb,po,e1,e2,_⟩:=(hL5.sub (k16.trans kt)).get (i:=i) (r:=lkC x) gR;rw[e1];simp only[ae,e2];refine aI λb24 s25 hb24 h25 u25=>cD h25 rfl rfl rfl λs26 h26 u26=>?_;have k26:=dp (u25.sub hb24) u26 hb24;have h3:=k26 _ _ (kt _ _ h16);have kall:=k5.trans (k16.trans (kt.trans k26));have a0:(lkC x)[0]?=some (Ii x.1):=rfl;have a1:(lkC x)[1]?=some (Ii x.2.1):=rfl;have a2:(lkC x)[2]?=some (Ii x.2.2):=rfl;have bad:¬LkG F x->¬LinksOk F:=λq g=>q (g.row i x hx).1;have j3:∀(p q:AV) (bd:Bool),cW p true q=some bd->(bd=true->¬LkG F x)->(bd=false->LkG F x)->xF again i i p q (λys t m=>∃i:Nat,ys=[Ii i]/\i<=F.L.length/\m=F.L.length-i/\Sub s16 t/\∀(j:Nat) x,j<i->F.L[j]?=some x->LkG F x/\(x.1,x.2.1) ∉ (F.L.take j).map λx=>(x.1,x.2.1)) (F.L.length-i) K s26:=λp q bd h h1 h2=>by
  unfold xF aS;rw[h];refine eJ (λq1=>?_) λq1=>hR (bad (h1 q1)) _ _ _ s26 oM kall;have ⟨pp,bb,g1,g2,g3⟩:=(rep.sub (kt.trans k26)).at (j:=i) (k:=.agg [x.1,x.2.1]) gR;rw[<- du,oh hinj]at g3;rw[g1];simp only[ae,g2];refine eJ (λq2=>?_) λq2=>hR (λg=>(g.row i x hx).2 (g3.1 q2)) _ _ _ s26 oM kall;simp only[bg,ae];rw[aT];refine⟨_,oM,i+1,rfl,oM,rfl,kt.trans k26,λj z hj hz=>?_⟩
  grind
 have j2:∀(p q:AV) (ok:Bool),cW p q false=some (.bool ok)->(ok=false->¬LkG F x)->(ok=true->(0<=x.1/\x.1<F.lf)/\(F.lf<=x.2.1/\x.2.1<F.lf+F.sp))->xG again i (Pp b24) i p q (λys t m=>∃i:Nat,ys=[Ii i]/\i<=F.L.length/\m=F.L.length-i/\Sub s16 t/\∀(j:Nat) x,j<i->F.L[j]?=some x->LkG F x/\(x.1,x.2.1) ∉ (F.L.take j).map λx=>(x.1,x.2.1)) (F.L.length-i) K s26:=λp q ok h h1 h2=>by
  unfold xG;rw[h];refine aL (λq1=>?_) (λq1=>?_)
  ·have hok:ok=false:=by simpa using q1
   exact j3 _ _ true (by rw[q1];rfl) (λ_=>h1 hok) (λq2=>by cases q2)
  ·have hok:ok=true:=by simpa using q1
   simp only[aK,zAY,ae,au h26,a2];refine gK ?_;exact j3 _ _ (outB x.2.2 1 1000) (by rw[q1];rfl) (λq2 g=>by have:=fA.2 g.2.2;rw[this]at q2;cases q2) (λq2=>⟨(h2 hok).1,(h2 hok).2,fA.1 q2⟩)
 have j1:∀(p q:AV) (ok:Bool),cW p q false=some (.bool ok)->(ok=false->¬LkG F x)->(ok=true->(0<=x.1/\x.1<F.lf)/\F.lf<=x.2.1)->xH (Pp b3) again i (Pp b24) i p q (λys t m=>∃i:Nat,ys=[Ii i]/\i<=F.L.length/\m=F.L.length-i/\Sub s16 t/\∀(j:Nat) x,j<i->F.L[j]?=some x->LkG F x/\(x.1,x.2.1) ∉ (F.L.take j).map λx=>(x.1,x.2.1)) (F.L.length-i) K s26:=λp q ok h h1 h2=>by
  unfold xH;rw[h];refine aL (λq1=>?_) (λq1=>?_);have:=hF.lf;have:=hF.sp;simp only[aK,zAY,ae,au h26,a1,au h3,csG0,csG1,bg,bu];rw[aT];exact j2 _ _ (decide (x.2.1<F.lf+F.sp)) (by rw[q1];rfl) (λq2 g=>by have:=oF q2;have:=g.2.1.2;omega) (λq2=>gR)
  ·exact j2 _ _ false (by rw[q1];rfl) (λ_=>h1 q1) (λq2=>by cases q2)
 simp only[aK,zAY,ae,au h26,a0,au h3,csG0];refine oe ?_;refine aL (λq1=>?_) (λq1=>?_);simp only[ae,au h26,a1,au h3,csG0,dQ];exact j1 _ _ (decide (F.lf<=x.2.1)) (by rw[q1];rfl) (λq2 g=>by have:=oF q2;have:=g.2.1.1;omega) (λq2=>⟨jK.1 q1,oT q2⟩)
 ·exact j1 _ _ false (by rw[q1];rfl) (λ_ g=>by have:=jK.2 g.1;rw[this]at q1;cases q1) (λq2=>by cases q2)
def TnG(x:Int×Int):Prop:=1<=x.1/\x.1<=16777215/\x.2≠0
structure TenOk(F:FG):Prop where
 n:F.T.length<=16
 row:∀(i:Nat) x,F.T[i]?=some x->TnG x/\x.1 ∉ (F.T.take i).map (·.1)/\x.2 ∉ (F.T.take i).map (·.2)
abbrev InvT(F:FG)(s16:Hq):List AV->Hq->Nat->Prop:=λys t m=>∃i:Nat,ys=[Ii i]/\i<=F.T.length/\m=F.T.length-i/\Sub s16 t/\∀(j:Nat) x,j<i->F.T[j]?=some x->TnG x/\x.1 ∉ (F.T.take j).map (·.1)/\x.2 ∉ (F.T.take j).map (·.2)
theorem J4(hn:F.T.length<=4294967296)(hc:s c=some (t,.cells 238 (csG F v2 v3 v4 v5 v6 v7)))(hL:FL s F v2 v3 v4 v5 v6 v7)(hK:Kok s (TenOk F) K)(hR:Rbad s (TenOk F) NoR):wC TP 148 [Pp c] K s:=by
 refine VW ?_;unfold O6 bG;have hlen:cM v3=some F.T.length:=by rw[hL.T.len,lMY]
 simp only[bQ,aK,zAY,ae,au hc,csG3,hlen,dy];refine eJ (λq=>?_) λq=>hR ((by grind [TenOk.n])) _ _ _ s oM (.refl _);have hn16:F.T.length<=16:=gR;refine lE (λh=>OD h) rfl (rows:=F.T) (rowC:=tgC) (λ_=>rfl) (λ_=>rfl) (kf:=λx=>x.1) (λx s J=>vo x s J) hL.T oM λs10 vn k10 repv=>?_;refine lE (λh=>OD h) rfl (rows:=F.T) (rowC:=tgC) (λ_=>rfl) (λ_=>rfl) (kf:=λx=>x.2) (λx s J=>vp x s J) (hL.T.sub k10) oM λs12 tg k12 rept=>?_;have hiv:∀x y:Int×Int,(AV.int .u32 x.1=AV.int .u32 y.1)↔x.1=y.1:=λx y=>sI;have hit:∀x y:Int×Int,(AV.int .u32 x.2=AV.int .u32 y.2)↔x.2=y.2:=λx y=>sI;refine⟨InvT F s12,⟨_,0,rfl,oM,rfl,.refl _,λj x hj=>oM⟩,?_⟩;rintro f t m ⟨i,hy,hi,rfl,kt,hall⟩;simp only[cI,aq]at hy;rw[hy];simp only[O5,bu,ae];refine aL (λhlt=>?_) (λhge=>?_)
 rotate_left
 have hge:i=F.T.length:=gR;subst hge;exact hK ⟨hn16,λj x hx=>gR⟩ t (k10.trans (k12.trans kt));have hlt:i<F.T.length:=gR;have hx:F.T[i]?=some F.T[i]:=gE hlt;generalize F.T[i]=x at hx;have ⟨pb,po,e1,e2,_⟩:=(hL.T.sub (k10.trans (k12.trans kt))).get (i:=i) (r:=tgC x) gR;rw[e1];simp only[ae,e2];refine aI λb18 s19 hb18 h19 u19=>cD h19 rfl rfl rfl λs20 h20 u20=>?_;have k20:Sub t s20:=dp (u19.sub hb18) u20 hb18;have kall:Sub s s20:=(by grind [Sub.trans])
 have a0:(tgC x)[0]?=some (Iw x.1):=rfl;have a1:(tgC x)[1]?=some (Iw x.2):=rfl;have bad:¬TnG x->¬TenOk F:=λq g=>q (g.row i x hx).1;have ⟨p1,w1,g11,g12,g13⟩:=(repv.sub (k12.trans (kt.trans k20))).at (j:=i) (k:=Iw x.1) gR;have ⟨p2,w2,g21,g22,g23⟩:=(rept.sub (kt.trans k20)).at (j:=i) (k:=Iw x.2) gR;rw[<- du,oh hiv]at g13;rw[<- du,oh hit]at g23;have j3:∀(p q:AV) (bd:Bool),cW p true q=some (.bool bd)->(bd=true->¬TenOk F)->(bd=false->TnG x/\x.1 ∉ (F.T.take i).map (·.1)/\x.2 ∉ (F.T.take i).map (·.2))->xI i i p q (InvT F s12) (F.T.length-i) K s20:=λp q bd h h1 h2=>by
  unfold xI aS;rw[h];simp only[ae];refine eJ (λq1=>?_) (by simp_all);simp only[bg,ae];rw[aT];refine⟨_,oM,i+1,rfl,oM,rfl,kt.trans k20,λj z hj hz=>?_⟩
  grind
 have j2:∀(p q:AV) (bd:Bool),cW p true q=some (.bool bd)->(bd=true->¬TnG x)->(bd=false->TnG x)->xJ vn tg i i p q (InvT F s12) (F.T.length-i) K s20:=λp q bd h h1 h2=>by
  unfold xJ;rw[h];simp only[ae];refine eJ (λq1=>?_) λq1=>hR (bad (h1 q1)) _ _ _ s20 oM kall;rw[g11];simp only[ae,g12];refine aL (λq2=>?_) (λq2=>?_)
  ·exact j3 _ _ true (by rw[q2];rfl) ((by grind [TenOk.row])) (λq=>by cases q)
  rw[g21];simp only[ae,g22];exact j3 _ _ w2 (by rw[q2];rfl) ((by grind [TenOk.row])) (λq3=>gR)
 have j1:∀(p q:AV) (bd:Bool),cW p true q=some (.bool bd)->(bd=true->¬TnG x)->(bd=false->1<=x.1/\x.1<=16777215)->xK vn tg i (Pp b18) i p q (InvT F s12) (F.T.length-i) K s20:=λp q bd h h1 h2=>by
  unfold xK;rw[h];simp only[ae];refine aL (λq1=>?_) (λq1=>?_)
  ·exact j2 _ _ bd (by rw[q1];rfl) h1 (λq2=>by rw[q1]at q2;cases q2)
  simp only[aK,zAY,ae,au h20,a1,cj,bJ,Bool.false_bne];exact j2 _ _ (x.2 == 0) (by rw[q1];rfl) (λq2 g=>g.2.2 (by simpa using q2)) (λq2=>⟨(h2 q1).1,(h2 q1).2,by simpa using q2⟩)
 simp only[aK,zAY,ae,au h20,a0,bu];refine aL (λq1=>?_) (λq1=>?_)
 ·exact j1 _ _ true (by rw[q1];rfl) (λ_ g=>by have:=oT q1;have:=g.1;omega) (λq2=>by cases q2)
 simp only[ae,dy];exact j1 _ _ (decide (16777215<x.1)) (by rw[q1];rfl) (λq2 g=>by have:=oT q2;have:=g.2.1;omega) (λq2=>gR)
end Go.AM.TN
