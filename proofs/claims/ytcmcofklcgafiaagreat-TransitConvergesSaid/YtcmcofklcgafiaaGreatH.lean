/- Part H of the proof: see the last part. -/
import Derived.Test.YtcmcofklcgafiaaGreatG
import Derived.Test.YtcmcofklcgafiaaGreatV2
import Derived.Test.YtcmcofklcgafiaaGreatD
open Go renaming IntKind→aA
open List renaming append_nil→d9,filter_append→fX,getElem?_map→cq,getElem?_of_mem→eA,getElem?_replicate→jL,getElem?_set_ne→ef,getElem?_set_self→fE,getElem_mem→aN,getElem_of_mem→dH,length_take→dJ,map_take→du,mem_append→cR,mem_map→aG,mem_singleton→bN,pairwise_cons→aB,pairwise_iff_getElem→cE,take_add_one→bO,take_append_drop→fD,take_length→dI
open Nat renaming blt_eq→bZ
set_option linter.unusedVariables false
set_option maxRecDepth 100000
namespace Go.AM.TN
open Go Go.Proofs List Nat
variable{K:AV→Hq→Prop}{s s':Hq}{y:AV}{b:Nat}
def andU(x y:Int):Int:=dw .u32 ((BitVec.ofInt 32 x &&& BitVec.ofInt 32 y).toNat:Nat)
def orU(x y:Int):Int:=dw .u32 ((BitVec.ofInt 32 x |||BitVec.ofInt 32 y).toNat:Nat)
def xorU(x y:Int):Int:=dw .u32 ((BitVec.ofInt 32 x ^^^ BitVec.ofInt 32 y).toNat:Nat)
theorem SS{x y:Int}:cZ .and (Iw x) (Iw y)=some (Iw (andU x y)):=by simp only[cZ,arith,eQ,lX,aD];rfl
theorem J5{x y:Int}:cZ .or (Iw x) (Iw y)=some (Iw (orU x y)):=by simp only[cZ,arith,eQ,lX,aD];rfl
theorem qZ9{x y:Int}:cZ .xor (Iw x) (Iw y)=some (Iw (xorU x y)):=by simp only[cZ,arith,eQ,lX,aD];rfl
def shlU(x:Int)(n:Nat):Int:=dw .u32 (x*((2^(min n 32):Nat):Int))
def mskU(len:Int):Int:=shlU 4294967295 (32-len).toNat
def kF(len:Int):Bool:=decide (0<=len)&&decide (len<=32)
theorem ST{len:Int}:kF len=true↔0<=len/\len<=32:=by unfold kF;simp
theorem vq{x len:Int}(h:len<=32):fN .shl (Iw x) (32-len:Int)=some (Iw (shlU x (32-len).toNat)):=by
 obtain⟨n,hn⟩:∃n:Nat,32-len=n:=⟨(32-len).toNat,oM⟩
 rw[hn];show frc (dw .u32 (x*((2^(min n (aA.bits .u32)):Nat):Int))) (λn=>some (AV.int .u32 n))=_;rfl
abbrev pfC(ip len:Int):List AV:=[Iw ip,len]
theorem fk{ip len:Int}(hK:∀s',Sub s s'->K (kF len) s'):wC TP 220 [.agg (pfC ip len)] K s:=by refine VI ⟨rfl,aI λb s1 hb h1 u1=>?_⟩;have h1:Hc s1 b 159 (pfC ip len):=h1;have e1:(pfC ip len)[1]?=some (Ii len):=rfl;have k1:=u1.sub hb;simp only[aK,zAY,ae,au h1,e1,dQ,iX];have hk:=hK s1 k1;unfold kF at hk;refine aL (λe=>?_) (λe=>?_);rw[e]at hk ⊢;exact hk;rw[e]at hk ⊢;exact hk
theorem vt{len:Int}(h:0<=len/\len<=32)(hK:K (Iw (mskU len)) s):wC TP 221 [len] K s:=by refine VJ ?_;unfold OV;simp only[eC,ae];rw[aT,vq h.2];exact hK
def lH(ip len x:Int):Bool:=kF len&&(andU (xorU ip x) (mskU len) == 0)
theorem J6{ip len x:Int}(hK:∀s',Sub s s'->K (lH ip len x) s'):wC TP 192 [.agg (pfC ip len),Iw x] K s:=by
 refine Vf ⟨rfl,aI λb s1 hb h1 u1=>?_⟩;have h1:Hc s1 b 159 (pfC ip len):=h1;have k1:=u1.sub hb;refine aE (bX h1 rfl) ⟨(kF len),fk λs4 k4=>rfl,?_⟩;have e0:(pfC ip len)[0]?=some (Iw ip):=rfl;have e1:(pfC ip len)[1]?=some (Ii len):=rfl;have hk:=hK s1 k1;unfold lH at hk;refine aL (λe=>?_) (λe=>?_);simp only[aK,zAY,ae,au h1,e0,e1,qZ9];refine⟨Iw (mskU len),vt (ST.1 e) rfl,?_⟩
 grind [SS,cP,cj,bJ,cy,ke]
 simp_all[ae]
def i9(ip len:Int):Bool:=kF len&&(andU ip (mskU len) == ip)
theorem J7{ip len:Int}(h1:kF len=false->∀s',Sub s s'->K (.tup [.agg (pfC 0 0),Ii 2]) s')(h2:kF len=true->∀s',Sub s s'->K (.tup [.agg (pfC (andU ip (mskU len)) len),Ii 0]) s'):wC TP 218 [.agg (pfC ip len)] K s:=by
 refine VE ⟨rfl,aI λb s1 hb q1 u1=>aI λb2 s3 hb2 q3 u3=>?_⟩;have q1:=q1;have k1:=u1.sub hb;have k3:=u3.sub hb2;refine aE (bX (k3 _ _ q1) rfl) (fk λs6 k6=>?_);have q6:=k6 _ _ (k3 _ _ q1);have z6:=k6 _ _ q3;have e0:(pfC ip len)[0]?=some (Iw ip):=rfl;have e1:(pfC ip len)[1]?=some (Ii len):=rfl;have nb:b≠b2:=λe=>gR;have sb2:=eM k1 hb2;have k06:=k1.trans (k3.trans k6);refine aL (λe=>?_) (λe=>?_);refine aE (a:=[Iw 0,Ii 0]) rfl (cD z6 rfl rfl rfl λs9 h9 u9=>aE (bX h9 rfl) ?_)
 grind [dp]
 have e:kF len=true:=by simpa using e
 refine⟨s6,.refl s6,?_⟩;simp only[aK,zAY,ae,au q6,e0,e1];rw[gT];refine vt (ST.1 e) ?_;simp only[SS,ae,ke];refine cw q6 (by show 0<2;omega) rfl λs19 h19 u19=>aE (bX h19 rfl) ?_;have z19:Hc s19 b2 159 [Iw 0,Ii 0]:=by rw[u19 _ (Ne.symm nb)];exact z6
 refine cD z19 rfl rfl rfl λs21 h21 u21=>aE (bX h21 rfl) ?_;exact h2 e s21 (dp (dp k06 u19 hb) u21 sb2)
theorem eq41(a l a' l':Int):fF TP 159 (.agg [Iw a,l]) (.agg [Iw a',l'])=mB (some (eqI a a')) (mB (some (eqI l l')) (some true)):=kR
theorem eq41'{a l a' l':Int}:fF TP 159 (.agg [Iw a,l]) (.agg [Iw a',l'])=some (a == a'&&l == l'):=by
 grind [eq41,jo,mB]
theorem SU{ip len:Int}(hK:∀s',Sub s s'->K (i9 ip len) s'):wC TP 188 [.agg (pfC ip len)] K s:=by refine U7 ⟨rfl,aI λb s1 hb q1 u1=>?_⟩;have q1:Hc s1 b 159 (pfC ip len):=q1;have k1:=u1.sub hb;refine aE (bX q1 rfl) (J7 (λe s4 k4=>?_) λe s4 k4=>?_);refine aE (a:=.agg (pfC 0 0)) rfl (aE (a:=Ii 2) rfl (aI λb7 s8 hb7 h8 u8=>cD h8 rfl rfl rfl λs9 h9 u9=>?_));have hk:=hK s9 (k1.trans (k4.trans (dp (u8.sub hb7) u9 hb7)));unfold i9 at hk;rw[e]at hk;exact hk;refine aE (a:=.agg (pfC (andU ip (mskU len)) len)) rfl (aE (a:=Ii 0) rfl (aI λb7 s8 hb7 h8 u8=>cD h8 rfl rfl rfl λs9 h9 u9=>?_));have k9:=dp (u8.sub hb7) u9 hb7;have hk:=hK s9 (k1.trans (k4.trans k9));unfold i9 at hk;rw[e]at hk;have q9:=k9 _ _ (k4 _ _ q1);simp only[cj,bJ,Bool.false_bne,ae];show ao true _ _;refine aE (bX h9 rfl) (aE (bX q9 rfl) ?_);rw[eq41'];have:(andU ip (mskU len) == ip&&len == len)=(andU ip (mskU len) == ip):=sI;rw[this];exact hk
def vu(ip len:Int):Int:=orU ip (aA.u32.wrap (shlU 1 (32-len).toNat-1))
def lI(ip len x:Int):Bool:=lH ip len x&&(x != ip)&&(x != vu ip len)
theorem SV{ip len x:Int}(h:-1000<=len/\len<=32)(hK:∀s',Sub s s'->K (lI ip len x) s'):wC TP 189 [.agg (pfC ip len),Iw x] K s:=by
 refine U8 ⟨rfl,aI λb s1 hb q1 u1=>?_⟩;have q1:Hc s1 b 159 (pfC ip len):=q1;have k1:=u1.sub hb;have e0:(pfC ip len)[0]?=some (Iw ip):=rfl;have e1:(pfC ip len)[1]?=some (Ii len):=rfl;simp only[aK,zAY,ae,au q1,e0,e1,eC];rw[aT,vq h.2];simp only[eC,ae,J5];refine aE (bX q1 rfl) (J6 λs12 k12=>?_);have q12:=k12 _ _ q1;have hk:=hK s12 (k1.trans k12);unfold lI at hk;have hl:orU ip (aA.u32.wrap (shlU 1 (32-len).toNat-1))=vu ip len:=rfl;rw[hl];refine aL (λe=>?_) (λe=>?_);simp only[ae,au q12,e0,cj,bJ,Bool.true_bne];rw[e]at hk ⊢;simp only[DR,cy,ae];have e2:(!(x == ip))=(x != ip):=rfl;rw[e2];refine aL (λe3=>?_) (λe3=>?_)
 grind [cj,bJ,cP,DQ,cy]
 rw[e3]at hk ⊢;exact hk;rw[e]at hk ⊢;exact hk
set_option maxRecDepth 100000
variable{v k:AV}{t:Bool}{J:AV→Hq→Prop}
def fstI{A:Type}(p:A->Bool)(l:List A):Int:=match l.findIdx? p with
 |some i=>(i:Int)
 |none=>-1
theorem Aw{A:Type}{p:A->Bool}{l:List A}:decide (0<=fstI p l)=l.any p:=by
 grind [fstI]
theorem Ax{A:Type}{p:A->Bool}{l:List A}{i:Nat}{x:A}(hx:l[i]?=some x)(hp:p x=true)(hb:∀j z,j<i->l[j]?=some z->p z=false):fstI p l=i:=by unfold fstI;have:l.findIdx? p=some i:=findIdx?_eq_some_iff_getElem.2 gR;rw[this]
theorem Ay{A:Type}{p:A->Bool}{l:List A}(hb:∀(j:Nat) z,l[j]?=some z->p z=false):fstI p l=-1:=by
 unfold fstI;have:l.findIdx? p=none:=findIdx?_eq_none_iff.2 λx hx=>by have ⟨j,hj⟩:=eA hx;exact hb j x hj
 rw[this]
theorem J8{p:BG->Bool}{rows:List BG}{fv:AV}(hn:rows.length<=4294967296)(hv:SlR 6 s v (rows.map bgC))(hp:∀(x:BG) (s1:Hq) (J:AV->Hq->Prop),Sub s s1->(∀s',Sub s1 s'->J (p x) s')->funK TP fv [.agg (bgC x)] J s1)
  (hK:∀s',Sub s s'->K (fstI p rows:Int) s'):wC TP 219 [v,fv] K s:=by
 refine VG ?_;unfold OT bG;have hlen:cM v=some rows.length:=by rw[hv.len,lMY]
 rw[hlen];refine⟨λys t m=>∃i:Nat,ys=[Ii i]/\i<=rows.length/\m=rows.length-i/\Sub s t/\∀j z,j<i->rows[j]?=some z->p z=false,⟨_,0,rfl,oM,rfl,.refl _,λj z hj=>oM⟩,?_⟩;rintro f t m ⟨i,hy,hi,rfl,kt,hall⟩;simp only[cI,aq]at hy;rw[hy];simp only[OS,bu,ae,aS];refine aL (λhlt=>?_) (λhge=>?_)
 rotate_left
 have hge:i=rows.length:=by have:=oF hge;omega
 subst hge;have:=hK t kt;rw[Ay λj z hz=>hall j z (gS hz).1 hz]at this;exact this;have hlt:i<rows.length:=gR;have hx:=gE hlt;generalize rows[i]=x at hx;have ⟨pb,po,e1,e2,_⟩:=(hv.sub kt).get (i:=i) (r:=bgC x) gR;rw[e1];simp only[ae,e2];refine hp x t _ kt λs6 k6=>?_;refine aL (λq=>?_) (λq=>?_);have:=hK s6 (kt.trans k6)
 grind [Ax]
 simp only[bg,ae];rw[aT];refine⟨_,oM,i+1,rfl,oM,rfl,kt.trans k6,λj z hj hz=>?_⟩
 grind
theorem J9{p:Int×Int->Bool}{rows:List (Int×Int)}{fv:AV}(hn:rows.length<=4294967296)(hv:SlR 2 s v (rows.map tgC))(hp:∀(x:Int×Int) (s1:Hq) (J:AV->Hq->Prop),Sub s s1->(∀s',Sub s1 s'->J (p x) s')->funK TP fv [.agg (tgC x)] J s1)
  (hK:∀s',Sub s s'->K (fstI p rows:Int) s'):wC TP 229 [v,fv] K s:=by
 refine VO ?_;unfold O0 bG;have hlen:cM v=some rows.length:=by rw[hv.len,lMY]
 rw[hlen];refine⟨λys t m=>∃i:Nat,ys=[Ii i]/\i<=rows.length/\m=rows.length-i/\Sub s t/\∀j z,j<i->rows[j]?=some z->p z=false,⟨_,0,rfl,oM,rfl,.refl _,λj z hj=>oM⟩,?_⟩;rintro f t m ⟨i,hy,hi,rfl,kt,hall⟩;simp only[cI,aq]at hy;rw[hy];simp only[OZ,bu,ae,aS];refine aL (λhlt=>?_) (λhge=>?_)
 rotate_left
 have hge:i=rows.length:=by have:=oF hge;omega
 subst hge;have:=hK t kt;rw[Ay λj z hz=>hall j z (gS hz).1 hz]at this;exact this;have hlt:i<rows.length:=gR;have hx:=gE hlt;generalize rows[i]=x at hx;have ⟨pb,po,e1,e2,_⟩:=(hv.sub kt).get (i:=i) (r:=tgC x) gR;rw[e1];simp only[ae,e2];refine hp x t _ kt λs6 k6=>?_;refine aL (λq=>?_) (λq=>?_);have:=hK s6 (kt.trans k6)
 grind [Ax]
 simp only[bg,ae];rw[aT];refine⟨_,oM,i+1,rfl,oM,rfl,kt.trans k6,λj z hj hz=>?_⟩
 grind
theorem Ka{p:Int->Bool}{l:List Int}{fv:AV}(hn:l.length<=4294967296)(hv:Sl s v (ix l))(hp:∀(x:Int) (s1:Hq) (J:AV->Hq->Prop),Sub s s1->(∀s',Sub s1 s'->J (p x) s')->funK TP fv [x] J s1)
  (hK:∀s',Sub s s'->K (fstI p l:Int) s'):wC TP 162 [v,fv] K s:=by
 refine OW ?_;unfold DY bG;have hlen:cM v=some l.length:=by rw[hv.len,jJ]
 rw[hlen];refine⟨λys t m=>∃i:Nat,ys=[Ii i]/\i<=l.length/\m=l.length-i/\Sub s t/\∀j z,j<i->l[j]?=some z->p z=false,⟨_,0,rfl,oM,rfl,.refl _,λj z hj=>oM⟩,?_⟩;rintro f t m ⟨i,hy,hi,rfl,kt,hall⟩;simp only[cI,aq]at hy;rw[hy];simp only[DX,bu,ae,aS];refine aL (λhlt=>?_) (λhge=>?_)
 rotate_left
 grind [Ay]
 have hlt:i<l.length:=gR;have ⟨pp,g1,g2⟩:=(hv.sub kt).get (i:=i) (by rw[jJ];exact hlt);rw[pL hlt]at g2;have hx:=gE hlt;generalize l[i]=x at hx g2;rw[g1];simp only[ae,g2];refine hp x t _ kt λs6 k6=>?_;refine aL (λq=>?_) (λq=>?_);have:=hK s6 (kt.trans k6)
 grind [Ax]
 simp only[bg,ae];rw[aT];refine⟨_,oM,i+1,rfl,oM,rfl,kt.trans k6,λj z hj hz=>?_⟩
 grind
theorem qVi{p:BG->Bool}{rows:List BG}{fv:AV}(hn:rows.length<=4294967296)(hv:SlR 6 s v (rows.map bgC))(hp:∀(x:BG) (s1:Hq) (J:AV->Hq->Prop),Sub s s1->(∀s',Sub s1 s'->J (p x) s')->funK TP fv [.agg (bgC x)] J s1)
  (hK:∀s',Sub s s'->K (rows.any p) s'):wC TP 190 [v,fv] K s:=by
 refine Va ?_;refine J8 hn hv hp λs' k=>?_;simp only[dQ,ae,Aw];exact hK s' k
theorem qVe{p:Int×Int->Bool}{rows:List (Int×Int)}{fv:AV}(hn:rows.length<=4294967296)(hv:SlR 2 s v (rows.map tgC))(hp:∀(x:Int×Int) (s1:Hq) (J:AV->Hq->Prop),Sub s s1->(∀s',Sub s1 s'->J (p x) s')->funK TP fv [.agg (tgC x)] J s1)
  (hK:∀s',Sub s s'->K (rows.any p) s'):wC TP 216 [v,fv] K s:=by
 refine Vx ?_;refine J9 hn hv hp λs' k=>?_;simp only[dQ,ae,Aw];exact hK s' k
theorem SW{p:Int->Bool}{l:List Int}{fv:AV}(hn:l.length<=4294967296)(hv:Sl s v (ix l))(hp:∀(x:Int) (s1:Hq) (J:AV->Hq->Prop),Sub s s1->(∀s',Sub s1 s'->J (p x) s')->funK TP fv [x] J s1)
  (hK:∀s',Sub s s'->K (l.any p) s'):wC TP 129 [v,fv] K s:=by
 refine OH ?_;refine Ka hn hv hp λs' k=>?_;simp only[dQ,ae,Aw];exact hK s' k
theorem vv{kf:Int×Int->Int}{rows:List (Int×Int)}{g:FuncId}{n:Int}(hn:rows.length<=4294967296)(hv:SlR 2 s v (rows.map tgC))(hg:∀(x:Int×Int) (s:Hq) (J:AV->Hq->Prop),(∀s',Sub s s'->J (Iw (kf x)) s')->funK TP (.fn (.func g) [] []) [.agg (tgC x)] J s)
  (hK:∀s',Sub s s'->K (rows.any λx=>kf x == n) s'):wC TP 187 [v,.fn (.func g) [] [],Iw n] K s:=by
 refine U6 (fG rfl λb0 s1 hb0 h1 u1=>fG rfl λb2 s3 hb2 h3 u3=>?_);have k1:=u1.sub hb0;have k3:=u3.sub hb2;refine qVe (p:=λx=>kf x == n) hn (hv.sub (k1.trans k3)) (λx sA J kA hJ=>?_) (by grind [Sub.trans]);refine gQ kR (VA ⟨rfl,aI λb s5 hb h5 u5=>?_⟩);have k5:=u5.sub hb;have e0:[AV.fn (.func g) [] []][0]?=some (.fn (.func g) [] []):=rfl;have h15:=k5 _ _ (kA _ _ (k3 _ _ h1));have h35:=k5 _ _ (kA _ _ h3);have e1:[AV.int .u32 n][0]?=some (Iw n):=rfl;refine⟨s5,.refl s5,?_⟩;simp only[au h15,e0,au h35,e1,ae];refine aE (bX h5 rfl) ?_;rw[gT];refine hg x (frz s5) _ λs6 k6=>?_;exact hJ _ (k5.trans iD)
def jM(b x:BG):Bool:=(x.1 == b.1)&&(x.2.2.2.2.2 != 0)&&(lH x.2.2.2.1 x.2.2.2.2.1 b.2.2.2.1||lH b.2.2.2.1 b.2.2.2.2.1 x.2.2.2.1)
theorem Kb{d x:BG}{cb:Nat}{t:Bool}(hd:s cb=some (t,.cells 161 (bgC d)))(hJ:∀s',Sub s s'->J (jM d x) s'):funK TP (.fn (.func 191) [] [Pp cb]) [.agg (bgC x)] J s:=by
 refine gQ kR (Vc ⟨rfl,aI λb s1 hb h1 u1=>?_⟩);have h1:Hc s1 b 161 (bgC x):=h1;have k1:=u1.sub hb;have hd1:=k1 _ _ hd;have a0:(bgC x)[0]?=some (Ii x.1):=rfl;have a3:(bgC x)[3]?=some (Iw x.2.2.2.1):=rfl;have a5:(bgC x)[5]?=some (Iw x.2.2.2.2.2):=rfl;have d0:(bgC d)[0]?=some (Ii d.1):=rfl;have d3:(bgC d)[3]?=some (Iw d.2.2.2.1):=rfl;have rx:∀{s2:Hq},Sub s1 s2->rdN s2 2 (.ptr b 3)=some (pfC x.2.2.2.1 x.2.2.2.2.1):=fun {s2} q=>by simp only[rdN,q _ _ h1];rfl
 have rd:∀{s2:Hq},Sub s1 s2->rdN s2 2 (.ptr cb 3)=some (pfC d.2.2.2.1 d.2.2.2.2.1):=fun {s2} q=>by simp only[rdN,q _ _ hd1];rfl
 simp only[aK,zAY,ae,au h1,au hd1,a0,d0,cj,bJ,Bool.false_bne];unfold jM at hJ;have j0:∀(p q:AV) (ok:Bool),cW p q false=some ok->((x.1 == d.1)&&(x.2.2.2.2.2 != 0))=ok->xu (Pp cb) (Pp b) p q J s1:=λp q ok h he=>by
  unfold xu;rw[h];rw[he]at hJ;refine aL (λe=>?_) (λe=>?_);simp only[aK,zAY,ae,au hd1,d3,rx (.refl _)];refine J6 λs14 k14=>?_;refine aL (λe2=>?_) (λe2=>?_);have:=hJ s14 (k1.trans k14);rw[e,e2]at this;rw[e,e2];exact this;have h14:=k14 _ _ h1;simp only[ae,au h14,a3,rd k14];refine J6 λs23 k23=>?_;have:=hJ s23 (k1.trans (k14.trans k23));rw[e,e2]at this;rw[e,e2];exact this
  simp_all
 refine aL (λe=>?_) (λe=>?_);exact j0 _ _ (!(x.2.2.2.2.2 == 0)) (by rw[e];rfl) (by rw[e];rfl);exact j0 _ _ false (by rw[e];rfl) (by rw[e];rfl)
variable{c:Nat}{F:FG}{v2 v3 v4 v5 v6 v7:AV}
theorem RepR.addf{s2:Hq}{ks:List AV}(h:RepR s2 v ks)(hs:Sub (AM.frz s) s2):RepR (add s s2) v ks:=by have ⟨bs,h1,h2,h3⟩:=h.ex;exact⟨bs,h1.addf hs,h2,h3⟩
def BdG(F:FG)(x:BG):Prop:=(0<=x.1/\x.1<(F.T.length:Int))/\(1<=x.2.1/\x.2.1<=16777215)/\x.2.2.1≠0
def BdS(F:FG)(i:Nat)(x:BG):Prop:=(x.2.2.2.2.2=0->x.2.2.2.1=0/\x.2.2.2.2.1=0)/\(x.2.2.2.2.2≠0->i9 x.2.2.2.1 x.2.2.2.2.1=true/\(8<=x.2.2.2.2.1/\x.2.2.2.2.1<=30)/\lI x.2.2.2.1 x.2.2.2.2.1 x.2.2.2.2.2=true/\(F.B.take i).any (jM x)=false)
structure BdRow(F:FG)(i:Nat)(x:BG):Prop where
 g:BdG F x
 vn:x.2.1 ∉ (F.B.take i).map (·.2.1)
 tg:x.2.2.1 ∉ (F.B.take i).map (·.2.2.1)
 tv:F.T.any (λy=>y.1 == x.2.1)=false
 tt:F.T.any (λy=>y.2 == x.2.2.1)=false
 s:BdS F i x
structure DomOk(F:FG):Prop where
 n:F.B.length<=32
 row:∀(i:Nat) x,F.B[i]?=some x->BdRow F i x
abbrev InvB(F:FG)(s20:Hq):List AV->Hq->Nat->Prop:=λys t m=>∃i:Nat,ys=[Ii i]/\i<=F.B.length/\m=F.B.length-i/\Sub s20 t/\∀(j:Nat) x,j<i->F.B[j]?=some x->BdRow F j x
theorem Kc(hT:F.T.length<=16)(hn:F.B.length<=4294967296)(hc:s c=some (t,.cells 238 (csG F v2 v3 v4 v5 v6 v7)))(hL:FL s F v2 v3 v4 v5 v6 v7)(hK:Kok s (DomOk F) K)(hR:Rbad s (DomOk F) NoR):wC TP 149 [Pp c] K s:=by
 refine VY (pM rfl hc hL λb3 s5 h5 k5=>?_);have hL5:=(hL.sub k5).B;have hlen:cM v4=some F.B.length:=by rw[hL5.len,lMY]
 simp only[aK,zAY,ae,au h5,csG4,hlen,dy];refine eJ (λq=>?_) λq=>hR ((by grind [DomOk.n])) _ _ _ s5 oM k5;have hn32:F.B.length<=32:=gR;refine⟨s5,.refl s5,?_⟩;simp only[au h5,csG4,ae];rw[gT];refine lE (λh=>OE h) rfl (rows:=F.B) (rowC:=bgC) (λ_=>rfl) (λ_=>rfl) (kf:=λx=>x.2.1) (λx s J=>JX x s J) hL5.frz oM λs16 vn k16 repv=>?_;have repv':=repv.addf k16;have ka:Sub s5 (add s5 s16):=iD;refine lE (λh=>OE h) rfl (rows:=F.B) (rowC:=bgC) (λ_=>rfl) (λ_=>rfl) (kf:=λx=>x.2.2.1) (λx s J=>JY x s J) (hL5.sub ka) oM λs20 tg k20 rept=>?_;have h20:=k20 _ _ (ka _ _ h5);have k520:=ka.trans k20;simp only[au h20,csG4,ae,hlen];have hiv:∀x y:BG,(AV.int .u32 x.2.1=AV.int .u32 y.2.1)↔x.2.1=y.2.1:=λx y=>sI;have hit:∀x y:BG,(AV.int .u32 x.2.2.1=AV.int .u32 y.2.2.1)↔x.2.2.1=y.2.2.1:=λx y=>sI;refine⟨InvB F s20,⟨_,0,rfl,oM,rfl,.refl _,λj x hj=>oM⟩,?_⟩;rintro f t m ⟨i,hy,hi,rfl,kt,hall⟩;simp only[cI,aq]at hy;rw[hy];simp only[O7,bu,ae];refine aL (λhlt=>?_) (λhge=>?_)
 rotate_left
 have hge:i=F.B.length:=gR;subst hge;exact hK ⟨hn32,gR⟩ t (k5.trans (k520.trans kt));have hlt:i<F.B.length:=gR;have hx:=gE hlt;generalize F.B[i]=x at hx;have ⟨pb,po,e1,e2,_⟩:=(hL5.sub (k520.trans kt)).get (i:=i) (r:=bgC x) gR;rw[e1];simp only[ae,e2];refine aI λb29 s30 hb29 h30 u30=>cD h30 rfl rfl rfl λs31 h31 u31=>?_;have k31:=dp (u30.sub hb29) u31 hb29;have kall:Sub s s31:=(by grind [Sub.trans])
 have h3:=k31 _ _ (kt _ _ h20);have hL3:=hL.sub kall;have lenT:cM v3=some F.T.length:=by rw[hL.T.len,lMY]
 have a0:(bgC x)[0]?=some (Ii x.1):=rfl;have a1:(bgC x)[1]?=some (Iw x.2.1):=rfl;have a2:(bgC x)[2]?=some (Iw x.2.2.1):=rfl;have a4:(bgC x)[4]?=some (Ii x.2.2.2.2.1):=rfl;have a5:(bgC x)[5]?=some (Iw x.2.2.2.2.2):=rfl;have rx:∀{s2:Hq},Sub s31 s2->rdN s2 2 (.ptr b29 3)=some (pfC x.2.2.2.1 x.2.2.2.2.1):=fun {s2} q=>by simp only[rdN,q _ _ h31];rfl
 have ⟨p1,w1,g11,g12,g13⟩:=(repv'.sub (k20.trans (kt.trans k31))).at (j:=i) (k:=Iw x.2.1) (by rw[cq,hx];rfl);have ⟨p2,w2,g21,g22,g23⟩:=(rept.sub (kt.trans k31)).at (j:=i) (k:=Iw x.2.2.1) gR;rw[<- du,oh hiv]at g13;rw[<- du,oh hit]at g23;have j1:BdRow F i x->∀{s2:Hq},Sub s31 s2->xM i (InvB F s20) (F.B.length-i) K s2:=λok {s2} k2=>by
  unfold xM;simp only[bg,ae];rw[aT];refine⟨_,oM,i+1,rfl,oM,rfl,kt.trans (k31.trans k2),λj z hj hz=>?_⟩
  grind
 have hbad:∀{s2:Hq},¬BdRow F i x->Sub s31 s2->∀(e:Int) (p:ByteArray) (i:Int),e≠0->NoR (flV e p i) s2:=fun {s2} q k2 e p i he=>hR (λg=>q (g.row _ x hx)) e p i s2 he (kall.trans k2);have j8:∀(p q:AV) (bd:Bool),cW p true q=some bd->(bd=true->¬BdRow F i x)->(bd=false->(8<=x.2.2.2.2.1/\x.2.2.2.2.1<=30)/\i9 x.2.2.2.1 x.2.2.2.2.1=true)->x.2.2.2.2.2≠0->(BdS F i x->BdRow F i x)->∀{s2:Hq},Sub s31 s2->xO (Pp b3) i (Pp b29) i p q (InvB F s20) (F.B.length-i) K s2:=λp q bd h h1 h2 hg ok {s2} k2=>by
  unfold xO;rw[h];refine eJ (λq1=>?_) λq1=>hbad (h1 q1) k2 _ _ _ oM;have ⟨m1,m2⟩:=h2 q1;have h31':=k2 _ _ h31;simp only[aK,zAY,ae,rx k2,au h31',a5];refine SV oM λs75 k75=>?_;refine eJ (λq2=>?_) λq2=>hbad (λg=>by have:=(g.s.2 hg).2.2.1;rw[this]at q2;cases q2) (k2.trans k75) _ _ _ oM;have q2:lI x.2.2.2.1 x.2.2.2.2.1 x.2.2.2.2.2=true:=by simpa using q2
  have h3':=k75 _ _ (k2 _ _ h3);simp only[au h3',csG4,ae];have ⟨v',z1,z2,_⟩:=(hL3.B.sub (k2.trans k75)).take (k:=i) gR (λe=>by have:=aJ List.length e;grind);rw[<- du]at z2;rw[z1];refine qVi (p:=jM x) gR z2 (λz sA J kA hJ=>Kb (kA _ _ (k75 _ _ h31')) hJ) λs83 k83=>?_;refine eJ (λq3=>?_) λq3=>hbad (λg=>by have:=(g.s.2 hg).2.2.2;rw[this]at q3;cases q3) ((k2.trans k75).trans k83) _ _ _ oM;exact j1 (ok ⟨λe=>absurd e hg,λ_=>⟨m2,m1,q2,q3⟩⟩) ((k2.trans k75).trans k83)
 have j7:∀(p q:AV) (bd:Bool),cW p true q=some bd->(bd=true->¬BdRow F i x)->(bd=false->BdS F i x->BdRow F i x)->∀{s2:Hq},Sub s31 s2->xP (Pp b3) i (Pp b29) i p q (InvB F s20) (F.B.length-i) K s2:=λp q bd h h1 h2 {s2} k2=>by
  unfold xP;rw[h];refine eJ (λq1=>?_) λq1=>hbad (h1 q1) k2 _ _ _ oM;have h31':=k2 _ _ h31;simp only[aK,zAY,ae,au h31',a5,cj,bJ,Bool.false_bne];refine aL (λq2=>?_) (λq2=>?_);have q2:x.2.2.2.2.2=0:=by simpa using q2
  rw[rx k2];simp only[ae];refine aE (a:=[Iw 0,Ii 0]) rfl ?_;rw[eq41'];refine eJ (λq3=>?_) λq3=>hbad (λg=>by have ⟨z1,z2⟩:=g.s.1 q2;simp[z1,z2]at q3) k2 _ _ _ oM;have q3:x.2.2.2.1=0/\x.2.2.2.2.1=0:=by simpa using q3
  exact j1 (h2 q1 ⟨λ_=>q3,λe=>absurd q2 e⟩) k2
  ·have q2:x.2.2.2.2.2≠0:=by simpa using q2
   rw[rx k2];refine SU λs65 k65=>?_;refine aL (λq3=>?_) (λq3=>?_)
   ·exact j8 _ _ true (by rw[q3];rfl) (λ_ g=>by have:=(g.s.2 q2).1;rw[this]at q3;cases q3) (λq4=>by cases q4) q2 (h2 q1) (k2.trans k65)
   ·have h31'':=k65 _ _ h31'
    have hcl:i9 x.2.2.2.1 x.2.2.2.2.1=true:=by simpa using q3
    simp only[ae,au h31'',a4];refine gK ?_;exact j8 _ _ (outB x.2.2.2.2.1 8 30) (by rw[q3];rfl) (λq4 g=>by have:=fA.2 (g.s.2 q2).2.1;rw[this]at q4;cases q4) (λq4=>⟨fA.1 q4,hcl⟩) q2 (h2 q1) (k2.trans k65)
 have j6:∀(p q:AV) (bd:Bool),cW p true q=some bd->(bd=true->¬BdRow F i x)->(bd=false->F.T.any (λy=>y.2 == x.2.2.1)=false->BdS F i x->BdRow F i x)->∀{s2:Hq},Sub s31 s2->xQ (Pp b3) i (Pp b29) i p q (InvB F s20) (F.B.length-i) K s2:=λp q bd h h1 h2 {s2} k2=>by
  unfold xQ;rw[h];refine aL (λq1=>?_) (λq1=>?_)
  ·exact j7 _ _ bd (by rw[q1];rfl) h1 (λq2=>by rw[q1]at q2;cases q2) k2
  ·simp only[aK,zAY,ae,au (k2 _ _ h3),csG3,au (k2 _ _ h31),a2]
   refine vv (kf:=λy=>y.2) oM (hL3.T.sub k2) (λy s J=>vp y s J) λs96 k96=>?_;exact j7 _ _ (F.T.any λy=>y.2 == x.2.2.1) (by rw[q1];rfl) (λq2 g=>by rw[g.tt]at q2;cases q2) (λq2=>h2 q1 q2) (k2.trans k96)
 have j5:∀(p q:AV) (bd:Bool),cW p true q=some bd->(bd=true->¬BdRow F i x)->(bd=false->F.T.any (λy=>y.1 == x.2.1)=false->F.T.any (λy=>y.2 == x.2.2.1)=false->BdS F i x->BdRow F i x)->xR (Pp b3) i (Pp b29) i p q (InvB F s20) (F.B.length-i) K s31:=λp q bd h h1 h2=>by
  unfold xR;rw[h];refine aL (λq1=>?_) (λq1=>?_)
  ·exact j6 _ _ bd (by rw[q1];rfl) h1 (λq2=>by rw[q1]at q2;cases q2) (.refl _)
  ·simp only[aK,zAY,ae,au h3,csG3,au h31,a1]
   refine vv (kf:=λy=>y.1) oM hL3.T (λy s J=>vo y s J) λs102 k102=>?_;exact j6 _ _ (F.T.any λy=>y.1 == x.2.1) (by rw[q1];rfl) (λq2 g=>by rw[g.tv]at q2;cases q2) (λq2=>h2 q1 q2) k102
 have j4:∀(p q:AV) (bd:Bool),cW p true q=some bd->(bd=true->¬BdG F x)->(bd=false->BdG F x)->xT (Pp b3) vn tg i (Pp b29) i p q (InvB F s20) (F.B.length-i) K s31:=λp q bd h h1 h2=>by
  unfold xT;rw[h];refine eJ (λq1=>?_) λq1=>hbad (λg=>h1 q1 g.g) (.refl _) _ _ _ oM;rw[g11];simp only[ae,g12];refine aL (λq2=>?_) (λq2=>?_)
  ·exact j5 _ _ true (by rw[q2];rfl) (λ_ g=>g.vn (g13.1 q2)) (λq=>by cases q)
  ·rw[g21]
   simp only[ae,g22];exact j5 _ _ w2 (by rw[q2];rfl) (λq3 g=>g.tg (g23.1 q3)) (λq3 q4 q5 q6=>⟨h2 q1,λz=>(by rw[g13.2 z]at q2;cases q2),λz=>(by rw[g23.2 z]at q3;cases q3),q4,q5,q6⟩)
 have j3:∀(p q:AV) (bd:Bool),cW p true q=some bd->(bd=true->¬BdG F x)->(bd=false->x.2.2.1≠0->BdG F x)->xU (Pp b3) vn tg i (Pp b29) i p q (InvB F s20) (F.B.length-i) K s31:=λp q bd h h1 h2=>by
  unfold xU;rw[h];refine aL (λq1=>?_) (λq1=>?_)
  ·exact j4 _ _ bd (by rw[q1];rfl) h1 (λq2=>by rw[q1]at q2;cases q2)
  simp only[aK,zAY,ae,au h31,a2,cj,bJ,Bool.false_bne];exact j4 _ _ (x.2.2.1 == 0) (by rw[q1];rfl) (λq2 g=>g.2.2 (by simpa using q2)) (λq2=>h2 q1 (by simpa using q2))
 have j2:∀(p q:AV) (bd:Bool),cW p true q=some bd->(bd=true->¬BdG F x)->(bd=false->x.2.1<=16777215->x.2.2.1≠0->BdG F x)->xV (Pp b3) vn tg i (Pp b29) i p q (InvB F s20) (F.B.length-i) K s31:=λp q bd h h1 h2=>by
  unfold xV;rw[h];refine aL (λq1=>?_) (λq1=>?_)
  ·exact j3 _ _ bd (by rw[q1];rfl) h1 (λq2=>by rw[q1]at q2;cases q2)
  simp only[aK,zAY,ae,au h31,a1,dy];exact j3 _ _ (decide (16777215<x.2.1)) (by rw[q1];rfl) (λq2 g=>by have:=oT q2;have:=g.2.1.2;omega) (λq2=>h2 q1 (by have:=oF q2;omega))
 simp only[aK,zAY,ae,au h31,a0,au h3,csG3,lenT];refine oe ?_;refine aL (λq1=>?_) (λq1=>?_)
 ·exact j2 _ _ true (by rw[q1];rfl) (λ_ g=>by rw[jK.2 g.1]at q1;cases q1) (λq2=>by cases q2)
 have hin:inB x.1 (F.T.length:Int)=true:=by simpa using q1
 simp only[ae,au h31,a1,bu];exact j2 _ _ (decide (x.2.1<1)) (by rw[q1];rfl) (λq2 g=>by have:=oT q2;have:=g.2.1.1;omega) (λq2 q3 q4=>⟨jK.1 hin,⟨by have:=oF q2;omega,q3⟩,q4⟩)
theorem kI{l:List Int}(h:∀(j:Nat) (hj:j+1<l.length),l[j]<l[j+1]):l.Pairwise (· < ·):=by
 refine cE.2 λi j hi hj hij=>?_;obtain⟨d,rfl⟩:∃d,j=i+1+d:=⟨j-i-1,oM⟩
 induction d with
 |zero=>exact h i hj
 | succ d ih=>
   grind
theorem SX{l:List Int}(hn:l.length<=4294967296)(hv:Sl s v (ix l))(hK:∀b:Bool,(b=true↔l.Pairwise (· < ·))->K b s):wC TP 195 [v] K s:=by
 refine Vk ?_;unfold OL bG;refine⟨λys t m=>∃i:Nat,ys=[Ii i]/\m=l.length-i/\t=s/\1<=i/\∀(j:Nat) (hj:j+1<l.length),j+1<i->l[j]<l[j+1],⟨_,1,rfl,rfl,rfl,oM,λj hj h=>oM⟩,?_⟩;rintro f t m ⟨i,hy,rfl,rfl,hi,hall⟩;simp only[cI,aq]at hy;rw[hy];have hlen:cM v=some l.length:=by rw[hv.len,jJ]
 simp only[OK,hlen,bu,ae,aS];refine aL (λhlt=>?_) (λhge=>?_)
 rotate_left
 grind [kI]
 have hlt:i<l.length:=gR;have ⟨p1,g1,g2⟩:=hv.get (i:=i) (by rw[jJ];exact hlt);rw[pL hlt]at g2;have hlt':i-1<l.length:=oM;have ⟨p2,g3,g4⟩:=hv.get (i:=i-1) (by rw[jJ];exact hlt');rw[pL hlt']at g4;rw[g1];simp only[ae,g2,eC];rw[aT,show((i:Int)-1)=((i-1:Nat):Int)by omega,g3];simp only[ae,g4,iX];have e:i-1+1=i:=oM;refine aL (λq=>?_) (λq=>?_)
 ·have q:=oT q
  refine hK false ⟨λq=>(by cases q),λg=>?_⟩;have:=(cE.1 g) (i-1) i hlt' hlt oM;omega
 have q:=oF q;simp only[bg,ae];rw[aT];refine⟨_,oM,i+1,rfl,rfl,by trivial,oM,λj hj h=>?_⟩
 grind
def prt(P:List Int):List AV:=(List.range 32).map λ(n:Nat)=>AV.int .i64 ((P.count (n:Int):Nat):Int)
theorem vw{P:List Int}:(prt P).length=32:=by unfold prt;simp
theorem Kd{P:List Int}{n:Nat}(h:n<32):(prt P)[n]?=some (Ii ((P.count (n:Int):Nat))):=by unfold prt;simp[h]
theorem Kg{P:List Int}{n:Nat}(h:n<32):(prt P).set n ((P.count (n:Int):Nat)+1:Int)=prt (P ++ [(n:Int)]):=by
 apply ext_getElem?
 grind [vw,Kd]
theorem Kh{n:Nat}(h:n<32):fj 32 1 (Pp b) n=some (.ptr b n):=by
 have:blt n 32=true:=by rw[bZ];exact h
 simp[fj,this]
def mq(F:FG)(x:List Int×List Int):Prop:=(x.1≠[]/\x.2≠[])/\((∀n∈x.1,0<=n/\n<F.lf)/\∀n∈x.2,0<=n/\n<(F.B.length:Int))/\x.1.Pairwise (· < ·)/\x.2.Pairwise (· < ·)
structure SegOk(F:FG):Prop where
 n:F.S.length<=64
 row:∀x∈F.S,mq F x
 port:∀n:Int,((F.S.map (·.1)).flatten).count n<=32
abbrev InvS(F:FG)(s14:Hq)(b13:Nat):List AV->Hq->Nat->Prop:=λys t m=>∃i:Nat,ys=[Ii i]/\i<=F.S.length/\m=F.S.length-i/\aV (λj=>j=b13) s14 t/\Hc t b13 323 (prt ((F.S.take i).map (·.1)).flatten)/\(∀x∈F.S.take i,mq F x)/\∀n:Int,(((F.S.take i).map (·.1)).flatten).count n<=32
abbrev InvP(F:FG)(s14:Hq)(b13:Nat)(P l:List Int):List AV->Hq->Nat->Prop:=λys t m=>∃k:Nat,ys=[Ii k]/\k<=l.length/\m=l.length-k/\aV (λj=>j=b13) s14 t/\Hc t b13 323 (prt (P++l.take k))/\∀n:Int,(P++l.take k).count n<=32
theorem sin1{x0:Int}{cb:Nat}(hc:s cb=some (t,.cells 52 (csG F v2 v3 v4 v5 v6 v7)))(hJ:∀s',Sub s s'->J (!inB x0 F.lf) s'):funK TP (.fn (.func 193) [] [Pp cb]) [x0] J s:=by
 refine gQ kR (Vh ?_);unfold OI;simp only[aK,zAY,ae,au hc,csG0]
 grind [oe,cQ,cP,Sub.refl]
theorem sin2{x0:Int}{cb:Nat}(hc:s cb=some (t,.cells 52 (csG F v2 v3 v4 v5 v6 v7)))(hB:cM v4=some F.B.length)(hJ:∀s',Sub s s'->J (!inB x0 (F.B.length:Int)) s'):funK TP (.fn (.func 194) [] [Pp cb]) [x0] J s:=by
 refine gQ kR (Vi ?_);unfold OJ;simp only[aK,zAY,ae,au hc,csG4,hB]
 grind [oe,cQ,cP,Sub.refl]
theorem Az{l:List Int}{n:Int}:l.any (λx=>!inB x n)=false↔∀x∈l,0<=x/\x<n:=by
 grind [jK]
theorem Ki{α β:Type}{f:α->List β}{S:List α}{i:Nat}{x:α}(hx:S[i]?=some x):(S.map f).flatten=((S.take i).map f).flatten++(f x++((S.drop (i+1)).map f).flatten):=by
 have ⟨hi,e⟩:=gS hx;have h1:S=S.take i++x::S.drop (i+1):=by rw[<- e,getElem_cons_drop,fD]
 grind
theorem SY{α β:Type}{f:α->List β}{S:List α}{i:Nat}{x:α}(hx:S[i]?=some x):((S.take (i+1)).map f).flatten=((S.take i).map f).flatten++f x:=by rw[bO,hx];simp
theorem qX6(hF:FabOk F)(hB:F.B.length<=32)(hn:F.S.length<=4294967296)(hnn:∀x∈F.S,x.1.length<=4294967296/\x.2.length<=4294967296)(hc:s c=some (t,.cells 238 (csG F v2 v3 v4 v5 v6 v7)))(hL:FL s F v2 v3 v4 v5 v6 v7)(hK:Kok s (SegOk F) K)(hR:Rbad s (SegOk F) NoR):wC TP 150 [Pp c] K s:=by
 refine V1 (pM rfl hc hL λb3 s5 h5 k5=>?_);have hL5:=hL.sub k5;have hlen:cM v5=some F.S.length:=hL5.S.len;have lenB:cM v4=some F.B.length:=by rw[hL.B.len,lMY]
 simp only[aK,zAY,ae,au h5,csG5,hlen,dy];refine eJ (λq=>?_) λq=>hR ((by grind [SegOk.n])) _ _ _ s5 oM k5;have hn64:F.S.length<=64:=gR;refine aI λb13 s14 hb13 h13 u13=>?_;have h13:=h13;have k14:=u13.sub hb13;simp only[au (k14 _ _ h5),csG5,ae,hlen];have sub5:∀{t:Hq},aV (λj=>j=b13) s14 t->Sub s5 t:=fun {t} kp i e hi=>kp i e (k14 i e hi) (dZ hb13 hi);refine⟨InvS F s14 b13,⟨_,0,rfl,oM,rfl,.refl _ _,h13,sI,sI⟩,?_⟩;rintro f t m ⟨i,hy,hi,rfl,kp,hprt,hall,hcnt⟩;simp only[cI,aq]at hy;rw[hy];simp only[O9,bu,ae];refine aL (λhlt=>?_) (λhge=>?_)
 rotate_left
 have hge:i=F.S.length:=gR;subst hge;rw[dI]at hall hcnt;exact hK ⟨hn64,hall,hcnt⟩ t (k5.trans (sub5 kp));have hlt:i<F.S.length:=gR;have hx:F.S[i]?=some F.S[i]:=gE hlt;have hxm:=aN hlt;generalize F.S[i]=x at hx hxm;have hxn:=hnn x hxm;have ⟨pb,po,l1,l2,e1,e2,_,_,q1,q2⟩:=(hL5.S.sub (sub5 kp)).at hx;rw[e1];simp only[ae,e2];refine aI λb22 s23 hb22 h23 u23=>cD h23 rfl rfl (by simp[q1.one,q2.one]) λs24 h24 u24=>?_;have k24:=dp (u23.sub hb22) u24 hb22;have kp24:=kp.trans k24.keep;have kall:=k5.trans (sub5 kp24);have a0:[l1,l2][0]?=some l1:=rfl;have a1:[l1,l2][1]?=some l2:=rfl;have n1:cM l1=some x.1.length:=by rw[q1.len,jJ]
 have n2:cM l2=some x.2.length:=by rw[q2.len,jJ]
 have h3:=sub5 kp24 _ _ h5;have hp24:=k24 _ _ hprt;have hbad:∀{s2:Hq},¬mq F x->Sub s24 s2->∀(e:Int) (p:ByteArray) (i:Int),e≠0->NoR (flV e p i) s2:=fun {s2} q k2 e p i he=>hR (λg=>q (g.row _ hxm)) e p i s2 he (kall.trans k2);have j3:∀(p q:AV) (bd:Bool),cW p true q=some (.bool bd)->(bd=true->¬mq F x)->(bd=false->mq F x)->∀{s2:Hq},Sub s24 s2->xW (Pp b13) i (Pp b22) i p q (InvS F s14 b13) (F.S.length-i) K s2:=λp q bd h h1 h2 {s2} k2=>by
  unfold xW bG;rw[h];refine eJ (λe=>?_) λe=>hbad (h1 e) k2 _ _ _ oM;have row:=h2 e;simp only[aK,zAY,ae,au (k2 _ _ h24),a0,n1];refine⟨InvP F s14 b13 ((F.S.take i).map (·.1)).flatten x.1,⟨_,0,rfl,oM,rfl,kp24.trans k2.keep,by rw[take_zero,d9];exact k2 _ _ hp24,by rw[take_zero,d9];exact hcnt⟩,?_⟩;rintro f t2 m ⟨kk,hy,hk,rfl,kp2,hp2,hc2⟩;simp only[cI,aq]at hy;rw[hy];simp only[O8,bu,ae,aS];refine aL (λhl=>?_) (λhg=>?_)
  rotate_left
  have hg:kk=x.1.length:=gR;subst hg;simp only[bg,ae];rw[aT];refine⟨_,oM,i+1,rfl,oM,rfl,kp2,by grind [SY],λz hz=>?_,by grind [SY]⟩;rw[bO,hx]at hz
  grind
  have hl:kk<x.1.length:=gR;have hq1:Sl t2 l1 (ix x.1):=by
   have ⟨pb',po',l1',l2',e1',e2',_,_,q1',_⟩:=(hL5.S.sub (sub5 kp2)).at hx;have ⟨vs,w1,w2,w3⟩:=hL5.S;have hi':i<vs.length:=by rw[w2];exact hlt
   have hq:vs[i]?=some vs[i]:=gE hi';have ⟨pb1,po1,x1,x2,_⟩:=(w1.sub (sub5 kp)).get (i:=i) (r:=[vs[i].1,vs[i].2]) gR
   grind [Sl.sub]
  have ⟨pp,g1,g2⟩:=hq1.get (i:=kk) (by rw[jJ];exact hl);rw[pL hl]at g2;have ⟨r1,r2⟩:=row.2.1.1 _ (aN hl);have hlf:=hF.lf;obtain⟨n,hn'⟩:∃n:Nat,x.1[kk]=(n:Int):=⟨x.1[kk].toNat,oM⟩
  have hn32:n<32:=oM;rw[hn']at g2;rw[g1];simp only[ae,g2,Kh hn32,au hp2,Kd hn32,bg];have hcn:=hc2 (n:Int);rw[aT];refine cw hp2 (by rw[vw];exact hn32) rfl λs59 h59 u59=>?_;rw[Kg hn32]at h59;have et:(((F.S.take i).map (·.1)).flatten++x.1.take kk) ++ [(n:Int)]=((F.S.take i).map (·.1)).flatten++x.1.take (kk+1):=by rw[append_assoc,bO,gE hl,hn'];rfl
  rw[et]at h59;simp only[au h59,Kd hn32,ae,dy];have kp59:=kp2.trans (u59.keep rfl);refine eJ (λe2=>?_) λe2=>hR (λg=>?_) _ _ _ s59 oM (k5.trans (sub5 kp59));have e2:=oF e2;rw[aT];refine⟨_,oM,kk+1,rfl,oM,rfl,kp59,h59,λn'=>?_⟩
  by_cases en:n'=(n:Int)
  rw[en];omega
  grind
  have e2:=oT e2;have:=g.port (n:Int);rw[Ki (f:=λ(z:List Int×List Int)=>z.1) hx]at this;have e3:x.1=x.1.take (kk+1)++x.1.drop (kk+1):=(fD _ _).symm;have e4:List.count (n:Int) x.1=List.count (n:Int) (x.1.take (kk+1))+List.count (n:Int) (x.1.drop (kk+1)):=by
   grind
  rw[count_append]at e2;simp only[count_append]at this;omega
 have j2:∀(p q:AV) (bd:Bool),cW p true q=some (.bool bd)->(bd=true->¬mq F x)->(bd=false->x.1.Pairwise (· < ·)->x.2.Pairwise (· < ·)->mq F x)->∀{s2:Hq},Sub s24 s2->xX (Pp b13) i (Pp b22) i p q (InvS F s14 b13) (F.S.length-i) K s2:=λp q bd h h1 h2 {s2} k2=>by
  unfold xX;rw[h];refine eJ (λe=>?_) λe=>hbad (h1 e) k2 _ _ _ oM;simp only[aK,zAY,ae,au (k2 _ _ h24),a0];refine SX hxn.1 (q1.sub (k24.trans k2)) λb1 hb1=>?_;refine aL (λe1=>?_) (λe1=>?_)
  ·exact j3 _ _ true (by rw[e1];rfl) (λ_ g=>by rw[hb1.2 g.2.2.1]at e1;cases e1) (λq=>by cases q) k2
  ·simp only[au (k2 _ _ h24),a1,ae]
   refine SX hxn.2 (q2.sub (k24.trans k2)) λb2 hb2=>?_;exact j3 _ _ (!b2) (by rw[e1];rfl) (λe2 g=>by rw[hb2.2 g.2.2.2]at e2;cases e2) (λe2=>gR) k2
 have j1:∀(p q:AV) (bd:Bool),cW p true q=some (.bool bd)->(bd=true->¬mq F x)->(bd=false->x.1≠[]/\x.2≠[])->xY (Pp b3) (Pp b13) i (Pp b22) i p q (InvS F s14 b13) (F.S.length-i) K s24:=λp q bd h h1 h2=>by
  unfold xY;rw[h];refine eJ (λe=>?_) λe=>hbad (h1 e) (.refl _) _ _ _ oM;simp only[aK,zAY,ae,au h24,a0];refine SW (p:=λn=>!inB n F.lf) hxn.1 (q1.sub k24) (λz sA J kA hJ=>sin1 (kA _ _ h3) hJ) λs36 k36=>?_;refine aL (λe1=>?_) (λe1=>?_)
  ·exact j2 _ _ true (by rw[e1];rfl) (λ_ g=>by have:=Az.2 g.2.1.1;rw[this]at e1;cases e1) (λq=>by cases q) k36
  ·simp only[au (k36 _ _ h24),a1,ae]
   refine SW (p:=λn=>!inB n (F.B.length:Int)) hxn.2 (q2.sub (k24.trans k36)) (λz sA J kA hJ=>sin2 (kA _ _ (k36 _ _ h3)) lenB hJ) λs75 k75=>?_;exact j2 _ _ (x.2.any λn=>!inB n (F.B.length:Int)) (by rw[e1];rfl) (λe2 g=>by have:=Az.2 g.2.1.2;rw[this]at e2;cases e2) (λe2 p1 p2=>⟨h2 e,⟨Az.1 e1,Az.1 e2⟩,p1,p2⟩) (k36.trans k75)
 simp only[aK,zAY,ae,au h24,a0,n1,cj,bJ,Bool.false_bne];have em:∀{l:List Int},(((l.length:Nat):Int) == 0)=true↔l=[]:=fun {l}=>by rw[beq_iff_eq];constructor;intro h;exact length_eq_zero_iff.1 oM;rintro rfl;rfl
 refine aL (λe=>?_) (λe=>?_)
 ·exact j1 _ _ true (by rw[e];rfl) (λ_ g=>g.1.1 (em.1 e)) (λq=>by cases q)
 simp only[a1,ae,n2];exact j1 _ _ (((x.2.length:Nat):Int) == 0) (by rw[e];rfl) (λq g=>g.1.2 (em.1 q)) (λq=>gR)
theorem Kj{l:List Int}{n:Int}(hn:l.length<=4294967296)(hv:Sl s v (ix l))(hK:K (fstI (λx=>n == x) l:Int) s):wC TP 222 [v,n] K s:=by
 refine VM ?_;unfold OY bG;have hlen:cM v=some l.length:=by rw[hv.len,jJ]
 rw[hlen];simp only[ae];refine⟨λys t m=>∃i:Nat,ys=[Ii i]/\i<=l.length/\m=l.length-i/\t=s/\∀j z,j<i->l[j]?=some z->(n == z)=false,⟨_,0,rfl,oM,rfl,rfl,λj z hj=>oM⟩,?_⟩;rintro f t m ⟨i,hy,hi,rfl,rfl,hall⟩;simp only[cI,aq]at hy;rw[hy];simp only[OX,bu,ae,aS];refine aL (λhlt=>?_) (λhge=>?_)
 rotate_left
 grind [Ay]
 have hlt:i<l.length:=gR;have ⟨pp,g1,g2⟩:=hv.get (i:=i) (by rw[jJ];exact hlt);rw[pL hlt]at g2;have hx:l[i]?=some l[i]:=gE hlt;generalize l[i]=x at hx g2;rw[g1];simp only[ae,g2,cj,bJ,Bool.false_bne];refine aL (λq=>?_) (λq=>?_)
 grind [Ax]
 simp only[bg,ae];rw[aT];refine⟨_,oM,i+1,rfl,oM,rfl,by trivial,λj z hj hz=>?_⟩
 grind
theorem SZ{l:List Int}{n:Int}(hn:l.length<=4294967296)(hv:Sl s v (ix l))(hK:K (decide (n∈l)) s):wC TP 200 [v,n] K s:=by
 refine Vp ?_
 grind [OP,Kj,dQ,cP,Aw]
def andL(x y:Int):Int:=dw .u64 ((BitVec.ofInt 64 x &&& BitVec.ofInt 64 y).toNat:Nat)
theorem Kk{x y:Int}:cZ .and (Iq x) (Iq y)=some (Iq (andL x y)):=by simp only[cZ,arith,eQ,lX,aD];rfl
theorem Kl{x:Int}:fN .shr (Iq x) (Iq 40)=some (Iq (x.fdiv 1099511627776)):=by show frc (x.fdiv ((2^(min 40 (aA.bits .u64)):Nat):Int)) (λn=>some (AV.int .u64 n))=_;rw[eQ];rfl
def ja(m:Int):Bool:=decide (m<=281474976710655)&&(andL (m.fdiv 1099511627776) 1 != 0)
theorem qXY{m:Int}(hK:K (ja m) s):wC TP 199 [Iq m] K s:=by refine Vo ?_;unfold OO;unfold ja at hK;simp only[iX,ae];refine aL (λe=>?_) (λe=>?_);rw[Kl];simp only[ae,Kk,cj,bJ,Bool.true_bne];rw[e]at hK ⊢;exact hK;rw[e]at hK ⊢;exact hK
def pN(m:Int):Bool:=!(decide (m<2199023255552)||decide (2199023255584<=m))
theorem Km{m:Int}(hK:∀r,K (.tup [Ii r,(pN m)]) s):wC TP 201 [Iq m] K s:=by
 refine Vq ?_;unfold OQ;unfold pN at hK;simp only[bu,ae];have j0:∀(p q:AV) (bd:Bool),cW p true q=some (.bool bd)->(decide (m<2199023255552)||decide (2199023255584<=m))=bd->xv (Iq m) p q K s:=λp q bd h he=>by unfold xv;rw[h];rw[he]at hK;simp only[ae];refine aL (λe=>?_) (λe=>?_);rw[e]at hK;exact hK 0;rw[e]at hK;simp only[eC,ae];exact hK _
 refine aL (λe=>?_) (λe=>?_)
 simp_all
 simp only[dQ,ae];exact j0 _ _ (decide (2199023255584<=m)) (by rw[e];rfl) (by rw[e];rfl)
def oi(d:BG)(ip:Int):Bool:=(ip == 0)||((d.2.2.2.2.2 != 0)&&(ip != d.2.2.2.2.2)&&lI d.2.2.2.1 d.2.2.2.2.1 ip)
theorem qWo{d:BG}{ip:Int}(hd:d.2.2.2.2.2≠0->-1000<=d.2.2.2.2.1/\d.2.2.2.2.1<=32)(hK:∀s',Sub s s'->K (oi d ip) s'):wC TP 202 [.agg (bgC d),Iw ip] K s:=by
 refine Vs ⟨rfl,aI λb s1 hb h1 u1=>?_⟩;have h1:Hc s1 b 161 (bgC d):=h1;have k1:=u1.sub hb;have d5:(bgC d)[5]?=some (Iw d.2.2.2.2.2):=rfl;have rd:rdN s1 2 (.ptr b 3)=some (pfC d.2.2.2.1 d.2.2.2.2.1):=by simp only[rdN,h1];rfl
 have hk:=λs' (q:Sub s1 s')=>hK s' (k1.trans q);unfold oi at hk;simp only[cj,bJ,Bool.false_bne,ae];refine aL (λe=>?_) (λe=>?_);have:=hk s1 (.refl _);rw[e]at this;exact this;rw[e]at hk;simp only[aK,zAY,ae,au h1,d5,cj,bJ,Bool.true_bne];have j0:∀(p q:AV) (ok:Bool),cW p q false=some (.bool ok)->((d.2.2.2.2.2 != 0)&&(ip != d.2.2.2.2.2))=ok->(ok=true->d.2.2.2.2.2≠0)->xw (Iw ip) (Pp b) p q K s1:=λp q ok h he h0=>by unfold xw;rw[h];rw[he]at hk;simp only[ae];refine aL (λe2=>?_) (λe2=>?_);simp only[aK,zAY,ae,rd];refine SV (hd (h0 e2)) λs11 k11=>?_;have:=hk s11 k11;rw[e2]at this;rw[e2];exact this;have:=hk s1 (.refl _);rw[e2]at this;rw[e2];exact this
 have en:(!(d.2.2.2.2.2 == 0))=(d.2.2.2.2.2 != 0):=rfl;rw[en];refine aL (λe2=>?_) (λe2=>?_);exact j0 _ _ (!(ip == d.2.2.2.2.2)) (by rw[e2];rfl) (by rw[e2];rfl) (λ_=>by simpa using e2)
 simp_all
theorem Ko{α β γ:Type}{f:α->β}{g:α->γ}{l:List α}{x:α}(h:∀y∈l,f x=f y↔g x=g y):f x∈l.map f↔g x∈l.map g:=by
 grind
theorem w64u{n:Int}(h:0<=n/\n<4294967296):dw .u64 n=n:=by rw[kj];simp[aA.bits,aA.signed]<;>omega
theorem Kp{p:AV}(h:rd1 s p=some v)(k:Sub s s'):rd1 s' p=some v:=by
 cases p<;>try (simp[rd1]at h;done)
 rename_i b o;have ⟨t,e,l,h1,h2⟩:=C6 h;rw[au (k _ _ h1)];exact h2
structure HoRow(F:FG)(i:Nat)(x:R4):Prop where
 m:x.1≠0/\x.1<=281474976710655/\ja x.1=false
 r:(0<=x.2.2.1/\x.2.2.1<(F.B.length:Int))/\(-1<=x.2.2.2/\x.2.2.2<=(F.S.length:Int)-1)
 s:x.2.2.2≠-1->∀y,F.S[x.2.2.2.toNat]?=some y->x.2.2.1∈y.2
 a:(x.1≠1577058561/\pN x.1=false)/\∀d,F.B[x.2.2.1.toNat]?=some d->oi d x.2.1=true
 dm:(x.2.2.1,x.1) ∉ (F.H.take i).map λy=>(y.2.2.1,y.1)
 di:x.2.1≠0->(x.2.2.1,x.2.1) ∉ (F.H.take i).map λy=>(y.2.2.1,y.2.1)
structure HosOk(F:FG):Prop where
 n:F.H.length<=128
 row:∀(i:Nat) x,F.H[i]?=some x->HoRow F i x
abbrev InvH(F:FG)(s20:Hq):List AV->Hq->Nat->Prop:=λys t m=>∃i:Nat,ys=[Ii i]/\i<=F.H.length/\m=F.H.length-i/\Sub s20 t/\∀(j:Nat) x,j<i->F.H[j]?=some x->HoRow F j x
theorem Kq(hD:DomOk F)(hS:F.S.length<=64)(hn:F.H.length<=4294967296)(hnn:∀x∈F.S,x.1.length<=4294967296/\x.2.length<=4294967296)(hip:∀x∈F.H,0<=x.2.1/\x.2.1<4294967296)(hc:s c=some (t,.cells 238 (csG F v2 v3 v4 v5 v6 v7)))(hL:FL s F v2 v3 v4 v5 v6 v7)(hK:Kok s (HosOk F) K)(hR:Rbad s (HosOk F) NoR):wC TP 151 [Pp c] K s:=by
 refine V4 (pM rfl hc hL λb3 s5 h5 k5=>?_);have hL5:=hL.sub k5;have hlen:cM v6=some F.H.length:=by rw[hL5.H.len,lMY]
 have lenB:cM v4=some F.B.length:=by rw[hL5.B.len,lMY]
 have lenS:=hL5.S.len;simp only[aK,zAY,ae,au h5,csG6,hlen,dy];refine eJ (λq=>?_) λq=>hR ((by grind [HosOk.n])) _ _ _ s5 oM k5;have hn128:F.H.length<=128:=gR;simp only[au h5,csG6,ae];refine lF (λh=>OM h) rfl rfl (rows:=F.H) (rowC:=hgC) (λ_=>rfl) (λ_=>rfl) (kf:=λx=>[x.2.2.1,Iq x.1]) vm (λx=>⟨_,_,rfl⟩) (λ_=>rfl) (λ_=>rfl) (λx s J=>J1 x s J) hL5.H oM λs16 ma k16 repm=>?_;have h16:=k16 _ _ h5;simp only[au h16,csG6,ae];refine lF (λh=>OM h) rfl rfl (rows:=F.H) (rowC:=hgC) (λ_=>rfl) (λ_=>rfl) (kf:=λx=>[x.2.2.1,Iq (dw .u64 x.2.1)]) vm (λx=>⟨_,_,rfl⟩) (λ_=>rfl) (λ_=>rfl) (λx s J=>J2 x s J) (hL5.H.sub k16) oM λs20 ia k20 repi=>?_;have h20:=k20 _ _ h16;have k520:=k16.trans k20;simp only[au h20,csG6,ae,hlen];have him:∀x y:R4,(AV.agg [x.2.2.1,Iq x.1]=AV.agg [y.2.2.1,Iq y.1])↔(x.2.2.1,x.1)=(y.2.2.1,y.1):=λx y=>sI;refine⟨InvH F s20,⟨_,0,rfl,oM,rfl,.refl _,λj x hj=>oM⟩,?_⟩;rintro f t m ⟨i,hy,hi,rfl,kt,hall⟩;simp only[cI,aq]at hy;rw[hy];simp only[Pa,bu,ae];refine aL (λhlt=>?_) (λhge=>?_)
 rotate_left
 have hge:i=F.H.length:=gR;subst hge;exact hK ⟨hn128,gR⟩ t (k5.trans (k520.trans kt));have hlt:i<F.H.length:=gR;have hx:=gE hlt;have hxm:=aN hlt;generalize F.H[i]=x at hx hxm;have hxi:=hip x hxm;have ⟨pb,po,e1,e2,_⟩:=(hL5.H.sub (k520.trans kt)).get (i:=i) (r:=hgC x) gR;rw[e1];simp only[ae,e2];refine aI λb28 s29 hb28 h29 u29=>cD h29 rfl rfl rfl λs30 h30 u30=>?_;have k30:=dp (u29.sub hb28) u30 hb28;have kall:Sub s s30:=(by grind [Sub.trans])
 have h3:=k30 _ _ (kt _ _ h20);have hL3:=hL.sub kall;have a0:(hgC x)[0]?=some (Iq x.1):=rfl;have a1:(hgC x)[1]?=some (Iw x.2.1):=rfl;have a2:(hgC x)[2]?=some (Ii x.2.2.1):=rfl;have a3:(hgC x)[3]?=some (Ii x.2.2.2):=rfl;have ⟨p1,w1,g11,g12,g13⟩:=(repm.sub (k20.trans (kt.trans k30))).at (j:=i) (k:=.agg [x.2.2.1,Iq x.1]) gR;have ⟨p2,w2,g21,g22,g23⟩:=(repi.sub (kt.trans k30)).at (j:=i) (k:=.agg [x.2.2.1,Iq (dw .u64 x.2.1)]) gR;rw[<- du,oh him]at g13;rw[<- du,Ko (f:=λx:R4=>AV.agg [x.2.2.1,Iq (dw .u64 x.2.1)]) (g:=λy:R4=>(y.2.2.1,y.2.1)) (λy hy=>by have:=hip y (mem_of_mem_take hy);simp only[AV.agg.injEq,cI,AV.int.injEq,true_and,aq,w64u hxi,w64u this,Prod.mk.injEq])]at g23
 have next:HoRow F i x->∀{s2:Hq},Sub s30 s2->∃m',m'<F.H.length-i/\InvH F s20 [((i:Int)+1:Int)] s2 m':=λok {s2} k2=>by
  refine⟨_,oM,i+1,rfl,oM,rfl,kt.trans (k30.trans k2),λj z hj hz=>?_⟩
  grind
 have hbad:∀{s2:Hq},¬HoRow F i x->Sub s30 s2->∀(e:Int) (p:ByteArray) (i:Int),e≠0->NoR (flV e p i) s2:=fun {s2} q k2 e p i he=>hR (λg=>q (g.row _ x hx)) e p i s2 he (kall.trans k2);have j7:∀(p r:AV) (bd:Bool),(oK (cW p r false) λv=>oK (cW w1 true v) λv=>v=bd)->(bd=true->¬HoRow F i x)->(bd=false->HoRow F i x)->∀{s2:Hq},Sub s30 s2->xZ i i w1 p r (InvH F s20) (F.H.length-i) K s2:=λp r bd h h1 h2 {s2} k2=>by unfold xZ aS;have ⟨z1,z2,h⟩:=cB h;have ⟨z3,z4,h⟩:=cB h;rw[z2];simp only[ae,z4,h];refine eJ (λq=>?_) λq=>hbad (h1 q) k2 _ _ _ oM;simp only[bg,ae];rw[aT];exact next (h2 q) k2
 have j6:∀(p q:AV) (bd:Bool),cW p true q=some bd->(bd=true->¬HoRow F i x)->(bd=false->(x.2.2.1,x.1) ∉ ((F.H.take i).map λy=>(y.2.2.1,y.1))->(x.2.1≠0->(x.2.2.1,x.2.1) ∉ (F.H.take i).map λy=>(y.2.2.1,y.2.1))->HoRow F i x)->∀{s2:Hq},Sub s30 s2->x5 ma ia i (Pp b28) i p q (InvH F s20) (F.H.length-i) K s2:=λp q bd h h1 h2 {s2} k2=>by
  unfold x5 aS;rw[h];refine eJ (λq1=>?_) λq1=>hbad (h1 q1) k2 _ _ _ oM;have g12':=Kp g12 k2;have g22':=Kp g22 k2;rw[g11];simp only[ae,g12'];refine aL (λq2=>?_) (λq2=>?_)
  ·subst q2
   refine eJ (λq=>by cases q) λq=>hbad (λg=>g.dm (g13.1 rfl)) k2 _ _ _ oM
  ·subst q2
   have hdm:(x.2.2.1,x.1) ∉ ((F.H.take i).map λy=>(y.2.2.1,y.1)):=λz=>by cases g13.2 z
   simp only[aK,zAY,ae,au (k2 _ _ h30),a1,cj,bJ,Bool.true_bne];refine aL (λq3=>?_) (λq3=>?_)
   ·rw[g21]
    simp only[ae,g22',q3];have hne:x.2.1≠0:=by simpa using q3
    exact j7 _ _ w2 (by cases w2<;>exact aE (a:=_) rfl (aE (a:=_) rfl rfl)) (λq4 g=>g.di hne (g23.1 q4)) (λq4=>gR) k2
   ·rw[q3]
    have he:x.2.1=0:=by simpa using q3
    exact j7 _ _ false (aE (a:=false) rfl (aE (a:=false) rfl rfl)) (λq4=>by cases q4) (λq4=>h2 q1 hdm λz=>absurd he z) k2
 have j5:∀(p q:AV) (bd:Bool),cW p true q=some bd->(bd=true->¬HoRow F i x)->(bd=false->(∀d,F.B[x.2.2.1.toNat]?=some d->oi d x.2.1=true)->(x.2.2.1,x.1) ∉ ((F.H.take i).map λy=>(y.2.2.1,y.1))->(x.2.1≠0->(x.2.2.1,x.2.1) ∉ (F.H.take i).map λy=>(y.2.2.1,y.2.1))->HoRow F i x)->(0<=x.2.2.1/\x.2.2.1<(F.B.length:Int))->∀{s2:Hq},Sub s30 s2->x8 (Pp b3) ma ia i (Pp b28) i p q (InvH F s20) (F.H.length-i) K s2:=λp q bd h h1 h2 hr {s2} k2=>by
  unfold x8;rw[h];refine aL (λq1=>?_) (λq1=>?_)
  ·exact j6 _ _ true (by rw[q1];rfl) (λ_=>h1 q1) (λq2=>by cases q2) k2
  ·have hb:x.2.2.1.toNat<F.B.length:=oM
   have hd:=gE hb;generalize F.B[x.2.2.1.toNat]=d at hd;have ⟨pb,po,f1,f2,_⟩:=(hL3.B.sub k2).get (i:=x.2.2.1.toNat) (r:=bgC d) (by rw[cq,hd];rfl);rw[show((x.2.2.1.toNat:Nat):Int)=x.2.2.1 by omega]at f1;simp only[aK,zAY,ae,au (k2 _ _ h3),csG4,au (k2 _ _ h30),a2,f1,f2,a1];refine qWo (λq3=>?_) λs94 k94=>?_;have:=((hD.row _ d hd).s.2 q3).2.1;omega
   ·simp only[cQ,ae]
    exact j6 _ _ (!oi d x.2.1) (by rw[q1];rfl) (λq2 g=>by rw[g.a.2 d hd]at q2;cases q2) (λq2=>h2 q1 λd' hd'=>by rw[hd]at hd';cases hd';simpa using q2) (k2.trans k94)
 have j4:∀(p q:AV) (ok:Bool),cW p q false=some ok->(ok=true->¬HoRow F i x)->(ok=false->(x.1≠1577058561/\pN x.1=false)->(∀d,F.B[x.2.2.1.toNat]?=some d->oi d x.2.1=true)->(x.2.2.1,x.1) ∉ ((F.H.take i).map λy=>(y.2.2.1,y.1))->(x.2.1≠0->(x.2.2.1,x.2.1) ∉ (F.H.take i).map λy=>(y.2.2.1,y.2.1))->HoRow F i x)->(0<=x.2.2.1/\x.2.2.1<(F.B.length:Int))->∀{s2:Hq},Sub s30 s2->x9 (Pp b3) ma ia i (Pp b28) i p q (InvH F s20) (F.H.length-i) K s2:=λp q ok h h1 h2 hr {s2} k2=>by
  unfold x9;rw[h];refine eJ (λq1=>?_) λq1=>hbad (h1 q1) k2 _ _ _ oM;simp only[aK,zAY,ae,au (k2 _ _ h30),a0];refine Km λr=>?_;simp only[ae,au (k2 _ _ h30),a0,cj,bJ,Bool.false_bne];refine aL (λq2=>?_) (λq2=>?_)
  ·rw[q2]
   exact j5 _ _ true rfl (λ_ g=>g.a.1.1 (by simpa using q2)) (λq=>by cases q) hr k2
  ·rw[q2]
   exact j5 _ _ (pN x.1) rfl (λq3 g=>by rw[g.a.1.2]at q3;cases q3) (λq3=>h2 q1 ⟨by simpa using q2,q3⟩) hr k2
 have j3:∀(p q:AV) (bd:Bool),cW p true q=some bd->(bd=true->¬HoRow F i x)->(bd=false->((0<=x.2.2.1/\x.2.2.1<(F.B.length:Int))/\(-1<=x.2.2.2/\x.2.2.2<=(F.S.length:Int)-1))/\((x.2.2.2≠-1->∀y,F.S[x.2.2.2.toNat]?=some y->x.2.2.1∈y.2)->(x.1≠1577058561/\pN x.1=false)->(∀d,F.B[x.2.2.1.toNat]?=some d->oi d x.2.1=true)->(x.2.2.1,x.1) ∉ ((F.H.take i).map λy=>(y.2.2.1,y.1))->(x.2.1≠0->(x.2.2.1,x.2.1) ∉ (F.H.take i).map λy=>(y.2.2.1,y.2.1))->HoRow F i x))->∀{s2:Hq},Sub s30 s2->ya (Pp b3) ma ia i (Pp b28) i p q (InvH F s20) (F.H.length-i) K s2:=λp q bd h h1 h2 {s2} k2=>by
  unfold ya;rw[h];refine eJ (λq1=>?_) λq1=>hbad (h1 q1) k2 _ _ _ oM;have ⟨⟨r1,r2⟩,ok⟩:=h2 q1;simp only[aK,zAY,ae,au (k2 _ _ h30),a3,cj,bJ,Bool.true_bne];refine aL (λq2=>?_) (λq2=>?_)
  ·have hne:x.2.2.2≠-1:=by simpa using q2
   have hb:x.2.2.2.toNat<F.S.length:=oM;have hy:=gE hb;have hym:=aN hb;generalize F.S[x.2.2.2.toNat]=y at hy hym;have ⟨pb,po,l1,l2,f1,_,_,f4,_,f5⟩:=(hL3.S.sub k2).at hy;rw[show((x.2.2.2.toNat:Nat):Int)=x.2.2.2 by omega]at f1;simp only[aK,ae,au (k2 _ _ h3),csG5,f1,f4,a2];refine SZ (hnn y hym).2 f5 ?_;simp only[cQ,ae];rw[q2];exact j4 _ _ (!decide (x.2.2.1∈y.2)) rfl (λq3 g=>by have:=g.s hne y hy;simp[this]at q3) (λq3=>ok λ_ y' hy'=>by rw[hy]at hy';cases hy';simpa using q3) r1 k2
  ·rw[q2]
   have he:x.2.2.2=-1:=by simpa using q2
   exact j4 _ _ false rfl (λq3=>by cases q3) (λ_=>ok λz=>absurd he z) r1 k2
 have j2:∀(p q:AV) (bd:Bool),cW p true q=some bd->(bd=true->¬HoRow F i x)->(bd=false->x.1≠0/\x.1<=281474976710655/\ja x.1=false)->yb (Pp b3) ma ia i (Pp b28) i p q (InvH F s20) (F.H.length-i) K s30:=λp q bd h h1 h2=>by
  unfold yb;rw[h];refine eJ (λq1=>?_) λq1=>hbad (h1 q1) (.refl _) _ _ _ oM;have gm:=h2 q1;simp only[aK,zAY,ae,au h30,a2,au h3,csG4,lenB];refine oe ?_;refine aL (λq2=>?_) (λq2=>?_)
  ·exact j3 _ _ true (by rw[q2];rfl) (λ_ g=>by rw[jK.2 g.r.1]at q2;cases q2) (λq3=>by cases q3) (.refl _)
  ·have hin:inB x.2.2.1 (F.B.length:Int)=true:=by simpa using q2
   simp only[ae,au h30,a3,au h3,csG5,lenS,eC];rw[aT];refine gK ?_;exact j3 _ _ (outB x.2.2.2 (-1) ((F.S.length:Int)-1)) (by rw[q2];rfl) (λq3 g=>by have:=fA.2 g.r.2;rw[this]at q3;cases q3) (λq3=>⟨⟨jK.1 hin,fA.1 q3⟩,λz1 z2 z3 z4 z5=>⟨gm,⟨jK.1 hin,fA.1 q3⟩,z1,⟨z2,z3⟩,z4,z5⟩⟩) (.refl _)
 have j1:∀(p q:AV) (bd:Bool),cW p true q=some bd->(bd=true->¬HoRow F i x)->(bd=false->x.1≠0/\x.1<=281474976710655)->yc (Pp b3) ma ia i (Pp b28) i p q (InvH F s20) (F.H.length-i) K s30:=λp q bd h h1 h2=>by
  unfold yc;rw[h];refine aL (λq1=>?_) (λq1=>?_)
  ·exact j2 _ _ true (by rw[q1];rfl) (λ_=>h1 q1) (λq2=>by cases q2)
  ·simp only[aK,zAY,ae,au h30,a0]
   refine qXY ?_;exact j2 _ _ (ja x.1) (by rw[q1];rfl) (λq2 g=>by rw[g.m.2.2]at q2;cases q2) (λq2=>⟨(h2 q1).1,(h2 q1).2,q2⟩)
 simp only[aK,zAY,ae,au h30,a0,cj,bJ,Bool.false_bne];refine aL (λq1=>?_) (λq1=>?_)
 ·exact j1 _ _ true (by rw[q1];rfl) (λ_ g=>g.m.1 (by simpa using q1)) (λq2=>by cases q2)
 exact j1 _ _ (decide (281474976710655<x.1)) (by rw[q1];rfl) (λq2 g=>by have:=oT q2;have:=g.m.2.1;omega) (λq2=>⟨by simpa using q1,by have:=oF q2;omega⟩)
structure LeRow(F:FG)(i:Nat)(x:R4):Prop where
 r:(0<=x.1/\x.1<(F.T.length:Int))/\(0<=x.2.1/\x.2.1<(F.T.length:Int))
 p:x.1≠x.2.1/\i9 x.2.2.1 x.2.2.2=true
 d:x ∉ F.G.take i
structure LeaOk(F:FG):Prop where
 n:F.G.length<=256
 row:∀(i:Nat) x,F.G[i]?=some x->LeRow F i x
abbrev InvG(F:FG)(s16:Hq):List AV->Hq->Nat->Prop:=λys t m=>∃i:Nat,ys=[Ii i]/\i<=F.G.length/\m=F.G.length-i/\Sub s16 t/\∀(j:Nat) x,j<i->F.G[j]?=some x->LeRow F j x
theorem Ks(hn:F.G.length<=4294967296)(hc:s c=some (t,.cells 238 (csG F v2 v3 v4 v5 v6 v7)))(hL:FL s F v2 v3 v4 v5 v6 v7)(hK:Kok s (LeaOk F) K)(hR:Rbad s (LeaOk F) NoR):wC TP 152 [Pp c] K s:=by
 refine V6 (pM rfl hc hL λb3 s5 h5 k5=>?_);have hL5:=(hL.sub k5).G;have hlen:cM v7=some F.G.length:=by rw[hL5.len,lMY]
 have lenT:cM v3=some F.T.length:=by rw[hL.T.len,lMY]
 simp only[aK,zAY,ae,au h5,csG7,hlen,dy];refine eJ (λq=>?_) λq=>hR ((by grind [LeaOk.n])) _ _ _ s5 oM k5;have hn256:F.G.length<=256:=gR;simp only[au h5,csG7,ae];refine lF (λh=>Vu h) rfl rfl (rows:=F.G) (rowC:=ggC) (λ_=>rfl) (λ_=>rfl) (kf:=λx=>ggC x) JW (λx=>⟨_,rfl⟩) (λ_=>rfl) (λ_=>rfl) (λx s J=>J0 x s J) hL5 oM λs16 again k16 rep=>?_;have h16:=k16 _ _ h5;simp only[au h16,csG7,ae,hlen];have hinj:∀x y:R4,(AV.agg (ggC x)=AV.agg (ggC y))↔x=y:=(by grind [ggC])
 refine⟨InvG F s16,⟨_,0,rfl,oM,rfl,.refl _,λj x hj=>oM⟩,?_⟩;rintro f t m ⟨i,hy,hi,rfl,kt,hall⟩;simp only[cI,aq]at hy;rw[hy];simp only[Pb,bu,ae];refine aL (λhlt=>?_) (λhge=>?_)
 rotate_left
 have hge:i=F.G.length:=gR;subst hge;exact hK ⟨hn256,gR⟩ t (k5.trans (k16.trans kt));have hlt:i<F.G.length:=gR;have hx:F.G[i]?=some F.G[i]:=gE hlt;generalize F.G[i]=x at hx;have ⟨pb,po,e1,e2,_⟩:=(hL5.sub (k16.trans kt)).get (i:=i) (r:=ggC x) gR;rw[e1];simp only[ae,e2];refine aI λb24 s25 hb24 h25 u25=>cD h25 rfl rfl rfl λs26 h26 u26=>?_;have k26:Sub t s26:=dp (u25.sub hb24) u26 hb24;have h3:Hc s26 b3 52 (csG F v2 v3 v4 v5 v6 v7):=k26 _ _ (kt _ _ h16);have kall:Sub s s26:=k5.trans (k16.trans (kt.trans k26));have a0:(ggC x)[0]?=some (Ii x.1):=rfl;have a1:(ggC x)[1]?=some (Ii x.2.1):=rfl;have rx:∀{s2:Hq},Sub s26 s2->rdN s2 2 (.ptr b24 2)=some (pfC x.2.2.1 x.2.2.2):=fun {s2} q=>by simp only[rdN,q _ _ h26];rfl
 have ⟨p1,w1,g1,g2,g3⟩:=(rep.sub (kt.trans k26)).at (j:=i) (k:=.agg (ggC x)) gR;rw[<- du,oh (g:=λx=>x) hinj,map_id']at g3;have hbad:∀{s2:Hq},¬LeRow F i x->Sub s26 s2->∀(e:Int) (p:ByteArray) (i:Int),e≠0->NoR (flV e p i) s2:=fun {s2} q k2 e p i he=>hR (λg=>q (g.row _ x hx)) e p i s2 he (kall.trans k2);have j2:∀(p q:AV) (bd:Bool),cW p true q=some (.bool bd)->(bd=true->¬LeRow F i x)->(bd=false->x ∉ F.G.take i->LeRow F i x)->∀{s2:Hq},Sub s26 s2->yd again i i p q (InvG F s16) (F.G.length-i) K s2:=λp q bd h h1 h2 {s2} k2=>by
  unfold yd aS;rw[h];simp only[ae];refine eJ (λq1=>?_) λq1=>hbad (h1 q1) k2 _ _ _ oM;have g2':=Kp g2 k2;rw[g1];simp only[ae,g2'];refine eJ (λq2=>?_) λq2=>hbad (λg=>g.d (g3.1 q2)) k2 _ _ _ oM;simp only[bg,ae];rw[aT];refine⟨_,oM,i+1,rfl,oM,rfl,kt.trans (k26.trans k2),λj z hj hz=>?_⟩
  grind
 have j1:∀(p q:AV) (bd:Bool),cW p true q=some (.bool bd)->(bd=true->¬LeRow F i x)->(bd=false->(0<=x.1/\x.1<(F.T.length:Int))/\(0<=x.2.1/\x.2.1<(F.T.length:Int)))->ye again i (Pp b24) i p q (InvG F s16) (F.G.length-i) K s26:=λp q bd h h1 h2=>by
  unfold ye;rw[h];simp only[ae];refine eJ (λq1=>?_) λq1=>hbad (h1 q1) (.refl _) _ _ _ oM;simp only[aK,zAY,ae,au h26,a0,a1,cj,bJ,Bool.false_bne];refine aL (λq2=>?_) (λq2=>?_)
  ·exact j2 _ _ true (by rw[q2];rfl) ((by grind [LeRow.p])) (λq=>by cases q) (.refl _)
  rw[rx (.refl _)];simp only[ae];refine SU λs55 k55=>?_;simp only[cQ,ae];exact j2 _ _ (!i9 x.2.2.1 x.2.2.2) (by rw[q2];rfl) ((by grind [LeRow.p])) (λq3 z=>⟨h2 q1,gR,z⟩) k55
 simp only[aK,zAY,ae,au h26,a0,au h3,csG3,lenT];refine oe ?_;simp only[cQ,ae];refine aL (λq1=>?_) (λq1=>?_)
 ·exact j1 _ _ true (by rw[q1];rfl) (λ_ g=>by rw[jK.2 g.r.1]at q1;cases q1) (λq2=>by cases q2)
 ·have hin:inB x.1 (F.T.length:Int)=true:=by simpa using q1
  simp only[ae,au h26,a1,au h3,csG3,lenT];refine oe ?_;simp only[cQ,ae];exact j1 _ _ (!inB x.2.1 (F.T.length:Int)) (by rw[q1];rfl) (λq2 g=>by rw[jK.2 g.r.2]at q2;cases q2) ((by grind [jK]))
variable{cs:List AV}
structure Sz(F:FG):Prop where
 L:F.L.length<=4294967296
 T:F.T.length<=4294967296
 B:F.B.length<=4294967296
 S:F.S.length<=4294967296
 H:F.H.length<=4294967296
 G:F.G.length<=4294967296
 N:∀x∈F.S,x.1.length<=4294967296/\x.2.length<=4294967296
 I:∀x∈F.H,0<=x.2.1/\x.2.1<4294967296
def VS(F:FG):Nat->Prop
 | 0=>FabOk F
 | 1=>TimOk F
 | 2=>LinksOk F
 | 3=>TenOk F
 | 4=>DomOk F
 | 5=>SegOk F
 | 6=>HosOk F
 | 7=>LeaOk F
 |_=>True
def Valid(F:FG):Prop:=∀i,i<8->VS F i
theorem Kt(z:Sz F){i:Nat}(hi:i<8)(hall:∀j,j<i->VS F j)(hc:s c=some (t,.cells 238 (csG F v2 v3 v4 v5 v6 v7)))(hL:FL s F v2 v3 v4 v5 v6 v7)(hK:Kok s (VS F i) K)(hR:Rbad s (VS F i) NoR):wC TP (145+i) [Pp c] K s:=by
 match i,hi with
 | 0,_=>exact JR hc hL hK hR
 | 1,_=>exact JS hc hK hR
 | 2,_=>exact J3 (hall 0 oM) z.L hc hL hK hR
 | 3,_=>exact J4 z.T hc hL hK hR
 | 4,_=>exact Kc (show TenOk F from hall 3 oM).n z.B hc hL hK hR
 | 5,_=>exact qX6 (hall 0 oM) (show DomOk F from hall 4 oM).n z.S z.N hc hL hK hR
 | 6,_=>exact Kq (hall 4 oM) (show SegOk F from hall 5 oM).n z.H z.N z.I hc hL hK hR
 | 7,_=>exact Ks z.G hc hL hK hR
 |n+8,h=>omega
theorem Ku{f:FuncId}{args:List AV}(h2:isFn TP f=true)(h:wC TP f args K s):funK TP (.fn (.func f) [] []) args K s:=lG h2 h
def chk:List AV:=[.fn (.func 145) [] [],.fn (.func 146) [] [],.fn (.func 147) [] [],.fn (.func 148) [] [],.fn (.func 149) [] [],.fn (.func 150) [] [],.fn (.func 151) [] [],.fn (.func 152) [] []]
theorem Kv{i:Nat}(h:i<8):chk[i]?=some (.fn (.func (145+i)) [] [])/\isFn TP (145+i)=true:=by
 match i,h with
 | 0,_=>exact⟨rfl,kR⟩
 | 1,_=>exact⟨rfl,kR⟩
 | 2,_=>exact⟨rfl,kR⟩
 | 3,_=>exact⟨rfl,kR⟩
 | 4,_=>exact⟨rfl,kR⟩
 | 5,_=>exact⟨rfl,kR⟩
 | 6,_=>exact⟨rfl,kR⟩
 | 7,_=>exact⟨rfl,kR⟩
 |n+8,h=>omega
theorem S8(hK:∀b s',s b=none->Hc s' b 241 chk->Sub s s'->K (.slc b 0 8 (some 8) 1) s'):wC TP 116 [] K s:=by
 refine UP ?_;unfold Oy;refine aE (a:=chk) rfl ⟨rfl,aI λb s2 hb h2 u2=>?_⟩
 grind [Upto.sub]
theorem zX(hv0:Valid F)(z:Sz F)(hF:FabR s cs F)(h1:Valid F->∀s',Sub s s'->K (.tup [Ii 0,.str ⟨#[]⟩,Ii 0]) s')(h2:¬Valid F->∀(e:Int) (p:ByteArray) (i:Int) s',e≠0->Sub s s'->K (.tup [e,.str p,i]) s'):wC TP 61 [.agg cs] K s:=by
 obtain⟨v2,v3,v4,v5,v6,v7,rfl,hL⟩:=hF;refine V9 ⟨hL.all,aI λb0 s1 hb0 q0 u0=>aI λb2 s3 hb2 q2 u2=>aI λb4 s5 hb4 q4 u4=>aI λb6 s7 hb6 q6 u6=>⟨by show isFn TP 115=true;kernel_rfl,?_⟩⟩;have q0:Hc s1 b0 52 (csG F v2 v3 v4 v5 v6 v7):=q0;have k1:=u0.sub hb0;have k3:=u2.sub hb2;have k5:=u4.sub hb4;have k7:=u6.sub hb6;have q0':=k7 _ _ (k5 _ _ (k3 _ _ q0));refine aE (bX q0' rfl) (aE (a:=csG F v2 v3 v4 v5 v6 v7) rfl ⟨hL.all,aI λb10 s11 hb10 q10 u10=>?_⟩);have q10:Hc s11 b10 238 (csG F v2 v3 v4 v5 v6 v7):=q10;have k11:=u10.sub hb10;refine S8 λb12 s13 hb12 q12 k13=>aE (a:=8) rfl ?_;have m2:Hc s13 b2 31 [Ii 0]:=k13 _ _ (k11 _ _ (k7 _ _ (k5 _ _ q2)));have m4:Hc s13 b4 9 [.str ⟨#[]⟩]:=k13 _ _ (k11 _ _ (k7 _ _ q4));have m6:Hc s13 b6 3 [Ii 0]:=k13 _ _ (k11 _ _ q6);have m10:=k13 _ _ q10;have kk:Sub s s13:=(by grind [Sub.trans])
 have n2:s b2=none:=by
  cases e:s b2 with
  |none=>rfl
  |some x=>rw[k1 _ _ e]at hb2;cases hb2
 have n4:s b4=none:=by
  cases e:s b4 with
  |none=>rfl
  |some x=>rw[k3 _ _ (k1 _ _ e)]at hb4;cases hb4
 have n6:s b6=none:=by
  cases e:s b6 with
  |none=>rfl
  |some x=>rw[k5 _ _ (k3 _ _ (k1 _ _ e))]at hb6;cases hb6
 have d24:b2≠b4:=λe=>gR;have d26:b2≠b6:=λe=>gR;have d46:b4≠b6:=λe=>gR;refine⟨λys t m=>∃i:Nat,ys=[Ii i]/\i<=8/\m=8-i/\Sub s13 t,⟨_,0,rfl,oM,rfl,.refl _⟩,?_⟩;rintro f t m ⟨i,hy,hi,rfl,kt⟩;simp only[cI,aq]at hy;rw[hy];simp only[Pe,bu,ae,aS];refine aL (λhlt=>?_) (λhge=>?_);have hlt:i<8:=gR;have ⟨g1,g3⟩:=Kv hlt;have e1:cF 1 (.slc b12 0 8 (some 8) 1) i=some (.ptr b12 i):=by
  have:blt i 8=true:=by simp_all
  simp[cF,this]
 rw[e1];simp only[ae,au (kt _ _ q12),g1];refine Ku g3 (Kt z hlt (λj hj=>hv0 j oM) (kt _ _ m10) (hL.sub (kk.trans kt)) (λ_ s20 k20=>?_) (λhv=>absurd (hv0 i hlt) hv));simp only[bg,ae];rw[aT];exact⟨_,oM,i+1,rfl,oM,rfl,kt.trans k20⟩;refine cw (kt _ _ m2) sI rfl λs3 h3 u3=>?_;refine cw (by rw[u3 _ (Ne.symm d24)];exact kt _ _ m4) sI rfl λs4 h4 u4=>?_;refine cw (by rw[u4 _ (Ne.symm d46),u3 _ (Ne.symm d26)];exact kt _ _ m6) sI rfl λs5 h5 u5=>?_;have k5':Sub s s5:=dp (dp (dp (kk.trans kt) u3 n2) u4 n4) u5 n6;have h2':Hc s5 b2 31 [Ii 0]:=by rw[u5 _ d26,u4 _ d24];exact h3
 have h4':Hc s5 b4 9 [.str ⟨#[]⟩]:=by rw[u5 _ d46];exact h4
 refine V7 (K:=λ_ s_31=>oK (rd1 s_31 (Pp b2)) λerr2_32=>oK (rd1 s_31 (Pp b4)) λpart3_33=>oK (rd1 s_31 (Pp b6)) λindex4_34=>K (.tup [err2_32,part3_33,index4_34]) s_31) ?_;unfold Pc;refine aE (a:=true) rfl ?_;simp only[ao];refine aE (a:=Ii 0) (by rw[au h2'];rfl) (aE (a:=.str ⟨#[]⟩) (by rw[au h4'];rfl) (aE (a:=Ii 0) (by rw[au h5];rfl) ?_));exact h1 hv0 s5 k5'
theorem S9{α β γ:Type}{f:Nat->α->β}{g:β->γ}{l:List α}:(l.mapIdx f).map g=l.mapIdx λi x=>g (f i x):=by
 apply ext_getElem?
 grind
def ni(l:List Nat):List Int:=l.map λ(n:Nat)=>(n:Int)
theorem Kw{l:List Nat}:ix (ni l)=iz l:=by unfold ix ni iz;simp
def tgN(i:Nat):Int×Int:=(100+(i:Int),900+(i:Int))
def bgN(i:Nat)(x:Bd):BG:=((x.1:Int),10+(i:Int),500+(i:Int),subN i x.2,lenN x.2,gwN i x.2)
def hgN(i:Nat)(x:Hst):R4:=(2199023951872+(i:Int),ipN i x,(x.1:Int),sgN x)
def ggN(x:Lkg):R4:=((x.1:Int),(x.2.1:Int),pfN x.2.2,plN x.2.2)
def NFab.toG(F:NFab):FG:=⟨F.x.lf,F.x.sp,F.x.el,F.x.hz,F.x.ro,F.x.su,F.x.tr,F.x.de,9,F.x.ag,20,5,30,F.L,(List.range F.n).map tgN,F.B.mapIdx bgN,F.S.map λx=>(ni x.1,ni x.2),F.H.mapIdx hgN,F.G.map ggN⟩
theorem NFR.fab{F:NFab}(h:NFR s cs F):FabR s cs F.toG:=by
 obtain⟨v2,v3,v4,v5,v6,v7,rfl,h2,h3,h4,h5,h6,h7⟩:=h.ex;refine⟨v2,v3,v4,v5,v6,v7,rfl,⟨h2,?_,?_,?_,?_,?_⟩⟩;show SlR 2 s v3 (((List.range F.n).map tgN).map tgC);rw[map_map];exact h3;show SlR 6 s v4 ((F.B.mapIdx bgN).map bgC);rw[S9];exact h4;have ⟨vs,a1,a2,a3⟩:=h5;refine⟨vs,a1,by show vs.length=(F.S.map _).length;rw[a2,lMY],λi q x hq hx=>?_⟩;have hx:(F.S.map λx=>(ni x.1,ni x.2))[i]?=some x:=hx
 grind [Kw]
 show SlR 4 s v6 ((F.H.mapIdx hgN).map hgC);rw[S9];exact h6;show SlR 4 s v7 ((F.G.map ggN).map ggC);rw[map_map];exact h7
theorem AA{l:List Nat}{x:Int}:x∈ni l↔∃n∈l,(n:Int)=x:=by unfold ni;simp
theorem oj{l:List Nat}(h:l.Pairwise (· < ·)):(ni l).Pairwise (· < ·):=by
 grind [ni]
theorem vx:∀i:Nat,i<4->i9 (167772160+(i:Int)*65536) 24=true/\i9 (167772160+(i:Int)*65536) 16=true/\lI (167772160+(i:Int)*65536) 24 (167772160+(i:Int)*65536+1)=true:=by decide +kernel
theorem Kx:∀i:Nat,i<4->∀j:Nat,j<i->lH (167772160+(i:Int)*65536) 24 (167772160+(j:Int)*65536)=false/\lH (167772160+(j:Int)*65536) 24 (167772160+(i:Int)*65536)=false:=by decide +kernel
theorem Ky:∀j:Nat,j<4->∀i:Nat,i<8->lI (167772160+(j:Int)*65536) 24 (167772160+(j:Int)*65536+(10+(i:Int)))=true:=by decide +kernel
theorem Kz:∀i:Nat,i<8->ja (2199023951872+(i:Int))=false:=by decide +kernel
theorem KB:i9 0 0=true:=by decide +kernel
theorem vy{α β:Type}{f:Nat->α->β}{l:List α}{i:Nat}{y:β}(h:y∈(l.mapIdx f).take i):∃j x,j<i/\l[j]?=some x/\y=f j x:=by
 have ⟨j,hj,e⟩:=dH h
 grind
theorem AB{α β:Type}{f:Nat->α->β}{l:List α}{i:Nat}{y:β}(h:(l.mapIdx f)[i]?=some y):∃x,l[i]?=some x/\y=f i x:=by
 grind
theorem Ta{α:Type}{f:α->List Int}{n:Int}:∀{l:List α},(∀x∈l,(f x).Nodup)->((l.map f).flatten).count n<=l.length
 |[],_=>sI
 | x::l,h=>by
   have ih:=Ta (n:=n) (λy hy=>h y (mO _ hy));have h1:=nodup_iff_count.1 (h x mem_cons_self) n;simp only[map_cons,flatten_cons,count_append,length_cons];omega
theorem NFok.valid{F:NFab}(h:NFok F):Valid F.toG:=by
 have hx:=h.x;intro i hi
 match i,hi with
 | 0,_=>
   have:=hx.lf;have:=hx.sp;have:=hx.el;have:=hx.hz;have:=hx.ro;exact⟨by show 1<=(F.x.lf:Int)/\(F.x.lf:Int)<=32;omega,by show 0<=(F.x.sp:Int)/\(F.x.sp:Int)<=32;omega,by show(F.x.lf:Int)+F.x.sp<=32;omega,by show 0<=(F.x.el:Int)/\(F.x.el:Int)<=2;omega,by show 0<=(F.x.hz:Int)/\(F.x.hz:Int)<=1;omega,by show 0<=(F.x.ro:Int)/\(F.x.ro:Int)<=1;omega⟩
 | 1,_=>
   have:=hx.de;have:=hx.ag;exact⟨by show 1<=(F.x.de:Int)/\(F.x.de:Int)<=100;omega,by show(3:Int)<=9/\(9:Int)<=1000;omega,by show 1<=(F.x.ag:Int)/\(F.x.ag:Int)<=10000;omega,by show(0:Int)<=20/\(20:Int)<=1000;omega,by show(1:Int)<=5/\(5:Int)<=100;omega,by show(1:Int)<=30/\(30:Int)<=10000;omega⟩
 | 2,_=>
   refine⟨Nat.le_trans h.Ln (by omega),λi x hi=>⟨?_,?_⟩⟩;have hi:F.L[i]?=some x:=hi;obtain⟨a,b,c⟩:=h.L.2 x (mG hi);exact⟨a,⟨b.1,by have:=b.2;show x.2.1<(F.x.lf:Int)+F.x.sp;omega⟩,c.1,by omega⟩;have hi:F.L[i]?=some x:=hi;show(x.1,x.2.1) ∉ (F.L.take i).map λx=>(x.1,x.2.1)
   rw[du];exact SR h.L.1 i _ (by grind)
 | 3,_=>
   have hn:=h.n;have at_:∀(i:Nat) x,((List.range F.n).map tgN)[i]?=some x->i<F.n/\x=tgN i:=λi x hi=>by
    grind
   have tk:∀(i:Nat) y,y∈((List.range F.n).map tgN).take i->∃j,j<i/\y=tgN j:=λi y hy=>by
    obtain⟨j,hj,e⟩:=dH hy
    grind
   refine⟨by show((List.range F.n).map tgN).length<=16;simp;omega,λi x hi=>?_⟩;obtain⟨a,rfl⟩:=at_ i x hi;refine⟨⟨by show(1:Int)<=100+(i:Int);omega,by show(100:Int)+(i:Int)<=16777215;omega,by show(900:Int)+(i:Int)≠0;omega⟩,?_,?_⟩;intro hm;obtain⟨y,hy,e⟩:=aG.1 hm;obtain⟨j,hj,rfl⟩:=tk i y hy;have e:(100:Int)+(j:Int)=100+(i:Int):=e;omega;intro hm;obtain⟨y,hy,e⟩:=aG.1 hm;obtain⟨j,hj,rfl⟩:=tk i y hy;have e:(900:Int)+(j:Int)=900+(i:Int):=e;omega
 | 4,_=>
   have hB:=h.Bn;have hT:∀y∈(List.range F.n).map tgN,∃j:Nat,y=tgN j:=λy hy=>by
    grind
   refine⟨by show(F.B.mapIdx bgN).length<=32;simp;omega,λi y hi=>?_⟩;have hi:(F.B.mapIdx bgN)[i]?=some y:=hi;obtain⟨x,hx,rfl⟩:=AB hi;have hi4:i<4:=by grind
   have hxn:=h.B x (mG hx);refine⟨⟨⟨by show(0:Int)<=(x.1:Int);omega,by show(x.1:Int)<(((List.range F.n).map tgN).length:Int);simp;exact hxn⟩,⟨by show(1:Int)<=10+(i:Int);omega,by show 10+(i:Int)<=16777215;omega⟩,by show 500+(i:Int)≠0;omega⟩,?_,?_,?_,?_,?_⟩;intro hm;obtain⟨y,hy,e⟩:=aG.1 hm;obtain⟨j,x',hj,_,rfl⟩:=vy hy;have e:(10:Int)+(j:Int)=10+(i:Int):=e;omega;intro hm;obtain⟨y,hy,e⟩:=aG.1 hm;obtain⟨j,x',hj,_,rfl⟩:=vy hy;have e:(500:Int)+(j:Int)=500+(i:Int):=e;omega;refine any_eq_false.2 λy hy=>?_;obtain⟨j,rfl⟩:=hT y hy;show ¬(((100:Int)+(j:Int) == 10+(i:Int))=true);rw[beq_iff_eq];omega;refine any_eq_false.2 λy hy=>?_;obtain⟨j,hj,rfl⟩:∃j:Nat,j<F.n/\y=tgN j:=by
    obtain⟨j,hj,e⟩:=aG.1 hy
    grind
   have:=h.n;show ¬(((900:Int)+(j:Int) == 500+(i:Int))=true);rw[beq_iff_eq];omega;show(gwN i x.2=0->subN i x.2=0/\lenN x.2=0)/\(gwN i x.2≠0->i9 (subN i x.2) (lenN x.2)=true/\(8<=lenN x.2/\lenN x.2<=30)/\lI (subN i x.2) (lenN x.2) (gwN i x.2)=true/\((F.B.mapIdx bgN).take i).any (jM (bgN i x))=false);unfold gwN subN lenN;rcases hr:x.2 with _|_
   grind
   simp only[if_true];obtain⟨c1,_,c3⟩:=vx i hi4;refine⟨λq=>by omega,λ_=>⟨c1,⟨by omega,by omega⟩,c3,?_⟩⟩;refine any_eq_false.2 λy hy=>?_;obtain⟨j,x',hj,_,rfl⟩:=vy hy;show ¬((((x'.1:Int) == (x.1:Int))&&(gwN j x'.2 != 0)&&(lH (subN j x'.2) (lenN x'.2) (subN i x.2)||lH (subN i x.2) (lenN x.2) (subN j x'.2)))=true);unfold gwN subN lenN
   grind [Kx]
 | 5,_=>
   have hS:=h.Sn;refine⟨by show(F.S.map _).length<=64;grind,λy hy=>?_,λn=>?_⟩;have hy:y∈F.S.map λx=>(ni x.1,ni x.2):=hy;obtain⟨x,hx,rfl⟩:=aG.1 hy;obtain⟨a1,a2,a3,_,a5,a6,a7,_⟩:=h.S x hx;refine⟨⟨λe=>a2 (map_eq_nil_iff.1 e),λe=>a6 (map_eq_nil_iff.1 e)⟩,⟨λn hn=>?_,λn hn=>?_⟩,oj a1,oj a5⟩;obtain⟨m,hm,rfl⟩:=AA.1 hn;have:=a3 m hm;exact⟨by omega,by show(m:Int)<(F.x.lf:Int);omega⟩;obtain⟨m,hm,rfl⟩:=AA.1 hn;have:=a7 m hm;exact⟨by omega,by show(m:Int)<((F.B.mapIdx bgN).length:Int);grind⟩;show(((F.S.map λx=>(ni x.1,ni x.2)).map (·.1)).flatten).count n<=32;rw[map_map];refine Nat.le_trans (Ta λx hx=>?_) (by omega);exact(oj (h.S x hx).1).imp λh=>by omega
 | 6,_=>
   have hH:=h.Hn;have hB:=h.Bn;refine⟨by show(F.H.mapIdx hgN).length<=128;simp;omega,λi y hi=>?_⟩;have hi:(F.H.mapIdx hgN)[i]?=some y:=hi;obtain⟨x,hx,rfl⟩:=AB hi;have hi8:i<8:=by grind
   obtain⟨⟨g,hg,hxg⟩,hip⟩:=h.H x (mG hx);obtain⟨_,_,_,_,_,_,a7,_⟩:=h.S g (mG hg);have hbd:=a7 x.1 hxg;have hsl:=(gS hg).1;refine⟨⟨by show 2199023951872+(i:Int)≠0;omega,by show 2199023951872+(i:Int)<=281474976710655;omega,Kz i hi8⟩,⟨⟨by show(0:Int)<=(x.1:Int);omega,by show(x.1:Int)<((F.B.mapIdx bgN).length:Int);grind⟩,?_⟩,?_,⟨⟨by show 2199023951872+(i:Int)≠1577058561;omega,?_⟩,?_⟩,?_,?_⟩;show -1<=sgN x/\sgN x<=((F.S.map λx=>(ni x.1,ni x.2)).length:Int)-1;rw[lMY];unfold sgN;split<;>omega
   ·show sgN x≠-1->∀y,(F.S.map λx=>(ni x.1,ni x.2))[(sgN x).toNat]?=some y->(x.1:Int)∈y.2
    unfold sgN;split;intro q;exact absurd rfl q
    ·intro _ y hy
     rw[Int.toNat_natCast,cq,hg]at hy;cases hy;exact AA.2 ⟨x.1,hxg,rfl⟩
   show(!(decide (2199023951872+(i:Int)<2199023255552)||decide (2199023255584<=2199023951872+(i:Int))))=false
   grind
   ·intro d hd
    have hd:(F.B.mapIdx bgN)[((x.1:Nat):Int).toNat]?=some d:=hd;rw[Int.toNat_natCast]at hd;obtain⟨xb,hxb,rfl⟩:=AB hd;show((ipN i x == 0)||((gwN x.1 xb.2 != 0)&&(ipN i x != gwN x.1 xb.2)&&lI (subN x.1 xb.2) (lenN xb.2) (ipN i x)))=true;unfold ipN;cases hr:x.2.2.1 with
    |false=>rfl
    | true=>
      obtain⟨d',q1,q2⟩:=hip hr;rw[hxb]at q1;cases q1;have hc:=Ky x.1 (by omega) i hi8;unfold gwN subN lenN;rw[q2];simp only[if_true,hc,Bool.and_true,Bool.or_eq_true,beq_iff_eq,Bool.and_eq_true,bne_iff_ne]
      grind
   intro hm;obtain⟨y,hy,e⟩:=aG.1 hm;obtain⟨j,x',hj,_,rfl⟩:=vy hy;have e:((x'.1:Int),2199023951872+(j:Int))=((x.1:Int),2199023951872+(i:Int)):=e
   grind
   intro hne hm;obtain⟨y,hy,e⟩:=aG.1 hm;obtain⟨j,x',hj,_,rfl⟩:=vy hy;have e:((x'.1:Int),ipN j x')=((x.1:Int),ipN i x):=e;have hne:ipN i x≠0:=hne;simp only[Prod.mk.injEq]at e;obtain⟨e1,e2⟩:=e;unfold ipN at e2 hne;rcases hr:x.2.2.1 with _|_;rw[hr]at hne;exact hne rfl;rw[hr]at e2;rcases hr':x'.2.2.1 with _|_;rw[hr']at e2;simp only[if_true,Bool.false_eq_true,if_false]at e2;omega;rw[hr']at e2;simp only[if_true]at e2;omega
 | 7,_=>
   have hG:=h.G;have hGn:=h.Gn;refine⟨by show(F.G.map ggN).length<=256;grind,λi y hi=>?_⟩;have hi:(F.G.map ggN)[i]?=some y:=hi;rw[cq]at hi;cases hx:F.G[i]? with
   |none=>rw[hx]at hi;cases hi
   | some x=>
     rw[hx]at hi;cases hi;obtain⟨b1,b2,b3,b4⟩:=hG.2 x (mG hx);have hlen:(((List.range F.n).map tgN).length:Int)=(F.n:Int):=by simp
     refine⟨⟨⟨by show(0:Int)<=(x.1:Int);omega,by show(x.1:Int)<(((List.range F.n).map tgN).length:Int);rw[hlen];omega⟩,⟨by show(0:Int)<=(x.2.1:Int);omega,by show(x.2.1:Int)<(((List.range F.n).map tgN).length:Int);rw[hlen];omega⟩⟩,⟨by show(x.1:Int)≠(x.2.1:Int);omega,?_⟩,?_⟩;show i9 (pfN x.2.2) (plN x.2.2)=true;rcases hp:x.2.2 with _|j;exact KB;exact(vx j (b4 j hp)).2.1
     ·intro hm
      have hm:ggN x∈(F.G.map ggN).take i:=hm;rw[<- du]at hm;obtain⟨y,hy,e⟩:=aG.1 hm;have:y=x:=by
       obtain⟨y1,y2,y3⟩:=y;obtain⟨x1,x2,x3⟩:=x;have e:((y1:Int),(y2:Int),pfN y3,plN y3)=((x1:Int),(x2:Int),pfN x3,plN x3):=e;simp only[Prod.mk.injEq]at e;obtain⟨e1,e2,e3,e4⟩:=e;have h1:y1=x1:=by omega
       have h2:y2=x2:=by omega
       have h3:y3=x3:=by
        cases y3<;>cases x3<;>simp only[pfN,plN]at e3 e4
        rfl;omega;omega
        congr 1;omega
       rw[h1,h2,h3]
      subst this;exact SR hG.1 i y hx hy
 |n+8,hi=>omega
theorem NFok.sz{F:NFab}(h:NFok F):Sz F.toG:=by
 have:=h.Ln;have:=h.n;have:=h.Bn;have:=h.Sn;have:=h.Hn;have:=h.Gn;refine⟨by show F.L.length<=_;omega,by show((List.range F.n).map tgN).length<=_;simp;omega,by show(F.B.mapIdx bgN).length<=_;simp;omega,by show(F.S.map _).length<=_;grind,by show(F.H.mapIdx hgN).length<=_;simp;omega,by show(F.G.map ggN).length<=_;grind,λy hy=>?_,λy hy=>?_⟩;have hy:=hy;obtain⟨x,hx,rfl⟩:=aG.1 hy;obtain⟨_,_,_,a4,_,_,_,a8⟩:=h.S x hx
 grind [ni]
 have hy:=hy;obtain⟨i,hi⟩:=eA hy;obtain⟨x,hx,rfl⟩:=AB hi;obtain⟨⟨g,hg,hxg⟩,_⟩:=h.H x (mG hx);obtain⟨_,_,_,_,_,_,a7,_⟩:=h.S g (mG hg);show 0<=ipN i x/\ipN i x<4294967296
 grind [ipN]
end Go.AM.TN
namespace Go.AM.RT
open Go Go.Proofs List Nat
set_option maxRecDepth 100000
variable{K:AV→Hq→Prop}{s s' s0:Hq}{v:AV}{es:List Int}
def Own3(s0 s:Hq)(v:AV)(es:List Int):Prop:=(v=.nilslc/\es=[])∨∃b cap,s0 b=none/\v=.slc b 0 es.length cap 1/\Hc s b 3 (izs es)/\∀c,cap=some c->es=[]
theorem Own3.len(h:Own3 s0 s v es):cM v=some es.length:=by rcases h with⟨rfl,rfl⟩|⟨b,cap,_,rfl,_⟩<;>rfl
theorem Own3.sl(h:Own3 s0 s v es):Sl s v (izs es):=by rcases h with⟨rfl,rfl⟩|⟨b,cap,_,rfl,h1,h2⟩;exact .inl ⟨rfl,rfl⟩;exact Sl.mk h1 sI λc hc=>by rw[h2 c hc];simp
theorem vA(h:Own3 s0 s v es)(hs:Sub s0 s)(hl:es.length<=1000)(hK:∀s',Own3 s0 s' v (eH es)->Sub s0 s'->K (.tup []) s'):wC TP 94 [v] K s:=by have hp:=(ii es).length_eq;rcases h with⟨rfl,rfl⟩|⟨b,cap,hb0,rfl,hb,hc⟩;exact UE Go.Proofs.YtcmcofklcgafiaaGreat.sortOK (hK s (.inl ⟨rfl,rfl⟩) hs);refine UD Go.Proofs.YtcmcofklcgafiaaGreat.sortOK (T:=[]) (by rw[d9];exact hb) oM λs' h' u=>hK s' (.inr ⟨b,cap,hb0,by rw[hp],by rw[d9]at h';exact h',λc q=>by rw[hc c q];rfl⟩) λi e hi=>?_;rw[u i (dZ hb0 hi)];exact hs i e hi
theorem Tc(h:Own3 s0 s v es)(hs:Sub s0 s)(hl:es.length<=1000)(hK:∀v' s' es',Sl s' v' (izs es')->es'.length<=es.length->(∀x,x∈es'↔x∈es)->Sub s0 s'->(∀b o n c,v'=.slc b o n c 1->es'≠[]->s0 b=none)->K v' s'):wC TP 117 [v] K s:=by
 refine Zk ?_;have h0:∀b o n c,v=.slc b o n c 1->es≠[]->s0 b=none:=by
  rintro b o n c rfl hne;rcases h with⟨h,_⟩|⟨b',cap,hb0,h,_⟩
  ·cases h
  ·cases h;exact hb0
 simp only[QS,h.len,bu,ae,bG];refine aL ((by grind [Own3.sl])) (λhn=>?_);have hn:2<=es.length:=gR;obtain⟨b,hb0,hv,hb⟩:∃b,s0 b=none/\v=.slc b 0 es.length none 1/\Hc s b 3 (izs es):=by
  rcases h with⟨_,rfl⟩|⟨b,cap,q1,q2,q3,q4⟩;simp at hn
  ·cases cap with
   |none=>exact⟨b,q1,q2,q3⟩
   |some c=>grind
 subst hv;have ad:∀{i:Nat},i<es.length->cF 1 (.slc b 0 es.length none 1) i=some (.ptr b i):=fun {i} hi=>by
  have:blt i es.length=true:=by rw[bZ];exact hi
  simp[cF,this]
 have gt:∀{l:List Int}{i:Nat}(hi:i<l.length),(izs l)[i]?=some (Ii l[i]):=fun {l i} hi=>by simp[hi]
 refine⟨λys t m=>∃k:Nat,ys=[Ii k]/\1<=k/\k<=es.length/\m=es.length-k/\s=t,⟨_,1,rfl,oM,oM,rfl,rfl⟩,?_⟩;rintro f t m ⟨k0,hy,hk1,hk2,rfl,rfl⟩;simp only[cI,aq]at hy;rw[hy];simp only[QR,ge,bu,ae,bG,aS];refine aL (λhlt=>?_) ((by grind [Own3.sl]));have hlt:k0<es.length:=gR;have w1:aA.i64.wrap ((k0:Int)-1)=((k0-1:Nat):Int):=by grind [aT]
 simp only[ad hlt,au hb,gt hlt,eC,w1,ad (show k0-1<es.length by omega),gt (show k0-1<es.length by omega),cj,bJ,Bool.false_bne,ae];refine aL (λheq=>?_) (λhne=>?_)
 rotate_left
 simp only[bg,ae];rw[aT];exact⟨_,oM,k0+1,rfl,oM,oM,rfl,by trivial⟩;have heq:es[k0]=es[k0-1]:=eq_of_beq heq;have sl:∀{k:Nat},k<=es.length->fI 1 (.slc b 0 es.length none 1) (some k) none none=some (.slc b k (es.length-k) none 1):=fun {k} hk=>by simp[fI,bound,bL hk]
 have sh:∀{k:Nat},k<=es.length->fI 1 (.slc b 0 es.length none 1) none (some k) none=some (.slc b 0 k none 1):=fun {k} hk=>by simp[fI,bound,bL hk]
 have tk:∀{l:List Int}{q:Nat}(hq:q<l.length) (x:Int),x∈l.take (q+1)↔x∈l.take q∨x=l[q]:=fun {l q} hq x=>by rw[bO,gE hq,cR];simp only[Option.toList,bN]
 simp only[sl hk2,ae];refine⟨λys t m=>∃(k k2:Nat) (cur:List Int),ys=[Ii k,Ii k2]/\Hc t b 3 (izs cur)/\Sub s0 t/\cur.length=es.length/\1<=k2/\k0+k2<=es.length/\m=es.length-k0-k2/\k<k0+k2/\(∀j,k0+k2-1<=j->cur[j]?=es[j]?)/\∀x,x∈cur.take k↔x∈es.take (k0+k2),⟨_,k0,1,es,rfl,hb,hs,rfl,oM,oM,rfl,oM,λ_ _=>rfl,λx=>?_⟩,?_⟩;rw[tk hlt,heq];refine⟨.inl,λq=>q.elim id λq=>?_⟩;rw[q];have:k0-1<(es.take k0).length:=by rw[dJ];omega
 have e:(es.take k0)[k0-1]=es[k0-1]:=getElem_take
 grind
 rintro f t m ⟨k,k2,cur,hy,ht,st,hlen,c1,c2,rfl,c3,c4,c5⟩;simp only[cI,aq]at hy;rw[hy.1,hy.2];simp only[QQ,ge,bu,ae];refine aL (λhlt2=>?_) (λhge2=>?_);have hlt2:k0+k2<es.length:=gR;have ad2:∀{i:Nat},k0+i<es.length->cF 1 (.slc b k0 (es.length-k0) none 1) i=some (.ptr b (k0+i)):=fun {i} hi=>by
  have:blt i (es.length-k0)=true:=by rw[bZ];omega
  simp[cF,this]
 have w2:aA.i64.wrap ((k2:Int)-1)=((k2-1:Nat):Int):=by grind [aT]
 have g1:cur[k0+k2]=es[k0+k2]:=by
  have:=c4 (k0+k2) oM;rw[gE oM,gE hlt2]at this
  grind
 have g2:cur[k0+(k2-1)]'oM=es[k0+(k2-1)]'oM:=by
  have:=c4 (k0+(k2-1)) oM;rw[gE oM,gE oM]at this
  grind
 have nx:∀(k':Nat) (cur':List Int) t',Hc t' b 3 (izs cur')->Sub s0 t'->cur'.length=es.length->k'<k0+(k2+1)->(∀j,k0+(k2+1)-1<=j->cur'[j]?=es[j]?)->(∀x,x∈cur'.take k'↔x∈es.take (k0+(k2+1)))->
   yG k' k2 (λys t m=>∃(k k2:Nat) (cur:List Int),ys=[Ii k,Ii k2]/\Hc t b 3 (izs cur)/\Sub s0 t/\cur.length=es.length/\1<=k2/\k0+k2<=es.length/\m=es.length-k0-k2/\k<k0+k2/\(∀j,k0+k2-1<=j->cur[j]?=es[j]?)/\∀x,x∈cur.take k↔x∈es.take (k0+k2)) (es.length-k0-k2) (λys t m=>∃k:Nat,ys=[Ii k]/\1<=k/\k<=es.length/\m=es.length-k/\s=t) (es.length-k0) K t':=λk' cur' t' q1 q2 q3 q4 q5 q6=>by
  simp only[yG,bg,ae,aS];rw[aT];exact⟨_,oM,k',k2+1,cur',rfl,q1,q2,q3,oM,oM,rfl,q4,q5,q6⟩
 have tk2:=λx=>tk (l:=es) (q:=k0+k2) hlt2 x;simp only[ad2 hlt2,au ht,gt (show k0+k2<cur.length by omega),eC,w2,ad2 (show k0+(k2-1)<es.length by omega),gt (show k0+(k2-1)<cur.length by omega),cj,bJ,Bool.true_bne,ae,g1,g2];refine aL (λhd=>?_) (λhd=>?_);have hk:k<es.length:=oM;simp only[ad hk,ae];refine cw ht (by rw[lMY];omega) rfl λt3 h3 u3=>?_;have e3:(izs cur).set k (es[k0+k2])=izs (cur.set k es[k0+k2]):=(map_set ..).symm;rw[e3]at h3;simp only[bg,ae];rw[aT];refine nx (k+1) _ t3 h3 (λi e hi=>by rw[u3 i (dZ hb0 hi)];exact st i e hi) (by simpa using hlen) oM (λj hj=>?_) λx=>?_;rw[ef oM];exact c4 j oM;have e4:=tk (l:=cur.set k es[k0+k2]) (q:=k) (by rw[length_set];omega) x;rw[e4,show k0+(k2+1)=k0+k2+1 by omega,tk2,getElem_set_self,take_set_of_le oM,c5];have hd:es[k0+k2]=es[k0+(k2-1)]:=by simpa using hd
 refine nx k cur t ht st hlen oM (λj hj=>c4 j oM) λx=>?_;rw[c5,show k0+(k2+1)=k0+k2+1 by omega,tk2];refine⟨.inl,λq=>q.elim id λq=>?_⟩;rw[q,hd];have:k0+(k2-1)<(es.take (k0+k2)).length:=by rw[dJ];omega
 have e:(es.take (k0+k2))[k0+(k2-1)]=es[k0+(k2-1)]:=getElem_take
 grind
 ·have hge2:k0+k2=es.length:=gR
  rw[hge2]at c3 c5;rw[dI]at c5;simp only[sl (show k<=es.length by omega),ae];unfold oN;refine⟨rfl,?_⟩;obtain⟨m,hm⟩:∃m,es.length-k=m+1:=⟨es.length-k-1,oM⟩
  rw[hm];simp only;have e1:wrN t (.ptr b k) (repl (m+1) [Ii 0])=some (hset t b (false,.cells 3 (dB (izs cur) k (repl (m+1) [Ii 0])))):=by
   have e2:ble (k+(repl (m+1) [AV.int .i64 0]).length) (izs cur).length=true:=by rw[ig,length_replicate,lMY,ble_eq];omega
   have e3:aX (repl (m+1) [AV.int .i64 0])=true:=by
    rw[ig];have:∀n,aX (replicate n (AV.int .i64 0))=true:=λn=>by
     induction n with
     |zero=>rfl
     |succ n ih=>rw[replicate_succ,dh,ih];rfl
    exact this _
   simp only[wrN,ht,e2,e3,Bool.and_self,aD]
  simp only[e1,ae,sh (show k<=es.length by omega)];refine hK _ _ (cur.take k) (.inr ⟨b,0,none,by rw[lMY,dJ,Nat.min_eq_left oM],(λc h=>by cases h),λ_=>⟨false,3,_,fe,?_,λi hi=>?_⟩⟩) ?_ c5 (λi e hi=>?_) gR;unfold dB;rw[lMY,dJ,lAp,lAp,dJ,lMY];omega;rw[lMY,dJ]at hi;unfold dB;rw[zAY,append_assoc,getElem?_append_left (by rw[dJ,lMY];omega)];exact aJ (λl:List AV=>l[i]?) (du ..).symm;rw[dJ];omega;rw[eL (dZ hb0 hi)];exact st i e hi
variable{t:Hq}{b:Nat}{vs:List AV}{q:Nat}{x:Int}{A A':Nat→Prop}
structure Mb(s t:Hq)(b:Nat)(vs:List AV)(q:Nat)(x:Int)(A:Nat->Prop):Prop where
 sub:Sub s t
 nb:s b=none
 cb:Hc t b 25 vs
 ac:∀(i:Nat) (v:AV),vs[i]?=some v->∃l:List Int,Acc 3 s t v (izs l)/\l.length<=q/\(A i->x∈l)
 fb:∀(i:Nat) (v:AV),vs[i]?=some v->¬cN 1 v b
 dj:∀(i j:Nat) (v w:AV),i≠j->vs[i]?=some v->vs[j]?=some w->∀c,cN 1 v c->¬cN 1 w c
theorem Acc.blk{l:List AV}{c:Nat}(h:Acc 3 s t v l)(hb:cN 1 v c):s c=none/\Hc t c 3 l:=by
 obtain⟨o,n,k,rfl⟩:=hb;rcases h with⟨q,_⟩|⟨b',h1,q,h2⟩
 ·cases q
 grind
theorem Acc.one3{l:List AV}(h:Acc 3 s t v l):v.one=true:=by rcases h with⟨q,_⟩|⟨b',h1,q,h2⟩<;>rw[q]<;>rfl
theorem Mb.put{i:Nat}{v v':AV}{l':List Int}{q':Nat}(z:Mb s t b vs q x A)(hi:vs[i]?=some v)(ha:Acc 3 s s' v' (izs l'))(hl:l'.length<=q')(hq:q<=q')(hA:A' i->x∈l')(hA2:∀j,j≠i->A' j->A j)(kp:aV (cN 1 v) t s')(hb:∀c,cN 1 v' c->t c=none∨cN 1 v c){t':Hq}(h:Hc t' b 25 (vs.set i v'))(u:Upto b s' t'):Mb s t' b (vs.set i v') q' x A':=by
 have ⟨hin,_⟩:=gS hi;obtain⟨l,av,_⟩:=z.ac i v hi;have nbv:¬cN 1 v b:=z.fb i v hi;have nbv':¬cN 1 v' b:=λhc=>by
  rcases hb b hc with q|q
  ·rw[z.cb]at q;cases q
  exact nbv q
 have kp2:aV (λc=>cN 1 v c∨c=b) t t':=λc e hc hn=>by rw[u c λq=>hn (.inr q)];exact kp c e hc λq=>hn (.inl q)
 have old:∀(j:Nat) (w:AV),j≠i->vs[j]?=some w->∀c,cN 1 w c->t c≠none/\¬cN 1 v c:=λj w hj hw c hc=>by obtain⟨lw,aw,_⟩:=z.ac j w hw;refine⟨by rw[(Acc.blk aw hc).2];simp,z.dj j i w v hj hw hi c hc⟩
 refine⟨λc e hc=>?_,z.nb,h,λj w hw=>?_,λj w hw=>?_,λj k w w' hjk hw hw' c hc=>?_⟩
 ·have hcb:c≠b:=(by grind [nb])
  exact kp2 c e (z.sub c e hc) λq=>q.elim (λq=>by rw[(Acc.blk av q).1]at hc;cases hc) hcb
 ·by_cases e:j=i
  ·subst e
   rw[fE hin]at hw;cases hw;refine⟨l',ha.imp id λ⟨c,q1,q2,q3⟩=>⟨c,q1,q2,?_⟩,hl,hA⟩;rw[u c λq=>nbv' (by rw[q2,q];exact⟨_,_,_,rfl⟩)];exact q3
  rw[ef (Ne.symm e)]at hw;have ⟨lw,aw,hlw,hxw⟩:=z.ac j w hw;refine⟨lw,aw.imp id λ⟨c,q1,q2,q3⟩=>⟨c,q1,q2,kp2 c _ q3 λq=>?_⟩,oM,λa=>hxw (hA2 j e a)⟩;have hc:cN 1 w c:=by rw[q2];exact⟨_,_,_,rfl⟩
  exact q.elim (λq=>(old j w e hw c hc).2 q) λq=>z.fb j w hw (by rw[<- q];exact hc)
 ·by_cases e:j=i
  ·subst e
   rw[fE hin]at hw;cases hw;exact nbv'
  rw[ef (Ne.symm e)]at hw;exact z.fb j w hw
 have far:∀(j:Nat) (w:AV),j≠i->vs[j]?=some w->∀c,cN 1 w c->¬cN 1 v' c:=gR
 by_cases e:j=i
 grind
 rw[ef (Ne.symm e)]at hw
 by_cases e2:k=i
 grind
 rw[ef (Ne.symm e2)]at hw';exact z.dj j k w w' hjk hw hw' c hc
variable{cs:List AV}
open TN
theorem Mb.grow{c:Nat}{y:Bool×Blk}(z:Mb s t b vs q x A)(hc:t c=none)(h:s' c=some y)(u:Upto c t s'):Mb (hset s c y) s' b vs q x A:=by
 have k:=u.sub hc;have hb:b≠c:=λe=>by rw[<- e,z.cb]at hc;cases hc
 refine⟨λi e hi=>?_,by grind [cG,nb],k _ _ z.cb,λi v hi=>?_,z.fb,z.dj⟩
 by_cases e1:i=c
 simp_all
 rw[cG e1]at hi;exact k _ _ (z.sub _ _ hi);obtain⟨l,a,hl⟩:=z.ac i v hi;refine⟨l,a.imp id λ⟨d,q1,q2,q3⟩=>⟨d,?_,q2,k _ _ q3⟩,hl⟩
 grind [cG]
theorem Mb.less{r:Hq}(z:Mb s t b vs q x A)(k:Sub r s):Mb r t b vs q x A:=
 ⟨k.trans z.sub,dU k z.nb,z.cb,λi v hi=>by have ⟨l,a,hl⟩:=z.ac i v hi;exact⟨l,a.imp id λ⟨d,q1,q2,q3⟩=>⟨d,dU k q1,q2,q3⟩,hl⟩,z.fb,z.dj⟩
theorem Mb.up{q':Nat}(z:Mb s t b vs q x A)(h:q<=q')(hA:∀i,A' i->A i):Mb s t b vs q' x A':=
 ⟨z.sub,z.nb,z.cb,λi v hi=>by have ⟨l,a,b,c⟩:=z.ac i v hi;exact⟨l,a,oM,λh=>c (hA i h)⟩,z.fb,z.dj⟩
theorem Sl.keepB{w:AV}{l:List AV}{t':Hq}(h:Sl t w l)(kp:∀c,cN 1 w c->l≠[]->∀e,t c=some e->t' c=some e):Sl t' w l:=by
 rcases h with h|⟨c,o,k,e1,e2,e3⟩
 ·exact .inl h
 ·exact .inr ⟨c,o,k,e1,e2,λhn=>by have ⟨tg,el,cs,q1,q2⟩:=e3 hn;exact⟨tg,el,cs,kp c ⟨_,_,_,e1⟩ hn _ q1,q2⟩⟩
theorem KC{n:Nat}(z:Mb s t b vs q x A)(hq:q<=1000)(hn:vs.length=n)(hn2:n<=1000)
  (hK:∀s' vs',Sub s s'->Hc s' b 25 vs'->vs'.length=n->(∀i w,vs'[i]?=some w->∃l,LS.Sli s' w l/\l.length<=q/\(A i->x∈l)/\∀c,cN 1 w c->izs l≠[]->s c=none)->K (.slc b 0 n (some n) 1) s') :
  ∃I2:List AV->Hq->Nat->Prop,(∃m,I2 [(Ii 0)] t m)/\∀(f:Env) (s:Hq) (m2:Nat),I2 [f 42] s m2->EY (.slc b 0 n (some n) 1) (.slc b 0 n (some n) 1) n (f 42) I2 m2 K s:=by
 refine⟨λys t m=>∃(k:Nat) (vs':List AV),ys=[Ii k]/\k<=n/\m=n-k/\Sub s t/\Hc t b 25 vs'/\vs'.length=n/\(∀i,k<=i->vs'[i]?=vs[i]?/\∀v,vs[i]?=some v->∃l:List Int,Acc 3 s t v (izs l)/\l.length<=q/\(A i->x∈l))/\
  ∀i w,i<k->vs'[i]?=some w->∃l:List Int,LS.Sli t w l/\l.length<=q/\(A i->x∈l)/\∀c,cN 1 w c->izs l≠[]->c≠b/\s c=none/\∀j v,k<=j->vs[j]?=some v->¬cN 1 v c,⟨_,0,vs,rfl,oM,rfl,z.sub,z.cb,hn,(by grind [Mb.ac]),λi w h=>absurd h (not_lt_zero i)⟩,?_⟩
 rintro f t m ⟨k,vs',hy,hk,rfl,st,hb,hl,hr,hdn⟩;simp only[cI,aq]at hy;rw[hy];simp only[EY,bu,ae,aS];refine aL (λhlt=>?_) (λhge=>hK t vs' st hb hl λi w hw=>?_)
 rotate_left
 ·have hi:i<k:=by
   have:=(gS hw).1;have:=oF hge;omega
  have ⟨l,a,b,c,d⟩:=hdn i w hi hw;exact⟨l,a,b,c,λe h1 h2=>(d e h1 h2).2.1⟩
 have hlt:k<n:=gR;have ad:cF 1 (.slc b 0 n (some n) 1) k=some (.ptr b k):=by
  have:blt k n=true:=by simp_all
  simp[cF,this]
 have ⟨e1,e2⟩:=hr k (Nat.le_refl k);have hkv:vs[k]?=some vs[k]:=gE oM;have ⟨v,hv⟩:∃v,v=vs[k]:=⟨_,rfl⟩
 rw[<- hv]at hkv;have ⟨l,al,hll,hxl⟩:=e2 v hkv;have h0:Own3 (offV v t) t v l:=by
  rcases al with⟨q1,q2⟩|⟨c,q1,q2,q3⟩;exact .inl ⟨q1,by simpa using q2⟩
  ·rw[lMY]at q2
   exact .inr ⟨c,none,by rw[q2];exact ak rfl,q2,q3,λc h=>by cases h⟩
 simp only[ad,ae,au hb,e1,hkv];have nb:=z.fb k v hkv;have own:∀{i:Nat},¬cN 1 v i->offV v t i=t i:=fun {i} hn=>gV λb o n c e' q1 q2=>by
  subst q2;rcases al with⟨q6,_⟩|⟨b'',_,q6,_⟩
  ·rw[q1]at q6;cases q6
  ·rw[q1]at q6;cases q6;exact hn ⟨_,_,_,q1⟩
 refine vA h0 lB oM λt1 h1 st1=>?_;refine Tc h1 st1 (by rw[(ii l).length_eq];omega) λv2 t2 es2 sl2 hl2 mem2 st2 bl2=>?_;rw[(ii l).length_eq]at hl2;have hb2:=st2 _ _ (by rw[own nb];exact hb);refine cw hb2 (by rw[hl];exact hlt) sl2.one λt3 h3 u3=>?_;simp only[bg,ae];rw[aT];have keep:∀i e,t i=some e->¬cN 1 v i->i≠b->t3 i=some e:=λi e hi hn hne=>by rw[u3 i hne];exact st2 _ _ (by rw[own hn];exact hi)
 have fr2:∀c,cN 1 v2 c->izs es2≠[]->c≠b/\s c=none/\∀j w,k+1<=j->vs[j]?=some w->¬cN 1 w c:=λc ⟨o,m,cp,e⟩ hne=>by
  have hc:=bl2 c o m cp e λq=>hne (by rw[q];rfl);refine⟨λq=>(by rw[q,own nb,hb]at hc;cases hc),?_,λj w hj hw hbw=>?_⟩
  ·by_cases hv:cN 1 v c
   ·exact(Acc.blk al hv).1
   ·rw[own hv]at hc;exact dU st hc
  have ⟨lw,aw,_⟩:=(hr j oM).2 w hw;rw[own (z.dj j k w v oM hw hkv c hbw),(Acc.blk aw hbw).2]at hc;cases hc
 refine⟨_,oM,k+1,_,sI,oM,rfl,λi e hi=>?_,h3,gR,λi hi=>⟨gR,λw hw=>?_⟩,λi w hi hw=>?_⟩
 ·exact keep i e (st i e hi) (λq=>by rw[(Acc.blk al q).1]at hi;cases hi) (by grind [Mb.nb])
 ·have ⟨l',a',hl'⟩:=(hr i oM).2 w hw
  refine⟨l',a'.imp id λ⟨d,q1,q2,q3⟩=>⟨d,q1,q2,keep d _ q3 (λq=>?_) λq=>?_⟩,hl'⟩;exact z.dj i k w v oM hw hkv d (by rw[q2];exact⟨_,_,_,rfl⟩) q
  grind
 ·by_cases e:i=k
  ·subst e
   rw[fE oM]at hw;cases hw;refine⟨es2,Sl.keepB sl2 λc hc hne e he=>?_,oM,λa=>(mem2 x).2 ((ii l).mem_iff.2 (hxl a)),λc hc hne=>fr2 c hc hne⟩;rw[u3 c (fr2 c hc hne).1];exact he
  ·rw[ef (Ne.symm e)]at hw
   have ⟨l',a1,a2,a3,a4⟩:=hdn i w oM hw;refine⟨l',Sl.keepB a1 λc hc hne e he=>keep c e he ((a4 c hc hne).2.2 k v (Nat.le_refl k) hkv) (a4 c hc hne).1,a2,a3,λc hc hne=>⟨(a4 c hc hne).1,(a4 c hc hne).2.1,λj v hj=>(a4 c hc hne).2.2 j v oM⟩⟩
structure SgB(F:FG):Prop where
 b:F.B.length<=32
 n:F.S.length<=6
 s:∀y∈F.S,y.1≠[]/\y.1.length<=3/\y.2.length<=4/\∀n∈y.2,0<=n/\n<(F.B.length:Int)
def MbA(F:FG)(x:Int)(i:Nat)(bd:Nat):Prop:=∃y∈F.S.take i,(bd:Int)∈y.2/\x∈y.1
theorem KD{F:FG}(ok:SgB F)(hF:FabR s cs F)(hK:∀b s' vs,Sub s s'->s b=none->Hc s' b 25 vs->vs.length=F.B.length->(∀i w,vs[i]?=some w->∃l,LS.Sli s' w l/\l.length<=72/\(MbA F x F.S.length i->x∈l)/\∀c,cN 1 w c->izs l≠[]->s c=none)->K (.slc b 0 F.B.length (some F.B.length) 1) s'):wC TP 63 [.agg cs] K s:=by
 obtain⟨v2,v3,v4,v5,v6,v7,rfl,hL⟩:=hF;have h4:=hL.B;have h5:=hL.S;have ones:=hL.all;refine ZN ⟨ones,aI λb0 s1 hb0 q1 u1=>?_⟩;have q1:Hc s1 b0 52 (csG F v2 v3 v4 v5 v6 v7):=q1;have k1:=u1.sub hb0;have e4:(csG F v2 v3 v4 v5 v6 v7)[4]?=some v4:=rfl;have e5:(csG F v2 v3 v4 v5 v6 v7)[5]?=some v5:=rfl;have l4:cM v4=some F.B.length:=by rw[h4.len,lMY]
 simp only[aK,zAY,ae,au q1,e4,l4,nat?_mk];have Bn:=ok.b;refine⟨⟨Nat.le_refl _,oM⟩,aI λb s2 hb q2 u2=>?_⟩;have k2:=u2.sub hb;have k12:=k1.trans k2;simp only[au (k2 _ _ q1),e5,ae,h5.len];have Sn:=ok.n;have z0:Mb s s2 b (repl F.B.length [AV.nilslc]) 0 x (MbA F x 0):=⟨k12,dU k1 hb,q2,λi v hi=>⟨[],.inl ⟨?_,rfl⟩,sI,λ⟨y,hy,_⟩=>by simp at hy⟩,λi v hi=>?_,λi j v w _ hi hj c hc=>?_⟩
 rotate_left
 grind [ig]
 ·rw[ig,jL]at hi
  split at hi
  ·cases hi
   rintro ⟨_,_,_,e⟩;cases e
  ·cases hi
 ·rw[ig,jL]at hi
  split at hi
  ·cases hi
   have ⟨_,_,_,e⟩:=hc;cases e
  ·cases hi
 refine⟨λys t m=>∃(i:Nat) (vs:List AV),ys=[Ii i]/\i<=F.S.length/\m=F.S.length-i/\Mb s t b vs (12*i) x (MbA F x i)/\vs.length=F.B.length,⟨_,0,_,rfl,oM,rfl,z0,by grind [ig]⟩,?_⟩;rintro f t m ⟨i,vs,hy,hi,rfl,z,hl⟩;simp only[cI,aq]at hy;rw[hy];simp only[Ra,bu,ae,bG];refine aL (λhlt=>?_) (λ_=>?_)
 rotate_left
 ·have hi:i=F.S.length:=by have:=oF ‹_›;omega
  subst hi;refine aE (ge) (KC z oM hl oM λs' vs' c1 c2 c3 c4=>hK b s' vs' c1 z.nb c2 c3 λi w hw=>?_);have ⟨l,d1,d2,d3⟩:=c4 i w hw;exact⟨l,d1,oM,d3⟩
 have hlt:i<F.S.length:=gR;have ⟨ps,a1,a2,a3⟩:=h5;have hps:ps[i]?=some ps[i]:=gE oM;have ⟨pb,po,g1,g2,_⟩:=(a1.sub z.sub).get (i:=i) (r:=[ps[i].1,ps[i].2]) gR;have ⟨g5,g6⟩:=a3 i _ _ hps (gE hlt);obtain⟨l1,hl1⟩:∃l1,l1=ps[i].1:=⟨_,rfl⟩
 obtain⟨l2,hl2⟩:∃l2,l2=ps[i].2:=⟨_,rfl⟩
 rw[<- hl1]at g5 g2;rw[<- hl2]at g6 g2;have so:=ok.s _ (aN hlt);simp only[g1,g2,ae];refine aI λb3 t1 hb3 q3 u3=>cD q3 rfl rfl (by rw[dh,dh,g5.one,g6.one];rfl) λt2 q4 u4=>?_;have u5:Upto b3 t t2:=λi hi=>by rw[u4 i hi,u3 i hi]
 have z1:=z.grow hb3 q4 u5;have e1:[l1,l2][0+1]?=some l2:=rfl;have lx:cM l2=some F.S[i].2.length:=by rw[g6.len];simp[TN.ix]
 simp only[aK,ae,au q4,e1,lx];refine⟨λys t m=>∃(j:Nat) (vs:List AV),ys=[Ii j]/\j<=F.S[i].2.length/\m=F.S[i].2.length-j/\Mb (hset s b3 (false,.cells 163 [l1,l2])) t b vs (12*i+3*j) x (λbd=>MbA F x i bd∨(x∈F.S[i].1/\(bd:Int)∈F.S[i].2.take j))/\vs.length=F.B.length,⟨_,0,_,rfl,oM,rfl,z1.up (Nat.le_refl _) λbd h=>h.elim id λh=>by simp at h,hl⟩,?_⟩;rintro f t3 m ⟨j,vs3,hy,hj,rfl,z3,hl3⟩;simp only[cI,aq]at hy;rw[hy];have nb3:=dU z.sub hb3;simp only[Q8,bu,ae,aS];refine aL (λhlt2=>?_) (λhge=>?_)
 rotate_left
 simp only[bg,ae];rw[aT];have hge:j=F.S[i].2.length:=gR;refine⟨_,oM,i+1,vs3,sI,oM,rfl,(z3.less (j9 nb3)).up oM λbd ⟨y,hy,hy1,hy2⟩=>?_,hl3⟩;rw[bO,gE hlt,cR]at hy;rcases hy with hy|hy
 ·exact .inl ⟨y,hy,hy1,hy2⟩
 ·simp only[Option.toList,bN]at hy
  subst hy;rw[hge,dI];exact .inr ⟨hy2,hy1⟩
 have hlt2:j<F.S[i].2.length:=gR;have ks:=(j9 (e:=(false,Blk.cells 163 [l1,l2])) nb3).trans z3.sub;have sl1:=g5.sub ks;have sl2:=g6.sub ks;have ⟨p2,g7,g8⟩:=sl2.get (i:=j) (by simpa [TN.ix]using hlt2);have hbd0:=so.2.2.2 _ (aN hlt2);obtain⟨bd,hbd'⟩:∃bd:Nat,(bd:Int)=F.S[i].2[j]:=⟨F.S[i].2[j].toNat,oM⟩
 have e8:(TN.ix F.S[i].2)[j]?=some (Ii bd):=by rw[TN.pL hlt2,hbd']
 rw[e8]at g8;have hbd:bd<F.B.length:=oM;have ad:cF 1 (.slc b 0 F.B.length (some F.B.length) 1) bd=some (.ptr b bd):=by
  have:blt bd F.B.length=true:=by rw[bZ];exact hbd
  simp[cF,this]
 have hvb:vs3[bd]?=some vs3[bd]:=gE oM;have ⟨v,hv⟩:∃v,v=vs3[bd]:=⟨_,rfl⟩
 rw[<- hv]at hvb;have ⟨l,al,hll,hxl⟩:=z3.ac bd v hvb;have q5:=z3.sub _ _ dT;have e9:[l1,l2][0]?=some l1:=rfl;simp only[g7,g8,ae,ad,au z3.cb,hvb,aK,zAY,au q5,e9];have ne1:TN.ix F.S[i].1≠[]:=λq=>so.1 (by simpa [TN.ix]using q);have ln1:(TN.ix F.S[i].1).length<=3:=by rw[TN.jJ];exact so.2.1
 refine Sx ne1 al z3.sub sl1 (by rw[lMY];omega) λv' t4 acc4 kp4 fr4=>?_;have hb4:=kp4 _ _ z3.cb (z3.fb bd v hvb);refine cw hb4 oM (Acc.one3 acc4) λt5 h5 u5=>?_;have em:izs l++TN.ix F.S[i].1=izs (l++F.S[i].1):=by simp[TN.ix]
 rw[em]at acc4;have tk:∀y:Int,y∈F.S[i].2.take (j+1)↔y∈F.S[i].2.take j∨y=(bd:Int):=λy=>by rw[bO,gE hlt2,cR,hbd'];simp only[Option.toList,bN]
 have z5:=z3.put (q':=12*i+3*(j+1)) (A':=λbd=>MbA F x i bd∨(x∈F.S[i].1/\(bd:Int)∈F.S[i].2.take (j+1))) hvb acc4 (by rw[lAp];have:=so.2.1;omega) oM (λh=>by
  rw[cR];rcases h with h|h
  ·exact .inl (hxl (.inl h))
  ·exact .inr h.1) (λk hk h=>h.imp id λ⟨c1,c2⟩=>⟨c1,((tk _).1 c2).resolve_right λq=>hk oM⟩) kp4 fr4 h5 u5
 simp only[bg,ae];rw[aT];exact⟨_,oM,j+1,_,sI,oM,rfl,z5,by rw[length_set];exact hl3⟩
variable{r:Hq}{l:List Hq}
theorem Sl.frz{v:AV}{l:List AV}(h:Sl s v l):Sl (frz s) v l:=by
 rcases h with h|⟨b,o,c,e1,e2,e3⟩
 ·exact .inl h
 ·exact .inr ⟨b,o,c,e1,e2,λhn=>by have ⟨t1,el,cs,q1,q2⟩:=e3 hn;exact⟨true,el,cs,eK q1,q2⟩⟩
theorem SlR.frz{n:Nat}{rows:List (List AV)}(h:SlR n s v rows):SlR n (frz s) v rows:=by
 have ⟨h1,h2⟩:=h;refine⟨h1,?_⟩;rcases h2 with h|⟨b,o,c,e1,e2,e3⟩
 ·exact .inl h
 ·exact .inr ⟨b,o,c,e1,e2,λhn=>by have ⟨t1,el,cs,q1,q2⟩:=e3 hn;exact⟨true,el,cs,eK q1,q2⟩⟩
theorem SgR.frz{S:List TN.Sg}(h:TN.SgR s v S):TN.SgR (frz s) v S:=by have ⟨vs,h1,h2,h3⟩:=h;exact⟨vs,SlR.frz h1,h2,λi q x a c=>⟨Sl.frz (h3 i q x a c).1,Sl.frz (h3 i q x a c).2⟩⟩
theorem NFR.frz{F:TN.NFab}(h:TN.NFR s cs F):TN.NFR (frz s) cs F:=by have ⟨v2,v3,v4,v5,v6,v7,e,h2,h3,h4,h5,h6,h7⟩:=h.ex;exact⟨v2,v3,v4,v5,v6,v7,e,SlR.frz h2,SlR.frz h3,SlR.frz h4,SgR.frz h5,SlR.frz h6,SlR.frz h7⟩
theorem NFR.sub{F:TN.NFab}(h:TN.NFR s cs F)(k:Sub s s'):TN.NFR s' cs F:=by have ⟨v2,v3,v4,v5,v6,v7,e,h2,h3,h4,h5,h6,h7⟩:=h.ex;exact⟨v2,v3,v4,v5,v6,v7,e,h2.sub k,h3.sub k,h4.sub k,h5.sub k,h6.sub k,h7.sub k⟩
def newp(s s':Hq):Hq:=λi=>if s i=none then s' i else none
theorem ol{i:Nat}(h:s i=none):newp s s' i=s' i:=ak h
theorem KE:Sub (newp s s') s':=λi e hi=>by
 unfold newp at hi;split at hi
 ·exact hi
 ·cases hi
theorem Sep.fresh1(z:Sep s l)(k:Sub s s')(hr:Sub r s')(hf:∀i,r i≠none->s i=none):Sep s' (r::l):=
 ⟨λy hy=>by
  rcases mCY hy with e|hy
  ·rw[e];exact hr
  ·exact(z.sub y hy).trans k,aB.2 ⟨λy hy i hi=>dU (z.sub y hy) (hf i hi),z.dj⟩⟩
theorem Sep.newp(z:Sep s l)(k:Sub s s'):Sep s' (RT.newp s s'::l):=z.fresh1 k KE λi hi=>by
 cases q:s i with
 |none=>rfl
 |some x=>exact absurd (show RT.newp s s' i=none from aj (by rw[q];simp)) hi
theorem Sep.rows{n:Nat}{rows:List (List AV)}(z:Sep s l)(k:Sub s s')(h:SlR n s' v rows)(hf:∀b o m c,v=.slc b o m c n->rows≠[]->s b=none):∃nb,SlR n nb v rows/\Sep s' (nb::l):=by
 have ⟨h1,h2⟩:=h;have no:SlR n (λ_=>none) v rows->∃nb,SlR n nb v rows/\Sep s' (nb::l):=λh=>⟨λ_=>none,h,⟨λy hy=>by
  rcases mCY hy with e|hy
  ·rw[e];intro i e hi;cases hi
  ·exact(z.sub y hy).trans k,aB.2 ⟨λy hy i hi=>absurd rfl hi,z.dj⟩⟩⟩
 rcases h2 with⟨e1,e2⟩|⟨b,o,c,e1,e2,e3⟩
 ·exact no ⟨h1,.inl ⟨e1,e2⟩⟩
 ·by_cases hn:rows=[]
  ·exact no ⟨h1,.inr ⟨b,o,c,e1,e2,λq=>absurd hn q⟩⟩
  ·have ⟨t1,el,cs,q1,q2,q3⟩:=e3 hn
   have far:=hf _ _ _ _ e1 hn;exact⟨one b (t1,.cells el cs),⟨h1,.inr ⟨b,o,c,e1,e2,(by grind [bW])⟩⟩,z.fresh k far q1⟩
theorem qXl{n:Nat}{rows:List (List AV)}{t:Hq}(h:SlR n t v rows)(hf:∀b o m c,v=.slc b o m c n->rows≠[]->frz s b=none):SlR n (add s t) v rows/\∀b o m c,v=.slc b o m c n->rows≠[]->s b=none:=by
 have hf':∀b o m c,v=.slc b o m c n->rows≠[]->s b=none:=(by grind [jg])
 have ⟨h1,h2⟩:=h;refine⟨⟨h1,?_⟩,hf'⟩;rcases h2 with h|⟨b,o,c,e1,e2,e3⟩
 ·exact .inl h
 ·exact .inr ⟨b,o,c,e1,e2,(by grind [cC])⟩
theorem i6{c:Nat}{a b:Bool×Blk}:hset (one c a) c b=one c b:=by
 grind [dT,cG,one]
variable{rv0 st:Hq}{p m d f x:Nat}{lf sp:Int}{lv mv uv dv w:AV}{wl:Wb}{L:List LS.Lnk}{X:List Hq}{l:List (Int × AV)}
def W0(de:Int):Nat->DT.Wt:=λ_=>⟨de,false,none,none,0,0⟩
theorem Td{V:Type}{l:List (Int×V)}{k:Int}{v:V}(h:look l k=none):stor l k v=l ++ [(k,v)]:=by unfold stor;rw[h]
theorem KF{wl:Wb}{k:Int}(h:∀q∈wl,(q.1:Int)≠k):look (mW wl) k=none:=by
 grind [look,mW]
theorem WsAt.nil(h:fK rv0 m []){W:Nat->DT.Wt}:WsAt rv0 m [] W:=⟨h,(λq h=>by cases h),(λq h=>by cases h),List.Pairwise.nil⟩
theorem WsAt.snoc{W:Nat->DT.Wt}{k c:Nat}{y:Bool×Blk}(z:WsAt rv0 m wl W)(hk:∀q∈wl,q.1<k)(hc:rv0 c=none)(hw:DT.WtAt (one c y) c false (W k))(hl:(W k).last=none/\(W k).heard=none){b:Bool×Blk}(hm:fK (hset (add (one c y) rv0) m b) m (mW wl ++ [((k:Int),.ptr c 0)])):WsAt (hset (add (one c y) rv0) m b) m (wl ++ [(k,c)]) W:=by
 have hmc:m≠c:=λe=>by
  have ⟨es,c',h1,_⟩:=z.mp
  grind
 have ⟨e0,L0,D0,hy,h2,h3⟩:=hw;rw[bW]at hy;rw[hl.1]at h2;rw[hl.2]at h3;refine⟨by grind [mW],λq hq=>?_,λq hq q' hq' e=>?_,?_⟩;rcases mP hq with hq|hq;have ⟨es,c',h4,_⟩:=z.mp;have ⟨e1,L1,D1,h5,h6,h7⟩:=z.w q hq;have kp:aV (λi=>i=m) rv0 (hset (add (one c y) rv0) m b):=λi e hi hn=>by have h1:i≠c:=λe2=>gR;rw[cG hn,cC (by grind [one])];exact hi
 have hn:∀(b:Nat) (t:Bool) (e:TypeId) (n:Int),rv0 b=some (t,.cells e [n])->¬b=m:=gR;exact⟨e1,L1,D1,kp _ _ h5 (λq=>gR),h6.keep kp hn,h7.keep kp hn⟩;rw[bN]at hq;subst hq;refine⟨e0,L0,D0,?_,?_,?_⟩;rw[cG (λe=>hmc e.symm),cU bW];exact hy;rw[hl.1];exact h2;rw[hl.2];exact h3;have far:∀q∈wl,q.2≠c:=λq hq e=>by
  have ⟨_,_,_,h1,_⟩:=z.w q hq
  grind
 rcases mP hq with hq|hq;rcases mP hq' with hq'|hq';exact z.inj q hq q' hq' e
 grind
 grind
 grind [asc]
theorem KG{n b0:Nat}{cs:List AV}{de:Int}(hde:1<=de/\de<=1000)(h13:cs[13]?=some (Ii de))(hcb:∀t,(∀y∈X,Sub y t)->Hc t b0 52 cs)(hst:st∈X)(hl:SlR 3 st lv (L.map LS.lnR))(hn:n=L.length)(hn2:n<=1000)
  (z:Sep s (pC p x lf sp lv mv m d f false 0 uv dv::rv0::X)) (hw:WsAt rv0 m [] (W0 de)) {k:Nat}{I1:List AV->Hq->Nat->Prop}{m1:Nat}
  (hK:∀s rv0 wl I1 m1,Sep s (pC p x lf sp lv mv m d f false 0 uv dv::rv0::X)->WsAt rv0 m wl (W0 de)->wl.map (·.1)=ownL L x->pu (Pp b0) (Pp p) n n I1 m1 K s) :
  ∃I1:List AV->Hq->Nat->Prop,(∃m,I1 [(Ii 0)] s m)/\∀(f:Env) (s:Hq) (m1:Nat),I1 [f 98] s m1->pu (Pp b0) (Pp p) n (f 98) I1 m1 K s:=by
 refine⟨λys t M=>∃(k:Nat) (rv0:Hq) (wl:Wb),ys=[Ii k]/\k<=n/\M=n-k/\Sep t (pC p x lf sp lv mv m d f false 0 uv dv::rv0::X)/\WsAt rv0 m wl (W0 de)/\wl.map (·.1)=(List.range k).filter (λi:Nat=>owB L (x:Int) (i:Int)),⟨_,0,rv0,[],rfl,oM,rfl,z,hw,rfl⟩,?_⟩;rintro g t M ⟨k,rv0,wl,hy,hk,rfl,z,hw,hwl⟩;simp only[cI,aq]at hy;rw[hy]
 by_cases hlt:k<n
 rotate_left
 have:k=n:=oM;subst this;exact hK t rv0 wl _ _ z hw (by rw[hwl,hn];rfl);have hp:Hc t p 75 (roC (x:Int) (lbk x) lf sp lv mv m d f false 0 uv dv):=z.sub (pC p x lf sp lv mv m d f false 0 uv dv) sI _ _ bW;unfold pu;simp only[bu,ae];rw[aH oM,bD];simp only[bQ,aK,ae,zAY];refine pJ hp (hl.sub (z.sub st (by simp[hst]))) ?_;simp only[cQ,ae];have next:∀rw' wl' t',Sep t' (pC p x lf sp lv mv m d f false 0 uv dv::rw'::X)->WsAt rw' m wl' (W0 de)->wl'.map (·.1)=(List.range (k+1)).filter (λi:Nat=>owB L (x:Int) (i:Int))->yU k (λys t M=>∃(k:Nat) (rv0:Hq) (wl:Wb),ys=[Ii k]/\k<=n/\M=n-k/\Sep t (pC p x lf sp lv mv m d f false 0 uv dv::rv0::X)/\WsAt rv0 m wl (W0 de)/\wl.map (·.1)=(List.range k).filter (λi:Nat=>owB L (x:Int) (i:Int))) (n-k) K t':=by
  intro rw' wl' t' z' w' e';unfold yU;simp only[bg,ae];rw[aT]
  grind
 refine aL (λho=>?_) (λho=>?_)
 ·have ho:owB L (x:Int) (k:Int)=false:=by simpa using ho
  exact next rv0 wl t z hw (by rw[hwl,range_succ,fX];simp[ho])
 have ho:owB L (x:Int) (k:Int)=true:=by simpa using ho
 have hb0:=hcb t λy hy=>z.sub y (by simp[hy]);refine⟨t,.refl t,?_⟩;simp only[au hp,g1Y,g0Y,ae,au hb0,h13];rw[gT];refine DT.New_in (λc t1 k1 hc hw1 _ _=>?_) λh=>absurd hde h;have x0:∀a b:AV,bV (.tup [a,b]) 0=some a:=λ_ _=>rfl;have x1:∀a b:AV,bV (.tup [a,b]) 1=some b:=λ_ _=>rfl;simp only[x0,x1,ae];have hc:t c=none:=jg.1 hc;have ⟨e0,L0,D0,hw2,hw3,hw4⟩:=hw1;have h3:add t t1 c=some (false,.cells e0 [de,(DT.bi false:Int),L0,D0,Ii 0,Ii 0]):=by grind [cC]
 have ⟨t3,ht3⟩:∃t3,t3=add t t1:=⟨_,rfl⟩
 rw[<- ht3]at h3 ⊢;have z3:=z.fresh (by rw[ht3];exact iD) hc h3;have z4:Sep t3 (add (one c (false,.cells e0 [de,(DT.bi false:Int),L0,D0,Ii 0,Ii 0])) rv0::pC p x lf sp lv mv m d f false 0 uv dv::X):=Sep.join (z3.perm (.cons _ (List.Perm.swap _ _ _)));have rc:rv0 c=none:=dU (z.sub rv0 sI) hc;have ⟨es,c',hm,hes⟩:=hw.mp;have hmc:m≠c:=λe=>gR;have hm3:add (one c (false,Blk.cells e0 [de,(DT.bi false:Int),L0,D0,Ii 0,Ii 0])) rv0 m=some (false,.map es c'):=by
  grind [cC,one]
 have hks:∀q∈wl,q.1<k:=λq hq=>by
  have:q.1∈wl.map (·.1):=mem_map_of_mem hq
  grind
 refine fK.put (l:=mW wl) ⟨es,c',z4.sub _ sI _ _ hm3,hes⟩ oM λt4 hm4 u4=>?_;rw[Td ((by grind [KF]))]at hm4;have ⟨es4,c4,hm5,hes4⟩:=hm4;have z5:=Sep.wr1 z4 u4 (by rw[hm3];simp) hm5;have w5:=hw.snoc (k:=k) (b:=(false,.map es4 c4)) hks rc ⟨e0,L0,D0,bW,hw3,hw4⟩ ⟨rfl,rfl⟩ ⟨es4,c4,dT,hes4⟩;have e3:negB true (eqV 0 true (Ii 0) (Ii 0))=some false:=rfl;simp only[e3];exact next _ _ t4 (z5.perm (List.Perm.swap _ _ _)) w5 (by rw[map_append,hwl,range_succ,fX];simp[ho])
variable{rt rd:Hq}{N:Nat}{U:List Bool}
theorem pO{F:TN.NFab}(ok:TN.NFok F):Pln (F.x.lf+F.x.sp) F.L (F.x.lf:Int) (F.x.sp:Int):=by have h1:=ok.x.lf;have h2:=ok.x.sp;have h3:=ok.Ln;refine⟨oM,oM,λy hy=>?_,oM⟩;have ⟨a1,a2,a3⟩:=ok.L.2 y hy;exact⟨oM,oM,oM,oM,oM⟩
theorem FabR.frz{F:TN.FG}(h:TN.FabR s cs F):TN.FabR (frz s) cs F:=by have ⟨v2,v3,v4,v5,v6,v7,e,hL⟩:=h;have ⟨vs,h1,h2,h3⟩:=hL.S;exact⟨v2,v3,v4,v5,v6,v7,e,⟨SlR.frz hL.L,SlR.frz hL.T,SlR.frz hL.B,⟨vs,SlR.frz h1,h2,λi q x a c=>⟨Sl.frz (h3 i q x a c).1,Sl.frz (h3 i q x a c).2⟩⟩,SlR.frz hL.H,SlR.frz hL.G⟩⟩
theorem vB{cs:List AV}{tp:Bool}{e:TypeId}(h:s p=some (tp,.cells e cs))(c2:cs[2]?=some (Ii lf))(c3:cs[3]?=some (Ii sp))(h1:0<=lf/\lf<=32)(h2:0<=sp/\sp<=32)(hK:K (lf+sp:Int) s):wC TP 65 [Pp p] K s:=by
 refine QY ?_;simp only[EV,bQ,ae,aK,au h,zAY,c2,c3,bg]
 grind [aT]
theorem KH{s t t':Hq}(k:Sub t t'):Sub (add s t) (add s t'):=λi e h=>by
 cases q:s i with
 |some y=>rw[cU q]at h ⊢;exact h
 |none=>rw[cC q]at h ⊢;exact k i e h
def newG(de:Int)(L:List LS.Lnk)(M:List Bool):Ro:=⟨W0 de,false,0,0,[],LS.fw (LS.lsB []) L,M⟩
def new0(F:TN.NFab):Ro:=newG (F.x.de:Int) F.L []
theorem KI{M:List Bool}{b0 n:Nat}{de:Int}{I1:List AV->Hq->Nat->Prop}{m1:Nat}{o:Hq}(P:Pln N L lf sp)(hx:x<N)(hn:n=L.length)
  (z:Sep s (pC p x lf sp lv mv m d f false 0 .nilslc .nilslc::rv0 :: [st,rd,rt,o])) (hw:WsAt rv0 m wl (W0 de)) (hwl:wl.map (·.1)=ownL L x) (hl:SlR 3 st lv (L.map LS.lnR)) (hm:MsAt st mv x M) (hd:DbAt rd d N x 0 []) (ht:FB.Tab rt f N x L U (λ_=>FB.Zs))
  (hK:∀p r' s',RoAt N L lf sp x r' p ⟨W0 de,false,0,0,[],LS.fw (LS.lsB []) L,M⟩->Sep s' [r',o]->K (.tup [Pp p,Ii 0]) s') :
  pu (Pp b0) (Pp p) n n I1 m1 K s:=by
 have hp:=z.sub (pC p x lf sp lv mv m d f false 0 .nilslc .nilslc) sI _ _ bW;have hasc:LS.AscF []:=λk r h=>by cases h
 have hvl:(LS.fw (LS.lsB []) L).length=L.length:=by unfold LS.fw;rw[aj (by have:=P.l;omega)];simp
 unfold pu;simp only[bu,ae];rw[aC oM,aR];have main:wC TP 69 [Pp d,lv] (λv_108 s_109=>wC TP 68 [Pp p,v_108] (λv_110 s_111=>K (.tup [Pp p,(Ii 0)]) s_111) s_109) s:=by
  have ⟨md,hd'⟩:=hd;refine LS.uI (lC hd' (z.sub rd sI)) hasc (hl.sub (z.sub st sI)) (by have:=P.l;omega) λv s1 sub1 hv hf=>?_;obtain⟨nb,hnb,hz⟩:∃nb:Hq,Sl nb v ((LS.fw (LS.lsB []) L).map AV.bool)/\Sep s1 (nb::(pC p x lf sp lv mv m d f false 0 .nilslc .nilslc::rv0 :: [st,rd,rt,o])):=by
   rcases hv with⟨e1,e2⟩|⟨b,o',c,e1,e2,e3⟩
   ·exact⟨λ_=>none,.inl ⟨e1,e2⟩,z.fresh1 sub1 (λi e hi=>by cases hi) λi hi=>absurd rfl hi⟩
   ·by_cases hn:(LS.fw (LS.lsB []) L).map AV.bool=[]
    ·exact⟨λ_=>none,.inr ⟨b,o',c,e1,e2,λq=>absurd hn q⟩,z.fresh1 sub1 (λi e hi=>by cases hi) λi hi=>absurd rfl hi⟩
    have ⟨t1,el,cs,q1,q2,q3⟩:=e3 hn;exact⟨one b (t1,.cells el cs),.inr ⟨b,o',c,e1,e2,(by grind [bW])⟩,z.fresh sub1 (hf _ _ _ _ e1) q1⟩
  have z2:=hz.idx [0,1,3,5,2,4,6] dE;have hd2:=(aB.1 z2.dj).1 st sI;have z3:=Sep.take2 z2;refine SH P hx hvl z3 (hl.sub (lD hd2)) (hnb.sub λi e hi=>cU hi) ht λs' st' rt' dv' Bf' z' k zt' ds'=>?_;have z4:Sep s' ([pC p x lf sp lv mv m d f false 0 v dv',st',rv0,rd,rt'] ++ [o]):=z'.idx [0,1,3,4,2,5] dE;have zp:=pairwise_append.1 z4.dj;have k2:=(lD hd2).trans k;refine hK p _ s' ⟨st',rv0,rd,rt',wl,m,d,f,lv,mv,v,dv',uX zp.1,?_⟩ (Sep.joinL z4);exact⟨hl.sub k2,hm.sub k2,(hnb.sub λi e hi=>cU hi).sub k,ds',hw,hwl,⟨md,hd'⟩,⟨Bf',zt'⟩⟩
 simp only[bQ,aK,zAY,au hp,g1Y,g0Y,ae];exact main
theorem vC{F:TN.FG}{M:List Bool}(hv:TN.Valid F)(hz:TN.Sz F)(hS:SgB F)(hF:TN.FabR s cs F)(P:Pln N F.L F.lf F.sp)(hx:x<N)(hM:M≠[]->M.length=F.B.length/\∀i:Nat,M[i]?=some true->MbA F x F.S.length i)
  (hK:∀p r' s',RoAt N F.L F.lf F.sp x r' p (newG F.de F.L M)->Sub s s'->Sub r' s'->(∀i,r' i≠none->s i=none)->K (.tup [Pp p,Ii 0]) s'):wC TP 20 [.agg cs,x] K s:=by
 obtain⟨v2,v3,v4,v5,v6,v7,rfl,hL⟩:=id hF;have ones:=hL.all;have ⟨cs,hcs⟩:∃cs,cs=TN.csG F v2 v3 v4 v5 v6 v7:=⟨_,rfl⟩
 have c0:cs[0]?=some (Ii F.lf):=by rw[hcs];rfl
 have c1:cs[1]?=some (Ii F.sp):=by rw[hcs];rfl
 have c2:cs[2]?=some v2:=by rw[hcs];rfl
 have c13:cs[13]?=some (Ii F.de):=by rw[hcs];rfl
 have clen:cs.length=19:=by rw[hcs];rfl
 rw[<- hcs]at hF ones ⊢;have o0:=hv 0 oM;have o1:=hv 1 oM;have xlf:=o0.lf;have xsp:=o0.sp;have xde:=o1.de;have xL:=P.l;have xN:=P.n;have xS:=P.ls;have xB:=hS.b;refine E5 ⟨ones,aI λb0 s1 hb0 q1 u1=>?_⟩;have k1:=u1.sub hb0;refine aE (bX (n:=19) q1 clen) (TN.zX hv hz (hF.sub k1) (λ_ s4 k4=>?_) λh=>absurd hv h);have y0:∀a b c:AV,bV (.tup [a,b,c]) 0=some a:=λ_ _ _=>rfl;have y1:∀a b c:AV,bV (.tup [a,b,c]) 1=some b:=λ_ _ _=>rfl;have y2:∀a b c:AV,bV (.tup [a,b,c]) 2=some c:=λ_ _ _=>rfl;have e3:negB true (eqV 0 true (Ii 0) (Ii 0))=some false:=rfl;have qb:Hc s4 b0 52 cs:=k4 _ _ q1;have hF4:=hF.sub (k1.trans k4);simp only[y0,y1,y2,e3,ae,bu];rw[aC (show ¬(x:Int)<0 by omega),aR];simp only[aK,zAY,au qb,c0,c1,ae,bg,dQ];rw[aT,aC (show ¬(x:Int) ≥ F.lf+F.sp by omega)];have z4:Sep s4 [s4]:=⟨(by grind [Sub.refl]),sI⟩
 intro m hm;obtain⟨s12,h12,u12,e12⟩:∃s12,s12 m=some (false,.map [] 0)/\Upto m s4 s12/\hset s4 m (false,.map [] 0)=s12:=⟨_,dT,λi hi=>cG hi,rfl⟩
 rw[e12];have z12:=z4.new u12 hm h12;refine aE (a:=[Ii 0,Iw 0,Ii 0,Ii 0,.nilslc,.nilslc,.map m,.nilptr,.nilptr,false,Ii 0,.nilslc,.nilslc]) rfl ⟨rfl,aI λp s15 hp h15 u15=>?_⟩;have z15:=z12.new u15 hp h15;have kb15:=z15.sub s4 sI;have qb15:=kb15 _ _ qb;refine⟨s15,.refl s15,?_⟩;simp only[aK,zAY,au qb15,c0,c1,c2,ae];rw[gT];have hF15:=hF4.sub kb15;have h2':SlR 3 (frz s15) v2 (F.L.map TN.lkC):=by have ⟨a2,a3,a4,a5,a6,a7,e,g2⟩:=hF15;rw[e]at c2;cases c2;exact SlR.frz g2.L
 refine aE (bX (n:=19) qb15 clen) (FB.ud (rows:=F.L.map TN.lkC) h2' gR λw s23 k23 hw23 fw23=>KD (x:=(x:Int)) hS ((FabR.frz hF15).sub k23) λb s26 vs k26 hb26 h26 hvs hms=>?_);have ⟨hwA,fwA⟩:=qXl hw23 fw23;have ⟨A,hA⟩:∃A,A=add s15 s23:=⟨_,rfl⟩
 have kA:Sub s15 A:=by rw[hA];exact iD
 rw[<- hA]at hwA;have ⟨nl,hnl,zA⟩:=z15.rows kA hwA fwA;have ⟨B,hB⟩:∃B,B=add s15 s26:=⟨_,rfl⟩
 have kB:Sub A B:=by rw[hA,hB];exact KH k26
 have n15:=jg.1 (dU k23 hb26);have hbA:A b=none:=by rw[hA,cC n15];exact hb26
 have hbB:Hc B b 25 vs:=by rw[hB,cC n15];exact h26
 rw[<- hB];have ⟨Q,hQ⟩:∃Q,Q=newp A B:=⟨_,rfl⟩
 have zB:=Sep.newp zA kB;rw[<- hQ]at zB;have hQb:Hc Q b 25 vs:=by rw[hQ,ol hbA];exact hbB
 have hQm:∀(i:Nat) w,vs[i]?=some w->∃l,LS.Sli Q w l/\l.length<=72/\(MbA F x F.S.length i->(x:Int)∈l):=λi w hw=>by have ⟨l,a1,a2,a3,a4⟩:=hms i w hw;refine⟨l,Sl.keepB a1 λc hc hne e he=>?_,a2,a3⟩;have c23:=a4 c hc hne;have c15:=jg.1 (dU k23 c23);rw[hQ,ol (by rw[hA,cC c15];exact c23),hB,cC c15];exact he
 have fill:aM [(Ii 0),(Iw 0),(Ii 0),(Ii 0),.nilslc,.nilslc] [(0,1,x),(2,1,F.lf),(3,1,F.sp),(4,1,w),(5,1,.slc b 0 F.B.length (some F.B.length) 1)]=some [Ii x,Iw 0,Ii F.lf,Ii F.sp,w,.slc b 0 F.B.length (some F.B.length) 1]:=by simp only[aM,fZ hwA.one];rfl
 refine aE fill ?_;have hpB:=kB _ _ (kA _ _ h15);refine TN.ve hpB rfl sI (by simp[hwA.one]) λs30 h30 u30=>?_;have h30:Hc s30 p 75 [x,Iw 0,F.lf,F.sp,w,.slc b 0 F.B.length (some F.B.length) 1,.map m,.nilptr,.nilptr,false,Ii 0,.nilslc,.nilslc]:=h30;have z30:=Sep.wr (l1:=[Q,nl]) zB u30 (by rw[bW];simp) h30;rw[i6]at z30;refine pE oM ?_;have x0:∀a b:AV,bV (.tup [a,b]) 0=some a:=λ_ _=>rfl;have x1:∀a b:AV,bV (.tup [a,b]) 1=some b:=λ_ _=>rfl;refine cw h30 sI rfl λs38 h38 u38=>?_;have z38:=Sep.wr (l1:=[Q,nl]) z30 u38 (by rw[bW];simp) h38;rw[i6]at z38;refine vB h38 rfl rfl oM oM ?_;rw[show(F.lf+F.sp)=(N:Int)by omega];refine LS.Ie oM λs44 d md k44 hd hmd hdb=>?_;have hdb:=hdb (λb=>s38 b≠none) λb h=>h;have db44:DbAt (newp s38 s44) d (N) x 0 []:=⟨md,Ja hdb λi e hi hn=>by rw[ol (by cases q:s38 i with|none=>rfl|some y=>exact absurd (by rw[q];simp) hn)];exact hi⟩
 have ⟨rd,hrd⟩:∃rd,rd=newp s38 s44:=⟨_,rfl⟩
 have z44:=Sep.newp z38 k44;rw[<- hrd]at z44 db44;refine cw (k44 _ _ h38) sI rfl λs49 h49 u49=>?_;have z49:=Sep.wr (l1:=[rd,Q,nl]) z44 u49 (by rw[bW];simp) h49;rw[i6]at z49;refine⟨s49,.refl s49,?_⟩;simp only[bQ,aK,zAY,ae,au h49];rw[gT];refine vB (eK h49) rfl rfl oM oM ?_;rw[show(F.lf+F.sp)=(N:Int)by omega,ke];have hl49:=hnl.sub (z49.sub nl sI);have hvld:vld (N:Int) F.L (replicate F.L.length false):=P.vld sI;refine FB.H1 (L:=F.L) hl49 oM (λh=>gR) λN' y' rt s60 f en ey hy _ ht60 k60 sr60 fr60=>?_;obtain rfl:N'=N:=oM;obtain rfl:y'=x:=oM;have z60:=z49.fresh1 k60 sr60 fr60;refine cw (k60 _ _ h49) sI rfl λs65 h65 u65=>?_;have h65:Hc s65 p 75 (roC (y':Int) (lbk y') F.lf F.sp w (.slc b 0 F.B.length (some F.B.length) 1) m d f false 0 .nilslc .nilslc):=h65;have z65:=Sep.wr (l1:=[rt,rd,Q,nl]) z60 u65 (by rw[bW];simp) h65;rw[i6]at z65;simp only[e3,ae,au h65,g1Y,g0Y];have lw:cM w=some F.L.length:=by rw[hnl.len,lMY]
 simp only[lw,ae];have zz:=z65.idx [2,3,4,5,1,0,6] dE;have djb:=(aB.1 zz.dj).1 nl sI;have zj:=Sep.join zz;obtain⟨st,hst⟩:∃st,st=add (Q) nl:=⟨_,rfl⟩
 rw[<- hst]at zj;have zk:=zj.idx [1,2,0,3,4,5] dE;have hlst:SlR 3 st w (F.L.map LS.lnR):=hnl.sub (by rw[hst];exact lD djb);have hmst:MsAt st (.slc b 0 F.B.length (some F.B.length) 1) y' M:=⟨vs,.inr ⟨b,0,some F.B.length,by rw[hvs],(λc h=>by cases h;omega),λ_=>⟨false,25,vs,by rw[hst];exact cU hQb,oM,λi hi=>by rw[zAY]⟩⟩,oM,λhm=>⟨hvs.trans (hM hm).1.symm,λi hi=>?_⟩⟩
 rotate_left
 ·have hlt:i<vs.length:=by
   have:=(gS hi).1;have:=(hM hm).1;omega
  have ⟨l,c1,c2,c3⟩:=hQm i _ (gE hlt);exact⟨_,l,gE hlt,c1.sub (by rw[hst];exact iD),c2,c3 ((hM hm).2 i hi)⟩
 refine KG (n:=F.L.length) (b0:=b0) (cs:=cs) (de:=F.de) (st:=st) (X:=[st,rd,rt,s4]) oM c13 (λt ht=>ht s4 sI _ _ qb) sI hlst rfl oM zk (WsAt.nil ⟨[],0,bW,EsOK.nil⟩) (k:=0) (I1:=λ_ _ _=>True) (m1:=0) λs7 rv0 wl I1 m1 z7 w7 wl7=>?_;refine KI P hx rfl z7 w7 wl7 hlst hmst db44 ht60 λp r' s' hr z'=>?_;have h1:=z'.dj;refine hK p r' s' hr ((k1.trans k4).trans (z'.sub s4 sI)) (z'.sub r' sI) λi hi=>?_;have:=(aB.1 h1).1 s4 sI i hi;exact dU (k1.trans k4) this
theorem KJ{F:TN.NFab}(ok:TN.NFok F):SgB F.toG:=by have h1:=ok.Bn;have h2:=ok.Sn;refine⟨by show(F.B.mapIdx TN.bgN).length<=_;simp;omega,by show(F.S.map _).length<=_;simp;omega,λy hy=>?_⟩;obtain⟨z,hz,rfl⟩:=aG.1 hy;have so:=ok.S z hz;refine⟨λq=>so.2.1 (by simpa [TN.ni]using q),by unfold TN.ni;rw[lMY];exact so.2.2.2.1,by unfold TN.ni;rw[lMY];exact so.2.2.2.2.2.2.2,λn hn=>?_⟩;obtain⟨m,hm,rfl⟩:=TN.AA.1 hn;have:=so.2.2.2.2.2.2.1 m hm;exact⟨oM,by show(m:Int)<((F.B.mapIdx TN.bgN).length:Int);simp;omega⟩
theorem New_in{F:TN.NFab}(ok:TN.NFok F)(hF:TN.NFR s cs F)(hx:x<F.x.lf+F.x.sp)
  (hK:∀p r' s',RoAt (F.x.lf+F.x.sp) F.L (F.x.lf:Int) (F.x.sp:Int) x r' p (new0 F)->Sub s s'->Sub r' s'->(∀i,r' i≠none->s i=none)->K (.tup [Pp p,Ii 0]) s'):wC TP 20 [.agg cs,x] K s:=
 vC (F:=F.toG) (M:=[]) ok.valid ok.sz (KJ ok) (TN.NFR.fab hF) (pO ok) hx (λh=>absurd rfl h) hK
variable{wm:Nat}{a e vn ttl lk:Int}{tk:Bool}{la:Int}{tp:Bool}
theorem vD{n:Nat}(hn:n<32)(hK:K (Iw (4009754625+n)) s):wC TP 14 [n] K s:=by
 have w:∀x:Int,0<=x->x<4294967296->aA.u32.wrap x=x:=λx h1 h2=>TN.w32 h1 h2;have a1:dX .u32 n=some (Iw n):=by
  show some (AV.int .u32 _)=_
  grind [gz]
 have a2:cZ .add (Iw 4009754625) (Iw n)=some (Iw (4009754625+n)):=by
  grind [bg]
 have c1:decide ((n:Int)<0)=false:=aC oM;refine Z2 ?_
 grind [Rd,bu,dQ,aR,cP,E0,ct]
theorem qX1{vs:List AV}{dq:Int}(h:s p=some (tp,.cells 75 (roC (x:Int) (lbk x) lf sp lv mv wm d f tk la uv dv)))(hm:Sl s mv vs)(hl:vs.length<=32)(h1:(∀i:Nat,i<vs.length->dq≠4009754625+(i:Int))->K (.ifc 250 (.agg [Pp p])) s)(h2:∀(j:Nat) w,vs[j]?=some w->dq=4009754625+(j:Int)->w.one=true/\K (.ifc 248 (.agg [Pp p,w])) s):wC TP 71 [Pp p,Iw dq] K s:=by
 refine ZY ?_;unfold Rc;simp only[bQ,aK,zAY,ae,au h,g1Y,g0Y,hm.len];refine⟨λys t M=>∃k:Nat,ys=[Ii k]/\t=s/\k<=vs.length/\M=vs.length-k/\∀i:Nat,i<k->dq≠4009754625+(i:Int),⟨_,0,rfl,rfl,oM,rfl,λi hi=>absurd hi (not_lt_zero i)⟩,?_⟩;rintro g t M ⟨k,hy,rfl,hk,rfl,hno⟩;simp only[cI,aq]at hy;rw[hy];simp only[Rb,bu,ae,aS];refine aL (λhlt=>?_) (λhge=>aE (a:=[Pp p]) rfl (h1 λi hi=>hno i (by have:=oF hge;omega)));have hlt:k<vs.length:=gR;have ⟨q,g1,g2⟩:=hm.get (i:=k) hlt;rw[gE hlt]at g2;simp only[g1,g2,ae];refine vD oM ?_;simp only[cj,bJ,Bool.false_bne,ae];refine aL (λhe=>?_) (λhne=>?_)
 ·have he:(4009754625:Int)+k=dq:=by simpa using he
  have ⟨o1,o2⟩:=h2 k _ (gE hlt) he.symm;exact aE (a:=[Pp p,vs[k]]) (by simp only[aM,fZ o1];rfl) o2
 have hne:(4009754625:Int)+k≠dq:=by simpa using hne
 simp only[bg,ae];rw[aT];refine⟨_,oM,k+1,sI,by trivial,oM,rfl,λi hi=>?_⟩;rcases Nat.lt_succ_iff_lt_or_eq.1 hi with h|rfl
 ·exact hno i h
 ·exact Ne.symm hne
abbrev trip(K:AV->Hq->Prop)(v:AV)(s:Hq):Prop:=oK (bV v 0) λa=>oK (bV v 1) λb=>oK (bV v 2) λc=>K (.tup [a,b,c]) s
theorem vE:∀{l:List AV},aX l=true->∀{i:Nat}{v:AV},v.one=true->aX (l.set i v)=true:=(by grind [FB.HF])
theorem gel{B:List Int}{P:Int->Prop}(h:∀(i:Nat) (hi:i<B.length),P (B[i]-1)){j:Nat}(hj:j<B.length):P (B.getD j 0-1):=by
 grind
theorem vF{Z ps:List AV}{hop:Int}(hz:Z.length=22)(hp:ps.length=21):aM Z [(0,1,hop),(1,21,.agg ps)]=some (Ii hop::ps):=by
 obtain⟨z,Z,rfl⟩:∃z Z',Z=z::Z':=by cases Z with|nil=>cases hz|cons z Z'=>exact⟨z,Z',rfl⟩
 have hZ:Z.length=21:=by simpa using hz
 have s1:dB (z::Z) 0 [hop]=Ii hop::Z:=by simp[dB]
 have s2:dB (hop::Z) 1 ps=Ii hop::ps:=by
  grind [dB]
 have e1:ble (1+ps.length) (Z.length+1)=true:=by rw[ble_eq];omega
 have e2:beq ps.length 21=true:=by rw[hp];rfl
 have e3:ble (0+1) (Z.length+1)=true:=by rw[ble_eq];omega
 have e4:beq 1 1=true:=rfl
 grind [aM,CP,jZ]
theorem fill22b{Z ps:List AV}(hz:Z.length=22)(hp:ps.length=22):aM (repl 1 Z) [(0,22,.agg ps)]=some ps:=by
 have e0:repl 1 Z=Z:=by simp[repl]
 have e1:ble (0+ps.length) Z.length=true:=by rw[ble_eq];omega
 have e2:beq ps.length 22=true:=by rw[hp];rfl
 grind [dB,aM,jZ]
theorem vG{S:Ro}{dq:Int}(P:Pln N L lf sp)(hx:x<N)(k:Sub r s)(z:RoAt N L lf sp x r p S)(hp:FB.Pk a dq e vn cs)(hc:cs[2]?=some (Ii ttl))(ht:-9223372036854775808<=ttl/\ttl<=9223372036854775807)(hdq:0<=dq/\dq<4294967296)(hlk:lk=-1∨owB L (x:Int) lk=true)
  (h1:dq=lbk x->∀s',Sub s s'->K (.tup [.nilslc,true,Ii 0]) s')
  (h2:dq≠lbk x->∀s' e,Sub s s'->(S.M≠[]->∀j:Nat,j<S.M.length->dq≠4009754625+(j:Int))->((e=20/\ttl<2)∨(e=13/\2<=ttl/\∀m∈FB.ndL N (tL L) S.U x,dq≠lbk m))->K (.tup [.nilslc,false,Ii e]) s')
  (h3:∀m,dq≠lbk x->2<=ttl->m∈FB.ndL N (tL L) S.U x->dq=lbk m->∀s' b hop,Sub s s'->s b=none->hop∈FB.nz (FB.lnk N (tL L) S.U x m)->Hc s' b 121 (hop::cs.set 2 (ttl-1:Int))->K (.tup [.slc b 0 1 (some 1) 22,false,Ii 0]) s')
  (h4:(∀j:Nat,j<32->dq≠4009754625+(j:Int))∨((S.M≠[]/\∀b∈S.M,b=true)/\∀(j:Nat) (s1:Hq) (w lv uv:AV) (l:List Int),j<S.M.length->dq=4009754625+(j:Int)->Sub s s1->SlR 3 s1 lv (L.map LS.lnR)->Sl s1 uv (S.U.map AV.bool)->LS.Sli s1 w l->l.length<=72->(x:Int)∈l->wC TP 253 [.agg [lf,sp,lv,uv],x,w,.agg cs,lk] (trip K) s1)):wC TP 23 [Pp p,.agg cs,lk] K s:=by
 have ⟨st,rv0,rd,rt,wl,wm,d,f,lv,mv,uv,dv,zs,pt⟩:=z.ex;have ⟨p1,p2,p3,p4,p5,p6⟩:=id hp;have zs':=zs.more k;have hpb:=zs'.sub (pC p x lf sp lv mv wm d f S.tk S.la uv dv) sI _ _ bW;have kst:=zs'.sub st sI;refine ZW ⟨p2,aI λb0 s1 hb0 q1 u1=>?_⟩;have q1:Hc s1 b0 64 cs:=q1;have k1:=u1.sub hb0;have hp1:=k1 _ _ hpb;refine fk hp1 ?_;simp only[cQ,Bool.not_true,ae,aR,cj,bJ,Bool.true_bne];have z0:∀a b c:AV,bV (.tup [a,b,c]) 0=some a:=λ_ _ _=>rfl;have z1:∀a b c:AV,bV (.tup [a,b,c]) 1=some b:=λ_ _ _=>rfl;have z2:∀a b c:AV,bV (.tup [a,b,c]) 2=some c:=λ_ _ _=>rfl;have main:∀t14 t20:AV,cW t14 t20 false=some false->yQ (Pp p) lk (Pp b0) t14 t20 K s1:=by
  intro c1 c2 he;unfold yQ;simp only[he];have ⟨ms,hms,hml,hmM⟩:=pt.m;refine⟨s1,.refl s1,?_⟩;simp only[aK,zAY,ae,au q1,p4];rw[gT];refine aE (bX (n:=21) q1 p1) (qX1 (eK hp1) (RT.Sl.frz (hms.sub (kst.trans k1))) hml (λhno=>?_) λj w hw hj=>?_)
  rotate_left
  ·rcases h4 with h4|⟨⟨hM,hall⟩,h4⟩
   ·exact absurd hj (h4 j (by have:=(gS hw).1;omega))
   have ⟨hlen,hrow⟩:=hmM hM;have hjl:j<S.M.length:=by have:=(gS hw).1;omega
   have ⟨w',l,e1,e2,e3,e4⟩:=hrow j (by rw[gE hjl,hall _ (aN hjl)]);rw[hw]at e1;cases e1;refine⟨e2.one,?_⟩;rw[ke];refine xm (f:=252) kR kR ?_;have ow:aX [Pp p,w]=true:=by rw[dh,dh,e2.one];rfl
   refine N_ ⟨ow,aI λc0 s2 hc0 w2 u2=>⟨p2,aI λc2 s3 hc2 w3 u3=>?_⟩⟩;have w2:Hc s2 c0 248 [Pp p,w]:=w2;have k2:=u2.sub hc0;have k3:=u3.sub hc2;have hp3:=k3 _ _ (k2 _ _ hp1);have k13:=k1.trans (k2.trans k3);have w2':=k3 _ _ w2;simp only[aK,zAY,ae,au w2',g0Y,bQ,au hp3,g1Y];refine aE (a:=[lf,sp,lv,uv]) (by simp only[aM,fZ pt.l.one,fZ pt.u.one];rfl) (aI λc4 s4 hc4 w4 u4=>cD w4 rfl rfl (by rw[dh,dh,dh,dh,pt.l.one,pt.u.one];rfl) λs5 w5 u5=>aE (bX (n:=4) w5 rfl) ?_);have k5:Sub s3 s5:=λi e hi=>by have hne:=dZ hc4 hi;rw[u5 i hne,u4 i hne];exact hi
   simp only[ae,au (k5 _ _ w2'),g0Y,au (k5 _ _ hp3),g1Y];have kk:=k13.trans k5;exact aE (bX (n:=21) (k5 _ _ w3) p1) (h4 j s5 w lv uv l hjl hj kk (pt.l.sub (kst.trans kk)) (pt.u.sub (kst.trans kk)) (e2.sub (kst.trans kk)) e3 e4)
  rw[ke];refine xm (f:=264) kR kR ?_;refine Z1 ⟨rfl,aI λc0 s2 hc0 w2 u2=>⟨p2,aI λc2 s3 hc2 w3 u3=>?_⟩⟩;have w2:Hc s2 c0 250 [Pp p]:=w2;have w3:Hc s3 c2 64 cs:=w3;have k2:=u2.sub hc0;have k3:=u3.sub hc2;have hp3:=k3 _ _ (k2 _ _ hp1);have k13:=k1.trans (k2.trans k3);simp only[aK,zAY,ae,au w3,p4,au (k3 _ _ w2),g0Y,bQ,au hp3,g1Y,cj,bJ,Bool.false_bne];refine aL (λhxe=>?_) (λhxe=>?_)
  ·simp only[z0,z1,z2,ae]
   exact h1 (by simpa using hxe) _ k13
  ·have hxe:dq≠lbk x:=by simpa using hxe
   have ⟨Bf,zt⟩:=pt.tb;have zf:=zt.rd.sub ((zs'.sub rt sI).trans k13);refine aE (bX (n:=21) w3 p1) ?_;have hN:=P.n;refine FB.qXs zf hN.2 hN.1 (by rw[lMY];have:=P.l;omega) hp hc ht hdq λs20 res k20 hfw=>?_;have key:∃hop ps e,res=.tup [Ii hop,.agg ps,Ii e]/\ps.length=21/\aX ps=true/\(((e=20/\ttl<2)∨(e=13/\2<=ttl/\∀m∈FB.ndL N (tL L) S.U x,dq≠lbk m))∨∃m,e=0/\ps=cs.set 2 (ttl-1:Int)/\2<=ttl/\m∈FB.ndL N (tL L) S.U x/\dq=lbk m/\hop∈FB.nz (FB.lnk N (tL L) S.U x m)):=by
    cases hfw with
    |at_ h=>exact absurd h hxe
    |time _ h=>exact⟨_,_,_,rfl,rfl,rfl,.inl (.inl ⟨rfl,h⟩)⟩
    |down _ g h=>exact⟨_,_,_,rfl,rfl,rfl,.inl (.inr ⟨rfl,g,h⟩)⟩
    | go m _ h2 h3 h4=>
      refine⟨_,_,_,rfl,gR,vE p2 rfl,.inr ⟨m,rfl,rfl,h2,h3,h4,?_⟩⟩;have ⟨n1,n2⟩:=FB.jH.1 h3;have g:=zt.el m n1;have hlen:=zt.len m;have ne:FB.nz (FB.lnk N (L.map toL) S.U x m)≠[]:=by simp_all [FB.nz]
      refine gel (λi hi=>g.elt ne _ (aN hi)) ?_;omega
   obtain⟨hop,ps,er,rfl,l21,o21,hcase⟩:=key;simp only[z0,z1,z2,ae];refine aI λd0 s27 n25 w25' u25'=>?_;have k27:=(k13.trans k20).trans (u25'.sub n25);refine cD w25' (by rw[l21];rfl) rfl o21 λs26 w26 u26=>?_;have hd0s:=dU (k13.trans k20) n25;have k26:Sub s s26:=λi e hi=>by rw[u26 i (dZ hd0s hi)];exact k27 i e hi
   have e3:negB true (eqV 0 true er (Ii 0))=some (.bool (!(er == 0))):=by simp_all
   rw[e3,cP];rcases hcase with hw|⟨m,rfl,rfl,ht2,hin,hdm,hhop⟩
   ·rw[show(!(er == 0))=true by rcases hw with⟨rfl,_⟩|⟨rfl,_⟩<;>rfl,bD]
    exact h2 hxe s26 er k26 (λhM j hj=>hno j (by rw[(hmM hM).1];exact hj)) hw
   refine aE (bX (n:=21) w26 l21) (aE (vF rfl l21) (aE (fill22b rfl gR) ⟨by simp_all,aI λd1 s32 hd1 w32 u32=>?_⟩));exact h3 m hxe ht2 hin hdm s32 d1 hop (k26.trans (u32.sub hd1)) (dU k26 hd1) hhop w32
 refine aL (λhne=>?_) (λheq=>?_);rcases hlk with e|e
 grind
 rw[show(lk == -1)=false from by simpa using hne];refine pJ hp1 (pt.l.sub (kst.trans k1)) ?_;rw[e];simp only[cQ,Bool.not_true,ae];exact main _ _ rfl
 simp_all
end Go.AM.RT
namespace Go.AM.TG
open Go Go.Proofs List Nat
set_option maxRecDepth 100000
variable{K:AV→Hq→Prop}{s:Hq}
theorem wu64(n:Int):dw .u64 n=n % 18446744073709551616:=by rw[kj];simp[aA.bits,aA.signed]<;>omega
theorem wu64n{n:Nat}(h:n<18446744073709551616):dw .u64 (n:Int)=n:=by grind [wu64]
theorem KL{j:Nat}(hj:j<64):2^j<18446744073709551616:=by have:2^j<2^64:=Nat.pow_lt_pow_right oM hj;exact this
theorem om{i:Nat}(hi:i<128):cZ .quo i (Ii 64)=some (Ii ((i / 64:Nat))):=by
 grind [xi,aT]
theorem oo{i:Nat}:cZ .rem i (Ii 64)=some (Ii ((i % 64:Nat))):=by
 grind [na]
theorem KM{w m:Nat}(hm:m<=64):fN .shr (Iq w) m=some (Iq ((w / 2^m:Nat))):=by show frc ((w:Int).fdiv ((2^(min m (aA.bits .u64)):Nat):Int)) (λn=>some (AV.int .u64 n))=_;rw[eQ,Nat.min_eq_left (show m<=aA.bits .u64 from hm),Int.fdiv_eq_ediv_of_nonneg _ (Int.natCast_nonneg _),<- Int.natCast_ediv]
theorem vH{m:Nat}(hm:m<64):fN .shl (Iq 1) m=some (Iq ((2^m:Nat))):=by show frc (dw .u64 (1*((2^(min m (aA.bits .u64)):Nat):Int))) (λn=>some (AV.int .u64 n))=_;rw[eQ,Nat.min_eq_left (show m<=aA.bits .u64 from Nat.le_of_lt hm),Int.one_mul,wu64n (KL hm)]
theorem AC{w:Nat}(i:Nat):(BitVec.ofInt 64 (w:Int)).getLsbD i=(decide (i<64)&&w.testBit i):=by rw[BitVec.ofInt_natCast,BitVec.getLsbD_ofNat]
theorem vI{w j:Nat}(hw:w<18446744073709551616)(hj:64<=j):w.testBit j=false:=testBit_lt_two_pow (Nat.lt_of_lt_of_le hw (Nat.pow_le_pow_right (n:=2) oM hj))
theorem KN{w:Nat}(hw:w<18446744073709551616):cZ .and (Iq w) (Iq 1)=some (Iq ((w % 2:Nat))):=by
 have e:(BitVec.ofInt (aA.bits .u64) (w:Int) &&& BitVec.ofInt (aA.bits .u64) 1).toNat=w % 2:=by
  show(BitVec.ofInt 64 (w:Int) &&& BitVec.ofInt 64 ((1:Nat):Int)).toNat=w % 2
  grind
 have:w % 2<2:=mod_lt _ oM;simp only[cZ,arith,eQ,e,wu64n (show w % 2<18446744073709551616 by omega)];rfl
theorem or64{w m:Nat}(hw:w<18446744073709551616)(hm:m<64):∃v:Nat,cZ .or (Iq w) (Iq ((2^m:Nat)))=some (Iq v)/\v<18446744073709551616/\∀j,v.testBit j=if j=m then true else w.testBit j:=by
 refine⟨(BitVec.ofInt 64 (w:Int) |||BitVec.ofInt 64 ((2^m:Nat):Int)).toNat,?_,BitVec.isLt _,λj=>?_⟩;have:=(BitVec.ofInt 64 (w:Int) |||BitVec.ofInt 64 ((2^m:Nat):Int)).isLt;have e:=wu64n this;simp only[cZ,arith,eQ];rw[show aA.bits .u64=64 from rfl,e];rfl;rw[BitVec.testBit_toNat,BitVec.getLsbD_or,AC,AC,testBit_two_pow]
 by_cases e:j=m
 subst e;simp[hm]
 by_cases h:j<64
 simp[e,h,Ne.symm e];simp[e,h,vI hw (show 64<=j by omega)]
theorem KO{w m:Nat}(hw:w<18446744073709551616)(hm:m<64):∃v:Nat,cZ .andNot (Iq w) (Iq ((2^m:Nat)))=some (Iq v)/\v<18446744073709551616/\∀j,v.testBit j=if j=m then false else w.testBit j:=by
 refine⟨(BitVec.ofInt 64 (w:Int) &&& ~~~(BitVec.ofInt 64 ((2^m:Nat):Int))).toNat,?_,BitVec.isLt _,λj=>?_⟩;have:=(BitVec.ofInt 64 (w:Int) &&& ~~~(BitVec.ofInt 64 ((2^m:Nat):Int))).isLt;have e:=wu64n this;simp only[cZ,arith,eQ];rw[show aA.bits .u64=64 from rfl,e];rfl;rw[BitVec.testBit_toNat,BitVec.getLsbD_and,BitVec.getLsbD_not,AC,AC,testBit_two_pow]
 by_cases e:j=m
 subst e;simp[hm]
 by_cases h:j<64
 simp[e,h,Ne.symm e];simp[e,h,vI hw (show 64<=j by omega)]
theorem iA2{g o i:Nat}(hi:i<128):fj 2 1 (.ptr g o) ((i / 64:Nat):Int)=some (.ptr g (o+i / 64)):=by
 have:blt (i / 64) 2=true:=by rw[bZ];omega
 generalize i / 64=k at *;simp[fj,this]
theorem vv{g o i w:Nat}(hi:i<128)(hr:rd1 s (.ptr g (o+i / 64))=some (Iq w))(hw:w<18446744073709551616)(hK:K (w.testBit (i % 64)) s):wC TP 89 [.ptr g o,i] K s:=by
 refine Xy ?_;have hd:w / 2^(i % 64)<18446744073709551616:=Nat.lt_of_le_of_lt (div_le_self _ _) hw;have e:(!(((w / 2^(i % 64) % 2:Nat):Int) == 0))=w.testBit (i % 64):=by
  grind
 simp only[PR,om hi,oo,bQ,iA2 hi,hr,KM (show i % 64<=64 by omega),KN hd,cj,bJ,Bool.true_bne,e,ae];exact hK
theorem pF{g o i w:Nat}{e:TypeId}{cs:List AV}{b:Bool}(hi:i<128)(hg:Hc s g e cs)(hc:cs[o+i / 64]?=some (Iq w))(hw:w<18446744073709551616)
  (hK:∀(s':Hq) (v:Nat),Hc s' g e (cs.set (o+i / 64) (Iq v))->v<18446744073709551616->(∀j,v.testBit j=if j=i % 64 then b else w.testBit j)->Upto g s s'->K (.tup []) s'):wC TP 126 [.ptr g o,i,b] K s:=by
 refine Xw ?_;have hlt:o+i / 64<cs.length:=(gS hc).1;have hr:rd1 s (.ptr g (o+i / 64))=some (Iq w):=by rw[au hg];exact hc
 cases b with
 | true=>
   have ⟨v,h1,h2,h3⟩:=or64 hw (show i % 64<64 by omega);simp only[Eu,bD,om hi,oo,bQ,iA2 hi,hr,vH (show i % 64<64 by omega),h1,ae];exact cw hg hlt rfl λs' h4 u4=>hK s' v h4 h2 h3 u4
 | false=>
   have ⟨v,h1,h2,h3⟩:=KO hw (show i % 64<64 by omega);simp only[Eu,aR,om hi,oo,bQ,iA2 hi,hr,vH (show i % 64<64 by omega),h1,ae];exact cw hg hlt rfl λs' h4 u4=>hK s' v h4 h2 h3 u4
variable{s':Hq}{t:Bool}{g:Nat}{lv:AV}{N:Nat}{lu nu:Nat→Bool}
abbrev Lk:=Int×Int×Int
def lkR(l:Lk):List AV:=[l.1,l.2.1,l.2.2]
def Wd(a b:Nat)(f:Nat->Bool):Prop:=a<18446744073709551616/\b<18446744073709551616/\∀j,j<64->a.testBit j=f j/\b.testBit j=f (64+j)
abbrev gc(N:Nat)(lv:AV)(a b c d:Nat):List AV:=[N,lv,Iq a,Iq b,Iq c,Iq d]
structure LOk(N:Nat)(L:List Lk):Prop where
 nn:1<=N/\N<=32
 ll:L.length<=128
 ok:∀x∈L,(0<=x.1/\x.1<N)/\(0<=x.2.1/\x.2.1<N)/\x.1≠x.2.1/\1<=x.2.2/\x.2.2<=1000
structure GRd(t:Bool)(s:Hq)(g:Nat)(lv:AV)(N:Nat)(L:List Lk)(lu nu:Nat->Bool):Prop where
 cell:∃a b c d:Nat,s g=some (t,.cells 200 (gc N lv a b c d))/\Wd a b lu/\Wd c d nu
 ls:SlR 3 s lv (L.map lkR)
 lok:LOk N L
variable{L:List Lk}
theorem GRd.sub(h:GRd t s g lv N L lu nu)(hs:Sub s s'):GRd t s' g lv N L lu nu:=by have ⟨⟨a,b,c,d,h1,h2⟩,h3,h4⟩:=h;exact⟨⟨a,b,c,d,hs _ _ h1,h2⟩,h3.sub hs,h4⟩
theorem GRd.lenL(h:GRd t s g lv N L lu nu):cM lv=some L.length:=by rw[h.ls.len,lMY]
theorem Wd.bit{a b i:Nat}{f:Nat->Bool}(h:Wd a b f)(hi:i<128):∃w,(i / 64=0/\w=a∨i / 64=1/\w=b)/\w<18446744073709551616/\w.testBit (i % 64)=f i:=by rcases(show i / 64=0∨i / 64=1 by omega)with e|e;refine⟨a,.inl ⟨e,rfl⟩,h.1,?_⟩;rw[(h.2.2 (i % 64) oM).1,show i % 64=i by omega];refine⟨b,.inr ⟨e,rfl⟩,h.2.1,?_⟩;rw[(h.2.2 (i % 64) oM).2,show 64+i % 64=i by omega]
theorem GRd.lbit(h:GRd t s g lv N L lu nu){i:Nat}(hi:i<128):∃w:Nat,rd1 s (.ptr g (2+i / 64))=some (Iq w)/\w<18446744073709551616/\w.testBit (i % 64)=lu i:=by
 have ⟨a,b,c,d,h1,h2,h3⟩:=h.cell;have ⟨w,hw,h4,h5⟩:=h2.bit hi;refine⟨w,?_,h4,h5⟩;rw[au h1]
 grind
theorem GRd.nbit(h:GRd t s g lv N L lu nu){i:Nat}(hi:i<128):∃w:Nat,rd1 s (.ptr g (4+i / 64))=some (Iq w)/\w<18446744073709551616/\w.testBit (i % 64)=nu i:=by
 have ⟨a,b,c,d,h1,h2,h3⟩:=h.cell;have ⟨w,hw,h4,h5⟩:=h3.bit hi;refine⟨w,?_,h4,h5⟩;rw[au h1]
 grind
theorem GRd.r0(h:GRd t s g lv N L lu nu):rd1 s (Pp g)=some (Ii N):=by have ⟨a,b,c,d,h1,_⟩:=h.cell;rw[au h1];rfl
theorem GRd.r1(h:GRd t s g lv N L lu nu):rd1 s (.ptr g 1)=some lv:=by have ⟨a,b,c,d,h1,_⟩:=h.cell;rw[au h1];rfl
theorem fk(h:GRd t s g lv N L lu nu)(hK:K true s):wC TP 88 [Pp g] K s:=by
 refine Xx ?_;have hp:decide ((0:Int)<(N:Int))=true:=by have:=h.lok.nn;grind
 simp only[PQ,nc,bJ,Bool.bne_false,ae,bD,bQ,aK,zAY,h.r0,dy,hp,Ev,cy];exact hK
def upB(L:List Lk)(lu nu:Nat->Bool)(i:Nat):Bool:=match L[i]? with
 |some x=>lu i&&(nu x.1.toNat&&nu x.2.1.toNat)
 |none=>false
def upI(L:List Lk)(lu nu:Nat->Bool)(i:Int):Bool:=decide (0<=i)&&upB L lu nu i.toNat
def aliveI(N:Nat)(nu:Nat->Bool)(n:Int):Bool:=decide (0<=n/\n<N)&&nu n.toNat
theorem upB_get{i:Nat}(hi:i<L.length):upB L lu nu i=(lu i&&(nu L[i].1.toNat&&nu L[i].2.1.toNat)):=by
 grind [upB]
theorem vJ{v:AV}{M:List Lk}(h:SlR 3 s v (M.map lkR)){i:Nat}(hi:i<M.length):∃b o,cF 3 v i=some (.ptr b o)/\rdN s 3 (.ptr b o)=some (lkR M[i])/\∀j,j<3->rd1 s (.ptr b (o+j))=(lkR M[i])[j]?:=h.get (i:=i) (r:=lkR M[i]) (by simp[hi])
theorem KP(h:GRd t s g lv N L lu nu){x:Int}(hx:0<=x/\x<N)(hK:K (nu x.toNat) s):wC TP 89 [.ptr g 4,x] K s:=by
 have hn:=h.lok.nn;obtain⟨n,rfl⟩:∃n:Nat,x=n:=⟨x.toNat,oM⟩
 have ⟨w,h1,h2,h3⟩:=h.nbit (i:=n) oM;rw[Int.toNat_natCast]at hK
 grind [vv]
theorem Up_in{i:Int}(h:GRd t s g lv N L lu nu)(hK:∀s',Sub s s'->K (upI L lu nu i) s'):wC TP 86 [Pp g,i] K s:=by
 refine Xo (fk h ?_);have hll:=h.lok.ll;simp only[cQ,Bool.not_true,ae,aR,bu,Es]
 by_cases hn:i<0
 ·have e:upI L lu nu i=false:=by grind [upI]
  simp_all [yn,Sub.refl,ae]
 obtain⟨k,rfl⟩:∃k:Nat,i=k:=⟨i.toNat,oM⟩
 have e:upI L lu nu (k:Int)=upB L lu nu k:=by grind [upI]
 rw[e]at hK;simp only[aC hn,ct,ae,aR,bQ,aK,zAY,h.r1,h.lenL,dQ,yn]
 by_cases hk:(L.length:Int)<=(k:Int)
 ·have e2:upB L lu nu k=false:=by grind [upB]
  rw[e2]at hK;simp only[aH hk,bD];exact hK s (.refl s)
 have hk':k<L.length:=oM;have ⟨b,o,g1,g2,_⟩:=vJ h.ls hk';have ⟨hA,hB,_⟩:=h.lok.ok _ (aN hk');simp only[aC hk,aR,g1,g2,ae];refine aI λc s1 hc h1 u1=>cD h1 rfl rfl rfl λs2 h2 u2=>?_;have sub2:Sub s s2:=(u1.sub hc).upto u2 hc;have h2:Hc s2 c 145 (lkR L[k]):=h2;have z2:=h.sub sub2;have ⟨w,l1,l2,l3⟩:=z2.lbit (i:=k) oM;refine vv oM l1 l2 ?_;rw[l3];rw[upB_get hk']at hK;have hK:=hK s2 sub2;have e0:(lkR L[k])[0]?=some (Ii L[k].1):=rfl;have e1:(lkR L[k])[1]?=some (Ii L[k].2.1):=rfl;cases hlu:lu k with
 | false=>
   simp_all [ym,sY,ae]
 | true=>
   rw[hlu]at hK;simp only[bD,au h2,e0,ae];refine KP z2 hA ?_;simp only[ym,cy,ae];cases hna:nu L[k].1.toNat with
   | false=>
     simp_all [sY,ae]
   | true=>
     rw[hna]at hK;simp only[bD,bQ,aK,zAY,au h2,e1,ae]
     grind [KP,sY,cy,cP]
theorem Alive_in{n:Int}(h:GRd t s g lv N L lu nu)(hK:K (aliveI N nu n) s):wC TP 35 [Pp g,n] K s:=by
 refine Xq (fk h ?_);simp only[bD,dQ,ae,Et,cy]
 by_cases h0:0<=n
 ·simp only[aH h0,bD,bQ,aK,zAY,h.r0,bu,ae,yo,cy]
  by_cases h1:n<(N:Int)
  ·have e:aliveI N nu n=nu n.toNat:=by grind [aliveI]
   grind [bD,cP,KP,sZ,cy]
  ·have e:aliveI N nu n=false:=by grind [aliveI]
   rw[e]at hK;simp only[aC h1,aR,sZ,ct,ae];exact hK
 ·have e:aliveI N nu n=false:=by grind [aliveI]
  rw[e]at hK
  grind [aR,yo,ct,sZ,cP]
theorem ud{v:AV}{M:List Lk}(h:SlR 3 s v (M.map lkR))(hl:M.length<=100000)(hK:∀v' s',Sub s s'->SlR 3 s' v' (M.map lkR)->(∀b o n c,v'=.slc b o n c 3->M≠[]->s b=none)->K v' s'):wC TP 62 [v] K s:=by
 refine PP ?_;have cases0:(v=.nilslc/\M=[])∨∃b o c,v=.slc b o M.length c 3:=by
  rcases h.2 with⟨a,b⟩|⟨b,o,c,a,_⟩;exact .inl ⟨a,by simpa using b⟩
  grind
 rcases cases0 with⟨rfl,rfl⟩|⟨b,o,c,rfl⟩
 grind [te,ng,bJ,cP,bD,Sub.refl]
 ·simp only[te,kY,bJ,Bool.false_bne,ae,aR]
  refine aE (a:=[]) rfl ⟨rfl,aI λd s1 hd h1 u1=>?_⟩;refine Oc (h.sub (u1.sub hd)) gR λv' s2 sub2 sl2 f2=>hK _ _ ((u1.sub hd).trans sub2) sl2 λb o n c e hne=>?_;have h3:=f2 b o n c e (by simpa using hne);cases q:s b with
  |none=>rfl
  |some x=>rw[u1.sub hd b x q]at h3;cases h3
end Go.AM.TG
