/- Part H of the proof: see the last part. -/
import Derived.Test.YtcmcofklcgafiaaGreatG
set_option linter.unusedVariables false
set_option maxRecDepth 100000
namespace Go.AM.TN
open Go Go.Proofs List Nat
variable{K:AV→Hq→Prop}{s s' s0:Hq}{v k:AV}{b mb rb:Nat}{U:AV→Prop}
theorem rC{k:IntKind}{n:Int}{p:Prop}:intK (.int k n) p=p:=id rfl
theorem RP.putU{ks:List AV}{i:Nat}{k:AV}{b:Bool}(h:RP U s0 s mb rb ks i)(hk:ks[i]?=some k)(hb:b=true↔k∈ks.take i){J:Hq->Prop}
  (hJ:∀(s':Hq) (bs:List Bool),SM U s' mb (ks.take i)->Sub s0 s'->Hc s' rb 4 (bs.map AV.bool)->bs.length=ks.length->(∀(j:Nat) b,j<i+1->bs[j]?=some b->(b=true↔∃k,ks[j]?=some k/\k∈ks.take j))->Upto rb s s'->J s') :
  oK (ba 1 (.slc rb 0 ks.length (some ks.length) 1) i) λp=>oK (wr1 s p b) J:=by
 obtain⟨bs,h1,h2,h3⟩:=h.arr;have hi:i<ks.length:=(gS hk).1;have e1:ba 1 (.slc rb 0 ks.length (some ks.length) 1) i=some (.ptr rb i):=by
  have:blt i ks.length=true:=by rw[blt_eq];exact hi
  simp[ba,this]
 rw[e1];simp only[ae];refine aT h1 (by simp;omega) rfl λs' h4 u4=>?_;refine hJ s' (bs.set i b) (h.map.upto u4 h.ne) (bQ h.keep u4 h.nr) (by rw[h4,map_set]) (by simp[h2]) (λj b' hj hb'=>?_) u4
 by_cases e:i=j
 ·subst e
  rw[getElem?_set_self oM]at hb';cases hb';exact hb.trans ⟨λq=>⟨k,hk,q⟩,λ⟨k',q1,q2⟩=>by rw[hk]at q1;cases q1;exact q2⟩
 rw[getElem?_set_ne e]at hb';exact h3 j b' oM hb'
theorem ii{es ty n:Nat}{z:List AV}(hok:∀{l k:AV}{K:AV->Hq->Prop}{s:Hq},ur es ty z l k K s->wC TP n [l,k] K s)(hz:z.length=es){A:Type}{rows:List A}{rowC:A->List AV}(hl:∀x,(rowC x).length=es)(ho:∀x,aD (rowC x)=true){key1:AV}{kf:A->Int}(hkey:∀(x:A) (s:Hq) (J:AV->Hq->Prop),(∀s',Sub s s'->J (AV.int .u32 (kf x)) s')->funK TP key1 [.agg (rowC x)] J s)(hv:SlR es s v (rows.map rowC))(hn:rows.length<=4294967296)(hK:∀s' r,Sub s s'->RepR s' r (rows.map λx=>AV.int .u32 (kf x))->K r s'):wC TP n [v,key1] K s:=by
 refine hok ?_;unfold ur aK;have hlen:bp v=some rows.length:=by rw[hv.len,lMY]
 have hkl0:(rows.map λx=>AV.int .u32 (kf x)).length=rows.length:=lMY _;rw[hlen];simp only[ae];rw[rC];intro mb hmb;simp only[nat?_mk,ae];refine⟨⟨Nat.le_refl _,hn⟩,an λrb s9 hrb h9 u9=>?_⟩;have k3:Sub s (hset s mb (false,.map [] 0)):=gy hmb;have hne:mb≠rb:=λe=>by rw[<- e,cK]at hrb;cases hrb
 have hsrb:s rb=none:=by rw[cE (Ne.symm hne)]at hrb;exact hrb
 have hm9:s9 mb=some (false,.map [] 0):=by rw[u9 _ hne,cK]
 have rp0:RP jQ s s9 mb rb (rows.map λx=>AV.int .u32 (kf x)) 0:=.start hmb hsrb hne (k3.trans (u9.sub hrb)) hm9 (by rw[hkl0];exact h9);refine⟨λys t m=>∃i:Nat,ys=[Ii i]/\i<=rows.length/\m=rows.length-i/\RP jQ s t mb rb (rows.map λx=>AV.int .u32 (kf x)) i,⟨_,0,rfl,oM,rfl,rp0⟩,?_⟩;rintro f t m ⟨i,hy,hi,rfl,rp⟩;simp only[cI,and_true]at hy;rw[hy];simp only[LB,aH,ae,aA];refine au (λhlt=>?_) (λhge=>?_)
 rotate_left
 have hge:i=rows.length:=by have:=oF hge;omega
 subst hge;have:=RP.done (by rw[hkl0];exact rp);rw[hkl0]at this;exact hK t _ rp.keep this;have hlt:i<rows.length:=by have:=oT hlt;omega
 have hx:rows[i]?=some rows[i]:=gE hlt;generalize rows[i]=x at hx;have ⟨pb,po,e1,e2,_⟩:=(hv.sub rp.keep).get (i:=i) (r:=rowC x) (by rw[getElem?_map,hx];rfl);have hkx:(rows.map λx=>AV.int .u32 (kf x))[i]?=some (AV.int .u32 (kf x)):=by rw[getElem?_map,hx];rfl
 rw[e1];simp only[ae,e2];refine an λb15 s16 hb15 h16 u16=>aZ h16 (by rw[hl x,hz]) hz (ho x) λs17 h17 u17=>am (aQ h17 (hl x)) ?_;have k17:Sub t s17:=bQ (u16.sub hb15) u17 hb15;refine hkey x s17 _ λs20 k20=>?_;have rp20:=rp.sub (k17.trans k20);refine rp20.map.getM λr b hr hb=>?_;rw[hr];rw[<- hkl0];refine rp20.put hkx hb λs23 bs sm23 k23 h23 hbl hbs=>?_;refine sm23.putM λs24 sm24 u24=>?_;have rp24:RP jQ s s24 mb rb (rows.map λx=>AV.int .u32 (kf x)) (i+1):=⟨bQ k23 u24 hmb,hmb,hsrb,hne,by rw[take_add_one,hkx];exact sm24,bs,by rw[u24 _ (Ne.symm hne)];exact h23,hbl,hbs⟩
 simp only[aJ,ae];rw[aC];exact⟨_,oM,i+1,rfl,oM,rfl,rp24⟩
theorem ij{es ty kn kt n:Nat}{z kz:List AV}(hok:∀{l k:AV}{K:AV->Hq->Prop}{s:Hq},oG es ty z kn kt kz l k K s->wC TP n [l,k] K s)(hz:z.length=es)(hkz:kz.length=kn){A:Type}{rows:List A}{rowC:A->List AV}(hl:∀x,(rowC x).length=es)(ho:∀x,aD (rowC x)=true){key1:AV}{kf:A->List AV}{U:AV->Prop}(hT:KT TP kt U)(hU:∀x,U (.agg (kf x)))(hkl:∀x,(kf x).length=kn)(hko:∀x,aD (kf x)=true)(hkey:∀(x:A) (s:Hq) (J:AV->Hq->Prop),(∀s',Sub s s'->J (AV.agg (kf x)) s')->funK TP key1 [.agg (rowC x)] J s)(hv:SlR es s v (rows.map rowC))(hn:rows.length<=4294967296)(hK:∀s' r,Sub s s'->RepR s' r (rows.map λx=>AV.agg (kf x))->K r s'):wC TP n [v,key1] K s:=by
 refine hok ?_;unfold oG aK;have hlen:bp v=some rows.length:=by rw[hv.len,lMY]
 have hkl0:(rows.map λx=>AV.agg (kf x)).length=rows.length:=lMY _;rw[hlen];simp only[ae];rw[rC];intro mb hmb;simp only[nat?_mk,ae];refine⟨⟨Nat.le_refl _,hn⟩,an λrb s9 hrb h9 u9=>?_⟩;have k3:Sub s (hset s mb (false,.map [] 0)):=gy hmb;have hne:mb≠rb:=λe=>by rw[<- e,cK]at hrb;cases hrb
 have hsrb:s rb=none:=by rw[cE (Ne.symm hne)]at hrb;exact hrb
 have hm9:s9 mb=some (false,.map [] 0):=by rw[u9 _ hne,cK]
 have rp0:RP U s s9 mb rb (rows.map λx=>AV.agg (kf x)) 0:=.start hmb hsrb hne (k3.trans (u9.sub hrb)) hm9 (by rw[hkl0];exact h9);refine⟨λys t m=>∃i:Nat,ys=[Ii i]/\i<=rows.length/\m=rows.length-i/\RP U s t mb rb (rows.map λx=>AV.agg (kf x)) i,⟨_,0,rfl,oM,rfl,rp0⟩,?_⟩;rintro f t m ⟨i,hy,hi,rfl,rp⟩;simp only[cI,and_true]at hy;rw[hy];simp only[LA,aH,ae,aA];refine au (λhlt=>?_) (λhge=>?_)
 rotate_left
 have hge:i=rows.length:=by have:=oF hge;omega
 subst hge;have:=RP.done (by rw[hkl0];exact rp);rw[hkl0]at this;exact hK t _ rp.keep this;have hlt:i<rows.length:=by have:=oT hlt;omega
 have hx:rows[i]?=some rows[i]:=gE hlt;generalize rows[i]=x at hx;have ⟨pb,po,e1,e2,_⟩:=(hv.sub rp.keep).get (i:=i) (r:=rowC x) (by rw[getElem?_map,hx];rfl);have hkx:(rows.map λx=>AV.agg (kf x))[i]?=some (AV.agg (kf x)):=by rw[getElem?_map,hx];rfl
 rw[e1];simp only[ae,e2];refine an λb15 s16 hb15 h16 u16=>aZ h16 (by rw[hl x,hz]) hz (ho x) λs17 h17 u17=>am (aQ h17 (hl x)) ?_;have k17:Sub t s17:=bQ (u16.sub hb15) u17 hb15;refine hkey x s17 _ λs20 k20=>?_;refine an λb21 s22 hb21 h22 u22=>aZ h22 (by rw[hkl x,hkz]) hkz (hko x) λs23 h23' u23'=>am (aQ h23' (hkl x)) ?_;have k23':Sub s20 s23:=bQ (u22.sub hb21) u23' hb21;have rp20:=rp.sub ((k17.trans k20).trans k23');have h20:=rp20.map.ex;refine rp20.map.getG hT (hU x) λr b hr hb=>?_;rw[hr];rw[<- hkl0];have nrb:b21≠rb:=λe=>by have ⟨bs,q,_⟩:=(rp.sub (k17.trans k20)).arr;rw[e,q]at hb21;cases hb21
 have ⟨bs0,q0,_⟩:=rp20.arr;refine rp20.putU hkx hb λs27 bs sm27 k27 h27 hbl hbs u27=>?_;have h27':Hc s27 b21 kt (kf x):=by rw[u27 _ nrb];exact h23'
 refine am (aQ h27' (hkl x)) ?_;refine sm27.putG hT (hU x) λs24 sm24 u24=>?_;have rp24:RP U s s24 mb rb (rows.map λx=>AV.agg (kf x)) (i+1):=⟨bQ k27 u24 hmb,hmb,hsrb,hne,by rw[take_add_one,hkx];exact sm24,bs,by rw[u24 _ (Ne.symm hne)];exact h27,hbl,hbs⟩
 simp only[aJ,ae];rw[aC];exact⟨_,oM,i+1,rfl,oM,rfl,rp24⟩
set_option maxRecDepth 100000
variable{c:Nat}{J:AV→Hq→Prop}
theorem k206(a b a' b':Int):fN TP 312 (.array 2 3) (.agg [a,b]) (.agg [a',b'])=(match mB (some (eqI a a')) (mB (some (eqI b b')) (some true))with
 |some true=>cond (eqI a a'&&(eqI b b'&&true)) (some true) none
 |r=>r):=kR
theorem Hj:KT TP 312 (λk=>∃a b,k=.agg [Ii a,Ii b]):=by
 refine⟨⟨_,Tryz.underlying312,rfl,?_⟩,?_⟩;rintro k k' ⟨a,b,rfl⟩ ⟨a',b',rfl⟩;refine⟨decide (a=a'/\b=b'),?_,sI⟩
 grind [k206,fZ,mB]
 rintro k ⟨a,b,rfl⟩;have:∀a b:Int,eQ TP 10 312 (.agg [a,b])=true:=λa b=>kR;exact this a b
theorem k223(a b a' b':Int):fN TP 327 (.struct #[{ name:="bd",type:=3,offset:=0,embedded:=false,tag:="",pkgPath:="leafmesh/tenant",byteOffset:=0 },{ name:="addr",type:=55,offset:=1,embedded:=false,tag:="",pkgPath:="leafmesh/tenant",byteOffset:=8 }]) (.agg [a,Iq b]) (.agg [a',Iq b'])=(match mB (some (eqI a a')) (mB (some (eqI b b')) (some true))with
 |some true=>cond (eqI a a'&&(eqI b b'&&true)) (some true) none
 |r=>r):=kR
theorem rD:KT TP 327 (λk=>∃a b,k=.agg [Ii a,Iq b]):=by
 refine⟨⟨_,Tryz.underlying327,rfl,?_⟩,?_⟩;rintro k k' ⟨a,b,rfl⟩ ⟨a',b',rfl⟩
 grind [k223,fZ,mB]
 rintro k ⟨a,b,rfl⟩;have:∀a b:Int,eQ TP 10 327 (.agg [a,Iq b])=true:=λa b=>kR;exact this a b
theorem k140(a b c d a' b' c' d':Int):fN TP 186 (.struct #[{ name:="From",type:=3,offset:=0,embedded:=false,tag:="",pkgPath:="",byteOffset:=0 },{ name:="To",type:=3,offset:=1,embedded:=false,tag:="",pkgPath:="",byteOffset:=8 },{ name:="Prefix",type:=159,offset:=2,embedded:=false,tag:="",pkgPath:="",byteOffset:=16 }]) (.agg [a,b,Iw c,d]) (.agg [a',b',Iw c',d'])=(match mB (some (eqI a a')) (mB (some (eqI b b')) (mB (mB (some (eqI c c')) (mB (some (eqI d d')) (some true))) (some true)))with
 |some true=>cond (eqI a a'&&(eqI b b'&&(eqI c c'&&(eqI d d'&&true)))) (some true) none
 |r=>r):=kR
theorem Hk:KT TP 186 (λk=>∃x,k=.agg (ggC x)):=by
 refine⟨⟨_,Tryz.underlying186,rfl,?_⟩,?_⟩;rintro k k' ⟨⟨a,b,c,d⟩,rfl⟩ ⟨⟨a',b',c',d'⟩,rfl⟩;refine⟨decide (a=a'/\b=b'/\c=c'/\d=d'),?_,by simp[ggC]⟩;show fN TP 186 _ (.agg [a,b,Iw c,d]) (.agg [a',b',Iw c',d'])=_;rw[k140,fZ,fZ,fZ,fZ]
 by_cases h1:a=a'
 by_cases h2:b=b'
 by_cases h3:c=c'
 by_cases h4:d=d'
 simp[mB,h1,h2,h3,h4];simp[mB,h1,h2,h3,h4];simp[mB,h1,h2,h3];simp[mB,h1,h2];simp[mB,h1];rintro k ⟨⟨a,b,c,d⟩,rfl⟩;have:∀a b c d:Int,eQ TP 10 186 (.agg [a,b,Iw c,d])=true:=λa b c d=>kR;exact this a b c d
theorem il{f:FuncId}{args:List AV}(hf:isFn TP f=true)(h:wC TP f args J s):funK TP (.fn (.func f) [] []) args J s:=
 (by grind [dV])
theorem rE(x:Int×Int)(s:Hq)(J:AV->Hq->Prop)(hJ:∀s',Sub s s'->J (Iw x.1) s'):funK TP (.fn (.func 182) [] []) [.agg (tgC x)] J s:=by
 refine il kR (RJ ⟨rfl,an λb s1 hb h1 u1=>?_⟩);have h1:Hc s1 b 157 (tgC x):=h1;have e0:(tgC x)[0]?=some (Iw x.1):=rfl
 grind [ao,bG,aj,Upto.sub]
theorem rF(x:Int×Int)(s:Hq)(J:AV->Hq->Prop)(hJ:∀s',Sub s s'->J (Iw x.2) s'):funK TP (.fn (.func 183) [] []) [.agg (tgC x)] J s:=by
 refine il kR (RL ⟨rfl,an λb s1 hb h1 u1=>?_⟩);have h1:Hc s1 b 157 (tgC x):=h1;have e0:(tgC x)[1]?=some (Iw x.2):=rfl
 grind [ao,bG,aj,Upto.sub]
theorem Hl(x:BG)(s:Hq)(J:AV->Hq->Prop)(hJ:∀s',Sub s s'->J (Iw x.2.1) s'):funK TP (.fn (.func 185) [] []) [.agg (bgC x)] J s:=by
 refine il kR (RO ⟨rfl,an λb s1 hb h1 u1=>?_⟩);have h1:Hc s1 b 161 (bgC x):=h1;have e0:(bgC x)[1]?=some (Iw x.2.1):=rfl
 grind [ao,bG,aj,Upto.sub]
theorem Ho(x:BG)(s:Hq)(J:AV->Hq->Prop)(hJ:∀s',Sub s s'->J (Iw x.2.2.1) s'):funK TP (.fn (.func 186) [] []) [.agg (bgC x)] J s:=by
 refine il kR (RS ⟨rfl,an λb s1 hb h1 u1=>?_⟩);have h1:Hc s1 b 161 (bgC x):=h1;have e0:(bgC x)[2]?=some (Iw x.2.2.1):=rfl
 grind [ao,bG,aj,Upto.sub]
theorem Hr(x:RLk)(s:Hq)(J:AV->Hq->Prop)(hJ:∀s',Sub s s'->J (.agg [x.1,x.2.1]) s'):funK TP (.fn (.func 179) [] []) [.agg (lkC x)] J s:=by
 refine il kR (RG ⟨rfl,an λb s1 hb h1 u1=>an λb2 s3 hb2 h3 u3=>?_⟩);have h1:Hc s1 b 145 (lkC x):=h1;have k1:=u1.sub hb;have k3:=u3.sub hb2;have e0:(lkC x)[0]?=some (Ii x.1):=rfl;have e1:(lkC x)[1]?=some (Ii x.2.1):=rfl;have h13:=k3 _ _ h1;simp only[ao,zAY,ae,aj h13,e0,e1];refine am (a:=[x.1,x.2.1]) rfl (aZ h3 rfl rfl rfl λs9 h9 u9=>am (aQ h9 rfl) ?_)
 grind [bQ,Sub.trans]
theorem Ht(x:R4)(s:Hq)(J:AV->Hq->Prop)(hJ:∀s',Sub s s'->J (.agg (ggC x)) s'):funK TP (.fn (.func 204) [] []) [.agg (ggC x)] J s:=by
 refine il kR (Ss ⟨rfl,an λb s1 hb h1 u1=>an λb2 s3 hb2 h3 u3=>?_⟩);have h1:Hc s1 b 186 (ggC x):=h1;have k1:=u1.sub hb;have k3:=u3.sub hb2;have h13:=k3 _ _ h1;refine am (aQ h13 rfl) (aZ h3 rfl rfl rfl λs9 h9 u9=>am (aQ h9 rfl) ?_)
 grind [bQ,Sub.trans]
variable{y:AV}{F:FG}{v2 v3 v4 v5 v6 v7:AV}{t:Bool}
theorem Hu(x:R4)(s:Hq)(J:AV->Hq->Prop)(hJ:∀s',Sub s s'->J (.agg [x.2.2.1,Iq x.1]) s'):funK TP (.fn (.func 197) [] []) [.agg (hgC x)] J s:=by
 refine il kR (Se ⟨rfl,an λb s1 hb h1 u1=>an λb2 s3 hb2 h3 u3=>?_⟩);have h1:Hc s1 b 182 (hgC x):=h1;have k1:=u1.sub hb;have k3:=u3.sub hb2;have e0:(hgC x)[0]?=some (Iq x.1):=rfl;have e2:(hgC x)[2]?=some (Ii x.2.2.1):=rfl;have h13:=k3 _ _ h1;simp only[ao,zAY,ae,aj h13,e0,e2];refine am (a:=[x.2.2.1,Iq x.1]) rfl (aZ h3 rfl rfl rfl λs9 h9 u9=>am (aQ h9 rfl) ?_)
 grind [bQ,Sub.trans]
theorem Hv(x:R4)(s:Hq)(J:AV->Hq->Prop)(hJ:∀s',Sub s s'->J (.agg [x.2.2.1,Iq (bV .u64 x.2.1)]) s'):funK TP (.fn (.func 198) [] []) [.agg (hgC x)] J s:=by
 refine il kR (Sh ⟨rfl,an λb s1 hb h1 u1=>an λb2 s3 hb2 h3 u3=>?_⟩);have h1:Hc s1 b 182 (hgC x):=h1;have k1:=u1.sub hb;have k3:=u3.sub hb2;have e1:(hgC x)[1]?=some (Iw x.2.1):=rfl;have e2:(hgC x)[2]?=some (Ii x.2.2.1):=rfl;have ec:cw .u64 (Iw x.2.1)=some (Iq (bV .u64 x.2.1)):=rfl;have h13:=k3 _ _ h1;simp only[ao,zAY,ae,aj h13,e1,e2,ec];refine am (a:=[x.2.2.1,Iq (bV .u64 x.2.1)]) rfl (aZ h3 rfl rfl rfl λs9 h9 u9=>am (aQ h9 rfl) ?_)
 grind [bQ,Sub.trans]
theorem PM{α:Type}{ks:List α}(h:ks.Nodup)(j:Nat)(k:α)(hk:ks[j]?=some k):k ∉ ks.take j:=by intro hm;have ⟨i,hi,e⟩:=getElem_of_mem hm;have ⟨hj,hk'⟩:=gS hk;rw[length_take]at hi;rw[getElem_take]at e;exact(pairwise_iff_getElem.1 h) i j oM hj oM (by rw[e,hk'])
theorem jR{α β γ:Type}{f:α->β}{g:α->γ}(h:∀x y,f x=f y↔g x=g y){l:List α}{x:α}:f x∈l.map f↔g x∈l.map g:=by
 grind
def LkG(F:FG)(x:RLk):Prop:=(0<=x.1/\x.1<F.lf)/\(F.lf<=x.2.1/\x.2.1<F.lf+F.sp)/\1<=x.2.2/\x.2.2<=1000
structure LinksOk(F:FG):Prop where
 n:F.L.length<=128
 row:∀(i:Nat) x,F.L[i]?=some x->LkG F x/\(x.1,x.2.1) ∉ (F.L.take i).map λx=>(x.1,x.2.1)
theorem Hw(hF:FabOk F)(hn:F.L.length<=4294967296)(hc:s c=some (t,.cells 238 (csG F v2 v3 v4 v5 v6 v7)))(hL:FL s F v2 v3 v4 v5 v6 v7)(hK:Kok s (LinksOk F) K)(hR:Rbad s (LinksOk F) NoR):wC TP 147 [Pp c] K s:=by
 refine SV (lW rfl hc hL λb3 s5 h5 k5=>?_);have hL5:=(hL.sub k5).L;have hlen:bp v2=some F.L.length:=by rw[hL5.len,lMY]
 simp only[ao,zAY,ae,aj h5,csG2,hlen,bW];refine cC (λq=>?_) λq=>hR ((by grind [LinksOk.n])) _ _ _ s5 oM k5;have hn128:F.L.length<=128:=gR;simp only[aj h5,csG2,ae];refine ij (λh=>RF h) rfl rfl (rows:=F.L) (rowC:=lkC) (λ_=>rfl) (λ_=>rfl) (kf:=λx=>[x.1,x.2.1]) Hj (λx=>⟨_,_,rfl⟩) (λ_=>rfl) (λ_=>rfl) (λx s J=>Hr x s J) hL5 oM λs16 again k16 rep=>?_;have h16:=k16 _ _ h5;simp only[aj h16,csG2,ae,hlen];have hinj:∀x y:RLk,(AV.agg [x.1,x.2.1]=AV.agg [y.1,y.2.1])↔(x.1,x.2.1)=(y.1,y.2.1):=λx y=>sI;refine⟨λys t m=>∃i:Nat,ys=[Ii i]/\i<=F.L.length/\m=F.L.length-i/\Sub s16 t/\∀(j:Nat) x,j<i->F.L[j]?=some x->LkG F x/\(x.1,x.2.1) ∉ (F.L.take j).map λx=>(x.1,x.2.1),⟨_,0,rfl,oM,rfl,.refl _,λj x hj=>oM⟩,?_⟩;rintro f t m ⟨i,hy,hi,rfl,kt,hall⟩;simp only[cI,and_true]at hy;rw[hy];simp only[L7,aH,ae];refine au (λhlt=>?_) (λhge=>?_)
 rotate_left
 have hge:i=F.L.length:=gR;subst hge;exact hK ⟨hn128,gR⟩ t (k5.trans (k16.trans kt));have hlt:i<F.L.length:=gR;have hx:F.L[i]?=some F.L[i]:=gE hlt;generalize F.L[i]=x at hx;have ⟨pb,po,e1,e2,_⟩:=(hL5.sub (k16.trans kt)).get (i:=i) (r:=lkC x) gR;rw[e1];simp only[ae,e2];refine an λb24 s25 hb24 h25 u25=>aZ h25 rfl rfl rfl λs26 h26 u26=>?_;have k26:Sub t s26:=bQ (u25.sub hb24) u26 hb24;have h3:=k26 _ _ (kt _ _ h16);have kall:Sub s s26:=k5.trans (k16.trans (kt.trans k26));have a0:(lkC x)[0]?=some (Ii x.1):=rfl;have a1:(lkC x)[1]?=some (Ii x.2.1):=rfl;have a2:(lkC x)[2]?=some (Ii x.2.2):=rfl;have bad:¬LkG F x->¬LinksOk F:=λq g=>q (g.row i x hx).1;have j3:∀(p q:AV) (bd:Bool),bK p true q=some bd->(bd=true->¬LkG F x)->(bd=false->LkG F x)->uJ again i i p q (λys t m=>∃i:Nat,ys=[Ii i]/\i<=F.L.length/\m=F.L.length-i/\Sub s16 t/\∀(j:Nat) x,j<i->F.L[j]?=some x->LkG F x/\(x.1,x.2.1) ∉ (F.L.take j).map λx=>(x.1,x.2.1)) (F.L.length-i) K s26:=λp q bd h h1 h2=>by
  unfold uJ aA;rw[h];simp only[];refine cC (λq1=>?_) λq1=>hR (bad (h1 q1)) _ _ _ s26 oM kall;have ⟨pp,bb,g1,g2,g3⟩:=(rep.sub (kt.trans k26)).at (j:=i) (k:=.agg [x.1,x.2.1]) gR;rw[<- map_take,jR hinj]at g3;rw[g1];simp only[ae,g2];refine cC (λq2=>?_) λq2=>hR (λg=>(g.row i x hx).2 (g3.1 q2)) _ _ _ s26 oM kall;simp only[aJ,ae];rw[aC];refine⟨_,oM,i+1,rfl,oM,rfl,kt.trans k26,λj z hj hz=>?_⟩
  grind
 have j2:∀(p q:AV) (ok:Bool),bK p q false=some (.bool ok)->(ok=false->¬LkG F x)->(ok=true->(0<=x.1/\x.1<F.lf)/\(F.lf<=x.2.1/\x.2.1<F.lf+F.sp))->uK again i (Pp b24) i p q (λys t m=>∃i:Nat,ys=[Ii i]/\i<=F.L.length/\m=F.L.length-i/\Sub s16 t/\∀(j:Nat) x,j<i->F.L[j]?=some x->LkG F x/\(x.1,x.2.1) ∉ (F.L.take j).map λx=>(x.1,x.2.1)) (F.L.length-i) K s26:=λp q ok h h1 h2=>by
  unfold uK;rw[h];simp only[ae,bD];refine au (λq1=>?_) (λq1=>?_)
  ·have hok:ok=false:=by simpa using q1
   exact j3 _ _ true (by rw[q1];rfl) (λ_=>h1 hok) (λq2=>by cases q2)
  ·have hok:ok=true:=by simpa using q1
   simp only[ao,zAY,ae,aj h26,a2];refine dQ ?_;exact j3 _ _ (outB x.2.2 1 1000) (by rw[q1];rfl) (λq2 g=>by have:=cR.2 g.2.2;rw[this]at q2;cases q2) (λq2=>⟨(h2 hok).1,(h2 hok).2,cR.1 q2⟩)
 have j1:∀(p q:AV) (ok:Bool),bK p q false=some (.bool ok)->(ok=false->¬LkG F x)->(ok=true->(0<=x.1/\x.1<F.lf)/\F.lf<=x.2.1)->uL (Pp b3) again i (Pp b24) i p q (λys t m=>∃i:Nat,ys=[Ii i]/\i<=F.L.length/\m=F.L.length-i/\Sub s16 t/\∀(j:Nat) x,j<i->F.L[j]?=some x->LkG F x/\(x.1,x.2.1) ∉ (F.L.take j).map λx=>(x.1,x.2.1)) (F.L.length-i) K s26:=λp q ok h h1 h2=>by
  unfold uL;rw[h];simp only[ae];refine au (λq1=>?_) (λq1=>?_);have:=hF.lf;have:=hF.sp;simp only[ao,zAY,ae,aj h26,a1,aj h3,csG0,csG1,aJ,aH];rw[aC];exact j2 _ _ (decide (x.2.1<F.lf+F.sp)) (by rw[q1];rfl) (λq2 g=>by have:=oF q2;have:=g.2.1.2;omega) (λq2=>gR)
  ·exact j2 _ _ false (by rw[q1];rfl) (λ_=>h1 q1) (λq2=>by cases q2)
 simp only[ao,zAY,ae,aj h26,a0,aj h3,csG0];refine jP ?_;refine au (λq1=>?_) (λq1=>?_);simp only[ae,aj h26,a1,aj h3,csG0,ci];exact j1 _ _ (decide (F.lf<=x.2.1)) (by rw[q1];rfl) (λq2 g=>by have:=oF q2;have:=g.2.1.1;omega) (λq2=>⟨ge.1 q1,oT q2⟩)
 ·exact j1 _ _ false (by rw[q1];rfl) (λ_ g=>by have:=ge.2 g.1;rw[this]at q1;cases q1) (λq2=>by cases q2)
def TnG(x:Int×Int):Prop:=1<=x.1/\x.1<=16777215/\x.2≠0
structure TenOk(F:FG):Prop where
 n:F.T.length<=16
 row:∀(i:Nat) x,F.T[i]?=some x->TnG x/\x.1 ∉ (F.T.take i).map (·.1)/\x.2 ∉ (F.T.take i).map (·.2)
abbrev InvT(F:FG)(s16:Hq):List AV->Hq->Nat->Prop:=λys t m=>∃i:Nat,ys=[Ii i]/\i<=F.T.length/\m=F.T.length-i/\Sub s16 t/\∀(j:Nat) x,j<i->F.T[j]?=some x->TnG x/\x.1 ∉ (F.T.take j).map (·.1)/\x.2 ∉ (F.T.take j).map (·.2)
theorem Zv(hn:F.T.length<=4294967296)(hc:s c=some (t,.cells 238 (csG F v2 v3 v4 v5 v6 v7)))(hL:FL s F v2 v3 v4 v5 v6 v7)(hK:Kok s (TenOk F) K)(hR:Rbad s (TenOk F) NoR):wC TP 148 [Pp c] K s:=by
 refine SX ?_;unfold L9 aK;have hlen:bp v3=some F.T.length:=by rw[hL.T.len,lMY]
 simp only[aO,ao,zAY,ae,aj hc,csG3,hlen,bW];refine cC (λq=>?_) λq=>hR ((by grind [TenOk.n])) _ _ _ s oM (.refl _);have hn16:F.T.length<=16:=gR;refine ii (λh=>LC h) rfl (rows:=F.T) (rowC:=tgC) (λ_=>rfl) (λ_=>rfl) (kf:=λx=>x.1) (λx s J=>rE x s J) hL.T oM λs10 vn k10 repv=>?_;refine ii (λh=>LC h) rfl (rows:=F.T) (rowC:=tgC) (λ_=>rfl) (λ_=>rfl) (kf:=λx=>x.2) (λx s J=>rF x s J) (hL.T.sub k10) oM λs12 tg k12 rept=>?_;have hiv:∀x y:Int×Int,(AV.int .u32 x.1=AV.int .u32 y.1)↔x.1=y.1:=λx y=>sI;have hit:∀x y:Int×Int,(AV.int .u32 x.2=AV.int .u32 y.2)↔x.2=y.2:=λx y=>sI;refine⟨InvT F s12,⟨_,0,rfl,oM,rfl,.refl _,λj x hj=>oM⟩,?_⟩;rintro f t m ⟨i,hy,hi,rfl,kt,hall⟩;simp only[cI,and_true]at hy;rw[hy];simp only[L8,aH,ae];refine au (λhlt=>?_) (λhge=>?_)
 rotate_left
 have hge:i=F.T.length:=gR;subst hge;exact hK ⟨hn16,λj x hx=>gR⟩ t (k10.trans (k12.trans kt));have hlt:i<F.T.length:=gR;have hx:F.T[i]?=some F.T[i]:=gE hlt;generalize F.T[i]=x at hx;have ⟨pb,po,e1,e2,_⟩:=(hL.T.sub (k10.trans (k12.trans kt))).get (i:=i) (r:=tgC x) gR;rw[e1];simp only[ae,e2];refine an λb18 s19 hb18 h19 u19=>aZ h19 rfl rfl rfl λs20 h20 u20=>?_;have k20:Sub t s20:=bQ (u19.sub hb18) u20 hb18;have kall:Sub s s20:=(by grind [Sub.trans])
 have a0:(tgC x)[0]?=some (Iw x.1):=rfl;have a1:(tgC x)[1]?=some (Iw x.2):=rfl;have bad:¬TnG x->¬TenOk F:=λq g=>q (g.row i x hx).1;have ⟨p1,w1,g11,g12,g13⟩:=(repv.sub (k12.trans (kt.trans k20))).at (j:=i) (k:=Iw x.1) gR;have ⟨p2,w2,g21,g22,g23⟩:=(rept.sub (kt.trans k20)).at (j:=i) (k:=Iw x.2) gR;rw[<- map_take,jR hiv]at g13;rw[<- map_take,jR hit]at g23;have j3:∀(p q:AV) (bd:Bool),bK p true q=some (.bool bd)->(bd=true->¬TenOk F)->(bd=false->TnG x/\x.1 ∉ (F.T.take i).map (·.1)/\x.2 ∉ (F.T.take i).map (·.2))->uM i i p q (InvT F s12) (F.T.length-i) K s20:=λp q bd h h1 h2=>by
  unfold uM aA;rw[h];simp only[ae];refine cC (λq1=>?_) (by simp_all);simp only[aJ,ae];rw[aC];refine⟨_,oM,i+1,rfl,oM,rfl,kt.trans k20,λj z hj hz=>?_⟩
  grind
 have j2:∀(p q:AV) (bd:Bool),bK p true q=some (.bool bd)->(bd=true->¬TnG x)->(bd=false->TnG x)->uN vn tg i i p q (InvT F s12) (F.T.length-i) K s20:=λp q bd h h1 h2=>by
  unfold uN;rw[h];simp only[ae];refine cC (λq1=>?_) λq1=>hR (bad (h1 q1)) _ _ _ s20 oM kall;rw[g11];simp only[ae,g12];refine au (λq2=>?_) (λq2=>?_)
  ·exact j3 _ _ true (by rw[q2];rfl) ((by grind [TenOk.row])) (λq=>by cases q)
  rw[g21];simp only[ae,g22];exact j3 _ _ w2 (by rw[q2];rfl) ((by grind [TenOk.row])) (λq3=>gR)
 have j1:∀(p q:AV) (bd:Bool),bK p true q=some (.bool bd)->(bd=true->¬TnG x)->(bd=false->1<=x.1/\x.1<=16777215)->uO vn tg i (Pp b18) i p q (InvT F s12) (F.T.length-i) K s20:=λp q bd h h1 h2=>by
  unfold uO;rw[h];simp only[ae];refine au (λq1=>?_) (λq1=>?_)
  ·exact j2 _ _ bd (by rw[q1];rfl) h1 (λq2=>by rw[q1]at q2;cases q2)
  simp only[ao,zAY,ae,aj h20,a1,aR,aG,Bool.false_bne];exact j2 _ _ (x.2 == 0) (by rw[q1];rfl) (λq2 g=>g.2.2 (by simpa using q2)) (λq2=>⟨(h2 q1).1,(h2 q1).2,by simpa using q2⟩)
 simp only[ao,zAY,ae,aj h20,a0,aH];refine au (λq1=>?_) (λq1=>?_)
 ·exact j1 _ _ true (by rw[q1];rfl) (λ_ g=>by have:=oT q1;have:=g.1;omega) (λq2=>by cases q2)
 simp only[ae,bW];exact j1 _ _ (decide (16777215<x.1)) (by rw[q1];rfl) (λq2 g=>by have:=oT q2;have:=g.2.1;omega) (λq2=>gR)
def andU(x y:Int):Int:=bV .u32 ((BitVec.ofInt 32 x &&& BitVec.ofInt 32 y).toNat:Nat)
def orU(x y:Int):Int:=bV .u32 ((BitVec.ofInt 32 x |||BitVec.ofInt 32 y).toNat:Nat)
def xorU(x y:Int):Int:=bV .u32 ((BitVec.ofInt 32 x ^^^ BitVec.ofInt 32 y).toNat:Nat)
theorem PN{x y:Int}:bO .and (Iw x) (Iw y)=some (Iw (andU x y)):=by simp only[bO,arith,cD,iD,cond_true];rfl
theorem Hx{x y:Int}:bO .or (Iw x) (Iw y)=some (Iw (orU x y)):=by simp only[bO,arith,cD,iD,cond_true];rfl
theorem Zw{x y:Int}:bO .xor (Iw x) (Iw y)=some (Iw (xorU x y)):=by simp only[bO,arith,cD,iD,cond_true];rfl
def shlU(x:Int)(n:Nat):Int:=bV .u32 (x*((2^(min n 32):Nat):Int))
def mskU(len:Int):Int:=shlU 4294967295 (32-len).toNat
def gf(len:Int):Bool:=decide (0<=len)&&decide (len<=32)
theorem PO{len:Int}:gf len=true↔0<=len/\len<=32:=by unfold gf;simp
theorem rG{x len:Int}(h:len<=32):dh .shl (Iw x) (32-len:Int)=some (Iw (shlU x (32-len).toNat)):=by
 obtain⟨n,hn⟩:∃n:Nat,32-len=n:=⟨(32-len).toNat,oM⟩
 rw[hn];show frc (bV .u32 (x*((2^(min n (IntKind.bits .u32)):Nat):Int))) (λn=>some (AV.int .u32 n))=_;rw[cD];rfl
abbrev pfC(ip len:Int):List AV:=[Iw ip,len]
theorem cP{ip len:Int}(hK:∀s',Sub s s'->K (gf len) s'):wC TP 220 [.agg (pfC ip len)] K s:=by refine SI ⟨rfl,an λb s1 hb h1 u1=>?_⟩;have h1:Hc s1 b 159 (pfC ip len):=h1;have e1:(pfC ip len)[1]?=some (Ii len):=rfl;have k1:=u1.sub hb;simp only[ao,zAY,ae,aj h1,e1,ci,eR];have hk:=hK s1 k1;unfold gf at hk;refine au (λe=>?_) (λe=>?_);rw[e]at hk ⊢;exact hk;rw[e]at hk ⊢;exact hk
theorem rH{len:Int}(h:0<=len/\len<=32)(hK:K (Iw (mskU len)) s):wC TP 221 [len] K s:=by refine SJ ?_;unfold LV;simp only[cA,ae];rw[aC,rG h.2];exact hK
def im(ip len x:Int):Bool:=gf len&&(andU (xorU ip x) (mskU len) == 0)
theorem Hy{ip len x:Int}(hK:∀s',Sub s s'->K (im ip len x) s'):wC TP 192 [.agg (pfC ip len),Iw x] K s:=by
 refine R7 ⟨rfl,an λb s1 hb h1 u1=>?_⟩;have h1:Hc s1 b 159 (pfC ip len):=h1;have k1:=u1.sub hb;refine am (aQ h1 rfl) ⟨(gf len),cP λs4 k4=>rfl,?_⟩;have e0:(pfC ip len)[0]?=some (Iw ip):=rfl;have e1:(pfC ip len)[1]?=some (Ii len):=rfl;have hk:=hK s1 k1;unfold im at hk;refine au (λe=>?_) (λe=>?_);simp only[ao,zAY,ae,aj h1,e0,e1,Zw];refine⟨Iw (mskU len),rH (PO.1 e) rfl,?_⟩
 grind [PN,bG,aR,aG,aU,gU]
 simp_all[ae]
def fk(ip len:Int):Bool:=gf len&&(andU ip (mskU len) == ip)
theorem Hz{ip len:Int}(h1:gf len=false->∀s',Sub s s'->K (.tup [.agg (pfC 0 0),Ii 2]) s')(h2:gf len=true->∀s',Sub s s'->K (.tup [.agg (pfC (andU ip (mskU len)) len),Ii 0]) s'):wC TP 218 [.agg (pfC ip len)] K s:=by
 refine SC ⟨rfl,an λb s1 hb q1 u1=>an λb2 s3 hb2 q3 u3=>?_⟩;have q1:Hc s1 b 159 (pfC ip len):=q1;have k1:=u1.sub hb;have k3:=u3.sub hb2;refine am (aQ (k3 _ _ q1) rfl) (cP λs6 k6=>?_);have q6:=k6 _ _ (k3 _ _ q1);have z6:=k6 _ _ q3;have e0:(pfC ip len)[0]?=some (Iw ip):=rfl;have e1:(pfC ip len)[1]?=some (Ii len):=rfl;have nb:b≠b2:=λe=>gR;have sb2:s b2=none:=cF k1 hb2;have k06:Sub s s6:=k1.trans (k3.trans k6);simp only[bD,ae];refine au (λe=>?_) (λe=>?_);have e:gf len=false:=by simpa using e
 refine am (a:=[Iw 0,Ii 0]) rfl (aZ z6 rfl rfl rfl λs9 h9 u9=>am (aQ h9 rfl) ?_)
 grind [bQ]
 have e:gf len=true:=by simpa using e
 refine⟨s6,.refl s6,?_⟩;simp only[ao,zAY,ae,aj q6,e0,e1];rw[d8];refine rH (PO.1 e) ?_;simp only[PN,ae,gU];refine aT q6 (by show 0<2;omega) rfl λs19 h19 u19=>am (aQ h19 rfl) ?_;have z19:Hc s19 b2 159 [Iw 0,Ii 0]:=by rw[u19 _ (Ne.symm nb)];exact z6
 refine aZ z19 rfl rfl rfl λs21 h21 u21=>am (aQ h21 rfl) ?_;exact h2 e s21 (bQ (bQ k06 u19 hb) u21 sb2)
theorem eq41(a l a' l':Int):cZ TP 159 (.agg [Iw a,l]) (.agg [Iw a',l'])=mB (some (eqI a a')) (mB (some (eqI l l')) (some true)):=kR
theorem eq41'{a l a' l':Int}:cZ TP 159 (.agg [Iw a,l]) (.agg [Iw a',l'])=some (a == a'&&l == l'):=by
 grind [eq41,fZ,mB]
theorem PP{ip len:Int}(hK:∀s',Sub s s'->K (fk ip len) s'):wC TP 188 [.agg (pfC ip len)] K s:=by refine RW ⟨rfl,an λb s1 hb q1 u1=>?_⟩;have q1:Hc s1 b 159 (pfC ip len):=q1;have k1:=u1.sub hb;refine am (aQ q1 rfl) (Hz (λe s4 k4=>?_) λe s4 k4=>?_);refine am (a:=.agg (pfC 0 0)) rfl (am (a:=Ii 2) rfl (an λb7 s8 hb7 h8 u8=>aZ h8 rfl rfl rfl λs9 h9 u9=>?_));have hk:=hK s9 (k1.trans (k4.trans (bQ (u8.sub hb7) u9 hb7)));unfold fk at hk;rw[e]at hk;simp only[aR,aG,Bool.false_bne,ae];exact hk;refine am (a:=.agg (pfC (andU ip (mskU len)) len)) rfl (am (a:=Ii 0) rfl (an λb7 s8 hb7 h8 u8=>aZ h8 rfl rfl rfl λs9 h9 u9=>?_));have k9:Sub s4 s9:=bQ (u8.sub hb7) u9 hb7;have hk:=hK s9 (k1.trans (k4.trans k9));unfold fk at hk;rw[e]at hk;have q9:=k9 _ _ (k4 _ _ q1);simp only[aR,aG,Bool.false_bne,ae];show ai true _ _;rw[aF];refine am (aQ h9 rfl) (am (aQ q9 rfl) ?_);rw[eq41'];simp only[aG,Bool.false_bne,ae];have:(andU ip (mskU len) == ip&&len == len)=(andU ip (mskU len) == ip):=sI;rw[this];exact hk
def rI(ip len:Int):Int:=orU ip (IntKind.u32.wrap (shlU 1 (32-len).toNat-1))
def io(ip len x:Int):Bool:=im ip len x&&(x != ip)&&(x != rI ip len)
theorem PQ{ip len x:Int}(h:-1000<=len/\len<=32)(hK:∀s',Sub s s'->K (io ip len x) s'):wC TP 189 [.agg (pfC ip len),Iw x] K s:=by
 refine RX ⟨rfl,an λb s1 hb q1 u1=>?_⟩;have q1:Hc s1 b 159 (pfC ip len):=q1;have k1:=u1.sub hb;have e0:(pfC ip len)[0]?=some (Iw ip):=rfl;have e1:(pfC ip len)[1]?=some (Ii len):=rfl;simp only[ao,zAY,ae,aj q1,e0,e1,cA];rw[aC,rG h.2];simp only[cA,ae,Hx];refine am (aQ q1 rfl) (Hy λs12 k12=>?_);have q12:=k12 _ _ q1;have hk:=hK s12 (k1.trans k12);unfold io at hk;have hl:orU ip (IntKind.u32.wrap (shlU 1 (32-len).toNat-1))=rI ip len:=rfl;rw[hl];refine au (λe=>?_) (λe=>?_);simp only[ae,aj q12,e0,aR,aG,Bool.true_bne];rw[e]at hk ⊢;simp only[Bx,aU,ae];have e2:(!(x == ip))=(x != ip):=rfl;rw[e2];refine au (λe3=>?_) (λe3=>?_)
 grind [aR,aG,bG,Bw,aU]
 rw[e3]at hk ⊢;exact hk;rw[e]at hk ⊢;exact hk
def fstI{A:Type}(p:A->Bool)(l:List A):Int:=match l.findIdx? p with
 |some i=>(i:Int)
 |none=>-1
theorem xC{A:Type}{p:A->Bool}{l:List A}:decide (0<=fstI p l)=l.any p:=by
 grind [fstI]
theorem xD{A:Type}{p:A->Bool}{l:List A}{i:Nat}{x:A}(hx:l[i]?=some x)(hp:p x=true)(hb:∀j z,j<i->l[j]?=some z->p z=false):fstI p l=i:=by unfold fstI;have:l.findIdx? p=some i:=findIdx?_eq_some_iff_getElem.2 gR;rw[this]
theorem xE{A:Type}{p:A->Bool}{l:List A}(hb:∀(j:Nat) z,l[j]?=some z->p z=false):fstI p l=-1:=by
 unfold fstI;have:l.findIdx? p=none:=findIdx?_eq_none_iff.2 λx hx=>by have ⟨j,hj⟩:=getElem?_of_mem hx;exact hb j x hj
 rw[this]
theorem Zx{p:BG->Bool}{rows:List BG}{fv:AV}(hn:rows.length<=4294967296)(hv:SlR 6 s v (rows.map bgC))(hp:∀(x:BG) (s1:Hq) (J:AV->Hq->Prop),Sub s s1->(∀s',Sub s1 s'->J (p x) s')->funK TP fv [.agg (bgC x)] J s1)
  (hK:∀s',Sub s s'->K (fstI p rows:Int) s'):wC TP 219 [v,fv] K s:=by
 refine SE ?_;unfold LT aK;have hlen:bp v=some rows.length:=by rw[hv.len,lMY]
 rw[hlen];refine⟨λys t m=>∃i:Nat,ys=[Ii i]/\i<=rows.length/\m=rows.length-i/\Sub s t/\∀j z,j<i->rows[j]?=some z->p z=false,⟨_,0,rfl,oM,rfl,.refl _,λj z hj=>oM⟩,?_⟩;rintro f t m ⟨i,hy,hi,rfl,kt,hall⟩;simp only[cI,and_true]at hy;rw[hy];simp only[LR,aH,ae,aA];refine au (λhlt=>?_) (λhge=>?_)
 rotate_left
 have hge:i=rows.length:=by have:=oF hge;omega
 subst hge;have:=hK t kt;rw[xE λj z hz=>hall j z (gS hz).1 hz]at this;exact this;have hlt:i<rows.length:=gR;have hx:=gE hlt;generalize rows[i]=x at hx;have ⟨pb,po,e1,e2,_⟩:=(hv.sub kt).get (i:=i) (r:=bgC x) gR;rw[e1];simp only[ae,e2];refine hp x t _ kt λs6 k6=>?_;refine au (λq=>?_) (λq=>?_);have:=hK s6 (kt.trans k6)
 grind [xD]
 simp only[aJ,ae];rw[aC];refine⟨_,oM,i+1,rfl,oM,rfl,kt.trans k6,λj z hj hz=>?_⟩
 grind
theorem HA{p:Int×Int->Bool}{rows:List (Int×Int)}{fv:AV}(hn:rows.length<=4294967296)(hv:SlR 2 s v (rows.map tgC))(hp:∀(x:Int×Int) (s1:Hq) (J:AV->Hq->Prop),Sub s s1->(∀s',Sub s1 s'->J (p x) s')->funK TP fv [.agg (tgC x)] J s1)
  (hK:∀s',Sub s s'->K (fstI p rows:Int) s'):wC TP 229 [v,fv] K s:=by
 refine SP ?_;unfold L2 aK;have hlen:bp v=some rows.length:=by rw[hv.len,lMY]
 rw[hlen];refine⟨λys t m=>∃i:Nat,ys=[Ii i]/\i<=rows.length/\m=rows.length-i/\Sub s t/\∀j z,j<i->rows[j]?=some z->p z=false,⟨_,0,rfl,oM,rfl,.refl _,λj z hj=>oM⟩,?_⟩;rintro f t m ⟨i,hy,hi,rfl,kt,hall⟩;simp only[cI,and_true]at hy;rw[hy];simp only[LZ,aH,ae,aA];refine au (λhlt=>?_) (λhge=>?_)
 rotate_left
 have hge:i=rows.length:=by have:=oF hge;omega
 subst hge;have:=hK t kt;rw[xE λj z hz=>hall j z (gS hz).1 hz]at this;exact this;have hlt:i<rows.length:=gR;have hx:=gE hlt;generalize rows[i]=x at hx;have ⟨pb,po,e1,e2,_⟩:=(hv.sub kt).get (i:=i) (r:=tgC x) gR;rw[e1];simp only[ae,e2];refine hp x t _ kt λs6 k6=>?_;refine au (λq=>?_) (λq=>?_);have:=hK s6 (kt.trans k6)
 grind [xD]
 simp only[aJ,ae];rw[aC];refine⟨_,oM,i+1,rfl,oM,rfl,kt.trans k6,λj z hj hz=>?_⟩
 grind
theorem HB{p:Int->Bool}{l:List Int}{fv:AV}(hn:l.length<=4294967296)(hv:Sl s v (ix l))(hp:∀(x:Int) (s1:Hq) (J:AV->Hq->Prop),Sub s s1->(∀s',Sub s1 s'->J (p x) s')->funK TP fv [x] J s1)
  (hK:∀s',Sub s s'->K (fstI p l:Int) s'):wC TP 162 [v,fv] K s:=by
 refine LW ?_;unfold BB aK;have hlen:bp v=some l.length:=by rw[hv.len,ga]
 rw[hlen];refine⟨λys t m=>∃i:Nat,ys=[Ii i]/\i<=l.length/\m=l.length-i/\Sub s t/\∀j z,j<i->l[j]?=some z->p z=false,⟨_,0,rfl,oM,rfl,.refl _,λj z hj=>oM⟩,?_⟩;rintro f t m ⟨i,hy,hi,rfl,kt,hall⟩;simp only[cI,and_true]at hy;rw[hy];simp only[BA,aH,ae,aA];refine au (λhlt=>?_) (λhge=>?_)
 rotate_left
 grind [xE]
 have hlt:i<l.length:=gR;have ⟨pp,g1,g2⟩:=(hv.sub kt).get (i:=i) (by rw[ga];exact hlt);rw[lV hlt]at g2;have hx:=gE hlt;generalize l[i]=x at hx g2;rw[g1];simp only[ae,g2];refine hp x t _ kt λs6 k6=>?_;refine au (λq=>?_) (λq=>?_);have:=hK s6 (kt.trans k6)
 grind [xD]
 simp only[aJ,ae];rw[aC];refine⟨_,oM,i+1,rfl,oM,rfl,kt.trans k6,λj z hj hz=>?_⟩
 grind
theorem Zy{p:BG->Bool}{rows:List BG}{fv:AV}(hn:rows.length<=4294967296)(hv:SlR 6 s v (rows.map bgC))(hp:∀(x:BG) (s1:Hq) (J:AV->Hq->Prop),Sub s s1->(∀s',Sub s1 s'->J (p x) s')->funK TP fv [.agg (bgC x)] J s1)
  (hK:∀s',Sub s s'->K (rows.any p) s'):wC TP 190 [v,fv] K s:=by
 refine RZ ?_;refine Zx hn hv hp λs' k=>?_;simp only[ci,ae,xC];exact hK s' k
theorem Zz{p:Int×Int->Bool}{rows:List (Int×Int)}{fv:AV}(hn:rows.length<=4294967296)(hv:SlR 2 s v (rows.map tgC))(hp:∀(x:Int×Int) (s1:Hq) (J:AV->Hq->Prop),Sub s s1->(∀s',Sub s1 s'->J (p x) s')->funK TP fv [.agg (tgC x)] J s1)
  (hK:∀s',Sub s s'->K (rows.any p) s'):wC TP 216 [v,fv] K s:=by
 refine Sv ?_;refine HA hn hv hp λs' k=>?_;simp only[ci,ae,xC];exact hK s' k
theorem PR{p:Int->Bool}{l:List Int}{fv:AV}(hn:l.length<=4294967296)(hv:Sl s v (ix l))(hp:∀(x:Int) (s1:Hq) (J:AV->Hq->Prop),Sub s s1->(∀s',Sub s1 s'->J (p x) s')->funK TP fv [x] J s1)
  (hK:∀s',Sub s s'->K (l.any p) s'):wC TP 129 [v,fv] K s:=by
 refine LG ?_;refine HB hn hv hp λs' k=>?_;simp only[ci,ae,xC];exact hK s' k
theorem rJ{kf:Int×Int->Int}{rows:List (Int×Int)}{g:FuncId}{n:Int}(hn:rows.length<=4294967296)(hv:SlR 2 s v (rows.map tgC))(hg:∀(x:Int×Int) (s:Hq) (J:AV->Hq->Prop),(∀s',Sub s s'->J (Iw (kf x)) s')->funK TP (.fn (.func g) [] []) [.agg (tgC x)] J s)
  (hK:∀s',Sub s s'->K (rows.any λx=>kf x == n) s'):wC TP 187 [v,.fn (.func g) [] [],Iw n] K s:=by
 refine RV (cW rfl λb0 s1 hb0 h1 u1=>cW rfl λb2 s3 hb2 h3 u3=>?_);have k1:=u1.sub hb0;have k3:=u3.sub hb2;refine Zz (p:=λx=>kf x == n) hn (hv.sub (k1.trans k3)) (λx sA J kA hJ=>?_) (by grind [Sub.trans]);refine dV kR (Sy ⟨rfl,an λb s5 hb h5 u5=>?_⟩);have k5:=u5.sub hb;have e0:[AV.fn (.func g) [] []][0]?=some (.fn (.func g) [] []):=rfl;have h15:=k5 _ _ (kA _ _ (k3 _ _ h1));have h35:=k5 _ _ (kA _ _ h3);have e1:[AV.int .u32 n][0]?=some (Iw n):=rfl;refine⟨s5,.refl s5,?_⟩;simp only[aj h15,e0,aj h35,e1,ae];refine am (aQ h5 rfl) ?_;rw[d8];refine hg x (frz s5) _ λs6 k6=>?_;exact hJ _ (k5.trans eF)
def gh(b x:BG):Bool:=(x.1 == b.1)&&(x.2.2.2.2.2 != 0)&&(im x.2.2.2.1 x.2.2.2.2.1 b.2.2.2.1||im b.2.2.2.1 b.2.2.2.2.1 x.2.2.2.1)
theorem HC{d x:BG}{cb:Nat}{t:Bool}(hd:s cb=some (t,.cells 161 (bgC d)))(hJ:∀s',Sub s s'->J (gh d x) s'):funK TP (.fn (.func 191) [] [Pp cb]) [.agg (bgC x)] J s:=by
 refine dV kR (R3 ⟨rfl,an λb s1 hb h1 u1=>?_⟩);have h1:Hc s1 b 161 (bgC x):=h1;have k1:=u1.sub hb;have hd1:=k1 _ _ hd;have a0:(bgC x)[0]?=some (Ii x.1):=rfl;have a3:(bgC x)[3]?=some (Iw x.2.2.2.1):=rfl;have a5:(bgC x)[5]?=some (Iw x.2.2.2.2.2):=rfl;have d0:(bgC d)[0]?=some (Ii d.1):=rfl;have d3:(bgC d)[3]?=some (Iw d.2.2.2.1):=rfl;have rx:∀{s2:Hq},Sub s1 s2->rdN s2 2 (.ptr b 3)=some (pfC x.2.2.2.1 x.2.2.2.2.1):=fun {s2} q=>by simp only[rdN,q _ _ h1];rfl
 have rd:∀{s2:Hq},Sub s1 s2->rdN s2 2 (.ptr cb 3)=some (pfC d.2.2.2.1 d.2.2.2.2.1):=fun {s2} q=>by simp only[rdN,q _ _ hd1];rfl
 simp only[ao,zAY,ae,aj h1,aj hd1,a0,d0,aR,aG,Bool.false_bne];unfold gh at hJ;have j0:∀(p q:AV) (ok:Bool),bK p q false=some ok->((x.1 == d.1)&&(x.2.2.2.2.2 != 0))=ok->ut (Pp cb) (Pp b) p q J s1:=λp q ok h he=>by
  unfold ut;rw[h];rw[he]at hJ;refine au (λe=>?_) (λe=>?_);simp only[ao,zAY,ae,aj hd1,d3,rx (.refl _)];refine Hy λs14 k14=>?_;refine au (λe2=>?_) (λe2=>?_);have:=hJ s14 (k1.trans k14);rw[e,e2]at this;rw[e,e2];exact this;have h14:=k14 _ _ h1;simp only[ae,aj h14,a3,rd k14];refine Hy λs23 k23=>?_;have:=hJ s23 (k1.trans (k14.trans k23));rw[e,e2]at this;rw[e,e2];exact this
  simp_all
 refine au (λe=>?_) (λe=>?_);exact j0 _ _ (!(x.2.2.2.2.2 == 0)) (by rw[e];rfl) (by rw[e];rfl);exact j0 _ _ false (by rw[e];rfl) (by rw[e];rfl)
theorem RepR.addf{s2:Hq}{ks:List AV}(h:RepR s2 v ks)(hs:Sub (AM.frz s) s2):RepR (add s s2) v ks:=by have ⟨bs,h1,h2,h3⟩:=h.ex;exact⟨bs,h1.addf hs,h2,h3⟩
def BdG(F:FG)(x:BG):Prop:=(0<=x.1/\x.1<(F.T.length:Int))/\(1<=x.2.1/\x.2.1<=16777215)/\x.2.2.1≠0
def BdS(F:FG)(i:Nat)(x:BG):Prop:=(x.2.2.2.2.2=0->x.2.2.2.1=0/\x.2.2.2.2.1=0)/\(x.2.2.2.2.2≠0->fk x.2.2.2.1 x.2.2.2.2.1=true/\(8<=x.2.2.2.2.1/\x.2.2.2.2.1<=30)/\io x.2.2.2.1 x.2.2.2.2.1 x.2.2.2.2.2=true/\(F.B.take i).any (gh x)=false)
structure BdRow(F:FG)(i:Nat)(x:BG):Prop where
 g:BdG F x
 vn:x.2.1 ∉ (F.B.take i).map (·.2.1)
 tg:x.2.2.1 ∉ (F.B.take i).map (·.2.2.1)
 tv:F.T.any (λy=>y.1 == x.2.1)=false
 tt:F.T.any (λy=>y.2 == x.2.2.1)=false
 s:BdS F i x
structure DomOk(F:FG):Prop where
 n:F.B.length<=32
 row:∀(i:Nat) x,F.B[i]?=some x->BdRow F i x
abbrev InvB(F:FG)(s20:Hq):List AV->Hq->Nat->Prop:=λys t m=>∃i:Nat,ys=[Ii i]/\i<=F.B.length/\m=F.B.length-i/\Sub s20 t/\∀(j:Nat) x,j<i->F.B[j]?=some x->BdRow F j x
theorem HD(hT:F.T.length<=16)(hn:F.B.length<=4294967296)(hc:s c=some (t,.cells 238 (csG F v2 v3 v4 v5 v6 v7)))(hL:FL s F v2 v3 v4 v5 v6 v7)(hK:Kok s (DomOk F) K)(hR:Rbad s (DomOk F) NoR):wC TP 149 [Pp c] K s:=by
 refine SZ (lW rfl hc hL λb3 s5 h5 k5=>?_);have hL5:=(hL.sub k5).B;have hlen:bp v4=some F.B.length:=by rw[hL5.len,lMY]
 simp only[ao,zAY,ae,aj h5,csG4,hlen,bW];refine cC (λq=>?_) λq=>hR ((by grind [DomOk.n])) _ _ _ s5 oM k5;have hn32:F.B.length<=32:=gR;refine⟨s5,.refl s5,?_⟩;simp only[aj h5,csG4,ae];rw[d8];refine ii (λh=>LD h) rfl (rows:=F.B) (rowC:=bgC) (λ_=>rfl) (λ_=>rfl) (kf:=λx=>x.2.1) (λx s J=>Hl x s J) hL5.frz oM λs16 vn k16 repv=>?_;have repv':=repv.addf k16;have ka:Sub s5 (add s5 s16):=eF;refine ii (λh=>LD h) rfl (rows:=F.B) (rowC:=bgC) (λ_=>rfl) (λ_=>rfl) (kf:=λx=>x.2.2.1) (λx s J=>Ho x s J) (hL5.sub ka) oM λs20 tg k20 rept=>?_;have h20:=k20 _ _ (ka _ _ h5);have k520:=ka.trans k20;simp only[aj h20,csG4,ae,hlen];have hiv:∀x y:BG,(AV.int .u32 x.2.1=AV.int .u32 y.2.1)↔x.2.1=y.2.1:=λx y=>sI;have hit:∀x y:BG,(AV.int .u32 x.2.2.1=AV.int .u32 y.2.2.1)↔x.2.2.1=y.2.2.1:=λx y=>sI;refine⟨InvB F s20,⟨_,0,rfl,oM,rfl,.refl _,λj x hj=>oM⟩,?_⟩;rintro f t m ⟨i,hy,hi,rfl,kt,hall⟩;simp only[cI,and_true]at hy;rw[hy];simp only[Ma,aH,ae];refine au (λhlt=>?_) (λhge=>?_)
 rotate_left
 have hge:i=F.B.length:=gR;subst hge;exact hK ⟨hn32,gR⟩ t (k5.trans (k520.trans kt));have hlt:i<F.B.length:=gR;have hx:=gE hlt;generalize F.B[i]=x at hx;have ⟨pb,po,e1,e2,_⟩:=(hL5.sub (k520.trans kt)).get (i:=i) (r:=bgC x) gR;rw[e1];simp only[ae,e2];refine an λb29 s30 hb29 h30 u30=>aZ h30 rfl rfl rfl λs31 h31 u31=>?_;have k31:=bQ (u30.sub hb29) u31 hb29;have kall:Sub s s31:=(by grind [Sub.trans])
 have h3:=k31 _ _ (kt _ _ h20);have hL3:=hL.sub kall;have lenT:bp v3=some F.T.length:=by rw[hL.T.len,lMY]
 have a0:(bgC x)[0]?=some (Ii x.1):=rfl;have a1:(bgC x)[1]?=some (Iw x.2.1):=rfl;have a2:(bgC x)[2]?=some (Iw x.2.2.1):=rfl;have a4:(bgC x)[4]?=some (Ii x.2.2.2.2.1):=rfl;have a5:(bgC x)[5]?=some (Iw x.2.2.2.2.2):=rfl;have rx:∀{s2:Hq},Sub s31 s2->rdN s2 2 (.ptr b29 3)=some (pfC x.2.2.2.1 x.2.2.2.2.1):=fun {s2} q=>by simp only[rdN,q _ _ h31];rfl
 have ⟨p1,w1,g11,g12,g13⟩:=(repv'.sub (k20.trans (kt.trans k31))).at (j:=i) (k:=Iw x.2.1) (by rw[getElem?_map,hx];rfl);have ⟨p2,w2,g21,g22,g23⟩:=(rept.sub (kt.trans k31)).at (j:=i) (k:=Iw x.2.2.1) gR;rw[<- map_take,jR hiv]at g13;rw[<- map_take,jR hit]at g23;have j1:BdRow F i x->∀{s2:Hq},Sub s31 s2->uP i (InvB F s20) (F.B.length-i) K s2:=λok {s2} k2=>by
  unfold uP;simp only[aJ,ae];rw[aC];refine⟨_,oM,i+1,rfl,oM,rfl,kt.trans (k31.trans k2),λj z hj hz=>?_⟩
  grind
 have hbad:∀{s2:Hq},¬BdRow F i x->Sub s31 s2->∀(e:Int) (p:ByteArray) (i:Int),e≠0->NoR (flV e p i) s2:=fun {s2} q k2 e p i he=>hR (λg=>q (g.row _ x hx)) e p i s2 he (kall.trans k2);have j8:∀(p q:AV) (bd:Bool),bK p true q=some bd->(bd=true->¬BdRow F i x)->(bd=false->(8<=x.2.2.2.2.1/\x.2.2.2.2.1<=30)/\fk x.2.2.2.1 x.2.2.2.2.1=true)->x.2.2.2.2.2≠0->(BdS F i x->BdRow F i x)->∀{s2:Hq},Sub s31 s2->uQ (Pp b3) i (Pp b29) i p q (InvB F s20) (F.B.length-i) K s2:=λp q bd h h1 h2 hg ok {s2} k2=>by
  unfold uQ;rw[h];refine cC (λq1=>?_) λq1=>hbad (h1 q1) k2 _ _ _ oM;have ⟨m1,m2⟩:=h2 q1;have h31':=k2 _ _ h31;simp only[ao,zAY,ae,rx k2,aj h31',a5];refine PQ oM λs75 k75=>?_;refine cC (λq2=>?_) λq2=>hbad (λg=>by have:=(g.s.2 hg).2.2.1;rw[this]at q2;cases q2) (k2.trans k75) _ _ _ oM;have q2:io x.2.2.2.1 x.2.2.2.2.1 x.2.2.2.2.2=true:=by simpa using q2
  have h3':=k75 _ _ (k2 _ _ h3);simp only[aj h3',csG4,ae];have ⟨v',z1,z2,_⟩:=(hL3.B.sub (k2.trans k75)).take (k:=i) gR (λe=>by have:=congrArg List.length e;grind);rw[<- map_take]at z2;rw[z1];refine Zy (p:=gh x) gR z2 (λz sA J kA hJ=>HC (kA _ _ (k75 _ _ h31')) hJ) λs83 k83=>?_;refine cC (λq3=>?_) λq3=>hbad (λg=>by have:=(g.s.2 hg).2.2.2;rw[this]at q3;cases q3) ((k2.trans k75).trans k83) _ _ _ oM;exact j1 (ok ⟨λe=>absurd e hg,λ_=>⟨m2,m1,q2,q3⟩⟩) ((k2.trans k75).trans k83)
 have j7:∀(p q:AV) (bd:Bool),bK p true q=some bd->(bd=true->¬BdRow F i x)->(bd=false->BdS F i x->BdRow F i x)->∀{s2:Hq},Sub s31 s2->uR (Pp b3) i (Pp b29) i p q (InvB F s20) (F.B.length-i) K s2:=λp q bd h h1 h2 {s2} k2=>by
  unfold uR;rw[h];refine cC (λq1=>?_) λq1=>hbad (h1 q1) k2 _ _ _ oM;have h31':=k2 _ _ h31;simp only[ao,zAY,ae,aj h31',a5,aR,aG,Bool.false_bne];refine au (λq2=>?_) (λq2=>?_);have q2:x.2.2.2.2.2=0:=by simpa using q2
  rw[rx k2];simp only[ae];refine am (a:=[Iw 0,Ii 0]) rfl ?_;rw[eq41'];refine cC (λq3=>?_) λq3=>hbad (λg=>by have ⟨z1,z2⟩:=g.s.1 q2;simp[z1,z2]at q3) k2 _ _ _ oM;have q3:x.2.2.2.1=0/\x.2.2.2.2.1=0:=by simpa using q3
  exact j1 (h2 q1 ⟨λ_=>q3,λe=>absurd q2 e⟩) k2
  ·have q2:x.2.2.2.2.2≠0:=by simpa using q2
   rw[rx k2];refine PP λs65 k65=>?_;refine au (λq3=>?_) (λq3=>?_)
   ·exact j8 _ _ true (by rw[q3];rfl) (λ_ g=>by have:=(g.s.2 q2).1;rw[this]at q3;cases q3) (λq4=>by cases q4) q2 (h2 q1) (k2.trans k65)
   ·have h31'':=k65 _ _ h31'
    have hcl:fk x.2.2.2.1 x.2.2.2.2.1=true:=by simpa using q3
    simp only[ae,aj h31'',a4];refine dQ ?_;exact j8 _ _ (outB x.2.2.2.2.1 8 30) (by rw[q3];rfl) (λq4 g=>by have:=cR.2 (g.s.2 q2).2.1;rw[this]at q4;cases q4) (λq4=>⟨cR.1 q4,hcl⟩) q2 (h2 q1) (k2.trans k65)
 have j6:∀(p q:AV) (bd:Bool),bK p true q=some bd->(bd=true->¬BdRow F i x)->(bd=false->F.T.any (λy=>y.2 == x.2.2.1)=false->BdS F i x->BdRow F i x)->∀{s2:Hq},Sub s31 s2->uS (Pp b3) i (Pp b29) i p q (InvB F s20) (F.B.length-i) K s2:=λp q bd h h1 h2 {s2} k2=>by
  unfold uS;rw[h];refine au (λq1=>?_) (λq1=>?_)
  ·exact j7 _ _ bd (by rw[q1];rfl) h1 (λq2=>by rw[q1]at q2;cases q2) k2
  ·simp only[ao,zAY,ae,aj (k2 _ _ h3),csG3,aj (k2 _ _ h31),a2]
   refine rJ (kf:=λy=>y.2) oM (hL3.T.sub k2) (λy s J=>rF y s J) λs96 k96=>?_;exact j7 _ _ (F.T.any λy=>y.2 == x.2.2.1) (by rw[q1];rfl) (λq2 g=>by rw[g.tt]at q2;cases q2) (λq2=>h2 q1 q2) (k2.trans k96)
 have j5:∀(p q:AV) (bd:Bool),bK p true q=some bd->(bd=true->¬BdRow F i x)->(bd=false->F.T.any (λy=>y.1 == x.2.1)=false->F.T.any (λy=>y.2 == x.2.2.1)=false->BdS F i x->BdRow F i x)->uT (Pp b3) i (Pp b29) i p q (InvB F s20) (F.B.length-i) K s31:=λp q bd h h1 h2=>by
  unfold uT;rw[h];refine au (λq1=>?_) (λq1=>?_)
  ·exact j6 _ _ bd (by rw[q1];rfl) h1 (λq2=>by rw[q1]at q2;cases q2) (.refl _)
  ·simp only[ao,zAY,ae,aj h3,csG3,aj h31,a1]
   refine rJ (kf:=λy=>y.1) oM hL3.T (λy s J=>rE y s J) λs102 k102=>?_;exact j6 _ _ (F.T.any λy=>y.1 == x.2.1) (by rw[q1];rfl) (λq2 g=>by rw[g.tv]at q2;cases q2) (λq2=>h2 q1 q2) k102
 have j4:∀(p q:AV) (bd:Bool),bK p true q=some bd->(bd=true->¬BdG F x)->(bd=false->BdG F x)->uU (Pp b3) vn tg i (Pp b29) i p q (InvB F s20) (F.B.length-i) K s31:=λp q bd h h1 h2=>by
  unfold uU;rw[h];refine cC (λq1=>?_) λq1=>hbad (λg=>h1 q1 g.g) (.refl _) _ _ _ oM;rw[g11];simp only[ae,g12];refine au (λq2=>?_) (λq2=>?_)
  ·exact j5 _ _ true (by rw[q2];rfl) (λ_ g=>g.vn (g13.1 q2)) (λq=>by cases q)
  ·rw[g21]
   simp only[ae,g22];exact j5 _ _ w2 (by rw[q2];rfl) (λq3 g=>g.tg (g23.1 q3)) (λq3 q4 q5 q6=>⟨h2 q1,λz=>(by rw[g13.2 z]at q2;cases q2),λz=>(by rw[g23.2 z]at q3;cases q3),q4,q5,q6⟩)
 have j3:∀(p q:AV) (bd:Bool),bK p true q=some bd->(bd=true->¬BdG F x)->(bd=false->x.2.2.1≠0->BdG F x)->uV (Pp b3) vn tg i (Pp b29) i p q (InvB F s20) (F.B.length-i) K s31:=λp q bd h h1 h2=>by
  unfold uV;rw[h];refine au (λq1=>?_) (λq1=>?_)
  ·exact j4 _ _ bd (by rw[q1];rfl) h1 (λq2=>by rw[q1]at q2;cases q2)
  simp only[ao,zAY,ae,aj h31,a2,aR,aG,Bool.false_bne];exact j4 _ _ (x.2.2.1 == 0) (by rw[q1];rfl) (λq2 g=>g.2.2 (by simpa using q2)) (λq2=>h2 q1 (by simpa using q2))
 have j2:∀(p q:AV) (bd:Bool),bK p true q=some bd->(bd=true->¬BdG F x)->(bd=false->x.2.1<=16777215->x.2.2.1≠0->BdG F x)->uW (Pp b3) vn tg i (Pp b29) i p q (InvB F s20) (F.B.length-i) K s31:=λp q bd h h1 h2=>by
  unfold uW;rw[h];refine au (λq1=>?_) (λq1=>?_)
  ·exact j3 _ _ bd (by rw[q1];rfl) h1 (λq2=>by rw[q1]at q2;cases q2)
  simp only[ao,zAY,ae,aj h31,a1,bW];exact j3 _ _ (decide (16777215<x.2.1)) (by rw[q1];rfl) (λq2 g=>by have:=oT q2;have:=g.2.1.2;omega) (λq2=>h2 q1 (by have:=oF q2;omega))
 simp only[ao,zAY,ae,aj h31,a0,aj h3,csG3,lenT];refine jP ?_;refine au (λq1=>?_) (λq1=>?_)
 ·exact j2 _ _ true (by rw[q1];rfl) (λ_ g=>by rw[ge.2 g.1]at q1;cases q1) (λq2=>by cases q2)
 have hin:inB x.1 (F.T.length:Int)=true:=by simpa using q1
 simp only[ae,aj h31,a1,aH];exact j2 _ _ (decide (x.2.1<1)) (by rw[q1];rfl) (λq2 g=>by have:=oT q2;have:=g.2.1.1;omega) (λq2 q3 q4=>⟨ge.1 hin,⟨by have:=oF q2;omega,q3⟩,q4⟩)
theorem gJ{l:List Int}(h:∀(j:Nat) (hj:j+1<l.length),l[j]<l[j+1]):l.Pairwise (· < ·):=by
 refine pairwise_iff_getElem.2 λi j hi hj hij=>?_;obtain⟨d,rfl⟩:∃d,j=i+1+d:=⟨j-i-1,oM⟩
 induction d with
 |zero=>exact h i hj
 | succ d ih=>
   grind
theorem PS{l:List Int}(hn:l.length<=4294967296)(hv:Sl s v (ix l))(hK:∀b:Bool,(b=true↔l.Pairwise (· < ·))->K b s):wC TP 195 [v] K s:=by
 refine Sc ?_;unfold LK aK;refine⟨λys t m=>∃i:Nat,ys=[Ii i]/\m=l.length-i/\t=s/\1<=i/\∀(j:Nat) (hj:j+1<l.length),j+1<i->l[j]<l[j+1],⟨_,1,rfl,rfl,rfl,oM,λj hj h=>oM⟩,?_⟩;rintro f t m ⟨i,hy,rfl,rfl,hi,hall⟩;simp only[cI,and_true]at hy;rw[hy];have hlen:bp v=some l.length:=by rw[hv.len,ga]
 simp only[LJ,hlen,aH,ae,aA];refine au (λhlt=>?_) (λhge=>?_)
 rotate_left
 grind [gJ]
 have hlt:i<l.length:=gR;have ⟨p1,g1,g2⟩:=hv.get (i:=i) (by rw[ga];exact hlt);rw[lV hlt]at g2;have hlt':i-1<l.length:=oM;have ⟨p2,g3,g4⟩:=hv.get (i:=i-1) (by rw[ga];exact hlt');rw[lV hlt']at g4;rw[g1];simp only[ae,g2,cA];rw[aC,show((i:Int)-1)=((i-1:Nat):Int)by omega,g3];simp only[ae,g4,eR];have e:i-1+1=i:=oM;refine au (λq=>?_) (λq=>?_)
 ·have q:=oT q
  refine hK false ⟨λq=>(by cases q),λg=>?_⟩;have:=(pairwise_iff_getElem.1 g) (i-1) i hlt' hlt oM;omega
 have q:=oF q;simp only[aJ,ae];rw[aC];refine⟨_,oM,i+1,rfl,rfl,by trivial,oM,λj hj h=>?_⟩
 grind
def prt(P:List Int):List AV:=(List.range 32).map λ(n:Nat)=>AV.int .i64 ((P.count (n:Int):Nat):Int)
theorem rK{P:List Int}:(prt P).length=32:=by unfold prt;simp
theorem HE{P:List Int}{n:Nat}(h:n<32):(prt P)[n]?=some (Ii ((P.count (n:Int):Nat))):=by unfold prt;simp[h]
theorem HF{P:List Int}{n:Nat}(h:n<32):(prt P).set n ((P.count (n:Int):Nat)+1:Int)=prt (P ++ [(n:Int)]):=by
 apply ext_getElem?
 grind [rK,HE]
theorem HG{n:Nat}(h:n<32):cN 32 1 (Pp b) n=some (.ptr b n):=by
 have:blt n 32=true:=by rw[blt_eq];exact h
 simp[cN,this]
def iN(F:FG)(x:List Int×List Int):Prop:=(x.1≠[]/\x.2≠[])/\((∀n∈x.1,0<=n/\n<F.lf)/\∀n∈x.2,0<=n/\n<(F.B.length:Int))/\x.1.Pairwise (· < ·)/\x.2.Pairwise (· < ·)
structure SegOk(F:FG):Prop where
 n:F.S.length<=64
 row:∀x∈F.S,iN F x
 port:∀n:Int,((F.S.map (·.1)).flatten).count n<=32
abbrev InvS(F:FG)(s14:Hq)(b13:Nat):List AV->Hq->Nat->Prop:=λys t m=>∃i:Nat,ys=[Ii i]/\i<=F.S.length/\m=F.S.length-i/\aB (λj=>j=b13) s14 t/\Hc t b13 323 (prt ((F.S.take i).map (·.1)).flatten)/\(∀x∈F.S.take i,iN F x)/\∀n:Int,(((F.S.take i).map (·.1)).flatten).count n<=32
abbrev InvP(F:FG)(s14:Hq)(b13:Nat)(P l:List Int):List AV->Hq->Nat->Prop:=λys t m=>∃k:Nat,ys=[Ii k]/\k<=l.length/\m=l.length-k/\aB (λj=>j=b13) s14 t/\Hc t b13 323 (prt (P++l.take k))/\∀n:Int,(P++l.take k).count n<=32
theorem sin1{x0:Int}{cb:Nat}(hc:s cb=some (t,.cells 52 (csG F v2 v3 v4 v5 v6 v7)))(hJ:∀s',Sub s s'->J (!inB x0 F.lf) s'):funK TP (.fn (.func 193) [] [Pp cb]) [x0] J s:=by
 refine dV kR (R9 ?_);unfold LH;simp only[ao,zAY,ae,aj hc,csG0]
 grind [jP,bD,bG,Sub.refl]
theorem sin2{x0:Int}{cb:Nat}(hc:s cb=some (t,.cells 52 (csG F v2 v3 v4 v5 v6 v7)))(hB:bp v4=some F.B.length)(hJ:∀s',Sub s s'->J (!inB x0 (F.B.length:Int)) s'):funK TP (.fn (.func 194) [] [Pp cb]) [x0] J s:=by
 refine dV kR (Sa ?_);unfold LI;simp only[ao,zAY,ae,aj hc,csG4,hB]
 grind [jP,bD,bG,Sub.refl]
theorem xF{l:List Int}{n:Int}:l.any (λx=>!inB x n)=false↔∀x∈l,0<=x/\x<n:=by
 grind [ge]
theorem HI{α β:Type}{f:α->List β}{S:List α}{i:Nat}{x:α}(hx:S[i]?=some x):(S.map f).flatten=((S.take i).map f).flatten++(f x++((S.drop (i+1)).map f).flatten):=by
 have ⟨hi,e⟩:=gS hx;have h1:S=S.take i++x::S.drop (i+1):=by rw[<- e,getElem_cons_drop,take_append_drop]
 grind
theorem PT{α β:Type}{f:α->List β}{S:List α}{i:Nat}{x:α}(hx:S[i]?=some x):((S.take (i+1)).map f).flatten=((S.take i).map f).flatten++f x:=by rw[take_add_one,hx];simp
theorem ZA(hF:FabOk F)(hB:F.B.length<=32)(hn:F.S.length<=4294967296)(hnn:∀x∈F.S,x.1.length<=4294967296/\x.2.length<=4294967296)(hc:s c=some (t,.cells 238 (csG F v2 v3 v4 v5 v6 v7)))(hL:FL s F v2 v3 v4 v5 v6 v7)(hK:Kok s (SegOk F) K)(hR:Rbad s (SegOk F) NoR):wC TP 150 [Pp c] K s:=by
 refine Ta (lW rfl hc hL λb3 s5 h5 k5=>?_);have hL5:=hL.sub k5;have hlen:bp v5=some F.S.length:=hL5.S.len;have lenB:bp v4=some F.B.length:=by rw[hL.B.len,lMY]
 simp only[ao,zAY,ae,aj h5,csG5,hlen,bW];refine cC (λq=>?_) λq=>hR ((by grind [SegOk.n])) _ _ _ s5 oM k5;have hn64:F.S.length<=64:=gR;refine an λb13 s14 hb13 h13 u13=>?_;have h13:Hc s14 b13 323 (prt []):=h13;have k14:=u13.sub hb13;simp only[aj (k14 _ _ h5),csG5,ae,hlen];have sub5:∀{t:Hq},aB (λj=>j=b13) s14 t->Sub s5 t:=fun {t} kp i e hi=>kp i e (k14 i e hi) (cx hb13 hi);refine⟨InvS F s14 b13,⟨_,0,rfl,oM,rfl,.refl _ _,h13,sI,sI⟩,?_⟩;rintro f t m ⟨i,hy,hi,rfl,kp,hprt,hall,hcnt⟩;simp only[cI,and_true]at hy;rw[hy];simp only[Md,aH,ae];refine au (λhlt=>?_) (λhge=>?_)
 rotate_left
 have hge:i=F.S.length:=gR;subst hge;rw[take_length]at hall hcnt;exact hK ⟨hn64,hall,hcnt⟩ t (k5.trans (sub5 kp));have hlt:i<F.S.length:=gR;have hx:F.S[i]?=some F.S[i]:=gE hlt;have hxm:F.S[i]∈F.S:=getElem_mem hlt;generalize F.S[i]=x at hx hxm;have hxn:=hnn x hxm;have ⟨pb,po,l1,l2,e1,e2,_,_,q1,q2⟩:=(hL5.S.sub (sub5 kp)).at hx;rw[e1];simp only[ae,e2];refine an λb22 s23 hb22 h23 u23=>aZ h23 rfl rfl (by simp[q1.one,q2.one]) λs24 h24 u24=>?_;have k24:Sub t s24:=bQ (u23.sub hb22) u24 hb22;have kp24:aB (λj=>j=b13) s14 s24:=kp.trans k24.keep;have kall:Sub s s24:=k5.trans (sub5 kp24);have a0:[l1,l2][0]?=some l1:=rfl;have a1:[l1,l2][1]?=some l2:=rfl;have n1:bp l1=some x.1.length:=by rw[q1.len,ga]
 have n2:bp l2=some x.2.length:=by rw[q2.len,ga]
 have h3:=sub5 kp24 _ _ h5;have hp24:=k24 _ _ hprt;have hbad:∀{s2:Hq},¬iN F x->Sub s24 s2->∀(e:Int) (p:ByteArray) (i:Int),e≠0->NoR (flV e p i) s2:=fun {s2} q k2 e p i he=>hR (λg=>q (g.row _ hxm)) e p i s2 he (kall.trans k2);have j3:∀(p q:AV) (bd:Bool),bK p true q=some (.bool bd)->(bd=true->¬iN F x)->(bd=false->iN F x)->∀{s2:Hq},Sub s24 s2->uX (Pp b13) i (Pp b22) i p q (InvS F s14 b13) (F.S.length-i) K s2:=λp q bd h h1 h2 {s2} k2=>by
  unfold uX aK;rw[h];simp only[ae];refine cC (λe=>?_) λe=>hbad (h1 e) k2 _ _ _ oM;have row:=h2 e;simp only[ao,zAY,ae,aj (k2 _ _ h24),a0,n1];refine⟨InvP F s14 b13 ((F.S.take i).map (·.1)).flatten x.1,⟨_,0,rfl,oM,rfl,kp24.trans k2.keep,by rw[take_zero,append_nil];exact k2 _ _ hp24,by rw[take_zero,append_nil];exact hcnt⟩,?_⟩;rintro f t2 m ⟨kk,hy,hk,rfl,kp2,hp2,hc2⟩;simp only[cI,and_true]at hy;rw[hy];simp only[Mc,aH,ae,aA];refine au (λhl=>?_) (λhg=>?_)
  rotate_left
  have hg:kk=x.1.length:=gR;subst hg;rw[take_length]at hp2 hc2;simp only[aJ,ae];rw[aC];refine⟨_,oM,i+1,rfl,oM,rfl,kp2,by grind [PT],λz hz=>?_,by grind [PT]⟩;rw[take_add_one,hx]at hz
  grind
  have hl:kk<x.1.length:=gR;have hq1:Sl t2 l1 (ix x.1):=by
   have ⟨pb',po',l1',l2',e1',e2',_,_,q1',_⟩:=(hL5.S.sub (sub5 kp2)).at hx;have ⟨vs,w1,w2,w3⟩:=hL5.S;have hi':i<vs.length:=by rw[w2];exact hlt
   have hq:vs[i]?=some vs[i]:=gE hi';have ⟨pb1,po1,x1,x2,_⟩:=(w1.sub (sub5 kp)).get (i:=i) (r:=[vs[i].1,vs[i].2]) gR
   grind [Sl.sub]
  have ⟨pp,g1,g2⟩:=hq1.get (i:=kk) (by rw[ga];exact hl);rw[lV hl]at g2;have ⟨r1,r2⟩:=row.2.1.1 _ (getElem_mem hl);have hlf:=hF.lf;obtain⟨n,hn'⟩:∃n:Nat,x.1[kk]=(n:Int):=⟨x.1[kk].toNat,oM⟩
  have hn32:n<32:=oM;rw[hn']at g2;rw[g1];simp only[ae,g2,HG hn32,aj hp2,HE hn32,aJ];have hcn:=hc2 (n:Int);rw[aC];refine aT hp2 (by rw[rK];exact hn32) rfl λs59 h59 u59=>?_;rw[HF hn32]at h59;have et:(((F.S.take i).map (·.1)).flatten++x.1.take kk) ++ [(n:Int)]=((F.S.take i).map (·.1)).flatten++x.1.take (kk+1):=by rw[append_assoc,take_add_one,gE hl,hn'];rfl
  rw[et]at h59;simp only[aj h59,HE hn32,ae,bW];have kp59:aB (λj=>j=b13) s14 s59:=kp2.trans (u59.keep rfl);refine cC (λe2=>?_) λe2=>hR (λg=>?_) _ _ _ s59 oM (k5.trans (sub5 kp59));have e2:=oF e2;rw[aC];refine⟨_,oM,kk+1,rfl,oM,rfl,kp59,h59,λn'=>?_⟩
  by_cases en:n'=(n:Int)
  rw[en];omega;rw[<- et,count_append]
  grind
  have e2:=oT e2;have:=g.port (n:Int);rw[HI (f:=λ(z:List Int×List Int)=>z.1) hx]at this;have e3:x.1=x.1.take (kk+1)++x.1.drop (kk+1):=(take_append_drop _ _).symm;have e4:List.count (n:Int) x.1=List.count (n:Int) (x.1.take (kk+1))+List.count (n:Int) (x.1.drop (kk+1)):=by
   grind
  rw[count_append]at e2;simp only[count_append]at this;omega
 have j2:∀(p q:AV) (bd:Bool),bK p true q=some (.bool bd)->(bd=true->¬iN F x)->(bd=false->x.1.Pairwise (· < ·)->x.2.Pairwise (· < ·)->iN F x)->∀{s2:Hq},Sub s24 s2->uY (Pp b13) i (Pp b22) i p q (InvS F s14 b13) (F.S.length-i) K s2:=λp q bd h h1 h2 {s2} k2=>by
  unfold uY;rw[h];simp only[ae];refine cC (λe=>?_) λe=>hbad (h1 e) k2 _ _ _ oM;simp only[ao,zAY,ae,aj (k2 _ _ h24),a0];refine PS hxn.1 (q1.sub (k24.trans k2)) λb1 hb1=>?_;simp only[bD,ae];refine au (λe1=>?_) (λe1=>?_)
  ·exact j3 _ _ true (by rw[e1];rfl) (λ_ g=>by rw[hb1.2 g.2.2.1]at e1;cases e1) (λq=>by cases q) k2
  ·simp only[aj (k2 _ _ h24),a1,ae]
   refine PS hxn.2 (q2.sub (k24.trans k2)) λb2 hb2=>?_;simp only[bD,ae];exact j3 _ _ (!b2) (by rw[e1];rfl) (λe2 g=>by rw[hb2.2 g.2.2.2]at e2;cases e2) (λe2=>gR) k2
 have j1:∀(p q:AV) (bd:Bool),bK p true q=some (.bool bd)->(bd=true->¬iN F x)->(bd=false->x.1≠[]/\x.2≠[])->uZ (Pp b3) (Pp b13) i (Pp b22) i p q (InvS F s14 b13) (F.S.length-i) K s24:=λp q bd h h1 h2=>by
  unfold uZ;rw[h];simp only[ae];refine cC (λe=>?_) λe=>hbad (h1 e) (.refl _) _ _ _ oM;simp only[ao,zAY,ae,aj h24,a0];refine PR (p:=λn=>!inB n F.lf) hxn.1 (q1.sub k24) (λz sA J kA hJ=>sin1 (kA _ _ h3) hJ) λs36 k36=>?_;refine au (λe1=>?_) (λe1=>?_)
  ·exact j2 _ _ true (by rw[e1];rfl) (λ_ g=>by have:=xF.2 g.2.1.1;rw[this]at e1;cases e1) (λq=>by cases q) k36
  ·simp only[aj (k36 _ _ h24),a1,ae]
   refine PR (p:=λn=>!inB n (F.B.length:Int)) hxn.2 (q2.sub (k24.trans k36)) (λz sA J kA hJ=>sin2 (kA _ _ (k36 _ _ h3)) lenB hJ) λs75 k75=>?_;exact j2 _ _ (x.2.any λn=>!inB n (F.B.length:Int)) (by rw[e1];rfl) (λe2 g=>by have:=xF.2 g.2.1.2;rw[this]at e2;cases e2) (λe2 p1 p2=>⟨h2 e,⟨xF.1 e1,xF.1 e2⟩,p1,p2⟩) (k36.trans k75)
 simp only[ao,zAY,ae,aj h24,a0,n1,aR,aG,Bool.false_bne];have em:∀{l:List Int},(((l.length:Nat):Int) == 0)=true↔l=[]:=fun {l}=>by rw[beq_iff_eq];constructor;intro h;exact length_eq_zero_iff.1 oM;rintro rfl;rfl
 refine au (λe=>?_) (λe=>?_)
 ·exact j1 _ _ true (by rw[e];rfl) (λ_ g=>g.1.1 (em.1 e)) (λq=>by cases q)
 simp only[a1,ae,n2];exact j1 _ _ (((x.2.length:Nat):Int) == 0) (by rw[e];rfl) (λq g=>g.1.2 (em.1 q)) (λq=>gR)
theorem HJ{l:List Int}{n:Int}(hn:l.length<=4294967296)(hv:Sl s v (ix l))(hK:K (fstI (λx=>n == x) l:Int) s):wC TP 222 [v,n] K s:=by
 refine SN ?_;unfold LY aK;have hlen:bp v=some l.length:=by rw[hv.len,ga]
 rw[hlen];simp only[ae];refine⟨λys t m=>∃i:Nat,ys=[Ii i]/\i<=l.length/\m=l.length-i/\t=s/\∀j z,j<i->l[j]?=some z->(n == z)=false,⟨_,0,rfl,oM,rfl,rfl,λj z hj=>oM⟩,?_⟩;rintro f t m ⟨i,hy,hi,rfl,rfl,hall⟩;simp only[cI,and_true]at hy;rw[hy];simp only[LX,aH,ae,aA];refine au (λhlt=>?_) (λhge=>?_)
 rotate_left
 grind [xE]
 have hlt:i<l.length:=gR;have ⟨pp,g1,g2⟩:=hv.get (i:=i) (by rw[ga];exact hlt);rw[lV hlt]at g2;have hx:l[i]?=some l[i]:=gE hlt;generalize l[i]=x at hx g2;rw[g1];simp only[ae,g2,aR,aG,Bool.false_bne];refine au (λq=>?_) (λq=>?_)
 grind [xD]
 simp only[aJ,ae];rw[aC];refine⟨_,oM,i+1,rfl,oM,rfl,by trivial,λj z hj hz=>?_⟩
 grind
theorem PU{l:List Int}{n:Int}(hn:l.length<=4294967296)(hv:Sl s v (ix l))(hK:K (decide (n∈l)) s):wC TP 200 [v,n] K s:=by
 refine Sj ?_
 grind [LO,HJ,ci,bG,xC]
def andL(x y:Int):Int:=bV .u64 ((BitVec.ofInt 64 x &&& BitVec.ofInt 64 y).toNat:Nat)
theorem ZB{x y:Int}:bO .and (Iq x) (Iq y)=some (Iq (andL x y)):=by simp only[bO,arith,cD,iD,cond_true];rfl
theorem HK{x:Int}:dh .shr (Iq x) (Iq 40)=some (Iq (x.fdiv 1099511627776)):=by show frc (x.fdiv ((2^(min 40 (IntKind.bits .u64)):Nat):Int)) (λn=>some (AV.int .u64 n))=_;rw[cD];rfl
def fu(m:Int):Bool:=decide (m<=281474976710655)&&(andL (m.fdiv 1099511627776) 1 != 0)
theorem ZC{m:Int}(hK:K (fu m) s):wC TP 199 [Iq m] K s:=by refine Si ?_;unfold LN;unfold fu at hK;simp only[eR,ae];refine au (λe=>?_) (λe=>?_);rw[HK];simp only[ae,ZB,aR,aG,Bool.true_bne];rw[e]at hK ⊢;exact hK;rw[e]at hK ⊢;exact hK
def lX(m:Int):Bool:=!(decide (m<2199023255552)||decide (2199023255584<=m))
theorem HL{m:Int}(hK:∀r,K (.tup [Ii r,(lX m)]) s):wC TP 201 [Iq m] K s:=by
 refine Sk ?_;unfold LP;unfold lX at hK;simp only[aH,ae];have j0:∀(p q:AV) (bd:Bool),bK p true q=some (.bool bd)->(decide (m<2199023255552)||decide (2199023255584<=m))=bd->uu (Iq m) p q K s:=λp q bd h he=>by unfold uu;rw[h];rw[he]at hK;simp only[ae];refine au (λe=>?_) (λe=>?_);rw[e]at hK;exact hK 0;rw[e]at hK;simp only[cA,ae];exact hK _
 refine au (λe=>?_) (λe=>?_)
 simp_all
 simp only[ci,ae];exact j0 _ _ (decide (2199023255584<=m)) (by rw[e];rfl) (by rw[e];rfl)
def jS(d:BG)(ip:Int):Bool:=(ip == 0)||((d.2.2.2.2.2 != 0)&&(ip != d.2.2.2.2.2)&&io d.2.2.2.1 d.2.2.2.2.1 ip)
theorem ZD{d:BG}{ip:Int}(hd:d.2.2.2.2.2≠0->-1000<=d.2.2.2.2.1/\d.2.2.2.2.1<=32)(hK:∀s',Sub s s'->K (jS d ip) s'):wC TP 202 [.agg (bgC d),Iw ip] K s:=by
 refine So ⟨rfl,an λb s1 hb h1 u1=>?_⟩;have h1:Hc s1 b 161 (bgC d):=h1;have k1:=u1.sub hb;have d5:(bgC d)[5]?=some (Iw d.2.2.2.2.2):=rfl;have rd:rdN s1 2 (.ptr b 3)=some (pfC d.2.2.2.1 d.2.2.2.2.1):=by simp only[rdN,h1];rfl
 have hk:=λs' (q:Sub s1 s')=>hK s' (k1.trans q);unfold jS at hk;simp only[aR,aG,Bool.false_bne,ae];refine au (λe=>?_) (λe=>?_);have:=hk s1 (.refl _);rw[e]at this;exact this;rw[e]at hk;simp only[ao,zAY,ae,aj h1,d5,aR,aG,Bool.true_bne];have j0:∀(p q:AV) (ok:Bool),bK p q false=some (.bool ok)->((d.2.2.2.2.2 != 0)&&(ip != d.2.2.2.2.2))=ok->(ok=true->d.2.2.2.2.2≠0)->uw (Iw ip) (Pp b) p q K s1:=λp q ok h he h0=>by unfold uw;rw[h];rw[he]at hk;simp only[ae];refine au (λe2=>?_) (λe2=>?_);simp only[ao,zAY,ae,rd];refine PQ (hd (h0 e2)) λs11 k11=>?_;have:=hk s11 k11;rw[e2]at this;rw[e2];exact this;have:=hk s1 (.refl _);rw[e2]at this;rw[e2];exact this
 have en:(!(d.2.2.2.2.2 == 0))=(d.2.2.2.2.2 != 0):=rfl;rw[en];refine au (λe2=>?_) (λe2=>?_);exact j0 _ _ (!(ip == d.2.2.2.2.2)) (by rw[e2];rfl) (by rw[e2];rfl) (λ_=>by simpa using e2)
 simp_all
theorem HM{α β γ:Type}{f:α->β}{g:α->γ}{l:List α}{x:α}(h:∀y∈l,f x=f y↔g x=g y):f x∈l.map f↔g x∈l.map g:=by
 grind
theorem w64u{n:Int}(h:0<=n/\n<4294967296):bV .u64 n=n:=by rw[gB];simp[IntKind.bits,IntKind.signed]<;>omega
theorem HN{p:AV}(h:rd1 s p=some v)(k:Sub s s'):rd1 s' p=some v:=by
 cases p<;>try (simp[rd1]at h;done)
 rename_i b o;have ⟨t,e,l,h1,h2⟩:=AK h;rw[aj (k _ _ h1)];exact h2
structure HoRow(F:FG)(i:Nat)(x:R4):Prop where
 m:x.1≠0/\x.1<=281474976710655/\fu x.1=false
 r:(0<=x.2.2.1/\x.2.2.1<(F.B.length:Int))/\(-1<=x.2.2.2/\x.2.2.2<=(F.S.length:Int)-1)
 s:x.2.2.2≠-1->∀y,F.S[x.2.2.2.toNat]?=some y->x.2.2.1∈y.2
 a:(x.1≠1577058561/\lX x.1=false)/\∀d,F.B[x.2.2.1.toNat]?=some d->jS d x.2.1=true
 dm:(x.2.2.1,x.1) ∉ (F.H.take i).map λy=>(y.2.2.1,y.1)
 di:x.2.1≠0->(x.2.2.1,x.2.1) ∉ (F.H.take i).map λy=>(y.2.2.1,y.2.1)
structure HosOk(F:FG):Prop where
 n:F.H.length<=128
 row:∀(i:Nat) x,F.H[i]?=some x->HoRow F i x
abbrev InvH(F:FG)(s20:Hq):List AV->Hq->Nat->Prop:=λys t m=>∃i:Nat,ys=[Ii i]/\i<=F.H.length/\m=F.H.length-i/\Sub s20 t/\∀(j:Nat) x,j<i->F.H[j]?=some x->HoRow F j x
theorem HO(hD:DomOk F)(hS:F.S.length<=64)(hn:F.H.length<=4294967296)(hnn:∀x∈F.S,x.1.length<=4294967296/\x.2.length<=4294967296)(hip:∀x∈F.H,0<=x.2.1/\x.2.1<4294967296)(hc:s c=some (t,.cells 238 (csG F v2 v3 v4 v5 v6 v7)))(hL:FL s F v2 v3 v4 v5 v6 v7)(hK:Kok s (HosOk F) K)(hR:Rbad s (HosOk F) NoR):wC TP 151 [Pp c] K s:=by
 refine Td (lW rfl hc hL λb3 s5 h5 k5=>?_);have hL5:=hL.sub k5;have hlen:bp v6=some F.H.length:=by rw[hL5.H.len,lMY]
 have lenB:bp v4=some F.B.length:=by rw[hL5.B.len,lMY]
 have lenS:=hL5.S.len;simp only[ao,zAY,ae,aj h5,csG6,hlen,bW];refine cC (λq=>?_) λq=>hR ((by grind [HosOk.n])) _ _ _ s5 oM k5;have hn128:F.H.length<=128:=gR;simp only[aj h5,csG6,ae];refine ij (λh=>LL h) rfl rfl (rows:=F.H) (rowC:=hgC) (λ_=>rfl) (λ_=>rfl) (kf:=λx=>[x.2.2.1,Iq x.1]) rD (λx=>⟨_,_,rfl⟩) (λ_=>rfl) (λ_=>rfl) (λx s J=>Hu x s J) hL5.H oM λs16 ma k16 repm=>?_;have h16:=k16 _ _ h5;simp only[aj h16,csG6,ae];refine ij (λh=>LL h) rfl rfl (rows:=F.H) (rowC:=hgC) (λ_=>rfl) (λ_=>rfl) (kf:=λx=>[x.2.2.1,Iq (bV .u64 x.2.1)]) rD (λx=>⟨_,_,rfl⟩) (λ_=>rfl) (λ_=>rfl) (λx s J=>Hv x s J) (hL5.H.sub k16) oM λs20 ia k20 repi=>?_;have h20:=k20 _ _ h16;have k520:=k16.trans k20;simp only[aj h20,csG6,ae,hlen];have him:∀x y:R4,(AV.agg [x.2.2.1,Iq x.1]=AV.agg [y.2.2.1,Iq y.1])↔(x.2.2.1,x.1)=(y.2.2.1,y.1):=λx y=>sI;refine⟨InvH F s20,⟨_,0,rfl,oM,rfl,.refl _,λj x hj=>oM⟩,?_⟩;rintro f t m ⟨i,hy,hi,rfl,kt,hall⟩;simp only[cI,and_true]at hy;rw[hy];simp only[Me,aH,ae];refine au (λhlt=>?_) (λhge=>?_)
 rotate_left
 have hge:i=F.H.length:=gR;subst hge;exact hK ⟨hn128,gR⟩ t (k5.trans (k520.trans kt));have hlt:i<F.H.length:=gR;have hx:=gE hlt;have hxm:=getElem_mem hlt;generalize F.H[i]=x at hx hxm;have hxi:=hip x hxm;have ⟨pb,po,e1,e2,_⟩:=(hL5.H.sub (k520.trans kt)).get (i:=i) (r:=hgC x) gR;rw[e1];simp only[ae,e2];refine an λb28 s29 hb28 h29 u29=>aZ h29 rfl rfl rfl λs30 h30 u30=>?_;have k30:=bQ (u29.sub hb28) u30 hb28;have kall:Sub s s30:=(by grind [Sub.trans])
 have h3:=k30 _ _ (kt _ _ h20);have hL3:=hL.sub kall;have a0:(hgC x)[0]?=some (Iq x.1):=rfl;have a1:(hgC x)[1]?=some (Iw x.2.1):=rfl;have a2:(hgC x)[2]?=some (Ii x.2.2.1):=rfl;have a3:(hgC x)[3]?=some (Ii x.2.2.2):=rfl;have ⟨p1,w1,g11,g12,g13⟩:=(repm.sub (k20.trans (kt.trans k30))).at (j:=i) (k:=.agg [x.2.2.1,Iq x.1]) gR;have ⟨p2,w2,g21,g22,g23⟩:=(repi.sub (kt.trans k30)).at (j:=i) (k:=.agg [x.2.2.1,Iq (bV .u64 x.2.1)]) gR;rw[<- map_take,jR him]at g13;rw[<- map_take,HM (f:=λx:R4=>AV.agg [x.2.2.1,Iq (bV .u64 x.2.1)]) (g:=λy:R4=>(y.2.2.1,y.2.1)) (λy hy=>by have:=hip y (mem_of_mem_take hy);simp only[AV.agg.injEq,cI,AV.int.injEq,true_and,and_true,w64u hxi,w64u this,Prod.mk.injEq])]at g23
 have next:HoRow F i x->∀{s2:Hq},Sub s30 s2->∃m',m'<F.H.length-i/\InvH F s20 [((i:Int)+1:Int)] s2 m':=λok {s2} k2=>by
  refine⟨_,oM,i+1,rfl,oM,rfl,kt.trans (k30.trans k2),λj z hj hz=>?_⟩
  grind
 have hbad:∀{s2:Hq},¬HoRow F i x->Sub s30 s2->∀(e:Int) (p:ByteArray) (i:Int),e≠0->NoR (flV e p i) s2:=fun {s2} q k2 e p i he=>hR (λg=>q (g.row _ x hx)) e p i s2 he (kall.trans k2);have j7:∀(p r:AV) (bd:Bool),(oK (bK p r false) λv=>oK (bK w1 true v) λv=>v=bd)->(bd=true->¬HoRow F i x)->(bd=false->HoRow F i x)->∀{s2:Hq},Sub s30 s2->va i i w1 p r (InvH F s20) (F.H.length-i) K s2:=λp r bd h h1 h2 {s2} k2=>by unfold va aA;have ⟨z1,z2,h⟩:=aX h;have ⟨z3,z4,h⟩:=aX h;rw[z2];simp only[ae,z4,h];refine cC (λq=>?_) λq=>hbad (h1 q) k2 _ _ _ oM;simp only[aJ,ae];rw[aC];exact next (h2 q) k2
 have j6:∀(p q:AV) (bd:Bool),bK p true q=some bd->(bd=true->¬HoRow F i x)->(bd=false->(x.2.2.1,x.1) ∉ ((F.H.take i).map λy=>(y.2.2.1,y.1))->(x.2.1≠0->(x.2.2.1,x.2.1) ∉ (F.H.take i).map λy=>(y.2.2.1,y.2.1))->HoRow F i x)->∀{s2:Hq},Sub s30 s2->vc ma ia i (Pp b28) i p q (InvH F s20) (F.H.length-i) K s2:=λp q bd h h1 h2 {s2} k2=>by
  unfold vc aA;rw[h];refine cC (λq1=>?_) λq1=>hbad (h1 q1) k2 _ _ _ oM;have g12':=HN g12 k2;have g22':=HN g22 k2;rw[g11];simp only[ae,g12'];refine au (λq2=>?_) (λq2=>?_)
  ·subst q2
   refine cC (λq=>by cases q) λq=>hbad (λg=>g.dm (g13.1 rfl)) k2 _ _ _ oM
  ·subst q2
   have hdm:(x.2.2.1,x.1) ∉ ((F.H.take i).map λy=>(y.2.2.1,y.1)):=λz=>by cases g13.2 z
   simp only[ao,zAY,ae,aj (k2 _ _ h30),a1,aR,aG,Bool.true_bne];refine au (λq3=>?_) (λq3=>?_)
   ·rw[g21]
    simp only[ae,g22',q3];have hne:x.2.1≠0:=by simpa using q3
    exact j7 _ _ w2 (by cases w2<;>exact am (a:=_) rfl (am (a:=_) rfl rfl)) (λq4 g=>g.di hne (g23.1 q4)) (λq4=>gR) k2
   ·rw[q3]
    have he:x.2.1=0:=by simpa using q3
    exact j7 _ _ false (am (a:=false) rfl (am (a:=false) rfl rfl)) (λq4=>by cases q4) (λq4=>h2 q1 hdm λz=>absurd he z) k2
 have j5:∀(p q:AV) (bd:Bool),bK p true q=some bd->(bd=true->¬HoRow F i x)->(bd=false->(∀d,F.B[x.2.2.1.toNat]?=some d->jS d x.2.1=true)->(x.2.2.1,x.1) ∉ ((F.H.take i).map λy=>(y.2.2.1,y.1))->(x.2.1≠0->(x.2.2.1,x.2.1) ∉ (F.H.take i).map λy=>(y.2.2.1,y.2.1))->HoRow F i x)->(0<=x.2.2.1/\x.2.2.1<(F.B.length:Int))->∀{s2:Hq},Sub s30 s2->vd (Pp b3) ma ia i (Pp b28) i p q (InvH F s20) (F.H.length-i) K s2:=λp q bd h h1 h2 hr {s2} k2=>by
  unfold vd;rw[h];refine au (λq1=>?_) (λq1=>?_)
  ·exact j6 _ _ true (by rw[q1];rfl) (λ_=>h1 q1) (λq2=>by cases q2) k2
  ·have hb:x.2.2.1.toNat<F.B.length:=oM
   have hd:=gE hb;generalize F.B[x.2.2.1.toNat]=d at hd;have ⟨pb,po,f1,f2,_⟩:=(hL3.B.sub k2).get (i:=x.2.2.1.toNat) (r:=bgC d) (by rw[getElem?_map,hd];rfl);rw[show((x.2.2.1.toNat:Nat):Int)=x.2.2.1 by omega]at f1;simp only[ao,zAY,ae,aj (k2 _ _ h3),csG4,aj (k2 _ _ h30),a2,f1,f2,a1];refine ZD (λq3=>?_) λs94 k94=>?_;have:=((hD.row _ d hd).s.2 q3).2.1;omega
   ·simp only[bD,ae]
    exact j6 _ _ (!jS d x.2.1) (by rw[q1];rfl) (λq2 g=>by rw[g.a.2 d hd]at q2;cases q2) (λq2=>h2 q1 λd' hd'=>by rw[hd]at hd';cases hd';simpa using q2) (k2.trans k94)
 have j4:∀(p q:AV) (ok:Bool),bK p q false=some ok->(ok=true->¬HoRow F i x)->(ok=false->(x.1≠1577058561/\lX x.1=false)->(∀d,F.B[x.2.2.1.toNat]?=some d->jS d x.2.1=true)->(x.2.2.1,x.1) ∉ ((F.H.take i).map λy=>(y.2.2.1,y.1))->(x.2.1≠0->(x.2.2.1,x.2.1) ∉ (F.H.take i).map λy=>(y.2.2.1,y.2.1))->HoRow F i x)->(0<=x.2.2.1/\x.2.2.1<(F.B.length:Int))->∀{s2:Hq},Sub s30 s2->ve (Pp b3) ma ia i (Pp b28) i p q (InvH F s20) (F.H.length-i) K s2:=λp q ok h h1 h2 hr {s2} k2=>by
  unfold ve;rw[h];refine cC (λq1=>?_) λq1=>hbad (h1 q1) k2 _ _ _ oM;simp only[ao,zAY,ae,aj (k2 _ _ h30),a0];refine HL λr=>?_;simp only[ae,aj (k2 _ _ h30),a0,aR,aG,Bool.false_bne];refine au (λq2=>?_) (λq2=>?_)
  ·rw[q2]
   exact j5 _ _ true rfl (λ_ g=>g.a.1.1 (by simpa using q2)) (λq=>by cases q) hr k2
  ·rw[q2]
   exact j5 _ _ (lX x.1) rfl (λq3 g=>by rw[g.a.1.2]at q3;cases q3) (λq3=>h2 q1 ⟨by simpa using q2,q3⟩) hr k2
 have j3:∀(p q:AV) (bd:Bool),bK p true q=some bd->(bd=true->¬HoRow F i x)->(bd=false->((0<=x.2.2.1/\x.2.2.1<(F.B.length:Int))/\(-1<=x.2.2.2/\x.2.2.2<=(F.S.length:Int)-1))/\((x.2.2.2≠-1->∀y,F.S[x.2.2.2.toNat]?=some y->x.2.2.1∈y.2)->(x.1≠1577058561/\lX x.1=false)->(∀d,F.B[x.2.2.1.toNat]?=some d->jS d x.2.1=true)->(x.2.2.1,x.1) ∉ ((F.H.take i).map λy=>(y.2.2.1,y.1))->(x.2.1≠0->(x.2.2.1,x.2.1) ∉ (F.H.take i).map λy=>(y.2.2.1,y.2.1))->HoRow F i x))->∀{s2:Hq},Sub s30 s2->vf (Pp b3) ma ia i (Pp b28) i p q (InvH F s20) (F.H.length-i) K s2:=λp q bd h h1 h2 {s2} k2=>by
  unfold vf;rw[h];refine cC (λq1=>?_) λq1=>hbad (h1 q1) k2 _ _ _ oM;have ⟨⟨r1,r2⟩,ok⟩:=h2 q1;simp only[ao,zAY,ae,aj (k2 _ _ h30),a3,aR,aG,Bool.true_bne];refine au (λq2=>?_) (λq2=>?_)
  ·have hne:x.2.2.2≠-1:=by simpa using q2
   have hb:x.2.2.2.toNat<F.S.length:=oM;have hy:=gE hb;have hym:=getElem_mem hb;generalize F.S[x.2.2.2.toNat]=y at hy hym;have ⟨pb,po,l1,l2,f1,_,_,f4,_,f5⟩:=(hL3.S.sub k2).at hy;rw[show((x.2.2.2.toNat:Nat):Int)=x.2.2.2 by omega]at f1;simp only[ao,ae,aj (k2 _ _ h3),csG5,f1,f4,a2];refine PU (hnn y hym).2 f5 ?_;simp only[bD,ae];rw[q2];exact j4 _ _ (!decide (x.2.2.1∈y.2)) rfl (λq3 g=>by have:=g.s hne y hy;simp[this]at q3) (λq3=>ok λ_ y' hy'=>by rw[hy]at hy';cases hy';simpa using q3) r1 k2
  ·rw[q2]
   have he:x.2.2.2=-1:=by simpa using q2
   exact j4 _ _ false rfl (λq3=>by cases q3) (λ_=>ok λz=>absurd he z) r1 k2
 have j2:∀(p q:AV) (bd:Bool),bK p true q=some bd->(bd=true->¬HoRow F i x)->(bd=false->x.1≠0/\x.1<=281474976710655/\fu x.1=false)->vg (Pp b3) ma ia i (Pp b28) i p q (InvH F s20) (F.H.length-i) K s30:=λp q bd h h1 h2=>by
  unfold vg;rw[h];refine cC (λq1=>?_) λq1=>hbad (h1 q1) (.refl _) _ _ _ oM;have gm:=h2 q1;simp only[ao,zAY,ae,aj h30,a2,aj h3,csG4,lenB];refine jP ?_;refine au (λq2=>?_) (λq2=>?_)
  ·exact j3 _ _ true (by rw[q2];rfl) (λ_ g=>by rw[ge.2 g.r.1]at q2;cases q2) (λq3=>by cases q3) (.refl _)
  ·have hin:inB x.2.2.1 (F.B.length:Int)=true:=by simpa using q2
   simp only[ae,aj h30,a3,aj h3,csG5,lenS,cA];rw[aC];refine dQ ?_;exact j3 _ _ (outB x.2.2.2 (-1) ((F.S.length:Int)-1)) (by rw[q2];rfl) (λq3 g=>by have:=cR.2 g.r.2;rw[this]at q3;cases q3) (λq3=>⟨⟨ge.1 hin,cR.1 q3⟩,λz1 z2 z3 z4 z5=>⟨gm,⟨ge.1 hin,cR.1 q3⟩,z1,⟨z2,z3⟩,z4,z5⟩⟩) (.refl _)
 have j1:∀(p q:AV) (bd:Bool),bK p true q=some bd->(bd=true->¬HoRow F i x)->(bd=false->x.1≠0/\x.1<=281474976710655)->vh (Pp b3) ma ia i (Pp b28) i p q (InvH F s20) (F.H.length-i) K s30:=λp q bd h h1 h2=>by
  unfold vh;rw[h];refine au (λq1=>?_) (λq1=>?_)
  ·exact j2 _ _ true (by rw[q1];rfl) (λ_=>h1 q1) (λq2=>by cases q2)
  ·simp only[ao,zAY,ae,aj h30,a0]
   refine ZC ?_;exact j2 _ _ (fu x.1) (by rw[q1];rfl) (λq2 g=>by rw[g.m.2.2]at q2;cases q2) (λq2=>⟨(h2 q1).1,(h2 q1).2,q2⟩)
 simp only[ao,zAY,ae,aj h30,a0,aR,aG,Bool.false_bne];refine au (λq1=>?_) (λq1=>?_)
 ·exact j1 _ _ true (by rw[q1];rfl) (λ_ g=>g.m.1 (by simpa using q1)) (λq2=>by cases q2)
 exact j1 _ _ (decide (281474976710655<x.1)) (by rw[q1];rfl) (λq2 g=>by have:=oT q2;have:=g.m.2.1;omega) (λq2=>⟨by simpa using q1,by have:=oF q2;omega⟩)
structure LeRow(F:FG)(i:Nat)(x:R4):Prop where
 r:(0<=x.1/\x.1<(F.T.length:Int))/\(0<=x.2.1/\x.2.1<(F.T.length:Int))
 p:x.1≠x.2.1/\fk x.2.2.1 x.2.2.2=true
 d:x ∉ F.G.take i
structure LeaOk(F:FG):Prop where
 n:F.G.length<=256
 row:∀(i:Nat) x,F.G[i]?=some x->LeRow F i x
abbrev InvG(F:FG)(s16:Hq):List AV->Hq->Nat->Prop:=λys t m=>∃i:Nat,ys=[Ii i]/\i<=F.G.length/\m=F.G.length-i/\Sub s16 t/\∀(j:Nat) x,j<i->F.G[j]?=some x->LeRow F j x
theorem HP(hn:F.G.length<=4294967296)(hc:s c=some (t,.cells 238 (csG F v2 v3 v4 v5 v6 v7)))(hL:FL s F v2 v3 v4 v5 v6 v7)(hK:Kok s (LeaOk F) K)(hR:Rbad s (LeaOk F) NoR):wC TP 152 [Pp c] K s:=by
 refine Tf (lW rfl hc hL λb3 s5 h5 k5=>?_);have hL5:=(hL.sub k5).G;have hlen:bp v7=some F.G.length:=by rw[hL5.len,lMY]
 have lenT:bp v3=some F.T.length:=by rw[hL.T.len,lMY]
 simp only[ao,zAY,ae,aj h5,csG7,hlen,bW];refine cC (λq=>?_) λq=>hR ((by grind [LeaOk.n])) _ _ _ s5 oM k5;have hn256:F.G.length<=256:=gR;simp only[aj h5,csG7,ae];refine ij (λh=>Sq h) rfl rfl (rows:=F.G) (rowC:=ggC) (λ_=>rfl) (λ_=>rfl) (kf:=λx=>ggC x) Hk (λx=>⟨_,rfl⟩) (λ_=>rfl) (λ_=>rfl) (λx s J=>Ht x s J) hL5 oM λs16 again k16 rep=>?_;have h16:=k16 _ _ h5;simp only[aj h16,csG7,ae,hlen];have hinj:∀x y:R4,(AV.agg (ggC x)=AV.agg (ggC y))↔x=y:=(by grind [ggC])
 refine⟨InvG F s16,⟨_,0,rfl,oM,rfl,.refl _,λj x hj=>oM⟩,?_⟩;rintro f t m ⟨i,hy,hi,rfl,kt,hall⟩;simp only[cI,and_true]at hy;rw[hy];simp only[Mg,aH,ae];refine au (λhlt=>?_) (λhge=>?_)
 rotate_left
 have hge:i=F.G.length:=gR;subst hge;exact hK ⟨hn256,gR⟩ t (k5.trans (k16.trans kt));have hlt:i<F.G.length:=gR;have hx:F.G[i]?=some F.G[i]:=gE hlt;generalize F.G[i]=x at hx;have ⟨pb,po,e1,e2,_⟩:=(hL5.sub (k16.trans kt)).get (i:=i) (r:=ggC x) gR;rw[e1];simp only[ae,e2];refine an λb24 s25 hb24 h25 u25=>aZ h25 rfl rfl rfl λs26 h26 u26=>?_;have k26:Sub t s26:=bQ (u25.sub hb24) u26 hb24;have h3:Hc s26 b3 52 (csG F v2 v3 v4 v5 v6 v7):=k26 _ _ (kt _ _ h16);have kall:Sub s s26:=k5.trans (k16.trans (kt.trans k26));have a0:(ggC x)[0]?=some (Ii x.1):=rfl;have a1:(ggC x)[1]?=some (Ii x.2.1):=rfl;have rx:∀{s2:Hq},Sub s26 s2->rdN s2 2 (.ptr b24 2)=some (pfC x.2.2.1 x.2.2.2):=fun {s2} q=>by simp only[rdN,q _ _ h26];rfl
 have ⟨p1,w1,g1,g2,g3⟩:=(rep.sub (kt.trans k26)).at (j:=i) (k:=.agg (ggC x)) gR;rw[<- map_take,jR (g:=λx=>x) hinj,map_id']at g3;have hbad:∀{s2:Hq},¬LeRow F i x->Sub s26 s2->∀(e:Int) (p:ByteArray) (i:Int),e≠0->NoR (flV e p i) s2:=fun {s2} q k2 e p i he=>hR (λg=>q (g.row _ x hx)) e p i s2 he (kall.trans k2);have j2:∀(p q:AV) (bd:Bool),bK p true q=some (.bool bd)->(bd=true->¬LeRow F i x)->(bd=false->x ∉ F.G.take i->LeRow F i x)->∀{s2:Hq},Sub s26 s2->vi again i i p q (InvG F s16) (F.G.length-i) K s2:=λp q bd h h1 h2 {s2} k2=>by
  unfold vi aA;rw[h];simp only[ae];refine cC (λq1=>?_) λq1=>hbad (h1 q1) k2 _ _ _ oM;have g2':=HN g2 k2;rw[g1];simp only[ae,g2'];refine cC (λq2=>?_) λq2=>hbad (λg=>g.d (g3.1 q2)) k2 _ _ _ oM;simp only[aJ,ae];rw[aC];refine⟨_,oM,i+1,rfl,oM,rfl,kt.trans (k26.trans k2),λj z hj hz=>?_⟩
  grind
 have j1:∀(p q:AV) (bd:Bool),bK p true q=some (.bool bd)->(bd=true->¬LeRow F i x)->(bd=false->(0<=x.1/\x.1<(F.T.length:Int))/\(0<=x.2.1/\x.2.1<(F.T.length:Int)))->vj again i (Pp b24) i p q (InvG F s16) (F.G.length-i) K s26:=λp q bd h h1 h2=>by
  unfold vj;rw[h];simp only[ae];refine cC (λq1=>?_) λq1=>hbad (h1 q1) (.refl _) _ _ _ oM;simp only[ao,zAY,ae,aj h26,a0,a1,aR,aG,Bool.false_bne];refine au (λq2=>?_) (λq2=>?_)
  ·exact j2 _ _ true (by rw[q2];rfl) ((by grind [LeRow.p])) (λq=>by cases q) (.refl _)
  rw[rx (.refl _)];simp only[ae];refine PP λs55 k55=>?_;simp only[bD,ae];exact j2 _ _ (!fk x.2.2.1 x.2.2.2) (by rw[q2];rfl) ((by grind [LeRow.p])) (λq3 z=>⟨h2 q1,gR,z⟩) k55
 simp only[ao,zAY,ae,aj h26,a0,aj h3,csG3,lenT];refine jP ?_;simp only[bD,ae];refine au (λq1=>?_) (λq1=>?_)
 ·exact j1 _ _ true (by rw[q1];rfl) (λ_ g=>by rw[ge.2 g.r.1]at q1;cases q1) (λq2=>by cases q2)
 ·have hin:inB x.1 (F.T.length:Int)=true:=by simpa using q1
  simp only[ae,aj h26,a1,aj h3,csG3,lenT];refine jP ?_;simp only[bD,ae];exact j1 _ _ (!inB x.2.1 (F.T.length:Int)) (by rw[q1];rfl) (λq2 g=>by rw[ge.2 g.r.2]at q2;cases q2) ((by grind [ge]))
variable{cs:List AV}
structure Sz(F:FG):Prop where
 L:F.L.length<=4294967296
 T:F.T.length<=4294967296
 B:F.B.length<=4294967296
 S:F.S.length<=4294967296
 H:F.H.length<=4294967296
 G:F.G.length<=4294967296
 N:∀x∈F.S,x.1.length<=4294967296/\x.2.length<=4294967296
 I:∀x∈F.H,0<=x.2.1/\x.2.1<4294967296
def VS(F:FG):Nat->Prop
 | 0=>FabOk F
 | 1=>TimOk F
 | 2=>LinksOk F
 | 3=>TenOk F
 | 4=>DomOk F
 | 5=>SegOk F
 | 6=>HosOk F
 | 7=>LeaOk F
 |_=>True
def Valid(F:FG):Prop:=∀i,i<8->VS F i
theorem HQ(z:Sz F){i:Nat}(hi:i<8)(hall:∀j,j<i->VS F j)(hc:s c=some (t,.cells 238 (csG F v2 v3 v4 v5 v6 v7)))(hL:FL s F v2 v3 v4 v5 v6 v7)(hK:Kok s (VS F i) K)(hR:Rbad s (VS F i) NoR):wC TP (145+i) [Pp c] K s:=by
 match i,hi with
 | 0,_=>exact He hc hL hK hR
 | 1,_=>exact Hf hc hK hR
 | 2,_=>exact Hw (hall 0 oM) z.L hc hL hK hR
 | 3,_=>exact Zv z.T hc hL hK hR
 | 4,_=>exact HD (show TenOk F from hall 3 oM).n z.B hc hL hK hR
 | 5,_=>exact ZA (hall 0 oM) (show DomOk F from hall 4 oM).n z.S z.N hc hL hK hR
 | 6,_=>exact HO (hall 4 oM) (show SegOk F from hall 5 oM).n z.H z.N z.I hc hL hK hR
 | 7,_=>exact HP z.G hc hL hK hR
 |n+8,h=>omega
theorem HR{f:FuncId}{args:List AV}(h2:isFn TP f=true)(h:wC TP f args K s):funK TP (.fn (.func f) [] []) args K s:=il h2 h
def chk:List AV:=[.fn (.func 145) [] [],.fn (.func 146) [] [],.fn (.func 147) [] [],.fn (.func 148) [] [],.fn (.func 149) [] [],.fn (.func 150) [] [],.fn (.func 151) [] [],.fn (.func 152) [] []]
theorem HS{i:Nat}(h:i<8):chk[i]?=some (.fn (.func (145+i)) [] [])/\isFn TP (145+i)=true:=by
 match i,h with
 | 0,_=>exact⟨rfl,kR⟩
 | 1,_=>exact⟨rfl,kR⟩
 | 2,_=>exact⟨rfl,kR⟩
 | 3,_=>exact⟨rfl,kR⟩
 | 4,_=>exact⟨rfl,kR⟩
 | 5,_=>exact⟨rfl,kR⟩
 | 6,_=>exact⟨rfl,kR⟩
 | 7,_=>exact⟨rfl,kR⟩
 |n+8,h=>omega
theorem PV(hK:∀b s',s b=none->Hc s' b 241 chk->Sub s s'->K (.slc b 0 8 (some 8) 1) s'):wC TP 116 [] K s:=by
 refine RC ?_;unfold Lx;refine am (a:=chk) rfl ⟨rfl,an λb s2 hb h2 u2=>?_⟩
 grind [Upto.sub]
theorem xe(hv0:Valid F)(z:Sz F)(hF:FabR s cs F)(h1:Valid F->∀s',Sub s s'->K (.tup [Ii 0,.str ⟨#[]⟩,Ii 0]) s')(h2:¬Valid F->∀(e:Int) (p:ByteArray) (i:Int) s',e≠0->Sub s s'->K (.tup [e,.str p,i]) s'):wC TP 61 [.agg cs] K s:=by
 obtain⟨v2,v3,v4,v5,v6,v7,rfl,hL⟩:=hF;refine Ti ⟨hL.all,an λb0 s1 hb0 q0 u0=>an λb2 s3 hb2 q2 u2=>an λb4 s5 hb4 q4 u4=>an λb6 s7 hb6 q6 u6=>⟨by show isFn TP 115=true;kernel_rfl,?_⟩⟩;have q0:Hc s1 b0 52 (csG F v2 v3 v4 v5 v6 v7):=q0;have k1:=u0.sub hb0;have k3:=u2.sub hb2;have k5:=u4.sub hb4;have k7:=u6.sub hb6;have q0':=k7 _ _ (k5 _ _ (k3 _ _ q0));refine am (aQ q0' rfl) (am (a:=csG F v2 v3 v4 v5 v6 v7) rfl ⟨hL.all,an λb10 s11 hb10 q10 u10=>?_⟩);have q10:Hc s11 b10 238 (csG F v2 v3 v4 v5 v6 v7):=q10;have k11:=u10.sub hb10;refine PV λb12 s13 hb12 q12 k13=>am (a:=8) rfl ?_;have m2:Hc s13 b2 31 [Ii 0]:=k13 _ _ (k11 _ _ (k7 _ _ (k5 _ _ q2)));have m4:Hc s13 b4 9 [.str ⟨#[]⟩]:=k13 _ _ (k11 _ _ (k7 _ _ q4));have m6:Hc s13 b6 3 [Ii 0]:=k13 _ _ (k11 _ _ q6);have m10:=k13 _ _ q10;have kk:Sub s s13:=(by grind [Sub.trans])
 have n2:s b2=none:=by
  cases e:s b2 with
  |none=>rfl
  |some x=>rw[k1 _ _ e]at hb2;cases hb2
 have n4:s b4=none:=by
  cases e:s b4 with
  |none=>rfl
  |some x=>rw[k3 _ _ (k1 _ _ e)]at hb4;cases hb4
 have n6:s b6=none:=by
  cases e:s b6 with
  |none=>rfl
  |some x=>rw[k5 _ _ (k3 _ _ (k1 _ _ e))]at hb6;cases hb6
 have d24:b2≠b4:=λe=>gR;have d26:b2≠b6:=λe=>gR;have d46:b4≠b6:=λe=>gR;refine⟨λys t m=>∃i:Nat,ys=[Ii i]/\i<=8/\m=8-i/\Sub s13 t,⟨_,0,rfl,oM,rfl,.refl _⟩,?_⟩;rintro f t m ⟨i,hy,hi,rfl,kt⟩;simp only[cI,and_true]at hy;rw[hy];simp only[Mj,aH,ae,aA];refine au (λhlt=>?_) (λhge=>?_);have hlt:i<8:=gR;have ⟨g1,g3⟩:=HS hlt;have e1:ba 1 (.slc b12 0 8 (some 8) 1) i=some (.ptr b12 i):=by
  have:blt i 8=true:=by simp_all
  simp[ba,this]
 rw[e1];simp only[ae,aj (kt _ _ q12),g1];refine HR g3 (HQ z hlt (λj hj=>hv0 j oM) (kt _ _ m10) (hL.sub (kk.trans kt)) (λ_ s20 k20=>?_) (λhv=>absurd (hv0 i hlt) hv));simp only[aJ,ae];rw[aC];exact⟨_,oM,i+1,rfl,oM,rfl,kt.trans k20⟩;refine aT (kt _ _ m2) sI rfl λs3 h3 u3=>?_;refine aT (by rw[u3 _ (Ne.symm d24)];exact kt _ _ m4) sI rfl λs4 h4 u4=>?_;refine aT (by rw[u4 _ (Ne.symm d46),u3 _ (Ne.symm d26)];exact kt _ _ m6) sI rfl λs5 h5 u5=>?_;have k5':Sub s s5:=bQ (bQ (bQ (kk.trans kt) u3 n2) u4 n4) u5 n6;have h2':Hc s5 b2 31 [Ii 0]:=by rw[u5 _ d26,u4 _ d24];exact h3
 have h4':Hc s5 b4 9 [.str ⟨#[]⟩]:=by rw[u5 _ d46];exact h4
 refine Tg (K:=λ_ s_31=>oK (rd1 s_31 (Pp b2)) λerr2_32=>oK (rd1 s_31 (Pp b4)) λpart3_33=>oK (rd1 s_31 (Pp b6)) λindex4_34=>K (.tup [err2_32,part3_33,index4_34]) s_31) ?_;unfold Mh;refine am (a:=true) rfl ?_;simp only[ai];refine am (a:=Ii 0) (by rw[aj h2'];rfl) (am (a:=.str ⟨#[]⟩) (by rw[aj h4'];rfl) (am (a:=Ii 0) (by rw[aj h5];rfl) ?_));exact h1 hv0 s5 k5'
theorem PW{α β γ:Type}{f:Nat->α->β}{g:β->γ}{l:List α}:(l.mapIdx f).map g=l.mapIdx λi x=>g (f i x):=by
 apply ext_getElem?
 grind
def ni(l:List Nat):List Int:=l.map λ(n:Nat)=>(n:Int)
theorem HT{l:List Nat}:ix (ni l)=iz l:=by unfold ix ni iz;simp
def tgN(i:Nat):Int×Int:=(100+(i:Int),900+(i:Int))
def bgN(i:Nat)(x:Bd):BG:=((x.1:Int),10+(i:Int),500+(i:Int),subN i x.2,lenN x.2,gwN i x.2)
def hgN(i:Nat)(x:Hst):R4:=(2199023951872+(i:Int),ipN i x,(x.1:Int),sgN x)
def ggN(x:Lkg):R4:=((x.1:Int),(x.2.1:Int),pfN x.2.2,plN x.2.2)
def NFab.toG(F:NFab):FG:=⟨F.x.lf,F.x.sp,F.x.el,F.x.hz,F.x.ro,F.x.su,F.x.tr,F.x.de,9,F.x.ag,20,5,30,F.L,(List.range F.n).map tgN,F.B.mapIdx bgN,F.S.map λx=>(ni x.1,ni x.2),F.H.mapIdx hgN,F.G.map ggN⟩
theorem NFR.fab{F:NFab}(h:NFR s cs F):FabR s cs F.toG:=by
 obtain⟨v2,v3,v4,v5,v6,v7,rfl,h2,h3,h4,h5,h6,h7⟩:=h.ex;refine⟨v2,v3,v4,v5,v6,v7,rfl,⟨h2,?_,?_,?_,?_,?_⟩⟩;show SlR 2 s v3 (((List.range F.n).map tgN).map tgC);rw[map_map];exact h3;show SlR 6 s v4 ((F.B.mapIdx bgN).map bgC);rw[PW];exact h4;have ⟨vs,a1,a2,a3⟩:=h5;refine⟨vs,a1,by show vs.length=(F.S.map _).length;rw[a2,lMY],λi q x hq hx=>?_⟩;have hx:(F.S.map λx=>(ni x.1,ni x.2))[i]?=some x:=hx
 grind [HT]
 show SlR 4 s v6 ((F.H.mapIdx hgN).map hgC);rw[PW];exact h6;show SlR 4 s v7 ((F.G.map ggN).map ggC);rw[map_map];exact h7
theorem xG{l:List Nat}{x:Int}:x∈ni l↔∃n∈l,(n:Int)=x:=by unfold ni;simp
theorem jT{l:List Nat}(h:l.Pairwise (· < ·)):(ni l).Pairwise (· < ·):=by
 grind [ni]
theorem rL:∀i:Nat,i<4->fk (167772160+(i:Int)*65536) 24=true/\fk (167772160+(i:Int)*65536) 16=true/\io (167772160+(i:Int)*65536) 24 (167772160+(i:Int)*65536+1)=true:=by decide +kernel
theorem HU:∀i:Nat,i<4->∀j:Nat,j<i->im (167772160+(i:Int)*65536) 24 (167772160+(j:Int)*65536)=false/\im (167772160+(j:Int)*65536) 24 (167772160+(i:Int)*65536)=false:=by decide +kernel
theorem HV:∀j:Nat,j<4->∀i:Nat,i<8->io (167772160+(j:Int)*65536) 24 (167772160+(j:Int)*65536+(10+(i:Int)))=true:=by decide +kernel
theorem HW:∀i:Nat,i<8->fu (2199023951872+(i:Int))=false:=by decide +kernel
theorem HX:fk 0 0=true:=by decide +kernel
theorem rM{α β:Type}{f:Nat->α->β}{l:List α}{i:Nat}{y:β}(h:y∈(l.mapIdx f).take i):∃j x,j<i/\l[j]?=some x/\y=f j x:=by
 have ⟨j,hj,e⟩:=getElem_of_mem h
 grind
theorem xH{α β:Type}{f:Nat->α->β}{l:List α}{i:Nat}{y:β}(h:(l.mapIdx f)[i]?=some y):∃x,l[i]?=some x/\y=f i x:=by
 grind
theorem PX{α:Type}{f:α->List Int}{n:Int}:∀{l:List α},(∀x∈l,(f x).Nodup)->((l.map f).flatten).count n<=l.length
 |[],_=>sI
 | x::l,h=>by
   have ih:=PX (n:=n) (λy hy=>h y (mO _ hy));have h1:=nodup_iff_count.1 (h x mem_cons_self) n;simp only[map_cons,flatten_cons,count_append,length_cons];omega
theorem NFok.valid{F:NFab}(h:NFok F):Valid F.toG:=by
 have hx:=h.x;intro i hi
 match i,hi with
 | 0,_=>
   have:=hx.lf;have:=hx.sp;have:=hx.el;have:=hx.hz;have:=hx.ro;exact⟨by show 1<=(F.x.lf:Int)/\(F.x.lf:Int)<=32;omega,by show 0<=(F.x.sp:Int)/\(F.x.sp:Int)<=32;omega,by show(F.x.lf:Int)+F.x.sp<=32;omega,by show 0<=(F.x.el:Int)/\(F.x.el:Int)<=2;omega,by show 0<=(F.x.hz:Int)/\(F.x.hz:Int)<=1;omega,by show 0<=(F.x.ro:Int)/\(F.x.ro:Int)<=1;omega⟩
 | 1,_=>
   have:=hx.de;have:=hx.ag;exact⟨by show 1<=(F.x.de:Int)/\(F.x.de:Int)<=100;omega,by show(3:Int)<=9/\(9:Int)<=1000;omega,by show 1<=(F.x.ag:Int)/\(F.x.ag:Int)<=10000;omega,by show(0:Int)<=20/\(20:Int)<=1000;omega,by show(1:Int)<=5/\(5:Int)<=100;omega,by show(1:Int)<=30/\(30:Int)<=10000;omega⟩
 | 2,_=>
   refine⟨Nat.le_trans h.Ln (by omega),λi x hi=>⟨?_,?_⟩⟩;have hi:F.L[i]?=some x:=hi;obtain⟨a,b,c⟩:=h.L.2 x (mG hi);exact⟨a,⟨b.1,by have:=b.2;show x.2.1<(F.x.lf:Int)+F.x.sp;omega⟩,c.1,by omega⟩;have hi:F.L[i]?=some x:=hi;show(x.1,x.2.1) ∉ (F.L.take i).map λx=>(x.1,x.2.1)
   rw[map_take];exact PM h.L.1 i _ (by grind)
 | 3,_=>
   have hn:=h.n;have at_:∀(i:Nat) x,((List.range F.n).map tgN)[i]?=some x->i<F.n/\x=tgN i:=λi x hi=>by
    grind
   have tk:∀(i:Nat) y,y∈((List.range F.n).map tgN).take i->∃j,j<i/\y=tgN j:=λi y hy=>by
    obtain⟨j,hj,e⟩:=getElem_of_mem hy
    grind
   refine⟨by show((List.range F.n).map tgN).length<=16;simp;omega,λi x hi=>?_⟩;obtain⟨a,rfl⟩:=at_ i x hi;refine⟨⟨by show(1:Int)<=100+(i:Int);omega,by show(100:Int)+(i:Int)<=16777215;omega,by show(900:Int)+(i:Int)≠0;omega⟩,?_,?_⟩;intro hm;obtain⟨y,hy,e⟩:=mem_map.1 hm;obtain⟨j,hj,rfl⟩:=tk i y hy;have e:(100:Int)+(j:Int)=100+(i:Int):=e;omega;intro hm;obtain⟨y,hy,e⟩:=mem_map.1 hm;obtain⟨j,hj,rfl⟩:=tk i y hy;have e:(900:Int)+(j:Int)=900+(i:Int):=e;omega
 | 4,_=>
   have hB:=h.Bn;have hT:∀y∈(List.range F.n).map tgN,∃j:Nat,y=tgN j:=λy hy=>by
    grind
   refine⟨by show(F.B.mapIdx bgN).length<=32;simp;omega,λi y hi=>?_⟩;have hi:(F.B.mapIdx bgN)[i]?=some y:=hi;obtain⟨x,hx,rfl⟩:=xH hi;have hi4:i<4:=by grind
   have hxn:=h.B x (mG hx);refine⟨⟨⟨by show(0:Int)<=(x.1:Int);omega,by show(x.1:Int)<(((List.range F.n).map tgN).length:Int);simp;exact hxn⟩,⟨by show(1:Int)<=10+(i:Int);omega,by show 10+(i:Int)<=16777215;omega⟩,by show 500+(i:Int)≠0;omega⟩,?_,?_,?_,?_,?_⟩;intro hm;obtain⟨y,hy,e⟩:=mem_map.1 hm;obtain⟨j,x',hj,_,rfl⟩:=rM hy;have e:(10:Int)+(j:Int)=10+(i:Int):=e;omega;intro hm;obtain⟨y,hy,e⟩:=mem_map.1 hm;obtain⟨j,x',hj,_,rfl⟩:=rM hy;have e:(500:Int)+(j:Int)=500+(i:Int):=e;omega;refine any_eq_false.2 λy hy=>?_;obtain⟨j,rfl⟩:=hT y hy;show ¬(((100:Int)+(j:Int) == 10+(i:Int))=true);rw[beq_iff_eq];omega;refine any_eq_false.2 λy hy=>?_;obtain⟨j,hj,rfl⟩:∃j:Nat,j<F.n/\y=tgN j:=by
    obtain⟨j,hj,e⟩:=mem_map.1 hy
    grind
   have:=h.n;show ¬(((900:Int)+(j:Int) == 500+(i:Int))=true);rw[beq_iff_eq];omega;show(gwN i x.2=0->subN i x.2=0/\lenN x.2=0)/\(gwN i x.2≠0->fk (subN i x.2) (lenN x.2)=true/\(8<=lenN x.2/\lenN x.2<=30)/\io (subN i x.2) (lenN x.2) (gwN i x.2)=true/\((F.B.mapIdx bgN).take i).any (gh (bgN i x))=false);unfold gwN subN lenN;rcases hr:x.2 with _|_
   grind
   simp only[if_true];obtain⟨c1,_,c3⟩:=rL i hi4;refine⟨λq=>by omega,λ_=>⟨c1,⟨by omega,by omega⟩,c3,?_⟩⟩;refine any_eq_false.2 λy hy=>?_;obtain⟨j,x',hj,_,rfl⟩:=rM hy;show ¬((((x'.1:Int) == (x.1:Int))&&(gwN j x'.2 != 0)&&(im (subN j x'.2) (lenN x'.2) (subN i x.2)||im (subN i x.2) (lenN x.2) (subN j x'.2)))=true);unfold gwN subN lenN
   grind [HU]
 | 5,_=>
   have hS:=h.Sn;refine⟨by show(F.S.map _).length<=64;grind,λy hy=>?_,λn=>?_⟩;have hy:y∈F.S.map λx=>(ni x.1,ni x.2):=hy;obtain⟨x,hx,rfl⟩:=mem_map.1 hy;obtain⟨a1,a2,a3,_,a5,a6,a7,_⟩:=h.S x hx;refine⟨⟨λe=>a2 (map_eq_nil_iff.1 e),λe=>a6 (map_eq_nil_iff.1 e)⟩,⟨λn hn=>?_,λn hn=>?_⟩,jT a1,jT a5⟩;obtain⟨m,hm,rfl⟩:=xG.1 hn;have:=a3 m hm;exact⟨by omega,by show(m:Int)<(F.x.lf:Int);omega⟩;obtain⟨m,hm,rfl⟩:=xG.1 hn;have:=a7 m hm;exact⟨by omega,by show(m:Int)<((F.B.mapIdx bgN).length:Int);grind⟩;show(((F.S.map λx=>(ni x.1,ni x.2)).map (·.1)).flatten).count n<=32;rw[map_map];refine Nat.le_trans (PX λx hx=>?_) (by omega);exact(jT (h.S x hx).1).imp λh=>by omega
 | 6,_=>
   have hH:=h.Hn;have hB:=h.Bn;refine⟨by show(F.H.mapIdx hgN).length<=128;simp;omega,λi y hi=>?_⟩;have hi:(F.H.mapIdx hgN)[i]?=some y:=hi;obtain⟨x,hx,rfl⟩:=xH hi;have hi8:i<8:=by grind
   obtain⟨⟨g,hg,hxg⟩,hip⟩:=h.H x (mG hx);obtain⟨_,_,_,_,_,_,a7,_⟩:=h.S g (mG hg);have hbd:=a7 x.1 hxg;have hsl:=(gS hg).1;refine⟨⟨by show 2199023951872+(i:Int)≠0;omega,by show 2199023951872+(i:Int)<=281474976710655;omega,HW i hi8⟩,⟨⟨by show(0:Int)<=(x.1:Int);omega,by show(x.1:Int)<((F.B.mapIdx bgN).length:Int);grind⟩,?_⟩,?_,⟨⟨by show 2199023951872+(i:Int)≠1577058561;omega,?_⟩,?_⟩,?_,?_⟩;show -1<=sgN x/\sgN x<=((F.S.map λx=>(ni x.1,ni x.2)).length:Int)-1;rw[lMY];unfold sgN;split<;>omega
   ·show sgN x≠-1->∀y,(F.S.map λx=>(ni x.1,ni x.2))[(sgN x).toNat]?=some y->(x.1:Int)∈y.2
    unfold sgN;split;intro q;exact absurd rfl q
    ·intro _ y hy
     rw[Int.toNat_natCast,getElem?_map,hg]at hy;cases hy;exact xG.2 ⟨x.1,hxg,rfl⟩
   show(!(decide (2199023951872+(i:Int)<2199023255552)||decide (2199023255584<=2199023951872+(i:Int))))=false
   grind
   ·intro d hd
    have hd:(F.B.mapIdx bgN)[((x.1:Nat):Int).toNat]?=some d:=hd;rw[Int.toNat_natCast]at hd;obtain⟨xb,hxb,rfl⟩:=xH hd;show((ipN i x == 0)||((gwN x.1 xb.2 != 0)&&(ipN i x != gwN x.1 xb.2)&&io (subN x.1 xb.2) (lenN xb.2) (ipN i x)))=true;unfold ipN;cases hr:x.2.2.1 with
    |false=>rfl
    | true=>
      obtain⟨d',q1,q2⟩:=hip hr;rw[hxb]at q1;cases q1;have hc:=HV x.1 (by omega) i hi8;unfold gwN subN lenN;rw[q2];simp only[if_true,hc,Bool.and_true,Bool.or_eq_true,beq_iff_eq,Bool.and_eq_true,bne_iff_ne]
      grind
   intro hm;obtain⟨y,hy,e⟩:=mem_map.1 hm;obtain⟨j,x',hj,_,rfl⟩:=rM hy;have e:((x'.1:Int),2199023951872+(j:Int))=((x.1:Int),2199023951872+(i:Int)):=e
   grind
   intro hne hm;obtain⟨y,hy,e⟩:=mem_map.1 hm;obtain⟨j,x',hj,_,rfl⟩:=rM hy;have e:((x'.1:Int),ipN j x')=((x.1:Int),ipN i x):=e;have hne:ipN i x≠0:=hne;simp only[Prod.mk.injEq]at e;obtain⟨e1,e2⟩:=e;unfold ipN at e2 hne;rcases hr:x.2.2.1 with _|_;rw[hr]at hne;exact hne rfl;rw[hr]at e2;rcases hr':x'.2.2.1 with _|_;rw[hr']at e2;simp only[if_true,Bool.false_eq_true,if_false]at e2;omega;rw[hr']at e2;simp only[if_true]at e2;omega
 | 7,_=>
   have hG:=h.G;have hGn:=h.Gn;refine⟨by show(F.G.map ggN).length<=256;grind,λi y hi=>?_⟩;have hi:(F.G.map ggN)[i]?=some y:=hi;rw[getElem?_map]at hi;cases hx:F.G[i]? with
   |none=>rw[hx]at hi;cases hi
   | some x=>
     rw[hx]at hi;cases hi;obtain⟨b1,b2,b3,b4⟩:=hG.2 x (mG hx);have hlen:(((List.range F.n).map tgN).length:Int)=(F.n:Int):=by simp
     refine⟨⟨⟨by show(0:Int)<=(x.1:Int);omega,by show(x.1:Int)<(((List.range F.n).map tgN).length:Int);rw[hlen];omega⟩,⟨by show(0:Int)<=(x.2.1:Int);omega,by show(x.2.1:Int)<(((List.range F.n).map tgN).length:Int);rw[hlen];omega⟩⟩,⟨by show(x.1:Int)≠(x.2.1:Int);omega,?_⟩,?_⟩;show fk (pfN x.2.2) (plN x.2.2)=true;rcases hp:x.2.2 with _|j;exact HX;exact(rL j (b4 j hp)).2.1
     ·intro hm
      have hm:ggN x∈(F.G.map ggN).take i:=hm;rw[<- map_take]at hm;obtain⟨y,hy,e⟩:=mem_map.1 hm;have:y=x:=by
       obtain⟨y1,y2,y3⟩:=y;obtain⟨x1,x2,x3⟩:=x;have e:((y1:Int),(y2:Int),pfN y3,plN y3)=((x1:Int),(x2:Int),pfN x3,plN x3):=e;simp only[Prod.mk.injEq]at e;obtain⟨e1,e2,e3,e4⟩:=e;have h1:y1=x1:=by omega
       have h2:y2=x2:=by omega
       have h3:y3=x3:=by
        cases y3<;>cases x3<;>simp only[pfN,plN]at e3 e4
        rfl;omega;omega
        congr 1;omega
       rw[h1,h2,h3]
      subst this;exact PM hG.1 i y hx hy
 |n+8,hi=>omega
theorem NFok.sz{F:NFab}(h:NFok F):Sz F.toG:=by
 have:=h.Ln;have:=h.n;have:=h.Bn;have:=h.Sn;have:=h.Hn;have:=h.Gn;refine⟨by show F.L.length<=_;omega,by show((List.range F.n).map tgN).length<=_;simp;omega,by show(F.B.mapIdx bgN).length<=_;simp;omega,by show(F.S.map _).length<=_;grind,by show(F.H.mapIdx hgN).length<=_;simp;omega,by show(F.G.map ggN).length<=_;grind,λy hy=>?_,λy hy=>?_⟩;have hy:y∈F.S.map λx=>(ni x.1,ni x.2):=hy;obtain⟨x,hx,rfl⟩:=mem_map.1 hy;obtain⟨_,_,_,a4,_,_,_,a8⟩:=h.S x hx
 grind [ni]
 have hy:y∈F.H.mapIdx hgN:=hy;obtain⟨i,hi⟩:=getElem?_of_mem hy;obtain⟨x,hx,rfl⟩:=xH hi;have hi8:=(gS hx).1;obtain⟨⟨g,hg,hxg⟩,_⟩:=h.H x (mG hx);obtain⟨_,_,_,_,_,_,a7,_⟩:=h.S g (mG hg);have:=a7 x.1 hxg;show 0<=ipN i x/\ipN i x<4294967296
 grind [ipN]
end Go.AM.TN
namespace Go.AM.RT
open Go Go.Proofs List Nat
set_option maxRecDepth 100000
variable{K:AV→Hq→Prop}{s s' s0:Hq}{v:AV}{es:List Int}
def Own3(s0 s:Hq)(v:AV)(es:List Int):Prop:=(v=.nilslc/\es=[])∨∃b cap,s0 b=none/\v=.slc b 0 es.length cap 1/\Hc s b 3 (izs es)/\∀c,cap=some c->es=[]
theorem Own3.len(h:Own3 s0 s v es):bp v=some es.length:=by rcases h with⟨rfl,rfl⟩|⟨b,cap,_,rfl,_⟩<;>rfl
theorem Own3.sl(h:Own3 s0 s v es):Sl s v (izs es):=by rcases h with⟨rfl,rfl⟩|⟨b,cap,_,rfl,h1,h2⟩;exact .inl ⟨rfl,rfl⟩;exact Sl.mk h1 sI λc hc=>by rw[h2 c hc];simp
theorem rP(h:Own3 s0 s v es)(hs:Sub s0 s)(hl:es.length<=1000)(hK:∀s',Own3 s0 s' v (cB es)->Sub s0 s'->K (.tup []) s'):wC TP 94 [v] K s:=by have hp:=(eI es).length_eq;rcases h with⟨rfl,rfl⟩|⟨b,cap,hb0,rfl,hb,hc⟩;exact Rn Go.Proofs.YtcmcofklcgafiaaGreat.sortOK (hK s (.inl ⟨rfl,rfl⟩) hs);refine Rm Go.Proofs.YtcmcofklcgafiaaGreat.sortOK (T:=[]) (by rw[append_nil];exact hb) oM λs' h' u=>hK s' (.inr ⟨b,cap,hb0,by rw[hp],by rw[append_nil]at h';exact h',λc q=>by rw[hc c q];rfl⟩) λi e hi=>?_;rw[u i (cx hb0 hi)];exact hs i e hi
theorem PY(h:Own3 s0 s v es)(hs:Sub s0 s)(hl:es.length<=1000)(hK:∀v' s' es',Sl s' v' (izs es')->es'.length<=es.length->(∀x,x∈es'↔x∈es)->Sub s0 s'->(∀b o n c,v'=.slc b o n c 1->es'≠[]->s0 b=none)->K v' s'):wC TP 117 [v] K s:=by
 refine WL ?_;have h0:∀b o n c,v=.slc b o n c 1->es≠[]->s0 b=none:=by
  rintro b o n c rfl hne;rcases h with⟨h,_⟩|⟨b',cap,hb0,h,_⟩
  ·cases h
  ·cases h;exact hb0
 simp only[NY,h.len,aH,ae,aK];refine au ((by grind [Own3.sl])) (λhn=>?_);have hn:2<=es.length:=gR;obtain⟨b,hb0,hv,hb⟩:∃b,s0 b=none/\v=.slc b 0 es.length none 1/\Hc s b 3 (izs es):=by
  rcases h with⟨_,rfl⟩|⟨b,cap,q1,q2,q3,q4⟩;simp at hn
  ·cases cap with
   |none=>exact⟨b,q1,q2,q3⟩
   |some c=>grind
 subst hv;have ad:∀{i:Nat},i<es.length->ba 1 (.slc b 0 es.length none 1) i=some (.ptr b i):=fun {i} hi=>by
  have:blt i es.length=true:=by rw[blt_eq];exact hi
  simp[ba,this]
 have gt:∀{l:List Int}{i:Nat}(hi:i<l.length),(izs l)[i]?=some (Ii l[i]):=fun {l i} hi=>by simp[hi]
 refine⟨λys t m=>∃k:Nat,ys=[Ii k]/\1<=k/\k<=es.length/\m=es.length-k/\s=t,⟨_,1,rfl,oM,oM,rfl,rfl⟩,?_⟩;rintro f t m ⟨k0,hy,hk1,hk2,rfl,rfl⟩;simp only[cI,and_true]at hy;rw[hy];simp only[NW,c9,aH,ae,aK,aA];refine au (λhlt=>?_) ((by grind [Own3.sl]));have hlt:k0<es.length:=gR;have w1:IntKind.i64.wrap ((k0:Int)-1)=((k0-1:Nat):Int):=by grind [aC]
 simp only[ad hlt,aj hb,gt hlt,cA,w1,ad (show k0-1<es.length by omega),gt (show k0-1<es.length by omega),aR,aG,Bool.false_bne,ae];refine au (λheq=>?_) (λhne=>?_)
 rotate_left
 simp only[aJ,ae];rw[aC];exact⟨_,oM,k0+1,rfl,oM,oM,rfl,by trivial⟩;have heq:es[k0]=es[k0-1]:=eq_of_beq heq;have sl:∀{k:Nat},k<=es.length->cU 1 (.slc b 0 es.length none 1) (some k) none none=some (.slc b k (es.length-k) none 1):=fun {k} hk=>by simp[cU,bound,bL hk]
 have sh:∀{k:Nat},k<=es.length->cU 1 (.slc b 0 es.length none 1) none (some k) none=some (.slc b 0 k none 1):=fun {k} hk=>by simp[cU,bound,bL hk]
 have tk:∀{l:List Int}{q:Nat}(hq:q<l.length) (x:Int),x∈l.take (q+1)↔x∈l.take q∨x=l[q]:=fun {l q} hq x=>by rw[take_add_one,gE hq,mem_append];simp only[Option.toList,mem_singleton]
 simp only[sl hk2,ae];refine⟨λys t m=>∃(k k2:Nat) (cur:List Int),ys=[Ii k,Ii k2]/\Hc t b 3 (izs cur)/\Sub s0 t/\cur.length=es.length/\1<=k2/\k0+k2<=es.length/\m=es.length-k0-k2/\k<k0+k2/\(∀j,k0+k2-1<=j->cur[j]?=es[j]?)/\∀x,x∈cur.take k↔x∈es.take (k0+k2),⟨_,k0,1,es,rfl,hb,hs,rfl,oM,oM,rfl,oM,λ_ _=>rfl,λx=>?_⟩,?_⟩;rw[tk hlt,heq];refine⟨.inl,λq=>q.elim id λq=>?_⟩;rw[q];have:k0-1<(es.take k0).length:=by rw[length_take];omega
 have e:(es.take k0)[k0-1]=es[k0-1]:=getElem_take
 grind
 rintro f t m ⟨k,k2,cur,hy,ht,st,hlen,c1,c2,rfl,c3,c4,c5⟩;simp only[cI,and_true]at hy;rw[hy.1,hy.2];simp only[NV,c9,aH,ae];refine au (λhlt2=>?_) (λhge2=>?_);have hlt2:k0+k2<es.length:=gR;have ad2:∀{i:Nat},k0+i<es.length->ba 1 (.slc b k0 (es.length-k0) none 1) i=some (.ptr b (k0+i)):=fun {i} hi=>by
  have:blt i (es.length-k0)=true:=by rw[blt_eq];omega
  simp[ba,this]
 have w2:IntKind.i64.wrap ((k2:Int)-1)=((k2-1:Nat):Int):=by grind [aC]
 have g1:cur[k0+k2]=es[k0+k2]:=by
  have:=c4 (k0+k2) oM;rw[gE oM,gE hlt2]at this
  grind
 have g2:cur[k0+(k2-1)]'oM=es[k0+(k2-1)]'oM:=by
  have:=c4 (k0+(k2-1)) oM;rw[gE oM,gE oM]at this
  grind
 have nx:∀(k':Nat) (cur':List Int) t',Hc t' b 3 (izs cur')->Sub s0 t'->cur'.length=es.length->k'<k0+(k2+1)->(∀j,k0+(k2+1)-1<=j->cur'[j]?=es[j]?)->(∀x,x∈cur'.take k'↔x∈es.take (k0+(k2+1)))->
   vO k' k2 (λys t m=>∃(k k2:Nat) (cur:List Int),ys=[Ii k,Ii k2]/\Hc t b 3 (izs cur)/\Sub s0 t/\cur.length=es.length/\1<=k2/\k0+k2<=es.length/\m=es.length-k0-k2/\k<k0+k2/\(∀j,k0+k2-1<=j->cur[j]?=es[j]?)/\∀x,x∈cur.take k↔x∈es.take (k0+k2)) (es.length-k0-k2) (λys t m=>∃k:Nat,ys=[Ii k]/\1<=k/\k<=es.length/\m=es.length-k/\s=t) (es.length-k0) K t':=λk' cur' t' q1 q2 q3 q4 q5 q6=>by
  simp only[vO,aJ,ae,aA];rw[aC];exact⟨_,oM,k',k2+1,cur',rfl,q1,q2,q3,oM,oM,rfl,q4,q5,q6⟩
 have tk2:=λx=>tk (l:=es) (q:=k0+k2) hlt2 x;simp only[ad2 hlt2,aj ht,gt (show k0+k2<cur.length by omega),cA,w2,ad2 (show k0+(k2-1)<es.length by omega),gt (show k0+(k2-1)<cur.length by omega),aR,aG,Bool.true_bne,ae,g1,g2];refine au (λhd=>?_) (λhd=>?_);have hk:k<es.length:=oM;simp only[ad hk,ae];refine aT ht (by rw[lMY];omega) rfl λt3 h3 u3=>?_;have e3:(izs cur).set k (es[k0+k2])=izs (cur.set k es[k0+k2]):=(map_set ..).symm;rw[e3]at h3;simp only[aJ,ae];rw[aC];refine nx (k+1) _ t3 h3 (λi e hi=>by rw[u3 i (cx hb0 hi)];exact st i e hi) (by simpa using hlen) oM (λj hj=>?_) λx=>?_;rw[getElem?_set_ne oM];exact c4 j oM;have e4:=tk (l:=cur.set k es[k0+k2]) (q:=k) (by rw[length_set];omega) x;rw[e4,show k0+(k2+1)=k0+k2+1 by omega,tk2,getElem_set_self,take_set_of_le oM,c5];have hd:es[k0+k2]=es[k0+(k2-1)]:=by simpa using hd
 refine nx k cur t ht st hlen oM (λj hj=>c4 j oM) λx=>?_;rw[c5,show k0+(k2+1)=k0+k2+1 by omega,tk2];refine⟨.inl,λq=>q.elim id λq=>?_⟩;rw[q,hd];have:k0+(k2-1)<(es.take (k0+k2)).length:=by rw[length_take];omega
 have e:(es.take (k0+k2))[k0+(k2-1)]=es[k0+(k2-1)]:=getElem_take
 grind
 ·have hge2:k0+k2=es.length:=gR
  rw[hge2]at c3 c5;rw[take_length]at c5;simp only[sl (show k<=es.length by omega),ae];unfold kD;refine⟨rfl,?_⟩;obtain⟨m,hm⟩:∃m,es.length-k=m+1:=⟨es.length-k-1,oM⟩
  rw[hm];simp only;have e1:wrN t (.ptr b k) (repl (m+1) [Ii 0])=some (hset t b (false,.cells 3 (bN (izs cur) k (repl (m+1) [Ii 0])))):=by
   have e2:ble (k+(repl (m+1) [AV.int .i64 0]).length) (izs cur).length=true:=by rw[eH,length_replicate,lMY,ble_eq];omega
   have e3:aD (repl (m+1) [AV.int .i64 0])=true:=by
    rw[eH];have:∀n,aD (replicate n (AV.int .i64 0))=true:=λn=>by
     induction n with
     |zero=>rfl
     |succ n ih=>rw[replicate_succ,bP,ih];rfl
    exact this _
   simp only[wrN,ht,e2,e3,Bool.and_self,cond_true]
  simp only[e1,ae,sh (show k<=es.length by omega)];refine hK _ _ (cur.take k) (.inr ⟨b,0,none,by rw[lMY,length_take,Nat.min_eq_left oM],(λc h=>by cases h),λ_=>⟨false,3,_,cK,?_,λi hi=>?_⟩⟩) ?_ c5 (λi e hi=>?_) gR;unfold bN;rw[lMY,length_take,lAp,lAp,length_take,lMY];omega;rw[lMY,length_take]at hi;unfold bN;rw[zAY,append_assoc,getElem?_append_left (by rw[length_take,lMY];omega)];exact congrArg (λl:List AV=>l[i]?) (map_take ..).symm;rw[length_take];omega;rw[cE (cx hb0 hi)];exact st i e hi
variable{t:Hq}{b:Nat}{vs:List AV}{q:Nat}{x:Int}{A A':Nat→Prop}
structure Mb(s t:Hq)(b:Nat)(vs:List AV)(q:Nat)(x:Int)(A:Nat->Prop):Prop where
 sub:Sub s t
 nb:s b=none
 cb:Hc t b 25 vs
 ac:∀(i:Nat) (v:AV),vs[i]?=some v->∃l:List Int,Acc 3 s t v (izs l)/\l.length<=q/\(A i->x∈l)
 fb:∀(i:Nat) (v:AV),vs[i]?=some v->¬bH 1 v b
 dj:∀(i j:Nat) (v w:AV),i≠j->vs[i]?=some v->vs[j]?=some w->∀c,bH 1 v c->¬bH 1 w c
theorem Acc.blk{l:List AV}{c:Nat}(h:Acc 3 s t v l)(hb:bH 1 v c):s c=none/\Hc t c 3 l:=by
 obtain⟨o,n,k,rfl⟩:=hb;rcases h with⟨q,_⟩|⟨b',h1,q,h2⟩
 ·cases q
 grind
theorem Acc.one3{l:List AV}(h:Acc 3 s t v l):v.one=true:=by rcases h with⟨q,_⟩|⟨b',h1,q,h2⟩<;>rw[q]<;>rfl
theorem Mb.put{i:Nat}{v v':AV}{l':List Int}{q':Nat}(z:Mb s t b vs q x A)(hi:vs[i]?=some v)(ha:Acc 3 s s' v' (izs l'))(hl:l'.length<=q')(hq:q<=q')(hA:A' i->x∈l')(hA2:∀j,j≠i->A' j->A j)(kp:aB (bH 1 v) t s')(hb:∀c,bH 1 v' c->t c=none∨bH 1 v c){t':Hq}(h:Hc t' b 25 (vs.set i v'))(u:Upto b s' t'):Mb s t' b (vs.set i v') q' x A':=by
 have ⟨hin,_⟩:=gS hi;obtain⟨l,av,_⟩:=z.ac i v hi;have nbv:¬bH 1 v b:=z.fb i v hi;have nbv':¬bH 1 v' b:=λhc=>by
  rcases hb b hc with q|q
  ·rw[z.cb]at q;cases q
  exact nbv q
 have kp2:aB (λc=>bH 1 v c∨c=b) t t':=λc e hc hn=>by rw[u c λq=>hn (.inr q)];exact kp c e hc λq=>hn (.inl q)
 have old:∀(j:Nat) (w:AV),j≠i->vs[j]?=some w->∀c,bH 1 w c->t c≠none/\¬bH 1 v c:=λj w hj hw c hc=>by obtain⟨lw,aw,_⟩:=z.ac j w hw;refine⟨by rw[(Acc.blk aw hc).2];simp,z.dj j i w v hj hw hi c hc⟩
 refine⟨λc e hc=>?_,z.nb,h,λj w hw=>?_,λj w hw=>?_,λj k w w' hjk hw hw' c hc=>?_⟩
 ·have hcb:c≠b:=(by grind [nb])
  exact kp2 c e (z.sub c e hc) λq=>q.elim (λq=>by rw[(Acc.blk av q).1]at hc;cases hc) hcb
 ·by_cases e:j=i
  ·subst e
   rw[getElem?_set_self hin]at hw;cases hw;refine⟨l',ha.imp id λ⟨c,q1,q2,q3⟩=>⟨c,q1,q2,?_⟩,hl,hA⟩;rw[u c λq=>nbv' (by rw[q2,q];exact⟨_,_,_,rfl⟩)];exact q3
  rw[getElem?_set_ne (Ne.symm e)]at hw;have ⟨lw,aw,hlw,hxw⟩:=z.ac j w hw;refine⟨lw,aw.imp id λ⟨c,q1,q2,q3⟩=>⟨c,q1,q2,kp2 c _ q3 λq=>?_⟩,oM,λa=>hxw (hA2 j e a)⟩;have hc:bH 1 w c:=by rw[q2];exact⟨_,_,_,rfl⟩
  exact q.elim (λq=>(old j w e hw c hc).2 q) λq=>z.fb j w hw (by rw[<- q];exact hc)
 ·by_cases e:j=i
  ·subst e
   rw[getElem?_set_self hin]at hw;cases hw;exact nbv'
  rw[getElem?_set_ne (Ne.symm e)]at hw;exact z.fb j w hw
 have far:∀(j:Nat) (w:AV),j≠i->vs[j]?=some w->∀c,bH 1 w c->¬bH 1 v' c:=gR
 by_cases e:j=i
 grind
 rw[getElem?_set_ne (Ne.symm e)]at hw
 by_cases e2:k=i
 grind
 rw[getElem?_set_ne (Ne.symm e2)]at hw';exact z.dj j k w w' hjk hw hw' c hc
variable{cs:List AV}
open TN
theorem Mb.grow{c:Nat}{y:Bool×Blk}(z:Mb s t b vs q x A)(hc:t c=none)(h:s' c=some y)(u:Upto c t s'):Mb (hset s c y) s' b vs q x A:=by
 have k:=u.sub hc;have hb:b≠c:=λe=>by rw[<- e,z.cb]at hc;cases hc
 refine⟨λi e hi=>?_,by grind [bg,nb],k _ _ z.cb,λi v hi=>?_,z.fb,z.dj⟩
 by_cases e1:i=c
 simp_all
 rw[bg e1]at hi;exact k _ _ (z.sub _ _ hi);obtain⟨l,a,hl⟩:=z.ac i v hi;refine⟨l,a.imp id λ⟨d,q1,q2,q3⟩=>⟨d,?_,q2,k _ _ q3⟩,hl⟩
 grind [bg]
theorem Mb.less{r:Hq}(z:Mb s t b vs q x A)(k:Sub r s):Mb r t b vs q x A:=
 ⟨k.trans z.sub,cq k z.nb,z.cb,λi v hi=>by have ⟨l,a,hl⟩:=z.ac i v hi;exact⟨l,a.imp id λ⟨d,q1,q2,q3⟩=>⟨d,cq k q1,q2,q3⟩,hl⟩,z.fb,z.dj⟩
theorem Mb.up{q':Nat}(z:Mb s t b vs q x A)(h:q<=q')(hA:∀i,A' i->A i):Mb s t b vs q' x A':=
 ⟨z.sub,z.nb,z.cb,λi v hi=>by have ⟨l,a,b,c⟩:=z.ac i v hi;exact⟨l,a,oM,λh=>c (hA i h)⟩,z.fb,z.dj⟩
theorem Sl.keepB{w:AV}{l:List AV}{t':Hq}(h:Sl t w l)(kp:∀c,bH 1 w c->l≠[]->∀e,t c=some e->t' c=some e):Sl t' w l:=by
 rcases h with h|⟨c,o,k,e1,e2,e3⟩
 ·exact .inl h
 ·exact .inr ⟨c,o,k,e1,e2,λhn=>by have ⟨tg,el,cs,q1,q2⟩:=e3 hn;exact⟨tg,el,cs,kp c ⟨_,_,_,e1⟩ hn _ q1,q2⟩⟩
theorem HY{n:Nat}(z:Mb s t b vs q x A)(hq:q<=1000)(hn:vs.length=n)(hn2:n<=1000)
  (hK:∀s' vs',Sub s s'->Hc s' b 25 vs'->vs'.length=n->(∀i w,vs'[i]?=some w->∃l,LS.Sli s' w l/\l.length<=q/\(A i->x∈l)/\∀c,bH 1 w c->izs l≠[]->s c=none)->K (.slc b 0 n (some n) 1) s') :
  ∃I2:List AV->Hq->Nat->Prop,(∃m,I2 [(Ii 0)] t m)/\∀(f:Env) (s:Hq) (m2:Nat),I2 [f 42] s m2->Cy (.slc b 0 n (some n) 1) (.slc b 0 n (some n) 1) n (f 42) I2 m2 K s:=by
 refine⟨λys t m=>∃(k:Nat) (vs':List AV),ys=[Ii k]/\k<=n/\m=n-k/\Sub s t/\Hc t b 25 vs'/\vs'.length=n/\(∀i,k<=i->vs'[i]?=vs[i]?/\∀v,vs[i]?=some v->∃l:List Int,Acc 3 s t v (izs l)/\l.length<=q/\(A i->x∈l))/\
  ∀i w,i<k->vs'[i]?=some w->∃l:List Int,LS.Sli t w l/\l.length<=q/\(A i->x∈l)/\∀c,bH 1 w c->izs l≠[]->c≠b/\s c=none/\∀j v,k<=j->vs[j]?=some v->¬bH 1 v c,⟨_,0,vs,rfl,oM,rfl,z.sub,z.cb,hn,(by grind [Mb.ac]),λi w h=>absurd h (not_lt_zero i)⟩,?_⟩
 rintro f t m ⟨k,vs',hy,hk,rfl,st,hb,hl,hr,hdn⟩;simp only[cI,and_true]at hy;rw[hy];simp only[Cy,aH,ae,aA];refine au (λhlt=>?_) (λhge=>hK t vs' st hb hl λi w hw=>?_)
 rotate_left
 ·have hi:i<k:=by
   have:=(gS hw).1;have:=oF hge;omega
  have ⟨l,a,b,c,d⟩:=hdn i w hi hw;exact⟨l,a,b,c,λe h1 h2=>(d e h1 h2).2.1⟩
 have hlt:k<n:=gR;have ad:ba 1 (.slc b 0 n (some n) 1) k=some (.ptr b k):=by
  have:blt k n=true:=by simp_all
  simp[ba,this]
 have ⟨e1,e2⟩:=hr k (Nat.le_refl k);have hkv:vs[k]?=some vs[k]:=gE oM;have ⟨v,hv⟩:∃v,v=vs[k]:=⟨_,rfl⟩
 rw[<- hv]at hkv;have ⟨l,al,hll,hxl⟩:=e2 v hkv;have h0:Own3 (offV v t) t v l:=by
  rcases al with⟨q1,q2⟩|⟨c,q1,q2,q3⟩;exact .inl ⟨q1,by simpa using q2⟩
  ·rw[lMY]at q2
   exact .inr ⟨c,none,by rw[q2];exact if_pos rfl,q2,q3,λc h=>by cases h⟩
 simp only[ad,ae,aj hb,e1,hkv];have nb:=z.fb k v hkv;have own:∀{i:Nat},¬bH 1 v i->offV v t i=t i:=fun {i} hn=>dX λb o n c e' q1 q2=>by
  subst q2;rcases al with⟨q6,_⟩|⟨b'',_,q6,_⟩
  ·rw[q1]at q6;cases q6
  ·rw[q1]at q6;cases q6;exact hn ⟨_,_,_,q1⟩
 refine rP h0 ic oM λt1 h1 st1=>?_;refine PY h1 st1 (by rw[(eI l).length_eq];omega) λv2 t2 es2 sl2 hl2 mem2 st2 bl2=>?_;rw[(eI l).length_eq]at hl2;have hb2:=st2 _ _ (by rw[own nb];exact hb);refine aT hb2 (by rw[hl];exact hlt) sl2.one λt3 h3 u3=>?_;simp only[aJ,ae];rw[aC];have keep:∀i e,t i=some e->¬bH 1 v i->i≠b->t3 i=some e:=λi e hi hn hne=>by rw[u3 i hne];exact st2 _ _ (by rw[own hn];exact hi)
 have fr2:∀c,bH 1 v2 c->izs es2≠[]->c≠b/\s c=none/\∀j w,k+1<=j->vs[j]?=some w->¬bH 1 w c:=λc ⟨o,m,cp,e⟩ hne=>by
  have hc:=bl2 c o m cp e λq=>hne (by rw[q];rfl);refine⟨λq=>(by rw[q,own nb,hb]at hc;cases hc),?_,λj w hj hw hbw=>?_⟩
  ·by_cases hv:bH 1 v c
   ·exact(Acc.blk al hv).1
   ·rw[own hv]at hc;exact cq st hc
  have ⟨lw,aw,_⟩:=(hr j oM).2 w hw;rw[own (z.dj j k w v oM hw hkv c hbw),(Acc.blk aw hbw).2]at hc;cases hc
 refine⟨_,oM,k+1,_,sI,oM,rfl,λi e hi=>?_,h3,gR,λi hi=>⟨gR,λw hw=>?_⟩,λi w hi hw=>?_⟩
 ·exact keep i e (st i e hi) (λq=>by rw[(Acc.blk al q).1]at hi;cases hi) (by grind [Mb.nb])
 ·have ⟨l',a',hl'⟩:=(hr i oM).2 w hw
  refine⟨l',a'.imp id λ⟨d,q1,q2,q3⟩=>⟨d,q1,q2,keep d _ q3 (λq=>?_) λq=>?_⟩,hl'⟩;exact z.dj i k w v oM hw hkv d (by rw[q2];exact⟨_,_,_,rfl⟩) q
  grind
 ·by_cases e:i=k
  ·subst e
   rw[getElem?_set_self oM]at hw;cases hw;refine⟨es2,Sl.keepB sl2 λc hc hne e he=>?_,oM,λa=>(mem2 x).2 ((eI l).mem_iff.2 (hxl a)),λc hc hne=>fr2 c hc hne⟩;rw[u3 c (fr2 c hc hne).1];exact he
  ·rw[getElem?_set_ne (Ne.symm e)]at hw
   have ⟨l',a1,a2,a3,a4⟩:=hdn i w oM hw;refine⟨l',Sl.keepB a1 λc hc hne e he=>keep c e he ((a4 c hc hne).2.2 k v (Nat.le_refl k) hkv) (a4 c hc hne).1,a2,a3,λc hc hne=>⟨(a4 c hc hne).1,(a4 c hc hne).2.1,λj v hj=>(a4 c hc hne).2.2 j v oM⟩⟩
structure SgB(F:FG):Prop where
 b:F.B.length<=32
 n:F.S.length<=6
 s:∀y∈F.S,y.1≠[]/\y.1.length<=3/\y.2.length<=4/\∀n∈y.2,0<=n/\n<(F.B.length:Int)
def MbA(F:FG)(x:Int)(i:Nat)(bd:Nat):Prop:=∃y∈F.S.take i,(bd:Int)∈y.2/\x∈y.1
theorem HZ{F:FG}(ok:SgB F)(hF:FabR s cs F)(hK:∀b s' vs,Sub s s'->s b=none->Hc s' b 25 vs->vs.length=F.B.length->(∀i w,vs[i]?=some w->∃l,LS.Sli s' w l/\l.length<=72/\(MbA F x F.S.length i->x∈l)/\∀c,bH 1 w c->izs l≠[]->s c=none)->K (.slc b 0 F.B.length (some F.B.length) 1) s'):wC TP 63 [.agg cs] K s:=by
 obtain⟨v2,v3,v4,v5,v6,v7,rfl,hL⟩:=hF;have h4:=hL.B;have h5:=hL.S;have ones:=hL.all;refine Xf ⟨ones,an λb0 s1 hb0 q1 u1=>?_⟩;have q1:Hc s1 b0 52 (csG F v2 v3 v4 v5 v6 v7):=q1;have k1:=u1.sub hb0;have e4:(csG F v2 v3 v4 v5 v6 v7)[4]?=some v4:=rfl;have e5:(csG F v2 v3 v4 v5 v6 v7)[5]?=some v5:=rfl;have l4:bp v4=some F.B.length:=by rw[h4.len,lMY]
 simp only[ao,zAY,ae,aj q1,e4,l4,nat?_mk];have Bn:=ok.b;refine⟨⟨Nat.le_refl _,oM⟩,an λb s2 hb q2 u2=>?_⟩;have k2:=u2.sub hb;have k12:=k1.trans k2;simp only[aj (k2 _ _ q1),e5,ae,h5.len];have Sn:=ok.n;have z0:Mb s s2 b (repl F.B.length [AV.nilslc]) 0 x (MbA F x 0):=⟨k12,cq k1 hb,q2,λi v hi=>⟨[],.inl ⟨?_,rfl⟩,sI,λ⟨y,hy,_⟩=>by simp at hy⟩,λi v hi=>?_,λi j v w _ hi hj c hc=>?_⟩
 rotate_left
 grind [eH]
 ·rw[eH,getElem?_replicate]at hi
  split at hi
  ·cases hi
   rintro ⟨_,_,_,e⟩;cases e
  ·cases hi
 ·rw[eH,getElem?_replicate]at hi
  split at hi
  ·cases hi
   have ⟨_,_,_,e⟩:=hc;cases e
  ·cases hi
 refine⟨λys t m=>∃(i:Nat) (vs:List AV),ys=[Ii i]/\i<=F.S.length/\m=F.S.length-i/\Mb s t b vs (12*i) x (MbA F x i)/\vs.length=F.B.length,⟨_,0,_,rfl,oM,rfl,z0,by grind [eH]⟩,?_⟩;rintro f t m ⟨i,vs,hy,hi,rfl,z,hl⟩;simp only[cI,and_true]at hy;rw[hy];simp only[Oc,aH,ae,aK];refine au (λhlt=>?_) (λ_=>?_)
 rotate_left
 ·have hi:i=F.S.length:=by have:=oF ‹_›;omega
  subst hi;refine am (c9) (HY z oM hl oM λs' vs' c1 c2 c3 c4=>hK b s' vs' c1 z.nb c2 c3 λi w hw=>?_);have ⟨l,d1,d2,d3⟩:=c4 i w hw;exact⟨l,d1,oM,d3⟩
 have hlt:i<F.S.length:=gR;have ⟨ps,a1,a2,a3⟩:=h5;have hps:ps[i]?=some ps[i]:=gE oM;have ⟨pb,po,g1,g2,_⟩:=(a1.sub z.sub).get (i:=i) (r:=[ps[i].1,ps[i].2]) gR;have ⟨g5,g6⟩:=a3 i _ _ hps (gE hlt);obtain⟨l1,hl1⟩:∃l1,l1=ps[i].1:=⟨_,rfl⟩
 obtain⟨l2,hl2⟩:∃l2,l2=ps[i].2:=⟨_,rfl⟩
 rw[<- hl1]at g5 g2;rw[<- hl2]at g6 g2;have so:=ok.s _ (getElem_mem hlt);simp only[g1,g2,ae];refine an λb3 t1 hb3 q3 u3=>aZ q3 rfl rfl (by rw[bP,bP,g5.one,g6.one];rfl) λt2 q4 u4=>?_;have u5:Upto b3 t t2:=λi hi=>by rw[u4 i hi,u3 i hi]
 have z1:=z.grow hb3 q4 u5;have e1:[l1,l2][0+1]?=some l2:=rfl;have lx:bp l2=some F.S[i].2.length:=by rw[g6.len];simp[TN.ix]
 simp only[ao,ae,aj q4,e1,lx];refine⟨λys t m=>∃(j:Nat) (vs:List AV),ys=[Ii j]/\j<=F.S[i].2.length/\m=F.S[i].2.length-j/\Mb (hset s b3 (false,.cells 163 [l1,l2])) t b vs (12*i+3*j) x (λbd=>MbA F x i bd∨(x∈F.S[i].1/\(bd:Int)∈F.S[i].2.take j))/\vs.length=F.B.length,⟨_,0,_,rfl,oM,rfl,z1.up (Nat.le_refl _) λbd h=>h.elim id λh=>by simp at h,hl⟩,?_⟩;rintro f t3 m ⟨j,vs3,hy,hj,rfl,z3,hl3⟩;simp only[cI,and_true]at hy;rw[hy];have nb3:=cq z.sub hb3;simp only[Ob,aH,ae,aA];refine au (λhlt2=>?_) (λhge=>?_)
 rotate_left
 simp only[aJ,ae];rw[aC];have hge:j=F.S[i].2.length:=gR;refine⟨_,oM,i+1,vs3,sI,oM,rfl,(z3.less (gy nb3)).up oM λbd ⟨y,hy,hy1,hy2⟩=>?_,hl3⟩;rw[take_add_one,gE hlt,mem_append]at hy;rcases hy with hy|hy
 ·exact .inl ⟨y,hy,hy1,hy2⟩
 ·simp only[Option.toList,mem_singleton]at hy
  subst hy;rw[hge,take_length];exact .inr ⟨hy2,hy1⟩
 have hlt2:j<F.S[i].2.length:=gR;have ks:=(gy (e:=(false,Blk.cells 163 [l1,l2])) nb3).trans z3.sub;have sl1:=g5.sub ks;have sl2:=g6.sub ks;have ⟨p2,g7,g8⟩:=sl2.get (i:=j) (by simpa [TN.ix]using hlt2);have hbd0:=so.2.2.2 _ (getElem_mem hlt2);obtain⟨bd,hbd'⟩:∃bd:Nat,(bd:Int)=F.S[i].2[j]:=⟨F.S[i].2[j].toNat,oM⟩
 have e8:(TN.ix F.S[i].2)[j]?=some (Ii bd):=by rw[TN.lV hlt2,hbd']
 rw[e8]at g8;have hbd:bd<F.B.length:=oM;have ad:ba 1 (.slc b 0 F.B.length (some F.B.length) 1) bd=some (.ptr b bd):=by
  have:blt bd F.B.length=true:=by rw[blt_eq];exact hbd
  simp[ba,this]
 have hvb:vs3[bd]?=some vs3[bd]:=gE oM;have ⟨v,hv⟩:∃v,v=vs3[bd]:=⟨_,rfl⟩
 rw[<- hv]at hvb;have ⟨l,al,hll,hxl⟩:=z3.ac bd v hvb;have q5:=z3.sub _ _ cr;have e9:[l1,l2][0]?=some l1:=rfl;simp only[g7,g8,ae,ad,aj z3.cb,hvb,ao,zAY,aj q5,e9];have ne1:TN.ix F.S[i].1≠[]:=λq=>so.1 (by simpa [TN.ix]using q);have ln1:(TN.ix F.S[i].1).length<=3:=by rw[TN.ga];exact so.2.1
 refine Ps ne1 al z3.sub sl1 (by rw[lMY];omega) λv' t4 acc4 kp4 fr4=>?_;have hb4:=kp4 _ _ z3.cb (z3.fb bd v hvb);refine aT hb4 oM (Acc.one3 acc4) λt5 h5 u5=>?_;have em:izs l++TN.ix F.S[i].1=izs (l++F.S[i].1):=by simp[TN.ix]
 rw[em]at acc4;have tk:∀y:Int,y∈F.S[i].2.take (j+1)↔y∈F.S[i].2.take j∨y=(bd:Int):=λy=>by rw[take_add_one,gE hlt2,mem_append,hbd'];simp only[Option.toList,mem_singleton]
 have z5:=z3.put (q':=12*i+3*(j+1)) (A':=λbd=>MbA F x i bd∨(x∈F.S[i].1/\(bd:Int)∈F.S[i].2.take (j+1))) hvb acc4 (by rw[lAp];have:=so.2.1;omega) oM (λh=>by
  rw[mem_append];rcases h with h|h
  ·exact .inl (hxl (.inl h))
  ·exact .inr h.1) (λk hk h=>h.imp id λ⟨c1,c2⟩=>⟨c1,((tk _).1 c2).resolve_right λq=>hk oM⟩) kp4 fr4 h5 u5
 simp only[aJ,ae];rw[aC];exact⟨_,oM,j+1,_,sI,oM,rfl,z5,by rw[length_set];exact hl3⟩
variable{r:Hq}{l:List Hq}
theorem Sl.frz{v:AV}{l:List AV}(h:Sl s v l):Sl (frz s) v l:=by
 rcases h with h|⟨b,o,c,e1,e2,e3⟩
 ·exact .inl h
 ·exact .inr ⟨b,o,c,e1,e2,λhn=>by have ⟨t1,el,cs,q1,q2⟩:=e3 hn;exact⟨true,el,cs,cG q1,q2⟩⟩
theorem SlR.frz{n:Nat}{rows:List (List AV)}(h:SlR n s v rows):SlR n (frz s) v rows:=by
 have ⟨h1,h2⟩:=h;refine⟨h1,?_⟩;rcases h2 with h|⟨b,o,c,e1,e2,e3⟩
 ·exact .inl h
 ·exact .inr ⟨b,o,c,e1,e2,λhn=>by have ⟨t1,el,cs,q1,q2⟩:=e3 hn;exact⟨true,el,cs,cG q1,q2⟩⟩
theorem SgR.frz{S:List TN.Sg}(h:TN.SgR s v S):TN.SgR (frz s) v S:=by have ⟨vs,h1,h2,h3⟩:=h;exact⟨vs,SlR.frz h1,h2,λi q x a c=>⟨Sl.frz (h3 i q x a c).1,Sl.frz (h3 i q x a c).2⟩⟩
theorem NFR.frz{F:TN.NFab}(h:TN.NFR s cs F):TN.NFR (frz s) cs F:=by have ⟨v2,v3,v4,v5,v6,v7,e,h2,h3,h4,h5,h6,h7⟩:=h.ex;exact⟨v2,v3,v4,v5,v6,v7,e,SlR.frz h2,SlR.frz h3,SlR.frz h4,SgR.frz h5,SlR.frz h6,SlR.frz h7⟩
theorem NFR.sub{F:TN.NFab}(h:TN.NFR s cs F)(k:Sub s s'):TN.NFR s' cs F:=by have ⟨v2,v3,v4,v5,v6,v7,e,h2,h3,h4,h5,h6,h7⟩:=h.ex;exact⟨v2,v3,v4,v5,v6,v7,e,h2.sub k,h3.sub k,h4.sub k,h5.sub k,h6.sub k,h7.sub k⟩
def newp(s s':Hq):Hq:=λi=>if s i=none then s' i else none
theorem jU{i:Nat}(h:s i=none):newp s s' i=s' i:=if_pos h
theorem H1:Sub (newp s s') s':=λi e hi=>by
 unfold newp at hi;split at hi
 ·exact hi
 ·cases hi
theorem Sep.fresh1(z:Sep s l)(k:Sub s s')(hr:Sub r s')(hf:∀i,r i≠none->s i=none):Sep s' (r::l):=
 ⟨λy hy=>by
  rcases mCY hy with e|hy
  ·rw[e];exact hr
  ·exact(z.sub y hy).trans k,pairwise_cons.2 ⟨λy hy i hi=>cq (z.sub y hy) (hf i hi),z.dj⟩⟩
theorem Sep.newp(z:Sep s l)(k:Sub s s'):Sep s' (RT.newp s s'::l):=z.fresh1 k H1 λi hi=>by
 cases q:s i with
 |none=>rfl
 |some x=>exact absurd (show RT.newp s s' i=none from if_neg (by rw[q];simp)) hi
theorem Sep.rows{n:Nat}{rows:List (List AV)}(z:Sep s l)(k:Sub s s')(h:SlR n s' v rows)(hf:∀b o m c,v=.slc b o m c n->rows≠[]->s b=none):∃nb,SlR n nb v rows/\Sep s' (nb::l):=by
 have ⟨h1,h2⟩:=h;have no:SlR n (λ_=>none) v rows->∃nb,SlR n nb v rows/\Sep s' (nb::l):=λh=>⟨λ_=>none,h,⟨λy hy=>by
  rcases mCY hy with e|hy
  ·rw[e];intro i e hi;cases hi
  ·exact(z.sub y hy).trans k,pairwise_cons.2 ⟨λy hy i hi=>absurd rfl hi,z.dj⟩⟩⟩
 rcases h2 with⟨e1,e2⟩|⟨b,o,c,e1,e2,e3⟩
 ·exact no ⟨h1,.inl ⟨e1,e2⟩⟩
 ·by_cases hn:rows=[]
  ·exact no ⟨h1,.inr ⟨b,o,c,e1,e2,λq=>absurd hn q⟩⟩
  ·have ⟨t1,el,cs,q1,q2,q3⟩:=e3 hn
   have far:=hf _ _ _ _ e1 hn;exact⟨one b (t1,.cells el cs),⟨h1,.inr ⟨b,o,c,e1,e2,(by grind [aP])⟩⟩,z.fresh k far q1⟩
theorem ZE{n:Nat}{rows:List (List AV)}{t:Hq}(h:SlR n t v rows)(hf:∀b o m c,v=.slc b o m c n->rows≠[]->frz s b=none):SlR n (add s t) v rows/\∀b o m c,v=.slc b o m c n->rows≠[]->s b=none:=by
 have hf':∀b o m c,v=.slc b o m c n->rows≠[]->s b=none:=(by grind [eu])
 have ⟨h1,h2⟩:=h;refine⟨⟨h1,?_⟩,hf'⟩;rcases h2 with h|⟨b,o,c,e1,e2,e3⟩
 ·exact .inl h
 ·exact .inr ⟨b,o,c,e1,e2,(by grind [aV])⟩
theorem eT{c:Nat}{a b:Bool×Blk}:hset (one c a) c b=one c b:=by
 grind [cr,bg,one]
variable{rv0 st:Hq}{p m d f x:Nat}{lf sp:Int}{lv mv uv dv w:AV}{wl:Wb}{L:List LS.Lnk}{X:List Hq}{l:List (Int × AV)}
def W0(de:Int):Nat->DT.Wt:=λ_=>⟨de,false,none,none,0,0⟩
theorem PZ{V:Type}{l:List (Int×V)}{k:Int}{v:V}(h:look l k=none):stor l k v=l ++ [(k,v)]:=by unfold stor;rw[h]
theorem H5{wl:Wb}{k:Int}(h:∀q∈wl,(q.1:Int)≠k):look (mW wl) k=none:=by
 grind [look,mW]
theorem WsAt.nil(h:da rv0 m []){W:Nat->DT.Wt}:WsAt rv0 m [] W:=⟨h,(λq h=>by cases h),(λq h=>by cases h),List.Pairwise.nil⟩
theorem WsAt.snoc{W:Nat->DT.Wt}{k c:Nat}{y:Bool×Blk}(z:WsAt rv0 m wl W)(hk:∀q∈wl,q.1<k)(hc:rv0 c=none)(hw:DT.WtAt (one c y) c false (W k))(hl:(W k).last=none/\(W k).heard=none){b:Bool×Blk}(hm:da (hset (add (one c y) rv0) m b) m (mW wl ++ [((k:Int),.ptr c 0)])):WsAt (hset (add (one c y) rv0) m b) m (wl ++ [(k,c)]) W:=by
 have hmc:m≠c:=λe=>by
  have ⟨es,c',h1,_⟩:=z.mp
  grind
 have ⟨e0,L0,D0,hy,h2,h3⟩:=hw;rw[aP]at hy;rw[hl.1]at h2;rw[hl.2]at h3;refine⟨by grind [mW],λq hq=>?_,λq hq q' hq' e=>?_,?_⟩;rcases mP hq with hq|hq;have ⟨es,c',h4,_⟩:=z.mp;have ⟨e1,L1,D1,h5,h6,h7⟩:=z.w q hq;have kp:aB (λi=>i=m) rv0 (hset (add (one c y) rv0) m b):=λi e hi hn=>by have h1:i≠c:=λe2=>gR;rw[bg hn,aV (by grind [one])];exact hi
 have hn:∀(b:Nat) (t:Bool) (e:TypeId) (n:Int),rv0 b=some (t,.cells e [n])->¬b=m:=gR;exact⟨e1,L1,D1,kp _ _ h5 (λq=>gR),h6.keep kp hn,h7.keep kp hn⟩;rw[mem_singleton]at hq;subst hq;refine⟨e0,L0,D0,?_,?_,?_⟩;rw[bg (λe=>hmc e.symm),bJ aP];exact hy;rw[hl.1];exact h2;rw[hl.2];exact h3;have far:∀q∈wl,q.2≠c:=λq hq e=>by
  have ⟨_,_,_,h1,_⟩:=z.w q hq
  grind
 rcases mP hq with hq|hq;rcases mP hq' with hq'|hq';exact z.inj q hq q' hq' e
 grind
 grind
 grind [asc]
theorem H6{n b0:Nat}{cs:List AV}{de:Int}(hde:1<=de/\de<=1000)(h13:cs[13]?=some (Ii de))(hcb:∀t,(∀y∈X,Sub y t)->Hc t b0 52 cs)(hst:st∈X)(hl:SlR 3 st lv (L.map LS.lnR))(hn:n=L.length)(hn2:n<=1000)
  (z:Sep s (pC p x lf sp lv mv m d f false 0 uv dv::rv0::X)) (hw:WsAt rv0 m [] (W0 de)) {k:Nat}{I1:List AV->Hq->Nat->Prop}{m1:Nat}
  (hK:∀s rv0 wl I1 m1,Sep s (pC p x lf sp lv mv m d f false 0 uv dv::rv0::X)->WsAt rv0 m wl (W0 de)->wl.map (·.1)=ownL L x->lC (Pp b0) (Pp p) n n I1 m1 K s) :
  ∃I1:List AV->Hq->Nat->Prop,(∃m,I1 [(Ii 0)] s m)/\∀(f:Env) (s:Hq) (m1:Nat),I1 [f 98] s m1->lC (Pp b0) (Pp p) n (f 98) I1 m1 K s:=by
 refine⟨λys t M=>∃(k:Nat) (rv0:Hq) (wl:Wb),ys=[Ii k]/\k<=n/\M=n-k/\Sep t (pC p x lf sp lv mv m d f false 0 uv dv::rv0::X)/\WsAt rv0 m wl (W0 de)/\wl.map (·.1)=(List.range k).filter (λi:Nat=>owB L (x:Int) (i:Int)),⟨_,0,rv0,[],rfl,oM,rfl,z,hw,rfl⟩,?_⟩;rintro g t M ⟨k,rv0,wl,hy,hk,rfl,z,hw,hwl⟩;simp only[cI,and_true]at hy;rw[hy]
 by_cases hlt:k<n
 rotate_left
 have:k=n:=oM;subst this;exact hK t rv0 wl _ _ z hw (by rw[hwl,hn];rfl);have hp:Hc t p 75 (roC (x:Int) (lbk x) lf sp lv mv m d f false 0 uv dv):=z.sub (pC p x lf sp lv mv m d f false 0 uv dv) sI _ _ aP;unfold lC;simp only[aH,ae];rw[decide_eq_true oM,aF];simp only[aO,ao,ae,zAY];refine lQ hp (hl.sub (z.sub st (by simp[hst]))) ?_;simp only[bD,ae];have next:∀rw' wl' t',Sep t' (pC p x lf sp lv mv m d f false 0 uv dv::rw'::X)->WsAt rw' m wl' (W0 de)->wl'.map (·.1)=(List.range (k+1)).filter (λi:Nat=>owB L (x:Int) (i:Int))->wg k (λys t M=>∃(k:Nat) (rv0:Hq) (wl:Wb),ys=[Ii k]/\k<=n/\M=n-k/\Sep t (pC p x lf sp lv mv m d f false 0 uv dv::rv0::X)/\WsAt rv0 m wl (W0 de)/\wl.map (·.1)=(List.range k).filter (λi:Nat=>owB L (x:Int) (i:Int))) (n-k) K t':=by
  intro rw' wl' t' z' w' e';unfold wg;simp only[aJ,ae];rw[aC]
  grind
 refine au (λho=>?_) (λho=>?_)
 ·have ho:owB L (x:Int) (k:Int)=false:=by simpa using ho
  exact next rv0 wl t z hw (by rw[hwl,range_succ,filter_append];simp[ho])
 have ho:owB L (x:Int) (k:Int)=true:=by simpa using ho
 have hb0:=hcb t λy hy=>z.sub y (by simp[hy]);refine⟨t,.refl t,?_⟩;simp only[aj hp,g1Y,g0Y,ae,aj hb0,h13];rw[d8];refine DT.New_in (λc t1 k1 hc hw1 _ _=>?_) λh=>absurd hde h;have x0:∀a b:AV,aN (.tup [a,b]) 0=some a:=λ_ _=>rfl;have x1:∀a b:AV,aN (.tup [a,b]) 1=some b:=λ_ _=>rfl;simp only[x0,x1,ae];have hc:t c=none:=eu.1 hc;have ⟨e0,L0,D0,hw2,hw3,hw4⟩:=hw1;have h3:add t t1 c=some (false,.cells e0 [de,(DT.bi false:Int),L0,D0,Ii 0,Ii 0]):=by grind [aV]
 have ⟨t3,ht3⟩:∃t3,t3=add t t1:=⟨_,rfl⟩
 rw[<- ht3]at h3 ⊢;have z3:=z.fresh (by rw[ht3];exact eF) hc h3;have z4:Sep t3 (add (one c (false,.cells e0 [de,(DT.bi false:Int),L0,D0,Ii 0,Ii 0])) rv0::pC p x lf sp lv mv m d f false 0 uv dv::X):=Sep.join (z3.perm (.cons _ (List.Perm.swap _ _ _)));have rc:rv0 c=none:=cq (z.sub rv0 sI) hc;have ⟨es,c',hm,hes⟩:=hw.mp;have hmc:m≠c:=λe=>gR;have hm3:add (one c (false,Blk.cells e0 [de,(DT.bi false:Int),L0,D0,Ii 0,Ii 0])) rv0 m=some (false,.map es c'):=by
  grind [aV,one]
 have hks:∀q∈wl,q.1<k:=λq hq=>by
  have:q.1∈wl.map (·.1):=mem_map_of_mem hq
  grind
 refine da.put (l:=mW wl) ⟨es,c',z4.sub _ sI _ _ hm3,hes⟩ oM λt4 hm4 u4=>?_;rw[PZ ((by grind [H5]))]at hm4;have ⟨es4,c4,hm5,hes4⟩:=hm4;have z5:=Sep.wr1 z4 u4 (by rw[hm3];simp) hm5;have w5:=hw.snoc (k:=k) (b:=(false,.map es4 c4)) hks rc ⟨e0,L0,D0,aP,hw3,hw4⟩ ⟨rfl,rfl⟩ ⟨es4,c4,cr,hes4⟩;have e3:negB true (eqV 0 true (Ii 0) (Ii 0))=some false:=rfl;simp only[e3];exact next _ _ t4 (z5.perm (List.Perm.swap _ _ _)) w5 (by rw[map_append,hwl,range_succ,filter_append];simp[ho])
end Go.AM.RT
