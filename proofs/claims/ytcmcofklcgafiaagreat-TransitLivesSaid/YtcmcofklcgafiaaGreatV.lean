/- Part V of the proof: see the last part. -/
import Derived.Test.YtcmcofklcgafiaaGreatA3
import Derived.Test.YtcmcofklcgafiaaGreatProg
import Derived.KernelRfl
set_option linter.unusedVariables false
namespace Go.AM
open Go Go.Proofs List Nat
noncomputable abbrev TP:Program:=Tryz.prog
def nA0:Nat->List Nat:=λ_=>[]
abbrev IvP:=List AV->Hq->Nat->Prop
abbrev KvP:=AV->Hq->Prop
abbrev LvP:=List Nat->List AV->Hq->Prop
def aL(p:AV)(k:Nat)(s:Hq)(K:AV->Prop):MP (oK (cJ p) λx=>oK (cO k x) λy=>oK (rd1 s y) K):=⟨⟩
def qs(p:AV)(k:Nat)(s:Hq)(v:AV)(K:Hq->Prop):MP (oK (cJ p) λx=>oK (cO k x) λy=>oK (wr1 s y v) K):=⟨⟩
def bX(p:AV)(k:Nat)(K:AV->Prop):MP (oK (cJ p) λx=>oK (cO k x) K):=⟨⟩
def qd(k:Nat)(p:AV)(s:Hq)(K:AV->Prop):MP (oK (cO k p) λy=>oK (rd1 s y) K):=⟨⟩
def qx(n:Nat)(p i:AV)(s:Hq)(K:AV->Prop):MP (oK (ba n p i) λy=>oK (rd1 s y) K):=⟨⟩
def qw(n:Nat)(p i:AV)(k:Nat)(s:Hq)(K:AV->Prop):MP (oK (ba n p i) λx=>oK (cO k x) λy=>oK (rd1 s y) K):=⟨⟩
def qr(s:Hq)(p:AV)(K:AV->Prop):MP (oK (rd1 s p) K):=⟨⟩
def aE(s:Hq)(n:Nat)(p:AV)(K:List AV->Prop):MP (oK (rdN s n p) K):=⟨⟩
def qf(k:Nat)(p:AV)(K:AV->Prop):MP (oK (cO k p) K):=⟨⟩
def ak(o:BinOp)(p q:AV)(K:AV->Prop):MP (oK (bO o p q) K):=⟨⟩
def qe(t:Bool)(k:Nat)(c:Bool)(p q:AV)(K:AV->Prop):MP (oK (negB t (eqV k c p q)) K):=⟨⟩
def qi(n:Nat)(p i:AV)(K:AV->Prop):MP (oK (ba n p i) K):=⟨⟩
def qh(p:AV)(K:Nat->Prop):MP (oK (bp p) K):=⟨⟩
abbrev aK(l:List AV)(s:Hq)(c:Env->List AV)(Q:IvP->Env->Hq->Nat->Prop):Prop:=∃I:IvP,(∃m,I l s m)/\∀(f:Env)(s:Hq)(m:Nat),I (c f) s m->Q I f s m
abbrev aA(m:Nat)(I:Nat->Prop):Prop:=∃m',m'<m/\I m'
def ah:MV (.int .i64 0):=⟨⟩
def ax:MV (.int .i64 1):=⟨⟩
def bF:MV (.bool false):=⟨⟩
def bT:MV (.bool true):=⟨⟩
def qz(n:Int):MV (.int .i64 n):=⟨⟩
def qp(p q:AV)(K:AV->Prop):MP (oK (bK p q (.bool false)) K):=⟨⟩
def qt(p q:AV)(K:AV->Prop):MP (oK (bK p (.bool true) q) K):=⟨⟩
def qj(p:AV)(K:AV->Prop):MP (oK (ki .not p) K):=⟨⟩
def qk(p:AV)(n:Nat)(K:AV->Prop):MP (oK (aN p n) K):=⟨⟩
def qc(s:Hq)(n b:Nat)(v:AV)(K:Hq->Prop):MP (oK (cn s n (.ptr b 0) v) K):=⟨⟩
def bu:MV (.int .u32 0):=⟨⟩
def oB:ML [(.int .u64 0),bu,ah,ah]:=⟨⟩
def iF:ML [ah,bu,bu,bu,ah,bu]:=⟨⟩
def A6:ML [ah,ah,ah,ah,ah,ah]:=⟨⟩
def jp:ML [bu,bu,ah,ah,bu,bu,(.int .u64 0),(.int .u64 0),ah,ah,(.int .u64 0),bu,(.int .u64 0),bu,bu,bu,ah,ah,ah,ah,(.int .u64 0)]:=⟨⟩
def kW:ML [ah,bu,bu,ah,ah,bu,bu,(.int .u64 0),(.int .u64 0),ah,ah,(.int .u64 0),bu,(.int .u64 0),bu,bu,bu,ah,ah,ah,ah,(.int .u64 0)]:=⟨⟩
def jq:ML [ah,ah,ah,ah,bu,bu,ah,ah,bu,bu,(.int .u64 0),(.int .u64 0),ah,ah,(.int .u64 0),bu,(.int .u64 0),bu,bu,bu,ah,ah,ah,ah,(.int .u64 0)]:=⟨⟩
abbrev iG:=KvP->Hq->Prop
abbrev aY:=AV->KvP->Hq->Prop
abbrev V12x1:=AV->AV->AV->AV->AV->AV->AV->AV->AV->AV->AV->AV->IvP->Nat->KvP->Hq->Prop
abbrev dN:=AV->IvP->Nat->KvP->Hq->Prop
abbrev A7:=AV->IvP->Nat->IvP->Nat->KvP->Hq->Prop
abbrev aM:=AV->AV->KvP->Hq->Prop
abbrev dp:=AV->AV->IvP->Nat->KvP->Hq->Prop
abbrev jr:=AV->AV->IvP->Nat->IvP->Nat->KvP->Hq->Prop
abbrev aW:=AV->AV->AV->KvP->Hq->Prop
abbrev cj:=AV->AV->AV->IvP->Nat->KvP->Hq->Prop
abbrev ct:=AV->AV->AV->AV->KvP->Hq->Prop
abbrev bS:=AV->AV->AV->AV->IvP->Nat->KvP->Hq->Prop
abbrev A8:=AV->AV->AV->AV->IvP->Nat->IvP->Nat->KvP->Hq->Prop
abbrev cX:=AV->AV->AV->AV->AV->KvP->Hq->Prop
abbrev bM:=AV->AV->AV->AV->AV->IvP->Nat->KvP->Hq->Prop
abbrev A9:=AV->AV->AV->AV->AV->IvP->Nat->IvP->Nat->KvP->Hq->Prop
abbrev gC:=AV->AV->AV->AV->AV->AV->KvP->Hq->Prop
abbrev bU:=AV->AV->AV->AV->AV->AV->IvP->Nat->KvP->Hq->Prop
abbrev gX:=AV->AV->AV->AV->AV->AV->IvP->Nat->IvP->Nat->KvP->Hq->Prop
abbrev gD:=AV->AV->AV->AV->AV->AV->AV->KvP->Hq->Prop
abbrev dO:=AV->AV->AV->AV->AV->AV->AV->IvP->Nat->KvP->Hq->Prop
abbrev cV:=AV->AV->AV->AV->AV->AV->AV->AV->IvP->Nat->KvP->Hq->Prop
abbrev js:=AV->AV->AV->AV->AV->AV->AV->AV->IvP->Nat->IvP->Nat->KvP->Hq->Prop
abbrev oC:=AV->AV->AV->AV->AV->AV->AV->AV->AV->IvP->Nat->KvP->Hq->Prop
abbrev oD:=AV->AV->AV->AV->AV->AV->AV->AV->AV->IvP->Nat->IvP->Nat->KvP->Hq->Prop
theorem wOK{P:Program}{n:FuncId}{f:Func}(h1:P.funcs[n]?=some f)(A:Nat->List Nat:=nA0){args:List AV}{K:AV->Hq->Prop}{s:Hq}{Q:Prop}(hb:f.body=some (aI f):=by kernel_rfl)(hl:ble args.length f.ntmps=true:=by kernel_rfl)(he:wpC P A f.ntmps none (aI f) (d7 args) (λe env s=>retK e (resK P f.results.toList env (λvs=>K (oneV vs) s) s)) s=Q:=by kernel_rfl)(h:Q):wC P n args K s:=
  Ak A h1 hb hl (Eq.mpr he h)
def anL:List (Nat×List Nat)->Nat->List Nat
 |[],_=>[]
 |(j,l)::r,k=>cond (beq k j) l (anL r k)
abbrev zR0:List AV:=[(.int .i64 0),(.int .u64 0),(.int .u8 0),(.int .u8 0),(.int .u8 0),(.int .u8 0),(.int .u8 0),(.int .u8 0),(.int .u8 0),(.int .u8 0),(.int .u8 0),(.int .u8 0),(.int .u32 0),(.int .u64 0),(.int .u32 0),(.bool false),(.int .u32 0),(.int .i64 0),(.int .u32 0),(.int .u32 0),(.int .u32 0),(.int .i64 0),.nilslc,(.int .u32 0),(.bool false),(.int .u32 0),(.bool false),(.int .u32 0),(.bool false),(.int .u32 0),.nilslc,.nilslc,(.int .i64 0),(.int .u32 0),(.int .u32 0),(.int .u32 0),(.int .u32 0),(.bool false)]
abbrev zR1:List AV:=[(.int .i64 0),(.int .i64 0),.nilslc,.nilslc,.nilslc,.nilslc,.nilslc,.nilslc,(.int .i64 0),(.int .i64 0),(.int .i64 0),(.bool false),(.bool false),(.int .i64 0),(.int .i64 0),(.int .i64 0),(.int .i64 0),(.int .i64 0),(.int .i64 0)]
abbrev ae:=And.intro @bG<|And.intro @aK.eq_1<|And.intro @aA.eq_1<|And.intro @zR0.eq_1<|@zR1.eq_1
set_option maxRecDepth 100000
abbrev T0(N:Nat)(Q:iG):Prop:=∀{K:KvP}{s:Hq},Q K s->wC Tryz.prog N [] K s
abbrev T1(N:Nat)(Q:aY):Prop:=∀{a:AV}{K:KvP}{s:Hq},Q a K s->wC Tryz.prog N [a] K s
abbrev T2(N:Nat)(Q:aM):Prop:=∀{a b:AV}{K:KvP}{s:Hq},Q a b K s->wC Tryz.prog N [a,b] K s
abbrev T3(N:Nat)(Q:aW):Prop:=∀{a b c:AV}{K:KvP}{s:Hq},Q a b c K s->wC Tryz.prog N [a,b,c] K s
abbrev T4(N:Nat)(Q:ct):Prop:=∀{a b c d:AV}{K:KvP}{s:Hq},Q a b c d K s->wC Tryz.prog N [a,b,c,d] K s
abbrev T5(N:Nat)(Q:cX):Prop:=∀{a b c d e:AV}{K:KvP}{s:Hq},Q a b c d e K s->wC Tryz.prog N [a,b,c,d,e] K s
abbrev T6(N:Nat)(Q:gC):Prop:=∀{a b c d e f:AV}{K:KvP}{s:Hq},Q a b c d e f K s->wC Tryz.prog N [a,b,c,d,e,f] K s
abbrev T7(N:Nat)(Q:gD):Prop:=∀{a b c d e f g:AV}{K:KvP}{s:Hq},Q a b c d e f g K s->wC Tryz.prog N [a,b,c,d,e,f,g] K s
def iH:aM:=λa b K s=>aE s 19 b λb=>oK (cn s 19 a (.agg b)) λb=>aE b 19 a λa=>K (.agg a) b
def Ba:bU:=λa b c d e f I5 m5 K s=>ak .lss f d λd=>ai d
 (∃d:Hq,Sub d s/\
 qd 7 c d λg=>wC TP 83 [b,e] (λb e=>wC TP 82 [g,b] (λb g=>qf 7 c λh=>oK (wr1 g h b) λb=>ak .add f ax λf=>aA m5 (I5 [f] b)) (add d e)) (lock s d))
 (iH a c K s)
def Bb:bM:=λa b c d e I3 m3 K s=>ak .lss e d λd=>ai d
 (∃d:Hq,Sub d s/\
 qd 6 c d λg=>aE d 19 c λh=>wC TP 81 [b,(.agg h),e] (λh i=>oK (aq (repl 1 oB) [(0,4,h)]) λh=>aD h=true/\newK 182 h (λh j=>appK 182 4 g (.slc h 0 1 (some 1) 4) (λg h=>qf 6 c λk=>oK (wr1 h k g) λg=>ak .add e ax λe=>aA m3 (I3 [e] g)) (add d j)) i) (lock s d))
 (qd 3 c s λd=>qh d λd=>ak .gtr (.int .i64 d) ax λe=>ai e
 (wC TP 77 [b,(qz 3)] (λe g=>aK [ah] g (λf=>[f 11]) λI5 f s m5=>Ba a b c e (.int .i64 d) (f 11) I5 m5 K s) s)
 (iH a c K s))
def Bc:bM:=λa b c d e I2 m2 K s=>ak .lss e d λd=>ai d
 (∃d:Hq,Sub d s/\
 qd 5 c d λg=>qd 0 c d λh=>qd 4 c d λi=>qh i λi=>wC TP 80 [b,h,(qz 3)] (λh j=>wC TP 80 [b,(.int .i64 i),(qz 4)] (λi k=>oK (aq [.nilslc,.nilslc] [(0,1,h),(1,1,i)]) λh=>oK (aq (repl 1 [.nilslc,.nilslc]) [(0,2,(.agg h))]) λh=>aD h=true/\newK 163 h (λh i=>appK 163 2 g (.slc h 0 1 (some 1) 2) (λg h=>qf 5 c λl=>oK (wr1 h l g) λg=>ak .add e ax λe=>aA m2 (I2 [e] g)) (add d i)) k) j) (lock s d))
 (wC TP 77 [b,(qz 9)] (λd e=>aK [ah] e (λf=>[f 9]) λI3 f s m3=>Bb a b c d (f 9) I3 m3 K s) s)
def Be:bM:=λa b c d e I1 m1 K s=>ak .lss e d λd=>ai d
 (∃d:Hq,Sub d s/\
 qd 4 c d λg=>qd 3 c d λh=>qh h λh=>wC TP 79 [b,e,(.int .i64 h)] (λh i=>oK (aq (repl 1 iF) [(0,6,h)]) λh=>aD h=true/\newK 161 h (λh j=>appK 161 6 g (.slc h 0 1 (some 1) 6) (λg h=>qf 4 c λk=>oK (wr1 h k g) λg=>ak .add e ax λe=>aA m1 (I1 [e] g)) (add d j)) i) (lock s d))
 (wC TP 77 [b,(qz 5)] (λd e=>ak .add (qz 2) d λd=>aK [ah] e (λf=>[f 8]) λI2 f s m2=>Bc a b c d (f 8) I2 m2 K s) s)
def Lq:bS:=λa b c d I0 m0 K s=>wC TP 77 [b,(qz 3)] (λe g=>ak .leq d e λe=>ai e
 (qd 3 c g λe=>ak .add (qz 100) d λh=>oK (cw .u32 h) λh=>ak .add (qz 900) d λi=>oK (cw .u32 i) λi=>oK (aq [bu,bu] [(0,1,h),(1,1,i)]) λh=>oK (aq (repl 1 [bu,bu]) [(0,2,(.agg h))]) λh=>aD h=true/\newK 157 h (λh i=>appK 157 2 e (.slc h 0 1 (some 1) 2) (λe h=>qf 3 c λj=>oK (wr1 h j e) λe=>ak .add d ax λd=>aA m0 (I0 [d] e)) i) g)
 (wC TP 77 [b,(qz 4)] (λd e=>ak .add ax d λd=>aK [ah] e (λf=>[f 7]) λI1 f s m1=>Be a b c d (f 7) I1 m1 K s) g)) s
def Bg:aY:=λa K s=>newK 52 zR1 (λb c=>oK (aq [.nilslc,ah] [(0,1,a)]) λa=>boxK 176 (.agg a) (λa d=>wC TP 77 [a,(qz 3)] (λe g=>ak .add (qz 2) e λe=>wC TP 77 [a,(qz 3)] (λh i=>ak .add ax h λh=>wC TP 77 [a,(qz 3)] (λj k=>wC TP 77 [a,(qz 2)] (λl m=>wC TP 77 [a,(qz 2)] (λn o=>wC TP 77 [a,(qz 2)] (λp q=>qe false 0 true p ah λp=>wC TP 77 [a,(qz 3)] (λr t=>qe false 0 true r ax λr=>oK (aq zR1 [(0,1,e),(1,1,h),(8,1,j),(9,1,l),(10,1,n),(11,1,p),(12,1,r)]) λe=>newK 52 zR1 (λh j=>qc j 19 h (.agg e) λe=>wC TP 77 [a,(qz 3)] (λj l=>ak .add ax j λj=>wC TP 77 [a,(qz 30)] (λn p=>ak .add (qz 40) n λn=>oK (aq A6 [(0,1,j),(1,1,(qz 9)),(2,1,n),(3,1,(qz 20)),(4,1,(qz 5)),(5,1,(qz 30))]) λj=>qf 13 (.ptr h 0) λn=>oK (cn p 6 n (.agg j)) λj=>qd 0 (.ptr h 0) j λn=>qd 1 (.ptr h 0) j λp=>wC TP 78 [a,n,p] (λn p=>qf 2 (.ptr h 0) λr=>oK (wr1 p r n) λn=>aK [ah] n (λf=>[f 5]) λI0 f s m0=>Lq (.ptr b 0) a (.ptr h 0) (f 5) I0 m0 K s) j) l) e) t) q) o) m) k) i) g) d) c) s
def Rr:Nat->List Nat:=anL [(12,[5]),(22,[7]),(3000013,[1]),(2000052,[0,1,2,3,4,5,6]),(2000053,[7,8]),(2000055,[9,10,11]),(32,[8]),(3000018,[1]),(2000072,[0,1,2,3,4,6,7,8,9]),(2000073,[5,10,11,12]),(2000075,[13,14,15]),(42,[9]),(3000023,[1]),(2000092,[0,1,2,3,4]),(2000093,[5,6]),(2000095,[7,8,9]),(56,[11]),(3000030,[1]),(2000120,[0,1,2,3]),(2000121,[4]),(2000123,[5,6,7])]
theorem Rs:T1 29 Bg:=wOK Tryz.func29 Rr
def Lr:aM:=λa b K s=>aL a 1 s λc=>aL a 0 s λd=>qh d λd=>ak .geq c (.int .i64 d) λc=>ai c
 (K ah s)
 (aL a 1 s λc=>ak .add c ax λc=>qs a 1 s c λc=>aL a 0 c λd=>aL a 1 c λa=>ak .sub a ax λa=>qx 1 d a c λa=>wC TP 127 [a,b] (λa b=>K a b) c)
theorem Ru:T2 77 Lr:=wOK Tryz.func77
def uk:jr:=λa b I1 m1 I0 m0 K s=>ak .add b ax λb=>aA m1 (I1 [a,b] s)
def Ls:gX:=λa b c d e f I1 m1 I0 m0 K s=>ak .lss f c λc=>ai c
 (wC TP 77 [a,(qz 8)] (λc g=>qe true 0 true c (qz 7) λc=>ai c
 (ak .add b f λb=>wC TP 77 [a,(qz 2)] (λa c=>ak .add ax a λa=>oK (aq [ah,ah,ah] [(0,1,e),(1,1,b),(2,1,a)]) λa=>oK (aq (repl 1 [ah,ah,ah]) [(0,3,(.agg a))]) λa=>aD a=true/\newK 145 a (λa b=>appK 145 3 d (.slc a 0 1 (some 1) 3) (λa h=>uk a f I1 m1 I0 m0 K h) b) c) g)
 (uk d f I1 m1 I0 m0 K g)) s)
 (ak .add e ax λa=>aA m0 (I0 [d,a] s))
def Lt:bM:=λa b c d e I0 m0 K s=>ak .lss e b λg=>ai g
 (aK [d,ah] s (λf=>[f 7,f 9]) λI1 f s m1=>Ls a b c (f 7) e (f 9) I1 m1 I0 m0 K s)
 (K d s)
def Bh:aW:=λa b c K s=>aK [.nilslc,ah] s (λf=>[f 7,f 8]) λI0 f s m0=>Lt a b c (f 7) (f 8) I0 m0 K s
def Rv:Nat->List Nat:=anL [(6,[7,8]),(12,[7,9])]
theorem Rw:T3 78 Bh:=wOK Tryz.func78 Rv
def Bi:aM:=λa b K s=>aE s 6 b λb=>oK (cn s 6 a (.agg b)) λb=>aE b 6 a λa=>K (.agg a) b
def Bj:aW:=λa b c K s=>newK 161 iF (λd e=>wC TP 77 [a,c] (λc f=>ak .add (qz 10) b λg=>oK (cw .u32 g) λg=>ak .add (qz 500) b λh=>oK (cw .u32 h) λh=>oK (aq iF [(0,1,c),(1,1,g),(2,1,h)]) λc=>newK 161 iF (λg h=>qc h 6 g (.agg c) λc=>wC TP 77 [a,(qz 4)] (λa h=>qe true 0 true a (qz 3) λa=>ai a
 (oK (dh .shl b (.int .u64 16)) λa=>ak .add (qz 167772160) a λa=>oK (cw .u32 a) λa=>oK (aq [bu,ah] [(0,1,a),(1,1,(qz 24))]) λa=>qf 3 (.ptr g 0) λb=>oK (cn h 2 b (.agg a)) λa=>qf 3 (.ptr g 0) λb=>qd 0 b a λb=>ak .add b (.int .u32 1) λb=>qf 5 (.ptr g 0) λi=>oK (wr1 a i b) λa=>Bi (.ptr d 0) (.ptr g 0) K a)
 (Bi (.ptr d 0) (.ptr g 0) K h)) c) f) e) s
theorem Rx:T3 79 Bj:=wOK Tryz.func79
def ul:dp:=λa b I0 m0 K s=>ak .add b ax λb=>aA m0 (I0 [a,b] s)
def kX:bS:=λa b c d I0 m0 K s=>qt c d λc=>ai c
 (oK (aq (repl 1 [ah]) [(0,1,b)]) λc=>aD c=true/\newK 3 c (λc d=>appK 3 1 a (.slc c 0 1 (some 1) 1) (λc e=>ul c b I0 m0 K e) d) s)
 (ul a b I0 m0 K s)
def Lu:aY:=λa K s=>K a s
def kY:bU:=λa b c d e f I0 m0 K s=>qp e f λe=>ai e
 (qe false 0 false d c λe=>ai e
 (kX b d e .undef I0 m0 K s)
 (wC TP 77 [a,(qz 3)] (λa f=>qe false 0 true a ax λa=>kX b d e a I0 m0 K f) s))
 (qh b λa=>qe false 0 true (.int .i64 a) ah λa=>ai a
 (oK (aq (repl 1 [ah]) [(0,1,c)]) λa=>aD a=true/\newK 3 a (λa c=>Lu (.slc a 0 1 (some 1) 1) K c) s)
 (Lu b K s))
def Lv:bU:=λa b c d e f I0 m0 K s=>ak .lss f b λb=>ai b
 (qh d λg=>ak .lss (.int .i64 g) c λc=>kY a d e f b c I0 m0 K s)
 (kY a d e f b .undef I0 m0 K s)
def Bk:aW:=λa b c K s=>wC TP 77 [a,b] (λd e=>aK [.nilslc,ah] e (λf=>[f 7,f 9]) λI0 f s m0=>Lv a b c (f 7) d (f 9) I0 m0 K s) s
def Ry:Nat->List Nat:=anL [(8,[7,9])]
theorem Bl:T3 80 Bk:=wOK Tryz.func80 Ry
def um:aM:=λa b K s=>aE s 4 b λb=>oK (cn s 4 a (.agg b)) λb=>aE b 4 a λa=>K (.agg a) b
def uo:aW:=λa b c K s=>wC TP 77 [a,(qz 10)] (λa d=>qe false 0 true a (qz 9) λa=>ai a
 (qf 3 c λa=>oK (wr1 d a (.int .i64 (-1))) λa=>um b c K a)
 (um b c K d)) s
def uq:gD:=λa b c d e f g K s=>qp f g λf=>ai f
 (qd 4 c s λc=>qd 2 e s λf=>qi 6 c f λc=>qf 3 c λc=>qd 0 c s λc=>ak .add (qz 10) b λb=>oK (cw .u32 b) λb=>ak .add c b λb=>qf 1 e λc=>oK (wr1 s c b) λb=>uo a d e K b)
 (uo a d e K s)
def Bo:aW:=λa b c K s=>boxK 52 b (λb d=>newK 182 oB (λe f=>qd 5 b f λg=>qh g λg=>wC TP 77 [a,(.int .i64 g)] (λg h=>qd 5 b h λi=>qw 2 i g 1 h λi=>ak .add (qz 2199023951872) c λj=>oK (cw .u64 j) λj=>qh i λk=>wC TP 77 [a,(.int .i64 k)] (λk l=>qx 1 i k l λi=>oK (aq oB [(0,1,j),(2,1,i),(3,1,g)]) λg=>newK 182 oB (λi j=>qc j 4 i (.agg g) λg=>qd 4 b g λj=>qd 2 (.ptr i 0) g λk=>qw 6 j k 5 g λj=>qe true 0 true j bu λj=>ai j
 (wC TP 77 [a,(qz 6)] (λk m=>qe true 0 true k (qz 5) λk=>uq a c b (.ptr e 0) (.ptr i 0) j k K m) g)
 (uq a c b (.ptr e 0) (.ptr i 0) j .undef K g)) l) h) f) d) s
theorem Bp:T3 81 Bo:=wOK Tryz.func81
def Lw:cj:=λa b c I0 m0 K s=>qh a λd=>ak .lss c (.int .i64 d) λd=>ai d
 (qi 4 a c λd=>aE s 4 d λd=>aE s 4 b λe=>oK (negB false (cZ TP 186 (.agg d) (.agg e))) λd=>ai d
 (K a s)
 (ak .add c ax λc=>aA m0 (I0 [c] s)))
 (aE s 4 b λb=>oK (aq (repl 1 [ah,ah,bu,ah]) [(0,4,(.agg b))]) λb=>aD b=true/\newK 186 b (λb c=>appK 186 4 a (.slc b 0 1 (some 1) 4) (λa b=>K a b) c) s)
def Bq:aM:=λa b K s=>boxK 186 b (λb c=>aK [ah] c (λf=>[f 5]) λI0 f s m0=>Lw a b (f 5) I0 m0 K s) s
def Rz:Nat->List Nat:=anL [(4,[5])]
theorem RA:T2 82 Bq:=wOK Tryz.func82 Rz
def Br:aM:=λa b K s=>aE s 4 b λb=>oK (cn s 4 a (.agg b)) λb=>aE b 4 a λa=>K (.agg a) b
def Bs:aM:=λa b K s=>newK 186 [ah,ah,bu,ah] (λc d=>wC TP 77 [a,b] (λe f=>ak .add e ax λg=>ak .sub b ax λh=>wC TP 77 [a,h] (λh i=>ak .add g h λg=>ak .rem g b λb=>oK (aq [ah,ah,bu,ah] [(0,1,e),(1,1,b)]) λb=>newK 186 [ah,ah,bu,ah] (λe g=>qc g 4 e (.agg b) λb=>wC TP 77 [a,(qz 2)] (λg h=>qe false 0 true g ah λg=>ai g
 (wC TP 77 [a,(qz 4)] (λa g=>oK (dh .shl a (.int .u64 16)) λa=>ak .add (qz 167772160) a λa=>oK (cw .u32 a) λa=>oK (aq [bu,ah] [(0,1,a),(1,1,(qz 16))]) λa=>qf 2 (.ptr e 0) λj=>oK (cn g 2 j (.agg a)) λa=>Br (.ptr c 0) (.ptr e 0) K a) h)
 (Br (.ptr c 0) (.ptr e 0) K h)) b) i) f) d) s
theorem RB:T2 83 Bs:=wOK Tryz.func83
def oE:aM:=λa b K s=>ak .leq b ah λc=>ai c
 (K ah s)
 (ak .rem a b λa=>ak .add a b λa=>ak .rem a b λa=>K a s)
theorem Bt:T2 127 oE:=wOK Tryz.func127
def Lx:iG:=λK s=>oK (aq (repl 8 [.nilFunc]) [(0,1,(.fn (.func 145) [] [])),(1,1,(.fn (.func 146) [] [])),(2,1,(.fn (.func 147) [] [])),(3,1,(.fn (.func 148) [] [])),(4,1,(.fn (.func 149) [] [])),(5,1,(.fn (.func 150) [] [])),(6,1,(.fn (.func 151) [] [])),(7,1,(.fn (.func 152) [] []))]) λa=>aD a=true/\newK 241 a (λa b=>K (.slc a 0 8 (some 8) 1) b) s
theorem RC:T0 116 Lx:=wOK Tryz.func116
def Ly:aM:=λa b K s=>qt a b λa=>K a s
def Lz:aW:=λa b c K s=>ak .lss a b λb=>ai b
 (Ly b .undef K s)
 (ak .gtr a c λa=>Ly b a K s)
theorem RD:T3 177 Lz:=wOK Tryz.func177
def LA(es ty:Nat)(z:List AV)(kn kt:Nat)(kz:List AV)(a b c d e f:AV)(I0:IvP)(m0:Nat)(K:KvP)(s:Hq):Prop:=
 ak .lss f e λe=>ai e
 (oK (ba es d f) λd=>oK (rdN s es d) λd=>newK ty z (λe g=>oK (cn g es (.ptr e 0) (.agg d)) λd=>oK (rdN d es (.ptr e 0)) λe=>funK TP a [(.agg e)] (λa e=>newK kt kz (λg h=>oK (cn h kn (.ptr g 0) a) λa=>oK (rdN a kn (.ptr g 0)) λh=>oK (getG TP kt a b (.agg h)) λh=>qi 1 c f λi=>oK (wr1 a i (retM bF false h)) λa=>oK (rdN a kn (.ptr g 0)) λg=>oK (putG TP kt a b (.agg g) bT) λa=>ak .add f ax λb=>aA m0 (I0 [b] a)) e) d) s)
 (K c s)
def oG(es ty:Nat)(z:List AV)(kn kt:Nat)(kz:List AV)(a b:AV)(K:KvP)(s:Hq):Prop:=
 qh a λc=>intK (.int .i64 c) (mapK (λc d=>qh a λe=>oK (nat? (.int .i64 e)) λg=>oK (nat? (.int .i64 e)) λe=>(g<=e/\e<=4294967296)/\newK 4 (repl e [bF]) (λh i=>qh a λj=>aK [ah] i (λf=>[f 18]) λI0 f s m0=>LA es ty z kn kt kz b c (.slc h 0 g (some e) 1) a (.int .i64 j) (f 18) I0 m0 K s) d) s)
def RE:Nat->List Nat:=anL [(8,[18])]
theorem RF{l0 key1:AV}{K:KvP}{s:Hq}(h:oG 3 145 [(.int .i64 0),(.int .i64 0),(.int .i64 0)] 2 312 [(.int .i64 0),(.int .i64 0)] l0 key1 K s):wC TP 178 [l0,key1] K s:=
 wOK Tryz.func178 RE (h:=h)
def Bu:aY:=λa K s=>boxK 145 a (λa b=>newK 312 [ah,ah] (λc d=>qd 0 a d λe=>qd 1 a d λa=>oK (aq [ah,ah] [(0,1,e),(1,1,a)]) λa=>qc d 2 c (.agg a) λa=>aE a 2 (.ptr c 0) λc=>K (.agg c) a) b) s
theorem RG:T1 179 Bu:=wOK Tryz.func179
def LB(es ty:Nat)(z:List AV)(a b c d e f:AV)(I0:IvP)(m0:Nat)(K:KvP)(s:Hq):Prop:=
 ak .lss f e λe=>ai e
 (oK (ba es d f) λd=>oK (rdN s es d) λd=>newK ty z (λe g=>oK (cn g es (.ptr e 0) (.agg d)) λd=>oK (rdN d es (.ptr e 0)) λe=>funK TP a [(.agg e)] (λa e=>oK (getM e b a) λg=>qi 1 c f λh=>oK (wr1 e h (retM bF false g)) λe=>oK (putM e b a bT) λa=>ak .add f ax λb=>aA m0 (I0 [b] a)) d) s)
 (K c s)
def ur(es ty:Nat)(z:List AV)(a b:AV)(K:KvP)(s:Hq):Prop:=
 qh a λc=>intK (.int .i64 c) (mapK (λc d=>qh a λe=>oK (nat? (.int .i64 e)) λg=>oK (nat? (.int .i64 e)) λe=>(g<=e/\e<=4294967296)/\newK 4 (repl e [bF]) (λh i=>qh a λj=>aK [ah] i (λf=>[f 18]) λI0 f s m0=>LB es ty z b c (.slc h 0 g (some e) 1) a (.int .i64 j) (f 18) I0 m0 K s) d) s)
def RH:Nat->List Nat:=anL [(8,[18])]
theorem LC{l0 key1:AV}{K:KvP}{s:Hq}(h:ur 2 157 [(.int .u32 0),(.int .u32 0)] l0 key1 K s):wC TP 181 [l0,key1] K s:=
 wOK Tryz.func181 RH (h:=h)
def RI:aY:=λa K s=>boxK 157 a (λa b=>qd 0 a b λa=>K a b) s
theorem RJ:T1 182 RI:=wOK Tryz.func182
def RK:aY:=λa K s=>boxK 157 a (λa b=>qd 1 a b λa=>K a b) s
theorem RL:T1 183 RK:=wOK Tryz.func183
def RM:Nat->List Nat:=anL [(8,[18])]
theorem LD{l0 key1:AV}{K:KvP}{s:Hq}(h:ur 6 161 [(.int .i64 0),(.int .u32 0),(.int .u32 0),(.int .u32 0),(.int .i64 0),(.int .u32 0)] l0 key1 K s):wC TP 184 [l0,key1] K s:=
 wOK Tryz.func184 RM (h:=h)
def RN:aY:=λa K s=>boxK 161 a (λa b=>qd 1 a b λa=>K a b) s
theorem RO:T1 185 RN:=wOK Tryz.func185
def RQ:aY:=λa K s=>boxK 161 a (λa b=>qd 2 a b λa=>K a b) s
theorem RS:T1 186 RQ:=wOK Tryz.func186
def RU:aW:=λa b c K s=>boxK 315 b (λb d=>boxK 28 c (λc e=>wC TP 216 [a,(.fn (.func 217) [] [b,c])] (λa b=>K a b) e) d) s
theorem RV:T3 187 RU:=wOK Tryz.func187
def LE:aM:=λa b K s=>qp a b λa=>K a s
def Bv:aY:=λa K s=>boxK 159 a (λa b=>aE b 2 a λc=>wC TP 218 [(.agg c)] (λc d=>qk c 0 λe=>qk c 1 λc=>newK 159 [bu,ah] (λf g=>qc g 2 f e λe=>qe false 0 true c ah λc=>ai c
 (aE e 2 (.ptr f 0) λf=>aE e 2 a λa=>oK (negB false (cZ TP 159 (.agg f) (.agg a))) λa=>LE c a K e)
 (LE c .undef K e)) d) b) s
theorem RW:T1 188 Bv:=wOK Tryz.func188
def Bw:aM:=λa b K s=>qp a b λa=>K a s
def Bx:ct:=λa b c d K s=>qp c d λc=>ai c
 (qe true 0 false a b λa=>Bw c a K s)
 (Bw c .undef K s)
def By:aM:=λa b K s=>boxK 159 a (λa c=>qd 0 a c λd=>qd 1 a c λe=>ak .sub (qz 32) e λe=>oK (dh .shl (.int .u32 1) e) λe=>ak .sub e (.int .u32 1) λe=>ak .or d e λd=>aE c 2 a λe=>wC TP 192 [(.agg e),b] (λe f=>ai e
 (qd 0 a f λa=>qe true 0 false b a λa=>Bx b d e a K f)
 (Bx b d e .undef K f)) c) s
theorem RX:T2 189 By:=wOK Tryz.func189
def RY:aM:=λa b K s=>wC TP 219 [a,b] (λa b=>ak .geq a ah λa=>K a b) s
theorem RZ:T2 190 RY:=wOK Tryz.func190
def LF:aW:=λa b c K s=>qt b c λb=>qp a b λa=>K a s
def ut:ct:=λa b c d K s=>qp c d λc=>ai c
 (qf 3 b λd=>aE s 2 d λd=>qf 3 a λe=>qd 0 e s λe=>wC TP 192 [(.agg d),e] (λd e=>ai d
 (LF c d .undef K e)
 (qf 3 a λa=>aE e 2 a λa=>qf 3 b λb=>qd 0 b e λb=>wC TP 192 [(.agg a),b] (λa b=>LF c d a K b) e)) s)
 (qp c .undef λa=>K a s)
def R2:aM:=λa b K s=>boxK 161 a (λa c=>qd 0 a c λd=>qd 0 b c λe=>qe false 0 false d e λd=>ai d
 (qd 5 a c λe=>qe true 0 true e bu λe=>ut b a d e K c)
 (ut b a d .undef K c)) s
theorem R3:T2 191 R2:=wOK Tryz.func191
def R5:aM:=λa b K s=>boxK 159 a (λa c=>aE c 2 a λd=>∃e:AV,(wC TP 220 [(.agg d)] (λd f=>d=e) (frz c))/\
 ai e
 (qd 0 a c λd=>ak .xor d b λb=>qd 1 a c λa=>∃d:AV,(wC TP 221 [a] (λa f=>a=d) (frz c))/\
 ak .and b d λa=>qe false 0 true a bu λa=>qp e a λa=>K a c)
 (qp e .undef λa=>K a c)) s
def R6:Nat->List Nat:=anL [(3000001,[0]),(2000004,[0,1,2,3,4,5,6,7,8,9,10,11,12,13])]
theorem R7:T2 192 R5:=wOK Tryz.func192 R6
def R8:aM:=λa b K s=>wC TP 162 [a,b] (λa b=>ak .geq a ah λa=>K a b) s
theorem LG:T2 129 R8:=wOK Tryz.func129
def LH:aM:=λa b K s=>qd 0 b s λb=>wC TP 180 [a,b] (λa b=>qj a λa=>K a b) s
theorem R9:T2 193 LH:=wOK Tryz.func193
def LI:aM:=λa b K s=>qd 4 b s λb=>qh b λb=>wC TP 180 [a,(.int .i64 b)] (λa b=>qj a λa=>K a b) s
theorem Sa:T2 194 LI:=wOK Tryz.func194
def LJ:dp:=λa b I0 m0 K s=>qh a λc=>ak .lss b (.int .i64 c) λc=>ai c
 (qx 1 a b s λc=>ak .sub b ax λd=>qx 1 a d s λa=>ak .leq c a λa=>ai a
 (K bF s)
 (ak .add b ax λa=>aA m0 (I0 [a] s)))
 (K bT s)
def LK:aY:=λa K s=>aK [ax] s (λf=>[f 3]) λI0 f s m0=>LJ a (f 3) I0 m0 K s
def Sb:Nat->List Nat:=anL [(4,[3])]
theorem Sc:T1 195 LK:=wOK Tryz.func195 Sb
def Sd:Nat->List Nat:=anL [(8,[18])]
theorem LL{l0 key1:AV}{K:KvP}{s:Hq}(h:oG 4 182 [(.int .u64 0),(.int .u32 0),(.int .i64 0),(.int .i64 0)] 2 327 [(.int .i64 0),(.int .u64 0)] l0 key1 K s):wC TP 196 [l0,key1] K s:=
 wOK Tryz.func196 Sd (h:=h)
def Bz:aY:=λa K s=>boxK 182 a (λa b=>newK 327 [ah,(.int .u64 0)] (λc d=>qd 2 a d λe=>qd 0 a d λa=>oK (aq [ah,(.int .u64 0)] [(0,1,e),(1,1,a)]) λa=>qc d 2 c (.agg a) λa=>aE a 2 (.ptr c 0) λc=>K (.agg c) a) b) s
theorem Se:T1 197 Bz:=wOK Tryz.func197
def Sf:aY:=λa K s=>boxK 182 a (λa b=>newK 327 [ah,(.int .u64 0)] (λc d=>qd 2 a d λe=>qd 1 a d λa=>oK (cw .u64 a) λa=>oK (aq [ah,(.int .u64 0)] [(0,1,e),(1,1,a)]) λa=>qc d 2 c (.agg a) λa=>aE a 2 (.ptr c 0) λc=>K (.agg c) a) b) s
theorem Sh:T1 198 Sf:=wOK Tryz.func198
def LM:aM:=λa b K s=>qp a b λa=>K a s
def LN:aY:=λa K s=>ak .leq a (.int .u64 281474976710655) λb=>ai b
 (oK (dh .shr a (.int .u64 40)) λa=>ak .and a (.int .u64 1) λa=>qe true 0 true a (.int .u64 0) λa=>LM b a K s)
 (LM b .undef K s)
theorem Si:T1 199 LN:=wOK Tryz.func199
def LO:aM:=λa b K s=>wC TP 222 [a,b] (λa b=>ak .geq a ah λa=>K a b) s
theorem Sj:T2 200 LO:=wOK Tryz.func200
def uu:aW:=λa b c K s=>qt b c λb=>ai b
 (K (.tup [ah,bF]) s)
 (ak .sub a (.int .u64 2199023255552) λa=>oK (cw .i64 a) λa=>K (.tup [a,bT]) s)
def LP:aY:=λa K s=>ak .lss a (.int .u64 2199023255552) λb=>ai b
 (uu a b .undef K s)
 (ak .geq a (.int .u64 2199023255584) λc=>uu a b c K s)
theorem Sk:T1 201 LP:=wOK Tryz.func201
def LQ:aM:=λa b K s=>qp a b λa=>K a s
def uw:ct:=λa b c d K s=>qp c d λc=>ai c
 (qf 3 b λb=>aE s 2 b λb=>wC TP 189 [(.agg b),a] (λa b=>LQ c a K b) s)
 (LQ c .undef K s)
def Sm:aM:=λa b K s=>boxK 161 a (λa c=>qe false 0 true b bu λd=>ai d
 (K bT c)
 (qd 5 a c λd=>qe true 0 true d bu λd=>ai d
 (qd 5 a c λe=>qe true 0 false b e λe=>uw b a d e K c)
 (uw b a d .undef K c))) s
theorem So:T2 202 Sm:=wOK Tryz.func202
def Sp:Nat->List Nat:=anL [(8,[18])]
theorem Sq{l0 key1:AV}{K:KvP}{s:Hq}(h:oG 4 186 [(.int .i64 0),(.int .i64 0),(.int .u32 0),(.int .i64 0)] 4 186 [(.int .i64 0),(.int .i64 0),(.int .u32 0),(.int .i64 0)] l0 key1 K s):wC TP 203 [l0,key1] K s:=
 wOK Tryz.func203 Sp (h:=h)
def Sr:aY:=λa K s=>boxK 186 a (λa b=>newK 186 [ah,ah,bu,ah] (λc d=>aE d 4 a λa=>qc d 4 c (.agg a) λa=>aE a 4 (.ptr c 0) λc=>K (.agg c) a) b) s
theorem Ss:T1 204 Sr:=wOK Tryz.func204
def Su:aM:=λa b K s=>wC TP 229 [a,b] (λa b=>ak .geq a ah λa=>K a b) s
theorem Sv:T2 216 Su:=wOK Tryz.func216
def Sw:aW:=λa b c K s=>boxK 157 a (λa d=>∃e:Hq,Sub e d/\
 qr e b λb=>aE e 2 a λa=>qr e c λc=>funK TP b [(.agg a)] (λa b=>qe false 0 false a c λa=>K a (add e b)) (lock d e)) s
def Sx:Nat->List Nat:=anL [(3000001,[1]),(2000004,[0,1,3]),(2000005,[2]),(2000007,[4,5])]
theorem Sy:T3 217 Sw:=wOK Tryz.func217 Sx
def SA:aY:=λa K s=>boxK 159 a (λa b=>newK 159 [bu,ah] (λc d=>aE d 2 a λe=>wC TP 220 [(.agg e)] (λe f=>qj e λe=>ai e
 (oK (aq [bu,ah] []) λe=>qc f 2 c (.agg e) λe=>aE e 2 (.ptr c 0) λg=>K (.tup [(.agg g),(qz 2)]) e)
 (∃e:Hq,Sub e f/\
 qd 0 a e λg=>qd 1 a e λh=>wC TP 221 [h] (λh i=>ak .and g h λg=>qf 0 a λh=>oK (wr1 (add e i) h g) λg=>aE g 2 a λa=>qc g 2 c (.agg a) λa=>aE a 2 (.ptr c 0) λc=>K (.tup [(.agg c),ah]) a) (lock f e))) d) b) s
def SB:Nat->List Nat:=anL [(3000003,[1]),(2000012,[0,1,2,3]),(2000013,[4]),(2000015,[5,6,7])]
theorem SC:T1 218 SA:=wOK Tryz.func218 SB
def LR:bS:=λa b c d I0 m0 K s=>ak .lss d c λc=>ai c
 (qi 6 a d λa=>aE s 6 a λa=>funK TP b [(.agg a)] (λa b=>ai a
 (K d b)
 (ak .add d ax λa=>aA m0 (I0 [a] b))) s)
 (K (.int .i64 (-1)) s)
def LT:aM:=λa b K s=>qh a λc=>aK [ah] s (λf=>[f 8]) λI0 f s m0=>LR a b (.int .i64 c) (f 8) I0 m0 K s
def SD:Nat->List Nat:=anL [(4,[8])]
theorem SE:T2 219 LT:=wOK Tryz.func219 SD
def LU:aM:=λa b K s=>qp a b λa=>K a s
def SH:aY:=λa K s=>boxK 159 a (λa b=>qd 1 a b λc=>ak .geq c ah λc=>ai c
 (qd 1 a b λa=>ak .leq a (qz 32) λa=>LU c a K b)
 (LU c .undef K b)) s
theorem SI:T1 220 SH:=wOK Tryz.func220
def LV:aY:=λa K s=>ak .sub (qz 32) a λa=>oK (dh .shl (.int .u32 4294967295) a) λa=>K a s
theorem SJ:T1 221 LV:=wOK Tryz.func221
def BA:bS:=λa b c d I0 m0 K s=>ak .lss d c λc=>ai c
 (qx 1 a d s λa=>funK TP b [a] (λa b=>ai a
 (K d b)
 (ak .add d ax λa=>aA m0 (I0 [a] b))) s)
 (K (.int .i64 (-1)) s)
def BB:aM:=λa b K s=>qh a λc=>aK [ah] s (λf=>[f 8]) λI0 f s m0=>BA a b (.int .i64 c) (f 8) I0 m0 K s
def SK:Nat->List Nat:=anL [(4,[8])]
theorem LW:T2 162 BB:=wOK Tryz.func162 SK
def LX:bS:=λa b c d I0 m0 K s=>ak .lss d c λc=>ai c
 (qx 1 a d s λa=>qe false 0 false b a λa=>ai a
 (K d s)
 (ak .add d ax λa=>aA m0 (I0 [a] s)))
 (K (.int .i64 (-1)) s)
def LY:aM:=λa b K s=>qh a λc=>aK [ah] s (λf=>[f 8]) λI0 f s m0=>LX a b (.int .i64 c) (f 8) I0 m0 K s
def SL:Nat->List Nat:=anL [(4,[8])]
theorem SN:T2 222 LY:=wOK Tryz.func222 SL
def LZ:bS:=λa b c d I0 m0 K s=>ak .lss d c λc=>ai c
 (qi 2 a d λa=>aE s 2 a λa=>funK TP b [(.agg a)] (λa b=>ai a
 (K d b)
 (ak .add d ax λa=>aA m0 (I0 [a] b))) s)
 (K (.int .i64 (-1)) s)
def L2:aM:=λa b K s=>qh a λc=>aK [ah] s (λf=>[f 8]) λI0 f s m0=>LZ a b (.int .i64 c) (f 8) I0 m0 K s
def SO:Nat->List Nat:=anL [(4,[8])]
theorem SP:T2 229 L2:=wOK Tryz.func229 SO
def L4:aM:=λa b K s=>qp a b λa=>K a s
def L5:aM:=λa b K s=>ak .geq a ah λc=>ai c
 (ak .lss a b λa=>L4 c a K s)
 (L4 c .undef K s)
theorem SQ:T2 180 L5:=wOK Tryz.func180
def oH:ct:=λa b c d K s=>ai a
 (oK (aq [ah,(.str ⟨#[]⟩),ah] [(0,1,b),(1,1,c),(2,1,d)]) λa=>
False /- op -/)
 (K (.tup []) s)
theorem SR:T4 176 oH:=wOK Tryz.func176
def uz:aM:=λa b K s=>qt a b λa=>wC TP 176 [a,(qz 2),(.str ⟨#[102,97,98,114,105,99]⟩),ah] (λa a=>K (.tup []) a) s
def uD:aW:=λa b c K s=>qt b c λb=>ai b
 (uz b .undef K s)
 (qd 10 a s λa=>wC TP 177 [a,ah,ax] (λa c=>uz b a K c) s)
def uE:aW:=λa b c K s=>qt b c λb=>wC TP 176 [b,(qz 2),(.str ⟨#[102,97,98,114,105,99]⟩),ah] (λb b=>qd 0 a b λc=>qd 1 a b λd=>ak .add c d λc=>ak .gtr c (qz 32) λc=>wC TP 176 [c,(qz 2),(.str ⟨#[102,97,98,114,105,99]⟩),ah] (λc c=>qd 8 a c λd=>wC TP 177 [d,ah,(qz 2)] (λd e=>ai d
 (uD a d .undef K e)
 (qd 9 a e λf=>wC TP 177 [f,ah,ax] (λf g=>uD a d f K g) e)) c) b) s
def BC:aY:=λa K s=>bX a 0 λa=>aE s 19 a λa=>newK 52 zR1 (λb c=>qc c 19 b (.agg a) λa=>qd 0 (.ptr b 0) a λc=>wC TP 177 [c,ax,(qz 32)] (λc d=>ai c
 (uE (.ptr b 0) c .undef K d)
 (qd 1 (.ptr b 0) d λe=>wC TP 177 [e,ah,(qz 32)] (λe f=>uE (.ptr b 0) c e K f) d)) a) s
theorem SS:T1 145 BC:=wOK Tryz.func145
def uF:aM:=λa b K s=>qt a b λa=>wC TP 176 [a,(qz 2),(.str ⟨#[116,105,109,101,114,115]⟩),ah] (λa a=>K (.tup []) a) s
def uG:aW:=λa b c K s=>qt b c λb=>ai b
 (uF b .undef K s)
 (qd 5 a s λa=>wC TP 177 [a,ax,(qz 10000)] (λa c=>uF b a K c) s)
def uH:aW:=λa b c K s=>qt b c λb=>wC TP 176 [b,(qz 2),(.str ⟨#[116,105,109,101,114,115]⟩),ah] (λb b=>qd 3 a b λc=>wC TP 177 [c,ah,(qz 1000)] (λc d=>ai c
 (uG a c .undef K d)
 (qd 4 a d λe=>wC TP 177 [e,ax,(qz 100)] (λe f=>uG a c e K f) d)) b) s
def uI:aW:=λa b c K s=>qt b c λb=>ai b
 (uH a b .undef K s)
 (qd 2 a s λc=>wC TP 177 [c,ax,(qz 10000)] (λc d=>uH a b c K d) s)
def L6:aY:=λa K s=>bX a 0 λa=>qf 13 a λa=>aE s 6 a λa=>newK 50 A6 (λb c=>qc c 6 b (.agg a) λa=>qd 0 (.ptr b 0) a λc=>wC TP 177 [c,ax,(qz 100)] (λc d=>ai c
 (uI (.ptr b 0) c .undef K d)
 (qd 1 (.ptr b 0) d λe=>wC TP 177 [e,(qz 3),(qz 1000)] (λe f=>uI (.ptr b 0) c e K f) d)) a) s
theorem ST:T1 146 L6:=wOK Tryz.func146
def uJ:bM:=λa b c d e I0 m0 K s=>qt d e λd=>wC TP 176 [d,(qz 2),(.str ⟨#[108,105,110,107,115]⟩),b] (λd d=>qx 1 a b d λa=>wC TP 176 [a,(qz 11),(.str ⟨#[108,105,110,107,115]⟩),b] (λa a=>ak .add c ax λb=>aA m0 (I0 [b] a)) d) s
def uK:bU:=λa b c d e f I0 m0 K s=>qp e f λe=>qj e λe=>ai e
 (uJ a b d e .undef I0 m0 K s)
 (qd 2 c s λc=>wC TP 177 [c,ax,(qz 1000)] (λc f=>uJ a b d e c I0 m0 K f) s)
def uL:dO:=λa b c d e f g I0 m0 K s=>qp f g λf=>ai f
 (qd 1 d s λg=>qd 0 a s λh=>qd 1 a s λa=>ak .add h a λa=>ak .lss g a λa=>uK b c d e f a I0 m0 K s)
 (uK b c d e f .undef I0 m0 K s)
def L7:bM:=λa b c d e I0 m0 K s=>ak .lss e d λd=>ai d
 (qi 3 c e λc=>aE s 3 c λc=>newK 145 [ah,ah,ah] (λd f=>qc f 3 d (.agg c) λc=>qd 0 (.ptr d 0) c λf=>qd 0 a c λg=>wC TP 180 [f,g] (λf g=>ai f
 (qd 1 (.ptr d 0) g λh=>qd 0 a g λi=>ak .geq h i λh=>uL a b e (.ptr d 0) e f h I0 m0 K g)
 (uL a b e (.ptr d 0) e f .undef I0 m0 K g)) c) s)
 (K (.tup []) s)
def BD:aY:=λa K s=>bX a 0 λa=>aE s 19 a λa=>newK 52 zR1 (λb c=>qc c 19 b (.agg a) λa=>qd 2 (.ptr b 0) a λc=>qh c λc=>ak .gtr (.int .i64 c) (qz 128) λc=>wC TP 176 [c,(qz 7),(.str ⟨#[108,105,110,107,115]⟩),(qz 128)] (λc c=>qd 2 (.ptr b 0) c λd=>wC TP 178 [d,(.fn (.func 179) [] [])] (λd e=>qd 2 (.ptr b 0) e λg=>qh g λh=>aK [ah] e (λf=>[f 22]) λI0 f s m0=>L7 (.ptr b 0) d g (.int .i64 h) (f 22) I0 m0 K s) c) a) s
def SU:Nat->List Nat:=anL [(8,[22])]
theorem SV:T1 147 BD:=wOK Tryz.func147 SU
def uM:bS:=λa b c d I0 m0 K s=>qt c d λc=>wC TP 176 [c,(qz 11),(.str ⟨#[116,101,110,97,110,116,115]⟩),a] (λa a=>ak .add b ax λb=>aA m0 (I0 [b] a)) s
def uN:bU:=λa b c d e f I0 m0 K s=>qt e f λe=>wC TP 176 [e,(qz 2),(.str ⟨#[116,101,110,97,110,116,115]⟩),c] (λe e=>qx 1 a c e λa=>ai a
 (uM c d a .undef I0 m0 K e)
 (qx 1 b c e λb=>uM c d a b I0 m0 K e)) s
def uO:dO:=λa b c d e f g I0 m0 K s=>qt f g λf=>ai f
 (uN a b c e f .undef I0 m0 K s)
 (qd 1 d s λd=>qe false 0 true d bu λd=>uN a b c e f d I0 m0 K s)
def L8:bM:=λa b c d e I0 m0 K s=>ak .lss e d λd=>ai d
 (qi 2 c e λc=>aE s 2 c λc=>newK 157 [bu,bu] (λd f=>qc f 2 d (.agg c) λc=>qd 0 (.ptr d 0) c λf=>ak .lss f (.int .u32 1) λf=>ai f
 (uO a b e (.ptr d 0) e f .undef I0 m0 K c)
 (qd 0 (.ptr d 0) c λg=>ak .gtr g (.int .u32 16777215) λg=>uO a b e (.ptr d 0) e f g I0 m0 K c)) s)
 (K (.tup []) s)
def L9:aY:=λa K s=>bX a 0 λa=>qd 3 a s λa=>qh a λb=>ak .gtr (.int .i64 b) (qz 16) λb=>wC TP 176 [b,(qz 7),(.str ⟨#[116,101,110,97,110,116,115]⟩),(qz 16)] (λb b=>wC TP 181 [a,(.fn (.func 182) [] [])] (λc d=>wC TP 181 [a,(.fn (.func 183) [] [])] (λe g=>qh a λh=>aK [ah] g (λf=>[f 22]) λI0 f s m0=>L8 c e a (.int .i64 h) (f 22) I0 m0 K s) d) b) s
def SW:Nat->List Nat:=anL [(8,[22])]
theorem SX:T1 148 L9:=wOK Tryz.func148 SW
def uP:dN:=λa I0 m0 K s=>ak .add a ax λa=>aA m0 (I0 [a] s)
def uQ:bU:=λa b c d e f I0 m0 K s=>qt e f λe=>wC TP 176 [e,(qz 3),(.str ⟨#[100,111,109,97,105,110,115]⟩),b] (λe e=>qf 3 c λf=>aE e 2 f λf=>qd 5 c e λg=>wC TP 189 [(.agg f),g] (λf g=>qj f λf=>wC TP 176 [f,(qz 3),(.str ⟨#[100,111,109,97,105,110,115]⟩),b] (λf f=>qd 4 a f λa=>oK (cU 6 a none (some b) none) λa=>wC TP 190 [a,(.fn (.func 191) [] [c])] (λa c=>wC TP 176 [a,(qz 11),(.str ⟨#[100,111,109,97,105,110,115]⟩),b] (λa a=>uP d I0 m0 K a) c) f) g) e) s
def uR:bU:=λa b c d e f I0 m0 K s=>qt e f λe=>wC TP 176 [e,(qz 11),(.str ⟨#[100,111,109,97,105,110,115]⟩),b] (λe e=>qd 5 c e λf=>qe false 0 true f bu λf=>ai f
 (qf 3 c λf=>aE e 2 f λf=>oK (aq [bu,ah] []) λg=>oK (negB true (cZ TP 159 (.agg f) (.agg g))) λf=>wC TP 176 [f,(qz 3),(.str ⟨#[100,111,109,97,105,110,115]⟩),b] (λf f=>uP d I0 m0 K f) e)
 (qf 3 c λf=>aE e 2 f λf=>wC TP 188 [(.agg f)] (λf g=>qj f λf=>ai f
 (uQ a b c d f .undef I0 m0 K g)
 (qf 3 c λh=>qd 1 h g λh=>wC TP 177 [h,(qz 8),(qz 30)] (λh i=>uQ a b c d f h I0 m0 K i) g)) e)) s
def uS:bU:=λa b c d e f I0 m0 K s=>qt e f λe=>ai e
 (uR a b c d e .undef I0 m0 K s)
 (qd 3 a s λf=>qd 2 c s λg=>wC TP 187 [f,(.fn (.func 183) [] []),g] (λf g=>uR a b c d e f I0 m0 K g) s)
def uT:bU:=λa b c d e f I0 m0 K s=>qt e f λe=>ai e
 (uS a b c d e .undef I0 m0 K s)
 (qd 3 a s λf=>qd 1 c s λg=>wC TP 187 [f,(.fn (.func 182) [] []),g] (λf g=>uS a b c d e f I0 m0 K g) s)
def uU:cV:=λa b c d e f g h I0 m0 K s=>qt g h λg=>wC TP 176 [g,(qz 2),(.str ⟨#[100,111,109,97,105,110,115]⟩),d] (λg g=>qx 1 b d g λb=>ai b
 (uT a d e f b .undef I0 m0 K g)
 (qx 1 c d g λc=>uT a d e f b c I0 m0 K g)) s
def uV:cV:=λa b c d e f g h I0 m0 K s=>qt g h λg=>ai g
 (uU a b c d e f g .undef I0 m0 K s)
 (qd 2 e s λh=>qe false 0 true h bu λh=>uU a b c d e f g h I0 m0 K s)
def uW:cV:=λa b c d e f g h I0 m0 K s=>qt g h λg=>ai g
 (uV a b c d e f g .undef I0 m0 K s)
 (qd 1 e s λh=>ak .gtr h (.int .u32 16777215) λh=>uV a b c d e f g h I0 m0 K s)
def Ma:bU:=λa b c d e f I0 m0 K s=>ak .lss f e λe=>ai e
 (qi 6 d f λd=>aE s 6 d λd=>newK 161 iF (λe g=>qc g 6 e (.agg d) λd=>qd 0 (.ptr e 0) d λg=>qd 3 a d λh=>qh h λh=>wC TP 180 [g,(.int .i64 h)] (λg h=>qj g λg=>ai g
 (uW a b c f (.ptr e 0) f g .undef I0 m0 K h)
 (qd 1 (.ptr e 0) h λi=>ak .lss i (.int .u32 1) λi=>uW a b c f (.ptr e 0) f g i I0 m0 K h)) d) s)
 (K (.tup []) s)
def BE:aY:=λa K s=>bX a 0 λa=>aE s 19 a λa=>newK 52 zR1 (λb c=>qc c 19 b (.agg a) λa=>qd 4 (.ptr b 0) a λc=>qh c λc=>ak .gtr (.int .i64 c) (qz 32) λc=>wC TP 176 [c,(qz 7),(.str ⟨#[100,111,109,97,105,110,115]⟩),(qz 32)] (λc c=>∃d:Hq,Sub d c/\
 qd 4 (.ptr b 0) d λe=>qd 4 (.ptr b 0) d λg=>wC TP 184 [e,(.fn (.func 185) [] [])] (λe h=>wC TP 184 [g,(.fn (.func 186) [] [])] (λg i=>qd 4 (.ptr b 0) i λj=>qh j λk=>aK [ah] i (λf=>[f 28]) λI0 f s m0=>Ma (.ptr b 0) e g j (.int .i64 k) (f 28) I0 m0 K s) (add d h)) (lock c d)) a) s
def SY:Nat->List Nat:=anL [(3000002,[1]),(2000008,[0,1,3,4]),(2000009,[2]),(2000011,[5,6,7]),(8,[28])]
theorem SZ:T1 149 BE:=wOK Tryz.func149 SY
def Mc:gX:=λa b c d e f I4 m4 I0 m0 K s=>ak .lss f e λe=>ai e
 (qx 1 d f s λd=>oK (cN 32 1 a d) λe=>qr s e λe=>ak .add e ax λe=>oK (cN 32 1 a d) λg=>oK (wr1 s g e) λe=>oK (cN 32 1 a d) λa=>qr e a λa=>ak .gtr a (qz 32) λa=>wC TP 176 [a,(qz 7),(.str ⟨#[115,101,103,109,101,110,116,115]⟩),b] (λa a=>ak .add f ax λb=>aA m4 (I4 [b] a)) e)
 (ak .add c ax λa=>aA m0 (I0 [a] s))
def uX:bU:=λa b c d e g I0 m0 K s=>qt e g λe=>wC TP 176 [e,(qz 10),(.str ⟨#[115,101,103,109,101,110,116,115]⟩),b] (λe e=>qd 0 c e λc=>qh c λg=>aK [ah] e (λf=>[f 66]) λI4 f s m4=>Mc a b d c (.int .i64 g) (f 66) I4 m4 I0 m0 K s) s
def uY:bU:=λa b c d e f I0 m0 K s=>qt e f λe=>wC TP 176 [e,(qz 2),(.str ⟨#[115,101,103,109,101,110,116,115]⟩),b] (λe e=>qd 0 c e λf=>wC TP 195 [f] (λf g=>qj f λf=>ai f
 (uX a b c d f .undef I0 m0 K g)
 (qd 1 c g λh=>wC TP 195 [h] (λh i=>qj h λh=>uX a b c d f h I0 m0 K i) g)) e) s
def uZ:dO:=λa b c d e f g I0 m0 K s=>qt f g λf=>wC TP 176 [f,(qz 3),(.str ⟨#[115,101,103,109,101,110,116,115]⟩),c] (λf f=>qd 0 d f λg=>wC TP 129 [g,(.fn (.func 193) [] [a])] (λg h=>ai g
 (uY b c d e g .undef I0 m0 K h)
 (qd 1 d h λi=>wC TP 129 [i,(.fn (.func 194) [] [a])] (λa i=>uY b c d e g a I0 m0 K i) h)) f) s
def Md:bM:=λa b c d e I0 m0 K s=>ak .lss e d λd=>ai d
 (qi 2 c e λc=>aE s 2 c λc=>newK 163 [.nilslc,.nilslc] (λd f=>qc f 2 d (.agg c) λc=>qd 0 (.ptr d 0) c λf=>qh f λf=>qe false 0 true (.int .i64 f) ah λf=>ai f
 (uZ a b e (.ptr d 0) e f .undef I0 m0 K c)
 (qd 1 (.ptr d 0) c λg=>qh g λg=>qe false 0 true (.int .i64 g) ah λg=>uZ a b e (.ptr d 0) e f g I0 m0 K c)) s)
 (K (.tup []) s)
def S8:aY:=λa K s=>bX a 0 λa=>aE s 19 a λa=>newK 52 zR1 (λb c=>qc c 19 b (.agg a) λa=>qd 5 (.ptr b 0) a λc=>qh c λc=>ak .gtr (.int .i64 c) (qz 64) λc=>wC TP 176 [c,(qz 7),(.str ⟨#[115,101,103,109,101,110,116,115]⟩),(qz 64)] (λc c=>newK 323 [ah,ah,ah,ah,ah,ah,ah,ah,ah,ah,ah,ah,ah,ah,ah,ah,ah,ah,ah,ah,ah,ah,ah,ah,ah,ah,ah,ah,ah,ah,ah,ah] (λd e=>qd 5 (.ptr b 0) e λg=>qh g λh=>aK [ah] e (λf=>[f 21]) λI0 f s m0=>Md (.ptr b 0) (.ptr d 0) g (.int .i64 h) (f 21) I0 m0 K s) c) a) s
def S9:Nat->List Nat:=anL [(8,[21]),(22,[66])]
theorem Ta:T1 150 S8:=wOK Tryz.func150 S9
def va:bM:=λa b c d e I0 m0 K s=>qp d e λd=>qt c d λc=>wC TP 176 [c,(qz 11),(.str ⟨#[104,111,115,116,115]⟩),a] (λa a=>ak .add b ax λb=>aA m0 (I0 [b] a)) s
def vc:dO:=λa b c d e f g I0 m0 K s=>qt f g λf=>wC TP 176 [f,(qz 3),(.str ⟨#[104,111,115,116,115]⟩),c] (λf f=>qx 1 a c f λa=>ai a
 (qt a .undef λg=>wC TP 176 [g,(qz 11),(.str ⟨#[104,111,115,116,115]⟩),c] (λg g=>ak .add e ax λh=>aA m0 (I0 [h] g)) f)
 (qd 1 d f λd=>qe true 0 true d bu λd=>ai d
 (qx 1 b c f λb=>va c e a d b I0 m0 K f)
 (va c e a d .undef I0 m0 K f))) s
def vd:cV:=λa b c d e f g h I0 m0 K s=>qt g h λg=>ai g
 (vc b c d e f g .undef I0 m0 K s)
 (qd 4 a s λa=>qd 2 e s λh=>qi 6 a h λa=>aE s 6 a λa=>qd 1 e s λh=>wC TP 202 [(.agg a),h] (λa h=>qj a λa=>vc b c d e f g a I0 m0 K h) s)
def ve:cV:=λa b c d e f g h I0 m0 K s=>qp g h λg=>wC TP 176 [g,(qz 8),(.str ⟨#[104,111,115,116,115]⟩),d] (λg g=>qd 0 e g λh=>wC TP 201 [h] (λh i=>qk h 0 λj=>qk h 1 λh=>qd 0 e i λj=>qe false 0 true j (.int .u64 1577058561) λj=>ai j
 (vd a b c d e f j .undef I0 m0 K i)
 (vd a b c d e f j h I0 m0 K i)) g) s
def vf:cV:=λa b c d e f g h I0 m0 K s=>qt g h λg=>wC TP 176 [g,(qz 2),(.str ⟨#[104,111,115,116,115]⟩),d] (λg g=>qd 3 e g λh=>qe true 0 true h (.int .i64 (-1)) λh=>ai h
 (qd 5 a g λi=>qd 3 e g λj=>qw 2 i j 1 g λi=>qd 2 e g λj=>wC TP 200 [i,j] (λi j=>qj i λi=>ve a b c d e f h i I0 m0 K j) g)
 (ve a b c d e f h .undef I0 m0 K g)) s
def vg:cV:=λa b c d e f g h I0 m0 K s=>qt g h λg=>wC TP 176 [g,(qz 2),(.str ⟨#[104,111,115,116,115]⟩),d] (λg g=>qd 2 e g λh=>qd 4 a g λi=>qh i λi=>wC TP 180 [h,(.int .i64 i)] (λh i=>qj h λh=>ai h
 (vf a b c d e f h .undef I0 m0 K i)
 (qd 3 e i λj=>qd 5 a i λk=>qh k λk=>ak .sub (.int .i64 k) ax λk=>wC TP 177 [j,(.int .i64 (-1)),k] (λj k=>vf a b c d e f h j I0 m0 K k) i)) g) s
def vh:cV:=λa b c d e f g h I0 m0 K s=>qt g h λg=>ai g
 (vg a b c d e f g .undef I0 m0 K s)
 (qd 0 e s λh=>wC TP 199 [h] (λh i=>vg a b c d e f g h I0 m0 K i) s)
def Me:bU:=λa b c d e f I0 m0 K s=>ak .lss f e λe=>ai e
 (qi 4 d f λd=>aE s 4 d λd=>newK 182 oB (λe g=>qc g 4 e (.agg d) λd=>qd 0 (.ptr e 0) d λg=>qe false 0 true g (.int .u64 0) λg=>ai g
 (vh a b c f (.ptr e 0) f g .undef I0 m0 K d)
 (qd 0 (.ptr e 0) d λh=>ak .gtr h (.int .u64 281474976710655) λh=>vh a b c f (.ptr e 0) f g h I0 m0 K d)) s)
 (K (.tup []) s)
def BF:aY:=λa K s=>bX a 0 λa=>aE s 19 a λa=>newK 52 zR1 (λb c=>qc c 19 b (.agg a) λa=>qd 6 (.ptr b 0) a λc=>qh c λc=>ak .gtr (.int .i64 c) (qz 128) λc=>wC TP 176 [c,(qz 7),(.str ⟨#[104,111,115,116,115]⟩),(qz 128)] (λc c=>qd 6 (.ptr b 0) c λd=>wC TP 196 [d,(.fn (.func 197) [] [])] (λd e=>qd 6 (.ptr b 0) e λg=>wC TP 196 [g,(.fn (.func 198) [] [])] (λg h=>qd 6 (.ptr b 0) h λi=>qh i λj=>aK [ah] h (λf=>[f 28]) λI0 f s m0=>Me (.ptr b 0) d g i (.int .i64 j) (f 28) I0 m0 K s) e) c) a) s
def Tc:Nat->List Nat:=anL [(10,[28])]
theorem Td:T1 151 BF:=wOK Tryz.func151 Tc
def vi:bM:=λa b c d e I0 m0 K s=>qt d e λd=>wC TP 176 [d,(qz 3),(.str ⟨#[108,101,97,107,115]⟩),b] (λd d=>qx 1 a b d λa=>wC TP 176 [a,(qz 11),(.str ⟨#[108,101,97,107,115]⟩),b] (λa a=>ak .add c ax λb=>aA m0 (I0 [b] a)) d) s
def vj:bU:=λa b c d e f I0 m0 K s=>qt e f λe=>wC TP 176 [e,(qz 2),(.str ⟨#[108,101,97,107,115]⟩),b] (λe e=>qd 0 c e λf=>qd 1 c e λg=>qe false 0 false f g λf=>ai f
 (vi a b d f .undef I0 m0 K e)
 (qf 2 c λc=>aE e 2 c λc=>wC TP 188 [(.agg c)] (λc g=>qj c λc=>vi a b d f c I0 m0 K g) e)) s
def Mg:bM:=λa b c d e I0 m0 K s=>ak .lss e d λd=>ai d
 (qi 4 c e λc=>aE s 4 c λc=>newK 186 [ah,ah,bu,ah] (λd f=>qc f 4 d (.agg c) λc=>qd 0 (.ptr d 0) c λf=>qd 3 a c λg=>qh g λg=>wC TP 180 [f,(.int .i64 g)] (λf g=>qj f λf=>ai f
 (vj b e (.ptr d 0) e f .undef I0 m0 K g)
 (qd 1 (.ptr d 0) g λh=>qd 3 a g λa=>qh a λa=>wC TP 180 [h,(.int .i64 a)] (λa h=>qj a λa=>vj b e (.ptr d 0) e f a I0 m0 K h) g)) c) s)
 (K (.tup []) s)
def BH:aY:=λa K s=>bX a 0 λa=>aE s 19 a λa=>newK 52 zR1 (λb c=>qc c 19 b (.agg a) λa=>qd 7 (.ptr b 0) a λc=>qh c λc=>ak .gtr (.int .i64 c) (qz 256) λc=>wC TP 176 [c,(qz 7),(.str ⟨#[108,101,97,107,115]⟩),(qz 256)] (λc c=>qd 7 (.ptr b 0) c λd=>wC TP 203 [d,(.fn (.func 204) [] [])] (λd e=>qd 7 (.ptr b 0) e λg=>qh g λh=>aK [ah] e (λf=>[f 24]) λI0 f s m0=>Mg (.ptr b 0) d g (.int .i64 h) (f 24) I0 m0 K s) c) a) s
def Te:Nat->List Nat:=anL [(10,[24])]
theorem Tf:T1 152 BH:=wOK Tryz.func152 Te
def Mh:aW:=λa b c K s=>qe false 4 true .nilIface .nilIface λd=>ai d
 (K (.tup []) s)
 (oK (gq 235 (some (.agg [ah,(.str ⟨#[]⟩),ah])) true .nilIface) λd=>qk d 1 λe=>qk d 0 λd=>ai e
 (newK 235 [ah,(.str ⟨#[]⟩),ah] (λe f=>qc f 3 e d λd=>∃f:Hq,Sub f d/\
 qd 0 (.ptr e 0) f λg=>qd 1 (.ptr e 0) f λh=>qd 2 (.ptr e 0) f λe=>oK (wr1 (lock d f) a g) λd=>oK (wr1 d b h) λd=>oK (wr1 (add f d) c e) λd=>K (.tup []) d) s)
 (oK (wr1 s a (qz 3)) λa=>oK (wr1 a b (.str ⟨#[102,97,98,114,105,99]⟩)) λa=>oK (wr1 a c ah) λa=>K (.tup []) a))
def Mi:Nat->List Nat:=anL [(3000007,[1]),(2000028,[0,1,2,3,4,5]),(2000029,[6,7]),(2000031,[8])]
theorem Tg{t0 t1 t2:AV}{K:KvP}{s:Hq}(h:Mh t0 t1 t2 K s):gV TP 115 [t0,t1,t2] (λs=>K (.tup []) s) s:=
 Lh Mi Tryz.func115 (by kernel_rfl:Tryz.f115.body=some (aI Tryz.f115)) (by kernel_rfl) (by kernel_rfl) (by kernel_rfl) (Eq.mpr (by kernel_rfl) h)
def Mj:cV:=λa b c d e f g h I0 m0 K s=>ak .lss h g λg=>ai g
 (qx 1 f h s λf=>funK TP f [d] (λd d=>ak .add h ax λf=>aA m0 (I0 [f] d)) s)
 (oK (wr1 s a ah) λd=>oK (wr1 d b (.str ⟨#[]⟩)) λd=>oK (wr1 d c ah) λd=>runK TP e (λe=>qr e a λa=>qr e b λb=>qr e c λc=>K (.tup [a,b,c]) e) d)
def BI:aY:=λa K s=>boxK 52 a (λa b=>newK 31 [ah] (λc d=>newK 9 [(.str ⟨#[]⟩)] (λe g=>newK 3 [ah] (λh i=>jm TP (.fn (.func 115) [] [(.ptr c 0),(.ptr e 0),(.ptr h 0)])/\
 aE i 19 a λa=>oK (aq zR1 [(0,19,(.agg a))]) λa=>boxK 238 (.agg a) (λa j=>wC TP 116 [] (λk l=>qh k λm=>aK [ah] l (λf=>[f 14]) λI0 f s m0=>Mj (.ptr c 0) (.ptr e 0) (.ptr h 0) a (.fn (.func 115) [] [(.ptr c 0),(.ptr e 0),(.ptr h 0)]) k (.int .i64 m) (f 14) I0 m0 K s) j) i) g) d) b) s
def Th:Nat->List Nat:=anL [(8,[14])]
theorem Ti{t0:AV}{K:KvP}{s:Hq}(h:BI t0 K s):wC TP 61 [t0] K s:=
 Lo Th Tryz.func61 (by kernel_rfl:Tryz.f61.body=some (aI Tryz.f61)) (by kernel_rfl) (Eq.mpr (by kernel_rfl) h)
end Go.AM
