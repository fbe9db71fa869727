/- Part V of the proof: see the last part. -/
import Derived.Test.YtcmcofklcgafiaaGreatA3
import Derived.Test.YtcmcofklcgafiaaGreatProg
import Derived.KernelRfl
set_option linter.unusedVariables false
namespace Go.AM
open Go Go.Proofs List Nat
noncomputable abbrev TP:Program:=Tryz.prog
def nA0:Nat->List Nat:=λ_=>[]
abbrev IvP:=List AV->Hq->Nat->Prop
abbrev KvP:=AV->Hq->Prop
abbrev LvP:=List Nat->List AV->Hq->Prop
def bK(p:AV)(k:Nat)(s:Hq)(K:AV->Prop):MP (oK (eX p) λx=>oK (fu k x) λy=>oK (rd1 s y) K):=⟨⟩
def qs(p:AV)(k:Nat)(s:Hq)(v:AV)(K:Hq->Prop):MP (oK (eX p) λx=>oK (fu k x) λy=>oK (wr1 s y v) K):=⟨⟩
def dR(p:AV)(k:Nat)(K:AV->Prop):MP (oK (eX p) λx=>oK (fu k x) K):=⟨⟩
def qd(k:Nat)(p:AV)(s:Hq)(K:AV->Prop):MP (oK (fu k p) λy=>oK (rd1 s y) K):=⟨⟩
def qx(n:Nat)(p i:AV)(s:Hq)(K:AV->Prop):MP (oK (cF n p i) λy=>oK (rd1 s y) K):=⟨⟩
def qw(n:Nat)(p i:AV)(k:Nat)(s:Hq)(K:AV->Prop):MP (oK (cF n p i) λx=>oK (fu k x) λy=>oK (rd1 s y) K):=⟨⟩
def qr(s:Hq)(p:AV)(K:AV->Prop):MP (oK (rd1 s p) K):=⟨⟩
def aY(s:Hq)(n:Nat)(p:AV)(K:List AV->Prop):MP (oK (rdN s n p) K):=⟨⟩
def qf(k:Nat)(p:AV)(K:AV->Prop):MP (oK (fu k p) K):=⟨⟩
def ax(o:BinOp)(p q:AV)(K:AV->Prop):MP (oK (cZ o p q) K):=⟨⟩
def qe(t:Bool)(k:Nat)(c:Bool)(p q:AV)(K:AV->Prop):MP (oK (negB t (eqV k c p q)) K):=⟨⟩
def qi(n:Nat)(p i:AV)(K:AV->Prop):MP (oK (cF n p i) K):=⟨⟩
def qh(p:AV)(K:Nat->Prop):MP (oK (cM p) K):=⟨⟩
abbrev bG(l:List AV)(s:Hq)(c:Env->List AV)(Q:IvP->Env->Hq->Nat->Prop):Prop:=∃I:IvP,(∃m,I l s m)/\∀(f:Env)(s:Hq)(m:Nat),I (c f) s m->Q I f s m
abbrev aS(m:Nat)(I:Nat->Prop):Prop:=∃m',m'<m/\I m'
def an:MV (.int .i64 0):=⟨⟩
def aO:MV (.int .i64 1):=⟨⟩
def bF:MV (.bool false):=⟨⟩
def bT:MV (.bool true):=⟨⟩
def qz(n:Int):MV (.int .i64 n):=⟨⟩
def qp(p q:AV)(K:AV->Prop):MP (oK (cW p q (.bool false)) K):=⟨⟩
def qt(p q:AV)(K:AV->Prop):MP (oK (cW p (.bool true) q) K):=⟨⟩
def qj(p:AV)(K:AV->Prop):MP (oK (oG .not p) K):=⟨⟩
def qk(p:AV)(n:Nat)(K:AV->Prop):MP (oK (bV p n) K):=⟨⟩
def qc(s:Hq)(n b:Nat)(v:AV)(K:Hq->Prop):MP (oK (dP s n (.ptr b 0) v) K):=⟨⟩
def cO:MV (.int .u32 0):=⟨⟩
def sK:ML [(.int .u64 0),cO,an,an]:=⟨⟩
def lZ:ML [an,cO,cO,cO,an,cO]:=⟨⟩
def Dp:ML [an,an,an,an,an,an]:=⟨⟩
def o4:ML [cO,cO,an,an,cO,cO,(.int .u64 0),(.int .u64 0),an,an,(.int .u64 0),cO,(.int .u64 0),cO,cO,cO,an,an,an,an,(.int .u64 0)]:=⟨⟩
def o5:ML [an,cO,cO,an,an,cO,cO,(.int .u64 0),(.int .u64 0),an,an,(.int .u64 0),cO,(.int .u64 0),cO,cO,cO,an,an,an,an,(.int .u64 0)]:=⟨⟩
abbrev l8:=KvP->Hq->Prop
abbrev cz:=AV->KvP->Hq->Prop
abbrev V12x1:=AV->AV->AV->AV->AV->AV->AV->AV->AV->AV->AV->AV->IvP->Nat->KvP->Hq->Prop
abbrev gk:=AV->IvP->Nat->KvP->Hq->Prop
abbrev Dq:=AV->IvP->Nat->IvP->Nat->KvP->Hq->Prop
abbrev bP:=AV->AV->KvP->Hq->Prop
abbrev fQ:=AV->AV->IvP->Nat->KvP->Hq->Prop
abbrev lg:=AV->AV->IvP->Nat->IvP->Nat->KvP->Hq->Prop
abbrev cA:=AV->AV->AV->KvP->Hq->Prop
abbrev dM:=AV->AV->AV->IvP->Nat->KvP->Hq->Prop
abbrev dY:=AV->AV->AV->AV->KvP->Hq->Prop
abbrev c9:=AV->AV->AV->AV->IvP->Nat->KvP->Hq->Prop
abbrev Dr:=AV->AV->AV->AV->IvP->Nat->IvP->Nat->KvP->Hq->Prop
abbrev fH:=AV->AV->AV->AV->AV->KvP->Hq->Prop
abbrev cY:=AV->AV->AV->AV->AV->IvP->Nat->KvP->Hq->Prop
abbrev sN:=AV->AV->AV->AV->AV->IvP->Nat->IvP->Nat->KvP->Hq->Prop
abbrev kq:=AV->AV->AV->AV->AV->AV->KvP->Hq->Prop
abbrev dC:=AV->AV->AV->AV->AV->AV->IvP->Nat->KvP->Hq->Prop
abbrev lh:=AV->AV->AV->AV->AV->AV->IvP->Nat->IvP->Nat->KvP->Hq->Prop
abbrev li:=AV->AV->AV->AV->AV->AV->AV->KvP->Hq->Prop
abbrev gI:=AV->AV->AV->AV->AV->AV->AV->IvP->Nat->KvP->Hq->Prop
abbrev fJ:=AV->AV->AV->AV->AV->AV->AV->AV->IvP->Nat->KvP->Hq->Prop
abbrev Ds:=AV->AV->AV->AV->AV->AV->AV->AV->AV->IvP->Nat->KvP->Hq->Prop
theorem wOK{P:Program}{n:FuncId}{f:Func}(h1:P.funcs[n]?=some f)(A:Nat->List Nat:=nA0){args:List AV}{K:AV->Hq->Prop}{s:Hq}{Q:Prop}(hb:f.body=some (bH f):=by kernel_rfl)(hl:ble args.length f.ntmps=true:=by kernel_rfl)(he:wpC P A f.ntmps none (bH f) (gZ args) (λe env s=>retK e (resK P f.results.toList env (λvs=>K (oneV vs) s) s)) s=Q:=by kernel_rfl)(h:Q):wC P n args K s:=
  CI A h1 hb hl (Eq.mpr he h)
def anL:List (Nat×List Nat)->Nat->List Nat
 |[],_=>[]
 |(j,l)::r,k=>cond (beq k j) l (anL r k)
abbrev zR0:List AV:=[(.int .i64 0),(.int .u64 0),(.int .u8 0),(.int .u8 0),(.int .u8 0),(.int .u8 0),(.int .u8 0),(.int .u8 0),(.int .u8 0),(.int .u8 0),(.int .u8 0),(.int .u8 0),(.int .u32 0),(.int .u64 0),(.int .u32 0),(.bool false),(.int .u32 0),(.int .i64 0),(.int .u32 0),(.int .u32 0),(.int .u32 0),(.int .i64 0),.nilslc,(.int .u32 0),(.bool false),(.int .u32 0),(.bool false),(.int .u32 0),(.bool false),(.int .u32 0),.nilslc,.nilslc,(.int .i64 0),(.int .u32 0),(.int .u32 0),(.int .u32 0),(.int .u32 0),(.bool false)]
abbrev zR1:List AV:=[(.int .i64 0),(.int .i64 0),.nilslc,.nilslc,.nilslc,.nilslc,.nilslc,.nilslc,(.int .i64 0),(.int .i64 0),(.int .i64 0),(.bool false),(.bool false),(.int .i64 0),(.int .i64 0),(.int .i64 0),(.int .i64 0),(.int .i64 0),(.int .i64 0)]
abbrev ae:=And.intro @cP<|And.intro @bG.eq_1<|And.intro @aS.eq_1<|And.intro @zR0.eq_1<|@zR1.eq_1
set_option maxRecDepth 100000
abbrev T0(N:Nat)(Q:l8):Prop:=∀{K:KvP}{s:Hq},Q K s->wC Tryz.prog N [] K s
abbrev T1(N:Nat)(Q:cz):Prop:=∀{a:AV}{K:KvP}{s:Hq},Q a K s->wC Tryz.prog N [a] K s
abbrev T2(N:Nat)(Q:bP):Prop:=∀{a b:AV}{K:KvP}{s:Hq},Q a b K s->wC Tryz.prog N [a,b] K s
abbrev T3(N:Nat)(Q:cA):Prop:=∀{a b c:AV}{K:KvP}{s:Hq},Q a b c K s->wC Tryz.prog N [a,b,c] K s
abbrev T4(N:Nat)(Q:dY):Prop:=∀{a b c d:AV}{K:KvP}{s:Hq},Q a b c d K s->wC Tryz.prog N [a,b,c,d] K s
abbrev T5(N:Nat)(Q:fH):Prop:=∀{a b c d e:AV}{K:KvP}{s:Hq},Q a b c d e K s->wC Tryz.prog N [a,b,c,d,e] K s
abbrev T6(N:Nat)(Q:kq):Prop:=∀{a b c d e f:AV}{K:KvP}{s:Hq},Q a b c d e f K s->wC Tryz.prog N [a,b,c,d,e,f] K s
abbrev T7(N:Nat)(Q:li):Prop:=∀{a b c d e f g:AV}{K:KvP}{s:Hq},Q a b c d e f g K s->wC Tryz.prog N [a,b,c,d,e,f,g] K s
def mc:bP:=λa b K s=>aY s 19 b λb=>oK (dP s 19 a (.agg b)) λb=>aY b 19 a λa=>K (.agg a) b
def Dt:dC:=λa b c d e f I5 m5 K s=>ax .lss f d λd=>ao d
 (∃d:Hq,Sub d s/\
 qd 7 c d λg=>wC TP 83 [b,e] (λb e=>wC TP 82 [g,b] (λb g=>qf 7 c λh=>oK (wr1 g h b) λb=>ax .add f aO λf=>aS m5 (I5 [f] b)) (add d e)) (lock s d))
 (mc a c K s)
def Du:cY:=λa b c d e I3 m3 K s=>ax .lss e d λd=>ao d
 (∃d:Hq,Sub d s/\
 qd 6 c d λg=>aY d 19 c λh=>wC TP 81 [b,(.agg h),e] (λh i=>oK (aM (repl 1 sK) [(0,4,h)]) λh=>aX h=true/\newK 182 h (λh j=>appK 182 4 g (.slc h 0 1 (some 1) 4) (λg h=>qf 6 c λk=>oK (wr1 h k g) λg=>ax .add e aO λe=>aS m3 (I3 [e] g)) (add d j)) i) (lock s d))
 (qd 3 c s λd=>qh d λd=>ax .gtr (.int .i64 d) aO λe=>ao e
 (wC TP 77 [b,(qz 3)] (λe g=>bG [an] g (λf=>[f 11]) λI5 f s m5=>Dt a b c e (.int .i64 d) (f 11) I5 m5 K s) s)
 (mc a c K s))
def Dv:cY:=λa b c d e I2 m2 K s=>ax .lss e d λd=>ao d
 (∃d:Hq,Sub d s/\
 qd 5 c d λg=>qd 0 c d λh=>qd 4 c d λi=>qh i λi=>wC TP 80 [b,h,(qz 3)] (λh j=>wC TP 80 [b,(.int .i64 i),(qz 4)] (λi k=>oK (aM [.nilslc,.nilslc] [(0,1,h),(1,1,i)]) λh=>oK (aM (repl 1 [.nilslc,.nilslc]) [(0,2,(.agg h))]) λh=>aX h=true/\newK 163 h (λh i=>appK 163 2 g (.slc h 0 1 (some 1) 2) (λg h=>qf 5 c λl=>oK (wr1 h l g) λg=>ax .add e aO λe=>aS m2 (I2 [e] g)) (add d i)) k) j) (lock s d))
 (wC TP 77 [b,(qz 9)] (λd e=>bG [an] e (λf=>[f 9]) λI3 f s m3=>Du a b c d (f 9) I3 m3 K s) s)
def Dw:cY:=λa b c d e I1 m1 K s=>ax .lss e d λd=>ao d
 (∃d:Hq,Sub d s/\
 qd 4 c d λg=>qd 3 c d λh=>qh h λh=>wC TP 79 [b,e,(.int .i64 h)] (λh i=>oK (aM (repl 1 lZ) [(0,6,h)]) λh=>aX h=true/\newK 161 h (λh j=>appK 161 6 g (.slc h 0 1 (some 1) 6) (λg h=>qf 4 c λk=>oK (wr1 h k g) λg=>ax .add e aO λe=>aS m1 (I1 [e] g)) (add d j)) i) (lock s d))
 (wC TP 77 [b,(qz 5)] (λd e=>ax .add (qz 2) d λd=>bG [an] e (λf=>[f 8]) λI2 f s m2=>Dv a b c d (f 8) I2 m2 K s) s)
def Oo:c9:=λa b c d I0 m0 K s=>wC TP 77 [b,(qz 3)] (λe g=>ax .leq d e λe=>ao e
 (qd 3 c g λe=>ax .add (qz 100) d λh=>oK (dX .u32 h) λh=>ax .add (qz 900) d λi=>oK (dX .u32 i) λi=>oK (aM [cO,cO] [(0,1,h),(1,1,i)]) λh=>oK (aM (repl 1 [cO,cO]) [(0,2,(.agg h))]) λh=>aX h=true/\newK 157 h (λh i=>appK 157 2 e (.slc h 0 1 (some 1) 2) (λe h=>qf 3 c λj=>oK (wr1 h j e) λe=>ax .add d aO λd=>aS m0 (I0 [d] e)) i) g)
 (wC TP 77 [b,(qz 4)] (λd e=>ax .add aO d λd=>bG [an] e (λf=>[f 7]) λI1 f s m1=>Dw a b c d (f 7) I1 m1 K s) g)) s
def Dx:cz:=λa K s=>newK 52 zR1 (λb c=>oK (aM [.nilslc,an] [(0,1,a)]) λa=>boxK 176 (.agg a) (λa d=>wC TP 77 [a,(qz 3)] (λe g=>ax .add (qz 2) e λe=>wC TP 77 [a,(qz 3)] (λh i=>ax .add aO h λh=>wC TP 77 [a,(qz 3)] (λj k=>wC TP 77 [a,(qz 2)] (λl m=>wC TP 77 [a,(qz 2)] (λn o=>wC TP 77 [a,(qz 2)] (λp q=>qe false 0 true p an λp=>wC TP 77 [a,(qz 3)] (λr t=>qe false 0 true r aO λr=>oK (aM zR1 [(0,1,e),(1,1,h),(8,1,j),(9,1,l),(10,1,n),(11,1,p),(12,1,r)]) λe=>newK 52 zR1 (λh j=>qc j 19 h (.agg e) λe=>wC TP 77 [a,(qz 3)] (λj l=>ax .add aO j λj=>wC TP 77 [a,(qz 30)] (λn p=>ax .add (qz 40) n λn=>oK (aM Dp [(0,1,j),(1,1,(qz 9)),(2,1,n),(3,1,(qz 20)),(4,1,(qz 5)),(5,1,(qz 30))]) λj=>qf 13 (.ptr h 0) λn=>oK (dP p 6 n (.agg j)) λj=>qd 0 (.ptr h 0) j λn=>qd 1 (.ptr h 0) j λp=>wC TP 78 [a,n,p] (λn p=>qf 2 (.ptr h 0) λr=>oK (wr1 p r n) λn=>bG [an] n (λf=>[f 5]) λI0 f s m0=>Oo (.ptr b 0) a (.ptr h 0) (f 5) I0 m0 K s) j) l) e) t) q) o) m) k) i) g) d) c) s
def UG:Nat->List Nat:=anL [(12,[5]),(22,[7]),(3000013,[1]),(2000052,[0,1,2,3,4,5,6]),(2000053,[7,8]),(2000055,[9,10,11]),(32,[8]),(3000018,[1]),(2000072,[0,1,2,3,4,6,7,8,9]),(2000073,[5,10,11,12]),(2000075,[13,14,15]),(42,[9]),(3000023,[1]),(2000092,[0,1,2,3,4]),(2000093,[5,6]),(2000095,[7,8,9]),(56,[11]),(3000030,[1]),(2000120,[0,1,2,3]),(2000121,[4]),(2000123,[5,6,7])]
theorem UH:T1 29 Dx:=wOK Tryz.func29 UG
def Oq:bP:=λa b K s=>bK a 1 s λc=>bK a 0 s λd=>qh d λd=>ax .geq c (.int .i64 d) λc=>ao c
 (K an s)
 (bK a 1 s λc=>ax .add c aO λc=>qs a 1 s c λc=>bK a 0 c λd=>bK a 1 c λa=>ax .sub a aO λa=>qx 1 d a c λa=>wC TP 127 [a,b] (λa b=>K a b) c)
theorem UI:T2 77 Oq:=wOK Tryz.func77
def xp:lg:=λa b I1 m1 I0 m0 K s=>ax .add b aO λb=>aS m1 (I1 [a,b] s)
def Or:lh:=λa b c d e f I1 m1 I0 m0 K s=>ax .lss f c λc=>ao c
 (wC TP 77 [a,(qz 8)] (λc g=>qe true 0 true c (qz 7) λc=>ao c
 (ax .add b f λb=>wC TP 77 [a,(qz 2)] (λa c=>ax .add aO a λa=>oK (aM [an,an,an] [(0,1,e),(1,1,b),(2,1,a)]) λa=>oK (aM (repl 1 [an,an,an]) [(0,3,(.agg a))]) λa=>aX a=true/\newK 145 a (λa b=>appK 145 3 d (.slc a 0 1 (some 1) 3) (λa h=>xp a f I1 m1 I0 m0 K h) b) c) g)
 (xp d f I1 m1 I0 m0 K g)) s)
 (ax .add e aO λa=>aS m0 (I0 [d,a] s))
def Ot:cY:=λa b c d e I0 m0 K s=>ax .lss e b λg=>ao g
 (bG [d,an] s (λf=>[f 7,f 9]) λI1 f s m1=>Or a b c (f 7) e (f 9) I1 m1 I0 m0 K s)
 (K d s)
def Dy:cA:=λa b c K s=>bG [.nilslc,an] s (λf=>[f 7,f 8]) λI0 f s m0=>Ot a b c (f 7) (f 8) I0 m0 K s
def UJ:Nat->List Nat:=anL [(6,[7,8]),(12,[7,9])]
theorem UK:T3 78 Dy:=wOK Tryz.func78 UJ
def Dz:bP:=λa b K s=>aY s 6 b λb=>oK (dP s 6 a (.agg b)) λb=>aY b 6 a λa=>K (.agg a) b
def DA:cA:=λa b c K s=>newK 161 lZ (λd e=>wC TP 77 [a,c] (λc f=>ax .add (qz 10) b λg=>oK (dX .u32 g) λg=>ax .add (qz 500) b λh=>oK (dX .u32 h) λh=>oK (aM lZ [(0,1,c),(1,1,g),(2,1,h)]) λc=>newK 161 lZ (λg h=>qc h 6 g (.agg c) λc=>wC TP 77 [a,(qz 4)] (λa h=>qe true 0 true a (qz 3) λa=>ao a
 (oK (fN .shl b (.int .u64 16)) λa=>ax .add (qz 167772160) a λa=>oK (dX .u32 a) λa=>oK (aM [cO,an] [(0,1,a),(1,1,(qz 24))]) λa=>qf 3 (.ptr g 0) λb=>oK (dP h 2 b (.agg a)) λa=>qf 3 (.ptr g 0) λb=>qd 0 b a λb=>ax .add b (.int .u32 1) λb=>qf 5 (.ptr g 0) λi=>oK (wr1 a i b) λa=>Dz (.ptr d 0) (.ptr g 0) K a)
 (Dz (.ptr d 0) (.ptr g 0) K h)) c) f) e) s
theorem UL:T3 79 DA:=wOK Tryz.func79
def xq:fQ:=λa b I0 m0 K s=>ax .add b aO λb=>aS m0 (I0 [a,b] s)
def o6:c9:=λa b c d I0 m0 K s=>qt c d λc=>ao c
 (oK (aM (repl 1 [an]) [(0,1,b)]) λc=>aX c=true/\newK 3 c (λc d=>appK 3 1 a (.slc c 0 1 (some 1) 1) (λc e=>xq c b I0 m0 K e) d) s)
 (xq a b I0 m0 K s)
def Ou:cz:=λa K s=>K a s
def o7:dC:=λa b c d e f I0 m0 K s=>qp e f λe=>ao e
 (qe false 0 false d c λe=>ao e
 (o6 b d e .undef I0 m0 K s)
 (wC TP 77 [a,(qz 3)] (λa f=>qe false 0 true a aO λa=>o6 b d e a I0 m0 K f) s))
 (qh b λa=>qe false 0 true (.int .i64 a) an λa=>ao a
 (oK (aM (repl 1 [an]) [(0,1,c)]) λa=>aX a=true/\newK 3 a (λa c=>Ou (.slc a 0 1 (some 1) 1) K c) s)
 (Ou b K s))
def Ov:dC:=λa b c d e f I0 m0 K s=>ax .lss f b λb=>ao b
 (qh d λg=>ax .lss (.int .i64 g) c λc=>o7 a d e f b c I0 m0 K s)
 (o7 a d e f b .undef I0 m0 K s)
def DB:cA:=λa b c K s=>wC TP 77 [a,b] (λd e=>bG [.nilslc,an] e (λf=>[f 7,f 9]) λI0 f s m0=>Ov a b c (f 7) d (f 9) I0 m0 K s) s
def UM:Nat->List Nat:=anL [(8,[7,9])]
theorem DC:T3 80 DB:=wOK Tryz.func80 UM
def DD:bP:=λa b K s=>aY s 4 b λb=>oK (dP s 4 a (.agg b)) λb=>aY b 4 a λa=>K (.agg a) b
def DE:cA:=λa b c K s=>wC TP 77 [a,(qz 10)] (λa d=>qe false 0 true a (qz 9) λa=>ao a
 (qf 3 c λa=>oK (wr1 d a (.int .i64 (-1))) λa=>DD b c K a)
 (DD b c K d)) s
def DF:li:=λa b c d e f g K s=>qp f g λf=>ao f
 (qd 4 c s λc=>qd 2 e s λf=>qi 6 c f λc=>qf 3 c λc=>qd 0 c s λc=>ax .add (qz 10) b λb=>oK (dX .u32 b) λb=>ax .add c b λb=>qf 1 e λc=>oK (wr1 s c b) λb=>DE a d e K b)
 (DE a d e K s)
def DG:cA:=λa b c K s=>boxK 52 b (λb d=>newK 182 sK (λe f=>qd 5 b f λg=>qh g λg=>wC TP 77 [a,(.int .i64 g)] (λg h=>qd 5 b h λi=>qw 2 i g 1 h λi=>ax .add (qz 2199023951872) c λj=>oK (dX .u64 j) λj=>qh i λk=>wC TP 77 [a,(.int .i64 k)] (λk l=>qx 1 i k l λi=>oK (aM sK [(0,1,j),(2,1,i),(3,1,g)]) λg=>newK 182 sK (λi j=>qc j 4 i (.agg g) λg=>qd 4 b g λj=>qd 2 (.ptr i 0) g λk=>qw 6 j k 5 g λj=>qe true 0 true j cO λj=>ao j
 (wC TP 77 [a,(qz 6)] (λk m=>qe true 0 true k (qz 5) λk=>DF a c b (.ptr e 0) (.ptr i 0) j k K m) g)
 (DF a c b (.ptr e 0) (.ptr i 0) j .undef K g)) l) h) f) d) s
theorem DH:T3 81 DG:=wOK Tryz.func81
def Ox:dM:=λa b c I0 m0 K s=>qh a λd=>ax .lss c (.int .i64 d) λd=>ao d
 (qi 4 a c λd=>aY s 4 d λd=>aY s 4 b λe=>oK (negB false (fF TP 186 (.agg d) (.agg e))) λd=>ao d
 (K a s)
 (ax .add c aO λc=>aS m0 (I0 [c] s)))
 (aY s 4 b λb=>oK (aM (repl 1 [an,an,cO,an]) [(0,4,(.agg b))]) λb=>aX b=true/\newK 186 b (λb c=>appK 186 4 a (.slc b 0 1 (some 1) 4) (λa b=>K a b) c) s)
def DJ:bP:=λa b K s=>boxK 186 b (λb c=>bG [an] c (λf=>[f 5]) λI0 f s m0=>Ox a b (f 5) I0 m0 K s) s
def UN:Nat->List Nat:=anL [(4,[5])]
theorem UO:T2 82 DJ:=wOK Tryz.func82 UN
def DK:bP:=λa b K s=>aY s 4 b λb=>oK (dP s 4 a (.agg b)) λb=>aY b 4 a λa=>K (.agg a) b
def DL:bP:=λa b K s=>newK 186 [an,an,cO,an] (λc d=>wC TP 77 [a,b] (λe f=>ax .add e aO λg=>ax .sub b aO λh=>wC TP 77 [a,h] (λh i=>ax .add g h λg=>ax .rem g b λb=>oK (aM [an,an,cO,an] [(0,1,e),(1,1,b)]) λb=>newK 186 [an,an,cO,an] (λe g=>qc g 4 e (.agg b) λb=>wC TP 77 [a,(qz 2)] (λg h=>qe false 0 true g an λg=>ao g
 (wC TP 77 [a,(qz 4)] (λa g=>oK (fN .shl a (.int .u64 16)) λa=>ax .add (qz 167772160) a λa=>oK (dX .u32 a) λa=>oK (aM [cO,an] [(0,1,a),(1,1,(qz 16))]) λa=>qf 2 (.ptr e 0) λj=>oK (dP g 2 j (.agg a)) λa=>DK (.ptr c 0) (.ptr e 0) K a) h)
 (DK (.ptr c 0) (.ptr e 0) K h)) b) i) f) d) s
theorem DM:T2 83 DL:=wOK Tryz.func83
def sO:bP:=λa b K s=>ax .leq b an λc=>ao c
 (K an s)
 (ax .rem a b λa=>ax .add a b λa=>ax .rem a b λa=>K a s)
theorem DN:T2 127 sO:=wOK Tryz.func127
def Oy:l8:=λK s=>oK (aM (repl 8 [.nilFunc]) [(0,1,(.fn (.func 145) [] [])),(1,1,(.fn (.func 146) [] [])),(2,1,(.fn (.func 147) [] [])),(3,1,(.fn (.func 148) [] [])),(4,1,(.fn (.func 149) [] [])),(5,1,(.fn (.func 150) [] [])),(6,1,(.fn (.func 151) [] [])),(7,1,(.fn (.func 152) [] []))]) λa=>aX a=true/\newK 241 a (λa b=>K (.slc a 0 8 (some 8) 1) b) s
theorem UP:T0 116 Oy:=wOK Tryz.func116
def Oz:bP:=λa b K s=>qt a b λa=>K a s
def OA:cA:=λa b c K s=>ax .lss a b λb=>ao b
 (Oz b .undef K s)
 (ax .gtr a c λa=>Oz b a K s)
theorem UQ:T3 177 OA:=wOK Tryz.func177
def OB(es ty:Nat)(z:List AV)(kn kt:Nat)(kz:List AV)(a b c d e f:AV)(I0:IvP)(m0:Nat)(K:KvP)(s:Hq):Prop:=
 ax .lss f e λe=>ao e
 (oK (cF es d f) λd=>oK (rdN s es d) λd=>newK ty z (λe g=>oK (dP g es (.ptr e 0) (.agg d)) λd=>oK (rdN d es (.ptr e 0)) λe=>funK TP a [(.agg e)] (λa e=>newK kt kz (λg h=>oK (dP h kn (.ptr g 0) a) λa=>oK (rdN a kn (.ptr g 0)) λh=>oK (getG TP kt a b (.agg h)) λh=>qi 1 c f λi=>oK (wr1 a i (retM bF false h)) λa=>oK (rdN a kn (.ptr g 0)) λg=>oK (putG TP kt a b (.agg g) bT) λa=>ax .add f aO λb=>aS m0 (I0 [b] a)) e) d) s)
 (K c s)
def sP(es ty:Nat)(z:List AV)(kn kt:Nat)(kz:List AV)(a b:AV)(K:KvP)(s:Hq):Prop:=
 qh a λc=>intK (.int .i64 c) (mapK (λc d=>qh a λe=>oK (nat? (.int .i64 e)) λg=>oK (nat? (.int .i64 e)) λe=>(g<=e/\e<=4294967296)/\newK 4 (repl e [bF]) (λh i=>qh a λj=>bG [an] i (λf=>[f 18]) λI0 f s m0=>OB es ty z kn kt kz b c (.slc h 0 g (some e) 1) a (.int .i64 j) (f 18) I0 m0 K s) d) s)
def UR:Nat->List Nat:=anL [(8,[18])]
theorem US{l0 key1:AV}{K:KvP}{s:Hq}(h:sP 3 145 [(.int .i64 0),(.int .i64 0),(.int .i64 0)] 2 312 [(.int .i64 0),(.int .i64 0)] l0 key1 K s):wC TP 178 [l0,key1] K s:=
 wOK Tryz.func178 UR (h:=h)
def DO:cz:=λa K s=>boxK 145 a (λa b=>newK 312 [an,an] (λc d=>qd 0 a d λe=>qd 1 a d λa=>oK (aM [an,an] [(0,1,e),(1,1,a)]) λa=>qc d 2 c (.agg a) λa=>aY a 2 (.ptr c 0) λc=>K (.agg c) a) b) s
theorem UT:T1 179 DO:=wOK Tryz.func179
def OC(es ty:Nat)(z:List AV)(a b c d e f:AV)(I0:IvP)(m0:Nat)(K:KvP)(s:Hq):Prop:=
 ax .lss f e λe=>ao e
 (oK (cF es d f) λd=>oK (rdN s es d) λd=>newK ty z (λe g=>oK (dP g es (.ptr e 0) (.agg d)) λd=>oK (rdN d es (.ptr e 0)) λe=>funK TP a [(.agg e)] (λa e=>oK (getM e b a) λg=>qi 1 c f λh=>oK (wr1 e h (retM bF false g)) λe=>oK (putM e b a bT) λa=>ax .add f aO λb=>aS m0 (I0 [b] a)) d) s)
 (K c s)
def xr(es ty:Nat)(z:List AV)(a b:AV)(K:KvP)(s:Hq):Prop:=
 qh a λc=>intK (.int .i64 c) (mapK (λc d=>qh a λe=>oK (nat? (.int .i64 e)) λg=>oK (nat? (.int .i64 e)) λe=>(g<=e/\e<=4294967296)/\newK 4 (repl e [bF]) (λh i=>qh a λj=>bG [an] i (λf=>[f 18]) λI0 f s m0=>OC es ty z b c (.slc h 0 g (some e) 1) a (.int .i64 j) (f 18) I0 m0 K s) d) s)
def UU:Nat->List Nat:=anL [(8,[18])]
theorem OD{l0 key1:AV}{K:KvP}{s:Hq}(h:xr 2 157 [(.int .u32 0),(.int .u32 0)] l0 key1 K s):wC TP 181 [l0,key1] K s:=
 wOK Tryz.func181 UU (h:=h)
def UV:cz:=λa K s=>boxK 157 a (λa b=>qd 0 a b λa=>K a b) s
theorem UW:T1 182 UV:=wOK Tryz.func182
def UX:cz:=λa K s=>boxK 157 a (λa b=>qd 1 a b λa=>K a b) s
theorem UY:T1 183 UX:=wOK Tryz.func183
def UZ:Nat->List Nat:=anL [(8,[18])]
theorem OE{l0 key1:AV}{K:KvP}{s:Hq}(h:xr 6 161 [(.int .i64 0),(.int .u32 0),(.int .u32 0),(.int .u32 0),(.int .i64 0),(.int .u32 0)] l0 key1 K s):wC TP 184 [l0,key1] K s:=
 wOK Tryz.func184 UZ (h:=h)
def U0:cz:=λa K s=>boxK 161 a (λa b=>qd 1 a b λa=>K a b) s
theorem U1:T1 185 U0:=wOK Tryz.func185
def U2:cz:=λa K s=>boxK 161 a (λa b=>qd 2 a b λa=>K a b) s
theorem U4:T1 186 U2:=wOK Tryz.func186
def U5:cA:=λa b c K s=>boxK 315 b (λb d=>boxK 28 c (λc e=>wC TP 216 [a,(.fn (.func 217) [] [b,c])] (λa b=>K a b) e) d) s
theorem U6:T3 187 U5:=wOK Tryz.func187
def OF:bP:=λa b K s=>qp a b λa=>K a s
def DP:cz:=λa K s=>boxK 159 a (λa b=>aY b 2 a λc=>wC TP 218 [(.agg c)] (λc d=>qk c 0 λe=>qk c 1 λc=>newK 159 [cO,an] (λf g=>qc g 2 f e λe=>qe false 0 true c an λc=>ao c
 (aY e 2 (.ptr f 0) λf=>aY e 2 a λa=>oK (negB false (fF TP 159 (.agg f) (.agg a))) λa=>OF c a K e)
 (OF c .undef K e)) d) b) s
theorem U7:T1 188 DP:=wOK Tryz.func188
def DQ:bP:=λa b K s=>qp a b λa=>K a s
def DR:dY:=λa b c d K s=>qp c d λc=>ao c
 (qe true 0 false a b λa=>DQ c a K s)
 (DQ c .undef K s)
def DS:bP:=λa b K s=>boxK 159 a (λa c=>qd 0 a c λd=>qd 1 a c λe=>ax .sub (qz 32) e λe=>oK (fN .shl (.int .u32 1) e) λe=>ax .sub e (.int .u32 1) λe=>ax .or d e λd=>aY c 2 a λe=>wC TP 192 [(.agg e),b] (λe f=>ao e
 (qd 0 a f λa=>qe true 0 false b a λa=>DR b d e a K f)
 (DR b d e .undef K f)) c) s
theorem U8:T2 189 DS:=wOK Tryz.func189
def U9:bP:=λa b K s=>wC TP 219 [a,b] (λa b=>ax .geq a an λa=>K a b) s
theorem Va:T2 190 U9:=wOK Tryz.func190
def OG:cA:=λa b c K s=>qt b c λb=>qp a b λa=>K a s
def xu:dY:=λa b c d K s=>qp c d λc=>ao c
 (qf 3 b λd=>aY s 2 d λd=>qf 3 a λe=>qd 0 e s λe=>wC TP 192 [(.agg d),e] (λd e=>ao d
 (OG c d .undef K e)
 (qf 3 a λa=>aY e 2 a λa=>qf 3 b λb=>qd 0 b e λb=>wC TP 192 [(.agg a),b] (λa b=>OG c d a K b) e)) s)
 (qp c .undef λa=>K a s)
def Vb:bP:=λa b K s=>boxK 161 a (λa c=>qd 0 a c λd=>qd 0 b c λe=>qe false 0 false d e λd=>ao d
 (qd 5 a c λe=>qe true 0 true e cO λe=>xu b a d e K c)
 (xu b a d .undef K c)) s
theorem Vc:T2 191 Vb:=wOK Tryz.func191
def Vd:bP:=λa b K s=>boxK 159 a (λa c=>aY c 2 a λd=>∃e:AV,(wC TP 220 [(.agg d)] (λd f=>d=e) (frz c))/\
 ao e
 (qd 0 a c λd=>ax .xor d b λb=>qd 1 a c λa=>∃d:AV,(wC TP 221 [a] (λa f=>a=d) (frz c))/\
 ax .and b d λa=>qe false 0 true a cO λa=>qp e a λa=>K a c)
 (qp e .undef λa=>K a c)) s
def Ve:Nat->List Nat:=anL [(3000001,[0]),(2000004,[0,1,2,3,4,5,6,7,8,9,10,11,12,13])]
theorem Vf:T2 192 Vd:=wOK Tryz.func192 Ve
def Vg:bP:=λa b K s=>wC TP 162 [a,b] (λa b=>ax .geq a an λa=>K a b) s
theorem OH:T2 129 Vg:=wOK Tryz.func129
def OI:bP:=λa b K s=>qd 0 b s λb=>wC TP 180 [a,b] (λa b=>qj a λa=>K a b) s
theorem Vh:T2 193 OI:=wOK Tryz.func193
def OJ:bP:=λa b K s=>qd 4 b s λb=>qh b λb=>wC TP 180 [a,(.int .i64 b)] (λa b=>qj a λa=>K a b) s
theorem Vi:T2 194 OJ:=wOK Tryz.func194
def OK:fQ:=λa b I0 m0 K s=>qh a λc=>ax .lss b (.int .i64 c) λc=>ao c
 (qx 1 a b s λc=>ax .sub b aO λd=>qx 1 a d s λa=>ax .leq c a λa=>ao a
 (K bF s)
 (ax .add b aO λa=>aS m0 (I0 [a] s)))
 (K bT s)
def OL:cz:=λa K s=>bG [aO] s (λf=>[f 3]) λI0 f s m0=>OK a (f 3) I0 m0 K s
def Vj:Nat->List Nat:=anL [(4,[3])]
theorem Vk:T1 195 OL:=wOK Tryz.func195 Vj
def Vl:Nat->List Nat:=anL [(8,[18])]
theorem OM{l0 key1:AV}{K:KvP}{s:Hq}(h:sP 4 182 [(.int .u64 0),(.int .u32 0),(.int .i64 0),(.int .i64 0)] 2 327 [(.int .i64 0),(.int .u64 0)] l0 key1 K s):wC TP 196 [l0,key1] K s:=
 wOK Tryz.func196 Vl (h:=h)
def DU:cz:=λa K s=>boxK 182 a (λa b=>newK 327 [an,(.int .u64 0)] (λc d=>qd 2 a d λe=>qd 0 a d λa=>oK (aM [an,(.int .u64 0)] [(0,1,e),(1,1,a)]) λa=>qc d 2 c (.agg a) λa=>aY a 2 (.ptr c 0) λc=>K (.agg c) a) b) s
theorem Vm:T1 197 DU:=wOK Tryz.func197
def DV:cz:=λa K s=>boxK 182 a (λa b=>newK 327 [an,(.int .u64 0)] (λc d=>qd 2 a d λe=>qd 1 a d λa=>oK (dX .u64 a) λa=>oK (aM [an,(.int .u64 0)] [(0,1,e),(1,1,a)]) λa=>qc d 2 c (.agg a) λa=>aY a 2 (.ptr c 0) λc=>K (.agg c) a) b) s
theorem Vn:T1 198 DV:=wOK Tryz.func198
def ON:bP:=λa b K s=>qp a b λa=>K a s
def OO:cz:=λa K s=>ax .leq a (.int .u64 281474976710655) λb=>ao b
 (oK (fN .shr a (.int .u64 40)) λa=>ax .and a (.int .u64 1) λa=>qe true 0 true a (.int .u64 0) λa=>ON b a K s)
 (ON b .undef K s)
theorem Vo:T1 199 OO:=wOK Tryz.func199
def OP:bP:=λa b K s=>wC TP 222 [a,b] (λa b=>ax .geq a an λa=>K a b) s
theorem Vp:T2 200 OP:=wOK Tryz.func200
def xv:cA:=λa b c K s=>qt b c λb=>ao b
 (K (.tup [an,bF]) s)
 (ax .sub a (.int .u64 2199023255552) λa=>oK (dX .i64 a) λa=>K (.tup [a,bT]) s)
def OQ:cz:=λa K s=>ax .lss a (.int .u64 2199023255552) λb=>ao b
 (xv a b .undef K s)
 (ax .geq a (.int .u64 2199023255584) λc=>xv a b c K s)
theorem Vq:T1 201 OQ:=wOK Tryz.func201
def OR:bP:=λa b K s=>qp a b λa=>K a s
def xw:dY:=λa b c d K s=>qp c d λc=>ao c
 (qf 3 b λb=>aY s 2 b λb=>wC TP 189 [(.agg b),a] (λa b=>OR c a K b) s)
 (OR c .undef K s)
def Vr:bP:=λa b K s=>boxK 161 a (λa c=>qe false 0 true b cO λd=>ao d
 (K bT c)
 (qd 5 a c λd=>qe true 0 true d cO λd=>ao d
 (qd 5 a c λe=>qe true 0 false b e λe=>xw b a d e K c)
 (xw b a d .undef K c))) s
theorem Vs:T2 202 Vr:=wOK Tryz.func202
def Vt:Nat->List Nat:=anL [(8,[18])]
theorem Vu{l0 key1:AV}{K:KvP}{s:Hq}(h:sP 4 186 [(.int .i64 0),(.int .i64 0),(.int .u32 0),(.int .i64 0)] 4 186 [(.int .i64 0),(.int .i64 0),(.int .u32 0),(.int .i64 0)] l0 key1 K s):wC TP 203 [l0,key1] K s:=
 wOK Tryz.func203 Vt (h:=h)
def DW:cz:=λa K s=>boxK 186 a (λa b=>newK 186 [an,an,cO,an] (λc d=>aY d 4 a λa=>qc d 4 c (.agg a) λa=>aY a 4 (.ptr c 0) λc=>K (.agg c) a) b) s
theorem Vv:T1 204 DW:=wOK Tryz.func204
def Vw:bP:=λa b K s=>wC TP 229 [a,b] (λa b=>ax .geq a an λa=>K a b) s
theorem Vx:T2 216 Vw:=wOK Tryz.func216
def Vy:cA:=λa b c K s=>boxK 157 a (λa d=>∃e:Hq,Sub e d/\
 qr e b λb=>aY e 2 a λa=>qr e c λc=>funK TP b [(.agg a)] (λa b=>qe false 0 false a c λa=>K a (add e b)) (lock d e)) s
def Vz:Nat->List Nat:=anL [(3000001,[1]),(2000004,[0,1,3]),(2000005,[2]),(2000007,[4,5])]
theorem VA:T3 217 Vy:=wOK Tryz.func217 Vz
def VC:cz:=λa K s=>boxK 159 a (λa b=>newK 159 [cO,an] (λc d=>aY d 2 a λe=>wC TP 220 [(.agg e)] (λe f=>qj e λe=>ao e
 (oK (aM [cO,an] []) λe=>qc f 2 c (.agg e) λe=>aY e 2 (.ptr c 0) λg=>K (.tup [(.agg g),(qz 2)]) e)
 (∃e:Hq,Sub e f/\
 qd 0 a e λg=>qd 1 a e λh=>wC TP 221 [h] (λh i=>ax .and g h λg=>qf 0 a λh=>oK (wr1 (add e i) h g) λg=>aY g 2 a λa=>qc g 2 c (.agg a) λa=>aY a 2 (.ptr c 0) λc=>K (.tup [(.agg c),an]) a) (lock f e))) d) b) s
def VD:Nat->List Nat:=anL [(3000003,[1]),(2000012,[0,1,2,3]),(2000013,[4]),(2000015,[5,6,7])]
theorem VE:T1 218 VC:=wOK Tryz.func218 VD
def OS:c9:=λa b c d I0 m0 K s=>ax .lss d c λc=>ao c
 (qi 6 a d λa=>aY s 6 a λa=>funK TP b [(.agg a)] (λa b=>ao a
 (K d b)
 (ax .add d aO λa=>aS m0 (I0 [a] b))) s)
 (K (.int .i64 (-1)) s)
def OT:bP:=λa b K s=>qh a λc=>bG [an] s (λf=>[f 8]) λI0 f s m0=>OS a b (.int .i64 c) (f 8) I0 m0 K s
def VF:Nat->List Nat:=anL [(4,[8])]
theorem VG:T2 219 OT:=wOK Tryz.func219 VF
def OU:bP:=λa b K s=>qp a b λa=>K a s
def VH:cz:=λa K s=>boxK 159 a (λa b=>qd 1 a b λc=>ax .geq c an λc=>ao c
 (qd 1 a b λa=>ax .leq a (qz 32) λa=>OU c a K b)
 (OU c .undef K b)) s
theorem VI:T1 220 VH:=wOK Tryz.func220
def OV:cz:=λa K s=>ax .sub (qz 32) a λa=>oK (fN .shl (.int .u32 4294967295) a) λa=>K a s
theorem VJ:T1 221 OV:=wOK Tryz.func221
def DX:c9:=λa b c d I0 m0 K s=>ax .lss d c λc=>ao c
 (qx 1 a d s λa=>funK TP b [a] (λa b=>ao a
 (K d b)
 (ax .add d aO λa=>aS m0 (I0 [a] b))) s)
 (K (.int .i64 (-1)) s)
def DY:bP:=λa b K s=>qh a λc=>bG [an] s (λf=>[f 8]) λI0 f s m0=>DX a b (.int .i64 c) (f 8) I0 m0 K s
def VK:Nat->List Nat:=anL [(4,[8])]
theorem OW:T2 162 DY:=wOK Tryz.func162 VK
def OX:c9:=λa b c d I0 m0 K s=>ax .lss d c λc=>ao c
 (qx 1 a d s λa=>qe false 0 false b a λa=>ao a
 (K d s)
 (ax .add d aO λa=>aS m0 (I0 [a] s)))
 (K (.int .i64 (-1)) s)
def OY:bP:=λa b K s=>qh a λc=>bG [an] s (λf=>[f 8]) λI0 f s m0=>OX a b (.int .i64 c) (f 8) I0 m0 K s
def VL:Nat->List Nat:=anL [(4,[8])]
theorem VM:T2 222 OY:=wOK Tryz.func222 VL
def OZ:c9:=λa b c d I0 m0 K s=>ax .lss d c λc=>ao c
 (qi 2 a d λa=>aY s 2 a λa=>funK TP b [(.agg a)] (λa b=>ao a
 (K d b)
 (ax .add d aO λa=>aS m0 (I0 [a] b))) s)
 (K (.int .i64 (-1)) s)
def O0:bP:=λa b K s=>qh a λc=>bG [an] s (λf=>[f 8]) λI0 f s m0=>OZ a b (.int .i64 c) (f 8) I0 m0 K s
def VN:Nat->List Nat:=anL [(4,[8])]
theorem VO:T2 229 O0:=wOK Tryz.func229 VN
def O1:bP:=λa b K s=>qp a b λa=>K a s
def O2:bP:=λa b K s=>ax .geq a an λc=>ao c
 (ax .lss a b λa=>O1 c a K s)
 (O1 c .undef K s)
theorem VP:T2 180 O2:=wOK Tryz.func180
def sQ:dY:=λa b c d K s=>ao a
 (oK (aM [an,(.str ⟨#[]⟩),an] [(0,1,b),(1,1,c),(2,1,d)]) λa=>
False /- op -/)
 (K (.tup []) s)
theorem DZ:T4 176 sQ:=wOK Tryz.func176
def xx:bP:=λa b K s=>qt a b λa=>wC TP 176 [a,(qz 2),(.str ⟨#[102,97,98,114,105,99]⟩),an] (λa a=>K (.tup []) a) s
def xy:cA:=λa b c K s=>qt b c λb=>ao b
 (xx b .undef K s)
 (qd 10 a s λa=>wC TP 177 [a,an,aO] (λa c=>xx b a K c) s)
def xz:cA:=λa b c K s=>qt b c λb=>wC TP 176 [b,(qz 2),(.str ⟨#[102,97,98,114,105,99]⟩),an] (λb b=>qd 0 a b λc=>qd 1 a b λd=>ax .add c d λc=>ax .gtr c (qz 32) λc=>wC TP 176 [c,(qz 2),(.str ⟨#[102,97,98,114,105,99]⟩),an] (λc c=>qd 8 a c λd=>wC TP 177 [d,an,(qz 2)] (λd e=>ao d
 (xy a d .undef K e)
 (qd 9 a e λf=>wC TP 177 [f,an,aO] (λf g=>xy a d f K g) e)) c) b) s
def D2:cz:=λa K s=>dR a 0 λa=>aY s 19 a λa=>newK 52 zR1 (λb c=>qc c 19 b (.agg a) λa=>qd 0 (.ptr b 0) a λc=>wC TP 177 [c,aO,(qz 32)] (λc d=>ao c
 (xz (.ptr b 0) c .undef K d)
 (qd 1 (.ptr b 0) d λe=>wC TP 177 [e,an,(qz 32)] (λe f=>xz (.ptr b 0) c e K f) d)) a) s
theorem VQ:T1 145 D2:=wOK Tryz.func145
def xA:bP:=λa b K s=>qt a b λa=>wC TP 176 [a,(qz 2),(.str ⟨#[116,105,109,101,114,115]⟩),an] (λa a=>K (.tup []) a) s
def xC:cA:=λa b c K s=>qt b c λb=>ao b
 (xA b .undef K s)
 (qd 5 a s λa=>wC TP 177 [a,aO,(qz 10000)] (λa c=>xA b a K c) s)
def xD:cA:=λa b c K s=>qt b c λb=>wC TP 176 [b,(qz 2),(.str ⟨#[116,105,109,101,114,115]⟩),an] (λb b=>qd 3 a b λc=>wC TP 177 [c,an,(qz 1000)] (λc d=>ao c
 (xC a c .undef K d)
 (qd 4 a d λe=>wC TP 177 [e,aO,(qz 100)] (λe f=>xC a c e K f) d)) b) s
def xE:cA:=λa b c K s=>qt b c λb=>ao b
 (xD a b .undef K s)
 (qd 2 a s λc=>wC TP 177 [c,aO,(qz 10000)] (λc d=>xD a b c K d) s)
def O3:cz:=λa K s=>dR a 0 λa=>qf 13 a λa=>aY s 6 a λa=>newK 50 Dp (λb c=>qc c 6 b (.agg a) λa=>qd 0 (.ptr b 0) a λc=>wC TP 177 [c,aO,(qz 100)] (λc d=>ao c
 (xE (.ptr b 0) c .undef K d)
 (qd 1 (.ptr b 0) d λe=>wC TP 177 [e,(qz 3),(qz 1000)] (λe f=>xE (.ptr b 0) c e K f) d)) a) s
theorem VR:T1 146 O3:=wOK Tryz.func146
def xF:cY:=λa b c d e I0 m0 K s=>qt d e λd=>wC TP 176 [d,(qz 2),(.str ⟨#[108,105,110,107,115]⟩),b] (λd d=>qx 1 a b d λa=>wC TP 176 [a,(qz 11),(.str ⟨#[108,105,110,107,115]⟩),b] (λa a=>ax .add c aO λb=>aS m0 (I0 [b] a)) d) s
def xG:dC:=λa b c d e f I0 m0 K s=>qp e f λe=>qj e λe=>ao e
 (xF a b d e .undef I0 m0 K s)
 (qd 2 c s λc=>wC TP 177 [c,aO,(qz 1000)] (λc f=>xF a b d e c I0 m0 K f) s)
def xH:gI:=λa b c d e f g I0 m0 K s=>qp f g λf=>ao f
 (qd 1 d s λg=>qd 0 a s λh=>qd 1 a s λa=>ax .add h a λa=>ax .lss g a λa=>xG b c d e f a I0 m0 K s)
 (xG b c d e f .undef I0 m0 K s)
def O4:cY:=λa b c d e I0 m0 K s=>ax .lss e d λd=>ao d
 (qi 3 c e λc=>aY s 3 c λc=>newK 145 [an,an,an] (λd f=>qc f 3 d (.agg c) λc=>qd 0 (.ptr d 0) c λf=>qd 0 a c λg=>wC TP 180 [f,g] (λf g=>ao f
 (qd 1 (.ptr d 0) g λh=>qd 0 a g λi=>ax .geq h i λh=>xH a b e (.ptr d 0) e f h I0 m0 K g)
 (xH a b e (.ptr d 0) e f .undef I0 m0 K g)) c) s)
 (K (.tup []) s)
def D3:cz:=λa K s=>dR a 0 λa=>aY s 19 a λa=>newK 52 zR1 (λb c=>qc c 19 b (.agg a) λa=>qd 2 (.ptr b 0) a λc=>qh c λc=>ax .gtr (.int .i64 c) (qz 128) λc=>wC TP 176 [c,(qz 7),(.str ⟨#[108,105,110,107,115]⟩),(qz 128)] (λc c=>qd 2 (.ptr b 0) c λd=>wC TP 178 [d,(.fn (.func 179) [] [])] (λd e=>qd 2 (.ptr b 0) e λg=>qh g λh=>bG [an] e (λf=>[f 22]) λI0 f s m0=>O4 (.ptr b 0) d g (.int .i64 h) (f 22) I0 m0 K s) c) a) s
def VT:Nat->List Nat:=anL [(8,[22])]
theorem VU:T1 147 D3:=wOK Tryz.func147 VT
def xI:c9:=λa b c d I0 m0 K s=>qt c d λc=>wC TP 176 [c,(qz 11),(.str ⟨#[116,101,110,97,110,116,115]⟩),a] (λa a=>ax .add b aO λb=>aS m0 (I0 [b] a)) s
def xJ:dC:=λa b c d e f I0 m0 K s=>qt e f λe=>wC TP 176 [e,(qz 2),(.str ⟨#[116,101,110,97,110,116,115]⟩),c] (λe e=>qx 1 a c e λa=>ao a
 (xI c d a .undef I0 m0 K e)
 (qx 1 b c e λb=>xI c d a b I0 m0 K e)) s
def xK:gI:=λa b c d e f g I0 m0 K s=>qt f g λf=>ao f
 (xJ a b c e f .undef I0 m0 K s)
 (qd 1 d s λd=>qe false 0 true d cO λd=>xJ a b c e f d I0 m0 K s)
def O5:cY:=λa b c d e I0 m0 K s=>ax .lss e d λd=>ao d
 (qi 2 c e λc=>aY s 2 c λc=>newK 157 [cO,cO] (λd f=>qc f 2 d (.agg c) λc=>qd 0 (.ptr d 0) c λf=>ax .lss f (.int .u32 1) λf=>ao f
 (xK a b e (.ptr d 0) e f .undef I0 m0 K c)
 (qd 0 (.ptr d 0) c λg=>ax .gtr g (.int .u32 16777215) λg=>xK a b e (.ptr d 0) e f g I0 m0 K c)) s)
 (K (.tup []) s)
def O6:cz:=λa K s=>dR a 0 λa=>qd 3 a s λa=>qh a λb=>ax .gtr (.int .i64 b) (qz 16) λb=>wC TP 176 [b,(qz 7),(.str ⟨#[116,101,110,97,110,116,115]⟩),(qz 16)] (λb b=>wC TP 181 [a,(.fn (.func 182) [] [])] (λc d=>wC TP 181 [a,(.fn (.func 183) [] [])] (λe g=>qh a λh=>bG [an] g (λf=>[f 22]) λI0 f s m0=>O5 c e a (.int .i64 h) (f 22) I0 m0 K s) d) b) s
def VV:Nat->List Nat:=anL [(8,[22])]
theorem VW:T1 148 O6:=wOK Tryz.func148 VV
def xM:gk:=λa I0 m0 K s=>ax .add a aO λa=>aS m0 (I0 [a] s)
def xO:dC:=λa b c d e f I0 m0 K s=>qt e f λe=>wC TP 176 [e,(qz 3),(.str ⟨#[100,111,109,97,105,110,115]⟩),b] (λe e=>qf 3 c λf=>aY e 2 f λf=>qd 5 c e λg=>wC TP 189 [(.agg f),g] (λf g=>qj f λf=>wC TP 176 [f,(qz 3),(.str ⟨#[100,111,109,97,105,110,115]⟩),b] (λf f=>qd 4 a f λa=>oK (fI 6 a none (some b) none) λa=>wC TP 190 [a,(.fn (.func 191) [] [c])] (λa c=>wC TP 176 [a,(qz 11),(.str ⟨#[100,111,109,97,105,110,115]⟩),b] (λa a=>xM d I0 m0 K a) c) f) g) e) s
def xP:dC:=λa b c d e f I0 m0 K s=>qt e f λe=>wC TP 176 [e,(qz 11),(.str ⟨#[100,111,109,97,105,110,115]⟩),b] (λe e=>qd 5 c e λf=>qe false 0 true f cO λf=>ao f
 (qf 3 c λf=>aY e 2 f λf=>oK (aM [cO,an] []) λg=>oK (negB true (fF TP 159 (.agg f) (.agg g))) λf=>wC TP 176 [f,(qz 3),(.str ⟨#[100,111,109,97,105,110,115]⟩),b] (λf f=>xM d I0 m0 K f) e)
 (qf 3 c λf=>aY e 2 f λf=>wC TP 188 [(.agg f)] (λf g=>qj f λf=>ao f
 (xO a b c d f .undef I0 m0 K g)
 (qf 3 c λh=>qd 1 h g λh=>wC TP 177 [h,(qz 8),(qz 30)] (λh i=>xO a b c d f h I0 m0 K i) g)) e)) s
def xQ:dC:=λa b c d e f I0 m0 K s=>qt e f λe=>ao e
 (xP a b c d e .undef I0 m0 K s)
 (qd 3 a s λf=>qd 2 c s λg=>wC TP 187 [f,(.fn (.func 183) [] []),g] (λf g=>xP a b c d e f I0 m0 K g) s)
def xR:dC:=λa b c d e f I0 m0 K s=>qt e f λe=>ao e
 (xQ a b c d e .undef I0 m0 K s)
 (qd 3 a s λf=>qd 1 c s λg=>wC TP 187 [f,(.fn (.func 182) [] []),g] (λf g=>xQ a b c d e f I0 m0 K g) s)
def xT:fJ:=λa b c d e f g h I0 m0 K s=>qt g h λg=>wC TP 176 [g,(qz 2),(.str ⟨#[100,111,109,97,105,110,115]⟩),d] (λg g=>qx 1 b d g λb=>ao b
 (xR a d e f b .undef I0 m0 K g)
 (qx 1 c d g λc=>xR a d e f b c I0 m0 K g)) s
def xU:fJ:=λa b c d e f g h I0 m0 K s=>qt g h λg=>ao g
 (xT a b c d e f g .undef I0 m0 K s)
 (qd 2 e s λh=>qe false 0 true h cO λh=>xT a b c d e f g h I0 m0 K s)
def xV:fJ:=λa b c d e f g h I0 m0 K s=>qt g h λg=>ao g
 (xU a b c d e f g .undef I0 m0 K s)
 (qd 1 e s λh=>ax .gtr h (.int .u32 16777215) λh=>xU a b c d e f g h I0 m0 K s)
def O7:dC:=λa b c d e f I0 m0 K s=>ax .lss f e λe=>ao e
 (qi 6 d f λd=>aY s 6 d λd=>newK 161 lZ (λe g=>qc g 6 e (.agg d) λd=>qd 0 (.ptr e 0) d λg=>qd 3 a d λh=>qh h λh=>wC TP 180 [g,(.int .i64 h)] (λg h=>qj g λg=>ao g
 (xV a b c f (.ptr e 0) f g .undef I0 m0 K h)
 (qd 1 (.ptr e 0) h λi=>ax .lss i (.int .u32 1) λi=>xV a b c f (.ptr e 0) f g i I0 m0 K h)) d) s)
 (K (.tup []) s)
def D4:cz:=λa K s=>dR a 0 λa=>aY s 19 a λa=>newK 52 zR1 (λb c=>qc c 19 b (.agg a) λa=>qd 4 (.ptr b 0) a λc=>qh c λc=>ax .gtr (.int .i64 c) (qz 32) λc=>wC TP 176 [c,(qz 7),(.str ⟨#[100,111,109,97,105,110,115]⟩),(qz 32)] (λc c=>∃d:Hq,Sub d c/\
 qd 4 (.ptr b 0) d λe=>qd 4 (.ptr b 0) d λg=>wC TP 184 [e,(.fn (.func 185) [] [])] (λe h=>wC TP 184 [g,(.fn (.func 186) [] [])] (λg i=>qd 4 (.ptr b 0) i λj=>qh j λk=>bG [an] i (λf=>[f 28]) λI0 f s m0=>O7 (.ptr b 0) e g j (.int .i64 k) (f 28) I0 m0 K s) (add d h)) (lock c d)) a) s
def VX:Nat->List Nat:=anL [(3000002,[1]),(2000008,[0,1,3,4]),(2000009,[2]),(2000011,[5,6,7]),(8,[28])]
theorem VY:T1 149 D4:=wOK Tryz.func149 VX
def O8:lh:=λa b c d e f I4 m4 I0 m0 K s=>ax .lss f e λe=>ao e
 (qx 1 d f s λd=>oK (fj 32 1 a d) λe=>qr s e λe=>ax .add e aO λe=>oK (fj 32 1 a d) λg=>oK (wr1 s g e) λe=>oK (fj 32 1 a d) λa=>qr e a λa=>ax .gtr a (qz 32) λa=>wC TP 176 [a,(qz 7),(.str ⟨#[115,101,103,109,101,110,116,115]⟩),b] (λa a=>ax .add f aO λb=>aS m4 (I4 [b] a)) e)
 (ax .add c aO λa=>aS m0 (I0 [a] s))
def xW:dC:=λa b c d e g I0 m0 K s=>qt e g λe=>wC TP 176 [e,(qz 10),(.str ⟨#[115,101,103,109,101,110,116,115]⟩),b] (λe e=>qd 0 c e λc=>qh c λg=>bG [an] e (λf=>[f 66]) λI4 f s m4=>O8 a b d c (.int .i64 g) (f 66) I4 m4 I0 m0 K s) s
def xX:dC:=λa b c d e f I0 m0 K s=>qt e f λe=>wC TP 176 [e,(qz 2),(.str ⟨#[115,101,103,109,101,110,116,115]⟩),b] (λe e=>qd 0 c e λf=>wC TP 195 [f] (λf g=>qj f λf=>ao f
 (xW a b c d f .undef I0 m0 K g)
 (qd 1 c g λh=>wC TP 195 [h] (λh i=>qj h λh=>xW a b c d f h I0 m0 K i) g)) e) s
def xY:gI:=λa b c d e f g I0 m0 K s=>qt f g λf=>wC TP 176 [f,(qz 3),(.str ⟨#[115,101,103,109,101,110,116,115]⟩),c] (λf f=>qd 0 d f λg=>wC TP 129 [g,(.fn (.func 193) [] [a])] (λg h=>ao g
 (xX b c d e g .undef I0 m0 K h)
 (qd 1 d h λi=>wC TP 129 [i,(.fn (.func 194) [] [a])] (λa i=>xX b c d e g a I0 m0 K i) h)) f) s
def O9:cY:=λa b c d e I0 m0 K s=>ax .lss e d λd=>ao d
 (qi 2 c e λc=>aY s 2 c λc=>newK 163 [.nilslc,.nilslc] (λd f=>qc f 2 d (.agg c) λc=>qd 0 (.ptr d 0) c λf=>qh f λf=>qe false 0 true (.int .i64 f) an λf=>ao f
 (xY a b e (.ptr d 0) e f .undef I0 m0 K c)
 (qd 1 (.ptr d 0) c λg=>qh g λg=>qe false 0 true (.int .i64 g) an λg=>xY a b e (.ptr d 0) e f g I0 m0 K c)) s)
 (K (.tup []) s)
def VZ:cz:=λa K s=>dR a 0 λa=>aY s 19 a λa=>newK 52 zR1 (λb c=>qc c 19 b (.agg a) λa=>qd 5 (.ptr b 0) a λc=>qh c λc=>ax .gtr (.int .i64 c) (qz 64) λc=>wC TP 176 [c,(qz 7),(.str ⟨#[115,101,103,109,101,110,116,115]⟩),(qz 64)] (λc c=>newK 323 [an,an,an,an,an,an,an,an,an,an,an,an,an,an,an,an,an,an,an,an,an,an,an,an,an,an,an,an,an,an,an,an] (λd e=>qd 5 (.ptr b 0) e λg=>qh g λh=>bG [an] e (λf=>[f 21]) λI0 f s m0=>O9 (.ptr b 0) (.ptr d 0) g (.int .i64 h) (f 21) I0 m0 K s) c) a) s
def V0:Nat->List Nat:=anL [(8,[21]),(22,[66])]
theorem V1:T1 150 VZ:=wOK Tryz.func150 V0
def xZ:cY:=λa b c d e I0 m0 K s=>qp d e λd=>qt c d λc=>wC TP 176 [c,(qz 11),(.str ⟨#[104,111,115,116,115]⟩),a] (λa a=>ax .add b aO λb=>aS m0 (I0 [b] a)) s
def x5:gI:=λa b c d e f g I0 m0 K s=>qt f g λf=>wC TP 176 [f,(qz 3),(.str ⟨#[104,111,115,116,115]⟩),c] (λf f=>qx 1 a c f λa=>ao a
 (qt a .undef λg=>wC TP 176 [g,(qz 11),(.str ⟨#[104,111,115,116,115]⟩),c] (λg g=>ax .add e aO λh=>aS m0 (I0 [h] g)) f)
 (qd 1 d f λd=>qe true 0 true d cO λd=>ao d
 (qx 1 b c f λb=>xZ c e a d b I0 m0 K f)
 (xZ c e a d .undef I0 m0 K f))) s
def x8:fJ:=λa b c d e f g h I0 m0 K s=>qt g h λg=>ao g
 (x5 b c d e f g .undef I0 m0 K s)
 (qd 4 a s λa=>qd 2 e s λh=>qi 6 a h λa=>aY s 6 a λa=>qd 1 e s λh=>wC TP 202 [(.agg a),h] (λa h=>qj a λa=>x5 b c d e f g a I0 m0 K h) s)
def x9:fJ:=λa b c d e f g h I0 m0 K s=>qp g h λg=>wC TP 176 [g,(qz 8),(.str ⟨#[104,111,115,116,115]⟩),d] (λg g=>qd 0 e g λh=>wC TP 201 [h] (λh i=>qk h 0 λj=>qk h 1 λh=>qd 0 e i λj=>qe false 0 true j (.int .u64 1577058561) λj=>ao j
 (x8 a b c d e f j .undef I0 m0 K i)
 (x8 a b c d e f j h I0 m0 K i)) g) s
def ya:fJ:=λa b c d e f g h I0 m0 K s=>qt g h λg=>wC TP 176 [g,(qz 2),(.str ⟨#[104,111,115,116,115]⟩),d] (λg g=>qd 3 e g λh=>qe true 0 true h (.int .i64 (-1)) λh=>ao h
 (qd 5 a g λi=>qd 3 e g λj=>qw 2 i j 1 g λi=>qd 2 e g λj=>wC TP 200 [i,j] (λi j=>qj i λi=>x9 a b c d e f h i I0 m0 K j) g)
 (x9 a b c d e f h .undef I0 m0 K g)) s
def yb:fJ:=λa b c d e f g h I0 m0 K s=>qt g h λg=>wC TP 176 [g,(qz 2),(.str ⟨#[104,111,115,116,115]⟩),d] (λg g=>qd 2 e g λh=>qd 4 a g λi=>qh i λi=>wC TP 180 [h,(.int .i64 i)] (λh i=>qj h λh=>ao h
 (ya a b c d e f h .undef I0 m0 K i)
 (qd 3 e i λj=>qd 5 a i λk=>qh k λk=>ax .sub (.int .i64 k) aO λk=>wC TP 177 [j,(.int .i64 (-1)),k] (λj k=>ya a b c d e f h j I0 m0 K k) i)) g) s
def yc:fJ:=λa b c d e f g h I0 m0 K s=>qt g h λg=>ao g
 (yb a b c d e f g .undef I0 m0 K s)
 (qd 0 e s λh=>wC TP 199 [h] (λh i=>yb a b c d e f g h I0 m0 K i) s)
def Pa:dC:=λa b c d e f I0 m0 K s=>ax .lss f e λe=>ao e
 (qi 4 d f λd=>aY s 4 d λd=>newK 182 sK (λe g=>qc g 4 e (.agg d) λd=>qd 0 (.ptr e 0) d λg=>qe false 0 true g (.int .u64 0) λg=>ao g
 (yc a b c f (.ptr e 0) f g .undef I0 m0 K d)
 (qd 0 (.ptr e 0) d λh=>ax .gtr h (.int .u64 281474976710655) λh=>yc a b c f (.ptr e 0) f g h I0 m0 K d)) s)
 (K (.tup []) s)
def D5:cz:=λa K s=>dR a 0 λa=>aY s 19 a λa=>newK 52 zR1 (λb c=>qc c 19 b (.agg a) λa=>qd 6 (.ptr b 0) a λc=>qh c λc=>ax .gtr (.int .i64 c) (qz 128) λc=>wC TP 176 [c,(qz 7),(.str ⟨#[104,111,115,116,115]⟩),(qz 128)] (λc c=>qd 6 (.ptr b 0) c λd=>wC TP 196 [d,(.fn (.func 197) [] [])] (λd e=>qd 6 (.ptr b 0) e λg=>wC TP 196 [g,(.fn (.func 198) [] [])] (λg h=>qd 6 (.ptr b 0) h λi=>qh i λj=>bG [an] h (λf=>[f 28]) λI0 f s m0=>Pa (.ptr b 0) d g i (.int .i64 j) (f 28) I0 m0 K s) e) c) a) s
def V3:Nat->List Nat:=anL [(10,[28])]
theorem V4:T1 151 D5:=wOK Tryz.func151 V3
def yd:cY:=λa b c d e I0 m0 K s=>qt d e λd=>wC TP 176 [d,(qz 3),(.str ⟨#[108,101,97,107,115]⟩),b] (λd d=>qx 1 a b d λa=>wC TP 176 [a,(qz 11),(.str ⟨#[108,101,97,107,115]⟩),b] (λa a=>ax .add c aO λb=>aS m0 (I0 [b] a)) d) s
def ye:dC:=λa b c d e f I0 m0 K s=>qt e f λe=>wC TP 176 [e,(qz 2),(.str ⟨#[108,101,97,107,115]⟩),b] (λe e=>qd 0 c e λf=>qd 1 c e λg=>qe false 0 false f g λf=>ao f
 (yd a b d f .undef I0 m0 K e)
 (qf 2 c λc=>aY e 2 c λc=>wC TP 188 [(.agg c)] (λc g=>qj c λc=>yd a b d f c I0 m0 K g) e)) s
def Pb:cY:=λa b c d e I0 m0 K s=>ax .lss e d λd=>ao d
 (qi 4 c e λc=>aY s 4 c λc=>newK 186 [an,an,cO,an] (λd f=>qc f 4 d (.agg c) λc=>qd 0 (.ptr d 0) c λf=>qd 3 a c λg=>qh g λg=>wC TP 180 [f,(.int .i64 g)] (λf g=>qj f λf=>ao f
 (ye b e (.ptr d 0) e f .undef I0 m0 K g)
 (qd 1 (.ptr d 0) g λh=>qd 3 a g λa=>qh a λa=>wC TP 180 [h,(.int .i64 a)] (λa h=>qj a λa=>ye b e (.ptr d 0) e f a I0 m0 K h) g)) c) s)
 (K (.tup []) s)
def D6:cz:=λa K s=>dR a 0 λa=>aY s 19 a λa=>newK 52 zR1 (λb c=>qc c 19 b (.agg a) λa=>qd 7 (.ptr b 0) a λc=>qh c λc=>ax .gtr (.int .i64 c) (qz 256) λc=>wC TP 176 [c,(qz 7),(.str ⟨#[108,101,97,107,115]⟩),(qz 256)] (λc c=>qd 7 (.ptr b 0) c λd=>wC TP 203 [d,(.fn (.func 204) [] [])] (λd e=>qd 7 (.ptr b 0) e λg=>qh g λh=>bG [an] e (λf=>[f 24]) λI0 f s m0=>Pb (.ptr b 0) d g (.int .i64 h) (f 24) I0 m0 K s) c) a) s
def V5:Nat->List Nat:=anL [(10,[24])]
theorem V6:T1 152 D6:=wOK Tryz.func152 V5
def Pc:cA:=λa b c K s=>qe false 4 true .nilIface .nilIface λd=>ao d
 (K (.tup []) s)
 (oK (jW 235 (some (.agg [an,(.str ⟨#[]⟩),an])) true .nilIface) λd=>qk d 1 λe=>qk d 0 λd=>ao e
 (newK 235 [an,(.str ⟨#[]⟩),an] (λe f=>qc f 3 e d λd=>∃f:Hq,Sub f d/\
 qd 0 (.ptr e 0) f λg=>qd 1 (.ptr e 0) f λh=>qd 2 (.ptr e 0) f λe=>oK (wr1 (lock d f) a g) λd=>oK (wr1 d b h) λd=>oK (wr1 (add f d) c e) λd=>K (.tup []) d) s)
 (oK (wr1 s a (qz 3)) λa=>oK (wr1 a b (.str ⟨#[102,97,98,114,105,99]⟩)) λa=>oK (wr1 a c an) λa=>K (.tup []) a))
def Pd:Nat->List Nat:=anL [(3000007,[1]),(2000028,[0,1,2,3,4,5]),(2000029,[6,7]),(2000031,[8])]
theorem V7{t0 t1 t2:AV}{K:KvP}{s:Hq}(h:Pc t0 t1 t2 K s):kZ TP 115 [t0,t1,t2] (λs=>K (.tup []) s) s:=
 Oj Pd Tryz.func115 (by kernel_rfl:Tryz.f115.body=some (bH Tryz.f115)) (by kernel_rfl) (by kernel_rfl) (by kernel_rfl) (Eq.mpr (by kernel_rfl) h)
def Pe:fJ:=λa b c d e f g h I0 m0 K s=>ax .lss h g λg=>ao g
 (qx 1 f h s λf=>funK TP f [d] (λd d=>ax .add h aO λf=>aS m0 (I0 [f] d)) s)
 (oK (wr1 s a an) λd=>oK (wr1 d b (.str ⟨#[]⟩)) λd=>oK (wr1 d c an) λd=>runK TP e (λe=>qr e a λa=>qr e b λb=>qr e c λc=>K (.tup [a,b,c]) e) d)
def D7:cz:=λa K s=>boxK 52 a (λa b=>newK 31 [an] (λc d=>newK 9 [(.str ⟨#[]⟩)] (λe g=>newK 3 [an] (λh i=>nk TP (.fn (.func 115) [] [(.ptr c 0),(.ptr e 0),(.ptr h 0)])/\
 aY i 19 a λa=>oK (aM zR1 [(0,19,(.agg a))]) λa=>boxK 238 (.agg a) (λa j=>wC TP 116 [] (λk l=>qh k λm=>bG [an] l (λf=>[f 14]) λI0 f s m0=>Pe (.ptr c 0) (.ptr e 0) (.ptr h 0) a (.fn (.func 115) [] [(.ptr c 0),(.ptr e 0),(.ptr h 0)]) k (.int .i64 m) (f 14) I0 m0 K s) j) i) g) d) b) s
def V8:Nat->List Nat:=anL [(8,[14])]
theorem V9{t0:AV}{K:KvP}{s:Hq}(h:D7 t0 K s):wC TP 61 [t0] K s:=
 Om V8 Tryz.func61 (by kernel_rfl:Tryz.f61.body=some (bH Tryz.f61)) (by kernel_rfl) (Eq.mpr (by kernel_rfl) h)
end Go.AM
