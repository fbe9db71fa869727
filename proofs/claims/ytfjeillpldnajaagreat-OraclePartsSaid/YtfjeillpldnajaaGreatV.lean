/- Part V of the proof: see the last part. -/
import Derived.Test.YtfjeillpldnajaaGreatU2
import Derived.Test.YtfjeillpldnajaaGreatS
import Derived.Test.YtfjeillpldnajaaGreatProg
import Derived.KernelRfl
set_option linter.unusedVariables false
namespace Go.AM
open Go Go.Proofs
noncomputable abbrev TP:Program:=Tryz.prog
theorem wOK{P:Program}{X:Td}(hX:FrX X)(A:Nat->List Nat){n:FuncId}(hn:X n=none){f:Func}(h1:P.funcs[n]?=some f){args:List AV}{K:AV->Hq->Prop}{s:Hq}{Q:Prop}(h:Q)(hb:f.body=some (qBs f):=by kernel_rfl)(hl:Nat.ble args.length f.ntmps=true:=by kernel_rfl)(he:wpC P X A f.ntmps none (qBs f) (qJ3 args) (λe env s=>retK e (resK P f.results.toList env (λvs=>K (oneV vs) s) s)) s=Q:=by kernel_rfl):wC P X n args K s:=
  qSw hX A hn h1 hb hl (Eq.mpr he h)
def nA0:Nat->List Nat:=λ_=>[]
abbrev zR0:List AV:=[(.int .i64 0),(.int .u64 0),(.int .u8 0),(.int .u8 0),(.int .u8 0),(.int .u8 0),(.int .u8 0),(.int .u8 0),(.int .u8 0),(.int .u8 0),(.int .u8 0),(.int .u8 0),(.int .u32 0),(.int .u64 0),(.int .u32 0),(.bool false),(.int .u32 0),(.int .i64 0),(.int .u32 0),(.int .u32 0),(.int .u32 0),(.int .i64 0),.nilslc,(.int .u32 0),(.bool false),(.int .u32 0),(.bool false),(.int .u32 0),(.bool false),(.int .u32 0),.nilslc,.nilslc,(.int .i64 0),(.int .u32 0),(.int .u32 0),(.int .u32 0),(.int .u32 0),(.bool false)]
abbrev zR1:List AV:=[(.int .i64 0),(.int .i64 0),.nilslc,.nilslc,.nilslc,.nilslc,.nilslc,.nilslc,(.int .i64 0),(.int .i64 0),(.int .i64 0),(.bool false),(.bool false),(.int .i64 0),(.int .i64 0),(.int .i64 0),(.int .i64 0),(.int .i64 0),(.int .i64 0)]
abbrev IvP:=List AV->Hq->Nat->Prop
abbrev KvP:=AV->Hq->Prop
abbrev LvP:=List Nat->List AV->Hq->Prop
set_option maxRecDepth 100000
abbrev X0:Td:=qKw [12,3]
theorem qKi:FrX X0:=qPV _
abbrev SS:FuncId->Bool:=λk=>memN k [149,119,120,121,122,123,124,125,126]
noncomputable abbrev XL:Td:=limX TP X0 SS [70]
noncomputable abbrev XX:Td:=orX XL (orX (qRC 78) X0)
theorem qAu:FrX XX:=qYP (qYL qKi _) (qYP (qZA 78) qKi)
structure Fn0(Y:Td):Prop where
 fr:FrX Y
 no:∀k,memN k (78::70 :: [12,3])=false->Y k=none
theorem X0_h{k:Nat}(h:memN k (78::70 :: [12,3])=false):memN k [12,3]=false:=by unfold memN at h;cases e:Nat.beq k 78<;>rw[e]at h<;>first|(unfold memN at h;cases e:Nat.beq k 70<;>rw[e]at h<;>first|exact h|cases h)|cases h
theorem X0_0:Fn0 X0:=⟨qKi,λk h=>by show cond (memN k [12,3]) _ _=_;rw[X0_h h];rfl⟩
theorem XX_1{k:Nat}(h:memN k (78::70 :: [12,3])=false):memN k [70]=false:=by unfold memN at h;cases e:Nat.beq k 78<;>rw[e]at h<;>first|(unfold memN at h;cases e:Nat.beq k 70<;>rw[e]at h<;>first|(unfold memN;rw[e];rfl)|cases h)|cases h
theorem XX_2{k:Nat}(h:memN k (78::70 :: [12,3])=false):limX TP X0 SS [70] k=none:=by show cond (memN k [70]) _ _=_;rw[XX_1 h];rfl
theorem XX_3{k:Nat}(h:memN k (78::70 :: [12,3])=false):qRC 78 k=none:=by unfold memN at h;cases e:Nat.beq k 78<;>rw[e]at h<;>first|(unfold qRC;rw[e];rfl)|cases h
theorem XX_0:Fn0 XX:=⟨qAu,λk h=>by show(match limX TP X0 SS [70] k with|some g=>some g|none=>(match qRC 78 k with|some g=>some g|none=>X0 k))=none;rw[XX_2 h,XX_3 h];exact X0_0.no k h⟩
def qLf(X:Td)(t0 n1:AV)(K:KvP)(s:Hq):Prop:=
 oK (qAc t0) λV0=>oK (qAC 1 V0) λV1=>oK (rd1 s V1) λV2=>oK (qAc t0) λV3=>oK (qAC 0 V3) λV4=>oK (rd1 s V4) λV5=>oK (qAN V5) λV6=>oK (qAH .geq V2 (.int .i64 V6)) λV8=>qAK V8
 (K (.int .i64 0) s)
 (oK (qAc t0) λV9=>oK (qAC 1 V9) λV10=>oK (rd1 s V10) λV11=>oK (qAH .add V11 (.int .i64 1)) λV12=>oK (qAc t0) λV13=>oK (qAC 1 V13) λV14=>oK (wr1 s V14 V12) λS15=>oK (qAc t0) λV16=>oK (qAC 0 V16) λV17=>oK (rd1 S15 V17) λV18=>oK (qAc t0) λV19=>oK (qAC 1 V19) λV20=>oK (rd1 S15 V20) λV21=>oK (qAH .sub V21 (.int .i64 1)) λV22=>oK (qAT 1 V18 V22) λV23=>oK (rd1 S15 V23) λV24=>wC TP X 15 [V24,n1] (λV25 S26=>K V25 S26) S15)
theorem qMp{t0 n1:AV}{K:KvP}{s:Hq}(h:qLf XX t0 n1 K s):wC TP XX 48 [t0,n1] K s:=wOK qAu nA0 rfl Tryz.func48 h
def qJn(X:Td)(t6 h9:AV)(K:KvP)(s:Hq):Prop:=
 oK (rdN s 4 h9) λV39=>oK (qBA s 4 t6 (.agg V39)) λS40=>oK (rdN S40 4 t6) λt6_41=>K (.agg t6_41) S40
def qJf(X:Td)(t0 t6 h9:AV)(K:KvP)(s:Hq):Prop:=
 wC TP X 48 [t0,(.int .i64 10)] (λV36 S37=>oK (negB false (eqV 0 true V36 (.int .i64 9))) λV38=>qAK V38
 (oK (qAC 3 h9) λV42=>oK (wr1 S37 V42 (.int .i64 (-1))) λS43=>qJn X t6 h9 K S43)
 (qJn X t6 h9 K S37)) s
def qJx(X:Td)(t0 i2 t4 t6 h9 t41 t44:AV)(K:KvP)(s:Hq):Prop:=
 oK (qAO t41 t44 (.bool false)) λV35=>qAK V35
 (oK (qAC 4 t4) λV44=>oK (rd1 s V44) λV45=>oK (qAC 2 h9) λV46=>oK (rd1 s V46) λV47=>oK (qAT 6 V45 V47) λV48=>oK (qAC 3 V48) λV49=>oK (qAC 0 V49) λV50=>oK (rd1 s V50) λV51=>oK (qAH .add (.int .i64 10) i2) λV52=>oK (qDk .u32 V52) λV53=>oK (qAH .add V51 V53) λV54=>oK (qAC 1 h9) λV55=>oK (wr1 s V55 V54) λS56=>qJf X t0 t6 h9 K S56)
 (qJf X t0 t6 h9 K s)
def zACV(X:Td)(t0 t1 i2:AV)(K:KvP)(s:Hq):Prop:=
 boxK 31 t1 (λB0 S1=>newK 61 [(.int .u64 0),(.int .u32 0),(.int .i64 0),(.int .i64 0)] (λB2 S3=>oK (qAC 5 B0) λV4=>oK (rd1 S3 V4) λV5=>oK (qAN V5) λV6=>wC TP X 48 [t0,(.int .i64 V6)] (λV8 S9=>oK (qAC 5 B0) λV10=>oK (rd1 S9 V10) λV11=>oK (qAT 2 V11 V8) λV12=>oK (qAC 1 V12) λV13=>oK (rd1 S9 V13) λV14=>oK (qAH .add (.int .i64 2199023951872) i2) λV15=>oK (qDk .u64 V15) λV16=>oK (qAN V14) λV17=>wC TP X 48 [t0,(.int .i64 V17)] (λV19 S20=>oK (qAT 1 V14 V19) λV21=>oK (rd1 S20 V21) λV22=>oK (qBb [(.int .u64 0),(.int .u32 0),(.int .i64 0),(.int .i64 0)] [(0,1,V16),(2,1,V22),(3,1,V8)]) λC23=>newK 61 [(.int .u64 0),(.int .u32 0),(.int .i64 0),(.int .i64 0)] (λB24 S25=>oK (qBA S25 4 (.ptr B24 0) (.agg C23)) λS26=>oK (qAC 4 B0) λV27=>oK (rd1 S26 V27) λV28=>oK (qAC 2 (.ptr B24 0)) λV29=>oK (rd1 S26 V29) λV30=>oK (qAT 6 V28 V30) λV31=>oK (qAC 5 V31) λV32=>oK (rd1 S26 V32) λV33=>oK (negB true (eqV 0 true V33 (.int .u32 0))) λV34=>qAK V34
 (wC TP X 48 [t0,(.int .i64 6)] (λV57 S58=>oK (negB true (eqV 0 true V57 (.int .i64 5))) λV59=>qJx X t0 i2 B0 (.ptr B2 0) (.ptr B24 0) V34 V59 K S58) S26)
 (qJx X t0 i2 B0 (.ptr B2 0) (.ptr B24 0) V34 .undef K S26)) S20) S9) S3) S1) s
theorem qWJ{t0 t1 i2:AV}{K:KvP}{s:Hq}(h:zACV XX t0 t1 i2 K s):wC TP XX 52 [t0,t1,i2] K s:=wOK qAu nA0 rfl Tryz.func52 h
def zAAb(X:Td)(x0 n1:AV)(K:KvP)(s:Hq):Prop:=
 oK (qAH .leq n1 (.int .i64 0)) λV0=>qAK V0
 (K (.int .i64 0) s)
 (oK (qAH .rem x0 n1) λV1=>oK (qAH .add V1 n1) λV2=>oK (qAH .rem V2 n1) λV3=>K V3 s)
theorem qWi{x0 n1:AV}{K:KvP}{s:Hq}(h:zAAb XX x0 n1 K s):wC TP XX 15 [x0,n1] K s:=wOK qAu nA0 rfl Tryz.func15 h
def qRo(X:Td)(K:KvP)(s:Hq):Prop:=
 oK (qBb (repl 8 [.nilFunc]) [(0,1,(.fn (.func 119) [] [])),(1,1,(.fn (.func 120) [] [])),(2,1,(.fn (.func 121) [] [])),(3,1,(.fn (.func 122) [] [])),(4,1,(.fn (.func 123) [] [])),(5,1,(.fn (.func 124) [] [])),(6,1,(.fn (.func 125) [] [])),(7,1,(.fn (.func 126) [] []))]) λC0=>qAd C0=true/\newK 162 C0 (λB1 S2=>K (.slc B1 0 8 (some 8) 1) S2) s
theorem qR9{X:Td}(hX:FrX X)(hn:X 98=none){K:KvP}{s:Hq}(h:qRo X K s):wC TP X 98 [] K s:=
 wOK hX nA0 hn Tryz.func98 h
def qLX(X:Td)(t10 t13:AV)(K:KvP)(s:Hq):Prop:=
 oK (qAO t10 (.bool true) t13) λV1=>K V1 s
def qPi(X:Td)(n0 x1 high2:AV)(K:KvP)(s:Hq):Prop:=
 oK (qAH .lss n0 x1) λV0=>qAK V0
 (qLX X V0 .undef K s)
 (oK (qAH .gtr n0 high2) λV2=>qLX X V0 V2 K s)
theorem qQr{X:Td}(hX:FrX X)(hn:X 150=none){n0 x1 high2:AV}{K:KvP}{s:Hq}(h:qPi X n0 x1 high2 K s):wC TP X 150 [n0,x1,high2] K s:=
 wOK hX nA0 hn Tryz.func150 h
def qEV(X:Td)(x1 x5 x6 t16 t17 t18:AV)(I0:IvP)(m0:Nat)(K:KvP)(s:Hq):Prop:=
 oK (qAH .lss t18 t17) λV12=>qAK V12
 (oK (qAT 3 t16 t18) λV13=>oK (rdN s 3 V13) λV14=>newK 91 [(.int .i64 0),(.int .i64 0),(.int .i64 0)] (λB15 S16=>oK (qBA S16 3 (.ptr B15 0) (.agg V14)) λS17=>oK (rdN S17 3 (.ptr B15 0)) λV18=>funK TP X x1 [(.agg V18)] (λV19 S20=>newK 199 [(.int .i64 0),(.int .i64 0)] (λB21 S22=>oK (qBA S22 2 (.ptr B21 0) V19) λS23=>oK (rdN S23 2 (.ptr B21 0)) λV24=>oK (getG TP 199 S23 x5 (.agg V24)) λr_25=>oK (qAT 1 x6 t18) λV26=>oK (wr1 S23 V26 (retM (.bool false) false r_25)) λS27=>oK (rdN S27 2 (.ptr B21 0)) λV28=>oK (putG TP 199 S27 x5 (.agg V28) (.bool true)) λS29=>oK (qAH .add t18 (.int .i64 1)) λV30=>∃m',m'<m0/\I0 [V30] S29 m') S20) S17) s)
 (K x6 s)
def qGJ(X:Td)(l0 x1:AV)(K:KvP)(s:Hq):Prop:=
 oK (qAN l0) λV0=>intK (.int .i64 V0) (mapK (λV2 S3=>oK (qAN l0) λV4=>oK (nat? (.int .i64 V4)) λn_6=>oK (nat? (.int .i64 V4)) λn_7=>(n_6<=n_7/\n_7<=4294967296)/\newK 4 (repl n_7 [(.bool false)]) (λB8 S9=>oK (qAN l0) λV10=>∃I0:IvP,(∃m,I0 [(.int .i64 0)] S9 m)/\∀(f:Env) (s:Hq) (m0:Nat),I0 [f 18] s m0->
 qEV X x1 V2 (.slc B8 0 n_6 (some n_7) 1) l0 (.int .i64 V10) (f 18) I0 m0 K s) S3) s)
def qHp:Nat->List Nat:=λk=>cond (Nat.beq k 8) [18] ([])
theorem qIk{X:Td}(hX:FrX X)(hn:X 151=none){l0 x1:AV}{K:KvP}{s:Hq}(h:qGJ X l0 x1 K s):wC TP X 151 [l0,x1] K s:=
 wOK hX qHp hn Tryz.func151 h
def qWM(X:Td)(l0:AV)(K:KvP)(s:Hq):Prop:=
 boxK 91 l0 (λB0 S1=>newK 199 [(.int .i64 0),(.int .i64 0)] (λB2 S3=>oK (qAC 0 B0) λV4=>oK (rd1 S3 V4) λV5=>oK (qAC 1 B0) λV6=>oK (rd1 S3 V6) λV7=>oK (qBb [(.int .i64 0),(.int .i64 0)] [(0,1,V5),(1,1,V7)]) λC8=>oK (qBA S3 2 (.ptr B2 0) (.agg C8)) λS9=>oK (rdN S9 2 (.ptr B2 0)) λt2_10=>K (.agg t2_10) S9) S1) s
theorem qQX{X:Td}(hX:FrX X)(hn:X 152=none){l0:AV}{K:KvP}{s:Hq}(h:qWM X l0 K s):wC TP X 152 [l0] K s:=
 wOK hX nA0 hn Tryz.func152 h
def qD1(X:Td)(x1 x5 x6 t16 t17 t18:AV)(I0:IvP)(m0:Nat)(K:KvP)(s:Hq):Prop:=
 oK (qAH .lss t18 t17) λV12=>qAK V12
 (oK (qAT 2 t16 t18) λV13=>oK (rdN s 2 V13) λV14=>newK 93 [(.int .u32 0),(.int .u32 0)] (λB15 S16=>oK (qBA S16 2 (.ptr B15 0) (.agg V14)) λS17=>oK (rdN S17 2 (.ptr B15 0)) λV18=>funK TP X x1 [(.agg V18)] (λV19 S20=>oK (getM S20 x5 V19) λr_21=>oK (qAT 1 x6 t18) λV22=>oK (wr1 S20 V22 (retM (.bool false) false r_21)) λS23=>oK (putM S23 x5 V19 (.bool true)) λS24=>oK (qAH .add t18 (.int .i64 1)) λV25=>∃m',m'<m0/\I0 [V25] S24 m') S17) s)
 (K x6 s)
def qFC(X:Td)(l0 x1:AV)(K:KvP)(s:Hq):Prop:=
 oK (qAN l0) λV0=>intK (.int .i64 V0) (mapK (λV2 S3=>oK (qAN l0) λV4=>oK (nat? (.int .i64 V4)) λn_6=>oK (nat? (.int .i64 V4)) λn_7=>(n_6<=n_7/\n_7<=4294967296)/\newK 4 (repl n_7 [(.bool false)]) (λB8 S9=>oK (qAN l0) λV10=>∃I0:IvP,(∃m,I0 [(.int .i64 0)] S9 m)/\∀(f:Env) (s:Hq) (m0:Nat),I0 [f 18] s m0->
 qD1 X x1 V2 (.slc B8 0 n_6 (some n_7) 1) l0 (.int .i64 V10) (f 18) I0 m0 K s) S3) s)
def qGx:Nat->List Nat:=λk=>cond (Nat.beq k 8) [18] ([])
theorem qHd{X:Td}(hX:FrX X)(hn:X 154=none){l0 x1:AV}{K:KvP}{s:Hq}(h:qFC X l0 x1 K s):wC TP X 154 [l0,x1] K s:=
 wOK hX qGx hn Tryz.func154 h
def qRw(X:Td)(t0:AV)(K:KvP)(s:Hq):Prop:=
 boxK 93 t0 (λB0 S1=>oK (qAC 0 B0) λV2=>oK (rd1 S1 V2) λV3=>K V3 S1) s
theorem qNi{X:Td}(hX:FrX X)(hn:X 155=none){t0:AV}{K:KvP}{s:Hq}(h:qRw X t0 K s):wC TP X 155 [t0] K s:=
 wOK hX nA0 hn Tryz.func155 h
def qOE(X:Td)(t0:AV)(K:KvP)(s:Hq):Prop:=
 boxK 93 t0 (λB0 S1=>oK (qAC 1 B0) λV2=>oK (rd1 S1 V2) λV3=>K V3 S1) s
theorem qLV{X:Td}(hX:FrX X)(hn:X 156=none){t0:AV}{K:KvP}{s:Hq}(h:qOE X t0 K s):wC TP X 156 [t0] K s:=
 wOK hX nA0 hn Tryz.func156 h
def qFV(X:Td)(x1 x5 x6 t16 t17 t18:AV)(I0:IvP)(m0:Nat)(K:KvP)(s:Hq):Prop:=
 oK (qAH .lss t18 t17) λV12=>qAK V12
 (oK (qAT 6 t16 t18) λV13=>oK (rdN s 6 V13) λV14=>newK 69 [(.int .i64 0),(.int .u32 0),(.int .u32 0),(.int .u32 0),(.int .i64 0),(.int .u32 0)] (λB15 S16=>oK (qBA S16 6 (.ptr B15 0) (.agg V14)) λS17=>oK (rdN S17 6 (.ptr B15 0)) λV18=>funK TP X x1 [(.agg V18)] (λV19 S20=>oK (getM S20 x5 V19) λr_21=>oK (qAT 1 x6 t18) λV22=>oK (wr1 S20 V22 (retM (.bool false) false r_21)) λS23=>oK (putM S23 x5 V19 (.bool true)) λS24=>oK (qAH .add t18 (.int .i64 1)) λV25=>∃m',m'<m0/\I0 [V25] S24 m') S17) s)
 (K x6 s)
def qHj(X:Td)(l0 x1:AV)(K:KvP)(s:Hq):Prop:=
 oK (qAN l0) λV0=>intK (.int .i64 V0) (mapK (λV2 S3=>oK (qAN l0) λV4=>oK (nat? (.int .i64 V4)) λn_6=>oK (nat? (.int .i64 V4)) λn_7=>(n_6<=n_7/\n_7<=4294967296)/\newK 4 (repl n_7 [(.bool false)]) (λB8 S9=>oK (qAN l0) λV10=>∃I0:IvP,(∃m,I0 [(.int .i64 0)] S9 m)/\∀(f:Env) (s:Hq) (m0:Nat),I0 [f 18] s m0->
 qFV X x1 V2 (.slc B8 0 n_6 (some n_7) 1) l0 (.int .i64 V10) (f 18) I0 m0 K s) S3) s)
def qJW:Nat->List Nat:=λk=>cond (Nat.beq k 8) [18] ([])
theorem qJ9{X:Td}(hX:FrX X)(hn:X 157=none){l0 x1:AV}{K:KvP}{s:Hq}(h:qHj X l0 x1 K s):wC TP X 157 [l0,x1] K s:=
 wOK hX qJW hn Tryz.func157 h
def qR3(X:Td)(b0:AV)(K:KvP)(s:Hq):Prop:=
 boxK 69 b0 (λB0 S1=>oK (qAC 1 B0) λV2=>oK (rd1 S1 V2) λV3=>K V3 S1) s
theorem qOR{X:Td}(hX:FrX X)(hn:X 158=none){b0:AV}{K:KvP}{s:Hq}(h:qR3 X b0 K s):wC TP X 158 [b0] K s:=
 wOK hX nA0 hn Tryz.func158 h
def qOd(X:Td)(b0:AV)(K:KvP)(s:Hq):Prop:=
 boxK 69 b0 (λB0 S1=>oK (qAC 2 B0) λV2=>oK (rd1 S1 V2) λV3=>K V3 S1) s
theorem qLC{X:Td}(hX:FrX X)(hn:X 159=none){b0:AV}{K:KvP}{s:Hq}(h:qOd X b0 K s):wC TP X 159 [b0] K s:=
 wOK hX nA0 hn Tryz.func159 h
def qHF(X:Td)(l0 x1 k2:AV)(K:KvP)(s:Hq):Prop:=
 boxK 202 x1 (λB0 S1=>boxK 41 k2 (λB2 S3=>wC TP X 190 [l0,(.fn (.func 191) [] [B0,B2])] (λV4 S5=>K V4 S5) S3) S1) s
theorem qFl{X:Td}(hX:FrX X)(hn:X 160=none){l0 x1 k2:AV}{K:KvP}{s:Hq}(h:qHF X l0 x1 k2 K s):wC TP X 160 [l0,x1,k2] K s:=
 wOK hX nA0 hn Tryz.func160 h
def qN1(X:Td)(t12 t15:AV)(K:KvP)(s:Hq):Prop:=
 oK (qAO t12 t15 (.bool false)) λV11=>K V11 s
def qY8(X:Td)(p0:AV)(K:KvP)(s:Hq):Prop:=
 boxK 67 p0 (λB0 S1=>oK (rdN S1 2 B0) λV2=>wC TP X 192 [(.agg V2)] (λV3 S4=>oK (qAl V3 0) λV5=>oK (qAl V3 1) λV6=>newK 67 [(.int .u32 0),(.int .i64 0)] (λB7 S8=>oK (qBA S8 2 (.ptr B7 0) V5) λS9=>oK (negB false (eqV 0 true V6 (.int .i64 0))) λV10=>qAK V10
 (oK (rdN S9 2 (.ptr B7 0)) λV12=>oK (rdN S9 2 B0) λV13=>oK (negB false (qGP TP 67 (.agg V12) (.agg V13))) λV14=>qN1 X V10 V14 K S9)
 (qN1 X V10 .undef K S9)) S4) S1) s
theorem qTn{X:Td}(hX:FrX X)(hn:X 161=none){p0:AV}{K:KvP}{s:Hq}(h:qY8 X p0 K s):wC TP X 161 [p0] K s:=
 wOK hX nA0 hn Tryz.func161 h
def qKv(X:Td)(t23 t26:AV)(K:KvP)(s:Hq):Prop:=
 oK (qAO t23 t26 (.bool false)) λV14=>K V14 s
def qKf(X:Td)(x1 x5 t17 t21:AV)(K:KvP)(s:Hq):Prop:=
 oK (qAO t17 t21 (.bool false)) λV13=>qAK V13
 (oK (negB true (eqV 0 false x1 x5)) λV15=>qKv X V13 V15 K s)
 (qKv X V13 .undef K s)
def qZq(X:Td)(p0 x1:AV)(K:KvP)(s:Hq):Prop:=
 boxK 67 p0 (λB0 S1=>oK (qAC 0 B0) λV2=>oK (rd1 S1 V2) λV3=>oK (qAC 1 B0) λV4=>oK (rd1 S1 V4) λV5=>oK (qAH .sub (.int .i64 32) V5) λV6=>oK (qGt .shl (.int .u32 1) V6) λV7=>oK (qAH .sub V7 (.int .u32 1)) λV8=>oK (qAH .or V3 V8) λV9=>oK (rdN S1 2 B0) λV10=>wC TP X 84 [(.agg V10),x1] (λV11 S12=>qAK V11
 (oK (qAC 0 B0) λV16=>oK (rd1 S12 V16) λV17=>oK (negB true (eqV 0 false x1 V17)) λV18=>qKf X x1 V9 V11 V18 K S12)
 (qKf X x1 V9 V11 .undef K S12)) S1) s
theorem qTk{X:Td}(hX:FrX X)(hn:X 162=none){p0 x1:AV}{K:KvP}{s:Hq}(h:qZq X p0 x1 K s):wC TP X 162 [p0,x1] K s:=
 wOK hX nA0 hn Tryz.func162 h
def qCg(X:Td)(t0 t1:AV)(K:KvP)(s:Hq):Prop:=
 wC TP X 193 [t0,t1] (λV0 S1=>oK (qAH .geq V0 (.int .i64 0)) λV2=>K V2 S1) s
theorem qDl{X:Td}(hX:FrX X)(hn:X 163=none){t0 t1:AV}{K:KvP}{s:Hq}(h:qCg X t0 t1 K s):wC TP X 163 [t0,t1] K s:=
 wOK hX nA0 hn Tryz.func163 h
def qJS(X:Td)(t14 t21 t27:AV)(K:KvP)(s:Hq):Prop:=
 oK (qAO t21 (.bool true) t27) λV15=>oK (qAO t14 V15 (.bool false)) λV16=>K V16 s
def qEG(X:Td)(t1 x2 t9 t12:AV)(K:KvP)(s:Hq):Prop:=
 oK (qAO t9 t12 (.bool false)) λV7=>qAK V7
 (oK (qAC 3 x2) λV8=>oK (rdN s 2 V8) λV9=>oK (qAC 3 t1) λV10=>oK (qAC 0 V10) λV11=>oK (rd1 s V11) λV12=>wC TP X 84 [(.agg V9),V12] (λV13 S14=>qAK V13
 (qJS X V7 V13 .undef K S14)
 (oK (qAC 3 t1) λV17=>oK (rdN S14 2 V17) λV18=>oK (qAC 3 x2) λV19=>oK (qAC 0 V19) λV20=>oK (rd1 S14 V20) λV21=>wC TP X 84 [(.agg V18),V21] (λV22 S23=>qJS X V7 V13 V22 K S23) S14)) s)
 (oK (qAO V7 .undef (.bool false)) λV24=>K V24 s)
def qRl(X:Td)(x0 t1:AV)(K:KvP)(s:Hq):Prop:=
 boxK 69 x0 (λB0 S1=>oK (qAC 0 B0) λV2=>oK (rd1 S1 V2) λV3=>oK (qAC 0 t1) λV4=>oK (rd1 S1 V4) λV5=>oK (negB false (eqV 0 false V3 V5)) λV6=>qAK V6
 (oK (qAC 5 B0) λV25=>oK (rd1 S1 V25) λV26=>oK (negB true (eqV 0 true V26 (.int .u32 0))) λV27=>qEG X t1 B0 V6 V27 K S1)
 (qEG X t1 B0 V6 .undef K S1)) s
theorem qOQ{X:Td}(hX:FrX X)(hn:X 164=none){x0 t1:AV}{K:KvP}{s:Hq}(h:qRl X x0 t1 K s):wC TP X 164 [x0,t1] K s:=
 wOK hX nA0 hn Tryz.func164 h
def qM2(X:Td)(p0 x1:AV)(K:KvP)(s:Hq):Prop:=
 boxK 67 p0 (λB0 S1=>oK (rdN S1 2 B0) λV2=>wC TP X 105 [(.agg V2)] (λV3 S4=>qAK V3
 (oK (qAC 0 B0) λV5=>oK (rd1 S4 V5) λV6=>oK (qAH .xor V6 x1) λV7=>oK (qAC 1 B0) λV8=>oK (rd1 S4 V8) λV9=>wC TP X 106 [V9] (λV10 S11=>(∀b,S4 b≠none->S4 b=none->S11 b=none)->
 oK (qAH .and V7 V10) λV12=>oK (negB false (eqV 0 true V12 (.int .u32 0))) λV13=>oK (qAO V3 V13 (.bool false)) λV14=>K V14 (add S4 S11)) (frz S4))
 (oK (qAO V3 .undef (.bool false)) λV15=>K V15 S4)) S1) s
theorem qKV{X:Td}(hX:FrX X)(hn:X 84=none){p0 x1:AV}{K:KvP}{s:Hq}(h:qM2 X p0 x1 K s):wC TP X 84 [p0,x1] K s:=
 wOK hX nA0 hn Tryz.func84 h
def qDS(X:Td)(t0 t1:AV)(K:KvP)(s:Hq):Prop:=
 wC TP X 102 [t0,t1] (λV0 S1=>oK (qAH .geq V0 (.int .i64 0)) λV2=>K V2 S1) s
theorem qFI{X:Td}(hX:FrX X)(hn:X 114=none){t0 t1:AV}{K:KvP}{s:Hq}(h:qDS X t0 t1 K s):wC TP X 114 [t0,t1] K s:=
 wOK hX nA0 hn Tryz.func114 h
def qLP(X:Td)(n0 t1:AV)(K:KvP)(s:Hq):Prop:=
 oK (qAC 0 t1) λV0=>oK (rd1 s V0) λV1=>wC TP X 153 [n0,V1] (λV2 S3=>oK (qAi .not V2) λV4=>K V4 S3) s
theorem qM5{X:Td}(hX:FrX X)(hn:X 165=none){n0 t1:AV}{K:KvP}{s:Hq}(h:qLP X n0 t1 K s):wC TP X 165 [n0,t1] K s:=
 wOK hX nA0 hn Tryz.func165 h
def qKz(X:Td)(b0 t1:AV)(K:KvP)(s:Hq):Prop:=
 oK (qAC 4 t1) λV0=>oK (rd1 s V0) λV1=>oK (qAN V1) λV2=>wC TP X 153 [b0,(.int .i64 V2)] (λV4 S5=>oK (qAi .not V4) λV6=>K V6 S5) s
theorem qMo{X:Td}(hX:FrX X)(hn:X 166=none){b0 t1:AV}{K:KvP}{s:Hq}(h:qKz X b0 t1 K s):wC TP X 166 [b0,t1] K s:=
 wOK hX nA0 hn Tryz.func166 h
def qJB(X:Td)(l0 i3:AV)(I0:IvP)(m0:Nat)(K:KvP)(s:Hq):Prop:=
 oK (qAN l0) λV0=>oK (qAH .lss i3 (.int .i64 V0)) λV2=>qAK V2
 (oK (qAT 1 l0 i3) λV3=>oK (rd1 s V3) λV4=>oK (qAH .sub i3 (.int .i64 1)) λV5=>oK (qAT 1 l0 V5) λV6=>oK (rd1 s V6) λV7=>oK (qAH .leq V4 V7) λV8=>qAK V8
 (K (.bool false) s)
 (oK (qAH .add i3 (.int .i64 1)) λV9=>∃m',m'<m0/\I0 [V9] s m'))
 (K (.bool true) s)
def qMn(X:Td)(l0:AV)(K:KvP)(s:Hq):Prop:=
 ∃I0:IvP,(∃m,I0 [(.int .i64 1)] s m)/\∀(f:Env) (s:Hq) (m0:Nat),I0 [f 3] s m0->
 qJB X l0 (f 3) I0 m0 K s
def qM4:Nat->List Nat:=λk=>cond (Nat.beq k 4) [3] ([])
theorem qOF{X:Td}(hX:FrX X)(hn:X 167=none){l0:AV}{K:KvP}{s:Hq}(h:qMn X l0 K s):wC TP X 167 [l0] K s:=
 wOK hX qM4 hn Tryz.func167 h
def qDA(X:Td)(x1 x5 x6 t16 t17 t18:AV)(I0:IvP)(m0:Nat)(K:KvP)(s:Hq):Prop:=
 oK (qAH .lss t18 t17) λV12=>qAK V12
 (oK (qAT 4 t16 t18) λV13=>oK (rdN s 4 V13) λV14=>newK 61 [(.int .u64 0),(.int .u32 0),(.int .i64 0),(.int .i64 0)] (λB15 S16=>oK (qBA S16 4 (.ptr B15 0) (.agg V14)) λS17=>oK (rdN S17 4 (.ptr B15 0)) λV18=>funK TP X x1 [(.agg V18)] (λV19 S20=>newK 212 [(.int .i64 0),(.int .u64 0)] (λB21 S22=>oK (qBA S22 2 (.ptr B21 0) V19) λS23=>oK (rdN S23 2 (.ptr B21 0)) λV24=>oK (getG TP 212 S23 x5 (.agg V24)) λr_25=>oK (qAT 1 x6 t18) λV26=>oK (wr1 S23 V26 (retM (.bool false) false r_25)) λS27=>oK (rdN S27 2 (.ptr B21 0)) λV28=>oK (putG TP 212 S27 x5 (.agg V28) (.bool true)) λS29=>oK (qAH .add t18 (.int .i64 1)) λV30=>∃m',m'<m0/\I0 [V30] S29 m') S20) S17) s)
 (K x6 s)
def qDi(X:Td)(l0 x1:AV)(K:KvP)(s:Hq):Prop:=
 oK (qAN l0) λV0=>intK (.int .i64 V0) (mapK (λV2 S3=>oK (qAN l0) λV4=>oK (nat? (.int .i64 V4)) λn_6=>oK (nat? (.int .i64 V4)) λn_7=>(n_6<=n_7/\n_7<=4294967296)/\newK 4 (repl n_7 [(.bool false)]) (λB8 S9=>oK (qAN l0) λV10=>∃I0:IvP,(∃m,I0 [(.int .i64 0)] S9 m)/\∀(f:Env) (s:Hq) (m0:Nat),I0 [f 18] s m0->
 qDA X x1 V2 (.slc B8 0 n_6 (some n_7) 1) l0 (.int .i64 V10) (f 18) I0 m0 K s) S3) s)
def qFK:Nat->List Nat:=λk=>cond (Nat.beq k 8) [18] ([])
theorem qFa{X:Td}(hX:FrX X)(hn:X 168=none){l0 x1:AV}{K:KvP}{s:Hq}(h:qDi X l0 x1 K s):wC TP X 168 [l0,x1] K s:=
 wOK hX qFK hn Tryz.func168 h
def qWG(X:Td)(h0:AV)(K:KvP)(s:Hq):Prop:=
 boxK 61 h0 (λB0 S1=>newK 212 [(.int .i64 0),(.int .u64 0)] (λB2 S3=>oK (qAC 2 B0) λV4=>oK (rd1 S3 V4) λV5=>oK (qAC 0 B0) λV6=>oK (rd1 S3 V6) λV7=>oK (qBb [(.int .i64 0),(.int .u64 0)] [(0,1,V5),(1,1,V7)]) λC8=>oK (qBA S3 2 (.ptr B2 0) (.agg C8)) λS9=>oK (rdN S9 2 (.ptr B2 0)) λt2_10=>K (.agg t2_10) S9) S1) s
theorem qPw{X:Td}(hX:FrX X)(hn:X 169=none){h0:AV}{K:KvP}{s:Hq}(h:qWG X h0 K s):wC TP X 169 [h0] K s:=
 wOK hX nA0 hn Tryz.func169 h
def qU4(X:Td)(h0:AV)(K:KvP)(s:Hq):Prop:=
 boxK 61 h0 (λB0 S1=>newK 212 [(.int .i64 0),(.int .u64 0)] (λB2 S3=>oK (qAC 2 B0) λV4=>oK (rd1 S3 V4) λV5=>oK (qAC 1 B0) λV6=>oK (rd1 S3 V6) λV7=>oK (qDk .u64 V7) λV8=>oK (qBb [(.int .i64 0),(.int .u64 0)] [(0,1,V5),(1,1,V8)]) λC9=>oK (qBA S3 2 (.ptr B2 0) (.agg C9)) λS10=>oK (rdN S10 2 (.ptr B2 0)) λt2_11=>K (.agg t2_11) S10) S1) s
theorem qQ4{X:Td}(hX:FrX X)(hn:X 170=none){h0:AV}{K:KvP}{s:Hq}(h:qU4 X h0 K s):wC TP X 170 [h0] K s:=
 wOK hX nA0 hn Tryz.func170 h
def qFU(X:Td)(t5 t9:AV)(K:KvP)(s:Hq):Prop:=
 oK (qAO t5 t9 (.bool false)) λV1=>K V1 s
def qHl(X:Td)(t0:AV)(K:KvP)(s:Hq):Prop:=
 oK (qAH .leq t0 (.int .u64 281474976710655)) λV0=>qAK V0
 (oK (qGt .shr t0 (.int .u64 40)) λV2=>oK (qAH .and V2 (.int .u64 1)) λV3=>oK (negB true (eqV 0 true V3 (.int .u64 0))) λV4=>qFU X V0 V4 K s)
 (qFU X V0 .undef K s)
theorem qKE{X:Td}(hX:FrX X)(hn:X 21=none){t0:AV}{K:KvP}{s:Hq}(h:qHl X t0 K s):wC TP X 21 [t0] K s:=
 wOK hX nA0 hn Tryz.func21 h
def qEY(X:Td)(t0 v1:AV)(K:KvP)(s:Hq):Prop:=
 wC TP X 101 [t0,v1] (λV0 S1=>oK (qAH .geq V0 (.int .i64 0)) λV2=>K V2 S1) s
theorem qHE{X:Td}(hX:FrX X)(hn:X 72=none){t0 v1:AV}{K:KvP}{s:Hq}(h:qEY X t0 v1 K s):wC TP X 72 [t0,v1] K s:=
 wOK hX nA0 hn Tryz.func72 h
def qCS(X:Td)(t0 t6 t8:AV)(K:KvP)(s:Hq):Prop:=
 oK (qAO t6 (.bool true) t8) λV1=>qAK V1
 (K (.tup [(.int .i64 0),(.bool false)]) s)
 (oK (qAH .sub t0 (.int .u64 2199023255552)) λV2=>oK (qDk .i64 V2) λV3=>K (.tup [V3,(.bool true)]) s)
def qGd(X:Td)(t0:AV)(K:KvP)(s:Hq):Prop:=
 oK (qAH .lss t0 (.int .u64 2199023255552)) λV0=>qAK V0
 (qCS X t0 V0 .undef K s)
 (oK (qAH .geq t0 (.int .u64 2199023255584)) λV4=>qCS X t0 V0 V4 K s)
theorem qJF{X:Td}(hX:FrX X)(hn:X 171=none){t0:AV}{K:KvP}{s:Hq}(h:qGd X t0 K s):wC TP X 171 [t0] K s:=
 wOK hX nA0 hn Tryz.func171 h
def qJX(X:Td)(t16 t20:AV)(K:KvP)(s:Hq):Prop:=
 oK (qAO t16 t20 (.bool false)) λV7=>K V7 s
def qEJ(X:Td)(x1 b2 t10 t14:AV)(K:KvP)(s:Hq):Prop:=
 oK (qAO t10 t14 (.bool false)) λV6=>qAK V6
 (oK (qAC 3 b2) λV8=>oK (rdN s 2 V8) λV9=>wC TP X 162 [(.agg V9),x1] (λV10 S11=>qJX X V6 V10 K S11) s)
 (qJX X V6 .undef K s)
def qR2(X:Td)(b0 x1:AV)(K:KvP)(s:Hq):Prop:=
 boxK 69 b0 (λB0 S1=>oK (negB false (eqV 0 true x1 (.int .u32 0))) λV2=>qAK V2
 (K (.bool true) S1)
 (oK (qAC 5 B0) λV3=>oK (rd1 S1 V3) λV4=>oK (negB true (eqV 0 true V4 (.int .u32 0))) λV5=>qAK V5
 (oK (qAC 5 B0) λV12=>oK (rd1 S1 V12) λV13=>oK (negB true (eqV 0 false x1 V13)) λV14=>qEJ X x1 B0 V5 V14 K S1)
 (qEJ X x1 B0 V5 .undef K S1))) s
theorem qNm{X:Td}(hX:FrX X)(hn:X 172=none){b0 x1:AV}{K:KvP}{s:Hq}(h:qR2 X b0 x1 K s):wC TP X 172 [b0,x1] K s:=
 wOK hX nA0 hn Tryz.func172 h
def qDr(X:Td)(x1 x5 x6 t16 t17 t18:AV)(I0:IvP)(m0:Nat)(K:KvP)(s:Hq):Prop:=
 oK (qAH .lss t18 t17) λV12=>qAK V12
 (oK (qAT 4 t16 t18) λV13=>oK (rdN s 4 V13) λV14=>newK 118 [(.int .i64 0),(.int .i64 0),(.int .u32 0),(.int .i64 0)] (λB15 S16=>oK (qBA S16 4 (.ptr B15 0) (.agg V14)) λS17=>oK (rdN S17 4 (.ptr B15 0)) λV18=>funK TP X x1 [(.agg V18)] (λV19 S20=>newK 118 [(.int .i64 0),(.int .i64 0),(.int .u32 0),(.int .i64 0)] (λB21 S22=>oK (qBA S22 4 (.ptr B21 0) V19) λS23=>oK (rdN S23 4 (.ptr B21 0)) λV24=>oK (getG TP 118 S23 x5 (.agg V24)) λr_25=>oK (qAT 1 x6 t18) λV26=>oK (wr1 S23 V26 (retM (.bool false) false r_25)) λS27=>oK (rdN S27 4 (.ptr B21 0)) λV28=>oK (putG TP 118 S27 x5 (.agg V28) (.bool true)) λS29=>oK (qAH .add t18 (.int .i64 1)) λV30=>∃m',m'<m0/\I0 [V30] S29 m') S20) S17) s)
 (K x6 s)
def qE4(X:Td)(l0 x1:AV)(K:KvP)(s:Hq):Prop:=
 oK (qAN l0) λV0=>intK (.int .i64 V0) (mapK (λV2 S3=>oK (qAN l0) λV4=>oK (nat? (.int .i64 V4)) λn_6=>oK (nat? (.int .i64 V4)) λn_7=>(n_6<=n_7/\n_7<=4294967296)/\newK 4 (repl n_7 [(.bool false)]) (λB8 S9=>oK (qAN l0) λV10=>∃I0:IvP,(∃m,I0 [(.int .i64 0)] S9 m)/\∀(f:Env) (s:Hq) (m0:Nat),I0 [f 18] s m0->
 qDr X x1 V2 (.slc B8 0 n_6 (some n_7) 1) l0 (.int .i64 V10) (f 18) I0 m0 K s) S3) s)
def qGz:Nat->List Nat:=λk=>cond (Nat.beq k 8) [18] ([])
theorem qHX{X:Td}(hX:FrX X)(hn:X 173=none){l0 x1:AV}{K:KvP}{s:Hq}(h:qE4 X l0 x1 K s):wC TP X 173 [l0,x1] K s:=
 wOK hX qGz hn Tryz.func173 h
def qU3(X:Td)(l0:AV)(K:KvP)(s:Hq):Prop:=
 boxK 118 l0 (λB0 S1=>newK 118 [(.int .i64 0),(.int .i64 0),(.int .u32 0),(.int .i64 0)] (λB2 S3=>oK (rdN S3 4 B0) λV4=>oK (qBA S3 4 (.ptr B2 0) (.agg V4)) λS5=>oK (rdN S5 4 (.ptr B2 0)) λt2_6=>K (.agg t2_6) S5) S1) s
theorem qPr{X:Td}(hX:FrX X)(hn:X 174=none){l0:AV}{K:KvP}{s:Hq}(h:qU3 X l0 K s):wC TP X 174 [l0] K s:=
 wOK hX nA0 hn Tryz.func174 h
def qBe(X:Td)(t0 t1:AV)(K:KvP)(s:Hq):Prop:=
 wC TP X 198 [t0,t1] (λV0 S1=>oK (qAH .geq V0 (.int .i64 0)) λV2=>K V2 S1) s
theorem qCt{X:Td}(hX:FrX X)(hn:X 190=none){t0 t1:AV}{K:KvP}{s:Hq}(h:qBe X t0 t1 K s):wC TP X 190 [t0,t1] K s:=
 wOK hX nA0 hn Tryz.func190 h
def qF7(X:Td)(x0 t1 t2:AV)(K:KvP)(s:Hq):Prop:=
 boxK 93 x0 (λB0 S1=>oK (rd1 S1 t1) λV2=>oK (rdN S1 2 B0) λV3=>funK TP X V2 [(.agg V3)] (λV4 S5=>(∀b,S1 b≠none->S1 b=none->S5 b=none)->
 oK (rd1 (cutH [(S1,(add S1 S5))] (add S1 S5)) t2) λV6=>oK (negB false (eqV 0 false V4 V6)) λV7=>K V7 (add S1 S5)) (frz S1)) s
theorem qE5{X:Td}(hX:FrX X)(hn:X 191=none){x0 t1 t2:AV}{K:KvP}{s:Hq}(h:qF7 X x0 t1 t2 K s):wC TP X 191 [x0,t1,t2] K s:=
 wOK hX nA0 hn Tryz.func191 h
def qQH(X:Td)(p0:AV)(K:KvP)(s:Hq):Prop:=
 boxK 67 p0 (λB0 S1=>newK 67 [(.int .u32 0),(.int .i64 0)] (λB2 S3=>oK (rdN S3 2 B0) λV4=>wC TP X 105 [(.agg V4)] (λV5 S6=>oK (qAi .not V5) λV7=>qAK V7
 (oK (qBb [(.int .u32 0),(.int .i64 0)] []) λC8=>oK (qBA S6 2 (.ptr B2 0) (.agg C8)) λS9=>oK (rdN S9 2 (.ptr B2 0)) λt2_10=>K (.tup [(.agg t2_10),(.int .i64 2)]) S9)
 (oK (qAC 0 B0) λV11=>oK (rd1 S6 V11) λV12=>oK (qAC 1 B0) λV13=>oK (rd1 S6 V13) λV14=>wC TP X 106 [V14] (λV15 S16=>(∀b,S6 b≠none->S6 b=none->S16 b=none)->
 oK (qAH .and V12 V15) λV17=>oK (qAC 0 B0) λV18=>oK (wr1 (add S6 S16) V18 V17) λS19=>oK (rdN S19 2 B0) λV20=>oK (qBA S19 2 (.ptr B2 0) (.agg V20)) λS21=>oK (rdN S21 2 (.ptr B2 0)) λt2_22=>K (.tup [(.agg t2_22),(.int .i64 0)]) S21) (frz S6))) S3) S1) s
theorem qM9{X:Td}(hX:FrX X)(hn:X 192=none){p0:AV}{K:KvP}{s:Hq}(h:qQH X p0 K s):wC TP X 192 [p0] K s:=
 wOK hX nA0 hn Tryz.func192 h
def qCf(X:Td)(t0 t1 t7 t8:AV)(I0:IvP)(m0:Nat)(K:KvP)(s:Hq):Prop:=
 oK (qAH .lss t8 t7) λV2=>qAK V2
 (oK (qAT 6 t0 t8) λV3=>oK (rdN s 6 V3) λV4=>funK TP X t1 [(.agg V4)] (λV5 S6=>qAK V5
 (K t8 S6)
 (oK (qAH .add t8 (.int .i64 1)) λV7=>∃m',m'<m0/\I0 [V7] S6 m')) s)
 (K (.int .i64 (-1)) s)
def qCy(X:Td)(t0 t1:AV)(K:KvP)(s:Hq):Prop:=
 oK (qAN t0) λV0=>∃I0:IvP,(∃m,I0 [(.int .i64 0)] s m)/\∀(f:Env) (s:Hq) (m0:Nat),I0 [f 8] s m0->
 qCf X t0 t1 (.int .i64 V0) (f 8) I0 m0 K s
def qEA:Nat->List Nat:=λk=>cond (Nat.beq k 4) [8] ([])
theorem qES{X:Td}(hX:FrX X)(hn:X 193=none){t0 t1:AV}{K:KvP}{s:Hq}(h:qCy X t0 t1 K s):wC TP X 193 [t0,t1] K s:=
 wOK hX qEA hn Tryz.func193 h
def qIb(X:Td)(t6 t9:AV)(K:KvP)(s:Hq):Prop:=
 oK (qAO t6 t9 (.bool false)) λV5=>K V5 s
def qQ6(X:Td)(p0:AV)(K:KvP)(s:Hq):Prop:=
 boxK 67 p0 (λB0 S1=>oK (qAC 1 B0) λV2=>oK (rd1 S1 V2) λV3=>oK (qAH .geq V3 (.int .i64 0)) λV4=>qAK V4
 (oK (qAC 1 B0) λV6=>oK (rd1 S1 V6) λV7=>oK (qAH .leq V7 (.int .i64 32)) λV8=>qIb X V4 V8 K S1)
 (qIb X V4 .undef K S1)) s
theorem qMz{X:Td}(hX:FrX X)(hn:X 105=none){p0:AV}{K:KvP}{s:Hq}(h:qQ6 X p0 K s):wC TP X 105 [p0] K s:=
 wOK hX nA0 hn Tryz.func105 h
def qMS(X:Td)(length0:AV)(K:KvP)(s:Hq):Prop:=
 oK (qAH .sub (.int .i64 32) length0) λV0=>oK (qGt .shl (.int .u32 4294967295) V0) λV1=>K V1 s
theorem qOe{X:Td}(hX:FrX X)(hn:X 106=none){length0:AV}{K:KvP}{s:Hq}(h:qMS X length0 K s):wC TP X 106 [length0] K s:=
 wOK hX nA0 hn Tryz.func106 h
def qDT(X:Td)(t0 t1 t7 t8:AV)(I0:IvP)(m0:Nat)(K:KvP)(s:Hq):Prop:=
 oK (qAH .lss t8 t7) λV2=>qAK V2
 (oK (qAT 1 t0 t8) λV3=>oK (rd1 s V3) λV4=>funK TP X t1 [V4] (λV5 S6=>qAK V5
 (K t8 S6)
 (oK (qAH .add t8 (.int .i64 1)) λV7=>∃m',m'<m0/\I0 [V7] S6 m')) s)
 (K (.int .i64 (-1)) s)
def qED(X:Td)(t0 t1:AV)(K:KvP)(s:Hq):Prop:=
 oK (qAN t0) λV0=>∃I0:IvP,(∃m,I0 [(.int .i64 0)] s m)/\∀(f:Env) (s:Hq) (m0:Nat),I0 [f 8] s m0->
 qDT X t0 t1 (.int .i64 V0) (f 8) I0 m0 K s
def qF3:Nat->List Nat:=λk=>cond (Nat.beq k 4) [8] ([])
theorem qGQ{X:Td}(hX:FrX X)(hn:X 102=none){t0 t1:AV}{K:KvP}{s:Hq}(h:qED X t0 t1 K s):wC TP X 102 [t0,t1] K s:=
 wOK hX qF3 hn Tryz.func102 h
def qEW(X:Td)(t0 v1 t7 t8:AV)(I0:IvP)(m0:Nat)(K:KvP)(s:Hq):Prop:=
 oK (qAH .lss t8 t7) λV2=>qAK V2
 (oK (qAT 1 t0 t8) λV3=>oK (rd1 s V3) λV4=>oK (negB false (eqV 0 false v1 V4)) λV5=>qAK V5
 (K t8 s)
 (oK (qAH .add t8 (.int .i64 1)) λV6=>∃m',m'<m0/\I0 [V6] s m'))
 (K (.int .i64 (-1)) s)
def qF9(X:Td)(t0 v1:AV)(K:KvP)(s:Hq):Prop:=
 oK (qAN t0) λV0=>∃I0:IvP,(∃m,I0 [(.int .i64 0)] s m)/\∀(f:Env) (s:Hq) (m0:Nat),I0 [f 8] s m0->
 qEW X t0 v1 (.int .i64 V0) (f 8) I0 m0 K s
def qHr:Nat->List Nat:=λk=>cond (Nat.beq k 4) [8] ([])
theorem qIr{X:Td}(hX:FrX X)(hn:X 101=none){t0 v1:AV}{K:KvP}{s:Hq}(h:qF9 X t0 v1 K s):wC TP X 101 [t0,v1] K s:=
 wOK hX qHr hn Tryz.func101 h
def qBf(X:Td)(t0 t1 t7 t8:AV)(I0:IvP)(m0:Nat)(K:KvP)(s:Hq):Prop:=
 oK (qAH .lss t8 t7) λV2=>qAK V2
 (oK (qAT 2 t0 t8) λV3=>oK (rdN s 2 V3) λV4=>funK TP X t1 [(.agg V4)] (λV5 S6=>qAK V5
 (K t8 S6)
 (oK (qAH .add t8 (.int .i64 1)) λV7=>∃m',m'<m0/\I0 [V7] S6 m')) s)
 (K (.int .i64 (-1)) s)
def qCA(X:Td)(t0 t1:AV)(K:KvP)(s:Hq):Prop:=
 oK (qAN t0) λV0=>∃I0:IvP,(∃m,I0 [(.int .i64 0)] s m)/\∀(f:Env) (s:Hq) (m0:Nat),I0 [f 8] s m0->
 qBf X t0 t1 (.int .i64 V0) (f 8) I0 m0 K s
def qC7:Nat->List Nat:=λk=>cond (Nat.beq k 4) [8] ([])
theorem qDC{X:Td}(hX:FrX X)(hn:X 198=none){t0 t1:AV}{K:KvP}{s:Hq}(h:qCA X t0 t1 K s):wC TP X 198 [t0,t1] K s:=
 wOK hX qC7 hn Tryz.func198 h
def qMX(X:Td)(t7 t10:AV)(K:KvP)(s:Hq):Prop:=
 oK (qAO t7 t10 (.bool false)) λV1=>K V1 s
def qRR(X:Td)(i0 n1:AV)(K:KvP)(s:Hq):Prop:=
 oK (qAH .geq i0 (.int .i64 0)) λV0=>qAK V0
 (oK (qAH .lss i0 n1) λV2=>qMX X V0 V2 K s)
 (qMX X V0 .undef K s)
theorem qRa{X:Td}(hX:FrX X)(hn:X 153=none){i0 n1:AV}{K:KvP}{s:Hq}(h:qRR X i0 n1 K s):wC TP X 153 [i0,n1] K s:=
 wOK hX nA0 hn Tryz.func153 h
end Go.AM
namespace Go.AM
open Go Go.Proofs
set_option maxRecDepth 100000
def qKR(X:Td)(bad0 x1 part2 x3:AV)(K R:KvP)(s:Hq):Prop:=
 qAK bad0
 (oK (qBb [(.int .i64 0),(.str ⟨#[]⟩),(.int .i64 0)] [(0,1,x1),(1,1,part2),(2,1,x3)]) λC0=>panK (.ifc 156 (.agg C0)) R s)
 (K (.tup []) s)
theorem qMK{bad0 x1 part2 x3:AV}{K R:KvP}{s:Hq}(h:qKR X0 bad0 x1 part2 x3 K R s):qAf TP X0 SS 149 [bad0,x1,part2,x3] K R s:=
 qCV qKi nA0 Tryz.func149 (by kernel_rfl:Tryz.f149.body=some (qBs Tryz.f149)) (by kernel_rfl) (by kernel_rfl) (Eq.mpr (by kernel_rfl) h)
def qGm(X:Td)(t31 t34:AV)(K R:KvP)(s:Hq):Prop:=
 oK (qAO t31 (.bool true) t34) λV26=>qAf TP X SS 149 [V26,(.int .i64 2),(.str ⟨#[102,97,98,114,105,99]⟩),(.int .i64 0)] (λV27 S28=>K (.tup []) S28) R s
def qGf(X:Td)(t2 t26 t29:AV)(K R:KvP)(s:Hq):Prop:=
 oK (qAO t26 (.bool true) t29) λV25=>qAK V25
 (qGm X V25 .undef K R s)
 (oK (qAC 10 t2) λV29=>oK (rd1 s V29) λV30=>wC TP X 150 [V30,(.int .i64 0),(.int .i64 1)] (λV31 S32=>qGm X V25 V31 K R S32) s)
def qGc(X:Td)(t2 t10 t13:AV)(K R:KvP)(s:Hq):Prop:=
 oK (qAO t10 (.bool true) t13) λV10=>qAf TP X SS 149 [V10,(.int .i64 2),(.str ⟨#[102,97,98,114,105,99]⟩),(.int .i64 0)] (λV11 S12=>oK (qAC 0 t2) λV13=>oK (rd1 S12 V13) λV14=>oK (qAC 1 t2) λV15=>oK (rd1 S12 V15) λV16=>oK (qAH .add V14 V16) λV17=>oK (qAH .gtr V17 (.int .i64 32)) λV18=>qAf TP X SS 149 [V18,(.int .i64 2),(.str ⟨#[102,97,98,114,105,99]⟩),(.int .i64 0)] (λV19 S20=>oK (qAC 8 t2) λV21=>oK (rd1 S20 V21) λV22=>wC TP X 150 [V22,(.int .i64 0),(.int .i64 2)] (λV23 S24=>qAK V23
 (qGf X t2 V23 .undef K R S24)
 (oK (qAC 9 t2) λV33=>oK (rd1 S24 V33) λV34=>wC TP X 150 [V34,(.int .i64 0),(.int .i64 1)] (λV35 S36=>qGf X t2 V23 V35 K R S36) S24)) S20) R S12) R s
def qXM(X:Td)(c0:AV)(K R:KvP)(s:Hq):Prop:=
 oK (qAc c0) λV0=>oK (qAC 0 V0) λV1=>oK (rdN s 19 V1) λV2=>newK 31 zR1 (λB3 S4=>oK (qBA S4 19 (.ptr B3 0) (.agg V2)) λS5=>oK (qAC 0 (.ptr B3 0)) λV6=>oK (rd1 S5 V6) λV7=>wC TP X 150 [V7,(.int .i64 1),(.int .i64 32)] (λV8 S9=>qAK V8
 (qGc X (.ptr B3 0) V8 .undef K R S9)
 (oK (qAC 1 (.ptr B3 0)) λV37=>oK (rd1 S9 V37) λV38=>wC TP X 150 [V38,(.int .i64 0),(.int .i64 32)] (λV39 S40=>qGc X (.ptr B3 0) V8 V39 K R S40) S9)) S5) s
theorem qRp{c0:AV}{K R:KvP}{s:Hq}(h:qXM X0 c0 K R s):qAf TP X0 SS 119 [c0] K R s:=
 qCV qKi nA0 Tryz.func119 (by kernel_rfl:Tryz.f119.body=some (qBs Tryz.f119)) (by kernel_rfl) (by kernel_rfl) (Eq.mpr (by kernel_rfl) h)
def qGs(X:Td)(t30 t33:AV)(K R:KvP)(s:Hq):Prop:=
 oK (qAO t30 (.bool true) t33) λV20=>qAf TP X SS 149 [V20,(.int .i64 2),(.str ⟨#[116,105,109,101,114,115]⟩),(.int .i64 0)] (λV21 S22=>K (.tup []) S22) R s
def qGi(X:Td)(t2 t25 t28:AV)(K R:KvP)(s:Hq):Prop:=
 oK (qAO t25 (.bool true) t28) λV19=>qAK V19
 (qGs X V19 .undef K R s)
 (oK (qAC 5 t2) λV23=>oK (rd1 s V23) λV24=>wC TP X 150 [V24,(.int .i64 1),(.int .i64 10000)] (λV25 S26=>qGs X V19 V25 K R S26) s)
def qGu(X:Td)(t2 t16 t19:AV)(K R:KvP)(s:Hq):Prop:=
 oK (qAO t16 (.bool true) t19) λV12=>qAf TP X SS 149 [V12,(.int .i64 2),(.str ⟨#[116,105,109,101,114,115]⟩),(.int .i64 0)] (λV13 S14=>oK (qAC 3 t2) λV15=>oK (rd1 S14 V15) λV16=>wC TP X 150 [V16,(.int .i64 0),(.int .i64 1000)] (λV17 S18=>qAK V17
 (qGi X t2 V17 .undef K R S18)
 (oK (qAC 4 t2) λV27=>oK (rd1 S18 V27) λV28=>wC TP X 150 [V28,(.int .i64 1),(.int .i64 100)] (λV29 S30=>qGi X t2 V17 V29 K R S30) S18)) S14) R s
def qGj(X:Td)(t2 t11 t14:AV)(K R:KvP)(s:Hq):Prop:=
 oK (qAO t11 (.bool true) t14) λV11=>qAK V11
 (qGu X t2 V11 .undef K R s)
 (oK (qAC 2 t2) λV31=>oK (rd1 s V31) λV32=>wC TP X 150 [V32,(.int .i64 1),(.int .i64 10000)] (λV33 S34=>qGu X t2 V11 V33 K R S34) s)
def qRq(X:Td)(c0:AV)(K R:KvP)(s:Hq):Prop:=
 oK (qAc c0) λV0=>oK (qAC 0 V0) λV1=>oK (qAC 13 V1) λV2=>oK (rdN s 6 V2) λV3=>newK 29 [(.int .i64 0),(.int .i64 0),(.int .i64 0),(.int .i64 0),(.int .i64 0),(.int .i64 0)] (λB4 S5=>oK (qBA S5 6 (.ptr B4 0) (.agg V3)) λS6=>oK (qAC 0 (.ptr B4 0)) λV7=>oK (rd1 S6 V7) λV8=>wC TP X 150 [V8,(.int .i64 1),(.int .i64 100)] (λV9 S10=>qAK V9
 (qGj X (.ptr B4 0) V9 .undef K R S10)
 (oK (qAC 1 (.ptr B4 0)) λV35=>oK (rd1 S10 V35) λV36=>wC TP X 150 [V36,(.int .i64 3),(.int .i64 1000)] (λV37 S38=>qGj X (.ptr B4 0) V9 V37 K R S38) S10)) S6) s
theorem qRO{c0:AV}{K R:KvP}{s:Hq}(h:qRq X0 c0 K R s):qAf TP X0 SS 120 [c0] K R s:=
 qCV qKi nA0 Tryz.func120 (by kernel_rfl:Tryz.f120.body=some (qBs Tryz.f120)) (by kernel_rfl) (by kernel_rfl) (Eq.mpr (by kernel_rfl) h)
def qH3(X:Td)(x3 i4 t22 t51 t54:AV)(I0:IvP)(m0:Nat)(K R:KvP)(s:Hq):Prop:=
 oK (qAO t51 (.bool true) t54) λV36=>qAf TP X SS 149 [V36,(.int .i64 2),(.str ⟨#[108,105,110,107,115]⟩),i4] (λV37 S38=>oK (qAT 1 x3 i4) λV39=>oK (rd1 S38 V39) λV40=>qAf TP X SS 149 [V40,(.int .i64 11),(.str ⟨#[108,105,110,107,115]⟩),i4] (λV41 S42=>oK (qAH .add t22 (.int .i64 1)) λV43=>∃m',m'<m0/\I0 [V43] S42 m') R S38) R s
def qHy(X:Td)(x3 i4 l5 t22 t39 t47:AV)(I0:IvP)(m0:Nat)(K R:KvP)(s:Hq):Prop:=
 oK (qAO t39 t47 (.bool false)) λV34=>oK (qAi .not V34) λV35=>qAK V35
 (qH3 X x3 i4 t22 V35 .undef I0 m0 K R s)
 (oK (qAC 2 l5) λV44=>oK (rd1 s V44) λV45=>wC TP X 150 [V45,(.int .i64 1),(.int .i64 1000)] (λV46 S47=>qH3 X x3 i4 t22 V35 V46 I0 m0 K R S47) s)
def qHq(X:Td)(t2 x3 i4 l5 t22 t32 t37:AV)(I0:IvP)(m0:Nat)(K R:KvP)(s:Hq):Prop:=
 oK (qAO t32 t37 (.bool false)) λV33=>qAK V33
 (oK (qAC 1 l5) λV48=>oK (rd1 s V48) λV49=>oK (qAC 0 t2) λV50=>oK (rd1 s V50) λV51=>oK (qAC 1 t2) λV52=>oK (rd1 s V52) λV53=>oK (qAH .add V51 V53) λV54=>oK (qAH .lss V49 V54) λV55=>qHy X x3 i4 l5 t22 V33 V55 I0 m0 K R s)
 (qHy X x3 i4 l5 t22 V33 .undef I0 m0 K R s)
def qN5(X:Td)(t2 x3 t20 t21 t22:AV)(I0:IvP)(m0:Nat)(K R:KvP)(s:Hq):Prop:=
 oK (qAH .lss t22 t21) λV21=>qAK V21
 (oK (qAT 3 t20 t22) λV22=>oK (rdN s 3 V22) λV23=>newK 91 [(.int .i64 0),(.int .i64 0),(.int .i64 0)] (λB24 S25=>oK (qBA S25 3 (.ptr B24 0) (.agg V23)) λS26=>oK (qAC 0 (.ptr B24 0)) λV27=>oK (rd1 S26 V27) λV28=>oK (qAC 0 t2) λV29=>oK (rd1 S26 V29) λV30=>wC TP X 153 [V28,V30] (λV31 S32=>qAK V31
 (oK (qAC 1 (.ptr B24 0)) λV56=>oK (rd1 S32 V56) λV57=>oK (qAC 0 t2) λV58=>oK (rd1 S32 V58) λV59=>oK (qAH .geq V57 V59) λV60=>qHq X t2 x3 t22 (.ptr B24 0) t22 V31 V60 I0 m0 K R S32)
 (qHq X t2 x3 t22 (.ptr B24 0) t22 V31 .undef I0 m0 K R S32)) S26) s)
 (K (.tup []) s)
def qYp(X:Td)(c0:AV)(K R:KvP)(s:Hq):Prop:=
 oK (qAc c0) λV0=>oK (qAC 0 V0) λV1=>oK (rdN s 19 V1) λV2=>newK 31 zR1 (λB3 S4=>oK (qBA S4 19 (.ptr B3 0) (.agg V2)) λS5=>oK (qAC 2 (.ptr B3 0)) λV6=>oK (rd1 S5 V6) λV7=>oK (qAN V7) λV8=>oK (qAH .gtr (.int .i64 V8) (.int .i64 128)) λV10=>qAf TP X SS 149 [V10,(.int .i64 7),(.str ⟨#[108,105,110,107,115]⟩),(.int .i64 128)] (λV11 S12=>oK (qAC 2 (.ptr B3 0)) λV13=>oK (rd1 S12 V13) λV14=>wC TP X 151 [V14,(.fn (.func 152) [] [])] (λV15 S16=>oK (qAC 2 (.ptr B3 0)) λV17=>oK (rd1 S16 V17) λV18=>oK (qAN V18) λV19=>∃I0:IvP,(∃m,I0 [(.int .i64 0)] S16 m)/\∀(f:Env) (s:Hq) (m0:Nat),I0 [f 22] s m0->
 qN5 X (.ptr B3 0) V15 V18 (.int .i64 V19) (f 22) I0 m0 K R s) S12) R S5) s
def qSD:Nat->List Nat:=λk=>cond (Nat.beq k 8) [22] ([])
theorem qTL{c0:AV}{K R:KvP}{s:Hq}(h:qYp X0 c0 K R s):qAf TP X0 SS 121 [c0] K R s:=
 qCV qKi qSD Tryz.func121 (by kernel_rfl:Tryz.f121.body=some (qBs Tryz.f121)) (by kernel_rfl) (by kernel_rfl) (Eq.mpr (by kernel_rfl) h)
def qFo(X:Td)(i5 t22 t46 t50:AV)(I0:IvP)(m0:Nat)(K R:KvP)(s:Hq):Prop:=
 oK (qAO t46 (.bool true) t50) λV30=>qAf TP X SS 149 [V30,(.int .i64 11),(.str ⟨#[116,101,110,97,110,116,115]⟩),i5] (λV31 S32=>oK (qAH .add t22 (.int .i64 1)) λV33=>∃m',m'<m0/\I0 [V33] S32 m') R s
def qFh(X:Td)(x3 x4 i5 t22 t35 t38:AV)(I0:IvP)(m0:Nat)(K R:KvP)(s:Hq):Prop:=
 oK (qAO t35 (.bool true) t38) λV25=>qAf TP X SS 149 [V25,(.int .i64 2),(.str ⟨#[116,101,110,97,110,116,115]⟩),i5] (λV26 S27=>oK (qAT 1 x3 i5) λV28=>oK (rd1 S27 V28) λV29=>qAK V29
 (qFo X i5 t22 V29 .undef I0 m0 K R S27)
 (oK (qAT 1 x4 i5) λV34=>oK (rd1 S27 V34) λV35=>qFo X i5 t22 V29 V35 I0 m0 K R S27)) R s
def qFY(X:Td)(x3 x4 i5 t6 t22 t30 t33:AV)(I0:IvP)(m0:Nat)(K R:KvP)(s:Hq):Prop:=
 oK (qAO t30 (.bool true) t33) λV24=>qAK V24
 (qFh X x3 x4 i5 t22 V24 .undef I0 m0 K R s)
 (oK (qAC 1 t6) λV36=>oK (rd1 s V36) λV37=>oK (negB false (eqV 0 true V37 (.int .u32 0))) λV38=>qFh X x3 x4 i5 t22 V24 V38 I0 m0 K R s)
def qK3(X:Td)(x3 x4 t20 t21 t22:AV)(I0:IvP)(m0:Nat)(K R:KvP)(s:Hq):Prop:=
 oK (qAH .lss t22 t21) λV15=>qAK V15
 (oK (qAT 2 t20 t22) λV16=>oK (rdN s 2 V16) λV17=>newK 93 [(.int .u32 0),(.int .u32 0)] (λB18 S19=>oK (qBA S19 2 (.ptr B18 0) (.agg V17)) λS20=>oK (qAC 0 (.ptr B18 0)) λV21=>oK (rd1 S20 V21) λV22=>oK (qAH .lss V22 (.int .u32 1)) λV23=>qAK V23
 (qFY X x3 x4 t22 (.ptr B18 0) t22 V23 .undef I0 m0 K R S20)
 (oK (qAC 0 (.ptr B18 0)) λV39=>oK (rd1 S20 V39) λV40=>oK (qAH .gtr V40 (.int .u32 16777215)) λV41=>qFY X x3 x4 t22 (.ptr B18 0) t22 V23 V41 I0 m0 K R S20)) s)
 (K (.tup []) s)
def qPd(X:Td)(c0:AV)(K R:KvP)(s:Hq):Prop:=
 oK (qAc c0) λV0=>oK (qAC 0 V0) λV1=>oK (qAC 3 V1) λV2=>oK (rd1 s V2) λV3=>oK (qAN V3) λV4=>oK (qAH .gtr (.int .i64 V4) (.int .i64 16)) λV6=>qAf TP X SS 149 [V6,(.int .i64 7),(.str ⟨#[116,101,110,97,110,116,115]⟩),(.int .i64 16)] (λV7 S8=>wC TP X 154 [V3,(.fn (.func 155) [] [])] (λV9 S10=>wC TP X 154 [V3,(.fn (.func 156) [] [])] (λV11 S12=>oK (qAN V3) λV13=>∃I0:IvP,(∃m,I0 [(.int .i64 0)] S12 m)/\∀(f:Env) (s:Hq) (m0:Nat),I0 [f 22] s m0->
 qK3 X V9 V11 V3 (.int .i64 V13) (f 22) I0 m0 K R s) S10) S8) R s
def qO4:Nat->List Nat:=λk=>cond (Nat.beq k 8) [22] ([])
theorem qQa{c0:AV}{K R:KvP}{s:Hq}(h:qPd X0 c0 K R s):qAf TP X0 SS 122 [c0] K R s:=
 qCV qKi qO4 Tryz.func122 (by kernel_rfl:Tryz.f122.body=some (qBs Tryz.f122)) (by kernel_rfl) (by kernel_rfl) (Eq.mpr (by kernel_rfl) h)
def qFw(X:Td)(t28:AV)(I0:IvP)(m0:Nat)(K R:KvP)(s:Hq):Prop:=
 oK (qAH .add t28 (.int .i64 1)) λV26=>∃m',m'<m0/\I0 [V26] s m'
def qFg(X:Td)(t2 i5 b6 t28 t98 t102:AV)(I0:IvP)(m0:Nat)(K R:KvP)(s:Hq):Prop:=
 oK (qAO t98 (.bool true) t102) λV67=>qAf TP X SS 149 [V67,(.int .i64 3),(.str ⟨#[100,111,109,97,105,110,115]⟩),i5] (λV68 S69=>oK (qAC 3 b6) λV70=>oK (rdN S69 2 V70) λV71=>oK (qAC 5 b6) λV72=>oK (rd1 S69 V72) λV73=>wC TP X 162 [(.agg V71),V73] (λV74 S75=>oK (qAi .not V74) λV76=>qAf TP X SS 149 [V76,(.int .i64 3),(.str ⟨#[100,111,109,97,105,110,115]⟩),i5] (λV77 S78=>oK (qAC 4 t2) λV79=>oK (rd1 S78 V79) λV80=>oK (qEU 6 V80 none (some i5) none) λV81=>wC TP X 163 [V81,(.fn (.func 164) [] [b6])] (λV82 S83=>qAf TP X SS 149 [V82,(.int .i64 11),(.str ⟨#[100,111,109,97,105,110,115]⟩),i5] (λV84 S85=>qFw X t28 I0 m0 K R S85) R S83) S78) R S75) S69) R s
def qFs(X:Td)(t2 i5 b6 t28 t75 t80:AV)(I0:IvP)(m0:Nat)(K R:KvP)(s:Hq):Prop:=
 oK (qAO t75 (.bool true) t80) λV50=>qAf TP X SS 149 [V50,(.int .i64 11),(.str ⟨#[100,111,109,97,105,110,115]⟩),i5] (λV51 S52=>oK (qAC 5 b6) λV53=>oK (rd1 S52 V53) λV54=>oK (negB false (eqV 0 true V54 (.int .u32 0))) λV55=>qAK V55
 (oK (qAC 3 b6) λV56=>oK (rdN S52 2 V56) λV57=>oK (qBb [(.int .u32 0),(.int .i64 0)] []) λC58=>oK (negB true (qGP TP 67 (.agg V57) (.agg C58))) λV59=>qAf TP X SS 149 [V59,(.int .i64 3),(.str ⟨#[100,111,109,97,105,110,115]⟩),i5] (λV60 S61=>qFw X t28 I0 m0 K R S61) R S52)
 (oK (qAC 3 b6) λV62=>oK (rdN S52 2 V62) λV63=>wC TP X 161 [(.agg V63)] (λV64 S65=>oK (qAi .not V64) λV66=>qAK V66
 (qFg X t2 i5 b6 t28 V66 .undef I0 m0 K R S65)
 (oK (qAC 3 b6) λV86=>oK (qAC 1 V86) λV87=>oK (rd1 S65 V87) λV88=>wC TP X 150 [V88,(.int .i64 8),(.int .i64 30)] (λV89 S90=>qFg X t2 i5 b6 t28 V66 V89 I0 m0 K R S90) S65)) S52)) R s
def qFc(X:Td)(t2 i5 b6 t28 t68 t73:AV)(I0:IvP)(m0:Nat)(K R:KvP)(s:Hq):Prop:=
 oK (qAO t68 (.bool true) t73) λV49=>qAK V49
 (qFs X t2 i5 b6 t28 V49 .undef I0 m0 K R s)
 (oK (qAC 3 t2) λV91=>oK (rd1 s V91) λV92=>oK (qAC 2 b6) λV93=>oK (rd1 s V93) λV94=>wC TP X 160 [V92,(.fn (.func 156) [] []),V94] (λV95 S96=>qFs X t2 i5 b6 t28 V49 V95 I0 m0 K R S96) s)
def qFt(X:Td)(t2 i5 b6 t28 t62 t66:AV)(I0:IvP)(m0:Nat)(K R:KvP)(s:Hq):Prop:=
 oK (qAO t62 (.bool true) t66) λV48=>qAK V48
 (qFc X t2 i5 b6 t28 V48 .undef I0 m0 K R s)
 (oK (qAC 3 t2) λV97=>oK (rd1 s V97) λV98=>oK (qAC 1 b6) λV99=>oK (rd1 s V99) λV100=>wC TP X 160 [V98,(.fn (.func 155) [] []),V100] (λV101 S102=>qFc X t2 i5 b6 t28 V48 V101 I0 m0 K R S102) s)
def qFj(X:Td)(t2 x3 x4 i5 b6 t28 t50 t53:AV)(I0:IvP)(m0:Nat)(K R:KvP)(s:Hq):Prop:=
 oK (qAO t50 (.bool true) t53) λV43=>qAf TP X SS 149 [V43,(.int .i64 2),(.str ⟨#[100,111,109,97,105,110,115]⟩),i5] (λV44 S45=>oK (qAT 1 x3 i5) λV46=>oK (rd1 S45 V46) λV47=>qAK V47
 (qFt X t2 i5 b6 t28 V47 .undef I0 m0 K R S45)
 (oK (qAT 1 x4 i5) λV103=>oK (rd1 S45 V103) λV104=>qFt X t2 i5 b6 t28 V47 V104 I0 m0 K R S45)) R s
def qFd(X:Td)(t2 x3 x4 i5 b6 t28 t45 t48:AV)(I0:IvP)(m0:Nat)(K R:KvP)(s:Hq):Prop:=
 oK (qAO t45 (.bool true) t48) λV42=>qAK V42
 (qFj X t2 x3 x4 i5 b6 t28 V42 .undef I0 m0 K R s)
 (oK (qAC 2 b6) λV105=>oK (rd1 s V105) λV106=>oK (negB false (eqV 0 true V106 (.int .u32 0))) λV107=>qFj X t2 x3 x4 i5 b6 t28 V42 V107 I0 m0 K R s)
def qFq(X:Td)(t2 x3 x4 i5 b6 t28 t40 t43:AV)(I0:IvP)(m0:Nat)(K R:KvP)(s:Hq):Prop:=
 oK (qAO t40 (.bool true) t43) λV41=>qAK V41
 (qFd X t2 x3 x4 i5 b6 t28 V41 .undef I0 m0 K R s)
 (oK (qAC 1 b6) λV108=>oK (rd1 s V108) λV109=>oK (qAH .gtr V109 (.int .u32 16777215)) λV110=>qFd X t2 x3 x4 i5 b6 t28 V41 V110 I0 m0 K R s)
def qLM(X:Td)(t2 x3 x4 t26 t27 t28:AV)(I0:IvP)(m0:Nat)(K R:KvP)(s:Hq):Prop:=
 oK (qAH .lss t28 t27) λV25=>qAK V25
 (oK (qAT 6 t26 t28) λV27=>oK (rdN s 6 V27) λV28=>newK 69 [(.int .i64 0),(.int .u32 0),(.int .u32 0),(.int .u32 0),(.int .i64 0),(.int .u32 0)] (λB29 S30=>oK (qBA S30 6 (.ptr B29 0) (.agg V28)) λS31=>oK (qAC 0 (.ptr B29 0)) λV32=>oK (rd1 S31 V32) λV33=>oK (qAC 3 t2) λV34=>oK (rd1 S31 V34) λV35=>oK (qAN V35) λV36=>wC TP X 153 [V33,(.int .i64 V36)] (λV38 S39=>oK (qAi .not V38) λV40=>qAK V40
 (qFq X t2 x3 x4 t28 (.ptr B29 0) t28 V40 .undef I0 m0 K R S39)
 (oK (qAC 1 (.ptr B29 0)) λV111=>oK (rd1 S39 V111) λV112=>oK (qAH .lss V112 (.int .u32 1)) λV113=>qFq X t2 x3 x4 t28 (.ptr B29 0) t28 V40 V113 I0 m0 K R S39)) S31) s)
 (K (.tup []) s)
def qVX(X:Td)(c0:AV)(K R:KvP)(s:Hq):Prop:=
 oK (qAc c0) λV0=>oK (qAC 0 V0) λV1=>oK (rdN s 19 V1) λV2=>newK 31 zR1 (λB3 S4=>oK (qBA S4 19 (.ptr B3 0) (.agg V2)) λS5=>oK (qAC 4 (.ptr B3 0)) λV6=>oK (rd1 S5 V6) λV7=>oK (qAN V7) λV8=>oK (qAH .gtr (.int .i64 V8) (.int .i64 32)) λV10=>qAf TP X SS 149 [V10,(.int .i64 7),(.str ⟨#[100,111,109,97,105,110,115]⟩),(.int .i64 32)] (λV11 S12=>oK (qAC 4 (.ptr B3 0)) λV13=>oK (rd1 S12 V13) λV14=>wC TP X 157 [V14,(.fn (.func 158) [] [])] (λV15 S16=>(∀b,S12 b≠none->S12 b=none->S16 b=none)->
 oK (qAC 4 (.ptr B3 0)) λV17=>oK (rd1 (cutH [(S12,(add S12 S16))] (add S12 S16)) V17) λV18=>wC TP X 157 [V18,(.fn (.func 159) [] [])] (λV19 S20=>oK (qAC 4 (.ptr B3 0)) λV21=>oK (rd1 S20 V21) λV22=>oK (qAN V22) λV23=>∃I0:IvP,(∃m,I0 [(.int .i64 0)] S20 m)/\∀(f:Env) (s:Hq) (m0:Nat),I0 [f 28] s m0->
 qLM X (.ptr B3 0) V15 V19 V22 (.int .i64 V23) (f 28) I0 m0 K R s) (add S12 S16)) (frz S12)) R S5) s
def qO6:Nat->List Nat:=λk=>cond (Nat.beq k 8) [28] ([])
theorem qQl{c0:AV}{K R:KvP}{s:Hq}(h:qVX X0 c0 K R s):qAf TP X0 SS 123 [c0] K R s:=
 qCV qKi qO6 Tryz.func123 (by kernel_rfl:Tryz.f123.body=some (qBs Tryz.f123)) (by kernel_rfl) (by kernel_rfl) (Eq.mpr (by kernel_rfl) h)
def qKM(X:Td)(x3 i4 t21 t64 t65 t66:AV)(I4:IvP)(m4:Nat)(I0:IvP)(m0:Nat)(K R:KvP)(s:Hq):Prop:=
 oK (qAH .lss t66 t65) λV52=>qAK V52
 (oK (qAT 1 t64 t66) λV53=>oK (rd1 s V53) λV54=>oK (qMg 32 1 x3 V54) λV55=>oK (rd1 s V55) λV56=>oK (qAH .add V56 (.int .i64 1)) λV57=>oK (qMg 32 1 x3 V54) λV58=>oK (wr1 s V58 V57) λS59=>oK (qMg 32 1 x3 V54) λV60=>oK (rd1 S59 V60) λV61=>oK (qAH .gtr V61 (.int .i64 32)) λV62=>qAf TP X SS 149 [V62,(.int .i64 7),(.str ⟨#[115,101,103,109,101,110,116,115]⟩),i4] (λV63 S64=>oK (qAH .add t66 (.int .i64 1)) λV65=>∃m',m'<m4/\I4 [V65] S64 m') R S59)
 (oK (qAH .add t21 (.int .i64 1)) λV66=>∃m',m'<m0/\I0 [V66] s m')
def qEo(X:Td)(x3 i4 t5 t21 t55 t59:AV)(I0:IvP)(m0:Nat)(K R:KvP)(s:Hq):Prop:=
 oK (qAO t55 (.bool true) t59) λV45=>qAf TP X SS 149 [V45,(.int .i64 10),(.str ⟨#[115,101,103,109,101,110,116,115]⟩),i4] (λV46 S47=>oK (qAC 0 t5) λV48=>oK (rd1 S47 V48) λV49=>oK (qAN V49) λV50=>∃I4:IvP,(∃m,I4 [(.int .i64 0)] S47 m)/\∀(f:Env) (s:Hq) (m4:Nat),I4 [f 66] s m4->
 qKM X x3 i4 t21 V49 (.int .i64 V50) (f 66) I4 m4 I0 m0 K R s) R s
def qEt(X:Td)(x3 i4 t5 t21 t42 t46:AV)(I0:IvP)(m0:Nat)(K R:KvP)(s:Hq):Prop:=
 oK (qAO t42 (.bool true) t46) λV37=>qAf TP X SS 149 [V37,(.int .i64 2),(.str ⟨#[115,101,103,109,101,110,116,115]⟩),i4] (λV38 S39=>oK (qAC 0 t5) λV40=>oK (rd1 S39 V40) λV41=>wC TP X 167 [V41] (λV42 S43=>oK (qAi .not V42) λV44=>qAK V44
 (qEo X x3 i4 t5 t21 V44 .undef I0 m0 K R S43)
 (oK (qAC 1 t5) λV67=>oK (rd1 S43 V67) λV68=>wC TP X 167 [V68] (λV69 S70=>oK (qAi .not V69) λV71=>qEo X x3 i4 t5 t21 V44 V71 I0 m0 K R S70) S43)) S39) R s
def qEs(X:Td)(t2 x3 i4 t5 t21 t30 t34:AV)(I0:IvP)(m0:Nat)(K R:KvP)(s:Hq):Prop:=
 oK (qAO t30 (.bool true) t34) λV30=>qAf TP X SS 149 [V30,(.int .i64 3),(.str ⟨#[115,101,103,109,101,110,116,115]⟩),i4] (λV31 S32=>oK (qAC 0 t5) λV33=>oK (rd1 S32 V33) λV34=>wC TP X 114 [V34,(.fn (.func 165) [] [t2])] (λV35 S36=>qAK V35
 (qEt X x3 i4 t5 t21 V35 .undef I0 m0 K R S36)
 (oK (qAC 1 t5) λV72=>oK (rd1 S36 V72) λV73=>wC TP X 114 [V73,(.fn (.func 166) [] [t2])] (λV74 S75=>qEt X x3 i4 t5 t21 V35 V74 I0 m0 K R S75) S36)) S32) R s
def qKT(X:Td)(t2 x3 t19 t20 t21:AV)(I0:IvP)(m0:Nat)(K R:KvP)(s:Hq):Prop:=
 oK (qAH .lss t21 t20) λV19=>qAK V19
 (oK (qAT 2 t19 t21) λV20=>oK (rdN s 2 V20) λV21=>newK 64 [.nilslc,.nilslc] (λB22 S23=>oK (qBA S23 2 (.ptr B22 0) (.agg V21)) λS24=>oK (qAC 0 (.ptr B22 0)) λV25=>oK (rd1 S24 V25) λV26=>oK (qAN V26) λV27=>oK (negB false (eqV 0 true (.int .i64 V27) (.int .i64 0))) λV29=>qAK V29
 (qEs X t2 x3 t21 (.ptr B22 0) t21 V29 .undef I0 m0 K R S24)
 (oK (qAC 1 (.ptr B22 0)) λV76=>oK (rd1 S24 V76) λV77=>oK (qAN V77) λV78=>oK (negB false (eqV 0 true (.int .i64 V78) (.int .i64 0))) λV80=>qEs X t2 x3 t21 (.ptr B22 0) t21 V29 V80 I0 m0 K R S24)) s)
 (K (.tup []) s)
def qTB(X:Td)(c0:AV)(K R:KvP)(s:Hq):Prop:=
 oK (qAc c0) λV0=>oK (qAC 0 V0) λV1=>oK (rdN s 19 V1) λV2=>newK 31 zR1 (λB3 S4=>oK (qBA S4 19 (.ptr B3 0) (.agg V2)) λS5=>oK (qAC 5 (.ptr B3 0)) λV6=>oK (rd1 S5 V6) λV7=>oK (qAN V7) λV8=>oK (qAH .gtr (.int .i64 V8) (.int .i64 64)) λV10=>qAf TP X SS 149 [V10,(.int .i64 7),(.str ⟨#[115,101,103,109,101,110,116,115]⟩),(.int .i64 64)] (λV11 S12=>newK 208 [(.int .i64 0),(.int .i64 0),(.int .i64 0),(.int .i64 0),(.int .i64 0),(.int .i64 0),(.int .i64 0),(.int .i64 0),(.int .i64 0),(.int .i64 0),(.int .i64 0),(.int .i64 0),(.int .i64 0),(.int .i64 0),(.int .i64 0),(.int .i64 0),(.int .i64 0),(.int .i64 0),(.int .i64 0),(.int .i64 0),(.int .i64 0),(.int .i64 0),(.int .i64 0),(.int .i64 0),(.int .i64 0),(.int .i64 0),(.int .i64 0),(.int .i64 0),(.int .i64 0),(.int .i64 0),(.int .i64 0),(.int .i64 0)] (λB13 S14=>oK (qAC 5 (.ptr B3 0)) λV15=>oK (rd1 S14 V15) λV16=>oK (qAN V16) λV17=>∃I0:IvP,(∃m,I0 [(.int .i64 0)] S14 m)/\∀(f:Env) (s:Hq) (m0:Nat),I0 [f 21] s m0->
 qKT X (.ptr B3 0) (.ptr B13 0) V16 (.int .i64 V17) (f 21) I0 m0 K R s) S12) R S5) s
def qNN:Nat->List Nat:=λk=>cond (Nat.beq k 8) [21] (cond (Nat.beq k 22) [66] ([]))
theorem qO9{c0:AV}{K R:KvP}{s:Hq}(h:qTB X0 c0 K R s):qAf TP X0 SS 124 [c0] K R s:=
 qCV qKi qNN Tryz.func124 (by kernel_rfl:Tryz.f124.body=some (qBs Tryz.f124)) (by kernel_rfl) (by kernel_rfl) (Eq.mpr (by kernel_rfl) h)
def qIR(X:Td)(i5 t28 t115 t119 t123:AV)(I0:IvP)(m0:Nat)(K R:KvP)(s:Hq):Prop:=
 oK (qAO t119 t123 (.bool false)) λV78=>oK (qAO t115 (.bool true) V78) λV79=>qAf TP X SS 149 [V79,(.int .i64 11),(.str ⟨#[104,111,115,116,115]⟩),i5] (λV80 S81=>oK (qAH .add t28 (.int .i64 1)) λV82=>∃m',m'<m0/\I0 [V82] S81 m') R s
def qHt(X:Td)(x3 x4 i5 h6 t28 t97 t107:AV)(I0:IvP)(m0:Nat)(K R:KvP)(s:Hq):Prop:=
 oK (qAO t97 (.bool true) t107) λV66=>qAf TP X SS 149 [V66,(.int .i64 3),(.str ⟨#[104,111,115,116,115]⟩),i5] (λV67 S68=>oK (qAT 1 x3 i5) λV69=>oK (rd1 S68 V69) λV70=>qAK V70
 (oK (qAO V70 (.bool true) .undef) λV71=>qAf TP X SS 149 [V71,(.int .i64 11),(.str ⟨#[104,111,115,116,115]⟩),i5] (λV72 S73=>oK (qAH .add t28 (.int .i64 1)) λV74=>∃m',m'<m0/\I0 [V74] S73 m') R S68)
 (oK (qAC 1 h6) λV75=>oK (rd1 S68 V75) λV76=>oK (negB true (eqV 0 true V76 (.int .u32 0))) λV77=>qAK V77
 (oK (qAT 1 x4 i5) λV83=>oK (rd1 S68 V83) λV84=>qIR X i5 t28 V70 V77 V84 I0 m0 K R S68)
 (qIR X i5 t28 V70 V77 .undef I0 m0 K R S68))) R s
def qH1(X:Td)(t2 x3 x4 i5 h6 t28 t94 t95:AV)(I0:IvP)(m0:Nat)(K R:KvP)(s:Hq):Prop:=
 oK (qAO t94 (.bool true) t95) λV65=>qAK V65
 (qHt X x3 x4 i5 h6 t28 V65 .undef I0 m0 K R s)
 (oK (qAC 4 t2) λV85=>oK (rd1 s V85) λV86=>oK (qAC 2 h6) λV87=>oK (rd1 s V87) λV88=>oK (qAT 6 V86 V88) λV89=>oK (rdN s 6 V89) λV90=>oK (qAC 1 h6) λV91=>oK (rd1 s V91) λV92=>wC TP X 172 [(.agg V90),V92] (λV93 S94=>oK (qAi .not V93) λV95=>qHt X x3 x4 i5 h6 t28 V65 V95 I0 m0 K R S94) s)
def qH6(X:Td)(t2 x3 x4 i5 h6 t28 t69 t80:AV)(I0:IvP)(m0:Nat)(K R:KvP)(s:Hq):Prop:=
 oK (qAO t69 t80 (.bool false)) λV53=>qAf TP X SS 149 [V53,(.int .i64 8),(.str ⟨#[104,111,115,116,115]⟩),i5] (λV54 S55=>oK (qAC 0 h6) λV56=>oK (rd1 S55 V56) λV57=>wC TP X 171 [V57] (λV58 S59=>oK (qAl V58 0) λV60=>oK (qAl V58 1) λV61=>oK (qAC 0 h6) λV62=>oK (rd1 S59 V62) λV63=>oK (negB false (eqV 0 true V63 (.int .u64 1577058561))) λV64=>qAK V64
 (qH1 X t2 x3 x4 i5 h6 t28 V64 .undef I0 m0 K R S59)
 (qH1 X t2 x3 x4 i5 h6 t28 V64 V61 I0 m0 K R S59)) S55) R s
def qIK(X:Td)(t2 x3 x4 i5 h6 t28 t55 t62:AV)(I0:IvP)(m0:Nat)(K R:KvP)(s:Hq):Prop:=
 oK (qAO t55 (.bool true) t62) λV47=>qAf TP X SS 149 [V47,(.int .i64 2),(.str ⟨#[104,111,115,116,115]⟩),i5] (λV48 S49=>oK (qAC 3 h6) λV50=>oK (rd1 S49 V50) λV51=>oK (negB true (eqV 0 true V51 (.int .i64 (-1)))) λV52=>qAK V52
 (oK (qAC 5 t2) λV96=>oK (rd1 S49 V96) λV97=>oK (qAC 3 h6) λV98=>oK (rd1 S49 V98) λV99=>oK (qAT 2 V97 V99) λV100=>oK (qAC 1 V100) λV101=>oK (rd1 S49 V101) λV102=>oK (qAC 2 h6) λV103=>oK (rd1 S49 V103) λV104=>wC TP X 72 [V102,V104] (λV105 S106=>oK (qAi .not V105) λV107=>qH6 X t2 x3 x4 i5 h6 t28 V52 V107 I0 m0 K R S106) S49)
 (qH6 X t2 x3 x4 i5 h6 t28 V52 .undef I0 m0 K R S49)) R s
def qIF(X:Td)(t2 x3 x4 i5 h6 t28 t41 t44:AV)(I0:IvP)(m0:Nat)(K R:KvP)(s:Hq):Prop:=
 oK (qAO t41 (.bool true) t44) λV35=>qAf TP X SS 149 [V35,(.int .i64 2),(.str ⟨#[104,111,115,116,115]⟩),i5] (λV36 S37=>oK (qAC 2 h6) λV38=>oK (rd1 S37 V38) λV39=>oK (qAC 4 t2) λV40=>oK (rd1 S37 V40) λV41=>oK (qAN V41) λV42=>wC TP X 153 [V39,(.int .i64 V42)] (λV44 S45=>oK (qAi .not V44) λV46=>qAK V46
 (qIK X t2 x3 x4 i5 h6 t28 V46 .undef I0 m0 K R S45)
 (oK (qAC 3 h6) λV108=>oK (rd1 S45 V108) λV109=>oK (qAC 5 t2) λV110=>oK (rd1 S45 V110) λV111=>oK (qAN V111) λV112=>oK (qAH .sub (.int .i64 V112) (.int .i64 1)) λV114=>wC TP X 150 [V109,(.int .i64 (-1)),V114] (λV115 S116=>qIK X t2 x3 x4 i5 h6 t28 V46 V115 I0 m0 K R S116) S45)) S37) R s
def qIM(X:Td)(t2 x3 x4 i5 h6 t28 t36 t39:AV)(I0:IvP)(m0:Nat)(K R:KvP)(s:Hq):Prop:=
 oK (qAO t36 (.bool true) t39) λV34=>qAK V34
 (qIF X t2 x3 x4 i5 h6 t28 V34 .undef I0 m0 K R s)
 (oK (qAC 0 h6) λV117=>oK (rd1 s V117) λV118=>wC TP X 21 [V118] (λV119 S120=>qIF X t2 x3 x4 i5 h6 t28 V34 V119 I0 m0 K R S120) s)
def qNR(X:Td)(t2 x3 x4 t26 t27 t28:AV)(I0:IvP)(m0:Nat)(K R:KvP)(s:Hq):Prop:=
 oK (qAH .lss t28 t27) λV25=>qAK V25
 (oK (qAT 4 t26 t28) λV26=>oK (rdN s 4 V26) λV27=>newK 61 [(.int .u64 0),(.int .u32 0),(.int .i64 0),(.int .i64 0)] (λB28 S29=>oK (qBA S29 4 (.ptr B28 0) (.agg V27)) λS30=>oK (qAC 0 (.ptr B28 0)) λV31=>oK (rd1 S30 V31) λV32=>oK (negB false (eqV 0 true V32 (.int .u64 0))) λV33=>qAK V33
 (qIM X t2 x3 x4 t28 (.ptr B28 0) t28 V33 .undef I0 m0 K R S30)
 (oK (qAC 0 (.ptr B28 0)) λV121=>oK (rd1 S30 V121) λV122=>oK (qAH .gtr V122 (.int .u64 281474976710655)) λV123=>qIM X t2 x3 x4 t28 (.ptr B28 0) t28 V33 V123 I0 m0 K R S30)) s)
 (K (.tup []) s)
def qZN(X:Td)(c0:AV)(K R:KvP)(s:Hq):Prop:=
 oK (qAc c0) λV0=>oK (qAC 0 V0) λV1=>oK (rdN s 19 V1) λV2=>newK 31 zR1 (λB3 S4=>oK (qBA S4 19 (.ptr B3 0) (.agg V2)) λS5=>oK (qAC 6 (.ptr B3 0)) λV6=>oK (rd1 S5 V6) λV7=>oK (qAN V7) λV8=>oK (qAH .gtr (.int .i64 V8) (.int .i64 128)) λV10=>qAf TP X SS 149 [V10,(.int .i64 7),(.str ⟨#[104,111,115,116,115]⟩),(.int .i64 128)] (λV11 S12=>oK (qAC 6 (.ptr B3 0)) λV13=>oK (rd1 S12 V13) λV14=>wC TP X 168 [V14,(.fn (.func 169) [] [])] (λV15 S16=>oK (qAC 6 (.ptr B3 0)) λV17=>oK (rd1 S16 V17) λV18=>wC TP X 168 [V18,(.fn (.func 170) [] [])] (λV19 S20=>oK (qAC 6 (.ptr B3 0)) λV21=>oK (rd1 S20 V21) λV22=>oK (qAN V22) λV23=>∃I0:IvP,(∃m,I0 [(.int .i64 0)] S20 m)/\∀(f:Env) (s:Hq) (m0:Nat),I0 [f 28] s m0->
 qNR X (.ptr B3 0) V15 V19 V22 (.int .i64 V23) (f 28) I0 m0 K R s) S16) S12) R S5) s
def qSO:Nat->List Nat:=λk=>cond (Nat.beq k 10) [28] ([])
theorem qTw{c0:AV}{K R:KvP}{s:Hq}(h:qZN X0 c0 K R s):qAf TP X0 SS 125 [c0] K R s:=
 qCV qKi qSO Tryz.func125 (by kernel_rfl:Tryz.f125.body=some (qBs Tryz.f125)) (by kernel_rfl) (by kernel_rfl) (Eq.mpr (by kernel_rfl) h)
def qIJ(X:Td)(x4 i5 t24 t52 t56:AV)(I0:IvP)(m0:Nat)(K R:KvP)(s:Hq):Prop:=
 oK (qAO t52 (.bool true) t56) λV44=>qAf TP X SS 149 [V44,(.int .i64 3),(.str ⟨#[108,101,97,107,115]⟩),i5] (λV45 S46=>oK (qAT 1 x4 i5) λV47=>oK (rd1 S46 V47) λV48=>qAf TP X SS 149 [V48,(.int .i64 11),(.str ⟨#[108,101,97,107,115]⟩),i5] (λV49 S50=>oK (qAH .add t24 (.int .i64 1)) λV51=>∃m',m'<m0/\I0 [V51] S50 m') R S46) R s
def qIU(X:Td)(x4 i5 l6 t24 t36 t43:AV)(I0:IvP)(m0:Nat)(K R:KvP)(s:Hq):Prop:=
 oK (qAO t36 (.bool true) t43) λV36=>qAf TP X SS 149 [V36,(.int .i64 2),(.str ⟨#[108,101,97,107,115]⟩),i5] (λV37 S38=>oK (qAC 0 l6) λV39=>oK (rd1 S38 V39) λV40=>oK (qAC 1 l6) λV41=>oK (rd1 S38 V41) λV42=>oK (negB false (eqV 0 false V40 V42)) λV43=>qAK V43
 (qIJ X x4 i5 t24 V43 .undef I0 m0 K R S38)
 (oK (qAC 2 l6) λV52=>oK (rdN S38 2 V52) λV53=>wC TP X 161 [(.agg V53)] (λV54 S55=>oK (qAi .not V54) λV56=>qIJ X x4 i5 t24 V43 V56 I0 m0 K R S55) S38)) R s
def qN9(X:Td)(t2 x4 t22 t23 t24:AV)(I0:IvP)(m0:Nat)(K R:KvP)(s:Hq):Prop:=
 oK (qAH .lss t24 t23) λV21=>qAK V21
 (oK (qAT 4 t22 t24) λV22=>oK (rdN s 4 V22) λV23=>newK 118 [(.int .i64 0),(.int .i64 0),(.int .u32 0),(.int .i64 0)] (λB24 S25=>oK (qBA S25 4 (.ptr B24 0) (.agg V23)) λS26=>oK (qAC 0 (.ptr B24 0)) λV27=>oK (rd1 S26 V27) λV28=>oK (qAC 3 t2) λV29=>oK (rd1 S26 V29) λV30=>oK (qAN V30) λV31=>wC TP X 153 [V28,(.int .i64 V31)] (λV33 S34=>oK (qAi .not V33) λV35=>qAK V35
 (qIU X x4 t24 (.ptr B24 0) t24 V35 .undef I0 m0 K R S34)
 (oK (qAC 1 (.ptr B24 0)) λV57=>oK (rd1 S34 V57) λV58=>oK (qAC 3 t2) λV59=>oK (rd1 S34 V59) λV60=>oK (qAN V60) λV61=>wC TP X 153 [V58,(.int .i64 V61)] (λV63 S64=>oK (qAi .not V63) λV65=>qIU X x4 t24 (.ptr B24 0) t24 V35 V65 I0 m0 K R S64) S34)) S26) s)
 (K (.tup []) s)
def qZn(X:Td)(c0:AV)(K R:KvP)(s:Hq):Prop:=
 oK (qAc c0) λV0=>oK (qAC 0 V0) λV1=>oK (rdN s 19 V1) λV2=>newK 31 zR1 (λB3 S4=>oK (qBA S4 19 (.ptr B3 0) (.agg V2)) λS5=>oK (qAC 7 (.ptr B3 0)) λV6=>oK (rd1 S5 V6) λV7=>oK (qAN V7) λV8=>oK (qAH .gtr (.int .i64 V8) (.int .i64 256)) λV10=>qAf TP X SS 149 [V10,(.int .i64 7),(.str ⟨#[108,101,97,107,115]⟩),(.int .i64 256)] (λV11 S12=>oK (qAC 7 (.ptr B3 0)) λV13=>oK (rd1 S12 V13) λV14=>wC TP X 173 [V14,(.fn (.func 174) [] [])] (λV15 S16=>oK (qAC 7 (.ptr B3 0)) λV17=>oK (rd1 S16 V17) λV18=>oK (qAN V18) λV19=>∃I0:IvP,(∃m,I0 [(.int .i64 0)] S16 m)/\∀(f:Env) (s:Hq) (m0:Nat),I0 [f 24] s m0->
 qN9 X (.ptr B3 0) V15 V18 (.int .i64 V19) (f 24) I0 m0 K R s) S12) R S5) s
def qR4:Nat->List Nat:=λk=>cond (Nat.beq k 10) [24] ([])
theorem qS4{c0:AV}{K R:KvP}{s:Hq}(h:qZn X0 c0 K R s):qAf TP X0 SS 126 [c0] K R s:=
 qCV qKi qR4 Tryz.func126 (by kernel_rfl:Tryz.f126.body=some (qBs Tryz.f126)) (by kernel_rfl) (by kernel_rfl) (Eq.mpr (by kernel_rfl) h)
def qCi(X:Td)(t0 t1 t2 v:AV)(K:KvP)(s:Hq):Prop:=
 oK (negB false (eqV 4 true v .nilIface)) λV0=>qAK V0
 (K (.tup []) s)
 (oK (zAAS 156 (some (.agg [(.int .i64 0),(.str ⟨#[]⟩),(.int .i64 0)])) true v) λV1=>oK (qAl V1 1) λV2=>oK (qAl V1 0) λV3=>qAK V2
 (newK 156 [(.int .i64 0),(.str ⟨#[]⟩),(.int .i64 0)] (λB4 S5=>oK (qBA S5 3 (.ptr B4 0) V3) λS6=>oK (qAC 0 (.ptr B4 0)) λV7=>oK (rd1 S6 V7) λV8=>oK (qAC 1 (.ptr B4 0)) λV9=>oK (rd1 S6 V9) λV10=>oK (qAC 2 (.ptr B4 0)) λV11=>oK (rd1 S6 V11) λV12=>((cutH [((hdel S6 (qOJ V9)),S6),((hdel S6 (qOJ V11)),S6)] S6) (qOJ t0)≠none)/\
 oK (wr1 S6 t0 V8) λS13=>((cutH [((hdel S6 (qOJ V11)),S6)] S13) (qOJ t1)≠none)/\
 oK (wr1 S13 t1 V10) λS14=>oK (wr1 S14 t2 V12) λS15=>K (.tup []) S15) s)
 (oK (wr1 s t0 (.int .i64 3)) λS16=>oK (wr1 S16 t1 (.str ⟨#[102,97,98,114,105,99]⟩)) λS17=>oK (wr1 S17 t2 (.int .i64 0)) λS18=>K (.tup []) S18))
theorem qFS(X:Td)(t0 t1 t2 v:AV)(K:KvP)(s:Hq):wpC TP X nA0 Tryz.f97.ntmps none (qRv (qBs Tryz.f97)) (qNe (qBs Tryz.f97) (qJ3 [t0,t1,t2]) v) (λe env s=>retK e (resK TP Tryz.f97.results.toList env (λvs=>K (oneV vs) s) s)) s=qCi X t0 t1 t2 v K s:=by kernel_rfl
theorem qJ4{t0 t1 t2 v:AV}{K:KvP}{s:Hq}(h:qCi X0 t0 t1 t2 v K s):qXA TP X0 97 [t0,t1,t2] v (λs=>K (.tup []) s) s:=
 qU7 qKi nA0 Tryz.func97 (by kernel_rfl:Tryz.f97.body=some (qBs Tryz.f97)) (by kernel_rfl) (by kernel_rfl) (by kernel_rfl) ((qFS X0 t0 t1 t2 v K s).mpr h)
def qGV(X:Td)(err2 x3 x4 c5 t8 t12 t13 t14:AV)(I0:IvP)(m0:Nat)(K:KvP)(s:Hq):Prop:=
 oK (qAH .lss t14 t13) λV16=>qAK V16
 (oK (qAT 1 t12 t14) λV17=>oK (rd1 s V17) λV18=>qUy TP X SS V18 [c5] (λV19 S20=>oK (qAH .add t14 (.int .i64 1)) λV21=>∃m',m'<m0/\I0 [V21] S20 m') (λV22 S23=>recK TP X t8 V22 (λS24=>oK (rd1 S24 err2) λerr2_25=>oK (rd1 S24 x3) λpart3_26=>oK (rd1 S24 x4) λindex4_27=>K (.tup [err2_25,part3_26,index4_27]) S24) S23) s)
 (oK (wr1 s err2 (.int .i64 0)) λS28=>oK (wr1 S28 x3 (.str ⟨#[]⟩)) λS29=>oK (wr1 S29 x4 (.int .i64 0)) λS30=>runK TP X t8 (λS31=>oK (rd1 S31 err2) λerr2_32=>oK (rd1 S31 x3) λpart3_33=>oK (rd1 S31 x4) λindex4_34=>K (.tup [err2_32,part3_33,index4_34]) S31) S30)
def qN6(X:Td)(t0:AV)(K:KvP)(s:Hq):Prop:=
 boxK 31 t0 (λB0 S1=>newK 132 [(.int .i64 0)] (λB2 S3=>newK 9 [(.str ⟨#[]⟩)] (λB4 S5=>newK 3 [(.int .i64 0)] (λB6 S7=>qWy TP (.fn (.func 97) [] [(.ptr B2 0),(.ptr B4 0),(.ptr B6 0)])/\
 oK (rdN S7 19 B0) λV8=>oK (qBb zR1 [(0,19,(.agg V8))]) λC9=>boxK 159 (.agg C9) (λB10 S11=>wC TP X 98 [] (λV12 S13=>oK (qAN V12) λV14=>∃I0:IvP,(∃m,I0 [(.int .i64 0)] S13 m)/\∀(f:Env) (s:Hq) (m0:Nat),I0 [f 14] s m0->
 qGV X (.ptr B2 0) (.ptr B4 0) (.ptr B6 0) B10 (.fn (.func 97) [] [(.ptr B2 0),(.ptr B4 0),(.ptr B6 0)]) V12 (.int .i64 V14) (f 14) I0 m0 K s) S11) S7) S5) S3) S1) s
def qKW:Nat->List Nat:=λk=>cond (Nat.beq k 8) [14] ([])
theorem qKy{t0:AV}{K R:KvP}{s:Hq}(h:qN6 X0 t0 K s):qAf TP X0 SS 70 [t0] K R s:=
 qQm qKi qKW Tryz.func70 (by kernel_rfl:Tryz.f70.body=some (qBs Tryz.f70)) (by kernel_rfl) (Eq.mpr (by kernel_rfl) h)
end Go.AM
