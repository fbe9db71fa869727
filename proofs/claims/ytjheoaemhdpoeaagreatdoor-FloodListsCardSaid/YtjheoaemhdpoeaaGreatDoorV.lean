/- Part V of the proof: see the last part. -/
import Derived.Test.YtjheoaemhdpoeaaGreatDoorU2
import Derived.Test.YtjheoaemhdpoeaaGreatDoorProg
import Derived.KernelRfl
set_option linter.unusedVariables false
namespace Go.AM
open Go Go.Proofs
noncomputable abbrev TP:Program:=Tryz.prog
theorem wOK{P:Program}{X:Td}(hX:FrX X)(A:Nat->List Nat){n:FuncId}(hn:X n=none){f:Func}(h1:P.funcs[n]?=some f){args:List AV}{K:AV->Hq->Prop}{s:Hq}{Q:Prop}(h:Q)(hb:f.body=some (qAr f):=by kernel_rfl)(hl:Nat.ble args.length f.ntmps=true:=by kernel_rfl)(he:wpC P X A f.ntmps none (qAr f) (qHZ args) (λe env s=>retK e (resK P f.results.toList env (λvs=>K (oneV vs) s) s)) s=Q:=by kernel_rfl):wC P X n args K s:=
  qOX hX A hn h1 hb hl (Eq.mpr he h)
def nA0:Nat->List Nat:=λ_=>[]
abbrev zR0:List AV:=[(.int .i64 0),(.int .u64 0),(.int .u8 0),(.int .u8 0),(.int .u8 0),(.int .u8 0),(.int .u8 0),(.int .u8 0),(.int .u8 0),(.int .u8 0),(.int .u8 0),(.int .u8 0),(.int .u32 0),(.int .u64 0),(.int .u32 0),(.bool false),(.int .u32 0),(.int .i64 0),(.int .u32 0),(.int .u32 0),(.int .u32 0),(.int .i64 0),.nilslc,(.int .u32 0),(.bool false),(.int .u32 0),(.bool false),(.int .u32 0),(.bool false),(.int .u32 0),.nilslc,.nilslc,(.int .i64 0),(.int .u32 0),(.int .u32 0),(.int .u32 0),(.int .u32 0),(.bool false)]
abbrev zR1:List AV:=[(.int .i64 0),(.int .i64 0),.nilslc,.nilslc,.nilslc,.nilslc,.nilslc,.nilslc,(.int .i64 0),(.int .i64 0),(.int .i64 0),(.bool false),(.bool false),(.int .i64 0),(.int .i64 0),(.int .i64 0),(.int .i64 0),(.int .i64 0),(.int .i64 0)]
abbrev IvP:=List AV->Hq->Nat->Prop
abbrev KvP:=AV->Hq->Prop
abbrev LvP:=List Nat->List AV->Hq->Prop
set_option maxRecDepth 100000
abbrev kindsL:List AV:=[.int .i64 1,.int .u8 0,.int .u8 2,.int .i64 2,.int .u8 3,.int .u8 12,.int .i64 3,.int .u8 6,.int .u8 0,.int .i64 4,.int .u8 6,.int .u8 1,.int .i64 5,.int .u8 6,.int .u8 2,.int .i64 6,.int .u8 6,.int .u8 3,.int .i64 7,.int .u8 6,.int .u8 6]
abbrev X0:Td:=qIC 0 kindsL [10,5]
theorem qLV:FrX X0:=qQm _ _ _
abbrev SS:FuncId->Bool:=λk=>memN k [107,87,88,89,90,91,92,93,94]
noncomputable abbrev XL:Td:=limX TP X0 SS [31]
noncomputable abbrev XX:Td:=orX XL (orX (sortedUX 35 70 101 42) X0)
theorem qBT:FrX XX:=zADA (zAAI qLV _) (zADA (qPG 35 70 101 42) qLV)
structure Fn0(Y:Td):Prop where
 fr:FrX Y
 no:∀k,memN k (35::31 :: [10,5])=false->Y k=none
theorem X0_h{k:Nat}(h:memN k (35::31 :: [10,5])=false):memN k [10,5]=false:=by unfold memN at h;cases e:Nat.beq k 35<;>rw[e]at h<;>first|(unfold memN at h;cases e:Nat.beq k 31<;>rw[e]at h<;>first|exact h|cases h)|cases h
theorem X0_0:Fn0 X0:=⟨qLV,λk h=>by show cond (memN k [10,5]) _ _=_;rw[X0_h h];rfl⟩
theorem XX_1{k:Nat}(h:memN k (35::31 :: [10,5])=false):memN k [31]=false:=by unfold memN at h;cases e:Nat.beq k 35<;>rw[e]at h<;>first|(unfold memN at h;cases e:Nat.beq k 31<;>rw[e]at h<;>first|(unfold memN;rw[e];rfl)|cases h)|cases h
theorem XX_2{k:Nat}(h:memN k (35::31 :: [10,5])=false):limX TP X0 SS [31] k=none:=by show cond (memN k [31]) _ _=_;rw[XX_1 h];rfl
theorem XX_3{k:Nat}(h:memN k (35::31 :: [10,5])=false):sortedUX 35 70 101 42 k=none:=by unfold memN at h;cases e:Nat.beq k 35<;>rw[e]at h<;>first|(unfold sortedUX;rw[e];rfl)|cases h
theorem XX_0:Fn0 XX:=⟨qBT,λk h=>by show(match limX TP X0 SS [31] k with|some g=>some g|none=>(match sortedUX 35 70 101 42 k with|some g=>some g|none=>X0 k))=none;rw[XX_2 h,XX_3 h];exact X0_0.no k h⟩
def qSy(X:Td)(K:KvP)(s:Hq):Prop:=
 oK (qCJ (repl 8 [.nilFunc]) [(0,1,(.fn (.func 87) [] [])),(1,1,(.fn (.func 88) [] [])),(2,1,(.fn (.func 89) [] [])),(3,1,(.fn (.func 90) [] [])),(4,1,(.fn (.func 91) [] [])),(5,1,(.fn (.func 92) [] [])),(6,1,(.fn (.func 93) [] [])),(7,1,(.fn (.func 94) [] []))]) λC0=>qAg C0=true/\newK 153 C0 (λB1 S2=>K (.slc B1 0 8 (some 8) 1) S2) s
theorem qTP{X:Td}(hX:FrX X)(hn:X 62=none){K:KvP}{s:Hq}(h:qSy X K s):wC TP X 62 [] K s:=
 wOK hX nA0 hn Tryz.func62 h
def qMT(X:Td)(t10 t13:AV)(K:KvP)(s:Hq):Prop:=
 oK (qAT t10 (.bool true) t13) λV1=>K V1 s
def qQo(X:Td)(n0 x1 high2:AV)(K:KvP)(s:Hq):Prop:=
 oK (qAB .lss n0 x1) λV0=>qAK V0
 (qMT X V0 .undef K s)
 (oK (qAB .gtr n0 high2) λV2=>qMT X V0 V2 K s)
theorem qRy{X:Td}(hX:FrX X)(hn:X 108=none){n0 x1 high2:AV}{K:KvP}{s:Hq}(h:qQo X n0 x1 high2 K s):wC TP X 108 [n0,x1,high2] K s:=
 wOK hX nA0 hn Tryz.func108 h
def qFf(X:Td)(x1 x5 x6 t16 t17 t18:AV)(I0:IvP)(m0:Nat)(K:KvP)(s:Hq):Prop:=
 oK (qAB .lss t18 t17) λV12=>qAK V12
 (oK (qAM 3 t16 t18) λV13=>oK (rdN s 3 V13) λV14=>newK 115 [(.int .i64 0),(.int .i64 0),(.int .i64 0)] (λB15 S16=>oK (qBx S16 3 (.ptr B15 0) (.agg V14)) λS17=>oK (rdN S17 3 (.ptr B15 0)) λV18=>funK TP X x1 [(.agg V18)] (λV19 S20=>newK 187 [(.int .i64 0),(.int .i64 0)] (λB21 S22=>oK (qBx S22 2 (.ptr B21 0) V19) λS23=>oK (rdN S23 2 (.ptr B21 0)) λV24=>oK (getG TP 187 S23 x5 (.agg V24)) λr_25=>oK (qAM 1 x6 t18) λV26=>oK (wr1 S23 V26 (retM (.bool false) false r_25)) λS27=>oK (rdN S27 2 (.ptr B21 0)) λV28=>oK (putG TP 187 S27 x5 (.agg V28) (.bool true)) λS29=>oK (qAB .add t18 (.int .i64 1)) λV30=>∃m',m'<m0/\I0 [V30] S29 m') S20) S17) s)
 (K x6 s)
def qHU(X:Td)(l0 x1:AV)(K:KvP)(s:Hq):Prop:=
 oK (qAQ l0) λV0=>intK (.int .i64 V0) (mapK (λV2 S3=>oK (qAQ l0) λV4=>oK (nat? (.int .i64 V4)) λn_6=>oK (nat? (.int .i64 V4)) λn_7=>(n_6<=n_7/\n_7<=4294967296)/\newK 4 (repl n_7 [(.bool false)]) (λB8 S9=>oK (qAQ l0) λV10=>∃I0:IvP,(∃m,I0 [(.int .i64 0)] S9 m)/\∀(f:Env) (s:Hq) (m0:Nat),I0 [f 18] s m0->
 qFf X x1 V2 (.slc B8 0 n_6 (some n_7) 1) l0 (.int .i64 V10) (f 18) I0 m0 K s) S3) s)
def qIy:Nat->List Nat:=λk=>cond (Nat.beq k 8) [18] ([])
theorem qJs{X:Td}(hX:FrX X)(hn:X 109=none){l0 x1:AV}{K:KvP}{s:Hq}(h:qHU X l0 x1 K s):wC TP X 109 [l0,x1] K s:=
 wOK hX qIy hn Tryz.func109 h
def qX4(X:Td)(l0:AV)(K:KvP)(s:Hq):Prop:=
 boxK 115 l0 (λB0 S1=>newK 187 [(.int .i64 0),(.int .i64 0)] (λB2 S3=>oK (qAC 0 B0) λV4=>oK (rd1 S3 V4) λV5=>oK (qAC 1 B0) λV6=>oK (rd1 S3 V6) λV7=>oK (qCJ [(.int .i64 0),(.int .i64 0)] [(0,1,V5),(1,1,V7)]) λC8=>oK (qBx S3 2 (.ptr B2 0) (.agg C8)) λS9=>oK (rdN S9 2 (.ptr B2 0)) λt2_10=>K (.agg t2_10) S9) S1) s
theorem qRf{X:Td}(hX:FrX X)(hn:X 110=none){l0:AV}{K:KvP}{s:Hq}(h:qX4 X l0 K s):wC TP X 110 [l0] K s:=
 wOK hX nA0 hn Tryz.func110 h
def qE6(X:Td)(x1 x5 x6 t16 t17 t18:AV)(I0:IvP)(m0:Nat)(K:KvP)(s:Hq):Prop:=
 oK (qAB .lss t18 t17) λV12=>qAK V12
 (oK (qAM 2 t16 t18) λV13=>oK (rdN s 2 V13) λV14=>newK 117 [(.int .u32 0),(.int .u32 0)] (λB15 S16=>oK (qBx S16 2 (.ptr B15 0) (.agg V14)) λS17=>oK (rdN S17 2 (.ptr B15 0)) λV18=>funK TP X x1 [(.agg V18)] (λV19 S20=>oK (getM S20 x5 V19) λr_21=>oK (qAM 1 x6 t18) λV22=>oK (wr1 S20 V22 (retM (.bool false) false r_21)) λS23=>oK (putM S23 x5 V19 (.bool true)) λS24=>oK (qAB .add t18 (.int .i64 1)) λV25=>∃m',m'<m0/\I0 [V25] S24 m') S17) s)
 (K x6 s)
def qGQ(X:Td)(l0 x1:AV)(K:KvP)(s:Hq):Prop:=
 oK (qAQ l0) λV0=>intK (.int .i64 V0) (mapK (λV2 S3=>oK (qAQ l0) λV4=>oK (nat? (.int .i64 V4)) λn_6=>oK (nat? (.int .i64 V4)) λn_7=>(n_6<=n_7/\n_7<=4294967296)/\newK 4 (repl n_7 [(.bool false)]) (λB8 S9=>oK (qAQ l0) λV10=>∃I0:IvP,(∃m,I0 [(.int .i64 0)] S9 m)/\∀(f:Env) (s:Hq) (m0:Nat),I0 [f 18] s m0->
 qE6 X x1 V2 (.slc B8 0 n_6 (some n_7) 1) l0 (.int .i64 V10) (f 18) I0 m0 K s) S3) s)
def qIE:Nat->List Nat:=λk=>cond (Nat.beq k 8) [18] ([])
theorem qIl{X:Td}(hX:FrX X)(hn:X 111=none){l0 x1:AV}{K:KvP}{s:Hq}(h:qGQ X l0 x1 K s):wC TP X 111 [l0,x1] K s:=
 wOK hX qIE hn Tryz.func111 h
def qS8(X:Td)(t0:AV)(K:KvP)(s:Hq):Prop:=
 boxK 117 t0 (λB0 S1=>oK (qAC 0 B0) λV2=>oK (rd1 S1 V2) λV3=>K V3 S1) s
theorem qOd{X:Td}(hX:FrX X)(hn:X 112=none){t0:AV}{K:KvP}{s:Hq}(h:qS8 X t0 K s):wC TP X 112 [t0] K s:=
 wOK hX nA0 hn Tryz.func112 h
def qPF(X:Td)(t0:AV)(K:KvP)(s:Hq):Prop:=
 boxK 117 t0 (λB0 S1=>oK (qAC 1 B0) λV2=>oK (rd1 S1 V2) λV3=>K V3 S1) s
theorem qMR{X:Td}(hX:FrX X)(hn:X 113=none){t0:AV}{K:KvP}{s:Hq}(h:qPF X t0 K s):wC TP X 113 [t0] K s:=
 wOK hX nA0 hn Tryz.func113 h
def qGm(X:Td)(x1 x5 x6 t16 t17 t18:AV)(I0:IvP)(m0:Nat)(K:KvP)(s:Hq):Prop:=
 oK (qAB .lss t18 t17) λV12=>qAK V12
 (oK (qAM 6 t16 t18) λV13=>oK (rdN s 6 V13) λV14=>newK 87 [(.int .i64 0),(.int .u32 0),(.int .u32 0),(.int .u32 0),(.int .i64 0),(.int .u32 0)] (λB15 S16=>oK (qBx S16 6 (.ptr B15 0) (.agg V14)) λS17=>oK (rdN S17 6 (.ptr B15 0)) λV18=>funK TP X x1 [(.agg V18)] (λV19 S20=>oK (getM S20 x5 V19) λr_21=>oK (qAM 1 x6 t18) λV22=>oK (wr1 S20 V22 (retM (.bool false) false r_21)) λS23=>oK (putM S23 x5 V19 (.bool true)) λS24=>oK (qAB .add t18 (.int .i64 1)) λV25=>∃m',m'<m0/\I0 [V25] S24 m') S17) s)
 (K x6 s)
def qIn(X:Td)(l0 x1:AV)(K:KvP)(s:Hq):Prop:=
 oK (qAQ l0) λV0=>intK (.int .i64 V0) (mapK (λV2 S3=>oK (qAQ l0) λV4=>oK (nat? (.int .i64 V4)) λn_6=>oK (nat? (.int .i64 V4)) λn_7=>(n_6<=n_7/\n_7<=4294967296)/\newK 4 (repl n_7 [(.bool false)]) (λB8 S9=>oK (qAQ l0) λV10=>∃I0:IvP,(∃m,I0 [(.int .i64 0)] S9 m)/\∀(f:Env) (s:Hq) (m0:Nat),I0 [f 18] s m0->
 qGm X x1 V2 (.slc B8 0 n_6 (some n_7) 1) l0 (.int .i64 V10) (f 18) I0 m0 K s) S3) s)
def qKW:Nat->List Nat:=λk=>cond (Nat.beq k 8) [18] ([])
theorem qK4{X:Td}(hX:FrX X)(hn:X 114=none){l0 x1:AV}{K:KvP}{s:Hq}(h:qIn X l0 x1 K s):wC TP X 114 [l0,x1] K s:=
 wOK hX qKW hn Tryz.func114 h
def qTF(X:Td)(b0:AV)(K:KvP)(s:Hq):Prop:=
 boxK 87 b0 (λB0 S1=>oK (qAC 1 B0) λV2=>oK (rd1 S1 V2) λV3=>K V3 S1) s
theorem qPT{X:Td}(hX:FrX X)(hn:X 115=none){b0:AV}{K:KvP}{s:Hq}(h:qTF X b0 K s):wC TP X 115 [b0] K s:=
 wOK hX nA0 hn Tryz.func115 h
def qPe(X:Td)(b0:AV)(K:KvP)(s:Hq):Prop:=
 boxK 87 b0 (λB0 S1=>oK (qAC 2 B0) λV2=>oK (rd1 S1 V2) λV3=>K V3 S1) s
theorem qL2{X:Td}(hX:FrX X)(hn:X 116=none){b0:AV}{K:KvP}{s:Hq}(h:qPe X b0 K s):wC TP X 116 [b0] K s:=
 wOK hX nA0 hn Tryz.func116 h
def qIR(X:Td)(l0 x1 k2:AV)(K:KvP)(s:Hq):Prop:=
 boxK 190 x1 (λB0 S1=>boxK 41 k2 (λB2 S3=>wC TP X 170 [l0,(.fn (.func 171) [] [B0,B2])] (λV4 S5=>K V4 S5) S3) S1) s
theorem qG1{X:Td}(hX:FrX X)(hn:X 117=none){l0 x1 k2:AV}{K:KvP}{s:Hq}(h:qIR X l0 x1 k2 K s):wC TP X 117 [l0,x1,k2] K s:=
 wOK hX nA0 hn Tryz.func117 h
def qOz(X:Td)(t12 t15:AV)(K:KvP)(s:Hq):Prop:=
 oK (qAT t12 t15 (.bool false)) λV11=>K V11 s
def zAA8(X:Td)(p0:AV)(K:KvP)(s:Hq):Prop:=
 boxK 71 p0 (λB0 S1=>oK (rdN S1 2 B0) λV2=>wC TP X 172 [(.agg V2)] (λV3 S4=>oK (qAf V3 0) λV5=>oK (qAf V3 1) λV6=>newK 71 [(.int .u32 0),(.int .i64 0)] (λB7 S8=>oK (qBx S8 2 (.ptr B7 0) V5) λS9=>oK (negB false (eqV 0 true V6 (.int .i64 0))) λV10=>qAK V10
 (oK (rdN S9 2 (.ptr B7 0)) λV12=>oK (rdN S9 2 B0) λV13=>oK (negB false (qLS TP 71 (.agg V12) (.agg V13))) λV14=>qOz X V10 V14 K S9)
 (qOz X V10 .undef K S9)) S4) S1) s
theorem qVP{X:Td}(hX:FrX X)(hn:X 118=none){p0:AV}{K:KvP}{s:Hq}(h:zAA8 X p0 K s):wC TP X 118 [p0] K s:=
 wOK hX nA0 hn Tryz.func118 h
def qLl(X:Td)(t23 t26:AV)(K:KvP)(s:Hq):Prop:=
 oK (qAT t23 t26 (.bool false)) λV14=>K V14 s
def qLT(X:Td)(x1 x5 t17 t21:AV)(K:KvP)(s:Hq):Prop:=
 oK (qAT t17 t21 (.bool false)) λV13=>qAK V13
 (oK (negB true (eqV 0 false x1 x5)) λV15=>qLl X V13 V15 K s)
 (qLl X V13 .undef K s)
def zABw(X:Td)(p0 x1:AV)(K:KvP)(s:Hq):Prop:=
 boxK 71 p0 (λB0 S1=>oK (qAC 0 B0) λV2=>oK (rd1 S1 V2) λV3=>oK (qAC 1 B0) λV4=>oK (rd1 S1 V4) λV5=>oK (qAB .sub (.int .i64 32) V5) λV6=>oK (qDB .shl (.int .u32 1) V6) λV7=>oK (qAB .sub V7 (.int .u32 1)) λV8=>oK (qAB .or V3 V8) λV9=>oK (rdN S1 2 B0) λV10=>wC TP X 122 [(.agg V10),x1] (λV11 S12=>qAK V11
 (oK (qAC 0 B0) λV16=>oK (rd1 S12 V16) λV17=>oK (negB true (eqV 0 false x1 V17)) λV18=>qLT X x1 V9 V11 V18 K S12)
 (qLT X x1 V9 V11 .undef K S12)) S1) s
theorem qVN{X:Td}(hX:FrX X)(hn:X 119=none){p0 x1:AV}{K:KvP}{s:Hq}(h:zABw X p0 x1 K s):wC TP X 119 [p0,x1] K s:=
 wOK hX nA0 hn Tryz.func119 h
def qC2(X:Td)(t0 t1:AV)(K:KvP)(s:Hq):Prop:=
 wC TP X 173 [t0,t1] (λV0 S1=>oK (qAB .geq V0 (.int .i64 0)) λV2=>K V2 S1) s
theorem qEo{X:Td}(hX:FrX X)(hn:X 120=none){t0 t1:AV}{K:KvP}{s:Hq}(h:qC2 X t0 t1 K s):wC TP X 120 [t0,t1] K s:=
 wOK hX nA0 hn Tryz.func120 h
def qKT(X:Td)(t14 t21 t27:AV)(K:KvP)(s:Hq):Prop:=
 oK (qAT t21 (.bool true) t27) λV15=>oK (qAT t14 V15 (.bool false)) λV16=>K V16 s
def qFM(X:Td)(t1 x2 t9 t12:AV)(K:KvP)(s:Hq):Prop:=
 oK (qAT t9 t12 (.bool false)) λV7=>qAK V7
 (oK (qAC 3 x2) λV8=>oK (rdN s 2 V8) λV9=>oK (qAC 3 t1) λV10=>oK (qAC 0 V10) λV11=>oK (rd1 s V11) λV12=>wC TP X 122 [(.agg V9),V12] (λV13 S14=>qAK V13
 (qKT X V7 V13 .undef K S14)
 (oK (qAC 3 t1) λV17=>oK (rdN S14 2 V17) λV18=>oK (qAC 3 x2) λV19=>oK (qAC 0 V19) λV20=>oK (rd1 S14 V20) λV21=>wC TP X 122 [(.agg V18),V21] (λV22 S23=>qKT X V7 V13 V22 K S23) S14)) s)
 (oK (qAT V7 .undef (.bool false)) λV24=>K V24 s)
def qSu(X:Td)(x0 t1:AV)(K:KvP)(s:Hq):Prop:=
 boxK 87 x0 (λB0 S1=>oK (qAC 0 B0) λV2=>oK (rd1 S1 V2) λV3=>oK (qAC 0 t1) λV4=>oK (rd1 S1 V4) λV5=>oK (negB false (eqV 0 false V3 V5)) λV6=>qAK V6
 (oK (qAC 5 B0) λV25=>oK (rd1 S1 V25) λV26=>oK (negB true (eqV 0 true V26 (.int .u32 0))) λV27=>qFM X t1 B0 V6 V27 K S1)
 (qFM X t1 B0 V6 .undef K S1)) s
theorem qPR{X:Td}(hX:FrX X)(hn:X 121=none){x0 t1:AV}{K:KvP}{s:Hq}(h:qSu X x0 t1 K s):wC TP X 121 [x0,t1] K s:=
 wOK hX nA0 hn Tryz.func121 h
def qNu(X:Td)(p0 x1:AV)(K:KvP)(s:Hq):Prop:=
 boxK 71 p0 (λB0 S1=>oK (rdN S1 2 B0) λV2=>wC TP X 174 [(.agg V2)] (λV3 S4=>qAK V3
 (oK (qAC 0 B0) λV5=>oK (rd1 S4 V5) λV6=>oK (qAB .xor V6 x1) λV7=>oK (qAC 1 B0) λV8=>oK (rd1 S4 V8) λV9=>wC TP X 175 [V9] (λV10 S11=>(∀b,S4 b≠none->S4 b=none->S11 b=none)->
 oK (qAB .and V7 V10) λV12=>oK (negB false (eqV 0 true V12 (.int .u32 0))) λV13=>oK (qAT V3 V13 (.bool false)) λV14=>K V14 (add S4 S11)) (frz S4))
 (oK (qAT V3 .undef (.bool false)) λV15=>K V15 S4)) S1) s
theorem qLL{X:Td}(hX:FrX X)(hn:X 122=none){p0 x1:AV}{K:KvP}{s:Hq}(h:qNu X p0 x1 K s):wC TP X 122 [p0,x1] K s:=
 wOK hX nA0 hn Tryz.func122 h
def qEX(X:Td)(t0 t1:AV)(K:KvP)(s:Hq):Prop:=
 wC TP X 176 [t0,t1] (λV0 S1=>oK (qAB .geq V0 (.int .i64 0)) λV2=>K V2 S1) s
theorem qGX{X:Td}(hX:FrX X)(hn:X 123=none){t0 t1:AV}{K:KvP}{s:Hq}(h:qEX X t0 t1 K s):wC TP X 123 [t0,t1] K s:=
 wOK hX nA0 hn Tryz.func123 h
def qMK(X:Td)(n0 t1:AV)(K:KvP)(s:Hq):Prop:=
 oK (qAC 0 t1) λV0=>oK (rd1 s V0) λV1=>wC TP X 76 [n0,V1] (λV2 S3=>oK (qAj .not V2) λV4=>K V4 S3) s
theorem qNx{X:Td}(hX:FrX X)(hn:X 124=none){n0 t1:AV}{K:KvP}{s:Hq}(h:qMK X n0 t1 K s):wC TP X 124 [n0,t1] K s:=
 wOK hX nA0 hn Tryz.func124 h
def qLo(X:Td)(b0 t1:AV)(K:KvP)(s:Hq):Prop:=
 oK (qAC 4 t1) λV0=>oK (rd1 s V0) λV1=>oK (qAQ V1) λV2=>wC TP X 76 [b0,(.int .i64 V2)] (λV4 S5=>oK (qAj .not V4) λV6=>K V6 S5) s
theorem qNf{X:Td}(hX:FrX X)(hn:X 125=none){b0 t1:AV}{K:KvP}{s:Hq}(h:qLo X b0 t1 K s):wC TP X 125 [b0,t1] K s:=
 wOK hX nA0 hn Tryz.func125 h
def qKG(X:Td)(l0 i3:AV)(I0:IvP)(m0:Nat)(K:KvP)(s:Hq):Prop:=
 oK (qAQ l0) λV0=>oK (qAB .lss i3 (.int .i64 V0)) λV2=>qAK V2
 (oK (qAM 1 l0 i3) λV3=>oK (rd1 s V3) λV4=>oK (qAB .sub i3 (.int .i64 1)) λV5=>oK (qAM 1 l0 V5) λV6=>oK (rd1 s V6) λV7=>oK (qAB .leq V4 V7) λV8=>qAK V8
 (K (.bool false) s)
 (oK (qAB .add i3 (.int .i64 1)) λV9=>∃m',m'<m0/\I0 [V9] s m'))
 (K (.bool true) s)
def qNe(X:Td)(l0:AV)(K:KvP)(s:Hq):Prop:=
 ∃I0:IvP,(∃m,I0 [(.int .i64 1)] s m)/\∀(f:Env) (s:Hq) (m0:Nat),I0 [f 3] s m0->
 qKG X l0 (f 3) I0 m0 K s
def qNw:Nat->List Nat:=λk=>cond (Nat.beq k 4) [3] ([])
theorem qPH{X:Td}(hX:FrX X)(hn:X 126=none){l0:AV}{K:KvP}{s:Hq}(h:qNe X l0 K s):wC TP X 126 [l0] K s:=
 wOK hX qNw hn Tryz.func126 h
def qDu(X:Td)(x1 x5 x6 t16 t17 t18:AV)(I0:IvP)(m0:Nat)(K:KvP)(s:Hq):Prop:=
 oK (qAB .lss t18 t17) λV12=>qAK V12
 (oK (qAM 4 t16 t18) λV13=>oK (rdN s 4 V13) λV14=>newK 140 [(.int .u64 0),(.int .u32 0),(.int .i64 0),(.int .i64 0)] (λB15 S16=>oK (qBx S16 4 (.ptr B15 0) (.agg V14)) λS17=>oK (rdN S17 4 (.ptr B15 0)) λV18=>funK TP X x1 [(.agg V18)] (λV19 S20=>newK 203 [(.int .i64 0),(.int .u64 0)] (λB21 S22=>oK (qBx S22 2 (.ptr B21 0) V19) λS23=>oK (rdN S23 2 (.ptr B21 0)) λV24=>oK (getG TP 203 S23 x5 (.agg V24)) λr_25=>oK (qAM 1 x6 t18) λV26=>oK (wr1 S23 V26 (retM (.bool false) false r_25)) λS27=>oK (rdN S27 2 (.ptr B21 0)) λV28=>oK (putG TP 203 S27 x5 (.agg V28) (.bool true)) λS29=>oK (qAB .add t18 (.int .i64 1)) λV30=>∃m',m'<m0/\I0 [V30] S29 m') S20) S17) s)
 (K x6 s)
def qEj(X:Td)(l0 x1:AV)(K:KvP)(s:Hq):Prop:=
 oK (qAQ l0) λV0=>intK (.int .i64 V0) (mapK (λV2 S3=>oK (qAQ l0) λV4=>oK (nat? (.int .i64 V4)) λn_6=>oK (nat? (.int .i64 V4)) λn_7=>(n_6<=n_7/\n_7<=4294967296)/\newK 4 (repl n_7 [(.bool false)]) (λB8 S9=>oK (qAQ l0) λV10=>∃I0:IvP,(∃m,I0 [(.int .i64 0)] S9 m)/\∀(f:Env) (s:Hq) (m0:Nat),I0 [f 18] s m0->
 qDu X x1 V2 (.slc B8 0 n_6 (some n_7) 1) l0 (.int .i64 V10) (f 18) I0 m0 K s) S3) s)
def qGd:Nat->List Nat:=λk=>cond (Nat.beq k 8) [18] ([])
theorem qGr{X:Td}(hX:FrX X)(hn:X 127=none){l0 x1:AV}{K:KvP}{s:Hq}(h:qEj X l0 x1 K s):wC TP X 127 [l0,x1] K s:=
 wOK hX qGd hn Tryz.func127 h
def qXy(X:Td)(h0:AV)(K:KvP)(s:Hq):Prop:=
 boxK 140 h0 (λB0 S1=>newK 203 [(.int .i64 0),(.int .u64 0)] (λB2 S3=>oK (qAC 2 B0) λV4=>oK (rd1 S3 V4) λV5=>oK (qAC 0 B0) λV6=>oK (rd1 S3 V6) λV7=>oK (qCJ [(.int .i64 0),(.int .u64 0)] [(0,1,V5),(1,1,V7)]) λC8=>oK (qBx S3 2 (.ptr B2 0) (.agg C8)) λS9=>oK (rdN S9 2 (.ptr B2 0)) λt2_10=>K (.agg t2_10) S9) S1) s
theorem qQ5{X:Td}(hX:FrX X)(hn:X 128=none){h0:AV}{K:KvP}{s:Hq}(h:qXy X h0 K s):wC TP X 128 [h0] K s:=
 wOK hX nA0 hn Tryz.func128 h
def qWk(X:Td)(h0:AV)(K:KvP)(s:Hq):Prop:=
 boxK 140 h0 (λB0 S1=>newK 203 [(.int .i64 0),(.int .u64 0)] (λB2 S3=>oK (qAC 2 B0) λV4=>oK (rd1 S3 V4) λV5=>oK (qAC 1 B0) λV6=>oK (rd1 S3 V6) λV7=>oK (qD2 .u64 V7) λV8=>oK (qCJ [(.int .i64 0),(.int .u64 0)] [(0,1,V5),(1,1,V8)]) λC9=>oK (qBx S3 2 (.ptr B2 0) (.agg C9)) λS10=>oK (rdN S10 2 (.ptr B2 0)) λt2_11=>K (.agg t2_11) S10) S1) s
theorem qR9{X:Td}(hX:FrX X)(hn:X 129=none){h0:AV}{K:KvP}{s:Hq}(h:qWk X h0 K s):wC TP X 129 [h0] K s:=
 wOK hX nA0 hn Tryz.func129 h
def qGk(X:Td)(t5 t9:AV)(K:KvP)(s:Hq):Prop:=
 oK (qAT t5 t9 (.bool false)) λV1=>K V1 s
def qIq(X:Td)(t0:AV)(K:KvP)(s:Hq):Prop:=
 oK (qAB .leq t0 (.int .u64 281474976710655)) λV0=>qAK V0
 (oK (qDB .shr t0 (.int .u64 40)) λV2=>oK (qAB .and V2 (.int .u64 1)) λV3=>oK (negB true (eqV 0 true V3 (.int .u64 0))) λV4=>qGk X V0 V4 K s)
 (qGk X V0 .undef K s)
theorem qK7{X:Td}(hX:FrX X)(hn:X 130=none){t0:AV}{K:KvP}{s:Hq}(h:qIq X t0 K s):wC TP X 130 [t0] K s:=
 wOK hX nA0 hn Tryz.func130 h
def qFh(X:Td)(t0 v1:AV)(K:KvP)(s:Hq):Prop:=
 wC TP X 63 [t0,v1] (λV0 S1=>oK (qAB .geq V0 (.int .i64 0)) λV2=>K V2 S1) s
theorem qIQ{X:Td}(hX:FrX X)(hn:X 32=none){t0 v1:AV}{K:KvP}{s:Hq}(h:qFh X t0 v1 K s):wC TP X 32 [t0,v1] K s:=
 wOK hX nA0 hn Tryz.func32 h
def qCh(X:Td)(t0 t6 t8:AV)(K:KvP)(s:Hq):Prop:=
 oK (qAT t6 (.bool true) t8) λV1=>qAK V1
 (K (.tup [(.int .i64 0),(.bool false)]) s)
 (oK (qAB .sub t0 (.int .u64 2199023255552)) λV2=>oK (qD2 .i64 V2) λV3=>K (.tup [V3,(.bool true)]) s)
def qHv(X:Td)(t0:AV)(K:KvP)(s:Hq):Prop:=
 oK (qAB .lss t0 (.int .u64 2199023255552)) λV0=>qAK V0
 (qCh X t0 V0 .undef K s)
 (oK (qAB .geq t0 (.int .u64 2199023255584)) λV4=>qCh X t0 V0 V4 K s)
theorem qKK{X:Td}(hX:FrX X)(hn:X 131=none){t0:AV}{K:KvP}{s:Hq}(h:qHv X t0 K s):wC TP X 131 [t0] K s:=
 wOK hX nA0 hn Tryz.func131 h
def qKY(X:Td)(t16 t20:AV)(K:KvP)(s:Hq):Prop:=
 oK (qAT t16 t20 (.bool false)) λV7=>K V7 s
def qFN(X:Td)(x1 b2 t10 t14:AV)(K:KvP)(s:Hq):Prop:=
 oK (qAT t10 t14 (.bool false)) λV6=>qAK V6
 (oK (qAC 3 b2) λV8=>oK (rdN s 2 V8) λV9=>wC TP X 119 [(.agg V9),x1] (λV10 S11=>qKY X V6 V10 K S11) s)
 (qKY X V6 .undef K s)
def qTE(X:Td)(b0 x1:AV)(K:KvP)(s:Hq):Prop:=
 boxK 87 b0 (λB0 S1=>oK (negB false (eqV 0 true x1 (.int .u32 0))) λV2=>qAK V2
 (K (.bool true) S1)
 (oK (qAC 5 B0) λV3=>oK (rd1 S1 V3) λV4=>oK (negB true (eqV 0 true V4 (.int .u32 0))) λV5=>qAK V5
 (oK (qAC 5 B0) λV12=>oK (rd1 S1 V12) λV13=>oK (negB true (eqV 0 false x1 V13)) λV14=>qFN X x1 B0 V5 V14 K S1)
 (qFN X x1 B0 V5 .undef K S1))) s
theorem qOi{X:Td}(hX:FrX X)(hn:X 132=none){b0 x1:AV}{K:KvP}{s:Hq}(h:qTE X b0 x1 K s):wC TP X 132 [b0,x1] K s:=
 wOK hX nA0 hn Tryz.func132 h
def qEy(X:Td)(x1 x5 x6 t16 t17 t18:AV)(I0:IvP)(m0:Nat)(K:KvP)(s:Hq):Prop:=
 oK (qAB .lss t18 t17) λV12=>qAK V12
 (oK (qAM 4 t16 t18) λV13=>oK (rdN s 4 V13) λV14=>newK 144 [(.int .i64 0),(.int .i64 0),(.int .u32 0),(.int .i64 0)] (λB15 S16=>oK (qBx S16 4 (.ptr B15 0) (.agg V14)) λS17=>oK (rdN S17 4 (.ptr B15 0)) λV18=>funK TP X x1 [(.agg V18)] (λV19 S20=>newK 144 [(.int .i64 0),(.int .i64 0),(.int .u32 0),(.int .i64 0)] (λB21 S22=>oK (qBx S22 4 (.ptr B21 0) V19) λS23=>oK (rdN S23 4 (.ptr B21 0)) λV24=>oK (getG TP 144 S23 x5 (.agg V24)) λr_25=>oK (qAM 1 x6 t18) λV26=>oK (wr1 S23 V26 (retM (.bool false) false r_25)) λS27=>oK (rdN S27 4 (.ptr B21 0)) λV28=>oK (putG TP 144 S27 x5 (.agg V28) (.bool true)) λS29=>oK (qAB .add t18 (.int .i64 1)) λV30=>∃m',m'<m0/\I0 [V30] S29 m') S20) S17) s)
 (K x6 s)
def qGF(X:Td)(l0 x1:AV)(K:KvP)(s:Hq):Prop:=
 oK (qAQ l0) λV0=>intK (.int .i64 V0) (mapK (λV2 S3=>oK (qAQ l0) λV4=>oK (nat? (.int .i64 V4)) λn_6=>oK (nat? (.int .i64 V4)) λn_7=>(n_6<=n_7/\n_7<=4294967296)/\newK 4 (repl n_7 [(.bool false)]) (λB8 S9=>oK (qAQ l0) λV10=>∃I0:IvP,(∃m,I0 [(.int .i64 0)] S9 m)/\∀(f:Env) (s:Hq) (m0:Nat),I0 [f 18] s m0->
 qEy X x1 V2 (.slc B8 0 n_6 (some n_7) 1) l0 (.int .i64 V10) (f 18) I0 m0 K s) S3) s)
def qIH:Nat->List Nat:=λk=>cond (Nat.beq k 8) [18] ([])
theorem qIh{X:Td}(hX:FrX X)(hn:X 133=none){l0 x1:AV}{K:KvP}{s:Hq}(h:qGF X l0 x1 K s):wC TP X 133 [l0,x1] K s:=
 wOK hX qIH hn Tryz.func133 h
def qWj(X:Td)(l0:AV)(K:KvP)(s:Hq):Prop:=
 boxK 144 l0 (λB0 S1=>newK 144 [(.int .i64 0),(.int .i64 0),(.int .u32 0),(.int .i64 0)] (λB2 S3=>oK (rdN S3 4 B0) λV4=>oK (qBx S3 4 (.ptr B2 0) (.agg V4)) λS5=>oK (rdN S5 4 (.ptr B2 0)) λt2_6=>K (.agg t2_6) S5) S1) s
theorem qQ0{X:Td}(hX:FrX X)(hn:X 134=none){l0:AV}{K:KvP}{s:Hq}(h:qWj X l0 K s):wC TP X 134 [l0] K s:=
 wOK hX nA0 hn Tryz.func134 h
def qBy(X:Td)(t0 t1:AV)(K:KvP)(s:Hq):Prop:=
 wC TP X 198 [t0,t1] (λV0 S1=>oK (qAB .geq V0 (.int .i64 0)) λV2=>K V2 S1) s
theorem qDX{X:Td}(hX:FrX X)(hn:X 170=none){t0 t1:AV}{K:KvP}{s:Hq}(h:qBy X t0 t1 K s):wC TP X 170 [t0,t1] K s:=
 wOK hX nA0 hn Tryz.func170 h
def qHH(X:Td)(x0 t1 t2:AV)(K:KvP)(s:Hq):Prop:=
 boxK 117 x0 (λB0 S1=>oK (rd1 S1 t1) λV2=>oK (rdN S1 2 B0) λV3=>funK TP X V2 [(.agg V3)] (λV4 S5=>(∀b,S1 b≠none->S1 b=none->S5 b=none)->
 oK (rd1 (cutH [(S1,(add S1 S5))] (add S1 S5)) t2) λV6=>oK (negB false (eqV 0 false V4 V6)) λV7=>K V7 (add S1 S5)) (frz S1)) s
theorem qGH{X:Td}(hX:FrX X)(hn:X 171=none){x0 t1 t2:AV}{K:KvP}{s:Hq}(h:qHH X x0 t1 t2 K s):wC TP X 171 [x0,t1,t2] K s:=
 wOK hX nA0 hn Tryz.func171 h
def qRO(X:Td)(p0:AV)(K:KvP)(s:Hq):Prop:=
 boxK 71 p0 (λB0 S1=>newK 71 [(.int .u32 0),(.int .i64 0)] (λB2 S3=>oK (rdN S3 2 B0) λV4=>wC TP X 174 [(.agg V4)] (λV5 S6=>oK (qAj .not V5) λV7=>qAK V7
 (oK (qCJ [(.int .u32 0),(.int .i64 0)] []) λC8=>oK (qBx S6 2 (.ptr B2 0) (.agg C8)) λS9=>oK (rdN S9 2 (.ptr B2 0)) λt2_10=>K (.tup [(.agg t2_10),(.int .i64 2)]) S9)
 (oK (qAC 0 B0) λV11=>oK (rd1 S6 V11) λV12=>oK (qAC 1 B0) λV13=>oK (rd1 S6 V13) λV14=>wC TP X 175 [V14] (λV15 S16=>(∀b,S6 b≠none->S6 b=none->S16 b=none)->
 oK (qAB .and V12 V15) λV17=>oK (qAC 0 B0) λV18=>oK (wr1 (add S6 S16) V18 V17) λS19=>oK (rdN S19 2 B0) λV20=>oK (qBx S19 2 (.ptr B2 0) (.agg V20)) λS21=>oK (rdN S21 2 (.ptr B2 0)) λt2_22=>K (.tup [(.agg t2_22),(.int .i64 0)]) S21) (frz S6))) S3) S1) s
theorem qN0{X:Td}(hX:FrX X)(hn:X 172=none){p0:AV}{K:KvP}{s:Hq}(h:qRO X p0 K s):wC TP X 172 [p0] K s:=
 wOK hX nA0 hn Tryz.func172 h
def qCz(X:Td)(t0 t1 t7 t8:AV)(I0:IvP)(m0:Nat)(K:KvP)(s:Hq):Prop:=
 oK (qAB .lss t8 t7) λV2=>qAK V2
 (oK (qAM 6 t0 t8) λV3=>oK (rdN s 6 V3) λV4=>funK TP X t1 [(.agg V4)] (λV5 S6=>qAK V5
 (K t8 S6)
 (oK (qAB .add t8 (.int .i64 1)) λV7=>∃m',m'<m0/\I0 [V7] S6 m')) s)
 (K (.int .i64 (-1)) s)
def qDe(X:Td)(t0 t1:AV)(K:KvP)(s:Hq):Prop:=
 oK (qAQ t0) λV0=>∃I0:IvP,(∃m,I0 [(.int .i64 0)] s m)/\∀(f:Env) (s:Hq) (m0:Nat),I0 [f 8] s m0->
 qCz X t0 t1 (.int .i64 V0) (f 8) I0 m0 K s
def qFF:Nat->List Nat:=λk=>cond (Nat.beq k 4) [8] ([])
theorem qFd{X:Td}(hX:FrX X)(hn:X 173=none){t0 t1:AV}{K:KvP}{s:Hq}(h:qDe X t0 t1 K s):wC TP X 173 [t0,t1] K s:=
 wOK hX qFF hn Tryz.func173 h
def qJm(X:Td)(t6 t9:AV)(K:KvP)(s:Hq):Prop:=
 oK (qAT t6 t9 (.bool false)) λV5=>K V5 s
def qSB(X:Td)(p0:AV)(K:KvP)(s:Hq):Prop:=
 boxK 71 p0 (λB0 S1=>oK (qAC 1 B0) λV2=>oK (rd1 S1 V2) λV3=>oK (qAB .geq V3 (.int .i64 0)) λV4=>qAK V4
 (oK (qAC 1 B0) λV6=>oK (rd1 S1 V6) λV7=>oK (qAB .leq V7 (.int .i64 32)) λV8=>qJm X V4 V8 K S1)
 (qJm X V4 .undef K S1)) s
theorem qNq{X:Td}(hX:FrX X)(hn:X 174=none){p0:AV}{K:KvP}{s:Hq}(h:qSB X p0 K s):wC TP X 174 [p0] K s:=
 wOK hX nA0 hn Tryz.func174 h
def qNG(X:Td)(length0:AV)(K:KvP)(s:Hq):Prop:=
 oK (qAB .sub (.int .i64 32) length0) λV0=>oK (qDB .shl (.int .u32 4294967295) V0) λV1=>K V1 s
theorem qPh{X:Td}(hX:FrX X)(hn:X 175=none){length0:AV}{K:KvP}{s:Hq}(h:qNG X length0 K s):wC TP X 175 [length0] K s:=
 wOK hX nA0 hn Tryz.func175 h
def qEY(X:Td)(t0 t1 t7 t8:AV)(I0:IvP)(m0:Nat)(K:KvP)(s:Hq):Prop:=
 oK (qAB .lss t8 t7) λV2=>qAK V2
 (oK (qAM 1 t0 t8) λV3=>oK (rd1 s V3) λV4=>funK TP X t1 [V4] (λV5 S6=>qAK V5
 (K t8 S6)
 (oK (qAB .add t8 (.int .i64 1)) λV7=>∃m',m'<m0/\I0 [V7] S6 m')) s)
 (K (.int .i64 (-1)) s)
def qFJ(X:Td)(t0 t1:AV)(K:KvP)(s:Hq):Prop:=
 oK (qAQ t0) λV0=>∃I0:IvP,(∃m,I0 [(.int .i64 0)] s m)/\∀(f:Env) (s:Hq) (m0:Nat),I0 [f 8] s m0->
 qEY X t0 t1 (.int .i64 V0) (f 8) I0 m0 K s
def qHF:Nat->List Nat:=λk=>cond (Nat.beq k 4) [8] ([])
theorem qHe{X:Td}(hX:FrX X)(hn:X 176=none){t0 t1:AV}{K:KvP}{s:Hq}(h:qFJ X t0 t1 K s):wC TP X 176 [t0,t1] K s:=
 wOK hX qHF hn Tryz.func176 h
def qFg(X:Td)(t0 v1 t7 t8:AV)(I0:IvP)(m0:Nat)(K:KvP)(s:Hq):Prop:=
 oK (qAB .lss t8 t7) λV2=>qAK V2
 (oK (qAM 1 t0 t8) λV3=>oK (rd1 s V3) λV4=>oK (negB false (eqV 0 false v1 V4)) λV5=>qAK V5
 (K t8 s)
 (oK (qAB .add t8 (.int .i64 1)) λV6=>∃m',m'<m0/\I0 [V6] s m'))
 (K (.int .i64 (-1)) s)
def qHJ(X:Td)(t0 v1:AV)(K:KvP)(s:Hq):Prop:=
 oK (qAQ t0) λV0=>∃I0:IvP,(∃m,I0 [(.int .i64 0)] s m)/\∀(f:Env) (s:Hq) (m0:Nat),I0 [f 8] s m0->
 qFg X t0 v1 (.int .i64 V0) (f 8) I0 m0 K s
def qI1:Nat->List Nat:=λk=>cond (Nat.beq k 4) [8] ([])
theorem qJw{X:Td}(hX:FrX X)(hn:X 63=none){t0 v1:AV}{K:KvP}{s:Hq}(h:qHJ X t0 v1 K s):wC TP X 63 [t0,v1] K s:=
 wOK hX qI1 hn Tryz.func63 h
def qBz(X:Td)(t0 t1 t7 t8:AV)(I0:IvP)(m0:Nat)(K:KvP)(s:Hq):Prop:=
 oK (qAB .lss t8 t7) λV2=>qAK V2
 (oK (qAM 2 t0 t8) λV3=>oK (rdN s 2 V3) λV4=>funK TP X t1 [(.agg V4)] (λV5 S6=>qAK V5
 (K t8 S6)
 (oK (qAB .add t8 (.int .i64 1)) λV7=>∃m',m'<m0/\I0 [V7] S6 m')) s)
 (K (.int .i64 (-1)) s)
def qCG(X:Td)(t0 t1:AV)(K:KvP)(s:Hq):Prop:=
 oK (qAQ t0) λV0=>∃I0:IvP,(∃m,I0 [(.int .i64 0)] s m)/\∀(f:Env) (s:Hq) (m0:Nat),I0 [f 8] s m0->
 qBz X t0 t1 (.int .i64 V0) (f 8) I0 m0 K s
def qDq:Nat->List Nat:=λk=>cond (Nat.beq k 4) [8] ([])
theorem qD3{X:Td}(hX:FrX X)(hn:X 198=none){t0 t1:AV}{K:KvP}{s:Hq}(h:qCG X t0 t1 K s):wC TP X 198 [t0,t1] K s:=
 wOK hX qDq hn Tryz.func198 h
def qNM(X:Td)(t7 t10:AV)(K:KvP)(s:Hq):Prop:=
 oK (qAT t7 t10 (.bool false)) λV1=>K V1 s
def qSb(X:Td)(i0 n1:AV)(K:KvP)(s:Hq):Prop:=
 oK (qAB .geq i0 (.int .i64 0)) λV0=>qAK V0
 (oK (qAB .lss i0 n1) λV2=>qNM X V0 V2 K s)
 (qNM X V0 .undef K s)
theorem qSk{X:Td}(hX:FrX X)(hn:X 76=none){i0 n1:AV}{K:KvP}{s:Hq}(h:qSb X i0 n1 K s):wC TP X 76 [i0,n1] K s:=
 wOK hX nA0 hn Tryz.func76 h
end Go.AM
namespace Go.AM
open Go Go.Proofs
set_option maxRecDepth 100000
def qLH(X:Td)(bad0 x1 part2 x3:AV)(K R:KvP)(s:Hq):Prop:=
 qAK bad0
 (oK (qCJ [(.int .i64 0),(.str ⟨#[]⟩),(.int .i64 0)] [(0,1,x1),(1,1,part2),(2,1,x3)]) λC0=>panK (.ifc 147 (.agg C0)) R s)
 (K (.tup []) s)
theorem qM8{bad0 x1 part2 x3:AV}{K R:KvP}{s:Hq}(h:qLH X0 bad0 x1 part2 x3 K R s):qAh TP X0 SS 107 [bad0,x1,part2,x3] K R s:=
 qCi qLV nA0 Tryz.func107 (by kernel_rfl:Tryz.f107.body=some (qAr Tryz.f107)) (by kernel_rfl) (by kernel_rfl) (Eq.mpr (by kernel_rfl) h)
def qH3(X:Td)(t31 t34:AV)(K R:KvP)(s:Hq):Prop:=
 oK (qAT t31 (.bool true) t34) λV26=>qAh TP X SS 107 [V26,(.int .i64 2),(.str ⟨#[102,97,98,114,105,99]⟩),(.int .i64 0)] (λV27 S28=>K (.tup []) S28) R s
def qHw(X:Td)(t2 t26 t29:AV)(K R:KvP)(s:Hq):Prop:=
 oK (qAT t26 (.bool true) t29) λV25=>qAK V25
 (qH3 X V25 .undef K R s)
 (oK (qAC 10 t2) λV29=>oK (rd1 s V29) λV30=>wC TP X 108 [V30,(.int .i64 0),(.int .i64 1)] (λV31 S32=>qH3 X V25 V31 K R S32) s)
def qHu(X:Td)(t2 t10 t13:AV)(K R:KvP)(s:Hq):Prop:=
 oK (qAT t10 (.bool true) t13) λV10=>qAh TP X SS 107 [V10,(.int .i64 2),(.str ⟨#[102,97,98,114,105,99]⟩),(.int .i64 0)] (λV11 S12=>oK (qAC 0 t2) λV13=>oK (rd1 S12 V13) λV14=>oK (qAC 1 t2) λV15=>oK (rd1 S12 V15) λV16=>oK (qAB .add V14 V16) λV17=>oK (qAB .gtr V17 (.int .i64 32)) λV18=>qAh TP X SS 107 [V18,(.int .i64 2),(.str ⟨#[102,97,98,114,105,99]⟩),(.int .i64 0)] (λV19 S20=>oK (qAC 8 t2) λV21=>oK (rd1 S20 V21) λV22=>wC TP X 108 [V22,(.int .i64 0),(.int .i64 2)] (λV23 S24=>qAK V23
 (qHw X t2 V23 .undef K R S24)
 (oK (qAC 9 t2) λV33=>oK (rd1 S24 V33) λV34=>wC TP X 108 [V34,(.int .i64 0),(.int .i64 1)] (λV35 S36=>qHw X t2 V23 V35 K R S36) S24)) S20) R S12) R s
def qY7(X:Td)(c0:AV)(K R:KvP)(s:Hq):Prop:=
 oK (qAo c0) λV0=>oK (qAC 0 V0) λV1=>oK (rdN s 19 V1) λV2=>newK 31 zR1 (λB3 S4=>oK (qBx S4 19 (.ptr B3 0) (.agg V2)) λS5=>oK (qAC 0 (.ptr B3 0)) λV6=>oK (rd1 S5 V6) λV7=>wC TP X 108 [V7,(.int .i64 1),(.int .i64 32)] (λV8 S9=>qAK V8
 (qHu X (.ptr B3 0) V8 .undef K R S9)
 (oK (qAC 1 (.ptr B3 0)) λV37=>oK (rd1 S9 V37) λV38=>wC TP X 108 [V38,(.int .i64 0),(.int .i64 32)] (λV39 S40=>qHu X (.ptr B3 0) V8 V39 K R S40) S9)) S5) s
theorem qSz{c0:AV}{K R:KvP}{s:Hq}(h:qY7 X0 c0 K R s):qAh TP X0 SS 87 [c0] K R s:=
 qCi qLV nA0 Tryz.func87 (by kernel_rfl:Tryz.f87.body=some (qAr Tryz.f87)) (by kernel_rfl) (by kernel_rfl) (Eq.mpr (by kernel_rfl) h)
def qH7(X:Td)(t30 t33:AV)(K R:KvP)(s:Hq):Prop:=
 oK (qAT t30 (.bool true) t33) λV20=>qAh TP X SS 107 [V20,(.int .i64 2),(.str ⟨#[116,105,109,101,114,115]⟩),(.int .i64 0)] (λV21 S22=>K (.tup []) S22) R s
def qHz(X:Td)(t2 t25 t28:AV)(K R:KvP)(s:Hq):Prop:=
 oK (qAT t25 (.bool true) t28) λV19=>qAK V19
 (qH7 X V19 .undef K R s)
 (oK (qAC 5 t2) λV23=>oK (rd1 s V23) λV24=>wC TP X 108 [V24,(.int .i64 1),(.int .i64 10000)] (λV25 S26=>qH7 X V19 V25 K R S26) s)
def qH9(X:Td)(t2 t16 t19:AV)(K R:KvP)(s:Hq):Prop:=
 oK (qAT t16 (.bool true) t19) λV12=>qAh TP X SS 107 [V12,(.int .i64 2),(.str ⟨#[116,105,109,101,114,115]⟩),(.int .i64 0)] (λV13 S14=>oK (qAC 3 t2) λV15=>oK (rd1 S14 V15) λV16=>wC TP X 108 [V16,(.int .i64 0),(.int .i64 1000)] (λV17 S18=>qAK V17
 (qHz X t2 V17 .undef K R S18)
 (oK (qAC 4 t2) λV27=>oK (rd1 S18 V27) λV28=>wC TP X 108 [V28,(.int .i64 1),(.int .i64 100)] (λV29 S30=>qHz X t2 V17 V29 K R S30) S18)) S14) R s
def qH0(X:Td)(t2 t11 t14:AV)(K R:KvP)(s:Hq):Prop:=
 oK (qAT t11 (.bool true) t14) λV11=>qAK V11
 (qH9 X t2 V11 .undef K R s)
 (oK (qAC 2 t2) λV31=>oK (rd1 s V31) λV32=>wC TP X 108 [V32,(.int .i64 1),(.int .i64 10000)] (λV33 S34=>qH9 X t2 V11 V33 K R S34) s)
def qS1(X:Td)(c0:AV)(K R:KvP)(s:Hq):Prop:=
 oK (qAo c0) λV0=>oK (qAC 0 V0) λV1=>oK (qAC 13 V1) λV2=>oK (rdN s 6 V2) λV3=>newK 29 [(.int .i64 0),(.int .i64 0),(.int .i64 0),(.int .i64 0),(.int .i64 0),(.int .i64 0)] (λB4 S5=>oK (qBx S5 6 (.ptr B4 0) (.agg V3)) λS6=>oK (qAC 0 (.ptr B4 0)) λV7=>oK (rd1 S6 V7) λV8=>wC TP X 108 [V8,(.int .i64 1),(.int .i64 100)] (λV9 S10=>qAK V9
 (qH0 X (.ptr B4 0) V9 .undef K R S10)
 (oK (qAC 1 (.ptr B4 0)) λV35=>oK (rd1 S10 V35) λV36=>wC TP X 108 [V36,(.int .i64 3),(.int .i64 1000)] (λV37 S38=>qH0 X (.ptr B4 0) V9 V37 K R S38) S10)) S6) s
theorem qSV{c0:AV}{K R:KvP}{s:Hq}(h:qS1 X0 c0 K R s):qAh TP X0 SS 88 [c0] K R s:=
 qCi qLV nA0 Tryz.func88 (by kernel_rfl:Tryz.f88.body=some (qAr Tryz.f88)) (by kernel_rfl) (by kernel_rfl) (Eq.mpr (by kernel_rfl) h)
def qJD(X:Td)(x3 i4 t22 t51 t54:AV)(I0:IvP)(m0:Nat)(K R:KvP)(s:Hq):Prop:=
 oK (qAT t51 (.bool true) t54) λV36=>qAh TP X SS 107 [V36,(.int .i64 2),(.str ⟨#[108,105,110,107,115]⟩),i4] (λV37 S38=>oK (qAM 1 x3 i4) λV39=>oK (rd1 S38 V39) λV40=>qAh TP X SS 107 [V40,(.int .i64 11),(.str ⟨#[108,105,110,107,115]⟩),i4] (λV41 S42=>oK (qAB .add t22 (.int .i64 1)) λV43=>∃m',m'<m0/\I0 [V43] S42 m') R S38) R s
def qI8(X:Td)(x3 i4 l5 t22 t39 t47:AV)(I0:IvP)(m0:Nat)(K R:KvP)(s:Hq):Prop:=
 oK (qAT t39 t47 (.bool false)) λV34=>oK (qAj .not V34) λV35=>qAK V35
 (qJD X x3 i4 t22 V35 .undef I0 m0 K R s)
 (oK (qAC 2 l5) λV44=>oK (rd1 s V44) λV45=>wC TP X 108 [V45,(.int .i64 1),(.int .i64 1000)] (λV46 S47=>qJD X x3 i4 t22 V35 V46 I0 m0 K R S47) s)
def qI0(X:Td)(t2 x3 i4 l5 t22 t32 t37:AV)(I0:IvP)(m0:Nat)(K R:KvP)(s:Hq):Prop:=
 oK (qAT t32 t37 (.bool false)) λV33=>qAK V33
 (oK (qAC 1 l5) λV48=>oK (rd1 s V48) λV49=>oK (qAC 0 t2) λV50=>oK (rd1 s V50) λV51=>oK (qAC 1 t2) λV52=>oK (rd1 s V52) λV53=>oK (qAB .add V51 V53) λV54=>oK (qAB .lss V49 V54) λV55=>qI8 X x3 i4 l5 t22 V33 V55 I0 m0 K R s)
 (qI8 X x3 i4 l5 t22 V33 .undef I0 m0 K R s)
def qO3(X:Td)(t2 x3 t20 t21 t22:AV)(I0:IvP)(m0:Nat)(K R:KvP)(s:Hq):Prop:=
 oK (qAB .lss t22 t21) λV21=>qAK V21
 (oK (qAM 3 t20 t22) λV22=>oK (rdN s 3 V22) λV23=>newK 115 [(.int .i64 0),(.int .i64 0),(.int .i64 0)] (λB24 S25=>oK (qBx S25 3 (.ptr B24 0) (.agg V23)) λS26=>oK (qAC 0 (.ptr B24 0)) λV27=>oK (rd1 S26 V27) λV28=>oK (qAC 0 t2) λV29=>oK (rd1 S26 V29) λV30=>wC TP X 76 [V28,V30] (λV31 S32=>qAK V31
 (oK (qAC 1 (.ptr B24 0)) λV56=>oK (rd1 S32 V56) λV57=>oK (qAC 0 t2) λV58=>oK (rd1 S32 V58) λV59=>oK (qAB .geq V57 V59) λV60=>qI0 X t2 x3 t22 (.ptr B24 0) t22 V31 V60 I0 m0 K R S32)
 (qI0 X t2 x3 t22 (.ptr B24 0) t22 V31 .undef I0 m0 K R S32)) S26) s)
 (K (.tup []) s)
def zAAr(X:Td)(c0:AV)(K R:KvP)(s:Hq):Prop:=
 oK (qAo c0) λV0=>oK (qAC 0 V0) λV1=>oK (rdN s 19 V1) λV2=>newK 31 zR1 (λB3 S4=>oK (qBx S4 19 (.ptr B3 0) (.agg V2)) λS5=>oK (qAC 2 (.ptr B3 0)) λV6=>oK (rd1 S5 V6) λV7=>oK (qAQ V7) λV8=>oK (qAB .gtr (.int .i64 V8) (.int .i64 128)) λV10=>qAh TP X SS 107 [V10,(.int .i64 7),(.str ⟨#[108,105,110,107,115]⟩),(.int .i64 128)] (λV11 S12=>oK (qAC 2 (.ptr B3 0)) λV13=>oK (rd1 S12 V13) λV14=>wC TP X 109 [V14,(.fn (.func 110) [] [])] (λV15 S16=>oK (qAC 2 (.ptr B3 0)) λV17=>oK (rd1 S16 V17) λV18=>oK (qAQ V18) λV19=>∃I0:IvP,(∃m,I0 [(.int .i64 0)] S16 m)/\∀(f:Env) (s:Hq) (m0:Nat),I0 [f 22] s m0->
 qO3 X (.ptr B3 0) V15 V18 (.int .i64 V19) (f 22) I0 m0 K R s) S12) R S5) s
def qTS:Nat->List Nat:=λk=>cond (Nat.beq k 8) [22] ([])
theorem qUt{c0:AV}{K R:KvP}{s:Hq}(h:zAAr X0 c0 K R s):qAh TP X0 SS 89 [c0] K R s:=
 qCi qLV qTS Tryz.func89 (by kernel_rfl:Tryz.f89.body=some (qAr Tryz.f89)) (by kernel_rfl) (by kernel_rfl) (Eq.mpr (by kernel_rfl) h)
def qG3(X:Td)(i5 t22 t46 t50:AV)(I0:IvP)(m0:Nat)(K R:KvP)(s:Hq):Prop:=
 oK (qAT t46 (.bool true) t50) λV30=>qAh TP X SS 107 [V30,(.int .i64 11),(.str ⟨#[116,101,110,97,110,116,115]⟩),i5] (λV31 S32=>oK (qAB .add t22 (.int .i64 1)) λV33=>∃m',m'<m0/\I0 [V33] S32 m') R s
def qGy(X:Td)(x3 x4 i5 t22 t35 t38:AV)(I0:IvP)(m0:Nat)(K R:KvP)(s:Hq):Prop:=
 oK (qAT t35 (.bool true) t38) λV25=>qAh TP X SS 107 [V25,(.int .i64 2),(.str ⟨#[116,101,110,97,110,116,115]⟩),i5] (λV26 S27=>oK (qAM 1 x3 i5) λV28=>oK (rd1 S27 V28) λV29=>qAK V29
 (qG3 X i5 t22 V29 .undef I0 m0 K R S27)
 (oK (qAM 1 x4 i5) λV34=>oK (rd1 S27 V34) λV35=>qG3 X i5 t22 V29 V35 I0 m0 K R S27)) R s
def qGo(X:Td)(x3 x4 i5 t6 t22 t30 t33:AV)(I0:IvP)(m0:Nat)(K R:KvP)(s:Hq):Prop:=
 oK (qAT t30 (.bool true) t33) λV24=>qAK V24
 (qGy X x3 x4 i5 t22 V24 .undef I0 m0 K R s)
 (oK (qAC 1 t6) λV36=>oK (rd1 s V36) λV37=>oK (negB false (eqV 0 true V37 (.int .u32 0))) λV38=>qGy X x3 x4 i5 t22 V24 V38 I0 m0 K R s)
def qLt(X:Td)(x3 x4 t20 t21 t22:AV)(I0:IvP)(m0:Nat)(K R:KvP)(s:Hq):Prop:=
 oK (qAB .lss t22 t21) λV15=>qAK V15
 (oK (qAM 2 t20 t22) λV16=>oK (rdN s 2 V16) λV17=>newK 117 [(.int .u32 0),(.int .u32 0)] (λB18 S19=>oK (qBx S19 2 (.ptr B18 0) (.agg V17)) λS20=>oK (qAC 0 (.ptr B18 0)) λV21=>oK (rd1 S20 V21) λV22=>oK (qAB .lss V22 (.int .u32 1)) λV23=>qAK V23
 (qGo X x3 x4 t22 (.ptr B18 0) t22 V23 .undef I0 m0 K R S20)
 (oK (qAC 0 (.ptr B18 0)) λV39=>oK (rd1 S20 V39) λV40=>oK (qAB .gtr V40 (.int .u32 16777215)) λV41=>qGo X x3 x4 t22 (.ptr B18 0) t22 V23 V41 I0 m0 K R S20)) s)
 (K (.tup []) s)
def qQg(X:Td)(c0:AV)(K R:KvP)(s:Hq):Prop:=
 oK (qAo c0) λV0=>oK (qAC 0 V0) λV1=>oK (qAC 3 V1) λV2=>oK (rd1 s V2) λV3=>oK (qAQ V3) λV4=>oK (qAB .gtr (.int .i64 V4) (.int .i64 16)) λV6=>qAh TP X SS 107 [V6,(.int .i64 7),(.str ⟨#[116,101,110,97,110,116,115]⟩),(.int .i64 16)] (λV7 S8=>wC TP X 111 [V3,(.fn (.func 112) [] [])] (λV9 S10=>wC TP X 111 [V3,(.fn (.func 113) [] [])] (λV11 S12=>oK (qAQ V3) λV13=>∃I0:IvP,(∃m,I0 [(.int .i64 0)] S12 m)/\∀(f:Env) (s:Hq) (m0:Nat),I0 [f 22] s m0->
 qLt X V9 V11 V3 (.int .i64 V13) (f 22) I0 m0 K R s) S10) S8) R s
def qP3:Nat->List Nat:=λk=>cond (Nat.beq k 8) [22] ([])
theorem qRi{c0:AV}{K R:KvP}{s:Hq}(h:qQg X0 c0 K R s):qAh TP X0 SS 90 [c0] K R s:=
 qCi qLV qP3 Tryz.func90 (by kernel_rfl:Tryz.f90.body=some (qAr Tryz.f90)) (by kernel_rfl) (by kernel_rfl) (Eq.mpr (by kernel_rfl) h)
def qG9(X:Td)(t28:AV)(I0:IvP)(m0:Nat)(K R:KvP)(s:Hq):Prop:=
 oK (qAB .add t28 (.int .i64 1)) λV26=>∃m',m'<m0/\I0 [V26] s m'
def qGx(X:Td)(t2 i5 b6 t28 t98 t102:AV)(I0:IvP)(m0:Nat)(K R:KvP)(s:Hq):Prop:=
 oK (qAT t98 (.bool true) t102) λV67=>qAh TP X SS 107 [V67,(.int .i64 3),(.str ⟨#[100,111,109,97,105,110,115]⟩),i5] (λV68 S69=>oK (qAC 3 b6) λV70=>oK (rdN S69 2 V70) λV71=>oK (qAC 5 b6) λV72=>oK (rd1 S69 V72) λV73=>wC TP X 119 [(.agg V71),V73] (λV74 S75=>oK (qAj .not V74) λV76=>qAh TP X SS 107 [V76,(.int .i64 3),(.str ⟨#[100,111,109,97,105,110,115]⟩),i5] (λV77 S78=>oK (qAC 4 t2) λV79=>oK (rd1 S78 V79) λV80=>oK (qDx 6 V80 none (some i5) none) λV81=>wC TP X 120 [V81,(.fn (.func 121) [] [b6])] (λV82 S83=>qAh TP X SS 107 [V82,(.int .i64 11),(.str ⟨#[100,111,109,97,105,110,115]⟩),i5] (λV84 S85=>qG9 X t28 I0 m0 K R S85) R S83) S78) R S75) S69) R s
def qG6(X:Td)(t2 i5 b6 t28 t75 t80:AV)(I0:IvP)(m0:Nat)(K R:KvP)(s:Hq):Prop:=
 oK (qAT t75 (.bool true) t80) λV50=>qAh TP X SS 107 [V50,(.int .i64 11),(.str ⟨#[100,111,109,97,105,110,115]⟩),i5] (λV51 S52=>oK (qAC 5 b6) λV53=>oK (rd1 S52 V53) λV54=>oK (negB false (eqV 0 true V54 (.int .u32 0))) λV55=>qAK V55
 (oK (qAC 3 b6) λV56=>oK (rdN S52 2 V56) λV57=>oK (qCJ [(.int .u32 0),(.int .i64 0)] []) λC58=>oK (negB true (qLS TP 71 (.agg V57) (.agg C58))) λV59=>qAh TP X SS 107 [V59,(.int .i64 3),(.str ⟨#[100,111,109,97,105,110,115]⟩),i5] (λV60 S61=>qG9 X t28 I0 m0 K R S61) R S52)
 (oK (qAC 3 b6) λV62=>oK (rdN S52 2 V62) λV63=>wC TP X 118 [(.agg V63)] (λV64 S65=>oK (qAj .not V64) λV66=>qAK V66
 (qGx X t2 i5 b6 t28 V66 .undef I0 m0 K R S65)
 (oK (qAC 3 b6) λV86=>oK (qAC 1 V86) λV87=>oK (rd1 S65 V87) λV88=>wC TP X 108 [V88,(.int .i64 8),(.int .i64 30)] (λV89 S90=>qGx X t2 i5 b6 t28 V66 V89 I0 m0 K R S90) S65)) S52)) R s
def qGs(X:Td)(t2 i5 b6 t28 t68 t73:AV)(I0:IvP)(m0:Nat)(K R:KvP)(s:Hq):Prop:=
 oK (qAT t68 (.bool true) t73) λV49=>qAK V49
 (qG6 X t2 i5 b6 t28 V49 .undef I0 m0 K R s)
 (oK (qAC 3 t2) λV91=>oK (rd1 s V91) λV92=>oK (qAC 2 b6) λV93=>oK (rd1 s V93) λV94=>wC TP X 117 [V92,(.fn (.func 113) [] []),V94] (λV95 S96=>qG6 X t2 i5 b6 t28 V49 V95 I0 m0 K R S96) s)
def qG7(X:Td)(t2 i5 b6 t28 t62 t66:AV)(I0:IvP)(m0:Nat)(K R:KvP)(s:Hq):Prop:=
 oK (qAT t62 (.bool true) t66) λV48=>qAK V48
 (qGs X t2 i5 b6 t28 V48 .undef I0 m0 K R s)
 (oK (qAC 3 t2) λV97=>oK (rd1 s V97) λV98=>oK (qAC 1 b6) λV99=>oK (rd1 s V99) λV100=>wC TP X 117 [V98,(.fn (.func 112) [] []),V100] (λV101 S102=>qGs X t2 i5 b6 t28 V48 V101 I0 m0 K R S102) s)
def qG0(X:Td)(t2 x3 x4 i5 b6 t28 t50 t53:AV)(I0:IvP)(m0:Nat)(K R:KvP)(s:Hq):Prop:=
 oK (qAT t50 (.bool true) t53) λV43=>qAh TP X SS 107 [V43,(.int .i64 2),(.str ⟨#[100,111,109,97,105,110,115]⟩),i5] (λV44 S45=>oK (qAM 1 x3 i5) λV46=>oK (rd1 S45 V46) λV47=>qAK V47
 (qG7 X t2 i5 b6 t28 V47 .undef I0 m0 K R S45)
 (oK (qAM 1 x4 i5) λV103=>oK (rd1 S45 V103) λV104=>qG7 X t2 i5 b6 t28 V47 V104 I0 m0 K R S45)) R s
def qGt(X:Td)(t2 x3 x4 i5 b6 t28 t45 t48:AV)(I0:IvP)(m0:Nat)(K R:KvP)(s:Hq):Prop:=
 oK (qAT t45 (.bool true) t48) λV42=>qAK V42
 (qG0 X t2 x3 x4 i5 b6 t28 V42 .undef I0 m0 K R s)
 (oK (qAC 2 b6) λV105=>oK (rd1 s V105) λV106=>oK (negB false (eqV 0 true V106 (.int .u32 0))) λV107=>qG0 X t2 x3 x4 i5 b6 t28 V42 V107 I0 m0 K R s)
def qG5(X:Td)(t2 x3 x4 i5 b6 t28 t40 t43:AV)(I0:IvP)(m0:Nat)(K R:KvP)(s:Hq):Prop:=
 oK (qAT t40 (.bool true) t43) λV41=>qAK V41
 (qGt X t2 x3 x4 i5 b6 t28 V41 .undef I0 m0 K R s)
 (oK (qAC 1 b6) λV108=>oK (rd1 s V108) λV109=>oK (qAB .gtr V109 (.int .u32 16777215)) λV110=>qGt X t2 x3 x4 i5 b6 t28 V41 V110 I0 m0 K R s)
def qMH(X:Td)(t2 x3 x4 t26 t27 t28:AV)(I0:IvP)(m0:Nat)(K R:KvP)(s:Hq):Prop:=
 oK (qAB .lss t28 t27) λV25=>qAK V25
 (oK (qAM 6 t26 t28) λV27=>oK (rdN s 6 V27) λV28=>newK 87 [(.int .i64 0),(.int .u32 0),(.int .u32 0),(.int .u32 0),(.int .i64 0),(.int .u32 0)] (λB29 S30=>oK (qBx S30 6 (.ptr B29 0) (.agg V28)) λS31=>oK (qAC 0 (.ptr B29 0)) λV32=>oK (rd1 S31 V32) λV33=>oK (qAC 3 t2) λV34=>oK (rd1 S31 V34) λV35=>oK (qAQ V35) λV36=>wC TP X 76 [V33,(.int .i64 V36)] (λV38 S39=>oK (qAj .not V38) λV40=>qAK V40
 (qG5 X t2 x3 x4 t28 (.ptr B29 0) t28 V40 .undef I0 m0 K R S39)
 (oK (qAC 1 (.ptr B29 0)) λV111=>oK (rd1 S39 V111) λV112=>oK (qAB .lss V112 (.int .u32 1)) λV113=>qG5 X t2 x3 x4 t28 (.ptr B29 0) t28 V40 V113 I0 m0 K R S39)) S31) s)
 (K (.tup []) s)
def qXD(X:Td)(c0:AV)(K R:KvP)(s:Hq):Prop:=
 oK (qAo c0) λV0=>oK (qAC 0 V0) λV1=>oK (rdN s 19 V1) λV2=>newK 31 zR1 (λB3 S4=>oK (qBx S4 19 (.ptr B3 0) (.agg V2)) λS5=>oK (qAC 4 (.ptr B3 0)) λV6=>oK (rd1 S5 V6) λV7=>oK (qAQ V7) λV8=>oK (qAB .gtr (.int .i64 V8) (.int .i64 32)) λV10=>qAh TP X SS 107 [V10,(.int .i64 7),(.str ⟨#[100,111,109,97,105,110,115]⟩),(.int .i64 32)] (λV11 S12=>oK (qAC 4 (.ptr B3 0)) λV13=>oK (rd1 S12 V13) λV14=>wC TP X 114 [V14,(.fn (.func 115) [] [])] (λV15 S16=>(∀b,S12 b≠none->S12 b=none->S16 b=none)->
 oK (qAC 4 (.ptr B3 0)) λV17=>oK (rd1 (cutH [(S12,(add S12 S16))] (add S12 S16)) V17) λV18=>wC TP X 114 [V18,(.fn (.func 116) [] [])] (λV19 S20=>oK (qAC 4 (.ptr B3 0)) λV21=>oK (rd1 S20 V21) λV22=>oK (qAQ V22) λV23=>∃I0:IvP,(∃m,I0 [(.int .i64 0)] S20 m)/\∀(f:Env) (s:Hq) (m0:Nat),I0 [f 28] s m0->
 qMH X (.ptr B3 0) V15 V19 V22 (.int .i64 V23) (f 28) I0 m0 K R s) (add S12 S16)) (frz S12)) R S5) s
def qP6:Nat->List Nat:=λk=>cond (Nat.beq k 8) [28] ([])
theorem qRr{c0:AV}{K R:KvP}{s:Hq}(h:qXD X0 c0 K R s):qAh TP X0 SS 91 [c0] K R s:=
 qCi qLV qP6 Tryz.func91 (by kernel_rfl:Tryz.f91.body=some (qAr Tryz.f91)) (by kernel_rfl) (by kernel_rfl) (Eq.mpr (by kernel_rfl) h)
def qLD(X:Td)(x3 i4 t21 t64 t65 t66:AV)(I4:IvP)(m4:Nat)(I0:IvP)(m0:Nat)(K R:KvP)(s:Hq):Prop:=
 oK (qAB .lss t66 t65) λV52=>qAK V52
 (oK (qAM 1 t64 t66) λV53=>oK (rd1 s V53) λV54=>oK (qEB 32 1 x3 V54) λV55=>oK (rd1 s V55) λV56=>oK (qAB .add V56 (.int .i64 1)) λV57=>oK (qEB 32 1 x3 V54) λV58=>oK (wr1 s V58 V57) λS59=>oK (qEB 32 1 x3 V54) λV60=>oK (rd1 S59 V60) λV61=>oK (qAB .gtr V61 (.int .i64 32)) λV62=>qAh TP X SS 107 [V62,(.int .i64 7),(.str ⟨#[115,101,103,109,101,110,116,115]⟩),i4] (λV63 S64=>oK (qAB .add t66 (.int .i64 1)) λV65=>∃m',m'<m4/\I4 [V65] S64 m') R S59)
 (oK (qAB .add t21 (.int .i64 1)) λV66=>∃m',m'<m0/\I0 [V66] s m')
def qF2(X:Td)(x3 i4 t5 t21 t55 t59:AV)(I0:IvP)(m0:Nat)(K R:KvP)(s:Hq):Prop:=
 oK (qAT t55 (.bool true) t59) λV45=>qAh TP X SS 107 [V45,(.int .i64 10),(.str ⟨#[115,101,103,109,101,110,116,115]⟩),i4] (λV46 S47=>oK (qAC 0 t5) λV48=>oK (rd1 S47 V48) λV49=>oK (qAQ V49) λV50=>∃I4:IvP,(∃m,I4 [(.int .i64 0)] S47 m)/\∀(f:Env) (s:Hq) (m4:Nat),I4 [f 66] s m4->
 qLD X x3 i4 t21 V49 (.int .i64 V50) (f 66) I4 m4 I0 m0 K R s) R s
def qF9(X:Td)(x3 i4 t5 t21 t42 t46:AV)(I0:IvP)(m0:Nat)(K R:KvP)(s:Hq):Prop:=
 oK (qAT t42 (.bool true) t46) λV37=>qAh TP X SS 107 [V37,(.int .i64 2),(.str ⟨#[115,101,103,109,101,110,116,115]⟩),i4] (λV38 S39=>oK (qAC 0 t5) λV40=>oK (rd1 S39 V40) λV41=>wC TP X 126 [V41] (λV42 S43=>oK (qAj .not V42) λV44=>qAK V44
 (qF2 X x3 i4 t5 t21 V44 .undef I0 m0 K R S43)
 (oK (qAC 1 t5) λV67=>oK (rd1 S43 V67) λV68=>wC TP X 126 [V68] (λV69 S70=>oK (qAj .not V69) λV71=>qF2 X x3 i4 t5 t21 V44 V71 I0 m0 K R S70) S43)) S39) R s
def qF8(X:Td)(t2 x3 i4 t5 t21 t30 t34:AV)(I0:IvP)(m0:Nat)(K R:KvP)(s:Hq):Prop:=
 oK (qAT t30 (.bool true) t34) λV30=>qAh TP X SS 107 [V30,(.int .i64 3),(.str ⟨#[115,101,103,109,101,110,116,115]⟩),i4] (λV31 S32=>oK (qAC 0 t5) λV33=>oK (rd1 S32 V33) λV34=>wC TP X 123 [V34,(.fn (.func 124) [] [t2])] (λV35 S36=>qAK V35
 (qF9 X x3 i4 t5 t21 V35 .undef I0 m0 K R S36)
 (oK (qAC 1 t5) λV72=>oK (rd1 S36 V72) λV73=>wC TP X 123 [V73,(.fn (.func 125) [] [t2])] (λV74 S75=>qF9 X x3 i4 t5 t21 V35 V74 I0 m0 K R S75) S36)) S32) R s
def qLJ(X:Td)(t2 x3 t19 t20 t21:AV)(I0:IvP)(m0:Nat)(K R:KvP)(s:Hq):Prop:=
 oK (qAB .lss t21 t20) λV19=>qAK V19
 (oK (qAM 2 t19 t21) λV20=>oK (rdN s 2 V20) λV21=>newK 94 [.nilslc,.nilslc] (λB22 S23=>oK (qBx S23 2 (.ptr B22 0) (.agg V21)) λS24=>oK (qAC 0 (.ptr B22 0)) λV25=>oK (rd1 S24 V25) λV26=>oK (qAQ V26) λV27=>oK (negB false (eqV 0 true (.int .i64 V27) (.int .i64 0))) λV29=>qAK V29
 (qF8 X t2 x3 t21 (.ptr B22 0) t21 V29 .undef I0 m0 K R S24)
 (oK (qAC 1 (.ptr B22 0)) λV76=>oK (rd1 S24 V76) λV77=>oK (qAQ V77) λV78=>oK (negB false (eqV 0 true (.int .i64 V78) (.int .i64 0))) λV80=>qF8 X t2 x3 t21 (.ptr B22 0) t21 V29 V80 I0 m0 K R S24)) s)
 (K (.tup []) s)
def qUh(X:Td)(c0:AV)(K R:KvP)(s:Hq):Prop:=
 oK (qAo c0) λV0=>oK (qAC 0 V0) λV1=>oK (rdN s 19 V1) λV2=>newK 31 zR1 (λB3 S4=>oK (qBx S4 19 (.ptr B3 0) (.agg V2)) λS5=>oK (qAC 5 (.ptr B3 0)) λV6=>oK (rd1 S5 V6) λV7=>oK (qAQ V7) λV8=>oK (qAB .gtr (.int .i64 V8) (.int .i64 64)) λV10=>qAh TP X SS 107 [V10,(.int .i64 7),(.str ⟨#[115,101,103,109,101,110,116,115]⟩),(.int .i64 64)] (λV11 S12=>newK 198 [(.int .i64 0),(.int .i64 0),(.int .i64 0),(.int .i64 0),(.int .i64 0),(.int .i64 0),(.int .i64 0),(.int .i64 0),(.int .i64 0),(.int .i64 0),(.int .i64 0),(.int .i64 0),(.int .i64 0),(.int .i64 0),(.int .i64 0),(.int .i64 0),(.int .i64 0),(.int .i64 0),(.int .i64 0),(.int .i64 0),(.int .i64 0),(.int .i64 0),(.int .i64 0),(.int .i64 0),(.int .i64 0),(.int .i64 0),(.int .i64 0),(.int .i64 0),(.int .i64 0),(.int .i64 0),(.int .i64 0),(.int .i64 0)] (λB13 S14=>oK (qAC 5 (.ptr B3 0)) λV15=>oK (rd1 S14 V15) λV16=>oK (qAQ V16) λV17=>∃I0:IvP,(∃m,I0 [(.int .i64 0)] S14 m)/\∀(f:Env) (s:Hq) (m0:Nat),I0 [f 21] s m0->
 qLJ X (.ptr B3 0) (.ptr B13 0) V16 (.int .i64 V17) (f 21) I0 m0 K R s) S12) R S5) s
def qOK:Nat->List Nat:=λk=>cond (Nat.beq k 8) [21] (cond (Nat.beq k 22) [66] ([]))
theorem qQC{c0:AV}{K R:KvP}{s:Hq}(h:qUh X0 c0 K R s):qAh TP X0 SS 92 [c0] K R s:=
 qCi qLV qOK Tryz.func92 (by kernel_rfl:Tryz.f92.body=some (qAr Tryz.f92)) (by kernel_rfl) (by kernel_rfl) (Eq.mpr (by kernel_rfl) h)
def qJa(X:Td)(i5 t28 t115 t119 t123:AV)(I0:IvP)(m0:Nat)(K R:KvP)(s:Hq):Prop:=
 oK (qAT t119 t123 (.bool false)) λV78=>oK (qAT t115 (.bool true) V78) λV79=>qAh TP X SS 107 [V79,(.int .i64 11),(.str ⟨#[104,111,115,116,115]⟩),i5] (λV80 S81=>oK (qAB .add t28 (.int .i64 1)) λV82=>∃m',m'<m0/\I0 [V82] S81 m') R s
def qI3(X:Td)(x3 x4 i5 h6 t28 t97 t107:AV)(I0:IvP)(m0:Nat)(K R:KvP)(s:Hq):Prop:=
 oK (qAT t97 (.bool true) t107) λV66=>qAh TP X SS 107 [V66,(.int .i64 3),(.str ⟨#[104,111,115,116,115]⟩),i5] (λV67 S68=>oK (qAM 1 x3 i5) λV69=>oK (rd1 S68 V69) λV70=>qAK V70
 (oK (qAT V70 (.bool true) .undef) λV71=>qAh TP X SS 107 [V71,(.int .i64 11),(.str ⟨#[104,111,115,116,115]⟩),i5] (λV72 S73=>oK (qAB .add t28 (.int .i64 1)) λV74=>∃m',m'<m0/\I0 [V74] S73 m') R S68)
 (oK (qAC 1 h6) λV75=>oK (rd1 S68 V75) λV76=>oK (negB true (eqV 0 true V76 (.int .u32 0))) λV77=>qAK V77
 (oK (qAM 1 x4 i5) λV83=>oK (rd1 S68 V83) λV84=>qJa X i5 t28 V70 V77 V84 I0 m0 K R S68)
 (qJa X i5 t28 V70 V77 .undef I0 m0 K R S68))) R s
def qJA(X:Td)(t2 x3 x4 i5 h6 t28 t94 t95:AV)(I0:IvP)(m0:Nat)(K R:KvP)(s:Hq):Prop:=
 oK (qAT t94 (.bool true) t95) λV65=>qAK V65
 (qI3 X x3 x4 i5 h6 t28 V65 .undef I0 m0 K R s)
 (oK (qAC 4 t2) λV85=>oK (rd1 s V85) λV86=>oK (qAC 2 h6) λV87=>oK (rd1 s V87) λV88=>oK (qAM 6 V86 V88) λV89=>oK (rdN s 6 V89) λV90=>oK (qAC 1 h6) λV91=>oK (rd1 s V91) λV92=>wC TP X 132 [(.agg V90),V92] (λV93 S94=>oK (qAj .not V93) λV95=>qI3 X x3 x4 i5 h6 t28 V65 V95 I0 m0 K R S94) s)
def qJF(X:Td)(t2 x3 x4 i5 h6 t28 t69 t80:AV)(I0:IvP)(m0:Nat)(K R:KvP)(s:Hq):Prop:=
 oK (qAT t69 t80 (.bool false)) λV53=>qAh TP X SS 107 [V53,(.int .i64 8),(.str ⟨#[104,111,115,116,115]⟩),i5] (λV54 S55=>oK (qAC 0 h6) λV56=>oK (rd1 S55 V56) λV57=>wC TP X 131 [V57] (λV58 S59=>oK (qAf V58 0) λV60=>oK (qAf V58 1) λV61=>oK (qAC 0 h6) λV62=>oK (rd1 S59 V62) λV63=>oK (negB false (eqV 0 true V63 (.int .u64 1577058561))) λV64=>qAK V64
 (qJA X t2 x3 x4 i5 h6 t28 V64 .undef I0 m0 K R S59)
 (qJA X t2 x3 x4 i5 h6 t28 V64 V61 I0 m0 K R S59)) S55) R s
def qJT(X:Td)(t2 x3 x4 i5 h6 t28 t55 t62:AV)(I0:IvP)(m0:Nat)(K R:KvP)(s:Hq):Prop:=
 oK (qAT t55 (.bool true) t62) λV47=>qAh TP X SS 107 [V47,(.int .i64 2),(.str ⟨#[104,111,115,116,115]⟩),i5] (λV48 S49=>oK (qAC 3 h6) λV50=>oK (rd1 S49 V50) λV51=>oK (negB true (eqV 0 true V51 (.int .i64 (-1)))) λV52=>qAK V52
 (oK (qAC 5 t2) λV96=>oK (rd1 S49 V96) λV97=>oK (qAC 3 h6) λV98=>oK (rd1 S49 V98) λV99=>oK (qAM 2 V97 V99) λV100=>oK (qAC 1 V100) λV101=>oK (rd1 S49 V101) λV102=>oK (qAC 2 h6) λV103=>oK (rd1 S49 V103) λV104=>wC TP X 32 [V102,V104] (λV105 S106=>oK (qAj .not V105) λV107=>qJF X t2 x3 x4 i5 h6 t28 V52 V107 I0 m0 K R S106) S49)
 (qJF X t2 x3 x4 i5 h6 t28 V52 .undef I0 m0 K R S49)) R s
def qJQ(X:Td)(t2 x3 x4 i5 h6 t28 t41 t44:AV)(I0:IvP)(m0:Nat)(K R:KvP)(s:Hq):Prop:=
 oK (qAT t41 (.bool true) t44) λV35=>qAh TP X SS 107 [V35,(.int .i64 2),(.str ⟨#[104,111,115,116,115]⟩),i5] (λV36 S37=>oK (qAC 2 h6) λV38=>oK (rd1 S37 V38) λV39=>oK (qAC 4 t2) λV40=>oK (rd1 S37 V40) λV41=>oK (qAQ V41) λV42=>wC TP X 76 [V39,(.int .i64 V42)] (λV44 S45=>oK (qAj .not V44) λV46=>qAK V46
 (qJT X t2 x3 x4 i5 h6 t28 V46 .undef I0 m0 K R S45)
 (oK (qAC 3 h6) λV108=>oK (rd1 S45 V108) λV109=>oK (qAC 5 t2) λV110=>oK (rd1 S45 V110) λV111=>oK (qAQ V111) λV112=>oK (qAB .sub (.int .i64 V112) (.int .i64 1)) λV114=>wC TP X 108 [V109,(.int .i64 (-1)),V114] (λV115 S116=>qJT X t2 x3 x4 i5 h6 t28 V46 V115 I0 m0 K R S116) S45)) S37) R s
def qJV(X:Td)(t2 x3 x4 i5 h6 t28 t36 t39:AV)(I0:IvP)(m0:Nat)(K R:KvP)(s:Hq):Prop:=
 oK (qAT t36 (.bool true) t39) λV34=>qAK V34
 (qJQ X t2 x3 x4 i5 h6 t28 V34 .undef I0 m0 K R s)
 (oK (qAC 0 h6) λV117=>oK (rd1 s V117) λV118=>wC TP X 130 [V118] (λV119 S120=>qJQ X t2 x3 x4 i5 h6 t28 V34 V119 I0 m0 K R S120) s)
def qOP(X:Td)(t2 x3 x4 t26 t27 t28:AV)(I0:IvP)(m0:Nat)(K R:KvP)(s:Hq):Prop:=
 oK (qAB .lss t28 t27) λV25=>qAK V25
 (oK (qAM 4 t26 t28) λV26=>oK (rdN s 4 V26) λV27=>newK 140 [(.int .u64 0),(.int .u32 0),(.int .i64 0),(.int .i64 0)] (λB28 S29=>oK (qBx S29 4 (.ptr B28 0) (.agg V27)) λS30=>oK (qAC 0 (.ptr B28 0)) λV31=>oK (rd1 S30 V31) λV32=>oK (negB false (eqV 0 true V32 (.int .u64 0))) λV33=>qAK V33
 (qJV X t2 x3 x4 t28 (.ptr B28 0) t28 V33 .undef I0 m0 K R S30)
 (oK (qAC 0 (.ptr B28 0)) λV121=>oK (rd1 S30 V121) λV122=>oK (qAB .gtr V122 (.int .u64 281474976710655)) λV123=>qJV X t2 x3 x4 t28 (.ptr B28 0) t28 V33 V123 I0 m0 K R S30)) s)
 (K (.tup []) s)
def zABL(X:Td)(c0:AV)(K R:KvP)(s:Hq):Prop:=
 oK (qAo c0) λV0=>oK (qAC 0 V0) λV1=>oK (rdN s 19 V1) λV2=>newK 31 zR1 (λB3 S4=>oK (qBx S4 19 (.ptr B3 0) (.agg V2)) λS5=>oK (qAC 6 (.ptr B3 0)) λV6=>oK (rd1 S5 V6) λV7=>oK (qAQ V7) λV8=>oK (qAB .gtr (.int .i64 V8) (.int .i64 128)) λV10=>qAh TP X SS 107 [V10,(.int .i64 7),(.str ⟨#[104,111,115,116,115]⟩),(.int .i64 128)] (λV11 S12=>oK (qAC 6 (.ptr B3 0)) λV13=>oK (rd1 S12 V13) λV14=>wC TP X 127 [V14,(.fn (.func 128) [] [])] (λV15 S16=>oK (qAC 6 (.ptr B3 0)) λV17=>oK (rd1 S16 V17) λV18=>wC TP X 127 [V18,(.fn (.func 129) [] [])] (λV19 S20=>oK (qAC 6 (.ptr B3 0)) λV21=>oK (rd1 S20 V21) λV22=>oK (qAQ V22) λV23=>∃I0:IvP,(∃m,I0 [(.int .i64 0)] S20 m)/\∀(f:Env) (s:Hq) (m0:Nat),I0 [f 28] s m0->
 qOP X (.ptr B3 0) V15 V19 V22 (.int .i64 V23) (f 28) I0 m0 K R s) S16) S12) R S5) s
def qTg:Nat->List Nat:=λk=>cond (Nat.beq k 10) [28] ([])
theorem qVY{c0:AV}{K R:KvP}{s:Hq}(h:zABL X0 c0 K R s):qAh TP X0 SS 93 [c0] K R s:=
 qCi qLV qTg Tryz.func93 (by kernel_rfl:Tryz.f93.body=some (qAr Tryz.f93)) (by kernel_rfl) (by kernel_rfl) (Eq.mpr (by kernel_rfl) h)
def qJS(X:Td)(x4 i5 t24 t52 t56:AV)(I0:IvP)(m0:Nat)(K R:KvP)(s:Hq):Prop:=
 oK (qAT t52 (.bool true) t56) λV44=>qAh TP X SS 107 [V44,(.int .i64 3),(.str ⟨#[108,101,97,107,115]⟩),i5] (λV45 S46=>oK (qAM 1 x4 i5) λV47=>oK (rd1 S46 V47) λV48=>qAh TP X SS 107 [V48,(.int .i64 11),(.str ⟨#[108,101,97,107,115]⟩),i5] (λV49 S50=>oK (qAB .add t24 (.int .i64 1)) λV51=>∃m',m'<m0/\I0 [V51] S50 m') R S46) R s
def qJc(X:Td)(x4 i5 l6 t24 t36 t43:AV)(I0:IvP)(m0:Nat)(K R:KvP)(s:Hq):Prop:=
 oK (qAT t36 (.bool true) t43) λV36=>qAh TP X SS 107 [V36,(.int .i64 2),(.str ⟨#[108,101,97,107,115]⟩),i5] (λV37 S38=>oK (qAC 0 l6) λV39=>oK (rd1 S38 V39) λV40=>oK (qAC 1 l6) λV41=>oK (rd1 S38 V41) λV42=>oK (negB false (eqV 0 false V40 V42)) λV43=>qAK V43
 (qJS X x4 i5 t24 V43 .undef I0 m0 K R S38)
 (oK (qAC 2 l6) λV52=>oK (rdN S38 2 V52) λV53=>wC TP X 118 [(.agg V53)] (λV54 S55=>oK (qAj .not V54) λV56=>qJS X x4 i5 t24 V43 V56 I0 m0 K R S55) S38)) R s
def qO9(X:Td)(t2 x4 t22 t23 t24:AV)(I0:IvP)(m0:Nat)(K R:KvP)(s:Hq):Prop:=
 oK (qAB .lss t24 t23) λV21=>qAK V21
 (oK (qAM 4 t22 t24) λV22=>oK (rdN s 4 V22) λV23=>newK 144 [(.int .i64 0),(.int .i64 0),(.int .u32 0),(.int .i64 0)] (λB24 S25=>oK (qBx S25 4 (.ptr B24 0) (.agg V23)) λS26=>oK (qAC 0 (.ptr B24 0)) λV27=>oK (rd1 S26 V27) λV28=>oK (qAC 3 t2) λV29=>oK (rd1 S26 V29) λV30=>oK (qAQ V30) λV31=>wC TP X 76 [V28,(.int .i64 V31)] (λV33 S34=>oK (qAj .not V33) λV35=>qAK V35
 (qJc X x4 t24 (.ptr B24 0) t24 V35 .undef I0 m0 K R S34)
 (oK (qAC 1 (.ptr B24 0)) λV57=>oK (rd1 S34 V57) λV58=>oK (qAC 3 t2) λV59=>oK (rd1 S34 V59) λV60=>oK (qAQ V60) λV61=>wC TP X 76 [V58,(.int .i64 V61)] (λV63 S64=>oK (qAj .not V63) λV65=>qJc X x4 t24 (.ptr B24 0) t24 V35 V65 I0 m0 K R S64) S34)) S26) s)
 (K (.tup []) s)
def zABu(X:Td)(c0:AV)(K R:KvP)(s:Hq):Prop:=
 oK (qAo c0) λV0=>oK (qAC 0 V0) λV1=>oK (rdN s 19 V1) λV2=>newK 31 zR1 (λB3 S4=>oK (qBx S4 19 (.ptr B3 0) (.agg V2)) λS5=>oK (qAC 7 (.ptr B3 0)) λV6=>oK (rd1 S5 V6) λV7=>oK (qAQ V7) λV8=>oK (qAB .gtr (.int .i64 V8) (.int .i64 256)) λV10=>qAh TP X SS 107 [V10,(.int .i64 7),(.str ⟨#[108,101,97,107,115]⟩),(.int .i64 256)] (λV11 S12=>oK (qAC 7 (.ptr B3 0)) λV13=>oK (rd1 S12 V13) λV14=>wC TP X 133 [V14,(.fn (.func 134) [] [])] (λV15 S16=>oK (qAC 7 (.ptr B3 0)) λV17=>oK (rd1 S16 V17) λV18=>oK (qAQ V18) λV19=>∃I0:IvP,(∃m,I0 [(.int .i64 0)] S16 m)/\∀(f:Env) (s:Hq) (m0:Nat),I0 [f 24] s m0->
 qO9 X (.ptr B3 0) V15 V18 (.int .i64 V19) (f 24) I0 m0 K R s) S12) R S5) s
def qTG:Nat->List Nat:=λk=>cond (Nat.beq k 10) [24] ([])
theorem qUY{c0:AV}{K R:KvP}{s:Hq}(h:zABu X0 c0 K R s):qAh TP X0 SS 94 [c0] K R s:=
 qCi qLV qTG Tryz.func94 (by kernel_rfl:Tryz.f94.body=some (qAr Tryz.f94)) (by kernel_rfl) (by kernel_rfl) (Eq.mpr (by kernel_rfl) h)
def qDF(X:Td)(t0 t1 t2 v:AV)(K:KvP)(s:Hq):Prop:=
 oK (negB false (eqV 4 true v .nilIface)) λV0=>qAK V0
 (K (.tup []) s)
 (oK (zACa 147 (some (.agg [(.int .i64 0),(.str ⟨#[]⟩),(.int .i64 0)])) true v) λV1=>oK (qAf V1 1) λV2=>oK (qAf V1 0) λV3=>qAK V2
 (newK 147 [(.int .i64 0),(.str ⟨#[]⟩),(.int .i64 0)] (λB4 S5=>oK (qBx S5 3 (.ptr B4 0) V3) λS6=>oK (qAC 0 (.ptr B4 0)) λV7=>oK (rd1 S6 V7) λV8=>oK (qAC 1 (.ptr B4 0)) λV9=>oK (rd1 S6 V9) λV10=>oK (qAC 2 (.ptr B4 0)) λV11=>oK (rd1 S6 V11) λV12=>((cutH [((hdel S6 (qVG V9)),S6),((hdel S6 (qVG V11)),S6)] S6) (qVG t0)≠none)/\
 oK (wr1 S6 t0 V8) λS13=>((cutH [((hdel S6 (qVG V11)),S6)] S13) (qVG t1)≠none)/\
 oK (wr1 S13 t1 V10) λS14=>oK (wr1 S14 t2 V12) λS15=>K (.tup []) S15) s)
 (oK (wr1 s t0 (.int .i64 3)) λS16=>oK (wr1 S16 t1 (.str ⟨#[102,97,98,114,105,99]⟩)) λS17=>oK (wr1 S17 t2 (.int .i64 0)) λS18=>K (.tup []) S18))
theorem qGi(X:Td)(t0 t1 t2 v:AV)(K:KvP)(s:Hq):wpC TP X nA0 Tryz.f61.ntmps none (qS7 (qAr Tryz.f61)) (qOa (qAr Tryz.f61) (qHZ [t0,t1,t2]) v) (λe env s=>retK e (resK TP Tryz.f61.results.toList env (λvs=>K (oneV vs) s) s)) s=qDF X t0 t1 t2 v K s:=by kernel_rfl
theorem qKz{t0 t1 t2 v:AV}{K:KvP}{s:Hq}(h:qDF X0 t0 t1 t2 v K s):qYv TP X0 61 [t0,t1,t2] v (λs=>K (.tup []) s) s:=
 qWm qLV nA0 Tryz.func61 (by kernel_rfl:Tryz.f61.body=some (qAr Tryz.f61)) (by kernel_rfl) (by kernel_rfl) (by kernel_rfl) ((qGi X0 t0 t1 t2 v K s).mpr h)
def qHm(X:Td)(err2 x3 x4 c5 t8 t12 t13 t14:AV)(I0:IvP)(m0:Nat)(K:KvP)(s:Hq):Prop:=
 oK (qAB .lss t14 t13) λV16=>qAK V16
 (oK (qAM 1 t12 t14) λV17=>oK (rd1 s V17) λV18=>qWf TP X SS V18 [c5] (λV19 S20=>oK (qAB .add t14 (.int .i64 1)) λV21=>∃m',m'<m0/\I0 [V21] S20 m') (λV22 S23=>recK TP X t8 V22 (λS24=>oK (rd1 S24 err2) λerr2_25=>oK (rd1 S24 x3) λpart3_26=>oK (rd1 S24 x4) λindex4_27=>K (.tup [err2_25,part3_26,index4_27]) S24) S23) s)
 (oK (wr1 s err2 (.int .i64 0)) λS28=>oK (wr1 S28 x3 (.str ⟨#[]⟩)) λS29=>oK (wr1 S29 x4 (.int .i64 0)) λS30=>runK TP X t8 (λS31=>oK (rd1 S31 err2) λerr2_32=>oK (rd1 S31 x3) λpart3_33=>oK (rd1 S31 x4) λindex4_34=>K (.tup [err2_32,part3_33,index4_34]) S31) S30)
def qO4(X:Td)(t0:AV)(K:KvP)(s:Hq):Prop:=
 boxK 31 t0 (λB0 S1=>newK 95 [(.int .i64 0)] (λB2 S3=>newK 9 [(.str ⟨#[]⟩)] (λB4 S5=>newK 3 [(.int .i64 0)] (λB6 S7=>qYk TP (.fn (.func 61) [] [(.ptr B2 0),(.ptr B4 0),(.ptr B6 0)])/\
 oK (rdN S7 19 B0) λV8=>oK (qCJ zR1 [(0,19,(.agg V8))]) λC9=>boxK 150 (.agg C9) (λB10 S11=>wC TP X 62 [] (λV12 S13=>oK (qAQ V12) λV14=>∃I0:IvP,(∃m,I0 [(.int .i64 0)] S13 m)/\∀(f:Env) (s:Hq) (m0:Nat),I0 [f 14] s m0->
 qHm X (.ptr B2 0) (.ptr B4 0) (.ptr B6 0) B10 (.fn (.func 61) [] [(.ptr B2 0),(.ptr B4 0),(.ptr B6 0)]) V12 (.int .i64 V14) (f 14) I0 m0 K s) S11) S7) S5) S3) S1) s
def qLM:Nat->List Nat:=λk=>cond (Nat.beq k 8) [14] ([])
theorem qLn{t0:AV}{K R:KvP}{s:Hq}(h:qO4 X0 t0 K s):qAh TP X0 SS 31 [t0] K R s:=
 qRt qLV qLM Tryz.func31 (by kernel_rfl:Tryz.f31.body=some (qAr Tryz.f31)) (by kernel_rfl) (Eq.mpr (by kernel_rfl) h)
end Go.AM
namespace Go.AM
open Go Go.Proofs
set_option maxRecDepth 100000
noncomputable abbrev XG(u0:Bool):Td:=cond u0 qHh XX
theorem zAB8{u0:Bool}:FrX (XG u0):=by cases u0;exact qBT;exact qCM
theorem wO9{X:Td}(hX:FrX X)(A:Nat->List Nat){n:FuncId}(hn:X n=none){f:Func}(h1:TP.funcs[n]?=some f){args:List AV}{K:KvP}{s:Hq}{Q:Prop}(h:Q)(hb:f.body=some (qAr f):=by kernel_rfl)(hl:Nat.ble args.length f.ntmps=true:=by kernel_rfl)(he:wpC TP X A f.ntmps none (qAr f) (qHZ args) (λe env s=>retK e (resK TP f.results.toList env (λvs=>K (oneV vs) s) s)) s=Q:=by kernel_rfl):wC TP X n args K s:=
 qOX hX A hn h1 hb hl (Eq.mpr he h)
def qDm(X:Td)(u0:Bool)(t12 t15:AV)(K:KvP)(s:Hq):Prop:=
 oK (qAT t12 (.bool true) t15) λV3=>K V3 s
def qDp(X:Td)(u0:Bool)(x0 y1 t7 t10:AV)(K:KvP)(s:Hq):Prop:=
 oK (qAT t7 t10 (.bool false)) λV2=>qAK V2
 (qDm X u0 V2 .undef K s)
 (oK (qAB .lss x0 y1) λV4=>qDm X u0 V2 V4 K s)
def qLh(X:Td)(u0:Bool)(x0 y1:AV)(K:KvP)(s:Hq):Prop:=
 wC TP X (cond u0 186 182) [x0] (λV0 S1=>qAK V0
 (wC TP X (cond u0 186 182) [y1] (λV5 S6=>oK (qAj .not V5) λV7=>qDp X u0 x0 y1 V0 V7 K S6) S1)
 (qDp X u0 x0 y1 V0 .undef K S1)) s
theorem qJq{u0:Bool}{x0 y1:AV}{K:KvP}{s:Hq}(h:qLh (XG u0) u0 x0 y1 K s):wC TP (XG u0) (cond u0 152 141) [x0,y1] K s:=by
 cases u0
 ·exact wO9 qBT nA0 rfl Tryz.func141 h
 ·exact wO9 qCM nA0 rfl Tryz.func152 h
def qGh(X:Td)(u0:Bool)(x0:AV)(K:KvP)(s:Hq):Prop:=
 oK (negB true (eqV 0 false x0 x0)) λV0=>K V0 s
theorem qJI{u0:Bool}{x0:AV}{K:KvP}{s:Hq}(h:qGh (XG u0) u0 x0 K s):wC TP (XG u0) (cond u0 186 182) [x0] K s:=by
 cases u0
 ·exact wO9 qBT nA0 rfl Tryz.func182 h
 ·exact wO9 qCM nA0 rfl Tryz.func186 h
def qC9(X:Td)(u0:Bool)(x0:AV)(K:KvP)(s:Hq):Prop:=
 oK (qAQ x0) λV0=>oK (qD2 .u64 (.int .i64 V0)) λV2=>wC TP X 96 [V2] (λV3 S4=>wC TP X (cond u0 98 95) [x0,(.int .i64 0),(.int .i64 V0),V3] (λV5 S6=>K (.tup []) S6) S4) s
theorem qD4{u0:Bool}{x0:AV}{K:KvP}{s:Hq}(h:qC9 (XG u0) u0 x0 K s):wC TP (XG u0) (cond u0 69 66) [x0] K s:=by
 cases u0
 ·exact wO9 qBT nA0 rfl Tryz.func66 h
 ·exact wO9 qCM nA0 rfl Tryz.func69 h
def qA8(X:Td)(u0:Bool)(data0 a1 x9 x10:AV)(I0:IvP)(m0:Nat)(K:KvP)(s:Hq):Prop:=
 oK (qAB .add a1 x10) λV23=>oK (qAB .add a1 x10) λV24=>oK (qAM 1 data0 V24) λV25=>oK (rd1 s V25) λV26=>oK (qAM 1 data0 x9) λV27=>oK (rd1 s V27) λV28=>oK (qAM 1 data0 x9) λV29=>oK (wr1 s V29 V26) λS30=>oK (qAM 1 data0 V23) λV31=>oK (wr1 S30 V31 V28) λS32=>oK (qAB .add x9 (.int .i64 1)) λV33=>∃m',m'<m0/\I0 [V33] S32 m'
def qCb(X:Td)(u0:Bool)(data0 a1 x6 x7 x8 x9:AV)(I0:IvP)(m0:Nat)(K:KvP)(s:Hq):Prop:=
 oK (qAB .quo x6 (.int .i64 4)) λV12=>oK (qAB .mul V12 (.int .i64 2)) λV13=>oK (qAB .add a1 V13) λV14=>oK (qAB .add V14 (.int .i64 1)) λV15=>oK (qAB .leq x9 V15) λV16=>qAK V16
 (wC TP X 179 [x7] (λV17 S18=>oK (qAB .sub x8 (.int .u64 1)) λV19=>oK (qAB .and V17 V19) λV20=>oK (qD2 .i64 V20) λV21=>oK (qAB .geq V21 x6) λV22=>qAK V22
 (oK (qAB .sub V21 x6) λV34=>qA8 X u0 data0 a1 x9 V34 I0 m0 K S18)
 (qA8 X u0 data0 a1 x9 V21 I0 m0 K S18)) s)
 (K (.tup []) s)
def qDE(X:Td)(u0:Bool)(data0 a1 b2:AV)(K:KvP)(s:Hq):Prop:=
 oK (qAB .sub b2 a1) λV0=>oK (qAB .geq V0 (.int .i64 8)) λV1=>qAK V1
 (oK (qD2 .u64 V0) λV2=>newK 242 [(.int .u64 0)] (λB3 S4=>oK (wr1 S4 (.ptr B3 0) V2) λS5=>wC TP X 178 [V0] (λV6 S7=>oK (qAB .quo V0 (.int .i64 4)) λV8=>oK (qAB .mul V8 (.int .i64 2)) λV9=>oK (qAB .add a1 V9) λV10=>oK (qAB .sub V10 (.int .i64 1)) λV11=>∃I0:IvP,(∃m,I0 [V11] S7 m)/\∀(f:Env) (s:Hq) (m0:Nat),I0 [f 9] s m0->
 qCb X u0 data0 a1 V0 (.ptr B3 0) V6 (f 9) I0 m0 K s) S5) s)
 (K (.tup []) s)
def qCT:Nat->List Nat:=λk=>cond (Nat.beq k 10) [9] ([])
theorem qFA{u0:Bool}{data0 a1 b2:AV}{K:KvP}{s:Hq}(h:qDE (XG u0) u0 data0 a1 b2 K s):wC TP (XG u0) (cond u0 148 137) [data0,a1,b2] K s:=by
 cases u0
 ·exact wO9 qBT qCT rfl Tryz.func137 h
 ·exact wO9 qCM qCT rfl Tryz.func148 h
def qBn(X:Td)(u0:Bool)(x9 j11:AV)(K:KvP)(s:Hq):Prop:=
 oK (rd1 s x9) λV13=>oK (negB false (eqV 0 true V13 (.int .i64 0))) λV14=>qAK V14
 (K (.tup [j11,(.int .i64 1)]) s)
 (oK (negB false (eqV 0 true V13 (.int .i64 12))) λV15=>qAK V15
 (K (.tup [j11,(.int .i64 2)]) s)
 (K (.tup [j11,(.int .i64 0)]) s))
def qBl(X:Td)(u0:Bool)(data0 x9 i10 j11 k12:AV)(K:KvP)(s:Hq):Prop:=
 wC TP X (cond u0 185 181) [data0,i10,j11,k12,x9] (λV17 S18=>qBn X u0 x9 V17 K S18) s
def qDf(X:Td)(u0:Bool)(data0 a1 b2:AV)(K:KvP)(s:Hq):Prop:=
 oK (qAB .sub b2 a1) λV0=>newK 3 [(.int .i64 0)] (λB1 S2=>oK (qAB .quo V0 (.int .i64 4)) λV3=>oK (qAB .mul V3 (.int .i64 1)) λV4=>oK (qAB .add a1 V4) λV5=>oK (qAB .quo V0 (.int .i64 4)) λV6=>oK (qAB .mul V6 (.int .i64 2)) λV7=>oK (qAB .add a1 V7) λV8=>oK (qAB .quo V0 (.int .i64 4)) λV9=>oK (qAB .mul V9 (.int .i64 3)) λV10=>oK (qAB .add a1 V10) λV11=>oK (qAB .geq V0 (.int .i64 8)) λV12=>qAK V12
 (oK (qAB .geq V0 (.int .i64 50)) λV16=>qAK V16
 (wC TP X (cond u0 184 180) [data0,V5,(.ptr B1 0)] (λV19 S20=>wC TP X (cond u0 184 180) [data0,V8,(.ptr B1 0)] (λV21 S22=>wC TP X (cond u0 184 180) [data0,V11,(.ptr B1 0)] (λV23 S24=>qBl X u0 data0 (.ptr B1 0) V19 V21 V23 K S24) S22) S20) S2)
 (qBl X u0 data0 (.ptr B1 0) V5 V8 V11 K S2))
 (qBn X u0 (.ptr B1 0) V8 K S2)) s
theorem qFa{u0:Bool}{data0 a1 b2:AV}{K:KvP}{s:Hq}(h:qDf (XG u0) u0 data0 a1 b2 K s):wC TP (XG u0) (cond u0 149 138) [data0,a1,b2] K s:=by
 cases u0
 ·exact wO9 qBT nA0 rfl Tryz.func138 h
 ·exact wO9 qCM nA0 rfl Tryz.func149 h
def qDZ(X:Td)(u0:Bool)(data0 x6 x7 i10:AV)(I1:IvP)(m1:Nat)(K:KvP)(s:Hq):Prop:=
 oK (qAB .geq i10 (.int .i64 0)) λV8=>qAK V8
 (oK (qAB .add x6 i10) λV9=>oK (qAB .add x6 i10) λV10=>oK (qAM 1 data0 V10) λV11=>oK (rd1 s V11) λV12=>oK (qAM 1 data0 x6) λV13=>oK (rd1 s V13) λV14=>oK (qAM 1 data0 x6) λV15=>oK (wr1 s V15 V12) λS16=>oK (qAM 1 data0 V9) λV17=>oK (wr1 S16 V17 V14) λS18=>wC TP X (cond u0 183 177) [data0,x7,i10,x6] (λV19 S20=>oK (qAB .sub i10 (.int .i64 1)) λV21=>∃m',m'<m1/\I1 [V21] S20 m') S18)
 (K (.tup []) s)
def qDc(X:Td)(u0:Bool)(data0 x6 x7 x8 i9:AV)(I0:IvP)(m0:Nat)(K:KvP)(s:Hq):Prop:=
 oK (qAB .geq i9 (.int .i64 0)) λV3=>qAK V3
 (wC TP X (cond u0 183 177) [data0,i9,x8,x6] (λV4 S5=>oK (qAB .sub i9 (.int .i64 1)) λV6=>∃m',m'<m0/\I0 [V6] S5 m') s)
 (oK (qAB .sub x8 (.int .i64 1)) λV7=>∃I1:IvP,(∃m,I1 [V7] s m)/\∀(f:Env) (s:Hq) (m1:Nat),I1 [f 10] s m1->
 qDZ X u0 data0 x6 x7 (f 10) I1 m1 K s)
def qER(X:Td)(u0:Bool)(data0 a1 b2:AV)(K:KvP)(s:Hq):Prop:=
 oK (qAB .sub b2 a1) λV0=>oK (qAB .sub V0 (.int .i64 1)) λV1=>oK (qAB .quo V1 (.int .i64 2)) λV2=>∃I0:IvP,(∃m,I0 [V2] s m)/\∀(f:Env) (s:Hq) (m0:Nat),I0 [f 9] s m0->
 qDc X u0 data0 a1 (.int .i64 0) V0 (f 9) I0 m0 K s
def qDN:Nat->List Nat:=λk=>cond (Nat.beq k 8) [9] (cond (Nat.beq k 16) [10] ([]))
theorem qGc{u0:Bool}{data0 a1 b2:AV}{K:KvP}{s:Hq}(h:qER (XG u0) u0 data0 a1 b2 K s):wC TP (XG u0) (cond u0 147 136) [data0,a1,b2] K s:=by
 cases u0
 ·exact wO9 qBT qDN rfl Tryz.func136 h
 ·exact wO9 qCM qDN rfl Tryz.func147 h
def qA9(X:Td)(u0:Bool)(data0 i6 j7 t19 t29:AV)(I1:IvP)(m1:Nat)(I0:IvP)(m0:Nat)(K:KvP)(s:Hq):Prop:=
 oK (qAT t19 t29 (.bool false)) λV3=>qAK V3
 (oK (qAB .sub j7 (.int .i64 1)) λV4=>oK (qAB .sub j7 (.int .i64 1)) λV5=>oK (qAM 1 data0 V5) λV6=>oK (rd1 s V6) λV7=>oK (qAM 1 data0 j7) λV8=>oK (rd1 s V8) λV9=>oK (qAM 1 data0 j7) λV10=>oK (wr1 s V10 V7) λS11=>oK (qAM 1 data0 V4) λV12=>oK (wr1 S11 V12 V9) λS13=>oK (qAB .sub j7 (.int .i64 1)) λV14=>∃m',m'<m1/\I1 [V14] S13 m')
 (oK (qAB .add i6 (.int .i64 1)) λV15=>∃m',m'<m0/\I0 [V15] s m')
def qCY(X:Td)(u0:Bool)(data0 a1 i6 j7:AV)(I1:IvP)(m1:Nat)(I0:IvP)(m0:Nat)(K:KvP)(s:Hq):Prop:=
 oK (qAB .gtr j7 a1) λV2=>qAK V2
 (oK (qAM 1 data0 j7) λV16=>oK (rd1 s V16) λV17=>oK (qAB .sub j7 (.int .i64 1)) λV18=>oK (qAM 1 data0 V18) λV19=>oK (rd1 s V19) λV20=>wC TP X (cond u0 152 141) [V17,V20] (λV21 S22=>qA9 X u0 data0 i6 j7 V2 V21 I1 m1 I0 m0 K S22) s)
 (qA9 X u0 data0 i6 j7 V2 .undef I1 m1 I0 m0 K s)
def qCZ(X:Td)(u0:Bool)(data0 a1 b2 i6:AV)(I0:IvP)(m0:Nat)(K:KvP)(s:Hq):Prop:=
 oK (qAB .lss i6 b2) λV1=>qAK V1
 (∃I1:IvP,(∃m,I1 [i6] s m)/\∀(f:Env) (s:Hq) (m1:Nat),I1 [f 7] s m1->
 qCY X u0 data0 a1 i6 (f 7) I1 m1 I0 m0 K s)
 (K (.tup []) s)
def qC8(X:Td)(u0:Bool)(data0 a1 b2:AV)(K:KvP)(s:Hq):Prop:=
 oK (qAB .add a1 (.int .i64 1)) λV0=>∃I0:IvP,(∃m,I0 [V0] s m)/\∀(f:Env) (s:Hq) (m0:Nat),I0 [f 6] s m0->
 qCZ X u0 data0 a1 b2 (f 6) I0 m0 K s
def qCX:Nat->List Nat:=λk=>cond (Nat.beq k 2) [6] (cond (Nat.beq k 8) [7] ([]))
theorem qCa{u0:Bool}{data0 a1 b2:AV}{K:KvP}{s:Hq}(h:qC8 (XG u0) u0 data0 a1 b2 K s):wC TP (XG u0) (cond u0 146 135) [data0,a1,b2] K s:=by
 cases u0
 ·exact wO9 qBT qCX rfl Tryz.func135 h
 ·exact wO9 qCM qCX rfl Tryz.func146 h
def qC3(X:Td)(u0:Bool)(data0 a1 swaps2:AV)(K:KvP)(s:Hq):Prop:=
 oK (qAB .sub a1 (.int .i64 1)) λV0=>oK (qAB .add a1 (.int .i64 1)) λV1=>wC TP X (cond u0 185 181) [data0,V0,a1,V1,swaps2] (λV2 S3=>K V2 S3) s
theorem qEn{u0:Bool}{data0 a1 swaps2:AV}{K:KvP}{s:Hq}(h:qC3 (XG u0) u0 data0 a1 swaps2 K s):wC TP (XG u0) (cond u0 184 180) [data0,a1,swaps2] K s:=by
 cases u0
 ·exact wO9 qBT nA0 rfl Tryz.func180 h
 ·exact wO9 qCM nA0 rfl Tryz.func184 h
def qIZ(X:Td)(u0:Bool)(data0 a1 b2 c3 x4:AV)(K:KvP)(s:Hq):Prop:=
 wC TP X (cond u0 200 199) [data0,a1,b2,x4] (λV0 S1=>oK (qAf V0 0) λV2=>oK (qAf V0 1) λV3=>wC TP X (cond u0 200 199) [data0,V3,c3,x4] (λV4 S5=>oK (qAf V4 0) λV6=>oK (qAf V4 1) λV7=>wC TP X (cond u0 200 199) [data0,V2,V6,x4] (λV8 S9=>oK (qAf V8 0) λV10=>oK (qAf V8 1) λV11=>K V11 S9) S5) S1) s
theorem qHI{u0:Bool}{data0 a1 b2 c3 x4:AV}{K:KvP}{s:Hq}(h:qIZ (XG u0) u0 data0 a1 b2 c3 x4 K s):wC TP (XG u0) (cond u0 185 181) [data0,a1,b2,c3,x4] K s:=by
 cases u0
 ·exact wO9 qBT nA0 rfl Tryz.func181 h
 ·exact wO9 qCM nA0 rfl Tryz.func185 h
def qEx(X:Td)(u0:Bool)(data0 a1 b2 x3:AV)(K:KvP)(s:Hq):Prop:=
 oK (qAM 1 data0 b2) λV0=>oK (rd1 s V0) λV1=>oK (qAM 1 data0 a1) λV2=>oK (rd1 s V2) λV3=>wC TP X (cond u0 152 141) [V1,V3] (λV4 S5=>qAK V4
 (oK (qAo x3) λV6=>oK (rd1 S5 V6) λV7=>oK (qAB .add V7 (.int .i64 1)) λV8=>oK (qAo x3) λV9=>oK (wr1 S5 V9 V8) λS10=>K (.tup [b2,a1]) S10)
 (K (.tup [a1,b2]) S5)) s
theorem qHW{u0:Bool}{data0 a1 b2 x3:AV}{K:KvP}{s:Hq}(h:qEx (XG u0) u0 data0 a1 b2 x3 K s):wC TP (XG u0) (cond u0 200 199) [data0,a1,b2,x3] K s:=by
 cases u0
 ·exact wO9 qBT nA0 rfl Tryz.func199 h
 ·exact wO9 qCM nA0 rfl Tryz.func200 h
def qAm(X:Td)(u0:Bool)(i7 j8:AV)(I0:IvP)(m0:Nat)(K:KvP)(s:Hq):Prop:=
 oK (qAB .add j8 (.int .i64 1)) λV22=>∃m',m'<m0/\I0 [i7,V22] s m'
def qBu(X:Td)(u0:Bool)(data0 b2 i7 j8 j10:AV)(I5:IvP)(m5:Nat)(I0:IvP)(m0:Nat)(K:KvP)(s:Hq):Prop:=
 oK (qAB .lss j10 b2) λV24=>qAK V24
 (oK (qAM 1 data0 j10) λV25=>oK (rd1 s V25) λV26=>oK (qAB .sub j10 (.int .i64 1)) λV27=>oK (qAM 1 data0 V27) λV28=>oK (rd1 s V28) λV29=>wC TP X (cond u0 152 141) [V26,V29] (λV30 S31=>oK (qAj .not V30) λV32=>qAK V32
 (qAm X u0 i7 j8 I0 m0 K S31)
 (oK (qAB .sub j10 (.int .i64 1)) λV33=>oK (qAB .sub j10 (.int .i64 1)) λV34=>oK (qAM 1 data0 V34) λV35=>oK (rd1 S31 V35) λV36=>oK (qAM 1 data0 j10) λV37=>oK (rd1 S31 V37) λV38=>oK (qAM 1 data0 j10) λV39=>oK (wr1 S31 V39 V36) λS40=>oK (qAM 1 data0 V33) λV41=>oK (wr1 S40 V41 V38) λS42=>oK (qAB .add j10 (.int .i64 1)) λV43=>∃m',m'<m5/\I5 [V43] S42 m')) s)
 (qAm X u0 i7 j8 I0 m0 K s)
def qAe(X:Td)(u0:Bool)(data0 b2 i7 j8:AV)(I0:IvP)(m0:Nat)(K:KvP)(s:Hq):Prop:=
 oK (qAB .sub b2 i7) λV20=>oK (qAB .geq V20 (.int .i64 2)) λV21=>qAK V21
 (oK (qAB .add i7 (.int .i64 1)) λV23=>∃I5:IvP,(∃m,I5 [V23] s m)/\∀(f:Env) (s:Hq) (m5:Nat),I5 [f 10] s m5->
 qBu X u0 data0 b2 i7 j8 (f 10) I5 m5 I0 m0 K s)
 (qAm X u0 i7 j8 I0 m0 K s)
def qBs(X:Td)(u0:Bool)(data0 b2 i7 j8 j9:AV)(I6:IvP)(m6:Nat)(I0:IvP)(m0:Nat)(K:KvP)(s:Hq):Prop:=
 oK (qAB .geq j9 (.int .i64 1)) λV45=>qAK V45
 (oK (qAM 1 data0 j9) λV46=>oK (rd1 s V46) λV47=>oK (qAB .sub j9 (.int .i64 1)) λV48=>oK (qAM 1 data0 V48) λV49=>oK (rd1 s V49) λV50=>wC TP X (cond u0 152 141) [V47,V50] (λV51 S52=>oK (qAj .not V51) λV53=>qAK V53
 (qAe X u0 data0 b2 i7 j8 I0 m0 K S52)
 (oK (qAB .sub j9 (.int .i64 1)) λV54=>oK (qAB .sub j9 (.int .i64 1)) λV55=>oK (qAM 1 data0 V55) λV56=>oK (rd1 S52 V56) λV57=>oK (qAM 1 data0 j9) λV58=>oK (rd1 S52 V58) λV59=>oK (qAM 1 data0 j9) λV60=>oK (wr1 S52 V60 V57) λS61=>oK (qAM 1 data0 V54) λV62=>oK (wr1 S61 V62 V59) λS63=>oK (qAB .sub j9 (.int .i64 1)) λV64=>∃m',m'<m6/\I6 [V64] S63 m')) s)
 (qAe X u0 data0 b2 i7 j8 I0 m0 K s)
def qAt(X:Td)(u0:Bool)(data0 a1 b2 i7 j8 t20 t31:AV)(I1:IvP)(m1:Nat)(I0:IvP)(m0:Nat)(K:KvP)(s:Hq):Prop:=
 oK (qAT t20 t31 (.bool false)) λV3=>qAK V3
 (oK (qAB .add i7 (.int .i64 1)) λV4=>∃m',m'<m1/\I1 [V4] s m')
 (oK (negB false (eqV 0 false i7 b2)) λV5=>qAK V5
 (K (.bool true) s)
 (oK (qAB .sub b2 a1) λV6=>oK (qAB .lss V6 (.int .i64 50)) λV7=>qAK V7
 (K (.bool false) s)
 (oK (qAB .sub i7 (.int .i64 1)) λV8=>oK (qAB .sub i7 (.int .i64 1)) λV9=>oK (qAM 1 data0 V9) λV10=>oK (rd1 s V10) λV11=>oK (qAM 1 data0 i7) λV12=>oK (rd1 s V12) λV13=>oK (qAM 1 data0 i7) λV14=>oK (wr1 s V14 V11) λS15=>oK (qAM 1 data0 V8) λV16=>oK (wr1 S15 V16 V13) λS17=>oK (qAB .sub i7 a1) λV18=>oK (qAB .geq V18 (.int .i64 2)) λV19=>qAK V19
 (oK (qAB .sub i7 (.int .i64 1)) λV44=>∃I6:IvP,(∃m,I6 [V44] S17 m)/\∀(f:Env) (s:Hq) (m6:Nat),I6 [f 9] s m6->
 qBs X u0 data0 b2 i7 j8 (f 9) I6 m6 I0 m0 K s)
 (qAe X u0 data0 b2 i7 j8 I0 m0 K S17))))
def qBt(X:Td)(u0:Bool)(data0 a1 b2 i7 j8:AV)(I1:IvP)(m1:Nat)(I0:IvP)(m0:Nat)(K:KvP)(s:Hq):Prop:=
 oK (qAB .lss i7 b2) λV2=>qAK V2
 (oK (qAM 1 data0 i7) λV65=>oK (rd1 s V65) λV66=>oK (qAB .sub i7 (.int .i64 1)) λV67=>oK (qAM 1 data0 V67) λV68=>oK (rd1 s V68) λV69=>wC TP X (cond u0 152 141) [V66,V69] (λV70 S71=>oK (qAj .not V70) λV72=>qAt X u0 data0 a1 b2 i7 j8 V2 V72 I1 m1 I0 m0 K S71) s)
 (qAt X u0 data0 a1 b2 i7 j8 V2 .undef I1 m1 I0 m0 K s)
def qBr(X:Td)(u0:Bool)(data0 a1 b2 i7 j8:AV)(I0:IvP)(m0:Nat)(K:KvP)(s:Hq):Prop:=
 oK (qAB .lss j8 (.int .i64 5)) λV1=>qAK V1
 (∃I1:IvP,(∃m,I1 [i7] s m)/\∀(f:Env) (s:Hq) (m1:Nat),I1 [f 7] s m1->
 qBt X u0 data0 a1 b2 (f 7) j8 I1 m1 I0 m0 K s)
 (K (.bool false) s)
def qCA(X:Td)(u0:Bool)(data0 a1 b2:AV)(K:KvP)(s:Hq):Prop:=
 oK (qAB .add a1 (.int .i64 1)) λV0=>∃I0:IvP,(∃m,I0 [V0,(.int .i64 0)] s m)/\∀(f:Env) (s:Hq) (m0:Nat),I0 [f 7,f 8] s m0->
 qBr X u0 data0 a1 b2 (f 7) (f 8) I0 m0 K s
def qBk:Nat->List Nat:=λk=>cond (Nat.beq k 6) [7,8] (cond (Nat.beq k 10) [7] (cond (Nat.beq k 40) [10] (cond (Nat.beq k 28) [9] ([]))))
theorem qDo{u0:Bool}{data0 a1 b2:AV}{K:KvP}{s:Hq}(h:qCA (XG u0) u0 data0 a1 b2 K s):wC TP (XG u0) (cond u0 151 140) [data0,a1,b2] K s:=by
 cases u0
 ·exact wO9 qBT qBk rfl Tryz.func140 h
 ·exact wO9 qCM qBk rfl Tryz.func151 h
def qA5(X:Td)(u0:Bool)(data0 i9 j10 t49 t58:AV)(I3:IvP)(m3:Nat)(I0:IvP)(m0:Nat)(K:KvP)(s:Hq):Prop:=
 oK (qAT t49 t58 (.bool false)) λV14=>qAK V14
 (oK (qAB .sub j10 (.int .i64 1)) λV15=>∃m',m'<m3/\I3 [V15] s m')
 (oK (qAB .gtr i9 j10) λV16=>qAK V16
 (K i9 s)
 (oK (qAM 1 data0 j10) λV17=>oK (rd1 s V17) λV18=>oK (qAM 1 data0 i9) λV19=>oK (rd1 s V19) λV20=>oK (qAM 1 data0 i9) λV21=>oK (wr1 s V21 V18) λS22=>oK (qAM 1 data0 j10) λV23=>oK (wr1 S22 V23 V20) λS24=>oK (qAB .add i9 (.int .i64 1)) λV25=>oK (qAB .sub j10 (.int .i64 1)) λV26=>∃m',m'<m0/\I0 [V25,V26] S24 m'))
def qBa(X:Td)(u0:Bool)(data0 a1 i9 j10:AV)(I3:IvP)(m3:Nat)(I0:IvP)(m0:Nat)(K:KvP)(s:Hq):Prop:=
 oK (qAB .leq i9 j10) λV13=>qAK V13
 (oK (qAM 1 data0 a1) λV27=>oK (rd1 s V27) λV28=>oK (qAM 1 data0 j10) λV29=>oK (rd1 s V29) λV30=>wC TP X (cond u0 152 141) [V28,V30] (λV31 S32=>qA5 X u0 data0 i9 j10 V13 V31 I3 m3 I0 m0 K S32) s)
 (qA5 X u0 data0 i9 j10 V13 .undef I3 m3 I0 m0 K s)
def qA3(X:Td)(u0:Bool)(data0 a1 i9 j10 t32 t42:AV)(I1:IvP)(m1:Nat)(I0:IvP)(m0:Nat)(K:KvP)(s:Hq):Prop:=
 oK (qAT t32 t42 (.bool false)) λV11=>qAK V11
 (oK (qAB .add i9 (.int .i64 1)) λV12=>∃m',m'<m1/\I1 [V12,j10] s m')
 (∃I3:IvP,(∃m,I3 [j10] s m)/\∀(f:Env) (s:Hq) (m3:Nat),I3 [f 10] s m3->
 qBa X u0 data0 a1 i9 (f 10) I3 m3 I0 m0 K s)
def qCU(X:Td)(u0:Bool)(data0 a1 i9 j10:AV)(I1:IvP)(m1:Nat)(I0:IvP)(m0:Nat)(K:KvP)(s:Hq):Prop:=
 oK (qAB .leq i9 j10) λV10=>qAK V10
 (oK (qAM 1 data0 a1) λV33=>oK (rd1 s V33) λV34=>oK (qAM 1 data0 i9) λV35=>oK (rd1 s V35) λV36=>wC TP X (cond u0 152 141) [V34,V36] (λV37 S38=>oK (qAj .not V37) λV39=>qA3 X u0 data0 a1 i9 j10 V10 V39 I1 m1 I0 m0 K S38) s)
 (qA3 X u0 data0 a1 i9 j10 V10 .undef I1 m1 I0 m0 K s)
def qEm(X:Td)(u0:Bool)(data0 a1 i9 j10:AV)(I0:IvP)(m0:Nat)(K:KvP)(s:Hq):Prop:=
 ∃I1:IvP,(∃m,I1 [i9,j10] s m)/\∀(f:Env) (s:Hq) (m1:Nat),I1 [f 9,f 10] s m1->
 qCU X u0 data0 a1 (f 9) j10 I1 m1 I0 m0 K s
def qC0(X:Td)(u0:Bool)(data0 a1 b2 x3:AV)(K:KvP)(s:Hq):Prop:=
 oK (qAM 1 data0 x3) λV0=>oK (rd1 s V0) λV1=>oK (qAM 1 data0 a1) λV2=>oK (rd1 s V2) λV3=>oK (qAM 1 data0 a1) λV4=>oK (wr1 s V4 V1) λS5=>oK (qAM 1 data0 x3) λV6=>oK (wr1 S5 V6 V3) λS7=>oK (qAB .add a1 (.int .i64 1)) λV8=>oK (qAB .sub b2 (.int .i64 1)) λV9=>∃I0:IvP,(∃m,I0 [V8,V9] S7 m)/\∀(f:Env) (s:Hq) (m0:Nat),I0 [f 9,f 10] s m0->
 qEm X u0 data0 a1 (f 9) (f 10) I0 m0 K s
def qCN:Nat->List Nat:=λk=>cond (Nat.beq k 6) [9,10] (cond (Nat.beq k 10) [10] ([]))
theorem qEw{u0:Bool}{data0 a1 b2 x3:AV}{K:KvP}{s:Hq}(h:qC0 (XG u0) u0 data0 a1 b2 x3 K s):wC TP (XG u0) (cond u0 153 142) [data0,a1,b2,x3] K s:=by
 cases u0
 ·exact wO9 qBT qCN rfl Tryz.func142 h
 ·exact wO9 qCM qCN rfl Tryz.func153 h
def qBS(X:Td)(u0:Bool)(data0 a1 i10 j11 t118 t128:AV)(I7:IvP)(m7:Nat)(I4:IvP)(m4:Nat)(K:KvP)(s:Hq):Prop:=
 oK (qAT t118 t128 (.bool false)) λV39=>qAK V39
 (oK (qAB .sub j11 (.int .i64 1)) λV40=>∃m',m'<m7/\I7 [V40] s m')
 (oK (qAB .gtr i10 j11) λV41=>qAK V41
 (oK (qAM 1 data0 a1) λV42=>oK (rd1 s V42) λV43=>oK (qAM 1 data0 j11) λV44=>oK (rd1 s V44) λV45=>oK (qAM 1 data0 j11) λV46=>oK (wr1 s V46 V43) λS47=>oK (qAM 1 data0 a1) λV48=>oK (wr1 S47 V48 V45) λS49=>K (.tup [j11,(.bool false)]) S49)
 (oK (qAM 1 data0 j11) λV50=>oK (rd1 s V50) λV51=>oK (qAM 1 data0 i10) λV52=>oK (rd1 s V52) λV53=>oK (qAM 1 data0 i10) λV54=>oK (wr1 s V54 V51) λS55=>oK (qAM 1 data0 j11) λV56=>oK (wr1 S55 V56 V53) λS57=>oK (qAB .add i10 (.int .i64 1)) λV58=>oK (qAB .sub j11 (.int .i64 1)) λV59=>∃m',m'<m4/\I4 [V58,V59] S57 m'))
def qB6(X:Td)(u0:Bool)(data0 a1 i10 j11:AV)(I7:IvP)(m7:Nat)(I4:IvP)(m4:Nat)(K:KvP)(s:Hq):Prop:=
 oK (qAB .leq i10 j11) λV38=>qAK V38
 (oK (qAM 1 data0 j11) λV60=>oK (rd1 s V60) λV61=>oK (qAM 1 data0 a1) λV62=>oK (rd1 s V62) λV63=>wC TP X (cond u0 152 141) [V61,V63] (λV64 S65=>oK (qAj .not V64) λV66=>qBS X u0 data0 a1 i10 j11 V38 V66 I7 m7 I4 m4 K S65) s)
 (qBS X u0 data0 a1 i10 j11 V38 .undef I7 m7 I4 m4 K s)
def qBR(X:Td)(u0:Bool)(data0 a1 i10 j11 t102 t111:AV)(I5:IvP)(m5:Nat)(I4:IvP)(m4:Nat)(K:KvP)(s:Hq):Prop:=
 oK (qAT t102 t111 (.bool false)) λV36=>qAK V36
 (oK (qAB .add i10 (.int .i64 1)) λV37=>∃m',m'<m5/\I5 [V37,j11] s m')
 (∃I7:IvP,(∃m,I7 [j11] s m)/\∀(f:Env) (s:Hq) (m7:Nat),I7 [f 11] s m7->
 qB6 X u0 data0 a1 i10 (f 11) I7 m7 I4 m4 K s)
def qDK(X:Td)(u0:Bool)(data0 a1 i10 j11:AV)(I5:IvP)(m5:Nat)(I4:IvP)(m4:Nat)(K:KvP)(s:Hq):Prop:=
 oK (qAB .leq i10 j11) λV35=>qAK V35
 (oK (qAM 1 data0 i10) λV67=>oK (rd1 s V67) λV68=>oK (qAM 1 data0 a1) λV69=>oK (rd1 s V69) λV70=>wC TP X (cond u0 152 141) [V68,V70] (λV71 S72=>qBR X u0 data0 a1 i10 j11 V35 V71 I5 m5 I4 m4 K S72) s)
 (qBR X u0 data0 a1 i10 j11 V35 .undef I5 m5 I4 m4 K s)
def qB7(X:Td)(u0:Bool)(data0 a1 i10 j11:AV)(I4:IvP)(m4:Nat)(K:KvP)(s:Hq):Prop:=
 ∃I5:IvP,(∃m,I5 [i10,j11] s m)/\∀(f:Env) (s:Hq) (m5:Nat),I5 [f 10,f 11] s m5->
 qDK X u0 data0 a1 (f 10) j11 I5 m5 I4 m4 K s
def qBP(X:Td)(u0:Bool)(data0 a1 i10 j11 t49 t59:AV)(I2:IvP)(m2:Nat)(K:KvP)(s:Hq):Prop:=
 oK (qAT t49 t59 (.bool false)) λV14=>qAK V14
 (oK (qAB .sub j11 (.int .i64 1)) λV15=>∃m',m'<m2/\I2 [V15] s m')
 (oK (qAB .gtr i10 j11) λV16=>qAK V16
 (oK (qAM 1 data0 a1) λV17=>oK (rd1 s V17) λV18=>oK (qAM 1 data0 j11) λV19=>oK (rd1 s V19) λV20=>oK (qAM 1 data0 j11) λV21=>oK (wr1 s V21 V18) λS22=>oK (qAM 1 data0 a1) λV23=>oK (wr1 S22 V23 V20) λS24=>K (.tup [j11,(.bool true)]) S24)
 (oK (qAM 1 data0 j11) λV25=>oK (rd1 s V25) λV26=>oK (qAM 1 data0 i10) λV27=>oK (rd1 s V27) λV28=>oK (qAM 1 data0 i10) λV29=>oK (wr1 s V29 V26) λS30=>oK (qAM 1 data0 j11) λV31=>oK (wr1 S30 V31 V28) λS32=>oK (qAB .add i10 (.int .i64 1)) λV33=>oK (qAB .sub j11 (.int .i64 1)) λV34=>∃I4:IvP,(∃m,I4 [V33,V34] S32 m)/\∀(f:Env) (s:Hq) (m4:Nat),I4 [f 10,f 11] s m4->
 qB7 X u0 data0 a1 (f 10) (f 11) I4 m4 K s))
def qB4(X:Td)(u0:Bool)(data0 a1 i10 j11:AV)(I2:IvP)(m2:Nat)(K:KvP)(s:Hq):Prop:=
 oK (qAB .leq i10 j11) λV13=>qAK V13
 (oK (qAM 1 data0 j11) λV73=>oK (rd1 s V73) λV74=>oK (qAM 1 data0 a1) λV75=>oK (rd1 s V75) λV76=>wC TP X (cond u0 152 141) [V74,V76] (λV77 S78=>oK (qAj .not V77) λV79=>qBP X u0 data0 a1 i10 j11 V13 V79 I2 m2 K S78) s)
 (qBP X u0 data0 a1 i10 j11 V13 .undef I2 m2 K s)
def qBN(X:Td)(u0:Bool)(data0 a1 i10 j11 t33 t42:AV)(I0:IvP)(m0:Nat)(K:KvP)(s:Hq):Prop:=
 oK (qAT t33 t42 (.bool false)) λV11=>qAK V11
 (oK (qAB .add i10 (.int .i64 1)) λV12=>∃m',m'<m0/\I0 [V12] s m')
 (∃I2:IvP,(∃m,I2 [j11] s m)/\∀(f:Env) (s:Hq) (m2:Nat),I2 [f 11] s m2->
 qB4 X u0 data0 a1 i10 (f 11) I2 m2 K s)
def qDO(X:Td)(u0:Bool)(data0 a1 i10 j11:AV)(I0:IvP)(m0:Nat)(K:KvP)(s:Hq):Prop:=
 oK (qAB .leq i10 j11) λV10=>qAK V10
 (oK (qAM 1 data0 i10) λV80=>oK (rd1 s V80) λV81=>oK (qAM 1 data0 a1) λV82=>oK (rd1 s V82) λV83=>wC TP X (cond u0 152 141) [V81,V83] (λV84 S85=>qBN X u0 data0 a1 i10 j11 V10 V84 I0 m0 K S85) s)
 (qBN X u0 data0 a1 i10 j11 V10 .undef I0 m0 K s)
def qD7(X:Td)(u0:Bool)(data0 a1 b2 x3:AV)(K:KvP)(s:Hq):Prop:=
 oK (qAM 1 data0 x3) λV0=>oK (rd1 s V0) λV1=>oK (qAM 1 data0 a1) λV2=>oK (rd1 s V2) λV3=>oK (qAM 1 data0 a1) λV4=>oK (wr1 s V4 V1) λS5=>oK (qAM 1 data0 x3) λV6=>oK (wr1 S5 V6 V3) λS7=>oK (qAB .add a1 (.int .i64 1)) λV8=>oK (qAB .sub b2 (.int .i64 1)) λV9=>∃I0:IvP,(∃m,I0 [V8] S7 m)/\∀(f:Env) (s:Hq) (m0:Nat),I0 [f 10] s m0->
 qDO X u0 data0 a1 (f 10) V9 I0 m0 K s
def qDH:Nat->List Nat:=λk=>cond (Nat.beq k 6) [10] (cond (Nat.beq k 10) [11] (cond (Nat.beq k 26) [10,11] (cond (Nat.beq k 30) [11] ([]))))
theorem qGP{u0:Bool}{data0 a1 b2 x3:AV}{K:KvP}{s:Hq}(h:qD7 (XG u0) u0 data0 a1 b2 x3 K s):wC TP (XG u0) (cond u0 154 143) [data0,a1,b2,x3] K s:=by
 cases u0
 ·exact wO9 qBT qDH rfl Tryz.func143 h
 ·exact wO9 qCM qDH rfl Tryz.func154 h
def qAw(X:Td)(u0:Bool)(data0 a1 b2 x3 x8 x9 x10 x11 t75 t86:AV)(I0:IvP)(m0:Nat)(K:KvP)(s:Hq):Prop:=
 oK (qAT t75 t86 (.bool false)) λV16=>qAK V16
 (wC TP X (cond u0 153 142) [data0,a1,b2,x11] (λV17 S18=>∃m',m'<m0/\I0 [V17,b2,x3,x8,x9] S18 m') s)
 (wC TP X (cond u0 154 143) [data0,a1,b2,x11] (λV19 S20=>oK (qAf V19 0) λV21=>oK (qAf V19 1) λV22=>oK (qAB .sub V21 a1) λV23=>oK (qAB .sub b2 V21) λV24=>oK (qAB .quo x10 (.int .i64 8)) λV25=>oK (qAB .lss V23 V24) λV26=>qAK V26
 (oK (qAB .geq V23 V25) λV27=>wC TP X (cond u0 98 95) [data0,a1,V21,x3] (λV28 S29=>oK (qAB .add V21 (.int .i64 1)) λV30=>∃m',m'<m0/\I0 [V30,b2,x3,V27,V22] S29 m') S20)
 (oK (qAB .geq V24 V25) λV31=>oK (qAB .add V21 (.int .i64 1)) λV32=>wC TP X (cond u0 98 95) [data0,V32,b2,x3] (λV33 S34=>∃m',m'<m0/\I0 [a1,V21,x3,V31,V22] S34 m') S20)) s)
def qBb(X:Td)(u0:Bool)(data0 a1 b2 x3 x8 x9 x10 x11:AV)(I0:IvP)(m0:Nat)(K:KvP)(s:Hq):Prop:=
 oK (qAB .gtr a1 (.int .i64 0)) λV15=>qAK V15
 (oK (qAB .sub a1 (.int .i64 1)) λV35=>oK (qAM 1 data0 V35) λV36=>oK (rd1 s V36) λV37=>oK (qAM 1 data0 x11) λV38=>oK (rd1 s V38) λV39=>wC TP X (cond u0 152 141) [V37,V39] (λV40 S41=>oK (qAj .not V40) λV42=>qAw X u0 data0 a1 b2 x3 x8 x9 x10 x11 V15 V42 I0 m0 K S41) s)
 (qAw X u0 data0 a1 b2 x3 x8 x9 x10 x11 V15 .undef I0 m0 K s)
def qBC(X:Td)(u0:Bool)(data0 a1 b2 x3 x8 x9 x10 x11 t65 t67:AV)(I0:IvP)(m0:Nat)(K:KvP)(s:Hq):Prop:=
 oK (qAT t65 t67 (.bool false)) λV14=>qAK V14
 (wC TP X (cond u0 151 140) [data0,a1,b2] (λV43 S44=>qAK V43
 (K (.tup []) S44)
 (qBb X u0 data0 a1 b2 x3 x8 x9 x10 x11 I0 m0 K S44)) s)
 (qBb X u0 data0 a1 b2 x3 x8 x9 x10 x11 I0 m0 K s)
def qBD(X:Td)(u0:Bool)(data0 a1 b2 x3 x8 x9 x10 x11 x12 t62 t63:AV)(I0:IvP)(m0:Nat)(K:KvP)(s:Hq):Prop:=
 oK (qAT t62 t63 (.bool false)) λV13=>qAK V13
 (oK (negB false (eqV 0 true x12 (.int .i64 1))) λV45=>qBC X u0 data0 a1 b2 x3 x8 x9 x10 x11 V13 V45 I0 m0 K s)
 (qBC X u0 data0 a1 b2 x3 x8 x9 x10 x11 V13 .undef I0 m0 K s)
def qAv(X:Td)(u0:Bool)(data0 a1 b2 x3 x8 x9 x10 x11 x12:AV)(I0:IvP)(m0:Nat)(K:KvP)(s:Hq):Prop:=
 qAK x8
 (qBD X u0 data0 a1 b2 x3 x8 x9 x10 x11 x12 x8 x9 I0 m0 K s)
 (qBD X u0 data0 a1 b2 x3 x8 x9 x10 x11 x12 x8 .undef I0 m0 K s)
def qCL(X:Td)(u0:Bool)(data0 a1 b2 x3 x8 x9 x10:AV)(I0:IvP)(m0:Nat)(K:KvP)(s:Hq):Prop:=
 wC TP X (cond u0 149 138) [data0,a1,b2] (λV8 S9=>oK (qAf V8 0) λV10=>oK (qAf V8 1) λV11=>oK (negB false (eqV 0 true V11 (.int .i64 2))) λV12=>qAK V12
 (wC TP X (cond u0 150 139) [data0,a1,b2] (λV46 S47=>oK (qAB .sub b2 (.int .i64 1)) λV48=>oK (qAB .sub V10 a1) λV49=>oK (qAB .sub V48 V49) λV50=>qAv X u0 data0 a1 b2 x3 x8 x9 x10 V50 (.int .i64 1) I0 m0 K S47) S9)
 (qAv X u0 data0 a1 b2 x3 x8 x9 x10 V10 V11 I0 m0 K S9)) s
def qDw(X:Td)(u0:Bool)(data0 a1 b2 x3 x8 x9:AV)(I0:IvP)(m0:Nat)(K:KvP)(s:Hq):Prop:=
 oK (qAB .sub b2 a1) λV0=>oK (qAB .leq V0 (.int .i64 12)) λV1=>qAK V1
 (wC TP X (cond u0 146 135) [data0,a1,b2] (λV2 S3=>K (.tup []) S3) s)
 (oK (negB false (eqV 0 true x3 (.int .i64 0))) λV4=>qAK V4
 (wC TP X (cond u0 147 136) [data0,a1,b2] (λV5 S6=>K (.tup []) S6) s)
 (oK (qAj .not x8) λV7=>qAK V7
 (wC TP X (cond u0 148 137) [data0,a1,b2] (λV51 S52=>oK (qAB .sub x3 (.int .i64 1)) λV53=>qCL X u0 data0 a1 b2 V53 x8 x9 V0 I0 m0 K S52) s)
 (qCL X u0 data0 a1 b2 x3 x8 x9 V0 I0 m0 K s)))
def qIB(X:Td)(u0:Bool)(data0 a1 b2 x3:AV)(K:KvP)(s:Hq):Prop:=
 ∃I0:IvP,(∃m,I0 [a1,b2,x3,(.bool true),(.bool true)] s m)/\∀(f:Env) (s:Hq) (m0:Nat),I0 [f 1,f 2,f 3,f 8,f 9] s m0->
 qDw X u0 data0 (f 1) (f 2) (f 3) (f 8) (f 9) I0 m0 K s
def qDa:Nat->List Nat:=λk=>cond (Nat.beq k 4) [1,2,3,8,9] ([])
theorem qDz{u0:Bool}{data0 a1 b2 x3:AV}{K:KvP}{s:Hq}(h:qIB (XG u0) u0 data0 a1 b2 x3 K s):wC TP (XG u0) (cond u0 98 95) [data0,a1,b2,x3] K s:=by
 cases u0
 ·exact wO9 qBT qDa rfl Tryz.func95 h
 ·exact wO9 qCM qDa rfl Tryz.func98 h
def qCr(X:Td)(u0:Bool)(data0 i6 j7:AV)(I0:IvP)(m0:Nat)(K:KvP)(s:Hq):Prop:=
 oK (qAB .lss i6 j7) λV1=>qAK V1
 (oK (qAM 1 data0 j7) λV2=>oK (rd1 s V2) λV3=>oK (qAM 1 data0 i6) λV4=>oK (rd1 s V4) λV5=>oK (qAM 1 data0 i6) λV6=>oK (wr1 s V6 V3) λS7=>oK (qAM 1 data0 j7) λV8=>oK (wr1 S7 V8 V5) λS9=>oK (qAB .add i6 (.int .i64 1)) λV10=>oK (qAB .sub j7 (.int .i64 1)) λV11=>∃m',m'<m0/\I0 [V10,V11] S9 m')
 (K (.tup []) s)
def qDP(X:Td)(u0:Bool)(data0 a1 b2:AV)(K:KvP)(s:Hq):Prop:=
 oK (qAB .sub b2 (.int .i64 1)) λV0=>∃I0:IvP,(∃m,I0 [a1,V0] s m)/\∀(f:Env) (s:Hq) (m0:Nat),I0 [f 6,f 7] s m0->
 qCr X u0 data0 (f 6) (f 7) I0 m0 K s
def qCc:Nat->List Nat:=λk=>cond (Nat.beq k 4) [6,7] ([])
theorem qFV{u0:Bool}{data0 a1 b2:AV}{K:KvP}{s:Hq}(h:qDP (XG u0) u0 data0 a1 b2 K s):wC TP (XG u0) (cond u0 150 139) [data0,a1,b2] K s:=by
 cases u0
 ·exact wO9 qBT qCc rfl Tryz.func139 h
 ·exact wO9 qCM qCc rfl Tryz.func150 h
def qBZ(X:Td)(u0:Bool)(data0 x3 x8 x9:AV)(I0:IvP)(m0:Nat)(K:KvP)(s:Hq):Prop:=
 oK (qAB .add x3 x8) λV6=>oK (qAM 1 data0 V6) λV7=>oK (rd1 s V7) λV8=>oK (qAB .add x3 x9) λV9=>oK (qAM 1 data0 V9) λV10=>oK (rd1 s V10) λV11=>wC TP X (cond u0 152 141) [V8,V11] (λV12 S13=>oK (qAj .not V12) λV14=>qAK V14
 (K (.tup []) S13)
 (oK (qAB .add x3 x8) λV15=>oK (qAB .add x3 x9) λV16=>oK (qAB .add x3 x9) λV17=>oK (qAM 1 data0 V17) λV18=>oK (rd1 S13 V18) λV19=>oK (qAB .add x3 x8) λV20=>oK (qAM 1 data0 V20) λV21=>oK (rd1 S13 V21) λV22=>oK (qAM 1 data0 V15) λV23=>oK (wr1 S13 V23 V19) λS24=>oK (qAM 1 data0 V16) λV25=>oK (wr1 S24 V25 V22) λS26=>∃m',m'<m0/\I0 [x9] S26 m')) s
def qBY(X:Td)(u0:Bool)(data0 x3 x8 x9 t21 t35:AV)(I0:IvP)(m0:Nat)(K:KvP)(s:Hq):Prop:=
 oK (qAT t21 t35 (.bool false)) λV5=>qAK V5
 (oK (qAB .add x9 (.int .i64 1)) λV27=>qBZ X u0 data0 x3 x8 V27 I0 m0 K s)
 (qBZ X u0 data0 x3 x8 x9 I0 m0 K s)
def qDb(X:Td)(u0:Bool)(data0 hi2 x3 x8:AV)(I0:IvP)(m0:Nat)(K:KvP)(s:Hq):Prop:=
 oK (qAB .mul (.int .i64 2) x8) λV0=>oK (qAB .add V0 (.int .i64 1)) λV1=>oK (qAB .geq V1 hi2) λV2=>qAK V2
 (K (.tup []) s)
 (oK (qAB .add V1 (.int .i64 1)) λV3=>oK (qAB .lss V3 hi2) λV4=>qAK V4
 (oK (qAB .add x3 V1) λV28=>oK (qAM 1 data0 V28) λV29=>oK (rd1 s V29) λV30=>oK (qAB .add x3 V1) λV31=>oK (qAB .add V31 (.int .i64 1)) λV32=>oK (qAM 1 data0 V32) λV33=>oK (rd1 s V33) λV34=>wC TP X (cond u0 152 141) [V30,V34] (λV35 S36=>qBY X u0 data0 x3 x8 V1 V4 V35 I0 m0 K S36) s)
 (qBY X u0 data0 x3 x8 V1 V4 .undef I0 m0 K s))
def qHa(X:Td)(u0:Bool)(data0 x1 hi2 x3:AV)(K:KvP)(s:Hq):Prop:=
 ∃I0:IvP,(∃m,I0 [x1] s m)/\∀(f:Env) (s:Hq) (m0:Nat),I0 [f 8] s m0->
 qDb X u0 data0 hi2 x3 (f 8) I0 m0 K s
def qDR:Nat->List Nat:=λk=>cond (Nat.beq k 2) [8] ([])
theorem qGV{u0:Bool}{data0 x1 hi2 x3:AV}{K:KvP}{s:Hq}(h:qHa (XG u0) u0 data0 x1 hi2 x3 K s):wC TP (XG u0) (cond u0 183 177) [data0,x1,hi2,x3] K s:=by
 cases u0
 ·exact wO9 qBT qDR rfl Tryz.func177 h
 ·exact wO9 qCM qDR rfl Tryz.func183 h
end Go.AM
namespace Go.AM
open Go Go.Proofs
set_option maxRecDepth 100000
abbrev WW:List Nat:=[70,97,68,35]
def qBE:Nat->List Nat:=λk=>cond (Nat.beq k 7) [2] ([])
def qC1(X:Td)(l:Nat)(t2 t7:AV)(E:AExit->Hq->Prop)(s:Hq):Prop:=
 AExit.nrm=.nrm/\qQr l (λS0=>oK (rd1 S0 t2) λV1=>oK (qCJ (repl 1 [(.int .u32 0)]) [(0,1,t7)]) λC2=>qAg C2=true/\newK 42 C2 (λB3 S4=>appK 42 1 V1 (.slc B3 0 1 (some 1) 1) (λV5 S6=>oK (wr1 S6 t2 V5) λS7=>E .nrm S7) S4) S0) s
theorem qEs(X:Td)(l:Nat)(f:Env)(t7:AV)(E:AExit->Hq->Prop)(s:Hq):wpC TP X qBE Tryz.f97.ntmps (some l) (rfAs 0 (qAr Tryz.f97)) (setE f [7] [t7]) (λe env s=>e=.nrm/\qQr l (λs=>wpC TP X qBE Tryz.f97.ntmps (some l) (rfBo 0 (qAr Tryz.f97)) env (λe _ s=>E e s) s) s) s=qC1 X l (f 2) t7 E s:=by kernel_rfl
theorem qEl{l:Nat}{t:Bool}{st:LoopState}{pd:Option Code}{d:Nat}{t2 t7:AV}{K:KvP}{s:Hq}(hs:s l=some (t,.loop st pd 13 [(2,t2)] [7] (rfAs 0 (qAr Tryz.f97)) (rfBo 0 (qAr Tryz.f97)) d))(h:qC1 qHh l t2 t7 (λe s=>endK l e K s) s):qOg TP qHh l [t7] K s:=
 qXm (qCM) qBE hs rfl rfl λf hf=>by
 refine(qEs qHh l f t7 (λe s=>endK l e K s) s).mpr ?_
 rw[show f 2=t2 from hf (2,t2) (by simp)]
 exact h
def qDn(X:Td)(t0:AV)(K:KvP)(s:Hq):Prop:=
 boxK 101 t0 (λB0 S1=>K (.fn (.func 70) [] [B0]) S1) s
theorem qDI{t0:AV}{K:KvP}{s:Hq}(h:qDn XX t0 K s):wC TP XX 36 [t0] K s:=wOK qBT nA0 rfl Tryz.func36 h
def qA6(X:Td)(yield0 t1:AV)(K:KvP)(s:Hq):Prop:=
 oK (rd1 s t1) λV0=>qZw V0 (λV1 S2=>oK (qTm S2 V1) λp_3=>∃I0:LvP,I0 [] [] (hdel S2 p_3.1)/\
 ∀(n_5:List Nat) (f_6:Env) (S7:Hq),I0 n_5 [] S7->S7 p_3.1=none->qUo S7 p_3.2.1 p_3.2.2.2.1 p_3.2.2.2.2/\
 (∀e_4∈p_3.2.2.2.2,hasN e_4.born n_5=false->
 qAK (.bool true)
 (oK (entD (hset S7 p_3.1 (true,.iter p_3.2.1 p_3.2.2.1 (n_5 ++ [e_4.born]) p_3.2.2.2.1)) V1) λV8=>oK (qAf V8 0) λV9=>funK TP X yield0 [V9] (λV10 S11=>oK (qAj .not V10) λV12=>qAK V12
 (K (.tup []) (hdel S11 p_3.1))
 (I0 (n_5 ++ [e_4.born]) [] (hdel S11 p_3.1))) (hset S7 p_3.1 (true,.iter p_3.2.1 p_3.2.2.1 (n_5 ++ [e_4.born]) p_3.2.2.2.1)))
 (K (.tup []) (hdel (hset S7 p_3.1 (true,.iter p_3.2.1 p_3.2.2.1 (n_5 ++ [e_4.born]) p_3.2.2.2.1)) p_3.1)))/\
 ((∀e_4∈p_3.2.2.2.2,hasN e_4.born n_5=true)->
 qAK (.bool false)
 (oK (entD S7 V1) λV13=>oK (qAf V13 0) λV14=>funK TP X yield0 [V14] (λV15 S16=>oK (qAj .not V15) λV17=>qAK V17
 (K (.tup []) S16)
 (False)) S7)
 (K (.tup []) S7))) s
def qBW:Nat->List Nat:=λk=>cond (Nat.beq k 2) [] ([])
theorem qC4(X:Td)(yield0 t1:AV)(K:KvP)(s:Hq):wpCW TP X WW qBW Tryz.f70.ntmps (qAr Tryz.f70) (qHZ [yield0,t1]) (λe env s=>retK e (resK TP Tryz.f70.results.toList env (λvs=>K (oneV vs) s) s)) s=qA6 X yield0 t1 K s:=by kernel_rfl
theorem qC5{yield0 t1:AV}{K:KvP}{s:Hq}(h:qA6 qHh yield0 t1 K s):wpW TP qHh 70 [yield0,t1] K s:=
 qRo qBW Tryz.func70 (by kernel_rfl:Tryz.f70.body=some (qAr Tryz.f70)) (by kernel_rfl) ((qC4 qHh yield0 t1 K s).mpr h)
def qFX(X:Td)(seq0:AV)(K:KvP)(s:Hq):Prop:=
 wpW TP X 97 [.nilslc,seq0] (λV0 S1=>K V0 S1) s
theorem qJ9(X:Td)(seq0:AV)(K:KvP)(s:Hq):wpCW TP X WW nA0 Tryz.f68.ntmps (qAr Tryz.f68) (qHZ [seq0]) (λe env s=>retK e (resK TP Tryz.f68.results.toList env (λvs=>K (oneV vs) s) s)) s=qFX X seq0 K s:=by kernel_rfl
theorem qJz{seq0:AV}{K:KvP}{s:Hq}(h:qFX qHh seq0 K s):wpW TP qHh 68 [seq0] K s:=
 qRo nA0 Tryz.func68 (by kernel_rfl:Tryz.f68.body=some (qAr Tryz.f68)) (by kernel_rfl) ((qJ9 qHh seq0 K s).mpr h)
def qFt(X:Td)(seq0:AV)(K:KvP)(s:Hq):Prop:=
 wpW TP X 68 [seq0] (λV0 S1=>wC TP X 69 [V0] (λV2 S3=>K V0 S3) S1) s
theorem qK2(X:Td)(seq0:AV)(K:KvP)(s:Hq):wpCW TP X WW nA0 Tryz.f35.ntmps (qAr Tryz.f35) (qHZ [seq0]) (λe env s=>retK e (resK TP Tryz.f35.results.toList env (λvs=>K (oneV vs) s) s)) s=qFt X seq0 K s:=by kernel_rfl
theorem qK1{seq0:AV}{K:KvP}{s:Hq}(h:qFt qHh seq0 K s):wpW TP qHh 35 [seq0] K s:=
 qRo nA0 Tryz.func35 (by kernel_rfl:Tryz.f35.body=some (qAr Tryz.f35)) (by kernel_rfl) ((qK2 qHh seq0 K s).mpr h)
end Go.AM
namespace Go.AM
open Go Go.Proofs
set_option maxRecDepth 100000
end Go.AM
namespace Go.AM
open Go Go.Proofs
set_option maxRecDepth 100000
def qI7(X:Td)(a0 b1 x5 i6 t13 t17:AV)(I0:IvP)(m0:Nat)(K:KvP)(s:Hq):Prop:=
 oK (qAT t13 t17 (.bool false)) λV5=>qAK V5
 (oK (qAM 1 a0 i6) λV6=>oK (rd1 s V6) λV7=>oK (qAM 1 b1 i6) λV8=>oK (rd1 s V8) λV9=>oK (negB false (eqV 0 false V7 V9)) λV10=>oK (qAB .add i6 (.int .i64 1)) λV11=>∃m',m'<m0/\I0 [V10,V11] s m')
 (K x5 s)
def qMS(X:Td)(a0 b1 x5 i6:AV)(I0:IvP)(m0:Nat)(K:KvP)(s:Hq):Prop:=
 qAK x5
 (oK (qAQ a0) λV12=>oK (qAB .lss i6 (.int .i64 V12)) λV14=>qI7 X a0 b1 x5 i6 x5 V14 I0 m0 K s)
 (qI7 X a0 b1 x5 i6 x5 .undef I0 m0 K s)
def qQI(X:Td)(a0 b1:AV)(K:KvP)(s:Hq):Prop:=
 oK (qAQ a0) λV0=>oK (qAQ b1) λV2=>oK (negB false (eqV 0 false (.int .i64 V0) (.int .i64 V2))) λV4=>∃I0:IvP,(∃m,I0 [V4,(.int .i64 0)] s m)/\∀(f:Env) (s:Hq) (m0:Nat),I0 [f 5,f 6] s m0->
 qMS X a0 b1 (f 5) (f 6) I0 m0 K s
def qP7:Nat->List Nat:=λk=>cond (Nat.beq k 6) [5,6] ([])
theorem qRn{a0 b1:AV}{K:KvP}{s:Hq}(h:qQI XX a0 b1 K s):wC TP XX 28 [a0,b1] K s:=wOK qBT qP7 rfl Tryz.func28 h
end Go.AM
