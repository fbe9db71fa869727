/- Part V of the proof: see the last part. -/
import Derived.Test.YtjheoaemhdpoeaaGreatDoorU2
import Derived.Test.YtjheoaemhdpoeaaGreatDoorProg
import Derived.KernelRfl
set_option linter.unusedVariables false
namespace Go.AM
open Go Go.Proofs
noncomputable abbrev TP:Program:=Tryz.prog
theorem wOK{P:Program}{X:Td}(hX:FrX X)(A:Nat->List Nat){n:FuncId}(hn:X n=none){f:Func}(h1:P.funcs[n]?=some f){args:List AV}{K:AV->Hq->Prop}{s:Hq}{Q:Prop}(h:Q)(hb:f.body=some (qA5 f):=by kernel_rfl)(hl:Nat.ble args.length f.ntmps=true:=by kernel_rfl)(he:wpC P X A f.ntmps none (qA5 f) (qIj args) (λe env s=>retK e (resK P f.results.toList env (λvs=>K (oneV vs) s) s)) s=Q:=by kernel_rfl):wC P X n args K s:=
  qLu hX A hn h1 hb hl (Eq.mpr he h)
def nA0:Nat->List Nat:=λ_=>[]
abbrev zR0:List AV:=[(.int .i64 0),(.int .u64 0),(.int .u8 0),(.int .u8 0),(.int .u8 0),(.int .u8 0),(.int .u8 0),(.int .u8 0),(.int .u8 0),(.int .u8 0),(.int .u8 0),(.int .u8 0),(.int .u32 0),(.int .u64 0),(.int .u32 0),(.bool false),(.int .u32 0),(.int .i64 0),(.int .u32 0),(.int .u32 0),(.int .u32 0),(.int .i64 0),.nilslc,(.int .u32 0),(.bool false),(.int .u32 0),(.bool false),(.int .u32 0),(.bool false),(.int .u32 0),.nilslc,.nilslc,(.int .i64 0),(.int .u32 0),(.int .u32 0),(.int .u32 0),(.int .u32 0),(.bool false)]
abbrev zR1:List AV:=[(.int .i64 0),(.int .i64 0),.nilslc,.nilslc,.nilslc,.nilslc,.nilslc,.nilslc,(.int .i64 0),(.int .i64 0),(.int .i64 0),(.bool false),(.bool false),(.int .i64 0),(.int .i64 0),(.int .i64 0),(.int .i64 0),(.int .i64 0),(.int .i64 0)]
abbrev IvP:=List AV->Hq->Nat->Prop
abbrev KvP:=AV->Hq->Prop
abbrev LvP:=List Nat->List AV->Hq->Prop
set_option maxRecDepth 100000
abbrev kindsL:List AV:=[.int .i64 1,.int .u8 0,.int .u8 2,.int .i64 2,.int .u8 3,.int .u8 12,.int .i64 3,.int .u8 6,.int .u8 0,.int .i64 4,.int .u8 6,.int .u8 1,.int .i64 5,.int .u8 6,.int .u8 2,.int .i64 6,.int .u8 6,.int .u8 3,.int .i64 7,.int .u8 6,.int .u8 6]
abbrev X0:Td:=qGU 0 kindsL [10,5]
theorem qJE:FrX X0:=qN7 _ _ _
abbrev SS:FuncId->Bool:=λk=>memN k [107,87,88,89,90,91,92,93,94]
noncomputable abbrev XL:Td:=limX TP X0 SS [31]
noncomputable abbrev XX:Td:=orX XL (orX (sortedUX 35 70 101 42) X0)
theorem qCM:FrX XX:=qZI (qWX qJE _) (qZI (qMb 35 70 101 42) qJE)
structure Fn0(Y:Td):Prop where
 fr:FrX Y
 no:∀k,memN k (35::31 :: [10,5])=false->Y k=none
theorem X0_h{k:Nat}(h:memN k (35::31 :: [10,5])=false):memN k [10,5]=false:=by unfold memN at h;cases e:Nat.beq k 35<;>rw[e]at h<;>first|(unfold memN at h;cases e:Nat.beq k 31<;>rw[e]at h<;>first|exact h|cases h)|cases h
theorem X0_0:Fn0 X0:=⟨qJE,λk h=>by show cond (memN k [10,5]) _ _=_;rw[X0_h h];rfl⟩
theorem XX_1{k:Nat}(h:memN k (35::31 :: [10,5])=false):memN k [31]=false:=by unfold memN at h;cases e:Nat.beq k 35<;>rw[e]at h<;>first|(unfold memN at h;cases e:Nat.beq k 31<;>rw[e]at h<;>first|(unfold memN;rw[e];rfl)|cases h)|cases h
theorem XX_2{k:Nat}(h:memN k (35::31 :: [10,5])=false):limX TP X0 SS [31] k=none:=by show cond (memN k [31]) _ _=_;rw[XX_1 h];rfl
theorem XX_3{k:Nat}(h:memN k (35::31 :: [10,5])=false):sortedUX 35 70 101 42 k=none:=by unfold memN at h;cases e:Nat.beq k 35<;>rw[e]at h<;>first|(unfold sortedUX;rw[e];rfl)|cases h
theorem XX_0:Fn0 XX:=⟨qCM,λk h=>by show(match limX TP X0 SS [31] k with|some g=>some g|none=>(match sortedUX 35 70 101 42 k with|some g=>some g|none=>X0 k))=none;rw[XX_2 h,XX_3 h];exact X0_0.no k h⟩
def qCP(X:Td)(t2 t4:AV)(K:KvP)(s:Hq):Prop:=
 oK (rdN s 19 t4) λV132=>oK (qBF s 19 t2 (.agg V132)) λS133=>oK (rdN S133 19 t2) λt2_134=>K (.agg t2_134) S133
def qHv(X:Td)(t2 t3 t4 many6 n10 i11:AV)(I5:IvP)(m5:Nat)(K:KvP)(s:Hq):Prop:=
 oK (qAB .lss i11 many6) λV137=>qAM V137
 (oK (qAE 7 t4) λV138=>oK (rd1 s V138) λV139=>∃h_140:Hq,(∀b,h_140 b≠none->s b≠none)/\
 wC TP X 60 [t3,n10] (λV141 S142=>(∀b,s b≠none->(cutH [((hdel s (qCA V138)),s)] (minus s h_140)) b=none->S142 b=none)->
 wC TP X 59 [V139,V141] (λV143 S144=>oK (qAE 7 t4) λV145=>oK (wr1 S144 V145 V143) λS146=>oK (qAB .add i11 (.int .i64 1)) λV147=>∃m',m'<m5/\I5 [V147] S146 m') (add S142 (rest s (cutH [((hdel s (qCA V138)),s)] (minus s h_140))))) (cutH [((hdel s (qCA V138)),s)] (minus s h_140)))
 (qCP X t2 t4 K s)
def qH1(X:Td)(t2 t3 t4 many6 i9:AV)(I3:IvP)(m3:Nat)(K:KvP)(s:Hq):Prop:=
 oK (qAB .lss i9 many6) λV112=>qAM V112
 (oK (qAE 6 t4) λV113=>oK (rd1 s V113) λV114=>oK (rdN s 19 t4) λV115=>∃h_116:Hq,(∀b,h_116 b≠none->s b≠none)/\
 wC TP X 58 [t3,(.agg V115),i9] (λV117 S118=>(∀b,s b≠none->(cutH [((hdel s (qCA V113)),s)] (minus s h_116)) b=none->S118 b=none)->
 oK (qBV (repl 1 [(.int .u64 0),(.int .u32 0),(.int .i64 0),(.int .i64 0)]) [(0,4,V117)]) λC119=>qAU C119=true/\newK 140 C119 (λB120 S121=>(∀b,(add S118 (rest s (cutH [((hdel s (qCA V113)),s)] (minus s h_116)))) b≠none->(add S118 (rest s (cutH [((hdel s (qCA V113)),s)] (minus s h_116)))) b=none->S121 b=none)->
 appK 140 4 V114 (.slc B120 0 1 (some 1) 4) (λV122 S123=>oK (qAE 6 t4) λV124=>oK (wr1 S123 V124 V122) λS125=>oK (qAB .add i9 (.int .i64 1)) λV126=>∃m',m'<m3/\I3 [V126] S125 m') (add (add S118 (rest s (cutH [((hdel s (qCA V113)),s)] (minus s h_116)))) S121)) (frz (add S118 (rest s (cutH [((hdel s (qCA V113)),s)] (minus s h_116)))))) (cutH [((hdel s (qCA V113)),s)] (minus s h_116)))
 (oK (qAE 3 t4) λV127=>oK (rd1 s V127) λV128=>oK (qAO V128) λV129=>oK (qAB .gtr (.int .i64 V129) (.int .i64 1)) λV131=>qAM V131
 (wC TP X 54 [t3,(.int .i64 3)] (λV135 S136=>∃I5:IvP,(∃m,I5 [(.int .i64 0)] S136 m)/\∀(f:Env) (s:Hq) (m5:Nat),I5 [f 11] s m5->
 qHv X t2 t3 t4 V135 (.int .i64 V129) (f 11) I5 m5 K s) s)
 (qCP X t2 t4 K s))
def qIR(X:Td)(t2 t3 t4 many6 i8:AV)(I2:IvP)(m2:Nat)(K:KvP)(s:Hq):Prop:=
 oK (qAB .lss i8 many6) λV86=>qAM V86
 (oK (qAE 5 t4) λV87=>oK (rd1 s V87) λV88=>oK (qAE 0 t4) λV89=>oK (rd1 s V89) λV90=>∃h_91:Hq,(∀b,h_91 b≠none->s b≠none)/\
 wC TP X 57 [t3,V90,(.int .i64 3)] (λV92 S93=>(∀b,s b≠none->(cutH [((hdel s (qCA V87)),s)] (minus s h_91)) b=none->S93 b=none)->
 oK (qAE 4 t4) λV94=>oK (rd1 (cutH [(h_91,qNJ)] (add S93 (rest s (cutH [((hdel s (qCA V87)),s)] (minus s h_91))))) V94) λV95=>oK (qAO V95) λV96=>∃h_98:Hq,(∀b,h_98 b≠none->(add S93 (rest s (cutH [((hdel s (qCA V87)),s)] (minus s h_91)))) b≠none)/\
 wC TP X 57 [t3,(.int .i64 V96),(.int .i64 4)] (λV99 S100=>(∀b,(add S93 (rest s (cutH [((hdel s (qCA V87)),s)] (minus s h_91)))) b≠none->(cutH [((hdel s (qCA V87)),s)] (minus (add S93 (rest s (cutH [((hdel s (qCA V87)),s)] (minus s h_91)))) h_98)) b=none->S100 b=none)->
 oK (qBV [.nilslc,.nilslc] [(0,1,V92),(1,1,V99)]) λC101=>oK (qBV (repl 1 [.nilslc,.nilslc]) [(0,2,(.agg C101))]) λC102=>qAU C102=true/\newK 94 C102 (λB103 S104=>(∀b,(add S100 (rest (add S93 (rest s (cutH [((hdel s (qCA V87)),s)] (minus s h_91)))) (cutH [((hdel s (qCA V87)),s)] (minus (add S93 (rest s (cutH [((hdel s (qCA V87)),s)] (minus s h_91)))) h_98)))) b≠none->(add S100 (rest (add S93 (rest s (cutH [((hdel s (qCA V87)),s)] (minus s h_91)))) (cutH [((hdel s (qCA V87)),s)] (minus (add S93 (rest s (cutH [((hdel s (qCA V87)),s)] (minus s h_91)))) h_98)))) b=none->S104 b=none)->
 appK 94 2 V88 (.slc B103 0 1 (some 1) 2) (λV105 S106=>oK (qAE 5 t4) λV107=>oK (wr1 S106 V107 V105) λS108=>oK (qAB .add i8 (.int .i64 1)) λV109=>∃m',m'<m2/\I2 [V109] S108 m') (add (add S100 (rest (add S93 (rest s (cutH [((hdel s (qCA V87)),s)] (minus s h_91)))) (cutH [((hdel s (qCA V87)),s)] (minus (add S93 (rest s (cutH [((hdel s (qCA V87)),s)] (minus s h_91)))) h_98)))) S104)) (frz (add S100 (rest (add S93 (rest s (cutH [((hdel s (qCA V87)),s)] (minus s h_91)))) (cutH [((hdel s (qCA V87)),s)] (minus (add S93 (rest s (cutH [((hdel s (qCA V87)),s)] (minus s h_91)))) h_98)))))) (cutH [((hdel s (qCA V87)),s)] (minus (add S93 (rest s (cutH [((hdel s (qCA V87)),s)] (minus s h_91)))) h_98))) (cutH [((hdel s (qCA V87)),s)] (minus s h_91)))
 (wC TP X 54 [t3,(.int .i64 9)] (λV110 S111=>∃I3:IvP,(∃m,I3 [(.int .i64 0)] S111 m)/\∀(f:Env) (s:Hq) (m3:Nat),I3 [f 9] s m3->
 qH1 X t2 t3 t4 V110 (f 9) I3 m3 K s) s)
def qIT(X:Td)(t2 t3 t4 many6 i7:AV)(I1:IvP)(m1:Nat)(K:KvP)(s:Hq):Prop:=
 oK (qAB .lss i7 many6) λV65=>qAM V65
 (oK (qAE 4 t4) λV66=>oK (rd1 s V66) λV67=>oK (qAE 3 t4) λV68=>oK (rd1 s V68) λV69=>oK (qAO V69) λV70=>∃h_72:Hq,(∀b,h_72 b≠none->s b≠none)/\
 wC TP X 56 [t3,i7,(.int .i64 V70)] (λV73 S74=>(∀b,s b≠none->(cutH [((hdel s (qCA V66)),s)] (minus s h_72)) b=none->S74 b=none)->
 oK (qBV (repl 1 [(.int .i64 0),(.int .u32 0),(.int .u32 0),(.int .u32 0),(.int .i64 0),(.int .u32 0)]) [(0,6,V73)]) λC75=>qAU C75=true/\newK 87 C75 (λB76 S77=>(∀b,(add S74 (rest s (cutH [((hdel s (qCA V66)),s)] (minus s h_72)))) b≠none->(add S74 (rest s (cutH [((hdel s (qCA V66)),s)] (minus s h_72)))) b=none->S77 b=none)->
 appK 87 6 V67 (.slc B76 0 1 (some 1) 6) (λV78 S79=>oK (qAE 4 t4) λV80=>oK (wr1 S79 V80 V78) λS81=>oK (qAB .add i7 (.int .i64 1)) λV82=>∃m',m'<m1/\I1 [V82] S81 m') (add (add S74 (rest s (cutH [((hdel s (qCA V66)),s)] (minus s h_72)))) S77)) (frz (add S74 (rest s (cutH [((hdel s (qCA V66)),s)] (minus s h_72)))))) (cutH [((hdel s (qCA V66)),s)] (minus s h_72)))
 (wC TP X 54 [t3,(.int .i64 5)] (λV83 S84=>oK (qAB .add (.int .i64 2) V83) λV85=>∃I2:IvP,(∃m,I2 [(.int .i64 0)] S84 m)/\∀(f:Env) (s:Hq) (m2:Nat),I2 [f 8] s m2->
 qIR X t2 t3 t4 V85 (f 8) I2 m2 K s) s)
def qIL(X:Td)(t2 t3 t4 i5:AV)(I0:IvP)(m0:Nat)(K:KvP)(s:Hq):Prop:=
 wC TP X 54 [t3,(.int .i64 3)] (λV44 S45=>oK (qAB .leq i5 V44) λV46=>qAM V46
 (oK (qAE 3 t4) λV47=>oK (rd1 S45 V47) λV48=>oK (qAB .add (.int .i64 100) i5) λV49=>oK (qCJ .u32 V49) λV50=>oK (qAB .add (.int .i64 900) i5) λV51=>oK (qCJ .u32 V51) λV52=>oK (qBV [(.int .u32 0),(.int .u32 0)] [(0,1,V50),(1,1,V52)]) λC53=>oK (qBV (repl 1 [(.int .u32 0),(.int .u32 0)]) [(0,2,(.agg C53))]) λC54=>qAU C54=true/\newK 117 C54 (λB55 S56=>appK 117 2 V48 (.slc B55 0 1 (some 1) 2) (λV57 S58=>oK (qAE 3 t4) λV59=>oK (wr1 S58 V59 V57) λS60=>oK (qAB .add i5 (.int .i64 1)) λV61=>∃m',m'<m0/\I0 [V61] S60 m') S56) S45)
 (wC TP X 54 [t3,(.int .i64 4)] (λV62 S63=>oK (qAB .add (.int .i64 1) V62) λV64=>∃I1:IvP,(∃m,I1 [(.int .i64 0)] S63 m)/\∀(f:Env) (s:Hq) (m1:Nat),I1 [f 7] s m1->
 qIT X t2 t3 t4 V64 (f 7) I1 m1 K s) S45)) s
def qU9(X:Td)(l0:AV)(K:KvP)(s:Hq):Prop:=
 newK 31 zR1 (λB0 S1=>oK (qBV [.nilslc,(.int .i64 0)] [(0,1,l0)]) λC2=>boxK 134 (.agg C2) (λB3 S4=>wC TP X 54 [B3,(.int .i64 3)] (λV5 S6=>oK (qAB .add (.int .i64 2) V5) λV7=>wC TP X 54 [B3,(.int .i64 3)] (λV8 S9=>oK (qAB .add (.int .i64 1) V8) λV10=>wC TP X 54 [B3,(.int .i64 3)] (λV11 S12=>wC TP X 54 [B3,(.int .i64 2)] (λV13 S14=>wC TP X 54 [B3,(.int .i64 2)] (λV15 S16=>wC TP X 54 [B3,(.int .i64 2)] (λV17 S18=>oK (negB false (eqV 0 true V17 (.int .i64 0))) λV19=>wC TP X 54 [B3,(.int .i64 3)] (λV20 S21=>oK (negB false (eqV 0 true V20 (.int .i64 1))) λV22=>oK (qBV zR1 [(0,1,V7),(1,1,V10),(8,1,V11),(9,1,V13),(10,1,V15),(11,1,V19),(12,1,V22)]) λC23=>newK 31 zR1 (λB24 S25=>oK (qBF S25 19 (.ptr B24 0) (.agg C23)) λS26=>wC TP X 54 [B3,(.int .i64 3)] (λV27 S28=>oK (qAB .add (.int .i64 1) V27) λV29=>wC TP X 54 [B3,(.int .i64 30)] (λV30 S31=>oK (qAB .add (.int .i64 40) V30) λV32=>oK (qBV [(.int .i64 0),(.int .i64 0),(.int .i64 0),(.int .i64 0),(.int .i64 0),(.int .i64 0)] [(0,1,V29),(1,1,(.int .i64 9)),(2,1,V32),(3,1,(.int .i64 20)),(4,1,(.int .i64 5)),(5,1,(.int .i64 30))]) λC33=>oK (qAE 13 (.ptr B24 0)) λV34=>oK (qBF S31 6 V34 (.agg C33)) λS35=>oK (qAE 0 (.ptr B24 0)) λV36=>oK (rd1 S35 V36) λV37=>oK (qAE 1 (.ptr B24 0)) λV38=>oK (rd1 S35 V38) λV39=>wC TP X 55 [B3,V37,V39] (λV40 S41=>oK (qAE 2 (.ptr B24 0)) λV42=>oK (wr1 S41 V42 V40) λS43=>∃I0:IvP,(∃m,I0 [(.int .i64 0)] S43 m)/\∀(f:Env) (s:Hq) (m0:Nat),I0 [f 5] s m0->
 qIL X (.ptr B0 0) B3 (.ptr B24 0) (f 5) I0 m0 K s) S35) S28) S26) S21) S18) S16) S14) S12) S9) S6) S4) S1) s
def qOa:Nat->List Nat:=λk=>cond (Nat.beq k 12) [5] (cond (Nat.beq k 22) [7] (cond (Nat.beq k 1000075) [7] (cond (Nat.beq k 32) [8] (cond (Nat.beq k 1000094) [5,10] (cond (Nat.beq k 42) [9] (cond (Nat.beq k 1000116) [5] (cond (Nat.beq k 56) [11] (cond (Nat.beq k 1000137) [4] ([])))))))))
theorem qPn{l0:AV}{K:KvP}{s:Hq}(h:qU9 XX l0 K s):wC TP XX 25 [l0] K s:=wOK qCM qOa rfl Tryz.func25 h
def qKE(X:Td)(t0 n1:AV)(K:KvP)(s:Hq):Prop:=
 oK (qAd t0) λV0=>oK (qAE 1 V0) λV1=>oK (rd1 s V1) λV2=>oK (qAd t0) λV3=>oK (qAE 0 V3) λV4=>oK (rd1 s V4) λV5=>oK (qAO V5) λV6=>oK (qAB .geq V2 (.int .i64 V6)) λV8=>qAM V8
 (K (.int .i64 0) s)
 (oK (qAd t0) λV9=>oK (qAE 1 V9) λV10=>oK (rd1 s V10) λV11=>oK (qAB .add V11 (.int .i64 1)) λV12=>oK (qAd t0) λV13=>oK (qAE 1 V13) λV14=>oK (wr1 s V14 V12) λS15=>oK (qAd t0) λV16=>oK (qAE 0 V16) λV17=>oK (rd1 S15 V17) λV18=>oK (qAd t0) λV19=>oK (qAE 1 V19) λV20=>oK (rd1 S15 V20) λV21=>oK (qAB .sub V21 (.int .i64 1)) λV22=>oK (qAI 1 V18 V22) λV23=>oK (rd1 S15 V23) λV24=>wC TP X 26 [V24,n1] (λV25 S26=>K V25 S26) S15)
theorem qLE{t0 n1:AV}{K:KvP}{s:Hq}(h:qKE XX t0 n1 K s):wC TP XX 54 [t0,n1] K s:=wOK qCM nA0 rfl Tryz.func54 h
def qHR(X:Td)(x7 b9:AV)(I1:IvP)(m1:Nat)(I0:IvP)(m0:Nat)(K:KvP)(s:Hq):Prop:=
 oK (qAB .add b9 (.int .i64 1)) λV5=>∃m',m'<m1/\I1 [x7,V5] s m'
def qMk(X:Td)(t0 leaves1 spines2 x7 a8 b9:AV)(I1:IvP)(m1:Nat)(I0:IvP)(m0:Nat)(K:KvP)(s:Hq):Prop:=
 oK (qAB .lss b9 spines2) λV1=>qAM V1
 (wC TP X 54 [t0,(.int .i64 8)] (λV2 S3=>oK (negB true (eqV 0 true V2 (.int .i64 7))) λV4=>qAM V4
 (oK (qAB .add leaves1 b9) λV6=>wC TP X 54 [t0,(.int .i64 2)] (λV7 S8=>oK (qAB .add (.int .i64 1) V7) λV9=>oK (qBV [(.int .i64 0),(.int .i64 0),(.int .i64 0)] [(0,1,a8),(1,1,V6),(2,1,V9)]) λC10=>oK (qBV (repl 1 [(.int .i64 0),(.int .i64 0),(.int .i64 0)]) [(0,3,(.agg C10))]) λC11=>qAU C11=true/\newK 115 C11 (λB12 S13=>appK 115 3 x7 (.slc B12 0 1 (some 1) 3) (λV14 S15=>qHR X V14 b9 I1 m1 I0 m0 K S15) S13) S8) S3)
 (qHR X x7 b9 I1 m1 I0 m0 K S3)) s)
 (oK (qAB .add a8 (.int .i64 1)) λV16=>∃m',m'<m0/\I0 [x7,V16] s m')
def qLk(X:Td)(t0 leaves1 spines2 x7 a8:AV)(I0:IvP)(m0:Nat)(K:KvP)(s:Hq):Prop:=
 oK (qAB .lss a8 leaves1) λV0=>qAM V0
 (∃I1:IvP,(∃m,I1 [x7,(.int .i64 0)] s m)/\∀(f:Env) (s:Hq) (m1:Nat),I1 [f 7,f 9] s m1->
 qMk X t0 leaves1 spines2 (f 7) a8 (f 9) I1 m1 I0 m0 K s)
 (K x7 s)
def qXr(X:Td)(t0 leaves1 spines2:AV)(K:KvP)(s:Hq):Prop:=
 ∃I0:IvP,(∃m,I0 [.nilslc,(.int .i64 0)] s m)/\∀(f:Env) (s:Hq) (m0:Nat),I0 [f 7,f 8] s m0->
 qLk X t0 leaves1 spines2 (f 7) (f 8) I0 m0 K s
def qP4:Nat->List Nat:=λk=>cond (Nat.beq k 6) [7,8] (cond (Nat.beq k 12) [7,9] ([]))
theorem qQx{t0 leaves1 spines2:AV}{K:KvP}{s:Hq}(h:qXr XX t0 leaves1 spines2 K s):wC TP XX 55 [t0,leaves1,spines2] K s:=wOK qCM qP4 rfl Tryz.func55 h
def qGJ(X:Td)(t6 b7:AV)(K:KvP)(s:Hq):Prop:=
 oK (rdN s 6 b7) λV15=>oK (qBF s 6 t6 (.agg V15)) λS16=>oK (rdN S16 6 t6) λt6_17=>K (.agg t6_17) S16
def qUm(X:Td)(t0 i1 tenants2:AV)(K:KvP)(s:Hq):Prop:=
 newK 87 [(.int .i64 0),(.int .u32 0),(.int .u32 0),(.int .u32 0),(.int .i64 0),(.int .u32 0)] (λB0 S1=>wC TP X 54 [t0,tenants2] (λV2 S3=>oK (qAB .add (.int .i64 10) i1) λV4=>oK (qCJ .u32 V4) λV5=>oK (qAB .add (.int .i64 500) i1) λV6=>oK (qCJ .u32 V6) λV7=>oK (qBV [(.int .i64 0),(.int .u32 0),(.int .u32 0),(.int .u32 0),(.int .i64 0),(.int .u32 0)] [(0,1,V2),(1,1,V5),(2,1,V7)]) λC8=>newK 87 [(.int .i64 0),(.int .u32 0),(.int .u32 0),(.int .u32 0),(.int .i64 0),(.int .u32 0)] (λB9 S10=>oK (qBF S10 6 (.ptr B9 0) (.agg C8)) λS11=>wC TP X 54 [t0,(.int .i64 4)] (λV12 S13=>oK (negB true (eqV 0 true V12 (.int .i64 3))) λV14=>qAM V14
 (oK (qCd .shl i1 (.int .u64 16)) λV18=>oK (qAB .add (.int .i64 167772160) V18) λV19=>oK (qCJ .u32 V19) λV20=>oK (qBV [(.int .u32 0),(.int .i64 0)] [(0,1,V20),(1,1,(.int .i64 24))]) λC21=>oK (qAE 3 (.ptr B9 0)) λV22=>oK (qBF S13 2 V22 (.agg C21)) λS23=>oK (qAE 3 (.ptr B9 0)) λV24=>oK (qAE 0 V24) λV25=>oK (rd1 S23 V25) λV26=>oK (qAB .add V26 (.int .u32 1)) λV27=>oK (qAE 5 (.ptr B9 0)) λV28=>oK (wr1 S23 V28 V27) λS29=>qGJ X (.ptr B0 0) (.ptr B9 0) K S29)
 (qGJ X (.ptr B0 0) (.ptr B9 0) K S13)) S11) S3) S1) s
theorem qQR{t0 i1 tenants2:AV}{K:KvP}{s:Hq}(h:qUm XX t0 i1 tenants2 K s):wC TP XX 56 [t0,i1,tenants2] K s:=wOK qCM nA0 rfl Tryz.func56 h
def qIg(X:Td)(x7 i9:AV)(I0:IvP)(m0:Nat)(K:KvP)(s:Hq):Prop:=
 oK (qAB .add i9 (.int .i64 1)) λV6=>∃m',m'<m0/\I0 [x7,V6] s m'
def qFl(X:Td)(x7 i9 t27 t30:AV)(I0:IvP)(m0:Nat)(K:KvP)(s:Hq):Prop:=
 oK (qAY t27 (.bool true) t30) λV5=>qAM V5
 (oK (qBV (repl 1 [(.int .i64 0)]) [(0,1,i9)]) λC7=>qAU C7=true/\newK 3 C7 (λB8 S9=>appK 3 1 x7 (.slc B8 0 1 (some 1) 1) (λV10 S11=>qIg X V10 i9 I0 m0 K S11) S9) s)
 (qIg X x7 i9 I0 m0 K s)
def qId(X:Td)(x7:AV)(K:KvP)(s:Hq):Prop:=
 K x7 s
def qEo(X:Td)(t0 x7 x8 i9 t16 t20:AV)(I0:IvP)(m0:Nat)(K:KvP)(s:Hq):Prop:=
 oK (qAY t16 t20 (.bool false)) λV3=>qAM V3
 (oK (negB false (eqV 0 false i9 x8)) λV4=>qAM V4
 (qFl X x7 i9 V4 .undef I0 m0 K s)
 (wC TP X 54 [t0,(.int .i64 3)] (λV12 S13=>oK (negB false (eqV 0 true V12 (.int .i64 1))) λV14=>qFl X x7 i9 V4 V14 I0 m0 K S13) s))
 (oK (qAO x7) λV15=>oK (negB false (eqV 0 true (.int .i64 V15) (.int .i64 0))) λV17=>qAM V17
 (oK (qBV (repl 1 [(.int .i64 0)]) [(0,1,x8)]) λC18=>qAU C18=true/\newK 3 C18 (λB19 S20=>qId X (.slc B19 0 1 (some 1) 1) K S20) s)
 (qId X x7 K s))
def qNo(X:Td)(t0 n1 most2 x7 x8 i9:AV)(I0:IvP)(m0:Nat)(K:KvP)(s:Hq):Prop:=
 oK (qAB .lss i9 n1) λV2=>qAM V2
 (oK (qAO x7) λV21=>oK (qAB .lss (.int .i64 V21) most2) λV23=>qEo X t0 x7 x8 i9 V2 V23 I0 m0 K s)
 (qEo X t0 x7 x8 i9 V2 .undef I0 m0 K s)
def qZk(X:Td)(t0 n1 most2:AV)(K:KvP)(s:Hq):Prop:=
 wC TP X 54 [t0,n1] (λV0 S1=>∃I0:IvP,(∃m,I0 [.nilslc,(.int .i64 0)] S1 m)/\∀(f:Env) (s:Hq) (m0:Nat),I0 [f 7,f 9] s m0->
 qNo X t0 n1 most2 (f 7) V0 (f 9) I0 m0 K s) s
def qRu:Nat->List Nat:=λk=>cond (Nat.beq k 8) [7,9] ([])
theorem qT9{t0 n1 most2:AV}{K:KvP}{s:Hq}(h:qZk XX t0 n1 most2 K s):wC TP XX 57 [t0,n1,most2] K s:=wOK qCM qRu rfl Tryz.func57 h
def qIZ(X:Td)(t6 h9:AV)(K:KvP)(s:Hq):Prop:=
 oK (rdN s 4 h9) λV39=>oK (qBF s 4 t6 (.agg V39)) λS40=>oK (rdN S40 4 t6) λt6_41=>K (.agg t6_41) S40
def qIW(X:Td)(t0 t6 h9:AV)(K:KvP)(s:Hq):Prop:=
 wC TP X 54 [t0,(.int .i64 10)] (λV36 S37=>oK (negB false (eqV 0 true V36 (.int .i64 9))) λV38=>qAM V38
 (oK (qAE 3 h9) λV42=>oK (wr1 S37 V42 (.int .i64 (-1))) λS43=>qIZ X t6 h9 K S43)
 (qIZ X t6 h9 K S37)) s
def qIe(X:Td)(t0 i2 t4 t6 h9 t41 t44:AV)(K:KvP)(s:Hq):Prop:=
 oK (qAY t41 t44 (.bool false)) λV35=>qAM V35
 (oK (qAE 4 t4) λV44=>oK (rd1 s V44) λV45=>oK (qAE 2 h9) λV46=>oK (rd1 s V46) λV47=>oK (qAI 6 V45 V47) λV48=>oK (qAE 3 V48) λV49=>oK (qAE 0 V49) λV50=>oK (rd1 s V50) λV51=>oK (qAB .add (.int .i64 10) i2) λV52=>oK (qCJ .u32 V52) λV53=>oK (qAB .add V51 V53) λV54=>oK (qAE 1 h9) λV55=>oK (wr1 s V55 V54) λS56=>qIW X t0 t6 h9 K S56)
 (qIW X t0 t6 h9 K s)
def zAAk(X:Td)(t0 t1 i2:AV)(K:KvP)(s:Hq):Prop:=
 boxK 31 t1 (λB0 S1=>newK 140 [(.int .u64 0),(.int .u32 0),(.int .i64 0),(.int .i64 0)] (λB2 S3=>oK (qAE 5 B0) λV4=>oK (rd1 S3 V4) λV5=>oK (qAO V5) λV6=>wC TP X 54 [t0,(.int .i64 V6)] (λV8 S9=>oK (qAE 5 B0) λV10=>oK (rd1 S9 V10) λV11=>oK (qAI 2 V11 V8) λV12=>oK (qAE 1 V12) λV13=>oK (rd1 S9 V13) λV14=>oK (qAB .add (.int .i64 2199023951872) i2) λV15=>oK (qCJ .u64 V15) λV16=>oK (qAO V14) λV17=>wC TP X 54 [t0,(.int .i64 V17)] (λV19 S20=>oK (qAI 1 V14 V19) λV21=>oK (rd1 S20 V21) λV22=>oK (qBV [(.int .u64 0),(.int .u32 0),(.int .i64 0),(.int .i64 0)] [(0,1,V16),(2,1,V22),(3,1,V8)]) λC23=>newK 140 [(.int .u64 0),(.int .u32 0),(.int .i64 0),(.int .i64 0)] (λB24 S25=>oK (qBF S25 4 (.ptr B24 0) (.agg C23)) λS26=>oK (qAE 4 B0) λV27=>oK (rd1 S26 V27) λV28=>oK (qAE 2 (.ptr B24 0)) λV29=>oK (rd1 S26 V29) λV30=>oK (qAI 6 V28 V30) λV31=>oK (qAE 5 V31) λV32=>oK (rd1 S26 V32) λV33=>oK (negB true (eqV 0 true V33 (.int .u32 0))) λV34=>qAM V34
 (wC TP X 54 [t0,(.int .i64 6)] (λV57 S58=>oK (negB true (eqV 0 true V57 (.int .i64 5))) λV59=>qIe X t0 i2 B0 (.ptr B2 0) (.ptr B24 0) V34 V59 K S58) S26)
 (qIe X t0 i2 B0 (.ptr B2 0) (.ptr B24 0) V34 .undef K S26)) S20) S9) S3) S1) s
theorem qUF{t0 t1 i2:AV}{K:KvP}{s:Hq}(h:zAAk XX t0 t1 i2 K s):wC TP XX 58 [t0,t1,i2] K s:=wOK qCM nA0 rfl Tryz.func58 h
def qMi(X:Td)(l0 x3 i5:AV)(I0:IvP)(m0:Nat)(K:KvP)(s:Hq):Prop:=
 oK (qAO l0) λV2=>oK (qAB .lss i5 (.int .i64 V2)) λV4=>qAM V4
 (oK (qAI 4 l0 i5) λV5=>oK (rdN s 4 V5) λV6=>oK (rdN s 4 x3) λV7=>oK (negB false (qKV TP 144 (.agg V6) (.agg V7))) λV8=>qAM V8
 (K l0 s)
 (oK (qAB .add i5 (.int .i64 1)) λV9=>∃m',m'<m0/\I0 [V9] s m'))
 (oK (rdN s 4 x3) λV10=>oK (qBV (repl 1 [(.int .i64 0),(.int .i64 0),(.int .u32 0),(.int .i64 0)]) [(0,4,(.agg V10))]) λC11=>qAU C11=true/\newK 144 C11 (λB12 S13=>appK 144 4 l0 (.slc B12 0 1 (some 1) 4) (λV14 S15=>K V14 S15) S13) s)
def qX5(X:Td)(l0 x1:AV)(K:KvP)(s:Hq):Prop:=
 boxK 144 x1 (λB0 S1=>∃I0:IvP,(∃m,I0 [(.int .i64 0)] S1 m)/\∀(f:Env) (s:Hq) (m0:Nat),I0 [f 5] s m0->
 qMi X l0 B0 (f 5) I0 m0 K s) s
def qQl:Nat->List Nat:=λk=>cond (Nat.beq k 4) [5] ([])
theorem qRB{l0 x1:AV}{K:KvP}{s:Hq}(h:qX5 XX l0 x1 K s):wC TP XX 59 [l0,x1] K s:=wOK qCM qQl rfl Tryz.func59 h
def qIf(X:Td)(t4 x6:AV)(K:KvP)(s:Hq):Prop:=
 oK (rdN s 4 x6) λV17=>oK (qBF s 4 t4 (.agg V17)) λS18=>oK (rdN S18 4 t4) λt4_19=>K (.agg t4_19) S18
def qZj(X:Td)(t0 tenants1:AV)(K:KvP)(s:Hq):Prop:=
 newK 144 [(.int .i64 0),(.int .i64 0),(.int .u32 0),(.int .i64 0)] (λB0 S1=>wC TP X 54 [t0,tenants1] (λV2 S3=>oK (qAB .add V2 (.int .i64 1)) λV4=>oK (qAB .sub tenants1 (.int .i64 1)) λV5=>wC TP X 54 [t0,V5] (λV6 S7=>oK (qAB .add V4 V6) λV8=>oK (qAB .rem V8 tenants1) λV9=>oK (qBV [(.int .i64 0),(.int .i64 0),(.int .u32 0),(.int .i64 0)] [(0,1,V2),(1,1,V9)]) λC10=>newK 144 [(.int .i64 0),(.int .i64 0),(.int .u32 0),(.int .i64 0)] (λB11 S12=>oK (qBF S12 4 (.ptr B11 0) (.agg C10)) λS13=>wC TP X 54 [t0,(.int .i64 2)] (λV14 S15=>oK (negB false (eqV 0 true V14 (.int .i64 0))) λV16=>qAM V16
 (wC TP X 54 [t0,(.int .i64 4)] (λV20 S21=>oK (qCd .shl V20 (.int .u64 16)) λV22=>oK (qAB .add (.int .i64 167772160) V22) λV23=>oK (qCJ .u32 V23) λV24=>oK (qBV [(.int .u32 0),(.int .i64 0)] [(0,1,V24),(1,1,(.int .i64 16))]) λC25=>oK (qAE 2 (.ptr B11 0)) λV26=>oK (qBF S21 2 V26 (.agg C25)) λS27=>qIf X (.ptr B0 0) (.ptr B11 0) K S27) S15)
 (qIf X (.ptr B0 0) (.ptr B11 0) K S15)) S13) S7) S3) S1) s
theorem qTZ{t0 tenants1:AV}{K:KvP}{s:Hq}(h:qZj XX t0 tenants1 K s):wC TP XX 60 [t0,tenants1] K s:=wOK qCM nA0 rfl Tryz.func60 h
def qYm(X:Td)(x0 n1:AV)(K:KvP)(s:Hq):Prop:=
 oK (qAB .leq n1 (.int .i64 0)) λV0=>qAM V0
 (K (.int .i64 0) s)
 (oK (qAB .rem x0 n1) λV1=>oK (qAB .add V1 n1) λV2=>oK (qAB .rem V2 n1) λV3=>K V3 s)
theorem qUa{x0 n1:AV}{K:KvP}{s:Hq}(h:qYm XX x0 n1 K s):wC TP XX 26 [x0,n1] K s:=wOK qCM nA0 rfl Tryz.func26 h
def qPp(X:Td)(K:KvP)(s:Hq):Prop:=
 oK (qBV (repl 8 [.nilFunc]) [(0,1,(.fn (.func 87) [] [])),(1,1,(.fn (.func 88) [] [])),(2,1,(.fn (.func 89) [] [])),(3,1,(.fn (.func 90) [] [])),(4,1,(.fn (.func 91) [] [])),(5,1,(.fn (.func 92) [] [])),(6,1,(.fn (.func 93) [] [])),(7,1,(.fn (.func 94) [] []))]) λC0=>qAU C0=true/\newK 153 C0 (λB1 S2=>K (.slc B1 0 8 (some 8) 1) S2) s
theorem qQC{X:Td}(hX:FrX X)(hn:X 62=none){K:KvP}{s:Hq}(h:qPp X K s):wC TP X 62 [] K s:=
 wOK hX nA0 hn Tryz.func62 h
def qKA(X:Td)(t10 t13:AV)(K:KvP)(s:Hq):Prop:=
 oK (qAY t10 (.bool true) t13) λV1=>K V1 s
def qOA(X:Td)(n0 low1 high2:AV)(K:KvP)(s:Hq):Prop:=
 oK (qAB .lss n0 low1) λV0=>qAM V0
 (qKA X V0 .undef K s)
 (oK (qAB .gtr n0 high2) λV2=>qKA X V0 V2 K s)
theorem qO3{X:Td}(hX:FrX X)(hn:X 108=none){n0 low1 high2:AV}{K:KvP}{s:Hq}(h:qOA X n0 low1 high2 K s):wC TP X 108 [n0,low1,high2] K s:=
 wOK hX nA0 hn Tryz.func108 h
def qEf(X:Td)(key1 x5 again6 t16 t17 t18:AV)(I0:IvP)(m0:Nat)(K:KvP)(s:Hq):Prop:=
 oK (qAB .lss t18 t17) λV12=>qAM V12
 (oK (qAI 3 t16 t18) λV13=>oK (rdN s 3 V13) λV14=>newK 115 [(.int .i64 0),(.int .i64 0),(.int .i64 0)] (λB15 S16=>oK (qBF S16 3 (.ptr B15 0) (.agg V14)) λS17=>oK (rdN S17 3 (.ptr B15 0)) λV18=>funK TP X key1 [(.agg V18)] (λV19 S20=>newK 187 [(.int .i64 0),(.int .i64 0)] (λB21 S22=>oK (qBF S22 2 (.ptr B21 0) V19) λS23=>oK (rdN S23 2 (.ptr B21 0)) λV24=>oK (getG TP 187 S23 x5 (.agg V24)) λr_25=>oK (qAI 1 again6 t18) λV26=>oK (wr1 S23 V26 (retM (.bool false) false r_25)) λS27=>oK (rdN S27 2 (.ptr B21 0)) λV28=>oK (putG TP 187 S27 x5 (.agg V28) (.bool true)) λS29=>oK (qAB .add t18 (.int .i64 1)) λV30=>∃m',m'<m0/\I0 [V30] S29 m') S20) S17) s)
 (K again6 s)
def qFz(X:Td)(l0 key1:AV)(K:KvP)(s:Hq):Prop:=
 oK (qAO l0) λV0=>intK (.int .i64 V0) (mapK (λV2 S3=>oK (qAO l0) λV4=>oK (nat? (.int .i64 V4)) λn_6=>oK (nat? (.int .i64 V4)) λn_7=>(n_6<=n_7/\n_7<=4294967296)/\newK 4 (repl n_7 [(.bool false)]) (λB8 S9=>oK (qAO l0) λV10=>∃I0:IvP,(∃m,I0 [(.int .i64 0)] S9 m)/\∀(f:Env) (s:Hq) (m0:Nat),I0 [f 18] s m0->
 qEf X key1 V2 (.slc B8 0 n_6 (some n_7) 1) l0 (.int .i64 V10) (f 18) I0 m0 K s) S3) s)
def qG6:Nat->List Nat:=λk=>cond (Nat.beq k 8) [18] ([])
theorem qHs{X:Td}(hX:FrX X)(hn:X 109=none){l0 key1:AV}{K:KvP}{s:Hq}(h:qFz X l0 key1 K s):wC TP X 109 [l0,key1] K s:=
 wOK hX qG6 hn Tryz.func109 h
def qUI(X:Td)(l0:AV)(K:KvP)(s:Hq):Prop:=
 boxK 115 l0 (λB0 S1=>newK 187 [(.int .i64 0),(.int .i64 0)] (λB2 S3=>oK (qAE 0 B0) λV4=>oK (rd1 S3 V4) λV5=>oK (qAE 1 B0) λV6=>oK (rd1 S3 V6) λV7=>oK (qBV [(.int .i64 0),(.int .i64 0)] [(0,1,V5),(1,1,V7)]) λC8=>oK (qBF S3 2 (.ptr B2 0) (.agg C8)) λS9=>oK (rdN S9 2 (.ptr B2 0)) λt2_10=>K (.agg t2_10) S9) S1) s
theorem qOo{X:Td}(hX:FrX X)(hn:X 110=none){l0:AV}{K:KvP}{s:Hq}(h:qUI X l0 K s):wC TP X 110 [l0] K s:=
 wOK hX nA0 hn Tryz.func110 h
def qEA(X:Td)(key1 x5 again6 t16 t17 t18:AV)(I0:IvP)(m0:Nat)(K:KvP)(s:Hq):Prop:=
 oK (qAB .lss t18 t17) λV12=>qAM V12
 (oK (qAI 2 t16 t18) λV13=>oK (rdN s 2 V13) λV14=>newK 117 [(.int .u32 0),(.int .u32 0)] (λB15 S16=>oK (qBF S16 2 (.ptr B15 0) (.agg V14)) λS17=>oK (rdN S17 2 (.ptr B15 0)) λV18=>funK TP X key1 [(.agg V18)] (λV19 S20=>oK (getM S20 x5 V19) λr_21=>oK (qAI 1 again6 t18) λV22=>oK (wr1 S20 V22 (retM (.bool false) false r_21)) λS23=>oK (putM S23 x5 V19 (.bool true)) λS24=>oK (qAB .add t18 (.int .i64 1)) λV25=>∃m',m'<m0/\I0 [V25] S24 m') S17) s)
 (K again6 s)
def qFA(X:Td)(l0 key1:AV)(K:KvP)(s:Hq):Prop:=
 oK (qAO l0) λV0=>intK (.int .i64 V0) (mapK (λV2 S3=>oK (qAO l0) λV4=>oK (nat? (.int .i64 V4)) λn_6=>oK (nat? (.int .i64 V4)) λn_7=>(n_6<=n_7/\n_7<=4294967296)/\newK 4 (repl n_7 [(.bool false)]) (λB8 S9=>oK (qAO l0) λV10=>∃I0:IvP,(∃m,I0 [(.int .i64 0)] S9 m)/\∀(f:Env) (s:Hq) (m0:Nat),I0 [f 18] s m0->
 qEA X key1 V2 (.slc B8 0 n_6 (some n_7) 1) l0 (.int .i64 V10) (f 18) I0 m0 K s) S3) s)
def qGV:Nat->List Nat:=λk=>cond (Nat.beq k 8) [18] ([])
theorem qGu{X:Td}(hX:FrX X)(hn:X 111=none){l0 key1:AV}{K:KvP}{s:Hq}(h:qFA X l0 key1 K s):wC TP X 111 [l0,key1] K s:=
 wOK hX qGV hn Tryz.func111 h
def qPx(X:Td)(t0:AV)(K:KvP)(s:Hq):Prop:=
 boxK 117 t0 (λB0 S1=>oK (qAE 0 B0) λV2=>oK (rd1 S1 V2) λV3=>K V3 S1) s
theorem qL0{X:Td}(hX:FrX X)(hn:X 112=none){t0:AV}{K:KvP}{s:Hq}(h:qPx X t0 K s):wC TP X 112 [t0] K s:=
 wOK hX nA0 hn Tryz.func112 h
def qMa(X:Td)(t0:AV)(K:KvP)(s:Hq):Prop:=
 boxK 117 t0 (λB0 S1=>oK (qAE 1 B0) λV2=>oK (rd1 S1 V2) λV3=>K V3 S1) s
theorem qJ8{X:Td}(hX:FrX X)(hn:X 113=none){t0:AV}{K:KvP}{s:Hq}(h:qMa X t0 K s):wC TP X 113 [t0] K s:=
 wOK hX nA0 hn Tryz.func113 h
def qFT(X:Td)(key1 x5 again6 t16 t17 t18:AV)(I0:IvP)(m0:Nat)(K:KvP)(s:Hq):Prop:=
 oK (qAB .lss t18 t17) λV12=>qAM V12
 (oK (qAI 6 t16 t18) λV13=>oK (rdN s 6 V13) λV14=>newK 87 [(.int .i64 0),(.int .u32 0),(.int .u32 0),(.int .u32 0),(.int .i64 0),(.int .u32 0)] (λB15 S16=>oK (qBF S16 6 (.ptr B15 0) (.agg V14)) λS17=>oK (rdN S17 6 (.ptr B15 0)) λV18=>funK TP X key1 [(.agg V18)] (λV19 S20=>oK (getM S20 x5 V19) λr_21=>oK (qAI 1 again6 t18) λV22=>oK (wr1 S20 V22 (retM (.bool false) false r_21)) λS23=>oK (putM S23 x5 V19 (.bool true)) λS24=>oK (qAB .add t18 (.int .i64 1)) λV25=>∃m',m'<m0/\I0 [V25] S24 m') S17) s)
 (K again6 s)
def qGw(X:Td)(l0 key1:AV)(K:KvP)(s:Hq):Prop:=
 oK (qAO l0) λV0=>intK (.int .i64 V0) (mapK (λV2 S3=>oK (qAO l0) λV4=>oK (nat? (.int .i64 V4)) λn_6=>oK (nat? (.int .i64 V4)) λn_7=>(n_6<=n_7/\n_7<=4294967296)/\newK 4 (repl n_7 [(.bool false)]) (λB8 S9=>oK (qAO l0) λV10=>∃I0:IvP,(∃m,I0 [(.int .i64 0)] S9 m)/\∀(f:Env) (s:Hq) (m0:Nat),I0 [f 18] s m0->
 qFT X key1 V2 (.slc B8 0 n_6 (some n_7) 1) l0 (.int .i64 V10) (f 18) I0 m0 K s) S3) s)
def qIM:Nat->List Nat:=λk=>cond (Nat.beq k 8) [18] ([])
theorem qIp{X:Td}(hX:FrX X)(hn:X 114=none){l0 key1:AV}{K:KvP}{s:Hq}(h:qGw X l0 key1 K s):wC TP X 114 [l0,key1] K s:=
 wOK hX qIM hn Tryz.func114 h
def qP3(X:Td)(b0:AV)(K:KvP)(s:Hq):Prop:=
 boxK 87 b0 (λB0 S1=>oK (qAE 1 B0) λV2=>oK (rd1 S1 V2) λV3=>K V3 S1) s
theorem qMm{X:Td}(hX:FrX X)(hn:X 115=none){b0:AV}{K:KvP}{s:Hq}(h:qP3 X b0 K s):wC TP X 115 [b0] K s:=
 wOK hX nA0 hn Tryz.func115 h
def qMt(X:Td)(b0:AV)(K:KvP)(s:Hq):Prop:=
 boxK 87 b0 (λB0 S1=>oK (qAE 2 B0) λV2=>oK (rd1 S1 V2) λV3=>K V3 S1) s
theorem qJk{X:Td}(hX:FrX X)(hn:X 116=none){b0:AV}{K:KvP}{s:Hq}(h:qMt X b0 K s):wC TP X 116 [b0] K s:=
 wOK hX nA0 hn Tryz.func116 h
def qGg(X:Td)(l0 key1 k2:AV)(K:KvP)(s:Hq):Prop:=
 boxK 190 key1 (λB0 S1=>boxK 41 k2 (λB2 S3=>wC TP X 170 [l0,(.fn (.func 171) [] [B0,B2])] (λV4 S5=>K V4 S5) S3) S1) s
theorem qFe{X:Td}(hX:FrX X)(hn:X 117=none){l0 key1 k2:AV}{K:KvP}{s:Hq}(h:qGg X l0 key1 k2 K s):wC TP X 117 [l0,key1,k2] K s:=
 wOK hX nA0 hn Tryz.func117 h
def qMJ(X:Td)(t12 t15:AV)(K:KvP)(s:Hq):Prop:=
 oK (qAY t12 t15 (.bool false)) λV11=>K V11 s
def qXG(X:Td)(p0:AV)(K:KvP)(s:Hq):Prop:=
 boxK 71 p0 (λB0 S1=>oK (rdN S1 2 B0) λV2=>wC TP X 172 [(.agg V2)] (λV3 S4=>oK (qAn V3 0) λV5=>oK (qAn V3 1) λV6=>newK 71 [(.int .u32 0),(.int .i64 0)] (λB7 S8=>oK (qBF S8 2 (.ptr B7 0) V5) λS9=>oK (negB false (eqV 0 true V6 (.int .i64 0))) λV10=>qAM V10
 (oK (rdN S9 2 (.ptr B7 0)) λV12=>oK (rdN S9 2 B0) λV13=>oK (negB false (qKV TP 71 (.agg V12) (.agg V13))) λV14=>qMJ X V10 V14 K S9)
 (qMJ X V10 .undef K S9)) S4) S1) s
theorem qR0{X:Td}(hX:FrX X)(hn:X 118=none){p0:AV}{K:KvP}{s:Hq}(h:qXG X p0 K s):wC TP X 118 [p0] K s:=
 wOK hX nA0 hn Tryz.func118 h
def qJU(X:Td)(t23 t26:AV)(K:KvP)(s:Hq):Prop:=
 oK (qAY t23 t26 (.bool false)) λV14=>K V14 s
def qJC(X:Td)(ip1 x5 t17 t21:AV)(K:KvP)(s:Hq):Prop:=
 oK (qAY t17 t21 (.bool false)) λV13=>qAM V13
 (oK (negB true (eqV 0 false ip1 x5)) λV15=>qJU X V13 V15 K s)
 (qJU X V13 .undef K s)
def qX4(X:Td)(p0 ip1:AV)(K:KvP)(s:Hq):Prop:=
 boxK 71 p0 (λB0 S1=>oK (qAE 0 B0) λV2=>oK (rd1 S1 V2) λV3=>oK (qAE 1 B0) λV4=>oK (rd1 S1 V4) λV5=>oK (qAB .sub (.int .i64 32) V5) λV6=>oK (qCd .shl (.int .u32 1) V6) λV7=>oK (qAB .sub V7 (.int .u32 1)) λV8=>oK (qAB .or V3 V8) λV9=>oK (rdN S1 2 B0) λV10=>wC TP X 122 [(.agg V10),ip1] (λV11 S12=>qAM V11
 (oK (qAE 0 B0) λV16=>oK (rd1 S12 V16) λV17=>oK (negB true (eqV 0 false ip1 V17)) λV18=>qJC X ip1 V9 V11 V18 K S12)
 (qJC X ip1 V9 V11 .undef K S12)) S1) s
theorem qRx{X:Td}(hX:FrX X)(hn:X 119=none){p0 ip1:AV}{K:KvP}{s:Hq}(h:qX4 X p0 ip1 K s):wC TP X 119 [p0,ip1] K s:=
 wOK hX nA0 hn Tryz.func119 h
def qCe(X:Td)(t0 t1:AV)(K:KvP)(s:Hq):Prop:=
 wC TP X 173 [t0,t1] (λV0 S1=>oK (qAB .geq V0 (.int .i64 0)) λV2=>K V2 S1) s
theorem qDy{X:Td}(hX:FrX X)(hn:X 120=none){t0 t1:AV}{K:KvP}{s:Hq}(h:qCe X t0 t1 K s):wC TP X 120 [t0,t1] K s:=
 wOK hX nA0 hn Tryz.func120 h
def qII(X:Td)(t14 t21 t27:AV)(K:KvP)(s:Hq):Prop:=
 oK (qAY t21 (.bool true) t27) λV15=>oK (qAY t14 V15 (.bool false)) λV16=>K V16 s
def qEM(X:Td)(t1 x2 t9 t12:AV)(K:KvP)(s:Hq):Prop:=
 oK (qAY t9 t12 (.bool false)) λV7=>qAM V7
 (oK (qAE 3 x2) λV8=>oK (rdN s 2 V8) λV9=>oK (qAE 3 t1) λV10=>oK (qAE 0 V10) λV11=>oK (rd1 s V11) λV12=>wC TP X 122 [(.agg V9),V12] (λV13 S14=>qAM V13
 (qII X V7 V13 .undef K S14)
 (oK (qAE 3 t1) λV17=>oK (rdN S14 2 V17) λV18=>oK (qAE 3 x2) λV19=>oK (qAE 0 V19) λV20=>oK (rd1 S14 V20) λV21=>wC TP X 122 [(.agg V18),V21] (λV22 S23=>qII X V7 V13 V22 K S23) S14)) s)
 (oK (qAY V7 .undef (.bool false)) λV24=>K V24 s)
def qPo(X:Td)(x0 t1:AV)(K:KvP)(s:Hq):Prop:=
 boxK 87 x0 (λB0 S1=>oK (qAE 0 B0) λV2=>oK (rd1 S1 V2) λV3=>oK (qAE 0 t1) λV4=>oK (rd1 S1 V4) λV5=>oK (negB false (eqV 0 false V3 V5)) λV6=>qAM V6
 (oK (qAE 5 B0) λV25=>oK (rd1 S1 V25) λV26=>oK (negB true (eqV 0 true V26 (.int .u32 0))) λV27=>qEM X t1 B0 V6 V27 K S1)
 (qEM X t1 B0 V6 .undef K S1)) s
theorem qMj{X:Td}(hX:FrX X)(hn:X 121=none){x0 t1:AV}{K:KvP}{s:Hq}(h:qPo X x0 t1 K s):wC TP X 121 [x0,t1] K s:=
 wOK hX nA0 hn Tryz.func121 h
def qLN(X:Td)(p0 ip1:AV)(K:KvP)(s:Hq):Prop:=
 boxK 71 p0 (λB0 S1=>oK (rdN S1 2 B0) λV2=>wC TP X 174 [(.agg V2)] (λV3 S4=>qAM V3
 (oK (qAE 0 B0) λV5=>oK (rd1 S4 V5) λV6=>oK (qAB .xor V6 ip1) λV7=>oK (qAE 1 B0) λV8=>oK (rd1 S4 V8) λV9=>wC TP X 175 [V9] (λV10 S11=>(∀b,S4 b≠none->S4 b=none->S11 b=none)->
 oK (qAB .and V7 V10) λV12=>oK (negB false (eqV 0 true V12 (.int .u32 0))) λV13=>oK (qAY V3 V13 (.bool false)) λV14=>K V14 (add S4 S11)) (frz S4))
 (oK (qAY V3 .undef (.bool false)) λV15=>K V15 S4)) S1) s
theorem qI5{X:Td}(hX:FrX X)(hn:X 122=none){p0 ip1:AV}{K:KvP}{s:Hq}(h:qLN X p0 ip1 K s):wC TP X 122 [p0,ip1] K s:=
 wOK hX nA0 hn Tryz.func122 h
def qDl(X:Td)(t0 t1:AV)(K:KvP)(s:Hq):Prop:=
 wC TP X 176 [t0,t1] (λV0 S1=>oK (qAB .geq V0 (.int .i64 0)) λV2=>K V2 S1) s
theorem qFE{X:Td}(hX:FrX X)(hn:X 123=none){t0 t1:AV}{K:KvP}{s:Hq}(h:qDl X t0 t1 K s):wC TP X 123 [t0,t1] K s:=
 wOK hX nA0 hn Tryz.func123 h
def qJ3(X:Td)(n0 t1:AV)(K:KvP)(s:Hq):Prop:=
 oK (qAE 0 t1) λV0=>oK (rd1 s V0) λV1=>wC TP X 76 [n0,V1] (λV2 S3=>oK (qBm .not V2) λV4=>K V4 S3) s
theorem qLP{X:Td}(hX:FrX X)(hn:X 124=none){n0 t1:AV}{K:KvP}{s:Hq}(h:qJ3 X n0 t1 K s):wC TP X 124 [n0,t1] K s:=
 wOK hX nA0 hn Tryz.func124 h
def qJX(X:Td)(b0 t1:AV)(K:KvP)(s:Hq):Prop:=
 oK (qAE 4 t1) λV0=>oK (rd1 s V0) λV1=>oK (qAO V1) λV2=>wC TP X 76 [b0,(.int .i64 V2)] (λV4 S5=>oK (qBm .not V4) λV6=>K V6 S5) s
theorem qLC{X:Td}(hX:FrX X)(hn:X 125=none){b0 t1:AV}{K:KvP}{s:Hq}(h:qJX X b0 t1 K s):wC TP X 125 [b0,t1] K s:=
 wOK hX nA0 hn Tryz.func125 h
def qH7(X:Td)(l0 i3:AV)(I0:IvP)(m0:Nat)(K:KvP)(s:Hq):Prop:=
 oK (qAO l0) λV0=>oK (qAB .lss i3 (.int .i64 V0)) λV2=>qAM V2
 (oK (qAI 1 l0 i3) λV3=>oK (rd1 s V3) λV4=>oK (qAB .sub i3 (.int .i64 1)) λV5=>oK (qAI 1 l0 V5) λV6=>oK (rd1 s V6) λV7=>oK (qAB .leq V4 V7) λV8=>qAM V8
 (K (.bool false) s)
 (oK (qAB .add i3 (.int .i64 1)) λV9=>∃m',m'<m0/\I0 [V9] s m'))
 (K (.bool true) s)
def qLB(X:Td)(l0:AV)(K:KvP)(s:Hq):Prop:=
 ∃I0:IvP,(∃m,I0 [(.int .i64 1)] s m)/\∀(f:Env) (s:Hq) (m0:Nat),I0 [f 3] s m0->
 qH7 X l0 (f 3) I0 m0 K s
def qLO:Nat->List Nat:=λk=>cond (Nat.beq k 4) [3] ([])
theorem qMc{X:Td}(hX:FrX X)(hn:X 126=none){l0:AV}{K:KvP}{s:Hq}(h:qLB X l0 K s):wC TP X 126 [l0] K s:=
 wOK hX qLO hn Tryz.func126 h
def qDP(X:Td)(key1 x5 again6 t16 t17 t18:AV)(I0:IvP)(m0:Nat)(K:KvP)(s:Hq):Prop:=
 oK (qAB .lss t18 t17) λV12=>qAM V12
 (oK (qAI 4 t16 t18) λV13=>oK (rdN s 4 V13) λV14=>newK 140 [(.int .u64 0),(.int .u32 0),(.int .i64 0),(.int .i64 0)] (λB15 S16=>oK (qBF S16 4 (.ptr B15 0) (.agg V14)) λS17=>oK (rdN S17 4 (.ptr B15 0)) λV18=>funK TP X key1 [(.agg V18)] (λV19 S20=>newK 203 [(.int .i64 0),(.int .u64 0)] (λB21 S22=>oK (qBF S22 2 (.ptr B21 0) V19) λS23=>oK (rdN S23 2 (.ptr B21 0)) λV24=>oK (getG TP 203 S23 x5 (.agg V24)) λr_25=>oK (qAI 1 again6 t18) λV26=>oK (wr1 S23 V26 (retM (.bool false) false r_25)) λS27=>oK (rdN S27 2 (.ptr B21 0)) λV28=>oK (putG TP 203 S27 x5 (.agg V28) (.bool true)) λS29=>oK (qAB .add t18 (.int .i64 1)) λV30=>∃m',m'<m0/\I0 [V30] S29 m') S20) S17) s)
 (K again6 s)
def qDs(X:Td)(l0 key1:AV)(K:KvP)(s:Hq):Prop:=
 oK (qAO l0) λV0=>intK (.int .i64 V0) (mapK (λV2 S3=>oK (qAO l0) λV4=>oK (nat? (.int .i64 V4)) λn_6=>oK (nat? (.int .i64 V4)) λn_7=>(n_6<=n_7/\n_7<=4294967296)/\newK 4 (repl n_7 [(.bool false)]) (λB8 S9=>oK (qAO l0) λV10=>∃I0:IvP,(∃m,I0 [(.int .i64 0)] S9 m)/\∀(f:Env) (s:Hq) (m0:Nat),I0 [f 18] s m0->
 qDP X key1 V2 (.slc B8 0 n_6 (some n_7) 1) l0 (.int .i64 V10) (f 18) I0 m0 K s) S3) s)
def qFK:Nat->List Nat:=λk=>cond (Nat.beq k 8) [18] ([])
theorem qFX{X:Td}(hX:FrX X)(hn:X 127=none){l0 key1:AV}{K:KvP}{s:Hq}(h:qDs X l0 key1 K s):wC TP X 127 [l0,key1] K s:=
 wOK hX qFK hn Tryz.func127 h
def qUC(X:Td)(h0:AV)(K:KvP)(s:Hq):Prop:=
 boxK 140 h0 (λB0 S1=>newK 203 [(.int .i64 0),(.int .u64 0)] (λB2 S3=>oK (qAE 2 B0) λV4=>oK (rd1 S3 V4) λV5=>oK (qAE 0 B0) λV6=>oK (rd1 S3 V6) λV7=>oK (qBV [(.int .i64 0),(.int .u64 0)] [(0,1,V5),(1,1,V7)]) λC8=>oK (qBF S3 2 (.ptr B2 0) (.agg C8)) λS9=>oK (rdN S9 2 (.ptr B2 0)) λt2_10=>K (.agg t2_10) S9) S1) s
theorem qOO{X:Td}(hX:FrX X)(hn:X 128=none){h0:AV}{K:KvP}{s:Hq}(h:qUC X h0 K s):wC TP X 128 [h0] K s:=
 wOK hX nA0 hn Tryz.func128 h
def qTA(X:Td)(h0:AV)(K:KvP)(s:Hq):Prop:=
 boxK 140 h0 (λB0 S1=>newK 203 [(.int .i64 0),(.int .u64 0)] (λB2 S3=>oK (qAE 2 B0) λV4=>oK (rd1 S3 V4) λV5=>oK (qAE 1 B0) λV6=>oK (rd1 S3 V6) λV7=>oK (qCJ .u64 V7) λV8=>oK (qBV [(.int .i64 0),(.int .u64 0)] [(0,1,V5),(1,1,V8)]) λC9=>oK (qBF S3 2 (.ptr B2 0) (.agg C9)) λS10=>oK (rdN S10 2 (.ptr B2 0)) λt2_11=>K (.agg t2_11) S10) S1) s
theorem qPA{X:Td}(hX:FrX X)(hn:X 129=none){h0:AV}{K:KvP}{s:Hq}(h:qTA X h0 K s):wC TP X 129 [h0] K s:=
 wOK hX nA0 hn Tryz.func129 h
def qFR(X:Td)(t5 t9:AV)(K:KvP)(s:Hq):Prop:=
 oK (qAY t5 t9 (.bool false)) λV1=>K V1 s
def qGz(X:Td)(t0:AV)(K:KvP)(s:Hq):Prop:=
 oK (qAB .leq t0 (.int .u64 281474976710655)) λV0=>qAM V0
 (oK (qCd .shr t0 (.int .u64 40)) λV2=>oK (qAB .and V2 (.int .u64 1)) λV3=>oK (negB true (eqV 0 true V3 (.int .u64 0))) λV4=>qFR X V0 V4 K s)
 (qFR X V0 .undef K s)
theorem qIs{X:Td}(hX:FrX X)(hn:X 130=none){t0:AV}{K:KvP}{s:Hq}(h:qGz X t0 K s):wC TP X 130 [t0] K s:=
 wOK hX nA0 hn Tryz.func130 h
def qEh(X:Td)(t0 v1:AV)(K:KvP)(s:Hq):Prop:=
 wC TP X 63 [t0,v1] (λV0 S1=>oK (qAB .geq V0 (.int .i64 0)) λV2=>K V2 S1) s
theorem qGf{X:Td}(hX:FrX X)(hn:X 32=none){t0 v1:AV}{K:KvP}{s:Hq}(h:qEh X t0 v1 K s):wC TP X 32 [t0,v1] K s:=
 wOK hX nA0 hn Tryz.func32 h
def qCL(X:Td)(t0 t6 t8:AV)(K:KvP)(s:Hq):Prop:=
 oK (qAY t6 (.bool true) t8) λV1=>qAM V1
 (K (.tup [(.int .i64 0),(.bool false)]) s)
 (oK (qAB .sub t0 (.int .u64 2199023255552)) λV2=>oK (qCJ .i64 V2) λV3=>K (.tup [V3,(.bool true)]) s)
def qGF(X:Td)(t0:AV)(K:KvP)(s:Hq):Prop:=
 oK (qAB .lss t0 (.int .u64 2199023255552)) λV0=>qAM V0
 (qCL X t0 V0 .undef K s)
 (oK (qAB .geq t0 (.int .u64 2199023255584)) λV4=>qCL X t0 V0 V4 K s)
theorem qIA{X:Td}(hX:FrX X)(hn:X 131=none){t0:AV}{K:KvP}{s:Hq}(h:qGF X t0 K s):wC TP X 131 [t0] K s:=
 wOK hX nA0 hn Tryz.func131 h
def qIO(X:Td)(t16 t20:AV)(K:KvP)(s:Hq):Prop:=
 oK (qAY t16 t20 (.bool false)) λV7=>K V7 s
def qEN(X:Td)(ip1 b2 t10 t14:AV)(K:KvP)(s:Hq):Prop:=
 oK (qAY t10 t14 (.bool false)) λV6=>qAM V6
 (oK (qAE 3 b2) λV8=>oK (rdN s 2 V8) λV9=>wC TP X 119 [(.agg V9),ip1] (λV10 S11=>qIO X V6 V10 K S11) s)
 (qIO X V6 .undef K s)
def qP2(X:Td)(b0 ip1:AV)(K:KvP)(s:Hq):Prop:=
 boxK 87 b0 (λB0 S1=>oK (negB false (eqV 0 true ip1 (.int .u32 0))) λV2=>qAM V2
 (K (.bool true) S1)
 (oK (qAE 5 B0) λV3=>oK (rd1 S1 V3) λV4=>oK (negB true (eqV 0 true V4 (.int .u32 0))) λV5=>qAM V5
 (oK (qAE 5 B0) λV12=>oK (rd1 S1 V12) λV13=>oK (negB true (eqV 0 false ip1 V13)) λV14=>qEN X ip1 B0 V5 V14 K S1)
 (qEN X ip1 B0 V5 .undef K S1))) s
theorem qL5{X:Td}(hX:FrX X)(hn:X 132=none){b0 ip1:AV}{K:KvP}{s:Hq}(h:qP2 X b0 ip1 K s):wC TP X 132 [b0,ip1] K s:=
 wOK hX nA0 hn Tryz.func132 h
def qD6(X:Td)(key1 x5 again6 t16 t17 t18:AV)(I0:IvP)(m0:Nat)(K:KvP)(s:Hq):Prop:=
 oK (qAB .lss t18 t17) λV12=>qAM V12
 (oK (qAI 4 t16 t18) λV13=>oK (rdN s 4 V13) λV14=>newK 144 [(.int .i64 0),(.int .i64 0),(.int .u32 0),(.int .i64 0)] (λB15 S16=>oK (qBF S16 4 (.ptr B15 0) (.agg V14)) λS17=>oK (rdN S17 4 (.ptr B15 0)) λV18=>funK TP X key1 [(.agg V18)] (λV19 S20=>newK 144 [(.int .i64 0),(.int .i64 0),(.int .u32 0),(.int .i64 0)] (λB21 S22=>oK (qBF S22 4 (.ptr B21 0) V19) λS23=>oK (rdN S23 4 (.ptr B21 0)) λV24=>oK (getG TP 144 S23 x5 (.agg V24)) λr_25=>oK (qAI 1 again6 t18) λV26=>oK (wr1 S23 V26 (retM (.bool false) false r_25)) λS27=>oK (rdN S27 4 (.ptr B21 0)) λV28=>oK (putG TP 144 S27 x5 (.agg V28) (.bool true)) λS29=>oK (qAB .add t18 (.int .i64 1)) λV30=>∃m',m'<m0/\I0 [V30] S29 m') S20) S17) s)
 (K again6 s)
def qE5(X:Td)(l0 key1:AV)(K:KvP)(s:Hq):Prop:=
 oK (qAO l0) λV0=>intK (.int .i64 V0) (mapK (λV2 S3=>oK (qAO l0) λV4=>oK (nat? (.int .i64 V4)) λn_6=>oK (nat? (.int .i64 V4)) λn_7=>(n_6<=n_7/\n_7<=4294967296)/\newK 4 (repl n_7 [(.bool false)]) (λB8 S9=>oK (qAO l0) λV10=>∃I0:IvP,(∃m,I0 [(.int .i64 0)] S9 m)/\∀(f:Env) (s:Hq) (m0:Nat),I0 [f 18] s m0->
 qD6 X key1 V2 (.slc B8 0 n_6 (some n_7) 1) l0 (.int .i64 V10) (f 18) I0 m0 K s) S3) s)
def qGX:Nat->List Nat:=λk=>cond (Nat.beq k 8) [18] ([])
theorem qGr{X:Td}(hX:FrX X)(hn:X 133=none){l0 key1:AV}{K:KvP}{s:Hq}(h:qE5 X l0 key1 K s):wC TP X 133 [l0,key1] K s:=
 wOK hX qGX hn Tryz.func133 h
def qS9(X:Td)(l0:AV)(K:KvP)(s:Hq):Prop:=
 boxK 144 l0 (λB0 S1=>newK 144 [(.int .i64 0),(.int .i64 0),(.int .u32 0),(.int .i64 0)] (λB2 S3=>oK (rdN S3 4 B0) λV4=>oK (qBF S3 4 (.ptr B2 0) (.agg V4)) λS5=>oK (rdN S5 4 (.ptr B2 0)) λt2_6=>K (.agg t2_6) S5) S1) s
theorem qOJ{X:Td}(hX:FrX X)(hn:X 134=none){l0:AV}{K:KvP}{s:Hq}(h:qS9 X l0 K s):wC TP X 134 [l0] K s:=
 wOK hX nA0 hn Tryz.func134 h
def qBn(X:Td)(t0 t1:AV)(K:KvP)(s:Hq):Prop:=
 wC TP X 198 [t0,t1] (λV0 S1=>oK (qAB .geq V0 (.int .i64 0)) λV2=>K V2 S1) s
theorem qC5{X:Td}(hX:FrX X)(hn:X 170=none){t0 t1:AV}{K:KvP}{s:Hq}(h:qBn X t0 t1 K s):wC TP X 170 [t0,t1] K s:=
 wOK hX nA0 hn Tryz.func170 h
def qFp(X:Td)(x0 t1 t2:AV)(K:KvP)(s:Hq):Prop:=
 boxK 117 x0 (λB0 S1=>oK (rd1 S1 t1) λV2=>oK (rdN S1 2 B0) λV3=>funK TP X V2 [(.agg V3)] (λV4 S5=>(∀b,S1 b≠none->S1 b=none->S5 b=none)->
 oK (rd1 (cutH [(S1,(add S1 S5))] (add S1 S5)) t2) λV6=>oK (negB false (eqV 0 false V4 V6)) λV7=>K V7 (add S1 S5)) (frz S1)) s
theorem qE6{X:Td}(hX:FrX X)(hn:X 171=none){x0 t1 t2:AV}{K:KvP}{s:Hq}(h:qFp X x0 t1 t2 K s):wC TP X 171 [x0,t1,t2] K s:=
 wOK hX nA0 hn Tryz.func171 h
def qOh(X:Td)(p0:AV)(K:KvP)(s:Hq):Prop:=
 boxK 71 p0 (λB0 S1=>newK 71 [(.int .u32 0),(.int .i64 0)] (λB2 S3=>oK (rdN S3 2 B0) λV4=>wC TP X 174 [(.agg V4)] (λV5 S6=>oK (qBm .not V5) λV7=>qAM V7
 (oK (qBV [(.int .u32 0),(.int .i64 0)] []) λC8=>oK (qBF S6 2 (.ptr B2 0) (.agg C8)) λS9=>oK (rdN S9 2 (.ptr B2 0)) λt2_10=>K (.tup [(.agg t2_10),(.int .i64 2)]) S9)
 (oK (qAE 0 B0) λV11=>oK (rd1 S6 V11) λV12=>oK (qAE 1 B0) λV13=>oK (rd1 S6 V13) λV14=>wC TP X 175 [V14] (λV15 S16=>(∀b,S6 b≠none->S6 b=none->S16 b=none)->
 oK (qAB .and V12 V15) λV17=>oK (qAE 0 B0) λV18=>oK (wr1 (add S6 S16) V18 V17) λS19=>oK (rdN S19 2 B0) λV20=>oK (qBF S19 2 (.ptr B2 0) (.agg V20)) λS21=>oK (rdN S21 2 (.ptr B2 0)) λt2_22=>K (.tup [(.agg t2_22),(.int .i64 0)]) S21) (frz S6))) S3) S1) s
theorem qLQ{X:Td}(hX:FrX X)(hn:X 172=none){p0:AV}{K:KvP}{s:Hq}(h:qOh X p0 K s):wC TP X 172 [p0] K s:=
 wOK hX nA0 hn Tryz.func172 h
def qCa(X:Td)(t0 t1 t7 t8:AV)(I0:IvP)(m0:Nat)(K:KvP)(s:Hq):Prop:=
 oK (qAB .lss t8 t7) λV2=>qAM V2
 (oK (qAI 6 t0 t8) λV3=>oK (rdN s 6 V3) λV4=>funK TP X t1 [(.agg V4)] (λV5 S6=>qAM V5
 (K t8 S6)
 (oK (qAB .add t8 (.int .i64 1)) λV7=>∃m',m'<m0/\I0 [V7] S6 m')) s)
 (K (.int .i64 (-1)) s)
def qDB(X:Td)(t0 t1:AV)(K:KvP)(s:Hq):Prop:=
 oK (qAO t0) λV0=>∃I0:IvP,(∃m,I0 [(.int .i64 0)] s m)/\∀(f:Env) (s:Hq) (m0:Nat),I0 [f 8] s m0->
 qCa X t0 t1 (.int .i64 V0) (f 8) I0 m0 K s
def qEI:Nat->List Nat:=λk=>cond (Nat.beq k 4) [8] ([])
theorem qEc{X:Td}(hX:FrX X)(hn:X 173=none){t0 t1:AV}{K:KvP}{s:Hq}(h:qDB X t0 t1 K s):wC TP X 173 [t0,t1] K s:=
 wOK hX qEI hn Tryz.func173 h
def qHo(X:Td)(t6 t9:AV)(K:KvP)(s:Hq):Prop:=
 oK (qAY t6 t9 (.bool false)) λV5=>K V5 s
def qPC(X:Td)(p0:AV)(K:KvP)(s:Hq):Prop:=
 boxK 71 p0 (λB0 S1=>oK (qAE 1 B0) λV2=>oK (rd1 S1 V2) λV3=>oK (qAB .geq V3 (.int .i64 0)) λV4=>qAM V4
 (oK (qAE 1 B0) λV6=>oK (rd1 S1 V6) λV7=>oK (qAB .leq V7 (.int .i64 32)) λV8=>qHo X V4 V8 K S1)
 (qHo X V4 .undef K S1)) s
theorem qLL{X:Td}(hX:FrX X)(hn:X 174=none){p0:AV}{K:KvP}{s:Hq}(h:qPC X p0 K s):wC TP X 174 [p0] K s:=
 wOK hX nA0 hn Tryz.func174 h
def qKq(X:Td)(length0:AV)(K:KvP)(s:Hq):Prop:=
 oK (qAB .sub (.int .i64 32) length0) λV0=>oK (qCd .shl (.int .u32 4294967295) V0) λV1=>K V1 s
theorem qMw{X:Td}(hX:FrX X)(hn:X 175=none){length0:AV}{K:KvP}{s:Hq}(h:qKq X length0 K s):wC TP X 175 [length0] K s:=
 wOK hX nA0 hn Tryz.func175 h
def qDm(X:Td)(t0 t1 t7 t8:AV)(I0:IvP)(m0:Nat)(K:KvP)(s:Hq):Prop:=
 oK (qAB .lss t8 t7) λV2=>qAM V2
 (oK (qAI 1 t0 t8) λV3=>oK (rd1 s V3) λV4=>funK TP X t1 [V4] (λV5 S6=>qAM V5
 (K t8 S6)
 (oK (qAB .add t8 (.int .i64 1)) λV7=>∃m',m'<m0/\I0 [V7] S6 m')) s)
 (K (.int .i64 (-1)) s)
def qEK(X:Td)(t0 t1:AV)(K:KvP)(s:Hq):Prop:=
 oK (qAO t0) λV0=>∃I0:IvP,(∃m,I0 [(.int .i64 0)] s m)/\∀(f:Env) (s:Hq) (m0:Nat),I0 [f 8] s m0->
 qDm X t0 t1 (.int .i64 V0) (f 8) I0 m0 K s
def qFn:Nat->List Nat:=λk=>cond (Nat.beq k 4) [8] ([])
theorem qF5{X:Td}(hX:FrX X)(hn:X 176=none){t0 t1:AV}{K:KvP}{s:Hq}(h:qEK X t0 t1 K s):wC TP X 176 [t0,t1] K s:=
 wOK hX qFn hn Tryz.func176 h
def qEg(X:Td)(t0 v1 t7 t8:AV)(I0:IvP)(m0:Nat)(K:KvP)(s:Hq):Prop:=
 oK (qAB .lss t8 t7) λV2=>qAM V2
 (oK (qAI 1 t0 t8) λV3=>oK (rd1 s V3) λV4=>oK (negB false (eqV 0 false v1 V4)) λV5=>qAM V5
 (K t8 s)
 (oK (qAB .add t8 (.int .i64 1)) λV6=>∃m',m'<m0/\I0 [V6] s m'))
 (K (.int .i64 (-1)) s)
def qFr(X:Td)(t0 v1:AV)(K:KvP)(s:Hq):Prop:=
 oK (qAO t0) λV0=>∃I0:IvP,(∃m,I0 [(.int .i64 0)] s m)/\∀(f:Env) (s:Hq) (m0:Nat),I0 [f 8] s m0->
 qEg X t0 v1 (.int .i64 V0) (f 8) I0 m0 K s
def qG9:Nat->List Nat:=λk=>cond (Nat.beq k 4) [8] ([])
theorem qHt{X:Td}(hX:FrX X)(hn:X 63=none){t0 v1:AV}{K:KvP}{s:Hq}(h:qFr X t0 v1 K s):wC TP X 63 [t0,v1] K s:=
 wOK hX qG9 hn Tryz.func63 h
def qBo(X:Td)(t0 t1 t7 t8:AV)(I0:IvP)(m0:Nat)(K:KvP)(s:Hq):Prop:=
 oK (qAB .lss t8 t7) λV2=>qAM V2
 (oK (qAI 2 t0 t8) λV3=>oK (rdN s 2 V3) λV4=>funK TP X t1 [(.agg V4)] (λV5 S6=>qAM V5
 (K t8 S6)
 (oK (qAB .add t8 (.int .i64 1)) λV7=>∃m',m'<m0/\I0 [V7] S6 m')) s)
 (K (.int .i64 (-1)) s)
def qBz(X:Td)(t0 t1:AV)(K:KvP)(s:Hq):Prop:=
 oK (qAO t0) λV0=>∃I0:IvP,(∃m,I0 [(.int .i64 0)] s m)/\∀(f:Env) (s:Hq) (m0:Nat),I0 [f 8] s m0->
 qBo X t0 t1 (.int .i64 V0) (f 8) I0 m0 K s
def qDM:Nat->List Nat:=λk=>cond (Nat.beq k 4) [8] ([])
theorem qDX{X:Td}(hX:FrX X)(hn:X 198=none){t0 t1:AV}{K:KvP}{s:Hq}(h:qBz X t0 t1 K s):wC TP X 198 [t0,t1] K s:=
 wOK hX qDM hn Tryz.func198 h
def qKv(X:Td)(t7 t10:AV)(K:KvP)(s:Hq):Prop:=
 oK (qAY t7 t10 (.bool false)) λV1=>K V1 s
def qPW(X:Td)(i0 n1:AV)(K:KvP)(s:Hq):Prop:=
 oK (qAB .geq i0 (.int .i64 0)) λV0=>qAM V0
 (oK (qAB .lss i0 n1) λV2=>qKv X V0 V2 K s)
 (qKv X V0 .undef K s)
theorem qPe{X:Td}(hX:FrX X)(hn:X 76=none){i0 n1:AV}{K:KvP}{s:Hq}(h:qPW X i0 n1 K s):wC TP X 76 [i0,n1] K s:=
 wOK hX nA0 hn Tryz.func76 h
end Go.AM
namespace Go.AM
open Go Go.Proofs
set_option maxRecDepth 100000
def qI2(X:Td)(bad0 err1 part2 index3:AV)(K R:KvP)(s:Hq):Prop:=
 qAM bad0
 (oK (qBV [(.int .i64 0),(.str ⟨#[]⟩),(.int .i64 0)] [(0,1,err1),(1,1,part2),(2,1,index3)]) λC0=>panK (.ifc 147 (.agg C0)) R s)
 (K (.tup []) s)
theorem qKh{bad0 err1 part2 index3:AV}{K R:KvP}{s:Hq}(h:qI2 X0 bad0 err1 part2 index3 K R s):qAa TP X0 SS 107 [bad0,err1,part2,index3] K R s:=
 qCN qJE nA0 Tryz.func107 (by kernel_rfl:Tryz.f107.body=some (qA5 Tryz.f107)) (by kernel_rfl) (by kernel_rfl) (Eq.mpr (by kernel_rfl) h)
def qGN(X:Td)(t31 t34:AV)(K R:KvP)(s:Hq):Prop:=
 oK (qAY t31 (.bool true) t34) λV26=>qAa TP X SS 107 [V26,(.int .i64 2),(.str ⟨#[102,97,98,114,105,99]⟩),(.int .i64 0)] (λV27 S28=>K (.tup []) S28) R s
def qGG(X:Td)(t2 t26 t29:AV)(K R:KvP)(s:Hq):Prop:=
 oK (qAY t26 (.bool true) t29) λV25=>qAM V25
 (qGN X V25 .undef K R s)
 (oK (qAE 10 t2) λV29=>oK (rd1 s V29) λV30=>wC TP X 108 [V30,(.int .i64 0),(.int .i64 1)] (λV31 S32=>qGN X V25 V31 K R S32) s)
def qGE(X:Td)(t2 t10 t13:AV)(K R:KvP)(s:Hq):Prop:=
 oK (qAY t10 (.bool true) t13) λV10=>qAa TP X SS 107 [V10,(.int .i64 2),(.str ⟨#[102,97,98,114,105,99]⟩),(.int .i64 0)] (λV11 S12=>oK (qAE 0 t2) λV13=>oK (rd1 S12 V13) λV14=>oK (qAE 1 t2) λV15=>oK (rd1 S12 V15) λV16=>oK (qAB .add V14 V16) λV17=>oK (qAB .gtr V17 (.int .i64 32)) λV18=>qAa TP X SS 107 [V18,(.int .i64 2),(.str ⟨#[102,97,98,114,105,99]⟩),(.int .i64 0)] (λV19 S20=>oK (qAE 8 t2) λV21=>oK (rd1 S20 V21) λV22=>wC TP X 108 [V22,(.int .i64 0),(.int .i64 2)] (λV23 S24=>qAM V23
 (qGG X t2 V23 .undef K R S24)
 (oK (qAE 9 t2) λV33=>oK (rd1 S24 V33) λV34=>wC TP X 108 [V34,(.int .i64 0),(.int .i64 1)] (λV35 S36=>qGG X t2 V23 V35 K R S36) S24)) S20) R S12) R s
def qVM(X:Td)(c0:AV)(K R:KvP)(s:Hq):Prop:=
 oK (qAd c0) λV0=>oK (qAE 0 V0) λV1=>oK (rdN s 19 V1) λV2=>newK 31 zR1 (λB3 S4=>oK (qBF S4 19 (.ptr B3 0) (.agg V2)) λS5=>oK (qAE 0 (.ptr B3 0)) λV6=>oK (rd1 S5 V6) λV7=>wC TP X 108 [V7,(.int .i64 1),(.int .i64 32)] (λV8 S9=>qAM V8
 (qGE X (.ptr B3 0) V8 .undef K R S9)
 (oK (qAE 1 (.ptr B3 0)) λV37=>oK (rd1 S9 V37) λV38=>wC TP X 108 [V38,(.int .i64 0),(.int .i64 32)] (λV39 S40=>qGE X (.ptr B3 0) V8 V39 K R S40) S9)) S5) s
theorem qPq{c0:AV}{K R:KvP}{s:Hq}(h:qVM X0 c0 K R s):qAa TP X0 SS 87 [c0] K R s:=
 qCN qJE nA0 Tryz.func87 (by kernel_rfl:Tryz.f87.body=some (qA5 Tryz.f87)) (by kernel_rfl) (by kernel_rfl) (Eq.mpr (by kernel_rfl) h)
def qGQ(X:Td)(t30 t33:AV)(K R:KvP)(s:Hq):Prop:=
 oK (qAY t30 (.bool true) t33) λV20=>qAa TP X SS 107 [V20,(.int .i64 2),(.str ⟨#[116,105,109,101,114,115]⟩),(.int .i64 0)] (λV21 S22=>K (.tup []) S22) R s
def qGK(X:Td)(t2 t25 t28:AV)(K R:KvP)(s:Hq):Prop:=
 oK (qAY t25 (.bool true) t28) λV19=>qAM V19
 (qGQ X V19 .undef K R s)
 (oK (qAE 5 t2) λV23=>oK (rd1 s V23) λV24=>wC TP X 108 [V24,(.int .i64 1),(.int .i64 10000)] (λV25 S26=>qGQ X V19 V25 K R S26) s)
def qGS(X:Td)(t2 t16 t19:AV)(K R:KvP)(s:Hq):Prop:=
 oK (qAY t16 (.bool true) t19) λV12=>qAa TP X SS 107 [V12,(.int .i64 2),(.str ⟨#[116,105,109,101,114,115]⟩),(.int .i64 0)] (λV13 S14=>oK (qAE 3 t2) λV15=>oK (rd1 S14 V15) λV16=>wC TP X 108 [V16,(.int .i64 0),(.int .i64 1000)] (λV17 S18=>qAM V17
 (qGK X t2 V17 .undef K R S18)
 (oK (qAE 4 t2) λV27=>oK (rd1 S18 V27) λV28=>wC TP X 108 [V28,(.int .i64 1),(.int .i64 100)] (λV29 S30=>qGK X t2 V17 V29 K R S30) S18)) S14) R s
def qGL(X:Td)(t2 t11 t14:AV)(K R:KvP)(s:Hq):Prop:=
 oK (qAY t11 (.bool true) t14) λV11=>qAM V11
 (qGS X t2 V11 .undef K R s)
 (oK (qAE 2 t2) λV31=>oK (rd1 s V31) λV32=>wC TP X 108 [V32,(.int .i64 1),(.int .i64 10000)] (λV33 S34=>qGS X t2 V11 V33 K R S34) s)
def qPr(X:Td)(c0:AV)(K R:KvP)(s:Hq):Prop:=
 oK (qAd c0) λV0=>oK (qAE 0 V0) λV1=>oK (qAE 13 V1) λV2=>oK (rdN s 6 V2) λV3=>newK 29 [(.int .i64 0),(.int .i64 0),(.int .i64 0),(.int .i64 0),(.int .i64 0),(.int .i64 0)] (λB4 S5=>oK (qBF S5 6 (.ptr B4 0) (.agg V3)) λS6=>oK (qAE 0 (.ptr B4 0)) λV7=>oK (rd1 S6 V7) λV8=>wC TP X 108 [V8,(.int .i64 1),(.int .i64 100)] (λV9 S10=>qAM V9
 (qGL X (.ptr B4 0) V9 .undef K R S10)
 (oK (qAE 1 (.ptr B4 0)) λV35=>oK (rd1 S10 V35) λV36=>wC TP X 108 [V36,(.int .i64 3),(.int .i64 1000)] (λV37 S38=>qGL X (.ptr B4 0) V9 V37 K R S38) S10)) S6) s
theorem qPR{c0:AV}{K R:KvP}{s:Hq}(h:qPr X0 c0 K R s):qAa TP X0 SS 88 [c0] K R s:=
 qCN qJE nA0 Tryz.func88 (by kernel_rfl:Tryz.f88.body=some (qA5 Tryz.f88)) (by kernel_rfl) (by kernel_rfl) (Eq.mpr (by kernel_rfl) h)
def qHG(X:Td)(again3 i4 t22 t51 t54:AV)(I0:IvP)(m0:Nat)(K R:KvP)(s:Hq):Prop:=
 oK (qAY t51 (.bool true) t54) λV36=>qAa TP X SS 107 [V36,(.int .i64 2),(.str ⟨#[108,105,110,107,115]⟩),i4] (λV37 S38=>oK (qAI 1 again3 i4) λV39=>oK (rd1 S38 V39) λV40=>qAa TP X SS 107 [V40,(.int .i64 11),(.str ⟨#[108,105,110,107,115]⟩),i4] (λV41 S42=>oK (qAB .add t22 (.int .i64 1)) λV43=>∃m',m'<m0/\I0 [V43] S42 m') R S38) R s
def qHD(X:Td)(again3 i4 l5 t22 t39 t47:AV)(I0:IvP)(m0:Nat)(K R:KvP)(s:Hq):Prop:=
 oK (qAY t39 t47 (.bool false)) λV34=>oK (qBm .not V34) λV35=>qAM V35
 (qHG X again3 i4 t22 V35 .undef I0 m0 K R s)
 (oK (qAE 2 l5) λV44=>oK (rd1 s V44) λV45=>wC TP X 108 [V45,(.int .i64 1),(.int .i64 1000)] (λV46 S47=>qHG X again3 i4 t22 V35 V46 I0 m0 K R S47) s)
def qG8(X:Td)(t2 again3 i4 l5 t22 t32 t37:AV)(I0:IvP)(m0:Nat)(K R:KvP)(s:Hq):Prop:=
 oK (qAY t32 t37 (.bool false)) λV33=>qAM V33
 (oK (qAE 1 l5) λV48=>oK (rd1 s V48) λV49=>oK (qAE 0 t2) λV50=>oK (rd1 s V50) λV51=>oK (qAE 1 t2) λV52=>oK (rd1 s V52) λV53=>oK (qAB .add V51 V53) λV54=>oK (qAB .lss V49 V54) λV55=>qHD X again3 i4 l5 t22 V33 V55 I0 m0 K R s)
 (qHD X again3 i4 l5 t22 V33 .undef I0 m0 K R s)
def qMP(X:Td)(t2 again3 t20 t21 t22:AV)(I0:IvP)(m0:Nat)(K R:KvP)(s:Hq):Prop:=
 oK (qAB .lss t22 t21) λV21=>qAM V21
 (oK (qAI 3 t20 t22) λV22=>oK (rdN s 3 V22) λV23=>newK 115 [(.int .i64 0),(.int .i64 0),(.int .i64 0)] (λB24 S25=>oK (qBF S25 3 (.ptr B24 0) (.agg V23)) λS26=>oK (qAE 0 (.ptr B24 0)) λV27=>oK (rd1 S26 V27) λV28=>oK (qAE 0 t2) λV29=>oK (rd1 S26 V29) λV30=>wC TP X 76 [V28,V30] (λV31 S32=>qAM V31
 (oK (qAE 1 (.ptr B24 0)) λV56=>oK (rd1 S32 V56) λV57=>oK (qAE 0 t2) λV58=>oK (rd1 S32 V58) λV59=>oK (qAB .geq V57 V59) λV60=>qG8 X t2 again3 t22 (.ptr B24 0) t22 V31 V60 I0 m0 K R S32)
 (qG8 X t2 again3 t22 (.ptr B24 0) t22 V31 .undef I0 m0 K R S32)) S26) s)
 (K (.tup []) s)
def qWz(X:Td)(c0:AV)(K R:KvP)(s:Hq):Prop:=
 oK (qAd c0) λV0=>oK (qAE 0 V0) λV1=>oK (rdN s 19 V1) λV2=>newK 31 zR1 (λB3 S4=>oK (qBF S4 19 (.ptr B3 0) (.agg V2)) λS5=>oK (qAE 2 (.ptr B3 0)) λV6=>oK (rd1 S5 V6) λV7=>oK (qAO V7) λV8=>oK (qAB .gtr (.int .i64 V8) (.int .i64 128)) λV10=>qAa TP X SS 107 [V10,(.int .i64 7),(.str ⟨#[108,105,110,107,115]⟩),(.int .i64 128)] (λV11 S12=>oK (qAE 2 (.ptr B3 0)) λV13=>oK (rd1 S12 V13) λV14=>wC TP X 109 [V14,(.fn (.func 110) [] [])] (λV15 S16=>oK (qAE 2 (.ptr B3 0)) λV17=>oK (rd1 S16 V17) λV18=>oK (qAO V18) λV19=>∃I0:IvP,(∃m,I0 [(.int .i64 0)] S16 m)/\∀(f:Env) (s:Hq) (m0:Nat),I0 [f 22] s m0->
 qMP X (.ptr B3 0) V15 V18 (.int .i64 V19) (f 22) I0 m0 K R s) S12) R S5) s
def qQF:Nat->List Nat:=λk=>cond (Nat.beq k 8) [22] ([])
theorem qRW{c0:AV}{K R:KvP}{s:Hq}(h:qWz X0 c0 K R s):qAa TP X0 SS 89 [c0] K R s:=
 qCN qJE qQF Tryz.func89 (by kernel_rfl:Tryz.f89.body=some (qA5 Tryz.f89)) (by kernel_rfl) (by kernel_rfl) (Eq.mpr (by kernel_rfl) h)
def qFg(X:Td)(i5 t22 t46 t50:AV)(I0:IvP)(m0:Nat)(K R:KvP)(s:Hq):Prop:=
 oK (qAY t46 (.bool true) t50) λV30=>qAa TP X SS 107 [V30,(.int .i64 11),(.str ⟨#[116,101,110,97,110,116,115]⟩),i5] (λV31 S32=>oK (qAB .add t22 (.int .i64 1)) λV33=>∃m',m'<m0/\I0 [V33] S32 m') R s
def qFc(X:Td)(vnis3 x4 i5 t22 t35 t38:AV)(I0:IvP)(m0:Nat)(K R:KvP)(s:Hq):Prop:=
 oK (qAY t35 (.bool true) t38) λV25=>qAa TP X SS 107 [V25,(.int .i64 2),(.str ⟨#[116,101,110,97,110,116,115]⟩),i5] (λV26 S27=>oK (qAI 1 vnis3 i5) λV28=>oK (rd1 S27 V28) λV29=>qAM V29
 (qFg X i5 t22 V29 .undef I0 m0 K R S27)
 (oK (qAI 1 x4 i5) λV34=>oK (rd1 S27 V34) λV35=>qFg X i5 t22 V29 V35 I0 m0 K R S27)) R s
def qFV(X:Td)(vnis3 x4 i5 t6 t22 t30 t33:AV)(I0:IvP)(m0:Nat)(K R:KvP)(s:Hq):Prop:=
 oK (qAY t30 (.bool true) t33) λV24=>qAM V24
 (qFc X vnis3 x4 i5 t22 V24 .undef I0 m0 K R s)
 (oK (qAE 1 t6) λV36=>oK (rd1 s V36) λV37=>oK (negB false (eqV 0 true V37 (.int .u32 0))) λV38=>qFc X vnis3 x4 i5 t22 V24 V38 I0 m0 K R s)
def qJb(X:Td)(vnis3 x4 t20 t21 t22:AV)(I0:IvP)(m0:Nat)(K R:KvP)(s:Hq):Prop:=
 oK (qAB .lss t22 t21) λV15=>qAM V15
 (oK (qAI 2 t20 t22) λV16=>oK (rdN s 2 V16) λV17=>newK 117 [(.int .u32 0),(.int .u32 0)] (λB18 S19=>oK (qBF S19 2 (.ptr B18 0) (.agg V17)) λS20=>oK (qAE 0 (.ptr B18 0)) λV21=>oK (rd1 S20 V21) λV22=>oK (qAB .lss V22 (.int .u32 1)) λV23=>qAM V23
 (qFV X vnis3 x4 t22 (.ptr B18 0) t22 V23 .undef I0 m0 K R S20)
 (oK (qAE 0 (.ptr B18 0)) λV39=>oK (rd1 S20 V39) λV40=>oK (qAB .gtr V40 (.int .u32 16777215)) λV41=>qFV X vnis3 x4 t22 (.ptr B18 0) t22 V23 V41 I0 m0 K R S20)) s)
 (K (.tup []) s)
def qNz(X:Td)(c0:AV)(K R:KvP)(s:Hq):Prop:=
 oK (qAd c0) λV0=>oK (qAE 0 V0) λV1=>oK (qAE 3 V1) λV2=>oK (rd1 s V2) λV3=>oK (qAO V3) λV4=>oK (qAB .gtr (.int .i64 V4) (.int .i64 16)) λV6=>qAa TP X SS 107 [V6,(.int .i64 7),(.str ⟨#[116,101,110,97,110,116,115]⟩),(.int .i64 16)] (λV7 S8=>wC TP X 111 [V3,(.fn (.func 112) [] [])] (λV9 S10=>wC TP X 111 [V3,(.fn (.func 113) [] [])] (λV11 S12=>oK (qAO V3) λV13=>∃I0:IvP,(∃m,I0 [(.int .i64 0)] S12 m)/\∀(f:Env) (s:Hq) (m0:Nat),I0 [f 22] s m0->
 qJb X V9 V11 V3 (.int .i64 V13) (f 22) I0 m0 K R s) S10) S8) R s
def qNK:Nat->List Nat:=λk=>cond (Nat.beq k 8) [22] ([])
theorem qOr{c0:AV}{K R:KvP}{s:Hq}(h:qNz X0 c0 K R s):qAa TP X0 SS 90 [c0] K R s:=
 qCN qJE qNK Tryz.func90 (by kernel_rfl:Tryz.f90.body=some (qA5 Tryz.f90)) (by kernel_rfl) (by kernel_rfl) (Eq.mpr (by kernel_rfl) h)
def qFk(X:Td)(t28:AV)(I0:IvP)(m0:Nat)(K R:KvP)(s:Hq):Prop:=
 oK (qAB .add t28 (.int .i64 1)) λV26=>∃m',m'<m0/\I0 [V26] s m'
def qFb(X:Td)(t2 i5 b6 t28 t98 t102:AV)(I0:IvP)(m0:Nat)(K R:KvP)(s:Hq):Prop:=
 oK (qAY t98 (.bool true) t102) λV67=>qAa TP X SS 107 [V67,(.int .i64 3),(.str ⟨#[100,111,109,97,105,110,115]⟩),i5] (λV68 S69=>oK (qAE 3 b6) λV70=>oK (rdN S69 2 V70) λV71=>oK (qAE 5 b6) λV72=>oK (rd1 S69 V72) λV73=>wC TP X 119 [(.agg V71),V73] (λV74 S75=>oK (qBm .not V74) λV76=>qAa TP X SS 107 [V76,(.int .i64 3),(.str ⟨#[100,111,109,97,105,110,115]⟩),i5] (λV77 S78=>oK (qAE 4 t2) λV79=>oK (rd1 S78 V79) λV80=>oK (qEe 6 V80 none (some i5) none) λV81=>wC TP X 120 [V81,(.fn (.func 121) [] [b6])] (λV82 S83=>qAa TP X SS 107 [V82,(.int .i64 11),(.str ⟨#[100,111,109,97,105,110,115]⟩),i5] (λV84 S85=>qFk X t28 I0 m0 K R S85) R S83) S78) R S75) S69) R s
def qFi(X:Td)(t2 i5 b6 t28 t75 t80:AV)(I0:IvP)(m0:Nat)(K R:KvP)(s:Hq):Prop:=
 oK (qAY t75 (.bool true) t80) λV50=>qAa TP X SS 107 [V50,(.int .i64 11),(.str ⟨#[100,111,109,97,105,110,115]⟩),i5] (λV51 S52=>oK (qAE 5 b6) λV53=>oK (rd1 S52 V53) λV54=>oK (negB false (eqV 0 true V54 (.int .u32 0))) λV55=>qAM V55
 (oK (qAE 3 b6) λV56=>oK (rdN S52 2 V56) λV57=>oK (qBV [(.int .u32 0),(.int .i64 0)] []) λC58=>oK (negB true (qKV TP 71 (.agg V57) (.agg C58))) λV59=>qAa TP X SS 107 [V59,(.int .i64 3),(.str ⟨#[100,111,109,97,105,110,115]⟩),i5] (λV60 S61=>qFk X t28 I0 m0 K R S61) R S52)
 (oK (qAE 3 b6) λV62=>oK (rdN S52 2 V62) λV63=>wC TP X 118 [(.agg V63)] (λV64 S65=>oK (qBm .not V64) λV66=>qAM V66
 (qFb X t2 i5 b6 t28 V66 .undef I0 m0 K R S65)
 (oK (qAE 3 b6) λV86=>oK (qAE 1 V86) λV87=>oK (rd1 S65 V87) λV88=>wC TP X 108 [V88,(.int .i64 8),(.int .i64 30)] (λV89 S90=>qFb X t2 i5 b6 t28 V66 V89 I0 m0 K R S90) S65)) S52)) R s
def qFY(X:Td)(t2 i5 b6 t28 t68 t73:AV)(I0:IvP)(m0:Nat)(K R:KvP)(s:Hq):Prop:=
 oK (qAY t68 (.bool true) t73) λV49=>qAM V49
 (qFi X t2 i5 b6 t28 V49 .undef I0 m0 K R s)
 (oK (qAE 3 t2) λV91=>oK (rd1 s V91) λV92=>oK (qAE 2 b6) λV93=>oK (rd1 s V93) λV94=>wC TP X 117 [V92,(.fn (.func 113) [] []),V94] (λV95 S96=>qFi X t2 i5 b6 t28 V49 V95 I0 m0 K R S96) s)
def qFj(X:Td)(t2 i5 b6 t28 t62 t66:AV)(I0:IvP)(m0:Nat)(K R:KvP)(s:Hq):Prop:=
 oK (qAY t62 (.bool true) t66) λV48=>qAM V48
 (qFY X t2 i5 b6 t28 V48 .undef I0 m0 K R s)
 (oK (qAE 3 t2) λV97=>oK (rd1 s V97) λV98=>oK (qAE 1 b6) λV99=>oK (rd1 s V99) λV100=>wC TP X 117 [V98,(.fn (.func 112) [] []),V100] (λV101 S102=>qFY X t2 i5 b6 t28 V48 V101 I0 m0 K R S102) s)
def qFd(X:Td)(t2 vnis3 x4 i5 b6 t28 t50 t53:AV)(I0:IvP)(m0:Nat)(K R:KvP)(s:Hq):Prop:=
 oK (qAY t50 (.bool true) t53) λV43=>qAa TP X SS 107 [V43,(.int .i64 2),(.str ⟨#[100,111,109,97,105,110,115]⟩),i5] (λV44 S45=>oK (qAI 1 vnis3 i5) λV46=>oK (rd1 S45 V46) λV47=>qAM V47
 (qFj X t2 i5 b6 t28 V47 .undef I0 m0 K R S45)
 (oK (qAI 1 x4 i5) λV103=>oK (rd1 S45 V103) λV104=>qFj X t2 i5 b6 t28 V47 V104 I0 m0 K R S45)) R s
def qFa(X:Td)(t2 vnis3 x4 i5 b6 t28 t45 t48:AV)(I0:IvP)(m0:Nat)(K R:KvP)(s:Hq):Prop:=
 oK (qAY t45 (.bool true) t48) λV42=>qAM V42
 (qFd X t2 vnis3 x4 i5 b6 t28 V42 .undef I0 m0 K R s)
 (oK (qAE 2 b6) λV105=>oK (rd1 s V105) λV106=>oK (negB false (eqV 0 true V106 (.int .u32 0))) λV107=>qFd X t2 vnis3 x4 i5 b6 t28 V42 V107 I0 m0 K R s)
def qFh(X:Td)(t2 vnis3 x4 i5 b6 t28 t40 t43:AV)(I0:IvP)(m0:Nat)(K R:KvP)(s:Hq):Prop:=
 oK (qAY t40 (.bool true) t43) λV41=>qAM V41
 (qFa X t2 vnis3 x4 i5 b6 t28 V41 .undef I0 m0 K R s)
 (oK (qAE 1 b6) λV108=>oK (rd1 s V108) λV109=>oK (qAB .gtr V109 (.int .u32 16777215)) λV110=>qFa X t2 vnis3 x4 i5 b6 t28 V41 V110 I0 m0 K R s)
def qJ0(X:Td)(t2 vnis3 x4 t26 t27 t28:AV)(I0:IvP)(m0:Nat)(K R:KvP)(s:Hq):Prop:=
 oK (qAB .lss t28 t27) λV25=>qAM V25
 (oK (qAI 6 t26 t28) λV27=>oK (rdN s 6 V27) λV28=>newK 87 [(.int .i64 0),(.int .u32 0),(.int .u32 0),(.int .u32 0),(.int .i64 0),(.int .u32 0)] (λB29 S30=>oK (qBF S30 6 (.ptr B29 0) (.agg V28)) λS31=>oK (qAE 0 (.ptr B29 0)) λV32=>oK (rd1 S31 V32) λV33=>oK (qAE 3 t2) λV34=>oK (rd1 S31 V34) λV35=>oK (qAO V35) λV36=>wC TP X 76 [V33,(.int .i64 V36)] (λV38 S39=>oK (qBm .not V38) λV40=>qAM V40
 (qFh X t2 vnis3 x4 t28 (.ptr B29 0) t28 V40 .undef I0 m0 K R S39)
 (oK (qAE 1 (.ptr B29 0)) λV111=>oK (rd1 S39 V111) λV112=>oK (qAB .lss V112 (.int .u32 1)) λV113=>qFh X t2 vnis3 x4 t28 (.ptr B29 0) t28 V40 V113 I0 m0 K R S39)) S31) s)
 (K (.tup []) s)
def qTT(X:Td)(c0:AV)(K R:KvP)(s:Hq):Prop:=
 oK (qAd c0) λV0=>oK (qAE 0 V0) λV1=>oK (rdN s 19 V1) λV2=>newK 31 zR1 (λB3 S4=>oK (qBF S4 19 (.ptr B3 0) (.agg V2)) λS5=>oK (qAE 4 (.ptr B3 0)) λV6=>oK (rd1 S5 V6) λV7=>oK (qAO V7) λV8=>oK (qAB .gtr (.int .i64 V8) (.int .i64 32)) λV10=>qAa TP X SS 107 [V10,(.int .i64 7),(.str ⟨#[100,111,109,97,105,110,115]⟩),(.int .i64 32)] (λV11 S12=>oK (qAE 4 (.ptr B3 0)) λV13=>oK (rd1 S12 V13) λV14=>wC TP X 114 [V14,(.fn (.func 115) [] [])] (λV15 S16=>(∀b,S12 b≠none->S12 b=none->S16 b=none)->
 oK (qAE 4 (.ptr B3 0)) λV17=>oK (rd1 (cutH [(S12,(add S12 S16))] (add S12 S16)) V17) λV18=>wC TP X 114 [V18,(.fn (.func 116) [] [])] (λV19 S20=>oK (qAE 4 (.ptr B3 0)) λV21=>oK (rd1 S20 V21) λV22=>oK (qAO V22) λV23=>∃I0:IvP,(∃m,I0 [(.int .i64 0)] S20 m)/\∀(f:Env) (s:Hq) (m0:Nat),I0 [f 28] s m0->
 qJ0 X (.ptr B3 0) V15 V19 V22 (.int .i64 V23) (f 28) I0 m0 K R s) (add S12 S16)) (frz S12)) R S5) s
def qNO:Nat->List Nat:=λk=>cond (Nat.beq k 8) [28] ([])
theorem qOz{c0:AV}{K R:KvP}{s:Hq}(h:qTT X0 c0 K R s):qAa TP X0 SS 91 [c0] K R s:=
 qCN qJE qNO Tryz.func91 (by kernel_rfl:Tryz.f91.body=some (qA5 Tryz.f91)) (by kernel_rfl) (by kernel_rfl) (Eq.mpr (by kernel_rfl) h)
def qIx(X:Td)(ports3 i4 t21 t64 t65 t66:AV)(I4:IvP)(m4:Nat)(I0:IvP)(m0:Nat)(K R:KvP)(s:Hq):Prop:=
 oK (qAB .lss t66 t65) λV52=>qAM V52
 (oK (qAI 1 t64 t66) λV53=>oK (rd1 s V53) λV54=>oK (qHm 32 1 ports3 V54) λV55=>oK (rd1 s V55) λV56=>oK (qAB .add V56 (.int .i64 1)) λV57=>oK (qHm 32 1 ports3 V54) λV58=>oK (wr1 s V58 V57) λS59=>oK (qHm 32 1 ports3 V54) λV60=>oK (rd1 S59 V60) λV61=>oK (qAB .gtr V61 (.int .i64 32)) λV62=>qAa TP X SS 107 [V62,(.int .i64 7),(.str ⟨#[115,101,103,109,101,110,116,115]⟩),i4] (λV63 S64=>oK (qAB .add t66 (.int .i64 1)) λV65=>∃m',m'<m4/\I4 [V65] S64 m') R S59)
 (oK (qAB .add t21 (.int .i64 1)) λV66=>∃m',m'<m0/\I0 [V66] s m')
def qEy(X:Td)(ports3 i4 t5 t21 t55 t59:AV)(I0:IvP)(m0:Nat)(K R:KvP)(s:Hq):Prop:=
 oK (qAY t55 (.bool true) t59) λV45=>qAa TP X SS 107 [V45,(.int .i64 10),(.str ⟨#[115,101,103,109,101,110,116,115]⟩),i4] (λV46 S47=>oK (qAE 0 t5) λV48=>oK (rd1 S47 V48) λV49=>oK (qAO V49) λV50=>∃I4:IvP,(∃m,I4 [(.int .i64 0)] S47 m)/\∀(f:Env) (s:Hq) (m4:Nat),I4 [f 66] s m4->
 qIx X ports3 i4 t21 V49 (.int .i64 V50) (f 66) I4 m4 I0 m0 K R s) R s
def qE4(X:Td)(ports3 i4 t5 t21 t42 t46:AV)(I0:IvP)(m0:Nat)(K R:KvP)(s:Hq):Prop:=
 oK (qAY t42 (.bool true) t46) λV37=>qAa TP X SS 107 [V37,(.int .i64 2),(.str ⟨#[115,101,103,109,101,110,116,115]⟩),i4] (λV38 S39=>oK (qAE 0 t5) λV40=>oK (rd1 S39 V40) λV41=>wC TP X 126 [V41] (λV42 S43=>oK (qBm .not V42) λV44=>qAM V44
 (qEy X ports3 i4 t5 t21 V44 .undef I0 m0 K R S43)
 (oK (qAE 1 t5) λV67=>oK (rd1 S43 V67) λV68=>wC TP X 126 [V68] (λV69 S70=>oK (qBm .not V69) λV71=>qEy X ports3 i4 t5 t21 V44 V71 I0 m0 K R S70) S43)) S39) R s
def qE3(X:Td)(t2 ports3 i4 t5 t21 t30 t34:AV)(I0:IvP)(m0:Nat)(K R:KvP)(s:Hq):Prop:=
 oK (qAY t30 (.bool true) t34) λV30=>qAa TP X SS 107 [V30,(.int .i64 3),(.str ⟨#[115,101,103,109,101,110,116,115]⟩),i4] (λV31 S32=>oK (qAE 0 t5) λV33=>oK (rd1 S32 V33) λV34=>wC TP X 123 [V34,(.fn (.func 124) [] [t2])] (λV35 S36=>qAM V35
 (qE4 X ports3 i4 t5 t21 V35 .undef I0 m0 K R S36)
 (oK (qAE 1 t5) λV72=>oK (rd1 S36 V72) λV73=>wC TP X 123 [V73,(.fn (.func 125) [] [t2])] (λV74 S75=>qE4 X ports3 i4 t5 t21 V35 V74 I0 m0 K R S75) S36)) S32) R s
def qI4(X:Td)(t2 ports3 t19 t20 t21:AV)(I0:IvP)(m0:Nat)(K R:KvP)(s:Hq):Prop:=
 oK (qAB .lss t21 t20) λV19=>qAM V19
 (oK (qAI 2 t19 t21) λV20=>oK (rdN s 2 V20) λV21=>newK 94 [.nilslc,.nilslc] (λB22 S23=>oK (qBF S23 2 (.ptr B22 0) (.agg V21)) λS24=>oK (qAE 0 (.ptr B22 0)) λV25=>oK (rd1 S24 V25) λV26=>oK (qAO V26) λV27=>oK (negB false (eqV 0 true (.int .i64 V27) (.int .i64 0))) λV29=>qAM V29
 (qE3 X t2 ports3 t21 (.ptr B22 0) t21 V29 .undef I0 m0 K R S24)
 (oK (qAE 1 (.ptr B22 0)) λV76=>oK (rd1 S24 V76) λV77=>oK (qAO V77) λV78=>oK (negB false (eqV 0 true (.int .i64 V78) (.int .i64 0))) λV80=>qE3 X t2 ports3 t21 (.ptr B22 0) t21 V29 V80 I0 m0 K R S24)) s)
 (K (.tup []) s)
def qRM(X:Td)(c0:AV)(K R:KvP)(s:Hq):Prop:=
 oK (qAd c0) λV0=>oK (qAE 0 V0) λV1=>oK (rdN s 19 V1) λV2=>newK 31 zR1 (λB3 S4=>oK (qBF S4 19 (.ptr B3 0) (.agg V2)) λS5=>oK (qAE 5 (.ptr B3 0)) λV6=>oK (rd1 S5 V6) λV7=>oK (qAO V7) λV8=>oK (qAB .gtr (.int .i64 V8) (.int .i64 64)) λV10=>qAa TP X SS 107 [V10,(.int .i64 7),(.str ⟨#[115,101,103,109,101,110,116,115]⟩),(.int .i64 64)] (λV11 S12=>newK 198 [(.int .i64 0),(.int .i64 0),(.int .i64 0),(.int .i64 0),(.int .i64 0),(.int .i64 0),(.int .i64 0),(.int .i64 0),(.int .i64 0),(.int .i64 0),(.int .i64 0),(.int .i64 0),(.int .i64 0),(.int .i64 0),(.int .i64 0),(.int .i64 0),(.int .i64 0),(.int .i64 0),(.int .i64 0),(.int .i64 0),(.int .i64 0),(.int .i64 0),(.int .i64 0),(.int .i64 0),(.int .i64 0),(.int .i64 0),(.int .i64 0),(.int .i64 0),(.int .i64 0),(.int .i64 0),(.int .i64 0),(.int .i64 0)] (λB13 S14=>oK (qAE 5 (.ptr B3 0)) λV15=>oK (rd1 S14 V15) λV16=>oK (qAO V16) λV17=>∃I0:IvP,(∃m,I0 [(.int .i64 0)] S14 m)/\∀(f:Env) (s:Hq) (m0:Nat),I0 [f 21] s m0->
 qI4 X (.ptr B3 0) (.ptr B13 0) V16 (.int .i64 V17) (f 21) I0 m0 K R s) S12) R S5) s
def qLl:Nat->List Nat:=λk=>cond (Nat.beq k 8) [21] (cond (Nat.beq k 22) [66] ([]))
theorem qNU{c0:AV}{K R:KvP}{s:Hq}(h:qRM X0 c0 K R s):qAa TP X0 SS 92 [c0] K R s:=
 qCN qJE qLl Tryz.func92 (by kernel_rfl:Tryz.f92.body=some (qA5 Tryz.f92)) (by kernel_rfl) (by kernel_rfl) (Eq.mpr (by kernel_rfl) h)
def qHZ(X:Td)(i5 t28 t115 t119 t123:AV)(I0:IvP)(m0:Nat)(K R:KvP)(s:Hq):Prop:=
 oK (qAY t119 t123 (.bool false)) λV78=>oK (qAY t115 (.bool true) V78) λV79=>qAa TP X SS 107 [V79,(.int .i64 11),(.str ⟨#[104,111,115,116,115]⟩),i5] (λV80 S81=>oK (qAB .add t28 (.int .i64 1)) λV82=>∃m',m'<m0/\I0 [V82] S81 m') R s
def qHA(X:Td)(macs3 x4 i5 h6 t28 t97 t107:AV)(I0:IvP)(m0:Nat)(K R:KvP)(s:Hq):Prop:=
 oK (qAY t97 (.bool true) t107) λV66=>qAa TP X SS 107 [V66,(.int .i64 3),(.str ⟨#[104,111,115,116,115]⟩),i5] (λV67 S68=>oK (qAI 1 macs3 i5) λV69=>oK (rd1 S68 V69) λV70=>qAM V70
 (oK (qAY V70 (.bool true) .undef) λV71=>qAa TP X SS 107 [V71,(.int .i64 11),(.str ⟨#[104,111,115,116,115]⟩),i5] (λV72 S73=>oK (qAB .add t28 (.int .i64 1)) λV74=>∃m',m'<m0/\I0 [V74] S73 m') R S68)
 (oK (qAE 1 h6) λV75=>oK (rd1 S68 V75) λV76=>oK (negB true (eqV 0 true V76 (.int .u32 0))) λV77=>qAM V77
 (oK (qAI 1 x4 i5) λV83=>oK (rd1 S68 V83) λV84=>qHZ X i5 t28 V70 V77 V84 I0 m0 K R S68)
 (qHZ X i5 t28 V70 V77 .undef I0 m0 K R S68))) R s
def qHE(X:Td)(t2 macs3 x4 i5 h6 t28 t94 t95:AV)(I0:IvP)(m0:Nat)(K R:KvP)(s:Hq):Prop:=
 oK (qAY t94 (.bool true) t95) λV65=>qAM V65
 (qHA X macs3 x4 i5 h6 t28 V65 .undef I0 m0 K R s)
 (oK (qAE 4 t2) λV85=>oK (rd1 s V85) λV86=>oK (qAE 2 h6) λV87=>oK (rd1 s V87) λV88=>oK (qAI 6 V86 V88) λV89=>oK (rdN s 6 V89) λV90=>oK (qAE 1 h6) λV91=>oK (rd1 s V91) λV92=>wC TP X 132 [(.agg V90),V92] (λV93 S94=>oK (qBm .not V93) λV95=>qHA X macs3 x4 i5 h6 t28 V65 V95 I0 m0 K R S94) s)
def qHH(X:Td)(t2 macs3 x4 i5 h6 t28 t69 t80:AV)(I0:IvP)(m0:Nat)(K R:KvP)(s:Hq):Prop:=
 oK (qAY t69 t80 (.bool false)) λV53=>qAa TP X SS 107 [V53,(.int .i64 8),(.str ⟨#[104,111,115,116,115]⟩),i5] (λV54 S55=>oK (qAE 0 h6) λV56=>oK (rd1 S55 V56) λV57=>wC TP X 131 [V57] (λV58 S59=>oK (qAn V58 0) λV60=>oK (qAn V58 1) λV61=>oK (qAE 0 h6) λV62=>oK (rd1 S59 V62) λV63=>oK (negB false (eqV 0 true V63 (.int .u64 1577058561))) λV64=>qAM V64
 (qHE X t2 macs3 x4 i5 h6 t28 V64 .undef I0 m0 K R S59)
 (qHE X t2 macs3 x4 i5 h6 t28 V64 V61 I0 m0 K R S59)) S55) R s
def qHT(X:Td)(t2 macs3 x4 i5 h6 t28 t55 t62:AV)(I0:IvP)(m0:Nat)(K R:KvP)(s:Hq):Prop:=
 oK (qAY t55 (.bool true) t62) λV47=>qAa TP X SS 107 [V47,(.int .i64 2),(.str ⟨#[104,111,115,116,115]⟩),i5] (λV48 S49=>oK (qAE 3 h6) λV50=>oK (rd1 S49 V50) λV51=>oK (negB true (eqV 0 true V51 (.int .i64 (-1)))) λV52=>qAM V52
 (oK (qAE 5 t2) λV96=>oK (rd1 S49 V96) λV97=>oK (qAE 3 h6) λV98=>oK (rd1 S49 V98) λV99=>oK (qAI 2 V97 V99) λV100=>oK (qAE 1 V100) λV101=>oK (rd1 S49 V101) λV102=>oK (qAE 2 h6) λV103=>oK (rd1 S49 V103) λV104=>wC TP X 32 [V102,V104] (λV105 S106=>oK (qBm .not V105) λV107=>qHH X t2 macs3 x4 i5 h6 t28 V52 V107 I0 m0 K R S106) S49)
 (qHH X t2 macs3 x4 i5 h6 t28 V52 .undef I0 m0 K R S49)) R s
def qHP(X:Td)(t2 macs3 x4 i5 h6 t28 t41 t44:AV)(I0:IvP)(m0:Nat)(K R:KvP)(s:Hq):Prop:=
 oK (qAY t41 (.bool true) t44) λV35=>qAa TP X SS 107 [V35,(.int .i64 2),(.str ⟨#[104,111,115,116,115]⟩),i5] (λV36 S37=>oK (qAE 2 h6) λV38=>oK (rd1 S37 V38) λV39=>oK (qAE 4 t2) λV40=>oK (rd1 S37 V40) λV41=>oK (qAO V41) λV42=>wC TP X 76 [V39,(.int .i64 V42)] (λV44 S45=>oK (qBm .not V44) λV46=>qAM V46
 (qHT X t2 macs3 x4 i5 h6 t28 V46 .undef I0 m0 K R S45)
 (oK (qAE 3 h6) λV108=>oK (rd1 S45 V108) λV109=>oK (qAE 5 t2) λV110=>oK (rd1 S45 V110) λV111=>oK (qAO V111) λV112=>oK (qAB .sub (.int .i64 V112) (.int .i64 1)) λV114=>wC TP X 108 [V109,(.int .i64 (-1)),V114] (λV115 S116=>qHT X t2 macs3 x4 i5 h6 t28 V46 V115 I0 m0 K R S116) S45)) S37) R s
def qHV(X:Td)(t2 macs3 x4 i5 h6 t28 t36 t39:AV)(I0:IvP)(m0:Nat)(K R:KvP)(s:Hq):Prop:=
 oK (qAY t36 (.bool true) t39) λV34=>qAM V34
 (qHP X t2 macs3 x4 i5 h6 t28 V34 .undef I0 m0 K R s)
 (oK (qAE 0 h6) λV117=>oK (rd1 s V117) λV118=>wC TP X 130 [V118] (λV119 S120=>qHP X t2 macs3 x4 i5 h6 t28 V34 V119 I0 m0 K R S120) s)
def qLp(X:Td)(t2 macs3 x4 t26 t27 t28:AV)(I0:IvP)(m0:Nat)(K R:KvP)(s:Hq):Prop:=
 oK (qAB .lss t28 t27) λV25=>qAM V25
 (oK (qAI 4 t26 t28) λV26=>oK (rdN s 4 V26) λV27=>newK 140 [(.int .u64 0),(.int .u32 0),(.int .i64 0),(.int .i64 0)] (λB28 S29=>oK (qBF S29 4 (.ptr B28 0) (.agg V27)) λS30=>oK (qAE 0 (.ptr B28 0)) λV31=>oK (rd1 S30 V31) λV32=>oK (negB false (eqV 0 true V32 (.int .u64 0))) λV33=>qAM V33
 (qHV X t2 macs3 x4 t28 (.ptr B28 0) t28 V33 .undef I0 m0 K R S30)
 (oK (qAE 0 (.ptr B28 0)) λV121=>oK (rd1 S30 V121) λV122=>oK (qAB .gtr V122 (.int .u64 281474976710655)) λV123=>qHV X t2 macs3 x4 t28 (.ptr B28 0) t28 V33 V123 I0 m0 K R S30)) s)
 (K (.tup []) s)
def qXU(X:Td)(c0:AV)(K R:KvP)(s:Hq):Prop:=
 oK (qAd c0) λV0=>oK (qAE 0 V0) λV1=>oK (rdN s 19 V1) λV2=>newK 31 zR1 (λB3 S4=>oK (qBF S4 19 (.ptr B3 0) (.agg V2)) λS5=>oK (qAE 6 (.ptr B3 0)) λV6=>oK (rd1 S5 V6) λV7=>oK (qAO V7) λV8=>oK (qAB .gtr (.int .i64 V8) (.int .i64 128)) λV10=>qAa TP X SS 107 [V10,(.int .i64 7),(.str ⟨#[104,111,115,116,115]⟩),(.int .i64 128)] (λV11 S12=>oK (qAE 6 (.ptr B3 0)) λV13=>oK (rd1 S12 V13) λV14=>wC TP X 127 [V14,(.fn (.func 128) [] [])] (λV15 S16=>oK (qAE 6 (.ptr B3 0)) λV17=>oK (rd1 S16 V17) λV18=>wC TP X 127 [V18,(.fn (.func 129) [] [])] (λV19 S20=>oK (qAE 6 (.ptr B3 0)) λV21=>oK (rd1 S20 V21) λV22=>oK (qAO V22) λV23=>∃I0:IvP,(∃m,I0 [(.int .i64 0)] S20 m)/\∀(f:Env) (s:Hq) (m0:Nat),I0 [f 28] s m0->
 qLp X (.ptr B3 0) V15 V19 V22 (.int .i64 V23) (f 28) I0 m0 K R s) S16) S12) R S5) s
def qQS:Nat->List Nat:=λk=>cond (Nat.beq k 10) [28] ([])
theorem qR6{c0:AV}{K R:KvP}{s:Hq}(h:qXU X0 c0 K R s):qAa TP X0 SS 93 [c0] K R s:=
 qCN qJE qQS Tryz.func93 (by kernel_rfl:Tryz.f93.body=some (qA5 Tryz.f93)) (by kernel_rfl) (by kernel_rfl) (Eq.mpr (by kernel_rfl) h)
def qHS(X:Td)(x4 i5 t24 t52 t56:AV)(I0:IvP)(m0:Nat)(K R:KvP)(s:Hq):Prop:=
 oK (qAY t52 (.bool true) t56) λV44=>qAa TP X SS 107 [V44,(.int .i64 3),(.str ⟨#[108,101,97,107,115]⟩),i5] (λV45 S46=>oK (qAI 1 x4 i5) λV47=>oK (rd1 S46 V47) λV48=>qAa TP X SS 107 [V48,(.int .i64 11),(.str ⟨#[108,101,97,107,115]⟩),i5] (λV49 S50=>oK (qAB .add t24 (.int .i64 1)) λV51=>∃m',m'<m0/\I0 [V51] S50 m') R S46) R s
def qHa(X:Td)(x4 i5 l6 t24 t36 t43:AV)(I0:IvP)(m0:Nat)(K R:KvP)(s:Hq):Prop:=
 oK (qAY t36 (.bool true) t43) λV36=>qAa TP X SS 107 [V36,(.int .i64 2),(.str ⟨#[108,101,97,107,115]⟩),i5] (λV37 S38=>oK (qAE 0 l6) λV39=>oK (rd1 S38 V39) λV40=>oK (qAE 1 l6) λV41=>oK (rd1 S38 V41) λV42=>oK (negB false (eqV 0 false V40 V42)) λV43=>qAM V43
 (qHS X x4 i5 t24 V43 .undef I0 m0 K R S38)
 (oK (qAE 2 l6) λV52=>oK (rdN S38 2 V52) λV53=>wC TP X 118 [(.agg V53)] (λV54 S55=>oK (qBm .not V54) λV56=>qHS X x4 i5 t24 V43 V56 I0 m0 K R S55) S38)) R s
def qMU(X:Td)(t2 x4 t22 t23 t24:AV)(I0:IvP)(m0:Nat)(K R:KvP)(s:Hq):Prop:=
 oK (qAB .lss t24 t23) λV21=>qAM V21
 (oK (qAI 4 t22 t24) λV22=>oK (rdN s 4 V22) λV23=>newK 144 [(.int .i64 0),(.int .i64 0),(.int .u32 0),(.int .i64 0)] (λB24 S25=>oK (qBF S25 4 (.ptr B24 0) (.agg V23)) λS26=>oK (qAE 0 (.ptr B24 0)) λV27=>oK (rd1 S26 V27) λV28=>oK (qAE 3 t2) λV29=>oK (rd1 S26 V29) λV30=>oK (qAO V30) λV31=>wC TP X 76 [V28,(.int .i64 V31)] (λV33 S34=>oK (qBm .not V33) λV35=>qAM V35
 (qHa X x4 t24 (.ptr B24 0) t24 V35 .undef I0 m0 K R S34)
 (oK (qAE 1 (.ptr B24 0)) λV57=>oK (rd1 S34 V57) λV58=>oK (qAE 3 t2) λV59=>oK (rd1 S34 V59) λV60=>oK (qAO V60) λV61=>wC TP X 76 [V58,(.int .i64 V61)] (λV63 S64=>oK (qBm .not V63) λV65=>qHa X x4 t24 (.ptr B24 0) t24 V35 V65 I0 m0 K R S64) S34)) S26) s)
 (K (.tup []) s)
def qX2(X:Td)(c0:AV)(K R:KvP)(s:Hq):Prop:=
 oK (qAd c0) λV0=>oK (qAE 0 V0) λV1=>oK (rdN s 19 V1) λV2=>newK 31 zR1 (λB3 S4=>oK (qBF S4 19 (.ptr B3 0) (.agg V2)) λS5=>oK (qAE 7 (.ptr B3 0)) λV6=>oK (rd1 S5 V6) λV7=>oK (qAO V7) λV8=>oK (qAB .gtr (.int .i64 V8) (.int .i64 256)) λV10=>qAa TP X SS 107 [V10,(.int .i64 7),(.str ⟨#[108,101,97,107,115]⟩),(.int .i64 256)] (λV11 S12=>oK (qAE 7 (.ptr B3 0)) λV13=>oK (rd1 S12 V13) λV14=>wC TP X 133 [V14,(.fn (.func 134) [] [])] (λV15 S16=>oK (qAE 7 (.ptr B3 0)) λV17=>oK (rd1 S16 V17) λV18=>oK (qAO V18) λV19=>∃I0:IvP,(∃m,I0 [(.int .i64 0)] S16 m)/\∀(f:Env) (s:Hq) (m0:Nat),I0 [f 24] s m0->
 qMU X (.ptr B3 0) V15 V18 (.int .i64 V19) (f 24) I0 m0 K R s) S12) R S5) s
def qP5:Nat->List Nat:=λk=>cond (Nat.beq k 10) [24] ([])
theorem qRE{c0:AV}{K R:KvP}{s:Hq}(h:qX2 X0 c0 K R s):qAa TP X0 SS 94 [c0] K R s:=
 qCN qJE qP5 Tryz.func94 (by kernel_rfl:Tryz.f94.body=some (qA5 Tryz.f94)) (by kernel_rfl) (by kernel_rfl) (Eq.mpr (by kernel_rfl) h)
def qCq(X:Td)(t0 t1 t2 v:AV)(K:KvP)(s:Hq):Prop:=
 oK (negB false (eqV 4 true v .nilIface)) λV0=>qAM V0
 (K (.tup []) s)
 (oK (qYg 147 (some (.agg [(.int .i64 0),(.str ⟨#[]⟩),(.int .i64 0)])) true v) λV1=>oK (qAn V1 1) λV2=>oK (qAn V1 0) λV3=>qAM V2
 (newK 147 [(.int .i64 0),(.str ⟨#[]⟩),(.int .i64 0)] (λB4 S5=>oK (qBF S5 3 (.ptr B4 0) V3) λS6=>oK (qAE 0 (.ptr B4 0)) λV7=>oK (rd1 S6 V7) λV8=>oK (qAE 1 (.ptr B4 0)) λV9=>oK (rd1 S6 V9) λV10=>oK (qAE 2 (.ptr B4 0)) λV11=>oK (rd1 S6 V11) λV12=>((cutH [((hdel S6 (qCA V9)),S6),((hdel S6 (qCA V11)),S6)] S6) (qCA t0)≠none)/\
 oK (wr1 S6 t0 V8) λS13=>((cutH [((hdel S6 (qCA V11)),S6)] S13) (qCA t1)≠none)/\
 oK (wr1 S13 t1 V10) λS14=>oK (wr1 S14 t2 V12) λS15=>K (.tup []) S15) s)
 (oK (wr1 s t0 (.int .i64 3)) λS16=>oK (wr1 S16 t1 (.str ⟨#[102,97,98,114,105,99]⟩)) λS17=>oK (wr1 S17 t2 (.int .i64 0)) λS18=>K (.tup []) S18))
theorem qFP(X:Td)(t0 t1 t2 v:AV)(K:KvP)(s:Hq):wpC TP X nA0 Tryz.f61.ntmps none (qPw (qA5 Tryz.f61)) (qLx (qA5 Tryz.f61) (qIj [t0,t1,t2]) v) (λe env s=>retK e (resK TP Tryz.f61.results.toList env (λvs=>K (oneV vs) s) s)) s=qCq X t0 t1 t2 v K s:=by kernel_rfl
theorem qIk{t0 t1 t2 v:AV}{K:KvP}{s:Hq}(h:qCq X0 t0 t1 t2 v K s):qVA TP X0 61 [t0,t1,t2] v (λs=>K (.tup []) s) s:=
 qTD qJE nA0 Tryz.func61 (by kernel_rfl:Tryz.f61.body=some (qA5 Tryz.f61)) (by kernel_rfl) (by kernel_rfl) (by kernel_rfl) ((qFP X0 t0 t1 t2 v K s).mpr h)
def qF9(X:Td)(err2 part3 x4 c5 t8 t12 t13 t14:AV)(I0:IvP)(m0:Nat)(K:KvP)(s:Hq):Prop:=
 oK (qAB .lss t14 t13) λV16=>qAM V16
 (oK (qAI 1 t12 t14) λV17=>oK (rd1 s V17) λV18=>qS4 TP X SS V18 [c5] (λV19 S20=>oK (qAB .add t14 (.int .i64 1)) λV21=>∃m',m'<m0/\I0 [V21] S20 m') (λV22 S23=>recK TP X t8 V22 (λS24=>oK (rd1 S24 err2) λerr2_25=>oK (rd1 S24 part3) λpart3_26=>oK (rd1 S24 x4) λindex4_27=>K (.tup [err2_25,part3_26,index4_27]) S24) S23) s)
 (oK (wr1 s err2 (.int .i64 0)) λS28=>oK (wr1 S28 part3 (.str ⟨#[]⟩)) λS29=>oK (wr1 S29 x4 (.int .i64 0)) λS30=>runK TP X t8 (λS31=>oK (rd1 S31 err2) λerr2_32=>oK (rd1 S31 part3) λpart3_33=>oK (rd1 S31 x4) λindex4_34=>K (.tup [err2_32,part3_33,index4_34]) S31) S30)
def qMQ(X:Td)(t0:AV)(K:KvP)(s:Hq):Prop:=
 boxK 31 t0 (λB0 S1=>newK 95 [(.int .i64 0)] (λB2 S3=>newK 9 [(.str ⟨#[]⟩)] (λB4 S5=>newK 3 [(.int .i64 0)] (λB6 S7=>qUy TP (.fn (.func 61) [] [(.ptr B2 0),(.ptr B4 0),(.ptr B6 0)])/\
 oK (rdN S7 19 B0) λV8=>oK (qBV zR1 [(0,19,(.agg V8))]) λC9=>boxK 150 (.agg C9) (λB10 S11=>wC TP X 62 [] (λV12 S13=>oK (qAO V12) λV14=>∃I0:IvP,(∃m,I0 [(.int .i64 0)] S13 m)/\∀(f:Env) (s:Hq) (m0:Nat),I0 [f 14] s m0->
 qF9 X (.ptr B2 0) (.ptr B4 0) (.ptr B6 0) B10 (.fn (.func 61) [] [(.ptr B2 0),(.ptr B4 0),(.ptr B6 0)]) V12 (.int .i64 V14) (f 14) I0 m0 K s) S11) S7) S5) S3) S1) s
def qI6:Nat->List Nat:=λk=>cond (Nat.beq k 8) [14] ([])
theorem qJW{t0:AV}{K R:KvP}{s:Hq}(h:qMQ X0 t0 K s):qAa TP X0 SS 31 [t0] K R s:=
 qO1 qJE qI6 Tryz.func31 (by kernel_rfl:Tryz.f31.body=some (qA5 Tryz.f31)) (by kernel_rfl) (Eq.mpr (by kernel_rfl) h)
end Go.AM
namespace Go.AM
open Go Go.Proofs
set_option maxRecDepth 100000
noncomputable abbrev XG(u0:Bool):Td:=cond u0 qF6 XX
theorem qYF{u0:Bool}:FrX (XG u0):=by cases u0;exact qCM;exact qB2
theorem wO9{X:Td}(hX:FrX X)(A:Nat->List Nat){n:FuncId}(hn:X n=none){f:Func}(h1:TP.funcs[n]?=some f){args:List AV}{K:KvP}{s:Hq}{Q:Prop}(h:Q)(hb:f.body=some (qA5 f):=by kernel_rfl)(hl:Nat.ble args.length f.ntmps=true:=by kernel_rfl)(he:wpC TP X A f.ntmps none (qA5 f) (qIj args) (λe env s=>retK e (resK TP f.results.toList env (λvs=>K (oneV vs) s) s)) s=Q:=by kernel_rfl):wC TP X n args K s:=
 qLu hX A hn h1 hb hl (Eq.mpr he h)
def qDI(X:Td)(u0:Bool)(t12 t15:AV)(K:KvP)(s:Hq):Prop:=
 oK (qAY t12 (.bool true) t15) λV3=>K V3 s
def qDL(X:Td)(u0:Bool)(x0 y1 t7 t10:AV)(K:KvP)(s:Hq):Prop:=
 oK (qAY t7 t10 (.bool false)) λV2=>qAM V2
 (qDI X u0 V2 .undef K s)
 (oK (qAB .lss x0 y1) λV4=>qDI X u0 V2 V4 K s)
def qJQ(X:Td)(u0:Bool)(x0 y1:AV)(K:KvP)(s:Hq):Prop:=
 wC TP X (cond u0 186 182) [x0] (λV0 S1=>qAM V0
 (wC TP X (cond u0 186 182) [y1] (λV5 S6=>oK (qBm .not V5) λV7=>qDL X u0 x0 y1 V0 V7 K S6) S1)
 (qDL X u0 x0 y1 V0 .undef K S1)) s
theorem qHr{u0:Bool}{x0 y1:AV}{K:KvP}{s:Hq}(h:qJQ (XG u0) u0 x0 y1 K s):wC TP (XG u0) (cond u0 152 141) [x0,y1] K s:=by
 cases u0
 ·exact wO9 qCM nA0 rfl Tryz.func141 h
 ·exact wO9 qB2 nA0 rfl Tryz.func152 h
def qFO(X:Td)(u0:Bool)(x0:AV)(K:KvP)(s:Hq):Prop:=
 oK (negB true (eqV 0 false x0 x0)) λV0=>K V0 s
theorem qHJ{u0:Bool}{x0:AV}{K:KvP}{s:Hq}(h:qFO (XG u0) u0 x0 K s):wC TP (XG u0) (cond u0 186 182) [x0] K s:=by
 cases u0
 ·exact wO9 qCM nA0 rfl Tryz.func182 h
 ·exact wO9 qB2 nA0 rfl Tryz.func186 h
def qCl(X:Td)(u0:Bool)(x0:AV)(K:KvP)(s:Hq):Prop:=
 oK (qAO x0) λV0=>oK (qCJ .u64 (.int .i64 V0)) λV2=>wC TP X 96 [V2] (λV3 S4=>wC TP X (cond u0 98 95) [x0,(.int .i64 0),(.int .i64 V0),V3] (λV5 S6=>K (.tup []) S6) S4) s
theorem qDY{u0:Bool}{x0:AV}{K:KvP}{s:Hq}(h:qCl (XG u0) u0 x0 K s):wC TP (XG u0) (cond u0 69 66) [x0] K s:=by
 cases u0
 ·exact wO9 qCM nA0 rfl Tryz.func66 h
 ·exact wO9 qB2 nA0 rfl Tryz.func69 h
def qA3(X:Td)(u0:Bool)(data0 a1 x9 x10:AV)(I0:IvP)(m0:Nat)(K:KvP)(s:Hq):Prop:=
 oK (qAB .add a1 x10) λV23=>oK (qAB .add a1 x10) λV24=>oK (qAI 1 data0 V24) λV25=>oK (rd1 s V25) λV26=>oK (qAI 1 data0 x9) λV27=>oK (rd1 s V27) λV28=>oK (qAI 1 data0 x9) λV29=>oK (wr1 s V29 V26) λS30=>oK (qAI 1 data0 V23) λV31=>oK (wr1 S30 V31 V28) λS32=>oK (qAB .add x9 (.int .i64 1)) λV33=>∃m',m'<m0/\I0 [V33] S32 m'
def qCG(X:Td)(u0:Bool)(data0 a1 length6 x7 x8 x9:AV)(I0:IvP)(m0:Nat)(K:KvP)(s:Hq):Prop:=
 oK (qAB .quo length6 (.int .i64 4)) λV12=>oK (qAB .mul V12 (.int .i64 2)) λV13=>oK (qAB .add a1 V13) λV14=>oK (qAB .add V14 (.int .i64 1)) λV15=>oK (qAB .leq x9 V15) λV16=>qAM V16
 (wC TP X 179 [x7] (λV17 S18=>oK (qAB .sub x8 (.int .u64 1)) λV19=>oK (qAB .and V17 V19) λV20=>oK (qCJ .i64 V20) λV21=>oK (qAB .geq V21 length6) λV22=>qAM V22
 (oK (qAB .sub V21 length6) λV34=>qA3 X u0 data0 a1 x9 V34 I0 m0 K S18)
 (qA3 X u0 data0 a1 x9 V21 I0 m0 K S18)) s)
 (K (.tup []) s)
def qCp(X:Td)(u0:Bool)(data0 a1 b2:AV)(K:KvP)(s:Hq):Prop:=
 oK (qAB .sub b2 a1) λV0=>oK (qAB .geq V0 (.int .i64 8)) λV1=>qAM V1
 (oK (qCJ .u64 V0) λV2=>newK 242 [(.int .u64 0)] (λB3 S4=>oK (wr1 S4 (.ptr B3 0) V2) λS5=>wC TP X 178 [V0] (λV6 S7=>oK (qAB .quo V0 (.int .i64 4)) λV8=>oK (qAB .mul V8 (.int .i64 2)) λV9=>oK (qAB .add a1 V9) λV10=>oK (qAB .sub V10 (.int .i64 1)) λV11=>∃I0:IvP,(∃m,I0 [V11] S7 m)/\∀(f:Env) (s:Hq) (m0:Nat),I0 [f 9] s m0->
 qCG X u0 data0 a1 V0 (.ptr B3 0) V6 (f 9) I0 m0 K s) S5) s)
 (K (.tup []) s)
def qB7:Nat->List Nat:=λk=>cond (Nat.beq k 10) [9] ([])
theorem qEC{u0:Bool}{data0 a1 b2:AV}{K:KvP}{s:Hq}(h:qCp (XG u0) u0 data0 a1 b2 K s):wC TP (XG u0) (cond u0 148 137) [data0,a1,b2] K s:=by
 cases u0
 ·exact wO9 qCM qB7 rfl Tryz.func137 h
 ·exact wO9 qB2 qB7 rfl Tryz.func148 h
def qBe(X:Td)(u0:Bool)(x9 j11:AV)(K:KvP)(s:Hq):Prop:=
 oK (rd1 s x9) λV13=>oK (negB false (eqV 0 true V13 (.int .i64 0))) λV14=>qAM V14
 (K (.tup [j11,(.int .i64 1)]) s)
 (oK (negB false (eqV 0 true V13 (.int .i64 12))) λV15=>qAM V15
 (K (.tup [j11,(.int .i64 2)]) s)
 (K (.tup [j11,(.int .i64 0)]) s))
def qBZ(X:Td)(u0:Bool)(data0 x9 i10 j11 k12:AV)(K:KvP)(s:Hq):Prop:=
 wC TP X (cond u0 185 181) [data0,i10,j11,k12,x9] (λV17 S18=>qBe X u0 x9 V17 K S18) s
def qDC(X:Td)(u0:Bool)(data0 a1 b2:AV)(K:KvP)(s:Hq):Prop:=
 oK (qAB .sub b2 a1) λV0=>newK 3 [(.int .i64 0)] (λB1 S2=>oK (qAB .quo V0 (.int .i64 4)) λV3=>oK (qAB .mul V3 (.int .i64 1)) λV4=>oK (qAB .add a1 V4) λV5=>oK (qAB .quo V0 (.int .i64 4)) λV6=>oK (qAB .mul V6 (.int .i64 2)) λV7=>oK (qAB .add a1 V7) λV8=>oK (qAB .quo V0 (.int .i64 4)) λV9=>oK (qAB .mul V9 (.int .i64 3)) λV10=>oK (qAB .add a1 V10) λV11=>oK (qAB .geq V0 (.int .i64 8)) λV12=>qAM V12
 (oK (qAB .geq V0 (.int .i64 50)) λV16=>qAM V16
 (wC TP X (cond u0 184 180) [data0,V5,(.ptr B1 0)] (λV19 S20=>wC TP X (cond u0 184 180) [data0,V8,(.ptr B1 0)] (λV21 S22=>wC TP X (cond u0 184 180) [data0,V11,(.ptr B1 0)] (λV23 S24=>qBZ X u0 data0 (.ptr B1 0) V19 V21 V23 K S24) S22) S20) S2)
 (qBZ X u0 data0 (.ptr B1 0) V5 V8 V11 K S2))
 (qBe X u0 (.ptr B1 0) V8 K S2)) s
theorem qEX{u0:Bool}{data0 a1 b2:AV}{K:KvP}{s:Hq}(h:qDC (XG u0) u0 data0 a1 b2 K s):wC TP (XG u0) (cond u0 149 138) [data0,a1,b2] K s:=by
 cases u0
 ·exact wO9 qCM nA0 rfl Tryz.func138 h
 ·exact wO9 qB2 nA0 rfl Tryz.func149 h
def qC6(X:Td)(u0:Bool)(data0 first6 x7 i10:AV)(I1:IvP)(m1:Nat)(K:KvP)(s:Hq):Prop:=
 oK (qAB .geq i10 (.int .i64 0)) λV8=>qAM V8
 (oK (qAB .add first6 i10) λV9=>oK (qAB .add first6 i10) λV10=>oK (qAI 1 data0 V10) λV11=>oK (rd1 s V11) λV12=>oK (qAI 1 data0 first6) λV13=>oK (rd1 s V13) λV14=>oK (qAI 1 data0 first6) λV15=>oK (wr1 s V15 V12) λS16=>oK (qAI 1 data0 V9) λV17=>oK (wr1 S16 V17 V14) λS18=>wC TP X (cond u0 183 177) [data0,x7,i10,first6] (λV19 S20=>oK (qAB .sub i10 (.int .i64 1)) λV21=>∃m',m'<m1/\I1 [V21] S20 m') S18)
 (K (.tup []) s)
def qDA(X:Td)(u0:Bool)(data0 first6 x7 x8 i9:AV)(I0:IvP)(m0:Nat)(K:KvP)(s:Hq):Prop:=
 oK (qAB .geq i9 (.int .i64 0)) λV3=>qAM V3
 (wC TP X (cond u0 183 177) [data0,i9,x8,first6] (λV4 S5=>oK (qAB .sub i9 (.int .i64 1)) λV6=>∃m',m'<m0/\I0 [V6] S5 m') s)
 (oK (qAB .sub x8 (.int .i64 1)) λV7=>∃I1:IvP,(∃m,I1 [V7] s m)/\∀(f:Env) (s:Hq) (m1:Nat),I1 [f 10] s m1->
 qC6 X u0 data0 first6 x7 (f 10) I1 m1 K s)
def qDk(X:Td)(u0:Bool)(data0 a1 b2:AV)(K:KvP)(s:Hq):Prop:=
 oK (qAB .sub b2 a1) λV0=>oK (qAB .sub V0 (.int .i64 1)) λV1=>oK (qAB .quo V1 (.int .i64 2)) λV2=>∃I0:IvP,(∃m,I0 [V2] s m)/\∀(f:Env) (s:Hq) (m0:Nat),I0 [f 9] s m0->
 qDA X u0 data0 a1 (.int .i64 0) V0 (f 9) I0 m0 K s
def qCy:Nat->List Nat:=λk=>cond (Nat.beq k 8) [9] (cond (Nat.beq k 16) [10] ([]))
theorem qFJ{u0:Bool}{data0 a1 b2:AV}{K:KvP}{s:Hq}(h:qDk (XG u0) u0 data0 a1 b2 K s):wC TP (XG u0) (cond u0 147 136) [data0,a1,b2] K s:=by
 cases u0
 ·exact wO9 qCM qCy rfl Tryz.func136 h
 ·exact wO9 qB2 qCy rfl Tryz.func147 h
def qA4(X:Td)(u0:Bool)(data0 i6 j7 t19 t29:AV)(I1:IvP)(m1:Nat)(I0:IvP)(m0:Nat)(K:KvP)(s:Hq):Prop:=
 oK (qAY t19 t29 (.bool false)) λV3=>qAM V3
 (oK (qAB .sub j7 (.int .i64 1)) λV4=>oK (qAB .sub j7 (.int .i64 1)) λV5=>oK (qAI 1 data0 V5) λV6=>oK (rd1 s V6) λV7=>oK (qAI 1 data0 j7) λV8=>oK (rd1 s V8) λV9=>oK (qAI 1 data0 j7) λV10=>oK (wr1 s V10 V7) λS11=>oK (qAI 1 data0 V4) λV12=>oK (wr1 S11 V12 V9) λS13=>oK (qAB .sub j7 (.int .i64 1)) λV14=>∃m',m'<m1/\I1 [V14] S13 m')
 (oK (qAB .add i6 (.int .i64 1)) λV15=>∃m',m'<m0/\I0 [V15] s m')
def qCD(X:Td)(u0:Bool)(data0 a1 i6 j7:AV)(I1:IvP)(m1:Nat)(I0:IvP)(m0:Nat)(K:KvP)(s:Hq):Prop:=
 oK (qAB .gtr j7 a1) λV2=>qAM V2
 (oK (qAI 1 data0 j7) λV16=>oK (rd1 s V16) λV17=>oK (qAB .sub j7 (.int .i64 1)) λV18=>oK (qAI 1 data0 V18) λV19=>oK (rd1 s V19) λV20=>wC TP X (cond u0 152 141) [V17,V20] (λV21 S22=>qA4 X u0 data0 i6 j7 V2 V21 I1 m1 I0 m0 K S22) s)
 (qA4 X u0 data0 i6 j7 V2 .undef I1 m1 I0 m0 K s)
def qCE(X:Td)(u0:Bool)(data0 a1 b2 i6:AV)(I0:IvP)(m0:Nat)(K:KvP)(s:Hq):Prop:=
 oK (qAB .lss i6 b2) λV1=>qAM V1
 (∃I1:IvP,(∃m,I1 [i6] s m)/\∀(f:Env) (s:Hq) (m1:Nat),I1 [f 7] s m1->
 qCD X u0 data0 a1 i6 (f 7) I1 m1 I0 m0 K s)
 (K (.tup []) s)
def qCk(X:Td)(u0:Bool)(data0 a1 b2:AV)(K:KvP)(s:Hq):Prop:=
 oK (qAB .add a1 (.int .i64 1)) λV0=>∃I0:IvP,(∃m,I0 [V0] s m)/\∀(f:Env) (s:Hq) (m0:Nat),I0 [f 6] s m0->
 qCE X u0 data0 a1 b2 (f 6) I0 m0 K s
def qCC:Nat->List Nat:=λk=>cond (Nat.beq k 2) [6] (cond (Nat.beq k 8) [7] ([]))
theorem qCF{u0:Bool}{data0 a1 b2:AV}{K:KvP}{s:Hq}(h:qCk (XG u0) u0 data0 a1 b2 K s):wC TP (XG u0) (cond u0 146 135) [data0,a1,b2] K s:=by
 cases u0
 ·exact wO9 qCM qCC rfl Tryz.func135 h
 ·exact wO9 qB2 qCC rfl Tryz.func146 h
def qCf(X:Td)(u0:Bool)(data0 a1 swaps2:AV)(K:KvP)(s:Hq):Prop:=
 oK (qAB .sub a1 (.int .i64 1)) λV0=>oK (qAB .add a1 (.int .i64 1)) λV1=>wC TP X (cond u0 185 181) [data0,V0,a1,V1,swaps2] (λV2 S3=>K V2 S3) s
theorem qDx{u0:Bool}{data0 a1 swaps2:AV}{K:KvP}{s:Hq}(h:qCf (XG u0) u0 data0 a1 swaps2 K s):wC TP (XG u0) (cond u0 184 180) [data0,a1,swaps2] K s:=by
 cases u0
 ·exact wO9 qCM nA0 rfl Tryz.func180 h
 ·exact wO9 qB2 nA0 rfl Tryz.func184 h
def qGm(X:Td)(u0:Bool)(data0 a1 b2 c3 x4:AV)(K:KvP)(s:Hq):Prop:=
 wC TP X (cond u0 200 199) [data0,a1,b2,x4] (λV0 S1=>oK (qAn V0 0) λV2=>oK (qAn V0 1) λV3=>wC TP X (cond u0 200 199) [data0,V3,c3,x4] (λV4 S5=>oK (qAn V4 0) λV6=>oK (qAn V4 1) λV7=>wC TP X (cond u0 200 199) [data0,V2,V6,x4] (λV8 S9=>oK (qAn V8 0) λV10=>oK (qAn V8 1) λV11=>K V11 S9) S5) S1) s
theorem qFq{u0:Bool}{data0 a1 b2 c3 x4:AV}{K:KvP}{s:Hq}(h:qGm (XG u0) u0 data0 a1 b2 c3 x4 K s):wC TP (XG u0) (cond u0 185 181) [data0,a1,b2,c3,x4] K s:=by
 cases u0
 ·exact wO9 qCM nA0 rfl Tryz.func181 h
 ·exact wO9 qB2 nA0 rfl Tryz.func185 h
def qD5(X:Td)(u0:Bool)(data0 a1 b2 swaps3:AV)(K:KvP)(s:Hq):Prop:=
 oK (qAI 1 data0 b2) λV0=>oK (rd1 s V0) λV1=>oK (qAI 1 data0 a1) λV2=>oK (rd1 s V2) λV3=>wC TP X (cond u0 152 141) [V1,V3] (λV4 S5=>qAM V4
 (oK (qAd swaps3) λV6=>oK (rd1 S5 V6) λV7=>oK (qAB .add V7 (.int .i64 1)) λV8=>oK (qAd swaps3) λV9=>oK (wr1 S5 V9 V8) λS10=>K (.tup [b2,a1]) S10)
 (K (.tup [a1,b2]) S5)) s
theorem qF1{u0:Bool}{data0 a1 b2 swaps3:AV}{K:KvP}{s:Hq}(h:qD5 (XG u0) u0 data0 a1 b2 swaps3 K s):wC TP (XG u0) (cond u0 200 199) [data0,a1,b2,swaps3] K s:=by
 cases u0
 ·exact wO9 qCM nA0 rfl Tryz.func199 h
 ·exact wO9 qB2 nA0 rfl Tryz.func200 h
def qAj(X:Td)(u0:Bool)(i7 j8:AV)(I0:IvP)(m0:Nat)(K:KvP)(s:Hq):Prop:=
 oK (qAB .add j8 (.int .i64 1)) λV22=>∃m',m'<m0/\I0 [i7,V22] s m'
def qBj(X:Td)(u0:Bool)(data0 b2 i7 j8 j10:AV)(I5:IvP)(m5:Nat)(I0:IvP)(m0:Nat)(K:KvP)(s:Hq):Prop:=
 oK (qAB .lss j10 b2) λV24=>qAM V24
 (oK (qAI 1 data0 j10) λV25=>oK (rd1 s V25) λV26=>oK (qAB .sub j10 (.int .i64 1)) λV27=>oK (qAI 1 data0 V27) λV28=>oK (rd1 s V28) λV29=>wC TP X (cond u0 152 141) [V26,V29] (λV30 S31=>oK (qBm .not V30) λV32=>qAM V32
 (qAj X u0 i7 j8 I0 m0 K S31)
 (oK (qAB .sub j10 (.int .i64 1)) λV33=>oK (qAB .sub j10 (.int .i64 1)) λV34=>oK (qAI 1 data0 V34) λV35=>oK (rd1 S31 V35) λV36=>oK (qAI 1 data0 j10) λV37=>oK (rd1 S31 V37) λV38=>oK (qAI 1 data0 j10) λV39=>oK (wr1 S31 V39 V36) λS40=>oK (qAI 1 data0 V33) λV41=>oK (wr1 S40 V41 V38) λS42=>oK (qAB .add j10 (.int .i64 1)) λV43=>∃m',m'<m5/\I5 [V43] S42 m')) s)
 (qAj X u0 i7 j8 I0 m0 K s)
def qAX(X:Td)(u0:Bool)(data0 b2 i7 j8:AV)(I0:IvP)(m0:Nat)(K:KvP)(s:Hq):Prop:=
 oK (qAB .sub b2 i7) λV20=>oK (qAB .geq V20 (.int .i64 2)) λV21=>qAM V21
 (oK (qAB .add i7 (.int .i64 1)) λV23=>∃I5:IvP,(∃m,I5 [V23] s m)/\∀(f:Env) (s:Hq) (m5:Nat),I5 [f 10] s m5->
 qBj X u0 data0 b2 i7 j8 (f 10) I5 m5 I0 m0 K s)
 (qAj X u0 i7 j8 I0 m0 K s)
def qBh(X:Td)(u0:Bool)(data0 b2 i7 j8 j9:AV)(I6:IvP)(m6:Nat)(I0:IvP)(m0:Nat)(K:KvP)(s:Hq):Prop:=
 oK (qAB .geq j9 (.int .i64 1)) λV45=>qAM V45
 (oK (qAI 1 data0 j9) λV46=>oK (rd1 s V46) λV47=>oK (qAB .sub j9 (.int .i64 1)) λV48=>oK (qAI 1 data0 V48) λV49=>oK (rd1 s V49) λV50=>wC TP X (cond u0 152 141) [V47,V50] (λV51 S52=>oK (qBm .not V51) λV53=>qAM V53
 (qAX X u0 data0 b2 i7 j8 I0 m0 K S52)
 (oK (qAB .sub j9 (.int .i64 1)) λV54=>oK (qAB .sub j9 (.int .i64 1)) λV55=>oK (qAI 1 data0 V55) λV56=>oK (rd1 S52 V56) λV57=>oK (qAI 1 data0 j9) λV58=>oK (rd1 S52 V58) λV59=>oK (qAI 1 data0 j9) λV60=>oK (wr1 S52 V60 V57) λS61=>oK (qAI 1 data0 V54) λV62=>oK (wr1 S61 V62 V59) λS63=>oK (qAB .sub j9 (.int .i64 1)) λV64=>∃m',m'<m6/\I6 [V64] S63 m')) s)
 (qAX X u0 data0 b2 i7 j8 I0 m0 K s)
def qAp(X:Td)(u0:Bool)(data0 a1 b2 i7 j8 t20 t31:AV)(I1:IvP)(m1:Nat)(I0:IvP)(m0:Nat)(K:KvP)(s:Hq):Prop:=
 oK (qAY t20 t31 (.bool false)) λV3=>qAM V3
 (oK (qAB .add i7 (.int .i64 1)) λV4=>∃m',m'<m1/\I1 [V4] s m')
 (oK (negB false (eqV 0 false i7 b2)) λV5=>qAM V5
 (K (.bool true) s)
 (oK (qAB .sub b2 a1) λV6=>oK (qAB .lss V6 (.int .i64 50)) λV7=>qAM V7
 (K (.bool false) s)
 (oK (qAB .sub i7 (.int .i64 1)) λV8=>oK (qAB .sub i7 (.int .i64 1)) λV9=>oK (qAI 1 data0 V9) λV10=>oK (rd1 s V10) λV11=>oK (qAI 1 data0 i7) λV12=>oK (rd1 s V12) λV13=>oK (qAI 1 data0 i7) λV14=>oK (wr1 s V14 V11) λS15=>oK (qAI 1 data0 V8) λV16=>oK (wr1 S15 V16 V13) λS17=>oK (qAB .sub i7 a1) λV18=>oK (qAB .geq V18 (.int .i64 2)) λV19=>qAM V19
 (oK (qAB .sub i7 (.int .i64 1)) λV44=>∃I6:IvP,(∃m,I6 [V44] S17 m)/\∀(f:Env) (s:Hq) (m6:Nat),I6 [f 9] s m6->
 qBh X u0 data0 b2 i7 j8 (f 9) I6 m6 I0 m0 K s)
 (qAX X u0 data0 b2 i7 j8 I0 m0 K S17))))
def qBi(X:Td)(u0:Bool)(data0 a1 b2 i7 j8:AV)(I1:IvP)(m1:Nat)(I0:IvP)(m0:Nat)(K:KvP)(s:Hq):Prop:=
 oK (qAB .lss i7 b2) λV2=>qAM V2
 (oK (qAI 1 data0 i7) λV65=>oK (rd1 s V65) λV66=>oK (qAB .sub i7 (.int .i64 1)) λV67=>oK (qAI 1 data0 V67) λV68=>oK (rd1 s V68) λV69=>wC TP X (cond u0 152 141) [V66,V69] (λV70 S71=>oK (qBm .not V70) λV72=>qAp X u0 data0 a1 b2 i7 j8 V2 V72 I1 m1 I0 m0 K S71) s)
 (qAp X u0 data0 a1 b2 i7 j8 V2 .undef I1 m1 I0 m0 K s)
def qBf(X:Td)(u0:Bool)(data0 a1 b2 i7 j8:AV)(I0:IvP)(m0:Nat)(K:KvP)(s:Hq):Prop:=
 oK (qAB .lss j8 (.int .i64 5)) λV1=>qAM V1
 (∃I1:IvP,(∃m,I1 [i7] s m)/\∀(f:Env) (s:Hq) (m1:Nat),I1 [f 7] s m1->
 qBi X u0 data0 a1 b2 (f 7) j8 I1 m1 I0 m0 K s)
 (K (.bool false) s)
def qBv(X:Td)(u0:Bool)(data0 a1 b2:AV)(K:KvP)(s:Hq):Prop:=
 oK (qAB .add a1 (.int .i64 1)) λV0=>∃I0:IvP,(∃m,I0 [V0,(.int .i64 0)] s m)/\∀(f:Env) (s:Hq) (m0:Nat),I0 [f 7,f 8] s m0->
 qBf X u0 data0 a1 b2 (f 7) (f 8) I0 m0 K s
def qBY:Nat->List Nat:=λk=>cond (Nat.beq k 6) [7,8] (cond (Nat.beq k 10) [7] (cond (Nat.beq k 40) [10] (cond (Nat.beq k 28) [9] ([]))))
theorem qDK{u0:Bool}{data0 a1 b2:AV}{K:KvP}{s:Hq}(h:qBv (XG u0) u0 data0 a1 b2 K s):wC TP (XG u0) (cond u0 151 140) [data0,a1,b2] K s:=by
 cases u0
 ·exact wO9 qCM qBY rfl Tryz.func140 h
 ·exact wO9 qB2 qBY rfl Tryz.func151 h
def qA0(X:Td)(u0:Bool)(data0 i9 j10 t49 t58:AV)(I3:IvP)(m3:Nat)(I0:IvP)(m0:Nat)(K:KvP)(s:Hq):Prop:=
 oK (qAY t49 t58 (.bool false)) λV14=>qAM V14
 (oK (qAB .sub j10 (.int .i64 1)) λV15=>∃m',m'<m3/\I3 [V15] s m')
 (oK (qAB .gtr i9 j10) λV16=>qAM V16
 (K i9 s)
 (oK (qAI 1 data0 j10) λV17=>oK (rd1 s V17) λV18=>oK (qAI 1 data0 i9) λV19=>oK (rd1 s V19) λV20=>oK (qAI 1 data0 i9) λV21=>oK (wr1 s V21 V18) λS22=>oK (qAI 1 data0 j10) λV23=>oK (wr1 S22 V23 V20) λS24=>oK (qAB .add i9 (.int .i64 1)) λV25=>oK (qAB .sub j10 (.int .i64 1)) λV26=>∃m',m'<m0/\I0 [V25,V26] S24 m'))
def qBQ(X:Td)(u0:Bool)(data0 a1 i9 j10:AV)(I3:IvP)(m3:Nat)(I0:IvP)(m0:Nat)(K:KvP)(s:Hq):Prop:=
 oK (qAB .leq i9 j10) λV13=>qAM V13
 (oK (qAI 1 data0 a1) λV27=>oK (rd1 s V27) λV28=>oK (qAI 1 data0 j10) λV29=>oK (rd1 s V29) λV30=>wC TP X (cond u0 152 141) [V28,V30] (λV31 S32=>qA0 X u0 data0 i9 j10 V13 V31 I3 m3 I0 m0 K S32) s)
 (qA0 X u0 data0 i9 j10 V13 .undef I3 m3 I0 m0 K s)
def qAx(X:Td)(u0:Bool)(data0 a1 i9 j10 t32 t42:AV)(I1:IvP)(m1:Nat)(I0:IvP)(m0:Nat)(K:KvP)(s:Hq):Prop:=
 oK (qAY t32 t42 (.bool false)) λV11=>qAM V11
 (oK (qAB .add i9 (.int .i64 1)) λV12=>∃m',m'<m1/\I1 [V12,j10] s m')
 (∃I3:IvP,(∃m,I3 [j10] s m)/\∀(f:Env) (s:Hq) (m3:Nat),I3 [f 10] s m3->
 qBQ X u0 data0 a1 i9 (f 10) I3 m3 I0 m0 K s)
def qB8(X:Td)(u0:Bool)(data0 a1 i9 j10:AV)(I1:IvP)(m1:Nat)(I0:IvP)(m0:Nat)(K:KvP)(s:Hq):Prop:=
 oK (qAB .leq i9 j10) λV10=>qAM V10
 (oK (qAI 1 data0 a1) λV33=>oK (rd1 s V33) λV34=>oK (qAI 1 data0 i9) λV35=>oK (rd1 s V35) λV36=>wC TP X (cond u0 152 141) [V34,V36] (λV37 S38=>oK (qBm .not V37) λV39=>qAx X u0 data0 a1 i9 j10 V10 V39 I1 m1 I0 m0 K S38) s)
 (qAx X u0 data0 a1 i9 j10 V10 .undef I1 m1 I0 m0 K s)
def qDw(X:Td)(u0:Bool)(data0 a1 i9 j10:AV)(I0:IvP)(m0:Nat)(K:KvP)(s:Hq):Prop:=
 ∃I1:IvP,(∃m,I1 [i9,j10] s m)/\∀(f:Env) (s:Hq) (m1:Nat),I1 [f 9,f 10] s m1->
 qB8 X u0 data0 a1 (f 9) j10 I1 m1 I0 m0 K s
def qCb(X:Td)(u0:Bool)(data0 a1 b2 pivot3:AV)(K:KvP)(s:Hq):Prop:=
 oK (qAI 1 data0 pivot3) λV0=>oK (rd1 s V0) λV1=>oK (qAI 1 data0 a1) λV2=>oK (rd1 s V2) λV3=>oK (qAI 1 data0 a1) λV4=>oK (wr1 s V4 V1) λS5=>oK (qAI 1 data0 pivot3) λV6=>oK (wr1 S5 V6 V3) λS7=>oK (qAB .add a1 (.int .i64 1)) λV8=>oK (qAB .sub b2 (.int .i64 1)) λV9=>∃I0:IvP,(∃m,I0 [V8,V9] S7 m)/\∀(f:Env) (s:Hq) (m0:Nat),I0 [f 9,f 10] s m0->
 qDw X u0 data0 a1 (f 9) (f 10) I0 m0 K s
def qB3:Nat->List Nat:=λk=>cond (Nat.beq k 6) [9,10] (cond (Nat.beq k 10) [10] ([]))
theorem qD4{u0:Bool}{data0 a1 b2 pivot3:AV}{K:KvP}{s:Hq}(h:qCb (XG u0) u0 data0 a1 b2 pivot3 K s):wC TP (XG u0) (cond u0 153 142) [data0,a1,b2,pivot3] K s:=by
 cases u0
 ·exact wO9 qCM qB3 rfl Tryz.func142 h
 ·exact wO9 qB2 qB3 rfl Tryz.func153 h
def qBK(X:Td)(u0:Bool)(data0 a1 i10 j11 t118 t128:AV)(I7:IvP)(m7:Nat)(I4:IvP)(m4:Nat)(K:KvP)(s:Hq):Prop:=
 oK (qAY t118 t128 (.bool false)) λV39=>qAM V39
 (oK (qAB .sub j11 (.int .i64 1)) λV40=>∃m',m'<m7/\I7 [V40] s m')
 (oK (qAB .gtr i10 j11) λV41=>qAM V41
 (oK (qAI 1 data0 a1) λV42=>oK (rd1 s V42) λV43=>oK (qAI 1 data0 j11) λV44=>oK (rd1 s V44) λV45=>oK (qAI 1 data0 j11) λV46=>oK (wr1 s V46 V43) λS47=>oK (qAI 1 data0 a1) λV48=>oK (wr1 S47 V48 V45) λS49=>K (.tup [j11,(.bool false)]) S49)
 (oK (qAI 1 data0 j11) λV50=>oK (rd1 s V50) λV51=>oK (qAI 1 data0 i10) λV52=>oK (rd1 s V52) λV53=>oK (qAI 1 data0 i10) λV54=>oK (wr1 s V54 V51) λS55=>oK (qAI 1 data0 j11) λV56=>oK (wr1 S55 V56 V53) λS57=>oK (qAB .add i10 (.int .i64 1)) λV58=>oK (qAB .sub j11 (.int .i64 1)) λV59=>∃m',m'<m4/\I4 [V58,V59] S57 m'))
def qBs(X:Td)(u0:Bool)(data0 a1 i10 j11:AV)(I7:IvP)(m7:Nat)(I4:IvP)(m4:Nat)(K:KvP)(s:Hq):Prop:=
 oK (qAB .leq i10 j11) λV38=>qAM V38
 (oK (qAI 1 data0 j11) λV60=>oK (rd1 s V60) λV61=>oK (qAI 1 data0 a1) λV62=>oK (rd1 s V62) λV63=>wC TP X (cond u0 152 141) [V61,V63] (λV64 S65=>oK (qBm .not V64) λV66=>qBK X u0 data0 a1 i10 j11 V38 V66 I7 m7 I4 m4 K S65) s)
 (qBK X u0 data0 a1 i10 j11 V38 .undef I7 m7 I4 m4 K s)
def qBJ(X:Td)(u0:Bool)(data0 a1 i10 j11 t102 t111:AV)(I5:IvP)(m5:Nat)(I4:IvP)(m4:Nat)(K:KvP)(s:Hq):Prop:=
 oK (qAY t102 t111 (.bool false)) λV36=>qAM V36
 (oK (qAB .add i10 (.int .i64 1)) λV37=>∃m',m'<m5/\I5 [V37,j11] s m')
 (∃I7:IvP,(∃m,I7 [j11] s m)/\∀(f:Env) (s:Hq) (m7:Nat),I7 [f 11] s m7->
 qBs X u0 data0 a1 i10 (f 11) I7 m7 I4 m4 K s)
def qCv(X:Td)(u0:Bool)(data0 a1 i10 j11:AV)(I5:IvP)(m5:Nat)(I4:IvP)(m4:Nat)(K:KvP)(s:Hq):Prop:=
 oK (qAB .leq i10 j11) λV35=>qAM V35
 (oK (qAI 1 data0 i10) λV67=>oK (rd1 s V67) λV68=>oK (qAI 1 data0 a1) λV69=>oK (rd1 s V69) λV70=>wC TP X (cond u0 152 141) [V68,V70] (λV71 S72=>qBJ X u0 data0 a1 i10 j11 V35 V71 I5 m5 I4 m4 K S72) s)
 (qBJ X u0 data0 a1 i10 j11 V35 .undef I5 m5 I4 m4 K s)
def qBt(X:Td)(u0:Bool)(data0 a1 i10 j11:AV)(I4:IvP)(m4:Nat)(K:KvP)(s:Hq):Prop:=
 ∃I5:IvP,(∃m,I5 [i10,j11] s m)/\∀(f:Env) (s:Hq) (m5:Nat),I5 [f 10,f 11] s m5->
 qCv X u0 data0 a1 (f 10) j11 I5 m5 I4 m4 K s
def qBI(X:Td)(u0:Bool)(data0 a1 i10 j11 t49 t59:AV)(I2:IvP)(m2:Nat)(K:KvP)(s:Hq):Prop:=
 oK (qAY t49 t59 (.bool false)) λV14=>qAM V14
 (oK (qAB .sub j11 (.int .i64 1)) λV15=>∃m',m'<m2/\I2 [V15] s m')
 (oK (qAB .gtr i10 j11) λV16=>qAM V16
 (oK (qAI 1 data0 a1) λV17=>oK (rd1 s V17) λV18=>oK (qAI 1 data0 j11) λV19=>oK (rd1 s V19) λV20=>oK (qAI 1 data0 j11) λV21=>oK (wr1 s V21 V18) λS22=>oK (qAI 1 data0 a1) λV23=>oK (wr1 S22 V23 V20) λS24=>K (.tup [j11,(.bool true)]) S24)
 (oK (qAI 1 data0 j11) λV25=>oK (rd1 s V25) λV26=>oK (qAI 1 data0 i10) λV27=>oK (rd1 s V27) λV28=>oK (qAI 1 data0 i10) λV29=>oK (wr1 s V29 V26) λS30=>oK (qAI 1 data0 j11) λV31=>oK (wr1 S30 V31 V28) λS32=>oK (qAB .add i10 (.int .i64 1)) λV33=>oK (qAB .sub j11 (.int .i64 1)) λV34=>∃I4:IvP,(∃m,I4 [V33,V34] S32 m)/\∀(f:Env) (s:Hq) (m4:Nat),I4 [f 10,f 11] s m4->
 qBt X u0 data0 a1 (f 10) (f 11) I4 m4 K s))
def qBq(X:Td)(u0:Bool)(data0 a1 i10 j11:AV)(I2:IvP)(m2:Nat)(K:KvP)(s:Hq):Prop:=
 oK (qAB .leq i10 j11) λV13=>qAM V13
 (oK (qAI 1 data0 j11) λV73=>oK (rd1 s V73) λV74=>oK (qAI 1 data0 a1) λV75=>oK (rd1 s V75) λV76=>wC TP X (cond u0 152 141) [V74,V76] (λV77 S78=>oK (qBm .not V77) λV79=>qBI X u0 data0 a1 i10 j11 V13 V79 I2 m2 K S78) s)
 (qBI X u0 data0 a1 i10 j11 V13 .undef I2 m2 K s)
def qBG(X:Td)(u0:Bool)(data0 a1 i10 j11 t33 t42:AV)(I0:IvP)(m0:Nat)(K:KvP)(s:Hq):Prop:=
 oK (qAY t33 t42 (.bool false)) λV11=>qAM V11
 (oK (qAB .add i10 (.int .i64 1)) λV12=>∃m',m'<m0/\I0 [V12] s m')
 (∃I2:IvP,(∃m,I2 [j11] s m)/\∀(f:Env) (s:Hq) (m2:Nat),I2 [f 11] s m2->
 qBq X u0 data0 a1 i10 (f 11) I2 m2 K s)
def qCz(X:Td)(u0:Bool)(data0 a1 i10 j11:AV)(I0:IvP)(m0:Nat)(K:KvP)(s:Hq):Prop:=
 oK (qAB .leq i10 j11) λV10=>qAM V10
 (oK (qAI 1 data0 i10) λV80=>oK (rd1 s V80) λV81=>oK (qAI 1 data0 a1) λV82=>oK (rd1 s V82) λV83=>wC TP X (cond u0 152 141) [V81,V83] (λV84 S85=>qBG X u0 data0 a1 i10 j11 V10 V84 I0 m0 K S85) s)
 (qBG X u0 data0 a1 i10 j11 V10 .undef I0 m0 K s)
def qDa(X:Td)(u0:Bool)(data0 a1 b2 pivot3:AV)(K:KvP)(s:Hq):Prop:=
 oK (qAI 1 data0 pivot3) λV0=>oK (rd1 s V0) λV1=>oK (qAI 1 data0 a1) λV2=>oK (rd1 s V2) λV3=>oK (qAI 1 data0 a1) λV4=>oK (wr1 s V4 V1) λS5=>oK (qAI 1 data0 pivot3) λV6=>oK (wr1 S5 V6 V3) λS7=>oK (qAB .add a1 (.int .i64 1)) λV8=>oK (qAB .sub b2 (.int .i64 1)) λV9=>∃I0:IvP,(∃m,I0 [V8] S7 m)/\∀(f:Env) (s:Hq) (m0:Nat),I0 [f 10] s m0->
 qCz X u0 data0 a1 (f 10) V9 I0 m0 K s
def qCs:Nat->List Nat:=λk=>cond (Nat.beq k 6) [10] (cond (Nat.beq k 10) [11] (cond (Nat.beq k 26) [10,11] (cond (Nat.beq k 30) [11] ([]))))
theorem qE9{u0:Bool}{data0 a1 b2 pivot3:AV}{K:KvP}{s:Hq}(h:qDa (XG u0) u0 data0 a1 b2 pivot3 K s):wC TP (XG u0) (cond u0 154 143) [data0,a1,b2,pivot3] K s:=by
 cases u0
 ·exact wO9 qCM qCs rfl Tryz.func143 h
 ·exact wO9 qB2 qCs rfl Tryz.func154 h
def qAs(X:Td)(u0:Bool)(data0 a1 b2 limit3 x8 x9 x10 x11 t75 t86:AV)(I0:IvP)(m0:Nat)(K:KvP)(s:Hq):Prop:=
 oK (qAY t75 t86 (.bool false)) λV16=>qAM V16
 (wC TP X (cond u0 153 142) [data0,a1,b2,x11] (λV17 S18=>∃m',m'<m0/\I0 [V17,b2,limit3,x8,x9] S18 m') s)
 (wC TP X (cond u0 154 143) [data0,a1,b2,x11] (λV19 S20=>oK (qAn V19 0) λV21=>oK (qAn V19 1) λV22=>oK (qAB .sub V21 a1) λV23=>oK (qAB .sub b2 V21) λV24=>oK (qAB .quo x10 (.int .i64 8)) λV25=>oK (qAB .lss V23 V24) λV26=>qAM V26
 (oK (qAB .geq V23 V25) λV27=>wC TP X (cond u0 98 95) [data0,a1,V21,limit3] (λV28 S29=>oK (qAB .add V21 (.int .i64 1)) λV30=>∃m',m'<m0/\I0 [V30,b2,limit3,V27,V22] S29 m') S20)
 (oK (qAB .geq V24 V25) λV31=>oK (qAB .add V21 (.int .i64 1)) λV32=>wC TP X (cond u0 98 95) [data0,V32,b2,limit3] (λV33 S34=>∃m',m'<m0/\I0 [a1,V21,limit3,V31,V22] S34 m') S20)) s)
def qBR(X:Td)(u0:Bool)(data0 a1 b2 limit3 x8 x9 x10 x11:AV)(I0:IvP)(m0:Nat)(K:KvP)(s:Hq):Prop:=
 oK (qAB .gtr a1 (.int .i64 0)) λV15=>qAM V15
 (oK (qAB .sub a1 (.int .i64 1)) λV35=>oK (qAI 1 data0 V35) λV36=>oK (rd1 s V36) λV37=>oK (qAI 1 data0 x11) λV38=>oK (rd1 s V38) λV39=>wC TP X (cond u0 152 141) [V37,V39] (λV40 S41=>oK (qBm .not V40) λV42=>qAs X u0 data0 a1 b2 limit3 x8 x9 x10 x11 V15 V42 I0 m0 K S41) s)
 (qAs X u0 data0 a1 b2 limit3 x8 x9 x10 x11 V15 .undef I0 m0 K s)
def qA7(X:Td)(u0:Bool)(data0 a1 b2 limit3 x8 x9 x10 x11 t65 t67:AV)(I0:IvP)(m0:Nat)(K:KvP)(s:Hq):Prop:=
 oK (qAY t65 t67 (.bool false)) λV14=>qAM V14
 (wC TP X (cond u0 151 140) [data0,a1,b2] (λV43 S44=>qAM V43
 (K (.tup []) S44)
 (qBR X u0 data0 a1 b2 limit3 x8 x9 x10 x11 I0 m0 K S44)) s)
 (qBR X u0 data0 a1 b2 limit3 x8 x9 x10 x11 I0 m0 K s)
def qA8(X:Td)(u0:Bool)(data0 a1 b2 limit3 x8 x9 x10 x11 x12 t62 t63:AV)(I0:IvP)(m0:Nat)(K:KvP)(s:Hq):Prop:=
 oK (qAY t62 t63 (.bool false)) λV13=>qAM V13
 (oK (negB false (eqV 0 true x12 (.int .i64 1))) λV45=>qA7 X u0 data0 a1 b2 limit3 x8 x9 x10 x11 V13 V45 I0 m0 K s)
 (qA7 X u0 data0 a1 b2 limit3 x8 x9 x10 x11 V13 .undef I0 m0 K s)
def qAr(X:Td)(u0:Bool)(data0 a1 b2 limit3 x8 x9 x10 x11 x12:AV)(I0:IvP)(m0:Nat)(K:KvP)(s:Hq):Prop:=
 qAM x8
 (qA8 X u0 data0 a1 b2 limit3 x8 x9 x10 x11 x12 x8 x9 I0 m0 K s)
 (qA8 X u0 data0 a1 b2 limit3 x8 x9 x10 x11 x12 x8 .undef I0 m0 K s)
def qB1(X:Td)(u0:Bool)(data0 a1 b2 limit3 x8 x9 x10:AV)(I0:IvP)(m0:Nat)(K:KvP)(s:Hq):Prop:=
 wC TP X (cond u0 149 138) [data0,a1,b2] (λV8 S9=>oK (qAn V8 0) λV10=>oK (qAn V8 1) λV11=>oK (negB false (eqV 0 true V11 (.int .i64 2))) λV12=>qAM V12
 (wC TP X (cond u0 150 139) [data0,a1,b2] (λV46 S47=>oK (qAB .sub b2 (.int .i64 1)) λV48=>oK (qAB .sub V10 a1) λV49=>oK (qAB .sub V48 V49) λV50=>qAr X u0 data0 a1 b2 limit3 x8 x9 x10 V50 (.int .i64 1) I0 m0 K S47) S9)
 (qAr X u0 data0 a1 b2 limit3 x8 x9 x10 V10 V11 I0 m0 K S9)) s
def qDR(X:Td)(u0:Bool)(data0 a1 b2 limit3 x8 x9:AV)(I0:IvP)(m0:Nat)(K:KvP)(s:Hq):Prop:=
 oK (qAB .sub b2 a1) λV0=>oK (qAB .leq V0 (.int .i64 12)) λV1=>qAM V1
 (wC TP X (cond u0 146 135) [data0,a1,b2] (λV2 S3=>K (.tup []) S3) s)
 (oK (negB false (eqV 0 true limit3 (.int .i64 0))) λV4=>qAM V4
 (wC TP X (cond u0 147 136) [data0,a1,b2] (λV5 S6=>K (.tup []) S6) s)
 (oK (qBm .not x8) λV7=>qAM V7
 (wC TP X (cond u0 148 137) [data0,a1,b2] (λV51 S52=>oK (qAB .sub limit3 (.int .i64 1)) λV53=>qB1 X u0 data0 a1 b2 V53 x8 x9 V0 I0 m0 K S52) s)
 (qB1 X u0 data0 a1 b2 limit3 x8 x9 V0 I0 m0 K s)))
def qGT(X:Td)(u0:Bool)(data0 a1 b2 limit3:AV)(K:KvP)(s:Hq):Prop:=
 ∃I0:IvP,(∃m,I0 [a1,b2,limit3,(.bool true),(.bool true)] s m)/\∀(f:Env) (s:Hq) (m0:Nat),I0 [f 1,f 2,f 3,f 8,f 9] s m0->
 qDR X u0 data0 (f 1) (f 2) (f 3) (f 8) (f 9) I0 m0 K s
def qC8:Nat->List Nat:=λk=>cond (Nat.beq k 4) [1,2,3,8,9] ([])
theorem qDS{u0:Bool}{data0 a1 b2 limit3:AV}{K:KvP}{s:Hq}(h:qGT (XG u0) u0 data0 a1 b2 limit3 K s):wC TP (XG u0) (cond u0 98 95) [data0,a1,b2,limit3] K s:=by
 cases u0
 ·exact wO9 qCM qC8 rfl Tryz.func95 h
 ·exact wO9 qB2 qC8 rfl Tryz.func98 h
def qCW(X:Td)(u0:Bool)(data0 i6 j7:AV)(I0:IvP)(m0:Nat)(K:KvP)(s:Hq):Prop:=
 oK (qAB .lss i6 j7) λV1=>qAM V1
 (oK (qAI 1 data0 j7) λV2=>oK (rd1 s V2) λV3=>oK (qAI 1 data0 i6) λV4=>oK (rd1 s V4) λV5=>oK (qAI 1 data0 i6) λV6=>oK (wr1 s V6 V3) λS7=>oK (qAI 1 data0 j7) λV8=>oK (wr1 S7 V8 V5) λS9=>oK (qAB .add i6 (.int .i64 1)) λV10=>oK (qAB .sub j7 (.int .i64 1)) λV11=>∃m',m'<m0/\I0 [V10,V11] S9 m')
 (K (.tup []) s)
def qC0(X:Td)(u0:Bool)(data0 a1 b2:AV)(K:KvP)(s:Hq):Prop:=
 oK (qAB .sub b2 (.int .i64 1)) λV0=>∃I0:IvP,(∃m,I0 [a1,V0] s m)/\∀(f:Env) (s:Hq) (m0:Nat),I0 [f 6,f 7] s m0->
 qCW X u0 data0 (f 6) (f 7) I0 m0 K s
def qCH:Nat->List Nat:=λk=>cond (Nat.beq k 4) [6,7] ([])
theorem qEU{u0:Bool}{data0 a1 b2:AV}{K:KvP}{s:Hq}(h:qC0 (XG u0) u0 data0 a1 b2 K s):wC TP (XG u0) (cond u0 150 139) [data0,a1,b2] K s:=by
 cases u0
 ·exact wO9 qCM qCH rfl Tryz.func139 h
 ·exact wO9 qB2 qCH rfl Tryz.func150 h
def qBP(X:Td)(u0:Bool)(data0 first3 x8 x9:AV)(I0:IvP)(m0:Nat)(K:KvP)(s:Hq):Prop:=
 oK (qAB .add first3 x8) λV6=>oK (qAI 1 data0 V6) λV7=>oK (rd1 s V7) λV8=>oK (qAB .add first3 x9) λV9=>oK (qAI 1 data0 V9) λV10=>oK (rd1 s V10) λV11=>wC TP X (cond u0 152 141) [V8,V11] (λV12 S13=>oK (qBm .not V12) λV14=>qAM V14
 (K (.tup []) S13)
 (oK (qAB .add first3 x8) λV15=>oK (qAB .add first3 x9) λV16=>oK (qAB .add first3 x9) λV17=>oK (qAI 1 data0 V17) λV18=>oK (rd1 S13 V18) λV19=>oK (qAB .add first3 x8) λV20=>oK (qAI 1 data0 V20) λV21=>oK (rd1 S13 V21) λV22=>oK (qAI 1 data0 V15) λV23=>oK (wr1 S13 V23 V19) λS24=>oK (qAI 1 data0 V16) λV25=>oK (wr1 S24 V25 V22) λS26=>∃m',m'<m0/\I0 [x9] S26 m')) s
def qBO(X:Td)(u0:Bool)(data0 first3 x8 x9 t21 t35:AV)(I0:IvP)(m0:Nat)(K:KvP)(s:Hq):Prop:=
 oK (qAY t21 t35 (.bool false)) λV5=>qAM V5
 (oK (qAB .add x9 (.int .i64 1)) λV27=>qBP X u0 data0 first3 x8 V27 I0 m0 K s)
 (qBP X u0 data0 first3 x8 x9 I0 m0 K s)
def qC9(X:Td)(u0:Bool)(data0 hi2 first3 x8:AV)(I0:IvP)(m0:Nat)(K:KvP)(s:Hq):Prop:=
 oK (qAB .mul (.int .i64 2) x8) λV0=>oK (qAB .add V0 (.int .i64 1)) λV1=>oK (qAB .geq V1 hi2) λV2=>qAM V2
 (K (.tup []) s)
 (oK (qAB .add V1 (.int .i64 1)) λV3=>oK (qAB .lss V3 hi2) λV4=>qAM V4
 (oK (qAB .add first3 V1) λV28=>oK (qAI 1 data0 V28) λV29=>oK (rd1 s V29) λV30=>oK (qAB .add first3 V1) λV31=>oK (qAB .add V31 (.int .i64 1)) λV32=>oK (qAI 1 data0 V32) λV33=>oK (rd1 s V33) λV34=>wC TP X (cond u0 152 141) [V30,V34] (λV35 S36=>qBO X u0 data0 first3 x8 V1 V4 V35 I0 m0 K S36) s)
 (qBO X u0 data0 first3 x8 V1 V4 .undef I0 m0 K s))
def qF2(X:Td)(u0:Bool)(data0 lo1 hi2 first3:AV)(K:KvP)(s:Hq):Prop:=
 ∃I0:IvP,(∃m,I0 [lo1] s m)/\∀(f:Env) (s:Hq) (m0:Nat),I0 [f 8] s m0->
 qC9 X u0 data0 hi2 first3 (f 8) I0 m0 K s
def qC1:Nat->List Nat:=λk=>cond (Nat.beq k 2) [8] ([])
theorem qFC{u0:Bool}{data0 lo1 hi2 first3:AV}{K:KvP}{s:Hq}(h:qF2 (XG u0) u0 data0 lo1 hi2 first3 K s):wC TP (XG u0) (cond u0 183 177) [data0,lo1,hi2,first3] K s:=by
 cases u0
 ·exact wO9 qCM qC1 rfl Tryz.func177 h
 ·exact wO9 qB2 qC1 rfl Tryz.func183 h
end Go.AM
namespace Go.AM
open Go Go.Proofs
set_option maxRecDepth 100000
abbrev WW:List Nat:=[70,97,68,35]
def qA9:Nat->List Nat:=λk=>cond (Nat.beq k 7) [2] ([])
def qCc(X:Td)(l:Nat)(t2 t7:AV)(E:AExit->Hq->Prop)(s:Hq):Prop:=
 AExit.nrm=.nrm/\qOD l (λS0=>oK (rd1 S0 t2) λV1=>oK (qBV (repl 1 [(.int .u32 0)]) [(0,1,t7)]) λC2=>qAU C2=true/\newK 42 C2 (λB3 S4=>appK 42 1 V1 (.slc B3 0 1 (some 1) 1) (λV5 S6=>oK (wr1 S6 t2 V5) λS7=>E .nrm S7) S4) S0) s
theorem qD0(X:Td)(l:Nat)(f:Env)(t7:AV)(E:AExit->Hq->Prop)(s:Hq):wpC TP X qA9 Tryz.f97.ntmps (some l) (rfAs 0 (qA5 Tryz.f97)) (setE f [7] [t7]) (λe env s=>e=.nrm/\qOD l (λs=>wpC TP X qA9 Tryz.f97.ntmps (some l) (rfBo 0 (qA5 Tryz.f97)) env (λe _ s=>E e s) s) s) s=qCc X l (f 2) t7 E s:=by kernel_rfl
theorem qDv{l:Nat}{t:Bool}{st:LoopState}{pd:Option Code}{d:Nat}{t2 t7:AV}{K:KvP}{s:Hq}(hs:s l=some (t,.loop st pd 13 [(2,t2)] [7] (rfAs 0 (qA5 Tryz.f97)) (rfBo 0 (qA5 Tryz.f97)) d))(h:qCc qF6 l t2 t7 (λe s=>endK l e K s) s):qL3 TP qF6 l [t7] K s:=
 qTz (qB2) qA9 hs rfl rfl λf hf=>by
 refine(qD0 qF6 l f t7 (λe s=>endK l e K s) s).mpr ?_
 rw[show f 2=t2 from hf (2,t2) (by simp)]
 exact h
def qDJ(X:Td)(t0:AV)(K:KvP)(s:Hq):Prop:=
 boxK 101 t0 (λB0 S1=>K (.fn (.func 70) [] [B0]) S1) s
theorem qCt{t0:AV}{K:KvP}{s:Hq}(h:qDJ XX t0 K s):wC TP XX 36 [t0] K s:=wOK qCM nA0 rfl Tryz.func36 h
def qA1(X:Td)(yield0 t1:AV)(K:KvP)(s:Hq):Prop:=
 oK (rd1 s t1) λV0=>qWE V0 (λV1 S2=>oK (qQZ S2 V1) λp_3=>∃I0:LvP,I0 [] [] (hdel S2 p_3.1)/\
 ∀(n_5:List Nat) (f_6:Env) (S7:Hq),I0 n_5 [] S7->S7 p_3.1=none->qRS S7 p_3.2.1 p_3.2.2.2.1 p_3.2.2.2.2/\
 (∀e_4∈p_3.2.2.2.2,hasN e_4.born n_5=false->
 qAM (.bool true)
 (oK (entD (hset S7 p_3.1 (true,.iter p_3.2.1 p_3.2.2.1 (n_5 ++ [e_4.born]) p_3.2.2.2.1)) V1) λV8=>oK (qAn V8 0) λV9=>funK TP X yield0 [V9] (λV10 S11=>oK (qBm .not V10) λV12=>qAM V12
 (K (.tup []) (hdel S11 p_3.1))
 (I0 (n_5 ++ [e_4.born]) [] (hdel S11 p_3.1))) (hset S7 p_3.1 (true,.iter p_3.2.1 p_3.2.2.1 (n_5 ++ [e_4.born]) p_3.2.2.2.1)))
 (K (.tup []) (hdel (hset S7 p_3.1 (true,.iter p_3.2.1 p_3.2.2.1 (n_5 ++ [e_4.born]) p_3.2.2.2.1)) p_3.1)))/\
 ((∀e_4∈p_3.2.2.2.2,hasN e_4.born n_5=true)->
 qAM (.bool false)
 (oK (entD S7 V1) λV13=>oK (qAn V13 0) λV14=>funK TP X yield0 [V14] (λV15 S16=>oK (qBm .not V15) λV17=>qAM V17
 (K (.tup []) S16)
 (False)) S7)
 (K (.tup []) S7))) s
def qBM:Nat->List Nat:=λk=>cond (Nat.beq k 2) [] ([])
theorem qCg(X:Td)(yield0 t1:AV)(K:KvP)(s:Hq):wpCW TP X WW qBM Tryz.f70.ntmps (qA5 Tryz.f70) (qIj [yield0,t1]) (λe env s=>retK e (resK TP Tryz.f70.results.toList env (λvs=>K (oneV vs) s) s)) s=qA1 X yield0 t1 K s:=by kernel_rfl
theorem qCh{yield0 t1:AV}{K:KvP}{s:Hq}(h:qA1 qF6 yield0 t1 K s):wpW TP qF6 70 [yield0,t1] K s:=
 qOw qBM Tryz.func70 (by kernel_rfl:Tryz.f70.body=some (qA5 Tryz.f70)) (by kernel_rfl) ((qCg qF6 yield0 t1 K s).mpr h)
def qEV(X:Td)(seq0:AV)(K:KvP)(s:Hq):Prop:=
 wpW TP X 97 [.nilslc,seq0] (λV0 S1=>K V0 S1) s
theorem qH4(X:Td)(seq0:AV)(K:KvP)(s:Hq):wpCW TP X WW nA0 Tryz.f68.ntmps (qA5 Tryz.f68) (qIj [seq0]) (λe env s=>retK e (resK TP Tryz.f68.results.toList env (λvs=>K (oneV vs) s) s)) s=qEV X seq0 K s:=by kernel_rfl
theorem qHw{seq0:AV}{K:KvP}{s:Hq}(h:qEV qF6 seq0 K s):wpW TP qF6 68 [seq0] K s:=
 qOw nA0 Tryz.func68 (by kernel_rfl:Tryz.f68.body=some (qA5 Tryz.f68)) (by kernel_rfl) ((qH4 qF6 seq0 K s).mpr h)
def qEr(X:Td)(seq0:AV)(K:KvP)(s:Hq):Prop:=
 wpW TP X 68 [seq0] (λV0 S1=>wC TP X 69 [V0] (λV2 S3=>K V0 S3) S1) s
theorem qIn(X:Td)(seq0:AV)(K:KvP)(s:Hq):wpCW TP X WW nA0 Tryz.f35.ntmps (qA5 Tryz.f35) (qIj [seq0]) (λe env s=>retK e (resK TP Tryz.f35.results.toList env (λvs=>K (oneV vs) s) s)) s=qEr X seq0 K s:=by kernel_rfl
theorem qIm{seq0:AV}{K:KvP}{s:Hq}(h:qEr qF6 seq0 K s):wpW TP qF6 35 [seq0] K s:=
 qOw nA0 Tryz.func35 (by kernel_rfl:Tryz.f35.body=some (qA5 Tryz.f35)) (by kernel_rfl) ((qIn qF6 seq0 K s).mpr h)
end Go.AM
namespace Go.AM
open Go Go.Proofs
set_option maxRecDepth 100000
end Go.AM
namespace Go.AM
open Go Go.Proofs
set_option maxRecDepth 100000
def qHC(X:Td)(a0 b1 x5 i6 t13 t17:AV)(I0:IvP)(m0:Nat)(K:KvP)(s:Hq):Prop:=
 oK (qAY t13 t17 (.bool false)) λV5=>qAM V5
 (oK (qAI 1 a0 i6) λV6=>oK (rd1 s V6) λV7=>oK (qAI 1 b1 i6) λV8=>oK (rd1 s V8) λV9=>oK (negB false (eqV 0 false V7 V9)) λV10=>oK (qAB .add i6 (.int .i64 1)) λV11=>∃m',m'<m0/\I0 [V10,V11] s m')
 (K x5 s)
def qJ9(X:Td)(a0 b1 x5 i6:AV)(I0:IvP)(m0:Nat)(K:KvP)(s:Hq):Prop:=
 qAM x5
 (oK (qAO a0) λV12=>oK (qAB .lss i6 (.int .i64 V12)) λV14=>qHC X a0 b1 x5 i6 x5 V14 I0 m0 K s)
 (qHC X a0 b1 x5 i6 x5 .undef I0 m0 K s)
def qNb(X:Td)(a0 b1:AV)(K:KvP)(s:Hq):Prop:=
 oK (qAO a0) λV0=>oK (qAO b1) λV2=>oK (negB false (eqV 0 false (.int .i64 V0) (.int .i64 V2))) λV4=>∃I0:IvP,(∃m,I0 [V4,(.int .i64 0)] s m)/\∀(f:Env) (s:Hq) (m0:Nat),I0 [f 5,f 6] s m0->
 qJ9 X a0 b1 (f 5) (f 6) I0 m0 K s
def qNP:Nat->List Nat:=λk=>cond (Nat.beq k 6) [5,6] ([])
theorem qOv{a0 b1:AV}{K:KvP}{s:Hq}(h:qNb XX a0 b1 K s):wC TP XX 28 [a0,b1] K s:=wOK qCM qNP rfl Tryz.func28 h
end Go.AM
namespace Go.AM
open Go Go.Proofs
set_option maxRecDepth 100000
def qBd(X:Td)(t122 t129:AV)(K:KvP)(s:Hq):Prop:=
 oK (qAY t122 t129 (.bool false)) λV102=>K V102 s
def qBb(X:Td)(t10 a12 t117 t120:AV)(K:KvP)(s:Hq):Prop:=
 oK (qAY t117 t120 (.bool false)) λV101=>qAM V101
 (oK (rdN s 19 t10) λV103=>oK (qAE 0 t10) λV104=>oK (rd1 s V104) λV105=>wC TP X 12 [(.agg V103),V105,a12] (λV106 S107=>oK (qAO V106) λV108=>oK (negB false (eqV 0 true (.int .i64 V108) (.int .i64 0))) λV110=>qBd X V101 V110 K S107) s)
 (qBd X V101 .undef K s)
def qAo(X:Td)(leaf1 x9 t10 a12 x13 t14 x15 x16 x17:AV)(K:KvP)(s:Hq):Prop:=
 oK (rdN s 19 t10) λV85=>wC TP X 12 [(.agg V85),leaf1,a12] (λV86 S87=>oK (rdN S87 19 t10) λV88=>oK (rdN S87 38 x13) λV89=>oK (rdN S87 38 t14) λV90=>oK (rdN S87 38 x15) λV91=>oK (rdN S87 38 x16) λV92=>oK (rdN S87 38 x17) λV93=>oK (qAI 38 a12 (.int .i64 0)) λV94=>oK (rdN S87 38 V94) λV95=>oK (qBV (repl 6 zR0) [(0,38,(.agg V89)),(38,38,(.agg V90)),(76,38,(.agg V91)),(114,38,(.agg V92)),(152,38,(.agg V93)),(190,38,(.agg V95))]) λC96=>qAU C96=true/\newK 81 C96 (λB97 S98=>(∀b,S87 b≠none->S87 b=none->S98 b=none)->
 wC TP X 12 [(.agg V88),leaf1,(.slc B97 0 6 (some 6) 38)] (λV99 S100=>qAM x9
 (wC TP X 11 [V99,V86] (λV111 S112=>qBb X t10 a12 x9 V111 K S112) S100)
 (qBb X t10 a12 x9 .undef K S100)) (add S87 S98)) (frz S87)) s
def qBA(X:Td)(leaf1 ip3 x9 t10 a12 x13 t14 x15 x16 x17 t91 t95:AV)(K:KvP)(s:Hq):Prop:=
 oK (qAY t91 (.bool true) t95) λV84=>qAM V84
 (oK (qAE 21 x17) λV113=>oK (qAE 2 V113) λV114=>oK (wr1 s V114 ip3) λS115=>qAo X leaf1 x9 t10 a12 x13 t14 x15 x16 x17 K S115)
 (qAo X leaf1 x9 t10 a12 x13 t14 x15 x16 x17 K s)
def qC7(X:Td)(l0 leaf1 bd2 ip3:AV)(K:KvP)(s:Hq):Prop:=
 wC TP X 5 [] (λV0 S1=>wC TP X 25 [l0] (λV2 S3=>newK 31 zR1 (λB4 S5=>oK (qBF S5 19 (.ptr B4 0) V2) λS6=>oK (qAE 0 (.ptr B4 0)) λV7=>oK (rd1 S6 V7) λV8=>wC TP X 26 [leaf1,V8] (λV9 S10=>(∀b,S6 b≠none->S6 b=none->S10 b=none)->
 oK (qAE 4 (.ptr B4 0)) λV11=>oK (rd1 (cutH [(S6,(add S6 S10))] (add S6 S10)) V11) λV12=>oK (qAO V12) λV13=>wC TP X 26 [bd2,(.int .i64 V13)] (λV15 S16=>oK (qAB .add V9 (.int .i64 1)) λV17=>oK (qAE 0 (.ptr B4 0)) λV18=>oK (rd1 S16 V18) λV19=>oK (qAB .rem V17 V19) λV20=>oK (qAE 4 (.ptr B4 0)) λV21=>oK (rd1 S16 V21) λV22=>oK (qAI 6 V22 V15) λV23=>oK (qAE 2 V23) λV24=>oK (rd1 S16 V24) λV25=>wC TP X 24 [V20,V25,(.int .i64 6)] (λV26 S27=>oK (qBV (repl 1 zR0) [(0,38,V26)]) λC28=>qAU C28=true/\newK 81 C28 (λB29 S30=>oK (qAE 4 (.ptr B4 0)) λV31=>oK (rd1 S30 V31) λV32=>oK (qAI 6 V32 V15) λV33=>oK (qAE 2 V33) λV34=>oK (rd1 S30 V34) λV35=>wC TP X 24 [V9,V35,(.int .i64 6)] (λV36 S37=>newK 81 zR0 (λB38 S39=>oK (qBF S39 38 (.ptr B38 0) V36) λS40=>oK (qAE 4 (.ptr B4 0)) λV41=>oK (rd1 S40 V41) λV42=>oK (qAI 6 V42 V15) λV43=>oK (qAE 2 V43) λV44=>oK (rd1 S40 V44) λV45=>wC TP X 24 [V20,V45,(.int .i64 0)] (λV46 S47=>newK 81 zR0 (λB48 S49=>oK (qBF S49 38 (.ptr B48 0) V46) λS50=>oK (qAE 4 (.ptr B4 0)) λV51=>oK (rd1 S50 V51) λV52=>oK (qAI 6 V52 V15) λV53=>oK (qAE 2 V53) λV54=>oK (rd1 S50 V54) λV55=>wC TP X 24 [V20,V55,(.int .i64 6)] (λV56 S57=>newK 81 zR0 (λB58 S59=>oK (qBF S59 38 (.ptr B58 0) V56) λS60=>oK (qAE 0 (.ptr B58 0)) λV61=>oK (qAE 0 V61) λV62=>oK (wr1 S60 V62 (.int .i64 2)) λS63=>wC TP X 24 [V20,(.int .u32 77777),(.int .i64 6)] (λV64 S65=>newK 81 zR0 (λB66 S67=>oK (qBF S67 38 (.ptr B66 0) V64) λS68=>oK (qAE 4 (.ptr B4 0)) λV69=>oK (rd1 S68 V69) λV70=>oK (qAI 6 V70 V15) λV71=>oK (qAE 2 V71) λV72=>oK (rd1 S68 V72) λV73=>wC TP X 24 [V20,V73,(.int .i64 6)] (λV74 S75=>newK 81 zR0 (λB76 S77=>oK (qBF S77 38 (.ptr B76 0) V74) λS78=>wC TP X 30 [ip3] (λV79 S80=>oK (qAn V79 0) λV81=>oK (qAn V79 1) λV82=>oK (qBm .not V82) λV83=>qAM V83
 (qBA X V9 ip3 V0 (.ptr B4 0) (.slc B29 0 1 (some 1) 38) (.ptr B38 0) (.ptr B48 0) (.ptr B58 0) (.ptr B66 0) (.ptr B76 0) V83 .undef K S80)
 (oK (qAE 0 (.ptr B4 0)) λV116=>oK (rd1 S80 V116) λV117=>oK (qAB .geq V81 V117) λV118=>qBA X V9 ip3 V0 (.ptr B4 0) (.slc B29 0 1 (some 1) 38) (.ptr B38 0) (.ptr B48 0) (.ptr B58 0) (.ptr B66 0) (.ptr B76 0) V83 V118 K S80)) S78) S75) S68) S65) S63) S57) S50) S47) S40) S37) S30) S27) S16) (add S6 S10)) (frz S6)) S3) S1) s
theorem qEZ{X:Td}(hX:FrX X)(hn:X 7=none){l0 leaf1 bd2 ip3:AV}{K:KvP}{s:Hq}(h:qC7 X l0 leaf1 bd2 ip3 K s):wC TP X 7 [l0,leaf1,bd2,ip3] K s:=
 wOK hX nA0 hn Tryz.func7 h
theorem qEb{l0 leaf1 bd2 ip3:AV}{K:KvP}{s:Hq}(h:qC7 XX l0 leaf1 bd2 ip3 K s):wC TP XX 7 [l0,leaf1,bd2,ip3] K s:=qEZ (qCM) rfl h
def qEd(X:Td)(leaf0 target1 kind2:AV)(K:KvP)(s:Hq):Prop:=
 newK 81 zR0 (λB0 S1=>wC TP X 22 [leaf0] (λV2 S3=>oK (qBV [(.int .i64 0),(.int .u64 0),(.int .u8 0),(.int .u8 0),(.int .u8 0),(.int .u8 0),(.int .u8 0),(.int .u8 0),(.int .u8 0),(.int .u8 0),(.int .u8 0),(.int .u8 0),(.int .u32 0),(.int .u64 0),(.int .u32 0),(.bool false),(.int .u32 0),(.int .i64 0),(.int .u32 0),(.int .u32 0),(.int .u32 0)] [(0,1,(.int .i64 3)),(14,1,V2),(15,1,(.bool true))]) λC4=>wC TP X 22 [leaf0] (λV5 S6=>wC TP X 53 [(.int .u16 65000),target1] (λV7 S8=>oK (qBV (repl 1 [(.int .u8 0),(.int .u8 0),(.int .u8 0),(.int .u8 0),(.int .u8 0),(.int .u8 0),(.int .u8 0),(.int .u8 0)]) [(0,8,V7)]) λC9=>qAU C9=true/\newK 129 C9 (λB10 S11=>oK (qBV [(.int .i64 0),(.int .u32 0),(.int .u32 0),(.int .u32 0)] [(0,1,kind2)]) λC12=>oK (qBV [(.int .i64 0),.nilslc,(.int .u32 0),(.bool false),(.int .u32 0),(.bool false),(.int .u32 0),(.bool false),(.int .u32 0),.nilslc,.nilslc,(.int .i64 0),(.int .u32 0),(.int .u32 0),(.int .u32 0)] [(2,1,V5),(10,1,(.slc B10 0 1 (some 1) 8)),(11,4,(.agg C12))]) λC13=>oK (qBV zR0 [(0,21,(.agg C4)),(21,15,(.agg C13))]) λC14=>oK (qBF S11 38 (.ptr B0 0) (.agg C14)) λS15=>oK (rdN S15 38 (.ptr B0 0)) λt6_16=>K (.agg t6_16) S15) S8) S6) S3) S1) s
theorem qGZ{X:Td}(hX:FrX X)(hn:X 24=none){leaf0 target1 kind2:AV}{K:KvP}{s:Hq}(h:qEd X leaf0 target1 kind2 K s):wC TP X 24 [leaf0,target1,kind2] K s:=
 wOK hX nA0 hn Tryz.func24 h
theorem qGc{leaf0 target1 kind2:AV}{K:KvP}{s:Hq}(h:qEd XX leaf0 target1 kind2 K s):wC TP XX 24 [leaf0,target1,kind2] K s:=qGZ (qCM) rfl h
def qDr(X:Td)(n0:AV)(K:KvP)(s:Hq):Prop:=
 wC TP X 50 [n0] (λV0 S1=>oK (qAn V0 0) λV2=>oK (qAn V0 1) λV3=>K V2 S1) s
theorem qFZ{X:Td}(hX:FrX X)(hn:X 22=none){n0:AV}{K:KvP}{s:Hq}(h:qDr X n0 K s):wC TP X 22 [n0] K s:=
 wOK hX nA0 hn Tryz.func22 h
theorem qFW{n0:AV}{K:KvP}{s:Hq}(h:qDr XX n0 K s):wC TP XX 22 [n0] K s:=qFZ (qCM) rfl h
def qGd(X:Td)(t0 n1:AV)(K:KvP)(s:Hq):Prop:=
 newK 129 [(.int .u8 0),(.int .u8 0),(.int .u8 0),(.int .u8 0),(.int .u8 0),(.int .u8 0),(.int .u8 0),(.int .u8 0)] (λB0 S1=>oK (qCJ .u64 t0) λV2=>oK (qBV [(.int .i64 0),(.int .u64 0)] [(0,1,(.int .i64 2)),(1,1,V2)]) λC3=>oK (qCJ .u64 n1) λV4=>oK (qBV [(.int .i64 0),(.int .u64 0)] [(0,1,(.int .i64 4)),(1,1,V4)]) λC5=>oK (qBV (repl 2 [(.int .i64 0),(.int .u64 0)]) [(0,2,(.agg C3)),(2,2,(.agg C5))]) λC6=>qAU C6=true/\newK 167 C6 (λB7 S8=>wC TP X 86 [(.int .i64 1),(.slc B7 0 2 (some 2) 2)] (λV9 S10=>oK (qBF S10 8 (.ptr B0 0) V9) λS11=>oK (rdN S11 8 (.ptr B0 0)) λt4_12=>K (.agg t4_12) S11) S8) S1) s
theorem qKd{X:Td}(hX:FrX X)(hn:X 53=none){t0 n1:AV}{K:KvP}{s:Hq}(h:qGd X t0 n1 K s):wC TP X 53 [t0,n1] K s:=
 wOK hX nA0 hn Tryz.func53 h
theorem qKe{t0 n1:AV}{K:KvP}{s:Hq}(h:qGd XX t0 n1 K s):wC TP XX 53 [t0,n1] K s:=qKd (qCM) rfl h
end Go.AM
