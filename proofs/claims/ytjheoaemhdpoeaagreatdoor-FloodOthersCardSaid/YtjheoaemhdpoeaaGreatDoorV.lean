/- Part V of the proof: see the last part. -/
import Derived.Test.YtjheoaemhdpoeaaGreatDoorU2
import Derived.Test.YtjheoaemhdpoeaaGreatDoorProg
import Derived.KernelRfl
set_option linter.unusedVariables false
namespace Go.AM
open Go Go.Proofs
noncomputable abbrev TP:Program:=Tryz.prog
theorem wOK{P:Program}{X:Td}(hX:FrX X)(A:Nat->List Nat){n:FuncId}(hn:X n=none){f:Func}(h1:P.funcs[n]?=some f){args:List AV}{K:AV->Hq->Prop}{s:Hq}{Q:Prop}(h:Q)(hb:f.body=some (qA5 f):=by kernel_rfl)(hl:Nat.ble args.length f.ntmps=true:=by kernel_rfl)(he:wpC P X A f.ntmps none (qA5 f) (qJU args) (λe env s=>retK e (resK P f.results.toList env (λvs=>K (oneV vs) s) s)) s=Q:=by kernel_rfl):wC P X n args K s:=
  qMp hX A hn h1 hb hl (Eq.mpr he h)
def nA0:Nat->List Nat:=λ_=>[]
abbrev zR0:List AV:=[(.int .i64 0),(.int .u64 0),(.int .u8 0),(.int .u8 0),(.int .u8 0),(.int .u8 0),(.int .u8 0),(.int .u8 0),(.int .u8 0),(.int .u8 0),(.int .u8 0),(.int .u8 0),(.int .u32 0),(.int .u64 0),(.int .u32 0),(.bool false),(.int .u32 0),(.int .i64 0),(.int .u32 0),(.int .u32 0),(.int .u32 0),(.int .i64 0),.nilslc,(.int .u32 0),(.bool false),(.int .u32 0),(.bool false),(.int .u32 0),(.bool false),(.int .u32 0),.nilslc,.nilslc,(.int .i64 0),(.int .u32 0),(.int .u32 0),(.int .u32 0),(.int .u32 0),(.bool false)]
abbrev zR1:List AV:=[(.int .i64 0),(.int .i64 0),.nilslc,.nilslc,.nilslc,.nilslc,.nilslc,.nilslc,(.int .i64 0),(.int .i64 0),(.int .i64 0),(.bool false),(.bool false),(.int .i64 0),(.int .i64 0),(.int .i64 0),(.int .i64 0),(.int .i64 0),(.int .i64 0)]
abbrev IvP:=List AV->Hq->Nat->Prop
abbrev KvP:=AV->Hq->Prop
abbrev LvP:=List Nat->List AV->Hq->Prop
set_option maxRecDepth 100000
abbrev kindsL:List AV:=[.int .i64 1,.int .u8 0,.int .u8 2,.int .i64 2,.int .u8 3,.int .u8 12,.int .i64 3,.int .u8 6,.int .u8 0,.int .i64 4,.int .u8 6,.int .u8 1,.int .i64 5,.int .u8 6,.int .u8 2,.int .i64 6,.int .u8 6,.int .u8 3,.int .i64 7,.int .u8 6,.int .u8 6]
abbrev X0:Td:=qG8 0 kindsL [10,5]
theorem qJ0:FrX X0:=qO1 _ _ _
abbrev SS:FuncId->Bool:=λk=>memN k [107,87,88,89,90,91,92,93,94]
noncomputable abbrev XL:Td:=limX TP X0 SS [31]
noncomputable abbrev XX:Td:=orX XL (orX (sortedUX 35 70 101 42) X0)
theorem qBz:FrX XX:=zAAe (qXg qJ0 _) (zAAe (qNU 35 70 101 42) qJ0)
structure Fn0(Y:Td):Prop where
 fr:FrX Y
 no:∀k,memN k (35::31 :: [10,5])=false->Y k=none
theorem X0_h{k:Nat}(h:memN k (35::31 :: [10,5])=false):memN k [10,5]=false:=by unfold memN at h;cases e:Nat.beq k 35<;>rw[e]at h<;>first|(unfold memN at h;cases e:Nat.beq k 31<;>rw[e]at h<;>first|exact h|cases h)|cases h
theorem X0_0:Fn0 X0:=⟨qJ0,λk h=>by show cond (memN k [10,5]) _ _=_;rw[X0_h h];rfl⟩
theorem XX_1{k:Nat}(h:memN k (35::31 :: [10,5])=false):memN k [31]=false:=by unfold memN at h;cases e:Nat.beq k 35<;>rw[e]at h<;>first|(unfold memN at h;cases e:Nat.beq k 31<;>rw[e]at h<;>first|(unfold memN;rw[e];rfl)|cases h)|cases h
theorem XX_2{k:Nat}(h:memN k (35::31 :: [10,5])=false):limX TP X0 SS [31] k=none:=by show cond (memN k [31]) _ _=_;rw[XX_1 h];rfl
theorem XX_3{k:Nat}(h:memN k (35::31 :: [10,5])=false):sortedUX 35 70 101 42 k=none:=by unfold memN at h;cases e:Nat.beq k 35<;>rw[e]at h<;>first|(unfold sortedUX;rw[e];rfl)|cases h
theorem XX_0:Fn0 XX:=⟨qBz,λk h=>by show(match limX TP X0 SS [31] k with|some g=>some g|none=>(match sortedUX 35 70 101 42 k with|some g=>some g|none=>X0 k))=none;rw[XX_2 h,XX_3 h];exact X0_0.no k h⟩
def qCh(X:Td)(t2 t4:AV)(K:KvP)(s:Hq):Prop:=
 oK (rdN s 19 t4) λV132=>oK (qBS s 19 t2 (.agg V132)) λS133=>oK (rdN S133 19 t2) λt2_134=>K (.agg t2_134) S133
def qIc(X:Td)(t2 t3 t4 many6 n10 i11:AV)(I5:IvP)(m5:Nat)(K:KvP)(s:Hq):Prop:=
 oK (qAB .lss i11 many6) λV137=>qAJ V137
 (oK (qAF 7 t4) λV138=>oK (rd1 s V138) λV139=>∃h_140:Hq,(∀b,h_140 b≠none->s b≠none)/\
 wC TP X 60 [t3,n10] (λV141 S142=>(∀b,s b≠none->(cutH [((hdel s (qB0 V138)),s)] (minus s h_140)) b=none->S142 b=none)->
 wC TP X 59 [V139,V141] (λV143 S144=>oK (qAF 7 t4) λV145=>oK (wr1 S144 V145 V143) λS146=>oK (qAB .add i11 (.int .i64 1)) λV147=>∃m',m'<m5/\I5 [V147] S146 m') (add S142 (rest s (cutH [((hdel s (qB0 V138)),s)] (minus s h_140))))) (cutH [((hdel s (qB0 V138)),s)] (minus s h_140)))
 (qCh X t2 t4 K s)
def qIi(X:Td)(t2 t3 t4 many6 i9:AV)(I3:IvP)(m3:Nat)(K:KvP)(s:Hq):Prop:=
 oK (qAB .lss i9 many6) λV112=>qAJ V112
 (oK (qAF 6 t4) λV113=>oK (rd1 s V113) λV114=>oK (rdN s 19 t4) λV115=>∃h_116:Hq,(∀b,h_116 b≠none->s b≠none)/\
 wC TP X 58 [t3,(.agg V115),i9] (λV117 S118=>(∀b,s b≠none->(cutH [((hdel s (qB0 V113)),s)] (minus s h_116)) b=none->S118 b=none)->
 oK (qBC (repl 1 [(.int .u64 0),(.int .u32 0),(.int .i64 0),(.int .i64 0)]) [(0,4,V117)]) λC119=>qAZ C119=true/\newK 140 C119 (λB120 S121=>(∀b,(add S118 (rest s (cutH [((hdel s (qB0 V113)),s)] (minus s h_116)))) b≠none->(add S118 (rest s (cutH [((hdel s (qB0 V113)),s)] (minus s h_116)))) b=none->S121 b=none)->
 appK 140 4 V114 (.slc B120 0 1 (some 1) 4) (λV122 S123=>oK (qAF 6 t4) λV124=>oK (wr1 S123 V124 V122) λS125=>oK (qAB .add i9 (.int .i64 1)) λV126=>∃m',m'<m3/\I3 [V126] S125 m') (add (add S118 (rest s (cutH [((hdel s (qB0 V113)),s)] (minus s h_116)))) S121)) (frz (add S118 (rest s (cutH [((hdel s (qB0 V113)),s)] (minus s h_116)))))) (cutH [((hdel s (qB0 V113)),s)] (minus s h_116)))
 (oK (qAF 3 t4) λV127=>oK (rd1 s V127) λV128=>oK (qAP V128) λV129=>oK (qAB .gtr (.int .i64 V129) (.int .i64 1)) λV131=>qAJ V131
 (wC TP X 54 [t3,(.int .i64 3)] (λV135 S136=>∃I5:IvP,(∃m,I5 [(.int .i64 0)] S136 m)/\∀(f:Env) (s:Hq) (m5:Nat),I5 [f 11] s m5->
 qIc X t2 t3 t4 V135 (.int .i64 V129) (f 11) I5 m5 K s) s)
 (qCh X t2 t4 K s))
def qJB(X:Td)(t2 t3 t4 many6 i8:AV)(I2:IvP)(m2:Nat)(K:KvP)(s:Hq):Prop:=
 oK (qAB .lss i8 many6) λV86=>qAJ V86
 (oK (qAF 5 t4) λV87=>oK (rd1 s V87) λV88=>oK (qAF 0 t4) λV89=>oK (rd1 s V89) λV90=>∃h_91:Hq,(∀b,h_91 b≠none->s b≠none)/\
 wC TP X 57 [t3,V90,(.int .i64 3)] (λV92 S93=>(∀b,s b≠none->(cutH [((hdel s (qB0 V87)),s)] (minus s h_91)) b=none->S93 b=none)->
 oK (qAF 4 t4) λV94=>oK (rd1 (cutH [(h_91,qOF)] (add S93 (rest s (cutH [((hdel s (qB0 V87)),s)] (minus s h_91))))) V94) λV95=>oK (qAP V95) λV96=>∃h_98:Hq,(∀b,h_98 b≠none->(add S93 (rest s (cutH [((hdel s (qB0 V87)),s)] (minus s h_91)))) b≠none)/\
 wC TP X 57 [t3,(.int .i64 V96),(.int .i64 4)] (λV99 S100=>(∀b,(add S93 (rest s (cutH [((hdel s (qB0 V87)),s)] (minus s h_91)))) b≠none->(cutH [((hdel s (qB0 V87)),s)] (minus (add S93 (rest s (cutH [((hdel s (qB0 V87)),s)] (minus s h_91)))) h_98)) b=none->S100 b=none)->
 oK (qBC [.nilslc,.nilslc] [(0,1,V92),(1,1,V99)]) λC101=>oK (qBC (repl 1 [.nilslc,.nilslc]) [(0,2,(.agg C101))]) λC102=>qAZ C102=true/\newK 94 C102 (λB103 S104=>(∀b,(add S100 (rest (add S93 (rest s (cutH [((hdel s (qB0 V87)),s)] (minus s h_91)))) (cutH [((hdel s (qB0 V87)),s)] (minus (add S93 (rest s (cutH [((hdel s (qB0 V87)),s)] (minus s h_91)))) h_98)))) b≠none->(add S100 (rest (add S93 (rest s (cutH [((hdel s (qB0 V87)),s)] (minus s h_91)))) (cutH [((hdel s (qB0 V87)),s)] (minus (add S93 (rest s (cutH [((hdel s (qB0 V87)),s)] (minus s h_91)))) h_98)))) b=none->S104 b=none)->
 appK 94 2 V88 (.slc B103 0 1 (some 1) 2) (λV105 S106=>oK (qAF 5 t4) λV107=>oK (wr1 S106 V107 V105) λS108=>oK (qAB .add i8 (.int .i64 1)) λV109=>∃m',m'<m2/\I2 [V109] S108 m') (add (add S100 (rest (add S93 (rest s (cutH [((hdel s (qB0 V87)),s)] (minus s h_91)))) (cutH [((hdel s (qB0 V87)),s)] (minus (add S93 (rest s (cutH [((hdel s (qB0 V87)),s)] (minus s h_91)))) h_98)))) S104)) (frz (add S100 (rest (add S93 (rest s (cutH [((hdel s (qB0 V87)),s)] (minus s h_91)))) (cutH [((hdel s (qB0 V87)),s)] (minus (add S93 (rest s (cutH [((hdel s (qB0 V87)),s)] (minus s h_91)))) h_98)))))) (cutH [((hdel s (qB0 V87)),s)] (minus (add S93 (rest s (cutH [((hdel s (qB0 V87)),s)] (minus s h_91)))) h_98))) (cutH [((hdel s (qB0 V87)),s)] (minus s h_91)))
 (wC TP X 54 [t3,(.int .i64 9)] (λV110 S111=>∃I3:IvP,(∃m,I3 [(.int .i64 0)] S111 m)/\∀(f:Env) (s:Hq) (m3:Nat),I3 [f 9] s m3->
 qIi X t2 t3 t4 V110 (f 9) I3 m3 K s) s)
def qJD(X:Td)(t2 t3 t4 many6 i7:AV)(I1:IvP)(m1:Nat)(K:KvP)(s:Hq):Prop:=
 oK (qAB .lss i7 many6) λV65=>qAJ V65
 (oK (qAF 4 t4) λV66=>oK (rd1 s V66) λV67=>oK (qAF 3 t4) λV68=>oK (rd1 s V68) λV69=>oK (qAP V69) λV70=>∃h_72:Hq,(∀b,h_72 b≠none->s b≠none)/\
 wC TP X 56 [t3,i7,(.int .i64 V70)] (λV73 S74=>(∀b,s b≠none->(cutH [((hdel s (qB0 V66)),s)] (minus s h_72)) b=none->S74 b=none)->
 oK (qBC (repl 1 [(.int .i64 0),(.int .u32 0),(.int .u32 0),(.int .u32 0),(.int .i64 0),(.int .u32 0)]) [(0,6,V73)]) λC75=>qAZ C75=true/\newK 87 C75 (λB76 S77=>(∀b,(add S74 (rest s (cutH [((hdel s (qB0 V66)),s)] (minus s h_72)))) b≠none->(add S74 (rest s (cutH [((hdel s (qB0 V66)),s)] (minus s h_72)))) b=none->S77 b=none)->
 appK 87 6 V67 (.slc B76 0 1 (some 1) 6) (λV78 S79=>oK (qAF 4 t4) λV80=>oK (wr1 S79 V80 V78) λS81=>oK (qAB .add i7 (.int .i64 1)) λV82=>∃m',m'<m1/\I1 [V82] S81 m') (add (add S74 (rest s (cutH [((hdel s (qB0 V66)),s)] (minus s h_72)))) S77)) (frz (add S74 (rest s (cutH [((hdel s (qB0 V66)),s)] (minus s h_72)))))) (cutH [((hdel s (qB0 V66)),s)] (minus s h_72)))
 (wC TP X 54 [t3,(.int .i64 5)] (λV83 S84=>oK (qAB .add (.int .i64 2) V83) λV85=>∃I2:IvP,(∃m,I2 [(.int .i64 0)] S84 m)/\∀(f:Env) (s:Hq) (m2:Nat),I2 [f 8] s m2->
 qJB X t2 t3 t4 V85 (f 8) I2 m2 K s) s)
def qI4(X:Td)(t2 t3 t4 i5:AV)(I0:IvP)(m0:Nat)(K:KvP)(s:Hq):Prop:=
 wC TP X 54 [t3,(.int .i64 3)] (λV44 S45=>oK (qAB .leq i5 V44) λV46=>qAJ V46
 (oK (qAF 3 t4) λV47=>oK (rd1 S45 V47) λV48=>oK (qAB .add (.int .i64 100) i5) λV49=>oK (qB6 .u32 V49) λV50=>oK (qAB .add (.int .i64 900) i5) λV51=>oK (qB6 .u32 V51) λV52=>oK (qBC [(.int .u32 0),(.int .u32 0)] [(0,1,V50),(1,1,V52)]) λC53=>oK (qBC (repl 1 [(.int .u32 0),(.int .u32 0)]) [(0,2,(.agg C53))]) λC54=>qAZ C54=true/\newK 117 C54 (λB55 S56=>appK 117 2 V48 (.slc B55 0 1 (some 1) 2) (λV57 S58=>oK (qAF 3 t4) λV59=>oK (wr1 S58 V59 V57) λS60=>oK (qAB .add i5 (.int .i64 1)) λV61=>∃m',m'<m0/\I0 [V61] S60 m') S56) S45)
 (wC TP X 54 [t3,(.int .i64 4)] (λV62 S63=>oK (qAB .add (.int .i64 1) V62) λV64=>∃I1:IvP,(∃m,I1 [(.int .i64 0)] S63 m)/\∀(f:Env) (s:Hq) (m1:Nat),I1 [f 7] s m1->
 qJD X t2 t3 t4 V64 (f 7) I1 m1 K s) S45)) s
def qWG(X:Td)(l0:AV)(K:KvP)(s:Hq):Prop:=
 newK 31 zR1 (λB0 S1=>oK (qBC [.nilslc,(.int .i64 0)] [(0,1,l0)]) λC2=>boxK 134 (.agg C2) (λB3 S4=>wC TP X 54 [B3,(.int .i64 3)] (λV5 S6=>oK (qAB .add (.int .i64 2) V5) λV7=>wC TP X 54 [B3,(.int .i64 3)] (λV8 S9=>oK (qAB .add (.int .i64 1) V8) λV10=>wC TP X 54 [B3,(.int .i64 3)] (λV11 S12=>wC TP X 54 [B3,(.int .i64 2)] (λV13 S14=>wC TP X 54 [B3,(.int .i64 2)] (λV15 S16=>wC TP X 54 [B3,(.int .i64 2)] (λV17 S18=>oK (negB false (eqV 0 true V17 (.int .i64 0))) λV19=>wC TP X 54 [B3,(.int .i64 3)] (λV20 S21=>oK (negB false (eqV 0 true V20 (.int .i64 1))) λV22=>oK (qBC zR1 [(0,1,V7),(1,1,V10),(8,1,V11),(9,1,V13),(10,1,V15),(11,1,V19),(12,1,V22)]) λC23=>newK 31 zR1 (λB24 S25=>oK (qBS S25 19 (.ptr B24 0) (.agg C23)) λS26=>wC TP X 54 [B3,(.int .i64 3)] (λV27 S28=>oK (qAB .add (.int .i64 1) V27) λV29=>wC TP X 54 [B3,(.int .i64 30)] (λV30 S31=>oK (qAB .add (.int .i64 40) V30) λV32=>oK (qBC [(.int .i64 0),(.int .i64 0),(.int .i64 0),(.int .i64 0),(.int .i64 0),(.int .i64 0)] [(0,1,V29),(1,1,(.int .i64 9)),(2,1,V32),(3,1,(.int .i64 20)),(4,1,(.int .i64 5)),(5,1,(.int .i64 30))]) λC33=>oK (qAF 13 (.ptr B24 0)) λV34=>oK (qBS S31 6 V34 (.agg C33)) λS35=>oK (qAF 0 (.ptr B24 0)) λV36=>oK (rd1 S35 V36) λV37=>oK (qAF 1 (.ptr B24 0)) λV38=>oK (rd1 S35 V38) λV39=>wC TP X 55 [B3,V37,V39] (λV40 S41=>oK (qAF 2 (.ptr B24 0)) λV42=>oK (wr1 S41 V42 V40) λS43=>∃I0:IvP,(∃m,I0 [(.int .i64 0)] S43 m)/\∀(f:Env) (s:Hq) (m0:Nat),I0 [f 5] s m0->
 qI4 X (.ptr B0 0) B3 (.ptr B24 0) (f 5) I0 m0 K s) S35) S28) S26) S21) S18) S16) S14) S12) S9) S6) S4) S1) s
def qPW:Nat->List Nat:=λk=>cond (Nat.beq k 12) [5] (cond (Nat.beq k 22) [7] (cond (Nat.beq k 1000075) [7] (cond (Nat.beq k 32) [8] (cond (Nat.beq k 1000094) [5,10] (cond (Nat.beq k 42) [9] (cond (Nat.beq k 1000116) [5] (cond (Nat.beq k 56) [11] (cond (Nat.beq k 1000137) [4] ([])))))))))
theorem qQi{l0:AV}{K:KvP}{s:Hq}(h:qWG XX l0 K s):wC TP XX 25 [l0] K s:=wOK qBz qPW rfl Tryz.func25 h
def qK4(X:Td)(t0 n1:AV)(K:KvP)(s:Hq):Prop:=
 oK (qAj t0) λV0=>oK (qAF 1 V0) λV1=>oK (rd1 s V1) λV2=>oK (qAj t0) λV3=>oK (qAF 0 V3) λV4=>oK (rd1 s V4) λV5=>oK (qAP V5) λV6=>oK (qAB .geq V2 (.int .i64 V6)) λV8=>qAJ V8
 (K (.int .i64 0) s)
 (oK (qAj t0) λV9=>oK (qAF 1 V9) λV10=>oK (rd1 s V10) λV11=>oK (qAB .add V11 (.int .i64 1)) λV12=>oK (qAj t0) λV13=>oK (qAF 1 V13) λV14=>oK (wr1 s V14 V12) λS15=>oK (qAj t0) λV16=>oK (qAF 0 V16) λV17=>oK (rd1 S15 V17) λV18=>oK (qAj t0) λV19=>oK (qAF 1 V19) λV20=>oK (rd1 S15 V20) λV21=>oK (qAB .sub V21 (.int .i64 1)) λV22=>oK (qAH 1 V18 V22) λV23=>oK (rd1 S15 V23) λV24=>wC TP X 26 [V24,n1] (λV25 S26=>K V25 S26) S15)
theorem qL9{t0 n1:AV}{K:KvP}{s:Hq}(h:qK4 XX t0 n1 K s):wC TP XX 54 [t0,n1] K s:=wOK qBz nA0 rfl Tryz.func54 h
def qH9(X:Td)(x7 b9:AV)(I1:IvP)(m1:Nat)(I0:IvP)(m0:Nat)(K:KvP)(s:Hq):Prop:=
 oK (qAB .add b9 (.int .i64 1)) λV5=>∃m',m'<m1/\I1 [x7,V5] s m'
def qNf(X:Td)(t0 leaves1 spines2 x7 a8 b9:AV)(I1:IvP)(m1:Nat)(I0:IvP)(m0:Nat)(K:KvP)(s:Hq):Prop:=
 oK (qAB .lss b9 spines2) λV1=>qAJ V1
 (wC TP X 54 [t0,(.int .i64 8)] (λV2 S3=>oK (negB true (eqV 0 true V2 (.int .i64 7))) λV4=>qAJ V4
 (oK (qAB .add leaves1 b9) λV6=>wC TP X 54 [t0,(.int .i64 2)] (λV7 S8=>oK (qAB .add (.int .i64 1) V7) λV9=>oK (qBC [(.int .i64 0),(.int .i64 0),(.int .i64 0)] [(0,1,a8),(1,1,V6),(2,1,V9)]) λC10=>oK (qBC (repl 1 [(.int .i64 0),(.int .i64 0),(.int .i64 0)]) [(0,3,(.agg C10))]) λC11=>qAZ C11=true/\newK 115 C11 (λB12 S13=>appK 115 3 x7 (.slc B12 0 1 (some 1) 3) (λV14 S15=>qH9 X V14 b9 I1 m1 I0 m0 K S15) S13) S8) S3)
 (qH9 X x7 b9 I1 m1 I0 m0 K S3)) s)
 (oK (qAB .add a8 (.int .i64 1)) λV16=>∃m',m'<m0/\I0 [x7,V16] s m')
def qMf(X:Td)(t0 leaves1 spines2 x7 a8:AV)(I0:IvP)(m0:Nat)(K:KvP)(s:Hq):Prop:=
 oK (qAB .lss a8 leaves1) λV0=>qAJ V0
 (∃I1:IvP,(∃m,I1 [x7,(.int .i64 0)] s m)/\∀(f:Env) (s:Hq) (m1:Nat),I1 [f 7,f 9] s m1->
 qNf X t0 leaves1 spines2 (f 7) a8 (f 9) I1 m1 I0 m0 K s)
 (K x7 s)
def qY4(X:Td)(t0 leaves1 spines2:AV)(K:KvP)(s:Hq):Prop:=
 ∃I0:IvP,(∃m,I0 [.nilslc,(.int .i64 0)] s m)/\∀(f:Env) (s:Hq) (m0:Nat),I0 [f 7,f 8] s m0->
 qMf X t0 leaves1 spines2 (f 7) (f 8) I0 m0 K s
def qQz:Nat->List Nat:=λk=>cond (Nat.beq k 6) [7,8] (cond (Nat.beq k 12) [7,9] ([]))
theorem qRt{t0 leaves1 spines2:AV}{K:KvP}{s:Hq}(h:qY4 XX t0 leaves1 spines2 K s):wC TP XX 55 [t0,leaves1,spines2] K s:=wOK qBz qQz rfl Tryz.func55 h
def qGw(X:Td)(t6 b7:AV)(K:KvP)(s:Hq):Prop:=
 oK (rdN s 6 b7) λV15=>oK (qBS s 6 t6 (.agg V15)) λS16=>oK (rdN S16 6 t6) λt6_17=>K (.agg t6_17) S16
def qVu(X:Td)(t0 i1 tenants2:AV)(K:KvP)(s:Hq):Prop:=
 newK 87 [(.int .i64 0),(.int .u32 0),(.int .u32 0),(.int .u32 0),(.int .i64 0),(.int .u32 0)] (λB0 S1=>wC TP X 54 [t0,tenants2] (λV2 S3=>oK (qAB .add (.int .i64 10) i1) λV4=>oK (qB6 .u32 V4) λV5=>oK (qAB .add (.int .i64 500) i1) λV6=>oK (qB6 .u32 V6) λV7=>oK (qBC [(.int .i64 0),(.int .u32 0),(.int .u32 0),(.int .u32 0),(.int .i64 0),(.int .u32 0)] [(0,1,V2),(1,1,V5),(2,1,V7)]) λC8=>newK 87 [(.int .i64 0),(.int .u32 0),(.int .u32 0),(.int .u32 0),(.int .i64 0),(.int .u32 0)] (λB9 S10=>oK (qBS S10 6 (.ptr B9 0) (.agg C8)) λS11=>wC TP X 54 [t0,(.int .i64 4)] (λV12 S13=>oK (negB true (eqV 0 true V12 (.int .i64 3))) λV14=>qAJ V14
 (oK (qCj .shl i1 (.int .u64 16)) λV18=>oK (qAB .add (.int .i64 167772160) V18) λV19=>oK (qB6 .u32 V19) λV20=>oK (qBC [(.int .u32 0),(.int .i64 0)] [(0,1,V20),(1,1,(.int .i64 24))]) λC21=>oK (qAF 3 (.ptr B9 0)) λV22=>oK (qBS S13 2 V22 (.agg C21)) λS23=>oK (qAF 3 (.ptr B9 0)) λV24=>oK (qAF 0 V24) λV25=>oK (rd1 S23 V25) λV26=>oK (qAB .add V26 (.int .u32 1)) λV27=>oK (qAF 5 (.ptr B9 0)) λV28=>oK (wr1 S23 V28 V27) λS29=>qGw X (.ptr B0 0) (.ptr B9 0) K S29)
 (qGw X (.ptr B0 0) (.ptr B9 0) K S13)) S11) S3) S1) s
theorem qRN{t0 i1 tenants2:AV}{K:KvP}{s:Hq}(h:qVu XX t0 i1 tenants2 K s):wC TP XX 56 [t0,i1,tenants2] K s:=wOK qBz nA0 rfl Tryz.func56 h
def qJR(X:Td)(x7 i9:AV)(I0:IvP)(m0:Nat)(K:KvP)(s:Hq):Prop:=
 oK (qAB .add i9 (.int .i64 1)) λV6=>∃m',m'<m0/\I0 [x7,V6] s m'
def qGN(X:Td)(x7 i9 t27 t30:AV)(I0:IvP)(m0:Nat)(K:KvP)(s:Hq):Prop:=
 oK (qAS t27 (.bool true) t30) λV5=>qAJ V5
 (oK (qBC (repl 1 [(.int .i64 0)]) [(0,1,i9)]) λC7=>qAZ C7=true/\newK 3 C7 (λB8 S9=>appK 3 1 x7 (.slc B8 0 1 (some 1) 1) (λV10 S11=>qJR X V10 i9 I0 m0 K S11) S9) s)
 (qJR X x7 i9 I0 m0 K s)
def qJO(X:Td)(x7:AV)(K:KvP)(s:Hq):Prop:=
 K x7 s
def qFL(X:Td)(t0 x7 x8 i9 t16 t20:AV)(I0:IvP)(m0:Nat)(K:KvP)(s:Hq):Prop:=
 oK (qAS t16 t20 (.bool false)) λV3=>qAJ V3
 (oK (negB false (eqV 0 false i9 x8)) λV4=>qAJ V4
 (qGN X x7 i9 V4 .undef I0 m0 K s)
 (wC TP X 54 [t0,(.int .i64 3)] (λV12 S13=>oK (negB false (eqV 0 true V12 (.int .i64 1))) λV14=>qGN X x7 i9 V4 V14 I0 m0 K S13) s))
 (oK (qAP x7) λV15=>oK (negB false (eqV 0 true (.int .i64 V15) (.int .i64 0))) λV17=>qAJ V17
 (oK (qBC (repl 1 [(.int .i64 0)]) [(0,1,x8)]) λC18=>qAZ C18=true/\newK 3 C18 (λB19 S20=>qJO X (.slc B19 0 1 (some 1) 1) K S20) s)
 (qJO X x7 K s))
def qOl(X:Td)(t0 n1 most2 x7 x8 i9:AV)(I0:IvP)(m0:Nat)(K:KvP)(s:Hq):Prop:=
 oK (qAB .lss i9 n1) λV2=>qAJ V2
 (oK (qAP x7) λV21=>oK (qAB .lss (.int .i64 V21) most2) λV23=>qFL X t0 x7 x8 i9 V2 V23 I0 m0 K s)
 (qFL X t0 x7 x8 i9 V2 .undef I0 m0 K s)
def zAA8(X:Td)(t0 n1 most2:AV)(K:KvP)(s:Hq):Prop:=
 wC TP X 54 [t0,n1] (λV0 S1=>∃I0:IvP,(∃m,I0 [.nilslc,(.int .i64 0)] S1 m)/\∀(f:Env) (s:Hq) (m0:Nat),I0 [f 7,f 9] s m0->
 qOl X t0 n1 most2 (f 7) V0 (f 9) I0 m0 K s) s
def qSu:Nat->List Nat:=λk=>cond (Nat.beq k 8) [7,9] ([])
theorem qVE{t0 n1 most2:AV}{K:KvP}{s:Hq}(h:zAA8 XX t0 n1 most2 K s):wC TP XX 57 [t0,n1,most2] K s:=wOK qBz qSu rfl Tryz.func57 h
def qJK(X:Td)(t6 h9:AV)(K:KvP)(s:Hq):Prop:=
 oK (rdN s 4 h9) λV39=>oK (qBS s 4 t6 (.agg V39)) λS40=>oK (rdN S40 4 t6) λt6_41=>K (.agg t6_41) S40
def qJH(X:Td)(t0 t6 h9:AV)(K:KvP)(s:Hq):Prop:=
 wC TP X 54 [t0,(.int .i64 10)] (λV36 S37=>oK (negB false (eqV 0 true V36 (.int .i64 9))) λV38=>qAJ V38
 (oK (qAF 3 h9) λV42=>oK (wr1 S37 V42 (.int .i64 (-1))) λS43=>qJK X t6 h9 K S43)
 (qJK X t6 h9 K S37)) s
def qJP(X:Td)(t0 i2 t4 t6 h9 t41 t44:AV)(K:KvP)(s:Hq):Prop:=
 oK (qAS t41 t44 (.bool false)) λV35=>qAJ V35
 (oK (qAF 4 t4) λV44=>oK (rd1 s V44) λV45=>oK (qAF 2 h9) λV46=>oK (rd1 s V46) λV47=>oK (qAH 6 V45 V47) λV48=>oK (qAF 3 V48) λV49=>oK (qAF 0 V49) λV50=>oK (rd1 s V50) λV51=>oK (qAB .add (.int .i64 10) i2) λV52=>oK (qB6 .u32 V52) λV53=>oK (qAB .add V51 V53) λV54=>oK (qAF 1 h9) λV55=>oK (wr1 s V55 V54) λS56=>qJH X t0 t6 h9 K S56)
 (qJH X t0 t6 h9 K s)
def zACF(X:Td)(t0 t1 i2:AV)(K:KvP)(s:Hq):Prop:=
 boxK 31 t1 (λB0 S1=>newK 140 [(.int .u64 0),(.int .u32 0),(.int .i64 0),(.int .i64 0)] (λB2 S3=>oK (qAF 5 B0) λV4=>oK (rd1 S3 V4) λV5=>oK (qAP V5) λV6=>wC TP X 54 [t0,(.int .i64 V6)] (λV8 S9=>oK (qAF 5 B0) λV10=>oK (rd1 S9 V10) λV11=>oK (qAH 2 V11 V8) λV12=>oK (qAF 1 V12) λV13=>oK (rd1 S9 V13) λV14=>oK (qAB .add (.int .i64 2199023951872) i2) λV15=>oK (qB6 .u64 V15) λV16=>oK (qAP V14) λV17=>wC TP X 54 [t0,(.int .i64 V17)] (λV19 S20=>oK (qAH 1 V14 V19) λV21=>oK (rd1 S20 V21) λV22=>oK (qBC [(.int .u64 0),(.int .u32 0),(.int .i64 0),(.int .i64 0)] [(0,1,V16),(2,1,V22),(3,1,V8)]) λC23=>newK 140 [(.int .u64 0),(.int .u32 0),(.int .i64 0),(.int .i64 0)] (λB24 S25=>oK (qBS S25 4 (.ptr B24 0) (.agg C23)) λS26=>oK (qAF 4 B0) λV27=>oK (rd1 S26 V27) λV28=>oK (qAF 2 (.ptr B24 0)) λV29=>oK (rd1 S26 V29) λV30=>oK (qAH 6 V28 V30) λV31=>oK (qAF 5 V31) λV32=>oK (rd1 S26 V32) λV33=>oK (negB true (eqV 0 true V33 (.int .u32 0))) λV34=>qAJ V34
 (wC TP X 54 [t0,(.int .i64 6)] (λV57 S58=>oK (negB true (eqV 0 true V57 (.int .i64 5))) λV59=>qJP X t0 i2 B0 (.ptr B2 0) (.ptr B24 0) V34 V59 K S58) S26)
 (qJP X t0 i2 B0 (.ptr B2 0) (.ptr B24 0) V34 .undef K S26)) S20) S9) S3) S1) s
theorem qVJ{t0 t1 i2:AV}{K:KvP}{s:Hq}(h:zACF XX t0 t1 i2 K s):wC TP XX 58 [t0,t1,i2] K s:=wOK qBz nA0 rfl Tryz.func58 h
def qNc(X:Td)(l0 x3 i5:AV)(I0:IvP)(m0:Nat)(K:KvP)(s:Hq):Prop:=
 oK (qAP l0) λV2=>oK (qAB .lss i5 (.int .i64 V2)) λV4=>qAJ V4
 (oK (qAH 4 l0 i5) λV5=>oK (rdN s 4 V5) λV6=>oK (rdN s 4 x3) λV7=>oK (negB false (qGC TP 144 (.agg V6) (.agg V7))) λV8=>qAJ V8
 (K l0 s)
 (oK (qAB .add i5 (.int .i64 1)) λV9=>∃m',m'<m0/\I0 [V9] s m'))
 (oK (rdN s 4 x3) λV10=>oK (qBC (repl 1 [(.int .i64 0),(.int .i64 0),(.int .u32 0),(.int .i64 0)]) [(0,4,(.agg V10))]) λC11=>qAZ C11=true/\newK 144 C11 (λB12 S13=>appK 144 4 l0 (.slc B12 0 1 (some 1) 4) (λV14 S15=>K V14 S15) S13) s)
def qZK(X:Td)(l0 x1:AV)(K:KvP)(s:Hq):Prop:=
 boxK 144 x1 (λB0 S1=>∃I0:IvP,(∃m,I0 [(.int .i64 0)] S1 m)/\∀(f:Env) (s:Hq) (m0:Nat),I0 [f 5] s m0->
 qNc X l0 B0 (f 5) I0 m0 K s) s
def qRh:Nat->List Nat:=λk=>cond (Nat.beq k 4) [5] ([])
theorem qR7{l0 x1:AV}{K:KvP}{s:Hq}(h:qZK XX l0 x1 K s):wC TP XX 59 [l0,x1] K s:=wOK qBz qRh rfl Tryz.func59 h
def qJQ(X:Td)(t4 x6:AV)(K:KvP)(s:Hq):Prop:=
 oK (rdN s 4 x6) λV17=>oK (qBS s 4 t4 (.agg V17)) λS18=>oK (rdN S18 4 t4) λt4_19=>K (.agg t4_19) S18
def zAA7(X:Td)(t0 tenants1:AV)(K:KvP)(s:Hq):Prop:=
 newK 144 [(.int .i64 0),(.int .i64 0),(.int .u32 0),(.int .i64 0)] (λB0 S1=>wC TP X 54 [t0,tenants1] (λV2 S3=>oK (qAB .add V2 (.int .i64 1)) λV4=>oK (qAB .sub tenants1 (.int .i64 1)) λV5=>wC TP X 54 [t0,V5] (λV6 S7=>oK (qAB .add V4 V6) λV8=>oK (qAB .rem V8 tenants1) λV9=>oK (qBC [(.int .i64 0),(.int .i64 0),(.int .u32 0),(.int .i64 0)] [(0,1,V2),(1,1,V9)]) λC10=>newK 144 [(.int .i64 0),(.int .i64 0),(.int .u32 0),(.int .i64 0)] (λB11 S12=>oK (qBS S12 4 (.ptr B11 0) (.agg C10)) λS13=>wC TP X 54 [t0,(.int .i64 2)] (λV14 S15=>oK (negB false (eqV 0 true V14 (.int .i64 0))) λV16=>qAJ V16
 (wC TP X 54 [t0,(.int .i64 4)] (λV20 S21=>oK (qCj .shl V20 (.int .u64 16)) λV22=>oK (qAB .add (.int .i64 167772160) V22) λV23=>oK (qB6 .u32 V23) λV24=>oK (qBC [(.int .u32 0),(.int .i64 0)] [(0,1,V24),(1,1,(.int .i64 16))]) λC25=>oK (qAF 2 (.ptr B11 0)) λV26=>oK (qBS S21 2 V26 (.agg C25)) λS27=>qJQ X (.ptr B0 0) (.ptr B11 0) K S27) S15)
 (qJQ X (.ptr B0 0) (.ptr B11 0) K S15)) S13) S7) S3) S1) s
theorem qUc{t0 tenants1:AV}{K:KvP}{s:Hq}(h:zAA7 XX t0 tenants1 K s):wC TP XX 60 [t0,tenants1] K s:=wOK qBz nA0 rfl Tryz.func60 h
def qZ7(X:Td)(x0 n1:AV)(K:KvP)(s:Hq):Prop:=
 oK (qAB .leq n1 (.int .i64 0)) λV0=>qAJ V0
 (K (.int .i64 0) s)
 (oK (qAB .rem x0 n1) λV1=>oK (qAB .add V1 n1) λV2=>oK (qAB .rem V2 n1) λV3=>K V3 s)
theorem qVg{x0 n1:AV}{K:KvP}{s:Hq}(h:qZ7 XX x0 n1 K s):wC TP XX 26 [x0,n1] K s:=wOK qBz nA0 rfl Tryz.func26 h
def qQk(X:Td)(K:KvP)(s:Hq):Prop:=
 oK (qBC (repl 8 [.nilFunc]) [(0,1,(.fn (.func 87) [] [])),(1,1,(.fn (.func 88) [] [])),(2,1,(.fn (.func 89) [] [])),(3,1,(.fn (.func 90) [] [])),(4,1,(.fn (.func 91) [] [])),(5,1,(.fn (.func 92) [] [])),(6,1,(.fn (.func 93) [] [])),(7,1,(.fn (.func 94) [] []))]) λC0=>qAZ C0=true/\newK 153 C0 (λB1 S2=>K (.slc B1 0 8 (some 8) 1) S2) s
theorem qQ7{X:Td}(hX:FrX X)(hn:X 62=none){K:KvP}{s:Hq}(h:qQk X K s):wC TP X 62 [] K s:=
 wOK hX nA0 hn Tryz.func62 h
def qK0(X:Td)(t10 t13:AV)(K:KvP)(s:Hq):Prop:=
 oK (qAS t10 (.bool true) t13) λV1=>K V1 s
def qO4(X:Td)(n0 low1 high2:AV)(K:KvP)(s:Hq):Prop:=
 oK (qAB .lss n0 low1) λV0=>qAJ V0
 (qK0 X V0 .undef K s)
 (oK (qAB .gtr n0 high2) λV2=>qK0 X V0 V2 K s)
theorem qPz{X:Td}(hX:FrX X)(hn:X 108=none){n0 low1 high2:AV}{K:KvP}{s:Hq}(h:qO4 X n0 low1 high2 K s):wC TP X 108 [n0,low1,high2] K s:=
 wOK hX nA0 hn Tryz.func108 h
def qFC(X:Td)(key1 seen5 again6 t16 t17 t18:AV)(I0:IvP)(m0:Nat)(K:KvP)(s:Hq):Prop:=
 oK (qAB .lss t18 t17) λV12=>qAJ V12
 (oK (qAH 3 t16 t18) λV13=>oK (rdN s 3 V13) λV14=>newK 115 [(.int .i64 0),(.int .i64 0),(.int .i64 0)] (λB15 S16=>oK (qBS S16 3 (.ptr B15 0) (.agg V14)) λS17=>oK (rdN S17 3 (.ptr B15 0)) λV18=>funK TP X key1 [(.agg V18)] (λV19 S20=>newK 187 [(.int .i64 0),(.int .i64 0)] (λB21 S22=>oK (qBS S22 2 (.ptr B21 0) V19) λS23=>oK (rdN S23 2 (.ptr B21 0)) λV24=>oK (getG TP 187 S23 seen5 (.agg V24)) λr_25=>oK (qAH 1 again6 t18) λV26=>oK (wr1 S23 V26 (retM (.bool false) false r_25)) λS27=>oK (rdN S27 2 (.ptr B21 0)) λV28=>oK (putG TP 187 S27 seen5 (.agg V28) (.bool true)) λS29=>oK (qAB .add t18 (.int .i64 1)) λV30=>∃m',m'<m0/\I0 [V30] S29 m') S20) S17) s)
 (K again6 s)
def qGb(X:Td)(l0 key1:AV)(K:KvP)(s:Hq):Prop:=
 oK (qAP l0) λV0=>intK (.int .i64 V0) (mapK (λV2 S3=>oK (qAP l0) λV4=>oK (nat? (.int .i64 V4)) λn_6=>oK (nat? (.int .i64 V4)) λn_7=>(n_6<=n_7/\n_7<=4294967296)/\newK 4 (repl n_7 [(.bool false)]) (λB8 S9=>oK (qAP l0) λV10=>∃I0:IvP,(∃m,I0 [(.int .i64 0)] S9 m)/\∀(f:Env) (s:Hq) (m0:Nat),I0 [f 18] s m0->
 qFC X key1 V2 (.slc B8 0 n_6 (some n_7) 1) l0 (.int .i64 V10) (f 18) I0 m0 K s) S3) s)
def qHo:Nat->List Nat:=λk=>cond (Nat.beq k 8) [18] ([])
theorem qIZ{X:Td}(hX:FrX X)(hn:X 109=none){l0 key1:AV}{K:KvP}{s:Hq}(h:qGb X l0 key1 K s):wC TP X 109 [l0,key1] K s:=
 wOK hX qHo hn Tryz.func109 h
def qVM(X:Td)(l0:AV)(K:KvP)(s:Hq):Prop:=
 boxK 115 l0 (λB0 S1=>newK 187 [(.int .i64 0),(.int .i64 0)] (λB2 S3=>oK (qAF 0 B0) λV4=>oK (rd1 S3 V4) λV5=>oK (qAF 1 B0) λV6=>oK (rd1 S3 V6) λV7=>oK (qBC [(.int .i64 0),(.int .i64 0)] [(0,1,V5),(1,1,V7)]) λC8=>oK (qBS S3 2 (.ptr B2 0) (.agg C8)) λS9=>oK (rdN S9 2 (.ptr B2 0)) λt2_10=>K (.agg t2_10) S9) S1) s
theorem qPk{X:Td}(hX:FrX X)(hn:X 110=none){l0:AV}{K:KvP}{s:Hq}(h:qVM X l0 K s):wC TP X 110 [l0] K s:=
 wOK hX nA0 hn Tryz.func110 h
def qEh(X:Td)(key1 seen5 again6 t16 t17 t18:AV)(I0:IvP)(m0:Nat)(K:KvP)(s:Hq):Prop:=
 oK (qAB .lss t18 t17) λV12=>qAJ V12
 (oK (qAH 2 t16 t18) λV13=>oK (rdN s 2 V13) λV14=>newK 117 [(.int .u32 0),(.int .u32 0)] (λB15 S16=>oK (qBS S16 2 (.ptr B15 0) (.agg V14)) λS17=>oK (rdN S17 2 (.ptr B15 0)) λV18=>funK TP X key1 [(.agg V18)] (λV19 S20=>oK (getM S20 seen5 V19) λr_21=>oK (qAH 1 again6 t18) λV22=>oK (wr1 S20 V22 (retM (.bool false) false r_21)) λS23=>oK (putM S23 seen5 V19 (.bool true)) λS24=>oK (qAB .add t18 (.int .i64 1)) λV25=>∃m',m'<m0/\I0 [V25] S24 m') S17) s)
 (K again6 s)
def qFl(X:Td)(l0 key1:AV)(K:KvP)(s:Hq):Prop:=
 oK (qAP l0) λV0=>intK (.int .i64 V0) (mapK (λV2 S3=>oK (qAP l0) λV4=>oK (nat? (.int .i64 V4)) λn_6=>oK (nat? (.int .i64 V4)) λn_7=>(n_6<=n_7/\n_7<=4294967296)/\newK 4 (repl n_7 [(.bool false)]) (λB8 S9=>oK (qAP l0) λV10=>∃I0:IvP,(∃m,I0 [(.int .i64 0)] S9 m)/\∀(f:Env) (s:Hq) (m0:Nat),I0 [f 18] s m0->
 qEh X key1 V2 (.slc B8 0 n_6 (some n_7) 1) l0 (.int .i64 V10) (f 18) I0 m0 K s) S3) s)
def qG9:Nat->List Nat:=λk=>cond (Nat.beq k 8) [18] ([])
theorem qHd{X:Td}(hX:FrX X)(hn:X 111=none){l0 key1:AV}{K:KvP}{s:Hq}(h:qFl X l0 key1 K s):wC TP X 111 [l0,key1] K s:=
 wOK hX qG9 hn Tryz.func111 h
def qQs(X:Td)(t0:AV)(K:KvP)(s:Hq):Prop:=
 boxK 117 t0 (λB0 S1=>oK (qAF 0 B0) λV2=>oK (rd1 S1 V2) λV3=>K V3 S1) s
theorem qMv{X:Td}(hX:FrX X)(hn:X 112=none){t0:AV}{K:KvP}{s:Hq}(h:qQs X t0 K s):wC TP X 112 [t0] K s:=
 wOK hX nA0 hn Tryz.func112 h
def qNT(X:Td)(t0:AV)(K:KvP)(s:Hq):Prop:=
 boxK 117 t0 (λB0 S1=>oK (qAF 1 B0) λV2=>oK (rd1 S1 V2) λV3=>K V3 S1) s
theorem qKx{X:Td}(hX:FrX X)(hn:X 113=none){t0:AV}{K:KvP}{s:Hq}(h:qNT X t0 K s):wC TP X 113 [t0] K s:=
 wOK hX nA0 hn Tryz.func113 h
def qF2(X:Td)(key1 seen5 again6 t16 t17 t18:AV)(I0:IvP)(m0:Nat)(K:KvP)(s:Hq):Prop:=
 oK (qAB .lss t18 t17) λV12=>qAJ V12
 (oK (qAH 6 t16 t18) λV13=>oK (rdN s 6 V13) λV14=>newK 87 [(.int .i64 0),(.int .u32 0),(.int .u32 0),(.int .u32 0),(.int .i64 0),(.int .u32 0)] (λB15 S16=>oK (qBS S16 6 (.ptr B15 0) (.agg V14)) λS17=>oK (rdN S17 6 (.ptr B15 0)) λV18=>funK TP X key1 [(.agg V18)] (λV19 S20=>oK (getM S20 seen5 V19) λr_21=>oK (qAH 1 again6 t18) λV22=>oK (wr1 S20 V22 (retM (.bool false) false r_21)) λS23=>oK (putM S23 seen5 V19 (.bool true)) λS24=>oK (qAB .add t18 (.int .i64 1)) λV25=>∃m',m'<m0/\I0 [V25] S24 m') S17) s)
 (K again6 s)
def qHf(X:Td)(l0 key1:AV)(K:KvP)(s:Hq):Prop:=
 oK (qAP l0) λV0=>intK (.int .i64 V0) (mapK (λV2 S3=>oK (qAP l0) λV4=>oK (nat? (.int .i64 V4)) λn_6=>oK (nat? (.int .i64 V4)) λn_7=>(n_6<=n_7/\n_7<=4294967296)/\newK 4 (repl n_7 [(.bool false)]) (λB8 S9=>oK (qAP l0) λV10=>∃I0:IvP,(∃m,I0 [(.int .i64 0)] S9 m)/\∀(f:Env) (s:Hq) (m0:Nat),I0 [f 18] s m0->
 qF2 X key1 V2 (.slc B8 0 n_6 (some n_7) 1) l0 (.int .i64 V10) (f 18) I0 m0 K s) S3) s)
def qI5:Nat->List Nat:=λk=>cond (Nat.beq k 8) [18] ([])
theorem qJb{X:Td}(hX:FrX X)(hn:X 114=none){l0 key1:AV}{K:KvP}{s:Hq}(h:qHf X l0 key1 K s):wC TP X 114 [l0,key1] K s:=
 wOK hX qI5 hn Tryz.func114 h
def qQy(X:Td)(b0:AV)(K:KvP)(s:Hq):Prop:=
 boxK 87 b0 (λB0 S1=>oK (qAF 1 B0) λV2=>oK (rd1 S1 V2) λV3=>K V3 S1) s
theorem qNh{X:Td}(hX:FrX X)(hn:X 115=none){b0:AV}{K:KvP}{s:Hq}(h:qQy X b0 K s):wC TP X 115 [b0] K s:=
 wOK hX nA0 hn Tryz.func115 h
def qNo(X:Td)(b0:AV)(K:KvP)(s:Hq):Prop:=
 boxK 87 b0 (λB0 S1=>oK (qAF 2 B0) λV2=>oK (rd1 S1 V2) λV3=>K V3 S1) s
theorem qKZ{X:Td}(hX:FrX X)(hn:X 116=none){b0:AV}{K:KvP}{s:Hq}(h:qNo X b0 K s):wC TP X 116 [b0] K s:=
 wOK hX nA0 hn Tryz.func116 h
def qHN(X:Td)(l0 key1 k2:AV)(K:KvP)(s:Hq):Prop:=
 boxK 190 key1 (λB0 S1=>boxK 41 k2 (λB2 S3=>wC TP X 170 [l0,(.fn (.func 171) [] [B0,B2])] (λV4 S5=>K V4 S5) S3) S1) s
theorem qGF{X:Td}(hX:FrX X)(hn:X 117=none){l0 key1 k2:AV}{K:KvP}{s:Hq}(h:qHN X l0 key1 k2 K s):wC TP X 117 [l0,key1,k2] K s:=
 wOK hX nA0 hn Tryz.func117 h
def qND(X:Td)(t12 t15:AV)(K:KvP)(s:Hq):Prop:=
 oK (qAS t12 t15 (.bool false)) λV11=>K V11 s
def qYS(X:Td)(p0:AV)(K:KvP)(s:Hq):Prop:=
 boxK 71 p0 (λB0 S1=>oK (rdN S1 2 B0) λV2=>wC TP X 172 [(.agg V2)] (λV3 S4=>oK (qAh V3 0) λV5=>oK (qAh V3 1) λV6=>newK 71 [(.int .u32 0),(.int .i64 0)] (λB7 S8=>oK (qBS S8 2 (.ptr B7 0) V5) λS9=>oK (negB false (eqV 0 true V6 (.int .i64 0))) λV10=>qAJ V10
 (oK (rdN S9 2 (.ptr B7 0)) λV12=>oK (rdN S9 2 B0) λV13=>oK (negB false (qGC TP 71 (.agg V12) (.agg V13))) λV14=>qND X V10 V14 K S9)
 (qND X V10 .undef K S9)) S4) S1) s
theorem qS0{X:Td}(hX:FrX X)(hn:X 118=none){p0:AV}{K:KvP}{s:Hq}(h:qYS X p0 K s):wC TP X 118 [p0] K s:=
 wOK hX nA0 hn Tryz.func118 h
def qKI(X:Td)(t23 t26:AV)(K:KvP)(s:Hq):Prop:=
 oK (qAS t23 t26 (.bool false)) λV14=>K V14 s
def qJy(X:Td)(ip1 last5 t17 t21:AV)(K:KvP)(s:Hq):Prop:=
 oK (qAS t17 t21 (.bool false)) λV13=>qAJ V13
 (oK (negB true (eqV 0 false ip1 last5)) λV15=>qKI X V13 V15 K s)
 (qKI X V13 .undef K s)
def qZJ(X:Td)(p0 ip1:AV)(K:KvP)(s:Hq):Prop:=
 boxK 71 p0 (λB0 S1=>oK (qAF 0 B0) λV2=>oK (rd1 S1 V2) λV3=>oK (qAF 1 B0) λV4=>oK (rd1 S1 V4) λV5=>oK (qAB .sub (.int .i64 32) V5) λV6=>oK (qCj .shl (.int .u32 1) V6) λV7=>oK (qAB .sub V7 (.int .u32 1)) λV8=>oK (qAB .or V3 V8) λV9=>oK (rdN S1 2 B0) λV10=>wC TP X 122 [(.agg V10),ip1] (λV11 S12=>qAJ V11
 (oK (qAF 0 B0) λV16=>oK (rd1 S12 V16) λV17=>oK (negB true (eqV 0 false ip1 V17)) λV18=>qJy X ip1 V9 V11 V18 K S12)
 (qJy X ip1 V9 V11 .undef K S12)) S1) s
theorem qSx{X:Td}(hX:FrX X)(hn:X 119=none){p0 ip1:AV}{K:KvP}{s:Hq}(h:qZJ X p0 ip1 K s):wC TP X 119 [p0,ip1] K s:=
 wOK hX nA0 hn Tryz.func119 h
def qCy(X:Td)(t0 t1:AV)(K:KvP)(s:Hq):Prop:=
 wC TP X 173 [t0,t1] (λV0 S1=>oK (qAB .geq V0 (.int .i64 0)) λV2=>K V2 S1) s
theorem qET{X:Td}(hX:FrX X)(hn:X 120=none){t0 t1:AV}{K:KvP}{s:Hq}(h:qCy X t0 t1 K s):wC TP X 120 [t0,t1] K s:=
 wOK hX nA0 hn Tryz.func120 h
def qI1(X:Td)(t14 t21 t27:AV)(K:KvP)(s:Hq):Prop:=
 oK (qAS t21 (.bool true) t27) λV15=>oK (qAS t14 V15 (.bool false)) λV16=>K V16 s
def qEt(X:Td)(t1 x2 t9 t12:AV)(K:KvP)(s:Hq):Prop:=
 oK (qAS t9 t12 (.bool false)) λV7=>qAJ V7
 (oK (qAF 3 x2) λV8=>oK (rdN s 2 V8) λV9=>oK (qAF 3 t1) λV10=>oK (qAF 0 V10) λV11=>oK (rd1 s V11) λV12=>wC TP X 122 [(.agg V9),V12] (λV13 S14=>qAJ V13
 (qI1 X V7 V13 .undef K S14)
 (oK (qAF 3 t1) λV17=>oK (rdN S14 2 V17) λV18=>oK (qAF 3 x2) λV19=>oK (qAF 0 V19) λV20=>oK (rd1 S14 V20) λV21=>wC TP X 122 [(.agg V18),V21] (λV22 S23=>qI1 X V7 V13 V22 K S23) S14)) s)
 (oK (qAS V7 .undef (.bool false)) λV24=>K V24 s)
def qQj(X:Td)(x0 t1:AV)(K:KvP)(s:Hq):Prop:=
 boxK 87 x0 (λB0 S1=>oK (qAF 0 B0) λV2=>oK (rd1 S1 V2) λV3=>oK (qAF 0 t1) λV4=>oK (rd1 S1 V4) λV5=>oK (negB false (eqV 0 false V3 V5)) λV6=>qAJ V6
 (oK (qAF 5 B0) λV25=>oK (rd1 S1 V25) λV26=>oK (negB true (eqV 0 true V26 (.int .u32 0))) λV27=>qEt X t1 B0 V6 V27 K S1)
 (qEt X t1 B0 V6 .undef K S1)) s
theorem qNe{X:Td}(hX:FrX X)(hn:X 121=none){x0 t1:AV}{K:KvP}{s:Hq}(h:qQj X x0 t1 K s):wC TP X 121 [x0,t1] K s:=
 wOK hX nA0 hn Tryz.func121 h
def qMI(X:Td)(p0 ip1:AV)(K:KvP)(s:Hq):Prop:=
 boxK 71 p0 (λB0 S1=>oK (rdN S1 2 B0) λV2=>wC TP X 174 [(.agg V2)] (λV3 S4=>qAJ V3
 (oK (qAF 0 B0) λV5=>oK (rd1 S4 V5) λV6=>oK (qAB .xor V6 ip1) λV7=>oK (qAF 1 B0) λV8=>oK (rd1 S4 V8) λV9=>wC TP X 175 [V9] (λV10 S11=>(∀b,S4 b≠none->S4 b=none->S11 b=none)->
 oK (qAB .and V7 V10) λV12=>oK (negB false (eqV 0 true V12 (.int .u32 0))) λV13=>oK (qAS V3 V13 (.bool false)) λV14=>K V14 (add S4 S11)) (frz S4))
 (oK (qAS V3 .undef (.bool false)) λV15=>K V15 S4)) S1) s
theorem qJr{X:Td}(hX:FrX X)(hn:X 122=none){p0 ip1:AV}{K:KvP}{s:Hq}(h:qMI X p0 ip1 K s):wC TP X 122 [p0,ip1] K s:=
 wOK hX nA0 hn Tryz.func122 h
def qEB(X:Td)(t0 t1:AV)(K:KvP)(s:Hq):Prop:=
 wC TP X 176 [t0,t1] (λV0 S1=>oK (qAB .geq V0 (.int .i64 0)) λV2=>K V2 S1) s
theorem qFp{X:Td}(hX:FrX X)(hn:X 123=none){t0 t1:AV}{K:KvP}{s:Hq}(h:qEB X t0 t1 K s):wC TP X 123 [t0,t1] K s:=
 wOK hX nA0 hn Tryz.func123 h
def qKs(X:Td)(n0 t1:AV)(K:KvP)(s:Hq):Prop:=
 oK (qAF 0 t1) λV0=>oK (rd1 s V0) λV1=>wC TP X 76 [n0,V1] (λV2 S3=>oK (qBV .not V2) λV4=>K V4 S3) s
theorem qMK{X:Td}(hX:FrX X)(hn:X 124=none){n0 t1:AV}{K:KvP}{s:Hq}(h:qKs X n0 t1 K s):wC TP X 124 [n0,t1] K s:=
 wOK hX nA0 hn Tryz.func124 h
def qKL(X:Td)(b0 t1:AV)(K:KvP)(s:Hq):Prop:=
 oK (qAF 4 t1) λV0=>oK (rd1 s V0) λV1=>oK (qAP V1) λV2=>wC TP X 76 [b0,(.int .i64 V2)] (λV4 S5=>oK (qBV .not V4) λV6=>K V6 S5) s
theorem qL7{X:Td}(hX:FrX X)(hn:X 125=none){b0 t1:AV}{K:KvP}{s:Hq}(h:qKL X b0 t1 K s):wC TP X 125 [b0,t1] K s:=
 wOK hX nA0 hn Tryz.func125 h
def qIq(X:Td)(l0 i3:AV)(I0:IvP)(m0:Nat)(K:KvP)(s:Hq):Prop:=
 oK (qAP l0) λV0=>oK (qAB .lss i3 (.int .i64 V0)) λV2=>qAJ V2
 (oK (qAH 1 l0 i3) λV3=>oK (rd1 s V3) λV4=>oK (qAB .sub i3 (.int .i64 1)) λV5=>oK (qAH 1 l0 V5) λV6=>oK (rd1 s V6) λV7=>oK (qAB .leq V4 V7) λV8=>qAJ V8
 (K (.bool false) s)
 (oK (qAB .add i3 (.int .i64 1)) λV9=>∃m',m'<m0/\I0 [V9] s m'))
 (K (.bool true) s)
def qL6(X:Td)(l0:AV)(K:KvP)(s:Hq):Prop:=
 ∃I0:IvP,(∃m,I0 [(.int .i64 1)] s m)/\∀(f:Env) (s:Hq) (m0:Nat),I0 [f 3] s m0->
 qIq X l0 (f 3) I0 m0 K s
def qMJ:Nat->List Nat:=λk=>cond (Nat.beq k 4) [3] ([])
theorem qNV{X:Td}(hX:FrX X)(hn:X 126=none){l0:AV}{K:KvP}{s:Hq}(h:qL6 X l0 K s):wC TP X 126 [l0] K s:=
 wOK hX qMJ hn Tryz.func126 h
def qDl(X:Td)(key1 seen5 again6 t16 t17 t18:AV)(I0:IvP)(m0:Nat)(K:KvP)(s:Hq):Prop:=
 oK (qAB .lss t18 t17) λV12=>qAJ V12
 (oK (qAH 4 t16 t18) λV13=>oK (rdN s 4 V13) λV14=>newK 140 [(.int .u64 0),(.int .u32 0),(.int .i64 0),(.int .i64 0)] (λB15 S16=>oK (qBS S16 4 (.ptr B15 0) (.agg V14)) λS17=>oK (rdN S17 4 (.ptr B15 0)) λV18=>funK TP X key1 [(.agg V18)] (λV19 S20=>newK 203 [(.int .i64 0),(.int .u64 0)] (λB21 S22=>oK (qBS S22 2 (.ptr B21 0) V19) λS23=>oK (rdN S23 2 (.ptr B21 0)) λV24=>oK (getG TP 203 S23 seen5 (.agg V24)) λr_25=>oK (qAH 1 again6 t18) λV26=>oK (wr1 S23 V26 (retM (.bool false) false r_25)) λS27=>oK (rdN S27 2 (.ptr B21 0)) λV28=>oK (putG TP 203 S27 seen5 (.agg V28) (.bool true)) λS29=>oK (qAB .add t18 (.int .i64 1)) λV30=>∃m',m'<m0/\I0 [V30] S29 m') S20) S17) s)
 (K again6 s)
def qEN(X:Td)(l0 key1:AV)(K:KvP)(s:Hq):Prop:=
 oK (qAP l0) λV0=>intK (.int .i64 V0) (mapK (λV2 S3=>oK (qAP l0) λV4=>oK (nat? (.int .i64 V4)) λn_6=>oK (nat? (.int .i64 V4)) λn_7=>(n_6<=n_7/\n_7<=4294967296)/\newK 4 (repl n_7 [(.bool false)]) (λB8 S9=>oK (qAP l0) λV10=>∃I0:IvP,(∃m,I0 [(.int .i64 0)] S9 m)/\∀(f:Env) (s:Hq) (m0:Nat),I0 [f 18] s m0->
 qDl X key1 V2 (.slc B8 0 n_6 (some n_7) 1) l0 (.int .i64 V10) (f 18) I0 m0 K s) S3) s)
def qFt:Nat->List Nat:=λk=>cond (Nat.beq k 8) [18] ([])
theorem qF6{X:Td}(hX:FrX X)(hn:X 127=none){l0 key1:AV}{K:KvP}{s:Hq}(h:qEN X l0 key1 K s):wC TP X 127 [l0,key1] K s:=
 wOK hX qFt hn Tryz.func127 h
def qVH(X:Td)(h0:AV)(K:KvP)(s:Hq):Prop:=
 boxK 140 h0 (λB0 S1=>newK 203 [(.int .i64 0),(.int .u64 0)] (λB2 S3=>oK (qAF 2 B0) λV4=>oK (rd1 S3 V4) λV5=>oK (qAF 0 B0) λV6=>oK (rd1 S3 V6) λV7=>oK (qBC [(.int .i64 0),(.int .u64 0)] [(0,1,V5),(1,1,V7)]) λC8=>oK (qBS S3 2 (.ptr B2 0) (.agg C8)) λS9=>oK (rdN S9 2 (.ptr B2 0)) λt2_10=>K (.agg t2_10) S9) S1) s
theorem qPI{X:Td}(hX:FrX X)(hn:X 128=none){h0:AV}{K:KvP}{s:Hq}(h:qVH X h0 K s):wC TP X 128 [h0] K s:=
 wOK hX nA0 hn Tryz.func128 h
def qUB(X:Td)(h0:AV)(K:KvP)(s:Hq):Prop:=
 boxK 140 h0 (λB0 S1=>newK 203 [(.int .i64 0),(.int .u64 0)] (λB2 S3=>oK (qAF 2 B0) λV4=>oK (rd1 S3 V4) λV5=>oK (qAF 1 B0) λV6=>oK (rd1 S3 V6) λV7=>oK (qB6 .u64 V7) λV8=>oK (qBC [(.int .i64 0),(.int .u64 0)] [(0,1,V5),(1,1,V8)]) λC9=>oK (qBS S3 2 (.ptr B2 0) (.agg C9)) λS10=>oK (rdN S10 2 (.ptr B2 0)) λt2_11=>K (.agg t2_11) S10) S1) s
theorem qP6{X:Td}(hX:FrX X)(hn:X 129=none){h0:AV}{K:KvP}{s:Hq}(h:qUB X h0 K s):wC TP X 129 [h0] K s:=
 wOK hX nA0 hn Tryz.func129 h
def qF0(X:Td)(t5 t9:AV)(K:KvP)(s:Hq):Prop:=
 oK (qAS t5 t9 (.bool false)) λV1=>K V1 s
def qHi(X:Td)(t0:AV)(K:KvP)(s:Hq):Prop:=
 oK (qAB .leq t0 (.int .u64 281474976710655)) λV0=>qAJ V0
 (oK (qCj .shr t0 (.int .u64 40)) λV2=>oK (qAB .and V2 (.int .u64 1)) λV3=>oK (negB true (eqV 0 true V3 (.int .u64 0))) λV4=>qF0 X V0 V4 K s)
 (qF0 X V0 .undef K s)
theorem qJe{X:Td}(hX:FrX X)(hn:X 130=none){t0:AV}{K:KvP}{s:Hq}(h:qHi X t0 K s):wC TP X 130 [t0] K s:=
 wOK hX nA0 hn Tryz.func130 h
def qFE(X:Td)(t0 v1:AV)(K:KvP)(s:Hq):Prop:=
 wC TP X 63 [t0,v1] (λV0 S1=>oK (qAB .geq V0 (.int .i64 0)) λV2=>K V2 S1) s
theorem qHM{X:Td}(hX:FrX X)(hn:X 32=none){t0 v1:AV}{K:KvP}{s:Hq}(h:qFE X t0 v1 K s):wC TP X 32 [t0,v1] K s:=
 wOK hX nA0 hn Tryz.func32 h
def qCe(X:Td)(t0 t6 t8:AV)(K:KvP)(s:Hq):Prop:=
 oK (qAS t6 (.bool true) t8) λV1=>qAJ V1
 (K (.tup [(.int .i64 0),(.bool false)]) s)
 (oK (qAB .sub t0 (.int .u64 2199023255552)) λV2=>oK (qB6 .i64 V2) λV3=>K (.tup [V3,(.bool true)]) s)
def qGs(X:Td)(t0:AV)(K:KvP)(s:Hq):Prop:=
 oK (qAB .lss t0 (.int .u64 2199023255552)) λV0=>qAJ V0
 (qCe X t0 V0 .undef K s)
 (oK (qAB .geq t0 (.int .u64 2199023255584)) λV4=>qCe X t0 V0 V4 K s)
theorem qIt{X:Td}(hX:FrX X)(hn:X 131=none){t0:AV}{K:KvP}{s:Hq}(h:qGs X t0 K s):wC TP X 131 [t0] K s:=
 wOK hX nA0 hn Tryz.func131 h
def qI7(X:Td)(t16 t20:AV)(K:KvP)(s:Hq):Prop:=
 oK (qAS t16 t20 (.bool false)) λV7=>K V7 s
def qEu(X:Td)(ip1 b2 t10 t14:AV)(K:KvP)(s:Hq):Prop:=
 oK (qAS t10 t14 (.bool false)) λV6=>qAJ V6
 (oK (qAF 3 b2) λV8=>oK (rdN s 2 V8) λV9=>wC TP X 119 [(.agg V9),ip1] (λV10 S11=>qI7 X V6 V10 K S11) s)
 (qI7 X V6 .undef K s)
def qQx(X:Td)(b0 ip1:AV)(K:KvP)(s:Hq):Prop:=
 boxK 87 b0 (λB0 S1=>oK (negB false (eqV 0 true ip1 (.int .u32 0))) λV2=>qAJ V2
 (K (.bool true) S1)
 (oK (qAF 5 B0) λV3=>oK (rd1 S1 V3) λV4=>oK (negB true (eqV 0 true V4 (.int .u32 0))) λV5=>qAJ V5
 (oK (qAF 5 B0) λV12=>oK (rd1 S1 V12) λV13=>oK (negB true (eqV 0 false ip1 V13)) λV14=>qEu X ip1 B0 V5 V14 K S1)
 (qEu X ip1 B0 V5 .undef K S1))) s
theorem qM0{X:Td}(hX:FrX X)(hn:X 132=none){b0 ip1:AV}{K:KvP}{s:Hq}(h:qQx X b0 ip1 K s):wC TP X 132 [b0,ip1] K s:=
 wOK hX nA0 hn Tryz.func132 h
def qEb(X:Td)(key1 seen5 again6 t16 t17 t18:AV)(I0:IvP)(m0:Nat)(K:KvP)(s:Hq):Prop:=
 oK (qAB .lss t18 t17) λV12=>qAJ V12
 (oK (qAH 4 t16 t18) λV13=>oK (rdN s 4 V13) λV14=>newK 144 [(.int .i64 0),(.int .i64 0),(.int .u32 0),(.int .i64 0)] (λB15 S16=>oK (qBS S16 4 (.ptr B15 0) (.agg V14)) λS17=>oK (rdN S17 4 (.ptr B15 0)) λV18=>funK TP X key1 [(.agg V18)] (λV19 S20=>newK 144 [(.int .i64 0),(.int .i64 0),(.int .u32 0),(.int .i64 0)] (λB21 S22=>oK (qBS S22 4 (.ptr B21 0) V19) λS23=>oK (rdN S23 4 (.ptr B21 0)) λV24=>oK (getG TP 144 S23 seen5 (.agg V24)) λr_25=>oK (qAH 1 again6 t18) λV26=>oK (wr1 S23 V26 (retM (.bool false) false r_25)) λS27=>oK (rdN S27 4 (.ptr B21 0)) λV28=>oK (putG TP 144 S27 seen5 (.agg V28) (.bool true)) λS29=>oK (qAB .add t18 (.int .i64 1)) λV30=>∃m',m'<m0/\I0 [V30] S29 m') S20) S17) s)
 (K again6 s)
def qFg(X:Td)(l0 key1:AV)(K:KvP)(s:Hq):Prop:=
 oK (qAP l0) λV0=>intK (.int .i64 V0) (mapK (λV2 S3=>oK (qAP l0) λV4=>oK (nat? (.int .i64 V4)) λn_6=>oK (nat? (.int .i64 V4)) λn_7=>(n_6<=n_7/\n_7<=4294967296)/\newK 4 (repl n_7 [(.bool false)]) (λB8 S9=>oK (qAP l0) λV10=>∃I0:IvP,(∃m,I0 [(.int .i64 0)] S9 m)/\∀(f:Env) (s:Hq) (m0:Nat),I0 [f 18] s m0->
 qEb X key1 V2 (.slc B8 0 n_6 (some n_7) 1) l0 (.int .i64 V10) (f 18) I0 m0 K s) S3) s)
def qHC:Nat->List Nat:=λk=>cond (Nat.beq k 8) [18] ([])
theorem qHY{X:Td}(hX:FrX X)(hn:X 133=none){l0 key1:AV}{K:KvP}{s:Hq}(h:qFg X l0 key1 K s):wC TP X 133 [l0,key1] K s:=
 wOK hX qHC hn Tryz.func133 h
def qUA(X:Td)(l0:AV)(K:KvP)(s:Hq):Prop:=
 boxK 144 l0 (λB0 S1=>newK 144 [(.int .i64 0),(.int .i64 0),(.int .u32 0),(.int .i64 0)] (λB2 S3=>oK (rdN S3 4 B0) λV4=>oK (qBS S3 4 (.ptr B2 0) (.agg V4)) λS5=>oK (rdN S5 4 (.ptr B2 0)) λt2_6=>K (.agg t2_6) S5) S1) s
theorem qPD{X:Td}(hX:FrX X)(hn:X 134=none){l0:AV}{K:KvP}{s:Hq}(h:qUA X l0 K s):wC TP X 134 [l0] K s:=
 wOK hX nA0 hn Tryz.func134 h
def qB4(X:Td)(t0 t1:AV)(K:KvP)(s:Hq):Prop:=
 wC TP X 198 [t0,t1] (λV0 S1=>oK (qAB .geq V0 (.int .i64 0)) λV2=>K V2 S1) s
theorem qDT{X:Td}(hX:FrX X)(hn:X 170=none){t0 t1:AV}{K:KvP}{s:Hq}(h:qB4 X t0 t1 K s):wC TP X 170 [t0,t1] K s:=
 wOK hX nA0 hn Tryz.func170 h
def qGR(X:Td)(x0 t1 t2:AV)(K:KvP)(s:Hq):Prop:=
 boxK 117 x0 (λB0 S1=>oK (rd1 S1 t1) λV2=>oK (rdN S1 2 B0) λV3=>funK TP X V2 [(.agg V3)] (λV4 S5=>(∀b,S1 b≠none->S1 b=none->S5 b=none)->
 oK (rd1 (cutH [(S1,(add S1 S5))] (add S1 S5)) t2) λV6=>oK (negB false (eqV 0 false V4 V6)) λV7=>K V7 (add S1 S5)) (frz S1)) s
theorem qFh{X:Td}(hX:FrX X)(hn:X 171=none){x0 t1 t2:AV}{K:KvP}{s:Hq}(h:qGR X x0 t1 t2 K s):wC TP X 171 [x0,t1,t2] K s:=
 wOK hX nA0 hn Tryz.func171 h
def qPd(X:Td)(p0:AV)(K:KvP)(s:Hq):Prop:=
 boxK 71 p0 (λB0 S1=>newK 71 [(.int .u32 0),(.int .i64 0)] (λB2 S3=>oK (rdN S3 2 B0) λV4=>wC TP X 174 [(.agg V4)] (λV5 S6=>oK (qBV .not V5) λV7=>qAJ V7
 (oK (qBC [(.int .u32 0),(.int .i64 0)] []) λC8=>oK (qBS S6 2 (.ptr B2 0) (.agg C8)) λS9=>oK (rdN S9 2 (.ptr B2 0)) λt2_10=>K (.tup [(.agg t2_10),(.int .i64 2)]) S9)
 (oK (qAF 0 B0) λV11=>oK (rd1 S6 V11) λV12=>oK (qAF 1 B0) λV13=>oK (rd1 S6 V13) λV14=>wC TP X 175 [V14] (λV15 S16=>(∀b,S6 b≠none->S6 b=none->S16 b=none)->
 oK (qAB .and V12 V15) λV17=>oK (qAF 0 B0) λV18=>oK (wr1 (add S6 S16) V18 V17) λS19=>oK (rdN S19 2 B0) λV20=>oK (qBS S19 2 (.ptr B2 0) (.agg V20)) λS21=>oK (rdN S21 2 (.ptr B2 0)) λt2_22=>K (.tup [(.agg t2_22),(.int .i64 0)]) S21) (frz S6))) S3) S1) s
theorem qMM{X:Td}(hX:FrX X)(hn:X 172=none){p0:AV}{K:KvP}{s:Hq}(h:qPd X p0 K s):wC TP X 172 [p0] K s:=
 wOK hX nA0 hn Tryz.func172 h
def qCv(X:Td)(t0 t1 t7 t8:AV)(I0:IvP)(m0:Nat)(K:KvP)(s:Hq):Prop:=
 oK (qAB .lss t8 t7) λV2=>qAJ V2
 (oK (qAH 6 t0 t8) λV3=>oK (rdN s 6 V3) λV4=>funK TP X t1 [(.agg V4)] (λV5 S6=>qAJ V5
 (K t8 S6)
 (oK (qAB .add t8 (.int .i64 1)) λV7=>∃m',m'<m0/\I0 [V7] S6 m')) s)
 (K (.int .i64 (-1)) s)
def qDY(X:Td)(t0 t1:AV)(K:KvP)(s:Hq):Prop:=
 oK (qAP t0) λV0=>∃I0:IvP,(∃m,I0 [(.int .i64 0)] s m)/\∀(f:Env) (s:Hq) (m0:Nat),I0 [f 8] s m0->
 qCv X t0 t1 (.int .i64 V0) (f 8) I0 m0 K s
def qEp:Nat->List Nat:=λk=>cond (Nat.beq k 4) [8] ([])
theorem qE8{X:Td}(hX:FrX X)(hn:X 173=none){t0 t1:AV}{K:KvP}{s:Hq}(h:qDY X t0 t1 K s):wC TP X 173 [t0,t1] K s:=
 wOK hX qEp hn Tryz.func173 h
def qIV(X:Td)(t6 t9:AV)(K:KvP)(s:Hq):Prop:=
 oK (qAS t6 t9 (.bool false)) λV5=>K V5 s
def qP8(X:Td)(p0:AV)(K:KvP)(s:Hq):Prop:=
 boxK 71 p0 (λB0 S1=>oK (qAF 1 B0) λV2=>oK (rd1 S1 V2) λV3=>oK (qAB .geq V3 (.int .i64 0)) λV4=>qAJ V4
 (oK (qAF 1 B0) λV6=>oK (rd1 S1 V6) λV7=>oK (qAB .leq V7 (.int .i64 32)) λV8=>qIV X V4 V8 K S1)
 (qIV X V4 .undef K S1)) s
theorem qMG{X:Td}(hX:FrX X)(hn:X 174=none){p0:AV}{K:KvP}{s:Hq}(h:qP8 X p0 K s):wC TP X 174 [p0] K s:=
 wOK hX nA0 hn Tryz.func174 h
def qLi(X:Td)(length0:AV)(K:KvP)(s:Hq):Prop:=
 oK (qAB .sub (.int .i64 32) length0) λV0=>oK (qCj .shl (.int .u32 4294967295) V0) λV1=>K V1 s
theorem qNr{X:Td}(hX:FrX X)(hn:X 175=none){length0:AV}{K:KvP}{s:Hq}(h:qLi X length0 K s):wC TP X 175 [length0] K s:=
 wOK hX nA0 hn Tryz.func175 h
def qEC(X:Td)(t0 t1 t7 t8:AV)(I0:IvP)(m0:Nat)(K:KvP)(s:Hq):Prop:=
 oK (qAB .lss t8 t7) λV2=>qAJ V2
 (oK (qAH 1 t0 t8) λV3=>oK (rd1 s V3) λV4=>funK TP X t1 [V4] (λV5 S6=>qAJ V5
 (K t8 S6)
 (oK (qAB .add t8 (.int .i64 1)) λV7=>∃m',m'<m0/\I0 [V7] S6 m')) s)
 (K (.int .i64 (-1)) s)
def qEr(X:Td)(t0 t1:AV)(K:KvP)(s:Hq):Prop:=
 oK (qAP t0) λV0=>∃I0:IvP,(∃m,I0 [(.int .i64 0)] s m)/\∀(f:Env) (s:Hq) (m0:Nat),I0 [f 8] s m0->
 qEC X t0 t1 (.int .i64 V0) (f 8) I0 m0 K s
def qGP:Nat->List Nat:=λk=>cond (Nat.beq k 4) [8] ([])
theorem qGj{X:Td}(hX:FrX X)(hn:X 176=none){t0 t1:AV}{K:KvP}{s:Hq}(h:qEr X t0 t1 K s):wC TP X 176 [t0,t1] K s:=
 wOK hX qGP hn Tryz.func176 h
def qFD(X:Td)(t0 v1 t7 t8:AV)(I0:IvP)(m0:Nat)(K:KvP)(s:Hq):Prop:=
 oK (qAB .lss t8 t7) λV2=>qAJ V2
 (oK (qAH 1 t0 t8) λV3=>oK (rd1 s V3) λV4=>oK (negB false (eqV 0 false v1 V4)) λV5=>qAJ V5
 (K t8 s)
 (oK (qAB .add t8 (.int .i64 1)) λV6=>∃m',m'<m0/\I0 [V6] s m'))
 (K (.int .i64 (-1)) s)
def qGT(X:Td)(t0 v1:AV)(K:KvP)(s:Hq):Prop:=
 oK (qAP t0) λV0=>∃I0:IvP,(∃m,I0 [(.int .i64 0)] s m)/\∀(f:Env) (s:Hq) (m0:Nat),I0 [f 8] s m0->
 qFD X t0 v1 (.int .i64 V0) (f 8) I0 m0 K s
def qHr:Nat->List Nat:=λk=>cond (Nat.beq k 4) [8] ([])
theorem qIa{X:Td}(hX:FrX X)(hn:X 63=none){t0 v1:AV}{K:KvP}{s:Hq}(h:qGT X t0 v1 K s):wC TP X 63 [t0,v1] K s:=
 wOK hX qHr hn Tryz.func63 h
def qB5(X:Td)(t0 t1 t7 t8:AV)(I0:IvP)(m0:Nat)(K:KvP)(s:Hq):Prop:=
 oK (qAB .lss t8 t7) λV2=>qAJ V2
 (oK (qAH 2 t0 t8) λV3=>oK (rdN s 2 V3) λV4=>funK TP X t1 [(.agg V4)] (λV5 S6=>qAJ V5
 (K t8 S6)
 (oK (qAB .add t8 (.int .i64 1)) λV7=>∃m',m'<m0/\I0 [V7] S6 m')) s)
 (K (.int .i64 (-1)) s)
def qCH(X:Td)(t0 t1:AV)(K:KvP)(s:Hq):Prop:=
 oK (qAP t0) λV0=>∃I0:IvP,(∃m,I0 [(.int .i64 0)] s m)/\∀(f:Env) (s:Hq) (m0:Nat),I0 [f 8] s m0->
 qB5 X t0 t1 (.int .i64 V0) (f 8) I0 m0 K s
def qDi:Nat->List Nat:=λk=>cond (Nat.beq k 4) [8] ([])
theorem qDu{X:Td}(hX:FrX X)(hn:X 198=none){t0 t1:AV}{K:KvP}{s:Hq}(h:qCH X t0 t1 K s):wC TP X 198 [t0,t1] K s:=
 wOK hX qDi hn Tryz.func198 h
def qLn(X:Td)(t7 t10:AV)(K:KvP)(s:Hq):Prop:=
 oK (qAS t7 t10 (.bool false)) λV1=>K V1 s
def qQS(X:Td)(i0 n1:AV)(K:KvP)(s:Hq):Prop:=
 oK (qAB .geq i0 (.int .i64 0)) λV0=>qAJ V0
 (oK (qAB .lss i0 n1) λV2=>qLn X V0 V2 K s)
 (qLn X V0 .undef K s)
theorem qQa{X:Td}(hX:FrX X)(hn:X 76=none){i0 n1:AV}{K:KvP}{s:Hq}(h:qQS X i0 n1 K s):wC TP X 76 [i0,n1] K s:=
 wOK hX nA0 hn Tryz.func76 h
def qZh(X:Td)(t0:AV)(K:KvP)(s:Hq):Prop:=
 boxK 31 t0 (λB0 S1=>oK (rdN S1 19 B0) λV2=>wC TP X 31 [(.agg V2)] (λV3 S4=>oK (qAh V3 0) λV5=>oK (qAh V3 1) λV6=>oK (qAh V3 2) λV7=>oK (negB false (eqV 0 true V5 (.int .i64 0))) λV8=>K V8 S4) S1) s
theorem qSm{t0:AV}{K:KvP}{s:Hq}(h:qZh XX t0 K s):wC TP XX 75 [t0] K s:=wOK qBz nA0 rfl Tryz.func75 h
end Go.AM
namespace Go.AM
open Go Go.Proofs
set_option maxRecDepth 100000
def qJo(X:Td)(bad0 err1 part2 index3:AV)(K R:KvP)(s:Hq):Prop:=
 qAJ bad0
 (oK (qBC [(.int .i64 0),(.str ⟨#[]⟩),(.int .i64 0)] [(0,1,err1),(1,1,part2),(2,1,index3)]) λC0=>panK (.ifc 147 (.agg C0)) R s)
 (K (.tup []) s)
theorem qLX{bad0 err1 part2 index3:AV}{K R:KvP}{s:Hq}(h:qJo X0 bad0 err1 part2 index3 K R s):qAg TP X0 SS 107 [bad0,err1,part2,index3] K R s:=
 qCf qJ0 nA0 Tryz.func107 (by kernel_rfl:Tryz.f107.body=some (qA5 Tryz.f107)) (by kernel_rfl) (by kernel_rfl) (Eq.mpr (by kernel_rfl) h)
def qG1(X:Td)(t31 t34:AV)(K R:KvP)(s:Hq):Prop:=
 oK (qAS t31 (.bool true) t34) λV26=>qAg TP X SS 107 [V26,(.int .i64 2),(.str ⟨#[102,97,98,114,105,99]⟩),(.int .i64 0)] (λV27 S28=>K (.tup []) S28) R s
def qGt(X:Td)(t2 t26 t29:AV)(K R:KvP)(s:Hq):Prop:=
 oK (qAS t26 (.bool true) t29) λV25=>qAJ V25
 (qG1 X V25 .undef K R s)
 (oK (qAF 10 t2) λV29=>oK (rd1 s V29) λV30=>wC TP X 108 [V30,(.int .i64 0),(.int .i64 1)] (λV31 S32=>qG1 X V25 V31 K R S32) s)
def qGr(X:Td)(t2 t10 t13:AV)(K R:KvP)(s:Hq):Prop:=
 oK (qAS t10 (.bool true) t13) λV10=>qAg TP X SS 107 [V10,(.int .i64 2),(.str ⟨#[102,97,98,114,105,99]⟩),(.int .i64 0)] (λV11 S12=>oK (qAF 0 t2) λV13=>oK (rd1 S12 V13) λV14=>oK (qAF 1 t2) λV15=>oK (rd1 S12 V15) λV16=>oK (qAB .add V14 V16) λV17=>oK (qAB .gtr V17 (.int .i64 32)) λV18=>qAg TP X SS 107 [V18,(.int .i64 2),(.str ⟨#[102,97,98,114,105,99]⟩),(.int .i64 0)] (λV19 S20=>oK (qAF 8 t2) λV21=>oK (rd1 S20 V21) λV22=>wC TP X 108 [V22,(.int .i64 0),(.int .i64 2)] (λV23 S24=>qAJ V23
 (qGt X t2 V23 .undef K R S24)
 (oK (qAF 9 t2) λV33=>oK (rd1 S24 V33) λV34=>wC TP X 108 [V34,(.int .i64 0),(.int .i64 1)] (λV35 S36=>qGt X t2 V23 V35 K R S36) S24)) S20) R S12) R s
def qWU(X:Td)(c0:AV)(K R:KvP)(s:Hq):Prop:=
 oK (qAj c0) λV0=>oK (qAF 0 V0) λV1=>oK (rdN s 19 V1) λV2=>newK 31 zR1 (λB3 S4=>oK (qBS S4 19 (.ptr B3 0) (.agg V2)) λS5=>oK (qAF 0 (.ptr B3 0)) λV6=>oK (rd1 S5 V6) λV7=>wC TP X 108 [V7,(.int .i64 1),(.int .i64 32)] (λV8 S9=>qAJ V8
 (qGr X (.ptr B3 0) V8 .undef K R S9)
 (oK (qAF 1 (.ptr B3 0)) λV37=>oK (rd1 S9 V37) λV38=>wC TP X 108 [V38,(.int .i64 0),(.int .i64 32)] (λV39 S40=>qGr X (.ptr B3 0) V8 V39 K R S40) S9)) S5) s
theorem qQl{c0:AV}{K R:KvP}{s:Hq}(h:qWU X0 c0 K R s):qAg TP X0 SS 87 [c0] K R s:=
 qCf qJ0 nA0 Tryz.func87 (by kernel_rfl:Tryz.f87.body=some (qA5 Tryz.f87)) (by kernel_rfl) (by kernel_rfl) (Eq.mpr (by kernel_rfl) h)
def qG4(X:Td)(t30 t33:AV)(K R:KvP)(s:Hq):Prop:=
 oK (qAS t30 (.bool true) t33) λV20=>qAg TP X SS 107 [V20,(.int .i64 2),(.str ⟨#[116,105,109,101,114,115]⟩),(.int .i64 0)] (λV21 S22=>K (.tup []) S22) R s
def qGy(X:Td)(t2 t25 t28:AV)(K R:KvP)(s:Hq):Prop:=
 oK (qAS t25 (.bool true) t28) λV19=>qAJ V19
 (qG4 X V19 .undef K R s)
 (oK (qAF 5 t2) λV23=>oK (rd1 s V23) λV24=>wC TP X 108 [V24,(.int .i64 1),(.int .i64 10000)] (λV25 S26=>qG4 X V19 V25 K R S26) s)
def qG6(X:Td)(t2 t16 t19:AV)(K R:KvP)(s:Hq):Prop:=
 oK (qAS t16 (.bool true) t19) λV12=>qAg TP X SS 107 [V12,(.int .i64 2),(.str ⟨#[116,105,109,101,114,115]⟩),(.int .i64 0)] (λV13 S14=>oK (qAF 3 t2) λV15=>oK (rd1 S14 V15) λV16=>wC TP X 108 [V16,(.int .i64 0),(.int .i64 1000)] (λV17 S18=>qAJ V17
 (qGy X t2 V17 .undef K R S18)
 (oK (qAF 4 t2) λV27=>oK (rd1 S18 V27) λV28=>wC TP X 108 [V28,(.int .i64 1),(.int .i64 100)] (λV29 S30=>qGy X t2 V17 V29 K R S30) S18)) S14) R s
def qGz(X:Td)(t2 t11 t14:AV)(K R:KvP)(s:Hq):Prop:=
 oK (qAS t11 (.bool true) t14) λV11=>qAJ V11
 (qG6 X t2 V11 .undef K R s)
 (oK (qAF 2 t2) λV31=>oK (rd1 s V31) λV32=>wC TP X 108 [V32,(.int .i64 1),(.int .i64 10000)] (λV33 S34=>qG6 X t2 V11 V33 K R S34) s)
def qQm(X:Td)(c0:AV)(K R:KvP)(s:Hq):Prop:=
 oK (qAj c0) λV0=>oK (qAF 0 V0) λV1=>oK (qAF 13 V1) λV2=>oK (rdN s 6 V2) λV3=>newK 29 [(.int .i64 0),(.int .i64 0),(.int .i64 0),(.int .i64 0),(.int .i64 0),(.int .i64 0)] (λB4 S5=>oK (qBS S5 6 (.ptr B4 0) (.agg V3)) λS6=>oK (qAF 0 (.ptr B4 0)) λV7=>oK (rd1 S6 V7) λV8=>wC TP X 108 [V8,(.int .i64 1),(.int .i64 100)] (λV9 S10=>qAJ V9
 (qGz X (.ptr B4 0) V9 .undef K R S10)
 (oK (qAF 1 (.ptr B4 0)) λV35=>oK (rd1 S10 V35) λV36=>wC TP X 108 [V36,(.int .i64 3),(.int .i64 1000)] (λV37 S38=>qGz X (.ptr B4 0) V9 V37 K R S38) S10)) S6) s
theorem qQN{c0:AV}{K R:KvP}{s:Hq}(h:qQm X0 c0 K R s):qAg TP X0 SS 88 [c0] K R s:=
 qCf qJ0 nA0 Tryz.func88 (by kernel_rfl:Tryz.f88.body=some (qA5 Tryz.f88)) (by kernel_rfl) (by kernel_rfl) (Eq.mpr (by kernel_rfl) h)
def qHy(X:Td)(again3 i4 t22 t51 t54:AV)(I0:IvP)(m0:Nat)(K R:KvP)(s:Hq):Prop:=
 oK (qAS t51 (.bool true) t54) λV36=>qAg TP X SS 107 [V36,(.int .i64 2),(.str ⟨#[108,105,110,107,115]⟩),i4] (λV37 S38=>oK (qAH 1 again3 i4) λV39=>oK (rd1 S38 V39) λV40=>qAg TP X SS 107 [V40,(.int .i64 11),(.str ⟨#[108,105,110,107,115]⟩),i4] (λV41 S42=>oK (qAB .add t22 (.int .i64 1)) λV43=>∃m',m'<m0/\I0 [V43] S42 m') R S38) R s
def qHv(X:Td)(again3 i4 l5 t22 t39 t47:AV)(I0:IvP)(m0:Nat)(K R:KvP)(s:Hq):Prop:=
 oK (qAS t39 t47 (.bool false)) λV34=>oK (qBV .not V34) λV35=>qAJ V35
 (qHy X again3 i4 t22 V35 .undef I0 m0 K R s)
 (oK (qAF 2 l5) λV44=>oK (rd1 s V44) λV45=>wC TP X 108 [V45,(.int .i64 1),(.int .i64 1000)] (λV46 S47=>qHy X again3 i4 t22 V35 V46 I0 m0 K R S47) s)
def qHq(X:Td)(t2 again3 i4 l5 t22 t32 t37:AV)(I0:IvP)(m0:Nat)(K R:KvP)(s:Hq):Prop:=
 oK (qAS t32 t37 (.bool false)) λV33=>qAJ V33
 (oK (qAF 1 l5) λV48=>oK (rd1 s V48) λV49=>oK (qAF 0 t2) λV50=>oK (rd1 s V50) λV51=>oK (qAF 1 t2) λV52=>oK (rd1 s V52) λV53=>oK (qAB .add V51 V53) λV54=>oK (qAB .lss V49 V54) λV55=>qHv X again3 i4 l5 t22 V33 V55 I0 m0 K R s)
 (qHv X again3 i4 l5 t22 V33 .undef I0 m0 K R s)
def qNI(X:Td)(t2 again3 t20 t21 t22:AV)(I0:IvP)(m0:Nat)(K R:KvP)(s:Hq):Prop:=
 oK (qAB .lss t22 t21) λV21=>qAJ V21
 (oK (qAH 3 t20 t22) λV22=>oK (rdN s 3 V22) λV23=>newK 115 [(.int .i64 0),(.int .i64 0),(.int .i64 0)] (λB24 S25=>oK (qBS S25 3 (.ptr B24 0) (.agg V23)) λS26=>oK (qAF 0 (.ptr B24 0)) λV27=>oK (rd1 S26 V27) λV28=>oK (qAF 0 t2) λV29=>oK (rd1 S26 V29) λV30=>wC TP X 76 [V28,V30] (λV31 S32=>qAJ V31
 (oK (qAF 1 (.ptr B24 0)) λV56=>oK (rd1 S32 V56) λV57=>oK (qAF 0 t2) λV58=>oK (rd1 S32 V58) λV59=>oK (qAB .geq V57 V59) λV60=>qHq X t2 again3 t22 (.ptr B24 0) t22 V31 V60 I0 m0 K R S32)
 (qHq X t2 again3 t22 (.ptr B24 0) t22 V31 .undef I0 m0 K R S32)) S26) s)
 (K (.tup []) s)
def qYA(X:Td)(c0:AV)(K R:KvP)(s:Hq):Prop:=
 oK (qAj c0) λV0=>oK (qAF 0 V0) λV1=>oK (rdN s 19 V1) λV2=>newK 31 zR1 (λB3 S4=>oK (qBS S4 19 (.ptr B3 0) (.agg V2)) λS5=>oK (qAF 2 (.ptr B3 0)) λV6=>oK (rd1 S5 V6) λV7=>oK (qAP V7) λV8=>oK (qAB .gtr (.int .i64 V8) (.int .i64 128)) λV10=>qAg TP X SS 107 [V10,(.int .i64 7),(.str ⟨#[108,105,110,107,115]⟩),(.int .i64 128)] (λV11 S12=>oK (qAF 2 (.ptr B3 0)) λV13=>oK (rd1 S12 V13) λV14=>wC TP X 109 [V14,(.fn (.func 110) [] [])] (λV15 S16=>oK (qAF 2 (.ptr B3 0)) λV17=>oK (rd1 S16 V17) λV18=>oK (qAP V18) λV19=>∃I0:IvP,(∃m,I0 [(.int .i64 0)] S16 m)/\∀(f:Env) (s:Hq) (m0:Nat),I0 [f 22] s m0->
 qNI X (.ptr B3 0) V15 V18 (.int .i64 V19) (f 22) I0 m0 K R s) S12) R S5) s
def qRB:Nat->List Nat:=λk=>cond (Nat.beq k 8) [22] ([])
theorem qST{c0:AV}{K R:KvP}{s:Hq}(h:qYA X0 c0 K R s):qAg TP X0 SS 89 [c0] K R s:=
 qCf qJ0 qRB Tryz.func89 (by kernel_rfl:Tryz.f89.body=some (qA5 Tryz.f89)) (by kernel_rfl) (by kernel_rfl) (Eq.mpr (by kernel_rfl) h)
def qGH(X:Td)(i5 t22 t46 t50:AV)(I0:IvP)(m0:Nat)(K R:KvP)(s:Hq):Prop:=
 oK (qAS t46 (.bool true) t50) λV30=>qAg TP X SS 107 [V30,(.int .i64 11),(.str ⟨#[116,101,110,97,110,116,115]⟩),i5] (λV31 S32=>oK (qAB .add t22 (.int .i64 1)) λV33=>∃m',m'<m0/\I0 [V33] S32 m') R s
def qGB(X:Td)(vnis3 x4 i5 t22 t35 t38:AV)(I0:IvP)(m0:Nat)(K R:KvP)(s:Hq):Prop:=
 oK (qAS t35 (.bool true) t38) λV25=>qAg TP X SS 107 [V25,(.int .i64 2),(.str ⟨#[116,101,110,97,110,116,115]⟩),i5] (λV26 S27=>oK (qAH 1 vnis3 i5) λV28=>oK (rd1 S27 V28) λV29=>qAJ V29
 (qGH X i5 t22 V29 .undef I0 m0 K R S27)
 (oK (qAH 1 x4 i5) λV34=>oK (rd1 S27 V34) λV35=>qGH X i5 t22 V29 V35 I0 m0 K R S27)) R s
def qF4(X:Td)(vnis3 x4 i5 t6 t22 t30 t33:AV)(I0:IvP)(m0:Nat)(K R:KvP)(s:Hq):Prop:=
 oK (qAS t30 (.bool true) t33) λV24=>qAJ V24
 (qGB X vnis3 x4 i5 t22 V24 .undef I0 m0 K R s)
 (oK (qAF 1 t6) λV36=>oK (rd1 s V36) λV37=>oK (negB false (eqV 0 true V37 (.int .u32 0))) λV38=>qGB X vnis3 x4 i5 t22 V24 V38 I0 m0 K R s)
def qKQ(X:Td)(vnis3 x4 t20 t21 t22:AV)(I0:IvP)(m0:Nat)(K R:KvP)(s:Hq):Prop:=
 oK (qAB .lss t22 t21) λV15=>qAJ V15
 (oK (qAH 2 t20 t22) λV16=>oK (rdN s 2 V16) λV17=>newK 117 [(.int .u32 0),(.int .u32 0)] (λB18 S19=>oK (qBS S19 2 (.ptr B18 0) (.agg V17)) λS20=>oK (qAF 0 (.ptr B18 0)) λV21=>oK (rd1 S20 V21) λV22=>oK (qAB .lss V22 (.int .u32 1)) λV23=>qAJ V23
 (qF4 X vnis3 x4 t22 (.ptr B18 0) t22 V23 .undef I0 m0 K R S20)
 (oK (qAF 0 (.ptr B18 0)) λV39=>oK (rd1 S20 V39) λV40=>oK (qAB .gtr V40 (.int .u32 16777215)) λV41=>qF4 X vnis3 x4 t22 (.ptr B18 0) t22 V23 V41 I0 m0 K R S20)) s)
 (K (.tup []) s)
def qOv(X:Td)(c0:AV)(K R:KvP)(s:Hq):Prop:=
 oK (qAj c0) λV0=>oK (qAF 0 V0) λV1=>oK (qAF 3 V1) λV2=>oK (rd1 s V2) λV3=>oK (qAP V3) λV4=>oK (qAB .gtr (.int .i64 V4) (.int .i64 16)) λV6=>qAg TP X SS 107 [V6,(.int .i64 7),(.str ⟨#[116,101,110,97,110,116,115]⟩),(.int .i64 16)] (λV7 S8=>wC TP X 111 [V3,(.fn (.func 112) [] [])] (λV9 S10=>wC TP X 111 [V3,(.fn (.func 113) [] [])] (λV11 S12=>oK (qAP V3) λV13=>∃I0:IvP,(∃m,I0 [(.int .i64 0)] S12 m)/\∀(f:Env) (s:Hq) (m0:Nat),I0 [f 22] s m0->
 qKQ X V9 V11 V3 (.int .i64 V13) (f 22) I0 m0 K R s) S10) S8) R s
def qOG:Nat->List Nat:=λk=>cond (Nat.beq k 8) [22] ([])
theorem qPn{c0:AV}{K R:KvP}{s:Hq}(h:qOv X0 c0 K R s):qAg TP X0 SS 90 [c0] K R s:=
 qCf qJ0 qOG Tryz.func90 (by kernel_rfl:Tryz.f90.body=some (qA5 Tryz.f90)) (by kernel_rfl) (by kernel_rfl) (Eq.mpr (by kernel_rfl) h)
def qGM(X:Td)(t28:AV)(I0:IvP)(m0:Nat)(K R:KvP)(s:Hq):Prop:=
 oK (qAB .add t28 (.int .i64 1)) λV26=>∃m',m'<m0/\I0 [V26] s m'
def qGA(X:Td)(t2 i5 b6 t28 t98 t102:AV)(I0:IvP)(m0:Nat)(K R:KvP)(s:Hq):Prop:=
 oK (qAS t98 (.bool true) t102) λV67=>qAg TP X SS 107 [V67,(.int .i64 3),(.str ⟨#[100,111,109,97,105,110,115]⟩),i5] (λV68 S69=>oK (qAF 3 b6) λV70=>oK (rdN S69 2 V70) λV71=>oK (qAF 5 b6) λV72=>oK (rd1 S69 V72) λV73=>wC TP X 119 [(.agg V71),V73] (λV74 S75=>oK (qBV .not V74) λV76=>qAg TP X SS 107 [V76,(.int .i64 3),(.str ⟨#[100,111,109,97,105,110,115]⟩),i5] (λV77 S78=>oK (qAF 4 t2) λV79=>oK (rd1 S78 V79) λV80=>oK (qCM 6 V80 none (some i5) none) λV81=>wC TP X 120 [V81,(.fn (.func 121) [] [b6])] (λV82 S83=>qAg TP X SS 107 [V82,(.int .i64 11),(.str ⟨#[100,111,109,97,105,110,115]⟩),i5] (λV84 S85=>qGM X t28 I0 m0 K R S85) R S83) S78) R S75) S69) R s
def qGK(X:Td)(t2 i5 b6 t28 t75 t80:AV)(I0:IvP)(m0:Nat)(K R:KvP)(s:Hq):Prop:=
 oK (qAS t75 (.bool true) t80) λV50=>qAg TP X SS 107 [V50,(.int .i64 11),(.str ⟨#[100,111,109,97,105,110,115]⟩),i5] (λV51 S52=>oK (qAF 5 b6) λV53=>oK (rd1 S52 V53) λV54=>oK (negB false (eqV 0 true V54 (.int .u32 0))) λV55=>qAJ V55
 (oK (qAF 3 b6) λV56=>oK (rdN S52 2 V56) λV57=>oK (qBC [(.int .u32 0),(.int .i64 0)] []) λC58=>oK (negB true (qGC TP 71 (.agg V57) (.agg C58))) λV59=>qAg TP X SS 107 [V59,(.int .i64 3),(.str ⟨#[100,111,109,97,105,110,115]⟩),i5] (λV60 S61=>qGM X t28 I0 m0 K R S61) R S52)
 (oK (qAF 3 b6) λV62=>oK (rdN S52 2 V62) λV63=>wC TP X 118 [(.agg V63)] (λV64 S65=>oK (qBV .not V64) λV66=>qAJ V66
 (qGA X t2 i5 b6 t28 V66 .undef I0 m0 K R S65)
 (oK (qAF 3 b6) λV86=>oK (qAF 1 V86) λV87=>oK (rd1 S65 V87) λV88=>wC TP X 108 [V88,(.int .i64 8),(.int .i64 30)] (λV89 S90=>qGA X t2 i5 b6 t28 V66 V89 I0 m0 K R S90) S65)) S52)) R s
def qF7(X:Td)(t2 i5 b6 t28 t68 t73:AV)(I0:IvP)(m0:Nat)(K R:KvP)(s:Hq):Prop:=
 oK (qAS t68 (.bool true) t73) λV49=>qAJ V49
 (qGK X t2 i5 b6 t28 V49 .undef I0 m0 K R s)
 (oK (qAF 3 t2) λV91=>oK (rd1 s V91) λV92=>oK (qAF 2 b6) λV93=>oK (rd1 s V93) λV94=>wC TP X 117 [V92,(.fn (.func 113) [] []),V94] (λV95 S96=>qGK X t2 i5 b6 t28 V49 V95 I0 m0 K R S96) s)
def qGL(X:Td)(t2 i5 b6 t28 t62 t66:AV)(I0:IvP)(m0:Nat)(K R:KvP)(s:Hq):Prop:=
 oK (qAS t62 (.bool true) t66) λV48=>qAJ V48
 (qF7 X t2 i5 b6 t28 V48 .undef I0 m0 K R s)
 (oK (qAF 3 t2) λV97=>oK (rd1 s V97) λV98=>oK (qAF 1 b6) λV99=>oK (rd1 s V99) λV100=>wC TP X 117 [V98,(.fn (.func 112) [] []),V100] (λV101 S102=>qF7 X t2 i5 b6 t28 V48 V101 I0 m0 K R S102) s)
def qGD(X:Td)(t2 vnis3 x4 i5 b6 t28 t50 t53:AV)(I0:IvP)(m0:Nat)(K R:KvP)(s:Hq):Prop:=
 oK (qAS t50 (.bool true) t53) λV43=>qAg TP X SS 107 [V43,(.int .i64 2),(.str ⟨#[100,111,109,97,105,110,115]⟩),i5] (λV44 S45=>oK (qAH 1 vnis3 i5) λV46=>oK (rd1 S45 V46) λV47=>qAJ V47
 (qGL X t2 i5 b6 t28 V47 .undef I0 m0 K R S45)
 (oK (qAH 1 x4 i5) λV103=>oK (rd1 S45 V103) λV104=>qGL X t2 i5 b6 t28 V47 V104 I0 m0 K R S45)) R s
def qF9(X:Td)(t2 vnis3 x4 i5 b6 t28 t45 t48:AV)(I0:IvP)(m0:Nat)(K R:KvP)(s:Hq):Prop:=
 oK (qAS t45 (.bool true) t48) λV42=>qAJ V42
 (qGD X t2 vnis3 x4 i5 b6 t28 V42 .undef I0 m0 K R s)
 (oK (qAF 2 b6) λV105=>oK (rd1 s V105) λV106=>oK (negB false (eqV 0 true V106 (.int .u32 0))) λV107=>qGD X t2 vnis3 x4 i5 b6 t28 V42 V107 I0 m0 K R s)
def qGI(X:Td)(t2 vnis3 x4 i5 b6 t28 t40 t43:AV)(I0:IvP)(m0:Nat)(K R:KvP)(s:Hq):Prop:=
 oK (qAS t40 (.bool true) t43) λV41=>qAJ V41
 (qF9 X t2 vnis3 x4 i5 b6 t28 V41 .undef I0 m0 K R s)
 (oK (qAF 1 b6) λV108=>oK (rd1 s V108) λV109=>oK (qAB .gtr V109 (.int .u32 16777215)) λV110=>qF9 X t2 vnis3 x4 i5 b6 t28 V41 V110 I0 m0 K R s)
def qKp(X:Td)(t2 vnis3 x4 t26 t27 t28:AV)(I0:IvP)(m0:Nat)(K R:KvP)(s:Hq):Prop:=
 oK (qAB .lss t28 t27) λV25=>qAJ V25
 (oK (qAH 6 t26 t28) λV27=>oK (rdN s 6 V27) λV28=>newK 87 [(.int .i64 0),(.int .u32 0),(.int .u32 0),(.int .u32 0),(.int .i64 0),(.int .u32 0)] (λB29 S30=>oK (qBS S30 6 (.ptr B29 0) (.agg V28)) λS31=>oK (qAF 0 (.ptr B29 0)) λV32=>oK (rd1 S31 V32) λV33=>oK (qAF 3 t2) λV34=>oK (rd1 S31 V34) λV35=>oK (qAP V35) λV36=>wC TP X 76 [V33,(.int .i64 V36)] (λV38 S39=>oK (qBV .not V38) λV40=>qAJ V40
 (qGI X t2 vnis3 x4 t28 (.ptr B29 0) t28 V40 .undef I0 m0 K R S39)
 (oK (qAF 1 (.ptr B29 0)) λV111=>oK (rd1 S39 V111) λV112=>oK (qAB .lss V112 (.int .u32 1)) λV113=>qGI X t2 vnis3 x4 t28 (.ptr B29 0) t28 V40 V113 I0 m0 K R S39)) S31) s)
 (K (.tup []) s)
def qUW(X:Td)(c0:AV)(K R:KvP)(s:Hq):Prop:=
 oK (qAj c0) λV0=>oK (qAF 0 V0) λV1=>oK (rdN s 19 V1) λV2=>newK 31 zR1 (λB3 S4=>oK (qBS S4 19 (.ptr B3 0) (.agg V2)) λS5=>oK (qAF 4 (.ptr B3 0)) λV6=>oK (rd1 S5 V6) λV7=>oK (qAP V7) λV8=>oK (qAB .gtr (.int .i64 V8) (.int .i64 32)) λV10=>qAg TP X SS 107 [V10,(.int .i64 7),(.str ⟨#[100,111,109,97,105,110,115]⟩),(.int .i64 32)] (λV11 S12=>oK (qAF 4 (.ptr B3 0)) λV13=>oK (rd1 S12 V13) λV14=>wC TP X 114 [V14,(.fn (.func 115) [] [])] (λV15 S16=>(∀b,S12 b≠none->S12 b=none->S16 b=none)->
 oK (qAF 4 (.ptr B3 0)) λV17=>oK (rd1 (cutH [(S12,(add S12 S16))] (add S12 S16)) V17) λV18=>wC TP X 114 [V18,(.fn (.func 116) [] [])] (λV19 S20=>oK (qAF 4 (.ptr B3 0)) λV21=>oK (rd1 S20 V21) λV22=>oK (qAP V22) λV23=>∃I0:IvP,(∃m,I0 [(.int .i64 0)] S20 m)/\∀(f:Env) (s:Hq) (m0:Nat),I0 [f 28] s m0->
 qKp X (.ptr B3 0) V15 V19 V22 (.int .i64 V23) (f 28) I0 m0 K R s) (add S12 S16)) (frz S12)) R S5) s
def qOL:Nat->List Nat:=λk=>cond (Nat.beq k 8) [28] ([])
theorem qPv{c0:AV}{K R:KvP}{s:Hq}(h:qUW X0 c0 K R s):qAg TP X0 SS 91 [c0] K R s:=
 qCf qJ0 qOL Tryz.func91 (by kernel_rfl:Tryz.f91.body=some (qA5 Tryz.f91)) (by kernel_rfl) (by kernel_rfl) (Eq.mpr (by kernel_rfl) h)
def qJj(X:Td)(ports3 i4 t21 t64 t65 t66:AV)(I4:IvP)(m4:Nat)(I0:IvP)(m0:Nat)(K R:KvP)(s:Hq):Prop:=
 oK (qAB .lss t66 t65) λV52=>qAJ V52
 (oK (qAH 1 t64 t66) λV53=>oK (rd1 s V53) λV54=>oK (qIT 32 1 ports3 V54) λV55=>oK (rd1 s V55) λV56=>oK (qAB .add V56 (.int .i64 1)) λV57=>oK (qIT 32 1 ports3 V54) λV58=>oK (wr1 s V58 V57) λS59=>oK (qIT 32 1 ports3 V54) λV60=>oK (rd1 S59 V60) λV61=>oK (qAB .gtr V61 (.int .i64 32)) λV62=>qAg TP X SS 107 [V62,(.int .i64 7),(.str ⟨#[115,101,103,109,101,110,116,115]⟩),i4] (λV63 S64=>oK (qAB .add t66 (.int .i64 1)) λV65=>∃m',m'<m4/\I4 [V65] S64 m') R S59)
 (oK (qAB .add t21 (.int .i64 1)) λV66=>∃m',m'<m0/\I0 [V66] s m')
def qFX(X:Td)(ports3 i4 t5 t21 t55 t59:AV)(I0:IvP)(m0:Nat)(K R:KvP)(s:Hq):Prop:=
 oK (qAS t55 (.bool true) t59) λV45=>qAg TP X SS 107 [V45,(.int .i64 10),(.str ⟨#[115,101,103,109,101,110,116,115]⟩),i4] (λV46 S47=>oK (qAF 0 t5) λV48=>oK (rd1 S47 V48) λV49=>oK (qAP V49) λV50=>∃I4:IvP,(∃m,I4 [(.int .i64 0)] S47 m)/\∀(f:Env) (s:Hq) (m4:Nat),I4 [f 66] s m4->
 qJj X ports3 i4 t21 V49 (.int .i64 V50) (f 66) I4 m4 I0 m0 K R s) R s
def qFd(X:Td)(ports3 i4 t5 t21 t42 t46:AV)(I0:IvP)(m0:Nat)(K R:KvP)(s:Hq):Prop:=
 oK (qAS t42 (.bool true) t46) λV37=>qAg TP X SS 107 [V37,(.int .i64 2),(.str ⟨#[115,101,103,109,101,110,116,115]⟩),i4] (λV38 S39=>oK (qAF 0 t5) λV40=>oK (rd1 S39 V40) λV41=>wC TP X 126 [V41] (λV42 S43=>oK (qBV .not V42) λV44=>qAJ V44
 (qFX X ports3 i4 t5 t21 V44 .undef I0 m0 K R S43)
 (oK (qAF 1 t5) λV67=>oK (rd1 S43 V67) λV68=>wC TP X 126 [V68] (λV69 S70=>oK (qBV .not V69) λV71=>qFX X ports3 i4 t5 t21 V44 V71 I0 m0 K R S70) S43)) S39) R s
def qFc(X:Td)(t2 ports3 i4 t5 t21 t30 t34:AV)(I0:IvP)(m0:Nat)(K R:KvP)(s:Hq):Prop:=
 oK (qAS t30 (.bool true) t34) λV30=>qAg TP X SS 107 [V30,(.int .i64 3),(.str ⟨#[115,101,103,109,101,110,116,115]⟩),i4] (λV31 S32=>oK (qAF 0 t5) λV33=>oK (rd1 S32 V33) λV34=>wC TP X 123 [V34,(.fn (.func 124) [] [t2])] (λV35 S36=>qAJ V35
 (qFd X ports3 i4 t5 t21 V35 .undef I0 m0 K R S36)
 (oK (qAF 1 t5) λV72=>oK (rd1 S36 V72) λV73=>wC TP X 123 [V73,(.fn (.func 125) [] [t2])] (λV74 S75=>qFd X ports3 i4 t5 t21 V35 V74 I0 m0 K R S75) S36)) S32) R s
def qJq(X:Td)(t2 ports3 t19 t20 t21:AV)(I0:IvP)(m0:Nat)(K R:KvP)(s:Hq):Prop:=
 oK (qAB .lss t21 t20) λV19=>qAJ V19
 (oK (qAH 2 t19 t21) λV20=>oK (rdN s 2 V20) λV21=>newK 94 [.nilslc,.nilslc] (λB22 S23=>oK (qBS S23 2 (.ptr B22 0) (.agg V21)) λS24=>oK (qAF 0 (.ptr B22 0)) λV25=>oK (rd1 S24 V25) λV26=>oK (qAP V26) λV27=>oK (negB false (eqV 0 true (.int .i64 V27) (.int .i64 0))) λV29=>qAJ V29
 (qFc X t2 ports3 t21 (.ptr B22 0) t21 V29 .undef I0 m0 K R S24)
 (oK (qAF 1 (.ptr B22 0)) λV76=>oK (rd1 S24 V76) λV77=>oK (qAP V77) λV78=>oK (negB false (eqV 0 true (.int .i64 V78) (.int .i64 0))) λV80=>qFc X t2 ports3 t21 (.ptr B22 0) t21 V29 V80 I0 m0 K R S24)) s)
 (K (.tup []) s)
def qSI(X:Td)(c0:AV)(K R:KvP)(s:Hq):Prop:=
 oK (qAj c0) λV0=>oK (qAF 0 V0) λV1=>oK (rdN s 19 V1) λV2=>newK 31 zR1 (λB3 S4=>oK (qBS S4 19 (.ptr B3 0) (.agg V2)) λS5=>oK (qAF 5 (.ptr B3 0)) λV6=>oK (rd1 S5 V6) λV7=>oK (qAP V7) λV8=>oK (qAB .gtr (.int .i64 V8) (.int .i64 64)) λV10=>qAg TP X SS 107 [V10,(.int .i64 7),(.str ⟨#[115,101,103,109,101,110,116,115]⟩),(.int .i64 64)] (λV11 S12=>newK 198 [(.int .i64 0),(.int .i64 0),(.int .i64 0),(.int .i64 0),(.int .i64 0),(.int .i64 0),(.int .i64 0),(.int .i64 0),(.int .i64 0),(.int .i64 0),(.int .i64 0),(.int .i64 0),(.int .i64 0),(.int .i64 0),(.int .i64 0),(.int .i64 0),(.int .i64 0),(.int .i64 0),(.int .i64 0),(.int .i64 0),(.int .i64 0),(.int .i64 0),(.int .i64 0),(.int .i64 0),(.int .i64 0),(.int .i64 0),(.int .i64 0),(.int .i64 0),(.int .i64 0),(.int .i64 0),(.int .i64 0),(.int .i64 0)] (λB13 S14=>oK (qAF 5 (.ptr B3 0)) λV15=>oK (rd1 S14 V15) λV16=>oK (qAP V16) λV17=>∃I0:IvP,(∃m,I0 [(.int .i64 0)] S14 m)/\∀(f:Env) (s:Hq) (m0:Nat),I0 [f 21] s m0->
 qJq X (.ptr B3 0) (.ptr B13 0) V16 (.int .i64 V17) (f 21) I0 m0 K R s) S12) R S5) s
def qMg:Nat->List Nat:=λk=>cond (Nat.beq k 8) [21] (cond (Nat.beq k 22) [66] ([]))
theorem qOT{c0:AV}{K R:KvP}{s:Hq}(h:qSI X0 c0 K R s):qAg TP X0 SS 92 [c0] K R s:=
 qCf qJ0 qMg Tryz.func92 (by kernel_rfl:Tryz.f92.body=some (qA5 Tryz.f92)) (by kernel_rfl) (by kernel_rfl) (Eq.mpr (by kernel_rfl) h)
def qIH(X:Td)(i5 t28 t115 t119 t123:AV)(I0:IvP)(m0:Nat)(K R:KvP)(s:Hq):Prop:=
 oK (qAS t119 t123 (.bool false)) λV78=>oK (qAS t115 (.bool true) V78) λV79=>qAg TP X SS 107 [V79,(.int .i64 11),(.str ⟨#[104,111,115,116,115]⟩),i5] (λV80 S81=>oK (qAB .add t28 (.int .i64 1)) λV82=>∃m',m'<m0/\I0 [V82] S81 m') R s
def qHs(X:Td)(macs3 x4 i5 h6 t28 t97 t107:AV)(I0:IvP)(m0:Nat)(K R:KvP)(s:Hq):Prop:=
 oK (qAS t97 (.bool true) t107) λV66=>qAg TP X SS 107 [V66,(.int .i64 3),(.str ⟨#[104,111,115,116,115]⟩),i5] (λV67 S68=>oK (qAH 1 macs3 i5) λV69=>oK (rd1 S68 V69) λV70=>qAJ V70
 (oK (qAS V70 (.bool true) .undef) λV71=>qAg TP X SS 107 [V71,(.int .i64 11),(.str ⟨#[104,111,115,116,115]⟩),i5] (λV72 S73=>oK (qAB .add t28 (.int .i64 1)) λV74=>∃m',m'<m0/\I0 [V74] S73 m') R S68)
 (oK (qAF 1 h6) λV75=>oK (rd1 S68 V75) λV76=>oK (negB true (eqV 0 true V76 (.int .u32 0))) λV77=>qAJ V77
 (oK (qAH 1 x4 i5) λV83=>oK (rd1 S68 V83) λV84=>qIH X i5 t28 V70 V77 V84 I0 m0 K R S68)
 (qIH X i5 t28 V70 V77 .undef I0 m0 K R S68))) R s
def qHw(X:Td)(t2 macs3 x4 i5 h6 t28 t94 t95:AV)(I0:IvP)(m0:Nat)(K R:KvP)(s:Hq):Prop:=
 oK (qAS t94 (.bool true) t95) λV65=>qAJ V65
 (qHs X macs3 x4 i5 h6 t28 V65 .undef I0 m0 K R s)
 (oK (qAF 4 t2) λV85=>oK (rd1 s V85) λV86=>oK (qAF 2 h6) λV87=>oK (rd1 s V87) λV88=>oK (qAH 6 V86 V88) λV89=>oK (rdN s 6 V89) λV90=>oK (qAF 1 h6) λV91=>oK (rd1 s V91) λV92=>wC TP X 132 [(.agg V90),V92] (λV93 S94=>oK (qBV .not V93) λV95=>qHs X macs3 x4 i5 h6 t28 V65 V95 I0 m0 K R S94) s)
def qHz(X:Td)(t2 macs3 x4 i5 h6 t28 t69 t80:AV)(I0:IvP)(m0:Nat)(K R:KvP)(s:Hq):Prop:=
 oK (qAS t69 t80 (.bool false)) λV53=>qAg TP X SS 107 [V53,(.int .i64 8),(.str ⟨#[104,111,115,116,115]⟩),i5] (λV54 S55=>oK (qAF 0 h6) λV56=>oK (rd1 S55 V56) λV57=>wC TP X 131 [V57] (λV58 S59=>oK (qAh V58 0) λV60=>oK (qAh V58 1) λV61=>oK (qAF 0 h6) λV62=>oK (rd1 S59 V62) λV63=>oK (negB false (eqV 0 true V63 (.int .u64 1577058561))) λV64=>qAJ V64
 (qHw X t2 macs3 x4 i5 h6 t28 V64 .undef I0 m0 K R S59)
 (qHw X t2 macs3 x4 i5 h6 t28 V64 V61 I0 m0 K R S59)) S55) R s
def qIB(X:Td)(t2 macs3 x4 i5 h6 t28 t55 t62:AV)(I0:IvP)(m0:Nat)(K R:KvP)(s:Hq):Prop:=
 oK (qAS t55 (.bool true) t62) λV47=>qAg TP X SS 107 [V47,(.int .i64 2),(.str ⟨#[104,111,115,116,115]⟩),i5] (λV48 S49=>oK (qAF 3 h6) λV50=>oK (rd1 S49 V50) λV51=>oK (negB true (eqV 0 true V51 (.int .i64 (-1)))) λV52=>qAJ V52
 (oK (qAF 5 t2) λV96=>oK (rd1 S49 V96) λV97=>oK (qAF 3 h6) λV98=>oK (rd1 S49 V98) λV99=>oK (qAH 2 V97 V99) λV100=>oK (qAF 1 V100) λV101=>oK (rd1 S49 V101) λV102=>oK (qAF 2 h6) λV103=>oK (rd1 S49 V103) λV104=>wC TP X 32 [V102,V104] (λV105 S106=>oK (qBV .not V105) λV107=>qHz X t2 macs3 x4 i5 h6 t28 V52 V107 I0 m0 K R S106) S49)
 (qHz X t2 macs3 x4 i5 h6 t28 V52 .undef I0 m0 K R S49)) R s
def qH7(X:Td)(t2 macs3 x4 i5 h6 t28 t41 t44:AV)(I0:IvP)(m0:Nat)(K R:KvP)(s:Hq):Prop:=
 oK (qAS t41 (.bool true) t44) λV35=>qAg TP X SS 107 [V35,(.int .i64 2),(.str ⟨#[104,111,115,116,115]⟩),i5] (λV36 S37=>oK (qAF 2 h6) λV38=>oK (rd1 S37 V38) λV39=>oK (qAF 4 t2) λV40=>oK (rd1 S37 V40) λV41=>oK (qAP V41) λV42=>wC TP X 76 [V39,(.int .i64 V42)] (λV44 S45=>oK (qBV .not V44) λV46=>qAJ V46
 (qIB X t2 macs3 x4 i5 h6 t28 V46 .undef I0 m0 K R S45)
 (oK (qAF 3 h6) λV108=>oK (rd1 S45 V108) λV109=>oK (qAF 5 t2) λV110=>oK (rd1 S45 V110) λV111=>oK (qAP V111) λV112=>oK (qAB .sub (.int .i64 V112) (.int .i64 1)) λV114=>wC TP X 108 [V109,(.int .i64 (-1)),V114] (λV115 S116=>qIB X t2 macs3 x4 i5 h6 t28 V46 V115 I0 m0 K R S116) S45)) S37) R s
def qID(X:Td)(t2 macs3 x4 i5 h6 t28 t36 t39:AV)(I0:IvP)(m0:Nat)(K R:KvP)(s:Hq):Prop:=
 oK (qAS t36 (.bool true) t39) λV34=>qAJ V34
 (qH7 X t2 macs3 x4 i5 h6 t28 V34 .undef I0 m0 K R s)
 (oK (qAF 0 h6) λV117=>oK (rd1 s V117) λV118=>wC TP X 130 [V118] (λV119 S120=>qH7 X t2 macs3 x4 i5 h6 t28 V34 V119 I0 m0 K R S120) s)
def qMk(X:Td)(t2 macs3 x4 t26 t27 t28:AV)(I0:IvP)(m0:Nat)(K R:KvP)(s:Hq):Prop:=
 oK (qAB .lss t28 t27) λV25=>qAJ V25
 (oK (qAH 4 t26 t28) λV26=>oK (rdN s 4 V26) λV27=>newK 140 [(.int .u64 0),(.int .u32 0),(.int .i64 0),(.int .i64 0)] (λB28 S29=>oK (qBS S29 4 (.ptr B28 0) (.agg V27)) λS30=>oK (qAF 0 (.ptr B28 0)) λV31=>oK (rd1 S30 V31) λV32=>oK (negB false (eqV 0 true V32 (.int .u64 0))) λV33=>qAJ V33
 (qID X t2 macs3 x4 t28 (.ptr B28 0) t28 V33 .undef I0 m0 K R S30)
 (oK (qAF 0 (.ptr B28 0)) λV121=>oK (rd1 S30 V121) λV122=>oK (qAB .gtr V122 (.int .u64 281474976710655)) λV123=>qID X t2 macs3 x4 t28 (.ptr B28 0) t28 V33 V123 I0 m0 K R S30)) s)
 (K (.tup []) s)
def qYg(X:Td)(c0:AV)(K R:KvP)(s:Hq):Prop:=
 oK (qAj c0) λV0=>oK (qAF 0 V0) λV1=>oK (rdN s 19 V1) λV2=>newK 31 zR1 (λB3 S4=>oK (qBS S4 19 (.ptr B3 0) (.agg V2)) λS5=>oK (qAF 6 (.ptr B3 0)) λV6=>oK (rd1 S5 V6) λV7=>oK (qAP V7) λV8=>oK (qAB .gtr (.int .i64 V8) (.int .i64 128)) λV10=>qAg TP X SS 107 [V10,(.int .i64 7),(.str ⟨#[104,111,115,116,115]⟩),(.int .i64 128)] (λV11 S12=>oK (qAF 6 (.ptr B3 0)) λV13=>oK (rd1 S12 V13) λV14=>wC TP X 127 [V14,(.fn (.func 128) [] [])] (λV15 S16=>oK (qAF 6 (.ptr B3 0)) λV17=>oK (rd1 S16 V17) λV18=>wC TP X 127 [V18,(.fn (.func 129) [] [])] (λV19 S20=>oK (qAF 6 (.ptr B3 0)) λV21=>oK (rd1 S20 V21) λV22=>oK (qAP V22) λV23=>∃I0:IvP,(∃m,I0 [(.int .i64 0)] S20 m)/\∀(f:Env) (s:Hq) (m0:Nat),I0 [f 28] s m0->
 qMk X (.ptr B3 0) V15 V19 V22 (.int .i64 V23) (f 28) I0 m0 K R s) S16) S12) R S5) s
def qRO:Nat->List Nat:=λk=>cond (Nat.beq k 10) [28] ([])
theorem qS8{c0:AV}{K R:KvP}{s:Hq}(h:qYg X0 c0 K R s):qAg TP X0 SS 93 [c0] K R s:=
 qCf qJ0 qRO Tryz.func93 (by kernel_rfl:Tryz.f93.body=some (qA5 Tryz.f93)) (by kernel_rfl) (by kernel_rfl) (Eq.mpr (by kernel_rfl) h)
def qIA(X:Td)(x4 i5 t24 t52 t56:AV)(I0:IvP)(m0:Nat)(K R:KvP)(s:Hq):Prop:=
 oK (qAS t52 (.bool true) t56) λV44=>qAg TP X SS 107 [V44,(.int .i64 3),(.str ⟨#[108,101,97,107,115]⟩),i5] (λV45 S46=>oK (qAH 1 x4 i5) λV47=>oK (rd1 S46 V47) λV48=>qAg TP X SS 107 [V48,(.int .i64 11),(.str ⟨#[108,101,97,107,115]⟩),i5] (λV49 S50=>oK (qAB .add t24 (.int .i64 1)) λV51=>∃m',m'<m0/\I0 [V51] S50 m') R S46) R s
def qII(X:Td)(x4 i5 l6 t24 t36 t43:AV)(I0:IvP)(m0:Nat)(K R:KvP)(s:Hq):Prop:=
 oK (qAS t36 (.bool true) t43) λV36=>qAg TP X SS 107 [V36,(.int .i64 2),(.str ⟨#[108,101,97,107,115]⟩),i5] (λV37 S38=>oK (qAF 0 l6) λV39=>oK (rd1 S38 V39) λV40=>oK (qAF 1 l6) λV41=>oK (rd1 S38 V41) λV42=>oK (negB false (eqV 0 false V40 V42)) λV43=>qAJ V43
 (qIA X x4 i5 t24 V43 .undef I0 m0 K R S38)
 (oK (qAF 2 l6) λV52=>oK (rdN S38 2 V52) λV53=>wC TP X 118 [(.agg V53)] (λV54 S55=>oK (qBV .not V54) λV56=>qIA X x4 i5 t24 V43 V56 I0 m0 K R S55) S38)) R s
def qNN(X:Td)(t2 x4 t22 t23 t24:AV)(I0:IvP)(m0:Nat)(K R:KvP)(s:Hq):Prop:=
 oK (qAB .lss t24 t23) λV21=>qAJ V21
 (oK (qAH 4 t22 t24) λV22=>oK (rdN s 4 V22) λV23=>newK 144 [(.int .i64 0),(.int .i64 0),(.int .u32 0),(.int .i64 0)] (λB24 S25=>oK (qBS S25 4 (.ptr B24 0) (.agg V23)) λS26=>oK (qAF 0 (.ptr B24 0)) λV27=>oK (rd1 S26 V27) λV28=>oK (qAF 3 t2) λV29=>oK (rd1 S26 V29) λV30=>oK (qAP V30) λV31=>wC TP X 76 [V28,(.int .i64 V31)] (λV33 S34=>oK (qBV .not V33) λV35=>qAJ V35
 (qII X x4 t24 (.ptr B24 0) t24 V35 .undef I0 m0 K R S34)
 (oK (qAF 1 (.ptr B24 0)) λV57=>oK (rd1 S34 V57) λV58=>oK (qAF 3 t2) λV59=>oK (rd1 S34 V59) λV60=>oK (qAP V60) λV61=>wC TP X 76 [V58,(.int .i64 V61)] (λV63 S64=>oK (qBV .not V63) λV65=>qII X x4 t24 (.ptr B24 0) t24 V35 V65 I0 m0 K R S64) S34)) S26) s)
 (K (.tup []) s)
def qZH(X:Td)(c0:AV)(K R:KvP)(s:Hq):Prop:=
 oK (qAj c0) λV0=>oK (qAF 0 V0) λV1=>oK (rdN s 19 V1) λV2=>newK 31 zR1 (λB3 S4=>oK (qBS S4 19 (.ptr B3 0) (.agg V2)) λS5=>oK (qAF 7 (.ptr B3 0)) λV6=>oK (rd1 S5 V6) λV7=>oK (qAP V7) λV8=>oK (qAB .gtr (.int .i64 V8) (.int .i64 256)) λV10=>qAg TP X SS 107 [V10,(.int .i64 7),(.str ⟨#[108,101,97,107,115]⟩),(.int .i64 256)] (λV11 S12=>oK (qAF 7 (.ptr B3 0)) λV13=>oK (rd1 S12 V13) λV14=>wC TP X 133 [V14,(.fn (.func 134) [] [])] (λV15 S16=>oK (qAF 7 (.ptr B3 0)) λV17=>oK (rd1 S16 V17) λV18=>oK (qAP V18) λV19=>∃I0:IvP,(∃m,I0 [(.int .i64 0)] S16 m)/\∀(f:Env) (s:Hq) (m0:Nat),I0 [f 24] s m0->
 qNN X (.ptr B3 0) V15 V18 (.int .i64 V19) (f 24) I0 m0 K R s) S12) R S5) s
def qQ0:Nat->List Nat:=λk=>cond (Nat.beq k 10) [24] ([])
theorem qSA{c0:AV}{K R:KvP}{s:Hq}(h:qZH X0 c0 K R s):qAg TP X0 SS 94 [c0] K R s:=
 qCf qJ0 qQ0 Tryz.func94 (by kernel_rfl:Tryz.f94.body=some (qA5 Tryz.f94)) (by kernel_rfl) (by kernel_rfl) (Eq.mpr (by kernel_rfl) h)
def qDC(X:Td)(t0 t1 t2 v:AV)(K:KvP)(s:Hq):Prop:=
 oK (negB false (eqV 4 true v .nilIface)) λV0=>qAJ V0
 (K (.tup []) s)
 (oK (qZ1 147 (some (.agg [(.int .i64 0),(.str ⟨#[]⟩),(.int .i64 0)])) true v) λV1=>oK (qAh V1 1) λV2=>oK (qAh V1 0) λV3=>qAJ V2
 (newK 147 [(.int .i64 0),(.str ⟨#[]⟩),(.int .i64 0)] (λB4 S5=>oK (qBS S5 3 (.ptr B4 0) V3) λS6=>oK (qAF 0 (.ptr B4 0)) λV7=>oK (rd1 S6 V7) λV8=>oK (qAF 1 (.ptr B4 0)) λV9=>oK (rd1 S6 V9) λV10=>oK (qAF 2 (.ptr B4 0)) λV11=>oK (rd1 S6 V11) λV12=>((cutH [((hdel S6 (qB0 V9)),S6),((hdel S6 (qB0 V11)),S6)] S6) (qB0 t0)≠none)/\
 oK (wr1 S6 t0 V8) λS13=>((cutH [((hdel S6 (qB0 V11)),S6)] S13) (qB0 t1)≠none)/\
 oK (wr1 S13 t1 V10) λS14=>oK (wr1 S14 t2 V12) λS15=>K (.tup []) S15) s)
 (oK (wr1 s t0 (.int .i64 3)) λS16=>oK (wr1 S16 t1 (.str ⟨#[102,97,98,114,105,99]⟩)) λS17=>oK (wr1 S17 t2 (.int .i64 0)) λS18=>K (.tup []) S18))
theorem qFy(X:Td)(t0 t1 t2 v:AV)(K:KvP)(s:Hq):wpC TP X nA0 Tryz.f61.ntmps none (qQr (qA5 Tryz.f61)) (qMs (qA5 Tryz.f61) (qJU [t0,t1,t2]) v) (λe env s=>retK e (resK TP Tryz.f61.results.toList env (λvs=>K (oneV vs) s) s)) s=qDC X t0 t1 t2 v K s:=by kernel_rfl
theorem qJV{t0 t1 t2 v:AV}{K:KvP}{s:Hq}(h:qDC X0 t0 t1 t2 v K s):qWH TP X0 61 [t0,t1,t2] v (λs=>K (.tup []) s) s:=
 qUF qJ0 nA0 Tryz.func61 (by kernel_rfl:Tryz.f61.body=some (qA5 Tryz.f61)) (by kernel_rfl) (by kernel_rfl) (by kernel_rfl) ((qFy X0 t0 t1 t2 v K s).mpr h)
def qGn(X:Td)(err2 part3 x4 c5 t8 t12 t13 t14:AV)(I0:IvP)(m0:Nat)(K:KvP)(s:Hq):Prop:=
 oK (qAB .lss t14 t13) λV16=>qAJ V16
 (oK (qAH 1 t12 t14) λV17=>oK (rd1 s V17) λV18=>qT5 TP X SS V18 [c5] (λV19 S20=>oK (qAB .add t14 (.int .i64 1)) λV21=>∃m',m'<m0/\I0 [V21] S20 m') (λV22 S23=>recK TP X t8 V22 (λS24=>oK (rd1 S24 err2) λerr2_25=>oK (rd1 S24 part3) λpart3_26=>oK (rd1 S24 x4) λindex4_27=>K (.tup [err2_25,part3_26,index4_27]) S24) S23) s)
 (oK (wr1 s err2 (.int .i64 0)) λS28=>oK (wr1 S28 part3 (.str ⟨#[]⟩)) λS29=>oK (wr1 S29 x4 (.int .i64 0)) λS30=>runK TP X t8 (λS31=>oK (rd1 S31 err2) λerr2_32=>oK (rd1 S31 part3) λpart3_33=>oK (rd1 S31 x4) λindex4_34=>K (.tup [err2_32,part3_33,index4_34]) S31) S30)
def qNJ(X:Td)(t0:AV)(K:KvP)(s:Hq):Prop:=
 boxK 31 t0 (λB0 S1=>newK 95 [(.int .i64 0)] (λB2 S3=>newK 9 [(.str ⟨#[]⟩)] (λB4 S5=>newK 3 [(.int .i64 0)] (λB6 S7=>qV6 TP (.fn (.func 61) [] [(.ptr B2 0),(.ptr B4 0),(.ptr B6 0)])/\
 oK (rdN S7 19 B0) λV8=>oK (qBC zR1 [(0,19,(.agg V8))]) λC9=>boxK 150 (.agg C9) (λB10 S11=>wC TP X 62 [] (λV12 S13=>oK (qAP V12) λV14=>∃I0:IvP,(∃m,I0 [(.int .i64 0)] S13 m)/\∀(f:Env) (s:Hq) (m0:Nat),I0 [f 14] s m0->
 qGn X (.ptr B2 0) (.ptr B4 0) (.ptr B6 0) B10 (.fn (.func 61) [] [(.ptr B2 0),(.ptr B4 0),(.ptr B6 0)]) V12 (.int .i64 V14) (f 14) I0 m0 K s) S11) S7) S5) S3) S1) s
def qJs:Nat->List Nat:=λk=>cond (Nat.beq k 8) [14] ([])
theorem qKK{t0:AV}{K R:KvP}{s:Hq}(h:qNJ X0 t0 K s):qAg TP X0 SS 31 [t0] K R s:=
 qPx qJ0 qJs Tryz.func31 (by kernel_rfl:Tryz.f31.body=some (qA5 Tryz.f31)) (by kernel_rfl) (Eq.mpr (by kernel_rfl) h)
end Go.AM
namespace Go.AM
open Go Go.Proofs
set_option maxRecDepth 100000
noncomputable abbrev XG(u0:Bool):Td:=cond u0 qGk XX
theorem qZU{u0:Bool}:FrX (XG u0):=by cases u0;exact qBz;exact qCK
theorem wO9{X:Td}(hX:FrX X)(A:Nat->List Nat){n:FuncId}(hn:X n=none){f:Func}(h1:TP.funcs[n]?=some f){args:List AV}{K:KvP}{s:Hq}{Q:Prop}(h:Q)(hb:f.body=some (qA5 f):=by kernel_rfl)(hl:Nat.ble args.length f.ntmps=true:=by kernel_rfl)(he:wpC TP X A f.ntmps none (qA5 f) (qJU args) (λe env s=>retK e (resK TP f.results.toList env (λvs=>K (oneV vs) s) s)) s=Q:=by kernel_rfl):wC TP X n args K s:=
 qMp hX A hn h1 hb hl (Eq.mpr he h)
def qDe(X:Td)(u0:Bool)(t12 t15:AV)(K:KvP)(s:Hq):Prop:=
 oK (qAS t12 (.bool true) t15) λV3=>K V3 s
def qDh(X:Td)(u0:Bool)(x0 y1 t7 t10:AV)(K:KvP)(s:Hq):Prop:=
 oK (qAS t7 t10 (.bool false)) λV2=>qAJ V2
 (qDe X u0 V2 .undef K s)
 (oK (qAB .lss x0 y1) λV4=>qDe X u0 V2 V4 K s)
def qKE(X:Td)(u0:Bool)(x0 y1:AV)(K:KvP)(s:Hq):Prop:=
 wC TP X (cond u0 186 182) [x0] (λV0 S1=>qAJ V0
 (wC TP X (cond u0 186 182) [y1] (λV5 S6=>oK (qBV .not V5) λV7=>qDh X u0 x0 y1 V0 V7 K S6) S1)
 (qDh X u0 x0 y1 V0 .undef K S1)) s
theorem qIY{u0:Bool}{x0 y1:AV}{K:KvP}{s:Hq}(h:qKE (XG u0) u0 x0 y1 K s):wC TP (XG u0) (cond u0 152 141) [x0,y1] K s:=by
 cases u0
 ·exact wO9 qBz nA0 rfl Tryz.func141 h
 ·exact wO9 qCK nA0 rfl Tryz.func152 h
def qFx(X:Td)(u0:Bool)(x0:AV)(K:KvP)(s:Hq):Prop:=
 oK (negB true (eqV 0 false x0 x0)) λV0=>K V0 s
theorem qH1{u0:Bool}{x0:AV}{K:KvP}{s:Hq}(h:qFx (XG u0) u0 x0 K s):wC TP (XG u0) (cond u0 186 182) [x0] K s:=by
 cases u0
 ·exact wO9 qBz nA0 rfl Tryz.func182 h
 ·exact wO9 qCK nA0 rfl Tryz.func186 h
def qC7(X:Td)(u0:Bool)(x0:AV)(K:KvP)(s:Hq):Prop:=
 oK (qAP x0) λV0=>oK (qB6 .u64 (.int .i64 V0)) λV2=>wC TP X 96 [V2] (λV3 S4=>wC TP X (cond u0 98 95) [x0,(.int .i64 0),(.int .i64 V0),V3] (λV5 S6=>K (.tup []) S6) S4) s
theorem qDv{u0:Bool}{x0:AV}{K:KvP}{s:Hq}(h:qC7 (XG u0) u0 x0 K s):wC TP (XG u0) (cond u0 69 66) [x0] K s:=by
 cases u0
 ·exact wO9 qBz nA0 rfl Tryz.func66 h
 ·exact wO9 qCK nA0 rfl Tryz.func69 h
def qA3(X:Td)(u0:Bool)(data0 a1 x9 x10:AV)(I0:IvP)(m0:Nat)(K:KvP)(s:Hq):Prop:=
 oK (qAB .add a1 x10) λV23=>oK (qAB .add a1 x10) λV24=>oK (qAH 1 data0 V24) λV25=>oK (rd1 s V25) λV26=>oK (qAH 1 data0 x9) λV27=>oK (rd1 s V27) λV28=>oK (qAH 1 data0 x9) λV29=>oK (wr1 s V29 V26) λS30=>oK (qAH 1 data0 V23) λV31=>oK (wr1 S30 V31 V28) λS32=>oK (qAB .add x9 (.int .i64 1)) λV33=>∃m',m'<m0/\I0 [V33] S32 m'
def qCZ(X:Td)(u0:Bool)(data0 a1 length6 x7 x8 x9:AV)(I0:IvP)(m0:Nat)(K:KvP)(s:Hq):Prop:=
 oK (qAB .quo length6 (.int .i64 4)) λV12=>oK (qAB .mul V12 (.int .i64 2)) λV13=>oK (qAB .add a1 V13) λV14=>oK (qAB .add V14 (.int .i64 1)) λV15=>oK (qAB .leq x9 V15) λV16=>qAJ V16
 (wC TP X 179 [x7] (λV17 S18=>oK (qAB .sub x8 (.int .u64 1)) λV19=>oK (qAB .and V17 V19) λV20=>oK (qB6 .i64 V20) λV21=>oK (qAB .geq V21 length6) λV22=>qAJ V22
 (oK (qAB .sub V21 length6) λV34=>qA3 X u0 data0 a1 x9 V34 I0 m0 K S18)
 (qA3 X u0 data0 a1 x9 V21 I0 m0 K S18)) s)
 (K (.tup []) s)
def qDB(X:Td)(u0:Bool)(data0 a1 b2:AV)(K:KvP)(s:Hq):Prop:=
 oK (qAB .sub b2 a1) λV0=>oK (qAB .geq V0 (.int .i64 8)) λV1=>qAJ V1
 (oK (qB6 .u64 V0) λV2=>newK 242 [(.int .u64 0)] (λB3 S4=>oK (wr1 S4 (.ptr B3 0) V2) λS5=>wC TP X 178 [V0] (λV6 S7=>oK (qAB .quo V0 (.int .i64 4)) λV8=>oK (qAB .mul V8 (.int .i64 2)) λV9=>oK (qAB .add a1 V9) λV10=>oK (qAB .sub V10 (.int .i64 1)) λV11=>∃I0:IvP,(∃m,I0 [V11] S7 m)/\∀(f:Env) (s:Hq) (m0:Nat),I0 [f 9] s m0->
 qCZ X u0 data0 a1 V0 (.ptr B3 0) V6 (f 9) I0 m0 K s) S5) s)
 (K (.tup []) s)
def qCR:Nat->List Nat:=λk=>cond (Nat.beq k 10) [9] ([])
theorem qEj{u0:Bool}{data0 a1 b2:AV}{K:KvP}{s:Hq}(h:qDB (XG u0) u0 data0 a1 b2 K s):wC TP (XG u0) (cond u0 148 137) [data0,a1,b2] K s:=by
 cases u0
 ·exact wO9 qBz qCR rfl Tryz.func137 h
 ·exact wO9 qCK qCR rfl Tryz.func148 h
def qBp(X:Td)(u0:Bool)(x9 j11:AV)(K:KvP)(s:Hq):Prop:=
 oK (rd1 s x9) λV13=>oK (negB false (eqV 0 true V13 (.int .i64 0))) λV14=>qAJ V14
 (K (.tup [j11,(.int .i64 1)]) s)
 (oK (negB false (eqV 0 true V13 (.int .i64 12))) λV15=>qAJ V15
 (K (.tup [j11,(.int .i64 2)]) s)
 (K (.tup [j11,(.int .i64 0)]) s))
def qBj(X:Td)(u0:Bool)(data0 x9 i10 j11 k12:AV)(K:KvP)(s:Hq):Prop:=
 wC TP X (cond u0 185 181) [data0,i10,j11,k12,x9] (λV17 S18=>qBp X u0 x9 V17 K S18) s
def qDZ(X:Td)(u0:Bool)(data0 a1 b2:AV)(K:KvP)(s:Hq):Prop:=
 oK (qAB .sub b2 a1) λV0=>newK 3 [(.int .i64 0)] (λB1 S2=>oK (qAB .quo V0 (.int .i64 4)) λV3=>oK (qAB .mul V3 (.int .i64 1)) λV4=>oK (qAB .add a1 V4) λV5=>oK (qAB .quo V0 (.int .i64 4)) λV6=>oK (qAB .mul V6 (.int .i64 2)) λV7=>oK (qAB .add a1 V7) λV8=>oK (qAB .quo V0 (.int .i64 4)) λV9=>oK (qAB .mul V9 (.int .i64 3)) λV10=>oK (qAB .add a1 V10) λV11=>oK (qAB .geq V0 (.int .i64 8)) λV12=>qAJ V12
 (oK (qAB .geq V0 (.int .i64 50)) λV16=>qAJ V16
 (wC TP X (cond u0 184 180) [data0,V5,(.ptr B1 0)] (λV19 S20=>wC TP X (cond u0 184 180) [data0,V8,(.ptr B1 0)] (λV21 S22=>wC TP X (cond u0 184 180) [data0,V11,(.ptr B1 0)] (λV23 S24=>qBj X u0 data0 (.ptr B1 0) V19 V21 V23 K S24) S22) S20) S2)
 (qBj X u0 data0 (.ptr B1 0) V5 V8 V11 K S2))
 (qBp X u0 (.ptr B1 0) V8 K S2)) s
theorem qE4{u0:Bool}{data0 a1 b2:AV}{K:KvP}{s:Hq}(h:qDZ (XG u0) u0 data0 a1 b2 K s):wC TP (XG u0) (cond u0 149 138) [data0,a1,b2] K s:=by
 cases u0
 ·exact wO9 qBz nA0 rfl Tryz.func138 h
 ·exact wO9 qCK nA0 rfl Tryz.func149 h
def qDU(X:Td)(u0:Bool)(data0 first6 x7 i10:AV)(I1:IvP)(m1:Nat)(K:KvP)(s:Hq):Prop:=
 oK (qAB .geq i10 (.int .i64 0)) λV8=>qAJ V8
 (oK (qAB .add first6 i10) λV9=>oK (qAB .add first6 i10) λV10=>oK (qAH 1 data0 V10) λV11=>oK (rd1 s V11) λV12=>oK (qAH 1 data0 first6) λV13=>oK (rd1 s V13) λV14=>oK (qAH 1 data0 first6) λV15=>oK (wr1 s V15 V12) λS16=>oK (qAH 1 data0 V9) λV17=>oK (wr1 S16 V17 V14) λS18=>wC TP X (cond u0 183 177) [data0,x7,i10,first6] (λV19 S20=>oK (qAB .sub i10 (.int .i64 1)) λV21=>∃m',m'<m1/\I1 [V21] S20 m') S18)
 (K (.tup []) s)
def qDX(X:Td)(u0:Bool)(data0 first6 x7 x8 i9:AV)(I0:IvP)(m0:Nat)(K:KvP)(s:Hq):Prop:=
 oK (qAB .geq i9 (.int .i64 0)) λV3=>qAJ V3
 (wC TP X (cond u0 183 177) [data0,i9,x8,first6] (λV4 S5=>oK (qAB .sub i9 (.int .i64 1)) λV6=>∃m',m'<m0/\I0 [V6] S5 m') s)
 (oK (qAB .sub x8 (.int .i64 1)) λV7=>∃I1:IvP,(∃m,I1 [V7] s m)/\∀(f:Env) (s:Hq) (m1:Nat),I1 [f 10] s m1->
 qDU X u0 data0 first6 x7 (f 10) I1 m1 K s)
def qEA(X:Td)(u0:Bool)(data0 a1 b2:AV)(K:KvP)(s:Hq):Prop:=
 oK (qAB .sub b2 a1) λV0=>oK (qAB .sub V0 (.int .i64 1)) λV1=>oK (qAB .quo V1 (.int .i64 2)) λV2=>∃I0:IvP,(∃m,I0 [V2] s m)/\∀(f:Env) (s:Hq) (m0:Nat),I0 [f 9] s m0->
 qDX X u0 data0 a1 (.int .i64 0) V0 (f 9) I0 m0 K s
def qDM:Nat->List Nat:=λk=>cond (Nat.beq k 8) [9] (cond (Nat.beq k 16) [10] ([]))
theorem qFs{u0:Bool}{data0 a1 b2:AV}{K:KvP}{s:Hq}(h:qEA (XG u0) u0 data0 a1 b2 K s):wC TP (XG u0) (cond u0 147 136) [data0,a1,b2] K s:=by
 cases u0
 ·exact wO9 qBz qDM rfl Tryz.func136 h
 ·exact wO9 qCK qDM rfl Tryz.func147 h
def qA4(X:Td)(u0:Bool)(data0 i6 j7 t19 t29:AV)(I1:IvP)(m1:Nat)(I0:IvP)(m0:Nat)(K:KvP)(s:Hq):Prop:=
 oK (qAS t19 t29 (.bool false)) λV3=>qAJ V3
 (oK (qAB .sub j7 (.int .i64 1)) λV4=>oK (qAB .sub j7 (.int .i64 1)) λV5=>oK (qAH 1 data0 V5) λV6=>oK (rd1 s V6) λV7=>oK (qAH 1 data0 j7) λV8=>oK (rd1 s V8) λV9=>oK (qAH 1 data0 j7) λV10=>oK (wr1 s V10 V7) λS11=>oK (qAH 1 data0 V4) λV12=>oK (wr1 S11 V12 V9) λS13=>oK (qAB .sub j7 (.int .i64 1)) λV14=>∃m',m'<m1/\I1 [V14] S13 m')
 (oK (qAB .add i6 (.int .i64 1)) λV15=>∃m',m'<m0/\I0 [V15] s m')
def qCW(X:Td)(u0:Bool)(data0 a1 i6 j7:AV)(I1:IvP)(m1:Nat)(I0:IvP)(m0:Nat)(K:KvP)(s:Hq):Prop:=
 oK (qAB .gtr j7 a1) λV2=>qAJ V2
 (oK (qAH 1 data0 j7) λV16=>oK (rd1 s V16) λV17=>oK (qAB .sub j7 (.int .i64 1)) λV18=>oK (qAH 1 data0 V18) λV19=>oK (rd1 s V19) λV20=>wC TP X (cond u0 152 141) [V17,V20] (λV21 S22=>qA4 X u0 data0 i6 j7 V2 V21 I1 m1 I0 m0 K S22) s)
 (qA4 X u0 data0 i6 j7 V2 .undef I1 m1 I0 m0 K s)
def qCX(X:Td)(u0:Bool)(data0 a1 b2 i6:AV)(I0:IvP)(m0:Nat)(K:KvP)(s:Hq):Prop:=
 oK (qAB .lss i6 b2) λV1=>qAJ V1
 (∃I1:IvP,(∃m,I1 [i6] s m)/\∀(f:Env) (s:Hq) (m1:Nat),I1 [f 7] s m1->
 qCW X u0 data0 a1 i6 (f 7) I1 m1 I0 m0 K s)
 (K (.tup []) s)
def qC6(X:Td)(u0:Bool)(data0 a1 b2:AV)(K:KvP)(s:Hq):Prop:=
 oK (qAB .add a1 (.int .i64 1)) λV0=>∃I0:IvP,(∃m,I0 [V0] s m)/\∀(f:Env) (s:Hq) (m0:Nat),I0 [f 6] s m0->
 qCX X u0 data0 a1 b2 (f 6) I0 m0 K s
def qCV:Nat->List Nat:=λk=>cond (Nat.beq k 2) [6] (cond (Nat.beq k 8) [7] ([]))
theorem qCY{u0:Bool}{data0 a1 b2:AV}{K:KvP}{s:Hq}(h:qC6 (XG u0) u0 data0 a1 b2 K s):wC TP (XG u0) (cond u0 146 135) [data0,a1,b2] K s:=by
 cases u0
 ·exact wO9 qBz qCV rfl Tryz.func135 h
 ·exact wO9 qCK qCV rfl Tryz.func146 h
def qCz(X:Td)(u0:Bool)(data0 a1 swaps2:AV)(K:KvP)(s:Hq):Prop:=
 oK (qAB .sub a1 (.int .i64 1)) λV0=>oK (qAB .add a1 (.int .i64 1)) λV1=>wC TP X (cond u0 185 181) [data0,V0,a1,V1,swaps2] (λV2 S3=>K V2 S3) s
theorem qES{u0:Bool}{data0 a1 swaps2:AV}{K:KvP}{s:Hq}(h:qCz (XG u0) u0 data0 a1 swaps2 K s):wC TP (XG u0) (cond u0 184 180) [data0,a1,swaps2] K s:=by
 cases u0
 ·exact wO9 qBz nA0 rfl Tryz.func180 h
 ·exact wO9 qCK nA0 rfl Tryz.func184 h
def qHT(X:Td)(u0:Bool)(data0 a1 b2 c3 x4:AV)(K:KvP)(s:Hq):Prop:=
 wC TP X (cond u0 200 199) [data0,a1,b2,x4] (λV0 S1=>oK (qAh V0 0) λV2=>oK (qAh V0 1) λV3=>wC TP X (cond u0 200 199) [data0,V3,c3,x4] (λV4 S5=>oK (qAh V4 0) λV6=>oK (qAh V4 1) λV7=>wC TP X (cond u0 200 199) [data0,V2,V6,x4] (λV8 S9=>oK (qAh V8 0) λV10=>oK (qAh V8 1) λV11=>K V11 S9) S5) S1) s
theorem qGS{u0:Bool}{data0 a1 b2 c3 x4:AV}{K:KvP}{s:Hq}(h:qHT (XG u0) u0 data0 a1 b2 c3 x4 K s):wC TP (XG u0) (cond u0 185 181) [data0,a1,b2,c3,x4] K s:=by
 cases u0
 ·exact wO9 qBz nA0 rfl Tryz.func181 h
 ·exact wO9 qCK nA0 rfl Tryz.func185 h
def qEa(X:Td)(u0:Bool)(data0 a1 b2 swaps3:AV)(K:KvP)(s:Hq):Prop:=
 oK (qAH 1 data0 b2) λV0=>oK (rd1 s V0) λV1=>oK (qAH 1 data0 a1) λV2=>oK (rd1 s V2) λV3=>wC TP X (cond u0 152 141) [V1,V3] (λV4 S5=>qAJ V4
 (oK (qAj swaps3) λV6=>oK (rd1 S5 V6) λV7=>oK (qAB .add V7 (.int .i64 1)) λV8=>oK (qAj swaps3) λV9=>oK (wr1 S5 V9 V8) λS10=>K (.tup [b2,a1]) S10)
 (K (.tup [a1,b2]) S5)) s
theorem qGd{u0:Bool}{data0 a1 b2 swaps3:AV}{K:KvP}{s:Hq}(h:qEa (XG u0) u0 data0 a1 b2 swaps3 K s):wC TP (XG u0) (cond u0 200 199) [data0,a1,b2,swaps3] K s:=by
 cases u0
 ·exact wO9 qBz nA0 rfl Tryz.func199 h
 ·exact wO9 qCK nA0 rfl Tryz.func200 h
def qAm(X:Td)(u0:Bool)(i7 j8:AV)(I0:IvP)(m0:Nat)(K:KvP)(s:Hq):Prop:=
 oK (qAB .add j8 (.int .i64 1)) λV22=>∃m',m'<m0/\I0 [i7,V22] s m'
def qBv(X:Td)(u0:Bool)(data0 b2 i7 j8 j10:AV)(I5:IvP)(m5:Nat)(I0:IvP)(m0:Nat)(K:KvP)(s:Hq):Prop:=
 oK (qAB .lss j10 b2) λV24=>qAJ V24
 (oK (qAH 1 data0 j10) λV25=>oK (rd1 s V25) λV26=>oK (qAB .sub j10 (.int .i64 1)) λV27=>oK (qAH 1 data0 V27) λV28=>oK (rd1 s V28) λV29=>wC TP X (cond u0 152 141) [V26,V29] (λV30 S31=>oK (qBV .not V30) λV32=>qAJ V32
 (qAm X u0 i7 j8 I0 m0 K S31)
 (oK (qAB .sub j10 (.int .i64 1)) λV33=>oK (qAB .sub j10 (.int .i64 1)) λV34=>oK (qAH 1 data0 V34) λV35=>oK (rd1 S31 V35) λV36=>oK (qAH 1 data0 j10) λV37=>oK (rd1 S31 V37) λV38=>oK (qAH 1 data0 j10) λV39=>oK (wr1 S31 V39 V36) λS40=>oK (qAH 1 data0 V33) λV41=>oK (wr1 S40 V41 V38) λS42=>oK (qAB .add j10 (.int .i64 1)) λV43=>∃m',m'<m5/\I5 [V43] S42 m')) s)
 (qAm X u0 i7 j8 I0 m0 K s)
def qAe(X:Td)(u0:Bool)(data0 b2 i7 j8:AV)(I0:IvP)(m0:Nat)(K:KvP)(s:Hq):Prop:=
 oK (qAB .sub b2 i7) λV20=>oK (qAB .geq V20 (.int .i64 2)) λV21=>qAJ V21
 (oK (qAB .add i7 (.int .i64 1)) λV23=>∃I5:IvP,(∃m,I5 [V23] s m)/\∀(f:Env) (s:Hq) (m5:Nat),I5 [f 10] s m5->
 qBv X u0 data0 b2 i7 j8 (f 10) I5 m5 I0 m0 K s)
 (qAm X u0 i7 j8 I0 m0 K s)
def qBt(X:Td)(u0:Bool)(data0 b2 i7 j8 j9:AV)(I6:IvP)(m6:Nat)(I0:IvP)(m0:Nat)(K:KvP)(s:Hq):Prop:=
 oK (qAB .geq j9 (.int .i64 1)) λV45=>qAJ V45
 (oK (qAH 1 data0 j9) λV46=>oK (rd1 s V46) λV47=>oK (qAB .sub j9 (.int .i64 1)) λV48=>oK (qAH 1 data0 V48) λV49=>oK (rd1 s V49) λV50=>wC TP X (cond u0 152 141) [V47,V50] (λV51 S52=>oK (qBV .not V51) λV53=>qAJ V53
 (qAe X u0 data0 b2 i7 j8 I0 m0 K S52)
 (oK (qAB .sub j9 (.int .i64 1)) λV54=>oK (qAB .sub j9 (.int .i64 1)) λV55=>oK (qAH 1 data0 V55) λV56=>oK (rd1 S52 V56) λV57=>oK (qAH 1 data0 j9) λV58=>oK (rd1 S52 V58) λV59=>oK (qAH 1 data0 j9) λV60=>oK (wr1 S52 V60 V57) λS61=>oK (qAH 1 data0 V54) λV62=>oK (wr1 S61 V62 V59) λS63=>oK (qAB .sub j9 (.int .i64 1)) λV64=>∃m',m'<m6/\I6 [V64] S63 m')) s)
 (qAe X u0 data0 b2 i7 j8 I0 m0 K s)
def qAo(X:Td)(u0:Bool)(data0 a1 b2 i7 j8 t20 t31:AV)(I1:IvP)(m1:Nat)(I0:IvP)(m0:Nat)(K:KvP)(s:Hq):Prop:=
 oK (qAS t20 t31 (.bool false)) λV3=>qAJ V3
 (oK (qAB .add i7 (.int .i64 1)) λV4=>∃m',m'<m1/\I1 [V4] s m')
 (oK (negB false (eqV 0 false i7 b2)) λV5=>qAJ V5
 (K (.bool true) s)
 (oK (qAB .sub b2 a1) λV6=>oK (qAB .lss V6 (.int .i64 50)) λV7=>qAJ V7
 (K (.bool false) s)
 (oK (qAB .sub i7 (.int .i64 1)) λV8=>oK (qAB .sub i7 (.int .i64 1)) λV9=>oK (qAH 1 data0 V9) λV10=>oK (rd1 s V10) λV11=>oK (qAH 1 data0 i7) λV12=>oK (rd1 s V12) λV13=>oK (qAH 1 data0 i7) λV14=>oK (wr1 s V14 V11) λS15=>oK (qAH 1 data0 V8) λV16=>oK (wr1 S15 V16 V13) λS17=>oK (qAB .sub i7 a1) λV18=>oK (qAB .geq V18 (.int .i64 2)) λV19=>qAJ V19
 (oK (qAB .sub i7 (.int .i64 1)) λV44=>∃I6:IvP,(∃m,I6 [V44] S17 m)/\∀(f:Env) (s:Hq) (m6:Nat),I6 [f 9] s m6->
 qBt X u0 data0 b2 i7 j8 (f 9) I6 m6 I0 m0 K s)
 (qAe X u0 data0 b2 i7 j8 I0 m0 K S17))))
def qBu(X:Td)(u0:Bool)(data0 a1 b2 i7 j8:AV)(I1:IvP)(m1:Nat)(I0:IvP)(m0:Nat)(K:KvP)(s:Hq):Prop:=
 oK (qAB .lss i7 b2) λV2=>qAJ V2
 (oK (qAH 1 data0 i7) λV65=>oK (rd1 s V65) λV66=>oK (qAB .sub i7 (.int .i64 1)) λV67=>oK (qAH 1 data0 V67) λV68=>oK (rd1 s V68) λV69=>wC TP X (cond u0 152 141) [V66,V69] (λV70 S71=>oK (qBV .not V70) λV72=>qAo X u0 data0 a1 b2 i7 j8 V2 V72 I1 m1 I0 m0 K S71) s)
 (qAo X u0 data0 a1 b2 i7 j8 V2 .undef I1 m1 I0 m0 K s)
def qBr(X:Td)(u0:Bool)(data0 a1 b2 i7 j8:AV)(I0:IvP)(m0:Nat)(K:KvP)(s:Hq):Prop:=
 oK (qAB .lss j8 (.int .i64 5)) λV1=>qAJ V1
 (∃I1:IvP,(∃m,I1 [i7] s m)/\∀(f:Env) (s:Hq) (m1:Nat),I1 [f 7] s m1->
 qBu X u0 data0 a1 b2 (f 7) j8 I1 m1 I0 m0 K s)
 (K (.bool false) s)
def qCD(X:Td)(u0:Bool)(data0 a1 b2:AV)(K:KvP)(s:Hq):Prop:=
 oK (qAB .add a1 (.int .i64 1)) λV0=>∃I0:IvP,(∃m,I0 [V0,(.int .i64 0)] s m)/\∀(f:Env) (s:Hq) (m0:Nat),I0 [f 7,f 8] s m0->
 qBr X u0 data0 a1 b2 (f 7) (f 8) I0 m0 K s
def qBi:Nat->List Nat:=λk=>cond (Nat.beq k 6) [7,8] (cond (Nat.beq k 10) [7] (cond (Nat.beq k 40) [10] (cond (Nat.beq k 28) [9] ([]))))
theorem qDg{u0:Bool}{data0 a1 b2:AV}{K:KvP}{s:Hq}(h:qCD (XG u0) u0 data0 a1 b2 K s):wC TP (XG u0) (cond u0 151 140) [data0,a1,b2] K s:=by
 cases u0
 ·exact wO9 qBz qBi rfl Tryz.func140 h
 ·exact wO9 qCK qBi rfl Tryz.func151 h
def qA0(X:Td)(u0:Bool)(data0 i9 j10 t49 t58:AV)(I3:IvP)(m3:Nat)(I0:IvP)(m0:Nat)(K:KvP)(s:Hq):Prop:=
 oK (qAS t49 t58 (.bool false)) λV14=>qAJ V14
 (oK (qAB .sub j10 (.int .i64 1)) λV15=>∃m',m'<m3/\I3 [V15] s m')
 (oK (qAB .gtr i9 j10) λV16=>qAJ V16
 (K i9 s)
 (oK (qAH 1 data0 j10) λV17=>oK (rd1 s V17) λV18=>oK (qAH 1 data0 i9) λV19=>oK (rd1 s V19) λV20=>oK (qAH 1 data0 i9) λV21=>oK (wr1 s V21 V18) λS22=>oK (qAH 1 data0 j10) λV23=>oK (wr1 S22 V23 V20) λS24=>oK (qAB .add i9 (.int .i64 1)) λV25=>oK (qAB .sub j10 (.int .i64 1)) λV26=>∃m',m'<m0/\I0 [V25,V26] S24 m'))
def qBW(X:Td)(u0:Bool)(data0 a1 i9 j10:AV)(I3:IvP)(m3:Nat)(I0:IvP)(m0:Nat)(K:KvP)(s:Hq):Prop:=
 oK (qAB .leq i9 j10) λV13=>qAJ V13
 (oK (qAH 1 data0 a1) λV27=>oK (rd1 s V27) λV28=>oK (qAH 1 data0 j10) λV29=>oK (rd1 s V29) λV30=>wC TP X (cond u0 152 141) [V28,V30] (λV31 S32=>qA0 X u0 data0 i9 j10 V13 V31 I3 m3 I0 m0 K S32) s)
 (qA0 X u0 data0 i9 j10 V13 .undef I3 m3 I0 m0 K s)
def qAy(X:Td)(u0:Bool)(data0 a1 i9 j10 t32 t42:AV)(I1:IvP)(m1:Nat)(I0:IvP)(m0:Nat)(K:KvP)(s:Hq):Prop:=
 oK (qAS t32 t42 (.bool false)) λV11=>qAJ V11
 (oK (qAB .add i9 (.int .i64 1)) λV12=>∃m',m'<m1/\I1 [V12,j10] s m')
 (∃I3:IvP,(∃m,I3 [j10] s m)/\∀(f:Env) (s:Hq) (m3:Nat),I3 [f 10] s m3->
 qBW X u0 data0 a1 i9 (f 10) I3 m3 I0 m0 K s)
def qCS(X:Td)(u0:Bool)(data0 a1 i9 j10:AV)(I1:IvP)(m1:Nat)(I0:IvP)(m0:Nat)(K:KvP)(s:Hq):Prop:=
 oK (qAB .leq i9 j10) λV10=>qAJ V10
 (oK (qAH 1 data0 a1) λV33=>oK (rd1 s V33) λV34=>oK (qAH 1 data0 i9) λV35=>oK (rd1 s V35) λV36=>wC TP X (cond u0 152 141) [V34,V36] (λV37 S38=>oK (qBV .not V37) λV39=>qAy X u0 data0 a1 i9 j10 V10 V39 I1 m1 I0 m0 K S38) s)
 (qAy X u0 data0 a1 i9 j10 V10 .undef I1 m1 I0 m0 K s)
def qER(X:Td)(u0:Bool)(data0 a1 i9 j10:AV)(I0:IvP)(m0:Nat)(K:KvP)(s:Hq):Prop:=
 ∃I1:IvP,(∃m,I1 [i9,j10] s m)/\∀(f:Env) (s:Hq) (m1:Nat),I1 [f 9,f 10] s m1->
 qCS X u0 data0 a1 (f 9) j10 I1 m1 I0 m0 K s
def qCw(X:Td)(u0:Bool)(data0 a1 b2 pivot3:AV)(K:KvP)(s:Hq):Prop:=
 oK (qAH 1 data0 pivot3) λV0=>oK (rd1 s V0) λV1=>oK (qAH 1 data0 a1) λV2=>oK (rd1 s V2) λV3=>oK (qAH 1 data0 a1) λV4=>oK (wr1 s V4 V1) λS5=>oK (qAH 1 data0 pivot3) λV6=>oK (wr1 S5 V6 V3) λS7=>oK (qAB .add a1 (.int .i64 1)) λV8=>oK (qAB .sub b2 (.int .i64 1)) λV9=>∃I0:IvP,(∃m,I0 [V8,V9] S7 m)/\∀(f:Env) (s:Hq) (m0:Nat),I0 [f 9,f 10] s m0->
 qER X u0 data0 a1 (f 9) (f 10) I0 m0 K s
def qCL:Nat->List Nat:=λk=>cond (Nat.beq k 6) [9,10] (cond (Nat.beq k 10) [10] ([]))
theorem qEZ{u0:Bool}{data0 a1 b2 pivot3:AV}{K:KvP}{s:Hq}(h:qCw (XG u0) u0 data0 a1 b2 pivot3 K s):wC TP (XG u0) (cond u0 153 142) [data0,a1,b2,pivot3] K s:=by
 cases u0
 ·exact wO9 qBz qCL rfl Tryz.func142 h
 ·exact wO9 qCK qCL rfl Tryz.func153 h
def qBP(X:Td)(u0:Bool)(data0 a1 i10 j11 t118 t128:AV)(I7:IvP)(m7:Nat)(I4:IvP)(m4:Nat)(K:KvP)(s:Hq):Prop:=
 oK (qAS t118 t128 (.bool false)) λV39=>qAJ V39
 (oK (qAB .sub j11 (.int .i64 1)) λV40=>∃m',m'<m7/\I7 [V40] s m')
 (oK (qAB .gtr i10 j11) λV41=>qAJ V41
 (oK (qAH 1 data0 a1) λV42=>oK (rd1 s V42) λV43=>oK (qAH 1 data0 j11) λV44=>oK (rd1 s V44) λV45=>oK (qAH 1 data0 j11) λV46=>oK (wr1 s V46 V43) λS47=>oK (qAH 1 data0 a1) λV48=>oK (wr1 S47 V48 V45) λS49=>K (.tup [j11,(.bool false)]) S49)
 (oK (qAH 1 data0 j11) λV50=>oK (rd1 s V50) λV51=>oK (qAH 1 data0 i10) λV52=>oK (rd1 s V52) λV53=>oK (qAH 1 data0 i10) λV54=>oK (wr1 s V54 V51) λS55=>oK (qAH 1 data0 j11) λV56=>oK (wr1 S55 V56 V53) λS57=>oK (qAB .add i10 (.int .i64 1)) λV58=>oK (qAB .sub j11 (.int .i64 1)) λV59=>∃m',m'<m4/\I4 [V58,V59] S57 m'))
def qCA(X:Td)(u0:Bool)(data0 a1 i10 j11:AV)(I7:IvP)(m7:Nat)(I4:IvP)(m4:Nat)(K:KvP)(s:Hq):Prop:=
 oK (qAB .leq i10 j11) λV38=>qAJ V38
 (oK (qAH 1 data0 j11) λV60=>oK (rd1 s V60) λV61=>oK (qAH 1 data0 a1) λV62=>oK (rd1 s V62) λV63=>wC TP X (cond u0 152 141) [V61,V63] (λV64 S65=>oK (qBV .not V64) λV66=>qBP X u0 data0 a1 i10 j11 V38 V66 I7 m7 I4 m4 K S65) s)
 (qBP X u0 data0 a1 i10 j11 V38 .undef I7 m7 I4 m4 K s)
def qBO(X:Td)(u0:Bool)(data0 a1 i10 j11 t102 t111:AV)(I5:IvP)(m5:Nat)(I4:IvP)(m4:Nat)(K:KvP)(s:Hq):Prop:=
 oK (qAS t102 t111 (.bool false)) λV36=>qAJ V36
 (oK (qAB .add i10 (.int .i64 1)) λV37=>∃m',m'<m5/\I5 [V37,j11] s m')
 (∃I7:IvP,(∃m,I7 [j11] s m)/\∀(f:Env) (s:Hq) (m7:Nat),I7 [f 11] s m7->
 qCA X u0 data0 a1 i10 (f 11) I7 m7 I4 m4 K s)
def qDJ(X:Td)(u0:Bool)(data0 a1 i10 j11:AV)(I5:IvP)(m5:Nat)(I4:IvP)(m4:Nat)(K:KvP)(s:Hq):Prop:=
 oK (qAB .leq i10 j11) λV35=>qAJ V35
 (oK (qAH 1 data0 i10) λV67=>oK (rd1 s V67) λV68=>oK (qAH 1 data0 a1) λV69=>oK (rd1 s V69) λV70=>wC TP X (cond u0 152 141) [V68,V70] (λV71 S72=>qBO X u0 data0 a1 i10 j11 V35 V71 I5 m5 I4 m4 K S72) s)
 (qBO X u0 data0 a1 i10 j11 V35 .undef I5 m5 I4 m4 K s)
def qCB(X:Td)(u0:Bool)(data0 a1 i10 j11:AV)(I4:IvP)(m4:Nat)(K:KvP)(s:Hq):Prop:=
 ∃I5:IvP,(∃m,I5 [i10,j11] s m)/\∀(f:Env) (s:Hq) (m5:Nat),I5 [f 10,f 11] s m5->
 qDJ X u0 data0 a1 (f 10) j11 I5 m5 I4 m4 K s
def qBN(X:Td)(u0:Bool)(data0 a1 i10 j11 t49 t59:AV)(I2:IvP)(m2:Nat)(K:KvP)(s:Hq):Prop:=
 oK (qAS t49 t59 (.bool false)) λV14=>qAJ V14
 (oK (qAB .sub j11 (.int .i64 1)) λV15=>∃m',m'<m2/\I2 [V15] s m')
 (oK (qAB .gtr i10 j11) λV16=>qAJ V16
 (oK (qAH 1 data0 a1) λV17=>oK (rd1 s V17) λV18=>oK (qAH 1 data0 j11) λV19=>oK (rd1 s V19) λV20=>oK (qAH 1 data0 j11) λV21=>oK (wr1 s V21 V18) λS22=>oK (qAH 1 data0 a1) λV23=>oK (wr1 S22 V23 V20) λS24=>K (.tup [j11,(.bool true)]) S24)
 (oK (qAH 1 data0 j11) λV25=>oK (rd1 s V25) λV26=>oK (qAH 1 data0 i10) λV27=>oK (rd1 s V27) λV28=>oK (qAH 1 data0 i10) λV29=>oK (wr1 s V29 V26) λS30=>oK (qAH 1 data0 j11) λV31=>oK (wr1 S30 V31 V28) λS32=>oK (qAB .add i10 (.int .i64 1)) λV33=>oK (qAB .sub j11 (.int .i64 1)) λV34=>∃I4:IvP,(∃m,I4 [V33,V34] S32 m)/\∀(f:Env) (s:Hq) (m4:Nat),I4 [f 10,f 11] s m4->
 qCB X u0 data0 a1 (f 10) (f 11) I4 m4 K s))
def qB8(X:Td)(u0:Bool)(data0 a1 i10 j11:AV)(I2:IvP)(m2:Nat)(K:KvP)(s:Hq):Prop:=
 oK (qAB .leq i10 j11) λV13=>qAJ V13
 (oK (qAH 1 data0 j11) λV73=>oK (rd1 s V73) λV74=>oK (qAH 1 data0 a1) λV75=>oK (rd1 s V75) λV76=>wC TP X (cond u0 152 141) [V74,V76] (λV77 S78=>oK (qBV .not V77) λV79=>qBN X u0 data0 a1 i10 j11 V13 V79 I2 m2 K S78) s)
 (qBN X u0 data0 a1 i10 j11 V13 .undef I2 m2 K s)
def qBL(X:Td)(u0:Bool)(data0 a1 i10 j11 t33 t42:AV)(I0:IvP)(m0:Nat)(K:KvP)(s:Hq):Prop:=
 oK (qAS t33 t42 (.bool false)) λV11=>qAJ V11
 (oK (qAB .add i10 (.int .i64 1)) λV12=>∃m',m'<m0/\I0 [V12] s m')
 (∃I2:IvP,(∃m,I2 [j11] s m)/\∀(f:Env) (s:Hq) (m2:Nat),I2 [f 11] s m2->
 qB8 X u0 data0 a1 i10 (f 11) I2 m2 K s)
def qDN(X:Td)(u0:Bool)(data0 a1 i10 j11:AV)(I0:IvP)(m0:Nat)(K:KvP)(s:Hq):Prop:=
 oK (qAB .leq i10 j11) λV10=>qAJ V10
 (oK (qAH 1 data0 i10) λV80=>oK (rd1 s V80) λV81=>oK (qAH 1 data0 a1) λV82=>oK (rd1 s V82) λV83=>wC TP X (cond u0 152 141) [V81,V83] (λV84 S85=>qBL X u0 data0 a1 i10 j11 V10 V84 I0 m0 K S85) s)
 (qBL X u0 data0 a1 i10 j11 V10 .undef I0 m0 K s)
def qDy(X:Td)(u0:Bool)(data0 a1 b2 pivot3:AV)(K:KvP)(s:Hq):Prop:=
 oK (qAH 1 data0 pivot3) λV0=>oK (rd1 s V0) λV1=>oK (qAH 1 data0 a1) λV2=>oK (rd1 s V2) λV3=>oK (qAH 1 data0 a1) λV4=>oK (wr1 s V4 V1) λS5=>oK (qAH 1 data0 pivot3) λV6=>oK (wr1 S5 V6 V3) λS7=>oK (qAB .add a1 (.int .i64 1)) λV8=>oK (qAB .sub b2 (.int .i64 1)) λV9=>∃I0:IvP,(∃m,I0 [V8] S7 m)/\∀(f:Env) (s:Hq) (m0:Nat),I0 [f 10] s m0->
 qDN X u0 data0 a1 (f 10) V9 I0 m0 K s
def qDE:Nat->List Nat:=λk=>cond (Nat.beq k 6) [10] (cond (Nat.beq k 10) [11] (cond (Nat.beq k 26) [10,11] (cond (Nat.beq k 30) [11] ([]))))
theorem qFk{u0:Bool}{data0 a1 b2 pivot3:AV}{K:KvP}{s:Hq}(h:qDy (XG u0) u0 data0 a1 b2 pivot3 K s):wC TP (XG u0) (cond u0 154 143) [data0,a1,b2,pivot3] K s:=by
 cases u0
 ·exact wO9 qBz qDE rfl Tryz.func143 h
 ·exact wO9 qCK qDE rfl Tryz.func154 h
def qAt(X:Td)(u0:Bool)(data0 a1 b2 limit3 x8 x9 x10 x11 t75 t86:AV)(I0:IvP)(m0:Nat)(K:KvP)(s:Hq):Prop:=
 oK (qAS t75 t86 (.bool false)) λV16=>qAJ V16
 (wC TP X (cond u0 153 142) [data0,a1,b2,x11] (λV17 S18=>∃m',m'<m0/\I0 [V17,b2,limit3,x8,x9] S18 m') s)
 (wC TP X (cond u0 154 143) [data0,a1,b2,x11] (λV19 S20=>oK (qAh V19 0) λV21=>oK (qAh V19 1) λV22=>oK (qAB .sub V21 a1) λV23=>oK (qAB .sub b2 V21) λV24=>oK (qAB .quo x10 (.int .i64 8)) λV25=>oK (qAB .lss V23 V24) λV26=>qAJ V26
 (oK (qAB .geq V23 V25) λV27=>wC TP X (cond u0 98 95) [data0,a1,V21,limit3] (λV28 S29=>oK (qAB .add V21 (.int .i64 1)) λV30=>∃m',m'<m0/\I0 [V30,b2,limit3,V27,V22] S29 m') S20)
 (oK (qAB .geq V24 V25) λV31=>oK (qAB .add V21 (.int .i64 1)) λV32=>wC TP X (cond u0 98 95) [data0,V32,b2,limit3] (λV33 S34=>∃m',m'<m0/\I0 [a1,V21,limit3,V31,V22] S34 m') S20)) s)
def qBX(X:Td)(u0:Bool)(data0 a1 b2 limit3 x8 x9 x10 x11:AV)(I0:IvP)(m0:Nat)(K:KvP)(s:Hq):Prop:=
 oK (qAB .gtr a1 (.int .i64 0)) λV15=>qAJ V15
 (oK (qAB .sub a1 (.int .i64 1)) λV35=>oK (qAH 1 data0 V35) λV36=>oK (rd1 s V36) λV37=>oK (qAH 1 data0 x11) λV38=>oK (rd1 s V38) λV39=>wC TP X (cond u0 152 141) [V37,V39] (λV40 S41=>oK (qBV .not V40) λV42=>qAt X u0 data0 a1 b2 limit3 x8 x9 x10 x11 V15 V42 I0 m0 K S41) s)
 (qAt X u0 data0 a1 b2 limit3 x8 x9 x10 x11 V15 .undef I0 m0 K s)
def qA6(X:Td)(u0:Bool)(data0 a1 b2 limit3 x8 x9 x10 x11 t65 t67:AV)(I0:IvP)(m0:Nat)(K:KvP)(s:Hq):Prop:=
 oK (qAS t65 t67 (.bool false)) λV14=>qAJ V14
 (wC TP X (cond u0 151 140) [data0,a1,b2] (λV43 S44=>qAJ V43
 (K (.tup []) S44)
 (qBX X u0 data0 a1 b2 limit3 x8 x9 x10 x11 I0 m0 K S44)) s)
 (qBX X u0 data0 a1 b2 limit3 x8 x9 x10 x11 I0 m0 K s)
def qA7(X:Td)(u0:Bool)(data0 a1 b2 limit3 x8 x9 x10 x11 x12 t62 t63:AV)(I0:IvP)(m0:Nat)(K:KvP)(s:Hq):Prop:=
 oK (qAS t62 t63 (.bool false)) λV13=>qAJ V13
 (oK (negB false (eqV 0 true x12 (.int .i64 1))) λV45=>qA6 X u0 data0 a1 b2 limit3 x8 x9 x10 x11 V13 V45 I0 m0 K s)
 (qA6 X u0 data0 a1 b2 limit3 x8 x9 x10 x11 V13 .undef I0 m0 K s)
def qAs(X:Td)(u0:Bool)(data0 a1 b2 limit3 x8 x9 x10 x11 x12:AV)(I0:IvP)(m0:Nat)(K:KvP)(s:Hq):Prop:=
 qAJ x8
 (qA7 X u0 data0 a1 b2 limit3 x8 x9 x10 x11 x12 x8 x9 I0 m0 K s)
 (qA7 X u0 data0 a1 b2 limit3 x8 x9 x10 x11 x12 x8 .undef I0 m0 K s)
def qCJ(X:Td)(u0:Bool)(data0 a1 b2 limit3 x8 x9 x10:AV)(I0:IvP)(m0:Nat)(K:KvP)(s:Hq):Prop:=
 wC TP X (cond u0 149 138) [data0,a1,b2] (λV8 S9=>oK (qAh V8 0) λV10=>oK (qAh V8 1) λV11=>oK (negB false (eqV 0 true V11 (.int .i64 2))) λV12=>qAJ V12
 (wC TP X (cond u0 150 139) [data0,a1,b2] (λV46 S47=>oK (qAB .sub b2 (.int .i64 1)) λV48=>oK (qAB .sub V10 a1) λV49=>oK (qAB .sub V48 V49) λV50=>qAs X u0 data0 a1 b2 limit3 x8 x9 x10 V50 (.int .i64 1) I0 m0 K S47) S9)
 (qAs X u0 data0 a1 b2 limit3 x8 x9 x10 V10 V11 I0 m0 K S9)) s
def qDn(X:Td)(u0:Bool)(data0 a1 b2 limit3 x8 x9:AV)(I0:IvP)(m0:Nat)(K:KvP)(s:Hq):Prop:=
 oK (qAB .sub b2 a1) λV0=>oK (qAB .leq V0 (.int .i64 12)) λV1=>qAJ V1
 (wC TP X (cond u0 146 135) [data0,a1,b2] (λV2 S3=>K (.tup []) S3) s)
 (oK (negB false (eqV 0 true limit3 (.int .i64 0))) λV4=>qAJ V4
 (wC TP X (cond u0 147 136) [data0,a1,b2] (λV5 S6=>K (.tup []) S6) s)
 (oK (qBV .not x8) λV7=>qAJ V7
 (wC TP X (cond u0 148 137) [data0,a1,b2] (λV51 S52=>oK (qAB .sub limit3 (.int .i64 1)) λV53=>qCJ X u0 data0 a1 b2 V53 x8 x9 V0 I0 m0 K S52) s)
 (qCJ X u0 data0 a1 b2 limit3 x8 x9 V0 I0 m0 K s)))
def qG7(X:Td)(u0:Bool)(data0 a1 b2 limit3:AV)(K:KvP)(s:Hq):Prop:=
 ∃I0:IvP,(∃m,I0 [a1,b2,limit3,(.bool true),(.bool true)] s m)/\∀(f:Env) (s:Hq) (m0:Nat),I0 [f 1,f 2,f 3,f 8,f 9] s m0->
 qDn X u0 data0 (f 1) (f 2) (f 3) (f 8) (f 9) I0 m0 K s
def qDV:Nat->List Nat:=λk=>cond (Nat.beq k 4) [1,2,3,8,9] ([])
theorem qDo{u0:Bool}{data0 a1 b2 limit3:AV}{K:KvP}{s:Hq}(h:qG7 (XG u0) u0 data0 a1 b2 limit3 K s):wC TP (XG u0) (cond u0 98 95) [data0,a1,b2,limit3] K s:=by
 cases u0
 ·exact wO9 qBz qDV rfl Tryz.func95 h
 ·exact wO9 qCK qDV rfl Tryz.func98 h
def qCp(X:Td)(u0:Bool)(data0 i6 j7:AV)(I0:IvP)(m0:Nat)(K:KvP)(s:Hq):Prop:=
 oK (qAB .lss i6 j7) λV1=>qAJ V1
 (oK (qAH 1 data0 j7) λV2=>oK (rd1 s V2) λV3=>oK (qAH 1 data0 i6) λV4=>oK (rd1 s V4) λV5=>oK (qAH 1 data0 i6) λV6=>oK (wr1 s V6 V3) λS7=>oK (qAH 1 data0 j7) λV8=>oK (wr1 S7 V8 V5) λS9=>oK (qAB .add i6 (.int .i64 1)) λV10=>oK (qAB .sub j7 (.int .i64 1)) λV11=>∃m',m'<m0/\I0 [V10,V11] S9 m')
 (K (.tup []) s)
def qDO(X:Td)(u0:Bool)(data0 a1 b2:AV)(K:KvP)(s:Hq):Prop:=
 oK (qAB .sub b2 (.int .i64 1)) λV0=>∃I0:IvP,(∃m,I0 [a1,V0] s m)/\∀(f:Env) (s:Hq) (m0:Nat),I0 [f 6,f 7] s m0->
 qCp X u0 data0 (f 6) (f 7) I0 m0 K s
def qCa:Nat->List Nat:=λk=>cond (Nat.beq k 4) [6,7] ([])
theorem qE1{u0:Bool}{data0 a1 b2:AV}{K:KvP}{s:Hq}(h:qDO (XG u0) u0 data0 a1 b2 K s):wC TP (XG u0) (cond u0 150 139) [data0,a1,b2] K s:=by
 cases u0
 ·exact wO9 qBz qCa rfl Tryz.func139 h
 ·exact wO9 qCK qCa rfl Tryz.func150 h
def qBU(X:Td)(u0:Bool)(data0 first3 x8 x9:AV)(I0:IvP)(m0:Nat)(K:KvP)(s:Hq):Prop:=
 oK (qAB .add first3 x8) λV6=>oK (qAH 1 data0 V6) λV7=>oK (rd1 s V7) λV8=>oK (qAB .add first3 x9) λV9=>oK (qAH 1 data0 V9) λV10=>oK (rd1 s V10) λV11=>wC TP X (cond u0 152 141) [V8,V11] (λV12 S13=>oK (qBV .not V12) λV14=>qAJ V14
 (K (.tup []) S13)
 (oK (qAB .add first3 x8) λV15=>oK (qAB .add first3 x9) λV16=>oK (qAB .add first3 x9) λV17=>oK (qAH 1 data0 V17) λV18=>oK (rd1 S13 V18) λV19=>oK (qAB .add first3 x8) λV20=>oK (qAH 1 data0 V20) λV21=>oK (rd1 S13 V21) λV22=>oK (qAH 1 data0 V15) λV23=>oK (wr1 S13 V23 V19) λS24=>oK (qAH 1 data0 V16) λV25=>oK (wr1 S24 V25 V22) λS26=>∃m',m'<m0/\I0 [x9] S26 m')) s
def qBT(X:Td)(u0:Bool)(data0 first3 x8 x9 t21 t35:AV)(I0:IvP)(m0:Nat)(K:KvP)(s:Hq):Prop:=
 oK (qAS t21 t35 (.bool false)) λV5=>qAJ V5
 (oK (qAB .add x9 (.int .i64 1)) λV27=>qBU X u0 data0 first3 x8 V27 I0 m0 K s)
 (qBU X u0 data0 first3 x8 x9 I0 m0 K s)
def qDW(X:Td)(u0:Bool)(data0 hi2 first3 x8:AV)(I0:IvP)(m0:Nat)(K:KvP)(s:Hq):Prop:=
 oK (qAB .mul (.int .i64 2) x8) λV0=>oK (qAB .add V0 (.int .i64 1)) λV1=>oK (qAB .geq V1 hi2) λV2=>qAJ V2
 (K (.tup []) s)
 (oK (qAB .add V1 (.int .i64 1)) λV3=>oK (qAB .lss V3 hi2) λV4=>qAJ V4
 (oK (qAB .add first3 V1) λV28=>oK (qAH 1 data0 V28) λV29=>oK (rd1 s V29) λV30=>oK (qAB .add first3 V1) λV31=>oK (qAB .add V31 (.int .i64 1)) λV32=>oK (qAH 1 data0 V32) λV33=>oK (rd1 s V33) λV34=>wC TP X (cond u0 152 141) [V30,V34] (λV35 S36=>qBT X u0 data0 first3 x8 V1 V4 V35 I0 m0 K S36) s)
 (qBT X u0 data0 first3 x8 V1 V4 .undef I0 m0 K s))
def qGg(X:Td)(u0:Bool)(data0 lo1 hi2 first3:AV)(K:KvP)(s:Hq):Prop:=
 ∃I0:IvP,(∃m,I0 [lo1] s m)/\∀(f:Env) (s:Hq) (m0:Nat),I0 [f 8] s m0->
 qDW X u0 data0 hi2 first3 (f 8) I0 m0 K s
def qDP:Nat->List Nat:=λk=>cond (Nat.beq k 2) [8] ([])
theorem qFn{u0:Bool}{data0 lo1 hi2 first3:AV}{K:KvP}{s:Hq}(h:qGg (XG u0) u0 data0 lo1 hi2 first3 K s):wC TP (XG u0) (cond u0 183 177) [data0,lo1,hi2,first3] K s:=by
 cases u0
 ·exact wO9 qBz qDP rfl Tryz.func177 h
 ·exact wO9 qCK qDP rfl Tryz.func183 h
end Go.AM
namespace Go.AM
open Go Go.Proofs
set_option maxRecDepth 100000
abbrev WW:List Nat:=[70,97,68,35]
def qA8:Nat->List Nat:=λk=>cond (Nat.beq k 7) [2] ([])
def qCx(X:Td)(l:Nat)(t2 t7:AV)(E:AExit->Hq->Prop)(s:Hq):Prop:=
 AExit.nrm=.nrm/\qO7 l (λS0=>oK (rd1 S0 t2) λV1=>oK (qBC (repl 1 [(.int .u32 0)]) [(0,1,t7)]) λC2=>qAZ C2=true/\newK 42 C2 (λB3 S4=>appK 42 1 V1 (.slc B3 0 1 (some 1) 1) (λV5 S6=>oK (wr1 S6 t2 V5) λS7=>E .nrm S7) S4) S0) s
theorem qEV(X:Td)(l:Nat)(f:Env)(t7:AV)(E:AExit->Hq->Prop)(s:Hq):wpC TP X qA8 Tryz.f97.ntmps (some l) (rfAs 0 (qA5 Tryz.f97)) (setE f [7] [t7]) (λe env s=>e=.nrm/\qO7 l (λs=>wpC TP X qA8 Tryz.f97.ntmps (some l) (rfBo 0 (qA5 Tryz.f97)) env (λe _ s=>E e s) s) s) s=qCx X l (f 2) t7 E s:=by kernel_rfl
theorem qEQ{l:Nat}{t:Bool}{st:LoopState}{pd:Option Code}{d:Nat}{t2 t7:AV}{K:KvP}{s:Hq}(hs:s l=some (t,.loop st pd 13 [(2,t2)] [7] (rfAs 0 (qA5 Tryz.f97)) (rfBo 0 (qA5 Tryz.f97)) d))(h:qCx qGk l t2 t7 (λe s=>endK l e K s) s):qMy TP qGk l [t7] K s:=
 qU4 (qCK) qA8 hs rfl rfl λf hf=>by
 refine(qEV qGk l f t7 (λe s=>endK l e K s) s).mpr ?_
 rw[show f 2=t2 from hf (2,t2) (by simp)]
 exact h
def qDf(X:Td)(t0:AV)(K:KvP)(s:Hq):Prop:=
 boxK 101 t0 (λB0 S1=>K (.fn (.func 70) [] [B0]) S1) s
theorem qDH{t0:AV}{K:KvP}{s:Hq}(h:qDf XX t0 K s):wC TP XX 36 [t0] K s:=wOK qBz nA0 rfl Tryz.func36 h
def qA1(X:Td)(yield0 t1:AV)(K:KvP)(s:Hq):Prop:=
 oK (rd1 s t1) λV0=>qXM V0 (λV1 S2=>oK (qRV S2 V1) λp_3=>∃I0:LvP,I0 [] [] (hdel S2 p_3.1)/\
 ∀(n_5:List Nat) (f_6:Env) (S7:Hq),I0 n_5 [] S7->S7 p_3.1=none->qSO S7 p_3.2.1 p_3.2.2.2.1 p_3.2.2.2.2/\
 (∀e_4∈p_3.2.2.2.2,hasN e_4.born n_5=false->
 qAJ (.bool true)
 (oK (entD (hset S7 p_3.1 (true,.iter p_3.2.1 p_3.2.2.1 (n_5 ++ [e_4.born]) p_3.2.2.2.1)) V1) λV8=>oK (qAh V8 0) λV9=>funK TP X yield0 [V9] (λV10 S11=>oK (qBV .not V10) λV12=>qAJ V12
 (K (.tup []) (hdel S11 p_3.1))
 (I0 (n_5 ++ [e_4.born]) [] (hdel S11 p_3.1))) (hset S7 p_3.1 (true,.iter p_3.2.1 p_3.2.2.1 (n_5 ++ [e_4.born]) p_3.2.2.2.1)))
 (K (.tup []) (hdel (hset S7 p_3.1 (true,.iter p_3.2.1 p_3.2.2.1 (n_5 ++ [e_4.born]) p_3.2.2.2.1)) p_3.1)))/\
 ((∀e_4∈p_3.2.2.2.2,hasN e_4.born n_5=true)->
 qAJ (.bool false)
 (oK (entD S7 V1) λV13=>oK (qAh V13 0) λV14=>funK TP X yield0 [V14] (λV15 S16=>oK (qBV .not V15) λV17=>qAJ V17
 (K (.tup []) S16)
 (False)) S7)
 (K (.tup []) S7))) s
def qBR:Nat->List Nat:=λk=>cond (Nat.beq k 2) [] ([])
theorem qC0(X:Td)(yield0 t1:AV)(K:KvP)(s:Hq):wpCW TP X WW qBR Tryz.f70.ntmps (qA5 Tryz.f70) (qJU [yield0,t1]) (λe env s=>retK e (resK TP Tryz.f70.results.toList env (λvs=>K (oneV vs) s) s)) s=qA1 X yield0 t1 K s:=by kernel_rfl
theorem qC1{yield0 t1:AV}{K:KvP}{s:Hq}(h:qA1 qGk yield0 t1 K s):wpW TP qGk 70 [yield0,t1] K s:=
 qPs qBR Tryz.func70 (by kernel_rfl:Tryz.f70.body=some (qA5 Tryz.f70)) (by kernel_rfl) ((qC0 qGk yield0 t1 K s).mpr h)
def qE2(X:Td)(seq0:AV)(K:KvP)(s:Hq):Prop:=
 wpW TP X 97 [.nilslc,seq0] (λV0 S1=>K V0 S1) s
theorem qIl(X:Td)(seq0:AV)(K:KvP)(s:Hq):wpCW TP X WW nA0 Tryz.f68.ntmps (qA5 Tryz.f68) (qJU [seq0]) (λe env s=>retK e (resK TP Tryz.f68.results.toList env (λvs=>K (oneV vs) s) s)) s=qE2 X seq0 K s:=by kernel_rfl
theorem qId{seq0:AV}{K:KvP}{s:Hq}(h:qE2 qGk seq0 K s):wpW TP qGk 68 [seq0] K s:=
 qPs nA0 Tryz.func68 (by kernel_rfl:Tryz.f68.body=some (qA5 Tryz.f68)) (by kernel_rfl) ((qIl qGk seq0 K s).mpr h)
def qFP(X:Td)(seq0:AV)(K:KvP)(s:Hq):Prop:=
 wpW TP X 68 [seq0] (λV0 S1=>wC TP X 69 [V0] (λV2 S3=>K V0 S3) S1) s
theorem qJY(X:Td)(seq0:AV)(K:KvP)(s:Hq):wpCW TP X WW nA0 Tryz.f35.ntmps (qA5 Tryz.f35) (qJU [seq0]) (λe env s=>retK e (resK TP Tryz.f35.results.toList env (λvs=>K (oneV vs) s) s)) s=qFP X seq0 K s:=by kernel_rfl
theorem qJX{seq0:AV}{K:KvP}{s:Hq}(h:qFP qGk seq0 K s):wpW TP qGk 35 [seq0] K s:=
 qPs nA0 Tryz.func35 (by kernel_rfl:Tryz.f35.body=some (qA5 Tryz.f35)) (by kernel_rfl) ((qJY qGk seq0 K s).mpr h)
end Go.AM
namespace Go.AM
open Go Go.Proofs
set_option maxRecDepth 100000
end Go.AM
namespace Go.AM
open Go Go.Proofs
set_option maxRecDepth 100000
def qHu(X:Td)(a0 b1 same5 i6 t13 t17:AV)(I0:IvP)(m0:Nat)(K:KvP)(s:Hq):Prop:=
 oK (qAS t13 t17 (.bool false)) λV5=>qAJ V5
 (oK (qAH 1 a0 i6) λV6=>oK (rd1 s V6) λV7=>oK (qAH 1 b1 i6) λV8=>oK (rd1 s V8) λV9=>oK (negB false (eqV 0 false V7 V9)) λV10=>oK (qAB .add i6 (.int .i64 1)) λV11=>∃m',m'<m0/\I0 [V10,V11] s m')
 (K same5 s)
def qKz(X:Td)(a0 b1 same5 i6:AV)(I0:IvP)(m0:Nat)(K:KvP)(s:Hq):Prop:=
 qAJ same5
 (oK (qAP a0) λV12=>oK (qAB .lss i6 (.int .i64 V12)) λV14=>qHu X a0 b1 same5 i6 same5 V14 I0 m0 K s)
 (qHu X a0 b1 same5 i6 same5 .undef I0 m0 K s)
def qOa(X:Td)(a0 b1:AV)(K:KvP)(s:Hq):Prop:=
 oK (qAP a0) λV0=>oK (qAP b1) λV2=>oK (negB false (eqV 0 false (.int .i64 V0) (.int .i64 V2))) λV4=>∃I0:IvP,(∃m,I0 [V4,(.int .i64 0)] s m)/\∀(f:Env) (s:Hq) (m0:Nat),I0 [f 5,f 6] s m0->
 qKz X a0 b1 (f 5) (f 6) I0 m0 K s
def qOM:Nat->List Nat:=λk=>cond (Nat.beq k 6) [5,6] ([])
theorem qPr{a0 b1:AV}{K:KvP}{s:Hq}(h:qOa XX a0 b1 K s):wC TP XX 28 [a0,b1] K s:=wOK qBz qOM rfl Tryz.func28 h
end Go.AM
namespace Go.AM
open Go Go.Proofs
set_option maxRecDepth 100000
def qBJ(X:Td)(x10 x12:AV)(I2:IvP)(m2:Nat)(I1:IvP)(m1:Nat)(K:KvP)(s:Hq):Prop:=
 oK (qAB .add x12 (.int .i64 1)) λV24=>∃m',m'<m2/\I2 [x10,V24] s m'
def qC3(X:Td)(t8 x9 x10 n11 x12:AV)(I2:IvP)(m2:Nat)(I1:IvP)(m1:Nat)(K:KvP)(s:Hq):Prop:=
 oK (qAF 4 t8) λV16=>oK (rd1 s V16) λV17=>oK (qAP V17) λV18=>oK (qAB .lss x12 (.int .i64 V18)) λV20=>qAJ V20
 (oK (rdN s 19 t8) λV21=>wC TP X 27 [(.agg V21),n11,x12] (λV22 S23=>qAJ V22
 (oK (qAF 4 t8) λV25=>oK (rd1 S23 V25) λV26=>oK (qAH 6 V26 x12) λV27=>oK (qAF 2 V27) λV28=>oK (rd1 S23 V28) λV29=>wC TP X 24 [n11,V29,x9] (λV30 S31=>oK (qBC (repl 1 zR0) [(0,38,V30)]) λC32=>qAZ C32=true/\newK 81 C32 (λB33 S34=>appK 81 38 x10 (.slc B33 0 1 (some 1) 38) (λV35 S36=>qBJ X V35 x12 I2 m2 I1 m1 K S36) S34) S31) S23)
 (qBJ X x10 x12 I2 m2 I1 m1 K S23)) s)
 (oK (qAB .add n11 (.int .i64 1)) λV37=>∃m',m'<m1/\I1 [x10,V37] s m')
def qBG(X:Td)(k14 x15:AV)(I4:IvP)(m4:Nat)(K:KvP)(s:Hq):Prop:=
 oK (qAB .add x15 (.int .i64 1)) λV63=>∃m',m'<m4/\I4 [k14,V63] s m'
def qBD(X:Td)(x16 n17:AV)(I7:IvP)(m7:Nat)(I4:IvP)(m4:Nat)(K:KvP)(s:Hq):Prop:=
 oK (qAB .add n17 (.int .i64 1)) λV77=>∃m',m'<m7/\I7 [x16,V77] s m'
def qBH(X:Td)(x16 n17 t113 t117:AV)(I7:IvP)(m7:Nat)(I4:IvP)(m4:Nat)(K:KvP)(s:Hq):Prop:=
 oK (qAS t113 t117 (.bool false)) λV76=>qAJ V76
 (wC TP X 22 [n17] (λV78 S79=>oK (qBC (repl 1 [(.int .u32 0)]) [(0,1,V78)]) λC80=>qAZ C80=true/\newK 42 C80 (λB81 S82=>appK 42 1 x16 (.slc B81 0 1 (some 1) 1) (λV83 S84=>qBD X V83 n17 I7 m7 I4 m4 K S84) S82) S79) s)
 (qBD X x16 n17 I7 m7 I4 m4 K s)
def qBo(X:Td)(k14 x15 t151 t159:AV)(I4:IvP)(m4:Nat)(K:KvP)(s:Hq):Prop:=
 oK (qAS t151 (.bool true) t159) λV98=>qAJ V98
 (K (.bool false) s)
 (oK (qAB .add k14 (.int .i64 1)) λV99=>qBG X V99 x15 I4 m4 K s)
def qBk(X:Td)(leaf1 t8 x13 k14 x15 t142 t149:AV)(I4:IvP)(m4:Nat)(K:KvP)(s:Hq):Prop:=
 oK (qAS t142 (.bool true) t149) λV97=>qAJ V97
 (qBo X k14 x15 V97 .undef I4 m4 K s)
 (oK (rdN s 19 t8) λV100=>oK (qAH 3 x13 k14) λV101=>oK (rdN s 3 V101) λV102=>wC TP X 29 [(.agg V100),leaf1,(.agg V102)] (λV103 S104=>oK (qBV .not V103) λV105=>qBo X k14 x15 V97 V105 I4 m4 K S104) s)
def qBA(X:Td)(leaf1 t8 x13 k14 x15 x16 x18:AV)(I4:IvP)(m4:Nat)(K:KvP)(s:Hq):Prop:=
 oK (qAH 3 x13 k14) λV91=>oK (qAF 1 V91) λV92=>oK (rd1 s V92) λV93=>wC TP X 28 [V93,x16] (λV94 S95=>oK (qBV .not V94) λV96=>qAJ V96
 (qBk X leaf1 t8 x13 k14 x15 V96 .undef I4 m4 K S95)
 (oK (qAH 3 x13 k14) λV106=>oK (qAF 2 V106) λV107=>oK (rd1 S95 V107) λV108=>oK (negB true (eqV 0 false V108 x18)) λV109=>qBk X leaf1 t8 x13 k14 x15 V96 V109 I4 m4 K S95)) s
def qBB(X:Td)(leaf1 t8 x13 k14 x15 x16 x18 t126 t129:AV)(I4:IvP)(m4:Nat)(K:KvP)(s:Hq):Prop:=
 oK (qAS t126 t129 (.bool false)) λV90=>qAJ V90
 (oK (rdN s 19 t8) λV110=>wC TP X 21 [(.agg V110),x15] (λV111 S112=>qBA X leaf1 t8 x13 k14 x15 x16 V111 I4 m4 K S112) s)
 (qBA X leaf1 t8 x13 k14 x15 x16 x18 I4 m4 K s)
def qB1(X:Td)(leaf1 t8 x13 k14 x15 x16 n17:AV)(I7:IvP)(m7:Nat)(I4:IvP)(m4:Nat)(K:KvP)(s:Hq):Prop:=
 oK (qAF 0 t8) λV72=>oK (rd1 s V72) λV73=>oK (qAB .lss n17 V73) λV74=>qAJ V74
 (oK (negB true (eqV 0 false n17 leaf1)) λV75=>qAJ V75
 (oK (rdN s 19 t8) λV85=>wC TP X 27 [(.agg V85),n17,x15] (λV86 S87=>qBH X x16 n17 V75 V86 I7 m7 I4 m4 K S87) s)
 (qBH X x16 n17 V75 .undef I7 m7 I4 m4 K s))
 (oK (qAF 12 t8) λV88=>oK (rd1 s V88) λV89=>qAJ V89
 (oK (qAP x16) λV113=>oK (qAB .gtr (.int .i64 V113) (.int .i64 0)) λV115=>qBB X leaf1 t8 x13 k14 x15 x16 (.int .u32 0) V89 V115 I4 m4 K s)
 (qBB X leaf1 t8 x13 k14 x15 x16 (.int .u32 0) V89 .undef I4 m4 K s))
def qB2(X:Td)(leaf1 t8 x13 k14 x15 t95 t102:AV)(I4:IvP)(m4:Nat)(K:KvP)(s:Hq):Prop:=
 oK (qAS t95 (.bool true) t102) λV71=>qAJ V71
 (K (.bool false) s)
 (∃I7:IvP,(∃m,I7 [.nilslc,(.int .i64 0)] s m)/\∀(f:Env) (s:Hq) (m7:Nat),I7 [f 16,f 17] s m7->
 qB1 X leaf1 t8 x13 k14 x15 (f 16) (f 17) I7 m7 I4 m4 K s)
def qBm(X:Td)(t164 t168:AV)(K:KvP)(s:Hq):Prop:=
 oK (qAS t164 t168 (.bool false)) λV120=>K V120 s
def qBy(X:Td)(leaf1 x7 t8 x13 k14 x15:AV)(I4:IvP)(m4:Nat)(K:KvP)(s:Hq):Prop:=
 oK (qAF 4 t8) λV58=>oK (rd1 s V58) λV59=>oK (qAP V59) λV60=>oK (qAB .lss x15 (.int .i64 V60)) λV62=>qAJ V62
 (oK (rdN s 19 t8) λV64=>wC TP X 27 [(.agg V64),leaf1,x15] (λV65 S66=>oK (qBV .not V65) λV67=>qAJ V67
 (qBG X k14 x15 I4 m4 K S66)
 (oK (qAP x13) λV68=>oK (qAB .geq k14 (.int .i64 V68)) λV70=>qAJ V70
 (qB2 X leaf1 t8 x13 k14 x15 V70 .undef I4 m4 K S66)
 (oK (qAH 3 x13 k14) λV116=>oK (qAF 0 V116) λV117=>oK (rd1 S66 V117) λV118=>oK (negB true (eqV 0 false V118 x15)) λV119=>qB2 X leaf1 t8 x13 k14 x15 V70 V119 I4 m4 K S66))) s)
 (qAJ x7
 (oK (qAP x13) λV121=>oK (negB false (eqV 0 false k14 (.int .i64 V121))) λV123=>qBm X x7 V123 K s)
 (qBm X x7 .undef K s))
def qC2(X:Td)(leaf1 cut2 x7 t8 x9 x10 n11:AV)(I1:IvP)(m1:Nat)(K:KvP)(s:Hq):Prop:=
 oK (qAF 0 t8) λV13=>oK (rd1 s V13) λV14=>oK (qAB .lss n11 V14) λV15=>qAJ V15
 (∃I2:IvP,(∃m,I2 [x10,(.int .i64 0)] s m)/\∀(f:Env) (s:Hq) (m2:Nat),I2 [f 10,f 12] s m2->
 qC3 X t8 x9 (f 10) n11 (f 12) I2 m2 I1 m1 K s)
 (oK (qAP x10) λV38=>oK (qAB .add (.int .i64 V38) (.int .i64 1)) λV40=>wC TP X 26 [cut2,V40] (λV41 S42=>oK (qBC (repl 0 zR0) []) λC43=>qAZ C43=true/\newK 81 C43 (λB44 S45=>oK (qCM 38 x10 (some V41) none none) λV46=>appK 81 38 (.slc B44 0 0 (some 0) 38) V46 (λV47 S48=>oK (qCM 38 x10 none (some V41) none) λV49=>appK 81 38 V47 V49 (λV50 S51=>oK (qCM 38 x10 none (some V41) none) λV52=>appK 81 38 V50 V52 (λV53 S54=>oK (rdN S54 19 t8) λV55=>wC TP X 12 [(.agg V55),leaf1,V53] (λV56 S57=>∃I4:IvP,(∃m,I4 [(.int .i64 0),(.int .i64 0)] S57 m)/\∀(f:Env) (s:Hq) (m4:Nat),I4 [f 14,f 15] s m4->
 qBy X leaf1 x7 t8 V56 (f 14) (f 15) I4 m4 K s) S54) S51) S48) S45) S42) s)
def qB3(X:Td)(leaf1 cut2 x7 t8 x9:AV)(K:KvP)(s:Hq):Prop:=
 ∃I1:IvP,(∃m,I1 [.nilslc,(.int .i64 0)] s m)/\∀(f:Env) (s:Hq) (m1:Nat),I1 [f 10,f 11] s m1->
 qC2 X leaf1 cut2 x7 t8 x9 (f 10) (f 11) I1 m1 K s
def qDt(X:Td)(l0 leaf1 cut2:AV)(K:KvP)(s:Hq):Prop:=
 wC TP X 5 [] (λV0 S1=>wC TP X 25 [l0] (λV2 S3=>newK 31 zR1 (λB4 S5=>oK (qBS S5 19 (.ptr B4 0) V2) λS6=>oK (qAF 0 (.ptr B4 0)) λV7=>oK (rd1 S6 V7) λV8=>wC TP X 26 [leaf1,V8] (λV9 S10=>oK (qAF 12 (.ptr B4 0)) λV11=>oK (rd1 S10 V11) λV12=>qAJ V12
 (qB3 X V9 cut2 V0 (.ptr B4 0) (.int .i64 3) K S10)
 (qB3 X V9 cut2 V0 (.ptr B4 0) (.int .i64 6) K S10)) S6) S3) S1) s
def qE7:Nat->List Nat:=λk=>cond (Nat.beq k 18) [10,11] (cond (Nat.beq k 24) [10,12] (cond (Nat.beq k 42) [14,15] (cond (Nat.beq k 56) [16,17] ([]))))
theorem qFO{X:Td}(hX:FrX X)(hn:X 6=none){l0 leaf1 cut2:AV}{K:KvP}{s:Hq}(h:qDt X l0 leaf1 cut2 K s):wC TP X 6 [l0,leaf1,cut2] K s:=
 wOK hX qE7 hn Tryz.func6 h
theorem qFU{l0 leaf1 cut2:AV}{K:KvP}{s:Hq}(h:qDt XX l0 leaf1 cut2 K s):wC TP XX 6 [l0,leaf1,cut2] K s:=qFO (qBz) rfl h
def qFA(X:Td)(leaf0 target1 kind2:AV)(K:KvP)(s:Hq):Prop:=
 newK 81 zR0 (λB0 S1=>wC TP X 22 [leaf0] (λV2 S3=>oK (qBC [(.int .i64 0),(.int .u64 0),(.int .u8 0),(.int .u8 0),(.int .u8 0),(.int .u8 0),(.int .u8 0),(.int .u8 0),(.int .u8 0),(.int .u8 0),(.int .u8 0),(.int .u8 0),(.int .u32 0),(.int .u64 0),(.int .u32 0),(.bool false),(.int .u32 0),(.int .i64 0),(.int .u32 0),(.int .u32 0),(.int .u32 0)] [(0,1,(.int .i64 3)),(14,1,V2),(15,1,(.bool true))]) λC4=>wC TP X 22 [leaf0] (λV5 S6=>wC TP X 53 [(.int .u16 65000),target1] (λV7 S8=>oK (qBC (repl 1 [(.int .u8 0),(.int .u8 0),(.int .u8 0),(.int .u8 0),(.int .u8 0),(.int .u8 0),(.int .u8 0),(.int .u8 0)]) [(0,8,V7)]) λC9=>qAZ C9=true/\newK 129 C9 (λB10 S11=>oK (qBC [(.int .i64 0),(.int .u32 0),(.int .u32 0),(.int .u32 0)] [(0,1,kind2)]) λC12=>oK (qBC [(.int .i64 0),.nilslc,(.int .u32 0),(.bool false),(.int .u32 0),(.bool false),(.int .u32 0),(.bool false),(.int .u32 0),.nilslc,.nilslc,(.int .i64 0),(.int .u32 0),(.int .u32 0),(.int .u32 0)] [(2,1,V5),(10,1,(.slc B10 0 1 (some 1) 8)),(11,4,(.agg C12))]) λC13=>oK (qBC zR0 [(0,21,(.agg C4)),(21,15,(.agg C13))]) λC14=>oK (qBS S11 38 (.ptr B0 0) (.agg C14)) λS15=>oK (rdN S15 38 (.ptr B0 0)) λt6_16=>K (.agg t6_16) S15) S8) S6) S3) S1) s
theorem qHG{X:Td}(hX:FrX X)(hn:X 24=none){leaf0 target1 kind2:AV}{K:KvP}{s:Hq}(h:qFA X leaf0 target1 kind2 K s):wC TP X 24 [leaf0,target1,kind2] K s:=
 wOK hX nA0 hn Tryz.func24 h
theorem qHJ{leaf0 target1 kind2:AV}{K:KvP}{s:Hq}(h:qFA XX leaf0 target1 kind2 K s):wC TP XX 24 [leaf0,target1,kind2] K s:=qHG (qBz) rfl h
def qEJ(X:Td)(n0:AV)(K:KvP)(s:Hq):Prop:=
 wC TP X 50 [n0] (λV0 S1=>oK (qAh V0 0) λV2=>oK (qAh V0 1) λV3=>K V2 S1) s
theorem qF8{X:Td}(hX:FrX X)(hn:X 22=none){n0:AV}{K:KvP}{s:Hq}(h:qEJ X n0 K s):wC TP X 22 [n0] K s:=
 wOK hX nA0 hn Tryz.func22 h
theorem qF5{n0:AV}{K:KvP}{s:Hq}(h:qEJ XX n0 K s):wC TP XX 22 [n0] K s:=qF8 (qBz) rfl h
def qHK(X:Td)(t0 n1:AV)(K:KvP)(s:Hq):Prop:=
 newK 129 [(.int .u8 0),(.int .u8 0),(.int .u8 0),(.int .u8 0),(.int .u8 0),(.int .u8 0),(.int .u8 0),(.int .u8 0)] (λB0 S1=>oK (qB6 .u64 t0) λV2=>oK (qBC [(.int .i64 0),(.int .u64 0)] [(0,1,(.int .i64 2)),(1,1,V2)]) λC3=>oK (qB6 .u64 n1) λV4=>oK (qBC [(.int .i64 0),(.int .u64 0)] [(0,1,(.int .i64 4)),(1,1,V4)]) λC5=>oK (qBC (repl 2 [(.int .i64 0),(.int .u64 0)]) [(0,2,(.agg C3)),(2,2,(.agg C5))]) λC6=>qAZ C6=true/\newK 167 C6 (λB7 S8=>wC TP X 86 [(.int .i64 1),(.slc B7 0 2 (some 2) 2)] (λV9 S10=>oK (qBS S10 8 (.ptr B0 0) V9) λS11=>oK (rdN S11 8 (.ptr B0 0)) λt4_12=>K (.agg t4_12) S11) S8) S1) s
theorem qLT{X:Td}(hX:FrX X)(hn:X 53=none){t0 n1:AV}{K:KvP}{s:Hq}(h:qHK X t0 n1 K s):wC TP X 53 [t0,n1] K s:=
 wOK hX nA0 hn Tryz.func53 h
theorem qLU{t0 n1:AV}{K:KvP}{s:Hq}(h:qHK XX t0 n1 K s):wC TP XX 53 [t0,n1] K s:=qLT (qBz) rfl h
def qBd(X:Td)(i10 t31 t42:AV)(I1:IvP)(m1:Nat)(I0:IvP)(m0:Nat)(K:KvP)(s:Hq):Prop:=
 oK (qAS t31 (.bool true) t42) λV15=>oK (qAB .add i10 (.int .i64 1)) λV16=>∃m',m'<m1/\I1 [V15,V16] s m'
def qBb(X:Td)(i11 t56 t67:AV)(I3:IvP)(m3:Nat)(I0:IvP)(m0:Nat)(K:KvP)(s:Hq):Prop:=
 oK (qAS t56 (.bool true) t67) λV33=>oK (qAB .add i11 (.int .i64 1)) λV34=>∃m',m'<m3/\I3 [V33,V34] s m'
def qBe(X:Td)(t7 t70 t71:AV)(I0:IvP)(m0:Nat)(K:KvP)(s:Hq):Prop:=
 oK (qAS t70 t71 (.bool false)) λV43=>qAJ V43
 (K (.bool true) s)
 (oK (qAB .add t7 (.int .i64 1)) λV44=>∃m',m'<m0/\I0 [V44] s m')
def qD0(X:Td)(bd2 t3 t7 x8 x9 i11:AV)(I3:IvP)(m3:Nat)(I0:IvP)(m0:Nat)(K:KvP)(s:Hq):Prop:=
 oK (qAF 5 t3) λV25=>oK (rd1 s V25) λV26=>oK (qAH 2 V26 t7) λV27=>oK (qAF 1 V27) λV28=>oK (rd1 s V28) λV29=>oK (qAP V29) λV30=>oK (qAB .lss i11 (.int .i64 V30)) λV32=>qAJ V32
 (qAJ x9
 (qBb X i11 x9 .undef I3 m3 I0 m0 K s)
 (oK (qAF 5 t3) λV35=>oK (rd1 s V35) λV36=>oK (qAH 2 V36 t7) λV37=>oK (qAF 1 V37) λV38=>oK (rd1 s V38) λV39=>oK (qAH 1 V39 i11) λV40=>oK (rd1 s V40) λV41=>oK (negB false (eqV 0 false V41 bd2)) λV42=>qBb X i11 x9 V42 I3 m3 I0 m0 K s))
 (qAJ x8
 (qBe X t7 x8 x9 I0 m0 K s)
 (qBe X t7 x8 .undef I0 m0 K s))
def qDw(X:Td)(leaf1 bd2 t3 t7 x8 x9 i10:AV)(I1:IvP)(m1:Nat)(I0:IvP)(m0:Nat)(K:KvP)(s:Hq):Prop:=
 oK (qAF 5 t3) λV7=>oK (rd1 s V7) λV8=>oK (qAH 2 V8 t7) λV9=>oK (qAF 0 V9) λV10=>oK (rd1 s V10) λV11=>oK (qAP V11) λV12=>oK (qAB .lss i10 (.int .i64 V12)) λV14=>qAJ V14
 (qAJ x8
 (qBd X i10 x8 .undef I1 m1 I0 m0 K s)
 (oK (qAF 5 t3) λV17=>oK (rd1 s V17) λV18=>oK (qAH 2 V18 t7) λV19=>oK (qAF 0 V19) λV20=>oK (rd1 s V20) λV21=>oK (qAH 1 V21 i10) λV22=>oK (rd1 s V22) λV23=>oK (negB false (eqV 0 false V23 leaf1)) λV24=>qBd X i10 x8 V24 I1 m1 I0 m0 K s))
 (∃I3:IvP,(∃m,I3 [x9,(.int .i64 0)] s m)/\∀(f:Env) (s:Hq) (m3:Nat),I3 [f 9,f 11] s m3->
 qD0 X bd2 t3 t7 x8 (f 9) (f 11) I3 m3 I0 m0 K s)
def qD5(X:Td)(leaf1 bd2 t3 t7:AV)(I0:IvP)(m0:Nat)(K:KvP)(s:Hq):Prop:=
 oK (qAF 5 t3) λV2=>oK (rd1 s V2) λV3=>oK (qAP V3) λV4=>oK (qAB .lss t7 (.int .i64 V4)) λV6=>qAJ V6
 (∃I1:IvP,(∃m,I1 [(.bool false),(.int .i64 0)] s m)/\∀(f:Env) (s:Hq) (m1:Nat),I1 [f 8,f 10] s m1->
 qDw X leaf1 bd2 t3 t7 (f 8) (.bool false) (f 10) I1 m1 I0 m0 K s)
 (K (.bool false) s)
def qEf(X:Td)(t0 leaf1 bd2:AV)(K:KvP)(s:Hq):Prop:=
 boxK 31 t0 (λB0 S1=>∃I0:IvP,(∃m,I0 [(.int .i64 0)] S1 m)/\∀(f:Env) (s:Hq) (m0:Nat),I0 [f 7] s m0->
 qD5 X leaf1 bd2 B0 (f 7) I0 m0 K s) s
def qGJ:Nat->List Nat:=λk=>cond (Nat.beq k 4) [7] (cond (Nat.beq k 12) [8,10] (cond (Nat.beq k 20) [9,11] ([])))
theorem qGV{X:Td}(hX:FrX X)(hn:X 27=none){t0 leaf1 bd2:AV}{K:KvP}{s:Hq}(h:qEf X t0 leaf1 bd2 K s):wC TP X 27 [t0,leaf1,bd2] K s:=
 wOK hX qGJ hn Tryz.func27 h
theorem qGe{t0 leaf1 bd2:AV}{K:KvP}{s:Hq}(h:qEf XX t0 leaf1 bd2 K s):wC TP XX 27 [t0,leaf1,bd2] K s:=qGV (qBz) rfl h
def qCs(X:Td)(t31 t37:AV)(K:KvP)(s:Hq):Prop:=
 oK (qAS t31 t37 (.bool false)) λV20=>K V20 s
def qCt(X:Td)(x7 l8 t22 t29:AV)(K:KvP)(s:Hq):Prop:=
 oK (qAS t22 t29 (.bool false)) λV19=>qAJ V19
 (oK (qAH 21 l8 (.int .i64 0)) λV21=>oK (qAF 6 V21) λV22=>oK (rdN s 15 V22) λV23=>oK (rdN s 15 x7) λV24=>oK (negB false (qGC TP 52 (.agg V23) (.agg V24))) λV25=>qCs X V19 V25 K s)
 (qCs X V19 .undef K s)
def qEL(X:Td)(i9 t103 t110:AV)(I2:IvP)(m2:Nat)(K:KvP)(s:Hq):Prop:=
 oK (qAS t103 (.bool true) t110) λV54=>qAJ V54
 (K (.bool false) s)
 (oK (qAB .add i9 (.int .i64 1)) λV55=>∃m',m'<m2/\I2 [V55] s m')
def qEG(X:Td)(x7 l8 i9 t95 t101:AV)(I2:IvP)(m2:Nat)(K:KvP)(s:Hq):Prop:=
 oK (qAS t95 (.bool true) t101) λV53=>qAJ V53
 (qEL X i9 V53 .undef I2 m2 K s)
 (oK (qAH 21 l8 i9) λV56=>oK (qAF 6 V56) λV57=>oK (rdN s 15 V57) λV58=>oK (rdN s 15 x7) λV59=>oK (negB true (qGC TP 52 (.agg V58) (.agg V59))) λV60=>qEL X i9 V53 V60 I2 m2 K s)
def qEK(X:Td)(x7 l8 i9 t87 t93:AV)(I2:IvP)(m2:Nat)(K:KvP)(s:Hq):Prop:=
 oK (qAS t87 (.bool true) t93) λV52=>qAJ V52
 (qEG X x7 l8 i9 V52 .undef I2 m2 K s)
 (oK (qAH 21 l8 i9) λV61=>oK (qAF 2 V61) λV62=>oK (rd1 s V62) λV63=>oK (negB true (eqV 0 true V63 (.int .i64 16))) λV64=>qEG X x7 l8 i9 V52 V64 I2 m2 K s)
def qEM(X:Td)(x7 l8 i9 t72 t85:AV)(I2:IvP)(m2:Nat)(K:KvP)(s:Hq):Prop:=
 oK (qAS t72 (.bool true) t85) λV51=>qAJ V51
 (qEK X x7 l8 i9 V51 .undef I2 m2 K s)
 (oK (qAH 21 l8 i9) λV65=>oK (qAF 5 V65) λV66=>oK (rd1 s V66) λV67=>oK (negB true (eqV 0 true V67 (.int .u32 3))) λV68=>qEK X x7 l8 i9 V51 V68 I2 m2 K s)
def qEH(X:Td)(leaf1 t3 x5 x7 l8 i9:AV)(I2:IvP)(m2:Nat)(K:KvP)(s:Hq):Prop:=
 oK (qAP l8) λV39=>oK (qAB .lss i9 (.int .i64 V39)) λV41=>qAJ V41
 (oK (qAH 21 l8 i9) λV42=>oK (qAF 1 V42) λV43=>oK (rd1 s V43) λV44=>oK (qAF 1 x5) λV45=>oK (rd1 s V45) λV46=>oK (qAH 1 V46 i9) λV47=>oK (rd1 s V47) λV48=>oK (negB true (eqV 0 false V44 V48)) λV49=>qAJ V49
 (oK (qAS V49 (.bool true) .undef) λV50=>qAJ V50
 (qEM X x7 l8 i9 V50 .undef I2 m2 K s)
 (oK (qAH 21 l8 i9) λV69=>oK (qAF 4 V69) λV70=>oK (rd1 s V70) λV71=>oK (qAF 4 t3) λV72=>oK (rd1 s V72) λV73=>oK (qAF 0 x5) λV74=>oK (rd1 s V74) λV75=>oK (qAH 6 V73 V75) λV76=>oK (qAF 1 V76) λV77=>oK (rd1 s V77) λV78=>oK (negB true (eqV 0 false V71 V78)) λV79=>qEM X x7 l8 i9 V50 V79 I2 m2 K s))
 (oK (qAH 21 l8 i9) λV80=>oK (qAF 0 V80) λV81=>oK (rd1 s V81) λV82=>wC TP X 22 [leaf1] (λV83 S84=>(∀b,s b≠none->s b=none->S84 b=none)->
 oK (negB true (eqV 0 false V82 V83)) λV85=>oK (qAS V49 (.bool true) V85) λV86=>qAJ V86
 (oK (qAS V86 (.bool true) .undef) λV87=>qAJ V87
 (oK (qAS V87 (.bool true) .undef) λV88=>qAJ V88
 (oK (qAS V88 (.bool true) .undef) λV89=>qAJ V89
 (oK (qAS V89 (.bool true) .undef) λV90=>qAJ V90
 (K (.bool false) (add s S84))
 (oK (qAB .add i9 (.int .i64 1)) λV91=>∃m',m'<m2/\I2 [V91] (add s S84) m'))
 (oK (qAH 21 l8 i9) λV92=>oK (qAF 6 V92) λV93=>oK (rdN (add s S84) 15 V93) λV94=>oK (rdN (add s S84) 15 x7) λV95=>oK (negB true (qGC TP 52 (.agg V94) (.agg V95))) λV96=>oK (qAS V89 (.bool true) V96) λV97=>qAJ V97
 (K (.bool false) (add s S84))
 (oK (qAB .add i9 (.int .i64 1)) λV98=>∃m',m'<m2/\I2 [V98] (add s S84) m')))
 (oK (qAH 21 l8 i9) λV99=>oK (qAF 2 V99) λV100=>oK (rd1 (add s S84) V100) λV101=>oK (negB true (eqV 0 true V101 (.int .i64 16))) λV102=>oK (qAS V88 (.bool true) V102) λV103=>qAJ V103
 (oK (qAS V103 (.bool true) .undef) λV104=>qAJ V104
 (K (.bool false) (add s S84))
 (oK (qAB .add i9 (.int .i64 1)) λV105=>∃m',m'<m2/\I2 [V105] (add s S84) m'))
 (oK (qAH 21 l8 i9) λV106=>oK (qAF 6 V106) λV107=>oK (rdN (add s S84) 15 V107) λV108=>oK (rdN (add s S84) 15 x7) λV109=>oK (negB true (qGC TP 52 (.agg V108) (.agg V109))) λV110=>oK (qAS V103 (.bool true) V110) λV111=>qAJ V111
 (K (.bool false) (add s S84))
 (oK (qAB .add i9 (.int .i64 1)) λV112=>∃m',m'<m2/\I2 [V112] (add s S84) m'))))
 (oK (qAH 21 l8 i9) λV113=>oK (qAF 5 V113) λV114=>oK (rd1 (add s S84) V114) λV115=>oK (negB true (eqV 0 true V115 (.int .u32 3))) λV116=>oK (qAS V87 (.bool true) V116) λV117=>qAJ V117
 (oK (qAS V117 (.bool true) .undef) λV118=>qAJ V118
 (oK (qAS V118 (.bool true) .undef) λV119=>qAJ V119
 (K (.bool false) (add s S84))
 (oK (qAB .add i9 (.int .i64 1)) λV120=>∃m',m'<m2/\I2 [V120] (add s S84) m'))
 (oK (qAH 21 l8 i9) λV121=>oK (qAF 6 V121) λV122=>oK (rdN (add s S84) 15 V122) λV123=>oK (rdN (add s S84) 15 x7) λV124=>oK (negB true (qGC TP 52 (.agg V123) (.agg V124))) λV125=>oK (qAS V118 (.bool true) V125) λV126=>qAJ V126
 (K (.bool false) (add s S84))
 (oK (qAB .add i9 (.int .i64 1)) λV127=>∃m',m'<m2/\I2 [V127] (add s S84) m')))
 (oK (qAH 21 l8 i9) λV128=>oK (qAF 2 V128) λV129=>oK (rd1 (add s S84) V129) λV130=>oK (negB true (eqV 0 true V130 (.int .i64 16))) λV131=>oK (qAS V117 (.bool true) V131) λV132=>qAJ V132
 (oK (qAS V132 (.bool true) .undef) λV133=>qAJ V133
 (K (.bool false) (add s S84))
 (oK (qAB .add i9 (.int .i64 1)) λV134=>∃m',m'<m2/\I2 [V134] (add s S84) m'))
 (oK (qAH 21 l8 i9) λV135=>oK (qAF 6 V135) λV136=>oK (rdN (add s S84) 15 V136) λV137=>oK (rdN (add s S84) 15 x7) λV138=>oK (negB true (qGC TP 52 (.agg V137) (.agg V138))) λV139=>oK (qAS V132 (.bool true) V139) λV140=>qAJ V140
 (K (.bool false) (add s S84))
 (oK (qAB .add i9 (.int .i64 1)) λV141=>∃m',m'<m2/\I2 [V141] (add s S84) m')))))
 (oK (qAH 21 l8 i9) λV142=>oK (qAF 4 V142) λV143=>oK (rd1 (add s S84) V143) λV144=>oK (qAF 4 t3) λV145=>oK (rd1 (add s S84) V145) λV146=>oK (qAF 0 x5) λV147=>oK (rd1 (add s S84) V147) λV148=>oK (qAH 6 V146 V148) λV149=>oK (qAF 1 V149) λV150=>oK (rd1 (add s S84) V150) λV151=>oK (negB true (eqV 0 false V144 V151)) λV152=>oK (qAS V86 (.bool true) V152) λV153=>qAJ V153
 (oK (qAS V153 (.bool true) .undef) λV154=>qAJ V154
 (oK (qAS V154 (.bool true) .undef) λV155=>qAJ V155
 (oK (qAS V155 (.bool true) .undef) λV156=>qAJ V156
 (K (.bool false) (add s S84))
 (oK (qAB .add i9 (.int .i64 1)) λV157=>∃m',m'<m2/\I2 [V157] (add s S84) m'))
 (oK (qAH 21 l8 i9) λV158=>oK (qAF 6 V158) λV159=>oK (rdN (add s S84) 15 V159) λV160=>oK (rdN (add s S84) 15 x7) λV161=>oK (negB true (qGC TP 52 (.agg V160) (.agg V161))) λV162=>oK (qAS V155 (.bool true) V162) λV163=>qAJ V163
 (K (.bool false) (add s S84))
 (oK (qAB .add i9 (.int .i64 1)) λV164=>∃m',m'<m2/\I2 [V164] (add s S84) m')))
 (oK (qAH 21 l8 i9) λV165=>oK (qAF 2 V165) λV166=>oK (rd1 (add s S84) V166) λV167=>oK (negB true (eqV 0 true V167 (.int .i64 16))) λV168=>oK (qAS V154 (.bool true) V168) λV169=>qAJ V169
 (oK (qAS V169 (.bool true) .undef) λV170=>qAJ V170
 (K (.bool false) (add s S84))
 (oK (qAB .add i9 (.int .i64 1)) λV171=>∃m',m'<m2/\I2 [V171] (add s S84) m'))
 (oK (qAH 21 l8 i9) λV172=>oK (qAF 6 V172) λV173=>oK (rdN (add s S84) 15 V173) λV174=>oK (rdN (add s S84) 15 x7) λV175=>oK (negB true (qGC TP 52 (.agg V174) (.agg V175))) λV176=>oK (qAS V169 (.bool true) V176) λV177=>qAJ V177
 (K (.bool false) (add s S84))
 (oK (qAB .add i9 (.int .i64 1)) λV178=>∃m',m'<m2/\I2 [V178] (add s S84) m'))))
 (oK (qAH 21 l8 i9) λV179=>oK (qAF 5 V179) λV180=>oK (rd1 (add s S84) V180) λV181=>oK (negB true (eqV 0 true V181 (.int .u32 3))) λV182=>oK (qAS V153 (.bool true) V182) λV183=>qAJ V183
 (oK (qAS V183 (.bool true) .undef) λV184=>qAJ V184
 (oK (qAS V184 (.bool true) .undef) λV185=>qAJ V185
 (K (.bool false) (add s S84))
 (oK (qAB .add i9 (.int .i64 1)) λV186=>∃m',m'<m2/\I2 [V186] (add s S84) m'))
 (oK (qAH 21 l8 i9) λV187=>oK (qAF 6 V187) λV188=>oK (rdN (add s S84) 15 V188) λV189=>oK (rdN (add s S84) 15 x7) λV190=>oK (negB true (qGC TP 52 (.agg V189) (.agg V190))) λV191=>oK (qAS V184 (.bool true) V191) λV192=>qAJ V192
 (K (.bool false) (add s S84))
 (oK (qAB .add i9 (.int .i64 1)) λV193=>∃m',m'<m2/\I2 [V193] (add s S84) m')))
 (oK (qAH 21 l8 i9) λV194=>oK (qAF 2 V194) λV195=>oK (rd1 (add s S84) V195) λV196=>oK (negB true (eqV 0 true V196 (.int .i64 16))) λV197=>oK (qAS V183 (.bool true) V197) λV198=>qAJ V198
 (oK (qAS V198 (.bool true) .undef) λV199=>qAJ V199
 (K (.bool false) (add s S84))
 (oK (qAB .add i9 (.int .i64 1)) λV200=>∃m',m'<m2/\I2 [V200] (add s S84) m'))
 (oK (qAH 21 l8 i9) λV201=>oK (qAF 6 V201) λV202=>oK (rdN (add s S84) 15 V202) λV203=>oK (rdN (add s S84) 15 x7) λV204=>oK (negB true (qGC TP 52 (.agg V203) (.agg V204))) λV205=>oK (qAS V198 (.bool true) V205) λV206=>qAJ V206
 (K (.bool false) (add s S84))
 (oK (qAB .add i9 (.int .i64 1)) λV207=>∃m',m'<m2/\I2 [V207] (add s S84) m')))))) (frz s)))
 (K (.bool true) s)
def qFB(X:Td)(t0 leaf1 x2:AV)(K:KvP)(s:Hq):Prop:=
 boxK 31 t0 (λB0 S1=>boxK 44 x2 (λB2 S3=>oK (qBC [(.int .u64 0),(.int .u64 0),(.int .i64 0),(.int .i64 0),(.int .u64 0),(.int .u32 0),(.int .u64 0),(.int .u32 0),(.int .u32 0),(.int .u32 0),(.int .i64 0),(.int .i64 0),(.int .i64 0),(.int .i64 0),(.int .u64 0)] [(0,1,(.int .u64 2199023299073)),(1,1,(.int .u64 281474976710655)),(14,1,(.int .u64 1))]) λC4=>newK 52 [(.int .u64 0),(.int .u64 0),(.int .i64 0),(.int .i64 0),(.int .u64 0),(.int .u32 0),(.int .u64 0),(.int .u32 0),(.int .u32 0),(.int .u32 0),(.int .i64 0),(.int .i64 0),(.int .i64 0),(.int .i64 0),(.int .u64 0)] (λB5 S6=>oK (qBS S6 15 (.ptr B5 0) (.agg C4)) λS7=>oK (rdN S7 19 B0) λV8=>oK (rdN S7 3 B2) λV9=>oK (rdN S7 15 (.ptr B5 0)) λV10=>wC TP X 15 [(.agg V8),leaf1,(.agg V9),(.agg V10),(.int .u32 3)] (λV11 S12=>oK (qAF 2 B2) λV13=>oK (rd1 S12 V13) λV14=>oK (negB true (eqV 0 true V14 (.int .u32 0))) λV15=>qAJ V15
 (oK (qAP V11) λV16=>oK (negB false (eqV 0 true (.int .i64 V16) (.int .i64 1))) λV18=>qAJ V18
 (oK (qAH 21 V11 (.int .i64 0)) λV26=>oK (qAF 1 V26) λV27=>oK (rd1 S12 V27) λV28=>oK (qAF 2 B2) λV29=>oK (rd1 S12 V29) λV30=>oK (negB false (eqV 0 false V28 V30)) λV31=>qCt X (.ptr B5 0) V11 V18 V31 K S12)
 (qCt X (.ptr B5 0) V11 V18 .undef K S12))
 (oK (qAP V11) λV32=>oK (qAF 1 B2) λV34=>oK (rd1 S12 V34) λV35=>oK (qAP V35) λV36=>oK (negB true (eqV 0 false (.int .i64 V32) (.int .i64 V36))) λV38=>qAJ V38
 (K (.bool false) S12)
 (∃I2:IvP,(∃m,I2 [(.int .i64 0)] S12 m)/\∀(f:Env) (s:Hq) (m2:Nat),I2 [f 9] s m2->
 qEH X leaf1 B0 B2 (.ptr B5 0) V11 (f 9) I2 m2 K s))) S7) S3) S1) s
def qGf:Nat->List Nat:=λk=>cond (Nat.beq k 16) [9] ([])
theorem qHF{X:Td}(hX:FrX X)(hn:X 29=none){t0 leaf1 x2:AV}{K:KvP}{s:Hq}(h:qFB X t0 leaf1 x2 K s):wC TP X 29 [t0,leaf1,x2] K s:=
 wOK hX qGf hn Tryz.func29 h
theorem qHA{t0 leaf1 x2:AV}{K:KvP}{s:Hq}(h:qFB XX t0 leaf1 x2 K s):wC TP XX 29 [t0,leaf1,x2] K s:=qHF (qBz) rfl h
def qJm(X:Td)(t0 bd1:AV)(K:KvP)(s:Hq):Prop:=
 boxK 31 t0 (λB0 S1=>oK (rdN S1 19 B0) λV2=>wC TP X 43 [(.agg V2),bd1] (λV3 S4=>oK (qBV .not V3) λV5=>qAJ V5
 (K (.int .u32 0) S4)
 (oK (qB6 .u32 bd1) λV6=>oK (qAB .add (.int .u32 4009754625) V6) λV7=>K V7 S4)) S1) s
theorem qLN{X:Td}(hX:FrX X)(hn:X 21=none){t0 bd1:AV}{K:KvP}{s:Hq}(h:qJm X t0 bd1 K s):wC TP X 21 [t0,bd1] K s:=
 wOK hX nA0 hn Tryz.func21 h
theorem qLD{t0 bd1:AV}{K:KvP}{s:Hq}(h:qJm XX t0 bd1 K s):wC TP XX 21 [t0,bd1] K s:=qLN (qBz) rfl h
end Go.AM
