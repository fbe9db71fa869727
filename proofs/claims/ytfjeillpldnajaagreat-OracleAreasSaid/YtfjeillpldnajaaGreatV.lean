/- Part V of the proof: see the last part. -/
import Derived.Test.YtfjeillpldnajaaGreatU2
import Derived.Test.YtfjeillpldnajaaGreatS
import Derived.Test.YtfjeillpldnajaaGreatProg
import Derived.KernelRfl
set_option linter.unusedVariables false
namespace Go.AM
open Go Go.Proofs
noncomputable abbrev TP:Program:=Tryz.prog
theorem wOK{P:Program}{X:Td}(hX:FrX X)(A:Nat->List Nat){n:FuncId}(hn:X n=none){f:Func}(h1:P.funcs[n]?=some f){args:List AV}{K:AV->Hq->Prop}{s:Hq}{Q:Prop}(h:Q)(hb:f.body=some (qRf f):=by kernel_rfl)(hl:Nat.ble args.length f.ntmps=true:=by kernel_rfl)(he:wpC P X A f.ntmps none (qRf f) (qPA args) (λe env s=>retK e (resK P f.results.toList env (λvs=>K (oneV vs) s) s)) s=Q:=by kernel_rfl):wC P X n args K s:=
  qQc hX A hn h1 hb hl (Eq.mpr he h)
def nA0:Nat->List Nat:=λ_=>[]
abbrev zR0:List AV:=[(.int .i64 0),(.int .u64 0),(.int .u8 0),(.int .u8 0),(.int .u8 0),(.int .u8 0),(.int .u8 0),(.int .u8 0),(.int .u8 0),(.int .u8 0),(.int .u8 0),(.int .u8 0),(.int .u32 0),(.int .u64 0),(.int .u32 0),(.bool false),(.int .u32 0),(.int .i64 0),(.int .u32 0),(.int .u32 0),(.int .u32 0),(.int .i64 0),.nilslc,(.int .u32 0),(.bool false),(.int .u32 0),(.bool false),(.int .u32 0),(.bool false),(.int .u32 0),.nilslc,.nilslc,(.int .i64 0),(.int .u32 0),(.int .u32 0),(.int .u32 0),(.int .u32 0),(.bool false)]
abbrev zR1:List AV:=[(.int .i64 0),(.int .i64 0),.nilslc,.nilslc,.nilslc,.nilslc,.nilslc,.nilslc,(.int .i64 0),(.int .i64 0),(.int .i64 0),(.bool false),(.bool false),(.int .i64 0),(.int .i64 0),(.int .i64 0),(.int .i64 0),(.int .i64 0),(.int .i64 0)]
abbrev IvP:=List AV->Hq->Nat->Prop
abbrev KvP:=AV->Hq->Prop
abbrev LvP:=List Nat->List AV->Hq->Prop
set_option maxRecDepth 100000
abbrev X0:Td:=qJd [12,3]
theorem zACR:FrX X0:=qNc _
noncomputable abbrev XX:Td:=orX (qO4 78) X0
theorem qAj:FrX XX:=zABa (qWh 78) zACR
structure Fn0(Y:Td):Prop where
 fr:FrX Y
 no:∀k,memN k (78 :: [12,3])=false->Y k=none
theorem X0_h{k:Nat}(h:memN k (78 :: [12,3])=false):memN k [12,3]=false:=by unfold memN at h;cases e:Nat.beq k 78<;>rw[e]at h<;>first|exact h|cases h
theorem XX_3{k:Nat}(h:memN k (78 :: [12,3])=false):qO4 78 k=none:=by unfold memN at h;cases e:Nat.beq k 78<;>rw[e]at h<;>first|(unfold qO4;rw[e];rfl)|cases h
theorem XX_0:Fn0 XX:=⟨qAj,λk h=>by show(match qO4 78 k with|some g=>some g|none=>(cond (memN k [12,3]) _ _:Option _))=none;rw[XX_3 h,X0_h h];rfl⟩
def qCS(X:Td)(t2 t4:AV)(K:KvP)(s:Hq):Prop:=
 oK (rdN s 19 t4) λV132=>oK (qAw s 19 t2 (.agg V132)) λS133=>oK (rdN S133 19 t2) λt2_134=>K (.agg t2_134) S133
def qHx(X:Td)(t2 t3 t4 many6 n10 i11:AV)(I5:IvP)(m5:Nat)(K:KvP)(s:Hq):Prop:=
 oK (qAG .lss i11 many6) λV137=>qAL V137
 (oK (qAC 7 t4) λV138=>oK (rd1 s V138) λV139=>∃h_140:Hq,(∀b,h_140 b≠none->s b≠none)/\
 wC TP X 54 [t3,n10] (λV141 S142=>(∀b,s b≠none->(cutH [((hdel s (qAm V138)),s)] (minus s h_140)) b=none->S142 b=none)->
 wC TP X 53 [V139,V141] (λV143 S144=>oK (qAC 7 t4) λV145=>oK (wr1 S144 V145 V143) λS146=>oK (qAG .add i11 (.int .i64 1)) λV147=>∃m',m'<m5/\I5 [V147] S146 m') (add S142 (rest s (cutH [((hdel s (qAm V138)),s)] (minus s h_140))))) (cutH [((hdel s (qAm V138)),s)] (minus s h_140)))
 (qCS X t2 t4 K s)
def qH3(X:Td)(t2 t3 t4 many6 i9:AV)(I3:IvP)(m3:Nat)(K:KvP)(s:Hq):Prop:=
 oK (qAG .lss i9 many6) λV112=>qAL V112
 (oK (qAC 6 t4) λV113=>oK (rd1 s V113) λV114=>oK (rdN s 19 t4) λV115=>∃h_116:Hq,(∀b,h_116 b≠none->s b≠none)/\
 wC TP X 52 [t3,(.agg V115),i9] (λV117 S118=>(∀b,s b≠none->(cutH [((hdel s (qAm V113)),s)] (minus s h_116)) b=none->S118 b=none)->
 oK (qAl (repl 1 [(.int .u64 0),(.int .u32 0),(.int .i64 0),(.int .i64 0)]) [(0,4,V117)]) λC119=>qAa C119=true/\newK 61 C119 (λB120 S121=>(∀b,(add S118 (rest s (cutH [((hdel s (qAm V113)),s)] (minus s h_116)))) b≠none->(add S118 (rest s (cutH [((hdel s (qAm V113)),s)] (minus s h_116)))) b=none->S121 b=none)->
 appK 61 4 V114 (.slc B120 0 1 (some 1) 4) (λV122 S123=>oK (qAC 6 t4) λV124=>oK (wr1 S123 V124 V122) λS125=>oK (qAG .add i9 (.int .i64 1)) λV126=>∃m',m'<m3/\I3 [V126] S125 m') (add (add S118 (rest s (cutH [((hdel s (qAm V113)),s)] (minus s h_116)))) S121)) (frz (add S118 (rest s (cutH [((hdel s (qAm V113)),s)] (minus s h_116)))))) (cutH [((hdel s (qAm V113)),s)] (minus s h_116)))
 (oK (qAC 3 t4) λV127=>oK (rd1 s V127) λV128=>oK (qAQ V128) λV129=>oK (qAG .gtr (.int .i64 V129) (.int .i64 1)) λV131=>qAL V131
 (wC TP X 48 [t3,(.int .i64 3)] (λV135 S136=>∃I5:IvP,(∃m,I5 [(.int .i64 0)] S136 m)/\∀(f:Env) (s:Hq) (m5:Nat),I5 [f 11] s m5->
 qHx X t2 t3 t4 V135 (.int .i64 V129) (f 11) I5 m5 K s) s)
 (qCS X t2 t4 K s))
def qIZ(X:Td)(t2 t3 t4 many6 i8:AV)(I2:IvP)(m2:Nat)(K:KvP)(s:Hq):Prop:=
 oK (qAG .lss i8 many6) λV86=>qAL V86
 (oK (qAC 5 t4) λV87=>oK (rd1 s V87) λV88=>oK (qAC 0 t4) λV89=>oK (rd1 s V89) λV90=>∃h_91:Hq,(∀b,h_91 b≠none->s b≠none)/\
 wC TP X 51 [t3,V90,(.int .i64 3)] (λV92 S93=>(∀b,s b≠none->(cutH [((hdel s (qAm V87)),s)] (minus s h_91)) b=none->S93 b=none)->
 oK (qAC 4 t4) λV94=>oK (rd1 (cutH [(h_91,qM8)] (add S93 (rest s (cutH [((hdel s (qAm V87)),s)] (minus s h_91))))) V94) λV95=>oK (qAQ V95) λV96=>∃h_98:Hq,(∀b,h_98 b≠none->(add S93 (rest s (cutH [((hdel s (qAm V87)),s)] (minus s h_91)))) b≠none)/\
 wC TP X 51 [t3,(.int .i64 V96),(.int .i64 4)] (λV99 S100=>(∀b,(add S93 (rest s (cutH [((hdel s (qAm V87)),s)] (minus s h_91)))) b≠none->(cutH [((hdel s (qAm V87)),s)] (minus (add S93 (rest s (cutH [((hdel s (qAm V87)),s)] (minus s h_91)))) h_98)) b=none->S100 b=none)->
 oK (qAl [.nilslc,.nilslc] [(0,1,V92),(1,1,V99)]) λC101=>oK (qAl (repl 1 [.nilslc,.nilslc]) [(0,2,(.agg C101))]) λC102=>qAa C102=true/\newK 64 C102 (λB103 S104=>(∀b,(add S100 (rest (add S93 (rest s (cutH [((hdel s (qAm V87)),s)] (minus s h_91)))) (cutH [((hdel s (qAm V87)),s)] (minus (add S93 (rest s (cutH [((hdel s (qAm V87)),s)] (minus s h_91)))) h_98)))) b≠none->(add S100 (rest (add S93 (rest s (cutH [((hdel s (qAm V87)),s)] (minus s h_91)))) (cutH [((hdel s (qAm V87)),s)] (minus (add S93 (rest s (cutH [((hdel s (qAm V87)),s)] (minus s h_91)))) h_98)))) b=none->S104 b=none)->
 appK 64 2 V88 (.slc B103 0 1 (some 1) 2) (λV105 S106=>oK (qAC 5 t4) λV107=>oK (wr1 S106 V107 V105) λS108=>oK (qAG .add i8 (.int .i64 1)) λV109=>∃m',m'<m2/\I2 [V109] S108 m') (add (add S100 (rest (add S93 (rest s (cutH [((hdel s (qAm V87)),s)] (minus s h_91)))) (cutH [((hdel s (qAm V87)),s)] (minus (add S93 (rest s (cutH [((hdel s (qAm V87)),s)] (minus s h_91)))) h_98)))) S104)) (frz (add S100 (rest (add S93 (rest s (cutH [((hdel s (qAm V87)),s)] (minus s h_91)))) (cutH [((hdel s (qAm V87)),s)] (minus (add S93 (rest s (cutH [((hdel s (qAm V87)),s)] (minus s h_91)))) h_98)))))) (cutH [((hdel s (qAm V87)),s)] (minus (add S93 (rest s (cutH [((hdel s (qAm V87)),s)] (minus s h_91)))) h_98))) (cutH [((hdel s (qAm V87)),s)] (minus s h_91)))
 (wC TP X 48 [t3,(.int .i64 9)] (λV110 S111=>∃I3:IvP,(∃m,I3 [(.int .i64 0)] S111 m)/\∀(f:Env) (s:Hq) (m3:Nat),I3 [f 9] s m3->
 qH3 X t2 t3 t4 V110 (f 9) I3 m3 K s) s)
def qIa(X:Td)(t2 t3 t4 many6 i7:AV)(I1:IvP)(m1:Nat)(K:KvP)(s:Hq):Prop:=
 oK (qAG .lss i7 many6) λV65=>qAL V65
 (oK (qAC 4 t4) λV66=>oK (rd1 s V66) λV67=>oK (qAC 3 t4) λV68=>oK (rd1 s V68) λV69=>oK (qAQ V69) λV70=>∃h_72:Hq,(∀b,h_72 b≠none->s b≠none)/\
 wC TP X 50 [t3,i7,(.int .i64 V70)] (λV73 S74=>(∀b,s b≠none->(cutH [((hdel s (qAm V66)),s)] (minus s h_72)) b=none->S74 b=none)->
 oK (qAl (repl 1 [(.int .i64 0),(.int .u32 0),(.int .u32 0),(.int .u32 0),(.int .i64 0),(.int .u32 0)]) [(0,6,V73)]) λC75=>qAa C75=true/\newK 69 C75 (λB76 S77=>(∀b,(add S74 (rest s (cutH [((hdel s (qAm V66)),s)] (minus s h_72)))) b≠none->(add S74 (rest s (cutH [((hdel s (qAm V66)),s)] (minus s h_72)))) b=none->S77 b=none)->
 appK 69 6 V67 (.slc B76 0 1 (some 1) 6) (λV78 S79=>oK (qAC 4 t4) λV80=>oK (wr1 S79 V80 V78) λS81=>oK (qAG .add i7 (.int .i64 1)) λV82=>∃m',m'<m1/\I1 [V82] S81 m') (add (add S74 (rest s (cutH [((hdel s (qAm V66)),s)] (minus s h_72)))) S77)) (frz (add S74 (rest s (cutH [((hdel s (qAm V66)),s)] (minus s h_72)))))) (cutH [((hdel s (qAm V66)),s)] (minus s h_72)))
 (wC TP X 48 [t3,(.int .i64 5)] (λV83 S84=>oK (qAG .add (.int .i64 2) V83) λV85=>∃I2:IvP,(∃m,I2 [(.int .i64 0)] S84 m)/\∀(f:Env) (s:Hq) (m2:Nat),I2 [f 8] s m2->
 qIZ X t2 t3 t4 V85 (f 8) I2 m2 K s) s)
def qIS(X:Td)(t2 t3 t4 i5:AV)(I0:IvP)(m0:Nat)(K:KvP)(s:Hq):Prop:=
 wC TP X 48 [t3,(.int .i64 3)] (λV44 S45=>oK (qAG .leq i5 V44) λV46=>qAL V46
 (oK (qAC 3 t4) λV47=>oK (rd1 S45 V47) λV48=>oK (qAG .add (.int .i64 100) i5) λV49=>oK (qEC .u32 V49) λV50=>oK (qAG .add (.int .i64 900) i5) λV51=>oK (qEC .u32 V51) λV52=>oK (qAl [(.int .u32 0),(.int .u32 0)] [(0,1,V50),(1,1,V52)]) λC53=>oK (qAl (repl 1 [(.int .u32 0),(.int .u32 0)]) [(0,2,(.agg C53))]) λC54=>qAa C54=true/\newK 93 C54 (λB55 S56=>appK 93 2 V48 (.slc B55 0 1 (some 1) 2) (λV57 S58=>oK (qAC 3 t4) λV59=>oK (wr1 S58 V59 V57) λS60=>oK (qAG .add i5 (.int .i64 1)) λV61=>∃m',m'<m0/\I0 [V61] S60 m') S56) S45)
 (wC TP X 48 [t3,(.int .i64 4)] (λV62 S63=>oK (qAG .add (.int .i64 1) V62) λV64=>∃I1:IvP,(∃m,I1 [(.int .i64 0)] S63 m)/\∀(f:Env) (s:Hq) (m1:Nat),I1 [f 7] s m1->
 qIa X t2 t3 t4 V64 (f 7) I1 m1 K s) S45)) s
def qUY(X:Td)(l0:AV)(K:KvP)(s:Hq):Prop:=
 newK 31 zR1 (λB0 S1=>oK (qAl [.nilslc,(.int .i64 0)] [(0,1,l0)]) λC2=>boxK 110 (.agg C2) (λB3 S4=>wC TP X 48 [B3,(.int .i64 3)] (λV5 S6=>oK (qAG .add (.int .i64 2) V5) λV7=>wC TP X 48 [B3,(.int .i64 3)] (λV8 S9=>oK (qAG .add (.int .i64 1) V8) λV10=>wC TP X 48 [B3,(.int .i64 3)] (λV11 S12=>wC TP X 48 [B3,(.int .i64 2)] (λV13 S14=>wC TP X 48 [B3,(.int .i64 2)] (λV15 S16=>wC TP X 48 [B3,(.int .i64 2)] (λV17 S18=>oK (negB false (eqV 0 true V17 (.int .i64 0))) λV19=>wC TP X 48 [B3,(.int .i64 3)] (λV20 S21=>oK (negB false (eqV 0 true V20 (.int .i64 1))) λV22=>oK (qAl zR1 [(0,1,V7),(1,1,V10),(8,1,V11),(9,1,V13),(10,1,V15),(11,1,V19),(12,1,V22)]) λC23=>newK 31 zR1 (λB24 S25=>oK (qAw S25 19 (.ptr B24 0) (.agg C23)) λS26=>wC TP X 48 [B3,(.int .i64 3)] (λV27 S28=>oK (qAG .add (.int .i64 1) V27) λV29=>wC TP X 48 [B3,(.int .i64 30)] (λV30 S31=>oK (qAG .add (.int .i64 40) V30) λV32=>oK (qAl [(.int .i64 0),(.int .i64 0),(.int .i64 0),(.int .i64 0),(.int .i64 0),(.int .i64 0)] [(0,1,V29),(1,1,(.int .i64 9)),(2,1,V32),(3,1,(.int .i64 20)),(4,1,(.int .i64 5)),(5,1,(.int .i64 30))]) λC33=>oK (qAC 13 (.ptr B24 0)) λV34=>oK (qAw S31 6 V34 (.agg C33)) λS35=>oK (qAC 0 (.ptr B24 0)) λV36=>oK (rd1 S35 V36) λV37=>oK (qAC 1 (.ptr B24 0)) λV38=>oK (rd1 S35 V38) λV39=>wC TP X 49 [B3,V37,V39] (λV40 S41=>oK (qAC 2 (.ptr B24 0)) λV42=>oK (wr1 S41 V42 V40) λS43=>∃I0:IvP,(∃m,I0 [(.int .i64 0)] S43 m)/\∀(f:Env) (s:Hq) (m0:Nat),I0 [f 5] s m0->
 qIS X (.ptr B0 0) B3 (.ptr B24 0) (f 5) I0 m0 K s) S35) S28) S26) S21) S18) S16) S14) S12) S9) S6) S4) S1) s
def qOG:Nat->List Nat:=λk=>cond (Nat.beq k 12) [5] (cond (Nat.beq k 22) [7] (cond (Nat.beq k 1000075) [7] (cond (Nat.beq k 32) [8] (cond (Nat.beq k 1000094) [5,10] (cond (Nat.beq k 42) [9] (cond (Nat.beq k 1000116) [5] (cond (Nat.beq k 56) [11] (cond (Nat.beq k 1000137) [4] ([])))))))))
theorem qPX{l0:AV}{K:KvP}{s:Hq}(h:qUY XX l0 K s):wC TP XX 13 [l0] K s:=wOK qAj qOG rfl Tryz.func13 h
def qKB(X:Td)(t0 n1:AV)(K:KvP)(s:Hq):Prop:=
 oK (qAH t0) λV0=>oK (qAC 1 V0) λV1=>oK (rd1 s V1) λV2=>oK (qAH t0) λV3=>oK (qAC 0 V3) λV4=>oK (rd1 s V4) λV5=>oK (qAQ V5) λV6=>oK (qAG .geq V2 (.int .i64 V6)) λV8=>qAL V8
 (K (.int .i64 0) s)
 (oK (qAH t0) λV9=>oK (qAC 1 V9) λV10=>oK (rd1 s V10) λV11=>oK (qAG .add V11 (.int .i64 1)) λV12=>oK (qAH t0) λV13=>oK (qAC 1 V13) λV14=>oK (wr1 s V14 V12) λS15=>oK (qAH t0) λV16=>oK (qAC 0 V16) λV17=>oK (rd1 S15 V17) λV18=>oK (qAH t0) λV19=>oK (qAC 1 V19) λV20=>oK (rd1 S15 V20) λV21=>oK (qAG .sub V21 (.int .i64 1)) λV22=>oK (qAY 1 V18 V22) λV23=>oK (rd1 S15 V23) λV24=>wC TP X 15 [V24,n1] (λV25 S26=>K V25 S26) S15)
theorem qLD{t0 n1:AV}{K:KvP}{s:Hq}(h:qKB XX t0 n1 K s):wC TP XX 48 [t0,n1] K s:=wOK qAj nA0 rfl Tryz.func48 h
def qHN(X:Td)(x7 b9:AV)(I1:IvP)(m1:Nat)(I0:IvP)(m0:Nat)(K:KvP)(s:Hq):Prop:=
 oK (qAG .add b9 (.int .i64 1)) λV5=>∃m',m'<m1/\I1 [x7,V5] s m'
def qMU(X:Td)(t0 leaves1 spines2 x7 a8 b9:AV)(I1:IvP)(m1:Nat)(I0:IvP)(m0:Nat)(K:KvP)(s:Hq):Prop:=
 oK (qAG .lss b9 spines2) λV1=>qAL V1
 (wC TP X 48 [t0,(.int .i64 8)] (λV2 S3=>oK (negB true (eqV 0 true V2 (.int .i64 7))) λV4=>qAL V4
 (oK (qAG .add leaves1 b9) λV6=>wC TP X 48 [t0,(.int .i64 2)] (λV7 S8=>oK (qAG .add (.int .i64 1) V7) λV9=>oK (qAl [(.int .i64 0),(.int .i64 0),(.int .i64 0)] [(0,1,a8),(1,1,V6),(2,1,V9)]) λC10=>oK (qAl (repl 1 [(.int .i64 0),(.int .i64 0),(.int .i64 0)]) [(0,3,(.agg C10))]) λC11=>qAa C11=true/\newK 91 C11 (λB12 S13=>appK 91 3 x7 (.slc B12 0 1 (some 1) 3) (λV14 S15=>qHN X V14 b9 I1 m1 I0 m0 K S15) S13) S8) S3)
 (qHN X x7 b9 I1 m1 I0 m0 K S3)) s)
 (oK (qAG .add a8 (.int .i64 1)) λV16=>∃m',m'<m0/\I0 [x7,V16] s m')
def qLY(X:Td)(t0 leaves1 spines2 x7 a8:AV)(I0:IvP)(m0:Nat)(K:KvP)(s:Hq):Prop:=
 oK (qAG .lss a8 leaves1) λV0=>qAL V0
 (∃I1:IvP,(∃m,I1 [x7,(.int .i64 0)] s m)/\∀(f:Env) (s:Hq) (m1:Nat),I1 [f 7,f 9] s m1->
 qMU X t0 leaves1 spines2 (f 7) a8 (f 9) I1 m1 I0 m0 K s)
 (K x7 s)
def qXA(X:Td)(t0 leaves1 spines2:AV)(K:KvP)(s:Hq):Prop:=
 ∃I0:IvP,(∃m,I0 [.nilslc,(.int .i64 0)] s m)/\∀(f:Env) (s:Hq) (m0:Nat),I0 [f 7,f 8] s m0->
 qLY X t0 leaves1 spines2 (f 7) (f 8) I0 m0 K s
def qPn:Nat->List Nat:=λk=>cond (Nat.beq k 6) [7,8] (cond (Nat.beq k 12) [7,9] ([]))
theorem qQU{t0 leaves1 spines2:AV}{K:KvP}{s:Hq}(h:qXA XX t0 leaves1 spines2 K s):wC TP XX 49 [t0,leaves1,spines2] K s:=wOK qAj qPn rfl Tryz.func49 h
def qF5(X:Td)(t6 b7:AV)(K:KvP)(s:Hq):Prop:=
 oK (rdN s 6 b7) λV15=>oK (qAw s 6 t6 (.agg V15)) λS16=>oK (rdN S16 6 t6) λt6_17=>K (.agg t6_17) S16
def qUA(X:Td)(t0 i1 tenants2:AV)(K:KvP)(s:Hq):Prop:=
 newK 69 [(.int .i64 0),(.int .u32 0),(.int .u32 0),(.int .u32 0),(.int .i64 0),(.int .u32 0)] (λB0 S1=>wC TP X 48 [t0,tenants2] (λV2 S3=>oK (qAG .add (.int .i64 10) i1) λV4=>oK (qEC .u32 V4) λV5=>oK (qAG .add (.int .i64 500) i1) λV6=>oK (qEC .u32 V6) λV7=>oK (qAl [(.int .i64 0),(.int .u32 0),(.int .u32 0),(.int .u32 0),(.int .i64 0),(.int .u32 0)] [(0,1,V2),(1,1,V5),(2,1,V7)]) λC8=>newK 69 [(.int .i64 0),(.int .u32 0),(.int .u32 0),(.int .u32 0),(.int .i64 0),(.int .u32 0)] (λB9 S10=>oK (qAw S10 6 (.ptr B9 0) (.agg C8)) λS11=>wC TP X 48 [t0,(.int .i64 4)] (λV12 S13=>oK (negB true (eqV 0 true V12 (.int .i64 3))) λV14=>qAL V14
 (oK (qGn .shl i1 (.int .u64 16)) λV18=>oK (qAG .add (.int .i64 167772160) V18) λV19=>oK (qEC .u32 V19) λV20=>oK (qAl [(.int .u32 0),(.int .i64 0)] [(0,1,V20),(1,1,(.int .i64 24))]) λC21=>oK (qAC 3 (.ptr B9 0)) λV22=>oK (qAw S13 2 V22 (.agg C21)) λS23=>oK (qAC 3 (.ptr B9 0)) λV24=>oK (qAC 0 V24) λV25=>oK (rd1 S23 V25) λV26=>oK (qAG .add V26 (.int .u32 1)) λV27=>oK (qAC 5 (.ptr B9 0)) λV28=>oK (wr1 S23 V28 V27) λS29=>qF5 X (.ptr B0 0) (.ptr B9 0) K S29)
 (qF5 X (.ptr B0 0) (.ptr B9 0) K S13)) S11) S3) S1) s
theorem qP6{t0 i1 tenants2:AV}{K:KvP}{s:Hq}(h:qUA XX t0 i1 tenants2 K s):wC TP XX 50 [t0,i1,tenants2] K s:=wOK qAj nA0 rfl Tryz.func50 h
def qIr(X:Td)(x7 i9:AV)(I0:IvP)(m0:Nat)(K:KvP)(s:Hq):Prop:=
 oK (qAG .add i9 (.int .i64 1)) λV6=>∃m',m'<m0/\I0 [x7,V6] s m'
def qFD(X:Td)(x7 i9 t27 t30:AV)(I0:IvP)(m0:Nat)(K:KvP)(s:Hq):Prop:=
 oK (qAR t27 (.bool true) t30) λV5=>qAL V5
 (oK (qAl (repl 1 [(.int .i64 0)]) [(0,1,i9)]) λC7=>qAa C7=true/\newK 3 C7 (λB8 S9=>appK 3 1 x7 (.slc B8 0 1 (some 1) 1) (λV10 S11=>qIr X V10 i9 I0 m0 K S11) S9) s)
 (qIr X x7 i9 I0 m0 K s)
def qIn(X:Td)(x7:AV)(K:KvP)(s:Hq):Prop:=
 K x7 s
def qEI(X:Td)(t0 x7 x8 i9 t16 t20:AV)(I0:IvP)(m0:Nat)(K:KvP)(s:Hq):Prop:=
 oK (qAR t16 t20 (.bool false)) λV3=>qAL V3
 (oK (negB false (eqV 0 false i9 x8)) λV4=>qAL V4
 (qFD X x7 i9 V4 .undef I0 m0 K s)
 (wC TP X 48 [t0,(.int .i64 3)] (λV12 S13=>oK (negB false (eqV 0 true V12 (.int .i64 1))) λV14=>qFD X x7 i9 V4 V14 I0 m0 K S13) s))
 (oK (qAQ x7) λV15=>oK (negB false (eqV 0 true (.int .i64 V15) (.int .i64 0))) λV17=>qAL V17
 (oK (qAl (repl 1 [(.int .i64 0)]) [(0,1,x8)]) λC18=>qAa C18=true/\newK 3 C18 (λB19 S20=>qIn X (.slc B19 0 1 (some 1) 1) K S20) s)
 (qIn X x7 K s))
def qNZ(X:Td)(t0 n1 most2 x7 x8 i9:AV)(I0:IvP)(m0:Nat)(K:KvP)(s:Hq):Prop:=
 oK (qAG .lss i9 n1) λV2=>qAL V2
 (oK (qAQ x7) λV21=>oK (qAG .lss (.int .i64 V21) most2) λV23=>qEI X t0 x7 x8 i9 V2 V23 I0 m0 K s)
 (qEI X t0 x7 x8 i9 V2 .undef I0 m0 K s)
def qY3(X:Td)(t0 n1 most2:AV)(K:KvP)(s:Hq):Prop:=
 wC TP X 48 [t0,n1] (λV0 S1=>∃I0:IvP,(∃m,I0 [.nilslc,(.int .i64 0)] S1 m)/\∀(f:Env) (s:Hq) (m0:Nat),I0 [f 7,f 9] s m0->
 qNZ X t0 n1 most2 (f 7) V0 (f 9) I0 m0 K s) s
def qRG:Nat->List Nat:=λk=>cond (Nat.beq k 8) [7,9] ([])
theorem qTa{t0 n1 most2:AV}{K:KvP}{s:Hq}(h:qY3 XX t0 n1 most2 K s):wC TP XX 51 [t0,n1,most2] K s:=wOK qAj qRG rfl Tryz.func51 h
def qIi(X:Td)(t6 h9:AV)(K:KvP)(s:Hq):Prop:=
 oK (rdN s 4 h9) λV39=>oK (qAw s 4 t6 (.agg V39)) λS40=>oK (rdN S40 4 t6) λt6_41=>K (.agg t6_41) S40
def qIf(X:Td)(t0 t6 h9:AV)(K:KvP)(s:Hq):Prop:=
 wC TP X 48 [t0,(.int .i64 10)] (λV36 S37=>oK (negB false (eqV 0 true V36 (.int .i64 9))) λV38=>qAL V38
 (oK (qAC 3 h9) λV42=>oK (wr1 S37 V42 (.int .i64 (-1))) λS43=>qIi X t6 h9 K S43)
 (qIi X t6 h9 K S37)) s
def qIo(X:Td)(t0 i2 t4 t6 h9 t41 t44:AV)(K:KvP)(s:Hq):Prop:=
 oK (qAR t41 t44 (.bool false)) λV35=>qAL V35
 (oK (qAC 4 t4) λV44=>oK (rd1 s V44) λV45=>oK (qAC 2 h9) λV46=>oK (rd1 s V46) λV47=>oK (qAY 6 V45 V47) λV48=>oK (qAC 3 V48) λV49=>oK (qAC 0 V49) λV50=>oK (rd1 s V50) λV51=>oK (qAG .add (.int .i64 10) i2) λV52=>oK (qEC .u32 V52) λV53=>oK (qAG .add V51 V53) λV54=>oK (qAC 1 h9) λV55=>oK (wr1 s V55 V54) λS56=>qIf X t0 t6 h9 K S56)
 (qIf X t0 t6 h9 K s)
def qZ4(X:Td)(t0 t1 i2:AV)(K:KvP)(s:Hq):Prop:=
 boxK 31 t1 (λB0 S1=>newK 61 [(.int .u64 0),(.int .u32 0),(.int .i64 0),(.int .i64 0)] (λB2 S3=>oK (qAC 5 B0) λV4=>oK (rd1 S3 V4) λV5=>oK (qAQ V5) λV6=>wC TP X 48 [t0,(.int .i64 V6)] (λV8 S9=>oK (qAC 5 B0) λV10=>oK (rd1 S9 V10) λV11=>oK (qAY 2 V11 V8) λV12=>oK (qAC 1 V12) λV13=>oK (rd1 S9 V13) λV14=>oK (qAG .add (.int .i64 2199023951872) i2) λV15=>oK (qEC .u64 V15) λV16=>oK (qAQ V14) λV17=>wC TP X 48 [t0,(.int .i64 V17)] (λV19 S20=>oK (qAY 1 V14 V19) λV21=>oK (rd1 S20 V21) λV22=>oK (qAl [(.int .u64 0),(.int .u32 0),(.int .i64 0),(.int .i64 0)] [(0,1,V16),(2,1,V22),(3,1,V8)]) λC23=>newK 61 [(.int .u64 0),(.int .u32 0),(.int .i64 0),(.int .i64 0)] (λB24 S25=>oK (qAw S25 4 (.ptr B24 0) (.agg C23)) λS26=>oK (qAC 4 B0) λV27=>oK (rd1 S26 V27) λV28=>oK (qAC 2 (.ptr B24 0)) λV29=>oK (rd1 S26 V29) λV30=>oK (qAY 6 V28 V30) λV31=>oK (qAC 5 V31) λV32=>oK (rd1 S26 V32) λV33=>oK (negB true (eqV 0 true V33 (.int .u32 0))) λV34=>qAL V34
 (wC TP X 48 [t0,(.int .i64 6)] (λV57 S58=>oK (negB true (eqV 0 true V57 (.int .i64 5))) λV59=>qIo X t0 i2 B0 (.ptr B2 0) (.ptr B24 0) V34 V59 K S58) S26)
 (qIo X t0 i2 B0 (.ptr B2 0) (.ptr B24 0) V34 .undef K S26)) S20) S9) S3) S1) s
theorem qTh{t0 t1 i2:AV}{K:KvP}{s:Hq}(h:qZ4 XX t0 t1 i2 K s):wC TP XX 52 [t0,t1,i2] K s:=wOK qAj nA0 rfl Tryz.func52 h
def qMR(X:Td)(l0 x3 i5:AV)(I0:IvP)(m0:Nat)(K:KvP)(s:Hq):Prop:=
 oK (qAQ l0) λV2=>oK (qAG .lss i5 (.int .i64 V2)) λV4=>qAL V4
 (oK (qAY 4 l0 i5) λV5=>oK (rdN s 4 V5) λV6=>oK (rdN s 4 x3) λV7=>oK (negB false (qGg TP 118 (.agg V6) (.agg V7))) λV8=>qAL V8
 (K l0 s)
 (oK (qAG .add i5 (.int .i64 1)) λV9=>∃m',m'<m0/\I0 [V9] s m'))
 (oK (rdN s 4 x3) λV10=>oK (qAl (repl 1 [(.int .i64 0),(.int .i64 0),(.int .u32 0),(.int .i64 0)]) [(0,4,(.agg V10))]) λC11=>qAa C11=true/\newK 118 C11 (λB12 S13=>appK 118 4 l0 (.slc B12 0 1 (some 1) 4) (λV14 S15=>K V14 S15) S13) s)
def qXM(X:Td)(l0 x1:AV)(K:KvP)(s:Hq):Prop:=
 boxK 118 x1 (λB0 S1=>∃I0:IvP,(∃m,I0 [(.int .i64 0)] S1 m)/\∀(f:Env) (s:Hq) (m0:Nat),I0 [f 5] s m0->
 qMR X l0 B0 (f 5) I0 m0 K s) s
def qQJ:Nat->List Nat:=λk=>cond (Nat.beq k 4) [5] ([])
theorem qQh{l0 x1:AV}{K:KvP}{s:Hq}(h:qXM XX l0 x1 K s):wC TP XX 53 [l0,x1] K s:=wOK qAj qQJ rfl Tryz.func53 h
def qIq(X:Td)(t4 x6:AV)(K:KvP)(s:Hq):Prop:=
 oK (rdN s 4 x6) λV17=>oK (qAw s 4 t4 (.agg V17)) λS18=>oK (rdN S18 4 t4) λt4_19=>K (.agg t4_19) S18
def qY2(X:Td)(t0 tenants1:AV)(K:KvP)(s:Hq):Prop:=
 newK 118 [(.int .i64 0),(.int .i64 0),(.int .u32 0),(.int .i64 0)] (λB0 S1=>wC TP X 48 [t0,tenants1] (λV2 S3=>oK (qAG .add V2 (.int .i64 1)) λV4=>oK (qAG .sub tenants1 (.int .i64 1)) λV5=>wC TP X 48 [t0,V5] (λV6 S7=>oK (qAG .add V4 V6) λV8=>oK (qAG .rem V8 tenants1) λV9=>oK (qAl [(.int .i64 0),(.int .i64 0),(.int .u32 0),(.int .i64 0)] [(0,1,V2),(1,1,V9)]) λC10=>newK 118 [(.int .i64 0),(.int .i64 0),(.int .u32 0),(.int .i64 0)] (λB11 S12=>oK (qAw S12 4 (.ptr B11 0) (.agg C10)) λS13=>wC TP X 48 [t0,(.int .i64 2)] (λV14 S15=>oK (negB false (eqV 0 true V14 (.int .i64 0))) λV16=>qAL V16
 (wC TP X 48 [t0,(.int .i64 4)] (λV20 S21=>oK (qGn .shl V20 (.int .u64 16)) λV22=>oK (qAG .add (.int .i64 167772160) V22) λV23=>oK (qEC .u32 V23) λV24=>oK (qAl [(.int .u32 0),(.int .i64 0)] [(0,1,V24),(1,1,(.int .i64 16))]) λC25=>oK (qAC 2 (.ptr B11 0)) λV26=>oK (qAw S21 2 V26 (.agg C25)) λS27=>qIq X (.ptr B0 0) (.ptr B11 0) K S27) S15)
 (qIq X (.ptr B0 0) (.ptr B11 0) K S15)) S13) S7) S3) S1) s
theorem qS1{t0 tenants1:AV}{K:KvP}{s:Hq}(h:qY2 XX t0 tenants1 K s):wC TP XX 54 [t0,tenants1] K s:=wOK qAj nA0 rfl Tryz.func54 h
def qX7(X:Td)(x0 n1:AV)(K:KvP)(s:Hq):Prop:=
 oK (qAG .leq n1 (.int .i64 0)) λV0=>qAL V0
 (K (.int .i64 0) s)
 (oK (qAG .rem x0 n1) λV1=>oK (qAG .add V1 n1) λV2=>oK (qAG .rem V2 n1) λV3=>K V3 s)
theorem qT2{x0 n1:AV}{K:KvP}{s:Hq}(h:qX7 XX x0 n1 K s):wC TP XX 15 [x0,n1] K s:=wOK qAj nA0 rfl Tryz.func15 h
def qPa(X:Td)(K:KvP)(s:Hq):Prop:=
 oK (qAl (repl 8 [.nilFunc]) [(0,1,(.fn (.func 119) [] [])),(1,1,(.fn (.func 120) [] [])),(2,1,(.fn (.func 121) [] [])),(3,1,(.fn (.func 122) [] [])),(4,1,(.fn (.func 123) [] [])),(5,1,(.fn (.func 124) [] [])),(6,1,(.fn (.func 125) [] [])),(7,1,(.fn (.func 126) [] []))]) λC0=>qAa C0=true/\newK 162 C0 (λB1 S2=>K (.slc B1 0 8 (some 8) 1) S2) s
theorem qPs{X:Td}(hX:FrX X)(hn:X 98=none){K:KvP}{s:Hq}(h:qPa X K s):wC TP X 98 [] K s:=
 wOK hX nA0 hn Tryz.func98 h
def qJ5(X:Td)(t10 t13:AV)(K:KvP)(s:Hq):Prop:=
 oK (qAR t10 (.bool true) t13) λV1=>K V1 s
def qNu(X:Td)(n0 low1 high2:AV)(K:KvP)(s:Hq):Prop:=
 oK (qAG .lss n0 low1) λV0=>qAL V0
 (qJ5 X V0 .undef K s)
 (oK (qAG .gtr n0 high2) λV2=>qJ5 X V0 V2 K s)
theorem qOk{X:Td}(hX:FrX X)(hn:X 150=none){n0 low1 high2:AV}{K:KvP}{s:Hq}(h:qNu X n0 low1 high2 K s):wC TP X 150 [n0,low1,high2] K s:=
 wOK hX nA0 hn Tryz.func150 h
def qD7(X:Td)(key1 x5 again6 t16 t17 t18:AV)(I0:IvP)(m0:Nat)(K:KvP)(s:Hq):Prop:=
 oK (qAG .lss t18 t17) λV12=>qAL V12
 (oK (qAY 3 t16 t18) λV13=>oK (rdN s 3 V13) λV14=>newK 91 [(.int .i64 0),(.int .i64 0),(.int .i64 0)] (λB15 S16=>oK (qAw S16 3 (.ptr B15 0) (.agg V14)) λS17=>oK (rdN S17 3 (.ptr B15 0)) λV18=>funK TP X key1 [(.agg V18)] (λV19 S20=>newK 199 [(.int .i64 0),(.int .i64 0)] (λB21 S22=>oK (qAw S22 2 (.ptr B21 0) V19) λS23=>oK (rdN S23 2 (.ptr B21 0)) λV24=>oK (getG TP 199 S23 x5 (.agg V24)) λr_25=>oK (qAY 1 again6 t18) λV26=>oK (wr1 S23 V26 (retM (.bool false) false r_25)) λS27=>oK (rdN S27 2 (.ptr B21 0)) λV28=>oK (putG TP 199 S27 x5 (.agg V28) (.bool true)) λS29=>oK (qAG .add t18 (.int .i64 1)) λV30=>∃m',m'<m0/\I0 [V30] S29 m') S20) S17) s)
 (K again6 s)
def qFb(X:Td)(l0 key1:AV)(K:KvP)(s:Hq):Prop:=
 oK (qAQ l0) λV0=>intK (.int .i64 V0) (mapK (λV2 S3=>oK (qAQ l0) λV4=>oK (nat? (.int .i64 V4)) λn_6=>oK (nat? (.int .i64 V4)) λn_7=>(n_6<=n_7/\n_7<=4294967296)/\newK 4 (repl n_7 [(.bool false)]) (λB8 S9=>oK (qAQ l0) λV10=>∃I0:IvP,(∃m,I0 [(.int .i64 0)] S9 m)/\∀(f:Env) (s:Hq) (m0:Nat),I0 [f 18] s m0->
 qD7 X key1 V2 (.slc B8 0 n_6 (some n_7) 1) l0 (.int .i64 V10) (f 18) I0 m0 K s) S3) s)
def qGx:Nat->List Nat:=λk=>cond (Nat.beq k 8) [18] ([])
theorem qHp{X:Td}(hX:FrX X)(hn:X 151=none){l0 key1:AV}{K:KvP}{s:Hq}(h:qFb X l0 key1 K s):wC TP X 151 [l0,key1] K s:=
 wOK hX qGx hn Tryz.func151 h
def qTk(X:Td)(l0:AV)(K:KvP)(s:Hq):Prop:=
 boxK 91 l0 (λB0 S1=>newK 199 [(.int .i64 0),(.int .i64 0)] (λB2 S3=>oK (qAC 0 B0) λV4=>oK (rd1 S3 V4) λV5=>oK (qAC 1 B0) λV6=>oK (rd1 S3 V6) λV7=>oK (qAl [(.int .i64 0),(.int .i64 0)] [(0,1,V5),(1,1,V7)]) λC8=>oK (qAw S3 2 (.ptr B2 0) (.agg C8)) λS9=>oK (rdN S9 2 (.ptr B2 0)) λt2_10=>K (.agg t2_10) S9) S1) s
theorem qOW{X:Td}(hX:FrX X)(hn:X 152=none){l0:AV}{K:KvP}{s:Hq}(h:qTk X l0 K s):wC TP X 152 [l0] K s:=
 wOK hX nA0 hn Tryz.func152 h
def qDp(X:Td)(key1 x5 again6 t16 t17 t18:AV)(I0:IvP)(m0:Nat)(K:KvP)(s:Hq):Prop:=
 oK (qAG .lss t18 t17) λV12=>qAL V12
 (oK (qAY 2 t16 t18) λV13=>oK (rdN s 2 V13) λV14=>newK 93 [(.int .u32 0),(.int .u32 0)] (λB15 S16=>oK (qAw S16 2 (.ptr B15 0) (.agg V14)) λS17=>oK (rdN S17 2 (.ptr B15 0)) λV18=>funK TP X key1 [(.agg V18)] (λV19 S20=>oK (getM S20 x5 V19) λr_21=>oK (qAY 1 again6 t18) λV22=>oK (wr1 S20 V22 (retM (.bool false) false r_21)) λS23=>oK (putM S23 x5 V19 (.bool true)) λS24=>oK (qAG .add t18 (.int .i64 1)) λV25=>∃m',m'<m0/\I0 [V25] S24 m') S17) s)
 (K again6 s)
def qEb(X:Td)(l0 key1:AV)(K:KvP)(s:Hq):Prop:=
 oK (qAQ l0) λV0=>intK (.int .i64 V0) (mapK (λV2 S3=>oK (qAQ l0) λV4=>oK (nat? (.int .i64 V4)) λn_6=>oK (nat? (.int .i64 V4)) λn_7=>(n_6<=n_7/\n_7<=4294967296)/\newK 4 (repl n_7 [(.bool false)]) (λB8 S9=>oK (qAQ l0) λV10=>∃I0:IvP,(∃m,I0 [(.int .i64 0)] S9 m)/\∀(f:Env) (s:Hq) (m0:Nat),I0 [f 18] s m0->
 qDp X key1 V2 (.slc B8 0 n_6 (some n_7) 1) l0 (.int .i64 V10) (f 18) I0 m0 K s) S3) s)
def qGG:Nat->List Nat:=λk=>cond (Nat.beq k 8) [18] ([])
theorem qGk{X:Td}(hX:FrX X)(hn:X 154=none){l0 key1:AV}{K:KvP}{s:Hq}(h:qEb X l0 key1 K s):wC TP X 154 [l0,key1] K s:=
 wOK hX qGG hn Tryz.func154 h
def qPe(X:Td)(t0:AV)(K:KvP)(s:Hq):Prop:=
 boxK 93 t0 (λB0 S1=>oK (qAC 0 B0) λV2=>oK (rd1 S1 V2) λV3=>K V3 S1) s
theorem qLk{X:Td}(hX:FrX X)(hn:X 155=none){t0:AV}{K:KvP}{s:Hq}(h:qPe X t0 K s):wC TP X 155 [t0] K s:=
 wOK hX nA0 hn Tryz.func155 h
def qMI(X:Td)(t0:AV)(K:KvP)(s:Hq):Prop:=
 boxK 93 t0 (λB0 S1=>oK (qAC 1 B0) λV2=>oK (rd1 S1 V2) λV3=>K V3 S1) s
theorem qJ3{X:Td}(hX:FrX X)(hn:X 156=none){t0:AV}{K:KvP}{s:Hq}(h:qMI X t0 K s):wC TP X 156 [t0] K s:=
 wOK hX nA0 hn Tryz.func156 h
def qEq(X:Td)(key1 x5 again6 t16 t17 t18:AV)(I0:IvP)(m0:Nat)(K:KvP)(s:Hq):Prop:=
 oK (qAG .lss t18 t17) λV12=>qAL V12
 (oK (qAY 6 t16 t18) λV13=>oK (rdN s 6 V13) λV14=>newK 69 [(.int .i64 0),(.int .u32 0),(.int .u32 0),(.int .u32 0),(.int .i64 0),(.int .u32 0)] (λB15 S16=>oK (qAw S16 6 (.ptr B15 0) (.agg V14)) λS17=>oK (rdN S17 6 (.ptr B15 0)) λV18=>funK TP X key1 [(.agg V18)] (λV19 S20=>oK (getM S20 x5 V19) λr_21=>oK (qAY 1 again6 t18) λV22=>oK (wr1 S20 V22 (retM (.bool false) false r_21)) λS23=>oK (putM S23 x5 V19 (.bool true)) λS24=>oK (qAG .add t18 (.int .i64 1)) λV25=>∃m',m'<m0/\I0 [V25] S24 m') S17) s)
 (K again6 s)
def qGm(X:Td)(l0 key1:AV)(K:KvP)(s:Hq):Prop:=
 oK (qAQ l0) λV0=>intK (.int .i64 V0) (mapK (λV2 S3=>oK (qAQ l0) λV4=>oK (nat? (.int .i64 V4)) λn_6=>oK (nat? (.int .i64 V4)) λn_7=>(n_6<=n_7/\n_7<=4294967296)/\newK 4 (repl n_7 [(.bool false)]) (λB8 S9=>oK (qAQ l0) λV10=>∃I0:IvP,(∃m,I0 [(.int .i64 0)] S9 m)/\∀(f:Env) (s:Hq) (m0:Nat),I0 [f 18] s m0->
 qEq X key1 V2 (.slc B8 0 n_6 (some n_7) 1) l0 (.int .i64 V10) (f 18) I0 m0 K s) S3) s)
def qIT:Nat->List Nat:=λk=>cond (Nat.beq k 8) [18] ([])
theorem qIx{X:Td}(hX:FrX X)(hn:X 157=none){l0 key1:AV}{K:KvP}{s:Hq}(h:qGm X l0 key1 K s):wC TP X 157 [l0,key1] K s:=
 wOK hX qIT hn Tryz.func157 h
def qPl(X:Td)(b0:AV)(K:KvP)(s:Hq):Prop:=
 boxK 69 b0 (λB0 S1=>oK (qAC 1 B0) λV2=>oK (rd1 S1 V2) λV3=>K V3 S1) s
theorem qMV{X:Td}(hX:FrX X)(hn:X 158=none){b0:AV}{K:KvP}{s:Hq}(h:qPl X b0 K s):wC TP X 158 [b0] K s:=
 wOK hX nA0 hn Tryz.func158 h
def qMg(X:Td)(b0:AV)(K:KvP)(s:Hq):Prop:=
 boxK 69 b0 (λB0 S1=>oK (qAC 2 B0) λV2=>oK (rd1 S1 V2) λV3=>K V3 S1) s
theorem qJq{X:Td}(hX:FrX X)(hn:X 159=none){b0:AV}{K:KvP}{s:Hq}(h:qMg X b0 K s):wC TP X 159 [b0] K s:=
 wOK hX nA0 hn Tryz.func159 h
def qGT(X:Td)(l0 key1 k2:AV)(K:KvP)(s:Hq):Prop:=
 boxK 202 key1 (λB0 S1=>boxK 41 k2 (λB2 S3=>wC TP X 190 [l0,(.fn (.func 191) [] [B0,B2])] (λV4 S5=>K V4 S5) S3) S1) s
theorem qE0{X:Td}(hX:FrX X)(hn:X 160=none){l0 key1 k2:AV}{K:KvP}{s:Hq}(h:qGT X l0 key1 k2 K s):wC TP X 160 [l0,key1,k2] K s:=
 wOK hX nA0 hn Tryz.func160 h
def qL2(X:Td)(t12 t15:AV)(K:KvP)(s:Hq):Prop:=
 oK (qAR t12 t15 (.bool false)) λV11=>K V11 s
def qWe(X:Td)(p0:AV)(K:KvP)(s:Hq):Prop:=
 boxK 67 p0 (λB0 S1=>oK (rdN S1 2 B0) λV2=>wC TP X 192 [(.agg V2)] (λV3 S4=>oK (qAd V3 0) λV5=>oK (qAd V3 1) λV6=>newK 67 [(.int .u32 0),(.int .i64 0)] (λB7 S8=>oK (qAw S8 2 (.ptr B7 0) V5) λS9=>oK (negB false (eqV 0 true V6 (.int .i64 0))) λV10=>qAL V10
 (oK (rdN S9 2 (.ptr B7 0)) λV12=>oK (rdN S9 2 B0) λV13=>oK (negB false (qGg TP 67 (.agg V12) (.agg V13))) λV14=>qL2 X V10 V14 K S9)
 (qL2 X V10 .undef K S9)) S4) S1) s
theorem qRP{X:Td}(hX:FrX X)(hn:X 161=none){p0:AV}{K:KvP}{s:Hq}(h:qWe X p0 K s):wC TP X 161 [p0] K s:=
 wOK hX nA0 hn Tryz.func161 h
def qJc(X:Td)(t23 t26:AV)(K:KvP)(s:Hq):Prop:=
 oK (qAR t23 t26 (.bool false)) λV14=>K V14 s
def qJS(X:Td)(ip1 x5 t17 t21:AV)(K:KvP)(s:Hq):Prop:=
 oK (qAR t17 t21 (.bool false)) λV13=>qAL V13
 (oK (negB true (eqV 0 false ip1 x5)) λV15=>qJc X V13 V15 K s)
 (qJc X V13 .undef K s)
def qXL(X:Td)(p0 ip1:AV)(K:KvP)(s:Hq):Prop:=
 boxK 67 p0 (λB0 S1=>oK (qAC 0 B0) λV2=>oK (rd1 S1 V2) λV3=>oK (qAC 1 B0) λV4=>oK (rd1 S1 V4) λV5=>oK (qAG .sub (.int .i64 32) V5) λV6=>oK (qGn .shl (.int .u32 1) V6) λV7=>oK (qAG .sub V7 (.int .u32 1)) λV8=>oK (qAG .or V3 V8) λV9=>oK (rdN S1 2 B0) λV10=>wC TP X 84 [(.agg V10),ip1] (λV11 S12=>qAL V11
 (oK (qAC 0 B0) λV16=>oK (rd1 S12 V16) λV17=>oK (negB true (eqV 0 false ip1 V17)) λV18=>qJS X ip1 V9 V11 V18 K S12)
 (qJS X ip1 V9 V11 .undef K S12)) S1) s
theorem qRJ{X:Td}(hX:FrX X)(hn:X 162=none){p0 ip1:AV}{K:KvP}{s:Hq}(h:qXL X p0 ip1 K s):wC TP X 162 [p0,ip1] K s:=
 wOK hX nA0 hn Tryz.func162 h
def qCb(X:Td)(t0 t1:AV)(K:KvP)(s:Hq):Prop:=
 wC TP X 193 [t0,t1] (λV0 S1=>oK (qAG .geq V0 (.int .i64 0)) λV2=>K V2 S1) s
theorem qDg{X:Td}(hX:FrX X)(hn:X 163=none){t0 t1:AV}{K:KvP}{s:Hq}(h:qCb X t0 t1 K s):wC TP X 163 [t0,t1] K s:=
 wOK hX nA0 hn Tryz.func163 h
def qIP(X:Td)(t14 t21 t27:AV)(K:KvP)(s:Hq):Prop:=
 oK (qAR t21 (.bool true) t27) λV15=>oK (qAR t14 V15 (.bool false)) λV16=>K V16 s
def qDw(X:Td)(t1 x2 t9 t12:AV)(K:KvP)(s:Hq):Prop:=
 oK (qAR t9 t12 (.bool false)) λV7=>qAL V7
 (oK (qAC 3 x2) λV8=>oK (rdN s 2 V8) λV9=>oK (qAC 3 t1) λV10=>oK (qAC 0 V10) λV11=>oK (rd1 s V11) λV12=>wC TP X 84 [(.agg V9),V12] (λV13 S14=>qAL V13
 (qIP X V7 V13 .undef K S14)
 (oK (qAC 3 t1) λV17=>oK (rdN S14 2 V17) λV18=>oK (qAC 3 x2) λV19=>oK (qAC 0 V19) λV20=>oK (rd1 S14 V20) λV21=>wC TP X 84 [(.agg V18),V21] (λV22 S23=>qIP X V7 V13 V22 K S23) S14)) s)
 (oK (qAR V7 .undef (.bool false)) λV24=>K V24 s)
def qPY(X:Td)(x0 t1:AV)(K:KvP)(s:Hq):Prop:=
 boxK 69 x0 (λB0 S1=>oK (qAC 0 B0) λV2=>oK (rd1 S1 V2) λV3=>oK (qAC 0 t1) λV4=>oK (rd1 S1 V4) λV5=>oK (negB false (eqV 0 false V3 V5)) λV6=>qAL V6
 (oK (qAC 5 B0) λV25=>oK (rd1 S1 V25) λV26=>oK (negB true (eqV 0 true V26 (.int .u32 0))) λV27=>qDw X t1 B0 V6 V27 K S1)
 (qDw X t1 B0 V6 .undef K S1)) s
theorem qMT{X:Td}(hX:FrX X)(hn:X 164=none){x0 t1:AV}{K:KvP}{s:Hq}(h:qPY X x0 t1 K s):wC TP X 164 [x0,t1] K s:=
 wOK hX nA0 hn Tryz.func164 h
def qLJ(X:Td)(p0 ip1:AV)(K:KvP)(s:Hq):Prop:=
 boxK 67 p0 (λB0 S1=>oK (rdN S1 2 B0) λV2=>wC TP X 105 [(.agg V2)] (λV3 S4=>qAL V3
 (oK (qAC 0 B0) λV5=>oK (rd1 S4 V5) λV6=>oK (qAG .xor V6 ip1) λV7=>oK (qAC 1 B0) λV8=>oK (rd1 S4 V8) λV9=>wC TP X 106 [V9] (λV10 S11=>(∀b,S4 b≠none->S4 b=none->S11 b=none)->
 oK (qAG .and V7 V10) λV12=>oK (negB false (eqV 0 true V12 (.int .u32 0))) λV13=>oK (qAR V3 V13 (.bool false)) λV14=>K V14 (add S4 S11)) (frz S4))
 (oK (qAR V3 .undef (.bool false)) λV15=>K V15 S4)) S1) s
theorem qJI{X:Td}(hX:FrX X)(hn:X 84=none){p0 ip1:AV}{K:KvP}{s:Hq}(h:qLJ X p0 ip1 K s):wC TP X 84 [p0,ip1] K s:=
 wOK hX nA0 hn Tryz.func84 h
def qDO(X:Td)(t0 t1:AV)(K:KvP)(s:Hq):Prop:=
 wC TP X 102 [t0,t1] (λV0 S1=>oK (qAG .geq V0 (.int .i64 0)) λV2=>K V2 S1) s
theorem qEh{X:Td}(hX:FrX X)(hn:X 114=none){t0 t1:AV}{K:KvP}{s:Hq}(h:qDO X t0 t1 K s):wC TP X 114 [t0,t1] K s:=
 wOK hX nA0 hn Tryz.func114 h
def qJz(X:Td)(n0 t1:AV)(K:KvP)(s:Hq):Prop:=
 oK (qAC 0 t1) λV0=>oK (rd1 s V0) λV1=>wC TP X 153 [n0,V1] (λV2 S3=>oK (qAr .not V2) λV4=>K V4 S3) s
theorem qLM{X:Td}(hX:FrX X)(hn:X 165=none){n0 t1:AV}{K:KvP}{s:Hq}(h:qJz X n0 t1 K s):wC TP X 165 [n0,t1] K s:=
 wOK hX nA0 hn Tryz.func165 h
def qJg(X:Td)(b0 t1:AV)(K:KvP)(s:Hq):Prop:=
 oK (qAC 4 t1) λV0=>oK (rd1 s V0) λV1=>oK (qAQ V1) λV2=>wC TP X 153 [b0,(.int .i64 V2)] (λV4 S5=>oK (qAr .not V4) λV6=>K V6 S5) s
theorem qLC{X:Td}(hX:FrX X)(hn:X 166=none){b0 t1:AV}{K:KvP}{s:Hq}(h:qJg X b0 t1 K s):wC TP X 166 [b0,t1] K s:=
 wOK hX nA0 hn Tryz.func166 h
def qIA(X:Td)(l0 i3:AV)(I0:IvP)(m0:Nat)(K:KvP)(s:Hq):Prop:=
 oK (qAQ l0) λV0=>oK (qAG .lss i3 (.int .i64 V0)) λV2=>qAL V2
 (oK (qAY 1 l0 i3) λV3=>oK (rd1 s V3) λV4=>oK (qAG .sub i3 (.int .i64 1)) λV5=>oK (qAY 1 l0 V5) λV6=>oK (rd1 s V6) λV7=>oK (qAG .leq V4 V7) λV8=>qAL V8
 (K (.bool false) s)
 (oK (qAG .add i3 (.int .i64 1)) λV9=>∃m',m'<m0/\I0 [V9] s m'))
 (K (.bool true) s)
def qLB(X:Td)(l0:AV)(K:KvP)(s:Hq):Prop:=
 ∃I0:IvP,(∃m,I0 [(.int .i64 1)] s m)/\∀(f:Env) (s:Hq) (m0:Nat),I0 [f 3] s m0->
 qIA X l0 (f 3) I0 m0 K s
def qLL:Nat->List Nat:=λk=>cond (Nat.beq k 4) [3] ([])
theorem qMJ{X:Td}(hX:FrX X)(hn:X 167=none){l0:AV}{K:KvP}{s:Hq}(h:qLB X l0 K s):wC TP X 167 [l0] K s:=
 wOK hX qLL hn Tryz.func167 h
def qC4(X:Td)(key1 x5 again6 t16 t17 t18:AV)(I0:IvP)(m0:Nat)(K:KvP)(s:Hq):Prop:=
 oK (qAG .lss t18 t17) λV12=>qAL V12
 (oK (qAY 4 t16 t18) λV13=>oK (rdN s 4 V13) λV14=>newK 61 [(.int .u64 0),(.int .u32 0),(.int .i64 0),(.int .i64 0)] (λB15 S16=>oK (qAw S16 4 (.ptr B15 0) (.agg V14)) λS17=>oK (rdN S17 4 (.ptr B15 0)) λV18=>funK TP X key1 [(.agg V18)] (λV19 S20=>newK 212 [(.int .i64 0),(.int .u64 0)] (λB21 S22=>oK (qAw S22 2 (.ptr B21 0) V19) λS23=>oK (rdN S23 2 (.ptr B21 0)) λV24=>oK (getG TP 212 S23 x5 (.agg V24)) λr_25=>oK (qAY 1 again6 t18) λV26=>oK (wr1 S23 V26 (retM (.bool false) false r_25)) λS27=>oK (rdN S27 2 (.ptr B21 0)) λV28=>oK (putG TP 212 S27 x5 (.agg V28) (.bool true)) λS29=>oK (qAG .add t18 (.int .i64 1)) λV30=>∃m',m'<m0/\I0 [V30] S29 m') S20) S17) s)
 (K again6 s)
def qDd(X:Td)(l0 key1:AV)(K:KvP)(s:Hq):Prop:=
 oK (qAQ l0) λV0=>intK (.int .i64 V0) (mapK (λV2 S3=>oK (qAQ l0) λV4=>oK (nat? (.int .i64 V4)) λn_6=>oK (nat? (.int .i64 V4)) λn_7=>(n_6<=n_7/\n_7<=4294967296)/\newK 4 (repl n_7 [(.bool false)]) (λB8 S9=>oK (qAQ l0) λV10=>∃I0:IvP,(∃m,I0 [(.int .i64 0)] S9 m)/\∀(f:Env) (s:Hq) (m0:Nat),I0 [f 18] s m0->
 qC4 X key1 V2 (.slc B8 0 n_6 (some n_7) 1) l0 (.int .i64 V10) (f 18) I0 m0 K s) S3) s)
def qEi:Nat->List Nat:=λk=>cond (Nat.beq k 8) [18] ([])
theorem qEt{X:Td}(hX:FrX X)(hn:X 168=none){l0 key1:AV}{K:KvP}{s:Hq}(h:qDd X l0 key1 K s):wC TP X 168 [l0,key1] K s:=
 wOK hX qEi hn Tryz.func168 h
def qTd(X:Td)(h0:AV)(K:KvP)(s:Hq):Prop:=
 boxK 61 h0 (λB0 S1=>newK 212 [(.int .i64 0),(.int .u64 0)] (λB2 S3=>oK (qAC 2 B0) λV4=>oK (rd1 S3 V4) λV5=>oK (qAC 0 B0) λV6=>oK (rd1 S3 V6) λV7=>oK (qAl [(.int .i64 0),(.int .u64 0)] [(0,1,V5),(1,1,V7)]) λC8=>oK (qAw S3 2 (.ptr B2 0) (.agg C8)) λS9=>oK (rdN S9 2 (.ptr B2 0)) λt2_10=>K (.agg t2_10) S9) S1) s
theorem qN3{X:Td}(hX:FrX X)(hn:X 169=none){h0:AV}{K:KvP}{s:Hq}(h:qTd X h0 K s):wC TP X 169 [h0] K s:=
 wOK hX nA0 hn Tryz.func169 h
def qSV(X:Td)(h0:AV)(K:KvP)(s:Hq):Prop:=
 boxK 61 h0 (λB0 S1=>newK 212 [(.int .i64 0),(.int .u64 0)] (λB2 S3=>oK (qAC 2 B0) λV4=>oK (rd1 S3 V4) λV5=>oK (qAC 1 B0) λV6=>oK (rd1 S3 V6) λV7=>oK (qEC .u64 V7) λV8=>oK (qAl [(.int .i64 0),(.int .u64 0)] [(0,1,V5),(1,1,V8)]) λC9=>oK (qAw S3 2 (.ptr B2 0) (.agg C9)) λS10=>oK (rdN S10 2 (.ptr B2 0)) λt2_11=>K (.agg t2_11) S10) S1) s
theorem qOv{X:Td}(hX:FrX X)(hn:X 170=none){h0:AV}{K:KvP}{s:Hq}(h:qSV X h0 K s):wC TP X 170 [h0] K s:=
 wOK hX nA0 hn Tryz.func170 h
def qEp(X:Td)(t5 t9:AV)(K:KvP)(s:Hq):Prop:=
 oK (qAR t5 t9 (.bool false)) λV1=>K V1 s
def qGp(X:Td)(t0:AV)(K:KvP)(s:Hq):Prop:=
 oK (qAG .leq t0 (.int .u64 281474976710655)) λV0=>qAL V0
 (oK (qGn .shr t0 (.int .u64 40)) λV2=>oK (qAG .and V2 (.int .u64 1)) λV3=>oK (negB true (eqV 0 true V3 (.int .u64 0))) λV4=>qEp X V0 V4 K s)
 (qEp X V0 .undef K s)
theorem qI2{X:Td}(hX:FrX X)(hn:X 21=none){t0:AV}{K:KvP}{s:Hq}(h:qGp X t0 K s):wC TP X 21 [t0] K s:=
 wOK hX nA0 hn Tryz.func21 h
def qEA(X:Td)(t0 v1:AV)(K:KvP)(s:Hq):Prop:=
 wC TP X 101 [t0,v1] (λV0 S1=>oK (qAG .geq V0 (.int .i64 0)) λV2=>K V2 S1) s
theorem qGS{X:Td}(hX:FrX X)(hn:X 72=none){t0 v1:AV}{K:KvP}{s:Hq}(h:qEA X t0 v1 K s):wC TP X 72 [t0,v1] K s:=
 wOK hX nA0 hn Tryz.func72 h
def qCQ(X:Td)(t0 t6 t8:AV)(K:KvP)(s:Hq):Prop:=
 oK (qAR t6 (.bool true) t8) λV1=>qAL V1
 (K (.tup [(.int .i64 0),(.bool false)]) s)
 (oK (qAG .sub t0 (.int .u64 2199023255552)) λV2=>oK (qEC .i64 V2) λV3=>K (.tup [V3,(.bool true)]) s)
def qF2(X:Td)(t0:AV)(K:KvP)(s:Hq):Prop:=
 oK (qAG .lss t0 (.int .u64 2199023255552)) λV0=>qAL V0
 (qCQ X t0 V0 .undef K s)
 (oK (qAG .geq t0 (.int .u64 2199023255584)) λV4=>qCQ X t0 V0 V4 K s)
theorem qID{X:Td}(hX:FrX X)(hn:X 171=none){t0:AV}{K:KvP}{s:Hq}(h:qF2 X t0 K s):wC TP X 171 [t0] K s:=
 wOK hX nA0 hn Tryz.func171 h
def qIU(X:Td)(t16 t20:AV)(K:KvP)(s:Hq):Prop:=
 oK (qAR t16 t20 (.bool false)) λV7=>K V7 s
def qDz(X:Td)(ip1 b2 t10 t14:AV)(K:KvP)(s:Hq):Prop:=
 oK (qAR t10 t14 (.bool false)) λV6=>qAL V6
 (oK (qAC 3 b2) λV8=>oK (rdN s 2 V8) λV9=>wC TP X 162 [(.agg V9),ip1] (λV10 S11=>qIU X V6 V10 K S11) s)
 (qIU X V6 .undef K s)
def qPk(X:Td)(b0 ip1:AV)(K:KvP)(s:Hq):Prop:=
 boxK 69 b0 (λB0 S1=>oK (negB false (eqV 0 true ip1 (.int .u32 0))) λV2=>qAL V2
 (K (.bool true) S1)
 (oK (qAC 5 B0) λV3=>oK (rd1 S1 V3) λV4=>oK (negB true (eqV 0 true V4 (.int .u32 0))) λV5=>qAL V5
 (oK (qAC 5 B0) λV12=>oK (rd1 S1 V12) λV13=>oK (negB true (eqV 0 false ip1 V13)) λV14=>qDz X ip1 B0 V5 V14 K S1)
 (qDz X ip1 B0 V5 .undef K S1))) s
theorem qLo{X:Td}(hX:FrX X)(hn:X 172=none){b0 ip1:AV}{K:KvP}{s:Hq}(h:qPk X b0 ip1 K s):wC TP X 172 [b0,ip1] K s:=
 wOK hX nA0 hn Tryz.func172 h
def qDl(X:Td)(key1 x5 again6 t16 t17 t18:AV)(I0:IvP)(m0:Nat)(K:KvP)(s:Hq):Prop:=
 oK (qAG .lss t18 t17) λV12=>qAL V12
 (oK (qAY 4 t16 t18) λV13=>oK (rdN s 4 V13) λV14=>newK 118 [(.int .i64 0),(.int .i64 0),(.int .u32 0),(.int .i64 0)] (λB15 S16=>oK (qAw S16 4 (.ptr B15 0) (.agg V14)) λS17=>oK (rdN S17 4 (.ptr B15 0)) λV18=>funK TP X key1 [(.agg V18)] (λV19 S20=>newK 118 [(.int .i64 0),(.int .i64 0),(.int .u32 0),(.int .i64 0)] (λB21 S22=>oK (qAw S22 4 (.ptr B21 0) V19) λS23=>oK (rdN S23 4 (.ptr B21 0)) λV24=>oK (getG TP 118 S23 x5 (.agg V24)) λr_25=>oK (qAY 1 again6 t18) λV26=>oK (wr1 S23 V26 (retM (.bool false) false r_25)) λS27=>oK (rdN S27 4 (.ptr B21 0)) λV28=>oK (putG TP 118 S27 x5 (.agg V28) (.bool true)) λS29=>oK (qAG .add t18 (.int .i64 1)) λV30=>∃m',m'<m0/\I0 [V30] S29 m') S20) S17) s)
 (K again6 s)
def qEX(X:Td)(l0 key1:AV)(K:KvP)(s:Hq):Prop:=
 oK (qAQ l0) λV0=>intK (.int .i64 V0) (mapK (λV2 S3=>oK (qAQ l0) λV4=>oK (nat? (.int .i64 V4)) λn_6=>oK (nat? (.int .i64 V4)) λn_7=>(n_6<=n_7/\n_7<=4294967296)/\newK 4 (repl n_7 [(.bool false)]) (λB8 S9=>oK (qAQ l0) λV10=>∃I0:IvP,(∃m,I0 [(.int .i64 0)] S9 m)/\∀(f:Env) (s:Hq) (m0:Nat),I0 [f 18] s m0->
 qDl X key1 V2 (.slc B8 0 n_6 (some n_7) 1) l0 (.int .i64 V10) (f 18) I0 m0 K s) S3) s)
def qGI:Nat->List Nat:=λk=>cond (Nat.beq k 8) [18] ([])
theorem qGd{X:Td}(hX:FrX X)(hn:X 173=none){l0 key1:AV}{K:KvP}{s:Hq}(h:qEX X l0 key1 K s):wC TP X 173 [l0,key1] K s:=
 wOK hX qGI hn Tryz.func173 h
def qSU(X:Td)(l0:AV)(K:KvP)(s:Hq):Prop:=
 boxK 118 l0 (λB0 S1=>newK 118 [(.int .i64 0),(.int .i64 0),(.int .u32 0),(.int .i64 0)] (λB2 S3=>oK (rdN S3 4 B0) λV4=>oK (qAw S3 4 (.ptr B2 0) (.agg V4)) λS5=>oK (rdN S5 4 (.ptr B2 0)) λt2_6=>K (.agg t2_6) S5) S1) s
theorem qN0{X:Td}(hX:FrX X)(hn:X 174=none){l0:AV}{K:KvP}{s:Hq}(h:qSU X l0 K s):wC TP X 174 [l0] K s:=
 wOK hX nA0 hn Tryz.func174 h
def qBr(X:Td)(t0 t1:AV)(K:KvP)(s:Hq):Prop:=
 wC TP X 198 [t0,t1] (λV0 S1=>oK (qAG .geq V0 (.int .i64 0)) λV2=>K V2 S1) s
theorem qCr{X:Td}(hX:FrX X)(hn:X 190=none){t0 t1:AV}{K:KvP}{s:Hq}(h:qBr X t0 t1 K s):wC TP X 190 [t0,t1] K s:=
 wOK hX nA0 hn Tryz.func190 h
def qFJ(X:Td)(x0 t1 t2:AV)(K:KvP)(s:Hq):Prop:=
 boxK 93 x0 (λB0 S1=>oK (rd1 S1 t1) λV2=>oK (rdN S1 2 B0) λV3=>funK TP X V2 [(.agg V3)] (λV4 S5=>(∀b,S1 b≠none->S1 b=none->S5 b=none)->
 oK (rd1 (cutH [(S1,(add S1 S5))] (add S1 S5)) t2) λV6=>oK (negB false (eqV 0 false V4 V6)) λV7=>K V7 (add S1 S5)) (frz S1)) s
theorem qEY{X:Td}(hX:FrX X)(hn:X 191=none){x0 t1 t2:AV}{K:KvP}{s:Hq}(h:qFJ X x0 t1 t2 K s):wC TP X 191 [x0,t1,t2] K s:=
 wOK hX nA0 hn Tryz.func191 h
def qON(X:Td)(p0:AV)(K:KvP)(s:Hq):Prop:=
 boxK 67 p0 (λB0 S1=>newK 67 [(.int .u32 0),(.int .i64 0)] (λB2 S3=>oK (rdN S3 2 B0) λV4=>wC TP X 105 [(.agg V4)] (λV5 S6=>oK (qAr .not V5) λV7=>qAL V7
 (oK (qAl [(.int .u32 0),(.int .i64 0)] []) λC8=>oK (qAw S6 2 (.ptr B2 0) (.agg C8)) λS9=>oK (rdN S9 2 (.ptr B2 0)) λt2_10=>K (.tup [(.agg t2_10),(.int .i64 2)]) S9)
 (oK (qAC 0 B0) λV11=>oK (rd1 S6 V11) λV12=>oK (qAC 1 B0) λV13=>oK (rd1 S6 V13) λV14=>wC TP X 106 [V14] (λV15 S16=>(∀b,S6 b≠none->S6 b=none->S16 b=none)->
 oK (qAG .and V12 V15) λV17=>oK (qAC 0 B0) λV18=>oK (wr1 (add S6 S16) V18 V17) λS19=>oK (rdN S19 2 B0) λV20=>oK (qAw S19 2 (.ptr B2 0) (.agg V20)) λS21=>oK (rdN S21 2 (.ptr B2 0)) λt2_22=>K (.tup [(.agg t2_22),(.int .i64 0)]) S21) (frz S6))) S3) S1) s
theorem qLO{X:Td}(hX:FrX X)(hn:X 192=none){p0:AV}{K:KvP}{s:Hq}(h:qON X p0 K s):wC TP X 192 [p0] K s:=
 wOK hX nA0 hn Tryz.func192 h
def qCa(X:Td)(t0 t1 t7 t8:AV)(I0:IvP)(m0:Nat)(K:KvP)(s:Hq):Prop:=
 oK (qAG .lss t8 t7) λV2=>qAL V2
 (oK (qAY 6 t0 t8) λV3=>oK (rdN s 6 V3) λV4=>funK TP X t1 [(.agg V4)] (λV5 S6=>qAL V5
 (K t8 S6)
 (oK (qAG .add t8 (.int .i64 1)) λV7=>∃m',m'<m0/\I0 [V7] S6 m')) s)
 (K (.int .i64 (-1)) s)
def qCv(X:Td)(t0 t1:AV)(K:KvP)(s:Hq):Prop:=
 oK (qAQ t0) λV0=>∃I0:IvP,(∃m,I0 [(.int .i64 0)] s m)/\∀(f:Env) (s:Hq) (m0:Nat),I0 [f 8] s m0->
 qCa X t0 t1 (.int .i64 V0) (f 8) I0 m0 K s
def qDt:Nat->List Nat:=λk=>cond (Nat.beq k 4) [8] ([])
theorem qD4{X:Td}(hX:FrX X)(hn:X 193=none){t0 t1:AV}{K:KvP}{s:Hq}(h:qCv X t0 t1 K s):wC TP X 193 [t0,t1] K s:=
 wOK hX qDt hn Tryz.func193 h
def qHh(X:Td)(t6 t9:AV)(K:KvP)(s:Hq):Prop:=
 oK (qAR t6 t9 (.bool false)) λV5=>K V5 s
def qOx(X:Td)(p0:AV)(K:KvP)(s:Hq):Prop:=
 boxK 67 p0 (λB0 S1=>oK (qAC 1 B0) λV2=>oK (rd1 S1 V2) λV3=>oK (qAG .geq V3 (.int .i64 0)) λV4=>qAL V4
 (oK (qAC 1 B0) λV6=>oK (rd1 S1 V6) λV7=>oK (qAG .leq V7 (.int .i64 32)) λV8=>qHh X V4 V8 K S1)
 (qHh X V4 .undef K S1)) s
theorem qLI{X:Td}(hX:FrX X)(hn:X 105=none){p0:AV}{K:KvP}{s:Hq}(h:qOx X p0 K s):wC TP X 105 [p0] K s:=
 wOK hX nA0 hn Tryz.func105 h
def qKs(X:Td)(length0:AV)(K:KvP)(s:Hq):Prop:=
 oK (qAG .sub (.int .i64 32) length0) λV0=>oK (qGn .shl (.int .u32 4294967295) V0) λV1=>K V1 s
theorem qMi{X:Td}(hX:FrX X)(hn:X 106=none){length0:AV}{K:KvP}{s:Hq}(h:qKs X length0 K s):wC TP X 106 [length0] K s:=
 wOK hX nA0 hn Tryz.func106 h
def qDP(X:Td)(t0 t1 t7 t8:AV)(I0:IvP)(m0:Nat)(K:KvP)(s:Hq):Prop:=
 oK (qAG .lss t8 t7) λV2=>qAL V2
 (oK (qAY 1 t0 t8) λV3=>oK (rd1 s V3) λV4=>funK TP X t1 [V4] (λV5 S6=>qAL V5
 (K t8 S6)
 (oK (qAG .add t8 (.int .i64 1)) λV7=>∃m',m'<m0/\I0 [V7] S6 m')) s)
 (K (.int .i64 (-1)) s)
def qDv(X:Td)(t0 t1:AV)(K:KvP)(s:Hq):Prop:=
 oK (qAQ t0) λV0=>∃I0:IvP,(∃m,I0 [(.int .i64 0)] s m)/\∀(f:Env) (s:Hq) (m0:Nat),I0 [f 8] s m0->
 qDP X t0 t1 (.int .i64 V0) (f 8) I0 m0 K s
def qFH:Nat->List Nat:=λk=>cond (Nat.beq k 4) [8] ([])
theorem qFv{X:Td}(hX:FrX X)(hn:X 102=none){t0 t1:AV}{K:KvP}{s:Hq}(h:qDv X t0 t1 K s):wC TP X 102 [t0,t1] K s:=
 wOK hX qFH hn Tryz.func102 h
def qD8(X:Td)(t0 v1 t7 t8:AV)(I0:IvP)(m0:Nat)(K:KvP)(s:Hq):Prop:=
 oK (qAG .lss t8 t7) λV2=>qAL V2
 (oK (qAY 1 t0 t8) λV3=>oK (rd1 s V3) λV4=>oK (negB false (eqV 0 false v1 V4)) λV5=>qAL V5
 (K t8 s)
 (oK (qAG .add t8 (.int .i64 1)) λV6=>∃m',m'<m0/\I0 [V6] s m'))
 (K (.int .i64 (-1)) s)
def qFL(X:Td)(t0 v1:AV)(K:KvP)(s:Hq):Prop:=
 oK (qAQ t0) λV0=>∃I0:IvP,(∃m,I0 [(.int .i64 0)] s m)/\∀(f:Env) (s:Hq) (m0:Nat),I0 [f 8] s m0->
 qD8 X t0 v1 (.int .i64 V0) (f 8) I0 m0 K s
def qGz:Nat->List Nat:=λk=>cond (Nat.beq k 4) [8] ([])
theorem qHu{X:Td}(hX:FrX X)(hn:X 101=none){t0 v1:AV}{K:KvP}{s:Hq}(h:qFL X t0 v1 K s):wC TP X 101 [t0,v1] K s:=
 wOK hX qGz hn Tryz.func101 h
def qBs(X:Td)(t0 t1 t7 t8:AV)(I0:IvP)(m0:Nat)(K:KvP)(s:Hq):Prop:=
 oK (qAG .lss t8 t7) λV2=>qAL V2
 (oK (qAY 2 t0 t8) λV3=>oK (rdN s 2 V3) λV4=>funK TP X t1 [(.agg V4)] (λV5 S6=>qAL V5
 (K t8 S6)
 (oK (qAG .add t8 (.int .i64 1)) λV7=>∃m',m'<m0/\I0 [V7] S6 m')) s)
 (K (.int .i64 (-1)) s)
def qCB(X:Td)(t0 t1:AV)(K:KvP)(s:Hq):Prop:=
 oK (qAQ t0) λV0=>∃I0:IvP,(∃m,I0 [(.int .i64 0)] s m)/\∀(f:Env) (s:Hq) (m0:Nat),I0 [f 8] s m0->
 qBs X t0 t1 (.int .i64 V0) (f 8) I0 m0 K s
def qC1:Nat->List Nat:=λk=>cond (Nat.beq k 4) [8] ([])
theorem qDB{X:Td}(hX:FrX X)(hn:X 198=none){t0 t1:AV}{K:KvP}{s:Hq}(h:qCB X t0 t1 K s):wC TP X 198 [t0,t1] K s:=
 wOK hX qC1 hn Tryz.func198 h
def qKw(X:Td)(t7 t10:AV)(K:KvP)(s:Hq):Prop:=
 oK (qAR t7 t10 (.bool false)) λV1=>K V1 s
def qPK(X:Td)(i0 n1:AV)(K:KvP)(s:Hq):Prop:=
 oK (qAG .geq i0 (.int .i64 0)) λV0=>qAL V0
 (oK (qAG .lss i0 n1) λV2=>qKw X V0 V2 K s)
 (qKw X V0 .undef K s)
theorem qPS{X:Td}(hX:FrX X)(hn:X 153=none){i0 n1:AV}{K:KvP}{s:Hq}(h:qPK X i0 n1 K s):wC TP X 153 [i0,n1] K s:=
 wOK hX nA0 hn Tryz.func153 h
def qUf(X:Td)(bad0 err1 part2 index3:AV)(K:KvP)(s:Hq):Prop:=
 qAL bad0
 (oK (qAl [(.int .i64 0),(.str ⟨#[]⟩),(.int .i64 0)] [(0,1,err1),(1,1,part2),(2,1,index3)]) λC0=>
False /- op -/)
 (K (.tup []) s)
theorem qSg{bad0 err1 part2 index3:AV}{K:KvP}{s:Hq}(h:qUf XX bad0 err1 part2 index3 K s):wC TP XX 149 [bad0,err1,part2,index3] K s:=wOK qAj nA0 rfl Tryz.func149 h
def qGD(X:Td)(t31 t34:AV)(K:KvP)(s:Hq):Prop:=
 oK (qAR t31 (.bool true) t34) λV26=>wC TP X 149 [V26,(.int .i64 2),(.str ⟨#[102,97,98,114,105,99]⟩),(.int .i64 0)] (λV27 S28=>K (.tup []) S28) s
def qGE(X:Td)(t2 t26 t29:AV)(K:KvP)(s:Hq):Prop:=
 oK (qAR t26 (.bool true) t29) λV25=>qAL V25
 (qGD X V25 .undef K s)
 (oK (qAC 10 t2) λV29=>oK (rd1 s V29) λV30=>wC TP X 150 [V30,(.int .i64 0),(.int .i64 1)] (λV31 S32=>qGD X V25 V31 K S32) s)
def qF0(X:Td)(t2 t10 t13:AV)(K:KvP)(s:Hq):Prop:=
 oK (qAR t10 (.bool true) t13) λV10=>wC TP X 149 [V10,(.int .i64 2),(.str ⟨#[102,97,98,114,105,99]⟩),(.int .i64 0)] (λV11 S12=>oK (qAC 0 t2) λV13=>oK (rd1 S12 V13) λV14=>oK (qAC 1 t2) λV15=>oK (rd1 S12 V15) λV16=>oK (qAG .add V14 V16) λV17=>oK (qAG .gtr V17 (.int .i64 32)) λV18=>wC TP X 149 [V18,(.int .i64 2),(.str ⟨#[102,97,98,114,105,99]⟩),(.int .i64 0)] (λV19 S20=>oK (qAC 8 t2) λV21=>oK (rd1 S20 V21) λV22=>wC TP X 150 [V22,(.int .i64 0),(.int .i64 2)] (λV23 S24=>qAL V23
 (qGE X t2 V23 .undef K S24)
 (oK (qAC 9 t2) λV33=>oK (rd1 S24 V33) λV34=>wC TP X 150 [V34,(.int .i64 0),(.int .i64 1)] (λV35 S36=>qGE X t2 V23 V35 K S36) S24)) S20) S12) s
def qT5(X:Td)(c0:AV)(K:KvP)(s:Hq):Prop:=
 oK (qAH c0) λV0=>oK (qAC 0 V0) λV1=>oK (rdN s 19 V1) λV2=>newK 31 zR1 (λB3 S4=>oK (qAw S4 19 (.ptr B3 0) (.agg V2)) λS5=>oK (qAC 0 (.ptr B3 0)) λV6=>oK (rd1 S5 V6) λV7=>wC TP X 150 [V7,(.int .i64 1),(.int .i64 32)] (λV8 S9=>qAL V8
 (qF0 X (.ptr B3 0) V8 .undef K S9)
 (oK (qAC 1 (.ptr B3 0)) λV37=>oK (rd1 S9 V37) λV38=>wC TP X 150 [V38,(.int .i64 0),(.int .i64 32)] (λV39 S40=>qF0 X (.ptr B3 0) V8 V39 K S40) S9)) S5) s
theorem qPp{c0:AV}{K:KvP}{s:Hq}(h:qT5 XX c0 K s):wC TP XX 119 [c0] K s:=wOK qAj nA0 rfl Tryz.func119 h
def qGB(X:Td)(t30 t33:AV)(K:KvP)(s:Hq):Prop:=
 oK (qAR t30 (.bool true) t33) λV20=>wC TP X 149 [V20,(.int .i64 2),(.str ⟨#[116,105,109,101,114,115]⟩),(.int .i64 0)] (λV21 S22=>K (.tup []) S22) s
def qF1(X:Td)(t2 t25 t28:AV)(K:KvP)(s:Hq):Prop:=
 oK (qAR t25 (.bool true) t28) λV19=>qAL V19
 (qGB X V19 .undef K s)
 (oK (qAC 5 t2) λV23=>oK (rd1 s V23) λV24=>wC TP X 150 [V24,(.int .i64 1),(.int .i64 10000)] (λV25 S26=>qGB X V19 V25 K S26) s)
def qGC(X:Td)(t2 t16 t19:AV)(K:KvP)(s:Hq):Prop:=
 oK (qAR t16 (.bool true) t19) λV12=>wC TP X 149 [V12,(.int .i64 2),(.str ⟨#[116,105,109,101,114,115]⟩),(.int .i64 0)] (λV13 S14=>oK (qAC 3 t2) λV15=>oK (rd1 S14 V15) λV16=>wC TP X 150 [V16,(.int .i64 0),(.int .i64 1000)] (λV17 S18=>qAL V17
 (qF1 X t2 V17 .undef K S18)
 (oK (qAC 4 t2) λV27=>oK (rd1 S18 V27) λV28=>wC TP X 150 [V28,(.int .i64 1),(.int .i64 100)] (λV29 S30=>qF1 X t2 V17 V29 K S30) S18)) S14) s
def qF6(X:Td)(t2 t11 t14:AV)(K:KvP)(s:Hq):Prop:=
 oK (qAR t11 (.bool true) t14) λV11=>qAL V11
 (qGC X t2 V11 .undef K s)
 (oK (qAC 2 t2) λV31=>oK (rd1 s V31) λV32=>wC TP X 150 [V32,(.int .i64 1),(.int .i64 10000)] (λV33 S34=>qGC X t2 V11 V33 K S34) s)
def qPx(X:Td)(c0:AV)(K:KvP)(s:Hq):Prop:=
 oK (qAH c0) λV0=>oK (qAC 0 V0) λV1=>oK (qAC 13 V1) λV2=>oK (rdN s 6 V2) λV3=>newK 29 [(.int .i64 0),(.int .i64 0),(.int .i64 0),(.int .i64 0),(.int .i64 0),(.int .i64 0)] (λB4 S5=>oK (qAw S5 6 (.ptr B4 0) (.agg V3)) λS6=>oK (qAC 0 (.ptr B4 0)) λV7=>oK (rd1 S6 V7) λV8=>wC TP X 150 [V8,(.int .i64 1),(.int .i64 100)] (λV9 S10=>qAL V9
 (qF6 X (.ptr B4 0) V9 .undef K S10)
 (oK (qAC 1 (.ptr B4 0)) λV35=>oK (rd1 S10 V35) λV36=>wC TP X 150 [V36,(.int .i64 3),(.int .i64 1000)] (λV37 S38=>qF6 X (.ptr B4 0) V9 V37 K S38) S10)) S6) s
theorem qPJ{c0:AV}{K:KvP}{s:Hq}(h:qPx XX c0 K s):wC TP XX 120 [c0] K s:=wOK qAj nA0 rfl Tryz.func120 h
def qG7(X:Td)(again3 i4 t22 t51 t54:AV)(I0:IvP)(m0:Nat)(K:KvP)(s:Hq):Prop:=
 oK (qAR t51 (.bool true) t54) λV36=>wC TP X 149 [V36,(.int .i64 2),(.str ⟨#[108,105,110,107,115]⟩),i4] (λV37 S38=>oK (qAY 1 again3 i4) λV39=>oK (rd1 S38 V39) λV40=>wC TP X 149 [V40,(.int .i64 11),(.str ⟨#[108,105,110,107,115]⟩),i4] (λV41 S42=>oK (qAG .add t22 (.int .i64 1)) λV43=>∃m',m'<m0/\I0 [V43] S42 m') S38) s
def qGu(X:Td)(again3 i4 l5 t22 t39 t47:AV)(I0:IvP)(m0:Nat)(K:KvP)(s:Hq):Prop:=
 oK (qAR t39 t47 (.bool false)) λV34=>oK (qAr .not V34) λV35=>qAL V35
 (qG7 X again3 i4 t22 V35 .undef I0 m0 K s)
 (oK (qAC 2 l5) λV44=>oK (rd1 s V44) λV45=>wC TP X 150 [V45,(.int .i64 1),(.int .i64 1000)] (λV46 S47=>qG7 X again3 i4 t22 V35 V46 I0 m0 K S47) s)
def qHZ(X:Td)(t2 again3 i4 l5 t22 t32 t37:AV)(I0:IvP)(m0:Nat)(K:KvP)(s:Hq):Prop:=
 oK (qAR t32 t37 (.bool false)) λV33=>qAL V33
 (oK (qAC 1 l5) λV48=>oK (rd1 s V48) λV49=>oK (qAC 0 t2) λV50=>oK (rd1 s V50) λV51=>oK (qAC 1 t2) λV52=>oK (rd1 s V52) λV53=>oK (qAG .add V51 V53) λV54=>oK (qAG .lss V49 V54) λV55=>qGu X again3 i4 l5 t22 V33 V55 I0 m0 K s)
 (qGu X again3 i4 l5 t22 V33 .undef I0 m0 K s)
def qML(X:Td)(t2 again3 t20 t21 t22:AV)(I0:IvP)(m0:Nat)(K:KvP)(s:Hq):Prop:=
 oK (qAG .lss t22 t21) λV21=>qAL V21
 (oK (qAY 3 t20 t22) λV22=>oK (rdN s 3 V22) λV23=>newK 91 [(.int .i64 0),(.int .i64 0),(.int .i64 0)] (λB24 S25=>oK (qAw S25 3 (.ptr B24 0) (.agg V23)) λS26=>oK (qAC 0 (.ptr B24 0)) λV27=>oK (rd1 S26 V27) λV28=>oK (qAC 0 t2) λV29=>oK (rd1 S26 V29) λV30=>wC TP X 153 [V28,V30] (λV31 S32=>qAL V31
 (oK (qAC 1 (.ptr B24 0)) λV56=>oK (rd1 S32 V56) λV57=>oK (qAC 0 t2) λV58=>oK (rd1 S32 V58) λV59=>oK (qAG .geq V57 V59) λV60=>qHZ X t2 again3 t22 (.ptr B24 0) t22 V31 V60 I0 m0 K S32)
 (qHZ X t2 again3 t22 (.ptr B24 0) t22 V31 .undef I0 m0 K S32)) S26) s)
 (K (.tup []) s)
def qWI(X:Td)(c0:AV)(K:KvP)(s:Hq):Prop:=
 oK (qAH c0) λV0=>oK (qAC 0 V0) λV1=>oK (rdN s 19 V1) λV2=>newK 31 zR1 (λB3 S4=>oK (qAw S4 19 (.ptr B3 0) (.agg V2)) λS5=>oK (qAC 2 (.ptr B3 0)) λV6=>oK (rd1 S5 V6) λV7=>oK (qAQ V7) λV8=>oK (qAG .gtr (.int .i64 V8) (.int .i64 128)) λV10=>wC TP X 149 [V10,(.int .i64 7),(.str ⟨#[108,105,110,107,115]⟩),(.int .i64 128)] (λV11 S12=>oK (qAC 2 (.ptr B3 0)) λV13=>oK (rd1 S12 V13) λV14=>wC TP X 151 [V14,(.fn (.func 152) [] [])] (λV15 S16=>oK (qAC 2 (.ptr B3 0)) λV17=>oK (rd1 S16 V17) λV18=>oK (qAQ V18) λV19=>∃I0:IvP,(∃m,I0 [(.int .i64 0)] S16 m)/\∀(f:Env) (s:Hq) (m0:Nat),I0 [f 22] s m0->
 qML X (.ptr B3 0) V15 V18 (.int .i64 V19) (f 22) I0 m0 K s) S12) S5) s
def qQG:Nat->List Nat:=λk=>cond (Nat.beq k 8) [22] ([])
theorem qQm{c0:AV}{K:KvP}{s:Hq}(h:qWI XX c0 K s):wC TP XX 121 [c0] K s:=wOK qAj qQG rfl Tryz.func121 h
def qEr(X:Td)(i5 t22 t46 t50:AV)(I0:IvP)(m0:Nat)(K:KvP)(s:Hq):Prop:=
 oK (qAR t46 (.bool true) t50) λV30=>wC TP X 149 [V30,(.int .i64 11),(.str ⟨#[116,101,110,97,110,116,115]⟩),i5] (λV31 S32=>oK (qAG .add t22 (.int .i64 1)) λV33=>∃m',m'<m0/\I0 [V33] S32 m') s
def qEv(X:Td)(vnis3 x4 i5 t22 t35 t38:AV)(I0:IvP)(m0:Nat)(K:KvP)(s:Hq):Prop:=
 oK (qAR t35 (.bool true) t38) λV25=>wC TP X 149 [V25,(.int .i64 2),(.str ⟨#[116,101,110,97,110,116,115]⟩),i5] (λV26 S27=>oK (qAY 1 vnis3 i5) λV28=>oK (rd1 S27 V28) λV29=>qAL V29
 (qEr X i5 t22 V29 .undef I0 m0 K S27)
 (oK (qAY 1 x4 i5) λV34=>oK (rd1 S27 V34) λV35=>qEr X i5 t22 V29 V35 I0 m0 K S27)) s
def qE8(X:Td)(vnis3 x4 i5 t6 t22 t30 t33:AV)(I0:IvP)(m0:Nat)(K:KvP)(s:Hq):Prop:=
 oK (qAR t30 (.bool true) t33) λV24=>qAL V24
 (qEv X vnis3 x4 i5 t22 V24 .undef I0 m0 K s)
 (oK (qAC 1 t6) λV36=>oK (rd1 s V36) λV37=>oK (negB false (eqV 0 true V37 (.int .u32 0))) λV38=>qEv X vnis3 x4 i5 t22 V24 V38 I0 m0 K s)
def qKI(X:Td)(vnis3 x4 t20 t21 t22:AV)(I0:IvP)(m0:Nat)(K:KvP)(s:Hq):Prop:=
 oK (qAG .lss t22 t21) λV15=>qAL V15
 (oK (qAY 2 t20 t22) λV16=>oK (rdN s 2 V16) λV17=>newK 93 [(.int .u32 0),(.int .u32 0)] (λB18 S19=>oK (qAw S19 2 (.ptr B18 0) (.agg V17)) λS20=>oK (qAC 0 (.ptr B18 0)) λV21=>oK (rd1 S20 V21) λV22=>oK (qAG .lss V22 (.int .u32 1)) λV23=>qAL V23
 (qE8 X vnis3 x4 t22 (.ptr B18 0) t22 V23 .undef I0 m0 K S20)
 (oK (qAC 0 (.ptr B18 0)) λV39=>oK (rd1 S20 V39) λV40=>oK (qAG .gtr V40 (.int .u32 16777215)) λV41=>qE8 X vnis3 x4 t22 (.ptr B18 0) t22 V23 V41 I0 m0 K S20)) s)
 (K (.tup []) s)
def qNs(X:Td)(c0:AV)(K:KvP)(s:Hq):Prop:=
 oK (qAH c0) λV0=>oK (qAC 0 V0) λV1=>oK (qAC 3 V1) λV2=>oK (rd1 s V2) λV3=>oK (qAQ V3) λV4=>oK (qAG .gtr (.int .i64 V4) (.int .i64 16)) λV6=>wC TP X 149 [V6,(.int .i64 7),(.str ⟨#[116,101,110,97,110,116,115]⟩),(.int .i64 16)] (λV7 S8=>wC TP X 154 [V3,(.fn (.func 155) [] [])] (λV9 S10=>wC TP X 154 [V3,(.fn (.func 156) [] [])] (λV11 S12=>oK (qAQ V3) λV13=>∃I0:IvP,(∃m,I0 [(.int .i64 0)] S12 m)/\∀(f:Env) (s:Hq) (m0:Nat),I0 [f 22] s m0->
 qKI X V9 V11 V3 (.int .i64 V13) (f 22) I0 m0 K s) S10) S8) s
def qND:Nat->List Nat:=λk=>cond (Nat.beq k 8) [22] ([])
theorem qOo{c0:AV}{K:KvP}{s:Hq}(h:qNs XX c0 K s):wC TP XX 122 [c0] K s:=wOK qAj qND rfl Tryz.func122 h
def qEz(X:Td)(t28:AV)(I0:IvP)(m0:Nat)(K:KvP)(s:Hq):Prop:=
 oK (qAG .add t28 (.int .i64 1)) λV26=>∃m',m'<m0/\I0 [V26] s m'
def qE6(X:Td)(t2 i5 b6 t28 t98 t102:AV)(I0:IvP)(m0:Nat)(K:KvP)(s:Hq):Prop:=
 oK (qAR t98 (.bool true) t102) λV67=>wC TP X 149 [V67,(.int .i64 3),(.str ⟨#[100,111,109,97,105,110,115]⟩),i5] (λV68 S69=>oK (qAC 3 b6) λV70=>oK (rdN S69 2 V70) λV71=>oK (qAC 5 b6) λV72=>oK (rd1 S69 V72) λV73=>wC TP X 162 [(.agg V71),V73] (λV74 S75=>oK (qAr .not V74) λV76=>wC TP X 149 [V76,(.int .i64 3),(.str ⟨#[100,111,109,97,105,110,115]⟩),i5] (λV77 S78=>oK (qAC 4 t2) λV79=>oK (rd1 S78 V79) λV80=>oK (qD6 6 V80 none (some i5) none) λV81=>wC TP X 163 [V81,(.fn (.func 164) [] [b6])] (λV82 S83=>wC TP X 149 [V82,(.int .i64 11),(.str ⟨#[100,111,109,97,105,110,115]⟩),i5] (λV84 S85=>qEz X t28 I0 m0 K S85) S83) S78) S75) S69) s
def qE7(X:Td)(t2 i5 b6 t28 t75 t80:AV)(I0:IvP)(m0:Nat)(K:KvP)(s:Hq):Prop:=
 oK (qAR t75 (.bool true) t80) λV50=>wC TP X 149 [V50,(.int .i64 11),(.str ⟨#[100,111,109,97,105,110,115]⟩),i5] (λV51 S52=>oK (qAC 5 b6) λV53=>oK (rd1 S52 V53) λV54=>oK (negB false (eqV 0 true V54 (.int .u32 0))) λV55=>qAL V55
 (oK (qAC 3 b6) λV56=>oK (rdN S52 2 V56) λV57=>oK (qAl [(.int .u32 0),(.int .i64 0)] []) λC58=>oK (negB true (qGg TP 67 (.agg V57) (.agg C58))) λV59=>wC TP X 149 [V59,(.int .i64 3),(.str ⟨#[100,111,109,97,105,110,115]⟩),i5] (λV60 S61=>qEz X t28 I0 m0 K S61) S52)
 (oK (qAC 3 b6) λV62=>oK (rdN S52 2 V62) λV63=>wC TP X 161 [(.agg V63)] (λV64 S65=>oK (qAr .not V64) λV66=>qAL V66
 (qE6 X t2 i5 b6 t28 V66 .undef I0 m0 K S65)
 (oK (qAC 3 b6) λV86=>oK (qAC 1 V86) λV87=>oK (rd1 S65 V87) λV88=>wC TP X 150 [V88,(.int .i64 8),(.int .i64 30)] (λV89 S90=>qE6 X t2 i5 b6 t28 V66 V89 I0 m0 K S90) S65)) S52)) s
def qEw(X:Td)(t2 i5 b6 t28 t68 t73:AV)(I0:IvP)(m0:Nat)(K:KvP)(s:Hq):Prop:=
 oK (qAR t68 (.bool true) t73) λV49=>qAL V49
 (qE7 X t2 i5 b6 t28 V49 .undef I0 m0 K s)
 (oK (qAC 3 t2) λV91=>oK (rd1 s V91) λV92=>oK (qAC 2 b6) λV93=>oK (rd1 s V93) λV94=>wC TP X 160 [V92,(.fn (.func 156) [] []),V94] (λV95 S96=>qE7 X t2 i5 b6 t28 V49 V95 I0 m0 K S96) s)
def qEu(X:Td)(t2 i5 b6 t28 t62 t66:AV)(I0:IvP)(m0:Nat)(K:KvP)(s:Hq):Prop:=
 oK (qAR t62 (.bool true) t66) λV48=>qAL V48
 (qEw X t2 i5 b6 t28 V48 .undef I0 m0 K s)
 (oK (qAC 3 t2) λV97=>oK (rd1 s V97) λV98=>oK (qAC 1 b6) λV99=>oK (rd1 s V99) λV100=>wC TP X 160 [V98,(.fn (.func 155) [] []),V100] (λV101 S102=>qEw X t2 i5 b6 t28 V48 V101 I0 m0 K S102) s)
def qE3(X:Td)(t2 vnis3 x4 i5 b6 t28 t50 t53:AV)(I0:IvP)(m0:Nat)(K:KvP)(s:Hq):Prop:=
 oK (qAR t50 (.bool true) t53) λV43=>wC TP X 149 [V43,(.int .i64 2),(.str ⟨#[100,111,109,97,105,110,115]⟩),i5] (λV44 S45=>oK (qAY 1 vnis3 i5) λV46=>oK (rd1 S45 V46) λV47=>qAL V47
 (qEu X t2 i5 b6 t28 V47 .undef I0 m0 K S45)
 (oK (qAY 1 x4 i5) λV103=>oK (rd1 S45 V103) λV104=>qEu X t2 i5 b6 t28 V47 V104 I0 m0 K S45)) s
def qE1(X:Td)(t2 vnis3 x4 i5 b6 t28 t45 t48:AV)(I0:IvP)(m0:Nat)(K:KvP)(s:Hq):Prop:=
 oK (qAR t45 (.bool true) t48) λV42=>qAL V42
 (qE3 X t2 vnis3 x4 i5 b6 t28 V42 .undef I0 m0 K s)
 (oK (qAC 2 b6) λV105=>oK (rd1 s V105) λV106=>oK (negB false (eqV 0 true V106 (.int .u32 0))) λV107=>qE3 X t2 vnis3 x4 i5 b6 t28 V42 V107 I0 m0 K s)
def qFB(X:Td)(t2 vnis3 x4 i5 b6 t28 t40 t43:AV)(I0:IvP)(m0:Nat)(K:KvP)(s:Hq):Prop:=
 oK (qAR t40 (.bool true) t43) λV41=>qAL V41
 (qE1 X t2 vnis3 x4 i5 b6 t28 V41 .undef I0 m0 K s)
 (oK (qAC 1 b6) λV108=>oK (rd1 s V108) λV109=>oK (qAG .gtr V109 (.int .u32 16777215)) λV110=>qE1 X t2 vnis3 x4 i5 b6 t28 V41 V110 I0 m0 K s)
def qJm(X:Td)(t2 vnis3 x4 t26 t27 t28:AV)(I0:IvP)(m0:Nat)(K:KvP)(s:Hq):Prop:=
 oK (qAG .lss t28 t27) λV25=>qAL V25
 (oK (qAY 6 t26 t28) λV27=>oK (rdN s 6 V27) λV28=>newK 69 [(.int .i64 0),(.int .u32 0),(.int .u32 0),(.int .u32 0),(.int .i64 0),(.int .u32 0)] (λB29 S30=>oK (qAw S30 6 (.ptr B29 0) (.agg V28)) λS31=>oK (qAC 0 (.ptr B29 0)) λV32=>oK (rd1 S31 V32) λV33=>oK (qAC 3 t2) λV34=>oK (rd1 S31 V34) λV35=>oK (qAQ V35) λV36=>wC TP X 153 [V33,(.int .i64 V36)] (λV38 S39=>oK (qAr .not V38) λV40=>qAL V40
 (qFB X t2 vnis3 x4 t28 (.ptr B29 0) t28 V40 .undef I0 m0 K S39)
 (oK (qAC 1 (.ptr B29 0)) λV111=>oK (rd1 S39 V111) λV112=>oK (qAG .lss V112 (.int .u32 1)) λV113=>qFB X t2 vnis3 x4 t28 (.ptr B29 0) t28 V40 V113 I0 m0 K S39)) S31) s)
 (K (.tup []) s)
def qTK(X:Td)(c0:AV)(K:KvP)(s:Hq):Prop:=
 oK (qAH c0) λV0=>oK (qAC 0 V0) λV1=>oK (rdN s 19 V1) λV2=>newK 31 zR1 (λB3 S4=>oK (qAw S4 19 (.ptr B3 0) (.agg V2)) λS5=>oK (qAC 4 (.ptr B3 0)) λV6=>oK (rd1 S5 V6) λV7=>oK (qAQ V7) λV8=>oK (qAG .gtr (.int .i64 V8) (.int .i64 32)) λV10=>wC TP X 149 [V10,(.int .i64 7),(.str ⟨#[100,111,109,97,105,110,115]⟩),(.int .i64 32)] (λV11 S12=>oK (qAC 4 (.ptr B3 0)) λV13=>oK (rd1 S12 V13) λV14=>wC TP X 157 [V14,(.fn (.func 158) [] [])] (λV15 S16=>(∀b,S12 b≠none->S12 b=none->S16 b=none)->
 oK (qAC 4 (.ptr B3 0)) λV17=>oK (rd1 (cutH [(S12,(add S12 S16))] (add S12 S16)) V17) λV18=>wC TP X 157 [V18,(.fn (.func 159) [] [])] (λV19 S20=>oK (qAC 4 (.ptr B3 0)) λV21=>oK (rd1 S20 V21) λV22=>oK (qAQ V22) λV23=>∃I0:IvP,(∃m,I0 [(.int .i64 0)] S20 m)/\∀(f:Env) (s:Hq) (m0:Nat),I0 [f 28] s m0->
 qJm X (.ptr B3 0) V15 V19 V22 (.int .i64 V23) (f 28) I0 m0 K s) (add S12 S16)) (frz S12)) S5) s
def qNI:Nat->List Nat:=λk=>cond (Nat.beq k 8) [28] ([])
theorem qOp{c0:AV}{K:KvP}{s:Hq}(h:qTK XX c0 K s):wC TP XX 123 [c0] K s:=wOK qAj qNI rfl Tryz.func123 h
def qJF(X:Td)(ports3 i4 t21 t64 t65 t66:AV)(I4:IvP)(m4:Nat)(I0:IvP)(m0:Nat)(K:KvP)(s:Hq):Prop:=
 oK (qAG .lss t66 t65) λV52=>qAL V52
 (oK (qAY 1 t64 t66) λV53=>oK (rd1 s V53) λV54=>oK (qK8 32 1 ports3 V54) λV55=>oK (rd1 s V55) λV56=>oK (qAG .add V56 (.int .i64 1)) λV57=>oK (qK8 32 1 ports3 V54) λV58=>oK (wr1 s V58 V57) λS59=>oK (qK8 32 1 ports3 V54) λV60=>oK (rd1 S59 V60) λV61=>oK (qAG .gtr V61 (.int .i64 32)) λV62=>wC TP X 149 [V62,(.int .i64 7),(.str ⟨#[115,101,103,109,101,110,116,115]⟩),i4] (λV63 S64=>oK (qAG .add t66 (.int .i64 1)) λV65=>∃m',m'<m4/\I4 [V65] S64 m') S59)
 (oK (qAG .add t21 (.int .i64 1)) λV66=>∃m',m'<m0/\I0 [V66] s m')
def qEQ(X:Td)(ports3 i4 t5 t21 t55 t59:AV)(I0:IvP)(m0:Nat)(K:KvP)(s:Hq):Prop:=
 oK (qAR t55 (.bool true) t59) λV45=>wC TP X 149 [V45,(.int .i64 10),(.str ⟨#[115,101,103,109,101,110,116,115]⟩),i4] (λV46 S47=>oK (qAC 0 t5) λV48=>oK (rd1 S47 V48) λV49=>oK (qAQ V49) λV50=>∃I4:IvP,(∃m,I4 [(.int .i64 0)] S47 m)/\∀(f:Env) (s:Hq) (m4:Nat),I4 [f 66] s m4->
 qJF X ports3 i4 t21 V49 (.int .i64 V50) (f 66) I4 m4 I0 m0 K s) s
def qES(X:Td)(ports3 i4 t5 t21 t42 t46:AV)(I0:IvP)(m0:Nat)(K:KvP)(s:Hq):Prop:=
 oK (qAR t42 (.bool true) t46) λV37=>wC TP X 149 [V37,(.int .i64 2),(.str ⟨#[115,101,103,109,101,110,116,115]⟩),i4] (λV38 S39=>oK (qAC 0 t5) λV40=>oK (rd1 S39 V40) λV41=>wC TP X 167 [V41] (λV42 S43=>oK (qAr .not V42) λV44=>qAL V44
 (qEQ X ports3 i4 t5 t21 V44 .undef I0 m0 K S43)
 (oK (qAC 1 t5) λV67=>oK (rd1 S43 V67) λV68=>wC TP X 167 [V68] (λV69 S70=>oK (qAr .not V69) λV71=>qEQ X ports3 i4 t5 t21 V44 V71 I0 m0 K S70) S43)) S39) s
def qEP(X:Td)(t2 ports3 i4 t5 t21 t30 t34:AV)(I0:IvP)(m0:Nat)(K:KvP)(s:Hq):Prop:=
 oK (qAR t30 (.bool true) t34) λV30=>wC TP X 149 [V30,(.int .i64 3),(.str ⟨#[115,101,103,109,101,110,116,115]⟩),i4] (λV31 S32=>oK (qAC 0 t5) λV33=>oK (rd1 S32 V33) λV34=>wC TP X 114 [V34,(.fn (.func 165) [] [t2])] (λV35 S36=>qAL V35
 (qES X ports3 i4 t5 t21 V35 .undef I0 m0 K S36)
 (oK (qAC 1 t5) λV72=>oK (rd1 S36 V72) λV73=>wC TP X 114 [V73,(.fn (.func 166) [] [t2])] (λV74 S75=>qES X ports3 i4 t5 t21 V35 V74 I0 m0 K S75) S36)) S32) s
def qJB(X:Td)(t2 ports3 t19 t20 t21:AV)(I0:IvP)(m0:Nat)(K:KvP)(s:Hq):Prop:=
 oK (qAG .lss t21 t20) λV19=>qAL V19
 (oK (qAY 2 t19 t21) λV20=>oK (rdN s 2 V20) λV21=>newK 64 [.nilslc,.nilslc] (λB22 S23=>oK (qAw S23 2 (.ptr B22 0) (.agg V21)) λS24=>oK (qAC 0 (.ptr B22 0)) λV25=>oK (rd1 S24 V25) λV26=>oK (qAQ V26) λV27=>oK (negB false (eqV 0 true (.int .i64 V27) (.int .i64 0))) λV29=>qAL V29
 (qEP X t2 ports3 t21 (.ptr B22 0) t21 V29 .undef I0 m0 K S24)
 (oK (qAC 1 (.ptr B22 0)) λV76=>oK (rd1 S24 V76) λV77=>oK (qAQ V77) λV78=>oK (negB false (eqV 0 true (.int .i64 V78) (.int .i64 0))) λV80=>qEP X t2 ports3 t21 (.ptr B22 0) t21 V29 V80 I0 m0 K S24)) s)
 (K (.tup []) s)
def qRH(X:Td)(c0:AV)(K:KvP)(s:Hq):Prop:=
 oK (qAH c0) λV0=>oK (qAC 0 V0) λV1=>oK (rdN s 19 V1) λV2=>newK 31 zR1 (λB3 S4=>oK (qAw S4 19 (.ptr B3 0) (.agg V2)) λS5=>oK (qAC 5 (.ptr B3 0)) λV6=>oK (rd1 S5 V6) λV7=>oK (qAQ V7) λV8=>oK (qAG .gtr (.int .i64 V8) (.int .i64 64)) λV10=>wC TP X 149 [V10,(.int .i64 7),(.str ⟨#[115,101,103,109,101,110,116,115]⟩),(.int .i64 64)] (λV11 S12=>newK 208 [(.int .i64 0),(.int .i64 0),(.int .i64 0),(.int .i64 0),(.int .i64 0),(.int .i64 0),(.int .i64 0),(.int .i64 0),(.int .i64 0),(.int .i64 0),(.int .i64 0),(.int .i64 0),(.int .i64 0),(.int .i64 0),(.int .i64 0),(.int .i64 0),(.int .i64 0),(.int .i64 0),(.int .i64 0),(.int .i64 0),(.int .i64 0),(.int .i64 0),(.int .i64 0),(.int .i64 0),(.int .i64 0),(.int .i64 0),(.int .i64 0),(.int .i64 0),(.int .i64 0),(.int .i64 0),(.int .i64 0),(.int .i64 0)] (λB13 S14=>oK (qAC 5 (.ptr B3 0)) λV15=>oK (rd1 S14 V15) λV16=>oK (qAQ V16) λV17=>∃I0:IvP,(∃m,I0 [(.int .i64 0)] S14 m)/\∀(f:Env) (s:Hq) (m0:Nat),I0 [f 21] s m0->
 qJB X (.ptr B3 0) (.ptr B13 0) V16 (.int .i64 V17) (f 21) I0 m0 K s) S12) S5) s
def qMY:Nat->List Nat:=λk=>cond (Nat.beq k 8) [21] (cond (Nat.beq k 22) [66] ([]))
theorem qM1{c0:AV}{K:KvP}{s:Hq}(h:qRH XX c0 K s):wC TP XX 124 [c0] K s:=wOK qAj qMY rfl Tryz.func124 h
def qHQ(X:Td)(i5 t28 t115 t119 t123:AV)(I0:IvP)(m0:Nat)(K:KvP)(s:Hq):Prop:=
 oK (qAR t119 t123 (.bool false)) λV78=>oK (qAR t115 (.bool true) V78) λV79=>wC TP X 149 [V79,(.int .i64 11),(.str ⟨#[104,111,115,116,115]⟩),i5] (λV80 S81=>oK (qAG .add t28 (.int .i64 1)) λV82=>∃m',m'<m0/\I0 [V82] S81 m') s
def qG3(X:Td)(macs3 x4 i5 h6 t28 t97 t107:AV)(I0:IvP)(m0:Nat)(K:KvP)(s:Hq):Prop:=
 oK (qAR t97 (.bool true) t107) λV66=>wC TP X 149 [V66,(.int .i64 3),(.str ⟨#[104,111,115,116,115]⟩),i5] (λV67 S68=>oK (qAY 1 macs3 i5) λV69=>oK (rd1 S68 V69) λV70=>qAL V70
 (oK (qAR V70 (.bool true) .undef) λV71=>wC TP X 149 [V71,(.int .i64 11),(.str ⟨#[104,111,115,116,115]⟩),i5] (λV72 S73=>oK (qAG .add t28 (.int .i64 1)) λV74=>∃m',m'<m0/\I0 [V74] S73 m') S68)
 (oK (qAC 1 h6) λV75=>oK (rd1 S68 V75) λV76=>oK (negB true (eqV 0 true V76 (.int .u32 0))) λV77=>qAL V77
 (oK (qAY 1 x4 i5) λV83=>oK (rd1 S68 V83) λV84=>qHQ X i5 t28 V70 V77 V84 I0 m0 K S68)
 (qHQ X i5 t28 V70 V77 .undef I0 m0 K S68))) s
def qG9(X:Td)(t2 macs3 x4 i5 h6 t28 t94 t95:AV)(I0:IvP)(m0:Nat)(K:KvP)(s:Hq):Prop:=
 oK (qAR t94 (.bool true) t95) λV65=>qAL V65
 (qG3 X macs3 x4 i5 h6 t28 V65 .undef I0 m0 K s)
 (oK (qAC 4 t2) λV85=>oK (rd1 s V85) λV86=>oK (qAC 2 h6) λV87=>oK (rd1 s V87) λV88=>oK (qAY 6 V86 V88) λV89=>oK (rdN s 6 V89) λV90=>oK (qAC 1 h6) λV91=>oK (rd1 s V91) λV92=>wC TP X 172 [(.agg V90),V92] (λV93 S94=>oK (qAr .not V93) λV95=>qG3 X macs3 x4 i5 h6 t28 V65 V95 I0 m0 K S94) s)
def qHX(X:Td)(t2 macs3 x4 i5 h6 t28 t69 t80:AV)(I0:IvP)(m0:Nat)(K:KvP)(s:Hq):Prop:=
 oK (qAR t69 t80 (.bool false)) λV53=>wC TP X 149 [V53,(.int .i64 8),(.str ⟨#[104,111,115,116,115]⟩),i5] (λV54 S55=>oK (qAC 0 h6) λV56=>oK (rd1 S55 V56) λV57=>wC TP X 171 [V57] (λV58 S59=>oK (qAd V58 0) λV60=>oK (qAd V58 1) λV61=>oK (qAC 0 h6) λV62=>oK (rd1 S59 V62) λV63=>oK (negB false (eqV 0 true V63 (.int .u64 1577058561))) λV64=>qAL V64
 (qG9 X t2 macs3 x4 i5 h6 t28 V64 .undef I0 m0 K S59)
 (qG9 X t2 macs3 x4 i5 h6 t28 V64 V61 I0 m0 K S59)) S55) s
def qGw(X:Td)(t2 macs3 x4 i5 h6 t28 t55 t62:AV)(I0:IvP)(m0:Nat)(K:KvP)(s:Hq):Prop:=
 oK (qAR t55 (.bool true) t62) λV47=>wC TP X 149 [V47,(.int .i64 2),(.str ⟨#[104,111,115,116,115]⟩),i5] (λV48 S49=>oK (qAC 3 h6) λV50=>oK (rd1 S49 V50) λV51=>oK (negB true (eqV 0 true V51 (.int .i64 (-1)))) λV52=>qAL V52
 (oK (qAC 5 t2) λV96=>oK (rd1 S49 V96) λV97=>oK (qAC 3 h6) λV98=>oK (rd1 S49 V98) λV99=>oK (qAY 2 V97 V99) λV100=>oK (qAC 1 V100) λV101=>oK (rd1 S49 V101) λV102=>oK (qAC 2 h6) λV103=>oK (rd1 S49 V103) λV104=>wC TP X 72 [V102,V104] (λV105 S106=>oK (qAr .not V105) λV107=>qHX X t2 macs3 x4 i5 h6 t28 V52 V107 I0 m0 K S106) S49)
 (qHX X t2 macs3 x4 i5 h6 t28 V52 .undef I0 m0 K S49)) s
def qHH(X:Td)(t2 macs3 x4 i5 h6 t28 t41 t44:AV)(I0:IvP)(m0:Nat)(K:KvP)(s:Hq):Prop:=
 oK (qAR t41 (.bool true) t44) λV35=>wC TP X 149 [V35,(.int .i64 2),(.str ⟨#[104,111,115,116,115]⟩),i5] (λV36 S37=>oK (qAC 2 h6) λV38=>oK (rd1 S37 V38) λV39=>oK (qAC 4 t2) λV40=>oK (rd1 S37 V40) λV41=>oK (qAQ V41) λV42=>wC TP X 153 [V39,(.int .i64 V42)] (λV44 S45=>oK (qAr .not V44) λV46=>qAL V46
 (qGw X t2 macs3 x4 i5 h6 t28 V46 .undef I0 m0 K S45)
 (oK (qAC 3 h6) λV108=>oK (rd1 S45 V108) λV109=>oK (qAC 5 t2) λV110=>oK (rd1 S45 V110) λV111=>oK (qAQ V111) λV112=>oK (qAG .sub (.int .i64 V112) (.int .i64 1)) λV114=>wC TP X 150 [V109,(.int .i64 (-1)),V114] (λV115 S116=>qGw X t2 macs3 x4 i5 h6 t28 V46 V115 I0 m0 K S116) S45)) S37) s
def qGv(X:Td)(t2 macs3 x4 i5 h6 t28 t36 t39:AV)(I0:IvP)(m0:Nat)(K:KvP)(s:Hq):Prop:=
 oK (qAR t36 (.bool true) t39) λV34=>qAL V34
 (qHH X t2 macs3 x4 i5 h6 t28 V34 .undef I0 m0 K s)
 (oK (qAC 0 h6) λV117=>oK (rd1 s V117) λV118=>wC TP X 21 [V118] (λV119 S120=>qHH X t2 macs3 x4 i5 h6 t28 V34 V119 I0 m0 K S120) s)
def qMd(X:Td)(t2 macs3 x4 t26 t27 t28:AV)(I0:IvP)(m0:Nat)(K:KvP)(s:Hq):Prop:=
 oK (qAG .lss t28 t27) λV25=>qAL V25
 (oK (qAY 4 t26 t28) λV26=>oK (rdN s 4 V26) λV27=>newK 61 [(.int .u64 0),(.int .u32 0),(.int .i64 0),(.int .i64 0)] (λB28 S29=>oK (qAw S29 4 (.ptr B28 0) (.agg V27)) λS30=>oK (qAC 0 (.ptr B28 0)) λV31=>oK (rd1 S30 V31) λV32=>oK (negB false (eqV 0 true V32 (.int .u64 0))) λV33=>qAL V33
 (qGv X t2 macs3 x4 t28 (.ptr B28 0) t28 V33 .undef I0 m0 K S30)
 (oK (qAC 0 (.ptr B28 0)) λV121=>oK (rd1 S30 V121) λV122=>oK (qAG .gtr V122 (.int .u64 281474976710655)) λV123=>qGv X t2 macs3 x4 t28 (.ptr B28 0) t28 V33 V123 I0 m0 K S30)) s)
 (K (.tup []) s)
def qXP(X:Td)(c0:AV)(K:KvP)(s:Hq):Prop:=
 oK (qAH c0) λV0=>oK (qAC 0 V0) λV1=>oK (rdN s 19 V1) λV2=>newK 31 zR1 (λB3 S4=>oK (qAw S4 19 (.ptr B3 0) (.agg V2)) λS5=>oK (qAC 6 (.ptr B3 0)) λV6=>oK (rd1 S5 V6) λV7=>oK (qAQ V7) λV8=>oK (qAG .gtr (.int .i64 V8) (.int .i64 128)) λV10=>wC TP X 149 [V10,(.int .i64 7),(.str ⟨#[104,111,115,116,115]⟩),(.int .i64 128)] (λV11 S12=>oK (qAC 6 (.ptr B3 0)) λV13=>oK (rd1 S12 V13) λV14=>wC TP X 168 [V14,(.fn (.func 169) [] [])] (λV15 S16=>oK (qAC 6 (.ptr B3 0)) λV17=>oK (rd1 S16 V17) λV18=>wC TP X 168 [V18,(.fn (.func 170) [] [])] (λV19 S20=>oK (qAC 6 (.ptr B3 0)) λV21=>oK (rd1 S20 V21) λV22=>oK (qAQ V22) λV23=>∃I0:IvP,(∃m,I0 [(.int .i64 0)] S20 m)/\∀(f:Env) (s:Hq) (m0:Nat),I0 [f 28] s m0->
 qMd X (.ptr B3 0) V15 V19 V22 (.int .i64 V23) (f 28) I0 m0 K s) S16) S12) S5) s
def qPg:Nat->List Nat:=λk=>cond (Nat.beq k 10) [28] ([])
theorem qRQ{c0:AV}{K:KvP}{s:Hq}(h:qXP XX c0 K s):wC TP XX 125 [c0] K s:=wOK qAj qPg rfl Tryz.func125 h
def qHP(X:Td)(x4 i5 t24 t52 t56:AV)(I0:IvP)(m0:Nat)(K:KvP)(s:Hq):Prop:=
 oK (qAR t52 (.bool true) t56) λV44=>wC TP X 149 [V44,(.int .i64 3),(.str ⟨#[108,101,97,107,115]⟩),i5] (λV45 S46=>oK (qAY 1 x4 i5) λV47=>oK (rd1 S46 V47) λV48=>wC TP X 149 [V48,(.int .i64 11),(.str ⟨#[108,101,97,107,115]⟩),i5] (λV49 S50=>oK (qAG .add t24 (.int .i64 1)) λV51=>∃m',m'<m0/\I0 [V51] S50 m') S46) s
def qHJ(X:Td)(x4 i5 l6 t24 t36 t43:AV)(I0:IvP)(m0:Nat)(K:KvP)(s:Hq):Prop:=
 oK (qAR t36 (.bool true) t43) λV36=>wC TP X 149 [V36,(.int .i64 2),(.str ⟨#[108,101,97,107,115]⟩),i5] (λV37 S38=>oK (qAC 0 l6) λV39=>oK (rd1 S38 V39) λV40=>oK (qAC 1 l6) λV41=>oK (rd1 S38 V41) λV42=>oK (negB false (eqV 0 false V40 V42)) λV43=>qAL V43
 (qHP X x4 i5 t24 V43 .undef I0 m0 K S38)
 (oK (qAC 2 l6) λV52=>oK (rdN S38 2 V52) λV53=>wC TP X 161 [(.agg V53)] (λV54 S55=>oK (qAr .not V54) λV56=>qHP X x4 i5 t24 V43 V56 I0 m0 K S55) S38)) s
def qL3(X:Td)(t2 x4 t22 t23 t24:AV)(I0:IvP)(m0:Nat)(K:KvP)(s:Hq):Prop:=
 oK (qAG .lss t24 t23) λV21=>qAL V21
 (oK (qAY 4 t22 t24) λV22=>oK (rdN s 4 V22) λV23=>newK 118 [(.int .i64 0),(.int .i64 0),(.int .u32 0),(.int .i64 0)] (λB24 S25=>oK (qAw S25 4 (.ptr B24 0) (.agg V23)) λS26=>oK (qAC 0 (.ptr B24 0)) λV27=>oK (rd1 S26 V27) λV28=>oK (qAC 3 t2) λV29=>oK (rd1 S26 V29) λV30=>oK (qAQ V30) λV31=>wC TP X 153 [V28,(.int .i64 V31)] (λV33 S34=>oK (qAr .not V33) λV35=>qAL V35
 (qHJ X x4 t24 (.ptr B24 0) t24 V35 .undef I0 m0 K S34)
 (oK (qAC 1 (.ptr B24 0)) λV57=>oK (rd1 S34 V57) λV58=>oK (qAC 3 t2) λV59=>oK (rd1 S34 V59) λV60=>oK (qAQ V60) λV61=>wC TP X 153 [V58,(.int .i64 V61)] (λV63 S64=>oK (qAr .not V63) λV65=>qHJ X x4 t24 (.ptr B24 0) t24 V35 V65 I0 m0 K S64) S34)) S26) s)
 (K (.tup []) s)
def qWu(X:Td)(c0:AV)(K:KvP)(s:Hq):Prop:=
 oK (qAH c0) λV0=>oK (qAC 0 V0) λV1=>oK (rdN s 19 V1) λV2=>newK 31 zR1 (λB3 S4=>oK (qAw S4 19 (.ptr B3 0) (.agg V2)) λS5=>oK (qAC 7 (.ptr B3 0)) λV6=>oK (rd1 S5 V6) λV7=>oK (qAQ V7) λV8=>oK (qAG .gtr (.int .i64 V8) (.int .i64 256)) λV10=>wC TP X 149 [V10,(.int .i64 7),(.str ⟨#[108,101,97,107,115]⟩),(.int .i64 256)] (λV11 S12=>oK (qAC 7 (.ptr B3 0)) λV13=>oK (rd1 S12 V13) λV14=>wC TP X 173 [V14,(.fn (.func 174) [] [])] (λV15 S16=>oK (qAC 7 (.ptr B3 0)) λV17=>oK (rd1 S16 V17) λV18=>oK (qAQ V18) λV19=>∃I0:IvP,(∃m,I0 [(.int .i64 0)] S16 m)/\∀(f:Env) (s:Hq) (m0:Nat),I0 [f 24] s m0->
 qL3 X (.ptr B3 0) V15 V18 (.int .i64 V19) (f 24) I0 m0 K s) S12) S5) s
def qPt:Nat->List Nat:=λk=>cond (Nat.beq k 10) [24] ([])
theorem qQw{c0:AV}{K:KvP}{s:Hq}(h:qWu XX c0 K s):wC TP XX 126 [c0] K s:=wOK qAj qPt rfl Tryz.func126 h
def qNf(X:Td)(t0 t1 t2:AV)(K:KvP)(s:Hq):Prop:=
 oK (negB false (eqV 4 true .nilIface .nilIface)) λV0=>qAL V0
 (K (.tup []) s)
 (oK (qX0 156 (some (.agg [(.int .i64 0),(.str ⟨#[]⟩),(.int .i64 0)])) true .nilIface) λV1=>oK (qAd V1 1) λV2=>oK (qAd V1 0) λV3=>qAL V2
 (newK 156 [(.int .i64 0),(.str ⟨#[]⟩),(.int .i64 0)] (λB4 S5=>oK (qAw S5 3 (.ptr B4 0) V3) λS6=>oK (qAC 0 (.ptr B4 0)) λV7=>oK (rd1 S6 V7) λV8=>oK (qAC 1 (.ptr B4 0)) λV9=>oK (rd1 S6 V9) λV10=>oK (qAC 2 (.ptr B4 0)) λV11=>oK (rd1 S6 V11) λV12=>((cutH [((hdel S6 (qAm V9)),S6),((hdel S6 (qAm V11)),S6)] S6) (qAm t0)≠none)/\
 oK (wr1 S6 t0 V8) λS13=>((cutH [((hdel S6 (qAm V11)),S6)] S13) (qAm t1)≠none)/\
 oK (wr1 S13 t1 V10) λS14=>oK (wr1 S14 t2 V12) λS15=>K (.tup []) S15) s)
 (oK (wr1 s t0 (.int .i64 3)) λS16=>oK (wr1 S16 t1 (.str ⟨#[102,97,98,114,105,99]⟩)) λS17=>oK (wr1 S17 t2 (.int .i64 0)) λS18=>K (.tup []) S18))
theorem qNA{t0 t1 t2:AV}{K:KvP}{s:Hq}(h:qNf XX t0 t1 t2 K s):qXj TP XX 97 [t0,t1,t2] (λs=>K (.tup []) s) s:=
 qTf qAj nA0 Tryz.func97 (by kernel_rfl:Tryz.f97.body=some (qRf Tryz.f97)) (by kernel_rfl) (by kernel_rfl) (by kernel_rfl) (Eq.mpr (by kernel_rfl) h)
def qL8(X:Td)(err2 part3 x4 c5 t8 t12 t13 t14:AV)(I0:IvP)(m0:Nat)(K:KvP)(s:Hq):Prop:=
 oK (qAG .lss t14 t13) λV16=>qAL V16
 (oK (qAY 1 t12 t14) λV17=>oK (rd1 s V17) λV18=>funK TP X V18 [c5] (λV19 S20=>oK (qAG .add t14 (.int .i64 1)) λV21=>∃m',m'<m0/\I0 [V21] S20 m') s)
 (oK (wr1 s err2 (.int .i64 0)) λS22=>oK (wr1 S22 part3 (.str ⟨#[]⟩)) λS23=>oK (wr1 S23 x4 (.int .i64 0)) λS24=>runK TP X t8 (λS25=>oK (rd1 S25 err2) λerr2_26=>oK (rd1 S25 part3) λpart3_27=>oK (rd1 S25 x4) λindex4_28=>K (.tup [err2_26,part3_27,index4_28]) S25) S24)
def qRx(X:Td)(t0:AV)(K:KvP)(s:Hq):Prop:=
 boxK 31 t0 (λB0 S1=>newK 132 [(.int .i64 0)] (λB2 S3=>newK 9 [(.str ⟨#[]⟩)] (λB4 S5=>newK 3 [(.int .i64 0)] (λB6 S7=>qUL TP (.fn (.func 97) [] [(.ptr B2 0),(.ptr B4 0),(.ptr B6 0)])/\
 oK (rdN S7 19 B0) λV8=>oK (qAl zR1 [(0,19,(.agg V8))]) λC9=>boxK 159 (.agg C9) (λB10 S11=>wC TP X 98 [] (λV12 S13=>oK (qAQ V12) λV14=>∃I0:IvP,(∃m,I0 [(.int .i64 0)] S13 m)/\∀(f:Env) (s:Hq) (m0:Nat),I0 [f 14] s m0->
 qL8 X (.ptr B2 0) (.ptr B4 0) (.ptr B6 0) B10 (.fn (.func 97) [] [(.ptr B2 0),(.ptr B4 0),(.ptr B6 0)]) V12 (.int .i64 V14) (f 14) I0 m0 K s) S11) S7) S5) S3) S1) s
def qP0:Nat->List Nat:=λk=>cond (Nat.beq k 8) [14] ([])
theorem qQY{X:Td}(hX:FrX X)(hn:X 70=none){t0:AV}{K:KvP}{s:Hq}(h:qRx X t0 K s):wC TP X 70 [t0] K s:=
 qPF hX qP0 hn Tryz.func70 (by kernel_rfl:Tryz.f70.body=some (qRf Tryz.f70)) (by kernel_rfl) (Eq.mpr (by kernel_rfl) h)
theorem qQo{t0:AV}{K:KvP}{s:Hq}(h:qRx XX t0 K s):wC TP XX 70 [t0] K s:=qQY qAj rfl h
end Go.AM
