/- Part V of a calculus over a small memory that is proved to answer as the program does, and of its use for the functions that the law reaches: see the last part. -/
import Derived.Test.YtgehkpnggfnapaaGreatDoorU2
import Derived.Test.YtgehkpnggfnapaaGreatDoorProg
import Derived.KernelRfl
set_option linter.unusedVariables false
namespace Go.AM
open Go Go.Proofs
abbrev zR0:List AV:=[(.int .i64 0),(.int .u64 0),(.int .u8 0),(.int .u8 0),(.int .u8 0),(.int .u8 0),(.int .u8 0),(.int .u8 0),(.int .u8 0),(.int .u8 0),(.int .u8 0),(.int .u8 0),(.int .u32 0),(.int .u64 0),(.int .u32 0),(.bool false),(.int .u32 0),(.int .i64 0),(.int .u32 0),(.int .u32 0),(.int .u32 0),(.int .i64 0),.nilslc,(.int .u32 0),(.bool false),(.int .u32 0),(.bool false),(.int .u32 0),(.bool false),(.int .u32 0),.nilslc,.nilslc,(.int .i64 0),(.int .u32 0),(.int .u32 0),(.int .u32 0),(.int .u32 0),(.bool false)]
abbrev zR1:List AV:=[(.int .i64 0),(.int .i64 0),.nilslc,.nilslc,.nilslc,.nilslc,.nilslc,.nilslc,(.int .i64 0),(.int .i64 0),(.int .i64 0),(.bool false),(.bool false),(.int .i64 0),(.int .i64 0),(.int .i64 0),(.int .i64 0),(.int .i64 0),(.int .i64 0)]
abbrev IvP:=List AV→Hq→Nat→Prop
abbrev KvP:=AV→Hq→Prop
set_option maxRecDepth 100000
abbrev kindsL:List AV:=[.int .i64 1,.int .u8 0,.int .u8 2,.int .i64 2,.int .u8 3,.int .u8 12,.int .i64 3,.int .u8 6,.int .u8 0,.int .i64 4,.int .u8 6,.int .u8 1,.int .i64 5,.int .u8 6,.int .u8 2,.int .i64 6,.int .u8 6,.int .u8 3,.int .i64 7,.int .u8 6,.int .u8 6]
abbrev XX:Td:=qHo 0 kindsL [17,3]
theorem qAy:FrX XX:=qQP _ _ _
structure Fn0 (Y:Td):Prop where
 fr:FrX Y
 no:∀ k,memN k [17,3]=false→Y k=none
theorem XX_0:Fn0 XX:=⟨qAy,λk h=>by
 show cond (memN k [17,3]) _ _=_
 rw [h];rfl⟩
def qC0 (X:Td)(t2 t4:AV) (K:KvP) (s:Hq):Prop:=
 oK (rdN s 19 t4) λV132=>oK (qAn s 19 t2 (.agg V132)) λS133=>oK (rdN S133 19 t2) λt2_134=>K (.agg t2_134) S133
def qJ1 (X:Td)(t2 t3 t4 many6 n10 i11:AV) (I5:IvP) (m5:Nat) (K:KvP) (s:Hq):Prop:=
 oK (qAB .lss i11 many6) λV137=>qAL V137
 (oK (qAI 7 t4) λV138=>oK (rd1 s V138) λV139=>∃ h_140:Hq,(∀ b,h_140 b≠none→s b≠none)∧wC Tryz.prog X 57 [t3,n10] (λV141 S142=>(∀ b,s b≠none→(cutH [((hdel s (qCX V138)),s)] (minus s h_140)) b=none→S142 b=none)→
 wC Tryz.prog X 56 [V139,V141] (λV143 S144=>oK (qAI 7 t4) λV145=>oK (wr1 S144 V145 V143) λS146=>oK (qAB .add i11 (.int .i64 1)) λV147=>∃ m',m' < m5∧I5 [V147] S146 m') (add S142 (rest s (cutH [((hdel s (qCX V138)),s)] (minus s h_140))))) (cutH [((hdel s (qCX V138)),s)] (minus s h_140)))
 (qC0 X t2 t4 K s)
def qJy (X:Td)(t2 t3 t4 many6 i9:AV) (I3:IvP) (m3:Nat) (K:KvP) (s:Hq):Prop:=
 oK (qAB .lss i9 many6) λV112=>qAL V112
 (oK (qAI 6 t4) λV113=>oK (rd1 s V113) λV114=>oK (rdN s 19 t4) λV115=>∃ h_116:Hq,(∀ b,h_116 b≠none→s b≠none)∧wC Tryz.prog X 55 [t3,(.agg V115),i9] (λV117 S118=>(∀ b,s b≠none→(cutH [((hdel s (qCX V113)),s)] (minus s h_116)) b=none→S118 b=none)→
 oK (qBO (repl 1 [(.int .u64 0),(.int .u32 0),(.int .i64 0),(.int .i64 0)]) [(0,4,V117)]) λC119=>qAY C119=true∧newK 136 C119 (λB120 S121=>(∀ b,(add S118 (rest s (cutH [((hdel s (qCX V113)),s)] (minus s h_116)))) b≠none→(add S118 (rest s (cutH [((hdel s (qCX V113)),s)] (minus s h_116)))) b=none→S121 b=none)→
 appK 136 4 V114 (.slc B120 0 1 (some 1) 4) (λV122 S123=>oK (qAI 6 t4) λV124=>oK (wr1 S123 V124 V122) λS125=>oK (qAB .add i9 (.int .i64 1)) λV126=>∃ m',m' < m3∧I3 [V126] S125 m') (add (add S118 (rest s (cutH [((hdel s (qCX V113)),s)] (minus s h_116)))) S121)) (frz (add S118 (rest s (cutH [((hdel s (qCX V113)),s)] (minus s h_116)))))) (cutH [((hdel s (qCX V113)),s)] (minus s h_116)))
 (oK (qAI 3 t4) λV127=>oK (rd1 s V127) λV128=>oK (qAS V128) λV129=>oK (qAB .gtr (.int .i64 V129) (.int .i64 1)) λV131=>qAL V131
 (wC Tryz.prog X 51 [t3,(.int .i64 3)] (λV135 S136=>∃ I5:IvP,(∃ m,I5 [(.int .i64 0)] S136 m)∧∀ (f:Env) (s:Hq) (m5:Nat),I5 [f 11] s m5→
 qJ1 X t2 t3 t4 V135 (.int .i64 V129) (f 11) I5 m5 K s) s)
 (qC0 X t2 t4 K s))
def qKD (X:Td)(t2 t3 t4 many6 i8:AV) (I2:IvP) (m2:Nat) (K:KvP) (s:Hq):Prop:=
 oK (qAB .lss i8 many6) λV86=>qAL V86
 (oK (qAI 5 t4) λV87=>oK (rd1 s V87) λV88=>oK (qAI 0 t4) λV89=>oK (rd1 s V89) λV90=>∃ h_91:Hq,(∀ b,h_91 b≠none→s b≠none)∧wC Tryz.prog X 54 [t3,V90,(.int .i64 3)] (λV92 S93=>(∀ b,s b≠none→(cutH [((hdel s (qCX V87)),s)] (minus s h_91)) b=none→S93 b=none)→
 oK (qAI 4 t4) λV94=>oK (rd1 (cutH [(h_91,qPp)] (add S93 (rest s (cutH [((hdel s (qCX V87)),s)] (minus s h_91))))) V94) λV95=>oK (qAS V95) λV96=>∃ h_98:Hq,(∀ b,h_98 b≠none→(add S93 (rest s (cutH [((hdel s (qCX V87)),s)] (minus s h_91)))) b≠none)∧wC Tryz.prog X 54 [t3,(.int .i64 V96),(.int .i64 4)] (λV99 S100=>(∀ b,(add S93 (rest s (cutH [((hdel s (qCX V87)),s)] (minus s h_91)))) b≠none→(cutH [((hdel s (qCX V87)),s)] (minus (add S93 (rest s (cutH [((hdel s (qCX V87)),s)] (minus s h_91)))) h_98)) b=none→S100 b=none)→
 oK (qBO [.nilslc,.nilslc] [(0,1,V92),(1,1,V99)]) λC101=>oK (qBO (repl 1 [.nilslc,.nilslc]) [(0,2,(.agg C101))]) λC102=>qAY C102=true∧newK 93 C102 (λB103 S104=>(∀ b,(add S100 (rest (add S93 (rest s (cutH [((hdel s (qCX V87)),s)] (minus s h_91)))) (cutH [((hdel s (qCX V87)),s)] (minus (add S93 (rest s (cutH [((hdel s (qCX V87)),s)] (minus s h_91)))) h_98)))) b≠none→(add S100 (rest (add S93 (rest s (cutH [((hdel s (qCX V87)),s)] (minus s h_91)))) (cutH [((hdel s (qCX V87)),s)] (minus (add S93 (rest s (cutH [((hdel s (qCX V87)),s)] (minus s h_91)))) h_98)))) b=none→S104 b=none)→
 appK 93 2 V88 (.slc B103 0 1 (some 1) 2) (λV105 S106=>oK (qAI 5 t4) λV107=>oK (wr1 S106 V107 V105) λS108=>oK (qAB .add i8 (.int .i64 1)) λV109=>∃ m',m' < m2∧I2 [V109] S108 m') (add (add S100 (rest (add S93 (rest s (cutH [((hdel s (qCX V87)),s)] (minus s h_91)))) (cutH [((hdel s (qCX V87)),s)] (minus (add S93 (rest s (cutH [((hdel s (qCX V87)),s)] (minus s h_91)))) h_98)))) S104)) (frz (add S100 (rest (add S93 (rest s (cutH [((hdel s (qCX V87)),s)] (minus s h_91)))) (cutH [((hdel s (qCX V87)),s)] (minus (add S93 (rest s (cutH [((hdel s (qCX V87)),s)] (minus s h_91)))) h_98)))))) (cutH [((hdel s (qCX V87)),s)] (minus (add S93 (rest s (cutH [((hdel s (qCX V87)),s)] (minus s h_91)))) h_98))) (cutH [((hdel s (qCX V87)),s)] (minus s h_91)))
 (wC Tryz.prog X 51 [t3,(.int .i64 9)] (λV110 S111=>∃ I3:IvP,(∃ m,I3 [(.int .i64 0)] S111 m)∧∀ (f:Env) (s:Hq) (m3:Nat),I3 [f 9] s m3→
 qJy X t2 t3 t4 V110 (f 9) I3 m3 K s) s)
def qJr (X:Td)(t2 t3 t4 many6 i7:AV) (I1:IvP) (m1:Nat) (K:KvP) (s:Hq):Prop:=
 oK (qAB .lss i7 many6) λV65=>qAL V65
 (oK (qAI 4 t4) λV66=>oK (rd1 s V66) λV67=>oK (qAI 3 t4) λV68=>oK (rd1 s V68) λV69=>oK (qAS V69) λV70=>∃ h_72:Hq,(∀ b,h_72 b≠none→s b≠none)∧wC Tryz.prog X 53 [t3,i7,(.int .i64 V70)] (λV73 S74=>(∀ b,s b≠none→(cutH [((hdel s (qCX V66)),s)] (minus s h_72)) b=none→S74 b=none)→
 oK (qBO (repl 1 [(.int .i64 0),(.int .u32 0),(.int .u32 0),(.int .u32 0),(.int .i64 0),(.int .u32 0)]) [(0,6,V73)]) λC75=>qAY C75=true∧newK 114 C75 (λB76 S77=>(∀ b,(add S74 (rest s (cutH [((hdel s (qCX V66)),s)] (minus s h_72)))) b≠none→(add S74 (rest s (cutH [((hdel s (qCX V66)),s)] (minus s h_72)))) b=none→S77 b=none)→
 appK 114 6 V67 (.slc B76 0 1 (some 1) 6) (λV78 S79=>oK (qAI 4 t4) λV80=>oK (wr1 S79 V80 V78) λS81=>oK (qAB .add i7 (.int .i64 1)) λV82=>∃ m',m' < m1∧I1 [V82] S81 m') (add (add S74 (rest s (cutH [((hdel s (qCX V66)),s)] (minus s h_72)))) S77)) (frz (add S74 (rest s (cutH [((hdel s (qCX V66)),s)] (minus s h_72)))))) (cutH [((hdel s (qCX V66)),s)] (minus s h_72)))
 (wC Tryz.prog X 51 [t3,(.int .i64 5)] (λV83 S84=>oK (qAB .add (.int .i64 2) V83) λV85=>∃ I2:IvP,(∃ m,I2 [(.int .i64 0)] S84 m)∧∀ (f:Env) (s:Hq) (m2:Nat),I2 [f 8] s m2→
 qKD X t2 t3 t4 V85 (f 8) I2 m2 K s) s)
def qJq (X:Td)(t2 t3 t4 i5:AV) (I0:IvP) (m0:Nat) (K:KvP) (s:Hq):Prop:=
 wC Tryz.prog X 51 [t3,(.int .i64 3)] (λV44 S45=>oK (qAB .leq i5 V44) λV46=>qAL V46
 (oK (qAI 3 t4) λV47=>oK (rd1 S45 V47) λV48=>oK (qAB .add (.int .i64 100) i5) λV49=>oK (qBf .u32 V49) λV50=>oK (qAB .add (.int .i64 900) i5) λV51=>oK (qBf .u32 V51) λV52=>oK (qBO [(.int .u32 0),(.int .u32 0)] [(0,1,V50),(1,1,V52)]) λC53=>oK (qBO (repl 1 [(.int .u32 0),(.int .u32 0)]) [(0,2,(.agg C53))]) λC54=>qAY C54=true∧newK 112 C54 (λB55 S56=>appK 112 2 V48 (.slc B55 0 1 (some 1) 2) (λV57 S58=>oK (qAI 3 t4) λV59=>oK (wr1 S58 V59 V57) λS60=>oK (qAB .add i5 (.int .i64 1)) λV61=>∃ m',m' < m0∧I0 [V61] S60 m') S56) S45)
 (wC Tryz.prog X 51 [t3,(.int .i64 4)] (λV62 S63=>oK (qAB .add (.int .i64 1) V62) λV64=>∃ I1:IvP,(∃ m,I1 [(.int .i64 0)] S63 m)∧∀ (f:Env) (s:Hq) (m1:Nat),I1 [f 7] s m1→
 qJr X t2 t3 t4 V64 (f 7) I1 m1 K s) S45)) s
def qSD (X:Td)(l0:AV) (K:KvP) (s:Hq):Prop:=
 newK 68 zR1 (λB0 S1=>oK (qBO [.nilslc,(.int .i64 0)] [(0,1,l0)]) λC2=>boxK 130 (.agg C2) (λB3 S4=>wC Tryz.prog X 51 [B3,(.int .i64 3)] (λV5 S6=>oK (qAB .add (.int .i64 2) V5) λV7=>wC Tryz.prog X 51 [B3,(.int .i64 3)] (λV8 S9=>oK (qAB .add (.int .i64 1) V8) λV10=>wC Tryz.prog X 51 [B3,(.int .i64 3)] (λV11 S12=>wC Tryz.prog X 51 [B3,(.int .i64 2)] (λV13 S14=>wC Tryz.prog X 51 [B3,(.int .i64 2)] (λV15 S16=>wC Tryz.prog X 51 [B3,(.int .i64 2)] (λV17 S18=>oK (negB false (eqV 0 true V17 (.int .i64 0))) λV19=>wC Tryz.prog X 51 [B3,(.int .i64 3)] (λV20 S21=>oK (negB false (eqV 0 true V20 (.int .i64 1))) λV22=>oK (qBO zR1 [(0,1,V7),(1,1,V10),(8,1,V11),(9,1,V13),(10,1,V15),(11,1,V19),(12,1,V22)]) λC23=>newK 68 zR1 (λB24 S25=>oK (qAn S25 19 (.ptr B24 0) (.agg C23)) λS26=>wC Tryz.prog X 51 [B3,(.int .i64 3)] (λV27 S28=>oK (qAB .add (.int .i64 1) V27) λV29=>wC Tryz.prog X 51 [B3,(.int .i64 30)] (λV30 S31=>oK (qAB .add (.int .i64 40) V30) λV32=>oK (qBO [(.int .i64 0),(.int .i64 0),(.int .i64 0),(.int .i64 0),(.int .i64 0),(.int .i64 0)] [(0,1,V29),(1,1,(.int .i64 9)),(2,1,V32),(3,1,(.int .i64 20)),(4,1,(.int .i64 5)),(5,1,(.int .i64 30))]) λC33=>oK (qAI 13 (.ptr B24 0)) λV34=>oK (qAn S31 6 V34 (.agg C33)) λS35=>oK (qAI 0 (.ptr B24 0)) λV36=>oK (rd1 S35 V36) λV37=>oK (qAI 1 (.ptr B24 0)) λV38=>oK (rd1 S35 V38) λV39=>wC Tryz.prog X 52 [B3,V37,V39] (λV40 S41=>oK (qAI 2 (.ptr B24 0)) λV42=>oK (wr1 S41 V42 V40) λS43=>∃ I0:IvP,(∃ m,I0 [(.int .i64 0)] S43 m)∧∀ (f:Env) (s:Hq) (m0:Nat),I0 [f 5] s m0→
 qJq X (.ptr B0 0) B3 (.ptr B24 0) (f 5) I0 m0 K s) S35) S28) S26) S21) S18) S16) S14) S12) S9) S6) S4) S1) s
def qQf:Nat→List Nat:=λk=>cond (Nat.beq k 12) [5] (cond (Nat.beq k 22) [7] (cond (Nat.beq k 1000075) [7] (cond (Nat.beq k 32) [8] (cond (Nat.beq k 1000094) [5,10] (cond (Nat.beq k 42) [9] (cond (Nat.beq k 1000116) [5] (cond (Nat.beq k 56) [11] (cond (Nat.beq k 1000137) [4] ([])))))))))
theorem qSE {X:Td} (hX:FrX X) (hn:X 26=none) {l0:AV} {K:KvP} {s:Hq} (h:qSD X l0 K s):wC Tryz.prog X 26 [l0] K s:=
 qAE hX qQf hn Tryz.func26 (by kernel_rfl:Tryz.f26.body=some (qAU Tryz.f26)) (by kernel_rfl) (Eq.mpr (by kernel_rfl) h)
theorem qTG {l0:AV} {K:KvP} {s:Hq} (h:qSD XX l0 K s):wC Tryz.prog XX 26 [l0] K s:=qSE qAy rfl h
def qIo (X:Td)(t0 n1:AV) (K:KvP) (s:Hq):Prop:=
 oK (qAl t0) λV0=>oK (qAI 1 V0) λV1=>oK (rd1 s V1) λV2=>oK (qAl t0) λV3=>oK (qAI 0 V3) λV4=>oK (rd1 s V4) λV5=>oK (qAS V5) λV6=>oK (qAB .geq V2 (.int .i64 V6)) λV8=>qAL V8
 (K (.int .i64 0) s)
 (oK (qAl t0) λV9=>oK (qAI 1 V9) λV10=>oK (rd1 s V10) λV11=>oK (qAB .add V11 (.int .i64 1)) λV12=>oK (qAl t0) λV13=>oK (qAI 1 V13) λV14=>oK (wr1 s V14 V12) λS15=>oK (qAl t0) λV16=>oK (qAI 0 V16) λV17=>oK (rd1 S15 V17) λV18=>oK (qAl t0) λV19=>oK (qAI 1 V19) λV20=>oK (rd1 S15 V20) λV21=>oK (qAB .sub V21 (.int .i64 1)) λV22=>oK (qAH 1 V18 V22) λV23=>oK (rd1 S15 V23) λV24=>wC Tryz.prog X 84 [V24,n1] (λV25 S26=>K V25 S26) S15)
def qMk:Nat→List Nat:=λ_=>[]
theorem qNi {X:Td} (hX:FrX X) (hn:X 51=none) {t0 n1:AV} {K:KvP} {s:Hq} (h:qIo X t0 n1 K s):wC Tryz.prog X 51 [t0,n1] K s:=
 qAE hX qMk hn Tryz.func51 (by kernel_rfl:Tryz.f51.body=some (qAU Tryz.f51)) (by kernel_rfl) (Eq.mpr (by kernel_rfl) h)
theorem qNc {t0 n1:AV} {K:KvP} {s:Hq} (h:qIo XX t0 n1 K s):wC Tryz.prog XX 51 [t0,n1] K s:=qNi qAy rfl h
def qIQ (X:Td)(out7 b9:AV) (I1:IvP) (m1:Nat) (I0:IvP) (m0:Nat) (K:KvP) (s:Hq):Prop:=
 oK (qAB .add b9 (.int .i64 1)) λV5=>∃ m',m' < m1∧I1 [out7,V5] s m'
def qO4 (X:Td)(t0 leaves1 spines2 out7 a8 b9:AV) (I1:IvP) (m1:Nat) (I0:IvP) (m0:Nat) (K:KvP) (s:Hq):Prop:=
 oK (qAB .lss b9 spines2) λV1=>qAL V1
 (wC Tryz.prog X 51 [t0,(.int .i64 8)] (λV2 S3=>oK (negB true (eqV 0 true V2 (.int .i64 7))) λV4=>qAL V4
 (oK (qAB .add leaves1 b9) λV6=>wC Tryz.prog X 51 [t0,(.int .i64 2)] (λV7 S8=>oK (qAB .add (.int .i64 1) V7) λV9=>oK (qBO [(.int .i64 0),(.int .i64 0),(.int .i64 0)] [(0,1,a8),(1,1,V6),(2,1,V9)]) λC10=>oK (qBO (repl 1 [(.int .i64 0),(.int .i64 0),(.int .i64 0)]) [(0,3,(.agg C10))]) λC11=>qAY C11=true∧newK 110 C11 (λB12 S13=>appK 110 3 out7 (.slc B12 0 1 (some 1) 3) (λV14 S15=>qIQ X V14 b9 I1 m1 I0 m0 K S15) S13) S8) S3)
 (qIQ X out7 b9 I1 m1 I0 m0 K S3)) s)
 (oK (qAB .add a8 (.int .i64 1)) λV16=>∃ m',m' < m0∧I0 [out7,V16] s m')
def qOK (X:Td)(t0 leaves1 spines2 out7 a8:AV) (I0:IvP) (m0:Nat) (K:KvP) (s:Hq):Prop:=
 oK (qAB .lss a8 leaves1) λV0=>qAL V0
 (∃ I1:IvP,(∃ m,I1 [out7,(.int .i64 0)] s m)∧∀ (f:Env) (s:Hq) (m1:Nat),I1 [f 7,f 9] s m1→
 qO4 X t0 leaves1 spines2 (f 7) a8 (f 9) I1 m1 I0 m0 K s)
 (K out7 s)
def qVX (X:Td)(t0 leaves1 spines2:AV) (K:KvP) (s:Hq):Prop:=
 ∃ I0:IvP,(∃ m,I0 [.nilslc,(.int .i64 0)] s m)∧∀ (f:Env) (s:Hq) (m0:Nat),I0 [f 7,f 8] s m0→
 qOK X t0 leaves1 spines2 (f 7) (f 8) I0 m0 K s
def qSp:Nat→List Nat:=λk=>cond (Nat.beq k 6) [7,8] (cond (Nat.beq k 12) [7,9] ([]))
theorem qTs {X:Td} (hX:FrX X) (hn:X 52=none) {t0 leaves1 spines2:AV} {K:KvP} {s:Hq} (h:qVX X t0 leaves1 spines2 K s):wC Tryz.prog X 52 [t0,leaves1,spines2] K s:=
 qAE hX qSp hn Tryz.func52 (by kernel_rfl:Tryz.f52.body=some (qAU Tryz.f52)) (by kernel_rfl) (Eq.mpr (by kernel_rfl) h)
theorem qUO {t0 leaves1 spines2:AV} {K:KvP} {s:Hq} (h:qVX XX t0 leaves1 spines2 K s):wC Tryz.prog XX 52 [t0,leaves1,spines2] K s:=qTs qAy rfl h
def qHh (X:Td)(t6 b7:AV) (K:KvP) (s:Hq):Prop:=
 oK (rdN s 6 b7) λV15=>oK (qAn s 6 t6 (.agg V15)) λS16=>oK (rdN S16 6 t6) λt6_17=>K (.agg t6_17) S16
def qTA (X:Td)(t0 i1 tenants2:AV) (K:KvP) (s:Hq):Prop:=
 newK 114 [(.int .i64 0),(.int .u32 0),(.int .u32 0),(.int .u32 0),(.int .i64 0),(.int .u32 0)] (λB0 S1=>wC Tryz.prog X 51 [t0,tenants2] (λV2 S3=>oK (qAB .add (.int .i64 10) i1) λV4=>oK (qBf .u32 V4) λV5=>oK (qAB .add (.int .i64 500) i1) λV6=>oK (qBf .u32 V6) λV7=>oK (qBO [(.int .i64 0),(.int .u32 0),(.int .u32 0),(.int .u32 0),(.int .i64 0),(.int .u32 0)] [(0,1,V2),(1,1,V5),(2,1,V7)]) λC8=>newK 114 [(.int .i64 0),(.int .u32 0),(.int .u32 0),(.int .u32 0),(.int .i64 0),(.int .u32 0)] (λB9 S10=>oK (qAn S10 6 (.ptr B9 0) (.agg C8)) λS11=>wC Tryz.prog X 51 [t0,(.int .i64 4)] (λV12 S13=>oK (negB true (eqV 0 true V12 (.int .i64 3))) λV14=>qAL V14
 (oK (qBk .shl i1 (.int .u64 16)) λV18=>oK (qAB .add (.int .i64 167772160) V18) λV19=>oK (qBf .u32 V19) λV20=>oK (qBO [(.int .u32 0),(.int .i64 0)] [(0,1,V20),(1,1,(.int .i64 24))]) λC21=>oK (qAI 3 (.ptr B9 0)) λV22=>oK (qAn S13 2 V22 (.agg C21)) λS23=>oK (qAI 3 (.ptr B9 0)) λV24=>oK (qAI 0 V24) λV25=>oK (rd1 S23 V25) λV26=>oK (qAB .add V26 (.int .u32 1)) λV27=>oK (qAI 5 (.ptr B9 0)) λV28=>oK (wr1 S23 V28 V27) λS29=>qHh X (.ptr B0 0) (.ptr B9 0) K S29)
 (qHh X (.ptr B0 0) (.ptr B9 0) K S13)) S11) S3) S1) s
def qRQ:Nat→List Nat:=λ_=>[]
theorem qSf {X:Td} (hX:FrX X) (hn:X 53=none) {t0 i1 tenants2:AV} {K:KvP} {s:Hq} (h:qTA X t0 i1 tenants2 K s):wC Tryz.prog X 53 [t0,i1,tenants2] K s:=
 qAE hX qRQ hn Tryz.func53 (by kernel_rfl:Tryz.f53.body=some (qAU Tryz.f53)) (by kernel_rfl) (Eq.mpr (by kernel_rfl) h)
theorem qRy {t0 i1 tenants2:AV} {K:KvP} {s:Hq} (h:qTA XX t0 i1 tenants2 K s):wC Tryz.prog XX 53 [t0,i1,tenants2] K s:=qSf qAy rfl h
def qKV (X:Td)(out7 i9:AV) (I0:IvP) (m0:Nat) (K:KvP) (s:Hq):Prop:=
 oK (qAB .add i9 (.int .i64 1)) λV6=>∃ m',m' < m0∧I0 [out7,V6] s m'
def qGk (X:Td)(out7 i9 t27 t30:AV) (I0:IvP) (m0:Nat) (K:KvP) (s:Hq):Prop:=
 oK (qAc t27 (.bool true) t30) λV5=>qAL V5
 (oK (qBO (repl 1 [(.int .i64 0)]) [(0,1,i9)]) λC7=>qAY C7=true∧newK 3 C7 (λB8 S9=>appK 3 1 out7 (.slc B8 0 1 (some 1) 1) (λV10 S11=>qKV X V10 i9 I0 m0 K S11) S9) s)
 (qKV X out7 i9 I0 m0 K s)
def qKG (X:Td)(out7:AV) (K:KvP) (s:Hq):Prop:=
 K out7 s
def qFd (X:Td)(t0 out7 first8 i9 t16 t20:AV) (I0:IvP) (m0:Nat) (K:KvP) (s:Hq):Prop:=
 oK (qAc t16 t20 (.bool false)) λV3=>qAL V3
 (oK (negB false (eqV 0 false i9 first8)) λV4=>qAL V4
 (qGk X out7 i9 V4 .undef I0 m0 K s)
 (wC Tryz.prog X 51 [t0,(.int .i64 3)] (λV12 S13=>oK (negB false (eqV 0 true V12 (.int .i64 1))) λV14=>qGk X out7 i9 V4 V14 I0 m0 K S13) s))
 (oK (qAS out7) λV15=>oK (negB false (eqV 0 true (.int .i64 V15) (.int .i64 0))) λV17=>qAL V17
 (oK (qBO (repl 1 [(.int .i64 0)]) [(0,1,first8)]) λC18=>qAY C18=true∧newK 3 C18 (λB19 S20=>qKG X (.slc B19 0 1 (some 1) 1) K S20) s)
 (qKG X out7 K s))
def qP2 (X:Td)(t0 n1 most2 out7 first8 i9:AV) (I0:IvP) (m0:Nat) (K:KvP) (s:Hq):Prop:=
 oK (qAB .lss i9 n1) λV2=>qAL V2
 (oK (qAS out7) λV21=>oK (qAB .lss (.int .i64 V21) most2) λV23=>qFd X t0 out7 first8 i9 V2 V23 I0 m0 K s)
 (qFd X t0 out7 first8 i9 V2 .undef I0 m0 K s)
def qZB (X:Td)(t0 n1 most2:AV) (K:KvP) (s:Hq):Prop:=
 wC Tryz.prog X 51 [t0,n1] (λV0 S1=>∃ I0:IvP,(∃ m,I0 [.nilslc,(.int .i64 0)] S1 m)∧∀ (f:Env) (s:Hq) (m0:Nat),I0 [f 7,f 9] s m0→
 qP2 X t0 n1 most2 (f 7) V0 (f 9) I0 m0 K s) s
def qTl:Nat→List Nat:=λk=>cond (Nat.beq k 8) [7,9] ([])
theorem qWq {X:Td} (hX:FrX X) (hn:X 54=none) {t0 n1 most2:AV} {K:KvP} {s:Hq} (h:qZB X t0 n1 most2 K s):wC Tryz.prog X 54 [t0,n1,most2] K s:=
 qAE hX qTl hn Tryz.func54 (by kernel_rfl:Tryz.f54.body=some (qAU Tryz.f54)) (by kernel_rfl) (Eq.mpr (by kernel_rfl) h)
theorem qWH {t0 n1 most2:AV} {K:KvP} {s:Hq} (h:qZB XX t0 n1 most2 K s):wC Tryz.prog XX 54 [t0,n1,most2] K s:=qWq qAy rfl h
def qKK (X:Td)(t6 h9:AV) (K:KvP) (s:Hq):Prop:=
 oK (rdN s 4 h9) λV39=>oK (qAn s 4 t6 (.agg V39)) λS40=>oK (rdN S40 4 t6) λt6_41=>K (.agg t6_41) S40
def qKR (X:Td)(t0 t6 h9:AV) (K:KvP) (s:Hq):Prop:=
 wC Tryz.prog X 51 [t0,(.int .i64 10)] (λV36 S37=>oK (negB false (eqV 0 true V36 (.int .i64 9))) λV38=>qAL V38
 (oK (qAI 3 h9) λV42=>oK (wr1 S37 V42 (.int .i64 (-1))) λS43=>qKK X t6 h9 K S43)
 (qKK X t6 h9 K S37)) s
def qKH (X:Td)(t0 i2 t4 t6 h9 t41 t44:AV) (K:KvP) (s:Hq):Prop:=
 oK (qAc t41 t44 (.bool false)) λV35=>qAL V35
 (oK (qAI 4 t4) λV44=>oK (rd1 s V44) λV45=>oK (qAI 2 h9) λV46=>oK (rd1 s V46) λV47=>oK (qAH 6 V45 V47) λV48=>oK (qAI 3 V48) λV49=>oK (qAI 0 V49) λV50=>oK (rd1 s V50) λV51=>oK (qAB .add (.int .i64 10) i2) λV52=>oK (qBf .u32 V52) λV53=>oK (qAB .add V51 V53) λV54=>oK (qAI 1 h9) λV55=>oK (wr1 s V55 V54) λS56=>qKR X t0 t6 h9 K S56)
 (qKR X t0 t6 h9 K s)
def qYO (X:Td)(t0 t1 i2:AV) (K:KvP) (s:Hq):Prop:=
 boxK 68 t1 (λB0 S1=>newK 136 [(.int .u64 0),(.int .u32 0),(.int .i64 0),(.int .i64 0)] (λB2 S3=>oK (qAI 5 B0) λV4=>oK (rd1 S3 V4) λV5=>oK (qAS V5) λV6=>wC Tryz.prog X 51 [t0,(.int .i64 V6)] (λV8 S9=>oK (qAI 5 B0) λV10=>oK (rd1 S9 V10) λV11=>oK (qAH 2 V11 V8) λV12=>oK (qAI 1 V12) λV13=>oK (rd1 S9 V13) λV14=>oK (qAB .add (.int .i64 2199023951872) i2) λV15=>oK (qBf .u64 V15) λV16=>oK (qAS V14) λV17=>wC Tryz.prog X 51 [t0,(.int .i64 V17)] (λV19 S20=>oK (qAH 1 V14 V19) λV21=>oK (rd1 S20 V21) λV22=>oK (qBO [(.int .u64 0),(.int .u32 0),(.int .i64 0),(.int .i64 0)] [(0,1,V16),(2,1,V22),(3,1,V8)]) λC23=>newK 136 [(.int .u64 0),(.int .u32 0),(.int .i64 0),(.int .i64 0)] (λB24 S25=>oK (qAn S25 4 (.ptr B24 0) (.agg C23)) λS26=>oK (qAI 4 B0) λV27=>oK (rd1 S26 V27) λV28=>oK (qAI 2 (.ptr B24 0)) λV29=>oK (rd1 S26 V29) λV30=>oK (qAH 6 V28 V30) λV31=>oK (qAI 5 V31) λV32=>oK (rd1 S26 V32) λV33=>oK (negB true (eqV 0 true V33 (.int .u32 0))) λV34=>qAL V34
 (wC Tryz.prog X 51 [t0,(.int .i64 6)] (λV57 S58=>oK (negB true (eqV 0 true V57 (.int .i64 5))) λV59=>qKH X t0 i2 B0 (.ptr B2 0) (.ptr B24 0) V34 V59 K S58) S26)
 (qKH X t0 i2 B0 (.ptr B2 0) (.ptr B24 0) V34 .undef K S26)) S20) S9) S3) S1) s
def qT0:Nat→List Nat:=λ_=>[]
theorem qXJ {X:Td} (hX:FrX X) (hn:X 55=none) {t0 t1 i2:AV} {K:KvP} {s:Hq} (h:qYO X t0 t1 i2 K s):wC Tryz.prog X 55 [t0,t1,i2] K s:=
 qAE hX qT0 hn Tryz.func55 (by kernel_rfl:Tryz.f55.body=some (qAU Tryz.f55)) (by kernel_rfl) (Eq.mpr (by kernel_rfl) h)
theorem qXT {t0 t1 i2:AV} {K:KvP} {s:Hq} (h:qYO XX t0 t1 i2 K s):wC Tryz.prog XX 55 [t0,t1,i2] K s:=qXJ qAy rfl h
def qPL (X:Td)(l0 x3 i5:AV) (I0:IvP) (m0:Nat) (K:KvP) (s:Hq):Prop:=
 oK (qAS l0) λV2=>oK (qAB .lss i5 (.int .i64 V2)) λV4=>qAL V4
 (oK (qAH 4 l0 i5) λV5=>oK (rdN s 4 V5) λV6=>oK (rdN s 4 x3) λV7=>oK (negB false (qGQ Tryz.prog 140 (.agg V6) (.agg V7))) λV8=>qAL V8
 (K l0 s)
 (oK (qAB .add i5 (.int .i64 1)) λV9=>∃ m',m' < m0∧I0 [V9] s m'))
 (oK (rdN s 4 x3) λV10=>oK (qBO (repl 1 [(.int .i64 0),(.int .i64 0),(.int .u32 0),(.int .i64 0)]) [(0,4,(.agg V10))]) λC11=>qAY C11=true∧newK 140 C11 (λB12 S13=>appK 140 4 l0 (.slc B12 0 1 (some 1) 4) (λV14 S15=>K V14 S15) S13) s)
def qVo (X:Td)(l0 x1:AV) (K:KvP) (s:Hq):Prop:=
 boxK 140 x1 (λB0 S1=>∃ I0:IvP,(∃ m,I0 [(.int .i64 0)] S1 m)∧∀ (f:Env) (s:Hq) (m0:Nat),I0 [f 5] s m0→
 qPL X l0 B0 (f 5) I0 m0 K s) s
def qRx:Nat→List Nat:=λk=>cond (Nat.beq k 4) [5] ([])
theorem qTr {X:Td} (hX:FrX X) (hn:X 56=none) {l0 x1:AV} {K:KvP} {s:Hq} (h:qVo X l0 x1 K s):wC Tryz.prog X 56 [l0,x1] K s:=
 qAE hX qRx hn Tryz.func56 (by kernel_rfl:Tryz.f56.body=some (qAU Tryz.f56)) (by kernel_rfl) (Eq.mpr (by kernel_rfl) h)
theorem qUa {l0 x1:AV} {K:KvP} {s:Hq} (h:qVo XX l0 x1 K s):wC Tryz.prog XX 56 [l0,x1] K s:=qTr qAy rfl h
def qKS (X:Td)(t4 x6:AV) (K:KvP) (s:Hq):Prop:=
 oK (rdN s 4 x6) λV17=>oK (qAn s 4 t4 (.agg V17)) λS18=>oK (rdN S18 4 t4) λt4_19=>K (.agg t4_19) S18
def qZn (X:Td)(t0 tenants1:AV) (K:KvP) (s:Hq):Prop:=
 newK 140 [(.int .i64 0),(.int .i64 0),(.int .u32 0),(.int .i64 0)] (λB0 S1=>wC Tryz.prog X 51 [t0,tenants1] (λV2 S3=>oK (qAB .add V2 (.int .i64 1)) λV4=>oK (qAB .sub tenants1 (.int .i64 1)) λV5=>wC Tryz.prog X 51 [t0,V5] (λV6 S7=>oK (qAB .add V4 V6) λV8=>oK (qAB .rem V8 tenants1) λV9=>oK (qBO [(.int .i64 0),(.int .i64 0),(.int .u32 0),(.int .i64 0)] [(0,1,V2),(1,1,V9)]) λC10=>newK 140 [(.int .i64 0),(.int .i64 0),(.int .u32 0),(.int .i64 0)] (λB11 S12=>oK (qAn S12 4 (.ptr B11 0) (.agg C10)) λS13=>wC Tryz.prog X 51 [t0,(.int .i64 2)] (λV14 S15=>oK (negB false (eqV 0 true V14 (.int .i64 0))) λV16=>qAL V16
 (wC Tryz.prog X 51 [t0,(.int .i64 4)] (λV20 S21=>oK (qBk .shl V20 (.int .u64 16)) λV22=>oK (qAB .add (.int .i64 167772160) V22) λV23=>oK (qBf .u32 V23) λV24=>oK (qBO [(.int .u32 0),(.int .i64 0)] [(0,1,V24),(1,1,(.int .i64 16))]) λC25=>oK (qAI 2 (.ptr B11 0)) λV26=>oK (qAn S21 2 V26 (.agg C25)) λS27=>qKS X (.ptr B0 0) (.ptr B11 0) K S27) S15)
 (qKS X (.ptr B0 0) (.ptr B11 0) K S15)) S13) S7) S3) S1) s
def qT4:Nat→List Nat:=λ_=>[]
theorem qW9 {X:Td} (hX:FrX X) (hn:X 57=none) {t0 tenants1:AV} {K:KvP} {s:Hq} (h:qZn X t0 tenants1 K s):wC Tryz.prog X 57 [t0,tenants1] K s:=
 qAE hX qT4 hn Tryz.func57 (by kernel_rfl:Tryz.f57.body=some (qAU Tryz.f57)) (by kernel_rfl) (Eq.mpr (by kernel_rfl) h)
theorem qW6 {t0 tenants1:AV} {K:KvP} {s:Hq} (h:qZn XX t0 tenants1 K s):wC Tryz.prog XX 57 [t0,tenants1] K s:=qW9 qAy rfl h
def qZd (X:Td)(x0 n1:AV) (K:KvP) (s:Hq):Prop:=
 oK (qAB .leq n1 (.int .i64 0)) λV0=>qAL V0
 (K (.int .i64 0) s)
 (oK (qAB .rem x0 n1) λV1=>oK (qAB .add V1 n1) λV2=>oK (qAB .rem V2 n1) λV3=>K V3 s)
def qWK:Nat→List Nat:=λ_=>[]
theorem qYr {X:Td} (hX:FrX X) (hn:X 84=none) {x0 n1:AV} {K:KvP} {s:Hq} (h:qZd X x0 n1 K s):wC Tryz.prog X 84 [x0,n1] K s:=
 qAE hX qWK hn Tryz.func84 (by kernel_rfl:Tryz.f84.body=some (qAU Tryz.f84)) (by kernel_rfl) (Eq.mpr (by kernel_rfl) h)
theorem qZs {x0 n1:AV} {K:KvP} {s:Hq} (h:qZd XX x0 n1 K s):wC Tryz.prog XX 84 [x0,n1] K s:=qYr qAy rfl h
def qPI (X:Td)(err2 part3 index4 c5 t8 t12 t13 t14:AV) (I0:IvP) (m0:Nat) (K:KvP) (s:Hq):Prop:=
 oK (qAB .lss t14 t13) λV16=>qAL V16
 (oK (qAH 1 t12 t14) λV17=>oK (rd1 s V17) λV18=>funK Tryz.prog X V18 [c5] (λV19 S20=>oK (qAB .add t14 (.int .i64 1)) λV21=>∃ m',m' < m0∧I0 [V21] S20 m') s)
 (oK (wr1 s err2 (.int .i64 0)) λS22=>oK (wr1 S22 part3 (.str ⟨#[]⟩)) λS23=>oK (wr1 S23 index4 (.int .i64 0)) λS24=>runK Tryz.prog X t8 (λS25=>oK (rd1 S25 err2) λerr2_26=>oK (rd1 S25 part3) λpart3_27=>oK (rd1 S25 index4) λindex4_28=>K (.tup [err2_26,part3_27,index4_28]) S25) S24)
def qWC (X:Td)(t0:AV) (K:KvP) (s:Hq):Prop:=
 boxK 68 t0 (λB0 S1=>newK 98 [(.int .i64 0)] (λB2 S3=>newK 9 [(.str ⟨#[]⟩)] (λB4 S5=>newK 3 [(.int .i64 0)] (λB6 S7=>qYH Tryz.prog (.fn (.func 69) [] [(.ptr B2 0),(.ptr B4 0),(.ptr B6 0)])∧oK (rdN S7 19 B0) λV8=>oK (qBO zR1 [(0,19,(.agg V8))]) λC9=>boxK 153 (.agg C9) (λB10 S11=>wC Tryz.prog X 70 [] (λV12 S13=>oK (qAS V12) λV14=>∃ I0:IvP,(∃ m,I0 [(.int .i64 0)] S13 m)∧∀ (f:Env) (s:Hq) (m0:Nat),I0 [f 14] s m0→
 qPI X (.ptr B2 0) (.ptr B4 0) (.ptr B6 0) B10 (.fn (.func 69) [] [(.ptr B2 0),(.ptr B4 0),(.ptr B6 0)]) V12 (.int .i64 V14) (f 14) I0 m0 K s) S11) S7) S5) S3) S1) s
def qSJ:Nat→List Nat:=λk=>cond (Nat.beq k 8) [14] ([])
theorem qUG {X:Td} (hX:FrX X) (hn:X 43=none) {t0:AV} {K:KvP} {s:Hq} (h:qWC X t0 K s):wC Tryz.prog X 43 [t0] K s:=
 qS2 hX qSJ hn Tryz.func43 (by kernel_rfl:Tryz.f43.body=some (qAU Tryz.f43)) (by kernel_rfl) (Eq.mpr (by kernel_rfl) h)
theorem qUN {t0:AV} {K:KvP} {s:Hq} (h:qWC XX t0 K s):wC Tryz.prog XX 43 [t0] K s:=qUG qAy rfl h
def qQH (X:Td)(t0 t1 t2:AV) (K:KvP) (s:Hq):Prop:=
 oK (negB false (eqV 4 true .nilIface .nilIface)) λV0=>qAL V0
 (K (.tup []) s)
 (oK (zAB0 150 (some (.agg [(.int .i64 0),(.str ⟨#[]⟩),(.int .i64 0)])) true .nilIface) λV1=>oK (qAX V1 1) λV2=>oK (qAX V1 0) λV3=>qAL V2
 (newK 150 [(.int .i64 0),(.str ⟨#[]⟩),(.int .i64 0)] (λB4 S5=>oK (qAn S5 3 (.ptr B4 0) V3) λS6=>oK (qAI 0 (.ptr B4 0)) λV7=>oK (rd1 S6 V7) λV8=>oK (qAI 1 (.ptr B4 0)) λV9=>oK (rd1 S6 V9) λV10=>oK (qAI 2 (.ptr B4 0)) λV11=>oK (rd1 S6 V11) λV12=>((cutH [((hdel S6 (qCX V9)),S6),((hdel S6 (qCX V11)),S6)] S6) (qCX t0)≠none)∧oK (wr1 S6 t0 V8) λS13=>((cutH [((hdel S6 (qCX V11)),S6)] S13) (qCX t1)≠none)∧oK (wr1 S13 t1 V10) λS14=>oK (wr1 S14 t2 V12) λS15=>K (.tup []) S15) s)
 (oK (wr1 s t0 (.int .i64 3)) λS16=>oK (wr1 S16 t1 (.str ⟨#[102,97,98,114,105,99]⟩)) λS17=>oK (wr1 S17 t2 (.int .i64 0)) λS18=>K (.tup []) S18))
def qPc:Nat→List Nat:=λ_=>[]
theorem qPZ {t0 t1 t2:AV} {K:KvP} {s:Hq} (h:qQH XX t0 t1 t2 K s):zAAf Tryz.prog XX 69 [t0,t1,t2] (λs=>K (.tup []) s) s:=
 qWf qAy qPc Tryz.func69 (by kernel_rfl:Tryz.f69.body=some (qAU Tryz.f69)) (by kernel_rfl) (by kernel_rfl) (by kernel_rfl) (Eq.mpr (by kernel_rfl) h)
def qTN (X:Td)(K:KvP) (s:Hq):Prop:=
 oK (qBO (repl 8 [.nilFunc]) [(0,1,(.fn (.func 107) [] [])),(1,1,(.fn (.func 108) [] [])),(2,1,(.fn (.func 109) [] [])),(3,1,(.fn (.func 110) [] [])),(4,1,(.fn (.func 111) [] [])),(5,1,(.fn (.func 112) [] [])),(6,1,(.fn (.func 113) [] [])),(7,1,(.fn (.func 114) [] []))]) λC0=>qAY C0=true∧newK 156 C0 (λB1 S2=>K (.slc B1 0 8 (some 8) 1) S2) s
def qRc:Nat→List Nat:=λ_=>[]
theorem qSx {X:Td} (hX:FrX X) (hn:X 70=none) {K:KvP} {s:Hq} (h:qTN X K s):wC Tryz.prog X 70 [] K s:=
 qAE hX qRc hn Tryz.func70 (by kernel_rfl:Tryz.f70.body=some (qAU Tryz.f70)) (by kernel_rfl) (Eq.mpr (by kernel_rfl) h)
def qHR (X:Td)(t31 t34:AV) (K:KvP) (s:Hq):Prop:=
 oK (qAc t31 (.bool true) t34) λV26=>wC Tryz.prog X 131 [V26,(.int .i64 2),(.str ⟨#[102,97,98,114,105,99]⟩),(.int .i64 0)] (λV27 S28=>K (.tup []) S28) s
def qHX (X:Td)(t2 t26 t29:AV) (K:KvP) (s:Hq):Prop:=
 oK (qAc t26 (.bool true) t29) λV25=>qAL V25
 (qHR X V25 .undef K s)
 (oK (qAI 10 t2) λV29=>oK (rd1 s V29) λV30=>wC Tryz.prog X 132 [V30,(.int .i64 0),(.int .i64 1)] (λV31 S32=>qHR X V25 V31 K S32) s)
def qHP (X:Td)(t2 t10 t13:AV) (K:KvP) (s:Hq):Prop:=
 oK (qAc t10 (.bool true) t13) λV10=>wC Tryz.prog X 131 [V10,(.int .i64 2),(.str ⟨#[102,97,98,114,105,99]⟩),(.int .i64 0)] (λV11 S12=>oK (qAI 0 t2) λV13=>oK (rd1 S12 V13) λV14=>oK (qAI 1 t2) λV15=>oK (rd1 S12 V15) λV16=>oK (qAB .add V14 V16) λV17=>oK (qAB .gtr V17 (.int .i64 32)) λV18=>wC Tryz.prog X 131 [V18,(.int .i64 2),(.str ⟨#[102,97,98,114,105,99]⟩),(.int .i64 0)] (λV19 S20=>oK (qAI 8 t2) λV21=>oK (rd1 S20 V21) λV22=>wC Tryz.prog X 132 [V22,(.int .i64 0),(.int .i64 2)] (λV23 S24=>qAL V23
 (qHX X t2 V23 .undef K S24)
 (oK (qAI 9 t2) λV33=>oK (rd1 S24 V33) λV34=>wC Tryz.prog X 132 [V34,(.int .i64 0),(.int .i64 1)] (λV35 S36=>qHX X t2 V23 V35 K S36) S24)) S20) S12) s
def qSM (X:Td)(c0:AV) (K:KvP) (s:Hq):Prop:=
 oK (qAl c0) λV0=>oK (qAI 0 V0) λV1=>oK (rdN s 19 V1) λV2=>newK 68 zR1 (λB3 S4=>oK (qAn S4 19 (.ptr B3 0) (.agg V2)) λS5=>oK (qAI 0 (.ptr B3 0)) λV6=>oK (rd1 S5 V6) λV7=>wC Tryz.prog X 132 [V7,(.int .i64 1),(.int .i64 32)] (λV8 S9=>qAL V8
 (qHP X (.ptr B3 0) V8 .undef K S9)
 (oK (qAI 1 (.ptr B3 0)) λV37=>oK (rd1 S9 V37) λV38=>wC Tryz.prog X 132 [V38,(.int .i64 0),(.int .i64 32)] (λV39 S40=>qHP X (.ptr B3 0) V8 V39 K S40) S9)) S5) s
def qQ6:Nat→List Nat:=λ_=>[]
theorem qTT {X:Td} (hX:FrX X) (hn:X 107=none) {c0:AV} {K:KvP} {s:Hq} (h:qSM X c0 K s):wC Tryz.prog X 107 [c0] K s:=
 qAE hX qQ6 hn Tryz.func107 (by kernel_rfl:Tryz.f107.body=some (qAU Tryz.f107)) (by kernel_rfl) (Eq.mpr (by kernel_rfl) h)
theorem qSj {c0:AV} {K:KvP} {s:Hq} (h:qSM XX c0 K s):wC Tryz.prog XX 107 [c0] K s:=qTT qAy rfl h
def qHe (X:Td)(t30 t33:AV) (K:KvP) (s:Hq):Prop:=
 oK (qAc t30 (.bool true) t33) λV20=>wC Tryz.prog X 131 [V20,(.int .i64 2),(.str ⟨#[116,105,109,101,114,115]⟩),(.int .i64 0)] (λV21 S22=>K (.tup []) S22) s
def qHQ (X:Td)(t2 t25 t28:AV) (K:KvP) (s:Hq):Prop:=
 oK (qAc t25 (.bool true) t28) λV19=>qAL V19
 (qHe X V19 .undef K s)
 (oK (qAI 5 t2) λV23=>oK (rd1 s V23) λV24=>wC Tryz.prog X 132 [V24,(.int .i64 1),(.int .i64 10000)] (λV25 S26=>qHe X V19 V25 K S26) s)
def qHa (X:Td)(t2 t16 t19:AV) (K:KvP) (s:Hq):Prop:=
 oK (qAc t16 (.bool true) t19) λV12=>wC Tryz.prog X 131 [V12,(.int .i64 2),(.str ⟨#[116,105,109,101,114,115]⟩),(.int .i64 0)] (λV13 S14=>oK (qAI 3 t2) λV15=>oK (rd1 S14 V15) λV16=>wC Tryz.prog X 132 [V16,(.int .i64 0),(.int .i64 1000)] (λV17 S18=>qAL V17
 (qHQ X t2 V17 .undef K S18)
 (oK (qAI 4 t2) λV27=>oK (rd1 S18 V27) λV28=>wC Tryz.prog X 132 [V28,(.int .i64 1),(.int .i64 100)] (λV29 S30=>qHQ X t2 V17 V29 K S30) S18)) S14) s
def qHf (X:Td)(t2 t11 t14:AV) (K:KvP) (s:Hq):Prop:=
 oK (qAc t11 (.bool true) t14) λV11=>qAL V11
 (qHa X t2 V11 .undef K s)
 (oK (qAI 2 t2) λV31=>oK (rd1 s V31) λV32=>wC Tryz.prog X 132 [V32,(.int .i64 1),(.int .i64 10000)] (λV33 S34=>qHa X t2 V11 V33 K S34) s)
def qN4 (X:Td)(c0:AV) (K:KvP) (s:Hq):Prop:=
 oK (qAl c0) λV0=>oK (qAI 0 V0) λV1=>oK (qAI 13 V1) λV2=>oK (rdN s 6 V2) λV3=>newK 66 [(.int .i64 0),(.int .i64 0),(.int .i64 0),(.int .i64 0),(.int .i64 0),(.int .i64 0)] (λB4 S5=>oK (qAn S5 6 (.ptr B4 0) (.agg V3)) λS6=>oK (qAI 0 (.ptr B4 0)) λV7=>oK (rd1 S6 V7) λV8=>wC Tryz.prog X 132 [V8,(.int .i64 1),(.int .i64 100)] (λV9 S10=>qAL V9
 (qHf X (.ptr B4 0) V9 .undef K S10)
 (oK (qAI 1 (.ptr B4 0)) λV35=>oK (rd1 S10 V35) λV36=>wC Tryz.prog X 132 [V36,(.int .i64 3),(.int .i64 1000)] (λV37 S38=>qHf X (.ptr B4 0) V9 V37 K S38) S10)) S6) s
def qRP:Nat→List Nat:=λ_=>[]
theorem qSV {X:Td} (hX:FrX X) (hn:X 108=none) {c0:AV} {K:KvP} {s:Hq} (h:qN4 X c0 K s):wC Tryz.prog X 108 [c0] K s:=
 qAE hX qRP hn Tryz.func108 (by kernel_rfl:Tryz.f108.body=some (qAU Tryz.f108)) (by kernel_rfl) (Eq.mpr (by kernel_rfl) h)
theorem qSg {c0:AV} {K:KvP} {s:Hq} (h:qN4 XX c0 K s):wC Tryz.prog XX 108 [c0] K s:=qSV qAy rfl h
def qIL (X:Td)(again3 i4 t22 t51 t54:AV) (I0:IvP) (m0:Nat) (K:KvP) (s:Hq):Prop:=
 oK (qAc t51 (.bool true) t54) λV36=>wC Tryz.prog X 131 [V36,(.int .i64 2),(.str ⟨#[108,105,110,107,115]⟩),i4] (λV37 S38=>oK (qAH 1 again3 i4) λV39=>oK (rd1 S38 V39) λV40=>wC Tryz.prog X 131 [V40,(.int .i64 11),(.str ⟨#[108,105,110,107,115]⟩),i4] (λV41 S42=>oK (qAB .add t22 (.int .i64 1)) λV43=>∃ m',m' < m0∧I0 [V43] S42 m') S38) s
def qIf (X:Td)(again3 i4 l5 t22 t39 t47:AV) (I0:IvP) (m0:Nat) (K:KvP) (s:Hq):Prop:=
 oK (qAc t39 t47 (.bool false)) λV34=>oK (qBm .not V34) λV35=>qAL V35
 (qIL X again3 i4 t22 V35 .undef I0 m0 K s)
 (oK (qAI 2 l5) λV44=>oK (rd1 s V44) λV45=>wC Tryz.prog X 132 [V45,(.int .i64 1),(.int .i64 1000)] (λV46 S47=>qIL X again3 i4 t22 V35 V46 I0 m0 K S47) s)
def qIR (X:Td)(t2 again3 i4 l5 t22 t32 t37:AV) (I0:IvP) (m0:Nat) (K:KvP) (s:Hq):Prop:=
 oK (qAc t32 t37 (.bool false)) λV33=>qAL V33
 (oK (qAI 1 l5) λV48=>oK (rd1 s V48) λV49=>oK (qAI 0 t2) λV50=>oK (rd1 s V50) λV51=>oK (qAI 1 t2) λV52=>oK (rd1 s V52) λV53=>oK (qAB .add V51 V53) λV54=>oK (qAB .lss V49 V54) λV55=>qIf X again3 i4 l5 t22 V33 V55 I0 m0 K s)
 (qIf X again3 i4 l5 t22 V33 .undef I0 m0 K s)
def qPE (X:Td)(t2 again3 t20 t21 t22:AV) (I0:IvP) (m0:Nat) (K:KvP) (s:Hq):Prop:=
 oK (qAB .lss t22 t21) λV21=>qAL V21
 (oK (qAH 3 t20 t22) λV22=>oK (rdN s 3 V22) λV23=>newK 110 [(.int .i64 0),(.int .i64 0),(.int .i64 0)] (λB24 S25=>oK (qAn S25 3 (.ptr B24 0) (.agg V23)) λS26=>oK (qAI 0 (.ptr B24 0)) λV27=>oK (rd1 S26 V27) λV28=>oK (qAI 0 t2) λV29=>oK (rd1 S26 V29) λV30=>wC Tryz.prog X 95 [V28,V30] (λV31 S32=>qAL V31
 (oK (qAI 1 (.ptr B24 0)) λV56=>oK (rd1 S32 V56) λV57=>oK (qAI 0 t2) λV58=>oK (rd1 S32 V58) λV59=>oK (qAB .geq V57 V59) λV60=>qIR X t2 again3 t22 (.ptr B24 0) t22 V31 V60 I0 m0 K S32)
 (qIR X t2 again3 t22 (.ptr B24 0) t22 V31 .undef I0 m0 K S32)) S26) s)
 (K (.tup []) s)
def qVI (X:Td)(c0:AV) (K:KvP) (s:Hq):Prop:=
 oK (qAl c0) λV0=>oK (qAI 0 V0) λV1=>oK (rdN s 19 V1) λV2=>newK 68 zR1 (λB3 S4=>oK (qAn S4 19 (.ptr B3 0) (.agg V2)) λS5=>oK (qAI 2 (.ptr B3 0)) λV6=>oK (rd1 S5 V6) λV7=>oK (qAS V7) λV8=>oK (qAB .gtr (.int .i64 V8) (.int .i64 128)) λV10=>wC Tryz.prog X 131 [V10,(.int .i64 7),(.str ⟨#[108,105,110,107,115]⟩),(.int .i64 128)] (λV11 S12=>oK (qAI 2 (.ptr B3 0)) λV13=>oK (rd1 S12 V13) λV14=>wC Tryz.prog X 133 [V14,(.fn (.func 134) [] [])] (λV15 S16=>oK (qAI 2 (.ptr B3 0)) λV17=>oK (rd1 S16 V17) λV18=>oK (qAS V18) λV19=>∃ I0:IvP,(∃ m,I0 [(.int .i64 0)] S16 m)∧∀ (f:Env) (s:Hq) (m0:Nat),I0 [f 22] s m0→
 qPE X (.ptr B3 0) V15 V18 (.int .i64 V19) (f 22) I0 m0 K s) S12) S5) s
def qTB:Nat→List Nat:=λk=>cond (Nat.beq k 8) [22] ([])
theorem qUH {X:Td} (hX:FrX X) (hn:X 109=none) {c0:AV} {K:KvP} {s:Hq} (h:qVI X c0 K s):wC Tryz.prog X 109 [c0] K s:=
 qAE hX qTB hn Tryz.func109 (by kernel_rfl:Tryz.f109.body=some (qAU Tryz.f109)) (by kernel_rfl) (Eq.mpr (by kernel_rfl) h)
theorem qT8 {c0:AV} {K:KvP} {s:Hq} (h:qVI XX c0 K s):wC Tryz.prog XX 109 [c0] K s:=qUH qAy rfl h
def qGU (X:Td)(i5 t22 t46 t50:AV) (I0:IvP) (m0:Nat) (K:KvP) (s:Hq):Prop:=
 oK (qAc t46 (.bool true) t50) λV30=>wC Tryz.prog X 131 [V30,(.int .i64 11),(.str ⟨#[116,101,110,97,110,116,115]⟩),i5] (λV31 S32=>oK (qAB .add t22 (.int .i64 1)) λV33=>∃ m',m' < m0∧I0 [V33] S32 m') s
def qGf (X:Td)(vnis3 targets4 i5 t22 t35 t38:AV) (I0:IvP) (m0:Nat) (K:KvP) (s:Hq):Prop:=
 oK (qAc t35 (.bool true) t38) λV25=>wC Tryz.prog X 131 [V25,(.int .i64 2),(.str ⟨#[116,101,110,97,110,116,115]⟩),i5] (λV26 S27=>oK (qAH 1 vnis3 i5) λV28=>oK (rd1 S27 V28) λV29=>qAL V29
 (qGU X i5 t22 V29 .undef I0 m0 K S27)
 (oK (qAH 1 targets4 i5) λV34=>oK (rd1 S27 V34) λV35=>qGU X i5 t22 V29 V35 I0 m0 K S27)) s
def qGg (X:Td)(vnis3 targets4 i5 t6 t22 t30 t33:AV) (I0:IvP) (m0:Nat) (K:KvP) (s:Hq):Prop:=
 oK (qAc t30 (.bool true) t33) λV24=>qAL V24
 (qGf X vnis3 targets4 i5 t22 V24 .undef I0 m0 K s)
 (oK (qAI 1 t6) λV36=>oK (rd1 s V36) λV37=>oK (negB false (eqV 0 true V37 (.int .u32 0))) λV38=>qGf X vnis3 targets4 i5 t22 V24 V38 I0 m0 K s)
def qLr (X:Td)(vnis3 targets4 t20 t21 t22:AV) (I0:IvP) (m0:Nat) (K:KvP) (s:Hq):Prop:=
 oK (qAB .lss t22 t21) λV15=>qAL V15
 (oK (qAH 2 t20 t22) λV16=>oK (rdN s 2 V16) λV17=>newK 112 [(.int .u32 0),(.int .u32 0)] (λB18 S19=>oK (qAn S19 2 (.ptr B18 0) (.agg V17)) λS20=>oK (qAI 0 (.ptr B18 0)) λV21=>oK (rd1 S20 V21) λV22=>oK (qAB .lss V22 (.int .u32 1)) λV23=>qAL V23
 (qGg X vnis3 targets4 t22 (.ptr B18 0) t22 V23 .undef I0 m0 K S20)
 (oK (qAI 0 (.ptr B18 0)) λV39=>oK (rd1 S20 V39) λV40=>oK (qAB .gtr V40 (.int .u32 16777215)) λV41=>qGg X vnis3 targets4 t22 (.ptr B18 0) t22 V23 V41 I0 m0 K S20)) s)
 (K (.tup []) s)
def qMX (X:Td)(c0:AV) (K:KvP) (s:Hq):Prop:=
 oK (qAl c0) λV0=>oK (qAI 0 V0) λV1=>oK (qAI 3 V1) λV2=>oK (rd1 s V2) λV3=>oK (qAS V3) λV4=>oK (qAB .gtr (.int .i64 V4) (.int .i64 16)) λV6=>wC Tryz.prog X 131 [V6,(.int .i64 7),(.str ⟨#[116,101,110,97,110,116,115]⟩),(.int .i64 16)] (λV7 S8=>wC Tryz.prog X 135 [V3,(.fn (.func 136) [] [])] (λV9 S10=>wC Tryz.prog X 135 [V3,(.fn (.func 137) [] [])] (λV11 S12=>oK (qAS V3) λV13=>∃ I0:IvP,(∃ m,I0 [(.int .i64 0)] S12 m)∧∀ (f:Env) (s:Hq) (m0:Nat),I0 [f 22] s m0→
 qLr X V9 V11 V3 (.int .i64 V13) (f 22) I0 m0 K s) S10) S8) s
def qPg:Nat→List Nat:=λk=>cond (Nat.beq k 8) [22] ([])
theorem qQY {X:Td} (hX:FrX X) (hn:X 110=none) {c0:AV} {K:KvP} {s:Hq} (h:qMX X c0 K s):wC Tryz.prog X 110 [c0] K s:=
 qAE hX qPg hn Tryz.func110 (by kernel_rfl:Tryz.f110.body=some (qAU Tryz.f110)) (by kernel_rfl) (Eq.mpr (by kernel_rfl) h)
theorem qRK {c0:AV} {K:KvP} {s:Hq} (h:qMX XX c0 K s):wC Tryz.prog XX 110 [c0] K s:=qQY qAy rfl h
def qGT (X:Td)(t28:AV) (I0:IvP) (m0:Nat) (K:KvP) (s:Hq):Prop:=
 oK (qAB .add t28 (.int .i64 1)) λV26=>∃ m',m' < m0∧I0 [V26] s m'
def qGV (X:Td)(t2 i5 b6 t28 t98 t102:AV) (I0:IvP) (m0:Nat) (K:KvP) (s:Hq):Prop:=
 oK (qAc t98 (.bool true) t102) λV67=>wC Tryz.prog X 131 [V67,(.int .i64 3),(.str ⟨#[100,111,109,97,105,110,115]⟩),i5] (λV68 S69=>oK (qAI 3 b6) λV70=>oK (rdN S69 2 V70) λV71=>oK (qAI 5 b6) λV72=>oK (rd1 S69 V72) λV73=>wC Tryz.prog X 143 [(.agg V71),V73] (λV74 S75=>oK (qBm .not V74) λV76=>wC Tryz.prog X 131 [V76,(.int .i64 3),(.str ⟨#[100,111,109,97,105,110,115]⟩),i5] (λV77 S78=>oK (qAI 4 t2) λV79=>oK (rd1 S78 V79) λV80=>oK (qCT 6 V80 none (some i5) none) λV81=>wC Tryz.prog X 144 [V81,(.fn (.func 145) [] [b6])] (λV82 S83=>wC Tryz.prog X 131 [V82,(.int .i64 11),(.str ⟨#[100,111,109,97,105,110,115]⟩),i5] (λV84 S85=>qGT X t28 I0 m0 K S85) S83) S78) S75) S69) s
def qGb (X:Td)(t2 i5 b6 t28 t75 t80:AV) (I0:IvP) (m0:Nat) (K:KvP) (s:Hq):Prop:=
 oK (qAc t75 (.bool true) t80) λV50=>wC Tryz.prog X 131 [V50,(.int .i64 11),(.str ⟨#[100,111,109,97,105,110,115]⟩),i5] (λV51 S52=>oK (qAI 5 b6) λV53=>oK (rd1 S52 V53) λV54=>oK (negB false (eqV 0 true V54 (.int .u32 0))) λV55=>qAL V55
 (oK (qAI 3 b6) λV56=>oK (rdN S52 2 V56) λV57=>oK (qBO [(.int .u32 0),(.int .i64 0)] []) λC58=>oK (negB true (qGQ Tryz.prog 41 (.agg V57) (.agg C58))) λV59=>wC Tryz.prog X 131 [V59,(.int .i64 3),(.str ⟨#[100,111,109,97,105,110,115]⟩),i5] (λV60 S61=>qGT X t28 I0 m0 K S61) S52)
 (oK (qAI 3 b6) λV62=>oK (rdN S52 2 V62) λV63=>wC Tryz.prog X 142 [(.agg V63)] (λV64 S65=>oK (qBm .not V64) λV66=>qAL V66
 (qGV X t2 i5 b6 t28 V66 .undef I0 m0 K S65)
 (oK (qAI 3 b6) λV86=>oK (qAI 1 V86) λV87=>oK (rd1 S65 V87) λV88=>wC Tryz.prog X 132 [V88,(.int .i64 8),(.int .i64 30)] (λV89 S90=>qGV X t2 i5 b6 t28 V66 V89 I0 m0 K S90) S65)) S52)) s
def qGc (X:Td)(t2 i5 b6 t28 t68 t73:AV) (I0:IvP) (m0:Nat) (K:KvP) (s:Hq):Prop:=
 oK (qAc t68 (.bool true) t73) λV49=>qAL V49
 (qGb X t2 i5 b6 t28 V49 .undef I0 m0 K s)
 (oK (qAI 3 t2) λV91=>oK (rd1 s V91) λV92=>oK (qAI 2 b6) λV93=>oK (rd1 s V93) λV94=>wC Tryz.prog X 141 [V92,(.fn (.func 137) [] []),V94] (λV95 S96=>qGb X t2 i5 b6 t28 V49 V95 I0 m0 K S96) s)
def qGW (X:Td)(t2 i5 b6 t28 t62 t66:AV) (I0:IvP) (m0:Nat) (K:KvP) (s:Hq):Prop:=
 oK (qAc t62 (.bool true) t66) λV48=>qAL V48
 (qGc X t2 i5 b6 t28 V48 .undef I0 m0 K s)
 (oK (qAI 3 t2) λV97=>oK (rd1 s V97) λV98=>oK (qAI 1 b6) λV99=>oK (rd1 s V99) λV100=>wC Tryz.prog X 141 [V98,(.fn (.func 136) [] []),V100] (λV101 S102=>qGc X t2 i5 b6 t28 V48 V101 I0 m0 K S102) s)
def qGa (X:Td)(t2 vnis3 targets4 i5 b6 t28 t50 t53:AV) (I0:IvP) (m0:Nat) (K:KvP) (s:Hq):Prop:=
 oK (qAc t50 (.bool true) t53) λV43=>wC Tryz.prog X 131 [V43,(.int .i64 2),(.str ⟨#[100,111,109,97,105,110,115]⟩),i5] (λV44 S45=>oK (qAH 1 vnis3 i5) λV46=>oK (rd1 S45 V46) λV47=>qAL V47
 (qGW X t2 i5 b6 t28 V47 .undef I0 m0 K S45)
 (oK (qAH 1 targets4 i5) λV103=>oK (rd1 S45 V103) λV104=>qGW X t2 i5 b6 t28 V47 V104 I0 m0 K S45)) s
def qGS (X:Td)(t2 vnis3 targets4 i5 b6 t28 t45 t48:AV) (I0:IvP) (m0:Nat) (K:KvP) (s:Hq):Prop:=
 oK (qAc t45 (.bool true) t48) λV42=>qAL V42
 (qGa X t2 vnis3 targets4 i5 b6 t28 V42 .undef I0 m0 K s)
 (oK (qAI 2 b6) λV105=>oK (rd1 s V105) λV106=>oK (negB false (eqV 0 true V106 (.int .u32 0))) λV107=>qGa X t2 vnis3 targets4 i5 b6 t28 V42 V107 I0 m0 K s)
def qGh (X:Td)(t2 vnis3 targets4 i5 b6 t28 t40 t43:AV) (I0:IvP) (m0:Nat) (K:KvP) (s:Hq):Prop:=
 oK (qAc t40 (.bool true) t43) λV41=>qAL V41
 (qGS X t2 vnis3 targets4 i5 b6 t28 V41 .undef I0 m0 K s)
 (oK (qAI 1 b6) λV108=>oK (rd1 s V108) λV109=>oK (qAB .gtr V109 (.int .u32 16777215)) λV110=>qGS X t2 vnis3 targets4 i5 b6 t28 V41 V110 I0 m0 K s)
def qLs (X:Td)(t2 vnis3 targets4 t26 t27 t28:AV) (I0:IvP) (m0:Nat) (K:KvP) (s:Hq):Prop:=
 oK (qAB .lss t28 t27) λV25=>qAL V25
 (oK (qAH 6 t26 t28) λV27=>oK (rdN s 6 V27) λV28=>newK 114 [(.int .i64 0),(.int .u32 0),(.int .u32 0),(.int .u32 0),(.int .i64 0),(.int .u32 0)] (λB29 S30=>oK (qAn S30 6 (.ptr B29 0) (.agg V28)) λS31=>oK (qAI 0 (.ptr B29 0)) λV32=>oK (rd1 S31 V32) λV33=>oK (qAI 3 t2) λV34=>oK (rd1 S31 V34) λV35=>oK (qAS V35) λV36=>wC Tryz.prog X 95 [V33,(.int .i64 V36)] (λV38 S39=>oK (qBm .not V38) λV40=>qAL V40
 (qGh X t2 vnis3 targets4 t28 (.ptr B29 0) t28 V40 .undef I0 m0 K S39)
 (oK (qAI 1 (.ptr B29 0)) λV111=>oK (rd1 S39 V111) λV112=>oK (qAB .lss V112 (.int .u32 1)) λV113=>qGh X t2 vnis3 targets4 t28 (.ptr B29 0) t28 V40 V113 I0 m0 K S39)) S31) s)
 (K (.tup []) s)
def qP9 (X:Td)(c0:AV) (K:KvP) (s:Hq):Prop:=
 oK (qAl c0) λV0=>oK (qAI 0 V0) λV1=>oK (rdN s 19 V1) λV2=>newK 68 zR1 (λB3 S4=>oK (qAn S4 19 (.ptr B3 0) (.agg V2)) λS5=>oK (qAI 4 (.ptr B3 0)) λV6=>oK (rd1 S5 V6) λV7=>oK (qAS V7) λV8=>oK (qAB .gtr (.int .i64 V8) (.int .i64 32)) λV10=>wC Tryz.prog X 131 [V10,(.int .i64 7),(.str ⟨#[100,111,109,97,105,110,115]⟩),(.int .i64 32)] (λV11 S12=>oK (qAI 4 (.ptr B3 0)) λV13=>oK (rd1 S12 V13) λV14=>wC Tryz.prog X 138 [V14,(.fn (.func 139) [] [])] (λV15 S16=>(∀ b,S12 b≠none→S12 b=none→S16 b=none)→
 oK (qAI 4 (.ptr B3 0)) λV17=>oK (rd1 (cutH [(S12,(add S12 S16))] (add S12 S16)) V17) λV18=>wC Tryz.prog X 138 [V18,(.fn (.func 140) [] [])] (λV19 S20=>oK (qAI 4 (.ptr B3 0)) λV21=>oK (rd1 S20 V21) λV22=>oK (qAS V22) λV23=>∃ I0:IvP,(∃ m,I0 [(.int .i64 0)] S20 m)∧∀ (f:Env) (s:Hq) (m0:Nat),I0 [f 28] s m0→
 qLs X (.ptr B3 0) V15 V19 V22 (.int .i64 V23) (f 28) I0 m0 K s) (add S12 S16)) (frz S12)) S5) s
def qPi:Nat→List Nat:=λk=>cond (Nat.beq k 8) [28] ([])
theorem qRW {X:Td} (hX:FrX X) (hn:X 111=none) {c0:AV} {K:KvP} {s:Hq} (h:qP9 X c0 K s):wC Tryz.prog X 111 [c0] K s:=
 qAE hX qPi hn Tryz.func111 (by kernel_rfl:Tryz.f111.body=some (qAU Tryz.f111)) (by kernel_rfl) (Eq.mpr (by kernel_rfl) h)
theorem qRR {c0:AV} {K:KvP} {s:Hq} (h:qP9 XX c0 K s):wC Tryz.prog XX 111 [c0] K s:=qRW qAy rfl h
def qK0 (X:Td)(ports3 i4 t21 t64 t65 t66:AV) (I4:IvP) (m4:Nat) (I0:IvP) (m0:Nat) (K:KvP) (s:Hq):Prop:=
 oK (qAB .lss t66 t65) λV52=>qAL V52
 (oK (qAH 1 t64 t66) λV53=>oK (rd1 s V53) λV54=>oK (qHA 32 1 ports3 V54) λV55=>oK (rd1 s V55) λV56=>oK (qAB .add V56 (.int .i64 1)) λV57=>oK (qHA 32 1 ports3 V54) λV58=>oK (wr1 s V58 V57) λS59=>oK (qHA 32 1 ports3 V54) λV60=>oK (rd1 S59 V60) λV61=>oK (qAB .gtr V61 (.int .i64 32)) λV62=>wC Tryz.prog X 131 [V62,(.int .i64 7),(.str ⟨#[115,101,103,109,101,110,116,115]⟩),i4] (λV63 S64=>oK (qAB .add t66 (.int .i64 1)) λV65=>∃ m',m' < m4∧I4 [V65] S64 m') S59)
 (oK (qAB .add t21 (.int .i64 1)) λV66=>∃ m',m' < m0∧I0 [V66] s m')
def qFh (X:Td)(ports3 i4 t5 t21 t55 t59:AV) (I0:IvP) (m0:Nat) (K:KvP) (s:Hq):Prop:=
 oK (qAc t55 (.bool true) t59) λV45=>wC Tryz.prog X 131 [V45,(.int .i64 10),(.str ⟨#[115,101,103,109,101,110,116,115]⟩),i4] (λV46 S47=>oK (qAI 0 t5) λV48=>oK (rd1 S47 V48) λV49=>oK (qAS V49) λV50=>∃ I4:IvP,(∃ m,I4 [(.int .i64 0)] S47 m)∧∀ (f:Env) (s:Hq) (m4:Nat),I4 [f 66] s m4→
 qK0 X ports3 i4 t21 V49 (.int .i64 V50) (f 66) I4 m4 I0 m0 K s) s
def qFi (X:Td)(ports3 i4 t5 t21 t42 t46:AV) (I0:IvP) (m0:Nat) (K:KvP) (s:Hq):Prop:=
 oK (qAc t42 (.bool true) t46) λV37=>wC Tryz.prog X 131 [V37,(.int .i64 2),(.str ⟨#[115,101,103,109,101,110,116,115]⟩),i4] (λV38 S39=>oK (qAI 0 t5) λV40=>oK (rd1 S39 V40) λV41=>wC Tryz.prog X 150 [V41] (λV42 S43=>oK (qBm .not V42) λV44=>qAL V44
 (qFh X ports3 i4 t5 t21 V44 .undef I0 m0 K S43)
 (oK (qAI 1 t5) λV67=>oK (rd1 S43 V67) λV68=>wC Tryz.prog X 150 [V68] (λV69 S70=>oK (qBm .not V69) λV71=>qFh X ports3 i4 t5 t21 V44 V71 I0 m0 K S70) S43)) S39) s
def qFn (X:Td)(t2 ports3 i4 t5 t21 t30 t34:AV) (I0:IvP) (m0:Nat) (K:KvP) (s:Hq):Prop:=
 oK (qAc t30 (.bool true) t34) λV30=>wC Tryz.prog X 131 [V30,(.int .i64 3),(.str ⟨#[115,101,103,109,101,110,116,115]⟩),i4] (λV31 S32=>oK (qAI 0 t5) λV33=>oK (rd1 S32 V33) λV34=>wC Tryz.prog X 147 [V34,(.fn (.func 148) [] [t2])] (λV35 S36=>qAL V35
 (qFi X ports3 i4 t5 t21 V35 .undef I0 m0 K S36)
 (oK (qAI 1 t5) λV72=>oK (rd1 S36 V72) λV73=>wC Tryz.prog X 147 [V73,(.fn (.func 149) [] [t2])] (λV74 S75=>qFi X ports3 i4 t5 t21 V35 V74 I0 m0 K S75) S36)) S32) s
def qKw (X:Td)(t2 ports3 t19 t20 t21:AV) (I0:IvP) (m0:Nat) (K:KvP) (s:Hq):Prop:=
 oK (qAB .lss t21 t20) λV19=>qAL V19
 (oK (qAH 2 t19 t21) λV20=>oK (rdN s 2 V20) λV21=>newK 93 [.nilslc,.nilslc] (λB22 S23=>oK (qAn S23 2 (.ptr B22 0) (.agg V21)) λS24=>oK (qAI 0 (.ptr B22 0)) λV25=>oK (rd1 S24 V25) λV26=>oK (qAS V26) λV27=>oK (negB false (eqV 0 true (.int .i64 V27) (.int .i64 0))) λV29=>qAL V29
 (qFn X t2 ports3 t21 (.ptr B22 0) t21 V29 .undef I0 m0 K S24)
 (oK (qAI 1 (.ptr B22 0)) λV76=>oK (rd1 S24 V76) λV77=>oK (qAS V77) λV78=>oK (negB false (eqV 0 true (.int .i64 V78) (.int .i64 0))) λV80=>qFn X t2 ports3 t21 (.ptr B22 0) t21 V29 V80 I0 m0 K S24)) s)
 (K (.tup []) s)
def qOA (X:Td)(c0:AV) (K:KvP) (s:Hq):Prop:=
 oK (qAl c0) λV0=>oK (qAI 0 V0) λV1=>oK (rdN s 19 V1) λV2=>newK 68 zR1 (λB3 S4=>oK (qAn S4 19 (.ptr B3 0) (.agg V2)) λS5=>oK (qAI 5 (.ptr B3 0)) λV6=>oK (rd1 S5 V6) λV7=>oK (qAS V7) λV8=>oK (qAB .gtr (.int .i64 V8) (.int .i64 64)) λV10=>wC Tryz.prog X 131 [V10,(.int .i64 7),(.str ⟨#[115,101,103,109,101,110,116,115]⟩),(.int .i64 64)] (λV11 S12=>newK 217 [(.int .i64 0),(.int .i64 0),(.int .i64 0),(.int .i64 0),(.int .i64 0),(.int .i64 0),(.int .i64 0),(.int .i64 0),(.int .i64 0),(.int .i64 0),(.int .i64 0),(.int .i64 0),(.int .i64 0),(.int .i64 0),(.int .i64 0),(.int .i64 0),(.int .i64 0),(.int .i64 0),(.int .i64 0),(.int .i64 0),(.int .i64 0),(.int .i64 0),(.int .i64 0),(.int .i64 0),(.int .i64 0),(.int .i64 0),(.int .i64 0),(.int .i64 0),(.int .i64 0),(.int .i64 0),(.int .i64 0),(.int .i64 0)] (λB13 S14=>oK (qAI 5 (.ptr B3 0)) λV15=>oK (rd1 S14 V15) λV16=>oK (qAS V16) λV17=>∃ I0:IvP,(∃ m,I0 [(.int .i64 0)] S14 m)∧∀ (f:Env) (s:Hq) (m0:Nat),I0 [f 21] s m0→
 qKw X (.ptr B3 0) (.ptr B13 0) V16 (.int .i64 V17) (f 21) I0 m0 K s) S12) S5) s
def qN3:Nat→List Nat:=λk=>cond (Nat.beq k 8) [21] (cond (Nat.beq k 22) [66] ([]))
theorem qPm {X:Td} (hX:FrX X) (hn:X 112=none) {c0:AV} {K:KvP} {s:Hq} (h:qOA X c0 K s):wC Tryz.prog X 112 [c0] K s:=
 qAE hX qN3 hn Tryz.func112 (by kernel_rfl:Tryz.f112.body=some (qAU Tryz.f112)) (by kernel_rfl) (Eq.mpr (by kernel_rfl) h)
theorem qPj {c0:AV} {K:KvP} {s:Hq} (h:qOA XX c0 K s):wC Tryz.prog XX 112 [c0] K s:=qPm qAy rfl h
def qIl (X:Td)(i5 t28 t115 t119 t123:AV) (I0:IvP) (m0:Nat) (K:KvP) (s:Hq):Prop:=
 oK (qAc t119 t123 (.bool false)) λV78=>oK (qAc t115 (.bool true) V78) λV79=>wC Tryz.prog X 131 [V79,(.int .i64 11),(.str ⟨#[104,111,115,116,115]⟩),i5] (λV80 S81=>oK (qAB .add t28 (.int .i64 1)) λV82=>∃ m',m' < m0∧I0 [V82] S81 m') s
def qIP (X:Td)(macs3 ips4 i5 h6 t28 t97 t107:AV) (I0:IvP) (m0:Nat) (K:KvP) (s:Hq):Prop:=
 oK (qAc t97 (.bool true) t107) λV66=>wC Tryz.prog X 131 [V66,(.int .i64 3),(.str ⟨#[104,111,115,116,115]⟩),i5] (λV67 S68=>oK (qAH 1 macs3 i5) λV69=>oK (rd1 S68 V69) λV70=>qAL V70
 (oK (qAc V70 (.bool true) .undef) λV71=>wC Tryz.prog X 131 [V71,(.int .i64 11),(.str ⟨#[104,111,115,116,115]⟩),i5] (λV72 S73=>oK (qAB .add t28 (.int .i64 1)) λV74=>∃ m',m' < m0∧I0 [V74] S73 m') S68)
 (oK (qAI 1 h6) λV75=>oK (rd1 S68 V75) λV76=>oK (negB true (eqV 0 true V76 (.int .u32 0))) λV77=>qAL V77
 (oK (qAH 1 ips4 i5) λV83=>oK (rd1 S68 V83) λV84=>qIl X i5 t28 V70 V77 V84 I0 m0 K S68)
 (qIl X i5 t28 V70 V77 .undef I0 m0 K S68))) s
def qIt (X:Td)(t2 macs3 ips4 i5 h6 t28 t94 t95:AV) (I0:IvP) (m0:Nat) (K:KvP) (s:Hq):Prop:=
 oK (qAc t94 (.bool true) t95) λV65=>qAL V65
 (qIP X macs3 ips4 i5 h6 t28 V65 .undef I0 m0 K s)
 (oK (qAI 4 t2) λV85=>oK (rd1 s V85) λV86=>oK (qAI 2 h6) λV87=>oK (rd1 s V87) λV88=>oK (qAH 6 V86 V88) λV89=>oK (rdN s 6 V89) λV90=>oK (qAI 1 h6) λV91=>oK (rd1 s V91) λV92=>wC Tryz.prog X 157 [(.agg V90),V92] (λV93 S94=>oK (qBm .not V93) λV95=>qIP X macs3 ips4 i5 h6 t28 V65 V95 I0 m0 K S94) s)
def qIT (X:Td)(t2 macs3 ips4 i5 h6 t28 t69 t80:AV) (I0:IvP) (m0:Nat) (K:KvP) (s:Hq):Prop:=
 oK (qAc t69 t80 (.bool false)) λV53=>wC Tryz.prog X 131 [V53,(.int .i64 8),(.str ⟨#[104,111,115,116,115]⟩),i5] (λV54 S55=>oK (qAI 0 h6) λV56=>oK (rd1 S55 V56) λV57=>wC Tryz.prog X 156 [V57] (λV58 S59=>oK (qAX V58 0) λV60=>oK (qAX V58 1) λV61=>oK (qAI 0 h6) λV62=>oK (rd1 S59 V62) λV63=>oK (negB false (eqV 0 true V63 (.int .u64 1577058561))) λV64=>qAL V64
 (qIt X t2 macs3 ips4 i5 h6 t28 V64 .undef I0 m0 K S59)
 (qIt X t2 macs3 ips4 i5 h6 t28 V64 V61 I0 m0 K S59)) S55) s
def qIu (X:Td)(t2 macs3 ips4 i5 h6 t28 t55 t62:AV) (I0:IvP) (m0:Nat) (K:KvP) (s:Hq):Prop:=
 oK (qAc t55 (.bool true) t62) λV47=>wC Tryz.prog X 131 [V47,(.int .i64 2),(.str ⟨#[104,111,115,116,115]⟩),i5] (λV48 S49=>oK (qAI 3 h6) λV50=>oK (rd1 S49 V50) λV51=>oK (negB true (eqV 0 true V51 (.int .i64 (-1)))) λV52=>qAL V52
 (oK (qAI 5 t2) λV96=>oK (rd1 S49 V96) λV97=>oK (qAI 3 h6) λV98=>oK (rd1 S49 V98) λV99=>oK (qAH 2 V97 V99) λV100=>oK (qAI 1 V100) λV101=>oK (rd1 S49 V101) λV102=>oK (qAI 2 h6) λV103=>oK (rd1 S49 V103) λV104=>wC Tryz.prog X 155 [V102,V104] (λV105 S106=>oK (qBm .not V105) λV107=>qIT X t2 macs3 ips4 i5 h6 t28 V52 V107 I0 m0 K S106) S49)
 (qIT X t2 macs3 ips4 i5 h6 t28 V52 .undef I0 m0 K S49)) s
def qIj (X:Td)(t2 macs3 ips4 i5 h6 t28 t41 t44:AV) (I0:IvP) (m0:Nat) (K:KvP) (s:Hq):Prop:=
 oK (qAc t41 (.bool true) t44) λV35=>wC Tryz.prog X 131 [V35,(.int .i64 2),(.str ⟨#[104,111,115,116,115]⟩),i5] (λV36 S37=>oK (qAI 2 h6) λV38=>oK (rd1 S37 V38) λV39=>oK (qAI 4 t2) λV40=>oK (rd1 S37 V40) λV41=>oK (qAS V41) λV42=>wC Tryz.prog X 95 [V39,(.int .i64 V42)] (λV44 S45=>oK (qBm .not V44) λV46=>qAL V46
 (qIu X t2 macs3 ips4 i5 h6 t28 V46 .undef I0 m0 K S45)
 (oK (qAI 3 h6) λV108=>oK (rd1 S45 V108) λV109=>oK (qAI 5 t2) λV110=>oK (rd1 S45 V110) λV111=>oK (qAS V111) λV112=>oK (qAB .sub (.int .i64 V112) (.int .i64 1)) λV114=>wC Tryz.prog X 132 [V109,(.int .i64 (-1)),V114] (λV115 S116=>qIu X t2 macs3 ips4 i5 h6 t28 V46 V115 I0 m0 K S116) S45)) S37) s
def qIm (X:Td)(t2 macs3 ips4 i5 h6 t28 t36 t39:AV) (I0:IvP) (m0:Nat) (K:KvP) (s:Hq):Prop:=
 oK (qAc t36 (.bool true) t39) λV34=>qAL V34
 (qIj X t2 macs3 ips4 i5 h6 t28 V34 .undef I0 m0 K s)
 (oK (qAI 0 h6) λV117=>oK (rd1 s V117) λV118=>wC Tryz.prog X 154 [V118] (λV119 S120=>qIj X t2 macs3 ips4 i5 h6 t28 V34 V119 I0 m0 K S120) s)
def qOC (X:Td)(t2 macs3 ips4 t26 t27 t28:AV) (I0:IvP) (m0:Nat) (K:KvP) (s:Hq):Prop:=
 oK (qAB .lss t28 t27) λV25=>qAL V25
 (oK (qAH 4 t26 t28) λV26=>oK (rdN s 4 V26) λV27=>newK 136 [(.int .u64 0),(.int .u32 0),(.int .i64 0),(.int .i64 0)] (λB28 S29=>oK (qAn S29 4 (.ptr B28 0) (.agg V27)) λS30=>oK (qAI 0 (.ptr B28 0)) λV31=>oK (rd1 S30 V31) λV32=>oK (negB false (eqV 0 true V32 (.int .u64 0))) λV33=>qAL V33
 (qIm X t2 macs3 ips4 t28 (.ptr B28 0) t28 V33 .undef I0 m0 K S30)
 (oK (qAI 0 (.ptr B28 0)) λV121=>oK (rd1 S30 V121) λV122=>oK (qAB .gtr V122 (.int .u64 281474976710655)) λV123=>qIm X t2 macs3 ips4 t28 (.ptr B28 0) t28 V33 V123 I0 m0 K S30)) s)
 (K (.tup []) s)
def qVn (X:Td)(c0:AV) (K:KvP) (s:Hq):Prop:=
 oK (qAl c0) λV0=>oK (qAI 0 V0) λV1=>oK (rdN s 19 V1) λV2=>newK 68 zR1 (λB3 S4=>oK (qAn S4 19 (.ptr B3 0) (.agg V2)) λS5=>oK (qAI 6 (.ptr B3 0)) λV6=>oK (rd1 S5 V6) λV7=>oK (qAS V7) λV8=>oK (qAB .gtr (.int .i64 V8) (.int .i64 128)) λV10=>wC Tryz.prog X 131 [V10,(.int .i64 7),(.str ⟨#[104,111,115,116,115]⟩),(.int .i64 128)] (λV11 S12=>oK (qAI 6 (.ptr B3 0)) λV13=>oK (rd1 S12 V13) λV14=>wC Tryz.prog X 151 [V14,(.fn (.func 152) [] [])] (λV15 S16=>oK (qAI 6 (.ptr B3 0)) λV17=>oK (rd1 S16 V17) λV18=>wC Tryz.prog X 151 [V18,(.fn (.func 153) [] [])] (λV19 S20=>oK (qAI 6 (.ptr B3 0)) λV21=>oK (rd1 S20 V21) λV22=>oK (qAS V22) λV23=>∃ I0:IvP,(∃ m,I0 [(.int .i64 0)] S20 m)∧∀ (f:Env) (s:Hq) (m0:Nat),I0 [f 28] s m0→
 qOC X (.ptr B3 0) V15 V19 V22 (.int .i64 V23) (f 28) I0 m0 K s) S16) S12) S5) s
def qRz:Nat→List Nat:=λk=>cond (Nat.beq k 10) [28] ([])
theorem qUu {X:Td} (hX:FrX X) (hn:X 113=none) {c0:AV} {K:KvP} {s:Hq} (h:qVn X c0 K s):wC Tryz.prog X 113 [c0] K s:=
 qAE hX qRz hn Tryz.func113 (by kernel_rfl:Tryz.f113.body=some (qAU Tryz.f113)) (by kernel_rfl) (Eq.mpr (by kernel_rfl) h)
theorem qUF {c0:AV} {K:KvP} {s:Hq} (h:qVn XX c0 K s):wC Tryz.prog XX 113 [c0] K s:=qUu qAy rfl h
def qIM (X:Td)(again4 i5 t24 t52 t56:AV) (I0:IvP) (m0:Nat) (K:KvP) (s:Hq):Prop:=
 oK (qAc t52 (.bool true) t56) λV44=>wC Tryz.prog X 131 [V44,(.int .i64 3),(.str ⟨#[108,101,97,107,115]⟩),i5] (λV45 S46=>oK (qAH 1 again4 i5) λV47=>oK (rd1 S46 V47) λV48=>wC Tryz.prog X 131 [V48,(.int .i64 11),(.str ⟨#[108,101,97,107,115]⟩),i5] (λV49 S50=>oK (qAB .add t24 (.int .i64 1)) λV51=>∃ m',m' < m0∧I0 [V51] S50 m') S46) s
def qId (X:Td)(again4 i5 l6 t24 t36 t43:AV) (I0:IvP) (m0:Nat) (K:KvP) (s:Hq):Prop:=
 oK (qAc t36 (.bool true) t43) λV36=>wC Tryz.prog X 131 [V36,(.int .i64 2),(.str ⟨#[108,101,97,107,115]⟩),i5] (λV37 S38=>oK (qAI 0 l6) λV39=>oK (rd1 S38 V39) λV40=>oK (qAI 1 l6) λV41=>oK (rd1 S38 V41) λV42=>oK (negB false (eqV 0 false V40 V42)) λV43=>qAL V43
 (qIM X again4 i5 t24 V43 .undef I0 m0 K S38)
 (oK (qAI 2 l6) λV52=>oK (rdN S38 2 V52) λV53=>wC Tryz.prog X 142 [(.agg V53)] (λV54 S55=>oK (qBm .not V54) λV56=>qIM X again4 i5 t24 V43 V56 I0 m0 K S55) S38)) s
def qPH (X:Td)(t2 again4 t22 t23 t24:AV) (I0:IvP) (m0:Nat) (K:KvP) (s:Hq):Prop:=
 oK (qAB .lss t24 t23) λV21=>qAL V21
 (oK (qAH 4 t22 t24) λV22=>oK (rdN s 4 V22) λV23=>newK 140 [(.int .i64 0),(.int .i64 0),(.int .u32 0),(.int .i64 0)] (λB24 S25=>oK (qAn S25 4 (.ptr B24 0) (.agg V23)) λS26=>oK (qAI 0 (.ptr B24 0)) λV27=>oK (rd1 S26 V27) λV28=>oK (qAI 3 t2) λV29=>oK (rd1 S26 V29) λV30=>oK (qAS V30) λV31=>wC Tryz.prog X 95 [V28,(.int .i64 V31)] (λV33 S34=>oK (qBm .not V33) λV35=>qAL V35
 (qId X again4 t24 (.ptr B24 0) t24 V35 .undef I0 m0 K S34)
 (oK (qAI 1 (.ptr B24 0)) λV57=>oK (rd1 S34 V57) λV58=>oK (qAI 3 t2) λV59=>oK (rd1 S34 V59) λV60=>oK (qAS V60) λV61=>wC Tryz.prog X 95 [V58,(.int .i64 V61)] (λV63 S64=>oK (qBm .not V63) λV65=>qId X again4 t24 (.ptr B24 0) t24 V35 V65 I0 m0 K S64) S34)) S26) s)
 (K (.tup []) s)
def qVz (X:Td)(c0:AV) (K:KvP) (s:Hq):Prop:=
 oK (qAl c0) λV0=>oK (qAI 0 V0) λV1=>oK (rdN s 19 V1) λV2=>newK 68 zR1 (λB3 S4=>oK (qAn S4 19 (.ptr B3 0) (.agg V2)) λS5=>oK (qAI 7 (.ptr B3 0)) λV6=>oK (rd1 S5 V6) λV7=>oK (qAS V7) λV8=>oK (qAB .gtr (.int .i64 V8) (.int .i64 256)) λV10=>wC Tryz.prog X 131 [V10,(.int .i64 7),(.str ⟨#[108,101,97,107,115]⟩),(.int .i64 256)] (λV11 S12=>oK (qAI 7 (.ptr B3 0)) λV13=>oK (rd1 S12 V13) λV14=>wC Tryz.prog X 158 [V14,(.fn (.func 159) [] [])] (λV15 S16=>oK (qAI 7 (.ptr B3 0)) λV17=>oK (rd1 S16 V17) λV18=>oK (qAS V18) λV19=>∃ I0:IvP,(∃ m,I0 [(.int .i64 0)] S16 m)∧∀ (f:Env) (s:Hq) (m0:Nat),I0 [f 24] s m0→
 qPH X (.ptr B3 0) V15 V18 (.int .i64 V19) (f 24) I0 m0 K s) S12) S5) s
def qR5:Nat→List Nat:=λk=>cond (Nat.beq k 10) [24] ([])
theorem qUX {X:Td} (hX:FrX X) (hn:X 114=none) {c0:AV} {K:KvP} {s:Hq} (h:qVz X c0 K s):wC Tryz.prog X 114 [c0] K s:=
 qAE hX qR5 hn Tryz.func114 (by kernel_rfl:Tryz.f114.body=some (qAU Tryz.f114)) (by kernel_rfl) (Eq.mpr (by kernel_rfl) h)
theorem qUI {c0:AV} {K:KvP} {s:Hq} (h:qVz XX c0 K s):wC Tryz.prog XX 114 [c0] K s:=qUX qAy rfl h
def qUk (X:Td)(bad0 err1 part2 index3:AV) (K:KvP) (s:Hq):Prop:=
 qAL bad0
 (oK (qBO [(.int .i64 0),(.str ⟨#[]⟩),(.int .i64 0)] [(0,1,err1),(1,1,part2),(2,1,index3)]) λC0=>
False /- op -/)
 (K (.tup []) s)
def qU6:Nat→List Nat:=λ_=>[]
theorem qWr {X:Td} (hX:FrX X) (hn:X 131=none) {bad0 err1 part2 index3:AV} {K:KvP} {s:Hq} (h:qUk X bad0 err1 part2 index3 K s):wC Tryz.prog X 131 [bad0,err1,part2,index3] K s:=
 qAE hX qU6 hn Tryz.func131 (by kernel_rfl:Tryz.f131.body=some (qAU Tryz.f131)) (by kernel_rfl) (Eq.mpr (by kernel_rfl) h)
theorem qXR {bad0 err1 part2 index3:AV} {K:KvP} {s:Hq} (h:qUk XX bad0 err1 part2 index3 K s):wC Tryz.prog XX 131 [bad0,err1,part2,index3] K s:=qWr qAy rfl h
def qLk (X:Td)(t10 t13:AV) (K:KvP) (s:Hq):Prop:=
 oK (qAc t10 (.bool true) t13) λV1=>K V1 s
def qPt (X:Td)(n0 low1 high2:AV) (K:KvP) (s:Hq):Prop:=
 oK (qAB .lss n0 low1) λV0=>qAL V0
 (qLk X V0 .undef K s)
 (oK (qAB .gtr n0 high2) λV2=>qLk X V0 V2 K s)
def qPf:Nat→List Nat:=λ_=>[]
theorem qRg {X:Td} (hX:FrX X) (hn:X 132=none) {n0 low1 high2:AV} {K:KvP} {s:Hq} (h:qPt X n0 low1 high2 K s):wC Tryz.prog X 132 [n0,low1,high2] K s:=
 qAE hX qPf hn Tryz.func132 (by kernel_rfl:Tryz.f132.body=some (qAU Tryz.f132)) (by kernel_rfl) (Eq.mpr (by kernel_rfl) h)
def qFS (X:Td)(key1 seen5 again6 t16 t17 t18:AV) (I0:IvP) (m0:Nat) (K:KvP) (s:Hq):Prop:=
 oK (qAB .lss t18 t17) λV12=>qAL V12
 (oK (qAH 3 t16 t18) λV13=>oK (rdN s 3 V13) λV14=>newK 110 [(.int .i64 0),(.int .i64 0),(.int .i64 0)] (λB15 S16=>oK (qAn S16 3 (.ptr B15 0) (.agg V14)) λS17=>oK (rdN S17 3 (.ptr B15 0)) λV18=>funK Tryz.prog X key1 [(.agg V18)] (λV19 S20=>newK 206 [(.int .i64 0),(.int .i64 0)] (λB21 S22=>oK (qAn S22 2 (.ptr B21 0) V19) λS23=>oK (rdN S23 2 (.ptr B21 0)) λV24=>oK (getG Tryz.prog 206 S23 seen5 (.agg V24)) λr_25=>oK (qAH 1 again6 t18) λV26=>oK (wr1 S23 V26 (retM (.bool false) false r_25)) λS27=>oK (rdN S27 2 (.ptr B21 0)) λV28=>oK (putG Tryz.prog 206 S27 seen5 (.agg V28) (.bool true)) λS29=>oK (qAB .add t18 (.int .i64 1)) λV30=>∃ m',m' < m0∧I0 [V30] S29 m') S20) S17) s)
 (K again6 s)
def qG1 (X:Td)(l0 key1:AV) (K:KvP) (s:Hq):Prop:=
 oK (qAS l0) λV0=>intK (.int .i64 V0) (mapK (λV2 S3=>oK (qAS l0) λV4=>oK (nat? (.int .i64 V4)) λn_6=>oK (nat? (.int .i64 V4)) λn_7=>(n_6≤n_7∧n_7≤4294967296)∧newK 4 (repl n_7 [(.bool false)]) (λB8 S9=>oK (qAS l0) λV10=>∃ I0:IvP,(∃ m,I0 [(.int .i64 0)] S9 m)∧∀ (f:Env) (s:Hq) (m0:Nat),I0 [f 18] s m0→
 qFS X key1 V2 (.slc B8 0 n_6 (some n_7) 1) l0 (.int .i64 V10) (f 18) I0 m0 K s) S3) s)
def qIZ:Nat→List Nat:=λk=>cond (Nat.beq k 8) [18] ([])
theorem qJI {X:Td} (hX:FrX X) (hn:X 133=none) {l0 key1:AV} {K:KvP} {s:Hq} (h:qG1 X l0 key1 K s):wC Tryz.prog X 133 [l0,key1] K s:=
 qAE hX qIZ hn Tryz.func133 (by kernel_rfl:Tryz.f133.body=some (qAU Tryz.f133)) (by kernel_rfl) (Eq.mpr (by kernel_rfl) h)
def qWU (X:Td)(l0:AV) (K:KvP) (s:Hq):Prop:=
 boxK 110 l0 (λB0 S1=>newK 206 [(.int .i64 0),(.int .i64 0)] (λB2 S3=>oK (qAI 0 B0) λV4=>oK (rd1 S3 V4) λV5=>oK (qAI 1 B0) λV6=>oK (rd1 S3 V6) λV7=>oK (qBO [(.int .i64 0),(.int .i64 0)] [(0,1,V5),(1,1,V7)]) λC8=>oK (qAn S3 2 (.ptr B2 0) (.agg C8)) λS9=>oK (rdN S9 2 (.ptr B2 0)) λt2_10=>K (.agg t2_10) S9) S1) s
def qPT:Nat→List Nat:=λ_=>[]
theorem qRp {X:Td} (hX:FrX X) (hn:X 134=none) {l0:AV} {K:KvP} {s:Hq} (h:qWU X l0 K s):wC Tryz.prog X 134 [l0] K s:=
 qAE hX qPT hn Tryz.func134 (by kernel_rfl:Tryz.f134.body=some (qAU Tryz.f134)) (by kernel_rfl) (Eq.mpr (by kernel_rfl) h)
def qEr (X:Td)(key1 seen5 again6 t16 t17 t18:AV) (I0:IvP) (m0:Nat) (K:KvP) (s:Hq):Prop:=
 oK (qAB .lss t18 t17) λV12=>qAL V12
 (oK (qAH 2 t16 t18) λV13=>oK (rdN s 2 V13) λV14=>newK 112 [(.int .u32 0),(.int .u32 0)] (λB15 S16=>oK (qAn S16 2 (.ptr B15 0) (.agg V14)) λS17=>oK (rdN S17 2 (.ptr B15 0)) λV18=>funK Tryz.prog X key1 [(.agg V18)] (λV19 S20=>oK (getM S20 seen5 V19) λr_21=>oK (qAH 1 again6 t18) λV22=>oK (wr1 S20 V22 (retM (.bool false) false r_21)) λS23=>oK (putM S23 seen5 V19 (.bool true)) λS24=>oK (qAB .add t18 (.int .i64 1)) λV25=>∃ m',m' < m0∧I0 [V25] S24 m') S17) s)
 (K again6 s)
def qFr (X:Td)(l0 key1:AV) (K:KvP) (s:Hq):Prop:=
 oK (qAS l0) λV0=>intK (.int .i64 V0) (mapK (λV2 S3=>oK (qAS l0) λV4=>oK (nat? (.int .i64 V4)) λn_6=>oK (nat? (.int .i64 V4)) λn_7=>(n_6≤n_7∧n_7≤4294967296)∧newK 4 (repl n_7 [(.bool false)]) (λB8 S9=>oK (qAS l0) λV10=>∃ I0:IvP,(∃ m,I0 [(.int .i64 0)] S9 m)∧∀ (f:Env) (s:Hq) (m0:Nat),I0 [f 18] s m0→
 qEr X key1 V2 (.slc B8 0 n_6 (some n_7) 1) l0 (.int .i64 V10) (f 18) I0 m0 K s) S3) s)
def qHp:Nat→List Nat:=λk=>cond (Nat.beq k 8) [18] ([])
theorem qH5 {X:Td} (hX:FrX X) (hn:X 135=none) {l0 key1:AV} {K:KvP} {s:Hq} (h:qFr X l0 key1 K s):wC Tryz.prog X 135 [l0,key1] K s:=
 qAE hX qHp hn Tryz.func135 (by kernel_rfl:Tryz.f135.body=some (qAU Tryz.f135)) (by kernel_rfl) (Eq.mpr (by kernel_rfl) h)
def qS4 (X:Td)(t0:AV) (K:KvP) (s:Hq):Prop:=
 boxK 112 t0 (λB0 S1=>oK (qAI 0 B0) λV2=>oK (rd1 S1 V2) λV3=>K V3 S1) s
def qNj:Nat→List Nat:=λ_=>[]
theorem qOs {X:Td} (hX:FrX X) (hn:X 136=none) {t0:AV} {K:KvP} {s:Hq} (h:qS4 X t0 K s):wC Tryz.prog X 136 [t0] K s:=
 qAE hX qNj hn Tryz.func136 (by kernel_rfl:Tryz.f136.body=some (qAU Tryz.f136)) (by kernel_rfl) (Eq.mpr (by kernel_rfl) h)
def qO7 (X:Td)(t0:AV) (K:KvP) (s:Hq):Prop:=
 boxK 112 t0 (λB0 S1=>oK (qAI 1 B0) λV2=>oK (rd1 S1 V2) λV3=>K V3 S1) s
def qLN:Nat→List Nat:=λ_=>[]
theorem qLd {X:Td} (hX:FrX X) (hn:X 137=none) {t0:AV} {K:KvP} {s:Hq} (h:qO7 X t0 K s):wC Tryz.prog X 137 [t0] K s:=
 qAE hX qLN hn Tryz.func137 (by kernel_rfl:Tryz.f137.body=some (qAU Tryz.f137)) (by kernel_rfl) (Eq.mpr (by kernel_rfl) h)
def qGK (X:Td)(key1 seen5 again6 t16 t17 t18:AV) (I0:IvP) (m0:Nat) (K:KvP) (s:Hq):Prop:=
 oK (qAB .lss t18 t17) λV12=>qAL V12
 (oK (qAH 6 t16 t18) λV13=>oK (rdN s 6 V13) λV14=>newK 114 [(.int .i64 0),(.int .u32 0),(.int .u32 0),(.int .u32 0),(.int .i64 0),(.int .u32 0)] (λB15 S16=>oK (qAn S16 6 (.ptr B15 0) (.agg V14)) λS17=>oK (rdN S17 6 (.ptr B15 0)) λV18=>funK Tryz.prog X key1 [(.agg V18)] (λV19 S20=>oK (getM S20 seen5 V19) λr_21=>oK (qAH 1 again6 t18) λV22=>oK (wr1 S20 V22 (retM (.bool false) false r_21)) λS23=>oK (putM S23 seen5 V19 (.bool true)) λS24=>oK (qAB .add t18 (.int .i64 1)) λV25=>∃ m',m' < m0∧I0 [V25] S24 m') S17) s)
 (K again6 s)
def qIH (X:Td)(l0 key1:AV) (K:KvP) (s:Hq):Prop:=
 oK (qAS l0) λV0=>intK (.int .i64 V0) (mapK (λV2 S3=>oK (qAS l0) λV4=>oK (nat? (.int .i64 V4)) λn_6=>oK (nat? (.int .i64 V4)) λn_7=>(n_6≤n_7∧n_7≤4294967296)∧newK 4 (repl n_7 [(.bool false)]) (λB8 S9=>oK (qAS l0) λV10=>∃ I0:IvP,(∃ m,I0 [(.int .i64 0)] S9 m)∧∀ (f:Env) (s:Hq) (m0:Nat),I0 [f 18] s m0→
 qGK X key1 V2 (.slc B8 0 n_6 (some n_7) 1) l0 (.int .i64 V10) (f 18) I0 m0 K s) S3) s)
def qKA:Nat→List Nat:=λk=>cond (Nat.beq k 8) [18] ([])
theorem qKg {X:Td} (hX:FrX X) (hn:X 138=none) {l0 key1:AV} {K:KvP} {s:Hq} (h:qIH X l0 key1 K s):wC Tryz.prog X 138 [l0,key1] K s:=
 qAE hX qKA hn Tryz.func138 (by kernel_rfl:Tryz.f138.body=some (qAU Tryz.f138)) (by kernel_rfl) (Eq.mpr (by kernel_rfl) h)
def qTY (X:Td)(b0:AV) (K:KvP) (s:Hq):Prop:=
 boxK 114 b0 (λB0 S1=>oK (qAI 1 B0) λV2=>oK (rd1 S1 V2) λV3=>K V3 S1) s
def qNh:Nat→List Nat:=λ_=>[]
theorem qOg {X:Td} (hX:FrX X) (hn:X 139=none) {b0:AV} {K:KvP} {s:Hq} (h:qTY X b0 K s):wC Tryz.prog X 139 [b0] K s:=
 qAE hX qNh hn Tryz.func139 (by kernel_rfl:Tryz.f139.body=some (qAU Tryz.f139)) (by kernel_rfl) (Eq.mpr (by kernel_rfl) h)
def qO6 (X:Td)(b0:AV) (K:KvP) (s:Hq):Prop:=
 boxK 114 b0 (λB0 S1=>oK (qAI 2 B0) λV2=>oK (rd1 S1 V2) λV3=>K V3 S1) s
def qLH:Nat→List Nat:=λ_=>[]
theorem qMS {X:Td} (hX:FrX X) (hn:X 140=none) {b0:AV} {K:KvP} {s:Hq} (h:qO6 X b0 K s):wC Tryz.prog X 140 [b0] K s:=
 qAE hX qLH hn Tryz.func140 (by kernel_rfl:Tryz.f140.body=some (qAU Tryz.f140)) (by kernel_rfl) (Eq.mpr (by kernel_rfl) h)
def qHt (X:Td)(l0 key1 k2:AV) (K:KvP) (s:Hq):Prop:=
 boxK 209 key1 (λB0 S1=>boxK 32 k2 (λB2 S3=>wC Tryz.prog X 172 [l0,(.fn (.func 173) [] [B0,B2])] (λV4 S5=>K V4 S5) S3) S1) s
def qGA:Nat→List Nat:=λ_=>[]
theorem qGP {X:Td} (hX:FrX X) (hn:X 141=none) {l0 key1 k2:AV} {K:KvP} {s:Hq} (h:qHt X l0 key1 k2 K s):wC Tryz.prog X 141 [l0,key1,k2] K s:=
 qAE hX qGA hn Tryz.func141 (by kernel_rfl:Tryz.f141.body=some (qAU Tryz.f141)) (by kernel_rfl) (Eq.mpr (by kernel_rfl) h)
def qOZ (X:Td)(t12 t15:AV) (K:KvP) (s:Hq):Prop:=
 oK (qAc t12 t15 (.bool false)) λV11=>K V11 s
def zACK (X:Td)(p0:AV) (K:KvP) (s:Hq):Prop:=
 boxK 41 p0 (λB0 S1=>oK (rdN S1 2 B0) λV2=>wC Tryz.prog X 174 [(.agg V2)] (λV3 S4=>oK (qAX V3 0) λV5=>oK (qAX V3 1) λV6=>newK 41 [(.int .u32 0),(.int .i64 0)] (λB7 S8=>oK (qAn S8 2 (.ptr B7 0) V5) λS9=>oK (negB false (eqV 0 true V6 (.int .i64 0))) λV10=>qAL V10
 (oK (rdN S9 2 (.ptr B7 0)) λV12=>oK (rdN S9 2 B0) λV13=>oK (negB false (qGQ Tryz.prog 41 (.agg V12) (.agg V13))) λV14=>qOZ X V10 V14 K S9)
 (qOZ X V10 .undef K S9)) S4) S1) s
def qTZ:Nat→List Nat:=λ_=>[]
theorem qTo {X:Td} (hX:FrX X) (hn:X 142=none) {p0:AV} {K:KvP} {s:Hq} (h:zACK X p0 K s):wC Tryz.prog X 142 [p0] K s:=
 qAE hX qTZ hn Tryz.func142 (by kernel_rfl:Tryz.f142.body=some (qAU Tryz.f142)) (by kernel_rfl) (Eq.mpr (by kernel_rfl) h)
def qLQ (X:Td)(t23 t26:AV) (K:KvP) (s:Hq):Prop:=
 oK (qAc t23 t26 (.bool false)) λV14=>K V14 s
def qK3 (X:Td)(ip1 last5 t17 t21:AV) (K:KvP) (s:Hq):Prop:=
 oK (qAc t17 t21 (.bool false)) λV13=>qAL V13
 (oK (negB true (eqV 0 false ip1 last5)) λV15=>qLQ X V13 V15 K s)
 (qLQ X V13 .undef K s)
def zABW (X:Td)(p0 ip1:AV) (K:KvP) (s:Hq):Prop:=
 boxK 41 p0 (λB0 S1=>oK (qAI 0 B0) λV2=>oK (rd1 S1 V2) λV3=>oK (qAI 1 B0) λV4=>oK (rd1 S1 V4) λV5=>oK (qAB .sub (.int .i64 32) V5) λV6=>oK (qBk .shl (.int .u32 1) V6) λV7=>oK (qAB .sub V7 (.int .u32 1)) λV8=>oK (qAB .or V3 V8) λV9=>oK (rdN S1 2 B0) λV10=>wC Tryz.prog X 146 [(.agg V10),ip1] (λV11 S12=>qAL V11
 (oK (qAI 0 B0) λV16=>oK (rd1 S12 V16) λV17=>oK (negB true (eqV 0 false ip1 V17)) λV18=>qK3 X ip1 V9 V11 V18 K S12)
 (qK3 X ip1 V9 V11 .undef K S12)) S1) s
def qSC:Nat→List Nat:=λ_=>[]
theorem qU2 {X:Td} (hX:FrX X) (hn:X 143=none) {p0 ip1:AV} {K:KvP} {s:Hq} (h:zABW X p0 ip1 K s):wC Tryz.prog X 143 [p0,ip1] K s:=
 qAE hX qSC hn Tryz.func143 (by kernel_rfl:Tryz.f143.body=some (qAU Tryz.f143)) (by kernel_rfl) (Eq.mpr (by kernel_rfl) h)
def qC4 (X:Td)(t0 t1:AV) (K:KvP) (s:Hq):Prop:=
 wC Tryz.prog X 175 [t0,t1] (λV0 S1=>oK (qAB .geq V0 (.int .i64 0)) λV2=>K V2 S1) s
def qEM:Nat→List Nat:=λ_=>[]
theorem qEe {X:Td} (hX:FrX X) (hn:X 144=none) {t0 t1:AV} {K:KvP} {s:Hq} (h:qC4 X t0 t1 K s):wC Tryz.prog X 144 [t0,t1] K s:=
 qAE hX qEM hn Tryz.func144 (by kernel_rfl:Tryz.f144.body=some (qAU Tryz.f144)) (by kernel_rfl) (Eq.mpr (by kernel_rfl) h)
def qJ5 (X:Td)(t14 t21 t27:AV) (K:KvP) (s:Hq):Prop:=
 oK (qAc t21 (.bool true) t27) λV15=>oK (qAc t14 V15 (.bool false)) λV16=>K V16 s
def qFI (X:Td)(t1 x2 t9 t12:AV) (K:KvP) (s:Hq):Prop:=
 oK (qAc t9 t12 (.bool false)) λV7=>qAL V7
 (oK (qAI 3 x2) λV8=>oK (rdN s 2 V8) λV9=>oK (qAI 3 t1) λV10=>oK (qAI 0 V10) λV11=>oK (rd1 s V11) λV12=>wC Tryz.prog X 146 [(.agg V9),V12] (λV13 S14=>qAL V13
 (qJ5 X V7 V13 .undef K S14)
 (oK (qAI 3 t1) λV17=>oK (rdN S14 2 V17) λV18=>oK (qAI 3 x2) λV19=>oK (qAI 0 V19) λV20=>oK (rd1 S14 V20) λV21=>wC Tryz.prog X 146 [(.agg V18),V21] (λV22 S23=>qJ5 X V7 V13 V22 K S23) S14)) s)
 (oK (qAc V7 .undef (.bool false)) λV24=>K V24 s)
def qSQ (X:Td)(x0 t1:AV) (K:KvP) (s:Hq):Prop:=
 boxK 114 x0 (λB0 S1=>oK (qAI 0 B0) λV2=>oK (rd1 S1 V2) λV3=>oK (qAI 0 t1) λV4=>oK (rd1 S1 V4) λV5=>oK (negB false (eqV 0 false V3 V5)) λV6=>qAL V6
 (oK (qAI 5 B0) λV25=>oK (rd1 S1 V25) λV26=>oK (negB true (eqV 0 true V26 (.int .u32 0))) λV27=>qFI X t1 B0 V6 V27 K S1)
 (qFI X t1 B0 V6 .undef K S1)) s
def qNb:Nat→List Nat:=λ_=>[]
theorem qOl {X:Td} (hX:FrX X) (hn:X 145=none) {x0 t1:AV} {K:KvP} {s:Hq} (h:qSQ X x0 t1 K s):wC Tryz.prog X 145 [x0,t1] K s:=
 qAE hX qNb hn Tryz.func145 (by kernel_rfl:Tryz.f145.body=some (qAU Tryz.f145)) (by kernel_rfl) (Eq.mpr (by kernel_rfl) h)
def qNe (X:Td)(p0 ip1:AV) (K:KvP) (s:Hq):Prop:=
 boxK 41 p0 (λB0 S1=>oK (rdN S1 2 B0) λV2=>wC Tryz.prog X 176 [(.agg V2)] (λV3 S4=>qAL V3
 (oK (qAI 0 B0) λV5=>oK (rd1 S4 V5) λV6=>oK (qAB .xor V6 ip1) λV7=>oK (qAI 1 B0) λV8=>oK (rd1 S4 V8) λV9=>wC Tryz.prog X 177 [V9] (λV10 S11=>(∀ b,S4 b≠none→S4 b=none→S11 b=none)→
 oK (qAB .and V7 V10) λV12=>oK (negB false (eqV 0 true V12 (.int .u32 0))) λV13=>oK (qAc V3 V13 (.bool false)) λV14=>K V14 (add S4 S11)) (frz S4))
 (oK (qAc V3 .undef (.bool false)) λV15=>K V15 S4)) S1) s
def qKi:Nat→List Nat:=λ_=>[]
theorem qLS {X:Td} (hX:FrX X) (hn:X 146=none) {p0 ip1:AV} {K:KvP} {s:Hq} (h:qNe X p0 ip1 K s):wC Tryz.prog X 146 [p0,ip1] K s:=
 qAE hX qKi hn Tryz.func146 (by kernel_rfl:Tryz.f146.body=some (qAU Tryz.f146)) (by kernel_rfl) (Eq.mpr (by kernel_rfl) h)
def qD1 (X:Td)(t0 t1:AV) (K:KvP) (s:Hq):Prop:=
 wC Tryz.prog X 178 [t0,t1] (λV0 S1=>oK (qAB .geq V0 (.int .i64 0)) λV2=>K V2 S1) s
def qFq:Nat→List Nat:=λ_=>[]
theorem qGC {X:Td} (hX:FrX X) (hn:X 147=none) {t0 t1:AV} {K:KvP} {s:Hq} (h:qD1 X t0 t1 K s):wC Tryz.prog X 147 [t0,t1] K s:=
 qAE hX qFq hn Tryz.func147 (by kernel_rfl:Tryz.f147.body=some (qAU Tryz.f147)) (by kernel_rfl) (Eq.mpr (by kernel_rfl) h)
def qMO (X:Td)(n0 t1:AV) (K:KvP) (s:Hq):Prop:=
 oK (qAI 0 t1) λV0=>oK (rd1 s V0) λV1=>wC Tryz.prog X 95 [n0,V1] (λV2 S3=>oK (qBm .not V2) λV4=>K V4 S3) s
def qMr:Nat→List Nat:=λ_=>[]
theorem qNp {X:Td} (hX:FrX X) (hn:X 148=none) {n0 t1:AV} {K:KvP} {s:Hq} (h:qMO X n0 t1 K s):wC Tryz.prog X 148 [n0,t1] K s:=
 qAE hX qMr hn Tryz.func148 (by kernel_rfl:Tryz.f148.body=some (qAU Tryz.f148)) (by kernel_rfl) (Eq.mpr (by kernel_rfl) h)
def qLm (X:Td)(b0 t1:AV) (K:KvP) (s:Hq):Prop:=
 oK (qAI 4 t1) λV0=>oK (rd1 s V0) λV1=>oK (qAS V1) λV2=>wC Tryz.prog X 95 [b0,(.int .i64 V2)] (λV4 S5=>oK (qBm .not V4) λV6=>K V6 S5) s
def qMs:Nat→List Nat:=λ_=>[]
theorem qNZ {X:Td} (hX:FrX X) (hn:X 149=none) {b0 t1:AV} {K:KvP} {s:Hq} (h:qLm X b0 t1 K s):wC Tryz.prog X 149 [b0,t1] K s:=
 qAE hX qMs hn Tryz.func149 (by kernel_rfl:Tryz.f149.body=some (qAU Tryz.f149)) (by kernel_rfl) (Eq.mpr (by kernel_rfl) h)
def qJb (X:Td)(l0 i3:AV) (I0:IvP) (m0:Nat) (K:KvP) (s:Hq):Prop:=
 oK (qAS l0) λV0=>oK (qAB .lss i3 (.int .i64 V0)) λV2=>qAL V2
 (oK (qAH 1 l0 i3) λV3=>oK (rd1 s V3) λV4=>oK (qAB .sub i3 (.int .i64 1)) λV5=>oK (qAH 1 l0 V5) λV6=>oK (rd1 s V6) λV7=>oK (qAB .leq V4 V7) λV8=>qAL V8
 (K (.bool false) s)
 (oK (qAB .add i3 (.int .i64 1)) λV9=>∃ m',m' < m0∧I0 [V9] s m'))
 (K (.bool true) s)
def qM7 (X:Td)(l0:AV) (K:KvP) (s:Hq):Prop:=
 ∃ I0:IvP,(∃ m,I0 [(.int .i64 1)] s m)∧∀ (f:Env) (s:Hq) (m0:Nat),I0 [f 3] s m0→
 qJb X l0 (f 3) I0 m0 K s
def qNU:Nat→List Nat:=λk=>cond (Nat.beq k 4) [3] ([])
theorem qPR {X:Td} (hX:FrX X) (hn:X 150=none) {l0:AV} {K:KvP} {s:Hq} (h:qM7 X l0 K s):wC Tryz.prog X 150 [l0] K s:=
 qAE hX qNU hn Tryz.func150 (by kernel_rfl:Tryz.f150.body=some (qAU Tryz.f150)) (by kernel_rfl) (Eq.mpr (by kernel_rfl) h)
def qDk (X:Td)(key1 seen5 again6 t16 t17 t18:AV) (I0:IvP) (m0:Nat) (K:KvP) (s:Hq):Prop:=
 oK (qAB .lss t18 t17) λV12=>qAL V12
 (oK (qAH 4 t16 t18) λV13=>oK (rdN s 4 V13) λV14=>newK 136 [(.int .u64 0),(.int .u32 0),(.int .i64 0),(.int .i64 0)] (λB15 S16=>oK (qAn S16 4 (.ptr B15 0) (.agg V14)) λS17=>oK (rdN S17 4 (.ptr B15 0)) λV18=>funK Tryz.prog X key1 [(.agg V18)] (λV19 S20=>newK 223 [(.int .i64 0),(.int .u64 0)] (λB21 S22=>oK (qAn S22 2 (.ptr B21 0) V19) λS23=>oK (rdN S23 2 (.ptr B21 0)) λV24=>oK (getG Tryz.prog 223 S23 seen5 (.agg V24)) λr_25=>oK (qAH 1 again6 t18) λV26=>oK (wr1 S23 V26 (retM (.bool false) false r_25)) λS27=>oK (rdN S27 2 (.ptr B21 0)) λV28=>oK (putG Tryz.prog 223 S27 seen5 (.agg V28) (.bool true)) λS29=>oK (qAB .add t18 (.int .i64 1)) λV30=>∃ m',m' < m0∧I0 [V30] S29 m') S20) S17) s)
 (K again6 s)
def qEJ (X:Td)(l0 key1:AV) (K:KvP) (s:Hq):Prop:=
 oK (qAS l0) λV0=>intK (.int .i64 V0) (mapK (λV2 S3=>oK (qAS l0) λV4=>oK (nat? (.int .i64 V4)) λn_6=>oK (nat? (.int .i64 V4)) λn_7=>(n_6≤n_7∧n_7≤4294967296)∧newK 4 (repl n_7 [(.bool false)]) (λB8 S9=>oK (qAS l0) λV10=>∃ I0:IvP,(∃ m,I0 [(.int .i64 0)] S9 m)∧∀ (f:Env) (s:Hq) (m0:Nat),I0 [f 18] s m0→
 qDk X key1 V2 (.slc B8 0 n_6 (some n_7) 1) l0 (.int .i64 V10) (f 18) I0 m0 K s) S3) s)
def qGD:Nat→List Nat:=λk=>cond (Nat.beq k 8) [18] ([])
theorem qGN {X:Td} (hX:FrX X) (hn:X 151=none) {l0 key1:AV} {K:KvP} {s:Hq} (h:qEJ X l0 key1 K s):wC Tryz.prog X 151 [l0,key1] K s:=
 qAE hX qGD hn Tryz.func151 (by kernel_rfl:Tryz.f151.body=some (qAU Tryz.f151)) (by kernel_rfl) (Eq.mpr (by kernel_rfl) h)
def qWz (X:Td)(h0:AV) (K:KvP) (s:Hq):Prop:=
 boxK 136 h0 (λB0 S1=>newK 223 [(.int .i64 0),(.int .u64 0)] (λB2 S3=>oK (qAI 2 B0) λV4=>oK (rd1 S3 V4) λV5=>oK (qAI 0 B0) λV6=>oK (rd1 S3 V6) λV7=>oK (qBO [(.int .i64 0),(.int .u64 0)] [(0,1,V5),(1,1,V7)]) λC8=>oK (qAn S3 2 (.ptr B2 0) (.agg C8)) λS9=>oK (rdN S9 2 (.ptr B2 0)) λt2_10=>K (.agg t2_10) S9) S1) s
def qPn:Nat→List Nat:=λ_=>[]
theorem qRJ {X:Td} (hX:FrX X) (hn:X 152=none) {h0:AV} {K:KvP} {s:Hq} (h:qWz X h0 K s):wC Tryz.prog X 152 [h0] K s:=
 qAE hX qPn hn Tryz.func152 (by kernel_rfl:Tryz.f152.body=some (qAU Tryz.f152)) (by kernel_rfl) (Eq.mpr (by kernel_rfl) h)
def qXC (X:Td)(h0:AV) (K:KvP) (s:Hq):Prop:=
 boxK 136 h0 (λB0 S1=>newK 223 [(.int .i64 0),(.int .u64 0)] (λB2 S3=>oK (qAI 2 B0) λV4=>oK (rd1 S3 V4) λV5=>oK (qAI 1 B0) λV6=>oK (rd1 S3 V6) λV7=>oK (qBf .u64 V7) λV8=>oK (qBO [(.int .i64 0),(.int .u64 0)] [(0,1,V5),(1,1,V8)]) λC9=>oK (qAn S3 2 (.ptr B2 0) (.agg C9)) λS10=>oK (rdN S10 2 (.ptr B2 0)) λt2_11=>K (.agg t2_11) S10) S1) s
def qPU:Nat→List Nat:=λ_=>[]
theorem qRl {X:Td} (hX:FrX X) (hn:X 153=none) {h0:AV} {K:KvP} {s:Hq} (h:qXC X h0 K s):wC Tryz.prog X 153 [h0] K s:=
 qAE hX qPU hn Tryz.func153 (by kernel_rfl:Tryz.f153.body=some (qAU Tryz.f153)) (by kernel_rfl) (Eq.mpr (by kernel_rfl) h)
def qGL (X:Td)(t5 t9:AV) (K:KvP) (s:Hq):Prop:=
 oK (qAc t5 t9 (.bool false)) λV1=>K V1 s
def qHx (X:Td)(t0:AV) (K:KvP) (s:Hq):Prop:=
 oK (qAB .leq t0 (.int .u64 281474976710655)) λV0=>qAL V0
 (oK (qBk .shr t0 (.int .u64 40)) λV2=>oK (qAB .and V2 (.int .u64 1)) λV3=>oK (negB true (eqV 0 true V3 (.int .u64 0))) λV4=>qGL X V0 V4 K s)
 (qGL X V0 .undef K s)
def qJx:Nat→List Nat:=λ_=>[]
theorem qKd {X:Td} (hX:FrX X) (hn:X 154=none) {t0:AV} {K:KvP} {s:Hq} (h:qHx X t0 K s):wC Tryz.prog X 154 [t0] K s:=
 qAE hX qJx hn Tryz.func154 (by kernel_rfl:Tryz.f154.body=some (qAU Tryz.f154)) (by kernel_rfl) (Eq.mpr (by kernel_rfl) h)
def qFR (X:Td)(t0 v1:AV) (K:KvP) (s:Hq):Prop:=
 wC Tryz.prog X 179 [t0,v1] (λV0 S1=>oK (qAB .geq V0 (.int .i64 0)) λV2=>K V2 S1) s
def qHH:Nat→List Nat:=λ_=>[]
theorem qHr {X:Td} (hX:FrX X) (hn:X 155=none) {t0 v1:AV} {K:KvP} {s:Hq} (h:qFR X t0 v1 K s):wC Tryz.prog X 155 [t0,v1] K s:=
 qAE hX qHH hn Tryz.func155 (by kernel_rfl:Tryz.f155.body=some (qAU Tryz.f155)) (by kernel_rfl) (Eq.mpr (by kernel_rfl) h)
def qCy (X:Td)(t0 t6 t8:AV) (K:KvP) (s:Hq):Prop:=
 oK (qAc t6 (.bool true) t8) λV1=>qAL V1
 (K (.tup [(.int .i64 0),(.bool false)]) s)
 (oK (qAB .sub t0 (.int .u64 2199023255552)) λV2=>oK (qBf .i64 V2) λV3=>K (.tup [V3,(.bool true)]) s)
def qHM (X:Td)(t0:AV) (K:KvP) (s:Hq):Prop:=
 oK (qAB .lss t0 (.int .u64 2199023255552)) λV0=>qAL V0
 (qCy X t0 V0 .undef K s)
 (oK (qAB .geq t0 (.int .u64 2199023255584)) λV4=>qCy X t0 V0 V4 K s)
def qJA:Nat→List Nat:=λ_=>[]
theorem qJL {X:Td} (hX:FrX X) (hn:X 156=none) {t0:AV} {K:KvP} {s:Hq} (h:qHM X t0 K s):wC Tryz.prog X 156 [t0] K s:=
 qAE hX qJA hn Tryz.func156 (by kernel_rfl:Tryz.f156.body=some (qAU Tryz.f156)) (by kernel_rfl) (Eq.mpr (by kernel_rfl) h)
def qJ9 (X:Td)(t16 t20:AV) (K:KvP) (s:Hq):Prop:=
 oK (qAc t16 t20 (.bool false)) λV7=>K V7 s
def qFD (X:Td)(ip1 b2 t10 t14:AV) (K:KvP) (s:Hq):Prop:=
 oK (qAc t10 t14 (.bool false)) λV6=>qAL V6
 (oK (qAI 3 b2) λV8=>oK (rdN s 2 V8) λV9=>wC Tryz.prog X 143 [(.agg V9),ip1] (λV10 S11=>qJ9 X V6 V10 K S11) s)
 (qJ9 X V6 .undef K s)
def qS1 (X:Td)(b0 ip1:AV) (K:KvP) (s:Hq):Prop:=
 boxK 114 b0 (λB0 S1=>oK (negB false (eqV 0 true ip1 (.int .u32 0))) λV2=>qAL V2
 (K (.bool true) S1)
 (oK (qAI 5 B0) λV3=>oK (rd1 S1 V3) λV4=>oK (negB true (eqV 0 true V4 (.int .u32 0))) λV5=>qAL V5
 (oK (qAI 5 B0) λV12=>oK (rd1 S1 V12) λV13=>oK (negB true (eqV 0 false ip1 V13)) λV14=>qFD X ip1 B0 V5 V14 K S1)
 (qFD X ip1 B0 V5 .undef K S1))) s
def qNm:Nat→List Nat:=λ_=>[]
theorem qN6 {X:Td} (hX:FrX X) (hn:X 157=none) {b0 ip1:AV} {K:KvP} {s:Hq} (h:qS1 X b0 ip1 K s):wC Tryz.prog X 157 [b0,ip1] K s:=
 qAE hX qNm hn Tryz.func157 (by kernel_rfl:Tryz.f157.body=some (qAU Tryz.f157)) (by kernel_rfl) (Eq.mpr (by kernel_rfl) h)
def qEo (X:Td)(key1 seen5 again6 t16 t17 t18:AV) (I0:IvP) (m0:Nat) (K:KvP) (s:Hq):Prop:=
 oK (qAB .lss t18 t17) λV12=>qAL V12
 (oK (qAH 4 t16 t18) λV13=>oK (rdN s 4 V13) λV14=>newK 140 [(.int .i64 0),(.int .i64 0),(.int .u32 0),(.int .i64 0)] (λB15 S16=>oK (qAn S16 4 (.ptr B15 0) (.agg V14)) λS17=>oK (rdN S17 4 (.ptr B15 0)) λV18=>funK Tryz.prog X key1 [(.agg V18)] (λV19 S20=>newK 140 [(.int .i64 0),(.int .i64 0),(.int .u32 0),(.int .i64 0)] (λB21 S22=>oK (qAn S22 4 (.ptr B21 0) V19) λS23=>oK (rdN S23 4 (.ptr B21 0)) λV24=>oK (getG Tryz.prog 140 S23 seen5 (.agg V24)) λr_25=>oK (qAH 1 again6 t18) λV26=>oK (wr1 S23 V26 (retM (.bool false) false r_25)) λS27=>oK (rdN S27 4 (.ptr B21 0)) λV28=>oK (putG Tryz.prog 140 S27 seen5 (.agg V28) (.bool true)) λS29=>oK (qAB .add t18 (.int .i64 1)) λV30=>∃ m',m' < m0∧I0 [V30] S29 m') S20) S17) s)
 (K again6 s)
def qF0 (X:Td)(l0 key1:AV) (K:KvP) (s:Hq):Prop:=
 oK (qAS l0) λV0=>intK (.int .i64 V0) (mapK (λV2 S3=>oK (qAS l0) λV4=>oK (nat? (.int .i64 V4)) λn_6=>oK (nat? (.int .i64 V4)) λn_7=>(n_6≤n_7∧n_7≤4294967296)∧newK 4 (repl n_7 [(.bool false)]) (λB8 S9=>oK (qAS l0) λV10=>∃ I0:IvP,(∃ m,I0 [(.int .i64 0)] S9 m)∧∀ (f:Env) (s:Hq) (m0:Nat),I0 [f 18] s m0→
 qEo X key1 V2 (.slc B8 0 n_6 (some n_7) 1) l0 (.int .i64 V10) (f 18) I0 m0 K s) S3) s)
def qHq:Nat→List Nat:=λk=>cond (Nat.beq k 8) [18] ([])
theorem qHy {X:Td} (hX:FrX X) (hn:X 158=none) {l0 key1:AV} {K:KvP} {s:Hq} (h:qF0 X l0 key1 K s):wC Tryz.prog X 158 [l0,key1] K s:=
 qAE hX qHq hn Tryz.func158 (by kernel_rfl:Tryz.f158.body=some (qAU Tryz.f158)) (by kernel_rfl) (Eq.mpr (by kernel_rfl) h)
def qWP (X:Td)(l0:AV) (K:KvP) (s:Hq):Prop:=
 boxK 140 l0 (λB0 S1=>newK 140 [(.int .i64 0),(.int .i64 0),(.int .u32 0),(.int .i64 0)] (λB2 S3=>oK (rdN S3 4 B0) λV4=>oK (qAn S3 4 (.ptr B2 0) (.agg V4)) λS5=>oK (rdN S5 4 (.ptr B2 0)) λt2_6=>K (.agg t2_6) S5) S1) s
def qPq:Nat→List Nat:=λ_=>[]
theorem qQl {X:Td} (hX:FrX X) (hn:X 159=none) {l0:AV} {K:KvP} {s:Hq} (h:qWP X l0 K s):wC Tryz.prog X 159 [l0] K s:=
 qAE hX qPq hn Tryz.func159 (by kernel_rfl:Tryz.f159.body=some (qAU Tryz.f159)) (by kernel_rfl) (Eq.mpr (by kernel_rfl) h)
def qB8 (X:Td)(t0 t1:AV) (K:KvP) (s:Hq):Prop:=
 wC Tryz.prog X 184 [t0,t1] (λV0 S1=>oK (qAB .geq V0 (.int .i64 0)) λV2=>K V2 S1) s
def qDB:Nat→List Nat:=λ_=>[]
theorem qDJ {X:Td} (hX:FrX X) (hn:X 172=none) {t0 t1:AV} {K:KvP} {s:Hq} (h:qB8 X t0 t1 K s):wC Tryz.prog X 172 [t0,t1] K s:=
 qAE hX qDB hn Tryz.func172 (by kernel_rfl:Tryz.f172.body=some (qAU Tryz.f172)) (by kernel_rfl) (Eq.mpr (by kernel_rfl) h)
def qG0 (X:Td)(x0 t1 t2:AV) (K:KvP) (s:Hq):Prop:=
 boxK 112 x0 (λB0 S1=>oK (rd1 S1 t1) λV2=>oK (rdN S1 2 B0) λV3=>funK Tryz.prog X V2 [(.agg V3)] (λV4 S5=>(∀ b,S1 b≠none→S1 b=none→S5 b=none)→
 oK (rd1 (cutH [(S1,(add S1 S5))] (add S1 S5)) t2) λV6=>oK (negB false (eqV 0 false V4 V6)) λV7=>K V7 (add S1 S5)) (frz S1)) s
def qFe:Nat→List Nat:=λ_=>[]
theorem qF1 {X:Td} (hX:FrX X) (hn:X 173=none) {x0 t1 t2:AV} {K:KvP} {s:Hq} (h:qG0 X x0 t1 t2 K s):wC Tryz.prog X 173 [x0,t1,t2] K s:=
 qAE hX qFe hn Tryz.func173 (by kernel_rfl:Tryz.f173.body=some (qAU Tryz.f173)) (by kernel_rfl) (Eq.mpr (by kernel_rfl) h)
def qQ7 (X:Td)(p0:AV) (K:KvP) (s:Hq):Prop:=
 boxK 41 p0 (λB0 S1=>newK 41 [(.int .u32 0),(.int .i64 0)] (λB2 S3=>oK (rdN S3 2 B0) λV4=>wC Tryz.prog X 176 [(.agg V4)] (λV5 S6=>oK (qBm .not V5) λV7=>qAL V7
 (oK (qBO [(.int .u32 0),(.int .i64 0)] []) λC8=>oK (qAn S6 2 (.ptr B2 0) (.agg C8)) λS9=>oK (rdN S9 2 (.ptr B2 0)) λt2_10=>K (.tup [(.agg t2_10),(.int .i64 2)]) S9)
 (oK (qAI 0 B0) λV11=>oK (rd1 S6 V11) λV12=>oK (qAI 1 B0) λV13=>oK (rd1 S6 V13) λV14=>wC Tryz.prog X 177 [V14] (λV15 S16=>(∀ b,S6 b≠none→S6 b=none→S16 b=none)→
 oK (qAB .and V12 V15) λV17=>oK (qAI 0 B0) λV18=>oK (wr1 (add S6 S16) V18 V17) λS19=>oK (rdN S19 2 B0) λV20=>oK (qAn S19 2 (.ptr B2 0) (.agg V20)) λS21=>oK (rdN S21 2 (.ptr B2 0)) λt2_22=>K (.tup [(.agg t2_22),(.int .i64 0)]) S21) (frz S6))) S3) S1) s
def qMw:Nat→List Nat:=λ_=>[]
theorem qNf {X:Td} (hX:FrX X) (hn:X 174=none) {p0:AV} {K:KvP} {s:Hq} (h:qQ7 X p0 K s):wC Tryz.prog X 174 [p0] K s:=
 qAE hX qMw hn Tryz.func174 (by kernel_rfl:Tryz.f174.body=some (qAU Tryz.f174)) (by kernel_rfl) (Eq.mpr (by kernel_rfl) h)
def qC3 (X:Td)(t0 t1 t7 t8:AV) (I0:IvP) (m0:Nat) (K:KvP) (s:Hq):Prop:=
 oK (qAB .lss t8 t7) λV2=>qAL V2
 (oK (qAH 6 t0 t8) λV3=>oK (rdN s 6 V3) λV4=>funK Tryz.prog X t1 [(.agg V4)] (λV5 S6=>qAL V5
 (K t8 S6)
 (oK (qAB .add t8 (.int .i64 1)) λV7=>∃ m',m' < m0∧I0 [V7] S6 m')) s)
 (K (.int .i64 (-1)) s)
def qDO (X:Td)(t0 t1:AV) (K:KvP) (s:Hq):Prop:=
 oK (qAS t0) λV0=>∃ I0:IvP,(∃ m,I0 [(.int .i64 0)] s m)∧∀ (f:Env) (s:Hq) (m0:Nat),I0 [f 8] s m0→
 qC3 X t0 t1 (.int .i64 V0) (f 8) I0 m0 K s
def qE8:Nat→List Nat:=λk=>cond (Nat.beq k 4) [8] ([])
theorem qFL {X:Td} (hX:FrX X) (hn:X 175=none) {t0 t1:AV} {K:KvP} {s:Hq} (h:qDO X t0 t1 K s):wC Tryz.prog X 175 [t0,t1] K s:=
 qAE hX qE8 hn Tryz.func175 (by kernel_rfl:Tryz.f175.body=some (qAU Tryz.f175)) (by kernel_rfl) (Eq.mpr (by kernel_rfl) h)
def qI8 (X:Td)(t6 t9:AV) (K:KvP) (s:Hq):Prop:=
 oK (qAc t6 t9 (.bool false)) λV5=>K V5 s
def qQX (X:Td)(p0:AV) (K:KvP) (s:Hq):Prop:=
 boxK 41 p0 (λB0 S1=>oK (qAI 1 B0) λV2=>oK (rd1 S1 V2) λV3=>oK (qAB .geq V3 (.int .i64 0)) λV4=>qAL V4
 (oK (qAI 1 B0) λV6=>oK (rd1 S1 V6) λV7=>oK (qAB .leq V7 (.int .i64 32)) λV8=>qI8 X V4 V8 K S1)
 (qI8 X V4 .undef K S1)) s
def qMd:Nat→List Nat:=λ_=>[]
theorem qNa {X:Td} (hX:FrX X) (hn:X 176=none) {p0:AV} {K:KvP} {s:Hq} (h:qQX X p0 K s):wC Tryz.prog X 176 [p0] K s:=
 qAE hX qMd hn Tryz.func176 (by kernel_rfl:Tryz.f176.body=some (qAU Tryz.f176)) (by kernel_rfl) (Eq.mpr (by kernel_rfl) h)
def qM3 (X:Td)(length0:AV) (K:KvP) (s:Hq):Prop:=
 oK (qAB .sub (.int .i64 32) length0) λV0=>oK (qBk .shl (.int .u32 4294967295) V0) λV1=>K V1 s
def qNd:Nat→List Nat:=λ_=>[]
theorem qO9 {X:Td} (hX:FrX X) (hn:X 177=none) {length0:AV} {K:KvP} {s:Hq} (h:qM3 X length0 K s):wC Tryz.prog X 177 [length0] K s:=
 qAE hX qNd hn Tryz.func177 (by kernel_rfl:Tryz.f177.body=some (qAU Tryz.f177)) (by kernel_rfl) (Eq.mpr (by kernel_rfl) h)
def qD0 (X:Td)(t0 t1 t7 t8:AV) (I0:IvP) (m0:Nat) (K:KvP) (s:Hq):Prop:=
 oK (qAB .lss t8 t7) λV2=>qAL V2
 (oK (qAH 1 t0 t8) λV3=>oK (rd1 s V3) λV4=>funK Tryz.prog X t1 [V4] (λV5 S6=>qAL V5
 (K t8 S6)
 (oK (qAB .add t8 (.int .i64 1)) λV7=>∃ m',m' < m0∧I0 [V7] S6 m')) s)
 (K (.int .i64 (-1)) s)
def qE9 (X:Td)(t0 t1:AV) (K:KvP) (s:Hq):Prop:=
 oK (qAS t0) λV0=>∃ I0:IvP,(∃ m,I0 [(.int .i64 0)] s m)∧∀ (f:Env) (s:Hq) (m0:Nat),I0 [f 8] s m0→
 qD0 X t0 t1 (.int .i64 V0) (f 8) I0 m0 K s
def qGr:Nat→List Nat:=λk=>cond (Nat.beq k 4) [8] ([])
theorem qHG {X:Td} (hX:FrX X) (hn:X 178=none) {t0 t1:AV} {K:KvP} {s:Hq} (h:qE9 X t0 t1 K s):wC Tryz.prog X 178 [t0,t1] K s:=
 qAE hX qGr hn Tryz.func178 (by kernel_rfl:Tryz.f178.body=some (qAU Tryz.f178)) (by kernel_rfl) (Eq.mpr (by kernel_rfl) h)
def qFQ (X:Td)(t0 v1 t7 t8:AV) (I0:IvP) (m0:Nat) (K:KvP) (s:Hq):Prop:=
 oK (qAB .lss t8 t7) λV2=>qAL V2
 (oK (qAH 1 t0 t8) λV3=>oK (rd1 s V3) λV4=>oK (negB false (eqV 0 false v1 V4)) λV5=>qAL V5
 (K t8 s)
 (oK (qAB .add t8 (.int .i64 1)) λV6=>∃ m',m' < m0∧I0 [V6] s m'))
 (K (.int .i64 (-1)) s)
def qG5 (X:Td)(t0 v1:AV) (K:KvP) (s:Hq):Prop:=
 oK (qAS t0) λV0=>∃ I0:IvP,(∃ m,I0 [(.int .i64 0)] s m)∧∀ (f:Env) (s:Hq) (m0:Nat),I0 [f 8] s m0→
 qFQ X t0 v1 (.int .i64 V0) (f 8) I0 m0 K s
def qIX:Nat→List Nat:=λk=>cond (Nat.beq k 4) [8] ([])
theorem qJH {X:Td} (hX:FrX X) (hn:X 179=none) {t0 v1:AV} {K:KvP} {s:Hq} (h:qG5 X t0 v1 K s):wC Tryz.prog X 179 [t0,v1] K s:=
 qAE hX qIX hn Tryz.func179 (by kernel_rfl:Tryz.f179.body=some (qAU Tryz.f179)) (by kernel_rfl) (Eq.mpr (by kernel_rfl) h)
def qB9 (X:Td)(t0 t1 t7 t8:AV) (I0:IvP) (m0:Nat) (K:KvP) (s:Hq):Prop:=
 oK (qAB .lss t8 t7) λV2=>qAL V2
 (oK (qAH 2 t0 t8) λV3=>oK (rdN s 2 V3) λV4=>funK Tryz.prog X t1 [(.agg V4)] (λV5 S6=>qAL V5
 (K t8 S6)
 (oK (qAB .add t8 (.int .i64 1)) λV7=>∃ m',m' < m0∧I0 [V7] S6 m')) s)
 (K (.int .i64 (-1)) s)
def qCN (X:Td)(t0 t1:AV) (K:KvP) (s:Hq):Prop:=
 oK (qAS t0) λV0=>∃ I0:IvP,(∃ m,I0 [(.int .i64 0)] s m)∧∀ (f:Env) (s:Hq) (m0:Nat),I0 [f 8] s m0→
 qB9 X t0 t1 (.int .i64 V0) (f 8) I0 m0 K s
def qDc:Nat→List Nat:=λk=>cond (Nat.beq k 4) [8] ([])
theorem qDp {X:Td} (hX:FrX X) (hn:X 184=none) {t0 t1:AV} {K:KvP} {s:Hq} (h:qCN X t0 t1 K s):wC Tryz.prog X 184 [t0,t1] K s:=
 qAE hX qDc hn Tryz.func184 (by kernel_rfl:Tryz.f184.body=some (qAU Tryz.f184)) (by kernel_rfl) (Eq.mpr (by kernel_rfl) h)
def qNB (X:Td)(t7 t10:AV) (K:KvP) (s:Hq):Prop:=
 oK (qAc t7 t10 (.bool false)) λV1=>K V1 s
def qTC (X:Td)(i0 n1:AV) (K:KvP) (s:Hq):Prop:=
 oK (qAB .geq i0 (.int .i64 0)) λV0=>qAL V0
 (oK (qAB .lss i0 n1) λV2=>qNB X V0 V2 K s)
 (qNB X V0 .undef K s)
def qQv:Nat→List Nat:=λ_=>[]
theorem qTS {X:Td} (hX:FrX X) (hn:X 95=none) {i0 n1:AV} {K:KvP} {s:Hq} (h:qTC X i0 n1 K s):wC Tryz.prog X 95 [i0,n1] K s:=
 qAE hX qQv hn Tryz.func95 (by kernel_rfl:Tryz.f95.body=some (qAU Tryz.f95)) (by kernel_rfl) (Eq.mpr (by kernel_rfl) h)
def qVF (X:Td)(t0:AV) (K:KvP) (s:Hq):Prop:=
 boxK 68 t0 (λB0 S1=>oK (rdN S1 19 B0) λV2=>wC Tryz.prog X 43 [(.agg V2)] (λV3 S4=>oK (qAX V3 0) λV5=>oK (qAX V3 1) λV6=>oK (qAX V3 2) λV7=>oK (negB false (eqV 0 true V5 (.int .i64 0))) λV8=>K V8 S4) S1) s
def qTQ:Nat→List Nat:=λ_=>[]
theorem qTg {X:Td} (hX:FrX X) (hn:X 64=none) {t0:AV} {K:KvP} {s:Hq} (h:qVF X t0 K s):wC Tryz.prog X 64 [t0] K s:=
 qAE hX qTQ hn Tryz.func64 (by kernel_rfl:Tryz.f64.body=some (qAU Tryz.f64)) (by kernel_rfl) (Eq.mpr (by kernel_rfl) h)
theorem qTv {t0:AV} {K:KvP} {s:Hq} (h:qVF XX t0 K s):wC Tryz.prog XX 64 [t0] K s:=qTg qAy rfl h
end Go.AM
