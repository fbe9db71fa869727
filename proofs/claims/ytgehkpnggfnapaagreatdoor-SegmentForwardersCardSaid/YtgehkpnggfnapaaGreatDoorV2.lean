/- Part V2 of a calculus over a small memory that is proved to answer as the program does, and of its use for the functions that the law reaches: see the last part. -/
import Derived.Test.YtgehkpnggfnapaaGreatDoorV
set_option linter.unusedVariables false
namespace Go.AM
open Go Go.Proofs
set_option maxRecDepth 100000
def qB7 (X:Td)(K:KvP) (s:Hq):Prop:=
 wC Tryz.prog X 17 [] (λv_10 S11=>K v_10 S11) s
def qEn (X:Td)(a7 b8 i9:AV) (I3:IvP) (m3:Nat) (K:KvP) (s:Hq):Prop:=
 oK (qAQ b8) λv_12=>oK (qAC .lss i9 (.int .i64 v_12)) λv_14=>qAM v_14
 (oK (qAS 12 b8 i9) λv_15=>oK (qAE 0 v_15) λv_16=>oK (rdN s 10 v_16) λv_17=>oK (qAS 12 b8 i9) λv_18=>oK (qAE 10 v_18) λv_19=>oK (rd1 s v_19) λv_20=>oK (qAS 12 b8 i9) λv_21=>oK (qAE 11 v_21) λv_22=>oK (rd1 s v_22) λv_23=>wC Tryz.prog X 33 [a7,(.agg v_17),v_20,v_23] (λv_24 S25=>oK (qAq .not v_24) λv_26=>qAM v_26
 (oK (qAV v_26 (.bool true) .undef) λv_27=>qAM v_27
 (K (.bool false) S25)
 (oK (qAC .add i9 (.int .i64 1)) λv_28=>∃ m',m' < m3∧I3 [v_28] S25 m'))
 (oK (qAS 12 b8 i9) λv_29=>oK (qAE 0 v_29) λv_30=>oK (rdN S25 10 v_30) λv_31=>oK (qAS 12 b8 i9) λv_32=>oK (qAE 10 v_32) λv_33=>oK (rd1 S25 v_33) λv_34=>oK (qAS 12 b8 i9) λv_35=>oK (qAE 11 v_35) λv_36=>oK (rd1 S25 v_36) λv_37=>oK (qAC .add v_37 (.int .u32 77)) λv_38=>wC Tryz.prog X 33 [a7,(.agg v_31),v_34,v_38] (λv_39 S40=>(∀ b,S25 b≠none→S25 b=none→S40 b=none)→
 oK (qAS 12 b8 i9) λv_41=>oK (qAE 0 v_41) λv_42=>oK (rdN (cutH [(S25,(add S25 S40))] (add S25 S40)) 10 v_42) λv_43=>oK (qAS 12 b8 i9) λv_44=>oK (qAE 10 v_44) λv_45=>oK (rd1 (cutH [(S25,(add S25 S40))] (add S25 S40)) v_45) λv_46=>oK (qAS 12 b8 i9) λv_47=>oK (qAE 11 v_47) λv_48=>oK (rd1 (cutH [(S25,(add S25 S40))] (add S25 S40)) v_48) λv_49=>oK (qAC .add v_49 (.int .u32 77)) λv_50=>wC Tryz.prog X 34 [b8,(.agg v_43),v_46,v_50] (λv_51 S52=>oK (negB true (eqV 1 false v_39 v_51)) λv_53=>oK (qAV v_26 (.bool true) v_53) λv_54=>qAM v_54
 (K (.bool false) S52)
 (oK (qAC .add i9 (.int .i64 1)) λv_55=>∃ m',m' < m3∧I3 [v_55] S52 m')) (add S25 S40)) (frz S25))) s)
 (qB7 X  K s)
def qBB (X:Td)(a7 b8:AV) (K:KvP) (s:Hq):Prop:=
 ∃ I3:IvP,(∃ m,I3 [(.int .i64 0)] s m)∧∀ (f:Env) (s:Hq) (m3:Nat),I3 [f 9] s m3→
 qEn X a7 b8 (f 9) I3 m3 K s
def qB9 (X:Td)(routes1 t3 x5:AV) (K:KvP) (s:Hq):Prop:=
 oK (rdN s 19 t3) λv_4=>wC Tryz.prog X 19 [(.agg v_4),routes1] (λv_5 S6=>(∀ b,s b≠none→s b=none→S6 b=none)→
 oK (rdN (cutH [(s,(add s S6))] (add s S6)) 19 t3) λv_7=>wC Tryz.prog X 32 [(.agg v_7),routes1] (λv_8 S9=>wC Tryz.prog X 18 [v_5,v_8] (λv_56 S57=>oK (qAq .not v_56) λv_58=>qAM v_58
 (oK (qAV v_58 (.bool true) .undef) λv_59=>qAM v_59
 (K (.bool false) S57)
 (qBB X v_5 v_8 K S57))
 (oK (qAE 0 x5) λv_60=>oK (rdN S57 10 v_60) λv_61=>oK (qAE 10 x5) λv_62=>oK (rd1 S57 v_62) λv_63=>oK (qAE 11 x5) λv_64=>oK (rd1 S57 v_64) λv_65=>wC Tryz.prog X 33 [v_5,(.agg v_61),v_63,v_65] (λv_66 S67=>(∀ b,S57 b≠none→S57 b=none→S67 b=none)→
 oK (qAE 0 x5) λv_68=>oK (rdN (cutH [(S57,(add S57 S67))] (add S57 S67)) 10 v_68) λv_69=>oK (qAE 10 x5) λv_70=>oK (rd1 (cutH [(S57,(add S57 S67))] (add S57 S67)) v_70) λv_71=>oK (qAE 11 x5) λv_72=>oK (rd1 (cutH [(S57,(add S57 S67))] (add S57 S67)) v_72) λv_73=>wC Tryz.prog X 34 [v_8,(.agg v_69),v_71,v_73] (λv_74 S75=>oK (negB true (eqV 1 false v_66 v_74)) λv_76=>oK (qAV v_58 (.bool true) v_76) λv_77=>qAM v_77
 (K (.bool false) S75)
 (qBB X v_5 v_8 K S75)) (add S57 S67)) (frz S57))) S9) (add s S6)) (frz s)
def qBc (X:Td)(routes1 t3 x5 t12 t14:AV) (K:KvP) (s:Hq):Prop:=
 oK (qAV t12 (.bool true) t14) λv_81=>qAM v_81
 (wC Tryz.prog X 17 [] (λv_82 S83=>K v_82 S83) s)
 (qB9 X routes1 t3 x5 K s)
def qF7 (X:Td)(t0 routes1 x2:AV) (K:KvP) (s:Hq):Prop:=
 boxK 68 t0 (λB0 S1=>boxK 56 x2 (λB2 S3=>oK (rdN S3 19 B0) λv_78=>wC Tryz.prog X 30 [(.agg v_78)] (λv_79 S80=>qAM v_79
 (qBc X routes1 B0 B2 v_79 .undef K S80)
 (wC Tryz.prog X 31 [routes1] (λv_84 S85=>qBc X routes1 B0 B2 v_79 v_84 K S85) S80)) S3) S1) s
def qBV:Nat→List Nat:=λk=>cond (Nat.beq k 14) [9] ([])
noncomputable def qC8:Code:=qBh 2 (qBl Tryz.f7)
noncomputable def qC9:Code:=qBh 2 qC8
noncomputable def qIU:Code:=qBh 1 qC9
theorem qG0 (X:Td)(K:KvP) (env:Env) (s:Hq):wpC Tryz.prog X qBV Tryz.f7.ntmps none qIU env (λe env s=>retK e (resK Tryz.prog Tryz.f7.results.toList env (λvs=>K (oneV vs) s) s)) s=qB7 X K s:=by kernel_rfl
theorem qG3 (X:Td)(K:KvP) (env:Env) (s:Hq):wpC Tryz.prog X qBV Tryz.f7.ntmps none qC9 env (λe env s=>retK e (resK Tryz.prog Tryz.f7.results.toList env (λvs=>K (oneV vs) s) s)) s=qBB X (env 7) (env 8) K s:=(qBr 1 (λenv s=>qB7 X K s) qC9 (by kernel_rfl) (λenv s=>qG0 X K env s) env s).trans (by kernel_rfl)
theorem qGy (X:Td)(K:KvP) (env:Env) (s:Hq):wpC Tryz.prog X qBV Tryz.f7.ntmps none qC8 env (λe env s=>retK e (resK Tryz.prog Tryz.f7.results.toList env (λvs=>K (oneV vs) s) s)) s=qB9 X (env 1) (env 3) (env 5) K s:=(qBr 2 (λenv s=>qBB X (env 7) (env 8) K s) qC8 (by kernel_rfl) (λenv s=>qG3 X K env s) env s).trans (by kernel_rfl)
theorem qIM (X:Td)(t0 routes1 x2:AV) (K:KvP) (s:Hq):wpC Tryz.prog X qBV Tryz.f7.ntmps none (qBl Tryz.f7) (qJx [t0,routes1,x2]) (λe env s=>retK e (resK Tryz.prog Tryz.f7.results.toList env (λvs=>K (oneV vs) s) s)) s=qF7 X t0 routes1 x2 K s:=(qBr 2 (λenv s=>qB9 X (env 1) (env 3) (env 5) K s) (qBl Tryz.f7) (by kernel_rfl) (λenv s=>qGy X K env s) _ s).trans (by kernel_rfl)
theorem qIu {t0 routes1 x2:AV} {K:KvP} {s:Hq} (h:qF7 XX t0 routes1 x2 K s):wC Tryz.prog XX 7 [t0,routes1,x2] K s:=wOK qA3 qBV rfl Tryz.func7 (by kernel_rfl) (by kernel_rfl) (qIM XX t0 routes1 x2 K s) h
def qD3 (X:Td)(a0 b1 i5:AV) (I0:IvP) (m0:Nat) (K:KvP) (s:Hq):Prop:=
 oK (qAQ a0) λv_5=>oK (qAC .lss i5 (.int .i64 v_5)) λv_7=>qAM v_7
 (oK (qAS 12 a0 i5) λv_8=>oK (rdN s 12 v_8) λv_9=>oK (qAS 12 b1 i5) λv_10=>oK (rdN s 12 v_10) λv_11=>oK (negB true (qFb Tryz.prog 56 (.agg v_9) (.agg v_11))) λv_12=>qAM v_12
 (K (.bool false) s)
 (oK (qAC .add i5 (.int .i64 1)) λv_13=>∃ m',m' < m0∧I0 [v_13] s m'))
 (K (.bool true) s)
def qE1 (X:Td)(a0 b1:AV) (K:KvP) (s:Hq):Prop:=
 oK (qAQ a0) λv_0=>oK (qAQ b1) λv_2=>oK (negB true (eqV 0 false (.int .i64 v_0) (.int .i64 v_2))) λv_4=>qAM v_4
 (K (.bool false) s)
 (∃ I0:IvP,(∃ m,I0 [(.int .i64 0)] s m)∧∀ (f:Env) (s:Hq) (m0:Nat),I0 [f 5] s m0→
 qD3 X a0 b1 (f 5) I0 m0 K s)
def qGx:Nat→List Nat:=λk=>cond (Nat.beq k 8) [5] ([])
theorem qHW {a0 b1:AV} {K:KvP} {s:Hq} (h:qE1 XX a0 b1 K s):wC Tryz.prog XX 18 [a0,b1] K s:=wOK qA3 qGx rfl Tryz.func18 (by kernel_rfl) (by kernel_rfl) (by kernel_rfl) h
def qEH (X:Td)(x8 t32:AV) (I0:IvP) (m0:Nat) (K:KvP) (s:Hq):Prop:=
 oK (qAC .add t32 (.int .i64 1)) λv_21=>∃ m',m' < m0∧I0 [x8,v_21] s m'
def qEA (X:Td)(l11 t48:AV) (I2:IvP) (m2:Nat) (K:KvP) (s:Hq):Prop:=
 oK (qAC .add t48 (.int .i64 1)) λv_33=>∃ m',m' < m2∧I2 [l11,v_33] s m'
def qED (X:Td)(l11 t71:AV) (I4:IvP) (m4:Nat) (I2:IvP) (m2:Nat) (K:KvP) (s:Hq):Prop:=
 oK (qAC .add t71 (.int .i64 1)) λv_67=>∃ m',m' < m4∧I4 [l11,v_67] s m'
def qI5 (X:Td)(l11 x14 x16 x17 t48 t69 t70 t71:AV) (I4:IvP) (m4:Nat) (I2:IvP) (m2:Nat) (K:KvP) (s:Hq):Prop:=
 oK (qAC .lss t71 t70) λv_60=>qAM v_60
 (oK (qAS 1 t69 t71) λv_61=>oK (rd1 s v_61) λv_62=>wC Tryz.prog X 28 [x17,x16,v_62] (λv_63 S64=>oK (qAd v_63 0) λv_65=>oK (qAd v_63 1) λv_66=>qAM v_66
 (oK (rdN S64 10 x14) λv_68=>oK (qBi [(.int .u8 0),(.int .u8 0),(.int .u8 0),(.int .u8 0),(.int .u8 0),(.int .u8 0),(.int .u8 0),(.int .u8 0),(.int .u8 0),(.int .u8 0),(.int .i64 0),(.int .u32 0)] [(0,10,(.agg v_68)),(10,1,v_62),(11,1,v_65)]) λC69=>oK (qBi (repl 1 [(.int .u8 0),(.int .u8 0),(.int .u8 0),(.int .u8 0),(.int .u8 0),(.int .u8 0),(.int .u8 0),(.int .u8 0),(.int .u8 0),(.int .u8 0),(.int .i64 0),(.int .u32 0)]) [(0,12,(.agg C69))]) λC70=>qAj C70=true∧newK 56 C70 (λB71 S72=>appK 56 12 l11 (.slc B71 0 1 (some 1) 12) (λv_73 S74=>qED X v_73 t71 I4 m4 I2 m2 K S74) S72) S64)
 (qED X l11 t71 I4 m4 I2 m2 K S64)) s)
 (qEA X l11 t48 I2 m2 K s)
def qI2 (X:Td)(x8 l11 t46 t47 t48:AV) (I2:IvP) (m2:Nat) (K:KvP) (s:Hq):Prop:=
 oK (qAC .lss t48 t47) λv_32=>qAM v_32
 (oK (qAS 2 t46 t48) λv_34=>oK (rdN s 2 v_34) λv_35=>newK 93 [.nilslc,.nilslc] (λB36 S37=>oK (qAv S37 2 (.ptr B36 0) (.agg v_35)) λS38=>oK (qAE 0 (.ptr B36 0)) λv_39=>oK (rd1 S38 v_39) λv_40=>oK (qAQ v_40) λv_41=>oK (qAC .lss (.int .i64 v_41) (.int .i64 2)) λv_43=>qAM v_43
 (qEA X l11 t48 I2 m2 K S38)
 (wC Tryz.prog X 40 [t48] (λv_44 S45=>oK (qAd v_44 0) λv_46=>oK (qAd v_44 1) λv_47=>newK 27 [(.int .u8 0),(.int .u8 0),(.int .u8 0),(.int .u8 0),(.int .u8 0),(.int .u8 0),(.int .u8 0),(.int .u8 0),(.int .u8 0),(.int .u8 0)] (λB48 S49=>oK (qAv S49 10 (.ptr B48 0) v_46) λS50=>oK (rdN S50 10 (.ptr B48 0)) λv_51=>wC Tryz.prog X 23 [x8,(.agg v_51)] (λv_52 S53=>oK (qAd v_52 0) λv_54=>oK (qAd v_52 1) λv_55=>oK (qAE 1 (.ptr B36 0)) λv_56=>oK (rd1 S53 v_56) λv_57=>oK (qAQ v_57) λv_58=>∃ I4:IvP,(∃ m,I4 [l11,(.int .i64 0)] S53 m)∧∀ (f:Env) (s:Hq) (m4:Nat),I4 [f 11,f 71] s m4→
 qI5 X (f 11) (.ptr B48 0) v_54 v_55 t48 v_57 (.int .i64 v_58) (f 71) I4 m4 I2 m2 K s) S50) S45) S38)) s)
 (K l11 s)
def qI6 (X:Td)(t2 x8 t30 t31 t32:AV) (I0:IvP) (m0:Nat) (K:KvP) (s:Hq):Prop:=
 oK (qAC .lss t32 t31) λv_11=>qAM v_11
 (oK (qAS 38 t30 t32) λv_12=>oK (rdN s 38 v_12) λv_13=>newK 51 zR0 (λB14 S15=>oK (qAv S15 38 (.ptr B14 0) (.agg v_13)) λS16=>oK (qAE 0 (.ptr B14 0)) λv_17=>oK (qAE 0 v_17) λv_18=>oK (rd1 S16 v_18) λv_19=>oK (negB false (eqV 0 true v_19 (.int .i64 4))) λv_20=>qAM v_20
 (oK (rdN S16 38 (.ptr B14 0)) λv_22=>oK (qBi (repl 1 zR0) [(0,38,(.agg v_22))]) λC23=>qAj C23=true∧newK 51 C23 (λB24 S25=>appK 51 38 x8 (.slc B24 0 1 (some 1) 38) (λv_26 S27=>qEH X v_26 t32 I0 m0 K S27) S25) S16)
 (qEH X x8 t32 I0 m0 K S16)) s)
 (oK (qAE 5 t2) λv_28=>oK (rd1 s v_28) λv_29=>oK (qAQ v_29) λv_30=>∃ I2:IvP,(∃ m,I2 [.nilslc,(.int .i64 0)] s m)∧∀ (f:Env) (s:Hq) (m2:Nat),I2 [f 11,f 48] s m2→
 qI2 X x8 (f 11) v_29 (.int .i64 v_30) (f 48) I2 m2 K s)
def qQf (X:Td)(t0 routes1:AV) (K:KvP) (s:Hq):Prop:=
 boxK 68 t0 (λB0 S1=>oK (rdN S1 19 B0) λv_2=>wC Tryz.prog X 43 [(.agg v_2)] (λv_3 S4=>oK (qAd v_3 0) λv_5=>oK (qAd v_3 1) λv_6=>oK (qAd v_3 2) λv_7=>oK (negB true (eqV 0 true v_5 (.int .i64 0))) λv_8=>qAM v_8
 (K .nilslc S4)
 (oK (qAQ routes1) λv_9=>∃ I0:IvP,(∃ m,I0 [.nilslc,(.int .i64 0)] S4 m)∧∀ (f:Env) (s:Hq) (m0:Nat),I0 [f 8,f 32] s m0→
 qI6 X B0 (f 8) routes1 (.int .i64 v_9) (f 32) I0 m0 K s)) S1) s
def qMS:Nat→List Nat:=λk=>cond (Nat.beq k 12) [8,32] (cond (Nat.beq k 26) [11,48] (cond (Nat.beq k 38) [11,71] ([])))
theorem qM1 {t0 routes1:AV} {K:KvP} {s:Hq} (h:qQf XX t0 routes1 K s):wC Tryz.prog XX 19 [t0,routes1] K s:=wOK qA3 qMS rfl Tryz.func19 (by kernel_rfl) (by kernel_rfl) (by kernel_rfl) h
end Go.AM
namespace Go.AM
open Go Go.Proofs
set_option maxRecDepth 100000
def qEG (X:Td)(l6 x7 x8 t16:AV) (I0:IvP) (m0:Nat) (K:KvP) (s:Hq):Prop:=
 oK (qAC .add t16 (.int .i64 1)) λv_5=>∃ m',m' < m0∧I0 [l6,x7,x8,v_5] s m'
def qD9 (X:Td)(l6 x7 r10 x12 t16 t40 t43:AV) (I0:IvP) (m0:Nat) (K:KvP) (s:Hq):Prop:=
 oK (qAV t40 t43 (.bool false)) λv_28=>oK (qAE 21 r10) λv_29=>oK (qAE 2 v_29) λv_30=>oK (rd1 s v_30) λv_31=>oK (qBi [(.int .u32 0),(.int .i64 0)] [(0,1,v_31),(1,1,x12)]) λC32=>oK (qBi (repl 1 [(.int .u32 0),(.int .i64 0)]) [(0,2,(.agg C32))]) λC33=>qAj C33=true∧newK 36 C33 (λB34 S35=>appK 36 2 l6 (.slc B34 0 1 (some 1) 2) (λv_36 S37=>qEG X v_36 x7 v_28 t16 I0 m0 K S37) S35) s
def qDK (X:Td)(l6 x7 r10 a11 x12 t16 t37 t38:AV) (I0:IvP) (m0:Nat) (K:KvP) (s:Hq):Prop:=
 oK (qAV t37 t38 (.bool false)) λv_27=>qAM v_27
 (oK (negB false (eqV 0 false a11 x7)) λv_38=>qD9 X l6 x7 r10 x12 t16 v_27 v_38 I0 m0 K s)
 (qD9 X l6 x7 r10 x12 t16 v_27 .undef I0 m0 K s)
def qCU (X:Td)(l6 x7 x8 r10 a11 x12 x13 t16:AV) (I0:IvP) (m0:Nat) (K:KvP) (s:Hq):Prop:=
 qAM x8
 (qDK X l6 x7 r10 a11 x12 t16 x8 x13 I0 m0 K s)
 (qDK X l6 x7 r10 a11 x12 t16 x8 .undef I0 m0 K s)
def qFv (X:Td)(l6 x7:AV) (K:KvP) (s:Hq):Prop:=
 K (.tup [l6,x7]) s
def qEF (X:Td)(l6 x7 t64 t68:AV) (K:KvP) (s:Hq):Prop:=
 oK (qAV t64 (.bool true) t68) λv_45=>qAM v_45
 (qFv X l6 (.int .i64 0) K s)
 (qFv X l6 x7 K s)
def qEE (X:Td)(l6 x7 t60 t62:AV) (K:KvP) (s:Hq):Prop:=
 oK (qAV t60 (.bool true) t62) λv_44=>qAM v_44
 (qEF X l6 x7 v_44 .undef K s)
 (wC Tryz.prog X 50 [] (λv_46 S47=>oK (qAC .geq x7 (.int .i64 3)) λv_48=>qEF X l6 x7 v_44 v_48 K S47) s)
def qI3 (X:Td)(esi3 l6 x7 x8 t14 t15 t16:AV) (I0:IvP) (m0:Nat) (K:KvP) (s:Hq):Prop:=
 oK (qAC .lss t16 t15) λv_4=>qAM v_4
 (oK (qAS 38 t14 t16) λv_6=>oK (rdN s 38 v_6) λv_7=>newK 51 zR0 (λB8 S9=>oK (qAv S9 38 (.ptr B8 0) (.agg v_7)) λS10=>oK (rdN S10 38 (.ptr B8 0)) λv_11=>oK (rdN S10 10 esi3) λv_12=>wC Tryz.prog X 37 [(.agg v_11),(.agg v_12)] (λv_13 S14=>oK (qAq .not v_13) λv_15=>qAM v_15
 (qEG X l6 x7 x8 t16 I0 m0 K S14)
 (oK (qAE 21 (.ptr B8 0)) λv_16=>oK (qAE 10 v_16) λv_17=>oK (rd1 S14 v_17) λv_18=>wC Tryz.prog X 44 [v_18] (λv_19 S20=>oK (qAd v_19 0) λv_21=>oK (qAd v_19 1) λv_22=>oK (qAd v_19 2) λv_23=>oK (qAQ l6) λv_24=>oK (negB false (eqV 0 true (.int .i64 v_24) (.int .i64 0))) λv_26=>qAM v_26
 (qCU X l6 v_21 x8 (.ptr B8 0) v_21 v_22 v_23 t16 I0 m0 K S20)
 (qCU X l6 x7 x8 (.ptr B8 0) v_21 v_22 v_23 t16 I0 m0 K S20)) S14)) S10) s)
 (wC Tryz.prog X 45 [l6,(.fn (.func 46) [] [])] (λv_39 S40=>wC Tryz.prog X 48 [l6,(.fn (.func 49) [] [])] (λv_41 S42=>oK (qAq .not x8) λv_43=>qAM v_43
 (qEE X v_41 x7 v_43 .undef K S42)
 (oK (qAC .lss x7 (.int .i64 0)) λv_49=>qEE X v_41 x7 v_43 v_49 K S42)) S40) s)
def qQ7 (X:Td)(routes0 esi1:AV) (K:KvP) (s:Hq):Prop:=
 boxK 27 esi1 (λB0 S1=>oK (qAQ routes0) λv_2=>∃ I0:IvP,(∃ m,I0 [.nilslc,(.int .i64 0),(.bool true),(.int .i64 0)] S1 m)∧∀ (f:Env) (s:Hq) (m0:Nat),I0 [f 6,f 7,f 8,f 16] s m0→
 qI3 X B0 (f 6) (f 7) (f 8) routes0 (.int .i64 v_2) (f 16) I0 m0 K s) s
def qMM:Nat→List Nat:=λk=>cond (Nat.beq k 8) [6,7,8,16] ([])
theorem qM5 {routes0 esi1:AV} {K:KvP} {s:Hq} (h:qQ7 XX routes0 esi1 K s):wC Tryz.prog XX 23 [routes0,esi1] K s:=wOK qA3 qMM rfl Tryz.func23 (by kernel_rfl) (by kernel_rfl) (by kernel_rfl) h
def qO3 (X:Td)(alg0 l1 bd2 x8 i9:AV) (I3:IvP) (m3:Nat) (K:KvP) (s:Hq):Prop:=
 oK (qAQ l1) λv_11=>oK (qAC .lss i9 (.int .i64 v_11)) λv_13=>qAM v_13
 (oK (qAS 2 l1 i9) λv_14=>oK (qAE 0 v_14) λv_15=>oK (rd1 s v_15) λv_16=>oK (qAC .sub i9 (.int .i64 1)) λv_17=>oK (qAS 2 l1 v_17) λv_18=>oK (qAE 0 v_18) λv_19=>oK (rd1 s v_19) λv_20=>oK (qAC .leq v_16 v_20) λv_21=>qAM v_21
 (K (.tup [(.int .u32 0),(.bool false)]) s)
 (oK (qAC .add i9 (.int .i64 1)) λv_22=>∃ m',m' < m3∧I3 [v_22] s m'))
 (oK (qC2 3 1 x8 alg0) λv_23=>oK (rd1 s v_23) λv_24=>funK Tryz.prog X v_24 [l1,bd2] (λv_25 S26=>oK (qVU none 0 v_25) λv_27=>K (.tup [v_27,(.bool true)]) S26) s)
def qGg (X:Td)(alg0 l1 bd2 x8 t22 t24:AV) (K:KvP) (s:Hq):Prop:=
 oK (qAV t22 (.bool true) t24) λv_10=>qAM v_10
 (K (.tup [(.int .u32 0),(.bool false)]) s)
 (∃ I3:IvP,(∃ m,I3 [(.int .i64 1)] s m)∧∀ (f:Env) (s:Hq) (m3:Nat),I3 [f 9] s m3→
 qO3 X alg0 l1 bd2 x8 (f 9) I3 m3 K s)
def qGe (X:Td)(alg0 l1 bd2 x8 t18 t20:AV) (K:KvP) (s:Hq):Prop:=
 oK (qAV t18 (.bool true) t20) λv_9=>qAM v_9
 (qGg X alg0 l1 bd2 x8 v_9 .undef K s)
 (oK (qAC .lss bd2 (.int .i64 0)) λv_28=>qGg X alg0 l1 bd2 x8 v_9 v_28 K s)
def qGk (X:Td)(alg0 l1 bd2 x8 t14 t16:AV) (K:KvP) (s:Hq):Prop:=
 oK (qAV t14 (.bool true) t16) λv_8=>qAM v_8
 (qGe X alg0 l1 bd2 x8 v_8 .undef K s)
 (oK (qAC .geq alg0 (.int .i64 3)) λv_29=>qGe X alg0 l1 bd2 x8 v_8 v_29 K s)
def zAAj (X:Td)(alg0 l1 bd2:AV) (K:KvP) (s:Hq):Prop:=
 wC Tryz.prog X 50 [] (λv_0 S1=>newK 126 [.nilFunc,.nilFunc,.nilFunc] (λB2 S3=>oK (qAv S3 3 (.ptr B2 0) v_0) λS4=>oK (qAQ l1) λv_5=>oK (negB false (eqV 0 true (.int .i64 v_5) (.int .i64 0))) λv_7=>qAM v_7
 (qGk X alg0 l1 bd2 (.ptr B2 0) v_7 .undef K S4)
 (oK (qAC .lss alg0 (.int .i64 0)) λv_30=>qGk X alg0 l1 bd2 (.ptr B2 0) v_7 v_30 K S4)) S1) s
def qRo:Nat→List Nat:=λk=>cond (Nat.beq k 10) [9] ([])
theorem qUm {alg0 l1 bd2:AV} {K:KvP} {s:Hq} (h:zAAj XX alg0 l1 bd2 K s):wC Tryz.prog XX 28 [alg0,l1,bd2] K s:=wOK qA3 qRo rfl Tryz.func28 (by kernel_rfl) (by kernel_rfl) (by kernel_rfl) h
def qKK (X:Td)(i3 t53 t61:AV) (I5:IvP) (m5:Nat) (K:KvP) (s:Hq):Prop:=
 oK (qAV t53 (.bool true) t61) λv_25=>qAM v_25
 (K (.bool true) s)
 (oK (qAC .add i3 (.int .i64 1)) λv_26=>∃ m',m' < m5∧I5 [v_26] s m')
def qP0 (X:Td)(t1 i3:AV) (I5:IvP) (m5:Nat) (K:KvP) (s:Hq):Prop:=
 oK (qAE 5 t1) λv_12=>oK (rd1 s v_12) λv_13=>oK (qAQ v_13) λv_14=>oK (qAC .lss i3 (.int .i64 v_14)) λv_16=>qAM v_16
 (oK (qAE 5 t1) λv_17=>oK (rd1 s v_17) λv_18=>oK (qAS 2 v_18 i3) λv_19=>oK (qAE 0 v_19) λv_20=>oK (rd1 s v_20) λv_21=>oK (qAQ v_21) λv_22=>oK (qAC .gtr (.int .i64 v_22) (.int .i64 20)) λv_24=>qAM v_24
 (qKK X i3 v_24 .undef I5 m5 K s)
 (oK (qAE 5 t1) λv_27=>oK (rd1 s v_27) λv_28=>oK (qAS 2 v_28 i3) λv_29=>oK (qAE 1 v_29) λv_30=>oK (rd1 s v_30) λv_31=>oK (qAQ v_31) λv_32=>oK (qAC .gtr (.int .i64 v_32) (.int .i64 20)) λv_34=>qKK X i3 v_24 v_34 I5 m5 K s))
 (K (.bool false) s)
def qET (X:Td)(t1 t32 t36:AV) (K:KvP) (s:Hq):Prop:=
 oK (qAV t32 (.bool true) t36) λv_11=>qAM v_11
 (K (.bool true) s)
 (∃ I5:IvP,(∃ m,I5 [(.int .i64 0)] s m)∧∀ (f:Env) (s:Hq) (m5:Nat),I5 [f 3] s m5→
 qP0 X t1 (f 3) I5 m5 K s)
def qES (X:Td)(t1 t26 t30:AV) (K:KvP) (s:Hq):Prop:=
 oK (qAV t26 (.bool true) t30) λv_10=>qAM v_10
 (qET X t1 v_10 .undef K s)
 (oK (qAE 7 t1) λv_35=>oK (rd1 s v_35) λv_36=>oK (qAQ v_36) λv_37=>oK (qAC .gtr (.int .i64 v_37) (.int .i64 40)) λv_39=>qET X t1 v_10 v_39 K s)
def qFC (X:Td)(t1 t20 t24:AV) (K:KvP) (s:Hq):Prop:=
 oK (qAV t20 (.bool true) t24) λv_9=>qAM v_9
 (qES X t1 v_9 .undef K s)
 (oK (qAE 6 t1) λv_40=>oK (rd1 s v_40) λv_41=>oK (qAQ v_41) λv_42=>oK (qAC .gtr (.int .i64 v_42) (.int .i64 40)) λv_44=>qES X t1 v_9 v_44 K s)
def qGV (X:Td)(t1 t14 t18:AV) (K:KvP) (s:Hq):Prop:=
 oK (qAV t14 (.bool true) t18) λv_8=>qAM v_8
 (qFC X t1 v_8 .undef K s)
 (oK (qAE 5 t1) λv_45=>oK (rd1 s v_45) λv_46=>oK (qAQ v_46) λv_47=>oK (qAC .gtr (.int .i64 v_47) (.int .i64 40)) λv_49=>qFC X t1 v_8 v_49 K s)
def qH8 (X:Td)(t1 t8 t12:AV) (K:KvP) (s:Hq):Prop:=
 oK (qAV t8 (.bool true) t12) λv_7=>qAM v_7
 (qGV X t1 v_7 .undef K s)
 (oK (qAE 4 t1) λv_50=>oK (rd1 s v_50) λv_51=>oK (qAQ v_51) λv_52=>oK (qAC .gtr (.int .i64 v_52) (.int .i64 40)) λv_54=>qGV X t1 v_7 v_54 K s)
def zACv (X:Td)(t0:AV) (K:KvP) (s:Hq):Prop:=
 boxK 68 t0 (λB0 S1=>oK (qAE 2 B0) λv_2=>oK (rd1 S1 v_2) λv_3=>oK (qAQ v_3) λv_4=>oK (qAC .gtr (.int .i64 v_4) (.int .i64 40)) λv_6=>qAM v_6
 (qH8 X B0 v_6 .undef K S1)
 (oK (qAE 3 B0) λv_55=>oK (rd1 S1 v_55) λv_56=>oK (qAQ v_56) λv_57=>oK (qAC .gtr (.int .i64 v_57) (.int .i64 40)) λv_59=>qH8 X B0 v_6 v_59 K S1)) s
def qUc:Nat→List Nat:=λk=>cond (Nat.beq k 8) [3] ([])
theorem qWK {t0:AV} {K:KvP} {s:Hq} (h:zACv XX t0 K s):wC Tryz.prog XX 30 [t0] K s:=wOK qA3 qUc rfl Tryz.func30 (by kernel_rfl) (by kernel_rfl) (by kernel_rfl) h
def qDH (X:Td)(i3 t31 t39:AV) (I0:IvP) (m0:Nat) (K:KvP) (s:Hq):Prop:=
 oK (qAV t31 (.bool true) t39) λv_14=>qAM v_14
 (K (.bool true) s)
 (oK (qAC .add i3 (.int .i64 1)) λv_15=>∃ m',m' < m0∧I0 [v_15] s m')
def qDJ (X:Td)(l0 i3 t21 t29:AV) (I0:IvP) (m0:Nat) (K:KvP) (s:Hq):Prop:=
 oK (qAV t21 (.bool true) t29) λv_13=>qAM v_13
 (qDH X i3 v_13 .undef I0 m0 K s)
 (oK (qAS 38 l0 i3) λv_16=>oK (qAE 21 v_16) λv_17=>oK (qAE 10 v_17) λv_18=>oK (rd1 s v_18) λv_19=>oK (qAQ v_19) λv_20=>oK (qAC .gtr (.int .i64 v_20) (.int .i64 20)) λv_22=>qDH X i3 v_13 v_22 I0 m0 K s)
def qJA (X:Td)(l0 i3:AV) (I0:IvP) (m0:Nat) (K:KvP) (s:Hq):Prop:=
 oK (qAQ l0) λv_3=>oK (qAC .lss i3 (.int .i64 v_3)) λv_5=>qAM v_5
 (oK (qAS 38 l0 i3) λv_6=>oK (qAE 21 v_6) λv_7=>oK (qAE 1 v_7) λv_8=>oK (rd1 s v_8) λv_9=>oK (qAQ v_9) λv_10=>oK (qAC .gtr (.int .i64 v_10) (.int .i64 20)) λv_12=>qAM v_12
 (qDJ X l0 i3 v_12 .undef I0 m0 K s)
 (oK (qAS 38 l0 i3) λv_23=>oK (qAE 21 v_23) λv_24=>oK (qAE 9 v_24) λv_25=>oK (rd1 s v_25) λv_26=>oK (qAQ v_26) λv_27=>oK (qAC .gtr (.int .i64 v_27) (.int .i64 20)) λv_29=>qDJ X l0 i3 v_12 v_29 I0 m0 K s))
 (K (.bool false) s)
def qLU (X:Td)(l0:AV) (K:KvP) (s:Hq):Prop:=
 oK (qAQ l0) λv_0=>oK (qAC .gtr (.int .i64 v_0) (.int .i64 60)) λv_2=>qAM v_2
 (K (.bool true) s)
 (∃ I0:IvP,(∃ m,I0 [(.int .i64 0)] s m)∧∀ (f:Env) (s:Hq) (m0:Nat),I0 [f 3] s m0→
 qJA X l0 (f 3) I0 m0 K s)
def qL5:Nat→List Nat:=λk=>cond (Nat.beq k 8) [3] ([])
theorem qNF {l0:AV} {K:KvP} {s:Hq} (h:qLU XX l0 K s):wC Tryz.prog XX 31 [l0] K s:=wOK qA3 qL5 rfl Tryz.func31 (by kernel_rfl) (by kernel_rfl) (by kernel_rfl) h
def qBN (X:Td)(x8 t9:AV) (I0:IvP) (m0:Nat) (K:KvP) (s:Hq):Prop:=
 oK (qAC .add t9 (.int .i64 1)) λv_14=>∃ m',m' < m0∧I0 [x8,v_14] s m'
def qBM (X:Td)(x8 i13:AV) (I2:IvP) (m2:Nat) (I0:IvP) (m0:Nat) (K:KvP) (s:Hq):Prop:=
 oK (qAC .add i13 (.int .i64 1)) λv_49=>∃ m',m' < m2∧I2 [x8,v_49] s m'
def qCv (X:Td)(t2 x8 t9 x10 l11 x12 i13:AV) (I2:IvP) (m2:Nat) (I0:IvP) (m0:Nat) (K:KvP) (s:Hq):Prop:=
 oK (qAE 5 t2) λv_30=>oK (rd1 s v_30) λv_31=>oK (qAS 2 v_31 t9) λv_32=>oK (qAE 1 v_32) λv_33=>oK (rd1 s v_33) λv_34=>oK (qAQ v_34) λv_35=>oK (qAC .lss i13 (.int .i64 v_35)) λv_37=>qAM v_37
 (oK (qAE 5 t2) λv_38=>oK (rd1 s v_38) λv_39=>oK (qAS 2 v_39 t9) λv_40=>oK (qAE 1 v_40) λv_41=>oK (rd1 s v_41) λv_42=>oK (qAS 1 v_42 i13) λv_43=>oK (rd1 s v_43) λv_44=>wC Tryz.prog X 62 [x12,l11,v_44] (λv_45 S46=>oK (qAd v_45 0) λv_47=>oK (qAd v_45 1) λv_48=>qAM v_48
 (oK (rdN S46 10 x10) λv_50=>oK (qBi [(.int .u8 0),(.int .u8 0),(.int .u8 0),(.int .u8 0),(.int .u8 0),(.int .u8 0),(.int .u8 0),(.int .u8 0),(.int .u8 0),(.int .u8 0),(.int .i64 0),(.int .u32 0)] [(0,10,(.agg v_50)),(10,1,v_44),(11,1,v_47)]) λC51=>oK (qBi (repl 1 [(.int .u8 0),(.int .u8 0),(.int .u8 0),(.int .u8 0),(.int .u8 0),(.int .u8 0),(.int .u8 0),(.int .u8 0),(.int .u8 0),(.int .u8 0),(.int .i64 0),(.int .u32 0)]) [(0,12,(.agg C51))]) λC52=>qAj C52=true∧newK 56 C52 (λB53 S54=>appK 56 12 x8 (.slc B53 0 1 (some 1) 12) (λv_55 S56=>qBM X v_55 i13 I2 m2 I0 m0 K S56) S54) S46)
 (qBM X x8 i13 I2 m2 I0 m0 K S46)) s)
 (qBN X x8 t9 I0 m0 K s)
def qCw (X:Td)(routes1 t2 x8 t9:AV) (I0:IvP) (m0:Nat) (K:KvP) (s:Hq):Prop:=
 oK (qAE 5 t2) λv_9=>oK (rd1 s v_9) λv_10=>oK (qAQ v_10) λv_11=>oK (qAC .lss t9 (.int .i64 v_11)) λv_13=>qAM v_13
 (oK (rdN s 19 t2) λv_15=>wC Tryz.prog X 59 [(.agg v_15),t9] (λv_16 S17=>oK (qAq .not v_16) λv_18=>qAM v_18
 (qBN X x8 t9 I0 m0 K S17)
 (oK (rdN S17 19 t2) λv_19=>wC Tryz.prog X 60 [(.agg v_19),t9] (λv_20 S21=>newK 27 [(.int .u8 0),(.int .u8 0),(.int .u8 0),(.int .u8 0),(.int .u8 0),(.int .u8 0),(.int .u8 0),(.int .u8 0),(.int .u8 0),(.int .u8 0)] (λB22 S23=>oK (qAv S23 10 (.ptr B22 0) v_20) λS24=>oK (rdN S24 10 (.ptr B22 0)) λv_25=>wC Tryz.prog X 61 [routes1,(.agg v_25)] (λv_26 S27=>oK (qAd v_26 0) λv_28=>oK (qAd v_26 1) λv_29=>∃ I2:IvP,(∃ m,I2 [x8,(.int .i64 0)] S27 m)∧∀ (f:Env) (s:Hq) (m2:Nat),I2 [f 8,f 13] s m2→
 qCv X t2 (f 8) t9 (.ptr B22 0) v_28 v_29 (f 13) I2 m2 I0 m0 K s) S24) S21) S17)) s)
 (K x8 s)
def qGa (X:Td)(t0 routes1:AV) (K:KvP) (s:Hq):Prop:=
 boxK 68 t0 (λB0 S1=>oK (rdN S1 19 B0) λv_2=>wC Tryz.prog X 58 [(.agg v_2)] (λv_3 S4=>oK (qAd v_3 0) λv_5=>oK (qAd v_3 1) λv_6=>oK (qAd v_3 2) λv_7=>oK (negB true (eqV 0 true v_5 (.int .i64 0))) λv_8=>qAM v_8
 (K .nilslc S4)
 (∃ I0:IvP,(∃ m,I0 [.nilslc,(.int .i64 0)] S4 m)∧∀ (f:Env) (s:Hq) (m0:Nat),I0 [f 8,f 9] s m0→
 qCw X routes1 B0 (f 8) (f 9) I0 m0 K s)) S1) s
def qFH:Nat→List Nat:=λk=>cond (Nat.beq k 12) [8,9] (cond (Nat.beq k 24) [8,13] ([]))
theorem qFk {t0 routes1:AV} {K:KvP} {s:Hq} (h:qGa XX t0 routes1 K s):wC Tryz.prog XX 32 [t0,routes1] K s:=wOK qA3 qFH rfl Tryz.func32 (by kernel_rfl) (by kernel_rfl) (by kernel_rfl) h
def zAGP (X:Td)(l0 esi1 bd2 ip3:AV) (K:KvP) (s:Hq):Prop:=
 boxK 27 esi1 (λB0 S1=>oK (rdN S1 10 B0) λv_2=>oK (qBi [(.int .u8 0),(.int .u8 0),(.int .u8 0),(.int .u8 0),(.int .u8 0),(.int .u8 0),(.int .u8 0),(.int .u8 0),(.int .u8 0),(.int .u8 0),(.int .i64 0),(.int .u32 0)] [(0,10,(.agg v_2)),(10,1,bd2),(11,1,ip3)]) λC3=>wC Tryz.prog X 63 [l0,(.agg C3)] (λv_4 S5=>K v_4 S5) S1) s
theorem zABh {l0 esi1 bd2 ip3:AV} {K:KvP} {s:Hq} (h:zAGP XX l0 esi1 bd2 ip3 K s):wC Tryz.prog XX 33 [l0,esi1,bd2,ip3] K s:=wOK qA3 nA0 rfl Tryz.func33 (by kernel_rfl) (by kernel_rfl) (by kernel_rfl) h
def qE3 (X:Td)(l0 bd2 ip3 esi5 i9:AV) (I0:IvP) (m0:Nat) (K:KvP) (s:Hq):Prop:=
 oK (qAQ l0) λv_2=>oK (qAC .lss i9 (.int .i64 v_2)) λv_4=>qAM v_4
 (oK (qAS 12 l0 i9) λv_5=>oK (rdN s 12 v_5) λv_6=>oK (rdN s 10 esi5) λv_7=>oK (qBi [(.int .u8 0),(.int .u8 0),(.int .u8 0),(.int .u8 0),(.int .u8 0),(.int .u8 0),(.int .u8 0),(.int .u8 0),(.int .u8 0),(.int .u8 0),(.int .i64 0),(.int .u32 0)] [(0,10,(.agg v_7)),(10,1,bd2),(11,1,ip3)]) λC8=>oK (negB false (qFb Tryz.prog 56 (.agg v_6) (.agg C8))) λv_9=>qAM v_9
 (K (.bool true) s)
 (oK (qAC .add i9 (.int .i64 1)) λv_10=>∃ m',m' < m0∧I0 [v_10] s m'))
 (K (.bool false) s)
def qKv (X:Td)(l0 esi1 bd2 ip3:AV) (K:KvP) (s:Hq):Prop:=
 boxK 27 esi1 (λB0 S1=>∃ I0:IvP,(∃ m,I0 [(.int .i64 0)] S1 m)∧∀ (f:Env) (s:Hq) (m0:Nat),I0 [f 9] s m0→
 qE3 X l0 bd2 ip3 B0 (f 9) I0 m0 K s) s
def qIc:Nat→List Nat:=λk=>cond (Nat.beq k 4) [9] ([])
theorem qJD {l0 esi1 bd2 ip3:AV} {K:KvP} {s:Hq} (h:qKv XX l0 esi1 bd2 ip3 K s):wC Tryz.prog XX 34 [l0,esi1,bd2,ip3] K s:=wOK qA3 qIc rfl Tryz.func34 (by kernel_rfl) (by kernel_rfl) (by kernel_rfl) h
def qIL (X:Td)(t9 t14:AV) (K:KvP) (s:Hq):Prop:=
 oK (qAV t9 t14 (.bool false)) λv_8=>K v_8 s
def qZ6 (X:Td)(r0 esi1:AV) (K:KvP) (s:Hq):Prop:=
 boxK 51 r0 (λB0 S1=>boxK 27 esi1 (λB2 S3=>oK (qAE 0 B0) λv_4=>oK (qAE 0 v_4) λv_5=>oK (rd1 S3 v_5) λv_6=>oK (negB false (eqV 0 true v_6 (.int .i64 4))) λv_7=>qAM v_7
 (oK (qAE 0 B0) λv_9=>oK (qAE 2 v_9) λv_10=>oK (rdN S3 10 v_10) λv_11=>oK (rdN S3 10 B2) λv_12=>oK (negB false (qFb Tryz.prog 27 (.agg v_11) (.agg v_12))) λv_13=>qIL X v_7 v_13 K S3)
 (qIL X v_7 .undef K S3)) S1) s
theorem qT1 {r0 esi1:AV} {K:KvP} {s:Hq} (h:qZ6 XX r0 esi1 K s):wC Tryz.prog XX 37 [r0,esi1] K s:=wOK qA3 nA0 rfl Tryz.func37 (by kernel_rfl) (by kernel_rfl) (by kernel_rfl) h
def qDY (X:Td)(t0 t2 t6 t8:AV) (K:KvP) (s:Hq):Prop:=
 oK (qAV t6 (.bool true) t8) λv_3=>qAM v_3
 (oK (qBi [(.int .u8 0),(.int .u8 0),(.int .u8 0),(.int .u8 0),(.int .u8 0),(.int .u8 0),(.int .u8 0),(.int .u8 0),(.int .u8 0),(.int .u8 0)] []) λC4=>oK (qAv s 10 t2 (.agg C4)) λS5=>oK (rdN S5 10 t2) λt2_6=>K (.tup [(.agg t2_6),(.int .i64 2)]) S5)
 (oK (qAC .add t0 (.int .i64 1)) λv_7=>oK (qBx .u8 v_7) λv_8=>oK (qBi [(.int .u8 0),(.int .u8 0),(.int .u8 0),(.int .u8 0),(.int .u8 0),(.int .u8 0),(.int .u8 0),(.int .u8 0),(.int .u8 0),(.int .u8 0)] [(0,1,(.int .u8 3)),(9,1,v_8)]) λC9=>oK (qAv s 10 t2 (.agg C9)) λS10=>oK (rdN S10 10 t2) λt2_11=>K (.tup [(.agg t2_11),(.int .i64 0)]) S10)
def qLm (X:Td)(t0:AV) (K:KvP) (s:Hq):Prop:=
 newK 27 [(.int .u8 0),(.int .u8 0),(.int .u8 0),(.int .u8 0),(.int .u8 0),(.int .u8 0),(.int .u8 0),(.int .u8 0),(.int .u8 0),(.int .u8 0)] (λB0 S1=>oK (qAC .lss t0 (.int .i64 0)) λv_2=>qAM v_2
 (qDY X t0 (.ptr B0 0) v_2 .undef K S1)
 (oK (qAC .geq t0 (.int .i64 64)) λv_12=>qDY X t0 (.ptr B0 0) v_2 v_12 K S1)) s
theorem qJO {t0:AV} {K:KvP} {s:Hq} (h:qLm XX t0 K s):wC Tryz.prog XX 40 [t0] K s:=wOK qA3 nA0 rfl Tryz.func40 (by kernel_rfl) (by kernel_rfl) (by kernel_rfl) h
def qLe (X:Td)(l0:AV) (K:KvP) (s:Hq):Prop:=
 newK 3 [(.int .i64 0)] (λB0 S1=>wC Tryz.prog X 71 [l0,(.int .i64 7),(.fn (.func 72) [] [(.ptr B0 0)])] (λv_2 S3=>oK (qAd v_2 0) λv_4=>oK (qAd v_2 1) λv_5=>oK (rd1 S3 (.ptr B0 0)) λv_6=>oK (wr1 S3 (.ptr B0 0) v_6) λS7=>oK (rd1 S7 (.ptr B0 0)) λpref3_8=>K (.tup [v_4,pref3_8,v_5]) S7) S1) s
theorem qJN {l0:AV} {K:KvP} {s:Hq} (h:qLe XX l0 K s):wC Tryz.prog XX 44 [l0] K s:=wOK qA3 nA0 rfl Tryz.func44 (by kernel_rfl) (by kernel_rfl) (by kernel_rfl) h
def qBF (X:Td)(x0 cmp1:AV) (K:KvP) (s:Hq):Prop:=
 oK (qAQ x0) λv_0=>wC Tryz.prog X 74 [x0,(.int .i64 v_0),cmp1] (λv_2 S3=>K (.tup []) S3) s
theorem qCK {x0 cmp1:AV} {K:KvP} {s:Hq} (h:qBF XX x0 cmp1 K s):wC Tryz.prog XX 45 [x0,cmp1] K s:=wOK qA3 nA0 rfl Tryz.func45 (by kernel_rfl) (by kernel_rfl) (by kernel_rfl) h
def qOI (X:Td)(a0 b1:AV) (K:KvP) (s:Hq):Prop:=
 boxK 36 a0 (λB0 S1=>boxK 36 b1 (λB2 S3=>oK (qAE 0 B0) λv_4=>oK (rd1 S3 v_4) λv_5=>oK (qAE 0 B2) λv_6=>oK (rd1 S3 v_6) λv_7=>wC Tryz.prog X 47 [v_5,v_7] (λv_8 S9=>K v_8 S9) S3) S1) s
theorem qLx {a0 b1:AV} {K:KvP} {s:Hq} (h:qOI XX a0 b1 K s):wC Tryz.prog XX 46 [a0,b1] K s:=wOK qA3 nA0 rfl Tryz.func46 (by kernel_rfl) (by kernel_rfl) (by kernel_rfl) h
def qJG (X:Td)(x0 y1:AV) (K:KvP) (s:Hq):Prop:=
 wC Tryz.prog X 75 [x0] (λv_0 S1=>wC Tryz.prog X 75 [y1] (λv_2 S3=>qAM v_0
 (qAM v_2
 (K (.int .i64 0) S3)
 (K (.int .i64 (-1)) S3))
 (qAM v_2
 (K (.int .i64 1) S3)
 (oK (qAC .lss x0 y1) λv_4=>qAM v_4
 (K (.int .i64 (-1)) S3)
 (oK (qAC .gtr x0 y1) λv_5=>qAM v_5
 (K (.int .i64 1) S3)
 (K (.int .i64 0) S3))))) S1) s
theorem qHf {x0 y1:AV} {K:KvP} {s:Hq} (h:qJG XX x0 y1 K s):wC Tryz.prog XX 47 [x0,y1] K s:=wOK qA3 nA0 rfl Tryz.func47 (by kernel_rfl) (by kernel_rfl) (by kernel_rfl) h
def qAl (X:Td)(k5 k27:AV) (I1:IvP) (m1:Nat) (I0:IvP) (m0:Nat) (K:KvP) (s:Hq):Prop:=
 oK (qAC .add k27 (.int .i64 1)) λv_25=>∃ m',m' < m1∧I1 [k5,v_25] s m'
def qBJ (X:Td)(t0 eq1 k5 s26 k27:AV) (I1:IvP) (m1:Nat) (I0:IvP) (m0:Nat) (K:KvP) (s:Hq):Prop:=
 oK (qAQ s26) λv_14=>oK (qAC .lss k27 (.int .i64 v_14)) λv_16=>qAM v_16
 (oK (qAS 2 s26 k27) λv_17=>oK (rdN s 2 v_17) λv_18=>oK (qAC .sub k27 (.int .i64 1)) λv_19=>oK (qAS 2 s26 v_19) λv_20=>oK (rdN s 2 v_20) λv_21=>funK Tryz.prog X eq1 [(.agg v_18),(.agg v_21)] (λv_22 S23=>oK (qAq .not v_22) λv_24=>qAM v_24
 (oK (qAS 2 s26 k27) λv_26=>oK (rdN S23 2 v_26) λv_27=>oK (qAS 2 t0 k5) λv_28=>oK (qAv S23 2 v_28 (.agg v_27)) λS29=>oK (qAC .add k5 (.int .i64 1)) λv_30=>qAl X v_30 k27 I1 m1 I0 m0 K S29)
 (qAl X k5 k27 I1 m1 I0 m0 K S23)) s)
 (oK (qCA 2 t0 (some k5) none none) λv_31=>qSR [(.int .u32 0),(.int .i64 0)] 2 v_31 (λv_32 S33=>oK (qCA 2 t0 none (some k5) none) λv_34=>K v_34 S33) s)
def qBG (X:Td)(t0 eq1 k5:AV) (I0:IvP) (m0:Nat) (K:KvP) (s:Hq):Prop:=
 oK (qAQ t0) λv_3=>oK (qAC .lss k5 (.int .i64 v_3)) λv_5=>qAM v_5
 (oK (qAS 2 t0 k5) λv_6=>oK (rdN s 2 v_6) λv_7=>oK (qAC .sub k5 (.int .i64 1)) λv_8=>oK (qAS 2 t0 v_8) λv_9=>oK (rdN s 2 v_9) λv_10=>funK Tryz.prog X eq1 [(.agg v_7),(.agg v_10)] (λv_11 S12=>qAM v_11
 (oK (qCA 2 t0 (some k5) none none) λv_13=>∃ I1:IvP,(∃ m,I1 [k5,(.int .i64 1)] S12 m)∧∀ (f:Env) (s:Hq) (m1:Nat),I1 [f 5,f 7] s m1→
 qBJ X t0 eq1 (f 5) v_13 (f 7) I1 m1 I0 m0 K s)
 (oK (qAC .add k5 (.int .i64 1)) λv_35=>∃ m',m' < m0∧I0 [v_35] S12 m')) s)
 (K t0 s)
def qBW (X:Td)(t0 eq1:AV) (K:KvP) (s:Hq):Prop:=
 oK (qAQ t0) λv_0=>oK (qAC .lss (.int .i64 v_0) (.int .i64 2)) λv_2=>qAM v_2
 (K t0 s)
 (∃ I0:IvP,(∃ m,I0 [(.int .i64 1)] s m)∧∀ (f:Env) (s:Hq) (m0:Nat),I0 [f 5] s m0→
 qBG X t0 eq1 (f 5) I0 m0 K s)
def qCT:Nat→List Nat:=λk=>cond (Nat.beq k 8) [5] (cond (Nat.beq k 18) [5,7] ([]))
theorem qCW {t0 eq1:AV} {K:KvP} {s:Hq} (h:qBW XX t0 eq1 K s):wC Tryz.prog XX 48 [t0,eq1] K s:=wOK qA3 qCT rfl Tryz.func48 (by kernel_rfl) (by kernel_rfl) (by kernel_rfl) h
def qOO (X:Td)(a0 b1:AV) (K:KvP) (s:Hq):Prop:=
 boxK 36 a0 (λB0 S1=>boxK 36 b1 (λB2 S3=>oK (qAE 0 B0) λv_4=>oK (rd1 S3 v_4) λv_5=>oK (qAE 0 B2) λv_6=>oK (rd1 S3 v_6) λv_7=>oK (negB false (eqV 0 false v_5 v_7)) λv_8=>K v_8 S3) S1) s
theorem qLk {a0 b1:AV} {K:KvP} {s:Hq} (h:qOO XX a0 b1 K s):wC Tryz.prog XX 49 [a0,b1] K s:=wOK qA3 nA0 rfl Tryz.func49 (by kernel_rfl) (by kernel_rfl) (by kernel_rfl) h
def qQU (X:Td)(K:KvP) (s:Hq):Prop:=
 newK 126 [.nilFunc,.nilFunc,.nilFunc] (λB0 S1=>oK (qBi [.nilFunc,.nilFunc,.nilFunc] [(0,1,(.fn (.func 76) [] [])),(1,1,(.fn (.func 77) [] [])),(2,1,(.fn (.func 81) [] []))]) λC2=>oK (qAv S1 3 (.ptr B0 0) (.agg C2)) λS3=>oK (rdN S3 3 (.ptr B0 0)) λt0_4=>K (.agg t0_4) S3) s
theorem qI9 {K:KvP} {s:Hq} (h:qQU XX K s):wC Tryz.prog XX 50 [] K s:=wOK qA3 nA0 rfl Tryz.func50 (by kernel_rfl) (by kernel_rfl) (by kernel_rfl) h
def qOQ (X:Td)(t1 x7 x8 p10 i11:AV) (I1:IvP) (m1:Nat) (I0:IvP) (m0:Nat) (K:KvP) (s:Hq):Prop:=
 oK (qAS 1 x8 p10) λv_56=>oK (rd1 s v_56) λv_57=>oK (qAC .lss i11 v_57) λv_58=>qAM v_58
 (oK (rdN s 19 t1) λv_59=>wC Tryz.prog X 87 [(.agg v_59),p10,i11] (λv_60 S61=>oK (negB true (eqV 0 true v_60 (.int .i64 0))) λv_62=>qAM v_62
 (oK (qAS 1 x7 p10) λv_63=>oK (rd1 S61 v_63) λv_64=>K (.tup [v_60,v_64,i11]) S61)
 (oK (qAC .add i11 (.int .i64 1)) λv_65=>∃ m',m' < m1∧I1 [v_65] S61 m')) s)
 (oK (qAC .add p10 (.int .i64 1)) λv_66=>∃ m',m' < m0∧I0 [v_66] s m')
def qNd (X:Td)(t1 x7 x8 x9 p10:AV) (I0:IvP) (m0:Nat) (K:KvP) (s:Hq):Prop:=
 oK (qAQ x7) λv_44=>oK (qAC .lss p10 (.int .i64 v_44)) λv_46=>qAM v_46
 (oK (qAS 1 x8 p10) λv_47=>oK (rd1 s v_47) λv_48=>oK (qAS 1 x9 p10) λv_49=>oK (rd1 s v_49) λv_50=>oK (qAC .gtr v_48 v_50) λv_51=>qAM v_51
 (oK (qAS 1 x7 p10) λv_52=>oK (rd1 s v_52) λv_53=>oK (qAS 1 x9 p10) λv_54=>oK (rd1 s v_54) λv_55=>K (.tup [(.int .i64 7),v_53,v_55]) s)
 (∃ I1:IvP,(∃ m,I1 [(.int .i64 0)] s m)∧∀ (f:Env) (s:Hq) (m1:Nat),I1 [f 11] s m1→
 qOQ X t1 x7 x8 p10 (f 11) I1 m1 I0 m0 K s))
 (K (.tup [(.int .i64 0),(.str ⟨#[]⟩),(.int .i64 0)]) s)
def zAAx (X:Td)(t0:AV) (K:KvP) (s:Hq):Prop:=
 boxK 68 t0 (λB0 S1=>oK (rdN S1 19 B0) λv_2=>wC Tryz.prog X 85 [(.agg v_2)] (λv_3 S4=>oK (negB true (eqV 0 true v_3 (.int .i64 0))) λv_5=>qAM v_5
 (K (.tup [v_3,(.str ⟨#[102,97,98,114,105,99]⟩),(.int .i64 0)]) S4)
 (oK (qAE 13 B0) λv_6=>oK (rdN S4 6 v_6) λv_7=>wC Tryz.prog X 86 [(.agg v_7)] (λv_8 S9=>oK (negB true (eqV 0 true v_8 (.int .i64 0))) λv_10=>qAM v_10
 (K (.tup [v_8,(.str ⟨#[116,105,109,101,114,115]⟩),(.int .i64 0)]) S9)
 (oK (qBi (repl 6 [(.str ⟨#[]⟩)]) [(0,1,(.str ⟨#[108,105,110,107,115]⟩)),(1,1,(.str ⟨#[116,101,110,97,110,116,115]⟩)),(2,1,(.str ⟨#[100,111,109,97,105,110,115]⟩)),(3,1,(.str ⟨#[115,101,103,109,101,110,116,115]⟩)),(4,1,(.str ⟨#[104,111,115,116,115]⟩)),(5,1,(.str ⟨#[108,101,97,107,115]⟩))]) λC11=>qAj C11=true∧newK 9 C11 (λB12 S13=>oK (qAE 2 B0) λv_14=>oK (rd1 S13 v_14) λv_15=>oK (qAQ v_15) λv_16=>oK (qAE 3 B0) λv_18=>oK (rd1 S13 v_18) λv_19=>oK (qAQ v_19) λv_20=>oK (qAE 4 B0) λv_22=>oK (rd1 S13 v_22) λv_23=>oK (qAQ v_23) λv_24=>oK (qAE 5 B0) λv_26=>oK (rd1 S13 v_26) λv_27=>oK (qAQ v_27) λv_28=>oK (qAE 6 B0) λv_30=>oK (rd1 S13 v_30) λv_31=>oK (qAQ v_31) λv_32=>oK (qAE 7 B0) λv_34=>oK (rd1 S13 v_34) λv_35=>oK (qAQ v_35) λv_36=>oK (qBi (repl 6 [(.int .i64 0)]) [(0,1,(.int .i64 v_16)),(1,1,(.int .i64 v_20)),(2,1,(.int .i64 v_24)),(3,1,(.int .i64 v_28)),(4,1,(.int .i64 v_32)),(5,1,(.int .i64 v_36))]) λC38=>qAj C38=true∧newK 3 C38 (λB39 S40=>oK (qBi (repl 6 [(.int .i64 0)]) [(0,1,(.int .i64 128)),(1,1,(.int .i64 16)),(2,1,(.int .i64 32)),(3,1,(.int .i64 64)),(4,1,(.int .i64 128)),(5,1,(.int .i64 256))]) λC41=>qAj C41=true∧newK 3 C41 (λB42 S43=>∃ I0:IvP,(∃ m,I0 [(.int .i64 0)] S43 m)∧∀ (f:Env) (s:Hq) (m0:Nat),I0 [f 10] s m0→
 qNd X B0 (.slc B12 0 6 (some 6) 1) (.slc B39 0 6 (some 6) 1) (.slc B42 0 6 (some 6) 1) (f 10) I0 m0 K s) S40) S13) S9)) S4)) S1) s
def qR5:Nat→List Nat:=λk=>cond (Nat.beq k 22) [10] (cond (Nat.beq k 32) [11] ([]))
theorem qUi {t0:AV} {K:KvP} {s:Hq} (h:zAAx XX t0 K s):wC Tryz.prog XX 58 [t0] K s:=wOK qA3 qR5 rfl Tryz.func58 (by kernel_rfl) (by kernel_rfl) (by kernel_rfl) h
end Go.AM
namespace Go.AM
open Go Go.Proofs
set_option maxRecDepth 100000
def qFw (X:Td)(t15 t23:AV) (K:KvP) (s:Hq):Prop:=
 oK (qAV t15 t23 (.bool false)) λv_6=>K v_6 s
def qF0 (X:Td)(t1 t2 t7 t13:AV) (K:KvP) (s:Hq):Prop:=
 oK (qAV t7 t13 (.bool false)) λv_5=>qAM v_5
 (oK (qAE 5 t2) λv_7=>oK (rd1 s v_7) λv_8=>oK (qAS 2 v_8 t1) λv_9=>oK (qAE 0 v_9) λv_10=>oK (rd1 s v_10) λv_11=>oK (qAQ v_11) λv_12=>oK (qAC .gtr (.int .i64 v_12) (.int .i64 1)) λv_14=>qFw X v_5 v_14 K s)
 (qFw X v_5 .undef K s)
def qQD (X:Td)(t0 t1:AV) (K:KvP) (s:Hq):Prop:=
 boxK 68 t0 (λB0 S1=>oK (rdN S1 19 B0) λv_2=>wC Tryz.prog X 88 [(.agg v_2)] (λv_3 S4=>qAM v_3
 (oK (qAE 5 B0) λv_15=>oK (rd1 S4 v_15) λv_16=>oK (qAQ v_16) λv_17=>oK (qAC .sub (.int .i64 v_17) (.int .i64 1)) λv_19=>wC Tryz.prog X 89 [t1,(.int .i64 0),v_19] (λv_20 S21=>qF0 X t1 B0 v_3 v_20 K S21) S4)
 (qF0 X t1 B0 v_3 .undef K S4)) S1) s
theorem qMz {t0 t1:AV} {K:KvP} {s:Hq} (h:qQD XX t0 t1 K s):wC Tryz.prog XX 59 [t0,t1] K s:=wOK qA3 nA0 rfl Tryz.func59 (by kernel_rfl) (by kernel_rfl) (by kernel_rfl) h
def zAFL (X:Td)(t0 t1:AV) (K:KvP) (s:Hq):Prop:=
 boxK 68 t0 (λB0 S1=>newK 27 [(.int .u8 0),(.int .u8 0),(.int .u8 0),(.int .u8 0),(.int .u8 0),(.int .u8 0),(.int .u8 0),(.int .u8 0),(.int .u8 0),(.int .u8 0)] (λB2 S3=>oK (rdN S3 19 B0) λv_4=>wC Tryz.prog X 59 [(.agg v_4),t1] (λv_5 S6=>oK (qAq .not v_5) λv_7=>qAM v_7
 (oK (qBi [(.int .u8 0),(.int .u8 0),(.int .u8 0),(.int .u8 0),(.int .u8 0),(.int .u8 0),(.int .u8 0),(.int .u8 0),(.int .u8 0),(.int .u8 0)] []) λC8=>oK (qAv S6 10 (.ptr B2 0) (.agg C8)) λS9=>oK (rdN S9 10 (.ptr B2 0)) λt4_10=>K (.agg t4_10) S9)
 (wC Tryz.prog X 90 [t1] (λv_11 S12=>oK (qAd v_11 0) λv_13=>oK (qAd v_11 1) λv_14=>newK 27 [(.int .u8 0),(.int .u8 0),(.int .u8 0),(.int .u8 0),(.int .u8 0),(.int .u8 0),(.int .u8 0),(.int .u8 0),(.int .u8 0),(.int .u8 0)] (λB15 S16=>oK (qAv S16 10 (.ptr B15 0) v_13) λS17=>oK (rdN S17 10 (.ptr B15 0)) λv_18=>oK (qAv S17 10 (.ptr B2 0) (.agg v_18)) λS19=>oK (rdN S19 10 (.ptr B2 0)) λt4_20=>K (.agg t4_20) S19) S12) S6)) S3) S1) s
theorem qYB {t0 t1:AV} {K:KvP} {s:Hq} (h:zAFL XX t0 t1 K s):wC Tryz.prog XX 60 [t0,t1] K s:=wOK qA3 nA0 rfl Tryz.func60 (by kernel_rfl) (by kernel_rfl) (by kernel_rfl) h
def qAu (X:Td)(x6 x7 x8 i9:AV) (I0:IvP) (m0:Nat) (K:KvP) (s:Hq):Prop:=
 oK (qAC .add i9 (.int .i64 1)) λv_5=>∃ m',m' < m0∧I0 [x6,x7,x8,v_5] s m'
def qBz (X:Td)(x6 x8 i9 r10 a11 x12:AV) (I0:IvP) (m0:Nat) (K:KvP) (s:Hq):Prop:=
 oK (qAE 21 r10) λv_26=>oK (qAE 2 v_26) λv_27=>oK (rd1 s v_27) λv_28=>oK (qBi [(.int .u32 0),(.int .i64 0)] [(0,1,v_28),(1,1,x12)]) λC29=>wC Tryz.prog X 92 [x6,(.agg C29)] (λv_30 S31=>qAu X v_30 a11 x8 i9 I0 m0 K S31) s
def qBH (X:Td)(x6 x8 i9 r10 a11 x12:AV) (I0:IvP) (m0:Nat) (K:KvP) (s:Hq):Prop:=
 oK (qAE 21 r10) λv_35=>oK (qAE 2 v_35) λv_36=>oK (rd1 s v_36) λv_37=>oK (qBi [(.int .u32 0),(.int .i64 0)] [(0,1,v_37),(1,1,x12)]) λC38=>wC Tryz.prog X 92 [x6,(.agg C38)] (λv_39 S40=>qAu X v_39 a11 x8 i9 I0 m0 K S40) s
def qBI (X:Td)(x6 x8 i9 r10 a11 x12 t45 t48 t51:AV) (I0:IvP) (m0:Nat) (K:KvP) (s:Hq):Prop:=
 oK (qAV t48 t51 (.bool false)) λv_33=>oK (qAV t45 (.bool true) v_33) λv_34=>qAM v_34
 (qBH X x6 (.bool false) i9 r10 a11 x12 I0 m0 K s)
 (qBH X x6 x8 i9 r10 a11 x12 I0 m0 K s)
def qBK (X:Td)(x6 x7 x8 i9 r10 t28 t33:AV) (I0:IvP) (m0:Nat) (K:KvP) (s:Hq):Prop:=
 oK (qAV t28 (.bool true) t33) λv_15=>qAM v_15
 (qAu X x6 x7 x8 i9 I0 m0 K s)
 (oK (qAE 21 r10) λv_16=>oK (qAE 10 v_16) λv_17=>oK (rd1 s v_17) λv_18=>wC Tryz.prog X 91 [v_18] (λv_19 S20=>oK (qAd v_19 0) λv_21=>oK (qAd v_19 1) λv_22=>oK (qAd v_19 2) λv_23=>oK (qAq .not v_23) λv_24=>qAM v_24
 (oK (qAV v_24 (.bool true) .undef) λv_25=>qAM v_25
 (qBz X x6 (.bool false) i9 r10 v_21 v_22 I0 m0 K S20)
 (qBz X x6 x8 i9 r10 v_21 v_22 I0 m0 K S20))
 (oK (qAC .geq x7 (.int .i64 0)) λv_32=>qAM v_32
 (oK (negB true (eqV 0 false v_21 x7)) λv_41=>qBI X x6 x8 i9 r10 v_21 v_22 v_24 v_32 v_41 I0 m0 K S20)
 (qBI X x6 x8 i9 r10 v_21 v_22 v_24 v_32 .undef I0 m0 K S20))) s)
def qA1 (X:Td)(x6 x7 t68 t70:AV) (K:KvP) (s:Hq):Prop:=
 oK (qAV t68 (.bool true) t70) λv_49=>qAM v_49
 (K (.tup [x6,(.int .i64 0)]) s)
 (K (.tup [x6,x7]) s)
def qBL (X:Td)(x6 x7 t64 t66:AV) (K:KvP) (s:Hq):Prop:=
 oK (qAV t64 (.bool true) t66) λv_48=>qAM v_48
 (qA1 X x6 x7 v_48 .undef K s)
 (oK (qAC .gtr x7 (.int .i64 2)) λv_50=>qA1 X x6 x7 v_48 v_50 K s)
def qCz (X:Td)(routes0 esi3 x6 x7 x8 i9:AV) (I0:IvP) (m0:Nat) (K:KvP) (s:Hq):Prop:=
 oK (qAQ routes0) λv_2=>oK (qAC .lss i9 (.int .i64 v_2)) λv_4=>qAM v_4
 (oK (qAS 38 routes0 i9) λv_6=>oK (rdN s 38 v_6) λv_7=>newK 51 zR0 (λB8 S9=>oK (qAv S9 38 (.ptr B8 0) (.agg v_7)) λS10=>oK (qAE 0 (.ptr B8 0)) λv_11=>oK (qAE 0 v_11) λv_12=>oK (rd1 S10 v_12) λv_13=>oK (negB true (eqV 0 true v_13 (.int .i64 4))) λv_14=>qAM v_14
 (qBK X x6 x7 x8 i9 (.ptr B8 0) v_14 .undef I0 m0 K S10)
 (oK (qAE 0 (.ptr B8 0)) λv_42=>oK (qAE 2 v_42) λv_43=>oK (rdN S10 10 v_43) λv_44=>oK (rdN S10 10 esi3) λv_45=>oK (negB true (qFb Tryz.prog 27 (.agg v_44) (.agg v_45))) λv_46=>qBK X x6 x7 x8 i9 (.ptr B8 0) v_14 v_46 I0 m0 K S10)) s)
 (oK (qAq .not x8) λv_47=>qAM v_47
 (qBL X x6 x7 v_47 .undef K s)
 (oK (qAC .lss x7 (.int .i64 0)) λv_51=>qBL X x6 x7 v_47 v_51 K s))
def qGf (X:Td)(routes0 esi1:AV) (K:KvP) (s:Hq):Prop:=
 boxK 27 esi1 (λB0 S1=>∃ I0:IvP,(∃ m,I0 [.nilslc,(.int .i64 (-1)),(.bool true),(.int .i64 0)] S1 m)∧∀ (f:Env) (s:Hq) (m0:Nat),I0 [f 6,f 7,f 8,f 9] s m0→
 qCz X routes0 B0 (f 6) (f 7) (f 8) (f 9) I0 m0 K s) s
def qE8:Nat→List Nat:=λk=>cond (Nat.beq k 8) [6,7,8,9] ([])
theorem qFg {routes0 esi1:AV} {K:KvP} {s:Hq} (h:qGf XX routes0 esi1 K s):wC Tryz.prog XX 61 [routes0,esi1] K s:=wOK qA3 qE8 rfl Tryz.func61 (by kernel_rfl) (by kernel_rfl) (by kernel_rfl) h
def qCj (X:Td)(x8 i9:AV) (I3:IvP) (m3:Nat) (K:KvP) (s:Hq):Prop:=
 oK (qAC .add i9 (.int .i64 1)) λv_31=>∃ m',m' < m3∧I3 [x8,v_31] s m'
def qD5 (X:Td)(x8 i9:AV) (I3:IvP) (m3:Nat) (K:KvP) (s:Hq):Prop:=
 oK (qAC .add i9 (.int .i64 1)) λv_42=>∃ m',m' < m3∧I3 [x8,v_42] s m'
def qCm (X:Td)(x8 i9:AV) (I3:IvP) (m3:Nat) (K:KvP) (s:Hq):Prop:=
 oK (qAC .add i9 (.int .i64 1)) λv_45=>∃ m',m' < m3∧I3 [x8,v_45] s m'
def qDy (X:Td)(x8 i9:AV) (I3:IvP) (m3:Nat) (K:KvP) (s:Hq):Prop:=
 oK (qAC .add i9 (.int .i64 1)) λv_48=>∃ m',m' < m3∧I3 [x8,v_48] s m'
def qBw (X:Td)(x8 i9:AV) (I3:IvP) (m3:Nat) (K:KvP) (s:Hq):Prop:=
 oK (qAC .add i9 (.int .i64 1)) λv_52=>∃ m',m' < m3∧I3 [x8,v_52] s m'
def qBv (X:Td)(x8 i9 t62 t65 t76:AV) (I3:IvP) (m3:Nat) (K:KvP) (s:Hq):Prop:=
 oK (qAV t65 t76 (.bool false)) λv_50=>oK (qAV t62 (.bool true) v_50) λv_51=>qAM v_51
 (qBw X i9 i9 I3 m3 K s)
 (qBw X x8 i9 I3 m3 K s)
def qBD (X:Td)(l1 x8:AV) (K:KvP) (s:Hq):Prop:=
 oK (qAS 2 l1 x8) λv_61=>oK (qAE 0 v_61) λv_62=>oK (rd1 s v_62) λv_63=>K (.tup [v_63,(.bool true)]) s
def qD0 (X:Td)(alg0 l1 bd2 x8 i9:AV) (I3:IvP) (m3:Nat) (K:KvP) (s:Hq):Prop:=
 oK (qAQ l1) λv_6=>oK (qAC .lss i9 (.int .i64 v_6)) λv_8=>qAM v_8
 (oK (qAS 2 l1 i9) λv_9=>oK (qAE 0 v_9) λv_10=>oK (rd1 s v_10) λv_11=>oK (qAC .sub i9 (.int .i64 1)) λv_12=>oK (qAS 2 l1 v_12) λv_13=>oK (qAE 0 v_13) λv_14=>oK (rd1 s v_14) λv_15=>oK (qAC .leq v_11 v_15) λv_16=>qAM v_16
 (K (.tup [(.int .u32 0),(.bool false)]) s)
 (oK (negB false (eqV 0 true alg0 (.int .i64 1))) λv_17=>qAM v_17
 (oK (qAS 2 l1 i9) λv_18=>oK (qAE 0 v_18) λv_19=>oK (rd1 s v_19) λv_20=>wC Tryz.prog X 93 [v_20,bd2] (λv_21 S22=>(∀ b,s b≠none→s b=none→S22 b=none)→
 oK (qAS 2 l1 x8) λv_23=>oK (qAE 0 v_23) λv_24=>oK (rd1 (cutH [(s,(add s S22))] (add s S22)) v_24) λv_25=>wC Tryz.prog X 93 [v_25,bd2] (λv_26 S27=>oK (qAC .gtr v_21 v_26) λv_28=>oK (qAV v_17 v_28 (.bool false)) λv_29=>qAM v_29
 (oK (qAV v_29 (.bool true) .undef) λv_30=>qAM v_30
 (qCj X i9 i9 I3 m3 K S27)
 (qCj X x8 i9 I3 m3 K S27))
 (oK (negB false (eqV 0 true alg0 (.int .i64 2))) λv_32=>qAM v_32
 (oK (qAS 2 l1 i9) λv_33=>oK (qAE 1 v_33) λv_34=>oK (rd1 S27 v_34) λv_35=>oK (qAS 2 l1 x8) λv_36=>oK (qAE 1 v_36) λv_37=>oK (rd1 S27 v_37) λv_38=>oK (qAC .gtr v_35 v_38) λv_39=>oK (qAV v_32 v_39 (.bool false)) λv_40=>oK (qAV v_29 (.bool true) v_40) λv_41=>qAM v_41
 (qD5 X i9 i9 I3 m3 K S27)
 (qD5 X x8 i9 I3 m3 K S27))
 (oK (qAV v_32 .undef (.bool false)) λv_43=>oK (qAV v_29 (.bool true) v_43) λv_44=>qAM v_44
 (qCm X i9 i9 I3 m3 K S27)
 (qCm X x8 i9 I3 m3 K S27)))) (add s S22)) (frz s))
 (oK (qAV v_17 .undef (.bool false)) λv_46=>qAM v_46
 (oK (qAV v_46 (.bool true) .undef) λv_47=>qAM v_47
 (qDy X i9 i9 I3 m3 K s)
 (qDy X x8 i9 I3 m3 K s))
 (oK (negB false (eqV 0 true alg0 (.int .i64 2))) λv_49=>qAM v_49
 (oK (qAS 2 l1 i9) λv_53=>oK (qAE 1 v_53) λv_54=>oK (rd1 s v_54) λv_55=>oK (qAS 2 l1 x8) λv_56=>oK (qAE 1 v_56) λv_57=>oK (rd1 s v_57) λv_58=>oK (qAC .gtr v_55 v_58) λv_59=>qBv X x8 i9 v_46 v_49 v_59 I3 m3 K s)
 (qBv X x8 i9 v_46 v_49 .undef I3 m3 K s)))))
 (oK (negB false (eqV 0 true alg0 (.int .i64 0))) λv_60=>qAM v_60
 (oK (qAQ l1) λv_64=>oK (qAC .rem bd2 (.int .i64 v_64)) λv_66=>qBD X l1 v_66 K s)
 (qBD X l1 x8 K s))
def qBP (X:Td)(alg0 l1 bd2 t21 t23:AV) (K:KvP) (s:Hq):Prop:=
 oK (qAV t21 (.bool true) t23) λv_5=>qAM v_5
 (K (.tup [(.int .u32 0),(.bool false)]) s)
 (∃ I3:IvP,(∃ m,I3 [(.int .i64 0),(.int .i64 1)] s m)∧∀ (f:Env) (s:Hq) (m3:Nat),I3 [f 8,f 9] s m3→
 qD0 X alg0 l1 bd2 (f 8) (f 9) I3 m3 K s)
def qBS (X:Td)(alg0 l1 bd2 t17 t19:AV) (K:KvP) (s:Hq):Prop:=
 oK (qAV t17 (.bool true) t19) λv_4=>qAM v_4
 (qBP X alg0 l1 bd2 v_4 .undef K s)
 (oK (qAC .lss bd2 (.int .i64 0)) λv_67=>qBP X alg0 l1 bd2 v_4 v_67 K s)
def qBT (X:Td)(alg0 l1 bd2 t13 t15:AV) (K:KvP) (s:Hq):Prop:=
 oK (qAV t13 (.bool true) t15) λv_3=>qAM v_3
 (qBS X alg0 l1 bd2 v_3 .undef K s)
 (oK (qAC .gtr alg0 (.int .i64 2)) λv_68=>qBS X alg0 l1 bd2 v_3 v_68 K s)
def qCM (X:Td)(alg0 l1 bd2:AV) (K:KvP) (s:Hq):Prop:=
 oK (qAQ l1) λv_0=>oK (negB false (eqV 0 true (.int .i64 v_0) (.int .i64 0))) λv_2=>qAM v_2
 (qBT X alg0 l1 bd2 v_2 .undef K s)
 (oK (qAC .lss alg0 (.int .i64 0)) λv_69=>qBT X alg0 l1 bd2 v_2 v_69 K s)
def qGz:Nat→List Nat:=λk=>cond (Nat.beq k 10) [8,9] ([])
theorem qHY {alg0 l1 bd2:AV} {K:KvP} {s:Hq} (h:qCM XX alg0 l1 bd2 K s):wC Tryz.prog XX 62 [alg0,l1,bd2] K s:=wOK qA3 qGz rfl Tryz.func62 (by kernel_rfl) (by kernel_rfl) (by kernel_rfl) h
def qDL (X:Td)(t0 v1:AV) (K:KvP) (s:Hq):Prop:=
 boxK 56 v1 (λB0 S1=>oK (rdN S1 12 B0) λv_2=>wC Tryz.prog X 94 [t0,(.agg v_2)] (λv_3 S4=>oK (qAC .geq v_3 (.int .i64 0)) λv_5=>K v_5 S4) S1) s
theorem qCt {t0 v1:AV} {K:KvP} {s:Hq} (h:qDL XX t0 v1 K s):wC Tryz.prog XX 63 [t0,v1] K s:=wOK qA3 nA0 rfl Tryz.func63 (by kernel_rfl) (by kernel_rfl) (by kernel_rfl) h
def qFs (X:Td)(kind1 decode2 t11 t12 t13:AV) (I0:IvP) (m0:Nat) (K:KvP) (s:Hq):Prop:=
 oK (qAC .lss t13 t12) λv_2=>qAM v_2
 (oK (qAS 8 t11 t13) λv_3=>oK (rdN s 8 v_3) λv_4=>newK 104 [(.int .u8 0),(.int .u8 0),(.int .u8 0),(.int .u8 0),(.int .u8 0),(.int .u8 0),(.int .u8 0),(.int .u8 0)] (λB5 S6=>oK (qAv S6 8 (.ptr B5 0) (.agg v_4)) λS7=>oK (rdN S7 8 (.ptr B5 0)) λv_8=>wC Tryz.prog X 115 [(.agg v_8)] (λv_9 S10=>oK (negB false (eqV 0 false v_9 kind1)) λv_11=>qAM v_11
 (oK (rdN S10 8 (.ptr B5 0)) λv_12=>funK Tryz.prog X decode2 [(.agg v_12)] (λv_13 S14=>K (.tup [v_13,(.bool true)]) S14) S10)
 (oK (qAC .add t13 (.int .i64 1)) λv_15=>∃ m',m' < m0∧I0 [v_15] S10 m')) S7) s)
 (K (.tup [(.int .i64 0),(.bool false)]) s)
def qHQ (X:Td)(l0 kind1 decode2:AV) (K:KvP) (s:Hq):Prop:=
 oK (qAQ l0) λv_0=>∃ I0:IvP,(∃ m,I0 [(.int .i64 0)] s m)∧∀ (f:Env) (s:Hq) (m0:Nat),I0 [f 13] s m0→
 qFs X kind1 decode2 l0 (.int .i64 v_0) (f 13) I0 m0 K s
def qJC:Nat→List Nat:=λk=>cond (Nat.beq k 4) [13] ([])
theorem qJo {l0 kind1 decode2:AV} {K:KvP} {s:Hq} (h:qHQ XX l0 kind1 decode2 K s):wC Tryz.prog XX 71 [l0,kind1,decode2] K s:=wOK qA3 qJC rfl Tryz.func71 (by kernel_rfl) (by kernel_rfl) (by kernel_rfl) h
def qKY (X:Td)(c0 t1:AV) (K:KvP) (s:Hq):Prop:=
 boxK 104 c0 (λB0 S1=>oK (rdN S1 8 B0) λv_2=>wC Tryz.prog X 73 [(.agg v_2),(.int .i64 6),(.int .i64 2)] (λv_3 S4=>oK (qBx .i64 v_3) λv_5=>oK (wr1 S4 t1 v_5) λS6=>oK (qC2 8 1 B0 (.int .i64 2)) λv_7=>oK (rd1 S6 v_7) λv_8=>oK (qAC .and v_8 (.int .u8 31)) λv_9=>oK (qBx .i64 v_9) λv_10=>K v_10 S6) S1) s
theorem qIw {c0 t1:AV} {K:KvP} {s:Hq} (h:qKY XX c0 t1 K s):wC Tryz.prog XX 72 [c0,t1] K s:=wOK qA3 nA0 rfl Tryz.func72 (by kernel_rfl) (by kernel_rfl) (by kernel_rfl) h
def qH2 (X:Td)(n7 t14 t15 t16:AV) (I0:IvP) (m0:Nat) (K:KvP) (s:Hq):Prop:=
 oK (qAC .lss t16 t15) λv_6=>qAM v_6
 (oK (qAS 1 t14 t16) λv_7=>oK (rd1 s v_7) λv_8=>oK (qBb .shl n7 (.int .u64 8)) λv_9=>oK (qBx .u64 v_8) λv_10=>oK (qAC .or v_9 v_10) λv_11=>oK (qAC .add t16 (.int .i64 1)) λv_12=>∃ m',m' < m0∧I0 [v_11,v_12] s m')
 (K n7 s)
def qPT (X:Td)(c0 t1 size2:AV) (K:KvP) (s:Hq):Prop:=
 boxK 104 c0 (λB0 S1=>oK (qAC .add t1 size2) λv_2=>oK (qLG S1 8 1 B0 (some t1) (some v_2) none) λv_3=>oK (qAQ v_3) λv_4=>∃ I0:IvP,(∃ m,I0 [(.int .u64 0),(.int .i64 0)] S1 m)∧∀ (f:Env) (s:Hq) (m0:Nat),I0 [f 7,f 16] s m0→
 qH2 X (f 7) v_3 (.int .i64 v_4) (f 16) I0 m0 K s) s
def qLO:Nat→List Nat:=λk=>cond (Nat.beq k 6) [7,16] ([])
theorem qL3 {c0 t1 size2:AV} {K:KvP} {s:Hq} (h:qPT XX c0 t1 size2 K s):wC Tryz.prog XX 73 [c0,t1,size2] K s:=wOK qA3 qLO rfl Tryz.func73 (by kernel_rfl) (by kernel_rfl) (by kernel_rfl) h
def qA5 (X:Td)(x6:AV) (I1:IvP) (m1:Nat) (K:KvP) (s:Hq):Prop:=
 oK (qAC .mul x6 (.int .i64 2)) λv_16=>∃ m',m' < m1∧I1 [v_16] s m'
def qCQ (X:Td)(data0 n1 cmp2 x6 a7 b8:AV) (I2:IvP) (m2:Nat) (I1:IvP) (m1:Nat) (K:KvP) (s:Hq):Prop:=
 oK (qAC .leq b8 n1) λv_8=>qAM v_8
 (oK (qAC .add a7 x6) λv_9=>wC Tryz.prog X 117 [data0,a7,v_9,b8,cmp2] (λv_10 S11=>oK (qAC .mul (.int .i64 2) x6) λv_12=>oK (qAC .add b8 v_12) λv_13=>∃ m',m' < m2∧I2 [b8,v_13] S11 m') s)
 (oK (qAC .add a7 x6) λv_14=>oK (qAC .lss v_14 n1) λv_15=>qAM v_15
 (wC Tryz.prog X 117 [data0,a7,v_14,n1,cmp2] (λv_17 S18=>qA5 X x6 I1 m1 K S18) s)
 (qA5 X x6 I1 m1 K s))
def qBZ (X:Td)(data0 n1 cmp2 x6:AV) (I1:IvP) (m1:Nat) (K:KvP) (s:Hq):Prop:=
 oK (qAC .lss x6 n1) λv_6=>qAM v_6
 (oK (qAC .mul (.int .i64 2) x6) λv_7=>∃ I2:IvP,(∃ m,I2 [(.int .i64 0),v_7] s m)∧∀ (f:Env) (s:Hq) (m2:Nat),I2 [f 7,f 8] s m2→
 qCQ X data0 n1 cmp2 x6 (f 7) (f 8) I2 m2 I1 m1 K s)
 (K (.tup []) s)
def qBa (X:Td)(data0 n1 cmp2 x6 a7 b8:AV) (I0:IvP) (m0:Nat) (K:KvP) (s:Hq):Prop:=
 oK (qAC .leq b8 n1) λv_0=>qAM v_0
 (wC Tryz.prog X 116 [data0,a7,b8,cmp2] (λv_1 S2=>oK (qAC .add b8 x6) λv_3=>∃ m',m' < m0∧I0 [b8,v_3] S2 m') s)
 (wC Tryz.prog X 116 [data0,a7,n1,cmp2] (λv_4 S5=>∃ I1:IvP,(∃ m,I1 [x6] S5 m)∧∀ (f:Env) (s:Hq) (m1:Nat),I1 [f 6] s m1→
 qBZ X data0 n1 cmp2 (f 6) I1 m1 K s) s)
def qE7 (X:Td)(data0 n1 cmp2:AV) (K:KvP) (s:Hq):Prop:=
 ∃ I0:IvP,(∃ m,I0 [(.int .i64 0),(.int .i64 20)] s m)∧∀ (f:Env) (s:Hq) (m0:Nat),I0 [f 7,f 8] s m0→
 qBa X data0 n1 cmp2 (.int .i64 20) (f 7) (f 8) I0 m0 K s
def qEQ:Nat→List Nat:=λk=>cond (Nat.beq k 4) [7,8] (cond (Nat.beq k 14) [6] (cond (Nat.beq k 18) [7,8] ([])))
theorem qCO {data0 n1 cmp2:AV} {K:KvP} {s:Hq} (h:qE7 XX data0 n1 cmp2 K s):wC Tryz.prog XX 74 [data0,n1,cmp2] K s:=wOK qA3 qEQ rfl Tryz.func74 (by kernel_rfl) (by kernel_rfl) (by kernel_rfl) h
def qDx (X:Td)(x0:AV) (K:KvP) (s:Hq):Prop:=
 oK (negB true (eqV 0 false x0 x0)) λv_0=>K v_0 s
theorem qEv {x0:AV} {K:KvP} {s:Hq} (h:qDx XX x0 K s):wC Tryz.prog XX 75 [x0] K s:=wOK qA3 nA0 rfl Tryz.func75 (by kernel_rfl) (by kernel_rfl) (by kernel_rfl) h
def qOA (X:Td)(l0 bd1:AV) (K:KvP) (s:Hq):Prop:=
 newK 36 [(.int .u32 0),(.int .i64 0)] (λB0 S1=>oK (qAQ l0) λv_2=>oK (qAC .rem bd1 (.int .i64 v_2)) λv_4=>oK (qAS 2 l0 v_4) λv_5=>oK (rdN S1 2 v_5) λv_6=>oK (qAv S1 2 (.ptr B0 0) (.agg v_6)) λS7=>oK (rdN S7 2 (.ptr B0 0)) λt4_8=>K (.agg t4_8) S7) s
theorem qLi {l0 bd1:AV} {K:KvP} {s:Hq} (h:qOA XX l0 bd1 K s):wC Tryz.prog XX 76 [l0,bd1] K s:=wOK qA3 nA0 rfl Tryz.func76 (by kernel_rfl) (by kernel_rfl) (by kernel_rfl) h
def qOv (X:Td)(l0 bd1:AV) (K:KvP) (s:Hq):Prop:=
 boxK 3 bd1 (λB0 S1=>newK 36 [(.int .u32 0),(.int .i64 0)] (λB2 S3=>wC Tryz.prog X 78 [l0,(.fn (.func 79) [] [B0])] (λv_4 S5=>oK (qAv S5 2 (.ptr B2 0) v_4) λS6=>oK (rdN S6 2 (.ptr B2 0)) λt4_7=>K (.agg t4_7) S6) S3) S1) s
theorem qLw {l0 bd1:AV} {K:KvP} {s:Hq} (h:qOv XX l0 bd1 K s):wC Tryz.prog XX 77 [l0,bd1] K s:=wOK qA3 nA0 rfl Tryz.func77 (by kernel_rfl) (by kernel_rfl) (by kernel_rfl) h
def qBQ (X:Td)(x6 t21:AV) (I0:IvP) (m0:Nat) (K:KvP) (s:Hq):Prop:=
 oK (qAC .add t21 (.int .i64 1)) λv_24=>∃ m',m' < m0∧I0 [x6,v_24] s m'
def qCC (X:Td)(key1 t4 best5 x6 t19 t20 t21:AV) (I0:IvP) (m0:Nat) (K:KvP) (s:Hq):Prop:=
 oK (qAC .lss t21 t20) λv_14=>qAM v_14
 (oK (qAS 2 t19 t21) λv_15=>oK (rdN s 2 v_15) λv_16=>newK 36 [(.int .u32 0),(.int .i64 0)] (λB17 S18=>oK (qAv S18 2 (.ptr B17 0) (.agg v_16)) λS19=>oK (rdN S19 2 (.ptr B17 0)) λv_20=>funK Tryz.prog X key1 [(.agg v_20)] (λv_21 S22=>oK (qAC .gtr v_21 x6) λv_23=>qAM v_23
 (oK (rdN S22 2 (.ptr B17 0)) λv_25=>oK (qAv S22 2 best5 (.agg v_25)) λS26=>qBQ X v_21 t21 I0 m0 K S26)
 (qBQ X x6 t21 I0 m0 K S22)) S19) s)
 (oK (rdN s 2 best5) λv_27=>oK (qAv s 2 t4 (.agg v_27)) λS28=>oK (rdN S28 2 t4) λt4_29=>K (.agg t4_29) S28)
def qEr (X:Td)(l0 key1:AV) (K:KvP) (s:Hq):Prop:=
 newK 36 [(.int .u32 0),(.int .i64 0)] (λB0 S1=>oK (qAS 2 l0 (.int .i64 0)) λv_2=>oK (rdN S1 2 v_2) λv_3=>oK (qAS 2 l0 (.int .i64 0)) λv_4=>oK (rdN S1 2 v_4) λv_5=>funK Tryz.prog X key1 [(.agg v_5)] (λv_6 S7=>(∀ b,S1 b≠none→S1 b=none→S7 b=none)→
 newK 36 [(.int .u32 0),(.int .i64 0)] (λB8 S9=>(∀ b,(add S1 S7) b≠none→(cutH [(S1,(add S1 S7))] (add S1 S7)) b=none→S9 b=none)→
 oK (qAv (add (add S1 S7) S9) 2 (.ptr B8 0) (.agg v_3)) λS10=>oK (qCA 2 l0 (some (.int .i64 1)) none none) λv_11=>oK (qAQ v_11) λv_12=>∃ I0:IvP,(∃ m,I0 [v_6,(.int .i64 0)] S10 m)∧∀ (f:Env) (s:Hq) (m0:Nat),I0 [f 6,f 21] s m0→
 qCC X key1 (.ptr B0 0) (.ptr B8 0) (f 6) v_11 (.int .i64 v_12) (f 21) I0 m0 K s) (frz (cutH [(S1,(add S1 S7))] (add S1 S7)))) (frz S1)) s
def qDv:Nat→List Nat:=λk=>cond (Nat.beq k 6) [6,21] ([])
theorem qD2 {l0 key1:AV} {K:KvP} {s:Hq} (h:qEr XX l0 key1 K s):wC Tryz.prog XX 78 [l0,key1] K s:=wOK qA3 qDv rfl Tryz.func78 (by kernel_rfl) (by kernel_rfl) (by kernel_rfl) h
def qMB (X:Td)(c0 t1:AV) (K:KvP) (s:Hq):Prop:=
 boxK 36 c0 (λB0 S1=>oK (qAE 0 B0) λv_2=>oK (rd1 S1 v_2) λv_3=>oK (rd1 S1 t1) λv_4=>wC Tryz.prog X 80 [v_3,v_4] (λv_5 S6=>K v_5 S6) S1) s
theorem qKT {c0 t1:AV} {K:KvP} {s:Hq} (h:qMB XX c0 t1 K s):wC Tryz.prog XX 79 [c0,t1] K s:=wOK qA3 nA0 rfl Tryz.func79 (by kernel_rfl) (by kernel_rfl) (by kernel_rfl) h
def qSt (X:Td)(ip0 bd1:AV) (K:KvP) (s:Hq):Prop:=
 oK (qBx .u32 bd1) λv_0=>oK (qBb .shr ip0 (.int .u64 24)) λv_1=>oK (qBx .u8 v_1) λv_2=>oK (qBb .shr ip0 (.int .u64 16)) λv_3=>oK (qBx .u8 v_3) λv_4=>oK (qBb .shr ip0 (.int .u64 8)) λv_5=>oK (qBx .u8 v_5) λv_6=>oK (qBx .u8 ip0) λv_7=>oK (qBb .shr v_0 (.int .u64 24)) λv_8=>oK (qBx .u8 v_8) λv_9=>oK (qBb .shr v_0 (.int .u64 16)) λv_10=>oK (qBx .u8 v_10) λv_11=>oK (qBb .shr v_0 (.int .u64 8)) λv_12=>oK (qBx .u8 v_12) λv_13=>oK (qBx .u8 v_0) λv_14=>oK (qBi [(.int .u8 0),(.int .u8 0),(.int .u8 0),(.int .u8 0),(.int .u8 0),(.int .u8 0),(.int .u8 0),(.int .u8 0)] [(0,1,v_2),(1,1,v_4),(2,1,v_6),(3,1,v_7),(4,1,v_9),(5,1,v_11),(6,1,v_13),(7,1,v_14)]) λC15=>wC Tryz.prog X 118 [(.agg C15)] (λv_16 S17=>K v_16 S17) s
theorem qS7 {ip0 bd1:AV} {K:KvP} {s:Hq} (h:qSt XX ip0 bd1 K s):wC Tryz.prog XX 80 [ip0,bd1] K s:=wOK qA3 nA0 rfl Tryz.func80 (by kernel_rfl) (by kernel_rfl) (by kernel_rfl) h
def qOn (X:Td)(l0 t1:AV) (K:KvP) (s:Hq):Prop:=
 newK 36 [(.int .u32 0),(.int .i64 0)] (λB0 S1=>wC Tryz.prog X 82 [l0,(.fn (.func 83) [] [])] (λv_2 S3=>oK (qAv S3 2 (.ptr B0 0) v_2) λS4=>oK (rdN S4 2 (.ptr B0 0)) λt4_5=>K (.agg t4_5) S4) S1) s
theorem qLp {l0 t1:AV} {K:KvP} {s:Hq} (h:qOn XX l0 t1 K s):wC Tryz.prog XX 81 [l0,t1] K s:=wOK qA3 nA0 rfl Tryz.func81 (by kernel_rfl) (by kernel_rfl) (by kernel_rfl) h
def qBe (X:Td)(x6 t21:AV) (I0:IvP) (m0:Nat) (K:KvP) (s:Hq):Prop:=
 oK (qAC .add t21 (.int .i64 1)) λv_24=>∃ m',m' < m0∧I0 [x6,v_24] s m'
def qCf (X:Td)(key1 t4 best5 x6 t19 t20 t21:AV) (I0:IvP) (m0:Nat) (K:KvP) (s:Hq):Prop:=
 oK (qAC .lss t21 t20) λv_14=>qAM v_14
 (oK (qAS 2 t19 t21) λv_15=>oK (rdN s 2 v_15) λv_16=>newK 36 [(.int .u32 0),(.int .i64 0)] (λB17 S18=>oK (qAv S18 2 (.ptr B17 0) (.agg v_16)) λS19=>oK (rdN S19 2 (.ptr B17 0)) λv_20=>funK Tryz.prog X key1 [(.agg v_20)] (λv_21 S22=>oK (qAC .gtr v_21 x6) λv_23=>qAM v_23
 (oK (rdN S22 2 (.ptr B17 0)) λv_25=>oK (qAv S22 2 best5 (.agg v_25)) λS26=>qBe X v_21 t21 I0 m0 K S26)
 (qBe X x6 t21 I0 m0 K S22)) S19) s)
 (oK (rdN s 2 best5) λv_27=>oK (qAv s 2 t4 (.agg v_27)) λS28=>oK (rdN S28 2 t4) λt4_29=>K (.agg t4_29) S28)
def qFr (X:Td)(l0 key1:AV) (K:KvP) (s:Hq):Prop:=
 newK 36 [(.int .u32 0),(.int .i64 0)] (λB0 S1=>oK (qAS 2 l0 (.int .i64 0)) λv_2=>oK (rdN S1 2 v_2) λv_3=>oK (qAS 2 l0 (.int .i64 0)) λv_4=>oK (rdN S1 2 v_4) λv_5=>funK Tryz.prog X key1 [(.agg v_5)] (λv_6 S7=>(∀ b,S1 b≠none→S1 b=none→S7 b=none)→
 newK 36 [(.int .u32 0),(.int .i64 0)] (λB8 S9=>(∀ b,(add S1 S7) b≠none→(cutH [(S1,(add S1 S7))] (add S1 S7)) b=none→S9 b=none)→
 oK (qAv (add (add S1 S7) S9) 2 (.ptr B8 0) (.agg v_3)) λS10=>oK (qCA 2 l0 (some (.int .i64 1)) none none) λv_11=>oK (qAQ v_11) λv_12=>∃ I0:IvP,(∃ m,I0 [v_6,(.int .i64 0)] S10 m)∧∀ (f:Env) (s:Hq) (m0:Nat),I0 [f 6,f 21] s m0→
 qCf X key1 (.ptr B0 0) (.ptr B8 0) (f 6) v_11 (.int .i64 v_12) (f 21) I0 m0 K s) (frz (cutH [(S1,(add S1 S7))] (add S1 S7)))) (frz S1)) s
def qEc:Nat→List Nat:=λk=>cond (Nat.beq k 6) [6,21] ([])
theorem qEf {l0 key1:AV} {K:KvP} {s:Hq} (h:qFr XX l0 key1 K s):wC Tryz.prog XX 82 [l0,key1] K s:=wOK qA3 qEc rfl Tryz.func82 (by kernel_rfl) (by kernel_rfl) (by kernel_rfl) h
end Go.AM
namespace Go.AM
open Go Go.Proofs
set_option maxRecDepth 100000
def qMF (X:Td)(c0:AV) (K:KvP) (s:Hq):Prop:=
 boxK 36 c0 (λB0 S1=>oK (qAE 1 B0) λv_2=>oK (rd1 S1 v_2) λv_3=>K v_3 S1) s
theorem qKW {c0:AV} {K:KvP} {s:Hq} (h:qMF XX c0 K s):wC Tryz.prog XX 83 [c0] K s:=wOK qA3 nA0 rfl Tryz.func83 (by kernel_rfl) (by kernel_rfl) (by kernel_rfl) h
def qCX (X:Td)(t33 t37:AV) (K:KvP) (s:Hq):Prop:=
 oK (qAV t33 (.bool true) t37) λv_11=>qAM v_11
 (K (.int .i64 2) s)
 (K (.int .i64 0) s)
def qCY (X:Td)(t1 t27 t31:AV) (K:KvP) (s:Hq):Prop:=
 oK (qAV t27 (.bool true) t31) λv_10=>qAM v_10
 (qCX X v_10 .undef K s)
 (oK (qAE 10 t1) λv_12=>oK (rd1 s v_12) λv_13=>wC Tryz.prog X 89 [v_13,(.int .i64 0),(.int .i64 1)] (λv_14 S15=>oK (qAq .not v_14) λv_16=>qCX X v_10 v_16 K S15) s)
def qC5 (X:Td)(t1 t21 t25:AV) (K:KvP) (s:Hq):Prop:=
 oK (qAV t21 (.bool true) t25) λv_9=>qAM v_9
 (qCY X t1 v_9 .undef K s)
 (oK (qAE 9 t1) λv_17=>oK (rd1 s v_17) λv_18=>wC Tryz.prog X 89 [v_18,(.int .i64 0),(.int .i64 1)] (λv_19 S20=>oK (qAq .not v_19) λv_21=>qCY X t1 v_9 v_21 K S20) s)
def qDj (X:Td)(t1 t13 t19:AV) (K:KvP) (s:Hq):Prop:=
 oK (qAV t13 (.bool true) t19) λv_8=>qAM v_8
 (qC5 X t1 v_8 .undef K s)
 (oK (qAE 8 t1) λv_22=>oK (rd1 s v_22) λv_23=>wC Tryz.prog X 89 [v_23,(.int .i64 0),(.int .i64 2)] (λv_24 S25=>oK (qAq .not v_24) λv_26=>qC5 X t1 v_8 v_26 K S25) s)
def qEk (X:Td)(t1 t7 t11:AV) (K:KvP) (s:Hq):Prop:=
 oK (qAV t7 (.bool true) t11) λv_7=>qAM v_7
 (qDj X t1 v_7 .undef K s)
 (oK (qAE 0 t1) λv_27=>oK (rd1 s v_27) λv_28=>oK (qAE 1 t1) λv_29=>oK (rd1 s v_29) λv_30=>oK (qAC .add v_28 v_30) λv_31=>oK (qAC .gtr v_31 (.int .i64 32)) λv_32=>qDj X t1 v_7 v_32 K s)
def qWN (X:Td)(t0:AV) (K:KvP) (s:Hq):Prop:=
 boxK 68 t0 (λB0 S1=>oK (qAE 0 B0) λv_2=>oK (rd1 S1 v_2) λv_3=>wC Tryz.prog X 89 [v_3,(.int .i64 1),(.int .i64 32)] (λv_4 S5=>oK (qAq .not v_4) λv_6=>qAM v_6
 (qEk X B0 v_6 .undef K S5)
 (oK (qAE 1 B0) λv_33=>oK (rd1 S5 v_33) λv_34=>wC Tryz.prog X 89 [v_34,(.int .i64 0),(.int .i64 32)] (λv_35 S36=>oK (qAq .not v_35) λv_37=>qEk X B0 v_6 v_37 K S36) S5)) S1) s
theorem qQ1 {t0:AV} {K:KvP} {s:Hq} (h:qWN XX t0 K s):wC Tryz.prog XX 85 [t0] K s:=wOK qA3 nA0 rfl Tryz.func85 (by kernel_rfl) (by kernel_rfl) (by kernel_rfl) h
def qCy (X:Td)(t31 t35:AV) (K:KvP) (s:Hq):Prop:=
 oK (qAV t31 (.bool true) t35) λv_11=>qAM v_11
 (K (.int .i64 2) s)
 (K (.int .i64 0) s)
def qC1 (X:Td)(t1 t25 t29:AV) (K:KvP) (s:Hq):Prop:=
 oK (qAV t25 (.bool true) t29) λv_10=>qAM v_10
 (qCy X v_10 .undef K s)
 (oK (qAE 5 t1) λv_12=>oK (rd1 s v_12) λv_13=>wC Tryz.prog X 89 [v_13,(.int .i64 1),(.int .i64 10000)] (λv_14 S15=>oK (qAq .not v_14) λv_16=>qCy X v_10 v_16 K S15) s)
def qDZ (X:Td)(t1 t19 t23:AV) (K:KvP) (s:Hq):Prop:=
 oK (qAV t19 (.bool true) t23) λv_9=>qAM v_9
 (qC1 X t1 v_9 .undef K s)
 (oK (qAE 4 t1) λv_17=>oK (rd1 s v_17) λv_18=>wC Tryz.prog X 89 [v_18,(.int .i64 1),(.int .i64 100)] (λv_19 S20=>oK (qAq .not v_19) λv_21=>qC1 X t1 v_9 v_21 K S20) s)
def qEa (X:Td)(t1 t13 t17:AV) (K:KvP) (s:Hq):Prop:=
 oK (qAV t13 (.bool true) t17) λv_8=>qAM v_8
 (qDZ X t1 v_8 .undef K s)
 (oK (qAE 3 t1) λv_22=>oK (rd1 s v_22) λv_23=>wC Tryz.prog X 89 [v_23,(.int .i64 0),(.int .i64 1000)] (λv_24 S25=>oK (qAq .not v_24) λv_26=>qDZ X t1 v_8 v_26 K S25) s)
def qFj (X:Td)(t1 t7 t11:AV) (K:KvP) (s:Hq):Prop:=
 oK (qAV t7 (.bool true) t11) λv_7=>qAM v_7
 (qEa X t1 v_7 .undef K s)
 (oK (qAE 2 t1) λv_27=>oK (rd1 s v_27) λv_28=>wC Tryz.prog X 89 [v_28,(.int .i64 1),(.int .i64 10000)] (λv_29 S30=>oK (qAq .not v_29) λv_31=>qEa X t1 v_7 v_31 K S30) s)
def qX0 (X:Td)(t0:AV) (K:KvP) (s:Hq):Prop:=
 boxK 66 t0 (λB0 S1=>oK (qAE 0 B0) λv_2=>oK (rd1 S1 v_2) λv_3=>wC Tryz.prog X 89 [v_3,(.int .i64 1),(.int .i64 100)] (λv_4 S5=>oK (qAq .not v_4) λv_6=>qAM v_6
 (qFj X B0 v_6 .undef K S5)
 (oK (qAE 1 B0) λv_32=>oK (rd1 S5 v_32) λv_33=>wC Tryz.prog X 89 [v_33,(.int .i64 3),(.int .i64 1000)] (λv_34 S35=>oK (qAq .not v_34) λv_36=>qFj X B0 v_6 v_36 K S35) S5)) S1) s
theorem qSn {t0:AV} {K:KvP} {s:Hq} (h:qX0 XX t0 K s):wC Tryz.prog XX 86 [t0] K s:=wOK qA3 nA0 rfl Tryz.func86 (by kernel_rfl) (by kernel_rfl) (by kernel_rfl) h
def qV9 (X:Td)(t0 part1 i2:AV) (K:KvP) (s:Hq):Prop:=
 boxK 68 t0 (λB0 S1=>oK (negB false (eqV 0 true part1 (.int .i64 0))) λv_2=>qAM v_2
 (oK (rdN S1 19 B0) λv_3=>wC Tryz.prog X 119 [(.agg v_3),i2] (λv_4 S5=>K v_4 S5) S1)
 (oK (negB false (eqV 0 true part1 (.int .i64 1))) λv_6=>qAM v_6
 (oK (rdN S1 19 B0) λv_7=>wC Tryz.prog X 120 [(.agg v_7),i2] (λv_8 S9=>K v_8 S9) S1)
 (oK (negB false (eqV 0 true part1 (.int .i64 2))) λv_10=>qAM v_10
 (oK (rdN S1 19 B0) λv_11=>wC Tryz.prog X 121 [(.agg v_11),i2] (λv_12 S13=>K v_12 S13) S1)
 (oK (negB false (eqV 0 true part1 (.int .i64 3))) λv_14=>qAM v_14
 (oK (rdN S1 19 B0) λv_15=>wC Tryz.prog X 122 [(.agg v_15),i2] (λv_16 S17=>K v_16 S17) S1)
 (oK (negB false (eqV 0 true part1 (.int .i64 4))) λv_18=>qAM v_18
 (oK (rdN S1 19 B0) λv_19=>wC Tryz.prog X 123 [(.agg v_19),i2] (λv_20 S21=>K v_20 S21) S1)
 (oK (rdN S1 19 B0) λv_22=>wC Tryz.prog X 124 [(.agg v_22),i2] (λv_23 S24=>K v_23 S24) S1)))))) s
theorem qQH {t0 part1 i2:AV} {K:KvP} {s:Hq} (h:qV9 XX t0 part1 i2 K s):wC Tryz.prog XX 87 [t0,part1,i2] K s:=wOK qA3 nA0 rfl Tryz.func87 (by kernel_rfl) (by kernel_rfl) (by kernel_rfl) h
def zABW (X:Td)(t0:AV) (K:KvP) (s:Hq):Prop:=
 boxK 68 t0 (λB0 S1=>oK (rdN S1 19 B0) λv_2=>wC Tryz.prog X 58 [(.agg v_2)] (λv_3 S4=>oK (qAd v_3 0) λv_5=>oK (qAd v_3 1) λv_6=>oK (qAd v_3 2) λv_7=>oK (negB false (eqV 0 true v_5 (.int .i64 0))) λv_8=>K v_8 S4) S1) s
theorem qUn {t0:AV} {K:KvP} {s:Hq} (h:zABW XX t0 K s):wC Tryz.prog XX 88 [t0] K s:=wOK qA3 nA0 rfl Tryz.func88 (by kernel_rfl) (by kernel_rfl) (by kernel_rfl) h
def qG9 (X:Td)(t10 t13:AV) (K:KvP) (s:Hq):Prop:=
 oK (qAV t10 t13 (.bool false)) λv_1=>K v_1 s
def qS3 (X:Td)(n0 least1 most2:AV) (K:KvP) (s:Hq):Prop:=
 oK (qAC .geq n0 least1) λv_0=>qAM v_0
 (oK (qAC .leq n0 most2) λv_2=>qG9 X v_0 v_2 K s)
 (qG9 X v_0 .undef K s)
theorem qSj {n0 least1 most2:AV} {K:KvP} {s:Hq} (h:qS3 XX n0 least1 most2 K s):wC Tryz.prog XX 89 [n0,least1,most2] K s:=wOK qA3 nA0 rfl Tryz.func89 (by kernel_rfl) (by kernel_rfl) (by kernel_rfl) h
def qBy (X:Td)(t0 t2 t6 t8:AV) (K:KvP) (s:Hq):Prop:=
 oK (qAV t6 (.bool true) t8) λv_3=>qAM v_3
 (oK (qBi [(.int .u8 0),(.int .u8 0),(.int .u8 0),(.int .u8 0),(.int .u8 0),(.int .u8 0),(.int .u8 0),(.int .u8 0),(.int .u8 0),(.int .u8 0)] []) λC4=>oK (qAv s 10 t2 (.agg C4)) λS5=>oK (rdN S5 10 t2) λt2_6=>K (.tup [(.agg t2_6),(.int .i64 2)]) S5)
 (oK (qAC .add t0 (.int .i64 1)) λv_7=>oK (qBx .u8 v_7) λv_8=>oK (qBi [(.int .u8 0),(.int .u8 0),(.int .u8 0),(.int .u8 0),(.int .u8 0),(.int .u8 0),(.int .u8 0),(.int .u8 0),(.int .u8 0),(.int .u8 0)] [(0,1,(.int .u8 3)),(9,1,v_8)]) λC9=>oK (qAv s 10 t2 (.agg C9)) λS10=>oK (rdN S10 10 t2) λt2_11=>K (.tup [(.agg t2_11),(.int .i64 0)]) S10)
def qGb (X:Td)(t0:AV) (K:KvP) (s:Hq):Prop:=
 newK 27 [(.int .u8 0),(.int .u8 0),(.int .u8 0),(.int .u8 0),(.int .u8 0),(.int .u8 0),(.int .u8 0),(.int .u8 0),(.int .u8 0),(.int .u8 0)] (λB0 S1=>oK (qAC .lss t0 (.int .i64 0)) λv_2=>qAM v_2
 (qBy X t0 (.ptr B0 0) v_2 .undef K S1)
 (oK (qAC .geq t0 (.int .i64 64)) λv_12=>qBy X t0 (.ptr B0 0) v_2 v_12 K S1)) s
theorem qFn {t0:AV} {K:KvP} {s:Hq} (h:qGb XX t0 K s):wC Tryz.prog XX 90 [t0] K s:=wOK qA3 nA0 rfl Tryz.func90 (by kernel_rfl) (by kernel_rfl) (by kernel_rfl) h
def qGr (X:Td)(l0:AV) (K:KvP) (s:Hq):Prop:=
 wC Tryz.prog X 125 [l0,(.int .i64 7)] (λv_0 S1=>oK (qAd v_0 0) λv_2=>oK (qAd v_0 1) λv_3=>oK (qBb .shr v_2 (.int .u64 40)) λv_4=>oK (qAC .and v_4 (.int .u64 31)) λv_5=>oK (qBx .i64 v_5) λv_6=>oK (qAC .and v_2 (.int .u64 65535)) λv_7=>oK (qBx .i64 v_7) λv_8=>K (.tup [v_6,v_8,v_3]) S1) s
theorem qFf {l0:AV} {K:KvP} {s:Hq} (h:qGr XX l0 K s):wC Tryz.prog XX 91 [l0] K s:=wOK qA3 nA0 rfl Tryz.func91 (by kernel_rfl) (by kernel_rfl) (by kernel_rfl) h
def qB6 (X:Td)(k5 i6:AV) (I0:IvP) (m0:Nat) (K:KvP) (s:Hq):Prop:=
 oK (qAC .add i6 (.int .i64 1)) λv_17=>∃ m',m' < m0∧I0 [k5,v_17] s m'
def qEj (X:Td)(l0 x3 k5 i6:AV) (I0:IvP) (m0:Nat) (K:KvP) (s:Hq):Prop:=
 oK (qAQ l0) λv_2=>oK (qAC .lss i6 (.int .i64 v_2)) λv_4=>qAM v_4
 (oK (qAS 2 l0 i6) λv_5=>oK (qAE 0 v_5) λv_6=>oK (rd1 s v_6) λv_7=>oK (qAE 0 x3) λv_8=>oK (rd1 s v_8) λv_9=>oK (negB false (eqV 0 false v_7 v_9)) λv_10=>qAM v_10
 (K l0 s)
 (oK (qAS 2 l0 i6) λv_11=>oK (qAE 0 v_11) λv_12=>oK (rd1 s v_12) λv_13=>oK (qAE 0 x3) λv_14=>oK (rd1 s v_14) λv_15=>oK (qAC .lss v_13 v_15) λv_16=>qAM v_16
 (oK (qAC .add i6 (.int .i64 1)) λv_18=>qB6 X v_18 i6 I0 m0 K s)
 (qB6 X k5 i6 I0 m0 K s)))
 (oK (qBi (repl 0 [(.int .u32 0),(.int .i64 0)]) []) λC19=>qAj C19=true∧newK 36 C19 (λB20 S21=>(∀ b,s b≠none→s b=none→S21 b=none)→
 oK (qCA 2 l0 none (some k5) none) λv_22=>appK 36 2 (.slc B20 0 0 (some 0) 2) v_22 (λv_23 S24=>(∀ b,(add s S21) b≠none→(add s S21) b=none→S24 b=none)→
 oK (rdN (cutH [(s,(add s S21)),((add s S21),(add (add s S21) S24))] (add (add s S21) S24)) 2 x3) λv_25=>oK (qBi (repl 1 [(.int .u32 0),(.int .i64 0)]) [(0,2,(.agg v_25))]) λC26=>qAj C26=true∧newK 36 C26 (λB27 S28=>(∀ b,(add (add s S21) S24) b≠none→(cutH [(s,(add s S21)),((add s S21),(add (add s S21) S24))] (add (add s S21) S24)) b=none→S28 b=none)→
 appK 36 2 v_23 (.slc B27 0 1 (some 1) 2) (λv_29 S30=>oK (qCA 2 l0 (some k5) none none) λv_31=>appK 36 2 v_29 v_31 (λv_32 S33=>K v_32 S33) S30) (add (add (add s S21) S24) S28)) (frz (cutH [(s,(add s S21)),((add s S21),(add (add s S21) S24))] (add (add s S21) S24)))) (frz (add s S21))) (frz s))
def qKa (X:Td)(l0 x1:AV) (K:KvP) (s:Hq):Prop:=
 boxK 36 x1 (λB0 S1=>∃ I0:IvP,(∃ m,I0 [(.int .i64 0),(.int .i64 0)] S1 m)∧∀ (f:Env) (s:Hq) (m0:Nat),I0 [f 5,f 6] s m0→
 qEj X l0 B0 (f 5) (f 6) I0 m0 K s) s
def qH0:Nat→List Nat:=λk=>cond (Nat.beq k 6) [5,6] ([])
theorem qIe {l0 x1:AV} {K:KvP} {s:Hq} (h:qKa XX l0 x1 K s):wC Tryz.prog XX 92 [l0,x1] K s:=wOK qA3 qH0 rfl Tryz.func92 (by kernel_rfl) (by kernel_rfl) (by kernel_rfl) h
def qDn (X:Td)(l7 h8 i9:AV) (I0:IvP) (m0:Nat) (K:KvP) (s:Hq):Prop:=
 oK (qAQ l7) λv_19=>oK (qAC .lss i9 (.int .i64 v_19)) λv_21=>qAM v_21
 (oK (qAS 1 l7 i9) λv_22=>oK (rd1 s v_22) λv_23=>oK (qBx .u64 v_23) λv_24=>oK (qAC .xor h8 v_24) λv_25=>oK (qAC .mul v_25 (.int .u64 1099511628211)) λv_26=>oK (qAC .add i9 (.int .i64 1)) λv_27=>∃ m',m' < m0∧I0 [v_26,v_27] s m')
 (K h8 s)
def qEt (X:Td)(ip0 bd1:AV) (K:KvP) (s:Hq):Prop:=
 oK (qBx .u64 ip0) λv_0=>oK (qBx .u64 bd1) λv_1=>oK (qBb .shr v_0 (.int .u64 24)) λv_2=>oK (qBx .u8 v_2) λv_3=>oK (qBb .shr v_0 (.int .u64 16)) λv_4=>oK (qBx .u8 v_4) λv_5=>oK (qBb .shr v_0 (.int .u64 8)) λv_6=>oK (qBx .u8 v_6) λv_7=>oK (qBx .u8 v_0) λv_8=>oK (qBb .shr v_1 (.int .u64 24)) λv_9=>oK (qBx .u8 v_9) λv_10=>oK (qBb .shr v_1 (.int .u64 16)) λv_11=>oK (qBx .u8 v_11) λv_12=>oK (qBb .shr v_1 (.int .u64 8)) λv_13=>oK (qBx .u8 v_13) λv_14=>oK (qBx .u8 v_1) λv_15=>oK (qBi (repl 8 [(.int .u8 0)]) [(0,1,v_3),(1,1,v_5),(2,1,v_7),(3,1,v_8),(4,1,v_10),(5,1,v_12),(6,1,v_14),(7,1,v_15)]) λC16=>qAj C16=true∧newK 5 C16 (λB17 S18=>∃ I0:IvP,(∃ m,I0 [(.int .u64 14695981039346656037),(.int .i64 0)] S18 m)∧∀ (f:Env) (s:Hq) (m0:Nat),I0 [f 8,f 9] s m0→
 qDn X (.slc B17 0 8 (some 8) 1) (f 8) (f 9) I0 m0 K s) s
def qGo:Nat→List Nat:=λk=>cond (Nat.beq k 10) [8,9] ([])
theorem qG6 {ip0 bd1:AV} {K:KvP} {s:Hq} (h:qEt XX ip0 bd1 K s):wC Tryz.prog XX 93 [ip0,bd1] K s:=wOK qA3 qGo rfl Tryz.func93 (by kernel_rfl) (by kernel_rfl) (by kernel_rfl) h
def qBg (X:Td)(t0 v3 t7 t8:AV) (I0:IvP) (m0:Nat) (K:KvP) (s:Hq):Prop:=
 oK (qAC .lss t8 t7) λv_4=>qAM v_4
 (oK (rdN s 12 v3) λv_5=>oK (qAS 12 t0 t8) λv_6=>oK (rdN s 12 v_6) λv_7=>oK (negB false (qFb Tryz.prog 56 (.agg v_5) (.agg v_7))) λv_8=>qAM v_8
 (K t8 s)
 (oK (qAC .add t8 (.int .i64 1)) λv_9=>∃ m',m' < m0∧I0 [v_9] s m'))
 (K (.int .i64 (-1)) s)
def qDW (X:Td)(t0 v1:AV) (K:KvP) (s:Hq):Prop:=
 boxK 56 v1 (λB0 S1=>oK (qAQ t0) λv_2=>∃ I0:IvP,(∃ m,I0 [(.int .i64 0)] S1 m)∧∀ (f:Env) (s:Hq) (m0:Nat),I0 [f 8] s m0→
 qBg X t0 B0 (.int .i64 v_2) (f 8) I0 m0 K s) s
def qC6:Nat→List Nat:=λk=>cond (Nat.beq k 4) [8] ([])
theorem qDG {t0 v1:AV} {K:KvP} {s:Hq} (h:qDW XX t0 v1 K s):wC Tryz.prog XX 94 [t0,v1] K s:=wOK qA3 qC6 rfl Tryz.func94 (by kernel_rfl) (by kernel_rfl) (by kernel_rfl) h
end Go.AM
namespace Go.AM
open Go Go.Proofs
set_option maxRecDepth 100000
def qJh (X:Td)(c1 t5 t6:AV) (I0:IvP) (m0:Nat) (K:KvP) (s:Hq):Prop:=
 oK (qAC .lss t6 (.int .i64 7)) λv_3=>qAM v_3
 (oK (qMk 7 3 (some 3) t5 t6) λv_4=>newK 188 [(.int .i64 0),(.int .u8 0),(.int .u8 0)] (λB5 S6=>oK (qAv S6 3 (.ptr B5 0) v_4) λS7=>oK (qAE 1 (.ptr B5 0)) λv_8=>oK (rdN S7 2 v_8) λv_9=>oK (qLG S7 8 1 c1 none (some (.int .i64 2)) none) λv_10=>oK (zAAz 2 v_10) λv_11=>oK (rdN S7 2 v_11) λv_12=>oK (negB false (qFb Tryz.prog 187 (.agg v_9) (.agg v_12))) λv_13=>qAM v_13
 (oK (qAE 0 (.ptr B5 0)) λv_14=>oK (rd1 S7 v_14) λv_15=>K v_15 S7)
 (oK (qAC .add t6 (.int .i64 1)) λv_16=>∃ m',m' < m0∧I0 [v_16] S7 m')) s)
 (K (.int .i64 0) s)
def qTC (X:Td)(c0:AV) (K:KvP) (s:Hq):Prop:=
 boxK 104 c0 (λB0 S1=>oK (gldN S1 21 0) λv_2=>∃ I0:IvP,(∃ m,I0 [(.int .i64 0)] S1 m)∧∀ (f:Env) (s:Hq) (m0:Nat),I0 [f 6] s m0→
 qJh X B0 (.agg v_2) (f 6) I0 m0 K s) s
def qNG:Nat→List Nat:=λk=>cond (Nat.beq k 4) [6] ([])
theorem qOK {c0:AV} {K:KvP} {s:Hq} (h:qTC XX c0 K s):wC Tryz.prog XX 115 [c0] K s:=wOK qA3 qNG rfl Tryz.func115 (by kernel_rfl) (by kernel_rfl) (by kernel_rfl) h
def qAt (X:Td)(data0 i8 j9 t21 t33:AV) (I1:IvP) (m1:Nat) (I0:IvP) (m0:Nat) (K:KvP) (s:Hq):Prop:=
 oK (qAV t21 t33 (.bool false)) λv_3=>qAM v_3
 (oK (qAC .sub j9 (.int .i64 1)) λv_4=>oK (qAC .sub j9 (.int .i64 1)) λv_5=>oK (qAS 2 data0 v_5) λv_6=>oK (rdN s 2 v_6) λv_7=>oK (qAS 2 data0 j9) λv_8=>oK (rdN s 2 v_8) λv_9=>oK (qAS 2 data0 j9) λv_10=>oK (qAv s 2 v_10 (.agg v_7)) λS11=>oK (qAS 2 data0 v_4) λv_12=>oK (qAv S11 2 v_12 (.agg v_9)) λS13=>oK (qAC .sub j9 (.int .i64 1)) λv_14=>∃ m',m' < m1∧I1 [v_14] S13 m')
 (oK (qAC .add i8 (.int .i64 1)) λv_15=>∃ m',m' < m0∧I0 [v_15] s m')
def qBo (X:Td)(data0 a1 cmp3 i8 j9:AV) (I1:IvP) (m1:Nat) (I0:IvP) (m0:Nat) (K:KvP) (s:Hq):Prop:=
 oK (qAC .gtr j9 a1) λv_2=>qAM v_2
 (oK (qAS 2 data0 j9) λv_16=>oK (rdN s 2 v_16) λv_17=>oK (qAC .sub j9 (.int .i64 1)) λv_18=>oK (qAS 2 data0 v_18) λv_19=>oK (rdN s 2 v_19) λv_20=>funK Tryz.prog X cmp3 [(.agg v_17),(.agg v_20)] (λv_21 S22=>oK (qAC .lss v_21 (.int .i64 0)) λv_23=>qAt X data0 i8 j9 v_2 v_23 I1 m1 I0 m0 K S22) s)
 (qAt X data0 i8 j9 v_2 .undef I1 m1 I0 m0 K s)
def qA6 (X:Td)(data0 a1 b2 cmp3 i8:AV) (I0:IvP) (m0:Nat) (K:KvP) (s:Hq):Prop:=
 oK (qAC .lss i8 b2) λv_1=>qAM v_1
 (∃ I1:IvP,(∃ m,I1 [i8] s m)∧∀ (f:Env) (s:Hq) (m1:Nat),I1 [f 9] s m1→
 qBo X data0 a1 cmp3 i8 (f 9) I1 m1 I0 m0 K s)
 (K (.tup []) s)
def qBC (X:Td)(data0 a1 b2 cmp3:AV) (K:KvP) (s:Hq):Prop:=
 oK (qAC .add a1 (.int .i64 1)) λv_0=>∃ I0:IvP,(∃ m,I0 [v_0] s m)∧∀ (f:Env) (s:Hq) (m0:Nat),I0 [f 8] s m0→
 qA6 X data0 a1 b2 cmp3 (f 8) I0 m0 K s
def qDF:Nat→List Nat:=λk=>cond (Nat.beq k 2) [8] (cond (Nat.beq k 8) [9] ([]))
theorem qBq {data0 a1 b2 cmp3:AV} {K:KvP} {s:Hq} (h:qBC XX data0 a1 b2 cmp3 K s):wC Tryz.prog XX 116 [data0,a1,b2,cmp3] K s:=wOK qA3 qDF rfl Tryz.func116 (by kernel_rfl) (by kernel_rfl) (by kernel_rfl) h
def qCB (X:Td)(data0 i10 k13:AV) (I1:IvP) (m1:Nat) (K:KvP) (s:Hq):Prop:=
 oK (qAC .sub i10 (.int .i64 1)) λv_15=>oK (qAC .lss k13 v_15) λv_16=>qAM v_16
 (oK (qAC .add k13 (.int .i64 1)) λv_17=>oK (qAC .add k13 (.int .i64 1)) λv_18=>oK (qAS 2 data0 v_18) λv_19=>oK (rdN s 2 v_19) λv_20=>oK (qAS 2 data0 k13) λv_21=>oK (rdN s 2 v_21) λv_22=>oK (qAS 2 data0 k13) λv_23=>oK (qAv s 2 v_23 (.agg v_20)) λS24=>oK (qAS 2 data0 v_17) λv_25=>oK (qAv S24 2 v_25 (.agg v_22)) λS26=>oK (qAC .add k13 (.int .i64 1)) λv_27=>∃ m',m' < m1∧I1 [v_27] S26 m')
 (K (.tup []) s)
def qBU (X:Td)(data0 a1 x4 i10 j11:AV) (I0:IvP) (m0:Nat) (K:KvP) (s:Hq):Prop:=
 oK (qAC .lss i10 j11) λv_2=>qAM v_2
 (oK (qAC .add i10 j11) λv_3=>oK (qBx .u64 v_3) λv_4=>oK (qBb .shr v_4 (.int .u64 1)) λv_5=>oK (qBx .i64 v_5) λv_6=>oK (qAS 2 data0 v_6) λv_7=>oK (rdN s 2 v_7) λv_8=>oK (qAS 2 data0 a1) λv_9=>oK (rdN s 2 v_9) λv_10=>funK Tryz.prog X x4 [(.agg v_8),(.agg v_10)] (λv_11 S12=>oK (qAC .lss v_11 (.int .i64 0)) λv_13=>qAM v_13
 (oK (qAC .add v_6 (.int .i64 1)) λv_14=>∃ m',m' < m0∧I0 [v_14,j11] S12 m')
 (∃ m',m' < m0∧I0 [i10,v_6] S12 m')) s)
 (∃ I1:IvP,(∃ m,I1 [a1] s m)∧∀ (f:Env) (s:Hq) (m1:Nat),I1 [f 13] s m1→
 qCB X data0 i10 (f 13) I1 m1 K s)
def qCD (X:Td)(data0 i14 k17:AV) (I3:IvP) (m3:Nat) (K:KvP) (s:Hq):Prop:=
 oK (qAC .gtr k17 i14) λv_44=>qAM v_44
 (oK (qAC .sub k17 (.int .i64 1)) λv_45=>oK (qAC .sub k17 (.int .i64 1)) λv_46=>oK (qAS 2 data0 v_46) λv_47=>oK (rdN s 2 v_47) λv_48=>oK (qAS 2 data0 k17) λv_49=>oK (rdN s 2 v_49) λv_50=>oK (qAS 2 data0 k17) λv_51=>oK (qAv s 2 v_51 (.agg v_48)) λS52=>oK (qAS 2 data0 v_45) λv_53=>oK (qAv S52 2 v_53 (.agg v_50)) λS54=>oK (qAC .sub k17 (.int .i64 1)) λv_55=>∃ m',m' < m3∧I3 [v_55] S54 m')
 (K (.tup []) s)
def qBR (X:Td)(data0 t2 x4 i14 j15:AV) (I2:IvP) (m2:Nat) (K:KvP) (s:Hq):Prop:=
 oK (qAC .lss i14 j15) λv_30=>qAM v_30
 (oK (qAC .add i14 j15) λv_31=>oK (qBx .u64 v_31) λv_32=>oK (qBb .shr v_32 (.int .u64 1)) λv_33=>oK (qBx .i64 v_33) λv_34=>oK (qAS 2 data0 t2) λv_35=>oK (rdN s 2 v_35) λv_36=>oK (qAS 2 data0 v_34) λv_37=>oK (rdN s 2 v_37) λv_38=>funK Tryz.prog X x4 [(.agg v_36),(.agg v_38)] (λv_39 S40=>oK (qAC .lss v_39 (.int .i64 0)) λv_41=>oK (qAq .not v_41) λv_42=>qAM v_42
 (oK (qAC .add v_34 (.int .i64 1)) λv_43=>∃ m',m' < m2∧I2 [v_43,j15] S40 m')
 (∃ m',m' < m2∧I2 [i14,v_34] S40 m')) s)
 (∃ I3:IvP,(∃ m,I3 [t2] s m)∧∀ (f:Env) (s:Hq) (m3:Nat),I3 [f 17] s m3→
 qCD X data0 i14 (f 17) I3 m3 K s)
def qAn (X:Td)(data0 b3 x4 x18 t24 t209 t212:AV) (K:KvP) (s:Hq):Prop:=
 oK (qAV t209 t212 (.bool false)) λv_84=>qAM v_84
 (wC Tryz.prog X 117 [data0,x18,t24,b3,x4] (λv_85 S86=>K (.tup []) S86) s)
 (K (.tup []) s)
def qAy (X:Td)(data0 b3 x4 x18 t24:AV) (K:KvP) (s:Hq):Prop:=
 oK (qAC .lss x18 t24) λv_83=>qAM v_83
 (oK (qAC .lss t24 b3) λv_87=>qAn X data0 b3 x4 x18 t24 v_83 v_87 K s)
 (qAn X data0 b3 x4 x18 t24 v_83 .undef K s)
def qAp (X:Td)(data0 a1 b3 x4 x18 x20 t24 t195 t198:AV) (K:KvP) (s:Hq):Prop:=
 oK (qAV t195 t198 (.bool false)) λv_82=>qAM v_82
 (wC Tryz.prog X 117 [data0,a1,x20,x18,x4] (λv_88 S89=>qAy X data0 b3 x4 x18 t24 K S89) s)
 (qAy X data0 b3 x4 x18 t24 K s)
def qAz (X:Td)(data0 a1 b3 x4 x18 x20 t24:AV) (K:KvP) (s:Hq):Prop:=
 oK (qAC .lss a1 x20) λv_81=>qAM v_81
 (oK (qAC .lss x20 x18) λv_90=>qAp X data0 a1 b3 x4 x18 x20 t24 v_81 v_90 K s)
 (qAp X data0 a1 b3 x4 x18 x20 t24 v_81 .undef K s)
def qAo (X:Td)(data0 a1 t2 b3 x4 x18 x20 t24 t181 t184:AV) (K:KvP) (s:Hq):Prop:=
 oK (qAV t181 t184 (.bool false)) λv_80=>qAM v_80
 (wC Tryz.prog X 160 [data0,x20,t2,t24,x4] (λv_91 S92=>qAz X data0 a1 b3 x4 x18 x20 t24 K S92) s)
 (qAz X data0 a1 b3 x4 x18 x20 t24 K s)
def qCE (X:Td)(data0 a1 t2 b3 x4 x18 n19 x20 r21 p22:AV) (I5:IvP) (m5:Nat) (K:KvP) (s:Hq):Prop:=
 oK (qAC .lss x20 r21) λv_63=>qAM v_63
 (oK (qAC .add x20 r21) λv_64=>oK (qBx .u64 v_64) λv_65=>oK (qBb .shr v_65 (.int .u64 1)) λv_66=>oK (qBx .i64 v_66) λv_67=>oK (qAC .sub p22 v_67) λv_68=>oK (qAS 2 data0 v_68) λv_69=>oK (rdN s 2 v_69) λv_70=>oK (qAS 2 data0 v_67) λv_71=>oK (rdN s 2 v_71) λv_72=>funK Tryz.prog X x4 [(.agg v_70),(.agg v_72)] (λv_73 S74=>oK (qAC .lss v_73 (.int .i64 0)) λv_75=>oK (qAq .not v_75) λv_76=>qAM v_76
 (oK (qAC .add v_67 (.int .i64 1)) λv_77=>∃ m',m' < m5∧I5 [v_77,r21] S74 m')
 (∃ m',m' < m5∧I5 [x20,v_67] S74 m')) s)
 (oK (qAC .sub n19 x20) λv_78=>oK (qAC .lss x20 t2) λv_79=>qAM v_79
 (oK (qAC .lss t2 v_78) λv_93=>qAo X data0 a1 t2 b3 x4 x18 x20 v_78 v_79 v_93 K s)
 (qAo X data0 a1 t2 b3 x4 x18 x20 v_78 v_79 .undef K s))
def qA0 (X:Td)(data0 a1 t2 b3 x4 x18 n19 x20 r21:AV) (K:KvP) (s:Hq):Prop:=
 oK (qAC .sub n19 (.int .i64 1)) λv_62=>∃ I5:IvP,(∃ m,I5 [x20,r21] s m)∧∀ (f:Env) (s:Hq) (m5:Nat),I5 [f 20,f 21] s m5→
 qCE X data0 a1 t2 b3 x4 x18 n19 (f 20) (f 21) v_62 I5 m5 K s
def qCe (X:Td)(data0 a1 t2 b3 x4:AV) (K:KvP) (s:Hq):Prop:=
 oK (qAC .sub t2 a1) λv_0=>oK (negB false (eqV 0 true v_0 (.int .i64 1))) λv_1=>qAM v_1
 (∃ I0:IvP,(∃ m,I0 [t2,b3] s m)∧∀ (f:Env) (s:Hq) (m0:Nat),I0 [f 10,f 11] s m0→
 qBU X data0 a1 x4 (f 10) (f 11) I0 m0 K s)
 (oK (qAC .sub b3 t2) λv_28=>oK (negB false (eqV 0 true v_28 (.int .i64 1))) λv_29=>qAM v_29
 (∃ I2:IvP,(∃ m,I2 [a1,t2] s m)∧∀ (f:Env) (s:Hq) (m2:Nat),I2 [f 14,f 15] s m2→
 qBR X data0 t2 x4 (f 14) (f 15) I2 m2 K s)
 (oK (qAC .add a1 b3) λv_56=>oK (qBx .u64 v_56) λv_57=>oK (qBb .shr v_57 (.int .u64 1)) λv_58=>oK (qBx .i64 v_58) λv_59=>oK (qAC .add v_59 t2) λv_60=>oK (qAC .gtr t2 v_59) λv_61=>qAM v_61
 (oK (qAC .sub v_60 b3) λv_94=>qA0 X data0 a1 t2 b3 x4 v_59 v_60 v_94 v_59 K s)
 (qA0 X data0 a1 t2 b3 x4 v_59 v_60 a1 t2 K s)))
def qDu:Nat→List Nat:=λk=>cond (Nat.beq k 6) [10,11] (cond (Nat.beq k 18) [13] (cond (Nat.beq k 30) [14,15] (cond (Nat.beq k 42) [17] (cond (Nat.beq k 66) [20,21] ([])))))
theorem qDz {data0 a1 t2 b3 x4:AV} {K:KvP} {s:Hq} (h:qCe XX data0 a1 t2 b3 x4 K s):wC Tryz.prog XX 117 [data0,a1,t2,b3,x4] K s:=wOK qA3 qDu rfl Tryz.func117 (by kernel_rfl) (by kernel_rfl) (by kernel_rfl) h
def qIA (X:Td)(h3 t6 t7:AV) (I0:IvP) (m0:Nat) (K:KvP) (s:Hq):Prop:=
 oK (qAC .lss t7 (.int .i64 8)) λv_3=>qAM v_3
 (oK (qMk 8 1 none t6 t7) λv_4=>oK (qBx .u64 v_4) λv_5=>oK (qAC .xor h3 v_5) λv_6=>oK (qAC .mul v_6 (.int .u64 1099511628211)) λv_7=>oK (qAC .add t7 (.int .i64 1)) λv_8=>∃ m',m' < m0∧I0 [v_7,v_8] s m')
 (K h3 s)
def qPM (X:Td)(o0:AV) (K:KvP) (s:Hq):Prop:=
 boxK 193 o0 (λB0 S1=>oK (rdN S1 8 B0) λv_2=>∃ I0:IvP,(∃ m,I0 [(.int .u64 14695981039346656037),(.int .i64 0)] S1 m)∧∀ (f:Env) (s:Hq) (m0:Nat),I0 [f 3,f 7] s m0→
 qIA X (f 3) (.agg v_2) (f 7) I0 m0 K s) s
def qLF:Nat→List Nat:=λk=>cond (Nat.beq k 6) [3,7] ([])
theorem qL2 {o0:AV} {K:KvP} {s:Hq} (h:qPM XX o0 K s):wC Tryz.prog XX 118 [o0] K s:=wOK qA3 qLF rfl Tryz.func118 (by kernel_rfl) (by kernel_rfl) (by kernel_rfl) h
def qKO (X:Td)(K:KvP) (s:Hq):Prop:=
 K (.int .i64 0) s
def qJ1 (X:Td)(k6 t53 t62:AV) (I2:IvP) (m2:Nat) (K:KvP) (s:Hq):Prop:=
 oK (qAV t53 t62 (.bool false)) λv_18=>qAM v_18
 (K (.int .i64 11) s)
 (oK (qAC .add k6 (.int .i64 1)) λv_19=>∃ m',m' < m2∧I2 [v_19] s m')
def qPt (X:Td)(i1 t2 l5 k6:AV) (I2:IvP) (m2:Nat) (K:KvP) (s:Hq):Prop:=
 oK (qAC .lss k6 i1) λv_9=>qAM v_9
 (oK (qAE 2 t2) λv_10=>oK (rd1 s v_10) λv_11=>oK (qAS 3 v_11 k6) λv_12=>oK (qAE 0 v_12) λv_13=>oK (rd1 s v_13) λv_14=>oK (qAE 0 l5) λv_15=>oK (rd1 s v_15) λv_16=>oK (negB false (eqV 0 false v_14 v_16)) λv_17=>qAM v_17
 (oK (qAE 2 t2) λv_20=>oK (rd1 s v_20) λv_21=>oK (qAS 3 v_21 k6) λv_22=>oK (qAE 1 v_22) λv_23=>oK (rd1 s v_23) λv_24=>oK (qAE 1 l5) λv_25=>oK (rd1 s v_25) λv_26=>oK (negB false (eqV 0 false v_24 v_26)) λv_27=>qJ1 X k6 v_17 v_27 I2 m2 K s)
 (qJ1 X k6 v_17 .undef I2 m2 K s))
 (qKO X  K s)
def qJ2 (X:Td)(i1 t2 l5:AV) (K:KvP) (s:Hq):Prop:=
 ∃ I2:IvP,(∃ m,I2 [(.int .i64 0)] s m)∧∀ (f:Env) (s:Hq) (m2:Nat),I2 [f 6] s m2→
 qPt X i1 t2 l5 (f 6) I2 m2 K s
def qGZ (X:Td)(i1 t2 l5 t33 t37:AV) (K:KvP) (s:Hq):Prop:=
 oK (qAV t33 (.bool true) t37) λv_37=>qAM v_37
 (K (.int .i64 2) s)
 (qJ2 X i1 t2 l5 K s)
def qHw (X:Td)(i1 t2 l5 t19 t31:AV) (K:KvP) (s:Hq):Prop:=
 oK (qAV t19 (.bool true) t31) λv_36=>qAM v_36
 (qGZ X i1 t2 l5 v_36 .undef K s)
 (oK (qAE 2 l5) λv_38=>oK (rd1 s v_38) λv_39=>wC Tryz.prog X 89 [v_39,(.int .i64 1),(.int .i64 1000)] (λv_40 S41=>oK (qAq .not v_40) λv_42=>qGZ X i1 t2 l5 v_36 v_42 K S41) s)
def qYP (X:Td)(t0 i1:AV) (K:KvP) (s:Hq):Prop:=
 boxK 68 t0 (λB0 S1=>oK (qAE 2 B0) λv_2=>oK (rd1 S1 v_2) λv_3=>oK (qAS 3 v_3 i1) λv_4=>oK (rdN S1 3 v_4) λv_5=>newK 110 [(.int .i64 0),(.int .i64 0),(.int .i64 0)] (λB6 S7=>oK (qAv S7 3 (.ptr B6 0) (.agg v_5)) λS8=>oK (qAE 0 (.ptr B6 0)) λv_28=>oK (rd1 S8 v_28) λv_29=>oK (qAE 0 B0) λv_30=>oK (rd1 S8 v_30) λv_31=>oK (qAC .sub v_31 (.int .i64 1)) λv_32=>wC Tryz.prog X 89 [v_29,(.int .i64 0),v_32] (λv_33 S34=>oK (qAq .not v_33) λv_35=>qAM v_35
 (qHw X i1 B0 (.ptr B6 0) v_35 .undef K S34)
 (oK (qAE 1 (.ptr B6 0)) λv_43=>oK (rd1 S34 v_43) λv_44=>oK (qAE 0 B0) λv_45=>oK (rd1 S34 v_45) λv_46=>oK (qAE 0 B0) λv_47=>oK (rd1 S34 v_47) λv_48=>oK (qAE 1 B0) λv_49=>oK (rd1 S34 v_49) λv_50=>oK (qAC .add v_48 v_50) λv_51=>oK (qAC .sub v_51 (.int .i64 1)) λv_52=>wC Tryz.prog X 89 [v_44,v_46,v_52] (λv_53 S54=>oK (qAq .not v_53) λv_55=>qHw X i1 B0 (.ptr B6 0) v_35 v_55 K S54) S34)) S8) S1) s
def qIK:Nat→List Nat:=λk=>cond (Nat.beq k 10) [6] ([])
noncomputable def qMC:Code:=qBh 3 (qBl Tryz.f119)
noncomputable def qWd:Code:=qBh 1 qMC
theorem qQE (X:Td)(K:KvP) (env:Env) (s:Hq):wpC Tryz.prog X qIK Tryz.f119.ntmps none qWd env (λe env s=>retK e (resK Tryz.prog Tryz.f119.results.toList env (λvs=>K (oneV vs) s) s)) s=qKO X K s:=by kernel_rfl
theorem qRH (X:Td)(K:KvP) (env:Env) (s:Hq):wpC Tryz.prog X qIK Tryz.f119.ntmps none qMC env (λe env s=>retK e (resK Tryz.prog Tryz.f119.results.toList env (λvs=>K (oneV vs) s) s)) s=qJ2 X (env 1) (env 2) (env 5) K s:=(qBr 1 (λenv s=>qKO X K s) qMC (by kernel_rfl) (λenv s=>qQE X K env s) env s).trans (by kernel_rfl)
theorem qWb (X:Td)(t0 i1:AV) (K:KvP) (s:Hq):wpC Tryz.prog X qIK Tryz.f119.ntmps none (qBl Tryz.f119) (qJx [t0,i1]) (λe env s=>retK e (resK Tryz.prog Tryz.f119.results.toList env (λvs=>K (oneV vs) s) s)) s=qYP X t0 i1 K s:=(qBr 3 (λenv s=>qJ2 X (env 1) (env 2) (env 5) K s) (qBl Tryz.f119) (by kernel_rfl) (λenv s=>qRH X K env s) _ s).trans (by kernel_rfl)
theorem qWU {t0 i1:AV} {K:KvP} {s:Hq} (h:qYP XX t0 i1 K s):wC Tryz.prog XX 119 [t0,i1] K s:=wOK qA3 qIK rfl Tryz.func119 (by kernel_rfl) (by kernel_rfl) (qWb XX t0 i1 K s) h
def qHR (X:Td)(K:KvP) (s:Hq):Prop:=
 K (.int .i64 0) s
def qG8 (X:Td)(k6 t39 t48:AV) (I2:IvP) (m2:Nat) (K:KvP) (s:Hq):Prop:=
 oK (qAV t39 (.bool true) t48) λv_18=>qAM v_18
 (K (.int .i64 11) s)
 (oK (qAC .add k6 (.int .i64 1)) λv_19=>∃ m',m' < m2∧I2 [v_19] s m')
def qMg (X:Td)(i1 t2 t5 k6:AV) (I2:IvP) (m2:Nat) (K:KvP) (s:Hq):Prop:=
 oK (qAC .lss k6 i1) λv_9=>qAM v_9
 (oK (qAE 3 t2) λv_10=>oK (rd1 s v_10) λv_11=>oK (qAS 2 v_11 k6) λv_12=>oK (qAE 0 v_12) λv_13=>oK (rd1 s v_13) λv_14=>oK (qAE 0 t5) λv_15=>oK (rd1 s v_15) λv_16=>oK (negB false (eqV 0 false v_14 v_16)) λv_17=>qAM v_17
 (qG8 X k6 v_17 .undef I2 m2 K s)
 (oK (qAE 3 t2) λv_20=>oK (rd1 s v_20) λv_21=>oK (qAS 2 v_21 k6) λv_22=>oK (qAE 1 v_22) λv_23=>oK (rd1 s v_23) λv_24=>oK (qAE 1 t5) λv_25=>oK (rd1 s v_25) λv_26=>oK (negB false (eqV 0 false v_24 v_26)) λv_27=>qG8 X k6 v_17 v_27 I2 m2 K s))
 (qHR X  K s)
def qHB (X:Td)(i1 t2 t5:AV) (K:KvP) (s:Hq):Prop:=
 ∃ I2:IvP,(∃ m,I2 [(.int .i64 0)] s m)∧∀ (f:Env) (s:Hq) (m2:Nat),I2 [f 6] s m2→
 qMg X i1 t2 t5 (f 6) I2 m2 K s
def qEX (X:Td)(i1 t2 t5 t20 t23:AV) (K:KvP) (s:Hq):Prop:=
 oK (qAV t20 (.bool true) t23) λv_32=>qAM v_32
 (K (.int .i64 2) s)
 (qHB X i1 t2 t5 K s)
def qFp (X:Td)(i1 t2 t5 t15 t18:AV) (K:KvP) (s:Hq):Prop:=
 oK (qAV t15 (.bool true) t18) λv_31=>qAM v_31
 (qEX X i1 t2 t5 v_31 .undef K s)
 (oK (qAE 1 t5) λv_33=>oK (rd1 s v_33) λv_34=>oK (negB false (eqV 0 true v_34 (.int .u32 0))) λv_35=>qEX X i1 t2 t5 v_31 v_35 K s)
def qSV (X:Td)(t0 i1:AV) (K:KvP) (s:Hq):Prop:=
 boxK 68 t0 (λB0 S1=>oK (qAE 3 B0) λv_2=>oK (rd1 S1 v_2) λv_3=>oK (qAS 2 v_3 i1) λv_4=>oK (rdN S1 2 v_4) λv_5=>newK 112 [(.int .u32 0),(.int .u32 0)] (λB6 S7=>oK (qAv S7 2 (.ptr B6 0) (.agg v_5)) λS8=>oK (qAE 0 (.ptr B6 0)) λv_28=>oK (rd1 S8 v_28) λv_29=>oK (qAC .lss v_29 (.int .u32 1)) λv_30=>qAM v_30
 (qFp X i1 B0 (.ptr B6 0) v_30 .undef K S8)
 (oK (qAE 0 (.ptr B6 0)) λv_36=>oK (rd1 S8 v_36) λv_37=>oK (qAC .gtr v_37 (.int .u32 16777215)) λv_38=>qFp X i1 B0 (.ptr B6 0) v_30 v_38 K S8)) S1) s
def qGJ:Nat→List Nat:=λk=>cond (Nat.beq k 10) [6] ([])
noncomputable def qJY:Code:=qBh 3 (qBl Tryz.f120)
noncomputable def qTL:Code:=qBh 1 qJY
theorem qOu (X:Td)(K:KvP) (env:Env) (s:Hq):wpC Tryz.prog X qGJ Tryz.f120.ntmps none qTL env (λe env s=>retK e (resK Tryz.prog Tryz.f120.results.toList env (λvs=>K (oneV vs) s) s)) s=qHR X K s:=by kernel_rfl
theorem qOD (X:Td)(K:KvP) (env:Env) (s:Hq):wpC Tryz.prog X qGJ Tryz.f120.ntmps none qJY env (λe env s=>retK e (resK Tryz.prog Tryz.f120.results.toList env (λvs=>K (oneV vs) s) s)) s=qHB X (env 1) (env 2) (env 5) K s:=(qBr 1 (λenv s=>qHR X K s) qJY (by kernel_rfl) (λenv s=>qOu X K env s) env s).trans (by kernel_rfl)
theorem qS1 (X:Td)(t0 i1:AV) (K:KvP) (s:Hq):wpC Tryz.prog X qGJ Tryz.f120.ntmps none (qBl Tryz.f120) (qJx [t0,i1]) (λe env s=>retK e (resK Tryz.prog Tryz.f120.results.toList env (λvs=>K (oneV vs) s) s)) s=qSV X t0 i1 K s:=(qBr 3 (λenv s=>qHB X (env 1) (env 2) (env 5) K s) (qBl Tryz.f120) (by kernel_rfl) (λenv s=>qOD X K env s) _ s).trans (by kernel_rfl)
theorem qSK {t0 i1:AV} {K:KvP} {s:Hq} (h:qSV XX t0 i1 K s):wC Tryz.prog XX 120 [t0,i1] K s:=wOK qA3 qGJ rfl Tryz.func120 (by kernel_rfl) (by kernel_rfl) (qS1 XX t0 i1 K s) h
def qHF (X:Td)(K:KvP) (s:Hq):Prop:=
 K (.int .i64 0) s
def qFl (X:Td)(k9 t152 t160:AV) (I6:IvP) (m6:Nat) (K:KvP) (s:Hq):Prop:=
 oK (qAV t152 t160 (.bool false)) λv_24=>qAM v_24
 (K (.int .i64 11) s)
 (oK (qAC .add k9 (.int .i64 1)) λv_25=>∃ m',m' < m6∧I6 [v_25] s m')
def qHD (X:Td)(t2 t8 k9 t143 t150:AV) (I6:IvP) (m6:Nat) (K:KvP) (s:Hq):Prop:=
 oK (qAV t143 t150 (.bool false)) λv_23=>qAM v_23
 (oK (qAE 4 t2) λv_26=>oK (rd1 s v_26) λv_27=>oK (qAS 6 v_27 k9) λv_28=>oK (qAE 3 v_28) λv_29=>oK (rdN s 2 v_29) λv_30=>oK (rdN s 2 t8) λv_31=>wC Tryz.prog X 164 [(.agg v_30),(.agg v_31)] (λv_32 S33=>qFl X k9 v_23 v_32 I6 m6 K S33) s)
 (qFl X k9 v_23 .undef I6 m6 K s)
def qMt (X:Td)(i1 t2 b5 t8 k9:AV) (I6:IvP) (m6:Nat) (K:KvP) (s:Hq):Prop:=
 oK (qAC .lss k9 i1) λv_14=>qAM v_14
 (oK (qAE 4 t2) λv_15=>oK (rd1 s v_15) λv_16=>oK (qAS 6 v_16 k9) λv_17=>oK (qAE 0 v_17) λv_18=>oK (rd1 s v_18) λv_19=>oK (qAE 0 b5) λv_20=>oK (rd1 s v_20) λv_21=>oK (negB false (eqV 0 false v_19 v_21)) λv_22=>qAM v_22
 (oK (qAE 4 t2) λv_34=>oK (rd1 s v_34) λv_35=>oK (qAS 6 v_35 k9) λv_36=>oK (qAE 5 v_36) λv_37=>oK (rd1 s v_37) λv_38=>oK (negB true (eqV 0 true v_38 (.int .u32 0))) λv_39=>qHD X t2 t8 k9 v_22 v_39 I6 m6 K s)
 (qHD X t2 t8 k9 v_22 .undef I6 m6 K s))
 (qHF X  K s)
def qFe (X:Td)(i1 t2 b5 t8:AV) (K:KvP) (s:Hq):Prop:=
 ∃ I6:IvP,(∃ m,I6 [(.int .i64 0)] s m)∧∀ (f:Env) (s:Hq) (m6:Nat),I6 [f 9] s m6→
 qMt X i1 t2 b5 t8 (f 9) I6 m6 K s
def qDC (X:Td)(i1 t2 b5 t8 t115 t120:AV) (K:KvP) (s:Hq):Prop:=
 oK (qAV t115 (.bool true) t120) λv_46=>qAM v_46
 (oK (qAV v_46 (.bool true) .undef) λv_47=>qAM v_47
 (K (.int .i64 3) s)
 (qFe X i1 t2 b5 t8 K s))
 (oK (qAE 5 b5) λv_48=>oK (rd1 s v_48) λv_49=>oK (rdN s 2 t8) λv_50=>wC Tryz.prog X 163 [(.agg v_50)] (λv_51 S52=>(∀ b,s b≠none→s b=none→S52 b=none)→
 oK (negB false (eqV 0 false v_49 v_51)) λv_53=>oK (qAV v_46 (.bool true) v_53) λv_54=>qAM v_54
 (K (.int .i64 3) (add s S52))
 (qFe X i1 t2 b5 t8 K (add s S52))) (frz s))
def qDf (X:Td)(i1 t2 b5 t8 t108 t113:AV) (K:KvP) (s:Hq):Prop:=
 oK (qAV t108 (.bool true) t113) λv_45=>qAM v_45
 (qDC X i1 t2 b5 t8 v_45 .undef K s)
 (oK (qAE 5 b5) λv_55=>oK (rd1 s v_55) λv_56=>oK (qAE 0 t8) λv_57=>oK (rd1 s v_57) λv_58=>oK (negB false (eqV 0 false v_56 v_58)) λv_59=>qDC X i1 t2 b5 t8 v_45 v_59 K s)
def qFi (X:Td)(i1 t2 b5 t8 t102 t106:AV) (K:KvP) (s:Hq):Prop:=
 oK (qAV t102 (.bool true) t106) λv_44=>qAM v_44
 (qDf X i1 t2 b5 t8 v_44 .undef K s)
 (oK (rdN s 2 t8) λv_60=>oK (qAE 5 b5) λv_61=>oK (rd1 s v_61) λv_62=>wC Tryz.prog X 162 [(.agg v_60),v_62] (λv_63 S64=>oK (qAq .not v_63) λv_65=>qDf X i1 t2 b5 t8 v_44 v_65 K S64) s)
def qFo (X:Td)(i1 t2 b5:AV) (K:KvP) (s:Hq):Prop:=
 oK (qAE 3 b5) λv_9=>oK (rdN s 2 v_9) λv_10=>newK 41 [(.int .u32 0),(.int .i64 0)] (λB11 S12=>oK (qAv S12 2 (.ptr B11 0) (.agg v_10)) λS13=>oK (rdN S13 2 (.ptr B11 0)) λv_40=>wC Tryz.prog X 161 [(.agg v_40)] (λv_41 S42=>oK (qAq .not v_41) λv_43=>qAM v_43
 (qFi X i1 t2 b5 (.ptr B11 0) v_43 .undef K S42)
 (oK (qAE 1 (.ptr B11 0)) λv_66=>oK (rd1 S42 v_66) λv_67=>wC Tryz.prog X 89 [v_67,(.int .i64 8),(.int .i64 30)] (λv_68 S69=>oK (qAq .not v_68) λv_70=>qFi X i1 t2 b5 (.ptr B11 0) v_43 v_70 K S69) S42)) S13) s
def qFh (X:Td)(i1 t2 b5:AV) (K:KvP) (s:Hq):Prop:=
 oK (qAE 5 b5) λv_71=>oK (rd1 s v_71) λv_72=>oK (negB false (eqV 0 true v_72 (.int .u32 0))) λv_73=>qAM v_73
 (oK (qAE 3 b5) λv_74=>oK (rdN s 2 v_74) λv_75=>oK (qBi [(.int .u32 0),(.int .i64 0)] []) λC76=>oK (negB true (qFb Tryz.prog 41 (.agg v_75) (.agg C76))) λv_77=>qAM v_77
 (K (.int .i64 3) s)
 (K (.int .i64 0) s))
 (qFo X i1 t2 b5 K s)
def qGF (X:Td)(k7 t79 t88:AV) (I12:IvP) (m12:Nat) (K:KvP) (s:Hq):Prop:=
 oK (qAV t79 (.bool true) t88) λv_87=>qAM v_87
 (K (.int .i64 11) s)
 (oK (qAC .add k7 (.int .i64 1)) λv_88=>∃ m',m' < m12∧I12 [v_88] s m')
def qLd (X:Td)(i1 t2 b5 k7:AV) (I12:IvP) (m12:Nat) (K:KvP) (s:Hq):Prop:=
 oK (qAC .lss k7 i1) λv_78=>qAM v_78
 (oK (qAE 4 t2) λv_79=>oK (rd1 s v_79) λv_80=>oK (qAS 6 v_80 k7) λv_81=>oK (qAE 1 v_81) λv_82=>oK (rd1 s v_82) λv_83=>oK (qAE 1 b5) λv_84=>oK (rd1 s v_84) λv_85=>oK (negB false (eqV 0 false v_83 v_85)) λv_86=>qAM v_86
 (qGF X k7 v_86 .undef I12 m12 K s)
 (oK (qAE 4 t2) λv_89=>oK (rd1 s v_89) λv_90=>oK (qAS 6 v_90 k7) λv_91=>oK (qAE 2 v_91) λv_92=>oK (rd1 s v_92) λv_93=>oK (qAE 2 b5) λv_94=>oK (rd1 s v_94) λv_95=>oK (negB false (eqV 0 false v_93 v_95)) λv_96=>qGF X k7 v_86 v_96 I12 m12 K s))
 (qFh X i1 t2 b5 K s)
def qFY (X:Td)(i1 t2 b5:AV) (K:KvP) (s:Hq):Prop:=
 ∃ I12:IvP,(∃ m,I12 [(.int .i64 0)] s m)∧∀ (f:Env) (s:Hq) (m12:Nat),I12 [f 7] s m12→
 qLd X i1 t2 b5 (f 7) I12 m12 K s
def qGT (X:Td)(k6 t54 t63:AV) (I14:IvP) (m14:Nat) (K:KvP) (s:Hq):Prop:=
 oK (qAV t54 (.bool true) t63) λv_110=>qAM v_110
 (K (.int .i64 11) s)
 (oK (qAC .add k6 (.int .i64 1)) λv_111=>∃ m',m' < m14∧I14 [v_111] s m')
def qLY (X:Td)(i1 t2 b5 k6:AV) (I14:IvP) (m14:Nat) (K:KvP) (s:Hq):Prop:=
 oK (qAE 3 t2) λv_97=>oK (rd1 s v_97) λv_98=>oK (qAQ v_98) λv_99=>oK (qAC .lss k6 (.int .i64 v_99)) λv_101=>qAM v_101
 (oK (qAE 3 t2) λv_102=>oK (rd1 s v_102) λv_103=>oK (qAS 2 v_103 k6) λv_104=>oK (qAE 0 v_104) λv_105=>oK (rd1 s v_105) λv_106=>oK (qAE 1 b5) λv_107=>oK (rd1 s v_107) λv_108=>oK (negB false (eqV 0 false v_106 v_108)) λv_109=>qAM v_109
 (qGT X k6 v_109 .undef I14 m14 K s)
 (oK (qAE 3 t2) λv_112=>oK (rd1 s v_112) λv_113=>oK (qAS 2 v_113 k6) λv_114=>oK (qAE 1 v_114) λv_115=>oK (rd1 s v_115) λv_116=>oK (qAE 2 b5) λv_117=>oK (rd1 s v_117) λv_118=>oK (negB false (eqV 0 false v_116 v_118)) λv_119=>qGT X k6 v_109 v_119 I14 m14 K s))
 (qFY X i1 t2 b5 K s)
def qFV (X:Td)(i1 t2 b5:AV) (K:KvP) (s:Hq):Prop:=
 ∃ I14:IvP,(∃ m,I14 [(.int .i64 0)] s m)∧∀ (f:Env) (s:Hq) (m14:Nat),I14 [f 6] s m14→
 qLY X i1 t2 b5 (f 6) I14 m14 K s
def qC3 (X:Td)(i1 t2 b5 t33 t36:AV) (K:KvP) (s:Hq):Prop:=
 oK (qAV t33 (.bool true) t36) λv_132=>qAM v_132
 (K (.int .i64 2) s)
 (qFV X i1 t2 b5 K s)
def qDg (X:Td)(i1 t2 b5 t28 t31:AV) (K:KvP) (s:Hq):Prop:=
 oK (qAV t28 (.bool true) t31) λv_131=>qAM v_131
 (qC3 X i1 t2 b5 v_131 .undef K s)
 (oK (qAE 2 b5) λv_133=>oK (rd1 s v_133) λv_134=>oK (negB false (eqV 0 true v_134 (.int .u32 0))) λv_135=>qC3 X i1 t2 b5 v_131 v_135 K s)
def qEg (X:Td)(i1 t2 b5 t23 t26:AV) (K:KvP) (s:Hq):Prop:=
 oK (qAV t23 (.bool true) t26) λv_130=>qAM v_130
 (qDg X i1 t2 b5 v_130 .undef K s)
 (oK (qAE 1 b5) λv_136=>oK (rd1 s v_136) λv_137=>oK (qAC .gtr v_137 (.int .u32 16777215)) λv_138=>qDg X i1 t2 b5 v_130 v_138 K s)
def qS6 (X:Td)(t0 i1:AV) (K:KvP) (s:Hq):Prop:=
 boxK 68 t0 (λB0 S1=>oK (qAE 4 B0) λv_2=>oK (rd1 S1 v_2) λv_3=>oK (qAS 6 v_3 i1) λv_4=>oK (rdN S1 6 v_4) λv_5=>newK 114 [(.int .i64 0),(.int .u32 0),(.int .u32 0),(.int .u32 0),(.int .i64 0),(.int .u32 0)] (λB6 S7=>oK (qAv S7 6 (.ptr B6 0) (.agg v_5)) λS8=>oK (qAE 0 (.ptr B6 0)) λv_120=>oK (rd1 S8 v_120) λv_121=>oK (qAE 3 B0) λv_122=>oK (rd1 S8 v_122) λv_123=>oK (qAQ v_123) λv_124=>oK (qAC .sub (.int .i64 v_124) (.int .i64 1)) λv_126=>wC Tryz.prog X 89 [v_121,(.int .i64 0),v_126] (λv_127 S128=>oK (qAq .not v_127) λv_129=>qAM v_129
 (qEg X i1 B0 (.ptr B6 0) v_129 .undef K S128)
 (oK (qAE 1 (.ptr B6 0)) λv_139=>oK (rd1 S128 v_139) λv_140=>oK (qAC .lss v_140 (.int .u32 1)) λv_141=>qEg X i1 B0 (.ptr B6 0) v_129 v_141 K S128)) S8) S1) s
def qCa:Nat→List Nat:=λk=>cond (Nat.beq k 44) [9] (cond (Nat.beq k 20) [7] (cond (Nat.beq k 10) [6] ([])))
noncomputable def qJb:Code:=qBh 3 (qBl Tryz.f121)
noncomputable def qJz:Code:=qBh 1 qJb
noncomputable def qJL:Code:=qBh 1 qJz
noncomputable def qJk:Code:=qBh 1 qJL
noncomputable def qJm:Code:=qBh 2 qJk
noncomputable def qSc:Code:=qBh 1 qJm
theorem qOg (X:Td)(K:KvP) (env:Env) (s:Hq):wpC Tryz.prog X qCa Tryz.f121.ntmps none qSc env (λe env s=>retK e (resK Tryz.prog Tryz.f121.results.toList env (λvs=>K (oneV vs) s) s)) s=qHF X K s:=by kernel_rfl
theorem qO0 (X:Td)(K:KvP) (env:Env) (s:Hq):wpC Tryz.prog X qCa Tryz.f121.ntmps none qJm env (λe env s=>retK e (resK Tryz.prog Tryz.f121.results.toList env (λvs=>K (oneV vs) s) s)) s=qFe X (env 1) (env 2) (env 5) (env 8) K s:=(qBr 1 (λenv s=>qHF X K s) qJm (by kernel_rfl) (λenv s=>qOg X K env s) env s).trans (by kernel_rfl)
theorem qOH (X:Td)(K:KvP) (env:Env) (s:Hq):wpC Tryz.prog X qCa Tryz.f121.ntmps none qJk env (λe env s=>retK e (resK Tryz.prog Tryz.f121.results.toList env (λvs=>K (oneV vs) s) s)) s=qFo X (env 1) (env 2) (env 5) K s:=(qBr 2 (λenv s=>qFe X (env 1) (env 2) (env 5) (env 8) K s) qJk (by kernel_rfl) (λenv s=>qO0 X K env s) env s).trans (by kernel_rfl)
theorem qOY (X:Td)(K:KvP) (env:Env) (s:Hq):wpC Tryz.prog X qCa Tryz.f121.ntmps none qJL env (λe env s=>retK e (resK Tryz.prog Tryz.f121.results.toList env (λvs=>K (oneV vs) s) s)) s=qFh X (env 1) (env 2) (env 5) K s:=(qBr 1 (λenv s=>qFo X (env 1) (env 2) (env 5) K s) qJL (by kernel_rfl) (λenv s=>qOH X K env s) env s).trans (by kernel_rfl)
theorem qO1 (X:Td)(K:KvP) (env:Env) (s:Hq):wpC Tryz.prog X qCa Tryz.f121.ntmps none qJz env (λe env s=>retK e (resK Tryz.prog Tryz.f121.results.toList env (λvs=>K (oneV vs) s) s)) s=qFY X (env 1) (env 2) (env 5) K s:=(qBr 1 (λenv s=>qFh X (env 1) (env 2) (env 5) K s) qJz (by kernel_rfl) (λenv s=>qOY X K env s) env s).trans (by kernel_rfl)
theorem qOE (X:Td)(K:KvP) (env:Env) (s:Hq):wpC Tryz.prog X qCa Tryz.f121.ntmps none qJb env (λe env s=>retK e (resK Tryz.prog Tryz.f121.results.toList env (λvs=>K (oneV vs) s) s)) s=qFV X (env 1) (env 2) (env 5) K s:=(qBr 1 (λenv s=>qFY X (env 1) (env 2) (env 5) K s) qJb (by kernel_rfl) (λenv s=>qO1 X K env s) env s).trans (by kernel_rfl)
theorem qSX (X:Td)(t0 i1:AV) (K:KvP) (s:Hq):wpC Tryz.prog X qCa Tryz.f121.ntmps none (qBl Tryz.f121) (qJx [t0,i1]) (λe env s=>retK e (resK Tryz.prog Tryz.f121.results.toList env (λvs=>K (oneV vs) s) s)) s=qS6 X t0 i1 K s:=(qBr 3 (λenv s=>qFV X (env 1) (env 2) (env 5) K s) (qBl Tryz.f121) (by kernel_rfl) (λenv s=>qOE X K env s) _ s).trans (by kernel_rfl)
theorem qTJ {t0 i1:AV} {K:KvP} {s:Hq} (h:qS6 XX t0 i1 K s):wC Tryz.prog XX 121 [t0,i1] K s:=wOK qA3 qCa rfl Tryz.func121 (by kernel_rfl) (by kernel_rfl) (qSX XX t0 i1 K s) h
def qGE (X:Td)(K:KvP) (s:Hq):Prop:=
 K (.int .i64 0) s
def qGD (X:Td)(n9 j10:AV) (I6:IvP) (m6:Nat) (I5:IvP) (m5:Nat) (K:KvP) (s:Hq):Prop:=
 oK (qAC .add j10 (.int .i64 1)) λv_26=>∃ m',m' < m6∧I6 [n9,v_26] s m'
def qLN (X:Td)(i1 t2 t5 k8 n9 j10:AV) (I6:IvP) (m6:Nat) (I5:IvP) (m5:Nat) (K:KvP) (s:Hq):Prop:=
 oK (qAC .leq j10 i1) λv_14=>qAM v_14
 (oK (qAE 5 t2) λv_15=>oK (rd1 s v_15) λv_16=>oK (qAS 2 v_16 j10) λv_17=>oK (qAE 0 v_17) λv_18=>oK (rd1 s v_18) λv_19=>oK (qAE 0 t5) λv_20=>oK (rd1 s v_20) λv_21=>oK (qAS 1 v_21 k8) λv_22=>oK (rd1 s v_22) λv_23=>wC Tryz.prog X 166 [v_19,v_23] (λv_24 S25=>qAM v_24
 (oK (qAC .add n9 (.int .i64 1)) λv_27=>qGD X v_27 j10 I6 m6 I5 m5 K S25)
 (qGD X n9 j10 I6 m6 I5 m5 K S25)) s)
 (oK (qAC .gtr n9 (.int .i64 32)) λv_28=>qAM v_28
 (K (.int .i64 7) s)
 (oK (qAC .add k8 (.int .i64 1)) λv_29=>∃ m',m' < m5∧I5 [v_29] s m'))
def qLL (X:Td)(i1 t2 t5 k8:AV) (I5:IvP) (m5:Nat) (K:KvP) (s:Hq):Prop:=
 oK (qAE 0 t5) λv_9=>oK (rd1 s v_9) λv_10=>oK (qAQ v_10) λv_11=>oK (qAC .lss k8 (.int .i64 v_11)) λv_13=>qAM v_13
 (∃ I6:IvP,(∃ m,I6 [(.int .i64 0),(.int .i64 0)] s m)∧∀ (f:Env) (s:Hq) (m6:Nat),I6 [f 9,f 10] s m6→
 qLN X i1 t2 t5 k8 (f 9) (f 10) I6 m6 I5 m5 K s)
 (qGE X  K s)
def qEi (X:Td)(i1 t2 t5:AV) (K:KvP) (s:Hq):Prop:=
 ∃ I5:IvP,(∃ m,I5 [(.int .i64 0)] s m)∧∀ (f:Env) (s:Hq) (m5:Nat),I5 [f 8] s m5→
 qLL X i1 t2 t5 (f 8) I5 m5 K s
def qGP (X:Td)(i1 t2 t5 t65 t69:AV) (K:KvP) (s:Hq):Prop:=
 oK (qAV t65 (.bool true) t69) λv_35=>qAM v_35
 (K (.int .i64 10) s)
 (qEi X i1 t2 t5 K s)
def qEw (X:Td)(i1 t2 t5:AV) (K:KvP) (s:Hq):Prop:=
 oK (qAE 0 t5) λv_30=>oK (rd1 s v_30) λv_31=>wC Tryz.prog X 165 [v_31] (λv_32 S33=>oK (qAq .not v_32) λv_34=>qAM v_34
 (qGP X i1 t2 t5 v_34 .undef K S33)
 (oK (qAE 1 t5) λv_36=>oK (rd1 S33 v_36) λv_37=>wC Tryz.prog X 165 [v_37] (λv_38 S39=>oK (qAq .not v_38) λv_40=>qGP X i1 t2 t5 v_34 v_40 K S39) S33)) s
def qLc (X:Td)(i1 t2 t5 k7:AV) (I9:IvP) (m9:Nat) (K:KvP) (s:Hq):Prop:=
 oK (qAE 1 t5) λv_41=>oK (rd1 s v_41) λv_42=>oK (qAQ v_42) λv_43=>oK (qAC .lss k7 (.int .i64 v_43)) λv_45=>qAM v_45
 (oK (qAE 1 t5) λv_46=>oK (rd1 s v_46) λv_47=>oK (qAS 1 v_47 k7) λv_48=>oK (rd1 s v_48) λv_49=>oK (qAE 4 t2) λv_50=>oK (rd1 s v_50) λv_51=>oK (qAQ v_51) λv_52=>oK (qAC .sub (.int .i64 v_52) (.int .i64 1)) λv_54=>wC Tryz.prog X 89 [v_49,(.int .i64 0),v_54] (λv_55 S56=>oK (qAq .not v_55) λv_57=>qAM v_57
 (K (.int .i64 2) S56)
 (oK (qAC .add k7 (.int .i64 1)) λv_58=>∃ m',m' < m9∧I9 [v_58] S56 m')) s)
 (qEw X i1 t2 t5 K s)
def qEs (X:Td)(i1 t2 t5:AV) (K:KvP) (s:Hq):Prop:=
 ∃ I9:IvP,(∃ m,I9 [(.int .i64 0)] s m)∧∀ (f:Env) (s:Hq) (m9:Nat),I9 [f 7] s m9→
 qLc X i1 t2 t5 (f 7) I9 m9 K s
def qKh (X:Td)(i1 t2 t5 k6:AV) (I10:IvP) (m10:Nat) (K:KvP) (s:Hq):Prop:=
 oK (qAE 0 t5) λv_59=>oK (rd1 s v_59) λv_60=>oK (qAQ v_60) λv_61=>oK (qAC .lss k6 (.int .i64 v_61)) λv_63=>qAM v_63
 (oK (qAE 0 t5) λv_64=>oK (rd1 s v_64) λv_65=>oK (qAS 1 v_65 k6) λv_66=>oK (rd1 s v_66) λv_67=>oK (qAE 0 t2) λv_68=>oK (rd1 s v_68) λv_69=>oK (qAC .sub v_69 (.int .i64 1)) λv_70=>wC Tryz.prog X 89 [v_67,(.int .i64 0),v_70] (λv_71 S72=>oK (qAq .not v_71) λv_73=>qAM v_73
 (K (.int .i64 2) S72)
 (oK (qAC .add k6 (.int .i64 1)) λv_74=>∃ m',m' < m10∧I10 [v_74] S72 m')) s)
 (qEs X i1 t2 t5 K s)
def qDi (X:Td)(i1 t2 t5:AV) (K:KvP) (s:Hq):Prop:=
 ∃ I10:IvP,(∃ m,I10 [(.int .i64 0)] s m)∧∀ (f:Env) (s:Hq) (m10:Nat),I10 [f 6] s m10→
 qKh X i1 t2 t5 (f 6) I10 m10 K s
def qFK (X:Td)(i1 t2 t5 t20 t24:AV) (K:KvP) (s:Hq):Prop:=
 oK (qAV t20 (.bool true) t24) λv_80=>qAM v_80
 (K (.int .i64 3) s)
 (qDi X i1 t2 t5 K s)
def qPq (X:Td)(t0 i1:AV) (K:KvP) (s:Hq):Prop:=
 boxK 68 t0 (λB0 S1=>oK (qAE 5 B0) λv_2=>oK (rd1 S1 v_2) λv_3=>oK (qAS 2 v_3 i1) λv_4=>oK (rdN S1 2 v_4) λv_5=>newK 93 [.nilslc,.nilslc] (λB6 S7=>oK (qAv S7 2 (.ptr B6 0) (.agg v_5)) λS8=>oK (qAE 0 (.ptr B6 0)) λv_75=>oK (rd1 S8 v_75) λv_76=>oK (qAQ v_76) λv_77=>oK (negB false (eqV 0 true (.int .i64 v_77) (.int .i64 0))) λv_79=>qAM v_79
 (qFK X i1 B0 (.ptr B6 0) v_79 .undef K S8)
 (oK (qAE 1 (.ptr B6 0)) λv_81=>oK (rd1 S8 v_81) λv_82=>oK (qAQ v_82) λv_83=>oK (negB false (eqV 0 true (.int .i64 v_83) (.int .i64 0))) λv_85=>qFK X i1 B0 (.ptr B6 0) v_79 v_85 K S8)) S1) s
def qCi:Nat→List Nat:=λk=>cond (Nat.beq k 34) [8] (cond (Nat.beq k 42) [9,10] (cond (Nat.beq k 20) [7] (cond (Nat.beq k 10) [6] ([]))))
noncomputable def qIT:Code:=qBh 3 (qBl Tryz.f122)
noncomputable def qIW:Code:=qBh 1 qIT
noncomputable def qIl:Code:=qBh 1 qIW
noncomputable def qIH:Code:=qBh 1 qIl
noncomputable def qQZ:Code:=qBh 1 qIH
theorem qM6 (X:Td)(K:KvP) (env:Env) (s:Hq):wpC Tryz.prog X qCi Tryz.f122.ntmps none qQZ env (λe env s=>retK e (resK Tryz.prog Tryz.f122.results.toList env (λvs=>K (oneV vs) s) s)) s=qGE X K s:=by kernel_rfl
theorem qNI (X:Td)(K:KvP) (env:Env) (s:Hq):wpC Tryz.prog X qCi Tryz.f122.ntmps none qIH env (λe env s=>retK e (resK Tryz.prog Tryz.f122.results.toList env (λvs=>K (oneV vs) s) s)) s=qEi X (env 1) (env 2) (env 5) K s:=(qBr 1 (λenv s=>qGE X K s) qIH (by kernel_rfl) (λenv s=>qM6 X K env s) env s).trans (by kernel_rfl)
theorem qM9 (X:Td)(K:KvP) (env:Env) (s:Hq):wpC Tryz.prog X qCi Tryz.f122.ntmps none qIl env (λe env s=>retK e (resK Tryz.prog Tryz.f122.results.toList env (λvs=>K (oneV vs) s) s)) s=qEw X (env 1) (env 2) (env 5) K s:=(qBr 1 (λenv s=>qEi X (env 1) (env 2) (env 5) K s) qIl (by kernel_rfl) (λenv s=>qNI X K env s) env s).trans (by kernel_rfl)
theorem qND (X:Td)(K:KvP) (env:Env) (s:Hq):wpC Tryz.prog X qCi Tryz.f122.ntmps none qIW env (λe env s=>retK e (resK Tryz.prog Tryz.f122.results.toList env (λvs=>K (oneV vs) s) s)) s=qEs X (env 1) (env 2) (env 5) K s:=(qBr 1 (λenv s=>qEw X (env 1) (env 2) (env 5) K s) qIW (by kernel_rfl) (λenv s=>qM9 X K env s) env s).trans (by kernel_rfl)
theorem qM2 (X:Td)(K:KvP) (env:Env) (s:Hq):wpC Tryz.prog X qCi Tryz.f122.ntmps none qIT env (λe env s=>retK e (resK Tryz.prog Tryz.f122.results.toList env (λvs=>K (oneV vs) s) s)) s=qDi X (env 1) (env 2) (env 5) K s:=(qBr 1 (λenv s=>qEs X (env 1) (env 2) (env 5) K s) qIT (by kernel_rfl) (λenv s=>qND X K env s) env s).trans (by kernel_rfl)
theorem qQ4 (X:Td)(t0 i1:AV) (K:KvP) (s:Hq):wpC Tryz.prog X qCi Tryz.f122.ntmps none (qBl Tryz.f122) (qJx [t0,i1]) (λe env s=>retK e (resK Tryz.prog Tryz.f122.results.toList env (λvs=>K (oneV vs) s) s)) s=qPq X t0 i1 K s:=(qBr 3 (λenv s=>qDi X (env 1) (env 2) (env 5) K s) (qBl Tryz.f122) (by kernel_rfl) (λenv s=>qM2 X K env s) _ s).trans (by kernel_rfl)
theorem qQn {t0 i1:AV} {K:KvP} {s:Hq} (h:qPq XX t0 i1 K s):wC Tryz.prog XX 122 [t0,i1] K s:=wOK qA3 qCi rfl Tryz.func122 (by kernel_rfl) (by kernel_rfl) (qQ4 XX t0 i1 K s) h
def qJ3 (X:Td)(K:KvP) (s:Hq):Prop:=
 K (.int .i64 0) s
def qJ5 (X:Td)(k9 t147 t153 t157 t162:AV) (I5:IvP) (m5:Nat) (K:KvP) (s:Hq):Prop:=
 oK (qAV t157 t162 (.bool false)) λv_48=>oK (qAV t153 (.bool true) v_48) λv_49=>oK (qAV t147 v_49 (.bool false)) λv_50=>qAM v_50
 (K (.int .i64 11) s)
 (oK (qAC .add k9 (.int .i64 1)) λv_51=>∃ m',m' < m5∧I5 [v_51] s m')
def qP4 (X:Td)(i1 t2 h5 k9:AV) (I5:IvP) (m5:Nat) (K:KvP) (s:Hq):Prop:=
 oK (qAC .lss k9 i1) λv_24=>qAM v_24
 (oK (qAE 6 t2) λv_25=>oK (rd1 s v_25) λv_26=>oK (qAS 4 v_26 k9) λv_27=>oK (rdN s 4 v_27) λv_28=>newK 136 [(.int .u64 0),(.int .u32 0),(.int .i64 0),(.int .i64 0)] (λB29 S30=>oK (qAv S30 4 (.ptr B29 0) (.agg v_28)) λS31=>oK (qAE 2 (.ptr B29 0)) λv_32=>oK (rd1 S31 v_32) λv_33=>oK (qAE 2 h5) λv_34=>oK (rd1 S31 v_34) λv_35=>oK (negB false (eqV 0 false v_33 v_35)) λv_36=>qAM v_36
 (oK (qAE 0 (.ptr B29 0)) λv_37=>oK (rd1 S31 v_37) λv_38=>oK (qAE 0 h5) λv_39=>oK (rd1 S31 v_39) λv_40=>oK (negB false (eqV 0 false v_38 v_40)) λv_41=>qAM v_41
 (oK (qAV v_41 (.bool true) .undef) λv_42=>oK (qAV v_36 v_42 (.bool false)) λv_43=>qAM v_43
 (K (.int .i64 11) S31)
 (oK (qAC .add k9 (.int .i64 1)) λv_44=>∃ m',m' < m5∧I5 [v_44] S31 m'))
 (oK (qAE 1 h5) λv_45=>oK (rd1 S31 v_45) λv_46=>oK (negB true (eqV 0 true v_46 (.int .u32 0))) λv_47=>qAM v_47
 (oK (qAE 1 (.ptr B29 0)) λv_52=>oK (rd1 S31 v_52) λv_53=>oK (qAE 1 h5) λv_54=>oK (rd1 S31 v_54) λv_55=>oK (negB false (eqV 0 false v_53 v_55)) λv_56=>qJ5 X k9 v_36 v_41 v_47 v_56 I5 m5 K S31)
 (qJ5 X k9 v_36 v_41 v_47 .undef I5 m5 K S31)))
 (oK (qAV v_36 .undef (.bool false)) λv_57=>qAM v_57
 (K (.int .i64 11) S31)
 (oK (qAC .add k9 (.int .i64 1)) λv_58=>∃ m',m' < m5∧I5 [v_58] S31 m'))) s)
 (qJ3 X  K s)
def qDk (X:Td)(i1 t2 h5:AV) (K:KvP) (s:Hq):Prop:=
 ∃ I5:IvP,(∃ m,I5 [(.int .i64 0)] s m)∧∀ (f:Env) (s:Hq) (m5:Nat),I5 [f 9] s m5→
 qP4 X i1 t2 h5 (f 9) I5 m5 K s
def qKA (X:Td)(i1 t2 h5 t101 t124 t129:AV) (K:KvP) (s:Hq):Prop:=
 oK (qAV t124 (.bool true) t129) λv_72=>oK (qAV t101 v_72 (.bool false)) λv_73=>qAM v_73
 (K (.int .i64 3) s)
 (qDk X i1 t2 h5 K s)
def qH9 (X:Td)(i1 t2 h5 b8 t101 t108 t114:AV) (K:KvP) (s:Hq):Prop:=
 oK (qAV t108 (.bool true) t114) λv_70=>qAM v_70
 (oK (qAV v_70 (.bool true) .undef) λv_71=>qAM v_71
 (qKA X i1 t2 h5 t101 v_71 .undef K s)
 (oK (qAE 1 h5) λv_74=>oK (rd1 s v_74) λv_75=>oK (qAE 5 b8) λv_76=>oK (rd1 s v_76) λv_77=>oK (negB false (eqV 0 false v_75 v_77)) λv_78=>qKA X i1 t2 h5 t101 v_71 v_78 K s))
 (oK (qAE 1 h5) λv_79=>oK (rd1 s v_79) λv_80=>oK (qAE 3 b8) λv_81=>oK (rdN s 2 v_81) λv_82=>wC Tryz.prog X 163 [(.agg v_82)] (λv_83 S84=>(∀ b,s b≠none→s b=none→S84 b=none)→
 oK (negB false (eqV 0 false v_80 v_83)) λv_85=>oK (qAV v_70 (.bool true) v_85) λv_86=>qAM v_86
 (oK (qAV v_86 (.bool true) .undef) λv_87=>oK (qAV t101 v_87 (.bool false)) λv_88=>qAM v_88
 (K (.int .i64 3) (add s S84))
 (qDk X i1 t2 h5 K (add s S84)))
 (oK (qAE 1 h5) λv_89=>oK (rd1 (add s S84) v_89) λv_90=>oK (qAE 5 b8) λv_91=>oK (rd1 (add s S84) v_91) λv_92=>oK (negB false (eqV 0 false v_90 v_92)) λv_93=>oK (qAV v_86 (.bool true) v_93) λv_94=>oK (qAV t101 v_94 (.bool false)) λv_95=>qAM v_95
 (K (.int .i64 3) (add s S84))
 (qDk X i1 t2 h5 K (add s S84)))) (frz s))
def qJ4 (X:Td)(i1 t2 h5 b8 t96 t99:AV) (K:KvP) (s:Hq):Prop:=
 oK (qAV t96 t99 (.bool false)) λv_62=>qAM v_62
 (oK (qAE 3 b8) λv_63=>oK (rdN s 2 v_63) λv_64=>oK (qAE 1 h5) λv_65=>oK (rd1 s v_65) λv_66=>wC Tryz.prog X 162 [(.agg v_64),v_66] (λv_67 S68=>oK (qAq .not v_67) λv_69=>qAM v_69
 (qH9 X i1 t2 h5 b8 v_62 v_69 .undef K S68)
 (oK (qAE 1 h5) λv_96=>oK (rd1 S68 v_96) λv_97=>oK (qAE 3 b8) λv_98=>oK (qAE 0 v_98) λv_99=>oK (rd1 S68 v_99) λv_100=>oK (negB false (eqV 0 false v_97 v_100)) λv_101=>qH9 X i1 t2 h5 b8 v_62 v_69 v_101 K S68)) s)
 (oK (qAV v_62 .undef (.bool false)) λv_102=>qAM v_102
 (K (.int .i64 3) s)
 (qDk X i1 t2 h5 K s))
def qE9 (X:Td)(i1 t2 h5 b8:AV) (K:KvP) (s:Hq):Prop:=
 oK (qAE 5 b8) λv_59=>oK (rd1 s v_59) λv_60=>oK (negB true (eqV 0 true v_60 (.int .u32 0))) λv_61=>qAM v_61
 (oK (qAE 1 h5) λv_103=>oK (rd1 s v_103) λv_104=>oK (negB true (eqV 0 true v_104 (.int .u32 0))) λv_105=>qJ4 X i1 t2 h5 b8 v_61 v_105 K s)
 (qJ4 X i1 t2 h5 b8 v_61 .undef K s)
def qIN (X:Td)(i1 t2 h5 b8 t83 t87 t90:AV) (K:KvP) (s:Hq):Prop:=
 oK (qAV t87 t90 (.bool false)) λv_114=>oK (qAV t83 (.bool true) v_114) λv_115=>qAM v_115
 (K (.int .i64 3) s)
 (qE9 X i1 t2 h5 b8 K s)
def qIR (X:Td)(i1 t2 h5 b8 t80 t81:AV) (K:KvP) (s:Hq):Prop:=
 oK (qAV t80 (.bool true) t81) λv_109=>qAM v_109
 (oK (qAV v_109 (.bool true) .undef) λv_110=>qAM v_110
 (K (.int .i64 3) s)
 (qE9 X i1 t2 h5 b8 K s))
 (oK (qAE 5 b8) λv_111=>oK (rd1 s v_111) λv_112=>oK (negB false (eqV 0 true v_112 (.int .u32 0))) λv_113=>qAM v_113
 (oK (qAE 1 h5) λv_116=>oK (rd1 s v_116) λv_117=>oK (negB true (eqV 0 true v_117 (.int .u32 0))) λv_118=>qIN X i1 t2 h5 b8 v_109 v_113 v_118 K s)
 (qIN X i1 t2 h5 b8 v_109 v_113 .undef K s))
def qGW (X:Td)(i1 t2 h5:AV) (K:KvP) (s:Hq):Prop:=
 oK (qAE 0 h5) λv_9=>oK (rd1 s v_9) λv_10=>wC Tryz.prog X 168 [v_10] (λv_11 S12=>oK (qAd v_11 0) λv_13=>oK (qAd v_11 1) λv_14=>oK (qAE 4 t2) λv_15=>oK (rd1 S12 v_15) λv_16=>oK (qAE 2 h5) λv_17=>oK (rd1 S12 v_17) λv_18=>oK (qAS 6 v_16 v_18) λv_19=>oK (rdN S12 6 v_19) λv_20=>newK 114 [(.int .i64 0),(.int .u32 0),(.int .u32 0),(.int .u32 0),(.int .i64 0),(.int .u32 0)] (λB21 S22=>oK (qAv S22 6 (.ptr B21 0) (.agg v_20)) λS23=>oK (qAE 0 h5) λv_106=>oK (rd1 S23 v_106) λv_107=>oK (negB false (eqV 0 true v_107 (.int .u64 1577058561))) λv_108=>qAM v_108
 (qIR X i1 t2 h5 (.ptr B21 0) v_108 .undef K S23)
 (qIR X i1 t2 h5 (.ptr B21 0) v_108 v_14 K S23)) S12) s
def qIv (X:Td)(i1 t2 h5 t52 t63:AV) (K:KvP) (s:Hq):Prop:=
 oK (qAV t52 t63 (.bool false)) λv_122=>qAM v_122
 (K (.int .i64 8) s)
 (qGW X i1 t2 h5 K s)
def qJ9 (X:Td)(i1 t2 h5:AV) (K:KvP) (s:Hq):Prop:=
 oK (qAE 3 h5) λv_119=>oK (rd1 s v_119) λv_120=>oK (negB true (eqV 0 true v_120 (.int .i64 (-1)))) λv_121=>qAM v_121
 (oK (qAE 5 t2) λv_123=>oK (rd1 s v_123) λv_124=>oK (qAE 3 h5) λv_125=>oK (rd1 s v_125) λv_126=>oK (qAS 2 v_124 v_126) λv_127=>oK (qAE 1 v_127) λv_128=>oK (rd1 s v_128) λv_129=>oK (qAE 2 h5) λv_130=>oK (rd1 s v_130) λv_131=>wC Tryz.prog X 166 [v_129,v_131] (λv_132 S133=>oK (qAq .not v_132) λv_134=>qIv X i1 t2 h5 v_121 v_134 K S133) s)
 (qIv X i1 t2 h5 v_121 .undef K s)
def qDV (X:Td)(i1 t2 h5 t39 t47:AV) (K:KvP) (s:Hq):Prop:=
 oK (qAV t39 (.bool true) t47) λv_141=>qAM v_141
 (K (.int .i64 2) s)
 (qJ9 X i1 t2 h5 K s)
def qEM (X:Td)(i1 t2 h5 t29 t37:AV) (K:KvP) (s:Hq):Prop:=
 oK (qAV t29 (.bool true) t37) λv_140=>qAM v_140
 (qDV X i1 t2 h5 v_140 .undef K s)
 (oK (qAE 3 h5) λv_142=>oK (rd1 s v_142) λv_143=>oK (qAE 5 t2) λv_144=>oK (rd1 s v_144) λv_145=>oK (qAQ v_145) λv_146=>oK (qAC .sub (.int .i64 v_146) (.int .i64 1)) λv_148=>wC Tryz.prog X 89 [v_143,(.int .i64 (-1)),v_148] (λv_149 S150=>oK (qAq .not v_149) λv_151=>qDV X i1 t2 h5 v_140 v_151 K S150) s)
def qFI (X:Td)(i1 t2 h5 t24 t27:AV) (K:KvP) (s:Hq):Prop:=
 oK (qAV t24 (.bool true) t27) λv_139=>qAM v_139
 (qEM X i1 t2 h5 v_139 .undef K s)
 (oK (qAE 2 h5) λv_152=>oK (rd1 s v_152) λv_153=>oK (qAE 4 t2) λv_154=>oK (rd1 s v_154) λv_155=>oK (qAQ v_155) λv_156=>oK (qAC .sub (.int .i64 v_156) (.int .i64 1)) λv_158=>wC Tryz.prog X 89 [v_153,(.int .i64 0),v_158] (λv_159 S160=>oK (qAq .not v_159) λv_161=>qEM X i1 t2 h5 v_139 v_161 K S160) s)
def qGn (X:Td)(i1 t2 h5 t19 t22:AV) (K:KvP) (s:Hq):Prop:=
 oK (qAV t19 (.bool true) t22) λv_138=>qAM v_138
 (qFI X i1 t2 h5 v_138 .undef K s)
 (oK (qAE 0 h5) λv_162=>oK (rd1 s v_162) λv_163=>wC Tryz.prog X 167 [v_163] (λv_164 S165=>qFI X i1 t2 h5 v_138 v_164 K S165) s)
def qYy (X:Td)(t0 i1:AV) (K:KvP) (s:Hq):Prop:=
 boxK 68 t0 (λB0 S1=>oK (qAE 6 B0) λv_2=>oK (rd1 S1 v_2) λv_3=>oK (qAS 4 v_3 i1) λv_4=>oK (rdN S1 4 v_4) λv_5=>newK 136 [(.int .u64 0),(.int .u32 0),(.int .i64 0),(.int .i64 0)] (λB6 S7=>oK (qAv S7 4 (.ptr B6 0) (.agg v_5)) λS8=>oK (qAE 0 (.ptr B6 0)) λv_135=>oK (rd1 S8 v_135) λv_136=>oK (negB false (eqV 0 true v_136 (.int .u64 0))) λv_137=>qAM v_137
 (qGn X i1 B0 (.ptr B6 0) v_137 .undef K S8)
 (oK (qAE 0 (.ptr B6 0)) λv_166=>oK (rd1 S8 v_166) λv_167=>oK (qAC .gtr v_167 (.int .u64 281474976710655)) λv_168=>qGn X i1 B0 (.ptr B6 0) v_137 v_168 K S8)) S1) s
def qEJ:Nat→List Nat:=λk=>cond (Nat.beq k 26) [9] ([])
noncomputable def qL7:Code:=qBh 3 (qBl Tryz.f123)
noncomputable def qMT:Code:=qBh 1 qL7
noncomputable def qMJ:Code:=qBh 3 qMT
noncomputable def qL8:Code:=qBh 1 qMJ
noncomputable def qWx:Code:=qBh 1 qL8
theorem qQR (X:Td)(K:KvP) (env:Env) (s:Hq):wpC Tryz.prog X qEJ Tryz.f123.ntmps none qWx env (λe env s=>retK e (resK Tryz.prog Tryz.f123.results.toList env (λvs=>K (oneV vs) s) s)) s=qJ3 X K s:=by kernel_rfl
theorem qQ6 (X:Td)(K:KvP) (env:Env) (s:Hq):wpC Tryz.prog X qEJ Tryz.f123.ntmps none qL8 env (λe env s=>retK e (resK Tryz.prog Tryz.f123.results.toList env (λvs=>K (oneV vs) s) s)) s=qDk X (env 1) (env 2) (env 5) K s:=(qBr 1 (λenv s=>qJ3 X K s) qL8 (by kernel_rfl) (λenv s=>qQR X K env s) env s).trans (by kernel_rfl)
theorem qQB (X:Td)(K:KvP) (env:Env) (s:Hq):wpC Tryz.prog X qEJ Tryz.f123.ntmps none qMJ env (λe env s=>retK e (resK Tryz.prog Tryz.f123.results.toList env (λvs=>K (oneV vs) s) s)) s=qE9 X (env 1) (env 2) (env 5) (env 8) K s:=(qBr 1 (λenv s=>qDk X (env 1) (env 2) (env 5) K s) qMJ (by kernel_rfl) (λenv s=>qQ6 X K env s) env s).trans (by kernel_rfl)
theorem qRC (X:Td)(K:KvP) (env:Env) (s:Hq):wpC Tryz.prog X qEJ Tryz.f123.ntmps none qMT env (λe env s=>retK e (resK Tryz.prog Tryz.f123.results.toList env (λvs=>K (oneV vs) s) s)) s=qGW X (env 1) (env 2) (env 5) K s:=(qBr 3 (λenv s=>qE9 X (env 1) (env 2) (env 5) (env 8) K s) qMT (by kernel_rfl) (λenv s=>qQB X K env s) env s).trans (by kernel_rfl)
theorem qQj (X:Td)(K:KvP) (env:Env) (s:Hq):wpC Tryz.prog X qEJ Tryz.f123.ntmps none qL7 env (λe env s=>retK e (resK Tryz.prog Tryz.f123.results.toList env (λvs=>K (oneV vs) s) s)) s=qJ9 X (env 1) (env 2) (env 5) K s:=(qBr 1 (λenv s=>qGW X (env 1) (env 2) (env 5) K s) qL7 (by kernel_rfl) (λenv s=>qRC X K env s) env s).trans (by kernel_rfl)
theorem qVx (X:Td)(t0 i1:AV) (K:KvP) (s:Hq):wpC Tryz.prog X qEJ Tryz.f123.ntmps none (qBl Tryz.f123) (qJx [t0,i1]) (λe env s=>retK e (resK Tryz.prog Tryz.f123.results.toList env (λvs=>K (oneV vs) s) s)) s=qYy X t0 i1 K s:=(qBr 3 (λenv s=>qJ9 X (env 1) (env 2) (env 5) K s) (qBl Tryz.f123) (by kernel_rfl) (λenv s=>qQj X K env s) _ s).trans (by kernel_rfl)
theorem qV6 {t0 i1:AV} {K:KvP} {s:Hq} (h:qYy XX t0 i1 K s):wC Tryz.prog XX 123 [t0,i1] K s:=wOK qA3 qEJ rfl Tryz.func123 (by kernel_rfl) (by kernel_rfl) (qVx XX t0 i1 K s) h
end Go.AM
namespace Go.AM
open Go Go.Proofs
set_option maxRecDepth 100000
def qKB (X:Td)(K:KvP) (s:Hq):Prop:=
 K (.int .i64 0) s
def qPm (X:Td)(i1 t2 l5 k6:AV) (I3:IvP) (m3:Nat) (K:KvP) (s:Hq):Prop:=
 oK (qAC .lss k6 i1) λv_9=>qAM v_9
 (oK (qAE 7 t2) λv_10=>oK (rd1 s v_10) λv_11=>oK (qAS 4 v_11 k6) λv_12=>oK (rdN s 4 v_12) λv_13=>oK (rdN s 4 l5) λv_14=>oK (negB false (qFb Tryz.prog 140 (.agg v_13) (.agg v_14))) λv_15=>qAM v_15
 (K (.int .i64 11) s)
 (oK (qAC .add k6 (.int .i64 1)) λv_16=>∃ m',m' < m3∧I3 [v_16] s m'))
 (qKB X  K s)
def qKF (X:Td)(i1 t2 l5:AV) (K:KvP) (s:Hq):Prop:=
 ∃ I3:IvP,(∃ m,I3 [(.int .i64 0)] s m)∧∀ (f:Env) (s:Hq) (m3:Nat),I3 [f 6] s m3→
 qPm X i1 t2 l5 (f 6) I3 m3 K s
def qKM (X:Td)(i1 t2 l5 t35 t39:AV) (K:KvP) (s:Hq):Prop:=
 oK (qAV t35 (.bool true) t39) λv_22=>qAM v_22
 (K (.int .i64 3) s)
 (qKF X i1 t2 l5 K s)
def qKI (X:Td)(i1 t2 l5:AV) (K:KvP) (s:Hq):Prop:=
 oK (qAE 0 l5) λv_17=>oK (rd1 s v_17) λv_18=>oK (qAE 1 l5) λv_19=>oK (rd1 s v_19) λv_20=>oK (negB false (eqV 0 false v_18 v_20)) λv_21=>qAM v_21
 (qKM X i1 t2 l5 v_21 .undef K s)
 (oK (qAE 2 l5) λv_23=>oK (rdN s 2 v_23) λv_24=>wC Tryz.prog X 161 [(.agg v_24)] (λv_25 S26=>oK (qAq .not v_25) λv_27=>qKM X i1 t2 l5 v_21 v_27 K S26) s)
def qHv (X:Td)(i1 t2 l5 t20 t28:AV) (K:KvP) (s:Hq):Prop:=
 oK (qAV t20 (.bool true) t28) λv_38=>qAM v_38
 (K (.int .i64 2) s)
 (qKI X i1 t2 l5 K s)
def qZS (X:Td)(t0 i1:AV) (K:KvP) (s:Hq):Prop:=
 boxK 68 t0 (λB0 S1=>oK (qAE 7 B0) λv_2=>oK (rd1 S1 v_2) λv_3=>oK (qAS 4 v_3 i1) λv_4=>oK (rdN S1 4 v_4) λv_5=>newK 140 [(.int .i64 0),(.int .i64 0),(.int .u32 0),(.int .i64 0)] (λB6 S7=>oK (qAv S7 4 (.ptr B6 0) (.agg v_5)) λS8=>oK (qAE 0 (.ptr B6 0)) λv_28=>oK (rd1 S8 v_28) λv_29=>oK (qAE 3 B0) λv_30=>oK (rd1 S8 v_30) λv_31=>oK (qAQ v_31) λv_32=>oK (qAC .sub (.int .i64 v_32) (.int .i64 1)) λv_34=>wC Tryz.prog X 89 [v_29,(.int .i64 0),v_34] (λv_35 S36=>oK (qAq .not v_35) λv_37=>qAM v_37
 (qHv X i1 B0 (.ptr B6 0) v_37 .undef K S36)
 (oK (qAE 1 (.ptr B6 0)) λv_39=>oK (rd1 S36 v_39) λv_40=>oK (qAE 3 B0) λv_41=>oK (rd1 S36 v_41) λv_42=>oK (qAQ v_42) λv_43=>oK (qAC .sub (.int .i64 v_43) (.int .i64 1)) λv_45=>wC Tryz.prog X 89 [v_40,(.int .i64 0),v_45] (λv_46 S47=>oK (qAq .not v_46) λv_48=>qHv X i1 B0 (.ptr B6 0) v_37 v_48 K S47) S36)) S8) S1) s
def qGm:Nat→List Nat:=λk=>cond (Nat.beq k 14) [6] ([])
noncomputable def qMI:Code:=qBh 3 (qBl Tryz.f124)
noncomputable def qME:Code:=qBh 1 qMI
noncomputable def qWZ:Code:=qBh 1 qME
theorem qRM (X:Td)(K:KvP) (env:Env) (s:Hq):wpC Tryz.prog X qGm Tryz.f124.ntmps none qWZ env (λe env s=>retK e (resK Tryz.prog Tryz.f124.results.toList env (λvs=>K (oneV vs) s) s)) s=qKB X K s:=by kernel_rfl
theorem qQ5 (X:Td)(K:KvP) (env:Env) (s:Hq):wpC Tryz.prog X qGm Tryz.f124.ntmps none qME env (λe env s=>retK e (resK Tryz.prog Tryz.f124.results.toList env (λvs=>K (oneV vs) s) s)) s=qKF X (env 1) (env 2) (env 5) K s:=(qBr 1 (λenv s=>qKB X K s) qME (by kernel_rfl) (λenv s=>qRM X K env s) env s).trans (by kernel_rfl)
theorem qQN (X:Td)(K:KvP) (env:Env) (s:Hq):wpC Tryz.prog X qGm Tryz.f124.ntmps none qMI env (λe env s=>retK e (resK Tryz.prog Tryz.f124.results.toList env (λvs=>K (oneV vs) s) s)) s=qKI X (env 1) (env 2) (env 5) K s:=(qBr 1 (λenv s=>qKF X (env 1) (env 2) (env 5) K s) qMI (by kernel_rfl) (λenv s=>qQ5 X K env s) env s).trans (by kernel_rfl)
theorem qWm (X:Td)(t0 i1:AV) (K:KvP) (s:Hq):wpC Tryz.prog X qGm Tryz.f124.ntmps none (qBl Tryz.f124) (qJx [t0,i1]) (λe env s=>retK e (resK Tryz.prog Tryz.f124.results.toList env (λvs=>K (oneV vs) s) s)) s=qZS X t0 i1 K s:=(qBr 3 (λenv s=>qKI X (env 1) (env 2) (env 5) K s) (qBl Tryz.f124) (by kernel_rfl) (λenv s=>qQN X K env s) _ s).trans (by kernel_rfl)
theorem qW8 {t0 i1:AV} {K:KvP} {s:Hq} (h:qZS XX t0 i1 K s):wC Tryz.prog XX 124 [t0,i1] K s:=wOK qA3 qGm rfl Tryz.func124 (by kernel_rfl) (by kernel_rfl) (qWm XX t0 i1 K s) h
def qD7 (X:Td)(l0 kind1 i6:AV) (I0:IvP) (m0:Nat) (K:KvP) (s:Hq):Prop:=
 oK (qAQ l0) λv_0=>oK (qAC .lss i6 (.int .i64 v_0)) λv_2=>qAM v_2
 (oK (qAS 8 l0 i6) λv_3=>oK (rdN s 8 v_3) λv_4=>wC Tryz.prog X 169 [(.agg v_4)] (λv_5 S6=>oK (negB false (eqV 0 false v_5 kind1)) λv_7=>qAM v_7
 (oK (qAS 8 l0 i6) λv_8=>oK (rdN S6 8 v_8) λv_9=>wC Tryz.prog X 170 [(.agg v_9)] (λv_10 S11=>K (.tup [v_10,(.bool true)]) S11) S6)
 (oK (qAC .add i6 (.int .i64 1)) λv_12=>∃ m',m' < m0∧I0 [v_12] S6 m')) s)
 (K (.tup [(.int .u64 0),(.bool false)]) s)
def qJF (X:Td)(l0 kind1:AV) (K:KvP) (s:Hq):Prop:=
 ∃ I0:IvP,(∃ m,I0 [(.int .i64 0)] s m)∧∀ (f:Env) (s:Hq) (m0:Nat),I0 [f 6] s m0→
 qD7 X l0 kind1 (f 6) I0 m0 K s
def qG1:Nat→List Nat:=λk=>cond (Nat.beq k 4) [6] ([])
theorem qHX {l0 kind1:AV} {K:KvP} {s:Hq} (h:qJF XX l0 kind1 K s):wC Tryz.prog XX 125 [l0,kind1] K s:=wOK qA3 qG1 rfl Tryz.func125 (by kernel_rfl) (by kernel_rfl) (by kernel_rfl) h
def qCP (X:Td)(data0 t2 x4 i10 j11:AV) (I0:IvP) (m0:Nat) (K:KvP) (s:Hq):Prop:=
 oK (negB true (eqV 0 false i10 j11)) λv_2=>qAM v_2
 (oK (qAC .gtr i10 j11) λv_3=>qAM v_3
 (oK (qAC .sub t2 i10) λv_4=>wC Tryz.prog X 180 [data0,v_4,t2,j11,x4] (λv_5 S6=>oK (qAC .sub i10 j11) λv_7=>∃ m',m' < m0∧I0 [v_7,j11] S6 m') s)
 (oK (qAC .sub t2 i10) λv_8=>oK (qAC .add t2 j11) λv_9=>oK (qAC .sub v_9 i10) λv_10=>wC Tryz.prog X 180 [data0,v_8,v_10,i10,x4] (λv_11 S12=>oK (qAC .sub j11 i10) λv_13=>∃ m',m' < m0∧I0 [i10,v_13] S12 m') s))
 (oK (qAC .sub t2 i10) λv_14=>wC Tryz.prog X 180 [data0,v_14,t2,i10,x4] (λv_15 S16=>K (.tup []) S16) s)
def qCr (X:Td)(data0 a1 t2 b3 x4:AV) (K:KvP) (s:Hq):Prop:=
 oK (qAC .sub t2 a1) λv_0=>oK (qAC .sub b3 t2) λv_1=>∃ I0:IvP,(∃ m,I0 [v_0,v_1] s m)∧∀ (f:Env) (s:Hq) (m0:Nat),I0 [f 10,f 11] s m0→
 qCP X data0 t2 x4 (f 10) (f 11) I0 m0 K s
def qEK:Nat→List Nat:=λk=>cond (Nat.beq k 4) [10,11] ([])
theorem qEd {data0 a1 t2 b3 x4:AV} {K:KvP} {s:Hq} (h:qCr XX data0 a1 t2 b3 x4 K s):wC Tryz.prog XX 160 [data0,a1,t2,b3,x4] K s:=wOK qA3 qEK rfl Tryz.func160 (by kernel_rfl) (by kernel_rfl) (by kernel_rfl) h
def qNe (X:Td)(t12 t15:AV) (K:KvP) (s:Hq):Prop:=
 oK (qAV t12 t15 (.bool false)) λv_11=>K v_11 s
def qZ1 (X:Td)(p0:AV) (K:KvP) (s:Hq):Prop:=
 boxK 41 p0 (λB0 S1=>oK (rdN S1 2 B0) λv_2=>wC Tryz.prog X 181 [(.agg v_2)] (λv_3 S4=>oK (qAd v_3 0) λv_5=>oK (qAd v_3 1) λv_6=>newK 41 [(.int .u32 0),(.int .i64 0)] (λB7 S8=>oK (qAv S8 2 (.ptr B7 0) v_5) λS9=>oK (negB false (eqV 0 true v_6 (.int .i64 0))) λv_10=>qAM v_10
 (oK (rdN S9 2 (.ptr B7 0)) λv_12=>oK (rdN S9 2 B0) λv_13=>oK (negB false (qFb Tryz.prog 41 (.agg v_12) (.agg v_13))) λv_14=>qNe X v_10 v_14 K S9)
 (qNe X v_10 .undef K S9)) S4) S1) s
theorem qTi {p0:AV} {K:KvP} {s:Hq} (h:qZ1 XX p0 K s):wC Tryz.prog XX 161 [p0] K s:=wOK qA3 nA0 rfl Tryz.func161 (by kernel_rfl) (by kernel_rfl) (by kernel_rfl) h
def qHd (X:Td)(p0 ip1:AV) (K:KvP) (s:Hq):Prop:=
 boxK 41 p0 (λB0 S1=>oK (rdN S1 2 B0) λv_2=>wC Tryz.prog X 182 [(.agg v_2)] (λv_3 S4=>qAM v_3
 (oK (qAE 0 B0) λv_5=>oK (rd1 S4 v_5) λv_6=>oK (qAE 1 B0) λv_7=>oK (rd1 S4 v_7) λv_8=>wC Tryz.prog X 183 [v_8] (λv_9 S10=>(∀ b,S4 b≠none→S4 b=none→S10 b=none)→
 oK (qAC .and v_6 v_9) λv_11=>oK (qAE 1 B0) λv_12=>oK (rd1 (cutH [(S4,(add S4 S10))] (add S4 S10)) v_12) λv_13=>wC Tryz.prog X 183 [v_13] (λv_14 S15=>(∀ b,(add S4 S10) b≠none→(add S4 S10) b=none→S15 b=none)→
 oK (qAC .and ip1 v_14) λv_16=>oK (negB false (eqV 0 false v_11 v_16)) λv_17=>oK (qAV v_3 v_17 (.bool false)) λv_18=>K v_18 (add (add S4 S10) S15)) (frz (add S4 S10))) (frz S4))
 (oK (qAV v_3 .undef (.bool false)) λv_19=>K v_19 S4)) S1) s
theorem qF8 {p0 ip1:AV} {K:KvP} {s:Hq} (h:qHd XX p0 ip1 K s):wC Tryz.prog XX 162 [p0,ip1] K s:=wOK qA3 nA0 rfl Tryz.func162 (by kernel_rfl) (by kernel_rfl) (by kernel_rfl) h
def zADb (X:Td)(p0:AV) (K:KvP) (s:Hq):Prop:=
 boxK 41 p0 (λB0 S1=>oK (qAE 0 B0) λv_2=>oK (rd1 S1 v_2) λv_3=>oK (qAE 1 B0) λv_4=>oK (rd1 S1 v_4) λv_5=>oK (qAC .sub (.int .i64 32) v_5) λv_6=>oK (qBb .shl (.int .u32 1) v_6) λv_7=>oK (qAC .sub v_7 (.int .u32 1)) λv_8=>oK (qAC .add v_3 v_8) λv_9=>K v_9 S1) s
theorem qWe {p0:AV} {K:KvP} {s:Hq} (h:zADb XX p0 K s):wC Tryz.prog XX 163 [p0] K s:=wOK qA3 nA0 rfl Tryz.func163 (by kernel_rfl) (by kernel_rfl) (by kernel_rfl) h
def qLv (X:Td)(t9 t13:AV) (K:KvP) (s:Hq):Prop:=
 oK (qAV t9 (.bool true) t13) λv_9=>K v_9 s
def qVq (X:Td)(a0 b1:AV) (K:KvP) (s:Hq):Prop:=
 boxK 41 a0 (λB0 S1=>boxK 41 b1 (λB2 S3=>oK (rdN S3 2 B0) λv_4=>oK (qAE 0 B2) λv_5=>oK (rd1 S3 v_5) λv_6=>wC Tryz.prog X 162 [(.agg v_4),v_6] (λv_7 S8=>qAM v_7
 (qLv X v_7 .undef K S8)
 (oK (rdN S8 2 B2) λv_10=>oK (qAE 0 B0) λv_11=>oK (rd1 S8 v_11) λv_12=>wC Tryz.prog X 162 [(.agg v_10),v_12] (λv_13 S14=>qLv X v_7 v_13 K S14) S8)) S3) S1) s
theorem qQI {a0 b1:AV} {K:KvP} {s:Hq} (h:qVq XX a0 b1 K s):wC Tryz.prog XX 164 [a0,b1] K s:=wOK qA3 nA0 rfl Tryz.func164 (by kernel_rfl) (by kernel_rfl) (by kernel_rfl) h
def qJw (X:Td)(l0 i3:AV) (I0:IvP) (m0:Nat) (K:KvP) (s:Hq):Prop:=
 oK (qAQ l0) λv_0=>oK (qAC .lss i3 (.int .i64 v_0)) λv_2=>qAM v_2
 (oK (qAS 1 l0 i3) λv_3=>oK (rd1 s v_3) λv_4=>oK (qAC .sub i3 (.int .i64 1)) λv_5=>oK (qAS 1 l0 v_5) λv_6=>oK (rd1 s v_6) λv_7=>oK (qAC .leq v_4 v_7) λv_8=>qAM v_8
 (K (.bool false) s)
 (oK (qAC .add i3 (.int .i64 1)) λv_9=>∃ m',m' < m0∧I0 [v_9] s m'))
 (K (.bool true) s)
def qMW (X:Td)(l0:AV) (K:KvP) (s:Hq):Prop:=
 ∃ I0:IvP,(∃ m,I0 [(.int .i64 1)] s m)∧∀ (f:Env) (s:Hq) (m0:Nat),I0 [f 3] s m0→
 qJw X l0 (f 3) I0 m0 K s
def qNA:Nat→List Nat:=λk=>cond (Nat.beq k 4) [3] ([])
theorem qOC {l0:AV} {K:KvP} {s:Hq} (h:qMW XX l0 K s):wC Tryz.prog XX 165 [l0] K s:=wOK qA3 qNA rfl Tryz.func165 (by kernel_rfl) (by kernel_rfl) (by kernel_rfl) h
def qTG (X:Td)(l0 n1 i5:AV) (I0:IvP) (m0:Nat) (K:KvP) (s:Hq):Prop:=
 oK (qAQ l0) λv_0=>oK (qAC .lss i5 (.int .i64 v_0)) λv_2=>qAM v_2
 (oK (qAS 1 l0 i5) λv_3=>oK (rd1 s v_3) λv_4=>oK (negB false (eqV 0 false v_4 n1)) λv_5=>qAM v_5
 (K (.bool true) s)
 (oK (qAC .add i5 (.int .i64 1)) λv_6=>∃ m',m' < m0∧I0 [v_6] s m'))
 (K (.bool false) s)
def zABv (X:Td)(l0 n1:AV) (K:KvP) (s:Hq):Prop:=
 ∃ I0:IvP,(∃ m,I0 [(.int .i64 0)] s m)∧∀ (f:Env) (s:Hq) (m0:Nat),I0 [f 5] s m0→
 qTG X l0 n1 (f 5) I0 m0 K s
def qV4:Nat→List Nat:=λk=>cond (Nat.beq k 4) [5] ([])
theorem qYf {l0 n1:AV} {K:KvP} {s:Hq} (h:zABv XX l0 n1 K s):wC Tryz.prog XX 166 [l0,n1] K s:=wOK qA3 qV4 rfl Tryz.func166 (by kernel_rfl) (by kernel_rfl) (by kernel_rfl) h
def qDI (X:Td)(t5 t9:AV) (K:KvP) (s:Hq):Prop:=
 oK (qAV t5 t9 (.bool false)) λv_1=>K v_1 s
def qDq (X:Td)(t0:AV) (K:KvP) (s:Hq):Prop:=
 oK (qAC .leq t0 (.int .u64 281474976710655)) λv_0=>qAM v_0
 (oK (qBb .shr t0 (.int .u64 40)) λv_2=>oK (qAC .and v_2 (.int .u64 1)) λv_3=>oK (negB false (eqV 0 true v_3 (.int .u64 1))) λv_4=>qDI X v_0 v_4 K s)
 (qDI X v_0 .undef K s)
theorem qFy {t0:AV} {K:KvP} {s:Hq} (h:qDq XX t0 K s):wC Tryz.prog XX 167 [t0] K s:=wOK qA3 nA0 rfl Tryz.func167 (by kernel_rfl) (by kernel_rfl) (by kernel_rfl) h
def qBO (X:Td)(t0 t6 t8:AV) (K:KvP) (s:Hq):Prop:=
 oK (qAV t6 (.bool true) t8) λv_1=>qAM v_1
 (K (.tup [(.int .i64 0),(.bool false)]) s)
 (oK (qAC .sub t0 (.int .u64 2199023255552)) λv_2=>oK (qBx .i64 v_2) λv_3=>K (.tup [v_3,(.bool true)]) s)
def qDc (X:Td)(t0:AV) (K:KvP) (s:Hq):Prop:=
 oK (qAC .lss t0 (.int .u64 2199023255552)) λv_0=>qAM v_0
 (qBO X t0 v_0 .undef K s)
 (oK (qAC .geq t0 (.int .u64 2199023255584)) λv_4=>qBO X t0 v_0 v_4 K s)
theorem qFa {t0:AV} {K:KvP} {s:Hq} (h:qDc XX t0 K s):wC Tryz.prog XX 168 [t0] K s:=wOK qA3 nA0 rfl Tryz.func168 (by kernel_rfl) (by kernel_rfl) (by kernel_rfl) h
def qB1 (X:Td)(i4 t24 t31:AV) (I0:IvP) (m0:Nat) (K:KvP) (s:Hq):Prop:=
 oK (qAV t24 t31 (.bool false)) λv_20=>qAM v_20
 (oK (qAC .add i4 (.int .i64 1)) λv_21=>K v_21 s)
 (oK (qAC .add i4 (.int .i64 1)) λv_22=>∃ m',m' < m0∧I0 [v_22] s m')
def qEU (X:Td)(c1 types3 i4:AV) (I0:IvP) (m0:Nat) (K:KvP) (s:Hq):Prop:=
 oK (qAC .lss i4 (.int .i64 7)) λv_13=>qAM v_13
 (oK (qC2 8 1 c1 (.int .i64 0)) λv_14=>oK (rd1 s v_14) λv_15=>oK (qC2 7 2 types3 i4) λv_16=>oK (qC2 2 1 v_16 (.int .i64 0)) λv_17=>oK (rd1 s v_17) λv_18=>oK (negB false (eqV 0 false v_15 v_18)) λv_19=>qAM v_19
 (oK (qC2 8 1 c1 (.int .i64 1)) λv_23=>oK (rd1 s v_23) λv_24=>oK (qC2 7 2 types3 i4) λv_25=>oK (qC2 2 1 v_25 (.int .i64 1)) λv_26=>oK (rd1 s v_26) λv_27=>oK (negB false (eqV 0 false v_24 v_27)) λv_28=>qB1 X i4 v_19 v_28 I0 m0 K s)
 (qB1 X i4 v_19 .undef I0 m0 K s))
 (K (.int .i64 0) s)
def qJJ (X:Td)(c0:AV) (K:KvP) (s:Hq):Prop:=
 boxK 104 c0 (λB0 S1=>oK (qBi [(.int .u8 0),(.int .u8 0)] [(0,1,(.int .u8 0)),(1,1,(.int .u8 2))]) λC2=>oK (qBi [(.int .u8 0),(.int .u8 0)] [(0,1,(.int .u8 3)),(1,1,(.int .u8 12))]) λC3=>oK (qBi [(.int .u8 0),(.int .u8 0)] [(0,1,(.int .u8 6)),(1,1,(.int .u8 0))]) λC4=>oK (qBi [(.int .u8 0),(.int .u8 0)] [(0,1,(.int .u8 6)),(1,1,(.int .u8 1))]) λC5=>oK (qBi [(.int .u8 0),(.int .u8 0)] [(0,1,(.int .u8 6)),(1,1,(.int .u8 2))]) λC6=>oK (qBi [(.int .u8 0),(.int .u8 0)] [(0,1,(.int .u8 6)),(1,1,(.int .u8 3))]) λC7=>oK (qBi [(.int .u8 0),(.int .u8 0)] [(0,1,(.int .u8 6)),(1,1,(.int .u8 6))]) λC8=>oK (qBi [(.int .u8 0),(.int .u8 0),(.int .u8 0),(.int .u8 0),(.int .u8 0),(.int .u8 0),(.int .u8 0),(.int .u8 0),(.int .u8 0),(.int .u8 0),(.int .u8 0),(.int .u8 0),(.int .u8 0),(.int .u8 0)] [(0,2,(.agg C2)),(2,2,(.agg C3)),(4,2,(.agg C4)),(6,2,(.agg C5)),(8,2,(.agg C6)),(10,2,(.agg C7)),(12,2,(.agg C8))]) λC9=>newK 247 [(.int .u8 0),(.int .u8 0),(.int .u8 0),(.int .u8 0),(.int .u8 0),(.int .u8 0),(.int .u8 0),(.int .u8 0),(.int .u8 0),(.int .u8 0),(.int .u8 0),(.int .u8 0),(.int .u8 0),(.int .u8 0)] (λB10 S11=>oK (qAv S11 14 (.ptr B10 0) (.agg C9)) λS12=>∃ I0:IvP,(∃ m,I0 [(.int .i64 0)] S12 m)∧∀ (f:Env) (s:Hq) (m0:Nat),I0 [f 4] s m0→
 qEU X B0 (.ptr B10 0) (f 4) I0 m0 K s) S1) s
def qHV:Nat→List Nat:=λk=>cond (Nat.beq k 6) [4] ([])
theorem qHr {c0:AV} {K:KvP} {s:Hq} (h:qJJ XX c0 K s):wC Tryz.prog XX 169 [c0] K s:=wOK qA3 qHV rfl Tryz.func169 (by kernel_rfl) (by kernel_rfl) (by kernel_rfl) h
def qDl (X:Td)(c1 n3 i4:AV) (I0:IvP) (m0:Nat) (K:KvP) (s:Hq):Prop:=
 oK (qAC .lss i4 (.int .i64 8)) λv_2=>qAM v_2
 (oK (qBb .shl n3 (.int .u64 8)) λv_3=>oK (qC2 8 1 c1 i4) λv_4=>oK (rd1 s v_4) λv_5=>oK (qBx .u64 v_5) λv_6=>oK (qAC .add v_3 v_6) λv_7=>oK (qAC .add i4 (.int .i64 1)) λv_8=>∃ m',m' < m0∧I0 [v_7,v_8] s m')
 (K n3 s)
def qIg (X:Td)(c0:AV) (K:KvP) (s:Hq):Prop:=
 boxK 104 c0 (λB0 S1=>∃ I0:IvP,(∃ m,I0 [(.int .u64 0),(.int .i64 2)] S1 m)∧∀ (f:Env) (s:Hq) (m0:Nat),I0 [f 3,f 4] s m0→
 qDl X B0 (f 3) (f 4) I0 m0 K s) s
def qGw:Nat→List Nat:=λk=>cond (Nat.beq k 6) [3,4] ([])
theorem qG2 {c0:AV} {K:KvP} {s:Hq} (h:qIg XX c0 K s):wC Tryz.prog XX 170 [c0] K s:=wOK qA3 qGw rfl Tryz.func170 (by kernel_rfl) (by kernel_rfl) (by kernel_rfl) h
def qB4 (X:Td)(data0 a1 b2 n3 i10:AV) (I0:IvP) (m0:Nat) (K:KvP) (s:Hq):Prop:=
 oK (qAC .lss i10 n3) λv_0=>qAM v_0
 (oK (qAC .add a1 i10) λv_1=>oK (qAC .add b2 i10) λv_2=>oK (qAC .add b2 i10) λv_3=>oK (qAS 2 data0 v_3) λv_4=>oK (rdN s 2 v_4) λv_5=>oK (qAC .add a1 i10) λv_6=>oK (qAS 2 data0 v_6) λv_7=>oK (rdN s 2 v_7) λv_8=>oK (qAS 2 data0 v_1) λv_9=>oK (qAv s 2 v_9 (.agg v_5)) λS10=>oK (qAS 2 data0 v_2) λv_11=>oK (qAv S10 2 v_11 (.agg v_8)) λS12=>oK (qAC .add i10 (.int .i64 1)) λv_13=>∃ m',m' < m0∧I0 [v_13] S12 m')
 (K (.tup []) s)
def qEb (X:Td)(data0 a1 b2 n3 x4:AV) (K:KvP) (s:Hq):Prop:=
 ∃ I0:IvP,(∃ m,I0 [(.int .i64 0)] s m)∧∀ (f:Env) (s:Hq) (m0:Nat),I0 [f 10] s m0→
 qB4 X data0 a1 b2 n3 (f 10) I0 m0 K s
def qDd:Nat→List Nat:=λk=>cond (Nat.beq k 2) [10] ([])
theorem qDr {data0 a1 b2 n3 x4:AV} {K:KvP} {s:Hq} (h:qEb XX data0 a1 b2 n3 x4 K s):wC Tryz.prog XX 180 [data0,a1,b2,n3,x4] K s:=wOK qA3 qDd rfl Tryz.func180 (by kernel_rfl) (by kernel_rfl) (by kernel_rfl) h
def qJE (X:Td)(p0:AV) (K:KvP) (s:Hq):Prop:=
 boxK 41 p0 (λB0 S1=>newK 41 [(.int .u32 0),(.int .i64 0)] (λB2 S3=>oK (rdN S3 2 B0) λv_4=>wC Tryz.prog X 182 [(.agg v_4)] (λv_5 S6=>oK (qAq .not v_5) λv_7=>qAM v_7
 (oK (qBi [(.int .u32 0),(.int .i64 0)] []) λC8=>oK (qAv S6 2 (.ptr B2 0) (.agg C8)) λS9=>oK (rdN S9 2 (.ptr B2 0)) λt2_10=>K (.tup [(.agg t2_10),(.int .i64 2)]) S9)
 (oK (qAE 0 B0) λv_11=>oK (rd1 S6 v_11) λv_12=>oK (qAE 1 B0) λv_13=>oK (rd1 S6 v_13) λv_14=>wC Tryz.prog X 183 [v_14] (λv_15 S16=>(∀ b,S6 b≠none→S6 b=none→S16 b=none)→
 oK (qAC .and v_12 v_15) λv_17=>oK (qAE 1 B0) λv_18=>oK (rd1 (cutH [(S6,(add S6 S16))] (add S6 S16)) v_18) λv_19=>oK (qBi [(.int .u32 0),(.int .i64 0)] [(0,1,v_17),(1,1,v_19)]) λC20=>oK (qAv (add S6 S16) 2 (.ptr B2 0) (.agg C20)) λS21=>oK (rdN S21 2 (.ptr B2 0)) λt2_22=>K (.tup [(.agg t2_22),(.int .i64 0)]) S21) (frz S6))) S3) S1) s
theorem qHh {p0:AV} {K:KvP} {s:Hq} (h:qJE XX p0 K s):wC Tryz.prog XX 181 [p0] K s:=wOK qA3 nA0 rfl Tryz.func181 (by kernel_rfl) (by kernel_rfl) (by kernel_rfl) h
def qD4 (X:Td)(t6 t9:AV) (K:KvP) (s:Hq):Prop:=
 oK (qAV t6 t9 (.bool false)) λv_5=>K v_5 s
def qJB (X:Td)(p0:AV) (K:KvP) (s:Hq):Prop:=
 boxK 41 p0 (λB0 S1=>oK (qAE 1 B0) λv_2=>oK (rd1 S1 v_2) λv_3=>oK (qAC .geq v_3 (.int .i64 0)) λv_4=>qAM v_4
 (oK (qAE 1 B0) λv_6=>oK (rd1 S1 v_6) λv_7=>oK (qAC .leq v_7 (.int .i64 32)) λv_8=>qD4 X v_4 v_8 K S1)
 (qD4 X v_4 .undef K S1)) s
theorem qHc {p0:AV} {K:KvP} {s:Hq} (h:qJB XX p0 K s):wC Tryz.prog XX 182 [p0] K s:=wOK qA3 nA0 rfl Tryz.func182 (by kernel_rfl) (by kernel_rfl) (by kernel_rfl) h
def qFq (X:Td)(n0:AV) (K:KvP) (s:Hq):Prop:=
 oK (qAC .sub (.int .i64 32) n0) λv_0=>oK (qBb .shl (.int .u32 1) v_0) λv_1=>oK (qAC .sub v_1 (.int .u32 1)) λv_2=>oK (qAq .xor v_2) λv_3=>K v_3 s
theorem qHx {n0:AV} {K:KvP} {s:Hq} (h:qFq XX n0 K s):wC Tryz.prog XX 183 [n0] K s:=wOK qA3 nA0 rfl Tryz.func183 (by kernel_rfl) (by kernel_rfl) (by kernel_rfl) h
end Go.AM
