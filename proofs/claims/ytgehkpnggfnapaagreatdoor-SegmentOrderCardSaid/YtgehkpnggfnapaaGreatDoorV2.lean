/- Part V2 of a calculus over a small memory that is proved to answer as the program does, and of its use for the functions that the law reaches: see the last part. -/
import Derived.Test.YtgehkpnggfnapaaGreatDoorV
set_option linter.unusedVariables false
namespace Go.AM
open Go Go.Proofs
set_option maxRecDepth 100000
def qCx (X:Td)(fabric0 ok9 a10 b12:AV) (K:KvP) (s:Hq):Prop:=
 wC Tryz.prog X 26 [fabric0] (λv_17 S18=>newK 68 zR1 (λB19 S20=>oK (qAn S20 19 (.ptr B19 0) v_17) λS21=>qAL ok9
 (oK (rdN S21 19 (.ptr B19 0)) λv_22=>wC Tryz.prog X 19 [(.agg v_22),a10] (λv_23 S24=>(∀ b,S21 b≠none→S21 b=none→S24 b=none)→
 oK (rdN (cutH [(S21,(add S21 S24))] (add S21 S24)) 19 (.ptr B19 0)) λv_25=>wC Tryz.prog X 19 [(.agg v_25),b12] (λv_26 S27=>wC Tryz.prog X 18 [v_23,v_26] (λv_28 S29=>oK (qAc ok9 v_28 (.bool false)) λv_30=>K v_30 S29) S27) (add S21 S24)) (frz S21))
 (oK (qAc ok9 .undef (.bool false)) λv_31=>K v_31 S21)) S18) s
def qFG (X:Td)(t14 t101 t111:AV) (I4:IvP) (m4:Nat) (K:KvP) (s:Hq):Prop:=
 oK (qAc t101 (.bool true) t111) λv_49=>qAL v_49
 (K (.bool false) s)
 (oK (qAB .add t14 (.int .i64 1)) λv_50=>∃ m',m' < m4∧I4 [v_50] s m')
def qE6 (X:Td)(a10 b12 t14 t96 t99:AV) (I4:IvP) (m4:Nat) (K:KvP) (s:Hq):Prop:=
 oK (qAc t96 (.bool true) t99) λv_48=>qAL v_48
 (qFG X t14 v_48 .undef I4 m4 K s)
 (wC Tryz.prog X 11 [t14] (λv_51 S52=>wC Tryz.prog X 9 [a10,v_51] (λv_53 S54=>wC Tryz.prog X 11 [t14] (λv_55 S56=>wC Tryz.prog X 9 [b12,v_55] (λv_57 S58=>wC Tryz.prog X 25 [v_53,v_57] (λv_59 S60=>oK (qBm .not v_59) λv_61=>qFG X t14 v_48 v_61 I4 m4 K S60) S58) S56) S54) S52) s)
def qHN (X:Td)(fabric0 ok9 a10 b12 t14:AV) (I4:IvP) (m4:Nat) (K:KvP) (s:Hq):Prop:=
 oK (qAB .lss t14 (.int .i64 6)) λv_32=>qAL v_32
 (wC Tryz.prog X 11 [t14] (λv_33 S34=>wC Tryz.prog X 23 [a10,v_33] (λv_35 S36=>oK (qAX v_35 0) λv_37=>oK (qAX v_35 1) λv_38=>wC Tryz.prog X 11 [t14] (λv_39 S40=>wC Tryz.prog X 23 [b12,v_39] (λv_41 S42=>oK (qAX v_41 0) λv_43=>oK (qAX v_41 1) λv_44=>wC Tryz.prog X 24 [v_37,v_43] (λv_45 S46=>oK (qBm .not v_45) λv_47=>qAL v_47
 (qE6 X a10 b12 t14 v_47 .undef I4 m4 K S46)
 (oK (negB true (eqV 0 false v_38 v_44)) λv_62=>qE6 X a10 b12 t14 v_47 v_62 I4 m4 K S46)) S42) S40) S36) S34) s)
 (qCx X fabric0 ok9 a10 b12 K s)
def qBo (X:Td)(fabric0 ok9 a10 b12:AV) (K:KvP) (s:Hq):Prop:=
 ∃ I4:IvP,(∃ m,I4 [(.int .i64 0)] s m)∧∀ (f:Env) (s:Hq) (m4:Nat),I4 [f 14] s m4→
 qHN X fabric0 ok9 a10 b12 (f 14) I4 m4 K s
def qHY (X:Td)(fabric0 ok9 a10 b12 i13:AV) (I7:IvP) (m7:Nat) (K:KvP) (s:Hq):Prop:=
 oK (qAS b12) λv_63=>oK (qAB .quo (.int .i64 v_63) (.int .i64 2)) λv_65=>oK (qAB .lss i13 v_65) λv_66=>qAL v_66
 (oK (qAS b12) λv_67=>oK (qAB .sub (.int .i64 v_67) (.int .i64 1)) λv_69=>oK (qAB .sub v_69 i13) λv_70=>oK (qAS b12) λv_71=>oK (qAB .sub (.int .i64 v_71) (.int .i64 1)) λv_73=>oK (qAB .sub v_73 i13) λv_74=>oK (qAH 38 b12 v_74) λv_75=>oK (rdN s 38 v_75) λv_76=>oK (qAH 38 b12 i13) λv_77=>oK (rdN s 38 v_77) λv_78=>oK (qAH 38 b12 i13) λv_79=>oK (qAn s 38 v_79 (.agg v_76)) λS80=>oK (qAH 38 b12 v_70) λv_81=>oK (qAn S80 38 v_81 (.agg v_78)) λS82=>oK (qAB .add i13 (.int .i64 1)) λv_83=>∃ m',m' < m7∧I7 [v_83] S82 m')
 (qBo X fabric0 ok9 a10 b12 K s)
def qDo (X:Td)(fabric0 turn2 back3 ok9 a10:AV) (K:KvP) (s:Hq):Prop:=
 oK (qAS a10) λv_4=>wC Tryz.prog X 22 [turn2,(.int .i64 v_4)] (λv_6 S7=>oK (qBO (repl 0 zR0) []) λC8=>qAY C8=true∧newK 51 C8 (λB9 S10=>oK (qCT 38 a10 (some v_6) none none) λv_11=>appK 51 38 (.slc B9 0 0 (some 0) 38) v_11 (λv_12 S13=>oK (qCT 38 a10 none (some v_6) none) λv_14=>appK 51 38 v_12 v_14 (λv_15 S16=>qAL back3
 (∃ I7:IvP,(∃ m,I7 [(.int .i64 0)] S16 m)∧∀ (f:Env) (s:Hq) (m7:Nat),I7 [f 13] s m7→
 qHY X fabric0 ok9 a10 v_15 (f 13) I7 m7 K s)
 (qBo X fabric0 ok9 a10 v_15 K S16)) S13) S10) S7) s
def qDg (X:Td)(fabric0 l1 turn2 back3 ok9:AV) (K:KvP) (s:Hq):Prop:=
 wC Tryz.prog X 21 [l1] (λv_2 S3=>oK (qAS v_2) λv_84=>oK (negB false (eqV 0 true (.int .i64 v_84) (.int .i64 0))) λv_86=>qAL v_86
 (K ok9 S3)
 (qDo X fabric0 turn2 back3 ok9 v_2 K S3)) s
def qGs (X:Td)(fabric0 l1 turn2 back3:AV) (K:KvP) (s:Hq):Prop:=
 wC Tryz.prog X 3 [] (λv_0 S1=>oK (qAS fabric0) λv_87=>oK (qAB .gtr (.int .i64 v_87) (.int .i64 200)) λv_89=>qAL v_89
 (K v_0 S1)
 (qDg X fabric0 l1 turn2 back3 v_0 K S1)) s
def qB5:Nat→List Nat:=λk=>cond (Nat.beq k 30) [14] (cond (Nat.beq k 22) [13] ([]))
noncomputable def qE5:Code:=qJd 3 (qAU Tryz.f4)
noncomputable def qFC:Code:=qJd 2 qE5
noncomputable def qFJ:Code:=qJd 3 qFC
noncomputable def qME:Code:=qJd 1 qFJ
theorem qJz (X:Td)(K:KvP) (env:Env) (s:Hq):wpC Tryz.prog X qB5 Tryz.f4.ntmps none qME env (λe env s=>retK e (resK Tryz.prog Tryz.f4.results.toList env (λvs=>K (oneV vs) s) s)) s=qCx X (env 0) (env 9) (env 10) (env 12) K s:=by kernel_rfl
theorem qJU (X:Td)(K:KvP) (env:Env) (s:Hq):wpC Tryz.prog X qB5 Tryz.f4.ntmps none qFJ env (λe env s=>retK e (resK Tryz.prog Tryz.f4.results.toList env (λvs=>K (oneV vs) s) s)) s=qBo X (env 0) (env 9) (env 10) (env 12) K s:=(qLG 1 (λenv s=>qCx X (env 0) (env 9) (env 10) (env 12) K s) qFJ (by kernel_rfl) (λenv s=>qJz X K env s) env s).trans (by kernel_rfl)
theorem qJl (X:Td)(K:KvP) (env:Env) (s:Hq):wpC Tryz.prog X qB5 Tryz.f4.ntmps none qFC env (λe env s=>retK e (resK Tryz.prog Tryz.f4.results.toList env (λvs=>K (oneV vs) s) s)) s=qDo X (env 0) (env 2) (env 3) (env 9) (env 10) K s:=(qLG 3 (λenv s=>qBo X (env 0) (env 9) (env 10) (env 12) K s) qFC (by kernel_rfl) (λenv s=>qJU X K env s) env s).trans (by kernel_rfl)
theorem qJ2 (X:Td)(K:KvP) (env:Env) (s:Hq):wpC Tryz.prog X qB5 Tryz.f4.ntmps none qE5 env (λe env s=>retK e (resK Tryz.prog Tryz.f4.results.toList env (λvs=>K (oneV vs) s) s)) s=qDg X (env 0) (env 1) (env 2) (env 3) (env 9) K s:=(qLG 2 (λenv s=>qDo X (env 0) (env 2) (env 3) (env 9) (env 10) K s) qE5 (by kernel_rfl) (λenv s=>qJl X K env s) env s).trans (by kernel_rfl)
theorem qMG (X:Td)(fabric0 l1 turn2 back3:AV) (K:KvP) (s:Hq):wpC Tryz.prog X qB5 Tryz.f4.ntmps none (qAU Tryz.f4) (qQt [fabric0,l1,turn2,back3]) (λe env s=>retK e (resK Tryz.prog Tryz.f4.results.toList env (λvs=>K (oneV vs) s) s)) s=qGs X fabric0 l1 turn2 back3 K s:=(qLG 3 (λenv s=>qDg X (env 0) (env 1) (env 2) (env 3) (env 9) K s) (qAU Tryz.f4) (by kernel_rfl) (λenv s=>qJ2 X K env s) _ s).trans (by kernel_rfl)
theorem qLi {X:Td} (hX:FrX X) (hn:X 4=none) {fabric0 l1 turn2 back3:AV} {K:KvP} {s:Hq} (h:qGs X fabric0 l1 turn2 back3 K s):wC Tryz.prog X 4 [fabric0,l1,turn2,back3] K s:=
 qAE hX qB5 hn Tryz.func4 (by kernel_rfl:Tryz.f4.body=some (qAU Tryz.f4)) (by kernel_rfl) ((qMG X fabric0 l1 turn2 back3 K s).mpr h)
theorem qL2 {fabric0 l1 turn2 back3:AV} {K:KvP} {s:Hq} (h:qGs XX fabric0 l1 turn2 back3 K s):wC Tryz.prog XX 4 [fabric0,l1,turn2,back3] K s:=qLi qAy rfl h
def qGe (X:Td)(l5 t10:AV) (I0:IvP) (m0:Nat) (K:KvP) (s:Hq):Prop:=
 oK (qAB .add t10 (.int .i64 1)) λv_14=>∃ m',m' < m0∧I0 [l5,v_14] s m'
def qLt (X:Td)(esi3 l5 t8 t9 t10:AV) (I0:IvP) (m0:Nat) (K:KvP) (s:Hq):Prop:=
 oK (qAB .lss t10 t9) λv_4=>qAL v_4
 (oK (qAH 38 t8 t10) λv_5=>oK (rdN s 38 v_5) λv_6=>newK 51 zR0 (λB7 S8=>oK (qAn S8 38 (.ptr B7 0) (.agg v_6)) λS9=>oK (rdN S9 38 (.ptr B7 0)) λv_10=>oK (rdN S9 10 esi3) λv_11=>wC Tryz.prog X 37 [(.agg v_10),(.agg v_11)] (λv_12 S13=>qAL v_12
 (oK (qAI 21 (.ptr B7 0)) λv_15=>oK (qAI 2 v_15) λv_16=>oK (rd1 S13 v_16) λv_17=>oK (qBO (repl 1 [(.int .u32 0)]) [(0,1,v_17)]) λC18=>qAY C18=true∧newK 33 C18 (λB19 S20=>appK 33 1 l5 (.slc B19 0 1 (some 1) 1) (λv_21 S22=>qGe X v_21 t10 I0 m0 K S22) S20) S13)
 (qGe X l5 t10 I0 m0 K S13)) S9) s)
 (wC Tryz.prog X 38 [l5] (λv_23 S24=>wC Tryz.prog X 39 [l5] (λv_25 S26=>K v_25 S26) S24) s)
def qP0 (X:Td)(routes0 esi1:AV) (K:KvP) (s:Hq):Prop:=
 boxK 27 esi1 (λB0 S1=>oK (qAS routes0) λv_2=>∃ I0:IvP,(∃ m,I0 [.nilslc,(.int .i64 0)] S1 m)∧∀ (f:Env) (s:Hq) (m0:Nat),I0 [f 5,f 10] s m0→
 qLt X B0 (f 5) routes0 (.int .i64 v_2) (f 10) I0 m0 K s) s
def qPX:Nat→List Nat:=λk=>cond (Nat.beq k 6) [5,10] ([])
theorem qRt {X:Td} (hX:FrX X) (hn:X 9=none) {routes0 esi1:AV} {K:KvP} {s:Hq} (h:qP0 X routes0 esi1 K s):wC Tryz.prog X 9 [routes0,esi1] K s:=
 qAE hX qPX hn Tryz.func9 (by kernel_rfl:Tryz.f9.body=some (qAU Tryz.f9)) (by kernel_rfl) (Eq.mpr (by kernel_rfl) h)
theorem qRT {routes0 esi1:AV} {K:KvP} {s:Hq} (h:qP0 XX routes0 esi1 K s):wC Tryz.prog XX 9 [routes0,esi1] K s:=qRt qAy rfl h
def zACi (X:Td)(t0:AV) (K:KvP) (s:Hq):Prop:=
 newK 27 [(.int .u8 0),(.int .u8 0),(.int .u8 0),(.int .u8 0),(.int .u8 0),(.int .u8 0),(.int .u8 0),(.int .u8 0),(.int .u8 0),(.int .u8 0)] (λB0 S1=>wC Tryz.prog X 40 [t0] (λv_2 S3=>oK (qAX v_2 0) λv_4=>oK (qAX v_2 1) λv_5=>newK 27 [(.int .u8 0),(.int .u8 0),(.int .u8 0),(.int .u8 0),(.int .u8 0),(.int .u8 0),(.int .u8 0),(.int .u8 0),(.int .u8 0),(.int .u8 0)] (λB6 S7=>oK (qAn S7 10 (.ptr B6 0) v_4) λS8=>oK (rdN S8 10 (.ptr B6 0)) λv_9=>oK (qAn S8 10 (.ptr B0 0) (.agg v_9)) λS10=>oK (rdN S10 10 (.ptr B0 0)) λt2_11=>K (.agg t2_11) S10) S3) S1) s
def qXV:Nat→List Nat:=λ_=>[]
theorem zAAL {X:Td} (hX:FrX X) (hn:X 11=none) {t0:AV} {K:KvP} {s:Hq} (h:zACi X t0 K s):wC Tryz.prog X 11 [t0] K s:=
 qAE hX qXV hn Tryz.func11 (by kernel_rfl:Tryz.f11.body=some (qAU Tryz.f11)) (by kernel_rfl) (Eq.mpr (by kernel_rfl) h)
theorem zAAI {t0:AV} {K:KvP} {s:Hq} (h:zACi XX t0 K s):wC Tryz.prog XX 11 [t0] K s:=zAAL qAy rfl h
def qT3 (X:Td)(n0:AV) (K:KvP) (s:Hq):Prop:=
 wC Tryz.prog X 41 [n0] (λv_0 S1=>oK (qAX v_0 0) λv_2=>oK (qAX v_0 1) λv_3=>K v_2 S1) s
def qTb:Nat→List Nat:=λ_=>[]
theorem qXW {X:Td} (hX:FrX X) (hn:X 14=none) {n0:AV} {K:KvP} {s:Hq} (h:qT3 X n0 K s):wC Tryz.prog X 14 [n0] K s:=
 qAE hX qTb hn Tryz.func14 (by kernel_rfl:Tryz.f14.body=some (qAU Tryz.f14)) (by kernel_rfl) (Eq.mpr (by kernel_rfl) h)
theorem qW3 {n0:AV} {K:KvP} {s:Hq} (h:qT3 XX n0 K s):wC Tryz.prog XX 14 [n0] K s:=qXW qAy rfl h
def qIN (X:Td)(t8 r9:AV) (K:KvP) (s:Hq):Prop:=
 oK (rdN s 38 r9) λv_16=>oK (qAn s 38 t8 (.agg v_16)) λS17=>oK (rdN S17 38 t8) λt8_18=>K (.agg t8_18) S17
def qVY (X:Td)(leaf0 t1 alg2 pref3:AV) (K:KvP) (s:Hq):Prop:=
 newK 51 zR0 (λB0 S1=>oK (qBf .u64 leaf0) λv_2=>wC Tryz.prog X 11 [t1] (λv_3 S4=>wC Tryz.prog X 14 [leaf0] (λv_5 S6=>oK (qBO [(.int .i64 0),(.int .u64 0),(.int .u8 0),(.int .u8 0),(.int .u8 0),(.int .u8 0),(.int .u8 0),(.int .u8 0),(.int .u8 0),(.int .u8 0),(.int .u8 0),(.int .u8 0),(.int .u32 0),(.int .u64 0),(.int .u32 0),(.bool false),(.int .u32 0),(.int .i64 0),(.int .u32 0),(.int .u32 0),(.int .u32 0)] [(0,1,(.int .i64 4)),(1,1,v_2),(2,10,v_3),(14,1,v_5),(15,1,(.bool true))]) λC7=>wC Tryz.prog X 14 [leaf0] (λv_8 S9=>oK (qBO [(.int .i64 0),.nilslc,(.int .u32 0),(.bool false),(.int .u32 0),(.bool false),(.int .u32 0),(.bool false),(.int .u32 0),.nilslc,.nilslc,(.int .i64 0),(.int .u32 0),(.int .u32 0),(.int .u32 0)] [(2,1,v_8)]) λC10=>oK (qBO zR0 [(0,21,(.agg C7)),(21,15,(.agg C10))]) λC11=>newK 51 zR0 (λB12 S13=>oK (qAn S13 38 (.ptr B12 0) (.agg C11)) λS14=>oK (qAB .geq alg2 (.int .i64 0)) λv_15=>qAL v_15
 (wC Tryz.prog X 42 [alg2,pref3] (λv_19 S20=>oK (qAX v_19 0) λv_21=>oK (qAX v_19 1) λv_22=>newK 104 [(.int .u8 0),(.int .u8 0),(.int .u8 0),(.int .u8 0),(.int .u8 0),(.int .u8 0),(.int .u8 0),(.int .u8 0)] (λB23 S24=>oK (qAn S24 8 (.ptr B23 0) v_21) λS25=>oK (rdN S25 8 (.ptr B23 0)) λv_26=>oK (qBO (repl 1 [(.int .u8 0),(.int .u8 0),(.int .u8 0),(.int .u8 0),(.int .u8 0),(.int .u8 0),(.int .u8 0),(.int .u8 0)]) [(0,8,(.agg v_26))]) λC27=>qAY C27=true∧newK 104 C27 (λB28 S29=>oK (qAI 21 (.ptr B12 0)) λv_30=>oK (qAI 10 v_30) λv_31=>oK (wr1 S29 v_31 (.slc B28 0 1 (some 1) 8)) λS32=>qIN X (.ptr B0 0) (.ptr B12 0) K S32) S25) S20) S14)
 (qIN X (.ptr B0 0) (.ptr B12 0) K S14)) S9) S6) S4) S1) s
def qR1:Nat→List Nat:=λ_=>[]
theorem qT5 {X:Td} (hX:FrX X) (hn:X 16=none) {leaf0 t1 alg2 pref3:AV} {K:KvP} {s:Hq} (h:qVY X leaf0 t1 alg2 pref3 K s):wC Tryz.prog X 16 [leaf0,t1,alg2,pref3] K s:=
 qAE hX qR1 hn Tryz.func16 (by kernel_rfl:Tryz.f16.body=some (qAU Tryz.f16)) (by kernel_rfl) (Eq.mpr (by kernel_rfl) h)
theorem qUl {leaf0 t1 alg2 pref3:AV} {K:KvP} {s:Hq} (h:qVY XX leaf0 t1 alg2 pref3 K s):wC Tryz.prog XX 16 [leaf0,t1,alg2,pref3] K s:=qT5 qAy rfl h
def qEC (X:Td)(a0 b1 i5:AV) (I0:IvP) (m0:Nat) (K:KvP) (s:Hq):Prop:=
 oK (qAS a0) λv_5=>oK (qAB .lss i5 (.int .i64 v_5)) λv_7=>qAL v_7
 (oK (qAH 12 a0 i5) λv_8=>oK (rdN s 12 v_8) λv_9=>oK (qAH 12 b1 i5) λv_10=>oK (rdN s 12 v_10) λv_11=>oK (negB true (qGQ Tryz.prog 56 (.agg v_9) (.agg v_11))) λv_12=>qAL v_12
 (K (.bool false) s)
 (oK (qAB .add i5 (.int .i64 1)) λv_13=>∃ m',m' < m0∧I0 [v_13] s m'))
 (K (.bool true) s)
def qDe (X:Td)(a0 b1:AV) (K:KvP) (s:Hq):Prop:=
 oK (qAS a0) λv_0=>oK (qAS b1) λv_2=>oK (negB true (eqV 0 false (.int .i64 v_0) (.int .i64 v_2))) λv_4=>qAL v_4
 (K (.bool false) s)
 (∃ I0:IvP,(∃ m,I0 [(.int .i64 0)] s m)∧∀ (f:Env) (s:Hq) (m0:Nat),I0 [f 5] s m0→
 qEC X a0 b1 (f 5) I0 m0 K s)
def qHK:Nat→List Nat:=λk=>cond (Nat.beq k 8) [5] ([])
theorem qHv {X:Td} (hX:FrX X) (hn:X 18=none) {a0 b1:AV} {K:KvP} {s:Hq} (h:qDe X a0 b1 K s):wC Tryz.prog X 18 [a0,b1] K s:=
 qAE hX qHK hn Tryz.func18 (by kernel_rfl:Tryz.f18.body=some (qAU Tryz.f18)) (by kernel_rfl) (Eq.mpr (by kernel_rfl) h)
theorem qHn {a0 b1:AV} {K:KvP} {s:Hq} (h:qDe XX a0 b1 K s):wC Tryz.prog XX 18 [a0,b1] K s:=qHv qAy rfl h
def qEU (X:Td)(own8 t32:AV) (I0:IvP) (m0:Nat) (K:KvP) (s:Hq):Prop:=
 oK (qAB .add t32 (.int .i64 1)) λv_21=>∃ m',m' < m0∧I0 [own8,v_21] s m'
def qEO (X:Td)(l11 t48:AV) (I2:IvP) (m2:Nat) (K:KvP) (s:Hq):Prop:=
 oK (qAB .add t48 (.int .i64 1)) λv_33=>∃ m',m' < m2∧I2 [l11,v_33] s m'
def qES (X:Td)(l11 t71:AV) (I4:IvP) (m4:Nat) (I2:IvP) (m2:Nat) (K:KvP) (s:Hq):Prop:=
 oK (qAB .add t71 (.int .i64 1)) λv_67=>∃ m',m' < m4∧I4 [l11,v_67] s m'
def qI2 (X:Td)(l11 esi14 candidates16 alg17 t48 t69 t70 t71:AV) (I4:IvP) (m4:Nat) (I2:IvP) (m2:Nat) (K:KvP) (s:Hq):Prop:=
 oK (qAB .lss t71 t70) λv_60=>qAL v_60
 (oK (qAH 1 t69 t71) λv_61=>oK (rd1 s v_61) λv_62=>wC Tryz.prog X 28 [alg17,candidates16,v_62] (λv_63 S64=>oK (qAX v_63 0) λv_65=>oK (qAX v_63 1) λv_66=>qAL v_66
 (oK (rdN S64 10 esi14) λv_68=>oK (qBO [(.int .u8 0),(.int .u8 0),(.int .u8 0),(.int .u8 0),(.int .u8 0),(.int .u8 0),(.int .u8 0),(.int .u8 0),(.int .u8 0),(.int .u8 0),(.int .i64 0),(.int .u32 0)] [(0,10,(.agg v_68)),(10,1,v_62),(11,1,v_65)]) λC69=>oK (qBO (repl 1 [(.int .u8 0),(.int .u8 0),(.int .u8 0),(.int .u8 0),(.int .u8 0),(.int .u8 0),(.int .u8 0),(.int .u8 0),(.int .u8 0),(.int .u8 0),(.int .i64 0),(.int .u32 0)]) [(0,12,(.agg C69))]) λC70=>qAY C70=true∧newK 56 C70 (λB71 S72=>appK 56 12 l11 (.slc B71 0 1 (some 1) 12) (λv_73 S74=>qES X v_73 t71 I4 m4 I2 m2 K S74) S72) S64)
 (qES X l11 t71 I4 m4 I2 m2 K S64)) s)
 (qEO X l11 t48 I2 m2 K s)
def qI4 (X:Td)(own8 l11 t46 t47 t48:AV) (I2:IvP) (m2:Nat) (K:KvP) (s:Hq):Prop:=
 oK (qAB .lss t48 t47) λv_32=>qAL v_32
 (oK (qAH 2 t46 t48) λv_34=>oK (rdN s 2 v_34) λv_35=>newK 93 [.nilslc,.nilslc] (λB36 S37=>oK (qAn S37 2 (.ptr B36 0) (.agg v_35)) λS38=>oK (qAI 0 (.ptr B36 0)) λv_39=>oK (rd1 S38 v_39) λv_40=>oK (qAS v_40) λv_41=>oK (qAB .lss (.int .i64 v_41) (.int .i64 2)) λv_43=>qAL v_43
 (qEO X l11 t48 I2 m2 K S38)
 (wC Tryz.prog X 40 [t48] (λv_44 S45=>oK (qAX v_44 0) λv_46=>oK (qAX v_44 1) λv_47=>newK 27 [(.int .u8 0),(.int .u8 0),(.int .u8 0),(.int .u8 0),(.int .u8 0),(.int .u8 0),(.int .u8 0),(.int .u8 0),(.int .u8 0),(.int .u8 0)] (λB48 S49=>oK (qAn S49 10 (.ptr B48 0) v_46) λS50=>oK (rdN S50 10 (.ptr B48 0)) λv_51=>wC Tryz.prog X 23 [own8,(.agg v_51)] (λv_52 S53=>oK (qAX v_52 0) λv_54=>oK (qAX v_52 1) λv_55=>oK (qAI 1 (.ptr B36 0)) λv_56=>oK (rd1 S53 v_56) λv_57=>oK (qAS v_57) λv_58=>∃ I4:IvP,(∃ m,I4 [l11,(.int .i64 0)] S53 m)∧∀ (f:Env) (s:Hq) (m4:Nat),I4 [f 11,f 71] s m4→
 qI2 X (f 11) (.ptr B48 0) v_54 v_55 t48 v_57 (.int .i64 v_58) (f 71) I4 m4 I2 m2 K s) S50) S45) S38)) s)
 (K l11 s)
def qI3 (X:Td)(t2 own8 t30 t31 t32:AV) (I0:IvP) (m0:Nat) (K:KvP) (s:Hq):Prop:=
 oK (qAB .lss t32 t31) λv_11=>qAL v_11
 (oK (qAH 38 t30 t32) λv_12=>oK (rdN s 38 v_12) λv_13=>newK 51 zR0 (λB14 S15=>oK (qAn S15 38 (.ptr B14 0) (.agg v_13)) λS16=>oK (qAI 0 (.ptr B14 0)) λv_17=>oK (qAI 0 v_17) λv_18=>oK (rd1 S16 v_18) λv_19=>oK (negB false (eqV 0 true v_19 (.int .i64 4))) λv_20=>qAL v_20
 (oK (rdN S16 38 (.ptr B14 0)) λv_22=>oK (qBO (repl 1 zR0) [(0,38,(.agg v_22))]) λC23=>qAY C23=true∧newK 51 C23 (λB24 S25=>appK 51 38 own8 (.slc B24 0 1 (some 1) 38) (λv_26 S27=>qEU X v_26 t32 I0 m0 K S27) S25) S16)
 (qEU X own8 t32 I0 m0 K S16)) s)
 (oK (qAI 5 t2) λv_28=>oK (rd1 s v_28) λv_29=>oK (qAS v_29) λv_30=>∃ I2:IvP,(∃ m,I2 [.nilslc,(.int .i64 0)] s m)∧∀ (f:Env) (s:Hq) (m2:Nat),I2 [f 11,f 48] s m2→
 qI4 X own8 (f 11) v_29 (.int .i64 v_30) (f 48) I2 m2 K s)
def qML (X:Td)(t0 routes1:AV) (K:KvP) (s:Hq):Prop:=
 boxK 68 t0 (λB0 S1=>oK (rdN S1 19 B0) λv_2=>wC Tryz.prog X 43 [(.agg v_2)] (λv_3 S4=>oK (qAX v_3 0) λv_5=>oK (qAX v_3 1) λv_6=>oK (qAX v_3 2) λv_7=>oK (negB true (eqV 0 true v_5 (.int .i64 0))) λv_8=>qAL v_8
 (K .nilslc S4)
 (oK (qAS routes1) λv_9=>∃ I0:IvP,(∃ m,I0 [.nilslc,(.int .i64 0)] S4 m)∧∀ (f:Env) (s:Hq) (m0:Nat),I0 [f 8,f 32] s m0→
 qI3 X B0 (f 8) routes1 (.int .i64 v_9) (f 32) I0 m0 K s)) S1) s
def qMv:Nat→List Nat:=λk=>cond (Nat.beq k 12) [8,32] (cond (Nat.beq k 26) [11,48] (cond (Nat.beq k 38) [11,71] ([])))
theorem qNn {X:Td} (hX:FrX X) (hn:X 19=none) {t0 routes1:AV} {K:KvP} {s:Hq} (h:qML X t0 routes1 K s):wC Tryz.prog X 19 [t0,routes1] K s:=
 qAE hX qMv hn Tryz.func19 (by kernel_rfl:Tryz.f19.body=some (qAU Tryz.f19)) (by kernel_rfl) (Eq.mpr (by kernel_rfl) h)
theorem qNX {t0 routes1:AV} {K:KvP} {s:Hq} (h:qML XX t0 routes1 K s):wC Tryz.prog XX 19 [t0,routes1] K s:=qNn qAy rfl h
def qJa (X:Td)(out3:AV) (K:KvP) (s:Hq):Prop:=
 K out3 s
def qHU (X:Td)(k8 t53 t64 t74:AV) (I4:IvP) (m4:Nat) (I2:IvP) (m2:Nat) (K:KvP) (s:Hq):Prop:=
 oK (qAc t64 (.bool true) t74) λv_40=>oK (qAc t53 v_40 (.bool false)) λv_41=>oK (qAB .add k8 (.int .i64 1)) λv_42=>∃ m',m' < m4∧I4 [v_41,v_42] s m'
def qHi (X:Td)(out3 i4:AV) (I2:IvP) (m2:Nat) (K:KvP) (s:Hq):Prop:=
 oK (qAB .add i4 (.int .i64 1)) λv_53=>∃ m',m' < m2∧I2 [out3,v_53] s m'
def qNK (X:Td)(out3 i4 r6 first7 k8:AV) (I4:IvP) (m4:Nat) (I2:IvP) (m2:Nat) (K:KvP) (s:Hq):Prop:=
 oK (qAS out3) λv_29=>oK (qAB .lss k8 (.int .i64 v_29)) λv_31=>qAL v_31
 (qAL first7
 (oK (qAH 38 out3 k8) λv_32=>oK (qAI 21 v_32) λv_33=>oK (qAI 2 v_33) λv_34=>oK (rd1 s v_34) λv_35=>oK (qAI 21 r6) λv_36=>oK (qAI 2 v_36) λv_37=>oK (rd1 s v_37) λv_38=>oK (negB true (eqV 0 false v_35 v_38)) λv_39=>qAL v_39
 (qHU X k8 first7 v_39 .undef I4 m4 I2 m2 K s)
 (oK (qAH 38 out3 k8) λv_43=>oK (qAI 0 v_43) λv_44=>oK (qAI 2 v_44) λv_45=>oK (rdN s 10 v_45) λv_46=>oK (qAI 0 r6) λv_47=>oK (qAI 2 v_47) λv_48=>oK (rdN s 10 v_48) λv_49=>oK (negB true (qGQ Tryz.prog 27 (.agg v_46) (.agg v_49))) λv_50=>qHU X k8 first7 v_39 v_50 I4 m4 I2 m2 K s))
 (oK (qAc first7 .undef (.bool false)) λv_51=>oK (qAB .add k8 (.int .i64 1)) λv_52=>∃ m',m' < m4∧I4 [v_51,v_52] s m'))
 (qAL first7
 (oK (rdN s 38 r6) λv_54=>oK (qBO (repl 1 zR0) [(0,38,(.agg v_54))]) λC55=>qAY C55=true∧newK 51 C55 (λB56 S57=>appK 51 38 out3 (.slc B56 0 1 (some 1) 38) (λv_58 S59=>qHi X v_58 i4 I2 m2 K S59) S57) s)
 (qHi X out3 i4 I2 m2 K s))
def qHZ (X:Td)(l0 out3 i4 alg5:AV) (I2:IvP) (m2:Nat) (K:KvP) (s:Hq):Prop:=
 oK (qAH 4 l0 i4) λv_9=>oK (qAI 0 v_9) λv_10=>oK (rd1 s v_10) λv_11=>wC Tryz.prog X 22 [v_11,(.int .i64 8)] (λv_12 S13=>(∀ b,s b≠none→s b=none→S13 b=none)→
 oK (qAH 4 l0 i4) λv_14=>oK (qAI 1 v_14) λv_15=>oK (rd1 (cutH [(s,(add s S13))] (add s S13)) v_15) λv_16=>wC Tryz.prog X 22 [v_16,(.int .i64 6)] (λv_17 S18=>(∀ b,(add s S13) b≠none→(add s S13) b=none→S18 b=none)→
 oK (qAH 4 l0 i4) λv_19=>oK (qAI 3 v_19) λv_20=>oK (rd1 (cutH [(s,(add s S13)),((add s S13),(add (add s S13) S18))] (add (add s S13) S18)) v_20) λv_21=>wC Tryz.prog X 22 [v_21,(.int .i64 65536)] (λv_22 S23=>(∀ b,(add (add s S13) S18) b≠none→(add (add s S13) S18) b=none→S23 b=none)→
 wC Tryz.prog X 16 [v_12,v_17,alg5,v_22] (λv_24 S25=>(∀ b,(add (add (add s S13) S18) S23) b≠none→(add (add (add s S13) S18) S23) b=none→S25 b=none)→
 newK 51 zR0 (λB26 S27=>(∀ b,(add (add (add (add s S13) S18) S23) S25) b≠none→(cutH [(s,(add s S13)),((add s S13),(add (add s S13) S18)),((add (add s S13) S18),(add (add (add s S13) S18) S23)),((add (add (add s S13) S18) S23),(add (add (add (add s S13) S18) S23) S25))] (add (add (add (add s S13) S18) S23) S25)) b=none→S27 b=none)→
 oK (qAn (add (add (add (add (add s S13) S18) S23) S25) S27) 38 (.ptr B26 0) v_24) λS28=>∃ I4:IvP,(∃ m,I4 [(.bool true),(.int .i64 0)] S28 m)∧∀ (f:Env) (s:Hq) (m4:Nat),I4 [f 7,f 8] s m4→
 qNK X out3 i4 (.ptr B26 0) (f 7) (f 8) I4 m4 I2 m2 K s) (frz (cutH [(s,(add s S13)),((add s S13),(add (add s S13) S18)),((add (add s S13) S18),(add (add (add s S13) S18) S23)),((add (add (add s S13) S18) S23),(add (add (add (add s S13) S18) S23) S25))] (add (add (add (add s S13) S18) S23) S25)))) (frz (add (add (add s S13) S18) S23))) (frz (add (add s S13) S18))) (frz (add s S13))) (frz s)
def qM0 (X:Td)(l0 out3 i4:AV) (I2:IvP) (m2:Nat) (K:KvP) (s:Hq):Prop:=
 oK (qAS l0) λv_0=>oK (qAB .lss i4 (.int .i64 v_0)) λv_2=>qAL v_2
 (oK (qAH 4 l0 i4) λv_3=>oK (qAI 2 v_3) λv_4=>oK (rd1 s v_4) λv_5=>wC Tryz.prog X 22 [v_5,(.int .i64 5)] (λv_6 S7=>oK (negB false (eqV 0 true v_6 (.int .i64 4))) λv_8=>qAL v_8
 (qHZ X l0 out3 i4 (.int .i64 (-1)) I2 m2 K S7)
 (qHZ X l0 out3 i4 v_6 I2 m2 K S7)) s)
 (qJa X out3 K s)
def qHc (X:Td)(l0 out3:AV) (K:KvP) (s:Hq):Prop:=
 ∃ I2:IvP,(∃ m,I2 [out3,(.int .i64 0)] s m)∧∀ (f:Env) (s:Hq) (m2:Nat),I2 [f 3,f 4] s m2→
 qM0 X l0 (f 3) (f 4) I2 m2 K s
def qMK (X:Td)(l0:AV) (K:KvP) (s:Hq):Prop:=
 oK (qAS l0) λv_60=>oK (qAB .gtr (.int .i64 v_60) (.int .i64 60)) λv_62=>qAL v_62
 (K .nilslc s)
 (qHc X l0 .nilslc K s)
def qGR:Nat→List Nat:=λk=>cond (Nat.beq k 10) [3,4] (cond (Nat.beq k 26) [7,8] ([]))
noncomputable def qJ0:Code:=qJd 3 (qAU Tryz.f21)
noncomputable def qST:Code:=qJd 1 qJ0
theorem qOp (X:Td)(K:KvP) (env:Env) (s:Hq):wpC Tryz.prog X qGR Tryz.f21.ntmps none qST env (λe env s=>retK e (resK Tryz.prog Tryz.f21.results.toList env (λvs=>K (oneV vs) s) s)) s=qJa X (env 3) K s:=by kernel_rfl
theorem qO1 (X:Td)(K:KvP) (env:Env) (s:Hq):wpC Tryz.prog X qGR Tryz.f21.ntmps none qJ0 env (λe env s=>retK e (resK Tryz.prog Tryz.f21.results.toList env (λvs=>K (oneV vs) s) s)) s=qHc X (env 0) (env 3) K s:=(qLG 1 (λenv s=>qJa X (env 3) K s) qJ0 (by kernel_rfl) (λenv s=>qOp X K env s) env s).trans (by kernel_rfl)
theorem qSi (X:Td)(l0:AV) (K:KvP) (s:Hq):wpC Tryz.prog X qGR Tryz.f21.ntmps none (qAU Tryz.f21) (qQt [l0]) (λe env s=>retK e (resK Tryz.prog Tryz.f21.results.toList env (λvs=>K (oneV vs) s) s)) s=qMK X l0 K s:=(qLG 3 (λenv s=>qHc X (env 0) (env 3) K s) (qAU Tryz.f21) (by kernel_rfl) (λenv s=>qO1 X K env s) _ s).trans (by kernel_rfl)
theorem qSH {X:Td} (hX:FrX X) (hn:X 21=none) {l0:AV} {K:KvP} {s:Hq} (h:qMK X l0 K s):wC Tryz.prog X 21 [l0] K s:=
 qAE hX qGR hn Tryz.func21 (by kernel_rfl:Tryz.f21.body=some (qAU Tryz.f21)) (by kernel_rfl) ((qSi X l0 K s).mpr h)
theorem qSm {l0:AV} {K:KvP} {s:Hq} (h:qMK XX l0 K s):wC Tryz.prog XX 21 [l0] K s:=qSH qAy rfl h
def qMl (X:Td)(x0:AV) (K:KvP) (s:Hq):Prop:=
 K x0 s
def qVA (X:Td)(x0 n1:AV) (K:KvP) (s:Hq):Prop:=
 oK (qAB .rem x0 n1) λv_0=>oK (qAB .lss v_0 (.int .i64 0)) λv_1=>qAL v_1
 (oK (qAB .add v_0 n1) λv_2=>qMl X v_2 K s)
 (qMl X v_0 K s)
def qTc:Nat→List Nat:=λ_=>[]
theorem qWO {X:Td} (hX:FrX X) (hn:X 22=none) {x0 n1:AV} {K:KvP} {s:Hq} (h:qVA X x0 n1 K s):wC Tryz.prog X 22 [x0,n1] K s:=
 qAE hX qTc hn Tryz.func22 (by kernel_rfl:Tryz.f22.body=some (qAU Tryz.f22)) (by kernel_rfl) (Eq.mpr (by kernel_rfl) h)
theorem qWy {x0 n1:AV} {K:KvP} {s:Hq} (h:qVA XX x0 n1 K s):wC Tryz.prog XX 22 [x0,n1] K s:=qWO qAy rfl h
end Go.AM
namespace Go.AM
open Go Go.Proofs
set_option maxRecDepth 100000
def qET (X:Td)(l6 alg7 agreed8 t16:AV) (I0:IvP) (m0:Nat) (K:KvP) (s:Hq):Prop:=
 oK (qAB .add t16 (.int .i64 1)) λv_5=>∃ m',m' < m0∧I0 [l6,alg7,agreed8,v_5] s m'
def qEQ (X:Td)(l6 alg7 r10 pref12 t16 t40 t43:AV) (I0:IvP) (m0:Nat) (K:KvP) (s:Hq):Prop:=
 oK (qAc t40 t43 (.bool false)) λv_28=>oK (qAI 21 r10) λv_29=>oK (qAI 2 v_29) λv_30=>oK (rd1 s v_30) λv_31=>oK (qBO [(.int .u32 0),(.int .i64 0)] [(0,1,v_31),(1,1,pref12)]) λC32=>oK (qBO (repl 1 [(.int .u32 0),(.int .i64 0)]) [(0,2,(.agg C32))]) λC33=>qAY C33=true∧newK 36 C33 (λB34 S35=>appK 36 2 l6 (.slc B34 0 1 (some 1) 2) (λv_36 S37=>qET X v_36 alg7 v_28 t16 I0 m0 K S37) S35) s
def qDT (X:Td)(l6 alg7 r10 a11 pref12 t16 t37 t38:AV) (I0:IvP) (m0:Nat) (K:KvP) (s:Hq):Prop:=
 oK (qAc t37 t38 (.bool false)) λv_27=>qAL v_27
 (oK (negB false (eqV 0 false a11 alg7)) λv_38=>qEQ X l6 alg7 r10 pref12 t16 v_27 v_38 I0 m0 K s)
 (qEQ X l6 alg7 r10 pref12 t16 v_27 .undef I0 m0 K s)
def qCq (X:Td)(l6 alg7 agreed8 r10 a11 pref12 found13 t16:AV) (I0:IvP) (m0:Nat) (K:KvP) (s:Hq):Prop:=
 qAL agreed8
 (qDT X l6 alg7 r10 a11 pref12 t16 agreed8 found13 I0 m0 K s)
 (qDT X l6 alg7 r10 a11 pref12 t16 agreed8 .undef I0 m0 K s)
def qGG (X:Td)(l6 alg7:AV) (K:KvP) (s:Hq):Prop:=
 K (.tup [l6,alg7]) s
def qEV (X:Td)(l6 alg7 t64 t68:AV) (K:KvP) (s:Hq):Prop:=
 oK (qAc t64 (.bool true) t68) λv_45=>qAL v_45
 (qGG X l6 (.int .i64 0) K s)
 (qGG X l6 alg7 K s)
def qER (X:Td)(l6 alg7 t60 t62:AV) (K:KvP) (s:Hq):Prop:=
 oK (qAc t60 (.bool true) t62) λv_44=>qAL v_44
 (qEV X l6 alg7 v_44 .undef K s)
 (wC Tryz.prog X 50 [] (λv_46 S47=>oK (qAB .geq alg7 (.int .i64 3)) λv_48=>qEV X l6 alg7 v_44 v_48 K S47) s)
def qI7 (X:Td)(esi3 l6 alg7 agreed8 t14 t15 t16:AV) (I0:IvP) (m0:Nat) (K:KvP) (s:Hq):Prop:=
 oK (qAB .lss t16 t15) λv_4=>qAL v_4
 (oK (qAH 38 t14 t16) λv_6=>oK (rdN s 38 v_6) λv_7=>newK 51 zR0 (λB8 S9=>oK (qAn S9 38 (.ptr B8 0) (.agg v_7)) λS10=>oK (rdN S10 38 (.ptr B8 0)) λv_11=>oK (rdN S10 10 esi3) λv_12=>wC Tryz.prog X 37 [(.agg v_11),(.agg v_12)] (λv_13 S14=>oK (qBm .not v_13) λv_15=>qAL v_15
 (qET X l6 alg7 agreed8 t16 I0 m0 K S14)
 (oK (qAI 21 (.ptr B8 0)) λv_16=>oK (qAI 10 v_16) λv_17=>oK (rd1 S14 v_17) λv_18=>wC Tryz.prog X 44 [v_18] (λv_19 S20=>oK (qAX v_19 0) λv_21=>oK (qAX v_19 1) λv_22=>oK (qAX v_19 2) λv_23=>oK (qAS l6) λv_24=>oK (negB false (eqV 0 true (.int .i64 v_24) (.int .i64 0))) λv_26=>qAL v_26
 (qCq X l6 v_21 agreed8 (.ptr B8 0) v_21 v_22 v_23 t16 I0 m0 K S20)
 (qCq X l6 alg7 agreed8 (.ptr B8 0) v_21 v_22 v_23 t16 I0 m0 K S20)) S14)) S10) s)
 (wC Tryz.prog X 45 [l6,(.fn (.func 46) [] [])] (λv_39 S40=>wC Tryz.prog X 48 [l6,(.fn (.func 49) [] [])] (λv_41 S42=>oK (qBm .not agreed8) λv_43=>qAL v_43
 (qER X v_41 alg7 v_43 .undef K S42)
 (oK (qAB .lss alg7 (.int .i64 0)) λv_49=>qER X v_41 alg7 v_43 v_49 K S42)) S40) s)
def qLx (X:Td)(routes0 esi1:AV) (K:KvP) (s:Hq):Prop:=
 boxK 27 esi1 (λB0 S1=>oK (qAS routes0) λv_2=>∃ I0:IvP,(∃ m,I0 [.nilslc,(.int .i64 0),(.bool true),(.int .i64 0)] S1 m)∧∀ (f:Env) (s:Hq) (m0:Nat),I0 [f 6,f 7,f 8,f 16] s m0→
 qI7 X B0 (f 6) (f 7) (f 8) routes0 (.int .i64 v_2) (f 16) I0 m0 K s) s
def qMi:Nat→List Nat:=λk=>cond (Nat.beq k 8) [6,7,8,16] ([])
theorem qNg {X:Td} (hX:FrX X) (hn:X 23=none) {routes0 esi1:AV} {K:KvP} {s:Hq} (h:qLx X routes0 esi1 K s):wC Tryz.prog X 23 [routes0,esi1] K s:=
 qAE hX qMi hn Tryz.func23 (by kernel_rfl:Tryz.f23.body=some (qAU Tryz.f23)) (by kernel_rfl) (Eq.mpr (by kernel_rfl) h)
theorem qNl {routes0 esi1:AV} {K:KvP} {s:Hq} (h:qLx XX routes0 esi1 K s):wC Tryz.prog XX 23 [routes0,esi1] K s:=qNg qAy rfl h
def qEL (X:Td)(a0 b1 i5:AV) (I0:IvP) (m0:Nat) (K:KvP) (s:Hq):Prop:=
 oK (qAS a0) λv_5=>oK (qAB .lss i5 (.int .i64 v_5)) λv_7=>qAL v_7
 (oK (qAH 2 a0 i5) λv_8=>oK (rdN s 2 v_8) λv_9=>oK (qAH 2 b1 i5) λv_10=>oK (rdN s 2 v_10) λv_11=>oK (negB true (qGQ Tryz.prog 36 (.agg v_9) (.agg v_11))) λv_12=>qAL v_12
 (K (.bool false) s)
 (oK (qAB .add i5 (.int .i64 1)) λv_13=>∃ m',m' < m0∧I0 [v_13] s m'))
 (K (.bool true) s)
def qDa (X:Td)(a0 b1:AV) (K:KvP) (s:Hq):Prop:=
 oK (qAS a0) λv_0=>oK (qAS b1) λv_2=>oK (negB true (eqV 0 false (.int .i64 v_0) (.int .i64 v_2))) λv_4=>qAL v_4
 (K (.bool false) s)
 (∃ I0:IvP,(∃ m,I0 [(.int .i64 0)] s m)∧∀ (f:Env) (s:Hq) (m0:Nat),I0 [f 5] s m0→
 qEL X a0 b1 (f 5) I0 m0 K s)
def qHL:Nat→List Nat:=λk=>cond (Nat.beq k 8) [5] ([])
theorem qHw {X:Td} (hX:FrX X) (hn:X 24=none) {a0 b1:AV} {K:KvP} {s:Hq} (h:qDa X a0 b1 K s):wC Tryz.prog X 24 [a0,b1] K s:=
 qAE hX qHL hn Tryz.func24 (by kernel_rfl:Tryz.f24.body=some (qAU Tryz.f24)) (by kernel_rfl) (Eq.mpr (by kernel_rfl) h)
theorem qHm {a0 b1:AV} {K:KvP} {s:Hq} (h:qDa XX a0 b1 K s):wC Tryz.prog XX 24 [a0,b1] K s:=qHw qAy rfl h
def qHO (X:Td)(a0 b1 i5:AV) (I0:IvP) (m0:Nat) (K:KvP) (s:Hq):Prop:=
 oK (qAS a0) λv_5=>oK (qAB .lss i5 (.int .i64 v_5)) λv_7=>qAL v_7
 (oK (qAH 1 a0 i5) λv_8=>oK (rd1 s v_8) λv_9=>oK (qAH 1 b1 i5) λv_10=>oK (rd1 s v_10) λv_11=>oK (negB true (eqV 0 false v_9 v_11)) λv_12=>qAL v_12
 (K (.bool false) s)
 (oK (qAB .add i5 (.int .i64 1)) λv_13=>∃ m',m' < m0∧I0 [v_13] s m'))
 (K (.bool true) s)
def qG7 (X:Td)(a0 b1:AV) (K:KvP) (s:Hq):Prop:=
 oK (qAS a0) λv_0=>oK (qAS b1) λv_2=>oK (negB true (eqV 0 false (.int .i64 v_0) (.int .i64 v_2))) λv_4=>qAL v_4
 (K (.bool false) s)
 (∃ I0:IvP,(∃ m,I0 [(.int .i64 0)] s m)∧∀ (f:Env) (s:Hq) (m0:Nat),I0 [f 5] s m0→
 qHO X a0 b1 (f 5) I0 m0 K s)
def qK2:Nat→List Nat:=λk=>cond (Nat.beq k 8) [5] ([])
theorem qLn {X:Td} (hX:FrX X) (hn:X 25=none) {a0 b1:AV} {K:KvP} {s:Hq} (h:qG7 X a0 b1 K s):wC Tryz.prog X 25 [a0,b1] K s:=
 qAE hX qK2 hn Tryz.func25 (by kernel_rfl:Tryz.f25.body=some (qAU Tryz.f25)) (by kernel_rfl) (Eq.mpr (by kernel_rfl) h)
theorem qL1 {a0 b1:AV} {K:KvP} {s:Hq} (h:qG7 XX a0 b1 K s):wC Tryz.prog XX 25 [a0,b1] K s:=qLn qAy rfl h
def qN5 (X:Td)(alg0 l1 bd2 table8 i9:AV) (I3:IvP) (m3:Nat) (K:KvP) (s:Hq):Prop:=
 oK (qAS l1) λv_11=>oK (qAB .lss i9 (.int .i64 v_11)) λv_13=>qAL v_13
 (oK (qAH 2 l1 i9) λv_14=>oK (qAI 0 v_14) λv_15=>oK (rd1 s v_15) λv_16=>oK (qAB .sub i9 (.int .i64 1)) λv_17=>oK (qAH 2 l1 v_17) λv_18=>oK (qAI 0 v_18) λv_19=>oK (rd1 s v_19) λv_20=>oK (qAB .leq v_16 v_20) λv_21=>qAL v_21
 (K (.tup [(.int .u32 0),(.bool false)]) s)
 (oK (qAB .add i9 (.int .i64 1)) λv_22=>∃ m',m' < m3∧I3 [v_22] s m'))
 (oK (qHA 3 1 table8 alg0) λv_23=>oK (rd1 s v_23) λv_24=>funK Tryz.prog X v_24 [l1,bd2] (λv_25 S26=>oK (qVU none 0 v_25) λv_27=>K (.tup [v_27,(.bool true)]) S26) s)
def qG3 (X:Td)(alg0 l1 bd2 table8 t22 t24:AV) (K:KvP) (s:Hq):Prop:=
 oK (qAc t22 (.bool true) t24) λv_10=>qAL v_10
 (K (.tup [(.int .u32 0),(.bool false)]) s)
 (∃ I3:IvP,(∃ m,I3 [(.int .i64 1)] s m)∧∀ (f:Env) (s:Hq) (m3:Nat),I3 [f 9] s m3→
 qN5 X alg0 l1 bd2 table8 (f 9) I3 m3 K s)
def qG8 (X:Td)(alg0 l1 bd2 table8 t18 t20:AV) (K:KvP) (s:Hq):Prop:=
 oK (qAc t18 (.bool true) t20) λv_9=>qAL v_9
 (qG3 X alg0 l1 bd2 table8 v_9 .undef K s)
 (oK (qAB .lss bd2 (.int .i64 0)) λv_28=>qG3 X alg0 l1 bd2 table8 v_9 v_28 K s)
def qGv (X:Td)(alg0 l1 bd2 table8 t14 t16:AV) (K:KvP) (s:Hq):Prop:=
 oK (qAc t14 (.bool true) t16) λv_8=>qAL v_8
 (qG8 X alg0 l1 bd2 table8 v_8 .undef K s)
 (oK (qAB .geq alg0 (.int .i64 3)) λv_29=>qG8 X alg0 l1 bd2 table8 v_8 v_29 K s)
def qVb (X:Td)(alg0 l1 bd2:AV) (K:KvP) (s:Hq):Prop:=
 wC Tryz.prog X 50 [] (λv_0 S1=>newK 126 [.nilFunc,.nilFunc,.nilFunc] (λB2 S3=>oK (qAn S3 3 (.ptr B2 0) v_0) λS4=>oK (qAS l1) λv_5=>oK (negB false (eqV 0 true (.int .i64 v_5) (.int .i64 0))) λv_7=>qAL v_7
 (qGv X alg0 l1 bd2 (.ptr B2 0) v_7 .undef K S4)
 (oK (qAB .lss alg0 (.int .i64 0)) λv_30=>qGv X alg0 l1 bd2 (.ptr B2 0) v_7 v_30 K S4)) S1) s
def qTW:Nat→List Nat:=λk=>cond (Nat.beq k 10) [9] ([])
theorem qUx {X:Td} (hX:FrX X) (hn:X 28=none) {alg0 l1 bd2:AV} {K:KvP} {s:Hq} (h:qVb X alg0 l1 bd2 K s):wC Tryz.prog X 28 [alg0,l1,bd2] K s:=
 qAE hX qTW hn Tryz.func28 (by kernel_rfl:Tryz.f28.body=some (qAU Tryz.f28)) (by kernel_rfl) (Eq.mpr (by kernel_rfl) h)
theorem qUe {alg0 l1 bd2:AV} {K:KvP} {s:Hq} (h:qVb XX alg0 l1 bd2 K s):wC Tryz.prog XX 28 [alg0,l1,bd2] K s:=qUx qAy rfl h
def qIp (X:Td)(t9 t14:AV) (K:KvP) (s:Hq):Prop:=
 oK (qAc t9 t14 (.bool false)) λv_8=>K v_8 s
def qVT (X:Td)(r0 esi1:AV) (K:KvP) (s:Hq):Prop:=
 boxK 51 r0 (λB0 S1=>boxK 27 esi1 (λB2 S3=>oK (qAI 0 B0) λv_4=>oK (qAI 0 v_4) λv_5=>oK (rd1 S3 v_5) λv_6=>oK (negB false (eqV 0 true v_6 (.int .i64 4))) λv_7=>qAL v_7
 (oK (qAI 0 B0) λv_9=>oK (qAI 2 v_9) λv_10=>oK (rdN S3 10 v_10) λv_11=>oK (rdN S3 10 B2) λv_12=>oK (negB false (qGQ Tryz.prog 27 (.agg v_11) (.agg v_12))) λv_13=>qIp X v_7 v_13 K S3)
 (qIp X v_7 .undef K S3)) S1) s
def qSY:Nat→List Nat:=λ_=>[]
theorem qUw {X:Td} (hX:FrX X) (hn:X 37=none) {r0 esi1:AV} {K:KvP} {s:Hq} (h:qVT X r0 esi1 K s):wC Tryz.prog X 37 [r0,esi1] K s:=
 qAE hX qSY hn Tryz.func37 (by kernel_rfl:Tryz.f37.body=some (qAU Tryz.f37)) (by kernel_rfl) (Eq.mpr (by kernel_rfl) h)
theorem qUQ {r0 esi1:AV} {K:KvP} {s:Hq} (h:qVT XX r0 esi1 K s):wC Tryz.prog XX 37 [r0,esi1] K s:=qUw qAy rfl h
def qCJ (X:Td)(x0:AV) (K:KvP) (s:Hq):Prop:=
 oK (qAS x0) λv_0=>oK (qBf .u64 (.int .i64 v_0)) λv_2=>wC Tryz.prog X 67 [v_2] (λv_3 S4=>wC Tryz.prog X 66 [x0,(.int .i64 0),(.int .i64 v_0),v_3] (λv_5 S6=>K (.tup []) S6) S4) s
def qGX:Nat→List Nat:=λ_=>[]
theorem qHE {X:Td} (hX:FrX X) (hn:X 38=none) {x0:AV} {K:KvP} {s:Hq} (h:qCJ X x0 K s):wC Tryz.prog X 38 [x0] K s:=
 qAE hX qGX hn Tryz.func38 (by kernel_rfl:Tryz.f38.body=some (qAU Tryz.f38)) (by kernel_rfl) (Eq.mpr (by kernel_rfl) h)
theorem qDt {x0:AV} {K:KvP} {s:Hq} (h:qCJ XX x0 K s):wC Tryz.prog XX 38 [x0] K s:=qHE qAy rfl h
def qBR (X:Td)(k3 k25:AV) (I1:IvP) (m1:Nat) (I0:IvP) (m0:Nat) (K:KvP) (s:Hq):Prop:=
 oK (qAB .add k25 (.int .i64 1)) λv_22=>∃ m',m' < m1∧I1 [k3,v_22] s m'
def qDG (X:Td)(t0 k3 s24 k25:AV) (I1:IvP) (m1:Nat) (I0:IvP) (m0:Nat) (K:KvP) (s:Hq):Prop:=
 oK (qAS s24) λv_13=>oK (qAB .lss k25 (.int .i64 v_13)) λv_15=>qAL v_15
 (oK (qAH 1 s24 k25) λv_16=>oK (rd1 s v_16) λv_17=>oK (qAB .sub k25 (.int .i64 1)) λv_18=>oK (qAH 1 s24 v_18) λv_19=>oK (rd1 s v_19) λv_20=>oK (negB true (eqV 0 false v_17 v_20)) λv_21=>qAL v_21
 (oK (qAH 1 s24 k25) λv_23=>oK (rd1 s v_23) λv_24=>oK (qAH 1 t0 k3) λv_25=>oK (wr1 s v_25 v_24) λS26=>oK (qAB .add k3 (.int .i64 1)) λv_27=>qBR X v_27 k25 I1 m1 I0 m0 K S26)
 (qBR X k3 k25 I1 m1 I0 m0 K s))
 (oK (qCT 1 t0 (some k3) none none) λv_28=>qNH [(.int .u32 0)] 1 v_28 (λv_29 S30=>oK (qCT 1 t0 none (some k3) none) λv_31=>K v_31 S30) s)
def qDC (X:Td)(t0 k3:AV) (I0:IvP) (m0:Nat) (K:KvP) (s:Hq):Prop:=
 oK (qAS t0) λv_3=>oK (qAB .lss k3 (.int .i64 v_3)) λv_5=>qAL v_5
 (oK (qAH 1 t0 k3) λv_6=>oK (rd1 s v_6) λv_7=>oK (qAB .sub k3 (.int .i64 1)) λv_8=>oK (qAH 1 t0 v_8) λv_9=>oK (rd1 s v_9) λv_10=>oK (negB false (eqV 0 false v_7 v_10)) λv_11=>qAL v_11
 (oK (qCT 1 t0 (some k3) none none) λv_12=>∃ I1:IvP,(∃ m,I1 [k3,(.int .i64 1)] s m)∧∀ (f:Env) (s:Hq) (m1:Nat),I1 [f 3,f 5] s m1→
 qDG X t0 (f 3) v_12 (f 5) I1 m1 I0 m0 K s)
 (oK (qAB .add k3 (.int .i64 1)) λv_32=>∃ m',m' < m0∧I0 [v_32] s m'))
 (K t0 s)
def qCY (X:Td)(t0:AV) (K:KvP) (s:Hq):Prop:=
 oK (qAS t0) λv_0=>oK (qAB .lss (.int .i64 v_0) (.int .i64 2)) λv_2=>qAL v_2
 (K t0 s)
 (∃ I0:IvP,(∃ m,I0 [(.int .i64 1)] s m)∧∀ (f:Env) (s:Hq) (m0:Nat),I0 [f 3] s m0→
 qDC X t0 (f 3) I0 m0 K s)
def qFa:Nat→List Nat:=λk=>cond (Nat.beq k 8) [3] (cond (Nat.beq k 18) [3,5] ([]))
theorem qFw {X:Td} (hX:FrX X) (hn:X 39=none) {t0:AV} {K:KvP} {s:Hq} (h:qCY X t0 K s):wC Tryz.prog X 39 [t0] K s:=
 qAE hX qFa hn Tryz.func39 (by kernel_rfl:Tryz.f39.body=some (qAU Tryz.f39)) (by kernel_rfl) (Eq.mpr (by kernel_rfl) h)
theorem qFp {t0:AV} {K:KvP} {s:Hq} (h:qCY XX t0 K s):wC Tryz.prog XX 39 [t0] K s:=qFw qAy rfl h
def qDq (X:Td)(t0 t2 t6 t8:AV) (K:KvP) (s:Hq):Prop:=
 oK (qAc t6 (.bool true) t8) λv_3=>qAL v_3
 (oK (qBO [(.int .u8 0),(.int .u8 0),(.int .u8 0),(.int .u8 0),(.int .u8 0),(.int .u8 0),(.int .u8 0),(.int .u8 0),(.int .u8 0),(.int .u8 0)] []) λC4=>oK (qAn s 10 t2 (.agg C4)) λS5=>oK (rdN S5 10 t2) λt2_6=>K (.tup [(.agg t2_6),(.int .i64 2)]) S5)
 (oK (qAB .add t0 (.int .i64 1)) λv_7=>oK (qBf .u8 v_7) λv_8=>oK (qBO [(.int .u8 0),(.int .u8 0),(.int .u8 0),(.int .u8 0),(.int .u8 0),(.int .u8 0),(.int .u8 0),(.int .u8 0),(.int .u8 0),(.int .u8 0)] [(0,1,(.int .u8 3)),(9,1,v_8)]) λC9=>oK (qAn s 10 t2 (.agg C9)) λS10=>oK (rdN S10 10 t2) λt2_11=>K (.tup [(.agg t2_11),(.int .i64 0)]) S10)
def qHj (X:Td)(t0:AV) (K:KvP) (s:Hq):Prop:=
 newK 27 [(.int .u8 0),(.int .u8 0),(.int .u8 0),(.int .u8 0),(.int .u8 0),(.int .u8 0),(.int .u8 0),(.int .u8 0),(.int .u8 0),(.int .u8 0)] (λB0 S1=>oK (qAB .lss t0 (.int .i64 0)) λv_2=>qAL v_2
 (qDq X t0 (.ptr B0 0) v_2 .undef K S1)
 (oK (qAB .geq t0 (.int .i64 64)) λv_12=>qDq X t0 (.ptr B0 0) v_2 v_12 K S1)) s
def qJD:Nat→List Nat:=λ_=>[]
theorem qJN {X:Td} (hX:FrX X) (hn:X 40=none) {t0:AV} {K:KvP} {s:Hq} (h:qHj X t0 K s):wC Tryz.prog X 40 [t0] K s:=
 qAE hX qJD hn Tryz.func40 (by kernel_rfl:Tryz.f40.body=some (qAU Tryz.f40)) (by kernel_rfl) (Eq.mpr (by kernel_rfl) h)
theorem qJR {t0:AV} {K:KvP} {s:Hq} (h:qHj XX t0 K s):wC Tryz.prog XX 40 [t0] K s:=qJN qAy rfl h
def qEn (X:Td)(n0 t6 t8:AV) (K:KvP) (s:Hq):Prop:=
 oK (qAc t6 (.bool true) t8) λv_1=>qAL v_1
 (K (.tup [(.int .u32 0),(.int .i64 2)]) s)
 (oK (qBf .u32 n0) λv_2=>oK (qAB .add (.int .u32 184483840) v_2) λv_3=>oK (qAB .add v_3 (.int .u32 1)) λv_4=>K (.tup [v_4,(.int .i64 0)]) s)
def qF3 (X:Td)(n0:AV) (K:KvP) (s:Hq):Prop:=
 oK (qAB .lss n0 (.int .i64 0)) λv_0=>qAL v_0
 (qEn X n0 v_0 .undef K s)
 (oK (qAB .geq n0 (.int .i64 32)) λv_5=>qEn X n0 v_0 v_5 K s)
def qKo:Nat→List Nat:=λ_=>[]
theorem qLF {X:Td} (hX:FrX X) (hn:X 41=none) {n0:AV} {K:KvP} {s:Hq} (h:qF3 X n0 K s):wC Tryz.prog X 41 [n0] K s:=
 qAE hX qKo hn Tryz.func41 (by kernel_rfl:Tryz.f41.body=some (qAU Tryz.f41)) (by kernel_rfl) (Eq.mpr (by kernel_rfl) h)
theorem qLK {n0:AV} {K:KvP} {s:Hq} (h:qF3 XX n0 K s):wC Tryz.prog XX 41 [n0] K s:=qLF qAy rfl h
def qEi (X:Td)(alg0 pref1 t4 t16 t18:AV) (K:KvP) (s:Hq):Prop:=
 oK (qAc t16 (.bool true) t18) λv_5=>qAL v_5
 (oK (qBO [(.int .u8 0),(.int .u8 0),(.int .u8 0),(.int .u8 0),(.int .u8 0),(.int .u8 0),(.int .u8 0),(.int .u8 0)] []) λC6=>oK (qAn s 8 t4 (.agg C6)) λS7=>oK (rdN S7 8 t4) λt4_8=>K (.tup [(.agg t4_8),(.int .i64 2)]) S7)
 (oK (qBf .u64 alg0) λv_9=>oK (qBO [(.int .i64 0),(.int .u64 0)] [(0,1,(.int .i64 1)),(1,1,v_9)]) λC10=>oK (qBO [(.int .i64 0),(.int .u64 0)] [(0,1,(.int .i64 3)),(1,1,(.int .u64 0))]) λC11=>oK (qBf .u64 pref1) λv_12=>oK (qBO [(.int .i64 0),(.int .u64 0)] [(0,1,(.int .i64 2)),(1,1,v_12)]) λC13=>oK (qBO (repl 3 [(.int .i64 0),(.int .u64 0)]) [(0,2,(.agg C10)),(2,2,(.agg C11)),(4,2,(.agg C13))]) λC14=>qAY C14=true∧newK 148 C14 (λB15 S16=>wC Tryz.prog X 68 [(.int .i64 7),(.slc B15 0 3 (some 3) 2)] (λv_17 S18=>oK (qAn S18 8 t4 v_17) λS19=>oK (rdN S19 8 t4) λt4_20=>K (.tup [(.agg t4_20),(.int .i64 0)]) S19) S16) s)
def qEd (X:Td)(alg0 pref1 t4 t12 t14:AV) (K:KvP) (s:Hq):Prop:=
 oK (qAc t12 (.bool true) t14) λv_4=>qAL v_4
 (qEi X alg0 pref1 t4 v_4 .undef K s)
 (oK (qAB .gtr pref1 (.int .i64 65535)) λv_21=>qEi X alg0 pref1 t4 v_4 v_21 K s)
def qEX (X:Td)(alg0 pref1 t4 t8 t10:AV) (K:KvP) (s:Hq):Prop:=
 oK (qAc t8 (.bool true) t10) λv_3=>qAL v_3
 (qEd X alg0 pref1 t4 v_3 .undef K s)
 (oK (qAB .lss pref1 (.int .i64 0)) λv_22=>qEd X alg0 pref1 t4 v_3 v_22 K s)
def qIy (X:Td)(alg0 pref1:AV) (K:KvP) (s:Hq):Prop:=
 newK 104 [(.int .u8 0),(.int .u8 0),(.int .u8 0),(.int .u8 0),(.int .u8 0),(.int .u8 0),(.int .u8 0),(.int .u8 0)] (λB0 S1=>oK (qAB .lss alg0 (.int .i64 0)) λv_2=>qAL v_2
 (qEX X alg0 pref1 (.ptr B0 0) v_2 .undef K S1)
 (oK (qAB .gtr alg0 (.int .i64 31)) λv_23=>qEX X alg0 pref1 (.ptr B0 0) v_2 v_23 K S1)) s
def qKj:Nat→List Nat:=λ_=>[]
theorem qLE {X:Td} (hX:FrX X) (hn:X 42=none) {alg0 pref1:AV} {K:KvP} {s:Hq} (h:qIy X alg0 pref1 K s):wC Tryz.prog X 42 [alg0,pref1] K s:=
 qAE hX qKj hn Tryz.func42 (by kernel_rfl:Tryz.f42.body=some (qAU Tryz.f42)) (by kernel_rfl) (Eq.mpr (by kernel_rfl) h)
theorem qLC {alg0 pref1:AV} {K:KvP} {s:Hq} (h:qIy XX alg0 pref1 K s):wC Tryz.prog XX 42 [alg0,pref1] K s:=qLE qAy rfl h
def qHk (X:Td)(l0:AV) (K:KvP) (s:Hq):Prop:=
 newK 3 [(.int .i64 0)] (λB0 S1=>wC Tryz.prog X 71 [l0,(.int .i64 7),(.fn (.func 72) [] [(.ptr B0 0)])] (λv_2 S3=>oK (qAX v_2 0) λv_4=>oK (qAX v_2 1) λv_5=>oK (rd1 S3 (.ptr B0 0)) λv_6=>oK (wr1 S3 (.ptr B0 0) v_6) λS7=>oK (rd1 S7 (.ptr B0 0)) λpref3_8=>K (.tup [v_4,pref3_8,v_5]) S7) S1) s
def qJB:Nat→List Nat:=λ_=>[]
theorem qJK {X:Td} (hX:FrX X) (hn:X 44=none) {l0:AV} {K:KvP} {s:Hq} (h:qHk X l0 K s):wC Tryz.prog X 44 [l0] K s:=
 qAE hX qJB hn Tryz.func44 (by kernel_rfl:Tryz.f44.body=some (qAU Tryz.f44)) (by kernel_rfl) (Eq.mpr (by kernel_rfl) h)
theorem qJY {l0:AV} {K:KvP} {s:Hq} (h:qHk XX l0 K s):wC Tryz.prog XX 44 [l0] K s:=qJK qAy rfl h
def qAx (X:Td)(x0 cmp1:AV) (K:KvP) (s:Hq):Prop:=
 oK (qAS x0) λv_0=>wC Tryz.prog X 74 [x0,(.int .i64 v_0),cmp1] (λv_2 S3=>K (.tup []) S3) s
def qCW:Nat→List Nat:=λ_=>[]
theorem qCa {X:Td} (hX:FrX X) (hn:X 45=none) {x0 cmp1:AV} {K:KvP} {s:Hq} (h:qAx X x0 cmp1 K s):wC Tryz.prog X 45 [x0,cmp1] K s:=
 qAE hX qCW hn Tryz.func45 (by kernel_rfl:Tryz.f45.body=some (qAU Tryz.f45)) (by kernel_rfl) (Eq.mpr (by kernel_rfl) h)
theorem qCd {x0 cmp1:AV} {K:KvP} {s:Hq} (h:qAx XX x0 cmp1 K s):wC Tryz.prog XX 45 [x0,cmp1] K s:=qCa qAy rfl h
def qJs (X:Td)(a0 b1:AV) (K:KvP) (s:Hq):Prop:=
 boxK 36 a0 (λB0 S1=>boxK 36 b1 (λB2 S3=>oK (qAI 0 B0) λv_4=>oK (rd1 S3 v_4) λv_5=>oK (qAI 0 B2) λv_6=>oK (rd1 S3 v_6) λv_7=>wC Tryz.prog X 47 [v_5,v_7] (λv_8 S9=>K v_8 S9) S3) S1) s
def qK9:Nat→List Nat:=λ_=>[]
theorem qL3 {X:Td} (hX:FrX X) (hn:X 46=none) {a0 b1:AV} {K:KvP} {s:Hq} (h:qJs X a0 b1 K s):wC Tryz.prog X 46 [a0,b1] K s:=
 qAE hX qK9 hn Tryz.func46 (by kernel_rfl:Tryz.f46.body=some (qAU Tryz.f46)) (by kernel_rfl) (Eq.mpr (by kernel_rfl) h)
theorem qLp {a0 b1:AV} {K:KvP} {s:Hq} (h:qJs XX a0 b1 K s):wC Tryz.prog XX 46 [a0,b1] K s:=qL3 qAy rfl h
def qFT (X:Td)(x0 y1:AV) (K:KvP) (s:Hq):Prop:=
 wC Tryz.prog X 75 [x0] (λv_0 S1=>wC Tryz.prog X 75 [y1] (λv_2 S3=>qAL v_0
 (qAL v_2
 (K (.int .i64 0) S3)
 (K (.int .i64 (-1)) S3))
 (qAL v_2
 (K (.int .i64 1) S3)
 (oK (qAB .lss x0 y1) λv_4=>qAL v_4
 (K (.int .i64 (-1)) S3)
 (oK (qAB .gtr x0 y1) λv_5=>qAL v_5
 (K (.int .i64 1) S3)
 (K (.int .i64 0) S3))))) S1) s
def qHI:Nat→List Nat:=λ_=>[]
theorem qHu {X:Td} (hX:FrX X) (hn:X 47=none) {x0 y1:AV} {K:KvP} {s:Hq} (h:qFT X x0 y1 K s):wC Tryz.prog X 47 [x0,y1] K s:=
 qAE hX qHI hn Tryz.func47 (by kernel_rfl:Tryz.f47.body=some (qAU Tryz.f47)) (by kernel_rfl) (Eq.mpr (by kernel_rfl) h)
theorem qHs {x0 y1:AV} {K:KvP} {s:Hq} (h:qFT XX x0 y1 K s):wC Tryz.prog XX 47 [x0,y1] K s:=qHu qAy rfl h
def qAj (X:Td)(k5 k27:AV) (I1:IvP) (m1:Nat) (I0:IvP) (m0:Nat) (K:KvP) (s:Hq):Prop:=
 oK (qAB .add k27 (.int .i64 1)) λv_25=>∃ m',m' < m1∧I1 [k5,v_25] s m'
def qBS (X:Td)(t0 eq1 k5 s26 k27:AV) (I1:IvP) (m1:Nat) (I0:IvP) (m0:Nat) (K:KvP) (s:Hq):Prop:=
 oK (qAS s26) λv_14=>oK (qAB .lss k27 (.int .i64 v_14)) λv_16=>qAL v_16
 (oK (qAH 2 s26 k27) λv_17=>oK (rdN s 2 v_17) λv_18=>oK (qAB .sub k27 (.int .i64 1)) λv_19=>oK (qAH 2 s26 v_19) λv_20=>oK (rdN s 2 v_20) λv_21=>funK Tryz.prog X eq1 [(.agg v_18),(.agg v_21)] (λv_22 S23=>oK (qBm .not v_22) λv_24=>qAL v_24
 (oK (qAH 2 s26 k27) λv_26=>oK (rdN S23 2 v_26) λv_27=>oK (qAH 2 t0 k5) λv_28=>oK (qAn S23 2 v_28 (.agg v_27)) λS29=>oK (qAB .add k5 (.int .i64 1)) λv_30=>qAj X v_30 k27 I1 m1 I0 m0 K S29)
 (qAj X k5 k27 I1 m1 I0 m0 K S23)) s)
 (oK (qCT 2 t0 (some k5) none none) λv_31=>qNH [(.int .u32 0),(.int .i64 0)] 2 v_31 (λv_32 S33=>oK (qCT 2 t0 none (some k5) none) λv_34=>K v_34 S33) s)
def qBV (X:Td)(t0 eq1 k5:AV) (I0:IvP) (m0:Nat) (K:KvP) (s:Hq):Prop:=
 oK (qAS t0) λv_3=>oK (qAB .lss k5 (.int .i64 v_3)) λv_5=>qAL v_5
 (oK (qAH 2 t0 k5) λv_6=>oK (rdN s 2 v_6) λv_7=>oK (qAB .sub k5 (.int .i64 1)) λv_8=>oK (qAH 2 t0 v_8) λv_9=>oK (rdN s 2 v_9) λv_10=>funK Tryz.prog X eq1 [(.agg v_7),(.agg v_10)] (λv_11 S12=>qAL v_11
 (oK (qCT 2 t0 (some k5) none none) λv_13=>∃ I1:IvP,(∃ m,I1 [k5,(.int .i64 1)] S12 m)∧∀ (f:Env) (s:Hq) (m1:Nat),I1 [f 5,f 7] s m1→
 qBS X t0 eq1 (f 5) v_13 (f 7) I1 m1 I0 m0 K s)
 (oK (qAB .add k5 (.int .i64 1)) λv_35=>∃ m',m' < m0∧I0 [v_35] S12 m')) s)
 (K t0 s)
def qA5 (X:Td)(t0 eq1:AV) (K:KvP) (s:Hq):Prop:=
 oK (qAS t0) λv_0=>oK (qAB .lss (.int .i64 v_0) (.int .i64 2)) λv_2=>qAL v_2
 (K t0 s)
 (∃ I0:IvP,(∃ m,I0 [(.int .i64 1)] s m)∧∀ (f:Env) (s:Hq) (m0:Nat),I0 [f 5] s m0→
 qBV X t0 eq1 (f 5) I0 m0 K s)
def qCo:Nat→List Nat:=λk=>cond (Nat.beq k 8) [5] (cond (Nat.beq k 18) [5,7] ([]))
theorem qCr {X:Td} (hX:FrX X) (hn:X 48=none) {t0 eq1:AV} {K:KvP} {s:Hq} (h:qA5 X t0 eq1 K s):wC Tryz.prog X 48 [t0,eq1] K s:=
 qAE hX qCo hn Tryz.func48 (by kernel_rfl:Tryz.f48.body=some (qAU Tryz.f48)) (by kernel_rfl) (Eq.mpr (by kernel_rfl) h)
theorem qCu {t0 eq1:AV} {K:KvP} {s:Hq} (h:qA5 XX t0 eq1 K s):wC Tryz.prog XX 48 [t0,eq1] K s:=qCr qAy rfl h
def qJ6 (X:Td)(a0 b1:AV) (K:KvP) (s:Hq):Prop:=
 boxK 36 a0 (λB0 S1=>boxK 36 b1 (λB2 S3=>oK (qAI 0 B0) λv_4=>oK (rd1 S3 v_4) λv_5=>oK (qAI 0 B2) λv_6=>oK (rd1 S3 v_6) λv_7=>oK (negB false (eqV 0 false v_5 v_7)) λv_8=>K v_8 S3) S1) s
def qLM:Nat→List Nat:=λ_=>[]
theorem qLl {X:Td} (hX:FrX X) (hn:X 49=none) {a0 b1:AV} {K:KvP} {s:Hq} (h:qJ6 X a0 b1 K s):wC Tryz.prog X 49 [a0,b1] K s:=
 qAE hX qLM hn Tryz.func49 (by kernel_rfl:Tryz.f49.body=some (qAU Tryz.f49)) (by kernel_rfl) (Eq.mpr (by kernel_rfl) h)
theorem qL4 {a0 b1:AV} {K:KvP} {s:Hq} (h:qJ6 XX a0 b1 K s):wC Tryz.prog XX 49 [a0,b1] K s:=qLl qAy rfl h
def qMD (X:Td)(K:KvP) (s:Hq):Prop:=
 newK 126 [.nilFunc,.nilFunc,.nilFunc] (λB0 S1=>oK (qBO [.nilFunc,.nilFunc,.nilFunc] [(0,1,(.fn (.func 76) [] [])),(1,1,(.fn (.func 77) [] [])),(2,1,(.fn (.func 81) [] []))]) λC2=>oK (qAn S1 3 (.ptr B0 0) (.agg C2)) λS3=>oK (rdN S3 3 (.ptr B0 0)) λt0_4=>K (.agg t0_4) S3) s
def qMa:Nat→List Nat:=λ_=>[]
theorem qNW {X:Td} (hX:FrX X) (hn:X 50=none) {K:KvP} {s:Hq} (h:qMD X K s):wC Tryz.prog X 50 [] K s:=
 qAE hX qMa hn Tryz.func50 (by kernel_rfl:Tryz.f50.body=some (qAU Tryz.f50)) (by kernel_rfl) (Eq.mpr (by kernel_rfl) h)
theorem qIw {K:KvP} {s:Hq} (h:qMD XX K s):wC Tryz.prog XX 50 [] K s:=qNW qAy rfl h
end Go.AM
namespace Go.AM
open Go Go.Proofs
set_option maxRecDepth 100000
def qA2 (X:Td)(data0 a1 b2 limit3 wasBalanced8 wasPartitioned9 length10 pivot11 t75 t86:AV) (I0:IvP) (m0:Nat) (K:KvP) (s:Hq):Prop:=
 oK (qAc t75 t86 (.bool false)) λv_16=>qAL v_16
 (wC Tryz.prog X 103 [data0,a1,b2,pivot11] (λv_17 S18=>∃ m',m' < m0∧I0 [v_17,b2,limit3,wasBalanced8,wasPartitioned9] S18 m') s)
 (wC Tryz.prog X 104 [data0,a1,b2,pivot11] (λv_19 S20=>oK (qAX v_19 0) λv_21=>oK (qAX v_19 1) λv_22=>oK (qAB .sub v_21 a1) λv_23=>oK (qAB .sub b2 v_21) λv_24=>oK (qAB .quo length10 (.int .i64 8)) λv_25=>oK (qAB .lss v_23 v_24) λv_26=>qAL v_26
 (oK (qAB .geq v_23 v_25) λv_27=>wC Tryz.prog X 66 [data0,a1,v_21,limit3] (λv_28 S29=>oK (qAB .add v_21 (.int .i64 1)) λv_30=>∃ m',m' < m0∧I0 [v_30,b2,limit3,v_27,v_22] S29 m') S20)
 (oK (qAB .geq v_24 v_25) λv_31=>oK (qAB .add v_21 (.int .i64 1)) λv_32=>wC Tryz.prog X 66 [data0,v_32,b2,limit3] (λv_33 S34=>∃ m',m' < m0∧I0 [a1,v_21,limit3,v_31,v_22] S34 m') S20)) s)
def qBh (X:Td)(data0 a1 b2 limit3 wasBalanced8 wasPartitioned9 length10 pivot11:AV) (I0:IvP) (m0:Nat) (K:KvP) (s:Hq):Prop:=
 oK (qAB .gtr a1 (.int .i64 0)) λv_15=>qAL v_15
 (oK (qAB .sub a1 (.int .i64 1)) λv_35=>oK (qAH 1 data0 v_35) λv_36=>oK (rd1 s v_36) λv_37=>oK (qAH 1 data0 pivot11) λv_38=>oK (rd1 s v_38) λv_39=>wC Tryz.prog X 102 [v_37,v_39] (λv_40 S41=>oK (qBm .not v_40) λv_42=>qA2 X data0 a1 b2 limit3 wasBalanced8 wasPartitioned9 length10 pivot11 v_15 v_42 I0 m0 K S41) s)
 (qA2 X data0 a1 b2 limit3 wasBalanced8 wasPartitioned9 length10 pivot11 v_15 .undef I0 m0 K s)
def qBH (X:Td)(data0 a1 b2 limit3 wasBalanced8 wasPartitioned9 length10 pivot11 t65 t67:AV) (I0:IvP) (m0:Nat) (K:KvP) (s:Hq):Prop:=
 oK (qAc t65 t67 (.bool false)) λv_14=>qAL v_14
 (wC Tryz.prog X 101 [data0,a1,b2] (λv_43 S44=>qAL v_43
 (K (.tup []) S44)
 (qBh X data0 a1 b2 limit3 wasBalanced8 wasPartitioned9 length10 pivot11 I0 m0 K S44)) s)
 (qBh X data0 a1 b2 limit3 wasBalanced8 wasPartitioned9 length10 pivot11 I0 m0 K s)
def qBI (X:Td)(data0 a1 b2 limit3 wasBalanced8 wasPartitioned9 length10 pivot11 hint12 t62 t63:AV) (I0:IvP) (m0:Nat) (K:KvP) (s:Hq):Prop:=
 oK (qAc t62 t63 (.bool false)) λv_13=>qAL v_13
 (oK (negB false (eqV 0 true hint12 (.int .i64 1))) λv_45=>qBH X data0 a1 b2 limit3 wasBalanced8 wasPartitioned9 length10 pivot11 v_13 v_45 I0 m0 K s)
 (qBH X data0 a1 b2 limit3 wasBalanced8 wasPartitioned9 length10 pivot11 v_13 .undef I0 m0 K s)
def qA1 (X:Td)(data0 a1 b2 limit3 wasBalanced8 wasPartitioned9 length10 pivot11 hint12:AV) (I0:IvP) (m0:Nat) (K:KvP) (s:Hq):Prop:=
 qAL wasBalanced8
 (qBI X data0 a1 b2 limit3 wasBalanced8 wasPartitioned9 length10 pivot11 hint12 wasBalanced8 wasPartitioned9 I0 m0 K s)
 (qBI X data0 a1 b2 limit3 wasBalanced8 wasPartitioned9 length10 pivot11 hint12 wasBalanced8 .undef I0 m0 K s)
def qCQ (X:Td)(data0 a1 b2 limit3 wasBalanced8 wasPartitioned9 length10:AV) (I0:IvP) (m0:Nat) (K:KvP) (s:Hq):Prop:=
 wC Tryz.prog X 99 [data0,a1,b2] (λv_8 S9=>oK (qAX v_8 0) λv_10=>oK (qAX v_8 1) λv_11=>oK (negB false (eqV 0 true v_11 (.int .i64 2))) λv_12=>qAL v_12
 (wC Tryz.prog X 100 [data0,a1,b2] (λv_46 S47=>oK (qAB .sub b2 (.int .i64 1)) λv_48=>oK (qAB .sub v_10 a1) λv_49=>oK (qAB .sub v_48 v_49) λv_50=>qA1 X data0 a1 b2 limit3 wasBalanced8 wasPartitioned9 length10 v_50 (.int .i64 1) I0 m0 K S47) S9)
 (qA1 X data0 a1 b2 limit3 wasBalanced8 wasPartitioned9 length10 v_10 v_11 I0 m0 K S9)) s
def qDj (X:Td)(data0 a1 b2 limit3 wasBalanced8 wasPartitioned9:AV) (I0:IvP) (m0:Nat) (K:KvP) (s:Hq):Prop:=
 oK (qAB .sub b2 a1) λv_0=>oK (qAB .leq v_0 (.int .i64 12)) λv_1=>qAL v_1
 (wC Tryz.prog X 96 [data0,a1,b2] (λv_2 S3=>K (.tup []) S3) s)
 (oK (negB false (eqV 0 true limit3 (.int .i64 0))) λv_4=>qAL v_4
 (wC Tryz.prog X 97 [data0,a1,b2] (λv_5 S6=>K (.tup []) S6) s)
 (oK (qBm .not wasBalanced8) λv_7=>qAL v_7
 (wC Tryz.prog X 98 [data0,a1,b2] (λv_51 S52=>oK (qAB .sub limit3 (.int .i64 1)) λv_53=>qCQ X data0 a1 b2 v_53 wasBalanced8 wasPartitioned9 v_0 I0 m0 K S52) s)
 (qCQ X data0 a1 b2 limit3 wasBalanced8 wasPartitioned9 v_0 I0 m0 K s)))
def qEB (X:Td)(data0 a1 b2 limit3:AV) (K:KvP) (s:Hq):Prop:=
 ∃ I0:IvP,(∃ m,I0 [a1,b2,limit3,(.bool true),(.bool true)] s m)∧∀ (f:Env) (s:Hq) (m0:Nat),I0 [f 1,f 2,f 3,f 8,f 9] s m0→
 qDj X data0 (f 1) (f 2) (f 3) (f 8) (f 9) I0 m0 K s
def qF5:Nat→List Nat:=λk=>cond (Nat.beq k 4) [1,2,3,8,9] ([])
theorem qGO {X:Td} (hX:FrX X) (hn:X 66=none) {data0 a1 b2 limit3:AV} {K:KvP} {s:Hq} (h:qEB X data0 a1 b2 limit3 K s):wC Tryz.prog X 66 [data0,a1,b2,limit3] K s:=
 qAE hX qF5 hn Tryz.func66 (by kernel_rfl:Tryz.f66.body=some (qAU Tryz.f66)) (by kernel_rfl) (Eq.mpr (by kernel_rfl) h)
theorem qDm {data0 a1 b2 limit3:AV} {K:KvP} {s:Hq} (h:qEB XX data0 a1 b2 limit3 K s):wC Tryz.prog XX 66 [data0,a1,b2,limit3] K s:=qGO qAy rfl h
def qGH (X:Td)(x0:AV) (K:KvP) (s:Hq):Prop:=
 qAL (.bool false)
 (oK (qBf .u32 x0) λv_0=>wC Tryz.prog X 105 [v_0] (λv_1 S2=>K v_1 S2) s)
 (wC Tryz.prog X 106 [x0] (λv_3 S4=>K v_3 S4) s)
def qKZ:Nat→List Nat:=λ_=>[]
theorem qK5 {X:Td} (hX:FrX X) (hn:X 67=none) {x0:AV} {K:KvP} {s:Hq} (h:qGH X x0 K s):wC Tryz.prog X 67 [x0] K s:=
 qAE hX qKZ hn Tryz.func67 (by kernel_rfl:Tryz.f67.body=some (qAU Tryz.f67)) (by kernel_rfl) (Eq.mpr (by kernel_rfl) h)
theorem qLL {x0:AV} {K:KvP} {s:Hq} (h:qGH XX x0 K s):wC Tryz.prog XX 67 [x0] K s:=qK5 qAy rfl h
def qEP (X:Td)(t13:AV) (I0:IvP) (m0:Nat) (K:KvP) (s:Hq):Prop:=
 oK (qAB .add t13 (.int .i64 1)) λv_13=>∃ m',m' < m0∧I0 [v_13] s m'
def qI6 (X:Td)(c5 t8 p10 t27 t32 t33:AV) (I3:IvP) (m3:Nat) (I2:IvP) (m2:Nat) (K:KvP) (s:Hq):Prop:=
 oK (qAB .lss t33 t32) λv_29=>qAL v_29
 (oK (qAB .add t8 t33) λv_30=>oK (qAI 1 p10) λv_31=>oK (rd1 s v_31) λv_32=>oK (qAI 0 p10) λv_33=>oK (rd1 s v_33) λv_34=>oK (qAB .sub v_34 (.int .i64 1)) λv_35=>oK (qAB .sub v_35 t33) λv_36=>oK (qAB .mul (.int .i64 8) v_36) λv_37=>oK (qBk .shr v_32 v_37) λv_38=>oK (qBf .u8 v_38) λv_39=>oK (qHA 8 1 c5 v_30) λv_40=>oK (wr1 s v_40 v_39) λS41=>oK (qAB .add t33 (.int .i64 1)) λv_42=>∃ m',m' < m3∧I3 [v_42] S41 m')
 (oK (qAI 0 p10) λv_43=>oK (rd1 s v_43) λv_44=>oK (qAB .add t8 v_44) λv_45=>oK (qAB .add t27 (.int .i64 1)) λv_46=>∃ m',m' < m2∧I2 [v_45,v_46] s m')
def qI9 (X:Td)(t4 c5 t8 t25 t26 t27:AV) (I2:IvP) (m2:Nat) (K:KvP) (s:Hq):Prop:=
 oK (qAB .lss t27 t26) λv_21=>qAL v_21
 (oK (qAH 2 t25 t27) λv_22=>oK (rdN s 2 v_22) λv_23=>newK 148 [(.int .i64 0),(.int .u64 0)] (λB24 S25=>oK (qAn S25 2 (.ptr B24 0) (.agg v_23)) λS26=>oK (qAI 0 (.ptr B24 0)) λv_27=>oK (rd1 S26 v_27) λv_28=>∃ I3:IvP,(∃ m,I3 [(.int .i64 0)] S26 m)∧∀ (f:Env) (s:Hq) (m3:Nat),I3 [f 33] s m3→
 qI6 X c5 t8 (.ptr B24 0) t27 v_28 (f 33) I3 m3 I2 m2 K s) s)
 (oK (rdN s 8 c5) λv_47=>oK (qAn s 8 t4 (.agg v_47)) λS48=>oK (rdN S48 8 t4) λt4_49=>K (.agg t4_49) S48)
def qIx (X:Td)(kind0 parts1 t4 c5 t12 t13:AV) (I0:IvP) (m0:Nat) (K:KvP) (s:Hq):Prop:=
 oK (qAB .lss t13 (.int .i64 7)) λv_5=>qAL v_5
 (oK (qLo 7 3 (some 3) t12 t13) λv_6=>newK 188 [(.int .i64 0),(.int .u8 0),(.int .u8 0)] (λB7 S8=>oK (qAn S8 3 (.ptr B7 0) v_6) λS9=>oK (qAI 0 (.ptr B7 0)) λv_10=>oK (rd1 S9 v_10) λv_11=>oK (negB false (eqV 0 false v_11 kind0)) λv_12=>qAL v_12
 (oK (qG4 S9 8 1 c5 none none none) λv_14=>oK (qAI 1 (.ptr B7 0)) λv_15=>oK (qG4 S9 2 1 v_15 none none none) λv_16=>zAEQ 1 v_14 v_16 (λv_17 S18=>qEP X t13 I0 m0 K S18) S9)
 (qEP X t13 I0 m0 K S9)) s)
 (oK (qAS parts1) λv_19=>∃ I2:IvP,(∃ m,I2 [(.int .i64 2),(.int .i64 0)] s m)∧∀ (f:Env) (s:Hq) (m2:Nat),I2 [f 8,f 27] s m2→
 qI9 X t4 c5 (f 8) parts1 (.int .i64 v_19) (f 27) I2 m2 K s)
def qLw (X:Td)(kind0 parts1:AV) (K:KvP) (s:Hq):Prop:=
 newK 104 [(.int .u8 0),(.int .u8 0),(.int .u8 0),(.int .u8 0),(.int .u8 0),(.int .u8 0),(.int .u8 0),(.int .u8 0)] (λB0 S1=>newK 104 [(.int .u8 0),(.int .u8 0),(.int .u8 0),(.int .u8 0),(.int .u8 0),(.int .u8 0),(.int .u8 0),(.int .u8 0)] (λB2 S3=>oK (gldN S3 21 0) λv_4=>∃ I0:IvP,(∃ m,I0 [(.int .i64 0)] S3 m)∧∀ (f:Env) (s:Hq) (m0:Nat),I0 [f 13] s m0→
 qIx X kind0 parts1 (.ptr B0 0) (.ptr B2 0) (.agg v_4) (f 13) I0 m0 K s) S1) s
def qMx:Nat→List Nat:=λk=>cond (Nat.beq k 6) [13] (cond (Nat.beq k 20) [8,27] (cond (Nat.beq k 26) [33] ([])))
theorem qNV {X:Td} (hX:FrX X) (hn:X 68=none) {kind0 parts1:AV} {K:KvP} {s:Hq} (h:qLw X kind0 parts1 K s):wC Tryz.prog X 68 [kind0,parts1] K s:=
 qAE hX qMx hn Tryz.func68 (by kernel_rfl:Tryz.f68.body=some (qAU Tryz.f68)) (by kernel_rfl) (Eq.mpr (by kernel_rfl) h)
theorem qNk {kind0 parts1:AV} {K:KvP} {s:Hq} (h:qLw XX kind0 parts1 K s):wC Tryz.prog XX 68 [kind0,parts1] K s:=qNV qAy rfl h
def qF2 (X:Td)(kind1 decode2 t11 t12 t13:AV) (I0:IvP) (m0:Nat) (K:KvP) (s:Hq):Prop:=
 oK (qAB .lss t13 t12) λv_2=>qAL v_2
 (oK (qAH 8 t11 t13) λv_3=>oK (rdN s 8 v_3) λv_4=>newK 104 [(.int .u8 0),(.int .u8 0),(.int .u8 0),(.int .u8 0),(.int .u8 0),(.int .u8 0),(.int .u8 0),(.int .u8 0)] (λB5 S6=>oK (qAn S6 8 (.ptr B5 0) (.agg v_4)) λS7=>oK (rdN S7 8 (.ptr B5 0)) λv_8=>wC Tryz.prog X 115 [(.agg v_8)] (λv_9 S10=>oK (negB false (eqV 0 false v_9 kind1)) λv_11=>qAL v_11
 (oK (rdN S10 8 (.ptr B5 0)) λv_12=>funK Tryz.prog X decode2 [(.agg v_12)] (λv_13 S14=>K (.tup [v_13,(.bool true)]) S14) S10)
 (oK (qAB .add t13 (.int .i64 1)) λv_15=>∃ m',m' < m0∧I0 [v_15] S10 m')) S7) s)
 (K (.tup [(.int .i64 0),(.bool false)]) s)
def qFB (X:Td)(l0 kind1 decode2:AV) (K:KvP) (s:Hq):Prop:=
 oK (qAS l0) λv_0=>∃ I0:IvP,(∃ m,I0 [(.int .i64 0)] s m)∧∀ (f:Env) (s:Hq) (m0:Nat),I0 [f 13] s m0→
 qF2 X kind1 decode2 l0 (.int .i64 v_0) (f 13) I0 m0 K s
def qJF:Nat→List Nat:=λk=>cond (Nat.beq k 4) [13] ([])
theorem qJV {X:Td} (hX:FrX X) (hn:X 71=none) {l0 kind1 decode2:AV} {K:KvP} {s:Hq} (h:qFB X l0 kind1 decode2 K s):wC Tryz.prog X 71 [l0,kind1,decode2] K s:=
 qAE hX qJF hn Tryz.func71 (by kernel_rfl:Tryz.f71.body=some (qAU Tryz.f71)) (by kernel_rfl) (Eq.mpr (by kernel_rfl) h)
theorem qJu {l0 kind1 decode2:AV} {K:KvP} {s:Hq} (h:qFB XX l0 kind1 decode2 K s):wC Tryz.prog XX 71 [l0,kind1,decode2] K s:=qJV qAy rfl h
def qGM (X:Td)(c0 t1:AV) (K:KvP) (s:Hq):Prop:=
 boxK 104 c0 (λB0 S1=>oK (rdN S1 8 B0) λv_2=>wC Tryz.prog X 73 [(.agg v_2),(.int .i64 6),(.int .i64 2)] (λv_3 S4=>oK (qBf .i64 v_3) λv_5=>oK (wr1 S4 t1 v_5) λS6=>oK (qHA 8 1 B0 (.int .i64 2)) λv_7=>oK (rd1 S6 v_7) λv_8=>oK (qAB .and v_8 (.int .u8 31)) λv_9=>oK (qBf .i64 v_9) λv_10=>K v_10 S6) S1) s
def qIA:Nat→List Nat:=λ_=>[]
theorem qIJ {X:Td} (hX:FrX X) (hn:X 72=none) {c0 t1:AV} {K:KvP} {s:Hq} (h:qGM X c0 t1 K s):wC Tryz.prog X 72 [c0,t1] K s:=
 qAE hX qIA hn Tryz.func72 (by kernel_rfl:Tryz.f72.body=some (qAU Tryz.f72)) (by kernel_rfl) (Eq.mpr (by kernel_rfl) h)
theorem qIc {c0 t1:AV} {K:KvP} {s:Hq} (h:qGM XX c0 t1 K s):wC Tryz.prog XX 72 [c0,t1] K s:=qIJ qAy rfl h
def qH9 (X:Td)(n7 t14 t15 t16:AV) (I0:IvP) (m0:Nat) (K:KvP) (s:Hq):Prop:=
 oK (qAB .lss t16 t15) λv_6=>qAL v_6
 (oK (qAH 1 t14 t16) λv_7=>oK (rd1 s v_7) λv_8=>oK (qBk .shl n7 (.int .u64 8)) λv_9=>oK (qBf .u64 v_8) λv_10=>oK (qAB .or v_9 v_10) λv_11=>oK (qAB .add t16 (.int .i64 1)) λv_12=>∃ m',m' < m0∧I0 [v_11,v_12] s m')
 (K n7 s)
def qK1 (X:Td)(c0 t1 size2:AV) (K:KvP) (s:Hq):Prop:=
 boxK 104 c0 (λB0 S1=>oK (qAB .add t1 size2) λv_2=>oK (qG4 S1 8 1 B0 (some t1) (some v_2) none) λv_3=>oK (qAS v_3) λv_4=>∃ I0:IvP,(∃ m,I0 [(.int .u64 0),(.int .i64 0)] S1 m)∧∀ (f:Env) (s:Hq) (m0:Nat),I0 [f 7,f 16] s m0→
 qH9 X (f 7) v_3 (.int .i64 v_4) (f 16) I0 m0 K s) s
def qL6:Nat→List Nat:=λk=>cond (Nat.beq k 6) [7,16] ([])
theorem qMh {X:Td} (hX:FrX X) (hn:X 73=none) {c0 t1 size2:AV} {K:KvP} {s:Hq} (h:qK1 X c0 t1 size2 K s):wC Tryz.prog X 73 [c0,t1,size2] K s:=
 qAE hX qL6 hn Tryz.func73 (by kernel_rfl:Tryz.f73.body=some (qAU Tryz.f73)) (by kernel_rfl) (Eq.mpr (by kernel_rfl) h)
theorem qMy {c0 t1 size2:AV} {K:KvP} {s:Hq} (h:qK1 XX c0 t1 size2 K s):wC Tryz.prog XX 73 [c0,t1,size2] K s:=qMh qAy rfl h
def qBC (X:Td)(blockSize6:AV) (I1:IvP) (m1:Nat) (K:KvP) (s:Hq):Prop:=
 oK (qAB .mul blockSize6 (.int .i64 2)) λv_16=>∃ m',m' < m1∧I1 [v_16] s m'
def qCh (X:Td)(data0 n1 cmp2 blockSize6 a7 b8:AV) (I2:IvP) (m2:Nat) (I1:IvP) (m1:Nat) (K:KvP) (s:Hq):Prop:=
 oK (qAB .leq b8 n1) λv_8=>qAL v_8
 (oK (qAB .add a7 blockSize6) λv_9=>wC Tryz.prog X 117 [data0,a7,v_9,b8,cmp2] (λv_10 S11=>oK (qAB .mul (.int .i64 2) blockSize6) λv_12=>oK (qAB .add b8 v_12) λv_13=>∃ m',m' < m2∧I2 [b8,v_13] S11 m') s)
 (oK (qAB .add a7 blockSize6) λv_14=>oK (qAB .lss v_14 n1) λv_15=>qAL v_15
 (wC Tryz.prog X 117 [data0,a7,v_14,n1,cmp2] (λv_17 S18=>qBC X blockSize6 I1 m1 K S18) s)
 (qBC X blockSize6 I1 m1 K s))
def qBi (X:Td)(data0 n1 cmp2 blockSize6:AV) (I1:IvP) (m1:Nat) (K:KvP) (s:Hq):Prop:=
 oK (qAB .lss blockSize6 n1) λv_6=>qAL v_6
 (oK (qAB .mul (.int .i64 2) blockSize6) λv_7=>∃ I2:IvP,(∃ m,I2 [(.int .i64 0),v_7] s m)∧∀ (f:Env) (s:Hq) (m2:Nat),I2 [f 7,f 8] s m2→
 qCh X data0 n1 cmp2 blockSize6 (f 7) (f 8) I2 m2 I1 m1 K s)
 (K (.tup []) s)
def qBj (X:Td)(data0 n1 cmp2 blockSize6 a7 b8:AV) (I0:IvP) (m0:Nat) (K:KvP) (s:Hq):Prop:=
 oK (qAB .leq b8 n1) λv_0=>qAL v_0
 (wC Tryz.prog X 116 [data0,a7,b8,cmp2] (λv_1 S2=>oK (qAB .add b8 blockSize6) λv_3=>∃ m',m' < m0∧I0 [b8,v_3] S2 m') s)
 (wC Tryz.prog X 116 [data0,a7,n1,cmp2] (λv_4 S5=>∃ I1:IvP,(∃ m,I1 [blockSize6] S5 m)∧∀ (f:Env) (s:Hq) (m1:Nat),I1 [f 6] s m1→
 qBi X data0 n1 cmp2 (f 6) I1 m1 K s) s)
def qC7 (X:Td)(data0 n1 cmp2:AV) (K:KvP) (s:Hq):Prop:=
 ∃ I0:IvP,(∃ m,I0 [(.int .i64 0),(.int .i64 20)] s m)∧∀ (f:Env) (s:Hq) (m0:Nat),I0 [f 7,f 8] s m0→
 qBj X data0 n1 cmp2 (.int .i64 20) (f 7) (f 8) I0 m0 K s
def qEW:Nat→List Nat:=λk=>cond (Nat.beq k 4) [7,8] (cond (Nat.beq k 14) [6] (cond (Nat.beq k 18) [7,8] ([])))
theorem qEv {X:Td} (hX:FrX X) (hn:X 74=none) {data0 n1 cmp2:AV} {K:KvP} {s:Hq} (h:qC7 X data0 n1 cmp2 K s):wC Tryz.prog X 74 [data0,n1,cmp2] K s:=
 qAE hX qEW hn Tryz.func74 (by kernel_rfl:Tryz.f74.body=some (qAU Tryz.f74)) (by kernel_rfl) (Eq.mpr (by kernel_rfl) h)
theorem qCf {data0 n1 cmp2:AV} {K:KvP} {s:Hq} (h:qC7 XX data0 n1 cmp2 K s):wC Tryz.prog XX 74 [data0,n1,cmp2] K s:=qEv qAy rfl h
def qCO (X:Td)(x0:AV) (K:KvP) (s:Hq):Prop:=
 oK (negB true (eqV 0 false x0 x0)) λv_0=>K v_0 s
def qH7:Nat→List Nat:=λ_=>[]
theorem qII {X:Td} (hX:FrX X) (hn:X 75=none) {x0:AV} {K:KvP} {s:Hq} (h:qCO X x0 K s):wC Tryz.prog X 75 [x0] K s:=
 qAE hX qH7 hn Tryz.func75 (by kernel_rfl:Tryz.f75.body=some (qAU Tryz.f75)) (by kernel_rfl) (Eq.mpr (by kernel_rfl) h)
theorem qDM {x0:AV} {K:KvP} {s:Hq} (h:qCO XX x0 K s):wC Tryz.prog XX 75 [x0] K s:=qII qAy rfl h
def qKF (X:Td)(l0 bd1:AV) (K:KvP) (s:Hq):Prop:=
 newK 36 [(.int .u32 0),(.int .i64 0)] (λB0 S1=>oK (qAS l0) λv_2=>oK (qAB .rem bd1 (.int .i64 v_2)) λv_4=>oK (qAH 2 l0 v_4) λv_5=>oK (rdN S1 2 v_5) λv_6=>oK (qAn S1 2 (.ptr B0 0) (.agg v_6)) λS7=>oK (rdN S7 2 (.ptr B0 0)) λt4_8=>K (.agg t4_8) S7) s
def qLT:Nat→List Nat:=λ_=>[]
theorem qLv {X:Td} (hX:FrX X) (hn:X 76=none) {l0 bd1:AV} {K:KvP} {s:Hq} (h:qKF X l0 bd1 K s):wC Tryz.prog X 76 [l0,bd1] K s:=
 qAE hX qLT hn Tryz.func76 (by kernel_rfl:Tryz.f76.body=some (qAU Tryz.f76)) (by kernel_rfl) (Eq.mpr (by kernel_rfl) h)
theorem qMC {l0 bd1:AV} {K:KvP} {s:Hq} (h:qKF XX l0 bd1 K s):wC Tryz.prog XX 76 [l0,bd1] K s:=qLv qAy rfl h
def qJP (X:Td)(l0 bd1:AV) (K:KvP) (s:Hq):Prop:=
 boxK 3 bd1 (λB0 S1=>newK 36 [(.int .u32 0),(.int .i64 0)] (λB2 S3=>wC Tryz.prog X 78 [l0,(.fn (.func 79) [] [B0])] (λv_4 S5=>oK (qAn S5 2 (.ptr B2 0) v_4) λS6=>oK (rdN S6 2 (.ptr B2 0)) λt4_7=>K (.agg t4_7) S6) S3) S1) s
def qLD:Nat→List Nat:=λ_=>[]
theorem qLe {X:Td} (hX:FrX X) (hn:X 77=none) {l0 bd1:AV} {K:KvP} {s:Hq} (h:qJP X l0 bd1 K s):wC Tryz.prog X 77 [l0,bd1] K s:=
 qAE hX qLD hn Tryz.func77 (by kernel_rfl:Tryz.f77.body=some (qAU Tryz.f77)) (by kernel_rfl) (Eq.mpr (by kernel_rfl) h)
theorem qMQ {l0 bd1:AV} {K:KvP} {s:Hq} (h:qJP XX l0 bd1 K s):wC Tryz.prog XX 77 [l0,bd1] K s:=qLe qAy rfl h
def qBX (X:Td)(most6 t21:AV) (I0:IvP) (m0:Nat) (K:KvP) (s:Hq):Prop:=
 oK (qAB .add t21 (.int .i64 1)) λv_24=>∃ m',m' < m0∧I0 [most6,v_24] s m'
def qCR (X:Td)(key1 t4 best5 most6 t19 t20 t21:AV) (I0:IvP) (m0:Nat) (K:KvP) (s:Hq):Prop:=
 oK (qAB .lss t21 t20) λv_14=>qAL v_14
 (oK (qAH 2 t19 t21) λv_15=>oK (rdN s 2 v_15) λv_16=>newK 36 [(.int .u32 0),(.int .i64 0)] (λB17 S18=>oK (qAn S18 2 (.ptr B17 0) (.agg v_16)) λS19=>oK (rdN S19 2 (.ptr B17 0)) λv_20=>funK Tryz.prog X key1 [(.agg v_20)] (λv_21 S22=>oK (qAB .gtr v_21 most6) λv_23=>qAL v_23
 (oK (rdN S22 2 (.ptr B17 0)) λv_25=>oK (qAn S22 2 best5 (.agg v_25)) λS26=>qBX X v_21 t21 I0 m0 K S26)
 (qBX X most6 t21 I0 m0 K S22)) S19) s)
 (oK (rdN s 2 best5) λv_27=>oK (qAn s 2 t4 (.agg v_27)) λS28=>oK (rdN S28 2 t4) λt4_29=>K (.agg t4_29) S28)
def qCs (X:Td)(l0 key1:AV) (K:KvP) (s:Hq):Prop:=
 newK 36 [(.int .u32 0),(.int .i64 0)] (λB0 S1=>oK (qAH 2 l0 (.int .i64 0)) λv_2=>oK (rdN S1 2 v_2) λv_3=>oK (qAH 2 l0 (.int .i64 0)) λv_4=>oK (rdN S1 2 v_4) λv_5=>funK Tryz.prog X key1 [(.agg v_5)] (λv_6 S7=>(∀ b,S1 b≠none→S1 b=none→S7 b=none)→
 newK 36 [(.int .u32 0),(.int .i64 0)] (λB8 S9=>(∀ b,(add S1 S7) b≠none→(cutH [(S1,(add S1 S7))] (add S1 S7)) b=none→S9 b=none)→
 oK (qAn (add (add S1 S7) S9) 2 (.ptr B8 0) (.agg v_3)) λS10=>oK (qCT 2 l0 (some (.int .i64 1)) none none) λv_11=>oK (qAS v_11) λv_12=>∃ I0:IvP,(∃ m,I0 [v_6,(.int .i64 0)] S10 m)∧∀ (f:Env) (s:Hq) (m0:Nat),I0 [f 6,f 21] s m0→
 qCR X key1 (.ptr B0 0) (.ptr B8 0) (f 6) v_11 (.int .i64 v_12) (f 21) I0 m0 K s) (frz (cutH [(S1,(add S1 S7))] (add S1 S7)))) (frz S1)) s
def qD7:Nat→List Nat:=λk=>cond (Nat.beq k 6) [6,21] ([])
theorem qEE {X:Td} (hX:FrX X) (hn:X 78=none) {l0 key1:AV} {K:KvP} {s:Hq} (h:qCs X l0 key1 K s):wC Tryz.prog X 78 [l0,key1] K s:=
 qAE hX qD7 hn Tryz.func78 (by kernel_rfl:Tryz.f78.body=some (qAU Tryz.f78)) (by kernel_rfl) (Eq.mpr (by kernel_rfl) h)
theorem qED {l0 key1:AV} {K:KvP} {s:Hq} (h:qCs XX l0 key1 K s):wC Tryz.prog XX 78 [l0,key1] K s:=qEE qAy rfl h
def qHz (X:Td)(c0 t1:AV) (K:KvP) (s:Hq):Prop:=
 boxK 36 c0 (λB0 S1=>oK (qAI 0 B0) λv_2=>oK (rd1 S1 v_2) λv_3=>oK (rd1 S1 t1) λv_4=>wC Tryz.prog X 80 [v_3,v_4] (λv_5 S6=>K v_5 S6) S1) s
def qJt:Nat→List Nat:=λ_=>[]
theorem qKc {X:Td} (hX:FrX X) (hn:X 79=none) {c0 t1:AV} {K:KvP} {s:Hq} (h:qHz X c0 t1 K s):wC Tryz.prog X 79 [c0,t1] K s:=
 qAE hX qJt hn Tryz.func79 (by kernel_rfl:Tryz.f79.body=some (qAU Tryz.f79)) (by kernel_rfl) (Eq.mpr (by kernel_rfl) h)
theorem qKh {c0 t1:AV} {K:KvP} {s:Hq} (h:qHz XX c0 t1 K s):wC Tryz.prog XX 79 [c0,t1] K s:=qKc qAy rfl h
def qOB (X:Td)(ip0 bd1:AV) (K:KvP) (s:Hq):Prop:=
 oK (qBf .u32 bd1) λv_0=>oK (qBk .shr ip0 (.int .u64 24)) λv_1=>oK (qBf .u8 v_1) λv_2=>oK (qBk .shr ip0 (.int .u64 16)) λv_3=>oK (qBf .u8 v_3) λv_4=>oK (qBk .shr ip0 (.int .u64 8)) λv_5=>oK (qBf .u8 v_5) λv_6=>oK (qBf .u8 ip0) λv_7=>oK (qBk .shr v_0 (.int .u64 24)) λv_8=>oK (qBf .u8 v_8) λv_9=>oK (qBk .shr v_0 (.int .u64 16)) λv_10=>oK (qBf .u8 v_10) λv_11=>oK (qBk .shr v_0 (.int .u64 8)) λv_12=>oK (qBf .u8 v_12) λv_13=>oK (qBf .u8 v_0) λv_14=>oK (qBO [(.int .u8 0),(.int .u8 0),(.int .u8 0),(.int .u8 0),(.int .u8 0),(.int .u8 0),(.int .u8 0),(.int .u8 0)] [(0,1,v_2),(1,1,v_4),(2,1,v_6),(3,1,v_7),(4,1,v_9),(5,1,v_11),(6,1,v_13),(7,1,v_14)]) λC15=>wC Tryz.prog X 118 [(.agg C15)] (λv_16 S17=>K v_16 S17) s
def qRd:Nat→List Nat:=λ_=>[]
theorem qSs {X:Td} (hX:FrX X) (hn:X 80=none) {ip0 bd1:AV} {K:KvP} {s:Hq} (h:qOB X ip0 bd1 K s):wC Tryz.prog X 80 [ip0,bd1] K s:=
 qAE hX qRd hn Tryz.func80 (by kernel_rfl:Tryz.f80.body=some (qAU Tryz.f80)) (by kernel_rfl) (Eq.mpr (by kernel_rfl) h)
theorem qSA {ip0 bd1:AV} {K:KvP} {s:Hq} (h:qOB XX ip0 bd1 K s):wC Tryz.prog XX 80 [ip0,bd1] K s:=qSs qAy rfl h
def qJ4 (X:Td)(l0 t1:AV) (K:KvP) (s:Hq):Prop:=
 newK 36 [(.int .u32 0),(.int .i64 0)] (λB0 S1=>wC Tryz.prog X 82 [l0,(.fn (.func 83) [] [])] (λv_2 S3=>oK (qAn S3 2 (.ptr B0 0) v_2) λS4=>oK (rdN S4 2 (.ptr B0 0)) λt4_5=>K (.agg t4_5) S4) S1) s
def qLA:Nat→List Nat:=λ_=>[]
theorem qL7 {X:Td} (hX:FrX X) (hn:X 81=none) {l0 t1:AV} {K:KvP} {s:Hq} (h:qJ4 X l0 t1 K s):wC Tryz.prog X 81 [l0,t1] K s:=
 qAE hX qLA hn Tryz.func81 (by kernel_rfl:Tryz.f81.body=some (qAU Tryz.f81)) (by kernel_rfl) (Eq.mpr (by kernel_rfl) h)
theorem qL0 {l0 t1:AV} {K:KvP} {s:Hq} (h:qJ4 XX l0 t1 K s):wC Tryz.prog XX 81 [l0,t1] K s:=qL7 qAy rfl h
def qBl (X:Td)(most6 t21:AV) (I0:IvP) (m0:Nat) (K:KvP) (s:Hq):Prop:=
 oK (qAB .add t21 (.int .i64 1)) λv_24=>∃ m',m' < m0∧I0 [most6,v_24] s m'
def qCz (X:Td)(key1 t4 best5 most6 t19 t20 t21:AV) (I0:IvP) (m0:Nat) (K:KvP) (s:Hq):Prop:=
 oK (qAB .lss t21 t20) λv_14=>qAL v_14
 (oK (qAH 2 t19 t21) λv_15=>oK (rdN s 2 v_15) λv_16=>newK 36 [(.int .u32 0),(.int .i64 0)] (λB17 S18=>oK (qAn S18 2 (.ptr B17 0) (.agg v_16)) λS19=>oK (rdN S19 2 (.ptr B17 0)) λv_20=>funK Tryz.prog X key1 [(.agg v_20)] (λv_21 S22=>oK (qAB .gtr v_21 most6) λv_23=>qAL v_23
 (oK (rdN S22 2 (.ptr B17 0)) λv_25=>oK (qAn S22 2 best5 (.agg v_25)) λS26=>qBl X v_21 t21 I0 m0 K S26)
 (qBl X most6 t21 I0 m0 K S22)) S19) s)
 (oK (rdN s 2 best5) λv_27=>oK (qAn s 2 t4 (.agg v_27)) λS28=>oK (rdN S28 2 t4) λt4_29=>K (.agg t4_29) S28)
def qDF (X:Td)(l0 key1:AV) (K:KvP) (s:Hq):Prop:=
 newK 36 [(.int .u32 0),(.int .i64 0)] (λB0 S1=>oK (qAH 2 l0 (.int .i64 0)) λv_2=>oK (rdN S1 2 v_2) λv_3=>oK (qAH 2 l0 (.int .i64 0)) λv_4=>oK (rdN S1 2 v_4) λv_5=>funK Tryz.prog X key1 [(.agg v_5)] (λv_6 S7=>(∀ b,S1 b≠none→S1 b=none→S7 b=none)→
 newK 36 [(.int .u32 0),(.int .i64 0)] (λB8 S9=>(∀ b,(add S1 S7) b≠none→(cutH [(S1,(add S1 S7))] (add S1 S7)) b=none→S9 b=none)→
 oK (qAn (add (add S1 S7) S9) 2 (.ptr B8 0) (.agg v_3)) λS10=>oK (qCT 2 l0 (some (.int .i64 1)) none none) λv_11=>oK (qAS v_11) λv_12=>∃ I0:IvP,(∃ m,I0 [v_6,(.int .i64 0)] S10 m)∧∀ (f:Env) (s:Hq) (m0:Nat),I0 [f 6,f 21] s m0→
 qCz X key1 (.ptr B0 0) (.ptr B8 0) (f 6) v_11 (.int .i64 v_12) (f 21) I0 m0 K s) (frz (cutH [(S1,(add S1 S7))] (add S1 S7)))) (frz S1)) s
def qE1:Nat→List Nat:=λk=>cond (Nat.beq k 6) [6,21] ([])
theorem qFE {X:Td} (hX:FrX X) (hn:X 82=none) {l0 key1:AV} {K:KvP} {s:Hq} (h:qDF X l0 key1 K s):wC Tryz.prog X 82 [l0,key1] K s:=
 qAE hX qE1 hn Tryz.func82 (by kernel_rfl:Tryz.f82.body=some (qAU Tryz.f82)) (by kernel_rfl) (Eq.mpr (by kernel_rfl) h)
theorem qFH {l0 key1:AV} {K:KvP} {s:Hq} (h:qDF XX l0 key1 K s):wC Tryz.prog XX 82 [l0,key1] K s:=qFE qAy rfl h
end Go.AM
namespace Go.AM
open Go Go.Proofs
set_option maxRecDepth 100000
def qIG (X:Td)(c0:AV) (K:KvP) (s:Hq):Prop:=
 boxK 36 c0 (λB0 S1=>oK (qAI 1 B0) λv_2=>oK (rd1 S1 v_2) λv_3=>K v_3 S1) s
def qJg:Nat→List Nat:=λ_=>[]
theorem qKa {X:Td} (hX:FrX X) (hn:X 83=none) {c0:AV} {K:KvP} {s:Hq} (h:qIG X c0 K s):wC Tryz.prog X 83 [c0] K s:=
 qAE hX qJg hn Tryz.func83 (by kernel_rfl:Tryz.f83.body=some (qAU Tryz.f83)) (by kernel_rfl) (Eq.mpr (by kernel_rfl) h)
theorem qKe {c0:AV} {K:KvP} {s:Hq} (h:qIG XX c0 K s):wC Tryz.prog XX 83 [c0] K s:=qKa qAy rfl h
def qBE (X:Td)(data0 i6 j7 t19 t29:AV) (I1:IvP) (m1:Nat) (I0:IvP) (m0:Nat) (K:KvP) (s:Hq):Prop:=
 oK (qAc t19 t29 (.bool false)) λv_3=>qAL v_3
 (oK (qAB .sub j7 (.int .i64 1)) λv_4=>oK (qAB .sub j7 (.int .i64 1)) λv_5=>oK (qAH 1 data0 v_5) λv_6=>oK (rd1 s v_6) λv_7=>oK (qAH 1 data0 j7) λv_8=>oK (rd1 s v_8) λv_9=>oK (qAH 1 data0 j7) λv_10=>oK (wr1 s v_10 v_7) λS11=>oK (qAH 1 data0 v_4) λv_12=>oK (wr1 S11 v_12 v_9) λS13=>oK (qAB .sub j7 (.int .i64 1)) λv_14=>∃ m',m' < m1∧I1 [v_14] S13 m')
 (oK (qAB .add i6 (.int .i64 1)) λv_15=>∃ m',m' < m0∧I0 [v_15] s m')
def qCm (X:Td)(data0 a1 i6 j7:AV) (I1:IvP) (m1:Nat) (I0:IvP) (m0:Nat) (K:KvP) (s:Hq):Prop:=
 oK (qAB .gtr j7 a1) λv_2=>qAL v_2
 (oK (qAH 1 data0 j7) λv_16=>oK (rd1 s v_16) λv_17=>oK (qAB .sub j7 (.int .i64 1)) λv_18=>oK (qAH 1 data0 v_18) λv_19=>oK (rd1 s v_19) λv_20=>wC Tryz.prog X 102 [v_17,v_20] (λv_21 S22=>qBE X data0 i6 j7 v_2 v_21 I1 m1 I0 m0 K S22) s)
 (qBE X data0 i6 j7 v_2 .undef I1 m1 I0 m0 K s)
def qCg (X:Td)(data0 a1 b2 i6:AV) (I0:IvP) (m0:Nat) (K:KvP) (s:Hq):Prop:=
 oK (qAB .lss i6 b2) λv_1=>qAL v_1
 (∃ I1:IvP,(∃ m,I1 [i6] s m)∧∀ (f:Env) (s:Hq) (m1:Nat),I1 [f 7] s m1→
 qCm X data0 a1 i6 (f 7) I1 m1 I0 m0 K s)
 (K (.tup []) s)
def qB6 (X:Td)(data0 a1 b2:AV) (K:KvP) (s:Hq):Prop:=
 oK (qAB .add a1 (.int .i64 1)) λv_0=>∃ I0:IvP,(∃ m,I0 [v_0] s m)∧∀ (f:Env) (s:Hq) (m0:Nat),I0 [f 6] s m0→
 qCg X data0 a1 b2 (f 6) I0 m0 K s
def qEl:Nat→List Nat:=λk=>cond (Nat.beq k 2) [6] (cond (Nat.beq k 8) [7] ([]))
theorem qEz {X:Td} (hX:FrX X) (hn:X 96=none) {data0 a1 b2:AV} {K:KvP} {s:Hq} (h:qB6 X data0 a1 b2 K s):wC Tryz.prog X 96 [data0,a1,b2] K s:=
 qAE hX qEl hn Tryz.func96 (by kernel_rfl:Tryz.f96.body=some (qAU Tryz.f96)) (by kernel_rfl) (Eq.mpr (by kernel_rfl) h)
theorem qCn {data0 a1 b2:AV} {K:KvP} {s:Hq} (h:qB6 XX data0 a1 b2 K s):wC Tryz.prog XX 96 [data0,a1,b2] K s:=qEz qAy rfl h
def qDS (X:Td)(data0 first6 lo7 i10:AV) (I1:IvP) (m1:Nat) (K:KvP) (s:Hq):Prop:=
 oK (qAB .geq i10 (.int .i64 0)) λv_8=>qAL v_8
 (oK (qAB .add first6 i10) λv_9=>oK (qAB .add first6 i10) λv_10=>oK (qAH 1 data0 v_10) λv_11=>oK (rd1 s v_11) λv_12=>oK (qAH 1 data0 first6) λv_13=>oK (rd1 s v_13) λv_14=>oK (qAH 1 data0 first6) λv_15=>oK (wr1 s v_15 v_12) λS16=>oK (qAH 1 data0 v_9) λv_17=>oK (wr1 S16 v_17 v_14) λS18=>wC Tryz.prog X 126 [data0,lo7,i10,first6] (λv_19 S20=>oK (qAB .sub i10 (.int .i64 1)) λv_21=>∃ m',m' < m1∧I1 [v_21] S20 m') S18)
 (K (.tup []) s)
def qDP (X:Td)(data0 first6 lo7 hi8 i9:AV) (I0:IvP) (m0:Nat) (K:KvP) (s:Hq):Prop:=
 oK (qAB .geq i9 (.int .i64 0)) λv_3=>qAL v_3
 (wC Tryz.prog X 126 [data0,i9,hi8,first6] (λv_4 S5=>oK (qAB .sub i9 (.int .i64 1)) λv_6=>∃ m',m' < m0∧I0 [v_6] S5 m') s)
 (oK (qAB .sub hi8 (.int .i64 1)) λv_7=>∃ I1:IvP,(∃ m,I1 [v_7] s m)∧∀ (f:Env) (s:Hq) (m1:Nat),I1 [f 10] s m1→
 qDS X data0 first6 lo7 (f 10) I1 m1 K s)
def qCp (X:Td)(data0 a1 b2:AV) (K:KvP) (s:Hq):Prop:=
 oK (qAB .sub b2 a1) λv_0=>oK (qAB .sub v_0 (.int .i64 1)) λv_1=>oK (qAB .quo v_1 (.int .i64 2)) λv_2=>∃ I0:IvP,(∃ m,I0 [v_2] s m)∧∀ (f:Env) (s:Hq) (m0:Nat),I0 [f 9] s m0→
 qDP X data0 a1 (.int .i64 0) v_0 (f 9) I0 m0 K s
def qFu:Nat→List Nat:=λk=>cond (Nat.beq k 8) [9] (cond (Nat.beq k 16) [10] ([]))
theorem qF7 {X:Td} (hX:FrX X) (hn:X 97=none) {data0 a1 b2:AV} {K:KvP} {s:Hq} (h:qCp X data0 a1 b2 K s):wC Tryz.prog X 97 [data0,a1,b2] K s:=
 qAE hX qFu hn Tryz.func97 (by kernel_rfl:Tryz.f97.body=some (qAU Tryz.f97)) (by kernel_rfl) (Eq.mpr (by kernel_rfl) h)
theorem qF6 {data0 a1 b2:AV} {K:KvP} {s:Hq} (h:qCp XX data0 a1 b2 K s):wC Tryz.prog XX 97 [data0,a1,b2] K s:=qF7 qAy rfl h
def qBD (X:Td)(data0 a1 idx9 other10:AV) (I0:IvP) (m0:Nat) (K:KvP) (s:Hq):Prop:=
 oK (qAB .add a1 other10) λv_23=>oK (qAB .add a1 other10) λv_24=>oK (qAH 1 data0 v_24) λv_25=>oK (rd1 s v_25) λv_26=>oK (qAH 1 data0 idx9) λv_27=>oK (rd1 s v_27) λv_28=>oK (qAH 1 data0 idx9) λv_29=>oK (wr1 s v_29 v_26) λS30=>oK (qAH 1 data0 v_23) λv_31=>oK (wr1 S30 v_31 v_28) λS32=>oK (qAB .add idx9 (.int .i64 1)) λv_33=>∃ m',m' < m0∧I0 [v_33] S32 m'
def qCi (X:Td)(data0 a1 length6 random7 modulus8 idx9:AV) (I0:IvP) (m0:Nat) (K:KvP) (s:Hq):Prop:=
 oK (qAB .quo length6 (.int .i64 4)) λv_12=>oK (qAB .mul v_12 (.int .i64 2)) λv_13=>oK (qAB .add a1 v_13) λv_14=>oK (qAB .add v_14 (.int .i64 1)) λv_15=>oK (qAB .leq idx9 v_15) λv_16=>qAL v_16
 (wC Tryz.prog X 128 [random7] (λv_17 S18=>oK (qAB .sub modulus8 (.int .u64 1)) λv_19=>oK (qAB .and v_17 v_19) λv_20=>oK (qBf .i64 v_20) λv_21=>oK (qAB .geq v_21 length6) λv_22=>qAL v_22
 (oK (qAB .sub v_21 length6) λv_34=>qBD X data0 a1 idx9 v_34 I0 m0 K S18)
 (qBD X data0 a1 idx9 v_21 I0 m0 K S18)) s)
 (K (.tup []) s)
def qB4 (X:Td)(data0 a1 b2:AV) (K:KvP) (s:Hq):Prop:=
 oK (qAB .sub b2 a1) λv_0=>oK (qAB .geq v_0 (.int .i64 8)) λv_1=>qAL v_1
 (oK (qBf .u64 v_0) λv_2=>newK 198 [(.int .u64 0)] (λB3 S4=>oK (wr1 S4 (.ptr B3 0) v_2) λS5=>wC Tryz.prog X 127 [v_0] (λv_6 S7=>oK (qAB .quo v_0 (.int .i64 4)) λv_8=>oK (qAB .mul v_8 (.int .i64 2)) λv_9=>oK (qAB .add a1 v_9) λv_10=>oK (qAB .sub v_10 (.int .i64 1)) λv_11=>∃ I0:IvP,(∃ m,I0 [v_11] S7 m)∧∀ (f:Env) (s:Hq) (m0:Nat),I0 [f 9] s m0→
 qCi X data0 a1 v_0 (.ptr B3 0) v_6 (f 9) I0 m0 K s) S5) s)
 (K (.tup []) s)
def qEZ:Nat→List Nat:=λk=>cond (Nat.beq k 10) [9] ([])
theorem qEy {X:Td} (hX:FrX X) (hn:X 98=none) {data0 a1 b2:AV} {K:KvP} {s:Hq} (h:qB4 X data0 a1 b2 K s):wC Tryz.prog X 98 [data0,a1,b2] K s:=
 qAE hX qEZ hn Tryz.func98 (by kernel_rfl:Tryz.f98.body=some (qAU Tryz.f98)) (by kernel_rfl) (Eq.mpr (by kernel_rfl) h)
theorem qEw {data0 a1 b2:AV} {K:KvP} {s:Hq} (h:qB4 XX data0 a1 b2 K s):wC Tryz.prog XX 98 [data0,a1,b2] K s:=qEy qAy rfl h
def qBs (X:Td)(swaps9 j11:AV) (K:KvP) (s:Hq):Prop:=
 oK (rd1 s swaps9) λv_13=>oK (negB false (eqV 0 true v_13 (.int .i64 0))) λv_14=>qAL v_14
 (K (.tup [j11,(.int .i64 1)]) s)
 (oK (negB false (eqV 0 true v_13 (.int .i64 12))) λv_15=>qAL v_15
 (K (.tup [j11,(.int .i64 2)]) s)
 (K (.tup [j11,(.int .i64 0)]) s))
def qBt (X:Td)(data0 swaps9 i10 j11 k12:AV) (K:KvP) (s:Hq):Prop:=
 wC Tryz.prog X 130 [data0,i10,j11,k12,swaps9] (λv_17 S18=>qBs X swaps9 v_17 K S18) s
def qCM (X:Td)(data0 a1 b2:AV) (K:KvP) (s:Hq):Prop:=
 oK (qAB .sub b2 a1) λv_0=>newK 3 [(.int .i64 0)] (λB1 S2=>oK (qAB .quo v_0 (.int .i64 4)) λv_3=>oK (qAB .mul v_3 (.int .i64 1)) λv_4=>oK (qAB .add a1 v_4) λv_5=>oK (qAB .quo v_0 (.int .i64 4)) λv_6=>oK (qAB .mul v_6 (.int .i64 2)) λv_7=>oK (qAB .add a1 v_7) λv_8=>oK (qAB .quo v_0 (.int .i64 4)) λv_9=>oK (qAB .mul v_9 (.int .i64 3)) λv_10=>oK (qAB .add a1 v_10) λv_11=>oK (qAB .geq v_0 (.int .i64 8)) λv_12=>qAL v_12
 (oK (qAB .geq v_0 (.int .i64 50)) λv_16=>qAL v_16
 (wC Tryz.prog X 129 [data0,v_5,(.ptr B1 0)] (λv_19 S20=>wC Tryz.prog X 129 [data0,v_8,(.ptr B1 0)] (λv_21 S22=>wC Tryz.prog X 129 [data0,v_11,(.ptr B1 0)] (λv_23 S24=>qBt X data0 (.ptr B1 0) v_19 v_21 v_23 K S24) S22) S20) S2)
 (qBt X data0 (.ptr B1 0) v_5 v_8 v_11 K S2))
 (qBs X (.ptr B1 0) v_8 K S2)) s
def qE7:Nat→List Nat:=λ_=>[]
theorem qFO {X:Td} (hX:FrX X) (hn:X 99=none) {data0 a1 b2:AV} {K:KvP} {s:Hq} (h:qCM X data0 a1 b2 K s):wC Tryz.prog X 99 [data0,a1,b2] K s:=
 qAE hX qE7 hn Tryz.func99 (by kernel_rfl:Tryz.f99.body=some (qAU Tryz.f99)) (by kernel_rfl) (Eq.mpr (by kernel_rfl) h)
theorem qFN {data0 a1 b2:AV} {K:KvP} {s:Hq} (h:qCM XX data0 a1 b2 K s):wC Tryz.prog XX 99 [data0,a1,b2] K s:=qFO qAy rfl h
def qCv (X:Td)(data0 i6 j7:AV) (I0:IvP) (m0:Nat) (K:KvP) (s:Hq):Prop:=
 oK (qAB .lss i6 j7) λv_1=>qAL v_1
 (oK (qAH 1 data0 j7) λv_2=>oK (rd1 s v_2) λv_3=>oK (qAH 1 data0 i6) λv_4=>oK (rd1 s v_4) λv_5=>oK (qAH 1 data0 i6) λv_6=>oK (wr1 s v_6 v_3) λS7=>oK (qAH 1 data0 j7) λv_8=>oK (wr1 S7 v_8 v_5) λS9=>oK (qAB .add i6 (.int .i64 1)) λv_10=>oK (qAB .sub j7 (.int .i64 1)) λv_11=>∃ m',m' < m0∧I0 [v_10,v_11] S9 m')
 (K (.tup []) s)
def qCD (X:Td)(data0 a1 b2:AV) (K:KvP) (s:Hq):Prop:=
 oK (qAB .sub b2 (.int .i64 1)) λv_0=>∃ I0:IvP,(∃ m,I0 [a1,v_0] s m)∧∀ (f:Env) (s:Hq) (m0:Nat),I0 [f 6,f 7] s m0→
 qCv X data0 (f 6) (f 7) I0 m0 K s
def qEu:Nat→List Nat:=λk=>cond (Nat.beq k 4) [6,7] ([])
theorem qE4 {X:Td} (hX:FrX X) (hn:X 100=none) {data0 a1 b2:AV} {K:KvP} {s:Hq} (h:qCD X data0 a1 b2 K s):wC Tryz.prog X 100 [data0,a1,b2] K s:=
 qAE hX qEu hn Tryz.func100 (by kernel_rfl:Tryz.f100.body=some (qAU Tryz.f100)) (by kernel_rfl) (Eq.mpr (by kernel_rfl) h)
theorem qE3 {data0 a1 b2:AV} {K:KvP} {s:Hq} (h:qCD XX data0 a1 b2 K s):wC Tryz.prog XX 100 [data0,a1,b2] K s:=qE4 qAy rfl h
def qAi (X:Td)(i7 j8:AV) (I0:IvP) (m0:Nat) (K:KvP) (s:Hq):Prop:=
 oK (qAB .add j8 (.int .i64 1)) λv_22=>∃ m',m' < m0∧I0 [i7,v_22] s m'
def qBz (X:Td)(data0 b2 i7 j8 j10:AV) (I5:IvP) (m5:Nat) (I0:IvP) (m0:Nat) (K:KvP) (s:Hq):Prop:=
 oK (qAB .lss j10 b2) λv_24=>qAL v_24
 (oK (qAH 1 data0 j10) λv_25=>oK (rd1 s v_25) λv_26=>oK (qAB .sub j10 (.int .i64 1)) λv_27=>oK (qAH 1 data0 v_27) λv_28=>oK (rd1 s v_28) λv_29=>wC Tryz.prog X 102 [v_26,v_29] (λv_30 S31=>oK (qBm .not v_30) λv_32=>qAL v_32
 (qAi X i7 j8 I0 m0 K S31)
 (oK (qAB .sub j10 (.int .i64 1)) λv_33=>oK (qAB .sub j10 (.int .i64 1)) λv_34=>oK (qAH 1 data0 v_34) λv_35=>oK (rd1 S31 v_35) λv_36=>oK (qAH 1 data0 j10) λv_37=>oK (rd1 S31 v_37) λv_38=>oK (qAH 1 data0 j10) λv_39=>oK (wr1 S31 v_39 v_36) λS40=>oK (qAH 1 data0 v_33) λv_41=>oK (wr1 S40 v_41 v_38) λS42=>oK (qAB .add j10 (.int .i64 1)) λv_43=>∃ m',m' < m5∧I5 [v_43] S42 m')) s)
 (qAi X i7 j8 I0 m0 K s)
def qAd (X:Td)(data0 b2 i7 j8:AV) (I0:IvP) (m0:Nat) (K:KvP) (s:Hq):Prop:=
 oK (qAB .sub b2 i7) λv_20=>oK (qAB .geq v_20 (.int .i64 2)) λv_21=>qAL v_21
 (oK (qAB .add i7 (.int .i64 1)) λv_23=>∃ I5:IvP,(∃ m,I5 [v_23] s m)∧∀ (f:Env) (s:Hq) (m5:Nat),I5 [f 10] s m5→
 qBz X data0 b2 i7 j8 (f 10) I5 m5 I0 m0 K s)
 (qAi X i7 j8 I0 m0 K s)
def qB1 (X:Td)(data0 b2 i7 j8 j9:AV) (I6:IvP) (m6:Nat) (I0:IvP) (m0:Nat) (K:KvP) (s:Hq):Prop:=
 oK (qAB .geq j9 (.int .i64 1)) λv_45=>qAL v_45
 (oK (qAH 1 data0 j9) λv_46=>oK (rd1 s v_46) λv_47=>oK (qAB .sub j9 (.int .i64 1)) λv_48=>oK (qAH 1 data0 v_48) λv_49=>oK (rd1 s v_49) λv_50=>wC Tryz.prog X 102 [v_47,v_50] (λv_51 S52=>oK (qBm .not v_51) λv_53=>qAL v_53
 (qAd X data0 b2 i7 j8 I0 m0 K S52)
 (oK (qAB .sub j9 (.int .i64 1)) λv_54=>oK (qAB .sub j9 (.int .i64 1)) λv_55=>oK (qAH 1 data0 v_55) λv_56=>oK (rd1 S52 v_56) λv_57=>oK (qAH 1 data0 j9) λv_58=>oK (rd1 S52 v_58) λv_59=>oK (qAH 1 data0 j9) λv_60=>oK (wr1 S52 v_60 v_57) λS61=>oK (qAH 1 data0 v_54) λv_62=>oK (wr1 S61 v_62 v_59) λS63=>oK (qAB .sub j9 (.int .i64 1)) λv_64=>∃ m',m' < m6∧I6 [v_64] S63 m')) s)
 (qAd X data0 b2 i7 j8 I0 m0 K s)
def qAu (X:Td)(data0 a1 b2 i7 j8 t20 t31:AV) (I1:IvP) (m1:Nat) (I0:IvP) (m0:Nat) (K:KvP) (s:Hq):Prop:=
 oK (qAc t20 t31 (.bool false)) λv_3=>qAL v_3
 (oK (qAB .add i7 (.int .i64 1)) λv_4=>∃ m',m' < m1∧I1 [v_4] s m')
 (oK (negB false (eqV 0 false i7 b2)) λv_5=>qAL v_5
 (K (.bool true) s)
 (oK (qAB .sub b2 a1) λv_6=>oK (qAB .lss v_6 (.int .i64 50)) λv_7=>qAL v_7
 (K (.bool false) s)
 (oK (qAB .sub i7 (.int .i64 1)) λv_8=>oK (qAB .sub i7 (.int .i64 1)) λv_9=>oK (qAH 1 data0 v_9) λv_10=>oK (rd1 s v_10) λv_11=>oK (qAH 1 data0 i7) λv_12=>oK (rd1 s v_12) λv_13=>oK (qAH 1 data0 i7) λv_14=>oK (wr1 s v_14 v_11) λS15=>oK (qAH 1 data0 v_8) λv_16=>oK (wr1 S15 v_16 v_13) λS17=>oK (qAB .sub i7 a1) λv_18=>oK (qAB .geq v_18 (.int .i64 2)) λv_19=>qAL v_19
 (oK (qAB .sub i7 (.int .i64 1)) λv_44=>∃ I6:IvP,(∃ m,I6 [v_44] S17 m)∧∀ (f:Env) (s:Hq) (m6:Nat),I6 [f 9] s m6→
 qB1 X data0 b2 i7 j8 (f 9) I6 m6 I0 m0 K s)
 (qAd X data0 b2 i7 j8 I0 m0 K S17))))
def qB2 (X:Td)(data0 a1 b2 i7 j8:AV) (I1:IvP) (m1:Nat) (I0:IvP) (m0:Nat) (K:KvP) (s:Hq):Prop:=
 oK (qAB .lss i7 b2) λv_2=>qAL v_2
 (oK (qAH 1 data0 i7) λv_65=>oK (rd1 s v_65) λv_66=>oK (qAB .sub i7 (.int .i64 1)) λv_67=>oK (qAH 1 data0 v_67) λv_68=>oK (rd1 s v_68) λv_69=>wC Tryz.prog X 102 [v_66,v_69] (λv_70 S71=>oK (qBm .not v_70) λv_72=>qAu X data0 a1 b2 i7 j8 v_2 v_72 I1 m1 I0 m0 K S71) s)
 (qAu X data0 a1 b2 i7 j8 v_2 .undef I1 m1 I0 m0 K s)
def qBy (X:Td)(data0 a1 b2 i7 j8:AV) (I0:IvP) (m0:Nat) (K:KvP) (s:Hq):Prop:=
 oK (qAB .lss j8 (.int .i64 5)) λv_1=>qAL v_1
 (∃ I1:IvP,(∃ m,I1 [i7] s m)∧∀ (f:Env) (s:Hq) (m1:Nat),I1 [f 7] s m1→
 qB2 X data0 a1 b2 (f 7) j8 I1 m1 I0 m0 K s)
 (K (.bool false) s)
def qBN (X:Td)(data0 a1 b2:AV) (K:KvP) (s:Hq):Prop:=
 oK (qAB .add a1 (.int .i64 1)) λv_0=>∃ I0:IvP,(∃ m,I0 [v_0,(.int .i64 0)] s m)∧∀ (f:Env) (s:Hq) (m0:Nat),I0 [f 7,f 8] s m0→
 qBy X data0 a1 b2 (f 7) (f 8) I0 m0 K s
def qDU:Nat→List Nat:=λk=>cond (Nat.beq k 6) [7,8] (cond (Nat.beq k 10) [7] (cond (Nat.beq k 40) [10] (cond (Nat.beq k 28) [9] ([]))))
theorem qDZ {X:Td} (hX:FrX X) (hn:X 101=none) {data0 a1 b2:AV} {K:KvP} {s:Hq} (h:qBN X data0 a1 b2 K s):wC Tryz.prog X 101 [data0,a1,b2] K s:=
 qAE hX qDU hn Tryz.func101 (by kernel_rfl:Tryz.f101.body=some (qAU Tryz.f101)) (by kernel_rfl) (Eq.mpr (by kernel_rfl) h)
theorem qDf {data0 a1 b2:AV} {K:KvP} {s:Hq} (h:qBN XX data0 a1 b2 K s):wC Tryz.prog XX 101 [data0,a1,b2] K s:=qDZ qAy rfl h
def qDb (X:Td)(t12 t15:AV) (K:KvP) (s:Hq):Prop:=
 oK (qAc t12 (.bool true) t15) λv_3=>K v_3 s
def qDd (X:Td)(x0 y1 t7 t10:AV) (K:KvP) (s:Hq):Prop:=
 oK (qAc t7 t10 (.bool false)) λv_2=>qAL v_2
 (qDb X v_2 .undef K s)
 (oK (qAB .lss x0 y1) λv_4=>qDb X v_2 v_4 K s)
def qG2 (X:Td)(x0 y1:AV) (K:KvP) (s:Hq):Prop:=
 wC Tryz.prog X 75 [x0] (λv_0 S1=>qAL v_0
 (wC Tryz.prog X 75 [y1] (λv_5 S6=>oK (qBm .not v_5) λv_7=>qDd X x0 y1 v_0 v_7 K S6) S1)
 (qDd X x0 y1 v_0 .undef K S1)) s
def qIq:Nat→List Nat:=λ_=>[]
theorem qJC {X:Td} (hX:FrX X) (hn:X 102=none) {x0 y1:AV} {K:KvP} {s:Hq} (h:qG2 X x0 y1 K s):wC Tryz.prog X 102 [x0,y1] K s:=
 qAE hX qIq hn Tryz.func102 (by kernel_rfl:Tryz.f102.body=some (qAU Tryz.f102)) (by kernel_rfl) (Eq.mpr (by kernel_rfl) h)
theorem qJG {x0 y1:AV} {K:KvP} {s:Hq} (h:qG2 XX x0 y1 K s):wC Tryz.prog XX 102 [x0,y1] K s:=qJC qAy rfl h
def qBA (X:Td)(data0 i9 j10 t49 t58:AV) (I3:IvP) (m3:Nat) (I0:IvP) (m0:Nat) (K:KvP) (s:Hq):Prop:=
 oK (qAc t49 t58 (.bool false)) λv_14=>qAL v_14
 (oK (qAB .sub j10 (.int .i64 1)) λv_15=>∃ m',m' < m3∧I3 [v_15] s m')
 (oK (qAB .gtr i9 j10) λv_16=>qAL v_16
 (K i9 s)
 (oK (qAH 1 data0 j10) λv_17=>oK (rd1 s v_17) λv_18=>oK (qAH 1 data0 i9) λv_19=>oK (rd1 s v_19) λv_20=>oK (qAH 1 data0 i9) λv_21=>oK (wr1 s v_21 v_18) λS22=>oK (qAH 1 data0 j10) λv_23=>oK (wr1 S22 v_23 v_20) λS24=>oK (qAB .add i9 (.int .i64 1)) λv_25=>oK (qAB .sub j10 (.int .i64 1)) λv_26=>∃ m',m' < m0∧I0 [v_25,v_26] S24 m'))
def qBd (X:Td)(data0 a1 i9 j10:AV) (I3:IvP) (m3:Nat) (I0:IvP) (m0:Nat) (K:KvP) (s:Hq):Prop:=
 oK (qAB .leq i9 j10) λv_13=>qAL v_13
 (oK (qAH 1 data0 a1) λv_27=>oK (rd1 s v_27) λv_28=>oK (qAH 1 data0 j10) λv_29=>oK (rd1 s v_29) λv_30=>wC Tryz.prog X 102 [v_28,v_30] (λv_31 S32=>qBA X data0 i9 j10 v_13 v_31 I3 m3 I0 m0 K S32) s)
 (qBA X data0 i9 j10 v_13 .undef I3 m3 I0 m0 K s)
def qBB (X:Td)(data0 a1 i9 j10 t32 t42:AV) (I1:IvP) (m1:Nat) (I0:IvP) (m0:Nat) (K:KvP) (s:Hq):Prop:=
 oK (qAc t32 t42 (.bool false)) λv_11=>qAL v_11
 (oK (qAB .add i9 (.int .i64 1)) λv_12=>∃ m',m' < m1∧I1 [v_12,j10] s m')
 (∃ I3:IvP,(∃ m,I3 [j10] s m)∧∀ (f:Env) (s:Hq) (m3:Nat),I3 [f 10] s m3→
 qBd X data0 a1 i9 (f 10) I3 m3 I0 m0 K s)
def qCZ (X:Td)(data0 a1 i9 j10:AV) (I1:IvP) (m1:Nat) (I0:IvP) (m0:Nat) (K:KvP) (s:Hq):Prop:=
 oK (qAB .leq i9 j10) λv_10=>qAL v_10
 (oK (qAH 1 data0 a1) λv_33=>oK (rd1 s v_33) λv_34=>oK (qAH 1 data0 i9) λv_35=>oK (rd1 s v_35) λv_36=>wC Tryz.prog X 102 [v_34,v_36] (λv_37 S38=>oK (qBm .not v_37) λv_39=>qBB X data0 a1 i9 j10 v_10 v_39 I1 m1 I0 m0 K S38) s)
 (qBB X data0 a1 i9 j10 v_10 .undef I1 m1 I0 m0 K s)
def qEk (X:Td)(data0 a1 i9 j10:AV) (I0:IvP) (m0:Nat) (K:KvP) (s:Hq):Prop:=
 ∃ I1:IvP,(∃ m,I1 [i9,j10] s m)∧∀ (f:Env) (s:Hq) (m1:Nat),I1 [f 9,f 10] s m1→
 qCZ X data0 a1 (f 9) j10 I1 m1 I0 m0 K s
def qBu (X:Td)(data0 a1 b2 pivot3:AV) (K:KvP) (s:Hq):Prop:=
 oK (qAH 1 data0 pivot3) λv_0=>oK (rd1 s v_0) λv_1=>oK (qAH 1 data0 a1) λv_2=>oK (rd1 s v_2) λv_3=>oK (qAH 1 data0 a1) λv_4=>oK (wr1 s v_4 v_1) λS5=>oK (qAH 1 data0 pivot3) λv_6=>oK (wr1 S5 v_6 v_3) λS7=>oK (qAB .add a1 (.int .i64 1)) λv_8=>oK (qAB .sub b2 (.int .i64 1)) λv_9=>∃ I0:IvP,(∃ m,I0 [v_8,v_9] S7 m)∧∀ (f:Env) (s:Hq) (m0:Nat),I0 [f 9,f 10] s m0→
 qEk X data0 a1 (f 9) (f 10) I0 m0 K s
def qEA:Nat→List Nat:=λk=>cond (Nat.beq k 6) [9,10] (cond (Nat.beq k 10) [10] ([]))
theorem qEa {X:Td} (hX:FrX X) (hn:X 103=none) {data0 a1 b2 pivot3:AV} {K:KvP} {s:Hq} (h:qBu X data0 a1 b2 pivot3 K s):wC Tryz.prog X 103 [data0,a1,b2,pivot3] K s:=
 qAE hX qEA hn Tryz.func103 (by kernel_rfl:Tryz.f103.body=some (qAU Tryz.f103)) (by kernel_rfl) (Eq.mpr (by kernel_rfl) h)
theorem qEf {data0 a1 b2 pivot3:AV} {K:KvP} {s:Hq} (h:qBu XX data0 a1 b2 pivot3 K s):wC Tryz.prog XX 103 [data0,a1,b2,pivot3] K s:=qEa qAy rfl h
def qBP (X:Td)(data0 a1 i10 j11 t118 t128:AV) (I7:IvP) (m7:Nat) (I4:IvP) (m4:Nat) (K:KvP) (s:Hq):Prop:=
 oK (qAc t118 t128 (.bool false)) λv_39=>qAL v_39
 (oK (qAB .sub j11 (.int .i64 1)) λv_40=>∃ m',m' < m7∧I7 [v_40] s m')
 (oK (qAB .gtr i10 j11) λv_41=>qAL v_41
 (oK (qAH 1 data0 a1) λv_42=>oK (rd1 s v_42) λv_43=>oK (qAH 1 data0 j11) λv_44=>oK (rd1 s v_44) λv_45=>oK (qAH 1 data0 j11) λv_46=>oK (wr1 s v_46 v_43) λS47=>oK (qAH 1 data0 a1) λv_48=>oK (wr1 S47 v_48 v_45) λS49=>K (.tup [j11,(.bool false)]) S49)
 (oK (qAH 1 data0 j11) λv_50=>oK (rd1 s v_50) λv_51=>oK (qAH 1 data0 i10) λv_52=>oK (rd1 s v_52) λv_53=>oK (qAH 1 data0 i10) λv_54=>oK (wr1 s v_54 v_51) λS55=>oK (qAH 1 data0 j11) λv_56=>oK (wr1 S55 v_56 v_53) λS57=>oK (qAB .add i10 (.int .i64 1)) λv_58=>oK (qAB .sub j11 (.int .i64 1)) λv_59=>∃ m',m' < m4∧I4 [v_58,v_59] S57 m'))
def qCC (X:Td)(data0 a1 i10 j11:AV) (I7:IvP) (m7:Nat) (I4:IvP) (m4:Nat) (K:KvP) (s:Hq):Prop:=
 oK (qAB .leq i10 j11) λv_38=>qAL v_38
 (oK (qAH 1 data0 j11) λv_60=>oK (rd1 s v_60) λv_61=>oK (qAH 1 data0 a1) λv_62=>oK (rd1 s v_62) λv_63=>wC Tryz.prog X 102 [v_61,v_63] (λv_64 S65=>oK (qBm .not v_64) λv_66=>qBP X data0 a1 i10 j11 v_38 v_66 I7 m7 I4 m4 K S65) s)
 (qBP X data0 a1 i10 j11 v_38 .undef I7 m7 I4 m4 K s)
def qBT (X:Td)(data0 a1 i10 j11 t102 t111:AV) (I5:IvP) (m5:Nat) (I4:IvP) (m4:Nat) (K:KvP) (s:Hq):Prop:=
 oK (qAc t102 t111 (.bool false)) λv_36=>qAL v_36
 (oK (qAB .add i10 (.int .i64 1)) λv_37=>∃ m',m' < m5∧I5 [v_37,j11] s m')
 (∃ I7:IvP,(∃ m,I7 [j11] s m)∧∀ (f:Env) (s:Hq) (m7:Nat),I7 [f 11] s m7→
 qCC X data0 a1 i10 (f 11) I7 m7 I4 m4 K s)
def qDH (X:Td)(data0 a1 i10 j11:AV) (I5:IvP) (m5:Nat) (I4:IvP) (m4:Nat) (K:KvP) (s:Hq):Prop:=
 oK (qAB .leq i10 j11) λv_35=>qAL v_35
 (oK (qAH 1 data0 i10) λv_67=>oK (rd1 s v_67) λv_68=>oK (qAH 1 data0 a1) λv_69=>oK (rd1 s v_69) λv_70=>wC Tryz.prog X 102 [v_68,v_70] (λv_71 S72=>qBT X data0 a1 i10 j11 v_35 v_71 I5 m5 I4 m4 K S72) s)
 (qBT X data0 a1 i10 j11 v_35 .undef I5 m5 I4 m4 K s)
def qCE (X:Td)(data0 a1 i10 j11:AV) (I4:IvP) (m4:Nat) (K:KvP) (s:Hq):Prop:=
 ∃ I5:IvP,(∃ m,I5 [i10,j11] s m)∧∀ (f:Env) (s:Hq) (m5:Nat),I5 [f 10,f 11] s m5→
 qDH X data0 a1 (f 10) j11 I5 m5 I4 m4 K s
def qBU (X:Td)(data0 a1 i10 j11 t49 t59:AV) (I2:IvP) (m2:Nat) (K:KvP) (s:Hq):Prop:=
 oK (qAc t49 t59 (.bool false)) λv_14=>qAL v_14
 (oK (qAB .sub j11 (.int .i64 1)) λv_15=>∃ m',m' < m2∧I2 [v_15] s m')
 (oK (qAB .gtr i10 j11) λv_16=>qAL v_16
 (oK (qAH 1 data0 a1) λv_17=>oK (rd1 s v_17) λv_18=>oK (qAH 1 data0 j11) λv_19=>oK (rd1 s v_19) λv_20=>oK (qAH 1 data0 j11) λv_21=>oK (wr1 s v_21 v_18) λS22=>oK (qAH 1 data0 a1) λv_23=>oK (wr1 S22 v_23 v_20) λS24=>K (.tup [j11,(.bool true)]) S24)
 (oK (qAH 1 data0 j11) λv_25=>oK (rd1 s v_25) λv_26=>oK (qAH 1 data0 i10) λv_27=>oK (rd1 s v_27) λv_28=>oK (qAH 1 data0 i10) λv_29=>oK (wr1 s v_29 v_26) λS30=>oK (qAH 1 data0 j11) λv_31=>oK (wr1 S30 v_31 v_28) λS32=>oK (qAB .add i10 (.int .i64 1)) λv_33=>oK (qAB .sub j11 (.int .i64 1)) λv_34=>∃ I4:IvP,(∃ m,I4 [v_33,v_34] S32 m)∧∀ (f:Env) (s:Hq) (m4:Nat),I4 [f 10,f 11] s m4→
 qCE X data0 a1 (f 10) (f 11) I4 m4 K s))
def qCB (X:Td)(data0 a1 i10 j11:AV) (I2:IvP) (m2:Nat) (K:KvP) (s:Hq):Prop:=
 oK (qAB .leq i10 j11) λv_13=>qAL v_13
 (oK (qAH 1 data0 j11) λv_73=>oK (rd1 s v_73) λv_74=>oK (qAH 1 data0 a1) λv_75=>oK (rd1 s v_75) λv_76=>wC Tryz.prog X 102 [v_74,v_76] (λv_77 S78=>oK (qBm .not v_77) λv_79=>qBU X data0 a1 i10 j11 v_13 v_79 I2 m2 K S78) s)
 (qBU X data0 a1 i10 j11 v_13 .undef I2 m2 K s)
def qBQ (X:Td)(data0 a1 i10 j11 t33 t42:AV) (I0:IvP) (m0:Nat) (K:KvP) (s:Hq):Prop:=
 oK (qAc t33 t42 (.bool false)) λv_11=>qAL v_11
 (oK (qAB .add i10 (.int .i64 1)) λv_12=>∃ m',m' < m0∧I0 [v_12] s m')
 (∃ I2:IvP,(∃ m,I2 [j11] s m)∧∀ (f:Env) (s:Hq) (m2:Nat),I2 [f 11] s m2→
 qCB X data0 a1 i10 (f 11) I2 m2 K s)
def qDD (X:Td)(data0 a1 i10 j11:AV) (I0:IvP) (m0:Nat) (K:KvP) (s:Hq):Prop:=
 oK (qAB .leq i10 j11) λv_10=>qAL v_10
 (oK (qAH 1 data0 i10) λv_80=>oK (rd1 s v_80) λv_81=>oK (qAH 1 data0 a1) λv_82=>oK (rd1 s v_82) λv_83=>wC Tryz.prog X 102 [v_81,v_83] (λv_84 S85=>qBQ X data0 a1 i10 j11 v_10 v_84 I0 m0 K S85) s)
 (qBQ X data0 a1 i10 j11 v_10 .undef I0 m0 K s)
def qCb (X:Td)(data0 a1 b2 pivot3:AV) (K:KvP) (s:Hq):Prop:=
 oK (qAH 1 data0 pivot3) λv_0=>oK (rd1 s v_0) λv_1=>oK (qAH 1 data0 a1) λv_2=>oK (rd1 s v_2) λv_3=>oK (qAH 1 data0 a1) λv_4=>oK (wr1 s v_4 v_1) λS5=>oK (qAH 1 data0 pivot3) λv_6=>oK (wr1 S5 v_6 v_3) λS7=>oK (qAB .add a1 (.int .i64 1)) λv_8=>oK (qAB .sub b2 (.int .i64 1)) λv_9=>∃ I0:IvP,(∃ m,I0 [v_8] S7 m)∧∀ (f:Env) (s:Hq) (m0:Nat),I0 [f 10] s m0→
 qDD X data0 a1 (f 10) v_9 I0 m0 K s
def qFV:Nat→List Nat:=λk=>cond (Nat.beq k 6) [10] (cond (Nat.beq k 10) [11] (cond (Nat.beq k 26) [10,11] (cond (Nat.beq k 30) [11] ([]))))
theorem qFv {X:Td} (hX:FrX X) (hn:X 104=none) {data0 a1 b2 pivot3:AV} {K:KvP} {s:Hq} (h:qCb X data0 a1 b2 pivot3 K s):wC Tryz.prog X 104 [data0,a1,b2,pivot3] K s:=
 qAE hX qFV hn Tryz.func104 (by kernel_rfl:Tryz.f104.body=some (qAU Tryz.f104)) (by kernel_rfl) (Eq.mpr (by kernel_rfl) h)
theorem qFs {data0 a1 b2 pivot3:AV} {K:KvP} {s:Hq} (h:qCb XX data0 a1 b2 pivot3 K s):wC Tryz.prog XX 104 [data0,a1,b2,pivot3] K s:=qFv qAy rfl h
end Go.AM
namespace Go.AM
open Go Go.Proofs
set_option maxRecDepth 100000
def qDs (X:Td)(x0 n2:AV) (K:KvP) (s:Hq):Prop:=
 oK (qBf .u8 x0) λv_3=>oK (qKO (.str ⟨#[0,1,2,2,3,3,3,3,4,4,4,4,4,4,4,4,5,5,5,5,5,5,5,5,5,5,5,5,5,5,5,5,6,6,6,6,6,6,6,6,6,6,6,6,6,6,6,6,6,6,6,6,6,6,6,6,6,6,6,6,6,6,6,6,7,7,7,7,7,7,7,7,7,7,7,7,7,7,7,7,7,7,7,7,7,7,7,7,7,7,7,7,7,7,7,7,7,7,7,7,7,7,7,7,7,7,7,7,7,7,7,7,7,7,7,7,7,7,7,7,7,7,7,7,7,7,7,7,8,8,8,8,8,8,8,8,8,8,8,8,8,8,8,8,8,8,8,8,8,8,8,8,8,8,8,8,8,8,8,8,8,8,8,8,8,8,8,8,8,8,8,8,8,8,8,8,8,8,8,8,8,8,8,8,8,8,8,8,8,8,8,8,8,8,8,8,8,8,8,8,8,8,8,8,8,8,8,8,8,8,8,8,8,8,8,8,8,8,8,8,8,8,8,8,8,8,8,8,8,8,8,8,8,8,8,8,8,8,8,8,8,8,8,8,8,8,8,8,8,8,8,8,8,8,8,8]⟩) v_3) λv_4=>oK (qBf .i64 v_4) λv_5=>oK (qAB .add n2 v_5) λv_6=>K v_6 s
def qDv (X:Td)(x0 n2:AV) (K:KvP) (s:Hq):Prop:=
 oK (qAB .geq x0 (.int .u64 256)) λv_2=>qAL v_2
 (oK (qBk .shr x0 (.int .u64 8)) λv_7=>oK (qAB .add n2 (.int .i64 8)) λv_8=>qDs X v_7 v_8 K s)
 (qDs X x0 n2 K s)
def qDu (X:Td)(x0 n2:AV) (K:KvP) (s:Hq):Prop:=
 oK (qAB .geq x0 (.int .u64 65536)) λv_1=>qAL v_1
 (oK (qBk .shr x0 (.int .u64 16)) λv_9=>oK (qAB .add n2 (.int .i64 16)) λv_10=>qDv X v_9 v_10 K s)
 (qDv X x0 n2 K s)
def qHT (X:Td)(x0:AV) (K:KvP) (s:Hq):Prop:=
 oK (qAB .geq x0 (.int .u64 4294967296)) λv_0=>qAL v_0
 (oK (qBk .shr x0 (.int .u64 32)) λv_11=>qDu X v_11 (.int .i64 32) K s)
 (qDu X x0 (.int .i64 0) K s)
def qJE:Nat→List Nat:=λ_=>[]
theorem qJT {X:Td} (hX:FrX X) (hn:X 106=none) {x0:AV} {K:KvP} {s:Hq} (h:qHT X x0 K s):wC Tryz.prog X 106 [x0] K s:=
 qAE hX qJE hn Tryz.func106 (by kernel_rfl:Tryz.f106.body=some (qAU Tryz.f106)) (by kernel_rfl) (Eq.mpr (by kernel_rfl) h)
theorem qJf {x0:AV} {K:KvP} {s:Hq} (h:qHT XX x0 K s):wC Tryz.prog XX 106 [x0] K s:=qJT qAy rfl h
def qJk (X:Td)(c1 t5 t6:AV) (I0:IvP) (m0:Nat) (K:KvP) (s:Hq):Prop:=
 oK (qAB .lss t6 (.int .i64 7)) λv_3=>qAL v_3
 (oK (qLo 7 3 (some 3) t5 t6) λv_4=>newK 188 [(.int .i64 0),(.int .u8 0),(.int .u8 0)] (λB5 S6=>oK (qAn S6 3 (.ptr B5 0) v_4) λS7=>oK (qAI 1 (.ptr B5 0)) λv_8=>oK (rdN S7 2 v_8) λv_9=>oK (qG4 S7 8 1 c1 none (some (.int .i64 2)) none) λv_10=>oK (zABN 2 v_10) λv_11=>oK (rdN S7 2 v_11) λv_12=>oK (negB false (qGQ Tryz.prog 187 (.agg v_9) (.agg v_12))) λv_13=>qAL v_13
 (oK (qAI 0 (.ptr B5 0)) λv_14=>oK (rd1 S7 v_14) λv_15=>K v_15 S7)
 (oK (qAB .add t6 (.int .i64 1)) λv_16=>∃ m',m' < m0∧I0 [v_16] S7 m')) s)
 (K (.int .i64 0) s)
def qNN (X:Td)(c0:AV) (K:KvP) (s:Hq):Prop:=
 boxK 104 c0 (λB0 S1=>oK (gldN S1 21 0) λv_2=>∃ I0:IvP,(∃ m,I0 [(.int .i64 0)] S1 m)∧∀ (f:Env) (s:Hq) (m0:Nat),I0 [f 6] s m0→
 qJk X B0 (.agg v_2) (f 6) I0 m0 K s) s
def qNY:Nat→List Nat:=λk=>cond (Nat.beq k 4) [6] ([])
theorem qOT {X:Td} (hX:FrX X) (hn:X 115=none) {c0:AV} {K:KvP} {s:Hq} (h:qNN X c0 K s):wC Tryz.prog X 115 [c0] K s:=
 qAE hX qNY hn Tryz.func115 (by kernel_rfl:Tryz.f115.body=some (qAU Tryz.f115)) (by kernel_rfl) (Eq.mpr (by kernel_rfl) h)
theorem qOI {c0:AV} {K:KvP} {s:Hq} (h:qNN XX c0 K s):wC Tryz.prog XX 115 [c0] K s:=qOT qAy rfl h
def qAv (X:Td)(data0 i8 j9 t21 t33:AV) (I1:IvP) (m1:Nat) (I0:IvP) (m0:Nat) (K:KvP) (s:Hq):Prop:=
 oK (qAc t21 t33 (.bool false)) λv_3=>qAL v_3
 (oK (qAB .sub j9 (.int .i64 1)) λv_4=>oK (qAB .sub j9 (.int .i64 1)) λv_5=>oK (qAH 2 data0 v_5) λv_6=>oK (rdN s 2 v_6) λv_7=>oK (qAH 2 data0 j9) λv_8=>oK (rdN s 2 v_8) λv_9=>oK (qAH 2 data0 j9) λv_10=>oK (qAn s 2 v_10 (.agg v_7)) λS11=>oK (qAH 2 data0 v_4) λv_12=>oK (qAn S11 2 v_12 (.agg v_9)) λS13=>oK (qAB .sub j9 (.int .i64 1)) λv_14=>∃ m',m' < m1∧I1 [v_14] S13 m')
 (oK (qAB .add i8 (.int .i64 1)) λv_15=>∃ m',m' < m0∧I0 [v_15] s m')
def qB0 (X:Td)(data0 a1 cmp3 i8 j9:AV) (I1:IvP) (m1:Nat) (I0:IvP) (m0:Nat) (K:KvP) (s:Hq):Prop:=
 oK (qAB .gtr j9 a1) λv_2=>qAL v_2
 (oK (qAH 2 data0 j9) λv_16=>oK (rdN s 2 v_16) λv_17=>oK (qAB .sub j9 (.int .i64 1)) λv_18=>oK (qAH 2 data0 v_18) λv_19=>oK (rdN s 2 v_19) λv_20=>funK Tryz.prog X cmp3 [(.agg v_17),(.agg v_20)] (λv_21 S22=>oK (qAB .lss v_21 (.int .i64 0)) λv_23=>qAv X data0 i8 j9 v_2 v_23 I1 m1 I0 m0 K S22) s)
 (qAv X data0 i8 j9 v_2 .undef I1 m1 I0 m0 K s)
def qBG (X:Td)(data0 a1 b2 cmp3 i8:AV) (I0:IvP) (m0:Nat) (K:KvP) (s:Hq):Prop:=
 oK (qAB .lss i8 b2) λv_1=>qAL v_1
 (∃ I1:IvP,(∃ m,I1 [i8] s m)∧∀ (f:Env) (s:Hq) (m1:Nat),I1 [f 9] s m1→
 qB0 X data0 a1 cmp3 i8 (f 9) I1 m1 I0 m0 K s)
 (K (.tup []) s)
def qA0 (X:Td)(data0 a1 b2 cmp3:AV) (K:KvP) (s:Hq):Prop:=
 oK (qAB .add a1 (.int .i64 1)) λv_0=>∃ I0:IvP,(∃ m,I0 [v_0] s m)∧∀ (f:Env) (s:Hq) (m0:Nat),I0 [f 8] s m0→
 qBG X data0 a1 b2 cmp3 (f 8) I0 m0 K s
def qDR:Nat→List Nat:=λk=>cond (Nat.beq k 2) [8] (cond (Nat.beq k 8) [9] ([]))
theorem qDY {X:Td} (hX:FrX X) (hn:X 116=none) {data0 a1 b2 cmp3:AV} {K:KvP} {s:Hq} (h:qA0 X data0 a1 b2 cmp3 K s):wC Tryz.prog X 116 [data0,a1,b2,cmp3] K s:=
 qAE hX qDR hn Tryz.func116 (by kernel_rfl:Tryz.f116.body=some (qAU Tryz.f116)) (by kernel_rfl) (Eq.mpr (by kernel_rfl) h)
theorem qB3 {data0 a1 b2 cmp3:AV} {K:KvP} {s:Hq} (h:qA0 XX data0 a1 b2 cmp3 K s):wC Tryz.prog XX 116 [data0,a1,b2,cmp3] K s:=qDY qAy rfl h
def qCV (X:Td)(data0 i10 k13:AV) (I1:IvP) (m1:Nat) (K:KvP) (s:Hq):Prop:=
 oK (qAB .sub i10 (.int .i64 1)) λv_15=>oK (qAB .lss k13 v_15) λv_16=>qAL v_16
 (oK (qAB .add k13 (.int .i64 1)) λv_17=>oK (qAB .add k13 (.int .i64 1)) λv_18=>oK (qAH 2 data0 v_18) λv_19=>oK (rdN s 2 v_19) λv_20=>oK (qAH 2 data0 k13) λv_21=>oK (rdN s 2 v_21) λv_22=>oK (qAH 2 data0 k13) λv_23=>oK (qAn s 2 v_23 (.agg v_20)) λS24=>oK (qAH 2 data0 v_17) λv_25=>oK (qAn S24 2 v_25 (.agg v_22)) λS26=>oK (qAB .add k13 (.int .i64 1)) λv_27=>∃ m',m' < m1∧I1 [v_27] S26 m')
 (K (.tup []) s)
def qBZ (X:Td)(data0 a1 cmp4 i10 j11:AV) (I0:IvP) (m0:Nat) (K:KvP) (s:Hq):Prop:=
 oK (qAB .lss i10 j11) λv_2=>qAL v_2
 (oK (qAB .add i10 j11) λv_3=>oK (qBf .u64 v_3) λv_4=>oK (qBk .shr v_4 (.int .u64 1)) λv_5=>oK (qBf .i64 v_5) λv_6=>oK (qAH 2 data0 v_6) λv_7=>oK (rdN s 2 v_7) λv_8=>oK (qAH 2 data0 a1) λv_9=>oK (rdN s 2 v_9) λv_10=>funK Tryz.prog X cmp4 [(.agg v_8),(.agg v_10)] (λv_11 S12=>oK (qAB .lss v_11 (.int .i64 0)) λv_13=>qAL v_13
 (oK (qAB .add v_6 (.int .i64 1)) λv_14=>∃ m',m' < m0∧I0 [v_14,j11] S12 m')
 (∃ m',m' < m0∧I0 [i10,v_6] S12 m')) s)
 (∃ I1:IvP,(∃ m,I1 [a1] s m)∧∀ (f:Env) (s:Hq) (m1:Nat),I1 [f 13] s m1→
 qCV X data0 i10 (f 13) I1 m1 K s)
def qCS (X:Td)(data0 i14 k17:AV) (I3:IvP) (m3:Nat) (K:KvP) (s:Hq):Prop:=
 oK (qAB .gtr k17 i14) λv_44=>qAL v_44
 (oK (qAB .sub k17 (.int .i64 1)) λv_45=>oK (qAB .sub k17 (.int .i64 1)) λv_46=>oK (qAH 2 data0 v_46) λv_47=>oK (rdN s 2 v_47) λv_48=>oK (qAH 2 data0 k17) λv_49=>oK (rdN s 2 v_49) λv_50=>oK (qAH 2 data0 k17) λv_51=>oK (qAn s 2 v_51 (.agg v_48)) λS52=>oK (qAH 2 data0 v_45) λv_53=>oK (qAn S52 2 v_53 (.agg v_50)) λS54=>oK (qAB .sub k17 (.int .i64 1)) λv_55=>∃ m',m' < m3∧I3 [v_55] S54 m')
 (K (.tup []) s)
def qBY (X:Td)(data0 t2 cmp4 i14 j15:AV) (I2:IvP) (m2:Nat) (K:KvP) (s:Hq):Prop:=
 oK (qAB .lss i14 j15) λv_30=>qAL v_30
 (oK (qAB .add i14 j15) λv_31=>oK (qBf .u64 v_31) λv_32=>oK (qBk .shr v_32 (.int .u64 1)) λv_33=>oK (qBf .i64 v_33) λv_34=>oK (qAH 2 data0 t2) λv_35=>oK (rdN s 2 v_35) λv_36=>oK (qAH 2 data0 v_34) λv_37=>oK (rdN s 2 v_37) λv_38=>funK Tryz.prog X cmp4 [(.agg v_36),(.agg v_38)] (λv_39 S40=>oK (qAB .lss v_39 (.int .i64 0)) λv_41=>oK (qBm .not v_41) λv_42=>qAL v_42
 (oK (qAB .add v_34 (.int .i64 1)) λv_43=>∃ m',m' < m2∧I2 [v_43,j15] S40 m')
 (∃ m',m' < m2∧I2 [i14,v_34] S40 m')) s)
 (∃ I3:IvP,(∃ m,I3 [t2] s m)∧∀ (f:Env) (s:Hq) (m3:Nat),I3 [f 17] s m3→
 qCS X data0 i14 (f 17) I3 m3 K s)
def qAp (X:Td)(data0 b3 cmp4 mid18 t24 t209 t212:AV) (K:KvP) (s:Hq):Prop:=
 oK (qAc t209 t212 (.bool false)) λv_84=>qAL v_84
 (wC Tryz.prog X 117 [data0,mid18,t24,b3,cmp4] (λv_85 S86=>K (.tup []) S86) s)
 (K (.tup []) s)
def qA7 (X:Td)(data0 b3 cmp4 mid18 t24:AV) (K:KvP) (s:Hq):Prop:=
 oK (qAB .lss mid18 t24) λv_83=>qAL v_83
 (oK (qAB .lss t24 b3) λv_87=>qAp X data0 b3 cmp4 mid18 t24 v_83 v_87 K s)
 (qAp X data0 b3 cmp4 mid18 t24 v_83 .undef K s)
def qAt (X:Td)(data0 a1 b3 cmp4 mid18 start20 t24 t195 t198:AV) (K:KvP) (s:Hq):Prop:=
 oK (qAc t195 t198 (.bool false)) λv_82=>qAL v_82
 (wC Tryz.prog X 117 [data0,a1,start20,mid18,cmp4] (λv_88 S89=>qA7 X data0 b3 cmp4 mid18 t24 K S89) s)
 (qA7 X data0 b3 cmp4 mid18 t24 K s)
def qA8 (X:Td)(data0 a1 b3 cmp4 mid18 start20 t24:AV) (K:KvP) (s:Hq):Prop:=
 oK (qAB .lss a1 start20) λv_81=>qAL v_81
 (oK (qAB .lss start20 mid18) λv_90=>qAt X data0 a1 b3 cmp4 mid18 start20 t24 v_81 v_90 K s)
 (qAt X data0 a1 b3 cmp4 mid18 start20 t24 v_81 .undef K s)
def qAr (X:Td)(data0 a1 t2 b3 cmp4 mid18 start20 t24 t181 t184:AV) (K:KvP) (s:Hq):Prop:=
 oK (qAc t181 t184 (.bool false)) λv_80=>qAL v_80
 (wC Tryz.prog X 160 [data0,start20,t2,t24,cmp4] (λv_91 S92=>qA8 X data0 a1 b3 cmp4 mid18 start20 t24 K S92) s)
 (qA8 X data0 a1 b3 cmp4 mid18 start20 t24 K s)
def qCU (X:Td)(data0 a1 t2 b3 cmp4 mid18 n19 start20 r21 p22:AV) (I5:IvP) (m5:Nat) (K:KvP) (s:Hq):Prop:=
 oK (qAB .lss start20 r21) λv_63=>qAL v_63
 (oK (qAB .add start20 r21) λv_64=>oK (qBf .u64 v_64) λv_65=>oK (qBk .shr v_65 (.int .u64 1)) λv_66=>oK (qBf .i64 v_66) λv_67=>oK (qAB .sub p22 v_67) λv_68=>oK (qAH 2 data0 v_68) λv_69=>oK (rdN s 2 v_69) λv_70=>oK (qAH 2 data0 v_67) λv_71=>oK (rdN s 2 v_71) λv_72=>funK Tryz.prog X cmp4 [(.agg v_70),(.agg v_72)] (λv_73 S74=>oK (qAB .lss v_73 (.int .i64 0)) λv_75=>oK (qBm .not v_75) λv_76=>qAL v_76
 (oK (qAB .add v_67 (.int .i64 1)) λv_77=>∃ m',m' < m5∧I5 [v_77,r21] S74 m')
 (∃ m',m' < m5∧I5 [start20,v_67] S74 m')) s)
 (oK (qAB .sub n19 start20) λv_78=>oK (qAB .lss start20 t2) λv_79=>qAL v_79
 (oK (qAB .lss t2 v_78) λv_93=>qAr X data0 a1 t2 b3 cmp4 mid18 start20 v_78 v_79 v_93 K s)
 (qAr X data0 a1 t2 b3 cmp4 mid18 start20 v_78 v_79 .undef K s))
def qA6 (X:Td)(data0 a1 t2 b3 cmp4 mid18 n19 start20 r21:AV) (K:KvP) (s:Hq):Prop:=
 oK (qAB .sub n19 (.int .i64 1)) λv_62=>∃ I5:IvP,(∃ m,I5 [start20,r21] s m)∧∀ (f:Env) (s:Hq) (m5:Nat),I5 [f 20,f 21] s m5→
 qCU X data0 a1 t2 b3 cmp4 mid18 n19 (f 20) (f 21) v_62 I5 m5 K s
def qBn (X:Td)(data0 a1 t2 b3 cmp4:AV) (K:KvP) (s:Hq):Prop:=
 oK (qAB .sub t2 a1) λv_0=>oK (negB false (eqV 0 true v_0 (.int .i64 1))) λv_1=>qAL v_1
 (∃ I0:IvP,(∃ m,I0 [t2,b3] s m)∧∀ (f:Env) (s:Hq) (m0:Nat),I0 [f 10,f 11] s m0→
 qBZ X data0 a1 cmp4 (f 10) (f 11) I0 m0 K s)
 (oK (qAB .sub b3 t2) λv_28=>oK (negB false (eqV 0 true v_28 (.int .i64 1))) λv_29=>qAL v_29
 (∃ I2:IvP,(∃ m,I2 [a1,t2] s m)∧∀ (f:Env) (s:Hq) (m2:Nat),I2 [f 14,f 15] s m2→
 qBY X data0 t2 cmp4 (f 14) (f 15) I2 m2 K s)
 (oK (qAB .add a1 b3) λv_56=>oK (qBf .u64 v_56) λv_57=>oK (qBk .shr v_57 (.int .u64 1)) λv_58=>oK (qBf .i64 v_58) λv_59=>oK (qAB .add v_59 t2) λv_60=>oK (qAB .gtr t2 v_59) λv_61=>qAL v_61
 (oK (qAB .sub v_60 b3) λv_94=>qA6 X data0 a1 t2 b3 cmp4 v_59 v_60 v_94 v_59 K s)
 (qA6 X data0 a1 t2 b3 cmp4 v_59 v_60 a1 t2 K s)))
def qD8:Nat→List Nat:=λk=>cond (Nat.beq k 6) [10,11] (cond (Nat.beq k 18) [13] (cond (Nat.beq k 30) [14,15] (cond (Nat.beq k 42) [17] (cond (Nat.beq k 66) [20,21] ([])))))
theorem qEF {X:Td} (hX:FrX X) (hn:X 117=none) {data0 a1 t2 b3 cmp4:AV} {K:KvP} {s:Hq} (h:qBn X data0 a1 t2 b3 cmp4 K s):wC Tryz.prog X 117 [data0,a1,t2,b3,cmp4] K s:=
 qAE hX qD8 hn Tryz.func117 (by kernel_rfl:Tryz.f117.body=some (qAU Tryz.f117)) (by kernel_rfl) (Eq.mpr (by kernel_rfl) h)
theorem qEI {data0 a1 t2 b3 cmp4:AV} {K:KvP} {s:Hq} (h:qBn XX data0 a1 t2 b3 cmp4 K s):wC Tryz.prog XX 117 [data0,a1,t2,b3,cmp4] K s:=qEF qAy rfl h
def qH8 (X:Td)(h3 t6 t7:AV) (I0:IvP) (m0:Nat) (K:KvP) (s:Hq):Prop:=
 oK (qAB .lss t7 (.int .i64 8)) λv_3=>qAL v_3
 (oK (qLo 8 1 none t6 t7) λv_4=>oK (qBf .u64 v_4) λv_5=>oK (qAB .xor h3 v_5) λv_6=>oK (qAB .mul v_6 (.int .u64 1099511628211)) λv_7=>oK (qAB .add t7 (.int .i64 1)) λv_8=>∃ m',m' < m0∧I0 [v_7,v_8] s m')
 (K h3 s)
def qKz (X:Td)(o0:AV) (K:KvP) (s:Hq):Prop:=
 boxK 193 o0 (λB0 S1=>oK (rdN S1 8 B0) λv_2=>∃ I0:IvP,(∃ m,I0 [(.int .u64 14695981039346656037),(.int .i64 0)] S1 m)∧∀ (f:Env) (s:Hq) (m0:Nat),I0 [f 3,f 7] s m0→
 qH8 X (f 3) (.agg v_2) (f 7) I0 m0 K s) s
def qLg:Nat→List Nat:=λk=>cond (Nat.beq k 6) [3,7] ([])
theorem qMp {X:Td} (hX:FrX X) (hn:X 118=none) {o0:AV} {K:KvP} {s:Hq} (h:qKz X o0 K s):wC Tryz.prog X 118 [o0] K s:=
 qAE hX qLg hn Tryz.func118 (by kernel_rfl:Tryz.f118.body=some (qAU Tryz.f118)) (by kernel_rfl) (Eq.mpr (by kernel_rfl) h)
theorem qMZ {o0:AV} {K:KvP} {s:Hq} (h:qKz XX o0 K s):wC Tryz.prog XX 118 [o0] K s:=qMp qAy rfl h
end Go.AM
namespace Go.AM
open Go Go.Proofs
set_option maxRecDepth 100000
def qBa (X:Td)(data0 first3 root8 child9:AV) (I0:IvP) (m0:Nat) (K:KvP) (s:Hq):Prop:=
 oK (qAB .add first3 root8) λv_6=>oK (qAH 1 data0 v_6) λv_7=>oK (rd1 s v_7) λv_8=>oK (qAB .add first3 child9) λv_9=>oK (qAH 1 data0 v_9) λv_10=>oK (rd1 s v_10) λv_11=>wC Tryz.prog X 102 [v_8,v_11] (λv_12 S13=>oK (qBm .not v_12) λv_14=>qAL v_14
 (K (.tup []) S13)
 (oK (qAB .add first3 root8) λv_15=>oK (qAB .add first3 child9) λv_16=>oK (qAB .add first3 child9) λv_17=>oK (qAH 1 data0 v_17) λv_18=>oK (rd1 S13 v_18) λv_19=>oK (qAB .add first3 root8) λv_20=>oK (qAH 1 data0 v_20) λv_21=>oK (rd1 S13 v_21) λv_22=>oK (qAH 1 data0 v_15) λv_23=>oK (wr1 S13 v_23 v_19) λS24=>oK (qAH 1 data0 v_16) λv_25=>oK (wr1 S24 v_25 v_22) λS26=>∃ m',m' < m0∧I0 [child9] S26 m')) s
def qBb (X:Td)(data0 first3 root8 child9 t21 t35:AV) (I0:IvP) (m0:Nat) (K:KvP) (s:Hq):Prop:=
 oK (qAc t21 t35 (.bool false)) λv_5=>qAL v_5
 (oK (qAB .add child9 (.int .i64 1)) λv_27=>qBa X data0 first3 root8 v_27 I0 m0 K s)
 (qBa X data0 first3 root8 child9 I0 m0 K s)
def qDQ (X:Td)(data0 hi2 first3 root8:AV) (I0:IvP) (m0:Nat) (K:KvP) (s:Hq):Prop:=
 oK (qAB .mul (.int .i64 2) root8) λv_0=>oK (qAB .add v_0 (.int .i64 1)) λv_1=>oK (qAB .geq v_1 hi2) λv_2=>qAL v_2
 (K (.tup []) s)
 (oK (qAB .add v_1 (.int .i64 1)) λv_3=>oK (qAB .lss v_3 hi2) λv_4=>qAL v_4
 (oK (qAB .add first3 v_1) λv_28=>oK (qAH 1 data0 v_28) λv_29=>oK (rd1 s v_29) λv_30=>oK (qAB .add first3 v_1) λv_31=>oK (qAB .add v_31 (.int .i64 1)) λv_32=>oK (qAH 1 data0 v_32) λv_33=>oK (rd1 s v_33) λv_34=>wC Tryz.prog X 102 [v_30,v_34] (λv_35 S36=>qBb X data0 first3 root8 v_1 v_4 v_35 I0 m0 K S36) s)
 (qBb X data0 first3 root8 v_1 v_4 .undef I0 m0 K s))
def qDz (X:Td)(data0 lo1 hi2 first3:AV) (K:KvP) (s:Hq):Prop:=
 ∃ I0:IvP,(∃ m,I0 [lo1] s m)∧∀ (f:Env) (s:Hq) (m0:Nat),I0 [f 8] s m0→
 qDQ X data0 hi2 first3 (f 8) I0 m0 K s
def qFo:Nat→List Nat:=λk=>cond (Nat.beq k 2) [8] ([])
theorem qGF {X:Td} (hX:FrX X) (hn:X 126=none) {data0 lo1 hi2 first3:AV} {K:KvP} {s:Hq} (h:qDz X data0 lo1 hi2 first3 K s):wC Tryz.prog X 126 [data0,lo1,hi2,first3] K s:=
 qAE hX qFo hn Tryz.func126 (by kernel_rfl:Tryz.f126.body=some (qAU Tryz.f126)) (by kernel_rfl) (Eq.mpr (by kernel_rfl) h)
theorem qF8 {data0 lo1 hi2 first3:AV} {K:KvP} {s:Hq} (h:qDz XX data0 lo1 hi2 first3 K s):wC Tryz.prog XX 126 [data0,lo1,hi2,first3] K s:=qGF qAy rfl h
def qFY (X:Td)(length0:AV) (K:KvP) (s:Hq):Prop:=
 oK (qBf .u64 length0) λv_0=>wC Tryz.prog X 67 [v_0] (λv_1 S2=>oK (qBk .shl (.int .u64 1) v_1) λv_3=>K v_3 S2) s
def qJi:Nat→List Nat:=λ_=>[]
theorem qKf {X:Td} (hX:FrX X) (hn:X 127=none) {length0:AV} {K:KvP} {s:Hq} (h:qFY X length0 K s):wC Tryz.prog X 127 [length0] K s:=
 qAE hX qJi hn Tryz.func127 (by kernel_rfl:Tryz.f127.body=some (qAU Tryz.f127)) (by kernel_rfl) (Eq.mpr (by kernel_rfl) h)
theorem qKb {length0:AV} {K:KvP} {s:Hq} (h:qFY XX length0 K s):wC Tryz.prog XX 127 [length0] K s:=qKf qAy rfl h
def qGB (X:Td)(r0:AV) (K:KvP) (s:Hq):Prop:=
 oK (qAl r0) λv_0=>oK (rd1 s v_0) λv_1=>oK (qAl r0) λv_2=>oK (rd1 s v_2) λv_3=>oK (qBk .shl v_3 (.int .u64 13)) λv_4=>oK (qAB .xor v_1 v_4) λv_5=>oK (qAl r0) λv_6=>oK (wr1 s v_6 v_5) λS7=>oK (qAl r0) λv_8=>oK (rd1 S7 v_8) λv_9=>oK (qAl r0) λv_10=>oK (rd1 S7 v_10) λv_11=>oK (qBk .shr v_11 (.int .u64 7)) λv_12=>oK (qAB .xor v_9 v_12) λv_13=>oK (qAl r0) λv_14=>oK (wr1 S7 v_14 v_13) λS15=>oK (qAl r0) λv_16=>oK (rd1 S15 v_16) λv_17=>oK (qAl r0) λv_18=>oK (rd1 S15 v_18) λv_19=>oK (qBk .shl v_19 (.int .u64 17)) λv_20=>oK (qAB .xor v_17 v_20) λv_21=>oK (qAl r0) λv_22=>oK (wr1 S15 v_22 v_21) λS23=>oK (qAl r0) λv_24=>oK (rd1 S23 v_24) λv_25=>K v_25 S23
def qKl:Nat→List Nat:=λ_=>[]
theorem qLI {X:Td} (hX:FrX X) (hn:X 128=none) {r0:AV} {K:KvP} {s:Hq} (h:qGB X r0 K s):wC Tryz.prog X 128 [r0] K s:=
 qAE hX qKl hn Tryz.func128 (by kernel_rfl:Tryz.f128.body=some (qAU Tryz.f128)) (by kernel_rfl) (Eq.mpr (by kernel_rfl) h)
theorem qLO {r0:AV} {K:KvP} {s:Hq} (h:qGB XX r0 K s):wC Tryz.prog XX 128 [r0] K s:=qLI qAy rfl h
def qBp (X:Td)(data0 a1 swaps2:AV) (K:KvP) (s:Hq):Prop:=
 oK (qAB .sub a1 (.int .i64 1)) λv_0=>oK (qAB .add a1 (.int .i64 1)) λv_1=>wC Tryz.prog X 130 [data0,v_0,a1,v_1,swaps2] (λv_2 S3=>K v_2 S3) s
def qEH:Nat→List Nat:=λ_=>[]
theorem qEh {X:Td} (hX:FrX X) (hn:X 129=none) {data0 a1 swaps2:AV} {K:KvP} {s:Hq} (h:qBp X data0 a1 swaps2 K s):wC Tryz.prog X 129 [data0,a1,swaps2] K s:=
 qAE hX qEH hn Tryz.func129 (by kernel_rfl:Tryz.f129.body=some (qAU Tryz.f129)) (by kernel_rfl) (Eq.mpr (by kernel_rfl) h)
theorem qEc {data0 a1 swaps2:AV} {K:KvP} {s:Hq} (h:qBp XX data0 a1 swaps2 K s):wC Tryz.prog XX 129 [data0,a1,swaps2] K s:=qEh qAy rfl h
def qEp (X:Td)(data0 a1 b2 c3 swaps4:AV) (K:KvP) (s:Hq):Prop:=
 wC Tryz.prog X 171 [data0,a1,b2,swaps4] (λv_0 S1=>oK (qAX v_0 0) λv_2=>oK (qAX v_0 1) λv_3=>wC Tryz.prog X 171 [data0,v_3,c3,swaps4] (λv_4 S5=>oK (qAX v_4 0) λv_6=>oK (qAX v_4 1) λv_7=>wC Tryz.prog X 171 [data0,v_2,v_6,swaps4] (λv_8 S9=>oK (qAX v_8 0) λv_10=>oK (qAX v_8 1) λv_11=>K v_11 S9) S5) S1) s
def qGi:Nat→List Nat:=λ_=>[]
theorem qGq {X:Td} (hX:FrX X) (hn:X 130=none) {data0 a1 b2 c3 swaps4:AV} {K:KvP} {s:Hq} (h:qEp X data0 a1 b2 c3 swaps4 K s):wC Tryz.prog X 130 [data0,a1,b2,c3,swaps4] K s:=
 qAE hX qGi hn Tryz.func130 (by kernel_rfl:Tryz.f130.body=some (qAU Tryz.f130)) (by kernel_rfl) (Eq.mpr (by kernel_rfl) h)
theorem qGt {data0 a1 b2 c3 swaps4:AV} {K:KvP} {s:Hq} (h:qEp XX data0 a1 b2 c3 swaps4 K s):wC Tryz.prog XX 130 [data0,a1,b2,c3,swaps4] K s:=qGq qAy rfl h
def qCk (X:Td)(data0 t2 cmp4 i10 j11:AV) (I0:IvP) (m0:Nat) (K:KvP) (s:Hq):Prop:=
 oK (negB true (eqV 0 false i10 j11)) λv_2=>qAL v_2
 (oK (qAB .gtr i10 j11) λv_3=>qAL v_3
 (oK (qAB .sub t2 i10) λv_4=>wC Tryz.prog X 180 [data0,v_4,t2,j11,cmp4] (λv_5 S6=>oK (qAB .sub i10 j11) λv_7=>∃ m',m' < m0∧I0 [v_7,j11] S6 m') s)
 (oK (qAB .sub t2 i10) λv_8=>oK (qAB .add t2 j11) λv_9=>oK (qAB .sub v_9 i10) λv_10=>wC Tryz.prog X 180 [data0,v_8,v_10,i10,cmp4] (λv_11 S12=>oK (qAB .sub j11 i10) λv_13=>∃ m',m' < m0∧I0 [i10,v_13] S12 m') s))
 (oK (qAB .sub t2 i10) λv_14=>wC Tryz.prog X 180 [data0,v_14,t2,i10,cmp4] (λv_15 S16=>K (.tup []) S16) s)
def qB7 (X:Td)(data0 a1 t2 b3 cmp4:AV) (K:KvP) (s:Hq):Prop:=
 oK (qAB .sub t2 a1) λv_0=>oK (qAB .sub b3 t2) λv_1=>∃ I0:IvP,(∃ m,I0 [v_0,v_1] s m)∧∀ (f:Env) (s:Hq) (m0:Nat),I0 [f 10,f 11] s m0→
 qCk X data0 t2 cmp4 (f 10) (f 11) I0 m0 K s
def qEb:Nat→List Nat:=λk=>cond (Nat.beq k 4) [10,11] ([])
theorem qEx {X:Td} (hX:FrX X) (hn:X 160=none) {data0 a1 t2 b3 cmp4:AV} {K:KvP} {s:Hq} (h:qB7 X data0 a1 t2 b3 cmp4 K s):wC Tryz.prog X 160 [data0,a1,t2,b3,cmp4] K s:=
 qAE hX qEb hn Tryz.func160 (by kernel_rfl:Tryz.f160.body=some (qAU Tryz.f160)) (by kernel_rfl) (Eq.mpr (by kernel_rfl) h)
theorem qE0 {data0 a1 t2 b3 cmp4:AV} {K:KvP} {s:Hq} (h:qB7 XX data0 a1 t2 b3 cmp4 K s):wC Tryz.prog XX 160 [data0,a1,t2,b3,cmp4] K s:=qEx qAy rfl h
def qC9 (X:Td)(data0 a1 b2 swaps3:AV) (K:KvP) (s:Hq):Prop:=
 oK (qAH 1 data0 b2) λv_0=>oK (rd1 s v_0) λv_1=>oK (qAH 1 data0 a1) λv_2=>oK (rd1 s v_2) λv_3=>wC Tryz.prog X 102 [v_1,v_3] (λv_4 S5=>qAL v_4
 (oK (qAl swaps3) λv_6=>oK (rd1 S5 v_6) λv_7=>oK (qAB .add v_7 (.int .i64 1)) λv_8=>oK (qAl swaps3) λv_9=>oK (wr1 S5 v_9 v_8) λS10=>K (.tup [b2,a1]) S10)
 (K (.tup [a1,b2]) S5)) s
def qGY:Nat→List Nat:=λ_=>[]
theorem qHD {X:Td} (hX:FrX X) (hn:X 171=none) {data0 a1 b2 swaps3:AV} {K:KvP} {s:Hq} (h:qC9 X data0 a1 b2 swaps3 K s):wC Tryz.prog X 171 [data0,a1,b2,swaps3] K s:=
 qAE hX qGY hn Tryz.func171 (by kernel_rfl:Tryz.f171.body=some (qAU Tryz.f171)) (by kernel_rfl) (Eq.mpr (by kernel_rfl) h)
theorem qGm {data0 a1 b2 swaps3:AV} {K:KvP} {s:Hq} (h:qC9 XX data0 a1 b2 swaps3 K s):wC Tryz.prog XX 171 [data0,a1,b2,swaps3] K s:=qHD qAy rfl h
def qCP (X:Td)(data0 a1 b2 n3 i10:AV) (I0:IvP) (m0:Nat) (K:KvP) (s:Hq):Prop:=
 oK (qAB .lss i10 n3) λv_0=>qAL v_0
 (oK (qAB .add a1 i10) λv_1=>oK (qAB .add b2 i10) λv_2=>oK (qAB .add b2 i10) λv_3=>oK (qAH 2 data0 v_3) λv_4=>oK (rdN s 2 v_4) λv_5=>oK (qAB .add a1 i10) λv_6=>oK (qAH 2 data0 v_6) λv_7=>oK (rdN s 2 v_7) λv_8=>oK (qAH 2 data0 v_1) λv_9=>oK (qAn s 2 v_9 (.agg v_5)) λS10=>oK (qAH 2 data0 v_2) λv_11=>oK (qAn S10 2 v_11 (.agg v_8)) λS12=>oK (qAB .add i10 (.int .i64 1)) λv_13=>∃ m',m' < m0∧I0 [v_13] S12 m')
 (K (.tup []) s)
def qCl (X:Td)(data0 a1 b2 n3 cmp4:AV) (K:KvP) (s:Hq):Prop:=
 ∃ I0:IvP,(∃ m,I0 [(.int .i64 0)] s m)∧∀ (f:Env) (s:Hq) (m0:Nat),I0 [f 10] s m0→
 qCP X data0 a1 b2 n3 (f 10) I0 m0 K s
def qDy:Nat→List Nat:=λk=>cond (Nat.beq k 2) [10] ([])
theorem qD3 {X:Td} (hX:FrX X) (hn:X 180=none) {data0 a1 b2 n3 cmp4:AV} {K:KvP} {s:Hq} (h:qCl X data0 a1 b2 n3 cmp4 K s):wC Tryz.prog X 180 [data0,a1,b2,n3,cmp4] K s:=
 qAE hX qDy hn Tryz.func180 (by kernel_rfl:Tryz.f180.body=some (qAU Tryz.f180)) (by kernel_rfl) (Eq.mpr (by kernel_rfl) h)
theorem qD9 {data0 a1 b2 n3 cmp4:AV} {K:KvP} {s:Hq} (h:qCl XX data0 a1 b2 n3 cmp4 K s):wC Tryz.prog XX 180 [data0,a1,b2,n3,cmp4] K s:=qD3 qAy rfl h
end Go.AM
