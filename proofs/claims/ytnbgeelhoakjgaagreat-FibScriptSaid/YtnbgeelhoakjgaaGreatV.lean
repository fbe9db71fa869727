/- Part V of a calculus over a small memory that is proved to answer as the program does, and of its use for the functions that the law reaches: see the last part. -/
import Derived.Test.YtnbgeelhoakjgaaGreatU1
import Derived.Test.YtnbgeelhoakjgaaGreatProg
import Derived.KernelRfl
set_option linter.unusedVariables false
namespace Go.AM
open Go Go.Proofs
noncomputable abbrev TP:Program:=Tryz.prog
theorem wOK {P:Program} {X:Td} (hX:FrX X) (A:Nat→List Nat) {n:FuncId} (hn:X n=none) {f:Func} (h1:P.funcs[n]?=some f) (hb:f.body=some (qAp f)) {args:List AV} (hl:Nat.ble args.length f.ntmps=true) {K:AV→Hq→Prop} {s:Hq} {Q:Prop} (he:wpC P X A f.ntmps none (qAp f) (qPM args) (λe env s=>retK e (resK P f.results.toList env (λvs=>K (oneV vs) s) s)) s=Q) (h:Q):wC P X n args K s:=
  qRJ hX A hn h1 hb hl (Eq.mpr he h)
def nA0:Nat→List Nat:=λ_=>[]
abbrev zR0:List AV:=[(.int .i64 0),(.int .u64 0),(.int .u8 0),(.int .u8 0),(.int .u8 0),(.int .u8 0),(.int .u8 0),(.int .u8 0),(.int .u8 0),(.int .u8 0),(.int .u8 0),(.int .u8 0),(.int .u32 0),(.int .u64 0),(.int .u32 0),(.bool false),(.int .u32 0),(.int .i64 0),(.int .u32 0),(.int .u32 0),(.int .u32 0),(.int .i64 0),.nilslc,(.int .u32 0),(.bool false),(.int .u32 0),(.bool false),(.int .u32 0),(.bool false),(.int .u32 0),.nilslc,.nilslc,(.int .i64 0),(.int .u32 0),(.int .u32 0),(.int .u32 0),(.int .u32 0),(.bool false)]
abbrev zR1:List AV:=[(.int .i64 0),(.int .i64 0),.nilslc,.nilslc,.nilslc,.nilslc,.nilslc,.nilslc,(.int .i64 0),(.int .i64 0),(.int .i64 0),(.bool false),(.bool false),(.int .i64 0),(.int .i64 0),(.int .i64 0),(.int .i64 0),(.int .i64 0),(.int .i64 0)]
abbrev IvP:=List AV→Hq→Nat→Prop
abbrev KvP:=AV→Hq→Prop
abbrev LvP:=List Nat→List AV→Hq→Prop
set_option maxRecDepth 100000
abbrev XX:Td:=qG4 [4]
theorem qAr:FrX XX:=qOM _
def qQg (X:Td)(l0:AV) (K:KvP) (s:Hq):Prop:=
 oK (qA2 (repl 0 [(.bool false)]) []) λC0=>qAb C0=true∧newK 4 C0 (λB1 S2=>appK 4 1 (.slc B1 0 0 (some 0) 1) l0 (λV3 S4=>K V3 S4) S2) s
theorem qNZ {l0:AV} {K:KvP} {s:Hq} (h:qQg XX l0 K s):wC TP XX 9 [l0] K s:=wOK qAr nA0 rfl Tryz.func9 (by kernel_rfl) (by kernel_rfl) (by kernel_rfl) h
def qCK (X:Td)(i5 t28 t40:AV) (I0:IvP) (m0:Nat) (K:KvP) (s:Hq):Prop:=
 oK (qBK t28 (.bool true) t40) λV15=>qAP V15
 (K (.bool false) s)
 (oK (qAG .add i5 (.int .i64 1)) λV16=>∃ m',m' < m0∧I0 [V16] s m')
def qDT (X:Td)(a0 b1 i5:AV) (I0:IvP) (m0:Nat) (K:KvP) (s:Hq):Prop:=
 oK (qAa a0) λV5=>oK (qAG .lss i5 (.int .i64 V5)) λV7=>qAP V7
 (oK (qAO 2 a0 i5) λV8=>oK (qAF 0 V8) λV9=>oK (rd1 s V9) λV10=>oK (qAO 2 b1 i5) λV11=>oK (qAF 0 V11) λV12=>oK (rd1 s V12) λV13=>oK (negB true (eqV 0 false V10 V13)) λV14=>qAP V14
 (qCK X i5 V14 .undef I0 m0 K s)
 (oK (qAO 2 a0 i5) λV17=>oK (qAF 1 V17) λV18=>oK (rd1 s V18) λV19=>oK (qAO 2 b1 i5) λV20=>oK (qAF 1 V20) λV21=>oK (rd1 s V21) λV22=>wC TP X 11 [V19,V22] (λV23 S24=>oK (qBd .not V23) λV25=>qCK X i5 V14 V25 I0 m0 K S24) s))
 (K (.bool true) s)
def qEJ (X:Td)(a0 b1:AV) (K:KvP) (s:Hq):Prop:=
 oK (qAa a0) λV0=>oK (qAa b1) λV2=>oK (negB true (eqV 0 false (.int .i64 V0) (.int .i64 V2))) λV4=>qAP V4
 (K (.bool false) s)
 (∃ I0:IvP,(∃ m,I0 [(.int .i64 0)] s m)∧∀ (f:Env) (s:Hq) (m0:Nat),I0 [f 5] s m0→
 qDT X a0 b1 (f 5) I0 m0 K s)
def qF6:Nat→List Nat:=λk=>cond (Nat.beq k 8) [5] ([])
theorem qGU {a0 b1:AV} {K:KvP} {s:Hq} (h:qEJ XX a0 b1 K s):wC TP XX 20 [a0,b1] K s:=wOK qAr qF6 rfl Tryz.func20 (by kernel_rfl) (by kernel_rfl) (by kernel_rfl) h
def qFI (X:Td)(l9 t20:AV) (I0:IvP) (m0:Nat) (K:KvP) (s:Hq):Prop:=
 oK (qAG .add t20 (.int .i64 1)) λV5=>∃ m',m' < m0∧I0 [l9,V5] s m'
def qFO (X:Td)(nodes0 links1 x2 x3 l9 n10 t20 t28 t30:AV) (I0:IvP) (m0:Nat) (K:KvP) (s:Hq):Prop:=
 oK (qBK t28 (.bool true) t30) λV9=>qAP V9
 (qFI X l9 t20 I0 m0 K s)
 (wC TP X 24 [n10] (λV10 S11=>oK (qAN V10 0) λV12=>oK (qAN V10 1) λV13=>oK (negB false (eqV 0 true V13 (.int .i64 0))) λV14=>qAP V14
 (wC TP X 54 [nodes0,links1,x2,x3,n10] (λV15 S16=>oK (qA2 [(.int .u32 0),.nilslc] [(0,1,V12),(1,1,V15)]) λC17=>oK (qA2 (repl 1 [(.int .u32 0),.nilslc]) [(0,2,(.agg C17))]) λC18=>qAb C18=true∧newK 66 C18 (λB19 S20=>appK 66 2 l9 (.slc B19 0 1 (some 1) 2) (λV21 S22=>qFI X V21 t20 I0 m0 K S22) S20) S16) S11)
 (qFI X l9 t20 I0 m0 K S11)) s)
def qJE (X:Td)(nodes0 links1 x2 x3 l9 t18 t19 t20:AV) (I0:IvP) (m0:Nat) (K:KvP) (s:Hq):Prop:=
 oK (qAG .lss t20 t19) λV4=>qAP V4
 (oK (qAO 1 t18 t20) λV6=>oK (rd1 s V6) λV7=>oK (negB false (eqV 0 false t20 x3)) λV8=>qAP V8
 (qFO X nodes0 links1 x2 x3 l9 t20 t20 V8 .undef I0 m0 K s)
 (oK (qAG .lss V7 (.int .i64 0)) λV23=>qFO X nodes0 links1 x2 x3 l9 t20 t20 V8 V23 I0 m0 K s))
 (K l9 s)
def qUp (X:Td)(nodes0 links1 x2 x3:AV) (K:KvP) (s:Hq):Prop:=
 wC TP X 23 [nodes0,links1,x2,x3] (λV0 S1=>oK (qAa V0) λV2=>∃ I0:IvP,(∃ m,I0 [.nilslc,(.int .i64 0)] S1 m)∧∀ (f:Env) (s:Hq) (m0:Nat),I0 [f 9,f 20] s m0→
 qJE X nodes0 links1 x2 x3 (f 9) V0 (.int .i64 V2) (f 20) I0 m0 K s) s
def qPd:Nat→List Nat:=λk=>cond (Nat.beq k 6) [9,20] ([])
theorem qQd {nodes0 links1 x2 x3:AV} {K:KvP} {s:Hq} (h:qUp XX nodes0 links1 x2 x3 K s):wC TP XX 21 [nodes0,links1,x2,x3] K s:=wOK qAr qPd rfl Tryz.func21 (by kernel_rfl) (by kernel_rfl) (by kernel_rfl) h
def qCS (X:Td)(x9 n10:AV) (I0:IvP) (m0:Nat) (K:KvP) (s:Hq):Prop:=
 oK (qAG .add n10 (.int .i64 1)) λV9=>∃ m',m' < m0∧I0 [x9,V9] s m'
def qEt (X:Td)(nodes0 links1 x2 x3 x9 n10:AV) (I0:IvP) (m0:Nat) (K:KvP) (s:Hq):Prop:=
 oK (qAG .lss n10 nodes0) λV3=>qAP V3
 (wC TP X 65 [nodes0,links1,x2,x3,n10] (λV4 S5=>oK (qAa V4) λV6=>oK (qAG .gtr (.int .i64 V6) (.int .i64 0)) λV8=>qAP V8
 (wC TP X 33 [n10] (λV10 S11=>oK (qA2 [(.int .u32 0),.nilslc] [(0,1,V10),(1,1,V4)]) λC12=>oK (qA2 (repl 1 [(.int .u32 0),.nilslc]) [(0,2,(.agg C12))]) λC13=>qAb C13=true∧newK 66 C13 (λB14 S15=>appK 66 2 x9 (.slc B14 0 1 (some 1) 2) (λV16 S17=>qCS X V16 n10 I0 m0 K S17) S15) S11) S5)
 (qCS X x9 n10 I0 m0 K S5)) s)
 (K x9 s)
def qKe (X:Td)(nodes0 links1 x2 x3:AV) (K:KvP) (s:Hq):Prop:=
 wC TP X 64 [nodes0,links1,x2,x3] (λV0 S1=>oK (qBd .not V0) λV2=>qAP V2
 (K .nilslc S1)
 (∃ I0:IvP,(∃ m,I0 [.nilslc,(.int .i64 0)] S1 m)∧∀ (f:Env) (s:Hq) (m0:Nat),I0 [f 9,f 10] s m0→
 qEt X nodes0 links1 x2 x3 (f 9) (f 10) I0 m0 K s)) s
def qHq:Nat→List Nat:=λk=>cond (Nat.beq k 10) [9,10] ([])
theorem qIh {nodes0 links1 x2 x3:AV} {K:KvP} {s:Hq} (h:qKe XX nodes0 links1 x2 x3 K s):wC TP XX 32 [nodes0,links1,x2,x3] K s:=wOK qAr qHq rfl Tryz.func32 (by kernel_rfl) (by kernel_rfl) (by kernel_rfl) h
def qJO (X:Td)(a0 b1 i5:AV) (I0:IvP) (m0:Nat) (K:KvP) (s:Hq):Prop:=
 oK (qAa a0) λV5=>oK (qAG .lss i5 (.int .i64 V5)) λV7=>qAP V7
 (oK (qAO 1 a0 i5) λV8=>oK (rd1 s V8) λV9=>oK (qAO 1 b1 i5) λV10=>oK (rd1 s V10) λV11=>oK (negB true (eqV 0 false V9 V11)) λV12=>qAP V12
 (K (.bool false) s)
 (oK (qAG .add i5 (.int .i64 1)) λV13=>∃ m',m' < m0∧I0 [V13] s m'))
 (K (.bool true) s)
def qMF (X:Td)(a0 b1:AV) (K:KvP) (s:Hq):Prop:=
 oK (qAa a0) λV0=>oK (qAa b1) λV2=>oK (negB true (eqV 0 false (.int .i64 V0) (.int .i64 V2))) λV4=>qAP V4
 (K (.bool false) s)
 (∃ I0:IvP,(∃ m,I0 [(.int .i64 0)] s m)∧∀ (f:Env) (s:Hq) (m0:Nat),I0 [f 5] s m0→
 qJO X a0 b1 (f 5) I0 m0 K s)
def qMP:Nat→List Nat:=λk=>cond (Nat.beq k 8) [5] ([])
theorem qM8 {a0 b1:AV} {K:KvP} {s:Hq} (h:qMF XX a0 b1 K s):wC TP XX 11 [a0,b1] K s:=wOK qAr qMP rfl Tryz.func11 (by kernel_rfl) (by kernel_rfl) (by kernel_rfl) h
def qSK (X:Td)(nodes0 links1 x2 t3:AV) (K:KvP) (s:Hq):Prop:=
 oK (qA2 (repl 1 [(.int .i64 0)]) [(0,1,t3)]) λC0=>qAb C0=true∧newK 3 C0 (λB1 S2=>wC TP X 55 [nodes0,links1,x2,(.slc B1 0 1 (some 1) 1)] (λV3 S4=>oK (qBd .not V3) λV5=>qAP V5
 (K .nilslc S4)
 (wC TP X 57 [nodes0,links1,x2] (λV6 S7=>wC TP X 56 [V6,t3] (λV8 S9=>K V8 S9) S7) S4)) S2) s
theorem qN0 {nodes0 links1 x2 t3:AV} {K:KvP} {s:Hq} (h:qSK XX nodes0 links1 x2 t3 K s):wC TP XX 23 [nodes0,links1,x2,t3] K s:=wOK qAr nA0 rfl Tryz.func23 (by kernel_rfl) (by kernel_rfl) (by kernel_rfl) h
def qKC (X:Td)(x12 t35 t36 t37:AV) (I0:IvP) (m0:Nat) (K:KvP) (s:Hq):Prop:=
 oK (qAG .lss t37 t36) λV16=>qAP V16
 (oK (qAO 3 t35 t37) λV17=>oK (rdN s 3 V17) λV18=>newK 137 [(.int .i64 0),(.int .i64 0),(.int .i64 0)] (λB19 S20=>oK (qBo S20 3 (.ptr B19 0) (.agg V18)) λS21=>oK (qAF 0 (.ptr B19 0)) λV22=>oK (rd1 S21 V22) λV23=>oK (qA2 (repl 1 [(.int .i64 0)]) [(0,1,V23)]) λC24=>qAb C24=true∧newK 3 C24 (λB25 S26=>appK 3 1 x12 (.slc B25 0 1 (some 1) 1) (λV27 S28=>oK (qAG .add t37 (.int .i64 1)) λV29=>∃ m',m' < m0∧I0 [V27,V29] S28 m') S26) S21) s)
 (K x12 s)
def qRO (X:Td)(nodes0 links1 x2 t3 t4:AV) (K:KvP) (s:Hq):Prop:=
 oK (qA2 (repl 2 [(.int .i64 0)]) [(0,1,t3),(1,1,t4)]) λC0=>qAb C0=true∧newK 3 C0 (λB1 S2=>wC TP X 55 [nodes0,links1,x2,(.slc B1 0 2 (some 2) 1)] (λV3 S4=>oK (qBd .not V3) λV5=>qAP V5
 (K .nilslc S4)
 (wC TP X 57 [nodes0,links1,x2] (λV6 S7=>oK (qAO 1 V6 t3) λV8=>oK (rd1 S7 V8) λV9=>wC TP X 56 [V6,t4] (λV10 S11=>(∀ b,S7 b≠none→S7 b=none→S11 b=none)→
 wC TP X 76 [V9,V10,t3] (λV12 S13=>oK (qAa V12) λV14=>∃ I0:IvP,(∃ m,I0 [.nilslc,(.int .i64 0)] S13 m)∧∀ (f:Env) (s:Hq) (m0:Nat),I0 [f 12,f 37] s m0→
 qKC X (f 12) V12 (.int .i64 V14) (f 37) I0 m0 K s) (add S7 S11)) (frz S7)) S4)) S2) s
def qNY:Nat→List Nat:=λk=>cond (Nat.beq k 12) [12,37] ([])
theorem qN1 {nodes0 links1 x2 t3 t4:AV} {K:KvP} {s:Hq} (h:qRO XX nodes0 links1 x2 t3 t4 K s):wC TP XX 54 [nodes0,links1,x2,t3,t4] K s:=wOK qAr qNY rfl Tryz.func54 (by kernel_rfl) (by kernel_rfl) (by kernel_rfl) h
def qD2 (X:Td)(n0 t6 t8:AV) (K:KvP) (s:Hq):Prop:=
 oK (qBK t6 (.bool true) t8) λV1=>qAP V1
 (K (.tup [(.int .u32 0),(.int .i64 2)]) s)
 (oK (qCi .u32 n0) λV2=>oK (qAG .add (.int .u32 184483840) V2) λV3=>oK (qAG .add V3 (.int .u32 1)) λV4=>K (.tup [V4,(.int .i64 0)]) s)
def qIf (X:Td)(n0:AV) (K:KvP) (s:Hq):Prop:=
 oK (qAG .lss n0 (.int .i64 0)) λV0=>qAP V0
 (qD2 X n0 V0 .undef K s)
 (oK (qAG .geq n0 (.int .i64 32)) λV5=>qD2 X n0 V0 V5 K s)
theorem qKf {n0:AV} {K:KvP} {s:Hq} (h:qIf XX n0 K s):wC TP XX 24 [n0] K s:=wOK qAr nA0 rfl Tryz.func24 (by kernel_rfl) (by kernel_rfl) (by kernel_rfl) h
def qA9 (X:Td)(t24 t27:AV) (K:KvP) (s:Hq):Prop:=
 oK (qBK t24 t27 (.bool false)) λV5=>K V5 s
def qBA (X:Td)(nodes0 n3 t20 t22:AV) (K:KvP) (s:Hq):Prop:=
 oK (qBK t20 t22 (.bool false)) λV4=>qAP V4
 (oK (qAG .lss n3 nodes0) λV6=>qA9 X V4 V6 K s)
 (qA9 X V4 .undef K s)
def qBV (X:Td)(nodes0 n3 t13 t18:AV) (K:KvP) (s:Hq):Prop:=
 oK (qBK t13 t18 (.bool false)) λV3=>qAP V3
 (oK (qAG .geq n3 (.int .i64 0)) λV7=>qBA X nodes0 n3 V3 V7 K s)
 (qBA X nodes0 n3 V3 .undef K s)
def qIn (X:Td)(nodes0 links1 x2 n3:AV) (K:KvP) (s:Hq):Prop:=
 wC TP X 26 [nodes0,links1] (λV0 S1=>oK (negB false (eqV 0 true V0 (.int .i64 0))) λV2=>qAP V2
 (oK (qAa x2) λV8=>oK (qAa links1) λV10=>oK (negB false (eqV 0 false (.int .i64 V8) (.int .i64 V10))) λV12=>qBV X nodes0 n3 V2 V12 K S1)
 (qBV X nodes0 n3 V2 .undef K S1)) s
theorem qG6 {nodes0 links1 x2 n3:AV} {K:KvP} {s:Hq} (h:qIn XX nodes0 links1 x2 n3 K s):wC TP XX 64 [nodes0,links1,x2,n3] K s:=wOK qAr nA0 rfl Tryz.func64 (by kernel_rfl) (by kernel_rfl) (by kernel_rfl) h
def qBg (X:Td)(x12 i13:AV) (I0:IvP) (m0:Nat) (K:KvP) (s:Hq):Prop:=
 oK (qAG .add i13 (.int .i64 1)) λV18=>∃ m',m' < m0∧I0 [x12,V18] s m'
def qBG (X:Td)(x12 i13 t61 t76:AV) (I0:IvP) (m0:Nat) (K:KvP) (s:Hq):Prop:=
 oK (qBK t61 t76 (.bool false)) λV17=>qAP V17
 (oK (qA2 (repl 1 [(.int .i64 0)]) [(0,1,i13)]) λC19=>qAb C19=true∧newK 3 C19 (λB20 S21=>appK 3 1 x12 (.slc B20 0 1 (some 1) 1) (λV22 S23=>qBg X V22 i13 I0 m0 K S23) S21) s)
 (qBg X x12 i13 I0 m0 K s)
def qBh (X:Td)(links1 t3 d11 x12 i13 n14 t54 t59:AV) (I0:IvP) (m0:Nat) (K:KvP) (s:Hq):Prop:=
 oK (qBK t54 t59 (.bool false)) λV16=>qAP V16
 (oK (qAO 1 d11 n14) λV24=>oK (rd1 s V24) λV25=>oK (qAO 3 links1 i13) λV26=>oK (qAF 2 V26) λV27=>oK (rd1 s V27) λV28=>oK (qAG .add V25 V28) λV29=>oK (qAO 1 d11 t3) λV30=>oK (rd1 s V30) λV31=>oK (negB false (eqV 0 false V29 V31)) λV32=>qBG X x12 i13 V16 V32 I0 m0 K s)
 (qBG X x12 i13 V16 .undef I0 m0 K s)
def qBy (X:Td)(links1 t3 d11 x12 i13 n14 t48 t52:AV) (I0:IvP) (m0:Nat) (K:KvP) (s:Hq):Prop:=
 oK (qBK t48 t52 (.bool false)) λV15=>qAP V15
 (oK (qAO 1 d11 n14) λV33=>oK (rd1 s V33) λV34=>oK (qAG .geq V34 (.int .i64 0)) λV35=>qBh X links1 t3 d11 x12 i13 n14 V15 V35 I0 m0 K s)
 (qBh X links1 t3 d11 x12 i13 n14 V15 .undef I0 m0 K s)
def qBx (X:Td)(links1 x2 t3 d11 x12 i13 t31 t34:AV) (I0:IvP) (m0:Nat) (K:KvP) (s:Hq):Prop:=
 oK (qBK t31 t34 (.bool false)) λV8=>qAP V8
 (oK (qAO 3 links1 i13) λV9=>oK (rdN s 3 V9) λV10=>wC TP X 88 [(.agg V10),t3] (λV11 S12=>oK (qAN V11 0) λV13=>oK (qAN V11 1) λV14=>qAP V14
 (oK (qAO 1 x2 i13) λV36=>oK (rd1 S12 V36) λV37=>qBy X links1 t3 d11 x12 i13 V13 V14 V37 I0 m0 K S12)
 (qBy X links1 t3 d11 x12 i13 V13 V14 .undef I0 m0 K S12)) s)
 (K x12 s)
def qED (X:Td)(links1 x2 t3 d11 x12 i13:AV) (I0:IvP) (m0:Nat) (K:KvP) (s:Hq):Prop:=
 oK (qAa links1) λV5=>oK (qAG .lss i13 (.int .i64 V5)) λV7=>qAP V7
 (oK (qAa d11) λV38=>oK (qAG .gtr (.int .i64 V38) (.int .i64 0)) λV40=>qBx X links1 x2 t3 d11 x12 i13 V7 V40 I0 m0 K s)
 (qBx X links1 x2 t3 d11 x12 i13 V7 .undef I0 m0 K s)
def qJK (X:Td)(nodes0 links1 x2 t3 t4:AV) (K:KvP) (s:Hq):Prop:=
 wC TP X 64 [nodes0,links1,x2,t3] (λV0 S1=>oK (qBd .not V0) λV2=>qAP V2
 (K .nilslc S1)
 (wC TP X 87 [nodes0,links1,x2,t4] (λV3 S4=>∃ I0:IvP,(∃ m,I0 [.nilslc,(.int .i64 0)] S4 m)∧∀ (f:Env) (s:Hq) (m0:Nat),I0 [f 12,f 13] s m0→
 qED X links1 x2 t3 V3 (f 12) (f 13) I0 m0 K s) S1)) s
def qGx:Nat→List Nat:=λk=>cond (Nat.beq k 12) [12,13] ([])
theorem qHR {nodes0 links1 x2 t3 t4:AV} {K:KvP} {s:Hq} (h:qJK XX nodes0 links1 x2 t3 t4 K s):wC TP XX 65 [nodes0,links1,x2,t3,t4] K s:=wOK qAr qGx rfl Tryz.func65 (by kernel_rfl) (by kernel_rfl) (by kernel_rfl) h
def qHA (X:Td)(n0:AV) (K:KvP) (s:Hq):Prop:=
 wC TP X 66 [n0] (λV0 S1=>oK (qAN V0 0) λV2=>oK (qAN V0 1) λV3=>K V2 S1) s
theorem qF4 {n0:AV} {K:KvP} {s:Hq} (h:qHA XX n0 K s):wC TP XX 33 [n0] K s:=wOK qAr nA0 rfl Tryz.func33 (by kernel_rfl) (by kernel_rfl) (by kernel_rfl) h
def qDS (X:Td)(t33 t59 t62:AV) (I3:IvP) (m3:Nat) (K:KvP) (s:Hq):Prop:=
 oK (qBK t59 (.bool true) t62) λV22=>qAP V22
 (K (.bool false) s)
 (oK (qAG .add t33 (.int .i64 1)) λV23=>∃ m',m' < m3∧I3 [V23] s m')
def qCO (X:Td)(l11 t33 t54 t57:AV) (I3:IvP) (m3:Nat) (K:KvP) (s:Hq):Prop:=
 oK (qBK t54 (.bool true) t57) λV21=>qAP V21
 (qDS X t33 V21 .undef I3 m3 K s)
 (oK (qAF 2 l11) λV24=>oK (rd1 s V24) λV25=>oK (qAG .gtr V25 (.int .i64 1000)) λV26=>qDS X t33 V21 V26 I3 m3 K s)
def qCe (X:Td)(l11 t33 t47 t52:AV) (I3:IvP) (m3:Nat) (K:KvP) (s:Hq):Prop:=
 oK (qBK t47 (.bool true) t52) λV20=>qAP V20
 (qCO X l11 t33 V20 .undef I3 m3 K s)
 (oK (qAF 2 l11) λV27=>oK (rd1 s V27) λV28=>oK (qAG .lss V28 (.int .i64 1)) λV29=>qCO X l11 t33 V20 V29 I3 m3 K s)
def qDY (X:Td)(l11 t33 t41 t45:AV) (I3:IvP) (m3:Nat) (K:KvP) (s:Hq):Prop:=
 oK (qBK t41 (.bool true) t45) λV19=>qAP V19
 (qCe X l11 t33 V19 .undef I3 m3 K s)
 (oK (qAF 0 l11) λV30=>oK (rd1 s V30) λV31=>oK (qAF 1 l11) λV32=>oK (rd1 s V32) λV33=>oK (negB false (eqV 0 false V31 V33)) λV34=>qCe X l11 t33 V19 V34 I3 m3 K s)
def qJL (X:Td)(x3 x9 t31 t32 t33:AV) (I3:IvP) (m3:Nat) (K:KvP) (s:Hq):Prop:=
 oK (qAG .lss t33 t32) λV9=>qAP V9
 (oK (qAO 3 t31 t33) λV10=>oK (rdN s 3 V10) λV11=>newK 72 [(.int .i64 0),(.int .i64 0),(.int .i64 0)] (λB12 S13=>oK (qBo S13 3 (.ptr B12 0) (.agg V11)) λS14=>oK (qAF 0 (.ptr B12 0)) λV15=>oK (rd1 S14 V15) λV16=>funK TP X x9 [V16] (λV17 S18=>qAP V17
 (qDY X (.ptr B12 0) t33 V17 .undef I3 m3 K S18)
 (oK (qAF 1 (.ptr B12 0)) λV35=>oK (rd1 S18 V35) λV36=>funK TP X x9 [V36] (λV37 S38=>qDY X (.ptr B12 0) t33 V17 V37 I3 m3 K S38) S18)) S14) s)
 (wC TP X 78 [x3,x9] (λV39 S40=>oK (qBd .not V39) λV41=>K V41 S40) s)
def qCM (X:Td)(links1 x3 x4 t23 t28:AV) (K:KvP) (s:Hq):Prop:=
 oK (qBK t23 (.bool true) t28) λV6=>qAP V6
 (K (.bool false) s)
 (oK (qAa links1) λV7=>∃ I3:IvP,(∃ m,I3 [(.int .i64 0)] s m)∧∀ (f:Env) (s:Hq) (m3:Nat),I3 [f 33] s m3→
 qJL X x3 (.fn (.func 77) [] [x4]) links1 (.int .i64 V7) (f 33) I3 m3 K s)
def qCf (X:Td)(links1 x2 x3 x4 t18 t21:AV) (K:KvP) (s:Hq):Prop:=
 oK (qBK t18 (.bool true) t21) λV5=>qAP V5
 (qCM X links1 x3 x4 V5 .undef K s)
 (oK (qAa x2) λV42=>oK (qAa links1) λV44=>oK (negB true (eqV 0 false (.int .i64 V42) (.int .i64 V44))) λV46=>qCM X links1 x3 x4 V5 V46 K s)
def qDU (X:Td)(links1 x2 x3 x4 t14 t16:AV) (K:KvP) (s:Hq):Prop:=
 oK (qBK t14 (.bool true) t16) λV4=>qAP V4
 (qCf X links1 x2 x3 x4 V4 .undef K s)
 (oK (qAa links1) λV47=>oK (qAG .gtr (.int .i64 V47) (.int .i64 128)) λV49=>qCf X links1 x2 x3 x4 V4 V49 K s)
def qQM (X:Td)(nodes0 links1 x2 x3:AV) (K:KvP) (s:Hq):Prop:=
 boxK 3 nodes0 (λB0 S1=>oK (rd1 S1 B0) λV2=>oK (qAG .lss V2 (.int .i64 1)) λV3=>qAP V3
 (qDU X links1 x2 x3 B0 V3 .undef K S1)
 (oK (rd1 S1 B0) λV50=>oK (qAG .gtr V50 (.int .i64 32)) λV51=>qDU X links1 x2 x3 B0 V3 V51 K S1)) s
def qMQ:Nat→List Nat:=λk=>cond (Nat.beq k 10) [33] ([])
theorem qMk {nodes0 links1 x2 x3:AV} {K:KvP} {s:Hq} (h:qQM XX nodes0 links1 x2 x3 K s):wC TP XX 55 [nodes0,links1,x2,x3] K s:=wOK qAr qMQ rfl Tryz.func55 (by kernel_rfl) (by kernel_rfl) (by kernel_rfl) h
def qCz (X:Td)(t58:AV) (I2:IvP) (m2:Nat) (I1:IvP) (m1:Nat) (K:KvP) (s:Hq):Prop:=
 oK (qAG .add t58 (.int .i64 1)) λV59=>∃ m',m' < m2∧I2 [V59] s m'
def qGF (X:Td)(x5 q7 x8 t56 t57 t58:AV) (I2:IvP) (m2:Nat) (I1:IvP) (m1:Nat) (K:KvP) (s:Hq):Prop:=
 oK (qAG .lss t58 t57) λV48=>qAP V48
 (oK (qAO 3 t56 t58) λV49=>oK (rdN s 3 V49) λV50=>newK 137 [(.int .i64 0),(.int .i64 0),(.int .i64 0)] (λB51 S52=>oK (qBo S52 3 (.ptr B51 0) (.agg V50)) λS53=>oK (qAF 1 (.ptr B51 0)) λV54=>oK (rd1 S53 V54) λV55=>oK (qAO 1 x5 V55) λV56=>oK (rd1 S53 V56) λV57=>oK (qAG .lss V57 (.int .i64 0)) λV58=>qAP V58
 (oK (qAF 1 (.ptr B51 0)) λV60=>oK (rd1 S53 V60) λV61=>oK (qAF 1 x8) λV62=>oK (rd1 S53 V62) λV63=>oK (qAF 2 (.ptr B51 0)) λV64=>oK (rd1 S53 V64) λV65=>oK (qAG .add V63 V65) λV66=>oK (qA2 [(.int .i64 0),(.int .i64 0)] [(0,1,V61),(1,1,V66)]) λC67=>wC TP X 81 [(.ifc 140 q7),(.ifc 142 (.agg C67))] (λV68 S69=>qCz X t58 I2 m2 I1 m1 K S69) S53)
 (qCz X t58 I2 m2 I1 m1 K S53)) s)
 (∃ m',m' < m1∧I1 [] s m')
def qGB (X:Td)(all0 x5 q7:AV) (I1:IvP) (m1:Nat) (K:KvP) (s:Hq):Prop:=
 oK (qAH q7) λV18=>oK (rd1 s V18) λV19=>wC TP X 79 [V19] (λV20 S21=>oK (qAG .gtr V20 (.int .i64 0)) λV22=>qAP V22
 (wC TP X 80 [(.ifc 140 q7)] (λV23 S24=>oK (qR9 142 (some (.agg [(.int .i64 0),(.int .i64 0)])) true V23) λV25=>oK (qAN V25 0) λV26=>oK (qAN V25 1) λV27=>newK 142 [(.int .i64 0),(.int .i64 0)] (λB28 S29=>oK (qBo S29 2 (.ptr B28 0) V26) λS30=>oK (qAF 0 (.ptr B28 0)) λV31=>oK (rd1 S30 V31) λV32=>oK (qAO 1 x5 V32) λV33=>oK (rd1 S30 V33) λV34=>oK (qAG .geq V34 (.int .i64 0)) λV35=>qAP V35
 (∃ m',m' < m1∧I1 [] S30 m')
 (oK (qAF 0 (.ptr B28 0)) λV36=>oK (rd1 S30 V36) λV37=>oK (qAF 1 (.ptr B28 0)) λV38=>oK (rd1 S30 V38) λV39=>oK (qAO 1 x5 V37) λV40=>oK (wr1 S30 V40 V39) λS41=>oK (qAF 0 (.ptr B28 0)) λV42=>oK (rd1 S41 V42) λV43=>oK (qAO 1 all0 V43) λV44=>oK (rd1 S41 V44) λV45=>oK (qAa V45) λV46=>∃ I2:IvP,(∃ m,I2 [(.int .i64 0)] S41 m)∧∀ (f:Env) (s:Hq) (m2:Nat),I2 [f 58] s m2→
 qGF X x5 q7 (.ptr B28 0) V45 (.int .i64 V46) (f 58) I2 m2 I1 m1 K s)) S24) S21)
 (K x5 S21)) s
def qGK (X:Td)(all0 t1 x5 t16 t17:AV) (I0:IvP) (m0:Nat) (K:KvP) (s:Hq):Prop:=
 oK (qAG .lss t17 t16) λV8=>qAP V8
 (oK (qAO 1 x5 t17) λV9=>oK (wr1 s V9 (.int .i64 (-1))) λS10=>oK (qAG .add t17 (.int .i64 1)) λV11=>∃ m',m' < m0∧I0 [V11] S10 m')
 (oK (qA2 [(.int .i64 0),(.int .i64 0)] [(0,1,t1),(1,1,(.int .i64 0))]) λC12=>oK (qA2 (repl 1 [(.int .i64 0),(.int .i64 0)]) [(0,2,(.agg C12))]) λC13=>qAb C13=true∧newK 142 C13 (λB14 S15=>boxK 144 (.slc B14 0 1 (some 1) 2) (λB16 S17=>∃ I1:IvP,(∃ m,I1 [] S17 m)∧∀ (f:Env) (s:Hq) (m1:Nat),I1 [] s m1→
 qGB X all0 x5 B16 I1 m1 K s) S15) s)
def qId (X:Td)(all0 t1:AV) (K:KvP) (s:Hq):Prop:=
 oK (qAa all0) λV0=>oK (nat? (.int .i64 V0)) λn_2=>oK (nat? (.int .i64 V0)) λn_3=>(n_2≤n_3∧n_3≤4294967296)∧newK 3 (repl n_3 [(.int .i64 0)]) (λB4 S5=>oK (qAa (.slc B4 0 n_2 (some n_3) 1)) λV6=>∃ I0:IvP,(∃ m,I0 [(.int .i64 0)] S5 m)∧∀ (f:Env) (s:Hq) (m0:Nat),I0 [f 17] s m0→
 qGK X all0 t1 (.slc B4 0 n_2 (some n_3) 1) (.int .i64 V6) (f 17) I0 m0 K s) s
def qJ7:Nat→List Nat:=λk=>cond (Nat.beq k 6) [17] (cond (Nat.beq k 16) [] (cond (Nat.beq k 26) [58] ([])))
theorem qKh {all0 t1:AV} {K:KvP} {s:Hq} (h:qId XX all0 t1 K s):wC TP XX 56 [all0,t1] K s:=wOK qAr qJ7 rfl Tryz.func56 (by kernel_rfl) (by kernel_rfl) (by kernel_rfl) h
def qDw (X:Td)(l7 t12:AV) (I0:IvP) (m0:Nat) (K:KvP) (s:Hq):Prop:=
 oK (qAG .add t12 (.int .i64 1)) λV18=>∃ m',m' < m0∧I0 [l7,V18] s m'
def qIX (X:Td)(dist1 n2 l7 t10 t11 t12:AV) (I0:IvP) (m0:Nat) (K:KvP) (s:Hq):Prop:=
 oK (qAG .lss t12 t11) λV2=>qAP V2
 (oK (qAO 3 t10 t12) λV3=>oK (rdN s 3 V3) λV4=>newK 137 [(.int .i64 0),(.int .i64 0),(.int .i64 0)] (λB5 S6=>oK (qBo S6 3 (.ptr B5 0) (.agg V4)) λS7=>oK (qAO 1 dist1 n2) λV8=>oK (rd1 S7 V8) λV9=>oK (qAF 1 (.ptr B5 0)) λV10=>oK (rd1 S7 V10) λV11=>oK (qAO 1 dist1 V11) λV12=>oK (rd1 S7 V12) λV13=>oK (qAF 2 (.ptr B5 0)) λV14=>oK (rd1 S7 V14) λV15=>oK (qAG .add V13 V15) λV16=>oK (negB false (eqV 0 false V9 V16)) λV17=>qAP V17
 (oK (rdN S7 3 (.ptr B5 0)) λV19=>oK (qA2 (repl 1 [(.int .i64 0),(.int .i64 0),(.int .i64 0)]) [(0,3,(.agg V19))]) λC20=>qAb C20=true∧newK 137 C20 (λB21 S22=>appK 137 3 l7 (.slc B21 0 1 (some 1) 3) (λV23 S24=>qDw X V23 t12 I0 m0 K S24) S22) S7)
 (qDw X l7 t12 I0 m0 K S7)) s)
 (K l7 s)
def qKj (X:Td)(t0 dist1 n2:AV) (K:KvP) (s:Hq):Prop:=
 oK (qAa t0) λV0=>∃ I0:IvP,(∃ m,I0 [.nilslc,(.int .i64 0)] s m)∧∀ (f:Env) (s:Hq) (m0:Nat),I0 [f 7,f 12] s m0→
 qIX X dist1 n2 (f 7) t0 (.int .i64 V0) (f 12) I0 m0 K s
def qLl:Nat→List Nat:=λk=>cond (Nat.beq k 6) [7,12] ([])
theorem qMJ {t0 dist1 n2:AV} {K:KvP} {s:Hq} (h:qKj XX t0 dist1 n2 K s):wC TP XX 76 [t0,dist1,n2] K s:=wOK qAr qLl rfl Tryz.func76 (by kernel_rfl) (by kernel_rfl) (by kernel_rfl) h
def qBT (X:Td)(i5 x6 t53 t56:AV) (I1:IvP) (m1:Nat) (K:KvP) (s:Hq):Prop:=
 oK (qBK t53 (.bool true) t56) λV20=>qAP V20
 (K (.int .i64 2) s)
 (oK (qAF 0 x6) λV21=>oK (rd1 s V21) λV22=>oK (qAF 1 x6) λV23=>oK (rd1 s V23) λV24=>oK (negB false (eqV 0 false V22 V24)) λV25=>qAP V25
 (K (.int .i64 12) s)
 (oK (qAG .add i5 (.int .i64 1)) λV26=>∃ m',m' < m1∧I1 [V26] s m'))
def qAn (X:Td)(i5 x6 t48 t51:AV) (I1:IvP) (m1:Nat) (K:KvP) (s:Hq):Prop:=
 oK (qBK t48 (.bool true) t51) λV19=>qAP V19
 (qBT X i5 x6 V19 .undef I1 m1 K s)
 (oK (qAF 2 x6) λV27=>oK (rd1 s V27) λV28=>oK (qAG .gtr V28 (.int .i64 1000)) λV29=>qBT X i5 x6 V19 V29 I1 m1 K s)
def qAw (X:Td)(i5 x6 t42 t46:AV) (I1:IvP) (m1:Nat) (K:KvP) (s:Hq):Prop:=
 oK (qBK t42 (.bool true) t46) λV18=>qAP V18
 (qAn X i5 x6 V18 .undef I1 m1 K s)
 (oK (qAF 2 x6) λV30=>oK (rd1 s V30) λV31=>oK (qAG .lss V31 (.int .i64 1)) λV32=>qAn X i5 x6 V18 V32 I1 m1 K s)
def qBU (X:Td)(nodes0 i5 x6 t37 t40:AV) (I1:IvP) (m1:Nat) (K:KvP) (s:Hq):Prop:=
 oK (qBK t37 (.bool true) t40) λV17=>qAP V17
 (qAw X i5 x6 V17 .undef I1 m1 K s)
 (oK (qAF 1 x6) λV33=>oK (rd1 s V33) λV34=>oK (qAG .geq V34 nodes0) λV35=>qAw X i5 x6 V17 V35 I1 m1 K s)
def qBt (X:Td)(nodes0 i5 x6 t31 t35:AV) (I1:IvP) (m1:Nat) (K:KvP) (s:Hq):Prop:=
 oK (qBK t31 (.bool true) t35) λV16=>qAP V16
 (qBU X nodes0 i5 x6 V16 .undef I1 m1 K s)
 (oK (qAF 1 x6) λV36=>oK (rd1 s V36) λV37=>oK (qAG .lss V37 (.int .i64 0)) λV38=>qBU X nodes0 i5 x6 V16 V38 I1 m1 K s)
def qDu (X:Td)(nodes0 links1 i5:AV) (I1:IvP) (m1:Nat) (K:KvP) (s:Hq):Prop:=
 oK (qAa links1) λV5=>oK (qAG .lss i5 (.int .i64 V5)) λV7=>qAP V7
 (oK (qAO 3 links1 i5) λV8=>oK (rdN s 3 V8) λV9=>newK 72 [(.int .i64 0),(.int .i64 0),(.int .i64 0)] (λB10 S11=>oK (qBo S11 3 (.ptr B10 0) (.agg V9)) λS12=>oK (qAF 0 (.ptr B10 0)) λV13=>oK (rd1 S12 V13) λV14=>oK (qAG .lss V14 (.int .i64 0)) λV15=>qAP V15
 (qBt X nodes0 i5 (.ptr B10 0) V15 .undef I1 m1 K S12)
 (oK (qAF 0 (.ptr B10 0)) λV39=>oK (rd1 S12 V39) λV40=>oK (qAG .geq V40 nodes0) λV41=>qBt X nodes0 i5 (.ptr B10 0) V15 V41 I1 m1 K S12)) s)
 (K (.int .i64 0) s)
def qBW (X:Td)(nodes0 links1 t10 t12:AV) (K:KvP) (s:Hq):Prop:=
 oK (qBK t10 (.bool true) t12) λV1=>qAP V1
 (K (.int .i64 2) s)
 (oK (qAa links1) λV2=>oK (qAG .gtr (.int .i64 V2) (.int .i64 128)) λV4=>qAP V4
 (K (.int .i64 5) s)
 (∃ I1:IvP,(∃ m,I1 [(.int .i64 0)] s m)∧∀ (f:Env) (s:Hq) (m1:Nat),I1 [f 5] s m1→
 qDu X nodes0 links1 (f 5) I1 m1 K s))
def qEv (X:Td)(nodes0 links1:AV) (K:KvP) (s:Hq):Prop:=
 oK (qAG .lss nodes0 (.int .i64 1)) λV0=>qAP V0
 (qBW X nodes0 links1 V0 .undef K s)
 (oK (qAG .gtr nodes0 (.int .i64 32)) λV42=>qBW X nodes0 links1 V0 V42 K s)
def qGg:Nat→List Nat:=λk=>cond (Nat.beq k 12) [5] ([])
theorem qHF {nodes0 links1:AV} {K:KvP} {s:Hq} (h:qEv XX nodes0 links1 K s):wC TP XX 26 [nodes0,links1] K s:=wOK qAr qGg rfl Tryz.func26 (by kernel_rfl) (by kernel_rfl) (by kernel_rfl) h
def qAd (X:Td)(x11 i12:AV) (I2:IvP) (m2:Nat) (I1:IvP) (m1:Nat) (K:KvP) (s:Hq):Prop:=
 oK (qAG .add i12 (.int .i64 1)) λV16=>∃ m',m' < m2∧I2 [x11,V16] s m'
def qBf (X:Td)(d9 x11 i12 x13 t97 t104 t118:AV) (I2:IvP) (m2:Nat) (I1:IvP) (m1:Nat) (K:KvP) (s:Hq):Prop:=
 oK (qBK t104 (.bool true) t118) λV47=>oK (qBK t97 V47 (.bool false)) λV48=>qAP V48
 (oK (qAF 0 x13) λV49=>oK (rd1 s V49) λV50=>oK (qAF 1 x13) λV51=>oK (rd1 s V51) λV52=>oK (qAO 1 d9 V52) λV53=>oK (rd1 s V53) λV54=>oK (qAF 2 x13) λV55=>oK (rd1 s V55) λV56=>oK (qAG .add V54 V56) λV57=>oK (qAO 1 d9 V50) λV58=>oK (wr1 s V58 V57) λS59=>qAd X (.bool true) i12 I2 m2 I1 m1 K S59)
 (qAd X x11 i12 I2 m2 I1 m1 K s)
def qA5 (X:Td)(d9 x11 i12 x13:AV) (I2:IvP) (m2:Nat) (I1:IvP) (m1:Nat) (K:KvP) (s:Hq):Prop:=
 oK (qAF 1 x13) λV37=>oK (rd1 s V37) λV38=>oK (qAO 1 d9 V38) λV39=>oK (rd1 s V39) λV40=>oK (qAG .geq V40 (.int .i64 0)) λV41=>qAP V41
 (oK (qAF 0 x13) λV42=>oK (rd1 s V42) λV43=>oK (qAO 1 d9 V43) λV44=>oK (rd1 s V44) λV45=>oK (qAG .lss V45 (.int .i64 0)) λV46=>qAP V46
 (qBf X d9 x11 i12 x13 V41 V46 .undef I2 m2 I1 m1 K s)
 (oK (qAF 0 x13) λV60=>oK (rd1 s V60) λV61=>oK (qAO 1 d9 V61) λV62=>oK (rd1 s V62) λV63=>oK (qAF 1 x13) λV64=>oK (rd1 s V64) λV65=>oK (qAO 1 d9 V65) λV66=>oK (rd1 s V66) λV67=>oK (qAF 2 x13) λV68=>oK (rd1 s V68) λV69=>oK (qAG .add V67 V69) λV70=>oK (qAG .gtr V63 V70) λV71=>qBf X d9 x11 i12 x13 V41 V46 V71 I2 m2 I1 m1 K s))
 (oK (qBK V41 .undef (.bool false)) λV72=>qAP V72
 (oK (qAF 0 x13) λV73=>oK (rd1 s V73) λV74=>oK (qAF 1 x13) λV75=>oK (rd1 s V75) λV76=>oK (qAO 1 d9 V76) λV77=>oK (rd1 s V77) λV78=>oK (qAF 2 x13) λV79=>oK (rd1 s V79) λV80=>oK (qAG .add V78 V80) λV81=>oK (qAO 1 d9 V74) λV82=>oK (wr1 s V82 V81) λS83=>qAd X (.bool true) i12 I2 m2 I1 m1 K S83)
 (qAd X x11 i12 I2 m2 I1 m1 K s))
def qBj (X:Td)(d9 x11 i12 x13 t55 t62 t76:AV) (I2:IvP) (m2:Nat) (I1:IvP) (m1:Nat) (K:KvP) (s:Hq):Prop:=
 oK (qBK t62 (.bool true) t76) λV35=>oK (qBK t55 V35 (.bool false)) λV36=>qAP V36
 (oK (qAF 1 x13) λV84=>oK (rd1 s V84) λV85=>oK (qAF 0 x13) λV86=>oK (rd1 s V86) λV87=>oK (qAO 1 d9 V87) λV88=>oK (rd1 s V88) λV89=>oK (qAF 2 x13) λV90=>oK (rd1 s V90) λV91=>oK (qAG .add V89 V91) λV92=>oK (qAO 1 d9 V85) λV93=>oK (wr1 s V93 V92) λS94=>qA5 X d9 (.bool true) i12 x13 I2 m2 I1 m1 K S94)
 (qA5 X d9 x11 i12 x13 I2 m2 I1 m1 K s)
def qEC (X:Td)(d9 x11 i12 x13 t97 t104 t118:AV) (I2:IvP) (m2:Nat) (I1:IvP) (m1:Nat) (K:KvP) (s:Hq):Prop:=
 oK (qBK t104 (.bool true) t118) λV118=>oK (qBK t97 V118 (.bool false)) λV119=>qAP V119
 (oK (qAF 0 x13) λV120=>oK (rd1 s V120) λV121=>oK (qAF 1 x13) λV122=>oK (rd1 s V122) λV123=>oK (qAO 1 d9 V123) λV124=>oK (rd1 s V124) λV125=>oK (qAF 2 x13) λV126=>oK (rd1 s V126) λV127=>oK (qAG .add V125 V127) λV128=>oK (qAO 1 d9 V121) λV129=>oK (wr1 s V129 V128) λS130=>qAd X (.bool true) i12 I2 m2 I1 m1 K S130)
 (qAd X x11 i12 I2 m2 I1 m1 K s)
def qCd (X:Td)(d9 x11 i12 x13:AV) (I2:IvP) (m2:Nat) (I1:IvP) (m1:Nat) (K:KvP) (s:Hq):Prop:=
 oK (qAF 1 x13) λV108=>oK (rd1 s V108) λV109=>oK (qAO 1 d9 V109) λV110=>oK (rd1 s V110) λV111=>oK (qAG .geq V111 (.int .i64 0)) λV112=>qAP V112
 (oK (qAF 0 x13) λV113=>oK (rd1 s V113) λV114=>oK (qAO 1 d9 V114) λV115=>oK (rd1 s V115) λV116=>oK (qAG .lss V116 (.int .i64 0)) λV117=>qAP V117
 (qEC X d9 x11 i12 x13 V112 V117 .undef I2 m2 I1 m1 K s)
 (oK (qAF 0 x13) λV131=>oK (rd1 s V131) λV132=>oK (qAO 1 d9 V132) λV133=>oK (rd1 s V133) λV134=>oK (qAF 1 x13) λV135=>oK (rd1 s V135) λV136=>oK (qAO 1 d9 V136) λV137=>oK (rd1 s V137) λV138=>oK (qAF 2 x13) λV139=>oK (rd1 s V139) λV140=>oK (qAG .add V138 V140) λV141=>oK (qAG .gtr V134 V141) λV142=>qEC X d9 x11 i12 x13 V112 V117 V142 I2 m2 I1 m1 K s))
 (oK (qBK V112 .undef (.bool false)) λV143=>qAP V143
 (oK (qAF 0 x13) λV144=>oK (rd1 s V144) λV145=>oK (qAF 1 x13) λV146=>oK (rd1 s V146) λV147=>oK (qAO 1 d9 V147) λV148=>oK (rd1 s V148) λV149=>oK (qAF 2 x13) λV150=>oK (rd1 s V150) λV151=>oK (qAG .add V149 V151) λV152=>oK (qAO 1 d9 V145) λV153=>oK (wr1 s V153 V152) λS154=>qAd X (.bool true) i12 I2 m2 I1 m1 K S154)
 (qAd X x11 i12 I2 m2 I1 m1 K s))
def qEO (X:Td)(links1 x2 d9 x11 i12:AV) (I2:IvP) (m2:Nat) (I1:IvP) (m1:Nat) (K:KvP) (s:Hq):Prop:=
 oK (qAa links1) λV13=>oK (qAG .lss i12 (.int .i64 V13)) λV15=>qAP V15
 (oK (qAO 3 links1 i12) λV17=>oK (rdN s 3 V17) λV18=>newK 72 [(.int .i64 0),(.int .i64 0),(.int .i64 0)] (λB19 S20=>oK (qBo S20 3 (.ptr B19 0) (.agg V18)) λS21=>oK (qAO 1 x2 i12) λV22=>oK (rd1 S21 V22) λV23=>oK (qBd .not V23) λV24=>qAP V24
 (qAd X x11 i12 I2 m2 I1 m1 K S21)
 (oK (qAF 0 (.ptr B19 0)) λV25=>oK (rd1 S21 V25) λV26=>oK (qAO 1 d9 V26) λV27=>oK (rd1 S21 V27) λV28=>oK (qAG .geq V28 (.int .i64 0)) λV29=>qAP V29
 (oK (qAF 1 (.ptr B19 0)) λV30=>oK (rd1 S21 V30) λV31=>oK (qAO 1 d9 V31) λV32=>oK (rd1 S21 V32) λV33=>oK (qAG .lss V33 (.int .i64 0)) λV34=>qAP V34
 (qBj X d9 x11 i12 (.ptr B19 0) V29 V34 .undef I2 m2 I1 m1 K S21)
 (oK (qAF 1 (.ptr B19 0)) λV95=>oK (rd1 S21 V95) λV96=>oK (qAO 1 d9 V96) λV97=>oK (rd1 S21 V97) λV98=>oK (qAF 0 (.ptr B19 0)) λV99=>oK (rd1 S21 V99) λV100=>oK (qAO 1 d9 V100) λV101=>oK (rd1 S21 V101) λV102=>oK (qAF 2 (.ptr B19 0)) λV103=>oK (rd1 S21 V103) λV104=>oK (qAG .add V102 V104) λV105=>oK (qAG .gtr V98 V105) λV106=>qBj X d9 x11 i12 (.ptr B19 0) V29 V34 V106 I2 m2 I1 m1 K S21))
 (oK (qBK V29 .undef (.bool false)) λV107=>qAP V107
 (oK (qAF 1 (.ptr B19 0)) λV155=>oK (rd1 S21 V155) λV156=>oK (qAF 0 (.ptr B19 0)) λV157=>oK (rd1 S21 V157) λV158=>oK (qAO 1 d9 V158) λV159=>oK (rd1 S21 V159) λV160=>oK (qAF 2 (.ptr B19 0)) λV161=>oK (rd1 S21 V161) λV162=>oK (qAG .add V160 V162) λV163=>oK (qAO 1 d9 V156) λV164=>oK (wr1 S21 V164 V163) λS165=>qCd X d9 (.bool true) i12 (.ptr B19 0) I2 m2 I1 m1 K S165)
 (qCd X d9 x11 i12 (.ptr B19 0) I2 m2 I1 m1 K S21)))) s)
 (∃ m',m' < m1∧I1 [x11] s m')
def qCn (X:Td)(links1 x2 d9 x11:AV) (I1:IvP) (m1:Nat) (K:KvP) (s:Hq):Prop:=
 qAP x11
 (∃ I2:IvP,(∃ m,I2 [(.bool false),(.int .i64 0)] s m)∧∀ (f:Env) (s:Hq) (m2:Nat),I2 [f 11,f 12] s m2→
 qEO X links1 x2 d9 (f 11) (f 12) I2 m2 I1 m1 K s)
 (K d9 s)
def qET (X:Td)(nodes0 links1 x2 t3 d9 n10:AV) (I0:IvP) (m0:Nat) (K:KvP) (s:Hq):Prop:=
 oK (qAG .lss n10 nodes0) λV7=>qAP V7
 (oK (qAO 1 d9 n10) λV8=>oK (wr1 s V8 (.int .i64 (-1))) λS9=>oK (qAG .add n10 (.int .i64 1)) λV10=>∃ m',m' < m0∧I0 [V10] S9 m')
 (oK (qAO 1 d9 t3) λV11=>oK (wr1 s V11 (.int .i64 0)) λS12=>∃ I1:IvP,(∃ m,I1 [(.bool true)] S12 m)∧∀ (f:Env) (s:Hq) (m1:Nat),I1 [f 11] s m1→
 qCn X links1 x2 d9 (f 11) I1 m1 K s)
def qJc (X:Td)(nodes0 links1 x2 t3:AV) (K:KvP) (s:Hq):Prop:=
 wC TP X 64 [nodes0,links1,x2,t3] (λV0 S1=>oK (qBd .not V0) λV2=>qAP V2
 (K .nilslc S1)
 (oK (nat? nodes0) λn_3=>oK (nat? nodes0) λn_4=>(n_3≤n_4∧n_4≤4294967296)∧newK 3 (repl n_4 [(.int .i64 0)]) (λB5 S6=>∃ I0:IvP,(∃ m,I0 [(.int .i64 0)] S6 m)∧∀ (f:Env) (s:Hq) (m0:Nat),I0 [f 10] s m0→
 qET X nodes0 links1 x2 t3 (.slc B5 0 n_3 (some n_4) 1) (f 10) I0 m0 K s) S1)) s
def qG0:Nat→List Nat:=λk=>cond (Nat.beq k 10) [10] (cond (Nat.beq k 20) [11] (cond (Nat.beq k 26) [11,12] ([])))
theorem qHj {nodes0 links1 x2 t3:AV} {K:KvP} {s:Hq} (h:qJc XX nodes0 links1 x2 t3 K s):wC TP XX 87 [nodes0,links1,x2,t3] K s:=wOK qAr qG0 rfl Tryz.func87 (by kernel_rfl) (by kernel_rfl) (by kernel_rfl) h
def qIm (X:Td)(x0 n1:AV) (K:KvP) (s:Hq):Prop:=
 boxK 72 x0 (λB0 S1=>oK (qAF 0 B0) λV2=>oK (rd1 S1 V2) λV3=>oK (negB false (eqV 0 false n1 V3)) λV4=>qAP V4
 (oK (qAF 1 B0) λV5=>oK (rd1 S1 V5) λV6=>K (.tup [V6,(.bool true)]) S1)
 (oK (qAF 1 B0) λV7=>oK (rd1 S1 V7) λV8=>oK (negB false (eqV 0 false n1 V8)) λV9=>qAP V9
 (oK (qAF 0 B0) λV10=>oK (rd1 S1 V10) λV11=>K (.tup [V11,(.bool true)]) S1)
 (K (.tup [(.int .i64 0),(.bool false)]) S1))) s
theorem qGv {x0 n1:AV} {K:KvP} {s:Hq} (h:qIm XX x0 n1 K s):wC TP XX 88 [x0,n1] K s:=wOK qAr nA0 rfl Tryz.func88 (by kernel_rfl) (by kernel_rfl) (by kernel_rfl) h
def qCC (X:Td)(n0 t6 t8:AV) (K:KvP) (s:Hq):Prop:=
 oK (qBK t6 (.bool true) t8) λV1=>qAP V1
 (K (.tup [(.int .u32 0),(.int .i64 2)]) s)
 (oK (qCi .u32 n0) λV2=>oK (qAG .add (.int .u32 184483840) V2) λV3=>oK (qAG .add V3 (.int .u32 1)) λV4=>K (.tup [V4,(.int .i64 0)]) s)
def qDo (X:Td)(n0:AV) (K:KvP) (s:Hq):Prop:=
 oK (qAG .lss n0 (.int .i64 0)) λV0=>qAP V0
 (qCC X n0 V0 .undef K s)
 (oK (qAG .geq n0 (.int .i64 32)) λV5=>qCC X n0 V0 V5 K s)
theorem qFz {n0:AV} {K:KvP} {s:Hq} (h:qDo XX n0 K s):wC TP XX 66 [n0] K s:=wOK qAr nA0 rfl Tryz.func66 (by kernel_rfl) (by kernel_rfl) (by kernel_rfl) h
def qDd (X:Td)(t6 t9:AV) (K:KvP) (s:Hq):Prop:=
 oK (qBK t6 (.bool true) t9) λV1=>K V1 s
def qKE (X:Td)(n0 t1:AV) (K:KvP) (s:Hq):Prop:=
 oK (qAG .lss n0 (.int .i64 0)) λV0=>qAP V0
 (qDd X V0 .undef K s)
 (oK (rd1 s t1) λV2=>oK (qAG .geq n0 V2) λV3=>qDd X V0 V3 K s)
theorem qLe {n0 t1:AV} {K:KvP} {s:Hq} (h:qKE XX n0 t1 K s):wC TP XX 77 [n0,t1] K s:=wOK qAr nA0 rfl Tryz.func77 (by kernel_rfl) (by kernel_rfl) (by kernel_rfl) h
def qGf (X:Td)(t0 t1:AV) (K:KvP) (s:Hq):Prop:=
 wC TP X 93 [t0,t1] (λV0 S1=>oK (qAG .geq V0 (.int .i64 0)) λV2=>K V2 S1) s
theorem qFm {t0 t1:AV} {K:KvP} {s:Hq} (h:qGf XX t0 t1 K s):wC TP XX 78 [t0,t1] K s:=wOK qAr nA0 rfl Tryz.func78 (by kernel_rfl) (by kernel_rfl) (by kernel_rfl) h
def qFn (X:Td)(q0:AV) (K:KvP) (s:Hq):Prop:=
 oK (qAa q0) λV0=>K (.int .i64 V0) s
theorem qGH {q0:AV} {K:KvP} {s:Hq} (h:qFn XX q0 K s):wC TP XX 79 [q0] K s:=wOK qAr nA0 rfl Tryz.func79 (by kernel_rfl) (by kernel_rfl) (by kernel_rfl) h
def qJP (X:Td)(h0:AV) (K:KvP) (s:Hq):Prop:=
 qD4 TP X h0 "Len" [] (λV0 S1=>oK (qAG .sub V0 (.int .i64 1)) λV2=>qD4 TP X h0 "Swap" [(.int .i64 0),V2] (λV3 S4=>wC TP X 94 [h0,(.int .i64 0),V2] (λV5 S6=>qD4 TP X h0 "Pop" [] (λV7 S8=>K V7 S8) S6) S4) S1) s
theorem qHh {h0:AV} {K:KvP} {s:Hq} (h:qJP XX h0 K s):wC TP XX 80 [h0] K s:=wOK qAr nA0 rfl Tryz.func80 (by kernel_rfl) (by kernel_rfl) (by kernel_rfl) h
def qIt (X:Td)(h0 x1:AV) (K:KvP) (s:Hq):Prop:=
 qD4 TP X h0 "Push" [x1] (λV0 S1=>qD4 TP X h0 "Len" [] (λV2 S3=>oK (qAG .sub V2 (.int .i64 1)) λV4=>wC TP X 95 [h0,V4] (λV5 S6=>K (.tup []) S6) S3) S1) s
theorem qG3 {h0 x1:AV} {K:KvP} {s:Hq} (h:qIt XX h0 x1 K s):wC TP XX 81 [h0,x1] K s:=wOK qAr nA0 rfl Tryz.func81 (by kernel_rfl) (by kernel_rfl) (by kernel_rfl) h
def qHZ (X:Td)(list0 flags1:AV) (K:KvP) (s:Hq):Prop:=
 boxK 22 list0 (λB0 S1=>boxK 32 flags1 (λB2 S3=>K (.fn (.func 96) [] [B0,B2]) S3) S1) s
theorem qGW {list0 flags1:AV} {K:KvP} {s:Hq} (h:qHZ XX list0 flags1 K s):wC TP XX 82 [list0,flags1] K s:=wOK qAr nA0 rfl Tryz.func82 (by kernel_rfl) (by kernel_rfl) (by kernel_rfl) h
def qDh (X:Td)(t0 t1 t7 t8:AV) (I0:IvP) (m0:Nat) (K:KvP) (s:Hq):Prop:=
 oK (qAG .lss t8 t7) λV2=>qAP V2
 (oK (qAO 1 t0 t8) λV3=>oK (rd1 s V3) λV4=>funK TP X t1 [V4] (λV5 S6=>qAP V5
 (K t8 S6)
 (oK (qAG .add t8 (.int .i64 1)) λV7=>∃ m',m' < m0∧I0 [V7] S6 m')) s)
 (K (.int .i64 (-1)) s)
def qEj (X:Td)(t0 t1:AV) (K:KvP) (s:Hq):Prop:=
 oK (qAa t0) λV0=>∃ I0:IvP,(∃ m,I0 [(.int .i64 0)] s m)∧∀ (f:Env) (s:Hq) (m0:Nat),I0 [f 8] s m0→
 qDh X t0 t1 (.int .i64 V0) (f 8) I0 m0 K s
def qGZ:Nat→List Nat:=λk=>cond (Nat.beq k 4) [8] ([])
theorem qGa {t0 t1:AV} {K:KvP} {s:Hq} (h:qEj XX t0 t1 K s):wC TP XX 93 [t0,t1] K s:=wOK qAr qGZ rfl Tryz.func93 (by kernel_rfl) (by kernel_rfl) (by kernel_rfl) h
def qA4 (X:Td)(i01 i7:AV) (K:KvP) (s:Hq):Prop:=
 oK (qAG .gtr i7 i01) λV0=>K V0 s
def qBC (X:Td)(h0 i01 i7 j9:AV) (I1:IvP) (m1:Nat) (K:KvP) (s:Hq):Prop:=
 qD4 TP X h0 "Less" [j9,i7] (λV8 S9=>oK (qBd .not V8) λV10=>qAP V10
 (qA4 X i01 i7 K S9)
 (qD4 TP X h0 "Swap" [i7,j9] (λV11 S12=>∃ m',m' < m1∧I1 [j9] S12 m') S9)) s
def qBB (X:Td)(h0 i01 i7 j9 j210 t28 t32:AV) (I1:IvP) (m1:Nat) (K:KvP) (s:Hq):Prop:=
 oK (qBK t28 t32 (.bool false)) λV7=>qAP V7
 (qBC X h0 i01 i7 j210 I1 m1 K s)
 (qBC X h0 i01 i7 j9 I1 m1 K s)
def qA3 (X:Td)(h0 i01 n2 i7 j18 t18 t20:AV) (I1:IvP) (m1:Nat) (K:KvP) (s:Hq):Prop:=
 oK (qBK t18 (.bool true) t20) λV4=>qAP V4
 (qA4 X i01 i7 K s)
 (oK (qAG .add j18 (.int .i64 1)) λV5=>oK (qAG .lss V5 n2) λV6=>qAP V6
 (qD4 TP X h0 "Less" [V5,j18] (λV13 S14=>qBB X h0 i01 i7 j18 V5 V6 V13 I1 m1 K S14) s)
 (qBB X h0 i01 i7 j18 V5 V6 .undef I1 m1 K s))
def qBs (X:Td)(h0 i01 n2 i7:AV) (I1:IvP) (m1:Nat) (K:KvP) (s:Hq):Prop:=
 oK (qAG .mul (.int .i64 2) i7) λV1=>oK (qAG .add V1 (.int .i64 1)) λV2=>oK (qAG .geq V2 n2) λV3=>qAP V3
 (qA3 X h0 i01 n2 i7 V2 V3 .undef I1 m1 K s)
 (oK (qAG .lss V2 (.int .i64 0)) λV15=>qA3 X h0 i01 n2 i7 V2 V3 V15 I1 m1 K s)
def qIs (X:Td)(h0 i01 n2:AV) (K:KvP) (s:Hq):Prop:=
 ∃ I1:IvP,(∃ m,I1 [i01] s m)∧∀ (f:Env) (s:Hq) (m1:Nat),I1 [f 7] s m1→
 qBs X h0 i01 n2 (f 7) I1 m1 K s
def qGe:Nat→List Nat:=λk=>cond (Nat.beq k 4) [7] ([])
theorem qCc {h0 i01 n2:AV} {K:KvP} {s:Hq} (h:qIs XX h0 i01 n2 K s):wC TP XX 94 [h0,i01,n2] K s:=wOK qAr qGe rfl Tryz.func94 (by kernel_rfl) (by kernel_rfl) (by kernel_rfl) h
def qBL (X:Td)(h0 j1 i4 t11 t16:AV) (I0:IvP) (m0:Nat) (K:KvP) (s:Hq):Prop:=
 oK (qBK t11 (.bool true) t16) λV3=>qAP V3
 (K (.tup []) s)
 (qD4 TP X h0 "Swap" [i4,j1] (λV4 S5=>∃ m',m' < m0∧I0 [i4] S5 m') s)
def qC5 (X:Td)(h0 j1:AV) (I0:IvP) (m0:Nat) (K:KvP) (s:Hq):Prop:=
 oK (qAG .sub j1 (.int .i64 1)) λV0=>oK (qAG .quo V0 (.int .i64 2)) λV1=>oK (negB false (eqV 0 false V1 j1)) λV2=>qAP V2
 (qBL X h0 j1 V1 V2 .undef I0 m0 K s)
 (qD4 TP X h0 "Less" [j1,V1] (λV6 S7=>oK (qBd .not V6) λV8=>qBL X h0 j1 V1 V2 V8 I0 m0 K S7) s)
def qJw (X:Td)(h0 j1:AV) (K:KvP) (s:Hq):Prop:=
 ∃ I0:IvP,(∃ m,I0 [j1] s m)∧∀ (f:Env) (s:Hq) (m0:Nat),I0 [f 1] s m0→
 qC5 X h0 (f 1) I0 m0 K s
def qHK:Nat→List Nat:=λk=>cond (Nat.beq k 0) [1] ([])
theorem qEa {h0 j1:AV} {K:KvP} {s:Hq} (h:qJw XX h0 j1 K s):wC TP XX 95 [h0,j1] K s:=wOK qAr qHK rfl Tryz.func95 (by kernel_rfl) (by kernel_rfl) (by kernel_rfl) h
def qBc (X:Td)(t8 t17 t22:AV) (I0:IvP) (m0:Nat) (K:KvP) (s:Hq):Prop:=
 oK (qBK t17 t22 (.bool false)) λV12=>qAP V12
 (K (.tup []) s)
 (oK (qAG .add t8 (.int .i64 1)) λV13=>∃ m',m' < m0∧I0 [V13] s m')
def qDC (X:Td)(yield0 t2 t6 t7 t8:AV) (I0:IvP) (m0:Nat) (K:KvP) (s:Hq):Prop:=
 oK (qAG .lss t8 t7) λV3=>qAP V3
 (oK (qAO 3 t6 t8) λV4=>oK (rdN s 3 V4) λV5=>newK 72 [(.int .i64 0),(.int .i64 0),(.int .i64 0)] (λB6 S7=>oK (qBo S7 3 (.ptr B6 0) (.agg V5)) λS8=>oK (rd1 S8 t2) λV9=>oK (qAO 1 V9 t8) λV10=>oK (rd1 S8 V10) λV11=>qAP V11
 (oK (rdN S8 3 (.ptr B6 0)) λV14=>funK TP X yield0 [t8,(.agg V14)] (λV15 S16=>oK (qBd .not V15) λV17=>qBc X t8 V11 V17 I0 m0 K S16) S8)
 (qBc X t8 V11 .undef I0 m0 K S8)) s)
 (K (.tup []) s)
def qDj (X:Td)(yield0 t1 t2:AV) (K:KvP) (s:Hq):Prop:=
 oK (rd1 s t1) λV0=>oK (qAa V0) λV1=>∃ I0:IvP,(∃ m,I0 [(.int .i64 0)] s m)∧∀ (f:Env) (s:Hq) (m0:Nat),I0 [f 8] s m0→
 qDC X yield0 t2 V0 (.int .i64 V1) (f 8) I0 m0 K s
def qFX:Nat→List Nat:=λk=>cond (Nat.beq k 2) [8] ([])
theorem qFh {yield0 t1 t2:AV} {K:KvP} {s:Hq} (h:qDj XX yield0 t1 t2 K s):wC TP XX 96 [yield0,t1,t2] K s:=wOK qAr qFX rfl Tryz.func96 (by kernel_rfl) (by kernel_rfl) (by kernel_rfl) h
def qHM (X:Td)(q0 i1 j2:AV) (K:KvP) (s:Hq):Prop:=
 oK (qAO 2 q0 i1) λV0=>oK (qAF 1 V0) λV1=>oK (rd1 s V1) λV2=>oK (qAO 2 q0 j2) λV3=>oK (qAF 1 V3) λV4=>oK (rd1 s V4) λV5=>oK (qAG .lss V2 V5) λV6=>K V6 s
theorem qJy {q0 i1 j2:AV} {K:KvP} {s:Hq} (h:qHM XX q0 i1 j2 K s):wC TP XX 124 [q0,i1,j2] K s:=wOK qAr nA0 rfl Tryz.func124 (by kernel_rfl) (by kernel_rfl) (by kernel_rfl) h
def qIb (X:Td)(q0:AV) (K:KvP) (s:Hq):Prop:=
 oK (qAH q0) λV0=>oK (rd1 s V0) λV1=>oK (qAa V1) λV2=>oK (qAG .sub (.int .i64 V2) (.int .i64 1)) λV4=>oK (qAH q0) λV5=>oK (rd1 s V5) λV6=>oK (qAO 2 V6 V4) λV7=>oK (rdN s 2 V7) λV8=>newK 142 [(.int .i64 0),(.int .i64 0)] (λB9 S10=>oK (qBo S10 2 (.ptr B9 0) (.agg V8)) λS11=>oK (qAH q0) λV12=>oK (rd1 S11 V12) λV13=>oK (qDs 2 V13 none (some V4) none) λV14=>oK (qAH q0) λV15=>oK (wr1 S11 V15 V14) λS16=>oK (rdN S16 2 (.ptr B9 0)) λV17=>K (.ifc 142 (.agg V17)) S16) s
theorem qKR {q0:AV} {K:KvP} {s:Hq} (h:qIb XX q0 K s):wC TP XX 125 [q0] K s:=wOK qAr nA0 rfl Tryz.func125 (by kernel_rfl) (by kernel_rfl) (by kernel_rfl) h
def qHN (X:Td)(q0 x1:AV) (K:KvP) (s:Hq):Prop:=
 oK (qR9 142 (some (.agg [(.int .i64 0),(.int .i64 0)])) true x1) λV0=>oK (qAN V0 0) λV1=>oK (qAN V0 1) λV2=>newK 142 [(.int .i64 0),(.int .i64 0)] (λB3 S4=>oK (qBo S4 2 (.ptr B3 0) V1) λS5=>qAP V2
 (oK (qAH q0) λV6=>oK (rd1 S5 V6) λV7=>oK (rdN S5 2 (.ptr B3 0)) λV8=>oK (qA2 (repl 1 [(.int .i64 0),(.int .i64 0)]) [(0,2,(.agg V8))]) λC9=>qAb C9=true∧newK 142 C9 (λB10 S11=>(∀ b,S5 b≠none→S5 b=none→S11 b=none)→
 appK 142 2 V7 (.slc B10 0 1 (some 1) 2) (λV12 S13=>oK (qAH q0) λV14=>oK (wr1 S13 V14 V12) λS15=>K (.tup []) S15) (add S5 S11)) (frz S5))
 (K (.tup []) S5)) s
theorem qJv {q0 x1:AV} {K:KvP} {s:Hq} (h:qHN XX q0 x1 K s):wC TP XX 126 [q0,x1] K s:=wOK qAr nA0 rfl Tryz.func126 (by kernel_rfl) (by kernel_rfl) (by kernel_rfl) h
def qHb (X:Td)(q0 i1 j2:AV) (K:KvP) (s:Hq):Prop:=
 oK (qAO 2 q0 j2) λV0=>oK (rdN s 2 V0) λV1=>oK (qAO 2 q0 i1) λV2=>oK (rdN s 2 V2) λV3=>oK (qAO 2 q0 i1) λV4=>oK (qBo s 2 V4 (.agg V1)) λS5=>oK (qAO 2 q0 j2) λV6=>oK (qBo S5 2 V6 (.agg V3)) λS7=>K (.tup []) S7
theorem qJ2 {q0 i1 j2:AV} {K:KvP} {s:Hq} (h:qHb XX q0 i1 j2 K s):wC TP XX 127 [q0,i1,j2] K s:=wOK qAr nA0 rfl Tryz.func127 (by kernel_rfl) (by kernel_rfl) (by kernel_rfl) h
end Go.AM
namespace Go.AM
open Go Go.Proofs
set_option maxRecDepth 100000
def qFi (X:Td)(buckets0 t6 t8:AV) (K:KvP) (s:Hq):Prop:=
 oK (qBK t6 (.bool true) t8) λV1=>qAP V1
 (K (.tup [.nilptr,(.int .i64 2)]) s)
 (oK (nat? buckets0) λn_2=>oK (nat? buckets0) λn_3=>(n_2≤n_3∧n_3≤4294967296)∧newK 3 (repl n_3 [(.int .i64 0)]) (λB4 S5=>oK (qA2 [.nilslc,.nilslc] [(0,1,(.slc B4 0 n_2 (some n_3) 1))]) λC6=>boxK 120 (.agg C6) (λB7 S8=>K (.tup [B7,(.int .i64 0)]) S8) S5) s)
def qLO (X:Td)(buckets0:AV) (K:KvP) (s:Hq):Prop:=
 oK (qAG .lss buckets0 (.int .i64 1)) λV0=>qAP V0
 (qFi X buckets0 V0 .undef K s)
 (oK (qAG .gtr buckets0 (.int .i64 256)) λV9=>qFi X buckets0 V0 V9 K s)
theorem qMM {buckets0:AV} {K:KvP} {s:Hq} (h:qLO XX buckets0 K s):wC TP XX 58 [buckets0] K s:=wOK qAr nA0 rfl Tryz.func58 (by kernel_rfl) (by kernel_rfl) (by kernel_rfl) h
def qC4 (X:Td)(w0 hash1 t9 t15:AV) (K:KvP) (s:Hq):Prop:=
 oK (qBK t9 (.bool true) t15) λV3=>qAP V3
 (K (.tup [(.int .i64 0),(.bool false)]) s)
 (oK (qAH w0) λV4=>oK (qAF 0 V4) λV5=>oK (rd1 s V5) λV6=>oK (qAH w0) λV7=>oK (qAF 0 V7) λV8=>oK (rd1 s V8) λV9=>oK (qAa V9) λV10=>oK (qCi .u64 (.int .i64 V10)) λV12=>oK (qAG .rem hash1 V12) λV13=>oK (qAO 1 V6 V13) λV14=>oK (rd1 s V14) λV15=>oK (qAG .sub V15 (.int .i64 1)) λV16=>K (.tup [V16,(.bool true)]) s)
def qJ3 (X:Td)(w0 hash1:AV) (K:KvP) (s:Hq):Prop:=
 wC TP X 59 [w0] (λV0 S1=>oK (qBd .not V0) λV2=>qAP V2
 (qC4 X w0 hash1 V2 .undef K S1)
 (oK (qAH w0) λV17=>oK (qAF 1 V17) λV18=>oK (rd1 S1 V18) λV19=>oK (qAa V19) λV20=>oK (negB false (eqV 0 true (.int .i64 V20) (.int .i64 0))) λV22=>qC4 X w0 hash1 V2 V22 K S1)) s
theorem qIQ {w0 hash1:AV} {K:KvP} {s:Hq} (h:qJ3 XX w0 hash1 K s):wC TP XX 73 [w0,hash1] K s:=wOK qAr nA0 rfl Tryz.func73 (by kernel_rfl) (by kernel_rfl) (by kernel_rfl) h
def qKZ (X:Td)(w0 next1:AV) (K:KvP) (s:Hq):Prop:=
 wC TP X 59 [w0] (λV0 S1=>oK (qBd .not V0) λV2=>qAP V2
 (K (.int .i64 1) S1)
 (wC TP X 60 [w0,next1] (λV3 S4=>oK (negB true (eqV 0 true V3 (.int .i64 0))) λV5=>qAP V5
 (K V3 S4)
 (wC TP X 36 [next1] (λV6 S7=>oK (qAH w0) λV8=>oK (qAF 1 V8) λV9=>oK (wr1 S7 V9 V6) λS10=>oK (qAa next1) λV11=>oK (negB false (eqV 0 true (.int .i64 V11) (.int .i64 0))) λV13=>qAP V13
 (oK (qAH w0) λV14=>oK (qAF 0 V14) λV15=>oK (rd1 S10 V15) λV16=>qSR [(.int .i64 0)] 1 V16 (λV17 S18=>K (.int .i64 0) S18) S10)
 (wC TP X 61 [w0] (λV19 S20=>newK 123 [.nilptr] (λB21 S22=>oK (qBo S22 1 (.ptr B21 0) V19) λS23=>oK (rdN S23 1 (.ptr B21 0)) λV24=>wC TP X 62 [w0,(.agg V24)] (λV25 S26=>oK (rdN S26 1 (.ptr B21 0)) λV27=>wC TP X 63 [w0,(.agg V27)] (λV28 S29=>K (.int .i64 0) S29) S26) S23) S20) S10)) S4)) S1)) s
theorem qIo {w0 next1:AV} {K:KvP} {s:Hq} (h:qKZ XX w0 next1 K s):wC TP XX 31 [w0,next1] K s:=wOK qAr nA0 rfl Tryz.func31 (by kernel_rfl) (by kernel_rfl) (by kernel_rfl) h
def qBz (X:Td)(t5 t11:AV) (K:KvP) (s:Hq):Prop:=
 oK (qBK t5 t11 (.bool false)) λV1=>K V1 s
def qDQ (X:Td)(w0:AV) (K:KvP) (s:Hq):Prop:=
 oK (negB true (eqV 3 true w0 .nilptr)) λV0=>qAP V0
 (oK (qAH w0) λV2=>oK (qAF 0 V2) λV3=>oK (rd1 s V3) λV4=>oK (qAa V4) λV5=>oK (qAG .gtr (.int .i64 V5) (.int .i64 0)) λV7=>qBz X V0 V7 K s)
 (qBz X V0 .undef K s)
theorem qEK {w0:AV} {K:KvP} {s:Hq} (h:qDQ XX w0 K s):wC TP XX 59 [w0] K s:=wOK qAr nA0 rfl Tryz.func59 (by kernel_rfl) (by kernel_rfl) (by kernel_rfl) h
def qB1 (X:Td)(t9 t22 t29:AV) (I0:IvP) (m0:Nat) (K:KvP) (s:Hq):Prop:=
 oK (qBK t22 t29 (.bool false)) λV8=>qAP V8
 (K (.int .i64 10) s)
 (oK (qAG .add t9 (.int .i64 1)) λV9=>∃ m',m' < m0∧I0 [V9] s m')
def qCj (X:Td)(next1 i5 t6 t9 t16 t18:AV) (I0:IvP) (m0:Nat) (K:KvP) (s:Hq):Prop:=
 oK (qBK t16 (.bool true) t18) λV6=>qAP V6
 (K (.int .i64 2) s)
 (oK (qAG .gtr i5 (.int .i64 0)) λV7=>qAP V7
 (oK (qAG .sub i5 (.int .i64 1)) λV10=>oK (qAO 1 next1 V10) λV11=>oK (rd1 s V11) λV12=>oK (qAG .leq t6 V12) λV13=>qB1 X t9 V7 V13 I0 m0 K s)
 (qB1 X t9 V7 .undef I0 m0 K s))
def qES (X:Td)(w0 next1 t7 t8 t9:AV) (I0:IvP) (m0:Nat) (K:KvP) (s:Hq):Prop:=
 oK (qAG .lss t9 t8) λV2=>qAP V2
 (oK (qAO 1 t7 t9) λV3=>oK (rd1 s V3) λV4=>oK (qAG .lss V4 (.int .i64 0)) λV5=>qAP V5
 (qCj X next1 t9 V4 t9 V5 .undef I0 m0 K s)
 (oK (qAG .geq V4 (.int .i64 128)) λV14=>qCj X next1 t9 V4 t9 V5 V14 I0 m0 K s))
 (oK (qAa next1) λV15=>oK (qAH w0) λV17=>oK (qAF 0 V17) λV18=>oK (rd1 s V18) λV19=>oK (qAa V19) λV20=>oK (qAG .gtr (.int .i64 V15) (.int .i64 V20)) λV22=>qAP V22
 (K (.int .i64 7) s)
 (K (.int .i64 0) s))
def qFL (X:Td)(w0 next1:AV) (K:KvP) (s:Hq):Prop:=
 oK (qAa next1) λV0=>∃ I0:IvP,(∃ m,I0 [(.int .i64 0)] s m)∧∀ (f:Env) (s:Hq) (m0:Nat),I0 [f 9] s m0→
 qES X w0 next1 next1 (.int .i64 V0) (f 9) I0 m0 K s
def qHG:Nat→List Nat:=λk=>cond (Nat.beq k 4) [9] ([])
theorem qHm {w0 next1:AV} {K:KvP} {s:Hq} (h:qFL XX w0 next1 K s):wC TP XX 60 [w0,next1] K s:=wOK qAr qHG rfl Tryz.func60 (by kernel_rfl) (by kernel_rfl) (by kernel_rfl) h
def qBi (X:Td)(t47:AV) (I1:IvP) (m1:Nat) (K:KvP) (s:Hq):Prop:=
 oK (qAG .add t47 (.int .i64 1)) λV46=>∃ m',m' < m1∧I1 [V46] s m'
def qEQ (X:Td)(w0 t2 x3 q4 t45 t46 t47:AV) (I1:IvP) (m1:Nat) (K:KvP) (s:Hq):Prop:=
 oK (qAG .lss t47 t46) λV45=>qAP V45
 (oK (qAO 1 t45 t47) λV47=>oK (rd1 s V47) λV48=>oK (negB false (eqV 0 true V48 (.int .i64 0))) λV49=>qAP V49
 (qBi X t47 I1 m1 K s)
 (oK (qAG .sub V48 (.int .i64 1)) λV50=>oK (qGE 128 1 x3 V50) λV51=>oK (rd1 s V51) λV52=>oK (negB false (eqV 0 true V52 (.int .i64 0))) λV53=>qAP V53
 (oK (qAH w0) λV54=>oK (qAF 0 V54) λV55=>oK (rd1 s V55) λV56=>oK (qAO 1 V56 t47) λV57=>oK (wr1 s V57 (.int .i64 0)) λS58=>qBi X t47 I1 m1 K S58)
 (oK (qAF 0 q4) λV59=>oK (rd1 s V59) λV60=>oK (qAH V60) λV61=>oK (qAF 0 V61) λV62=>oK (rd1 s V62) λV63=>oK (qAG .sub V48 (.int .i64 1)) λV64=>oK (qGE 128 1 x3 V64) λV65=>oK (rd1 s V65) λV66=>oK (qAG .sub V66 (.int .i64 1)) λV67=>oK (qAO 2 V63 V67) λV68=>oK (qAF 1 V68) λV69=>oK (rd1 s V69) λV70=>oK (qAG .add V70 (.int .i64 1)) λV71=>oK (qAO 2 V63 V67) λV72=>oK (qAF 1 V72) λV73=>oK (wr1 s V73 V71) λS74=>qBi X t47 I1 m1 K S74)))
 (oK (rdN s 1 q4) λV75=>wC TP X 83 [(.agg V75)] (λV76 S77=>oK (rdN S77 1 q4) λV78=>oK (qBo S77 1 t2 (.agg V78)) λS79=>oK (rdN S79 1 t2) λt2_80=>K (.agg t2_80) S79) s)
def qEM (X:Td)(w0 t2 x3 q4 t21 t22 t23:AV) (I0:IvP) (m0:Nat) (K:KvP) (s:Hq):Prop:=
 oK (qAG .lss t23 t22) λV25=>qAP V25
 (oK (qAO 1 t21 t23) λV26=>oK (rd1 s V26) λV27=>oK (qAG .add t23 (.int .i64 1)) λV28=>oK (qGE 128 1 x3 V27) λV29=>oK (wr1 s V29 V28) λS30=>oK (qAF 0 q4) λV31=>oK (rd1 S30 V31) λV32=>oK (qAH V32) λV33=>oK (qAF 0 V33) λV34=>oK (rd1 S30 V34) λV35=>oK (qAO 2 V35 t23) λV36=>oK (qAF 0 V36) λV37=>oK (wr1 S30 V37 V27) λS38=>oK (qAG .add t23 (.int .i64 1)) λV39=>∃ m',m' < m0∧I0 [V39] S38 m')
 (oK (qAH w0) λV40=>oK (qAF 0 V40) λV41=>oK (rd1 s V41) λV42=>oK (qAa V42) λV43=>∃ I1:IvP,(∃ m,I1 [(.int .i64 0)] s m)∧∀ (f:Env) (s:Hq) (m1:Nat),I1 [f 47] s m1→
 qEQ X w0 t2 x3 q4 V42 (.int .i64 V43) (f 47) I1 m1 K s)
def qJg (X:Td)(w0:AV) (K:KvP) (s:Hq):Prop:=
 newK 123 [.nilptr] (λB0 S1=>newK 151 [(.int .i64 0),(.int .i64 0),(.int .i64 0),(.int .i64 0),(.int .i64 0),(.int .i64 0),(.int .i64 0),(.int .i64 0),(.int .i64 0),(.int .i64 0),(.int .i64 0),(.int .i64 0),(.int .i64 0),(.int .i64 0),(.int .i64 0),(.int .i64 0),(.int .i64 0),(.int .i64 0),(.int .i64 0),(.int .i64 0),(.int .i64 0),(.int .i64 0),(.int .i64 0),(.int .i64 0),(.int .i64 0),(.int .i64 0),(.int .i64 0),(.int .i64 0),(.int .i64 0),(.int .i64 0),(.int .i64 0),(.int .i64 0),(.int .i64 0),(.int .i64 0),(.int .i64 0),(.int .i64 0),(.int .i64 0),(.int .i64 0),(.int .i64 0),(.int .i64 0),(.int .i64 0),(.int .i64 0),(.int .i64 0),(.int .i64 0),(.int .i64 0),(.int .i64 0),(.int .i64 0),(.int .i64 0),(.int .i64 0),(.int .i64 0),(.int .i64 0),(.int .i64 0),(.int .i64 0),(.int .i64 0),(.int .i64 0),(.int .i64 0),(.int .i64 0),(.int .i64 0),(.int .i64 0),(.int .i64 0),(.int .i64 0),(.int .i64 0),(.int .i64 0),(.int .i64 0),(.int .i64 0),(.int .i64 0),(.int .i64 0),(.int .i64 0),(.int .i64 0),(.int .i64 0),(.int .i64 0),(.int .i64 0),(.int .i64 0),(.int .i64 0),(.int .i64 0),(.int .i64 0),(.int .i64 0),(.int .i64 0),(.int .i64 0),(.int .i64 0),(.int .i64 0),(.int .i64 0),(.int .i64 0),(.int .i64 0),(.int .i64 0),(.int .i64 0),(.int .i64 0),(.int .i64 0),(.int .i64 0),(.int .i64 0),(.int .i64 0),(.int .i64 0),(.int .i64 0),(.int .i64 0),(.int .i64 0),(.int .i64 0),(.int .i64 0),(.int .i64 0),(.int .i64 0),(.int .i64 0),(.int .i64 0),(.int .i64 0),(.int .i64 0),(.int .i64 0),(.int .i64 0),(.int .i64 0),(.int .i64 0),(.int .i64 0),(.int .i64 0),(.int .i64 0),(.int .i64 0),(.int .i64 0),(.int .i64 0),(.int .i64 0),(.int .i64 0),(.int .i64 0),(.int .i64 0),(.int .i64 0),(.int .i64 0),(.int .i64 0),(.int .i64 0),(.int .i64 0),(.int .i64 0),(.int .i64 0),(.int .i64 0),(.int .i64 0),(.int .i64 0),(.int .i64 0)] (λB2 S3=>oK (qAH w0) λV4=>oK (qAF 1 V4) λV5=>oK (rd1 S3 V5) λV6=>oK (qAa V6) λV7=>oK (nat? (.int .i64 V7)) λn_9=>oK (nat? (.int .i64 V7)) λn_10=>(n_9≤n_10∧n_10≤4294967296)∧newK 156 (repl n_10 [(.int .i64 0),(.int .i64 0)]) (λB11 S12=>oK (qA2 [.nilslc] [(0,1,(.slc B11 0 n_9 (some n_10) 2))]) λC13=>boxK 154 (.agg C13) (λB14 S15=>oK (qA2 [.nilptr] [(0,1,B14)]) λC16=>newK 123 [.nilptr] (λB17 S18=>oK (qBo S18 1 (.ptr B17 0) (.agg C16)) λS19=>oK (qAH w0) λV20=>oK (qAF 1 V20) λV21=>oK (rd1 S19 V21) λV22=>oK (qAa V22) λV23=>∃ I0:IvP,(∃ m,I0 [(.int .i64 0)] S19 m)∧∀ (f:Env) (s:Hq) (m0:Nat),I0 [f 23] s m0→
 qEM X w0 (.ptr B0 0) (.ptr B2 0) (.ptr B17 0) V22 (.int .i64 V23) (f 23) I0 m0 K s) S15) S12) S3) S1) s
def qG5:Nat→List Nat:=λk=>cond (Nat.beq k 8) [23] (cond (Nat.beq k 20) [47] ([]))
theorem qHc {w0:AV} {K:KvP} {s:Hq} (h:qJg XX w0 K s):wC TP XX 61 [w0] K s:=wOK qAr qG5 rfl Tryz.func61 (by kernel_rfl) (by kernel_rfl) (by kernel_rfl) h
def qCD (X:Td)(t11:AV) (I0:IvP) (m0:Nat) (K:KvP) (s:Hq):Prop:=
 oK (qAG .add t11 (.int .i64 1)) λV11=>∃ m',m' < m0∧I0 [V11] s m'
def qEi (X:Td)(w0 q3 t9 t10 t11:AV) (I0:IvP) (m0:Nat) (K:KvP) (s:Hq):Prop:=
 oK (qAG .lss t11 t10) λV7=>qAP V7
 (oK (qAO 1 t9 t11) λV8=>oK (rd1 s V8) λV9=>oK (negB false (eqV 0 true V9 (.int .i64 0))) λV10=>qAP V10
 (oK (qAH w0) λV12=>oK (qAF 0 V12) λV13=>oK (rd1 s V13) λV14=>oK (qAF 0 q3) λV15=>oK (rd1 s V15) λV16=>oK (qAH V16) λV17=>oK (qAF 0 V17) λV18=>oK (rd1 s V18) λV19=>oK (qAO 2 V19 (.int .i64 0)) λV20=>oK (qAF 0 V20) λV21=>oK (rd1 s V21) λV22=>oK (qAG .add V22 (.int .i64 1)) λV23=>oK (qAO 1 V14 t11) λV24=>oK (wr1 s V24 V23) λS25=>oK (rdN S25 1 q3) λV26=>wC TP X 84 [(.agg V26),(.int .i64 0),(.int .i64 1)] (λV27 S28=>qCD X t11 I0 m0 K S28) S25)
 (qCD X t11 I0 m0 K s))
 (K (.tup []) s)
def qJ1 (X:Td)(w0 q1:AV) (K:KvP) (s:Hq):Prop:=
 boxK 123 q1 (λB0 S1=>oK (qAH w0) λV2=>oK (qAF 0 V2) λV3=>oK (rd1 S1 V3) λV4=>oK (qAa V4) λV5=>∃ I0:IvP,(∃ m,I0 [(.int .i64 0)] S1 m)∧∀ (f:Env) (s:Hq) (m0:Nat),I0 [f 11] s m0→
 qEi X w0 B0 V4 (.int .i64 V5) (f 11) I0 m0 K s) s
def qHO:Nat→List Nat:=λk=>cond (Nat.beq k 4) [11] ([])
theorem qH5 {w0 q1:AV} {K:KvP} {s:Hq} (h:qJ1 XX w0 q1 K s):wC TP XX 62 [w0,q1] K s:=wOK qAr qHO rfl Tryz.func62 (by kernel_rfl) (by kernel_rfl) (by kernel_rfl) h
def qDi (X:Td)(w0 q3:AV) (I0:IvP) (m0:Nat) (K:KvP) (s:Hq):Prop:=
 oK (rdN s 1 q3) λV2=>wC TP X 85 [(.agg V2)] (λV3 S4=>oK (qAF 0 q3) λV5=>oK (rd1 S4 V5) λV6=>oK (qAH V6) λV7=>oK (qAF 0 V7) λV8=>oK (rd1 S4 V8) λV9=>oK (qAO 2 V9 V3) λV10=>oK (qAF 1 V10) λV11=>oK (rd1 S4 V11) λV12=>oK (qAF 0 q3) λV13=>oK (rd1 S4 V13) λV14=>oK (qAH V14) λV15=>oK (qAF 0 V15) λV16=>oK (rd1 S4 V16) λV17=>oK (qAO 2 V17 (.int .i64 0)) λV18=>oK (qAF 1 V18) λV19=>oK (rd1 S4 V19) λV20=>oK (qAG .sub V12 V20) λV21=>oK (qAG .leq V21 (.int .i64 1)) λV22=>qAP V22
 (K (.tup []) S4)
 (oK (qAH w0) λV23=>oK (qAF 0 V23) λV24=>oK (rd1 S4 V24) λV25=>oK (qAF 0 q3) λV26=>oK (rd1 S4 V26) λV27=>oK (qAH V27) λV28=>oK (qAF 0 V28) λV29=>oK (rd1 S4 V29) λV30=>oK (qAO 2 V30 V3) λV31=>oK (qAF 0 V31) λV32=>oK (rd1 S4 V32) λV33=>wC TP X 86 [w0,V33] (λV34 S35=>(∀ b,S4 b≠none→S4 b=none→S35 b=none)→
 oK (qAF 0 q3) λV36=>oK (rd1 (cutH [(S4,(add S4 S35))] (add S4 S35)) V36) λV37=>oK (qAH V37) λV38=>oK (qAF 0 V38) λV39=>oK (rd1 (cutH [(S4,(add S4 S35))] (add S4 S35)) V39) λV40=>oK (qAO 2 V40 (.int .i64 0)) λV41=>oK (qAF 0 V41) λV42=>oK (rd1 (cutH [(S4,(add S4 S35))] (add S4 S35)) V42) λV43=>oK (qAG .add V43 (.int .i64 1)) λV44=>oK (qAO 1 V25 V34) λV45=>oK (wr1 (add S4 S35) V45 V44) λS46=>oK (rdN S46 1 q3) λV47=>wC TP X 84 [(.agg V47),V3,(.int .i64 (-1))] (λV48 S49=>oK (rdN S49 1 q3) λV50=>wC TP X 84 [(.agg V50),(.int .i64 0),(.int .i64 1)] (λV51 S52=>∃ m',m' < m0∧I0 [] S52 m') S49) S46) (frz S4))) s
def qIF (X:Td)(w0 q1:AV) (K:KvP) (s:Hq):Prop:=
 boxK 123 q1 (λB0 S1=>∃ I0:IvP,(∃ m,I0 [] S1 m)∧∀ (f:Env) (s:Hq) (m0:Nat),I0 [] s m0→
 qDi X w0 B0 I0 m0 K s) s
def qGI:Nat→List Nat:=λk=>cond (Nat.beq k 2) [] ([])
theorem qGj {w0 q1:AV} {K:KvP} {s:Hq} (h:qIF XX w0 q1 K s):wC TP XX 63 [w0,q1] K s:=wOK qAr qGI rfl Tryz.func63 (by kernel_rfl) (by kernel_rfl) (by kernel_rfl) h
def qJH (X:Td)(q0:AV) (K:KvP) (s:Hq):Prop:=
 boxK 123 q0 (λB0 S1=>oK (rdN S1 1 B0) λV2=>wC TP X 97 [(.ifc 123 (.agg V2))] (λV3 S4=>K (.tup []) S4) S1) s
theorem qHa {q0:AV} {K:KvP} {s:Hq} (h:qJH XX q0 K s):wC TP XX 83 [q0] K s:=wOK qAr nA0 rfl Tryz.func83 (by kernel_rfl) (by kernel_rfl) (by kernel_rfl) h
def qIk (X:Td)(q0 i1 t2:AV) (K:KvP) (s:Hq):Prop:=
 boxK 123 q0 (λB0 S1=>oK (qAF 0 B0) λV2=>oK (rd1 S1 V2) λV3=>oK (qAH V3) λV4=>oK (qAF 0 V4) λV5=>oK (rd1 S1 V5) λV6=>oK (qAO 2 V6 i1) λV7=>oK (qAF 1 V7) λV8=>oK (rd1 S1 V8) λV9=>oK (qAG .add V9 t2) λV10=>oK (qAO 2 V6 i1) λV11=>oK (qAF 1 V11) λV12=>oK (wr1 S1 V12 V10) λS13=>oK (rdN S13 1 B0) λV14=>wC TP X 98 [(.ifc 123 (.agg V14)),i1] (λV15 S16=>K (.tup []) S16) S13) s
theorem qGy {q0 i1 t2:AV} {K:KvP} {s:Hq} (h:qIk XX q0 i1 t2 K s):wC TP XX 84 [q0,i1,t2] K s:=wOK qAr nA0 rfl Tryz.func84 (by kernel_rfl) (by kernel_rfl) (by kernel_rfl) h
def qC2 (X:Td)(t3 t11:AV) (I0:IvP) (m0:Nat) (K:KvP) (s:Hq):Prop:=
 oK (qAG .add t11 (.int .i64 1)) λV14=>∃ m',m' < m0∧I0 [t3,V14] s m'
def qEn (X:Td)(q1 t3 t10 t11:AV) (I0:IvP) (m0:Nat) (K:KvP) (s:Hq):Prop:=
 oK (qAG .lss t11 t10) λV9=>qAP V9
 (oK (qAF 0 q1) λV10=>oK (rd1 s V10) λV11=>wC TP X 99 [V11,t3,t11] (λV12 S13=>qAP V12
 (qC2 X t11 t11 I0 m0 K S13)
 (qC2 X t3 t11 I0 m0 K S13)) s)
 (K t3 s)
def qKA (X:Td)(q0:AV) (K:KvP) (s:Hq):Prop:=
 boxK 123 q0 (λB0 S1=>oK (qAF 0 B0) λV2=>oK (rd1 S1 V2) λV3=>oK (qAH V3) λV4=>oK (qAF 0 V4) λV5=>oK (rd1 S1 V5) λV6=>oK (qAa V6) λV7=>∃ I0:IvP,(∃ m,I0 [(.int .i64 0),(.int .i64 0)] S1 m)∧∀ (f:Env) (s:Hq) (m0:Nat),I0 [f 3,f 11] s m0→
 qEn X B0 (f 3) (.int .i64 V7) (f 11) I0 m0 K s) s
def qHd:Nat→List Nat:=λk=>cond (Nat.beq k 6) [3,11] ([])
theorem qH7 {q0:AV} {K:KvP} {s:Hq} (h:qKA XX q0 K s):wC TP XX 85 [q0] K s:=wOK qAr qHd rfl Tryz.func85 (by kernel_rfl) (by kernel_rfl) (by kernel_rfl) h
def qCE (X:Td)(i5 t14 t24:AV) (I0:IvP) (m0:Nat) (K:KvP) (s:Hq):Prop:=
 oK (qBK t14 t24 (.bool false)) λV7=>qAP V7
 (oK (qAG .sub i5 (.int .i64 1)) λV8=>∃ m',m' < m0∧I0 [V8] s m')
 (K i5 s)
def qEW (X:Td)(w0 member1 i5:AV) (I0:IvP) (m0:Nat) (K:KvP) (s:Hq):Prop:=
 oK (qAG .gtr i5 (.int .i64 0)) λV6=>qAP V6
 (oK (qAH w0) λV9=>oK (qAF 0 V9) λV10=>oK (rd1 s V10) λV11=>oK (qAO 1 V11 i5) λV12=>oK (rd1 s V12) λV13=>oK (qAG .add member1 (.int .i64 1)) λV14=>oK (negB true (eqV 0 false V13 V14)) λV15=>qCE X i5 V6 V15 I0 m0 K s)
 (qCE X i5 V6 .undef I0 m0 K s)
def qFv (X:Td)(w0 member1:AV) (K:KvP) (s:Hq):Prop:=
 oK (qAH w0) λV0=>oK (qAF 0 V0) λV1=>oK (rd1 s V1) λV2=>oK (qAa V2) λV3=>oK (qAG .sub (.int .i64 V3) (.int .i64 1)) λV5=>∃ I0:IvP,(∃ m,I0 [V5] s m)∧∀ (f:Env) (s:Hq) (m0:Nat),I0 [f 5] s m0→
 qEW X w0 member1 (f 5) I0 m0 K s
def qHL:Nat→List Nat:=λk=>cond (Nat.beq k 4) [5] ([])
theorem qII {w0 member1:AV} {K:KvP} {s:Hq} (h:qFv XX w0 member1 K s):wC TP XX 86 [w0,member1] K s:=wOK qAr qHL rfl Tryz.func86 (by kernel_rfl) (by kernel_rfl) (by kernel_rfl) h
def qDr (X:Td)(h0 n2 i3:AV) (I0:IvP) (m0:Nat) (K:KvP) (s:Hq):Prop:=
 oK (qAG .geq i3 (.int .i64 0)) λV4=>qAP V4
 (wC TP X 94 [h0,i3,n2] (λV5 S6=>oK (qAG .sub i3 (.int .i64 1)) λV7=>∃ m',m' < m0∧I0 [V7] S6 m') s)
 (K (.tup []) s)
def qIq (X:Td)(h0:AV) (K:KvP) (s:Hq):Prop:=
 qD4 TP X h0 "Len" [] (λV0 S1=>oK (qAG .quo V0 (.int .i64 2)) λV2=>oK (qAG .sub V2 (.int .i64 1)) λV3=>∃ I0:IvP,(∃ m,I0 [V3] S1 m)∧∀ (f:Env) (s:Hq) (m0:Nat),I0 [f 3] s m0→
 qDr X h0 V0 (f 3) I0 m0 K s) s
def qGc:Nat→List Nat:=λk=>cond (Nat.beq k 4) [3] ([])
theorem qG9 {h0:AV} {K:KvP} {s:Hq} (h:qIq XX h0 K s):wC TP XX 97 [h0] K s:=wOK qAr qGc rfl Tryz.func97 (by kernel_rfl) (by kernel_rfl) (by kernel_rfl) h
def qJU (X:Td)(h0 i1:AV) (K:KvP) (s:Hq):Prop:=
 qD4 TP X h0 "Len" [] (λV0 S1=>wC TP X 94 [h0,i1,V0] (λV2 S3=>oK (qBd .not V2) λV4=>qAP V4
 (wC TP X 95 [h0,i1] (λV5 S6=>K (.tup []) S6) S3)
 (K (.tup []) S3)) S1) s
theorem qEN {h0 i1:AV} {K:KvP} {s:Hq} (h:qJU XX h0 i1 K s):wC TP XX 98 [h0,i1] K s:=wOK qAr nA0 rfl Tryz.func98 (by kernel_rfl) (by kernel_rfl) (by kernel_rfl) h
def qFx (X:Td)(o0 i1 j2:AV) (K:KvP) (s:Hq):Prop:=
 oK (qAH o0) λV0=>oK (qAF 0 V0) λV1=>oK (rd1 s V1) λV2=>oK (qAO 2 V2 i1) λV3=>oK (rdN s 2 V3) λV4=>oK (qAH o0) λV5=>oK (qAF 0 V5) λV6=>oK (rd1 s V6) λV7=>oK (qAO 2 V7 j2) λV8=>oK (rdN s 2 V8) λV9=>newK 156 [(.int .i64 0),(.int .i64 0)] (λB10 S11=>(∀ b,s b≠none→s b=none→S11 b=none)→
 newK 156 [(.int .i64 0),(.int .i64 0)] (λB12 S13=>(∀ b,(add s S11) b≠none→(cutH [(s,(add s S11))] (add s S11)) b=none→S13 b=none)→
 ((cutH [((hdel s (qI4 V6)),s),((hdel s (qI4 V8)),s)] (add (add s S11) S13)) (qI4 (.ptr B10 0))≠none)∧oK (qBo (add (add s S11) S13) 2 (.ptr B10 0) (.agg V4)) λS14=>oK (qBo S14 2 (.ptr B12 0) (.agg V9)) λS15=>oK (qAF 1 (.ptr B10 0)) λV16=>oK (rd1 S15 V16) λV17=>oK (qAF 1 (.ptr B12 0)) λV18=>oK (rd1 S15 V18) λV19=>oK (negB true (eqV 0 false V17 V19)) λV20=>qAP V20
 (oK (qAF 1 (.ptr B10 0)) λV21=>oK (rd1 S15 V21) λV22=>oK (qAF 1 (.ptr B12 0)) λV23=>oK (rd1 S15 V23) λV24=>oK (qAG .lss V22 V24) λV25=>K V25 S15)
 (oK (qAF 0 (.ptr B10 0)) λV26=>oK (rd1 S15 V26) λV27=>oK (qAF 0 (.ptr B12 0)) λV28=>oK (rd1 S15 V28) λV29=>oK (qAG .lss V27 V29) λV30=>K V30 S15)) (frz (cutH [(s,(add s S11))] (add s S11)))) (frz s)
theorem qH8 {o0 i1 j2:AV} {K:KvP} {s:Hq} (h:qFx XX o0 i1 j2 K s):wC TP XX 99 [o0,i1,j2] K s:=wOK qAr nA0 rfl Tryz.func99 (by kernel_rfl) (by kernel_rfl) (by kernel_rfl) h
def qGC (X:Td)(o0:AV) (K:KvP) (s:Hq):Prop:=
 oK (qAH o0) λV0=>oK (qAF 0 V0) λV1=>oK (rd1 s V1) λV2=>oK (qAa V2) λV3=>K (.int .i64 V3) s
theorem qIu {o0:AV} {K:KvP} {s:Hq} (h:qGC XX o0 K s):wC TP XX 120 [o0] K s:=wOK qAr nA0 rfl Tryz.func120 (by kernel_rfl) (by kernel_rfl) (by kernel_rfl) h
def qFs (X:Td)(o0 i1 j2:AV) (K:KvP) (s:Hq):Prop:=
 oK (qAH o0) λV0=>oK (qAF 0 V0) λV1=>oK (rd1 s V1) λV2=>oK (qAH o0) λV3=>oK (qAF 0 V3) λV4=>oK (rd1 s V4) λV5=>oK (qAH o0) λV6=>oK (qAF 0 V6) λV7=>oK (rd1 s V7) λV8=>oK (qAO 2 V8 j2) λV9=>oK (rdN s 2 V9) λV10=>oK (qAH o0) λV11=>oK (qAF 0 V11) λV12=>oK (rd1 s V12) λV13=>oK (qAO 2 V13 i1) λV14=>oK (rdN s 2 V14) λV15=>oK (qAO 2 V2 i1) λV16=>oK (qBo s 2 V16 (.agg V10)) λS17=>oK (qAO 2 V5 j2) λV18=>oK (qBo S17 2 V18 (.agg V15)) λS19=>K (.tup []) S19
theorem qHu {o0 i1 j2:AV} {K:KvP} {s:Hq} (h:qFs XX o0 i1 j2 K s):wC TP XX 121 [o0,i1,j2] K s:=wOK qAr nA0 rfl Tryz.func121 (by kernel_rfl) (by kernel_rfl) (by kernel_rfl) h
def qD1 (X:Td)(t0:AV) (K:KvP) (s:Hq):Prop:=
 oK (negB false (eqV 5 true t0 .nilslc)) λV0=>qAP V0
 (K .nilslc s)
 (oK (qA2 (repl 0 [(.int .i64 0)]) []) λC1=>qAb C1=true∧newK 3 C1 (λB2 S3=>appK 3 1 (.slc B2 0 0 (some 0) 1) t0 (λV4 S5=>K V4 S5) S3) s)
theorem qIl {t0:AV} {K:KvP} {s:Hq} (h:qD1 XX t0 K s):wC TP XX 36 [t0] K s:=wOK qAr nA0 rfl Tryz.func36 (by kernel_rfl) (by kernel_rfl) (by kernel_rfl) h
end Go.AM
namespace Go.AM
open Go Go.Proofs
set_option maxRecDepth 100000
def qJt (X:Td)(x0:AV) (K:KvP) (s:Hq):Prop:=
 K x0 s
def qUr (X:Td)(x0 n1:AV) (K:KvP) (s:Hq):Prop:=
 oK (qAG .rem x0 n1) λV0=>oK (qAG .lss V0 (.int .i64 0)) λV1=>qAP V1
 (oK (qAG .add V0 n1) λV2=>qJt X V2 K s)
 (qJt X V0 K s)
theorem qTu {x0 n1:AV} {K:KvP} {s:Hq} (h:qUr XX x0 n1 K s):wC TP XX 7 [x0,n1] K s:=wOK qAr nA0 rfl Tryz.func7 (by kernel_rfl) (by kernel_rfl) (by kernel_rfl) h
def qDf (X:Td)(nodes0 links1 x2 t24 t27:AV) (K:KvP) (s:Hq):Prop:=
 oK (qBK t24 (.bool true) t27) λV5=>qAP V5
 (K (.tup [.nilptr,(.int .i64 2)]) s)
 (wC TP X 24 [x2] (λV6 S7=>oK (qAN V6 0) λV8=>oK (qAN V6 1) λV9=>oK (negB true (eqV 0 true V9 (.int .i64 0))) λV10=>qAP V10
 (K (.tup [.nilptr,(.int .i64 2)]) S7)
 (wC TP X 25 [links1] (λV11 S12=>mapK (λV13 S14=>oK (qA2 [(.int .i64 0),(.int .i64 0),(.int .u32 0),.nilslc,.nilslc,.nilmap] [(0,1,nodes0),(1,1,x2),(2,1,V8),(3,1,V11),(5,1,V13)]) λC15=>boxK 76 (.agg C15) (λB16 S17=>K (.tup [B16,(.int .i64 0)]) S17) S14) S12) S7)) s)
def qCW (X:Td)(nodes0 links1 x2 t13 t20:AV) (K:KvP) (s:Hq):Prop:=
 oK (qBK t13 (.bool true) t20) λV3=>qAP V3
 (K (.tup [.nilptr,(.int .i64 3)]) s)
 (oK (qAG .lss x2 (.int .i64 0)) λV4=>qAP V4
 (qDf X nodes0 links1 x2 V4 .undef K s)
 (oK (qAG .geq x2 nodes0) λV18=>qDf X nodes0 links1 x2 V4 V18 K s))
def qLb (X:Td)(nodes0 links1 x2:AV) (K:KvP) (s:Hq):Prop:=
 oK (qAa links1) λV0=>oK (qAG .gtr (.int .i64 V0) (.int .i64 128)) λV2=>qAP V2
 (qCW X nodes0 links1 x2 V2 .undef K s)
 (oK (qAa links1) λV19=>oK (nat? (.int .i64 V19)) λn_21=>oK (nat? (.int .i64 V19)) λn_22=>(n_21≤n_22∧n_22≤4294967296)∧newK 4 (repl n_22 [(.bool false)]) (λB23 S24=>wC TP X 23 [nodes0,links1,(.slc B23 0 n_21 (some n_22) 1),(.int .i64 0)] (λV25 S26=>oK (negB false (eqV 5 true V25 .nilslc)) λV27=>qCW X nodes0 links1 x2 V2 V27 K S26) S24) s)
theorem qLV {nodes0 links1 x2:AV} {K:KvP} {s:Hq} (h:qLb XX nodes0 links1 x2 K s):wC TP XX 5 [nodes0,links1,x2] K s:=wOK qAr nA0 rfl Tryz.func5 (by kernel_rfl) (by kernel_rfl) (by kernel_rfl) h
def qD0 (X:Td)(t5 t10:AV) (K:KvP) (s:Hq):Prop:=
 oK (qBK t5 t10 (.bool false)) λV1=>K V1 s
def qIV (X:Td)(t0:AV) (K:KvP) (s:Hq):Prop:=
 oK (negB true (eqV 3 true t0 .nilptr)) λV0=>qAP V0
 (oK (qAH t0) λV2=>oK (qAF 0 V2) λV3=>oK (rd1 s V3) λV4=>oK (qAG .gtr V4 (.int .i64 0)) λV5=>qD0 X V0 V5 K s)
 (qD0 X V0 .undef K s)
theorem qKP {t0:AV} {K:KvP} {s:Hq} (h:qIV XX t0 K s):wC TP XX 28 [t0] K s:=wOK qAr nA0 rfl Tryz.func28 (by kernel_rfl) (by kernel_rfl) (by kernel_rfl) h
def qDZ (X:Td)(ip0 t6 t8:AV) (K:KvP) (s:Hq):Prop:=
 oK (qBK t6 (.bool true) t8) λV1=>qAP V1
 (K (.tup [(.int .i64 0),(.bool false)]) s)
 (oK (qAG .sub ip0 (.int .u32 184483840)) λV2=>oK (qAG .sub V2 (.int .u32 1)) λV3=>oK (qCi .i64 V3) λV4=>K (.tup [V4,(.bool true)]) s)
def qJa (X:Td)(ip0:AV) (K:KvP) (s:Hq):Prop:=
 oK (qAG .leq ip0 (.int .u32 184483840)) λV0=>qAP V0
 (qDZ X ip0 V0 .undef K s)
 (oK (qAG .gtr ip0 (.int .u32 184483872)) λV5=>qDZ X ip0 V0 V5 K s)
theorem qJT {ip0:AV} {K:KvP} {s:Hq} (h:qJa XX ip0 K s):wC TP XX 29 [ip0] K s:=wOK qAr nA0 rfl Tryz.func29 (by kernel_rfl) (by kernel_rfl) (by kernel_rfl) h
def qDJ (X:Td)(x2 w6:AV) (K:KvP) (s:Hq):Prop:=
 oK (qAa x2) λV7=>oK (qKU min2A (.int .i64 V7) [(.int .i64 64)]) λV11=>oK (qDs 1 x2 none (some V11) none) λV12=>wC TP X 31 [w6,V12] (λV13 S14=>K (.tup []) S14) s
def qGM (X:Td)(t0 n1 x2:AV) (K:KvP) (s:Hq):Prop:=
 oK (qAH t0) λV0=>oK (qAF 5 V0) λV1=>oK (rd1 s V1) λV2=>oK (getM s V2 n1) λr_3=>oK (qAN (retM .nilptr true r_3) 0) λV4=>oK (qAN (retM .nilptr true r_3) 1) λV5=>oK (qBd .not V5) λV6=>qAP V6
 (wC TP X 58 [(.int .i64 64)] (λV15 S16=>oK (qAN V15 0) λV17=>oK (qAN V15 1) λV18=>oK (qAH t0) λV19=>oK (qAF 5 V19) λV20=>oK (rd1 S16 V20) λV21=>oK (putM S16 V21 n1 V17) λS22=>qDJ X x2 V17 K S22) s)
 (qDJ X x2 V4 K s)
theorem qLP {t0 n1 x2:AV} {K:KvP} {s:Hq} (h:qGM XX t0 n1 x2 K s):wC TP XX 30 [t0,n1,x2] K s:=wOK qAr nA0 rfl Tryz.func30 (by kernel_rfl) (by kernel_rfl) (by kernel_rfl) h
def qLt (X:Td)(t0 dst1:AV) (K:KvP) (s:Hq):Prop:=
 wC TP X 28 [t0] (λV0 S1=>oK (qBd .not V0) λV2=>qAP V2
 (K .nilslc S1)
 (wC TP X 35 [t0,dst1] (λV3 S4=>oK (qAN V3 0) λV5=>oK (qAN V3 1) λV6=>newK 85 [(.int .u32 0),.nilslc] (λB7 S8=>oK (qBo S8 2 (.ptr B7 0) V5) λS9=>oK (qAF 1 (.ptr B7 0)) λV10=>oK (rd1 S9 V10) λV11=>wC TP X 36 [V11] (λV12 S13=>K V12 S13) S9) S4) S1)) s
theorem qJ0 {t0 dst1:AV} {K:KvP} {s:Hq} (h:qLt XX t0 dst1 K s):wC TP XX 12 [t0,dst1] K s:=wOK qAr nA0 rfl Tryz.func12 (by kernel_rfl) (by kernel_rfl) (by kernel_rfl) h
def qNI (X:Td)(t0 dst1:AV) (K:KvP) (s:Hq):Prop:=
 newK 85 [(.int .u32 0),.nilslc] (λB0 S1=>oK (qAH t0) λV2=>oK (qAF 4 V2) λV3=>oK (rd1 S1 V3) λV4=>wC TP X 71 [V4,dst1,(.fn (.func 72) [] [])] (λV5 S6=>oK (qAN V5 0) λV7=>oK (qAN V5 1) λV8=>oK (qBd .not V8) λV9=>qAP V9
 (oK (qA2 [(.int .u32 0),.nilslc] []) λC10=>oK (qBo S6 2 (.ptr B0 0) (.agg C10)) λS11=>oK (rdN S11 2 (.ptr B0 0)) λt4_12=>K (.tup [(.agg t4_12),(.bool false)]) S11)
 (oK (qAH t0) λV13=>oK (qAF 4 V13) λV14=>oK (rd1 S6 V14) λV15=>oK (qAO 2 V15 V7) λV16=>oK (rdN S6 2 V16) λV17=>oK (qBo S6 2 (.ptr B0 0) (.agg V17)) λS18=>oK (rdN S18 2 (.ptr B0 0)) λt4_19=>K (.tup [(.agg t4_19),(.bool true)]) S18)) S1) s
theorem qLU {t0 dst1:AV} {K:KvP} {s:Hq} (h:qNI XX t0 dst1 K s):wC TP XX 35 [t0,dst1] K s:=wOK qAr nA0 rfl Tryz.func35 (by kernel_rfl) (by kernel_rfl) (by kernel_rfl) h
def qAk (X:Td)(t35 t39 t47:AV) (K:KvP) (s:Hq):Prop:=
 oK (qBK t39 t47 (.bool false)) λV14=>K (.tup [t35,V14]) s
def qBH (X:Td)(x0 target1 x2 n8 i9 j10:AV) (I0:IvP) (m0:Nat) (K:KvP) (s:Hq):Prop:=
 oK (qAG .lss i9 j10) λV2=>qAP V2
 (oK (qAG .add i9 j10) λV3=>oK (qCi .u64 V3) λV4=>oK (qEF .shr V4 (.int .u64 1)) λV5=>oK (qCi .i64 V5) λV6=>oK (qAO 2 x0 V6) λV7=>oK (rdN s 2 V7) λV8=>funK TP X x2 [(.agg V8),target1] (λV9 S10=>oK (qAG .lss V9 (.int .i64 0)) λV11=>qAP V11
 (oK (qAG .add V6 (.int .i64 1)) λV12=>∃ m',m' < m0∧I0 [V12,j10] S10 m')
 (∃ m',m' < m0∧I0 [i9,V6] S10 m')) s)
 (oK (qAG .lss i9 n8) λV13=>qAP V13
 (oK (qAO 2 x0 i9) λV15=>oK (rdN s 2 V15) λV16=>funK TP X x2 [(.agg V16),target1] (λV17 S18=>oK (negB false (eqV 0 true V17 (.int .i64 0))) λV19=>qAk X i9 V13 V19 K S18) s)
 (qAk X i9 V13 .undef K s))
def qBQ (X:Td)(x0 target1 x2:AV) (K:KvP) (s:Hq):Prop:=
 oK (qAa x0) λV0=>∃ I0:IvP,(∃ m,I0 [(.int .i64 0),(.int .i64 V0)] s m)∧∀ (f:Env) (s:Hq) (m0:Nat),I0 [f 9,f 10] s m0→
 qBH X x0 target1 x2 (.int .i64 V0) (f 9) (f 10) I0 m0 K s
def qCG:Nat→List Nat:=λk=>cond (Nat.beq k 6) [9,10] ([])
theorem qCI {x0 target1 x2:AV} {K:KvP} {s:Hq} (h:qBQ XX x0 target1 x2 K s):wC TP XX 71 [x0,target1,x2] K s:=wOK qAr qCG rfl Tryz.func71 (by kernel_rfl) (by kernel_rfl) (by kernel_rfl) h
def qJ9 (X:Td)(e0 dst1:AV) (K:KvP) (s:Hq):Prop:=
 boxK 85 e0 (λB0 S1=>oK (qAF 0 B0) λV2=>oK (rd1 S1 V2) λV3=>wC TP X 89 [V3,dst1] (λV4 S5=>K V4 S5) S1) s
theorem qIB {e0 dst1:AV} {K:KvP} {s:Hq} (h:qJ9 XX e0 dst1 K s):wC TP XX 72 [e0,dst1] K s:=wOK qAr nA0 rfl Tryz.func72 (by kernel_rfl) (by kernel_rfl) (by kernel_rfl) h
def qGG (X:Td)(l3 t18 t19 t20:AV) (I0:IvP) (m0:Nat) (K:KvP) (s:Hq):Prop:=
 oK (qAG .lss t20 t19) λV17=>qAP V17
 (oK (qAO 2 t18 t20) λV18=>oK (rdN s 2 V18) λV19=>newK 85 [(.int .u32 0),.nilslc] (λB20 S21=>oK (qBo S21 2 (.ptr B20 0) (.agg V19)) λS22=>oK (qAF 0 (.ptr B20 0)) λV23=>oK (rd1 S22 V23) λV24=>oK (qA2 (repl 1 [(.int .u32 0)]) [(0,1,V24)]) λC25=>qAb C25=true∧newK 34 C25 (λB26 S27=>appK 34 1 l3 (.slc B26 0 1 (some 1) 1) (λV28 S29=>oK (qAG .add t20 (.int .i64 1)) λV30=>∃ m',m' < m0∧I0 [V28,V30] S29 m') S27) S22) s)
 (K l3 s)
def qMI (X:Td)(t0:AV) (K:KvP) (s:Hq):Prop:=
 wC TP X 28 [t0] (λV0 S1=>oK (qBd .not V0) λV2=>qAP V2
 (K .nilslc S1)
 (oK (qAH t0) λV3=>oK (qAF 4 V3) λV4=>oK (rd1 S1 V4) λV5=>oK (qAa V5) λV6=>oK (nat? (.int .i64 0)) λn_8=>oK (nat? (.int .i64 V6)) λn_9=>(n_8≤n_9∧n_9≤4294967296)∧newK 34 (repl n_9 [(.int .u32 0)]) (λB10 S11=>oK (qAH t0) λV12=>oK (qAF 4 V12) λV13=>oK (rd1 S11 V13) λV14=>oK (qAa V14) λV15=>∃ I0:IvP,(∃ m,I0 [(.slc B10 0 n_8 (some n_9) 1),(.int .i64 0)] S11 m)∧∀ (f:Env) (s:Hq) (m0:Nat),I0 [f 3,f 20] s m0→
 qGG X (f 3) V14 (.int .i64 V15) (f 20) I0 m0 K s) S1)) s
def qJ6:Nat→List Nat:=λk=>cond (Nat.beq k 10) [3,20] ([])
theorem qKM {t0:AV} {K:KvP} {s:Hq} (h:qMI XX t0 K s):wC TP XX 50 [t0] K s:=wOK qAr qJ6 rfl Tryz.func50 (by kernel_rfl) (by kernel_rfl) (by kernel_rfl) h
def qGp (X:Td)(a0 b1 i5:AV) (I0:IvP) (m0:Nat) (K:KvP) (s:Hq):Prop:=
 oK (qAa a0) λV5=>oK (qAG .lss i5 (.int .i64 V5)) λV7=>qAP V7
 (oK (qAO 1 a0 i5) λV8=>oK (rd1 s V8) λV9=>oK (qAO 1 b1 i5) λV10=>oK (rd1 s V10) λV11=>oK (negB true (eqV 0 false V9 V11)) λV12=>qAP V12
 (K (.bool false) s)
 (oK (qAG .add i5 (.int .i64 1)) λV13=>∃ m',m' < m0∧I0 [V13] s m'))
 (K (.bool true) s)
def qI8 (X:Td)(a0 b1:AV) (K:KvP) (s:Hq):Prop:=
 oK (qAa a0) λV0=>oK (qAa b1) λV2=>oK (negB true (eqV 0 false (.int .i64 V0) (.int .i64 V2))) λV4=>qAP V4
 (K (.bool false) s)
 (∃ I0:IvP,(∃ m,I0 [(.int .i64 0)] s m)∧∀ (f:Env) (s:Hq) (m0:Nat),I0 [f 5] s m0→
 qGp X a0 b1 (f 5) I0 m0 K s)
def qKc:Nat→List Nat:=λk=>cond (Nat.beq k 8) [5] ([])
theorem qLL {a0 b1:AV} {K:KvP} {s:Hq} (h:qI8 XX a0 b1 K s):wC TP XX 49 [a0,b1] K s:=wOK qAr qKc rfl Tryz.func49 (by kernel_rfl) (by kernel_rfl) (by kernel_rfl) h
def qB2 (X:Td)(t0:AV) (K:KvP) (s:Hq):Prop:=
 oK (negB false (eqV 5 true t0 .nilslc)) λV0=>qAP V0
 (K .nilslc s)
 (oK (qA2 (repl 0 [(.int .i64 0),(.int .i64 0),(.int .i64 0)]) []) λC1=>qAb C1=true∧newK 72 C1 (λB2 S3=>appK 72 3 (.slc B2 0 0 (some 0) 3) t0 (λV4 S5=>K V4 S5) S3) s)
theorem qEo {t0:AV} {K:KvP} {s:Hq} (h:qB2 XX t0 K s):wC TP XX 25 [t0] K s:=wOK qAr nA0 rfl Tryz.func25 (by kernel_rfl) (by kernel_rfl) (by kernel_rfl) h
def qFP (X:Td)(p3 t5 x7 t20 t21 t22:AV) (I0:IvP) (m0:Nat) (K:KvP) (s:Hq):Prop:=
 oK (qAG .lss t22 t21) λV21=>qAP V21
 (oK (qAO 1 t20 t22) λV22=>oK (rd1 s V22) λV23=>funK TP X V23 [] (λV24 S25=>oK (negB true (eqV 0 true V24 (.int .i64 0))) λV26=>qAP V26
 (oK (qA2 [(.int .u32 0),(.int .u32 0),(.int .i64 0),(.int .i64 0),(.int .u32 0),(.int .u32 0),(.int .u64 0),(.int .u64 0),(.int .i64 0),(.int .i64 0),(.int .u64 0),(.int .u32 0),(.int .u64 0),(.int .u32 0),(.int .u32 0),(.int .u32 0),(.int .i64 0),(.int .i64 0),(.int .i64 0),(.int .i64 0),(.int .u64 0)] []) λC27=>oK (qBo S25 21 t5 (.agg C27)) λS28=>oK (rdN S28 21 t5) λt5_29=>K (.tup [(.int .i64 0),(.agg t5_29),V24]) S28)
 (oK (qAG .add t22 (.int .i64 1)) λV30=>∃ m',m' < m0∧I0 [V30] S25 m')) s)
 (oK (qAF 2 p3) λV31=>oK (rd1 s V31) λV32=>oK (qAG .sub V32 (.int .i64 1)) λV33=>oK (qAF 2 p3) λV34=>oK (wr1 s V34 V33) λS35=>oK (rd1 S35 x7) λV36=>oK (rdN S35 21 p3) λV37=>oK (qBo S35 21 t5 (.agg V37)) λS38=>oK (rdN S38 21 t5) λt5_39=>K (.tup [V36,(.agg t5_39),(.int .i64 0)]) S38)
def qKy (X:Td)(t0 p1:AV) (K:KvP) (s:Hq):Prop:=
 boxK 25 t0 (λB0 S1=>boxK 44 p1 (λB2 S3=>newK 44 [(.int .u32 0),(.int .u32 0),(.int .i64 0),(.int .i64 0),(.int .u32 0),(.int .u32 0),(.int .u64 0),(.int .u64 0),(.int .i64 0),(.int .i64 0),(.int .u64 0),(.int .u32 0),(.int .u64 0),(.int .u32 0),(.int .u32 0),(.int .u32 0),(.int .i64 0),(.int .i64 0),(.int .i64 0),(.int .i64 0),(.int .u64 0)] (λB4 S5=>oK (rd1 S5 B0) λV6=>wC TP X 28 [V6] (λV7 S8=>oK (qBd .not V7) λV9=>qAP V9
 (oK (qA2 [(.int .u32 0),(.int .u32 0),(.int .i64 0),(.int .i64 0),(.int .u32 0),(.int .u32 0),(.int .u64 0),(.int .u64 0),(.int .i64 0),(.int .i64 0),(.int .u64 0),(.int .u32 0),(.int .u64 0),(.int .u32 0),(.int .u32 0),(.int .u32 0),(.int .i64 0),(.int .i64 0),(.int .i64 0),(.int .i64 0),(.int .u64 0)] []) λC10=>oK (qBo S8 21 (.ptr B4 0) (.agg C10)) λS11=>oK (rdN S11 21 (.ptr B4 0)) λt5_12=>K (.tup [(.int .i64 0),(.agg t5_12),(.int .i64 1)]) S11)
 (newK 3 [(.int .i64 0)] (λB13 S14=>oK (wr1 S14 (.ptr B13 0) (.int .i64 0)) λS15=>oK (qA2 (repl 3 [.nilFunc]) [(0,1,(.fn (.func 41) [] [B2,B0])),(1,1,(.fn (.func 43) [] [B2])),(2,1,(.fn (.func 44) [] [B0,B2,(.ptr B13 0)]))]) λC16=>qAb C16=true∧newK 99 C16 (λB17 S18=>oK (qAa (.slc B17 0 3 (some 3) 1)) λV19=>∃ I0:IvP,(∃ m,I0 [(.int .i64 0)] S18 m)∧∀ (f:Env) (s:Hq) (m0:Nat),I0 [f 22] s m0→
 qFP X B2 (.ptr B4 0) (.ptr B13 0) (.slc B17 0 3 (some 3) 1) (.int .i64 V19) (f 22) I0 m0 K s) S15) S8)) S5) S3) S1) s
def qIp:Nat→List Nat:=λk=>cond (Nat.beq k 12) [22] ([])
theorem qI3 {t0 p1:AV} {K:KvP} {s:Hq} (h:qKy XX t0 p1 K s):wC TP XX 16 [t0,p1] K s:=wOK qAr qIp rfl Tryz.func16 (by kernel_rfl) (by kernel_rfl) (by kernel_rfl) h
def qFq (X:Td)(t0 t1:AV) (K:KvP) (s:Hq):Prop:=
 oK (qAF 1 t0) λV0=>oK (rd1 s V0) λV1=>oK (rd1 s t1) λV2=>oK (qAH V2) λV3=>oK (qAF 2 V3) λV4=>oK (rd1 s V4) λV5=>oK (negB true (eqV 0 false V1 V5)) λV6=>wC TP X 42 [V6,(.int .i64 9)] (λV7 S8=>K V7 S8) s
theorem qH0 {t0 t1:AV} {K:KvP} {s:Hq} (h:qFq XX t0 t1 K s):wC TP XX 41 [t0,t1] K s:=wOK qAr nA0 rfl Tryz.func41 (by kernel_rfl) (by kernel_rfl) (by kernel_rfl) h
def qFr (X:Td)(t0:AV) (K:KvP) (s:Hq):Prop:=
 oK (qAF 2 t0) λV0=>oK (rd1 s V0) λV1=>oK (qAG .geq V1 (.int .i64 2)) λV2=>wC TP X 42 [V2,(.int .i64 20)] (λV3 S4=>K V3 S4) s
theorem qIT {t0:AV} {K:KvP} {s:Hq} (h:qFr XX t0 K s):wC TP XX 43 [t0] K s:=wOK qAr nA0 rfl Tryz.func43 (by kernel_rfl) (by kernel_rfl) (by kernel_rfl) h
def qFu (X:Td)(t0 t1 t2:AV) (K:KvP) (s:Hq):Prop:=
 oK (rd1 s t0) λV0=>oK (rdN s 21 t1) λV1=>wC TP X 45 [V0,(.agg V1)] (λV2 S3=>oK (qAN V2 0) λV4=>oK (qAN V2 1) λV5=>oK (wr1 S3 t2 V4) λS6=>wC TP X 42 [V5,(.int .i64 13)] (λV7 S8=>K V7 S8) S6) s
theorem qIP {t0 t1 t2:AV} {K:KvP} {s:Hq} (h:qFu XX t0 t1 t2 K s):wC TP XX 44 [t0,t1,t2] K s:=wOK qAr nA0 rfl Tryz.func44 (by kernel_rfl) (by kernel_rfl) (by kernel_rfl) h
def qPl (X:Td)(ok0 err1:AV) (K:KvP) (s:Hq):Prop:=
 qAP ok0
 (K (.int .i64 0) s)
 (K err1 s)
theorem qMO {ok0 err1:AV} {K:KvP} {s:Hq} (h:qPl XX ok0 err1 K s):wC TP XX 42 [ok0,err1] K s:=wOK qAr nA0 rfl Tryz.func42 (by kernel_rfl) (by kernel_rfl) (by kernel_rfl) h
def qMx (X:Td)(t0 p1:AV) (K:KvP) (s:Hq):Prop:=
 boxK 44 p1 (λB0 S1=>oK (qAF 1 B0) λV2=>oK (rd1 S1 V2) λV3=>wC TP X 29 [V3] (λV4 S5=>oK (qAN V4 0) λV6=>oK (qAN V4 1) λV7=>oK (qBd .not V7) λV8=>qAP V8
 (K (.tup [(.int .i64 0),(.bool false)]) S5)
 (oK (qAF 1 B0) λV9=>oK (rd1 S5 V9) λV10=>wC TP X 35 [t0,V10] (λV11 S12=>oK (qAN V11 0) λV13=>oK (qAN V11 1) λV14=>oK (qBd .not V14) λV15=>qAP V15
 (K (.tup [(.int .i64 0),(.bool false)]) S12)
 (oK (qAH t0) λV16=>oK (qAF 5 V16) λV17=>oK (rd1 S12 V17) λV18=>oK (getM S12 V18 V6) λr_19=>oK (rdN S12 21 B0) λV20=>wC TP X 74 [(.agg V20)] (λV21 S22=>(∀ b,S12 b≠none→S12 b=none→S22 b=none)→
 wC TP X 73 [(retM .nilptr false r_19),V21] (λV23 S24=>oK (qAN V23 0) λV25=>oK (qAN V23 1) λV26=>K (.tup [V25,V26]) S24) (add S12 S22)) (frz S12))) S5)) S1) s
theorem qKo {t0 p1:AV} {K:KvP} {s:Hq} (h:qMx XX t0 p1 K s):wC TP XX 45 [t0,p1] K s:=wOK qAr nA0 rfl Tryz.func45 (by kernel_rfl) (by kernel_rfl) (by kernel_rfl) h
end Go.AM
namespace Go.AM
open Go Go.Proofs
set_option maxRecDepth 100000
def qIj (X:Td)(x0 y1:AV) (K:KvP) (s:Hq):Prop:=
 wC TP X 100 [x0] (λV0 S1=>wC TP X 100 [y1] (λV2 S3=>qAP V0
 (qAP V2
 (K (.int .i64 0) S3)
 (K (.int .i64 (-1)) S3))
 (qAP V2
 (K (.int .i64 1) S3)
 (oK (qAG .lss x0 y1) λV4=>qAP V4
 (K (.int .i64 (-1)) S3)
 (oK (qAG .gtr x0 y1) λV5=>qAP V5
 (K (.int .i64 1) S3)
 (K (.int .i64 0) S3))))) S1) s
theorem qG7 {x0 y1:AV} {K:KvP} {s:Hq} (h:qIj XX x0 y1 K s):wC TP XX 89 [x0,y1] K s:=wOK qAr nA0 rfl Tryz.func89 (by kernel_rfl) (by kernel_rfl) (by kernel_rfl) h
def qDl (X:Td)(x0:AV) (K:KvP) (s:Hq):Prop:=
 oK (negB true (eqV 0 false x0 x0)) λV0=>K V0 s
theorem qEV {x0:AV} {K:KvP} {s:Hq} (h:qDl XX x0 K s):wC TP XX 100 [x0] K s:=wOK qAr nA0 rfl Tryz.func100 (by kernel_rfl) (by kernel_rfl) (by kernel_rfl) h
def qNx (X:Td)(p0:AV) (K:KvP) (s:Hq):Prop:=
 boxK 44 p0 (λB0 S1=>oK (rdN S1 21 B0) λV2=>wC TP X 91 [(.agg V2)] (λV3 S4=>wC TP X 90 [V3,(.int .u64 14695981039346656037),(.fn (.func 92) [] [])] (λV5 S6=>K V5 S6) S4) S1) s
theorem qLg {p0:AV} {K:KvP} {s:Hq} (h:qNx XX p0 K s):wC TP XX 74 [p0] K s:=wOK qAr nA0 rfl Tryz.func74 (by kernel_rfl) (by kernel_rfl) (by kernel_rfl) h
def qIc (X:Td)(h0 b1:AV) (K:KvP) (s:Hq):Prop:=
 oK (qCi .u64 b1) λV0=>oK (qAG .xor h0 V0) λV1=>oK (qAG .mul V1 (.int .u64 1099511628211)) λV2=>K V2 s
theorem qKa {h0 b1:AV} {K:KvP} {s:Hq} (h:qIc XX h0 b1 K s):wC TP XX 92 [h0,b1] K s:=wOK qAr nA0 rfl Tryz.func92 (by kernel_rfl) (by kernel_rfl) (by kernel_rfl) h
def qGQ (X:Td)(seq0 start1 x2:AV) (K:KvP) (s:Hq):Prop:=
 boxK 165 x2 (λB0 S1=>newK 35 [(.int .u64 0)] (λB2 S3=>oK (wr1 S3 (.ptr B2 0) start1) λS4=>rngK TP X 17 none seq0 [(5,B0),(7,(.ptr B2 0))] [11] (rfAs 0 (qAp Tryz.f90)) (rfBo 0 (qAp Tryz.f90)) (λS5=>oK (rd1 S5 (.ptr B2 0)) λV7=>K V7 S5)
 (λS6=>K (.int .u64 0) S6)
 (λid S8=>cond (Nat.beq id 0)
 (oK (rd1 S8 (.ptr B2 0)) λV9=>K V9 S8)
 (False)) S4) S1) s
def qBM:Nat→List Nat:=λk=>cond (Nat.beq k 9) [5,7] ([])
theorem qFR {seq0 start1 x2:AV} {K:KvP} {s:Hq} (h:qGQ XX seq0 start1 x2 K s):wC TP XX 90 [seq0,start1,x2] K s:=wOK qAr qBM rfl Tryz.func90 (by kernel_rfl) (by kernel_rfl) (by kernel_rfl) h
def qCw (X:Td)(l:Nat) (x5 x7 t11:AV) (E:AExit→Hq→Prop) (s:Hq):Prop:=
 AExit.nrm=.nrm∧qLM l (λS0=>oK (rd1 S0 x5) λV1=>oK (rd1 S0 x7) λV2=>funK TP X V1 [V2,t11] (λV3 S4=>oK (wr1 S4 x7 V3) λS5=>E .nrm S5) S0) s
theorem qEb (X:Td)(l:Nat) (f:Env) (t11:AV) (E:AExit→Hq→Prop) (s:Hq):wpC TP X qBM Tryz.f90.ntmps (some l) (rfAs 0 (qAp Tryz.f90)) (setE f [11] [t11]) (λe env s=>e=.nrm∧qLM l (λs=>wpC TP X qBM Tryz.f90.ntmps (some l) (rfBo 0 (qAp Tryz.f90)) env (λe _ s=>E e s) s) s) s=qCw X l (f 5) (f 7) t11 E s:=by kernel_rfl
theorem qEk {l:Nat} {t:Bool} {st:LoopState} {pd:Option Code} {d:Nat} {x5 x7 t11:AV} {K:KvP} {s:Hq} (hs:s l=some (t,.loop st pd 17 [(5,x5),(7,x7)] [11] (rfAs 0 (qAp Tryz.f90)) (rfBo 0 (qAp Tryz.f90)) d)) (h:qCw XX l x5 x7 t11 (λe s=>endK l e K s) s):qKg TP XX l [t11] K s:=
 qOm qAr qBM hs rfl rfl λf hf=>by
 refine (qEb XX l f t11 (λe s=>endK l e K s) s).mpr ?_
 rw [show f 5=x5 from hf (5,x5) (by simp)]
 rw [show f 7=x7 from hf (7,x7) (by simp)]
 exact h
def qN6 (X:Td)(p0:AV) (K:KvP) (s:Hq):Prop:=
 boxK 44 p0 (λB0 S1=>K (.fn (.func 101) [] [B0]) S1) s
theorem qLk {p0:AV} {K:KvP} {s:Hq} (h:qN6 XX p0 K s):wC TP XX 91 [p0] K s:=wOK qAr nA0 rfl Tryz.func91 (by kernel_rfl) (by kernel_rfl) (by kernel_rfl) h
def qD7 (X:Td)(t22 t27:AV) (K:KvP) (s:Hq):Prop:=
 oK (qBK t22 t27 (.bool false)) λV7=>K (.tup []) s
def qD5 (X:Td)(yield0 t1 t15 t20:AV) (K:KvP) (s:Hq):Prop:=
 oK (qBK t15 t20 (.bool false)) λV6=>qAP V6
 (oK (qAF 4 t1) λV8=>oK (rd1 s V8) λV9=>oK (qCi .u64 V9) λV10=>wC TP X 102 [V10,(.int .i64 3),yield0] (λV11 S12=>qD7 X V6 V11 K S12) s)
 (qD7 X V6 .undef K s)
def qD6 (X:Td)(yield0 t1 t8 t13:AV) (K:KvP) (s:Hq):Prop:=
 oK (qBK t8 t13 (.bool false)) λV5=>qAP V5
 (oK (qAF 3 t1) λV13=>oK (rd1 s V13) λV14=>oK (qCi .u64 V14) λV15=>wC TP X 102 [V15,(.int .i64 2),yield0] (λV16 S17=>qD5 X yield0 t1 V5 V16 K S17) s)
 (qD5 X yield0 t1 V5 .undef K s)
def qIa (X:Td)(yield0 t1:AV) (K:KvP) (s:Hq):Prop:=
 oK (qAF 0 t1) λV0=>oK (rd1 s V0) λV1=>oK (qCi .u64 V1) λV2=>wC TP X 102 [V2,(.int .i64 4),yield0] (λV3 S4=>qAP V3
 (oK (qAF 1 t1) λV18=>oK (rd1 S4 V18) λV19=>oK (qCi .u64 V19) λV20=>wC TP X 102 [V20,(.int .i64 4),yield0] (λV21 S22=>qD6 X yield0 t1 V3 V21 K S22) S4)
 (qD6 X yield0 t1 V3 .undef K S4)) s
theorem qKW {yield0 t1:AV} {K:KvP} {s:Hq} (h:qIa XX yield0 t1 K s):wC TP XX 101 [yield0,t1] K s:=wOK qAr nA0 rfl Tryz.func101 (by kernel_rfl) (by kernel_rfl) (by kernel_rfl) h
def qGR (X:Td)(v0 x2 i7:AV) (I0:IvP) (m0:Nat) (K:KvP) (s:Hq):Prop:=
 oK (qAG .geq i7 (.int .i64 0)) λV1=>qAP V1
 (oK (qAG .mul (.int .i64 8) i7) λV2=>oK (qEF .shr v0 V2) λV3=>oK (qCi .u8 V3) λV4=>funK TP X x2 [V4] (λV5 S6=>oK (qBd .not V5) λV7=>qAP V7
 (K (.bool false) S6)
 (oK (qAG .sub i7 (.int .i64 1)) λV8=>∃ m',m' < m0∧I0 [V8] S6 m')) s)
 (K (.bool true) s)
def qIW (X:Td)(v0 size1 x2:AV) (K:KvP) (s:Hq):Prop:=
 oK (qAG .sub size1 (.int .i64 1)) λV0=>∃ I0:IvP,(∃ m,I0 [V0] s m)∧∀ (f:Env) (s:Hq) (m0:Nat),I0 [f 7] s m0→
 qGR X v0 x2 (f 7) I0 m0 K s
def qJz:Nat→List Nat:=λk=>cond (Nat.beq k 4) [7] ([])
theorem qKV {v0 size1 x2:AV} {K:KvP} {s:Hq} (h:qIW XX v0 size1 x2 K s):wC TP XX 102 [v0,size1,x2] K s:=wOK qAr qJz rfl Tryz.func102 (by kernel_rfl) (by kernel_rfl) (by kernel_rfl) h
end Go.AM
namespace Go.AM
open Go Go.Proofs
set_option maxRecDepth 100000
def qL5 (X:Td)(nodes0 links1 x2:AV) (K:KvP) (s:Hq):Prop:=
 oK (nat? nodes0) λn_0=>oK (nat? nodes0) λn_1=>(n_0≤n_1∧n_1≤4294967296)∧newK 134 (repl n_1 [.nilslc]) (λB2 S3=>newK 112 [.nilslc] (λB4 S5=>oK (wr1 S5 (.ptr B4 0) (.slc B2 0 n_0 (some n_1) 1)) λS6=>wC TP X 82 [links1,x2] (λV7 S8=>rngK TP X 52 none V7 [(7,(.ptr B4 0))] [15,16] (rfAs 0 (qAp Tryz.f57)) (rfBo 0 (qAp Tryz.f57)) (λS9=>oK (rd1 S9 (.ptr B4 0)) λV11=>K V11 S9)
 (λS10=>K .nilslc S10)
 (λid S12=>cond (Nat.beq id 0)
 (oK (rd1 S12 (.ptr B4 0)) λV13=>K V13 S12)
 (False)) S8) S6) S3) s
def qDv:Nat→List Nat:=λk=>cond (Nat.beq k 11) [7] (cond (Nat.beq k 1000017) [15] (cond (Nat.beq k 1000034) [15] ([])))
theorem qNP {nodes0 links1 x2:AV} {K:KvP} {s:Hq} (h:qL5 XX nodes0 links1 x2 K s):wC TP XX 57 [nodes0,links1,x2] K s:=wOK qAr qDv rfl Tryz.func57 (by kernel_rfl) (by kernel_rfl) (by kernel_rfl) h
def qJG (X:Td)(l:Nat) (x7 t15 t16:AV) (E:AExit→Hq→Prop) (s:Hq):Prop:=
 newK 72 [(.int .i64 0),(.int .i64 0),(.int .i64 0)] (λB0 S1=>oK (qBo S1 3 (.ptr B0 0) t16) λS2=>AExit.nrm=.nrm∧qLM l (λS3=>oK (rd1 S3 x7) λV4=>oK (qAF 0 (.ptr B0 0)) λV5=>oK (rd1 S3 V5) λV6=>oK (rd1 S3 x7) λV7=>oK (qAF 0 (.ptr B0 0)) λV8=>oK (rd1 S3 V8) λV9=>oK (qAO 1 V7 V9) λV10=>oK (rd1 S3 V10) λV11=>oK (qAF 1 (.ptr B0 0)) λV12=>oK (rd1 S3 V12) λV13=>oK (qAF 2 (.ptr B0 0)) λV14=>oK (rd1 S3 V14) λV15=>oK (qA2 [(.int .i64 0),(.int .i64 0),(.int .i64 0)] [(0,1,t15),(1,1,V13),(2,1,V15)]) λC16=>oK (qA2 (repl 1 [(.int .i64 0),(.int .i64 0),(.int .i64 0)]) [(0,3,(.agg C16))]) λC17=>qAb C17=true∧newK 137 C17 (λB18 S19=>(∀ b,S3 b≠none→S3 b=none→S19 b=none)→
 ∃ h_20:Hq,(∀ b,h_20 b≠none→(add S3 S19) b≠none)∧appK 137 3 V11 (.slc B18 0 1 (some 1) 3) (λV21 S22=>(∀ b,(add S3 S19) b≠none→(cutH [((hdel S3 (qI4 x7)),S3),((hdel S3 (qI4 V5)),S3)] (minus (add S3 S19) h_20)) b=none→S22 b=none)→
 oK (qAO 1 V4 V6) λV23=>oK (wr1 (add S22 (rest (add S3 S19) (cutH [((hdel S3 (qI4 x7)),S3),((hdel S3 (qI4 V5)),S3)] (minus (add S3 S19) h_20)))) V23 V21) λS24=>oK (rd1 S24 x7) λV25=>oK (qAF 1 (.ptr B0 0)) λV26=>oK (rd1 S24 V26) λV27=>oK (rd1 S24 x7) λV28=>oK (qAF 1 (.ptr B0 0)) λV29=>oK (rd1 S24 V29) λV30=>oK (qAO 1 V28 V30) λV31=>oK (rd1 S24 V31) λV32=>oK (qAF 0 (.ptr B0 0)) λV33=>oK (rd1 S24 V33) λV34=>oK (qAF 2 (.ptr B0 0)) λV35=>oK (rd1 S24 V35) λV36=>oK (qA2 [(.int .i64 0),(.int .i64 0),(.int .i64 0)] [(0,1,t15),(1,1,V34),(2,1,V36)]) λC37=>oK (qA2 (repl 1 [(.int .i64 0),(.int .i64 0),(.int .i64 0)]) [(0,3,(.agg C37))]) λC38=>qAb C38=true∧newK 137 C38 (λB39 S40=>(∀ b,S24 b≠none→S24 b=none→S40 b=none)→
 ∃ h_41:Hq,(∀ b,h_41 b≠none→(add S24 S40) b≠none)∧appK 137 3 V32 (.slc B39 0 1 (some 1) 3) (λV42 S43=>(∀ b,(add S24 S40) b≠none→(cutH [((hdel S24 (qI4 x7)),S24),((hdel S24 (qI4 V26)),S24)] (minus (add S24 S40) h_41)) b=none→S43 b=none)→
 oK (qAO 1 V25 V27) λV44=>oK (wr1 (add S43 (rest (add S24 S40) (cutH [((hdel S24 (qI4 x7)),S24),((hdel S24 (qI4 V26)),S24)] (minus (add S24 S40) h_41)))) V44 V42) λS45=>E .nrm S45) (cutH [((hdel S24 (qI4 x7)),S24),((hdel S24 (qI4 V26)),S24)] (minus (add S24 S40) h_41))) (frz S24)) (cutH [((hdel S3 (qI4 x7)),S3),((hdel S3 (qI4 V5)),S3)] (minus (add S3 S19) h_20))) (frz S3)) S2) s
theorem qLC (X:Td)(l:Nat) (f:Env) (t15 t16:AV) (E:AExit→Hq→Prop) (s:Hq):wpC TP X qDv Tryz.f57.ntmps (some l) (rfAs 0 (qAp Tryz.f57)) (setE f [15,16] [t15,t16]) (λe env s=>e=.nrm∧qLM l (λs=>wpC TP X qDv Tryz.f57.ntmps (some l) (rfBo 0 (qAp Tryz.f57)) env (λe _ s=>E e s) s) s) s=qJG X l (f 7) t15 t16 E s:=by kernel_rfl
theorem qK8 {l:Nat} {t:Bool} {st:LoopState} {pd:Option Code} {d:Nat} {x7 t15 t16:AV} {K:KvP} {s:Hq} (hs:s l=some (t,.loop st pd 52 [(7,x7)] [15,16] (rfAs 0 (qAp Tryz.f57)) (rfBo 0 (qAp Tryz.f57)) d)) (h:qJG XX l x7 t15 t16 (λe s=>endK l e K s) s):qKg TP XX l [t15,t16] K s:=
 qOm qAr qDv hs rfl rfl λf hf=>by
 refine (qLC XX l f t15 t16 (λe s=>endK l e K s) s).mpr ?_
 rw [show f 7=x7 from hf (7,x7) (by simp)]
 exact h
end Go.AM
namespace Go.AM
open Go Go.Proofs
set_option maxRecDepth 100000
abbrev WW:List Nat:=[8,14,3]
def DN:Nat→Option (List Nat × List Nat):=λ_=>none
def qCA (X:Td)(t41:AV) (I0:IvP) (m0:Nat) (K:KvP) (s:Hq):Prop:=
 oK (qAG .add t41 (.int .i64 1)) λV53=>∃ m',m' < m0∧I0 [V53] s m'
def qFt (X:Td)(t0 x5 t39 t40 t41:AV) (I0:IvP) (m0:Nat) (K:KvP) (s:Hq):Prop:=
 oK (qAG .lss t41 t40) λV29=>qAP V29
 (oK (qAO 2 t39 t41) λV30=>oK (rdN s 2 V30) λV31=>newK 66 [(.int .u32 0),.nilslc] (λB32 S33=>oK (qBo S33 2 (.ptr B32 0) (.agg V31)) λS34=>oK (qAH t0) λV35=>oK (qAF 4 V35) λV36=>oK (rd1 S34 V36) λV37=>oK (rdN S34 2 (.ptr B32 0)) λV38=>oK (qA2 (repl 1 [(.int .u32 0),.nilslc]) [(0,2,(.agg V38))]) λC39=>qAb C39=true∧newK 85 C39 (λB40 S41=>(∀ b,S34 b≠none→S34 b=none→S41 b=none)→
 appK 85 2 V37 (.slc B40 0 1 (some 1) 2) (λV42 S43=>oK (qAH t0) λV44=>oK (qAF 4 V44) λV45=>oK (wr1 S43 V45 V42) λS46=>oK (qAF 0 (.ptr B32 0)) λV47=>oK (rd1 S46 V47) λV48=>wC TP X 29 [V48] (λV49 S50=>oK (qAN V49 0) λV51=>oK (qAN V49 1) λV52=>qAP V52
 (oK (qGE 32 1 x5 V51) λV54=>oK (wr1 S50 V54 (.bool true)) λS55=>oK (qAF 1 (.ptr B32 0)) λV56=>oK (rd1 S55 V56) λV57=>wC TP X 30 [t0,V51,V57] (λV58 S59=>qCA X t41 I0 m0 K S59) S55)
 (qCA X t41 I0 m0 K S50)) S46) (add S34 S41)) (frz S34)) s)
 (oK (qAH t0) λV60=>oK (qAF 5 V60) λV61=>oK (rd1 s V61) λV62=>qRu V62 (λV63 S64=>oK (qNS S64 V63) λp_65=>∃ I2:LvP,I2 [] [] (hdel S64 p_65.1)∧∀ (n_67:List Nat) (f_68:Env) (S69:Hq),I2 n_67 [] S69→S69 p_65.1=none→qQf S69 p_65.2.1 p_65.2.2.2.1 p_65.2.2.2.2∧(∀ e_66∈p_65.2.2.2.2,hasN e_66.born n_67=false→
 qAP (.bool true)
 (oK (entD (hset S69 p_65.1 (true,.iter p_65.2.1 p_65.2.2.1 (n_67 ++ [e_66.born]) p_65.2.2.2.1)) V63) λV70=>oK (qAN V70 0) λV71=>oK (qAN V70 1) λV72=>oK (qGE 32 1 x5 V71) λV73=>oK (rd1 (hset S69 p_65.1 (true,.iter p_65.2.1 p_65.2.2.1 (n_67 ++ [e_66.born]) p_65.2.2.2.1)) V73) λV74=>oK (qBd .not V74) λV75=>qAP V75
 (wC TP X 31 [V72,.nilslc] (λV76 S77=>I2 (n_67 ++ [e_66.born]) [] (hdel S77 p_65.1)) (hset S69 p_65.1 (true,.iter p_65.2.1 p_65.2.2.1 (n_67 ++ [e_66.born]) p_65.2.2.2.1)))
 (I2 (n_67 ++ [e_66.born]) [] (hdel (hset S69 p_65.1 (true,.iter p_65.2.1 p_65.2.2.1 (n_67 ++ [e_66.born]) p_65.2.2.2.1)) p_65.1)))
 (K (.int .i64 0) (hdel (hset S69 p_65.1 (true,.iter p_65.2.1 p_65.2.2.1 (n_67 ++ [e_66.born]) p_65.2.2.2.1)) p_65.1)))∧((∀ e_66∈p_65.2.2.2.2,hasN e_66.born n_67=true)→
 qAP (.bool false)
 (oK (entD S69 V63) λV78=>oK (qAN V78 0) λV79=>oK (qAN V78 1) λV80=>oK (qGE 32 1 x5 V79) λV81=>oK (rd1 S69 V81) λV82=>oK (qBd .not V82) λV83=>qAP V83
 (wC TP X 31 [V80,.nilslc] (λV84 S85=>False) S69)
 (False))
 (K (.int .i64 0) S69))) s)
def qHJ (X:Td)(t0 up1:AV) (K:KvP) (s:Hq):Prop:=
 wC TP X 28 [t0] (λV0 S1=>oK (qBd .not V0) λV2=>qAP V2
 (K (.int .i64 1) S1)
 (oK (qAa up1) λV3=>oK (qAH t0) λV5=>oK (qAF 3 V5) λV6=>oK (rd1 S1 V6) λV7=>oK (qAa V7) λV8=>oK (negB true (eqV 0 false (.int .i64 V3) (.int .i64 V8))) λV10=>qAP V10
 (K (.int .i64 2) S1)
 (oK (qAH t0) λV11=>oK (qAF 4 V11) λV12=>oK (wr1 S1 V12 .nilslc) λS13=>newK 84 [(.bool false),(.bool false),(.bool false),(.bool false),(.bool false),(.bool false),(.bool false),(.bool false),(.bool false),(.bool false),(.bool false),(.bool false),(.bool false),(.bool false),(.bool false),(.bool false),(.bool false),(.bool false),(.bool false),(.bool false),(.bool false),(.bool false),(.bool false),(.bool false),(.bool false),(.bool false),(.bool false),(.bool false),(.bool false),(.bool false),(.bool false),(.bool false)] (λB14 S15=>oK (qAH t0) λV16=>oK (qAF 0 V16) λV17=>oK (rd1 S15 V17) λV18=>oK (qAH t0) λV19=>oK (qAF 3 V19) λV20=>oK (rd1 S15 V20) λV21=>oK (qAH t0) λV22=>oK (qAF 1 V22) λV23=>oK (rd1 S15 V23) λV24=>wC TP X 21 [V18,V21,up1,V24] (λV25 S26=>oK (qAa V25) λV27=>∃ I0:IvP,(∃ m,I0 [(.int .i64 0)] S26 m)∧∀ (f:Env) (s:Hq) (m0:Nat),I0 [f 41] s m0→
 qFt X t0 (.ptr B14 0) V25 (.int .i64 V27) (f 41) I0 m0 K s) S15) S13))) s
def qFK:Nat→List Nat:=λk=>cond (Nat.beq k 16) [41] (cond (Nat.beq k 34) [] ([]))
theorem qJ4 (X:Td)(t0 up1:AV) (K:KvP) (s:Hq):wpCV TP X WW DN qFK Tryz.f8.ntmps (qAp Tryz.f8) (qPM [t0,up1]) (λe env s=>retK e (resK TP Tryz.f8.results.toList env (λvs=>K (oneV vs) s) s)) s=qHJ X t0 up1 K s:=by kernel_rfl
theorem qFy {t0 up1:AV} {K:KvP} {s:Hq} (h:qHJ XX t0 up1 K s):wpW TP XX 8 [t0,up1] K s:=
 qPe DN qFK Tryz.func8 (by kernel_rfl:Tryz.f8.body=some (qAp Tryz.f8)) (by kernel_rfl) ((qJ4 XX t0 up1 K s).mpr h)
def qGs (X:Td)(t0 c3 t30 t31 t32:AV) (I0:IvP) (m0:Nat) (K:KvP) (s:Hq):Prop:=
 oK (qAG .lss t32 t31) λV31=>qAP V31
 (oK (qAO 2 t30 t32) λV32=>oK (rdN s 2 V32) λV33=>newK 85 [(.int .u32 0),.nilslc] (λB34 S35=>oK (qBo S35 2 (.ptr B34 0) (.agg V33)) λS36=>oK (qAF 4 c3) λV37=>oK (rd1 S36 V37) λV38=>oK (rdN S36 2 (.ptr B34 0)) λV39=>wC TP X 37 [(.agg V39)] (λV40 S41=>(∀ b,S36 b≠none→S36 b=none→S41 b=none)→
 oK (qA2 (repl 1 [(.int .u32 0),.nilslc]) [(0,2,V40)]) λC42=>qAb C42=true∧newK 85 C42 (λB43 S44=>(∀ b,(add S36 S41) b≠none→(add S36 S41) b=none→S44 b=none)→
 appK 85 2 V38 (.slc B43 0 1 (some 1) 2) (λV45 S46=>oK (qAF 4 c3) λV47=>oK (wr1 S46 V47 V45) λS48=>oK (qAG .add t32 (.int .i64 1)) λV49=>∃ m',m' < m0∧I0 [V49] S48 m') (add (add S36 S41) S44)) (frz (add S36 S41))) (frz S36)) s)
 (oK (qAH t0) λV50=>oK (qAF 5 V50) λV51=>oK (rd1 s V51) λV52=>oK (lenM s V52) λV53=>intK (.int .i64 V53) (mapK (λV55 S56=>oK (qAF 5 c3) λV57=>oK (wr1 S56 V57 V55) λS58=>oK (qAH t0) λV59=>oK (qAF 5 V59) λV60=>oK (rd1 S58 V60) λV61=>qRu V61 (λV62 S63=>oK (qNS S63 V62) λp_64=>∃ I1:LvP,I1 [] [] (hdel S63 p_64.1)∧∀ (n_66:List Nat) (f_67:Env) (S68:Hq),I1 n_66 [] S68→S68 p_64.1=none→qQf S68 p_64.2.1 p_64.2.2.2.1 p_64.2.2.2.2∧(∀ e_65∈p_64.2.2.2.2,hasN e_65.born n_66=false→
 qAP (.bool true)
 (oK (entD (hset S68 p_64.1 (true,.iter p_64.2.1 p_64.2.2.1 (n_66 ++ [e_65.born]) p_64.2.2.2.1)) V62) λV69=>oK (qAN V69 0) λV70=>oK (qAN V69 1) λV71=>oK (qAF 5 c3) λV72=>oK (rd1 (hset S68 p_64.1 (true,.iter p_64.2.1 p_64.2.2.1 (n_66 ++ [e_65.born]) p_64.2.2.2.1)) V72) λV73=>wC TP X 38 [V71] (λV74 S75=>(∀ b,(hset S68 p_64.1 (true,.iter p_64.2.1 p_64.2.2.1 (n_66 ++ [e_65.born]) p_64.2.2.2.1)) b≠none→(hset S68 p_64.1 (true,.iter p_64.2.1 p_64.2.2.1 (n_66 ++ [e_65.born]) p_64.2.2.2.1)) b=none→S75 b=none)→
 oK (putM (add (hset S68 p_64.1 (true,.iter p_64.2.1 p_64.2.2.1 (n_66 ++ [e_65.born]) p_64.2.2.2.1)) S75) V73 V70 V74) λS76=>I1 (n_66 ++ [e_65.born]) [] (hdel S76 p_64.1)) (frz (hset S68 p_64.1 (true,.iter p_64.2.1 p_64.2.2.1 (n_66 ++ [e_65.born]) p_64.2.2.2.1))))
 (K c3 (hdel (hset S68 p_64.1 (true,.iter p_64.2.1 p_64.2.2.1 (n_66 ++ [e_65.born]) p_64.2.2.2.1)) p_64.1)))∧((∀ e_65∈p_64.2.2.2.2,hasN e_65.born n_66=true)→
 qAP (.bool false)
 (oK (entD S68 V62) λV77=>oK (qAN V77 0) λV78=>oK (qAN V77 1) λV79=>oK (qAF 5 c3) λV80=>oK (rd1 S68 V80) λV81=>wC TP X 38 [V79] (λV82 S83=>(∀ b,S68 b≠none→S68 b=none→S83 b=none)→
 oK (putM (add S68 S83) V81 V78 V82) λS84=>False) (frz S68))
 (K c3 S68))) S58) s))
def qIy (X:Td)(t0:AV) (K:KvP) (s:Hq):Prop:=
 wC TP X 28 [t0] (λV0 S1=>oK (qBd .not V0) λV2=>qAP V2
 (K .nilptr S1)
 (oK (qAH t0) λV3=>oK (rdN S1 6 V3) λV4=>newK 76 [(.int .i64 0),(.int .i64 0),(.int .u32 0),.nilslc,.nilslc,.nilmap] (λB5 S6=>oK (qBo S6 6 (.ptr B5 0) (.agg V4)) λS7=>oK (qAH t0) λV8=>oK (qAF 3 V8) λV9=>oK (rd1 S7 V9) λV10=>wC TP X 25 [V10] (λV11 S12=>oK (qAF 3 (.ptr B5 0)) λV13=>oK (wr1 S12 V13 V11) λS14=>oK (qAH t0) λV15=>oK (qAF 4 V15) λV16=>oK (rd1 S14 V16) λV17=>oK (qAa V17) λV18=>oK (nat? (.int .i64 0)) λn_20=>oK (nat? (.int .i64 V18)) λn_21=>(n_20≤n_21∧n_21≤4294967296)∧newK 85 (repl n_21 [(.int .u32 0),.nilslc]) (λB22 S23=>oK (qAF 4 (.ptr B5 0)) λV24=>oK (wr1 S23 V24 (.slc B22 0 n_20 (some n_21) 2)) λS25=>oK (qAH t0) λV26=>oK (qAF 4 V26) λV27=>oK (rd1 S25 V27) λV28=>oK (qAa V28) λV29=>∃ I0:IvP,(∃ m,I0 [(.int .i64 0)] S25 m)∧∀ (f:Env) (s:Hq) (m0:Nat),I0 [f 32] s m0→
 qGs X t0 (.ptr B5 0) V28 (.int .i64 V29) (f 32) I0 m0 K s) S14) S7) S1)) s
def qGL:Nat→List Nat:=λk=>cond (Nat.beq k 14) [32] (cond (Nat.beq k 26) [] ([]))
theorem qLI (X:Td)(t0:AV) (K:KvP) (s:Hq):wpCV TP X WW DN qGL Tryz.f14.ntmps (qAp Tryz.f14) (qPM [t0]) (λe env s=>retK e (resK TP Tryz.f14.results.toList env (λvs=>K (oneV vs) s) s)) s=qIy X t0 K s:=by kernel_rfl
theorem qLQ {t0:AV} {K:KvP} {s:Hq} (h:qIy XX t0 K s):wpW TP XX 14 [t0] K s:=
 qPe DN qGL Tryz.func14 (by kernel_rfl:Tryz.f14.body=some (qAp Tryz.f14)) (by kernel_rfl) ((qLI XX t0 K s).mpr h)
def qA0 (X:Td)(t9 o11 i13:AV) (I2:IvP) (m2:Nat) (K:KvP) (s:Hq):Prop:=
 wC TP X 18 [t9,o11] (λV35 S36=>oK (qBd .not V35) λV37=>qAP V37
 (K (.bool false) S36)
 (oK (qAG .add i13 (.int .i64 1)) λV38=>∃ m',m' < m2∧I2 [t9,o11,V38] S36 m')) s
def qB9 (X:Td)(t9 o11 i13 t101 t104:AV) (I2:IvP) (m2:Nat) (K:KvP) (s:Hq):Prop:=
 oK (qBK t101 (.bool true) t104) λV99=>qAP V99
 (K (.bool false) s)
 (qA0 X t9 o11 i13 I2 m2 K s)
def qB5 (X:Td)(t9 o11 i13 h18 k21 t96 t99:AV) (I2:IvP) (m2:Nat) (K:KvP) (s:Hq):Prop:=
 oK (qBK t96 (.bool true) t99) λV98=>qAP V98
 (qB9 X t9 o11 i13 V98 .undef I2 m2 K s)
 (oK (negB true (eqV 0 false h18 k21)) λV100=>qB9 X t9 o11 i13 V98 V100 I2 m2 K s)
def qAc (X:Td)(links1 t9 o11 i13 x14 t76 t106:AV) (I2:IvP) (m2:Nat) (K:KvP) (s:Hq):Prop:=
 qAP t106
 (∃ h:Hq,Sub h s∧∃ V0:AV,∃ V1:AV,∃ V2:AV,∃ V3:AV,∃ V4:AV,∃ V5:AV,
 (oK (rd1 h V4) λv'=>h=h∧v'=V5)∧(oK (qAF 1 x14) λv'=>h=h∧v'=V4)∧(h=h∧o11=V3)∧(oK (rd1 h V1) λv'=>h=h∧v'=V2)∧(oK (qAF 1 x14) λv'=>h=h∧v'=V1)∧(h=h∧t9=V0)∧wC TP X 9 [V2] (λV41 S42=>wpW TP X 8 [V0,V41] (λV43 S44=>wC TP X 10 [V3,V5] (λV47 S48=>oK (negB true (eqV 0 false V43 V47)) λV49=>qAP V49
 (K (.bool false) (add S48 h))
 (qA0 X t9 o11 i13 I2 m2 K (add S48 h))) S44) S42) (minus s h))
 (oK (negB false (eqV 0 true t76 (.int .i64 4))) λV50=>qAP V50
 (oK (qAF 2 x14) λV51=>oK (qAF 1 V51) λV52=>oK (rd1 s V52) λV53=>wC TP X 12 [t9,V53] (λV54 S55=>(∀ b,s b≠none→s b=none→S55 b=none)→
 oK (qAF 2 x14) λV56=>oK (qAF 1 V56) λV57=>oK (rd1 (cutH [(s,(add s S55))] (add s S55)) V57) λV58=>wC TP X 13 [o11,V58] (λV59 S60=>wC TP X 11 [V54,V59] (λV61 S62=>oK (qBd .not V61) λV63=>qAP V63
 (K (.bool false) S62)
 (qA0 X t9 o11 i13 I2 m2 K S62)) S60) (add s S55)) (frz s))
 (oK (negB false (eqV 0 true t76 (.int .i64 5))) λV64=>qAP V64
 (wpW TP X 14 [t9] (λV65 S66=>wC TP X 15 [o11] (λV67 S68=>oK (qAa links1) λV69=>oK (nat? (.int .i64 V69)) λn_71=>oK (nat? (.int .i64 V69)) λn_72=>(n_71≤n_72∧n_72≤4294967296)∧newK 4 (repl n_72 [(.bool false)]) (λB73 S74=>wpW TP X 8 [t9,(.slc B73 0 n_71 (some n_72) 1)] (λV75 S76=>qA0 X V65 V67 i13 I2 m2 K S76) S74) S68) S66) s)
 (oK (qAF 2 x14) λV77=>oK (rdN s 21 V77) λV78=>wC TP X 16 [t9,(.agg V78)] (λV79 S80=>oK (qAN V79 0) λV81=>oK (qAN V79 1) λV82=>oK (qAN V79 2) λV83=>newK 44 [(.int .u32 0),(.int .u32 0),(.int .i64 0),(.int .i64 0),(.int .u32 0),(.int .u32 0),(.int .u64 0),(.int .u64 0),(.int .i64 0),(.int .i64 0),(.int .u64 0),(.int .u32 0),(.int .u64 0),(.int .u32 0),(.int .u32 0),(.int .u32 0),(.int .i64 0),(.int .i64 0),(.int .i64 0),(.int .i64 0),(.int .u64 0)] (λB84 S85=>oK (qBo S85 21 (.ptr B84 0) V82) λS86=>oK (qAF 2 x14) λV87=>oK (rdN S86 21 V87) λV88=>wC TP X 17 [o11,(.agg V88)] (λV89 S90=>oK (qAN V89 0) λV91=>oK (qAN V89 1) λV92=>oK (qAN V89 2) λV93=>newK 44 [(.int .u32 0),(.int .u32 0),(.int .i64 0),(.int .i64 0),(.int .u32 0),(.int .u32 0),(.int .u64 0),(.int .u64 0),(.int .i64 0),(.int .i64 0),(.int .u64 0),(.int .u32 0),(.int .u64 0),(.int .u32 0),(.int .u32 0),(.int .u32 0),(.int .i64 0),(.int .i64 0),(.int .i64 0),(.int .i64 0),(.int .u64 0)] (λB94 S95=>oK (qBo S95 21 (.ptr B94 0) V92) λS96=>oK (negB true (eqV 0 false V81 V91)) λV97=>qAP V97
 (qB5 X t9 o11 i13 V83 V93 V97 .undef I2 m2 K S96)
 (oK (rdN S96 21 (.ptr B84 0)) λV101=>oK (rdN S96 21 (.ptr B94 0)) λV102=>oK (negB true (qW1 TP 44 (.agg V101) (.agg V102))) λV103=>qB5 X t9 o11 i13 V83 V93 V97 V103 I2 m2 K S96)) S90) S86) S80) s)))
def qAz (X:Td)(links1 l3 t9 o11 i13 t57 t61:AV) (I2:IvP) (m2:Nat) (K:KvP) (s:Hq):Prop:=
 oK (qBK t57 t61 (.bool false)) λV17=>qAP V17
 (oK (qAO 23 l3 i13) λV18=>oK (rdN s 23 V18) λV19=>newK 46 [(.int .i64 0),.nilslc,(.int .u32 0),(.int .u32 0),(.int .i64 0),(.int .i64 0),(.int .u32 0),(.int .u32 0),(.int .u64 0),(.int .u64 0),(.int .i64 0),(.int .i64 0),(.int .u64 0),(.int .u32 0),(.int .u64 0),(.int .u32 0),(.int .u32 0),(.int .u32 0),(.int .i64 0),(.int .i64 0),(.int .i64 0),(.int .i64 0),(.int .u64 0)] (λB20 S21=>oK (qBo S21 23 (.ptr B20 0) (.agg V19)) λS22=>oK (qAF 1 (.ptr B20 0)) λV23=>oK (rd1 S22 V23) λV24=>oK (qAa V24) λV25=>oK (qAG .gtr (.int .i64 V25) (.int .i64 60)) λV27=>qAP V27
 (wC TP X 4 [] (λV28 S29=>K V28 S29) S22)
 (oK (qAF 0 (.ptr B20 0)) λV30=>oK (rd1 S22 V30) λV31=>wC TP X 7 [V31,(.int .i64 6)] (λV32 S33=>oK (negB false (eqV 0 true V32 (.int .i64 0))) λV34=>qAP V34
 (qAc X links1 t9 o11 i13 (.ptr B20 0) V32 V34 I2 m2 K S33)
 (oK (negB false (eqV 0 true V32 (.int .i64 1))) λV104=>qAc X links1 t9 o11 i13 (.ptr B20 0) V32 V104 I2 m2 K S33)) S22)) s)
 (wC TP X 4 [] (λV105 S106=>K V105 S106) s)
def qB3 (X:Td)(links1 l3 t9 o11 i13:AV) (I2:IvP) (m2:Nat) (K:KvP) (s:Hq):Prop:=
 oK (negB true (eqV 3 true o11 .nilptr)) λV16=>qAP V16
 (oK (qAa l3) λV107=>oK (qAG .lss i13 (.int .i64 V107)) λV109=>qAz X links1 l3 t9 o11 i13 V16 V109 I2 m2 K s)
 (qAz X links1 l3 t9 o11 i13 V16 .undef I2 m2 K s)
def qA1 (X:Td)(links1 l3 t9 o11 t48 t53:AV) (K:KvP) (s:Hq):Prop:=
 oK (qBK t48 (.bool true) t53) λV15=>qAP V15
 (K (.bool false) s)
 (∃ I2:IvP,(∃ m,I2 [t9,o11,(.int .i64 0)] s m)∧∀ (f:Env) (s:Hq) (m2:Nat),I2 [f 9,f 11,f 13] s m2→
 qB3 X links1 l3 (f 9) (f 11) (f 13) I2 m2 K s)
def qAq (X:Td)(nodes0 links1 x2 l3 t25 t28:AV) (K:KvP) (s:Hq):Prop:=
 oK (qBK t25 (.bool true) t28) λV3=>qAP V3
 (wC TP X 4 [] (λV4 S5=>K V4 S5) s)
 (wC TP X 5 [nodes0,links1,x2] (λV6 S7=>oK (qAN V6 0) λV8=>oK (qAN V6 1) λV9=>wC TP X 6 [nodes0,links1,x2] (λV10 S11=>oK (qAN V10 0) λV12=>oK (qAN V10 1) λV13=>oK (negB true (eqV 0 false V9 V13)) λV14=>qAP V14
 (qA1 X links1 l3 V8 V12 V14 .undef K S11)
 (oK (negB false (eqV 3 true V8 .nilptr)) λV110=>oK (negB false (eqV 3 true V12 .nilptr)) λV111=>oK (negB true (eqV 1 false V110 V111)) λV112=>qA1 X links1 l3 V8 V12 V14 V112 K S11)) S7) s)
def qCU (X:Td)(nodes0 links1 x2 l3:AV) (K:KvP) (s:Hq):Prop:=
 oK (qAa links1) λV0=>oK (qAG .gtr (.int .i64 V0) (.int .i64 60)) λV2=>qAP V2
 (qAq X nodes0 links1 x2 l3 V2 .undef K s)
 (oK (qAa l3) λV113=>oK (qAG .gtr (.int .i64 V113) (.int .i64 40)) λV115=>qAq X nodes0 links1 x2 l3 V2 V115 K s)
def qCx:Nat→List Nat:=λk=>cond (Nat.beq k 16) [9,11,13] ([])
def DD:Nat→Option (List Nat × List Nat):=λk=>cond (Nat.beq k 20) (some ([0,1,2,5,6,7],[3,4,8,9])) none
theorem qFf (X:Td)(nodes0 links1 x2 l3:AV) (K:KvP) (s:Hq):wpCV TP X WW DD qCx Tryz.f3.ntmps (qAp Tryz.f3) (qPM [nodes0,links1,x2,l3]) (λe env s=>retK e (resK TP Tryz.f3.results.toList env (λvs=>K (oneV vs) s) s)) s=qCU X nodes0 links1 x2 l3 K s:=by kernel_rfl
theorem qFg {nodes0 links1 x2 l3:AV} {K:KvP} {s:Hq} (h:qCU XX nodes0 links1 x2 l3 K s):wpW TP XX 3 [nodes0,links1,x2,l3] K s:=
 qPe DD qCx Tryz.func3 (by kernel_rfl:Tryz.f3.body=some (qAp Tryz.f3)) (by kernel_rfl) ((qFf XX nodes0 links1 x2 l3 K s).mpr h)
def qJ8 (X:Td)(w0:AV) (K:KvP) (s:Hq):Prop:=
 wC TP X 59 [w0] (λV0 S1=>oK (qBd .not V0) λV2=>qAP V2
 (K .nilptr S1)
 (oK (qAH w0) λV3=>oK (qAF 0 V3) λV4=>oK (rd1 S1 V4) λV5=>wC TP X 36 [V5] (λV6 S7=>(∀ b,S1 b≠none→S1 b=none→S7 b=none)→
 oK (qAH w0) λV8=>oK (qAF 1 V8) λV9=>oK (rd1 (cutH [(S1,(add S1 S7))] (add S1 S7)) V9) λV10=>wC TP X 36 [V10] (λV11 S12=>oK (qA2 [.nilslc,.nilslc] [(0,1,V6),(1,1,V11)]) λC13=>boxK 120 (.agg C13) (λB14 S15=>K B14 S15) S12) (add S1 S7)) (frz S1))) s
theorem qH4 {w0:AV} {K:KvP} {s:Hq} (h:qJ8 XX w0 K s):wC TP XX 38 [w0] K s:=wOK qAr nA0 rfl Tryz.func38 (by kernel_rfl) (by kernel_rfl) (by kernel_rfl) h
def qK6 (X:Td)(e0:AV) (K:KvP) (s:Hq):Prop:=
 boxK 85 e0 (λB0 S1=>newK 85 [(.int .u32 0),.nilslc] (λB2 S3=>oK (qAF 1 B0) λV4=>oK (rd1 S3 V4) λV5=>wC TP X 36 [V5] (λV6 S7=>oK (qAF 1 B0) λV8=>oK (wr1 S7 V8 V6) λS9=>oK (rdN S9 2 B0) λV10=>oK (qBo S9 2 (.ptr B2 0) (.agg V10)) λS11=>oK (rdN S11 2 (.ptr B2 0)) λt2_12=>K (.agg t2_12) S11) S3) S1) s
theorem qFH {e0:AV} {K:KvP} {s:Hq} (h:qK6 XX e0 K s):wC TP XX 37 [e0] K s:=wOK qAr nA0 rfl Tryz.func37 (by kernel_rfl) (by kernel_rfl) (by kernel_rfl) h
end Go.AM
namespace Go.AM
open Go Go.Proofs
set_option maxRecDepth 100000
def qEl (X:Td)(nodes0 t8 n9:AV) (I1:IvP) (m1:Nat) (K:KvP) (s:Hq):Prop:=
 oK (qAG .lss n9 nodes0) λV13=>qAP V13
 (wC TP X 27 [(.int .i64 64)] (λV14 S15=>oK (qAN V14 0) λV16=>oK (qAN V14 1) λV17=>oK (qAH t8) λV18=>oK (qAF 4 V18) λV19=>oK (rd1 S15 V19) λV20=>oK (qA2 (repl 1 [.nilptr]) [(0,1,V16)]) λC21=>qAb C21=true∧newK 81 C21 (λB22 S23=>appK 81 1 V20 (.slc B22 0 1 (some 1) 1) (λV24 S25=>oK (qAH t8) λV26=>oK (qAF 4 V26) λV27=>oK (wr1 S25 V27 V24) λS28=>oK (qAG .add n9 (.int .i64 1)) λV29=>∃ m',m' < m1∧I1 [V29] S28 m') S23) S15) s)
 (K (.tup [t8,(.int .i64 0)]) s)
def qCF (X:Td)(nodes0 links1 x2 t20 t23:AV) (K:KvP) (s:Hq):Prop:=
 oK (qBK t20 (.bool true) t23) λV4=>qAP V4
 (K (.tup [.nilptr,(.int .i64 2)]) s)
 (oK (qA2 (repl 0 [(.int .i64 0),(.int .i64 0),(.int .i64 0)]) []) λC5=>qAb C5=true∧newK 72 C5 (λB6 S7=>appK 72 3 (.slc B6 0 0 (some 0) 3) links1 (λV8 S9=>oK (qA2 [(.int .i64 0),(.int .i64 0),.nilslc,.nilslc,.nilslc] [(0,1,nodes0),(1,1,x2),(2,1,V8)]) λC10=>boxK 80 (.agg C10) (λB11 S12=>∃ I1:IvP,(∃ m,I1 [(.int .i64 0)] S12 m)∧∀ (f:Env) (s:Hq) (m1:Nat),I1 [f 9] s m1→
 qEl X nodes0 B11 (f 9) I1 m1 K s) S9) S7) s)
def qJx (X:Td)(nodes0 links1 x2:AV) (K:KvP) (s:Hq):Prop:=
 wC TP X 26 [nodes0,links1] (λV0 S1=>oK (negB true (eqV 0 true V0 (.int .i64 0))) λV2=>qAP V2
 (K (.tup [.nilptr,(.int .i64 3)]) S1)
 (oK (qAG .lss x2 (.int .i64 0)) λV3=>qAP V3
 (qCF X nodes0 links1 x2 V3 .undef K S1)
 (oK (qAG .geq x2 nodes0) λV30=>qCF X nodes0 links1 x2 V3 V30 K S1))) s
def qHV:Nat→List Nat:=λk=>cond (Nat.beq k 14) [9] ([])
theorem qIO {nodes0 links1 x2:AV} {K:KvP} {s:Hq} (h:qJx XX nodes0 links1 x2 K s):wC TP XX 6 [nodes0,links1,x2] K s:=wOK qAr qHV rfl Tryz.func6 (by kernel_rfl) (by kernel_rfl) (by kernel_rfl) h
def qCv (X:Td)(t0 n5:AV) (I0:IvP) (m0:Nat) (K:KvP) (s:Hq):Prop:=
 oK (qAH t0) λV22=>oK (qAF 0 V22) λV23=>oK (rd1 s V23) λV24=>oK (qAG .lss n5 V24) λV25=>qAP V25
 (wC TP X 33 [n5] (λV26 S27=>wC TP X 13 [t0,V26] (λV28 S29=>oK (qAH t0) λV30=>oK (qAF 4 V30) λV31=>oK (rd1 S29 V31) λV32=>oK (qAO 1 V32 n5) λV33=>oK (rd1 S29 V33) λV34=>oK (qAa V28) λV35=>oK (qKU min2A (.int .i64 V35) [(.int .i64 64)]) λV39=>oK (qDs 1 V28 none (some V39) none) λV40=>wC TP X 34 [V34,V40] (λV41 S42=>oK (qAG .add n5 (.int .i64 1)) λV43=>∃ m',m' < m0∧I0 [V43] S42 m') S29) S27) s)
 (K (.int .i64 0) s)
def qCP (X:Td)(t0 up1:AV) (K:KvP) (s:Hq):Prop:=
 oK (qAa up1) λV0=>oK (qAH t0) λV2=>oK (qAF 2 V2) λV3=>oK (rd1 s V3) λV4=>oK (qAa V4) λV5=>oK (negB true (eqV 0 false (.int .i64 V0) (.int .i64 V5))) λV7=>qAP V7
 (K (.int .i64 2) s)
 (oK (qAH t0) λV8=>oK (qAF 0 V8) λV9=>oK (rd1 s V9) λV10=>oK (qAH t0) λV11=>oK (qAF 2 V11) λV12=>oK (rd1 s V12) λV13=>oK (qAH t0) λV14=>oK (qAF 1 V14) λV15=>oK (rd1 s V15) λV16=>wC TP X 32 [V10,V13,up1,V16] (λV17 S18=>oK (qAH t0) λV19=>oK (qAF 3 V19) λV20=>oK (wr1 S18 V20 V17) λS21=>∃ I0:IvP,(∃ m,I0 [(.int .i64 0)] S21 m)∧∀ (f:Env) (s:Hq) (m0:Nat),I0 [f 5] s m0→
 qCv X t0 (f 5) I0 m0 K s) s)
def qE2:Nat→List Nat:=λk=>cond (Nat.beq k 10) [5] ([])
theorem qCq {t0 up1:AV} {K:KvP} {s:Hq} (h:qCP XX t0 up1 K s):wC TP XX 10 [t0,up1] K s:=wOK qAr qE2 rfl Tryz.func10 (by kernel_rfl) (by kernel_rfl) (by kernel_rfl) h
def qCu (X:Td)(t0 dst1 i5:AV) (I0:IvP) (m0:Nat) (K:KvP) (s:Hq):Prop:=
 oK (qAH t0) λV0=>oK (qAF 3 V0) λV1=>oK (rd1 s V1) λV2=>oK (qAa V2) λV3=>oK (qAG .lss i5 (.int .i64 V3)) λV5=>qAP V5
 (oK (qAH t0) λV6=>oK (qAF 3 V6) λV7=>oK (rd1 s V7) λV8=>oK (qAO 2 V8 i5) λV9=>oK (qAF 0 V9) λV10=>oK (rd1 s V10) λV11=>oK (negB false (eqV 0 false V11 dst1)) λV12=>qAP V12
 (oK (qA2 (repl 0 [(.int .i64 0)]) []) λC13=>qAb C13=true∧newK 3 C13 (λB14 S15=>oK (qAH t0) λV16=>oK (qAF 3 V16) λV17=>oK (rd1 S15 V17) λV18=>oK (qAO 2 V18 i5) λV19=>oK (qAF 1 V19) λV20=>oK (rd1 S15 V20) λV21=>appK 3 1 (.slc B14 0 0 (some 0) 1) V21 (λV22 S23=>K V22 S23) S15) s)
 (oK (qAG .add i5 (.int .i64 1)) λV24=>∃ m',m' < m0∧I0 [V24] s m'))
 (K .nilslc s)
def qGO (X:Td)(t0 dst1:AV) (K:KvP) (s:Hq):Prop:=
 ∃ I0:IvP,(∃ m,I0 [(.int .i64 0)] s m)∧∀ (f:Env) (s:Hq) (m0:Nat),I0 [f 5] s m0→
 qCu X t0 dst1 (f 5) I0 m0 K s
def qE6:Nat→List Nat:=λk=>cond (Nat.beq k 4) [5] ([])
theorem qFV {t0 dst1:AV} {K:KvP} {s:Hq} (h:qGO XX t0 dst1 K s):wC TP XX 13 [t0,dst1] K s:=wOK qAr qE6 rfl Tryz.func13 (by kernel_rfl) (by kernel_rfl) (by kernel_rfl) h
def qDI (X:Td)(t0 c3 n4:AV) (I0:IvP) (m0:Nat) (K:KvP) (s:Hq):Prop:=
 oK (qAH t0) λV19=>oK (qAF 0 V19) λV20=>oK (rd1 s V20) λV21=>oK (qAG .lss n4 V21) λV22=>qAP V22
 (oK (qAH c3) λV23=>oK (qAF 4 V23) λV24=>oK (rd1 s V24) λV25=>oK (qAH t0) λV26=>oK (qAF 4 V26) λV27=>oK (rd1 s V27) λV28=>oK (qAO 1 V28 n4) λV29=>oK (rd1 s V29) λV30=>wC TP X 40 [V30] (λV31 S32=>(∀ b,s b≠none→s b=none→S32 b=none)→
 oK (qA2 (repl 1 [.nilptr]) [(0,1,V31)]) λC33=>qAb C33=true∧newK 81 C33 (λB34 S35=>(∀ b,(add s S32) b≠none→(add s S32) b=none→S35 b=none)→
 appK 81 1 V25 (.slc B34 0 1 (some 1) 1) (λV36 S37=>oK (qAH c3) λV38=>oK (qAF 4 V38) λV39=>oK (wr1 S37 V39 V36) λS40=>oK (qAG .add n4 (.int .i64 1)) λV41=>∃ m',m' < m0∧I0 [V41] S40 m') (add (add s S32) S35)) (frz (add s S32))) (frz s))
 (K c3 s)
def qDp (X:Td)(t0:AV) (K:KvP) (s:Hq):Prop:=
 oK (qAH t0) λV0=>oK (qAF 0 V0) λV1=>oK (rd1 s V1) λV2=>oK (qAH t0) λV3=>oK (qAF 1 V3) λV4=>oK (rd1 s V4) λV5=>oK (qA2 (repl 0 [(.int .i64 0),(.int .i64 0),(.int .i64 0)]) []) λC6=>qAb C6=true∧newK 72 C6 (λB7 S8=>(∀ b,s b≠none→s b=none→S8 b=none)→
 oK (qAH t0) λV9=>oK (qAF 2 V9) λV10=>oK (rd1 (cutH [(s,(add s S8))] (add s S8)) V10) λV11=>appK 72 3 (.slc B7 0 0 (some 0) 3) V11 (λV12 S13=>(∀ b,(add s S8) b≠none→(add s S8) b=none→S13 b=none)→
 wC TP X 39 [t0] (λV14 S15=>(∀ b,(add (add s S8) S13) b≠none→(add (add s S8) S13) b=none→S15 b=none)→
 oK (qA2 [(.int .i64 0),(.int .i64 0),.nilslc,.nilslc,.nilslc] [(0,1,V2),(1,1,V5),(2,1,V12),(3,1,V14)]) λC16=>boxK 80 (.agg C16) (λB17 S18=>∃ I0:IvP,(∃ m,I0 [(.int .i64 0)] S18 m)∧∀ (f:Env) (s:Hq) (m0:Nat),I0 [f 4] s m0→
 qDI X t0 B17 (f 4) I0 m0 K s) (add (add (add s S8) S13) S15)) (frz (add (add s S8) S13))) (frz (add s S8))) (frz s)
def qFe:Nat→List Nat:=λk=>cond (Nat.beq k 6) [4] ([])
theorem qF5 {t0:AV} {K:KvP} {s:Hq} (h:qDp XX t0 K s):wC TP XX 15 [t0] K s:=wOK qAr qFe rfl Tryz.func15 (by kernel_rfl) (by kernel_rfl) (by kernel_rfl) h
def qCo (X:Td)(t0 p3 t5 n7:AV) (I0:IvP) (m0:Nat) (K:KvP) (s:Hq):Prop:=
 oK (qAH t0) λV21=>oK (qAF 0 V21) λV22=>oK (rd1 s V22) λV23=>oK (qAG .lss n7 V23) λV24=>qAP V24
 (oK (qAH t0) λV25=>oK (qAF 4 V25) λV26=>oK (rd1 s V26) λV27=>oK (qAO 1 V27 n7) λV28=>oK (rd1 s V28) λV29=>oK (rdN s 21 p3) λV30=>wC TP X 47 [(.agg V30)] (λV31 S32=>(∀ b,s b≠none→s b=none→S32 b=none)→
 wC TP X 46 [V29,V31] (λV33 S34=>oK (qAN V33 0) λV35=>oK (qAN V33 1) λV36=>oK (qAF 1 p3) λV37=>oK (rd1 S34 V37) λV38=>wC TP X 33 [n7] (λV39 S40=>(∀ b,S34 b≠none→S34 b=none→S40 b=none)→
 oK (negB false (eqV 0 false V38 V39)) λV41=>qAP V41
 (oK (qBK V41 V36 (.bool false)) λV42=>qAP V42
 (oK (qAF 2 p3) λV43=>oK (rd1 (add S34 S40) V43) λV44=>oK (qAG .sub V44 (.int .i64 1)) λV45=>oK (qAF 2 p3) λV46=>oK (wr1 (add S34 S40) V46 V45) λS47=>oK (rdN S47 21 p3) λV48=>oK (qBo S47 21 t5 (.agg V48)) λS49=>oK (rdN S49 21 t5) λt5_50=>K (.tup [V35,(.agg t5_50),(.int .i64 0)]) S49)
 (oK (qAG .add n7 (.int .i64 1)) λV51=>∃ m',m' < m0∧I0 [V51] (add S34 S40) m'))
 (oK (qBK V41 .undef (.bool false)) λV52=>qAP V52
 (oK (qAF 2 p3) λV53=>oK (rd1 (add S34 S40) V53) λV54=>oK (qAG .sub V54 (.int .i64 1)) λV55=>oK (qAF 2 p3) λV56=>oK (wr1 (add S34 S40) V56 V55) λS57=>oK (rdN S57 21 p3) λV58=>oK (qBo S57 21 t5 (.agg V58)) λS59=>oK (rdN S59 21 t5) λt5_60=>K (.tup [V35,(.agg t5_60),(.int .i64 0)]) S59)
 (oK (qAG .add n7 (.int .i64 1)) λV61=>∃ m',m' < m0∧I0 [V61] (add S34 S40) m'))) (frz S34)) (add s S32)) (frz s))
 (oK (qA2 [(.int .u32 0),(.int .u32 0),(.int .i64 0),(.int .i64 0),(.int .u32 0),(.int .u32 0),(.int .u64 0),(.int .u64 0),(.int .i64 0),(.int .i64 0),(.int .u64 0),(.int .u32 0),(.int .u64 0),(.int .u32 0),(.int .u32 0),(.int .u32 0),(.int .i64 0),(.int .i64 0),(.int .i64 0),(.int .i64 0),(.int .u64 0)] []) λC62=>oK (qBo s 21 t5 (.agg C62)) λS63=>oK (rdN S63 21 t5) λt5_64=>K (.tup [(.int .i64 0),(.agg t5_64),(.int .i64 13)]) S63)
def qF2 (X:Td)(t0 p1:AV) (K:KvP) (s:Hq):Prop:=
 boxK 44 p1 (λB0 S1=>newK 44 [(.int .u32 0),(.int .u32 0),(.int .i64 0),(.int .i64 0),(.int .u32 0),(.int .u32 0),(.int .u64 0),(.int .u64 0),(.int .i64 0),(.int .i64 0),(.int .u64 0),(.int .u32 0),(.int .u64 0),(.int .u32 0),(.int .u32 0),(.int .u32 0),(.int .i64 0),(.int .i64 0),(.int .i64 0),(.int .i64 0),(.int .u64 0)] (λB2 S3=>oK (qAF 1 B0) λV4=>oK (rd1 S3 V4) λV5=>oK (qAH t0) λV6=>oK (qAF 1 V6) λV7=>oK (rd1 S3 V7) λV8=>wC TP X 33 [V8] (λV9 S10=>(∀ b,S3 b≠none→S3 b=none→S10 b=none)→
 oK (negB false (eqV 0 false V5 V9)) λV11=>qAP V11
 (oK (qA2 [(.int .u32 0),(.int .u32 0),(.int .i64 0),(.int .i64 0),(.int .u32 0),(.int .u32 0),(.int .u64 0),(.int .u64 0),(.int .i64 0),(.int .i64 0),(.int .u64 0),(.int .u32 0),(.int .u64 0),(.int .u32 0),(.int .u32 0),(.int .u32 0),(.int .i64 0),(.int .i64 0),(.int .i64 0),(.int .i64 0),(.int .u64 0)] []) λC12=>oK (qBo (add S3 S10) 21 (.ptr B2 0) (.agg C12)) λS13=>oK (rdN S13 21 (.ptr B2 0)) λt5_14=>K (.tup [(.int .i64 0),(.agg t5_14),(.int .i64 9)]) S13)
 (oK (qAF 2 B0) λV15=>oK (rd1 (add S3 S10) V15) λV16=>oK (qAG .lss V16 (.int .i64 2)) λV17=>qAP V17
 (oK (qA2 [(.int .u32 0),(.int .u32 0),(.int .i64 0),(.int .i64 0),(.int .u32 0),(.int .u32 0),(.int .u64 0),(.int .u64 0),(.int .i64 0),(.int .i64 0),(.int .u64 0),(.int .u32 0),(.int .u64 0),(.int .u32 0),(.int .u32 0),(.int .u32 0),(.int .i64 0),(.int .i64 0),(.int .i64 0),(.int .i64 0),(.int .u64 0)] []) λC18=>oK (qBo (add S3 S10) 21 (.ptr B2 0) (.agg C18)) λS19=>oK (rdN S19 21 (.ptr B2 0)) λt5_20=>K (.tup [(.int .i64 0),(.agg t5_20),(.int .i64 20)]) S19)
 (∃ I0:IvP,(∃ m,I0 [(.int .i64 0)] (add S3 S10) m)∧∀ (f:Env) (s:Hq) (m0:Nat),I0 [f 7] s m0→
 qCo X t0 B0 (.ptr B2 0) (f 7) I0 m0 K s))) (frz S3)) S1) s
def qEq:Nat→List Nat:=λk=>cond (Nat.beq k 12) [7] ([])
theorem qEx {t0 p1:AV} {K:KvP} {s:Hq} (h:qF2 XX t0 p1 K s):wC TP XX 17 [t0,p1] K s:=wOK qAr qEq rfl Tryz.func17 (by kernel_rfl) (by kernel_rfl) (by kernel_rfl) h
def qCp (X:Td)(t0 x3 i4:AV) (I0:IvP) (m0:Nat) (K:KvP) (s:Hq):Prop:=
 oK (qAH t0) λV0=>oK (qAF 3 V0) λV1=>oK (rd1 s V1) λV2=>oK (qAa V2) λV3=>oK (qAG .lss i4 (.int .i64 V3)) λV5=>qAP V5
 (oK (qAH t0) λV6=>oK (qAF 3 V6) λV7=>oK (rd1 s V7) λV8=>oK (qAO 2 V8 i4) λV9=>oK (qAF 0 V9) λV10=>oK (rd1 s V10) λV11=>oK (qA2 (repl 0 [(.int .i64 0)]) []) λC12=>qAb C12=true∧newK 3 C12 (λB13 S14=>(∀ b,s b≠none→s b=none→S14 b=none)→
 oK (qAH t0) λV15=>oK (qAF 3 V15) λV16=>oK (rd1 (cutH [(s,(add s S14))] (add s S14)) V16) λV17=>oK (qAO 2 V17 i4) λV18=>oK (qAF 1 V18) λV19=>oK (rd1 (cutH [(s,(add s S14))] (add s S14)) V19) λV20=>appK 3 1 (.slc B13 0 0 (some 0) 1) V20 (λV21 S22=>(∀ b,(add s S14) b≠none→(add s S14) b=none→S22 b=none)→
 oK (qA2 [(.int .u32 0),.nilslc] [(0,1,V11),(1,1,V21)]) λC23=>oK (qA2 (repl 1 [(.int .u32 0),.nilslc]) [(0,2,(.agg C23))]) λC24=>qAb C24=true∧newK 66 C24 (λB25 S26=>appK 66 2 x3 (.slc B25 0 1 (some 1) 2) (λV27 S28=>oK (qAG .add i4 (.int .i64 1)) λV29=>∃ m',m' < m0∧I0 [V27,V29] S28 m') S26) (add (add s S14) S22)) (frz (add s S14))) (frz s))
 (K x3 s)
def qF8 (X:Td)(t0:AV) (K:KvP) (s:Hq):Prop:=
 ∃ I0:IvP,(∃ m,I0 [.nilslc,(.int .i64 0)] s m)∧∀ (f:Env) (s:Hq) (m0:Nat),I0 [f 3,f 4] s m0→
 qCp X t0 (f 3) (f 4) I0 m0 K s
def qEr:Nat→List Nat:=λk=>cond (Nat.beq k 6) [3,4] ([])
theorem qE1 {t0:AV} {K:KvP} {s:Hq} (h:qF8 XX t0 K s):wC TP XX 39 [t0] K s:=wOK qAr qEr rfl Tryz.func39 (by kernel_rfl) (by kernel_rfl) (by kernel_rfl) h
def qDE (X:Td)(t0 x3 i4:AV) (I0:IvP) (m0:Nat) (K:KvP) (s:Hq):Prop:=
 oK (qAH t0) λV0=>oK (qAF 3 V0) λV1=>oK (rd1 s V1) λV2=>oK (qAa V2) λV3=>oK (qAG .lss i4 (.int .i64 V3)) λV5=>qAP V5
 (oK (qAH t0) λV6=>oK (qAF 3 V6) λV7=>oK (rd1 s V7) λV8=>oK (qAO 2 V8 i4) λV9=>oK (qAF 0 V9) λV10=>oK (rd1 s V10) λV11=>oK (qA2 (repl 1 [(.int .u32 0)]) [(0,1,V11)]) λC12=>qAb C12=true∧newK 34 C12 (λB13 S14=>appK 34 1 x3 (.slc B13 0 1 (some 1) 1) (λV15 S16=>oK (qAG .add i4 (.int .i64 1)) λV17=>∃ m',m' < m0∧I0 [V15,V17] S16 m') S14) s)
 (K x3 s)
def qGi (X:Td)(t0:AV) (K:KvP) (s:Hq):Prop:=
 ∃ I0:IvP,(∃ m,I0 [.nilslc,(.int .i64 0)] s m)∧∀ (f:Env) (s:Hq) (m0:Nat),I0 [f 3,f 4] s m0→
 qDE X t0 (f 3) (f 4) I0 m0 K s
def qFS:Nat→List Nat:=λk=>cond (Nat.beq k 6) [3,4] ([])
theorem qFl {t0:AV} {K:KvP} {s:Hq} (h:qGi XX t0 K s):wC TP XX 51 [t0] K s:=wOK qAr qFS rfl Tryz.func51 (by kernel_rfl) (by kernel_rfl) (by kernel_rfl) h
def qEg (X:Td)(buckets0 w4 i5:AV) (I1:IvP) (m1:Nat) (K:KvP) (s:Hq):Prop:=
 oK (qAG .lss i5 buckets0) λV5=>qAP V5
 (oK (qAH w4) λV6=>oK (qAF 1 V6) λV7=>oK (rd1 s V7) λV8=>oK (qA2 (repl 1 [(.int .i64 0)]) [(0,1,(.int .i64 (-1)))]) λC9=>qAb C9=true∧newK 3 C9 (λB10 S11=>appK 3 1 V8 (.slc B10 0 1 (some 1) 1) (λV12 S13=>oK (qAH w4) λV14=>oK (qAF 1 V14) λV15=>oK (wr1 S13 V15 V12) λS16=>oK (qAG .add i5 (.int .i64 1)) λV17=>∃ m',m' < m1∧I1 [V17] S16 m') S11) s)
 (K (.tup [w4,(.int .i64 0)]) s)
def qCy (X:Td)(buckets0 t8 t10:AV) (K:KvP) (s:Hq):Prop:=
 oK (qBK t8 (.bool true) t10) λV1=>qAP V1
 (K (.tup [.nilptr,(.int .i64 2)]) s)
 (oK (qA2 [.nilslc,.nilslc] []) λC2=>boxK 115 (.agg C2) (λB3 S4=>∃ I1:IvP,(∃ m,I1 [(.int .i64 0)] S4 m)∧∀ (f:Env) (s:Hq) (m1:Nat),I1 [f 5] s m1→
 qEg X buckets0 B3 (f 5) I1 m1 K s) s)
def qFp (X:Td)(buckets0:AV) (K:KvP) (s:Hq):Prop:=
 oK (qAG .lss buckets0 (.int .i64 1)) λV0=>qAP V0
 (qCy X buckets0 V0 .undef K s)
 (oK (qAG .gtr buckets0 (.int .i64 256)) λV18=>qCy X buckets0 V0 V18 K s)
def qHP:Nat→List Nat:=λk=>cond (Nat.beq k 10) [5] ([])
theorem qHr {buckets0:AV} {K:KvP} {s:Hq} (h:qFp XX buckets0 K s):wC TP XX 27 [buckets0] K s:=wOK qAr qHP rfl Tryz.func27 (by kernel_rfl) (by kernel_rfl) (by kernel_rfl) h
def qBb (X:Td)(i5 t32 t42:AV) (I0:IvP) (m0:Nat) (K:KvP) (s:Hq):Prop:=
 oK (qBK t32 t42 (.bool false)) λV8=>qAP V8
 (K (.int .i64 10) s)
 (oK (qAG .add i5 (.int .i64 1)) λV9=>∃ m',m' < m0∧I0 [V9] s m')
def qB6 (X:Td)(next1 i5 t23 t28:AV) (I0:IvP) (m0:Nat) (K:KvP) (s:Hq):Prop:=
 oK (qBK t23 (.bool true) t28) λV6=>qAP V6
 (K (.int .i64 2) s)
 (oK (qAG .gtr i5 (.int .i64 0)) λV7=>qAP V7
 (oK (qAO 1 next1 i5) λV10=>oK (rd1 s V10) λV11=>oK (qAG .sub i5 (.int .i64 1)) λV12=>oK (qAO 1 next1 V12) λV13=>oK (rd1 s V13) λV14=>oK (qAG .leq V11 V14) λV15=>qBb X i5 V7 V15 I0 m0 K s)
 (qBb X i5 V7 .undef I0 m0 K s))
def qBY (X:Td)(i6:AV) (I3:IvP) (m3:Nat) (K:KvP) (s:Hq):Prop:=
 oK (qAG .add i6 (.int .i64 1)) λV49=>∃ m',m' < m3∧I3 [V49] s m'
def qBa (X:Td)(i7:AV) (I5:IvP) (m5:Nat) (K:KvP) (s:Hq):Prop:=
 oK (qAG .add i7 (.int .i64 1)) λV70=>∃ m',m' < m5∧I5 [V70] s m'
def qBZ (X:Td)(t10 i11:AV) (I8:IvP) (m8:Nat) (I7:IvP) (m7:Nat) (K:KvP) (s:Hq):Prop:=
 oK (qAG .add i11 (.int .i64 1)) λV104=>∃ m',m' < m8∧I8 [t10,V104] s m'
def qC8 (X:Td)(w0 t8 t9 t10 i11:AV) (I8:IvP) (m8:Nat) (I7:IvP) (m7:Nat) (K:KvP) (s:Hq):Prop:=
 oK (qAH w0) λV92=>oK (qAF 1 V92) λV93=>oK (rd1 s V93) λV94=>oK (qAa V94) λV95=>oK (qAG .lss i11 (.int .i64 V95)) λV97=>qAP V97
 (oK (qAH w0) λV98=>oK (qAF 1 V98) λV99=>oK (rd1 s V99) λV100=>oK (qAO 1 V100 i11) λV101=>oK (rd1 s V101) λV102=>oK (negB false (eqV 0 false V102 t8)) λV103=>qAP V103
 (qBZ X i11 i11 I8 m8 I7 m7 K s)
 (qBZ X t10 i11 I8 m8 I7 m7 K s))
 (oK (qAH w0) λV105=>oK (qAF 1 V105) λV106=>oK (rd1 s V106) λV107=>oK (qAO 1 V107 t10) λV108=>oK (wr1 s V108 t9) λS109=>∃ m',m' < m7∧I7 [] S109 m')
def qDD (X:Td)(w0:AV) (I7:IvP) (m7:Nat) (K:KvP) (s:Hq):Prop:=
 wC TP X 70 [w0] (λV78 S79=>wC TP X 69 [w0,V78] (λV80 S81=>wC TP X 68 [w0] (λV82 S83=>wC TP X 69 [w0,V82] (λV84 S85=>oK (qAG .sub V80 V84) λV86=>oK (qAG .gtr V86 (.int .i64 1)) λV87=>qAP V87
 (wC TP X 70 [w0] (λV88 S89=>wC TP X 68 [w0] (λV90 S91=>∃ I8:IvP,(∃ m,I8 [(.int .i64 0),(.int .i64 0)] S91 m)∧∀ (f:Env) (s:Hq) (m8:Nat),I8 [f 10,f 11] s m8→
 qC8 X w0 V88 V90 (f 10) (f 11) I8 m8 I7 m7 K s) S89) S85)
 (K (.int .i64 0) S85)) S83) S81) S79) s
def qDA (X:Td)(w0 i7:AV) (I5:IvP) (m5:Nat) (K:KvP) (s:Hq):Prop:=
 oK (qAH w0) λV58=>oK (qAF 1 V58) λV59=>oK (rd1 s V59) λV60=>oK (qAa V60) λV61=>oK (qAG .lss i7 (.int .i64 V61)) λV63=>qAP V63
 (oK (qAH w0) λV64=>oK (qAF 1 V64) λV65=>oK (rd1 s V65) λV66=>oK (qAO 1 V66 i7) λV67=>oK (rd1 s V67) λV68=>oK (qAG .lss V68 (.int .i64 0)) λV69=>qAP V69
 (oK (qAH w0) λV71=>oK (qAF 1 V71) λV72=>oK (rd1 s V72) λV73=>wC TP X 68 [w0] (λV74 S75=>(∀ b,s b≠none→s b=none→S75 b=none)→
 oK (qAO 1 V73 i7) λV76=>oK (wr1 (add s S75) V76 V74) λS77=>qBa X i7 I5 m5 K S77) (frz s))
 (qBa X i7 I5 m5 K s))
 (∃ I7:IvP,(∃ m,I7 [] s m)∧∀ (f:Env) (s:Hq) (m7:Nat),I7 [] s m7→
 qDD X w0 I7 m7 K s)
def qC9 (X:Td)(w0 next1 i6:AV) (I3:IvP) (m3:Nat) (K:KvP) (s:Hq):Prop:=
 oK (qAH w0) λV35=>oK (qAF 1 V35) λV36=>oK (rd1 s V36) λV37=>oK (qAa V37) λV38=>oK (qAG .lss i6 (.int .i64 V38)) λV40=>qAP V40
 (oK (qAH w0) λV41=>oK (qAF 1 V41) λV42=>oK (rd1 s V42) λV43=>oK (qAO 1 V43 i6) λV44=>oK (rd1 s V44) λV45=>wC TP X 67 [next1,V45] (λV46 S47=>oK (qBd .not V46) λV48=>qAP V48
 (oK (qAH w0) λV50=>oK (qAF 1 V50) λV51=>oK (rd1 S47 V51) λV52=>oK (qAO 1 V52 i6) λV53=>oK (wr1 S47 V53 (.int .i64 (-1))) λS54=>qBY X i6 I3 m3 K S54)
 (qBY X i6 I3 m3 K S47)) s)
 (oK (qAa next1) λV55=>oK (negB false (eqV 0 true (.int .i64 V55) (.int .i64 0))) λV57=>qAP V57
 (K (.int .i64 0) s)
 (∃ I5:IvP,(∃ m,I5 [(.int .i64 0)] s m)∧∀ (f:Env) (s:Hq) (m5:Nat),I5 [f 7] s m5→
 qDA X w0 (f 7) I5 m5 K s))
def qDB (X:Td)(w0 next1 i5:AV) (I0:IvP) (m0:Nat) (K:KvP) (s:Hq):Prop:=
 oK (qAa next1) λV0=>oK (qAG .lss i5 (.int .i64 V0)) λV2=>qAP V2
 (oK (qAO 1 next1 i5) λV3=>oK (rd1 s V3) λV4=>oK (qAG .lss V4 (.int .i64 0)) λV5=>qAP V5
 (qB6 X next1 i5 V5 .undef I0 m0 K s)
 (oK (qAO 1 next1 i5) λV16=>oK (rd1 s V16) λV17=>oK (qAG .geq V17 (.int .i64 128)) λV18=>qB6 X next1 i5 V5 V18 I0 m0 K s))
 (oK (qAa next1) λV19=>oK (qAH w0) λV21=>oK (qAF 1 V21) λV22=>oK (rd1 s V22) λV23=>oK (qAa V23) λV24=>oK (qAG .gtr (.int .i64 V19) (.int .i64 V24)) λV26=>qAP V26
 (K (.int .i64 7) s)
 (oK (qA2 (repl 0 [(.int .i64 0)]) []) λC27=>qAb C27=true∧newK 3 C27 (λB28 S29=>appK 3 1 (.slc B28 0 0 (some 0) 1) next1 (λV30 S31=>oK (qAH w0) λV32=>oK (qAF 0 V32) λV33=>oK (wr1 S31 V33 V30) λS34=>∃ I3:IvP,(∃ m,I3 [(.int .i64 0)] S34 m)∧∀ (f:Env) (s:Hq) (m3:Nat),I3 [f 6] s m3→
 qC9 X w0 next1 (f 6) I3 m3 K s) S29) s))
def qGd (X:Td)(w0 next1:AV) (K:KvP) (s:Hq):Prop:=
 ∃ I0:IvP,(∃ m,I0 [(.int .i64 0)] s m)∧∀ (f:Env) (s:Hq) (m0:Nat),I0 [f 5] s m0→
 qDB X w0 next1 (f 5) I0 m0 K s
def qFN:Nat→List Nat:=λk=>cond (Nat.beq k 4) [5] (cond (Nat.beq k 24) [6] (cond (Nat.beq k 38) [7] (cond (Nat.beq k 46) [] (cond (Nat.beq k 54) [10,11] ([])))))
theorem qFc {w0 next1:AV} {K:KvP} {s:Hq} (h:qGd XX w0 next1 K s):wC TP XX 34 [w0,next1] K s:=wOK qAr qFN rfl Tryz.func34 (by kernel_rfl) (by kernel_rfl) (by kernel_rfl) h
def qGY (X:Td)(w0:AV) (K:KvP) (s:Hq):Prop:=
 oK (qA2 (repl 0 [(.int .i64 0)]) []) λC0=>qAb C0=true∧newK 3 C0 (λB1 S2=>(∀ b,s b≠none→s b=none→S2 b=none)→
 oK (qAH w0) λV3=>oK (qAF 0 V3) λV4=>oK (rd1 (cutH [(s,(add s S2))] (add s S2)) V4) λV5=>appK 3 1 (.slc B1 0 0 (some 0) 1) V5 (λV6 S7=>(∀ b,(add s S2) b≠none→(add s S2) b=none→S7 b=none)→
 oK (qA2 (repl 0 [(.int .i64 0)]) []) λC8=>qAb C8=true∧newK 3 C8 (λB9 S10=>(∀ b,(add (add s S2) S7) b≠none→(cutH [(s,(add s S2)),((add s S2),(add (add s S2) S7))] (add (add s S2) S7)) b=none→S10 b=none)→
 oK (qAH w0) λV11=>oK (qAF 1 V11) λV12=>oK (rd1 (cutH [(s,(add s S2)),((add s S2),(add (add s S2) S7)),((add (add s S2) S7),(add (add (add s S2) S7) S10))] (add (add (add s S2) S7) S10)) V12) λV13=>appK 3 1 (.slc B9 0 0 (some 0) 1) V13 (λV14 S15=>oK (qA2 [.nilslc,.nilslc] [(0,1,V6),(1,1,V14)]) λC16=>boxK 115 (.agg C16) (λB17 S18=>K B17 S18) S15) (add (add (add s S2) S7) S10)) (frz (cutH [(s,(add s S2)),((add s S2),(add (add s S2) S7))] (add (add s S2) S7)))) (frz (add s S2))) (frz s)
theorem qFU {w0:AV} {K:KvP} {s:Hq} (h:qGY XX w0 K s):wC TP XX 40 [w0] K s:=wOK qAr nA0 rfl Tryz.func40 (by kernel_rfl) (by kernel_rfl) (by kernel_rfl) h
def qDO (X:Td)(w0 hash1:AV) (K:KvP) (s:Hq):Prop:=
 oK (qAH w0) λV0=>oK (qAF 0 V0) λV1=>oK (rd1 s V1) λV2=>oK (qAa V2) λV3=>oK (negB false (eqV 0 true (.int .i64 V3) (.int .i64 0))) λV5=>qAP V5
 (K (.tup [(.int .i64 0),(.bool false)]) s)
 (oK (qAH w0) λV6=>oK (qAF 1 V6) λV7=>oK (rd1 s V7) λV8=>oK (qAH w0) λV9=>oK (qAF 1 V9) λV10=>oK (rd1 s V10) λV11=>oK (qAa V11) λV12=>oK (qCi .u64 (.int .i64 V12)) λV14=>oK (qAG .rem hash1 V14) λV15=>oK (qCi .i64 V15) λV16=>oK (qAO 1 V8 V16) λV17=>oK (rd1 s V17) λV18=>K (.tup [V18,(.bool true)]) s)
theorem qFY {w0 hash1:AV} {K:KvP} {s:Hq} (h:qDO XX w0 hash1 K s):wC TP XX 46 [w0,hash1] K s:=wOK qAr nA0 rfl Tryz.func46 (by kernel_rfl) (by kernel_rfl) (by kernel_rfl) h
def qEG (X:Td)(h3 l4 i5:AV) (I0:IvP) (m0:Nat) (K:KvP) (s:Hq):Prop:=
 oK (qAa l4) λV5=>oK (qAG .lss i5 (.int .i64 V5)) λV7=>qAP V7
 (oK (qAO 1 l4 i5) λV8=>oK (rd1 s V8) λV9=>oK (qCi .u64 V9) λV10=>oK (qAG .xor h3 V10) λV11=>oK (qAG .mul V11 (.int .u64 1099511628211)) λV12=>oK (qAG .add i5 (.int .i64 1)) λV13=>∃ m',m' < m0∧I0 [V12,V13] s m')
 (K h3 s)
def qI6 (X:Td)(p0:AV) (K:KvP) (s:Hq):Prop:=
 boxK 44 p0 (λB0 S1=>oK (rdN S1 21 B0) λV2=>wC TP X 75 [(.agg V2)] (λV3 S4=>∃ I0:IvP,(∃ m,I0 [(.int .u64 14695981039346656037),(.int .i64 0)] S4 m)∧∀ (f:Env) (s:Hq) (m0:Nat),I0 [f 3,f 5] s m0→
 qEG X (f 3) V3 (f 5) I0 m0 K s) S1) s
def qHC:Nat→List Nat:=λk=>cond (Nat.beq k 8) [3,5] ([])
theorem qHI {p0:AV} {K:KvP} {s:Hq} (h:qI6 XX p0 K s):wC TP XX 47 [p0] K s:=wOK qAr qHC rfl Tryz.func47 (by kernel_rfl) (by kernel_rfl) (by kernel_rfl) h
def qIg (X:Td)(p0:AV) (K:KvP) (s:Hq):Prop:=
 boxK 44 p0 (λB0 S1=>oK (qAF 0 B0) λV2=>oK (rd1 S1 V2) λV3=>oK (qCi .u64 V3) λV4=>oK (qAF 1 B0) λV5=>oK (rd1 S1 V5) λV6=>oK (qCi .u64 V6) λV7=>oK (qAF 3 B0) λV8=>oK (rd1 S1 V8) λV9=>oK (qCi .u64 V9) λV10=>oK (qAF 4 B0) λV11=>oK (rd1 S1 V11) λV12=>oK (qCi .u64 V12) λV13=>oK (qEF .shr V4 (.int .u64 24)) λV14=>oK (qCi .u8 V14) λV15=>oK (qEF .shr V4 (.int .u64 16)) λV16=>oK (qCi .u8 V16) λV17=>oK (qEF .shr V4 (.int .u64 8)) λV18=>oK (qCi .u8 V18) λV19=>oK (qCi .u8 V4) λV20=>oK (qEF .shr V7 (.int .u64 24)) λV21=>oK (qCi .u8 V21) λV22=>oK (qEF .shr V7 (.int .u64 16)) λV23=>oK (qCi .u8 V23) λV24=>oK (qEF .shr V7 (.int .u64 8)) λV25=>oK (qCi .u8 V25) λV26=>oK (qCi .u8 V7) λV27=>oK (qEF .shr V10 (.int .u64 8)) λV28=>oK (qCi .u8 V28) λV29=>oK (qCi .u8 V10) λV30=>oK (qEF .shr V13 (.int .u64 16)) λV31=>oK (qCi .u8 V31) λV32=>oK (qEF .shr V13 (.int .u64 8)) λV33=>oK (qCi .u8 V33) λV34=>oK (qCi .u8 V13) λV35=>oK (qA2 (repl 13 [(.int .u8 0)]) [(0,1,V15),(1,1,V17),(2,1,V19),(3,1,V20),(4,1,V22),(5,1,V24),(6,1,V26),(7,1,V27),(8,1,V29),(9,1,V30),(10,1,V32),(11,1,V34),(12,1,V35)]) λC36=>qAb C36=true∧newK 5 C36 (λB37 S38=>K (.slc B37 0 13 (some 13) 1) S38) S1) s
theorem qHD {p0:AV} {K:KvP} {s:Hq} (h:qIg XX p0 K s):wC TP XX 75 [p0] K s:=wOK qAr nA0 rfl Tryz.func75 (by kernel_rfl) (by kernel_rfl) (by kernel_rfl) h
def qEw (X:Td)(l0 n1 i5:AV) (I0:IvP) (m0:Nat) (K:KvP) (s:Hq):Prop:=
 oK (qAa l0) λV0=>oK (qAG .lss i5 (.int .i64 V0)) λV2=>qAP V2
 (oK (qAO 1 l0 i5) λV3=>oK (rd1 s V3) λV4=>oK (negB false (eqV 0 false V4 n1)) λV5=>qAP V5
 (K (.bool true) s)
 (oK (qAG .add i5 (.int .i64 1)) λV6=>∃ m',m' < m0∧I0 [V6] s m'))
 (K (.bool false) s)
def qKS (X:Td)(l0 n1:AV) (K:KvP) (s:Hq):Prop:=
 ∃ I0:IvP,(∃ m,I0 [(.int .i64 0)] s m)∧∀ (f:Env) (s:Hq) (m0:Nat),I0 [f 5] s m0→
 qEw X l0 n1 (f 5) I0 m0 K s
def qIR:Nat→List Nat:=λk=>cond (Nat.beq k 4) [5] ([])
theorem qIi {l0 n1:AV} {K:KvP} {s:Hq} (h:qKS XX l0 n1 K s):wC TP XX 67 [l0,n1] K s:=wOK qAr qIR rfl Tryz.func67 (by kernel_rfl) (by kernel_rfl) (by kernel_rfl) h
def qBN (X:Td)(x3 i4:AV) (I0:IvP) (m0:Nat) (K:KvP) (s:Hq):Prop:=
 oK (qAG .add i4 (.int .i64 1)) λV21=>∃ m',m' < m0∧I0 [x3,V21] s m'
def qCm (X:Td)(w0 x3 i4:AV) (I0:IvP) (m0:Nat) (K:KvP) (s:Hq):Prop:=
 oK (qAH w0) λV5=>oK (qAF 0 V5) λV6=>oK (rd1 s V6) λV7=>oK (qAa V7) λV8=>oK (qAG .lss i4 (.int .i64 V8)) λV10=>qAP V10
 (oK (qAH w0) λV11=>oK (qAF 0 V11) λV12=>oK (rd1 s V12) λV13=>oK (qAO 1 V13 i4) λV14=>oK (rd1 s V14) λV15=>wC TP X 69 [w0,V15] (λV16 S17=>wC TP X 69 [w0,x3] (λV18 S19=>oK (qAG .lss V16 V18) λV20=>qAP V20
 (oK (qAH w0) λV22=>oK (qAF 0 V22) λV23=>oK (rd1 S19 V23) λV24=>oK (qAO 1 V24 i4) λV25=>oK (rd1 S19 V25) λV26=>qBN X V26 i4 I0 m0 K S19)
 (qBN X x3 i4 I0 m0 K S19)) S17) s)
 (K x3 s)
def qDH (X:Td)(w0:AV) (K:KvP) (s:Hq):Prop:=
 oK (qAH w0) λV0=>oK (qAF 0 V0) λV1=>oK (rd1 s V1) λV2=>oK (qAO 1 V2 (.int .i64 0)) λV3=>oK (rd1 s V3) λV4=>∃ I0:IvP,(∃ m,I0 [V4,(.int .i64 0)] s m)∧∀ (f:Env) (s:Hq) (m0:Nat),I0 [f 3,f 4] s m0→
 qCm X w0 (f 3) (f 4) I0 m0 K s
def qEs:Nat→List Nat:=λk=>cond (Nat.beq k 6) [3,4] ([])
theorem qEz {w0:AV} {K:KvP} {s:Hq} (h:qDH XX w0 K s):wC TP XX 68 [w0] K s:=wOK qAr qEs rfl Tryz.func68 (by kernel_rfl) (by kernel_rfl) (by kernel_rfl) h
def qBR (X:Td)(n5 i6:AV) (I0:IvP) (m0:Nat) (K:KvP) (s:Hq):Prop:=
 oK (qAG .add i6 (.int .i64 1)) λV8=>∃ m',m' < m0∧I0 [n5,V8] s m'
def qBu (X:Td)(n5 i6 t18 t27:AV) (I0:IvP) (m0:Nat) (K:KvP) (s:Hq):Prop:=
 oK (qBK t18 t27 (.bool false)) λV7=>qAP V7
 (oK (qAG .add n5 (.int .i64 1)) λV9=>qBR X V9 i6 I0 m0 K s)
 (qBR X n5 i6 I0 m0 K s)
def qCr (X:Td)(w0 member1 n5 i6:AV) (I0:IvP) (m0:Nat) (K:KvP) (s:Hq):Prop:=
 oK (qAH w0) λV0=>oK (qAF 1 V0) λV1=>oK (rd1 s V1) λV2=>oK (qAa V2) λV3=>oK (qAG .lss i6 (.int .i64 V3)) λV5=>qAP V5
 (oK (qAG .geq member1 (.int .i64 0)) λV6=>qAP V6
 (oK (qAH w0) λV10=>oK (qAF 1 V10) λV11=>oK (rd1 s V11) λV12=>oK (qAO 1 V12 i6) λV13=>oK (rd1 s V13) λV14=>oK (negB false (eqV 0 false V14 member1)) λV15=>qBu X n5 i6 V6 V15 I0 m0 K s)
 (qBu X n5 i6 V6 .undef I0 m0 K s))
 (K n5 s)
def qGN (X:Td)(w0 member1:AV) (K:KvP) (s:Hq):Prop:=
 ∃ I0:IvP,(∃ m,I0 [(.int .i64 0),(.int .i64 0)] s m)∧∀ (f:Env) (s:Hq) (m0:Nat),I0 [f 5,f 6] s m0→
 qCr X w0 member1 (f 5) (f 6) I0 m0 K s
def qE4:Nat→List Nat:=λk=>cond (Nat.beq k 6) [5,6] ([])
theorem qFQ {w0 member1:AV} {K:KvP} {s:Hq} (h:qGN XX w0 member1 K s):wC TP XX 69 [w0,member1] K s:=wOK qAr qE4 rfl Tryz.func69 (by kernel_rfl) (by kernel_rfl) (by kernel_rfl) h
def qBS (X:Td)(x3 i4:AV) (I0:IvP) (m0:Nat) (K:KvP) (s:Hq):Prop:=
 oK (qAG .add i4 (.int .i64 1)) λV21=>∃ m',m' < m0∧I0 [x3,V21] s m'
def qCt (X:Td)(w0 x3 i4:AV) (I0:IvP) (m0:Nat) (K:KvP) (s:Hq):Prop:=
 oK (qAH w0) λV5=>oK (qAF 0 V5) λV6=>oK (rd1 s V6) λV7=>oK (qAa V7) λV8=>oK (qAG .lss i4 (.int .i64 V8)) λV10=>qAP V10
 (oK (qAH w0) λV11=>oK (qAF 0 V11) λV12=>oK (rd1 s V12) λV13=>oK (qAO 1 V13 i4) λV14=>oK (rd1 s V14) λV15=>wC TP X 69 [w0,V15] (λV16 S17=>wC TP X 69 [w0,x3] (λV18 S19=>oK (qAG .geq V16 V18) λV20=>qAP V20
 (oK (qAH w0) λV22=>oK (qAF 0 V22) λV23=>oK (rd1 S19 V23) λV24=>oK (qAO 1 V24 i4) λV25=>oK (rd1 S19 V25) λV26=>qBS X V26 i4 I0 m0 K S19)
 (qBS X x3 i4 I0 m0 K S19)) S17) s)
 (K x3 s)
def qDR (X:Td)(w0:AV) (K:KvP) (s:Hq):Prop:=
 oK (qAH w0) λV0=>oK (qAF 0 V0) λV1=>oK (rd1 s V1) λV2=>oK (qAO 1 V2 (.int .i64 0)) λV3=>oK (rd1 s V3) λV4=>∃ I0:IvP,(∃ m,I0 [V4,(.int .i64 0)] s m)∧∀ (f:Env) (s:Hq) (m0:Nat),I0 [f 3,f 4] s m0→
 qCt X w0 (f 3) (f 4) I0 m0 K s
def qE0:Nat→List Nat:=λk=>cond (Nat.beq k 6) [3,4] ([])
theorem qFM {w0:AV} {K:KvP} {s:Hq} (h:qDR XX w0 K s):wC TP XX 70 [w0] K s:=wOK qAr qE0 rfl Tryz.func70 (by kernel_rfl) (by kernel_rfl) (by kernel_rfl) h
def qEL (X:Td)(l0 i2 k3:AV) (I1:IvP) (m1:Nat) (I0:IvP) (m0:Nat) (K:KvP) (s:Hq):Prop:=
 oK (qAO 2 l0 i2) λV3=>oK (qAF 1 V3) λV4=>oK (rd1 s V4) λV5=>oK (qAa V5) λV6=>oK (qAG .lss k3 (.int .i64 V6)) λV8=>qAP V8
 (oK (qAO 2 l0 i2) λV9=>oK (qAF 1 V9) λV10=>oK (rd1 s V10) λV11=>oK (qAO 1 V11 k3) λV12=>oK (wr1 s V12 (.int .i64 (-77))) λS13=>oK (qAG .add k3 (.int .i64 1)) λV14=>∃ m',m' < m1∧I1 [V14] S13 m')
 (oK (qAO 2 l0 i2) λV15=>oK (qAF 0 V15) λV16=>oK (wr1 s V16 (.int .u32 77)) λS17=>oK (qAG .add i2 (.int .i64 1)) λV18=>∃ m',m' < m0∧I0 [V18] S17 m')
def qEI (X:Td)(l0 i2:AV) (I0:IvP) (m0:Nat) (K:KvP) (s:Hq):Prop:=
 oK (qAa l0) λV0=>oK (qAG .lss i2 (.int .i64 V0)) λV2=>qAP V2
 (∃ I1:IvP,(∃ m,I1 [(.int .i64 0)] s m)∧∀ (f:Env) (s:Hq) (m1:Nat),I1 [f 3] s m1→
 qEL X l0 i2 (f 3) I1 m1 I0 m0 K s)
 (K (.tup []) s)
def qI0 (X:Td)(l0:AV) (K:KvP) (s:Hq):Prop:=
 ∃ I0:IvP,(∃ m,I0 [(.int .i64 0)] s m)∧∀ (f:Env) (s:Hq) (m0:Nat),I0 [f 2] s m0→
 qEI X l0 (f 2) I0 m0 K s
def qHB:Nat→List Nat:=λk=>cond (Nat.beq k 2) [2] (cond (Nat.beq k 8) [3] ([]))
theorem qHn {l0:AV} {K:KvP} {s:Hq} (h:qI0 XX l0 K s):wC TP XX 52 [l0] K s:=wOK qAr qHB rfl Tryz.func52 (by kernel_rfl) (by kernel_rfl) (by kernel_rfl) h
def qFJ (X:Td)(l3 t18 t19 t20:AV) (I0:IvP) (m0:Nat) (K:KvP) (s:Hq):Prop:=
 oK (qAG .lss t20 t19) λV17=>qAP V17
 (oK (qAO 2 t18 t20) λV18=>oK (rdN s 2 V18) λV19=>newK 85 [(.int .u32 0),.nilslc] (λB20 S21=>oK (qBo S21 2 (.ptr B20 0) (.agg V19)) λS22=>oK (rdN S22 2 (.ptr B20 0)) λV23=>wC TP X 37 [(.agg V23)] (λV24 S25=>oK (qA2 (repl 1 [(.int .u32 0),.nilslc]) [(0,2,V24)]) λC26=>qAb C26=true∧newK 66 C26 (λB27 S28=>appK 66 2 l3 (.slc B27 0 1 (some 1) 2) (λV29 S30=>oK (qAG .add t20 (.int .i64 1)) λV31=>∃ m',m' < m0∧I0 [V29,V31] S30 m') S28) S25) S22) s)
 (K l3 s)
def qKt (X:Td)(t0:AV) (K:KvP) (s:Hq):Prop:=
 wC TP X 28 [t0] (λV0 S1=>oK (qBd .not V0) λV2=>qAP V2
 (K .nilslc S1)
 (oK (qAH t0) λV3=>oK (qAF 4 V3) λV4=>oK (rd1 S1 V4) λV5=>oK (qAa V5) λV6=>oK (nat? (.int .i64 0)) λn_8=>oK (nat? (.int .i64 V6)) λn_9=>(n_8≤n_9∧n_9≤4294967296)∧newK 66 (repl n_9 [(.int .u32 0),.nilslc]) (λB10 S11=>oK (qAH t0) λV12=>oK (qAF 4 V12) λV13=>oK (rd1 S11 V13) λV14=>oK (qAa V14) λV15=>∃ I0:IvP,(∃ m,I0 [(.slc B10 0 n_8 (some n_9) 2),(.int .i64 0)] S11 m)∧∀ (f:Env) (s:Hq) (m0:Nat),I0 [f 3,f 20] s m0→
 qFJ X (f 3) V14 (.int .i64 V15) (f 20) I0 m0 K s) S1)) s
def qIw:Nat→List Nat:=λk=>cond (Nat.beq k 10) [3,20] ([])
theorem qI2 {t0:AV} {K:KvP} {s:Hq} (h:qKt XX t0 K s):wC TP XX 48 [t0] K s:=wOK qAr qIw rfl Tryz.func48 (by kernel_rfl) (by kernel_rfl) (by kernel_rfl) h
def qEE (X:Td)(i6 l7 k8:AV) (I2:IvP) (m2:Nat) (I1:IvP) (m1:Nat) (K:KvP) (s:Hq):Prop:=
 oK (qAa l7) λV34=>oK (qAG .lss k8 (.int .i64 V34)) λV36=>qAP V36
 (oK (qAO 1 l7 k8) λV37=>oK (wr1 s V37 (.int .i64 (-77))) λS38=>oK (qAG .add k8 (.int .i64 1)) λV39=>∃ m',m' < m2∧I2 [V39] S38 m')
 (oK (qAG .add i6 (.int .i64 1)) λV40=>∃ m',m' < m1∧I1 [V40] s m')
def qCg (X:Td)(t0 o1 i6:AV) (I1:IvP) (m1:Nat) (K:KvP) (s:Hq):Prop:=
 oK (qAH o1) λV11=>oK (qAF 3 V11) λV12=>oK (rd1 s V12) λV13=>oK (qAa V13) λV14=>oK (qAG .lss i6 (.int .i64 V14)) λV16=>qAP V16
 (oK (qAH o1) λV17=>oK (qAF 3 V17) λV18=>oK (rd1 s V18) λV19=>oK (qAO 2 V19 i6) λV20=>oK (qAF 0 V20) λV21=>oK (rd1 s V21) λV22=>wC TP X 12 [t0,V22] (λV23 S24=>oK (qAH o1) λV25=>oK (qAF 3 V25) λV26=>oK (rd1 S24 V26) λV27=>oK (qAO 2 V27 i6) λV28=>oK (qAF 1 V28) λV29=>oK (rd1 S24 V29) λV30=>wC TP X 11 [V23,V30] (λV31 S32=>oK (qBd .not V31) λV33=>qAP V33
 (K (.bool false) S32)
 (∃ I2:IvP,(∃ m,I2 [(.int .i64 0)] S32 m)∧∀ (f:Env) (s:Hq) (m2:Nat),I2 [f 8] s m2→
 qEE X i6 V23 (f 8) I2 m2 I1 m1 K s)) S24) s)
 (wC TP X 48 [t0] (λV41 S42=>(∀ b,s b≠none→s b=none→S42 b=none)→
 oK (qAH o1) λV43=>oK (qAF 3 V43) λV44=>oK (rd1 (cutH [(s,(add s S42))] (add s S42)) V44) λV45=>wC TP X 20 [V41,V45] (λV46 S47=>K V46 S47) (add s S42)) (frz s))
def qCh (X:Td)(t0 o1 a5 t18 t24:AV) (K:KvP) (s:Hq):Prop:=
 oK (qBK t18 (.bool true) t24) λV8=>qAP V8
 (K (.bool false) s)
 (wC TP X 52 [a5] (λV9 S10=>∃ I1:IvP,(∃ m,I1 [(.int .i64 0)] S10 m)∧∀ (f:Env) (s:Hq) (m1:Nat),I1 [f 6] s m1→
 qCg X t0 o1 (f 6) I1 m1 K s) s)
def qI9 (X:Td)(t0 o1:AV) (K:KvP) (s:Hq):Prop:=
 wC TP X 48 [t0] (λV0 S1=>oK (qAH o1) λV2=>oK (qAF 3 V2) λV3=>oK (rd1 S1 V3) λV4=>wC TP X 20 [V0,V4] (λV5 S6=>oK (qBd .not V5) λV7=>qAP V7
 (qCh X t0 o1 V0 V7 .undef K S6)
 (wC TP X 50 [t0] (λV48 S49=>wC TP X 51 [o1] (λV50 S51=>wC TP X 49 [V48,V50] (λV52 S53=>oK (qBd .not V52) λV54=>qCh X t0 o1 V0 V7 V54 K S53) S51) S49) S6)) S1) s
def qHE:Nat→List Nat:=λk=>cond (Nat.beq k 12) [6] (cond (Nat.beq k 24) [8] ([]))
theorem qHi {t0 o1:AV} {K:KvP} {s:Hq} (h:qI9 XX t0 o1 K s):wC TP XX 18 [t0,o1] K s:=wOK qAr qHE rfl Tryz.func18 (by kernel_rfl) (by kernel_rfl) (by kernel_rfl) h
end Go.AM
