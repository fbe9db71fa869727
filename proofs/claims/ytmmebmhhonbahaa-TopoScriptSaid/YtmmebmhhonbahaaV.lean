/- Part V of a calculus over a small memory that is proved to answer as the program does, and of its use for the functions that the law reaches: see the last part. -/
import Derived.Test.YtmmebmhhonbahaaU3
import Derived.Test.YtmmebmhhonbahaaProg
import Derived.KernelRfl
set_option linter.unusedVariables false
namespace Go.AM
open Go Go.Proofs
set_option maxRecDepth 100000
abbrev XX : Told := toldS 62 [10,4]
theorem XX_fr : FrX XX := toldS_fr _ _
/-- leafmesh/leafmeshlaw09.TopoNew (3) -/
def vc_leafmeshlaw09_TopoNew_j3 (X : Told) (t61 : AVal) (t62 : AVal) (K : AVal → Heap → Prop) (s : Heap) : Prop :=
  optK (pickV t61 t62 (.bool false)) fun v_30 =>
  K v_30 s
def vc_leafmeshlaw09_TopoNew_l2 (X : Told) (t5 : AVal) (g6 : AVal) (w8 : AVal) (i10 : AVal) (I2 : List AVal → Heap → Nat → Prop) (m2 : Nat) (K : AVal → Heap → Prop) (s : Heap) : Prop :=
  optK (lenOfA t5) fun v_21 =>
  optK (arithV .lss i10 (.int .i64 v_21)) fun v_23 =>
  boolK v_23
   (optK (fillR [(.int .i64 0), (.int .i64 0), (.int .i64 0)] []) fun c_24 =>
    optK (iaddrS 3 t5 i10) fun v_25 =>
    optK (wrAgg s 3 v_25 (.agg c_24)) fun s_26 =>
    optK (arithV .add i10 (.int .i64 1)) fun v_27 =>
    ∃ m', m' < m2 ∧ I2 [v_27] s_26 m')
   (wpCall Try.prog X 15 [g6, w8] (fun v_28 s_29 =>
    boolK v_28
     (wpCall Try.prog X 10 [] (fun v_31 s_32 =>
      vc_leafmeshlaw09_TopoNew_j3 X v_28 v_31 K s_32) s_29)
     (vc_leafmeshlaw09_TopoNew_j3 X v_28 .undef K s_29)) s)
def vc_leafmeshlaw09_TopoNew_j1 (X : Told) (t5 : AVal) (g6 : AVal) (w8 : AVal) (t39 : AVal) (t43 : AVal) (K : AVal → Heap → Prop) (s : Heap) : Prop :=
  optK (pickV t39 (.bool true) t43) fun v_17 =>
  boolK v_17
   (K (.bool false) s)
   (optK (negB false (eqV 3 true w8 .nilptr)) fun v_18 =>
    boolK v_18
     (wpCall Try.prog X 10 [] (fun v_19 s_20 =>
      K v_19 s_20) s)
     (∃ I2 : List AVal → Heap → Nat → Prop, (∃ m, I2 [(.int .i64 0)] s m) ∧ ∀ (f : Env) (s : Heap) (m2 : Nat), I2 [f 10] s m2 →
        vc_leafmeshlaw09_TopoNew_l2 X t5 g6 w8 (f 10) I2 m2 K s))
def vc_leafmeshlaw09_TopoNew_j0 (X : Told) (links1 : AVal) (t5 : AVal) (g6 : AVal) (w8 : AVal) (t32 : AVal) (t37 : AVal) (K : AVal → Heap → Prop) (s : Heap) : Prop :=
  optK (pickV t32 (.bool true) t37) fun v_16 =>
  boolK v_16
   (vc_leafmeshlaw09_TopoNew_j1 X t5 g6 w8 v_16 .undef K s)
   (wpCall Try.prog X 14 [t5, links1] (fun v_33 s_34 =>
    optK (unaryA .not v_33) fun v_35 =>
    vc_leafmeshlaw09_TopoNew_j1 X t5 g6 w8 v_16 v_35 K s_34) s)
def vc_leafmeshlaw09_TopoNew (X : Told) (nodes0 : AVal) (links1 : AVal) (K : AVal → Heap → Prop) (s : Heap) : Prop :=
  optK (lenOfA links1) fun v_0 =>
  optK (arithV .gtr (.int .i64 v_0) (.int .i64 200)) fun v_2 =>
  boolK v_2
   (wpCall Try.prog X 10 [] (fun v_3 s_4 =>
    K v_3 s_4) s)
   (wpCall Try.prog X 11 [links1] (fun v_5 s_6 =>
    wpCall Try.prog X 12 [nodes0, v_5] (fun v_7 s_8 =>
    optK (extractA v_7 0) fun v_9 =>
    optK (extractA v_7 1) fun v_10 =>
    wpCall Try.prog X 13 [nodes0, links1] (fun v_11 s_12 =>
    optK (extractA v_11 0) fun v_13 =>
    optK (extractA v_11 1) fun v_14 =>
    optK (negB true (eqV 0 false v_10 v_14)) fun v_15 =>
    boolK v_15
     (vc_leafmeshlaw09_TopoNew_j0 X links1 v_5 v_9 v_13 v_15 .undef K s_12)
     (optK (negB false (eqV 3 true v_9 .nilptr)) fun v_36 =>
      optK (negB false (eqV 3 true v_13 .nilptr)) fun v_37 =>
      optK (negB true (eqV 1 false v_36 v_37)) fun v_38 =>
      vc_leafmeshlaw09_TopoNew_j0 X links1 v_5 v_9 v_13 v_15 v_38 K s_12)) s_8) s_6) s)
def vc_leafmeshlaw09_TopoNew_ann : Nat → List Nat := fun k => cond (Nat.beq k 22) [10] ([])
theorem vc_leafmeshlaw09_TopoNew_eq (X : Told) (nodes0 : AVal) (links1 : AVal) (K : AVal → Heap → Prop) (s : Heap) : wpC Try.prog X vc_leafmeshlaw09_TopoNew_ann Try.f3.ntmps none (bodyOf Try.f3) (envOf [nodes0, links1]) (fun e env s => retK e (resK Try.prog Try.f3.results.toList env (fun vs => K (oneV vs) s) s)) s = vc_leafmeshlaw09_TopoNew X nodes0 links1 K s := by kernel_rfl
theorem vc_leafmeshlaw09_TopoNew_ok {X : Told} (hX : FrX X) (hn : X 3 = none) {nodes0 : AVal} {links1 : AVal} {K : AVal → Heap → Prop} {s : Heap} (h : vc_leafmeshlaw09_TopoNew X nodes0 links1 K s) : wpCall Try.prog X 3 [nodes0, links1] K s :=
  wpCall_code hX vc_leafmeshlaw09_TopoNew_ann hn Try.func3 (by kernel_rfl : Try.f3.body = some (bodyOf Try.f3)) (by kernel_rfl) ((vc_leafmeshlaw09_TopoNew_eq X nodes0 links1 K s).mpr h)
theorem vc_leafmeshlaw09_TopoNew_in {nodes0 : AVal} {links1 : AVal} {K : AVal → Heap → Prop} {s : Heap} (h : vc_leafmeshlaw09_TopoNew XX nodes0 links1 K s) : wpCall Try.prog XX 3 [nodes0, links1] K s := vc_leafmeshlaw09_TopoNew_ok XX_fr rfl h
/-- leafmesh/leafmeshlaw09.TopoParts (5) -/
def vc_leafmeshlaw09_TopoParts_l1 (X : Told) (g4 : AVal) (all5 : AVal) (many6 : AVal) (i7 : AVal) (k8 : AVal) (I1 : List AVal → Heap → Nat → Prop) (m1 : Nat) (I0 : List AVal → Heap → Nat → Prop) (m0 : Nat) (K : AVal → Heap → Prop) (s : Heap) : Prop :=
  optK (iaddrS 1 all5 i7) fun v_18 =>
  optK (rd1 s v_18) fun v_19 =>
  optK (lenOfA v_19) fun v_20 =>
  optK (arithV .lss k8 (.int .i64 v_20)) fun v_22 =>
  boolK v_22
   (optK (iaddrS 1 all5 i7) fun v_23 =>
    optK (rd1 s v_23) fun v_24 =>
    optK (iaddrS 1 v_24 k8) fun v_25 =>
    optK (rd1 s v_25) fun v_26 =>
    wpCall Try.prog X 26 [g4, v_26] (fun v_27 s_28 =>
    optK (unaryA .not v_27) fun v_29 =>
    boolK v_29
     (optK (pickV v_29 (.bool true) .undef) fun v_30 =>
    boolK v_30
     (K (.bool false) s_28)
     (optK (arithV .add k8 (.int .i64 1)) fun v_31 =>
      ∃ m', m' < m1 ∧ I1 [v_31] s_28 m'))
     (optK (iaddrS 1 all5 i7) fun v_32 =>
    optK (rd1 s_28 v_32) fun v_33 =>
    optK (iaddrS 1 v_33 k8) fun v_34 =>
    optK (rd1 s_28 v_34) fun v_35 =>
    wpCall Try.prog X 27 [g4, v_35] (fun v_36 s_37 =>
    (∀ b, s_28 b ≠ none → s_28 b = none → s_37 b = none) →
    optK (iaddrS 1 all5 i7) fun v_38 =>
    optK (rd1 (cutH [(s_28, (add s_28 s_37))] (add s_28 s_37)) v_38) fun v_39 =>
    wpCall Try.prog X 17 [v_36, v_39] (fun v_40 s_41 =>
    optK (unaryA .not v_40) fun v_42 =>
    optK (pickV v_29 (.bool true) v_42) fun v_43 =>
    boolK v_43
     (K (.bool false) s_41)
     (optK (arithV .add k8 (.int .i64 1)) fun v_44 =>
      ∃ m', m' < m1 ∧ I1 [v_44] s_41 m')) (add s_28 s_37)) (frz s_28))) s)
   (optK (arithV .add i7 (.int .i64 1)) fun v_45 =>
    ∃ m', m' < m0 ∧ I0 [many6, v_45] s m')
def vc_leafmeshlaw09_TopoParts_j3 (X : Told) (alive9 : AVal) (n10 : AVal) (I2 : List AVal → Heap → Nat → Prop) (m2 : Nat) (K : AVal → Heap → Prop) (s : Heap) : Prop :=
  optK (arithV .add n10 (.int .i64 1)) fun v_51 =>
  ∃ m', m' < m2 ∧ I2 [alive9, v_51] s m'
def vc_leafmeshlaw09_TopoParts_j6 (X : Told) (t1 : AVal) (g4 : AVal) (i11 : AVal) (a12 : AVal) (b13 : AVal) (t104 : AVal) (t120 : AVal) (t127 : AVal) (I4 : List AVal → Heap → Nat → Prop) (m4 : Nat) (K : AVal → Heap → Prop) (s : Heap) : Prop :=
  optK (pickV t120 (.bool true) t127) fun v_76 =>
  optK (pickV t104 v_76 (.bool false)) fun v_77 =>
  boolK v_77
   (K (.bool false) s)
   (wpCall Try.prog X 25 [g4, i11] (fun v_78 s_79 =>
    (∀ b, s b ≠ none → s b = none → s_79 b = none) →
    wpCall Try.prog X 23 [g4, a12] (fun v_80 s_81 =>
    (∀ b, (add s s_79) b ≠ none → (add s s_79) b = none → s_81 b = none) →
    optK (addOff 1 t1) fun v_82 =>
    optK (rd1 (cutH [(s, (add s s_79)), ((add s s_79), (add (add s s_79) s_81))] (add (add s s_79) s_81)) v_82) fun v_83 =>
    optK (iaddrS 3 v_83 i11) fun v_84 =>
    optK (addOff 2 v_84) fun v_85 =>
    optK (rd1 (cutH [(s, (add s s_79)), ((add s s_79), (add (add s s_79) s_81))] (add (add s s_79) s_81)) v_85) fun v_86 =>
    optK (fillR [(.int .i64 0), (.int .i64 0), (.int .i64 0)] [(0, 1, i11), (1, 1, b13), (2, 1, v_86)]) fun c_87 =>
    wpCall Try.prog X 31 [v_80, (.agg c_87)] (fun v_88 s_89 =>
    optK (negB true (eqV 1 false v_78 v_88)) fun v_90 =>
    boolK v_90
     (optK (pickV v_90 (.bool true) .undef) fun v_91 =>
    boolK v_91
     (K (.bool false) s_89)
     (optK (arithV .add i11 (.int .i64 1)) fun v_92 =>
      ∃ m', m' < m4 ∧ I4 [v_92] s_89 m'))
     (wpCall Try.prog X 25 [g4, i11] (fun v_93 s_94 =>
    (∀ b, s_89 b ≠ none → s_89 b = none → s_94 b = none) →
    wpCall Try.prog X 23 [g4, b13] (fun v_95 s_96 =>
    (∀ b, (add s_89 s_94) b ≠ none → (add s_89 s_94) b = none → s_96 b = none) →
    optK (addOff 1 t1) fun v_97 =>
    optK (rd1 (cutH [(s_89, (add s_89 s_94)), ((add s_89 s_94), (add (add s_89 s_94) s_96))] (add (add s_89 s_94) s_96)) v_97) fun v_98 =>
    optK (iaddrS 3 v_98 i11) fun v_99 =>
    optK (addOff 2 v_99) fun v_100 =>
    optK (rd1 (cutH [(s_89, (add s_89 s_94)), ((add s_89 s_94), (add (add s_89 s_94) s_96))] (add (add s_89 s_94) s_96)) v_100) fun v_101 =>
    optK (fillR [(.int .i64 0), (.int .i64 0), (.int .i64 0)] [(0, 1, i11), (1, 1, a12), (2, 1, v_101)]) fun c_102 =>
    wpCall Try.prog X 31 [v_95, (.agg c_102)] (fun v_103 s_104 =>
    optK (negB true (eqV 1 false v_93 v_103)) fun v_105 =>
    optK (pickV v_90 (.bool true) v_105) fun v_106 =>
    boolK v_106
     (K (.bool false) s_104)
     (optK (arithV .add i11 (.int .i64 1)) fun v_107 =>
      ∃ m', m' < m4 ∧ I4 [v_107] s_104 m')) (add (add s_89 s_94) s_96)) (frz (add s_89 s_94))) (frz s_89))) (add (add s s_79) s_81)) (frz (add s s_79))) (frz s))
def vc_leafmeshlaw09_TopoParts_j5 (X : Told) (t1 : AVal) (g4 : AVal) (i11 : AVal) (a12 : AVal) (b13 : AVal) (t104 : AVal) (t111 : AVal) (t118 : AVal) (I4 : List AVal → Heap → Nat → Prop) (m4 : Nat) (K : AVal → Heap → Prop) (s : Heap) : Prop :=
  optK (pickV t111 (.bool true) t118) fun v_75 =>
  boolK v_75
   (vc_leafmeshlaw09_TopoParts_j6 X t1 g4 i11 a12 b13 t104 v_75 .undef I4 m4 K s)
   (wpCall Try.prog X 18 [g4, b13, a12] (fun v_108 s_109 =>
    wpCall Try.prog X 30 [v_108, i11] (fun v_110 s_111 =>
    optK (unaryA .not v_110) fun v_112 =>
    vc_leafmeshlaw09_TopoParts_j6 X t1 g4 i11 a12 b13 t104 v_75 v_112 I4 m4 K s_111) s_109) s)
def vc_leafmeshlaw09_TopoParts_j7 (X : Told) (t167 : AVal) (t170 : AVal) (K : AVal → Heap → Prop) (s : Heap) : Prop :=
  optK (pickV t167 t170 (.bool false)) fun v_149 =>
  K v_149 s
def vc_leafmeshlaw09_TopoParts_l4 (X : Told) (t1 : AVal) (ok3 : AVal) (g4 : AVal) (many6 : AVal) (alive9 : AVal) (i11 : AVal) (I4 : List AVal → Heap → Nat → Prop) (m4 : Nat) (K : AVal → Heap → Prop) (s : Heap) : Prop :=
  optK (addOff 1 t1) fun v_53 =>
  optK (rd1 s v_53) fun v_54 =>
  optK (lenOfA v_54) fun v_55 =>
  optK (arithV .lss i11 (.int .i64 v_55)) fun v_57 =>
  boolK v_57
   (optK (addOff 1 t1) fun v_58 =>
    optK (rd1 s v_58) fun v_59 =>
    optK (iaddrS 3 v_59 i11) fun v_60 =>
    optK (addOff 0 v_60) fun v_61 =>
    optK (rd1 s v_61) fun v_62 =>
    optK (addOff 1 t1) fun v_63 =>
    optK (rd1 s v_63) fun v_64 =>
    optK (iaddrS 3 v_64 i11) fun v_65 =>
    optK (addOff 1 v_65) fun v_66 =>
    optK (rd1 s v_66) fun v_67 =>
    wpCall Try.prog X 25 [g4, i11] (fun v_68 s_69 =>
    boolK v_68
     (wpCall Try.prog X 27 [g4, v_62] (fun v_70 s_71 =>
      wpCall Try.prog X 30 [v_70, v_67] (fun v_72 s_73 =>
      optK (unaryA .not v_72) fun v_74 =>
      boolK v_74
       (vc_leafmeshlaw09_TopoParts_j5 X t1 g4 i11 v_62 v_67 v_68 v_74 .undef I4 m4 K s_73)
       (wpCall Try.prog X 18 [g4, v_62, v_67] (fun v_113 s_114 =>
        wpCall Try.prog X 30 [v_113, i11] (fun v_115 s_116 =>
        optK (unaryA .not v_115) fun v_117 =>
        vc_leafmeshlaw09_TopoParts_j5 X t1 g4 i11 v_62 v_67 v_68 v_74 v_117 I4 m4 K s_116) s_114) s_73)) s_71) s_69)
     (optK (pickV v_68 .undef (.bool false)) fun v_118 =>
      boolK v_118
       (K (.bool false) s_69)
       (wpCall Try.prog X 25 [g4, i11] (fun v_119 s_120 =>
        (∀ b, s_69 b ≠ none → s_69 b = none → s_120 b = none) →
        wpCall Try.prog X 23 [g4, v_62] (fun v_121 s_122 =>
        (∀ b, (add s_69 s_120) b ≠ none → (add s_69 s_120) b = none → s_122 b = none) →
        optK (addOff 1 t1) fun v_123 =>
        optK (rd1 (cutH [(s_69, (add s_69 s_120)), ((add s_69 s_120), (add (add s_69 s_120) s_122))] (add (add s_69 s_120) s_122)) v_123) fun v_124 =>
        optK (iaddrS 3 v_124 i11) fun v_125 =>
        optK (addOff 2 v_125) fun v_126 =>
        optK (rd1 (cutH [(s_69, (add s_69 s_120)), ((add s_69 s_120), (add (add s_69 s_120) s_122))] (add (add s_69 s_120) s_122)) v_126) fun v_127 =>
        optK (fillR [(.int .i64 0), (.int .i64 0), (.int .i64 0)] [(0, 1, i11), (1, 1, v_67), (2, 1, v_127)]) fun c_128 =>
        wpCall Try.prog X 31 [v_121, (.agg c_128)] (fun v_129 s_130 =>
        optK (negB true (eqV 1 false v_119 v_129)) fun v_131 =>
        boolK v_131
         (optK (pickV v_131 (.bool true) .undef) fun v_132 =>
        boolK v_132
         (K (.bool false) s_130)
         (optK (arithV .add i11 (.int .i64 1)) fun v_133 =>
          ∃ m', m' < m4 ∧ I4 [v_133] s_130 m'))
         (wpCall Try.prog X 25 [g4, i11] (fun v_134 s_135 =>
        (∀ b, s_130 b ≠ none → s_130 b = none → s_135 b = none) →
        wpCall Try.prog X 23 [g4, v_67] (fun v_136 s_137 =>
        (∀ b, (add s_130 s_135) b ≠ none → (add s_130 s_135) b = none → s_137 b = none) →
        optK (addOff 1 t1) fun v_138 =>
        optK (rd1 (cutH [(s_130, (add s_130 s_135)), ((add s_130 s_135), (add (add s_130 s_135) s_137))] (add (add s_130 s_135) s_137)) v_138) fun v_139 =>
        optK (iaddrS 3 v_139 i11) fun v_140 =>
        optK (addOff 2 v_140) fun v_141 =>
        optK (rd1 (cutH [(s_130, (add s_130 s_135)), ((add s_130 s_135), (add (add s_130 s_135) s_137))] (add (add s_130 s_135) s_137)) v_141) fun v_142 =>
        optK (fillR [(.int .i64 0), (.int .i64 0), (.int .i64 0)] [(0, 1, i11), (1, 1, v_62), (2, 1, v_142)]) fun c_143 =>
        wpCall Try.prog X 31 [v_136, (.agg c_143)] (fun v_144 s_145 =>
        optK (negB true (eqV 1 false v_134 v_144)) fun v_146 =>
        optK (pickV v_131 (.bool true) v_146) fun v_147 =>
        boolK v_147
         (K (.bool false) s_145)
         (optK (arithV .add i11 (.int .i64 1)) fun v_148 =>
          ∃ m', m' < m4 ∧ I4 [v_148] s_145 m')) (add (add s_130 s_135) s_137)) (frz (add s_130 s_135))) (frz s_130))) (add (add s_69 s_120) s_122)) (frz (add s_69 s_120))) (frz s_69)))) s)
   (boolK ok3
     (optK (negB false (eqV 0 false many6 alive9)) fun v_150 =>
      vc_leafmeshlaw09_TopoParts_j7 X ok3 v_150 K s)
     (vc_leafmeshlaw09_TopoParts_j7 X ok3 .undef K s))
def vc_leafmeshlaw09_TopoParts_l2 (X : Told) (t1 : AVal) (ok3 : AVal) (g4 : AVal) (many6 : AVal) (alive9 : AVal) (n10 : AVal) (I2 : List AVal → Heap → Nat → Prop) (m2 : Nat) (K : AVal → Heap → Prop) (s : Heap) : Prop :=
  optK (addOff 0 t1) fun v_46 =>
  optK (rd1 s v_46) fun v_47 =>
  optK (arithV .lss n10 v_47) fun v_48 =>
  boolK v_48
   (wpCall Try.prog X 26 [g4, n10] (fun v_49 s_50 =>
    boolK v_49
     (optK (arithV .add alive9 (.int .i64 1)) fun v_52 =>
      vc_leafmeshlaw09_TopoParts_j3 X v_52 n10 I2 m2 K s_50)
     (vc_leafmeshlaw09_TopoParts_j3 X alive9 n10 I2 m2 K s_50)) s)
   (∃ I4 : List AVal → Heap → Nat → Prop, (∃ m, I4 [(.int .i64 0)] s m) ∧ ∀ (f : Env) (s : Heap) (m4 : Nat), I4 [f 11] s m4 →
      vc_leafmeshlaw09_TopoParts_l4 X t1 ok3 g4 many6 alive9 (f 11) I4 m4 K s)
def vc_leafmeshlaw09_TopoParts_l0 (X : Told) (t1 : AVal) (ok3 : AVal) (g4 : AVal) (all5 : AVal) (many6 : AVal) (i7 : AVal) (I0 : List AVal → Heap → Nat → Prop) (m0 : Nat) (K : AVal → Heap → Prop) (s : Heap) : Prop :=
  optK (lenOfA all5) fun v_10 =>
  optK (arithV .lss i7 (.int .i64 v_10)) fun v_12 =>
  boolK v_12
   (optK (iaddrS 1 all5 i7) fun v_13 =>
    optK (rd1 s v_13) fun v_14 =>
    optK (lenOfA v_14) fun v_15 =>
    optK (arithV .add many6 (.int .i64 v_15)) fun v_17 =>
    ∃ I1 : List AVal → Heap → Nat → Prop, (∃ m, I1 [(.int .i64 0)] s m) ∧ ∀ (f : Env) (s : Heap) (m1 : Nat), I1 [f 8] s m1 →
      vc_leafmeshlaw09_TopoParts_l1 X g4 all5 v_17 i7 (f 8) I1 m1 I0 m0 K s)
   (∃ I2 : List AVal → Heap → Nat → Prop, (∃ m, I2 [(.int .i64 0), (.int .i64 0)] s m) ∧ ∀ (f : Env) (s : Heap) (m2 : Nat), I2 [f 9, f 10] s m2 →
      vc_leafmeshlaw09_TopoParts_l2 X t1 ok3 g4 many6 (f 9) (f 10) I2 m2 K s)
def vc_leafmeshlaw09_TopoParts (X : Told) (t0 : AVal) (K : AVal → Heap → Prop) (s : Heap) : Prop :=
  boxK 52 t0 (fun b_0 s_1 =>
  wpCall Try.prog X 4 [] (fun v_2 s_3 =>
  optK (rdN s_3 4 b_0) fun v_4 =>
  wpCall Try.prog X 28 [(.agg v_4)] (fun v_5 s_6 =>
  optK (negB false (eqV 3 true v_5 .nilptr)) fun v_7 =>
  boolK v_7
   (K v_2 s_6)
   (wpCall Try.prog X 29 [v_5] (fun v_8 s_9 =>
    ∃ I0 : List AVal → Heap → Nat → Prop, (∃ m, I0 [(.int .i64 0), (.int .i64 0)] s_9 m) ∧ ∀ (f : Env) (s : Heap) (m0 : Nat), I0 [f 6, f 7] s m0 →
      vc_leafmeshlaw09_TopoParts_l0 X b_0 v_2 v_5 v_8 (f 6) (f 7) I0 m0 K s) s_6)) s_3) s_1) s
def vc_leafmeshlaw09_TopoParts_ann : Nat → List Nat := fun k => cond (Nat.beq k 16) [6, 7] (cond (Nat.beq k 24) [8] (cond (Nat.beq k 36) [9, 10] (cond (Nat.beq k 46) [11] ([]))))
theorem vc_leafmeshlaw09_TopoParts_eq (X : Told) (t0 : AVal) (K : AVal → Heap → Prop) (s : Heap) : wpC Try.prog X vc_leafmeshlaw09_TopoParts_ann Try.f5.ntmps none (bodyOf Try.f5) (envOf [t0]) (fun e env s => retK e (resK Try.prog Try.f5.results.toList env (fun vs => K (oneV vs) s) s)) s = vc_leafmeshlaw09_TopoParts X t0 K s := by kernel_rfl
theorem vc_leafmeshlaw09_TopoParts_ok {X : Told} (hX : FrX X) (hn : X 5 = none) {t0 : AVal} {K : AVal → Heap → Prop} {s : Heap} (h : vc_leafmeshlaw09_TopoParts X t0 K s) : wpCall Try.prog X 5 [t0] K s :=
  wpCall_code hX vc_leafmeshlaw09_TopoParts_ann hn Try.func5 (by kernel_rfl : Try.f5.body = some (bodyOf Try.f5)) (by kernel_rfl) ((vc_leafmeshlaw09_TopoParts_eq X t0 K s).mpr h)
theorem vc_leafmeshlaw09_TopoParts_in {t0 : AVal} {K : AVal → Heap → Prop} {s : Heap} (h : vc_leafmeshlaw09_TopoParts XX t0 K s) : wpCall Try.prog XX 5 [t0] K s := vc_leafmeshlaw09_TopoParts_ok XX_fr rfl h
/-- leafmesh/leafmeshlaw09.TopoCuts (6) -/
def vc_leafmeshlaw09_TopoCuts_j4 (X : Told) (k14 : AVal) (t102 : AVal) (t111 : AVal) (I3 : List AVal → Heap → Nat → Prop) (m3 : Nat) (K : AVal → Heap → Prop) (s : Heap) : Prop :=
  optK (pickV t102 t111 (.bool false)) fun v_47 =>
  boolK v_47
   (K (.bool false) s)
   (optK (arithV .add k14 (.int .i64 1)) fun v_48 =>
    ∃ m', m' < m3 ∧ I3 [v_48] s m')
def vc_leafmeshlaw09_TopoCuts_j6 (X : Told) (t127 : AVal) (t131 : AVal) (K : AVal → Heap → Prop) (s : Heap) : Prop :=
  optK (pickV t127 t131 (.bool false)) fun v_61 =>
  K v_61 s
def vc_leafmeshlaw09_TopoCuts_j5 (X : Told) (g6 : AVal) (flags10 : AVal) (t122 : AVal) (t125 : AVal) (K : AVal → Heap → Prop) (s : Heap) : Prop :=
  optK (pickV t122 t125 (.bool false)) fun v_60 =>
  boolK v_60
   (wpCall Try.prog X 21 [g6] (fun v_62 s_63 =>
    wpCall Try.prog X 20 [v_62, flags10] (fun v_64 s_65 =>
    vc_leafmeshlaw09_TopoCuts_j6 X v_60 v_64 K s_65) s_63) s)
   (vc_leafmeshlaw09_TopoCuts_j6 X v_60 .undef K s)
def vc_leafmeshlaw09_TopoCuts_l3 (X : Told) (ok5 : AVal) (g6 : AVal) (i7 : AVal) (was9 : AVal) (flags10 : AVal) (cut13 : AVal) (k14 : AVal) (I3 : List AVal → Heap → Nat → Prop) (m3 : Nat) (K : AVal → Heap → Prop) (s : Heap) : Prop :=
  optK (lenOfA cut13) fun v_43 =>
  optK (arithV .lss k14 (.int .i64 v_43)) fun v_45 =>
  boolK v_45
   (optK (negB true (eqV 0 false k14 i7)) fun v_46 =>
    boolK v_46
     (optK (iaddrS 1 cut13 k14) fun v_49 =>
      optK (rd1 s v_49) fun v_50 =>
      optK (iaddrS 1 flags10 k14) fun v_51 =>
      optK (rd1 s v_51) fun v_52 =>
      optK (negB true (eqV 1 false v_50 v_52)) fun v_53 =>
      vc_leafmeshlaw09_TopoCuts_j4 X k14 v_46 v_53 I3 m3 K s)
     (vc_leafmeshlaw09_TopoCuts_j4 X k14 v_46 .undef I3 m3 K s))
   (wpCall Try.prog X 19 [g6, i7, (.bool true)] (fun v_54 s_55 =>
    wpCall Try.prog X 33 [g6] (fun v_56 s_57 =>
    optK (extractA v_56 0) fun v_58 =>
    optK (extractA v_56 1) fun v_59 =>
    boolK ok5
     (wpCall Try.prog X 17 [was9, v_59] (fun v_66 s_67 =>
      vc_leafmeshlaw09_TopoCuts_j5 X g6 flags10 ok5 v_66 K s_67) s_57)
     (vc_leafmeshlaw09_TopoCuts_j5 X g6 flags10 ok5 .undef K s_57)) s_55) s)
def vc_leafmeshlaw09_TopoCuts_j9 (X : Told) (k14 : AVal) (t102 : AVal) (t111 : AVal) (I8 : List AVal → Heap → Nat → Prop) (m8 : Nat) (K : AVal → Heap → Prop) (s : Heap) : Prop :=
  optK (pickV t102 t111 (.bool false)) fun v_78 =>
  boolK v_78
   (K (.bool false) s)
   (optK (arithV .add k14 (.int .i64 1)) fun v_79 =>
    ∃ m', m' < m8 ∧ I8 [v_79] s m')
def vc_leafmeshlaw09_TopoCuts_j11 (X : Told) (t127 : AVal) (t131 : AVal) (K : AVal → Heap → Prop) (s : Heap) : Prop :=
  optK (pickV t127 t131 (.bool false)) fun v_92 =>
  K v_92 s
def vc_leafmeshlaw09_TopoCuts_j10 (X : Told) (g6 : AVal) (flags10 : AVal) (t122 : AVal) (t125 : AVal) (K : AVal → Heap → Prop) (s : Heap) : Prop :=
  optK (pickV t122 t125 (.bool false)) fun v_91 =>
  boolK v_91
   (wpCall Try.prog X 21 [g6] (fun v_93 s_94 =>
    wpCall Try.prog X 20 [v_93, flags10] (fun v_95 s_96 =>
    vc_leafmeshlaw09_TopoCuts_j11 X v_91 v_95 K s_96) s_94) s)
   (vc_leafmeshlaw09_TopoCuts_j11 X v_91 .undef K s)
def vc_leafmeshlaw09_TopoCuts_l8 (X : Told) (ok5 : AVal) (g6 : AVal) (i7 : AVal) (was9 : AVal) (flags10 : AVal) (cut13 : AVal) (k14 : AVal) (I8 : List AVal → Heap → Nat → Prop) (m8 : Nat) (K : AVal → Heap → Prop) (s : Heap) : Prop :=
  optK (lenOfA cut13) fun v_74 =>
  optK (arithV .lss k14 (.int .i64 v_74)) fun v_76 =>
  boolK v_76
   (optK (negB true (eqV 0 false k14 i7)) fun v_77 =>
    boolK v_77
     (optK (iaddrS 1 cut13 k14) fun v_80 =>
      optK (rd1 s v_80) fun v_81 =>
      optK (iaddrS 1 flags10 k14) fun v_82 =>
      optK (rd1 s v_82) fun v_83 =>
      optK (negB true (eqV 1 false v_81 v_83)) fun v_84 =>
      vc_leafmeshlaw09_TopoCuts_j9 X k14 v_77 v_84 I8 m8 K s)
     (vc_leafmeshlaw09_TopoCuts_j9 X k14 v_77 .undef I8 m8 K s))
   (wpCall Try.prog X 19 [g6, i7, (.bool true)] (fun v_85 s_86 =>
    wpCall Try.prog X 33 [g6] (fun v_87 s_88 =>
    optK (extractA v_87 0) fun v_89 =>
    optK (extractA v_87 1) fun v_90 =>
    boolK ok5
     (wpCall Try.prog X 17 [was9, v_90] (fun v_97 s_98 =>
      vc_leafmeshlaw09_TopoCuts_j10 X g6 flags10 ok5 v_97 K s_98) s_88)
     (vc_leafmeshlaw09_TopoCuts_j10 X g6 flags10 ok5 .undef K s_88)) s_86) s)
def vc_leafmeshlaw09_TopoCuts_j7 (X : Told) (ok5 : AVal) (g6 : AVal) (i7 : AVal) (was9 : AVal) (flags10 : AVal) (cut13 : AVal) (t75 : AVal) (t79 : AVal) (t84 : AVal) (t89 : AVal) (K : AVal → Heap → Prop) (s : Heap) : Prop :=
  optK (pickV t84 (.bool true) t89) fun v_71 =>
  optK (pickV t79 v_71 (.bool false)) fun v_72 =>
  optK (pickV t75 (.bool true) v_72) fun v_73 =>
  boolK v_73
   (K (.bool false) s)
   (∃ I8 : List AVal → Heap → Nat → Prop, (∃ m, I8 [(.int .i64 0)] s m) ∧ ∀ (f : Env) (s : Heap) (m8 : Nat), I8 [f 14] s m8 →
      vc_leafmeshlaw09_TopoCuts_l8 X ok5 g6 i7 was9 flags10 cut13 (f 14) I8 m8 K s)
def vc_leafmeshlaw09_TopoCuts_j13 (X : Told) (k14 : AVal) (t102 : AVal) (t111 : AVal) (I12 : List AVal → Heap → Nat → Prop) (m12 : Nat) (K : AVal → Heap → Prop) (s : Heap) : Prop :=
  optK (pickV t102 t111 (.bool false)) fun v_108 =>
  boolK v_108
   (K (.bool false) s)
   (optK (arithV .add k14 (.int .i64 1)) fun v_109 =>
    ∃ m', m' < m12 ∧ I12 [v_109] s m')
def vc_leafmeshlaw09_TopoCuts_j15 (X : Told) (t127 : AVal) (t131 : AVal) (K : AVal → Heap → Prop) (s : Heap) : Prop :=
  optK (pickV t127 t131 (.bool false)) fun v_122 =>
  K v_122 s
def vc_leafmeshlaw09_TopoCuts_j14 (X : Told) (g6 : AVal) (flags10 : AVal) (t122 : AVal) (t125 : AVal) (K : AVal → Heap → Prop) (s : Heap) : Prop :=
  optK (pickV t122 t125 (.bool false)) fun v_121 =>
  boolK v_121
   (wpCall Try.prog X 21 [g6] (fun v_123 s_124 =>
    wpCall Try.prog X 20 [v_123, flags10] (fun v_125 s_126 =>
    vc_leafmeshlaw09_TopoCuts_j15 X v_121 v_125 K s_126) s_124) s)
   (vc_leafmeshlaw09_TopoCuts_j15 X v_121 .undef K s)
def vc_leafmeshlaw09_TopoCuts_l12 (X : Told) (ok5 : AVal) (g6 : AVal) (i7 : AVal) (was9 : AVal) (flags10 : AVal) (cut13 : AVal) (k14 : AVal) (I12 : List AVal → Heap → Nat → Prop) (m12 : Nat) (K : AVal → Heap → Prop) (s : Heap) : Prop :=
  optK (lenOfA cut13) fun v_104 =>
  optK (arithV .lss k14 (.int .i64 v_104)) fun v_106 =>
  boolK v_106
   (optK (negB true (eqV 0 false k14 i7)) fun v_107 =>
    boolK v_107
     (optK (iaddrS 1 cut13 k14) fun v_110 =>
      optK (rd1 s v_110) fun v_111 =>
      optK (iaddrS 1 flags10 k14) fun v_112 =>
      optK (rd1 s v_112) fun v_113 =>
      optK (negB true (eqV 1 false v_111 v_113)) fun v_114 =>
      vc_leafmeshlaw09_TopoCuts_j13 X k14 v_107 v_114 I12 m12 K s)
     (vc_leafmeshlaw09_TopoCuts_j13 X k14 v_107 .undef I12 m12 K s))
   (wpCall Try.prog X 19 [g6, i7, (.bool true)] (fun v_115 s_116 =>
    wpCall Try.prog X 33 [g6] (fun v_117 s_118 =>
    optK (extractA v_117 0) fun v_119 =>
    optK (extractA v_117 1) fun v_120 =>
    boolK ok5
     (wpCall Try.prog X 17 [was9, v_120] (fun v_127 s_128 =>
      vc_leafmeshlaw09_TopoCuts_j14 X g6 flags10 ok5 v_127 K s_128) s_118)
     (vc_leafmeshlaw09_TopoCuts_j14 X g6 flags10 ok5 .undef K s_118)) s_116) s)
def vc_leafmeshlaw09_TopoCuts_j2 (X : Told) (ok5 : AVal) (g6 : AVal) (i7 : AVal) (n8 : AVal) (was9 : AVal) (flags10 : AVal) (t11 : AVal) (cut13 : AVal) (t69 : AVal) (t73 : AVal) (K : AVal → Heap → Prop) (s : Heap) : Prop :=
  optK (pickV t69 (.bool true) t73) fun v_41 =>
  boolK v_41
   (optK (pickV v_41 (.bool true) .undef) fun v_42 =>
    boolK v_42
     (K (.bool false) s)
     (∃ I3 : List AVal → Heap → Nat → Prop, (∃ m, I3 [(.int .i64 0)] s m) ∧ ∀ (f : Env) (s : Heap) (m3 : Nat), I3 [f 14] s m3 →
        vc_leafmeshlaw09_TopoCuts_l3 X ok5 g6 i7 was9 flags10 cut13 (f 14) I3 m3 K s))
   (optK (negB true (eqV 0 false t11 n8)) fun v_68 =>
    boolK v_68
     (optK (arithV .add n8 (.int .i64 1)) fun v_69 =>
      optK (negB true (eqV 0 false t11 v_69)) fun v_70 =>
      boolK v_70
       (vc_leafmeshlaw09_TopoCuts_j7 X ok5 g6 i7 was9 flags10 cut13 v_41 v_68 v_70 .undef K s)
       (optK (iaddrS 1 flags10 i7) fun v_99 =>
        optK (rd1 s v_99) fun v_100 =>
        optK (unaryA .not v_100) fun v_101 =>
        vc_leafmeshlaw09_TopoCuts_j7 X ok5 g6 i7 was9 flags10 cut13 v_41 v_68 v_70 v_101 K s))
     (optK (pickV v_68 .undef (.bool false)) fun v_102 =>
      optK (pickV v_41 (.bool true) v_102) fun v_103 =>
      boolK v_103
       (K (.bool false) s)
       (∃ I12 : List AVal → Heap → Nat → Prop, (∃ m, I12 [(.int .i64 0)] s m) ∧ ∀ (f : Env) (s : Heap) (m12 : Nat), I12 [f 14] s m12 →
          vc_leafmeshlaw09_TopoCuts_l12 X ok5 g6 i7 was9 flags10 cut13 (f 14) I12 m12 K s)))
def vc_leafmeshlaw09_TopoCuts_j1 (X : Told) (ok5 : AVal) (g6 : AVal) (i7 : AVal) (n8 : AVal) (was9 : AVal) (flags10 : AVal) (t11 : AVal) (cut13 : AVal) (t62 : AVal) (t67 : AVal) (K : AVal → Heap → Prop) (s : Heap) : Prop :=
  optK (pickV t62 (.bool true) t67) fun v_40 =>
  boolK v_40
   (vc_leafmeshlaw09_TopoCuts_j2 X ok5 g6 i7 n8 was9 flags10 t11 cut13 v_40 .undef K s)
   (optK (iaddrS 1 cut13 i7) fun v_129 =>
    optK (rd1 s v_129) fun v_130 =>
    vc_leafmeshlaw09_TopoCuts_j2 X ok5 g6 i7 n8 was9 flags10 t11 cut13 v_40 v_130 K s)
def vc_leafmeshlaw09_TopoCuts_j0 (X : Told) (link1 : AVal) (t2 : AVal) (ok5 : AVal) (g6 : AVal) (t22 : AVal) (t26 : AVal) (K : AVal → Heap → Prop) (s : Heap) : Prop :=
  optK (pickV t22 (.bool true) t26) fun v_8 =>
  boolK v_8
   (K ok5 s)
   (optK (addOff 1 t2) fun v_9 =>
    optK (rd1 s v_9) fun v_10 =>
    optK (lenOfA v_10) fun v_11 =>
    wpCall Try.prog X 32 [link1, (.int .i64 v_11)] (fun v_13 s_14 =>
    optK (addOff 3 t2) fun v_15 =>
    optK (rd1 s_14 v_15) fun v_16 =>
    wpCall Try.prog X 30 [v_16, v_13] (fun v_17 s_18 =>
    boolK v_17
     (K ok5 s_18)
     (wpCall Try.prog X 33 [g6] (fun v_19 s_20 =>
      optK (extractA v_19 0) fun v_21 =>
      optK (extractA v_19 1) fun v_22 =>
      wpCall Try.prog X 21 [g6] (fun v_23 s_24 =>
      wpCall Try.prog X 19 [g6, v_13, (.bool false)] (fun v_25 s_26 =>
      wpCall Try.prog X 33 [g6] (fun v_27 s_28 =>
      optK (extractA v_27 0) fun v_29 =>
      optK (extractA v_27 1) fun v_30 =>
      wpCall Try.prog X 21 [g6] (fun v_31 s_32 =>
      optK (lenOfA v_23) fun v_33 =>
      optK (addOff 1 t2) fun v_35 =>
      optK (rd1 s_32 v_35) fun v_36 =>
      optK (lenOfA v_36) fun v_37 =>
      optK (negB true (eqV 0 false (.int .i64 v_33) (.int .i64 v_37))) fun v_39 =>
      boolK v_39
       (vc_leafmeshlaw09_TopoCuts_j1 X ok5 g6 v_13 v_21 v_22 v_23 v_29 v_31 v_39 .undef K s_32)
       (optK (lenOfA v_31) fun v_131 =>
        optK (lenOfA v_23) fun v_133 =>
        optK (negB true (eqV 0 false (.int .i64 v_131) (.int .i64 v_133))) fun v_135 =>
        vc_leafmeshlaw09_TopoCuts_j1 X ok5 g6 v_13 v_21 v_22 v_23 v_29 v_31 v_39 v_135 K s_32)) s_28) s_26) s_24) s_20) s_18)) s_14) s)
def vc_leafmeshlaw09_TopoCuts (X : Told) (t0 : AVal) (link1 : AVal) (K : AVal → Heap → Prop) (s : Heap) : Prop :=
  boxK 52 t0 (fun b_0 s_1 =>
  wpCall Try.prog X 4 [] (fun v_2 s_3 =>
  optK (rdN s_3 4 b_0) fun v_4 =>
  wpCall Try.prog X 28 [(.agg v_4)] (fun v_5 s_6 =>
  optK (negB false (eqV 3 true v_5 .nilptr)) fun v_7 =>
  boolK v_7
   (vc_leafmeshlaw09_TopoCuts_j0 X link1 b_0 v_2 v_5 v_7 .undef K s_6)
   (optK (addOff 1 b_0) fun v_136 =>
    optK (rd1 s_6 v_136) fun v_137 =>
    optK (lenOfA v_137) fun v_138 =>
    optK (negB false (eqV 0 true (.int .i64 v_138) (.int .i64 0))) fun v_140 =>
    vc_leafmeshlaw09_TopoCuts_j0 X link1 b_0 v_2 v_5 v_7 v_140 K s_6)) s_3) s_1) s
def vc_leafmeshlaw09_TopoCuts_ann : Nat → List Nat := fun k => cond (Nat.beq k 32) [14] (cond (Nat.beq k 32) [14] (cond (Nat.beq k 32) [14] ([])))
theorem vc_leafmeshlaw09_TopoCuts_eq (X : Told) (t0 : AVal) (link1 : AVal) (K : AVal → Heap → Prop) (s : Heap) : wpC Try.prog X vc_leafmeshlaw09_TopoCuts_ann Try.f6.ntmps none (bodyOf Try.f6) (envOf [t0, link1]) (fun e env s => retK e (resK Try.prog Try.f6.results.toList env (fun vs => K (oneV vs) s) s)) s = vc_leafmeshlaw09_TopoCuts X t0 link1 K s := by kernel_rfl
theorem vc_leafmeshlaw09_TopoCuts_ok {X : Told} (hX : FrX X) (hn : X 6 = none) {t0 : AVal} {link1 : AVal} {K : AVal → Heap → Prop} {s : Heap} (h : vc_leafmeshlaw09_TopoCuts X t0 link1 K s) : wpCall Try.prog X 6 [t0, link1] K s :=
  wpCall_code hX vc_leafmeshlaw09_TopoCuts_ann hn Try.func6 (by kernel_rfl : Try.f6.body = some (bodyOf Try.f6)) (by kernel_rfl) ((vc_leafmeshlaw09_TopoCuts_eq X t0 link1 K s).mpr h)
theorem vc_leafmeshlaw09_TopoCuts_in {t0 : AVal} {link1 : AVal} {K : AVal → Heap → Prop} {s : Heap} (h : vc_leafmeshlaw09_TopoCuts XX t0 link1 K s) : wpCall Try.prog XX 6 [t0, link1] K s := vc_leafmeshlaw09_TopoCuts_ok XX_fr rfl h
/-- leafmesh/leafmeshlaw09.TopoLast (7) -/
def vc_leafmeshlaw09_TopoLast_j3 (X : Told) (i8 : AVal) (I2 : List AVal → Heap → Nat → Prop) (m2 : Nat) (K : AVal → Heap → Prop) (s : Heap) : Prop :=
  optK (arithV .add i8 (.int .i64 1)) fun v_25 =>
  ∃ m', m' < m2 ∧ I2 [v_25] s m'
def vc_leafmeshlaw09_TopoLast_j7 (X : Told) (t120 : AVal) (t125 : AVal) (K : AVal → Heap → Prop) (s : Heap) : Prop :=
  optK (pickV t120 t125 (.bool false)) fun v_77 =>
  K v_77 s
def vc_leafmeshlaw09_TopoLast_j6 (X : Told) (g6 : AVal) (h7 : AVal) (t115 : AVal) (t118 : AVal) (K : AVal → Heap → Prop) (s : Heap) : Prop :=
  optK (pickV t115 t118 (.bool false)) fun v_76 =>
  boolK v_76
   (wpCall Try.prog X 21 [g6] (fun v_78 s_79 =>
    wpCall Try.prog X 21 [h7] (fun v_80 s_81 =>
    wpCall Try.prog X 20 [v_78, v_80] (fun v_82 s_83 =>
    vc_leafmeshlaw09_TopoLast_j7 X v_76 v_82 K s_83) s_81) s_79) s)
   (vc_leafmeshlaw09_TopoLast_j7 X v_76 .undef K s)
def vc_leafmeshlaw09_TopoLast_l5 (X : Told) (t2 : AVal) (ok5 : AVal) (g6 : AVal) (h7 : AVal) (n10 : AVal) (I5 : List AVal → Heap → Nat → Prop) (m5 : Nat) (K : AVal → Heap → Prop) (s : Heap) : Prop :=
  optK (arithV .geq n10 (.int .i64 0)) fun v_59 =>
  boolK v_59
   (optK (addOff 2 t2) fun v_60 =>
    optK (rd1 s v_60) fun v_61 =>
    wpCall Try.prog X 30 [v_61, n10] (fun v_62 s_63 =>
    optK (unaryA .not v_62) fun v_64 =>
    wpCall Try.prog X 22 [h7, n10, v_64] (fun v_65 s_66 =>
    optK (arithV .sub n10 (.int .i64 1)) fun v_67 =>
    ∃ m', m' < m5 ∧ I5 [v_67] s_66 m') s_63) s)
   (wpCall Try.prog X 33 [g6] (fun v_68 s_69 =>
    optK (extractA v_68 0) fun v_70 =>
    optK (extractA v_68 1) fun v_71 =>
    wpCall Try.prog X 33 [h7] (fun v_72 s_73 =>
    optK (extractA v_72 0) fun v_74 =>
    optK (extractA v_72 1) fun v_75 =>
    boolK ok5
     (wpCall Try.prog X 17 [v_71, v_75] (fun v_84 s_85 =>
      vc_leafmeshlaw09_TopoLast_j6 X g6 h7 ok5 v_84 K s_85) s_73)
     (vc_leafmeshlaw09_TopoLast_j6 X g6 h7 ok5 .undef K s_73)) s_69) s)
def vc_leafmeshlaw09_TopoLast_l4 (X : Told) (t2 : AVal) (ok5 : AVal) (g6 : AVal) (h7 : AVal) (i9 : AVal) (I4 : List AVal → Heap → Nat → Prop) (m4 : Nat) (K : AVal → Heap → Prop) (s : Heap) : Prop :=
  optK (arithV .geq i9 (.int .i64 0)) fun v_47 =>
  boolK v_47
   (optK (addOff 3 t2) fun v_48 =>
    optK (rd1 s v_48) fun v_49 =>
    wpCall Try.prog X 30 [v_49, i9] (fun v_50 s_51 =>
    optK (unaryA .not v_50) fun v_52 =>
    wpCall Try.prog X 19 [h7, i9, v_52] (fun v_53 s_54 =>
    optK (arithV .sub i9 (.int .i64 1)) fun v_55 =>
    ∃ m', m' < m4 ∧ I4 [v_55] s_54 m') s_51) s)
   (optK (addOff 0 t2) fun v_56 =>
    optK (rd1 s v_56) fun v_57 =>
    optK (arithV .sub v_57 (.int .i64 1)) fun v_58 =>
    ∃ I5 : List AVal → Heap → Nat → Prop, (∃ m, I5 [v_58] s m) ∧ ∀ (f : Env) (s : Heap) (m5 : Nat), I5 [f 10] s m5 →
      vc_leafmeshlaw09_TopoLast_l5 X t2 ok5 g6 h7 (f 10) I5 m5 K s)
def vc_leafmeshlaw09_TopoLast_l2 (X : Told) (l1 : AVal) (t2 : AVal) (ok5 : AVal) (g6 : AVal) (h7 : AVal) (i8 : AVal) (I2 : List AVal → Heap → Nat → Prop) (m2 : Nat) (K : AVal → Heap → Prop) (s : Heap) : Prop :=
  optK (lenOfA l1) fun v_17 =>
  optK (arithV .lss i8 (.int .i64 v_17)) fun v_19 =>
  boolK v_19
   (optK (iaddrS 3 l1 i8) fun v_20 =>
    optK (addOff 0 v_20) fun v_21 =>
    optK (rd1 s v_21) fun v_22 =>
    optK (arithV .rem v_22 (.int .i64 2)) fun v_23 =>
    optK (negB false (eqV 0 true v_23 (.int .i64 0))) fun v_24 =>
    boolK v_24
     (optK (iaddrS 3 l1 i8) fun v_26 =>
      optK (addOff 1 v_26) fun v_27 =>
      optK (rd1 s v_27) fun v_28 =>
      optK (iaddrS 3 l1 i8) fun v_29 =>
      optK (addOff 2 v_29) fun v_30 =>
      optK (rd1 s v_30) fun v_31 =>
      wpCall Try.prog X 19 [h7, v_28, v_31] (fun v_32 s_33 =>
      vc_leafmeshlaw09_TopoLast_j3 X i8 I2 m2 K s_33) s)
     (optK (iaddrS 3 l1 i8) fun v_34 =>
      optK (addOff 1 v_34) fun v_35 =>
      optK (rd1 s v_35) fun v_36 =>
      optK (iaddrS 3 l1 i8) fun v_37 =>
      optK (addOff 2 v_37) fun v_38 =>
      optK (rd1 s v_38) fun v_39 =>
      wpCall Try.prog X 22 [h7, v_36, v_39] (fun v_40 s_41 =>
      vc_leafmeshlaw09_TopoLast_j3 X i8 I2 m2 K s_41) s))
   (optK (addOff 1 t2) fun v_42 =>
    optK (rd1 s v_42) fun v_43 =>
    optK (lenOfA v_43) fun v_44 =>
    optK (arithV .sub (.int .i64 v_44) (.int .i64 1)) fun v_46 =>
    ∃ I4 : List AVal → Heap → Nat → Prop, (∃ m, I4 [v_46] s m) ∧ ∀ (f : Env) (s : Heap) (m4 : Nat), I4 [f 9] s m4 →
      vc_leafmeshlaw09_TopoLast_l4 X t2 ok5 g6 h7 (f 9) I4 m4 K s)
def vc_leafmeshlaw09_TopoLast_j1 (X : Told) (l1 : AVal) (t2 : AVal) (ok5 : AVal) (g6 : AVal) (h7 : AVal) (t30 : AVal) (t33 : AVal) (K : AVal → Heap → Prop) (s : Heap) : Prop :=
  optK (pickV t30 (.bool true) t33) fun v_16 =>
  boolK v_16
   (K ok5 s)
   (∃ I2 : List AVal → Heap → Nat → Prop, (∃ m, I2 [(.int .i64 0)] s m) ∧ ∀ (f : Env) (s : Heap) (m2 : Nat), I2 [f 8] s m2 →
      vc_leafmeshlaw09_TopoLast_l2 X l1 t2 ok5 g6 h7 (f 8) I2 m2 K s)
def vc_leafmeshlaw09_TopoLast_j0 (X : Told) (l1 : AVal) (t2 : AVal) (ok5 : AVal) (g6 : AVal) (h7 : AVal) (t26 : AVal) (t28 : AVal) (K : AVal → Heap → Prop) (s : Heap) : Prop :=
  optK (pickV t26 (.bool true) t28) fun v_15 =>
  boolK v_15
   (vc_leafmeshlaw09_TopoLast_j1 X l1 t2 ok5 g6 h7 v_15 .undef K s)
   (optK (lenOfA l1) fun v_86 =>
    optK (arithV .gtr (.int .i64 v_86) (.int .i64 60)) fun v_88 =>
    vc_leafmeshlaw09_TopoLast_j1 X l1 t2 ok5 g6 h7 v_15 v_88 K s)
def vc_leafmeshlaw09_TopoLast (X : Told) (t0 : AVal) (l1 : AVal) (K : AVal → Heap → Prop) (s : Heap) : Prop :=
  boxK 52 t0 (fun b_0 s_1 =>
  wpCall Try.prog X 4 [] (fun v_2 s_3 =>
  optK (rdN s_3 4 b_0) fun v_4 =>
  wpCall Try.prog X 28 [(.agg v_4)] (fun v_5 s_6 =>
  (∀ b, s_3 b ≠ none → s_3 b = none → s_6 b = none) →
  optK (addOff 0 b_0) fun v_7 =>
  optK (rd1 (cutH [(s_3, (add s_3 s_6))] (add s_3 s_6)) v_7) fun v_8 =>
  optK (addOff 1 b_0) fun v_9 =>
  optK (rd1 (cutH [(s_3, (add s_3 s_6))] (add s_3 s_6)) v_9) fun v_10 =>
  optK (fillR [(.int .i64 0), .nilslc, .nilslc, .nilslc] [(0, 1, v_8), (1, 1, v_10)]) fun c_11 =>
  wpCall Try.prog X 28 [(.agg c_11)] (fun v_12 s_13 =>
  optK (negB false (eqV 3 true v_5 .nilptr)) fun v_14 =>
  boolK v_14
   (vc_leafmeshlaw09_TopoLast_j0 X l1 b_0 v_2 v_5 v_12 v_14 .undef K s_13)
   (optK (negB false (eqV 3 true v_12 .nilptr)) fun v_89 =>
    vc_leafmeshlaw09_TopoLast_j0 X l1 b_0 v_2 v_5 v_12 v_14 v_89 K s_13)) (add s_3 s_6)) (frz s_3)) s_1) s
def vc_leafmeshlaw09_TopoLast_ann : Nat → List Nat := fun k => cond (Nat.beq k 12) [8] (cond (Nat.beq k 24) [9] (cond (Nat.beq k 32) [10] ([])))
theorem vc_leafmeshlaw09_TopoLast_eq (X : Told) (t0 : AVal) (l1 : AVal) (K : AVal → Heap → Prop) (s : Heap) : wpC Try.prog X vc_leafmeshlaw09_TopoLast_ann Try.f7.ntmps none (bodyOf Try.f7) (envOf [t0, l1]) (fun e env s => retK e (resK Try.prog Try.f7.results.toList env (fun vs => K (oneV vs) s) s)) s = vc_leafmeshlaw09_TopoLast X t0 l1 K s := by kernel_rfl
theorem vc_leafmeshlaw09_TopoLast_ok {X : Told} (hX : FrX X) (hn : X 7 = none) {t0 : AVal} {l1 : AVal} {K : AVal → Heap → Prop} {s : Heap} (h : vc_leafmeshlaw09_TopoLast X t0 l1 K s) : wpCall Try.prog X 7 [t0, l1] K s :=
  wpCall_code hX vc_leafmeshlaw09_TopoLast_ann hn Try.func7 (by kernel_rfl : Try.f7.body = some (bodyOf Try.f7)) (by kernel_rfl) ((vc_leafmeshlaw09_TopoLast_eq X t0 l1 K s).mpr h)
theorem vc_leafmeshlaw09_TopoLast_in {t0 : AVal} {l1 : AVal} {K : AVal → Heap → Prop} {s : Heap} (h : vc_leafmeshlaw09_TopoLast XX t0 l1 K s) : wpCall Try.prog XX 7 [t0, l1] K s := vc_leafmeshlaw09_TopoLast_ok XX_fr rfl h
/-- leafmesh/leafmeshlaw09.TopoScript (8) -/
def vc_leafmeshlaw09_TopoScript_j6 (X : Told) (g7 : AVal) (w9 : AVal) (i11 : AVal) (t133 : AVal) (t137 : AVal) (I2 : List AVal → Heap → Nat → Prop) (m2 : Nat) (K : AVal → Heap → Prop) (s : Heap) : Prop :=
  optK (pickV t133 (.bool true) t137) fun v_25 =>
  boolK v_25
   (K (.bool false) s)
   (optK (arithV .add i11 (.int .i64 1)) fun v_26 =>
    ∃ m', m' < m2 ∧ I2 [g7, w9, v_26] s m')
def vc_leafmeshlaw09_TopoScript_j5 (X : Told) (g7 : AVal) (w9 : AVal) (i11 : AVal) (a12 : AVal) (b13 : AVal) (I2 : List AVal → Heap → Nat → Prop) (m2 : Nat) (K : AVal → Heap → Prop) (s : Heap) : Prop :=
  optK (negB true (eqV 0 false a12 b13)) fun v_24 =>
  boolK v_24
   (vc_leafmeshlaw09_TopoScript_j6 X g7 w9 i11 v_24 .undef I2 m2 K s)
   (wpCall Try.prog X 15 [g7, w9] (fun v_27 s_28 =>
    optK (unaryA .not v_27) fun v_29 =>
    vc_leafmeshlaw09_TopoScript_j6 X g7 w9 i11 v_24 v_29 I2 m2 K s_28) s)
def vc_leafmeshlaw09_TopoScript_j4 (X : Told) (l2 : AVal) (g7 : AVal) (w9 : AVal) (i11 : AVal) (a12 : AVal) (b13 : AVal) (t61 : AVal) (t77 : AVal) (I2 : List AVal → Heap → Nat → Prop) (m2 : Nat) (K : AVal → Heap → Prop) (s : Heap) : Prop :=
  boolK t77
   (optK (iaddrS 3 l2 i11) fun v_30 =>
    optK (addOff 1 v_30) fun v_31 =>
    optK (rd1 s v_31) fun v_32 =>
    optK (iaddrS 3 l2 i11) fun v_33 =>
    optK (addOff 2 v_33) fun v_34 =>
    optK (rd1 s v_34) fun v_35 =>
    wpCall Try.prog X 19 [g7, v_32, v_35] (fun v_36 s_37 =>
    (∀ b, s b ≠ none → s b = none → s_37 b = none) →
    optK (iaddrS 3 l2 i11) fun v_38 =>
    optK (addOff 1 v_38) fun v_39 =>
    optK (rd1 (cutH [(s, (add s s_37))] (add s s_37)) v_39) fun v_40 =>
    optK (iaddrS 3 l2 i11) fun v_41 =>
    optK (addOff 2 v_41) fun v_42 =>
    optK (rd1 (cutH [(s, (add s s_37))] (add s s_37)) v_42) fun v_43 =>
    wpCall Try.prog X 34 [w9, v_40, v_43] (fun v_44 s_45 =>
    vc_leafmeshlaw09_TopoScript_j5 X g7 w9 i11 v_36 v_44 I2 m2 K s_45) (add s s_37)) (frz s))
   (optK (negB false (eqV 0 true t61 (.int .i64 2))) fun v_46 =>
    boolK v_46
     (optK (iaddrS 3 l2 i11) fun v_47 =>
      optK (addOff 1 v_47) fun v_48 =>
      optK (rd1 s v_48) fun v_49 =>
      optK (iaddrS 3 l2 i11) fun v_50 =>
      optK (addOff 2 v_50) fun v_51 =>
      optK (rd1 s v_51) fun v_52 =>
      wpCall Try.prog X 22 [g7, v_49, v_52] (fun v_53 s_54 =>
      (∀ b, s b ≠ none → s b = none → s_54 b = none) →
      optK (iaddrS 3 l2 i11) fun v_55 =>
      optK (addOff 1 v_55) fun v_56 =>
      optK (rd1 (cutH [(s, (add s s_54))] (add s s_54)) v_56) fun v_57 =>
      optK (iaddrS 3 l2 i11) fun v_58 =>
      optK (addOff 2 v_58) fun v_59 =>
      optK (rd1 (cutH [(s, (add s s_54))] (add s s_54)) v_59) fun v_60 =>
      wpCall Try.prog X 35 [w9, v_57, v_60] (fun v_61 s_62 =>
      vc_leafmeshlaw09_TopoScript_j5 X g7 w9 i11 v_53 v_61 I2 m2 K s_62) (add s s_54)) (frz s))
     (wpCall Try.prog X 36 [g7] (fun v_63 s_64 =>
      wpCall Try.prog X 37 [w9] (fun v_65 s_66 =>
      wpCall Try.prog X 26 [g7, (.int .i64 0)] (fun v_67 s_68 =>
      optK (unaryA .not v_67) fun v_69 =>
      wpCall Try.prog X 22 [g7, (.int .i64 0), v_69] (fun v_70 s_71 =>
      wpCall Try.prog X 25 [g7, (.int .i64 0)] (fun v_72 s_73 =>
      optK (unaryA .not v_72) fun v_74 =>
      wpCall Try.prog X 19 [g7, (.int .i64 0), v_74] (fun v_75 s_76 =>
      vc_leafmeshlaw09_TopoScript_j5 X v_63 v_65 i11 a12 b13 I2 m2 K s_76) s_73) s_71) s_68) s_66) s_64) s))
def vc_leafmeshlaw09_TopoScript_j3 (X : Told) (l2 : AVal) (g7 : AVal) (w9 : AVal) (i11 : AVal) (t48 : AVal) (t52 : AVal) (I2 : List AVal → Heap → Nat → Prop) (m2 : Nat) (K : AVal → Heap → Prop) (s : Heap) : Prop :=
  optK (pickV t48 t52 (.bool false)) fun v_17 =>
  boolK v_17
   (optK (iaddrS 3 l2 i11) fun v_18 =>
    optK (addOff 0 v_18) fun v_19 =>
    optK (rd1 s v_19) fun v_20 =>
    wpCall Try.prog X 32 [v_20, (.int .i64 4)] (fun v_21 s_22 =>
    optK (negB false (eqV 0 true v_21 (.int .i64 0))) fun v_23 =>
    boolK v_23
     (vc_leafmeshlaw09_TopoScript_j4 X l2 g7 w9 i11 (.int .i64 0) (.int .i64 0) v_21 v_23 I2 m2 K s_22)
     (optK (negB false (eqV 0 true v_21 (.int .i64 1))) fun v_77 =>
      vc_leafmeshlaw09_TopoScript_j4 X l2 g7 w9 i11 (.int .i64 0) (.int .i64 0) v_21 v_77 I2 m2 K s_22)) s)
   (wpCall Try.prog X 10 [] (fun v_78 s_79 =>
    K v_78 s_79) s)
def vc_leafmeshlaw09_TopoScript_l2 (X : Told) (l2 : AVal) (g7 : AVal) (w9 : AVal) (i11 : AVal) (I2 : List AVal → Heap → Nat → Prop) (m2 : Nat) (K : AVal → Heap → Prop) (s : Heap) : Prop :=
  optK (negB true (eqV 3 true w9 .nilptr)) fun v_16 =>
  boolK v_16
   (optK (lenOfA l2) fun v_80 =>
    optK (arithV .lss i11 (.int .i64 v_80)) fun v_82 =>
    vc_leafmeshlaw09_TopoScript_j3 X l2 g7 w9 i11 v_16 v_82 I2 m2 K s)
   (vc_leafmeshlaw09_TopoScript_j3 X l2 g7 w9 i11 v_16 .undef I2 m2 K s)
def vc_leafmeshlaw09_TopoScript_j1 (X : Told) (l2 : AVal) (g7 : AVal) (w9 : AVal) (t39 : AVal) (t44 : AVal) (K : AVal → Heap → Prop) (s : Heap) : Prop :=
  optK (pickV t39 (.bool true) t44) fun v_15 =>
  boolK v_15
   (K (.bool false) s)
   (∃ I2 : List AVal → Heap → Nat → Prop, (∃ m, I2 [g7, w9, (.int .i64 0)] s m) ∧ ∀ (f : Env) (s : Heap) (m2 : Nat), I2 [f 7, f 9, f 11] s m2 →
      vc_leafmeshlaw09_TopoScript_l2 X l2 (f 7) (f 9) (f 11) I2 m2 K s)
def vc_leafmeshlaw09_TopoScript_j0 (X : Told) (nodes0 : AVal) (links1 : AVal) (l2 : AVal) (t18 : AVal) (t21 : AVal) (K : AVal → Heap → Prop) (s : Heap) : Prop :=
  optK (pickV t18 (.bool true) t21) fun v_3 =>
  boolK v_3
   (wpCall Try.prog X 10 [] (fun v_4 s_5 =>
    K v_4 s_5) s)
   (wpCall Try.prog X 12 [nodes0, links1] (fun v_6 s_7 =>
    optK (extractA v_6 0) fun v_8 =>
    optK (extractA v_6 1) fun v_9 =>
    wpCall Try.prog X 13 [nodes0, links1] (fun v_10 s_11 =>
    optK (extractA v_10 0) fun v_12 =>
    optK (extractA v_10 1) fun v_13 =>
    optK (negB true (eqV 0 false v_9 v_13)) fun v_14 =>
    boolK v_14
     (vc_leafmeshlaw09_TopoScript_j1 X l2 v_8 v_12 v_14 .undef K s_11)
     (optK (negB false (eqV 3 true v_8 .nilptr)) fun v_83 =>
      optK (negB false (eqV 3 true v_12 .nilptr)) fun v_84 =>
      optK (negB true (eqV 1 false v_83 v_84)) fun v_85 =>
      vc_leafmeshlaw09_TopoScript_j1 X l2 v_8 v_12 v_14 v_85 K s_11)) s_7) s)
def vc_leafmeshlaw09_TopoScript (X : Told) (nodes0 : AVal) (links1 : AVal) (l2 : AVal) (K : AVal → Heap → Prop) (s : Heap) : Prop :=
  optK (lenOfA links1) fun v_0 =>
  optK (arithV .gtr (.int .i64 v_0) (.int .i64 60)) fun v_2 =>
  boolK v_2
   (vc_leafmeshlaw09_TopoScript_j0 X nodes0 links1 l2 v_2 .undef K s)
   (optK (lenOfA l2) fun v_86 =>
    optK (arithV .gtr (.int .i64 v_86) (.int .i64 60)) fun v_88 =>
    vc_leafmeshlaw09_TopoScript_j0 X nodes0 links1 l2 v_2 v_88 K s)
def vc_leafmeshlaw09_TopoScript_ann : Nat → List Nat := fun k => cond (Nat.beq k 16) [7, 9, 11] ([])
theorem vc_leafmeshlaw09_TopoScript_eq (X : Told) (nodes0 : AVal) (links1 : AVal) (l2 : AVal) (K : AVal → Heap → Prop) (s : Heap) : wpC Try.prog X vc_leafmeshlaw09_TopoScript_ann Try.f8.ntmps none (bodyOf Try.f8) (envOf [nodes0, links1, l2]) (fun e env s => retK e (resK Try.prog Try.f8.results.toList env (fun vs => K (oneV vs) s) s)) s = vc_leafmeshlaw09_TopoScript X nodes0 links1 l2 K s := by kernel_rfl
theorem vc_leafmeshlaw09_TopoScript_ok {X : Told} (hX : FrX X) (hn : X 8 = none) {nodes0 : AVal} {links1 : AVal} {l2 : AVal} {K : AVal → Heap → Prop} {s : Heap} (h : vc_leafmeshlaw09_TopoScript X nodes0 links1 l2 K s) : wpCall Try.prog X 8 [nodes0, links1, l2] K s :=
  wpCall_code hX vc_leafmeshlaw09_TopoScript_ann hn Try.func8 (by kernel_rfl : Try.f8.body = some (bodyOf Try.f8)) (by kernel_rfl) ((vc_leafmeshlaw09_TopoScript_eq X nodes0 links1 l2 K s).mpr h)
theorem vc_leafmeshlaw09_TopoScript_in {nodes0 : AVal} {links1 : AVal} {l2 : AVal} {K : AVal → Heap → Prop} {s : Heap} (h : vc_leafmeshlaw09_TopoScript XX nodes0 links1 l2 K s) : wpCall Try.prog XX 8 [nodes0, links1, l2] K s := vc_leafmeshlaw09_TopoScript_ok XX_fr rfl h
/-- leafmesh/leafmeshkit.Own[leafmesh/api.Link] (11) -/
def vc_leafmeshkit_Own_api_Link_ (X : Told) (l0 : AVal) (K : AVal → Heap → Prop) (s : Heap) : Prop :=
  optK (fillR (repl 0 [(.int .i64 0), (.int .i64 0), (.int .i64 0)]) []) fun c_0 => allOne c_0 = true ∧ newK 26 c_0 (fun b_1 s_2 =>
  appK 26 3 (.slc b_1 0 0 (some 0) 3) l0 (fun v_3 s_4 =>
  K v_3 s_4) s_2) s
def vc_leafmeshkit_Own_api_Link__ann : Nat → List Nat := fun _ => []
theorem vc_leafmeshkit_Own_api_Link__eq (X : Told) (l0 : AVal) (K : AVal → Heap → Prop) (s : Heap) : wpC Try.prog X vc_leafmeshkit_Own_api_Link__ann Try.f11.ntmps none (bodyOf Try.f11) (envOf [l0]) (fun e env s => retK e (resK Try.prog Try.f11.results.toList env (fun vs => K (oneV vs) s) s)) s = vc_leafmeshkit_Own_api_Link_ X l0 K s := by kernel_rfl
theorem vc_leafmeshkit_Own_api_Link__ok {X : Told} (hX : FrX X) (hn : X 11 = none) {l0 : AVal} {K : AVal → Heap → Prop} {s : Heap} (h : vc_leafmeshkit_Own_api_Link_ X l0 K s) : wpCall Try.prog X 11 [l0] K s :=
  wpCall_code hX vc_leafmeshkit_Own_api_Link__ann hn Try.func11 (by kernel_rfl : Try.f11.body = some (bodyOf Try.f11)) (by kernel_rfl) ((vc_leafmeshkit_Own_api_Link__eq X l0 K s).mpr h)
theorem vc_leafmeshkit_Own_api_Link__in {l0 : AVal} {K : AVal → Heap → Prop} {s : Heap} (h : vc_leafmeshkit_Own_api_Link_ XX l0 K s) : wpCall Try.prog XX 11 [l0] K s := vc_leafmeshkit_Own_api_Link__ok XX_fr rfl h
/-- leafmesh/topo.New (12) -/
def vc_topo_New_l1 (X : Told) (g7 : AVal) (t33 : AVal) (t34 : AVal) (I1 : List AVal → Heap → Nat → Prop) (m1 : Nat) (K : AVal → Heap → Prop) (s : Heap) : Prop :=
  optK (arithV .lss t34 t33) fun v_18 =>
  boolK v_18
   (optK (nilCheckA g7) fun v_19 =>
    optK (addOff 2 v_19) fun v_20 =>
    wpCall Try.prog X 44 [v_20, t34, (.bool true)] (fun v_21 s_22 =>
    optK (arithV .add t34 (.int .i64 1)) fun v_23 =>
    ∃ m', m' < m1 ∧ I1 [v_23] s_22 m') s)
   (K (.tup [g7, (.int .i64 0)]) s)
def vc_topo_New_l0 (X : Told) (links1 : AVal) (g7 : AVal) (t22 : AVal) (t23 : AVal) (I0 : List AVal → Heap → Nat → Prop) (m0 : Nat) (K : AVal → Heap → Prop) (s : Heap) : Prop :=
  optK (arithV .lss t23 t22) fun v_10 =>
  boolK v_10
   (optK (nilCheckA g7) fun v_11 =>
    optK (addOff 4 v_11) fun v_12 =>
    wpCall Try.prog X 44 [v_12, t23, (.bool true)] (fun v_13 s_14 =>
    optK (arithV .add t23 (.int .i64 1)) fun v_15 =>
    ∃ m', m' < m0 ∧ I0 [v_15] s_14 m') s)
   (optK (lenOfA links1) fun v_16 =>
    ∃ I1 : List AVal → Heap → Nat → Prop, (∃ m, I1 [(.int .i64 0)] s m) ∧ ∀ (f : Env) (s : Heap) (m1 : Nat), I1 [f 34] s m1 →
      vc_topo_New_l1 X g7 (.int .i64 v_16) (f 34) I1 m1 K s)
def vc_topo_New (X : Told) (nodes0 : AVal) (links1 : AVal) (K : AVal → Heap → Prop) (s : Heap) : Prop :=
  wpCall Try.prog X 42 [nodes0, links1] (fun v_0 s_1 =>
  wpCall Try.prog X 41 [v_0] (fun v_2 s_3 =>
  optK (negB true (eqV 0 true v_2 (.int .i64 0))) fun v_4 =>
  boolK v_4
   (K (.tup [.nilptr, v_2]) s_3)
   (wpCall Try.prog X 43 [links1] (fun v_5 s_6 =>
    optK (fillR [(.int .i64 0), .nilslc, (.int .u64 0), (.int .u64 0), (.int .u64 0), (.int .u64 0)] [(0, 1, nodes0), (1, 1, v_5)]) fun c_7 =>
    boxK 76 (.agg c_7) (fun b_8 s_9 =>
    ∃ I0 : List AVal → Heap → Nat → Prop, (∃ m, I0 [(.int .i64 0)] s_9 m) ∧ ∀ (f : Env) (s : Heap) (m0 : Nat), I0 [f 23] s m0 →
      vc_topo_New_l0 X links1 b_8 nodes0 (f 23) I0 m0 K s) s_6) s_3)) s_1) s
def vc_topo_New_ann : Nat → List Nat := fun k => cond (Nat.beq k 12) [23] (cond (Nat.beq k 22) [34] ([]))
theorem vc_topo_New_eq (X : Told) (nodes0 : AVal) (links1 : AVal) (K : AVal → Heap → Prop) (s : Heap) : wpC Try.prog X vc_topo_New_ann Try.f12.ntmps none (bodyOf Try.f12) (envOf [nodes0, links1]) (fun e env s => retK e (resK Try.prog Try.f12.results.toList env (fun vs => K (oneV vs) s) s)) s = vc_topo_New X nodes0 links1 K s := by kernel_rfl
theorem vc_topo_New_ok {X : Told} (hX : FrX X) (hn : X 12 = none) {nodes0 : AVal} {links1 : AVal} {K : AVal → Heap → Prop} {s : Heap} (h : vc_topo_New X nodes0 links1 K s) : wpCall Try.prog X 12 [nodes0, links1] K s :=
  wpCall_code hX vc_topo_New_ann hn Try.func12 (by kernel_rfl : Try.f12.body = some (bodyOf Try.f12)) (by kernel_rfl) ((vc_topo_New_eq X nodes0 links1 K s).mpr h)
theorem vc_topo_New_in {nodes0 : AVal} {links1 : AVal} {K : AVal → Heap → Prop} {s : Heap} (h : vc_topo_New XX nodes0 links1 K s) : wpCall Try.prog XX 12 [nodes0, links1] K s := vc_topo_New_ok XX_fr rfl h
/-- leafmesh/leafmeshref09.New (13) -/
def vc_leafmeshref09_New_l1 (X : Told) (links1 : AVal) (g7 : AVal) (i9 : AVal) (I1 : List AVal → Heap → Nat → Prop) (m1 : Nat) (K : AVal → Heap → Prop) (s : Heap) : Prop :=
  optK (lenOfA links1) fun v_24 =>
  optK (arithV .lss i9 (.int .i64 v_24)) fun v_26 =>
  boolK v_26
   (optK (nilCheckA g7) fun v_27 =>
    optK (addOff 3 v_27) fun v_28 =>
    optK (rd1 s v_28) fun v_29 =>
    optK (fillR (repl 1 [(.bool false)]) [(0, 1, (.bool true))]) fun c_30 => allOne c_30 = true ∧ newK 4 c_30 (fun b_31 s_32 =>
    appK 4 1 v_29 (.slc b_31 0 1 (some 1) 1) (fun v_33 s_34 =>
    optK (nilCheckA g7) fun v_35 =>
    optK (addOff 3 v_35) fun v_36 =>
    optK (wr1 s_34 v_36 v_33) fun s_37 =>
    optK (arithV .add i9 (.int .i64 1)) fun v_38 =>
    ∃ m', m' < m1 ∧ I1 [v_38] s_37 m') s_32) s)
   (K (.tup [g7, (.int .i64 0)]) s)
def vc_leafmeshref09_New_l0 (X : Told) (nodes0 : AVal) (links1 : AVal) (g7 : AVal) (i8 : AVal) (I0 : List AVal → Heap → Nat → Prop) (m0 : Nat) (K : AVal → Heap → Prop) (s : Heap) : Prop :=
  optK (arithV .lss i8 nodes0) fun v_11 =>
  boolK v_11
   (optK (nilCheckA g7) fun v_12 =>
    optK (addOff 2 v_12) fun v_13 =>
    optK (rd1 s v_13) fun v_14 =>
    optK (fillR (repl 1 [(.bool false)]) [(0, 1, (.bool true))]) fun c_15 => allOne c_15 = true ∧ newK 4 c_15 (fun b_16 s_17 =>
    appK 4 1 v_14 (.slc b_16 0 1 (some 1) 1) (fun v_18 s_19 =>
    optK (nilCheckA g7) fun v_20 =>
    optK (addOff 2 v_20) fun v_21 =>
    optK (wr1 s_19 v_21 v_18) fun s_22 =>
    optK (arithV .add i8 (.int .i64 1)) fun v_23 =>
    ∃ m', m' < m0 ∧ I0 [v_23] s_22 m') s_17) s)
   (∃ I1 : List AVal → Heap → Nat → Prop, (∃ m, I1 [(.int .i64 0)] s m) ∧ ∀ (f : Env) (s : Heap) (m1 : Nat), I1 [f 9] s m1 →
      vc_leafmeshref09_New_l1 X links1 g7 (f 9) I1 m1 K s)
def vc_leafmeshref09_New (X : Told) (nodes0 : AVal) (links1 : AVal) (K : AVal → Heap → Prop) (s : Heap) : Prop :=
  wpCall Try.prog X 45 [nodes0, links1] (fun v_0 s_1 =>
  optK (negB true (eqV 0 true v_0 (.int .i64 0))) fun v_2 =>
  boolK v_2
   (K (.tup [.nilptr, v_0]) s_1)
   (optK (fillR (repl 0 [(.int .i64 0), (.int .i64 0), (.int .i64 0)]) []) fun c_3 => allOne c_3 = true ∧ newK 26 c_3 (fun b_4 s_5 =>
    appK 26 3 (.slc b_4 0 0 (some 0) 3) links1 (fun v_6 s_7 =>
    optK (fillR [(.int .i64 0), .nilslc, .nilslc, .nilslc] [(0, 1, nodes0), (1, 1, v_6)]) fun c_8 =>
    boxK 87 (.agg c_8) (fun b_9 s_10 =>
    ∃ I0 : List AVal → Heap → Nat → Prop, (∃ m, I0 [(.int .i64 0)] s_10 m) ∧ ∀ (f : Env) (s : Heap) (m0 : Nat), I0 [f 8] s m0 →
      vc_leafmeshref09_New_l0 X nodes0 links1 b_9 (f 8) I0 m0 K s) s_7) s_5) s_1)) s
def vc_leafmeshref09_New_ann : Nat → List Nat := fun k => cond (Nat.beq k 12) [8] (cond (Nat.beq k 20) [9] ([]))
theorem vc_leafmeshref09_New_eq (X : Told) (nodes0 : AVal) (links1 : AVal) (K : AVal → Heap → Prop) (s : Heap) : wpC Try.prog X vc_leafmeshref09_New_ann Try.f13.ntmps none (bodyOf Try.f13) (envOf [nodes0, links1]) (fun e env s => retK e (resK Try.prog Try.f13.results.toList env (fun vs => K (oneV vs) s) s)) s = vc_leafmeshref09_New X nodes0 links1 K s := by kernel_rfl
theorem vc_leafmeshref09_New_ok {X : Told} (hX : FrX X) (hn : X 13 = none) {nodes0 : AVal} {links1 : AVal} {K : AVal → Heap → Prop} {s : Heap} (h : vc_leafmeshref09_New X nodes0 links1 K s) : wpCall Try.prog X 13 [nodes0, links1] K s :=
  wpCall_code hX vc_leafmeshref09_New_ann hn Try.func13 (by kernel_rfl : Try.f13.body = some (bodyOf Try.f13)) (by kernel_rfl) ((vc_leafmeshref09_New_eq X nodes0 links1 K s).mpr h)
theorem vc_leafmeshref09_New_in {nodes0 : AVal} {links1 : AVal} {K : AVal → Heap → Prop} {s : Heap} (h : vc_leafmeshref09_New XX nodes0 links1 K s) : wpCall Try.prog XX 13 [nodes0, links1] K s := vc_leafmeshref09_New_ok XX_fr rfl h
/-- leafmesh/leafmeshkit.Same[leafmesh/api.Link] (14) -/
def vc_leafmeshkit_Same_api_Link__l0 (X : Told) (a0 : AVal) (b1 : AVal) (i5 : AVal) (I0 : List AVal → Heap → Nat → Prop) (m0 : Nat) (K : AVal → Heap → Prop) (s : Heap) : Prop :=
  optK (lenOfA a0) fun v_5 =>
  optK (arithV .lss i5 (.int .i64 v_5)) fun v_7 =>
  boolK v_7
   (optK (iaddrS 3 a0 i5) fun v_8 =>
    optK (rdN s 3 v_8) fun v_9 =>
    optK (iaddrS 3 b1 i5) fun v_10 =>
    optK (rdN s 3 v_10) fun v_11 =>
    optK (negB true (eqAgg Try.prog 26 (.agg v_9) (.agg v_11))) fun v_12 =>
    boolK v_12
     (K (.bool false) s)
     (optK (arithV .add i5 (.int .i64 1)) fun v_13 =>
      ∃ m', m' < m0 ∧ I0 [v_13] s m'))
   (K (.bool true) s)
def vc_leafmeshkit_Same_api_Link_ (X : Told) (a0 : AVal) (b1 : AVal) (K : AVal → Heap → Prop) (s : Heap) : Prop :=
  optK (lenOfA a0) fun v_0 =>
  optK (lenOfA b1) fun v_2 =>
  optK (negB true (eqV 0 false (.int .i64 v_0) (.int .i64 v_2))) fun v_4 =>
  boolK v_4
   (K (.bool false) s)
   (∃ I0 : List AVal → Heap → Nat → Prop, (∃ m, I0 [(.int .i64 0)] s m) ∧ ∀ (f : Env) (s : Heap) (m0 : Nat), I0 [f 5] s m0 →
      vc_leafmeshkit_Same_api_Link__l0 X a0 b1 (f 5) I0 m0 K s)
def vc_leafmeshkit_Same_api_Link__ann : Nat → List Nat := fun k => cond (Nat.beq k 8) [5] ([])
theorem vc_leafmeshkit_Same_api_Link__eq (X : Told) (a0 : AVal) (b1 : AVal) (K : AVal → Heap → Prop) (s : Heap) : wpC Try.prog X vc_leafmeshkit_Same_api_Link__ann Try.f14.ntmps none (bodyOf Try.f14) (envOf [a0, b1]) (fun e env s => retK e (resK Try.prog Try.f14.results.toList env (fun vs => K (oneV vs) s) s)) s = vc_leafmeshkit_Same_api_Link_ X a0 b1 K s := by kernel_rfl
theorem vc_leafmeshkit_Same_api_Link__ok {X : Told} (hX : FrX X) (hn : X 14 = none) {a0 : AVal} {b1 : AVal} {K : AVal → Heap → Prop} {s : Heap} (h : vc_leafmeshkit_Same_api_Link_ X a0 b1 K s) : wpCall Try.prog X 14 [a0, b1] K s :=
  wpCall_code hX vc_leafmeshkit_Same_api_Link__ann hn Try.func14 (by kernel_rfl : Try.f14.body = some (bodyOf Try.f14)) (by kernel_rfl) ((vc_leafmeshkit_Same_api_Link__eq X a0 b1 K s).mpr h)
theorem vc_leafmeshkit_Same_api_Link__in {a0 : AVal} {b1 : AVal} {K : AVal → Heap → Prop} {s : Heap} (h : vc_leafmeshkit_Same_api_Link_ XX a0 b1 K s) : wpCall Try.prog XX 14 [a0, b1] K s := vc_leafmeshkit_Same_api_Link__ok XX_fr rfl h
/-- leafmesh/leafmeshlaw09.same (15) -/
def vc_leafmeshlaw09_same_l1 (X : Told) (a5 : AVal) (i7 : AVal) (k8 : AVal) (I1 : List AVal → Heap → Nat → Prop) (m1 : Nat) (I0 : List AVal → Heap → Nat → Prop) (m0 : Nat) (K : AVal → Heap → Prop) (s : Heap) : Prop :=
  optK (iaddrS 1 a5 i7) fun v_27 =>
  optK (rd1 s v_27) fun v_28 =>
  optK (lenOfA v_28) fun v_29 =>
  optK (arithV .lss k8 (.int .i64 v_29)) fun v_31 =>
  boolK v_31
   (optK (iaddrS 1 a5 i7) fun v_32 =>
    optK (rd1 s v_32) fun v_33 =>
    optK (iaddrS 1 v_33 k8) fun v_34 =>
    optK (wr1 s v_34 (.int .i64 (-77))) fun s_35 =>
    optK (arithV .add k8 (.int .i64 1)) fun v_36 =>
    ∃ m', m' < m1 ∧ I1 [v_36] s_35 m')
   (optK (arithV .add i7 (.int .i64 1)) fun v_37 =>
    ∃ m', m' < m0 ∧ I0 [v_37] s m')
def vc_leafmeshlaw09_same_j5 (X : Told) (n9 : AVal) (t112 : AVal) (t120 : AVal) (I2 : List AVal → Heap → Nat → Prop) (m2 : Nat) (K : AVal → Heap → Prop) (s : Heap) : Prop :=
  optK (pickV t112 (.bool true) t120) fun v_49 =>
  boolK v_49
   (K (.bool false) s)
   (optK (arithV .add n9 (.int .i64 1)) fun v_50 =>
    ∃ m', m' < m2 ∧ I2 [v_50] s m')
def vc_leafmeshlaw09_same_j4 (X : Told) (g0 : AVal) (w1 : AVal) (n9 : AVal) (t102 : AVal) (t110 : AVal) (I2 : List AVal → Heap → Nat → Prop) (m2 : Nat) (K : AVal → Heap → Prop) (s : Heap) : Prop :=
  optK (pickV t102 (.bool true) t110) fun v_48 =>
  boolK v_48
   (vc_leafmeshlaw09_same_j5 X n9 v_48 .undef I2 m2 K s)
   (wpCall Try.prog X 18 [g0, n9, (.int .i64 0)] (fun v_51 s_52 =>
    wpCall Try.prog X 51 [w1, n9, (.int .i64 0)] (fun v_53 s_54 =>
    wpCall Try.prog X 17 [v_51, v_53] (fun v_55 s_56 =>
    optK (unaryA .not v_55) fun v_57 =>
    vc_leafmeshlaw09_same_j5 X n9 v_48 v_57 I2 m2 K s_56) s_54) s_52) s)
def vc_leafmeshlaw09_same_j3 (X : Told) (g0 : AVal) (w1 : AVal) (n9 : AVal) (t92 : AVal) (t100 : AVal) (I2 : List AVal → Heap → Nat → Prop) (m2 : Nat) (K : AVal → Heap → Prop) (s : Heap) : Prop :=
  optK (pickV t92 (.bool true) t100) fun v_47 =>
  boolK v_47
   (vc_leafmeshlaw09_same_j4 X g0 w1 n9 v_47 .undef I2 m2 K s)
   (wpCall Try.prog X 27 [g0, n9] (fun v_58 s_59 =>
    wpCall Try.prog X 50 [w1, n9] (fun v_60 s_61 =>
    wpCall Try.prog X 17 [v_58, v_60] (fun v_62 s_63 =>
    optK (unaryA .not v_62) fun v_64 =>
    vc_leafmeshlaw09_same_j4 X g0 w1 n9 v_47 v_64 I2 m2 K s_63) s_61) s_59) s)
def vc_leafmeshlaw09_same_j7 (X : Told) (t144 : AVal) (t152 : AVal) (K : AVal → Heap → Prop) (s : Heap) : Prop :=
  optK (pickV t144 t152 (.bool false)) fun v_89 =>
  K v_89 s
def vc_leafmeshlaw09_same_l6 (X : Told) (g0 : AVal) (w1 : AVal) (l10 : AVal) (i11 : AVal) (I6 : List AVal → Heap → Nat → Prop) (m6 : Nat) (K : AVal → Heap → Prop) (s : Heap) : Prop :=
  optK (lenOfA l10) fun v_74 =>
  optK (arithV .lss i11 (.int .i64 v_74)) fun v_76 =>
  boolK v_76
   (wpCall Try.prog X 25 [g0, i11] (fun v_77 s_78 =>
    wpCall Try.prog X 52 [w1, i11] (fun v_79 s_80 =>
    optK (negB true (eqV 1 false v_77 v_79)) fun v_81 =>
    boolK v_81
     (K (.bool false) s_80)
     (optK (fillR [(.int .i64 0), (.int .i64 0), (.int .i64 0)] []) fun c_82 =>
      optK (iaddrS 3 l10 i11) fun v_83 =>
      optK (wrAgg s_80 3 v_83 (.agg c_82)) fun s_84 =>
      optK (arithV .add i11 (.int .i64 1)) fun v_85 =>
      ∃ m', m' < m6 ∧ I6 [v_85] s_84 m')) s_78) s)
   (wpCall Try.prog X 25 [g0, (.int .i64 (-1))] (fun v_86 s_87 =>
    optK (unaryA .not v_86) fun v_88 =>
    boolK v_88
     (optK (nilCheckA w1) fun v_90 =>
      optK (addOff 1 v_90) fun v_91 =>
      optK (rd1 s_87 v_91) fun v_92 =>
      optK (lenOfA v_92) fun v_93 =>
      wpCall Try.prog X 25 [g0, (.int .i64 v_93)] (fun v_95 s_96 =>
      optK (unaryA .not v_95) fun v_97 =>
      vc_leafmeshlaw09_same_j7 X v_88 v_97 K s_96) s_87)
     (vc_leafmeshlaw09_same_j7 X v_88 .undef K s_87)) s)
def vc_leafmeshlaw09_same_l2 (X : Told) (g0 : AVal) (w1 : AVal) (n9 : AVal) (I2 : List AVal → Heap → Nat → Prop) (m2 : Nat) (K : AVal → Heap → Prop) (s : Heap) : Prop :=
  optK (nilCheckA w1) fun v_38 =>
  optK (addOff 0 v_38) fun v_39 =>
  optK (rd1 s v_39) fun v_40 =>
  optK (arithV .leq n9 v_40) fun v_41 =>
  boolK v_41
   (wpCall Try.prog X 26 [g0, n9] (fun v_42 s_43 =>
    wpCall Try.prog X 48 [w1, n9] (fun v_44 s_45 =>
    optK (negB true (eqV 1 false v_42 v_44)) fun v_46 =>
    boolK v_46
     (vc_leafmeshlaw09_same_j3 X g0 w1 n9 v_46 .undef I2 m2 K s_45)
     (wpCall Try.prog X 23 [g0, n9] (fun v_65 s_66 =>
      wpCall Try.prog X 49 [w1, n9] (fun v_67 s_68 =>
      wpCall Try.prog X 40 [v_65, v_67] (fun v_69 s_70 =>
      optK (unaryA .not v_69) fun v_71 =>
      vc_leafmeshlaw09_same_j3 X g0 w1 n9 v_46 v_71 I2 m2 K s_70) s_68) s_66) s_45)) s_43) s)
   (wpCall Try.prog X 39 [g0] (fun v_72 s_73 =>
    ∃ I6 : List AVal → Heap → Nat → Prop, (∃ m, I6 [(.int .i64 0)] s_73 m) ∧ ∀ (f : Env) (s : Heap) (m6 : Nat), I6 [f 11] s m6 →
      vc_leafmeshlaw09_same_l6 X g0 w1 v_72 (f 11) I6 m6 K s) s)
def vc_leafmeshlaw09_same_l0 (X : Told) (g0 : AVal) (w1 : AVal) (a5 : AVal) (b6 : AVal) (i7 : AVal) (I0 : List AVal → Heap → Nat → Prop) (m0 : Nat) (K : AVal → Heap → Prop) (s : Heap) : Prop :=
  optK (lenOfA a5) fun v_17 =>
  optK (arithV .lss i7 (.int .i64 v_17)) fun v_19 =>
  boolK v_19
   (optK (iaddrS 1 a5 i7) fun v_20 =>
    optK (rd1 s v_20) fun v_21 =>
    optK (iaddrS 1 b6 i7) fun v_22 =>
    optK (rd1 s v_22) fun v_23 =>
    wpCall Try.prog X 17 [v_21, v_23] (fun v_24 s_25 =>
    optK (unaryA .not v_24) fun v_26 =>
    boolK v_26
     (K (.bool false) s_25)
     (∃ I1 : List AVal → Heap → Nat → Prop, (∃ m, I1 [(.int .i64 0)] s_25 m) ∧ ∀ (f : Env) (s : Heap) (m1 : Nat), I1 [f 8] s m1 →
        vc_leafmeshlaw09_same_l1 X a5 i7 (f 8) I1 m1 I0 m0 K s)) s)
   (∃ I2 : List AVal → Heap → Nat → Prop, (∃ m, I2 [(.int .i64 (-1))] s m) ∧ ∀ (f : Env) (s : Heap) (m2 : Nat), I2 [f 9] s m2 →
      vc_leafmeshlaw09_same_l2 X g0 w1 (f 9) I2 m2 K s)
def vc_leafmeshlaw09_same_l9 (X : Told) (a5 : AVal) (i7 : AVal) (k8 : AVal) (I9 : List AVal → Heap → Nat → Prop) (m9 : Nat) (I8 : List AVal → Heap → Nat → Prop) (m8 : Nat) (K : AVal → Heap → Prop) (s : Heap) : Prop :=
  optK (iaddrS 1 a5 i7) fun v_125 =>
  optK (rd1 s v_125) fun v_126 =>
  optK (lenOfA v_126) fun v_127 =>
  optK (arithV .lss k8 (.int .i64 v_127)) fun v_129 =>
  boolK v_129
   (optK (iaddrS 1 a5 i7) fun v_130 =>
    optK (rd1 s v_130) fun v_131 =>
    optK (iaddrS 1 v_131 k8) fun v_132 =>
    optK (wr1 s v_132 (.int .i64 (-77))) fun s_133 =>
    optK (arithV .add k8 (.int .i64 1)) fun v_134 =>
    ∃ m', m' < m9 ∧ I9 [v_134] s_133 m')
   (optK (arithV .add i7 (.int .i64 1)) fun v_135 =>
    ∃ m', m' < m8 ∧ I8 [v_135] s m')
def vc_leafmeshlaw09_same_j13 (X : Told) (n9 : AVal) (t112 : AVal) (t120 : AVal) (I10 : List AVal → Heap → Nat → Prop) (m10 : Nat) (K : AVal → Heap → Prop) (s : Heap) : Prop :=
  optK (pickV t112 (.bool true) t120) fun v_147 =>
  boolK v_147
   (K (.bool false) s)
   (optK (arithV .add n9 (.int .i64 1)) fun v_148 =>
    ∃ m', m' < m10 ∧ I10 [v_148] s m')
def vc_leafmeshlaw09_same_j12 (X : Told) (g0 : AVal) (w1 : AVal) (n9 : AVal) (t102 : AVal) (t110 : AVal) (I10 : List AVal → Heap → Nat → Prop) (m10 : Nat) (K : AVal → Heap → Prop) (s : Heap) : Prop :=
  optK (pickV t102 (.bool true) t110) fun v_146 =>
  boolK v_146
   (vc_leafmeshlaw09_same_j13 X n9 v_146 .undef I10 m10 K s)
   (wpCall Try.prog X 18 [g0, n9, (.int .i64 0)] (fun v_149 s_150 =>
    wpCall Try.prog X 51 [w1, n9, (.int .i64 0)] (fun v_151 s_152 =>
    wpCall Try.prog X 17 [v_149, v_151] (fun v_153 s_154 =>
    optK (unaryA .not v_153) fun v_155 =>
    vc_leafmeshlaw09_same_j13 X n9 v_146 v_155 I10 m10 K s_154) s_152) s_150) s)
def vc_leafmeshlaw09_same_j11 (X : Told) (g0 : AVal) (w1 : AVal) (n9 : AVal) (t92 : AVal) (t100 : AVal) (I10 : List AVal → Heap → Nat → Prop) (m10 : Nat) (K : AVal → Heap → Prop) (s : Heap) : Prop :=
  optK (pickV t92 (.bool true) t100) fun v_145 =>
  boolK v_145
   (vc_leafmeshlaw09_same_j12 X g0 w1 n9 v_145 .undef I10 m10 K s)
   (wpCall Try.prog X 27 [g0, n9] (fun v_156 s_157 =>
    wpCall Try.prog X 50 [w1, n9] (fun v_158 s_159 =>
    wpCall Try.prog X 17 [v_156, v_158] (fun v_160 s_161 =>
    optK (unaryA .not v_160) fun v_162 =>
    vc_leafmeshlaw09_same_j12 X g0 w1 n9 v_145 v_162 I10 m10 K s_161) s_159) s_157) s)
def vc_leafmeshlaw09_same_j15 (X : Told) (t144 : AVal) (t152 : AVal) (K : AVal → Heap → Prop) (s : Heap) : Prop :=
  optK (pickV t144 t152 (.bool false)) fun v_187 =>
  K v_187 s
def vc_leafmeshlaw09_same_l14 (X : Told) (g0 : AVal) (w1 : AVal) (l10 : AVal) (i11 : AVal) (I14 : List AVal → Heap → Nat → Prop) (m14 : Nat) (K : AVal → Heap → Prop) (s : Heap) : Prop :=
  optK (lenOfA l10) fun v_172 =>
  optK (arithV .lss i11 (.int .i64 v_172)) fun v_174 =>
  boolK v_174
   (wpCall Try.prog X 25 [g0, i11] (fun v_175 s_176 =>
    wpCall Try.prog X 52 [w1, i11] (fun v_177 s_178 =>
    optK (negB true (eqV 1 false v_175 v_177)) fun v_179 =>
    boolK v_179
     (K (.bool false) s_178)
     (optK (fillR [(.int .i64 0), (.int .i64 0), (.int .i64 0)] []) fun c_180 =>
      optK (iaddrS 3 l10 i11) fun v_181 =>
      optK (wrAgg s_178 3 v_181 (.agg c_180)) fun s_182 =>
      optK (arithV .add i11 (.int .i64 1)) fun v_183 =>
      ∃ m', m' < m14 ∧ I14 [v_183] s_182 m')) s_176) s)
   (wpCall Try.prog X 25 [g0, (.int .i64 (-1))] (fun v_184 s_185 =>
    optK (unaryA .not v_184) fun v_186 =>
    boolK v_186
     (optK (nilCheckA w1) fun v_188 =>
      optK (addOff 1 v_188) fun v_189 =>
      optK (rd1 s_185 v_189) fun v_190 =>
      optK (lenOfA v_190) fun v_191 =>
      wpCall Try.prog X 25 [g0, (.int .i64 v_191)] (fun v_193 s_194 =>
      optK (unaryA .not v_193) fun v_195 =>
      vc_leafmeshlaw09_same_j15 X v_186 v_195 K s_194) s_185)
     (vc_leafmeshlaw09_same_j15 X v_186 .undef K s_185)) s)
def vc_leafmeshlaw09_same_l10 (X : Told) (g0 : AVal) (w1 : AVal) (n9 : AVal) (I10 : List AVal → Heap → Nat → Prop) (m10 : Nat) (K : AVal → Heap → Prop) (s : Heap) : Prop :=
  optK (nilCheckA w1) fun v_136 =>
  optK (addOff 0 v_136) fun v_137 =>
  optK (rd1 s v_137) fun v_138 =>
  optK (arithV .leq n9 v_138) fun v_139 =>
  boolK v_139
   (wpCall Try.prog X 26 [g0, n9] (fun v_140 s_141 =>
    wpCall Try.prog X 48 [w1, n9] (fun v_142 s_143 =>
    optK (negB true (eqV 1 false v_140 v_142)) fun v_144 =>
    boolK v_144
     (vc_leafmeshlaw09_same_j11 X g0 w1 n9 v_144 .undef I10 m10 K s_143)
     (wpCall Try.prog X 23 [g0, n9] (fun v_163 s_164 =>
      wpCall Try.prog X 49 [w1, n9] (fun v_165 s_166 =>
      wpCall Try.prog X 40 [v_163, v_165] (fun v_167 s_168 =>
      optK (unaryA .not v_167) fun v_169 =>
      vc_leafmeshlaw09_same_j11 X g0 w1 n9 v_144 v_169 I10 m10 K s_168) s_166) s_164) s_143)) s_141) s)
   (wpCall Try.prog X 39 [g0] (fun v_170 s_171 =>
    ∃ I14 : List AVal → Heap → Nat → Prop, (∃ m, I14 [(.int .i64 0)] s_171 m) ∧ ∀ (f : Env) (s : Heap) (m14 : Nat), I14 [f 11] s m14 →
      vc_leafmeshlaw09_same_l14 X g0 w1 v_170 (f 11) I14 m14 K s) s)
def vc_leafmeshlaw09_same_l8 (X : Told) (g0 : AVal) (w1 : AVal) (a5 : AVal) (b6 : AVal) (i7 : AVal) (I8 : List AVal → Heap → Nat → Prop) (m8 : Nat) (K : AVal → Heap → Prop) (s : Heap) : Prop :=
  optK (lenOfA a5) fun v_115 =>
  optK (arithV .lss i7 (.int .i64 v_115)) fun v_117 =>
  boolK v_117
   (optK (iaddrS 1 a5 i7) fun v_118 =>
    optK (rd1 s v_118) fun v_119 =>
    optK (iaddrS 1 b6 i7) fun v_120 =>
    optK (rd1 s v_120) fun v_121 =>
    wpCall Try.prog X 17 [v_119, v_121] (fun v_122 s_123 =>
    optK (unaryA .not v_122) fun v_124 =>
    boolK v_124
     (K (.bool false) s_123)
     (∃ I9 : List AVal → Heap → Nat → Prop, (∃ m, I9 [(.int .i64 0)] s_123 m) ∧ ∀ (f : Env) (s : Heap) (m9 : Nat), I9 [f 8] s m9 →
        vc_leafmeshlaw09_same_l9 X a5 i7 (f 8) I9 m9 I8 m8 K s)) s)
   (∃ I10 : List AVal → Heap → Nat → Prop, (∃ m, I10 [(.int .i64 (-1))] s m) ∧ ∀ (f : Env) (s : Heap) (m10 : Nat), I10 [f 9] s m10 →
      vc_leafmeshlaw09_same_l10 X g0 w1 (f 9) I10 m10 K s)
def vc_leafmeshlaw09_same_l17 (X : Told) (a5 : AVal) (i7 : AVal) (k8 : AVal) (I17 : List AVal → Heap → Nat → Prop) (m17 : Nat) (I16 : List AVal → Heap → Nat → Prop) (m16 : Nat) (K : AVal → Heap → Prop) (s : Heap) : Prop :=
  optK (iaddrS 1 a5 i7) fun v_225 =>
  optK (rd1 s v_225) fun v_226 =>
  optK (lenOfA v_226) fun v_227 =>
  optK (arithV .lss k8 (.int .i64 v_227)) fun v_229 =>
  boolK v_229
   (optK (iaddrS 1 a5 i7) fun v_230 =>
    optK (rd1 s v_230) fun v_231 =>
    optK (iaddrS 1 v_231 k8) fun v_232 =>
    optK (wr1 s v_232 (.int .i64 (-77))) fun s_233 =>
    optK (arithV .add k8 (.int .i64 1)) fun v_234 =>
    ∃ m', m' < m17 ∧ I17 [v_234] s_233 m')
   (optK (arithV .add i7 (.int .i64 1)) fun v_235 =>
    ∃ m', m' < m16 ∧ I16 [v_235] s m')
def vc_leafmeshlaw09_same_j21 (X : Told) (n9 : AVal) (t112 : AVal) (t120 : AVal) (I18 : List AVal → Heap → Nat → Prop) (m18 : Nat) (K : AVal → Heap → Prop) (s : Heap) : Prop :=
  optK (pickV t112 (.bool true) t120) fun v_247 =>
  boolK v_247
   (K (.bool false) s)
   (optK (arithV .add n9 (.int .i64 1)) fun v_248 =>
    ∃ m', m' < m18 ∧ I18 [v_248] s m')
def vc_leafmeshlaw09_same_j20 (X : Told) (g0 : AVal) (w1 : AVal) (n9 : AVal) (t102 : AVal) (t110 : AVal) (I18 : List AVal → Heap → Nat → Prop) (m18 : Nat) (K : AVal → Heap → Prop) (s : Heap) : Prop :=
  optK (pickV t102 (.bool true) t110) fun v_246 =>
  boolK v_246
   (vc_leafmeshlaw09_same_j21 X n9 v_246 .undef I18 m18 K s)
   (wpCall Try.prog X 18 [g0, n9, (.int .i64 0)] (fun v_249 s_250 =>
    wpCall Try.prog X 51 [w1, n9, (.int .i64 0)] (fun v_251 s_252 =>
    wpCall Try.prog X 17 [v_249, v_251] (fun v_253 s_254 =>
    optK (unaryA .not v_253) fun v_255 =>
    vc_leafmeshlaw09_same_j21 X n9 v_246 v_255 I18 m18 K s_254) s_252) s_250) s)
def vc_leafmeshlaw09_same_j19 (X : Told) (g0 : AVal) (w1 : AVal) (n9 : AVal) (t92 : AVal) (t100 : AVal) (I18 : List AVal → Heap → Nat → Prop) (m18 : Nat) (K : AVal → Heap → Prop) (s : Heap) : Prop :=
  optK (pickV t92 (.bool true) t100) fun v_245 =>
  boolK v_245
   (vc_leafmeshlaw09_same_j20 X g0 w1 n9 v_245 .undef I18 m18 K s)
   (wpCall Try.prog X 27 [g0, n9] (fun v_256 s_257 =>
    wpCall Try.prog X 50 [w1, n9] (fun v_258 s_259 =>
    wpCall Try.prog X 17 [v_256, v_258] (fun v_260 s_261 =>
    optK (unaryA .not v_260) fun v_262 =>
    vc_leafmeshlaw09_same_j20 X g0 w1 n9 v_245 v_262 I18 m18 K s_261) s_259) s_257) s)
def vc_leafmeshlaw09_same_j23 (X : Told) (t144 : AVal) (t152 : AVal) (K : AVal → Heap → Prop) (s : Heap) : Prop :=
  optK (pickV t144 t152 (.bool false)) fun v_287 =>
  K v_287 s
def vc_leafmeshlaw09_same_l22 (X : Told) (g0 : AVal) (w1 : AVal) (l10 : AVal) (i11 : AVal) (I22 : List AVal → Heap → Nat → Prop) (m22 : Nat) (K : AVal → Heap → Prop) (s : Heap) : Prop :=
  optK (lenOfA l10) fun v_272 =>
  optK (arithV .lss i11 (.int .i64 v_272)) fun v_274 =>
  boolK v_274
   (wpCall Try.prog X 25 [g0, i11] (fun v_275 s_276 =>
    wpCall Try.prog X 52 [w1, i11] (fun v_277 s_278 =>
    optK (negB true (eqV 1 false v_275 v_277)) fun v_279 =>
    boolK v_279
     (K (.bool false) s_278)
     (optK (fillR [(.int .i64 0), (.int .i64 0), (.int .i64 0)] []) fun c_280 =>
      optK (iaddrS 3 l10 i11) fun v_281 =>
      optK (wrAgg s_278 3 v_281 (.agg c_280)) fun s_282 =>
      optK (arithV .add i11 (.int .i64 1)) fun v_283 =>
      ∃ m', m' < m22 ∧ I22 [v_283] s_282 m')) s_276) s)
   (wpCall Try.prog X 25 [g0, (.int .i64 (-1))] (fun v_284 s_285 =>
    optK (unaryA .not v_284) fun v_286 =>
    boolK v_286
     (optK (nilCheckA w1) fun v_288 =>
      optK (addOff 1 v_288) fun v_289 =>
      optK (rd1 s_285 v_289) fun v_290 =>
      optK (lenOfA v_290) fun v_291 =>
      wpCall Try.prog X 25 [g0, (.int .i64 v_291)] (fun v_293 s_294 =>
      optK (unaryA .not v_293) fun v_295 =>
      vc_leafmeshlaw09_same_j23 X v_286 v_295 K s_294) s_285)
     (vc_leafmeshlaw09_same_j23 X v_286 .undef K s_285)) s)
def vc_leafmeshlaw09_same_l18 (X : Told) (g0 : AVal) (w1 : AVal) (n9 : AVal) (I18 : List AVal → Heap → Nat → Prop) (m18 : Nat) (K : AVal → Heap → Prop) (s : Heap) : Prop :=
  optK (nilCheckA w1) fun v_236 =>
  optK (addOff 0 v_236) fun v_237 =>
  optK (rd1 s v_237) fun v_238 =>
  optK (arithV .leq n9 v_238) fun v_239 =>
  boolK v_239
   (wpCall Try.prog X 26 [g0, n9] (fun v_240 s_241 =>
    wpCall Try.prog X 48 [w1, n9] (fun v_242 s_243 =>
    optK (negB true (eqV 1 false v_240 v_242)) fun v_244 =>
    boolK v_244
     (vc_leafmeshlaw09_same_j19 X g0 w1 n9 v_244 .undef I18 m18 K s_243)
     (wpCall Try.prog X 23 [g0, n9] (fun v_263 s_264 =>
      wpCall Try.prog X 49 [w1, n9] (fun v_265 s_266 =>
      wpCall Try.prog X 40 [v_263, v_265] (fun v_267 s_268 =>
      optK (unaryA .not v_267) fun v_269 =>
      vc_leafmeshlaw09_same_j19 X g0 w1 n9 v_244 v_269 I18 m18 K s_268) s_266) s_264) s_243)) s_241) s)
   (wpCall Try.prog X 39 [g0] (fun v_270 s_271 =>
    ∃ I22 : List AVal → Heap → Nat → Prop, (∃ m, I22 [(.int .i64 0)] s_271 m) ∧ ∀ (f : Env) (s : Heap) (m22 : Nat), I22 [f 11] s m22 →
      vc_leafmeshlaw09_same_l22 X g0 w1 v_270 (f 11) I22 m22 K s) s)
def vc_leafmeshlaw09_same_l16 (X : Told) (g0 : AVal) (w1 : AVal) (a5 : AVal) (b6 : AVal) (i7 : AVal) (I16 : List AVal → Heap → Nat → Prop) (m16 : Nat) (K : AVal → Heap → Prop) (s : Heap) : Prop :=
  optK (lenOfA a5) fun v_215 =>
  optK (arithV .lss i7 (.int .i64 v_215)) fun v_217 =>
  boolK v_217
   (optK (iaddrS 1 a5 i7) fun v_218 =>
    optK (rd1 s v_218) fun v_219 =>
    optK (iaddrS 1 b6 i7) fun v_220 =>
    optK (rd1 s v_220) fun v_221 =>
    wpCall Try.prog X 17 [v_219, v_221] (fun v_222 s_223 =>
    optK (unaryA .not v_222) fun v_224 =>
    boolK v_224
     (K (.bool false) s_223)
     (∃ I17 : List AVal → Heap → Nat → Prop, (∃ m, I17 [(.int .i64 0)] s_223 m) ∧ ∀ (f : Env) (s : Heap) (m17 : Nat), I17 [f 8] s m17 →
        vc_leafmeshlaw09_same_l17 X a5 i7 (f 8) I17 m17 I16 m16 K s)) s)
   (∃ I18 : List AVal → Heap → Nat → Prop, (∃ m, I18 [(.int .i64 (-1))] s m) ∧ ∀ (f : Env) (s : Heap) (m18 : Nat), I18 [f 9] s m18 →
      vc_leafmeshlaw09_same_l18 X g0 w1 (f 9) I18 m18 K s)
def vc_leafmeshlaw09_same_l25 (X : Told) (a5 : AVal) (i7 : AVal) (k8 : AVal) (I25 : List AVal → Heap → Nat → Prop) (m25 : Nat) (I24 : List AVal → Heap → Nat → Prop) (m24 : Nat) (K : AVal → Heap → Prop) (s : Heap) : Prop :=
  optK (iaddrS 1 a5 i7) fun v_323 =>
  optK (rd1 s v_323) fun v_324 =>
  optK (lenOfA v_324) fun v_325 =>
  optK (arithV .lss k8 (.int .i64 v_325)) fun v_327 =>
  boolK v_327
   (optK (iaddrS 1 a5 i7) fun v_328 =>
    optK (rd1 s v_328) fun v_329 =>
    optK (iaddrS 1 v_329 k8) fun v_330 =>
    optK (wr1 s v_330 (.int .i64 (-77))) fun s_331 =>
    optK (arithV .add k8 (.int .i64 1)) fun v_332 =>
    ∃ m', m' < m25 ∧ I25 [v_332] s_331 m')
   (optK (arithV .add i7 (.int .i64 1)) fun v_333 =>
    ∃ m', m' < m24 ∧ I24 [v_333] s m')
def vc_leafmeshlaw09_same_j29 (X : Told) (n9 : AVal) (t112 : AVal) (t120 : AVal) (I26 : List AVal → Heap → Nat → Prop) (m26 : Nat) (K : AVal → Heap → Prop) (s : Heap) : Prop :=
  optK (pickV t112 (.bool true) t120) fun v_345 =>
  boolK v_345
   (K (.bool false) s)
   (optK (arithV .add n9 (.int .i64 1)) fun v_346 =>
    ∃ m', m' < m26 ∧ I26 [v_346] s m')
def vc_leafmeshlaw09_same_j28 (X : Told) (g0 : AVal) (w1 : AVal) (n9 : AVal) (t102 : AVal) (t110 : AVal) (I26 : List AVal → Heap → Nat → Prop) (m26 : Nat) (K : AVal → Heap → Prop) (s : Heap) : Prop :=
  optK (pickV t102 (.bool true) t110) fun v_344 =>
  boolK v_344
   (vc_leafmeshlaw09_same_j29 X n9 v_344 .undef I26 m26 K s)
   (wpCall Try.prog X 18 [g0, n9, (.int .i64 0)] (fun v_347 s_348 =>
    wpCall Try.prog X 51 [w1, n9, (.int .i64 0)] (fun v_349 s_350 =>
    wpCall Try.prog X 17 [v_347, v_349] (fun v_351 s_352 =>
    optK (unaryA .not v_351) fun v_353 =>
    vc_leafmeshlaw09_same_j29 X n9 v_344 v_353 I26 m26 K s_352) s_350) s_348) s)
def vc_leafmeshlaw09_same_j27 (X : Told) (g0 : AVal) (w1 : AVal) (n9 : AVal) (t92 : AVal) (t100 : AVal) (I26 : List AVal → Heap → Nat → Prop) (m26 : Nat) (K : AVal → Heap → Prop) (s : Heap) : Prop :=
  optK (pickV t92 (.bool true) t100) fun v_343 =>
  boolK v_343
   (vc_leafmeshlaw09_same_j28 X g0 w1 n9 v_343 .undef I26 m26 K s)
   (wpCall Try.prog X 27 [g0, n9] (fun v_354 s_355 =>
    wpCall Try.prog X 50 [w1, n9] (fun v_356 s_357 =>
    wpCall Try.prog X 17 [v_354, v_356] (fun v_358 s_359 =>
    optK (unaryA .not v_358) fun v_360 =>
    vc_leafmeshlaw09_same_j28 X g0 w1 n9 v_343 v_360 I26 m26 K s_359) s_357) s_355) s)
def vc_leafmeshlaw09_same_j31 (X : Told) (t144 : AVal) (t152 : AVal) (K : AVal → Heap → Prop) (s : Heap) : Prop :=
  optK (pickV t144 t152 (.bool false)) fun v_385 =>
  K v_385 s
def vc_leafmeshlaw09_same_l30 (X : Told) (g0 : AVal) (w1 : AVal) (l10 : AVal) (i11 : AVal) (I30 : List AVal → Heap → Nat → Prop) (m30 : Nat) (K : AVal → Heap → Prop) (s : Heap) : Prop :=
  optK (lenOfA l10) fun v_370 =>
  optK (arithV .lss i11 (.int .i64 v_370)) fun v_372 =>
  boolK v_372
   (wpCall Try.prog X 25 [g0, i11] (fun v_373 s_374 =>
    wpCall Try.prog X 52 [w1, i11] (fun v_375 s_376 =>
    optK (negB true (eqV 1 false v_373 v_375)) fun v_377 =>
    boolK v_377
     (K (.bool false) s_376)
     (optK (fillR [(.int .i64 0), (.int .i64 0), (.int .i64 0)] []) fun c_378 =>
      optK (iaddrS 3 l10 i11) fun v_379 =>
      optK (wrAgg s_376 3 v_379 (.agg c_378)) fun s_380 =>
      optK (arithV .add i11 (.int .i64 1)) fun v_381 =>
      ∃ m', m' < m30 ∧ I30 [v_381] s_380 m')) s_374) s)
   (wpCall Try.prog X 25 [g0, (.int .i64 (-1))] (fun v_382 s_383 =>
    optK (unaryA .not v_382) fun v_384 =>
    boolK v_384
     (optK (nilCheckA w1) fun v_386 =>
      optK (addOff 1 v_386) fun v_387 =>
      optK (rd1 s_383 v_387) fun v_388 =>
      optK (lenOfA v_388) fun v_389 =>
      wpCall Try.prog X 25 [g0, (.int .i64 v_389)] (fun v_391 s_392 =>
      optK (unaryA .not v_391) fun v_393 =>
      vc_leafmeshlaw09_same_j31 X v_384 v_393 K s_392) s_383)
     (vc_leafmeshlaw09_same_j31 X v_384 .undef K s_383)) s)
def vc_leafmeshlaw09_same_l26 (X : Told) (g0 : AVal) (w1 : AVal) (n9 : AVal) (I26 : List AVal → Heap → Nat → Prop) (m26 : Nat) (K : AVal → Heap → Prop) (s : Heap) : Prop :=
  optK (nilCheckA w1) fun v_334 =>
  optK (addOff 0 v_334) fun v_335 =>
  optK (rd1 s v_335) fun v_336 =>
  optK (arithV .leq n9 v_336) fun v_337 =>
  boolK v_337
   (wpCall Try.prog X 26 [g0, n9] (fun v_338 s_339 =>
    wpCall Try.prog X 48 [w1, n9] (fun v_340 s_341 =>
    optK (negB true (eqV 1 false v_338 v_340)) fun v_342 =>
    boolK v_342
     (vc_leafmeshlaw09_same_j27 X g0 w1 n9 v_342 .undef I26 m26 K s_341)
     (wpCall Try.prog X 23 [g0, n9] (fun v_361 s_362 =>
      wpCall Try.prog X 49 [w1, n9] (fun v_363 s_364 =>
      wpCall Try.prog X 40 [v_361, v_363] (fun v_365 s_366 =>
      optK (unaryA .not v_365) fun v_367 =>
      vc_leafmeshlaw09_same_j27 X g0 w1 n9 v_342 v_367 I26 m26 K s_366) s_364) s_362) s_341)) s_339) s)
   (wpCall Try.prog X 39 [g0] (fun v_368 s_369 =>
    ∃ I30 : List AVal → Heap → Nat → Prop, (∃ m, I30 [(.int .i64 0)] s_369 m) ∧ ∀ (f : Env) (s : Heap) (m30 : Nat), I30 [f 11] s m30 →
      vc_leafmeshlaw09_same_l30 X g0 w1 v_368 (f 11) I30 m30 K s) s)
def vc_leafmeshlaw09_same_l24 (X : Told) (g0 : AVal) (w1 : AVal) (a5 : AVal) (b6 : AVal) (i7 : AVal) (I24 : List AVal → Heap → Nat → Prop) (m24 : Nat) (K : AVal → Heap → Prop) (s : Heap) : Prop :=
  optK (lenOfA a5) fun v_313 =>
  optK (arithV .lss i7 (.int .i64 v_313)) fun v_315 =>
  boolK v_315
   (optK (iaddrS 1 a5 i7) fun v_316 =>
    optK (rd1 s v_316) fun v_317 =>
    optK (iaddrS 1 b6 i7) fun v_318 =>
    optK (rd1 s v_318) fun v_319 =>
    wpCall Try.prog X 17 [v_317, v_319] (fun v_320 s_321 =>
    optK (unaryA .not v_320) fun v_322 =>
    boolK v_322
     (K (.bool false) s_321)
     (∃ I25 : List AVal → Heap → Nat → Prop, (∃ m, I25 [(.int .i64 0)] s_321 m) ∧ ∀ (f : Env) (s : Heap) (m25 : Nat), I25 [f 8] s m25 →
        vc_leafmeshlaw09_same_l25 X a5 i7 (f 8) I25 m25 I24 m24 K s)) s)
   (∃ I26 : List AVal → Heap → Nat → Prop, (∃ m, I26 [(.int .i64 (-1))] s m) ∧ ∀ (f : Env) (s : Heap) (m26 : Nat), I26 [f 9] s m26 →
      vc_leafmeshlaw09_same_l26 X g0 w1 (f 9) I26 m26 K s)
def vc_leafmeshlaw09_same (X : Told) (g0 : AVal) (w1 : AVal) (K : AVal → Heap → Prop) (s : Heap) : Prop :=
  wpCall Try.prog X 38 [g0] (fun v_0 s_1 =>
  (∀ b, s b ≠ none → s b = none → s_1 b = none) →
  optK (nilCheckA w1) fun v_2 =>
  optK (addOff 0 v_2) fun v_3 =>
  optK (rd1 (cutH [(s, (add s s_1))] (add s s_1)) v_3) fun v_4 =>
  optK (negB true (eqV 0 false v_0 v_4)) fun v_5 =>
  boolK v_5
   (optK (pickV v_5 (.bool true) .undef) fun v_6 =>
  boolK v_6
   (optK (pickV v_6 (.bool true) .undef) fun v_7 =>
  boolK v_7
   (K (.bool false) (add s s_1))
   (wpCall Try.prog X 29 [g0] (fun v_8 s_9 =>
    wpCall Try.prog X 47 [w1] (fun v_10 s_11 =>
    optK (lenOfA v_8) fun v_12 =>
    optK (lenOfA v_10) fun v_14 =>
    optK (negB true (eqV 0 false (.int .i64 v_12) (.int .i64 v_14))) fun v_16 =>
    boolK v_16
     (K (.bool false) s_11)
     (∃ I0 : List AVal → Heap → Nat → Prop, (∃ m, I0 [(.int .i64 0)] s_11 m) ∧ ∀ (f : Env) (s : Heap) (m0 : Nat), I0 [f 7] s m0 →
        vc_leafmeshlaw09_same_l0 X g0 w1 v_8 v_10 (f 7) I0 m0 K s)) s_9) (add s s_1)))
   (wpCall Try.prog X 21 [g0] (fun v_98 s_99 =>
  wpCall Try.prog X 46 [w1] (fun v_100 s_101 =>
  wpCall Try.prog X 20 [v_98, v_100] (fun v_102 s_103 =>
  optK (unaryA .not v_102) fun v_104 =>
  optK (pickV v_6 (.bool true) v_104) fun v_105 =>
  boolK v_105
   (K (.bool false) s_103)
   (wpCall Try.prog X 29 [g0] (fun v_106 s_107 =>
    wpCall Try.prog X 47 [w1] (fun v_108 s_109 =>
    optK (lenOfA v_106) fun v_110 =>
    optK (lenOfA v_108) fun v_112 =>
    optK (negB true (eqV 0 false (.int .i64 v_110) (.int .i64 v_112))) fun v_114 =>
    boolK v_114
     (K (.bool false) s_109)
     (∃ I8 : List AVal → Heap → Nat → Prop, (∃ m, I8 [(.int .i64 0)] s_109 m) ∧ ∀ (f : Env) (s : Heap) (m8 : Nat), I8 [f 7] s m8 →
        vc_leafmeshlaw09_same_l8 X g0 w1 v_106 v_108 (f 7) I8 m8 K s)) s_107) s_103)) s_101) s_99) (add s s_1)))
   (wpCall Try.prog X 39 [g0] (fun v_196 s_197 =>
  (∀ b, (add s s_1) b ≠ none → (add s s_1) b = none → s_197 b = none) →
  optK (nilCheckA w1) fun v_198 =>
  optK (addOff 1 v_198) fun v_199 =>
  optK (rd1 (cutH [((add s s_1), (add (add s s_1) s_197))] (add (add s s_1) s_197)) v_199) fun v_200 =>
  wpCall Try.prog X 14 [v_196, v_200] (fun v_201 s_202 =>
  optK (unaryA .not v_201) fun v_203 =>
  optK (pickV v_5 (.bool true) v_203) fun v_204 =>
  boolK v_204
   (optK (pickV v_204 (.bool true) .undef) fun v_205 =>
  boolK v_205
   (K (.bool false) s_202)
   (wpCall Try.prog X 29 [g0] (fun v_206 s_207 =>
    wpCall Try.prog X 47 [w1] (fun v_208 s_209 =>
    optK (lenOfA v_206) fun v_210 =>
    optK (lenOfA v_208) fun v_212 =>
    optK (negB true (eqV 0 false (.int .i64 v_210) (.int .i64 v_212))) fun v_214 =>
    boolK v_214
     (K (.bool false) s_209)
     (∃ I16 : List AVal → Heap → Nat → Prop, (∃ m, I16 [(.int .i64 0)] s_209 m) ∧ ∀ (f : Env) (s : Heap) (m16 : Nat), I16 [f 7] s m16 →
        vc_leafmeshlaw09_same_l16 X g0 w1 v_206 v_208 (f 7) I16 m16 K s)) s_207) s_202))
   (wpCall Try.prog X 21 [g0] (fun v_296 s_297 =>
  wpCall Try.prog X 46 [w1] (fun v_298 s_299 =>
  wpCall Try.prog X 20 [v_296, v_298] (fun v_300 s_301 =>
  optK (unaryA .not v_300) fun v_302 =>
  optK (pickV v_204 (.bool true) v_302) fun v_303 =>
  boolK v_303
   (K (.bool false) s_301)
   (wpCall Try.prog X 29 [g0] (fun v_304 s_305 =>
    wpCall Try.prog X 47 [w1] (fun v_306 s_307 =>
    optK (lenOfA v_304) fun v_308 =>
    optK (lenOfA v_306) fun v_310 =>
    optK (negB true (eqV 0 false (.int .i64 v_308) (.int .i64 v_310))) fun v_312 =>
    boolK v_312
     (K (.bool false) s_307)
     (∃ I24 : List AVal → Heap → Nat → Prop, (∃ m, I24 [(.int .i64 0)] s_307 m) ∧ ∀ (f : Env) (s : Heap) (m24 : Nat), I24 [f 7] s m24 →
        vc_leafmeshlaw09_same_l24 X g0 w1 v_304 v_306 (f 7) I24 m24 K s)) s_305) s_301)) s_299) s_297) s_202)) (add (add s s_1) s_197)) (frz (add s s_1)))) (frz s)
def vc_leafmeshlaw09_same_ann : Nat → List Nat := fun k => cond (Nat.beq k 14) [7] (cond (Nat.beq k 24) [8] (cond (Nat.beq k 32) [9] (cond (Nat.beq k 44) [11] (cond (Nat.beq k 14) [7] (cond (Nat.beq k 24) [8] (cond (Nat.beq k 32) [9] (cond (Nat.beq k 44) [11] (cond (Nat.beq k 14) [7] (cond (Nat.beq k 24) [8] (cond (Nat.beq k 32) [9] (cond (Nat.beq k 44) [11] (cond (Nat.beq k 14) [7] (cond (Nat.beq k 24) [8] (cond (Nat.beq k 32) [9] (cond (Nat.beq k 44) [11] ([]))))))))))))))))
theorem vc_leafmeshlaw09_same_eq (X : Told) (g0 : AVal) (w1 : AVal) (K : AVal → Heap → Prop) (s : Heap) : wpC Try.prog X vc_leafmeshlaw09_same_ann Try.f15.ntmps none (bodyOf Try.f15) (envOf [g0, w1]) (fun e env s => retK e (resK Try.prog Try.f15.results.toList env (fun vs => K (oneV vs) s) s)) s = vc_leafmeshlaw09_same X g0 w1 K s := by kernel_rfl
theorem vc_leafmeshlaw09_same_ok {X : Told} (hX : FrX X) (hn : X 15 = none) {g0 : AVal} {w1 : AVal} {K : AVal → Heap → Prop} {s : Heap} (h : vc_leafmeshlaw09_same X g0 w1 K s) : wpCall Try.prog X 15 [g0, w1] K s :=
  wpCall_code hX vc_leafmeshlaw09_same_ann hn Try.func15 (by kernel_rfl : Try.f15.body = some (bodyOf Try.f15)) (by kernel_rfl) ((vc_leafmeshlaw09_same_eq X g0 w1 K s).mpr h)
theorem vc_leafmeshlaw09_same_in {g0 : AVal} {w1 : AVal} {K : AVal → Heap → Prop} {s : Heap} (h : vc_leafmeshlaw09_same XX g0 w1 K s) : wpCall Try.prog XX 15 [g0, w1] K s := vc_leafmeshlaw09_same_ok XX_fr rfl h
/-- leafmesh/leafmeshkit.Same[int] (17) -/
def vc_leafmeshkit_Same_int__l0 (X : Told) (a0 : AVal) (b1 : AVal) (i5 : AVal) (I0 : List AVal → Heap → Nat → Prop) (m0 : Nat) (K : AVal → Heap → Prop) (s : Heap) : Prop :=
  optK (lenOfA a0) fun v_5 =>
  optK (arithV .lss i5 (.int .i64 v_5)) fun v_7 =>
  boolK v_7
   (optK (iaddrS 1 a0 i5) fun v_8 =>
    optK (rd1 s v_8) fun v_9 =>
    optK (iaddrS 1 b1 i5) fun v_10 =>
    optK (rd1 s v_10) fun v_11 =>
    optK (negB true (eqV 0 false v_9 v_11)) fun v_12 =>
    boolK v_12
     (K (.bool false) s)
     (optK (arithV .add i5 (.int .i64 1)) fun v_13 =>
      ∃ m', m' < m0 ∧ I0 [v_13] s m'))
   (K (.bool true) s)
def vc_leafmeshkit_Same_int_ (X : Told) (a0 : AVal) (b1 : AVal) (K : AVal → Heap → Prop) (s : Heap) : Prop :=
  optK (lenOfA a0) fun v_0 =>
  optK (lenOfA b1) fun v_2 =>
  optK (negB true (eqV 0 false (.int .i64 v_0) (.int .i64 v_2))) fun v_4 =>
  boolK v_4
   (K (.bool false) s)
   (∃ I0 : List AVal → Heap → Nat → Prop, (∃ m, I0 [(.int .i64 0)] s m) ∧ ∀ (f : Env) (s : Heap) (m0 : Nat), I0 [f 5] s m0 →
      vc_leafmeshkit_Same_int__l0 X a0 b1 (f 5) I0 m0 K s)
def vc_leafmeshkit_Same_int__ann : Nat → List Nat := fun k => cond (Nat.beq k 8) [5] ([])
theorem vc_leafmeshkit_Same_int__eq (X : Told) (a0 : AVal) (b1 : AVal) (K : AVal → Heap → Prop) (s : Heap) : wpC Try.prog X vc_leafmeshkit_Same_int__ann Try.f17.ntmps none (bodyOf Try.f17) (envOf [a0, b1]) (fun e env s => retK e (resK Try.prog Try.f17.results.toList env (fun vs => K (oneV vs) s) s)) s = vc_leafmeshkit_Same_int_ X a0 b1 K s := by kernel_rfl
theorem vc_leafmeshkit_Same_int__ok {X : Told} (hX : FrX X) (hn : X 17 = none) {a0 : AVal} {b1 : AVal} {K : AVal → Heap → Prop} {s : Heap} (h : vc_leafmeshkit_Same_int_ X a0 b1 K s) : wpCall Try.prog X 17 [a0, b1] K s :=
  wpCall_code hX vc_leafmeshkit_Same_int__ann hn Try.func17 (by kernel_rfl : Try.f17.body = some (bodyOf Try.f17)) (by kernel_rfl) ((vc_leafmeshkit_Same_int__eq X a0 b1 K s).mpr h)
theorem vc_leafmeshkit_Same_int__in {a0 : AVal} {b1 : AVal} {K : AVal → Heap → Prop} {s : Heap} (h : vc_leafmeshkit_Same_int_ XX a0 b1 K s) : wpCall Try.prog XX 17 [a0, b1] K s := vc_leafmeshkit_Same_int__ok XX_fr rfl h
/-- (*leafmesh/topo.Graph).Between (18) -/
def vc_topo_Graph_Between_j1 (X : Told) (numbers7 : AVal) (t14 : AVal) (I0 : List AVal → Heap → Nat → Prop) (m0 : Nat) (K : AVal → Heap → Prop) (s : Heap) : Prop :=
  optK (arithV .add t14 (.int .i64 1)) fun v_13 =>
  ∃ m', m' < m0 ∧ I0 [numbers7, v_13] s m'
def vc_topo_Graph_Between_l0 (X : Told) (b2 : AVal) (numbers7 : AVal) (t12 : AVal) (t13 : AVal) (t14 : AVal) (I0 : List AVal → Heap → Nat → Prop) (m0 : Nat) (K : AVal → Heap → Prop) (s : Heap) : Prop :=
  optK (arithV .lss t14 t13) fun v_4 =>
  boolK v_4
   (optK (iaddrS 3 t12 t14) fun v_5 =>
    optK (rdN s 3 v_5) fun v_6 =>
    newK 59 [(.int .i64 0), (.int .i64 0), (.int .i64 0)] (fun b_7 s_8 =>
    optK (wrAgg s_8 3 (.ptr b_7 0) (.agg v_6)) fun s_9 =>
    optK (addOff 1 (.ptr b_7 0)) fun v_10 =>
    optK (rd1 s_9 v_10) fun v_11 =>
    optK (negB false (eqV 0 false v_11 b2)) fun v_12 =>
    boolK v_12
     (optK (addOff 0 (.ptr b_7 0)) fun v_14 =>
      optK (rd1 s_9 v_14) fun v_15 =>
      optK (fillR (repl 1 [(.int .i64 0)]) [(0, 1, v_15)]) fun c_16 => allOne c_16 = true ∧ newK 3 c_16 (fun b_17 s_18 =>
      appK 3 1 numbers7 (.slc b_17 0 1 (some 1) 1) (fun v_19 s_20 =>
      vc_topo_Graph_Between_j1 X v_19 t14 I0 m0 K s_20) s_18) s_9)
     (vc_topo_Graph_Between_j1 X numbers7 t14 I0 m0 K s_9)) s)
   (K numbers7 s)
def vc_topo_Graph_Between (X : Told) (g0 : AVal) (a1 : AVal) (b2 : AVal) (K : AVal → Heap → Prop) (s : Heap) : Prop :=
  wpCall Try.prog X 23 [g0, a1] (fun v_0 s_1 =>
  optK (lenOfA v_0) fun v_2 =>
  ∃ I0 : List AVal → Heap → Nat → Prop, (∃ m, I0 [.nilslc, (.int .i64 0)] s_1 m) ∧ ∀ (f : Env) (s : Heap) (m0 : Nat), I0 [f 7, f 14] s m0 →
    vc_topo_Graph_Between_l0 X b2 (f 7) v_0 (.int .i64 v_2) (f 14) I0 m0 K s) s
def vc_topo_Graph_Between_ann : Nat → List Nat := fun k => cond (Nat.beq k 6) [7, 14] ([])
theorem vc_topo_Graph_Between_eq (X : Told) (g0 : AVal) (a1 : AVal) (b2 : AVal) (K : AVal → Heap → Prop) (s : Heap) : wpC Try.prog X vc_topo_Graph_Between_ann Try.f18.ntmps none (bodyOf Try.f18) (envOf [g0, a1, b2]) (fun e env s => retK e (resK Try.prog Try.f18.results.toList env (fun vs => K (oneV vs) s) s)) s = vc_topo_Graph_Between X g0 a1 b2 K s := by kernel_rfl
theorem vc_topo_Graph_Between_ok {X : Told} (hX : FrX X) (hn : X 18 = none) {g0 : AVal} {a1 : AVal} {b2 : AVal} {K : AVal → Heap → Prop} {s : Heap} (h : vc_topo_Graph_Between X g0 a1 b2 K s) : wpCall Try.prog X 18 [g0, a1, b2] K s :=
  wpCall_code hX vc_topo_Graph_Between_ann hn Try.func18 (by kernel_rfl : Try.f18.body = some (bodyOf Try.f18)) (by kernel_rfl) ((vc_topo_Graph_Between_eq X g0 a1 b2 K s).mpr h)
theorem vc_topo_Graph_Between_in {g0 : AVal} {a1 : AVal} {b2 : AVal} {K : AVal → Heap → Prop} {s : Heap} (h : vc_topo_Graph_Between XX g0 a1 b2 K s) : wpCall Try.prog XX 18 [g0, a1, b2] K s := vc_topo_Graph_Between_ok XX_fr rfl h
/-- (*leafmesh/topo.Graph).SetLink (19) -/
def vc_topo_Graph_SetLink_j0 (X : Told) (g0 : AVal) (i1 : AVal) (up2 : AVal) (t14 : AVal) (t21 : AVal) (K : AVal → Heap → Prop) (s : Heap) : Prop :=
  optK (pickV t14 (.bool true) t21) fun v_4 =>
  boolK v_4
   (K (.int .i64 2) s)
   (optK (nilCheckA g0) fun v_5 =>
    optK (addOff 2 v_5) fun v_6 =>
    wpCall Try.prog X 44 [v_6, i1, up2] (fun v_7 s_8 =>
    K (.int .i64 0) s_8) s)
def vc_topo_Graph_SetLink (X : Told) (g0 : AVal) (i1 : AVal) (up2 : AVal) (K : AVal → Heap → Prop) (s : Heap) : Prop :=
  wpCall Try.prog X 53 [g0] (fun v_0 s_1 =>
  optK (unaryA .not v_0) fun v_2 =>
  boolK v_2
   (K (.int .i64 1) s_1)
   (optK (arithV .lss i1 (.int .i64 0)) fun v_3 =>
    boolK v_3
     (vc_topo_Graph_SetLink_j0 X g0 i1 up2 v_3 .undef K s_1)
     (optK (nilCheckA g0) fun v_9 =>
      optK (addOff 1 v_9) fun v_10 =>
      optK (rd1 s_1 v_10) fun v_11 =>
      optK (lenOfA v_11) fun v_12 =>
      optK (arithV .geq i1 (.int .i64 v_12)) fun v_14 =>
      vc_topo_Graph_SetLink_j0 X g0 i1 up2 v_3 v_14 K s_1))) s
def vc_topo_Graph_SetLink_ann : Nat → List Nat := fun _ => []
theorem vc_topo_Graph_SetLink_eq (X : Told) (g0 : AVal) (i1 : AVal) (up2 : AVal) (K : AVal → Heap → Prop) (s : Heap) : wpC Try.prog X vc_topo_Graph_SetLink_ann Try.f19.ntmps none (bodyOf Try.f19) (envOf [g0, i1, up2]) (fun e env s => retK e (resK Try.prog Try.f19.results.toList env (fun vs => K (oneV vs) s) s)) s = vc_topo_Graph_SetLink X g0 i1 up2 K s := by kernel_rfl
theorem vc_topo_Graph_SetLink_ok {X : Told} (hX : FrX X) (hn : X 19 = none) {g0 : AVal} {i1 : AVal} {up2 : AVal} {K : AVal → Heap → Prop} {s : Heap} (h : vc_topo_Graph_SetLink X g0 i1 up2 K s) : wpCall Try.prog X 19 [g0, i1, up2] K s :=
  wpCall_code hX vc_topo_Graph_SetLink_ann hn Try.func19 (by kernel_rfl : Try.f19.body = some (bodyOf Try.f19)) (by kernel_rfl) ((vc_topo_Graph_SetLink_eq X g0 i1 up2 K s).mpr h)
theorem vc_topo_Graph_SetLink_in {g0 : AVal} {i1 : AVal} {up2 : AVal} {K : AVal → Heap → Prop} {s : Heap} (h : vc_topo_Graph_SetLink XX g0 i1 up2 K s) : wpCall Try.prog XX 19 [g0, i1, up2] K s := vc_topo_Graph_SetLink_ok XX_fr rfl h
/-- leafmesh/leafmeshkit.Same[bool] (20) -/
def vc_leafmeshkit_Same_bool__l0 (X : Told) (a0 : AVal) (b1 : AVal) (i5 : AVal) (I0 : List AVal → Heap → Nat → Prop) (m0 : Nat) (K : AVal → Heap → Prop) (s : Heap) : Prop :=
  optK (lenOfA a0) fun v_5 =>
  optK (arithV .lss i5 (.int .i64 v_5)) fun v_7 =>
  boolK v_7
   (optK (iaddrS 1 a0 i5) fun v_8 =>
    optK (rd1 s v_8) fun v_9 =>
    optK (iaddrS 1 b1 i5) fun v_10 =>
    optK (rd1 s v_10) fun v_11 =>
    optK (negB true (eqV 1 false v_9 v_11)) fun v_12 =>
    boolK v_12
     (K (.bool false) s)
     (optK (arithV .add i5 (.int .i64 1)) fun v_13 =>
      ∃ m', m' < m0 ∧ I0 [v_13] s m'))
   (K (.bool true) s)
def vc_leafmeshkit_Same_bool_ (X : Told) (a0 : AVal) (b1 : AVal) (K : AVal → Heap → Prop) (s : Heap) : Prop :=
  optK (lenOfA a0) fun v_0 =>
  optK (lenOfA b1) fun v_2 =>
  optK (negB true (eqV 0 false (.int .i64 v_0) (.int .i64 v_2))) fun v_4 =>
  boolK v_4
   (K (.bool false) s)
   (∃ I0 : List AVal → Heap → Nat → Prop, (∃ m, I0 [(.int .i64 0)] s m) ∧ ∀ (f : Env) (s : Heap) (m0 : Nat), I0 [f 5] s m0 →
      vc_leafmeshkit_Same_bool__l0 X a0 b1 (f 5) I0 m0 K s)
def vc_leafmeshkit_Same_bool__ann : Nat → List Nat := fun k => cond (Nat.beq k 8) [5] ([])
theorem vc_leafmeshkit_Same_bool__eq (X : Told) (a0 : AVal) (b1 : AVal) (K : AVal → Heap → Prop) (s : Heap) : wpC Try.prog X vc_leafmeshkit_Same_bool__ann Try.f20.ntmps none (bodyOf Try.f20) (envOf [a0, b1]) (fun e env s => retK e (resK Try.prog Try.f20.results.toList env (fun vs => K (oneV vs) s) s)) s = vc_leafmeshkit_Same_bool_ X a0 b1 K s := by kernel_rfl
theorem vc_leafmeshkit_Same_bool__ok {X : Told} (hX : FrX X) (hn : X 20 = none) {a0 : AVal} {b1 : AVal} {K : AVal → Heap → Prop} {s : Heap} (h : vc_leafmeshkit_Same_bool_ X a0 b1 K s) : wpCall Try.prog X 20 [a0, b1] K s :=
  wpCall_code hX vc_leafmeshkit_Same_bool__ann hn Try.func20 (by kernel_rfl : Try.f20.body = some (bodyOf Try.f20)) (by kernel_rfl) ((vc_leafmeshkit_Same_bool__eq X a0 b1 K s).mpr h)
theorem vc_leafmeshkit_Same_bool__in {a0 : AVal} {b1 : AVal} {K : AVal → Heap → Prop} {s : Heap} (h : vc_leafmeshkit_Same_bool_ XX a0 b1 K s) : wpCall Try.prog XX 20 [a0, b1] K s := vc_leafmeshkit_Same_bool__ok XX_fr rfl h
/-- (*leafmesh/topo.Graph).Flags (21) -/
def vc_topo_Graph_Flags_l0 (X : Told) (g0 : AVal) (flags3 : AVal) (t15 : AVal) (t16 : AVal) (I0 : List AVal → Heap → Nat → Prop) (m0 : Nat) (K : AVal → Heap → Prop) (s : Heap) : Prop :=
  optK (arithV .lss t16 t15) fun v_14 =>
  boolK v_14
   (wpCall Try.prog X 25 [g0, t16] (fun v_15 s_16 =>
    optK (iaddrS 1 flags3 t16) fun v_17 =>
    optK (wr1 s_16 v_17 v_15) fun s_18 =>
    optK (arithV .add t16 (.int .i64 1)) fun v_19 =>
    ∃ m', m' < m0 ∧ I0 [v_19] s_18 m') s)
   (K flags3 s)
def vc_topo_Graph_Flags (X : Told) (g0 : AVal) (K : AVal → Heap → Prop) (s : Heap) : Prop :=
  wpCall Try.prog X 53 [g0] (fun v_0 s_1 =>
  optK (unaryA .not v_0) fun v_2 =>
  boolK v_2
   (K .nilslc s_1)
   (optK (nilCheckA g0) fun v_3 =>
    optK (addOff 1 v_3) fun v_4 =>
    optK (rd1 s_1 v_4) fun v_5 =>
    optK (lenOfA v_5) fun v_6 =>
    optK (nat? (.int .i64 v_6)) fun n_8 => optK (nat? (.int .i64 v_6)) fun n_9 => (n_8 ≤ n_9 ∧ n_9 ≤ 4294967296) ∧ newK 4 (repl n_9 [(.bool false)]) (fun b_10 s_11 =>
    optK (lenOfA (.slc b_10 0 n_8 (some n_9) 1)) fun v_12 =>
    ∃ I0 : List AVal → Heap → Nat → Prop, (∃ m, I0 [(.int .i64 0)] s_11 m) ∧ ∀ (f : Env) (s : Heap) (m0 : Nat), I0 [f 16] s m0 →
      vc_topo_Graph_Flags_l0 X g0 (.slc b_10 0 n_8 (some n_9) 1) (.int .i64 v_12) (f 16) I0 m0 K s) s_1)) s
def vc_topo_Graph_Flags_ann : Nat → List Nat := fun k => cond (Nat.beq k 10) [16] ([])
theorem vc_topo_Graph_Flags_eq (X : Told) (g0 : AVal) (K : AVal → Heap → Prop) (s : Heap) : wpC Try.prog X vc_topo_Graph_Flags_ann Try.f21.ntmps none (bodyOf Try.f21) (envOf [g0]) (fun e env s => retK e (resK Try.prog Try.f21.results.toList env (fun vs => K (oneV vs) s) s)) s = vc_topo_Graph_Flags X g0 K s := by kernel_rfl
theorem vc_topo_Graph_Flags_ok {X : Told} (hX : FrX X) (hn : X 21 = none) {g0 : AVal} {K : AVal → Heap → Prop} {s : Heap} (h : vc_topo_Graph_Flags X g0 K s) : wpCall Try.prog X 21 [g0] K s :=
  wpCall_code hX vc_topo_Graph_Flags_ann hn Try.func21 (by kernel_rfl : Try.f21.body = some (bodyOf Try.f21)) (by kernel_rfl) ((vc_topo_Graph_Flags_eq X g0 K s).mpr h)
theorem vc_topo_Graph_Flags_in {g0 : AVal} {K : AVal → Heap → Prop} {s : Heap} (h : vc_topo_Graph_Flags XX g0 K s) : wpCall Try.prog XX 21 [g0] K s := vc_topo_Graph_Flags_ok XX_fr rfl h
/-- (*leafmesh/topo.Graph).SetNode (22) -/
def vc_topo_Graph_SetNode_j0 (X : Told) (g0 : AVal) (n1 : AVal) (up2 : AVal) (t14 : AVal) (t20 : AVal) (K : AVal → Heap → Prop) (s : Heap) : Prop :=
  optK (pickV t14 (.bool true) t20) fun v_4 =>
  boolK v_4
   (K (.int .i64 2) s)
   (optK (nilCheckA g0) fun v_5 =>
    optK (addOff 4 v_5) fun v_6 =>
    wpCall Try.prog X 44 [v_6, n1, up2] (fun v_7 s_8 =>
    K (.int .i64 0) s_8) s)
def vc_topo_Graph_SetNode (X : Told) (g0 : AVal) (n1 : AVal) (up2 : AVal) (K : AVal → Heap → Prop) (s : Heap) : Prop :=
  wpCall Try.prog X 53 [g0] (fun v_0 s_1 =>
  optK (unaryA .not v_0) fun v_2 =>
  boolK v_2
   (K (.int .i64 1) s_1)
   (optK (arithV .lss n1 (.int .i64 0)) fun v_3 =>
    boolK v_3
     (vc_topo_Graph_SetNode_j0 X g0 n1 up2 v_3 .undef K s_1)
     (optK (nilCheckA g0) fun v_9 =>
      optK (addOff 0 v_9) fun v_10 =>
      optK (rd1 s_1 v_10) fun v_11 =>
      optK (arithV .geq n1 v_11) fun v_12 =>
      vc_topo_Graph_SetNode_j0 X g0 n1 up2 v_3 v_12 K s_1))) s
def vc_topo_Graph_SetNode_ann : Nat → List Nat := fun _ => []
theorem vc_topo_Graph_SetNode_eq (X : Told) (g0 : AVal) (n1 : AVal) (up2 : AVal) (K : AVal → Heap → Prop) (s : Heap) : wpC Try.prog X vc_topo_Graph_SetNode_ann Try.f22.ntmps none (bodyOf Try.f22) (envOf [g0, n1, up2]) (fun e env s => retK e (resK Try.prog Try.f22.results.toList env (fun vs => K (oneV vs) s) s)) s = vc_topo_Graph_SetNode X g0 n1 up2 K s := by kernel_rfl
theorem vc_topo_Graph_SetNode_ok {X : Told} (hX : FrX X) (hn : X 22 = none) {g0 : AVal} {n1 : AVal} {up2 : AVal} {K : AVal → Heap → Prop} {s : Heap} (h : vc_topo_Graph_SetNode X g0 n1 up2 K s) : wpCall Try.prog X 22 [g0, n1, up2] K s :=
  wpCall_code hX vc_topo_Graph_SetNode_ann hn Try.func22 (by kernel_rfl : Try.f22.body = some (bodyOf Try.f22)) (by kernel_rfl) ((vc_topo_Graph_SetNode_eq X g0 n1 up2 K s).mpr h)
theorem vc_topo_Graph_SetNode_in {g0 : AVal} {n1 : AVal} {up2 : AVal} {K : AVal → Heap → Prop} {s : Heap} (h : vc_topo_Graph_SetNode XX g0 n1 up2 K s) : wpCall Try.prog XX 22 [g0, n1, up2] K s := vc_topo_Graph_SetNode_ok XX_fr rfl h
/-- (*leafmesh/topo.Graph).Neighbors (23) -/
def vc_topo_Graph_Neighbors_j1 (X : Told) (edges5 : AVal) (t16 : AVal) (I0 : List AVal → Heap → Nat → Prop) (m0 : Nat) (K : AVal → Heap → Prop) (s : Heap) : Prop :=
  optK (arithV .add t16 (.int .i64 1)) fun v_17 =>
  ∃ m', m' < m0 ∧ I0 [edges5, v_17] s m'
def vc_topo_Graph_Neighbors_l0 (X : Told) (g0 : AVal) (n1 : AVal) (edges5 : AVal) (t14 : AVal) (t15 : AVal) (t16 : AVal) (I0 : List AVal → Heap → Nat → Prop) (m0 : Nat) (K : AVal → Heap → Prop) (s : Heap) : Prop :=
  optK (arithV .lss t16 t15) fun v_8 =>
  boolK v_8
   (optK (iaddrS 3 t14 t16) fun v_9 =>
    optK (rdN s 3 v_9) fun v_10 =>
    newK 26 [(.int .i64 0), (.int .i64 0), (.int .i64 0)] (fun b_11 s_12 =>
    optK (wrAgg s_12 3 (.ptr b_11 0) (.agg v_10)) fun s_13 =>
    wpCall Try.prog X 25 [g0, t16] (fun v_14 s_15 =>
    optK (unaryA .not v_14) fun v_16 =>
    boolK v_16
     (vc_topo_Graph_Neighbors_j1 X edges5 t16 I0 m0 K s_15)
     (optK (addOff 0 (.ptr b_11 0)) fun v_18 =>
      optK (rd1 s_15 v_18) fun v_19 =>
      optK (negB false (eqV 0 false v_19 n1)) fun v_20 =>
      boolK v_20
       (optK (addOff 1 (.ptr b_11 0)) fun v_21 =>
        optK (rd1 s_15 v_21) fun v_22 =>
        optK (addOff 2 (.ptr b_11 0)) fun v_23 =>
        optK (rd1 s_15 v_23) fun v_24 =>
        optK (fillR [(.int .i64 0), (.int .i64 0), (.int .i64 0)] [(0, 1, t16), (1, 1, v_22), (2, 1, v_24)]) fun c_25 =>
        optK (fillR (repl 1 [(.int .i64 0), (.int .i64 0), (.int .i64 0)]) [(0, 3, (.agg c_25))]) fun c_26 => allOne c_26 = true ∧ newK 59 c_26 (fun b_27 s_28 =>
        appK 59 3 edges5 (.slc b_27 0 1 (some 1) 3) (fun v_29 s_30 =>
        vc_topo_Graph_Neighbors_j1 X v_29 t16 I0 m0 K s_30) s_28) s_15)
       (optK (addOff 1 (.ptr b_11 0)) fun v_31 =>
        optK (rd1 s_15 v_31) fun v_32 =>
        optK (negB false (eqV 0 false v_32 n1)) fun v_33 =>
        boolK v_33
         (optK (addOff 0 (.ptr b_11 0)) fun v_34 =>
          optK (rd1 s_15 v_34) fun v_35 =>
          optK (addOff 2 (.ptr b_11 0)) fun v_36 =>
          optK (rd1 s_15 v_36) fun v_37 =>
          optK (fillR [(.int .i64 0), (.int .i64 0), (.int .i64 0)] [(0, 1, t16), (1, 1, v_35), (2, 1, v_37)]) fun c_38 =>
          optK (fillR (repl 1 [(.int .i64 0), (.int .i64 0), (.int .i64 0)]) [(0, 3, (.agg c_38))]) fun c_39 => allOne c_39 = true ∧ newK 59 c_39 (fun b_40 s_41 =>
          appK 59 3 edges5 (.slc b_40 0 1 (some 1) 3) (fun v_42 s_43 =>
          vc_topo_Graph_Neighbors_j1 X v_42 t16 I0 m0 K s_43) s_41) s_15)
         (vc_topo_Graph_Neighbors_j1 X edges5 t16 I0 m0 K s_15)))) s_13) s)
   (K edges5 s)
def vc_topo_Graph_Neighbors (X : Told) (g0 : AVal) (n1 : AVal) (K : AVal → Heap → Prop) (s : Heap) : Prop :=
  wpCall Try.prog X 53 [g0] (fun v_0 s_1 =>
  optK (unaryA .not v_0) fun v_2 =>
  boolK v_2
   (K .nilslc s_1)
   (optK (nilCheckA g0) fun v_3 =>
    optK (addOff 1 v_3) fun v_4 =>
    optK (rd1 s_1 v_4) fun v_5 =>
    optK (lenOfA v_5) fun v_6 =>
    ∃ I0 : List AVal → Heap → Nat → Prop, (∃ m, I0 [.nilslc, (.int .i64 0)] s_1 m) ∧ ∀ (f : Env) (s : Heap) (m0 : Nat), I0 [f 5, f 16] s m0 →
      vc_topo_Graph_Neighbors_l0 X g0 n1 (f 5) v_5 (.int .i64 v_6) (f 16) I0 m0 K s)) s
def vc_topo_Graph_Neighbors_ann : Nat → List Nat := fun k => cond (Nat.beq k 10) [5, 16] ([])
theorem vc_topo_Graph_Neighbors_eq (X : Told) (g0 : AVal) (n1 : AVal) (K : AVal → Heap → Prop) (s : Heap) : wpC Try.prog X vc_topo_Graph_Neighbors_ann Try.f23.ntmps none (bodyOf Try.f23) (envOf [g0, n1]) (fun e env s => retK e (resK Try.prog Try.f23.results.toList env (fun vs => K (oneV vs) s) s)) s = vc_topo_Graph_Neighbors X g0 n1 K s := by kernel_rfl
theorem vc_topo_Graph_Neighbors_ok {X : Told} (hX : FrX X) (hn : X 23 = none) {g0 : AVal} {n1 : AVal} {K : AVal → Heap → Prop} {s : Heap} (h : vc_topo_Graph_Neighbors X g0 n1 K s) : wpCall Try.prog X 23 [g0, n1] K s :=
  wpCall_code hX vc_topo_Graph_Neighbors_ann hn Try.func23 (by kernel_rfl : Try.f23.body = some (bodyOf Try.f23)) (by kernel_rfl) ((vc_topo_Graph_Neighbors_eq X g0 n1 K s).mpr h)
theorem vc_topo_Graph_Neighbors_in {g0 : AVal} {n1 : AVal} {K : AVal → Heap → Prop} {s : Heap} (h : vc_topo_Graph_Neighbors XX g0 n1 K s) : wpCall Try.prog XX 23 [g0, n1] K s := vc_topo_Graph_Neighbors_ok XX_fr rfl h
/-- (*leafmesh/topo.Graph).Up (25) -/
def vc_topo_Graph_Up_j3 (X : Told) (t42 : AVal) (t48 : AVal) (K : AVal → Heap → Prop) (s : Heap) : Prop :=
  optK (pickV t42 t48 (.bool false)) fun v_18 =>
  K v_18 s
def vc_topo_Graph_Up_j2 (X : Told) (g0 : AVal) (l5 : AVal) (t34 : AVal) (t40 : AVal) (K : AVal → Heap → Prop) (s : Heap) : Prop :=
  optK (pickV t34 t40 (.bool false)) fun v_17 =>
  boolK v_17
   (optK (nilCheckA g0) fun v_19 =>
    optK (addOff 4 v_19) fun v_20 =>
    optK (addOff 1 l5) fun v_21 =>
    optK (rd1 s v_21) fun v_22 =>
    wpCall Try.prog X 54 [v_20, v_22] (fun v_23 s_24 =>
    vc_topo_Graph_Up_j3 X v_17 v_23 K s_24) s)
   (vc_topo_Graph_Up_j3 X v_17 .undef K s)
def vc_topo_Graph_Up_j1 (X : Told) (g0 : AVal) (i1 : AVal) (t13 : AVal) (t20 : AVal) (K : AVal → Heap → Prop) (s : Heap) : Prop :=
  optK (pickV t13 (.bool true) t20) fun v_4 =>
  boolK v_4
   (K (.bool false) s)
   (optK (nilCheckA g0) fun v_5 =>
    optK (addOff 1 v_5) fun v_6 =>
    optK (rd1 s v_6) fun v_7 =>
    optK (iaddrS 3 v_7 i1) fun v_8 =>
    optK (rdN s 3 v_8) fun v_9 =>
    newK 26 [(.int .i64 0), (.int .i64 0), (.int .i64 0)] (fun b_10 s_11 =>
    optK (wrAgg s_11 3 (.ptr b_10 0) (.agg v_9)) fun s_12 =>
    optK (nilCheckA g0) fun v_13 =>
    optK (addOff 2 v_13) fun v_14 =>
    wpCall Try.prog X 54 [v_14, i1] (fun v_15 s_16 =>
    boolK v_15
     (optK (nilCheckA g0) fun v_25 =>
      optK (addOff 4 v_25) fun v_26 =>
      optK (addOff 0 (.ptr b_10 0)) fun v_27 =>
      optK (rd1 s_16 v_27) fun v_28 =>
      wpCall Try.prog X 54 [v_26, v_28] (fun v_29 s_30 =>
      vc_topo_Graph_Up_j2 X g0 (.ptr b_10 0) v_15 v_29 K s_30) s_16)
     (vc_topo_Graph_Up_j2 X g0 (.ptr b_10 0) v_15 .undef K s_16)) s_12) s)
def vc_topo_Graph_Up_j0 (X : Told) (g0 : AVal) (i1 : AVal) (t9 : AVal) (t11 : AVal) (K : AVal → Heap → Prop) (s : Heap) : Prop :=
  optK (pickV t9 (.bool true) t11) fun v_3 =>
  boolK v_3
   (vc_topo_Graph_Up_j1 X g0 i1 v_3 .undef K s)
   (optK (nilCheckA g0) fun v_31 =>
    optK (addOff 1 v_31) fun v_32 =>
    optK (rd1 s v_32) fun v_33 =>
    optK (lenOfA v_33) fun v_34 =>
    optK (arithV .geq i1 (.int .i64 v_34)) fun v_36 =>
    vc_topo_Graph_Up_j1 X g0 i1 v_3 v_36 K s)
def vc_topo_Graph_Up (X : Told) (g0 : AVal) (i1 : AVal) (K : AVal → Heap → Prop) (s : Heap) : Prop :=
  wpCall Try.prog X 53 [g0] (fun v_0 s_1 =>
  optK (unaryA .not v_0) fun v_2 =>
  boolK v_2
   (vc_topo_Graph_Up_j0 X g0 i1 v_2 .undef K s_1)
   (optK (arithV .lss i1 (.int .i64 0)) fun v_37 =>
    vc_topo_Graph_Up_j0 X g0 i1 v_2 v_37 K s_1)) s
def vc_topo_Graph_Up_ann : Nat → List Nat := fun _ => []
theorem vc_topo_Graph_Up_eq (X : Told) (g0 : AVal) (i1 : AVal) (K : AVal → Heap → Prop) (s : Heap) : wpC Try.prog X vc_topo_Graph_Up_ann Try.f25.ntmps none (bodyOf Try.f25) (envOf [g0, i1]) (fun e env s => retK e (resK Try.prog Try.f25.results.toList env (fun vs => K (oneV vs) s) s)) s = vc_topo_Graph_Up X g0 i1 K s := by kernel_rfl
theorem vc_topo_Graph_Up_ok {X : Told} (hX : FrX X) (hn : X 25 = none) {g0 : AVal} {i1 : AVal} {K : AVal → Heap → Prop} {s : Heap} (h : vc_topo_Graph_Up X g0 i1 K s) : wpCall Try.prog X 25 [g0, i1] K s :=
  wpCall_code hX vc_topo_Graph_Up_ann hn Try.func25 (by kernel_rfl : Try.f25.body = some (bodyOf Try.f25)) (by kernel_rfl) ((vc_topo_Graph_Up_eq X g0 i1 K s).mpr h)
theorem vc_topo_Graph_Up_in {g0 : AVal} {i1 : AVal} {K : AVal → Heap → Prop} {s : Heap} (h : vc_topo_Graph_Up XX g0 i1 K s) : wpCall Try.prog XX 25 [g0, i1] K s := vc_topo_Graph_Up_ok XX_fr rfl h
/-- (*leafmesh/topo.Graph).Alive (26) -/
def vc_topo_Graph_Alive_j2 (X : Told) (t19 : AVal) (t24 : AVal) (K : AVal → Heap → Prop) (s : Heap) : Prop :=
  optK (pickV t19 t24 (.bool false)) fun v_4 =>
  K v_4 s
def vc_topo_Graph_Alive_j1 (X : Told) (g0 : AVal) (n1 : AVal) (t11 : AVal) (t17 : AVal) (K : AVal → Heap → Prop) (s : Heap) : Prop :=
  optK (pickV t11 t17 (.bool false)) fun v_3 =>
  boolK v_3
   (optK (nilCheckA g0) fun v_5 =>
    optK (addOff 4 v_5) fun v_6 =>
    wpCall Try.prog X 54 [v_6, n1] (fun v_7 s_8 =>
    vc_topo_Graph_Alive_j2 X v_3 v_7 K s_8) s)
   (vc_topo_Graph_Alive_j2 X v_3 .undef K s)
def vc_topo_Graph_Alive_j0 (X : Told) (g0 : AVal) (n1 : AVal) (t7 : AVal) (t9 : AVal) (K : AVal → Heap → Prop) (s : Heap) : Prop :=
  optK (pickV t7 t9 (.bool false)) fun v_2 =>
  boolK v_2
   (optK (nilCheckA g0) fun v_9 =>
    optK (addOff 0 v_9) fun v_10 =>
    optK (rd1 s v_10) fun v_11 =>
    optK (arithV .lss n1 v_11) fun v_12 =>
    vc_topo_Graph_Alive_j1 X g0 n1 v_2 v_12 K s)
   (vc_topo_Graph_Alive_j1 X g0 n1 v_2 .undef K s)
def vc_topo_Graph_Alive (X : Told) (g0 : AVal) (n1 : AVal) (K : AVal → Heap → Prop) (s : Heap) : Prop :=
  wpCall Try.prog X 53 [g0] (fun v_0 s_1 =>
  boolK v_0
   (optK (arithV .geq n1 (.int .i64 0)) fun v_13 =>
    vc_topo_Graph_Alive_j0 X g0 n1 v_0 v_13 K s_1)
   (vc_topo_Graph_Alive_j0 X g0 n1 v_0 .undef K s_1)) s
def vc_topo_Graph_Alive_ann : Nat → List Nat := fun _ => []
theorem vc_topo_Graph_Alive_eq (X : Told) (g0 : AVal) (n1 : AVal) (K : AVal → Heap → Prop) (s : Heap) : wpC Try.prog X vc_topo_Graph_Alive_ann Try.f26.ntmps none (bodyOf Try.f26) (envOf [g0, n1]) (fun e env s => retK e (resK Try.prog Try.f26.results.toList env (fun vs => K (oneV vs) s) s)) s = vc_topo_Graph_Alive X g0 n1 K s := by kernel_rfl
theorem vc_topo_Graph_Alive_ok {X : Told} (hX : FrX X) (hn : X 26 = none) {g0 : AVal} {n1 : AVal} {K : AVal → Heap → Prop} {s : Heap} (h : vc_topo_Graph_Alive X g0 n1 K s) : wpCall Try.prog X 26 [g0, n1] K s :=
  wpCall_code hX vc_topo_Graph_Alive_ann hn Try.func26 (by kernel_rfl : Try.f26.body = some (bodyOf Try.f26)) (by kernel_rfl) ((vc_topo_Graph_Alive_eq X g0 n1 K s).mpr h)
theorem vc_topo_Graph_Alive_in {g0 : AVal} {n1 : AVal} {K : AVal → Heap → Prop} {s : Heap} (h : vc_topo_Graph_Alive XX g0 n1 K s) : wpCall Try.prog XX 26 [g0, n1] K s := vc_topo_Graph_Alive_ok XX_fr rfl h
/-- (*leafmesh/topo.Graph).Component (27) -/
def vc_topo_Graph_Component (X : Told) (g0 : AVal) (n1 : AVal) (K : AVal → Heap → Prop) (s : Heap) : Prop :=
  wpCall Try.prog X 26 [g0, n1] (fun v_0 s_1 =>
  optK (unaryA .not v_0) fun v_2 =>
  boolK v_2
   (K .nilslc s_1)
   (wpCall Try.prog X 56 [g0, n1] (fun v_3 s_4 =>
    wpCall Try.prog X 55 [v_3] (fun v_5 s_6 =>
    K v_5 s_6) s_4) s_1)) s
def vc_topo_Graph_Component_ann : Nat → List Nat := fun _ => []
theorem vc_topo_Graph_Component_eq (X : Told) (g0 : AVal) (n1 : AVal) (K : AVal → Heap → Prop) (s : Heap) : wpC Try.prog X vc_topo_Graph_Component_ann Try.f27.ntmps none (bodyOf Try.f27) (envOf [g0, n1]) (fun e env s => retK e (resK Try.prog Try.f27.results.toList env (fun vs => K (oneV vs) s) s)) s = vc_topo_Graph_Component X g0 n1 K s := by kernel_rfl
theorem vc_topo_Graph_Component_ok {X : Told} (hX : FrX X) (hn : X 27 = none) {g0 : AVal} {n1 : AVal} {K : AVal → Heap → Prop} {s : Heap} (h : vc_topo_Graph_Component X g0 n1 K s) : wpCall Try.prog X 27 [g0, n1] K s :=
  wpCall_code hX vc_topo_Graph_Component_ann hn Try.func27 (by kernel_rfl : Try.f27.body = some (bodyOf Try.f27)) (by kernel_rfl) ((vc_topo_Graph_Component_eq X g0 n1 K s).mpr h)
theorem vc_topo_Graph_Component_in {g0 : AVal} {n1 : AVal} {K : AVal → Heap → Prop} {s : Heap} (h : vc_topo_Graph_Component XX g0 n1 K s) : wpCall Try.prog XX 27 [g0, n1] K s := vc_topo_Graph_Component_ok XX_fr rfl h
/-- leafmesh/leafmeshlaw09.made (28) -/
def vc_leafmeshlaw09_made_l3 (X : Told) (t1 : AVal) (g3 : AVal) (i6 : AVal) (I3 : List AVal → Heap → Nat → Prop) (m3 : Nat) (K : AVal → Heap → Prop) (s : Heap) : Prop :=
  optK (addOff 3 t1) fun v_30 =>
  optK (rd1 s v_30) fun v_31 =>
  optK (lenOfA v_31) fun v_32 =>
  optK (arithV .lss i6 (.int .i64 v_32)) fun v_34 =>
  boolK v_34
   (optK (addOff 3 t1) fun v_35 =>
    optK (rd1 s v_35) fun v_36 =>
    optK (iaddrS 1 v_36 i6) fun v_37 =>
    optK (rd1 s v_37) fun v_38 =>
    wpCall Try.prog X 19 [g3, v_38, (.bool false)] (fun v_39 s_40 =>
    optK (arithV .add i6 (.int .i64 1)) fun v_41 =>
    ∃ m', m' < m3 ∧ I3 [v_41] s_40 m') s)
   (K g3 s)
def vc_leafmeshlaw09_made_l2 (X : Told) (t1 : AVal) (g3 : AVal) (i5 : AVal) (I2 : List AVal → Heap → Nat → Prop) (m2 : Nat) (K : AVal → Heap → Prop) (s : Heap) : Prop :=
  optK (addOff 2 t1) fun v_18 =>
  optK (rd1 s v_18) fun v_19 =>
  optK (lenOfA v_19) fun v_20 =>
  optK (arithV .lss i5 (.int .i64 v_20)) fun v_22 =>
  boolK v_22
   (optK (addOff 2 t1) fun v_23 =>
    optK (rd1 s v_23) fun v_24 =>
    optK (iaddrS 1 v_24 i5) fun v_25 =>
    optK (rd1 s v_25) fun v_26 =>
    wpCall Try.prog X 22 [g3, v_26, (.bool false)] (fun v_27 s_28 =>
    optK (arithV .add i5 (.int .i64 1)) fun v_29 =>
    ∃ m', m' < m2 ∧ I2 [v_29] s_28 m') s)
   (∃ I3 : List AVal → Heap → Nat → Prop, (∃ m, I3 [(.int .i64 0)] s m) ∧ ∀ (f : Env) (s : Heap) (m3 : Nat), I3 [f 6] s m3 →
      vc_leafmeshlaw09_made_l3 X t1 g3 (f 6) I3 m3 K s)
def vc_leafmeshlaw09_made_j1 (X : Told) (t1 : AVal) (t17 : AVal) (t21 : AVal) (K : AVal → Heap → Prop) (s : Heap) : Prop :=
  optK (pickV t17 (.bool true) t21) fun v_8 =>
  boolK v_8
   (K .nilptr s)
   (optK (addOff 0 t1) fun v_9 =>
    optK (rd1 s v_9) fun v_10 =>
    optK (addOff 1 t1) fun v_11 =>
    optK (rd1 s v_11) fun v_12 =>
    wpCall Try.prog X 12 [v_10, v_12] (fun v_13 s_14 =>
    optK (extractA v_13 0) fun v_15 =>
    optK (extractA v_13 1) fun v_16 =>
    optK (negB true (eqV 0 true v_16 (.int .i64 0))) fun v_17 =>
    boolK v_17
     (K .nilptr s_14)
     (∃ I2 : List AVal → Heap → Nat → Prop, (∃ m, I2 [(.int .i64 0)] s_14 m) ∧ ∀ (f : Env) (s : Heap) (m2 : Nat), I2 [f 5] s m2 →
        vc_leafmeshlaw09_made_l2 X t1 v_15 (f 5) I2 m2 K s)) s)
def vc_leafmeshlaw09_made_j0 (X : Told) (t1 : AVal) (t11 : AVal) (t15 : AVal) (K : AVal → Heap → Prop) (s : Heap) : Prop :=
  optK (pickV t11 (.bool true) t15) fun v_7 =>
  boolK v_7
   (vc_leafmeshlaw09_made_j1 X t1 v_7 .undef K s)
   (optK (addOff 3 t1) fun v_42 =>
    optK (rd1 s v_42) fun v_43 =>
    optK (lenOfA v_43) fun v_44 =>
    optK (arithV .gtr (.int .i64 v_44) (.int .i64 60)) fun v_46 =>
    vc_leafmeshlaw09_made_j1 X t1 v_7 v_46 K s)
def vc_leafmeshlaw09_made (X : Told) (t0 : AVal) (K : AVal → Heap → Prop) (s : Heap) : Prop :=
  boxK 52 t0 (fun b_0 s_1 =>
  optK (addOff 1 b_0) fun v_2 =>
  optK (rd1 s_1 v_2) fun v_3 =>
  optK (lenOfA v_3) fun v_4 =>
  optK (arithV .gtr (.int .i64 v_4) (.int .i64 60)) fun v_6 =>
  boolK v_6
   (vc_leafmeshlaw09_made_j0 X b_0 v_6 .undef K s_1)
   (optK (addOff 2 b_0) fun v_47 =>
    optK (rd1 s_1 v_47) fun v_48 =>
    optK (lenOfA v_48) fun v_49 =>
    optK (arithV .gtr (.int .i64 v_49) (.int .i64 60)) fun v_51 =>
    vc_leafmeshlaw09_made_j0 X b_0 v_6 v_51 K s_1)) s
def vc_leafmeshlaw09_made_ann : Nat → List Nat := fun k => cond (Nat.beq k 14) [5] (cond (Nat.beq k 22) [6] ([]))
theorem vc_leafmeshlaw09_made_eq (X : Told) (t0 : AVal) (K : AVal → Heap → Prop) (s : Heap) : wpC Try.prog X vc_leafmeshlaw09_made_ann Try.f28.ntmps none (bodyOf Try.f28) (envOf [t0]) (fun e env s => retK e (resK Try.prog Try.f28.results.toList env (fun vs => K (oneV vs) s) s)) s = vc_leafmeshlaw09_made X t0 K s := by kernel_rfl
theorem vc_leafmeshlaw09_made_ok {X : Told} (hX : FrX X) (hn : X 28 = none) {t0 : AVal} {K : AVal → Heap → Prop} {s : Heap} (h : vc_leafmeshlaw09_made X t0 K s) : wpCall Try.prog X 28 [t0] K s :=
  wpCall_code hX vc_leafmeshlaw09_made_ann hn Try.func28 (by kernel_rfl : Try.f28.body = some (bodyOf Try.f28)) (by kernel_rfl) ((vc_leafmeshlaw09_made_eq X t0 K s).mpr h)
theorem vc_leafmeshlaw09_made_in {t0 : AVal} {K : AVal → Heap → Prop} {s : Heap} (h : vc_leafmeshlaw09_made XX t0 K s) : wpCall Try.prog XX 28 [t0] K s := vc_leafmeshlaw09_made_ok XX_fr rfl h
/-- (*leafmesh/topo.Graph).Components (29) -/
def vc_topo_Graph_Components_j1 (X : Told) (all3 : AVal) (t11 : AVal) (I0 : List AVal → Heap → Nat → Prop) (m0 : Nat) (K : AVal → Heap → Prop) (s : Heap) : Prop :=
  optK (arithV .add t11 (.int .i64 1)) fun v_5 =>
  ∃ m', m' < m0 ∧ I0 [all3, v_5] s m'
def vc_topo_Graph_Components_l3 (X : Told) (all3 : AVal) (seen4 : AVal) (part6 : AVal) (t11 : AVal) (t25 : AVal) (t26 : AVal) (t27 : AVal) (I3 : List AVal → Heap → Nat → Prop) (m3 : Nat) (I0 : List AVal → Heap → Nat → Prop) (m0 : Nat) (K : AVal → Heap → Prop) (s : Heap) : Prop :=
  optK (arithV .lss t27 t26) fun v_14 =>
  boolK v_14
   (optK (iaddrS 1 t25 t27) fun v_15 =>
    optK (rd1 s v_15) fun v_16 =>
    wpCall Try.prog X 44 [seen4, v_16, (.bool true)] (fun v_17 s_18 =>
    optK (arithV .add t27 (.int .i64 1)) fun v_19 =>
    ∃ m', m' < m3 ∧ I3 [v_19] s_18 m') s)
   (optK (fillR (repl 1 [.nilslc]) [(0, 1, part6)]) fun c_20 => allOne c_20 = true ∧ newK 40 c_20 (fun b_21 s_22 =>
    appK 40 1 all3 (.slc b_21 0 1 (some 1) 1) (fun v_23 s_24 =>
    vc_topo_Graph_Components_j1 X v_23 t11 I0 m0 K s_24) s_22) s)
def vc_topo_Graph_Components_j2 (X : Told) (g0 : AVal) (all3 : AVal) (seen4 : AVal) (n5 : AVal) (t11 : AVal) (t18 : AVal) (t20 : AVal) (I0 : List AVal → Heap → Nat → Prop) (m0 : Nat) (K : AVal → Heap → Prop) (s : Heap) : Prop :=
  optK (pickV t18 (.bool true) t20) fun v_9 =>
  boolK v_9
   (vc_topo_Graph_Components_j1 X all3 t11 I0 m0 K s)
   (wpCall Try.prog X 27 [g0, n5] (fun v_10 s_11 =>
    optK (lenOfA v_10) fun v_12 =>
    ∃ I3 : List AVal → Heap → Nat → Prop, (∃ m, I3 [(.int .i64 0)] s_11 m) ∧ ∀ (f : Env) (s : Heap) (m3 : Nat), I3 [f 27] s m3 →
      vc_topo_Graph_Components_l3 X all3 seen4 v_10 t11 v_10 (.int .i64 v_12) (f 27) I3 m3 I0 m0 K s) s)
def vc_topo_Graph_Components_l0 (X : Told) (g0 : AVal) (all3 : AVal) (seen4 : AVal) (t10 : AVal) (t11 : AVal) (I0 : List AVal → Heap → Nat → Prop) (m0 : Nat) (K : AVal → Heap → Prop) (s : Heap) : Prop :=
  optK (arithV .lss t11 t10) fun v_4 =>
  boolK v_4
   (wpCall Try.prog X 26 [g0, t11] (fun v_6 s_7 =>
    optK (unaryA .not v_6) fun v_8 =>
    boolK v_8
     (vc_topo_Graph_Components_j2 X g0 all3 seen4 t11 t11 v_8 .undef I0 m0 K s_7)
     (wpCall Try.prog X 54 [seen4, t11] (fun v_25 s_26 =>
      vc_topo_Graph_Components_j2 X g0 all3 seen4 t11 t11 v_8 v_25 I0 m0 K s_26) s_7)) s)
   (K all3 s)
def vc_topo_Graph_Components (X : Told) (g0 : AVal) (K : AVal → Heap → Prop) (s : Heap) : Prop :=
  newK 74 [(.int .u64 0), (.int .u64 0)] (fun b_0 s_1 =>
  wpCall Try.prog X 38 [g0] (fun v_2 s_3 =>
  ∃ I0 : List AVal → Heap → Nat → Prop, (∃ m, I0 [.nilslc, (.int .i64 0)] s_3 m) ∧ ∀ (f : Env) (s : Heap) (m0 : Nat), I0 [f 3, f 11] s m0 →
    vc_topo_Graph_Components_l0 X g0 (f 3) (.ptr b_0 0) v_2 (f 11) I0 m0 K s) s_1) s
def vc_topo_Graph_Components_ann : Nat → List Nat := fun k => cond (Nat.beq k 8) [3, 11] (cond (Nat.beq k 18) [27] ([]))
theorem vc_topo_Graph_Components_eq (X : Told) (g0 : AVal) (K : AVal → Heap → Prop) (s : Heap) : wpC Try.prog X vc_topo_Graph_Components_ann Try.f29.ntmps none (bodyOf Try.f29) (envOf [g0]) (fun e env s => retK e (resK Try.prog Try.f29.results.toList env (fun vs => K (oneV vs) s) s)) s = vc_topo_Graph_Components X g0 K s := by kernel_rfl
theorem vc_topo_Graph_Components_ok {X : Told} (hX : FrX X) (hn : X 29 = none) {g0 : AVal} {K : AVal → Heap → Prop} {s : Heap} (h : vc_topo_Graph_Components X g0 K s) : wpCall Try.prog X 29 [g0] K s :=
  wpCall_code hX vc_topo_Graph_Components_ann hn Try.func29 (by kernel_rfl : Try.f29.body = some (bodyOf Try.f29)) (by kernel_rfl) ((vc_topo_Graph_Components_eq X g0 K s).mpr h)
theorem vc_topo_Graph_Components_in {g0 : AVal} {K : AVal → Heap → Prop} {s : Heap} (h : vc_topo_Graph_Components XX g0 K s) : wpCall Try.prog XX 29 [g0] K s := vc_topo_Graph_Components_ok XX_fr rfl h
/-- leafmesh/leafmeshlaw09.has (30) -/
def vc_leafmeshlaw09_has_l0 (X : Told) (l0 : AVal) (n1 : AVal) (i5 : AVal) (I0 : List AVal → Heap → Nat → Prop) (m0 : Nat) (K : AVal → Heap → Prop) (s : Heap) : Prop :=
  optK (lenOfA l0) fun v_0 =>
  optK (arithV .lss i5 (.int .i64 v_0)) fun v_2 =>
  boolK v_2
   (optK (iaddrS 1 l0 i5) fun v_3 =>
    optK (rd1 s v_3) fun v_4 =>
    optK (negB false (eqV 0 false v_4 n1)) fun v_5 =>
    boolK v_5
     (K (.bool true) s)
     (optK (arithV .add i5 (.int .i64 1)) fun v_6 =>
      ∃ m', m' < m0 ∧ I0 [v_6] s m'))
   (K (.bool false) s)
def vc_leafmeshlaw09_has (X : Told) (l0 : AVal) (n1 : AVal) (K : AVal → Heap → Prop) (s : Heap) : Prop :=
  ∃ I0 : List AVal → Heap → Nat → Prop, (∃ m, I0 [(.int .i64 0)] s m) ∧ ∀ (f : Env) (s : Heap) (m0 : Nat), I0 [f 5] s m0 →
    vc_leafmeshlaw09_has_l0 X l0 n1 (f 5) I0 m0 K s
def vc_leafmeshlaw09_has_ann : Nat → List Nat := fun k => cond (Nat.beq k 4) [5] ([])
theorem vc_leafmeshlaw09_has_eq (X : Told) (l0 : AVal) (n1 : AVal) (K : AVal → Heap → Prop) (s : Heap) : wpC Try.prog X vc_leafmeshlaw09_has_ann Try.f30.ntmps none (bodyOf Try.f30) (envOf [l0, n1]) (fun e env s => retK e (resK Try.prog Try.f30.results.toList env (fun vs => K (oneV vs) s) s)) s = vc_leafmeshlaw09_has X l0 n1 K s := by kernel_rfl
theorem vc_leafmeshlaw09_has_ok {X : Told} (hX : FrX X) (hn : X 30 = none) {l0 : AVal} {n1 : AVal} {K : AVal → Heap → Prop} {s : Heap} (h : vc_leafmeshlaw09_has X l0 n1 K s) : wpCall Try.prog X 30 [l0, n1] K s :=
  wpCall_code hX vc_leafmeshlaw09_has_ann hn Try.func30 (by kernel_rfl : Try.f30.body = some (bodyOf Try.f30)) (by kernel_rfl) ((vc_leafmeshlaw09_has_eq X l0 n1 K s).mpr h)
theorem vc_leafmeshlaw09_has_in {l0 : AVal} {n1 : AVal} {K : AVal → Heap → Prop} {s : Heap} (h : vc_leafmeshlaw09_has XX l0 n1 K s) : wpCall Try.prog XX 30 [l0, n1] K s := vc_leafmeshlaw09_has_ok XX_fr rfl h
/-- leafmesh/leafmeshlaw09.edge (31) -/
def vc_leafmeshlaw09_edge_l0 (X : Told) (l0 : AVal) (x3 : AVal) (i5 : AVal) (I0 : List AVal → Heap → Nat → Prop) (m0 : Nat) (K : AVal → Heap → Prop) (s : Heap) : Prop :=
  optK (lenOfA l0) fun v_2 =>
  optK (arithV .lss i5 (.int .i64 v_2)) fun v_4 =>
  boolK v_4
   (optK (iaddrS 3 l0 i5) fun v_5 =>
    optK (rdN s 3 v_5) fun v_6 =>
    optK (rdN s 3 x3) fun v_7 =>
    optK (negB false (eqAgg Try.prog 59 (.agg v_6) (.agg v_7))) fun v_8 =>
    boolK v_8
     (K (.bool true) s)
     (optK (arithV .add i5 (.int .i64 1)) fun v_9 =>
      ∃ m', m' < m0 ∧ I0 [v_9] s m'))
   (K (.bool false) s)
def vc_leafmeshlaw09_edge (X : Told) (l0 : AVal) (x1 : AVal) (K : AVal → Heap → Prop) (s : Heap) : Prop :=
  boxK 59 x1 (fun b_0 s_1 =>
  ∃ I0 : List AVal → Heap → Nat → Prop, (∃ m, I0 [(.int .i64 0)] s_1 m) ∧ ∀ (f : Env) (s : Heap) (m0 : Nat), I0 [f 5] s m0 →
    vc_leafmeshlaw09_edge_l0 X l0 b_0 (f 5) I0 m0 K s) s
def vc_leafmeshlaw09_edge_ann : Nat → List Nat := fun k => cond (Nat.beq k 4) [5] ([])
theorem vc_leafmeshlaw09_edge_eq (X : Told) (l0 : AVal) (x1 : AVal) (K : AVal → Heap → Prop) (s : Heap) : wpC Try.prog X vc_leafmeshlaw09_edge_ann Try.f31.ntmps none (bodyOf Try.f31) (envOf [l0, x1]) (fun e env s => retK e (resK Try.prog Try.f31.results.toList env (fun vs => K (oneV vs) s) s)) s = vc_leafmeshlaw09_edge X l0 x1 K s := by kernel_rfl
theorem vc_leafmeshlaw09_edge_ok {X : Told} (hX : FrX X) (hn : X 31 = none) {l0 : AVal} {x1 : AVal} {K : AVal → Heap → Prop} {s : Heap} (h : vc_leafmeshlaw09_edge X l0 x1 K s) : wpCall Try.prog X 31 [l0, x1] K s :=
  wpCall_code hX vc_leafmeshlaw09_edge_ann hn Try.func31 (by kernel_rfl : Try.f31.body = some (bodyOf Try.f31)) (by kernel_rfl) ((vc_leafmeshlaw09_edge_eq X l0 x1 K s).mpr h)
theorem vc_leafmeshlaw09_edge_in {l0 : AVal} {x1 : AVal} {K : AVal → Heap → Prop} {s : Heap} (h : vc_leafmeshlaw09_edge XX l0 x1 K s) : wpCall Try.prog XX 31 [l0, x1] K s := vc_leafmeshlaw09_edge_ok XX_fr rfl h
/-- leafmesh/leafmeshkit.Pick (32) -/
def vc_leafmeshkit_Pick_j0 (X : Told) (x0 : AVal) (K : AVal → Heap → Prop) (s : Heap) : Prop :=
  K x0 s
def vc_leafmeshkit_Pick (X : Told) (x0 : AVal) (n1 : AVal) (K : AVal → Heap → Prop) (s : Heap) : Prop :=
  optK (arithV .rem x0 n1) fun v_0 =>
  optK (arithV .lss v_0 (.int .i64 0)) fun v_1 =>
  boolK v_1
   (optK (arithV .add v_0 n1) fun v_2 =>
    vc_leafmeshkit_Pick_j0 X v_2 K s)
   (vc_leafmeshkit_Pick_j0 X v_0 K s)
def vc_leafmeshkit_Pick_ann : Nat → List Nat := fun _ => []
theorem vc_leafmeshkit_Pick_eq (X : Told) (x0 : AVal) (n1 : AVal) (K : AVal → Heap → Prop) (s : Heap) : wpC Try.prog X vc_leafmeshkit_Pick_ann Try.f32.ntmps none (bodyOf Try.f32) (envOf [x0, n1]) (fun e env s => retK e (resK Try.prog Try.f32.results.toList env (fun vs => K (oneV vs) s) s)) s = vc_leafmeshkit_Pick X x0 n1 K s := by kernel_rfl
theorem vc_leafmeshkit_Pick_ok {X : Told} (hX : FrX X) (hn : X 32 = none) {x0 : AVal} {n1 : AVal} {K : AVal → Heap → Prop} {s : Heap} (h : vc_leafmeshkit_Pick X x0 n1 K s) : wpCall Try.prog X 32 [x0, n1] K s :=
  wpCall_code hX vc_leafmeshkit_Pick_ann hn Try.func32 (by kernel_rfl : Try.f32.body = some (bodyOf Try.f32)) (by kernel_rfl) ((vc_leafmeshkit_Pick_eq X x0 n1 K s).mpr h)
theorem vc_leafmeshkit_Pick_in {x0 : AVal} {n1 : AVal} {K : AVal → Heap → Prop} {s : Heap} (h : vc_leafmeshkit_Pick XX x0 n1 K s) : wpCall Try.prog XX 32 [x0, n1] K s := vc_leafmeshkit_Pick_ok XX_fr rfl h
/-- leafmesh/leafmeshlaw09.parts (33) -/
def vc_leafmeshlaw09_parts_l0 (X : Told) (out4 : AVal) (l5 : AVal) (i6 : AVal) (I0 : List AVal → Heap → Nat → Prop) (m0 : Nat) (K : AVal → Heap → Prop) (s : Heap) : Prop :=
  optK (lenOfA l5) fun v_2 =>
  optK (arithV .lss i6 (.int .i64 v_2)) fun v_4 =>
  boolK v_4
   (optK (iaddrS 1 l5 i6) fun v_5 =>
    optK (rd1 s v_5) fun v_6 =>
    appK 3 1 out4 v_6 (fun v_7 s_8 =>
    optK (fillR (repl 1 [(.int .i64 0)]) [(0, 1, (.int .i64 (-1)))]) fun c_9 => allOne c_9 = true ∧ newK 3 c_9 (fun b_10 s_11 =>
    appK 3 1 v_7 (.slc b_10 0 1 (some 1) 1) (fun v_12 s_13 =>
    optK (arithV .add i6 (.int .i64 1)) fun v_14 =>
    ∃ m', m' < m0 ∧ I0 [v_12, v_14] s_13 m') s_11) s_8) s)
   (optK (lenOfA l5) fun v_15 =>
    K (.tup [(.int .i64 v_15), out4]) s)
def vc_leafmeshlaw09_parts (X : Told) (g0 : AVal) (K : AVal → Heap → Prop) (s : Heap) : Prop :=
  wpCall Try.prog X 29 [g0] (fun v_0 s_1 =>
  ∃ I0 : List AVal → Heap → Nat → Prop, (∃ m, I0 [.nilslc, (.int .i64 0)] s_1 m) ∧ ∀ (f : Env) (s : Heap) (m0 : Nat), I0 [f 4, f 6] s m0 →
    vc_leafmeshlaw09_parts_l0 X (f 4) v_0 (f 6) I0 m0 K s) s
def vc_leafmeshlaw09_parts_ann : Nat → List Nat := fun k => cond (Nat.beq k 8) [4, 6] ([])
theorem vc_leafmeshlaw09_parts_eq (X : Told) (g0 : AVal) (K : AVal → Heap → Prop) (s : Heap) : wpC Try.prog X vc_leafmeshlaw09_parts_ann Try.f33.ntmps none (bodyOf Try.f33) (envOf [g0]) (fun e env s => retK e (resK Try.prog Try.f33.results.toList env (fun vs => K (oneV vs) s) s)) s = vc_leafmeshlaw09_parts X g0 K s := by kernel_rfl
theorem vc_leafmeshlaw09_parts_ok {X : Told} (hX : FrX X) (hn : X 33 = none) {g0 : AVal} {K : AVal → Heap → Prop} {s : Heap} (h : vc_leafmeshlaw09_parts X g0 K s) : wpCall Try.prog X 33 [g0] K s :=
  wpCall_code hX vc_leafmeshlaw09_parts_ann hn Try.func33 (by kernel_rfl : Try.f33.body = some (bodyOf Try.f33)) (by kernel_rfl) ((vc_leafmeshlaw09_parts_eq X g0 K s).mpr h)
theorem vc_leafmeshlaw09_parts_in {g0 : AVal} {K : AVal → Heap → Prop} {s : Heap} (h : vc_leafmeshlaw09_parts XX g0 K s) : wpCall Try.prog XX 33 [g0] K s := vc_leafmeshlaw09_parts_ok XX_fr rfl h
/-- (*leafmesh/leafmeshref09.Graph).SetLink (34) -/
def vc_leafmeshref09_Graph_SetLink_j0 (X : Told) (g0 : AVal) (i1 : AVal) (up2 : AVal) (t9 : AVal) (t16 : AVal) (K : AVal → Heap → Prop) (s : Heap) : Prop :=
  optK (pickV t9 (.bool true) t16) fun v_1 =>
  boolK v_1
   (K (.int .i64 2) s)
   (optK (nilCheckA g0) fun v_2 =>
    optK (addOff 3 v_2) fun v_3 =>
    optK (rd1 s v_3) fun v_4 =>
    optK (iaddrS 1 v_4 i1) fun v_5 =>
    optK (wr1 s v_5 up2) fun s_6 =>
    K (.int .i64 0) s_6)
def vc_leafmeshref09_Graph_SetLink (X : Told) (g0 : AVal) (i1 : AVal) (up2 : AVal) (K : AVal → Heap → Prop) (s : Heap) : Prop :=
  optK (arithV .lss i1 (.int .i64 0)) fun v_0 =>
  boolK v_0
   (vc_leafmeshref09_Graph_SetLink_j0 X g0 i1 up2 v_0 .undef K s)
   (optK (nilCheckA g0) fun v_7 =>
    optK (addOff 1 v_7) fun v_8 =>
    optK (rd1 s v_8) fun v_9 =>
    optK (lenOfA v_9) fun v_10 =>
    optK (arithV .geq i1 (.int .i64 v_10)) fun v_12 =>
    vc_leafmeshref09_Graph_SetLink_j0 X g0 i1 up2 v_0 v_12 K s)
def vc_leafmeshref09_Graph_SetLink_ann : Nat → List Nat := fun _ => []
theorem vc_leafmeshref09_Graph_SetLink_eq (X : Told) (g0 : AVal) (i1 : AVal) (up2 : AVal) (K : AVal → Heap → Prop) (s : Heap) : wpC Try.prog X vc_leafmeshref09_Graph_SetLink_ann Try.f34.ntmps none (bodyOf Try.f34) (envOf [g0, i1, up2]) (fun e env s => retK e (resK Try.prog Try.f34.results.toList env (fun vs => K (oneV vs) s) s)) s = vc_leafmeshref09_Graph_SetLink X g0 i1 up2 K s := by kernel_rfl
theorem vc_leafmeshref09_Graph_SetLink_ok {X : Told} (hX : FrX X) (hn : X 34 = none) {g0 : AVal} {i1 : AVal} {up2 : AVal} {K : AVal → Heap → Prop} {s : Heap} (h : vc_leafmeshref09_Graph_SetLink X g0 i1 up2 K s) : wpCall Try.prog X 34 [g0, i1, up2] K s :=
  wpCall_code hX vc_leafmeshref09_Graph_SetLink_ann hn Try.func34 (by kernel_rfl : Try.f34.body = some (bodyOf Try.f34)) (by kernel_rfl) ((vc_leafmeshref09_Graph_SetLink_eq X g0 i1 up2 K s).mpr h)
theorem vc_leafmeshref09_Graph_SetLink_in {g0 : AVal} {i1 : AVal} {up2 : AVal} {K : AVal → Heap → Prop} {s : Heap} (h : vc_leafmeshref09_Graph_SetLink XX g0 i1 up2 K s) : wpCall Try.prog XX 34 [g0, i1, up2] K s := vc_leafmeshref09_Graph_SetLink_ok XX_fr rfl h
/-- (*leafmesh/leafmeshref09.Graph).SetNode (35) -/
def vc_leafmeshref09_Graph_SetNode_j0 (X : Told) (g0 : AVal) (n1 : AVal) (up2 : AVal) (t9 : AVal) (t15 : AVal) (K : AVal → Heap → Prop) (s : Heap) : Prop :=
  optK (pickV t9 (.bool true) t15) fun v_1 =>
  boolK v_1
   (K (.int .i64 2) s)
   (optK (nilCheckA g0) fun v_2 =>
    optK (addOff 2 v_2) fun v_3 =>
    optK (rd1 s v_3) fun v_4 =>
    optK (iaddrS 1 v_4 n1) fun v_5 =>
    optK (wr1 s v_5 up2) fun s_6 =>
    K (.int .i64 0) s_6)
def vc_leafmeshref09_Graph_SetNode (X : Told) (g0 : AVal) (n1 : AVal) (up2 : AVal) (K : AVal → Heap → Prop) (s : Heap) : Prop :=
  optK (arithV .lss n1 (.int .i64 0)) fun v_0 =>
  boolK v_0
   (vc_leafmeshref09_Graph_SetNode_j0 X g0 n1 up2 v_0 .undef K s)
   (optK (nilCheckA g0) fun v_7 =>
    optK (addOff 0 v_7) fun v_8 =>
    optK (rd1 s v_8) fun v_9 =>
    optK (arithV .geq n1 v_9) fun v_10 =>
    vc_leafmeshref09_Graph_SetNode_j0 X g0 n1 up2 v_0 v_10 K s)
def vc_leafmeshref09_Graph_SetNode_ann : Nat → List Nat := fun _ => []
theorem vc_leafmeshref09_Graph_SetNode_eq (X : Told) (g0 : AVal) (n1 : AVal) (up2 : AVal) (K : AVal → Heap → Prop) (s : Heap) : wpC Try.prog X vc_leafmeshref09_Graph_SetNode_ann Try.f35.ntmps none (bodyOf Try.f35) (envOf [g0, n1, up2]) (fun e env s => retK e (resK Try.prog Try.f35.results.toList env (fun vs => K (oneV vs) s) s)) s = vc_leafmeshref09_Graph_SetNode X g0 n1 up2 K s := by kernel_rfl
theorem vc_leafmeshref09_Graph_SetNode_ok {X : Told} (hX : FrX X) (hn : X 35 = none) {g0 : AVal} {n1 : AVal} {up2 : AVal} {K : AVal → Heap → Prop} {s : Heap} (h : vc_leafmeshref09_Graph_SetNode X g0 n1 up2 K s) : wpCall Try.prog X 35 [g0, n1, up2] K s :=
  wpCall_code hX vc_leafmeshref09_Graph_SetNode_ann hn Try.func35 (by kernel_rfl : Try.f35.body = some (bodyOf Try.f35)) (by kernel_rfl) ((vc_leafmeshref09_Graph_SetNode_eq X g0 n1 up2 K s).mpr h)
theorem vc_leafmeshref09_Graph_SetNode_in {g0 : AVal} {n1 : AVal} {up2 : AVal} {K : AVal → Heap → Prop} {s : Heap} (h : vc_leafmeshref09_Graph_SetNode XX g0 n1 up2 K s) : wpCall Try.prog XX 35 [g0, n1, up2] K s := vc_leafmeshref09_Graph_SetNode_ok XX_fr rfl h
/-- (*leafmesh/topo.Graph).Copy (36) -/
def vc_topo_Graph_Copy (X : Told) (g0 : AVal) (K : AVal → Heap → Prop) (s : Heap) : Prop :=
  wpCall Try.prog X 53 [g0] (fun v_0 s_1 =>
  optK (unaryA .not v_0) fun v_2 =>
  boolK v_2
   (K .nilptr s_1)
   (optK (nilCheckA g0) fun v_3 =>
    optK (rdN s_1 6 v_3) fun v_4 =>
    newK 76 [(.int .i64 0), .nilslc, (.int .u64 0), (.int .u64 0), (.int .u64 0), (.int .u64 0)] (fun b_5 s_6 =>
    optK (wrAgg s_6 6 (.ptr b_5 0) (.agg v_4)) fun s_7 =>
    optK (nilCheckA g0) fun v_8 =>
    optK (addOff 1 v_8) fun v_9 =>
    optK (rd1 s_7 v_9) fun v_10 =>
    wpCall Try.prog X 43 [v_10] (fun v_11 s_12 =>
    optK (addOff 1 (.ptr b_5 0)) fun v_13 =>
    optK (wr1 s_12 v_13 v_11) fun s_14 =>
    K (.ptr b_5 0) s_14) s_7) s_1)) s
def vc_topo_Graph_Copy_ann : Nat → List Nat := fun _ => []
theorem vc_topo_Graph_Copy_eq (X : Told) (g0 : AVal) (K : AVal → Heap → Prop) (s : Heap) : wpC Try.prog X vc_topo_Graph_Copy_ann Try.f36.ntmps none (bodyOf Try.f36) (envOf [g0]) (fun e env s => retK e (resK Try.prog Try.f36.results.toList env (fun vs => K (oneV vs) s) s)) s = vc_topo_Graph_Copy X g0 K s := by kernel_rfl
theorem vc_topo_Graph_Copy_ok {X : Told} (hX : FrX X) (hn : X 36 = none) {g0 : AVal} {K : AVal → Heap → Prop} {s : Heap} (h : vc_topo_Graph_Copy X g0 K s) : wpCall Try.prog X 36 [g0] K s :=
  wpCall_code hX vc_topo_Graph_Copy_ann hn Try.func36 (by kernel_rfl : Try.f36.body = some (bodyOf Try.f36)) (by kernel_rfl) ((vc_topo_Graph_Copy_eq X g0 K s).mpr h)
theorem vc_topo_Graph_Copy_in {g0 : AVal} {K : AVal → Heap → Prop} {s : Heap} (h : vc_topo_Graph_Copy XX g0 K s) : wpCall Try.prog XX 36 [g0] K s := vc_topo_Graph_Copy_ok XX_fr rfl h
/-- (*leafmesh/leafmeshref09.Graph).Copy (37) -/
def vc_leafmeshref09_Graph_Copy (X : Told) (g0 : AVal) (K : AVal → Heap → Prop) (s : Heap) : Prop :=
  optK (nilCheckA g0) fun v_0 =>
  optK (addOff 0 v_0) fun v_1 =>
  optK (rd1 s v_1) fun v_2 =>
  optK (fillR (repl 0 [(.int .i64 0), (.int .i64 0), (.int .i64 0)]) []) fun c_3 => allOne c_3 = true ∧ newK 26 c_3 (fun b_4 s_5 =>
  (∀ b, s b ≠ none → s b = none → s_5 b = none) →
  optK (nilCheckA g0) fun v_6 =>
  optK (addOff 1 v_6) fun v_7 =>
  optK (rd1 (cutH [(s, (add s s_5))] (add s s_5)) v_7) fun v_8 =>
  appK 26 3 (.slc b_4 0 0 (some 0) 3) v_8 (fun v_9 s_10 =>
  (∀ b, (add s s_5) b ≠ none → (add s s_5) b = none → s_10 b = none) →
  optK (fillR (repl 0 [(.bool false)]) []) fun c_11 => allOne c_11 = true ∧ newK 4 c_11 (fun b_12 s_13 =>
  (∀ b, (add (add s s_5) s_10) b ≠ none → (cutH [(s, (add s s_5)), ((add s s_5), (add (add s s_5) s_10))] (add (add s s_5) s_10)) b = none → s_13 b = none) →
  optK (nilCheckA g0) fun v_14 =>
  optK (addOff 2 v_14) fun v_15 =>
  optK (rd1 (cutH [(s, (add s s_5)), ((add s s_5), (add (add s s_5) s_10)), ((add (add s s_5) s_10), (add (add (add s s_5) s_10) s_13))] (add (add (add s s_5) s_10) s_13)) v_15) fun v_16 =>
  appK 4 1 (.slc b_12 0 0 (some 0) 1) v_16 (fun v_17 s_18 =>
  (∀ b, (add (add (add s s_5) s_10) s_13) b ≠ none → (add (add (add s s_5) s_10) s_13) b = none → s_18 b = none) →
  optK (fillR (repl 0 [(.bool false)]) []) fun c_19 => allOne c_19 = true ∧ newK 4 c_19 (fun b_20 s_21 =>
  (∀ b, (add (add (add (add s s_5) s_10) s_13) s_18) b ≠ none → (cutH [(s, (add s s_5)), ((add s s_5), (add (add s s_5) s_10)), ((add (add s s_5) s_10), (add (add (add s s_5) s_10) s_13)), ((add (add (add s s_5) s_10) s_13), (add (add (add (add s s_5) s_10) s_13) s_18))] (add (add (add (add s s_5) s_10) s_13) s_18)) b = none → s_21 b = none) →
  optK (nilCheckA g0) fun v_22 =>
  optK (addOff 3 v_22) fun v_23 =>
  optK (rd1 (cutH [(s, (add s s_5)), ((add s s_5), (add (add s s_5) s_10)), ((add (add s s_5) s_10), (add (add (add s s_5) s_10) s_13)), ((add (add (add s s_5) s_10) s_13), (add (add (add (add s s_5) s_10) s_13) s_18)), ((add (add (add (add s s_5) s_10) s_13) s_18), (add (add (add (add (add s s_5) s_10) s_13) s_18) s_21))] (add (add (add (add (add s s_5) s_10) s_13) s_18) s_21)) v_23) fun v_24 =>
  appK 4 1 (.slc b_20 0 0 (some 0) 1) v_24 (fun v_25 s_26 =>
  (∀ b, (add (add (add (add (add s s_5) s_10) s_13) s_18) s_21) b ≠ none → (add (add (add (add (add s s_5) s_10) s_13) s_18) s_21) b = none → s_26 b = none) →
  optK (fillR [(.int .i64 0), .nilslc, .nilslc, .nilslc] [(0, 1, v_2), (1, 1, v_9), (2, 1, v_17), (3, 1, v_25)]) fun c_27 =>
  boxK 87 (.agg c_27) (fun b_28 s_29 =>
  K b_28 s_29) (add (add (add (add (add (add s s_5) s_10) s_13) s_18) s_21) s_26)) (frz (add (add (add (add (add s s_5) s_10) s_13) s_18) s_21))) (frz (cutH [(s, (add s s_5)), ((add s s_5), (add (add s s_5) s_10)), ((add (add s s_5) s_10), (add (add (add s s_5) s_10) s_13)), ((add (add (add s s_5) s_10) s_13), (add (add (add (add s s_5) s_10) s_13) s_18))] (add (add (add (add s s_5) s_10) s_13) s_18)))) (frz (add (add (add s s_5) s_10) s_13))) (frz (cutH [(s, (add s s_5)), ((add s s_5), (add (add s s_5) s_10))] (add (add s s_5) s_10)))) (frz (add s s_5))) (frz s)
def vc_leafmeshref09_Graph_Copy_ann : Nat → List Nat := fun _ => []
theorem vc_leafmeshref09_Graph_Copy_eq (X : Told) (g0 : AVal) (K : AVal → Heap → Prop) (s : Heap) : wpC Try.prog X vc_leafmeshref09_Graph_Copy_ann Try.f37.ntmps none (bodyOf Try.f37) (envOf [g0]) (fun e env s => retK e (resK Try.prog Try.f37.results.toList env (fun vs => K (oneV vs) s) s)) s = vc_leafmeshref09_Graph_Copy X g0 K s := by kernel_rfl
theorem vc_leafmeshref09_Graph_Copy_ok {X : Told} (hX : FrX X) (hn : X 37 = none) {g0 : AVal} {K : AVal → Heap → Prop} {s : Heap} (h : vc_leafmeshref09_Graph_Copy X g0 K s) : wpCall Try.prog X 37 [g0] K s :=
  wpCall_code hX vc_leafmeshref09_Graph_Copy_ann hn Try.func37 (by kernel_rfl : Try.f37.body = some (bodyOf Try.f37)) (by kernel_rfl) ((vc_leafmeshref09_Graph_Copy_eq X g0 K s).mpr h)
theorem vc_leafmeshref09_Graph_Copy_in {g0 : AVal} {K : AVal → Heap → Prop} {s : Heap} (h : vc_leafmeshref09_Graph_Copy XX g0 K s) : wpCall Try.prog XX 37 [g0] K s := vc_leafmeshref09_Graph_Copy_ok XX_fr rfl h
/-- (*leafmesh/topo.Graph).Nodes (38) -/
def vc_topo_Graph_Nodes (X : Told) (g0 : AVal) (K : AVal → Heap → Prop) (s : Heap) : Prop :=
  wpCall Try.prog X 53 [g0] (fun v_0 s_1 =>
  optK (unaryA .not v_0) fun v_2 =>
  boolK v_2
   (K (.int .i64 0) s_1)
   (optK (nilCheckA g0) fun v_3 =>
    optK (addOff 0 v_3) fun v_4 =>
    optK (rd1 s_1 v_4) fun v_5 =>
    K v_5 s_1)) s
def vc_topo_Graph_Nodes_ann : Nat → List Nat := fun _ => []
theorem vc_topo_Graph_Nodes_eq (X : Told) (g0 : AVal) (K : AVal → Heap → Prop) (s : Heap) : wpC Try.prog X vc_topo_Graph_Nodes_ann Try.f38.ntmps none (bodyOf Try.f38) (envOf [g0]) (fun e env s => retK e (resK Try.prog Try.f38.results.toList env (fun vs => K (oneV vs) s) s)) s = vc_topo_Graph_Nodes X g0 K s := by kernel_rfl
theorem vc_topo_Graph_Nodes_ok {X : Told} (hX : FrX X) (hn : X 38 = none) {g0 : AVal} {K : AVal → Heap → Prop} {s : Heap} (h : vc_topo_Graph_Nodes X g0 K s) : wpCall Try.prog X 38 [g0] K s :=
  wpCall_code hX vc_topo_Graph_Nodes_ann hn Try.func38 (by kernel_rfl : Try.f38.body = some (bodyOf Try.f38)) (by kernel_rfl) ((vc_topo_Graph_Nodes_eq X g0 K s).mpr h)
theorem vc_topo_Graph_Nodes_in {g0 : AVal} {K : AVal → Heap → Prop} {s : Heap} (h : vc_topo_Graph_Nodes XX g0 K s) : wpCall Try.prog XX 38 [g0] K s := vc_topo_Graph_Nodes_ok XX_fr rfl h
/-- (*leafmesh/topo.Graph).Links (39) -/
def vc_topo_Graph_Links (X : Told) (g0 : AVal) (K : AVal → Heap → Prop) (s : Heap) : Prop :=
  wpCall Try.prog X 53 [g0] (fun v_0 s_1 =>
  optK (unaryA .not v_0) fun v_2 =>
  boolK v_2
   (K .nilslc s_1)
   (optK (nilCheckA g0) fun v_3 =>
    optK (addOff 1 v_3) fun v_4 =>
    optK (rd1 s_1 v_4) fun v_5 =>
    wpCall Try.prog X 43 [v_5] (fun v_6 s_7 =>
    K v_6 s_7) s_1)) s
def vc_topo_Graph_Links_ann : Nat → List Nat := fun _ => []
theorem vc_topo_Graph_Links_eq (X : Told) (g0 : AVal) (K : AVal → Heap → Prop) (s : Heap) : wpC Try.prog X vc_topo_Graph_Links_ann Try.f39.ntmps none (bodyOf Try.f39) (envOf [g0]) (fun e env s => retK e (resK Try.prog Try.f39.results.toList env (fun vs => K (oneV vs) s) s)) s = vc_topo_Graph_Links X g0 K s := by kernel_rfl
theorem vc_topo_Graph_Links_ok {X : Told} (hX : FrX X) (hn : X 39 = none) {g0 : AVal} {K : AVal → Heap → Prop} {s : Heap} (h : vc_topo_Graph_Links X g0 K s) : wpCall Try.prog X 39 [g0] K s :=
  wpCall_code hX vc_topo_Graph_Links_ann hn Try.func39 (by kernel_rfl : Try.f39.body = some (bodyOf Try.f39)) (by kernel_rfl) ((vc_topo_Graph_Links_eq X g0 K s).mpr h)
theorem vc_topo_Graph_Links_in {g0 : AVal} {K : AVal → Heap → Prop} {s : Heap} (h : vc_topo_Graph_Links XX g0 K s) : wpCall Try.prog XX 39 [g0] K s := vc_topo_Graph_Links_ok XX_fr rfl h
/-- leafmesh/leafmeshkit.Same[leafmesh/api.Edge] (40) -/
def vc_leafmeshkit_Same_api_Edge__l0 (X : Told) (a0 : AVal) (b1 : AVal) (i5 : AVal) (I0 : List AVal → Heap → Nat → Prop) (m0 : Nat) (K : AVal → Heap → Prop) (s : Heap) : Prop :=
  optK (lenOfA a0) fun v_5 =>
  optK (arithV .lss i5 (.int .i64 v_5)) fun v_7 =>
  boolK v_7
   (optK (iaddrS 3 a0 i5) fun v_8 =>
    optK (rdN s 3 v_8) fun v_9 =>
    optK (iaddrS 3 b1 i5) fun v_10 =>
    optK (rdN s 3 v_10) fun v_11 =>
    optK (negB true (eqAgg Try.prog 59 (.agg v_9) (.agg v_11))) fun v_12 =>
    boolK v_12
     (K (.bool false) s)
     (optK (arithV .add i5 (.int .i64 1)) fun v_13 =>
      ∃ m', m' < m0 ∧ I0 [v_13] s m'))
   (K (.bool true) s)
def vc_leafmeshkit_Same_api_Edge_ (X : Told) (a0 : AVal) (b1 : AVal) (K : AVal → Heap → Prop) (s : Heap) : Prop :=
  optK (lenOfA a0) fun v_0 =>
  optK (lenOfA b1) fun v_2 =>
  optK (negB true (eqV 0 false (.int .i64 v_0) (.int .i64 v_2))) fun v_4 =>
  boolK v_4
   (K (.bool false) s)
   (∃ I0 : List AVal → Heap → Nat → Prop, (∃ m, I0 [(.int .i64 0)] s m) ∧ ∀ (f : Env) (s : Heap) (m0 : Nat), I0 [f 5] s m0 →
      vc_leafmeshkit_Same_api_Edge__l0 X a0 b1 (f 5) I0 m0 K s)
def vc_leafmeshkit_Same_api_Edge__ann : Nat → List Nat := fun k => cond (Nat.beq k 8) [5] ([])
theorem vc_leafmeshkit_Same_api_Edge__eq (X : Told) (a0 : AVal) (b1 : AVal) (K : AVal → Heap → Prop) (s : Heap) : wpC Try.prog X vc_leafmeshkit_Same_api_Edge__ann Try.f40.ntmps none (bodyOf Try.f40) (envOf [a0, b1]) (fun e env s => retK e (resK Try.prog Try.f40.results.toList env (fun vs => K (oneV vs) s) s)) s = vc_leafmeshkit_Same_api_Edge_ X a0 b1 K s := by kernel_rfl
theorem vc_leafmeshkit_Same_api_Edge__ok {X : Told} (hX : FrX X) (hn : X 40 = none) {a0 : AVal} {b1 : AVal} {K : AVal → Heap → Prop} {s : Heap} (h : vc_leafmeshkit_Same_api_Edge_ X a0 b1 K s) : wpCall Try.prog X 40 [a0, b1] K s :=
  wpCall_code hX vc_leafmeshkit_Same_api_Edge__ann hn Try.func40 (by kernel_rfl : Try.f40.body = some (bodyOf Try.f40)) (by kernel_rfl) ((vc_leafmeshkit_Same_api_Edge__eq X a0 b1 K s).mpr h)
theorem vc_leafmeshkit_Same_api_Edge__in {a0 : AVal} {b1 : AVal} {K : AVal → Heap → Prop} {s : Heap} (h : vc_leafmeshkit_Same_api_Edge_ XX a0 b1 K s) : wpCall Try.prog XX 40 [a0, b1] K s := vc_leafmeshkit_Same_api_Edge__ok XX_fr rfl h
/-- leafmesh/topo.firstError (41) -/
def vc_topo_firstError_l0 (X : Told) (t6 : AVal) (t7 : AVal) (t8 : AVal) (I0 : List AVal → Heap → Nat → Prop) (m0 : Nat) (K : AVal → Heap → Prop) (s : Heap) : Prop :=
  optK (arithV .lss t8 t7) fun v_2 =>
  boolK v_2
   (optK (iaddrS 1 t6 t8) fun v_3 =>
    optK (rd1 s v_3) fun v_4 =>
    funK Try.prog X v_4 [] (fun v_5 s_6 =>
    optK (negB true (eqV 0 true v_5 (.int .i64 0))) fun v_7 =>
    boolK v_7
     (K v_5 s_6)
     (optK (arithV .add t8 (.int .i64 1)) fun v_8 =>
      ∃ m', m' < m0 ∧ I0 [v_8] s_6 m')) s)
   (K (.int .i64 0) s)
def vc_topo_firstError (X : Told) (checks0 : AVal) (K : AVal → Heap → Prop) (s : Heap) : Prop :=
  optK (lenOfA checks0) fun v_0 =>
  ∃ I0 : List AVal → Heap → Nat → Prop, (∃ m, I0 [(.int .i64 0)] s m) ∧ ∀ (f : Env) (s : Heap) (m0 : Nat), I0 [f 8] s m0 →
    vc_topo_firstError_l0 X checks0 (.int .i64 v_0) (f 8) I0 m0 K s
def vc_topo_firstError_ann : Nat → List Nat := fun k => cond (Nat.beq k 4) [8] ([])
theorem vc_topo_firstError_eq (X : Told) (checks0 : AVal) (K : AVal → Heap → Prop) (s : Heap) : wpC Try.prog X vc_topo_firstError_ann Try.f41.ntmps none (bodyOf Try.f41) (envOf [checks0]) (fun e env s => retK e (resK Try.prog Try.f41.results.toList env (fun vs => K (oneV vs) s) s)) s = vc_topo_firstError X checks0 K s := by kernel_rfl
theorem vc_topo_firstError_ok {X : Told} (hX : FrX X) (hn : X 41 = none) {checks0 : AVal} {K : AVal → Heap → Prop} {s : Heap} (h : vc_topo_firstError X checks0 K s) : wpCall Try.prog X 41 [checks0] K s :=
  wpCall_code hX vc_topo_firstError_ann hn Try.func41 (by kernel_rfl : Try.f41.body = some (bodyOf Try.f41)) (by kernel_rfl) ((vc_topo_firstError_eq X checks0 K s).mpr h)
theorem vc_topo_firstError_in {checks0 : AVal} {K : AVal → Heap → Prop} {s : Heap} (h : vc_topo_firstError XX checks0 K s) : wpCall Try.prog XX 41 [checks0] K s := vc_topo_firstError_ok XX_fr rfl h
/-- leafmesh/topo.checks (42) -/
def vc_topo_checks (X : Told) (nodes0 : AVal) (links1 : AVal) (K : AVal → Heap → Prop) (s : Heap) : Prop :=
  boxK 3 nodes0 (fun b_0 s_1 =>
  boxK 22 links1 (fun b_2 s_3 =>
  newK 49 [.nilFunc] (fun b_4 s_5 =>
  optK (wr1 s_5 (.ptr b_4 0) (.fn (.func 57) [] [b_0])) fun s_6 =>
  optK (fillR (repl 3 [.nilFunc]) [(0, 1, (.fn (.func 58) [] [b_0])), (1, 1, (.fn (.func 59) [] [b_2])), (2, 1, (.fn (.func 60) [] [b_2, (.ptr b_4 0)]))]) fun c_7 => allOne c_7 = true ∧ newK 92 c_7 (fun b_8 s_9 =>
  K (.slc b_8 0 3 (some 3) 1) s_9) s_6) s_3) s_1) s
def vc_topo_checks_ann : Nat → List Nat := fun _ => []
theorem vc_topo_checks_eq (X : Told) (nodes0 : AVal) (links1 : AVal) (K : AVal → Heap → Prop) (s : Heap) : wpC Try.prog X vc_topo_checks_ann Try.f42.ntmps none (bodyOf Try.f42) (envOf [nodes0, links1]) (fun e env s => retK e (resK Try.prog Try.f42.results.toList env (fun vs => K (oneV vs) s) s)) s = vc_topo_checks X nodes0 links1 K s := by kernel_rfl
theorem vc_topo_checks_ok {X : Told} (hX : FrX X) (hn : X 42 = none) {nodes0 : AVal} {links1 : AVal} {K : AVal → Heap → Prop} {s : Heap} (h : vc_topo_checks X nodes0 links1 K s) : wpCall Try.prog X 42 [nodes0, links1] K s :=
  wpCall_code hX vc_topo_checks_ann hn Try.func42 (by kernel_rfl : Try.f42.body = some (bodyOf Try.f42)) (by kernel_rfl) ((vc_topo_checks_eq X nodes0 links1 K s).mpr h)
theorem vc_topo_checks_in {nodes0 : AVal} {links1 : AVal} {K : AVal → Heap → Prop} {s : Heap} (h : vc_topo_checks XX nodes0 links1 K s) : wpCall Try.prog XX 42 [nodes0, links1] K s := vc_topo_checks_ok XX_fr rfl h
/-- slices.Clone[[]leafmesh/api.Link,leafmesh/api.Link] (43) -/
def vc_slices_Clone___api_Link_api_Link_ (X : Told) (t0 : AVal) (K : AVal → Heap → Prop) (s : Heap) : Prop :=
  optK (negB false (eqV 5 true t0 .nilslc)) fun v_0 =>
  boolK v_0
   (K .nilslc s)
   (optK (fillR (repl 0 [(.int .i64 0), (.int .i64 0), (.int .i64 0)]) []) fun c_1 => allOne c_1 = true ∧ newK 26 c_1 (fun b_2 s_3 =>
    appK 26 3 (.slc b_2 0 0 (some 0) 3) t0 (fun v_4 s_5 =>
    K v_4 s_5) s_3) s)
def vc_slices_Clone___api_Link_api_Link__ann : Nat → List Nat := fun _ => []
theorem vc_slices_Clone___api_Link_api_Link__eq (X : Told) (t0 : AVal) (K : AVal → Heap → Prop) (s : Heap) : wpC Try.prog X vc_slices_Clone___api_Link_api_Link__ann Try.f43.ntmps none (bodyOf Try.f43) (envOf [t0]) (fun e env s => retK e (resK Try.prog Try.f43.results.toList env (fun vs => K (oneV vs) s) s)) s = vc_slices_Clone___api_Link_api_Link_ X t0 K s := by kernel_rfl
theorem vc_slices_Clone___api_Link_api_Link__ok {X : Told} (hX : FrX X) (hn : X 43 = none) {t0 : AVal} {K : AVal → Heap → Prop} {s : Heap} (h : vc_slices_Clone___api_Link_api_Link_ X t0 K s) : wpCall Try.prog X 43 [t0] K s :=
  wpCall_code hX vc_slices_Clone___api_Link_api_Link__ann hn Try.func43 (by kernel_rfl : Try.f43.body = some (bodyOf Try.f43)) (by kernel_rfl) ((vc_slices_Clone___api_Link_api_Link__eq X t0 K s).mpr h)
theorem vc_slices_Clone___api_Link_api_Link__in {t0 : AVal} {K : AVal → Heap → Prop} {s : Heap} (h : vc_slices_Clone___api_Link_api_Link_ XX t0 K s) : wpCall Try.prog XX 43 [t0] K s := vc_slices_Clone___api_Link_api_Link__ok XX_fr rfl h
/-- (*leafmesh/topo.bits).put (44) -/
def vc_topo_bits_put (X : Told) (b0 : AVal) (i1 : AVal) (t2 : AVal) (K : AVal → Heap → Prop) (s : Heap) : Prop :=
  boolK t2
   (optK (arithV .quo i1 (.int .i64 64)) fun v_0 =>
    optK (nilCheckA b0) fun v_1 =>
    optK (iaddrA 2 1 v_1 v_0) fun v_2 =>
    optK (rd1 s v_2) fun v_3 =>
    optK (arithV .rem i1 (.int .i64 64)) fun v_4 =>
    optK (shiftV .shl (.int .u64 1) v_4) fun v_5 =>
    optK (arithV .or v_3 v_5) fun v_6 =>
    optK (nilCheckA b0) fun v_7 =>
    optK (iaddrA 2 1 v_7 v_0) fun v_8 =>
    optK (wr1 s v_8 v_6) fun s_9 =>
    K (.tup []) s_9)
   (optK (arithV .quo i1 (.int .i64 64)) fun v_10 =>
    optK (nilCheckA b0) fun v_11 =>
    optK (iaddrA 2 1 v_11 v_10) fun v_12 =>
    optK (rd1 s v_12) fun v_13 =>
    optK (arithV .rem i1 (.int .i64 64)) fun v_14 =>
    optK (shiftV .shl (.int .u64 1) v_14) fun v_15 =>
    optK (arithV .andNot v_13 v_15) fun v_16 =>
    optK (nilCheckA b0) fun v_17 =>
    optK (iaddrA 2 1 v_17 v_10) fun v_18 =>
    optK (wr1 s v_18 v_16) fun s_19 =>
    K (.tup []) s_19)
def vc_topo_bits_put_ann : Nat → List Nat := fun _ => []
theorem vc_topo_bits_put_eq (X : Told) (b0 : AVal) (i1 : AVal) (t2 : AVal) (K : AVal → Heap → Prop) (s : Heap) : wpC Try.prog X vc_topo_bits_put_ann Try.f44.ntmps none (bodyOf Try.f44) (envOf [b0, i1, t2]) (fun e env s => retK e (resK Try.prog Try.f44.results.toList env (fun vs => K (oneV vs) s) s)) s = vc_topo_bits_put X b0 i1 t2 K s := by kernel_rfl
theorem vc_topo_bits_put_ok {X : Told} (hX : FrX X) (hn : X 44 = none) {b0 : AVal} {i1 : AVal} {t2 : AVal} {K : AVal → Heap → Prop} {s : Heap} (h : vc_topo_bits_put X b0 i1 t2 K s) : wpCall Try.prog X 44 [b0, i1, t2] K s :=
  wpCall_code hX vc_topo_bits_put_ann hn Try.func44 (by kernel_rfl : Try.f44.body = some (bodyOf Try.f44)) (by kernel_rfl) ((vc_topo_bits_put_eq X b0 i1 t2 K s).mpr h)
theorem vc_topo_bits_put_in {b0 : AVal} {i1 : AVal} {t2 : AVal} {K : AVal → Heap → Prop} {s : Heap} (h : vc_topo_bits_put XX b0 i1 t2 K s) : wpCall Try.prog XX 44 [b0, i1, t2] K s := vc_topo_bits_put_ok XX_fr rfl h
/-- leafmesh/leafmeshref09.Valid (45) -/
def vc_leafmeshref09_Valid_j6 (X : Told) (i5 : AVal) (x6 : AVal) (t53 : AVal) (t56 : AVal) (I1 : List AVal → Heap → Nat → Prop) (m1 : Nat) (K : AVal → Heap → Prop) (s : Heap) : Prop :=
  optK (pickV t53 (.bool true) t56) fun v_20 =>
  boolK v_20
   (K (.int .i64 2) s)
   (optK (addOff 0 x6) fun v_21 =>
    optK (rd1 s v_21) fun v_22 =>
    optK (addOff 1 x6) fun v_23 =>
    optK (rd1 s v_23) fun v_24 =>
    optK (negB false (eqV 0 false v_22 v_24)) fun v_25 =>
    boolK v_25
     (K (.int .i64 12) s)
     (optK (arithV .add i5 (.int .i64 1)) fun v_26 =>
      ∃ m', m' < m1 ∧ I1 [v_26] s m'))
def vc_leafmeshref09_Valid_j5 (X : Told) (i5 : AVal) (x6 : AVal) (t48 : AVal) (t51 : AVal) (I1 : List AVal → Heap → Nat → Prop) (m1 : Nat) (K : AVal → Heap → Prop) (s : Heap) : Prop :=
  optK (pickV t48 (.bool true) t51) fun v_19 =>
  boolK v_19
   (vc_leafmeshref09_Valid_j6 X i5 x6 v_19 .undef I1 m1 K s)
   (optK (addOff 2 x6) fun v_27 =>
    optK (rd1 s v_27) fun v_28 =>
    optK (arithV .gtr v_28 (.int .i64 1000)) fun v_29 =>
    vc_leafmeshref09_Valid_j6 X i5 x6 v_19 v_29 I1 m1 K s)
def vc_leafmeshref09_Valid_j4 (X : Told) (i5 : AVal) (x6 : AVal) (t42 : AVal) (t46 : AVal) (I1 : List AVal → Heap → Nat → Prop) (m1 : Nat) (K : AVal → Heap → Prop) (s : Heap) : Prop :=
  optK (pickV t42 (.bool true) t46) fun v_18 =>
  boolK v_18
   (vc_leafmeshref09_Valid_j5 X i5 x6 v_18 .undef I1 m1 K s)
   (optK (addOff 2 x6) fun v_30 =>
    optK (rd1 s v_30) fun v_31 =>
    optK (arithV .lss v_31 (.int .i64 1)) fun v_32 =>
    vc_leafmeshref09_Valid_j5 X i5 x6 v_18 v_32 I1 m1 K s)
def vc_leafmeshref09_Valid_j3 (X : Told) (nodes0 : AVal) (i5 : AVal) (x6 : AVal) (t37 : AVal) (t40 : AVal) (I1 : List AVal → Heap → Nat → Prop) (m1 : Nat) (K : AVal → Heap → Prop) (s : Heap) : Prop :=
  optK (pickV t37 (.bool true) t40) fun v_17 =>
  boolK v_17
   (vc_leafmeshref09_Valid_j4 X i5 x6 v_17 .undef I1 m1 K s)
   (optK (addOff 1 x6) fun v_33 =>
    optK (rd1 s v_33) fun v_34 =>
    optK (arithV .geq v_34 nodes0) fun v_35 =>
    vc_leafmeshref09_Valid_j4 X i5 x6 v_17 v_35 I1 m1 K s)
def vc_leafmeshref09_Valid_j2 (X : Told) (nodes0 : AVal) (i5 : AVal) (x6 : AVal) (t31 : AVal) (t35 : AVal) (I1 : List AVal → Heap → Nat → Prop) (m1 : Nat) (K : AVal → Heap → Prop) (s : Heap) : Prop :=
  optK (pickV t31 (.bool true) t35) fun v_16 =>
  boolK v_16
   (vc_leafmeshref09_Valid_j3 X nodes0 i5 x6 v_16 .undef I1 m1 K s)
   (optK (addOff 1 x6) fun v_36 =>
    optK (rd1 s v_36) fun v_37 =>
    optK (arithV .lss v_37 (.int .i64 0)) fun v_38 =>
    vc_leafmeshref09_Valid_j3 X nodes0 i5 x6 v_16 v_38 I1 m1 K s)
def vc_leafmeshref09_Valid_l1 (X : Told) (nodes0 : AVal) (links1 : AVal) (i5 : AVal) (I1 : List AVal → Heap → Nat → Prop) (m1 : Nat) (K : AVal → Heap → Prop) (s : Heap) : Prop :=
  optK (lenOfA links1) fun v_5 =>
  optK (arithV .lss i5 (.int .i64 v_5)) fun v_7 =>
  boolK v_7
   (optK (iaddrS 3 links1 i5) fun v_8 =>
    optK (rdN s 3 v_8) fun v_9 =>
    newK 26 [(.int .i64 0), (.int .i64 0), (.int .i64 0)] (fun b_10 s_11 =>
    optK (wrAgg s_11 3 (.ptr b_10 0) (.agg v_9)) fun s_12 =>
    optK (addOff 0 (.ptr b_10 0)) fun v_13 =>
    optK (rd1 s_12 v_13) fun v_14 =>
    optK (arithV .lss v_14 (.int .i64 0)) fun v_15 =>
    boolK v_15
     (vc_leafmeshref09_Valid_j2 X nodes0 i5 (.ptr b_10 0) v_15 .undef I1 m1 K s_12)
     (optK (addOff 0 (.ptr b_10 0)) fun v_39 =>
      optK (rd1 s_12 v_39) fun v_40 =>
      optK (arithV .geq v_40 nodes0) fun v_41 =>
      vc_leafmeshref09_Valid_j2 X nodes0 i5 (.ptr b_10 0) v_15 v_41 I1 m1 K s_12)) s)
   (K (.int .i64 0) s)
def vc_leafmeshref09_Valid_j0 (X : Told) (nodes0 : AVal) (links1 : AVal) (t10 : AVal) (t12 : AVal) (K : AVal → Heap → Prop) (s : Heap) : Prop :=
  optK (pickV t10 (.bool true) t12) fun v_1 =>
  boolK v_1
   (K (.int .i64 2) s)
   (optK (lenOfA links1) fun v_2 =>
    optK (arithV .gtr (.int .i64 v_2) (.int .i64 128)) fun v_4 =>
    boolK v_4
     (K (.int .i64 5) s)
     (∃ I1 : List AVal → Heap → Nat → Prop, (∃ m, I1 [(.int .i64 0)] s m) ∧ ∀ (f : Env) (s : Heap) (m1 : Nat), I1 [f 5] s m1 →
        vc_leafmeshref09_Valid_l1 X nodes0 links1 (f 5) I1 m1 K s))
def vc_leafmeshref09_Valid (X : Told) (nodes0 : AVal) (links1 : AVal) (K : AVal → Heap → Prop) (s : Heap) : Prop :=
  optK (arithV .lss nodes0 (.int .i64 1)) fun v_0 =>
  boolK v_0
   (vc_leafmeshref09_Valid_j0 X nodes0 links1 v_0 .undef K s)
   (optK (arithV .gtr nodes0 (.int .i64 32)) fun v_42 =>
    vc_leafmeshref09_Valid_j0 X nodes0 links1 v_0 v_42 K s)
def vc_leafmeshref09_Valid_ann : Nat → List Nat := fun k => cond (Nat.beq k 12) [5] ([])
theorem vc_leafmeshref09_Valid_eq (X : Told) (nodes0 : AVal) (links1 : AVal) (K : AVal → Heap → Prop) (s : Heap) : wpC Try.prog X vc_leafmeshref09_Valid_ann Try.f45.ntmps none (bodyOf Try.f45) (envOf [nodes0, links1]) (fun e env s => retK e (resK Try.prog Try.f45.results.toList env (fun vs => K (oneV vs) s) s)) s = vc_leafmeshref09_Valid X nodes0 links1 K s := by kernel_rfl
theorem vc_leafmeshref09_Valid_ok {X : Told} (hX : FrX X) (hn : X 45 = none) {nodes0 : AVal} {links1 : AVal} {K : AVal → Heap → Prop} {s : Heap} (h : vc_leafmeshref09_Valid X nodes0 links1 K s) : wpCall Try.prog X 45 [nodes0, links1] K s :=
  wpCall_code hX vc_leafmeshref09_Valid_ann hn Try.func45 (by kernel_rfl : Try.f45.body = some (bodyOf Try.f45)) (by kernel_rfl) ((vc_leafmeshref09_Valid_eq X nodes0 links1 K s).mpr h)
theorem vc_leafmeshref09_Valid_in {nodes0 : AVal} {links1 : AVal} {K : AVal → Heap → Prop} {s : Heap} (h : vc_leafmeshref09_Valid XX nodes0 links1 K s) : wpCall Try.prog XX 45 [nodes0, links1] K s := vc_leafmeshref09_Valid_ok XX_fr rfl h
/-- (*leafmesh/leafmeshref09.Graph).Flags (46) -/
def vc_leafmeshref09_Graph_Flags_l0 (X : Told) (g0 : AVal) (out3 : AVal) (i4 : AVal) (I0 : List AVal → Heap → Nat → Prop) (m0 : Nat) (K : AVal → Heap → Prop) (s : Heap) : Prop :=
  optK (nilCheckA g0) fun v_0 =>
  optK (addOff 1 v_0) fun v_1 =>
  optK (rd1 s v_1) fun v_2 =>
  optK (lenOfA v_2) fun v_3 =>
  optK (arithV .lss i4 (.int .i64 v_3)) fun v_5 =>
  boolK v_5
   (wpCall Try.prog X 52 [g0, i4] (fun v_6 s_7 =>
    optK (fillR (repl 1 [(.bool false)]) [(0, 1, v_6)]) fun c_8 => allOne c_8 = true ∧ newK 4 c_8 (fun b_9 s_10 =>
    appK 4 1 out3 (.slc b_9 0 1 (some 1) 1) (fun v_11 s_12 =>
    optK (arithV .add i4 (.int .i64 1)) fun v_13 =>
    ∃ m', m' < m0 ∧ I0 [v_11, v_13] s_12 m') s_10) s_7) s)
   (K out3 s)
def vc_leafmeshref09_Graph_Flags (X : Told) (g0 : AVal) (K : AVal → Heap → Prop) (s : Heap) : Prop :=
  ∃ I0 : List AVal → Heap → Nat → Prop, (∃ m, I0 [.nilslc, (.int .i64 0)] s m) ∧ ∀ (f : Env) (s : Heap) (m0 : Nat), I0 [f 3, f 4] s m0 →
    vc_leafmeshref09_Graph_Flags_l0 X g0 (f 3) (f 4) I0 m0 K s
def vc_leafmeshref09_Graph_Flags_ann : Nat → List Nat := fun k => cond (Nat.beq k 6) [3, 4] ([])
theorem vc_leafmeshref09_Graph_Flags_eq (X : Told) (g0 : AVal) (K : AVal → Heap → Prop) (s : Heap) : wpC Try.prog X vc_leafmeshref09_Graph_Flags_ann Try.f46.ntmps none (bodyOf Try.f46) (envOf [g0]) (fun e env s => retK e (resK Try.prog Try.f46.results.toList env (fun vs => K (oneV vs) s) s)) s = vc_leafmeshref09_Graph_Flags X g0 K s := by kernel_rfl
theorem vc_leafmeshref09_Graph_Flags_ok {X : Told} (hX : FrX X) (hn : X 46 = none) {g0 : AVal} {K : AVal → Heap → Prop} {s : Heap} (h : vc_leafmeshref09_Graph_Flags X g0 K s) : wpCall Try.prog X 46 [g0] K s :=
  wpCall_code hX vc_leafmeshref09_Graph_Flags_ann hn Try.func46 (by kernel_rfl : Try.f46.body = some (bodyOf Try.f46)) (by kernel_rfl) ((vc_leafmeshref09_Graph_Flags_eq X g0 K s).mpr h)
theorem vc_leafmeshref09_Graph_Flags_in {g0 : AVal} {K : AVal → Heap → Prop} {s : Heap} (h : vc_leafmeshref09_Graph_Flags XX g0 K s) : wpCall Try.prog XX 46 [g0] K s := vc_leafmeshref09_Graph_Flags_ok XX_fr rfl h
/-- (*leafmesh/leafmeshref09.Graph).Components (47) -/
def vc_leafmeshref09_Graph_Components_j2 (X : Told) (out3 : AVal) (n4 : AVal) (I0 : List AVal → Heap → Nat → Prop) (m0 : Nat) (K : AVal → Heap → Prop) (s : Heap) : Prop :=
  optK (arithV .add n4 (.int .i64 1)) fun v_10 =>
  ∃ m', m' < m0 ∧ I0 [out3, v_10] s m'
def vc_leafmeshref09_Graph_Components_j1 (X : Told) (out3 : AVal) (n4 : AVal) (l5 : AVal) (t20 : AVal) (t25 : AVal) (I0 : List AVal → Heap → Nat → Prop) (m0 : Nat) (K : AVal → Heap → Prop) (s : Heap) : Prop :=
  optK (pickV t20 t25 (.bool false)) fun v_9 =>
  boolK v_9
   (optK (fillR (repl 1 [.nilslc]) [(0, 1, l5)]) fun c_11 => allOne c_11 = true ∧ newK 40 c_11 (fun b_12 s_13 =>
    appK 40 1 out3 (.slc b_12 0 1 (some 1) 1) (fun v_14 s_15 =>
    vc_leafmeshref09_Graph_Components_j2 X v_14 n4 I0 m0 K s_15) s_13) s)
   (vc_leafmeshref09_Graph_Components_j2 X out3 n4 I0 m0 K s)
def vc_leafmeshref09_Graph_Components_l0 (X : Told) (g0 : AVal) (out3 : AVal) (n4 : AVal) (I0 : List AVal → Heap → Nat → Prop) (m0 : Nat) (K : AVal → Heap → Prop) (s : Heap) : Prop :=
  optK (nilCheckA g0) fun v_0 =>
  optK (addOff 0 v_0) fun v_1 =>
  optK (rd1 s v_1) fun v_2 =>
  optK (arithV .lss n4 v_2) fun v_3 =>
  boolK v_3
   (wpCall Try.prog X 50 [g0, n4] (fun v_4 s_5 =>
    optK (lenOfA v_4) fun v_6 =>
    optK (arithV .gtr (.int .i64 v_6) (.int .i64 0)) fun v_8 =>
    boolK v_8
     (optK (iaddrS 1 v_4 (.int .i64 0)) fun v_16 =>
      optK (rd1 s_5 v_16) fun v_17 =>
      optK (negB false (eqV 0 false v_17 n4)) fun v_18 =>
      vc_leafmeshref09_Graph_Components_j1 X out3 n4 v_4 v_8 v_18 I0 m0 K s_5)
     (vc_leafmeshref09_Graph_Components_j1 X out3 n4 v_4 v_8 .undef I0 m0 K s_5)) s)
   (K out3 s)
def vc_leafmeshref09_Graph_Components (X : Told) (g0 : AVal) (K : AVal → Heap → Prop) (s : Heap) : Prop :=
  ∃ I0 : List AVal → Heap → Nat → Prop, (∃ m, I0 [.nilslc, (.int .i64 0)] s m) ∧ ∀ (f : Env) (s : Heap) (m0 : Nat), I0 [f 3, f 4] s m0 →
    vc_leafmeshref09_Graph_Components_l0 X g0 (f 3) (f 4) I0 m0 K s
def vc_leafmeshref09_Graph_Components_ann : Nat → List Nat := fun k => cond (Nat.beq k 6) [3, 4] ([])
theorem vc_leafmeshref09_Graph_Components_eq (X : Told) (g0 : AVal) (K : AVal → Heap → Prop) (s : Heap) : wpC Try.prog X vc_leafmeshref09_Graph_Components_ann Try.f47.ntmps none (bodyOf Try.f47) (envOf [g0]) (fun e env s => retK e (resK Try.prog Try.f47.results.toList env (fun vs => K (oneV vs) s) s)) s = vc_leafmeshref09_Graph_Components X g0 K s := by kernel_rfl
theorem vc_leafmeshref09_Graph_Components_ok {X : Told} (hX : FrX X) (hn : X 47 = none) {g0 : AVal} {K : AVal → Heap → Prop} {s : Heap} (h : vc_leafmeshref09_Graph_Components X g0 K s) : wpCall Try.prog X 47 [g0] K s :=
  wpCall_code hX vc_leafmeshref09_Graph_Components_ann hn Try.func47 (by kernel_rfl : Try.f47.body = some (bodyOf Try.f47)) (by kernel_rfl) ((vc_leafmeshref09_Graph_Components_eq X g0 K s).mpr h)
theorem vc_leafmeshref09_Graph_Components_in {g0 : AVal} {K : AVal → Heap → Prop} {s : Heap} (h : vc_leafmeshref09_Graph_Components XX g0 K s) : wpCall Try.prog XX 47 [g0] K s := vc_leafmeshref09_Graph_Components_ok XX_fr rfl h
/-- (*leafmesh/leafmeshref09.Graph).Alive (48) -/
def vc_leafmeshref09_Graph_Alive_j1 (X : Told) (t15 : AVal) (t22 : AVal) (K : AVal → Heap → Prop) (s : Heap) : Prop :=
  optK (pickV t15 t22 (.bool false)) fun v_2 =>
  K v_2 s
def vc_leafmeshref09_Graph_Alive_j0 (X : Told) (g0 : AVal) (n1 : AVal) (t7 : AVal) (t13 : AVal) (K : AVal → Heap → Prop) (s : Heap) : Prop :=
  optK (pickV t7 t13 (.bool false)) fun v_1 =>
  boolK v_1
   (optK (nilCheckA g0) fun v_3 =>
    optK (addOff 2 v_3) fun v_4 =>
    optK (rd1 s v_4) fun v_5 =>
    optK (iaddrS 1 v_5 n1) fun v_6 =>
    optK (rd1 s v_6) fun v_7 =>
    vc_leafmeshref09_Graph_Alive_j1 X v_1 v_7 K s)
   (vc_leafmeshref09_Graph_Alive_j1 X v_1 .undef K s)
def vc_leafmeshref09_Graph_Alive (X : Told) (g0 : AVal) (n1 : AVal) (K : AVal → Heap → Prop) (s : Heap) : Prop :=
  optK (arithV .geq n1 (.int .i64 0)) fun v_0 =>
  boolK v_0
   (optK (nilCheckA g0) fun v_8 =>
    optK (addOff 0 v_8) fun v_9 =>
    optK (rd1 s v_9) fun v_10 =>
    optK (arithV .lss n1 v_10) fun v_11 =>
    vc_leafmeshref09_Graph_Alive_j0 X g0 n1 v_0 v_11 K s)
   (vc_leafmeshref09_Graph_Alive_j0 X g0 n1 v_0 .undef K s)
def vc_leafmeshref09_Graph_Alive_ann : Nat → List Nat := fun _ => []
theorem vc_leafmeshref09_Graph_Alive_eq (X : Told) (g0 : AVal) (n1 : AVal) (K : AVal → Heap → Prop) (s : Heap) : wpC Try.prog X vc_leafmeshref09_Graph_Alive_ann Try.f48.ntmps none (bodyOf Try.f48) (envOf [g0, n1]) (fun e env s => retK e (resK Try.prog Try.f48.results.toList env (fun vs => K (oneV vs) s) s)) s = vc_leafmeshref09_Graph_Alive X g0 n1 K s := by kernel_rfl
theorem vc_leafmeshref09_Graph_Alive_ok {X : Told} (hX : FrX X) (hn : X 48 = none) {g0 : AVal} {n1 : AVal} {K : AVal → Heap → Prop} {s : Heap} (h : vc_leafmeshref09_Graph_Alive X g0 n1 K s) : wpCall Try.prog X 48 [g0, n1] K s :=
  wpCall_code hX vc_leafmeshref09_Graph_Alive_ann hn Try.func48 (by kernel_rfl : Try.f48.body = some (bodyOf Try.f48)) (by kernel_rfl) ((vc_leafmeshref09_Graph_Alive_eq X g0 n1 K s).mpr h)
theorem vc_leafmeshref09_Graph_Alive_in {g0 : AVal} {n1 : AVal} {K : AVal → Heap → Prop} {s : Heap} (h : vc_leafmeshref09_Graph_Alive XX g0 n1 K s) : wpCall Try.prog XX 48 [g0, n1] K s := vc_leafmeshref09_Graph_Alive_ok XX_fr rfl h
/-- (*leafmesh/leafmeshref09.Graph).Neighbors (49) -/
def vc_leafmeshref09_Graph_Neighbors_j4 (X : Told) (out5 : AVal) (i6 : AVal) (I0 : List AVal → Heap → Nat → Prop) (m0 : Nat) (K : AVal → Heap → Prop) (s : Heap) : Prop :=
  optK (arithV .add i6 (.int .i64 1)) fun v_20 =>
  ∃ m', m' < m0 ∧ I0 [out5, v_20] s m'
def vc_leafmeshref09_Graph_Neighbors_j3 (X : Told) (out5 : AVal) (i6 : AVal) (x7 : AVal) (t45 : AVal) (t49 : AVal) (I0 : List AVal → Heap → Nat → Prop) (m0 : Nat) (K : AVal → Heap → Prop) (s : Heap) : Prop :=
  optK (pickV t45 t49 (.bool false)) fun v_19 =>
  boolK v_19
   (optK (addOff 0 x7) fun v_21 =>
    optK (rd1 s v_21) fun v_22 =>
    optK (addOff 2 x7) fun v_23 =>
    optK (rd1 s v_23) fun v_24 =>
    optK (fillR [(.int .i64 0), (.int .i64 0), (.int .i64 0)] [(0, 1, i6), (1, 1, v_22), (2, 1, v_24)]) fun c_25 =>
    optK (fillR (repl 1 [(.int .i64 0), (.int .i64 0), (.int .i64 0)]) [(0, 3, (.agg c_25))]) fun c_26 => allOne c_26 = true ∧ newK 59 c_26 (fun b_27 s_28 =>
    appK 59 3 out5 (.slc b_27 0 1 (some 1) 3) (fun v_29 s_30 =>
    vc_leafmeshref09_Graph_Neighbors_j4 X v_29 i6 I0 m0 K s_30) s_28) s)
   (vc_leafmeshref09_Graph_Neighbors_j4 X out5 i6 I0 m0 K s)
def vc_leafmeshref09_Graph_Neighbors_j2 (X : Told) (g0 : AVal) (n1 : AVal) (out5 : AVal) (i6 : AVal) (x7 : AVal) (I0 : List AVal → Heap → Nat → Prop) (m0 : Nat) (K : AVal → Heap → Prop) (s : Heap) : Prop :=
  wpCall Try.prog X 52 [g0, i6] (fun v_17 s_18 =>
  boolK v_17
   (optK (addOff 1 x7) fun v_31 =>
    optK (rd1 s_18 v_31) fun v_32 =>
    optK (negB false (eqV 0 false v_32 n1)) fun v_33 =>
    vc_leafmeshref09_Graph_Neighbors_j3 X out5 i6 x7 v_17 v_33 I0 m0 K s_18)
   (vc_leafmeshref09_Graph_Neighbors_j3 X out5 i6 x7 v_17 .undef I0 m0 K s_18)) s
def vc_leafmeshref09_Graph_Neighbors_j1 (X : Told) (g0 : AVal) (n1 : AVal) (out5 : AVal) (i6 : AVal) (x7 : AVal) (t27 : AVal) (t31 : AVal) (I0 : List AVal → Heap → Nat → Prop) (m0 : Nat) (K : AVal → Heap → Prop) (s : Heap) : Prop :=
  optK (pickV t27 t31 (.bool false)) fun v_16 =>
  boolK v_16
   (optK (addOff 1 x7) fun v_34 =>
    optK (rd1 s v_34) fun v_35 =>
    optK (addOff 2 x7) fun v_36 =>
    optK (rd1 s v_36) fun v_37 =>
    optK (fillR [(.int .i64 0), (.int .i64 0), (.int .i64 0)] [(0, 1, i6), (1, 1, v_35), (2, 1, v_37)]) fun c_38 =>
    optK (fillR (repl 1 [(.int .i64 0), (.int .i64 0), (.int .i64 0)]) [(0, 3, (.agg c_38))]) fun c_39 => allOne c_39 = true ∧ newK 59 c_39 (fun b_40 s_41 =>
    appK 59 3 out5 (.slc b_40 0 1 (some 1) 3) (fun v_42 s_43 =>
    vc_leafmeshref09_Graph_Neighbors_j2 X g0 n1 v_42 i6 x7 I0 m0 K s_43) s_41) s)
   (vc_leafmeshref09_Graph_Neighbors_j2 X g0 n1 out5 i6 x7 I0 m0 K s)
def vc_leafmeshref09_Graph_Neighbors_l0 (X : Told) (g0 : AVal) (n1 : AVal) (out5 : AVal) (i6 : AVal) (I0 : List AVal → Heap → Nat → Prop) (m0 : Nat) (K : AVal → Heap → Prop) (s : Heap) : Prop :=
  optK (nilCheckA g0) fun v_0 =>
  optK (addOff 1 v_0) fun v_1 =>
  optK (rd1 s v_1) fun v_2 =>
  optK (lenOfA v_2) fun v_3 =>
  optK (arithV .lss i6 (.int .i64 v_3)) fun v_5 =>
  boolK v_5
   (optK (nilCheckA g0) fun v_6 =>
    optK (addOff 1 v_6) fun v_7 =>
    optK (rd1 s v_7) fun v_8 =>
    optK (iaddrS 3 v_8 i6) fun v_9 =>
    optK (rdN s 3 v_9) fun v_10 =>
    newK 26 [(.int .i64 0), (.int .i64 0), (.int .i64 0)] (fun b_11 s_12 =>
    optK (wrAgg s_12 3 (.ptr b_11 0) (.agg v_10)) fun s_13 =>
    wpCall Try.prog X 52 [g0, i6] (fun v_14 s_15 =>
    boolK v_14
     (optK (addOff 0 (.ptr b_11 0)) fun v_44 =>
      optK (rd1 s_15 v_44) fun v_45 =>
      optK (negB false (eqV 0 false v_45 n1)) fun v_46 =>
      vc_leafmeshref09_Graph_Neighbors_j1 X g0 n1 out5 i6 (.ptr b_11 0) v_14 v_46 I0 m0 K s_15)
     (vc_leafmeshref09_Graph_Neighbors_j1 X g0 n1 out5 i6 (.ptr b_11 0) v_14 .undef I0 m0 K s_15)) s_13) s)
   (K out5 s)
def vc_leafmeshref09_Graph_Neighbors (X : Told) (g0 : AVal) (n1 : AVal) (K : AVal → Heap → Prop) (s : Heap) : Prop :=
  ∃ I0 : List AVal → Heap → Nat → Prop, (∃ m, I0 [.nilslc, (.int .i64 0)] s m) ∧ ∀ (f : Env) (s : Heap) (m0 : Nat), I0 [f 5, f 6] s m0 →
    vc_leafmeshref09_Graph_Neighbors_l0 X g0 n1 (f 5) (f 6) I0 m0 K s
def vc_leafmeshref09_Graph_Neighbors_ann : Nat → List Nat := fun k => cond (Nat.beq k 6) [5, 6] ([])
theorem vc_leafmeshref09_Graph_Neighbors_eq (X : Told) (g0 : AVal) (n1 : AVal) (K : AVal → Heap → Prop) (s : Heap) : wpC Try.prog X vc_leafmeshref09_Graph_Neighbors_ann Try.f49.ntmps none (bodyOf Try.f49) (envOf [g0, n1]) (fun e env s => retK e (resK Try.prog Try.f49.results.toList env (fun vs => K (oneV vs) s) s)) s = vc_leafmeshref09_Graph_Neighbors X g0 n1 K s := by kernel_rfl
theorem vc_leafmeshref09_Graph_Neighbors_ok {X : Told} (hX : FrX X) (hn : X 49 = none) {g0 : AVal} {n1 : AVal} {K : AVal → Heap → Prop} {s : Heap} (h : vc_leafmeshref09_Graph_Neighbors X g0 n1 K s) : wpCall Try.prog X 49 [g0, n1] K s :=
  wpCall_code hX vc_leafmeshref09_Graph_Neighbors_ann hn Try.func49 (by kernel_rfl : Try.f49.body = some (bodyOf Try.f49)) (by kernel_rfl) ((vc_leafmeshref09_Graph_Neighbors_eq X g0 n1 K s).mpr h)
theorem vc_leafmeshref09_Graph_Neighbors_in {g0 : AVal} {n1 : AVal} {K : AVal → Heap → Prop} {s : Heap} (h : vc_leafmeshref09_Graph_Neighbors XX g0 n1 K s) : wpCall Try.prog XX 49 [g0, n1] K s := vc_leafmeshref09_Graph_Neighbors_ok XX_fr rfl h
/-- (*leafmesh/leafmeshref09.Graph).Component (50) -/
def vc_leafmeshref09_Graph_Component_j3 (X : Told) (more6 : AVal) (i7 : AVal) (I1 : List AVal → Heap → Nat → Prop) (m1 : Nat) (I0 : List AVal → Heap → Nat → Prop) (m0 : Nat) (K : AVal → Heap → Prop) (s : Heap) : Prop :=
  optK (arithV .add i7 (.int .i64 1)) fun v_29 =>
  ∃ m', m' < m1 ∧ I1 [more6, v_29] s m'
def vc_leafmeshref09_Graph_Component_j2 (X : Told) (t5 : AVal) (more6 : AVal) (i7 : AVal) (x8 : AVal) (t43 : AVal) (t54 : AVal) (I1 : List AVal → Heap → Nat → Prop) (m1 : Nat) (I0 : List AVal → Heap → Nat → Prop) (m0 : Nat) (K : AVal → Heap → Prop) (s : Heap) : Prop :=
  optK (pickV t43 t54 (.bool false)) fun v_28 =>
  boolK v_28
   (optK (addOff 0 x8) fun v_30 =>
    optK (rd1 s v_30) fun v_31 =>
    optK (addOff 1 x8) fun v_32 =>
    optK (rd1 s v_32) fun v_33 =>
    optK (iaddrS 1 t5 v_31) fun v_34 =>
    ((cutH [((hdel s (blkOf v_32)), s)] s) (blkOf v_34) ≠ none) ∧
    optK (wr1 s v_34 (.bool true)) fun s_35 =>
    optK (iaddrS 1 t5 v_33) fun v_36 =>
    optK (wr1 s_35 v_36 (.bool true)) fun s_37 =>
    vc_leafmeshref09_Graph_Component_j3 X (.bool true) i7 I1 m1 I0 m0 K s_37)
   (vc_leafmeshref09_Graph_Component_j3 X more6 i7 I1 m1 I0 m0 K s)
def vc_leafmeshref09_Graph_Component_l1 (X : Told) (g0 : AVal) (t5 : AVal) (more6 : AVal) (i7 : AVal) (I1 : List AVal → Heap → Nat → Prop) (m1 : Nat) (I0 : List AVal → Heap → Nat → Prop) (m0 : Nat) (K : AVal → Heap → Prop) (s : Heap) : Prop :=
  optK (nilCheckA g0) fun v_12 =>
  optK (addOff 1 v_12) fun v_13 =>
  optK (rd1 s v_13) fun v_14 =>
  optK (lenOfA v_14) fun v_15 =>
  optK (arithV .lss i7 (.int .i64 v_15)) fun v_17 =>
  boolK v_17
   (optK (nilCheckA g0) fun v_18 =>
    optK (addOff 1 v_18) fun v_19 =>
    optK (rd1 s v_19) fun v_20 =>
    optK (iaddrS 3 v_20 i7) fun v_21 =>
    optK (rdN s 3 v_21) fun v_22 =>
    newK 26 [(.int .i64 0), (.int .i64 0), (.int .i64 0)] (fun b_23 s_24 =>
    optK (wrAgg s_24 3 (.ptr b_23 0) (.agg v_22)) fun s_25 =>
    wpCall Try.prog X 52 [g0, i7] (fun v_26 s_27 =>
    boolK v_26
     (optK (addOff 0 (.ptr b_23 0)) fun v_38 =>
      optK (rd1 s_27 v_38) fun v_39 =>
      optK (iaddrS 1 t5 v_39) fun v_40 =>
      optK (rd1 s_27 v_40) fun v_41 =>
      optK (addOff 1 (.ptr b_23 0)) fun v_42 =>
      optK (rd1 s_27 v_42) fun v_43 =>
      optK (iaddrS 1 t5 v_43) fun v_44 =>
      optK (rd1 s_27 v_44) fun v_45 =>
      optK (negB true (eqV 1 false v_41 v_45)) fun v_46 =>
      vc_leafmeshref09_Graph_Component_j2 X t5 more6 i7 (.ptr b_23 0) v_26 v_46 I1 m1 I0 m0 K s_27)
     (vc_leafmeshref09_Graph_Component_j2 X t5 more6 i7 (.ptr b_23 0) v_26 .undef I1 m1 I0 m0 K s_27)) s_25) s)
   (∃ m', m' < m0 ∧ I0 [more6] s m')
def vc_leafmeshref09_Graph_Component_j5 (X : Told) (out9 : AVal) (i10 : AVal) (I4 : List AVal → Heap → Nat → Prop) (m4 : Nat) (K : AVal → Heap → Prop) (s : Heap) : Prop :=
  optK (arithV .add i10 (.int .i64 1)) fun v_53 =>
  ∃ m', m' < m4 ∧ I4 [out9, v_53] s m'
def vc_leafmeshref09_Graph_Component_l4 (X : Told) (g0 : AVal) (t5 : AVal) (out9 : AVal) (i10 : AVal) (I4 : List AVal → Heap → Nat → Prop) (m4 : Nat) (K : AVal → Heap → Prop) (s : Heap) : Prop :=
  optK (nilCheckA g0) fun v_47 =>
  optK (addOff 0 v_47) fun v_48 =>
  optK (rd1 s v_48) fun v_49 =>
  optK (arithV .lss i10 v_49) fun v_50 =>
  boolK v_50
   (optK (iaddrS 1 t5 i10) fun v_51 =>
    optK (rd1 s v_51) fun v_52 =>
    boolK v_52
     (optK (fillR (repl 1 [(.int .i64 0)]) [(0, 1, i10)]) fun c_54 => allOne c_54 = true ∧ newK 3 c_54 (fun b_55 s_56 =>
      appK 3 1 out9 (.slc b_55 0 1 (some 1) 1) (fun v_57 s_58 =>
      vc_leafmeshref09_Graph_Component_j5 X v_57 i10 I4 m4 K s_58) s_56) s)
     (vc_leafmeshref09_Graph_Component_j5 X out9 i10 I4 m4 K s))
   (K out9 s)
def vc_leafmeshref09_Graph_Component_l0 (X : Told) (g0 : AVal) (t5 : AVal) (more6 : AVal) (I0 : List AVal → Heap → Nat → Prop) (m0 : Nat) (K : AVal → Heap → Prop) (s : Heap) : Prop :=
  boolK more6
   (∃ I1 : List AVal → Heap → Nat → Prop, (∃ m, I1 [(.bool false), (.int .i64 0)] s m) ∧ ∀ (f : Env) (s : Heap) (m1 : Nat), I1 [f 6, f 7] s m1 →
      vc_leafmeshref09_Graph_Component_l1 X g0 t5 (f 6) (f 7) I1 m1 I0 m0 K s)
   (∃ I4 : List AVal → Heap → Nat → Prop, (∃ m, I4 [.nilslc, (.int .i64 0)] s m) ∧ ∀ (f : Env) (s : Heap) (m4 : Nat), I4 [f 9, f 10] s m4 →
      vc_leafmeshref09_Graph_Component_l4 X g0 t5 (f 9) (f 10) I4 m4 K s)
def vc_leafmeshref09_Graph_Component (X : Told) (g0 : AVal) (n1 : AVal) (K : AVal → Heap → Prop) (s : Heap) : Prop :=
  wpCall Try.prog X 48 [g0, n1] (fun v_0 s_1 =>
  optK (unaryA .not v_0) fun v_2 =>
  boolK v_2
   (K .nilslc s_1)
   (optK (nilCheckA g0) fun v_3 =>
    optK (addOff 0 v_3) fun v_4 =>
    optK (rd1 s_1 v_4) fun v_5 =>
    optK (nat? v_5) fun n_6 => optK (nat? v_5) fun n_7 => (n_6 ≤ n_7 ∧ n_7 ≤ 4294967296) ∧ newK 4 (repl n_7 [(.bool false)]) (fun b_8 s_9 =>
    optK (iaddrS 1 (.slc b_8 0 n_6 (some n_7) 1) n1) fun v_10 =>
    optK (wr1 s_9 v_10 (.bool true)) fun s_11 =>
    ∃ I0 : List AVal → Heap → Nat → Prop, (∃ m, I0 [(.bool true)] s_11 m) ∧ ∀ (f : Env) (s : Heap) (m0 : Nat), I0 [f 6] s m0 →
      vc_leafmeshref09_Graph_Component_l0 X g0 (.slc b_8 0 n_6 (some n_7) 1) (f 6) I0 m0 K s) s_1)) s
def vc_leafmeshref09_Graph_Component_ann : Nat → List Nat := fun k => cond (Nat.beq k 12) [6] (cond (Nat.beq k 18) [6, 7] (cond (Nat.beq k 34) [9, 10] ([])))
theorem vc_leafmeshref09_Graph_Component_eq (X : Told) (g0 : AVal) (n1 : AVal) (K : AVal → Heap → Prop) (s : Heap) : wpC Try.prog X vc_leafmeshref09_Graph_Component_ann Try.f50.ntmps none (bodyOf Try.f50) (envOf [g0, n1]) (fun e env s => retK e (resK Try.prog Try.f50.results.toList env (fun vs => K (oneV vs) s) s)) s = vc_leafmeshref09_Graph_Component X g0 n1 K s := by kernel_rfl
theorem vc_leafmeshref09_Graph_Component_ok {X : Told} (hX : FrX X) (hn : X 50 = none) {g0 : AVal} {n1 : AVal} {K : AVal → Heap → Prop} {s : Heap} (h : vc_leafmeshref09_Graph_Component X g0 n1 K s) : wpCall Try.prog X 50 [g0, n1] K s :=
  wpCall_code hX vc_leafmeshref09_Graph_Component_ann hn Try.func50 (by kernel_rfl : Try.f50.body = some (bodyOf Try.f50)) (by kernel_rfl) ((vc_leafmeshref09_Graph_Component_eq X g0 n1 K s).mpr h)
theorem vc_leafmeshref09_Graph_Component_in {g0 : AVal} {n1 : AVal} {K : AVal → Heap → Prop} {s : Heap} (h : vc_leafmeshref09_Graph_Component XX g0 n1 K s) : wpCall Try.prog XX 50 [g0, n1] K s := vc_leafmeshref09_Graph_Component_ok XX_fr rfl h
/-- (*leafmesh/leafmeshref09.Graph).Between (51) -/
def vc_leafmeshref09_Graph_Between_j2 (X : Told) (out7 : AVal) (i8 : AVal) (I0 : List AVal → Heap → Nat → Prop) (m0 : Nat) (K : AVal → Heap → Prop) (s : Heap) : Prop :=
  optK (arithV .add i8 (.int .i64 1)) fun v_22 =>
  ∃ m', m' < m0 ∧ I0 [out7, v_22] s m'
def vc_leafmeshref09_Graph_Between_j4 (X : Told) (out7 : AVal) (i8 : AVal) (I0 : List AVal → Heap → Nat → Prop) (m0 : Nat) (K : AVal → Heap → Prop) (s : Heap) : Prop :=
  optK (arithV .add i8 (.int .i64 1)) fun v_34 =>
  ∃ m', m' < m0 ∧ I0 [out7, v_34] s m'
def vc_leafmeshref09_Graph_Between_j3 (X : Told) (out7 : AVal) (i8 : AVal) (t29 : AVal) (t40 : AVal) (t45 : AVal) (t49 : AVal) (I0 : List AVal → Heap → Nat → Prop) (m0 : Nat) (K : AVal → Heap → Prop) (s : Heap) : Prop :=
  optK (pickV t45 t49 (.bool false)) fun v_31 =>
  optK (pickV t40 (.bool true) v_31) fun v_32 =>
  optK (pickV t29 v_32 (.bool false)) fun v_33 =>
  boolK v_33
   (optK (fillR (repl 1 [(.int .i64 0)]) [(0, 1, i8)]) fun c_35 => allOne c_35 = true ∧ newK 3 c_35 (fun b_36 s_37 =>
    appK 3 1 out7 (.slc b_36 0 1 (some 1) 1) (fun v_38 s_39 =>
    vc_leafmeshref09_Graph_Between_j4 X v_38 i8 I0 m0 K s_39) s_37) s)
   (vc_leafmeshref09_Graph_Between_j4 X out7 i8 I0 m0 K s)
def vc_leafmeshref09_Graph_Between_j1 (X : Told) (a1 : AVal) (b2 : AVal) (out7 : AVal) (i8 : AVal) (x9 : AVal) (t29 : AVal) (t34 : AVal) (t38 : AVal) (I0 : List AVal → Heap → Nat → Prop) (m0 : Nat) (K : AVal → Heap → Prop) (s : Heap) : Prop :=
  optK (pickV t34 t38 (.bool false)) fun v_19 =>
  boolK v_19
   (optK (pickV v_19 (.bool true) .undef) fun v_20 =>
    optK (pickV t29 v_20 (.bool false)) fun v_21 =>
    boolK v_21
     (optK (fillR (repl 1 [(.int .i64 0)]) [(0, 1, i8)]) fun c_23 => allOne c_23 = true ∧ newK 3 c_23 (fun b_24 s_25 =>
      appK 3 1 out7 (.slc b_24 0 1 (some 1) 1) (fun v_26 s_27 =>
      vc_leafmeshref09_Graph_Between_j2 X v_26 i8 I0 m0 K s_27) s_25) s)
     (vc_leafmeshref09_Graph_Between_j2 X out7 i8 I0 m0 K s))
   (optK (addOff 0 x9) fun v_28 =>
    optK (rd1 s v_28) fun v_29 =>
    optK (negB false (eqV 0 false v_29 b2)) fun v_30 =>
    boolK v_30
     (optK (addOff 1 x9) fun v_40 =>
      optK (rd1 s v_40) fun v_41 =>
      optK (negB false (eqV 0 false v_41 a1)) fun v_42 =>
      vc_leafmeshref09_Graph_Between_j3 X out7 i8 t29 v_19 v_30 v_42 I0 m0 K s)
     (vc_leafmeshref09_Graph_Between_j3 X out7 i8 t29 v_19 v_30 .undef I0 m0 K s))
def vc_leafmeshref09_Graph_Between_j5 (X : Told) (out7 : AVal) (i8 : AVal) (I0 : List AVal → Heap → Nat → Prop) (m0 : Nat) (K : AVal → Heap → Prop) (s : Heap) : Prop :=
  optK (arithV .add i8 (.int .i64 1)) fun v_47 =>
  ∃ m', m' < m0 ∧ I0 [out7, v_47] s m'
def vc_leafmeshref09_Graph_Between_l0 (X : Told) (g0 : AVal) (a1 : AVal) (b2 : AVal) (out7 : AVal) (i8 : AVal) (I0 : List AVal → Heap → Nat → Prop) (m0 : Nat) (K : AVal → Heap → Prop) (s : Heap) : Prop :=
  optK (nilCheckA g0) fun v_0 =>
  optK (addOff 1 v_0) fun v_1 =>
  optK (rd1 s v_1) fun v_2 =>
  optK (lenOfA v_2) fun v_3 =>
  optK (arithV .lss i8 (.int .i64 v_3)) fun v_5 =>
  boolK v_5
   (optK (nilCheckA g0) fun v_6 =>
    optK (addOff 1 v_6) fun v_7 =>
    optK (rd1 s v_7) fun v_8 =>
    optK (iaddrS 3 v_8 i8) fun v_9 =>
    optK (rdN s 3 v_9) fun v_10 =>
    newK 26 [(.int .i64 0), (.int .i64 0), (.int .i64 0)] (fun b_11 s_12 =>
    optK (wrAgg s_12 3 (.ptr b_11 0) (.agg v_10)) fun s_13 =>
    wpCall Try.prog X 52 [g0, i8] (fun v_14 s_15 =>
    boolK v_14
     (optK (addOff 0 (.ptr b_11 0)) fun v_16 =>
      optK (rd1 s_15 v_16) fun v_17 =>
      optK (negB false (eqV 0 false v_17 a1)) fun v_18 =>
      boolK v_18
       (optK (addOff 1 (.ptr b_11 0)) fun v_43 =>
        optK (rd1 s_15 v_43) fun v_44 =>
        optK (negB false (eqV 0 false v_44 b2)) fun v_45 =>
        vc_leafmeshref09_Graph_Between_j1 X a1 b2 out7 i8 (.ptr b_11 0) v_14 v_18 v_45 I0 m0 K s_15)
       (vc_leafmeshref09_Graph_Between_j1 X a1 b2 out7 i8 (.ptr b_11 0) v_14 v_18 .undef I0 m0 K s_15))
     (optK (pickV v_14 .undef (.bool false)) fun v_46 =>
      boolK v_46
       (optK (fillR (repl 1 [(.int .i64 0)]) [(0, 1, i8)]) fun c_48 => allOne c_48 = true ∧ newK 3 c_48 (fun b_49 s_50 =>
        appK 3 1 out7 (.slc b_49 0 1 (some 1) 1) (fun v_51 s_52 =>
        vc_leafmeshref09_Graph_Between_j5 X v_51 i8 I0 m0 K s_52) s_50) s_15)
       (vc_leafmeshref09_Graph_Between_j5 X out7 i8 I0 m0 K s_15))) s_13) s)
   (K out7 s)
def vc_leafmeshref09_Graph_Between (X : Told) (g0 : AVal) (a1 : AVal) (b2 : AVal) (K : AVal → Heap → Prop) (s : Heap) : Prop :=
  ∃ I0 : List AVal → Heap → Nat → Prop, (∃ m, I0 [.nilslc, (.int .i64 0)] s m) ∧ ∀ (f : Env) (s : Heap) (m0 : Nat), I0 [f 7, f 8] s m0 →
    vc_leafmeshref09_Graph_Between_l0 X g0 a1 b2 (f 7) (f 8) I0 m0 K s
def vc_leafmeshref09_Graph_Between_ann : Nat → List Nat := fun k => cond (Nat.beq k 6) [7, 8] ([])
theorem vc_leafmeshref09_Graph_Between_eq (X : Told) (g0 : AVal) (a1 : AVal) (b2 : AVal) (K : AVal → Heap → Prop) (s : Heap) : wpC Try.prog X vc_leafmeshref09_Graph_Between_ann Try.f51.ntmps none (bodyOf Try.f51) (envOf [g0, a1, b2]) (fun e env s => retK e (resK Try.prog Try.f51.results.toList env (fun vs => K (oneV vs) s) s)) s = vc_leafmeshref09_Graph_Between X g0 a1 b2 K s := by kernel_rfl
theorem vc_leafmeshref09_Graph_Between_ok {X : Told} (hX : FrX X) (hn : X 51 = none) {g0 : AVal} {a1 : AVal} {b2 : AVal} {K : AVal → Heap → Prop} {s : Heap} (h : vc_leafmeshref09_Graph_Between X g0 a1 b2 K s) : wpCall Try.prog X 51 [g0, a1, b2] K s :=
  wpCall_code hX vc_leafmeshref09_Graph_Between_ann hn Try.func51 (by kernel_rfl : Try.f51.body = some (bodyOf Try.f51)) (by kernel_rfl) ((vc_leafmeshref09_Graph_Between_eq X g0 a1 b2 K s).mpr h)
theorem vc_leafmeshref09_Graph_Between_in {g0 : AVal} {a1 : AVal} {b2 : AVal} {K : AVal → Heap → Prop} {s : Heap} (h : vc_leafmeshref09_Graph_Between XX g0 a1 b2 K s) : wpCall Try.prog XX 51 [g0, a1, b2] K s := vc_leafmeshref09_Graph_Between_ok XX_fr rfl h
/-- (*leafmesh/leafmeshref09.Graph).Up (52) -/
def vc_leafmeshref09_Graph_Up_j3 (X : Told) (t41 : AVal) (t55 : AVal) (K : AVal → Heap → Prop) (s : Heap) : Prop :=
  optK (pickV t41 t55 (.bool false)) fun v_4 =>
  K v_4 s
def vc_leafmeshref09_Graph_Up_j2 (X : Told) (g0 : AVal) (i1 : AVal) (t25 : AVal) (t39 : AVal) (K : AVal → Heap → Prop) (s : Heap) : Prop :=
  optK (pickV t25 t39 (.bool false)) fun v_3 =>
  boolK v_3
   (optK (nilCheckA g0) fun v_5 =>
    optK (addOff 2 v_5) fun v_6 =>
    optK (rd1 s v_6) fun v_7 =>
    optK (nilCheckA g0) fun v_8 =>
    optK (addOff 1 v_8) fun v_9 =>
    optK (rd1 s v_9) fun v_10 =>
    optK (iaddrS 3 v_10 i1) fun v_11 =>
    optK (addOff 1 v_11) fun v_12 =>
    optK (rd1 s v_12) fun v_13 =>
    optK (iaddrS 1 v_7 v_13) fun v_14 =>
    optK (rd1 s v_14) fun v_15 =>
    vc_leafmeshref09_Graph_Up_j3 X v_3 v_15 K s)
   (vc_leafmeshref09_Graph_Up_j3 X v_3 .undef K s)
def vc_leafmeshref09_Graph_Up_j1 (X : Told) (g0 : AVal) (i1 : AVal) (t16 : AVal) (t23 : AVal) (K : AVal → Heap → Prop) (s : Heap) : Prop :=
  optK (pickV t16 t23 (.bool false)) fun v_2 =>
  boolK v_2
   (optK (nilCheckA g0) fun v_16 =>
    optK (addOff 2 v_16) fun v_17 =>
    optK (rd1 s v_17) fun v_18 =>
    optK (nilCheckA g0) fun v_19 =>
    optK (addOff 1 v_19) fun v_20 =>
    optK (rd1 s v_20) fun v_21 =>
    optK (iaddrS 3 v_21 i1) fun v_22 =>
    optK (addOff 0 v_22) fun v_23 =>
    optK (rd1 s v_23) fun v_24 =>
    optK (iaddrS 1 v_18 v_24) fun v_25 =>
    optK (rd1 s v_25) fun v_26 =>
    vc_leafmeshref09_Graph_Up_j2 X g0 i1 v_2 v_26 K s)
   (vc_leafmeshref09_Graph_Up_j2 X g0 i1 v_2 .undef K s)
def vc_leafmeshref09_Graph_Up_j0 (X : Told) (g0 : AVal) (i1 : AVal) (t7 : AVal) (t14 : AVal) (K : AVal → Heap → Prop) (s : Heap) : Prop :=
  optK (pickV t7 t14 (.bool false)) fun v_1 =>
  boolK v_1
   (optK (nilCheckA g0) fun v_27 =>
    optK (addOff 3 v_27) fun v_28 =>
    optK (rd1 s v_28) fun v_29 =>
    optK (iaddrS 1 v_29 i1) fun v_30 =>
    optK (rd1 s v_30) fun v_31 =>
    vc_leafmeshref09_Graph_Up_j1 X g0 i1 v_1 v_31 K s)
   (vc_leafmeshref09_Graph_Up_j1 X g0 i1 v_1 .undef K s)
def vc_leafmeshref09_Graph_Up (X : Told) (g0 : AVal) (i1 : AVal) (K : AVal → Heap → Prop) (s : Heap) : Prop :=
  optK (arithV .geq i1 (.int .i64 0)) fun v_0 =>
  boolK v_0
   (optK (nilCheckA g0) fun v_32 =>
    optK (addOff 1 v_32) fun v_33 =>
    optK (rd1 s v_33) fun v_34 =>
    optK (lenOfA v_34) fun v_35 =>
    optK (arithV .lss i1 (.int .i64 v_35)) fun v_37 =>
    vc_leafmeshref09_Graph_Up_j0 X g0 i1 v_0 v_37 K s)
   (vc_leafmeshref09_Graph_Up_j0 X g0 i1 v_0 .undef K s)
def vc_leafmeshref09_Graph_Up_ann : Nat → List Nat := fun _ => []
theorem vc_leafmeshref09_Graph_Up_eq (X : Told) (g0 : AVal) (i1 : AVal) (K : AVal → Heap → Prop) (s : Heap) : wpC Try.prog X vc_leafmeshref09_Graph_Up_ann Try.f52.ntmps none (bodyOf Try.f52) (envOf [g0, i1]) (fun e env s => retK e (resK Try.prog Try.f52.results.toList env (fun vs => K (oneV vs) s) s)) s = vc_leafmeshref09_Graph_Up X g0 i1 K s := by kernel_rfl
theorem vc_leafmeshref09_Graph_Up_ok {X : Told} (hX : FrX X) (hn : X 52 = none) {g0 : AVal} {i1 : AVal} {K : AVal → Heap → Prop} {s : Heap} (h : vc_leafmeshref09_Graph_Up X g0 i1 K s) : wpCall Try.prog X 52 [g0, i1] K s :=
  wpCall_code hX vc_leafmeshref09_Graph_Up_ann hn Try.func52 (by kernel_rfl : Try.f52.body = some (bodyOf Try.f52)) (by kernel_rfl) ((vc_leafmeshref09_Graph_Up_eq X g0 i1 K s).mpr h)
theorem vc_leafmeshref09_Graph_Up_in {g0 : AVal} {i1 : AVal} {K : AVal → Heap → Prop} {s : Heap} (h : vc_leafmeshref09_Graph_Up XX g0 i1 K s) : wpCall Try.prog XX 52 [g0, i1] K s := vc_leafmeshref09_Graph_Up_ok XX_fr rfl h
/-- (*leafmesh/topo.Graph).valid (53) -/
def vc_topo_Graph_valid_j0 (X : Told) (t5 : AVal) (t10 : AVal) (K : AVal → Heap → Prop) (s : Heap) : Prop :=
  optK (pickV t5 t10 (.bool false)) fun v_1 =>
  K v_1 s
def vc_topo_Graph_valid (X : Told) (g0 : AVal) (K : AVal → Heap → Prop) (s : Heap) : Prop :=
  optK (negB true (eqV 3 true g0 .nilptr)) fun v_0 =>
  boolK v_0
   (optK (nilCheckA g0) fun v_2 =>
    optK (addOff 0 v_2) fun v_3 =>
    optK (rd1 s v_3) fun v_4 =>
    optK (arithV .gtr v_4 (.int .i64 0)) fun v_5 =>
    vc_topo_Graph_valid_j0 X v_0 v_5 K s)
   (vc_topo_Graph_valid_j0 X v_0 .undef K s)
def vc_topo_Graph_valid_ann : Nat → List Nat := fun _ => []
theorem vc_topo_Graph_valid_eq (X : Told) (g0 : AVal) (K : AVal → Heap → Prop) (s : Heap) : wpC Try.prog X vc_topo_Graph_valid_ann Try.f53.ntmps none (bodyOf Try.f53) (envOf [g0]) (fun e env s => retK e (resK Try.prog Try.f53.results.toList env (fun vs => K (oneV vs) s) s)) s = vc_topo_Graph_valid X g0 K s := by kernel_rfl
theorem vc_topo_Graph_valid_ok {X : Told} (hX : FrX X) (hn : X 53 = none) {g0 : AVal} {K : AVal → Heap → Prop} {s : Heap} (h : vc_topo_Graph_valid X g0 K s) : wpCall Try.prog X 53 [g0] K s :=
  wpCall_code hX vc_topo_Graph_valid_ann hn Try.func53 (by kernel_rfl : Try.f53.body = some (bodyOf Try.f53)) (by kernel_rfl) ((vc_topo_Graph_valid_eq X g0 K s).mpr h)
theorem vc_topo_Graph_valid_in {g0 : AVal} {K : AVal → Heap → Prop} {s : Heap} (h : vc_topo_Graph_valid XX g0 K s) : wpCall Try.prog XX 53 [g0] K s := vc_topo_Graph_valid_ok XX_fr rfl h
/-- (*leafmesh/topo.bits).has (54) -/
def vc_topo_bits_has (X : Told) (b0 : AVal) (i1 : AVal) (K : AVal → Heap → Prop) (s : Heap) : Prop :=
  optK (arithV .quo i1 (.int .i64 64)) fun v_0 =>
  optK (nilCheckA b0) fun v_1 =>
  optK (iaddrA 2 1 v_1 v_0) fun v_2 =>
  optK (rd1 s v_2) fun v_3 =>
  optK (arithV .rem i1 (.int .i64 64)) fun v_4 =>
  optK (shiftV .shr v_3 v_4) fun v_5 =>
  optK (arithV .and v_5 (.int .u64 1)) fun v_6 =>
  optK (negB true (eqV 0 true v_6 (.int .u64 0))) fun v_7 =>
  K v_7 s
def vc_topo_bits_has_ann : Nat → List Nat := fun _ => []
theorem vc_topo_bits_has_eq (X : Told) (b0 : AVal) (i1 : AVal) (K : AVal → Heap → Prop) (s : Heap) : wpC Try.prog X vc_topo_bits_has_ann Try.f54.ntmps none (bodyOf Try.f54) (envOf [b0, i1]) (fun e env s => retK e (resK Try.prog Try.f54.results.toList env (fun vs => K (oneV vs) s) s)) s = vc_topo_bits_has X b0 i1 K s := by kernel_rfl
theorem vc_topo_bits_has_ok {X : Told} (hX : FrX X) (hn : X 54 = none) {b0 : AVal} {i1 : AVal} {K : AVal → Heap → Prop} {s : Heap} (h : vc_topo_bits_has X b0 i1 K s) : wpCall Try.prog X 54 [b0, i1] K s :=
  wpCall_code hX vc_topo_bits_has_ann hn Try.func54 (by kernel_rfl : Try.f54.body = some (bodyOf Try.f54)) (by kernel_rfl) ((vc_topo_bits_has_eq X b0 i1 K s).mpr h)
theorem vc_topo_bits_has_in {b0 : AVal} {i1 : AVal} {K : AVal → Heap → Prop} {s : Heap} (h : vc_topo_bits_has XX b0 i1 K s) : wpCall Try.prog XX 54 [b0, i1] K s := vc_topo_bits_has_ok XX_fr rfl h
/-- slices.Sorted[int] (55) -/
def vc_slices_Sorted_int_ (X : Told) (seq0 : AVal) (K : AVal → Heap → Prop) (s : Heap) : Prop :=
  wpCall Try.prog X 61 [seq0] (fun v_0 s_1 =>
  wpCall Try.prog X 62 [v_0] (fun v_2 s_3 =>
  K v_0 s_3) s_1) s
def vc_slices_Sorted_int__ann : Nat → List Nat := fun _ => []
theorem vc_slices_Sorted_int__eq (X : Told) (seq0 : AVal) (K : AVal → Heap → Prop) (s : Heap) : wpC Try.prog X vc_slices_Sorted_int__ann Try.f55.ntmps none (bodyOf Try.f55) (envOf [seq0]) (fun e env s => retK e (resK Try.prog Try.f55.results.toList env (fun vs => K (oneV vs) s) s)) s = vc_slices_Sorted_int_ X seq0 K s := by kernel_rfl
theorem vc_slices_Sorted_int__ok {X : Told} (hX : FrX X) (hn : X 55 = none) {seq0 : AVal} {K : AVal → Heap → Prop} {s : Heap} (h : vc_slices_Sorted_int_ X seq0 K s) : wpCall Try.prog X 55 [seq0] K s :=
  wpCall_code hX vc_slices_Sorted_int__ann hn Try.func55 (by kernel_rfl : Try.f55.body = some (bodyOf Try.f55)) (by kernel_rfl) ((vc_slices_Sorted_int__eq X seq0 K s).mpr h)
theorem vc_slices_Sorted_int__in {seq0 : AVal} {K : AVal → Heap → Prop} {s : Heap} (h : vc_slices_Sorted_int_ XX seq0 K s) : wpCall Try.prog XX 55 [seq0] K s := vc_slices_Sorted_int__ok XX_fr rfl h
/-- (*leafmesh/topo.Graph).reach (56) -/
def vc_topo_Graph_reach (X : Told) (g0 : AVal) (n1 : AVal) (K : AVal → Heap → Prop) (s : Heap) : Prop :=
  boxK 27 g0 (fun b_0 s_1 =>
  boxK 3 n1 (fun b_2 s_3 =>
  K (.fn (.func 63) [] [b_2, b_0]) s_3) s_1) s
def vc_topo_Graph_reach_ann : Nat → List Nat := fun _ => []
theorem vc_topo_Graph_reach_eq (X : Told) (g0 : AVal) (n1 : AVal) (K : AVal → Heap → Prop) (s : Heap) : wpC Try.prog X vc_topo_Graph_reach_ann Try.f56.ntmps none (bodyOf Try.f56) (envOf [g0, n1]) (fun e env s => retK e (resK Try.prog Try.f56.results.toList env (fun vs => K (oneV vs) s) s)) s = vc_topo_Graph_reach X g0 n1 K s := by kernel_rfl
theorem vc_topo_Graph_reach_ok {X : Told} (hX : FrX X) (hn : X 56 = none) {g0 : AVal} {n1 : AVal} {K : AVal → Heap → Prop} {s : Heap} (h : vc_topo_Graph_reach X g0 n1 K s) : wpCall Try.prog X 56 [g0, n1] K s :=
  wpCall_code hX vc_topo_Graph_reach_ann hn Try.func56 (by kernel_rfl : Try.f56.body = some (bodyOf Try.f56)) (by kernel_rfl) ((vc_topo_Graph_reach_eq X g0 n1 K s).mpr h)
theorem vc_topo_Graph_reach_in {g0 : AVal} {n1 : AVal} {K : AVal → Heap → Prop} {s : Heap} (h : vc_topo_Graph_reach XX g0 n1 K s) : wpCall Try.prog XX 56 [g0, n1] K s := vc_topo_Graph_reach_ok XX_fr rfl h
/-- leafmesh/topo.checks$1 (57) -/
def vc_topo_checks_1_j0 (X : Told) (t6 : AVal) (t9 : AVal) (K : AVal → Heap → Prop) (s : Heap) : Prop :=
  optK (pickV t6 (.bool true) t9) fun v_1 =>
  K v_1 s
def vc_topo_checks_1 (X : Told) (n0 : AVal) (t1 : AVal) (K : AVal → Heap → Prop) (s : Heap) : Prop :=
  optK (arithV .lss n0 (.int .i64 0)) fun v_0 =>
  boolK v_0
   (vc_topo_checks_1_j0 X v_0 .undef K s)
   (optK (rd1 s t1) fun v_2 =>
    optK (arithV .geq n0 v_2) fun v_3 =>
    vc_topo_checks_1_j0 X v_0 v_3 K s)
def vc_topo_checks_1_ann : Nat → List Nat := fun _ => []
theorem vc_topo_checks_1_eq (X : Told) (n0 : AVal) (t1 : AVal) (K : AVal → Heap → Prop) (s : Heap) : wpC Try.prog X vc_topo_checks_1_ann Try.f57.ntmps none (bodyOf Try.f57) (envOf [n0, t1]) (fun e env s => retK e (resK Try.prog Try.f57.results.toList env (fun vs => K (oneV vs) s) s)) s = vc_topo_checks_1 X n0 t1 K s := by kernel_rfl
theorem vc_topo_checks_1_ok {X : Told} (hX : FrX X) (hn : X 57 = none) {n0 : AVal} {t1 : AVal} {K : AVal → Heap → Prop} {s : Heap} (h : vc_topo_checks_1 X n0 t1 K s) : wpCall Try.prog X 57 [n0, t1] K s :=
  wpCall_code hX vc_topo_checks_1_ann hn Try.func57 (by kernel_rfl : Try.f57.body = some (bodyOf Try.f57)) (by kernel_rfl) ((vc_topo_checks_1_eq X n0 t1 K s).mpr h)
theorem vc_topo_checks_1_in {n0 : AVal} {t1 : AVal} {K : AVal → Heap → Prop} {s : Heap} (h : vc_topo_checks_1 XX n0 t1 K s) : wpCall Try.prog XX 57 [n0, t1] K s := vc_topo_checks_1_ok XX_fr rfl h
/-- leafmesh/topo.checks$2 (58) -/
def vc_topo_checks_2_j0 (X : Told) (t4 : AVal) (t6 : AVal) (K : AVal → Heap → Prop) (s : Heap) : Prop :=
  optK (pickV t4 (.bool true) t6) fun v_2 =>
  boolK v_2
   (K (.int .i64 2) s)
   (K (.int .i64 0) s)
def vc_topo_checks_2 (X : Told) (t0 : AVal) (K : AVal → Heap → Prop) (s : Heap) : Prop :=
  optK (rd1 s t0) fun v_0 =>
  optK (arithV .lss v_0 (.int .i64 1)) fun v_1 =>
  boolK v_1
   (vc_topo_checks_2_j0 X v_1 .undef K s)
   (optK (rd1 s t0) fun v_3 =>
    optK (arithV .gtr v_3 (.int .i64 32)) fun v_4 =>
    vc_topo_checks_2_j0 X v_1 v_4 K s)
def vc_topo_checks_2_ann : Nat → List Nat := fun _ => []
theorem vc_topo_checks_2_eq (X : Told) (t0 : AVal) (K : AVal → Heap → Prop) (s : Heap) : wpC Try.prog X vc_topo_checks_2_ann Try.f58.ntmps none (bodyOf Try.f58) (envOf [t0]) (fun e env s => retK e (resK Try.prog Try.f58.results.toList env (fun vs => K (oneV vs) s) s)) s = vc_topo_checks_2 X t0 K s := by kernel_rfl
theorem vc_topo_checks_2_ok {X : Told} (hX : FrX X) (hn : X 58 = none) {t0 : AVal} {K : AVal → Heap → Prop} {s : Heap} (h : vc_topo_checks_2 X t0 K s) : wpCall Try.prog X 58 [t0] K s :=
  wpCall_code hX vc_topo_checks_2_ann hn Try.func58 (by kernel_rfl : Try.f58.body = some (bodyOf Try.f58)) (by kernel_rfl) ((vc_topo_checks_2_eq X t0 K s).mpr h)
theorem vc_topo_checks_2_in {t0 : AVal} {K : AVal → Heap → Prop} {s : Heap} (h : vc_topo_checks_2 XX t0 K s) : wpCall Try.prog XX 58 [t0] K s := vc_topo_checks_2_ok XX_fr rfl h
/-- leafmesh/topo.checks$3 (59) -/
def vc_topo_checks_3 (X : Told) (t0 : AVal) (K : AVal → Heap → Prop) (s : Heap) : Prop :=
  optK (rd1 s t0) fun v_0 =>
  optK (lenOfA v_0) fun v_1 =>
  optK (arithV .gtr (.int .i64 v_1) (.int .i64 128)) fun v_3 =>
  boolK v_3
   (K (.int .i64 5) s)
   (K (.int .i64 0) s)
def vc_topo_checks_3_ann : Nat → List Nat := fun _ => []
theorem vc_topo_checks_3_eq (X : Told) (t0 : AVal) (K : AVal → Heap → Prop) (s : Heap) : wpC Try.prog X vc_topo_checks_3_ann Try.f59.ntmps none (bodyOf Try.f59) (envOf [t0]) (fun e env s => retK e (resK Try.prog Try.f59.results.toList env (fun vs => K (oneV vs) s) s)) s = vc_topo_checks_3 X t0 K s := by kernel_rfl
theorem vc_topo_checks_3_ok {X : Told} (hX : FrX X) (hn : X 59 = none) {t0 : AVal} {K : AVal → Heap → Prop} {s : Heap} (h : vc_topo_checks_3 X t0 K s) : wpCall Try.prog X 59 [t0] K s :=
  wpCall_code hX vc_topo_checks_3_ann hn Try.func59 (by kernel_rfl : Try.f59.body = some (bodyOf Try.f59)) (by kernel_rfl) ((vc_topo_checks_3_eq X t0 K s).mpr h)
theorem vc_topo_checks_3_in {t0 : AVal} {K : AVal → Heap → Prop} {s : Heap} (h : vc_topo_checks_3 XX t0 K s) : wpCall Try.prog XX 59 [t0] K s := vc_topo_checks_3_ok XX_fr rfl h
/-- leafmesh/topo.checks$4 (60) -/
def vc_topo_checks_4_j3 (X : Told) (l4 : AVal) (t7 : AVal) (t27 : AVal) (t30 : AVal) (I0 : List AVal → Heap → Nat → Prop) (m0 : Nat) (K : AVal → Heap → Prop) (s : Heap) : Prop :=
  optK (pickV t27 (.bool true) t30) fun v_16 =>
  boolK v_16
   (K (.int .i64 2) s)
   (optK (addOff 0 l4) fun v_17 =>
    optK (rd1 s v_17) fun v_18 =>
    optK (addOff 1 l4) fun v_19 =>
    optK (rd1 s v_19) fun v_20 =>
    optK (negB false (eqV 0 false v_18 v_20)) fun v_21 =>
    boolK v_21
     (K (.int .i64 12) s)
     (optK (arithV .add t7 (.int .i64 1)) fun v_22 =>
      ∃ m', m' < m0 ∧ I0 [v_22] s m'))
def vc_topo_checks_4_j2 (X : Told) (l4 : AVal) (t7 : AVal) (t22 : AVal) (t25 : AVal) (I0 : List AVal → Heap → Nat → Prop) (m0 : Nat) (K : AVal → Heap → Prop) (s : Heap) : Prop :=
  optK (pickV t22 (.bool true) t25) fun v_15 =>
  boolK v_15
   (vc_topo_checks_4_j3 X l4 t7 v_15 .undef I0 m0 K s)
   (optK (addOff 2 l4) fun v_23 =>
    optK (rd1 s v_23) fun v_24 =>
    optK (arithV .gtr v_24 (.int .i64 1000)) fun v_25 =>
    vc_topo_checks_4_j3 X l4 t7 v_15 v_25 I0 m0 K s)
def vc_topo_checks_4_j1 (X : Told) (l4 : AVal) (t7 : AVal) (t16 : AVal) (t20 : AVal) (I0 : List AVal → Heap → Nat → Prop) (m0 : Nat) (K : AVal → Heap → Prop) (s : Heap) : Prop :=
  optK (pickV t16 (.bool true) t20) fun v_14 =>
  boolK v_14
   (vc_topo_checks_4_j2 X l4 t7 v_14 .undef I0 m0 K s)
   (optK (addOff 2 l4) fun v_26 =>
    optK (rd1 s v_26) fun v_27 =>
    optK (arithV .lss v_27 (.int .i64 1)) fun v_28 =>
    vc_topo_checks_4_j2 X l4 t7 v_14 v_28 I0 m0 K s)
def vc_topo_checks_4_l0 (X : Told) (t1 : AVal) (t5 : AVal) (t6 : AVal) (t7 : AVal) (I0 : List AVal → Heap → Nat → Prop) (m0 : Nat) (K : AVal → Heap → Prop) (s : Heap) : Prop :=
  optK (arithV .lss t7 t6) fun v_3 =>
  boolK v_3
   (optK (iaddrS 3 t5 t7) fun v_4 =>
    optK (rdN s 3 v_4) fun v_5 =>
    newK 26 [(.int .i64 0), (.int .i64 0), (.int .i64 0)] (fun b_6 s_7 =>
    optK (wrAgg s_7 3 (.ptr b_6 0) (.agg v_5)) fun s_8 =>
    optK (rd1 s_8 t1) fun v_9 =>
    optK (addOff 0 (.ptr b_6 0)) fun v_10 =>
    optK (rd1 s_8 v_10) fun v_11 =>
    funK Try.prog X v_9 [v_11] (fun v_12 s_13 =>
    boolK v_12
     (vc_topo_checks_4_j1 X (.ptr b_6 0) t7 v_12 .undef I0 m0 K s_13)
     (optK (rd1 s_13 t1) fun v_29 =>
      optK (addOff 1 (.ptr b_6 0)) fun v_30 =>
      optK (rd1 s_13 v_30) fun v_31 =>
      funK Try.prog X v_29 [v_31] (fun v_32 s_33 =>
      vc_topo_checks_4_j1 X (.ptr b_6 0) t7 v_12 v_32 I0 m0 K s_33) s_13)) s_8) s)
   (K (.int .i64 0) s)
def vc_topo_checks_4 (X : Told) (t0 : AVal) (t1 : AVal) (K : AVal → Heap → Prop) (s : Heap) : Prop :=
  optK (rd1 s t0) fun v_0 =>
  optK (lenOfA v_0) fun v_1 =>
  ∃ I0 : List AVal → Heap → Nat → Prop, (∃ m, I0 [(.int .i64 0)] s m) ∧ ∀ (f : Env) (s : Heap) (m0 : Nat), I0 [f 7] s m0 →
    vc_topo_checks_4_l0 X t1 v_0 (.int .i64 v_1) (f 7) I0 m0 K s
def vc_topo_checks_4_ann : Nat → List Nat := fun k => cond (Nat.beq k 4) [7] ([])
theorem vc_topo_checks_4_eq (X : Told) (t0 : AVal) (t1 : AVal) (K : AVal → Heap → Prop) (s : Heap) : wpC Try.prog X vc_topo_checks_4_ann Try.f60.ntmps none (bodyOf Try.f60) (envOf [t0, t1]) (fun e env s => retK e (resK Try.prog Try.f60.results.toList env (fun vs => K (oneV vs) s) s)) s = vc_topo_checks_4 X t0 t1 K s := by kernel_rfl
theorem vc_topo_checks_4_ok {X : Told} (hX : FrX X) (hn : X 60 = none) {t0 : AVal} {t1 : AVal} {K : AVal → Heap → Prop} {s : Heap} (h : vc_topo_checks_4 X t0 t1 K s) : wpCall Try.prog X 60 [t0, t1] K s :=
  wpCall_code hX vc_topo_checks_4_ann hn Try.func60 (by kernel_rfl : Try.f60.body = some (bodyOf Try.f60)) (by kernel_rfl) ((vc_topo_checks_4_eq X t0 t1 K s).mpr h)
theorem vc_topo_checks_4_in {t0 : AVal} {t1 : AVal} {K : AVal → Heap → Prop} {s : Heap} (h : vc_topo_checks_4 XX t0 t1 K s) : wpCall Try.prog XX 60 [t0, t1] K s := vc_topo_checks_4_ok XX_fr rfl h
/-- slices.Collect[int] (61) -/
def vc_slices_Collect_int_ (X : Told) (seq0 : AVal) (K : AVal → Heap → Prop) (s : Heap) : Prop :=
  wpCall Try.prog X 64 [.nilslc, seq0] (fun v_0 s_1 =>
  K v_0 s_1) s
def vc_slices_Collect_int__ann : Nat → List Nat := fun _ => []
theorem vc_slices_Collect_int__eq (X : Told) (seq0 : AVal) (K : AVal → Heap → Prop) (s : Heap) : wpC Try.prog X vc_slices_Collect_int__ann Try.f61.ntmps none (bodyOf Try.f61) (envOf [seq0]) (fun e env s => retK e (resK Try.prog Try.f61.results.toList env (fun vs => K (oneV vs) s) s)) s = vc_slices_Collect_int_ X seq0 K s := by kernel_rfl
theorem vc_slices_Collect_int__ok {X : Told} (hX : FrX X) (hn : X 61 = none) {seq0 : AVal} {K : AVal → Heap → Prop} {s : Heap} (h : vc_slices_Collect_int_ X seq0 K s) : wpCall Try.prog X 61 [seq0] K s :=
  wpCall_code hX vc_slices_Collect_int__ann hn Try.func61 (by kernel_rfl : Try.f61.body = some (bodyOf Try.f61)) (by kernel_rfl) ((vc_slices_Collect_int__eq X seq0 K s).mpr h)
theorem vc_slices_Collect_int__in {seq0 : AVal} {K : AVal → Heap → Prop} {s : Heap} (h : vc_slices_Collect_int_ XX seq0 K s) : wpCall Try.prog XX 61 [seq0] K s := vc_slices_Collect_int__ok XX_fr rfl h
/-- (*leafmesh/topo.Graph).reach$1 (63) -/
def vc_topo_Graph_reach_1_j2 (X : Told) (work5 : AVal) (t29 : AVal) (I1 : List AVal → Heap → Nat → Prop) (m1 : Nat) (I0 : List AVal → Heap → Nat → Prop) (m0 : Nat) (K : AVal → Heap → Prop) (s : Heap) : Prop :=
  optK (arithV .add t29 (.int .i64 1)) fun v_34 =>
  ∃ m', m' < m1 ∧ I1 [work5, v_34] s m'
def vc_topo_Graph_reach_1_l1 (X : Told) (seen4 : AVal) (work5 : AVal) (t27 : AVal) (t28 : AVal) (t29 : AVal) (I1 : List AVal → Heap → Nat → Prop) (m1 : Nat) (I0 : List AVal → Heap → Nat → Prop) (m0 : Nat) (K : AVal → Heap → Prop) (s : Heap) : Prop :=
  optK (arithV .lss t29 t28) fun v_23 =>
  boolK v_23
   (optK (iaddrS 3 t27 t29) fun v_24 =>
    optK (rdN s 3 v_24) fun v_25 =>
    newK 59 [(.int .i64 0), (.int .i64 0), (.int .i64 0)] (fun b_26 s_27 =>
    optK (wrAgg s_27 3 (.ptr b_26 0) (.agg v_25)) fun s_28 =>
    optK (addOff 1 (.ptr b_26 0)) fun v_29 =>
    optK (rd1 s_28 v_29) fun v_30 =>
    wpCall Try.prog X 54 [seen4, v_30] (fun v_31 s_32 =>
    optK (unaryA .not v_31) fun v_33 =>
    boolK v_33
     (optK (addOff 1 (.ptr b_26 0)) fun v_35 =>
      optK (rd1 s_32 v_35) fun v_36 =>
      wpCall Try.prog X 44 [seen4, v_36, (.bool true)] (fun v_37 s_38 =>
      optK (addOff 1 (.ptr b_26 0)) fun v_39 =>
      optK (rd1 s_38 v_39) fun v_40 =>
      optK (fillR (repl 1 [(.int .i64 0)]) [(0, 1, v_40)]) fun c_41 => allOne c_41 = true ∧ newK 3 c_41 (fun b_42 s_43 =>
      appK 3 1 work5 (.slc b_42 0 1 (some 1) 1) (fun v_44 s_45 =>
      vc_topo_Graph_reach_1_j2 X v_44 t29 I1 m1 I0 m0 K s_45) s_43) s_38) s_32)
     (vc_topo_Graph_reach_1_j2 X work5 t29 I1 m1 I0 m0 K s_32)) s_28) s)
   (∃ m', m' < m0 ∧ I0 [work5] s m')
def vc_topo_Graph_reach_1_l0 (X : Told) (yield0 : AVal) (t2 : AVal) (seen4 : AVal) (work5 : AVal) (I0 : List AVal → Heap → Nat → Prop) (m0 : Nat) (K : AVal → Heap → Prop) (s : Heap) : Prop :=
  optK (lenOfA work5) fun v_9 =>
  optK (arithV .gtr (.int .i64 v_9) (.int .i64 0)) fun v_11 =>
  boolK v_11
   (optK (iaddrS 1 work5 (.int .i64 0)) fun v_12 =>
    optK (rd1 s v_12) fun v_13 =>
    optK (sliceS 1 work5 (some (.int .i64 1)) none none) fun v_14 =>
    funK Try.prog X yield0 [v_13] (fun v_15 s_16 =>
    optK (unaryA .not v_15) fun v_17 =>
    boolK v_17
     (K (.tup []) s_16)
     (optK (rd1 s_16 t2) fun v_18 =>
      wpCall Try.prog X 23 [v_18, v_13] (fun v_19 s_20 =>
      optK (lenOfA v_19) fun v_21 =>
      ∃ I1 : List AVal → Heap → Nat → Prop, (∃ m, I1 [v_14, (.int .i64 0)] s_20 m) ∧ ∀ (f : Env) (s : Heap) (m1 : Nat), I1 [f 5, f 29] s m1 →
        vc_topo_Graph_reach_1_l1 X seen4 (f 5) v_19 (.int .i64 v_21) (f 29) I1 m1 I0 m0 K s) s_16)) s)
   (K (.tup []) s)
def vc_topo_Graph_reach_1 (X : Told) (yield0 : AVal) (t1 : AVal) (t2 : AVal) (K : AVal → Heap → Prop) (s : Heap) : Prop :=
  newK 74 [(.int .u64 0), (.int .u64 0)] (fun b_0 s_1 =>
  optK (rd1 s_1 t1) fun v_2 =>
  wpCall Try.prog X 44 [(.ptr b_0 0), v_2, (.bool true)] (fun v_3 s_4 =>
  optK (rd1 s_4 t1) fun v_5 =>
  optK (fillR (repl 1 [(.int .i64 0)]) [(0, 1, v_5)]) fun c_6 => allOne c_6 = true ∧ newK 3 c_6 (fun b_7 s_8 =>
  ∃ I0 : List AVal → Heap → Nat → Prop, (∃ m, I0 [(.slc b_7 0 1 (some 1) 1)] s_8 m) ∧ ∀ (f : Env) (s : Heap) (m0 : Nat), I0 [f 5] s m0 →
    vc_topo_Graph_reach_1_l0 X yield0 t2 (.ptr b_0 0) (f 5) I0 m0 K s) s_4) s_1) s
def vc_topo_Graph_reach_1_ann : Nat → List Nat := fun k => cond (Nat.beq k 6) [5] (cond (Nat.beq k 16) [5, 29] ([]))
theorem vc_topo_Graph_reach_1_eq (X : Told) (yield0 : AVal) (t1 : AVal) (t2 : AVal) (K : AVal → Heap → Prop) (s : Heap) : wpC Try.prog X vc_topo_Graph_reach_1_ann Try.f63.ntmps none (bodyOf Try.f63) (envOf [yield0, t1, t2]) (fun e env s => retK e (resK Try.prog Try.f63.results.toList env (fun vs => K (oneV vs) s) s)) s = vc_topo_Graph_reach_1 X yield0 t1 t2 K s := by kernel_rfl
theorem vc_topo_Graph_reach_1_ok {X : Told} (hX : FrX X) (hn : X 63 = none) {yield0 : AVal} {t1 : AVal} {t2 : AVal} {K : AVal → Heap → Prop} {s : Heap} (h : vc_topo_Graph_reach_1 X yield0 t1 t2 K s) : wpCall Try.prog X 63 [yield0, t1, t2] K s :=
  wpCall_code hX vc_topo_Graph_reach_1_ann hn Try.func63 (by kernel_rfl : Try.f63.body = some (bodyOf Try.f63)) (by kernel_rfl) ((vc_topo_Graph_reach_1_eq X yield0 t1 t2 K s).mpr h)
theorem vc_topo_Graph_reach_1_in {yield0 : AVal} {t1 : AVal} {t2 : AVal} {K : AVal → Heap → Prop} {s : Heap} (h : vc_topo_Graph_reach_1 XX yield0 t1 t2 K s) : wpCall Try.prog XX 63 [yield0, t1, t2] K s := vc_topo_Graph_reach_1_ok XX_fr rfl h
/-- slices.AppendSeq[[]int,int] (64) -/
def vc_slices_AppendSeq___int_int_ (X : Told) (t0 : AVal) (seq1 : AVal) (K : AVal → Heap → Prop) (s : Heap) : Prop :=
  boxK 40 t0 (fun b_0 s_1 =>
  rngK Try.prog X 13 none seq1 [(2, b_0)] [7] (rfAs 0 (bodyOf Try.f64)) (rfBo 0 (bodyOf Try.f64)) (fun s_2 =>
    optK (rd1 s_2 b_0) fun v_4 =>
    K v_4 s_2)
   (fun s_3 =>
    K .nilslc s_3)
   (fun id s_5 =>
    cond (Nat.beq id 0)
     (optK (rd1 s_5 b_0) fun v_6 =>
      K v_6 s_5)
     (False)) s_1) s
def vc_slices_AppendSeq___int_int__ann : Nat → List Nat := fun k => cond (Nat.beq k 7) [2] ([])
theorem vc_slices_AppendSeq___int_int__eq (X : Told) (t0 : AVal) (seq1 : AVal) (K : AVal → Heap → Prop) (s : Heap) : wpC Try.prog X vc_slices_AppendSeq___int_int__ann Try.f64.ntmps none (bodyOf Try.f64) (envOf [t0, seq1]) (fun e env s => retK e (resK Try.prog Try.f64.results.toList env (fun vs => K (oneV vs) s) s)) s = vc_slices_AppendSeq___int_int_ X t0 seq1 K s := by kernel_rfl
theorem vc_slices_AppendSeq___int_int__ok {X : Told} (hX : FrX X) (hn : X 64 = none) {t0 : AVal} {seq1 : AVal} {K : AVal → Heap → Prop} {s : Heap} (h : vc_slices_AppendSeq___int_int_ X t0 seq1 K s) : wpCall Try.prog X 64 [t0, seq1] K s :=
  wpCall_code hX vc_slices_AppendSeq___int_int__ann hn Try.func64 (by kernel_rfl : Try.f64.body = some (bodyOf Try.f64)) (by kernel_rfl) ((vc_slices_AppendSeq___int_int__eq X t0 seq1 K s).mpr h)
theorem vc_slices_AppendSeq___int_int__in {t0 : AVal} {seq1 : AVal} {K : AVal → Heap → Prop} {s : Heap} (h : vc_slices_AppendSeq___int_int_ XX t0 seq1 K s) : wpCall Try.prog XX 64 [t0, seq1] K s := vc_slices_AppendSeq___int_int__ok XX_fr rfl h
def vc_slices_AppendSeq___int_int__r0 (X : Told) (l : Nat) (t2 : AVal) (t7 : AVal) (E : AExit → Heap → Prop) (s : Heap) : Prop :=
  AExit.nrm = .nrm ∧ beginK l (fun s_0 =>
  optK (rd1 s_0 t2) fun v_1 =>
  optK (fillR (repl 1 [(.int .i64 0)]) [(0, 1, t7)]) fun c_2 => allOne c_2 = true ∧ newK 3 c_2 (fun b_3 s_4 =>
  appK 3 1 v_1 (.slc b_3 0 1 (some 1) 1) (fun v_5 s_6 =>
  optK (wr1 s_6 t2 v_5) fun s_7 =>
  E .nrm s_7) s_4) s_0) s
theorem vc_slices_AppendSeq___int_int__r0_eq (X : Told) (l : Nat) (f : Env) (t7 : AVal) (E : AExit → Heap → Prop) (s : Heap) : wpC Try.prog X vc_slices_AppendSeq___int_int__ann Try.f64.ntmps (some l) (rfAs 0 (bodyOf Try.f64)) (setE f [7] [t7]) (fun e env s => e = .nrm ∧ beginK l (fun s => wpC Try.prog X vc_slices_AppendSeq___int_int__ann Try.f64.ntmps (some l) (rfBo 0 (bodyOf Try.f64)) env (fun e _ s => E e s) s) s) s = vc_slices_AppendSeq___int_int__r0 X l (f 2) t7 E s := by kernel_rfl
theorem vc_slices_AppendSeq___int_int__r0_in {l : Nat} {t : Bool} {st : LoopState} {pd : Option Code} {d : Nat} {t2 : AVal} {t7 : AVal} {K : AVal → Heap → Prop} {s : Heap} (hs : s l = some (t, .loop st pd 13 [(2, t2)] [7] (rfAs 0 (bodyOf Try.f64)) (rfBo 0 (bodyOf Try.f64)) d)) (h : vc_slices_AppendSeq___int_int__r0 XX l t2 t7 (fun e s => endK l e K s) s) : wpRound Try.prog XX l [t7] K s :=
  wpRound_ok XX_fr vc_slices_AppendSeq___int_int__ann hs rfl rfl fun f hf => by
    refine (vc_slices_AppendSeq___int_int__r0_eq XX l f t7 (fun e s => endK l e K s) s).mpr ?_
    rw [show f 2 = t2 from hf (2, t2) (by simp)]
    exact h
end Go.AM
set_option linter.unusedVariables false
namespace Go.AM
open Go Go.Proofs
set_option maxRecDepth 100000
/-- leafmesh/leafmeshlaw09.TopoScript (8) -/
def vc_wld09_TopoScript_j6 (X : Told) (g7 : AVal) (w9 : AVal) (i11 : AVal) (t133 : AVal) (t137 : AVal) (I2 : List AVal → Heap → Nat → Prop) (m2 : Nat) (K : AVal → Heap → Prop) (s : Heap) : Prop :=
  optK (pickV t133 (.bool true) t137) fun v_25 =>
  boolK v_25
   (K (.bool false) s)
   (optK (arithV .add i11 (.int .i64 1)) fun v_26 =>
    ∃ m', m' < m2 ∧ I2 [g7, w9, v_26] s m')
def vc_wld09_TopoScript_j5 (X : Told) (g7 : AVal) (w9 : AVal) (i11 : AVal) (a12 : AVal) (b13 : AVal) (I2 : List AVal → Heap → Nat → Prop) (m2 : Nat) (K : AVal → Heap → Prop) (s : Heap) : Prop :=
  optK (negB true (eqV 0 false a12 b13)) fun v_24 =>
  boolK v_24
   (vc_wld09_TopoScript_j6 X g7 w9 i11 v_24 .undef I2 m2 K s)
   (wpCall Try.prog X 15 [g7, w9] (fun v_27 s_28 =>
    optK (unaryA .not v_27) fun v_29 =>
    vc_wld09_TopoScript_j6 X g7 w9 i11 v_24 v_29 I2 m2 K s_28) s)
def vc_wld09_TopoScript_j4 (X : Told) (l2 : AVal) (g7 : AVal) (w9 : AVal) (i11 : AVal) (a12 : AVal) (b13 : AVal) (t61 : AVal) (t77 : AVal) (I2 : List AVal → Heap → Nat → Prop) (m2 : Nat) (K : AVal → Heap → Prop) (s : Heap) : Prop :=
  boolK t77
   (optK (iaddrS 3 l2 i11) fun v_30 =>
    optK (addOff 1 v_30) fun v_31 =>
    optK (rd1 s v_31) fun v_32 =>
    optK (iaddrS 3 l2 i11) fun v_33 =>
    optK (addOff 2 v_33) fun v_34 =>
    optK (rd1 s v_34) fun v_35 =>
    ∃ h_36 : Heap, (∀ b, h_36 b ≠ none → s b ≠ none) ∧
    wpCall Try.prog X 19 [g7, v_32, v_35] (fun v_37 s_38 =>
    (∀ b, s b ≠ none → (minus s h_36) b = none → s_38 b = none) →
    optK (iaddrS 3 l2 i11) fun v_39 =>
    optK (addOff 1 v_39) fun v_40 =>
    optK (rd1 (cutH [(h_36, fullH)] (add s_38 (rest s (minus s h_36)))) v_40) fun v_41 =>
    optK (iaddrS 3 l2 i11) fun v_42 =>
    optK (addOff 2 v_42) fun v_43 =>
    optK (rd1 (cutH [(h_36, fullH)] (add s_38 (rest s (minus s h_36)))) v_43) fun v_44 =>
    wpCall Try.prog X 34 [w9, v_41, v_44] (fun v_45 s_46 =>
    vc_wld09_TopoScript_j5 X g7 w9 i11 v_37 v_45 I2 m2 K s_46) (add s_38 (rest s (minus s h_36)))) (minus s h_36))
   (optK (negB false (eqV 0 true t61 (.int .i64 2))) fun v_47 =>
    boolK v_47
     (optK (iaddrS 3 l2 i11) fun v_48 =>
      optK (addOff 1 v_48) fun v_49 =>
      optK (rd1 s v_49) fun v_50 =>
      optK (iaddrS 3 l2 i11) fun v_51 =>
      optK (addOff 2 v_51) fun v_52 =>
      optK (rd1 s v_52) fun v_53 =>
      ∃ h_54 : Heap, (∀ b, h_54 b ≠ none → s b ≠ none) ∧
      wpCall Try.prog X 22 [g7, v_50, v_53] (fun v_55 s_56 =>
      (∀ b, s b ≠ none → (minus s h_54) b = none → s_56 b = none) →
      optK (iaddrS 3 l2 i11) fun v_57 =>
      optK (addOff 1 v_57) fun v_58 =>
      optK (rd1 (cutH [(h_54, fullH)] (add s_56 (rest s (minus s h_54)))) v_58) fun v_59 =>
      optK (iaddrS 3 l2 i11) fun v_60 =>
      optK (addOff 2 v_60) fun v_61 =>
      optK (rd1 (cutH [(h_54, fullH)] (add s_56 (rest s (minus s h_54)))) v_61) fun v_62 =>
      wpCall Try.prog X 35 [w9, v_59, v_62] (fun v_63 s_64 =>
      vc_wld09_TopoScript_j5 X g7 w9 i11 v_55 v_63 I2 m2 K s_64) (add s_56 (rest s (minus s h_54)))) (minus s h_54))
     (wpCall Try.prog X 36 [g7] (fun v_65 s_66 =>
      wpCall Try.prog X 37 [w9] (fun v_67 s_68 =>
      wpCall Try.prog X 26 [g7, (.int .i64 0)] (fun v_69 s_70 =>
      optK (unaryA .not v_69) fun v_71 =>
      wpCall Try.prog X 22 [g7, (.int .i64 0), v_71] (fun v_72 s_73 =>
      wpCall Try.prog X 25 [g7, (.int .i64 0)] (fun v_74 s_75 =>
      optK (unaryA .not v_74) fun v_76 =>
      wpCall Try.prog X 19 [g7, (.int .i64 0), v_76] (fun v_77 s_78 =>
      vc_wld09_TopoScript_j5 X v_65 v_67 i11 a12 b13 I2 m2 K s_78) s_75) s_73) s_70) s_68) s_66) s))
def vc_wld09_TopoScript_j3 (X : Told) (l2 : AVal) (g7 : AVal) (w9 : AVal) (i11 : AVal) (t48 : AVal) (t52 : AVal) (I2 : List AVal → Heap → Nat → Prop) (m2 : Nat) (K : AVal → Heap → Prop) (s : Heap) : Prop :=
  optK (pickV t48 t52 (.bool false)) fun v_17 =>
  boolK v_17
   (optK (iaddrS 3 l2 i11) fun v_18 =>
    optK (addOff 0 v_18) fun v_19 =>
    optK (rd1 s v_19) fun v_20 =>
    wpCall Try.prog X 32 [v_20, (.int .i64 4)] (fun v_21 s_22 =>
    optK (negB false (eqV 0 true v_21 (.int .i64 0))) fun v_23 =>
    boolK v_23
     (vc_wld09_TopoScript_j4 X l2 g7 w9 i11 (.int .i64 0) (.int .i64 0) v_21 v_23 I2 m2 K s_22)
     (optK (negB false (eqV 0 true v_21 (.int .i64 1))) fun v_79 =>
      vc_wld09_TopoScript_j4 X l2 g7 w9 i11 (.int .i64 0) (.int .i64 0) v_21 v_79 I2 m2 K s_22)) s)
   (wpCall Try.prog X 10 [] (fun v_80 s_81 =>
    K v_80 s_81) s)
def vc_wld09_TopoScript_l2 (X : Told) (l2 : AVal) (g7 : AVal) (w9 : AVal) (i11 : AVal) (I2 : List AVal → Heap → Nat → Prop) (m2 : Nat) (K : AVal → Heap → Prop) (s : Heap) : Prop :=
  optK (negB true (eqV 3 true w9 .nilptr)) fun v_16 =>
  boolK v_16
   (optK (lenOfA l2) fun v_82 =>
    optK (arithV .lss i11 (.int .i64 v_82)) fun v_84 =>
    vc_wld09_TopoScript_j3 X l2 g7 w9 i11 v_16 v_84 I2 m2 K s)
   (vc_wld09_TopoScript_j3 X l2 g7 w9 i11 v_16 .undef I2 m2 K s)
def vc_wld09_TopoScript_j1 (X : Told) (l2 : AVal) (g7 : AVal) (w9 : AVal) (t39 : AVal) (t44 : AVal) (K : AVal → Heap → Prop) (s : Heap) : Prop :=
  optK (pickV t39 (.bool true) t44) fun v_15 =>
  boolK v_15
   (K (.bool false) s)
   (∃ I2 : List AVal → Heap → Nat → Prop, (∃ m, I2 [g7, w9, (.int .i64 0)] s m) ∧ ∀ (f : Env) (s : Heap) (m2 : Nat), I2 [f 7, f 9, f 11] s m2 →
      vc_wld09_TopoScript_l2 X l2 (f 7) (f 9) (f 11) I2 m2 K s)
def vc_wld09_TopoScript_j0 (X : Told) (nodes0 : AVal) (links1 : AVal) (l2 : AVal) (t18 : AVal) (t21 : AVal) (K : AVal → Heap → Prop) (s : Heap) : Prop :=
  optK (pickV t18 (.bool true) t21) fun v_3 =>
  boolK v_3
   (wpCall Try.prog X 10 [] (fun v_4 s_5 =>
    K v_4 s_5) s)
   (wpCall Try.prog X 12 [nodes0, links1] (fun v_6 s_7 =>
    optK (extractA v_6 0) fun v_8 =>
    optK (extractA v_6 1) fun v_9 =>
    wpCall Try.prog X 13 [nodes0, links1] (fun v_10 s_11 =>
    optK (extractA v_10 0) fun v_12 =>
    optK (extractA v_10 1) fun v_13 =>
    optK (negB true (eqV 0 false v_9 v_13)) fun v_14 =>
    boolK v_14
     (vc_wld09_TopoScript_j1 X l2 v_8 v_12 v_14 .undef K s_11)
     (optK (negB false (eqV 3 true v_8 .nilptr)) fun v_85 =>
      optK (negB false (eqV 3 true v_12 .nilptr)) fun v_86 =>
      optK (negB true (eqV 1 false v_85 v_86)) fun v_87 =>
      vc_wld09_TopoScript_j1 X l2 v_8 v_12 v_14 v_87 K s_11)) s_7) s)
def vc_wld09_TopoScript (X : Told) (nodes0 : AVal) (links1 : AVal) (l2 : AVal) (K : AVal → Heap → Prop) (s : Heap) : Prop :=
  optK (lenOfA links1) fun v_0 =>
  optK (arithV .gtr (.int .i64 v_0) (.int .i64 60)) fun v_2 =>
  boolK v_2
   (vc_wld09_TopoScript_j0 X nodes0 links1 l2 v_2 .undef K s)
   (optK (lenOfA l2) fun v_88 =>
    optK (arithV .gtr (.int .i64 v_88) (.int .i64 60)) fun v_90 =>
    vc_wld09_TopoScript_j0 X nodes0 links1 l2 v_2 v_90 K s)
def vc_wld09_TopoScript_ann : Nat → List Nat := fun k => cond (Nat.beq k 16) [7, 9, 11] (cond (Nat.beq k 1000080) [11] (cond (Nat.beq k 1000106) [11] ([])))
theorem vc_wld09_TopoScript_eq (X : Told) (nodes0 : AVal) (links1 : AVal) (l2 : AVal) (K : AVal → Heap → Prop) (s : Heap) : wpC Try.prog X vc_wld09_TopoScript_ann Try.f8.ntmps none (bodyOf Try.f8) (envOf [nodes0, links1, l2]) (fun e env s => retK e (resK Try.prog Try.f8.results.toList env (fun vs => K (oneV vs) s) s)) s = vc_wld09_TopoScript X nodes0 links1 l2 K s := by kernel_rfl
theorem vc_wld09_TopoScript_ok {X : Told} (hX : FrX X) (hn : X 8 = none) {nodes0 : AVal} {links1 : AVal} {l2 : AVal} {K : AVal → Heap → Prop} {s : Heap} (h : vc_wld09_TopoScript X nodes0 links1 l2 K s) : wpCall Try.prog X 8 [nodes0, links1, l2] K s :=
  wpCall_code hX vc_wld09_TopoScript_ann hn Try.func8 (by kernel_rfl : Try.f8.body = some (bodyOf Try.f8)) (by kernel_rfl) ((vc_wld09_TopoScript_eq X nodes0 links1 l2 K s).mpr h)
theorem vc_wld09_TopoScript_in {nodes0 : AVal} {links1 : AVal} {l2 : AVal} {K : AVal → Heap → Prop} {s : Heap} (h : vc_wld09_TopoScript XX nodes0 links1 l2 K s) : wpCall Try.prog XX 8 [nodes0, links1, l2] K s := vc_wld09_TopoScript_ok XX_fr rfl h
end Go.AM
