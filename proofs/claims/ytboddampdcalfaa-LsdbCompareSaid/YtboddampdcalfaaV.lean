/- Part V of a calculus over a small memory that is proved to answer as the program does, and of its use for the functions that the law reaches: see the last part. -/
import Derived.Test.YtboddampdcalfaaU2
import Derived.Test.YtboddampdcalfaaProg
import Derived.KernelRfl
set_option linter.unusedVariables false
namespace Go.AM
open Go Go.Proofs
set_option maxRecDepth 100000
abbrev XX : Told := closedX [10]
/-- leafmesh/leafmeshlaw13.LsdbCompare (3) -/
def vc_leafmeshlaw13_LsdbCompare_j0 (X : Told) (nodes0 : AVal) (a4 : AVal) (b5 : AVal) (t13 : AVal) (t17 : AVal) (K : AVal → Heap → Prop) (s : Heap) : Prop :=
  optK (pickV t13 (.bool true) t17) fun v_9 =>
  boolK v_9
   (wpCall Try.prog X 10 [] (fun v_10 s_11 =>
    K v_10 s_11) s)
   (optK (rdN s 3 a4) fun v_12 =>
    optK (rdN s 3 b5) fun v_13 =>
    newK 24 [(.int .i64 0), (.int .i64 0), .nilslc] (fun b_14 s_15 =>
    (∀ b, s b ≠ none → s b = none → s_15 b = none) →
    newK 24 [(.int .i64 0), (.int .i64 0), .nilslc] (fun b_16 s_17 =>
    (∀ b, (add s s_15) b ≠ none → (cutH [(s, (add s s_15))] (add s s_15)) b = none → s_17 b = none) →
    ((cutH [((hdel s (blkOf b5)), s)] (add (add s s_15) s_17)) (blkOf (.ptr b_14 0)) ≠ none) ∧
    optK (wrAgg (add (add s s_15) s_17) 3 (.ptr b_14 0) (.agg v_12)) fun s_18 =>
    optK (wrAgg s_18 3 (.ptr b_16 0) (.agg v_13)) fun s_19 =>
    optK (addOff 2 a4) fun v_20 =>
    optK (rd1 s_19 v_20) fun v_21 =>
    wpCall Try.prog X 11 [v_21] (fun v_22 s_23 =>
    (∀ b, s_19 b ≠ none → s_19 b = none → s_23 b = none) →
    optK (addOff 2 b5) fun v_24 =>
    optK (rd1 (cutH [(s_19, (add s_19 s_23))] (add s_19 s_23)) v_24) fun v_25 =>
    wpCall Try.prog X 11 [v_25] (fun v_26 s_27 =>
    optK (addOff 2 (.ptr b_14 0)) fun v_28 =>
    optK (wr1 s_27 v_28 v_22) fun s_29 =>
    optK (addOff 2 (.ptr b_16 0)) fun v_30 =>
    optK (wr1 s_29 v_30 v_26) fun s_31 =>
    optK (rdN s_31 3 (.ptr b_14 0)) fun v_32 =>
    wpCall Try.prog X 12 [nodes0, (.agg v_32)] (fun v_33 s_34 =>
    (∀ b, s_31 b ≠ none → s_31 b = none → s_34 b = none) →
    optK (rdN (cutH [(s_31, (add s_31 s_34))] (add s_31 s_34)) 3 a4) fun v_35 =>
    wpCall Try.prog X 13 [nodes0, (.agg v_35)] (fun v_36 s_37 =>
    optK (negB false (eqV 0 false v_33 v_36)) fun v_38 =>
    boolK v_38
     (optK (rdN s_37 3 (.ptr b_14 0)) fun v_39 =>
    optK (rdN s_37 3 (.ptr b_16 0)) fun v_40 =>
    wpCall Try.prog X 14 [(.agg v_39), (.agg v_40)] (fun v_41 s_42 =>
    (∀ b, s_37 b ≠ none → s_37 b = none → s_42 b = none) →
    optK (rdN (cutH [(s_37, (add s_37 s_42))] (add s_37 s_42)) 3 a4) fun v_43 =>
    optK (rdN (cutH [(s_37, (add s_37 s_42))] (add s_37 s_42)) 3 b5) fun v_44 =>
    wpCall Try.prog X 15 [(.agg v_43), (.agg v_44)] (fun v_45 s_46 =>
    optK (negB false (eqV 0 false v_41 v_45)) fun v_47 =>
    optK (pickV v_38 v_47 (.bool false)) fun v_48 =>
    boolK v_48
     (optK (rdN s_46 3 (.ptr b_14 0)) fun v_49 =>
    optK (rdN s_46 3 a4) fun v_50 =>
    wpCall Try.prog X 16 [(.agg v_49), (.agg v_50)] (fun v_51 s_52 =>
    optK (pickV v_48 v_51 (.bool false)) fun v_53 =>
    boolK v_53
     (optK (rdN s_52 3 (.ptr b_16 0)) fun v_54 =>
    optK (rdN s_52 3 b5) fun v_55 =>
    wpCall Try.prog X 16 [(.agg v_54), (.agg v_55)] (fun v_56 s_57 =>
    optK (pickV v_53 v_56 (.bool false)) fun v_58 =>
    boolK v_58
     (wpCall Try.prog X 10 [] (fun v_59 s_60 =>
    optK (pickV v_58 v_59 (.bool false)) fun v_61 =>
    K v_61 s_60) s_57)
     (optK (pickV v_58 .undef (.bool false)) fun v_62 =>
    K v_62 s_57)) s_52)
     (optK (pickV v_53 .undef (.bool false)) fun v_63 =>
    boolK v_63
     (wpCall Try.prog X 10 [] (fun v_64 s_65 =>
    optK (pickV v_63 v_64 (.bool false)) fun v_66 =>
    K v_66 s_65) s_52)
     (optK (pickV v_63 .undef (.bool false)) fun v_67 =>
    K v_67 s_52))) s_46)
     (optK (pickV v_48 .undef (.bool false)) fun v_68 =>
    boolK v_68
     (optK (rdN s_46 3 (.ptr b_16 0)) fun v_69 =>
    optK (rdN s_46 3 b5) fun v_70 =>
    wpCall Try.prog X 16 [(.agg v_69), (.agg v_70)] (fun v_71 s_72 =>
    optK (pickV v_68 v_71 (.bool false)) fun v_73 =>
    boolK v_73
     (wpCall Try.prog X 10 [] (fun v_74 s_75 =>
    optK (pickV v_73 v_74 (.bool false)) fun v_76 =>
    K v_76 s_75) s_72)
     (optK (pickV v_73 .undef (.bool false)) fun v_77 =>
    K v_77 s_72)) s_46)
     (optK (pickV v_68 .undef (.bool false)) fun v_78 =>
    boolK v_78
     (wpCall Try.prog X 10 [] (fun v_79 s_80 =>
    optK (pickV v_78 v_79 (.bool false)) fun v_81 =>
    K v_81 s_80) s_46)
     (optK (pickV v_78 .undef (.bool false)) fun v_82 =>
    K v_82 s_46)))) (add s_37 s_42)) (frz s_37))
     (optK (pickV v_38 .undef (.bool false)) fun v_83 =>
    boolK v_83
     (optK (rdN s_37 3 (.ptr b_14 0)) fun v_84 =>
    optK (rdN s_37 3 a4) fun v_85 =>
    wpCall Try.prog X 16 [(.agg v_84), (.agg v_85)] (fun v_86 s_87 =>
    optK (pickV v_83 v_86 (.bool false)) fun v_88 =>
    boolK v_88
     (optK (rdN s_87 3 (.ptr b_16 0)) fun v_89 =>
    optK (rdN s_87 3 b5) fun v_90 =>
    wpCall Try.prog X 16 [(.agg v_89), (.agg v_90)] (fun v_91 s_92 =>
    optK (pickV v_88 v_91 (.bool false)) fun v_93 =>
    boolK v_93
     (wpCall Try.prog X 10 [] (fun v_94 s_95 =>
    optK (pickV v_93 v_94 (.bool false)) fun v_96 =>
    K v_96 s_95) s_92)
     (optK (pickV v_93 .undef (.bool false)) fun v_97 =>
    K v_97 s_92)) s_87)
     (optK (pickV v_88 .undef (.bool false)) fun v_98 =>
    boolK v_98
     (wpCall Try.prog X 10 [] (fun v_99 s_100 =>
    optK (pickV v_98 v_99 (.bool false)) fun v_101 =>
    K v_101 s_100) s_87)
     (optK (pickV v_98 .undef (.bool false)) fun v_102 =>
    K v_102 s_87))) s_37)
     (optK (pickV v_83 .undef (.bool false)) fun v_103 =>
    boolK v_103
     (optK (rdN s_37 3 (.ptr b_16 0)) fun v_104 =>
    optK (rdN s_37 3 b5) fun v_105 =>
    wpCall Try.prog X 16 [(.agg v_104), (.agg v_105)] (fun v_106 s_107 =>
    optK (pickV v_103 v_106 (.bool false)) fun v_108 =>
    boolK v_108
     (wpCall Try.prog X 10 [] (fun v_109 s_110 =>
    optK (pickV v_108 v_109 (.bool false)) fun v_111 =>
    K v_111 s_110) s_107)
     (optK (pickV v_108 .undef (.bool false)) fun v_112 =>
    K v_112 s_107)) s_37)
     (optK (pickV v_103 .undef (.bool false)) fun v_113 =>
    boolK v_113
     (wpCall Try.prog X 10 [] (fun v_114 s_115 =>
    optK (pickV v_113 v_114 (.bool false)) fun v_116 =>
    K v_116 s_115) s_37)
     (optK (pickV v_113 .undef (.bool false)) fun v_117 =>
    K v_117 s_37))))) (add s_31 s_34)) (frz s_31)) (add s_19 s_23)) (frz s_19)) (frz (cutH [(s, (add s s_15))] (add s s_15)))) (frz s))
def vc_leafmeshlaw13_LsdbCompare (X : Told) (nodes0 : AVal) (a1 : AVal) (b2 : AVal) (K : AVal → Heap → Prop) (s : Heap) : Prop :=
  boxK 24 a1 (fun b_0 s_1 =>
  boxK 24 b2 (fun b_2 s_3 =>
  optK (addOff 2 b_0) fun v_4 =>
  optK (rd1 s_3 v_4) fun v_5 =>
  optK (lenOfA v_5) fun v_6 =>
  optK (arithV .gtr (.int .i64 v_6) (.int .i64 200)) fun v_8 =>
  boolK v_8
   (vc_leafmeshlaw13_LsdbCompare_j0 X nodes0 b_0 b_2 v_8 .undef K s_3)
   (optK (addOff 2 b_2) fun v_118 =>
    optK (rd1 s_3 v_118) fun v_119 =>
    optK (lenOfA v_119) fun v_120 =>
    optK (arithV .gtr (.int .i64 v_120) (.int .i64 200)) fun v_122 =>
    vc_leafmeshlaw13_LsdbCompare_j0 X nodes0 b_0 b_2 v_8 v_122 K s_3)) s_1) s
def vc_leafmeshlaw13_LsdbCompare_ann : Nat → List Nat := fun _ => []
theorem vc_leafmeshlaw13_LsdbCompare_eq (X : Told) (nodes0 : AVal) (a1 : AVal) (b2 : AVal) (K : AVal → Heap → Prop) (s : Heap) : wpC Try.prog X vc_leafmeshlaw13_LsdbCompare_ann Try.f3.ntmps none (bodyOf Try.f3) (envOf [nodes0, a1, b2]) (fun e env s => retK e (resK Try.prog Try.f3.results.toList env (fun vs => K (oneV vs) s) s)) s = vc_leafmeshlaw13_LsdbCompare X nodes0 a1 b2 K s := by kernel_rfl
theorem vc_leafmeshlaw13_LsdbCompare_ok {X : Told} (hX : FrX X) (hn : X 3 = none) {nodes0 : AVal} {a1 : AVal} {b2 : AVal} {K : AVal → Heap → Prop} {s : Heap} (h : vc_leafmeshlaw13_LsdbCompare X nodes0 a1 b2 K s) : wpCall Try.prog X 3 [nodes0, a1, b2] K s :=
  wpCall_code hX vc_leafmeshlaw13_LsdbCompare_ann hn Try.func3 (by kernel_rfl : Try.f3.body = some (bodyOf Try.f3)) (by kernel_rfl) ((vc_leafmeshlaw13_LsdbCompare_eq X nodes0 a1 b2 K s).mpr h)
theorem vc_leafmeshlaw13_LsdbCompare_in {nodes0 : AVal} {a1 : AVal} {b2 : AVal} {K : AVal → Heap → Prop} {s : Heap} (h : vc_leafmeshlaw13_LsdbCompare XX nodes0 a1 b2 K s) : wpCall Try.prog XX 3 [nodes0, a1, b2] K s := vc_leafmeshlaw13_LsdbCompare_ok (closedX_fr _) rfl h
/-- leafmesh/leafmeshkit.Own[int] (11) -/
def vc_leafmeshkit_Own_int_ (X : Told) (l0 : AVal) (K : AVal → Heap → Prop) (s : Heap) : Prop :=
  optK (fillR (repl 0 [(.int .i64 0)]) []) fun c_0 => allOne c_0 = true ∧ newK 3 c_0 (fun b_1 s_2 =>
  appK 3 1 (.slc b_1 0 0 (some 0) 1) l0 (fun v_3 s_4 =>
  K v_3 s_4) s_2) s
def vc_leafmeshkit_Own_int__ann : Nat → List Nat := fun _ => []
theorem vc_leafmeshkit_Own_int__eq (X : Told) (l0 : AVal) (K : AVal → Heap → Prop) (s : Heap) : wpC Try.prog X vc_leafmeshkit_Own_int__ann Try.f11.ntmps none (bodyOf Try.f11) (envOf [l0]) (fun e env s => retK e (resK Try.prog Try.f11.results.toList env (fun vs => K (oneV vs) s) s)) s = vc_leafmeshkit_Own_int_ X l0 K s := by kernel_rfl
theorem vc_leafmeshkit_Own_int__ok {X : Told} (hX : FrX X) (hn : X 11 = none) {l0 : AVal} {K : AVal → Heap → Prop} {s : Heap} (h : vc_leafmeshkit_Own_int_ X l0 K s) : wpCall Try.prog X 11 [l0] K s :=
  wpCall_code hX vc_leafmeshkit_Own_int__ann hn Try.func11 (by kernel_rfl : Try.f11.body = some (bodyOf Try.f11)) (by kernel_rfl) ((vc_leafmeshkit_Own_int__eq X l0 K s).mpr h)
theorem vc_leafmeshkit_Own_int__in {l0 : AVal} {K : AVal → Heap → Prop} {s : Heap} (h : vc_leafmeshkit_Own_int_ XX l0 K s) : wpCall Try.prog XX 11 [l0] K s := vc_leafmeshkit_Own_int__ok (closedX_fr _) rfl h
/-- leafmesh/lsdb.Check (12) -/
def vc_lsdb_Check_j2 (X : Told) (r3 : AVal) (t19 : AVal) (t22 : AVal) (K : AVal → Heap → Prop) (s : Heap) : Prop :=
  optK (pickV t19 (.bool true) t22) fun v_7 =>
  boolK v_7
   (K (.int .i64 2) s)
   (optK (addOff 2 r3) fun v_8 =>
    optK (rd1 s v_8) fun v_9 =>
    wpCall Try.prog X 45 [v_9] (fun v_10 s_11 =>
    K v_10 s_11) s)
def vc_lsdb_Check_j1 (X : Told) (r3 : AVal) (t14 : AVal) (t17 : AVal) (K : AVal → Heap → Prop) (s : Heap) : Prop :=
  optK (pickV t14 (.bool true) t17) fun v_6 =>
  boolK v_6
   (vc_lsdb_Check_j2 X r3 v_6 .undef K s)
   (optK (addOff 1 r3) fun v_12 =>
    optK (rd1 s v_12) fun v_13 =>
    optK (arithV .gtr v_13 (.int .i64 1073741824)) fun v_14 =>
    vc_lsdb_Check_j2 X r3 v_6 v_14 K s)
def vc_lsdb_Check_j0 (X : Told) (r3 : AVal) (t8 : AVal) (t12 : AVal) (K : AVal → Heap → Prop) (s : Heap) : Prop :=
  optK (pickV t8 (.bool true) t12) fun v_5 =>
  boolK v_5
   (vc_lsdb_Check_j1 X r3 v_5 .undef K s)
   (optK (addOff 1 r3) fun v_15 =>
    optK (rd1 s v_15) fun v_16 =>
    optK (arithV .lss v_16 (.int .i64 1)) fun v_17 =>
    vc_lsdb_Check_j1 X r3 v_5 v_17 K s)
def vc_lsdb_Check (X : Told) (nodes0 : AVal) (r1 : AVal) (K : AVal → Heap → Prop) (s : Heap) : Prop :=
  boxK 24 r1 (fun b_0 s_1 =>
  optK (addOff 0 b_0) fun v_2 =>
  optK (rd1 s_1 v_2) fun v_3 =>
  optK (arithV .lss v_3 (.int .i64 0)) fun v_4 =>
  boolK v_4
   (vc_lsdb_Check_j0 X b_0 v_4 .undef K s_1)
   (optK (addOff 0 b_0) fun v_18 =>
    optK (rd1 s_1 v_18) fun v_19 =>
    optK (arithV .geq v_19 nodes0) fun v_20 =>
    vc_lsdb_Check_j0 X b_0 v_4 v_20 K s_1)) s
def vc_lsdb_Check_ann : Nat → List Nat := fun _ => []
theorem vc_lsdb_Check_eq (X : Told) (nodes0 : AVal) (r1 : AVal) (K : AVal → Heap → Prop) (s : Heap) : wpC Try.prog X vc_lsdb_Check_ann Try.f12.ntmps none (bodyOf Try.f12) (envOf [nodes0, r1]) (fun e env s => retK e (resK Try.prog Try.f12.results.toList env (fun vs => K (oneV vs) s) s)) s = vc_lsdb_Check X nodes0 r1 K s := by kernel_rfl
theorem vc_lsdb_Check_ok {X : Told} (hX : FrX X) (hn : X 12 = none) {nodes0 : AVal} {r1 : AVal} {K : AVal → Heap → Prop} {s : Heap} (h : vc_lsdb_Check X nodes0 r1 K s) : wpCall Try.prog X 12 [nodes0, r1] K s :=
  wpCall_code hX vc_lsdb_Check_ann hn Try.func12 (by kernel_rfl : Try.f12.body = some (bodyOf Try.f12)) (by kernel_rfl) ((vc_lsdb_Check_eq X nodes0 r1 K s).mpr h)
theorem vc_lsdb_Check_in {nodes0 : AVal} {r1 : AVal} {K : AVal → Heap → Prop} {s : Heap} (h : vc_lsdb_Check XX nodes0 r1 K s) : wpCall Try.prog XX 12 [nodes0, r1] K s := vc_lsdb_Check_ok (closedX_fr _) rfl h
/-- leafmesh/leafmeshref13.Check (13) -/
def vc_leafmeshref13_Check_j2 (X : Told) (r3 : AVal) (t19 : AVal) (t22 : AVal) (K : AVal → Heap → Prop) (s : Heap) : Prop :=
  optK (pickV t19 (.bool true) t22) fun v_7 =>
  boolK v_7
   (K (.int .i64 2) s)
   (optK (addOff 2 r3) fun v_8 =>
    optK (rd1 s v_8) fun v_9 =>
    wpCall Try.prog X 46 [v_9] (fun v_10 s_11 =>
    K v_10 s_11) s)
def vc_leafmeshref13_Check_j1 (X : Told) (r3 : AVal) (t14 : AVal) (t17 : AVal) (K : AVal → Heap → Prop) (s : Heap) : Prop :=
  optK (pickV t14 (.bool true) t17) fun v_6 =>
  boolK v_6
   (vc_leafmeshref13_Check_j2 X r3 v_6 .undef K s)
   (optK (addOff 1 r3) fun v_12 =>
    optK (rd1 s v_12) fun v_13 =>
    optK (arithV .gtr v_13 (.int .i64 1073741824)) fun v_14 =>
    vc_leafmeshref13_Check_j2 X r3 v_6 v_14 K s)
def vc_leafmeshref13_Check_j0 (X : Told) (r3 : AVal) (t8 : AVal) (t12 : AVal) (K : AVal → Heap → Prop) (s : Heap) : Prop :=
  optK (pickV t8 (.bool true) t12) fun v_5 =>
  boolK v_5
   (vc_leafmeshref13_Check_j1 X r3 v_5 .undef K s)
   (optK (addOff 1 r3) fun v_15 =>
    optK (rd1 s v_15) fun v_16 =>
    optK (arithV .lss v_16 (.int .i64 1)) fun v_17 =>
    vc_leafmeshref13_Check_j1 X r3 v_5 v_17 K s)
def vc_leafmeshref13_Check (X : Told) (nodes0 : AVal) (r1 : AVal) (K : AVal → Heap → Prop) (s : Heap) : Prop :=
  boxK 24 r1 (fun b_0 s_1 =>
  optK (addOff 0 b_0) fun v_2 =>
  optK (rd1 s_1 v_2) fun v_3 =>
  optK (arithV .lss v_3 (.int .i64 0)) fun v_4 =>
  boolK v_4
   (vc_leafmeshref13_Check_j0 X b_0 v_4 .undef K s_1)
   (optK (addOff 0 b_0) fun v_18 =>
    optK (rd1 s_1 v_18) fun v_19 =>
    optK (arithV .geq v_19 nodes0) fun v_20 =>
    vc_leafmeshref13_Check_j0 X b_0 v_4 v_20 K s_1)) s
def vc_leafmeshref13_Check_ann : Nat → List Nat := fun _ => []
theorem vc_leafmeshref13_Check_eq (X : Told) (nodes0 : AVal) (r1 : AVal) (K : AVal → Heap → Prop) (s : Heap) : wpC Try.prog X vc_leafmeshref13_Check_ann Try.f13.ntmps none (bodyOf Try.f13) (envOf [nodes0, r1]) (fun e env s => retK e (resK Try.prog Try.f13.results.toList env (fun vs => K (oneV vs) s) s)) s = vc_leafmeshref13_Check X nodes0 r1 K s := by kernel_rfl
theorem vc_leafmeshref13_Check_ok {X : Told} (hX : FrX X) (hn : X 13 = none) {nodes0 : AVal} {r1 : AVal} {K : AVal → Heap → Prop} {s : Heap} (h : vc_leafmeshref13_Check X nodes0 r1 K s) : wpCall Try.prog X 13 [nodes0, r1] K s :=
  wpCall_code hX vc_leafmeshref13_Check_ann hn Try.func13 (by kernel_rfl : Try.f13.body = some (bodyOf Try.f13)) (by kernel_rfl) ((vc_leafmeshref13_Check_eq X nodes0 r1 K s).mpr h)
theorem vc_leafmeshref13_Check_in {nodes0 : AVal} {r1 : AVal} {K : AVal → Heap → Prop} {s : Heap} (h : vc_leafmeshref13_Check XX nodes0 r1 K s) : wpCall Try.prog XX 13 [nodes0, r1] K s := vc_leafmeshref13_Check_ok (closedX_fr _) rfl h
/-- leafmesh/lsdb.Compare (14) -/
def vc_lsdb_Compare (X : Told) (a0 : AVal) (b1 : AVal) (K : AVal → Heap → Prop) (s : Heap) : Prop :=
  boxK 24 a0 (fun b_0 s_1 =>
  boxK 24 b1 (fun b_2 s_3 =>
  optK (addOff 1 b_0) fun v_4 =>
  optK (rd1 s_3 v_4) fun v_5 =>
  optK (addOff 1 b_2) fun v_6 =>
  optK (rd1 s_3 v_6) fun v_7 =>
  wpCall Try.prog X 48 [v_5, v_7] (fun v_8 s_9 =>
  (∀ b, s_3 b ≠ none → s_3 b = none → s_9 b = none) →
  optK (addOff 2 b_0) fun v_10 =>
  optK (rd1 (cutH [(s_3, (add s_3 s_9))] (add s_3 s_9)) v_10) fun v_11 =>
  optK (addOff 2 b_2) fun v_12 =>
  optK (rd1 (cutH [(s_3, (add s_3 s_9))] (add s_3 s_9)) v_12) fun v_13 =>
  wpCall Try.prog X 49 [v_11, v_13] (fun v_14 s_15 =>
  optK (fillR (repl 2 [(.int .i64 0)]) [(0, 1, v_8), (1, 1, v_14)]) fun c_16 => allOne c_16 = true ∧ newK 3 c_16 (fun b_17 s_18 =>
  wpCall Try.prog X 47 [(.slc b_17 0 2 (some 2) 1)] (fun v_19 s_20 =>
  K v_19 s_20) s_18) s_15) (add s_3 s_9)) (frz s_3)) s_1) s
def vc_lsdb_Compare_ann : Nat → List Nat := fun _ => []
theorem vc_lsdb_Compare_eq (X : Told) (a0 : AVal) (b1 : AVal) (K : AVal → Heap → Prop) (s : Heap) : wpC Try.prog X vc_lsdb_Compare_ann Try.f14.ntmps none (bodyOf Try.f14) (envOf [a0, b1]) (fun e env s => retK e (resK Try.prog Try.f14.results.toList env (fun vs => K (oneV vs) s) s)) s = vc_lsdb_Compare X a0 b1 K s := by kernel_rfl
theorem vc_lsdb_Compare_ok {X : Told} (hX : FrX X) (hn : X 14 = none) {a0 : AVal} {b1 : AVal} {K : AVal → Heap → Prop} {s : Heap} (h : vc_lsdb_Compare X a0 b1 K s) : wpCall Try.prog X 14 [a0, b1] K s :=
  wpCall_code hX vc_lsdb_Compare_ann hn Try.func14 (by kernel_rfl : Try.f14.body = some (bodyOf Try.f14)) (by kernel_rfl) ((vc_lsdb_Compare_eq X a0 b1 K s).mpr h)
theorem vc_lsdb_Compare_in {a0 : AVal} {b1 : AVal} {K : AVal → Heap → Prop} {s : Heap} (h : vc_lsdb_Compare XX a0 b1 K s) : wpCall Try.prog XX 14 [a0, b1] K s := vc_lsdb_Compare_ok (closedX_fr _) rfl h
/-- leafmesh/leafmeshref13.Compare (15) -/
def vc_leafmeshref13_Compare (X : Told) (a0 : AVal) (b1 : AVal) (K : AVal → Heap → Prop) (s : Heap) : Prop :=
  boxK 24 a0 (fun b_0 s_1 =>
  boxK 24 b1 (fun b_2 s_3 =>
  optK (addOff 1 b_0) fun v_4 =>
  optK (rd1 s_3 v_4) fun v_5 =>
  optK (addOff 1 b_2) fun v_6 =>
  optK (rd1 s_3 v_6) fun v_7 =>
  optK (arithV .lss v_5 v_7) fun v_8 =>
  boolK v_8
   (K (.int .i64 (-1)) s_3)
   (optK (addOff 1 b_0) fun v_9 =>
    optK (rd1 s_3 v_9) fun v_10 =>
    optK (addOff 1 b_2) fun v_11 =>
    optK (rd1 s_3 v_11) fun v_12 =>
    optK (arithV .gtr v_10 v_12) fun v_13 =>
    boolK v_13
     (K (.int .i64 1) s_3)
     (optK (addOff 2 b_0) fun v_14 =>
      optK (rd1 s_3 v_14) fun v_15 =>
      optK (addOff 2 b_2) fun v_16 =>
      optK (rd1 s_3 v_16) fun v_17 =>
      wpCall Try.prog X 50 [v_15, v_17] (fun v_18 s_19 =>
      K v_18 s_19) s_3))) s_1) s
def vc_leafmeshref13_Compare_ann : Nat → List Nat := fun _ => []
theorem vc_leafmeshref13_Compare_eq (X : Told) (a0 : AVal) (b1 : AVal) (K : AVal → Heap → Prop) (s : Heap) : wpC Try.prog X vc_leafmeshref13_Compare_ann Try.f15.ntmps none (bodyOf Try.f15) (envOf [a0, b1]) (fun e env s => retK e (resK Try.prog Try.f15.results.toList env (fun vs => K (oneV vs) s) s)) s = vc_leafmeshref13_Compare X a0 b1 K s := by kernel_rfl
theorem vc_leafmeshref13_Compare_ok {X : Told} (hX : FrX X) (hn : X 15 = none) {a0 : AVal} {b1 : AVal} {K : AVal → Heap → Prop} {s : Heap} (h : vc_leafmeshref13_Compare X a0 b1 K s) : wpCall Try.prog X 15 [a0, b1] K s :=
  wpCall_code hX vc_leafmeshref13_Compare_ann hn Try.func15 (by kernel_rfl : Try.f15.body = some (bodyOf Try.f15)) (by kernel_rfl) ((vc_leafmeshref13_Compare_eq X a0 b1 K s).mpr h)
theorem vc_leafmeshref13_Compare_in {a0 : AVal} {b1 : AVal} {K : AVal → Heap → Prop} {s : Heap} (h : vc_leafmeshref13_Compare XX a0 b1 K s) : wpCall Try.prog XX 15 [a0, b1] K s := vc_leafmeshref13_Compare_ok (closedX_fr _) rfl h
/-- leafmesh/leafmeshlaw13.equal (16) -/
def vc_leafmeshlaw13_equal_j1 (X : Told) (t17 : AVal) (t22 : AVal) (K : AVal → Heap → Prop) (s : Heap) : Prop :=
  optK (pickV t17 t22 (.bool false)) fun v_10 =>
  K v_10 s
def vc_leafmeshlaw13_equal_j0 (X : Told) (a2 : AVal) (b3 : AVal) (t10 : AVal) (t15 : AVal) (K : AVal → Heap → Prop) (s : Heap) : Prop :=
  optK (pickV t10 t15 (.bool false)) fun v_9 =>
  boolK v_9
   (optK (addOff 2 a2) fun v_11 =>
    optK (rd1 s v_11) fun v_12 =>
    optK (addOff 2 b3) fun v_13 =>
    optK (rd1 s v_13) fun v_14 =>
    wpCall Try.prog X 34 [v_12, v_14] (fun v_15 s_16 =>
    vc_leafmeshlaw13_equal_j1 X v_9 v_15 K s_16) s)
   (vc_leafmeshlaw13_equal_j1 X v_9 .undef K s)
def vc_leafmeshlaw13_equal (X : Told) (a0 : AVal) (b1 : AVal) (K : AVal → Heap → Prop) (s : Heap) : Prop :=
  boxK 24 a0 (fun b_0 s_1 =>
  boxK 24 b1 (fun b_2 s_3 =>
  optK (addOff 0 b_0) fun v_4 =>
  optK (rd1 s_3 v_4) fun v_5 =>
  optK (addOff 0 b_2) fun v_6 =>
  optK (rd1 s_3 v_6) fun v_7 =>
  optK (negB false (eqV 0 false v_5 v_7)) fun v_8 =>
  boolK v_8
   (optK (addOff 1 b_0) fun v_17 =>
    optK (rd1 s_3 v_17) fun v_18 =>
    optK (addOff 1 b_2) fun v_19 =>
    optK (rd1 s_3 v_19) fun v_20 =>
    optK (negB false (eqV 0 false v_18 v_20)) fun v_21 =>
    vc_leafmeshlaw13_equal_j0 X b_0 b_2 v_8 v_21 K s_3)
   (vc_leafmeshlaw13_equal_j0 X b_0 b_2 v_8 .undef K s_3)) s_1) s
def vc_leafmeshlaw13_equal_ann : Nat → List Nat := fun _ => []
theorem vc_leafmeshlaw13_equal_eq (X : Told) (a0 : AVal) (b1 : AVal) (K : AVal → Heap → Prop) (s : Heap) : wpC Try.prog X vc_leafmeshlaw13_equal_ann Try.f16.ntmps none (bodyOf Try.f16) (envOf [a0, b1]) (fun e env s => retK e (resK Try.prog Try.f16.results.toList env (fun vs => K (oneV vs) s) s)) s = vc_leafmeshlaw13_equal X a0 b1 K s := by kernel_rfl
theorem vc_leafmeshlaw13_equal_ok {X : Told} (hX : FrX X) (hn : X 16 = none) {a0 : AVal} {b1 : AVal} {K : AVal → Heap → Prop} {s : Heap} (h : vc_leafmeshlaw13_equal X a0 b1 K s) : wpCall Try.prog X 16 [a0, b1] K s :=
  wpCall_code hX vc_leafmeshlaw13_equal_ann hn Try.func16 (by kernel_rfl : Try.f16.body = some (bodyOf Try.f16)) (by kernel_rfl) ((vc_leafmeshlaw13_equal_eq X a0 b1 K s).mpr h)
theorem vc_leafmeshlaw13_equal_in {a0 : AVal} {b1 : AVal} {K : AVal → Heap → Prop} {s : Heap} (h : vc_leafmeshlaw13_equal XX a0 b1 K s) : wpCall Try.prog XX 16 [a0, b1] K s := vc_leafmeshlaw13_equal_ok (closedX_fr _) rfl h
/-- leafmesh/leafmeshkit.Same[int] (34) -/
def vc_leafmeshkit_Same_int__l0 (X : Told) (a0 : AVal) (b1 : AVal) (i5 : AVal) (I0 : List AVal → Heap → Nat → Prop) (m0 : Nat) (K : AVal → Heap → Prop) (s : Heap) : Prop :=
  optK (lenOfA a0) fun v_5 =>
  optK (arithV .lss i5 (.int .i64 v_5)) fun v_7 =>
  boolK v_7
   (optK (iaddrS 1 a0 i5) fun v_8 =>
    optK (rd1 s v_8) fun v_9 =>
    optK (iaddrS 1 b1 i5) fun v_10 =>
    optK (rd1 s v_10) fun v_11 =>
    optK (negB true (eqV 0 false v_9 v_11)) fun v_12 =>
    boolK v_12
     (K (.bool false) s)
     (optK (arithV .add i5 (.int .i64 1)) fun v_13 =>
      ∃ m', m' < m0 ∧ I0 [v_13] s m'))
   (K (.bool true) s)
def vc_leafmeshkit_Same_int_ (X : Told) (a0 : AVal) (b1 : AVal) (K : AVal → Heap → Prop) (s : Heap) : Prop :=
  optK (lenOfA a0) fun v_0 =>
  optK (lenOfA b1) fun v_2 =>
  optK (negB true (eqV 0 false (.int .i64 v_0) (.int .i64 v_2))) fun v_4 =>
  boolK v_4
   (K (.bool false) s)
   (∃ I0 : List AVal → Heap → Nat → Prop, (∃ m, I0 [(.int .i64 0)] s m) ∧ ∀ (f : Env) (s : Heap) (m0 : Nat), I0 [f 5] s m0 →
      vc_leafmeshkit_Same_int__l0 X a0 b1 (f 5) I0 m0 K s)
def vc_leafmeshkit_Same_int__ann : Nat → List Nat := fun k => cond (Nat.beq k 8) [5] ([])
theorem vc_leafmeshkit_Same_int__eq (X : Told) (a0 : AVal) (b1 : AVal) (K : AVal → Heap → Prop) (s : Heap) : wpC Try.prog X vc_leafmeshkit_Same_int__ann Try.f34.ntmps none (bodyOf Try.f34) (envOf [a0, b1]) (fun e env s => retK e (resK Try.prog Try.f34.results.toList env (fun vs => K (oneV vs) s) s)) s = vc_leafmeshkit_Same_int_ X a0 b1 K s := by kernel_rfl
theorem vc_leafmeshkit_Same_int__ok {X : Told} (hX : FrX X) (hn : X 34 = none) {a0 : AVal} {b1 : AVal} {K : AVal → Heap → Prop} {s : Heap} (h : vc_leafmeshkit_Same_int_ X a0 b1 K s) : wpCall Try.prog X 34 [a0, b1] K s :=
  wpCall_code hX vc_leafmeshkit_Same_int__ann hn Try.func34 (by kernel_rfl : Try.f34.body = some (bodyOf Try.f34)) (by kernel_rfl) ((vc_leafmeshkit_Same_int__eq X a0 b1 K s).mpr h)
theorem vc_leafmeshkit_Same_int__in {a0 : AVal} {b1 : AVal} {K : AVal → Heap → Prop} {s : Heap} (h : vc_leafmeshkit_Same_int_ XX a0 b1 K s) : wpCall Try.prog XX 34 [a0, b1] K s := vc_leafmeshkit_Same_int__ok (closedX_fr _) rfl h
/-- leafmesh/lsdb.checkLinks (45) -/
def vc_lsdb_checkLinks_j2 (X : Told) (t7 : AVal) (t20 : AVal) (t27 : AVal) (I0 : List AVal → Heap → Nat → Prop) (m0 : Nat) (K : AVal → Heap → Prop) (s : Heap) : Prop :=
  optK (pickV t20 t27 (.bool false)) fun v_8 =>
  boolK v_8
   (K (.int .i64 10) s)
   (optK (arithV .add t7 (.int .i64 1)) fun v_9 =>
    ∃ m', m' < m0 ∧ I0 [v_9] s m')
def vc_lsdb_checkLinks_j1 (X : Told) (links0 : AVal) (i3 : AVal) (l4 : AVal) (t7 : AVal) (t14 : AVal) (t16 : AVal) (I0 : List AVal → Heap → Nat → Prop) (m0 : Nat) (K : AVal → Heap → Prop) (s : Heap) : Prop :=
  optK (pickV t14 (.bool true) t16) fun v_6 =>
  boolK v_6
   (K (.int .i64 2) s)
   (optK (arithV .gtr i3 (.int .i64 0)) fun v_7 =>
    boolK v_7
     (optK (arithV .sub i3 (.int .i64 1)) fun v_10 =>
      optK (iaddrS 1 links0 v_10) fun v_11 =>
      optK (rd1 s v_11) fun v_12 =>
      optK (arithV .leq l4 v_12) fun v_13 =>
      vc_lsdb_checkLinks_j2 X t7 v_7 v_13 I0 m0 K s)
     (vc_lsdb_checkLinks_j2 X t7 v_7 .undef I0 m0 K s))
def vc_lsdb_checkLinks_l0 (X : Told) (links0 : AVal) (t5 : AVal) (t6 : AVal) (t7 : AVal) (I0 : List AVal → Heap → Nat → Prop) (m0 : Nat) (K : AVal → Heap → Prop) (s : Heap) : Prop :=
  optK (arithV .lss t7 t6) fun v_2 =>
  boolK v_2
   (optK (iaddrS 1 t5 t7) fun v_3 =>
    optK (rd1 s v_3) fun v_4 =>
    optK (arithV .lss v_4 (.int .i64 0)) fun v_5 =>
    boolK v_5
     (vc_lsdb_checkLinks_j1 X links0 t7 v_4 t7 v_5 .undef I0 m0 K s)
     (optK (arithV .geq v_4 (.int .i64 128)) fun v_14 =>
      vc_lsdb_checkLinks_j1 X links0 t7 v_4 t7 v_5 v_14 I0 m0 K s))
   (K (.int .i64 0) s)
def vc_lsdb_checkLinks (X : Told) (links0 : AVal) (K : AVal → Heap → Prop) (s : Heap) : Prop :=
  optK (lenOfA links0) fun v_0 =>
  ∃ I0 : List AVal → Heap → Nat → Prop, (∃ m, I0 [(.int .i64 0)] s m) ∧ ∀ (f : Env) (s : Heap) (m0 : Nat), I0 [f 7] s m0 →
    vc_lsdb_checkLinks_l0 X links0 links0 (.int .i64 v_0) (f 7) I0 m0 K s
def vc_lsdb_checkLinks_ann : Nat → List Nat := fun k => cond (Nat.beq k 4) [7] ([])
theorem vc_lsdb_checkLinks_eq (X : Told) (links0 : AVal) (K : AVal → Heap → Prop) (s : Heap) : wpC Try.prog X vc_lsdb_checkLinks_ann Try.f45.ntmps none (bodyOf Try.f45) (envOf [links0]) (fun e env s => retK e (resK Try.prog Try.f45.results.toList env (fun vs => K (oneV vs) s) s)) s = vc_lsdb_checkLinks X links0 K s := by kernel_rfl
theorem vc_lsdb_checkLinks_ok {X : Told} (hX : FrX X) (hn : X 45 = none) {links0 : AVal} {K : AVal → Heap → Prop} {s : Heap} (h : vc_lsdb_checkLinks X links0 K s) : wpCall Try.prog X 45 [links0] K s :=
  wpCall_code hX vc_lsdb_checkLinks_ann hn Try.func45 (by kernel_rfl : Try.f45.body = some (bodyOf Try.f45)) (by kernel_rfl) ((vc_lsdb_checkLinks_eq X links0 K s).mpr h)
theorem vc_lsdb_checkLinks_in {links0 : AVal} {K : AVal → Heap → Prop} {s : Heap} (h : vc_lsdb_checkLinks XX links0 K s) : wpCall Try.prog XX 45 [links0] K s := vc_lsdb_checkLinks_ok (closedX_fr _) rfl h
/-- leafmesh/leafmeshref13.links (46) -/
def vc_leafmeshref13_links_j2 (X : Told) (i3 : AVal) (t24 : AVal) (t34 : AVal) (I0 : List AVal → Heap → Nat → Prop) (m0 : Nat) (K : AVal → Heap → Prop) (s : Heap) : Prop :=
  optK (pickV t24 t34 (.bool false)) fun v_8 =>
  boolK v_8
   (K (.int .i64 10) s)
   (optK (arithV .add i3 (.int .i64 1)) fun v_9 =>
    ∃ m', m' < m0 ∧ I0 [v_9] s m')
def vc_leafmeshref13_links_j1 (X : Told) (l0 : AVal) (i3 : AVal) (t15 : AVal) (t20 : AVal) (I0 : List AVal → Heap → Nat → Prop) (m0 : Nat) (K : AVal → Heap → Prop) (s : Heap) : Prop :=
  optK (pickV t15 (.bool true) t20) fun v_6 =>
  boolK v_6
   (K (.int .i64 2) s)
   (optK (arithV .gtr i3 (.int .i64 0)) fun v_7 =>
    boolK v_7
     (optK (iaddrS 1 l0 i3) fun v_10 =>
      optK (rd1 s v_10) fun v_11 =>
      optK (arithV .sub i3 (.int .i64 1)) fun v_12 =>
      optK (iaddrS 1 l0 v_12) fun v_13 =>
      optK (rd1 s v_13) fun v_14 =>
      optK (arithV .leq v_11 v_14) fun v_15 =>
      vc_leafmeshref13_links_j2 X i3 v_7 v_15 I0 m0 K s)
     (vc_leafmeshref13_links_j2 X i3 v_7 .undef I0 m0 K s))
def vc_leafmeshref13_links_l0 (X : Told) (l0 : AVal) (i3 : AVal) (I0 : List AVal → Heap → Nat → Prop) (m0 : Nat) (K : AVal → Heap → Prop) (s : Heap) : Prop :=
  optK (lenOfA l0) fun v_0 =>
  optK (arithV .lss i3 (.int .i64 v_0)) fun v_2 =>
  boolK v_2
   (optK (iaddrS 1 l0 i3) fun v_3 =>
    optK (rd1 s v_3) fun v_4 =>
    optK (arithV .lss v_4 (.int .i64 0)) fun v_5 =>
    boolK v_5
     (vc_leafmeshref13_links_j1 X l0 i3 v_5 .undef I0 m0 K s)
     (optK (iaddrS 1 l0 i3) fun v_16 =>
      optK (rd1 s v_16) fun v_17 =>
      optK (arithV .geq v_17 (.int .i64 128)) fun v_18 =>
      vc_leafmeshref13_links_j1 X l0 i3 v_5 v_18 I0 m0 K s))
   (K (.int .i64 0) s)
def vc_leafmeshref13_links (X : Told) (l0 : AVal) (K : AVal → Heap → Prop) (s : Heap) : Prop :=
  ∃ I0 : List AVal → Heap → Nat → Prop, (∃ m, I0 [(.int .i64 0)] s m) ∧ ∀ (f : Env) (s : Heap) (m0 : Nat), I0 [f 3] s m0 →
    vc_leafmeshref13_links_l0 X l0 (f 3) I0 m0 K s
def vc_leafmeshref13_links_ann : Nat → List Nat := fun k => cond (Nat.beq k 4) [3] ([])
theorem vc_leafmeshref13_links_eq (X : Told) (l0 : AVal) (K : AVal → Heap → Prop) (s : Heap) : wpC Try.prog X vc_leafmeshref13_links_ann Try.f46.ntmps none (bodyOf Try.f46) (envOf [l0]) (fun e env s => retK e (resK Try.prog Try.f46.results.toList env (fun vs => K (oneV vs) s) s)) s = vc_leafmeshref13_links X l0 K s := by kernel_rfl
theorem vc_leafmeshref13_links_ok {X : Told} (hX : FrX X) (hn : X 46 = none) {l0 : AVal} {K : AVal → Heap → Prop} {s : Heap} (h : vc_leafmeshref13_links X l0 K s) : wpCall Try.prog X 46 [l0] K s :=
  wpCall_code hX vc_leafmeshref13_links_ann hn Try.func46 (by kernel_rfl : Try.f46.body = some (bodyOf Try.f46)) (by kernel_rfl) ((vc_leafmeshref13_links_eq X l0 K s).mpr h)
theorem vc_leafmeshref13_links_in {l0 : AVal} {K : AVal → Heap → Prop} {s : Heap} (h : vc_leafmeshref13_links XX l0 K s) : wpCall Try.prog XX 46 [l0] K s := vc_leafmeshref13_links_ok (closedX_fr _) rfl h
/-- cmp.Or[int] (47) -/
def vc_cmp_Or_int__l0 (X : Told) (zero3 : AVal) (t6 : AVal) (t7 : AVal) (t8 : AVal) (I0 : List AVal → Heap → Nat → Prop) (m0 : Nat) (K : AVal → Heap → Prop) (s : Heap) : Prop :=
  optK (arithV .lss t8 t7) fun v_2 =>
  boolK v_2
   (optK (iaddrS 1 t6 t8) fun v_3 =>
    optK (rd1 s v_3) fun v_4 =>
    optK (negB true (eqV 0 false v_4 zero3)) fun v_5 =>
    boolK v_5
     (K v_4 s)
     (optK (arithV .add t8 (.int .i64 1)) fun v_6 =>
      ∃ m', m' < m0 ∧ I0 [v_6] s m'))
   (K zero3 s)
def vc_cmp_Or_int_ (X : Told) (vals0 : AVal) (K : AVal → Heap → Prop) (s : Heap) : Prop :=
  optK (lenOfA vals0) fun v_0 =>
  ∃ I0 : List AVal → Heap → Nat → Prop, (∃ m, I0 [(.int .i64 0)] s m) ∧ ∀ (f : Env) (s : Heap) (m0 : Nat), I0 [f 8] s m0 →
    vc_cmp_Or_int__l0 X (.int .i64 0) vals0 (.int .i64 v_0) (f 8) I0 m0 K s
def vc_cmp_Or_int__ann : Nat → List Nat := fun k => cond (Nat.beq k 6) [8] ([])
theorem vc_cmp_Or_int__eq (X : Told) (vals0 : AVal) (K : AVal → Heap → Prop) (s : Heap) : wpC Try.prog X vc_cmp_Or_int__ann Try.f47.ntmps none (bodyOf Try.f47) (envOf [vals0]) (fun e env s => retK e (resK Try.prog Try.f47.results.toList env (fun vs => K (oneV vs) s) s)) s = vc_cmp_Or_int_ X vals0 K s := by kernel_rfl
theorem vc_cmp_Or_int__ok {X : Told} (hX : FrX X) (hn : X 47 = none) {vals0 : AVal} {K : AVal → Heap → Prop} {s : Heap} (h : vc_cmp_Or_int_ X vals0 K s) : wpCall Try.prog X 47 [vals0] K s :=
  wpCall_code hX vc_cmp_Or_int__ann hn Try.func47 (by kernel_rfl : Try.f47.body = some (bodyOf Try.f47)) (by kernel_rfl) ((vc_cmp_Or_int__eq X vals0 K s).mpr h)
theorem vc_cmp_Or_int__in {vals0 : AVal} {K : AVal → Heap → Prop} {s : Heap} (h : vc_cmp_Or_int_ XX vals0 K s) : wpCall Try.prog XX 47 [vals0] K s := vc_cmp_Or_int__ok (closedX_fr _) rfl h
/-- cmp.Compare[int] (48) -/
def vc_cmp_Compare_int_ (X : Told) (x0 : AVal) (y1 : AVal) (K : AVal → Heap → Prop) (s : Heap) : Prop :=
  wpCall Try.prog X 63 [x0] (fun v_0 s_1 =>
  wpCall Try.prog X 63 [y1] (fun v_2 s_3 =>
  boolK v_0
   (boolK v_2
     (K (.int .i64 0) s_3)
     (K (.int .i64 (-1)) s_3))
   (boolK v_2
     (K (.int .i64 1) s_3)
     (optK (arithV .lss x0 y1) fun v_4 =>
      boolK v_4
       (K (.int .i64 (-1)) s_3)
       (optK (arithV .gtr x0 y1) fun v_5 =>
        boolK v_5
         (K (.int .i64 1) s_3)
         (K (.int .i64 0) s_3))))) s_1) s
def vc_cmp_Compare_int__ann : Nat → List Nat := fun _ => []
theorem vc_cmp_Compare_int__eq (X : Told) (x0 : AVal) (y1 : AVal) (K : AVal → Heap → Prop) (s : Heap) : wpC Try.prog X vc_cmp_Compare_int__ann Try.f48.ntmps none (bodyOf Try.f48) (envOf [x0, y1]) (fun e env s => retK e (resK Try.prog Try.f48.results.toList env (fun vs => K (oneV vs) s) s)) s = vc_cmp_Compare_int_ X x0 y1 K s := by kernel_rfl
theorem vc_cmp_Compare_int__ok {X : Told} (hX : FrX X) (hn : X 48 = none) {x0 : AVal} {y1 : AVal} {K : AVal → Heap → Prop} {s : Heap} (h : vc_cmp_Compare_int_ X x0 y1 K s) : wpCall Try.prog X 48 [x0, y1] K s :=
  wpCall_code hX vc_cmp_Compare_int__ann hn Try.func48 (by kernel_rfl : Try.f48.body = some (bodyOf Try.f48)) (by kernel_rfl) ((vc_cmp_Compare_int__eq X x0 y1 K s).mpr h)
theorem vc_cmp_Compare_int__in {x0 : AVal} {y1 : AVal} {K : AVal → Heap → Prop} {s : Heap} (h : vc_cmp_Compare_int_ XX x0 y1 K s) : wpCall Try.prog XX 48 [x0, y1] K s := vc_cmp_Compare_int__ok (closedX_fr _) rfl h
/-- slices.Compare[[]int,int] (49) -/
def vc_slices_Compare___int_int__l0 (X : Told) (s10 : AVal) (s21 : AVal) (t9 : AVal) (t10 : AVal) (t11 : AVal) (I0 : List AVal → Heap → Nat → Prop) (m0 : Nat) (K : AVal → Heap → Prop) (s : Heap) : Prop :=
  optK (arithV .lss t11 t10) fun v_2 =>
  boolK v_2
   (optK (iaddrS 1 t9 t11) fun v_3 =>
    optK (rd1 s v_3) fun v_4 =>
    optK (lenOfA s21) fun v_5 =>
    optK (arithV .geq t11 (.int .i64 v_5)) fun v_7 =>
    boolK v_7
     (K (.int .i64 1) s)
     (optK (iaddrS 1 s21 t11) fun v_8 =>
      optK (rd1 s v_8) fun v_9 =>
      wpCall Try.prog X 48 [v_4, v_9] (fun v_10 s_11 =>
      optK (negB true (eqV 0 true v_10 (.int .i64 0))) fun v_12 =>
      boolK v_12
       (K v_10 s_11)
       (optK (arithV .add t11 (.int .i64 1)) fun v_13 =>
        ∃ m', m' < m0 ∧ I0 [v_13] s_11 m')) s))
   (optK (lenOfA s10) fun v_14 =>
    optK (lenOfA s21) fun v_16 =>
    optK (arithV .lss (.int .i64 v_14) (.int .i64 v_16)) fun v_18 =>
    boolK v_18
     (K (.int .i64 (-1)) s)
     (K (.int .i64 0) s))
def vc_slices_Compare___int_int_ (X : Told) (s10 : AVal) (s21 : AVal) (K : AVal → Heap → Prop) (s : Heap) : Prop :=
  optK (lenOfA s10) fun v_0 =>
  ∃ I0 : List AVal → Heap → Nat → Prop, (∃ m, I0 [(.int .i64 0)] s m) ∧ ∀ (f : Env) (s : Heap) (m0 : Nat), I0 [f 11] s m0 →
    vc_slices_Compare___int_int__l0 X s10 s21 s10 (.int .i64 v_0) (f 11) I0 m0 K s
def vc_slices_Compare___int_int__ann : Nat → List Nat := fun k => cond (Nat.beq k 4) [11] ([])
theorem vc_slices_Compare___int_int__eq (X : Told) (s10 : AVal) (s21 : AVal) (K : AVal → Heap → Prop) (s : Heap) : wpC Try.prog X vc_slices_Compare___int_int__ann Try.f49.ntmps none (bodyOf Try.f49) (envOf [s10, s21]) (fun e env s => retK e (resK Try.prog Try.f49.results.toList env (fun vs => K (oneV vs) s) s)) s = vc_slices_Compare___int_int_ X s10 s21 K s := by kernel_rfl
theorem vc_slices_Compare___int_int__ok {X : Told} (hX : FrX X) (hn : X 49 = none) {s10 : AVal} {s21 : AVal} {K : AVal → Heap → Prop} {s : Heap} (h : vc_slices_Compare___int_int_ X s10 s21 K s) : wpCall Try.prog X 49 [s10, s21] K s :=
  wpCall_code hX vc_slices_Compare___int_int__ann hn Try.func49 (by kernel_rfl : Try.f49.body = some (bodyOf Try.f49)) (by kernel_rfl) ((vc_slices_Compare___int_int__eq X s10 s21 K s).mpr h)
theorem vc_slices_Compare___int_int__in {s10 : AVal} {s21 : AVal} {K : AVal → Heap → Prop} {s : Heap} (h : vc_slices_Compare___int_int_ XX s10 s21 K s) : wpCall Try.prog XX 49 [s10, s21] K s := vc_slices_Compare___int_int__ok (closedX_fr _) rfl h
/-- leafmesh/leafmeshref13.compare (50) -/
def vc_leafmeshref13_compare_j1 (X : Told) (a0 : AVal) (b1 : AVal) (i5 : AVal) (t10 : AVal) (t14 : AVal) (I0 : List AVal → Heap → Nat → Prop) (m0 : Nat) (K : AVal → Heap → Prop) (s : Heap) : Prop :=
  optK (pickV t10 t14 (.bool false)) fun v_3 =>
  boolK v_3
   (optK (iaddrS 1 a0 i5) fun v_4 =>
    optK (rd1 s v_4) fun v_5 =>
    optK (iaddrS 1 b1 i5) fun v_6 =>
    optK (rd1 s v_6) fun v_7 =>
    optK (arithV .lss v_5 v_7) fun v_8 =>
    boolK v_8
     (K (.int .i64 (-1)) s)
     (optK (iaddrS 1 a0 i5) fun v_9 =>
      optK (rd1 s v_9) fun v_10 =>
      optK (iaddrS 1 b1 i5) fun v_11 =>
      optK (rd1 s v_11) fun v_12 =>
      optK (arithV .gtr v_10 v_12) fun v_13 =>
      boolK v_13
       (K (.int .i64 1) s)
       (optK (arithV .add i5 (.int .i64 1)) fun v_14 =>
        ∃ m', m' < m0 ∧ I0 [v_14] s m')))
   (optK (lenOfA a0) fun v_15 =>
    optK (lenOfA b1) fun v_17 =>
    optK (arithV .lss (.int .i64 v_15) (.int .i64 v_17)) fun v_19 =>
    boolK v_19
     (K (.int .i64 (-1)) s)
     (optK (lenOfA a0) fun v_20 =>
      optK (lenOfA b1) fun v_22 =>
      optK (arithV .gtr (.int .i64 v_20) (.int .i64 v_22)) fun v_24 =>
      boolK v_24
       (K (.int .i64 1) s)
       (K (.int .i64 0) s)))
def vc_leafmeshref13_compare_l0 (X : Told) (a0 : AVal) (b1 : AVal) (i5 : AVal) (I0 : List AVal → Heap → Nat → Prop) (m0 : Nat) (K : AVal → Heap → Prop) (s : Heap) : Prop :=
  optK (lenOfA a0) fun v_0 =>
  optK (arithV .lss i5 (.int .i64 v_0)) fun v_2 =>
  boolK v_2
   (optK (lenOfA b1) fun v_25 =>
    optK (arithV .lss i5 (.int .i64 v_25)) fun v_27 =>
    vc_leafmeshref13_compare_j1 X a0 b1 i5 v_2 v_27 I0 m0 K s)
   (vc_leafmeshref13_compare_j1 X a0 b1 i5 v_2 .undef I0 m0 K s)
def vc_leafmeshref13_compare (X : Told) (a0 : AVal) (b1 : AVal) (K : AVal → Heap → Prop) (s : Heap) : Prop :=
  ∃ I0 : List AVal → Heap → Nat → Prop, (∃ m, I0 [(.int .i64 0)] s m) ∧ ∀ (f : Env) (s : Heap) (m0 : Nat), I0 [f 5] s m0 →
    vc_leafmeshref13_compare_l0 X a0 b1 (f 5) I0 m0 K s
def vc_leafmeshref13_compare_ann : Nat → List Nat := fun k => cond (Nat.beq k 4) [5] ([])
theorem vc_leafmeshref13_compare_eq (X : Told) (a0 : AVal) (b1 : AVal) (K : AVal → Heap → Prop) (s : Heap) : wpC Try.prog X vc_leafmeshref13_compare_ann Try.f50.ntmps none (bodyOf Try.f50) (envOf [a0, b1]) (fun e env s => retK e (resK Try.prog Try.f50.results.toList env (fun vs => K (oneV vs) s) s)) s = vc_leafmeshref13_compare X a0 b1 K s := by kernel_rfl
theorem vc_leafmeshref13_compare_ok {X : Told} (hX : FrX X) (hn : X 50 = none) {a0 : AVal} {b1 : AVal} {K : AVal → Heap → Prop} {s : Heap} (h : vc_leafmeshref13_compare X a0 b1 K s) : wpCall Try.prog X 50 [a0, b1] K s :=
  wpCall_code hX vc_leafmeshref13_compare_ann hn Try.func50 (by kernel_rfl : Try.f50.body = some (bodyOf Try.f50)) (by kernel_rfl) ((vc_leafmeshref13_compare_eq X a0 b1 K s).mpr h)
theorem vc_leafmeshref13_compare_in {a0 : AVal} {b1 : AVal} {K : AVal → Heap → Prop} {s : Heap} (h : vc_leafmeshref13_compare XX a0 b1 K s) : wpCall Try.prog XX 50 [a0, b1] K s := vc_leafmeshref13_compare_ok (closedX_fr _) rfl h
/-- cmp.isNaN[int] (63) -/
def vc_cmp_isNaN_int_ (X : Told) (x0 : AVal) (K : AVal → Heap → Prop) (s : Heap) : Prop :=
  optK (negB true (eqV 0 false x0 x0)) fun v_0 =>
  K v_0 s
def vc_cmp_isNaN_int__ann : Nat → List Nat := fun _ => []
theorem vc_cmp_isNaN_int__eq (X : Told) (x0 : AVal) (K : AVal → Heap → Prop) (s : Heap) : wpC Try.prog X vc_cmp_isNaN_int__ann Try.f63.ntmps none (bodyOf Try.f63) (envOf [x0]) (fun e env s => retK e (resK Try.prog Try.f63.results.toList env (fun vs => K (oneV vs) s) s)) s = vc_cmp_isNaN_int_ X x0 K s := by kernel_rfl
theorem vc_cmp_isNaN_int__ok {X : Told} (hX : FrX X) (hn : X 63 = none) {x0 : AVal} {K : AVal → Heap → Prop} {s : Heap} (h : vc_cmp_isNaN_int_ X x0 K s) : wpCall Try.prog X 63 [x0] K s :=
  wpCall_code hX vc_cmp_isNaN_int__ann hn Try.func63 (by kernel_rfl : Try.f63.body = some (bodyOf Try.f63)) (by kernel_rfl) ((vc_cmp_isNaN_int__eq X x0 K s).mpr h)
theorem vc_cmp_isNaN_int__in {x0 : AVal} {K : AVal → Heap → Prop} {s : Heap} (h : vc_cmp_isNaN_int_ XX x0 K s) : wpCall Try.prog XX 63 [x0] K s := vc_cmp_isNaN_int__ok (closedX_fr _) rfl h
end Go.AM
