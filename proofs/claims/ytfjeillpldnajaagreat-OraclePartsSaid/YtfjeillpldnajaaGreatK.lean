/- Part K of the proof: see the last part. -/
import Derived.Test.YtfjeillpldnajaaGreatU2
import Derived.Test.YtfjeillpldnajaaGreatProg
import Derived.KernelRfl
set_option linter.unusedVariables false
set_option maxRecDepth 100000
namespace Go.AM.KN
open Go Go.Proofs
noncomputable abbrev X1:Td:=orX (qKw [12]) zAAF
theorem mixed:Tryz.prog.follows .mixedOrders=true:=by kernel_rfl
theorem plain:noNumB Tryz.prog=true:=by kernel_rfl
theorem zADk:qJV (runR Tryz.prog zAAF 100000 (.call 12 []) empty)=true:=by kernel_rfl
theorem ext:ExtOK Tryz.prog X1:=orX_ok (qOI mixed plain qPG _ (λf hf=>by simp only[List.mem_singleton]at hf;subst hf;exact⟨100000,zADk⟩)) qPG
def z1:Option AV:=some (.bool false)
def z2:Option AV:=some (.ptr 18 0)
def z3:Option AV:=some (.ptr 20 0)
def z4:AV:=.int .i64 2
def z5:AV:=.int .i64 1
def z6:AV:=.slc 2 0 2 (some 2) 3
def z7:AV:=.slc 3 0 1 (some 1) 2
def z8:AV:=.slc 4 0 3 (some 3) 6
def z9:AV:=.slc 11 0 3 (some 3) 2
def z10:AV:=.slc 12 0 3 (some 3) 4
def z11:AV:=.int .i64 0
def z12:AV:=.agg [z4,z5,z6,z7,z8,z9,z10,.nilslc,z11,z11,z11,.bool true,.bool false,.int .i64 3,.int .i64 9,.int .i64 100,.int .i64 20,.int .i64 5,.int .i64 50]
def z13:AV:=.agg [.slc 14 0 3 (some 3) 1,.slc 15 0 2 (some 2) 1,.slc 16 0 2 (some 2) 1,.slc 17 0 3 (some 3) 1]
def z14:Option AV:=some (.tup [z12,z13])
def z15:Option AV:=some (.bool true)
def z16:Tmps:=.node z15 .nil .nil
def z17:Option AV:=some z12
def z18:Tmps:=.node z17 .nil .nil
def z19:AV:=.int .u64 2199023299072
def z20:Option AV:=some z19
def z21:Tmps:=.node z20 .nil .nil
def z22:Option AV:=some (.ptr 1346 0)
def z23:Option AV:=some z13
def z24:Tmps:=.node z23 .nil .nil
def z25:AV:=.int .u64 0
def z26:AV:=.int .u32 0
def z27:Option AV:=some (.agg [z19,.int .u64 6597069766657,z11,z11,z25,z26,z25,z26,z26,z26,z11,z11,z11,z11,z25])
def z28:AV:=.int .u64 281474976710655
def z29:AV:=.int .u32 167772165
def z30:AV:=.int .u32 167772161
def z31:Option AV:=some (.agg [z19,z28,z5,z5,z19,z29,z25,z30,z26,z26,z11,z11,z11,z11,z25])
def z32:Tmps:=.node z31 .nil .nil
def z33:Option AV:=some (.ptr 19 0)
def z34:Tmps:=.node z3 .nil .nil
def z35:Option AV:=some (.agg [z5,z19,z29,z25,z30])
def z36:Option AV:=some (.slc 21 0 2 (some 2) 1)
def t1:Tmps:=.node z1 (.node z2 (.node z3 (.node none (.node z14 .nil .nil) z16) (.node none z18 z21)) (.node z22 (.node none z24 z21) (.node none (.node z27 .nil .nil) z32))) (.node z33 (.node z15 (.node none z18 z34) (.node none z24 (.node z35 .nil .nil))) (.node none (.node none (.node z27 .nil .nil) z34) (.node z14 (.node z36 .nil .nil) .nil)))
def z37:Option AV:=some z11
def z38:Option AV:=some z4
def z39:Option AV:=some z5
def z40:Tmps:=.node z39 .nil .nil
def z41:Tmps:=.node z38 .nil .nil
def z42:Nat×ABlk:=(2,.cells 91 (.node z37 (.node z38 z40 z40) (.node z39 z41 .nil)) 6)
def z43:Nat×ABlk:=(3,.cells 93 (.node (some (.int .u32 100)) (.node (some (.int .u32 1)) .nil .nil) .nil) 2)
def z44:Option AV:=some z26
def z45:Tmps:=.node z44 .nil .nil
def z46:Tmps:=.node z37 .nil .nil
def z47:Nat×ABlk:=(4,.cells 69 (.node z37 (.node (some (.int .u32 10)) (.node (some (.int .u32 167772160)) (.node (some (.int .u32 20)) (.node (some (.int .u32 167837696)) .nil .nil) .nil) z45) (.node (some z30) (.node z44 (.node (some (.int .u32 167837697)) .nil .nil) .nil) (.node (some (.int .u32 30)) .nil .nil))) (.node (some (.int .u32 2)) (.node (some (.int .i64 24)) (.node (some (.int .u32 3)) (.node (some (.int .i64 24)) .nil .nil) .nil) z46) (.node z37 z46 (.node (some (.int .u32 4)) .nil .nil)))) 18)
def z48:Nat×ABlk:=(5,.cells 3 z46 1)
def z49:Nat×ABlk:=(6,.cells 3 (.node z37 z40 z41) 3)
def z50:Nat×ABlk:=(7,.cells 3 (.node z37 z40 .nil) 2)
def z51:Nat×ABlk:=(8,.cells 3 z46 1)
def z52:Nat×ABlk:=(9,.cells 3 z40 1)
def z53:Nat×ABlk:=(10,.cells 3 (.node z37 z41 .nil) 2)
def z54:Nat×ABlk:=(11,.cells 64 (.node (some (.slc 5 0 1 (some 1) 1)) (.node (some (.slc 6 0 3 (some 3) 1)) (.node (some (.slc 8 0 1 (some 1) 1)) .nil .nil) (.node (some (.slc 10 0 2 (some 2) 1)) .nil .nil)) (.node (some (.slc 7 0 2 (some 2) 1)) (.node (some (.slc 9 0 1 (some 1) 1)) .nil .nil) .nil)) 6)
def z55:Option AV:=some (.int .u32 167772166)
def z56:AV:=.int .u32 167837703
def z57:Tmps:=.node (some z56) .nil .nil
def z58:Option AV:=some (.int .u64 2199023299073)
def z59:Tmps:=.node (some (.int .u64 2199023299074)) .nil .nil
def z60:Nat×ABlk:=(12,.cells 61 (.node z20 (.node (some z29) (.node z37 z40 z41) (.node z55 z57 .nil)) (.node z37 (.node z58 z59 .nil) (.node z37 z41 .nil))) 12)
def z61:Nat×ABlk:=(14,.cells 4 (.node z15 z16 z16) 3)
def z62:Tmps:=.node z15 z16 .nil
def z63:Nat×ABlk:=(15,.cells 4 z62 2)
def z64:Option AV:=some (.slc 14 0 3 (some 3) 1)
def z65:Nat×ABlk:=(16,.cells 32 (.node z64 (.node z64 .nil .nil) .nil) 2)
def z66:Nat×ABlk:=(17,.cells 3 (.node z37 z40 z41) 3)
def z67:Tmps:=.node (some .nilslc) (.node (some (.int .i64 100)) .nil .nil) .nil
def z68:Tmps:=.node (some z9) (.node z37 (.node (some (.int .i64 5)) .nil .nil) .nil) (.node (some (.int .i64 3)) .nil .nil)
def z69:Tmps:=.node z1 .nil .nil
def z70:Tmps:=.node (some z6) (.node (some z8) (.node z37 (.node (some (.int .i64 20)) .nil .nil) .nil) z69) (.node (some z10) (.node z37 (.node (some (.int .i64 50)) .nil .nil) .nil) (.node (some (.int .i64 9)) .nil .nil))
def z71:Nat×ABlk:=(18,.cells 31 (.node z38 (.node z39 (.node (some z7) z67 z16) z68) z70) 19)
def z72:Tmps:=.node (some (.slc 15 0 2 (some 2) 1)) (.node (some (.slc 17 0 3 (some 3) 1)) .nil .nil) .nil
def z73:Tmps:=.node (some (.slc 16 0 2 (some 2) 1)) .nil .nil
def z74:Nat×ABlk:=(19,.cells 36 (.node z64 z72 z73) 4)
def z75:Tmps:=.node z37 z45 z46
def z76:Option AV:=some z25
def z77:Tmps:=.node z76 .nil .nil
def z78:Tmps:=.node z37 (.node z76 z45 z46) (.node z76 z46 z77)
def z79:Nat×ABlk:=(20,.cells 48 (.node z20 (.node (some (.int .u64 6597069766657)) z75 (.node z44 z45 z46)) z78) 15)
def z80:ABlk:=.cells 3 (.node z39 z41 .nil) 2
def z81:Nat×ABlk:=(21,z80)
def z82:Tmps:=.node z39 (.node z20 z45 z46) (.node z76 z46 z77)
def h1:List (Nat×ABlk):=[z42,z43,z47,z48,z49,z50,z51,z52,z53,z54,z60,z61,z63,z65,z66,z71,z74,z79,z81,(1346,.cells 48 (.node z20 (.node (some z28) (.node z39 (.node (some z30) .nil .nil) z46) (.node (some z29) z45 z46)) z82) 15)]
def n1:Nat:=1347
def z83:Option AV:=some (.ptr 1346 3)
def z84:Option AV:=some (.slc 2646 0 1 (some 1) 17)
def z85:Option AV:=some (.slc 2425 0 3 none 3)
def z86:Option AV:=some (.ptr 1346 7)
def t2:Tmps:=.node z1 (.node z2 (.node z3 (.node none (.node z14 z24 .nil) z16) (.node none (.node z17 z32 .nil) z21)) (.node z22 (.node none (.node z23 z24 .nil) z21) (.node none (.node z27 (.node z83 .nil .nil) .nil) z32))) (.node z33 (.node z15 (.node none (.node z17 z18 .nil) z34) (.node none (.node z23 (.node z84 .nil .nil) .nil) (.node z35 .nil .nil))) (.node z84 (.node none (.node z27 (.node z85 .nil .nil) .nil) z34) (.node z14 (.node z36 (.node z86 .nil .nil) .nil) z18)))
def z87:Nat×ABlk:=(1346,.cells 48 (.node z20 (.node (some z28) (.node z39 (.node z55 .nil .nil) z46) (.node (some z29) z45 z46)) z82) 15)
def z88:Tmps:=.node z39 z16 .nil
def z89:ABlk:=.cells 77 (.node z37 (.node z37 (.node z39 z40 .nil) z16) (.node z15 z88 z41)) 9
def z90:Nat×ABlk:=(2425,z89)
def z91:Tmps:=.node z38 (.node (some z29) .nil .nil) z46
def z92:AV:=.int .u64 1577058561
def z93:Option AV:=some z92
def z94:Tmps:=.node z39 (.node z20 z77 .nil) z46
def z95:Nat×ABlk:=(2646,.cells 55 (.node z37 (.node z37 (.node z20 (.node (some z30) z46 .nil) z45) z91) (.node z93 z94 (.node z93 z45 z46))) 17)
def h2:List (Nat×ABlk):=[z42,z43,z47,z48,z49,z50,z51,z52,z53,z54,z60,z61,z63,z65,z66,z71,z74,z79,z81,z87,z90,z95]
def n2:Nat:=2647
def z96:Option AV:=some (.slc 3959 0 1 (some 1) 17)
def z97:Option AV:=some (.ptr 3959 0)
def z98:Tmps:=.node z97 .nil .nil
def z99:Tmps:=.node z96 .nil .nil
def z100:Tmps:=.node z15 z98 .nil
def z101:Tmps:=.node z15 (.node z17 z16 z21) z100
def z102:Option AV:=some (.ptr 2646 2)
def z103:Option AV:=some (.ptr 2646 0)
def z104:Tmps:=.node z103 z16 .nil
def z105:Tmps:=.node z17 (.node z31 (.node z102 .nil .nil) (.node z55 .nil .nil)) z104
def z106:Option AV:=some (.slc 3725 0 3 none 3)
def z107:Tmps:=.node z102 z16 .nil
def z108:Option AV:=some (.ptr 3960 0)
def z109:Tmps:=.node z23 (.node z84 .nil .nil) (.node (some (.ptr 3959 5)) .nil .nil)
def z110:AV:=.int .i64 64
def z111:Option AV:=some (.agg [z19,z92,z4,z11,z25,z26,z25,z26,z29,z56,z110,z11,z11,z11,z25])
def z112:Tmps:=.node z111 .nil .nil
def z113:Option AV:=some (.ptr 3959 2)
def z114:Tmps:=.node z113 .nil .nil
def z115:Tmps:=.node z20 (.node z17 z16 z112) (.node z84 z114 .nil)
def z116:Option AV:=some (.ptr 2646 5)
def z117:Tmps:=.node z27 (.node z83 (.node z116 .nil .nil) z16) (.node z37 z16 .nil)
def z118:Tmps:=.node z96 z16 .nil
def z119:Option AV:=some (.agg [z29,z56,z110,z11,z11,z11])
def z120:Tmps:=.node z3 (.node z23 z16 (.node z119 .nil .nil)) (.node z15 z114 .nil)
def z121:Tmps:=.node z23 (.node z84 (.node z116 .nil .nil) z16) z104
def z122:Option AV:=some (.agg [z19,z28,z5,z5,z19,z29,z25,.int .u32 167772166,z26,z26,z11,z11,z11,z11,z25])
def z123:Tmps:=.node z85 (.node z103 .nil .nil) (.node (some (.ptr 3959 7)) .nil .nil)
def z124:Tmps:=.node z103 (.node z58 .nil .nil) .nil
def z125:Tmps:=.node z15 z99 .nil
def z126:Tmps:=.node z36 (.node z86 z41 z34) z125
def t3:Tmps:=.node z1 (.node z2 (.node z3 (.node z96 (.node z14 (.node z23 z16 z98) (.node z39 z99 .nil)) z101) (.node none z105 (.node z20 (.node z106 z40 .nil) z107))) (.node z22 (.node z108 (.node z23 z109 z100) z115) (.node none z117 (.node z31 z118 (.node z93 z16 .nil))))) (.node z33 (.node z15 (.node z15 (.node z17 (.node z17 z16 z114) z100) z120) (.node none z121 (.node z35 (.node z122 z16 .nil) z107))) (.node z84 (.node none (.node z27 z123 (.node z84 z46 .nil)) (.node z3 (.node z23 z99 .nil) z124)) (.node z14 z126 (.node z17 (.node z84 z16 .nil) z125))))
def z127:Nat×ABlk:=(3959,.cells 55 (.node z37 (.node z37 (.node z20 (.node z55 z46 .nil) z45) z91) (.node z58 z94 (.node z58 z45 z46))) 17)
def z128:Tmps:=.node z76 (.node (some z29) .nil .nil) z46
def z129:Tmps:=.node z38 z128 (.node z76 (.node (some z110) .nil .nil) z77)
def h3:List (Nat×ABlk):=[z42,z43,z47,z48,z49,z50,z51,z52,z53,z54,z60,z61,z63,z65,z66,z71,z74,z79,z81,z87,z90,z95,(3725,z89),z127,(3960,.cells 48 (.node z20 (.node z93 z75 (.node z44 z57 z46)) z129) 15)]
def n3:Nat:=3961
def z130:Tmps:=.node (some (.ptr 3960 8)) .nil .nil
def z131:Option AV:=some (.slc 5283 0 1 (some 1) 17)
def z132:Tmps:=.node z131 .nil .nil
def z133:Tmps:=.node (some (.ptr 3960 9)) .nil .nil
def z134:Tmps:=.node (some (.slc 5039 0 3 none 3)) .nil .nil
def t4:Tmps:=.node z1 (.node z2 (.node z3 (.node z96 (.node z14 (.node z23 z16 z98) (.node z39 z99 z112)) z101) (.node none z105 (.node z20 (.node z106 z40 z24) z107))) (.node z22 (.node z108 (.node z23 z109 (.node z15 z98 z130)) z115) (.node none z117 (.node z31 (.node z96 z16 z24) (.node z93 z16 .nil))))) (.node z33 (.node z15 (.node z15 (.node z17 (.node z17 z16 z114) (.node z15 z98 z132)) z120) (.node none z121 (.node z35 (.node z122 z16 z18) z107))) (.node z84 (.node z131 (.node z27 z123 (.node z84 z46 z133)) (.node z3 (.node z23 z99 z18) z124)) (.node z14 z126 (.node z17 (.node z84 z16 z134) z125))))
def z135:Nat×ABlk:=(3960,.cells 48 (.node z20 (.node z93 z75 (.node z44 (.node (some (.int .u32 167837705)) .nil .nil) z46)) z129) 15)
def z136:Nat×ABlk:=(5283,.cells 55 (.node z38 (.node z38 (.node (some (.int .u64 2199023299074)) (.node z44 z46 .nil) z57) z75) (.node z93 (.node z38 (.node z76 z77 .nil) z46) z128)) 17)
def h4:List (Nat×ABlk):=[z42,z43,z47,z48,z49,z50,z51,z52,z53,z54,z60,z61,z63,z65,z66,z71,z74,z79,z81,z87,z90,z95,(3725,z89),z127,z135,(5039,z89),z136]
def n4:Nat:=5284
def z137:Tmps:=.node (some (.ptr 5283 0)) .nil .nil
def z138:Tmps:=.node (some (.ptr 5283 2)) .nil .nil
def z139:Tmps:=.node z14 (.node z23 (.node z15 z137 .nil) (.node z97 z24 .nil)) (.node z39 (.node z96 z138 .nil) z112)
def z140:Tmps:=.node z15 z138 .nil
def z141:Tmps:=.node z15 (.node z97 z138 .nil) z132
def z142:Tmps:=.node z17 (.node z31 z107 (.node z55 (.node (some (.ptr 18 11)) .nil .nil) .nil)) (.node z103 z62 z132)
def z143:Tmps:=.node z102 z62 z16
def z144:Tmps:=.node z23 (.node z23 (.node z84 z41 .nil) (.node (some (.ptr 3959 5)) z16 .nil)) (.node z15 (.node z97 z59 .nil) z130)
def z145:Tmps:=.node z15 (.node z93 .nil .nil) .nil
def z146:Tmps:=.node z84 (.node z113 (.node (some (.ptr 5283 12)) .nil .nil) .nil) z137
def z147:Tmps:=.node z37 (.node z15 z132 .nil) z16
def z148:Tmps:=.node z31 (.node z96 (.node z15 z132 .nil) z24) (.node z93 z62 z16)
def z149:Tmps:=.node z17 (.node z17 (.node z15 (.node (some (.ptr 5283 1)) .nil .nil) .nil) (.node z113 (.node (some (.agg [z19,z92,z4,z11,z25,z26,z25,z26,z29,.int .u32 167837705,z110,z11,z11,z11,z25])) .nil .nil) .nil)) (.node z15 (.node z97 (.node (some (.ptr 5283 3)) .nil .nil) .nil) z132)
def z150:Tmps:=.node z15 (.node z113 (.node (some (.ptr 5283 10)) .nil .nil) .nil) z137
def z151:Tmps:=.node z35 (.node z122 z62 z18) z143
def z152:Tmps:=.node z27 (.node z85 z104 (.node (some (.ptr 3959 7)) z16 .nil)) (.node z84 (.node z37 z16 .nil) z133)
def z153:Tmps:=.node z103 (.node z58 z46 .nil) z41
def z154:Tmps:=.node z15 (.node z96 z137 .nil) z16
def z155:Tmps:=.node z17 (.node z84 (.node z15 z137 .nil) z134) (.node z15 (.node z96 z18 .nil) z132)
def t5:Tmps:=.node z1 (.node z2 (.node z3 (.node z96 z139 (.node z15 (.node z17 z140 z21) z141)) (.node z15 z142 (.node z20 (.node z106 z88 z24) z143))) (.node z22 (.node z108 z144 (.node z20 (.node z17 z145 z112) z146)) (.node none (.node z27 (.node z83 (.node z116 z132 .nil) z16) z147) z148))) (.node z33 (.node z15 (.node z15 z149 (.node z3 (.node z23 z140 (.node z119 .nil .nil)) z150)) (.node none (.node z23 (.node z84 (.node z116 z16 .nil) z16) (.node z103 z62 z40)) z151)) (.node z84 (.node z131 z152 (.node z3 (.node z23 z118 z18) z153)) (.node z14 (.node z36 (.node z86 (.node z38 z137 .nil) z34) z154) z155)))
def z156:Nat×ABlk:=(18,.cells 31 (.node z38 (.node z39 (.node (some z7) z67 z69) z68) z70) 19)
def h5:List (Nat×ABlk):=[z42,z43,z47,z48,z49,z50,z51,z52,z53,z54,z60,z61,z63,z65,z66,z156,z74,z79,z81,z87,z90,z95,(3725,z89),z127,z135,(5039,z89),z136]
def n5:Nat:=6597
def z157:Option AV:=some (.slc 7920 0 3 (some 3) 1)
def t6:Tmps:=.node z1 (.node z2 (.node z3 (.node z96 z139 (.node z15 (.node z17 z140 (.node z20 (.node (some (.slc 6597 0 2 (some 2) 1)) .nil .nil) .nil)) z141)) (.node z15 z142 (.node z20 (.node z106 z88 (.node z23 (.node (some (.agg [.int .u64 2199023299073,z28,z11,z11,z25,z26,z25,z26,z26,z26,z11,z11,z11,z11,z25])) .nil .nil) .nil)) z143))) (.node z22 (.node z108 z144 (.node z20 (.node z17 z145 (.node z111 (.node z157 .nil .nil) .nil)) z146)) (.node (some (.ptr 7921 0)) (.node z27 (.node z83 (.node z116 z132 .nil) (.node z15 z24 .nil)) z147) z148))) (.node z33 (.node z15 (.node z15 z149 (.node z3 (.node z23 z140 (.node z119 z16 .nil)) z150)) (.node z15 (.node z23 (.node z84 (.node z116 z16 .nil) (.node z15 (.node (some (.agg [z4,z5,z6,z7,z8,z9,z10,.nilslc,z11,z11,z11,.bool false,.bool false,.int .i64 3,.int .i64 9,.int .i64 100,.int .i64 20,.int .i64 5,.int .i64 50])) .nil .nil) .nil)) (.node z103 z62 z40)) z151)) (.node z84 (.node z131 z152 (.node z3 (.node z23 z118 (.node z17 (.node z33 .nil .nil) .nil)) z153)) (.node z14 (.node z36 (.node z86 (.node z38 z137 .nil) (.node z3 (.node z122 .nil .nil) .nil)) z154) z155)))
def h6:List (Nat×ABlk):=[z42,z43,z47,z48,z49,z50,z51,z52,z53,z54,z60,z61,z63,z65,z66,z156,(19,.cells 36 (.node z157 z72 z73) 4),z79,z81,z87,z90,z95,(3725,z89),z127,z135,(5039,z89),z136,(6597,z80),(7920,.cells 4 (.node z15 z69 z16) 3),(7921,.cells 48 (.node z58 (.node (some z28) z75 (.node z44 z45 z46)) z78) 15)]
def n6:Nat:=7922
noncomputable def c0:Code:=Tryz.f3.body.getD .skip
noncomputable def c1:Code:=(qCx 5 c0).2
noncomputable def c2:Code:=(qCx 2 c1).2
noncomputable def c3:Code:=(qCx 3 c2).2
noncomputable def c4:Code:=(qCx 2 c3).2
noncomputable def c5:Code:=(qCx 2 c4).2
noncomputable def c6:Code:=(qCx 3 c5).2
theorem s0:chk Tryz.prog X1 100000 Tryz.f3.ntmps (qCx 5 c0).1 (Tr.ofListAt .nil 0 []) empty t1 h1 n1=true:=by kernel_rfl
theorem s1:chk Tryz.prog X1 100000 Tryz.f3.ntmps (qCx 2 c1).1 t1 (mkK h1 n1) t2 h2 n2=true:=by kernel_rfl
theorem s2:chk Tryz.prog X1 100000 Tryz.f3.ntmps (qCx 3 c2).1 t2 (mkK h2 n2) t3 h3 n3=true:=by kernel_rfl
theorem s3:chk Tryz.prog X1 100000 Tryz.f3.ntmps (qCx 2 c3).1 t3 (mkK h3 n3) t4 h4 n4=true:=by kernel_rfl
theorem s4:chk Tryz.prog X1 100000 Tryz.f3.ntmps (qCx 2 c4).1 t4 (mkK h4 n4) t5 h5 n5=true:=by kernel_rfl
theorem s5:chk Tryz.prog X1 100000 Tryz.f3.ntmps (qCx 3 c5).1 t5 (mkK h5 n5) t6 h6 n6=true:=by kernel_rfl
theorem s6:endR Tryz.prog X1 Tryz.f3 100000 c6 t6 (mkK h6 n6)=true:=by kernel_rfl
theorem good:Good Tryz.prog X1 Tryz.f3 c0 (Tr.ofListAt .nil 0 []) empty:=Good.cut ext.1 (k:=5) s0 (Good.cut ext.1 (k:=2) s1 (Good.cut ext.1 (k:=3) s2 (Good.cut ext.1 (k:=2) s3 (Good.cut ext.1 (k:=2) s4 (Good.cut ext.1 (k:=3) s5 (Good.last ext.1 s6))))))
theorem body:Tryz.f3.body=some c0:=by kernel_rfl
theorem none:X1 3=none:=by kernel_rfl
theorem run:∃n,qJV (runR Tryz.prog X1 n (.call 3 []) empty)=true:=
 qXp none Tryz.func3 body (by kernel_rfl) good
theorem zAEX:qJV (runR Tryz.prog X1 10 (.call 12 []) empty)=true:=by kernel_rfl
theorem both:ExtOK Tryz.prog (qKw [12,3]):=qOI mixed plain ext _ (λf hf=>by
 simp only[List.mem_cons,List.not_mem_nil,or_false]at hf;rcases hf with rfl|rfl
 ·exact⟨10,zAEX⟩
 ·exact run)
end Go.AM.KN
