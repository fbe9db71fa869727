/- Part V2 of the proof: see the last part. -/
import Derived.Test.YtfjeillpldnajaaGreatV
set_option linter.unusedVariables false
namespace Go.AM
open Go Go.Proofs
set_option maxRecDepth 100000
end Go.AM
namespace Go.AM
open Go Go.Proofs
set_option maxRecDepth 100000
end Go.AM
namespace Go.AM
open Go Go.Proofs
set_option maxRecDepth 100000
end Go.AM
namespace Go.AM
open Go Go.Proofs
set_option maxRecDepth 100000
def qBo(X:Td)(flow3:AV)(K:KvP)(s:Hq):Prop:=
 wC TP X 113 [flow3] (λW5 S6=>oK (qAG .rem W5 (.int .u32 16384)) λW7=>oK (qEC .i64 W7) λW8=>oK (qAG .add (.int .i64 49152) W8) λW9=>K W9 S6) s
def qLN(X:Td)(t0:AV)(K:KvP)(s:Hq):Prop:=
 boxK 48 t0 (λB0 S1=>oK (qAC 2 B0) λW2=>oK (rd1 S1 W2) λW3=>oK (negB false (eqV 0 true W3 (.int .i64 2))) λW4=>qAL W4
 (oK (qAC 8 B0) λW10=>oK (rdN S1 6 W10) λW11=>newK 46 [(.int .u32 0),(.int .u32 0),(.int .i64 0),(.int .i64 0),(.int .i64 0),(.int .i64 0)] (λB12 S13=>oK (qAw S13 6 (.ptr B12 0) (.agg W11)) λS14=>oK (qAC 0 (.ptr B12 0)) λW15=>oK (rd1 S14 W15) λW16=>oK (qEC .u64 W16) λW17=>wC TP X 112 [.nilslc,W17,(.int .i64 4)] (λW18 S19=>oK (qAC 1 (.ptr B12 0)) λW20=>oK (rd1 S19 W20) λW21=>oK (qEC .u64 W21) λW22=>wC TP X 112 [W18,W22,(.int .i64 4)] (λW23 S24=>oK (qAC 3 (.ptr B12 0)) λW25=>oK (rd1 S24 W25) λW26=>oK (qEC .u64 W26) λW27=>wC TP X 112 [W23,W27,(.int .i64 1)] (λW28 S29=>oK (qAC 4 (.ptr B12 0)) λW30=>oK (rd1 S29 W30) λW31=>oK (qEC .u64 W31) λW32=>wC TP X 112 [W28,W32,(.int .i64 2)] (λW33 S34=>oK (qAC 5 (.ptr B12 0)) λW35=>oK (rd1 S34 W35) λW36=>oK (qEC .u64 W36) λW37=>wC TP X 112 [W33,W37,(.int .i64 2)] (λW38 S39=>qBo X W38 K S39) S34) S29) S24) S19) S14) S1)
 (oK (qAC 0 B0) λW40=>oK (rd1 S1 W40) λW41=>wC TP X 112 [.nilslc,W41,(.int .i64 6)] (λW42 S43=>oK (qAC 1 B0) λW44=>oK (rd1 S43 W44) λW45=>wC TP X 112 [W42,W45,(.int .i64 6)] (λW46 S47=>oK (qAC 2 B0) λW48=>oK (rd1 S47 W48) λW49=>oK (qEC .u64 W49) λW50=>wC TP X 112 [W46,W50,(.int .i64 1)] (λW51 S52=>qBo X W51 K S52) S47) S43) S1)) s
theorem qJV{t0:AV}{K:KvP}{s:Hq}(h:qLN XX t0 K s):wC TP XX 88 [t0] K s:=wOK qAj nA0 rfl Tryz.func88 h
def qIW(X:Td)(b0 n1 i7:AV)(I0:IvP)(m0:Nat)(K:KvP)(s:Hq):Prop:=
 oK (qAG .geq i7 (.int .i64 0)) λW1=>qAL W1
 (oK (qAG .mul (.int .i64 8) i7) λW2=>oK (qGn .shr n1 W2) λW3=>oK (qEC .u8 W3) λW4=>oK (qAl (repl 1 [(.int .u8 0)]) [(0,1,W4)]) λC5=>qAa C5=true/\newK 5 C5 (λB6 S7=>appK 5 1 b0 (.slc B6 0 1 (some 1) 1) (λW8 S9=>oK (qAG .sub i7 (.int .i64 1)) λW10=>∃m',m'<m0/\I0 [W8,W10] S9 m') S7) s)
 (K b0 s)
def qK2(X:Td)(b0 n1 size2:AV)(K:KvP)(s:Hq):Prop:=
 oK (qAG .sub size2 (.int .i64 1)) λW0=>∃I0:IvP,(∃m,I0 [b0,W0] s m)/\∀(f:Env) (s:Hq) (m0:Nat),I0 [f 0,f 7] s m0->
 qIW X (f 0) n1 (f 7) I0 m0 K s
def qLH:Nat->List Nat:=λk=>cond (Nat.beq k 4) [0,7] ([])
theorem qMS{b0 n1 size2:AV}{K:KvP}{s:Hq}(h:qK2 XX b0 n1 size2 K s):wC TP XX 112 [b0,n1,size2] K s:=wOK qAj qLH rfl Tryz.func112 h
def qDn(X:Td)(b0 h3 t6 t7:AV)(I0:IvP)(m0:Nat)(K:KvP)(s:Hq):Prop:=
 oK (qAG .lss t7 t6) λW2=>qAL W2
 (oK (qAY 1 b0 t7) λW3=>oK (rd1 s W3) λW4=>oK (qEC .u32 W4) λW5=>oK (qAG .xor h3 W5) λW6=>oK (qAG .mul W6 (.int .u32 16777619)) λW7=>oK (qAG .add t7 (.int .i64 1)) λW8=>∃m',m'<m0/\I0 [W7,W8] s m')
 (K h3 s)
def qET(X:Td)(b0:AV)(K:KvP)(s:Hq):Prop:=
 oK (qAQ b0) λW0=>∃I0:IvP,(∃m,I0 [(.int .u32 2166136261),(.int .i64 0)] s m)/\∀(f:Env) (s:Hq) (m0:Nat),I0 [f 3,f 7] s m0->
 qDn X b0 (f 3) (.int .i64 W0) (f 7) I0 m0 K s
def qGK:Nat->List Nat:=λk=>cond (Nat.beq k 6) [3,7] ([])
theorem qGi{b0:AV}{K:KvP}{s:Hq}(h:qET XX b0 K s):wC TP XX 113 [b0] K s:=wOK qAj qGK rfl Tryz.func113 h
end Go.AM
namespace Go.AM
open Go Go.Proofs
set_option maxRecDepth 100000
def qBp(X:Td)(t10 w11 a12 x13 b14:AV)(I1:IvP)(m1:Nat)(I0:IvP)(m0:Nat)(K:KvP)(s:Hq):Prop:=
 oK (qAC 0 t10) λW29=>oK (rd1 s W29) λW30=>oK (qAG .lss b14 W30) λW31=>qAL W31
 (wC TP X 16 [x13,b14] (λW32 S33=>(∀b,s b≠none->s b=none->S33 b=none)->
 oK (rdN (cutH [(s,(add s S33))] (add s S33)) 19 t10) λW34=>oK (rdN (cutH [(s,(add s S33))] (add s S33)) 4 w11) λW35=>wC TP X 23 [(.agg W34),(.agg W35),b14] (λW36 S37=>wC TP X 16 [W36,a12] (λW38 S39=>oK (negB true (eqV 1 false W32 W38)) λW40=>qAL W40
 (oK (qAR W40 (.bool true) .undef) λW41=>qAL W41
 (K (.bool false) S39)
 (oK (qAG .add b14 (.int .i64 1)) λW42=>∃m',m'<m1/\I1 [W42] S39 m'))
 (wC TP X 16 [x13,b14] (λW43 S44=>qAL W43
 (oK (rdN S44 19 t10) λW45=>oK (rdN S44 4 w11) λW46=>wC TP X 23 [(.agg W45),(.agg W46),b14] (λW47 S48=>wC TP X 24 [x13,W47] (λW49 S50=>oK (qAr .not W49) λW51=>oK (qAR W43 W51 (.bool false)) λW52=>oK (qAR W40 (.bool true) W52) λW53=>qAL W53
 (K (.bool false) S50)
 (oK (qAG .add b14 (.int .i64 1)) λW54=>∃m',m'<m1/\I1 [W54] S50 m')) S48) S44)
 (oK (qAR W43 .undef (.bool false)) λW55=>oK (qAR W40 (.bool true) W55) λW56=>qAL W56
 (K (.bool false) S44)
 (oK (qAG .add b14 (.int .i64 1)) λW57=>∃m',m'<m1/\I1 [W57] S44 m'))) S39)) S37) (add s S33)) (frz s))
 (oK (qAG .add a12 (.int .i64 1)) λW58=>∃m',m'<m0/\I0 [W58] s m')
def qCf(X:Td)(t107 t114:AV)(K:KvP)(s:Hq):Prop:=
 oK (qAR t107 t114 (.bool false)) λW85=>K W85 s
def qBJ(X:Td)(n23:AV)(I5:IvP)(m5:Nat)(K:KvP)(s:Hq):Prop:=
 oK (qAG .add n23 (.int .i64 1)) λW150=>∃m',m'<m5/\I5 [W150] s m'
def qAp(X:Td)(v22 n23 t174 t180:AV)(I5:IvP)(m5:Nat)(K:KvP)(s:Hq):Prop:=
 oK (qAR t174 t180 (.bool false)) λW149=>qAL W149
 (oK (qAC 2 v22) λW151=>oK (rd1 s W151) λW152=>oK (qAY 1 W152 n23) λW153=>oK (wr1 s W153 .nilslc) λS154=>qBJ X n23 I5 m5 K S154)
 (qBJ X n23 I5 m5 K s)
def qBH(X:Td)(t187 t195:AV)(K:KvP)(s:Hq):Prop:=
 oK (qAR t187 t195 (.bool false)) λW160=>K W160 s
def qAn(X:Td)(host2 x7 ok9 t10 w11 x17 x18 x20 v22 n23:AV)(I5:IvP)(m5:Nat)(K:KvP)(s:Hq):Prop:=
 oK (qAC 0 t10) λW143=>oK (rd1 s W143) λW144=>oK (qAG .lss n23 W144) λW145=>qAL W145
 (wC TP X 16 [x17,n23] (λW146 S147=>oK (qAr .not W146) λW148=>qAL W148
 (oK (rdN S147 19 t10) λW155=>oK (rdN S147 4 w11) λW156=>wC TP X 27 [(.agg W155),(.agg W156),host2,n23] (λW157 S158=>oK (qAr .not W157) λW159=>qAp X v22 n23 W148 W159 I5 m5 K S158) S147)
 (qAp X v22 n23 W148 .undef I5 m5 K S147)) s)
 (qAL ok9
 (oK (rdN s 19 t10) λW161=>oK (rdN s 4 v22) λW162=>oK (rdN s 15 x7) λW163=>wC TP X 10 [(.agg W161),(.agg W162),x18,host2,(.agg W163)] (λW164 S165=>wC TP X 28 [W164,x20] (λW166 S167=>qBH X ok9 W166 K S167) S165) s)
 (qBH X ok9 .undef K s))
def qAh(X:Td)(host2 x7 ok9 t10 w11 x17 x18 x20 i21:AV)(I4:IvP)(m4:Nat)(K:KvP)(s:Hq):Prop:=
 oK (qAQ x20) λW116=>oK (qAG .lss i21 (.int .i64 W116)) λW118=>qAL W118
 (oK (rdN s 19 t10) λW119=>oK (rdN s 4 w11) λW120=>oK (qAY 17 x20 i21) λW121=>oK (qAC 0 W121) λW122=>oK (rd1 s W122) λW123=>wC TP X 26 [(.agg W119),(.agg W120),W123] (λW124 S125=>wC TP X 25 [W124,x17] (λW126 S127=>oK (qAr .not W126) λW128=>qAL W128
 (K (.bool false) S127)
 (oK (qAG .add i21 (.int .i64 1)) λW129=>∃m',m'<m4/\I4 [W129] S127 m')) S125) s)
 (oK (rdN s 4 w11) λW130=>newK 36 [.nilslc,.nilslc,.nilslc,.nilslc] (λB131 S132=>oK (qAw S132 4 (.ptr B131 0) (.agg W130)) λS133=>oK (qAl (repl 0 [.nilslc]) []) λC134=>qAa C134=true/\newK 32 C134 (λB135 S136=>oK (qAC 2 w11) λW137=>oK (rd1 S136 W137) λW138=>appK 32 1 (.slc B135 0 0 (some 0) 1) W138 (λW139 S140=>oK (qAC 2 (.ptr B131 0)) λW141=>oK (wr1 S140 W141 W139) λS142=>∃I5:IvP,(∃m,I5 [(.int .i64 0)] S142 m)/\∀(f:Env) (s:Hq) (m5:Nat),I5 [f 23] s m5->
 qAn X host2 x7 ok9 t10 w11 x17 x18 x20 (.ptr B131 0) (f 23) I5 m5 K s) S136) S133) s)
def qAo(X:Td)(host2 x7 ok9 t10 w11 x17 x18 h19:AV)(I3:IvP)(m3:Nat)(K:KvP)(s:Hq):Prop:=
 oK (qAC 6 t10) λW98=>oK (rd1 s W98) λW99=>oK (qAQ W99) λW100=>oK (qAG .lss h19 (.int .i64 W100)) λW102=>qAL W102
 (oK (rdN s 19 t10) λW103=>oK (rdN s 4 w11) λW104=>oK (rdN s 19 t10) λW105=>wC TP X 18 [(.agg W105),h19] (λW106 S107=>(∀b,s b≠none->s b=none->S107 b=none)->
 wC TP X 19 [(.agg W103),(.agg W104),x18,h19,W106] (λW108 S109=>oK (qAG .add h19 (.int .i64 1)) λW110=>∃m',m'<m3/\I3 [W108,W110] S109 m') (add s S107)) (frz s))
 (oK (rdN s 19 t10) λW111=>oK (rdN s 4 w11) λW112=>oK (rdN s 15 x7) λW113=>wC TP X 10 [(.agg W111),(.agg W112),x18,host2,(.agg W113)] (λW114 S115=>∃I4:IvP,(∃m,I4 [(.int .i64 0)] S115 m)/\∀(f:Env) (s:Hq) (m4:Nat),I4 [f 21] s m4->
 qAh X host2 x7 ok9 t10 w11 x17 x18 W114 (f 21) I4 m4 K s) s)
def qAq(X:Td)(host2 x7 ok9 t10 w11 a12:AV)(I0:IvP)(m0:Nat)(K:KvP)(s:Hq):Prop:=
 oK (qAC 0 t10) λW15=>oK (rd1 s W15) λW16=>oK (qAG .lss a12 W16) λW17=>qAL W17
 (oK (rdN s 19 t10) λW18=>oK (rdN s 4 w11) λW19=>wC TP X 23 [(.agg W18),(.agg W19),a12] (λW20 S21=>wC TP X 16 [W20,a12] (λW22 S23=>(∀b,S21 b≠none->S21 b=none->S23 b=none)->
 oK (qAC 0 w11) λW24=>oK (rd1 (cutH [(S21,(add S21 S23))] (add S21 S23)) W24) λW25=>oK (qAY 1 W25 a12) λW26=>oK (rd1 (cutH [(S21,(add S21 S23))] (add S21 S23)) W26) λW27=>oK (negB true (eqV 1 false W22 W27)) λW28=>qAL W28
 (K (.bool false) (add S21 S23))
 (∃I1:IvP,(∃m,I1 [(.int .i64 0)] (add S21 S23) m)/\∀(f:Env) (s:Hq) (m1:Nat),I1 [f 14] s m1->
 qBp X t10 w11 a12 W20 (f 14) I1 m1 I0 m0 K s)) (frz S21)) s)
 (oK (qAC 6 t10) λW59=>oK (rd1 s W59) λW60=>oK (qAQ W60) λW61=>oK (negB false (eqV 0 true (.int .i64 W61) (.int .i64 0))) λW63=>qAL W63
 (K ok9 s)
 (oK (qAC 6 t10) λW64=>oK (rd1 s W64) λW65=>oK (qAQ W65) λW66=>wC TP X 15 [host2,(.int .i64 W66)] (λW68 S69=>oK (qAC 6 t10) λW70=>oK (rd1 S69 W70) λW71=>oK (qAY 4 W71 W68) λW72=>oK (qAC 0 W72) λW73=>oK (rd1 S69 W73) λW74=>oK (qAC 0 x7) λW75=>oK (wr1 S69 W75 W74) λS76=>oK (rdN S76 19 t10) λW77=>oK (rdN S76 4 w11) λW78=>oK (rdN S76 15 x7) λW79=>wC TP X 20 [(.agg W77),(.agg W78),W68,(.agg W79)] (λW80 S81=>oK (qAd W80 0) λW82=>oK (qAd W80 1) λW83=>oK (qAr .not W83) λW84=>qAL W84
 (qAL ok9
 (oK (rdN S81 19 t10) λW86=>oK (rdN S81 4 w11) λW87=>oK (rdN S81 15 x7) λW88=>wC TP X 10 [(.agg W86),(.agg W87),.nilslc,W68,(.agg W88)] (λW89 S90=>oK (qAQ W89) λW91=>oK (negB false (eqV 0 true (.int .i64 W91) (.int .i64 0))) λW93=>qCf X ok9 W93 K S90) S81)
 (qCf X ok9 .undef K S81))
 (oK (rdN S81 19 t10) λW94=>oK (rdN S81 4 w11) λW95=>wC TP X 23 [(.agg W94),(.agg W95),W82] (λW96 S97=>∃I3:IvP,(∃m,I3 [.nilslc,(.int .i64 0)] S97 m)/\∀(f:Env) (s:Hq) (m3:Nat),I3 [f 18,f 19] s m3->
 qAo X W68 x7 ok9 t10 w11 W96 (f 18) (f 19) I3 m3 K s) S81)) S76) s))
def qFC(X:Td)(l0 state1 host2 x3:AV)(K:KvP)(s:Hq):Prop:=
 boxK 48 x3 (λB0 S1=>wC TP X 3 [] (λW2 S3=>wC TP X 13 [l0] (λW4 S5=>newK 31 zR1 (λB6 S7=>oK (qAw S7 19 (.ptr B6 0) W4) λS8=>oK (rdN S8 19 (.ptr B6 0)) λW9=>wC TP X 14 [(.agg W9),state1] (λW10 S11=>newK 36 [.nilslc,.nilslc,.nilslc,.nilslc] (λB12 S13=>oK (qAw S13 4 (.ptr B12 0) W10) λS14=>∃I0:IvP,(∃m,I0 [(.int .i64 0)] S14 m)/\∀(f:Env) (s:Hq) (m0:Nat),I0 [f 12] s m0->
 qAq X host2 B0 W2 (.ptr B6 0) (.ptr B12 0) (f 12) I0 m0 K s) S11) S8) S5) S3) S1) s
def qD3:Nat->List Nat:=λk=>cond (Nat.beq k 10) [12] (cond (Nat.beq k 22) [14] (cond (Nat.beq k 50) [18,19] (cond (Nat.beq k 60) [21] (cond (Nat.beq k 74) [23] ([])))))
theorem qEK{l0 state1 host2 x3:AV}{K:KvP}{s:Hq}(h:qFC XX l0 state1 host2 x3 K s):wC TP XX 6 [l0,state1,host2,x3] K s:=wOK qAj qD3 rfl Tryz.func6 h
def qFP(X:Td)(a16 t60 t61:AV)(I0:IvP)(m0:Nat)(K:KvP)(s:Hq):Prop:=
 oK (qAG .lss t61 (.int .i64 6)) λW38=>qAL W38
 (oK (qO9 6 1 none t60 t61) λW39=>funK TP X W39 [a16] (λW40 S41=>oK (qAd W40 0) λW42=>oK (qAd W40 1) λW43=>qAL W43
 (K W42 S41)
 (oK (qAG .add t61 (.int .i64 1)) λW44=>∃m',m'<m0/\I0 [W44] S41 m')) s)
 (K .nilslc s)
def qLE(X:Td)(t0 w1 heard2 host3 x4:AV)(K:KvP)(s:Hq):Prop:=
 boxK 31 t0 (λB0 S1=>boxK 36 w1 (λB2 S3=>boxK 48 x4 (λB4 S5=>oK (rdN S5 19 B0) λW6=>oK (rdN S5 4 B2) λW7=>wC TP X 38 [(.agg W6),(.agg W7)] (λW8 S9=>oK (qAd W8 0) λW10=>oK (qAd W8 1) λW11=>oK (qAr .not W11) λW12=>qAL W12
 (K .nilslc S9)
 (oK (rdN S9 15 B4) λW13=>wC TP X 39 [W10,host3,(.agg W13)] (λW14 S15=>oK (qAd W14 0) λW16=>oK (qAd W14 1) λW17=>oK (qAr .not W17) λW18=>qAL W18
 (K .nilslc S15)
 (wC TP X 40 [W10,host3] (λW19 S20=>oK (qAd W19 0) λW21=>oK (qAd W19 1) λW22=>wC TP X 41 [W10,W16] (λW23 S24=>(∀b,S20 b≠none->S20 b=none->S24 b=none)->
 oK (rdN (cutH [(S20,(add S20 S24))] (add S20 S24)) 15 B4) λW25=>oK (qAC 6 B0) λW26=>oK (rd1 (cutH [(S20,(add S20 S24))] (add S20 S24)) W26) λW27=>oK (qAY 4 W27 host3) λW28=>oK (rdN (cutH [(S20,(add S20 S24))] (add S20 S24)) 4 W28) λW29=>oK (qAl [.nilptr,.nilslc,.nilslc,(.int .u64 0),(.int .u64 0),(.int .i64 0),(.int .i64 0),(.int .u64 0),(.int .u32 0),(.int .u64 0),(.int .u32 0),(.int .u32 0),(.int .u32 0),(.int .i64 0),(.int .i64 0),(.int .i64 0),(.int .i64 0),(.int .u64 0),(.int .u64 0),(.int .u32 0),(.int .i64 0),(.int .i64 0),(.int .i64 0)] [(0,1,W10),(1,1,heard2),(2,1,W23),(3,15,(.agg W25)),(18,4,(.agg W29)),(22,1,W21)]) λC30=>boxK 102 (.agg C30) (λB31 S32=>oK (qAl [.nilFunc,.nilFunc,.nilFunc,.nilFunc,.nilFunc,.nilFunc] [(0,1,(.fn (.func 42) [] [])),(1,1,(.fn (.func 43) [] [])),(2,1,(.fn (.func 44) [] [])),(3,1,(.fn (.func 45) [] [])),(4,1,(.fn (.func 46) [] [])),(5,1,(.fn (.func 47) [] []))]) λC33=>newK 106 [.nilFunc,.nilFunc,.nilFunc,.nilFunc,.nilFunc,.nilFunc] (λB34 S35=>oK (qAw S35 6 (.ptr B34 0) (.agg C33)) λS36=>oK (rdN S36 6 (.ptr B34 0)) λW37=>∃I0:IvP,(∃m,I0 [(.int .i64 0)] S36 m)/\∀(f:Env) (s:Hq) (m0:Nat),I0 [f 61] s m0->
 qFP X B31 (.agg W37) (f 61) I0 m0 K s) S32) (add S20 S24)) (frz S20)) S15)) S9)) S5) S3) S1) s
def qI1:Nat->List Nat:=λk=>cond (Nat.beq k 22) [61] ([])
theorem qJM{t0 w1 heard2 host3 x4:AV}{K:KvP}{s:Hq}(h:qLE XX t0 w1 heard2 host3 x4 K s):wC TP XX 10 [t0,w1,heard2,host3,x4] K s:=wOK qAj qI1 rfl Tryz.func10 h
def qMa(X:Td)(t2 t5 w6 n9 x10 t11:AV)(I3:IvP)(m3:Nat)(I2:IvP)(m2:Nat)(K:KvP)(s:Hq):Prop:=
 oK (qAC 5 t2) λW51=>oK (rd1 s W51) λW52=>oK (qAQ W52) λW53=>oK (qAG .lss t11 (.int .i64 W53)) λW55=>qAL W55
 (wC TP X 48 [t5,(.int .i64 8)] (λW56 S57=>oK (negB true (eqV 0 true W56 (.int .i64 7))) λW58=>oK (qAl (repl 1 [(.bool false)]) [(0,1,W58)]) λC59=>qAa C59=true/\newK 4 C59 (λB60 S61=>appK 4 1 x10 (.slc B60 0 1 (some 1) 1) (λW62 S63=>oK (qAG .add t11 (.int .i64 1)) λW64=>∃m',m'<m3/\I3 [W62,W64] S63 m') S61) S57) s)
 (oK (qAC 2 w6) λW65=>oK (rd1 s W65) λW66=>oK (qAl (repl 1 [.nilslc]) [(0,1,x10)]) λC67=>qAa C67=true/\newK 32 C67 (λB68 S69=>appK 32 1 W66 (.slc B68 0 1 (some 1) 1) (λW70 S71=>oK (qAC 2 w6) λW72=>oK (wr1 S71 W72 W70) λS73=>oK (qAG .add n9 (.int .i64 1)) λW74=>∃m',m'<m2/\I2 [W74] S73 m') S69) s)
def qFS(X:Td)(w6 h12 t13:AV)(I4:IvP)(m4:Nat)(K:KvP)(s:Hq):Prop:=
 oK (qAC 3 w6) λW88=>oK (rd1 s W88) λW89=>oK (qAl (repl 1 [(.int .i64 0)]) [(0,1,t13)]) λC90=>qAa C90=true/\newK 3 C90 (λB91 S92=>appK 3 1 W89 (.slc B91 0 1 (some 1) 1) (λW93 S94=>oK (qAC 3 w6) λW95=>oK (wr1 S94 W95 W93) λS96=>oK (qAG .add h12 (.int .i64 1)) λW97=>∃m',m'<m4/\I4 [W97] S96 m') S92) s
def qJe(X:Td)(t2 t4 t5 w6 h12:AV)(I4:IvP)(m4:Nat)(K:KvP)(s:Hq):Prop:=
 oK (qAC 6 t2) λW75=>oK (rd1 s W75) λW76=>oK (qAQ W76) λW77=>oK (qAG .lss h12 (.int .i64 W77)) λW79=>qAL W79
 (oK (qAC 6 t2) λW80=>oK (rd1 s W80) λW81=>oK (qAY 4 W81 h12) λW82=>oK (qAC 3 W82) λW83=>oK (rd1 s W83) λW84=>wC TP X 48 [t5,(.int .i64 4)] (λW85 S86=>oK (negB false (eqV 0 true W85 (.int .i64 3))) λW87=>qAL W87
 (oK (rdN S86 19 t2) λW98=>oK (qAC 6 t2) λW99=>oK (rd1 S86 W99) λW100=>oK (qAY 4 W100 h12) λW101=>oK (qAC 2 W101) λW102=>oK (rd1 S86 W102) λW103=>∃h_104:Hq,(∀b,h_104 b≠none->S86 b≠none)/\
 wC TP X 48 [t5,(.int .i64 6)] (λW105 S106=>(∀b,S86 b≠none->(cutH [((hdel S86 (qAm t2)),S86),((hdel S86 (qAm W99)),S86),((hdel S86 (qAm W102)),S86)] (minus S86 h_104)) b=none->S106 b=none)->
 wC TP X 55 [(.agg W98),W103,W105] (λW107 S108=>qFS X w6 h12 W107 I4 m4 K S108) (add S106 (rest S86 (cutH [((hdel S86 (qAm t2)),S86),((hdel S86 (qAm W99)),S86),((hdel S86 (qAm W102)),S86)] (minus S86 h_104))))) (cutH [((hdel S86 (qAm t2)),S86),((hdel S86 (qAm W99)),S86),((hdel S86 (qAm W102)),S86)] (minus S86 h_104)))
 (qFS X w6 h12 W84 I4 m4 K S86)) s)
 (oK (rdN s 4 w6) λW109=>oK (qAw s 4 t4 (.agg W109)) λS110=>oK (rdN S110 4 t4) λt4_111=>K (.agg t4_111) S110)
def qJZ(X:Td)(t2 t4 t5 w6 n9:AV)(I2:IvP)(m2:Nat)(K:KvP)(s:Hq):Prop:=
 oK (qAC 0 t2) λW48=>oK (rd1 s W48) λW49=>oK (qAG .lss n9 W49) λW50=>qAL W50
 (∃I3:IvP,(∃m,I3 [.nilslc,(.int .i64 0)] s m)/\∀(f:Env) (s:Hq) (m3:Nat),I3 [f 10,f 11] s m3->
 qMa X t2 t5 w6 n9 (f 10) (f 11) I3 m3 I2 m2 K s)
 (∃I4:IvP,(∃m,I4 [(.int .i64 0)] s m)/\∀(f:Env) (s:Hq) (m4:Nat),I4 [f 12] s m4->
 qJe X t2 t4 t5 w6 (f 12) I4 m4 K s)
def qJH(X:Td)(t2 t4 t5 w6 i8:AV)(I1:IvP)(m1:Nat)(K:KvP)(s:Hq):Prop:=
 oK (qAC 2 t2) λW29=>oK (rd1 s W29) λW30=>oK (qAQ W30) λW31=>oK (qAG .lss i8 (.int .i64 W31)) λW33=>qAL W33
 (oK (qAC 1 w6) λW34=>oK (rd1 s W34) λW35=>∃h_36:Hq,(∀b,h_36 b≠none->s b≠none)/\
 wC TP X 48 [t5,(.int .i64 6)] (λW37 S38=>(∀b,s b≠none->(cutH [((hdel s (qAm W34)),s)] (minus s h_36)) b=none->S38 b=none)->
 oK (negB true (eqV 0 true W37 (.int .i64 5))) λW39=>oK (qAl (repl 1 [(.bool false)]) [(0,1,W39)]) λC40=>qAa C40=true/\newK 4 C40 (λB41 S42=>(∀b,(add S38 (rest s (cutH [((hdel s (qAm W34)),s)] (minus s h_36)))) b≠none->(add S38 (rest s (cutH [((hdel s (qAm W34)),s)] (minus s h_36)))) b=none->S42 b=none)->
 appK 4 1 W35 (.slc B41 0 1 (some 1) 1) (λW43 S44=>oK (qAC 1 w6) λW45=>oK (wr1 S44 W45 W43) λS46=>oK (qAG .add i8 (.int .i64 1)) λW47=>∃m',m'<m1/\I1 [W47] S46 m') (add (add S38 (rest s (cutH [((hdel s (qAm W34)),s)] (minus s h_36)))) S42)) (frz (add S38 (rest s (cutH [((hdel s (qAm W34)),s)] (minus s h_36)))))) (cutH [((hdel s (qAm W34)),s)] (minus s h_36)))
 (∃I2:IvP,(∃m,I2 [(.int .i64 0)] s m)/\∀(f:Env) (s:Hq) (m2:Nat),I2 [f 9] s m2->
 qJZ X t2 t4 t5 w6 (f 9) I2 m2 K s)
def qJL(X:Td)(t2 t4 t5 w6 n7:AV)(I0:IvP)(m0:Nat)(K:KvP)(s:Hq):Prop:=
 oK (qAC 0 t2) λW9=>oK (rd1 s W9) λW10=>oK (qAC 1 t2) λW11=>oK (rd1 s W11) λW12=>oK (qAG .add W10 W12) λW13=>oK (qAG .lss n7 W13) λW14=>qAL W14
 (oK (qAC 0 w6) λW15=>oK (rd1 s W15) λW16=>∃h_17:Hq,(∀b,h_17 b≠none->s b≠none)/\
 wC TP X 48 [t5,(.int .i64 9)] (λW18 S19=>(∀b,s b≠none->(cutH [((hdel s (qAm W15)),s)] (minus s h_17)) b=none->S19 b=none)->
 oK (negB true (eqV 0 true W18 (.int .i64 8))) λW20=>oK (qAl (repl 1 [(.bool false)]) [(0,1,W20)]) λC21=>qAa C21=true/\newK 4 C21 (λB22 S23=>(∀b,(add S19 (rest s (cutH [((hdel s (qAm W15)),s)] (minus s h_17)))) b≠none->(add S19 (rest s (cutH [((hdel s (qAm W15)),s)] (minus s h_17)))) b=none->S23 b=none)->
 appK 4 1 W16 (.slc B22 0 1 (some 1) 1) (λW24 S25=>oK (qAC 0 w6) λW26=>oK (wr1 S25 W26 W24) λS27=>oK (qAG .add n7 (.int .i64 1)) λW28=>∃m',m'<m0/\I0 [W28] S27 m') (add (add S19 (rest s (cutH [((hdel s (qAm W15)),s)] (minus s h_17)))) S23)) (frz (add S19 (rest s (cutH [((hdel s (qAm W15)),s)] (minus s h_17)))))) (cutH [((hdel s (qAm W15)),s)] (minus s h_17)))
 (∃I1:IvP,(∃m,I1 [(.int .i64 0)] s m)/\∀(f:Env) (s:Hq) (m1:Nat),I1 [f 8] s m1->
 qJH X t2 t4 t5 w6 (f 8) I1 m1 K s)
def qXI(X:Td)(t0 l1:AV)(K:KvP)(s:Hq):Prop:=
 boxK 31 t0 (λB0 S1=>newK 36 [.nilslc,.nilslc,.nilslc,.nilslc] (λB2 S3=>oK (qAl [.nilslc,(.int .i64 0)] [(0,1,l1)]) λC4=>boxK 110 (.agg C4) (λB5 S6=>newK 36 [.nilslc,.nilslc,.nilslc,.nilslc] (λB7 S8=>∃I0:IvP,(∃m,I0 [(.int .i64 0)] S8 m)/\∀(f:Env) (s:Hq) (m0:Nat),I0 [f 7] s m0->
 qJL X B0 (.ptr B2 0) B5 (.ptr B7 0) (f 7) I0 m0 K s) S6) S3) S1) s
def qQI:Nat->List Nat:=λk=>cond (Nat.beq k 8) [7] (cond (Nat.beq k 1000026) [3] (cond (Nat.beq k 16) [8] (cond (Nat.beq k 1000041) [3] (cond (Nat.beq k 24) [9] (cond (Nat.beq k 32) [10,11] (cond (Nat.beq k 42) [12] (cond (Nat.beq k 1000090) [8] ([]))))))))
theorem qQv{t0 l1:AV}{K:KvP}{s:Hq}(h:qXI XX t0 l1 K s):wC TP XX 14 [t0,l1] K s:=wOK qAj qQI rfl Tryz.func14 h
def qJE(X:Td)(l0 x1 i5:AV)(I0:IvP)(m0:Nat)(K:KvP)(s:Hq):Prop:=
 oK (qAQ l0) λW0=>oK (qAG .lss i5 (.int .i64 W0)) λW2=>qAL W2
 (oK (qAY 1 l0 i5) λW3=>oK (rd1 s W3) λW4=>oK (negB false (eqV 0 false W4 x1)) λW5=>qAL W5
 (K (.bool true) s)
 (oK (qAG .add i5 (.int .i64 1)) λW6=>∃m',m'<m0/\I0 [W6] s m'))
 (K (.bool false) s)
def qMF(X:Td)(l0 x1:AV)(K:KvP)(s:Hq):Prop:=
 ∃I0:IvP,(∃m,I0 [(.int .i64 0)] s m)/\∀(f:Env) (s:Hq) (m0:Nat),I0 [f 5] s m0->
 qJE X l0 x1 (f 5) I0 m0 K s
def qMG:Nat->List Nat:=λk=>cond (Nat.beq k 4) [5] ([])
theorem qNH{l0 x1:AV}{K:KvP}{s:Hq}(h:qMF XX l0 x1 K s):wC TP XX 16 [l0,x1] K s:=wOK qAj qMG rfl Tryz.func16 h
def qCZ(X:Td)(host1 t2 t4 t16 t20:AV)(K:KvP)(s:Hq):Prop:=
 oK (qAR t16 (.bool true) t20) λW11=>qAL W11
 (oK (qAl [(.int .u64 0),(.int .u64 0),(.int .i64 0),(.int .i64 0),(.int .u64 0),(.int .u32 0),(.int .u64 0),(.int .u32 0),(.int .u32 0),(.int .u32 0),(.int .i64 0),(.int .i64 0),(.int .i64 0),(.int .i64 0),(.int .u64 0)] []) λC12=>oK (qAw s 15 t4 (.agg C12)) λS13=>oK (rdN S13 15 t4) λt4_14=>K (.agg t4_14) S13)
 (oK (qAC 6 t2) λW15=>oK (rd1 s W15) λW16=>oK (qAY 4 W16 host1) λW17=>oK (rdN s 4 W17) λW18=>newK 61 [(.int .u64 0),(.int .u32 0),(.int .i64 0),(.int .i64 0)] (λB19 S20=>oK (qAw S20 4 (.ptr B19 0) (.agg W18)) λS21=>oK (qAC 1 (.ptr B19 0)) λW22=>oK (rd1 S21 W22) λW23=>oK (negB false (eqV 0 true W23 (.int .u32 0))) λW24=>qAL W24
 (oK (qAC 0 (.ptr B19 0)) λW25=>oK (rd1 S21 W25) λW26=>oK (qAl [(.int .u64 0),(.int .u64 0),(.int .i64 0),(.int .i64 0),(.int .u64 0),(.int .u32 0),(.int .u64 0),(.int .u32 0),(.int .u32 0),(.int .u32 0),(.int .i64 0),(.int .i64 0),(.int .i64 0),(.int .i64 0),(.int .u64 0)] [(0,1,W26),(1,1,(.int .u64 281474976710655)),(2,1,(.int .i64 0))]) λC27=>oK (qAw S21 15 t4 (.agg C27)) λS28=>oK (rdN S28 15 t4) λt4_29=>K (.agg t4_29) S28)
 (oK (qAC 0 (.ptr B19 0)) λW30=>oK (rd1 S21 W30) λW31=>oK (qAC 1 (.ptr B19 0)) λW32=>oK (rd1 S21 W32) λW33=>wC TP X 57 [W31,W33,(.int .u64 0)] (λW34 S35=>oK (qAw S35 15 t4 W34) λS36=>oK (rdN S36 15 t4) λt4_37=>K (.agg t4_37) S36) S21)) s)
def qHt(X:Td)(t0 host1:AV)(K:KvP)(s:Hq):Prop:=
 boxK 31 t0 (λB0 S1=>newK 48 [(.int .u64 0),(.int .u64 0),(.int .i64 0),(.int .i64 0),(.int .u64 0),(.int .u32 0),(.int .u64 0),(.int .u32 0),(.int .u32 0),(.int .u32 0),(.int .i64 0),(.int .i64 0),(.int .i64 0),(.int .i64 0),(.int .u64 0)] (λB2 S3=>oK (rdN S3 19 B0) λW4=>oK (qAl [.nilslc,.nilslc,.nilslc,.nilslc] []) λC5=>wC TP X 38 [(.agg W4),(.agg C5)] (λW6 S7=>oK (qAd W6 0) λW8=>oK (qAd W6 1) λW9=>oK (qAr .not W9) λW10=>qAL W10
 (qCZ X host1 B0 (.ptr B2 0) W10 .undef K S7)
 (wC TP X 56 [W8,host1] (λW38 S39=>oK (qAr .not W38) λW40=>qCZ X host1 B0 (.ptr B2 0) W10 W40 K S39) S7)) S3) S1) s
theorem qGN{t0 host1:AV}{K:KvP}{s:Hq}(h:qHt XX t0 host1 K s):wC TP XX 18 [t0,host1] K s:=wOK qAj nA0 rfl Tryz.func18 h
def qC5(X:Td)(x11 t80 t81 t87 t88:AV)(K:KvP)(s:Hq):Prop:=
 oK (qAR t87 (.bool true) t88) λW55=>oK (qAY 3 t80 t81) λW56=>oK (qAC 2 W56) λW57=>oK (wr1 s W57 W55) λS58=>K x11 S58
def qCP(X:Td)(x8 x11 x14 t63 t66:AV)(K:KvP)(s:Hq):Prop:=
 oK (qAR t63 t66 (.bool false)) λW40=>wC TP X 59 [x11,(.fn (.func 60) [] [x8,x14])] (λW41 S42=>oK (qAG .lss W41 (.int .i64 0)) λW43=>qAL W43
 (oK (rd1 S42 x8) λW44=>oK (rd1 S42 x14) λW45=>oK (qAl [(.int .i64 0),(.int .i64 0),(.bool false)] [(0,1,W44),(1,1,W45),(2,1,W40)]) λC46=>oK (qAl (repl 1 [(.int .i64 0),(.int .i64 0),(.bool false)]) [(0,3,(.agg C46))]) λC47=>qAa C47=true/\newK 77 C47 (λB48 S49=>appK 77 3 x11 (.slc B48 0 1 (some 1) 3) (λW50 S51=>K W50 S51) S49) S42)
 (oK (qAY 3 x11 W41) λW52=>oK (qAC 2 W52) λW53=>oK (rd1 S42 W53) λW54=>qAL W54
 (qC5 X x11 x11 W41 W54 .undef K S42)
 (qC5 X x11 x11 W41 W54 W40 K S42))) s
def qC8(X:Td)(x8 x11 x14 h15 t55 t61:AV)(K:KvP)(s:Hq):Prop:=
 oK (qAR t55 t61 (.bool false)) λW39=>qAL W39
 (oK (qAC 1 h15) λW59=>oK (rd1 s W59) λW60=>oK (negB true (eqV 0 true W60 (.int .u32 0))) λW61=>qCP X x8 x11 x14 W39 W61 K s)
 (qCP X x8 x11 x14 W39 .undef K s)
def qC7(X:Td)(x8 x9 x11 x14 h15 t47 t53:AV)(K:KvP)(s:Hq):Prop:=
 oK (qAR t47 t53 (.bool false)) λW38=>qAL W38
 (oK (qAC 3 x9) λW62=>oK (qAC 2 W62) λW63=>oK (rd1 s W63) λW64=>oK (qAC 1 h15) λW65=>oK (rd1 s W65) λW66=>oK (negB false (eqV 0 false W64 W66)) λW67=>qC8 X x8 x11 x14 h15 W38 W67 K s)
 (qC8 X x8 x11 x14 h15 W38 .undef K s)
def qMe(X:Td)(t0 w1 heard2 host3 x4:AV)(K:KvP)(s:Hq):Prop:=
 boxK 31 t0 (λB0 S1=>boxK 36 w1 (λB2 S3=>boxK 3 host3 (λB4 S5=>boxK 48 x4 (λB6 S7=>wC TP X 58 [heard2] (λW8 S9=>oK (rdN S9 19 B0) λW10=>oK (rdN S9 4 B2) λW11=>wC TP X 38 [(.agg W10),(.agg W11)] (λW12 S13=>oK (qAd W12 0) λW14=>oK (qAd W12 1) λW15=>oK (qAr .not W15) λW16=>qAL W16
 (K W8 S13)
 (oK (rd1 S13 B4) λW17=>oK (rdN S13 15 B6) λW18=>wC TP X 39 [W14,W17,(.agg W18)] (λW19 S20=>oK (qAd W19 0) λW21=>oK (qAd W19 1) λW22=>newK 3 [(.int .i64 0)] (λB23 S24=>oK (wr1 S24 (.ptr B23 0) W21) λS25=>oK (qAr .not W22) λW26=>qAL W26
 (K W8 S25)
 (oK (qAC 6 B0) λW27=>oK (rd1 S25 W27) λW28=>oK (rd1 S25 B4) λW29=>oK (qAY 4 W28 W29) λW30=>oK (rdN S25 4 W30) λW31=>newK 61 [(.int .u64 0),(.int .u32 0),(.int .i64 0),(.int .i64 0)] (λB32 S33=>oK (qAw S33 4 (.ptr B32 0) (.agg W31)) λS34=>oK (qAC 2 B6) λW35=>oK (rd1 S34 W35) λW36=>oK (negB false (eqV 0 true W36 (.int .i64 1))) λW37=>qAL W37
 (oK (qAC 3 B6) λW68=>oK (qAC 1 W68) λW69=>oK (rd1 S34 W69) λW70=>oK (qAC 0 (.ptr B32 0)) λW71=>oK (rd1 S34 W71) λW72=>oK (negB false (eqV 0 false W70 W72)) λW73=>qC7 X B4 B6 W8 (.ptr B23 0) (.ptr B32 0) W37 W73 K S34)
 (qC7 X B4 B6 W8 (.ptr B23 0) (.ptr B32 0) W37 .undef K S34)) S25)) S20) S13)) S9) S7) S5) S3) S1) s
theorem qKK{t0 w1 heard2 host3 x4:AV}{K:KvP}{s:Hq}(h:qMe XX t0 w1 heard2 host3 x4 K s):wC TP XX 19 [t0,w1,heard2,host3,x4] K s:=wOK qAj nA0 rfl Tryz.func19 h
def qMK(X:Td)(t0 w1 host2 x3:AV)(K:KvP)(s:Hq):Prop:=
 boxK 31 t0 (λB0 S1=>boxK 36 w1 (λB2 S3=>boxK 48 x3 (λB4 S5=>oK (rdN S5 19 B0) λW6=>oK (rdN S5 4 B2) λW7=>wC TP X 38 [(.agg W6),(.agg W7)] (λW8 S9=>oK (qAd W8 0) λW10=>oK (qAd W8 1) λW11=>oK (qAr .not W11) λW12=>qAL W12
 (K (.tup [(.int .i64 0),(.bool false)]) S9)
 (oK (rdN S9 15 B4) λW13=>wC TP X 61 [W10,host2,(.agg W13)] (λW14 S15=>oK (qAd W14 0) λW16=>oK (qAd W14 1) λW17=>K (.tup [W16,W17]) S15) S9)) S5) S3) S1) s
theorem qJh{t0 w1 host2 x3:AV}{K:KvP}{s:Hq}(h:qMK XX t0 w1 host2 x3 K s):wC TP XX 20 [t0,w1,host2,x3] K s:=wOK qAj nA0 rfl Tryz.func20 h
def qM6(X:Td)(t0 w1 leaf2:AV)(K:KvP)(s:Hq):Prop:=
 boxK 31 t0 (λB0 S1=>boxK 36 w1 (λB2 S3=>oK (rdN S3 19 B0) λW4=>oK (rdN S3 4 B2) λW5=>wC TP X 38 [(.agg W4),(.agg W5)] (λW6 S7=>oK (qAd W6 0) λW8=>oK (qAd W6 1) λW9=>oK (qAr .not W9) λW10=>qAL W10
 (K .nilslc S7)
 (wC TP X 41 [W8,leaf2] (λW11 S12=>K W11 S12) S7)) S3) S1) s
theorem qKS{t0 w1 leaf2:AV}{K:KvP}{s:Hq}(h:qM6 XX t0 w1 leaf2 K s):wC TP XX 23 [t0,w1,leaf2] K s:=wOK qAj nA0 rfl Tryz.func23 h
end Go.AM
namespace Go.AM
open Go Go.Proofs
set_option maxRecDepth 100000
def qGU(X:Td)(a0 b1 same5 i6 t13 t17:AV)(I0:IvP)(m0:Nat)(K:KvP)(s:Hq):Prop:=
 oK (qAR t13 t17 (.bool false)) λW5=>qAL W5
 (oK (qAY 1 a0 i6) λW6=>oK (rd1 s W6) λW7=>oK (qAY 1 b1 i6) λW8=>oK (rd1 s W8) λW9=>oK (negB false (eqV 0 false W7 W9)) λW10=>oK (qAG .add i6 (.int .i64 1)) λW11=>∃m',m'<m0/\I0 [W10,W11] s m')
 (K same5 s)
def qI9(X:Td)(a0 b1 same5 i6:AV)(I0:IvP)(m0:Nat)(K:KvP)(s:Hq):Prop:=
 qAL same5
 (oK (qAQ a0) λW12=>oK (qAG .lss i6 (.int .i64 W12)) λW14=>qGU X a0 b1 same5 i6 same5 W14 I0 m0 K s)
 (qGU X a0 b1 same5 i6 same5 .undef I0 m0 K s)
def qQj(X:Td)(a0 b1:AV)(K:KvP)(s:Hq):Prop:=
 oK (qAQ a0) λW0=>oK (qAQ b1) λW2=>oK (negB false (eqV 0 false (.int .i64 W0) (.int .i64 W2))) λW4=>∃I0:IvP,(∃m,I0 [W4,(.int .i64 0)] s m)/\∀(f:Env) (s:Hq) (m0:Nat),I0 [f 5,f 6] s m0->
 qI9 X a0 b1 (f 5) (f 6) I0 m0 K s
def qMy:Nat->List Nat:=λk=>cond (Nat.beq k 6) [5,6] ([])
theorem qM5{a0 b1:AV}{K:KvP}{s:Hq}(h:qQj XX a0 b1 K s):wC TP XX 24 [a0,b1] K s:=wOK qAj qMy rfl Tryz.func24 h
def qDb(X:Td)(a0 b1 i5:AV)(I0:IvP)(m0:Nat)(K:KvP)(s:Hq):Prop:=
 oK (qAQ a0) λW0=>oK (qAG .lss i5 (.int .i64 W0)) λW2=>qAL W2
 (oK (qAY 1 a0 i5) λW3=>oK (rd1 s W3) λW4=>wC TP X 16 [b1,W4] (λW5 S6=>qAL W5
 (K (.bool true) S6)
 (oK (qAG .add i5 (.int .i64 1)) λW7=>∃m',m'<m0/\I0 [W7] S6 m')) s)
 (K (.bool false) s)
def qHn(X:Td)(a0 b1:AV)(K:KvP)(s:Hq):Prop:=
 ∃I0:IvP,(∃m,I0 [(.int .i64 0)] s m)/\∀(f:Env) (s:Hq) (m0:Nat),I0 [f 5] s m0->
 qDb X a0 b1 (f 5) I0 m0 K s
def qFt:Nat->List Nat:=λk=>cond (Nat.beq k 4) [5] ([])
theorem qGJ{a0 b1:AV}{K:KvP}{s:Hq}(h:qHn XX a0 b1 K s):wC TP XX 25 [a0,b1] K s:=wOK qAj qFt rfl Tryz.func25 h
def qKT(X:Td)(t0 w1 segment2:AV)(K:KvP)(s:Hq):Prop:=
 boxK 31 t0 (λB0 S1=>boxK 36 w1 (λB2 S3=>oK (rdN S3 19 B0) λW4=>oK (rdN S3 4 B2) λW5=>wC TP X 38 [(.agg W4),(.agg W5)] (λW6 S7=>oK (qAd W6 0) λW8=>oK (qAd W6 1) λW9=>oK (qAr .not W9) λW10=>qAL W10
 (K .nilslc S7)
 (wC TP X 63 [W8,segment2] (λW11 S12=>K W11 S12) S7)) S3) S1) s
theorem qIz{t0 w1 segment2:AV}{K:KvP}{s:Hq}(h:qKT XX t0 w1 segment2 K s):wC TP XX 26 [t0,w1,segment2] K s:=wOK qAj nA0 rfl Tryz.func26 h
def qBi(X:Td)(t17 t25:AV)(K:KvP)(s:Hq):Prop:=
 oK (qAR t17 t25 (.bool false)) λW9=>K W9 s
def qHY(X:Td)(t0 w1 host2 leaf3:AV)(K:KvP)(s:Hq):Prop:=
 boxK 31 t0 (λB0 S1=>boxK 36 w1 (λB2 S3=>oK (qAC 3 B2) λW4=>oK (rd1 S3 W4) λW5=>oK (qAY 1 W5 host2) λW6=>oK (rd1 S3 W6) λW7=>oK (qAG .geq W7 (.int .i64 0)) λW8=>qAL W8
 (oK (qAC 5 B0) λW10=>oK (rd1 S3 W10) λW11=>oK (qAY 2 W11 W7) λW12=>oK (qAC 0 W12) λW13=>oK (rd1 S3 W13) λW14=>wC TP X 16 [W14,leaf3] (λW15 S16=>qBi X W8 W15 K S16) S3)
 (qBi X W8 .undef K S3)) S1) s
theorem qFo{t0 w1 host2 leaf3:AV}{K:KvP}{s:Hq}(h:qHY XX t0 w1 host2 leaf3 K s):wC TP XX 27 [t0,w1,host2,leaf3] K s:=wOK qAj nA0 rfl Tryz.func27 h
def qCF(X:Td)(a0 b1 same5 i6 t13 t17:AV)(I0:IvP)(m0:Nat)(K:KvP)(s:Hq):Prop:=
 oK (qAR t13 t17 (.bool false)) λW5=>qAL W5
 (oK (qAY 17 a0 i6) λW6=>oK (rdN s 17 W6) λW7=>oK (qAY 17 b1 i6) λW8=>oK (rdN s 17 W8) λW9=>oK (negB false (qGg TP 55 (.agg W7) (.agg W9))) λW10=>oK (qAG .add i6 (.int .i64 1)) λW11=>∃m',m'<m0/\I0 [W10,W11] s m')
 (K same5 s)
def qDG(X:Td)(a0 b1 same5 i6:AV)(I0:IvP)(m0:Nat)(K:KvP)(s:Hq):Prop:=
 qAL same5
 (oK (qAQ a0) λW12=>oK (qAG .lss i6 (.int .i64 W12)) λW14=>qCF X a0 b1 same5 i6 same5 W14 I0 m0 K s)
 (qCF X a0 b1 same5 i6 same5 .undef I0 m0 K s)
def qGY(X:Td)(a0 b1:AV)(K:KvP)(s:Hq):Prop:=
 oK (qAQ a0) λW0=>oK (qAQ b1) λW2=>oK (negB false (eqV 0 false (.int .i64 W0) (.int .i64 W2))) λW4=>∃I0:IvP,(∃m,I0 [W4,(.int .i64 0)] s m)/\∀(f:Env) (s:Hq) (m0:Nat),I0 [f 5,f 6] s m0->
 qDG X a0 b1 (f 5) (f 6) I0 m0 K s
def qEy:Nat->List Nat:=λk=>cond (Nat.beq k 6) [5,6] ([])
theorem qFM{a0 b1:AV}{K:KvP}{s:Hq}(h:qGY XX a0 b1 K s):wC TP XX 28 [a0,b1] K s:=wOK qAj qEy rfl Tryz.func28 h
def qKf(X:Td)(t0 w1:AV)(K:KvP)(s:Hq):Prop:=
 boxK 31 t0 (λB0 S1=>boxK 36 w1 (λB2 S3=>oK (rdN S3 19 B0) λW4=>wC TP X 70 [(.agg W4)] (λW5 S6=>oK (qAd W5 0) λW7=>oK (qAd W5 1) λW8=>oK (qAd W5 2) λW9=>oK (negB true (eqV 0 true W7 (.int .i64 0))) λW10=>qAL W10
 (K (.tup [.nilptr,(.bool false)]) S6)
 (oK (rdN S6 19 B0) λW11=>oK (rdN S6 4 B2) λW12=>oK (qAl [(.int .i64 0),(.int .i64 0),.nilslc,.nilslc,.nilslc,.nilslc,.nilslc,.nilslc,(.int .i64 0),(.int .i64 0),(.int .i64 0),(.bool false),(.bool false),(.int .i64 0),(.int .i64 0),(.int .i64 0),(.int .i64 0),(.int .i64 0),(.int .i64 0),.nilslc,.nilslc,.nilslc,.nilslc] [(0,19,(.agg W11)),(19,4,(.agg W12))]) λC13=>boxK 136 (.agg C13) (λB14 S15=>K (.tup [B14,(.bool true)]) S15) S6)) S3) S1) s
theorem qIy{t0 w1:AV}{K:KvP}{s:Hq}(h:qKf XX t0 w1 K s):wC TP XX 38 [t0,w1] K s:=wOK qAj nA0 rfl Tryz.func38 h
def qA9(X:Td)(x8 t33 t36:AV)(K:KvP)(s:Hq):Prop:=
 oK (qAR t33 (.bool true) t36) λW9=>qAL W9
 (K (.tup [(.int .i64 0),(.bool false)]) s)
 (K (.tup [x8,(.bool true)]) s)
def qBC(X:Td)(x5 x8 t19 t31:AV)(K:KvP)(s:Hq):Prop:=
 oK (qAR t19 (.bool true) t31) λW8=>qAL W8
 (qA9 X x8 W8 .undef K s)
 (oK (rdN s 15 x5) λW10=>wC TP X 71 [(.agg W10)] (λW11 S12=>oK (negB true (eqV 0 true W11 (.int .i64 0))) λW13=>qA9 X x8 W8 W13 K S12) s)
def qGq(X:Td)(t0 host1 x2:AV)(K:KvP)(s:Hq):Prop:=
 boxK 48 x2 (λB0 S1=>oK (rdN S1 15 B0) λW2=>wC TP X 61 [t0,host1,(.agg W2)] (λW3 S4=>oK (qAd W3 0) λW5=>oK (qAd W3 1) λW6=>oK (qAr .not W6) λW7=>qAL W7
 (qBC X B0 W5 W7 .undef K S4)
 (oK (qAC 0 B0) λW14=>oK (rd1 S4 W14) λW15=>oK (qAH t0) λW16=>oK (qAC 0 W16) λW17=>oK (qAC 6 W17) λW18=>oK (rd1 S4 W18) λW19=>oK (qAY 4 W19 host1) λW20=>oK (qAC 0 W20) λW21=>oK (rd1 S4 W21) λW22=>oK (negB true (eqV 0 false W15 W22)) λW23=>qBC X B0 W5 W7 W23 K S4)) S1) s
theorem qFj{t0 host1 x2:AV}{K:KvP}{s:Hq}(h:qGq XX t0 host1 x2 K s):wC TP XX 39 [t0,host1,x2] K s:=wOK qAj nA0 rfl Tryz.func39 h
def qA7(X:Td)(t0 host1 x6 t31 t39:AV)(K:KvP)(s:Hq):Prop:=
 oK (qAR t31 (.bool true) t39) λW11=>qAL W11
 (K (.tup [(.int .i64 0),(.bool false)]) s)
 (oK (qAH t0) λW12=>oK (qAC 0 W12) λW13=>oK (qAC 5 W13) λW14=>oK (rd1 s W14) λW15=>oK (qAY 2 W15 x6) λW16=>oK (qAC 1 W16) λW17=>oK (rd1 s W17) λW18=>oK (qAH t0) λW19=>oK (qAC 0 W19) λW20=>oK (qAC 6 W20) λW21=>oK (rd1 s W21) λW22=>oK (qAY 4 W22 host1) λW23=>oK (qAC 2 W23) λW24=>oK (rd1 s W24) λW25=>wC TP X 72 [W18,W25] (λW26 S27=>oK (qAr .not W26) λW28=>qAL W28
 (K (.tup [(.int .i64 0),(.bool false)]) S27)
 (K (.tup [x6,(.bool true)]) S27)) s)
def qBA(X:Td)(t0 host1 t11 t19:AV)(K:KvP)(s:Hq):Prop:=
 oK (qAR t11 (.bool true) t19) λW3=>qAL W3
 (K (.tup [(.int .i64 0),(.bool false)]) s)
 (oK (qAH t0) λW4=>oK (qAC 19 W4) λW5=>oK (qAC 3 W5) λW6=>oK (rd1 s W6) λW7=>oK (qAY 1 W7 host1) λW8=>oK (rd1 s W8) λW9=>oK (qAG .lss W9 (.int .i64 0)) λW10=>qAL W10
 (qA7 X t0 host1 W9 W10 .undef K s)
 (oK (qAH t0) λW29=>oK (qAC 0 W29) λW30=>oK (qAC 5 W30) λW31=>oK (rd1 s W31) λW32=>oK (qAQ W32) λW33=>oK (qAG .geq W9 (.int .i64 W33)) λW35=>qA7 X t0 host1 W9 W10 W35 K s))
def qGr(X:Td)(t0 host1:AV)(K:KvP)(s:Hq):Prop:=
 wC TP X 56 [t0,host1] (λW0 S1=>oK (qAr .not W0) λW2=>qAL W2
 (qBA X t0 host1 W2 .undef K S1)
 (oK (qAH t0) λW36=>oK (qAC 19 W36) λW37=>oK (qAC 3 W37) λW38=>oK (rd1 S1 W38) λW39=>oK (qAQ W39) λW40=>oK (qAG .geq host1 (.int .i64 W40)) λW42=>qBA X t0 host1 W2 W42 K S1)) s
theorem qFT{t0 host1:AV}{K:KvP}{s:Hq}(h:qGr XX t0 host1 K s):wC TP XX 40 [t0,host1] K s:=wOK qAj nA0 rfl Tryz.func40 h
def qBX(X:Td)(leaf1 t2 t18 t26:AV)(K:KvP)(s:Hq):Prop:=
 oK (qAR t18 (.bool true) t26) λW4=>qAL W4
 (K .nilslc s)
 (oK (rd1 s t2) λW5=>wC TP X 74 [leaf1,(.fn (.func 75) [W5] [])] (λW6 S7=>wC TP X 76 [W6,(.fn (.func 77) [] [t2])] (λW8 S9=>wC TP X 78 [W8] (λW10 S11=>K W8 S11) S9) S7) s)
def qBZ(X:Td)(leaf1 t2 t9 t16:AV)(K:KvP)(s:Hq):Prop:=
 oK (qAR t9 (.bool true) t16) λW3=>qAL W3
 (qBX X leaf1 t2 W3 .undef K s)
 (oK (rd1 s t2) λW12=>oK (qAH W12) λW13=>oK (qAC 19 W13) λW14=>oK (qAC 0 W14) λW15=>oK (rd1 s W15) λW16=>wC TP X 73 [W16,leaf1] (λW17 S18=>oK (qAr .not W17) λW19=>qBX X leaf1 t2 W3 W19 K S18) s)
def qIt(X:Td)(t0 leaf1:AV)(K:KvP)(s:Hq):Prop:=
 boxK 94 t0 (λB0 S1=>oK (qAG .lss leaf1 (.int .i64 0)) λW2=>qAL W2
 (qBZ X leaf1 B0 W2 .undef K S1)
 (oK (rd1 S1 B0) λW20=>oK (qAH W20) λW21=>oK (qAC 0 W21) λW22=>oK (qAC 0 W22) λW23=>oK (rd1 S1 W23) λW24=>oK (qAG .geq leaf1 W24) λW25=>qBZ X leaf1 B0 W2 W25 K S1)) s
theorem qG6{t0 leaf1:AV}{K:KvP}{s:Hq}(h:qIt XX t0 leaf1 K s):wC TP XX 41 [t0,leaf1] K s:=wOK qAj nA0 rfl Tryz.func41 h
def qBK(X:Td)(a0 t15 t24:AV)(K:KvP)(s:Hq):Prop:=
 oK (qAR t15 (.bool true) t24) λW9=>qAL W9
 (K (.tup [.nilslc,(.bool false)]) s)
 (wC TP X 81 [a0,(.int .u64 1577058561)] (λW10 S11=>K (.tup [W10,(.bool true)]) S11) s)
def qBL(X:Td)(a0 d4 t10 t13:AV)(K:KvP)(s:Hq):Prop:=
 oK (qAR t10 (.bool true) t13) λW8=>qAL W8
 (qBK X a0 W8 .undef K s)
 (oK (qAH a0) λW12=>oK (qAC 3 W12) λW13=>oK (qAC 3 W13) λW14=>oK (qAC 4 W14) λW15=>oK (rd1 s W15) λW16=>oK (qAC 5 d4) λW17=>oK (rd1 s W17) λW18=>oK (negB true (eqV 0 false W16 W18)) λW19=>qBK X a0 W8 W19 K s)
def qHK(X:Td)(a0:AV)(K:KvP)(s:Hq):Prop:=
 wC TP X 79 [a0] (λW0 S1=>newK 69 [(.int .i64 0),(.int .u32 0),(.int .u32 0),(.int .u32 0),(.int .i64 0),(.int .u32 0)] (λB2 S3=>oK (qAw S3 6 (.ptr B2 0) W0) λS4=>wC TP X 80 [a0] (λW5 S6=>oK (qAr .not W5) λW7=>qAL W7
 (qBL X a0 (.ptr B2 0) W7 .undef K S6)
 (oK (qAC 5 (.ptr B2 0)) λW20=>oK (rd1 S6 W20) λW21=>oK (negB false (eqV 0 true W21 (.int .u32 0))) λW22=>qBL X a0 (.ptr B2 0) W7 W22 K S6)) S4) S1) s
theorem qFn{a0:AV}{K:KvP}{s:Hq}(h:qHK XX a0 K s):wC TP XX 42 [a0] K s:=wOK qAj nA0 rfl Tryz.func42 h
def qAy(X:Td)(a0 h6 t47 t67 t81:AV)(I3:IvP)(m3:Nat)(K:KvP)(s:Hq):Prop:=
 oK (qAR t67 t81 (.bool false)) λW41=>qAL W41
 (oK (qAC 0 h6) λW42=>oK (rd1 s W42) λW43=>wC TP X 81 [a0,W43] (λW44 S45=>K (.tup [W44,(.bool true)]) S45) s)
 (oK (qAG .add t47 (.int .i64 1)) λW46=>∃m',m'<m3/\I3 [W46] s m')
def qAu(X:Td)(a0 i5 h6 t47 t60 t65:AV)(I3:IvP)(m3:Nat)(K:KvP)(s:Hq):Prop:=
 oK (qAR t60 t65 (.bool false)) λW40=>qAL W40
 (oK (qAH a0) λW47=>oK (qAC 0 W47) λW48=>oK (rd1 s W48) λW49=>oK (qAH a0) λW50=>oK (qAC 2 W50) λW51=>oK (rd1 s W51) λW52=>oK (qAH a0) λW53=>oK (qAC 1 W53) λW54=>oK (rd1 s W54) λW55=>wC TP X 62 [W49,W52,W55,i5,(.bool true)] (λW56 S57=>qAy X a0 h6 t47 W40 W56 I3 m3 K S57) s)
 (qAy X a0 h6 t47 W40 .undef I3 m3 K s)
def qCk(X:Td)(a0 q4 t45 t46 t47:AV)(I3:IvP)(m3:Nat)(K:KvP)(s:Hq):Prop:=
 oK (qAG .lss t47 t46) λW27=>qAL W27
 (oK (qAY 4 t45 t47) λW28=>oK (rdN s 4 W28) λW29=>newK 61 [(.int .u64 0),(.int .u32 0),(.int .i64 0),(.int .i64 0)] (λB30 S31=>oK (qAw S31 4 (.ptr B30 0) (.agg W29)) λS32=>oK (qAC 2 (.ptr B30 0)) λW33=>oK (rd1 S32 W33) λW34=>oK (qAH a0) λW35=>oK (qAC 18 W35) λW36=>oK (qAC 2 W36) λW37=>oK (rd1 S32 W37) λW38=>oK (negB false (eqV 0 false W34 W38)) λW39=>qAL W39
 (oK (qAC 1 (.ptr B30 0)) λW58=>oK (rd1 S32 W58) λW59=>oK (qAC 4 q4) λW60=>oK (rd1 S32 W60) λW61=>oK (negB false (eqV 0 false W59 W61)) λW62=>qAu X a0 t47 (.ptr B30 0) t47 W39 W62 I3 m3 K S32)
 (qAu X a0 t47 (.ptr B30 0) t47 W39 .undef I3 m3 K S32)) s)
 (K (.tup [.nilslc,(.bool false)]) s)
def qAx(X:Td)(a0 q4 t31 t36:AV)(K:KvP)(s:Hq):Prop:=
 oK (qAR t31 (.bool true) t36) λW17=>qAL W17
 (K (.tup [.nilslc,(.bool false)]) s)
 (oK (qAH a0) λW18=>oK (qAC 0 W18) λW19=>oK (rd1 s W19) λW20=>oK (qAH W20) λW21=>oK (qAC 0 W21) λW22=>oK (qAC 6 W22) λW23=>oK (rd1 s W23) λW24=>oK (qAQ W24) λW25=>∃I3:IvP,(∃m,I3 [(.int .i64 0)] s m)/\∀(f:Env) (s:Hq) (m3:Nat),I3 [f 47] s m3->
 qCk X a0 q4 W24 (.int .i64 W25) (f 47) I3 m3 K s)
def qAt(X:Td)(a0 q4 t26 t29:AV)(K:KvP)(s:Hq):Prop:=
 oK (qAR t26 (.bool true) t29) λW16=>qAL W16
 (qAx X a0 q4 W16 .undef K s)
 (oK (qAC 4 q4) λW63=>oK (rd1 s W63) λW64=>oK (qAC 2 q4) λW65=>oK (rd1 s W65) λW66=>oK (negB false (eqV 0 false W64 W66)) λW67=>qAx X a0 q4 W16 W67 K s)
def qA0(X:Td)(a0 q4 t21 t24:AV)(K:KvP)(s:Hq):Prop:=
 oK (qAR t21 (.bool true) t24) λW15=>qAL W15
 (qAt X a0 q4 W15 .undef K s)
 (oK (qAC 4 q4) λW68=>oK (rd1 s W68) λW69=>oK (negB false (eqV 0 true W69 (.int .u32 0))) λW70=>qAt X a0 q4 W15 W70 K s)
def qFO(X:Td)(a0:AV)(K:KvP)(s:Hq):Prop:=
 oK (qAH a0) λW0=>oK (qAC 3 W0) λW1=>oK (qAC 3 W1) λW2=>oK (rdN s 5 W2) λW3=>newK 44 [(.int .i64 0),(.int .u64 0),(.int .u32 0),(.int .u64 0),(.int .u32 0)] (λB4 S5=>oK (qAw S5 5 (.ptr B4 0) (.agg W3)) λS6=>oK (qAH a0) λW7=>oK (qAC 0 W7) λW8=>oK (rd1 S6 W8) λW9=>oK (qAH W9) λW10=>oK (qAC 0 W10) λW11=>oK (qAC 11 W11) λW12=>oK (rd1 S6 W12) λW13=>oK (qAr .not W13) λW14=>qAL W14
 (qA0 X a0 (.ptr B4 0) W14 .undef K S6)
 (wC TP X 80 [a0] (λW71 S72=>oK (qAr .not W71) λW73=>qA0 X a0 (.ptr B4 0) W14 W73 K S72) S6)) s
def qEE:Nat->List Nat:=λk=>cond (Nat.beq k 10) [47] ([])
theorem qEc{a0:AV}{K:KvP}{s:Hq}(h:qFO XX a0 K s):wC TP XX 43 [a0] K s:=wOK qAj qEE rfl Tryz.func43 h
def qBh(X:Td)(a0 x6 found7:AV)(K:KvP)(s:Hq):Prop:=
 oK (qAr .not found7) λW38=>qAL W38
 (K (.tup [.nilslc,(.bool true)]) s)
 (oK (qAH a0) λW39=>oK (qAC 0 W39) λW40=>oK (rd1 s W40) λW41=>oK (qAH W41) λW42=>oK (qAC 0 W42) λW43=>oK (qAC 6 W43) λW44=>oK (rd1 s W44) λW45=>oK (qAY 4 W45 x6) λW46=>oK (rdN s 4 W46) λW47=>newK 61 [(.int .u64 0),(.int .u32 0),(.int .i64 0),(.int .i64 0)] (λB48 S49=>oK (qAw S49 4 (.ptr B48 0) (.agg W47)) λS50=>oK (qAH a0) λW51=>oK (qAC 3 W51) λW52=>oK (rdN S50 15 W52) λW53=>newK 48 [(.int .u64 0),(.int .u64 0),(.int .i64 0),(.int .i64 0),(.int .u64 0),(.int .u32 0),(.int .u64 0),(.int .u32 0),(.int .u32 0),(.int .u32 0),(.int .i64 0),(.int .i64 0),(.int .i64 0),(.int .i64 0),(.int .u64 0)] (λB54 S55=>oK (qAw S55 15 (.ptr B54 0) (.agg W53)) λS56=>oK (qAC 0 (.ptr B48 0)) λW57=>oK (rd1 S56 W57) λW58=>oK (qAC 0 (.ptr B54 0)) λW59=>((cutH [((hdel S56 (qAm W57)),S56)] S56) (qAm W59)≠none)/\
 oK (wr1 S56 W59 (.int .u64 1577058561)) λS60=>oK (qAC 1 (.ptr B54 0)) λW61=>oK (wr1 S60 W61 W58) λS62=>oK (qAC 8 (.ptr B54 0)) λW63=>oK (qAC 2 W63) λW64=>oK (wr1 S62 W64 (.int .i64 0)) λS65=>oK (qAH a0) λW66=>oK (qAC 0 W66) λW67=>oK (rd1 S65 W67) λW68=>wC TP X 40 [W68,x6] (λW69 S70=>oK (qAd W69 0) λW71=>oK (qAd W69 1) λW72=>oK (qAC 2 (.ptr B48 0)) λW73=>oK (rd1 S70 W73) λW74=>oK (rdN S70 15 (.ptr B54 0)) λW75=>wC TP X 85 [W71,W74,(.agg W75)] (λW76 S77=>K (.tup [W76,(.bool true)]) S77) S70) S65) S50) s)
def qBg(X:Td)(x6 found7 t72:AV)(I4:IvP)(m4:Nat)(K:KvP)(s:Hq):Prop:=
 oK (qAG .add t72 (.int .i64 1)) λW90=>∃m',m'<m4/\I4 [x6,found7,W90] s m'
def qBQ(X:Td)(a0 dst5 x6 found7 l9 t72 t82 t86:AV)(I4:IvP)(m4:Nat)(K:KvP)(s:Hq):Prop:=
 oK (qAR t82 t86 (.bool false)) λW89=>qAL W89
 (oK (qAC 0 l9) λW91=>oK (rd1 s W91) λW92=>wC TP X 83 [a0,W92,dst5] (λW93 S94=>oK (qAd W93 0) λW95=>oK (qAd W93 1) λW96=>qBg X W95 W96 t72 I4 m4 K S94) s)
 (qBg X x6 found7 t72 I4 m4 K s)
def qCL(X:Td)(a0 d4 dst5 x6 found7 t70 t71 t72:AV)(I4:IvP)(m4:Nat)(K:KvP)(s:Hq):Prop:=
 oK (qAG .lss t72 t71) λW78=>qAL W78
 (oK (qAY 4 t70 t72) λW79=>oK (rdN s 4 W79) λW80=>newK 118 [(.int .i64 0),(.int .i64 0),(.int .u32 0),(.int .i64 0)] (λB81 S82=>oK (qAw S82 4 (.ptr B81 0) (.agg W80)) λS83=>qAL found7
 (qBh X a0 x6 found7 K S83)
 (oK (qAC 1 (.ptr B81 0)) λW84=>oK (rd1 S83 W84) λW85=>oK (qAC 0 d4) λW86=>oK (rd1 S83 W86) λW87=>oK (negB false (eqV 0 false W85 W87)) λW88=>qAL W88
 (oK (qAC 2 (.ptr B81 0)) λW97=>oK (rdN S83 2 W97) λW98=>wC TP X 84 [(.agg W98),dst5] (λW99 S100=>qBQ X a0 dst5 x6 found7 (.ptr B81 0) t72 W88 W99 I4 m4 K S100) S83)
 (qBQ X a0 dst5 x6 found7 (.ptr B81 0) t72 W88 .undef I4 m4 K S83))) s)
 (qBh X a0 x6 found7 K s)
def qBP(X:Td)(a0 d4 dst5 t48 t53:AV)(K:KvP)(s:Hq):Prop:=
 oK (qAR t48 (.bool true) t53) λW22=>qAL W22
 (K (.tup [.nilslc,(.bool true)]) s)
 (oK (qAC 0 d4) λW23=>oK (rd1 s W23) λW24=>wC TP X 83 [a0,W24,dst5] (λW25 S26=>oK (qAd W25 0) λW27=>oK (qAd W25 1) λW28=>oK (qAH a0) λW29=>oK (qAC 0 W29) λW30=>oK (rd1 S26 W30) λW31=>oK (qAH W31) λW32=>oK (qAC 0 W32) λW33=>oK (qAC 7 W33) λW34=>oK (rd1 S26 W34) λW35=>oK (qAQ W35) λW36=>∃I4:IvP,(∃m,I4 [W27,W28,(.int .i64 0)] S26 m)/\∀(f:Env) (s:Hq) (m4:Nat),I4 [f 6,f 7,f 72] s m4->
 qCL X a0 d4 dst5 (f 6) (f 7) W35 (.int .i64 W36) (f 72) I4 m4 K s) s)
def qBR(X:Td)(a0 d4 dst5 t39 t46:AV)(K:KvP)(s:Hq):Prop:=
 oK (qAR t39 (.bool true) t46) λW21=>qAL W21
 (qBP X a0 d4 dst5 W21 .undef K s)
 (oK (qAC 0 d4) λW101=>oK (rd1 s W101) λW102=>wC TP X 82 [a0,W102,dst5] (λW103 S104=>qBP X a0 d4 dst5 W21 W103 K S104) s)
def qBM(X:Td)(a0 d4 t22 t25:AV)(K:KvP)(s:Hq):Prop:=
 oK (qAR t22 (.bool true) t25) λW10=>qAL W10
 (K (.tup [.nilslc,(.bool false)]) s)
 (oK (qAH a0) λW11=>oK (qAC 3 W11) λW12=>oK (qAC 8 W12) λW13=>oK (qAC 1 W13) λW14=>oK (rd1 s W14) λW15=>oK (qAH a0) λW16=>oK (qAC 3 W16) λW17=>oK (qAC 2 W17) λW18=>oK (rd1 s W18) λW19=>oK (negB true (eqV 0 true W19 (.int .i64 2))) λW20=>qAL W20
 (qBR X a0 d4 W15 W20 .undef K s)
 (oK (qAH a0) λW105=>oK (qAC 3 W105) λW106=>oK (qAC 8 W106) λW107=>oK (qAC 2 W107) λW108=>oK (rd1 s W108) λW109=>oK (qAG .lss W109 (.int .i64 3)) λW110=>qBR X a0 d4 W15 W20 W110 K s))
def qHA(X:Td)(a0:AV)(K:KvP)(s:Hq):Prop:=
 wC TP X 79 [a0] (λW0 S1=>newK 69 [(.int .i64 0),(.int .u32 0),(.int .u32 0),(.int .u32 0),(.int .i64 0),(.int .u32 0)] (λB2 S3=>oK (qAw S3 6 (.ptr B2 0) W0) λS4=>oK (qAH a0) λW5=>oK (qAC 3 W5) λW6=>oK (qAC 1 W6) λW7=>oK (rd1 S4 W7) λW8=>oK (negB true (eqV 0 true W8 (.int .u64 1577058561))) λW9=>qAL W9
 (qBM X a0 (.ptr B2 0) W9 .undef K S4)
 (oK (qAC 5 (.ptr B2 0)) λW111=>oK (rd1 S4 W111) λW112=>oK (negB false (eqV 0 true W112 (.int .u32 0))) λW113=>qBM X a0 (.ptr B2 0) W9 W113 K S4)) S1) s
def qFf:Nat->List Nat:=λk=>cond (Nat.beq k 18) [6,7,72] ([])
theorem qFw{a0:AV}{K:KvP}{s:Hq}(h:qHA XX a0 K s):wC TP XX 44 [a0] K s:=wOK qAj qFf rfl Tryz.func44 h
def qGL(X:Td)(a0:AV)(K:KvP)(s:Hq):Prop:=
 oK (qAH a0) λW0=>oK (qAC 3 W0) λW1=>oK (qAC 1 W1) λW2=>oK (rd1 s W2) λW3=>wC TP X 21 [W3] (λW4 S5=>oK (qAr .not W4) λW6=>qAL W6
 (K (.tup [.nilslc,(.bool false)]) S5)
 (wC TP X 86 [a0] (λW7 S8=>K (.tup [W7,(.bool true)]) S8) S5)) s
theorem qE9{a0:AV}{K:KvP}{s:Hq}(h:qGL XX a0 K s):wC TP XX 45 [a0] K s:=wOK qAj nA0 rfl Tryz.func45 h
def qBD(X:Td)(a0 i4 t28 t51 t66:AV)(I0:IvP)(m0:Nat)(K:KvP)(s:Hq):Prop:=
 oK (qAR t51 (.bool true) t66) λW32=>qAL W32
 (oK (qAG .add t28 (.int .i64 1)) λW33=>∃m',m'<m0/\I0 [W33] s m')
 (oK (qAH a0) λW34=>oK (qAC 0 W34) λW35=>oK (rd1 s W35) λW36=>wC TP X 40 [W36,i4] (λW37 S38=>oK (qAd W37 0) λW39=>oK (qAd W37 1) λW40=>oK (qAH a0) λW41=>oK (qAC 22 W41) λW42=>oK (rd1 S38 W42) λW43=>oK (negB false (eqV 0 false W39 W43)) λW44=>qAL W44
 (K (.tup [.nilslc,(.bool true)]) S38)
 (oK (qAH a0) λW45=>oK (qAC 18 W45) λW46=>oK (qAC 2 W46) λW47=>oK (rd1 S38 W47) λW48=>oK (qAH a0) λW49=>oK (qAC 3 W49) λW50=>oK (rdN S38 15 W50) λW51=>wC TP X 85 [W39,W48,(.agg W51)] (λW52 S53=>K (.tup [W52,(.bool true)]) S53) S38)) s)
def qBE(X:Td)(a0 i4 t28 t41 t49:AV)(I0:IvP)(m0:Nat)(K:KvP)(s:Hq):Prop:=
 oK (qAR t41 (.bool true) t49) λW31=>qAL W31
 (qBD X a0 i4 t28 W31 .undef I0 m0 K s)
 (oK (qAH a0) λW54=>oK (qAC 0 W54) λW55=>oK (rd1 s W55) λW56=>oK (qAH a0) λW57=>oK (qAC 2 W57) λW58=>oK (rd1 s W58) λW59=>oK (qAH a0) λW60=>oK (qAC 1 W60) λW61=>oK (rd1 s W61) λW62=>wC TP X 62 [W56,W59,W62,i4,(.bool false)] (λW63 S64=>oK (qAr .not W63) λW65=>qBD X a0 i4 t28 W31 W65 I0 m0 K S64) s)
def qDC(X:Td)(a0 t26 t27 t28:AV)(I0:IvP)(m0:Nat)(K:KvP)(s:Hq):Prop:=
 oK (qAG .lss t28 t27) λW18=>qAL W18
 (oK (qAY 4 t26 t28) λW19=>oK (rdN s 4 W19) λW20=>newK 61 [(.int .u64 0),(.int .u32 0),(.int .i64 0),(.int .i64 0)] (λB21 S22=>oK (qAw S22 4 (.ptr B21 0) (.agg W20)) λS23=>oK (qAC 2 (.ptr B21 0)) λW24=>oK (rd1 S23 W24) λW25=>oK (qAH a0) λW26=>oK (qAC 18 W26) λW27=>oK (qAC 2 W27) λW28=>oK (rd1 S23 W28) λW29=>oK (negB true (eqV 0 false W25 W29)) λW30=>qAL W30
 (qBE X a0 t28 t28 W30 .undef I0 m0 K S23)
 (oK (qAC 0 (.ptr B21 0)) λW66=>oK (rd1 S23 W66) λW67=>oK (qAH a0) λW68=>oK (qAC 3 W68) λW69=>oK (qAC 1 W69) λW70=>oK (rd1 S23 W70) λW71=>oK (negB true (eqV 0 false W67 W71)) λW72=>qBE X a0 t28 t28 W30 W72 I0 m0 K S23)) s)
 (K (.tup [.nilslc,(.bool false)]) s)
def qGt(X:Td)(a0:AV)(K:KvP)(s:Hq):Prop:=
 oK (qAH a0) λW0=>oK (qAC 3 W0) λW1=>oK (qAC 1 W1) λW2=>oK (rd1 s W2) λW3=>oK (qAH a0) λW4=>oK (qAC 18 W4) λW5=>oK (qAC 0 W5) λW6=>oK (rd1 s W6) λW7=>oK (negB false (eqV 0 false W3 W7)) λW8=>qAL W8
 (K (.tup [.nilslc,(.bool true)]) s)
 (oK (qAH a0) λW9=>oK (qAC 0 W9) λW10=>oK (rd1 s W10) λW11=>oK (qAH W11) λW12=>oK (qAC 0 W12) λW13=>oK (qAC 6 W13) λW14=>oK (rd1 s W14) λW15=>oK (qAQ W15) λW16=>∃I0:IvP,(∃m,I0 [(.int .i64 0)] s m)/\∀(f:Env) (s:Hq) (m0:Nat),I0 [f 28] s m0->
 qDC X a0 W15 (.int .i64 W16) (f 28) I0 m0 K s)
def qE4:Nat->List Nat:=λk=>cond (Nat.beq k 8) [28] ([])
theorem qFX{a0:AV}{K:KvP}{s:Hq}(h:qGt XX a0 K s):wC TP XX 46 [a0] K s:=wOK qAj qE4 rfl Tryz.func46 h
def qHW(X:Td)(a0:AV)(K:KvP)(s:Hq):Prop:=
 wC TP X 86 [a0] (λW0 S1=>K (.tup [W0,(.bool true)]) S1) s
theorem qFs{a0:AV}{K:KvP}{s:Hq}(h:qHW XX a0 K s):wC TP XX 47 [a0] K s:=wOK qAj nA0 rfl Tryz.func47 h
def qHC(X:Td)(l7 t8:AV)(I0:IvP)(m0:Nat)(K:KvP)(s:Hq):Prop:=
 oK (qAG .add t8 (.int .i64 1)) λW14=>∃m',m'<m0/\I0 [l7,W14] s m'
def qME(X:Td)(bd1 n2 t3 l7 t8:AV)(I0:IvP)(m0:Nat)(K:KvP)(s:Hq):Prop:=
 oK (qAC 5 t3) λW2=>oK (rd1 s W2) λW3=>oK (qAQ W3) λW4=>oK (qAG .lss t8 (.int .i64 W4)) λW6=>qAL W6
 (oK (qAC 5 t3) λW7=>oK (rd1 s W7) λW8=>oK (qAY 2 W8 t8) λW9=>oK (qAC 1 W9) λW10=>oK (rd1 s W10) λW11=>wC TP X 16 [W11,bd1] (λW12 S13=>qAL W12
 (oK (qAl (repl 1 [(.int .i64 0)]) [(0,1,t8)]) λC15=>qAa C15=true/\newK 3 C15 (λB16 S17=>appK 3 1 l7 (.slc B16 0 1 (some 1) 1) (λW18 S19=>qHC X W18 t8 I0 m0 K S19) S17) S13)
 (qHC X l7 t8 I0 m0 K S13)) s)
 (oK (qAQ l7) λW20=>oK (negB false (eqV 0 true (.int .i64 W20) (.int .i64 0))) λW22=>qAL W22
 (K (.int .i64 (-1)) s)
 (oK (qAQ l7) λW23=>oK (qAG .rem n2 (.int .i64 W23)) λW25=>oK (qAY 1 l7 W25) λW26=>oK (rd1 s W26) λW27=>K W27 s))
def qXC(X:Td)(t0 bd1 n2:AV)(K:KvP)(s:Hq):Prop:=
 boxK 31 t0 (λB0 S1=>∃I0:IvP,(∃m,I0 [.nilslc,(.int .i64 0)] S1 m)/\∀(f:Env) (s:Hq) (m0:Nat),I0 [f 7,f 8] s m0->
 qME X bd1 n2 B0 (f 7) (f 8) I0 m0 K s) s
def qQK:Nat->List Nat:=λk=>cond (Nat.beq k 6) [7,8] ([])
theorem qRL{t0 bd1 n2:AV}{K:KvP}{s:Hq}(h:qXC XX t0 bd1 n2 K s):wC TP XX 55 [t0,bd1,n2] K s:=wOK qAj qQK rfl Tryz.func55 h
def qCD(X:Td)(t7 t15:AV)(K:KvP)(s:Hq):Prop:=
 oK (qAR t7 t15 (.bool false)) λW1=>K W1 s
def qEn(X:Td)(t0 h1:AV)(K:KvP)(s:Hq):Prop:=
 oK (qAG .geq h1 (.int .i64 0)) λW0=>qAL W0
 (oK (qAH t0) λW2=>oK (qAC 0 W2) λW3=>oK (qAC 6 W3) λW4=>oK (rd1 s W4) λW5=>oK (qAQ W5) λW6=>oK (qAG .lss h1 (.int .i64 W6)) λW8=>qCD X W0 W8 K s)
 (qCD X W0 .undef K s)
theorem qHV{t0 h1:AV}{K:KvP}{s:Hq}(h:qEn XX t0 h1 K s):wC TP XX 56 [t0,h1] K s:=wOK qAj nA0 rfl Tryz.func56 h
def qKR(X:Td)(t0 ip1 data2:AV)(K:KvP)(s:Hq):Prop:=
 newK 48 [(.int .u64 0),(.int .u64 0),(.int .i64 0),(.int .i64 0),(.int .u64 0),(.int .u32 0),(.int .u64 0),(.int .u32 0),(.int .u32 0),(.int .u32 0),(.int .i64 0),(.int .i64 0),(.int .i64 0),(.int .i64 0),(.int .u64 0)] (λB0 S1=>wC TP X 87 [t0,ip1,ip1,data2] (λW2 S3=>oK (qAw S3 15 (.ptr B0 0) W2) λS4=>oK (rdN S4 15 (.ptr B0 0)) λt6_5=>K (.agg t6_5) S4) S1) s
theorem qI3{t0 ip1 data2:AV}{K:KvP}{s:Hq}(h:qKR XX t0 ip1 data2 K s):wC TP XX 57 [t0,ip1,data2] K s:=wOK qAj nA0 rfl Tryz.func57 h
def qCj(X:Td)(t0:AV)(K:KvP)(s:Hq):Prop:=
 oK (negB false (eqV 5 true t0 .nilslc)) λW0=>qAL W0
 (K .nilslc s)
 (oK (qAl (repl 0 [(.int .i64 0),(.int .i64 0),(.bool false)]) []) λC1=>qAa C1=true/\newK 77 C1 (λB2 S3=>appK 77 3 (.slc B2 0 0 (some 0) 3) t0 (λW4 S5=>K W4 S5) S3) s)
theorem qDs{t0:AV}{K:KvP}{s:Hq}(h:qCj XX t0 K s):wC TP XX 58 [t0] K s:=wOK qAj nA0 rfl Tryz.func58 h
def qB1(X:Td)(t0 t1 t7 t8:AV)(I0:IvP)(m0:Nat)(K:KvP)(s:Hq):Prop:=
 oK (qAG .lss t8 t7) λW2=>qAL W2
 (oK (qAY 3 t0 t8) λW3=>oK (rdN s 3 W3) λW4=>funK TP X t1 [(.agg W4)] (λW5 S6=>qAL W5
 (K t8 S6)
 (oK (qAG .add t8 (.int .i64 1)) λW7=>∃m',m'<m0/\I0 [W7] S6 m')) s)
 (K (.int .i64 (-1)) s)
def qCH(X:Td)(t0 t1:AV)(K:KvP)(s:Hq):Prop:=
 oK (qAQ t0) λW0=>∃I0:IvP,(∃m,I0 [(.int .i64 0)] s m)/\∀(f:Env) (s:Hq) (m0:Nat),I0 [f 8] s m0->
 qB1 X t0 t1 (.int .i64 W0) (f 8) I0 m0 K s
def qDH:Nat->List Nat:=λk=>cond (Nat.beq k 4) [8] ([])
theorem qDK{t0 t1:AV}{K:KvP}{s:Hq}(h:qCH XX t0 t1 K s):wC TP XX 59 [t0,t1] K s:=wOK qAj qDH rfl Tryz.func59 h
def qCc(X:Td)(t9 t13:AV)(K:KvP)(s:Hq):Prop:=
 oK (qAR t9 t13 (.bool false)) λW6=>K W6 s
def qKY(X:Td)(e0 t1 t2:AV)(K:KvP)(s:Hq):Prop:=
 boxK 77 e0 (λB0 S1=>oK (qAC 0 B0) λW2=>oK (rd1 S1 W2) λW3=>oK (rd1 S1 t1) λW4=>oK (negB false (eqV 0 false W3 W4)) λW5=>qAL W5
 (oK (qAC 1 B0) λW7=>oK (rd1 S1 W7) λW8=>oK (rd1 S1 t2) λW9=>oK (negB false (eqV 0 false W8 W9)) λW10=>qCc X W5 W10 K S1)
 (qCc X W5 .undef K S1)) s
theorem qI4{e0 t1 t2:AV}{K:KvP}{s:Hq}(h:qKY XX e0 t1 t2 K s):wC TP XX 60 [e0,t1,t2] K s:=wOK qAj nA0 rfl Tryz.func60 h
def qH2(X:Td)(t0 host1 x2:AV)(K:KvP)(s:Hq):Prop:=
 boxK 48 x2 (λB0 S1=>wC TP X 40 [t0,host1] (λW2 S3=>oK (qAd W2 0) λW4=>oK (qAd W2 1) λW5=>oK (qAr .not W5) λW6=>qAL W6
 (K (.tup [(.int .i64 0),(.bool false)]) S3)
 (wC TP X 63 [t0,W4] (λW7 S8=>oK (qAQ W7) λW9=>oK (negB false (eqV 0 true (.int .i64 W9) (.int .i64 0))) λW11=>qAL W11
 (K (.tup [(.int .i64 0),(.bool false)]) S8)
 (oK (rdN S8 15 B0) λW12=>wC TP X 88 [(.agg W12)] (λW13 S14=>oK (qAQ W7) λW15=>oK (qAG .rem W13 (.int .i64 W15)) λW17=>oK (qAY 1 W7 W17) λW18=>oK (rd1 S14 W18) λW19=>K (.tup [W19,(.bool true)]) S14) S8)) S3)) S1) s
theorem qGb{t0 host1 x2:AV}{K:KvP}{s:Hq}(h:qH2 XX t0 host1 x2 K s):wC TP XX 61 [t0,host1,x2] K s:=wOK qAj nA0 rfl Tryz.func61 h
def qBT(X:Td)(heard2 x6 x8 ip9 t21 t26:AV)(K:KvP)(s:Hq):Prop:=
 oK (qAR t21 (.bool true) t26) λW12=>qAL W12
 (K (.bool false) s)
 (wC TP X 90 [heard2,(.fn (.func 91) [] [x8,ip9,x6])] (λW13 S14=>K W13 S14) s)
def qIY(X:Td)(t0 area1 heard2 host3 ip4:AV)(K:KvP)(s:Hq):Prop:=
 boxK 34 area1 (λB0 S1=>boxK 3 host3 (λB2 S3=>boxK 4 ip4 (λB4 S5=>oK (rd1 S5 B2) λW6=>wC TP X 40 [t0,W6] (λW7 S8=>oK (qAd W7 0) λW9=>oK (qAd W7 1) λW10=>oK (qAr .not W10) λW11=>qAL W11
 (qBT X heard2 B0 B2 B4 W11 .undef K S8)
 (oK (rd1 S8 B0) λW15=>wC TP X 89 [t0,W9,W15] (λW16 S17=>oK (qAr .not W16) λW18=>qBT X heard2 B0 B2 B4 W11 W18 K S17) S8)) S5) S3) S1) s
theorem qGe{t0 area1 heard2 host3 ip4:AV}{K:KvP}{s:Hq}(h:qIY XX t0 area1 heard2 host3 ip4 K s):wC TP XX 62 [t0,area1,heard2,host3,ip4] K s:=wOK qAj nA0 rfl Tryz.func62 h
end Go.AM
namespace Go.AM
open Go Go.Proofs
set_option maxRecDepth 100000
def qBj(X:Td)(result5 t30:AV)(I1:IvP)(m1:Nat)(K:KvP)(s:Hq):Prop:=
 oK (qAG .add t30 (.int .i64 1)) λW21=>∃m',m'<m1/\I1 [result5,W21] s m'
def qBm(X:Td)(result5 leaf7 t30 t41 t45:AV)(I1:IvP)(m1:Nat)(K:KvP)(s:Hq):Prop:=
 oK (qAR t41 t45 (.bool false)) λW20=>qAL W20
 (oK (qAl (repl 1 [(.int .i64 0)]) [(0,1,leaf7)]) λC22=>qAa C22=true/\newK 3 C22 (λB23 S24=>appK 3 1 result5 (.slc B23 0 1 (some 1) 1) (λW25 S26=>qBj X W25 t30 I1 m1 K S26) S24) s)
 (qBj X result5 t30 I1 m1 K s)
def qDR(X:Td)(t0 segment1 result5 t28 t29 t30:AV)(I1:IvP)(m1:Nat)(K:KvP)(s:Hq):Prop:=
 oK (qAG .lss t30 t29) λW11=>qAL W11
 (oK (qAY 1 t28 t30) λW12=>oK (rd1 s W12) λW13=>oK (qAH t0) λW14=>oK (qAC 19 W14) λW15=>oK (qAC 0 W15) λW16=>oK (rd1 s W16) λW17=>wC TP X 73 [W17,W13] (λW18 S19=>qAL W18
 (wC TP X 92 [t0,W13,segment1] (λW27 S28=>qBm X result5 W13 t30 W18 W27 I1 m1 K S28) S19)
 (qBm X result5 W13 t30 W18 .undef I1 m1 K S19)) s)
 (K result5 s)
def qBN(X:Td)(t0 segment1 t10 t18:AV)(K:KvP)(s:Hq):Prop:=
 oK (qAR t10 (.bool true) t18) λW1=>qAL W1
 (K .nilslc s)
 (oK (qAH t0) λW2=>oK (qAC 0 W2) λW3=>oK (qAC 5 W3) λW4=>oK (rd1 s W4) λW5=>oK (qAY 2 W5 segment1) λW6=>oK (qAC 0 W6) λW7=>oK (rd1 s W7) λW8=>oK (qAQ W8) λW9=>∃I1:IvP,(∃m,I1 [.nilslc,(.int .i64 0)] s m)/\∀(f:Env) (s:Hq) (m1:Nat),I1 [f 5,f 30] s m1->
 qDR X t0 segment1 (f 5) W8 (.int .i64 W9) (f 30) I1 m1 K s)
def qD0(X:Td)(t0 segment1:AV)(K:KvP)(s:Hq):Prop:=
 oK (qAG .lss segment1 (.int .i64 0)) λW0=>qAL W0
 (qBN X t0 segment1 W0 .undef K s)
 (oK (qAH t0) λW29=>oK (qAC 0 W29) λW30=>oK (qAC 5 W30) λW31=>oK (rd1 s W31) λW32=>oK (qAQ W32) λW33=>oK (qAG .geq segment1 (.int .i64 W33)) λW35=>qBN X t0 segment1 W0 W35 K s)
def qFg:Nat->List Nat:=λk=>cond (Nat.beq k 10) [5,30] ([])
theorem qFz{t0 segment1:AV}{K:KvP}{s:Hq}(h:qD0 XX t0 segment1 K s):wC TP XX 63 [t0,segment1] K s:=wOK qAj qFg rfl Tryz.func63 h
def qB2(X:Td)(t31 t39:AV)(K:KvP)(s:Hq):Prop:=
 oK (qAR t31 t39 (.bool false)) λW16=>K W16 s
def qBy(X:Td)(t0 l5 t21 t29:AV)(K:KvP)(s:Hq):Prop:=
 oK (qAR t21 t29 (.bool false)) λW15=>qAL W15
 (oK (qAH t0) λW17=>oK (qAC 19 W17) λW18=>oK (qAC 0 W18) λW19=>oK (rd1 s W19) λW20=>oK (qAC 1 l5) λW21=>oK (rd1 s W21) λW22=>wC TP X 73 [W20,W22] (λW23 S24=>qB2 X W15 W23 K S24) s)
 (qB2 X W15 .undef K s)
def qIM(X:Td)(t0 link1:AV)(K:KvP)(s:Hq):Prop:=
 oK (qAH t0) λW0=>oK (qAC 0 W0) λW1=>oK (qAC 2 W1) λW2=>oK (rd1 s W2) λW3=>oK (qAY 3 W3 link1) λW4=>oK (rdN s 3 W4) λW5=>newK 91 [(.int .i64 0),(.int .i64 0),(.int .i64 0)] (λB6 S7=>oK (qAw S7 3 (.ptr B6 0) (.agg W5)) λS8=>oK (qAH t0) λW9=>oK (qAC 19 W9) λW10=>oK (qAC 1 W10) λW11=>oK (rd1 S8 W11) λW12=>wC TP X 73 [W12,link1] (λW13 S14=>qAL W13
 (oK (qAH t0) λW25=>oK (qAC 19 W25) λW26=>oK (qAC 0 W26) λW27=>oK (rd1 S14 W27) λW28=>oK (qAC 0 (.ptr B6 0)) λW29=>oK (rd1 S14 W29) λW30=>wC TP X 73 [W28,W30] (λW31 S32=>qBy X t0 (.ptr B6 0) W13 W31 K S32) S14)
 (qBy X t0 (.ptr B6 0) W13 .undef K S14)) S8) s
theorem qGX{t0 link1:AV}{K:KvP}{s:Hq}(h:qIM XX t0 link1 K s):wC TP XX 67 [t0,link1] K s:=wOK qAj nA0 rfl Tryz.func67 h
def qC3(X:Td)(t1 t36 t40 t44:AV)(K:KvP)(s:Hq):Prop:=
 oK (qAR t40 t44 (.bool false)) λW35=>oK (qAR t36 (.bool true) W35) λW36=>qAL W36
 (K (.int .i64 3) s)
 (oK (qAC 2 t1) λW37=>oK (rd1 s W37) λW38=>oK (negB false (eqV 0 true W38 (.int .i64 1))) λW39=>qAL W39
 (oK (qAC 3 t1) λW40=>oK (rdN s 5 W40) λW41=>wC TP X 99 [(.agg W41)] (λW42 S43=>K W42 S43) s)
 (oK (negB false (eqV 0 true W38 (.int .i64 2))) λW44=>qAL W44
 (oK (qAC 8 t1) λW45=>oK (rdN s 6 W45) λW46=>wC TP X 100 [(.agg W46)] (λW47 S48=>K W47 S48) s)
 (K (.int .i64 0) s)))
def qDA(X:Td)(t1 t30 t34:AV)(K:KvP)(s:Hq):Prop:=
 oK (qAR t30 t34 (.bool false)) λW18=>qAL W18
 (oK (qAR W18 (.bool true) .undef) λW19=>qAL W19
 (K (.int .i64 3) s)
 (oK (qAC 2 t1) λW20=>oK (rd1 s W20) λW21=>oK (negB false (eqV 0 true W21 (.int .i64 1))) λW22=>qAL W22
 (oK (qAC 3 t1) λW23=>oK (rdN s 5 W23) λW24=>wC TP X 99 [(.agg W24)] (λW25 S26=>K W25 S26) s)
 (oK (negB false (eqV 0 true W21 (.int .i64 2))) λW27=>qAL W27
 (oK (qAC 8 t1) λW28=>oK (rdN s 6 W28) λW29=>wC TP X 100 [(.agg W29)] (λW30 S31=>K W30 S31) s)
 (K (.int .i64 0) s))))
 (oK (qAC 2 t1) λW32=>oK (rd1 s W32) λW33=>oK (negB true (eqV 0 true W33 (.int .i64 2))) λW34=>qAL W34
 (oK (qAC 8 t1) λW49=>oK (rdN s 6 W49) λW50=>oK (qAl [(.int .u32 0),(.int .u32 0),(.int .i64 0),(.int .i64 0),(.int .i64 0),(.int .i64 0)] []) λC51=>oK (negB true (qGg TP 46 (.agg W50) (.agg C51))) λW52=>qC3 X t1 W18 W34 W52 K s)
 (qC3 X t1 W18 W34 .undef K s))
def qCY(X:Td)(t1 t22 t25:AV)(K:KvP)(s:Hq):Prop:=
 oK (qAR t22 t25 (.bool false)) λW14=>qAL W14
 (K (.int .i64 6) s)
 (oK (qAC 2 t1) λW15=>oK (rd1 s W15) λW16=>oK (negB true (eqV 0 true W16 (.int .i64 1))) λW17=>qAL W17
 (oK (qAC 3 t1) λW53=>oK (rdN s 5 W53) λW54=>oK (qAl [(.int .i64 0),(.int .u64 0),(.int .u32 0),(.int .u64 0),(.int .u32 0)] []) λC55=>oK (negB true (qGg TP 44 (.agg W54) (.agg C55))) λW56=>qDA X t1 W17 W56 K s)
 (qDA X t1 W17 .undef K s))
def qCR(X:Td)(t1 t17 t20:AV)(K:KvP)(s:Hq):Prop:=
 oK (qAR t17 t20 (.bool false)) λW13=>qAL W13
 (oK (qAC 2 t1) λW57=>oK (rd1 s W57) λW58=>oK (negB true (eqV 0 true W58 (.int .i64 2))) λW59=>qCY X t1 W13 W59 K s)
 (qCY X t1 W13 .undef K s)
def qCU(X:Td)(t1 t6 t9:AV)(K:KvP)(s:Hq):Prop:=
 oK (qAR t6 (.bool true) t9) λW5=>qAL W5
 (K (.int .i64 2) s)
 (oK (qAC 0 t1) λW6=>oK (rd1 s W6) λW7=>wC TP X 21 [W7] (λW8 S9=>qAL W8
 (K (.int .i64 3) S9)
 (oK (qAC 2 t1) λW10=>oK (rd1 S9 W10) λW11=>oK (negB true (eqV 0 true W11 (.int .i64 0))) λW12=>qAL W12
 (oK (qAC 2 t1) λW60=>oK (rd1 S9 W60) λW61=>oK (negB true (eqV 0 true W61 (.int .i64 1))) λW62=>qCR X t1 W12 W62 K S9)
 (qCR X t1 W12 .undef K S9))) s)
def qLf(X:Td)(t0:AV)(K:KvP)(s:Hq):Prop:=
 boxK 48 t0 (λB0 S1=>oK (qAC 0 B0) λW2=>oK (rd1 S1 W2) λW3=>oK (qAG .gtr W3 (.int .u64 281474976710655)) λW4=>qAL W4
 (qCU X B0 W4 .undef K S1)
 (oK (qAC 1 B0) λW63=>oK (rd1 S1 W63) λW64=>oK (qAG .gtr W64 (.int .u64 281474976710655)) λW65=>qCU X B0 W4 W65 K S1)) s
theorem qJ2{t0:AV}{K:KvP}{s:Hq}(h:qLf XX t0 K s):wC TP XX 71 [t0] K s:=wOK qAj nA0 rfl Tryz.func71 h
def qDx(X:Td)(t13 t17:AV)(K:KvP)(s:Hq):Prop:=
 oK (qAR t13 t17 (.bool false)) λW2=>K W2 s
def qDE(X:Td)(l0 i1 t7 t11:AV)(K:KvP)(s:Hq):Prop:=
 oK (qAR t7 t11 (.bool false)) λW1=>qAL W1
 (oK (qAY 1 l0 i1) λW3=>oK (rd1 s W3) λW4=>qDx X W1 W4 K s)
 (qDx X W1 .undef K s)
def qKq(X:Td)(l0 i1:AV)(K:KvP)(s:Hq):Prop:=
 oK (qAG .geq i1 (.int .i64 0)) λW0=>qAL W0
 (oK (qAQ l0) λW5=>oK (qAG .lss i1 (.int .i64 W5)) λW7=>qDE X l0 i1 W0 W7 K s)
 (qDE X l0 i1 W0 .undef K s)
theorem qLa{l0 i1:AV}{K:KvP}{s:Hq}(h:qKq XX l0 i1 K s):wC TP XX 73 [l0,i1] K s:=wOK qAj nA0 rfl Tryz.func73 h
def qBu(X:Td)(x6 t28:AV)(I1:IvP)(m1:Nat)(I0:IvP)(m0:Nat)(K:KvP)(s:Hq):Prop:=
 oK (qAG .add t28 (.int .i64 1)) λW20=>∃m',m'<m1/\I1 [x6,W20] s m'
def qDV(X:Td)(seen5 x6 i7 t26 t27 t28:AV)(I1:IvP)(m1:Nat)(I0:IvP)(m0:Nat)(K:KvP)(s:Hq):Prop:=
 oK (qAG .lss t28 t27) λW15=>qAL W15
 (oK (qAY 1 t26 t28) λW16=>oK (rd1 s W16) λW17=>oK (getM s seen5 W17) λr_18=>oK (qAr .not (retM (.bool false) false r_18)) λW19=>qAL W19
 (oK (putM s seen5 W17 (.bool true)) λS21=>oK (qAl (repl 1 [(.int .i64 0)]) [(0,1,W17)]) λC22=>qAa C22=true/\newK 3 C22 (λB23 S24=>appK 3 1 x6 (.slc B23 0 1 (some 1) 1) (λW25 S26=>qBu X W25 t28 I1 m1 I0 m0 K S26) S24) S21)
 (qBu X x6 t28 I1 m1 I0 m0 K s))
 (oK (qAG .add i7 (.int .i64 1)) λW27=>∃m',m'<m0/\I0 [x6,W27] s m')
def qDa(X:Td)(next1 seen5 x6 i7:AV)(I0:IvP)(m0:Nat)(K:KvP)(s:Hq):Prop:=
 oK (qAQ x6) λW6=>oK (qAG .lss i7 (.int .i64 W6)) λW8=>qAL W8
 (oK (qAY 1 x6 i7) λW9=>oK (rd1 s W9) λW10=>funK TP X next1 [W10] (λW11 S12=>oK (qAQ W11) λW13=>∃I1:IvP,(∃m,I1 [x6,(.int .i64 0)] S12 m)/\∀(f:Env) (s:Hq) (m1:Nat),I1 [f 6,f 28] s m1->
 qDV X seen5 (f 6) i7 W11 (.int .i64 W13) (f 28) I1 m1 I0 m0 K s) s)
 (K x6 s)
def qHq(X:Td)(start0 next1:AV)(K:KvP)(s:Hq):Prop:=
 mapK (λW0 S1=>oK (putM S1 W0 start0 (.bool true)) λS2=>oK (qAl (repl 1 [(.int .i64 0)]) [(0,1,start0)]) λC3=>qAa C3=true/\newK 3 C3 (λB4 S5=>∃I0:IvP,(∃m,I0 [(.slc B4 0 1 (some 1) 1),(.int .i64 0)] S5 m)/\∀(f:Env) (s:Hq) (m0:Nat),I0 [f 6,f 7] s m0->
 qDa X next1 W0 (f 6) (f 7) I0 m0 K s) S2) s
def qFy:Nat->List Nat:=λk=>cond (Nat.beq k 8) [6,7] (cond (Nat.beq k 14) [6,28] ([]))
theorem qGO{start0 next1:AV}{K:KvP}{s:Hq}(h:qHq XX start0 next1 K s):wC TP XX 74 [start0,next1] K s:=wOK qAj qFy rfl Tryz.func74 h
def qAi(X:Td)(result5 t14:AV)(I0:IvP)(m0:Nat)(K:KvP)(s:Hq):Prop:=
 oK (qAG .add t14 (.int .i64 1)) λW15=>∃m',m'<m0/\I0 [result5,W15] s m'
def qCw(X:Td)(t0 node1 result5 t12 t13 t14:AV)(I0:IvP)(m0:Nat)(K:KvP)(s:Hq):Prop:=
 oK (qAG .lss t14 t13) λW6=>qAL W6
 (oK (qAY 3 t12 t14) λW7=>oK (rdN s 3 W7) λW8=>newK 91 [(.int .i64 0),(.int .i64 0),(.int .i64 0)] (λB9 S10=>oK (qAw S10 3 (.ptr B9 0) (.agg W8)) λS11=>wC TP X 67 [t0,t14] (λW12 S13=>oK (qAr .not W12) λW14=>qAL W14
 (qAi X result5 t14 I0 m0 K S13)
 (oK (qAC 0 (.ptr B9 0)) λW16=>oK (rd1 S13 W16) λW17=>oK (negB false (eqV 0 false W17 node1)) λW18=>qAL W18
 (oK (qAC 1 (.ptr B9 0)) λW19=>oK (rd1 S13 W19) λW20=>oK (qAl (repl 1 [(.int .i64 0)]) [(0,1,W20)]) λC21=>qAa C21=true/\newK 3 C21 (λB22 S23=>appK 3 1 result5 (.slc B22 0 1 (some 1) 1) (λW24 S25=>qAi X W24 t14 I0 m0 K S25) S23) S13)
 (oK (qAC 1 (.ptr B9 0)) λW26=>oK (rd1 S13 W26) λW27=>oK (negB false (eqV 0 false W27 node1)) λW28=>qAL W28
 (oK (qAC 0 (.ptr B9 0)) λW29=>oK (rd1 S13 W29) λW30=>oK (qAl (repl 1 [(.int .i64 0)]) [(0,1,W30)]) λC31=>qAa C31=true/\newK 3 C31 (λB32 S33=>appK 3 1 result5 (.slc B32 0 1 (some 1) 1) (λW34 S35=>qAi X W34 t14 I0 m0 K S35) S33) S13)
 (qAi X result5 t14 I0 m0 K S13)))) S11) s)
 (K result5 s)
def qFx(X:Td)(t0 node1:AV)(K:KvP)(s:Hq):Prop:=
 oK (qAH t0) λW0=>oK (qAC 0 W0) λW1=>oK (qAC 2 W1) λW2=>oK (rd1 s W2) λW3=>oK (qAQ W3) λW4=>∃I0:IvP,(∃m,I0 [.nilslc,(.int .i64 0)] s m)/\∀(f:Env) (s:Hq) (m0:Nat),I0 [f 5,f 14] s m0->
 qCw X t0 node1 (f 5) W3 (.int .i64 W4) (f 14) I0 m0 K s
def qEU:Nat->List Nat:=λk=>cond (Nat.beq k 6) [5,14] ([])
theorem qEj{t0 node1:AV}{K:KvP}{s:Hq}(h:qFx XX t0 node1 K s):wC TP XX 75 [t0,node1] K s:=wOK qAj qEU rfl Tryz.func75 h
def qBY(X:Td)(i5 j6:AV)(I0:IvP)(m0:Nat)(K:KvP)(s:Hq):Prop:=
 oK (qAG .add j6 (.int .i64 1)) λW12=>∃m',m'<m0/\I0 [i5,W12] s m'
def qDD(X:Td)(t0 del1 i5 j6:AV)(I0:IvP)(m0:Nat)(K:KvP)(s:Hq):Prop:=
 oK (qAQ t0) λW4=>oK (qAG .lss j6 (.int .i64 W4)) λW6=>qAL W6
 (oK (qAY 1 t0 j6) λW7=>oK (rd1 s W7) λW8=>funK TP X del1 [W8] (λW9 S10=>oK (qAr .not W9) λW11=>qAL W11
 (oK (qAY 1 t0 i5) λW13=>oK (wr1 S10 W13 W8) λS14=>oK (qAG .add i5 (.int .i64 1)) λW15=>qBY X W15 j6 I0 m0 K S14)
 (qBY X i5 j6 I0 m0 K S10)) s)
 (oK (qD6 1 t0 (some i5) none none) λW16=>qR9 [(.int .i64 0)] 1 W16 (λW17 S18=>oK (qD6 1 t0 none (some i5) none) λW19=>K W19 S18) s)
def qGa(X:Td)(t0 del1:AV)(K:KvP)(s:Hq):Prop:=
 wC TP X 102 [t0,del1] (λW0 S1=>oK (negB false (eqV 0 true W0 (.int .i64 (-1)))) λW2=>qAL W2
 (K t0 S1)
 (oK (qAG .add W0 (.int .i64 1)) λW3=>∃I0:IvP,(∃m,I0 [W0,W3] S1 m)/\∀(f:Env) (s:Hq) (m0:Nat),I0 [f 5,f 6] s m0->
 qDD X t0 del1 (f 5) (f 6) I0 m0 K s)) s
def qE2:Nat->List Nat:=λk=>cond (Nat.beq k 10) [5,6] ([])
theorem qFQ{t0 del1:AV}{K:KvP}{s:Hq}(h:qGa XX t0 del1 K s):wC TP XX 76 [t0,del1] K s:=wOK qAj qE2 rfl Tryz.func76 h
def qHs(X:Td)(n0 t1:AV)(K:KvP)(s:Hq):Prop:=
 oK (rd1 s t1) λW0=>oK (qAH W0) λW1=>oK (qAC 0 W1) λW2=>oK (qAC 0 W2) λW3=>oK (rd1 s W3) λW4=>oK (qAG .geq n0 W4) λW5=>K W5 s
theorem qGP{n0 t1:AV}{K:KvP}{s:Hq}(h:qHs XX n0 t1 K s):wC TP XX 77 [n0,t1] K s:=wOK qAj nA0 rfl Tryz.func77 h
def qHo(X:Td)(a0:AV)(K:KvP)(s:Hq):Prop:=
 newK 69 [(.int .i64 0),(.int .u32 0),(.int .u32 0),(.int .u32 0),(.int .i64 0),(.int .u32 0)] (λB0 S1=>oK (qAH a0) λW2=>oK (qAC 0 W2) λW3=>oK (rd1 S1 W3) λW4=>oK (qAH W4) λW5=>oK (qAC 0 W5) λW6=>oK (qAC 4 W6) λW7=>oK (rd1 S1 W7) λW8=>oK (qAH a0) λW9=>oK (qAC 18 W9) λW10=>oK (qAC 2 W10) λW11=>oK (rd1 S1 W11) λW12=>oK (qAY 6 W8 W12) λW13=>oK (rdN S1 6 W13) λW14=>oK (qAw S1 6 (.ptr B0 0) (.agg W14)) λS15=>oK (rdN S15 6 (.ptr B0 0)) λt2_16=>K (.agg t2_16) S15) s
theorem qGH{a0:AV}{K:KvP}{s:Hq}(h:qHo XX a0 K s):wC TP XX 79 [a0] K s:=wOK qAj nA0 rfl Tryz.func79 h
def qBe(X:Td)(t9 t16:AV)(K:KvP)(s:Hq):Prop:=
 oK (qAR t9 t16 (.bool false)) λW5=>K W5 s
def qHI(X:Td)(a0:AV)(K:KvP)(s:Hq):Prop:=
 oK (qAH a0) λW0=>oK (qAC 3 W0) λW1=>oK (qAC 2 W1) λW2=>oK (rd1 s W2) λW3=>oK (negB false (eqV 0 true W3 (.int .i64 1))) λW4=>qAL W4
 (oK (qAH a0) λW6=>oK (qAC 3 W6) λW7=>oK (qAC 3 W7) λW8=>oK (qAC 0 W8) λW9=>oK (rd1 s W9) λW10=>oK (negB false (eqV 0 true W10 (.int .i64 1))) λW11=>qBe X W4 W11 K s)
 (qBe X W4 .undef K s)
theorem qFp{a0:AV}{K:KvP}{s:Hq}(h:qHI XX a0 K s):wC TP XX 80 [a0] K s:=wOK qAj nA0 rfl Tryz.func80 h
def qHj(X:Td)(a0 t1:AV)(K:KvP)(s:Hq):Prop:=
 oK (qAH a0) λW0=>oK (qAC 3 W0) λW1=>oK (qAC 3 W1) λW2=>oK (rdN s 5 W2) λW3=>newK 44 [(.int .i64 0),(.int .u64 0),(.int .u32 0),(.int .u64 0),(.int .u32 0)] (λB4 S5=>oK (qAw S5 5 (.ptr B4 0) (.agg W3)) λS6=>oK (qAH a0) λW7=>oK (qAC 22 W7) λW8=>oK (rd1 S6 W8) λW9=>oK (qAH a0) λW10=>oK (qAC 18 W10) λW11=>oK (qAC 2 W11) λW12=>oK (rd1 S6 W12) λW13=>oK (qAC 1 (.ptr B4 0)) λW14=>oK (rd1 S6 W14) λW15=>oK (qAC 4 (.ptr B4 0)) λW16=>oK (rd1 S6 W16) λW17=>oK (qAC 1 (.ptr B4 0)) λW18=>oK (rd1 S6 W18) λW19=>oK (qAC 2 (.ptr B4 0)) λW20=>oK (rd1 S6 W20) λW21=>oK (qAl [(.int .i64 0),(.int .u64 0),(.int .u32 0),(.int .u64 0),(.int .u32 0)] [(0,1,(.int .i64 2)),(1,1,t1),(2,1,W17),(3,1,W19),(4,1,W21)]) λC22=>oK (qAl [(.int .u64 0),(.int .u64 0),(.int .i64 0),(.int .i64 0),(.int .u64 0),(.int .u32 0),(.int .u64 0),(.int .u32 0),(.int .u32 0),(.int .u32 0),(.int .i64 0),(.int .i64 0),(.int .i64 0),(.int .i64 0),(.int .u64 0)] [(0,1,t1),(1,1,W15),(2,1,(.int .i64 1)),(3,5,(.agg C22))]) λC23=>wC TP X 85 [W9,W13,(.agg C23)] (λW24 S25=>K W24 S25) S6) s
theorem qGF{a0 t1:AV}{K:KvP}{s:Hq}(h:qHj XX a0 t1 K s):wC TP XX 81 [a0,t1] K s:=wOK qAj nA0 rfl Tryz.func81 h
def qA5(X:Td)(t18 t31 t35:AV)(I0:IvP)(m0:Nat)(K:KvP)(s:Hq):Prop:=
 oK (qAR t31 t35 (.bool false)) λW19=>qAL W19
 (K (.bool true) s)
 (oK (qAG .add t18 (.int .i64 1)) λW20=>∃m',m'<m0/\I0 [W20] s m')
def qA4(X:Td)(ip2 d8 t18 t26 t29:AV)(I0:IvP)(m0:Nat)(K:KvP)(s:Hq):Prop:=
 oK (qAR t26 t29 (.bool false)) λW18=>qAL W18
 (oK (qAC 5 d8) λW21=>oK (rd1 s W21) λW22=>oK (negB false (eqV 0 false W22 ip2)) λW23=>qA5 X t18 W18 W23 I0 m0 K s)
 (qA5 X t18 W18 .undef I0 m0 K s)
def qC6(X:Td)(tenant1 ip2 t16 t17 t18:AV)(I0:IvP)(m0:Nat)(K:KvP)(s:Hq):Prop:=
 oK (qAG .lss t18 t17) λW9=>qAL W9
 (oK (qAY 6 t16 t18) λW10=>oK (rdN s 6 W10) λW11=>newK 69 [(.int .i64 0),(.int .u32 0),(.int .u32 0),(.int .u32 0),(.int .i64 0),(.int .u32 0)] (λB12 S13=>oK (qAw S13 6 (.ptr B12 0) (.agg W11)) λS14=>oK (qAC 0 (.ptr B12 0)) λW15=>oK (rd1 S14 W15) λW16=>oK (negB false (eqV 0 false W16 tenant1)) λW17=>qAL W17
 (oK (qAC 5 (.ptr B12 0)) λW24=>oK (rd1 S14 W24) λW25=>oK (negB true (eqV 0 true W25 (.int .u32 0))) λW26=>qA4 X ip2 (.ptr B12 0) t18 W17 W26 I0 m0 K S14)
 (qA4 X ip2 (.ptr B12 0) t18 W17 .undef I0 m0 K S14)) s)
 (K (.bool false) s)
def qGQ(X:Td)(a0 tenant1 ip2:AV)(K:KvP)(s:Hq):Prop:=
 oK (qAH a0) λW0=>oK (qAC 0 W0) λW1=>oK (rd1 s W1) λW2=>oK (qAH W2) λW3=>oK (qAC 0 W3) λW4=>oK (qAC 4 W4) λW5=>oK (rd1 s W5) λW6=>oK (qAQ W6) λW7=>∃I0:IvP,(∃m,I0 [(.int .i64 0)] s m)/\∀(f:Env) (s:Hq) (m0:Nat),I0 [f 18] s m0->
 qC6 X tenant1 ip2 W6 (.int .i64 W7) (f 18) I0 m0 K s
def qEd:Nat->List Nat:=λk=>cond (Nat.beq k 4) [18] ([])
theorem qFA{a0 tenant1 ip2:AV}{K:KvP}{s:Hq}(h:qGQ XX a0 tenant1 ip2 K s):wC TP XX 82 [a0,tenant1,ip2] K s:=wOK qAj qEd rfl Tryz.func82 h
def qAv(X:Td)(i8 t20 t57 t71:AV)(I0:IvP)(m0:Nat)(K:KvP)(s:Hq):Prop:=
 oK (qAR t57 t71 (.bool false)) λW35=>qAL W35
 (K (.tup [i8,(.bool true)]) s)
 (oK (qAG .add t20 (.int .i64 1)) λW36=>∃m',m'<m0/\I0 [W36] s m')
def qA1(X:Td)(a0 i8 t20 t52 t55:AV)(I0:IvP)(m0:Nat)(K:KvP)(s:Hq):Prop:=
 oK (qAR t52 t55 (.bool false)) λW34=>qAL W34
 (oK (qAH a0) λW37=>oK (qAC 0 W37) λW38=>oK (rd1 s W38) λW39=>oK (qAH a0) λW40=>oK (qAC 2 W40) λW41=>oK (rd1 s W41) λW42=>oK (qAH a0) λW43=>oK (qAC 1 W43) λW44=>oK (rd1 s W44) λW45=>wC TP X 62 [W39,W42,W45,i8,(.bool true)] (λW46 S47=>qAv X i8 t20 W34 W46 I0 m0 K S47) s)
 (qAv X i8 t20 W34 .undef I0 m0 K s)
def qAs(X:Td)(a0 i8 d10 t20 t46 t50:AV)(I0:IvP)(m0:Nat)(K:KvP)(s:Hq):Prop:=
 oK (qAR t46 t50 (.bool false)) λW33=>qAL W33
 (oK (qAC 5 d10) λW48=>oK (rd1 s W48) λW49=>oK (negB true (eqV 0 true W49 (.int .u32 0))) λW50=>qA1 X a0 i8 t20 W33 W50 I0 m0 K s)
 (qA1 X a0 i8 t20 W33 .undef I0 m0 K s)
def qAz(X:Td)(a0 tenant1 i8 d10 t20 t40 t44:AV)(I0:IvP)(m0:Nat)(K:KvP)(s:Hq):Prop:=
 oK (qAR t40 t44 (.bool false)) λW32=>qAL W32
 (oK (qAC 0 d10) λW51=>oK (rd1 s W51) λW52=>oK (negB false (eqV 0 false W52 tenant1)) λW53=>qAs X a0 i8 d10 t20 W32 W53 I0 m0 K s)
 (qAs X a0 i8 d10 t20 W32 .undef I0 m0 K s)
def qCl(X:Td)(a0 tenant1 ip2 t18 t19 t20:AV)(I0:IvP)(m0:Nat)(K:KvP)(s:Hq):Prop:=
 oK (qAG .lss t20 t19) λW9=>qAL W9
 (oK (qAY 4 t18 t20) λW10=>oK (rdN s 4 W10) λW11=>newK 61 [(.int .u64 0),(.int .u32 0),(.int .i64 0),(.int .i64 0)] (λB12 S13=>oK (qAw S13 4 (.ptr B12 0) (.agg W11)) λS14=>oK (qAH a0) λW15=>oK (qAC 0 W15) λW16=>oK (rd1 S14 W16) λW17=>oK (qAH W17) λW18=>oK (qAC 0 W18) λW19=>oK (qAC 4 W19) λW20=>oK (rd1 S14 W20) λW21=>oK (qAC 2 (.ptr B12 0)) λW22=>oK (rd1 S14 W22) λW23=>oK (qAY 6 W21 W23) λW24=>oK (rdN S14 6 W24) λW25=>newK 69 [(.int .i64 0),(.int .u32 0),(.int .u32 0),(.int .u32 0),(.int .i64 0),(.int .u32 0)] (λB26 S27=>(∀b,S14 b≠none->S14 b=none->S27 b=none)->
 oK (qAw (add S14 S27) 6 (.ptr B26 0) (.agg W25)) λS28=>oK (qAC 1 (.ptr B12 0)) λW29=>oK (rd1 S28 W29) λW30=>oK (negB true (eqV 0 true W30 (.int .u32 0))) λW31=>qAL W31
 (oK (qAC 1 (.ptr B12 0)) λW54=>oK (rd1 S28 W54) λW55=>oK (negB false (eqV 0 false W55 ip2)) λW56=>qAz X a0 tenant1 t20 (.ptr B26 0) t20 W31 W56 I0 m0 K S28)
 (qAz X a0 tenant1 t20 (.ptr B26 0) t20 W31 .undef I0 m0 K S28)) (frz S14)) s)
 (K (.tup [(.int .i64 0),(.bool false)]) s)
def qFY(X:Td)(a0 tenant1 ip2:AV)(K:KvP)(s:Hq):Prop:=
 oK (qAH a0) λW0=>oK (qAC 0 W0) λW1=>oK (rd1 s W1) λW2=>oK (qAH W2) λW3=>oK (qAC 0 W3) λW4=>oK (qAC 6 W4) λW5=>oK (rd1 s W5) λW6=>oK (qAQ W6) λW7=>∃I0:IvP,(∃m,I0 [(.int .i64 0)] s m)/\∀(f:Env) (s:Hq) (m0:Nat),I0 [f 20] s m0->
 qCl X a0 tenant1 ip2 W6 (.int .i64 W7) (f 20) I0 m0 K s
def qEB:Nat->List Nat:=λk=>cond (Nat.beq k 4) [20] ([])
theorem qEW{a0 tenant1 ip2:AV}{K:KvP}{s:Hq}(h:qFY XX a0 tenant1 ip2 K s):wC TP XX 83 [a0,tenant1,ip2] K s:=wOK qAj qEB rfl Tryz.func83 h
def qPN(X:Td)(segment0 bd1 x2:AV)(K:KvP)(s:Hq):Prop:=
 boxK 48 x2 (λB0 S1=>oK (rdN S1 15 B0) λW2=>oK (qAl [(.int .i64 0),(.int .i64 0),(.int .u64 0),(.int .u64 0),(.int .i64 0),(.int .i64 0),(.int .u64 0),(.int .u32 0),(.int .u64 0),(.int .u32 0),(.int .u32 0),(.int .u32 0),(.int .i64 0),(.int .i64 0),(.int .i64 0),(.int .i64 0),(.int .u64 0)] [(0,1,segment0),(1,1,bd1),(2,15,(.agg W2))]) λC3=>oK (qAl (repl 1 [(.int .i64 0),(.int .i64 0),(.int .u64 0),(.int .u64 0),(.int .i64 0),(.int .i64 0),(.int .u64 0),(.int .u32 0),(.int .u64 0),(.int .u32 0),(.int .u32 0),(.int .u32 0),(.int .i64 0),(.int .i64 0),(.int .i64 0),(.int .i64 0),(.int .u64 0)]) [(0,17,(.agg C3))]) λC4=>qAa C4=true/\newK 55 C4 (λB5 S6=>K (.slc B5 0 1 (some 1) 17) S6) S1) s
theorem qMB{segment0 bd1 x2:AV}{K:KvP}{s:Hq}(h:qPN XX segment0 bd1 x2 K s):wC TP XX 85 [segment0,bd1,x2] K s:=wOK qAj nA0 rfl Tryz.func85 h
def qCu(X:Td)(a0 result3 t23 t24 t25:AV)(I0:IvP)(m0:Nat)(K:KvP)(s:Hq):Prop:=
 oK (qAG .lss t25 t24) λW17=>qAL W17
 (oK (qAY 1 t23 t25) λW18=>oK (rd1 s W18) λW19=>oK (qAH a0) λW20=>oK (qAC 18 W20) λW21=>oK (qAC 2 W21) λW22=>oK (rd1 s W22) λW23=>oK (qAH a0) λW24=>oK (qAC 3 W24) λW25=>oK (rdN s 15 W25) λW26=>oK (qAl [(.int .i64 0),(.int .i64 0),(.int .u64 0),(.int .u64 0),(.int .i64 0),(.int .i64 0),(.int .u64 0),(.int .u32 0),(.int .u64 0),(.int .u32 0),(.int .u32 0),(.int .u32 0),(.int .i64 0),(.int .i64 0),(.int .i64 0),(.int .i64 0),(.int .u64 0)] [(0,1,W19),(1,1,W23),(2,15,(.agg W26))]) λC27=>oK (qAl (repl 1 [(.int .i64 0),(.int .i64 0),(.int .u64 0),(.int .u64 0),(.int .i64 0),(.int .i64 0),(.int .u64 0),(.int .u32 0),(.int .u64 0),(.int .u32 0),(.int .u32 0),(.int .u32 0),(.int .i64 0),(.int .i64 0),(.int .i64 0),(.int .i64 0),(.int .u64 0)]) [(0,17,(.agg C27))]) λC28=>qAa C28=true/\newK 55 C28 (λB29 S30=>appK 55 17 result3 (.slc B29 0 1 (some 1) 17) (λW31 S32=>oK (qAG .add t25 (.int .i64 1)) λW33=>∃m',m'<m0/\I0 [W31,W33] S32 m') S30) s)
 (K result3 s)
def qFq(X:Td)(a0:AV)(K:KvP)(s:Hq):Prop:=
 oK (qAH a0) λW0=>oK (qAC 0 W0) λW1=>oK (rd1 s W1) λW2=>oK (qAH a0) λW3=>oK (qAC 2 W3) λW4=>oK (rd1 s W4) λW5=>oK (qAH a0) λW6=>oK (qAC 18 W6) λW7=>oK (qAC 2 W7) λW8=>oK (rd1 s W8) λW9=>oK (qAH a0) λW10=>oK (qAC 22 W10) λW11=>oK (rd1 s W11) λW12=>wC TP X 107 [W2,W5,W9,W12] (λW13 S14=>oK (qAQ W13) λW15=>∃I0:IvP,(∃m,I0 [.nilslc,(.int .i64 0)] S14 m)/\∀(f:Env) (s:Hq) (m0:Nat),I0 [f 3,f 25] s m0->
 qCu X a0 (f 3) W13 (.int .i64 W15) (f 25) I0 m0 K s) s
def qEa:Nat->List Nat:=λk=>cond (Nat.beq k 6) [3,25] ([])
theorem qEe{a0:AV}{K:KvP}{s:Hq}(h:qFq XX a0 K s):wC TP XX 86 [a0] K s:=wOK qAj qEa rfl Tryz.func86 h
def qLG(X:Td)(t0 ip1 target2 data3:AV)(K:KvP)(s:Hq):Prop:=
 newK 48 [(.int .u64 0),(.int .u64 0),(.int .i64 0),(.int .i64 0),(.int .u64 0),(.int .u32 0),(.int .u64 0),(.int .u32 0),(.int .u32 0),(.int .u32 0),(.int .i64 0),(.int .i64 0),(.int .i64 0),(.int .i64 0),(.int .u64 0)] (λB0 S1=>wC TP X 109 [t0,ip1] (λW2 S3=>wC TP X 110 [target2] (λW4 S5=>wC TP X 111 [data3] (λW6 S7=>oK (qAl (repl 3 [.nilFunc]) [(0,1,W2),(1,1,W4),(2,1,W6)]) λC8=>qAa C8=true/\newK 175 C8 (λB9 S10=>wC TP X 108 [(.int .i64 1),t0,(.int .u64 281474976710655),(.slc B9 0 3 (some 3) 1)] (λW11 S12=>oK (qAw S12 15 (.ptr B0 0) W11) λS13=>oK (rdN S13 15 (.ptr B0 0)) λt8_14=>K (.agg t8_14) S13) S10) S7) S5) S3) S1) s
theorem qJK{t0 ip1 target2 data3:AV}{K:KvP}{s:Hq}(h:qLG XX t0 ip1 target2 data3 K s):wC TP XX 87 [t0,ip1,target2,data3] K s:=wOK qAj nA0 rfl Tryz.func87 h
def qHk(X:Td)(t0 segment1 area2:AV)(K:KvP)(s:Hq):Prop:=
 boxK 34 area2 (λB0 S1=>wC TP X 63 [t0,segment1] (λW2 S3=>wC TP X 114 [W2,(.fn (.func 115) [] [B0])] (λW4 S5=>K W4 S5) S3) S1) s
theorem qGM{t0 segment1 area2:AV}{K:KvP}{s:Hq}(h:qHk XX t0 segment1 area2 K s):wC TP XX 89 [t0,segment1,area2] K s:=wOK qAj nA0 rfl Tryz.func89 h
def qDM(X:Td)(t0 t1:AV)(K:KvP)(s:Hq):Prop:=
 wC TP X 59 [t0,t1] (λW0 S1=>oK (qAG .geq W0 (.int .i64 0)) λW2=>K W2 S1) s
theorem qC0{t0 t1:AV}{K:KvP}{s:Hq}(h:qDM XX t0 t1 K s):wC TP XX 90 [t0,t1] K s:=wOK qAj nA0 rfl Tryz.func90 h
def qBd(X:Td)(t18 t22:AV)(K:KvP)(s:Hq):Prop:=
 oK (qAR t18 t22 (.bool false)) λW10=>K W10 s
def qBl(X:Td)(t3 h4 t10 t13 t15:AV)(K:KvP)(s:Hq):Prop:=
 oK (qAR t13 (.bool true) t15) λW8=>oK (qAR t10 W8 (.bool false)) λW9=>qAL W9
 (oK (rd1 s t3) λW11=>oK (qAC 1 h4) λW12=>oK (rd1 s W12) λW13=>wC TP X 72 [W11,W13] (λW14 S15=>qBd X W9 W14 K S15) s)
 (qBd X W9 .undef K s)
def qCM(X:Td)(t18 t22:AV)(K:KvP)(s:Hq):Prop:=
 oK (qAR t18 t22 (.bool false)) λW19=>K W19 s
def qG0(X:Td)(h0 t1 t2 t3:AV)(K:KvP)(s:Hq):Prop:=
 boxK 77 h0 (λB0 S1=>oK (qAC 0 B0) λW2=>oK (rd1 S1 W2) λW3=>oK (rd1 S1 t1) λW4=>oK (negB false (eqV 0 false W3 W4)) λW5=>qAL W5
 (oK (qAC 2 B0) λW6=>oK (rd1 S1 W6) λW7=>qAL W7
 (qBl X t3 B0 W5 W7 .undef K S1)
 (oK (rd1 S1 t2) λW16=>oK (qAr .not W16) λW17=>qBl X t3 B0 W5 W7 W17 K S1))
 (oK (qAR W5 .undef (.bool false)) λW18=>qAL W18
 (oK (rd1 S1 t3) λW20=>oK (qAC 1 B0) λW21=>oK (rd1 S1 W21) λW22=>wC TP X 72 [W20,W22] (λW23 S24=>qCM X W18 W23 K S24) S1)
 (qCM X W18 .undef K S1))) s
theorem qFr{h0 t1 t2 t3:AV}{K:KvP}{s:Hq}(h:qG0 XX h0 t1 t2 t3 K s):wC TP XX 91 [h0,t1,t2,t3] K s:=wOK qAj nA0 rfl Tryz.func91 h
def qCC(X:Td)(t19 t29:AV)(K:KvP)(s:Hq):Prop:=
 oK (qAR t19 t29 (.bool false)) λW2=>K W2 s
def qBa(X:Td)(t0 leaf1 segment2 t9 t17:AV)(K:KvP)(s:Hq):Prop:=
 oK (qAR t9 t17 (.bool false)) λW1=>qAL W1
 (oK (qAH t0) λW3=>oK (qAC 19 W3) λW4=>oK (qAC 2 W4) λW5=>oK (rd1 s W5) λW6=>oK (qAY 1 W6 leaf1) λW7=>oK (rd1 s W7) λW8=>wC TP X 73 [W8,segment2] (λW9 S10=>qCC X W1 W9 K S10) s)
 (qCC X W1 .undef K s)
def qEm(X:Td)(t0 leaf1 segment2:AV)(K:KvP)(s:Hq):Prop:=
 oK (qAG .geq leaf1 (.int .i64 0)) λW0=>qAL W0
 (oK (qAH t0) λW11=>oK (qAC 19 W11) λW12=>oK (qAC 2 W12) λW13=>oK (rd1 s W13) λW14=>oK (qAQ W14) λW15=>oK (qAG .lss leaf1 (.int .i64 W15)) λW17=>qBa X t0 leaf1 segment2 W0 W17 K s)
 (qBa X t0 leaf1 segment2 W0 .undef K s)
theorem qHD{t0 leaf1 segment2:AV}{K:KvP}{s:Hq}(h:qEm XX t0 leaf1 segment2 K s):wC TP XX 92 [t0,leaf1,segment2] K s:=wOK qAj nA0 rfl Tryz.func92 h
def qBx(X:Td)(t16 t19:AV)(K:KvP)(s:Hq):Prop:=
 oK (qAR t16 (.bool true) t19) λW7=>qAL W7
 (K (.int .i64 2) s)
 (K (.int .i64 0) s)
def qBw(X:Td)(a1 t11 t14:AV)(K:KvP)(s:Hq):Prop:=
 oK (qAR t11 (.bool true) t14) λW6=>qAL W6
 (qBx X W6 .undef K s)
 (oK (qAC 3 a1) λW8=>oK (rd1 s W8) λW9=>oK (qAG .gtr W9 (.int .u64 281474976710655)) λW10=>qBx X W6 W10 K s)
def qBv(X:Td)(a1 t6 t9:AV)(K:KvP)(s:Hq):Prop:=
 oK (qAR t6 (.bool true) t9) λW5=>qAL W5
 (qBw X a1 W5 .undef K s)
 (oK (qAC 1 a1) λW11=>oK (rd1 s W11) λW12=>oK (qAG .gtr W12 (.int .u64 281474976710655)) λW13=>qBw X a1 W5 W13 K s)
def qKE(X:Td)(a0:AV)(K:KvP)(s:Hq):Prop:=
 boxK 44 a0 (λB0 S1=>oK (qAC 0 B0) λW2=>oK (rd1 S1 W2) λW3=>oK (qAG .lss W3 (.int .i64 1)) λW4=>qAL W4
 (qBv X B0 W4 .undef K S1)
 (oK (qAC 0 B0) λW14=>oK (rd1 S1 W14) λW15=>oK (qAG .gtr W15 (.int .i64 2)) λW16=>qBv X B0 W4 W16 K S1)) s
theorem qH4{a0:AV}{K:KvP}{s:Hq}(h:qKE XX a0 K s):wC TP XX 99 [a0] K s:=wOK qAj nA0 rfl Tryz.func99 h
def qCd(X:Td)(t43 t47 t50:AV)(K:KvP)(s:Hq):Prop:=
 oK (qAR t47 (.bool true) t50) λW22=>oK (qAR t43 W22 (.bool false)) λW23=>qAL W23
 (K (.int .i64 3) s)
 (K (.int .i64 0) s)
def qB6(X:Td)(h1 t34 t37:AV)(K:KvP)(s:Hq):Prop:=
 oK (qAR t34 (.bool true) t37) λW13=>qAL W13
 (K (.int .i64 2) s)
 (oK (qAC 3 h1) λW14=>oK (rd1 s W14) λW15=>wC TP X 127 [W15] (λW16 S17=>oK (qAr .not W16) λW18=>qAL W18
 (oK (qAC 4 h1) λW19=>oK (rd1 S17 W19) λW20=>oK (negB true (eqV 0 true W20 (.int .i64 0))) λW21=>qAL W21
 (qCd X W18 W21 .undef K S17)
 (oK (qAC 5 h1) λW24=>oK (rd1 S17 W24) λW25=>oK (negB true (eqV 0 true W25 (.int .i64 0))) λW26=>qCd X W18 W21 W26 K S17))
 (oK (qAR W18 .undef (.bool false)) λW27=>qAL W27
 (K (.int .i64 3) S17)
 (K (.int .i64 0) S17))) s)
def qCA(X:Td)(h1 t29 t32:AV)(K:KvP)(s:Hq):Prop:=
 oK (qAR t29 (.bool true) t32) λW12=>qAL W12
 (qB6 X h1 W12 .undef K s)
 (oK (qAC 5 h1) λW28=>oK (rd1 s W28) λW29=>oK (qAG .gtr W29 (.int .i64 65535)) λW30=>qB6 X h1 W12 W30 K s)
def qB8(X:Td)(h1 t24 t27:AV)(K:KvP)(s:Hq):Prop:=
 oK (qAR t24 (.bool true) t27) λW11=>qAL W11
 (qCA X h1 W11 .undef K s)
 (oK (qAC 5 h1) λW31=>oK (rd1 s W31) λW32=>oK (qAG .lss W32 (.int .i64 0)) λW33=>qCA X h1 W11 W33 K s)
def qB4(X:Td)(h1 t16 t19:AV)(K:KvP)(s:Hq):Prop:=
 oK (qAR t16 (.bool true) t19) λW7=>qAL W7
 (K (.int .i64 2) s)
 (oK (qAC 4 h1) λW8=>oK (rd1 s W8) λW9=>oK (qAG .lss W9 (.int .i64 0)) λW10=>qAL W10
 (qB8 X h1 W10 .undef K s)
 (oK (qAC 4 h1) λW34=>oK (rd1 s W34) λW35=>oK (qAG .gtr W35 (.int .i64 65535)) λW36=>qB8 X h1 W10 W36 K s))
def qB5(X:Td)(h1 t11 t14:AV)(K:KvP)(s:Hq):Prop:=
 oK (qAR t11 (.bool true) t14) λW6=>qAL W6
 (qB4 X h1 W6 .undef K s)
 (oK (qAC 3 h1) λW37=>oK (rd1 s W37) λW38=>oK (qAG .gtr W38 (.int .i64 255)) λW39=>qB4 X h1 W6 W39 K s)
def qB9(X:Td)(h1 t6 t9:AV)(K:KvP)(s:Hq):Prop:=
 oK (qAR t6 (.bool true) t9) λW5=>qAL W5
 (qB5 X h1 W5 .undef K s)
 (oK (qAC 3 h1) λW40=>oK (rd1 s W40) λW41=>oK (qAG .lss W41 (.int .i64 0)) λW42=>qB5 X h1 W5 W42 K s)
def qKQ(X:Td)(h0:AV)(K:KvP)(s:Hq):Prop:=
 boxK 46 h0 (λB0 S1=>oK (qAC 2 B0) λW2=>oK (rd1 S1 W2) λW3=>oK (qAG .lss W3 (.int .i64 0)) λW4=>qAL W4
 (qB9 X B0 W4 .undef K S1)
 (oK (qAC 2 B0) λW43=>oK (rd1 S1 W43) λW44=>oK (qAG .gtr W44 (.int .i64 255)) λW45=>qB9 X B0 W4 W45 K S1)) s
theorem qI0{h0:AV}{K:KvP}{s:Hq}(h:qKQ XX h0 K s):wC TP XX 100 [h0] K s:=wOK qAj nA0 rfl Tryz.func100 h
def qBf(X:Td)(result9 t18:AV)(I0:IvP)(m0:Nat)(K:KvP)(s:Hq):Prop:=
 oK (qAG .add t18 (.int .i64 1)) λW15=>∃m',m'<m0/\I0 [result9,W15] s m'
def qBn(X:Td)(result9 i10 t18 t32 t36:AV)(I0:IvP)(m0:Nat)(K:KvP)(s:Hq):Prop:=
 oK (qAR t32 t36 (.bool false)) λW14=>qAL W14
 (oK (qAl (repl 1 [(.int .i64 0)]) [(0,1,i10)]) λC16=>qAa C16=true/\newK 3 C16 (λB17 S18=>appK 3 1 result9 (.slc B17 0 1 (some 1) 1) (λW19 S20=>qBf X W19 t18 I0 m0 K S20) S18) s)
 (qBf X result9 t18 I0 m0 K s)
def qBk(X:Td)(t0 area1 result9 i10 t18 t26 t30:AV)(I0:IvP)(m0:Nat)(K:KvP)(s:Hq):Prop:=
 oK (qAR t26 t30 (.bool false)) λW13=>qAL W13
 (wC TP X 89 [t0,i10,area1] (λW21 S22=>qBn X result9 i10 t18 W13 W21 I0 m0 K S22) s)
 (qBn X result9 i10 t18 W13 .undef I0 m0 K s)
def qDQ(X:Td)(t0 area1 bd2 t3 result9 t16 t17 t18:AV)(I0:IvP)(m0:Nat)(K:KvP)(s:Hq):Prop:=
 oK (qAG .lss t18 t17) λW6=>qAL W6
 (oK (qAY 2 t16 t18) λW7=>oK (rdN s 2 W7) λW8=>newK 64 [.nilslc,.nilslc] (λB9 S10=>oK (qAw S10 2 (.ptr B9 0) (.agg W8)) λS11=>oK (negB true (eqV 0 false t18 t3)) λW12=>qAL W12
 (oK (qAC 1 (.ptr B9 0)) λW23=>oK (rd1 S11 W23) λW24=>wC TP X 72 [W24,bd2] (λW25 S26=>qBk X t0 area1 result9 t18 t18 W12 W25 I0 m0 K S26) S11)
 (qBk X t0 area1 result9 t18 t18 W12 .undef I0 m0 K S11)) s)
 (K result9 s)
def qHO(X:Td)(t0 area1 bd2 t3:AV)(K:KvP)(s:Hq):Prop:=
 oK (qAH t0) λW0=>oK (qAC 0 W0) λW1=>oK (qAC 5 W1) λW2=>oK (rd1 s W2) λW3=>oK (qAQ W3) λW4=>∃I0:IvP,(∃m,I0 [.nilslc,(.int .i64 0)] s m)/\∀(f:Env) (s:Hq) (m0:Nat),I0 [f 9,f 18] s m0->
 qDQ X t0 area1 bd2 t3 (f 9) W3 (.int .i64 W4) (f 18) I0 m0 K s
def qFl:Nat->List Nat:=λk=>cond (Nat.beq k 6) [9,18] ([])
theorem qFu{t0 area1 bd2 t3:AV}{K:KvP}{s:Hq}(h:qHO XX t0 area1 bd2 t3 K s):wC TP XX 107 [t0,area1,bd2,t3] K s:=wOK qAj qFl rfl Tryz.func107 h
def qD9(X:Td)(t8 x9 t17 t18 t19:AV)(I0:IvP)(m0:Nat)(K:KvP)(s:Hq):Prop:=
 oK (qAG .lss t19 t18) λW9=>qAL W9
 (oK (qAY 1 t17 t19) λW10=>oK (rd1 s W10) λW11=>funK TP X W11 [x9] (λW12 S13=>oK (qAG .add t19 (.int .i64 1)) λW14=>∃m',m'<m0/\I0 [W14] S13 m') s)
 (oK (rdN s 15 x9) λW15=>oK (qAw s 15 t8 (.agg W15)) λS16=>oK (rdN S16 15 t8) λt8_17=>K (.agg t8_17) S16)
def qJa(X:Td)(op0 src1 dst2 options3:AV)(K:KvP)(s:Hq):Prop:=
 newK 48 [(.int .u64 0),(.int .u64 0),(.int .i64 0),(.int .i64 0),(.int .u64 0),(.int .u32 0),(.int .u64 0),(.int .u32 0),(.int .u32 0),(.int .u32 0),(.int .i64 0),(.int .i64 0),(.int .i64 0),(.int .i64 0),(.int .u64 0)] (λB0 S1=>oK (qAl [(.int .i64 0),(.int .u64 0),(.int .u32 0),(.int .u64 0),(.int .u32 0)] [(0,1,op0)]) λC2=>oK (qAl [(.int .u64 0),(.int .u64 0),(.int .i64 0),(.int .i64 0),(.int .u64 0),(.int .u32 0),(.int .u64 0),(.int .u32 0),(.int .u32 0),(.int .u32 0),(.int .i64 0),(.int .i64 0),(.int .i64 0),(.int .i64 0),(.int .u64 0)] [(0,1,src1),(1,1,dst2),(2,1,(.int .i64 1)),(3,5,(.agg C2))]) λC3=>newK 48 [(.int .u64 0),(.int .u64 0),(.int .i64 0),(.int .i64 0),(.int .u64 0),(.int .u32 0),(.int .u64 0),(.int .u32 0),(.int .u32 0),(.int .u32 0),(.int .i64 0),(.int .i64 0),(.int .i64 0),(.int .i64 0),(.int .u64 0)] (λB4 S5=>oK (qAw S5 15 (.ptr B4 0) (.agg C3)) λS6=>oK (qAQ options3) λW7=>∃I0:IvP,(∃m,I0 [(.int .i64 0)] S6 m)/\∀(f:Env) (s:Hq) (m0:Nat),I0 [f 19] s m0->
 qD9 X (.ptr B0 0) (.ptr B4 0) options3 (.int .i64 W7) (f 19) I0 m0 K s) S1) s
def qHB:Nat->List Nat:=λk=>cond (Nat.beq k 6) [19] ([])
theorem qHm{op0 src1 dst2 options3:AV}{K:KvP}{s:Hq}(h:qJa XX op0 src1 dst2 options3 K s):wC TP XX 108 [op0,src1,dst2,options3] K s:=wOK qAj qHB rfl Tryz.func108 h
def qLt(X:Td)(t0 ip1:AV)(K:KvP)(s:Hq):Prop:=
 boxK 40 t0 (λB0 S1=>boxK 42 ip1 (λB2 S3=>K (.fn (.func 139) [] [B0,B2]) S3) S1) s
theorem qJf{t0 ip1:AV}{K:KvP}{s:Hq}(h:qLt XX t0 ip1 K s):wC TP XX 109 [t0,ip1] K s:=wOK qAj nA0 rfl Tryz.func109 h
def qMj(X:Td)(ip0:AV)(K:KvP)(s:Hq):Prop:=
 wC TP X 140 [(.int .u64 0),ip0] (λW0 S1=>K W0 S1) s
theorem qKD{ip0:AV}{K:KvP}{s:Hq}(h:qMj XX ip0 K s):wC TP XX 110 [ip0] K s:=wOK qAj nA0 rfl Tryz.func110 h
def qLK(X:Td)(data0:AV)(K:KvP)(s:Hq):Prop:=
 boxK 39 data0 (λB0 S1=>K (.fn (.func 141) [] [B0]) S1) s
theorem qJT{data0:AV}{K:KvP}{s:Hq}(h:qLK XX data0 K s):wC TP XX 111 [data0] K s:=wOK qAj nA0 rfl Tryz.func111 h
def qGl(X:Td)(leaf0 t1:AV)(K:KvP)(s:Hq):Prop:=
 oK (rd1 s t1) λW0=>wC TP X 72 [W0,leaf0] (λW1 S2=>K W1 S2) s
theorem qFK{leaf0 t1:AV}{K:KvP}{s:Hq}(h:qGl XX leaf0 t1 K s):wC TP XX 115 [leaf0,t1] K s:=wOK qAj nA0 rfl Tryz.func115 h
def qCs(X:Td)(t5 t7:AV)(K:KvP)(s:Hq):Prop:=
 oK (qAR t5 (.bool true) t7) λW1=>K W1 s
def qHi(X:Td)(proto0:AV)(K:KvP)(s:Hq):Prop:=
 oK (negB false (eqV 0 true proto0 (.int .i64 6))) λW0=>qAL W0
 (qCs X W0 .undef K s)
 (oK (negB false (eqV 0 true proto0 (.int .i64 17))) λW2=>qCs X W0 W2 K s)
theorem qJP{proto0:AV}{K:KvP}{s:Hq}(h:qHi XX proto0 K s):wC TP XX 127 [proto0] K s:=wOK qAj nA0 rfl Tryz.func127 h
def qKj(X:Td)(x0 t1 t2:AV)(K:KvP)(s:Hq):Prop:=
 oK (rd1 s t1) λW0=>oK (rd1 s t2) λW1=>oK (qAH x0) λW2=>oK (qAC 3 W2) λW3=>oK (qAC 1 W3) λW4=>((cutH [((hdel s (qAm t2)),s)] s) (qAm W4)≠none)/\
 oK (wr1 s W4 W0) λS5=>oK (qAH x0) λW6=>oK (qAC 3 W6) λW7=>oK (qAC 2 W7) λW8=>oK (wr1 S5 W8 W1) λS9=>K (.tup []) S9
theorem qIw{x0 t1 t2:AV}{K:KvP}{s:Hq}(h:qKj XX x0 t1 t2 K s):wC TP XX 139 [x0,t1,t2] K s:=wOK qAj nA0 rfl Tryz.func139 h
def qLe(X:Td)(t0 ip1:AV)(K:KvP)(s:Hq):Prop:=
 boxK 40 t0 (λB0 S1=>boxK 42 ip1 (λB2 S3=>K (.fn (.func 181) [] [B0,B2]) S3) S1) s
theorem qJw{t0 ip1:AV}{K:KvP}{s:Hq}(h:qLe XX t0 ip1 K s):wC TP XX 140 [t0,ip1] K s:=wOK qAj nA0 rfl Tryz.func140 h
def qJk(X:Td)(x0 t1:AV)(K:KvP)(s:Hq):Prop:=
 oK (rd1 s t1) λW0=>oK (qAH x0) λW1=>oK (qAC 14 W1) λW2=>oK (wr1 s W2 W0) λS3=>K (.tup []) S3
theorem qH5{x0 t1:AV}{K:KvP}{s:Hq}(h:qJk XX x0 t1 K s):wC TP XX 141 [x0,t1] K s:=wOK qAj nA0 rfl Tryz.func141 h
def qKO(X:Td)(x0 t1 t2:AV)(K:KvP)(s:Hq):Prop:=
 oK (rd1 s t1) λW0=>oK (rd1 s t2) λW1=>oK (qAH x0) λW2=>oK (qAC 3 W2) λW3=>oK (qAC 3 W3) λW4=>((cutH [((hdel s (qAm t2)),s)] s) (qAm W4)≠none)/\
 oK (wr1 s W4 W0) λS5=>oK (qAH x0) λW6=>oK (qAC 3 W6) λW7=>oK (qAC 4 W7) λW8=>oK (wr1 S5 W8 W1) λS9=>K (.tup []) S9
theorem qIu{x0 t1 t2:AV}{K:KvP}{s:Hq}(h:qKO XX x0 t1 t2 K s):wC TP XX 181 [x0,t1,t2] K s:=wOK qAj nA0 rfl Tryz.func181 h
end Go.AM
