/- Part V2 of the proof: see the last part. -/
import Derived.Test.YtfjeillpldnajaaGreatV
set_option linter.unusedVariables false
namespace Go.AM
open Go Go.Proofs
set_option maxRecDepth 100000
end Go.AM
namespace Go.AM
open Go Go.Proofs
set_option maxRecDepth 100000
end Go.AM
namespace Go.AM
open Go Go.Proofs
set_option maxRecDepth 100000
end Go.AM
namespace Go.AM
open Go Go.Proofs
set_option maxRecDepth 100000
def qBP(X:Td)(flow3:AV)(K:KvP)(s:Hq):Prop:=
 wC TP X 113 [flow3] (λW5 S6=>oK (qAF .rem W5 (.int .u32 16384)) λW7=>oK (qDe .i64 W7) λW8=>oK (qAF .add (.int .i64 49152) W8) λW9=>K W9 S6) s
def qJw(X:Td)(t0:AV)(K:KvP)(s:Hq):Prop:=
 boxK 48 t0 (λB0 S1=>oK (qAC 2 B0) λW2=>oK (rd1 S1 W2) λW3=>oK (negB false (eqV 0 true W3 (.int .i64 2))) λW4=>qAL W4
 (oK (qAC 8 B0) λW10=>oK (rdN S1 6 W10) λW11=>newK 46 [(.int .u32 0),(.int .u32 0),(.int .i64 0),(.int .i64 0),(.int .i64 0),(.int .i64 0)] (λB12 S13=>oK (qA7 S13 6 (.ptr B12 0) (.agg W11)) λS14=>oK (qAC 0 (.ptr B12 0)) λW15=>oK (rd1 S14 W15) λW16=>oK (qDe .u64 W16) λW17=>wC TP X 112 [.nilslc,W17,(.int .i64 4)] (λW18 S19=>oK (qAC 1 (.ptr B12 0)) λW20=>oK (rd1 S19 W20) λW21=>oK (qDe .u64 W21) λW22=>wC TP X 112 [W18,W22,(.int .i64 4)] (λW23 S24=>oK (qAC 3 (.ptr B12 0)) λW25=>oK (rd1 S24 W25) λW26=>oK (qDe .u64 W26) λW27=>wC TP X 112 [W23,W27,(.int .i64 1)] (λW28 S29=>oK (qAC 4 (.ptr B12 0)) λW30=>oK (rd1 S29 W30) λW31=>oK (qDe .u64 W31) λW32=>wC TP X 112 [W28,W32,(.int .i64 2)] (λW33 S34=>oK (qAC 5 (.ptr B12 0)) λW35=>oK (rd1 S34 W35) λW36=>oK (qDe .u64 W36) λW37=>wC TP X 112 [W33,W37,(.int .i64 2)] (λW38 S39=>qBP X W38 K S39) S34) S29) S24) S19) S14) S1)
 (oK (qAC 0 B0) λW40=>oK (rd1 S1 W40) λW41=>wC TP X 112 [.nilslc,W41,(.int .i64 6)] (λW42 S43=>oK (qAC 1 B0) λW44=>oK (rd1 S43 W44) λW45=>wC TP X 112 [W42,W45,(.int .i64 6)] (λW46 S47=>oK (qAC 2 B0) λW48=>oK (rd1 S47 W48) λW49=>oK (qDe .u64 W49) λW50=>wC TP X 112 [W46,W50,(.int .i64 1)] (λW51 S52=>qBP X W51 K S52) S47) S43) S1)) s
theorem qIC{t0:AV}{K:KvP}{s:Hq}(h:qJw XX t0 K s):wC TP XX 88 [t0] K s:=wOK qA2 nA0 rfl Tryz.func88 h
def qHG(X:Td)(b0 n1 i7:AV)(I0:IvP)(m0:Nat)(K:KvP)(s:Hq):Prop:=
 oK (qAF .geq i7 (.int .i64 0)) λW1=>qAL W1
 (oK (qAF .mul (.int .i64 8) i7) λW2=>oK (qFd .shr n1 W2) λW3=>oK (qDe .u8 W3) λW4=>oK (qAr (repl 1 [(.int .u8 0)]) [(0,1,W4)]) λC5=>qAW C5=true/\newK 5 C5 (λB6 S7=>appK 5 1 b0 (.slc B6 0 1 (some 1) 1) (λW8 S9=>oK (qAF .sub i7 (.int .i64 1)) λW10=>∃m',m'<m0/\I0 [W8,W10] S9 m') S7) s)
 (K b0 s)
def qJc(X:Td)(b0 n1 size2:AV)(K:KvP)(s:Hq):Prop:=
 oK (qAF .sub size2 (.int .i64 1)) λW0=>∃I0:IvP,(∃m,I0 [b0,W0] s m)/\∀(f:Env) (s:Hq) (m0:Nat),I0 [f 0,f 7] s m0->
 qHG X (f 0) n1 (f 7) I0 m0 K s
def qJq:Nat->List Nat:=λk=>cond (Nat.beq k 4) [0,7] ([])
theorem qKx{b0 n1 size2:AV}{K:KvP}{s:Hq}(h:qJc XX b0 n1 size2 K s):wC TP XX 112 [b0,n1,size2] K s:=wOK qA2 qJq rfl Tryz.func112 h
def qDE(X:Td)(b0 h3 t6 t7:AV)(I0:IvP)(m0:Nat)(K:KvP)(s:Hq):Prop:=
 oK (qAF .lss t7 t6) λW2=>qAL W2
 (oK (qAU 1 b0 t7) λW3=>oK (rd1 s W3) λW4=>oK (qDe .u32 W4) λW5=>oK (qAF .xor h3 W5) λW6=>oK (qAF .mul W6 (.int .u32 16777619)) λW7=>oK (qAF .add t7 (.int .i64 1)) λW8=>∃m',m'<m0/\I0 [W7,W8] s m')
 (K h3 s)
def qDt(X:Td)(b0:AV)(K:KvP)(s:Hq):Prop:=
 oK (qAQ b0) λW0=>∃I0:IvP,(∃m,I0 [(.int .u32 2166136261),(.int .i64 0)] s m)/\∀(f:Env) (s:Hq) (m0:Nat),I0 [f 3,f 7] s m0->
 qDE X b0 (f 3) (.int .i64 W0) (f 7) I0 m0 K s
def qFF:Nat->List Nat:=λk=>cond (Nat.beq k 6) [3,7] ([])
theorem qFY{b0:AV}{K:KvP}{s:Hq}(h:qDt XX b0 K s):wC TP XX 113 [b0] K s:=wOK qA2 qFF rfl Tryz.func113 h
end Go.AM
namespace Go.AM
open Go Go.Proofs
set_option maxRecDepth 100000
def qCD(X:Td)(i16 t126 t132 t138:AV)(I4:IvP)(m4:Nat)(K:KvP)(s:Hq):Prop:=
 oK (qAO t132 t138 (.bool false)) λW68=>oK (qAO t126 (.bool true) W68) λW69=>qAL W69
 (K (.bool false) s)
 (oK (qAF .add i16 (.int .i64 1)) λW70=>∃m',m'<m4/\I4 [W70] s m')
def qCE(X:Td)(heard2 x13 i16 t113 t124:AV)(I4:IvP)(m4:Nat)(K:KvP)(s:Hq):Prop:=
 oK (qAO t113 (.bool true) t124) λW62=>qAL W62
 (oK (qAO W62 (.bool true) .undef) λW63=>qAL W63
 (K (.bool false) s)
 (oK (qAF .add i16 (.int .i64 1)) λW64=>∃m',m'<m4/\I4 [W64] s m'))
 (oK (qAU 3 heard2 i16) λW65=>oK (qAC 2 W65) λW66=>oK (rd1 s W66) λW67=>qAL W67
 (oK (qAU 3 x13 i16) λW71=>oK (qAC 2 W71) λW72=>oK (rd1 s W72) λW73=>oK (qAy .not W73) λW74=>qCD X i16 W62 W67 W74 I4 m4 K s)
 (qCD X i16 W62 W67 .undef I4 m4 K s))
def qCG(X:Td)(t142 t145 t152 t160 t166:AV)(K:KvP)(s:Hq):Prop:=
 oK (qAO t160 (.bool true) t166) λW95=>oK (qAO t152 W95 (.bool false)) λW96=>oK (qAO t145 (.bool true) W96) λW97=>oK (qAO t142 W97 (.bool false)) λW98=>K W98 s
def qDW(X:Td)(heard2 host3 ok9 t10 w11 x13 x14 t15 i16:AV)(I4:IvP)(m4:Nat)(K:KvP)(s:Hq):Prop:=
 oK (qAQ heard2) λW52=>oK (qAF .lss i16 (.int .i64 W52)) λW54=>qAL W54
 (oK (qAU 3 x13 i16) λW55=>oK (qAC 0 W55) λW56=>oK (rd1 s W56) λW57=>oK (qAU 3 heard2 i16) λW58=>oK (qAC 0 W58) λW59=>oK (rd1 s W59) λW60=>oK (negB true (eqV 0 false W57 W60)) λW61=>qAL W61
 (qCE X heard2 x13 i16 W61 .undef I4 m4 K s)
 (oK (qAU 3 x13 i16) λW75=>oK (qAC 1 W75) λW76=>oK (rd1 s W76) λW77=>oK (qAU 3 heard2 i16) λW78=>oK (qAC 1 W78) λW79=>oK (rd1 s W79) λW80=>oK (negB true (eqV 0 false W77 W80)) λW81=>qCE X heard2 x13 i16 W61 W81 I4 m4 K s))
 (qAL ok9
 (oK (qAy .not t15) λW82=>qAL W82
 (oK (qAO W82 (.bool true) .undef) λW83=>oK (qAO ok9 W83 (.bool false)) λW84=>K W84 s)
 (oK (rdN s 19 t10) λW85=>oK (rdN s 4 w11) λW86=>wC TP X 22 [(.agg W85),(.agg W86),x13,x14,host3,(.bool false)] (λW87 S88=>qAL W87
 (oK (qAC 6 t10) λW89=>oK (rd1 S88 W89) λW90=>oK (qAU 4 W90 host3) λW91=>oK (qAC 1 W91) λW92=>oK (rd1 S88 W92) λW93=>oK (negB false (eqV 0 true W93 (.int .u32 0))) λW94=>qAL W94
 (qCG X ok9 W82 W87 W94 .undef K S88)
 (oK (rdN S88 19 t10) λW99=>oK (rdN S88 4 w11) λW100=>wC TP X 22 [(.agg W99),(.agg W100),x13,x14,host3,(.bool true)] (λW101 S102=>qCG X ok9 W82 W87 W94 W101 K S102) S88))
 (oK (qAO W87 .undef (.bool false)) λW103=>oK (qAO W82 (.bool true) W103) λW104=>oK (qAO ok9 W104 (.bool false)) λW105=>K W105 S88)) s))
 (oK (qAO ok9 .undef (.bool false)) λW106=>K W106 s))
def qB9(X:Td)(heard2 host3 ok9 t10 w11 x13 x14 t15 t85 t94:AV)(K:KvP)(s:Hq):Prop:=
 oK (qAO t85 (.bool true) t94) λW51=>qAL W51
 (K (.bool false) s)
 (∃I4:IvP,(∃m,I4 [(.int .i64 0)] s m)/\∀(f:Env) (s:Hq) (m4:Nat),I4 [f 16] s m4->
 qDW X heard2 host3 ok9 t10 w11 x13 x14 t15 (f 16) I4 m4 K s)
def qCC(X:Td)(heard2 host3 ok9 t10 w11 x12 x13 x14 t15 t79 t83:AV)(K:KvP)(s:Hq):Prop:=
 oK (qAO t79 (.bool true) t83) λW50=>qAL W50
 (qB9 X heard2 host3 ok9 t10 w11 x13 x14 t15 W50 .undef K s)
 (oK (qAC 0 x12) λW107=>oK (rd1 s W107) λW108=>oK (qAC 6 t10) λW109=>oK (rd1 s W109) λW110=>oK (qAU 4 W110 host3) λW111=>oK (qAC 0 W111) λW112=>oK (rd1 s W112) λW113=>oK (negB true (eqV 0 false W108 W113)) λW114=>qB9 X heard2 host3 ok9 t10 w11 x13 x14 t15 W50 W114 K s)
def qAp(X:Td)(i16 t126 t132 t138:AV)(I11:IvP)(m11:Nat)(K:KvP)(s:Hq):Prop:=
 oK (qAO t132 t138 (.bool false)) λW141=>oK (qAO t126 (.bool true) W141) λW142=>qAL W142
 (K (.bool false) s)
 (oK (qAF .add i16 (.int .i64 1)) λW143=>∃m',m'<m11/\I11 [W143] s m')
def qBB(X:Td)(heard2 x13 i16 t113 t124:AV)(I11:IvP)(m11:Nat)(K:KvP)(s:Hq):Prop:=
 oK (qAO t113 (.bool true) t124) λW135=>qAL W135
 (oK (qAO W135 (.bool true) .undef) λW136=>qAL W136
 (K (.bool false) s)
 (oK (qAF .add i16 (.int .i64 1)) λW137=>∃m',m'<m11/\I11 [W137] s m'))
 (oK (qAU 3 heard2 i16) λW138=>oK (qAC 2 W138) λW139=>oK (rd1 s W139) λW140=>qAL W140
 (oK (qAU 3 x13 i16) λW144=>oK (qAC 2 W144) λW145=>oK (rd1 s W145) λW146=>oK (qAy .not W146) λW147=>qAp X i16 W135 W140 W147 I11 m11 K s)
 (qAp X i16 W135 W140 .undef I11 m11 K s))
def qAo(X:Td)(t142 t145 t152 t160 t166:AV)(K:KvP)(s:Hq):Prop:=
 oK (qAO t160 (.bool true) t166) λW168=>oK (qAO t152 W168 (.bool false)) λW169=>oK (qAO t145 (.bool true) W169) λW170=>oK (qAO t142 W170 (.bool false)) λW171=>K W171 s
def qAm(X:Td)(heard2 host3 ok9 t10 w11 x13 x14 t15 i16:AV)(I11:IvP)(m11:Nat)(K:KvP)(s:Hq):Prop:=
 oK (qAQ heard2) λW125=>oK (qAF .lss i16 (.int .i64 W125)) λW127=>qAL W127
 (oK (qAU 3 x13 i16) λW128=>oK (qAC 0 W128) λW129=>oK (rd1 s W129) λW130=>oK (qAU 3 heard2 i16) λW131=>oK (qAC 0 W131) λW132=>oK (rd1 s W132) λW133=>oK (negB true (eqV 0 false W130 W133)) λW134=>qAL W134
 (qBB X heard2 x13 i16 W134 .undef I11 m11 K s)
 (oK (qAU 3 x13 i16) λW148=>oK (qAC 1 W148) λW149=>oK (rd1 s W149) λW150=>oK (qAU 3 heard2 i16) λW151=>oK (qAC 1 W151) λW152=>oK (rd1 s W152) λW153=>oK (negB true (eqV 0 false W150 W153)) λW154=>qBB X heard2 x13 i16 W134 W154 I11 m11 K s))
 (qAL ok9
 (oK (qAy .not t15) λW155=>qAL W155
 (oK (qAO W155 (.bool true) .undef) λW156=>oK (qAO ok9 W156 (.bool false)) λW157=>K W157 s)
 (oK (rdN s 19 t10) λW158=>oK (rdN s 4 w11) λW159=>wC TP X 22 [(.agg W158),(.agg W159),x13,x14,host3,(.bool false)] (λW160 S161=>qAL W160
 (oK (qAC 6 t10) λW162=>oK (rd1 S161 W162) λW163=>oK (qAU 4 W163 host3) λW164=>oK (qAC 1 W164) λW165=>oK (rd1 S161 W165) λW166=>oK (negB false (eqV 0 true W166 (.int .u32 0))) λW167=>qAL W167
 (qAo X ok9 W155 W160 W167 .undef K S161)
 (oK (rdN S161 19 t10) λW172=>oK (rdN S161 4 w11) λW173=>wC TP X 22 [(.agg W172),(.agg W173),x13,x14,host3,(.bool true)] (λW174 S175=>qAo X ok9 W155 W160 W167 W174 K S175) S161))
 (oK (qAO W160 .undef (.bool false)) λW176=>oK (qAO W155 (.bool true) W176) λW177=>oK (qAO ok9 W177 (.bool false)) λW178=>K W178 S161)) s))
 (oK (qAO ok9 .undef (.bool false)) λW179=>K W179 s))
def qAn(X:Td)(heard2 host3 ok9 t10 w11 x13 x14 t15 t85 t94:AV)(K:KvP)(s:Hq):Prop:=
 oK (qAO t85 (.bool true) t94) λW124=>qAL W124
 (K (.bool false) s)
 (∃I11:IvP,(∃m,I11 [(.int .i64 0)] s m)/\∀(f:Env) (s:Hq) (m11:Nat),I11 [f 16] s m11->
 qAm X heard2 host3 ok9 t10 w11 x13 x14 t15 (f 16) I11 m11 K s)
def qBJ(X:Td)(heard2 host3 ok9 t10 w11 x12 x13 x14 t15 t79 t83:AV)(K:KvP)(s:Hq):Prop:=
 oK (qAO t79 (.bool true) t83) λW123=>qAL W123
 (qAn X heard2 host3 ok9 t10 w11 x13 x14 t15 W123 .undef K s)
 (oK (qAC 0 x12) λW180=>oK (rd1 s W180) λW181=>oK (qAC 6 t10) λW182=>oK (rd1 s W182) λW183=>oK (qAU 4 W183 host3) λW184=>oK (qAC 0 W184) λW185=>oK (rd1 s W185) λW186=>oK (negB true (eqV 0 false W181 W186)) λW187=>qAn X heard2 host3 ok9 t10 w11 x13 x14 t15 W123 W187 K s)
def qAs(X:Td)(heard2 host3 ok9 t10 w11 x12 x13 x14 t15 t68 t71 t76:AV)(K:KvP)(s:Hq):Prop:=
 oK (qAO t71 t76 (.bool false)) λW121=>oK (qAO t68 (.bool true) W121) λW122=>qAL W122
 (qBJ X heard2 host3 ok9 t10 w11 x12 x13 x14 t15 W122 .undef K s)
 (oK (qAC 1 x12) λW188=>oK (rd1 s W188) λW189=>wC TP X 21 [W189] (λW190 S191=>oK (qAy .not W190) λW192=>qBJ X heard2 host3 ok9 t10 w11 x12 x13 x14 t15 W122 W192 K S191) s)
def qBK(X:Td)(heard2 host3 ok9 t10 w11 x12 x13 x14 t15 t60 t66:AV)(K:KvP)(s:Hq):Prop:=
 oK (qAO t60 (.bool true) t66) λW48=>qAL W48
 (oK (qAO W48 (.bool true) .undef) λW49=>qAL W49
 (qCC X heard2 host3 ok9 t10 w11 x12 x13 x14 t15 W49 .undef K s)
 (oK (qAC 1 x12) λW115=>oK (rd1 s W115) λW116=>wC TP X 21 [W116] (λW117 S118=>oK (qAy .not W117) λW119=>qCC X heard2 host3 ok9 t10 w11 x12 x13 x14 t15 W49 W119 K S118) s))
 (oK (qAy .not t15) λW120=>qAL W120
 (oK (qAQ x13) λW193=>oK (qAQ heard2) λW195=>oK (negB true (eqV 0 false (.int .i64 W193) (.int .i64 W195))) λW197=>qAs X heard2 host3 ok9 t10 w11 x12 x13 x14 t15 W48 W120 W197 K s)
 (qAs X heard2 host3 ok9 t10 w11 x12 x13 x14 t15 W48 W120 .undef K s))
def qAi(X:Td)(state1 heard2 host3 ok9 t10 t24 t27:AV)(K:KvP)(s:Hq):Prop:=
 oK (qAO t24 (.bool true) t27) λW12=>qAL W12
 (K ok9 s)
 (oK (rdN s 19 t10) λW13=>wC TP X 14 [(.agg W13),state1] (λW14 S15=>newK 36 [.nilslc,.nilslc,.nilslc,.nilslc] (λB16 S17=>oK (qA7 S17 4 (.ptr B16 0) W14) λS18=>oK (qAC 6 t10) λW19=>oK (rd1 S18 W19) λW20=>oK (qAQ W20) λW21=>wC TP X 15 [host3,(.int .i64 W21)] (λW23 S24=>oK (rdN S24 19 t10) λW25=>wC TP X 18 [(.agg W25),W23] (λW26 S27=>newK 48 [(.int .u64 0),(.int .u64 0),(.int .i64 0),(.int .i64 0),(.int .u64 0),(.int .u32 0),(.int .u64 0),(.int .u32 0),(.int .u32 0),(.int .u32 0),(.int .i64 0),(.int .i64 0),(.int .i64 0),(.int .i64 0),(.int .u64 0)] (λB28 S29=>oK (qA7 S29 15 (.ptr B28 0) W26) λS30=>oK (rdN S30 19 t10) λW31=>oK (rdN S30 4 (.ptr B16 0)) λW32=>oK (rdN S30 15 (.ptr B28 0)) λW33=>wC TP X 19 [(.agg W31),(.agg W32),heard2,W23,(.agg W33)] (λW34 S35=>oK (rdN S35 19 t10) λW36=>oK (rdN S35 4 (.ptr B16 0)) λW37=>oK (rdN S35 15 (.ptr B28 0)) λW38=>wC TP X 20 [(.agg W36),(.agg W37),W23,(.agg W38)] (λW39 S40=>oK (qAf W39 0) λW41=>oK (qAf W39 1) λW42=>oK (qAQ W34) λW43=>oK (qAQ heard2) λW45=>oK (qAF .lss (.int .i64 W43) (.int .i64 W45)) λW47=>qAL W47
 (qBK X heard2 W23 ok9 t10 (.ptr B16 0) (.ptr B28 0) W34 W41 W42 W47 .undef K S40)
 (oK (qAQ W34) λW198=>oK (qAQ heard2) λW200=>oK (qAF .add (.int .i64 W200) (.int .i64 1)) λW202=>oK (qAF .gtr (.int .i64 W198) W202) λW203=>qBK X heard2 W23 ok9 t10 (.ptr B16 0) (.ptr B28 0) W34 W41 W42 W47 W203 K S40)) S35) S30) S27) S24) S18) S15) s)
def qD6(X:Td)(l0 state1 heard2 host3:AV)(K:KvP)(s:Hq):Prop:=
 wC TP X 3 [] (λW0 S1=>wC TP X 13 [l0] (λW2 S3=>newK 31 zR1 (λB4 S5=>oK (qA7 S5 19 (.ptr B4 0) W2) λS6=>oK (qAC 6 (.ptr B4 0)) λW7=>oK (rd1 S6 W7) λW8=>oK (qAQ W8) λW9=>oK (negB false (eqV 0 true (.int .i64 W9) (.int .i64 0))) λW11=>qAL W11
 (qAi X state1 heard2 host3 W0 (.ptr B4 0) W11 .undef K S6)
 (oK (qAQ heard2) λW204=>oK (qAF .gtr (.int .i64 W204) (.int .i64 60)) λW206=>qAi X state1 heard2 host3 W0 (.ptr B4 0) W11 W206 K S6)) S3) S1) s
def qDT:Nat->List Nat:=λk=>cond (Nat.beq k 26) [16] ([])
theorem qDX{l0 state1 heard2 host3:AV}{K:KvP}{s:Hq}(h:qD6 XX l0 state1 heard2 host3 K s):wC TP XX 5 [l0,state1,heard2,host3] K s:=wOK qA2 qDT rfl Tryz.func5 h
def qK4(X:Td)(t2 t5 w6 n9 x10 t11:AV)(I3:IvP)(m3:Nat)(I2:IvP)(m2:Nat)(K:KvP)(s:Hq):Prop:=
 oK (qAC 5 t2) λW51=>oK (rd1 s W51) λW52=>oK (qAQ W52) λW53=>oK (qAF .lss t11 (.int .i64 W53)) λW55=>qAL W55
 (wC TP X 48 [t5,(.int .i64 8)] (λW56 S57=>oK (negB true (eqV 0 true W56 (.int .i64 7))) λW58=>oK (qAr (repl 1 [(.bool false)]) [(0,1,W58)]) λC59=>qAW C59=true/\newK 4 C59 (λB60 S61=>appK 4 1 x10 (.slc B60 0 1 (some 1) 1) (λW62 S63=>oK (qAF .add t11 (.int .i64 1)) λW64=>∃m',m'<m3/\I3 [W62,W64] S63 m') S61) S57) s)
 (oK (qAC 2 w6) λW65=>oK (rd1 s W65) λW66=>oK (qAr (repl 1 [.nilslc]) [(0,1,x10)]) λC67=>qAW C67=true/\newK 32 C67 (λB68 S69=>appK 32 1 W66 (.slc B68 0 1 (some 1) 1) (λW70 S71=>oK (qAC 2 w6) λW72=>oK (wr1 S71 W72 W70) λS73=>oK (qAF .add n9 (.int .i64 1)) λW74=>∃m',m'<m2/\I2 [W74] S73 m') S69) s)
def qEf(X:Td)(w6 h12 t13:AV)(I4:IvP)(m4:Nat)(K:KvP)(s:Hq):Prop:=
 oK (qAC 3 w6) λW88=>oK (rd1 s W88) λW89=>oK (qAr (repl 1 [(.int .i64 0)]) [(0,1,t13)]) λC90=>qAW C90=true/\newK 3 C90 (λB91 S92=>appK 3 1 W89 (.slc B91 0 1 (some 1) 1) (λW93 S94=>oK (qAC 3 w6) λW95=>oK (wr1 S94 W95 W93) λS96=>oK (qAF .add h12 (.int .i64 1)) λW97=>∃m',m'<m4/\I4 [W97] S96 m') S92) s
def qIL(X:Td)(t2 t4 t5 w6 h12:AV)(I4:IvP)(m4:Nat)(K:KvP)(s:Hq):Prop:=
 oK (qAC 6 t2) λW75=>oK (rd1 s W75) λW76=>oK (qAQ W76) λW77=>oK (qAF .lss h12 (.int .i64 W77)) λW79=>qAL W79
 (oK (qAC 6 t2) λW80=>oK (rd1 s W80) λW81=>oK (qAU 4 W81 h12) λW82=>oK (qAC 3 W82) λW83=>oK (rd1 s W83) λW84=>wC TP X 48 [t5,(.int .i64 4)] (λW85 S86=>oK (negB false (eqV 0 true W85 (.int .i64 3))) λW87=>qAL W87
 (oK (rdN S86 19 t2) λW98=>oK (qAC 6 t2) λW99=>oK (rd1 S86 W99) λW100=>oK (qAU 4 W100 h12) λW101=>oK (qAC 2 W101) λW102=>oK (rd1 S86 W102) λW103=>∃h_104:Hq,(∀b,h_104 b≠none->S86 b≠none)/\
 wC TP X 48 [t5,(.int .i64 6)] (λW105 S106=>(∀b,S86 b≠none->(cutH [((hdel S86 (qAk t2)),S86),((hdel S86 (qAk W99)),S86),((hdel S86 (qAk W102)),S86)] (minus S86 h_104)) b=none->S106 b=none)->
 wC TP X 55 [(.agg W98),W103,W105] (λW107 S108=>qEf X w6 h12 W107 I4 m4 K S108) (add S106 (rest S86 (cutH [((hdel S86 (qAk t2)),S86),((hdel S86 (qAk W99)),S86),((hdel S86 (qAk W102)),S86)] (minus S86 h_104))))) (cutH [((hdel S86 (qAk t2)),S86),((hdel S86 (qAk W99)),S86),((hdel S86 (qAk W102)),S86)] (minus S86 h_104)))
 (qEf X w6 h12 W84 I4 m4 K S86)) s)
 (oK (rdN s 4 w6) λW109=>oK (qA7 s 4 t4 (.agg W109)) λS110=>oK (rdN S110 4 t4) λt4_111=>K (.agg t4_111) S110)
def qIG(X:Td)(t2 t4 t5 w6 n9:AV)(I2:IvP)(m2:Nat)(K:KvP)(s:Hq):Prop:=
 oK (qAC 0 t2) λW48=>oK (rd1 s W48) λW49=>oK (qAF .lss n9 W49) λW50=>qAL W50
 (∃I3:IvP,(∃m,I3 [.nilslc,(.int .i64 0)] s m)/\∀(f:Env) (s:Hq) (m3:Nat),I3 [f 10,f 11] s m3->
 qK4 X t2 t5 w6 n9 (f 10) (f 11) I3 m3 I2 m2 K s)
 (∃I4:IvP,(∃m,I4 [(.int .i64 0)] s m)/\∀(f:Env) (s:Hq) (m4:Nat),I4 [f 12] s m4->
 qIL X t2 t4 t5 w6 (f 12) I4 m4 K s)
def qHz(X:Td)(t2 t4 t5 w6 i8:AV)(I1:IvP)(m1:Nat)(K:KvP)(s:Hq):Prop:=
 oK (qAC 2 t2) λW29=>oK (rd1 s W29) λW30=>oK (qAQ W30) λW31=>oK (qAF .lss i8 (.int .i64 W31)) λW33=>qAL W33
 (oK (qAC 1 w6) λW34=>oK (rd1 s W34) λW35=>∃h_36:Hq,(∀b,h_36 b≠none->s b≠none)/\
 wC TP X 48 [t5,(.int .i64 6)] (λW37 S38=>(∀b,s b≠none->(cutH [((hdel s (qAk W34)),s)] (minus s h_36)) b=none->S38 b=none)->
 oK (negB true (eqV 0 true W37 (.int .i64 5))) λW39=>oK (qAr (repl 1 [(.bool false)]) [(0,1,W39)]) λC40=>qAW C40=true/\newK 4 C40 (λB41 S42=>(∀b,(add S38 (rest s (cutH [((hdel s (qAk W34)),s)] (minus s h_36)))) b≠none->(add S38 (rest s (cutH [((hdel s (qAk W34)),s)] (minus s h_36)))) b=none->S42 b=none)->
 appK 4 1 W35 (.slc B41 0 1 (some 1) 1) (λW43 S44=>oK (qAC 1 w6) λW45=>oK (wr1 S44 W45 W43) λS46=>oK (qAF .add i8 (.int .i64 1)) λW47=>∃m',m'<m1/\I1 [W47] S46 m') (add (add S38 (rest s (cutH [((hdel s (qAk W34)),s)] (minus s h_36)))) S42)) (frz (add S38 (rest s (cutH [((hdel s (qAk W34)),s)] (minus s h_36)))))) (cutH [((hdel s (qAk W34)),s)] (minus s h_36)))
 (∃I2:IvP,(∃m,I2 [(.int .i64 0)] s m)/\∀(f:Env) (s:Hq) (m2:Nat),I2 [f 9] s m2->
 qIG X t2 t4 t5 w6 (f 9) I2 m2 K s)
def qH3(X:Td)(t2 t4 t5 w6 n7:AV)(I0:IvP)(m0:Nat)(K:KvP)(s:Hq):Prop:=
 oK (qAC 0 t2) λW9=>oK (rd1 s W9) λW10=>oK (qAC 1 t2) λW11=>oK (rd1 s W11) λW12=>oK (qAF .add W10 W12) λW13=>oK (qAF .lss n7 W13) λW14=>qAL W14
 (oK (qAC 0 w6) λW15=>oK (rd1 s W15) λW16=>∃h_17:Hq,(∀b,h_17 b≠none->s b≠none)/\
 wC TP X 48 [t5,(.int .i64 9)] (λW18 S19=>(∀b,s b≠none->(cutH [((hdel s (qAk W15)),s)] (minus s h_17)) b=none->S19 b=none)->
 oK (negB true (eqV 0 true W18 (.int .i64 8))) λW20=>oK (qAr (repl 1 [(.bool false)]) [(0,1,W20)]) λC21=>qAW C21=true/\newK 4 C21 (λB22 S23=>(∀b,(add S19 (rest s (cutH [((hdel s (qAk W15)),s)] (minus s h_17)))) b≠none->(add S19 (rest s (cutH [((hdel s (qAk W15)),s)] (minus s h_17)))) b=none->S23 b=none)->
 appK 4 1 W16 (.slc B22 0 1 (some 1) 1) (λW24 S25=>oK (qAC 0 w6) λW26=>oK (wr1 S25 W26 W24) λS27=>oK (qAF .add n7 (.int .i64 1)) λW28=>∃m',m'<m0/\I0 [W28] S27 m') (add (add S19 (rest s (cutH [((hdel s (qAk W15)),s)] (minus s h_17)))) S23)) (frz (add S19 (rest s (cutH [((hdel s (qAk W15)),s)] (minus s h_17)))))) (cutH [((hdel s (qAk W15)),s)] (minus s h_17)))
 (∃I1:IvP,(∃m,I1 [(.int .i64 0)] s m)/\∀(f:Env) (s:Hq) (m1:Nat),I1 [f 8] s m1->
 qHz X t2 t4 t5 w6 (f 8) I1 m1 K s)
def qU8(X:Td)(t0 l1:AV)(K:KvP)(s:Hq):Prop:=
 boxK 31 t0 (λB0 S1=>newK 36 [.nilslc,.nilslc,.nilslc,.nilslc] (λB2 S3=>oK (qAr [.nilslc,(.int .i64 0)] [(0,1,l1)]) λC4=>boxK 110 (.agg C4) (λB5 S6=>newK 36 [.nilslc,.nilslc,.nilslc,.nilslc] (λB7 S8=>∃I0:IvP,(∃m,I0 [(.int .i64 0)] S8 m)/\∀(f:Env) (s:Hq) (m0:Nat),I0 [f 7] s m0->
 qH3 X B0 (.ptr B2 0) B5 (.ptr B7 0) (f 7) I0 m0 K s) S6) S3) S1) s
def qOd:Nat->List Nat:=λk=>cond (Nat.beq k 8) [7] (cond (Nat.beq k 1000026) [3] (cond (Nat.beq k 16) [8] (cond (Nat.beq k 1000041) [3] (cond (Nat.beq k 24) [9] (cond (Nat.beq k 32) [10,11] (cond (Nat.beq k 42) [12] (cond (Nat.beq k 1000090) [8] ([]))))))))
theorem qPE{t0 l1:AV}{K:KvP}{s:Hq}(h:qU8 XX t0 l1 K s):wC TP XX 14 [t0,l1] K s:=wOK qA2 qOd rfl Tryz.func14 h
def qHw(X:Td)(l0 x1 i5:AV)(I0:IvP)(m0:Nat)(K:KvP)(s:Hq):Prop:=
 oK (qAQ l0) λW0=>oK (qAF .lss i5 (.int .i64 W0)) λW2=>qAL W2
 (oK (qAU 1 l0 i5) λW3=>oK (rd1 s W3) λW4=>oK (negB false (eqV 0 false W4 x1)) λW5=>qAL W5
 (K (.bool true) s)
 (oK (qAF .add i5 (.int .i64 1)) λW6=>∃m',m'<m0/\I0 [W6] s m'))
 (K (.bool false) s)
def qKl(X:Td)(l0 x1:AV)(K:KvP)(s:Hq):Prop:=
 ∃I0:IvP,(∃m,I0 [(.int .i64 0)] s m)/\∀(f:Env) (s:Hq) (m0:Nat),I0 [f 5] s m0->
 qHw X l0 x1 (f 5) I0 m0 K s
def qKm:Nat->List Nat:=λk=>cond (Nat.beq k 4) [5] ([])
theorem qLh{l0 x1:AV}{K:KvP}{s:Hq}(h:qKl XX l0 x1 K s):wC TP XX 16 [l0,x1] K s:=wOK qA2 qKm rfl Tryz.func16 h
def qB8(X:Td)(host1 t2 t4 t16 t20:AV)(K:KvP)(s:Hq):Prop:=
 oK (qAO t16 (.bool true) t20) λW11=>qAL W11
 (oK (qAr [(.int .u64 0),(.int .u64 0),(.int .i64 0),(.int .i64 0),(.int .u64 0),(.int .u32 0),(.int .u64 0),(.int .u32 0),(.int .u32 0),(.int .u32 0),(.int .i64 0),(.int .i64 0),(.int .i64 0),(.int .i64 0),(.int .u64 0)] []) λC12=>oK (qA7 s 15 t4 (.agg C12)) λS13=>oK (rdN S13 15 t4) λt4_14=>K (.agg t4_14) S13)
 (oK (qAC 6 t2) λW15=>oK (rd1 s W15) λW16=>oK (qAU 4 W16 host1) λW17=>oK (rdN s 4 W17) λW18=>newK 61 [(.int .u64 0),(.int .u32 0),(.int .i64 0),(.int .i64 0)] (λB19 S20=>oK (qA7 S20 4 (.ptr B19 0) (.agg W18)) λS21=>oK (qAC 1 (.ptr B19 0)) λW22=>oK (rd1 S21 W22) λW23=>oK (negB false (eqV 0 true W23 (.int .u32 0))) λW24=>qAL W24
 (oK (qAC 0 (.ptr B19 0)) λW25=>oK (rd1 S21 W25) λW26=>oK (qAr [(.int .u64 0),(.int .u64 0),(.int .i64 0),(.int .i64 0),(.int .u64 0),(.int .u32 0),(.int .u64 0),(.int .u32 0),(.int .u32 0),(.int .u32 0),(.int .i64 0),(.int .i64 0),(.int .i64 0),(.int .i64 0),(.int .u64 0)] [(0,1,W26),(1,1,(.int .u64 281474976710655)),(2,1,(.int .i64 0))]) λC27=>oK (qA7 S21 15 t4 (.agg C27)) λS28=>oK (rdN S28 15 t4) λt4_29=>K (.agg t4_29) S28)
 (oK (qAC 0 (.ptr B19 0)) λW30=>oK (rd1 S21 W30) λW31=>oK (qAC 1 (.ptr B19 0)) λW32=>oK (rd1 S21 W32) λW33=>wC TP X 57 [W31,W33,(.int .u64 0)] (λW34 S35=>oK (qA7 S35 15 t4 W34) λS36=>oK (rdN S36 15 t4) λt4_37=>K (.agg t4_37) S36) S21)) s)
def qGb(X:Td)(t0 host1:AV)(K:KvP)(s:Hq):Prop:=
 boxK 31 t0 (λB0 S1=>newK 48 [(.int .u64 0),(.int .u64 0),(.int .i64 0),(.int .i64 0),(.int .u64 0),(.int .u32 0),(.int .u64 0),(.int .u32 0),(.int .u32 0),(.int .u32 0),(.int .i64 0),(.int .i64 0),(.int .i64 0),(.int .i64 0),(.int .u64 0)] (λB2 S3=>oK (rdN S3 19 B0) λW4=>oK (qAr [.nilslc,.nilslc,.nilslc,.nilslc] []) λC5=>wC TP X 38 [(.agg W4),(.agg C5)] (λW6 S7=>oK (qAf W6 0) λW8=>oK (qAf W6 1) λW9=>oK (qAy .not W9) λW10=>qAL W10
 (qB8 X host1 B0 (.ptr B2 0) W10 .undef K S7)
 (wC TP X 56 [W8,host1] (λW38 S39=>oK (qAy .not W38) λW40=>qB8 X host1 B0 (.ptr B2 0) W10 W40 K S39) S7)) S3) S1) s
theorem qFH{t0 host1:AV}{K:KvP}{s:Hq}(h:qGb XX t0 host1 K s):wC TP XX 18 [t0,host1] K s:=wOK qA2 nA0 rfl Tryz.func18 h
def qCe(X:Td)(x11 t80 t81 t87 t88:AV)(K:KvP)(s:Hq):Prop:=
 oK (qAO t87 (.bool true) t88) λW55=>oK (qAU 3 t80 t81) λW56=>oK (qAC 2 W56) λW57=>oK (wr1 s W57 W55) λS58=>K x11 S58
def qBy(X:Td)(x8 x11 x14 t63 t66:AV)(K:KvP)(s:Hq):Prop:=
 oK (qAO t63 t66 (.bool false)) λW40=>wC TP X 59 [x11,(.fn (.func 60) [] [x8,x14])] (λW41 S42=>oK (qAF .lss W41 (.int .i64 0)) λW43=>qAL W43
 (oK (rd1 S42 x8) λW44=>oK (rd1 S42 x14) λW45=>oK (qAr [(.int .i64 0),(.int .i64 0),(.bool false)] [(0,1,W44),(1,1,W45),(2,1,W40)]) λC46=>oK (qAr (repl 1 [(.int .i64 0),(.int .i64 0),(.bool false)]) [(0,3,(.agg C46))]) λC47=>qAW C47=true/\newK 77 C47 (λB48 S49=>appK 77 3 x11 (.slc B48 0 1 (some 1) 3) (λW50 S51=>K W50 S51) S49) S42)
 (oK (qAU 3 x11 W41) λW52=>oK (qAC 2 W52) λW53=>oK (rd1 S42 W53) λW54=>qAL W54
 (qCe X x11 x11 W41 W54 .undef K S42)
 (qCe X x11 x11 W41 W54 W40 K S42))) s
def qCg(X:Td)(x8 x11 x14 h15 t55 t61:AV)(K:KvP)(s:Hq):Prop:=
 oK (qAO t55 t61 (.bool false)) λW39=>qAL W39
 (oK (qAC 1 h15) λW59=>oK (rd1 s W59) λW60=>oK (negB true (eqV 0 true W60 (.int .u32 0))) λW61=>qBy X x8 x11 x14 W39 W61 K s)
 (qBy X x8 x11 x14 W39 .undef K s)
def qCf(X:Td)(x8 x9 x11 x14 h15 t47 t53:AV)(K:KvP)(s:Hq):Prop:=
 oK (qAO t47 t53 (.bool false)) λW38=>qAL W38
 (oK (qAC 3 x9) λW62=>oK (qAC 2 W62) λW63=>oK (rd1 s W63) λW64=>oK (qAC 1 h15) λW65=>oK (rd1 s W65) λW66=>oK (negB false (eqV 0 false W64 W66)) λW67=>qCg X x8 x11 x14 h15 W38 W67 K s)
 (qCg X x8 x11 x14 h15 W38 .undef K s)
def qK8(X:Td)(t0 w1 heard2 host3 x4:AV)(K:KvP)(s:Hq):Prop:=
 boxK 31 t0 (λB0 S1=>boxK 36 w1 (λB2 S3=>boxK 3 host3 (λB4 S5=>boxK 48 x4 (λB6 S7=>wC TP X 58 [heard2] (λW8 S9=>oK (rdN S9 19 B0) λW10=>oK (rdN S9 4 B2) λW11=>wC TP X 38 [(.agg W10),(.agg W11)] (λW12 S13=>oK (qAf W12 0) λW14=>oK (qAf W12 1) λW15=>oK (qAy .not W15) λW16=>qAL W16
 (K W8 S13)
 (oK (rd1 S13 B4) λW17=>oK (rdN S13 15 B6) λW18=>wC TP X 39 [W14,W17,(.agg W18)] (λW19 S20=>oK (qAf W19 0) λW21=>oK (qAf W19 1) λW22=>newK 3 [(.int .i64 0)] (λB23 S24=>oK (wr1 S24 (.ptr B23 0) W21) λS25=>oK (qAy .not W22) λW26=>qAL W26
 (K W8 S25)
 (oK (qAC 6 B0) λW27=>oK (rd1 S25 W27) λW28=>oK (rd1 S25 B4) λW29=>oK (qAU 4 W28 W29) λW30=>oK (rdN S25 4 W30) λW31=>newK 61 [(.int .u64 0),(.int .u32 0),(.int .i64 0),(.int .i64 0)] (λB32 S33=>oK (qA7 S33 4 (.ptr B32 0) (.agg W31)) λS34=>oK (qAC 2 B6) λW35=>oK (rd1 S34 W35) λW36=>oK (negB false (eqV 0 true W36 (.int .i64 1))) λW37=>qAL W37
 (oK (qAC 3 B6) λW68=>oK (qAC 1 W68) λW69=>oK (rd1 S34 W69) λW70=>oK (qAC 0 (.ptr B32 0)) λW71=>oK (rd1 S34 W71) λW72=>oK (negB false (eqV 0 false W70 W72)) λW73=>qCf X B4 B6 W8 (.ptr B23 0) (.ptr B32 0) W37 W73 K S34)
 (qCf X B4 B6 W8 (.ptr B23 0) (.ptr B32 0) W37 .undef K S34)) S25)) S20) S13)) S9) S7) S5) S3) S1) s
theorem qIy{t0 w1 heard2 host3 x4:AV}{K:KvP}{s:Hq}(h:qK8 XX t0 w1 heard2 host3 x4 K s):wC TP XX 19 [t0,w1,heard2,host3,x4] K s:=wOK qA2 nA0 rfl Tryz.func19 h
def qKq(X:Td)(t0 w1 host2 x3:AV)(K:KvP)(s:Hq):Prop:=
 boxK 31 t0 (λB0 S1=>boxK 36 w1 (λB2 S3=>boxK 48 x3 (λB4 S5=>oK (rdN S5 19 B0) λW6=>oK (rdN S5 4 B2) λW7=>wC TP X 38 [(.agg W6),(.agg W7)] (λW8 S9=>oK (qAf W8 0) λW10=>oK (qAf W8 1) λW11=>oK (qAy .not W11) λW12=>qAL W12
 (K (.tup [(.int .i64 0),(.bool false)]) S9)
 (oK (rdN S9 15 B4) λW13=>wC TP X 61 [W10,host2,(.agg W13)] (λW14 S15=>oK (qAf W14 0) λW16=>oK (qAf W14 1) λW17=>K (.tup [W16,W17]) S15) S9)) S5) S3) S1) s
theorem qIO{t0 w1 host2 x3:AV}{K:KvP}{s:Hq}(h:qKq XX t0 w1 host2 x3 K s):wC TP XX 20 [t0,w1,host2,x3] K s:=wOK qA2 nA0 rfl Tryz.func20 h
def qKW(X:Td)(t0 w1 heard2 leaf3 host4 ip5:AV)(K:KvP)(s:Hq):Prop:=
 boxK 31 t0 (λB0 S1=>boxK 36 w1 (λB2 S3=>oK (rdN S3 19 B0) λW4=>oK (rdN S3 4 B2) λW5=>wC TP X 38 [(.agg W4),(.agg W5)] (λW6 S7=>oK (qAf W6 0) λW8=>oK (qAf W6 1) λW9=>oK (qAy .not W9) λW10=>qAL W10
 (K (.bool false) S7)
 (wC TP X 41 [W8,leaf3] (λW11 S12=>wC TP X 62 [W8,W11,heard2,host4,ip5] (λW13 S14=>K W13 S14) S12) S7)) S3) S1) s
theorem qId{t0 w1 heard2 leaf3 host4 ip5:AV}{K:KvP}{s:Hq}(h:qKW XX t0 w1 heard2 leaf3 host4 ip5 K s):wC TP XX 22 [t0,w1,heard2,leaf3,host4,ip5] K s:=wOK qA2 nA0 rfl Tryz.func22 h
end Go.AM
namespace Go.AM
open Go Go.Proofs
set_option maxRecDepth 100000
def qJG(X:Td)(t0 w1:AV)(K:KvP)(s:Hq):Prop:=
 boxK 31 t0 (λB0 S1=>boxK 36 w1 (λB2 S3=>oK (rdN S3 19 B0) λW4=>wC TP X 70 [(.agg W4)] (λW5 S6=>oK (qAf W5 0) λW7=>oK (qAf W5 1) λW8=>oK (qAf W5 2) λW9=>oK (negB true (eqV 0 true W7 (.int .i64 0))) λW10=>qAL W10
 (K (.tup [.nilptr,(.bool false)]) S6)
 (oK (rdN S6 19 B0) λW11=>oK (rdN S6 4 B2) λW12=>oK (qAr [(.int .i64 0),(.int .i64 0),.nilslc,.nilslc,.nilslc,.nilslc,.nilslc,.nilslc,(.int .i64 0),(.int .i64 0),(.int .i64 0),(.bool false),(.bool false),(.int .i64 0),(.int .i64 0),(.int .i64 0),(.int .i64 0),(.int .i64 0),(.int .i64 0),.nilslc,.nilslc,.nilslc,.nilslc] [(0,19,(.agg W11)),(19,4,(.agg W12))]) λC13=>boxK 136 (.agg C13) (λB14 S15=>K (.tup [B14,(.bool true)]) S15) S6)) S3) S1) s
theorem qHj{t0 w1:AV}{K:KvP}{s:Hq}(h:qJG XX t0 w1 K s):wC TP XX 38 [t0,w1] K s:=wOK qA2 nA0 rfl Tryz.func38 h
def qAw(X:Td)(x8 t33 t36:AV)(K:KvP)(s:Hq):Prop:=
 oK (qAO t33 (.bool true) t36) λW9=>qAL W9
 (K (.tup [(.int .i64 0),(.bool false)]) s)
 (K (.tup [x8,(.bool true)]) s)
def qA0(X:Td)(x5 x8 t19 t31:AV)(K:KvP)(s:Hq):Prop:=
 oK (qAO t19 (.bool true) t31) λW8=>qAL W8
 (qAw X x8 W8 .undef K s)
 (oK (rdN s 15 x5) λW10=>wC TP X 71 [(.agg W10)] (λW11 S12=>oK (negB true (eqV 0 true W11 (.int .i64 0))) λW13=>qAw X x8 W8 W13 K S12) s)
def qFg(X:Td)(t0 host1 x2:AV)(K:KvP)(s:Hq):Prop:=
 boxK 48 x2 (λB0 S1=>oK (rdN S1 15 B0) λW2=>wC TP X 61 [t0,host1,(.agg W2)] (λW3 S4=>oK (qAf W3 0) λW5=>oK (qAf W3 1) λW6=>oK (qAy .not W6) λW7=>qAL W7
 (qA0 X B0 W5 W7 .undef K S4)
 (oK (qAC 0 B0) λW14=>oK (rd1 S4 W14) λW15=>oK (qAT t0) λW16=>oK (qAC 0 W16) λW17=>oK (qAC 6 W17) λW18=>oK (rd1 S4 W18) λW19=>oK (qAU 4 W19 host1) λW20=>oK (qAC 0 W20) λW21=>oK (rd1 S4 W21) λW22=>oK (negB true (eqV 0 false W15 W22)) λW23=>qA0 X B0 W5 W7 W23 K S4)) S1) s
theorem qEp{t0 host1 x2:AV}{K:KvP}{s:Hq}(h:qFg XX t0 host1 x2 K s):wC TP XX 39 [t0,host1,x2] K s:=wOK qA2 nA0 rfl Tryz.func39 h
def qAu(X:Td)(t0 host1 x6 t31 t39:AV)(K:KvP)(s:Hq):Prop:=
 oK (qAO t31 (.bool true) t39) λW11=>qAL W11
 (K (.tup [(.int .i64 0),(.bool false)]) s)
 (oK (qAT t0) λW12=>oK (qAC 0 W12) λW13=>oK (qAC 5 W13) λW14=>oK (rd1 s W14) λW15=>oK (qAU 2 W15 x6) λW16=>oK (qAC 1 W16) λW17=>oK (rd1 s W17) λW18=>oK (qAT t0) λW19=>oK (qAC 0 W19) λW20=>oK (qAC 6 W20) λW21=>oK (rd1 s W21) λW22=>oK (qAU 4 W22 host1) λW23=>oK (qAC 2 W23) λW24=>oK (rd1 s W24) λW25=>wC TP X 72 [W18,W25] (λW26 S27=>oK (qAy .not W26) λW28=>qAL W28
 (K (.tup [(.int .i64 0),(.bool false)]) S27)
 (K (.tup [x6,(.bool true)]) S27)) s)
def qAx(X:Td)(t0 host1 t11 t19:AV)(K:KvP)(s:Hq):Prop:=
 oK (qAO t11 (.bool true) t19) λW3=>qAL W3
 (K (.tup [(.int .i64 0),(.bool false)]) s)
 (oK (qAT t0) λW4=>oK (qAC 19 W4) λW5=>oK (qAC 3 W5) λW6=>oK (rd1 s W6) λW7=>oK (qAU 1 W7 host1) λW8=>oK (rd1 s W8) λW9=>oK (qAF .lss W9 (.int .i64 0)) λW10=>qAL W10
 (qAu X t0 host1 W9 W10 .undef K s)
 (oK (qAT t0) λW29=>oK (qAC 0 W29) λW30=>oK (qAC 5 W30) λW31=>oK (rd1 s W31) λW32=>oK (qAQ W32) λW33=>oK (qAF .geq W9 (.int .i64 W33)) λW35=>qAu X t0 host1 W9 W10 W35 K s))
def qFh(X:Td)(t0 host1:AV)(K:KvP)(s:Hq):Prop:=
 wC TP X 56 [t0,host1] (λW0 S1=>oK (qAy .not W0) λW2=>qAL W2
 (qAx X t0 host1 W2 .undef K S1)
 (oK (qAT t0) λW36=>oK (qAC 19 W36) λW37=>oK (qAC 3 W37) λW38=>oK (rd1 S1 W38) λW39=>oK (qAQ W39) λW40=>oK (qAF .geq host1 (.int .i64 W40)) λW42=>qAx X t0 host1 W2 W42 K S1)) s
theorem qEg{t0 host1:AV}{K:KvP}{s:Hq}(h:qFh XX t0 host1 K s):wC TP XX 40 [t0,host1] K s:=wOK qA2 nA0 rfl Tryz.func40 h
def qBC(X:Td)(leaf1 t2 t18 t26:AV)(K:KvP)(s:Hq):Prop:=
 oK (qAO t18 (.bool true) t26) λW4=>qAL W4
 (K .nilslc s)
 (oK (rd1 s t2) λW5=>wC TP X 74 [leaf1,(.fn (.func 75) [W5] [])] (λW6 S7=>wC TP X 76 [W6,(.fn (.func 77) [] [t2])] (λW8 S9=>wC TP X 78 [W8] (λW10 S11=>K W8 S11) S9) S7) s)
def qBE(X:Td)(leaf1 t2 t9 t16:AV)(K:KvP)(s:Hq):Prop:=
 oK (qAO t9 (.bool true) t16) λW3=>qAL W3
 (qBC X leaf1 t2 W3 .undef K s)
 (oK (rd1 s t2) λW12=>oK (qAT W12) λW13=>oK (qAC 19 W13) λW14=>oK (qAC 0 W14) λW15=>oK (rd1 s W15) λW16=>wC TP X 73 [W16,leaf1] (λW17 S18=>oK (qAy .not W17) λW19=>qBC X leaf1 t2 W3 W19 K S18) s)
def qHd(X:Td)(t0 leaf1:AV)(K:KvP)(s:Hq):Prop:=
 boxK 94 t0 (λB0 S1=>oK (qAF .lss leaf1 (.int .i64 0)) λW2=>qAL W2
 (qBE X leaf1 B0 W2 .undef K S1)
 (oK (rd1 S1 B0) λW20=>oK (qAT W20) λW21=>oK (qAC 0 W21) λW22=>oK (qAC 0 W22) λW23=>oK (rd1 S1 W23) λW24=>oK (qAF .geq leaf1 W24) λW25=>qBE X leaf1 B0 W2 W25 K S1)) s
theorem qFt{t0 leaf1:AV}{K:KvP}{s:Hq}(h:qHd XX t0 leaf1 K s):wC TP XX 41 [t0,leaf1] K s:=wOK qA2 nA0 rfl Tryz.func41 h
def qFy(X:Td)(l7 t8:AV)(I0:IvP)(m0:Nat)(K:KvP)(s:Hq):Prop:=
 oK (qAF .add t8 (.int .i64 1)) λW14=>∃m',m'<m0/\I0 [l7,W14] s m'
def qKk(X:Td)(bd1 n2 t3 l7 t8:AV)(I0:IvP)(m0:Nat)(K:KvP)(s:Hq):Prop:=
 oK (qAC 5 t3) λW2=>oK (rd1 s W2) λW3=>oK (qAQ W3) λW4=>oK (qAF .lss t8 (.int .i64 W4)) λW6=>qAL W6
 (oK (qAC 5 t3) λW7=>oK (rd1 s W7) λW8=>oK (qAU 2 W8 t8) λW9=>oK (qAC 1 W9) λW10=>oK (rd1 s W10) λW11=>wC TP X 16 [W11,bd1] (λW12 S13=>qAL W12
 (oK (qAr (repl 1 [(.int .i64 0)]) [(0,1,t8)]) λC15=>qAW C15=true/\newK 3 C15 (λB16 S17=>appK 3 1 l7 (.slc B16 0 1 (some 1) 1) (λW18 S19=>qFy X W18 t8 I0 m0 K S19) S17) S13)
 (qFy X l7 t8 I0 m0 K S13)) s)
 (oK (qAQ l7) λW20=>oK (negB false (eqV 0 true (.int .i64 W20) (.int .i64 0))) λW22=>qAL W22
 (K (.int .i64 (-1)) s)
 (oK (qAQ l7) λW23=>oK (qAF .rem n2 (.int .i64 W23)) λW25=>oK (qAU 1 l7 W25) λW26=>oK (rd1 s W26) λW27=>K W27 s))
def qU2(X:Td)(t0 bd1 n2:AV)(K:KvP)(s:Hq):Prop:=
 boxK 31 t0 (λB0 S1=>∃I0:IvP,(∃m,I0 [.nilslc,(.int .i64 0)] S1 m)/\∀(f:Env) (s:Hq) (m0:Nat),I0 [f 7,f 8] s m0->
 qKk X bd1 n2 B0 (f 7) (f 8) I0 m0 K s) s
def qOf:Nat->List Nat:=λk=>cond (Nat.beq k 6) [7,8] ([])
theorem qPd{t0 bd1 n2:AV}{K:KvP}{s:Hq}(h:qU2 XX t0 bd1 n2 K s):wC TP XX 55 [t0,bd1,n2] K s:=wOK qA2 qOf rfl Tryz.func55 h
def qBn(X:Td)(t7 t15:AV)(K:KvP)(s:Hq):Prop:=
 oK (qAO t7 t15 (.bool false)) λW1=>K W1 s
def qD9(X:Td)(t0 h1:AV)(K:KvP)(s:Hq):Prop:=
 oK (qAF .geq h1 (.int .i64 0)) λW0=>qAL W0
 (oK (qAT t0) λW2=>oK (qAC 0 W2) λW3=>oK (qAC 6 W3) λW4=>oK (rd1 s W4) λW5=>oK (qAQ W5) λW6=>oK (qAF .lss h1 (.int .i64 W6)) λW8=>qBn X W0 W8 K s)
 (qBn X W0 .undef K s)
theorem qGF{t0 h1:AV}{K:KvP}{s:Hq}(h:qD9 XX t0 h1 K s):wC TP XX 56 [t0,h1] K s:=wOK qA2 nA0 rfl Tryz.func56 h
def qI5(X:Td)(t0 ip1 data2:AV)(K:KvP)(s:Hq):Prop:=
 newK 48 [(.int .u64 0),(.int .u64 0),(.int .i64 0),(.int .i64 0),(.int .u64 0),(.int .u32 0),(.int .u64 0),(.int .u32 0),(.int .u32 0),(.int .u32 0),(.int .i64 0),(.int .i64 0),(.int .i64 0),(.int .i64 0),(.int .u64 0)] (λB0 S1=>wC TP X 87 [t0,ip1,ip1,data2] (λW2 S3=>oK (qA7 S3 15 (.ptr B0 0) W2) λS4=>oK (rdN S4 15 (.ptr B0 0)) λt6_5=>K (.agg t6_5) S4) S1) s
theorem qHm{t0 ip1 data2:AV}{K:KvP}{s:Hq}(h:qI5 XX t0 ip1 data2 K s):wC TP XX 57 [t0,ip1,data2] K s:=wOK qA2 nA0 rfl Tryz.func57 h
def qCM(X:Td)(t0:AV)(K:KvP)(s:Hq):Prop:=
 oK (negB false (eqV 5 true t0 .nilslc)) λW0=>qAL W0
 (K .nilslc s)
 (oK (qAr (repl 0 [(.int .i64 0),(.int .i64 0),(.bool false)]) []) λC1=>qAW C1=true/\newK 77 C1 (λB2 S3=>appK 77 3 (.slc B2 0 0 (some 0) 3) t0 (λW4 S5=>K W4 S5) S3) s)
theorem qDJ{t0:AV}{K:KvP}{s:Hq}(h:qCM XX t0 K s):wC TP XX 58 [t0] K s:=wOK qA2 nA0 rfl Tryz.func58 h
def qBc(X:Td)(t0 t1 t7 t8:AV)(I0:IvP)(m0:Nat)(K:KvP)(s:Hq):Prop:=
 oK (qAF .lss t8 t7) λW2=>qAL W2
 (oK (qAU 3 t0 t8) λW3=>oK (rdN s 3 W3) λW4=>funK TP X t1 [(.agg W4)] (λW5 S6=>qAL W5
 (K t8 S6)
 (oK (qAF .add t8 (.int .i64 1)) λW7=>∃m',m'<m0/\I0 [W7] S6 m')) s)
 (K (.int .i64 (-1)) s)
def qBq(X:Td)(t0 t1:AV)(K:KvP)(s:Hq):Prop:=
 oK (qAQ t0) λW0=>∃I0:IvP,(∃m,I0 [(.int .i64 0)] s m)/\∀(f:Env) (s:Hq) (m0:Nat),I0 [f 8] s m0->
 qBc X t0 t1 (.int .i64 W0) (f 8) I0 m0 K s
def qCn:Nat->List Nat:=λk=>cond (Nat.beq k 4) [8] ([])
theorem qCp{t0 t1:AV}{K:KvP}{s:Hq}(h:qBq XX t0 t1 K s):wC TP XX 59 [t0,t1] K s:=wOK qA2 qCn rfl Tryz.func59 h
def qCH(X:Td)(t9 t13:AV)(K:KvP)(s:Hq):Prop:=
 oK (qAO t9 t13 (.bool false)) λW6=>K W6 s
def qJA(X:Td)(e0 t1 t2:AV)(K:KvP)(s:Hq):Prop:=
 boxK 77 e0 (λB0 S1=>oK (qAC 0 B0) λW2=>oK (rd1 S1 W2) λW3=>oK (rd1 S1 t1) λW4=>oK (negB false (eqV 0 false W3 W4)) λW5=>qAL W5
 (oK (qAC 1 B0) λW7=>oK (rd1 S1 W7) λW8=>oK (rd1 S1 t2) λW9=>oK (negB false (eqV 0 false W8 W9)) λW10=>qCH X W5 W10 K S1)
 (qCH X W5 .undef K S1)) s
theorem qHn{e0 t1 t2:AV}{K:KvP}{s:Hq}(h:qJA XX e0 t1 t2 K s):wC TP XX 60 [e0,t1,t2] K s:=wOK qA2 nA0 rfl Tryz.func60 h
def qGk(X:Td)(t0 host1 x2:AV)(K:KvP)(s:Hq):Prop:=
 boxK 48 x2 (λB0 S1=>wC TP X 40 [t0,host1] (λW2 S3=>oK (qAf W2 0) λW4=>oK (qAf W2 1) λW5=>oK (qAy .not W5) λW6=>qAL W6
 (K (.tup [(.int .i64 0),(.bool false)]) S3)
 (wC TP X 63 [t0,W4] (λW7 S8=>oK (qAQ W7) λW9=>oK (negB false (eqV 0 true (.int .i64 W9) (.int .i64 0))) λW11=>qAL W11
 (K (.tup [(.int .i64 0),(.bool false)]) S8)
 (oK (rdN S8 15 B0) λW12=>wC TP X 88 [(.agg W12)] (λW13 S14=>oK (qAQ W7) λW15=>oK (qAF .rem W13 (.int .i64 W15)) λW17=>oK (qAU 1 W7 W17) λW18=>oK (rd1 S14 W18) λW19=>K (.tup [W19,(.bool true)]) S14) S8)) S3)) S1) s
theorem qFS{t0 host1 x2:AV}{K:KvP}{s:Hq}(h:qGk XX t0 host1 x2 K s):wC TP XX 61 [t0,host1,x2] K s:=wOK qA2 nA0 rfl Tryz.func61 h
def qA8(X:Td)(heard2 x6 x8 ip9 t21 t26:AV)(K:KvP)(s:Hq):Prop:=
 oK (qAO t21 (.bool true) t26) λW12=>qAL W12
 (K (.bool false) s)
 (wC TP X 90 [heard2,(.fn (.func 91) [] [x8,ip9,x6])] (λW13 S14=>K W13 S14) s)
def qHI(X:Td)(t0 area1 heard2 host3 ip4:AV)(K:KvP)(s:Hq):Prop:=
 boxK 34 area1 (λB0 S1=>boxK 3 host3 (λB2 S3=>boxK 4 ip4 (λB4 S5=>oK (rd1 S5 B2) λW6=>wC TP X 40 [t0,W6] (λW7 S8=>oK (qAf W7 0) λW9=>oK (qAf W7 1) λW10=>oK (qAy .not W10) λW11=>qAL W11
 (qA8 X heard2 B0 B2 B4 W11 .undef K S8)
 (oK (rd1 S8 B0) λW15=>wC TP X 89 [t0,W9,W15] (λW16 S17=>oK (qAy .not W16) λW18=>qA8 X heard2 B0 B2 B4 W11 W18 K S17) S8)) S5) S3) S1) s
theorem qFV{t0 area1 heard2 host3 ip4:AV}{K:KvP}{s:Hq}(h:qHI XX t0 area1 heard2 host3 ip4 K s):wC TP XX 62 [t0,area1,heard2,host3,ip4] K s:=wOK qA2 nA0 rfl Tryz.func62 h
end Go.AM
namespace Go.AM
open Go Go.Proofs
set_option maxRecDepth 100000
def qBM(X:Td)(result5 t30:AV)(I1:IvP)(m1:Nat)(K:KvP)(s:Hq):Prop:=
 oK (qAF .add t30 (.int .i64 1)) λW21=>∃m',m'<m1/\I1 [result5,W21] s m'
def qBO(X:Td)(result5 x7 t30 t41 t45:AV)(I1:IvP)(m1:Nat)(K:KvP)(s:Hq):Prop:=
 oK (qAO t41 t45 (.bool false)) λW20=>qAL W20
 (oK (qAr (repl 1 [(.int .i64 0)]) [(0,1,x7)]) λC22=>qAW C22=true/\newK 3 C22 (λB23 S24=>appK 3 1 result5 (.slc B23 0 1 (some 1) 1) (λW25 S26=>qBM X W25 t30 I1 m1 K S26) S24) s)
 (qBM X result5 t30 I1 m1 K s)
def qCv(X:Td)(t0 segment1 result5 t28 t29 t30:AV)(I1:IvP)(m1:Nat)(K:KvP)(s:Hq):Prop:=
 oK (qAF .lss t30 t29) λW11=>qAL W11
 (oK (qAU 1 t28 t30) λW12=>oK (rd1 s W12) λW13=>oK (qAT t0) λW14=>oK (qAC 19 W14) λW15=>oK (qAC 0 W15) λW16=>oK (rd1 s W16) λW17=>wC TP X 73 [W17,W13] (λW18 S19=>qAL W18
 (wC TP X 92 [t0,W13,segment1] (λW27 S28=>qBO X result5 W13 t30 W18 W27 I1 m1 K S28) S19)
 (qBO X result5 W13 t30 W18 .undef I1 m1 K S19)) s)
 (K result5 s)
def qA4(X:Td)(t0 segment1 t10 t18:AV)(K:KvP)(s:Hq):Prop:=
 oK (qAO t10 (.bool true) t18) λW1=>qAL W1
 (K .nilslc s)
 (oK (qAT t0) λW2=>oK (qAC 0 W2) λW3=>oK (qAC 5 W3) λW4=>oK (rd1 s W4) λW5=>oK (qAU 2 W5 segment1) λW6=>oK (qAC 0 W6) λW7=>oK (rd1 s W7) λW8=>oK (qAQ W8) λW9=>∃I1:IvP,(∃m,I1 [.nilslc,(.int .i64 0)] s m)/\∀(f:Env) (s:Hq) (m1:Nat),I1 [f 5,f 30] s m1->
 qCv X t0 segment1 (f 5) W8 (.int .i64 W9) (f 30) I1 m1 K s)
def qDS(X:Td)(t0 segment1:AV)(K:KvP)(s:Hq):Prop:=
 oK (qAF .lss segment1 (.int .i64 0)) λW0=>qAL W0
 (qA4 X t0 segment1 W0 .undef K s)
 (oK (qAT t0) λW29=>oK (qAC 0 W29) λW30=>oK (qAC 5 W30) λW31=>oK (rd1 s W31) λW32=>oK (qAQ W32) λW33=>oK (qAF .geq segment1 (.int .i64 W33)) λW35=>qA4 X t0 segment1 W0 W35 K s)
def qEn:Nat->List Nat:=λk=>cond (Nat.beq k 10) [5,30] ([])
theorem qEw{t0 segment1:AV}{K:KvP}{s:Hq}(h:qDS XX t0 segment1 K s):wC TP XX 63 [t0,segment1] K s:=wOK qA2 qEn rfl Tryz.func63 h
def qBd(X:Td)(t31 t39:AV)(K:KvP)(s:Hq):Prop:=
 oK (qAO t31 t39 (.bool false)) λW16=>K W16 s
def qBY(X:Td)(t0 l5 t21 t29:AV)(K:KvP)(s:Hq):Prop:=
 oK (qAO t21 t29 (.bool false)) λW15=>qAL W15
 (oK (qAT t0) λW17=>oK (qAC 19 W17) λW18=>oK (qAC 0 W18) λW19=>oK (rd1 s W19) λW20=>oK (qAC 1 l5) λW21=>oK (rd1 s W21) λW22=>wC TP X 73 [W20,W22] (λW23 S24=>qBd X W15 W23 K S24) s)
 (qBd X W15 .undef K s)
def qG6(X:Td)(t0 link1:AV)(K:KvP)(s:Hq):Prop:=
 oK (qAT t0) λW0=>oK (qAC 0 W0) λW1=>oK (qAC 2 W1) λW2=>oK (rd1 s W2) λW3=>oK (qAU 3 W3 link1) λW4=>oK (rdN s 3 W4) λW5=>newK 91 [(.int .i64 0),(.int .i64 0),(.int .i64 0)] (λB6 S7=>oK (qA7 S7 3 (.ptr B6 0) (.agg W5)) λS8=>oK (qAT t0) λW9=>oK (qAC 19 W9) λW10=>oK (qAC 1 W10) λW11=>oK (rd1 S8 W11) λW12=>wC TP X 73 [W12,link1] (λW13 S14=>qAL W13
 (oK (qAT t0) λW25=>oK (qAC 19 W25) λW26=>oK (qAC 0 W26) λW27=>oK (rd1 S14 W27) λW28=>oK (qAC 0 (.ptr B6 0)) λW29=>oK (rd1 S14 W29) λW30=>wC TP X 73 [W28,W30] (λW31 S32=>qBY X t0 (.ptr B6 0) W13 W31 K S32) S14)
 (qBY X t0 (.ptr B6 0) W13 .undef K S14)) S8) s
theorem qFP{t0 link1:AV}{K:KvP}{s:Hq}(h:qG6 XX t0 link1 K s):wC TP XX 67 [t0,link1] K s:=wOK qA2 nA0 rfl Tryz.func67 h
def qCc(X:Td)(t1 t36 t40 t44:AV)(K:KvP)(s:Hq):Prop:=
 oK (qAO t40 t44 (.bool false)) λW35=>oK (qAO t36 (.bool true) W35) λW36=>qAL W36
 (K (.int .i64 3) s)
 (oK (qAC 2 t1) λW37=>oK (rd1 s W37) λW38=>oK (negB false (eqV 0 true W38 (.int .i64 1))) λW39=>qAL W39
 (oK (qAC 3 t1) λW40=>oK (rdN s 5 W40) λW41=>wC TP X 99 [(.agg W41)] (λW42 S43=>K W42 S43) s)
 (oK (negB false (eqV 0 true W38 (.int .i64 2))) λW44=>qAL W44
 (oK (qAC 8 t1) λW45=>oK (rdN s 6 W45) λW46=>wC TP X 100 [(.agg W46)] (λW47 S48=>K W47 S48) s)
 (K (.int .i64 0) s)))
def qCi(X:Td)(t1 t30 t34:AV)(K:KvP)(s:Hq):Prop:=
 oK (qAO t30 t34 (.bool false)) λW18=>qAL W18
 (oK (qAO W18 (.bool true) .undef) λW19=>qAL W19
 (K (.int .i64 3) s)
 (oK (qAC 2 t1) λW20=>oK (rd1 s W20) λW21=>oK (negB false (eqV 0 true W21 (.int .i64 1))) λW22=>qAL W22
 (oK (qAC 3 t1) λW23=>oK (rdN s 5 W23) λW24=>wC TP X 99 [(.agg W24)] (λW25 S26=>K W25 S26) s)
 (oK (negB false (eqV 0 true W21 (.int .i64 2))) λW27=>qAL W27
 (oK (qAC 8 t1) λW28=>oK (rdN s 6 W28) λW29=>wC TP X 100 [(.agg W29)] (λW30 S31=>K W30 S31) s)
 (K (.int .i64 0) s))))
 (oK (qAC 2 t1) λW32=>oK (rd1 s W32) λW33=>oK (negB true (eqV 0 true W33 (.int .i64 2))) λW34=>qAL W34
 (oK (qAC 8 t1) λW49=>oK (rdN s 6 W49) λW50=>oK (qAr [(.int .u32 0),(.int .u32 0),(.int .i64 0),(.int .i64 0),(.int .i64 0),(.int .i64 0)] []) λC51=>oK (negB true (qHg TP 46 (.agg W50) (.agg C51))) λW52=>qCc X t1 W18 W34 W52 K s)
 (qCc X t1 W18 W34 .undef K s))
def qB7(X:Td)(t1 t22 t25:AV)(K:KvP)(s:Hq):Prop:=
 oK (qAO t22 t25 (.bool false)) λW14=>qAL W14
 (K (.int .i64 6) s)
 (oK (qAC 2 t1) λW15=>oK (rd1 s W15) λW16=>oK (negB true (eqV 0 true W16 (.int .i64 1))) λW17=>qAL W17
 (oK (qAC 3 t1) λW53=>oK (rdN s 5 W53) λW54=>oK (qAr [(.int .i64 0),(.int .u64 0),(.int .u32 0),(.int .u64 0),(.int .u32 0)] []) λC55=>oK (negB true (qHg TP 44 (.agg W54) (.agg C55))) λW56=>qCi X t1 W17 W56 K s)
 (qCi X t1 W17 .undef K s))
def qB0(X:Td)(t1 t17 t20:AV)(K:KvP)(s:Hq):Prop:=
 oK (qAO t17 t20 (.bool false)) λW13=>qAL W13
 (oK (qAC 2 t1) λW57=>oK (rd1 s W57) λW58=>oK (negB true (eqV 0 true W58 (.int .i64 2))) λW59=>qB7 X t1 W13 W59 K s)
 (qB7 X t1 W13 .undef K s)
def qB3(X:Td)(t1 t6 t9:AV)(K:KvP)(s:Hq):Prop:=
 oK (qAO t6 (.bool true) t9) λW5=>qAL W5
 (K (.int .i64 2) s)
 (oK (qAC 0 t1) λW6=>oK (rd1 s W6) λW7=>wC TP X 21 [W7] (λW8 S9=>qAL W8
 (K (.int .i64 3) S9)
 (oK (qAC 2 t1) λW10=>oK (rd1 S9 W10) λW11=>oK (negB true (eqV 0 true W11 (.int .i64 0))) λW12=>qAL W12
 (oK (qAC 2 t1) λW60=>oK (rd1 S9 W60) λW61=>oK (negB true (eqV 0 true W61 (.int .i64 1))) λW62=>qB0 X t1 W12 W62 K S9)
 (qB0 X t1 W12 .undef K S9))) s)
def qKD(X:Td)(t0:AV)(K:KvP)(s:Hq):Prop:=
 boxK 48 t0 (λB0 S1=>oK (qAC 0 B0) λW2=>oK (rd1 S1 W2) λW3=>oK (qAF .gtr W3 (.int .u64 281474976710655)) λW4=>qAL W4
 (qB3 X B0 W4 .undef K S1)
 (oK (qAC 1 B0) λW63=>oK (rd1 S1 W63) λW64=>oK (qAF .gtr W64 (.int .u64 281474976710655)) λW65=>qB3 X B0 W4 W65 K S1)) s
theorem qIh{t0:AV}{K:KvP}{s:Hq}(h:qKD XX t0 K s):wC TP XX 71 [t0] K s:=wOK qA2 nA0 rfl Tryz.func71 h
def qDP(X:Td)(t13 t17:AV)(K:KvP)(s:Hq):Prop:=
 oK (qAO t13 t17 (.bool false)) λW2=>K W2 s
def qCl(X:Td)(l0 i1 t7 t11:AV)(K:KvP)(s:Hq):Prop:=
 oK (qAO t7 t11 (.bool false)) λW1=>qAL W1
 (oK (qAU 1 l0 i1) λW3=>oK (rd1 s W3) λW4=>qDP X W1 W4 K s)
 (qDP X W1 .undef K s)
def qJR(X:Td)(l0 i1:AV)(K:KvP)(s:Hq):Prop:=
 oK (qAF .geq i1 (.int .i64 0)) λW0=>qAL W0
 (oK (qAQ l0) λW5=>oK (qAF .lss i1 (.int .i64 W5)) λW7=>qCl X l0 i1 W0 W7 K s)
 (qCl X l0 i1 W0 .undef K s)
theorem qJ8{l0 i1:AV}{K:KvP}{s:Hq}(h:qJR XX l0 i1 K s):wC TP XX 73 [l0,i1] K s:=wOK qA2 nA0 rfl Tryz.func73 h
def qBU(X:Td)(x6 t28:AV)(I1:IvP)(m1:Nat)(I0:IvP)(m0:Nat)(K:KvP)(s:Hq):Prop:=
 oK (qAF .add t28 (.int .i64 1)) λW20=>∃m',m'<m1/\I1 [x6,W20] s m'
def qCy(X:Td)(seen5 x6 i7 t26 t27 t28:AV)(I1:IvP)(m1:Nat)(I0:IvP)(m0:Nat)(K:KvP)(s:Hq):Prop:=
 oK (qAF .lss t28 t27) λW15=>qAL W15
 (oK (qAU 1 t26 t28) λW16=>oK (rd1 s W16) λW17=>oK (getM s seen5 W17) λr_18=>oK (qAy .not (retM (.bool false) false r_18)) λW19=>qAL W19
 (oK (putM s seen5 W17 (.bool true)) λS21=>oK (qAr (repl 1 [(.int .i64 0)]) [(0,1,W17)]) λC22=>qAW C22=true/\newK 3 C22 (λB23 S24=>appK 3 1 x6 (.slc B23 0 1 (some 1) 1) (λW25 S26=>qBU X W25 t28 I1 m1 I0 m0 K S26) S24) S21)
 (qBU X x6 t28 I1 m1 I0 m0 K s))
 (oK (qAF .add i7 (.int .i64 1)) λW27=>∃m',m'<m0/\I0 [x6,W27] s m')
def qC2(X:Td)(next1 seen5 x6 i7:AV)(I0:IvP)(m0:Nat)(K:KvP)(s:Hq):Prop:=
 oK (qAQ x6) λW6=>oK (qAF .lss i7 (.int .i64 W6)) λW8=>qAL W8
 (oK (qAU 1 x6 i7) λW9=>oK (rd1 s W9) λW10=>funK TP X next1 [W10] (λW11 S12=>oK (qAQ W11) λW13=>∃I1:IvP,(∃m,I1 [x6,(.int .i64 0)] S12 m)/\∀(f:Env) (s:Hq) (m1:Nat),I1 [f 6,f 28] s m1->
 qCy X seen5 (f 6) i7 W11 (.int .i64 W13) (f 28) I1 m1 I0 m0 K s) s)
 (K x6 s)
def qGY(X:Td)(start0 next1:AV)(K:KvP)(s:Hq):Prop:=
 mapK (λW0 S1=>oK (putM S1 W0 start0 (.bool true)) λS2=>oK (qAr (repl 1 [(.int .i64 0)]) [(0,1,start0)]) λC3=>qAW C3=true/\newK 3 C3 (λB4 S5=>∃I0:IvP,(∃m,I0 [(.slc B4 0 1 (some 1) 1),(.int .i64 0)] S5 m)/\∀(f:Env) (s:Hq) (m0:Nat),I0 [f 6,f 7] s m0->
 qC2 X next1 W0 (f 6) (f 7) I0 m0 K s) S2) s
def qEv:Nat->List Nat:=λk=>cond (Nat.beq k 8) [6,7] (cond (Nat.beq k 14) [6,28] ([]))
theorem qFI{start0 next1:AV}{K:KvP}{s:Hq}(h:qGY XX start0 next1 K s):wC TP XX 74 [start0,next1] K s:=wOK qA2 qEv rfl Tryz.func74 h
def qAg(X:Td)(result5 t14:AV)(I0:IvP)(m0:Nat)(K:KvP)(s:Hq):Prop:=
 oK (qAF .add t14 (.int .i64 1)) λW15=>∃m',m'<m0/\I0 [result5,W15] s m'
def qCV(X:Td)(t0 node1 result5 t12 t13 t14:AV)(I0:IvP)(m0:Nat)(K:KvP)(s:Hq):Prop:=
 oK (qAF .lss t14 t13) λW6=>qAL W6
 (oK (qAU 3 t12 t14) λW7=>oK (rdN s 3 W7) λW8=>newK 91 [(.int .i64 0),(.int .i64 0),(.int .i64 0)] (λB9 S10=>oK (qA7 S10 3 (.ptr B9 0) (.agg W8)) λS11=>wC TP X 67 [t0,t14] (λW12 S13=>oK (qAy .not W12) λW14=>qAL W14
 (qAg X result5 t14 I0 m0 K S13)
 (oK (qAC 0 (.ptr B9 0)) λW16=>oK (rd1 S13 W16) λW17=>oK (negB false (eqV 0 false W17 node1)) λW18=>qAL W18
 (oK (qAC 1 (.ptr B9 0)) λW19=>oK (rd1 S13 W19) λW20=>oK (qAr (repl 1 [(.int .i64 0)]) [(0,1,W20)]) λC21=>qAW C21=true/\newK 3 C21 (λB22 S23=>appK 3 1 result5 (.slc B22 0 1 (some 1) 1) (λW24 S25=>qAg X W24 t14 I0 m0 K S25) S23) S13)
 (oK (qAC 1 (.ptr B9 0)) λW26=>oK (rd1 S13 W26) λW27=>oK (negB false (eqV 0 false W27 node1)) λW28=>qAL W28
 (oK (qAC 0 (.ptr B9 0)) λW29=>oK (rd1 S13 W29) λW30=>oK (qAr (repl 1 [(.int .i64 0)]) [(0,1,W30)]) λC31=>qAW C31=true/\newK 3 C31 (λB32 S33=>appK 3 1 result5 (.slc B32 0 1 (some 1) 1) (λW34 S35=>qAg X W34 t14 I0 m0 K S35) S33) S13)
 (qAg X result5 t14 I0 m0 K S13)))) S11) s)
 (K result5 s)
def qEu(X:Td)(t0 node1:AV)(K:KvP)(s:Hq):Prop:=
 oK (qAT t0) λW0=>oK (qAC 0 W0) λW1=>oK (qAC 2 W1) λW2=>oK (rd1 s W2) λW3=>oK (qAQ W3) λW4=>∃I0:IvP,(∃m,I0 [.nilslc,(.int .i64 0)] s m)/\∀(f:Env) (s:Hq) (m0:Nat),I0 [f 5,f 14] s m0->
 qCV X t0 node1 (f 5) W3 (.int .i64 W4) (f 14) I0 m0 K s
def qDu:Nat->List Nat:=λk=>cond (Nat.beq k 6) [5,14] ([])
theorem qD4{t0 node1:AV}{K:KvP}{s:Hq}(h:qEu XX t0 node1 K s):wC TP XX 75 [t0,node1] K s:=wOK qA2 qDu rfl Tryz.func75 h
def qBD(X:Td)(i5 j6:AV)(I0:IvP)(m0:Nat)(K:KvP)(s:Hq):Prop:=
 oK (qAF .add j6 (.int .i64 1)) λW12=>∃m',m'<m0/\I0 [i5,W12] s m'
def qCk(X:Td)(t0 del1 i5 j6:AV)(I0:IvP)(m0:Nat)(K:KvP)(s:Hq):Prop:=
 oK (qAQ t0) λW4=>oK (qAF .lss j6 (.int .i64 W4)) λW6=>qAL W6
 (oK (qAU 1 t0 j6) λW7=>oK (rd1 s W7) λW8=>funK TP X del1 [W8] (λW9 S10=>oK (qAy .not W9) λW11=>qAL W11
 (oK (qAU 1 t0 i5) λW13=>oK (wr1 S10 W13 W8) λS14=>oK (qAF .add i5 (.int .i64 1)) λW15=>qBD X W15 j6 I0 m0 K S14)
 (qBD X i5 j6 I0 m0 K S10)) s)
 (oK (qDZ 1 t0 (some i5) none none) λW16=>qQP [(.int .i64 0)] 1 W16 (λW17 S18=>oK (qDZ 1 t0 none (some i5) none) λW19=>K W19 S18) s)
def qFR(X:Td)(t0 del1:AV)(K:KvP)(s:Hq):Prop:=
 wC TP X 102 [t0,del1] (λW0 S1=>oK (negB false (eqV 0 true W0 (.int .i64 (-1)))) λW2=>qAL W2
 (K t0 S1)
 (oK (qAF .add W0 (.int .i64 1)) λW3=>∃I0:IvP,(∃m,I0 [W0,W3] S1 m)/\∀(f:Env) (s:Hq) (m0:Nat),I0 [f 5,f 6] s m0->
 qCk X t0 del1 (f 5) (f 6) I0 m0 K s)) s
def qEN:Nat->List Nat:=λk=>cond (Nat.beq k 10) [5,6] ([])
theorem qEd{t0 del1:AV}{K:KvP}{s:Hq}(h:qFR XX t0 del1 K s):wC TP XX 76 [t0,del1] K s:=wOK qA2 qEN rfl Tryz.func76 h
def qGa(X:Td)(n0 t1:AV)(K:KvP)(s:Hq):Prop:=
 oK (rd1 s t1) λW0=>oK (qAT W0) λW1=>oK (qAC 0 W1) λW2=>oK (qAC 0 W2) λW3=>oK (rd1 s W3) λW4=>oK (qAF .geq n0 W4) λW5=>K W5 s
theorem qFJ{n0 t1:AV}{K:KvP}{s:Hq}(h:qGa XX n0 t1 K s):wC TP XX 77 [n0,t1] K s:=wOK qA2 nA0 rfl Tryz.func77 h
def qGW(X:Td)(a0:AV)(K:KvP)(s:Hq):Prop:=
 newK 69 [(.int .i64 0),(.int .u32 0),(.int .u32 0),(.int .u32 0),(.int .i64 0),(.int .u32 0)] (λB0 S1=>oK (qAT a0) λW2=>oK (qAC 0 W2) λW3=>oK (rd1 S1 W3) λW4=>oK (qAT W4) λW5=>oK (qAC 0 W5) λW6=>oK (qAC 4 W6) λW7=>oK (rd1 S1 W7) λW8=>oK (qAT a0) λW9=>oK (qAC 18 W9) λW10=>oK (qAC 2 W10) λW11=>oK (rd1 S1 W11) λW12=>oK (qAU 6 W8 W12) λW13=>oK (rdN S1 6 W13) λW14=>oK (qA7 S1 6 (.ptr B0 0) (.agg W14)) λS15=>oK (rdN S15 6 (.ptr B0 0)) λt2_16=>K (.agg t2_16) S15) s
theorem qFD{a0:AV}{K:KvP}{s:Hq}(h:qGW XX a0 K s):wC TP XX 79 [a0] K s:=wOK qA2 nA0 rfl Tryz.func79 h
def qJp(X:Td)(t0 ip1 target2 data3:AV)(K:KvP)(s:Hq):Prop:=
 newK 48 [(.int .u64 0),(.int .u64 0),(.int .i64 0),(.int .i64 0),(.int .u64 0),(.int .u32 0),(.int .u64 0),(.int .u32 0),(.int .u32 0),(.int .u32 0),(.int .i64 0),(.int .i64 0),(.int .i64 0),(.int .i64 0),(.int .u64 0)] (λB0 S1=>wC TP X 109 [t0,ip1] (λW2 S3=>wC TP X 110 [target2] (λW4 S5=>wC TP X 111 [data3] (λW6 S7=>oK (qAr (repl 3 [.nilFunc]) [(0,1,W2),(1,1,W4),(2,1,W6)]) λC8=>qAW C8=true/\newK 175 C8 (λB9 S10=>wC TP X 108 [(.int .i64 1),t0,(.int .u64 281474976710655),(.slc B9 0 3 (some 3) 1)] (λW11 S12=>oK (qA7 S12 15 (.ptr B0 0) W11) λS13=>oK (rdN S13 15 (.ptr B0 0)) λt8_14=>K (.agg t8_14) S13) S10) S7) S5) S3) S1) s
theorem qH2{t0 ip1 target2 data3:AV}{K:KvP}{s:Hq}(h:qJp XX t0 ip1 target2 data3 K s):wC TP XX 87 [t0,ip1,target2,data3] K s:=wOK qA2 nA0 rfl Tryz.func87 h
def qGS(X:Td)(t0 segment1 area2:AV)(K:KvP)(s:Hq):Prop:=
 boxK 34 area2 (λB0 S1=>wC TP X 63 [t0,segment1] (λW2 S3=>wC TP X 114 [W2,(.fn (.func 115) [] [B0])] (λW4 S5=>K W4 S5) S3) S1) s
theorem qFG{t0 segment1 area2:AV}{K:KvP}{s:Hq}(h:qGS XX t0 segment1 area2 K s):wC TP XX 89 [t0,segment1,area2] K s:=wOK qA2 nA0 rfl Tryz.func89 h
def qCr(X:Td)(t0 t1:AV)(K:KvP)(s:Hq):Prop:=
 wC TP X 59 [t0,t1] (λW0 S1=>oK (qAF .geq W0 (.int .i64 0)) λW2=>K W2 S1) s
theorem qCZ{t0 t1:AV}{K:KvP}{s:Hq}(h:qCr XX t0 t1 K s):wC TP XX 90 [t0,t1] K s:=wOK qA2 nA0 rfl Tryz.func90 h
def qBL(X:Td)(t18 t22:AV)(K:KvP)(s:Hq):Prop:=
 oK (qAO t18 t22 (.bool false)) λW10=>K W10 s
def qBN(X:Td)(t3 h4 t10 t13 t15:AV)(K:KvP)(s:Hq):Prop:=
 oK (qAO t13 (.bool true) t15) λW8=>oK (qAO t10 W8 (.bool false)) λW9=>qAL W9
 (oK (rd1 s t3) λW11=>oK (qAC 1 h4) λW12=>oK (rd1 s W12) λW13=>wC TP X 72 [W11,W13] (λW14 S15=>qBL X W9 W14 K S15) s)
 (qBL X W9 .undef K s)
def qBv(X:Td)(t18 t22:AV)(K:KvP)(s:Hq):Prop:=
 oK (qAO t18 t22 (.bool false)) λW19=>K W19 s
def qFo(X:Td)(h0 t1 t2 t3:AV)(K:KvP)(s:Hq):Prop:=
 boxK 77 h0 (λB0 S1=>oK (qAC 0 B0) λW2=>oK (rd1 S1 W2) λW3=>oK (rd1 S1 t1) λW4=>oK (negB false (eqV 0 false W3 W4)) λW5=>qAL W5
 (oK (qAC 2 B0) λW6=>oK (rd1 S1 W6) λW7=>qAL W7
 (qBN X t3 B0 W5 W7 .undef K S1)
 (oK (rd1 S1 t2) λW16=>oK (qAy .not W16) λW17=>qBN X t3 B0 W5 W7 W17 K S1))
 (oK (qAO W5 .undef (.bool false)) λW18=>qAL W18
 (oK (rd1 S1 t3) λW20=>oK (qAC 1 B0) λW21=>oK (rd1 S1 W21) λW22=>wC TP X 72 [W20,W22] (λW23 S24=>qBv X W18 W23 K S24) S1)
 (qBv X W18 .undef K S1))) s
theorem qEs{h0 t1 t2 t3:AV}{K:KvP}{s:Hq}(h:qFo XX h0 t1 t2 t3 K s):wC TP XX 91 [h0,t1,t2,t3] K s:=wOK qA2 nA0 rfl Tryz.func91 h
def qBm(X:Td)(t19 t29:AV)(K:KvP)(s:Hq):Prop:=
 oK (qAO t19 t29 (.bool false)) λW2=>K W2 s
def qBF(X:Td)(t0 leaf1 segment2 t9 t17:AV)(K:KvP)(s:Hq):Prop:=
 oK (qAO t9 t17 (.bool false)) λW1=>qAL W1
 (oK (qAT t0) λW3=>oK (qAC 19 W3) λW4=>oK (qAC 2 W4) λW5=>oK (rd1 s W5) λW6=>oK (qAU 1 W6 leaf1) λW7=>oK (rd1 s W7) λW8=>wC TP X 73 [W8,segment2] (λW9 S10=>qBm X W1 W9 K S10) s)
 (qBm X W1 .undef K s)
def qD8(X:Td)(t0 leaf1 segment2:AV)(K:KvP)(s:Hq):Prop:=
 oK (qAF .geq leaf1 (.int .i64 0)) λW0=>qAL W0
 (oK (qAT t0) λW11=>oK (qAC 19 W11) λW12=>oK (qAC 2 W12) λW13=>oK (rd1 s W13) λW14=>oK (qAQ W14) λW15=>oK (qAF .lss leaf1 (.int .i64 W15)) λW17=>qBF X t0 leaf1 segment2 W0 W17 K s)
 (qBF X t0 leaf1 segment2 W0 .undef K s)
theorem qFz{t0 leaf1 segment2:AV}{K:KvP}{s:Hq}(h:qD8 XX t0 leaf1 segment2 K s):wC TP XX 92 [t0,leaf1,segment2] K s:=wOK qA2 nA0 rfl Tryz.func92 h
def qBX(X:Td)(t16 t19:AV)(K:KvP)(s:Hq):Prop:=
 oK (qAO t16 (.bool true) t19) λW7=>qAL W7
 (K (.int .i64 2) s)
 (K (.int .i64 0) s)
def qBW(X:Td)(a1 t11 t14:AV)(K:KvP)(s:Hq):Prop:=
 oK (qAO t11 (.bool true) t14) λW6=>qAL W6
 (qBX X W6 .undef K s)
 (oK (qAC 3 a1) λW8=>oK (rd1 s W8) λW9=>oK (qAF .gtr W9 (.int .u64 281474976710655)) λW10=>qBX X W6 W10 K s)
def qBV(X:Td)(a1 t6 t9:AV)(K:KvP)(s:Hq):Prop:=
 oK (qAO t6 (.bool true) t9) λW5=>qAL W5
 (qBW X a1 W5 .undef K s)
 (oK (qAC 1 a1) λW11=>oK (rd1 s W11) λW12=>oK (qAF .gtr W12 (.int .u64 281474976710655)) λW13=>qBW X a1 W5 W13 K s)
def qIs(X:Td)(a0:AV)(K:KvP)(s:Hq):Prop:=
 boxK 44 a0 (λB0 S1=>oK (qAC 0 B0) λW2=>oK (rd1 S1 W2) λW3=>oK (qAF .lss W3 (.int .i64 1)) λW4=>qAL W4
 (qBV X B0 W4 .undef K S1)
 (oK (qAC 0 B0) λW14=>oK (rd1 S1 W14) λW15=>oK (qAF .gtr W15 (.int .i64 2)) λW16=>qBV X B0 W4 W16 K S1)) s
theorem qGn{a0:AV}{K:KvP}{s:Hq}(h:qIs XX a0 K s):wC TP XX 99 [a0] K s:=wOK qA2 nA0 rfl Tryz.func99 h
def qCI(X:Td)(t43 t47 t50:AV)(K:KvP)(s:Hq):Prop:=
 oK (qAO t47 (.bool true) t50) λW22=>oK (qAO t43 W22 (.bool false)) λW23=>qAL W23
 (K (.int .i64 3) s)
 (K (.int .i64 0) s)
def qBh(X:Td)(h1 t34 t37:AV)(K:KvP)(s:Hq):Prop:=
 oK (qAO t34 (.bool true) t37) λW13=>qAL W13
 (K (.int .i64 2) s)
 (oK (qAC 3 h1) λW14=>oK (rd1 s W14) λW15=>wC TP X 127 [W15] (λW16 S17=>oK (qAy .not W16) λW18=>qAL W18
 (oK (qAC 4 h1) λW19=>oK (rd1 S17 W19) λW20=>oK (negB true (eqV 0 true W20 (.int .i64 0))) λW21=>qAL W21
 (qCI X W18 W21 .undef K S17)
 (oK (qAC 5 h1) λW24=>oK (rd1 S17 W24) λW25=>oK (negB true (eqV 0 true W25 (.int .i64 0))) λW26=>qCI X W18 W21 W26 K S17))
 (oK (qAO W18 .undef (.bool false)) λW27=>qAL W27
 (K (.int .i64 3) S17)
 (K (.int .i64 0) S17))) s)
def qBk(X:Td)(h1 t29 t32:AV)(K:KvP)(s:Hq):Prop:=
 oK (qAO t29 (.bool true) t32) λW12=>qAL W12
 (qBh X h1 W12 .undef K s)
 (oK (qAC 5 h1) λW28=>oK (rd1 s W28) λW29=>oK (qAF .gtr W29 (.int .i64 65535)) λW30=>qBh X h1 W12 W30 K s)
def qBi(X:Td)(h1 t24 t27:AV)(K:KvP)(s:Hq):Prop:=
 oK (qAO t24 (.bool true) t27) λW11=>qAL W11
 (qBk X h1 W11 .undef K s)
 (oK (qAC 5 h1) λW31=>oK (rd1 s W31) λW32=>oK (qAF .lss W32 (.int .i64 0)) λW33=>qBk X h1 W11 W33 K s)
def qBf(X:Td)(h1 t16 t19:AV)(K:KvP)(s:Hq):Prop:=
 oK (qAO t16 (.bool true) t19) λW7=>qAL W7
 (K (.int .i64 2) s)
 (oK (qAC 4 h1) λW8=>oK (rd1 s W8) λW9=>oK (qAF .lss W9 (.int .i64 0)) λW10=>qAL W10
 (qBi X h1 W10 .undef K s)
 (oK (qAC 4 h1) λW34=>oK (rd1 s W34) λW35=>oK (qAF .gtr W35 (.int .i64 65535)) λW36=>qBi X h1 W10 W36 K s))
def qBg(X:Td)(h1 t11 t14:AV)(K:KvP)(s:Hq):Prop:=
 oK (qAO t11 (.bool true) t14) λW6=>qAL W6
 (qBf X h1 W6 .undef K s)
 (oK (qAC 3 h1) λW37=>oK (rd1 s W37) λW38=>oK (qAF .gtr W38 (.int .i64 255)) λW39=>qBf X h1 W6 W39 K s)
def qBj(X:Td)(h1 t6 t9:AV)(K:KvP)(s:Hq):Prop:=
 oK (qAO t6 (.bool true) t9) λW5=>qAL W5
 (qBg X h1 W5 .undef K s)
 (oK (qAC 3 h1) λW40=>oK (rd1 s W40) λW41=>oK (qAF .lss W41 (.int .i64 0)) λW42=>qBg X h1 W5 W42 K s)
def qI4(X:Td)(h0:AV)(K:KvP)(s:Hq):Prop:=
 boxK 46 h0 (λB0 S1=>oK (qAC 2 B0) λW2=>oK (rd1 S1 W2) λW3=>oK (qAF .lss W3 (.int .i64 0)) λW4=>qAL W4
 (qBj X B0 W4 .undef K S1)
 (oK (qAC 2 B0) λW43=>oK (rd1 S1 W43) λW44=>oK (qAF .gtr W44 (.int .i64 255)) λW45=>qBj X B0 W4 W45 K S1)) s
theorem qHk{h0:AV}{K:KvP}{s:Hq}(h:qI4 XX h0 K s):wC TP XX 100 [h0] K s:=wOK qA2 nA0 rfl Tryz.func100 h
def qDc(X:Td)(t8 x9 t17 t18 t19:AV)(I0:IvP)(m0:Nat)(K:KvP)(s:Hq):Prop:=
 oK (qAF .lss t19 t18) λW9=>qAL W9
 (oK (qAU 1 t17 t19) λW10=>oK (rd1 s W10) λW11=>funK TP X W11 [x9] (λW12 S13=>oK (qAF .add t19 (.int .i64 1)) λW14=>∃m',m'<m0/\I0 [W14] S13 m') s)
 (oK (rdN s 15 x9) λW15=>oK (qA7 s 15 t8 (.agg W15)) λS16=>oK (rdN S16 15 t8) λt8_17=>K (.agg t8_17) S16)
def qIH(X:Td)(op0 src1 dst2 options3:AV)(K:KvP)(s:Hq):Prop:=
 newK 48 [(.int .u64 0),(.int .u64 0),(.int .i64 0),(.int .i64 0),(.int .u64 0),(.int .u32 0),(.int .u64 0),(.int .u32 0),(.int .u32 0),(.int .u32 0),(.int .i64 0),(.int .i64 0),(.int .i64 0),(.int .i64 0),(.int .u64 0)] (λB0 S1=>oK (qAr [(.int .i64 0),(.int .u64 0),(.int .u32 0),(.int .u64 0),(.int .u32 0)] [(0,1,op0)]) λC2=>oK (qAr [(.int .u64 0),(.int .u64 0),(.int .i64 0),(.int .i64 0),(.int .u64 0),(.int .u32 0),(.int .u64 0),(.int .u32 0),(.int .u32 0),(.int .u32 0),(.int .i64 0),(.int .i64 0),(.int .i64 0),(.int .i64 0),(.int .u64 0)] [(0,1,src1),(1,1,dst2),(2,1,(.int .i64 1)),(3,5,(.agg C2))]) λC3=>newK 48 [(.int .u64 0),(.int .u64 0),(.int .i64 0),(.int .i64 0),(.int .u64 0),(.int .u32 0),(.int .u64 0),(.int .u32 0),(.int .u32 0),(.int .u32 0),(.int .i64 0),(.int .i64 0),(.int .i64 0),(.int .i64 0),(.int .u64 0)] (λB4 S5=>oK (qA7 S5 15 (.ptr B4 0) (.agg C3)) λS6=>oK (qAQ options3) λW7=>∃I0:IvP,(∃m,I0 [(.int .i64 0)] S6 m)/\∀(f:Env) (s:Hq) (m0:Nat),I0 [f 19] s m0->
 qDc X (.ptr B0 0) (.ptr B4 0) options3 (.int .i64 W7) (f 19) I0 m0 K s) S1) s
def qFx:Nat->List Nat:=λk=>cond (Nat.beq k 6) [19] ([])
theorem qGU{op0 src1 dst2 options3:AV}{K:KvP}{s:Hq}(h:qIH XX op0 src1 dst2 options3 K s):wC TP XX 108 [op0,src1,dst2,options3] K s:=wOK qA2 qFx rfl Tryz.func108 h
def qKP(X:Td)(t0 ip1:AV)(K:KvP)(s:Hq):Prop:=
 boxK 40 t0 (λB0 S1=>boxK 42 ip1 (λB2 S3=>K (.fn (.func 139) [] [B0,B2]) S3) S1) s
theorem qIM{t0 ip1:AV}{K:KvP}{s:Hq}(h:qKP XX t0 ip1 K s):wC TP XX 109 [t0,ip1] K s:=wOK qA2 nA0 rfl Tryz.func109 h
def qLD(X:Td)(ip0:AV)(K:KvP)(s:Hq):Prop:=
 wC TP X 140 [(.int .u64 0),ip0] (λW0 S1=>K W0 S1) s
theorem qIr{ip0:AV}{K:KvP}{s:Hq}(h:qLD XX ip0 K s):wC TP XX 110 [ip0] K s:=wOK qA2 nA0 rfl Tryz.func110 h
def qJt(X:Td)(data0:AV)(K:KvP)(s:Hq):Prop:=
 boxK 39 data0 (λB0 S1=>K (.fn (.func 141) [] [B0]) S1) s
theorem qIA{data0:AV}{K:KvP}{s:Hq}(h:qJt XX data0 K s):wC TP XX 111 [data0] K s:=wOK qA2 nA0 rfl Tryz.func111 h
def qFb(X:Td)(leaf0 t1:AV)(K:KvP)(s:Hq):Prop:=
 oK (rd1 s t1) λW0=>wC TP X 72 [W0,leaf0] (λW1 S2=>K W1 S2) s
theorem qEa{leaf0 t1:AV}{K:KvP}{s:Hq}(h:qFb XX leaf0 t1 K s):wC TP XX 115 [leaf0,t1] K s:=wOK qA2 nA0 rfl Tryz.func115 h
def qCS(X:Td)(t5 t7:AV)(K:KvP)(s:Hq):Prop:=
 oK (qAO t5 (.bool true) t7) λW1=>K W1 s
def qGR(X:Td)(proto0:AV)(K:KvP)(s:Hq):Prop:=
 oK (negB false (eqV 0 true proto0 (.int .i64 6))) λW0=>qAL W0
 (qCS X W0 .undef K s)
 (oK (negB false (eqV 0 true proto0 (.int .i64 17))) λW2=>qCS X W0 W2 K s)
theorem qH6{proto0:AV}{K:KvP}{s:Hq}(h:qGR XX proto0 K s):wC TP XX 127 [proto0] K s:=wOK qA2 nA0 rfl Tryz.func127 h
def qJK(X:Td)(x0 t1 t2:AV)(K:KvP)(s:Hq):Prop:=
 oK (rd1 s t1) λW0=>oK (rd1 s t2) λW1=>oK (qAT x0) λW2=>oK (qAC 3 W2) λW3=>oK (qAC 1 W3) λW4=>((cutH [((hdel s (qAk t2)),s)] s) (qAk W4)≠none)/\
 oK (wr1 s W4 W0) λS5=>oK (qAT x0) λW6=>oK (qAC 3 W6) λW7=>oK (qAC 2 W7) λW8=>oK (wr1 S5 W8 W1) λS9=>K (.tup []) S9
theorem qHh{x0 t1 t2:AV}{K:KvP}{s:Hq}(h:qJK XX x0 t1 t2 K s):wC TP XX 139 [x0,t1,t2] K s:=wOK qA2 nA0 rfl Tryz.func139 h
def qKC(X:Td)(t0 ip1:AV)(K:KvP)(s:Hq):Prop:=
 boxK 40 t0 (λB0 S1=>boxK 42 ip1 (λB2 S3=>K (.fn (.func 181) [] [B0,B2]) S3) S1) s
theorem qIa{t0 ip1:AV}{K:KvP}{s:Hq}(h:qKC XX t0 ip1 K s):wC TP XX 140 [t0,ip1] K s:=wOK qA2 nA0 rfl Tryz.func140 h
def qIR(X:Td)(x0 t1:AV)(K:KvP)(s:Hq):Prop:=
 oK (rd1 s t1) λW0=>oK (qAT x0) λW1=>oK (qAC 14 W1) λW2=>oK (wr1 s W2 W0) λS3=>K (.tup []) S3
theorem qGo{x0 t1:AV}{K:KvP}{s:Hq}(h:qIR XX x0 t1 K s):wC TP XX 141 [x0,t1] K s:=wOK qA2 nA0 rfl Tryz.func141 h
def qI2(X:Td)(x0 t1 t2:AV)(K:KvP)(s:Hq):Prop:=
 oK (rd1 s t1) λW0=>oK (rd1 s t2) λW1=>oK (qAT x0) λW2=>oK (qAC 3 W2) λW3=>oK (qAC 3 W3) λW4=>((cutH [((hdel s (qAk t2)),s)] s) (qAk W4)≠none)/\
 oK (wr1 s W4 W0) λS5=>oK (qAT x0) λW6=>oK (qAC 3 W6) λW7=>oK (qAC 4 W7) λW8=>oK (wr1 S5 W8 W1) λS9=>K (.tup []) S9
theorem qHe{x0 t1 t2:AV}{K:KvP}{s:Hq}(h:qI2 XX x0 t1 t2 K s):wC TP XX 181 [x0,t1,t2] K s:=wOK qA2 nA0 rfl Tryz.func181 h
end Go.AM
