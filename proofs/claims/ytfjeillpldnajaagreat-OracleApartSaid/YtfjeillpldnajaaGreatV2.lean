/- Part V2 of the proof: see the last part. -/
import Derived.Test.YtfjeillpldnajaaGreatV
set_option linter.unusedVariables false
namespace Go.AM
open Go Go.Proofs
set_option maxRecDepth 100000
end Go.AM
namespace Go.AM
open Go Go.Proofs
set_option maxRecDepth 100000
end Go.AM
namespace Go.AM
open Go Go.Proofs
set_option maxRecDepth 100000
end Go.AM
namespace Go.AM
open Go Go.Proofs
set_option maxRecDepth 100000
def qBq(X:Td)(x3:AV)(K:KvP)(s:Hq):Prop:=
 wC TP X 113 [x3] (λW5 S6=>oK (qAF .rem W5 (.int .u32 16384)) λW7=>oK (qD8 .i64 W7) λW8=>oK (qAF .add (.int .i64 49152) W8) λW9=>K W9 S6) s
def qKg(X:Td)(t0:AV)(K:KvP)(s:Hq):Prop:=
 boxK 48 t0 (λB0 S1=>oK (qAC 2 B0) λW2=>oK (rd1 S1 W2) λW3=>oK (negB false (eqV 0 true W3 (.int .i64 2))) λW4=>qAL W4
 (oK (qAC 8 B0) λW10=>oK (rdN S1 6 W10) λW11=>newK 46 [(.int .u32 0),(.int .u32 0),(.int .i64 0),(.int .i64 0),(.int .i64 0),(.int .i64 0)] (λB12 S13=>oK (qA1 S13 6 (.ptr B12 0) (.agg W11)) λS14=>oK (qAC 0 (.ptr B12 0)) λW15=>oK (rd1 S14 W15) λW16=>oK (qD8 .u64 W16) λW17=>wC TP X 112 [.nilslc,W17,(.int .i64 4)] (λW18 S19=>oK (qAC 1 (.ptr B12 0)) λW20=>oK (rd1 S19 W20) λW21=>oK (qD8 .u64 W21) λW22=>wC TP X 112 [W18,W22,(.int .i64 4)] (λW23 S24=>oK (qAC 3 (.ptr B12 0)) λW25=>oK (rd1 S24 W25) λW26=>oK (qD8 .u64 W26) λW27=>wC TP X 112 [W23,W27,(.int .i64 1)] (λW28 S29=>oK (qAC 4 (.ptr B12 0)) λW30=>oK (rd1 S29 W30) λW31=>oK (qD8 .u64 W31) λW32=>wC TP X 112 [W28,W32,(.int .i64 2)] (λW33 S34=>oK (qAC 5 (.ptr B12 0)) λW35=>oK (rd1 S34 W35) λW36=>oK (qD8 .u64 W36) λW37=>wC TP X 112 [W33,W37,(.int .i64 2)] (λW38 S39=>qBq X W38 K S39) S34) S29) S24) S19) S14) S1)
 (oK (qAC 0 B0) λW40=>oK (rd1 S1 W40) λW41=>wC TP X 112 [.nilslc,W41,(.int .i64 6)] (λW42 S43=>oK (qAC 1 B0) λW44=>oK (rd1 S43 W44) λW45=>wC TP X 112 [W42,W45,(.int .i64 6)] (λW46 S47=>oK (qAC 2 B0) λW48=>oK (rd1 S47 W48) λW49=>oK (qD8 .u64 W49) λW50=>wC TP X 112 [W46,W50,(.int .i64 1)] (λW51 S52=>qBq X W51 K S52) S47) S43) S1)) s
theorem qI6{t0:AV}{K:KvP}{s:Hq}(h:qKg XX t0 K s):wC TP XX 88 [t0] K s:=wOK qBH nA0 rfl Tryz.func88 h
def qIE(X:Td)(b0 n1 i7:AV)(I0:IvP)(m0:Nat)(K:KvP)(s:Hq):Prop:=
 oK (qAF .geq i7 (.int .i64 0)) λW1=>qAL W1
 (oK (qAF .mul (.int .i64 8) i7) λW2=>oK (qGc .shr n1 W2) λW3=>oK (qD8 .u8 W3) λW4=>oK (qAw (repl 1 [(.int .u8 0)]) [(0,1,W4)]) λC5=>qAZ C5=true/\newK 5 C5 (λB6 S7=>appK 5 1 b0 (.slc B6 0 1 (some 1) 1) (λW8 S9=>oK (qAF .sub i7 (.int .i64 1)) λW10=>∃m',m'<m0/\I0 [W8,W10] S9 m') S7) s)
 (K b0 s)
def qKN(X:Td)(b0 n1 size2:AV)(K:KvP)(s:Hq):Prop:=
 oK (qAF .sub size2 (.int .i64 1)) λW0=>∃I0:IvP,(∃m,I0 [b0,W0] s m)/\∀(f:Env) (s:Hq) (m0:Nat),I0 [f 0,f 7] s m0->
 qIE X (f 0) n1 (f 7) I0 m0 K s
def qKb:Nat->List Nat:=λk=>cond (Nat.beq k 4) [0,7] ([])
theorem qLd{b0 n1 size2:AV}{K:KvP}{s:Hq}(h:qKN XX b0 n1 size2 K s):wC TP XX 112 [b0,n1,size2] K s:=wOK qBH qKb rfl Tryz.func112 h
def qDm(X:Td)(b0 h3 t6 t7:AV)(I0:IvP)(m0:Nat)(K:KvP)(s:Hq):Prop:=
 oK (qAF .lss t7 t6) λW2=>qAL W2
 (oK (qAW 1 b0 t7) λW3=>oK (rd1 s W3) λW4=>oK (qD8 .u32 W4) λW5=>oK (qAF .xor h3 W5) λW6=>oK (qAF .mul W6 (.int .u32 16777619)) λW7=>oK (qAF .add t7 (.int .i64 1)) λW8=>∃m',m'<m0/\I0 [W7,W8] s m')
 (K h3 s)
def qEP(X:Td)(b0:AV)(K:KvP)(s:Hq):Prop:=
 oK (qAQ b0) λW0=>∃I0:IvP,(∃m,I0 [(.int .u32 2166136261),(.int .i64 0)] s m)/\∀(f:Env) (s:Hq) (m0:Nat),I0 [f 3,f 7] s m0->
 qDm X b0 (f 3) (.int .i64 W0) (f 7) I0 m0 K s
def qGB:Nat->List Nat:=λk=>cond (Nat.beq k 6) [3,7] ([])
theorem qGW{b0:AV}{K:KvP}{s:Hq}(h:qEP XX b0 K s):wC TP XX 113 [b0] K s:=wOK qBH qGB rfl Tryz.func113 h
end Go.AM
namespace Go.AM
open Go Go.Proofs
set_option maxRecDepth 100000
def qCh(X:Td)(i16 t155 t161 t164 t173 t177:AV)(I1:IvP)(m1:Nat)(K:KvP)(s:Hq):Prop:=
 oK (qAM t173 (.bool true) t177) λW86=>oK (qAM t164 W86 (.bool false)) λW87=>oK (qAM t161 (.bool true) W87) λW88=>oK (qAM t155 W88 (.bool false)) λW89=>qAL W89
 (K (.bool false) s)
 (oK (qAF .add i16 (.int .i64 1)) λW90=>∃m',m'<m1/\I1 [W90] s m')
def qCj(X:Td)(x3 x9 w13 h14 i16 y17 x18 t147 t151:AV)(I1:IvP)(m1:Nat)(K:KvP)(s:Hq):Prop:=
 oK (qAM t147 t151 (.bool false)) λW68=>oK (qAx .not x18) λW69=>qAL W69
 (oK (qAC 1 y17) λW70=>oK (rd1 s W70) λW71=>oK (qAC 2 h14) λW72=>oK (rd1 s W72) λW73=>oK (negB true (eqV 0 false W71 W73)) λW74=>qAL W74
 (oK (qAM W74 (.bool true) .undef) λW75=>oK (qAM W69 W75 (.bool false)) λW76=>qAL W76
 (K (.bool false) s)
 (oK (qAF .add i16 (.int .i64 1)) λW77=>∃m',m'<m1/\I1 [W77] s m'))
 (oK (qAx .not W68) λW78=>qAL W78
 (oK (qAC 0 y17) λW79=>oK (rd1 s W79) λW80=>oK (qAC 3 w13) λW81=>oK (rd1 s W81) λW82=>oK (qAW 1 W82 x3) λW83=>oK (rd1 s W83) λW84=>oK (negB false (eqV 0 false W80 W84)) λW85=>qAL W85
 (qCh X i16 W69 W74 W78 W85 .undef I1 m1 K s)
 (oK (qAC 2 y17) λW91=>oK (rdN s 15 W91) λW92=>oK (rdN s 15 x9) λW93=>oK (negB true (qGF TP 48 (.agg W92) (.agg W93))) λW94=>qCh X i16 W69 W74 W78 W85 W94 I1 m1 K s))
 (oK (qAM W78 .undef (.bool false)) λW95=>oK (qAM W74 (.bool true) W95) λW96=>oK (qAM W69 W96 (.bool false)) λW97=>qAL W97
 (K (.bool false) s)
 (oK (qAF .add i16 (.int .i64 1)) λW98=>∃m',m'<m1/\I1 [W98] s m'))))
 (oK (qAM W69 .undef (.bool false)) λW99=>qAL W99
 (K (.bool false) s)
 (oK (qAF .add i16 (.int .i64 1)) λW100=>∃m',m'<m1/\I1 [W100] s m'))
def qCm(X:Td)(x3 x9 w13 h14 i16 y17 x18 t142 t145:AV)(I1:IvP)(m1:Nat)(K:KvP)(s:Hq):Prop:=
 oK (qAM t142 t145 (.bool false)) λW67=>qAL W67
 (oK (qAC 3 x9) λW101=>oK (qAC 0 W101) λW102=>oK (rd1 s W102) λW103=>oK (negB false (eqV 0 true W103 (.int .i64 1))) λW104=>qCj X x3 x9 w13 h14 i16 y17 x18 W67 W104 I1 m1 K s)
 (qCj X x3 x9 w13 h14 i16 y17 x18 W67 .undef I1 m1 K s)
def qCi(X:Td)(x3 x9 w13 h14 i16 y17 x18 t135 t140:AV)(I1:IvP)(m1:Nat)(K:KvP)(s:Hq):Prop:=
 oK (qAM t135 t140 (.bool false)) λW66=>qAL W66
 (oK (qAC 2 x9) λW105=>oK (rd1 s W105) λW106=>oK (negB false (eqV 0 true W106 (.int .i64 1))) λW107=>qCm X x3 x9 w13 h14 i16 y17 x18 W66 W107 I1 m1 K s)
 (qCm X x3 x9 w13 h14 i16 y17 x18 W66 .undef I1 m1 K s)
def qCf(X:Td)(x3 x9 w13 h14 i16 y17 t121 t129:AV)(I1:IvP)(m1:Nat)(K:KvP)(s:Hq):Prop:=
 oK (qAM t121 t129 (.bool false)) λW61=>oK (qAC 2 y17) λW62=>oK (qAC 2 W62) λW63=>oK (rd1 s W63) λW64=>oK (negB false (eqV 0 true W64 (.int .i64 1))) λW65=>qAL W65
 (oK (qAC 2 y17) λW108=>oK (qAC 3 W108) λW109=>oK (qAC 0 W109) λW110=>oK (rd1 s W110) λW111=>oK (negB false (eqV 0 true W111 (.int .i64 2))) λW112=>qCi X x3 x9 w13 h14 i16 y17 W61 W65 W112 I1 m1 K s)
 (qCi X x3 x9 w13 h14 i16 y17 W61 W65 .undef I1 m1 K s)
def qCo(X:Td)(x3 x9 t12 w13 h14 i16 y17 t104 t116:AV)(I1:IvP)(m1:Nat)(K:KvP)(s:Hq):Prop:=
 oK (qAM t104 (.bool true) t116) λW57=>qAL W57
 (K (.bool false) s)
 (oK (qAC 1 x9) λW58=>oK (rd1 s W58) λW59=>oK (negB false (eqV 0 true W59 (.int .u64 1577058561))) λW60=>qAL W60
 (oK (qAC 4 t12) λW113=>oK (rd1 s W113) λW114=>oK (qAC 2 h14) λW115=>oK (rd1 s W115) λW116=>oK (qAW 6 W114 W116) λW117=>oK (qAC 5 W117) λW118=>oK (rd1 s W118) λW119=>oK (negB true (eqV 0 true W119 (.int .u32 0))) λW120=>qCf X x3 x9 w13 h14 i16 y17 W60 W120 I1 m1 K s)
 (qCf X x3 x9 w13 h14 i16 y17 W60 .undef I1 m1 K s))
def qCg(X:Td)(x3 x9 t12 w13 h14 i16 y17 t91 t102:AV)(I1:IvP)(m1:Nat)(K:KvP)(s:Hq):Prop:=
 oK (qAM t91 (.bool true) t102) λW56=>qAL W56
 (qCo X x3 x9 t12 w13 h14 i16 y17 W56 .undef I1 m1 K s)
 (oK (rdN s 19 t12) λW121=>oK (qAC 4 t12) λW122=>oK (rd1 s W122) λW123=>oK (qAC 2 h14) λW124=>oK (rd1 s W124) λW125=>oK (qAW 6 W123 W125) λW126=>oK (qAC 0 W126) λW127=>oK (rd1 s W127) λW128=>oK (qAC 1 y17) λW129=>oK (rd1 s W129) λW130=>wC TP X 17 [(.agg W121),W128,W130] (λW131 S132=>oK (qAx .not W131) λW133=>qCo X x3 x9 t12 w13 h14 i16 y17 W56 W133 I1 m1 K S132) s)
def qBf(X:Td)(i16 t155 t161 t164 t173 t177:AV)(I1:IvP)(m1:Nat)(K:KvP)(s:Hq):Prop:=
 oK (qAM t173 (.bool true) t177) λW179=>oK (qAM t164 W179 (.bool false)) λW180=>oK (qAM t161 (.bool true) W180) λW181=>oK (qAM t155 W181 (.bool false)) λW182=>qAL W182
 (K (.bool false) s)
 (oK (qAF .add i16 (.int .i64 1)) λW183=>∃m',m'<m1/\I1 [W183] s m')
def qA3(X:Td)(x3 x9 w13 h14 i16 y17 x18 t147 t151:AV)(I1:IvP)(m1:Nat)(K:KvP)(s:Hq):Prop:=
 oK (qAM t147 t151 (.bool false)) λW161=>oK (qAx .not x18) λW162=>qAL W162
 (oK (qAC 1 y17) λW163=>oK (rd1 s W163) λW164=>oK (qAC 2 h14) λW165=>oK (rd1 s W165) λW166=>oK (negB true (eqV 0 false W164 W166)) λW167=>qAL W167
 (oK (qAM W167 (.bool true) .undef) λW168=>oK (qAM W162 W168 (.bool false)) λW169=>qAL W169
 (K (.bool false) s)
 (oK (qAF .add i16 (.int .i64 1)) λW170=>∃m',m'<m1/\I1 [W170] s m'))
 (oK (qAx .not W161) λW171=>qAL W171
 (oK (qAC 0 y17) λW172=>oK (rd1 s W172) λW173=>oK (qAC 3 w13) λW174=>oK (rd1 s W174) λW175=>oK (qAW 1 W175 x3) λW176=>oK (rd1 s W176) λW177=>oK (negB false (eqV 0 false W173 W177)) λW178=>qAL W178
 (qBf X i16 W162 W167 W171 W178 .undef I1 m1 K s)
 (oK (qAC 2 y17) λW184=>oK (rdN s 15 W184) λW185=>oK (rdN s 15 x9) λW186=>oK (negB true (qGF TP 48 (.agg W185) (.agg W186))) λW187=>qBf X i16 W162 W167 W171 W178 W187 I1 m1 K s))
 (oK (qAM W171 .undef (.bool false)) λW188=>oK (qAM W167 (.bool true) W188) λW189=>oK (qAM W162 W189 (.bool false)) λW190=>qAL W190
 (K (.bool false) s)
 (oK (qAF .add i16 (.int .i64 1)) λW191=>∃m',m'<m1/\I1 [W191] s m'))))
 (oK (qAM W162 .undef (.bool false)) λW192=>qAL W192
 (K (.bool false) s)
 (oK (qAF .add i16 (.int .i64 1)) λW193=>∃m',m'<m1/\I1 [W193] s m'))
def qA4(X:Td)(x3 x9 w13 h14 i16 y17 x18 t142 t145:AV)(I1:IvP)(m1:Nat)(K:KvP)(s:Hq):Prop:=
 oK (qAM t142 t145 (.bool false)) λW160=>qAL W160
 (oK (qAC 3 x9) λW194=>oK (qAC 0 W194) λW195=>oK (rd1 s W195) λW196=>oK (negB false (eqV 0 true W196 (.int .i64 1))) λW197=>qA3 X x3 x9 w13 h14 i16 y17 x18 W160 W197 I1 m1 K s)
 (qA3 X x3 x9 w13 h14 i16 y17 x18 W160 .undef I1 m1 K s)
def qA8(X:Td)(x3 x9 w13 h14 i16 y17 x18 t135 t140:AV)(I1:IvP)(m1:Nat)(K:KvP)(s:Hq):Prop:=
 oK (qAM t135 t140 (.bool false)) λW159=>qAL W159
 (oK (qAC 2 x9) λW198=>oK (rd1 s W198) λW199=>oK (negB false (eqV 0 true W199 (.int .i64 1))) λW200=>qA4 X x3 x9 w13 h14 i16 y17 x18 W159 W200 I1 m1 K s)
 (qA4 X x3 x9 w13 h14 i16 y17 x18 W159 .undef I1 m1 K s)
def qA5(X:Td)(x3 x9 w13 h14 i16 y17 t121 t129:AV)(I1:IvP)(m1:Nat)(K:KvP)(s:Hq):Prop:=
 oK (qAM t121 t129 (.bool false)) λW154=>oK (qAC 2 y17) λW155=>oK (qAC 2 W155) λW156=>oK (rd1 s W156) λW157=>oK (negB false (eqV 0 true W157 (.int .i64 1))) λW158=>qAL W158
 (oK (qAC 2 y17) λW201=>oK (qAC 3 W201) λW202=>oK (qAC 0 W202) λW203=>oK (rd1 s W203) λW204=>oK (negB false (eqV 0 true W204 (.int .i64 2))) λW205=>qA8 X x3 x9 w13 h14 i16 y17 W154 W158 W205 I1 m1 K s)
 (qA8 X x3 x9 w13 h14 i16 y17 W154 W158 .undef I1 m1 K s)
def qA6(X:Td)(x3 x9 t12 w13 h14 i16 y17 t104 t116:AV)(I1:IvP)(m1:Nat)(K:KvP)(s:Hq):Prop:=
 oK (qAM t104 (.bool true) t116) λW150=>qAL W150
 (K (.bool false) s)
 (oK (qAC 1 x9) λW151=>oK (rd1 s W151) λW152=>oK (negB false (eqV 0 true W152 (.int .u64 1577058561))) λW153=>qAL W153
 (oK (qAC 4 t12) λW206=>oK (rd1 s W206) λW207=>oK (qAC 2 h14) λW208=>oK (rd1 s W208) λW209=>oK (qAW 6 W207 W209) λW210=>oK (qAC 5 W210) λW211=>oK (rd1 s W211) λW212=>oK (negB true (eqV 0 true W212 (.int .u32 0))) λW213=>qA5 X x3 x9 w13 h14 i16 y17 W153 W213 I1 m1 K s)
 (qA5 X x3 x9 w13 h14 i16 y17 W153 .undef I1 m1 K s))
def qA2(X:Td)(x3 x9 t12 w13 h14 i16 y17 t91 t102:AV)(I1:IvP)(m1:Nat)(K:KvP)(s:Hq):Prop:=
 oK (qAM t91 (.bool true) t102) λW149=>qAL W149
 (qA6 X x3 x9 t12 w13 h14 i16 y17 W149 .undef I1 m1 K s)
 (oK (rdN s 19 t12) λW214=>oK (qAC 4 t12) λW215=>oK (rd1 s W215) λW216=>oK (qAC 2 h14) λW217=>oK (rd1 s W217) λW218=>oK (qAW 6 W216 W218) λW219=>oK (qAC 0 W219) λW220=>oK (rd1 s W220) λW221=>oK (qAC 1 y17) λW222=>oK (rd1 s W222) λW223=>wC TP X 17 [(.agg W214),W221,W223] (λW224 S225=>oK (qAx .not W224) λW226=>qA6 X x3 x9 t12 w13 h14 i16 y17 W149 W226 I1 m1 K S225) s)
def qA7(X:Td)(x3 x9 t12 w13 h14 i16 y17 t76 t79 t88:AV)(I1:IvP)(m1:Nat)(K:KvP)(s:Hq):Prop:=
 oK (qAM t79 t88 (.bool false)) λW147=>oK (qAM t76 (.bool true) W147) λW148=>qAL W148
 (qA2 X x3 x9 t12 w13 h14 i16 y17 W148 .undef I1 m1 K s)
 (oK (qAC 5 t12) λW227=>oK (rd1 s W227) λW228=>oK (qAC 0 y17) λW229=>oK (rd1 s W229) λW230=>oK (qAW 2 W228 W230) λW231=>oK (qAC 1 W231) λW232=>oK (rd1 s W232) λW233=>oK (qAC 1 y17) λW234=>oK (rd1 s W234) λW235=>wC TP X 16 [W233,W235] (λW236 S237=>oK (qAx .not W236) λW238=>qA2 X x3 x9 t12 w13 h14 i16 y17 W148 W238 I1 m1 K S237) s)
def qBr(X:Td)(x3 x9 t12 w13 h14 x15 i16 y17 t68 t74:AV)(I1:IvP)(m1:Nat)(K:KvP)(s:Hq):Prop:=
 oK (qAM t68 (.bool true) t74) λW54=>qAL W54
 (oK (qAM W54 (.bool true) .undef) λW55=>qAL W55
 (qCg X x3 x9 t12 w13 h14 i16 y17 W55 .undef I1 m1 K s)
 (oK (qAC 5 t12) λW134=>oK (rd1 s W134) λW135=>oK (qAC 0 y17) λW136=>oK (rd1 s W136) λW137=>oK (qAW 2 W135 W137) λW138=>oK (qAC 1 W138) λW139=>oK (rd1 s W139) λW140=>oK (qAC 1 y17) λW141=>oK (rd1 s W141) λW142=>wC TP X 16 [W140,W142] (λW143 S144=>oK (qAx .not W143) λW145=>qCg X x3 x9 t12 w13 h14 i16 y17 W55 W145 I1 m1 K S144) s))
 (oK (qAF .gtr i16 (.int .i64 0)) λW146=>qAL W146
 (oK (qAF .sub i16 (.int .i64 1)) λW239=>oK (qAW 17 x15 W239) λW240=>oK (qAC 0 W240) λW241=>oK (rd1 s W241) λW242=>oK (qAC 0 y17) λW243=>oK (rd1 s W243) λW244=>oK (qAF .geq W242 W244) λW245=>qA7 X x3 x9 t12 w13 h14 i16 y17 W54 W146 W245 I1 m1 K s)
 (qA7 X x3 x9 t12 w13 h14 i16 y17 W54 W146 .undef I1 m1 K s))
def qAj(X:Td)(x3 x9 x11 t12 w13 h14 x15 i16:AV)(I1:IvP)(m1:Nat)(K:KvP)(s:Hq):Prop:=
 oK (qAQ x15) λW43=>oK (qAF .lss i16 (.int .i64 W43)) λW45=>qAL W45
 (oK (qAW 17 x15 i16) λW46=>oK (rdN s 17 W46) λW47=>newK 55 [(.int .i64 0),(.int .i64 0),(.int .u64 0),(.int .u64 0),(.int .i64 0),(.int .i64 0),(.int .u64 0),(.int .u32 0),(.int .u64 0),(.int .u32 0),(.int .u32 0),(.int .u32 0),(.int .i64 0),(.int .i64 0),(.int .i64 0),(.int .i64 0),(.int .u64 0)] (λB48 S49=>oK (qA1 S49 17 (.ptr B48 0) (.agg W47)) λS50=>oK (qAC 0 (.ptr B48 0)) λW51=>oK (rd1 S50 W51) λW52=>oK (qAF .lss W52 (.int .i64 0)) λW53=>qAL W53
 (qBr X x3 x9 t12 w13 h14 x15 i16 (.ptr B48 0) W53 .undef I1 m1 K S50)
 (oK (qAC 0 (.ptr B48 0)) λW246=>oK (rd1 S50 W246) λW247=>oK (qAC 5 t12) λW248=>oK (rd1 S50 W248) λW249=>oK (qAQ W249) λW250=>oK (qAF .geq W247 (.int .i64 W250)) λW252=>qBr X x3 x9 t12 w13 h14 x15 i16 (.ptr B48 0) W53 W252 I1 m1 K S50)) s)
 (K x11 s)
def qAk(X:Td)(state1 heard2 x3 x9 x11 t12 t27 t30:AV)(K:KvP)(s:Hq):Prop:=
 oK (qAM t27 (.bool true) t30) λW14=>qAL W14
 (K x11 s)
 (oK (rdN s 19 t12) λW15=>wC TP X 14 [(.agg W15),state1] (λW16 S17=>newK 36 [.nilslc,.nilslc,.nilslc,.nilslc] (λB18 S19=>oK (qA1 S19 4 (.ptr B18 0) W16) λS20=>oK (qAC 6 t12) λW21=>oK (rd1 S20 W21) λW22=>oK (qAQ W22) λW23=>wC TP X 15 [x3,(.int .i64 W23)] (λW25 S26=>oK (qAC 6 t12) λW27=>oK (rd1 S26 W27) λW28=>oK (qAW 4 W28 W25) λW29=>oK (rdN S26 4 W29) λW30=>newK 61 [(.int .u64 0),(.int .u32 0),(.int .i64 0),(.int .i64 0)] (λB31 S32=>oK (qA1 S32 4 (.ptr B31 0) (.agg W30)) λS33=>oK (qAC 0 (.ptr B31 0)) λW34=>oK (rd1 S33 W34) λW35=>oK (qAC 0 x9) λW36=>oK (wr1 S33 W36 W35) λS37=>oK (rdN S37 19 t12) λW38=>oK (rdN S37 4 (.ptr B18 0)) λW39=>oK (rdN S37 15 x9) λW40=>wC TP X 10 [(.agg W38),(.agg W39),heard2,W25,(.agg W40)] (λW41 S42=>∃I1:IvP,(∃m,I1 [(.int .i64 0)] S42 m)/\∀(f:Env) (s:Hq) (m1:Nat),I1 [f 16] s m1->
 qAj X W25 x9 x11 t12 (.ptr B18 0) (.ptr B31 0) W41 (f 16) I1 m1 K s) S37) S26) S20) S17) s)
def qEv(X:Td)(l0 state1 heard2 x3 x4:AV)(K:KvP)(s:Hq):Prop:=
 boxK 48 x4 (λB0 S1=>wC TP X 3 [] (λW2 S3=>wC TP X 13 [l0] (λW4 S5=>newK 31 zR1 (λB6 S7=>oK (qA1 S7 19 (.ptr B6 0) W4) λS8=>oK (qAC 6 (.ptr B6 0)) λW9=>oK (rd1 S8 W9) λW10=>oK (qAQ W10) λW11=>oK (negB false (eqV 0 true (.int .i64 W11) (.int .i64 0))) λW13=>qAL W13
 (qAk X state1 heard2 x3 B0 W2 (.ptr B6 0) W13 .undef K S8)
 (oK (qAQ heard2) λW253=>oK (qAF .gtr (.int .i64 W253) (.int .i64 60)) λW255=>qAk X state1 heard2 x3 B0 W2 (.ptr B6 0) W13 W255 K S8)) S5) S3) S1) s
def qD0:Nat->List Nat:=λk=>cond (Nat.beq k 22) [16] ([])
theorem qEC{l0 state1 heard2 x3 x4:AV}{K:KvP}{s:Hq}(h:qEv XX l0 state1 heard2 x3 x4 K s):wC TP XX 4 [l0,state1,heard2,x3,x4] K s:=wOK qBH qD0 rfl Tryz.func4 h
def qFJ(X:Td)(a16 t60 t61:AV)(I0:IvP)(m0:Nat)(K:KvP)(s:Hq):Prop:=
 oK (qAF .lss t61 (.int .i64 6)) λW38=>qAL W38
 (oK (qOC 6 1 none t60 t61) λW39=>funK TP X W39 [a16] (λW40 S41=>oK (qAg W40 0) λW42=>oK (qAg W40 1) λW43=>qAL W43
 (K W42 S41)
 (oK (qAF .add t61 (.int .i64 1)) λW44=>∃m',m'<m0/\I0 [W44] S41 m')) s)
 (K .nilslc s)
def qKZ(X:Td)(t0 w1 heard2 x3 x4:AV)(K:KvP)(s:Hq):Prop:=
 boxK 31 t0 (λB0 S1=>boxK 36 w1 (λB2 S3=>boxK 48 x4 (λB4 S5=>oK (rdN S5 19 B0) λW6=>oK (rdN S5 4 B2) λW7=>wC TP X 38 [(.agg W6),(.agg W7)] (λW8 S9=>oK (qAg W8 0) λW10=>oK (qAg W8 1) λW11=>oK (qAx .not W11) λW12=>qAL W12
 (K .nilslc S9)
 (oK (rdN S9 15 B4) λW13=>wC TP X 39 [W10,x3,(.agg W13)] (λW14 S15=>oK (qAg W14 0) λW16=>oK (qAg W14 1) λW17=>oK (qAx .not W17) λW18=>qAL W18
 (K .nilslc S15)
 (wC TP X 40 [W10,x3] (λW19 S20=>oK (qAg W19 0) λW21=>oK (qAg W19 1) λW22=>wC TP X 41 [W10,W16] (λW23 S24=>(∀b,S20 b≠none->S20 b=none->S24 b=none)->
 oK (rdN (cutH [(S20,(add S20 S24))] (add S20 S24)) 15 B4) λW25=>oK (qAC 6 B0) λW26=>oK (rd1 (cutH [(S20,(add S20 S24))] (add S20 S24)) W26) λW27=>oK (qAW 4 W27 x3) λW28=>oK (rdN (cutH [(S20,(add S20 S24))] (add S20 S24)) 4 W28) λW29=>oK (qAw [.nilptr,.nilslc,.nilslc,(.int .u64 0),(.int .u64 0),(.int .i64 0),(.int .i64 0),(.int .u64 0),(.int .u32 0),(.int .u64 0),(.int .u32 0),(.int .u32 0),(.int .u32 0),(.int .i64 0),(.int .i64 0),(.int .i64 0),(.int .i64 0),(.int .u64 0),(.int .u64 0),(.int .u32 0),(.int .i64 0),(.int .i64 0),(.int .i64 0)] [(0,1,W10),(1,1,heard2),(2,1,W23),(3,15,(.agg W25)),(18,4,(.agg W29)),(22,1,W21)]) λC30=>boxK 102 (.agg C30) (λB31 S32=>oK (qAw [.nilFunc,.nilFunc,.nilFunc,.nilFunc,.nilFunc,.nilFunc] [(0,1,(.fn (.func 42) [] [])),(1,1,(.fn (.func 43) [] [])),(2,1,(.fn (.func 44) [] [])),(3,1,(.fn (.func 45) [] [])),(4,1,(.fn (.func 46) [] [])),(5,1,(.fn (.func 47) [] []))]) λC33=>newK 106 [.nilFunc,.nilFunc,.nilFunc,.nilFunc,.nilFunc,.nilFunc] (λB34 S35=>oK (qA1 S35 6 (.ptr B34 0) (.agg C33)) λS36=>oK (rdN S36 6 (.ptr B34 0)) λW37=>∃I0:IvP,(∃m,I0 [(.int .i64 0)] S36 m)/\∀(f:Env) (s:Hq) (m0:Nat),I0 [f 61] s m0->
 qFJ X B31 (.agg W37) (f 61) I0 m0 K s) S32) (add S20 S24)) (frz S20)) S15)) S9)) S5) S3) S1) s
def qIh:Nat->List Nat:=λk=>cond (Nat.beq k 22) [61] ([])
theorem qIy{t0 w1 heard2 x3 x4:AV}{K:KvP}{s:Hq}(h:qKZ XX t0 w1 heard2 x3 x4 K s):wC TP XX 10 [t0,w1,heard2,x3,x4] K s:=wOK qBH qIh rfl Tryz.func10 h
def qLk(X:Td)(t2 t5 w6 n9 x10 t11:AV)(I3:IvP)(m3:Nat)(I2:IvP)(m2:Nat)(K:KvP)(s:Hq):Prop:=
 oK (qAC 5 t2) λW51=>oK (rd1 s W51) λW52=>oK (qAQ W52) λW53=>oK (qAF .lss t11 (.int .i64 W53)) λW55=>qAL W55
 (wC TP X 48 [t5,(.int .i64 8)] (λW56 S57=>oK (negB true (eqV 0 true W56 (.int .i64 7))) λW58=>oK (qAw (repl 1 [(.bool false)]) [(0,1,W58)]) λC59=>qAZ C59=true/\newK 4 C59 (λB60 S61=>appK 4 1 x10 (.slc B60 0 1 (some 1) 1) (λW62 S63=>oK (qAF .add t11 (.int .i64 1)) λW64=>∃m',m'<m3/\I3 [W62,W64] S63 m') S61) S57) s)
 (oK (qAC 2 w6) λW65=>oK (rd1 s W65) λW66=>oK (qAw (repl 1 [.nilslc]) [(0,1,x10)]) λC67=>qAZ C67=true/\newK 32 C67 (λB68 S69=>appK 32 1 W66 (.slc B68 0 1 (some 1) 1) (λW70 S71=>oK (qAC 2 w6) λW72=>oK (wr1 S71 W72 W70) λS73=>oK (qAF .add n9 (.int .i64 1)) λW74=>∃m',m'<m2/\I2 [W74] S73 m') S69) s)
def qFM(X:Td)(w6 h12 t13:AV)(I4:IvP)(m4:Nat)(K:KvP)(s:Hq):Prop:=
 oK (qAC 3 w6) λW88=>oK (rd1 s W88) λW89=>oK (qAw (repl 1 [(.int .i64 0)]) [(0,1,t13)]) λC90=>qAZ C90=true/\newK 3 C90 (λB91 S92=>appK 3 1 W89 (.slc B91 0 1 (some 1) 1) (λW93 S94=>oK (qAC 3 w6) λW95=>oK (wr1 S94 W95 W93) λS96=>oK (qAF .add h12 (.int .i64 1)) λW97=>∃m',m'<m4/\I4 [W97] S96 m') S92) s
def qJE(X:Td)(t2 t4 t5 w6 h12:AV)(I4:IvP)(m4:Nat)(K:KvP)(s:Hq):Prop:=
 oK (qAC 6 t2) λW75=>oK (rd1 s W75) λW76=>oK (qAQ W76) λW77=>oK (qAF .lss h12 (.int .i64 W77)) λW79=>qAL W79
 (oK (qAC 6 t2) λW80=>oK (rd1 s W80) λW81=>oK (qAW 4 W81 h12) λW82=>oK (qAC 3 W82) λW83=>oK (rd1 s W83) λW84=>wC TP X 48 [t5,(.int .i64 4)] (λW85 S86=>oK (negB false (eqV 0 true W85 (.int .i64 3))) λW87=>qAL W87
 (oK (rdN S86 19 t2) λW98=>oK (qAC 6 t2) λW99=>oK (rd1 S86 W99) λW100=>oK (qAW 4 W100 h12) λW101=>oK (qAC 2 W101) λW102=>oK (rd1 S86 W102) λW103=>∃h_104:Hq,(∀b,h_104 b≠none->S86 b≠none)/\
 wC TP X 48 [t5,(.int .i64 6)] (λW105 S106=>(∀b,S86 b≠none->(cutH [((hdel S86 (qAr t2)),S86),((hdel S86 (qAr W99)),S86),((hdel S86 (qAr W102)),S86)] (minus S86 h_104)) b=none->S106 b=none)->
 wC TP X 55 [(.agg W98),W103,W105] (λW107 S108=>qFM X w6 h12 W107 I4 m4 K S108) (add S106 (rest S86 (cutH [((hdel S86 (qAr t2)),S86),((hdel S86 (qAr W99)),S86),((hdel S86 (qAr W102)),S86)] (minus S86 h_104))))) (cutH [((hdel S86 (qAr t2)),S86),((hdel S86 (qAr W99)),S86),((hdel S86 (qAr W102)),S86)] (minus S86 h_104)))
 (qFM X w6 h12 W84 I4 m4 K S86)) s)
 (oK (rdN s 4 w6) λW109=>oK (qA1 s 4 t4 (.agg W109)) λS110=>oK (rdN S110 4 t4) λt4_111=>K (.agg t4_111) S110)
def qJA(X:Td)(t2 t4 t5 w6 n9:AV)(I2:IvP)(m2:Nat)(K:KvP)(s:Hq):Prop:=
 oK (qAC 0 t2) λW48=>oK (rd1 s W48) λW49=>oK (qAF .lss n9 W49) λW50=>qAL W50
 (∃I3:IvP,(∃m,I3 [.nilslc,(.int .i64 0)] s m)/\∀(f:Env) (s:Hq) (m3:Nat),I3 [f 10,f 11] s m3->
 qLk X t2 t5 w6 n9 (f 10) (f 11) I3 m3 I2 m2 K s)
 (∃I4:IvP,(∃m,I4 [(.int .i64 0)] s m)/\∀(f:Env) (s:Hq) (m4:Nat),I4 [f 12] s m4->
 qJE X t2 t4 t5 w6 (f 12) I4 m4 K s)
def qIu(X:Td)(t2 t4 t5 w6 i8:AV)(I1:IvP)(m1:Nat)(K:KvP)(s:Hq):Prop:=
 oK (qAC 2 t2) λW29=>oK (rd1 s W29) λW30=>oK (qAQ W30) λW31=>oK (qAF .lss i8 (.int .i64 W31)) λW33=>qAL W33
 (oK (qAC 1 w6) λW34=>oK (rd1 s W34) λW35=>∃h_36:Hq,(∀b,h_36 b≠none->s b≠none)/\
 wC TP X 48 [t5,(.int .i64 6)] (λW37 S38=>(∀b,s b≠none->(cutH [((hdel s (qAr W34)),s)] (minus s h_36)) b=none->S38 b=none)->
 oK (negB true (eqV 0 true W37 (.int .i64 5))) λW39=>oK (qAw (repl 1 [(.bool false)]) [(0,1,W39)]) λC40=>qAZ C40=true/\newK 4 C40 (λB41 S42=>(∀b,(add S38 (rest s (cutH [((hdel s (qAr W34)),s)] (minus s h_36)))) b≠none->(add S38 (rest s (cutH [((hdel s (qAr W34)),s)] (minus s h_36)))) b=none->S42 b=none)->
 appK 4 1 W35 (.slc B41 0 1 (some 1) 1) (λW43 S44=>oK (qAC 1 w6) λW45=>oK (wr1 S44 W45 W43) λS46=>oK (qAF .add i8 (.int .i64 1)) λW47=>∃m',m'<m1/\I1 [W47] S46 m') (add (add S38 (rest s (cutH [((hdel s (qAr W34)),s)] (minus s h_36)))) S42)) (frz (add S38 (rest s (cutH [((hdel s (qAr W34)),s)] (minus s h_36)))))) (cutH [((hdel s (qAr W34)),s)] (minus s h_36)))
 (∃I2:IvP,(∃m,I2 [(.int .i64 0)] s m)/\∀(f:Env) (s:Hq) (m2:Nat),I2 [f 9] s m2->
 qJA X t2 t4 t5 w6 (f 9) I2 m2 K s)
def qIx(X:Td)(t2 t4 t5 w6 n7:AV)(I0:IvP)(m0:Nat)(K:KvP)(s:Hq):Prop:=
 oK (qAC 0 t2) λW9=>oK (rd1 s W9) λW10=>oK (qAC 1 t2) λW11=>oK (rd1 s W11) λW12=>oK (qAF .add W10 W12) λW13=>oK (qAF .lss n7 W13) λW14=>qAL W14
 (oK (qAC 0 w6) λW15=>oK (rd1 s W15) λW16=>∃h_17:Hq,(∀b,h_17 b≠none->s b≠none)/\
 wC TP X 48 [t5,(.int .i64 9)] (λW18 S19=>(∀b,s b≠none->(cutH [((hdel s (qAr W15)),s)] (minus s h_17)) b=none->S19 b=none)->
 oK (negB true (eqV 0 true W18 (.int .i64 8))) λW20=>oK (qAw (repl 1 [(.bool false)]) [(0,1,W20)]) λC21=>qAZ C21=true/\newK 4 C21 (λB22 S23=>(∀b,(add S19 (rest s (cutH [((hdel s (qAr W15)),s)] (minus s h_17)))) b≠none->(add S19 (rest s (cutH [((hdel s (qAr W15)),s)] (minus s h_17)))) b=none->S23 b=none)->
 appK 4 1 W16 (.slc B22 0 1 (some 1) 1) (λW24 S25=>oK (qAC 0 w6) λW26=>oK (wr1 S25 W26 W24) λS27=>oK (qAF .add n7 (.int .i64 1)) λW28=>∃m',m'<m0/\I0 [W28] S27 m') (add (add S19 (rest s (cutH [((hdel s (qAr W15)),s)] (minus s h_17)))) S23)) (frz (add S19 (rest s (cutH [((hdel s (qAr W15)),s)] (minus s h_17)))))) (cutH [((hdel s (qAr W15)),s)] (minus s h_17)))
 (∃I1:IvP,(∃m,I1 [(.int .i64 0)] s m)/\∀(f:Env) (s:Hq) (m1:Nat),I1 [f 8] s m1->
 qIu X t2 t4 t5 w6 (f 8) I1 m1 K s)
def qWD(X:Td)(t0 l1:AV)(K:KvP)(s:Hq):Prop:=
 boxK 31 t0 (λB0 S1=>newK 36 [.nilslc,.nilslc,.nilslc,.nilslc] (λB2 S3=>oK (qAw [.nilslc,(.int .i64 0)] [(0,1,l1)]) λC4=>boxK 110 (.agg C4) (λB5 S6=>newK 36 [.nilslc,.nilslc,.nilslc,.nilslc] (λB7 S8=>∃I0:IvP,(∃m,I0 [(.int .i64 0)] S8 m)/\∀(f:Env) (s:Hq) (m0:Nat),I0 [f 7] s m0->
 qIx X B0 (.ptr B2 0) B5 (.ptr B7 0) (f 7) I0 m0 K s) S6) S3) S1) s
def qPN:Nat->List Nat:=λk=>cond (Nat.beq k 8) [7] (cond (Nat.beq k 1000026) [3] (cond (Nat.beq k 16) [8] (cond (Nat.beq k 1000041) [3] (cond (Nat.beq k 24) [9] (cond (Nat.beq k 32) [10,11] (cond (Nat.beq k 42) [12] (cond (Nat.beq k 1000090) [8] ([]))))))))
theorem qPz{t0 l1:AV}{K:KvP}{s:Hq}(h:qWD XX t0 l1 K s):wC TP XX 14 [t0,l1] K s:=wOK qBH qPN rfl Tryz.func14 h
def qIr(X:Td)(l0 x1 i5:AV)(I0:IvP)(m0:Nat)(K:KvP)(s:Hq):Prop:=
 oK (qAQ l0) λW0=>oK (qAF .lss i5 (.int .i64 W0)) λW2=>qAL W2
 (oK (qAW 1 l0 i5) λW3=>oK (rd1 s W3) λW4=>oK (negB false (eqV 0 false W4 x1)) λW5=>qAL W5
 (K (.bool true) s)
 (oK (qAF .add i5 (.int .i64 1)) λW6=>∃m',m'<m0/\I0 [W6] s m'))
 (K (.bool false) s)
def qLS(X:Td)(l0 x1:AV)(K:KvP)(s:Hq):Prop:=
 ∃I0:IvP,(∃m,I0 [(.int .i64 0)] s m)/\∀(f:Env) (s:Hq) (m0:Nat),I0 [f 5] s m0->
 qIr X l0 x1 (f 5) I0 m0 K s
def qLT:Nat->List Nat:=λk=>cond (Nat.beq k 4) [5] ([])
theorem qMN{l0 x1:AV}{K:KvP}{s:Hq}(h:qLS XX l0 x1 K s):wC TP XX 16 [l0,x1] K s:=wOK qBH qLT rfl Tryz.func16 h
def qBc(X:Td)(i8 t33 t41:AV)(I0:IvP)(m0:Nat)(K:KvP)(s:Hq):Prop:=
 oK (qAM t33 t41 (.bool false)) λW19=>qAL W19
 (K (.bool true) s)
 (oK (qAF .add i8 (.int .i64 1)) λW20=>∃m',m'<m0/\I0 [W20] s m')
def qDJ(X:Td)(t1 t3 t7 i8:AV)(I0:IvP)(m0:Nat)(K:KvP)(s:Hq):Prop:=
 oK (qAC 7 t3) λW8=>oK (rd1 s W8) λW9=>oK (qAQ W9) λW10=>oK (qAF .lss i8 (.int .i64 W10)) λW12=>qAL W12
 (oK (qAC 7 t3) λW13=>oK (rd1 s W13) λW14=>oK (qAW 4 W14 i8) λW15=>oK (qAC 0 W15) λW16=>oK (rd1 s W16) λW17=>oK (negB false (eqV 0 false W17 t7)) λW18=>qAL W18
 (oK (qAC 7 t3) λW21=>oK (rd1 s W21) λW22=>oK (qAW 4 W22 i8) λW23=>oK (qAC 1 W23) λW24=>oK (rd1 s W24) λW25=>oK (negB false (eqV 0 false W25 t1)) λW26=>qBc X i8 W18 W26 I0 m0 K s)
 (qBc X i8 W18 .undef I0 m0 K s))
 (K (.bool false) s)
def qGa(X:Td)(t0 t1 bd2:AV)(K:KvP)(s:Hq):Prop:=
 boxK 31 t0 (λB0 S1=>oK (qAC 4 B0) λW2=>oK (rd1 S1 W2) λW3=>oK (qAW 6 W3 bd2) λW4=>oK (qAC 0 W4) λW5=>oK (rd1 S1 W5) λW6=>oK (negB false (eqV 0 false W6 t1)) λW7=>qAL W7
 (K (.bool true) S1)
 (∃I0:IvP,(∃m,I0 [(.int .i64 0)] S1 m)/\∀(f:Env) (s:Hq) (m0:Nat),I0 [f 8] s m0->
 qDJ X t1 B0 W6 (f 8) I0 m0 K s)) s
def qEq:Nat->List Nat:=λk=>cond (Nat.beq k 10) [8] ([])
theorem qFe{t0 t1 bd2:AV}{K:KvP}{s:Hq}(h:qGa XX t0 t1 bd2 K s):wC TP XX 17 [t0,t1,bd2] K s:=wOK qBH qEq rfl Tryz.func17 h
end Go.AM
namespace Go.AM
open Go Go.Proofs
set_option maxRecDepth 100000
def qJ2(X:Td)(t0 w1:AV)(K:KvP)(s:Hq):Prop:=
 boxK 31 t0 (λB0 S1=>boxK 36 w1 (λB2 S3=>oK (rdN S3 19 B0) λW4=>wC TP X 70 [(.agg W4)] (λW5 S6=>oK (qAg W5 0) λW7=>oK (qAg W5 1) λW8=>oK (qAg W5 2) λW9=>oK (negB true (eqV 0 true W7 (.int .i64 0))) λW10=>qAL W10
 (K (.tup [.nilptr,(.bool false)]) S6)
 (oK (rdN S6 19 B0) λW11=>oK (rdN S6 4 B2) λW12=>oK (qAw [(.int .i64 0),(.int .i64 0),.nilslc,.nilslc,.nilslc,.nilslc,.nilslc,.nilslc,(.int .i64 0),(.int .i64 0),(.int .i64 0),(.bool false),(.bool false),(.int .i64 0),(.int .i64 0),(.int .i64 0),(.int .i64 0),(.int .i64 0),(.int .i64 0),.nilslc,.nilslc,.nilslc,.nilslc] [(0,19,(.agg W11)),(19,4,(.agg W12))]) λC13=>boxK 136 (.agg C13) (λB14 S15=>K (.tup [B14,(.bool true)]) S15) S6)) S3) S1) s
theorem qIf{t0 w1:AV}{K:KvP}{s:Hq}(h:qJ2 XX t0 w1 K s):wC TP XX 38 [t0,w1] K s:=wOK qBH nA0 rfl Tryz.func38 h
def qBB(X:Td)(x8 t33 t36:AV)(K:KvP)(s:Hq):Prop:=
 oK (qAM t33 (.bool true) t36) λW9=>qAL W9
 (K (.tup [(.int .i64 0),(.bool false)]) s)
 (K (.tup [x8,(.bool true)]) s)
def qBE(X:Td)(x5 x8 t19 t31:AV)(K:KvP)(s:Hq):Prop:=
 oK (qAM t19 (.bool true) t31) λW8=>qAL W8
 (qBB X x8 W8 .undef K s)
 (oK (rdN s 15 x5) λW10=>wC TP X 71 [(.agg W10)] (λW11 S12=>oK (negB true (eqV 0 true W11 (.int .i64 0))) λW13=>qBB X x8 W8 W13 K S12) s)
def qGf(X:Td)(t0 host1 x2:AV)(K:KvP)(s:Hq):Prop:=
 boxK 48 x2 (λB0 S1=>oK (rdN S1 15 B0) λW2=>wC TP X 61 [t0,host1,(.agg W2)] (λW3 S4=>oK (qAg W3 0) λW5=>oK (qAg W3 1) λW6=>oK (qAx .not W6) λW7=>qAL W7
 (qBE X B0 W5 W7 .undef K S4)
 (oK (qAC 0 B0) λW14=>oK (rd1 S4 W14) λW15=>oK (qAI t0) λW16=>oK (qAC 0 W16) λW17=>oK (qAC 6 W17) λW18=>oK (rd1 S4 W18) λW19=>oK (qAW 4 W19 host1) λW20=>oK (qAC 0 W20) λW21=>oK (rd1 S4 W21) λW22=>oK (negB true (eqV 0 false W15 W22)) λW23=>qBE X B0 W5 W7 W23 K S4)) S1) s
theorem qFb{t0 host1 x2:AV}{K:KvP}{s:Hq}(h:qGf XX t0 host1 x2 K s):wC TP XX 39 [t0,host1,x2] K s:=wOK qBH nA0 rfl Tryz.func39 h
def qA9(X:Td)(t0 host1 x6 t31 t39:AV)(K:KvP)(s:Hq):Prop:=
 oK (qAM t31 (.bool true) t39) λW11=>qAL W11
 (K (.tup [(.int .i64 0),(.bool false)]) s)
 (oK (qAI t0) λW12=>oK (qAC 0 W12) λW13=>oK (qAC 5 W13) λW14=>oK (rd1 s W14) λW15=>oK (qAW 2 W15 x6) λW16=>oK (qAC 1 W16) λW17=>oK (rd1 s W17) λW18=>oK (qAI t0) λW19=>oK (qAC 0 W19) λW20=>oK (qAC 6 W20) λW21=>oK (rd1 s W21) λW22=>oK (qAW 4 W22 host1) λW23=>oK (qAC 2 W23) λW24=>oK (rd1 s W24) λW25=>wC TP X 72 [W18,W25] (λW26 S27=>oK (qAx .not W26) λW28=>qAL W28
 (K (.tup [(.int .i64 0),(.bool false)]) S27)
 (K (.tup [x6,(.bool true)]) S27)) s)
def qBC(X:Td)(t0 host1 t11 t19:AV)(K:KvP)(s:Hq):Prop:=
 oK (qAM t11 (.bool true) t19) λW3=>qAL W3
 (K (.tup [(.int .i64 0),(.bool false)]) s)
 (oK (qAI t0) λW4=>oK (qAC 19 W4) λW5=>oK (qAC 3 W5) λW6=>oK (rd1 s W6) λW7=>oK (qAW 1 W7 host1) λW8=>oK (rd1 s W8) λW9=>oK (qAF .lss W9 (.int .i64 0)) λW10=>qAL W10
 (qA9 X t0 host1 W9 W10 .undef K s)
 (oK (qAI t0) λW29=>oK (qAC 0 W29) λW30=>oK (qAC 5 W30) λW31=>oK (rd1 s W31) λW32=>oK (qAQ W32) λW33=>oK (qAF .geq W9 (.int .i64 W33)) λW35=>qA9 X t0 host1 W9 W10 W35 K s))
def qGg(X:Td)(t0 host1:AV)(K:KvP)(s:Hq):Prop:=
 wC TP X 56 [t0,host1] (λW0 S1=>oK (qAx .not W0) λW2=>qAL W2
 (qBC X t0 host1 W2 .undef K S1)
 (oK (qAI t0) λW36=>oK (qAC 19 W36) λW37=>oK (qAC 3 W37) λW38=>oK (rd1 S1 W38) λW39=>oK (qAQ W39) λW40=>oK (qAF .geq host1 (.int .i64 W40)) λW42=>qBC X t0 host1 W2 W42 K S1)) s
theorem qFN{t0 host1:AV}{K:KvP}{s:Hq}(h:qGg XX t0 host1 K s):wC TP XX 40 [t0,host1] K s:=wOK qBH nA0 rfl Tryz.func40 h
def qBY(X:Td)(leaf1 t2 t18 t26:AV)(K:KvP)(s:Hq):Prop:=
 oK (qAM t18 (.bool true) t26) λW4=>qAL W4
 (K .nilslc s)
 (oK (rd1 s t2) λW5=>wC TP X 74 [leaf1,(.fn (.func 75) [W5] [])] (λW6 S7=>wC TP X 76 [W6,(.fn (.func 77) [] [t2])] (λW8 S9=>wC TP X 78 [W8] (λW10 S11=>K W8 S11) S9) S7) s)
def qBa(X:Td)(leaf1 t2 t9 t16:AV)(K:KvP)(s:Hq):Prop:=
 oK (qAM t9 (.bool true) t16) λW3=>qAL W3
 (qBY X leaf1 t2 W3 .undef K s)
 (oK (rd1 s t2) λW12=>oK (qAI W12) λW13=>oK (qAC 19 W13) λW14=>oK (qAC 0 W14) λW15=>oK (rd1 s W15) λW16=>wC TP X 73 [W16,leaf1] (λW17 S18=>oK (qAx .not W17) λW19=>qBY X leaf1 t2 W3 W19 K S18) s)
def qIc(X:Td)(t0 leaf1:AV)(K:KvP)(s:Hq):Prop:=
 boxK 94 t0 (λB0 S1=>oK (qAF .lss leaf1 (.int .i64 0)) λW2=>qAL W2
 (qBa X leaf1 B0 W2 .undef K S1)
 (oK (rd1 S1 B0) λW20=>oK (qAI W20) λW21=>oK (qAC 0 W21) λW22=>oK (qAC 0 W22) λW23=>oK (rd1 S1 W23) λW24=>oK (qAF .geq leaf1 W24) λW25=>qBa X leaf1 B0 W2 W25 K S1)) s
theorem qGu{t0 leaf1:AV}{K:KvP}{s:Hq}(h:qIc XX t0 leaf1 K s):wC TP XX 41 [t0,leaf1] K s:=wOK qBH nA0 rfl Tryz.func41 h
def qBL(X:Td)(a0 t15 t24:AV)(K:KvP)(s:Hq):Prop:=
 oK (qAM t15 (.bool true) t24) λW9=>qAL W9
 (K (.tup [.nilslc,(.bool false)]) s)
 (wC TP X 81 [a0,(.int .u64 1577058561)] (λW10 S11=>K (.tup [W10,(.bool true)]) S11) s)
def qBM(X:Td)(a0 d4 t10 t13:AV)(K:KvP)(s:Hq):Prop:=
 oK (qAM t10 (.bool true) t13) λW8=>qAL W8
 (qBL X a0 W8 .undef K s)
 (oK (qAI a0) λW12=>oK (qAC 3 W12) λW13=>oK (qAC 3 W13) λW14=>oK (qAC 4 W14) λW15=>oK (rd1 s W15) λW16=>oK (qAC 5 d4) λW17=>oK (rd1 s W17) λW18=>oK (negB true (eqV 0 false W16 W18)) λW19=>qBL X a0 W8 W19 K s)
def qG7(X:Td)(a0:AV)(K:KvP)(s:Hq):Prop:=
 wC TP X 79 [a0] (λW0 S1=>newK 69 [(.int .i64 0),(.int .u32 0),(.int .u32 0),(.int .u32 0),(.int .i64 0),(.int .u32 0)] (λB2 S3=>oK (qA1 S3 6 (.ptr B2 0) W0) λS4=>wC TP X 80 [a0] (λW5 S6=>oK (qAx .not W5) λW7=>qAL W7
 (qBM X a0 (.ptr B2 0) W7 .undef K S6)
 (oK (qAC 5 (.ptr B2 0)) λW20=>oK (rd1 S6 W20) λW21=>oK (negB false (eqV 0 true W21 (.int .u32 0))) λW22=>qBM X a0 (.ptr B2 0) W7 W22 K S6)) S4) S1) s
theorem qFg{a0:AV}{K:KvP}{s:Hq}(h:qG7 XX a0 K s):wC TP XX 42 [a0] K s:=wOK qBH nA0 rfl Tryz.func42 h
def qAq(X:Td)(a0 h6 t47 t67 t81:AV)(I3:IvP)(m3:Nat)(K:KvP)(s:Hq):Prop:=
 oK (qAM t67 t81 (.bool false)) λW41=>qAL W41
 (oK (qAC 0 h6) λW42=>oK (rd1 s W42) λW43=>wC TP X 81 [a0,W43] (λW44 S45=>K (.tup [W44,(.bool true)]) S45) s)
 (oK (qAF .add t47 (.int .i64 1)) λW46=>∃m',m'<m3/\I3 [W46] s m')
def qAn(X:Td)(a0 i5 h6 t47 t60 t65:AV)(I3:IvP)(m3:Nat)(K:KvP)(s:Hq):Prop:=
 oK (qAM t60 t65 (.bool false)) λW40=>qAL W40
 (oK (qAI a0) λW47=>oK (qAC 0 W47) λW48=>oK (rd1 s W48) λW49=>oK (qAI a0) λW50=>oK (qAC 2 W50) λW51=>oK (rd1 s W51) λW52=>oK (qAI a0) λW53=>oK (qAC 1 W53) λW54=>oK (rd1 s W54) λW55=>wC TP X 62 [W49,W52,W55,i5,(.bool true)] (λW56 S57=>qAq X a0 h6 t47 W40 W56 I3 m3 K S57) s)
 (qAq X a0 h6 t47 W40 .undef I3 m3 K s)
def qCp(X:Td)(a0 q4 t45 t46 t47:AV)(I3:IvP)(m3:Nat)(K:KvP)(s:Hq):Prop:=
 oK (qAF .lss t47 t46) λW27=>qAL W27
 (oK (qAW 4 t45 t47) λW28=>oK (rdN s 4 W28) λW29=>newK 61 [(.int .u64 0),(.int .u32 0),(.int .i64 0),(.int .i64 0)] (λB30 S31=>oK (qA1 S31 4 (.ptr B30 0) (.agg W29)) λS32=>oK (qAC 2 (.ptr B30 0)) λW33=>oK (rd1 S32 W33) λW34=>oK (qAI a0) λW35=>oK (qAC 18 W35) λW36=>oK (qAC 2 W36) λW37=>oK (rd1 S32 W37) λW38=>oK (negB false (eqV 0 false W34 W38)) λW39=>qAL W39
 (oK (qAC 1 (.ptr B30 0)) λW58=>oK (rd1 S32 W58) λW59=>oK (qAC 4 q4) λW60=>oK (rd1 S32 W60) λW61=>oK (negB false (eqV 0 false W59 W61)) λW62=>qAn X a0 t47 (.ptr B30 0) t47 W39 W62 I3 m3 K S32)
 (qAn X a0 t47 (.ptr B30 0) t47 W39 .undef I3 m3 K S32)) s)
 (K (.tup [.nilslc,(.bool false)]) s)
def qAp(X:Td)(a0 q4 t31 t36:AV)(K:KvP)(s:Hq):Prop:=
 oK (qAM t31 (.bool true) t36) λW17=>qAL W17
 (K (.tup [.nilslc,(.bool false)]) s)
 (oK (qAI a0) λW18=>oK (qAC 0 W18) λW19=>oK (rd1 s W19) λW20=>oK (qAI W20) λW21=>oK (qAC 0 W21) λW22=>oK (qAC 6 W22) λW23=>oK (rd1 s W23) λW24=>oK (qAQ W24) λW25=>∃I3:IvP,(∃m,I3 [(.int .i64 0)] s m)/\∀(f:Env) (s:Hq) (m3:Nat),I3 [f 47] s m3->
 qCp X a0 q4 W24 (.int .i64 W25) (f 47) I3 m3 K s)
def qAm(X:Td)(a0 q4 t26 t29:AV)(K:KvP)(s:Hq):Prop:=
 oK (qAM t26 (.bool true) t29) λW16=>qAL W16
 (qAp X a0 q4 W16 .undef K s)
 (oK (qAC 4 q4) λW63=>oK (rd1 s W63) λW64=>oK (qAC 2 q4) λW65=>oK (rd1 s W65) λW66=>oK (negB false (eqV 0 false W64 W66)) λW67=>qAp X a0 q4 W16 W67 K s)
def qAt(X:Td)(a0 q4 t21 t24:AV)(K:KvP)(s:Hq):Prop:=
 oK (qAM t21 (.bool true) t24) λW15=>qAL W15
 (qAm X a0 q4 W15 .undef K s)
 (oK (qAC 4 q4) λW68=>oK (rd1 s W68) λW69=>oK (negB false (eqV 0 true W69 (.int .u32 0))) λW70=>qAm X a0 q4 W15 W70 K s)
def qFI(X:Td)(a0:AV)(K:KvP)(s:Hq):Prop:=
 oK (qAI a0) λW0=>oK (qAC 3 W0) λW1=>oK (qAC 3 W1) λW2=>oK (rdN s 5 W2) λW3=>newK 44 [(.int .i64 0),(.int .u64 0),(.int .u32 0),(.int .u64 0),(.int .u32 0)] (λB4 S5=>oK (qA1 S5 5 (.ptr B4 0) (.agg W3)) λS6=>oK (qAI a0) λW7=>oK (qAC 0 W7) λW8=>oK (rd1 S6 W8) λW9=>oK (qAI W9) λW10=>oK (qAC 0 W10) λW11=>oK (qAC 11 W11) λW12=>oK (rd1 S6 W12) λW13=>oK (qAx .not W13) λW14=>qAL W14
 (qAt X a0 (.ptr B4 0) W14 .undef K S6)
 (wC TP X 80 [a0] (λW71 S72=>oK (qAx .not W71) λW73=>qAt X a0 (.ptr B4 0) W14 W73 K S72) S6)) s
def qEA:Nat->List Nat:=λk=>cond (Nat.beq k 10) [47] ([])
theorem qEZ{a0:AV}{K:KvP}{s:Hq}(h:qFI XX a0 K s):wC TP XX 43 [a0] K s:=wOK qBH qEA rfl Tryz.func43 h
def qBk(X:Td)(a0 x6 x7:AV)(K:KvP)(s:Hq):Prop:=
 oK (qAx .not x7) λW38=>qAL W38
 (K (.tup [.nilslc,(.bool true)]) s)
 (oK (qAI a0) λW39=>oK (qAC 0 W39) λW40=>oK (rd1 s W40) λW41=>oK (qAI W41) λW42=>oK (qAC 0 W42) λW43=>oK (qAC 6 W43) λW44=>oK (rd1 s W44) λW45=>oK (qAW 4 W45 x6) λW46=>oK (rdN s 4 W46) λW47=>newK 61 [(.int .u64 0),(.int .u32 0),(.int .i64 0),(.int .i64 0)] (λB48 S49=>oK (qA1 S49 4 (.ptr B48 0) (.agg W47)) λS50=>oK (qAI a0) λW51=>oK (qAC 3 W51) λW52=>oK (rdN S50 15 W52) λW53=>newK 48 [(.int .u64 0),(.int .u64 0),(.int .i64 0),(.int .i64 0),(.int .u64 0),(.int .u32 0),(.int .u64 0),(.int .u32 0),(.int .u32 0),(.int .u32 0),(.int .i64 0),(.int .i64 0),(.int .i64 0),(.int .i64 0),(.int .u64 0)] (λB54 S55=>oK (qA1 S55 15 (.ptr B54 0) (.agg W53)) λS56=>oK (qAC 0 (.ptr B48 0)) λW57=>oK (rd1 S56 W57) λW58=>oK (qAC 0 (.ptr B54 0)) λW59=>((cutH [((hdel S56 (qAr W57)),S56)] S56) (qAr W59)≠none)/\
 oK (wr1 S56 W59 (.int .u64 1577058561)) λS60=>oK (qAC 1 (.ptr B54 0)) λW61=>oK (wr1 S60 W61 W58) λS62=>oK (qAC 8 (.ptr B54 0)) λW63=>oK (qAC 2 W63) λW64=>oK (wr1 S62 W64 (.int .i64 0)) λS65=>oK (qAI a0) λW66=>oK (qAC 0 W66) λW67=>oK (rd1 S65 W67) λW68=>wC TP X 40 [W68,x6] (λW69 S70=>oK (qAg W69 0) λW71=>oK (qAg W69 1) λW72=>oK (qAC 2 (.ptr B48 0)) λW73=>oK (rd1 S70 W73) λW74=>oK (rdN S70 15 (.ptr B54 0)) λW75=>wC TP X 85 [W71,W74,(.agg W75)] (λW76 S77=>K (.tup [W76,(.bool true)]) S77) S70) S65) S50) s)
def qBj(X:Td)(x6 x7 t72:AV)(I4:IvP)(m4:Nat)(K:KvP)(s:Hq):Prop:=
 oK (qAF .add t72 (.int .i64 1)) λW90=>∃m',m'<m4/\I4 [x6,x7,W90] s m'
def qBR(X:Td)(a0 dst5 x6 x7 l9 t72 t82 t86:AV)(I4:IvP)(m4:Nat)(K:KvP)(s:Hq):Prop:=
 oK (qAM t82 t86 (.bool false)) λW89=>qAL W89
 (oK (qAC 0 l9) λW91=>oK (rd1 s W91) λW92=>wC TP X 83 [a0,W92,dst5] (λW93 S94=>oK (qAg W93 0) λW95=>oK (qAg W93 1) λW96=>qBj X W95 W96 t72 I4 m4 K S94) s)
 (qBj X x6 x7 t72 I4 m4 K s)
def qCN(X:Td)(a0 d4 dst5 x6 x7 t70 t71 t72:AV)(I4:IvP)(m4:Nat)(K:KvP)(s:Hq):Prop:=
 oK (qAF .lss t72 t71) λW78=>qAL W78
 (oK (qAW 4 t70 t72) λW79=>oK (rdN s 4 W79) λW80=>newK 118 [(.int .i64 0),(.int .i64 0),(.int .u32 0),(.int .i64 0)] (λB81 S82=>oK (qA1 S82 4 (.ptr B81 0) (.agg W80)) λS83=>qAL x7
 (qBk X a0 x6 x7 K S83)
 (oK (qAC 1 (.ptr B81 0)) λW84=>oK (rd1 S83 W84) λW85=>oK (qAC 0 d4) λW86=>oK (rd1 S83 W86) λW87=>oK (negB false (eqV 0 false W85 W87)) λW88=>qAL W88
 (oK (qAC 2 (.ptr B81 0)) λW97=>oK (rdN S83 2 W97) λW98=>wC TP X 84 [(.agg W98),dst5] (λW99 S100=>qBR X a0 dst5 x6 x7 (.ptr B81 0) t72 W88 W99 I4 m4 K S100) S83)
 (qBR X a0 dst5 x6 x7 (.ptr B81 0) t72 W88 .undef I4 m4 K S83))) s)
 (qBk X a0 x6 x7 K s)
def qBQ(X:Td)(a0 d4 dst5 t48 t53:AV)(K:KvP)(s:Hq):Prop:=
 oK (qAM t48 (.bool true) t53) λW22=>qAL W22
 (K (.tup [.nilslc,(.bool true)]) s)
 (oK (qAC 0 d4) λW23=>oK (rd1 s W23) λW24=>wC TP X 83 [a0,W24,dst5] (λW25 S26=>oK (qAg W25 0) λW27=>oK (qAg W25 1) λW28=>oK (qAI a0) λW29=>oK (qAC 0 W29) λW30=>oK (rd1 S26 W30) λW31=>oK (qAI W31) λW32=>oK (qAC 0 W32) λW33=>oK (qAC 7 W33) λW34=>oK (rd1 S26 W34) λW35=>oK (qAQ W35) λW36=>∃I4:IvP,(∃m,I4 [W27,W28,(.int .i64 0)] S26 m)/\∀(f:Env) (s:Hq) (m4:Nat),I4 [f 6,f 7,f 72] s m4->
 qCN X a0 d4 dst5 (f 6) (f 7) W35 (.int .i64 W36) (f 72) I4 m4 K s) s)
def qBS(X:Td)(a0 d4 dst5 t39 t46:AV)(K:KvP)(s:Hq):Prop:=
 oK (qAM t39 (.bool true) t46) λW21=>qAL W21
 (qBQ X a0 d4 dst5 W21 .undef K s)
 (oK (qAC 0 d4) λW101=>oK (rd1 s W101) λW102=>wC TP X 82 [a0,W102,dst5] (λW103 S104=>qBQ X a0 d4 dst5 W21 W103 K S104) s)
def qBO(X:Td)(a0 d4 t22 t25:AV)(K:KvP)(s:Hq):Prop:=
 oK (qAM t22 (.bool true) t25) λW10=>qAL W10
 (K (.tup [.nilslc,(.bool false)]) s)
 (oK (qAI a0) λW11=>oK (qAC 3 W11) λW12=>oK (qAC 8 W12) λW13=>oK (qAC 1 W13) λW14=>oK (rd1 s W14) λW15=>oK (qAI a0) λW16=>oK (qAC 3 W16) λW17=>oK (qAC 2 W17) λW18=>oK (rd1 s W18) λW19=>oK (negB true (eqV 0 true W19 (.int .i64 2))) λW20=>qAL W20
 (qBS X a0 d4 W15 W20 .undef K s)
 (oK (qAI a0) λW105=>oK (qAC 3 W105) λW106=>oK (qAC 8 W106) λW107=>oK (qAC 2 W107) λW108=>oK (rd1 s W108) λW109=>oK (qAF .lss W109 (.int .i64 3)) λW110=>qBS X a0 d4 W15 W20 W110 K s))
def qGy(X:Td)(a0:AV)(K:KvP)(s:Hq):Prop:=
 wC TP X 79 [a0] (λW0 S1=>newK 69 [(.int .i64 0),(.int .u32 0),(.int .u32 0),(.int .u32 0),(.int .i64 0),(.int .u32 0)] (λB2 S3=>oK (qA1 S3 6 (.ptr B2 0) W0) λS4=>oK (qAI a0) λW5=>oK (qAC 3 W5) λW6=>oK (qAC 1 W6) λW7=>oK (rd1 S4 W7) λW8=>oK (negB true (eqV 0 true W8 (.int .u64 1577058561))) λW9=>qAL W9
 (qBO X a0 (.ptr B2 0) W9 .undef K S4)
 (oK (qAC 5 (.ptr B2 0)) λW111=>oK (rd1 S4 W111) λW112=>oK (negB false (eqV 0 true W112 (.int .u32 0))) λW113=>qBO X a0 (.ptr B2 0) W9 W113 K S4)) S1) s
def qFX:Nat->List Nat:=λk=>cond (Nat.beq k 18) [6,7,72] ([])
theorem qFn{a0:AV}{K:KvP}{s:Hq}(h:qGy XX a0 K s):wC TP XX 44 [a0] K s:=wOK qBH qFX rfl Tryz.func44 h
def qGC(X:Td)(a0:AV)(K:KvP)(s:Hq):Prop:=
 oK (qAI a0) λW0=>oK (qAC 3 W0) λW1=>oK (qAC 1 W1) λW2=>oK (rd1 s W2) λW3=>wC TP X 21 [W3] (λW4 S5=>oK (qAx .not W4) λW6=>qAL W6
 (K (.tup [.nilslc,(.bool false)]) S5)
 (wC TP X 86 [a0] (λW7 S8=>K (.tup [W7,(.bool true)]) S8) S5)) s
theorem qE6{a0:AV}{K:KvP}{s:Hq}(h:qGC XX a0 K s):wC TP XX 45 [a0] K s:=wOK qBH nA0 rfl Tryz.func45 h
def qBF(X:Td)(a0 i4 t28 t51 t66:AV)(I0:IvP)(m0:Nat)(K:KvP)(s:Hq):Prop:=
 oK (qAM t51 (.bool true) t66) λW32=>qAL W32
 (oK (qAF .add t28 (.int .i64 1)) λW33=>∃m',m'<m0/\I0 [W33] s m')
 (oK (qAI a0) λW34=>oK (qAC 0 W34) λW35=>oK (rd1 s W35) λW36=>wC TP X 40 [W36,i4] (λW37 S38=>oK (qAg W37 0) λW39=>oK (qAg W37 1) λW40=>oK (qAI a0) λW41=>oK (qAC 22 W41) λW42=>oK (rd1 S38 W42) λW43=>oK (negB false (eqV 0 false W39 W43)) λW44=>qAL W44
 (K (.tup [.nilslc,(.bool true)]) S38)
 (oK (qAI a0) λW45=>oK (qAC 18 W45) λW46=>oK (qAC 2 W46) λW47=>oK (rd1 S38 W47) λW48=>oK (qAI a0) λW49=>oK (qAC 3 W49) λW50=>oK (rdN S38 15 W50) λW51=>wC TP X 85 [W39,W48,(.agg W51)] (λW52 S53=>K (.tup [W52,(.bool true)]) S53) S38)) s)
def qBG(X:Td)(a0 i4 t28 t41 t49:AV)(I0:IvP)(m0:Nat)(K:KvP)(s:Hq):Prop:=
 oK (qAM t41 (.bool true) t49) λW31=>qAL W31
 (qBF X a0 i4 t28 W31 .undef I0 m0 K s)
 (oK (qAI a0) λW54=>oK (qAC 0 W54) λW55=>oK (rd1 s W55) λW56=>oK (qAI a0) λW57=>oK (qAC 2 W57) λW58=>oK (rd1 s W58) λW59=>oK (qAI a0) λW60=>oK (qAC 1 W60) λW61=>oK (rd1 s W61) λW62=>wC TP X 62 [W56,W59,W62,i4,(.bool false)] (λW63 S64=>oK (qAx .not W63) λW65=>qBF X a0 i4 t28 W31 W65 I0 m0 K S64) s)
def qDD(X:Td)(a0 t26 t27 t28:AV)(I0:IvP)(m0:Nat)(K:KvP)(s:Hq):Prop:=
 oK (qAF .lss t28 t27) λW18=>qAL W18
 (oK (qAW 4 t26 t28) λW19=>oK (rdN s 4 W19) λW20=>newK 61 [(.int .u64 0),(.int .u32 0),(.int .i64 0),(.int .i64 0)] (λB21 S22=>oK (qA1 S22 4 (.ptr B21 0) (.agg W20)) λS23=>oK (qAC 2 (.ptr B21 0)) λW24=>oK (rd1 S23 W24) λW25=>oK (qAI a0) λW26=>oK (qAC 18 W26) λW27=>oK (qAC 2 W27) λW28=>oK (rd1 S23 W28) λW29=>oK (negB true (eqV 0 false W25 W29)) λW30=>qAL W30
 (qBG X a0 t28 t28 W30 .undef I0 m0 K S23)
 (oK (qAC 0 (.ptr B21 0)) λW66=>oK (rd1 S23 W66) λW67=>oK (qAI a0) λW68=>oK (qAC 3 W68) λW69=>oK (qAC 1 W69) λW70=>oK (rd1 S23 W70) λW71=>oK (negB true (eqV 0 false W67 W71)) λW72=>qBG X a0 t28 t28 W30 W72 I0 m0 K S23)) s)
 (K (.tup [.nilslc,(.bool false)]) s)
def qGi(X:Td)(a0:AV)(K:KvP)(s:Hq):Prop:=
 oK (qAI a0) λW0=>oK (qAC 3 W0) λW1=>oK (qAC 1 W1) λW2=>oK (rd1 s W2) λW3=>oK (qAI a0) λW4=>oK (qAC 18 W4) λW5=>oK (qAC 0 W5) λW6=>oK (rd1 s W6) λW7=>oK (negB false (eqV 0 false W3 W7)) λW8=>qAL W8
 (K (.tup [.nilslc,(.bool true)]) s)
 (oK (qAI a0) λW9=>oK (qAC 0 W9) λW10=>oK (rd1 s W10) λW11=>oK (qAI W11) λW12=>oK (qAC 0 W12) λW13=>oK (qAC 6 W13) λW14=>oK (rd1 s W14) λW15=>oK (qAQ W15) λW16=>∃I0:IvP,(∃m,I0 [(.int .i64 0)] s m)/\∀(f:Env) (s:Hq) (m0:Nat),I0 [f 28] s m0->
 qDD X a0 W15 (.int .i64 W16) (f 28) I0 m0 K s)
def qE1:Nat->List Nat:=λk=>cond (Nat.beq k 8) [28] ([])
theorem qFR{a0:AV}{K:KvP}{s:Hq}(h:qGi XX a0 K s):wC TP XX 46 [a0] K s:=wOK qBH qE1 rfl Tryz.func46 h
def qHK(X:Td)(a0:AV)(K:KvP)(s:Hq):Prop:=
 wC TP X 86 [a0] (λW0 S1=>K (.tup [W0,(.bool true)]) S1) s
theorem qFk{a0:AV}{K:KvP}{s:Hq}(h:qHK XX a0 K s):wC TP XX 47 [a0] K s:=wOK qBH nA0 rfl Tryz.func47 h
def qGz(X:Td)(l7 t8:AV)(I0:IvP)(m0:Nat)(K:KvP)(s:Hq):Prop:=
 oK (qAF .add t8 (.int .i64 1)) λW14=>∃m',m'<m0/\I0 [l7,W14] s m'
def qLR(X:Td)(bd1 n2 t3 l7 t8:AV)(I0:IvP)(m0:Nat)(K:KvP)(s:Hq):Prop:=
 oK (qAC 5 t3) λW2=>oK (rd1 s W2) λW3=>oK (qAQ W3) λW4=>oK (qAF .lss t8 (.int .i64 W4)) λW6=>qAL W6
 (oK (qAC 5 t3) λW7=>oK (rd1 s W7) λW8=>oK (qAW 2 W8 t8) λW9=>oK (qAC 1 W9) λW10=>oK (rd1 s W10) λW11=>wC TP X 16 [W11,bd1] (λW12 S13=>qAL W12
 (oK (qAw (repl 1 [(.int .i64 0)]) [(0,1,t8)]) λC15=>qAZ C15=true/\newK 3 C15 (λB16 S17=>appK 3 1 l7 (.slc B16 0 1 (some 1) 1) (λW18 S19=>qGz X W18 t8 I0 m0 K S19) S17) S13)
 (qGz X l7 t8 I0 m0 K S13)) s)
 (oK (qAQ l7) λW20=>oK (negB false (eqV 0 true (.int .i64 W20) (.int .i64 0))) λW22=>qAL W22
 (K (.int .i64 (-1)) s)
 (oK (qAQ l7) λW23=>oK (qAF .rem n2 (.int .i64 W23)) λW25=>oK (qAW 1 l7 W25) λW26=>oK (rd1 s W26) λW27=>K W27 s))
def qV7(X:Td)(t0 bd1 n2:AV)(K:KvP)(s:Hq):Prop:=
 boxK 31 t0 (λB0 S1=>∃I0:IvP,(∃m,I0 [.nilslc,(.int .i64 0)] S1 m)/\∀(f:Env) (s:Hq) (m0:Nat),I0 [f 7,f 8] s m0->
 qLR X bd1 n2 B0 (f 7) (f 8) I0 m0 K s) s
def qPP:Nat->List Nat:=λk=>cond (Nat.beq k 6) [7,8] ([])
theorem qQP{t0 bd1 n2:AV}{K:KvP}{s:Hq}(h:qV7 XX t0 bd1 n2 K s):wC TP XX 55 [t0,bd1,n2] K s:=wOK qBH qPP rfl Tryz.func55 h
def qCF(X:Td)(t7 t15:AV)(K:KvP)(s:Hq):Prop:=
 oK (qAM t7 t15 (.bool false)) λW1=>K W1 s
def qEk(X:Td)(t0 h1:AV)(K:KvP)(s:Hq):Prop:=
 oK (qAF .geq h1 (.int .i64 0)) λW0=>qAL W0
 (oK (qAI t0) λW2=>oK (qAC 0 W2) λW3=>oK (qAC 6 W3) λW4=>oK (rd1 s W4) λW5=>oK (qAQ W5) λW6=>oK (qAF .lss h1 (.int .i64 W6)) λW8=>qCF X W0 W8 K s)
 (qCF X W0 .undef K s)
theorem qHJ{t0 h1:AV}{K:KvP}{s:Hq}(h:qEk XX t0 h1 K s):wC TP XX 56 [t0,h1] K s:=wOK qBH nA0 rfl Tryz.func56 h
def qB3(X:Td)(t0 t1 t7 t8:AV)(I0:IvP)(m0:Nat)(K:KvP)(s:Hq):Prop:=
 oK (qAF .lss t8 t7) λW2=>qAL W2
 (oK (qAW 3 t0 t8) λW3=>oK (rdN s 3 W3) λW4=>funK TP X t1 [(.agg W4)] (λW5 S6=>qAL W5
 (K t8 S6)
 (oK (qAF .add t8 (.int .i64 1)) λW7=>∃m',m'<m0/\I0 [W7] S6 m')) s)
 (K (.int .i64 (-1)) s)
def qCI(X:Td)(t0 t1:AV)(K:KvP)(s:Hq):Prop:=
 oK (qAQ t0) λW0=>∃I0:IvP,(∃m,I0 [(.int .i64 0)] s m)/\∀(f:Env) (s:Hq) (m0:Nat),I0 [f 8] s m0->
 qB3 X t0 t1 (.int .i64 W0) (f 8) I0 m0 K s
def qDI:Nat->List Nat:=λk=>cond (Nat.beq k 4) [8] ([])
theorem qDM{t0 t1:AV}{K:KvP}{s:Hq}(h:qCI XX t0 t1 K s):wC TP XX 59 [t0,t1] K s:=wOK qBH qDI rfl Tryz.func59 h
def qHm(X:Td)(t0 host1 x2:AV)(K:KvP)(s:Hq):Prop:=
 boxK 48 x2 (λB0 S1=>wC TP X 40 [t0,host1] (λW2 S3=>oK (qAg W2 0) λW4=>oK (qAg W2 1) λW5=>oK (qAx .not W5) λW6=>qAL W6
 (K (.tup [(.int .i64 0),(.bool false)]) S3)
 (wC TP X 63 [t0,W4] (λW7 S8=>oK (qAQ W7) λW9=>oK (negB false (eqV 0 true (.int .i64 W9) (.int .i64 0))) λW11=>qAL W11
 (K (.tup [(.int .i64 0),(.bool false)]) S8)
 (oK (rdN S8 15 B0) λW12=>wC TP X 88 [(.agg W12)] (λW13 S14=>oK (qAQ W7) λW15=>oK (qAF .rem W13 (.int .i64 W15)) λW17=>oK (qAW 1 W7 W17) λW18=>oK (rd1 S14 W18) λW19=>K (.tup [W19,(.bool true)]) S14) S8)) S3)) S1) s
theorem qGQ{t0 host1 x2:AV}{K:KvP}{s:Hq}(h:qHm XX t0 host1 x2 K s):wC TP XX 61 [t0,host1,x2] K s:=wOK qBH nA0 rfl Tryz.func61 h
def qBV(X:Td)(heard2 x6 x8 ip9 t21 t26:AV)(K:KvP)(s:Hq):Prop:=
 oK (qAM t21 (.bool true) t26) λW12=>qAL W12
 (K (.bool false) s)
 (wC TP X 90 [heard2,(.fn (.func 91) [] [x8,ip9,x6])] (λW13 S14=>K W13 S14) s)
def qIG(X:Td)(t0 area1 heard2 x3 ip4:AV)(K:KvP)(s:Hq):Prop:=
 boxK 34 area1 (λB0 S1=>boxK 3 x3 (λB2 S3=>boxK 4 ip4 (λB4 S5=>oK (rd1 S5 B2) λW6=>wC TP X 40 [t0,W6] (λW7 S8=>oK (qAg W7 0) λW9=>oK (qAg W7 1) λW10=>oK (qAx .not W10) λW11=>qAL W11
 (qBV X heard2 B0 B2 B4 W11 .undef K S8)
 (oK (rd1 S8 B0) λW15=>wC TP X 89 [t0,W9,W15] (λW16 S17=>oK (qAx .not W16) λW18=>qBV X heard2 B0 B2 B4 W11 W18 K S17) S8)) S5) S3) S1) s
theorem qGT{t0 area1 heard2 x3 ip4:AV}{K:KvP}{s:Hq}(h:qIG XX t0 area1 heard2 x3 ip4 K s):wC TP XX 62 [t0,area1,heard2,x3,ip4] K s:=wOK qBH nA0 rfl Tryz.func62 h
end Go.AM
namespace Go.AM
open Go Go.Proofs
set_option maxRecDepth 100000
def qBl(X:Td)(result5 t30:AV)(I1:IvP)(m1:Nat)(K:KvP)(s:Hq):Prop:=
 oK (qAF .add t30 (.int .i64 1)) λW21=>∃m',m'<m1/\I1 [result5,W21] s m'
def qBo(X:Td)(result5 x7 t30 t41 t45:AV)(I1:IvP)(m1:Nat)(K:KvP)(s:Hq):Prop:=
 oK (qAM t41 t45 (.bool false)) λW20=>qAL W20
 (oK (qAw (repl 1 [(.int .i64 0)]) [(0,1,x7)]) λC22=>qAZ C22=true/\newK 3 C22 (λB23 S24=>appK 3 1 result5 (.slc B23 0 1 (some 1) 1) (λW25 S26=>qBl X W25 t30 I1 m1 K S26) S24) s)
 (qBl X result5 t30 I1 m1 K s)
def qDS(X:Td)(t0 segment1 result5 t28 t29 t30:AV)(I1:IvP)(m1:Nat)(K:KvP)(s:Hq):Prop:=
 oK (qAF .lss t30 t29) λW11=>qAL W11
 (oK (qAW 1 t28 t30) λW12=>oK (rd1 s W12) λW13=>oK (qAI t0) λW14=>oK (qAC 19 W14) λW15=>oK (qAC 0 W15) λW16=>oK (rd1 s W16) λW17=>wC TP X 73 [W17,W13] (λW18 S19=>qAL W18
 (wC TP X 92 [t0,W13,segment1] (λW27 S28=>qBo X result5 W13 t30 W18 W27 I1 m1 K S28) S19)
 (qBo X result5 W13 t30 W18 .undef I1 m1 K S19)) s)
 (K result5 s)
def qBP(X:Td)(t0 segment1 t10 t18:AV)(K:KvP)(s:Hq):Prop:=
 oK (qAM t10 (.bool true) t18) λW1=>qAL W1
 (K .nilslc s)
 (oK (qAI t0) λW2=>oK (qAC 0 W2) λW3=>oK (qAC 5 W3) λW4=>oK (rd1 s W4) λW5=>oK (qAW 2 W5 segment1) λW6=>oK (qAC 0 W6) λW7=>oK (rd1 s W7) λW8=>oK (qAQ W8) λW9=>∃I1:IvP,(∃m,I1 [.nilslc,(.int .i64 0)] s m)/\∀(f:Env) (s:Hq) (m1:Nat),I1 [f 5,f 30] s m1->
 qDS X t0 segment1 (f 5) W8 (.int .i64 W9) (f 30) I1 m1 K s)
def qDx(X:Td)(t0 segment1:AV)(K:KvP)(s:Hq):Prop:=
 oK (qAF .lss segment1 (.int .i64 0)) λW0=>qAL W0
 (qBP X t0 segment1 W0 .undef K s)
 (oK (qAI t0) λW29=>oK (qAC 0 W29) λW30=>oK (qAC 5 W30) λW31=>oK (rd1 s W31) λW32=>oK (qAQ W32) λW33=>oK (qAF .geq segment1 (.int .i64 W33)) λW35=>qBP X t0 segment1 W0 W35 K s)
def qFY:Nat->List Nat:=λk=>cond (Nat.beq k 10) [5,30] ([])
theorem qFq{t0 segment1:AV}{K:KvP}{s:Hq}(h:qDx XX t0 segment1 K s):wC TP XX 63 [t0,segment1] K s:=wOK qBH qFY rfl Tryz.func63 h
def qB4(X:Td)(t31 t39:AV)(K:KvP)(s:Hq):Prop:=
 oK (qAM t31 t39 (.bool false)) λW16=>K W16 s
def qB0(X:Td)(t0 l5 t21 t29:AV)(K:KvP)(s:Hq):Prop:=
 oK (qAM t21 t29 (.bool false)) λW15=>qAL W15
 (oK (qAI t0) λW17=>oK (qAC 19 W17) λW18=>oK (qAC 0 W18) λW19=>oK (rd1 s W19) λW20=>oK (qAC 1 l5) λW21=>oK (rd1 s W21) λW22=>wC TP X 73 [W20,W22] (λW23 S24=>qB4 X W15 W23 K S24) s)
 (qB4 X W15 .undef K s)
def qH4(X:Td)(t0 link1:AV)(K:KvP)(s:Hq):Prop:=
 oK (qAI t0) λW0=>oK (qAC 0 W0) λW1=>oK (qAC 2 W1) λW2=>oK (rd1 s W2) λW3=>oK (qAW 3 W3 link1) λW4=>oK (rdN s 3 W4) λW5=>newK 91 [(.int .i64 0),(.int .i64 0),(.int .i64 0)] (λB6 S7=>oK (qA1 S7 3 (.ptr B6 0) (.agg W5)) λS8=>oK (qAI t0) λW9=>oK (qAC 19 W9) λW10=>oK (qAC 1 W10) λW11=>oK (rd1 S8 W11) λW12=>wC TP X 73 [W12,link1] (λW13 S14=>qAL W13
 (oK (qAI t0) λW25=>oK (qAC 19 W25) λW26=>oK (qAC 0 W26) λW27=>oK (rd1 S14 W27) λW28=>oK (qAC 0 (.ptr B6 0)) λW29=>oK (rd1 S14 W29) λW30=>wC TP X 73 [W28,W30] (λW31 S32=>qB0 X t0 (.ptr B6 0) W13 W31 K S32) S14)
 (qB0 X t0 (.ptr B6 0) W13 .undef K S14)) S8) s
theorem qGN{t0 link1:AV}{K:KvP}{s:Hq}(h:qH4 XX t0 link1 K s):wC TP XX 67 [t0,link1] K s:=wOK qBH nA0 rfl Tryz.func67 h
def qC7(X:Td)(t1 t36 t40 t44:AV)(K:KvP)(s:Hq):Prop:=
 oK (qAM t40 t44 (.bool false)) λW35=>oK (qAM t36 (.bool true) W35) λW36=>qAL W36
 (K (.int .i64 3) s)
 (oK (qAC 2 t1) λW37=>oK (rd1 s W37) λW38=>oK (negB false (eqV 0 true W38 (.int .i64 1))) λW39=>qAL W39
 (oK (qAC 3 t1) λW40=>oK (rdN s 5 W40) λW41=>wC TP X 99 [(.agg W41)] (λW42 S43=>K W42 S43) s)
 (oK (negB false (eqV 0 true W38 (.int .i64 2))) λW44=>qAL W44
 (oK (qAC 8 t1) λW45=>oK (rdN s 6 W45) λW46=>wC TP X 100 [(.agg W46)] (λW47 S48=>K W47 S48) s)
 (K (.int .i64 0) s)))
def qDB(X:Td)(t1 t30 t34:AV)(K:KvP)(s:Hq):Prop:=
 oK (qAM t30 t34 (.bool false)) λW18=>qAL W18
 (oK (qAM W18 (.bool true) .undef) λW19=>qAL W19
 (K (.int .i64 3) s)
 (oK (qAC 2 t1) λW20=>oK (rd1 s W20) λW21=>oK (negB false (eqV 0 true W21 (.int .i64 1))) λW22=>qAL W22
 (oK (qAC 3 t1) λW23=>oK (rdN s 5 W23) λW24=>wC TP X 99 [(.agg W24)] (λW25 S26=>K W25 S26) s)
 (oK (negB false (eqV 0 true W21 (.int .i64 2))) λW27=>qAL W27
 (oK (qAC 8 t1) λW28=>oK (rdN s 6 W28) λW29=>wC TP X 100 [(.agg W29)] (λW30 S31=>K W30 S31) s)
 (K (.int .i64 0) s))))
 (oK (qAC 2 t1) λW32=>oK (rd1 s W32) λW33=>oK (negB true (eqV 0 true W33 (.int .i64 2))) λW34=>qAL W34
 (oK (qAC 8 t1) λW49=>oK (rdN s 6 W49) λW50=>oK (qAw [(.int .u32 0),(.int .u32 0),(.int .i64 0),(.int .i64 0),(.int .i64 0),(.int .i64 0)] []) λC51=>oK (negB true (qGF TP 46 (.agg W50) (.agg C51))) λW52=>qC7 X t1 W18 W34 W52 K s)
 (qC7 X t1 W18 W34 .undef K s))
def qCa(X:Td)(t1 t22 t25:AV)(K:KvP)(s:Hq):Prop:=
 oK (qAM t22 t25 (.bool false)) λW14=>qAL W14
 (K (.int .i64 6) s)
 (oK (qAC 2 t1) λW15=>oK (rd1 s W15) λW16=>oK (negB true (eqV 0 true W16 (.int .i64 1))) λW17=>qAL W17
 (oK (qAC 3 t1) λW53=>oK (rdN s 5 W53) λW54=>oK (qAw [(.int .i64 0),(.int .u64 0),(.int .u32 0),(.int .u64 0),(.int .u32 0)] []) λC55=>oK (negB true (qGF TP 44 (.agg W54) (.agg C55))) λW56=>qDB X t1 W17 W56 K s)
 (qDB X t1 W17 .undef K s))
def qCS(X:Td)(t1 t17 t20:AV)(K:KvP)(s:Hq):Prop:=
 oK (qAM t17 t20 (.bool false)) λW13=>qAL W13
 (oK (qAC 2 t1) λW57=>oK (rd1 s W57) λW58=>oK (negB true (eqV 0 true W58 (.int .i64 2))) λW59=>qCa X t1 W13 W59 K s)
 (qCa X t1 W13 .undef K s)
def qCW(X:Td)(t1 t6 t9:AV)(K:KvP)(s:Hq):Prop:=
 oK (qAM t6 (.bool true) t9) λW5=>qAL W5
 (K (.int .i64 2) s)
 (oK (qAC 0 t1) λW6=>oK (rd1 s W6) λW7=>wC TP X 21 [W7] (λW8 S9=>qAL W8
 (K (.int .i64 3) S9)
 (oK (qAC 2 t1) λW10=>oK (rd1 S9 W10) λW11=>oK (negB true (eqV 0 true W11 (.int .i64 0))) λW12=>qAL W12
 (oK (qAC 2 t1) λW60=>oK (rd1 S9 W60) λW61=>oK (negB true (eqV 0 true W61 (.int .i64 1))) λW62=>qCS X t1 W12 W62 K S9)
 (qCS X t1 W12 .undef K S9))) s)
def qKw(X:Td)(t0:AV)(K:KvP)(s:Hq):Prop:=
 boxK 48 t0 (λB0 S1=>oK (qAC 0 B0) λW2=>oK (rd1 S1 W2) λW3=>oK (qAF .gtr W3 (.int .u64 281474976710655)) λW4=>qAL W4
 (qCW X B0 W4 .undef K S1)
 (oK (qAC 1 B0) λW63=>oK (rd1 S1 W63) λW64=>oK (qAF .gtr W64 (.int .u64 281474976710655)) λW65=>qCW X B0 W4 W65 K S1)) s
theorem qJX{t0:AV}{K:KvP}{s:Hq}(h:qKw XX t0 K s):wC TP XX 71 [t0] K s:=wOK qBH nA0 rfl Tryz.func71 h
def qDu(X:Td)(t13 t17:AV)(K:KvP)(s:Hq):Prop:=
 oK (qAM t13 t17 (.bool false)) λW2=>K W2 s
def qDF(X:Td)(l0 i1 t7 t11:AV)(K:KvP)(s:Hq):Prop:=
 oK (qAM t7 t11 (.bool false)) λW1=>qAL W1
 (oK (qAW 1 l0 i1) λW3=>oK (rd1 s W3) λW4=>qDu X W1 W4 K s)
 (qDu X W1 .undef K s)
def qKC(X:Td)(l0 i1:AV)(K:KvP)(s:Hq):Prop:=
 oK (qAF .geq i1 (.int .i64 0)) λW0=>qAL W0
 (oK (qAQ l0) λW5=>oK (qAF .lss i1 (.int .i64 W5)) λW7=>qDF X l0 i1 W0 W7 K s)
 (qDF X l0 i1 W0 .undef K s)
theorem qKs{l0 i1:AV}{K:KvP}{s:Hq}(h:qKC XX l0 i1 K s):wC TP XX 73 [l0,i1] K s:=wOK qBH nA0 rfl Tryz.func73 h
def qBw(X:Td)(x6 t28:AV)(I1:IvP)(m1:Nat)(I0:IvP)(m0:Nat)(K:KvP)(s:Hq):Prop:=
 oK (qAF .add t28 (.int .i64 1)) λW20=>∃m',m'<m1/\I1 [x6,W20] s m'
def qDW(X:Td)(seen5 x6 i7 t26 t27 t28:AV)(I1:IvP)(m1:Nat)(I0:IvP)(m0:Nat)(K:KvP)(s:Hq):Prop:=
 oK (qAF .lss t28 t27) λW15=>qAL W15
 (oK (qAW 1 t26 t28) λW16=>oK (rd1 s W16) λW17=>oK (getM s seen5 W17) λr_18=>oK (qAx .not (retM (.bool false) false r_18)) λW19=>qAL W19
 (oK (putM s seen5 W17 (.bool true)) λS21=>oK (qAw (repl 1 [(.int .i64 0)]) [(0,1,W17)]) λC22=>qAZ C22=true/\newK 3 C22 (λB23 S24=>appK 3 1 x6 (.slc B23 0 1 (some 1) 1) (λW25 S26=>qBw X W25 t28 I1 m1 I0 m0 K S26) S24) S21)
 (qBw X x6 t28 I1 m1 I0 m0 K s))
 (oK (qAF .add i7 (.int .i64 1)) λW27=>∃m',m'<m0/\I0 [x6,W27] s m')
def qDa(X:Td)(next1 seen5 x6 i7:AV)(I0:IvP)(m0:Nat)(K:KvP)(s:Hq):Prop:=
 oK (qAQ x6) λW6=>oK (qAF .lss i7 (.int .i64 W6)) λW8=>qAL W8
 (oK (qAW 1 x6 i7) λW9=>oK (rd1 s W9) λW10=>funK TP X next1 [W10] (λW11 S12=>oK (qAQ W11) λW13=>∃I1:IvP,(∃m,I1 [x6,(.int .i64 0)] S12 m)/\∀(f:Env) (s:Hq) (m1:Nat),I1 [f 6,f 28] s m1->
 qDW X seen5 (f 6) i7 W11 (.int .i64 W13) (f 28) I1 m1 I0 m0 K s) s)
 (K x6 s)
def qHb(X:Td)(x0 next1:AV)(K:KvP)(s:Hq):Prop:=
 mapK (λW0 S1=>oK (putM S1 W0 x0 (.bool true)) λS2=>oK (qAw (repl 1 [(.int .i64 0)]) [(0,1,x0)]) λC3=>qAZ C3=true/\newK 3 C3 (λB4 S5=>∃I0:IvP,(∃m,I0 [(.slc B4 0 1 (some 1) 1),(.int .i64 0)] S5 m)/\∀(f:Env) (s:Hq) (m0:Nat),I0 [f 6,f 7] s m0->
 qDa X next1 W0 (f 6) (f 7) I0 m0 K s) S2) s
def qFp:Nat->List Nat:=λk=>cond (Nat.beq k 8) [6,7] (cond (Nat.beq k 14) [6,28] ([]))
theorem qGE{x0 next1:AV}{K:KvP}{s:Hq}(h:qHb XX x0 next1 K s):wC TP XX 74 [x0,next1] K s:=wOK qBH qFp rfl Tryz.func74 h
def qAh(X:Td)(result5 t14:AV)(I0:IvP)(m0:Nat)(K:KvP)(s:Hq):Prop:=
 oK (qAF .add t14 (.int .i64 1)) λW15=>∃m',m'<m0/\I0 [result5,W15] s m'
def qC0(X:Td)(t0 node1 result5 t12 t13 t14:AV)(I0:IvP)(m0:Nat)(K:KvP)(s:Hq):Prop:=
 oK (qAF .lss t14 t13) λW6=>qAL W6
 (oK (qAW 3 t12 t14) λW7=>oK (rdN s 3 W7) λW8=>newK 91 [(.int .i64 0),(.int .i64 0),(.int .i64 0)] (λB9 S10=>oK (qA1 S10 3 (.ptr B9 0) (.agg W8)) λS11=>wC TP X 67 [t0,t14] (λW12 S13=>oK (qAx .not W12) λW14=>qAL W14
 (qAh X result5 t14 I0 m0 K S13)
 (oK (qAC 0 (.ptr B9 0)) λW16=>oK (rd1 S13 W16) λW17=>oK (negB false (eqV 0 false W17 node1)) λW18=>qAL W18
 (oK (qAC 1 (.ptr B9 0)) λW19=>oK (rd1 S13 W19) λW20=>oK (qAw (repl 1 [(.int .i64 0)]) [(0,1,W20)]) λC21=>qAZ C21=true/\newK 3 C21 (λB22 S23=>appK 3 1 result5 (.slc B22 0 1 (some 1) 1) (λW24 S25=>qAh X W24 t14 I0 m0 K S25) S23) S13)
 (oK (qAC 1 (.ptr B9 0)) λW26=>oK (rd1 S13 W26) λW27=>oK (negB false (eqV 0 false W27 node1)) λW28=>qAL W28
 (oK (qAC 0 (.ptr B9 0)) λW29=>oK (rd1 S13 W29) λW30=>oK (qAw (repl 1 [(.int .i64 0)]) [(0,1,W30)]) λC31=>qAZ C31=true/\newK 3 C31 (λB32 S33=>appK 3 1 result5 (.slc B32 0 1 (some 1) 1) (λW34 S35=>qAh X W34 t14 I0 m0 K S35) S33) S13)
 (qAh X result5 t14 I0 m0 K S13)))) S11) s)
 (K result5 s)
def qFo(X:Td)(t0 node1:AV)(K:KvP)(s:Hq):Prop:=
 oK (qAI t0) λW0=>oK (qAC 0 W0) λW1=>oK (qAC 2 W1) λW2=>oK (rd1 s W2) λW3=>oK (qAQ W3) λW4=>∃I0:IvP,(∃m,I0 [.nilslc,(.int .i64 0)] s m)/\∀(f:Env) (s:Hq) (m0:Nat),I0 [f 5,f 14] s m0->
 qC0 X t0 node1 (f 5) W3 (.int .i64 W4) (f 14) I0 m0 K s
def qEQ:Nat->List Nat:=λk=>cond (Nat.beq k 6) [5,14] ([])
theorem qEg{t0 node1:AV}{K:KvP}{s:Hq}(h:qFo XX t0 node1 K s):wC TP XX 75 [t0,node1] K s:=wOK qBH qEQ rfl Tryz.func75 h
def qBZ(X:Td)(i5 j6:AV)(I0:IvP)(m0:Nat)(K:KvP)(s:Hq):Prop:=
 oK (qAF .add j6 (.int .i64 1)) λW12=>∃m',m'<m0/\I0 [i5,W12] s m'
def qDE(X:Td)(t0 del1 i5 j6:AV)(I0:IvP)(m0:Nat)(K:KvP)(s:Hq):Prop:=
 oK (qAQ t0) λW4=>oK (qAF .lss j6 (.int .i64 W4)) λW6=>qAL W6
 (oK (qAW 1 t0 j6) λW7=>oK (rd1 s W7) λW8=>funK TP X del1 [W8] (λW9 S10=>oK (qAx .not W9) λW11=>qAL W11
 (oK (qAW 1 t0 i5) λW13=>oK (wr1 S10 W13 W8) λS14=>oK (qAF .add i5 (.int .i64 1)) λW15=>qBZ X W15 j6 I0 m0 K S14)
 (qBZ X i5 j6 I0 m0 K S10)) s)
 (oK (qD3 1 t0 (some i5) none none) λW16=>qRB [(.int .i64 0)] 1 W16 (λW17 S18=>oK (qD3 1 t0 none (some i5) none) λW19=>K W19 S18) s)
def qGP(X:Td)(t0 del1:AV)(K:KvP)(s:Hq):Prop:=
 wC TP X 102 [t0,del1] (λW0 S1=>oK (negB false (eqV 0 true W0 (.int .i64 (-1)))) λW2=>qAL W2
 (K t0 S1)
 (oK (qAF .add W0 (.int .i64 1)) λW3=>∃I0:IvP,(∃m,I0 [W0,W3] S1 m)/\∀(f:Env) (s:Hq) (m0:Nat),I0 [f 5,f 6] s m0->
 qDE X t0 del1 (f 5) (f 6) I0 m0 K s)) s
def qEz:Nat->List Nat:=λk=>cond (Nat.beq k 10) [5,6] ([])
theorem qFK{t0 del1:AV}{K:KvP}{s:Hq}(h:qGP XX t0 del1 K s):wC TP XX 76 [t0,del1] K s:=wOK qBH qEz rfl Tryz.func76 h
def qHd(X:Td)(n0 t1:AV)(K:KvP)(s:Hq):Prop:=
 oK (rd1 s t1) λW0=>oK (qAI W0) λW1=>oK (qAC 0 W1) λW2=>oK (qAC 0 W2) λW3=>oK (rd1 s W3) λW4=>oK (qAF .geq n0 W4) λW5=>K W5 s
theorem qGG{n0 t1:AV}{K:KvP}{s:Hq}(h:qHd XX n0 t1 K s):wC TP XX 77 [n0,t1] K s:=wOK qBH nA0 rfl Tryz.func77 h
def qHZ(X:Td)(a0:AV)(K:KvP)(s:Hq):Prop:=
 newK 69 [(.int .i64 0),(.int .u32 0),(.int .u32 0),(.int .u32 0),(.int .i64 0),(.int .u32 0)] (λB0 S1=>oK (qAI a0) λW2=>oK (qAC 0 W2) λW3=>oK (rd1 S1 W3) λW4=>oK (qAI W4) λW5=>oK (qAC 0 W5) λW6=>oK (qAC 4 W6) λW7=>oK (rd1 S1 W7) λW8=>oK (qAI a0) λW9=>oK (qAC 18 W9) λW10=>oK (qAC 2 W10) λW11=>oK (rd1 S1 W11) λW12=>oK (qAW 6 W8 W12) λW13=>oK (rdN S1 6 W13) λW14=>oK (qA1 S1 6 (.ptr B0 0) (.agg W14)) λS15=>oK (rdN S15 6 (.ptr B0 0)) λt2_16=>K (.agg t2_16) S15) s
theorem qF8{a0:AV}{K:KvP}{s:Hq}(h:qHZ XX a0 K s):wC TP XX 79 [a0] K s:=wOK qBH nA0 rfl Tryz.func79 h
def qBh(X:Td)(t9 t16:AV)(K:KvP)(s:Hq):Prop:=
 oK (qAM t9 t16 (.bool false)) λW5=>K W5 s
def qG5(X:Td)(a0:AV)(K:KvP)(s:Hq):Prop:=
 oK (qAI a0) λW0=>oK (qAC 3 W0) λW1=>oK (qAC 2 W1) λW2=>oK (rd1 s W2) λW3=>oK (negB false (eqV 0 true W3 (.int .i64 1))) λW4=>qAL W4
 (oK (qAI a0) λW6=>oK (qAC 3 W6) λW7=>oK (qAC 3 W7) λW8=>oK (qAC 0 W8) λW9=>oK (rd1 s W9) λW10=>oK (negB false (eqV 0 true W10 (.int .i64 1))) λW11=>qBh X W4 W11 K s)
 (qBh X W4 .undef K s)
theorem qFh{a0:AV}{K:KvP}{s:Hq}(h:qG5 XX a0 K s):wC TP XX 80 [a0] K s:=wOK qBH nA0 rfl Tryz.func80 h
def qHW(X:Td)(a0 t1:AV)(K:KvP)(s:Hq):Prop:=
 oK (qAI a0) λW0=>oK (qAC 3 W0) λW1=>oK (qAC 3 W1) λW2=>oK (rdN s 5 W2) λW3=>newK 44 [(.int .i64 0),(.int .u64 0),(.int .u32 0),(.int .u64 0),(.int .u32 0)] (λB4 S5=>oK (qA1 S5 5 (.ptr B4 0) (.agg W3)) λS6=>oK (qAI a0) λW7=>oK (qAC 22 W7) λW8=>oK (rd1 S6 W8) λW9=>oK (qAI a0) λW10=>oK (qAC 18 W10) λW11=>oK (qAC 2 W11) λW12=>oK (rd1 S6 W12) λW13=>oK (qAC 1 (.ptr B4 0)) λW14=>oK (rd1 S6 W14) λW15=>oK (qAC 4 (.ptr B4 0)) λW16=>oK (rd1 S6 W16) λW17=>oK (qAC 1 (.ptr B4 0)) λW18=>oK (rd1 S6 W18) λW19=>oK (qAC 2 (.ptr B4 0)) λW20=>oK (rd1 S6 W20) λW21=>oK (qAw [(.int .i64 0),(.int .u64 0),(.int .u32 0),(.int .u64 0),(.int .u32 0)] [(0,1,(.int .i64 2)),(1,1,t1),(2,1,W17),(3,1,W19),(4,1,W21)]) λC22=>oK (qAw [(.int .u64 0),(.int .u64 0),(.int .i64 0),(.int .i64 0),(.int .u64 0),(.int .u32 0),(.int .u64 0),(.int .u32 0),(.int .u32 0),(.int .u32 0),(.int .i64 0),(.int .i64 0),(.int .i64 0),(.int .i64 0),(.int .u64 0)] [(0,1,t1),(1,1,W15),(2,1,(.int .i64 1)),(3,5,(.agg C22))]) λC23=>wC TP X 85 [W9,W13,(.agg C23)] (λW24 S25=>K W24 S25) S6) s
theorem qF6{a0 t1:AV}{K:KvP}{s:Hq}(h:qHW XX a0 t1 K s):wC TP XX 81 [a0,t1] K s:=wOK qBH nA0 rfl Tryz.func81 h
def qA0(X:Td)(t18 t31 t35:AV)(I0:IvP)(m0:Nat)(K:KvP)(s:Hq):Prop:=
 oK (qAM t31 t35 (.bool false)) λW19=>qAL W19
 (K (.bool true) s)
 (oK (qAF .add t18 (.int .i64 1)) λW20=>∃m',m'<m0/\I0 [W20] s m')
def qAy(X:Td)(ip2 d8 t18 t26 t29:AV)(I0:IvP)(m0:Nat)(K:KvP)(s:Hq):Prop:=
 oK (qAM t26 t29 (.bool false)) λW18=>qAL W18
 (oK (qAC 5 d8) λW21=>oK (rd1 s W21) λW22=>oK (negB false (eqV 0 false W22 ip2)) λW23=>qA0 X t18 W18 W23 I0 m0 K s)
 (qA0 X t18 W18 .undef I0 m0 K s)
def qC9(X:Td)(tenant1 ip2 t16 t17 t18:AV)(I0:IvP)(m0:Nat)(K:KvP)(s:Hq):Prop:=
 oK (qAF .lss t18 t17) λW9=>qAL W9
 (oK (qAW 6 t16 t18) λW10=>oK (rdN s 6 W10) λW11=>newK 69 [(.int .i64 0),(.int .u32 0),(.int .u32 0),(.int .u32 0),(.int .i64 0),(.int .u32 0)] (λB12 S13=>oK (qA1 S13 6 (.ptr B12 0) (.agg W11)) λS14=>oK (qAC 0 (.ptr B12 0)) λW15=>oK (rd1 S14 W15) λW16=>oK (negB false (eqV 0 false W16 tenant1)) λW17=>qAL W17
 (oK (qAC 5 (.ptr B12 0)) λW24=>oK (rd1 S14 W24) λW25=>oK (negB true (eqV 0 true W25 (.int .u32 0))) λW26=>qAy X ip2 (.ptr B12 0) t18 W17 W26 I0 m0 K S14)
 (qAy X ip2 (.ptr B12 0) t18 W17 .undef I0 m0 K S14)) s)
 (K (.bool false) s)
def qGH(X:Td)(a0 tenant1 ip2:AV)(K:KvP)(s:Hq):Prop:=
 oK (qAI a0) λW0=>oK (qAC 0 W0) λW1=>oK (rd1 s W1) λW2=>oK (qAI W2) λW3=>oK (qAC 0 W3) λW4=>oK (qAC 4 W4) λW5=>oK (rd1 s W5) λW6=>oK (qAQ W6) λW7=>∃I0:IvP,(∃m,I0 [(.int .i64 0)] s m)/\∀(f:Env) (s:Hq) (m0:Nat),I0 [f 18] s m0->
 qC9 X tenant1 ip2 W6 (.int .i64 W7) (f 18) I0 m0 K s
def qEa:Nat->List Nat:=λk=>cond (Nat.beq k 4) [18] ([])
theorem qE7{a0 tenant1 ip2:AV}{K:KvP}{s:Hq}(h:qGH XX a0 tenant1 ip2 K s):wC TP XX 82 [a0,tenant1,ip2] K s:=wOK qBH qEa rfl Tryz.func82 h
def qAo(X:Td)(i8 t20 t57 t71:AV)(I0:IvP)(m0:Nat)(K:KvP)(s:Hq):Prop:=
 oK (qAM t57 t71 (.bool false)) λW35=>qAL W35
 (K (.tup [i8,(.bool true)]) s)
 (oK (qAF .add t20 (.int .i64 1)) λW36=>∃m',m'<m0/\I0 [W36] s m')
def qAu(X:Td)(a0 i8 t20 t52 t55:AV)(I0:IvP)(m0:Nat)(K:KvP)(s:Hq):Prop:=
 oK (qAM t52 t55 (.bool false)) λW34=>qAL W34
 (oK (qAI a0) λW37=>oK (qAC 0 W37) λW38=>oK (rd1 s W38) λW39=>oK (qAI a0) λW40=>oK (qAC 2 W40) λW41=>oK (rd1 s W41) λW42=>oK (qAI a0) λW43=>oK (qAC 1 W43) λW44=>oK (rd1 s W44) λW45=>wC TP X 62 [W39,W42,W45,i8,(.bool true)] (λW46 S47=>qAo X i8 t20 W34 W46 I0 m0 K S47) s)
 (qAo X i8 t20 W34 .undef I0 m0 K s)
def qAl(X:Td)(a0 i8 d10 t20 t46 t50:AV)(I0:IvP)(m0:Nat)(K:KvP)(s:Hq):Prop:=
 oK (qAM t46 t50 (.bool false)) λW33=>qAL W33
 (oK (qAC 5 d10) λW48=>oK (rd1 s W48) λW49=>oK (negB true (eqV 0 true W49 (.int .u32 0))) λW50=>qAu X a0 i8 t20 W33 W50 I0 m0 K s)
 (qAu X a0 i8 t20 W33 .undef I0 m0 K s)
def qAs(X:Td)(a0 tenant1 i8 d10 t20 t40 t44:AV)(I0:IvP)(m0:Nat)(K:KvP)(s:Hq):Prop:=
 oK (qAM t40 t44 (.bool false)) λW32=>qAL W32
 (oK (qAC 0 d10) λW51=>oK (rd1 s W51) λW52=>oK (negB false (eqV 0 false W52 tenant1)) λW53=>qAl X a0 i8 d10 t20 W32 W53 I0 m0 K s)
 (qAl X a0 i8 d10 t20 W32 .undef I0 m0 K s)
def qCq(X:Td)(a0 tenant1 ip2 t18 t19 t20:AV)(I0:IvP)(m0:Nat)(K:KvP)(s:Hq):Prop:=
 oK (qAF .lss t20 t19) λW9=>qAL W9
 (oK (qAW 4 t18 t20) λW10=>oK (rdN s 4 W10) λW11=>newK 61 [(.int .u64 0),(.int .u32 0),(.int .i64 0),(.int .i64 0)] (λB12 S13=>oK (qA1 S13 4 (.ptr B12 0) (.agg W11)) λS14=>oK (qAI a0) λW15=>oK (qAC 0 W15) λW16=>oK (rd1 S14 W16) λW17=>oK (qAI W17) λW18=>oK (qAC 0 W18) λW19=>oK (qAC 4 W19) λW20=>oK (rd1 S14 W20) λW21=>oK (qAC 2 (.ptr B12 0)) λW22=>oK (rd1 S14 W22) λW23=>oK (qAW 6 W21 W23) λW24=>oK (rdN S14 6 W24) λW25=>newK 69 [(.int .i64 0),(.int .u32 0),(.int .u32 0),(.int .u32 0),(.int .i64 0),(.int .u32 0)] (λB26 S27=>(∀b,S14 b≠none->S14 b=none->S27 b=none)->
 oK (qA1 (add S14 S27) 6 (.ptr B26 0) (.agg W25)) λS28=>oK (qAC 1 (.ptr B12 0)) λW29=>oK (rd1 S28 W29) λW30=>oK (negB true (eqV 0 true W30 (.int .u32 0))) λW31=>qAL W31
 (oK (qAC 1 (.ptr B12 0)) λW54=>oK (rd1 S28 W54) λW55=>oK (negB false (eqV 0 false W55 ip2)) λW56=>qAs X a0 tenant1 t20 (.ptr B26 0) t20 W31 W56 I0 m0 K S28)
 (qAs X a0 tenant1 t20 (.ptr B26 0) t20 W31 .undef I0 m0 K S28)) (frz S14)) s)
 (K (.tup [(.int .i64 0),(.bool false)]) s)
def qFS(X:Td)(a0 tenant1 ip2:AV)(K:KvP)(s:Hq):Prop:=
 oK (qAI a0) λW0=>oK (qAC 0 W0) λW1=>oK (rd1 s W1) λW2=>oK (qAI W2) λW3=>oK (qAC 0 W3) λW4=>oK (qAC 6 W4) λW5=>oK (rd1 s W5) λW6=>oK (qAQ W6) λW7=>∃I0:IvP,(∃m,I0 [(.int .i64 0)] s m)/\∀(f:Env) (s:Hq) (m0:Nat),I0 [f 20] s m0->
 qCq X a0 tenant1 ip2 W6 (.int .i64 W7) (f 20) I0 m0 K s
def qD7:Nat->List Nat:=λk=>cond (Nat.beq k 4) [20] ([])
theorem qES{a0 tenant1 ip2:AV}{K:KvP}{s:Hq}(h:qFS XX a0 tenant1 ip2 K s):wC TP XX 83 [a0,tenant1,ip2] K s:=wOK qBH qD7 rfl Tryz.func83 h
def qOQ(X:Td)(x0 bd1 x2:AV)(K:KvP)(s:Hq):Prop:=
 boxK 48 x2 (λB0 S1=>oK (rdN S1 15 B0) λW2=>oK (qAw [(.int .i64 0),(.int .i64 0),(.int .u64 0),(.int .u64 0),(.int .i64 0),(.int .i64 0),(.int .u64 0),(.int .u32 0),(.int .u64 0),(.int .u32 0),(.int .u32 0),(.int .u32 0),(.int .i64 0),(.int .i64 0),(.int .i64 0),(.int .i64 0),(.int .u64 0)] [(0,1,x0),(1,1,bd1),(2,15,(.agg W2))]) λC3=>oK (qAw (repl 1 [(.int .i64 0),(.int .i64 0),(.int .u64 0),(.int .u64 0),(.int .i64 0),(.int .i64 0),(.int .u64 0),(.int .u32 0),(.int .u64 0),(.int .u32 0),(.int .u32 0),(.int .u32 0),(.int .i64 0),(.int .i64 0),(.int .i64 0),(.int .i64 0),(.int .u64 0)]) [(0,17,(.agg C3))]) λC4=>qAZ C4=true/\newK 55 C4 (λB5 S6=>K (.slc B5 0 1 (some 1) 17) S6) S1) s
theorem qLO{x0 bd1 x2:AV}{K:KvP}{s:Hq}(h:qOQ XX x0 bd1 x2 K s):wC TP XX 85 [x0,bd1,x2] K s:=wOK qBH nA0 rfl Tryz.func85 h
def qCy(X:Td)(a0 x3 t23 t24 t25:AV)(I0:IvP)(m0:Nat)(K:KvP)(s:Hq):Prop:=
 oK (qAF .lss t25 t24) λW17=>qAL W17
 (oK (qAW 1 t23 t25) λW18=>oK (rd1 s W18) λW19=>oK (qAI a0) λW20=>oK (qAC 18 W20) λW21=>oK (qAC 2 W21) λW22=>oK (rd1 s W22) λW23=>oK (qAI a0) λW24=>oK (qAC 3 W24) λW25=>oK (rdN s 15 W25) λW26=>oK (qAw [(.int .i64 0),(.int .i64 0),(.int .u64 0),(.int .u64 0),(.int .i64 0),(.int .i64 0),(.int .u64 0),(.int .u32 0),(.int .u64 0),(.int .u32 0),(.int .u32 0),(.int .u32 0),(.int .i64 0),(.int .i64 0),(.int .i64 0),(.int .i64 0),(.int .u64 0)] [(0,1,W19),(1,1,W23),(2,15,(.agg W26))]) λC27=>oK (qAw (repl 1 [(.int .i64 0),(.int .i64 0),(.int .u64 0),(.int .u64 0),(.int .i64 0),(.int .i64 0),(.int .u64 0),(.int .u32 0),(.int .u64 0),(.int .u32 0),(.int .u32 0),(.int .u32 0),(.int .i64 0),(.int .i64 0),(.int .i64 0),(.int .i64 0),(.int .u64 0)]) [(0,17,(.agg C27))]) λC28=>qAZ C28=true/\newK 55 C28 (λB29 S30=>appK 55 17 x3 (.slc B29 0 1 (some 1) 17) (λW31 S32=>oK (qAF .add t25 (.int .i64 1)) λW33=>∃m',m'<m0/\I0 [W31,W33] S32 m') S30) s)
 (K x3 s)
def qFi(X:Td)(a0:AV)(K:KvP)(s:Hq):Prop:=
 oK (qAI a0) λW0=>oK (qAC 0 W0) λW1=>oK (rd1 s W1) λW2=>oK (qAI a0) λW3=>oK (qAC 2 W3) λW4=>oK (rd1 s W4) λW5=>oK (qAI a0) λW6=>oK (qAC 18 W6) λW7=>oK (qAC 2 W7) λW8=>oK (rd1 s W8) λW9=>oK (qAI a0) λW10=>oK (qAC 22 W10) λW11=>oK (rd1 s W11) λW12=>wC TP X 107 [W2,W5,W9,W12] (λW13 S14=>oK (qAQ W13) λW15=>∃I0:IvP,(∃m,I0 [.nilslc,(.int .i64 0)] S14 m)/\∀(f:Env) (s:Hq) (m0:Nat),I0 [f 3,f 25] s m0->
 qCy X a0 (f 3) W13 (.int .i64 W15) (f 25) I0 m0 K s) s
def qEX:Nat->List Nat:=λk=>cond (Nat.beq k 6) [3,25] ([])
theorem qEb{a0:AV}{K:KvP}{s:Hq}(h:qFi XX a0 K s):wC TP XX 86 [a0] K s:=wOK qBH qEX rfl Tryz.func86 h
def qHX(X:Td)(t0 segment1 area2:AV)(K:KvP)(s:Hq):Prop:=
 boxK 34 area2 (λB0 S1=>wC TP X 63 [t0,segment1] (λW2 S3=>wC TP X 114 [W2,(.fn (.func 115) [] [B0])] (λW4 S5=>K W4 S5) S3) S1) s
theorem qGD{t0 segment1 area2:AV}{K:KvP}{s:Hq}(h:qHX XX t0 segment1 area2 K s):wC TP XX 89 [t0,segment1,area2] K s:=wOK qBH nA0 rfl Tryz.func89 h
def qDO(X:Td)(t0 t1:AV)(K:KvP)(s:Hq):Prop:=
 wC TP X 59 [t0,t1] (λW0 S1=>oK (qAF .geq W0 (.int .i64 0)) λW2=>K W2 S1) s
theorem qC4{t0 t1:AV}{K:KvP}{s:Hq}(h:qDO XX t0 t1 K s):wC TP XX 90 [t0,t1] K s:=wOK qBH nA0 rfl Tryz.func90 h
def qBg(X:Td)(t18 t22:AV)(K:KvP)(s:Hq):Prop:=
 oK (qAM t18 t22 (.bool false)) λW10=>K W10 s
def qBn(X:Td)(t3 h4 t10 t13 t15:AV)(K:KvP)(s:Hq):Prop:=
 oK (qAM t13 (.bool true) t15) λW8=>oK (qAM t10 W8 (.bool false)) λW9=>qAL W9
 (oK (rd1 s t3) λW11=>oK (qAC 1 h4) λW12=>oK (rd1 s W12) λW13=>wC TP X 72 [W11,W13] (λW14 S15=>qBg X W9 W14 K S15) s)
 (qBg X W9 .undef K s)
def qCO(X:Td)(t18 t22:AV)(K:KvP)(s:Hq):Prop:=
 oK (qAM t18 t22 (.bool false)) λW19=>K W19 s
def qGo(X:Td)(h0 t1 t2 t3:AV)(K:KvP)(s:Hq):Prop:=
 boxK 77 h0 (λB0 S1=>oK (qAC 0 B0) λW2=>oK (rd1 S1 W2) λW3=>oK (rd1 S1 t1) λW4=>oK (negB false (eqV 0 false W3 W4)) λW5=>qAL W5
 (oK (qAC 2 B0) λW6=>oK (rd1 S1 W6) λW7=>qAL W7
 (qBn X t3 B0 W5 W7 .undef K S1)
 (oK (rd1 S1 t2) λW16=>oK (qAx .not W16) λW17=>qBn X t3 B0 W5 W7 W17 K S1))
 (oK (qAM W5 .undef (.bool false)) λW18=>qAL W18
 (oK (rd1 S1 t3) λW20=>oK (qAC 1 B0) λW21=>oK (rd1 S1 W21) λW22=>wC TP X 72 [W20,W22] (λW23 S24=>qCO X W18 W23 K S24) S1)
 (qCO X W18 .undef K S1))) s
theorem qFj{h0 t1 t2 t3:AV}{K:KvP}{s:Hq}(h:qGo XX h0 t1 t2 t3 K s):wC TP XX 91 [h0,t1,t2,t3] K s:=wOK qBH nA0 rfl Tryz.func91 h
def qCE(X:Td)(t19 t29:AV)(K:KvP)(s:Hq):Prop:=
 oK (qAM t19 t29 (.bool false)) λW2=>K W2 s
def qBb(X:Td)(t0 leaf1 segment2 t9 t17:AV)(K:KvP)(s:Hq):Prop:=
 oK (qAM t9 t17 (.bool false)) λW1=>qAL W1
 (oK (qAI t0) λW3=>oK (qAC 19 W3) λW4=>oK (qAC 2 W4) λW5=>oK (rd1 s W5) λW6=>oK (qAW 1 W6 leaf1) λW7=>oK (rd1 s W7) λW8=>wC TP X 73 [W8,segment2] (λW9 S10=>qCE X W1 W9 K S10) s)
 (qCE X W1 .undef K s)
def qEj(X:Td)(t0 leaf1 segment2:AV)(K:KvP)(s:Hq):Prop:=
 oK (qAF .geq leaf1 (.int .i64 0)) λW0=>qAL W0
 (oK (qAI t0) λW11=>oK (qAC 19 W11) λW12=>oK (qAC 2 W12) λW13=>oK (rd1 s W13) λW14=>oK (qAQ W14) λW15=>oK (qAF .lss leaf1 (.int .i64 W15)) λW17=>qBb X t0 leaf1 segment2 W0 W17 K s)
 (qBb X t0 leaf1 segment2 W0 .undef K s)
theorem qG0{t0 leaf1 segment2:AV}{K:KvP}{s:Hq}(h:qEj XX t0 leaf1 segment2 K s):wC TP XX 92 [t0,leaf1,segment2] K s:=wOK qBH nA0 rfl Tryz.func92 h
def qBz(X:Td)(t16 t19:AV)(K:KvP)(s:Hq):Prop:=
 oK (qAM t16 (.bool true) t19) λW7=>qAL W7
 (K (.int .i64 2) s)
 (K (.int .i64 0) s)
def qBy(X:Td)(a1 t11 t14:AV)(K:KvP)(s:Hq):Prop:=
 oK (qAM t11 (.bool true) t14) λW6=>qAL W6
 (qBz X W6 .undef K s)
 (oK (qAC 3 a1) λW8=>oK (rd1 s W8) λW9=>oK (qAF .gtr W9 (.int .u64 281474976710655)) λW10=>qBz X W6 W10 K s)
def qBx(X:Td)(a1 t6 t9:AV)(K:KvP)(s:Hq):Prop:=
 oK (qAM t6 (.bool true) t9) λW5=>qAL W5
 (qBy X a1 W5 .undef K s)
 (oK (qAC 1 a1) λW11=>oK (rd1 s W11) λW12=>oK (qAF .gtr W12 (.int .u64 281474976710655)) λW13=>qBy X a1 W5 W13 K s)
def qJh(X:Td)(a0:AV)(K:KvP)(s:Hq):Prop:=
 boxK 44 a0 (λB0 S1=>oK (qAC 0 B0) λW2=>oK (rd1 S1 W2) λW3=>oK (qAF .lss W3 (.int .i64 1)) λW4=>qAL W4
 (qBx X B0 W4 .undef K S1)
 (oK (qAC 0 B0) λW14=>oK (rd1 S1 W14) λW15=>oK (qAF .gtr W15 (.int .i64 2)) λW16=>qBx X B0 W4 W16 K S1)) s
theorem qHo{a0:AV}{K:KvP}{s:Hq}(h:qJh XX a0 K s):wC TP XX 99 [a0] K s:=wOK qBH nA0 rfl Tryz.func99 h
def qCd(X:Td)(t43 t47 t50:AV)(K:KvP)(s:Hq):Prop:=
 oK (qAM t47 (.bool true) t50) λW22=>oK (qAM t43 W22 (.bool false)) λW23=>qAL W23
 (K (.int .i64 3) s)
 (K (.int .i64 0) s)
def qB8(X:Td)(h1 t34 t37:AV)(K:KvP)(s:Hq):Prop:=
 oK (qAM t34 (.bool true) t37) λW13=>qAL W13
 (K (.int .i64 2) s)
 (oK (qAC 3 h1) λW14=>oK (rd1 s W14) λW15=>wC TP X 127 [W15] (λW16 S17=>oK (qAx .not W16) λW18=>qAL W18
 (oK (qAC 4 h1) λW19=>oK (rd1 S17 W19) λW20=>oK (negB true (eqV 0 true W20 (.int .i64 0))) λW21=>qAL W21
 (qCd X W18 W21 .undef K S17)
 (oK (qAC 5 h1) λW24=>oK (rd1 S17 W24) λW25=>oK (negB true (eqV 0 true W25 (.int .i64 0))) λW26=>qCd X W18 W21 W26 K S17))
 (oK (qAM W18 .undef (.bool false)) λW27=>qAL W27
 (K (.int .i64 3) S17)
 (K (.int .i64 0) S17))) s)
def qCC(X:Td)(h1 t29 t32:AV)(K:KvP)(s:Hq):Prop:=
 oK (qAM t29 (.bool true) t32) λW12=>qAL W12
 (qB8 X h1 W12 .undef K s)
 (oK (qAC 5 h1) λW28=>oK (rd1 s W28) λW29=>oK (qAF .gtr W29 (.int .i64 65535)) λW30=>qB8 X h1 W12 W30 K s)
def qCA(X:Td)(h1 t24 t27:AV)(K:KvP)(s:Hq):Prop:=
 oK (qAM t24 (.bool true) t27) λW11=>qAL W11
 (qCC X h1 W11 .undef K s)
 (oK (qAC 5 h1) λW31=>oK (rd1 s W31) λW32=>oK (qAF .lss W32 (.int .i64 0)) λW33=>qCC X h1 W11 W33 K s)
def qB6(X:Td)(h1 t16 t19:AV)(K:KvP)(s:Hq):Prop:=
 oK (qAM t16 (.bool true) t19) λW7=>qAL W7
 (K (.int .i64 2) s)
 (oK (qAC 4 h1) λW8=>oK (rd1 s W8) λW9=>oK (qAF .lss W9 (.int .i64 0)) λW10=>qAL W10
 (qCA X h1 W10 .undef K s)
 (oK (qAC 4 h1) λW34=>oK (rd1 s W34) λW35=>oK (qAF .gtr W35 (.int .i64 65535)) λW36=>qCA X h1 W10 W36 K s))
def qB7(X:Td)(h1 t11 t14:AV)(K:KvP)(s:Hq):Prop:=
 oK (qAM t11 (.bool true) t14) λW6=>qAL W6
 (qB6 X h1 W6 .undef K s)
 (oK (qAC 3 h1) λW37=>oK (rd1 s W37) λW38=>oK (qAF .gtr W38 (.int .i64 255)) λW39=>qB6 X h1 W6 W39 K s)
def qCB(X:Td)(h1 t6 t9:AV)(K:KvP)(s:Hq):Prop:=
 oK (qAM t6 (.bool true) t9) λW5=>qAL W5
 (qB7 X h1 W5 .undef K s)
 (oK (qAC 3 h1) λW40=>oK (rd1 s W40) λW41=>oK (qAF .lss W41 (.int .i64 0)) λW42=>qB7 X h1 W5 W42 K s)
def qJs(X:Td)(h0:AV)(K:KvP)(s:Hq):Prop:=
 boxK 46 h0 (λB0 S1=>oK (qAC 2 B0) λW2=>oK (rd1 S1 W2) λW3=>oK (qAF .lss W3 (.int .i64 0)) λW4=>qAL W4
 (qCB X B0 W4 .undef K S1)
 (oK (qAC 2 B0) λW43=>oK (rd1 S1 W43) λW44=>oK (qAF .gtr W44 (.int .i64 255)) λW45=>qCB X B0 W4 W45 K S1)) s
theorem qIg{h0:AV}{K:KvP}{s:Hq}(h:qJs XX h0 K s):wC TP XX 100 [h0] K s:=wOK qBH nA0 rfl Tryz.func100 h
def qBi(X:Td)(result9 t18:AV)(I0:IvP)(m0:Nat)(K:KvP)(s:Hq):Prop:=
 oK (qAF .add t18 (.int .i64 1)) λW15=>∃m',m'<m0/\I0 [result9,W15] s m'
def qBp(X:Td)(result9 i10 t18 t32 t36:AV)(I0:IvP)(m0:Nat)(K:KvP)(s:Hq):Prop:=
 oK (qAM t32 t36 (.bool false)) λW14=>qAL W14
 (oK (qAw (repl 1 [(.int .i64 0)]) [(0,1,i10)]) λC16=>qAZ C16=true/\newK 3 C16 (λB17 S18=>appK 3 1 result9 (.slc B17 0 1 (some 1) 1) (λW19 S20=>qBi X W19 t18 I0 m0 K S20) S18) s)
 (qBi X result9 t18 I0 m0 K s)
def qBm(X:Td)(t0 area1 result9 i10 t18 t26 t30:AV)(I0:IvP)(m0:Nat)(K:KvP)(s:Hq):Prop:=
 oK (qAM t26 t30 (.bool false)) λW13=>qAL W13
 (wC TP X 89 [t0,i10,area1] (λW21 S22=>qBp X result9 i10 t18 W13 W21 I0 m0 K S22) s)
 (qBp X result9 i10 t18 W13 .undef I0 m0 K s)
def qDR(X:Td)(t0 area1 bd2 t3 result9 t16 t17 t18:AV)(I0:IvP)(m0:Nat)(K:KvP)(s:Hq):Prop:=
 oK (qAF .lss t18 t17) λW6=>qAL W6
 (oK (qAW 2 t16 t18) λW7=>oK (rdN s 2 W7) λW8=>newK 64 [.nilslc,.nilslc] (λB9 S10=>oK (qA1 S10 2 (.ptr B9 0) (.agg W8)) λS11=>oK (negB true (eqV 0 false t18 t3)) λW12=>qAL W12
 (oK (qAC 1 (.ptr B9 0)) λW23=>oK (rd1 S11 W23) λW24=>wC TP X 72 [W24,bd2] (λW25 S26=>qBm X t0 area1 result9 t18 t18 W12 W25 I0 m0 K S26) S11)
 (qBm X t0 area1 result9 t18 t18 W12 .undef I0 m0 K S11)) s)
 (K result9 s)
def qHC(X:Td)(t0 area1 bd2 t3:AV)(K:KvP)(s:Hq):Prop:=
 oK (qAI t0) λW0=>oK (qAC 0 W0) λW1=>oK (qAC 5 W1) λW2=>oK (rd1 s W2) λW3=>oK (qAQ W3) λW4=>∃I0:IvP,(∃m,I0 [.nilslc,(.int .i64 0)] s m)/\∀(f:Env) (s:Hq) (m0:Nat),I0 [f 9,f 18] s m0->
 qDR X t0 area1 bd2 t3 (f 9) W3 (.int .i64 W4) (f 18) I0 m0 K s
def qFd:Nat->List Nat:=λk=>cond (Nat.beq k 6) [9,18] ([])
theorem qFl{t0 area1 bd2 t3:AV}{K:KvP}{s:Hq}(h:qHC XX t0 area1 bd2 t3 K s):wC TP XX 107 [t0,area1,bd2,t3] K s:=wOK qBH qFd rfl Tryz.func107 h
def qGZ(X:Td)(x0 t1:AV)(K:KvP)(s:Hq):Prop:=
 oK (rd1 s t1) λW0=>wC TP X 72 [W0,x0] (λW1 S2=>K W1 S2) s
theorem qFF{x0 t1:AV}{K:KvP}{s:Hq}(h:qGZ XX x0 t1 K s):wC TP XX 115 [x0,t1] K s:=wOK qBH nA0 rfl Tryz.func115 h
def qCw(X:Td)(t5 t7:AV)(K:KvP)(s:Hq):Prop:=
 oK (qAM t5 (.bool true) t7) λW1=>K W1 s
def qHV(X:Td)(x0:AV)(K:KvP)(s:Hq):Prop:=
 oK (negB false (eqV 0 true x0 (.int .i64 6))) λW0=>qAL W0
 (qCw X W0 .undef K s)
 (oK (negB false (eqV 0 true x0 (.int .i64 17))) λW2=>qCw X W0 W2 K s)
theorem qI1{x0:AV}{K:KvP}{s:Hq}(h:qHV XX x0 K s):wC TP XX 127 [x0] K s:=wOK qBH nA0 rfl Tryz.func127 h
end Go.AM
