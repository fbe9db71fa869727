/- Part V2 of the proof: see the last part. -/
import Derived.Test.YtcmcofklcgafiaaGreatV
import Derived.Test.YtcmcofklcgafiaaGreatA3
set_option linter.unusedVariables false
namespace Go.AM
open Go Go.Proofs List Nat
set_option maxRecDepth 100000
def vk:aW:=λa b c K s=>qt b c λb=>ai b
 (K (.tup [.nilptr,(qz 2)]) s)
 (oK (aq [ah,ah,.nilptr,.nilptr,ah,ah] [(0,1,a)]) λa=>boxK 211 (.agg a) (λa b=>K (.tup [a,ah]) b) s)
def Mk:aY:=λa K s=>ak .lss a ax λb=>ai b
 (vk a b .undef K s)
 (ak .gtr a (qz 1000) λc=>vk a b c K s)
theorem Tj:T1 67 Mk:=wOK Tryz.func67
def Ml:aY:=λa K s=>K (.tup [a,ah]) s
def jt:aW:=λa b c K s=>ai c
 (aL a 1 s λd=>wC TP 110 [d] (λd e=>qs a 1 e d λd=>qr d b λb=>qs a 4 d b λb=>aL a 5 b λd=>ak .add d ax λd=>qs a 5 b d λa=>Ml c K a) s)
 (Ml c K s)
def oI:cX:=λa b c d e K s=>qp d e λd=>ai d
 (K (.tup [bF,(qz 20)]) s)
 (∃d:Hq,Sub d s/\
 aL a 1 d λe=>qr d c λf=>wC TP 109 [] (λg h=>oK (tD 2 1 none g e) λe=>funK TP e [a,f,b] (λe f=>qs a 2 f c λf=>ai b
 (qs a 3 f c λb=>jt a c e K b)
 (jt a c e K f)) (add d h)) (lock s d))
def vm:cX:=λa b c d e K s=>qt d e λd=>ai d
 (K (.tup [bF,(qz 2)]) s)
 (aL a 2 s λd=>qe true 3 true d .nilptr λd=>ai d
 (qr s c λe=>aL a 2 s λf=>oK (cJ f) λf=>qr s f λf=>ak .leq e f λe=>oI a b c d e K s)
 (oI a b c d .undef K s))
def Tl:aW:=λa b c K s=>boxK 3 b (λb d=>wC TP 97 [a] (λe f=>qj e λe=>ai e
 (K (.tup [bF,ax]) f)
 (qr f b λe=>ak .lss e ah λe=>ai e
 (vm a c b e .undef K f)
 (qr f b λg=>ak .gtr g (qz 1099511627776) λg=>vm a c b e g K f))) d) s
def Tm:Nat->List Nat:=anL [(3000007,[1]),(2000028,[1,2,3,4,6,7,8]),(2000029,[0]),(2000031,[5,9,10])]
theorem Tn:T3 57 Tl:=wOK Tryz.func57 Tm
def BJ:aY:=λa K s=>K a s
def oJ:aM:=λa b K s=>ak .rem a b λa=>ak .lss a ah λc=>ai c
 (ak .add a b λb=>BJ b K s)
 (BJ a K s)
theorem Tp:T2 32 oJ:=wOK Tryz.func32
def BK:aM:=λa b K s=>qp a b λa=>K a s
def Tq:aY:=λa K s=>wC TP 97 [a] (λb c=>ai b
 (aL a 1 c λa=>qe false 0 true a ax λa=>BK b a K c)
 (BK b .undef K c)) s
theorem Tr:T1 45 Tq:=wOK Tryz.func45
def BL:aM:=λa b K s=>qp a b λa=>K a s
def Mm:aY:=λa K s=>qe true 3 true a .nilptr λb=>ai b
 (aL a 0 s λa=>ak .gtr a ah λa=>BL b a K s)
 (BL b .undef K s)
theorem Ts:T1 97 Mm:=wOK Tryz.func97
def Tt:iG:=λK s=>newK 228 [.nilFunc,.nilFunc] (λa b=>oK (aq [.nilFunc,.nilFunc] [(0,1,(.fn (.func 141) [] [])),(1,1,(.fn (.func 142) [] []))]) λc=>qc b 2 a (.agg c) λb=>aE b 2 (.ptr a 0) λa=>K (.agg a) b) s
theorem Tu:T0 109 Tt:=wOK Tryz.func109
def Mn:aY:=λa K s=>ak .sub ax a λa=>K a s
theorem Tv:T1 110 Mn:=wOK Tryz.func110
def Mo:aM:=λa b K s=>ak .add b a λa=>K a s
theorem Tw:T2 143 Mo:=wOK Tryz.func143
def oL:aM:=λa b K s=>qp a b λa=>K a s
def oN:ct:=λa b c d K s=>qp c d λc=>ai c
 (aL a 3 s λa=>oK (cJ a) λa=>qr s a λa=>ak .sub b ax λb=>qe false 0 false a b λa=>oL c a K s)
 (oL c .undef K s)
def vo:aW:=λa b c K s=>ai c
 (aL a 3 s λd=>qe true 3 true d .nilptr λd=>oN a b c d K s)
 (oN a b c .undef K s)
theorem Tx:T3 141 vo:=wOK Tryz.func141
def oO:aM:=λa b K s=>qp a b λa=>K a s
def oP:ct:=λa b c d K s=>qp c d λc=>ai c
 (aL a 0 s λd=>aL a 3 s λa=>oK (cJ a) λa=>qr s a λa=>wC TP 143 [d,a] (λa d=>ak .geq b a λa=>oO c a K d) s)
 (oO c .undef K s)
def vp:aW:=λa b c K s=>qj c λc=>ai c
 (aL a 3 s λd=>qe true 3 true d .nilptr λd=>oP a b c d K s)
 (oP a b c .undef K s)
theorem Ty:T3 142 vp:=wOK Tryz.func142
def BM:aW:=λa b c K s=>qt b c λb=>ai b
 (K (qz 2) s)
 (qd 2 a s λa=>wC TP 111 [a] (λa b=>K a b) s)
def BN:aW:=λa b c K s=>qt b c λb=>ai b
 (BM a b .undef K s)
 (qd 1 a s λc=>ak .gtr c (qz 1073741824) λc=>BM a b c K s)
def BO:aW:=λa b c K s=>qt b c λb=>ai b
 (BN a b .undef K s)
 (qd 1 a s λc=>ak .lss c ax λc=>BN a b c K s)
def Tz:aM:=λa b K s=>boxK 34 b (λb c=>qd 0 b c λd=>ak .lss d ah λd=>ai d
 (BO b d .undef K c)
 (qd 0 b c λe=>ak .geq e a λa=>BO b d a K c)) s
theorem TA:T2 100 Tz:=wOK Tryz.func100
def TB:aM:=λa b K s=>boxK 34 a (λa c=>boxK 34 b (λb d=>∃e:Hq,Sub e d/\
 qd 1 a e λf=>qd 1 b e λg=>qd 2 a e λa=>qd 2 b e λb=>wC TP 138 [f,g] (λf g=>wC TP 139 [a,b] (λa b=>oK (aq (repl 2 [ah]) [(0,1,f),(1,1,a)]) λa=>aD a=true/\newK 3 a (λa f=>wC TP 137 [(.slc a 0 2 (some 2) 1)] (λa h=>K a h) f) b) (add e g)) (lock d e)) c) s
def TC:Nat->List Nat:=anL [(3000001,[1]),(2000004,[0,1,2,3,5,6,7,8]),(2000005,[4]),(2000007,[9,10,11,12])]
theorem TD:T2 101 TB:=wOK Tryz.func101 TC
def BP:ct:=λa b c d K s=>qt c d λc=>ai c
 (K (.tup [.nilptr,(qz 2)]) s)
 (mapK (λc d=>oK (aq [ah,ah,ah,.nilmap] [(0,1,a),(1,1,b),(3,1,c)]) λa=>boxK 217 (.agg a) (λa b=>K (.tup [a,ah]) b) d) s)
def BQ:ct:=λa b c d K s=>qt c d λc=>ai c
 (BP a b c .undef K s)
 (ak .geq b a λd=>BP a b c d K s)
def BS:ct:=λa b c d K s=>qt c d λc=>ai c
 (BQ a b c .undef K s)
 (ak .lss b ah λd=>BQ a b c d K s)
def Mp:aM:=λa b K s=>ak .lss a ax λc=>ai c
 (BS a b c .undef K s)
 (ak .gtr a (qz 32) λd=>BS a b c d K s)
theorem TE:T2 64 Mp:=wOK Tryz.func64
def Mq:bM:=λa b c d e I0 m0 K s=>ak .lss e d λd=>ai d
 (qx 1 c e s λc=>aL a 3 s λa=>oK (getM s a c) λa=>wC TP 102 [(retM (.agg [ah,ah,.nilslc]) false a)] (λa c=>oK (aq (repl 1 [ah,ah,.nilslc]) [(0,3,a)]) λa=>aD a=true/\newK 34 a (λa d=>appK 34 3 b (.slc a 0 1 (some 1) 3) (λa f=>ak .add e ax λe=>aA m0 (I0 [a,e] f)) d) c) s)
 (K b s)
def TF:aY:=λa K s=>wC TP 99 [a] (λb c=>qj b λb=>ai b
 (K .nilslc c)
 (aL a 3 c λb=>oK (lenM c b) λb=>oK (nat? ah) λd=>oK (nat? (.int .i64 b)) λb=>(d<=b/\b<=4294967296)/\newK 34 (repl b [ah,ah,.nilslc]) (λe g=>aL a 3 g λh=>wC TP 114 [h] (λh i=>wC TP 42 [h] (λh j=>qh h λk=>aK [(.slc e 0 d (some b) 3),ah] j (λf=>[f 3,f 22]) λI0 f s m0=>Mq a (f 3) h (.int .i64 k) (f 22) I0 m0 K s) i) g) c)) s
def TH:Nat->List Nat:=anL [(10,[3,22])]
theorem TI:T1 60 TF:=wOK Tryz.func60 TH
def vq:bM:=λa b c d e I1 m1 K s=>qp d e λd=>qi 1 b c λb=>oK (wr1 s b d) λb=>ak .add a ax λa=>aA m1 (I1 [a] b)
def Mr:bM:=λa b c d e I1 m1 K s=>ak .lss e d λd=>ai d
 (qi 3 c e λc=>aE s 3 c λc=>newK 145 [ah,ah,ah] (λd f=>qc f 3 d (.agg c) λc=>qd 0 (.ptr d 0) c λf=>wC TP 119 [a,f,e] (λf g=>ai f
 (qd 1 (.ptr d 0) g λd=>wC TP 119 [a,d,e] (λa d=>vq e b e f a I1 m1 K d) g)
 (vq e b e f .undef I1 m1 K g)) c) s)
 (K b s)
def BT:ct:=λa b c d K s=>qt c d λc=>ai c
 (K .nilslc s)
 (qh b λc=>oK (nat? (.int .i64 c)) λd=>oK (nat? (.int .i64 c)) λc=>(d<=c/\c<=4294967296)/\newK 4 (repl c [bF]) (λe g=>qh b λh=>aK [ah] g (λf=>[f 21]) λI1 f s m1=>Mr a (.slc e 0 d (some c) 1) b (.int .i64 h) (f 21) I1 m1 K s) s)
def TJ:aM:=λa b K s=>wC TP 99 [a] (λc d=>qj c λc=>ai c
 (BT a b c .undef K d)
 (qh b λe=>ak .gtr (.int .i64 e) (qz 128) λe=>BT a b c e K d)) s
def TK:Nat->List Nat:=anL [(10,[21])]
theorem TL:T2 69 TJ:=wOK Tryz.func69 TK
def ju:cX:=λa b c d e K s=>ai e
 (K (.tup [(qz 2),ah]) s)
 (oK (aq [bF,bF,ah] [(0,1,bT),(1,1,bT),(2,1,ax)]) λe=>oK (negB false (cZ TP 219 d (.agg e))) λd=>ai d
 (aE s 3 c λc=>qd 1 b s λb=>wC TP 103 [a,(.agg c),b] (λa b=>qk a 0 λc=>qk a 1 λa=>K (.tup [c,a]) b) s)
 (K (.tup [ah,ah]) s))
def gY:cX:=λa b c d e K s=>ai e
 (∃e:Hq,Sub e s/\
 aL a 3 e λf=>qd 0 b e λg=>aE e 3 b λh=>wC TP 102 [(.agg h)] (λh i=>oK (putM (add e i) f g h) λf=>K (.tup [ax,ah]) f) (lock s e))
 (oK (aq [bF,bF,ah] [(0,1,bT)]) λe=>oK (negB false (cZ TP 219 d (.agg e))) λe=>ai e
 (aL a 2 s λe=>qd 1 b s λf=>oK (dS max2A e [f]) λe=>qs a 2 s e λe=>K (.tup [ah,ah]) e)
 (oK (aq [bF,bF,ah] [(1,1,bT),(2,1,(.int .i64 (-1)))]) λe=>oK (negB false (cZ TP 219 d (.agg e))) λe=>ai e
 (ju a b c d e K s)
 (oK (aq [bF,bF,ah] [(0,1,bT),(1,1,bT),(2,1,(.int .i64 (-1)))]) λe=>oK (negB false (cZ TP 219 d (.agg e))) λe=>ju a b c d e K s)))
def kZ:ct:=λa b c d K s=>aE s 3 d λd=>oK (aq [bF,bF,ah] []) λe=>oK (negB false (cZ TP 219 (.agg d) (.agg e))) λe=>ai e
 (gY a b c (.agg d) e K s)
 (oK (aq [bF,bF,ah] [(1,1,bT),(2,1,ax)]) λe=>oK (negB false (cZ TP 219 (.agg d) (.agg e))) λe=>gY a b c (.agg d) e K s)
def TM:aM:=λa b K s=>boxK 34 b (λb c=>wC TP 99 [a] (λd e=>qj d λd=>ai d
 (K (.tup [ah,ax]) e)
 (aL a 0 e λd=>aE e 3 b λf=>wC TP 100 [d,(.agg f)] (λd f=>qe true 0 true d ah λg=>ai g
 (K (.tup [ah,d]) f)
 (aL a 3 f λd=>qd 0 b f λg=>oK (getM f d g) λd=>qk (retM (.agg [ah,ah,.nilslc]) true d) 0 λg=>qk (retM (.agg [ah,ah,.nilslc]) true d) 1 λd=>newK 34 [ah,ah,.nilslc] (λh i=>qc i 3 h g λg=>qd 0 b g λi=>aL a 1 g λj=>qe false 0 false i j λi=>oK (aq [bF,bF,ah] [(0,1,i),(1,1,d)]) λi=>newK 219 [bF,bF,ah] (λj k=>qc k 3 j (.agg i) λi=>ai d
 (aE i 3 b λd=>aE i 3 (.ptr h 0) λk=>wC TP 101 [(.agg d),(.agg k)] (λd k=>qf 2 (.ptr j 0) λl=>oK (wr1 k l d) λd=>kZ a b (.ptr h 0) (.ptr j 0) K d) i)
 (kZ a b (.ptr h 0) (.ptr j 0) K i)) g) f)) e)) c) s
def TO:Nat->List Nat:=anL [(3000006,[0]),(2000024,[0,1,2,3,4,5,6,7,8,9]),(2000026,[10]),(2000027,[11,12]),(3000007,[0]),(2000028,[0,1,2,3,4,5,6,7,8]),(2000030,[9]),(2000031,[10]),(3000013,[1]),(2000052,[0,1,2,3,4,5,6]),(2000053,[7]),(2000055,[8])]
theorem TQ:T2 50 TM:=wOK Tryz.func50 TO
def TR:aM:=λa b K s=>newK 34 [ah,ah,.nilslc] (λc d=>wC TP 99 [a] (λe f=>qj e λe=>ai e
 (oK (aq [ah,ah,.nilslc] []) λe=>qc f 3 c (.agg e) λe=>aE e 3 (.ptr c 0) λg=>K (.tup [(.agg g),bF]) e)
 (aL a 3 f λa=>oK (getM f a b) λa=>qk (retM (.agg [ah,ah,.nilslc]) true a) 0 λb=>qk (retM (.agg [ah,ah,.nilslc]) true a) 1 λa=>newK 34 [ah,ah,.nilslc] (λe g=>qc g 3 e b λb=>aE b 3 (.ptr e 0) λe=>wC TP 102 [(.agg e)] (λe g=>qc g 3 c e λe=>aE e 3 (.ptr c 0) λc=>K (.tup [(.agg c),a]) e) b) f)) d) s
theorem TS:T2 55 TR:=wOK Tryz.func55
def Mt:cj:=λa b c I0 m0 K s=>qh a λd=>ak .lss c (.int .i64 d) λd=>ai d
 (qx 1 a c s λa=>qx 1 b c s λb=>qe true 0 false a b λa=>ai a
 (K bF s)
 (ak .add c ax λa=>aA m0 (I0 [a] s)))
 (K bT s)
def Mu:aM:=λa b K s=>qh a λc=>qh b λd=>qe true 0 false (.int .i64 c) (.int .i64 d) λc=>ai c
 (K bF s)
 (aK [ah] s (λf=>[f 5]) λI0 f s m0=>Mt a b (f 5) I0 m0 K s)
def TT:Nat->List Nat:=anL [(8,[5])]
theorem TU:T2 9 Mu:=wOK Tryz.func9 TT
def vt:gC:=λa b c d e f K s=>qp e f λe=>ai e
 (aE s 3 d λd=>wC TP 102 [(.agg d)] (λd e=>oK (cn e 3 c d) λd=>aE d 3 c λe=>K (.tup [(.agg e),bF,ah]) d) s)
 (aL a 2 s λd=>ak .geq d (qz 1073741824) λd=>ai d
 (oK (aq [ah,ah,.nilslc] []) λd=>oK (cn s 3 c (.agg d)) λd=>aE d 3 c λe=>K (.tup [(.agg e),bF,(qz 7)]) d)
 (aL a 2 s λd=>ak .add d ax λd=>wC TP 113 [a,b,d] (λa b=>wC TP 102 [a] (λa d=>oK (cn d 3 c a) λa=>aE a 3 c λc=>K (.tup [(.agg c),bT,ah]) a) b) s))
def TV:aM:=λa b K s=>newK 34 [ah,ah,.nilslc] (λc d=>wC TP 99 [a] (λe f=>qj e λe=>ai e
 (oK (aq [ah,ah,.nilslc] []) λe=>qc f 3 c (.agg e) λe=>aE e 3 (.ptr c 0) λg=>K (.tup [(.agg g),bF,ax]) e)
 (wC TP 111 [b] (λe g=>qe true 0 true e ah λh=>ai h
 (oK (aq [ah,ah,.nilslc] []) λh=>qc g 3 c (.agg h) λh=>aE h 3 (.ptr c 0) λi=>K (.tup [(.agg i),bF,e]) h)
 (aL a 3 g λe=>aL a 1 g λh=>oK (getM g e h) λe=>qk (retM (.agg [ah,ah,.nilslc]) true e) 0 λh=>qk (retM (.agg [ah,ah,.nilslc]) true e) 1 λe=>newK 34 [ah,ah,.nilslc] (λi j=>qc j 3 i h λh=>ai e
 (qd 2 (.ptr i 0) h λj=>wC TP 112 [j,b] (λj k=>vt a b (.ptr c 0) (.ptr i 0) e j K k) h)
 (vt a b (.ptr c 0) (.ptr i 0) e .undef K h)) g)) f)) d) s
def TW:Nat->List Nat:=anL [(3000006,[0]),(2000024,[0,1,2,3,4,5,6,7,8,9,10,11]),(2000026,[12]),(2000027,[13,14])]
theorem TX:T2 58 TV:=wOK Tryz.func58 TW
def lc:cj:=λa b c I0 m0 K s=>qp b c λb=>ai b
 (K (qz 10) s)
 (ak .add a ax λa=>aA m0 (I0 [a] s))
def BU:bU:=λa b c d e f I0 m0 K s=>qt e f λe=>ai e
 (K (qz 2) s)
 (ak .gtr b ah λe=>ai e
 (ak .sub b ax λb=>qx 1 a b s λa=>ak .leq c a λa=>lc d e a I0 m0 K s)
 (lc d e .undef I0 m0 K s))
def Mw:bS:=λa b c d I0 m0 K s=>ak .lss d c λc=>ai c
 (qx 1 b d s λb=>ak .lss b ah λc=>ai c
 (BU a d b d c .undef I0 m0 K s)
 (ak .geq b (qz 128) λe=>BU a d b d c e I0 m0 K s))
 (K ah s)
def Mx:aY:=λa K s=>qh a λb=>aK [ah] s (λf=>[f 7]) λI0 f s m0=>Mw a a (.int .i64 b) (f 7) I0 m0 K s
def TY:Nat->List Nat:=anL [(4,[7])]
theorem TZ:T1 111 Mx:=wOK Tryz.func111 TY
def My:bS:=λa b c d I0 m0 K s=>ak .lss d c λc=>ai c
 (qx 1 b d s λb=>qe true 0 false b a λc=>ai c
 (K b s)
 (ak .add d ax λb=>aA m0 (I0 [b] s)))
 (K a s)
def Mz:aY:=λa K s=>qh a λb=>aK [ah] s (λf=>[f 8]) λI0 f s m0=>My ah a (.int .i64 b) (f 8) I0 m0 K s
def T8:Nat->List Nat:=anL [(6,[8])]
theorem T9:T1 137 Mz:=wOK Tryz.func137 T8
def Ua:aM:=λa b K s=>wC TP 140 [a] (λc d=>wC TP 140 [b] (λe f=>ai c
 (ai e
 (K ah f)
 (K (.int .i64 (-1)) f))
 (ai e
 (K ax f)
 (ak .lss a b λc=>ai c
 (K (.int .i64 (-1)) f)
 (ak .gtr a b λa=>ai a
 (K ax f)
 (K ah f))))) d) s
theorem Ub:T2 138 Ua:=wOK Tryz.func138
def MA:bM:=λa b c d e I0 m0 K s=>ak .lss e d λd=>ai d
 (qx 1 c e s λc=>qh b λd=>ak .geq e (.int .i64 d) λd=>ai d
 (K ax s)
 (qx 1 b e s λd=>wC TP 138 [c,d] (λc d=>qe true 0 true c ah λf=>ai f
 (K c d)
 (ak .add e ax λc=>aA m0 (I0 [c] d))) s))
 (qh a λa=>qh b λb=>ak .lss (.int .i64 a) (.int .i64 b) λa=>ai a
 (K (.int .i64 (-1)) s)
 (K ah s))
def MB:aM:=λa b K s=>qh a λc=>aK [ah] s (λf=>[f 11]) λI0 f s m0=>MA a b a (.int .i64 c) (f 11) I0 m0 K s
def Uc:Nat->List Nat:=anL [(4,[11])]
theorem Ud:T2 139 MB:=wOK Tryz.func139 Uc
def vu:aM:=λa b K s=>qp a b λa=>K a s
def BV:aY:=λa K s=>qe true 3 true a .nilptr λb=>ai b
 (aL a 0 s λa=>ak .gtr a ah λa=>vu b a K s)
 (vu b .undef K s)
theorem MC:T1 99 BV:=wOK Tryz.func99
def Ue:aY:=λa K s=>boxK 34 a (λa b=>newK 34 [ah,ah,.nilslc] (λc d=>qd 2 a d λe=>wC TP 105 [e] (λe f=>qf 2 a λg=>oK (wr1 f g e) λe=>aE e 3 a λa=>qc e 3 c (.agg a) λa=>aE a 3 (.ptr c 0) λc=>K (.agg c) a) d) b) s
theorem MD:T1 102 Ue:=wOK Tryz.func102
def ME:aW:=λa b c K s=>aL a 3 s λa=>oK (getM s a b) λa=>oK (tC none 2 (retM (.agg [ah,ah,.nilslc]) false a)) λa=>wC TP 56 [a,c] (λa b=>qk a 0 λc=>qk a 1 λa=>K a b) s
theorem Uf:T3 119 ME:=wOK Tryz.func119
def Ug:aW:=λa b c K s=>boxK 34 b (λb d=>ak .geq c (qz 1073741824) λe=>ai e
 (K (.tup [ah,(qz 7)]) d)
 (qd 2 b d λb=>ak .add c ax λc=>wC TP 113 [a,b,c] (λa a=>K (.tup [(qz 3),ah]) a) d)) s
theorem Uh:T3 103 Ug:=wOK Tryz.func103
def MF:bS:=λa b c d I0 m0 K s=>ak .lss d c λc=>ai c
 (qx 1 a d s λa=>qx 1 b d s λb=>qe true 0 false a b λa=>ai a
 (K bF s)
 (ak .add d ax λa=>aA m0 (I0 [a] s)))
 (K bT s)
def MG:aM:=λa b K s=>qh a λc=>qh b λd=>qe true 0 false (.int .i64 c) (.int .i64 d) λc=>ai c
 (K bF s)
 (qh a λc=>aK [ah] s (λf=>[f 13]) λI0 f s m0=>MF a b (.int .i64 c) (f 13) I0 m0 K s)
def Ui:Nat->List Nat:=anL [(8,[13])]
theorem Uj:T2 112 MG:=wOK Tryz.func112 Ui
def Uk:aW:=λa b c K s=>newK 34 [ah,ah,.nilslc] (λd e=>∃f:Hq,Sub f e/\
 aL a 1 f λg=>wC TP 105 [b] (λb h=>oK (aq [ah,ah,.nilslc] [(0,1,g),(1,1,c),(2,1,b)]) λb=>newK 34 [ah,ah,.nilslc] (λg i=>qc i 3 g (.agg b) λb=>qs a 2 b c λb=>aL a 3 b λc=>aL a 1 b λa=>aE b 3 (.ptr g 0) λi=>oK (putM b c a (.agg i)) λa=>aE a 3 (.ptr g 0) λb=>qc a 3 d (.agg b) λa=>aE a 3 (.ptr d 0) λb=>K (.agg b) a) (add f h)) (lock e f)) s
def Ul:Nat->List Nat:=anL [(3000001,[1]),(2000004,[0,1,2,3,4,5]),(2000005,[6,7]),(2000006,[8]),(2000007,[9])]
theorem Um:T3 113 Uk:=wOK Tryz.func113 Ul
def MH:aY:=λa K s=>qe true 0 false a a λa=>K a s
theorem Un:T1 140 MH:=wOK Tryz.func140
def iI:aY:=λa K s=>qe false 5 true a .nilslc λb=>ai b
 (K .nilslc s)
 (oK (aq (repl 0 [ah]) []) λb=>aD b=true/\newK 3 b (λb c=>appK 3 1 (.slc b 0 0 (some 0) 1) a (λa b=>K a b) c) s)
theorem vv:T1 105 iI:=wOK Tryz.func105
def MI:cX:=λa b c d e K s=>qp d e λd=>qt c d λc=>qp b c λb=>K (.tup [a,b]) s
def MJ:bM:=λa b c d e I0 m0 K s=>ak .lss d e λf=>ai f
 (ak .add d e λf=>oK (cw .u64 f) λf=>oK (dh .shr f (.int .u64 1)) λf=>oK (cw .i64 f) λf=>qx 1 a f s λg=>wC TP 107 [g,b] (λg h=>ai g
 (ak .add f ax λg=>aA m0 (I0 [g,e] h))
 (aA m0 (I0 [d,f] h))) s)
 (ak .lss d c λc=>ai c
 (qx 1 a d s λe=>qe false 0 false e b λe=>ai e
 (qt e .undef λf=>qp c f λf=>K (.tup [d,f]) s)
 (qx 1 a d s λa=>wC TP 108 [a] (λa f=>ai a
 (wC TP 108 [b] (λb g=>MI d c e a b K g) f)
 (MI d c e a .undef K f)) s))
 (qp c .undef λa=>K (.tup [d,a]) s))
def MK:aM:=λa b K s=>qh a λc=>aK [ah,(.int .i64 c)] s (λf=>[f 7,f 8]) λI0 f s m0=>MJ a b (.int .i64 c) (f 7) (f 8) I0 m0 K s
def Uo:Nat->List Nat:=anL [(6,[7,8])]
theorem Uq:T2 56 MK:=wOK Tryz.func56 Uo
def BW:aM:=λa b K s=>qt a b λa=>K a s
def BX:ct:=λa b c d K s=>qp c d λc=>ai c
 (BW c .undef K s)
 (ak .lss a b λa=>BW c a K s)
def Ur:aM:=λa b K s=>wC TP 140 [a] (λc d=>ai c
 (wC TP 140 [b] (λe f=>qj e λe=>BX a b c e K f) d)
 (BX a b c .undef K d)) s
theorem Ut:T2 107 Ur:=wOK Tryz.func107
def MM:aY:=λa K s=>qe true 0 false a a λa=>K a s
theorem Uu:T1 108 MM:=wOK Tryz.func108
def MN:cj:=λa b c I1 m1 K s=>ak .lss c b λb=>ai b
 (bX a 2 λb=>wC TP 126 [b,c,bT] (λb b=>ak .add c ax λc=>aA m1 (I1 [c] b)) s)
 (K (.tup [a,ah]) s)
def MO:bS:=λa b c d I0 m0 K s=>ak .lss d c λc=>ai c
 (bX b 4 λc=>wC TP 126 [c,d,bT] (λc c=>ak .add d ax λd=>aA m0 (I0 [d] c)) s)
 (qh a λa=>aK [ah] s (λf=>[f 34]) λI1 f s m1=>MN b (.int .i64 a) (f 34) I1 m1 K s)
def Uv:aM:=λa b K s=>wC TP 125 [a,b] (λc d=>wC TP 124 [c] (λc e=>qe true 0 true c ah λg=>ai g
 (K (.tup [.nilptr,c]) e)
 (wC TP 62 [b] (λc g=>oK (aq [ah,.nilslc,(.int .u64 0),(.int .u64 0),(.int .u64 0),(.int .u64 0)] [(0,1,a),(1,1,c)]) λc=>boxK 200 (.agg c) (λc h=>aK [ah] h (λf=>[f 23]) λI0 f s m0=>MO b c a (f 23) I0 m0 K s) g) e)) d) s
def Uw:Nat->List Nat:=anL [(12,[23]),(22,[34])]
theorem Ux:T2 76 Uv:=wOK Tryz.func76 Uw
def BY:cX:=λa b c d e K s=>qt d e λd=>ai d
 (K (qz 2) s)
 (bX a 2 λa=>wC TP 126 [a,b,c] (λa a=>K ah a) s)
def Uy:aW:=λa b c K s=>wC TP 88 [a] (λd e=>qj d λd=>ai d
 (K ax e)
 (ak .lss b ah λd=>ai d
 (BY a b c d .undef K e)
 (aL a 1 e λf=>qh f λf=>ak .geq b (.int .i64 f) λf=>BY a b c d f K e))) s
theorem Uz:T3 84 Uy:=wOK Tryz.func84
def BZ:cX:=λa b c d e K s=>qt d e λd=>ai d
 (K (qz 2) s)
 (bX a 4 λa=>wC TP 126 [a,b,c] (λa a=>K ah a) s)
def UA:aW:=λa b c K s=>wC TP 88 [a] (λd e=>qj d λd=>ai d
 (K ax e)
 (ak .lss b ah λd=>ai d
 (BZ a b c d .undef K e)
 (aL a 0 e λf=>ak .geq b f λf=>BZ a b c d f K e))) s
theorem UB:T3 85 UA:=wOK Tryz.func85
def oQ:aM:=λa b K s=>qp a b λa=>K a s
def vw:ct:=λa b c d K s=>qp c d λc=>ai c
 (bX a 4 λa=>qd 1 b s λb=>wC TP 89 [a,b] (λa b=>oQ c a K b) s)
 (oQ c .undef K s)
def vx:ct:=λa b c d K s=>qt c d λc=>ai c
 (K bF s)
 (aL a 1 s λc=>qi 3 c b λc=>aE s 3 c λc=>newK 145 [ah,ah,ah] (λd e=>qc e 3 d (.agg c) λc=>bX a 2 λe=>wC TP 89 [e,b] (λb e=>ai b
 (bX a 4 λf=>qd 0 (.ptr d 0) e λg=>wC TP 89 [f,g] (λf g=>vw a (.ptr d 0) b f K g) e)
 (vw a (.ptr d 0) b .undef K e)) c) s)
def B0:ct:=λa b c d K s=>qt c d λc=>ai c
 (vx a b c .undef K s)
 (aL a 1 s λd=>qh d λd=>ak .geq b (.int .i64 d) λd=>vx a b c d K s)
def UC:aM:=λa b K s=>wC TP 88 [a] (λc d=>qj c λc=>ai c
 (B0 a b c .undef K d)
 (ak .lss b ah λe=>B0 a b c e K d)) s
theorem UD:T2 86 UC:=wOK Tryz.func86
def oR:aM:=λa b K s=>qp a b λa=>K a s
def vy:ct:=λa b c d K s=>qp c d λc=>ai c
 (bX a 4 λa=>wC TP 89 [a,b] (λa b=>oR c a K b) s)
 (oR c .undef K s)
def B4:ct:=λa b c d K s=>qp c d λc=>ai c
 (aL a 0 s λd=>ak .lss b d λd=>vy a b c d K s)
 (vy a b c .undef K s)
def UE:aM:=λa b K s=>wC TP 88 [a] (λc d=>ai c
 (ak .geq b ah λe=>B4 a b c e K d)
 (B4 a b c .undef K d)) s
theorem UF:T2 35 UE:=wOK Tryz.func35
def MQ:cj:=λa b c I0 m0 K s=>ak .lss c b λb=>ai b
 (qx 1 a c s λa=>funK TP a [] (λa b=>qe true 0 true a ah λd=>ai d
 (K a b)
 (ak .add c ax λa=>aA m0 (I0 [a] b))) s)
 (K ah s)
def UG:aY:=λa K s=>qh a λb=>aK [ah] s (λf=>[f 8]) λI0 f s m0=>MQ a (.int .i64 b) (f 8) I0 m0 K s
def UH:Nat->List Nat:=anL [(4,[8])]
theorem UI:T1 124 UG:=wOK Tryz.func124 UH
def UJ:aM:=λa b K s=>boxK 3 a (λa c=>boxK 43 b (λb d=>newK 102 [.nilFunc] (λe f=>oK (wr1 f (.ptr e 0) (.fn (.func 158) [] [a])) λf=>oK (aq (repl 3 [.nilFunc]) [(0,1,(.fn (.func 159) [] [a])),(1,1,(.fn (.func 160) [] [b])),(2,1,(.fn (.func 161) [] [b,(.ptr e 0)]))]) λa=>aD a=true/\newK 290 a (λa b=>K (.slc a 0 3 (some 3) 1) b) f) d) c) s
theorem UK:T2 125 UJ:=wOK Tryz.func125
def oS:aY:=λa K s=>qe false 5 true a .nilslc λb=>ai b
 (K .nilslc s)
 (oK (aq (repl 0 [ah,ah,ah]) []) λb=>aD b=true/\newK 145 b (λb c=>appK 145 3 (.slc b 0 0 (some 0) 3) a (λa b=>K a b) c) s)
theorem MR:T1 62 oS:=wOK Tryz.func62
def B5:aW:=λa b c K s=>ai c
 (ak .quo b (qz 64) λc=>oK (cJ a) λd=>oK (cN 2 1 d c) λd=>qr s d λd=>ak .rem b (qz 64) λe=>oK (dh .shl (.int .u64 1) e) λe=>ak .or d e λd=>oK (cJ a) λe=>oK (cN 2 1 e c) λc=>oK (wr1 s c d) λc=>K (.tup []) c)
 (ak .quo b (qz 64) λc=>oK (cJ a) λd=>oK (cN 2 1 d c) λd=>qr s d λd=>ak .rem b (qz 64) λb=>oK (dh .shl (.int .u64 1) b) λb=>ak .andNot d b λb=>oK (cJ a) λa=>oK (cN 2 1 a c) λa=>oK (wr1 s a b) λa=>K (.tup []) a)
theorem UL:T3 126 B5:=wOK Tryz.func126
def B6:aM:=λa b K s=>qp a b λa=>K a s
def MS:aY:=λa K s=>qe true 3 true a .nilptr λb=>ai b
 (aL a 0 s λa=>ak .gtr a ah λa=>B6 b a K s)
 (B6 b .undef K s)
theorem UM:T1 88 MS:=wOK Tryz.func88
def MT:aM:=λa b K s=>ak .quo b (qz 64) λc=>oK (cJ a) λa=>oK (cN 2 1 a c) λa=>qr s a λa=>ak .rem b (qz 64) λb=>oK (dh .shr a b) λa=>ak .and a (.int .u64 1) λa=>qe true 0 true a (.int .u64 0) λa=>K a s
theorem UN:T2 89 MT:=wOK Tryz.func89
def vA:aM:=λa b K s=>qt a b λa=>K a s
def MU:aM:=λa b K s=>ak .lss a ah λc=>ai c
 (vA c .undef K s)
 (qr s b λb=>ak .geq a b λa=>vA c a K s)
theorem UO:T2 158 MU:=wOK Tryz.func158
def vB:aM:=λa b K s=>qt a b λa=>ai a
 (K (qz 2) s)
 (K ah s)
def MW:aY:=λa K s=>qr s a λb=>ak .lss b ax λb=>ai b
 (vB b .undef K s)
 (qr s a λa=>ak .gtr a (qz 32) λa=>vB b a K s)
theorem UP:T1 159 MW:=wOK Tryz.func159
def MX:aY:=λa K s=>qr s a λa=>qh a λa=>ak .gtr (.int .i64 a) (qz 128) λa=>ai a
 (K (qz 5) s)
 (K ah s)
theorem UQ:T1 160 MX:=wOK Tryz.func160
def jv:bS:=λa b c d I0 m0 K s=>qt c d λc=>ai c
 (K (qz 2) s)
 (qd 0 a s λc=>qd 1 a s λa=>qe false 0 false c a λa=>ai a
 (K (qz 12) s)
 (ak .add b ax λa=>aA m0 (I0 [a] s)))
def lg:bS:=λa b c d I0 m0 K s=>qt c d λc=>ai c
 (jv a b c .undef I0 m0 K s)
 (qd 2 a s λd=>ak .gtr d (qz 1000) λd=>jv a b c d I0 m0 K s)
def oU:bS:=λa b c d I0 m0 K s=>qt c d λc=>ai c
 (lg a b c .undef I0 m0 K s)
 (qd 2 a s λd=>ak .lss d ax λd=>lg a b c d I0 m0 K s)
def MY:bS:=λa b c d I0 m0 K s=>ak .lss d c λc=>ai c
 (qi 3 b d λb=>aE s 3 b λb=>newK 145 [ah,ah,ah] (λc e=>qc e 3 c (.agg b) λb=>qr b a λe=>qd 0 (.ptr c 0) b λf=>funK TP e [f] (λe f=>ai e
 (oU (.ptr c 0) d e .undef I0 m0 K f)
 (qr f a λa=>qd 1 (.ptr c 0) f λg=>funK TP a [g] (λa g=>oU (.ptr c 0) d e a I0 m0 K g) f)) b) s)
 (K ah s)
def MZ:aM:=λa b K s=>qr s a λa=>qh a λc=>aK [ah] s (λf=>[f 7]) λI0 f s m0=>MY b a (.int .i64 c) (f 7) I0 m0 K s
def UR:Nat->List Nat:=anL [(4,[7])]
theorem US:T2 161 MZ:=wOK Tryz.func161 UR
def oV:dp:=λa b I0 m0 K s=>ak .add b ax λb=>aA m0 (I0 [a,b] s)
def oW:oC:=λa b c d e f g h i I0 m0 K s=>qt h i λh=>ai h
 (oV e g I0 m0 K s)
 (wC TP 47 [f] (λh i=>qk h 0 λj=>qk h 1 λh=>qe false 0 true h ah λh=>ai h
 (wC TP 205 [a,b,c,d,f] (λa b=>oK (aq [bu,.nilslc] [(0,1,j),(1,1,a)]) λa=>oK (aq (repl 1 [bu,.nilslc]) [(0,2,(.agg a))]) λa=>aD a=true/\newK 285 a (λa c=>appK 285 2 e (.slc a 0 1 (some 1) 2) (λa d=>oV a g I0 m0 K d) c) b) i)
 (oV e g I0 m0 K i)) s)
def B8:cV:=λa b c d e f g h I0 m0 K s=>ak .lss h g λg=>ai g
 (qx 1 f h s λf=>qe false 0 false h d λg=>ai g
 (oW a b c d e h h g .undef I0 m0 K s)
 (ak .lss f ah λf=>oW a b c d e h h g f I0 m0 K s))
 (K e s)
def B9:ct:=λa b c d K s=>wC TP 36 [a,b,c,d] (λe g=>qh e λh=>aK [.nilslc,ah] g (λf=>[f 9,f 20]) λI0 f s m0=>B8 a b c d (f 9) e (.int .i64 h) (f 20) I0 m0 K s) s
def UT:Nat->List Nat:=anL [(6,[9,20])]
theorem UU:T4 153 B9:=wOK Tryz.func153 UT
def UV:ct:=λa b c d K s=>oK (aq (repl 1 [ah]) [(0,1,d)]) λe=>aD e=true/\newK 3 e (λe f=>wC TP 90 [a,b,c,(.slc e 0 1 (some 1) 1)] (λe g=>qj e λe=>ai e
 (K .nilslc g)
 (wC TP 92 [a,b,c] (λa b=>wC TP 91 [a,d] (λa c=>K a c) b) g)) f) s
theorem UW:T4 36 UV:=wOK Tryz.func36
def M3:bS:=λa b c d I0 m0 K s=>ak .lss d c λc=>ai c
 (qi 3 b d λb=>aE s 3 b λb=>newK 272 [ah,ah,ah] (λc e=>qc e 3 c (.agg b) λb=>qd 0 (.ptr c 0) b λc=>oK (aq (repl 1 [ah]) [(0,1,c)]) λc=>aD c=true/\newK 3 c (λc e=>appK 3 1 a (.slc c 0 1 (some 1) 1) (λc f=>ak .add d ax λd=>aA m0 (I0 [c,d] f)) e) b) s)
 (K a s)
def UX:cX:=λa b c d e K s=>oK (aq (repl 2 [ah]) [(0,1,d),(1,1,e)]) λg=>aD g=true/\newK 3 g (λg h=>wC TP 90 [a,b,c,(.slc g 0 2 (some 2) 1)] (λg i=>qj g λg=>ai g
 (K .nilslc i)
 (wC TP 92 [a,b,c] (λa b=>∃c:Hq,Sub c b/\
 qx 1 a d c λg=>wC TP 91 [a,e] (λa e=>wC TP 223 [g,a,d] (λa d=>qh a λg=>aK [.nilslc,ah] d (λf=>[f 12,f 37]) λI0 f s m0=>M3 (f 12) a (.int .i64 g) (f 37) I0 m0 K s) (add c e)) (lock b c)) i)) h) s
def UY:Nat->List Nat:=anL [(3000005,[1]),(2000020,[0,1,2,3,4,5,7,10]),(2000021,[6]),(2000023,[8,9]),(12,[12,37])]
theorem UZ:T5 205 UX:=wOK Tryz.func205 UY
def Ca:aW:=λa b c K s=>qt b c λb=>ai b
 (K (.tup [bu,(qz 2)]) s)
 (oK (cw .u32 a) λa=>ak .add (.int .u32 184483840) a λa=>ak .add a (.int .u32 1) λa=>K (.tup [a,ah]) s)
def M5:aY:=λa K s=>ak .lss a ah λb=>ai b
 (Ca a b .undef K s)
 (ak .geq a (qz 32) λc=>Ca a b c K s)
theorem U0:T1 47 M5:=wOK Tryz.func47
def oX:cj:=λa b c I3 m3 K s=>qt b c λb=>ai b
 (K bF s)
 (ak .add a ax λa=>aA m3 (I3 [a] s))
def jw:bS:=λa b c d I3 m3 K s=>qt c d λc=>ai c
 (oX b c .undef I3 m3 K s)
 (qd 2 a s λa=>ak .gtr a (qz 1000) λa=>oX b c a I3 m3 K s)
def lh:bS:=λa b c d I3 m3 K s=>qt c d λc=>ai c
 (jw a b c .undef I3 m3 K s)
 (qd 2 a s λd=>ak .lss d ax λd=>jw a b c d I3 m3 K s)
def oY:bS:=λa b c d I3 m3 K s=>qt c d λc=>ai c
 (lh a b c .undef I3 m3 K s)
 (qd 0 a s λd=>qd 1 a s λe=>qe false 0 false d e λd=>lh a b c d I3 m3 K s)
def M6:bM:=λa b c d e I3 m3 K s=>ak .lss e d λd=>ai d
 (qi 3 c e λc=>aE s 3 c λc=>newK 145 [ah,ah,ah] (λd f=>qc f 3 d (.agg c) λc=>qd 0 (.ptr d 0) c λf=>funK TP b [f] (λf g=>ai f
 (oY (.ptr d 0) e f .undef I3 m3 K g)
 (qd 1 (.ptr d 0) g λh=>funK TP b [h] (λh i=>oY (.ptr d 0) e f h I3 m3 K i) g)) c) s)
 (wC TP 129 [a,b] (λa b=>qj a λa=>K a b) s)
def jx:cX:=λa b c d e K s=>qt d e λd=>ai d
 (K bF s)
 (qh a λd=>aK [ah] s (λf=>[f 33]) λI3 f s m3=>M6 b (.fn (.func 128) [] [c]) a (.int .i64 d) (f 33) I3 m3 K s)
def li:gC:=λa b c d e f K s=>qt e f λe=>ai e
 (jx a c d e .undef K s)
 (qh b λb=>qh a λf=>qe true 0 false (.int .i64 b) (.int .i64 f) λb=>jx a c d e b K s)
def oZ:gC:=λa b c d e f K s=>qt e f λe=>ai e
 (li a b c d e .undef K s)
 (qh a λf=>ak .gtr (.int .i64 f) (qz 128) λf=>li a b c d e f K s)
def U1:ct:=λa b c d K s=>boxK 3 a (λa e=>qr e a λf=>ak .lss f ax λf=>ai f
 (oZ b c d a f .undef K e)
 (qr e a λg=>ak .gtr g (qz 32) λg=>oZ b c d a f g K e)) s
def U2:Nat->List Nat:=anL [(10,[33])]
theorem U4:T4 90 U1:=wOK Tryz.func90 U2
def vC:A7:=λa I2 m2 I1 m1 K s=>ak .add a ax λa=>aA m2 (I2 [a] s)
def M7:gX:=λa b c d e f I2 m2 I1 m1 K s=>ak .lss f e λe=>ai e
 (qi 3 d f λd=>aE s 3 d λd=>newK 272 [ah,ah,ah] (λe g=>qc g 3 e (.agg d) λd=>qd 1 (.ptr e 0) d λg=>qx 1 a g d λa=>ak .lss a ah λa=>ai a
 (qd 1 (.ptr e 0) d λa=>qd 1 c d λc=>qd 2 (.ptr e 0) d λe=>ak .add c e λc=>oK (aq [ah,ah] [(0,1,a),(1,1,c)]) λa=>wC TP 132 [(.ifc 263 b),(.ifc 265 (.agg a))] (λa a=>vC f I2 m2 I1 m1 K a) d)
 (vC f I2 m2 I1 m1 K d)) s)
 (aA m1 (I1 [] s))
def M8:cj:=λa b c I1 m1 K s=>oK (cJ c) λd=>qr s d λd=>wC TP 130 [d] (λd e=>ak .gtr d ah λd=>ai d
 (wC TP 131 [(.ifc 263 c)] (λd g=>oK (gq 265 (some (.agg [ah,ah])) true d) λd=>qk d 0 λh=>qk d 1 λd=>newK 265 [ah,ah] (λd i=>qc i 2 d h λh=>qd 0 (.ptr d 0) h λi=>qx 1 b i h λi=>ak .geq i ah λi=>ai i
 (aA m1 (I1 [] h))
 (qd 0 (.ptr d 0) h λi=>qd 1 (.ptr d 0) h λj=>qi 1 b i λi=>oK (wr1 h i j) λh=>qd 0 (.ptr d 0) h λi=>qx 1 a i h λa=>qh a λi=>aK [ah] h (λf=>[f 58]) λI2 f s m2=>M7 b c (.ptr d 0) a (.int .i64 i) (f 58) I2 m2 I1 m1 K s)) g) e)
 (K b e)) s
def M9:bM:=λa b c d e I0 m0 K s=>ak .lss e d λd=>ai d
 (qi 1 c e λd=>oK (wr1 s d (.int .i64 (-1))) λd=>ak .add e ax λe=>aA m0 (I0 [e] d))
 (oK (aq [ah,ah] [(0,1,b),(1,1,ah)]) λb=>oK (aq (repl 1 [ah,ah]) [(0,2,(.agg b))]) λb=>aD b=true/\newK 265 b (λb d=>boxK 267 (.slc b 0 1 (some 1) 2) (λb e=>aK [] e (λf=>[]) λI1 f s m1=>M8 a c b I1 m1 K s) d) s)
def Na:aM:=λa b K s=>qh a λc=>oK (nat? (.int .i64 c)) λd=>oK (nat? (.int .i64 c)) λc=>(d<=c/\c<=4294967296)/\newK 3 (repl c [ah]) (λe g=>qh (.slc e 0 d (some c) 1) λh=>aK [ah] g (λf=>[f 17]) λI0 f s m0=>M9 a b (.slc e 0 d (some c) 1) (.int .i64 h) (f 17) I0 m0 K s) s
def U5:Nat->List Nat:=anL [(6,[17]),(16,[]),(26,[58])]
theorem U6:T2 91 Na:=wOK Tryz.func91 U5
def vD:dp:=λa b I0 m0 K s=>ak .add b ax λb=>aA m0 (I0 [a,b] s)
def Nb:bU:=λa b c d e f I0 m0 K s=>ak .lss f e λe=>ai e
 (qi 3 d f λd=>aE s 3 d λd=>newK 272 [ah,ah,ah] (λe g=>qc g 3 e (.agg d) λd=>qx 1 a b d λb=>qd 1 (.ptr e 0) d λg=>qx 1 a g d λa=>qd 2 (.ptr e 0) d λg=>ak .add a g λa=>qe false 0 false b a λa=>ai a
 (aE d 3 (.ptr e 0) λa=>oK (aq (repl 1 [ah,ah,ah]) [(0,3,(.agg a))]) λa=>aD a=true/\newK 272 a (λa b=>appK 272 3 c (.slc a 0 1 (some 1) 3) (λa e=>vD a f I0 m0 K e) b) d)
 (vD c f I0 m0 K d)) s)
 (K c s)
def Nc:aW:=λa b c K s=>qh a λd=>aK [.nilslc,ah] s (λf=>[f 7,f 12]) λI0 f s m0=>Nb b c (f 7) a (.int .i64 d) (f 12) I0 m0 K s
def U7:Nat->List Nat:=anL [(6,[7,12])]
theorem U8:T3 223 Nc:=wOK Tryz.func223 U7
def vE:aM:=λa b K s=>qt a b λa=>K a s
def Nd:aM:=λa b K s=>ak .lss a ah λc=>ai c
 (vE c .undef K s)
 (qr s b λb=>ak .geq a b λa=>vE c a K s)
theorem U9:T2 128 Nd:=wOK Tryz.func128
def Cb:aY:=λa K s=>qh a λa=>K (.int .i64 a) s
theorem Nf:T1 130 Cb:=wOK Tryz.func130
def Va:aY:=λa K s=>cz TP a "Len" [] (λb c=>ak .sub b ax λb=>cz TP a "Swap" [ah,b] (λd d=>wC TP 163 [a,ah,b] (λb b=>cz TP a "Pop" [] (λa e=>K a e) b) d) c) s
theorem Vb:T1 131 Va:=wOK Tryz.func131
def Vc:aM:=λa b K s=>cz TP a "Push" [b] (λb b=>cz TP a "Len" [] (λc d=>ak .sub c ax λc=>wC TP 164 [a,c] (λa a=>K (.tup []) a) d) b) s
theorem Vd:T2 132 Vc:=wOK Tryz.func132
def Ve:aM:=λa b K s=>boxK 43 a (λa c=>boxK 73 b (λb d=>K (.fn (.func 165) [] [a,b]) d) c) s
theorem Vf:T2 133 Ve:=wOK Tryz.func133
def jy:aM:=λa b K s=>ak .gtr b a λa=>K a s
def lj:bS:=λa b c d I1 m1 K s=>cz TP a "Less" [d,c] (λe f=>qj e λe=>ai e
 (jy b c K f)
 (cz TP a "Swap" [c,d] (λa a=>aA m1 (I1 [d] a)) f)) s
def lq:dO:=λa b c d e f g I1 m1 K s=>qp f g λf=>ai f
 (lj a b c e I1 m1 K s)
 (lj a b c d I1 m1 K s)
def jz:dO:=λa b c d e f g I1 m1 K s=>qt f g λf=>ai f
 (jy b d K s)
 (ak .add e ax λf=>ak .lss f c λc=>ai c
 (cz TP a "Less" [f,e] (λg h=>lq a b d e f c g I1 m1 K h) s)
 (lq a b d e f c .undef I1 m1 K s))
def vF:bS:=λa b c d I1 m1 K s=>ak .mul (qz 2) d λe=>ak .add e ax λe=>ak .geq e c λf=>ai f
 (jz a b c d e f .undef I1 m1 K s)
 (ak .lss e ah λg=>jz a b c d e f g I1 m1 K s)
def Vg:aW:=λa b c K s=>aK [b] s (λf=>[f 7]) λI1 f s m1=>vF a b c (f 7) I1 m1 K s
def Vh:Nat->List Nat:=anL [(4,[7])]
theorem Cc:T3 163 Vg:=wOK Tryz.func163 Vh
def ly:bM:=λa b c d e I0 m0 K s=>qt d e λd=>ai d
 (K (.tup []) s)
 (cz TP a "Swap" [c,b] (λa a=>aA m0 (I0 [c] a)) s)
def Cd:dp:=λa b I0 m0 K s=>ak .sub b ax λc=>ak .quo c (qz 2) λc=>qe false 0 false c b λd=>ai d
 (ly a b c d .undef I0 m0 K s)
 (cz TP a "Less" [b,c] (λe f=>qj e λe=>ly a b c d e I0 m0 K f) s)
def Vi:aM:=λa b K s=>aK [b] s (λf=>[f 1]) λI0 f s m0=>Cd a (f 1) I0 m0 K s
def Vj:Nat->List Nat:=anL [(0,[1])]
theorem Ng:T2 164 Vi:=wOK Tryz.func164 Vj
def vG:cj:=λa b c I0 m0 K s=>qp b c λb=>ai b
 (K (.tup []) s)
 (ak .add a ax λa=>aA m0 (I0 [a] s))
def Nh:bM:=λa b c d e I0 m0 K s=>ak .lss e d λd=>ai d
 (qi 3 c e λc=>aE s 3 c λc=>newK 145 [ah,ah,ah] (λd f=>qc f 3 d (.agg c) λc=>qr c b λb=>qx 1 b e c λb=>ai b
 (aE c 3 (.ptr d 0) λd=>funK TP a [e,(.agg d)] (λa d=>qj a λa=>vG e b a I0 m0 K d) c)
 (vG e b .undef I0 m0 K c)) s)
 (K (.tup []) s)
def Ni:aW:=λa b c K s=>qr s b λb=>qh b λd=>aK [ah] s (λf=>[f 8]) λI0 f s m0=>Nh a c b (.int .i64 d) (f 8) I0 m0 K s
def Vk:Nat->List Nat:=anL [(2,[8])]
theorem Vl:T3 165 Ni:=wOK Tryz.func165 Vk
def Nj:aW:=λa b c K s=>qw 2 a b 1 s λb=>qw 2 a c 1 s λa=>ak .lss b a λa=>K a s
theorem Vm:T3 283 Nj:=wOK Tryz.func283
def Nk:aY:=λa K s=>oK (cJ a) λb=>qr s b λb=>qh b λb=>ak .sub (.int .i64 b) ax λb=>oK (cJ a) λc=>qr s c λc=>qi 2 c b λc=>aE s 2 c λc=>newK 265 [ah,ah] (λd e=>qc e 2 d (.agg c) λc=>oK (cJ a) λe=>qr c e λe=>oK (cU 2 e none (some b) none) λb=>oK (cJ a) λa=>oK (wr1 c a b) λa=>aE a 2 (.ptr d 0) λb=>K (.ifc 265 (.agg b)) a) s
theorem Vn:T1 284 Nk:=wOK Tryz.func284
def Nl:aM:=λa b K s=>oK (gq 265 (some (.agg [ah,ah])) true b) λb=>qk b 0 λc=>qk b 1 λb=>newK 265 [ah,ah] (λd e=>qc e 2 d c λc=>ai b
 (oK (cJ a) λb=>qr c b λb=>aE c 2 (.ptr d 0) λd=>oK (aq (repl 1 [ah,ah]) [(0,2,(.agg d))]) λd=>aD d=true/\
 newK 265 d (λd e=>appK 265 2 b (.slc d 0 1 (some 1) 2) (λb d=>oK (cJ a) λa=>oK (wr1 d a b) λa=>K (.tup []) a) e) c)
 (K (.tup []) c)) s
def Vo:Nat->List Nat:=anL [(3000002,[0]),(2000008,[0,1,2,3,4]),(2000010,[5]),(2000011,[6,7,8])]
theorem Vp:T2 285 Nl:=wOK Tryz.func285 Vo
def Nm:aW:=λa b c K s=>qi 2 a c λd=>aE s 2 d λd=>qi 2 a b λe=>aE s 2 e λe=>qi 2 a b λb=>oK (cn s 2 b (.agg d)) λb=>qi 2 a c λa=>oK (cn b 2 a (.agg e)) λa=>K (.tup []) a
theorem Vq:T3 286 Nm:=wOK Tryz.func286
def Ce:aW:=λa b c K s=>qt b c λb=>ai b
 (K (.tup [.nilptr,(qz 2)]) s)
 (oK (nat? a) λb=>oK (nat? a) λa=>(b<=a/\a<=4294967296)/\newK 3 (repl a [ah]) (λc d=>oK (aq [.nilslc,.nilslc] [(0,1,(.slc c 0 b (some a) 1))]) λa=>boxK 289 (.agg a) (λa b=>K (.tup [a,ah]) b) d) s)
def Nn:aY:=λa K s=>ak .lss a ax λb=>ai b
 (Ce a b .undef K s)
 (ak .gtr a (qz 256) λc=>Ce a b c K s)
theorem Vr:T1 206 Nn:=wOK Tryz.func206
def Cf:ct:=λa b c d K s=>qt c d λc=>ai c
 (K (.tup [ah,bF]) s)
 (aL a 0 s λc=>aL a 0 s λa=>qh a λa=>oK (cw .u64 (.int .i64 a)) λa=>ak .rem b a λa=>qx 1 c a s λa=>ak .sub a ax λa=>K (.tup [a,bT]) s)
def Vs:aM:=λa b K s=>wC TP 157 [a] (λc d=>qj c λc=>ai c
 (Cf a b c .undef K d)
 (aL a 1 d λe=>qh e λe=>qe false 0 true (.int .i64 e) ah λe=>Cf a b c e K d)) s
theorem Vt:T2 272 Vs:=wOK Tryz.func272
def Vu:aM:=λa b K s=>wC TP 157 [a] (λc d=>qj c λc=>ai c
 (K ax d)
 (wC TP 207 [a,b] (λc e=>qe true 0 true c ah λf=>ai f
 (K c e)
 (wC TP 105 [b] (λc f=>qs a 1 f c λc=>qh b λb=>qe false 0 true (.int .i64 b) ah λb=>ai b
 (aL a 0 c λb=>kD [ah] 1 b (λb b=>K ah b) c)
 (wC TP 208 [a] (λb f=>newK 340 [.nilptr] (λg h=>qc h 1 g b λb=>aE b 1 (.ptr g 0) λh=>wC TP 209 [a,(.agg h)] (λh h=>aE h 1 (.ptr g 0) λg=>wC TP 210 [a,(.agg g)] (λa a=>K ah a) h) b) f) c)) e)) d)) s
theorem Vv:T2 156 Vu:=wOK Tryz.func156
def vH:aM:=λa b K s=>qp a b λa=>K a s
def Cg:aY:=λa K s=>qe true 3 true a .nilptr λb=>ai b
 (aL a 0 s λa=>qh a λa=>ak .gtr (.int .i64 a) ah λa=>vH b a K s)
 (vH b .undef K s)
theorem Np:T1 157 Cg:=wOK Tryz.func157
def vI:cj:=λa b c I0 m0 K s=>qp b c λb=>ai b
 (K (qz 10) s)
 (ak .add a ax λa=>aA m0 (I0 [a] s))
def Ch:bU:=λa b c d e f I0 m0 K s=>qt e f λe=>ai e
 (K (qz 2) s)
 (ak .gtr b ah λe=>ai e
 (ak .sub b ax λb=>qx 1 a b s λa=>ak .leq c a λa=>vI d e a I0 m0 K s)
 (vI d e .undef I0 m0 K s))
def Nq:bM:=λa b c d e I0 m0 K s=>ak .lss e d λd=>ai d
 (qx 1 c e s λc=>ak .lss c ah λd=>ai d
 (Ch b e c e d .undef I0 m0 K s)
 (ak .geq c (qz 128) λf=>Ch b e c e d f I0 m0 K s))
 (qh b λb=>aL a 0 s λa=>qh a λa=>ak .gtr (.int .i64 b) (.int .i64 a) λa=>ai a
 (K (qz 7) s)
 (K ah s))
def Nr:aM:=λa b K s=>qh b λc=>aK [ah] s (λf=>[f 9]) λI0 f s m0=>Nq a b b (.int .i64 c) (f 9) I0 m0 K s
def Vw:Nat->List Nat:=anL [(4,[9])]
theorem Vx:T2 207 Nr:=wOK Tryz.func207 Vw
def o4:dN:=λa I1 m1 K s=>ak .add a ax λa=>aA m1 (I1 [a] s)
def Ns:dO:=λa b c d e f g I1 m1 K s=>ak .lss g f λf=>ai f
 (qx 1 e g s λe=>qe false 0 true e ah λf=>ai f
 (o4 g I1 m1 K s)
 (ak .sub e ax λf=>oK (cN 128 1 c f) λf=>qr s f λf=>qe false 0 true f ah λf=>ai f
 (aL a 0 s λa=>qi 1 a g λa=>oK (wr1 s a ah) λa=>o4 g I1 m1 K a)
 (qd 0 d s λa=>aL a 0 s λa=>ak .sub e ax λe=>oK (cN 128 1 c e) λc=>qr s c λc=>ak .sub c ax λc=>qw 2 a c 1 s λe=>ak .add e ax λe=>qi 2 a c λa=>qf 1 a λa=>oK (wr1 s a e) λa=>o4 g I1 m1 K a)))
 (aE s 1 d λa=>wC TP 224 [(.agg a)] (λa a=>aE a 1 d λc=>oK (cn a 1 b (.agg c)) λa=>aE a 1 b λb=>K (.agg b) a) s)
def Nt:dO:=λa b c d e g h I0 m0 K s=>ak .lss h g λg=>ai g
 (qx 1 e h s λe=>ak .add h ax λg=>oK (cN 128 1 c e) λi=>oK (wr1 s i g) λg=>qd 0 d g λi=>aL i 0 g λi=>qi 2 i h λi=>qf 0 i λi=>oK (wr1 g i e) λe=>ak .add h ax λg=>aA m0 (I0 [g] e))
 (aL a 0 s λe=>qh e λg=>aK [ah] s (λf=>[f 47]) λI1 f s m1=>Ns a b c d e (.int .i64 g) (f 47) I1 m1 K s)
def Vy:aY:=λa K s=>newK 340 [.nilptr] (λb c=>newK 359 (replicate 128 ah) (λd e=>aL a 1 e λg=>qh g λg=>oK (nat? (.int .i64 g)) λh=>oK (nat? (.int .i64 g)) λg=>(h<=g/\g<=4294967296)/\newK 364 (repl g [ah,ah]) (λi j=>oK (aq [.nilslc] [(0,1,(.slc i 0 h (some g) 2))]) λg=>boxK 362 (.agg g) (λg h=>oK (aq [.nilptr] [(0,1,g)]) λg=>newK 340 [.nilptr] (λi k=>qc k 1 i (.agg g) λg=>aL a 1 g λk=>qh k λl=>aK [ah] g (λf=>[f 23]) λI0 f s m0=>Nt a (.ptr b 0) (.ptr d 0) (.ptr i 0) k (.int .i64 l) (f 23) I0 m0 K s) h) j) e) c) s
def Vz:Nat->List Nat:=anL [(8,[23]),(20,[47])]
theorem VA:T1 208 Vy:=wOK Tryz.func208 Vz
def vJ:dN:=λa I0 m0 K s=>ak .add a ax λa=>aA m0 (I0 [a] s)
def Nu:bM:=λa b c d e I0 m0 K s=>ak .lss e d λd=>ai d
 (qx 1 c e s λc=>qe false 0 true c ah λc=>ai c
 (aL a 0 s λa=>qd 0 b s λc=>aL c 0 s λc=>qw 2 c ah 0 s λc=>ak .add c ax λc=>qi 1 a e λa=>oK (wr1 s a c) λa=>aE a 1 b λb=>wC TP 225 [(.agg b),ah,ax] (λb b=>vJ e I0 m0 K b) a)
 (vJ e I0 m0 K s))
 (K (.tup []) s)
def VC:aM:=λa b K s=>boxK 340 b (λb c=>aL a 0 c λd=>qh d λe=>aK [ah] c (λf=>[f 11]) λI0 f s m0=>Nu a b d (.int .i64 e) (f 11) I0 m0 K s) s
def VD:Nat->List Nat:=anL [(4,[11])]
theorem VE:T2 209 VC:=wOK Tryz.func209 VD
def VF:dp:=λa b I0 m0 K s=>aE s 1 b λc=>wC TP 226 [(.agg c)] (λc d=>qd 0 b d λe=>aL e 0 d λe=>qw 2 e c 1 d λe=>qd 0 b d λf=>aL f 0 d λf=>qw 2 f ah 1 d λf=>ak .sub e f λe=>ak .leq e ax λe=>ai e
 (K (.tup []) d)
 (∃e:Hq,Sub e d/\
 aL a 0 e λf=>qd 0 b e λg=>aL g 0 e λg=>qw 2 g c 0 e λg=>qd 0 b e λh=>aL h 0 e λh=>qw 2 h ah 0 e λh=>ak .add h ax λh=>wC TP 227 [a,g] (λa g=>qi 1 f a λa=>oK (wr1 (add e g) a h) λa=>aE a 1 b λf=>wC TP 225 [(.agg f),c,(.int .i64 (-1))] (λc c=>aE c 1 b λb=>wC TP 225 [(.agg b),ah,ax] (λb b=>aA m0 (I0 [] b)) c) a) (lock d e))) s
def VG:aM:=λa b K s=>boxK 340 b (λb c=>aK [] c (λf=>[]) λI0 f s m0=>VF a b I0 m0 K s) s
def VH:Nat->List Nat:=anL [(2,[]),(3000003,[1]),(2000012,[0,1,2,3,4,5,6,7,8,9,10,11,12,13,15,16,17,18,19,20,21,22,23]),(2000013,[14]),(2000015,[24,25])]
theorem VI:T2 210 VG:=wOK Tryz.func210 VH
def VJ:aY:=λa K s=>boxK 340 a (λa b=>aE b 1 a λa=>wC TP 230 [(.ifc 340 (.agg a))] (λa a=>K (.tup []) a) b) s
theorem VK:T1 224 VJ:=wOK Tryz.func224
def VL:aW:=λa b c K s=>boxK 340 a (λa d=>qd 0 a d λe=>aL e 0 d λe=>qw 2 e b 1 d λf=>ak .add f c λc=>qi 2 e b λe=>qf 1 e λe=>oK (wr1 d e c) λc=>aE c 1 a λa=>wC TP 231 [(.ifc 340 (.agg a)),b] (λa a=>K (.tup []) a) c) s
theorem VM:T3 225 VL:=wOK Tryz.func225
def Ci:dp:=λa b I0 m0 K s=>ak .add b ax λb=>aA m0 (I0 [a,b] s)
def Nv:bS:=λa b c d I0 m0 K s=>ak .lss d c λc=>ai c
 (qd 0 a s λa=>wC TP 232 [a,b,d] (λa c=>ai a
 (Ci d d I0 m0 K c)
 (Ci b d I0 m0 K c)) s)
 (K b s)
def VN:aY:=λa K s=>boxK 340 a (λa b=>qd 0 a b λc=>aL c 0 b λc=>qh c λc=>aK [ah,ah] b (λf=>[f 3,f 11]) λI0 f s m0=>Nv a (f 3) (.int .i64 c) (f 11) I0 m0 K s) s
def VO:Nat->List Nat:=anL [(6,[3,11])]
theorem VP:T1 226 VN:=wOK Tryz.func226 VO
def vK:cj:=λa b c I0 m0 K s=>qp b c λb=>ai b
 (ak .sub a ax λb=>aA m0 (I0 [b] s))
 (K a s)
def Nw:cj:=λa b c I0 m0 K s=>ak .gtr c ah λd=>ai d
 (aL a 0 s λa=>qx 1 a c s λa=>ak .add b ax λb=>qe true 0 false a b λa=>vK c d a I0 m0 K s)
 (vK c d .undef I0 m0 K s)
def Ny:aM:=λa b K s=>aL a 0 s λc=>qh c λc=>ak .sub (.int .i64 c) ax λc=>aK [c] s (λf=>[f 5]) λI0 f s m0=>Nw a b (f 5) I0 m0 K s
def VQ:Nat->List Nat:=anL [(4,[5])]
theorem VR:T2 227 Ny:=wOK Tryz.func227 VQ
def NA:cj:=λa b c I0 m0 K s=>ak .geq c ah λd=>ai d
 (wC TP 163 [a,c,b] (λa a=>ak .sub c ax λb=>aA m0 (I0 [b] a)) s)
 (K (.tup []) s)
def VT:aY:=λa K s=>cz TP a "Len" [] (λb c=>ak .quo b (qz 2) λd=>ak .sub d ax λd=>aK [d] c (λf=>[f 3]) λI0 f s m0=>NA a b (f 3) I0 m0 K s) s
def VU:Nat->List Nat:=anL [(4,[3])]
theorem VV:T1 230 VT:=wOK Tryz.func230 VU
def VW:aM:=λa b K s=>cz TP a "Len" [] (λc d=>wC TP 163 [a,b,c] (λc e=>qj c λc=>ai c
 (wC TP 164 [a,b] (λa a=>K (.tup []) a) e)
 (K (.tup []) e)) d) s
theorem NB:T2 231 VW:=wOK Tryz.func231
def VX:aW:=λa b c K s=>∃d:Hq,Sub d s/\
 aL a 0 d λe=>qi 2 e b λb=>aE d 2 b λb=>aL a 0 d λa=>qi 2 a c λa=>aE d 2 a λa=>newK 364 [ah,ah] (λc e=>newK 364 [ah,ah] (λf g=>qc g 2 c (.agg b) λb=>qc b 2 f (.agg a) λa=>qd 1 (.ptr c 0) (add d a) λb=>qd 1 (.ptr f 0) (add d a) λg=>qe true 0 false b g λb=>ai b
 (qd 1 (.ptr c 0) (add d a) λb=>qd 1 (.ptr f 0) (add d a) λg=>ak .lss b g λb=>K b (add d a))
 (qd 0 (.ptr c 0) (add d a) λb=>qd 0 (.ptr f 0) (add d a) λc=>ak .lss b c λb=>K b (add d a))) e) (lock s d)
def VY:Nat->List Nat:=anL [(3000001,[2]),(2000004,[0,1,2,3,4,5,6,7,8,9,10,11,12,13]),(2000006,[14,15]),(2000007,[16,17])]
theorem VZ:T3 232 VX:=wOK Tryz.func232 VY
def NC:aY:=λa K s=>aL a 0 s λa=>qh a λa=>K (.int .i64 a) s
theorem V0:T1 287 NC:=wOK Tryz.func287
def ND:aW:=λa b c K s=>aL a 0 s λd=>aL a 0 s λe=>aL a 0 s λf=>qi 2 f c λf=>aE s 2 f λf=>aL a 0 s λa=>qi 2 a b λa=>aE s 2 a λa=>qi 2 d b λb=>oK (cn s 2 b (.agg f)) λb=>qi 2 e c λc=>oK (cn b 2 c (.agg a)) λa=>K (.tup []) a
theorem V1:T3 288 ND:=wOK Tryz.func288
def lA:cX:=λa b c d e K s=>qt d e λd=>ai d
 (K (.tup [.nilptr,(qz 2)]) s)
 (wC TP 47 [c] (λd e=>qk d 0 λf=>qk d 1 λd=>qe true 0 true d ah λd=>ai d
 (K (.tup [.nilptr,(qz 2)]) e)
 (wC TP 62 [b] (λb d=>mapK (λg h=>oK (aq [ah,ah,bu,.nilslc,.nilslc,.nilmap] [(0,1,a),(1,1,c),(2,1,f),(3,1,b),(5,1,g)]) λa=>boxK 245 (.agg a) (λa b=>K (.tup [a,ah]) b) h) d) e)) s)
def iJ:cX:=λa b c d e K s=>qt d e λd=>ai d
 (K (.tup [.nilptr,(qz 3)]) s)
 (ak .lss c ah λd=>ai d
 (lA a b c d .undef K s)
 (ak .geq c a λe=>lA a b c d e K s))
def Cj:aW:=λa b c K s=>qh b λd=>ak .gtr (.int .i64 d) (qz 128) λd=>ai d
 (iJ a b c d .undef K s)
 (qh b λe=>oK (nat? (.int .i64 e)) λf=>oK (nat? (.int .i64 e)) λe=>(f<=e/\e<=4294967296)/\newK 4 (repl e [bF]) (λg h=>wC TP 36 [a,b,(.slc g 0 f (some e) 1),ah] (λe f=>qe false 5 true e .nilslc λe=>iJ a b c d e K f) h) s)
theorem NE:T3 66 Cj:=wOK Tryz.func66
def Cl:aM:=λa b K s=>qp a b λa=>K a s
def NF:aY:=λa K s=>qe true 3 true a .nilptr λb=>ai b
 (aL a 0 s λa=>ak .gtr a ah λa=>Cl b a K s)
 (Cl b .undef K s)
theorem V3:T1 121 NF:=wOK Tryz.func121
def o5:aW:=λa b c K s=>qt b c λb=>ai b
 (K (.tup [ah,bF]) s)
 (ak .sub a (.int .u32 184483840) λa=>ak .sub a (.int .u32 1) λa=>oK (cw .i64 a) λa=>K (.tup [a,bT]) s)
def Cm:aY:=λa K s=>ak .leq a (.int .u32 184483840) λb=>ai b
 (o5 a b .undef K s)
 (ak .gtr a (.int .u32 184483872) λc=>o5 a b c K s)
theorem NG:T1 154 Cm:=wOK Tryz.func154
def vL:aM:=λa b K s=>qh a λc=>oK (dS min2A (.int .i64 c) [(qz 64)]) λc=>oK (cU 1 a none (some c) none) λa=>wC TP 156 [b,a] (λa a=>K (.tup []) a) s
def Cn:aW:=λa b c K s=>aL a 5 s λd=>oK (getM s d b) λd=>qk (retM .nilptr true d) 0 λe=>qk (retM .nilptr true d) 1 λd=>qj d λd=>ai d
 (wC TP 206 [(qz 64)] (λd f=>qk d 0 λg=>qk d 1 λd=>aL a 5 f λa=>oK (putM f a b g) λa=>vL c g K a) s)
 (vL c e K s)
theorem V4:T3 155 Cn:=wOK Tryz.func155
def V5:aM:=λa b K s=>newK 253 [bu,.nilslc] (λc d=>aL a 4 d λe=>wC TP 274 [e,b,(.fn (.func 275) [] [])] (λb e=>qk b 0 λf=>qk b 1 λb=>qj b λb=>ai b
 (oK (aq [bu,.nilslc] []) λb=>qc e 2 c (.agg b) λb=>aE b 2 (.ptr c 0) λg=>K (.tup [(.agg g),bF]) b)
 (aL a 4 e λa=>qi 2 a f λa=>aE e 2 a λa=>qc e 2 c (.agg a) λa=>aE a 2 (.ptr c 0) λb=>K (.tup [(.agg b),bT]) a)) d) s
theorem V6:T2 271 V5:=wOK Tryz.func271
def vM:aW:=λa b c K s=>qp b c λb=>K (.tup [a,b]) s
def NH:bU:=λa b c d e f I0 m0 K s=>ak .lss e f λg=>ai g
 (ak .add e f λg=>oK (cw .u64 g) λg=>oK (dh .shr g (.int .u64 1)) λg=>oK (cw .i64 g) λg=>qi 2 a g λh=>aE s 2 h λh=>funK TP c [(.agg h),b] (λh i=>ak .lss h ah λh=>ai h
 (ak .add g ax λh=>aA m0 (I0 [h,f] i))
 (aA m0 (I0 [e,g] i))) s)
 (ak .lss e d λd=>ai d
 (qi 2 a e λa=>aE s 2 a λa=>funK TP c [(.agg a),b] (λa b=>qe false 0 true a ah λa=>vM e d a K b) s)
 (vM e d .undef K s))
def NI:aW:=λa b c K s=>qh a λd=>aK [ah,(.int .i64 d)] s (λf=>[f 9,f 10]) λI0 f s m0=>NH a b c (.int .i64 d) (f 9) (f 10) I0 m0 K s
def V7:Nat->List Nat:=anL [(6,[9,10])]
theorem V8:T3 274 NI:=wOK Tryz.func274 V7
def V9:aM:=λa b K s=>boxK 253 a (λa c=>qd 0 a c λa=>wC TP 279 [a,b] (λa b=>K a b) c) s
theorem Wa:T2 275 V9:=wOK Tryz.func275
def NJ:bU:=λa b c d e f I0 m0 K s=>ak .lss f e λe=>ai e
 (qx 1 d f s λd=>funK TP d [] (λd e=>qe true 0 true d ah λg=>ai g
 (oK (aq jp []) λg=>oK (cn e 21 b (.agg g)) λg=>aE g 21 b λh=>K (.tup [ah,(.agg h),d]) g)
 (ak .add f ax λd=>aA m0 (I0 [d] e))) s)
 (qd 2 a s λd=>ak .sub d ax λd=>qf 2 a λe=>oK (wr1 s e d) λd=>qr d c λc=>aE d 21 a λa=>oK (cn d 21 b (.agg a)) λa=>aE a 21 b λb=>K (.tup [c,(.agg b),ah]) a)
def Wc:aM:=λa b K s=>boxK 72 a (λa c=>boxK 64 b (λb d=>newK 64 jp (λe g=>qr g a λh=>wC TP 121 [h] (λh i=>qj h λh=>ai h
 (oK (aq jp []) λh=>qc i 21 e (.agg h) λh=>aE h 21 (.ptr e 0) λj=>K (.tup [ah,(.agg j),ax]) h)
 (newK 3 [ah] (λh j=>oK (wr1 j (.ptr h 0) ah) λj=>oK (aq (repl 3 [.nilFunc]) [(0,1,(.fn (.func 266) [] [b,a])),(1,1,(.fn (.func 268) [] [b])),(2,1,(.fn (.func 269) [] [a,b,(.ptr h 0)]))]) λa=>aD a=true/\newK 290 a (λa k=>qh (.slc a 0 3 (some 3) 1) λl=>aK [ah] k (λf=>[f 22]) λI0 f s m0=>NJ b (.ptr e 0) (.ptr h 0) (.slc a 0 3 (some 3) 1) (.int .i64 l) (f 22) I0 m0 K s) j) i)) g) d) c) s
def We:Nat->List Nat:=anL [(12,[22])]
theorem Wf:T2 265 Wc:=wOK Tryz.func265 We
def NK:aM:=λa b K s=>qd 1 a s λa=>qr s b λb=>aL b 2 s λb=>qe true 0 false a b λa=>wC TP 267 [a,(qz 9)] (λa b=>K a b) s
theorem Wg:T2 266 NK:=wOK Tryz.func266
def NL:aY:=λa K s=>qd 2 a s λa=>ak .geq a (qz 2) λa=>wC TP 267 [a,(qz 20)] (λa b=>K a b) s
theorem Wi:T1 268 NL:=wOK Tryz.func268
def NM:aW:=λa b c K s=>qr s a λa=>aE s 21 b λb=>wC TP 270 [a,(.agg b)] (λa b=>qk a 0 λd=>qk a 1 λa=>oK (wr1 b c d) λb=>wC TP 267 [a,(qz 13)] (λa c=>K a c) b) s
theorem Wj:T3 269 NM:=wOK Tryz.func269
def Wm:aM:=λa b K s=>ai a
 (K ah s)
 (K b s)
theorem Wo:T2 267 Wm:=wOK Tryz.func267
def Wp:aM:=λa b K s=>boxK 64 b (λb c=>qd 1 b c λd=>wC TP 154 [d] (λd e=>qk d 0 λf=>qk d 1 λd=>qj d λd=>ai d
 (K (.tup [ah,bF]) e)
 (qd 1 b e λd=>wC TP 271 [a,d] (λd g=>qk d 0 λh=>qk d 1 λd=>qj d λd=>ai d
 (K (.tup [ah,bF]) g)
 (∃d:Hq,Sub d g/\
 aL a 5 d λa=>oK (getM d a f) λa=>aE d 21 b λb=>wC TP 273 [(.agg b)] (λb f=>wC TP 272 [(retM .nilptr false a),b] (λa b=>qk a 0 λh=>qk a 1 λa=>K (.tup [h,a]) b) (add d f)) (lock g d))) e)) c) s
def Wq:Nat->List Nat:=anL [(3000007,[1]),(2000028,[0,1,2,3,4,5,6]),(2000029,[7]),(2000031,[8,9,10,11,12])]
theorem Wr:T2 270 Wp:=wOK Tryz.func270 Wq
def Ws:aM:=λa b K s=>wC TP 282 [a] (λc d=>wC TP 282 [b] (λe f=>ai c
 (ai e
 (K ah f)
 (K (.int .i64 (-1)) f))
 (ai e
 (K ax f)
 (ak .lss a b λc=>ai c
 (K (.int .i64 (-1)) f)
 (ak .gtr a b λa=>ai a
 (K ax f)
 (K ah f))))) d) s
theorem Wu:T2 279 Ws:=wOK Tryz.func279
def Co:aY:=λa K s=>qe true 0 false a a λa=>K a s
theorem NN:T1 282 Co:=wOK Tryz.func282
def Wv:aY:=λa K s=>boxK 64 a (λa b=>aE b 21 a λa=>wC TP 277 [(.agg a)] (λa c=>wC TP 276 [a,(.int .u64 14695981039346656037),(.fn (.func 278) [] [])] (λa d=>K a d) c) b) s
theorem Ww:T1 273 Wv:=wOK Tryz.func273
def NO:aM:=λa b K s=>oK (cw .u64 b) λb=>ak .xor a b λa=>ak .mul a (.int .u64 1099511628211) λa=>K a s
theorem Wx:T2 278 NO:=wOK Tryz.func278
def Wy:aW:=λa b c K s=>boxK 413 c (λc d=>newK 55 [(.int .u64 0)] (λe f=>oK (wr1 f (.ptr e 0) b) λb=>rngK TP 17 none a [(5,c),(7,(.ptr e 0))] [11] (rfAs 0 (aI Tryz.f276)) (rfBo 0 (aI Tryz.f276)) (λa=>qr a (.ptr e 0) λc=>K c a)
 (λa=>K (.int .u64 0) a)
 (λa c=>cond (α:=Prop) (beq a 0)
 (qr c (.ptr e 0) λa=>K a c)
 (False)) b) d) s
def vN:Nat->List Nat:=anL [(9,[5,7])]
theorem Wz:T3 276 Wy:=wOK Tryz.func276 vN
def NP(l:Nat)(a b c:AV)(E:AExit->Hq->Prop)(s:Hq):Prop:=
 AExit.nrm=.nrm/\dC l (λd=>qr d a λa=>qr d b λe=>funK TP a [e,c] (λa c=>oK (wr1 c b a) λa=>E .nrm a) d) s
theorem WA(l:Nat)(f:Env)(t11:AV)(E:AExit->Hq->Prop)(s:Hq):wpC TP vN Tryz.f276.ntmps (some l) (rfAs 0 (aI Tryz.f276)) (setE f [11] [t11]) (λe env s=>e=.nrm/\dC l (λs=>wpC TP vN Tryz.f276.ntmps (some l) (rfBo 0 (aI Tryz.f276)) env (λe _ s=>E e s) s) s) s=NP l (f 5) (f 7) t11 E s:=by kernel_rfl
theorem WB{l:Nat}{t:Bool}{st:LoopState}{pd:Option Code}{d:Nat}{combine5 x7 t11:AV}{K:KvP}{s:Hq}(hs:s l=some (t,.loop st pd 17 [(5,combine5),(7,x7)] [11] (rfAs 0 (aI Tryz.f276)) (rfBo 0 (aI Tryz.f276)) d))(h:NP l combine5 x7 t11 (λe s=>endK l e K s) s):dL TP l [t11] K s:=
 je vN hs rfl rfl λf hf=>by
 refine(WA l f t11 (λe s=>endK l e K s) s).mpr ?_
 rw[show f 5=combine5 from hf (5,combine5) (by simp)]
 rw[show f 7=x7 from hf (7,x7) (by simp)]
 exact h
def WC:aY:=λa K s=>boxK 64 a (λa b=>K (.fn (.func 280) [] [a]) b) s
theorem WD:T1 277 WC:=wOK Tryz.func277
def Cp:aM:=λa b K s=>qp a b λa=>K (.tup []) s
def Cq:ct:=λa b c d K s=>qp c d λc=>ai c
 (qd 4 b s λb=>oK (cw .u64 b) λb=>wC TP 281 [b,(qz 3),a] (λa b=>Cp c a K b) s)
 (Cp c .undef K s)
def Cr:ct:=λa b c d K s=>qp c d λc=>ai c
 (qd 3 b s λd=>oK (cw .u64 d) λd=>wC TP 281 [d,(qz 2),a] (λd e=>Cq a b c d K e) s)
 (Cq a b c .undef K s)
def NQ:aM:=λa b K s=>qd 0 b s λc=>oK (cw .u64 c) λc=>wC TP 281 [c,(qz 4),a] (λc d=>ai c
 (qd 1 b d λe=>oK (cw .u64 e) λe=>wC TP 281 [e,(qz 4),a] (λe f=>Cr a b c e K f) d)
 (Cr a b c .undef K d)) s
theorem WE:T2 280 NQ:=wOK Tryz.func280
def NR:cj:=λa b c I0 m0 K s=>ak .geq c ah λd=>ai d
 (ak .mul (qz 8) c λd=>oK (dh .shr a d) λa=>oK (cw .u8 a) λa=>funK TP b [a] (λa b=>qj a λa=>ai a
 (K bF b)
 (ak .sub c ax λa=>aA m0 (I0 [a] b))) s)
 (K bT s)
def NS:aW:=λa b c K s=>ak .sub b ax λb=>aK [b] s (λf=>[f 7]) λI0 f s m0=>NR a c (f 7) I0 m0 K s
def WF:Nat->List Nat:=anL [(4,[7])]
theorem WG:T3 281 NS:=wOK Tryz.func281 WF
def NT:bS:=λa b c d I0 m0 K s=>ak .lss d c λc=>ai c
 (qx 1 a d s λa=>qx 1 b d s λb=>qe true 1 false a b λa=>ai a
 (K bF s)
 (ak .add d ax λa=>aA m0 (I0 [a] s)))
 (K bT s)
def NU:aM:=λa b K s=>qh a λc=>qh b λd=>qe true 0 false (.int .i64 c) (.int .i64 d) λc=>ai c
 (K bF s)
 (qh a λc=>aK [ah] s (λf=>[f 13]) λI0 f s m0=>NT a b (.int .i64 c) (f 13) I0 m0 K s)
def WI:Nat->List Nat:=anL [(8,[13])]
theorem WJ:T2 104 NU:=wOK Tryz.func104 WI
def vO:jr:=λa b I1 m1 I0 m0 K s=>ak .add b ax λb=>aA m1 (I1 [a,b] s)
def NV:A8:=λa b c d I1 m1 I0 m0 K s=>qh c λe=>ak .lss d (.int .i64 e) λe=>ai e
 (qx 1 c d s λe=>ak .sub d ax λf=>qx 1 c f s λf=>qe true 0 false e f λe=>ai e
 (qx 1 c d s λc=>qi 1 a b λe=>oK (wr1 s e c) λc=>ak .add b ax λe=>vO e d I1 m1 I0 m0 K c)
 (vO b d I1 m1 I0 m0 K s))
 (oK (cU 1 a (some b) none none) λc=>kD [ah] 1 c (λc c=>oK (cU 1 a none (some b) none) λa=>K a c) s)
def NW:dp:=λa b I0 m0 K s=>qh a λc=>ak .lss b (.int .i64 c) λc=>ai c
 (qx 1 a b s λc=>ak .sub b ax λd=>qx 1 a d s λd=>qe false 0 false c d λc=>ai c
 (oK (cU 1 a (some b) none none) λc=>aK [b,ax] s (λf=>[f 3,f 5]) λI1 f s m1=>NV a (f 3) c (f 5) I1 m1 I0 m0 K s)
 (ak .add b ax λb=>aA m0 (I0 [b] s)))
 (K a s)
def NY:aY:=λa K s=>qh a λb=>ak .lss (.int .i64 b) (qz 2) λb=>ai b
 (K a s)
 (aK [ax] s (λf=>[f 3]) λI0 f s m0=>NW a (f 3) I0 m0 K s)
def WK:Nat->List Nat:=anL [(8,[3]),(18,[3,5])]
theorem WL:T1 117 NY:=wOK Tryz.func117 WK
def NZ:aW:=λa b c K s=>oK (nat? a) λd=>oK (nat? a) λa=>(d<=a/\a<=4294967296)/\newK 270 (repl a [.nilslc]) (λe f=>newK 203 [.nilslc] (λg h=>oK (wr1 h (.ptr g 0) (.slc e 0 d (some a) 1)) λa=>wC TP 133 [b,c] (λb c=>rngK TP 52 none b [(7,(.ptr g 0))] [15,16] (rfAs 0 (aI Tryz.f92)) (rfBo 0 (aI Tryz.f92)) (λb=>qr b (.ptr g 0) λd=>K d b)
 (λb=>K .nilslc b)
 (λb d=>cond (α:=Prop) (beq b 0)
 (qr d (.ptr g 0) λb=>K b d)
 (False)) c) a) f) s
def vP:Nat->List Nat:=anL [(11,[7]),(3000005,[1]),(2000020,[0,1,2,3,4,5,6,7,8,9,10,11,12,13]),(2000021,[14,15]),(2000023,[16,17]),(3000006,[1]),(2000024,[0,1,2,3,4,5,6,7,8,9,10,11,12,13]),(2000025,[14,15]),(2000027,[16,17])]
theorem WM:T3 92 NZ:=wOK Tryz.func92 vP
def N0(l:Nat)(a b c:AV)(E:AExit->Hq->Prop)(s:Hq):Prop:=
 newK 145 [ah,ah,ah] (λd e=>qc e 3 d c λc=>AExit.nrm=.nrm/\dC l (λe=>∃f:Hq,Sub f e/\
 qr f a λg=>qd 0 (.ptr d 0) f λh=>qr f a λi=>qd 0 (.ptr d 0) f λj=>qx 1 i j f λi=>qd 1 (.ptr d 0) f λj=>qd 2 (.ptr d 0) f λk=>oK (aq [ah,ah,ah] [(0,1,b),(1,1,j),(2,1,k)]) λj=>oK (aq (repl 1 [ah,ah,ah]) [(0,3,(.agg j))]) λj=>aD j=true/\newK 272 j (λj k=>appK 272 3 i (.slc j 0 1 (some 1) 3) (λi j=>qi 1 g h λg=>oK (wr1 (add f j) g i) λg=>∃h:Hq,Sub h g/\
 qr h a λi=>qd 1 (.ptr d 0) h λj=>qr h a λa=>qd 1 (.ptr d 0) h λm=>qx 1 a m h λa=>qd 0 (.ptr d 0) h λm=>qd 2 (.ptr d 0) h λd=>oK (aq [ah,ah,ah] [(0,1,b),(1,1,m),(2,1,d)]) λb=>oK (aq (repl 1 [ah,ah,ah]) [(0,3,(.agg b))]) λb=>aD b=true/\newK 272 b (λb d=>appK 272 3 a (.slc b 0 1 (some 1) 3) (λa b=>qi 1 i j λi=>oK (wr1 (add h b) i a) λa=>E .nrm a) d) (lock g h)) k) (lock e f)) c) s
theorem WN(l:Nat)(f:Env)(t15 t16:AV)(E:AExit->Hq->Prop)(s:Hq):wpC TP vP Tryz.f92.ntmps (some l) (rfAs 0 (aI Tryz.f92)) (setE f [15,16] [t15,t16]) (λe env s=>e=.nrm/\dC l (λs=>wpC TP vP Tryz.f92.ntmps (some l) (rfBo 0 (aI Tryz.f92)) env (λe _ s=>E e s) s) s) s=N0 l (f 7) t15 t16 E s:=by kernel_rfl
theorem WO{l:Nat}{t:Bool}{st:LoopState}{pd:Option Code}{d:Nat}{x7 t15 t16:AV}{K:KvP}{s:Hq}(hs:s l=some (t,.loop st pd 52 [(7,x7)] [15,16] (rfAs 0 (aI Tryz.f92)) (rfBo 0 (aI Tryz.f92)) d))(h:N0 l x7 t15 t16 (λe s=>endK l e K s) s):dL TP l [t15,t16] K s:=
 je vP hs rfl rfl λf hf=>by
 refine(WN l f t15 t16 (λe s=>endK l e K s) s).mpr ?_
 rw[show f 7=x7 from hf (7,x7) (by simp)]
 exact h
def vQ:dN:=λa I0 m0 K s=>ak .add a ax λa=>aA m0 (I0 [a] s)
def N1:bM:=λa b c d e I0 m0 K s=>ak .lss e d λd=>ai d
 (qi 2 c e λc=>aE s 2 c λc=>newK 285 [bu,.nilslc] (λd f=>qc f 2 d (.agg c) λc=>aL a 4 c λf=>aE c 2 (.ptr d 0) λg=>oK (aq (repl 1 [bu,.nilslc]) [(0,2,(.agg g))]) λg=>aD g=true/\
 newK 253 g (λg h=>appK 253 2 f (.slc g 0 1 (some 1) 2) (λf g=>qs a 4 g f λf=>qd 0 (.ptr d 0) f λg=>wC TP 154 [g] (λg i=>qk g 0 λj=>qk g 1 λg=>ai g
 (oK (cN 32 1 b j) λg=>oK (wr1 i g bT) λg=>qd 1 (.ptr d 0) g λd=>wC TP 155 [a,j,d] (λd d=>vQ e I0 m0 K d) g)
 (vQ e I0 m0 K i)) f) h) c) s)
 (aL a 5 s λa=>fP a (λa c=>oK (nU c a) λd=>∃I2:LvP,I2 [] [] (hdel c d.1)/\
 ∀(n_67:List Nat) (f_68:Env) (S69:Hq),I2 n_67 [] S69->S69 d.1=none->gQ S69 d.2.1 d.2.2.2.1 d.2.2.2.2/\
 (∀e_66∈d.2.2.2.2,hasN e_66.born n_67=false->
 ai bT
 (oK (entD (hset S69 d.1 (true,.iter d.2.1 d.2.2.1 (n_67 ++ [e_66.born]) d.2.2.2.1)) a) λc=>qk c 0 λe=>qk c 1 λc=>oK (cN 32 1 b e) λe=>oK (rd1 (hset S69 d.1 (true,.iter d.2.1 d.2.2.1 (n_67 ++ [e_66.born]) d.2.2.2.1)) e) λe=>qj e λe=>ai e
 (wC TP 156 [c,.nilslc] (λc c=>I2 (n_67 ++ [e_66.born]) [] (hdel c d.1)) (hset S69 d.1 (true,.iter d.2.1 d.2.2.1 (n_67 ++ [e_66.born]) d.2.2.2.1)))
 (I2 (n_67 ++ [e_66.born]) [] (hdel (hset S69 d.1 (true,.iter d.2.1 d.2.2.1 (n_67 ++ [e_66.born]) d.2.2.2.1)) d.1)))
 (K ah (hdel (hset S69 d.1 (true,.iter d.2.1 d.2.2.1 (n_67 ++ [e_66.born]) d.2.2.2.1)) d.1)))/\
 ((∀e_66∈d.2.2.2.2,hasN e_66.born n_67=true)->
 ai bF
 (oK (entD S69 a) λa=>qk a 0 λc=>qk a 1 λa=>oK (cN 32 1 b c) λb=>qr S69 b λb=>qj b λb=>ai b
 (wC TP 156 [a,.nilslc] (λa a=>False) S69)
 (False))
 (K ah S69))) s)
def WP:aM:=λa b K s=>wC TP 121 [a] (λc d=>qj c λc=>ai c
 (K ax d)
 (qh b λc=>aL a 3 d λe=>qh e λe=>qe true 0 false (.int .i64 c) (.int .i64 e) λc=>ai c
 (K (qz 2) d)
 (qs a 4 d .nilslc λc=>newK 282 [bF,bF,bF,bF,bF,bF,bF,bF,bF,bF,bF,bF,bF,bF,bF,bF,bF,bF,bF,bF,bF,bF,bF,bF,bF,bF,bF,bF,bF,bF,bF,bF] (λd e=>aL a 0 e λg=>aL a 3 e λh=>aL a 1 e λi=>wC TP 153 [g,h,b,i] (λb g=>qh b λh=>aK [ah] g (λf=>[f 41]) λI0 f s m0=>N1 a (.ptr d 0) b (.int .i64 h) (f 41) I0 m0 K s) e) c))) s
def WQ:Nat->List Nat:=anL [(16,[41]),(3000010,[0]),(2000040,[0,1,2,3,4,5]),(2000042,[6]),(2000043,[7,8,9,10]),(34,[])]
theorem WS:T2 118 WP:=wOK Tryz.func118 WQ
def Cs:aM:=λa b K s=>qp a b λa=>K a s
def Ct:aW:=λa b c K s=>qp b c λb=>ai b
 (aL a 8 s λa=>qe true 3 true a .nilptr λa=>Cs b a K s)
 (Cs b .undef K s)
def N2:aY:=λa K s=>qe true 3 true a .nilptr λb=>ai b
 (aL a 7 s λc=>qe true 3 true c .nilptr λc=>Ct a b c K s)
 (Ct a b .undef K s)
theorem WT:T1 41 N2:=wOK Tryz.func41
def Cu:aW:=λa b c K s=>qt b c λb=>qp a b λa=>K a s
def vR:ct:=λa b c d K s=>qp c d λc=>ai c
 (aL a 4 s λd=>qw 3 d b 0 s λd=>aL a 0 s λe=>qe false 0 false d e λd=>ai d
 (Cu c d .undef K s)
 (aL a 4 s λe=>qw 3 e b 1 s λb=>aL a 0 s λa=>qe false 0 false b a λa=>Cu c d a K s))
 (qp c .undef λa=>K a s)
def N3:aM:=λa b K s=>ak .geq b ah λc=>ai c
 (aL a 4 s λd=>qh d λd=>ak .lss b (.int .i64 d) λd=>vR a b c d K s)
 (vR a b c .undef K s)
theorem WU:T2 49 N3:=wOK Tryz.func49
def Cv:aY:=λa K s=>aL a 2 s λb=>aL a 3 s λa=>ak .add b a λa=>K a s
theorem N4:T1 65 Cv:=wOK Tryz.func65
def WV:aY:=λa K s=>boxK 22 a (λa b=>K (.fn (.func 96) [] [a]) b) s
theorem WW:T1 44 WV:=wOK Tryz.func44
def N5:bM:=λa b c d e I0 m0 K s=>ak .lss e d λd=>ai d
 (qx 1 c e s λc=>qr s b λb=>aL b 6 s λb=>oK (getM s b c) λb=>funK TP a [c,(retM .nilptr false b)] (λa b=>qj a λa=>ai a
 (K (.tup []) b)
 (ak .add e ax λa=>aA m0 (I0 [a] b))) s)
 (K (.tup []) s)
def N6:aM:=λa b K s=>qr s b λc=>aL c 6 s λc=>wC TP 43 [c] (λc d=>wC TP 42 [c] (λc e=>qh c λg=>aK [ah] e (λf=>[f 12]) λI0 f s m0=>N5 a b c (.int .i64 g) (f 12) I0 m0 K s) d) s
def WX:Nat->List Nat:=anL [(2,[12])]
theorem WY:T2 96 N6:=wOK Tryz.func96 WX
def WZ:aY:=λa K s=>newK 36 [.nilslc] (λb c=>rngK TP 20 none a [(3,(.ptr b 0))] [7,8] (rfAs 0 (aI Tryz.f52)) (rfBo 0 (aI Tryz.f52)) (λa=>qr a (.ptr b 0) λd=>K d a)
 (λa=>K .nilslc a)
 (λa d=>cond (α:=Prop) (beq a 0)
 (qr d (.ptr b 0) λa=>K a d)
 (False)) c) s
def vT:Nat->List Nat:=anL [(11,[3])]
theorem W1:T1 52 WZ:=wOK Tryz.func52 vT
def N7(l:Nat)(a b c:AV)(E:AExit->Hq->Prop)(s:Hq):Prop:=
 newK 34 [ah,ah,.nilslc] (λd e=>qc e 3 d c λc=>AExit.nrm=.nrm/\dC l (λe=>qd 2 (.ptr d 0) e λf=>wC TP 105 [f] (λf g=>qf 2 (.ptr d 0) λh=>oK (wr1 g h f) λf=>qr f a λg=>aE f 3 (.ptr d 0) λd=>oK (aq [ah,ah,ah,.nilslc] [(0,1,b),(1,3,(.agg d))]) λb=>oK (aq (repl 1 [ah,ah,ah,.nilslc]) [(0,4,(.agg b))]) λb=>aD b=true/\newK 190 b (λb d=>appK 190 4 g (.slc b 0 1 (some 1) 4) (λb g=>oK (wr1 g a b) λa=>E .nrm a) d) f) e) c) s
theorem W2(l:Nat)(f:Env)(t7 t8:AV)(E:AExit->Hq->Prop)(s:Hq):wpC TP vT Tryz.f52.ntmps (some l) (rfAs 0 (aI Tryz.f52)) (setE f [7,8] [t7,t8]) (λe env s=>e=.nrm/\dC l (λs=>wpC TP vT Tryz.f52.ntmps (some l) (rfBo 0 (aI Tryz.f52)) env (λe _ s=>E e s) s) s) s=N7 l (f 3) t7 t8 E s:=by kernel_rfl
theorem W3{l:Nat}{t:Bool}{st:LoopState}{pd:Option Code}{d:Nat}{result3 t7 t8:AV}{K:KvP}{s:Hq}(hs:s l=some (t,.loop st pd 20 [(3,result3)] [7,8] (rfAs 0 (aI Tryz.f52)) (rfBo 0 (aI Tryz.f52)) d))(h:N7 l result3 t7 t8 (λe s=>endK l e K s) s):dL TP l [t7,t8] K s:=
 je vT hs rfl rfl λf hf=>by
 refine(W2 l f t7 t8 (λe s=>endK l e K s) s).mpr ?_
 rw[show f 3=result3 from hf (3,result3) (by simp)]
 exact h
def W4:aM:=λa b K s=>boxK 22 a (λa c=>boxK 133 b (λb d=>K (.fn (.func 106) [] [a,b]) d) c) s
theorem W5:T2 53 W4:=wOK Tryz.func53
def W6:aW:=λa b c K s=>boxK 224 a (λa d=>qr d b λb=>wC TP 44 [b] (λb e=>rngK TP 29 none b [(2,c),(3,a)] [10,11] (rfAs 0 (aI Tryz.f106)) (rfBo 0 (aI Tryz.f106)) (λa=>K (.tup []) a)
 (λa=>K (.tup []) a)
 (λa b=>cond (α:=Prop) (beq a 0)
 (K (.tup []) b)
 (False)) e) d) s
def vU:Nat->List Nat:=anL [(9,[2,3]),(12,[19])]
theorem W7:T3 106 W6:=wOK Tryz.func106 vU
def N8(a b c d e:AV)(I0:IvP)(m0:Nat)(E:AExit->Hq->Prop)(s:Hq):Prop:=
 ak .lss e d λd=>ai d
 (qi 3 c e λc=>aE s 3 c λc=>newK 34 [ah,ah,.nilslc] (λd f=>qc f 3 d (.agg c) λc=>qr c a λa=>aE c 3 (.ptr d 0) λd=>funK TP a [b,(.agg d)] (λa b=>qj a λa=>ai a
 (E .ret b)
 (ak .add e ax λa=>aA m0 (I0 [a] b))) c) s)
 (E .nrm s)
def Cw(l:Nat)(a b c d:AV)(E:AExit->Hq->Prop)(s:Hq):Prop:=
 AExit.nrm=.nrm/\dC l (λe=>wC TP 45 [d] (λd g=>qj d λd=>ai d
 (E .nrm g)
 (qr g a λa=>funK TP a [c] (λa d=>qh a λh=>aK [ah] d (λf=>[f 19]) λI0 f s m0=>N8 b c a (.int .i64 h) (f 19) I0 m0 E s) g)) e) s
theorem W8(l:Nat)(f:Env)(t10 t11:AV)(E:AExit->Hq->Prop)(s:Hq):wpC TP vU Tryz.f106.ntmps (some l) (rfAs 0 (aI Tryz.f106)) (setE f [10,11] [t10,t11]) (λe env s=>e=.nrm/\dC l (λs=>wpC TP vU Tryz.f106.ntmps (some l) (rfBo 0 (aI Tryz.f106)) env (λe _ s=>E e s) s) s) s=Cw l (f 2) (f 3) t10 t11 E s:=by kernel_rfl
theorem W9{l:Nat}{t:Bool}{st:LoopState}{pd:Option Code}{d:Nat}{t2 yield3 t10 t11:AV}{K:KvP}{s:Hq}(hs:s l=some (t,.loop st pd 29 [(2,t2),(3,yield3)] [10,11] (rfAs 0 (aI Tryz.f106)) (rfBo 0 (aI Tryz.f106)) d))(h:Cw l t2 yield3 t10 t11 (λe s=>endK l e K s) s):dL TP l [t10,t11] K s:=
 je vU hs rfl rfl λf hf=>by
 refine(W8 l f t10 t11 (λe s=>endK l e K s) s).mpr ?_
 rw[show f 2=t2 from hf (2,t2) (by simp)]
 rw[show f 3=yield3 from hf (3,yield3) (by simp)]
 exact h
def Cx:iG:=λK s=>K .nilslc s
def o6:aW:=λa b c K s=>ai c
 (qr s b λb=>aL b 7 s λb=>qd 0 a s λa=>wC TP 55 [b,a] (λa b=>qk a 0 λc=>qk a 1 λa=>newK 34 [ah,ah,.nilslc] (λd e=>qc e 3 d c λc=>ai a
 (aE c 3 (.ptr d 0) λa=>oK (aq (repl 1 [ah,ah,.nilslc]) [(0,3,(.agg a))]) λa=>aD a=true/\newK 34 a (λa d=>K (.slc a 0 1 (some 1) 3) d) c)
 (Cx  K c)) b) s)
 (Cx  K s)
def vV:ct:=λa b c d K s=>qp c d λc=>o6 a b c K s
def vW:gD:=λa b c d e f g K s=>qp f g λf=>ai f
 (aE s 3 d λf=>oK (aq (repl 1 [ah,ah,.nilslc]) [(0,3,(.agg f))]) λf=>aD f=true/\newK 34 f (λf g=>K (.slc f 0 1 (some 1) 3) g) s)
 (qr s b λf=>qe false 0 true f (qz 3) λf=>ai f
 (o6 d e f K s)
 (qr s b λb=>qe false 0 true b (qz 2) λb=>ai b
 (qr s c λc=>qe false 0 false a c λa=>vV d e b a K s)
 (vV d e b .undef K s)))
def N9:cX:=λa b c d e K s=>qr s b λf=>qe false 0 true f ax λf=>ai f
 (qr s c λg=>qe true 0 false a g λg=>vW a b c d e f g K s)
 (vW a b c d e f .undef K s)
def Xa:Nat->List Nat:=anL [(3000005,[0]),(2000020,[0,1,2,3,4,5]),(2000021,[6,7,8,9]),(2000022,[10]),(2000023,[11,12])]
theorem Xb:T5 54 N9:=wOK Tryz.func54 Xa
def vX:cX:=λa b c d e K s=>qt d e λd=>ai d
 (qr s a λa=>aL a 7 s λa=>wC TP 60 [a] (λa d=>K a d) s)
 (qr s b λa=>ai a
 (aE s 3 c λa=>oK (aq (repl 1 [ah,ah,.nilslc]) [(0,3,(.agg a))]) λa=>aD a=true/\newK 34 a (λa b=>K (.slc a 0 1 (some 1) 3) b) s)
 (K .nilslc s))
def Oa:gC:=λa b c d e f K s=>oK (cN 128 1 b a) λa=>qr s a λa=>ai a
 (vX d e f a .undef K s)
 (qr s c λb=>ak .rem b (qz 8) λb=>qe false 0 true b ah λb=>vX d e f a b K s)
theorem Xc:T6 59 Oa:=wOK Tryz.func59
def Ob:gX:=λa b c d e f I1 m1 I0 m0 K s=>ak .lss f e λe=>ai e
 (qx 1 d f s λd=>qx 1 a d s λe=>qd 0 b s λb=>appK 3 1 e b (λb e=>qi 1 a d λa=>oK (wr1 e a b) λa=>ak .add f ax λb=>aA m1 (I1 [b] a)) s)
 (ak .add c ax λa=>aA m0 (I0 [a] s))
def Cy:bS:=λa b c d I2 m2 K s=>ak .lss d c λc=>ai c
 (qx 1 b d s λb=>wC TP 94 [b] (λc c=>wC TP 117 [b] (λb e=>qi 1 a d λf=>oK (wr1 e f b) λb=>ak .add d ax λd=>aA m2 (I2 [d] b)) c) s)
 (K a s)
def Oc:bS:=λa b c d I0 m0 K s=>ak .lss d c λc=>ai c
 (qi 2 b d λb=>aE s 2 b λb=>newK 163 [.nilslc,.nilslc] (λc e=>qc e 2 c (.agg b) λb=>qd 1 (.ptr c 0) b λe=>qh e λg=>aK [ah] b (λf=>[f 24]) λI1 f s m1=>Ob a (.ptr c 0) d e (.int .i64 g) (f 24) I1 m1 I0 m0 K s) s)
 (qh a λb=>aK [ah] s (λf=>[f 42]) λI2 f s m2=>Cy a a (.int .i64 b) (f 42) I2 m2 K s)
def Xd:aY:=λa K s=>boxK 52 a (λa b=>qd 4 a b λc=>qh c λc=>oK (nat? (.int .i64 c)) λd=>oK (nat? (.int .i64 c)) λc=>(d<=c/\c<=4294967296)/\newK 25 (repl c [.nilslc]) (λe g=>qd 5 a g λa=>qh a λh=>aK [ah] g (λf=>[f 17]) λI0 f s m0=>Oc (.slc e 0 d (some c) 1) a (.int .i64 h) (f 17) I0 m0 K s) b) s
def Xe:Nat->List Nat:=anL [(6,[17]),(12,[24]),(24,[42])]
theorem Xf:T1 63 Xd:=wOK Tryz.func63 Xe
def Xg:aY:=λa K s=>wC TP 41 [a] (λb c=>qj b λb=>ai b
 (K .nilslc c)
 (aL a 6 c λa=>wC TP 43 [a] (λa b=>wC TP 42 [a] (λa d=>K a d) b) c)) s
theorem Xh:T1 10 Xg:=wOK Tryz.func10
def Xi:aY:=λa K s=>wC TP 41 [a] (λb c=>qj b λb=>ai b
 (K .nilslc c)
 (newK 25 [.nilslc] (λb d=>wC TP 44 [a] (λa e=>rngK TP 20 none a [(3,(.ptr b 0))] [11,12] (rfAs 0 (aI Tryz.f11)) (rfBo 0 (aI Tryz.f11)) (λa=>qr a (.ptr b 0) λf=>K f a)
 (λa=>K .nilslc a)
 (λa f=>cond (α:=Prop) (beq a 0)
 (qr f (.ptr b 0) λa=>K a f)
 (False)) e) d) c)) s
def vY:Nat->List Nat:=anL [(15,[3])]
theorem Xj:T1 11 Xi:=wOK Tryz.func11 vY
def Cz(l:Nat)(a b c:AV)(E:AExit->Hq->Prop)(s:Hq):Prop:=
 AExit.nrm=.nrm/\dC l (λd=>wC TP 45 [c] (λc e=>ai c
 (qr e a λc=>oK (aq (repl 1 [ah]) [(0,1,b)]) λb=>aD b=true/\newK 3 b (λb f=>appK 3 1 c (.slc b 0 1 (some 1) 1) (λb c=>oK (wr1 c a b) λa=>E .nrm a) f) e)
 (E .nrm e)) d) s
theorem Xk(l:Nat)(f:Env)(t11 t12:AV)(E:AExit->Hq->Prop)(s:Hq):wpC TP vY Tryz.f11.ntmps (some l) (rfAs 0 (aI Tryz.f11)) (setE f [11,12] [t11,t12]) (λe env s=>e=.nrm/\dC l (λs=>wpC TP vY Tryz.f11.ntmps (some l) (rfBo 0 (aI Tryz.f11)) env (λe _ s=>E e s) s) s) s=Cz l (f 3) t11 t12 E s:=by kernel_rfl
theorem Xl{l:Nat}{t:Bool}{st:LoopState}{pd:Option Code}{d:Nat}{result3 t11 t12:AV}{K:KvP}{s:Hq}(hs:s l=some (t,.loop st pd 20 [(3,result3)] [11,12] (rfAs 0 (aI Tryz.f11)) (rfBo 0 (aI Tryz.f11)) d))(h:Cz l result3 t11 t12 (λe s=>endK l e K s) s):dL TP l [t11,t12] K s:=
 je vY hs rfl rfl λf hf=>by
 refine(Xk l f t11 t12 (λe s=>endK l e K s) s).mpr ?_
 rw[show f 3=result3 from hf (3,result3) (by simp)]
 exact h
def vZ:cX:=λa b c d e K s=>qp d e λd=>ai d
 (K (.tup [.nilslc,bF,(qz 2)]) s)
 (∃d:Hq,Sub d s/\
 qd 1 c d λe=>aE d 21 c λc=>wC TP 71 [a,e] (λa e=>cz TP a "leafmesh/transit.forward" [(.agg c),b] (λa b=>qk a 0 λc=>qk a 1 λf=>qk a 2 λa=>K (.tup [c,f,a]) b) (add d e)) (lock s d))
def Xm:aW:=λa b c K s=>boxK 64 b (λb d=>wC TP 41 [a] (λe f=>qj e λe=>ai e
 (K (.tup [.nilslc,bF,ax]) f)
 (qe true 0 true c (.int .i64 (-1)) λe=>ai e
 (bX a 0 λg=>wC TP 49 [g,c] (λg h=>qj g λg=>vZ a c b e g K h) f)
 (vZ a c b e .undef K f))) d) s
def Xn:Nat->List Nat:=anL [(3000005,[1]),(2000020,[0,1,2,4,5]),(2000021,[3]),(2000023,[6,7,8,9,10,11,12])]
theorem Xo:T3 23 Xm:=wOK Tryz.func23 Xn
def Od:bM:=λa b c d e I0 m0 K s=>ak .lss e d λd=>ai d
 (qx 1 c e s λc=>wC TP 14 [e] (λd f=>qe false 0 false d b λb=>ai b
 (oK (aq [.nilptr,.nilslc] [(0,1,a),(1,1,c)]) λb=>K (.ifc 248 (.agg b)) f)
 (ak .add e ax λb=>aA m0 (I0 [b] f))) s)
 (oK (aq [.nilptr] [(0,1,a)]) λa=>K (.ifc 250 (.agg a)) s)
def Oe:aM:=λa b K s=>bX a 0 λc=>qd 5 c s λc=>qh c λd=>aK [ah] s (λf=>[f 13]) λI0 f s m0=>Od a b c (.int .i64 d) (f 13) I0 m0 K s
def Xp:Nat->List Nat:=anL [(4,[13])]
theorem Xq:T2 71 Oe:=wOK Tryz.func71 Xp
def Xr:aW:=λa b c K s=>boxK 250 a (λa c=>boxK 64 b (λb d=>qd 1 b d λe=>qd 0 a d λf=>bX f 0 λf=>qd 1 f d λf=>qe false 0 false e f λe=>ai e
 (K (.tup [.nilslc,bT,ah]) d)
 (qd 0 a d λa=>aL a 8 d λa=>aE d 21 b λb=>wC TP 265 [a,(.agg b)] (λa b=>qk a 0 λe=>qk a 1 λf=>qk a 2 λa=>newK 64 jp (λg h=>qc h 21 g f λf=>qe true 0 true a ah λh=>ai h
 (K (.tup [.nilslc,bF,a]) f)
 (aE f 21 (.ptr g 0) λa=>oK (aq kW [(0,1,e),(1,21,(.agg a))]) λa=>oK (aq (repl 1 kW) [(0,22,(.agg a))]) λa=>aD a=true/\newK 121 a (λa e=>K (.tup [(.slc a 0 1 (some 1) 22),bF,ah]) e) f)) b) d)) c) s
def Xs:Nat->List Nat:=anL [(3000003,[0]),(2000012,[0,1,2,3,4,5]),(2000013,[6,7,8,9,10]),(2000014,[11]),(2000015,[12,13,14])]
theorem Xt:T3 264 Xr:=wOK Tryz.func264 Xs
def CA:aW:=λa b c K s=>qt b c λb=>ai b
 (K bu s)
 (oK (cw .u32 a) λa=>ak .add (.int .u32 4009754625) a λa=>K a s)
def Of:aY:=λa K s=>ak .lss a ah λb=>ai b
 (CA a b .undef K s)
 (ak .geq a (qz 32) λc=>CA a b c K s)
theorem Xu:T1 14 Of:=wOK Tryz.func14
def Og:aM:=λa b K s=>qs a 11 s b λc=>aL a 8 c λd=>wC TP 118 [d,b] (λd d=>∃e:Hq,Sub e d/\
 bX a 0 λf=>bX a 0 λg=>qd 4 g e λg=>bX a 0 λh=>qd 0 h e λh=>wC TP 65 [f] (λf i=>wC TP 36 [f,g,b,h] (λb f=>qs a 12 f b λa=>K (.tup []) a) (add e i)) (lock d e)) c
def Xv:Nat->List Nat:=anL [(3000002,[1]),(2000008,[0,1,2,3,5,6,7,8,9,10,11,12,13,14,15]),(2000009,[4]),(2000011,[16,17,18,19])]
theorem Xw:T2 68 Og:=wOK Tryz.func68 Xv
def Oh:aY:=λa K s=>aL a 7 s λb=>bX a 0 λc=>qd 4 c s λc=>wC TP 69 [b,c] (λb c=>aL a 11 c λd=>wC TP 104 [b,d] (λd e=>qj d λd=>ai d
 (wC TP 68 [a,b] (λa a=>K (.tup []) a) e)
 (K (.tup []) e)) c) s
theorem Xx:T1 51 Oh:=wOK Tryz.func51
def o7:bM:=λa b c d e I1 m1 K s=>qp d e λd=>ai d
 (K (.tup [.nilslc,(qz 10)]) s)
 (ak .add c ax λc=>aA m1 (I1 [a,b,c] s))
def CB:cX:=λa b c d e K s=>qr s a λf=>wC TP 51 [f] (λf f=>qr f a λg=>wC TP 53 [g,(.fn (.func 59) [] [c,b,a,e,d])] (λa b=>wC TP 52 [a] (λa c=>K (.tup [a,ah]) c) b) f) s
def Oi:cX:=λa b c d e K s=>qr s a λf=>wC TP 51 [f] (λf f=>qr f a λg=>wC TP 53 [g,(.fn (.func 59) [] [c,b,a,e,d])] (λa b=>wC TP 52 [a] (λa c=>K (.tup [a,ah]) c) b) f) s
def lB:gD:=λa b c d e f g K s=>qp f g λf=>ai f
 (K (.tup [.nilslc,(qz 20)]) s)
 (∃f:Hq,Sub f s/\
 qr f a λg=>qr f a λh=>qr f b λi=>qs g 9 (lock s f) bT λg=>qs h 10 (add f g) i λf=>newK 134 (replicate 128 bF) (λg h=>qr h a λi=>wC TP 44 [i] (λi j=>rngK TP 116 none i [(4,b),(5,c),(10,(.ptr g 0))] [75,76] (rfAs 0 (aI Tryz.f18)) (rfBo 0 (aI Tryz.f18)) (λc=>∃i:Hq,Sub i c/\
 qr i a λk=>aL k 7 i λk=>qr i a λl=>wC TP 11 [l] (λl m=>wC TP 58 [k,l] (λk l=>qk k 0 λn=>qk k 1 λo=>qk k 2 λk=>newK 34 [ah,ah,.nilslc] (λp q=>newK 4 [bF] (λr t=>qc t 3 p n λn=>oK (wr1 n (.ptr r 0) o) λn=>qe true 0 true k ah λk=>ai k
 (oK (wr1 n (.ptr r 0) bF) λk=>CB a b (.ptr g 0) (.ptr p 0) (.ptr r 0) K k)
 (CB a b (.ptr g 0) (.ptr p 0) (.ptr r 0) K n)) q) (add i l)) m) (lock c i))
 (λc=>K (.tup [d,e]) c)
 (λc d=>cond (α:=Prop) (beq c 2)
 (∃c:Hq,Sub c d/\
 qr c a λe=>aL e 7 c λe=>qr c a λi=>wC TP 11 [i] (λi k=>wC TP 58 [e,i] (λe i=>qk e 0 λl=>qk e 1 λm=>qk e 2 λe=>newK 34 [ah,ah,.nilslc] (λn o=>newK 4 [bF] (λp q=>qc q 3 n l λl=>oK (wr1 l (.ptr p 0) m) λl=>qe true 0 true e ah λe=>ai e
 (oK (wr1 l (.ptr p 0) bF) λe=>Oi a b (.ptr g 0) (.ptr n 0) (.ptr p 0) K e)
 (Oi a b (.ptr g 0) (.ptr n 0) (.ptr p 0) K l)) o) (add c i)) k) (lock d c))
 (False)) j) h) f)
def CC:cV:=λa b c d e f g h I1 m1 K s=>ak .lss h g λg=>ai g
 (qx 1 f h s λf=>qr s a λg=>bX g 0 λg=>wC TP 49 [g,f] (λg i=>qj g λg=>ai g
 (K (.tup [.nilslc,(qz 2)]) i)
 (ak .gtr h ah λg=>ai g
 (qr i c λj=>ak .sub h ax λk=>qx 1 j k i λj=>ak .leq f j λf=>o7 d e h g f I1 m1 K i)
 (o7 d e h g .undef I1 m1 K i))) s)
 (qr s a λf=>aL f 9 s λf=>ai f
 (qr s b λg=>qr s a λh=>aL h 10 s λh=>ak .leq g h λg=>lB a b c d e f g K s)
 (lB a b c d e f .undef K s))
def v8:gD:=λa b c d e g h K s=>qt g h λg=>ai g
 (K (.tup [.nilslc,(qz 2)]) s)
 (qr s c λg=>qh g λh=>aK [d,e,ah] s (λf=>[f 6,f 7,f 31]) λI1 f s m1=>CC a b c (f 6) (f 7) g (.int .i64 h) (f 31) I1 m1 K s)
def Xy:aW:=λa b c K s=>boxK 22 a (λa d=>boxK 3 b (λb e=>boxK 25 c (λc f=>qr f a λg=>wC TP 41 [g] (λg h=>qj g λg=>ai g
 (K (.tup [.nilslc,ax]) h)
 (qr h b λg=>ak .lss g ah λg=>ai g
 (v8 a b c .nilslc ah g .undef K h)
 (qr h b λi=>ak .gtr i (qz 1099511627776) λi=>v8 a b c .nilslc ah g i K h))) f) e) d) s
def wd:Nat->List Nat:=anL [(12,[6,7,31]),(3000015,[1]),(2000060,[0,1,2,3,4]),(2000061,[5]),(2000063,[6,7,8]),(41,[4,5,10]),(3000023,[1]),(2000092,[0,1,2,3,4]),(2000093,[5,6,7,8,9,10]),(2000094,[11,12]),(2000095,[13,14,15])]
theorem Oj:T3 18 Xy:=wOK Tryz.func18 wd
def we(a b c d:AV)(E:AExit->Hq->Prop)(s:Hq):Prop:=
 qp c d λc=>oK (cN 128 1 a b) λa=>oK (wr1 s a c) λa=>E .nrm a
def Ok(l:Nat)(a b c d e:AV)(E:AExit->Hq->Prop)(s:Hq):Prop:=
 AExit.nrm=.nrm/\dC l (λf=>qr f b λb=>wC TP 56 [b,d] (λb g=>qk b 0 λh=>qk b 1 λb=>qr g a λa=>wC TP 57 [e,a,b] (λa b=>qk a 0 λh=>qk a 1 λa=>ai h
 (wC TP 45 [e] (λa e=>we c d h a E e) b)
 (we c d h .undef E b)) g) f) s
theorem Xz(l:Nat)(f:Env)(t75 t76:AV)(E:AExit->Hq->Prop)(s:Hq):wpC TP wd Tryz.f18.ntmps (some l) (rfAs 0 (aI Tryz.f18)) (setE f [75,76] [t75,t76]) (λe env s=>e=.nrm/\dC l (λs=>wpC TP wd Tryz.f18.ntmps (some l) (rfBo 0 (aI Tryz.f18)) env (λe _ s=>E e s) s) s) s=Ok l (f 4) (f 5) (f 10) t75 t76 E s:=by kernel_rfl
theorem XA{l:Nat}{t:Bool}{st:LoopState}{pd:Option Code}{d:Nat}{x4 heard5 x10 t75 t76:AV}{K:KvP}{s:Hq}(hs:s l=some (t,.loop st pd 116 [(4,x4),(5,heard5),(10,x10)] [75,76] (rfAs 0 (aI Tryz.f18)) (rfBo 0 (aI Tryz.f18)) d))(h:Ok l x4 heard5 x10 t75 t76 (λe s=>endK l e K s) s):dL TP l [t75,t76] K s:=
 je wd hs rfl rfl λf hf=>by
 refine(Xz l f t75 t76 (λe s=>endK l e K s) s).mpr ?_
 rw[show f 4=x4 from hf (4,x4) (by simp)]
 rw[show f 5=heard5 from hf (5,heard5) (by simp)]
 rw[show f 10=x10 from hf (10,x10) (by simp)]
 exact h
def XB:aW:=λa b c K s=>boxK 22 a (λa d=>boxK 3 b (λb e=>boxK 34 c (λc f=>qr f a λg=>wC TP 41 [g] (λg h=>qj g λg=>ai g
 (K (.tup [.nilslc,ax]) h)
 (qr h a λg=>bX g 0 λg=>qr h b λi=>wC TP 49 [g,i] (λg i=>qj g λg=>ai g
 (K (.tup [.nilslc,(qz 2)]) i)
 (qr i a λg=>aL g 7 i λg=>aE i 3 c λj=>wC TP 50 [g,(.agg j)] (λg j=>qk g 0 λk=>qk g 1 λg=>newK 3 [ah] (λl m=>oK (wr1 m (.ptr l 0) k) λk=>qe true 0 true g ah λm=>ai m
 (K (.tup [.nilslc,g]) k)
 (qr k a λg=>wC TP 51 [g] (λg g=>qr g a λm=>wC TP 53 [m,(.fn (.func 54) [] [(.ptr l 0),b,c,a])] (λa b=>wC TP 52 [a] (λa c=>K (.tup [a,ah]) c) b) g) k)) j) i)) h)) f) e) d) s
def XC:Nat->List Nat:=anL [(3000005,[0]),(2000020,[0,1,2,3,4]),(2000021,[5,6,7,8]),(2000022,[9]),(2000023,[10,11])]
theorem Ol:T3 17 XB:=wOK Tryz.func17 XC
def wg:dN:=λa I1 m1 K s=>ak .add a ax λa=>aA m1 (I1 [a] s)
def lC:bS:=λa b c d I1 m1 K s=>ak .lss d c λc=>ai c
 (bX b 0 λc=>wC TP 49 [c,d] (λc e=>qj c λc=>ai c
 (wg d I1 m1 K e)
 (∃c:Hq,Sub c e/\
 aL b 6 c λf=>qf 13 a λa=>qd 0 a c λa=>wC TP 67 [a] (λa g=>qk a 0 λh=>qk a 1 λa=>oK (putM (add c g) f d h) λf=>qe true 0 true a ah λg=>ai g
 (K (.tup [.nilptr,a]) f)
 (wg d I1 m1 K f)) (lock e c))) s)
 (aL b 7 s λa=>bX b 0 λc=>qd 4 c s λc=>wC TP 69 [a,c] (λa c=>wC TP 68 [b,a] (λa a=>K (.tup [b,ah]) a) c) s)
def CD:ct:=λa b c d K s=>qt c d λc=>ai c
 (K (.tup [.nilptr,(qz 2)]) s)
 (mapK (λc d=>oK (aq [ah,bu,ah,ah,.nilslc,.nilslc,.nilmap,.nilptr,.nilptr,bF,ah,.nilslc,.nilslc] [(6,1,c)]) λc=>boxK 75 (.agg c) (λc e=>∃g:Hq,Sub g e/\
 qd 0 b g λh=>qd 1 b g λi=>qd 2 b g λj=>aE g 19 b λk=>wC TP 62 [j] (λj l=>wC TP 63 [(.agg k)] (λk m=>oK (aq [ah,bu,ah,ah,.nilslc,.nilslc] [(0,1,a),(2,1,h),(3,1,i),(4,1,j),(5,1,k)]) λh=>bX c 0 λi=>oK (cn (add g m) 6 i (.agg h)) λh=>wC TP 47 [a] (λi j=>qk i 0 λk=>qk i 1 λi=>bX c 0 λi=>qf 1 i λi=>oK (wr1 j i k) λi=>bX c 0 λj=>wC TP 65 [j] (λj k=>wC TP 64 [j,a] (λj m=>qk j 0 λn=>qk j 1 λj=>qs c 7 m n λm=>qe true 0 true j ah λn=>ai n
 (K (.tup [.nilptr,j]) m)
 (∃j:Hq,Sub j m/\
 bX c 0 λn=>bX c 0 λo=>qd 4 o j λo=>wC TP 65 [n] (λn p=>wC TP 66 [n,o,a] (λa n=>qk a 0 λo=>qk a 1 λa=>qs c 8 n o λn=>qe true 0 true a ah λo=>ai o
 (K (.tup [.nilptr,a]) n)
 (bX c 0 λa=>qd 4 a n λa=>qh a λa=>aK [ah] n (λf=>[f 98]) λI1 f s m1=>lC b c (.int .i64 a) (f 98) I1 m1 K s)) (add j p)) (lock m j))) k) i) h) l) (lock e g)) d) s)
def XD:aM:=λa b K s=>boxK 52 a (λa c=>aE c 19 a λd=>wC TP 61 [(.agg d)] (λd e=>qk d 0 λf=>qk d 1 λg=>qk d 2 λd=>qe true 0 true f ah λd=>ai d
 (K (.tup [.nilptr,(qz 3)]) e)
 (ak .lss b ah λd=>ai d
 (CD b a d .undef K e)
 (qd 0 a e λf=>qd 1 a e λg=>ak .add f g λf=>ak .geq b f λf=>CD b a d f K e))) c) s
def XE:Nat->List Nat:=anL [(3000007,[1]),(2000028,[0,1,2,3,4,5,6,7,9]),(2000029,[8,10]),(2000031,[11,12,13,14]),(3000013,[1]),(2000052,[0,1,2,3,5,6,7,8,9,10]),(2000053,[4]),(2000055,[11,12,13,14,15,16,17,18]),(34,[98]),(3000020,[1]),(2000080,[0,1,2,3,4,5,6,7]),(2000081,[8]),(2000083,[9,10,11,12,13])]
theorem CE:T2 20 XD:=wOK Tryz.func20 XE
def XF:aY:=λa K s=>wC TP 47 [a] (λa b=>qk a 0 λc=>qk a 1 λa=>K c b) s
theorem XG:T1 13 XF:=wOK Tryz.func13
def wh:dO:=λa b c d e f g I0 m0 K s=>qp f g λf=>ai f
 (K bF s)
 (aL a 21 s λf=>qd 0 e s λg=>qd 1 e s λe=>ak .add g e λe=>ak .sub e b λb=>qi 4 c d λc=>aE s 4 c λc=>oK (aq [ah,ah,ah,ah,.nilslc] [(0,1,b),(1,4,(.agg c))]) λb=>oK (aq (repl 1 [ah,ah,ah,ah,.nilslc]) [(0,5,(.agg b))]) λb=>aD b=true/\
 newK 192 b (λb c=>appK 192 5 f (.slc b 0 1 (some 1) 5) (λb e=>qs a 21 e b λa=>ak .add d ax λb=>aA m0 (I0 [b] a)) c) s)
def CF:bU:=λa b c d e f I0 m0 K s=>qt e f λe=>ai e
 (K bF s)
 (bX a 0 λe=>qd 2 e s λe=>qw 4 c d 0 s λf=>qi 3 e f λe=>aE s 3 e λe=>newK 145 [ah,ah,ah] (λf g=>qc g 3 f (.agg e) λe=>qd 0 (.ptr f 0) e λg=>qe true 0 false g b λg=>ai g
 (qd 1 (.ptr f 0) e λh=>qe true 0 false h b λh=>wh a b c d (.ptr f 0) g h I0 m0 K e)
 (wh a b c d (.ptr f 0) g .undef I0 m0 K e)) s)
def Om:bS:=λa b c d I0 m0 K s=>qh c λe=>ak .lss d (.int .i64 e) λe=>ai e
 (qw 4 c d 0 s λe=>ak .lss e ah λe=>ai e
 (CF a b c d e .undef I0 m0 K s)
 (qw 4 c d 0 s λf=>bX a 0 λg=>qd 2 g s λg=>qh g λg=>ak .geq f (.int .i64 g) λf=>CF a b c d e f I0 m0 K s))
 (K bT s)
def XH:aW:=λa b c K s=>aK [ah] s (λf=>[f 7]) λI0 f s m0=>Om a b c (f 7) I0 m0 K s
def XI:Nat->List Nat:=anL [(4,[7]),(3000006,[0]),(2000024,[0,1,2,3,4,5,6,7,8,9,10,11]),(2000026,[12]),(2000027,[13]),(3000009,[0]),(2000036,[0,1,2,3,4,5,6,7,8,9,10,11,12,13,14,15,16]),(2000038,[17]),(2000039,[18,19,20,21])]
theorem XJ:T3 87 XH:=wOK Tryz.func87 XI
def o8:bM:=λa b c d e I0 m0 K s=>ak .add e ax λe=>aA m0 (I0 [a,b,c,d,e] s)
def On:js:=λa b c d e f g h I4 m4 I0 m0 K s=>qt g h λg=>ai g
 (K (.tup [.nilslc,.nilslc,ah,bF]) s)
 (bX a 0 λg=>qd 2 g s λg=>qw 3 g f 0 s λg=>bX a 0 λh=>qd 2 h s λh=>qw 3 h f 1 s λh=>ak .add g h λg=>qd 0 c s λh=>ak .sub g h λg=>qd 2 c s λh=>bX a 0 λa=>qd 2 a s λa=>qw 3 a f 2 s λa=>ak .add h a λa=>qd 3 c s λc=>ak .add c ax λc=>qi 22 d e λd=>qf 1 d λd=>aE s 21 d λd=>oK (aq jq [(0,1,g),(1,1,f),(2,1,a),(3,1,c),(4,21,(.agg d))]) λa=>oK (aq (repl 1 jq) [(0,25,(.agg a))]) λa=>aD a=true/\newK 195 a (λa c=>appK 195 25 b (.slc a 0 1 (some 1) 25) (λa b=>ak .add e ax λd=>aA m4 (I4 [a,d] b)) c) s)
def wj:js:=λa b c d e f g h I4 m4 I0 m0 K s=>qt g h λg=>ai g
 (K (.tup [.nilslc,.nilslc,ah,bF]) s)
 (bX a 0 λg=>qd 2 g s λg=>qw 3 g f 0 s λg=>bX a 0 λh=>qd 2 h s λh=>qw 3 h f 1 s λh=>ak .add g h λg=>qd 0 c s λh=>ak .sub g h λg=>qd 2 c s λh=>bX a 0 λa=>qd 2 a s λa=>qw 3 a f 2 s λa=>ak .add h a λa=>qd 3 c s λc=>ak .add c ax λc=>qi 22 d e λd=>qf 1 d λd=>aE s 21 d λd=>oK (aq jq [(0,1,g),(1,1,f),(2,1,a),(3,1,c),(4,21,(.agg d))]) λa=>oK (aq (repl 1 jq) [(0,25,(.agg a))]) λa=>aD a=true/\newK 195 a (λa c=>appK 195 25 b (.slc a 0 1 (some 1) 25) (λa b=>ak .add e ax λd=>aA m4 (I4 [a,d] b)) c) s)
def wo:oD:=λa b c d e f g h i I4 m4 I0 m0 K s=>qp h i λh=>qt g h λg=>ai g
 (wj a b c d e f g .undef I4 m4 I0 m0 K s)
 (qi 22 d e λh=>qf 1 h λh=>qd 2 h s λh=>qf 4 c λi=>qd 2 i s λi=>ak .sub i ax λi=>qe true 0 false h i λh=>wj a b c d e f g h I4 m4 I0 m0 K s)
def CG:js:=λa b c d e f g h I4 m4 I0 m0 K s=>qt g h λg=>ai g
 (qt g .undef λh=>ai h
 (On a b c d e f h .undef I4 m4 I0 m0 K s)
 (qi 22 d e λi=>qf 1 i λi=>qd 2 i s λi=>qf 4 c λj=>qd 2 j s λj=>ak .sub j ax λj=>qe true 0 false i j λi=>On a b c d e f h i I4 m4 I0 m0 K s))
 (bX a 0 λh=>qd 2 h s λh=>qw 3 h f 0 s λh=>qd 0 c s λi=>qe true 0 false h i λh=>ai h
 (bX a 0 λi=>qd 2 i s λi=>qw 3 i f 1 s λi=>qd 0 c s λj=>qe true 0 false i j λi=>wo a b c d e f g h i I4 m4 I0 m0 K s)
 (wo a b c d e f g h .undef I4 m4 I0 m0 K s))
def wp:oD:=λa b c d e f g h i I4 m4 I0 m0 K s=>qh h λj=>ak .lss i (.int .i64 j) λj=>ai j
 (qw 22 h i 0 s λj=>ak .lss j ah λk=>ai k
 (CG a e g h i j k .undef I4 m4 I0 m0 K s)
 (bX a 0 λl=>qd 2 l s λl=>qh l λl=>ak .geq j (.int .i64 l) λl=>CG a e g h i j k l I4 m4 I0 m0 K s))
 (o8 b c d e f I0 m0 K s)
def wq:cV:=λa b c d e g h i I0 m0 K s=>aK [e,ah] s (λf=>[f 13,f 19]) λI4 f s m4=>wp a b c d (f 13) g h i (f 19) I4 m4 I0 m0 K s
def o9:oC:=λa b c d e f g h i I0 m0 K s=>qp h i λh=>ai h
 (o8 b c d e f I0 m0 K s)
 (aL a 20 s λh=>qd 0 g s λi=>qx 1 h i s λh=>qf 4 g λi=>aE s 21 i λi=>qd 1 g s λj=>wC TP 23 [h,(.agg i),j] (λh i=>qk h 0 λj=>qk h 1 λk=>qk h 2 λh=>ai k
 (∃h:Hq,Sub h i/\
 qd 0 g h λk=>qd 2 g h λl=>oK (aq (repl 1 [ah]) [(0,1,l)]) λl=>aD l=true/\
 oK (aq (repl 1 [ah]) [(0,1,k)]) λk=>aD k=true/\newK 3 k (λk m=>appK 3 1 b (.slc k 0 1 (some 1) 1) (λk n=>newK 3 l (λl o=>appK 3 1 c (.slc l 0 1 (some 1) 1) (λl p=>wq a k l d e f g j I0 m0 K p) o) (add h n)) m) (lock i h))
 (wq a b c d e f g j I0 m0 K i)) s)
def CH:bU:=λa b c d e f I0 m0 K s=>qh e λg=>ak .gtr (.int .i64 g) ah λg=>ai g
 (qi 25 e ah λg=>aE s 25 g λg=>newK 195 jq (λh i=>qc i 25 h (.agg g) λg=>oK (cU 25 e (some ax) none none) λe=>qd 3 (.ptr h 0) g λi=>oK (dS max2A d [i]) λi=>ak .gtr f (qz 400) λj=>ai j
 (K (.tup [.nilslc,.nilslc,ah,bF]) g)
 (qd 1 (.ptr h 0) g λj=>ak .geq j ah λj=>ai j
 (aL a 19 g λk=>qd 1 (.ptr h 0) g λl=>wC TP 86 [k,l] (λk l=>qj k λk=>o9 a b c i e f (.ptr h 0) j k I0 m0 K l) g)
 (o9 a b c i e f (.ptr h 0) j .undef I0 m0 K g))) s)
 (K (.tup [b,c,d,bT]) s)
def XK:aW:=λa b c K s=>boxK 64 c (λc d=>aE d 21 c λc=>oK (aq jq [(0,1,b),(1,1,(.int .i64 (-1))),(2,1,ah),(3,1,ah),(4,21,(.agg c))]) λb=>oK (aq (repl 1 jq) [(0,25,(.agg b))]) λb=>aD b=true/\newK 195 b (λb c=>aK [.nilslc,.nilslc,ah,(.slc b 0 1 (some 1) 25),ah] c (λf=>[f 10,f 11,f 12,f 13,f 14]) λI0 f s m0=>CH a (f 10) (f 11) (f 12) (f 13) (f 14) I0 m0 K s) d) s
def XL:Nat->List Nat:=anL [(10,[10,11,12,13,14]),(34,[13,19]),(3000015,[1]),(2000060,[0,1,2,5,6,7]),(2000061,[3,4]),(2000062,[8]),(2000063,[9,10,11])]
theorem XM:T3 33 XK:=wOK Tryz.func33 XL
def CI:bM:=λa b c d e I1 m1 K s=>qt d e λd=>ai d
 (K .nilptr s)
 (aL a 20 s λd=>oK (aq (repl 1 [.nilptr]) [(0,1,c)]) λc=>aD c=true/\newK 22 c (λc e=>appK 22 1 d (.slc c 0 1 (some 1) 1) (λc d=>qs a 20 d c λa=>ak .add b ax λb=>aA m1 (I1 [b] a)) e) s)
def Oo:cj:=λa b c I1 m1 K s=>qd 0 a s λd=>qd 1 a s λe=>ak .add d e λd=>ak .lss c d λd=>ai d
 (aE s 19 a λa=>wC TP 20 [(.agg a),c] (λa d=>qk a 0 λe=>qk a 1 λa=>qe true 0 true a ah λa=>ai a
 (CI b c e a .undef I1 m1 K d)
 (qe false 3 true e .nilptr λf=>CI b c e a f I1 m1 K d)) s)
 (K b s)
def CJ:ct:=λa b c d K s=>qt c d λc=>ai c
 (K .nilptr s)
 (aE s 19 a λc=>oK (aq [ah,ah,.nilslc,.nilslc,.nilslc,.nilslc,.nilslc,.nilslc,ah,ah,ah,bF,bF,ah,ah,ah,ah,ah,ah,.nilptr,.nilslc,.nilslc,ah] [(0,19,(.agg c)),(19,1,b)]) λb=>boxK 96 (.agg b) (λb c=>aK [ah] c (λf=>[f 6]) λI1 f s m1=>Oo a b (f 6) I1 m1 K s) s)
def XN:aY:=λa K s=>boxK 52 a (λa b=>qd 0 a b λc=>qd 1 a b λd=>ak .add c d λc=>qd 2 a b λd=>wC TP 76 [c,d] (λc d=>qk c 0 λe=>qk c 1 λc=>qe true 0 true c ah λc=>ai c
 (CJ a e c .undef K d)
 (qe false 3 true e .nilptr λf=>CJ a e c f K d)) b) s
def XO:Nat->List Nat:=anL [(12,[6])]
theorem XP:T1 28 XN:=wOK Tryz.func28 XO
def wt:aW:=λa b c K s=>aL a 19 s λa=>qd 2 b s λb=>wC TP 85 [a,c,b] (λa a=>K (.tup []) a) s
def wu:cX:=λa b c d e K s=>qp d e λd=>ai d
 (∃d:Hq,Sub d s/\
 aL a 20 d λe=>bX a 0 λf=>aE d 19 f λf=>wC TP 20 [(.agg f),c] (λf g=>qk f 0 λh=>qk f 1 λf=>qi 1 e c λe=>oK (wr1 (add d g) e h) λe=>wt a b c K e) (lock s d))
 (wt a b c K s)
def lD:cX:=λa b c d e K s=>ai e
 (bX a 0 λe=>qd 2 e s λe=>qh e λe=>ak .gtr (.int .i64 e) ah λe=>ai e
 (∃e:Hq,Sub e s/\
 aL a 19 e λf=>qd 1 b e λg=>bX a 0 λh=>qd 2 h e λh=>qh h λh=>qd 2 b e λi=>wC TP 32 [g,(.int .i64 h)] (λg h=>wC TP 84 [f,g,i] (λf f=>K (.tup []) f) (add e h)) (lock s e))
 (K (.tup []) s))
 (qe false 0 true d (qz 2) λd=>ai d
 (qd 1 b s λd=>wC TP 32 [d,c] (λc d=>qd 2 b d λe=>ai e
 (aL a 19 d λf=>wC TP 35 [f,c] (λf g=>qj f λf=>wu a b c e f K g) d)
 (wu a b c e .undef K d)) s)
 (K (.tup []) s))
def XQ:aM:=λa b K s=>boxK 92 b (λb c=>bX a 0 λd=>qd 0 d c λd=>bX a 0 λe=>qd 1 e c λe=>ak .add d e λd=>qd 0 b c λe=>wC TP 32 [e,(qz 4)] (λe f=>qe false 0 true e ah λg=>ai g
 (lD a b d e g K f)
 (qe false 0 true e ax λg=>lD a b d e g K f)) c) s
def XR:Nat->List Nat:=anL [(3000006,[1]),(2000024,[0,1,2,3,4,5,6,7,8,9,10,11,13,14]),(2000025,[12]),(2000027,[15]),(3000010,[1]),(2000040,[0,1,2,3,4,5,6,7,8,9]),(2000041,[10]),(2000043,[11,12,13,14,15])]
theorem XS:T2 30 XQ:=wOK Tryz.func30 XR
def pe:dN:=λa I0 m0 K s=>ak .add a ax λa=>aA m0 (I0 [a] s)
def Oq:cj:=λa b c I0 m0 K s=>qt b c λb=>ai b
 (K bF s)
 (pe a I0 m0 K s)
def lE:dN:=λa I3 m3 K s=>ak .add a ax λa=>aA m3 (I3 [a] s)
def ww:jr:=λa b I5 m5 I3 m3 K s=>ak .add b ax λb=>aA m5 (I5 [a,b] s)
def Or:cj:=λa b c I3 m3 K s=>qt b c λb=>ai b
 (K bF s)
 (lE a I3 m3 K s)
def wx:A9:=λa b c d e I5 m5 I3 m3 K s=>qh d λf=>ak .lss e (.int .i64 f) λf=>ai f
 (aL a 19 s λf=>qx 1 d e s λg=>wC TP 86 [f,g] (λf g=>ai f
 (qx 1 d e g λd=>oK (aq (repl 1 [ah]) [(0,1,d)]) λd=>aD d=true/\newK 3 d (λd f=>appK 3 1 c (.slc d 0 1 (some 1) 1) (λd h=>ww d e I5 m5 I3 m3 K h) f) g)
 (ww c e I5 m5 I3 m3 K g)) s)
 (aL a 20 s λd=>qx 1 d b s λd=>aL a 22 s λe=>wC TP 18 [d,e,c] (λc d=>qk c 0 λe=>qk c 1 λc=>qe true 0 true c ah λc=>ai c
 (Or b c .undef I3 m3 K d)
 (wC TP 87 [a,b,e] (λa e=>qj a λa=>Or b c a I3 m3 K e) d)) s)
def wy:dp:=λa b I3 m3 K s=>aL a 20 s λc=>qh c λc=>ak .lss b (.int .i64 c) λc=>ai c
 (aL a 19 s λc=>wC TP 35 [c,b] (λc d=>qj c λc=>ai c
 (lE b I3 m3 K d)
 (aL a 20 d λc=>qx 1 c b d λc=>wC TP 10 [c] (λc e=>aK [.nilslc,ah] e (λf=>[f 8,f 10]) λI5 f s m5=>wx a b (f 8) c (f 10) I5 m5 I3 m3 K s) d)) s)
 (K bT s)
def wz:cj:=λa b c I0 m0 K s=>qh b λd=>ak .lss c (.int .i64 d) λd=>ai d
 (aL a 19 s λd=>qi 5 b c λe=>qf 1 e λe=>qd 0 e s λe=>wC TP 86 [d,e] (λd e=>qj d λd=>ai d
 (pe c I0 m0 K e)
 (aL a 20 e λd=>qw 5 b c 0 e λg=>qx 1 d g e λd=>qi 5 b c λg=>qf 1 g λg=>qd 0 g e λg=>qi 5 b c λh=>qf 1 h λh=>qf 1 h λh=>aE e 3 h λh=>wC TP 17 [d,g,(.agg h)] (λd g=>qk d 0 λh=>qk d 1 λd=>qe true 0 true d ah λd=>ai d
 (Oq c d .undef I0 m0 K g)
 (qw 5 b c 0 g λb=>wC TP 87 [a,b,h] (λb h=>qj b λb=>Oq c d b I0 m0 K h) g)) e)) s)
 (aK [ah] s (λf=>[f 7]) λI3 f s m3=>wy a (f 7) I3 m3 K s)
def Ot:aY:=λa K s=>aL a 22 s λb=>ak .add b ax λb=>qs a 22 s b λb=>aL a 21 b λc=>qs a 21 b .nilslc λb=>aK [ah] b (λf=>[f 4]) λI0 f s m0=>wz a c (f 4) I0 m0 K s
def XT:Nat->List Nat:=anL [(10,[4]),(24,[7]),(36,[8,10])]
theorem XU:T1 31 Ot:=wOK Tryz.func31 XT
def wA:aW:=λa b c K s=>qt b c λb=>qp a b λa=>K a s
def CK:ct:=λa b c d K s=>qp c d λc=>ai c
 (qh b λd=>qe false 0 true (.int .i64 d) ah λd=>ai d
 (wA c d .undef K s)
 (oK (aq (repl 1 [ah]) [(0,1,a)]) λa=>aD a=true/\newK 3 a (λa e=>wC TP 9 [b,(.slc a 0 1 (some 1) 1)] (λa b=>wA c d a K b) e) s))
 (qp c .undef λa=>K a s)
def CL:cX:=λa b c d e K s=>qp d e λd=>ai d
 (ak .leq c (qz 15) λc=>CK a b d c K s)
 (CK a b d .undef K s)
def Ou:bU:=λa b c d e f I1 m1 K s=>qh a λg=>ak .lss f (.int .i64 g) λg=>ai g
 (qi 3 a f λa=>aE s 3 a λa=>wC TP 30 [e,(.agg a)] (λa a=>wC TP 31 [e] (λg h=>qj g λg=>ai g
 (K bF h)
 (ak .add f ax λf=>aA m1 (I1 [f] h))) a) s)
 (aL e 20 s λa=>qh a λa=>wC TP 32 [b,(.int .i64 a)] (λb f=>wC TP 32 [c,(.int .i64 a)] (λa c=>wC TP 13 [a] (λg h=>oK (aq jp [(1,1,g),(2,1,(qz 16))]) λg=>wC TP 33 [e,b,(.agg g)] (λb e=>qk b 0 λg=>qk b 1 λi=>qk b 2 λi=>qk b 3 λb=>ai d
 (CL a g i d b K e)
 (CL a g i d .undef K e)) h) c) f) s)
def wB:gD:=λa b c d e g h K s=>qt g h λg=>ai g
 (K e s)
 (wC TP 29 [a] (λa g=>wC TP 28 [a] (λa h=>qe false 3 true a .nilptr λi=>ai i
 (K bF h)
 (aK [ah] h (λf=>[f 11]) λI1 f s m1=>Ou b c d e a (f 11) I1 m1 K s)) g) s)
def XV:ct:=λa b c d K s=>wC TP 3 [] (λe f=>qh a λg=>ak .gtr (.int .i64 g) (qz 200) λg=>ai g
 (wB a b c d e g .undef K f)
 (qh b λh=>ak .gtr (.int .i64 h) (qz 40) λh=>wB a b c d e g h K f)) s
def XW:Nat->List Nat:=anL [(16,[11])]
theorem XX:T4 5 XV:=wOK Tryz.func5 XW
def wD:dN:=λa I0 m0 K s=>ak .add a ax λa=>aA m0 (I0 [a] s)
def Ov:bM:=λa b c d e I0 m0 K s=>ak .lss e d λd=>ai d
 (qi 1 c e λd=>oK (wr1 s d (.int .i64 (-1))) λd=>qx 1 a e d λa=>wC TP 223 [a,b,e] (λa b=>qh a λf=>ak .gtr (.int .i64 f) ah λf=>ai f
 (qw 3 a ah 0 b λa=>qi 1 c e λf=>oK (wr1 b f a) λa=>wD e I0 m0 K a)
 (wD e I0 m0 K b)) d)
 (K c s)
def Ox:aM:=λa b K s=>qh a λc=>oK (nat? (.int .i64 c)) λd=>oK (nat? (.int .i64 c)) λc=>(d<=c/\c<=4294967296)/\newK 3 (repl c [ah]) (λe g=>qh (.slc e 0 d (some c) 1) λh=>aK [ah] g (λf=>[f 13]) λI0 f s m0=>Ov a b (.slc e 0 d (some c) 1) (.int .i64 h) (f 13) I0 m0 K s) s
def XY:Nat->List Nat:=anL [(6,[13])]
theorem XZ:T2 262 Ox:=wOK Tryz.func262 XY
def X0:ct:=λa b c d K s=>oK (aq (repl 1 [ah]) [(0,1,d)]) λe=>aD e=true/\newK 3 e (λe f=>wC TP 90 [a,b,c,(.slc e 0 1 (some 1) 1)] (λe g=>qj e λe=>ai e
 (K .nilslc g)
 (wC TP 92 [a,b,c] (λa b=>wC TP 91 [a,d] (λc d=>wC TP 262 [a,c] (λa c=>K a c) d) b) g)) f) s
theorem X1:T4 259 X0:=wOK Tryz.func259
def CM:ct:=λa b c d K s=>qt c d λc=>ai c
 (K .nilslc s)
 (qd 0 b s λc=>qd 1 b s λd=>ak .add c d λc=>qd 2 b s λd=>qd 3 b s λb=>wC TP 36 [c,d,b,a] (λa b=>K a b) s)
def CN:ct:=λa b c d K s=>qt c d λc=>ai c
 (CM a b c .undef K s)
 (qd 1 b s λd=>ak .gtr d (qz 32) λd=>CM a b c d K s)
def CO:ct:=λa b c d K s=>qt c d λc=>ai c
 (CN a b c .undef K s)
 (qd 1 b s λd=>ak .lss d ah λd=>CN a b c d K s)
def X2:aM:=λa b K s=>boxK 385 a (λa c=>qd 0 a c λd=>ak .lss d ax λd=>ai d
 (CO b a d .undef K c)
 (qd 0 a c λe=>ak .gtr e (qz 32) λe=>CO b a d e K c)) s
theorem X3:T2 254 X2:=wOK Tryz.func254
def wE:dp:=λa b I0 m0 K s=>ak .add b ax λb=>aA m0 (I0 [a,b] s)
def pf:bM:=λa b c d e I0 m0 K s=>qp d e λd=>ai d
 (oK (aq (repl 1 [ah]) [(0,1,b)]) λb=>aD b=true/\newK 3 b (λb d=>appK 3 1 a (.slc b 0 1 (some 1) 1) (λb e=>wE b c I0 m0 K e) d) s)
 (wE a c I0 m0 K s)
def Oy:bU:=λa b c d e f I0 m0 K s=>ak .lss f e λe=>ai e
 (qx 1 d f s λd=>qd 0 b s λb=>ak .geq f b λb=>ai b
 (ak .geq d ah λd=>pf c f f b d I0 m0 K s)
 (pf c f f b .undef I0 m0 K s))
 (qh c λb=>qe false 0 true (.int .i64 b) ah λb=>ai b
 (K (.tup [ah,bF]) s)
 (oK (cw .u64 a) λa=>qh c λb=>oK (cw .u64 (.int .i64 b)) λb=>ak .rem a b λa=>qx 1 c a s λa=>K (.tup [a,bT]) s))
def X4:aW:=λa b c K s=>boxK 385 a (λa d=>qh b λe=>aK [.nilslc,ah] d (λf=>[f 8,f 13]) λI0 f s m0=>Oy c a (f 8) b (.int .i64 e) (f 13) I0 m0 K s) s
def X5:Nat->List Nat:=anL [(6,[8,13])]
theorem X6:T3 255 X4:=wOK Tryz.func255 X5
def X7:aW:=λa b c K s=>boxK 385 a (λa d=>boxK 25 b (λb e=>boxK 25 c (λc f=>K (.fn (.func 263) [] [c,a,b]) f) e) d) s
theorem X8:T3 261 X7:=wOK Tryz.func261
def wF:cj:=λa b c I0 m0 K s=>qp b c λb=>ai b
 (K (.tup []) s)
 (ak .add a ax λa=>aA m0 (I0 [a] s))
def CP:bM:=λa b c d e I0 m0 K s=>qp d e λd=>ai d
 (funK TP a [b] (λa b=>qj a λa=>wF c d a I0 m0 K b) s)
 (wF c d .undef I0 m0 K s)
def pg:bU:=λa b c d e f I0 m0 K s=>qp e f λe=>ai e
 (qr s b λb=>qx 1 b c s λb=>ak .geq b ah λb=>CP a c d e b I0 m0 K s)
 (CP a c d e .undef I0 m0 K s)
def Oz:bU:=λa b c d e f I0 m0 K s=>ak .lss f e λe=>ai e
 (qx 1 d f s λd=>ak .geq d ah λe=>ai e
 (qd 0 b s λb=>ak .lss d b λb=>pg a c d f e b I0 m0 K s)
 (pg a c d f e .undef I0 m0 K s))
 (K (.tup []) s)
def OA:ct:=λa b c d K s=>qr s b λb=>wC TP 105 [b] (λb e=>wC TP 94 [b] (λg g=>wC TP 117 [b] (λb h=>qh b λi=>aK [ah] h (λf=>[f 15]) λI0 f s m0=>Oz a c d b (.int .i64 i) (f 15) I0 m0 K s) g) e) s
def X9:Nat->List Nat:=anL [(6,[15])]
theorem Ya:T4 263 OA:=wOK Tryz.func263 X9
def CQ:cX:=λa b c d e K s=>qr s b λb=>qx 1 b a s λb=>ak .lss b ah λf=>ai f
 (K (.tup []) s)
 (qr s c λf=>oK (getM s f b) λf=>qk (retM (.agg []) true f) 0 λg=>qk (retM (.agg []) true f) 1 λf=>newK 393 [] (λh i=>qc i 0 h g λg=>ai f
 (K (.tup []) g)
 (qr g c λc=>oK (aq [] []) λf=>oK (putM g c b (.agg f)) λc=>qr c d λd=>qd 2 e c λf=>qw 3 f b 0 c λf=>qd 2 e c λe=>qw 3 e b 1 c λb=>ak .add f b λb=>ak .sub b a λa=>funK TP d [a] (λa a=>K (.tup []) a) c)) s)
theorem OB:T5 260 CQ:=wOK Tryz.func260
def Yb:ct:=λa b c d K s=>boxK 385 a (λa e=>mapK (λf g=>newK 391 [.nilmap] (λh i=>oK (wr1 i (.ptr h 0) f) λf=>qd 0 a f λi=>qd 1 a f λj=>ak .add i j λi=>qd 2 a f λj=>qd 3 a f λk=>wC TP 259 [i,j,k,c] (λc i=>newK 25 [.nilslc] (λj k=>oK (wr1 k (.ptr j 0) c) λc=>newK 395 [.nilFunc] (λk l=>oK (wr1 l (.ptr k 0) (.fn (.func 260) [] [(.ptr j 0),(.ptr h 0),(.ptr k 0),a])) λj=>aE j 4 a λa=>wC TP 261 [(.agg a),b,d] (λa b=>rngK TP 35 none a [(11,(.ptr k 0))] [30] (rfAs 0 (aI Tryz.f258)) (rfBo 0 (aI Tryz.f258)) (λa=>qr a (.ptr h 0) λd=>K d a)
 (λa=>K .nilmap a)
 (λa d=>cond (α:=Prop) (beq a 0)
 (qr d (.ptr h 0) λa=>K a d)
 (False)) b) j) c) i) f) g) e) s
def wG:Nat->List Nat:=anL [(15,[11])]
theorem Yc:T4 258 Yb:=wOK Tryz.func258 wG
def OC(l:Nat)(a b:AV)(E:AExit->Hq->Prop)(s:Hq):Prop:=
 AExit.nrm=.nrm/\dC l (λc=>qr c a λa=>funK TP a [b] (λa a=>E .nrm a) c) s
theorem Yd(l:Nat)(f:Env)(t30:AV)(E:AExit->Hq->Prop)(s:Hq):wpC TP wG Tryz.f258.ntmps (some l) (rfAs 0 (aI Tryz.f258)) (setE f [30] [t30]) (λe env s=>e=.nrm/\dC l (λs=>wpC TP wG Tryz.f258.ntmps (some l) (rfBo 0 (aI Tryz.f258)) env (λe _ s=>E e s) s) s) s=OC l (f 11) t30 E s:=by kernel_rfl
theorem Ye{l:Nat}{t:Bool}{st:LoopState}{pd:Option Code}{d:Nat}{x11 t30:AV}{K:KvP}{s:Hq}(hs:s l=some (t,.loop st pd 35 [(11,x11)] [30] (rfAs 0 (aI Tryz.f258)) (rfBo 0 (aI Tryz.f258)) d))(h:OC l x11 t30 (λe s=>endK l e K s) s):dL TP l [t30] K s:=
 je wG hs rfl rfl λf hf=>by
 refine(Yd l f t30 (λe s=>endK l e K s) s).mpr ?_
 rw[show f 11=x11 from hf (11,x11) (by simp)]
 exact h
def OD:aW:=λa b c K s=>qr s a λa=>qj a λa=>ai a
 (oK (wr1 s b .nilslc) λa=>oK (wr1 a c bF) λa=>K (.tup []) a)
 (K (.tup []) s)
theorem Yf{t0 t1 t2:AV}{K:KvP}{s:Hq}(h:OD t0 t1 t2 K s):gV TP 257 [t0,t1,t2] (λs=>K (.tup []) s) s:=
 Lh nA0 Tryz.func257 (by kernel_rfl:Tryz.f257.body=some (aI Tryz.f257)) (by kernel_rfl) (by kernel_rfl) (by kernel_rfl) (Eq.mpr (by kernel_rfl) h)
def iK:dN:=λa I0 m0 K s=>ak .add a ax λa=>aA m0 (I0 [a] s)
def wH:cV:=λa b c d e f g h I0 m0 K s=>qp g h λg=>qt f g λf=>ai f
 (iK e I0 m0 K s)
 (qe false 0 false d a λa=>ai a
 (oK (wr1 s c bT) λa=>iK e I0 m0 K a)
 (qr s b λa=>oK (aq (repl 1 [ah]) [(0,1,d)]) λc=>aD c=true/\newK 3 c (λc d=>appK 3 1 a (.slc c 0 1 (some 1) 1) (λa c=>oK (wr1 c b a) λa=>iK e I0 m0 K a) d) s))
def CR:gD:=λa b c d e f g K s=>qp f g λf=>qe false 0 true a (.int .i64 (-1)) λa=>ai a
 (oK (wr1 s d f) λa=>runK TP e (λd=>qr d b λg=>qr d c λh=>K (.tup [g,h]) d) a)
 (qr s b λa=>oK (wr1 s b a) λa=>oK (wr1 a c f) λa=>runK TP e (λd=>qr d b λb=>qr d c λc=>K (.tup [b,c]) d) a)
def OE:V12x1:=λa b c d e f g h i j k l I0 m0 K s=>ak .lss l k λk=>ai k
 (qi 3 j l λj=>aE s 3 j λj=>newK 145 [ah,ah,ah] (λk m=>qc m 3 k (.agg j) λj=>oK (getM j h l) λh=>qk (retM (.agg []) true h) 0 λm=>qk (retM (.agg []) true h) 1 λh=>newK 393 [] (λn o=>qc o 0 n m λm=>qj h λh=>ai h
 (qt h .undef λn=>ai n
 (iK l I0 m0 K m)
 (qe false 0 false l c λn=>ai n
 (oK (wr1 m g bT) λn=>iK l I0 m0 K n)
 (qr m e λn=>oK (aq (repl 1 [ah]) [(0,1,l)]) λo=>aD o=true/\newK 3 o (λo p=>appK 3 1 n (.slc o 0 1 (some 1) 1) (λn o=>oK (wr1 o e n) λn=>iK l I0 m0 K n) p) m)))
 (qd 0 (.ptr k 0) m λn=>qe true 0 false n a λn=>ai n
 (qd 1 (.ptr k 0) m λk=>qe true 0 false k a λk=>wH c e g l l h n k I0 m0 K m)
 (wH c e g l l h n .undef I0 m0 K m))) j) s)
 (qd 0 d s λd=>ak .lss a d λd=>ai d
 (wC TP 200 [b,a] (λa b=>CR c e f g i d a K b) s)
 (CR c e f g i d .undef K s))
def Yg:cX:=λa b c d e K s=>boxK 385 a (λa g=>newK 25 [.nilslc] (λh i=>newK 4 [bF] (λj k=>newK 4 [bF] (λl m=>oK (wr1 m (.ptr l 0) bF) λm=>jm TP (.fn (.func 257) [] [(.ptr l 0),(.ptr h 0),(.ptr j 0)])/\
 aE m 4 a λn=>wC TP 254 [(.agg n),b] (λn o=>aE o 4 a λp=>wC TP 255 [(.agg p),n,c] (λc p=>qk c 0 λq=>qk c 1 λc=>qj c λc=>ai c
 (runK TP (.fn (.func 257) [] [(.ptr l 0),(.ptr h 0),(.ptr j 0)]) (λc=>qr c (.ptr h 0) λr=>qr c (.ptr j 0) λt=>K (.tup [r,t]) c) p)
 (aE p 4 a λc=>wC TP 258 [(.agg c),n,q,d] (λc n=>qd 2 a n λq=>qh q λr=>aK [ah] n (λf=>[f 43]) λI0 f s m0=>OE b d e a (.ptr h 0) (.ptr j 0) (.ptr l 0) c (.fn (.func 257) [] [(.ptr l 0),(.ptr h 0),(.ptr j 0)]) q (.int .i64 r) (f 43) I0 m0 K s) p)) o) m) k) i) g) s
def Yh:Nat->List Nat:=anL [(16,[43])]
theorem Yi{x0 self1 group2 members3 t4:AV}{K:KvP}{s:Hq}(h:Yg x0 self1 group2 members3 t4 K s):wC TP 256 [x0,self1,group2,members3,t4] K s:=
 Lo Yh Tryz.func256 (by kernel_rfl:Tryz.f256.body=some (aI Tryz.f256)) (by kernel_rfl) (Eq.mpr (by kernel_rfl) h)
def CS:bU:=λa b c d e f I0 m0 K s=>ak .lss f e λe=>ai e
 (qx 1 d f s λd=>aE s 21 a λa=>oK (aq kW [(0,1,d),(1,21,(.agg a))]) λa=>oK (aq (repl 1 kW) [(0,22,(.agg a))]) λa=>aD a=true/\newK 121 a (λa d=>appK 121 22 b (.slc a 0 1 (some 1) 22) (λa e=>ak .add f ax λf=>aA m0 (I0 [a,f] e)) d) s)
 (K (.tup [b,c,ah]) s)
def Yj:cX:=λa b c d e K s=>boxK 385 a (λa g=>boxK 64 d (λd h=>aE h 4 a λi=>wC TP 254 [(.agg i),b] (λi j=>qe false 5 true i .nilslc λk=>ai k
 (K (.tup [.nilslc,bF,(qz 3)]) j)
 (aE j 4 a λk=>qd 1 d j λl=>wC TP 255 [(.agg k),i,l] (λi k=>qk i 0 λl=>qk i 1 λi=>qj i λi=>ai i
 (K (.tup [.nilslc,bF,(qz 13)]) k)
 (aE k 4 a λa=>qd 1 d k λi=>wC TP 256 [(.agg a),b,i,c,e] (λa b=>qk a 0 λc=>qk a 1 λa=>qd 2 d b λe=>ak .lss e (qz 2) λe=>ai e
 (K (.tup [.nilslc,a,ah]) b)
 (qd 2 d b λe=>ak .sub e ax λe=>qf 2 d λi=>oK (wr1 b i e) λb=>qh c λe=>aK [.nilslc,ah] b (λf=>[f 10,f 54]) λI0 f s m0=>CS d (f 10) a c (.int .i64 e) (f 54) I0 m0 K s)) k)) j)) h) g) s
def Yk:Nat->List Nat:=anL [(24,[10,54])]
theorem Yl:T5 253 Yj:=wOK Tryz.func253 Yk
def Ym:aW:=λa b c K s=>boxK 248 a (λa d=>boxK 64 b (λb e=>qd 0 a e λf=>bX f 0 λg=>qd 2 g e λg=>bX f 0 λh=>qd 3 h e λh=>bX f 0 λi=>qd 4 i e λi=>aL f 11 e λj=>oK (aq [ah,ah,.nilslc,.nilslc] [(0,1,g),(1,1,h),(2,1,i),(3,1,j)]) λg=>newK 385 [ah,ah,.nilslc,.nilslc] (λh i=>qc i 4 h (.agg g) λg=>aE g 4 (.ptr h 0) λh=>bX f 0 λf=>qd 0 f g λf=>qd 1 a g λa=>aE g 21 b λb=>wC TP 253 [(.agg h),f,a,(.agg b),c] (λa b=>qk a 0 λc=>qk a 1 λf=>qk a 2 λa=>K (.tup [c,f,a]) b) g) e) d) s
def Yn:Nat->List Nat:=anL [(3000002,[0]),(2000008,[0,1,2,3,4,5,6,7,8,9,10,11,12,13,14,15,16,17,18,19]),(2000010,[20]),(2000011,[21])]
theorem Yo:T3 252 Ym:=wOK Tryz.func252 Yn
def Yp:aW:=λa b c K s=>newK 34 [ah,ah,.nilslc] (λd e=>oK (aq [ah,ah,.nilslc] [(0,1,a),(1,1,b),(2,1,c)]) λa=>qc e 3 d (.agg a) λa=>aE a 3 (.ptr d 0) λb=>K (.agg b) a) s
theorem Yq:T3 16 Yp:=wOK Tryz.func16
def CT:aM:=λa b K s=>qp a b λa=>K a s
def CU:ct:=λa b c d K s=>qp c d λc=>ai c
 (qd 2 a s λa=>qd 2 b s λb=>wC TP 9 [a,b] (λa b=>CT c a K b) s)
 (CT c .undef K s)
def Yr:aM:=λa b K s=>boxK 34 a (λa c=>boxK 34 b (λb d=>qd 0 a d λe=>qd 0 b d λf=>qe false 0 false e f λe=>ai e
 (qd 1 a d λf=>qd 1 b d λg=>qe false 0 false f g λf=>CU a b e f K d)
 (CU a b e .undef K d)) c) s
theorem Ys:T2 98 Yr:=wOK Tryz.func98
def CV:cj:=λa b c I0 m0 K s=>qt b c λb=>ai b
 (K bF s)
 (ak .add a ax λa=>aA m0 (I0 [a] s))
def OF:cj:=λa b c I0 m0 K s=>qh a λd=>ak .lss c (.int .i64 d) λd=>ai d
 (qw 4 a c 0 s λd=>qe true 0 true d ah λd=>ai d
 (CV c d .undef I0 m0 K s)
 (qi 4 a c λa=>qf 1 a λa=>aE s 3 a λa=>qi 3 b c λb=>aE s 3 b λb=>wC TP 98 [(.agg a),(.agg b)] (λa b=>qj a λa=>CV c d a I0 m0 K b) s))
 (K bT s)
def OG:aM:=λa b K s=>qh a λc=>qh b λd=>qe true 0 false (.int .i64 c) (.int .i64 d) λc=>ai c
 (K bF s)
 (aK [ah] s (λf=>[f 5]) λI0 f s m0=>OF a b (f 5) I0 m0 K s)
def Yt:Nat->List Nat:=anL [(8,[5])]
theorem Yu:T2 48 OG:=wOK Tryz.func48 Yt
def CX:aM:=λa b K s=>qp a b λa=>K a s
def Yv:aW:=λa b c K s=>boxK 34 b (λb d=>aE d 3 b λb=>wC TP 17 [a,ah,(.agg b)] (λa b=>qk a 0 λe=>qk a 1 λa=>qe false 0 true a ah λa=>ai a
 (wC TP 48 [e,c] (λc e=>CX a c K e) b)
 (CX a .undef K b)) d) s
theorem Yw:T3 15 Yv:=wOK Tryz.func15
def CY:aM:=λa b K s=>qp a b λa=>K a s
def Yx:ct:=λa b c d K s=>wC TP 18 [a,b,c] (λa b=>qk a 0 λc=>qk a 1 λa=>qe false 0 true a ah λa=>ai a
 (wC TP 48 [c,d] (λc d=>CY a c K d) b)
 (CY a .undef K b)) s
theorem Yy:T4 19 Yx:=wOK Tryz.func19
def OH:cj:=λa b c I0 m0 K s=>qh a λd=>ak .lss c (.int .i64 d) λd=>ai d
 (qi 22 a c λa=>aE s 22 a λa=>qi 22 b c λb=>aE s 22 b λb=>oK (negB true (cZ TP 121 (.agg a) (.agg b))) λa=>ai a
 (K bF s)
 (ak .add c ax λa=>aA m0 (I0 [a] s)))
 (K bT s)
def OI:aM:=λa b K s=>qh a λc=>qh b λd=>qe true 0 false (.int .i64 c) (.int .i64 d) λc=>ai c
 (K bF s)
 (aK [ah] s (λf=>[f 5]) λI0 f s m0=>OH a b (f 5) I0 m0 K s)
def Yz:Nat->List Nat:=anL [(8,[5])]
theorem YA:T2 46 OI:=wOK Tryz.func46 Yz
def wI:aM:=λa b K s=>qt a b λa=>K a s
def wJ:gC:=λa b c d e f K s=>qt e f λe=>ai e
 (K bF s)
 (qj c λc=>ai c
 (wI c .undef K s)
 (ak .sub b ax λb=>oK (aq jp [(1,1,a),(2,1,b)]) λa=>oK (aq kW [(0,1,ah),(1,21,(.agg a))]) λa=>oK (aq (repl 1 kW) [(0,22,(.agg a))]) λa=>aD a=true/\newK 121 a (λa b=>wC TP 46 [d,(.slc a 0 1 (some 1) 22)] (λa d=>wI c a K d) b) s))
def wK:gC:=λa b c d e f K s=>qt e f λe=>ai e
 (wJ a b c d e .undef K s)
 (qh d λf=>ak .gtr (.int .i64 f) ah λf=>qe true 1 false f c λf=>wJ a b c d e f K s)
def YB:gD:=λa b c d e f g K s=>oK (aq jp [(1,1,b),(2,1,c)]) λh=>wC TP 23 [a,(.agg h),d] (λa d=>qk a 0 λh=>qk a 1 λi=>qk a 2 λa=>qe true 1 false i f λf=>ai f
 (wK b c e h f .undef K d)
 (qe true 0 false a g λa=>wK b c e h f a K d)) s
theorem OJ:T7 12 YB:=wOK Tryz.func12
def OK:cj:=λa b c I0 m0 K s=>qh a λd=>ak .lss c (.int .i64 d) λd=>ai d
 (qi 2 a c λa=>aE s 2 a λa=>qi 2 b c λb=>aE s 2 b λb=>oK (negB true (cZ TP 105 (.agg a) (.agg b))) λa=>ai a
 (K bF s)
 (ak .add c ax λa=>aA m0 (I0 [a] s)))
 (K bT s)
def OL:aM:=λa b K s=>qh a λc=>qh b λd=>qe true 0 false (.int .i64 c) (.int .i64 d) λc=>ai c
 (K bF s)
 (aK [ah] s (λf=>[f 5]) λI0 f s m0=>OK a b (f 5) I0 m0 K s)
def YC:Nat->List Nat:=anL [(8,[5])]
theorem YD:T2 38 OL:=wOK Tryz.func38 YC
def wL:dp:=λa b I0 m0 K s=>ak .add b ax λb=>aA m0 (I0 [a,b] s)
def wM:bU:=λa b c d e f I0 m0 K s=>qt e f λe=>ai e
 (wL a d I0 m0 K s)
 (wC TP 47 [b] (λb e=>qk b 0 λf=>qk b 1 λb=>oK (aq [bu,ah] [(0,1,f),(1,1,c)]) λb=>oK (aq (repl 1 [bu,ah]) [(0,2,(.agg b))]) λb=>aD b=true/\newK 105 b (λb c=>appK 105 2 a (.slc b 0 1 (some 1) 2) (λa b=>wL a d I0 m0 K b) c) e) s)
def OM:bM:=λa b c d e I0 m0 K s=>ak .lss e d λd=>ai d
 (qx 1 c e s λc=>bX a 0 λa=>qd 0 a s λa=>qe false 0 false e a λa=>ai a
 (wM b e c e a .undef I0 m0 K s)
 (ak .lss c ah λd=>wM b e c e a d I0 m0 K s))
 (K b s)
def YE:aY:=λa K s=>wC TP 41 [a] (λb c=>qj b λb=>ai b
 (K .nilslc c)
 (aL a 12 c λb=>qh b λd=>aK [.nilslc,ah] c (λf=>[f 3,f 16]) λI0 f s m0=>OM a (f 3) b (.int .i64 d) (f 16) I0 m0 K s)) s
def YF:Nat->List Nat:=anL [(10,[3,16])]
theorem YG:T1 26 YE:=wOK Tryz.func26 YF
def ON:cj:=λa b c I0 m0 K s=>qh a λd=>ak .lss c (.int .i64 d) λd=>ai d
 (qx 1 a c s λa=>qx 1 b c s λb=>qe true 1 false a b λa=>ai a
 (K bF s)
 (ak .add c ax λa=>aA m0 (I0 [a] s)))
 (K bT s)
def OO:aM:=λa b K s=>qh a λc=>qh b λd=>qe true 0 false (.int .i64 c) (.int .i64 d) λc=>ai c
 (K bF s)
 (aK [ah] s (λf=>[f 5]) λI0 f s m0=>ON a b (f 5) I0 m0 K s)
def YH:Nat->List Nat:=anL [(8,[5])]
theorem YI:T2 70 OO:=wOK Tryz.func70 YH
def OP:aY:=λa K s=>qe false 5 true a .nilslc λb=>ai b
 (K .nilslc s)
 (oK (aq (repl 0 [bF]) []) λb=>aD b=true/\newK 4 b (λb c=>appK 4 1 (.slc b 0 0 (some 0) 1) a (λa b=>K a b) c) s)
theorem YJ:T1 72 OP:=wOK Tryz.func72
def YK:aY:=λa K s=>wC TP 41 [a] (λb c=>qj b λb=>ai b
 (K .nilslc c)
 (aL a 11 c λa=>wC TP 72 [a] (λa b=>K a b) c)) s
theorem YL:T1 25 YK:=wOK Tryz.func25
def wN:aY:=λa K s=>K a s
def CZ:aW:=λa b c K s=>qt b c λb=>ai b
 (K .nilptr s)
 (wN a K s)
def C1:aW:=λa b c K s=>qt b c λb=>ai b
 (CZ a b .undef K s)
 (oK (aq (repl 1 [ah]) [(0,1,ax)]) λc=>aD c=true/\newK 3 c (λc d=>wC TP 16 [ax,ax,(.slc c 0 1 (some 1) 1)] (λc e=>wC TP 15 [a,c,.nilslc] (λc f=>qj c λc=>CZ a b c K f) e) d) s)
def C2:aW:=λa b c K s=>qt b c λb=>ai b
 (C1 a b .undef K s)
 (oK (aq (repl 2 [ah]) [(0,1,ah),(1,1,ax)]) λc=>aD c=true/\newK 3 c (λc d=>wC TP 16 [(qz 2),ax,(.slc c 0 2 (some 2) 1)] (λc e=>wC TP 15 [a,c,.nilslc] (λc f=>qj c λc=>C1 a b c K f) e) d) s)
def C3:aW:=λa b c K s=>qt b c λb=>ai b
 (C2 a b .undef K s)
 (wC TP 26 [a] (λc d=>qh c λc=>qe true 0 true (.int .i64 c) ah λc=>C2 a b c K d) s)
def C4:aW:=λa b c K s=>qt b c λb=>ai b
 (C3 a b .undef K s)
 (oK (aq (repl 1 [ah]) [(0,1,ah)]) λc=>aD c=true/\newK 3 c (λc d=>oK (aq (repl 1 [ah]) [(0,1,ah)]) λe=>aD e=true/\newK 3 e (λe f=>wC TP 16 [ah,(qz 2),(.slc e 0 1 (some 1) 1)] (λe g=>oK (aq (repl 1 [ah,ah,.nilslc]) [(0,3,e)]) λe=>aD e=true/\newK 34 e (λe h=>wC TP 19 [a,(qz 2),(.slc c 0 1 (some 1) 1),(.slc e 0 1 (some 1) 3)] (λc e=>qj c λc=>C3 a b c K e) h) g) f) d) s)
def C5:aW:=λa b c K s=>qt b c λb=>ai b
 (C4 a b .undef K s)
 (wC TP 11 [a] (λc d=>qh c λc=>qe true 0 true (.int .i64 c) ah λc=>C4 a b c K d) s)
def C6:aW:=λa b c K s=>qt b c λb=>ai b
 (C5 a b .undef K s)
 (oK (aq (repl 1 [ah]) [(0,1,ah)]) λc=>aD c=true/\newK 3 c (λc d=>wC TP 19 [a,ax,(.slc c 0 1 (some 1) 1),.nilslc] (λc e=>qj c λc=>C5 a b c K e) d) s)
def OQ:iG:=λK s=>wC TP 21 [] (λa b=>wC TP 20 [a,ah] (λa c=>qk a 0 λd=>qk a 1 λa=>qe true 0 true a ah λa=>ai a
 (C6 d a .undef K c)
 (qe false 3 true d .nilptr λe=>C6 d a e K c)) b) s
noncomputable def YM:Code:=iE 3 (aI Tryz.f8)
theorem YN(K:KvP)(env:Env)(s:Hq):wpC TP nA0 Tryz.f8.ntmps none YM env (λe env s=>retK e (resK TP Tryz.f8.results.toList env (λvs=>K (oneV vs) s) s)) s=wN (env 1) K s:=by kernel_rfl
theorem YO(K:KvP)(s:Hq):wpC TP nA0 Tryz.f8.ntmps none (aI Tryz.f8) (d7 []) (λe env s=>retK e (resK TP Tryz.f8.results.toList env (λvs=>K (oneV vs) s) s)) s=OQ K s:=(jo 3 (λenv s=>wN (env 1) K s) (aI Tryz.f8) (by kernel_rfl) (λenv s=>YN K env s) _ s).trans (by kernel_rfl)
theorem YP{K:KvP}{s:Hq}(h:OQ K s):wC TP 8 [] K s:=
 Ak nA0 Tryz.func8 (by kernel_rfl:Tryz.f8.body=some (aI Tryz.f8)) (by kernel_rfl) ((YO K s).mpr h)
def C7:aM:=λa b K s=>qp a b λa=>K a s
def C8:aW:=λa b c K s=>qp b c λb=>ai b
 (wC TP 13 [ah] (λc d=>wC TP 12 [a,c,(qz 9),ah,bF,bT,ah] (λa c=>C7 b a K c) d) s)
 (C7 b .undef K s)
def C9:aW:=λa b c K s=>qp b c λb=>ai b
 (wC TP 13 [ax] (λc d=>wC TP 12 [a,c,(qz 9),(.int .i64 (-1)),bT,bF,ah] (λc e=>C8 a b c K e) d) s)
 (C8 a b .undef K s)
def Da:aW:=λa b c K s=>qp b c λb=>ai b
 (wC TP 25 [a] (λc d=>oK (aq (repl 2 [bF]) [(0,1,bT),(1,1,bT)]) λe=>aD e=true/\newK 4 e (λe f=>wC TP 70 [c,(.slc e 0 2 (some 2) 1)] (λc e=>C9 a b c K e) f) d) s)
 (C9 a b .undef K s)
def YQ:iG:=λK s=>wC TP 8 [] (λa b=>qe true 3 true a .nilptr λc=>ai c
 (wC TP 26 [a] (λd e=>wC TP 13 [ax] (λf g=>oK (aq [bu,ah] [(0,1,f),(1,1,(qz 2))]) λf=>wC TP 13 [(qz 2)] (λh i=>oK (aq [bu,ah] [(0,1,h),(1,1,ax)]) λh=>oK (aq (repl 2 [bu,ah]) [(0,2,(.agg f)),(2,2,(.agg h))]) λf=>aD f=true/\newK 105 f (λf h=>wC TP 38 [d,(.slc f 0 2 (some 2) 2)] (λd f=>Da a c d K f) h) i) g) e) b)
 (Da a c .undef K b)) s
theorem YR:T0 22 YQ:=wOK Tryz.func22
def YS:iG:=λK s=>newK 52 zR1 (λa b=>oK (aq [ah,ah,ah] [(0,1,ah),(1,1,(qz 2)),(2,1,ax)]) λc=>oK (aq [ah,ah,ah] [(0,1,ax),(1,1,(qz 2)),(2,1,ax)]) λd=>oK (aq (repl 2 [ah,ah,ah]) [(0,3,(.agg c)),(3,3,(.agg d))]) λc=>aD c=true/\newK 145 c (λc d=>oK (aq [bu,bu] [(0,1,(.int .u32 100)),(1,1,(.int .u32 1))]) λe=>oK (aq (repl 1 [bu,bu]) [(0,2,(.agg e))]) λe=>aD e=true/\newK 157 e (λe f=>oK (aq zR1 [(0,1,(qz 2)),(1,1,ax),(2,1,(.slc c 0 2 (some 2) 3)),(3,1,(.slc e 0 1 (some 1) 2))]) λc=>newK 52 zR1 (λe g=>qc g 19 e (.agg c) λc=>oK (aq [bu,ah] [(0,1,(.int .u32 167772160)),(1,1,(qz 24))]) λg=>oK (aq iF [(1,1,(.int .u32 10)),(2,1,(.int .u32 2)),(3,2,(.agg g)),(5,1,(.int .u32 167772161))]) λg=>oK (aq iF [(1,1,(.int .u32 20)),(2,1,(.int .u32 3))]) λh=>oK (aq (repl 2 iF) [(0,6,(.agg g)),(6,6,(.agg h))]) λg=>aD g=true/\newK 161 g (λg h=>qf 4 (.ptr e 0) λi=>oK (wr1 h i (.slc g 0 2 (some 2) 6)) λg=>oK (aq (repl 1 [ah]) [(0,1,ah)]) λh=>aD h=true/\newK 3 h (λh i=>oK (aq (repl 2 [ah]) [(0,1,ah),(1,1,ax)]) λj=>aD j=true/\newK 3 j (λj k=>oK (aq [.nilslc,.nilslc] [(0,1,(.slc h 0 1 (some 1) 1)),(1,1,(.slc j 0 2 (some 2) 1))]) λh=>oK (aq (repl 2 [ah]) [(0,1,ah),(1,1,ax)]) λj=>aD j=true/\newK 3 j (λj l=>oK (aq (repl 1 [ah]) [(0,1,ah)]) λm=>aD m=true/\newK 3 m (λm n=>oK (aq [.nilslc,.nilslc] [(0,1,(.slc j 0 2 (some 2) 1)),(1,1,(.slc m 0 1 (some 1) 1))]) λj=>oK (aq (repl 2 [.nilslc,.nilslc]) [(0,2,(.agg h)),(2,2,(.agg j))]) λh=>aD h=true/\newK 163 h (λh j=>qf 5 (.ptr e 0) λm=>oK (wr1 j m (.slc h 0 2 (some 2) 2)) λh=>oK (aq A6 [(0,1,(qz 3)),(1,1,(qz 9)),(2,1,(qz 100)),(3,1,(qz 20)),(4,1,(qz 5)),(5,1,(qz 50))]) λj=>qf 13 (.ptr e 0) λm=>oK (cn h 6 m (.agg j)) λh=>aE h 19 (.ptr e 0) λe=>qc h 19 a (.agg e) λe=>aE e 19 (.ptr a 0) λa=>K (.agg a) e) n) l) k) i) g) c) f) d) b) s
theorem YT:T0 21 YS:=wOK Tryz.func21
def Dc:aM:=λa b K s=>qp a b λa=>K a s
def Dd:aW:=λa b c K s=>qp b c λb=>ai b
 (qe false 0 true a (qz 2) λa=>Dc b a K s)
 (Dc b .undef K s)
def De:ct:=λa b c d K s=>qp c d λc=>ai c
 (qe false 0 true a (qz 3) λa=>Dd b c a K s)
 (Dd b c .undef K s)
def Df:cX:=λa b c d e K s=>qp d e λd=>ai d
 (De b c d a K s)
 (De b c d .undef K s)
def Dg:gC:=λa b c d e f K s=>qp e f λe=>ai e
 (Df b c d e a K s)
 (Df b c d e .undef K s)
def Dh:gD:=λa b c d e f g K s=>qp f g λf=>ai f
 (Dg b c d e f a K s)
 (Dg b c d e f .undef K s)
def wO:ct:=λa b c d K s=>oK (aq zR1 []) λe=>wC TP 20 [(.agg e),ah] (λe f=>qk e 0 λg=>qk e 1 λe=>wC TP 21 [] (λg h=>wC TP 20 [g,(qz 3)] (λg i=>qk g 0 λj=>qk g 1 λg=>wC TP 22 [] (λj k=>ai j
 (Dh b c d e g j a K k)
 (Dh b c d e g j .undef K k)) i) h) f) s
def Di:cX:=λa b c d e K s=>qp d e λd=>wO a b c d K s
def Dk:gC:=λa b c d e f K s=>qp e f λe=>ai e
 (wC TP 11 [a] (λa f=>qh a λa=>qe false 0 true (.int .i64 a) ah λa=>Di b c d e a K f) s)
 (Di b c d e .undef K s)
def Dl:gC:=λa b c d e f K s=>qp e f λe=>ai e
 (wC TP 19 [a,(qz 5),.nilslc,.nilslc] (λf g=>Dk a b c d e f K g) s)
 (Dk a b c d e .undef K s)
def Dm:gD:=λa b c d e f g K s=>qp f g λf=>ai f
 (qe false 0 true e (qz 2) λe=>Dl a b c d f e K s)
 (Dl a b c d f .undef K s)
def wP:ct:=λa b c d K s=>wC TP 16 [(qz 2),ax,.nilslc] (λe f=>wC TP 17 [a,ax,e] (λe g=>qk e 0 λh=>qk e 1 λe=>oK (aq (repl 1 [ah]) [(0,1,ah)]) λh=>aD h=true/\newK 3 h (λh i=>wC TP 18 [a,(qz 2),(.slc h 0 1 (some 1) 1)] (λh j=>qk h 0 λk=>qk h 1 λh=>oK (aq (repl 1 [ah]) [(0,1,ax)]) λk=>aD k=true/\newK 3 k (λk l=>wC TP 18 [a,(qz 3),(.slc k 0 1 (some 1) 1)] (λk m=>qk k 0 λn=>qk k 1 λk=>qe false 0 true e (qz 2) λe=>ai e
 (qe false 0 true h (qz 20) λh=>Dm a b c d k e h K m)
 (Dm a b c d k e .undef K m)) l) j) i) g) f) s
def Do:cX:=λa b c d e K s=>qp d e λd=>wP a b c d K s
def wQ:aW:=λa b c K s=>wC TP 16 [ah,(qz 5),.nilslc] (λd e=>oK (aq (repl 1 [ah]) [(0,1,ah)]) λf=>aD f=true/\newK 3 f (λf g=>wC TP 16 [ah,(qz 6),(.slc f 0 1 (some 1) 1)] (λf h=>oK (aq (repl 1 [ah,ah,.nilslc]) [(0,3,f)]) λf=>aD f=true/\newK 34 f (λf i=>wC TP 15 [a,d,(.slc f 0 1 (some 1) 3)] (λd f=>ai d
 (oK (aq (repl 1 [ah]) [(0,1,ah)]) λj=>aD j=true/\newK 3 j (λj k=>wC TP 16 [(qz 2),ax,(.slc j 0 1 (some 1) 1)] (λj l=>oK (aq (repl 2 [ah]) [(0,1,ah),(1,1,ax)]) λm=>aD m=true/\newK 3 m (λm n=>wC TP 16 [(qz 2),ax,(.slc m 0 2 (some 2) 1)] (λm o=>oK (aq (repl 1 [ah,ah,.nilslc]) [(0,3,m)]) λm=>aD m=true/\newK 34 m (λm p=>wC TP 15 [a,j,(.slc m 0 1 (some 1) 3)] (λj m=>Do a b c d j K m) p) o) n) l) k) f)
 (Do a b c d .undef K f)) i) h) g) e) s
def Dp:ct:=λa b c d K s=>qp c d λc=>wQ a b c K s
def Dq:ct:=λa b c d K s=>qp c d λc=>ai c
 (wC TP 14 [(qz 2)] (λd e=>wC TP 12 [a,d,(qz 9),(.int .i64 (-1)),bF,bF,(qz 13)] (λd f=>Dp a b c d K f) e) s)
 (Dp a b c .undef K s)
def Dr:ct:=λa b c d K s=>qp c d λc=>ai c
 (wC TP 14 [ax] (λd e=>wC TP 12 [a,d,(qz 9),(.int .i64 (-1)),bT,bF,ah] (λd f=>Dq a b c d K f) e) s)
 (Dq a b c .undef K s)
def wR:aM:=λa b K s=>wC TP 14 [ah] (λc d=>wC TP 12 [a,c,(qz 9),(.int .i64 (-1)),bT,bF,ah] (λc e=>ai c
 (wC TP 14 [ah] (λf g=>wC TP 12 [a,f,(qz 9),ah,bF,bT,ah] (λf h=>Dr a b c f K h) g) e)
 (Dr a b c .undef K e)) d) s
def Ds:aW:=λa b c K s=>qp b c λb=>wR a b K s
def Dt:aW:=λa b c K s=>qp b c λb=>ai b
 (wC TP 13 [ax] (λc d=>wC TP 12 [a,c,ax,(.int .i64 (-1)),bF,bF,(qz 20)] (λc e=>Ds a b c K e) d) s)
 (Ds a b .undef K s)
def Du:aW:=λa b c K s=>qp b c λb=>ai b
 (wC TP 13 [(qz 8)] (λc d=>wC TP 12 [a,c,(qz 9),(.int .i64 (-1)),bF,bF,(qz 13)] (λc e=>Dt a b c K e) d) s)
 (Dt a b .undef K s)
def wS:aY:=λa K s=>wC TP 10 [a] (λb c=>oK (aq (repl 1 [ah]) [(0,1,ah)]) λd=>aD d=true/\newK 3 d (λd e=>wC TP 9 [b,(.slc d 0 1 (some 1) 1)] (λb d=>ai b
 (wC TP 11 [a] (λf g=>oK (aq (repl 1 [ah]) [(0,1,ah)]) λh=>aD h=true/\newK 3 h (λh i=>wC TP 9 [f,(.slc h 0 1 (some 1) 1)] (λf h=>Du a b f K h) i) g) d)
 (Du a b .undef K d)) e) c) s
def OR:iG:=λK s=>wC TP 8 [] (λa b=>qe false 3 true a .nilptr λc=>ai c
 (K bF b)
 (wS a K b)) s
noncomputable def Dv:Code:=iE 3 (aI Tryz.f3)
noncomputable def Dw:Code:=iE 1 Dv
noncomputable def Dx:Code:=iE 1 Dw
noncomputable def Dy:Code:=iE 1 Dx
noncomputable def YU:Code:=iE 4 Dy
theorem YV(K:KvP)(env:Env)(s:Hq):wpC TP nA0 Tryz.f3.ntmps none YU env (λe env s=>retK e (resK TP Tryz.f3.results.toList env (λvs=>K (oneV vs) s) s)) s=wO (env 2) (env 3) (env 4) (env 11) K s:=by kernel_rfl
theorem YW(K:KvP)(env:Env)(s:Hq):wpC TP nA0 Tryz.f3.ntmps none Dy env (λe env s=>retK e (resK TP Tryz.f3.results.toList env (λvs=>K (oneV vs) s) s)) s=wP (env 1) (env 2) (env 3) (env 4) K s:=(jo 4 (λenv s=>wO (env 2) (env 3) (env 4) (env 11) K s) Dy (by kernel_rfl) (λenv s=>YV K env s) env s).trans (by kernel_rfl)
theorem YX(K:KvP)(env:Env)(s:Hq):wpC TP nA0 Tryz.f3.ntmps none Dx env (λe env s=>retK e (resK TP Tryz.f3.results.toList env (λvs=>K (oneV vs) s) s)) s=wQ (env 1) (env 2) (env 3) K s:=(jo 1 (λenv s=>wP (env 1) (env 2) (env 3) (env 4) K s) Dx (by kernel_rfl) (λenv s=>YW K env s) env s).trans (by kernel_rfl)
theorem YY(K:KvP)(env:Env)(s:Hq):wpC TP nA0 Tryz.f3.ntmps none Dw env (λe env s=>retK e (resK TP Tryz.f3.results.toList env (λvs=>K (oneV vs) s) s)) s=wR (env 1) (env 2) K s:=(jo 1 (λenv s=>wQ (env 1) (env 2) (env 3) K s) Dw (by kernel_rfl) (λenv s=>YX K env s) env s).trans (by kernel_rfl)
theorem YZ(K:KvP)(env:Env)(s:Hq):wpC TP nA0 Tryz.f3.ntmps none Dv env (λe env s=>retK e (resK TP Tryz.f3.results.toList env (λvs=>K (oneV vs) s) s)) s=wS (env 1) K s:=(jo 1 (λenv s=>wR (env 1) (env 2) K s) Dv (by kernel_rfl) (λenv s=>YY K env s) env s).trans (by kernel_rfl)
theorem Y0(K:KvP)(s:Hq):wpC TP nA0 Tryz.f3.ntmps none (aI Tryz.f3) (d7 []) (λe env s=>retK e (resK TP Tryz.f3.results.toList env (λvs=>K (oneV vs) s) s)) s=OR K s:=(jo 3 (λenv s=>wS (env 1) K s) (aI Tryz.f3) (by kernel_rfl) (λenv s=>YZ K env s) _ s).trans (by kernel_rfl)
theorem Y1{K:KvP}{s:Hq}(h:OR K s):wC TP 3 [] K s:=
 Ak nA0 Tryz.func3 (by kernel_rfl:Tryz.f3.body=some (aI Tryz.f3)) (by kernel_rfl) ((Y0 K s).mpr h)
end Go.AM
