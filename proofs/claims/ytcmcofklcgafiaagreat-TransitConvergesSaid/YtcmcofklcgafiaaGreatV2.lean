/- Part V2 of the proof: see the last part. -/
import Derived.Test.YtcmcofklcgafiaaGreatV
import Derived.Test.YtcmcofklcgafiaaGreatA3
open Go renaming LoopState→dg
set_option linter.unusedVariables false
namespace Go.AM
open Go Go.Proofs List Nat
set_option maxRecDepth 100000
def yf:cA:=λa b c K s=>qt b c λb=>ao b
 (K (.tup [.nilptr,(qz 2)]) s)
 (oK (aM [an,an,.nilptr,.nilptr,an,an] [(0,1,a)]) λa=>boxK 211 (.agg a) (λa b=>K (.tup [a,an]) b) s)
def Pf:cz:=λa K s=>ax .lss a aO λb=>ao b
 (yf a b .undef K s)
 (ax .gtr a (qz 1000) λc=>yf a b c K s)
theorem Wa:T1 67 Pf:=wOK Tryz.func67
def Pg:cz:=λa K s=>K (.tup [a,an]) s
def nA:cA:=λa b c K s=>ao c
 (bK a 1 s λd=>wC TP 110 [d] (λd e=>qs a 1 e d λd=>qr d b λb=>qs a 4 d b λb=>bK a 5 b λd=>ax .add d aO λd=>qs a 5 b d λa=>Pg c K a) s)
 (Pg c K s)
def sS:fH:=λa b c d e K s=>qp d e λd=>ao d
 (K (.tup [bF,(qz 20)]) s)
 (∃d:Hq,Sub d s/\
 bK a 1 d λe=>qr d c λf=>wC TP 109 [] (λg h=>oK (wJ 2 1 none g e) λe=>funK TP e [a,f,b] (λe f=>qs a 2 f c λf=>ao b
 (qs a 3 f c λb=>nA a c e K b)
 (nA a c e K f)) (add d h)) (lock s d))
def yg:fH:=λa b c d e K s=>qt d e λd=>ao d
 (K (.tup [bF,(qz 2)]) s)
 (bK a 2 s λd=>qe true 3 true d .nilptr λd=>ao d
 (qr s c λe=>bK a 2 s λf=>oK (eX f) λf=>qr s f λf=>ax .leq e f λe=>sS a b c d e K s)
 (sS a b c d .undef K s))
def Wc:cA:=λa b c K s=>boxK 3 b (λb d=>wC TP 97 [a] (λe f=>qj e λe=>ao e
 (K (.tup [bF,aO]) f)
 (qr f b λe=>ax .lss e an λe=>ao e
 (yg a c b e .undef K f)
 (qr f b λg=>ax .gtr g (qz 1099511627776) λg=>yg a c b e g K f))) d) s
def We:Nat->List Nat:=anL [(3000007,[1]),(2000028,[1,2,3,4,6,7,8]),(2000029,[0]),(2000031,[5,9,10])]
theorem Wf:T3 57 Wc:=wOK Tryz.func57 We
def D8:cz:=λa K s=>K a s
def sT:bP:=λa b K s=>ax .rem a b λa=>ax .lss a an λc=>ao c
 (ax .add a b λb=>D8 b K s)
 (D8 a K s)
theorem D9:T2 32 sT:=wOK Tryz.func32
def Ea:bP:=λa b K s=>qp a b λa=>K a s
def Wg:cz:=λa K s=>wC TP 97 [a] (λb c=>ao b
 (bK a 1 c λa=>qe false 0 true a aO λa=>Ea b a K c)
 (Ea b .undef K c)) s
theorem Wi:T1 45 Wg:=wOK Tryz.func45
def Eb:bP:=λa b K s=>qp a b λa=>K a s
def Ph:cz:=λa K s=>qe true 3 true a .nilptr λb=>ao b
 (bK a 0 s λa=>ax .gtr a an λa=>Eb b a K s)
 (Eb b .undef K s)
theorem Wj:T1 97 Ph:=wOK Tryz.func97
def Wm:l8:=λK s=>newK 228 [.nilFunc,.nilFunc] (λa b=>oK (aM [.nilFunc,.nilFunc] [(0,1,(.fn (.func 141) [] [])),(1,1,(.fn (.func 142) [] []))]) λc=>qc b 2 a (.agg c) λb=>aY b 2 (.ptr a 0) λa=>K (.agg a) b) s
theorem Wo:T0 109 Wm:=wOK Tryz.func109
def Pi:cz:=λa K s=>ax .sub aO a λa=>K a s
theorem Wp:T1 110 Pi:=wOK Tryz.func110
def Pj:bP:=λa b K s=>ax .add b a λa=>K a s
theorem Wq:T2 143 Pj:=wOK Tryz.func143
def sU:bP:=λa b K s=>qp a b λa=>K a s
def sV:dY:=λa b c d K s=>qp c d λc=>ao c
 (bK a 3 s λa=>oK (eX a) λa=>qr s a λa=>ax .sub b aO λb=>qe false 0 false a b λa=>sU c a K s)
 (sU c .undef K s)
def yh:cA:=λa b c K s=>ao c
 (bK a 3 s λd=>qe true 3 true d .nilptr λd=>sV a b c d K s)
 (sV a b c .undef K s)
theorem Wr:T3 141 yh:=wOK Tryz.func141
def sW:bP:=λa b K s=>qp a b λa=>K a s
def sX:dY:=λa b c d K s=>qp c d λc=>ao c
 (bK a 0 s λd=>bK a 3 s λa=>oK (eX a) λa=>qr s a λa=>wC TP 143 [d,a] (λa d=>ax .geq b a λa=>sW c a K d) s)
 (sW c .undef K s)
def yi:cA:=λa b c K s=>qj c λc=>ao c
 (bK a 3 s λd=>qe true 3 true d .nilptr λd=>sX a b c d K s)
 (sX a b c .undef K s)
theorem Ws:T3 142 yi:=wOK Tryz.func142
def Ec:cA:=λa b c K s=>qt b c λb=>ao b
 (K (qz 2) s)
 (qd 2 a s λa=>wC TP 111 [a] (λa b=>K a b) s)
def Ee:cA:=λa b c K s=>qt b c λb=>ao b
 (Ec a b .undef K s)
 (qd 1 a s λc=>ax .gtr c (qz 1073741824) λc=>Ec a b c K s)
def Ef:cA:=λa b c K s=>qt b c λb=>ao b
 (Ee a b .undef K s)
 (qd 1 a s λc=>ax .lss c aO λc=>Ee a b c K s)
def Wu:bP:=λa b K s=>boxK 34 b (λb c=>qd 0 b c λd=>ax .lss d an λd=>ao d
 (Ef b d .undef K c)
 (qd 0 b c λe=>ax .geq e a λa=>Ef b d a K c)) s
theorem Wv:T2 100 Wu:=wOK Tryz.func100
def Ww:bP:=λa b K s=>boxK 34 a (λa c=>boxK 34 b (λb d=>∃e:Hq,Sub e d/\
 qd 1 a e λf=>qd 1 b e λg=>qd 2 a e λa=>qd 2 b e λb=>wC TP 138 [f,g] (λf g=>wC TP 139 [a,b] (λa b=>oK (aM (repl 2 [an]) [(0,1,f),(1,1,a)]) λa=>aX a=true/\newK 3 a (λa f=>wC TP 137 [(.slc a 0 2 (some 2) 1)] (λa h=>K a h) f) b) (add e g)) (lock d e)) c) s
def Wx:Nat->List Nat:=anL [(3000001,[1]),(2000004,[0,1,2,3,5,6,7,8]),(2000005,[4]),(2000007,[9,10,11,12])]
theorem Wy:T2 101 Ww:=wOK Tryz.func101 Wx
def Eg:dY:=λa b c d K s=>qt c d λc=>ao c
 (K (.tup [.nilptr,(qz 2)]) s)
 (mapK (λc d=>oK (aM [an,an,an,.nilmap] [(0,1,a),(1,1,b),(3,1,c)]) λa=>boxK 217 (.agg a) (λa b=>K (.tup [a,an]) b) d) s)
def Eh:dY:=λa b c d K s=>qt c d λc=>ao c
 (Eg a b c .undef K s)
 (ax .geq b a λd=>Eg a b c d K s)
def Ei:dY:=λa b c d K s=>qt c d λc=>ao c
 (Eh a b c .undef K s)
 (ax .lss b an λd=>Eh a b c d K s)
def Pm:bP:=λa b K s=>ax .lss a aO λc=>ao c
 (Ei a b c .undef K s)
 (ax .gtr a (qz 32) λd=>Ei a b c d K s)
theorem Wz:T2 64 Pm:=wOK Tryz.func64
def Po:cY:=λa b c d e I0 m0 K s=>ax .lss e d λd=>ao d
 (qx 1 c e s λc=>bK a 3 s λa=>oK (getM s a c) λa=>wC TP 102 [(retM (.agg [an,an,.nilslc]) false a)] (λa c=>oK (aM (repl 1 [an,an,.nilslc]) [(0,3,a)]) λa=>aX a=true/\newK 34 a (λa d=>appK 34 3 b (.slc a 0 1 (some 1) 3) (λa f=>ax .add e aO λe=>aS m0 (I0 [a,e] f)) d) c) s)
 (K b s)
def WA:cz:=λa K s=>wC TP 99 [a] (λb c=>qj b λb=>ao b
 (K .nilslc c)
 (bK a 3 c λb=>oK (lenM c b) λb=>oK (nat? an) λd=>oK (nat? (.int .i64 b)) λb=>(d<=b/\b<=4294967296)/\newK 34 (repl b [an,an,.nilslc]) (λe g=>bK a 3 g λh=>wC TP 114 [h] (λh i=>wC TP 42 [h] (λh j=>qh h λk=>bG [(.slc e 0 d (some b) 3),an] j (λf=>[f 3,f 22]) λI0 f s m0=>Po a (f 3) h (.int .i64 k) (f 22) I0 m0 K s) i) g) c)) s
def WB:Nat->List Nat:=anL [(10,[3,22])]
theorem WC:T1 60 WA:=wOK Tryz.func60 WB
def yj:cY:=λa b c d e I1 m1 K s=>qp d e λd=>qi 1 b c λb=>oK (wr1 s b d) λb=>ax .add a aO λa=>aS m1 (I1 [a] b)
def Pq:cY:=λa b c d e I1 m1 K s=>ax .lss e d λd=>ao d
 (qi 3 c e λc=>aY s 3 c λc=>newK 145 [an,an,an] (λd f=>qc f 3 d (.agg c) λc=>qd 0 (.ptr d 0) c λf=>wC TP 119 [a,f,e] (λf g=>ao f
 (qd 1 (.ptr d 0) g λd=>wC TP 119 [a,d,e] (λa d=>yj e b e f a I1 m1 K d) g)
 (yj e b e f .undef I1 m1 K g)) c) s)
 (K b s)
def Ej:dY:=λa b c d K s=>qt c d λc=>ao c
 (K .nilslc s)
 (qh b λc=>oK (nat? (.int .i64 c)) λd=>oK (nat? (.int .i64 c)) λc=>(d<=c/\c<=4294967296)/\newK 4 (repl c [bF]) (λe g=>qh b λh=>bG [an] g (λf=>[f 21]) λI1 f s m1=>Pq a (.slc e 0 d (some c) 1) b (.int .i64 h) (f 21) I1 m1 K s) s)
def WD:bP:=λa b K s=>wC TP 99 [a] (λc d=>qj c λc=>ao c
 (Ej a b c .undef K d)
 (qh b λe=>ax .gtr (.int .i64 e) (qz 128) λe=>Ej a b c e K d)) s
def WE:Nat->List Nat:=anL [(10,[21])]
theorem WF:T2 69 WD:=wOK Tryz.func69 WE
def nC:fH:=λa b c d e K s=>ao e
 (K (.tup [(qz 2),an]) s)
 (oK (aM [bF,bF,an] [(0,1,bT),(1,1,bT),(2,1,aO)]) λe=>oK (negB false (fF TP 219 d (.agg e))) λd=>ao d
 (aY s 3 c λc=>qd 1 b s λb=>wC TP 103 [a,(.agg c),b] (λa b=>qk a 0 λc=>qk a 1 λa=>K (.tup [c,a]) b) s)
 (K (.tup [an,an]) s))
def lj:fH:=λa b c d e K s=>ao e
 (∃e:Hq,Sub e s/\
 bK a 3 e λf=>qd 0 b e λg=>aY e 3 b λh=>wC TP 102 [(.agg h)] (λh i=>oK (putM (add e i) f g h) λf=>K (.tup [aO,an]) f) (lock s e))
 (oK (aM [bF,bF,an] [(0,1,bT)]) λe=>oK (negB false (fF TP 219 d (.agg e))) λe=>ao e
 (bK a 2 s λe=>qd 1 b s λf=>oK (im max2A e [f]) λe=>qs a 2 s e λe=>K (.tup [an,an]) e)
 (oK (aM [bF,bF,an] [(1,1,bT),(2,1,(.int .i64 (-1)))]) λe=>oK (negB false (fF TP 219 d (.agg e))) λe=>ao e
 (nC a b c d e K s)
 (oK (aM [bF,bF,an] [(0,1,bT),(1,1,bT),(2,1,(.int .i64 (-1)))]) λe=>oK (negB false (fF TP 219 d (.agg e))) λe=>nC a b c d e K s)))
def o8:dY:=λa b c d K s=>aY s 3 d λd=>oK (aM [bF,bF,an] []) λe=>oK (negB false (fF TP 219 (.agg d) (.agg e))) λe=>ao e
 (lj a b c (.agg d) e K s)
 (oK (aM [bF,bF,an] [(1,1,bT),(2,1,aO)]) λe=>oK (negB false (fF TP 219 (.agg d) (.agg e))) λe=>lj a b c (.agg d) e K s)
def WG:bP:=λa b K s=>boxK 34 b (λb c=>wC TP 99 [a] (λd e=>qj d λd=>ao d
 (K (.tup [an,aO]) e)
 (bK a 0 e λd=>aY e 3 b λf=>wC TP 100 [d,(.agg f)] (λd f=>qe true 0 true d an λg=>ao g
 (K (.tup [an,d]) f)
 (bK a 3 f λd=>qd 0 b f λg=>oK (getM f d g) λd=>qk (retM (.agg [an,an,.nilslc]) true d) 0 λg=>qk (retM (.agg [an,an,.nilslc]) true d) 1 λd=>newK 34 [an,an,.nilslc] (λh i=>qc i 3 h g λg=>qd 0 b g λi=>bK a 1 g λj=>qe false 0 false i j λi=>oK (aM [bF,bF,an] [(0,1,i),(1,1,d)]) λi=>newK 219 [bF,bF,an] (λj k=>qc k 3 j (.agg i) λi=>ao d
 (aY i 3 b λd=>aY i 3 (.ptr h 0) λk=>wC TP 101 [(.agg d),(.agg k)] (λd k=>qf 2 (.ptr j 0) λl=>oK (wr1 k l d) λd=>o8 a b (.ptr h 0) (.ptr j 0) K d) i)
 (o8 a b (.ptr h 0) (.ptr j 0) K i)) g) f)) e)) c) s
def WI:Nat->List Nat:=anL [(3000006,[0]),(2000024,[0,1,2,3,4,5,6,7,8,9]),(2000026,[10]),(2000027,[11,12]),(3000007,[0]),(2000028,[0,1,2,3,4,5,6,7,8]),(2000030,[9]),(2000031,[10]),(3000013,[1]),(2000052,[0,1,2,3,4,5,6]),(2000053,[7]),(2000055,[8])]
theorem WJ:T2 50 WG:=wOK Tryz.func50 WI
def WK:bP:=λa b K s=>newK 34 [an,an,.nilslc] (λc d=>wC TP 99 [a] (λe f=>qj e λe=>ao e
 (oK (aM [an,an,.nilslc] []) λe=>qc f 3 c (.agg e) λe=>aY e 3 (.ptr c 0) λg=>K (.tup [(.agg g),bF]) e)
 (bK a 3 f λa=>oK (getM f a b) λa=>qk (retM (.agg [an,an,.nilslc]) true a) 0 λb=>qk (retM (.agg [an,an,.nilslc]) true a) 1 λa=>newK 34 [an,an,.nilslc] (λe g=>qc g 3 e b λb=>aY b 3 (.ptr e 0) λe=>wC TP 102 [(.agg e)] (λe g=>qc g 3 c e λe=>aY e 3 (.ptr c 0) λc=>K (.tup [(.agg c),a]) e) b) f)) d) s
theorem WL:T2 55 WK:=wOK Tryz.func55
def Pr:dM:=λa b c I0 m0 K s=>qh a λd=>ax .lss c (.int .i64 d) λd=>ao d
 (qx 1 a c s λa=>qx 1 b c s λb=>qe true 0 false a b λa=>ao a
 (K bF s)
 (ax .add c aO λa=>aS m0 (I0 [a] s)))
 (K bT s)
def Ps:bP:=λa b K s=>qh a λc=>qh b λd=>qe true 0 false (.int .i64 c) (.int .i64 d) λc=>ao c
 (K bF s)
 (bG [an] s (λf=>[f 5]) λI0 f s m0=>Pr a b (f 5) I0 m0 K s)
def WM:Nat->List Nat:=anL [(8,[5])]
theorem WN:T2 9 Ps:=wOK Tryz.func9 WM
def Ek:kq:=λa b c d e f K s=>qp e f λe=>ao e
 (aY s 3 d λd=>wC TP 102 [(.agg d)] (λd e=>oK (dP e 3 c d) λd=>aY d 3 c λe=>K (.tup [(.agg e),bF,an]) d) s)
 (bK a 2 s λd=>ax .geq d (qz 1073741824) λd=>ao d
 (oK (aM [an,an,.nilslc] []) λd=>oK (dP s 3 c (.agg d)) λd=>aY d 3 c λe=>K (.tup [(.agg e),bF,(qz 7)]) d)
 (bK a 2 s λd=>ax .add d aO λd=>wC TP 113 [a,b,d] (λa b=>wC TP 102 [a] (λa d=>oK (dP d 3 c a) λa=>aY a 3 c λc=>K (.tup [(.agg c),bT,an]) a) b) s))
def WO:bP:=λa b K s=>newK 34 [an,an,.nilslc] (λc d=>wC TP 99 [a] (λe f=>qj e λe=>ao e
 (oK (aM [an,an,.nilslc] []) λe=>qc f 3 c (.agg e) λe=>aY e 3 (.ptr c 0) λg=>K (.tup [(.agg g),bF,aO]) e)
 (wC TP 111 [b] (λe g=>qe true 0 true e an λh=>ao h
 (oK (aM [an,an,.nilslc] []) λh=>qc g 3 c (.agg h) λh=>aY h 3 (.ptr c 0) λi=>K (.tup [(.agg i),bF,e]) h)
 (bK a 3 g λe=>bK a 1 g λh=>oK (getM g e h) λe=>qk (retM (.agg [an,an,.nilslc]) true e) 0 λh=>qk (retM (.agg [an,an,.nilslc]) true e) 1 λe=>newK 34 [an,an,.nilslc] (λi j=>qc j 3 i h λh=>ao e
 (qd 2 (.ptr i 0) h λj=>wC TP 112 [j,b] (λj k=>Ek a b (.ptr c 0) (.ptr i 0) e j K k) h)
 (Ek a b (.ptr c 0) (.ptr i 0) e .undef K h)) g)) f)) d) s
def WP:Nat->List Nat:=anL [(3000006,[0]),(2000024,[0,1,2,3,4,5,6,7,8,9,10,11]),(2000026,[12]),(2000027,[13,14])]
theorem WQ:T2 58 WO:=wOK Tryz.func58 WP
def o9:dM:=λa b c I0 m0 K s=>qp b c λb=>ao b
 (K (qz 10) s)
 (ax .add a aO λa=>aS m0 (I0 [a] s))
def El:dC:=λa b c d e f I0 m0 K s=>qt e f λe=>ao e
 (K (qz 2) s)
 (ax .gtr b an λe=>ao e
 (ax .sub b aO λb=>qx 1 a b s λa=>ax .leq c a λa=>o9 d e a I0 m0 K s)
 (o9 d e .undef I0 m0 K s))
def Pu:c9:=λa b c d I0 m0 K s=>ax .lss d c λc=>ao c
 (qx 1 b d s λb=>ax .lss b an λc=>ao c
 (El a d b d c .undef I0 m0 K s)
 (ax .geq b (qz 128) λe=>El a d b d c e I0 m0 K s))
 (K an s)
def Pv:cz:=λa K s=>qh a λb=>bG [an] s (λf=>[f 7]) λI0 f s m0=>Pu a a (.int .i64 b) (f 7) I0 m0 K s
def WS:Nat->List Nat:=anL [(4,[7])]
theorem WT:T1 111 Pv:=wOK Tryz.func111 WS
def Pw:c9:=λa b c d I0 m0 K s=>ax .lss d c λc=>ao c
 (qx 1 b d s λb=>qe true 0 false b a λc=>ao c
 (K b s)
 (ax .add d aO λb=>aS m0 (I0 [b] s)))
 (K a s)
def Px:cz:=λa K s=>qh a λb=>bG [an] s (λf=>[f 8]) λI0 f s m0=>Pw an a (.int .i64 b) (f 8) I0 m0 K s
def WU:Nat->List Nat:=anL [(6,[8])]
theorem WV:T1 137 Px:=wOK Tryz.func137 WU
def WW:bP:=λa b K s=>wC TP 140 [a] (λc d=>wC TP 140 [b] (λe f=>ao c
 (ao e
 (K an f)
 (K (.int .i64 (-1)) f))
 (ao e
 (K aO f)
 (ax .lss a b λc=>ao c
 (K (.int .i64 (-1)) f)
 (ax .gtr a b λa=>ao a
 (K aO f)
 (K an f))))) d) s
theorem WX:T2 138 WW:=wOK Tryz.func138
def Py:cY:=λa b c d e I0 m0 K s=>ax .lss e d λd=>ao d
 (qx 1 c e s λc=>qh b λd=>ax .geq e (.int .i64 d) λd=>ao d
 (K aO s)
 (qx 1 b e s λd=>wC TP 138 [c,d] (λc d=>qe true 0 true c an λf=>ao f
 (K c d)
 (ax .add e aO λc=>aS m0 (I0 [c] d))) s))
 (qh a λa=>qh b λb=>ax .lss (.int .i64 a) (.int .i64 b) λa=>ao a
 (K (.int .i64 (-1)) s)
 (K an s))
def Pz:bP:=λa b K s=>qh a λc=>bG [an] s (λf=>[f 11]) λI0 f s m0=>Py a b a (.int .i64 c) (f 11) I0 m0 K s
def WY:Nat->List Nat:=anL [(4,[11])]
theorem WZ:T2 139 Pz:=wOK Tryz.func139 WY
def yk:bP:=λa b K s=>qp a b λa=>K a s
def Em:cz:=λa K s=>qe true 3 true a .nilptr λb=>ao b
 (bK a 0 s λa=>ax .gtr a an λa=>yk b a K s)
 (yk b .undef K s)
theorem PA:T1 99 Em:=wOK Tryz.func99
def W1:cz:=λa K s=>boxK 34 a (λa b=>newK 34 [an,an,.nilslc] (λc d=>qd 2 a d λe=>wC TP 105 [e] (λe f=>qf 2 a λg=>oK (wr1 f g e) λe=>aY e 3 a λa=>qc e 3 c (.agg a) λa=>aY a 3 (.ptr c 0) λc=>K (.agg c) a) d) b) s
theorem PB:T1 102 W1:=wOK Tryz.func102
def PC:cA:=λa b c K s=>bK a 3 s λa=>oK (getM s a b) λa=>oK (wI none 2 (retM (.agg [an,an,.nilslc]) false a)) λa=>wC TP 56 [a,c] (λa b=>qk a 0 λc=>qk a 1 λa=>K a b) s
theorem W2:T3 119 PC:=wOK Tryz.func119
def W3:cA:=λa b c K s=>boxK 34 b (λb d=>ax .geq c (qz 1073741824) λe=>ao e
 (K (.tup [an,(qz 7)]) d)
 (qd 2 b d λb=>ax .add c aO λc=>wC TP 113 [a,b,c] (λa a=>K (.tup [(qz 3),an]) a) d)) s
theorem W4:T3 103 W3:=wOK Tryz.func103
def PD:c9:=λa b c d I0 m0 K s=>ax .lss d c λc=>ao c
 (qx 1 a d s λa=>qx 1 b d s λb=>qe true 0 false a b λa=>ao a
 (K bF s)
 (ax .add d aO λa=>aS m0 (I0 [a] s)))
 (K bT s)
def PE:bP:=λa b K s=>qh a λc=>qh b λd=>qe true 0 false (.int .i64 c) (.int .i64 d) λc=>ao c
 (K bF s)
 (qh a λc=>bG [an] s (λf=>[f 13]) λI0 f s m0=>PD a b (.int .i64 c) (f 13) I0 m0 K s)
def W5:Nat->List Nat:=anL [(8,[13])]
theorem W6:T2 112 PE:=wOK Tryz.func112 W5
def W7:cA:=λa b c K s=>newK 34 [an,an,.nilslc] (λd e=>∃f:Hq,Sub f e/\
 bK a 1 f λg=>wC TP 105 [b] (λb h=>oK (aM [an,an,.nilslc] [(0,1,g),(1,1,c),(2,1,b)]) λb=>newK 34 [an,an,.nilslc] (λg i=>qc i 3 g (.agg b) λb=>qs a 2 b c λb=>bK a 3 b λc=>bK a 1 b λa=>aY b 3 (.ptr g 0) λi=>oK (putM b c a (.agg i)) λa=>aY a 3 (.ptr g 0) λb=>qc a 3 d (.agg b) λa=>aY a 3 (.ptr d 0) λb=>K (.agg b) a) (add f h)) (lock e f)) s
def W8:Nat->List Nat:=anL [(3000001,[1]),(2000004,[0,1,2,3,4,5]),(2000005,[6,7]),(2000006,[8]),(2000007,[9])]
theorem W9:T3 113 W7:=wOK Tryz.func113 W8
def PF:cz:=λa K s=>qe true 0 false a a λa=>K a s
theorem Xa:T1 140 PF:=wOK Tryz.func140
def me:cz:=λa K s=>qe false 5 true a .nilslc λb=>ao b
 (K .nilslc s)
 (oK (aM (repl 0 [an]) []) λb=>aX b=true/\newK 3 b (λb c=>appK 3 1 (.slc b 0 0 (some 0) 1) a (λa b=>K a b) c) s)
theorem yl:T1 105 me:=wOK Tryz.func105
def PH:fH:=λa b c d e K s=>qp d e λd=>qt c d λc=>qp b c λb=>K (.tup [a,b]) s
def PI:cY:=λa b c d e I0 m0 K s=>ax .lss d e λf=>ao f
 (ax .add d e λf=>oK (dX .u64 f) λf=>oK (fN .shr f (.int .u64 1)) λf=>oK (dX .i64 f) λf=>qx 1 a f s λg=>wC TP 107 [g,b] (λg h=>ao g
 (ax .add f aO λg=>aS m0 (I0 [g,e] h))
 (aS m0 (I0 [d,f] h))) s)
 (ax .lss d c λc=>ao c
 (qx 1 a d s λe=>qe false 0 false e b λe=>ao e
 (qt e .undef λf=>qp c f λf=>K (.tup [d,f]) s)
 (qx 1 a d s λa=>wC TP 108 [a] (λa f=>ao a
 (wC TP 108 [b] (λb g=>PH d c e a b K g) f)
 (PH d c e a .undef K f)) s))
 (qp c .undef λa=>K (.tup [d,a]) s))
def PJ:bP:=λa b K s=>qh a λc=>bG [an,(.int .i64 c)] s (λf=>[f 7,f 8]) λI0 f s m0=>PI a b (.int .i64 c) (f 7) (f 8) I0 m0 K s
def Xb:Nat->List Nat:=anL [(6,[7,8])]
theorem Xc:T2 56 PJ:=wOK Tryz.func56 Xb
def En:bP:=λa b K s=>qt a b λa=>K a s
def Eo:dY:=λa b c d K s=>qp c d λc=>ao c
 (En c .undef K s)
 (ax .lss a b λa=>En c a K s)
def Xd:bP:=λa b K s=>wC TP 140 [a] (λc d=>ao c
 (wC TP 140 [b] (λe f=>qj e λe=>Eo a b c e K f) d)
 (Eo a b c .undef K d)) s
theorem Xe:T2 107 Xd:=wOK Tryz.func107
def PK:cz:=λa K s=>qe true 0 false a a λa=>K a s
theorem Xf:T1 108 PK:=wOK Tryz.func108
def PM:dM:=λa b c I1 m1 K s=>ax .lss c b λb=>ao b
 (dR a 2 λb=>wC TP 126 [b,c,bT] (λb b=>ax .add c aO λc=>aS m1 (I1 [c] b)) s)
 (K (.tup [a,an]) s)
def PN:c9:=λa b c d I0 m0 K s=>ax .lss d c λc=>ao c
 (dR b 4 λc=>wC TP 126 [c,d,bT] (λc c=>ax .add d aO λd=>aS m0 (I0 [d] c)) s)
 (qh a λa=>bG [an] s (λf=>[f 34]) λI1 f s m1=>PM b (.int .i64 a) (f 34) I1 m1 K s)
def Xg:bP:=λa b K s=>wC TP 125 [a,b] (λc d=>wC TP 124 [c] (λc e=>qe true 0 true c an λg=>ao g
 (K (.tup [.nilptr,c]) e)
 (wC TP 62 [b] (λc g=>oK (aM [an,.nilslc,(.int .u64 0),(.int .u64 0),(.int .u64 0),(.int .u64 0)] [(0,1,a),(1,1,c)]) λc=>boxK 200 (.agg c) (λc h=>bG [an] h (λf=>[f 23]) λI0 f s m0=>PN b c a (f 23) I0 m0 K s) g) e)) d) s
def Xh:Nat->List Nat:=anL [(12,[23]),(22,[34])]
theorem Xi:T2 76 Xg:=wOK Tryz.func76 Xh
def Ep:fH:=λa b c d e K s=>qt d e λd=>ao d
 (K (qz 2) s)
 (dR a 2 λa=>wC TP 126 [a,b,c] (λa a=>K an a) s)
def Xj:cA:=λa b c K s=>wC TP 88 [a] (λd e=>qj d λd=>ao d
 (K aO e)
 (ax .lss b an λd=>ao d
 (Ep a b c d .undef K e)
 (bK a 1 e λf=>qh f λf=>ax .geq b (.int .i64 f) λf=>Ep a b c d f K e))) s
theorem Xk:T3 84 Xj:=wOK Tryz.func84
def Er:fH:=λa b c d e K s=>qt d e λd=>ao d
 (K (qz 2) s)
 (dR a 4 λa=>wC TP 126 [a,b,c] (λa a=>K an a) s)
def Xl:cA:=λa b c K s=>wC TP 88 [a] (λd e=>qj d λd=>ao d
 (K aO e)
 (ax .lss b an λd=>ao d
 (Er a b c d .undef K e)
 (bK a 0 e λf=>ax .geq b f λf=>Er a b c d f K e))) s
theorem Xm:T3 85 Xl:=wOK Tryz.func85
def sY:bP:=λa b K s=>qp a b λa=>K a s
def ym:dY:=λa b c d K s=>qp c d λc=>ao c
 (dR a 4 λa=>qd 1 b s λb=>wC TP 89 [a,b] (λa b=>sY c a K b) s)
 (sY c .undef K s)
def yn:dY:=λa b c d K s=>qt c d λc=>ao c
 (K bF s)
 (bK a 1 s λc=>qi 3 c b λc=>aY s 3 c λc=>newK 145 [an,an,an] (λd e=>qc e 3 d (.agg c) λc=>dR a 2 λe=>wC TP 89 [e,b] (λb e=>ao b
 (dR a 4 λf=>qd 0 (.ptr d 0) e λg=>wC TP 89 [f,g] (λf g=>ym a (.ptr d 0) b f K g) e)
 (ym a (.ptr d 0) b .undef K e)) c) s)
def Es:dY:=λa b c d K s=>qt c d λc=>ao c
 (yn a b c .undef K s)
 (bK a 1 s λd=>qh d λd=>ax .geq b (.int .i64 d) λd=>yn a b c d K s)
def Xn:bP:=λa b K s=>wC TP 88 [a] (λc d=>qj c λc=>ao c
 (Es a b c .undef K d)
 (ax .lss b an λe=>Es a b c e K d)) s
theorem Xo:T2 86 Xn:=wOK Tryz.func86
def sZ:bP:=λa b K s=>qp a b λa=>K a s
def yo:dY:=λa b c d K s=>qp c d λc=>ao c
 (dR a 4 λa=>wC TP 89 [a,b] (λa b=>sZ c a K b) s)
 (sZ c .undef K s)
def Et:dY:=λa b c d K s=>qp c d λc=>ao c
 (bK a 0 s λd=>ax .lss b d λd=>yo a b c d K s)
 (yo a b c .undef K s)
def Xp:bP:=λa b K s=>wC TP 88 [a] (λc d=>ao c
 (ax .geq b an λe=>Et a b c e K d)
 (Et a b c .undef K d)) s
theorem Xq:T2 35 Xp:=wOK Tryz.func35
def PO:dM:=λa b c I0 m0 K s=>ax .lss c b λb=>ao b
 (qx 1 a c s λa=>funK TP a [] (λa b=>qe true 0 true a an λd=>ao d
 (K a b)
 (ax .add c aO λa=>aS m0 (I0 [a] b))) s)
 (K an s)
def Xr:cz:=λa K s=>qh a λb=>bG [an] s (λf=>[f 8]) λI0 f s m0=>PO a (.int .i64 b) (f 8) I0 m0 K s
def Xs:Nat->List Nat:=anL [(4,[8])]
theorem Xt:T1 124 Xr:=wOK Tryz.func124 Xs
def Xu:bP:=λa b K s=>boxK 3 a (λa c=>boxK 43 b (λb d=>newK 102 [.nilFunc] (λe f=>oK (wr1 f (.ptr e 0) (.fn (.func 158) [] [a])) λf=>oK (aM (repl 3 [.nilFunc]) [(0,1,(.fn (.func 159) [] [a])),(1,1,(.fn (.func 160) [] [b])),(2,1,(.fn (.func 161) [] [b,(.ptr e 0)]))]) λa=>aX a=true/\newK 290 a (λa b=>K (.slc a 0 3 (some 3) 1) b) f) d) c) s
theorem Xv:T2 125 Xu:=wOK Tryz.func125
def te:cz:=λa K s=>qe false 5 true a .nilslc λb=>ao b
 (K .nilslc s)
 (oK (aM (repl 0 [an,an,an]) []) λb=>aX b=true/\newK 145 b (λb c=>appK 145 3 (.slc b 0 0 (some 0) 3) a (λa b=>K a b) c) s)
theorem PP:T1 62 te:=wOK Tryz.func62
def Eu:cA:=λa b c K s=>ao c
 (ax .quo b (qz 64) λc=>oK (eX a) λd=>oK (fj 2 1 d c) λd=>qr s d λd=>ax .rem b (qz 64) λe=>oK (fN .shl (.int .u64 1) e) λe=>ax .or d e λd=>oK (eX a) λe=>oK (fj 2 1 e c) λc=>oK (wr1 s c d) λc=>K (.tup []) c)
 (ax .quo b (qz 64) λc=>oK (eX a) λd=>oK (fj 2 1 d c) λd=>qr s d λd=>ax .rem b (qz 64) λb=>oK (fN .shl (.int .u64 1) b) λb=>ax .andNot d b λb=>oK (eX a) λa=>oK (fj 2 1 a c) λa=>oK (wr1 s a b) λa=>K (.tup []) a)
theorem Xw:T3 126 Eu:=wOK Tryz.func126
def Ev:bP:=λa b K s=>qp a b λa=>K a s
def PQ:cz:=λa K s=>qe true 3 true a .nilptr λb=>ao b
 (bK a 0 s λa=>ax .gtr a an λa=>Ev b a K s)
 (Ev b .undef K s)
theorem Xx:T1 88 PQ:=wOK Tryz.func88
def PR:bP:=λa b K s=>ax .quo b (qz 64) λc=>oK (eX a) λa=>oK (fj 2 1 a c) λa=>qr s a λa=>ax .rem b (qz 64) λb=>oK (fN .shr a b) λa=>ax .and a (.int .u64 1) λa=>qe true 0 true a (.int .u64 0) λa=>K a s
theorem Xy:T2 89 PR:=wOK Tryz.func89
def yp:bP:=λa b K s=>qt a b λa=>K a s
def PS:bP:=λa b K s=>ax .lss a an λc=>ao c
 (yp c .undef K s)
 (qr s b λb=>ax .geq a b λa=>yp c a K s)
theorem Xz:T2 158 PS:=wOK Tryz.func158
def yq:bP:=λa b K s=>qt a b λa=>ao a
 (K (qz 2) s)
 (K an s)
def PT:cz:=λa K s=>qr s a λb=>ax .lss b aO λb=>ao b
 (yq b .undef K s)
 (qr s a λa=>ax .gtr a (qz 32) λa=>yq b a K s)
theorem XA:T1 159 PT:=wOK Tryz.func159
def PU:cz:=λa K s=>qr s a λa=>qh a λa=>ax .gtr (.int .i64 a) (qz 128) λa=>ao a
 (K (qz 5) s)
 (K an s)
theorem XB:T1 160 PU:=wOK Tryz.func160
def nE:c9:=λa b c d I0 m0 K s=>qt c d λc=>ao c
 (K (qz 2) s)
 (qd 0 a s λc=>qd 1 a s λa=>qe false 0 false c a λa=>ao a
 (K (qz 12) s)
 (ax .add b aO λa=>aS m0 (I0 [a] s)))
def pc:c9:=λa b c d I0 m0 K s=>qt c d λc=>ao c
 (nE a b c .undef I0 m0 K s)
 (qd 2 a s λd=>ax .gtr d (qz 1000) λd=>nE a b c d I0 m0 K s)
def th:c9:=λa b c d I0 m0 K s=>qt c d λc=>ao c
 (pc a b c .undef I0 m0 K s)
 (qd 2 a s λd=>ax .lss d aO λd=>pc a b c d I0 m0 K s)
def PV:c9:=λa b c d I0 m0 K s=>ax .lss d c λc=>ao c
 (qi 3 b d λb=>aY s 3 b λb=>newK 145 [an,an,an] (λc e=>qc e 3 c (.agg b) λb=>qr b a λe=>qd 0 (.ptr c 0) b λf=>funK TP e [f] (λe f=>ao e
 (th (.ptr c 0) d e .undef I0 m0 K f)
 (qr f a λa=>qd 1 (.ptr c 0) f λg=>funK TP a [g] (λa g=>th (.ptr c 0) d e a I0 m0 K g) f)) b) s)
 (K an s)
def PW:bP:=λa b K s=>qr s a λa=>qh a λc=>bG [an] s (λf=>[f 7]) λI0 f s m0=>PV b a (.int .i64 c) (f 7) I0 m0 K s
def XC:Nat->List Nat:=anL [(4,[7])]
theorem XD:T2 161 PW:=wOK Tryz.func161 XC
def ti:fQ:=λa b I0 m0 K s=>ax .add b aO λb=>aS m0 (I0 [a,b] s)
def tj:Ds:=λa b c d e f g h i I0 m0 K s=>qt h i λh=>ao h
 (ti e g I0 m0 K s)
 (wC TP 47 [f] (λh i=>qk h 0 λj=>qk h 1 λh=>qe false 0 true h an λh=>ao h
 (wC TP 205 [a,b,c,d,f] (λa b=>oK (aM [cO,.nilslc] [(0,1,j),(1,1,a)]) λa=>oK (aM (repl 1 [cO,.nilslc]) [(0,2,(.agg a))]) λa=>aX a=true/\newK 285 a (λa c=>appK 285 2 e (.slc a 0 1 (some 1) 2) (λa d=>ti a g I0 m0 K d) c) b) i)
 (ti e g I0 m0 K i)) s)
def Ew:fJ:=λa b c d e f g h I0 m0 K s=>ax .lss h g λg=>ao g
 (qx 1 f h s λf=>qe false 0 false h d λg=>ao g
 (tj a b c d e h h g .undef I0 m0 K s)
 (ax .lss f an λf=>tj a b c d e h h g f I0 m0 K s))
 (K e s)
def Ex:dY:=λa b c d K s=>wC TP 36 [a,b,c,d] (λe g=>qh e λh=>bG [.nilslc,an] g (λf=>[f 9,f 20]) λI0 f s m0=>Ew a b c d (f 9) e (.int .i64 h) (f 20) I0 m0 K s) s
def XE:Nat->List Nat:=anL [(6,[9,20])]
theorem XF:T4 153 Ex:=wOK Tryz.func153 XE
def XG:dY:=λa b c d K s=>oK (aM (repl 1 [an]) [(0,1,d)]) λe=>aX e=true/\newK 3 e (λe f=>wC TP 90 [a,b,c,(.slc e 0 1 (some 1) 1)] (λe g=>qj e λe=>ao e
 (K .nilslc g)
 (wC TP 92 [a,b,c] (λa b=>wC TP 91 [a,d] (λa c=>K a c) b) g)) f) s
theorem XH:T4 36 XG:=wOK Tryz.func36
def PX:c9:=λa b c d I0 m0 K s=>ax .lss d c λc=>ao c
 (qi 3 b d λb=>aY s 3 b λb=>newK 272 [an,an,an] (λc e=>qc e 3 c (.agg b) λb=>qd 0 (.ptr c 0) b λc=>oK (aM (repl 1 [an]) [(0,1,c)]) λc=>aX c=true/\newK 3 c (λc e=>appK 3 1 a (.slc c 0 1 (some 1) 1) (λc f=>ax .add d aO λd=>aS m0 (I0 [c,d] f)) e) b) s)
 (K a s)
def XI:fH:=λa b c d e K s=>oK (aM (repl 2 [an]) [(0,1,d),(1,1,e)]) λg=>aX g=true/\newK 3 g (λg h=>wC TP 90 [a,b,c,(.slc g 0 2 (some 2) 1)] (λg i=>qj g λg=>ao g
 (K .nilslc i)
 (wC TP 92 [a,b,c] (λa b=>∃c:Hq,Sub c b/\
 qx 1 a d c λg=>wC TP 91 [a,e] (λa e=>wC TP 223 [g,a,d] (λa d=>qh a λg=>bG [.nilslc,an] d (λf=>[f 12,f 37]) λI0 f s m0=>PX (f 12) a (.int .i64 g) (f 37) I0 m0 K s) (add c e)) (lock b c)) i)) h) s
def XJ:Nat->List Nat:=anL [(3000005,[1]),(2000020,[0,1,2,3,4,5,7,10]),(2000021,[6]),(2000023,[8,9]),(12,[12,37])]
theorem XK:T5 205 XI:=wOK Tryz.func205 XJ
def Ey:cA:=λa b c K s=>qt b c λb=>ao b
 (K (.tup [cO,(qz 2)]) s)
 (oK (dX .u32 a) λa=>ax .add (.int .u32 184483840) a λa=>ax .add a (.int .u32 1) λa=>K (.tup [a,an]) s)
def PY:cz:=λa K s=>ax .lss a an λb=>ao b
 (Ey a b .undef K s)
 (ax .geq a (qz 32) λc=>Ey a b c K s)
theorem XL:T1 47 PY:=wOK Tryz.func47
def tu:dM:=λa b c I3 m3 K s=>qt b c λb=>ao b
 (K bF s)
 (ax .add a aO λa=>aS m3 (I3 [a] s))
def nG:c9:=λa b c d I3 m3 K s=>qt c d λc=>ao c
 (tu b c .undef I3 m3 K s)
 (qd 2 a s λa=>ax .gtr a (qz 1000) λa=>tu b c a I3 m3 K s)
def pe:c9:=λa b c d I3 m3 K s=>qt c d λc=>ao c
 (nG a b c .undef I3 m3 K s)
 (qd 2 a s λd=>ax .lss d aO λd=>nG a b c d I3 m3 K s)
def tx:c9:=λa b c d I3 m3 K s=>qt c d λc=>ao c
 (pe a b c .undef I3 m3 K s)
 (qd 0 a s λd=>qd 1 a s λe=>qe false 0 false d e λd=>pe a b c d I3 m3 K s)
def PZ:cY:=λa b c d e I3 m3 K s=>ax .lss e d λd=>ao d
 (qi 3 c e λc=>aY s 3 c λc=>newK 145 [an,an,an] (λd f=>qc f 3 d (.agg c) λc=>qd 0 (.ptr d 0) c λf=>funK TP b [f] (λf g=>ao f
 (tx (.ptr d 0) e f .undef I3 m3 K g)
 (qd 1 (.ptr d 0) g λh=>funK TP b [h] (λh i=>tx (.ptr d 0) e f h I3 m3 K i) g)) c) s)
 (wC TP 129 [a,b] (λa b=>qj a λa=>K a b) s)
def yr:fH:=λa b c d e K s=>qt d e λd=>ao d
 (K bF s)
 (qh a λd=>bG [an] s (λf=>[f 33]) λI3 f s m3=>PZ b (.fn (.func 128) [] [c]) a (.int .i64 d) (f 33) I3 m3 K s)
def yt:kq:=λa b c d e f K s=>qt e f λe=>ao e
 (yr a c d e .undef K s)
 (qh b λb=>qh a λf=>qe true 0 false (.int .i64 b) (.int .i64 f) λb=>yr a c d e b K s)
def Ez:kq:=λa b c d e f K s=>qt e f λe=>ao e
 (yt a b c d e .undef K s)
 (qh a λf=>ax .gtr (.int .i64 f) (qz 128) λf=>yt a b c d e f K s)
def XM:dY:=λa b c d K s=>boxK 3 a (λa e=>qr e a λf=>ax .lss f aO λf=>ao f
 (Ez b c d a f .undef K e)
 (qr e a λg=>ax .gtr g (qz 32) λg=>Ez b c d a f g K e)) s
def XN:Nat->List Nat:=anL [(10,[33])]
theorem XO:T4 90 XM:=wOK Tryz.func90 XN
def yu:Dq:=λa I2 m2 I1 m1 K s=>ax .add a aO λa=>aS m2 (I2 [a] s)
def P0:lh:=λa b c d e f I2 m2 I1 m1 K s=>ax .lss f e λe=>ao e
 (qi 3 d f λd=>aY s 3 d λd=>newK 272 [an,an,an] (λe g=>qc g 3 e (.agg d) λd=>qd 1 (.ptr e 0) d λg=>qx 1 a g d λa=>ax .lss a an λa=>ao a
 (qd 1 (.ptr e 0) d λa=>qd 1 c d λc=>qd 2 (.ptr e 0) d λe=>ax .add c e λc=>oK (aM [an,an] [(0,1,a),(1,1,c)]) λa=>wC TP 132 [(.ifc 263 b),(.ifc 265 (.agg a))] (λa a=>yu f I2 m2 I1 m1 K a) d)
 (yu f I2 m2 I1 m1 K d)) s)
 (aS m1 (I1 [] s))
def P3:dM:=λa b c I1 m1 K s=>oK (eX c) λd=>qr s d λd=>wC TP 130 [d] (λd e=>ax .gtr d an λd=>ao d
 (wC TP 131 [(.ifc 263 c)] (λd g=>oK (jW 265 (some (.agg [an,an])) true d) λd=>qk d 0 λh=>qk d 1 λd=>newK 265 [an,an] (λd i=>qc i 2 d h λh=>qd 0 (.ptr d 0) h λi=>qx 1 b i h λi=>ax .geq i an λi=>ao i
 (aS m1 (I1 [] h))
 (qd 0 (.ptr d 0) h λi=>qd 1 (.ptr d 0) h λj=>qi 1 b i λi=>oK (wr1 h i j) λh=>qd 0 (.ptr d 0) h λi=>qx 1 a i h λa=>qh a λi=>bG [an] h (λf=>[f 58]) λI2 f s m2=>P0 b c (.ptr d 0) a (.int .i64 i) (f 58) I2 m2 I1 m1 K s)) g) e)
 (K b e)) s
def P4:cY:=λa b c d e I0 m0 K s=>ax .lss e d λd=>ao d
 (qi 1 c e λd=>oK (wr1 s d (.int .i64 (-1))) λd=>ax .add e aO λe=>aS m0 (I0 [e] d))
 (oK (aM [an,an] [(0,1,b),(1,1,an)]) λb=>oK (aM (repl 1 [an,an]) [(0,2,(.agg b))]) λb=>aX b=true/\newK 265 b (λb d=>boxK 267 (.slc b 0 1 (some 1) 2) (λb e=>bG [] e (λf=>[]) λI1 f s m1=>P3 a c b I1 m1 K s) d) s)
def P5:bP:=λa b K s=>qh a λc=>oK (nat? (.int .i64 c)) λd=>oK (nat? (.int .i64 c)) λc=>(d<=c/\c<=4294967296)/\newK 3 (repl c [an]) (λe g=>qh (.slc e 0 d (some c) 1) λh=>bG [an] g (λf=>[f 17]) λI0 f s m0=>P4 a b (.slc e 0 d (some c) 1) (.int .i64 h) (f 17) I0 m0 K s) s
def XP:Nat->List Nat:=anL [(6,[17]),(16,[]),(26,[58])]
theorem XQ:T2 91 P5:=wOK Tryz.func91 XP
def yv:fQ:=λa b I0 m0 K s=>ax .add b aO λb=>aS m0 (I0 [a,b] s)
def P6:dC:=λa b c d e f I0 m0 K s=>ax .lss f e λe=>ao e
 (qi 3 d f λd=>aY s 3 d λd=>newK 272 [an,an,an] (λe g=>qc g 3 e (.agg d) λd=>qx 1 a b d λb=>qd 1 (.ptr e 0) d λg=>qx 1 a g d λa=>qd 2 (.ptr e 0) d λg=>ax .add a g λa=>qe false 0 false b a λa=>ao a
 (aY d 3 (.ptr e 0) λa=>oK (aM (repl 1 [an,an,an]) [(0,3,(.agg a))]) λa=>aX a=true/\newK 272 a (λa b=>appK 272 3 c (.slc a 0 1 (some 1) 3) (λa e=>yv a f I0 m0 K e) b) d)
 (yv c f I0 m0 K d)) s)
 (K c s)
def P7:cA:=λa b c K s=>qh a λd=>bG [.nilslc,an] s (λf=>[f 7,f 12]) λI0 f s m0=>P6 b c (f 7) a (.int .i64 d) (f 12) I0 m0 K s
def XR:Nat->List Nat:=anL [(6,[7,12])]
theorem XS:T3 223 P7:=wOK Tryz.func223 XR
def yw:bP:=λa b K s=>qt a b λa=>K a s
def P8:bP:=λa b K s=>ax .lss a an λc=>ao c
 (yw c .undef K s)
 (qr s b λb=>ax .geq a b λa=>yw c a K s)
theorem XT:T2 128 P8:=wOK Tryz.func128
def EA:cz:=λa K s=>qh a λa=>K (.int .i64 a) s
theorem P9:T1 130 EA:=wOK Tryz.func130
def XU:cz:=λa K s=>eg TP a "Len" [] (λb c=>ax .sub b aO λb=>eg TP a "Swap" [an,b] (λd d=>wC TP 163 [a,an,b] (λb b=>eg TP a "Pop" [] (λa e=>K a e) b) d) c) s
theorem XV:T1 131 XU:=wOK Tryz.func131
def XW:bP:=λa b K s=>eg TP a "Push" [b] (λb b=>eg TP a "Len" [] (λc d=>ax .sub c aO λc=>wC TP 164 [a,c] (λa a=>K (.tup []) a) d) b) s
theorem XX:T2 132 XW:=wOK Tryz.func132
def XY:bP:=λa b K s=>boxK 43 a (λa c=>boxK 73 b (λb d=>K (.fn (.func 165) [] [a,b]) d) c) s
theorem XZ:T2 133 XY:=wOK Tryz.func133
def nI:bP:=λa b K s=>ax .gtr b a λa=>K a s
def pf:c9:=λa b c d I1 m1 K s=>eg TP a "Less" [d,c] (λe f=>qj e λe=>ao e
 (nI b c K f)
 (eg TP a "Swap" [c,d] (λa a=>aS m1 (I1 [d] a)) f)) s
def ph:gI:=λa b c d e f g I1 m1 K s=>qp f g λf=>ao f
 (pf a b c e I1 m1 K s)
 (pf a b c d I1 m1 K s)
def nJ:gI:=λa b c d e f g I1 m1 K s=>qt f g λf=>ao f
 (nI b d K s)
 (ax .add e aO λf=>ax .lss f c λc=>ao c
 (eg TP a "Less" [f,e] (λg h=>ph a b d e f c g I1 m1 K h) s)
 (ph a b d e f c .undef I1 m1 K s))
def yx:c9:=λa b c d I1 m1 K s=>ax .mul (qz 2) d λe=>ax .add e aO λe=>ax .geq e c λf=>ao f
 (nJ a b c d e f .undef I1 m1 K s)
 (ax .lss e an λg=>nJ a b c d e f g I1 m1 K s)
def X0:cA:=λa b c K s=>bG [b] s (λf=>[f 7]) λI1 f s m1=>yx a b c (f 7) I1 m1 K s
def X1:Nat->List Nat:=anL [(4,[7])]
theorem EC:T3 163 X0:=wOK Tryz.func163 X1
def pi:cY:=λa b c d e I0 m0 K s=>qt d e λd=>ao d
 (K (.tup []) s)
 (eg TP a "Swap" [c,b] (λa a=>aS m0 (I0 [c] a)) s)
def ED:fQ:=λa b I0 m0 K s=>ax .sub b aO λc=>ax .quo c (qz 2) λc=>qe false 0 false c b λd=>ao d
 (pi a b c d .undef I0 m0 K s)
 (eg TP a "Less" [b,c] (λe f=>qj e λe=>pi a b c d e I0 m0 K f) s)
def X2:bP:=λa b K s=>bG [b] s (λf=>[f 1]) λI0 f s m0=>ED a (f 1) I0 m0 K s
def X3:Nat->List Nat:=anL [(0,[1])]
theorem Qa:T2 164 X2:=wOK Tryz.func164 X3
def yy:dM:=λa b c I0 m0 K s=>qp b c λb=>ao b
 (K (.tup []) s)
 (ax .add a aO λa=>aS m0 (I0 [a] s))
def Qc:cY:=λa b c d e I0 m0 K s=>ax .lss e d λd=>ao d
 (qi 3 c e λc=>aY s 3 c λc=>newK 145 [an,an,an] (λd f=>qc f 3 d (.agg c) λc=>qr c b λb=>qx 1 b e c λb=>ao b
 (aY c 3 (.ptr d 0) λd=>funK TP a [e,(.agg d)] (λa d=>qj a λa=>yy e b a I0 m0 K d) c)
 (yy e b .undef I0 m0 K c)) s)
 (K (.tup []) s)
def Qd:cA:=λa b c K s=>qr s b λb=>qh b λd=>bG [an] s (λf=>[f 8]) λI0 f s m0=>Qc a c b (.int .i64 d) (f 8) I0 m0 K s
def X4:Nat->List Nat:=anL [(2,[8])]
theorem X5:T3 165 Qd:=wOK Tryz.func165 X4
def Qe:cA:=λa b c K s=>qw 2 a b 1 s λb=>qw 2 a c 1 s λa=>ax .lss b a λa=>K a s
theorem X6:T3 283 Qe:=wOK Tryz.func283
def Qf:cz:=λa K s=>oK (eX a) λb=>qr s b λb=>qh b λb=>ax .sub (.int .i64 b) aO λb=>oK (eX a) λc=>qr s c λc=>qi 2 c b λc=>aY s 2 c λc=>newK 265 [an,an] (λd e=>qc e 2 d (.agg c) λc=>oK (eX a) λe=>qr c e λe=>oK (fI 2 e none (some b) none) λb=>oK (eX a) λa=>oK (wr1 c a b) λa=>aY a 2 (.ptr d 0) λb=>K (.ifc 265 (.agg b)) a) s
theorem X7:T1 284 Qf:=wOK Tryz.func284
def Qg:bP:=λa b K s=>oK (jW 265 (some (.agg [an,an])) true b) λb=>qk b 0 λc=>qk b 1 λb=>newK 265 [an,an] (λd e=>qc e 2 d c λc=>ao b
 (oK (eX a) λb=>qr c b λb=>aY c 2 (.ptr d 0) λd=>oK (aM (repl 1 [an,an]) [(0,2,(.agg d))]) λd=>aX d=true/\
 newK 265 d (λd e=>appK 265 2 b (.slc d 0 1 (some 1) 2) (λb d=>oK (eX a) λa=>oK (wr1 d a b) λa=>K (.tup []) a) e) c)
 (K (.tup []) c)) s
def X8:Nat->List Nat:=anL [(3000002,[0]),(2000008,[0,1,2,3,4]),(2000010,[5]),(2000011,[6,7,8])]
theorem X9:T2 285 Qg:=wOK Tryz.func285 X8
def Qh:cA:=λa b c K s=>qi 2 a c λd=>aY s 2 d λd=>qi 2 a b λe=>aY s 2 e λe=>qi 2 a b λb=>oK (dP s 2 b (.agg d)) λb=>qi 2 a c λa=>oK (dP b 2 a (.agg e)) λa=>K (.tup []) a
theorem Ya:T3 286 Qh:=wOK Tryz.func286
def EE:cA:=λa b c K s=>qt b c λb=>ao b
 (K (.tup [.nilptr,(qz 2)]) s)
 (oK (nat? a) λb=>oK (nat? a) λa=>(b<=a/\a<=4294967296)/\newK 3 (repl a [an]) (λc d=>oK (aM [.nilslc,.nilslc] [(0,1,(.slc c 0 b (some a) 1))]) λa=>boxK 289 (.agg a) (λa b=>K (.tup [a,an]) b) d) s)
def Qi:cz:=λa K s=>ax .lss a aO λb=>ao b
 (EE a b .undef K s)
 (ax .gtr a (qz 256) λc=>EE a b c K s)
theorem Yb:T1 206 Qi:=wOK Tryz.func206
def EF:dY:=λa b c d K s=>qt c d λc=>ao c
 (K (.tup [an,bF]) s)
 (bK a 0 s λc=>bK a 0 s λa=>qh a λa=>oK (dX .u64 (.int .i64 a)) λa=>ax .rem b a λa=>qx 1 c a s λa=>ax .sub a aO λa=>K (.tup [a,bT]) s)
def Yc:bP:=λa b K s=>wC TP 157 [a] (λc d=>qj c λc=>ao c
 (EF a b c .undef K d)
 (bK a 1 d λe=>qh e λe=>qe false 0 true (.int .i64 e) an λe=>EF a b c e K d)) s
theorem Yd:T2 272 Yc:=wOK Tryz.func272
def Ye:bP:=λa b K s=>wC TP 157 [a] (λc d=>qj c λc=>ao c
 (K aO d)
 (wC TP 207 [a,b] (λc e=>qe true 0 true c an λf=>ao f
 (K c e)
 (wC TP 105 [b] (λc f=>qs a 1 f c λc=>qh b λb=>qe false 0 true (.int .i64 b) an λb=>ao b
 (bK a 0 c λb=>oN [an] 1 b (λb b=>K an b) c)
 (wC TP 208 [a] (λb f=>newK 340 [.nilptr] (λg h=>qc h 1 g b λb=>aY b 1 (.ptr g 0) λh=>wC TP 209 [a,(.agg h)] (λh h=>aY h 1 (.ptr g 0) λg=>wC TP 210 [a,(.agg g)] (λa a=>K an a) h) b) f) c)) e)) d)) s
theorem Yf:T2 156 Ye:=wOK Tryz.func156
def yz:bP:=λa b K s=>qp a b λa=>K a s
def EG:cz:=λa K s=>qe true 3 true a .nilptr λb=>ao b
 (bK a 0 s λa=>qh a λa=>ax .gtr (.int .i64 a) an λa=>yz b a K s)
 (yz b .undef K s)
theorem Qj:T1 157 EG:=wOK Tryz.func157
def yA:dM:=λa b c I0 m0 K s=>qp b c λb=>ao b
 (K (qz 10) s)
 (ax .add a aO λa=>aS m0 (I0 [a] s))
def EH:dC:=λa b c d e f I0 m0 K s=>qt e f λe=>ao e
 (K (qz 2) s)
 (ax .gtr b an λe=>ao e
 (ax .sub b aO λb=>qx 1 a b s λa=>ax .leq c a λa=>yA d e a I0 m0 K s)
 (yA d e .undef I0 m0 K s))
def Qk:cY:=λa b c d e I0 m0 K s=>ax .lss e d λd=>ao d
 (qx 1 c e s λc=>ax .lss c an λd=>ao d
 (EH b e c e d .undef I0 m0 K s)
 (ax .geq c (qz 128) λf=>EH b e c e d f I0 m0 K s))
 (qh b λb=>bK a 0 s λa=>qh a λa=>ax .gtr (.int .i64 b) (.int .i64 a) λa=>ao a
 (K (qz 7) s)
 (K an s))
def Ql:bP:=λa b K s=>qh b λc=>bG [an] s (λf=>[f 9]) λI0 f s m0=>Qk a b b (.int .i64 c) (f 9) I0 m0 K s
def Yg:Nat->List Nat:=anL [(4,[9])]
theorem Yh:T2 207 Ql:=wOK Tryz.func207 Yg
def tz:gk:=λa I1 m1 K s=>ax .add a aO λa=>aS m1 (I1 [a] s)
def Qm:gI:=λa b c d e f g I1 m1 K s=>ax .lss g f λf=>ao f
 (qx 1 e g s λe=>qe false 0 true e an λf=>ao f
 (tz g I1 m1 K s)
 (ax .sub e aO λf=>oK (fj 128 1 c f) λf=>qr s f λf=>qe false 0 true f an λf=>ao f
 (bK a 0 s λa=>qi 1 a g λa=>oK (wr1 s a an) λa=>tz g I1 m1 K a)
 (qd 0 d s λa=>bK a 0 s λa=>ax .sub e aO λe=>oK (fj 128 1 c e) λc=>qr s c λc=>ax .sub c aO λc=>qw 2 a c 1 s λe=>ax .add e aO λe=>qi 2 a c λa=>qf 1 a λa=>oK (wr1 s a e) λa=>tz g I1 m1 K a)))
 (aY s 1 d λa=>wC TP 224 [(.agg a)] (λa a=>aY a 1 d λc=>oK (dP a 1 b (.agg c)) λa=>aY a 1 b λb=>K (.agg b) a) s)
def Qn:gI:=λa b c d e g h I0 m0 K s=>ax .lss h g λg=>ao g
 (qx 1 e h s λe=>ax .add h aO λg=>oK (fj 128 1 c e) λi=>oK (wr1 s i g) λg=>qd 0 d g λi=>bK i 0 g λi=>qi 2 i h λi=>qf 0 i λi=>oK (wr1 g i e) λe=>ax .add h aO λg=>aS m0 (I0 [g] e))
 (bK a 0 s λe=>qh e λg=>bG [an] s (λf=>[f 47]) λI1 f s m1=>Qm a b c d e (.int .i64 g) (f 47) I1 m1 K s)
def Yi:cz:=λa K s=>newK 340 [.nilptr] (λb c=>newK 359 (replicate 128 an) (λd e=>bK a 1 e λg=>qh g λg=>oK (nat? (.int .i64 g)) λh=>oK (nat? (.int .i64 g)) λg=>(h<=g/\g<=4294967296)/\newK 364 (repl g [an,an]) (λi j=>oK (aM [.nilslc] [(0,1,(.slc i 0 h (some g) 2))]) λg=>boxK 362 (.agg g) (λg h=>oK (aM [.nilptr] [(0,1,g)]) λg=>newK 340 [.nilptr] (λi k=>qc k 1 i (.agg g) λg=>bK a 1 g λk=>qh k λl=>bG [an] g (λf=>[f 23]) λI0 f s m0=>Qn a (.ptr b 0) (.ptr d 0) (.ptr i 0) k (.int .i64 l) (f 23) I0 m0 K s) h) j) e) c) s
def Yj:Nat->List Nat:=anL [(8,[23]),(20,[47])]
theorem Yk:T1 208 Yi:=wOK Tryz.func208 Yj
def yB:gk:=λa I0 m0 K s=>ax .add a aO λa=>aS m0 (I0 [a] s)
def Qo:cY:=λa b c d e I0 m0 K s=>ax .lss e d λd=>ao d
 (qx 1 c e s λc=>qe false 0 true c an λc=>ao c
 (bK a 0 s λa=>qd 0 b s λc=>bK c 0 s λc=>qw 2 c an 0 s λc=>ax .add c aO λc=>qi 1 a e λa=>oK (wr1 s a c) λa=>aY a 1 b λb=>wC TP 225 [(.agg b),an,aO] (λb b=>yB e I0 m0 K b) a)
 (yB e I0 m0 K s))
 (K (.tup []) s)
def Yl:bP:=λa b K s=>boxK 340 b (λb c=>bK a 0 c λd=>qh d λe=>bG [an] c (λf=>[f 11]) λI0 f s m0=>Qo a b d (.int .i64 e) (f 11) I0 m0 K s) s
def Ym:Nat->List Nat:=anL [(4,[11])]
theorem Yn:T2 209 Yl:=wOK Tryz.func209 Ym
def Yo:fQ:=λa b I0 m0 K s=>aY s 1 b λc=>wC TP 226 [(.agg c)] (λc d=>qd 0 b d λe=>bK e 0 d λe=>qw 2 e c 1 d λe=>qd 0 b d λf=>bK f 0 d λf=>qw 2 f an 1 d λf=>ax .sub e f λe=>ax .leq e aO λe=>ao e
 (K (.tup []) d)
 (∃e:Hq,Sub e d/\
 bK a 0 e λf=>qd 0 b e λg=>bK g 0 e λg=>qw 2 g c 0 e λg=>qd 0 b e λh=>bK h 0 e λh=>qw 2 h an 0 e λh=>ax .add h aO λh=>wC TP 227 [a,g] (λa g=>qi 1 f a λa=>oK (wr1 (add e g) a h) λa=>aY a 1 b λf=>wC TP 225 [(.agg f),c,(.int .i64 (-1))] (λc c=>aY c 1 b λb=>wC TP 225 [(.agg b),an,aO] (λb b=>aS m0 (I0 [] b)) c) a) (lock d e))) s
def Yp:bP:=λa b K s=>boxK 340 b (λb c=>bG [] c (λf=>[]) λI0 f s m0=>Yo a b I0 m0 K s) s
def Yq:Nat->List Nat:=anL [(2,[]),(3000003,[1]),(2000012,[0,1,2,3,4,5,6,7,8,9,10,11,12,13,15,16,17,18,19,20,21,22,23]),(2000013,[14]),(2000015,[24,25])]
theorem Yr:T2 210 Yp:=wOK Tryz.func210 Yq
def Ys:cz:=λa K s=>boxK 340 a (λa b=>aY b 1 a λa=>wC TP 230 [(.ifc 340 (.agg a))] (λa a=>K (.tup []) a) b) s
theorem Yt:T1 224 Ys:=wOK Tryz.func224
def Yu:cA:=λa b c K s=>boxK 340 a (λa d=>qd 0 a d λe=>bK e 0 d λe=>qw 2 e b 1 d λf=>ax .add f c λc=>qi 2 e b λe=>qf 1 e λe=>oK (wr1 d e c) λc=>aY c 1 a λa=>wC TP 231 [(.ifc 340 (.agg a)),b] (λa a=>K (.tup []) a) c) s
theorem Yv:T3 225 Yu:=wOK Tryz.func225
def EI:fQ:=λa b I0 m0 K s=>ax .add b aO λb=>aS m0 (I0 [a,b] s)
def Qp:c9:=λa b c d I0 m0 K s=>ax .lss d c λc=>ao c
 (qd 0 a s λa=>wC TP 232 [a,b,d] (λa c=>ao a
 (EI d d I0 m0 K c)
 (EI b d I0 m0 K c)) s)
 (K b s)
def Yw:cz:=λa K s=>boxK 340 a (λa b=>qd 0 a b λc=>bK c 0 b λc=>qh c λc=>bG [an,an] b (λf=>[f 3,f 11]) λI0 f s m0=>Qp a (f 3) (.int .i64 c) (f 11) I0 m0 K s) s
def Yx:Nat->List Nat:=anL [(6,[3,11])]
theorem Yy:T1 226 Yw:=wOK Tryz.func226 Yx
def yC:dM:=λa b c I0 m0 K s=>qp b c λb=>ao b
 (ax .sub a aO λb=>aS m0 (I0 [b] s))
 (K a s)
def Qq:dM:=λa b c I0 m0 K s=>ax .gtr c an λd=>ao d
 (bK a 0 s λa=>qx 1 a c s λa=>ax .add b aO λb=>qe true 0 false a b λa=>yC c d a I0 m0 K s)
 (yC c d .undef I0 m0 K s)
def Qr:bP:=λa b K s=>bK a 0 s λc=>qh c λc=>ax .sub (.int .i64 c) aO λc=>bG [c] s (λf=>[f 5]) λI0 f s m0=>Qq a b (f 5) I0 m0 K s
def Yz:Nat->List Nat:=anL [(4,[5])]
theorem YA:T2 227 Qr:=wOK Tryz.func227 Yz
def Qs:dM:=λa b c I0 m0 K s=>ax .geq c an λd=>ao d
 (wC TP 163 [a,c,b] (λa a=>ax .sub c aO λb=>aS m0 (I0 [b] a)) s)
 (K (.tup []) s)
def YB:cz:=λa K s=>eg TP a "Len" [] (λb c=>ax .quo b (qz 2) λd=>ax .sub d aO λd=>bG [d] c (λf=>[f 3]) λI0 f s m0=>Qs a b (f 3) I0 m0 K s) s
def YC:Nat->List Nat:=anL [(4,[3])]
theorem YD:T1 230 YB:=wOK Tryz.func230 YC
def YE:bP:=λa b K s=>eg TP a "Len" [] (λc d=>wC TP 163 [a,b,c] (λc e=>qj c λc=>ao c
 (wC TP 164 [a,b] (λa a=>K (.tup []) a) e)
 (K (.tup []) e)) d) s
theorem Qu:T2 231 YE:=wOK Tryz.func231
def YF:cA:=λa b c K s=>∃d:Hq,Sub d s/\
 bK a 0 d λe=>qi 2 e b λb=>aY d 2 b λb=>bK a 0 d λa=>qi 2 a c λa=>aY d 2 a λa=>newK 364 [an,an] (λc e=>newK 364 [an,an] (λf g=>qc g 2 c (.agg b) λb=>qc b 2 f (.agg a) λa=>qd 1 (.ptr c 0) (add d a) λb=>qd 1 (.ptr f 0) (add d a) λg=>qe true 0 false b g λb=>ao b
 (qd 1 (.ptr c 0) (add d a) λb=>qd 1 (.ptr f 0) (add d a) λg=>ax .lss b g λb=>K b (add d a))
 (qd 0 (.ptr c 0) (add d a) λb=>qd 0 (.ptr f 0) (add d a) λc=>ax .lss b c λb=>K b (add d a))) e) (lock s d)
def YG:Nat->List Nat:=anL [(3000001,[2]),(2000004,[0,1,2,3,4,5,6,7,8,9,10,11,12,13]),(2000006,[14,15]),(2000007,[16,17])]
theorem YH:T3 232 YF:=wOK Tryz.func232 YG
def Qv:cz:=λa K s=>bK a 0 s λa=>qh a λa=>K (.int .i64 a) s
theorem YI:T1 287 Qv:=wOK Tryz.func287
def Qw:cA:=λa b c K s=>bK a 0 s λd=>bK a 0 s λe=>bK a 0 s λf=>qi 2 f c λf=>aY s 2 f λf=>bK a 0 s λa=>qi 2 a b λa=>aY s 2 a λa=>qi 2 d b λb=>oK (dP s 2 b (.agg f)) λb=>qi 2 e c λc=>oK (dP b 2 c (.agg a)) λa=>K (.tup []) a
theorem YJ:T3 288 Qw:=wOK Tryz.func288
def pj:fH:=λa b c d e K s=>qt d e λd=>ao d
 (K (.tup [.nilptr,(qz 2)]) s)
 (wC TP 47 [c] (λd e=>qk d 0 λf=>qk d 1 λd=>qe true 0 true d an λd=>ao d
 (K (.tup [.nilptr,(qz 2)]) e)
 (wC TP 62 [b] (λb d=>mapK (λg h=>oK (aM [an,an,cO,.nilslc,.nilslc,.nilmap] [(0,1,a),(1,1,c),(2,1,f),(3,1,b),(5,1,g)]) λa=>boxK 245 (.agg a) (λa b=>K (.tup [a,an]) b) h) d) e)) s)
def mf:fH:=λa b c d e K s=>qt d e λd=>ao d
 (K (.tup [.nilptr,(qz 3)]) s)
 (ax .lss c an λd=>ao d
 (pj a b c d .undef K s)
 (ax .geq c a λe=>pj a b c d e K s))
def EJ:cA:=λa b c K s=>qh b λd=>ax .gtr (.int .i64 d) (qz 128) λd=>ao d
 (mf a b c d .undef K s)
 (qh b λe=>oK (nat? (.int .i64 e)) λf=>oK (nat? (.int .i64 e)) λe=>(f<=e/\e<=4294967296)/\newK 4 (repl e [bF]) (λg h=>wC TP 36 [a,b,(.slc g 0 f (some e) 1),an] (λe f=>qe false 5 true e .nilslc λe=>mf a b c d e K f) h) s)
theorem Qx:T3 66 EJ:=wOK Tryz.func66
def EK:bP:=λa b K s=>qp a b λa=>K a s
def Qy:cz:=λa K s=>qe true 3 true a .nilptr λb=>ao b
 (bK a 0 s λa=>ax .gtr a an λa=>EK b a K s)
 (EK b .undef K s)
theorem YK:T1 121 Qy:=wOK Tryz.func121
def tA:cA:=λa b c K s=>qt b c λb=>ao b
 (K (.tup [an,bF]) s)
 (ax .sub a (.int .u32 184483840) λa=>ax .sub a (.int .u32 1) λa=>oK (dX .i64 a) λa=>K (.tup [a,bT]) s)
def EL:cz:=λa K s=>ax .leq a (.int .u32 184483840) λb=>ao b
 (tA a b .undef K s)
 (ax .gtr a (.int .u32 184483872) λc=>tA a b c K s)
theorem Qz:T1 154 EL:=wOK Tryz.func154
def yD:bP:=λa b K s=>qh a λc=>oK (im min2A (.int .i64 c) [(qz 64)]) λc=>oK (fI 1 a none (some c) none) λa=>wC TP 156 [b,a] (λa a=>K (.tup []) a) s
def EM:cA:=λa b c K s=>bK a 5 s λd=>oK (getM s d b) λd=>qk (retM .nilptr true d) 0 λe=>qk (retM .nilptr true d) 1 λd=>qj d λd=>ao d
 (wC TP 206 [(qz 64)] (λd f=>qk d 0 λg=>qk d 1 λd=>bK a 5 f λa=>oK (putM f a b g) λa=>yD c g K a) s)
 (yD c e K s)
theorem YL:T3 155 EM:=wOK Tryz.func155
def YM:bP:=λa b K s=>newK 253 [cO,.nilslc] (λc d=>bK a 4 d λe=>wC TP 274 [e,b,(.fn (.func 275) [] [])] (λb e=>qk b 0 λf=>qk b 1 λb=>qj b λb=>ao b
 (oK (aM [cO,.nilslc] []) λb=>qc e 2 c (.agg b) λb=>aY b 2 (.ptr c 0) λg=>K (.tup [(.agg g),bF]) b)
 (bK a 4 e λa=>qi 2 a f λa=>aY e 2 a λa=>qc e 2 c (.agg a) λa=>aY a 2 (.ptr c 0) λb=>K (.tup [(.agg b),bT]) a)) d) s
theorem YN:T2 271 YM:=wOK Tryz.func271
def yE:cA:=λa b c K s=>qp b c λb=>K (.tup [a,b]) s
def QA:dC:=λa b c d e f I0 m0 K s=>ax .lss e f λg=>ao g
 (ax .add e f λg=>oK (dX .u64 g) λg=>oK (fN .shr g (.int .u64 1)) λg=>oK (dX .i64 g) λg=>qi 2 a g λh=>aY s 2 h λh=>funK TP c [(.agg h),b] (λh i=>ax .lss h an λh=>ao h
 (ax .add g aO λh=>aS m0 (I0 [h,f] i))
 (aS m0 (I0 [e,g] i))) s)
 (ax .lss e d λd=>ao d
 (qi 2 a e λa=>aY s 2 a λa=>funK TP c [(.agg a),b] (λa b=>qe false 0 true a an λa=>yE e d a K b) s)
 (yE e d .undef K s))
def QB:cA:=λa b c K s=>qh a λd=>bG [an,(.int .i64 d)] s (λf=>[f 9,f 10]) λI0 f s m0=>QA a b c (.int .i64 d) (f 9) (f 10) I0 m0 K s
def YO:Nat->List Nat:=anL [(6,[9,10])]
theorem YP:T3 274 QB:=wOK Tryz.func274 YO
def YQ:bP:=λa b K s=>boxK 253 a (λa c=>qd 0 a c λa=>wC TP 279 [a,b] (λa b=>K a b) c) s
theorem YR:T2 275 YQ:=wOK Tryz.func275
def QC:dC:=λa b c d e f I0 m0 K s=>ax .lss f e λe=>ao e
 (qx 1 d f s λd=>funK TP d [] (λd e=>qe true 0 true d an λg=>ao g
 (oK (aM o4 []) λg=>oK (dP e 21 b (.agg g)) λg=>aY g 21 b λh=>K (.tup [an,(.agg h),d]) g)
 (ax .add f aO λd=>aS m0 (I0 [d] e))) s)
 (qd 2 a s λd=>ax .sub d aO λd=>qf 2 a λe=>oK (wr1 s e d) λd=>qr d c λc=>aY d 21 a λa=>oK (dP d 21 b (.agg a)) λa=>aY a 21 b λb=>K (.tup [c,(.agg b),an]) a)
def YS:bP:=λa b K s=>boxK 72 a (λa c=>boxK 64 b (λb d=>newK 64 o4 (λe g=>qr g a λh=>wC TP 121 [h] (λh i=>qj h λh=>ao h
 (oK (aM o4 []) λh=>qc i 21 e (.agg h) λh=>aY h 21 (.ptr e 0) λj=>K (.tup [an,(.agg j),aO]) h)
 (newK 3 [an] (λh j=>oK (wr1 j (.ptr h 0) an) λj=>oK (aM (repl 3 [.nilFunc]) [(0,1,(.fn (.func 266) [] [b,a])),(1,1,(.fn (.func 268) [] [b])),(2,1,(.fn (.func 269) [] [a,b,(.ptr h 0)]))]) λa=>aX a=true/\newK 290 a (λa k=>qh (.slc a 0 3 (some 3) 1) λl=>bG [an] k (λf=>[f 22]) λI0 f s m0=>QC b (.ptr e 0) (.ptr h 0) (.slc a 0 3 (some 3) 1) (.int .i64 l) (f 22) I0 m0 K s) j) i)) g) d) c) s
def YT:Nat->List Nat:=anL [(12,[22])]
theorem YU:T2 265 YS:=wOK Tryz.func265 YT
def QD:bP:=λa b K s=>qd 1 a s λa=>qr s b λb=>bK b 2 s λb=>qe true 0 false a b λa=>wC TP 267 [a,(qz 9)] (λa b=>K a b) s
theorem YV:T2 266 QD:=wOK Tryz.func266
def QE:cz:=λa K s=>qd 2 a s λa=>ax .geq a (qz 2) λa=>wC TP 267 [a,(qz 20)] (λa b=>K a b) s
theorem YW:T1 268 QE:=wOK Tryz.func268
def QG:cA:=λa b c K s=>qr s a λa=>aY s 21 b λb=>wC TP 270 [a,(.agg b)] (λa b=>qk a 0 λd=>qk a 1 λa=>oK (wr1 b c d) λb=>wC TP 267 [a,(qz 13)] (λa c=>K a c) b) s
theorem YX:T3 269 QG:=wOK Tryz.func269
def YY:bP:=λa b K s=>ao a
 (K an s)
 (K b s)
theorem YZ:T2 267 YY:=wOK Tryz.func267
def Y0:bP:=λa b K s=>boxK 64 b (λb c=>qd 1 b c λd=>wC TP 154 [d] (λd e=>qk d 0 λf=>qk d 1 λd=>qj d λd=>ao d
 (K (.tup [an,bF]) e)
 (qd 1 b e λd=>wC TP 271 [a,d] (λd g=>qk d 0 λh=>qk d 1 λd=>qj d λd=>ao d
 (K (.tup [an,bF]) g)
 (∃d:Hq,Sub d g/\
 bK a 5 d λa=>oK (getM d a f) λa=>aY d 21 b λb=>wC TP 273 [(.agg b)] (λb f=>wC TP 272 [(retM .nilptr false a),b] (λa b=>qk a 0 λh=>qk a 1 λa=>K (.tup [h,a]) b) (add d f)) (lock g d))) e)) c) s
def Y1:Nat->List Nat:=anL [(3000007,[1]),(2000028,[0,1,2,3,4,5,6]),(2000029,[7]),(2000031,[8,9,10,11,12])]
theorem Y2:T2 270 Y0:=wOK Tryz.func270 Y1
def Y3:bP:=λa b K s=>wC TP 282 [a] (λc d=>wC TP 282 [b] (λe f=>ao c
 (ao e
 (K an f)
 (K (.int .i64 (-1)) f))
 (ao e
 (K aO f)
 (ax .lss a b λc=>ao c
 (K (.int .i64 (-1)) f)
 (ax .gtr a b λa=>ao a
 (K aO f)
 (K an f))))) d) s
theorem Y4:T2 279 Y3:=wOK Tryz.func279
def EN:cz:=λa K s=>qe true 0 false a a λa=>K a s
theorem QH:T1 282 EN:=wOK Tryz.func282
def Y5:cz:=λa K s=>boxK 64 a (λa b=>aY b 21 a λa=>wC TP 277 [(.agg a)] (λa c=>wC TP 276 [a,(.int .u64 14695981039346656037),(.fn (.func 278) [] [])] (λa d=>K a d) c) b) s
theorem Y6:T1 273 Y5:=wOK Tryz.func273
def QI:bP:=λa b K s=>oK (dX .u64 b) λb=>ax .xor a b λa=>ax .mul a (.int .u64 1099511628211) λa=>K a s
theorem Y7:T2 278 QI:=wOK Tryz.func278
def Y8:cA:=λa b c K s=>boxK 413 c (λc d=>newK 55 [(.int .u64 0)] (λe f=>oK (wr1 f (.ptr e 0) b) λb=>rngK TP 17 none a [(5,c),(7,(.ptr e 0))] [11] (rfAs 0 (bH Tryz.f276)) (rfBo 0 (bH Tryz.f276)) (λa=>qr a (.ptr e 0) λc=>K c a)
 (λa=>K (.int .u64 0) a)
 (λa c=>cond (α:=Prop) (beq a 0)
 (qr c (.ptr e 0) λa=>K a c)
 (False)) b) d) s
def yF:Nat->List Nat:=anL [(9,[5,7])]
theorem Y9:T3 276 Y8:=wOK Tryz.func276 yF
def QJ(l:Nat)(a b c:AV)(E:AExit->Hq->Prop)(s:Hq):Prop:=
 AExit.nrm=.nrm/\gj l (λd=>qr d a λa=>qr d b λe=>funK TP a [e,c] (λa c=>oK (wr1 c b a) λa=>E .nrm a) d) s
theorem Za(l:Nat)(f:Env)(t11:AV)(E:AExit->Hq->Prop)(s:Hq):wpC TP yF Tryz.f276.ntmps (some l) (rfAs 0 (bH Tryz.f276)) (setE f [11] [t11]) (λe env s=>e=.nrm/\gj l (λs=>wpC TP yF Tryz.f276.ntmps (some l) (rfBo 0 (bH Tryz.f276)) env (λe _ s=>E e s) s) s) s=QJ l (f 5) (f 7) t11 E s:=by kernel_rfl
theorem Zb{l:Nat}{t:Bool}{st:dg}{pd:Option Code}{d:Nat}{combine5 x7 t11:AV}{K:KvP}{s:Hq}(hs:s l=some (t,.loop st pd 17 [(5,combine5),(7,x7)] [11] (rfAs 0 (bH Tryz.f276)) (rfBo 0 (bH Tryz.f276)) d))(h:QJ l combine5 x7 t11 (λe s=>endK l e K s) s):gF TP l [t11] K s:=
 m8 yF hs rfl rfl λf hf=>by
 refine(Za l f t11 (λe s=>endK l e K s) s).mpr ?_
 rw[show f 5=combine5 from hf (5,combine5) (by simp)]
 rw[show f 7=x7 from hf (7,x7) (by simp)]
 exact h
def Zc:cz:=λa K s=>boxK 64 a (λa b=>K (.fn (.func 280) [] [a]) b) s
theorem Zd:T1 277 Zc:=wOK Tryz.func277
def EO:bP:=λa b K s=>qp a b λa=>K (.tup []) s
def EP:dY:=λa b c d K s=>qp c d λc=>ao c
 (qd 4 b s λb=>oK (dX .u64 b) λb=>wC TP 281 [b,(qz 3),a] (λa b=>EO c a K b) s)
 (EO c .undef K s)
def EQ:dY:=λa b c d K s=>qp c d λc=>ao c
 (qd 3 b s λd=>oK (dX .u64 d) λd=>wC TP 281 [d,(qz 2),a] (λd e=>EP a b c d K e) s)
 (EP a b c .undef K s)
def QK:bP:=λa b K s=>qd 0 b s λc=>oK (dX .u64 c) λc=>wC TP 281 [c,(qz 4),a] (λc d=>ao c
 (qd 1 b d λe=>oK (dX .u64 e) λe=>wC TP 281 [e,(qz 4),a] (λe f=>EQ a b c e K f) d)
 (EQ a b c .undef K d)) s
theorem Ze:T2 280 QK:=wOK Tryz.func280
def QL:dM:=λa b c I0 m0 K s=>ax .geq c an λd=>ao d
 (ax .mul (qz 8) c λd=>oK (fN .shr a d) λa=>oK (dX .u8 a) λa=>funK TP b [a] (λa b=>qj a λa=>ao a
 (K bF b)
 (ax .sub c aO λa=>aS m0 (I0 [a] b))) s)
 (K bT s)
def QN:cA:=λa b c K s=>ax .sub b aO λb=>bG [b] s (λf=>[f 7]) λI0 f s m0=>QL a c (f 7) I0 m0 K s
def Zf:Nat->List Nat:=anL [(4,[7])]
theorem Zg:T3 281 QN:=wOK Tryz.func281 Zf
def QO:c9:=λa b c d I0 m0 K s=>ax .lss d c λc=>ao c
 (qx 1 a d s λa=>qx 1 b d s λb=>qe true 1 false a b λa=>ao a
 (K bF s)
 (ax .add d aO λa=>aS m0 (I0 [a] s)))
 (K bT s)
def QP:bP:=λa b K s=>qh a λc=>qh b λd=>qe true 0 false (.int .i64 c) (.int .i64 d) λc=>ao c
 (K bF s)
 (qh a λc=>bG [an] s (λf=>[f 13]) λI0 f s m0=>QO a b (.int .i64 c) (f 13) I0 m0 K s)
def Zh:Nat->List Nat:=anL [(8,[13])]
theorem Zi:T2 104 QP:=wOK Tryz.func104 Zh
def yG:lg:=λa b I1 m1 I0 m0 K s=>ax .add b aO λb=>aS m1 (I1 [a,b] s)
def QQ:Dr:=λa b c d I1 m1 I0 m0 K s=>qh c λe=>ax .lss d (.int .i64 e) λe=>ao e
 (qx 1 c d s λe=>ax .sub d aO λf=>qx 1 c f s λf=>qe true 0 false e f λe=>ao e
 (qx 1 c d s λc=>qi 1 a b λe=>oK (wr1 s e c) λc=>ax .add b aO λe=>yG e d I1 m1 I0 m0 K c)
 (yG b d I1 m1 I0 m0 K s))
 (oK (fI 1 a (some b) none none) λc=>oN [an] 1 c (λc c=>oK (fI 1 a none (some b) none) λa=>K a c) s)
def QR:fQ:=λa b I0 m0 K s=>qh a λc=>ax .lss b (.int .i64 c) λc=>ao c
 (qx 1 a b s λc=>ax .sub b aO λd=>qx 1 a d s λd=>qe false 0 false c d λc=>ao c
 (oK (fI 1 a (some b) none none) λc=>bG [b,aO] s (λf=>[f 3,f 5]) λI1 f s m1=>QQ a (f 3) c (f 5) I1 m1 I0 m0 K s)
 (ax .add b aO λb=>aS m0 (I0 [b] s)))
 (K a s)
def QS:cz:=λa K s=>qh a λb=>ax .lss (.int .i64 b) (qz 2) λb=>ao b
 (K a s)
 (bG [aO] s (λf=>[f 3]) λI0 f s m0=>QR a (f 3) I0 m0 K s)
def Zj:Nat->List Nat:=anL [(8,[3]),(18,[3,5])]
theorem Zk:T1 117 QS:=wOK Tryz.func117 Zj
def QT:cA:=λa b c K s=>oK (nat? a) λd=>oK (nat? a) λa=>(d<=a/\a<=4294967296)/\newK 270 (repl a [.nilslc]) (λe f=>newK 203 [.nilslc] (λg h=>oK (wr1 h (.ptr g 0) (.slc e 0 d (some a) 1)) λa=>wC TP 133 [b,c] (λb c=>rngK TP 52 none b [(7,(.ptr g 0))] [15,16] (rfAs 0 (bH Tryz.f92)) (rfBo 0 (bH Tryz.f92)) (λb=>qr b (.ptr g 0) λd=>K d b)
 (λb=>K .nilslc b)
 (λb d=>cond (α:=Prop) (beq b 0)
 (qr d (.ptr g 0) λb=>K b d)
 (False)) c) a) f) s
def yH:Nat->List Nat:=anL [(11,[7]),(3000005,[1]),(2000020,[0,1,2,3,4,5,6,7,8,9,10,11,12,13]),(2000021,[14,15]),(2000023,[16,17]),(3000006,[1]),(2000024,[0,1,2,3,4,5,6,7,8,9,10,11,12,13]),(2000025,[14,15]),(2000027,[16,17])]
theorem Zl:T3 92 QT:=wOK Tryz.func92 yH
def QU(l:Nat)(a b c:AV)(E:AExit->Hq->Prop)(s:Hq):Prop:=
 newK 145 [an,an,an] (λd e=>qc e 3 d c λc=>AExit.nrm=.nrm/\gj l (λe=>∃f:Hq,Sub f e/\
 qr f a λg=>qd 0 (.ptr d 0) f λh=>qr f a λi=>qd 0 (.ptr d 0) f λj=>qx 1 i j f λi=>qd 1 (.ptr d 0) f λj=>qd 2 (.ptr d 0) f λk=>oK (aM [an,an,an] [(0,1,b),(1,1,j),(2,1,k)]) λj=>oK (aM (repl 1 [an,an,an]) [(0,3,(.agg j))]) λj=>aX j=true/\newK 272 j (λj k=>appK 272 3 i (.slc j 0 1 (some 1) 3) (λi j=>qi 1 g h λg=>oK (wr1 (add f j) g i) λg=>∃h:Hq,Sub h g/\
 qr h a λi=>qd 1 (.ptr d 0) h λj=>qr h a λa=>qd 1 (.ptr d 0) h λm=>qx 1 a m h λa=>qd 0 (.ptr d 0) h λm=>qd 2 (.ptr d 0) h λd=>oK (aM [an,an,an] [(0,1,b),(1,1,m),(2,1,d)]) λb=>oK (aM (repl 1 [an,an,an]) [(0,3,(.agg b))]) λb=>aX b=true/\newK 272 b (λb d=>appK 272 3 a (.slc b 0 1 (some 1) 3) (λa b=>qi 1 i j λi=>oK (wr1 (add h b) i a) λa=>E .nrm a) d) (lock g h)) k) (lock e f)) c) s
theorem Zm(l:Nat)(f:Env)(t15 t16:AV)(E:AExit->Hq->Prop)(s:Hq):wpC TP yH Tryz.f92.ntmps (some l) (rfAs 0 (bH Tryz.f92)) (setE f [15,16] [t15,t16]) (λe env s=>e=.nrm/\gj l (λs=>wpC TP yH Tryz.f92.ntmps (some l) (rfBo 0 (bH Tryz.f92)) env (λe _ s=>E e s) s) s) s=QU l (f 7) t15 t16 E s:=by kernel_rfl
theorem Zn{l:Nat}{t:Bool}{st:dg}{pd:Option Code}{d:Nat}{x7 t15 t16:AV}{K:KvP}{s:Hq}(hs:s l=some (t,.loop st pd 52 [(7,x7)] [15,16] (rfAs 0 (bH Tryz.f92)) (rfBo 0 (bH Tryz.f92)) d))(h:QU l x7 t15 t16 (λe s=>endK l e K s) s):gF TP l [t15,t16] K s:=
 m8 yH hs rfl rfl λf hf=>by
 refine(Zm l f t15 t16 (λe s=>endK l e K s) s).mpr ?_
 rw[show f 7=x7 from hf (7,x7) (by simp)]
 exact h
def yI:gk:=λa I0 m0 K s=>ax .add a aO λa=>aS m0 (I0 [a] s)
def QV:cY:=λa b c d e I0 m0 K s=>ax .lss e d λd=>ao d
 (qi 2 c e λc=>aY s 2 c λc=>newK 285 [cO,.nilslc] (λd f=>qc f 2 d (.agg c) λc=>bK a 4 c λf=>aY c 2 (.ptr d 0) λg=>oK (aM (repl 1 [cO,.nilslc]) [(0,2,(.agg g))]) λg=>aX g=true/\
 newK 253 g (λg h=>appK 253 2 f (.slc g 0 1 (some 1) 2) (λf g=>qs a 4 g f λf=>qd 0 (.ptr d 0) f λg=>wC TP 154 [g] (λg i=>qk g 0 λj=>qk g 1 λg=>ao g
 (oK (fj 32 1 b j) λg=>oK (wr1 i g bT) λg=>qd 1 (.ptr d 0) g λd=>wC TP 155 [a,j,d] (λd d=>yI e I0 m0 K d) g)
 (yI e I0 m0 K i)) f) h) c) s)
 (bK a 5 s λa=>jv a (λa c=>oK (rK c a) λd=>∃I2:LvP,I2 [] [] (hdel c d.1)/\
 ∀(n_67:List Nat) (f_68:Env) (S69:Hq),I2 n_67 [] S69->S69 d.1=none->kX S69 d.2.1 d.2.2.2.1 d.2.2.2.2/\
 (∀e_66∈d.2.2.2.2,hasN e_66.born n_67=false->
 ao bT
 (oK (entD (hset S69 d.1 (true,.iter d.2.1 d.2.2.1 (n_67 ++ [e_66.born]) d.2.2.2.1)) a) λc=>qk c 0 λe=>qk c 1 λc=>oK (fj 32 1 b e) λe=>oK (rd1 (hset S69 d.1 (true,.iter d.2.1 d.2.2.1 (n_67 ++ [e_66.born]) d.2.2.2.1)) e) λe=>qj e λe=>ao e
 (wC TP 156 [c,.nilslc] (λc c=>I2 (n_67 ++ [e_66.born]) [] (hdel c d.1)) (hset S69 d.1 (true,.iter d.2.1 d.2.2.1 (n_67 ++ [e_66.born]) d.2.2.2.1)))
 (I2 (n_67 ++ [e_66.born]) [] (hdel (hset S69 d.1 (true,.iter d.2.1 d.2.2.1 (n_67 ++ [e_66.born]) d.2.2.2.1)) d.1)))
 (K an (hdel (hset S69 d.1 (true,.iter d.2.1 d.2.2.1 (n_67 ++ [e_66.born]) d.2.2.2.1)) d.1)))/\
 ((∀e_66∈d.2.2.2.2,hasN e_66.born n_67=true)->
 ao bF
 (oK (entD S69 a) λa=>qk a 0 λc=>qk a 1 λa=>oK (fj 32 1 b c) λb=>qr S69 b λb=>qj b λb=>ao b
 (wC TP 156 [a,.nilslc] (λa a=>False) S69)
 (False))
 (K an S69))) s)
def Zo:bP:=λa b K s=>wC TP 121 [a] (λc d=>qj c λc=>ao c
 (K aO d)
 (qh b λc=>bK a 3 d λe=>qh e λe=>qe true 0 false (.int .i64 c) (.int .i64 e) λc=>ao c
 (K (qz 2) d)
 (qs a 4 d .nilslc λc=>newK 282 [bF,bF,bF,bF,bF,bF,bF,bF,bF,bF,bF,bF,bF,bF,bF,bF,bF,bF,bF,bF,bF,bF,bF,bF,bF,bF,bF,bF,bF,bF,bF,bF] (λd e=>bK a 0 e λg=>bK a 3 e λh=>bK a 1 e λi=>wC TP 153 [g,h,b,i] (λb g=>qh b λh=>bG [an] g (λf=>[f 41]) λI0 f s m0=>QV a (.ptr d 0) b (.int .i64 h) (f 41) I0 m0 K s) e) c))) s
def Zp:Nat->List Nat:=anL [(16,[41]),(3000010,[0]),(2000040,[0,1,2,3,4,5]),(2000042,[6]),(2000043,[7,8,9,10]),(34,[])]
theorem Zq:T2 118 Zo:=wOK Tryz.func118 Zp
def ES:bP:=λa b K s=>qp a b λa=>K a s
def ET:cA:=λa b c K s=>qp b c λb=>ao b
 (bK a 8 s λa=>qe true 3 true a .nilptr λa=>ES b a K s)
 (ES b .undef K s)
def QW:cz:=λa K s=>qe true 3 true a .nilptr λb=>ao b
 (bK a 7 s λc=>qe true 3 true c .nilptr λc=>ET a b c K s)
 (ET a b .undef K s)
theorem Zr:T1 41 QW:=wOK Tryz.func41
def EU:cA:=λa b c K s=>qt b c λb=>qp a b λa=>K a s
def yJ:dY:=λa b c d K s=>qp c d λc=>ao c
 (bK a 4 s λd=>qw 3 d b 0 s λd=>bK a 0 s λe=>qe false 0 false d e λd=>ao d
 (EU c d .undef K s)
 (bK a 4 s λe=>qw 3 e b 1 s λb=>bK a 0 s λa=>qe false 0 false b a λa=>EU c d a K s))
 (qp c .undef λa=>K a s)
def QX:bP:=λa b K s=>ax .geq b an λc=>ao c
 (bK a 4 s λd=>qh d λd=>ax .lss b (.int .i64 d) λd=>yJ a b c d K s)
 (yJ a b c .undef K s)
theorem Zt:T2 49 QX:=wOK Tryz.func49
def EV:cz:=λa K s=>bK a 2 s λb=>bK a 3 s λa=>ax .add b a λa=>K a s
theorem QY:T1 65 EV:=wOK Tryz.func65
def Zu:cz:=λa K s=>boxK 22 a (λa b=>K (.fn (.func 96) [] [a]) b) s
theorem Zv:T1 44 Zu:=wOK Tryz.func44
def QZ:cY:=λa b c d e I0 m0 K s=>ax .lss e d λd=>ao d
 (qx 1 c e s λc=>qr s b λb=>bK b 6 s λb=>oK (getM s b c) λb=>funK TP a [c,(retM .nilptr false b)] (λa b=>qj a λa=>ao a
 (K (.tup []) b)
 (ax .add e aO λa=>aS m0 (I0 [a] b))) s)
 (K (.tup []) s)
def Q0:bP:=λa b K s=>qr s b λc=>bK c 6 s λc=>wC TP 43 [c] (λc d=>wC TP 42 [c] (λc e=>qh c λg=>bG [an] e (λf=>[f 12]) λI0 f s m0=>QZ a b c (.int .i64 g) (f 12) I0 m0 K s) d) s
def Zw:Nat->List Nat:=anL [(2,[12])]
theorem Zx:T2 96 Q0:=wOK Tryz.func96 Zw
def Zy:cz:=λa K s=>newK 36 [.nilslc] (λb c=>rngK TP 20 none a [(3,(.ptr b 0))] [7,8] (rfAs 0 (bH Tryz.f52)) (rfBo 0 (bH Tryz.f52)) (λa=>qr a (.ptr b 0) λd=>K d a)
 (λa=>K .nilslc a)
 (λa d=>cond (α:=Prop) (beq a 0)
 (qr d (.ptr b 0) λa=>K a d)
 (False)) c) s
def yK:Nat->List Nat:=anL [(11,[3])]
theorem Zz:T1 52 Zy:=wOK Tryz.func52 yK
def Q3(l:Nat)(a b c:AV)(E:AExit->Hq->Prop)(s:Hq):Prop:=
 newK 34 [an,an,.nilslc] (λd e=>qc e 3 d c λc=>AExit.nrm=.nrm/\gj l (λe=>qd 2 (.ptr d 0) e λf=>wC TP 105 [f] (λf g=>qf 2 (.ptr d 0) λh=>oK (wr1 g h f) λf=>qr f a λg=>aY f 3 (.ptr d 0) λd=>oK (aM [an,an,an,.nilslc] [(0,1,b),(1,3,(.agg d))]) λb=>oK (aM (repl 1 [an,an,an,.nilslc]) [(0,4,(.agg b))]) λb=>aX b=true/\newK 190 b (λb d=>appK 190 4 g (.slc b 0 1 (some 1) 4) (λb g=>oK (wr1 g a b) λa=>E .nrm a) d) f) e) c) s
theorem ZA(l:Nat)(f:Env)(t7 t8:AV)(E:AExit->Hq->Prop)(s:Hq):wpC TP yK Tryz.f52.ntmps (some l) (rfAs 0 (bH Tryz.f52)) (setE f [7,8] [t7,t8]) (λe env s=>e=.nrm/\gj l (λs=>wpC TP yK Tryz.f52.ntmps (some l) (rfBo 0 (bH Tryz.f52)) env (λe _ s=>E e s) s) s) s=Q3 l (f 3) t7 t8 E s:=by kernel_rfl
theorem ZB{l:Nat}{t:Bool}{st:dg}{pd:Option Code}{d:Nat}{result3 t7 t8:AV}{K:KvP}{s:Hq}(hs:s l=some (t,.loop st pd 20 [(3,result3)] [7,8] (rfAs 0 (bH Tryz.f52)) (rfBo 0 (bH Tryz.f52)) d))(h:Q3 l result3 t7 t8 (λe s=>endK l e K s) s):gF TP l [t7,t8] K s:=
 m8 yK hs rfl rfl λf hf=>by
 refine(ZA l f t7 t8 (λe s=>endK l e K s) s).mpr ?_
 rw[show f 3=result3 from hf (3,result3) (by simp)]
 exact h
def ZC:bP:=λa b K s=>boxK 22 a (λa c=>boxK 133 b (λb d=>K (.fn (.func 106) [] [a,b]) d) c) s
theorem ZD:T2 53 ZC:=wOK Tryz.func53
def ZE:cA:=λa b c K s=>boxK 224 a (λa d=>qr d b λb=>wC TP 44 [b] (λb e=>rngK TP 29 none b [(2,c),(3,a)] [10,11] (rfAs 0 (bH Tryz.f106)) (rfBo 0 (bH Tryz.f106)) (λa=>K (.tup []) a)
 (λa=>K (.tup []) a)
 (λa b=>cond (α:=Prop) (beq a 0)
 (K (.tup []) b)
 (False)) e) d) s
def yL:Nat->List Nat:=anL [(9,[2,3]),(12,[19])]
theorem ZF:T3 106 ZE:=wOK Tryz.func106 yL
def Q4(a b c d e:AV)(I0:IvP)(m0:Nat)(E:AExit->Hq->Prop)(s:Hq):Prop:=
 ax .lss e d λd=>ao d
 (qi 3 c e λc=>aY s 3 c λc=>newK 34 [an,an,.nilslc] (λd f=>qc f 3 d (.agg c) λc=>qr c a λa=>aY c 3 (.ptr d 0) λd=>funK TP a [b,(.agg d)] (λa b=>qj a λa=>ao a
 (E .ret b)
 (ax .add e aO λa=>aS m0 (I0 [a] b))) c) s)
 (E .nrm s)
def EW(l:Nat)(a b c d:AV)(E:AExit->Hq->Prop)(s:Hq):Prop:=
 AExit.nrm=.nrm/\gj l (λe=>wC TP 45 [d] (λd g=>qj d λd=>ao d
 (E .nrm g)
 (qr g a λa=>funK TP a [c] (λa d=>qh a λh=>bG [an] d (λf=>[f 19]) λI0 f s m0=>Q4 b c a (.int .i64 h) (f 19) I0 m0 E s) g)) e) s
theorem ZG(l:Nat)(f:Env)(t10 t11:AV)(E:AExit->Hq->Prop)(s:Hq):wpC TP yL Tryz.f106.ntmps (some l) (rfAs 0 (bH Tryz.f106)) (setE f [10,11] [t10,t11]) (λe env s=>e=.nrm/\gj l (λs=>wpC TP yL Tryz.f106.ntmps (some l) (rfBo 0 (bH Tryz.f106)) env (λe _ s=>E e s) s) s) s=EW l (f 2) (f 3) t10 t11 E s:=by kernel_rfl
theorem ZH{l:Nat}{t:Bool}{st:dg}{pd:Option Code}{d:Nat}{t2 yield3 t10 t11:AV}{K:KvP}{s:Hq}(hs:s l=some (t,.loop st pd 29 [(2,t2),(3,yield3)] [10,11] (rfAs 0 (bH Tryz.f106)) (rfBo 0 (bH Tryz.f106)) d))(h:EW l t2 yield3 t10 t11 (λe s=>endK l e K s) s):gF TP l [t10,t11] K s:=
 m8 yL hs rfl rfl λf hf=>by
 refine(ZG l f t10 t11 (λe s=>endK l e K s) s).mpr ?_
 rw[show f 2=t2 from hf (2,t2) (by simp)]
 rw[show f 3=yield3 from hf (3,yield3) (by simp)]
 exact h
def EX:l8:=λK s=>K .nilslc s
def tB:cA:=λa b c K s=>ao c
 (qr s b λb=>bK b 7 s λb=>qd 0 a s λa=>wC TP 55 [b,a] (λa b=>qk a 0 λc=>qk a 1 λa=>newK 34 [an,an,.nilslc] (λd e=>qc e 3 d c λc=>ao a
 (aY c 3 (.ptr d 0) λa=>oK (aM (repl 1 [an,an,.nilslc]) [(0,3,(.agg a))]) λa=>aX a=true/\newK 34 a (λa d=>K (.slc a 0 1 (some 1) 3) d) c)
 (EX  K c)) b) s)
 (EX  K s)
def yM:dY:=λa b c d K s=>qp c d λc=>tB a b c K s
def yN:li:=λa b c d e f g K s=>qp f g λf=>ao f
 (aY s 3 d λf=>oK (aM (repl 1 [an,an,.nilslc]) [(0,3,(.agg f))]) λf=>aX f=true/\newK 34 f (λf g=>K (.slc f 0 1 (some 1) 3) g) s)
 (qr s b λf=>qe false 0 true f (qz 3) λf=>ao f
 (tB d e f K s)
 (qr s b λb=>qe false 0 true b (qz 2) λb=>ao b
 (qr s c λc=>qe false 0 false a c λa=>yM d e b a K s)
 (yM d e b .undef K s)))
def Q5:fH:=λa b c d e K s=>qr s b λf=>qe false 0 true f aO λf=>ao f
 (qr s c λg=>qe true 0 false a g λg=>yN a b c d e f g K s)
 (yN a b c d e f .undef K s)
def ZI:Nat->List Nat:=anL [(3000005,[0]),(2000020,[0,1,2,3,4,5]),(2000021,[6,7,8,9]),(2000022,[10]),(2000023,[11,12])]
theorem ZJ:T5 54 Q5:=wOK Tryz.func54 ZI
def yO:fH:=λa b c d e K s=>qt d e λd=>ao d
 (qr s a λa=>bK a 7 s λa=>wC TP 60 [a] (λa d=>K a d) s)
 (qr s b λa=>ao a
 (aY s 3 c λa=>oK (aM (repl 1 [an,an,.nilslc]) [(0,3,(.agg a))]) λa=>aX a=true/\newK 34 a (λa b=>K (.slc a 0 1 (some 1) 3) b) s)
 (K .nilslc s))
def Q7:kq:=λa b c d e f K s=>oK (fj 128 1 b a) λa=>qr s a λa=>ao a
 (yO d e f a .undef K s)
 (qr s c λb=>ax .rem b (qz 8) λb=>qe false 0 true b an λb=>yO d e f a b K s)
theorem ZK:T6 59 Q7:=wOK Tryz.func59
def Q8:lh:=λa b c d e f I1 m1 I0 m0 K s=>ax .lss f e λe=>ao e
 (qx 1 d f s λd=>qx 1 a d s λe=>qd 0 b s λb=>appK 3 1 e b (λb e=>qi 1 a d λa=>oK (wr1 e a b) λa=>ax .add f aO λb=>aS m1 (I1 [b] a)) s)
 (ax .add c aO λa=>aS m0 (I0 [a] s))
def EY:c9:=λa b c d I2 m2 K s=>ax .lss d c λc=>ao c
 (qx 1 b d s λb=>wC TP 94 [b] (λc c=>wC TP 117 [b] (λb e=>qi 1 a d λf=>oK (wr1 e f b) λb=>ax .add d aO λd=>aS m2 (I2 [d] b)) c) s)
 (K a s)
def Ra:c9:=λa b c d I0 m0 K s=>ax .lss d c λc=>ao c
 (qi 2 b d λb=>aY s 2 b λb=>newK 163 [.nilslc,.nilslc] (λc e=>qc e 2 c (.agg b) λb=>qd 1 (.ptr c 0) b λe=>qh e λg=>bG [an] b (λf=>[f 24]) λI1 f s m1=>Q8 a (.ptr c 0) d e (.int .i64 g) (f 24) I1 m1 I0 m0 K s) s)
 (qh a λb=>bG [an] s (λf=>[f 42]) λI2 f s m2=>EY a a (.int .i64 b) (f 42) I2 m2 K s)
def ZL:cz:=λa K s=>boxK 52 a (λa b=>qd 4 a b λc=>qh c λc=>oK (nat? (.int .i64 c)) λd=>oK (nat? (.int .i64 c)) λc=>(d<=c/\c<=4294967296)/\newK 25 (repl c [.nilslc]) (λe g=>qd 5 a g λa=>qh a λh=>bG [an] g (λf=>[f 17]) λI0 f s m0=>Ra (.slc e 0 d (some c) 1) a (.int .i64 h) (f 17) I0 m0 K s) b) s
def ZM:Nat->List Nat:=anL [(6,[17]),(12,[24]),(24,[42])]
theorem ZN:T1 63 ZL:=wOK Tryz.func63 ZM
def ZO:cz:=λa K s=>wC TP 41 [a] (λb c=>qj b λb=>ao b
 (K .nilslc c)
 (bK a 6 c λa=>wC TP 43 [a] (λa b=>wC TP 42 [a] (λa d=>K a d) b) c)) s
theorem ZP:T1 10 ZO:=wOK Tryz.func10
def ZQ:cz:=λa K s=>wC TP 41 [a] (λb c=>qj b λb=>ao b
 (K .nilslc c)
 (newK 25 [.nilslc] (λb d=>wC TP 44 [a] (λa e=>rngK TP 20 none a [(3,(.ptr b 0))] [11,12] (rfAs 0 (bH Tryz.f11)) (rfBo 0 (bH Tryz.f11)) (λa=>qr a (.ptr b 0) λf=>K f a)
 (λa=>K .nilslc a)
 (λa f=>cond (α:=Prop) (beq a 0)
 (qr f (.ptr b 0) λa=>K a f)
 (False)) e) d) c)) s
def yP:Nat->List Nat:=anL [(15,[3])]
theorem ZR:T1 11 ZQ:=wOK Tryz.func11 yP
def EZ(l:Nat)(a b c:AV)(E:AExit->Hq->Prop)(s:Hq):Prop:=
 AExit.nrm=.nrm/\gj l (λd=>wC TP 45 [c] (λc e=>ao c
 (qr e a λc=>oK (aM (repl 1 [an]) [(0,1,b)]) λb=>aX b=true/\newK 3 b (λb f=>appK 3 1 c (.slc b 0 1 (some 1) 1) (λb c=>oK (wr1 c a b) λa=>E .nrm a) f) e)
 (E .nrm e)) d) s
theorem ZS(l:Nat)(f:Env)(t11 t12:AV)(E:AExit->Hq->Prop)(s:Hq):wpC TP yP Tryz.f11.ntmps (some l) (rfAs 0 (bH Tryz.f11)) (setE f [11,12] [t11,t12]) (λe env s=>e=.nrm/\gj l (λs=>wpC TP yP Tryz.f11.ntmps (some l) (rfBo 0 (bH Tryz.f11)) env (λe _ s=>E e s) s) s) s=EZ l (f 3) t11 t12 E s:=by kernel_rfl
theorem ZT{l:Nat}{t:Bool}{st:dg}{pd:Option Code}{d:Nat}{result3 t11 t12:AV}{K:KvP}{s:Hq}(hs:s l=some (t,.loop st pd 20 [(3,result3)] [11,12] (rfAs 0 (bH Tryz.f11)) (rfBo 0 (bH Tryz.f11)) d))(h:EZ l result3 t11 t12 (λe s=>endK l e K s) s):gF TP l [t11,t12] K s:=
 m8 yP hs rfl rfl λf hf=>by
 refine(ZS l f t11 t12 (λe s=>endK l e K s) s).mpr ?_
 rw[show f 3=result3 from hf (3,result3) (by simp)]
 exact h
def yQ:fH:=λa b c d e K s=>qp d e λd=>ao d
 (K (.tup [.nilslc,bF,(qz 2)]) s)
 (∃d:Hq,Sub d s/\
 qd 1 c d λe=>aY d 21 c λc=>wC TP 71 [a,e] (λa e=>eg TP a "leafmesh/transit.forward" [(.agg c),b] (λa b=>qk a 0 λc=>qk a 1 λf=>qk a 2 λa=>K (.tup [c,f,a]) b) (add d e)) (lock s d))
def ZU:cA:=λa b c K s=>boxK 64 b (λb d=>wC TP 41 [a] (λe f=>qj e λe=>ao e
 (K (.tup [.nilslc,bF,aO]) f)
 (qe true 0 true c (.int .i64 (-1)) λe=>ao e
 (dR a 0 λg=>wC TP 49 [g,c] (λg h=>qj g λg=>yQ a c b e g K h) f)
 (yQ a c b e .undef K f))) d) s
def ZV:Nat->List Nat:=anL [(3000005,[1]),(2000020,[0,1,2,4,5]),(2000021,[3]),(2000023,[6,7,8,9,10,11,12])]
theorem ZW:T3 23 ZU:=wOK Tryz.func23 ZV
def Rb:cY:=λa b c d e I0 m0 K s=>ax .lss e d λd=>ao d
 (qx 1 c e s λc=>wC TP 14 [e] (λd f=>qe false 0 false d b λb=>ao b
 (oK (aM [.nilptr,.nilslc] [(0,1,a),(1,1,c)]) λb=>K (.ifc 248 (.agg b)) f)
 (ax .add e aO λb=>aS m0 (I0 [b] f))) s)
 (oK (aM [.nilptr] [(0,1,a)]) λa=>K (.ifc 250 (.agg a)) s)
def Rc:bP:=λa b K s=>dR a 0 λc=>qd 5 c s λc=>qh c λd=>bG [an] s (λf=>[f 13]) λI0 f s m0=>Rb a b c (.int .i64 d) (f 13) I0 m0 K s
def ZX:Nat->List Nat:=anL [(4,[13])]
theorem ZY:T2 71 Rc:=wOK Tryz.func71 ZX
def ZZ:cA:=λa b c K s=>boxK 250 a (λa c=>boxK 64 b (λb d=>qd 1 b d λe=>qd 0 a d λf=>dR f 0 λf=>qd 1 f d λf=>qe false 0 false e f λe=>ao e
 (K (.tup [.nilslc,bT,an]) d)
 (qd 0 a d λa=>bK a 8 d λa=>aY d 21 b λb=>wC TP 265 [a,(.agg b)] (λa b=>qk a 0 λe=>qk a 1 λf=>qk a 2 λa=>newK 64 o4 (λg h=>qc h 21 g f λf=>qe true 0 true a an λh=>ao h
 (K (.tup [.nilslc,bF,a]) f)
 (aY f 21 (.ptr g 0) λa=>oK (aM o5 [(0,1,e),(1,21,(.agg a))]) λa=>oK (aM (repl 1 o5) [(0,22,(.agg a))]) λa=>aX a=true/\newK 121 a (λa e=>K (.tup [(.slc a 0 1 (some 1) 22),bF,an]) e) f)) b) d)) c) s
def Z0:Nat->List Nat:=anL [(3000003,[0]),(2000012,[0,1,2,3,4,5]),(2000013,[6,7,8,9,10]),(2000014,[11]),(2000015,[12,13,14])]
theorem Z1:T3 264 ZZ:=wOK Tryz.func264 Z0
def E0:cA:=λa b c K s=>qt b c λb=>ao b
 (K cO s)
 (oK (dX .u32 a) λa=>ax .add (.int .u32 4009754625) a λa=>K a s)
def Rd:cz:=λa K s=>ax .lss a an λb=>ao b
 (E0 a b .undef K s)
 (ax .geq a (qz 32) λc=>E0 a b c K s)
theorem Z2:T1 14 Rd:=wOK Tryz.func14
def Re:bP:=λa b K s=>qs a 11 s b λc=>bK a 8 c λd=>wC TP 118 [d,b] (λd d=>∃e:Hq,Sub e d/\
 dR a 0 λf=>dR a 0 λg=>qd 4 g e λg=>dR a 0 λh=>qd 0 h e λh=>wC TP 65 [f] (λf i=>wC TP 36 [f,g,b,h] (λb f=>qs a 12 f b λa=>K (.tup []) a) (add e i)) (lock d e)) c
def Z3:Nat->List Nat:=anL [(3000002,[1]),(2000008,[0,1,2,3,5,6,7,8,9,10,11,12,13,14,15]),(2000009,[4]),(2000011,[16,17,18,19])]
theorem Z4:T2 68 Re:=wOK Tryz.func68 Z3
def Rf:cz:=λa K s=>bK a 7 s λb=>dR a 0 λc=>qd 4 c s λc=>wC TP 69 [b,c] (λb c=>bK a 11 c λd=>wC TP 104 [b,d] (λd e=>qj d λd=>ao d
 (wC TP 68 [a,b] (λa a=>K (.tup []) a) e)
 (K (.tup []) e)) c) s
theorem Z5:T1 51 Rf:=wOK Tryz.func51
def tC:cY:=λa b c d e I1 m1 K s=>qp d e λd=>ao d
 (K (.tup [.nilslc,(qz 10)]) s)
 (ax .add c aO λc=>aS m1 (I1 [a,b,c] s))
def E1:fH:=λa b c d e K s=>qr s a λf=>wC TP 51 [f] (λf f=>qr f a λg=>wC TP 53 [g,(.fn (.func 59) [] [c,b,a,e,d])] (λa b=>wC TP 52 [a] (λa c=>K (.tup [a,an]) c) b) f) s
def Rg:fH:=λa b c d e K s=>qr s a λf=>wC TP 51 [f] (λf f=>qr f a λg=>wC TP 53 [g,(.fn (.func 59) [] [c,b,a,e,d])] (λa b=>wC TP 52 [a] (λa c=>K (.tup [a,an]) c) b) f) s
def pq:li:=λa b c d e f g K s=>qp f g λf=>ao f
 (K (.tup [.nilslc,(qz 20)]) s)
 (∃f:Hq,Sub f s/\
 qr f a λg=>qr f a λh=>qr f b λi=>qs g 9 (lock s f) bT λg=>qs h 10 (add f g) i λf=>newK 134 (replicate 128 bF) (λg h=>qr h a λi=>wC TP 44 [i] (λi j=>rngK TP 116 none i [(4,b),(5,c),(10,(.ptr g 0))] [75,76] (rfAs 0 (bH Tryz.f18)) (rfBo 0 (bH Tryz.f18)) (λc=>∃i:Hq,Sub i c/\
 qr i a λk=>bK k 7 i λk=>qr i a λl=>wC TP 11 [l] (λl m=>wC TP 58 [k,l] (λk l=>qk k 0 λn=>qk k 1 λo=>qk k 2 λk=>newK 34 [an,an,.nilslc] (λp q=>newK 4 [bF] (λr t=>qc t 3 p n λn=>oK (wr1 n (.ptr r 0) o) λn=>qe true 0 true k an λk=>ao k
 (oK (wr1 n (.ptr r 0) bF) λk=>E1 a b (.ptr g 0) (.ptr p 0) (.ptr r 0) K k)
 (E1 a b (.ptr g 0) (.ptr p 0) (.ptr r 0) K n)) q) (add i l)) m) (lock c i))
 (λc=>K (.tup [d,e]) c)
 (λc d=>cond (α:=Prop) (beq c 2)
 (∃c:Hq,Sub c d/\
 qr c a λe=>bK e 7 c λe=>qr c a λi=>wC TP 11 [i] (λi k=>wC TP 58 [e,i] (λe i=>qk e 0 λl=>qk e 1 λm=>qk e 2 λe=>newK 34 [an,an,.nilslc] (λn o=>newK 4 [bF] (λp q=>qc q 3 n l λl=>oK (wr1 l (.ptr p 0) m) λl=>qe true 0 true e an λe=>ao e
 (oK (wr1 l (.ptr p 0) bF) λe=>Rg a b (.ptr g 0) (.ptr n 0) (.ptr p 0) K e)
 (Rg a b (.ptr g 0) (.ptr n 0) (.ptr p 0) K l)) o) (add c i)) k) (lock d c))
 (False)) j) h) f)
def E2:fJ:=λa b c d e f g h I1 m1 K s=>ax .lss h g λg=>ao g
 (qx 1 f h s λf=>qr s a λg=>dR g 0 λg=>wC TP 49 [g,f] (λg i=>qj g λg=>ao g
 (K (.tup [.nilslc,(qz 2)]) i)
 (ax .gtr h an λg=>ao g
 (qr i c λj=>ax .sub h aO λk=>qx 1 j k i λj=>ax .leq f j λf=>tC d e h g f I1 m1 K i)
 (tC d e h g .undef I1 m1 K i))) s)
 (qr s a λf=>bK f 9 s λf=>ao f
 (qr s b λg=>qr s a λh=>bK h 10 s λh=>ax .leq g h λg=>pq a b c d e f g K s)
 (pq a b c d e f .undef K s))
def yR:li:=λa b c d e g h K s=>qt g h λg=>ao g
 (K (.tup [.nilslc,(qz 2)]) s)
 (qr s c λg=>qh g λh=>bG [d,e,an] s (λf=>[f 6,f 7,f 31]) λI1 f s m1=>E2 a b c (f 6) (f 7) g (.int .i64 h) (f 31) I1 m1 K s)
def Z6:cA:=λa b c K s=>boxK 22 a (λa d=>boxK 3 b (λb e=>boxK 25 c (λc f=>qr f a λg=>wC TP 41 [g] (λg h=>qj g λg=>ao g
 (K (.tup [.nilslc,aO]) h)
 (qr h b λg=>ax .lss g an λg=>ao g
 (yR a b c .nilslc an g .undef K h)
 (qr h b λi=>ax .gtr i (qz 1099511627776) λi=>yR a b c .nilslc an g i K h))) f) e) d) s
def yS:Nat->List Nat:=anL [(12,[6,7,31]),(3000015,[1]),(2000060,[0,1,2,3,4]),(2000061,[5]),(2000063,[6,7,8]),(41,[4,5,10]),(3000023,[1]),(2000092,[0,1,2,3,4]),(2000093,[5,6,7,8,9,10]),(2000094,[11,12]),(2000095,[13,14,15])]
theorem Rh:T3 18 Z6:=wOK Tryz.func18 yS
def yT(a b c d:AV)(E:AExit->Hq->Prop)(s:Hq):Prop:=
 qp c d λc=>oK (fj 128 1 a b) λa=>oK (wr1 s a c) λa=>E .nrm a
def Ri(l:Nat)(a b c d e:AV)(E:AExit->Hq->Prop)(s:Hq):Prop:=
 AExit.nrm=.nrm/\gj l (λf=>qr f b λb=>wC TP 56 [b,d] (λb g=>qk b 0 λh=>qk b 1 λb=>qr g a λa=>wC TP 57 [e,a,b] (λa b=>qk a 0 λh=>qk a 1 λa=>ao h
 (wC TP 45 [e] (λa e=>yT c d h a E e) b)
 (yT c d h .undef E b)) g) f) s
theorem Z7(l:Nat)(f:Env)(t75 t76:AV)(E:AExit->Hq->Prop)(s:Hq):wpC TP yS Tryz.f18.ntmps (some l) (rfAs 0 (bH Tryz.f18)) (setE f [75,76] [t75,t76]) (λe env s=>e=.nrm/\gj l (λs=>wpC TP yS Tryz.f18.ntmps (some l) (rfBo 0 (bH Tryz.f18)) env (λe _ s=>E e s) s) s) s=Ri l (f 4) (f 5) (f 10) t75 t76 E s:=by kernel_rfl
theorem Z8{l:Nat}{t:Bool}{st:dg}{pd:Option Code}{d:Nat}{x4 heard5 x10 t75 t76:AV}{K:KvP}{s:Hq}(hs:s l=some (t,.loop st pd 116 [(4,x4),(5,heard5),(10,x10)] [75,76] (rfAs 0 (bH Tryz.f18)) (rfBo 0 (bH Tryz.f18)) d))(h:Ri l x4 heard5 x10 t75 t76 (λe s=>endK l e K s) s):gF TP l [t75,t76] K s:=
 m8 yS hs rfl rfl λf hf=>by
 refine(Z7 l f t75 t76 (λe s=>endK l e K s) s).mpr ?_
 rw[show f 4=x4 from hf (4,x4) (by simp)]
 rw[show f 5=heard5 from hf (5,heard5) (by simp)]
 rw[show f 10=x10 from hf (10,x10) (by simp)]
 exact h
def Z9:cA:=λa b c K s=>boxK 22 a (λa d=>boxK 3 b (λb e=>boxK 34 c (λc f=>qr f a λg=>wC TP 41 [g] (λg h=>qj g λg=>ao g
 (K (.tup [.nilslc,aO]) h)
 (qr h a λg=>dR g 0 λg=>qr h b λi=>wC TP 49 [g,i] (λg i=>qj g λg=>ao g
 (K (.tup [.nilslc,(qz 2)]) i)
 (qr i a λg=>bK g 7 i λg=>aY i 3 c λj=>wC TP 50 [g,(.agg j)] (λg j=>qk g 0 λk=>qk g 1 λg=>newK 3 [an] (λl m=>oK (wr1 m (.ptr l 0) k) λk=>qe true 0 true g an λm=>ao m
 (K (.tup [.nilslc,g]) k)
 (qr k a λg=>wC TP 51 [g] (λg g=>qr g a λm=>wC TP 53 [m,(.fn (.func 54) [] [(.ptr l 0),b,c,a])] (λa b=>wC TP 52 [a] (λa c=>K (.tup [a,an]) c) b) g) k)) j) i)) h)) f) e) d) s
def a_:Nat->List Nat:=anL [(3000005,[0]),(2000020,[0,1,2,3,4]),(2000021,[5,6,7,8]),(2000022,[9]),(2000023,[10,11])]
theorem Rj:T3 17 Z9:=wOK Tryz.func17 a_
def yU:gk:=λa I1 m1 K s=>ax .add a aO λa=>aS m1 (I1 [a] s)
def pu:c9:=λa b c d I1 m1 K s=>ax .lss d c λc=>ao c
 (dR b 0 λc=>wC TP 49 [c,d] (λc e=>qj c λc=>ao c
 (yU d I1 m1 K e)
 (∃c:Hq,Sub c e/\
 bK b 6 c λf=>qf 13 a λa=>qd 0 a c λa=>wC TP 67 [a] (λa g=>qk a 0 λh=>qk a 1 λa=>oK (putM (add c g) f d h) λf=>qe true 0 true a an λg=>ao g
 (K (.tup [.nilptr,a]) f)
 (yU d I1 m1 K f)) (lock e c))) s)
 (bK b 7 s λa=>dR b 0 λc=>qd 4 c s λc=>wC TP 69 [a,c] (λa c=>wC TP 68 [b,a] (λa a=>K (.tup [b,an]) a) c) s)
def E3:dY:=λa b c d K s=>qt c d λc=>ao c
 (K (.tup [.nilptr,(qz 2)]) s)
 (mapK (λc d=>oK (aM [an,cO,an,an,.nilslc,.nilslc,.nilmap,.nilptr,.nilptr,bF,an,.nilslc,.nilslc] [(6,1,c)]) λc=>boxK 75 (.agg c) (λc e=>∃g:Hq,Sub g e/\
 qd 0 b g λh=>qd 1 b g λi=>qd 2 b g λj=>aY g 19 b λk=>wC TP 62 [j] (λj l=>wC TP 63 [(.agg k)] (λk m=>oK (aM [an,cO,an,an,.nilslc,.nilslc] [(0,1,a),(2,1,h),(3,1,i),(4,1,j),(5,1,k)]) λh=>dR c 0 λi=>oK (dP (add g m) 6 i (.agg h)) λh=>wC TP 47 [a] (λi j=>qk i 0 λk=>qk i 1 λi=>dR c 0 λi=>qf 1 i λi=>oK (wr1 j i k) λi=>dR c 0 λj=>wC TP 65 [j] (λj k=>wC TP 64 [j,a] (λj m=>qk j 0 λn=>qk j 1 λj=>qs c 7 m n λm=>qe true 0 true j an λn=>ao n
 (K (.tup [.nilptr,j]) m)
 (∃j:Hq,Sub j m/\
 dR c 0 λn=>dR c 0 λo=>qd 4 o j λo=>wC TP 65 [n] (λn p=>wC TP 66 [n,o,a] (λa n=>qk a 0 λo=>qk a 1 λa=>qs c 8 n o λn=>qe true 0 true a an λo=>ao o
 (K (.tup [.nilptr,a]) n)
 (dR c 0 λa=>qd 4 a n λa=>qh a λa=>bG [an] n (λf=>[f 98]) λI1 f s m1=>pu b c (.int .i64 a) (f 98) I1 m1 K s)) (add j p)) (lock m j))) k) i) h) l) (lock e g)) d) s)
def b_:bP:=λa b K s=>boxK 52 a (λa c=>aY c 19 a λd=>wC TP 61 [(.agg d)] (λd e=>qk d 0 λf=>qk d 1 λg=>qk d 2 λd=>qe true 0 true f an λd=>ao d
 (K (.tup [.nilptr,(qz 3)]) e)
 (ax .lss b an λd=>ao d
 (E3 b a d .undef K e)
 (qd 0 a e λf=>qd 1 a e λg=>ax .add f g λf=>ax .geq b f λf=>E3 b a d f K e))) c) s
def c_:Nat->List Nat:=anL [(3000007,[1]),(2000028,[0,1,2,3,4,5,6,7,9]),(2000029,[8,10]),(2000031,[11,12,13,14]),(3000013,[1]),(2000052,[0,1,2,3,5,6,7,8,9,10]),(2000053,[4]),(2000055,[11,12,13,14,15,16,17,18]),(34,[98]),(3000020,[1]),(2000080,[0,1,2,3,4,5,6,7]),(2000081,[8]),(2000083,[9,10,11,12,13])]
theorem E5:T2 20 b_:=wOK Tryz.func20 c_
def d_:cz:=λa K s=>wC TP 47 [a] (λa b=>qk a 0 λc=>qk a 1 λa=>K c b) s
theorem e_:T1 13 d_:=wOK Tryz.func13
def yV:gI:=λa b c d e f g I0 m0 K s=>qp f g λf=>ao f
 (K bF s)
 (bK a 21 s λf=>qd 0 e s λg=>qd 1 e s λe=>ax .add g e λe=>ax .sub e b λb=>qi 4 c d λc=>aY s 4 c λc=>oK (aM [an,an,an,an,.nilslc] [(0,1,b),(1,4,(.agg c))]) λb=>oK (aM (repl 1 [an,an,an,an,.nilslc]) [(0,5,(.agg b))]) λb=>aX b=true/\
 newK 192 b (λb c=>appK 192 5 f (.slc b 0 1 (some 1) 5) (λb e=>qs a 21 e b λa=>ax .add d aO λb=>aS m0 (I0 [b] a)) c) s)
def E6:dC:=λa b c d e f I0 m0 K s=>qt e f λe=>ao e
 (K bF s)
 (dR a 0 λe=>qd 2 e s λe=>qw 4 c d 0 s λf=>qi 3 e f λe=>aY s 3 e λe=>newK 145 [an,an,an] (λf g=>qc g 3 f (.agg e) λe=>qd 0 (.ptr f 0) e λg=>qe true 0 false g b λg=>ao g
 (qd 1 (.ptr f 0) e λh=>qe true 0 false h b λh=>yV a b c d (.ptr f 0) g h I0 m0 K e)
 (yV a b c d (.ptr f 0) g .undef I0 m0 K e)) s)
def Rk:c9:=λa b c d I0 m0 K s=>qh c λe=>ax .lss d (.int .i64 e) λe=>ao e
 (qw 4 c d 0 s λe=>ax .lss e an λe=>ao e
 (E6 a b c d e .undef I0 m0 K s)
 (qw 4 c d 0 s λf=>dR a 0 λg=>qd 2 g s λg=>qh g λg=>ax .geq f (.int .i64 g) λf=>E6 a b c d e f I0 m0 K s))
 (K bT s)
def f_:cA:=λa b c K s=>bG [an] s (λf=>[f 7]) λI0 f s m0=>Rk a b c (f 7) I0 m0 K s
def g_:Nat->List Nat:=anL [(4,[7]),(3000006,[0]),(2000024,[0,1,2,3,4,5,6,7,8,9,10,11]),(2000026,[12]),(2000027,[13]),(3000009,[0]),(2000036,[0,1,2,3,4,5,6,7,8,9,10,11,12,13,14,15,16]),(2000038,[17]),(2000039,[18,19,20,21])]
theorem h_:T3 87 f_:=wOK Tryz.func87 g_
def E7:cY:=λa b c d e I1 m1 K s=>qt d e λd=>ao d
 (K .nilptr s)
 (bK a 20 s λd=>oK (aM (repl 1 [.nilptr]) [(0,1,c)]) λc=>aX c=true/\newK 22 c (λc e=>appK 22 1 d (.slc c 0 1 (some 1) 1) (λc d=>qs a 20 d c λa=>ax .add b aO λb=>aS m1 (I1 [b] a)) e) s)
def Rl:dM:=λa b c I1 m1 K s=>qd 0 a s λd=>qd 1 a s λe=>ax .add d e λd=>ax .lss c d λd=>ao d
 (aY s 19 a λa=>wC TP 20 [(.agg a),c] (λa d=>qk a 0 λe=>qk a 1 λa=>qe true 0 true a an λa=>ao a
 (E7 b c e a .undef I1 m1 K d)
 (qe false 3 true e .nilptr λf=>E7 b c e a f I1 m1 K d)) s)
 (K b s)
def E8:dY:=λa b c d K s=>qt c d λc=>ao c
 (K .nilptr s)
 (aY s 19 a λc=>oK (aM [an,an,.nilslc,.nilslc,.nilslc,.nilslc,.nilslc,.nilslc,an,an,an,bF,bF,an,an,an,an,an,an,.nilptr,.nilslc,.nilslc,an] [(0,19,(.agg c)),(19,1,b)]) λb=>boxK 96 (.agg b) (λb c=>bG [an] c (λf=>[f 6]) λI1 f s m1=>Rl a b (f 6) I1 m1 K s) s)
def i_:cz:=λa K s=>boxK 52 a (λa b=>qd 0 a b λc=>qd 1 a b λd=>ax .add c d λc=>qd 2 a b λd=>wC TP 76 [c,d] (λc d=>qk c 0 λe=>qk c 1 λc=>qe true 0 true c an λc=>ao c
 (E8 a e c .undef K d)
 (qe false 3 true e .nilptr λf=>E8 a e c f K d)) b) s
def j_:Nat->List Nat:=anL [(12,[6])]
theorem k_:T1 28 i_:=wOK Tryz.func28 j_
def yW:cA:=λa b c K s=>bK a 19 s λa=>qd 2 b s λb=>wC TP 85 [a,c,b] (λa a=>K (.tup []) a) s
def yX:fH:=λa b c d e K s=>qp d e λd=>ao d
 (∃d:Hq,Sub d s/\
 bK a 20 d λe=>dR a 0 λf=>aY d 19 f λf=>wC TP 20 [(.agg f),c] (λf g=>qk f 0 λh=>qk f 1 λf=>qi 1 e c λe=>oK (wr1 (add d g) e h) λe=>yW a b c K e) (lock s d))
 (yW a b c K s)
def px:fH:=λa b c d e K s=>ao e
 (dR a 0 λe=>qd 2 e s λe=>qh e λe=>ax .gtr (.int .i64 e) an λe=>ao e
 (∃e:Hq,Sub e s/\
 bK a 19 e λf=>qd 1 b e λg=>dR a 0 λh=>qd 2 h e λh=>qh h λh=>qd 2 b e λi=>wC TP 32 [g,(.int .i64 h)] (λg h=>wC TP 84 [f,g,i] (λf f=>K (.tup []) f) (add e h)) (lock s e))
 (K (.tup []) s))
 (qe false 0 true d (qz 2) λd=>ao d
 (qd 1 b s λd=>wC TP 32 [d,c] (λc d=>qd 2 b d λe=>ao e
 (bK a 19 d λf=>wC TP 35 [f,c] (λf g=>qj f λf=>yX a b c e f K g) d)
 (yX a b c e .undef K d)) s)
 (K (.tup []) s))
def l_:bP:=λa b K s=>boxK 92 b (λb c=>dR a 0 λd=>qd 0 d c λd=>dR a 0 λe=>qd 1 e c λe=>ax .add d e λd=>qd 0 b c λe=>wC TP 32 [e,(qz 4)] (λe f=>qe false 0 true e an λg=>ao g
 (px a b d e g K f)
 (qe false 0 true e aO λg=>px a b d e g K f)) c) s
def m_:Nat->List Nat:=anL [(3000006,[1]),(2000024,[0,1,2,3,4,5,6,7,8,9,10,11,13,14]),(2000025,[12]),(2000027,[15]),(3000010,[1]),(2000040,[0,1,2,3,4,5,6,7,8,9]),(2000041,[10]),(2000043,[11,12,13,14,15])]
theorem n_:T2 30 l_:=wOK Tryz.func30 m_
def yY:gk:=λa I0 m0 K s=>ax .add a aO λa=>aS m0 (I0 [a] s)
def Rm:dM:=λa b c I0 m0 K s=>qt b c λb=>ao b
 (K bF s)
 (yY a I0 m0 K s)
def py:gk:=λa I3 m3 K s=>ax .add a aO λa=>aS m3 (I3 [a] s)
def yZ:lg:=λa b I5 m5 I3 m3 K s=>ax .add b aO λb=>aS m5 (I5 [a,b] s)
def Rn:dM:=λa b c I3 m3 K s=>qt b c λb=>ao b
 (K bF s)
 (py a I3 m3 K s)
def y5:sN:=λa b c d e I5 m5 I3 m3 K s=>qh d λf=>ax .lss e (.int .i64 f) λf=>ao f
 (bK a 19 s λf=>qx 1 d e s λg=>wC TP 86 [f,g] (λf g=>ao f
 (qx 1 d e g λd=>oK (aM (repl 1 [an]) [(0,1,d)]) λd=>aX d=true/\newK 3 d (λd f=>appK 3 1 c (.slc d 0 1 (some 1) 1) (λd h=>yZ d e I5 m5 I3 m3 K h) f) g)
 (yZ c e I5 m5 I3 m3 K g)) s)
 (bK a 20 s λd=>qx 1 d b s λd=>bK a 22 s λe=>wC TP 18 [d,e,c] (λc d=>qk c 0 λe=>qk c 1 λc=>qe true 0 true c an λc=>ao c
 (Rn b c .undef I3 m3 K d)
 (wC TP 87 [a,b,e] (λa e=>qj a λa=>Rn b c a I3 m3 K e) d)) s)
def y6:fQ:=λa b I3 m3 K s=>bK a 20 s λc=>qh c λc=>ax .lss b (.int .i64 c) λc=>ao c
 (bK a 19 s λc=>wC TP 35 [c,b] (λc d=>qj c λc=>ao c
 (py b I3 m3 K d)
 (bK a 20 d λc=>qx 1 c b d λc=>wC TP 10 [c] (λc e=>bG [.nilslc,an] e (λf=>[f 8,f 10]) λI5 f s m5=>y5 a b (f 8) c (f 10) I5 m5 I3 m3 K s) d)) s)
 (K bT s)
def y7:dM:=λa b c I0 m0 K s=>qh b λd=>ax .lss c (.int .i64 d) λd=>ao d
 (bK a 19 s λd=>qi 5 b c λe=>qf 1 e λe=>qd 0 e s λe=>wC TP 86 [d,e] (λd e=>qj d λd=>ao d
 (yY c I0 m0 K e)
 (bK a 20 e λd=>qw 5 b c 0 e λg=>qx 1 d g e λd=>qi 5 b c λg=>qf 1 g λg=>qd 0 g e λg=>qi 5 b c λh=>qf 1 h λh=>qf 1 h λh=>aY e 3 h λh=>wC TP 17 [d,g,(.agg h)] (λd g=>qk d 0 λh=>qk d 1 λd=>qe true 0 true d an λd=>ao d
 (Rm c d .undef I0 m0 K g)
 (qw 5 b c 0 g λb=>wC TP 87 [a,b,h] (λb h=>qj b λb=>Rm c d b I0 m0 K h) g)) e)) s)
 (bG [an] s (λf=>[f 7]) λI3 f s m3=>y6 a (f 7) I3 m3 K s)
def Rp:cz:=λa K s=>bK a 22 s λb=>ax .add b aO λb=>qs a 22 s b λb=>bK a 21 b λc=>qs a 21 b .nilslc λb=>bG [an] b (λf=>[f 4]) λI0 f s m0=>y7 a c (f 4) I0 m0 K s
def o_:Nat->List Nat:=anL [(10,[4]),(24,[7]),(36,[8,10])]
theorem p_:T1 31 Rp:=wOK Tryz.func31 o_
def y8:gk:=λa I0 m0 K s=>ax .add a aO λa=>aS m0 (I0 [a] s)
def Rq:cY:=λa b c d e I0 m0 K s=>ax .lss e d λd=>ao d
 (qi 1 c e λd=>oK (wr1 s d (.int .i64 (-1))) λd=>qx 1 a e d λa=>wC TP 223 [a,b,e] (λa b=>qh a λf=>ax .gtr (.int .i64 f) an λf=>ao f
 (qw 3 a an 0 b λa=>qi 1 c e λf=>oK (wr1 b f a) λa=>y8 e I0 m0 K a)
 (y8 e I0 m0 K b)) d)
 (K c s)
def Rr:bP:=λa b K s=>qh a λc=>oK (nat? (.int .i64 c)) λd=>oK (nat? (.int .i64 c)) λc=>(d<=c/\c<=4294967296)/\newK 3 (repl c [an]) (λe g=>qh (.slc e 0 d (some c) 1) λh=>bG [an] g (λf=>[f 13]) λI0 f s m0=>Rq a b (.slc e 0 d (some c) 1) (.int .i64 h) (f 13) I0 m0 K s) s
def q_:Nat->List Nat:=anL [(6,[13])]
theorem r_:T2 262 Rr:=wOK Tryz.func262 q_
def s_:dY:=λa b c d K s=>oK (aM (repl 1 [an]) [(0,1,d)]) λe=>aX e=true/\newK 3 e (λe f=>wC TP 90 [a,b,c,(.slc e 0 1 (some 1) 1)] (λe g=>qj e λe=>ao e
 (K .nilslc g)
 (wC TP 92 [a,b,c] (λa b=>wC TP 91 [a,d] (λc d=>wC TP 262 [a,c] (λa c=>K a c) d) b) g)) f) s
theorem t_:T4 259 s_:=wOK Tryz.func259
def E9:dY:=λa b c d K s=>qt c d λc=>ao c
 (K .nilslc s)
 (qd 0 b s λc=>qd 1 b s λd=>ax .add c d λc=>qd 2 b s λd=>qd 3 b s λb=>wC TP 36 [c,d,b,a] (λa b=>K a b) s)
def Fa:dY:=λa b c d K s=>qt c d λc=>ao c
 (E9 a b c .undef K s)
 (qd 1 b s λd=>ax .gtr d (qz 32) λd=>E9 a b c d K s)
def Fb:dY:=λa b c d K s=>qt c d λc=>ao c
 (Fa a b c .undef K s)
 (qd 1 b s λd=>ax .lss d an λd=>Fa a b c d K s)
def u_:bP:=λa b K s=>boxK 385 a (λa c=>qd 0 a c λd=>ax .lss d aO λd=>ao d
 (Fb b a d .undef K c)
 (qd 0 a c λe=>ax .gtr e (qz 32) λe=>Fb b a d e K c)) s
theorem v_:T2 254 u_:=wOK Tryz.func254
def y9:fQ:=λa b I0 m0 K s=>ax .add b aO λb=>aS m0 (I0 [a,b] s)
def tD:cY:=λa b c d e I0 m0 K s=>qp d e λd=>ao d
 (oK (aM (repl 1 [an]) [(0,1,b)]) λb=>aX b=true/\newK 3 b (λb d=>appK 3 1 a (.slc b 0 1 (some 1) 1) (λb e=>y9 b c I0 m0 K e) d) s)
 (y9 a c I0 m0 K s)
def Rs:dC:=λa b c d e f I0 m0 K s=>ax .lss f e λe=>ao e
 (qx 1 d f s λd=>qd 0 b s λb=>ax .geq f b λb=>ao b
 (ax .geq d an λd=>tD c f f b d I0 m0 K s)
 (tD c f f b .undef I0 m0 K s))
 (qh c λb=>qe false 0 true (.int .i64 b) an λb=>ao b
 (K (.tup [an,bF]) s)
 (oK (dX .u64 a) λa=>qh c λb=>oK (dX .u64 (.int .i64 b)) λb=>ax .rem a b λa=>qx 1 c a s λa=>K (.tup [a,bT]) s))
def w_:cA:=λa b c K s=>boxK 385 a (λa d=>qh b λe=>bG [.nilslc,an] d (λf=>[f 8,f 13]) λI0 f s m0=>Rs c a (f 8) b (.int .i64 e) (f 13) I0 m0 K s) s
def x_:Nat->List Nat:=anL [(6,[8,13])]
theorem y_:T3 255 w_:=wOK Tryz.func255 x_
def z_:cA:=λa b c K s=>boxK 385 a (λa d=>boxK 25 b (λb e=>boxK 25 c (λc f=>K (.fn (.func 263) [] [c,a,b]) f) e) d) s
theorem A_:T3 261 z_:=wOK Tryz.func261
def zh:dM:=λa b c I0 m0 K s=>qp b c λb=>ao b
 (K (.tup []) s)
 (ax .add a aO λa=>aS m0 (I0 [a] s))
def Fc:cY:=λa b c d e I0 m0 K s=>qp d e λd=>ao d
 (funK TP a [b] (λa b=>qj a λa=>zh c d a I0 m0 K b) s)
 (zh c d .undef I0 m0 K s)
def tE:dC:=λa b c d e f I0 m0 K s=>qp e f λe=>ao e
 (qr s b λb=>qx 1 b c s λb=>ax .geq b an λb=>Fc a c d e b I0 m0 K s)
 (Fc a c d e .undef I0 m0 K s)
def Ru:dC:=λa b c d e f I0 m0 K s=>ax .lss f e λe=>ao e
 (qx 1 d f s λd=>ax .geq d an λe=>ao e
 (qd 0 b s λb=>ax .lss d b λb=>tE a c d f e b I0 m0 K s)
 (tE a c d f e .undef I0 m0 K s))
 (K (.tup []) s)
def Rv:dY:=λa b c d K s=>qr s b λb=>wC TP 105 [b] (λb e=>wC TP 94 [b] (λg g=>wC TP 117 [b] (λb h=>qh b λi=>bG [an] h (λf=>[f 15]) λI0 f s m0=>Ru a c d b (.int .i64 i) (f 15) I0 m0 K s) g) e) s
def B_:Nat->List Nat:=anL [(6,[15])]
theorem C_:T4 263 Rv:=wOK Tryz.func263 B_
def Fd:fH:=λa b c d e K s=>qr s b λb=>qx 1 b a s λb=>ax .lss b an λf=>ao f
 (K (.tup []) s)
 (qr s c λf=>oK (getM s f b) λf=>qk (retM (.agg []) true f) 0 λg=>qk (retM (.agg []) true f) 1 λf=>newK 393 [] (λh i=>qc i 0 h g λg=>ao f
 (K (.tup []) g)
 (qr g c λc=>oK (aM [] []) λf=>oK (putM g c b (.agg f)) λc=>qr c d λd=>qd 2 e c λf=>qw 3 f b 0 c λf=>qd 2 e c λe=>qw 3 e b 1 c λb=>ax .add f b λb=>ax .sub b a λa=>funK TP d [a] (λa a=>K (.tup []) a) c)) s)
theorem Rw:T5 260 Fd:=wOK Tryz.func260
def C':dY:=λa b c d K s=>boxK 385 a (λa e=>mapK (λf g=>newK 391 [.nilmap] (λh i=>oK (wr1 i (.ptr h 0) f) λf=>qd 0 a f λi=>qd 1 a f λj=>ax .add i j λi=>qd 2 a f λj=>qd 3 a f λk=>wC TP 259 [i,j,k,c] (λc i=>newK 25 [.nilslc] (λj k=>oK (wr1 k (.ptr j 0) c) λc=>newK 395 [.nilFunc] (λk l=>oK (wr1 l (.ptr k 0) (.fn (.func 260) [] [(.ptr j 0),(.ptr h 0),(.ptr k 0),a])) λj=>aY j 4 a λa=>wC TP 261 [(.agg a),b,d] (λa b=>rngK TP 35 none a [(11,(.ptr k 0))] [30] (rfAs 0 (bH Tryz.f258)) (rfBo 0 (bH Tryz.f258)) (λa=>qr a (.ptr h 0) λd=>K d a)
 (λa=>K .nilmap a)
 (λa d=>cond (α:=Prop) (beq a 0)
 (qr d (.ptr h 0) λa=>K a d)
 (False)) b) j) c) i) f) g) e) s
def zm:Nat->List Nat:=anL [(15,[11])]
theorem D_:T4 258 C':=wOK Tryz.func258 zm
def Rx(l:Nat)(a b:AV)(E:AExit->Hq->Prop)(s:Hq):Prop:=
 AExit.nrm=.nrm/\gj l (λc=>qr c a λa=>funK TP a [b] (λa a=>E .nrm a) c) s
theorem E_(l:Nat)(f:Env)(t30:AV)(E:AExit->Hq->Prop)(s:Hq):wpC TP zm Tryz.f258.ntmps (some l) (rfAs 0 (bH Tryz.f258)) (setE f [30] [t30]) (λe env s=>e=.nrm/\gj l (λs=>wpC TP zm Tryz.f258.ntmps (some l) (rfBo 0 (bH Tryz.f258)) env (λe _ s=>E e s) s) s) s=Rx l (f 11) t30 E s:=by kernel_rfl
theorem F_{l:Nat}{t:Bool}{st:dg}{pd:Option Code}{d:Nat}{x11 t30:AV}{K:KvP}{s:Hq}(hs:s l=some (t,.loop st pd 35 [(11,x11)] [30] (rfAs 0 (bH Tryz.f258)) (rfBo 0 (bH Tryz.f258)) d))(h:Rx l x11 t30 (λe s=>endK l e K s) s):gF TP l [t30] K s:=
 m8 zm hs rfl rfl λf hf=>by
 refine(E_ l f t30 (λe s=>endK l e K s) s).mpr ?_
 rw[show f 11=x11 from hf (11,x11) (by simp)]
 exact h
def Ry:cA:=λa b c K s=>qr s a λa=>qj a λa=>ao a
 (oK (wr1 s b .nilslc) λa=>oK (wr1 a c bF) λa=>K (.tup []) a)
 (K (.tup []) s)
theorem G_{t0 t1 t2:AV}{K:KvP}{s:Hq}(h:Ry t0 t1 t2 K s):kZ TP 257 [t0,t1,t2] (λs=>K (.tup []) s) s:=
 Oj nA0 Tryz.func257 (by kernel_rfl:Tryz.f257.body=some (bH Tryz.f257)) (by kernel_rfl) (by kernel_rfl) (by kernel_rfl) (Eq.mpr (by kernel_rfl) h)
def mg:gk:=λa I0 m0 K s=>ax .add a aO λa=>aS m0 (I0 [a] s)
def zo:fJ:=λa b c d e f g h I0 m0 K s=>qp g h λg=>qt f g λf=>ao f
 (mg e I0 m0 K s)
 (qe false 0 false d a λa=>ao a
 (oK (wr1 s c bT) λa=>mg e I0 m0 K a)
 (qr s b λa=>oK (aM (repl 1 [an]) [(0,1,d)]) λc=>aX c=true/\newK 3 c (λc d=>appK 3 1 a (.slc c 0 1 (some 1) 1) (λa c=>oK (wr1 c b a) λa=>mg e I0 m0 K a) d) s))
def Fe:li:=λa b c d e f g K s=>qp f g λf=>qe false 0 true a (.int .i64 (-1)) λa=>ao a
 (oK (wr1 s d f) λa=>runK TP e (λd=>qr d b λg=>qr d c λh=>K (.tup [g,h]) d) a)
 (qr s b λa=>oK (wr1 s b a) λa=>oK (wr1 a c f) λa=>runK TP e (λd=>qr d b λb=>qr d c λc=>K (.tup [b,c]) d) a)
def Rz:V12x1:=λa b c d e f g h i j k l I0 m0 K s=>ax .lss l k λk=>ao k
 (qi 3 j l λj=>aY s 3 j λj=>newK 145 [an,an,an] (λk m=>qc m 3 k (.agg j) λj=>oK (getM j h l) λh=>qk (retM (.agg []) true h) 0 λm=>qk (retM (.agg []) true h) 1 λh=>newK 393 [] (λn o=>qc o 0 n m λm=>qj h λh=>ao h
 (qt h .undef λn=>ao n
 (mg l I0 m0 K m)
 (qe false 0 false l c λn=>ao n
 (oK (wr1 m g bT) λn=>mg l I0 m0 K n)
 (qr m e λn=>oK (aM (repl 1 [an]) [(0,1,l)]) λo=>aX o=true/\newK 3 o (λo p=>appK 3 1 n (.slc o 0 1 (some 1) 1) (λn o=>oK (wr1 o e n) λn=>mg l I0 m0 K n) p) m)))
 (qd 0 (.ptr k 0) m λn=>qe true 0 false n a λn=>ao n
 (qd 1 (.ptr k 0) m λk=>qe true 0 false k a λk=>zo c e g l l h n k I0 m0 K m)
 (zo c e g l l h n .undef I0 m0 K m))) j) s)
 (qd 0 d s λd=>ax .lss a d λd=>ao d
 (wC TP 200 [b,a] (λa b=>Fe c e f g i d a K b) s)
 (Fe c e f g i d .undef K s))
def H_:fH:=λa b c d e K s=>boxK 385 a (λa g=>newK 25 [.nilslc] (λh i=>newK 4 [bF] (λj k=>newK 4 [bF] (λl m=>oK (wr1 m (.ptr l 0) bF) λm=>nk TP (.fn (.func 257) [] [(.ptr l 0),(.ptr h 0),(.ptr j 0)])/\
 aY m 4 a λn=>wC TP 254 [(.agg n),b] (λn o=>aY o 4 a λp=>wC TP 255 [(.agg p),n,c] (λc p=>qk c 0 λq=>qk c 1 λc=>qj c λc=>ao c
 (runK TP (.fn (.func 257) [] [(.ptr l 0),(.ptr h 0),(.ptr j 0)]) (λc=>qr c (.ptr h 0) λr=>qr c (.ptr j 0) λt=>K (.tup [r,t]) c) p)
 (aY p 4 a λc=>wC TP 258 [(.agg c),n,q,d] (λc n=>qd 2 a n λq=>qh q λr=>bG [an] n (λf=>[f 43]) λI0 f s m0=>Rz b d e a (.ptr h 0) (.ptr j 0) (.ptr l 0) c (.fn (.func 257) [] [(.ptr l 0),(.ptr h 0),(.ptr j 0)]) q (.int .i64 r) (f 43) I0 m0 K s) p)) o) m) k) i) g) s
def I_:Nat->List Nat:=anL [(16,[43])]
theorem I'{x0 self1 group2 members3 t4:AV}{K:KvP}{s:Hq}(h:H_ x0 self1 group2 members3 t4 K s):wC TP 256 [x0,self1,group2,members3,t4] K s:=
 Om I_ Tryz.func256 (by kernel_rfl:Tryz.f256.body=some (bH Tryz.f256)) (by kernel_rfl) (Eq.mpr (by kernel_rfl) h)
def Ff:dC:=λa b c d e f I0 m0 K s=>ax .lss f e λe=>ao e
 (qx 1 d f s λd=>aY s 21 a λa=>oK (aM o5 [(0,1,d),(1,21,(.agg a))]) λa=>oK (aM (repl 1 o5) [(0,22,(.agg a))]) λa=>aX a=true/\newK 121 a (λa d=>appK 121 22 b (.slc a 0 1 (some 1) 22) (λa e=>ax .add f aO λf=>aS m0 (I0 [a,f] e)) d) s)
 (K (.tup [b,c,an]) s)
def J_:fH:=λa b c d e K s=>boxK 385 a (λa g=>boxK 64 d (λd h=>aY h 4 a λi=>wC TP 254 [(.agg i),b] (λi j=>qe false 5 true i .nilslc λk=>ao k
 (K (.tup [.nilslc,bF,(qz 3)]) j)
 (aY j 4 a λk=>qd 1 d j λl=>wC TP 255 [(.agg k),i,l] (λi k=>qk i 0 λl=>qk i 1 λi=>qj i λi=>ao i
 (K (.tup [.nilslc,bF,(qz 13)]) k)
 (aY k 4 a λa=>qd 1 d k λi=>wC TP 256 [(.agg a),b,i,c,e] (λa b=>qk a 0 λc=>qk a 1 λa=>qd 2 d b λe=>ax .lss e (qz 2) λe=>ao e
 (K (.tup [.nilslc,a,an]) b)
 (qd 2 d b λe=>ax .sub e aO λe=>qf 2 d λi=>oK (wr1 b i e) λb=>qh c λe=>bG [.nilslc,an] b (λf=>[f 10,f 54]) λI0 f s m0=>Ff d (f 10) a c (.int .i64 e) (f 54) I0 m0 K s)) k)) j)) h) g) s
def J':Nat->List Nat:=anL [(24,[10,54])]
theorem K_:T5 253 J_:=wOK Tryz.func253 J'
def L_:cA:=λa b c K s=>boxK 248 a (λa d=>boxK 64 b (λb e=>qd 0 a e λf=>dR f 0 λg=>qd 2 g e λg=>dR f 0 λh=>qd 3 h e λh=>dR f 0 λi=>qd 4 i e λi=>bK f 11 e λj=>oK (aM [an,an,.nilslc,.nilslc] [(0,1,g),(1,1,h),(2,1,i),(3,1,j)]) λg=>newK 385 [an,an,.nilslc,.nilslc] (λh i=>qc i 4 h (.agg g) λg=>aY g 4 (.ptr h 0) λh=>dR f 0 λf=>qd 0 f g λf=>qd 1 a g λa=>aY g 21 b λb=>wC TP 253 [(.agg h),f,a,(.agg b),c] (λa b=>qk a 0 λc=>qk a 1 λf=>qk a 2 λa=>K (.tup [c,f,a]) b) g) e) d) s
def M_:Nat->List Nat:=anL [(3000002,[0]),(2000008,[0,1,2,3,4,5,6,7,8,9,10,11,12,13,14,15,16,17,18,19]),(2000010,[20]),(2000011,[21])]
theorem N_:T3 252 L_:=wOK Tryz.func252 M_
def O_:cA:=λa b c K s=>newK 34 [an,an,.nilslc] (λd e=>oK (aM [an,an,.nilslc] [(0,1,a),(1,1,b),(2,1,c)]) λa=>qc e 3 d (.agg a) λa=>aY a 3 (.ptr d 0) λb=>K (.agg b) a) s
theorem O':T3 16 O_:=wOK Tryz.func16
def Fg:bP:=λa b K s=>qp a b λa=>K a s
def Fh:dY:=λa b c d K s=>qp c d λc=>ao c
 (qd 2 a s λa=>qd 2 b s λb=>wC TP 9 [a,b] (λa b=>Fg c a K b) s)
 (Fg c .undef K s)
def P_:bP:=λa b K s=>boxK 34 a (λa c=>boxK 34 b (λb d=>qd 0 a d λe=>qd 0 b d λf=>qe false 0 false e f λe=>ao e
 (qd 1 a d λf=>qd 1 b d λg=>qe false 0 false f g λf=>Fh a b e f K d)
 (Fh a b e .undef K d)) c) s
theorem Q_:T2 98 P_:=wOK Tryz.func98
def Fi:dM:=λa b c I0 m0 K s=>qt b c λb=>ao b
 (K bF s)
 (ax .add a aO λa=>aS m0 (I0 [a] s))
def RA:dM:=λa b c I0 m0 K s=>qh a λd=>ax .lss c (.int .i64 d) λd=>ao d
 (qw 4 a c 0 s λd=>qe true 0 true d an λd=>ao d
 (Fi c d .undef I0 m0 K s)
 (qi 4 a c λa=>qf 1 a λa=>aY s 3 a λa=>qi 3 b c λb=>aY s 3 b λb=>wC TP 98 [(.agg a),(.agg b)] (λa b=>qj a λa=>Fi c d a I0 m0 K b) s))
 (K bT s)
def RB:bP:=λa b K s=>qh a λc=>qh b λd=>qe true 0 false (.int .i64 c) (.int .i64 d) λc=>ao c
 (K bF s)
 (bG [an] s (λf=>[f 5]) λI0 f s m0=>RA a b (f 5) I0 m0 K s)
def R_:Nat->List Nat:=anL [(8,[5])]
theorem S_:T2 48 RB:=wOK Tryz.func48 R_
def Fj:bP:=λa b K s=>qp a b λa=>K a s
def T_:cA:=λa b c K s=>boxK 34 b (λb d=>aY d 3 b λb=>wC TP 17 [a,an,(.agg b)] (λa b=>qk a 0 λe=>qk a 1 λa=>qe false 0 true a an λa=>ao a
 (wC TP 48 [e,c] (λc e=>Fj a c K e) b)
 (Fj a .undef K b)) d) s
theorem U_:T3 15 T_:=wOK Tryz.func15
def Fk:bP:=λa b K s=>qp a b λa=>K a s
def V_:dY:=λa b c d K s=>wC TP 18 [a,b,c] (λa b=>qk a 0 λc=>qk a 1 λa=>qe false 0 true a an λa=>ao a
 (wC TP 48 [c,d] (λc d=>Fk a c K d) b)
 (Fk a .undef K b)) s
theorem V':T4 19 V_:=wOK Tryz.func19
def RC:dM:=λa b c I0 m0 K s=>qh a λd=>ax .lss c (.int .i64 d) λd=>ao d
 (qi 22 a c λa=>aY s 22 a λa=>qi 22 b c λb=>aY s 22 b λb=>oK (negB true (fF TP 121 (.agg a) (.agg b))) λa=>ao a
 (K bF s)
 (ax .add c aO λa=>aS m0 (I0 [a] s)))
 (K bT s)
def RD:bP:=λa b K s=>qh a λc=>qh b λd=>qe true 0 false (.int .i64 c) (.int .i64 d) λc=>ao c
 (K bF s)
 (bG [an] s (λf=>[f 5]) λI0 f s m0=>RC a b (f 5) I0 m0 K s)
def W_:Nat->List Nat:=anL [(8,[5])]
theorem X_:T2 46 RD:=wOK Tryz.func46 W_
def zq:bP:=λa b K s=>qt a b λa=>K a s
def zw:kq:=λa b c d e f K s=>qt e f λe=>ao e
 (K bF s)
 (qj c λc=>ao c
 (zq c .undef K s)
 (ax .sub b aO λb=>oK (aM o4 [(1,1,a),(2,1,b)]) λa=>oK (aM o5 [(0,1,an),(1,21,(.agg a))]) λa=>oK (aM (repl 1 o5) [(0,22,(.agg a))]) λa=>aX a=true/\newK 121 a (λa b=>wC TP 46 [d,(.slc a 0 1 (some 1) 22)] (λa d=>zq c a K d) b) s))
def zx:kq:=λa b c d e f K s=>qt e f λe=>ao e
 (zw a b c d e .undef K s)
 (qh d λf=>ax .gtr (.int .i64 f) an λf=>qe true 1 false f c λf=>zw a b c d e f K s)
def X':li:=λa b c d e f g K s=>oK (aM o4 [(1,1,b),(2,1,c)]) λh=>wC TP 23 [a,(.agg h),d] (λa d=>qk a 0 λh=>qk a 1 λi=>qk a 2 λa=>qe true 1 false i f λf=>ao f
 (zx b c e h f .undef K d)
 (qe true 0 false a g λa=>zx b c e h f a K d)) s
theorem RE:T7 12 X':=wOK Tryz.func12
def RF:dM:=λa b c I0 m0 K s=>qh a λd=>ax .lss c (.int .i64 d) λd=>ao d
 (qi 2 a c λa=>aY s 2 a λa=>qi 2 b c λb=>aY s 2 b λb=>oK (negB true (fF TP 105 (.agg a) (.agg b))) λa=>ao a
 (K bF s)
 (ax .add c aO λa=>aS m0 (I0 [a] s)))
 (K bT s)
def RG:bP:=λa b K s=>qh a λc=>qh b λd=>qe true 0 false (.int .i64 c) (.int .i64 d) λc=>ao c
 (K bF s)
 (bG [an] s (λf=>[f 5]) λI0 f s m0=>RF a b (f 5) I0 m0 K s)
def Y_:Nat->List Nat:=anL [(8,[5])]
theorem Y':T2 38 RG:=wOK Tryz.func38 Y_
def zy:fQ:=λa b I0 m0 K s=>ax .add b aO λb=>aS m0 (I0 [a,b] s)
def zC:dC:=λa b c d e f I0 m0 K s=>qt e f λe=>ao e
 (zy a d I0 m0 K s)
 (wC TP 47 [b] (λb e=>qk b 0 λf=>qk b 1 λb=>oK (aM [cO,an] [(0,1,f),(1,1,c)]) λb=>oK (aM (repl 1 [cO,an]) [(0,2,(.agg b))]) λb=>aX b=true/\newK 105 b (λb c=>appK 105 2 a (.slc b 0 1 (some 1) 2) (λa b=>zy a d I0 m0 K b) c) e) s)
def RH:cY:=λa b c d e I0 m0 K s=>ax .lss e d λd=>ao d
 (qx 1 c e s λc=>dR a 0 λa=>qd 0 a s λa=>qe false 0 false e a λa=>ao a
 (zC b e c e a .undef I0 m0 K s)
 (ax .lss c an λd=>zC b e c e a d I0 m0 K s))
 (K b s)
def Z_:cz:=λa K s=>wC TP 41 [a] (λb c=>qj b λb=>ao b
 (K .nilslc c)
 (bK a 12 c λb=>qh b λd=>bG [.nilslc,an] c (λf=>[f 3,f 16]) λI0 f s m0=>RH a (f 3) b (.int .i64 d) (f 16) I0 m0 K s)) s
def qIu:Nat->List Nat:=anL [(10,[3,16])]
theorem qJI:T1 26 Z_:=wOK Tryz.func26 qIu
def RI:dM:=λa b c I0 m0 K s=>qh a λd=>ax .lss c (.int .i64 d) λd=>ao d
 (qx 1 a c s λa=>qx 1 b c s λb=>qe true 1 false a b λa=>ao a
 (K bF s)
 (ax .add c aO λa=>aS m0 (I0 [a] s)))
 (K bT s)
def RJ:bP:=λa b K s=>qh a λc=>qh b λd=>qe true 0 false (.int .i64 c) (.int .i64 d) λc=>ao c
 (K bF s)
 (bG [an] s (λf=>[f 5]) λI0 f s m0=>RI a b (f 5) I0 m0 K s)
def qQg:Nat->List Nat:=anL [(8,[5])]
theorem qRd:T2 70 RJ:=wOK Tryz.func70 qQg
def RK:cz:=λa K s=>qe false 5 true a .nilslc λb=>ao b
 (K .nilslc s)
 (oK (aM (repl 0 [bF]) []) λb=>aX b=true/\newK 4 b (λb c=>appK 4 1 (.slc b 0 0 (some 0) 1) a (λa b=>K a b) c) s)
theorem qKR:T1 72 RK:=wOK Tryz.func72
def qL6:cz:=λa K s=>wC TP 41 [a] (λb c=>qj b λb=>ao b
 (K .nilslc c)
 (bK a 11 c λa=>wC TP 72 [a] (λa b=>K a b) c)) s
theorem qJw:T1 25 qL6:=wOK Tryz.func25
def zD:cz:=λa K s=>K a s
def Fl:cA:=λa b c K s=>qt b c λb=>ao b
 (K .nilptr s)
 (zD a K s)
def Fm:cA:=λa b c K s=>qt b c λb=>ao b
 (Fl a b .undef K s)
 (oK (aM (repl 1 [an]) [(0,1,aO)]) λc=>aX c=true/\newK 3 c (λc d=>wC TP 16 [aO,aO,(.slc c 0 1 (some 1) 1)] (λc e=>wC TP 15 [a,c,.nilslc] (λc f=>qj c λc=>Fl a b c K f) e) d) s)
def Fo:cA:=λa b c K s=>qt b c λb=>ao b
 (Fm a b .undef K s)
 (oK (aM (repl 2 [an]) [(0,1,an),(1,1,aO)]) λc=>aX c=true/\newK 3 c (λc d=>wC TP 16 [(qz 2),aO,(.slc c 0 2 (some 2) 1)] (λc e=>wC TP 15 [a,c,.nilslc] (λc f=>qj c λc=>Fm a b c K f) e) d) s)
def Fp:cA:=λa b c K s=>qt b c λb=>ao b
 (Fo a b .undef K s)
 (wC TP 26 [a] (λc d=>qh c λc=>qe true 0 true (.int .i64 c) an λc=>Fo a b c K d) s)
def Fq:cA:=λa b c K s=>qt b c λb=>ao b
 (Fp a b .undef K s)
 (oK (aM (repl 1 [an]) [(0,1,an)]) λc=>aX c=true/\newK 3 c (λc d=>oK (aM (repl 1 [an]) [(0,1,an)]) λe=>aX e=true/\newK 3 e (λe f=>wC TP 16 [an,(qz 2),(.slc e 0 1 (some 1) 1)] (λe g=>oK (aM (repl 1 [an,an,.nilslc]) [(0,3,e)]) λe=>aX e=true/\newK 34 e (λe h=>wC TP 19 [a,(qz 2),(.slc c 0 1 (some 1) 1),(.slc e 0 1 (some 1) 3)] (λc e=>qj c λc=>Fp a b c K e) h) g) f) d) s)
def Fr:cA:=λa b c K s=>qt b c λb=>ao b
 (Fq a b .undef K s)
 (wC TP 11 [a] (λc d=>qh c λc=>qe true 0 true (.int .i64 c) an λc=>Fq a b c K d) s)
def Fs:cA:=λa b c K s=>qt b c λb=>ao b
 (Fr a b .undef K s)
 (oK (aM (repl 1 [an]) [(0,1,an)]) λc=>aX c=true/\newK 3 c (λc d=>wC TP 19 [a,aO,(.slc c 0 1 (some 1) 1),.nilslc] (λc e=>qj c λc=>Fr a b c K e) d) s)
def RL:l8:=λK s=>wC TP 21 [] (λa b=>wC TP 20 [a,an] (λa c=>qk a 0 λd=>qk a 1 λa=>qe true 0 true a an λa=>ao a
 (Fs d a .undef K c)
 (qe false 3 true d .nilptr λe=>Fs d a e K c)) b) s
noncomputable def qJ5:Code:=lY 3 (bH Tryz.f8)
theorem qH0(K:KvP)(env:Env)(s:Hq):wpC TP nA0 Tryz.f8.ntmps none qJ5 env (λe env s=>retK e (resK TP Tryz.f8.results.toList env (λvs=>K (oneV vs) s) s)) s=zD (env 1) K s:=by kernel_rfl
theorem qJ6(K:KvP)(s:Hq):wpC TP nA0 Tryz.f8.ntmps none (bH Tryz.f8) (gZ []) (λe env s=>retK e (resK TP Tryz.f8.results.toList env (λvs=>K (oneV vs) s) s)) s=RL K s:=(nq 3 (λenv s=>zD (env 1) K s) (bH Tryz.f8) (by kernel_rfl) (λenv s=>qH0 K env s) _ s).trans (by kernel_rfl)
theorem qJq{K:KvP}{s:Hq}(h:RL K s):wC TP 8 [] K s:=
 CI nA0 Tryz.func8 (by kernel_rfl:Tryz.f8.body=some (bH Tryz.f8)) (by kernel_rfl) ((qJ6 K s).mpr h)
def Ft:bP:=λa b K s=>qp a b λa=>K a s
def Fu:cA:=λa b c K s=>qp b c λb=>ao b
 (wC TP 13 [an] (λc d=>wC TP 12 [a,c,(qz 9),an,bF,bT,an] (λa c=>Ft b a K c) d) s)
 (Ft b .undef K s)
def Fw:cA:=λa b c K s=>qp b c λb=>ao b
 (wC TP 13 [aO] (λc d=>wC TP 12 [a,c,(qz 9),(.int .i64 (-1)),bT,bF,an] (λc e=>Fu a b c K e) d) s)
 (Fu a b .undef K s)
def Fx:cA:=λa b c K s=>qp b c λb=>ao b
 (wC TP 25 [a] (λc d=>oK (aM (repl 2 [bF]) [(0,1,bT),(1,1,bT)]) λe=>aX e=true/\newK 4 e (λe f=>wC TP 70 [c,(.slc e 0 2 (some 2) 1)] (λc e=>Fw a b c K e) f) d) s)
 (Fw a b .undef K s)
def qMT:l8:=λK s=>wC TP 8 [] (λa b=>qe true 3 true a .nilptr λc=>ao c
 (wC TP 26 [a] (λd e=>wC TP 13 [aO] (λf g=>oK (aM [cO,an] [(0,1,f),(1,1,(qz 2))]) λf=>wC TP 13 [(qz 2)] (λh i=>oK (aM [cO,an] [(0,1,h),(1,1,aO)]) λh=>oK (aM (repl 2 [cO,an]) [(0,2,(.agg f)),(2,2,(.agg h))]) λf=>aX f=true/\newK 105 f (λf h=>wC TP 38 [d,(.slc f 0 2 (some 2) 2)] (λd f=>Fx a c d K f) h) i) g) e) b)
 (Fx a c .undef K b)) s
theorem qJx:T0 22 qMT:=wOK Tryz.func22
def qMq:l8:=λK s=>newK 52 zR1 (λa b=>oK (aM [an,an,an] [(0,1,an),(1,1,(qz 2)),(2,1,aO)]) λc=>oK (aM [an,an,an] [(0,1,aO),(1,1,(qz 2)),(2,1,aO)]) λd=>oK (aM (repl 2 [an,an,an]) [(0,3,(.agg c)),(3,3,(.agg d))]) λc=>aX c=true/\newK 145 c (λc d=>oK (aM [cO,cO] [(0,1,(.int .u32 100)),(1,1,(.int .u32 1))]) λe=>oK (aM (repl 1 [cO,cO]) [(0,2,(.agg e))]) λe=>aX e=true/\newK 157 e (λe f=>oK (aM zR1 [(0,1,(qz 2)),(1,1,aO),(2,1,(.slc c 0 2 (some 2) 3)),(3,1,(.slc e 0 1 (some 1) 2))]) λc=>newK 52 zR1 (λe g=>qc g 19 e (.agg c) λc=>oK (aM [cO,an] [(0,1,(.int .u32 167772160)),(1,1,(qz 24))]) λg=>oK (aM lZ [(1,1,(.int .u32 10)),(2,1,(.int .u32 2)),(3,2,(.agg g)),(5,1,(.int .u32 167772161))]) λg=>oK (aM lZ [(1,1,(.int .u32 20)),(2,1,(.int .u32 3))]) λh=>oK (aM (repl 2 lZ) [(0,6,(.agg g)),(6,6,(.agg h))]) λg=>aX g=true/\newK 161 g (λg h=>qf 4 (.ptr e 0) λi=>oK (wr1 h i (.slc g 0 2 (some 2) 6)) λg=>oK (aM (repl 1 [an]) [(0,1,an)]) λh=>aX h=true/\newK 3 h (λh i=>oK (aM (repl 2 [an]) [(0,1,an),(1,1,aO)]) λj=>aX j=true/\newK 3 j (λj k=>oK (aM [.nilslc,.nilslc] [(0,1,(.slc h 0 1 (some 1) 1)),(1,1,(.slc j 0 2 (some 2) 1))]) λh=>oK (aM (repl 2 [an]) [(0,1,an),(1,1,aO)]) λj=>aX j=true/\newK 3 j (λj l=>oK (aM (repl 1 [an]) [(0,1,an)]) λm=>aX m=true/\newK 3 m (λm n=>oK (aM [.nilslc,.nilslc] [(0,1,(.slc j 0 2 (some 2) 1)),(1,1,(.slc m 0 1 (some 1) 1))]) λj=>oK (aM (repl 2 [.nilslc,.nilslc]) [(0,2,(.agg h)),(2,2,(.agg j))]) λh=>aX h=true/\newK 163 h (λh j=>qf 5 (.ptr e 0) λm=>oK (wr1 j m (.slc h 0 2 (some 2) 2)) λh=>oK (aM Dp [(0,1,(qz 3)),(1,1,(qz 9)),(2,1,(qz 100)),(3,1,(qz 20)),(4,1,(qz 5)),(5,1,(qz 50))]) λj=>qf 13 (.ptr e 0) λm=>oK (dP h 6 m (.agg j)) λh=>aY h 19 (.ptr e 0) λe=>qc h 19 a (.agg e) λe=>aY e 19 (.ptr a 0) λa=>K (.agg a) e) n) l) k) i) g) c) f) d) b) s
theorem qKt:T0 21 qMq:=wOK Tryz.func21
def FA:bP:=λa b K s=>qp a b λa=>K a s
def FC:cA:=λa b c K s=>qp b c λb=>ao b
 (qe false 0 true a (qz 2) λa=>FA b a K s)
 (FA b .undef K s)
def FD:dY:=λa b c d K s=>qp c d λc=>ao c
 (qe false 0 true a (qz 3) λa=>FC b c a K s)
 (FC b c .undef K s)
def FE:fH:=λa b c d e K s=>qp d e λd=>ao d
 (FD b c d a K s)
 (FD b c d .undef K s)
def FF:kq:=λa b c d e f K s=>qp e f λe=>ao e
 (FE b c d e a K s)
 (FE b c d e .undef K s)
def FH:li:=λa b c d e f g K s=>qp f g λf=>ao f
 (FF b c d e f a K s)
 (FF b c d e f .undef K s)
def zE:dY:=λa b c d K s=>oK (aM zR1 []) λe=>wC TP 20 [(.agg e),an] (λe f=>qk e 0 λg=>qk e 1 λe=>wC TP 21 [] (λg h=>wC TP 20 [g,(qz 3)] (λg i=>qk g 0 λj=>qk g 1 λg=>wC TP 22 [] (λj k=>ao j
 (FH b c d e g j a K k)
 (FH b c d e g j .undef K k)) i) h) f) s
def FI:fH:=λa b c d e K s=>qp d e λd=>zE a b c d K s
def FJ:kq:=λa b c d e f K s=>qp e f λe=>ao e
 (wC TP 11 [a] (λa f=>qh a λa=>qe false 0 true (.int .i64 a) an λa=>FI b c d e a K f) s)
 (FI b c d e .undef K s)
def FK:kq:=λa b c d e f K s=>qp e f λe=>ao e
 (wC TP 19 [a,(qz 5),.nilslc,.nilslc] (λf g=>FJ a b c d e f K g) s)
 (FJ a b c d e .undef K s)
def FM:li:=λa b c d e f g K s=>qp f g λf=>ao f
 (qe false 0 true e (qz 2) λe=>FK a b c d f e K s)
 (FK a b c d f .undef K s)
def zF:dY:=λa b c d K s=>wC TP 16 [(qz 2),aO,.nilslc] (λe f=>wC TP 17 [a,aO,e] (λe g=>qk e 0 λh=>qk e 1 λe=>oK (aM (repl 1 [an]) [(0,1,an)]) λh=>aX h=true/\newK 3 h (λh i=>wC TP 18 [a,(qz 2),(.slc h 0 1 (some 1) 1)] (λh j=>qk h 0 λk=>qk h 1 λh=>oK (aM (repl 1 [an]) [(0,1,aO)]) λk=>aX k=true/\newK 3 k (λk l=>wC TP 18 [a,(qz 3),(.slc k 0 1 (some 1) 1)] (λk m=>qk k 0 λn=>qk k 1 λk=>qe false 0 true e (qz 2) λe=>ao e
 (qe false 0 true h (qz 20) λh=>FM a b c d k e h K m)
 (FM a b c d k e .undef K m)) l) j) i) g) f) s
def FN:fH:=λa b c d e K s=>qp d e λd=>zF a b c d K s
def zG:cA:=λa b c K s=>wC TP 16 [an,(qz 5),.nilslc] (λd e=>oK (aM (repl 1 [an]) [(0,1,an)]) λf=>aX f=true/\newK 3 f (λf g=>wC TP 16 [an,(qz 6),(.slc f 0 1 (some 1) 1)] (λf h=>oK (aM (repl 1 [an,an,.nilslc]) [(0,3,f)]) λf=>aX f=true/\newK 34 f (λf i=>wC TP 15 [a,d,(.slc f 0 1 (some 1) 3)] (λd f=>ao d
 (oK (aM (repl 1 [an]) [(0,1,an)]) λj=>aX j=true/\newK 3 j (λj k=>wC TP 16 [(qz 2),aO,(.slc j 0 1 (some 1) 1)] (λj l=>oK (aM (repl 2 [an]) [(0,1,an),(1,1,aO)]) λm=>aX m=true/\newK 3 m (λm n=>wC TP 16 [(qz 2),aO,(.slc m 0 2 (some 2) 1)] (λm o=>oK (aM (repl 1 [an,an,.nilslc]) [(0,3,m)]) λm=>aX m=true/\newK 34 m (λm p=>wC TP 15 [a,j,(.slc m 0 1 (some 1) 3)] (λj m=>FN a b c d j K m) p) o) n) l) k) f)
 (FN a b c d .undef K f)) i) h) g) e) s
def FO:dY:=λa b c d K s=>qp c d λc=>zG a b c K s
def FQ:dY:=λa b c d K s=>qp c d λc=>ao c
 (wC TP 14 [(qz 2)] (λd e=>wC TP 12 [a,d,(qz 9),(.int .i64 (-1)),bF,bF,(qz 13)] (λd f=>FO a b c d K f) e) s)
 (FO a b c .undef K s)
def FT:dY:=λa b c d K s=>qp c d λc=>ao c
 (wC TP 14 [aO] (λd e=>wC TP 12 [a,d,(qz 9),(.int .i64 (-1)),bT,bF,an] (λd f=>FQ a b c d K f) e) s)
 (FQ a b c .undef K s)
def zH:bP:=λa b K s=>wC TP 14 [an] (λc d=>wC TP 12 [a,c,(qz 9),(.int .i64 (-1)),bT,bF,an] (λc e=>ao c
 (wC TP 14 [an] (λf g=>wC TP 12 [a,f,(qz 9),an,bF,bT,an] (λf h=>FT a b c f K h) g) e)
 (FT a b c .undef K e)) d) s
def FU:cA:=λa b c K s=>qp b c λb=>zH a b K s
def FV:cA:=λa b c K s=>qp b c λb=>ao b
 (wC TP 13 [aO] (λc d=>wC TP 12 [a,c,aO,(.int .i64 (-1)),bF,bF,(qz 20)] (λc e=>FU a b c K e) d) s)
 (FU a b .undef K s)
def FW:cA:=λa b c K s=>qp b c λb=>ao b
 (wC TP 13 [(qz 8)] (λc d=>wC TP 12 [a,c,(qz 9),(.int .i64 (-1)),bF,bF,(qz 13)] (λc e=>FV a b c K e) d) s)
 (FV a b .undef K s)
def zI:cz:=λa K s=>wC TP 10 [a] (λb c=>oK (aM (repl 1 [an]) [(0,1,an)]) λd=>aX d=true/\newK 3 d (λd e=>wC TP 9 [b,(.slc d 0 1 (some 1) 1)] (λb d=>ao b
 (wC TP 11 [a] (λf g=>oK (aM (repl 1 [an]) [(0,1,an)]) λh=>aX h=true/\newK 3 h (λh i=>wC TP 9 [f,(.slc h 0 1 (some 1) 1)] (λf h=>FW a b f K h) i) g) d)
 (FW a b .undef K d)) e) c) s
def RM:l8:=λK s=>wC TP 8 [] (λa b=>qe false 3 true a .nilptr λc=>ao c
 (K bF b)
 (zI a K b)) s
noncomputable def FX:Code:=lY 3 (bH Tryz.f3)
noncomputable def FY:Code:=lY 1 FX
noncomputable def FZ:Code:=lY 1 FY
noncomputable def F0:Code:=lY 1 FZ
noncomputable def qGZ:Code:=lY 4 F0
theorem qFm(K:KvP)(env:Env)(s:Hq):wpC TP nA0 Tryz.f3.ntmps none qGZ env (λe env s=>retK e (resK TP Tryz.f3.results.toList env (λvs=>K (oneV vs) s) s)) s=zE (env 2) (env 3) (env 4) (env 11) K s:=by kernel_rfl
theorem qFZ(K:KvP)(env:Env)(s:Hq):wpC TP nA0 Tryz.f3.ntmps none F0 env (λe env s=>retK e (resK TP Tryz.f3.results.toList env (λvs=>K (oneV vs) s) s)) s=zF (env 1) (env 2) (env 3) (env 4) K s:=(nq 4 (λenv s=>zE (env 2) (env 3) (env 4) (env 11) K s) F0 (by kernel_rfl) (λenv s=>qFm K env s) env s).trans (by kernel_rfl)
theorem qFV(K:KvP)(env:Env)(s:Hq):wpC TP nA0 Tryz.f3.ntmps none FZ env (λe env s=>retK e (resK TP Tryz.f3.results.toList env (λvs=>K (oneV vs) s) s)) s=zG (env 1) (env 2) (env 3) K s:=(nq 1 (λenv s=>zF (env 1) (env 2) (env 3) (env 4) K s) FZ (by kernel_rfl) (λenv s=>qFZ K env s) env s).trans (by kernel_rfl)
theorem qFk(K:KvP)(env:Env)(s:Hq):wpC TP nA0 Tryz.f3.ntmps none FY env (λe env s=>retK e (resK TP Tryz.f3.results.toList env (λvs=>K (oneV vs) s) s)) s=zH (env 1) (env 2) K s:=(nq 1 (λenv s=>zG (env 1) (env 2) (env 3) K s) FY (by kernel_rfl) (λenv s=>qFV K env s) env s).trans (by kernel_rfl)
theorem qFj(K:KvP)(env:Env)(s:Hq):wpC TP nA0 Tryz.f3.ntmps none FX env (λe env s=>retK e (resK TP Tryz.f3.results.toList env (λvs=>K (oneV vs) s) s)) s=zI (env 1) K s:=(nq 1 (λenv s=>zH (env 1) (env 2) K s) FX (by kernel_rfl) (λenv s=>qFk K env s) env s).trans (by kernel_rfl)
theorem qGT(K:KvP)(s:Hq):wpC TP nA0 Tryz.f3.ntmps none (bH Tryz.f3) (gZ []) (λe env s=>retK e (resK TP Tryz.f3.results.toList env (λvs=>K (oneV vs) s) s)) s=RM K s:=(nq 3 (λenv s=>zI (env 1) K s) (bH Tryz.f3) (by kernel_rfl) (λenv s=>qFj K env s) _ s).trans (by kernel_rfl)
theorem qGY{K:KvP}{s:Hq}(h:RM K s):wC TP 3 [] K s:=
 CI nA0 Tryz.func3 (by kernel_rfl:Tryz.f3.body=some (bH Tryz.f3)) (by kernel_rfl) ((qGT K s).mpr h)
def RN:c9:=λa b c d I0 m0 K s=>ax .lss d c λc=>ao c
 (wC TP 86 [a,d] (λa c=>qi 1 b d λe=>oK (wr1 c e a) λa=>ax .add d aO λc=>aS m0 (I0 [c] a)) s)
 (K b s)
def qO0:cz:=λa K s=>wC TP 88 [a] (λb c=>qj b λb=>ao b
 (K .nilslc c)
 (bK a 1 c λb=>qh b λb=>oK (nat? (.int .i64 b)) λd=>oK (nat? (.int .i64 b)) λb=>(d<=b/\b<=4294967296)/\newK 4 (repl b [bF]) (λe g=>qh (.slc e 0 d (some b) 1) λh=>bG [an] g (λf=>[f 16]) λI0 f s m0=>RN a (.slc e 0 d (some b) 1) (.int .i64 h) (f 16) I0 m0 K s) c)) s
def qLQ:Nat->List Nat:=anL [(10,[16])]
theorem qL9:T1 37 qO0:=wOK Tryz.func37 qLQ
def RO:dM:=λa b c I1 m1 K s=>ax .lss c b λb=>ao b
 (wC TP 31 [a] (λb d=>qj b λb=>ao b
 (K .nilptr d)
 (ax .add c aO λb=>aS m1 (I1 [b] d))) s)
 (K a s)
def RQ:c9:=λa b c d I0 m0 K s=>qh a λe=>ax .lss d (.int .i64 e) λe=>ao e
 (qi 3 a d λa=>aY s 3 a λa=>wC TP 30 [c,(.agg a)] (λa a=>wC TP 31 [c] (λe g=>qj e λe=>ao e
 (K .nilptr g)
 (ax .add d aO λd=>aS m0 (I0 [d] g))) a) s)
 (qf 13 b λa=>qd 0 a s λa=>qd 0 b s λd=>qd 1 b s λb=>ax .add d b λb=>ax .mul (qz 3) b λb=>ax .add a b λa=>ax .add a (qz 16) λa=>bG [an] s (λf=>[f 8]) λI1 f s m1=>RO c a (f 8) I1 m1 K s)
def qKY:bP:=λa b K s=>boxK 52 a (λa c=>aY c 19 a λd=>wC TP 28 [(.agg d)] (λd e=>qe false 3 true d .nilptr λg=>ao g
 (K .nilptr e)
 (bG [an] e (λf=>[f 6]) λI0 f s m0=>RQ b a d (f 6) I0 m0 K s)) c) s
def qH2:Nat->List Nat:=anL [(10,[6]),(24,[8])]
theorem qIo:T2 34 qKY:=wOK Tryz.func34 qH2
def zJ:gk:=λa I1 m1 K s=>ax .add a aO λa=>aS m1 (I1 [a] s)
def zK:lg:=λa b I3 m3 I1 m1 K s=>ax .add b aO λb=>aS m3 (I3 [a,b] s)
def tG:sN:=λa b c d e I3 m3 I1 m1 K s=>qh c λf=>ax .lss e (.int .i64 f) λf=>ao f
 (qx 1 c e s λf=>ax .gtr f an λf=>ao f
 (∃f:Hq,Sub f s/\
 qx 1 c e f λc=>wC TP 13 [e] (λg h=>oK (aM [cO,an] [(0,1,g),(1,1,c)]) λc=>oK (aM (repl 1 [cO,an]) [(0,2,(.agg c))]) λc=>aX c=true/\newK 105 c (λc g=>appK 105 2 d (.slc c 0 1 (some 1) 2) (λc i=>zK c e I3 m3 I1 m1 K i) g) (add f h)) (lock s f))
 (zK d e I3 m3 I1 m1 K s))
 (bK a 20 s λa=>qx 1 a b s λa=>wC TP 26 [a] (λa c=>wC TP 38 [a,d] (λa d=>qj a λa=>ao a
 (K bF d)
 (zJ b I1 m1 K d)) c) s)
def RS:c9:=λa b c d I1 m1 K s=>bK c 20 s λe=>qh e λe=>ax .lss d (.int .i64 e) λe=>ao e
 (bK c 19 s λe=>wC TP 35 [e,d] (λe g=>qj e λe=>ao e
 (zJ d I1 m1 K g)
 (∃e:Hq,Sub e g/\
 qd 0 b e λh=>qd 1 b e λi=>ax .add h i λh=>qd 2 b e λb=>bK c 19 e λi=>wC TP 37 [i] (λi j=>wC TP 36 [h,b,i,d] (λb h=>bG [.nilslc,an] h (λf=>[f 10,f 11]) λI3 f s m3=>tG c d b (f 10) (f 11) I3 m3 I1 m1 K s) (add e j)) (lock g e))) s)
 (K a s)
def zL:fH:=λa b c d e K s=>qt d e λd=>ao d
 (K c s)
 (wC TP 29 [a] (λa d=>newK 52 zR1 (λe g=>qc g 19 e a λa=>aY a 19 (.ptr e 0) λg=>wC TP 34 [(.agg g),b] (λb g=>qe false 3 true b .nilptr λh=>ao h
 (K bF g)
 (bG [an] g (λf=>[f 8]) λI1 f s m1=>RS c (.ptr e 0) b (f 8) I1 m1 K s)) a) d) s)
def qGR:bP:=λa b K s=>wC TP 3 [] (λc d=>qh a λe=>ax .gtr (.int .i64 e) (qz 200) λe=>ao e
 (zL a b c e .undef K d)
 (qh b λf=>ax .gtr (.int .i64 f) (qz 40) λf=>zL a b c e f K d)) s
def qE6:Nat->List Nat:=anL [(18,[8]),(3000012,[1]),(2000048,[0,1,2,3,4,5,6,7,8,9,10,12]),(2000049,[11]),(2000051,[13,14]),(30,[10,11]),(3000018,[1]),(2000072,[0,1,3,4,5,6]),(2000073,[2]),(2000075,[7,8,9,10])]
theorem qFL:T2 6 qGR:=wOK Tryz.func6 qE6
end Go.AM
