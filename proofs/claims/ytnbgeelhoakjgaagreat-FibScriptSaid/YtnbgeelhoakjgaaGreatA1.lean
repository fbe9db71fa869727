/- Part A1 of a calculus over a small memory that is proved to answer as the program does, and of its use for the functions that the law reaches: see the last part. -/
import Derived.RangeFuncLeaves
import Derived.RangeFuncIn
import Derived.Orders
import Derived.WalkKit
set_option linter.unusedVariables false
namespace Go.AM
open Go
theorem oT {p:Prop} [Decidable p] (h:decide p=true):p:=of_decide_eq_true h
theorem oF {p:Prop} [Decidable p] (h:decide p=false):¬p:=of_decide_eq_false h
theorem gE {α:Type} {l:List α} {i:Nat} (h:i < l.length):l[i]?=some l[i]:=List.getElem?_eq_getElem h
theorem gS {α:Type} {l:List α} {i:Nat} {a:α} (h:l[i]?=some a):∃ h:i < l.length,l[i]=a:=List.getElem?_eq_some_iff.1 h
theorem lAp {α:Type} {l m:List α}:(l ++ m).length=l.length + m.length:=List.length_append
theorem bE {n m:Nat} (h:Nat.beq n m=true):n=m:=Nat.eq_of_beq_eq_true h
theorem cI {α:Type} (a:α) (l:List α) (b:α) (m:List α):((a::l)=(b::m))=(a=b∧l=m):=List.cons.injEq a l b m
theorem zA (n:Nat):0 + n=n:=Nat.zero_add n
theorem mO {α:Type} (y:α) {a:α} {l:List α} (h:a∈l):a∈y::l:=List.mem_cons_of_mem y h
theorem mG {α:Type} {l:List α} {i:Nat} {a:α} (h:l[i]?=some a):a∈l:=List.mem_of_getElem? h
theorem bL {n m:Nat} (h:n ≤ m):Nat.ble n m=true:=Nat.ble_eq_true_of_le h
theorem lMY {α β:Type} {l:List α} (f:α→β):(l.map f).length=l.length:=List.length_map f
theorem g0Y {α:Type} {a:α} {l:List α}:(a::l)[0]?=some a:=rfl
theorem g1Y {α:Type} {a:α} {l:List α} {i:Nat}:(a::l)[i+1]?=l[i]?:=rfl
theorem mP {α:Type} {a:α} {s t:List α} (h:a∈s ++ t):a∈s∨a∈t:=List.mem_append.1 h
theorem mC {α:Type} {a b:α} {l:List α} (h:a∈b::l):a=b∨a∈l:=List.mem_cons.1 h
inductive Tr (α:Type) where
 | nil:Tr α
 | node:Option α→Tr α→Tr α→Tr α
namespace Tr
variable {α:Type}
def get:Tr α→Nat→Option α
 | .nil,_=>none
 | .node v l r,i=>
   match i with
   | 0=>v
   | j+1=>cond (Nat.beq (j % 2) 0) (l.get (j / 2)) (r.get (j / 2))
def setF:Nat→Tr α→Nat→Option α→Tr α
 | 0,t,_,_=>t
 | f+1,t,i,x=>
   match t,i with
   | .nil,0=>.node x .nil .nil
   | .nil,j+1=>cond (Nat.beq (j % 2) 0) (.node none (setF f .nil (j / 2) x) .nil) (.node none .nil (setF f .nil (j / 2) x))
   | .node _ l r,0=>.node x l r
   | .node v l r,j+1=>cond (Nat.beq (j % 2) 0) (.node v (setF f l (j / 2) x) r) (.node v l (setF f r (j / 2) x))
def put (t:Tr α) (i:Nat) (x:Option α):Tr α:=setF (i+1) t i x
def set (t:Tr α) (i:Nat) (x:α):Tr α:=put t i (some x)
def ofListAt (t:Tr α) (i:Nat):List α→Tr α
 | []=>t
 | x :: xs=>ofListAt (t.set i x) (i+1) xs
end Tr
def frcN {β:Type} (n:Nat) (k:Nat→β):β:=match n with | 0=>k 0 | m+1=>k (m+1)
def frc {β:Type} (n:Int) (k:Int→β):β:=
 match n with
 | .ofNat a=>frcN a λa=>k (.ofNat a)
 | .negSucc a=>frcN a λa=>k (.negSucc a)
def ltI:Int→Int→Bool
 | .ofNat a,.ofNat b=>Nat.blt a b
 | .ofNat _,.negSucc _=>false
 | .negSucc _,.ofNat _=>true
 | .negSucc a,.negSucc b=>Nat.blt b a
def eqI:Int→Int→Bool
 | .ofNat a,.ofNat b=>Nat.beq a b
 | .negSucc a,.negSucc b=>Nat.beq a b
 | _,_=>false
def qNW (m h:Nat):Int→Int
 | .ofNat a=>cond (Nat.blt a h) (.ofNat a) (let r:=a % m;cond (Nat.blt r h) (.ofNat r) (.negSucc (m - r - 1)))
 | .negSucc a=>let r:=m - 1 - a % m;cond (Nat.blt r h) (.ofNat r) (.negSucc (m - r - 1))
def qB7:IntKind→Int→Int
 | .i8=>qNW 256 128
 | .i16=>qNW 65536 32768
 | .i32=>qNW 4294967296 2147483648
 | .i64=>qNW 18446744073709551616 9223372036854775808
 | .u8=>qNW 256 256
 | .u16=>qNW 65536 65536
 | .u32=>qNW 4294967296 4294967296
 | .u64=>qNW 18446744073709551616 18446744073709551616
inductive AV where
 | bool (b:Bool)
 | int (k:IntKind) (n:Int)
 | str (s:ByteArray)
 | ptr (b o:Nat)
 | nilptr
 | slc (b o len:Nat) (cap:Option Nat) (es:Nat)
 | nilslc
 | map (b:Nat)
 | nilmap
 | fn (f:Fn) (first captured:List AV)
 | yield (l:Nat)
 | nilFunc
 | ifc (t:TypeId) (v:AV)
 | nilIface
 | agg (cs:List AV)
 | tup (vs:List AV)
 | opq (i:Nat)
 deriving Inhabited
def AV.undef:AV:=.tup []
def AV.cells:AV→List AV
 | .agg cs=>cs
 | v=>[v]
def AV.one:AV→Bool
 | .agg _ | .tup _=>false
 | _=>true
abbrev Tmps:=Tr AV
inductive Mk where
 | mark (r:Nat)
 | call (k:FuncId) (args:List AV)
structure AEnt where
 key:AV
 val:AV
 born:Nat
inductive ABlk where
 | cells (elem:TypeId) (c:Tr AV) (n:Nat)
 | map (es:List AEnt) (clock:Nat)
 | loop (st:LoopState) (pending:Option Code) (nt:Nat) (T:Tmps) (params:List Tmp) (assign body:Code) (defers:Nat)
 | deferred (some:Bool)
 | iter (m:Option Nat) (since:Nat) (seen:List Nat) (stepped:Nat)
 | one (v:AV)
 /-- a variable of a package that is only read -/
 | glob (g:Nat) (v:AV)
structure AH where
 blks:Tr ABlk
 next:Nat
 lo:Nat
 log:List (Nat × Bool)
abbrev M (α:Type):=AH→Option (α × AH)
def ret {α:Type} (a:α):M α:=λH=>some (a,H)
def bd {α β:Type} (m:M α) (f:α→M β):M β:=λH=>match m H with | none=>none | some (a,H')=>f a H'
def fail {α:Type}:M α:=λ_=>none
def lift {α:Type} (o:Option α):M α:=λH=>match o with | none=>none | some a=>some (a,H)
def rd (id:Nat):M ABlk:=λH=>match H.blks.get id with | none=>none | some b=>some (b,{ H with log:=(id,false) :: H.log })
def wr (id:Nat) (b:ABlk):M Unit:=λH=>
 cond (Nat.ble H.lo id) (match H.blks.get id with | none=>none | some _=>some ((),{ H with blks:=H.blks.put id (some b),log:=(id,true) :: H.log })) none
def kill (id:Nat):M Unit:=λH=>
 cond (Nat.ble H.lo id) (match H.blks.get id with | none=>none | some _=>some ((),{ H with blks:=H.blks.put id none,log:=(id,true) :: H.log })) none
def nw (b:ABlk):M Nat:=λH=>frcN H.next λn=>
 cond (Nat.ble H.lo n) (some (n,{ H with blks:=H.blks.put n (some b),next:=n+1,log:=(n,true) :: H.log })) none
def capture {α:Type} (m:M α):M (α × List (Nat × Bool)):=λH=>match m { H with log:=[] } with
 | none=>none
 | some (a,H')=>some ((a,H'.log),{ H' with log:=H'.log ++ H.log })
def ofV:Nat→Value→Option AV
 | _,.bool b=>some (.bool b)
 | _,.int k n=>some (.int k n)
 | _,.string s=>some (.str s)
 | _,.pointer none=>some .nilptr
 | _,.slice none 0 0=>some .nilslc
 | _,.map none=>some .nilmap
 | _,.nilFunc=>some .nilFunc
 | _,.nilIface=>some .nilIface
 | d+1,.agg cs=>(cs.toList.mapM (ofV d)).map .agg
 | d+1,.tuple cs=>(cs.toList.mapM (ofV d)).map .tup
 | _,_=>none
def ev (T:Tmps):Operand→Option AV
 | .tmp t=>match T.get t with | some v=>some v | none=>some .undef
 | .const v=>ofV 2 v
 | .func f=>some (.fn (.func f) [] [])
 | .global _=>none
def evs (T:Tmps):List Operand→Option (List AV)
 | []=>some []
 | x :: xs=>match ev T x with
   | none=>none
   | some v=>match evs T xs with
     | none=>none
     | some vs=>some (v :: vs)
section
variable (P : Program)
def sz (t:TypeId):Option Nat:=match P.info? t with | some i=>some i.size | none=>none
def qDX (t:TypeId):Option Bool:=match P.underlying t with
 | some (.struct _)=>some true
 | some (.array _ _)=>some true
 | some _=>some false
 | none=>none
def qEp (t:TypeId):Option AV:=match P.info? t with
 | some i=>match i.zero with | some v=>ofV 2 v | none=>none
 | none=>none
def qGh (t:TypeId) (cs:List AV) (off:Nat):Option AV:=
 match qDX P t with
 | some true=>match sz P t with
   | some n=>cond (Nat.ble (off+n) cs.length) (some (.agg ((cs.drop off).take n))) none
   | none=>none
 | some false=>cs[off]?
 | none=>none
def arith (op:BinOp) (k:IntKind) (x y:Int):Option AV:=
 let r (n:Int):Option AV:=frc n λn=>some (.int k n)
 match op with
 | .add=>r (qB7 k (x+y))
 | .sub=>r (qB7 k (x - y))
 | .mul=>r (qB7 k (x * y))
 | .quo=>cond (eqI y 0) none (r (qB7 k (x.tdiv y)))
 | .rem=>cond (eqI y 0) none (r (x.tmod y))
 | .and=>r (qB7 k ((BitVec.ofInt k.bits x &&& BitVec.ofInt k.bits y).toNat:Nat))
 | .or=>r (qB7 k ((BitVec.ofInt k.bits x ||| BitVec.ofInt k.bits y).toNat:Nat))
 | .xor=>r (qB7 k ((BitVec.ofInt k.bits x ^^^ BitVec.ofInt k.bits y).toNat:Nat))
 | .andNot=>r (qB7 k ((BitVec.ofInt k.bits x &&& ~~~(BitVec.ofInt k.bits y)).toNat:Nat))
 | .eql=>some (.bool (eqI x y))
 | .neq=>some (.bool (!eqI x y))
 | .lss=>some (.bool (ltI x y))
 | .leq=>some (.bool (!ltI y x))
 | .gtr=>some (.bool (ltI y x))
 | .geq=>some (.bool (!ltI x y))
 | _=>none
def qMs (op:BinOp) (k:IntKind) (x y:Int):Option AV:=
 match y with
 | .negSucc _=>none
 | .ofNat m=>
   let n:=min m k.bits
   match op with
   | .shl=>frc (qB7 k (x * ((2 ^ n:Nat):Int))) λn=>some (.int k n)
   | .shr=>frc (x.fdiv ((2 ^ n:Nat):Int)) λn=>some (.int k n)
   | _=>none
def qCQ:IntKind→IntKind→Bool
 | .i8,.i8 | .i16,.i16 | .i32,.i32 | .i64,.i64 | .u8,.u8 | .u16,.u16 | .u32,.u32 | .u64,.u64=>true
 | _,_=>false
def eqFields (eq:TypeId→AV→AV→Option Bool) (xs ys:List AV):List Field→Option Bool
 | []=>some true
 | f :: fs=>
   cond (f.name == "_") (eqFields eq xs ys fs)
    (match qGh P f.type xs f.offset,qGh P f.type ys f.offset with
    | some x,some y=>match eq f.type x y with
      | some true=>eqFields eq xs ys fs
      | some false=>some false
      | none=>none
    | _,_=>none)
def qNt (eq:TypeId→AV→AV→Option Bool) (elem:TypeId) (n:Nat) (xs ys:List AV):Nat→Nat→Option Bool
 | 0,_=>some true
 | len+1,i=>
   match qGh P elem xs (i * n),qGh P elem ys (i * n) with
   | some x,some y=>match eq elem x y with
     | some true=>qNt eq elem n xs ys len (i+1)
     | some false=>some false
     | none=>none
   | _,_=>none
def aEq:Nat→TypeId→AV→AV→Option Bool
 | 0,_,_,_=>none
 | d+1,t,x,y=>
   match P.underlying t,x,y with
   | some .bool,.bool a,.bool b=>some (a == b)
   | some (.int _),.int k a,.int k' b=>cond (qCQ k k') (some (eqI a b)) none
   | some .string,.str a,.str b=>some (a == b)
   | some (.pointer _),.nilptr,.nilptr=>some true
   | some (.pointer _),.nilptr,.ptr _ _=>some false
   | some (.pointer _),.ptr _ _,.nilptr=>some false
   | some (.interface _),.nilIface,.nilIface=>some true
   | some (.interface _),.nilIface,.ifc _ _=>some false
   | some (.interface _),.ifc _ _,.nilIface=>some false
   | some (.struct fields),.agg xs,.agg ys=>cond (P.stoodInHeld t) none (eqFields P (aEq d) xs ys fields.toList)
   | some (.array len elem),.agg xs,.agg ys=>match sz P elem with
     | some n=>qNt P (aEq d) elem n xs ys len 0
     | none=>none
   | some (.slice _),.nilslc,.nilslc=>some true
   | some (.slice _),.nilslc,.slc _ _ _ _ _=>some false
   | some (.slice _),.slc _ _ _ _ _,.nilslc=>some false
   | some (.map _ _),.nilmap,.nilmap=>some true
   | some (.map _ _),.nilmap,.map _=>some false
   | some (.map _ _),.map _,.nilmap=>some false
   | some (.func _ _ _),.nilFunc,.nilFunc=>some true
   | some (.func _ _ _),.nilFunc,.fn _ _ _=>some false
   | some (.func _ _ _),.fn _ _ _,.nilFunc=>some false
   | _,_,_=>none
end
end Go.AM
namespace Go.AM
open Go
section
variable (P : Program)
def qEy (c:Tr AV):Nat→Nat→Option (List AV)
 | _,0=>some []
 | o,n+1=>match c.get o with
   | none=>none
   | some v=>match qEy c (o+1) n with
     | none=>none
     | some vs=>some (v :: vs)
def qAb:List AV→Bool
 | []=>true
 | v :: vs=>v.one&&qAb vs
def qB0 (elem:TypeId) (cs:List AV):M Nat:=
 cond (qAb cs) (nw (.cells elem (Tr.ofListAt .nil 0 cs) cs.length)) fail
def qME (elem:TypeId):M AV:=
 match qEp P elem with
 | some z=>bd (qB0 elem z.cells) λid=>ret (.ptr id 0)
 | none=>fail
def boxA (elem:TypeId) (v:AV):M AV:=bd (qB0 elem v.cells) λid=>ret (.ptr id 0)
def qCk (b o n:Nat):M (List AV):=bd (rd b) λblk=>
 match blk with
 | .cells _ c _=>lift (qEy c o n)
 | _=>fail
def qFa (t:TypeId) (b o:Nat):M AV:=
 match qDX P t with
 | some true=>match sz P t with
   | some n=>bd (qCk b o n) λl=>ret (.agg l)
   | none=>fail
 | some false=>bd (rd b) λblk=>match blk with
   | .cells _ c _=>lift (c.get o)
   | _=>fail
 | none=>fail
def qKB (t:TypeId) (g:Nat):M AV:=bd (rd g) λblk=>match blk with
 | .glob g' v=>cond (Nat.beq g g') (match qDX P t with
   | some true=>match v with
     | .agg l=>match sz P t with
       | some n=>cond (Nat.beq n l.length) (ret v) fail
       | none=>fail
     | _=>fail
   | some false=>cond v.one (ret v) fail
   | none=>fail) fail
 | _=>fail
def qCR (b o:Nat) (vs:List AV):M Unit:=bd (rd b) λblk=>
 match blk with
 | .cells e c n=>cond (Nat.ble (o+vs.length) n&&qAb vs) (wr b (.cells e (Tr.ofListAt c o vs) n)) fail
 | _=>fail
def qJd (t:TypeId) (p v:AV):M Unit:=
 match p with
 | .ptr b o=>match sz P t with
   | some n=>cond (Nat.beq v.cells.length n) (qCR b o v.cells) fail
   | none=>fail
 | _=>fail
def qAu (cs:List AV) (off:Nat) (vs:List AV):List AV:=cs.take off ++ vs ++ cs.drop (off+vs.length)
def qNm (place:Nat→Option (Nat × Nat)) (cells:List AV):List (Nat × AV)→Option (List AV)
 | []=>some cells
 | (i,v) :: rest=>
   match place i with
   | none=>none
   | some (off,size)=>cond (Nat.beq v.cells.length size&&Nat.ble (off+v.cells.length) cells.length) (qNm place (qAu cells off v.cells) rest) none
def qDn (T:Tmps):List (Nat × Operand)→Option (List (Nat × AV))
 | []=>some []
 | (i,x) :: r=>match ev T x,qDn T r with
   | some v,some l=>some ((i,v) :: l)
   | _,_=>none
def qMq (fields:List Field) (i:Nat):Option (Nat × Nat):=match fields[i]? with
 | some f=>match sz P f.type with
   | some n=>some (f.offset,n)
   | none=>none
 | none=>none
def qOV (t:TypeId) (parts:List (Nat × AV)):Option AV:=
 match qEp P t,P.underlying t with
 | some z,some (.struct fields)=>cond (fields.toList.all λf=>(sz P f.type).isSome) ((qNm (qMq P fields.toList) z.cells parts).map .agg) none
 | some z,some (.array _ elem)=>match sz P elem with
   | some n=>(qNm (λi=>some (i * n,n)) z.cells parts).map .agg
   | none=>none
 | _,_=>none
def repl (n:Nat) (z:List AV):List AV:=match n with
 | 0=>[]
 | n+1=>z ++ repl n z
def zeros (elem:TypeId) (n:Nat):Option (List AV × Nat):=
 match qEp P elem,sz P elem with
 | some z,some es=>cond (Nat.beq z.cells.length es) (some (repl n z.cells,es)) none
 | _,_=>none
def qD8 (t:TypeId) (len:Nat) (parts:List (Nat × AV)):M AV:=
 match P.underlying t with
 | some (.slice elem)=>match zeros P elem len with
   | some (cs,es)=>cond (Nat.ble (len * es) 16777216) (match qNm (λi=>some (i * es,es)) cs parts with
     | some cs=>bd (qB0 elem cs) λid=>ret (.slc id 0 len (some len) es)
     | none=>fail) fail
   | none=>fail
 | _=>fail
def qFj (t:TypeId):Option Nat:=match P.info? t with | some i=>some i.bytes | none=>none
def nat?:AV→Option Nat
 | .int _ (.ofNat n)=>some n
 | _=>none
def qEP (t:TypeId) (l c:AV):M AV:=
 match P.underlying t,nat? l,nat? c with
 | some (.slice elem),some l,some c=>match zeros P elem c,qFj P elem with
   | some (cs,es),some by_=>cond (Nat.ble l c&&(Nat.ble c 4294967296&&Nat.ble by_ 32768)) (bd (qB0 elem cs) λid=>frcN l λl=>frcN c λc=>ret (.slc id 0 l (some c) es)) fail
   | _,_=>fail
 | _,_,_=>fail
def qDG (s:TypeId) (x:AV) (f:Nat):Option AV:=
 match P.underlying s,x with
 | some (.struct fields),.ptr b o=>match fields[f]? with
   | some fd=>match sz P fd.type with
     | some (_+1)=>frcN (o+fd.offset) λq=>some (.ptr b q)
     | _=>none
   | none=>none
 | _,_=>none
def qOc (t:TypeId) (x:AV) (f:Nat):Option AV:=
 match P.underlying t,x with
 | some (.struct fields),.agg cs=>match fields[f]? with
   | some fd=>qGh P fd.type cs fd.offset
   | none=>none
 | _,_=>none
def qDe (t:TypeId) (x i:AV):Option AV:=
 match P.underlying t,x,nat? i with
 | some (.array len elem),.ptr b o,some i=>match sz P elem with
   | some n=>cond (Nat.blt i len) (frcN (o+i * n) λq=>some (.ptr b q)) none
   | none=>none
 | some (.slice elem),.slc b o len _ es,some i=>match sz P elem with
   | some n=>cond (Nat.blt i len&&Nat.beq n es) (frcN (o+i * n) λq=>some (.ptr b q)) none
   | none=>none
 | _,_,_=>none
def qLK (t:TypeId) (x i:AV):Option AV:=
 match P.underlying t,x,nat? i with
 | some (.array len elem),.agg cs,some i=>match sz P elem with
   | some n=>cond (Nat.blt i len) (qGh P elem cs (i * n)) none
   | none=>none
 | some .string,.str s,some i=>match s[i]? with
   | some b=>frcN b.toNat λn=>some (.int .u8 n)
   | none=>none
 | _,_,_=>none
def bound (x:Option AV) (dflt y:Nat):Option Nat:=
 match x with
 | none=>some dflt
 | some v=>match nat? v with
   | some n=>cond (Nat.ble n y) (some n) none
   | none=>none
def qMn (t:TypeId) (x:AV) (lo hi mx:Option AV):Option AV:=
 match P.underlying t,x with
 | some (.array n elem),.ptr b o=>
   match sz P elem,bound mx n n with
   | some es,some m=>match bound hi n m with
     | some h=>match bound lo 0 h with
       | some l=>cond (mx.isNone||hi.isSome) (frcN (o+l * es) λq=>frcN (h - l) λlen=>frcN (m - l) λc=>some (.slc b q len (some c) es)) none
       | none=>none
     | none=>none
   | _,_=>none
 | some (.slice elem),.slc b o len cap es=>
   match sz P elem,bound mx (cap.getD len) (cap.getD len) with
   | some es',some m=>match bound hi len m with
     | some h=>match bound lo 0 h with
       | some l=>cond ((mx.isNone||hi.isSome)&&Nat.beq es es') (frcN (o+l * es) λq=>frcN (h - l) λlen=>
         match cap,mx with
         | none,none=>some (.slc b q len none es)
         | _,_=>frcN (m - l) λc=>some (.slc b q len (some c) es)) none
       | none=>none
     | none=>none
   | _,_=>none
 | some (.slice elem),.nilslc=>match bound lo 0 0,bound hi 0 0,bound mx 0 0 with
   | some _,some _,some _=>cond ((mx.isNone||hi.isSome)&&(P.info? elem).isSome) (some .nilslc) none
   | _,_,_=>none
 | _,_=>none
def qGk (t:TypeId) (x:AV) (lo hi mx:Option AV):M AV:=
 match P.underlying t,x with
 | some (.array n elem),.ptr b o=>match sz P elem with
   | some es=>bd (rd b) λblk=>match blk with
     | .cells _ _ N=>cond (Nat.ble (o+n * es) N) (lift (qMn P t (.ptr b o) lo hi mx)) fail
     | _=>fail
   | none=>fail
 | _,x=>lift (qMn P t x lo hi mx)
def qAa:AV→Option Nat
 | .slc _ _ n _ _=>some n
 | .nilslc=>some 0
 | _=>none
def lenX (d:TypeDesc) (x:AV):Option Nat:=match d with
 | .int _=>none
 | _=>qAa x
def qJh (es:Nat) (n:Nat):AV→M (List AV)
 | .slc b o _ _ es'=>cond (Nat.beq es es') (cond (Nat.beq (n * es) 0) (ret []) (qCk b o (n * es))) fail
 | .nilslc=>ret []
 | _=>fail
def wayA (cap:Option Nat) (len n:Nat):Bool × Bool:=match cap with
 | some c=>(Nat.ble (len+n) c,false)
 | none=>(Nat.beq n 0,true)
def qXm (b:Nat) (elem:TypeId):M Unit:=bd (rd b) λblk=>match blk with
 | .cells e _ _=>cond (Nat.beq e elem) (kill b) fail
 | _=>fail
def qJA (sT xT:TypeId) (s x:AV):M AV:=
 match P.underlying sT,P.underlying xT with
 | some (.slice elem),some xd=>match lenX xd x,zeros P elem 0,qFj P elem with
   | some n,some (_,es),some by_=>
     match s with
     | .nilslc=>match n with
       | 0=>ret .nilslc
       | _+1=>cond (Nat.ble n 16777216&&Nat.ble by_ 65536) (bd (qJh es n x) λnew=>bd (qB0 elem new) λid=>ret (.slc id 0 n none es)) fail
     | .slc b o len cap es'=>
       cond (Nat.beq es es') (
        match wayA cap len n with
        | (true,_)=>match n with
          | 0=>ret s
          | _+1=>bd (qJh es n x) λnew=>bd (qCR b (o+len * es) new) λ_=>frcN (len+n) λl=>ret (.slc b o l cap es)
        | (false,dead)=>
          cond (Nat.ble (len+n) 16777216&&Nat.ble by_ 65536) (
           bd (qJh es len s) λold=>bd (qJh es n x) λnew=>bd (cond dead (qXm b elem) (ret ())) λ_=>
           bd (qB0 elem (old ++ new)) λid=>frcN (len+n) λl=>ret (.slc id 0 l none es)) fail) fail
     | _=>fail
   | _,_,_=>fail
 | _,_=>fail
def qQt (dT:TypeId) (d s:AV):M AV:=
 match P.underlying dT,qAa s,qAa d with
 | some (.slice elem),some m,some k=>match sz P elem with
   | some es=>frcN (min m k) λn=>bd (qJh es n s) λcs=>
     match d with
     | .slc b o _ _ es'=>cond (Nat.beq es es') (match n with
       | 0=>ret (.int .i64 0)
       | _+1=>bd (qCR b o cs) λ_=>ret (.int .i64 n)) fail
     | _=>ret (.int .i64 n)
   | none=>fail
 | _,_,_=>fail
def lenA (t:TypeId) (x:AV):M AV:=
 match P.underlying t,x with
 | some .string,.str s=>ret (.int .i64 s.size)
 | some (.array n _),_=>ret (.int .i64 n)
 | some (.slice _),.slc _ _ n _ _=>ret (.int .i64 n)
 | some (.slice _),.nilslc=>ret (.int .i64 0)
 | some (.map _ _),.nilmap=>ret (.int .i64 0)
 | some (.map _ _),.map b=>bd (rd b) λblk=>match blk with
   | .map es _=>frcN es.length λn=>ret (.int .i64 n)
   | _=>fail
 | _,_=>fail
def qLw (t:TypeId) (x:AV):M AV:=
 match P.underlying t,x with
 | some (.slice _),.nilslc=>ret .undef
 | some (.slice elem),.slc b o n _ es=>match zeros P elem n with
   | some (cs,es')=>cond (Nat.beq es es') (match n with
     | 0=>ret .undef
     | _+1=>bd (qCR b o cs) λ_=>ret .undef) fail
   | none=>fail
 | _,_=>fail
def min2A:AV→AV→Option AV
 | .int k x,.int k' y=>cond (qCQ k k') (some (.int k (cond (ltI y x) y x))) none
 | _,_=>none
def max2A:AV→AV→Option AV
 | .int k x,.int k' y=>cond (qCQ k k') (some (.int k (cond (ltI x y) y x))) none
 | _,_=>none
def qKU (f:AV→AV→Option AV):AV→List AV→Option AV
 | x,[]=>some x
 | x,y :: ys=>match f x y with
   | some z=>qKU f z ys
   | none=>none
def qPy (d:TypeDesc):AV→AV→Option Bool
 | .int k a,.int k' b=>match d with | .int _=>cond (qCQ k k') (some (eqI a b)) none | _=>none
 | .str a,.str b=>match d with | .string=>some (a == b) | _=>none
 | .bool a,.bool b=>match d with | .bool=>some (a == b) | _=>none
 | _,_=>none
def qW4 (f:AV→AV→Bool):List AV→List AV→Bool
 | [],[]=>true
 | x :: xs,y :: ys=>f x y&&qW4 f xs ys
 | _,_=>false
def qTU:Nat→AV→AV→Bool
 | _+1,.bool a,.bool b=>a == b
 | _+1,.int k a,.int k' b=>qCQ k k'&&eqI a b
 | _+1,.str a,.str b=>a == b
 | n+1,.agg a,.agg b=>qW4 (qTU n) a b
 | _,_,_=>false
def aggD:TypeDesc→Bool
 | .array _ _=>true
 | .struct _=>true
 | _=>false
def qSe (kt:TypeId) (d:TypeDesc) (k e:AV):Option Bool:=match aggD d with
 | false=>qPy d k e
 | true=>match aEq P 30 kt k e with
   | some true=>cond (qTU 10 k e) (some true) none
   | r=>r
def qJC (kt:TypeId) (d:TypeDesc) (k:AV):List AEnt→Nat→Option (Option (Nat × AV))
 | [],_=>some none
 | e :: es,i=>match qSe P kt d k e.key with
   | some true=>some (some (i,e.val))
   | some false=>qJC kt d k es (i+1)
   | none=>none
def qMW (ck:TypeId→AV→Bool) (e:TypeId) (c:Nat) (cs:List AV):Nat→Nat→Bool
 | 0,_=>true
 | n+1,i=>match qGh P e cs (i * c) with
   | some x=>ck e x&&qMW ck e c cs n (i+1)
   | none=>false
def qJB (ck:TypeId→AV→Bool) (cs:List AV):List Field→Bool
 | []=>true
 | f :: fs=>cond (f.name == "_") (qJB ck cs fs) (match qGh P f.type cs f.offset with
   | some x=>ck f.type x&&qJB ck cs fs
   | none=>false)
def qHX:Nat→TypeId→AV→Bool
 | 0,_,_=>false
 | n+1,t,v=>match P.underlying t,v with
   | some (.int _),.int _ _=>true
   | some .string,.str _=>true
   | some .bool,.bool _=>true
   | some (.array len e),.agg cs=>match sz P e with
     | some c=>qMW P (qHX n) e c cs len 0
     | none=>false
   | some (.struct fs),.agg cs=>qJB P (qHX n) cs fs.toList
   | _,_=>false
def qMb:M AV:=bd (nw (.map [] 0)) λid=>ret (.map id)
def qE7 (t:TypeId) (x k:AV) (ok:Bool):M AV:=
 match P.underlying t with
 | some (.map kt et)=>match P.underlying kt,qEp P et with
   | some kd,some z=>cond (qHX P 10 kt k) (
     bd (match x with
      | .nilmap=>ret none
      | .map b=>bd (rd b) λblk=>match blk with
        | .map es _=>lift (qJC P kt kd k es 0)
        | _=>fail
      | _=>fail) λr=>
     match r with
     | some (_,v)=>ret (cond ok (.tup [v,.bool true]) v)
     | none=>ret (cond ok (.tup [z,.bool false]) z)) fail
   | _,_=>fail
 | _=>fail
def modE:List AEnt→Nat→(AEnt→AEnt)→List AEnt
 | [],_,_=>[]
 | e :: es,0,f=>f e :: es
 | e :: es,i+1,f=>e :: modE es i f
def qDF (t:TypeId) (m k v:AV):M Unit:=
 match P.underlying t,m with
 | some (.map kt _),.map b=>match P.underlying kt with
   | some kd=>cond (qHX P 10 kt k) (bd (rd b) λblk=>match blk with
     | .map es clock=>bd (lift (qJC P kt kd k es 0)) λr=>match r with
       | some (i,_)=>wr b (.map (modE es i λe=>{ e with key:=k,val:=v }) clock)
       | none=>frcN clock λclock=>wr b (.map (es ++ [{ key:=k,val:=v,born:=clock }]) (clock+1))
     | _=>fail) fail
   | none=>fail
 | _,_=>fail
def qMy (t:TypeId) (x:AV):M AV:=
 match P.underlying t,x with
 | some (.map _ _),.nilmap=>bd (nw (.iter none 0 [] 0)) λid=>ret (.ptr id 0)
 | some (.map _ _),.map b=>bd (rd b) λblk=>match blk with
   | .map _ clock=>bd (nw (.iter (some b) clock [] clock)) λid=>ret (.ptr id 0)
   | _=>fail
 | _,_=>fail
def hasN (n:Nat):List Nat→Bool
 | []=>false
 | m :: ms=>Nat.beq n m||hasN n ms
def qQN:List Nat→Option Nat
 | []=>none
 | [n]=>some n
 | _ :: ns=>qQN ns
def qGq (n:Nat):List AEnt→Option AEnt
 | []=>none
 | e :: es=>cond (Nat.beq e.born n) (some e) (qGq n es)
def qNr (x:AV):M AV:=
 match x with
 | .ptr r 0=>bd (rd r) λblk=>match blk with
   | .iter (some m) _ seen stepped=>match qQN seen with
     | some stamp=>bd (rd m) λblk=>match blk with
       | .map es clock=>cond (Nat.beq clock stepped) (match qGq stamp es with
         | some e=>ret (.tup [e.key,e.val])
         | none=>fail) fail
       | _=>fail
     | none=>fail
   | _=>fail
 | _=>fail
def qNo (t:TypeId) (m k:AV):M AV:=
 match P.underlying t with
 | some (.map kt _)=>match P.underlying kt with
   | some kd=>cond (qHX P 10 kt k) (match m with
     | .nilmap=>ret .undef
     | .map b=>bd (rd b) λblk=>match blk with
       | .map es clock=>bd (lift (qJC P kt kd k es 0)) λr=>match r with
         | some (i,_)=>bd (wr b (.map (es.eraseIdx i) clock)) λ_=>ret .undef
         | none=>bd (wr b (.map es clock)) λ_=>ret .undef
       | _=>fail
     | _=>fail) fail
   | none=>fail
 | _=>fail
def qF1 (src dst:TypeId) (x:AV):Option AV:=
 match P.underlying src,P.underlying dst,x with
 | some (.int _),some (.int k),.int _ n=>frc (qB7 k n) λn=>some (.int k n)
 | some .string,some .string,.str s=>some (.str s)
 | _,_,_=>none
def qBd (op:UnOp) (x:AV):Option AV:=
 match op,x with
 | .neg,.int k n=>arith .sub k 0 n
 | .not,.bool b=>some (.bool !b)
 | .xor,.int k n=>arith .xor k (if k.signed then -1 else k.max) n
 | _,_=>none
def qNH:AV→Bool
 | .nilIface | .agg _ | .opq _=>false
 | _=>true
def qCY (t:TypeId) (x y:Operand):AV→AV→Bool
 | .nilIface,.nilIface=>(match x with | .const _=>true | _=>false)||(match y with | .const _=>true | _=>false)
 | .agg _,.agg _=>!P.eqGuardType P.depth t
 | a,b=>qNH a||qNH b
def binA (op:BinOp) (t:TypeId) (x y:Operand) (a b:AV):Option AV:=
 match a,b with
 | .int k m,.int k' n=>match op with
   | .shl | .shr=>qMs op k m n
   | _=>cond (qCQ k k') (arith op k m n) none
 | _,_=>match op with
   | .eql=>cond (qCY P t x y a b) ((aEq P 30 t a b).map .bool) none
   | .neq=>cond (qCY P t x y a b) ((aEq P 30 t a b).map λr=>.bool !r) none
   | _=>none
def qF9 (t:TypeId) (x:AV):Option AV:=
 match P.underlying t with
 | some (.interface _)=>none
 | some _=>some (.ifc t x)
 | none=>none
def qEA (x:AV) (asserted:TypeId) (ok:Bool):Option AV:=
 match P.underlying asserted,x with
 | some (.interface _),_=>none
 | some _,.ifc t v=>cond (Nat.beq t asserted) (some (cond ok (.tup [v,.bool true]) v))
   (cond ok (match qEp P asserted with | some z=>some (.tup [z,.bool false]) | none=>none) none)
 | some _,.nilIface=>cond ok (match qEp P asserted with | some z=>some (.tup [z,.bool false]) | none=>none) none
 | _,_=>none
def qAN (x:AV) (i:Nat):Option AV:=match x with
 | .tup vs=>vs[i]?
 | _=>none
def qAH (x:AV):Option AV:=match x with
 | .nilptr | .nilIface | .nilFunc | .opq _=>none
 | .fn (.method _) _ _=>none
 | x=>some x
inductive APl where
 | val (v:AV)
 | var (b o:Nat)
def APl.get (t:TypeId):APl→M AV
 | .val v=>ret v
 | .var b o=>qFa P t b o
def qUh (s:FieldStep) (x:APl) (t:TypeId):M (TypeId × APl):=
 match P.underlying s.struct with
 | some (.struct fields)=>match fields[s.index]? with
   | some f=>match sz P f.type with
     | some (_+1)=>cond s.deref
       (bd (x.get P t) λv=>match v with
        | .ptr b o=>ret (f.type,.var b (o+f.offset))
        | _=>fail)
       (match x with
        | .var b o=>ret (f.type,.var b (o+f.offset))
        | .val (.agg cs)=>match qGh P f.type cs f.offset with
          | some v=>ret (f.type,.val v)
          | none=>fail
        | _=>fail)
     | _=>fail
   | none=>fail
 | _=>fail
def qO7:List FieldStep→TypeId→APl→M (TypeId × APl)
 | [],t,x=>ret (t,x)
 | s :: rest,t,x=>bd (qUh P s x t) λp=>qO7 rest p.1 p.2
def qJf (xt:TypeId) (x:APl) (ptrRecv:Bool):M AV:=
 match P.underlying xt with
 | some (.pointer elem)=>cond ptrRecv (x.get P xt) (bd (x.get P xt) λv=>match v with
   | .ptr b o=>qFa P elem b o
   | _=>fail)
 | some _=>cond ptrRecv (match x with | .var b o=>ret (.ptr b o) | _=>fail) (x.get P xt)
 | none=>fail
def qBq (t:TypeId) (v:AV) (name:String):M (FuncId × AV):=
 match P.info? t with
 | some i=>match i.methods.find? (·.name == name) with
   | some m=>match m.func with
     | some (f,pr)=>bd (qO7 P m.path.toList t (.val v)) λp=>bd (qJf P p.1 p.2 pr) λr=>ret (f,r)
     | none=>fail
   | none=>fail
 | none=>fail
inductive ANext where
 | val (v:AV)
 | enter (f:FuncId) (args:List AV)
 | round (l:Nat) (args:List AV)
def isFn (k:FuncId):Bool:=match P.funcs[k]? with
 | some fn=>fn.body.isSome
 | none=>false
def goA (k:FuncId) (args:List AV):M ANext:=cond (isFn P k) (ret (.enter k args)) fail
def qE8 (b:Builtin) (ts:List TypeId) (args:List AV):M AV:=
 match b,ts,args with
 | .append,[st,xt],[s,x]=>qJA P st xt s x
 | .len,t :: _,[x]=>lenA P t x
 | .clear,t :: _,[x]=>qLw P t x
 | .min,_,x :: xs=>lift (qKU min2A x xs)
 | .max,_,x :: xs=>lift (qKU max2A x xs)
 | .copy,t :: _,[d,s]=>qQt P t d s
 | .delete,t :: _,[m,k]=>qNo P t m k
 | _,_,_=>fail
def qH9 (T:Tmps) (c:Call):M ANext:=
 match evs T c.args.toList with
 | none=>fail
 | some args=>match c.callee with
   | .builtin b=>bd (qE8 P b c.argTypes.toList args) λv=>ret (.val v)
   | .invoke r name=>match ev T r with
     | some (.ifc t v)=>bd (qBq P t v name) λp=>goA P p.1 (p.2 :: args)
     | _=>fail
   | .value f=>match ev T f with
     | some (.fn (.func k) first cap)=>goA P k (first ++ args ++ cap)
     | some (.fn (.method name) [.ifc t v] _)=>bd (qBq P t v name) λp=>goA P p.1 (p.2 :: args)
     | some (.yield l)=>bd (rd l) λblk=>match blk with
       | .loop _ _ _ _ ps _ _ _=>cond (Nat.beq ps.length args.length) (ret (.round l args)) fail
       | _=>fail
     | _=>fail
def opt (T:Tmps):Option Operand→Option (Option AV)
 | none=>some none
 | some x=>match ev T x with
   | some v=>some (some v)
   | none=>none
def qYw (t:TypeId) (x:AV):Option AV:=match P.underlying t,x with
 | some (.array n _),.slc b o len _ _=>cond (Nat.ble n len&&Nat.blt 0 len) (some (.ptr b o)) none
 | _,_=>none
def opA (T:Tmps) (o:Op):M ANext:=
 let v (m:M AV):M ANext:=bd m λx=>ret (.val x)
 let u (m:M Unit):M ANext:=bd m λ_=>ret (.val .undef)
 let e1 (x:Operand) (k:AV→M AV):M ANext:=match ev T x with | some a=>v (k a) | none=>fail
 let e2 (x y:Operand) (k:AV→AV→M AV):M ANext:=match ev T x,ev T y with | some a,some b=>v (k a b) | _,_=>fail
 match o with
 | .move x | .assign x=>e1 x ret
 | .pick c a b=>match ev T c with
   | some (.bool t)=>cond t (e1 a ret) (e1 b ret)
   | _=>fail
 | .alloc t=>v (qME P t)
 | .box t x=>e1 x (boxA t)
 | .build t ps=>match qDn T ps.toList with | some l=>v (lift (qOV P t l)) | none=>fail
 | .buildSlice t n ps=>match qDn T ps.toList with | some l=>v (qD8 P t n l) | none=>fail
 | .load t a=>match a with
   | .global g=>v (qKB P t g)
   | a=>e1 a λp=>match p with | .ptr b o=>qFa P t b o | _=>fail
 | .store t a x=>match ev T a,ev T x with | some a,some b=>u (qJd P t a b) | _,_=>fail
 | .nilCheck x=>e1 x λa=>lift (qAH a)
 | .binOp op t x y _=>e2 x y λa b=>lift (binA P op t x y a b)
 | .unOp op _ x=>e1 x λa=>lift (qBd op a)
 | .convert s d x=>e1 x λa=>lift (qF1 P s d a)
 | .makeInterface t x=>e1 x λa=>lift (qF9 P t a)
 | .makeFunc f first cap=>match f with
   | .func _=>match evs T first.toList,evs T cap.toList with
     | some a,some b=>ret (.val (.fn f a b))
     | _,_=>fail
   | .method _=>match evs T first.toList,evs T cap.toList with
     | some a,some b=>ret (.val (.fn f a b))
     | _,_=>fail
   | _=>fail
 | .sliceToArrayPointer t x=>e1 x λa=>lift (qYw P t a)
 | .makeSlice t l c=>e2 l c λa b=>qEP P t a b
 | .slice t x lo hi mx=>match ev T x,opt T lo,opt T hi,opt T mx with
   | some x,some lo,some hi,some mx=>v (qGk P t x lo hi mx)
   | _,_,_,_=>fail
 | .fieldAddr s x f=>e1 x λa=>lift (qDG P s a f)
 | .field t x f=>e1 x λa=>lift (qOc P t a f)
 | .indexAddr t x i=>e2 x i λa b=>lift (qDe P t a b)
 | .index t x i=>e2 x i λa b=>lift (qLK P t a b)
 | .typeAssert x _ a ok=>e1 x λv=>lift (qEA P v a ok)
 | .extract x i=>e1 x λv=>lift (qAN v i)
 | .makeMap t r=>match P.underlying t,opt T r with
   | some (.map _ _),some none=>v qMb
   | some (.map _ _),some (some (.int _ _))=>v qMb
   | _,_=>fail
 | .lookup t x k ok=>e2 x k λa b=>qE7 P t a b ok
 | .mapUpdate t m k x=>match ev T m,ev T k,ev T x with
   | some m,some k,some x=>u (qDF P t m k x)
   | _,_,_=>fail
 | .insert t m k x=>match ev T m,ev T k,ev T x with
   | some m,some k,some x=>u (qDF P t m k x)
   | _,_,_=>fail
 | .range t x=>e1 x (qMy P t)
 | .entry x=>e1 x qNr
 | .call c=>qH9 P T c
 | _=>fail
abbrev Td:=FuncId→Option (List AV→M AV)
def noExt:Td:=λ_=>none
inductive AExit where
 | nrm
 | exit (id:Nat)
 | ret
inductive Task where
 | code (nt:Nat) (rnd:Option Nat) (c:Code) (T:Tmps) (ms:List Mk)
 | call (f:FuncId) (args:List AV)
 | round (l:Nat) (args:List AV)
inductive Out where
 | exit (e:AExit) (T:Tmps) (ms:List Mk)
 | val (v:AV)
def qCT (ops:List Oper) (T:Tmps):Option (Nat × Bool)→Option Bool
 | none=>some true
 | some (j,w)=>match ops[j]? with
   | some o=>match o.dst with
     | some d=>match T.get d with
       | some (.bool b)=>some (b == w)
       | some (.opq _)=>none
       | _=>some false
     | none=>some false
   | none=>some false
def tget' (T:Tmps) (i:Nat):AV:=match T.get i with | some v=>v | none=>.undef
def setT (nt:Nat) (T:Tmps) (dst:Option Tmp) (v:AV):Option Tmps:=
 match dst with
 | none=>some T
 | some d=>cond (Nat.blt d nt) (some (T.put d (some v))) none
def outVal (m:M Out):M AV:=bd m λo=>match o with | .val v=>ret v | _=>fail
def qE5 (ih:Task→M Out):ANext→M AV
 | .val v=>ret v
 | .enter f args=>outVal (ih (.call f args))
 | .round l args=>outVal (ih (.round l args))
def qDc (ih:Task→M Out) (all:List Oper) (o:Oper) (T:Tmps):M AV:=
 match qCT all T o.guard with
 | some true=>bd (opA P T o.op) (qE5 ih)
 | some false=>ret .undef
 | none=>fail
def qJ5 (ih:Task→M Out) (nt:Nat) (all:List Oper) (o:Oper) (T:Tmps):M Tmps:=
 bd (qDc P ih all o T) λv=>lift (setT nt T o.dst v)
def opsA (ih:Task→M Out) (nt:Nat) (all:List Oper):List Oper→Tmps→M Tmps
 | [],T=>ret T
 | o :: os,T=>bd (qJ5 P ih nt all o T) λT=>opsA ih nt all os T
def masks:List Oper→List Nat→List Nat
 | [],acc=>acc
 | o :: os,acc=>masks os (acc ++ [o.after.toList.foldl (λs e=>cond (Region.binds .any e) (s ||| (2 ^ e.on ||| acc.getD e.on 0)) s) 0])
def qND (e:Nat × Bool):List (Nat × Bool)→Bool
 | []=>false
 | f :: fs=>(Nat.beq e.1 f.1&&(e.2||f.2))||qND e fs
def clash:List (Nat × Bool)→List (Nat × Bool)→Bool
 | [],_=>false
 | e :: es,fs=>qND e fs||clash es fs
def against (all:Array Oper) (o:Oper) (mk:Nat) (es:List (Nat × Bool)):List (Oper × List (Nat × Bool))→Nat→Bool
 | [],_=>true
 | p :: ps,i=>(Nat.testBit mk i||(Oper.apart all p.1 o&&!clash p.2 es))&&against all o mk es ps (i+1)
def opsD (ih:Task→M Out) (nt:Nat) (all:Array Oper):List Oper→List Nat→List (Oper × List (Nat × Bool))→Tmps→M Tmps
 | o :: os,mk :: mks,done,T=>bd (capture (qJ5 P ih nt all.toList o T)) λr=>
   cond (against all o mk r.2 done 0) (opsD ih nt all os mks (done ++ [(o,r.2)]) r.1) fail
 | [],_,_,T=>ret T
 | _,_,_,_=>fail
def qJe:List Oper→Nat→Bool
 | [],_=>true
 | o :: os,i=>(o.after.toList.all λe=>!Region.binds .any e||Nat.blt e.on i)&&qJe os (i+1)
def qDM (ops:List Oper):Bool:=qJe ops 0&&ops.all λo=>match o.op with | .select ..=>false | .defer _=>false | _=>true
def qC7 (T:Tmps):List ResultVar→M (List AV)
 | []=>ret []
 | .tmp t :: rs=>bd (qC7 T rs) λvs=>ret ((match T.get t with | some v=>v | none=>.undef) :: vs)
 | .cell a t :: rs=>match T.get a with
   | some (.ptr b o)=>bd (qFa P t b o) λv=>bd (qC7 T rs) λvs=>ret (v :: vs)
   | _=>fail
def qUi (c:Code):Option (Tmp × Code):=match c with
 | .seq (.region _ ops false) rest=>match ops.toList with
   | [⟨some t,.call ⟨.builtin .recover,⟨[]⟩,_⟩,_,_,_,none⟩]=>some (t,rest)
   | _=>none
 | _=>none
def qRG (fn:Func) (T:Tmps) (c:Code):Option (Code × Tmps):=match qUi c with
 | some (t,rest)=>cond (Nat.blt t fn.ntmps) (some (rest,T.put t (some .nilIface))) none
 | none=>some (c,T)
def qPH:Out→M Unit
 | .exit .nrm _ []=>ret ()
 | .exit .ret _ []=>ret ()
 | _=>fail
def qL4 (ih:Task→M Out) (k:FuncId) (args:List AV):M Unit:=
 match P.funcs[k]? with
 | some fn=>match fn.body,fn.results.toList with
   | some c,[]=>cond (Nat.ble args.length fn.ntmps) (match qRG fn (Tr.ofListAt .nil 0 args) c with
     | some p=>bd (ih (.code fn.ntmps none p.1 p.2 [])) qPH
     | none=>fail) fail
   | _,_=>fail
 | none=>fail
def qBw (ih:Task→M Out):List Mk→M Unit
 | []=>ret ()
 | .mark r :: rs=>bd (rd r) λblk=>match blk with
   | .deferred true=>bd (wr r (.deferred false)) λ_=>qBw ih rs
   | _=>fail
 | .call k args :: rs=>bd (qL4 P ih k args) λ_=>qBw ih rs
def qC1:List Oper→Option (List Oper × Call)
 | []=>none
 | o :: os=>match os with
   | []=>match o with
     | ⟨none,.defer c,_,_,_,none⟩=>some ([],c)
     | _=>none
   | _ :: _=>match qC1 os with
     | some p=>some (o :: p.1,p.2)
     | none=>none
def qL0 (T:Tmps) (c:Call):Option Mk:=match c.callee with
 | .value f=>match evs T c.args.toList,ev T f with
   | some as',some (.fn (.func k) first cap)=>cond (isFn P k) (some (.call k (first ++ as' ++ cap))) none
   | _,_=>none
 | _=>none
def qEm (nt:Nat):Tmps→List Tmp→List AV→Option Tmps
 | T,[],[]=>some T
 | T,p :: ps,v :: vs=>cond (Nat.blt p nt) (qEm nt (T.put p (some v)) ps vs) none
 | _,_,_=>none
def qNs (rnd:Option Nat):M (Nat × List Nat):=
 match rnd with
 | some l=>bd (rd l) λblk=>match blk with
   | .loop _ _ _ _ _ _ _ d=>ret (d,[])
   | _=>fail
 | none=>bd (nw (.deferred true)) λr=>ret (r,[r])
def oneV:List AV→AV
 | [v]=>v
 | vs=>.tup vs
def eqFn:Fn→Fn→Bool
 | .func k,.func k'=>Nat.beq k k'
 | f,f'=>decide (f=f')
mutual
def eqA:AV→AV→Bool
 | .bool a,.bool b=>a == b
 | .int k a,.int k' b=>qCQ k k'&&eqI a b
 | .str a,.str b=>decide (a=b)
 | .ptr b o,.ptr b' o'=>Nat.beq b b'&&Nat.beq o o'
 | .nilptr,.nilptr=>true
 | .slc b o l c e,.slc b' o' l' c' e'=>Nat.beq b b'&&(Nat.beq o o'&&(Nat.beq l l'&&((match c,c' with | none,none=>true | some c,some c'=>Nat.beq c c' | _,_=>false)&&Nat.beq e e')))
 | .nilslc,.nilslc=>true
 | .map b,.map b'=>Nat.beq b b'
 | .nilmap,.nilmap=>true
 | .fn f a c,.fn f' a' c'=>eqFn f f'&&(eqAs a a'&&eqAs c c')
 | .yield l,.yield l'=>Nat.beq l l'
 | .nilFunc,.nilFunc=>true
 | .ifc t v,.ifc t' v'=>Nat.beq t t'&&eqA v v'
 | .nilIface,.nilIface=>true
 | .agg l,.agg l'=>eqAs l l'
 | .tup l,.tup l'=>eqAs l l'
 | .opq i,.opq j=>Nat.beq i j
 | _,_=>false
def eqAs:List AV→List AV→Bool
 | [],[]=>true
 | x :: xs,y :: ys=>eqA x y&&eqAs xs ys
 | _,_=>false
end
mutual
def qFT:AV→AV→Option AV
 | .agg l,.agg l'=>(qKI l l').map .agg
 | .tup l,.tup l'=>(qKI l l').map .tup
 | a,b=>cond (eqA a b) (some a) (cond (a.one&&b.one) (some (.opq 0)) none)
def qKI:List AV→List AV→Option (List AV)
 | [],[]=>some []
 | x :: xs,y :: ys=>match qFT x y,qKI xs ys with
   | some z,some zs=>some (z :: zs)
   | _,_=>none
 | _,_=>none
end
def qQT:Option AV→Option AV→Option (Option AV)
 | none,none=>some none
 | a,b=>(qFT (a.getD .undef) (b.getD .undef)).map some
def qVC:Tmps→Option Tmps
 | .nil=>some .nil
 | .node v l r=>match qQT none v,qVC l,qVC r with
   | some v,some l,some r=>some (.node v l r)
   | _,_,_=>none
def qU3:Tmps→Option Tmps
 | .nil=>some .nil
 | .node v l r=>match qQT v none,qU3 l,qU3 r with
   | some v,some l,some r=>some (.node v l r)
   | _,_,_=>none
def qRf:Tmps→Tmps→Option Tmps
 | .nil,t=>qVC t
 | t,.nil=>qU3 t
 | .node v l r,.node v' l' r'=>match qQT v v',qRf l l',qRf r r' with
   | some v,some l,some r=>some (.node v l r)
   | _,_,_=>none
def zABG:Option AV→Option AV→Option AV
 | some a,some b=>cond (a.one&&b.one) (qFT a b) none
 | _,_=>none
def qRs:Tmps→Tmps→Tmps
 | .node v l r,.node v' l' r'=>.node (zABG v v') (qRs l l') (qRs r r')
 | _,_=>.nil
def eqEs:List AEnt→List AEnt→Bool
 | [],[]=>true
 | e :: es,e' :: es'=>eqA e.key e'.key&&(eqA e.val e'.val&&(Nat.beq e.born e'.born&&eqEs es es'))
 | _,_=>false
def qZk:ABlk→ABlk→Option ABlk
 | .cells e c n,.cells e' c' n'=>cond (Nat.beq e e'&&Nat.beq n n') (some (.cells e (qRs c c') n)) none
 | .map es k,.map es' k'=>cond (eqEs es es'&&Nat.beq k k') (some (.map es k)) none
 | .deferred b,.deferred b'=>cond (b == b') (some (.deferred b)) none
 | _,_=>none
def qMG (id:Nat):ABlk→List AH→Option ABlk
 | b,[]=>some b
 | b,K :: Ks=>match K.blks.get id with
   | some b'=>match qZk b b' with
     | some b=>qMG id b Ks
     | none=>none
   | none=>none
def qIL (K:AH) (Ks:List AH):List (Nat × Bool)→Tr ABlk→Tr ABlk
 | [],t=>t
 | (id,true) :: es,t=>qIL K Ks es (t.put id (match K.blks.get id with | some b=>qMG id b Ks | none=>none))
 | (_,false) :: es,t=>qIL K Ks es t
def eqE:AExit→AExit→Bool
 | .nrm,.nrm=>true
 | .exit i,.exit j=>Nat.beq i j
 | .ret,.ret=>true
 | _,_=>false
def eqMs:List Mk→List Mk→Bool
 | [],[]=>true
 | .mark x :: xs,.mark y :: ys=>Nat.beq x y&&eqMs xs ys
 | .call k a :: xs,.call k' a' :: ys=>Nat.beq k k'&&(eqAs a a'&&eqMs xs ys)
 | _,_=>false
def qDz (e:AExit) (ms:List Mk):Tmps→List (Out × AH)→Option Tmps
 | T,[]=>some T
 | T,(.exit e' T' ms',_) :: r=>cond (eqE e e'&&eqMs ms ms') (match qRf T T' with | some T=>qDz e ms T r | none=>none) none
 | _,_=>none
def qEZ:Nat→List AH→Nat
 | n,[]=>n
 | n,K :: Ks=>cond (Nat.ble n K.next) (qEZ K.next Ks) (qEZ n Ks)
def logs:List AH→List (Nat × Bool)
 | []=>[]
 | K :: Ks=>K.log ++ logs Ks
def qEB (H:AH):List (Out × AH)→Option (Out × AH)
 | []=>none
 | (o,K) :: r=>match r with
   | []=>some (o,{ K with log:=K.log ++ H.log })
   | _ :: _=>match o with
     | .exit e T ms=>match qDz e ms T r with
       | some T=>some (.exit e T ms,{ blks:=qIL K (r.map (·.2)) (logs (K :: r.map (·.2))) H.blks,next:=qEZ K.next (r.map (·.2)),lo:=H.lo,log:=logs (K :: r.map (·.2)) ++ H.log })
       | none=>none
     | _=>none
abbrev N (α:Type):=AH→Option (List (α × AH))
def oneN {α:Type} (m:M α):N α:=λH=>match m H with | none=>none | some r=>some [r]
def allN {α β:Type} (f:α→N β):List (α × AH)→Option (List (β × AH))
 | []=>some []
 | (a,K) :: r=>match f a K with
   | none=>none
   | some l=>match allN f r with
     | none=>none
     | some l'=>some (l ++ l')
def bdN {α β:Type} (m:N α) (f:α→N β):N β:=λH=>match m H with | none=>none | some l=>allN f l
def qOq {α:Type} (H:AH):List α→List (α × AH)
 | []=>[]
 | a :: as=>(a,H) :: qOq H as
def zAAh {α:Type} (l:List α):N α:=λH=>some (qOq H l)
structure MapStep where
 it:Tmp
 nx:Tmp
 more:Tmp
 rest:Code
def qCb (b:Code):Option MapStep:=match b with
 | .seq (.region _ ops false) rest=>match ops.toList with
   | [⟨some nx,.next (.tmp it) false,_,_,_,none⟩,⟨some more,.extract (.tmp nx') 0,_,_,_,none⟩]=>cond (Nat.beq nx nx') (some ⟨it,nx,more,rest⟩) none
   | _=>none
 | _=>none
def qIe (since:Nat):List AEnt→Bool
 | []=>true
 | e :: es=>Nat.blt e.born since&&qIe since es
def qGb (seen:List Nat):List AEnt→List AEnt
 | []=>[]
 | e :: es=>cond (hasN e.born seen) (qGb seen es) (e :: qGb seen es)
structure IterD where
 b:Nat
 m:Nat
 since:Nat
 seen:List Nat
 clock:Nat
def qT2 (x:AV):M (IterD × List AEnt):=match x with
 | .ptr r 0=>bd (rd r) λblk=>match blk with
   | .iter none _ _ _=>ret (⟨r,0,0,[],0⟩,[])
   | .iter (some m) since seen stepped=>bd (rd m) λblk=>match blk with
     | .map es clock=>cond (Nat.ble since stepped&&qIe since es) (ret (⟨r,m,since,seen,clock⟩,qGb seen es)) fail
     | _=>fail
   | _=>fail
 | _=>fail
def qVu (d:IterD) (e:AEnt):M Unit:=wr d.b (.iter (some d.m) d.since (d.seen ++ [e.born]) d.clock)
def qCJ (ih:Task→M Out) (nt:Nat) (rnd:Option Nat) (s:MapStep):Nat→Tmps→List Mk→N Out
 | 0,_,_=>λ_=>none
 | k+1,T,ms=>bdN (oneN (qT2 (tget' T s.it))) λh=>match h.2 with
   | []=>oneN (bd (ih (.code nt rnd s.rest ((T.put s.nx (some (.tup [.bool false]))).put s.more (some (.bool false))) ms)) λo=>match o with
     | .exit .nrm _ _=>fail
     | o=>ret o)
   | e :: es=>bdN (zAAh (e :: es)) λe=>bdN (oneN (bd (qVu h.1 e) λ_=>ih (.code nt rnd s.rest ((T.put s.nx (some (.tup [.bool true,e.key,e.val]))).put s.more (some (.bool true))) ms))) λo=>match o with
     | .exit .nrm T ms=>qCJ ih nt rnd s k T ms
     | o=>oneN (ret o)
def qIN (ih:Task→M Out) (nt:Nat) (rnd:Option Nat) (s:MapStep) (T:Tmps) (ms:List Mk):M Out:=cond (Nat.blt s.nx nt&&Nat.blt s.more nt) (λH=>
 match qCJ ih nt rnd s 1000 T ms { H with log:=[] } with
 | none=>none
 | some L=>qEB H L) fail
def qBF (ih:Task→M Out) (nt:Nat) (rnd:Option Nat) (c:Code) (T:Tmps) (ms:List Mk):M Out:=
 match c with
 | .skip=>ret (.exit .nrm T ms)
 | .region _ ops draw=>match cond draw none (qC1 ops.toList) with
   | some p=>match rnd with
     | none=>bd (opsA P ih nt ops.toList p.1 T) λT=>match qL0 P T p.2 with
       | some m=>ret (.exit .nrm T (m :: ms))
       | none=>fail
     | some _=>fail
   | none=>bd (cond draw (cond (qDM ops.toList) (opsD P ih nt ops ops.toList (masks ops.toList []) [] T) fail) (opsA P ih nt ops.toList ops.toList T)) λT=>ret (.exit .nrm T ms)
 | .seq a b=>bd (ih (.code nt rnd a T ms)) λo=>match o with
   | .exit .nrm T ms=>ih (.code nt rnd b T ms)
   | o=>ret o
 | .cond c a b=>match ev T c with
   | some (.bool t)=>ih (.code nt rnd (cond t a b) T ms)
   | _=>fail
 | .block id b=>bd (ih (.code nt rnd b T ms)) λo=>match o with
   | .exit (.exit id') T ms=>cond (Nat.beq id' id) (ret (.exit .nrm T ms)) (ret (.exit (.exit id') T ms))
   | o=>ret o
 | .loop b=>match qCb b with
   | some s=>qIN ih nt rnd s T ms
   | none=>bd (ih (.code nt rnd b T ms)) λo=>match o with
     | .exit .nrm T ms=>ih (.code nt rnd (.loop b) T ms)
     | o=>ret o
 | .exit id=>ret (.exit (.exit id) T ms)
 | .ret=>ret (.exit .ret T ms)
 | .rangeFunc f ps assign body=>match ev T f with
   | some (.fn (.func k) first cap)=>cond (isFn P k) (
     bd (qNs rnd) λdm=>bd (nw (.loop .ready none nt T ps.toList assign body dm.1)) λl=>
     bd (outVal (ih (.call k (first ++ [.yield l] ++ cap)))) λ_=>bd (rd l) λblk=>match blk with
     | .loop st pend nt' T' ps' as' bo' d'=>match st with
       | .busy=>fail
       | _=>bd (wr l (.loop .exhausted pend nt' T' ps' as' bo' d')) λ_=>match pend with
         | none=>ret (.exit .nrm T (dm.2.map .mark ++ ms))
         | some c=>ih (.code nt rnd c T (dm.2.map .mark ++ ms))
     | _=>fail) fail
   | _=>fail
 | _=>fail
def qCV (ih:Task→M Out) (f:FuncId) (args:List AV):M Out:=
 match P.funcs[f]? with
 | some fn=>match fn.body with
   | some c=>cond (Nat.ble args.length fn.ntmps) (bd (ih (.code fn.ntmps none c (Tr.ofListAt .nil 0 args) [])) λo=>match o with
     | .exit e T ms=>match e with
       | .exit _=>fail
       | _=>bd (qBw P ih ms) λ_=>bd (qC7 P T fn.results.toList) λvs=>ret (.val (oneV vs))
     | _=>fail) fail
   | none=>fail
 | none=>fail
def qEY (l:Nat) (e:AExit):M Out:=bd (rd l) λblk=>match blk with
 | .loop _ _ a2 a3 a4 a5 a6 a7=>match e with
   | .nrm=>bd (wr l (.loop .ready none a2 a3 a4 a5 a6 a7)) λ_=>ret (.val (.bool true))
   | .ret=>bd (wr l (.loop .done (some .ret) a2 a3 a4 a5 a6 a7)) λ_=>ret (.val (.bool false))
   | .exit id=>bd (wr l (.loop .done (some (.exit id)) a2 a3 a4 a5 a6 a7)) λ_=>ret (.val (.bool false))
 | _=>fail
def qL7 (l:Nat):M Unit:=bd (rd l) λblk=>match blk with
 | .loop .ready pd a2 a3 a4 a5 a6 a7=>wr l (.loop .busy pd a2 a3 a4 a5 a6 a7)
 | _=>fail
def qFF (ih:Task→M Out) (l:Nat) (args:List AV):M Out:=
 bd (rd l) λblk=>match blk with
 | .loop _ _ nt T ps assign body _=>match qEm nt T ps args with
   | some T=>bd (ih (.code nt (some l) assign T [])) λo=>match o with
     | .exit .nrm T []=>bd (qL7 l) λ_=>bd (ih (.code nt (some l) body T [])) λo=>match o with
       | .exit e _ _=>qEY l e
       | _=>fail
     | _=>fail
   | none=>fail
 | _=>fail
def qJW (X:Td) (ih:Task→M Out):Task→M Out
 | .code nt rnd c T ms=>qBF P ih nt rnd c T ms
 | .call f args=>match X f with
   | some g=>bd (g args) λv=>ret (.val v)
   | none=>qCV P ih f args
 | .round l args=>qFF ih l args
def run (X:Td):Nat→Task→M Out
 | 0,_=>fail
 | n+1,t=>qJW P X (run X n) t
end
end Go.AM
namespace Go.AM
open Go
theorem Tr.get_nil {α:Type} (i:Nat):(Tr.nil:Tr α).get i=none:=by cases i <;> rfl
theorem qSZ {α:Type} {p q:Prop} [Decidable p] [Decidable q] {a b:α} (h:p↔q):(if p then a else b)=if q then a else b:=by
 by_cases hp:p <;> simp [hp,h.symm] <;> simp_all
theorem Tr.get_setF {α:Type}:∀ (f:Nat) (t:Tr α) (i:Nat) (x:Option α) (j:Nat),i < f→(Tr.setF f t i x).get j=if i=j then x else t.get j:=by
 intro f
 induction f with
 | zero=>intro t i x j h;omega
 | succ f ih=>
   intro t i x j h
   have key:∀ a b:Nat,a+1=b+1↔(Nat.beq (a % 2) 0=Nat.beq (b % 2) 0∧a / 2=b / 2):=by
    intro a b
    constructor
    ·intro h;have:a=b:=by omega
     subst this;exact ⟨rfl,rfl⟩
    ·rintro ⟨h1,h2⟩
     have:(a % 2=0)↔(b % 2=0):=by
      constructor
      ·intro h;rw [h] at h1;exact bE (h1.symm.trans rfl)
      ·intro h;rw [h] at h1;exact bE (h1.trans rfl)
     omega
   cases t with
   | nil=>
     cases i with
     | zero=>cases j <;> simp [Tr.setF,Tr.get]
     | succ i=>
       have hi:i / 2 < f:=by omega
       cases j with
       | zero=>cases hb:Nat.beq (i % 2) 0 <;> simp [Tr.setF,Tr.get,hb]
       | succ j=>
         have k:=key i j
         rw [qSZ k,Tr.get_nil]
         cases hb:Nat.beq (i % 2) 0 <;> cases hc:Nat.beq (j % 2) 0 <;> simp [Tr.setF,Tr.get,hb,hc,ih _ _ _ _ hi]
   | node v l r=>
     cases i with
     | zero=>cases j <;> simp [Tr.setF,Tr.get]
     | succ i=>
       have hi:i / 2 < f:=by omega
       cases j with
       | zero=>cases hb:Nat.beq (i % 2) 0 <;> simp [Tr.setF,Tr.get,hb]
       | succ j=>
         have k:=key i j
         rw [qSZ k]
         cases hb:Nat.beq (i % 2) 0 <;> cases hc:Nat.beq (j % 2) 0 <;> simp [Tr.setF,Tr.get,hb,hc,ih _ _ _ _ hi]
theorem Tr.get_put {α:Type} (t:Tr α) (i:Nat) (x:Option α) (j:Nat):(t.put i x).get j=if i=j then x else t.get j:=
 Tr.get_setF (i+1) t i x j (by omega)
theorem Tr.get_ofListAt {α:Type}:∀ (l:List α) (t:Tr α) (o i:Nat),(Tr.ofListAt t o l).get i=if o≤i∧i < o+l.length then l[i - o]? else t.get i:=by
 intro l
 induction l with
 | nil=>intro t o i;simp [Tr.ofListAt];intro h1 h2;omega
 | cons x xs ih=>
   intro t o i
   simp only [Tr.ofListAt,ih,Tr.set,Tr.get_put,List.length_cons]
   by_cases h:o=i
   ·subst h;rw [if_neg (by omega),if_pos rfl,if_pos (by omega)];simp
   ·by_cases h1:o+1≤i∧i < o+1+xs.length
    ·rw [if_pos h1,if_pos (by omega)]
     have:i - o=(i - (o+1))+1:=by omega
     rw [this,g1Y]
    ·rw [if_neg h1,if_neg h,if_neg (by omega)]
theorem qA6 {β:Type} (n:Nat) (k:Nat→β):frcN n k=k n:=by cases n <;> rfl
theorem qDL {β:Type} (n:Int) (k:Int→β):frc n k=k n:=by cases n <;> simp [frc,qA6]
theorem qIZ (x y:Int):ltI x y=decide (x < y):=by
 rw [Bool.eq_iff_iff]
 cases x <;> cases y <;> simp [ltI,Nat.blt_eq] <;> omega
theorem qGn (x y:Int):eqI x y=(x == y):=by
 rw [Bool.eq_iff_iff]
 cases x <;> cases y <;> simp [eqI] <;> omega
theorem qGo (m h:Nat) (n:Int) (hh:h≤m) (h0:0 < h):qNW m h n=(if (n % (m:Int)) ≥ (h:Int) then n % (m:Int) - m else n % (m:Int)):=by
 have hm:0 < m:=by omega
 cases n with
 | ofNat a=>
   simp only [qNW]
   have e:(Int.ofNat a) % (m:Int)=((a % m:Nat):Int):=by simp
   rw [e]
   have hr:=Nat.mod_lt a hm
   cases h1:Nat.blt a h with
   | true=>
     have:a < h:=by simpa [Nat.blt_eq] using h1
     have:a % m=a:=Nat.mod_eq_of_lt (by omega)
     rw [this,if_neg (by omega)];rfl
   | false=>
     simp only [cond_false]
     cases h2:Nat.blt (a % m) h with
     | true=>
       have:a % m < h:=by simpa [Nat.blt_eq] using h2
       rw [if_neg (by omega)];rfl
     | false=>
       have:¬ (a % m < h):=by rw [← Nat.blt_eq,h2];simp
       rw [if_pos (by omega)]
       simp only [cond_false,Int.negSucc_eq];omega
 | negSucc a=>
   simp only [qNW]
   have hr:=Nat.mod_lt a hm
   have e:(Int.negSucc a) % (m:Int)=((m - 1 - a % m:Nat):Int):=by
    rw [Int.negSucc_emod a (by omega)]
    have:(a:Int) % (m:Int)=((a % m:Nat):Int):=by simp
    omega
   rw [e]
   have hr2:m - 1 - a % m < m:=by omega
   generalize m - 1 - a % m=r at *
   cases h2:Nat.blt r h with
   | true=>
     have:r < h:=by simpa [Nat.blt_eq] using h2
     rw [if_neg (by omega)];rfl
   | false=>
     have:¬ (r < h):=by rw [← Nat.blt_eq,h2];simp
     rw [if_pos (by omega)]
     simp only [cond_false,Int.negSucc_eq];omega
theorem qCH (k:IntKind) (n:Int):qB7 k n=k.wrap n:=by
 cases k <;> simp only [qB7] <;> rw [qGo _ _ _ (by omega) (by omega)] <;> simp [IntKind.wrap,IntKind.bits,IntKind.signed] <;> omega
end Go.AM
namespace Go.AM
open Go
structure Does (es:List (Nat × Bool)) (H H':AH):Prop where
 log:H'.log=es ++ H.log
 next:H.next≤H'.next
 lo:H'.lo=H.lo
 same:∀ id,(id,true) ∉ es→H'.blks.get id=H.blks.get id
 touch:∀ id b,(id,b)∈es→H.blks.get id≠none∨(H.next≤id∧id < H'.next)
 wlo:∀ id,(id,true)∈es→H.lo≤id
 gone:∀ id,H'.blks.get id≠none→H.blks.get id≠none∨(H.next≤id∧id < H'.next)
def Fr {α:Type} (m:M α):Prop:=∀ H1 a H1',m H1=some (a,H1')→∃ es,Does es H1 H1'∧
 ∀ H2:AH,H2.next=H1.next→H2.lo≤H1.lo→(∀ id b,(id,b)∈es→H2.blks.get id=H1.blks.get id)→
  ∃ H2',m H2=some (a,H2')∧Does es H2 H2'∧H2'.next=H1'.next∧∀ id b,(id,b)∈es→H2'.blks.get id=H1'.blks.get id
theorem Does.refl (H:AH):Does [] H H:=⟨rfl,Nat.le_refl _,rfl,λ_ _=>rfl,by simp,by simp,λ_ h=>Or.inl h⟩
theorem Does.trans {es1 es2:List (Nat × Bool)} {H H' H'':AH} (h1:Does es1 H H') (h2:Does es2 H' H''):Does (es2 ++ es1) H H'':=
 ⟨by rw [h2.log,h1.log,List.append_assoc],Nat.le_trans h1.next h2.next,h2.lo.trans h1.lo,λid hid=>by
  rw [h2.same id (λh=>hid (by simp [h])),h1.same id (λh=>hid (by simp [h]))],
  λid b hb=>by
   have n1:=h1.next
   have n2:=h2.next
   rcases mP hb with hb | hb
   ·rcases h2.touch id b hb with h | h
    ·rcases h1.gone id h with h | h
     ·exact Or.inl h
     ·exact Or.inr ⟨h.1,by omega⟩
    ·exact Or.inr ⟨by omega,h.2⟩
   ·rcases h1.touch id b hb with h | h
    ·exact Or.inl h
    ·exact Or.inr ⟨h.1,by omega⟩,
  λid hb=>by
   rcases mP hb with hb | hb
   ·rw [← h1.lo];exact h2.wlo id hb
   ·exact h1.wlo id hb,
  λid h=>by
   have n1:=h1.next
   have n2:=h2.next
   rcases h2.gone id h with h | h
   ·rcases h1.gone id h with h | h
    ·exact Or.inl h
    ·exact Or.inr ⟨h.1,by omega⟩
   ·exact Or.inr ⟨by omega,h.2⟩⟩
variable {α β:Type}
theorem qBD (a:α):Fr (ret a):=by
 intro H1 x H1' h
 simp only [ret,Option.some.injEq,Prod.mk.injEq] at h
 obtain ⟨rfl,rfl⟩:=h
 exact ⟨[],.refl _,λH2 hn _ _=>⟨H2,rfl,.refl _,hn,by simp⟩⟩
theorem qAs:Fr (fail:M α):=by intro H1 x H1' h;simp [fail] at h
theorem qIH (o:Option α):Fr (lift o):=by
 cases o with
 | none=>intro H1 x H1' h;simp [lift] at h
 | some a=>exact qBD a
theorem qCB {m:M α} {f:α→M β} (hm:Fr m) (hf:∀ a,Fr (f a)):Fr (bd m f):=by
 intro H1 b H1'' h
 unfold bd at h
 cases h1:m H1 with
 | none=>simp [h1] at h
 | some p=>
   obtain ⟨a,H1'⟩:=p
   simp only [h1] at h
   obtain ⟨es1,d1,k1⟩:=hm H1 a H1' h1
   obtain ⟨es2,d2,k2⟩:=hf a H1' b H1'' h
   refine ⟨es2 ++ es1,d1.trans d2,λH2 hn hl hag=>?_⟩
   obtain ⟨H2',e1,d1',n1,g1⟩:=k1 H2 hn hl (λid b hb=>hag id b (by simp [hb]))
   have hmid:∀ id b,(id,b)∈es2→H2'.blks.get id=H1'.blks.get id:=by
    intro id b hb
    by_cases hin:∃ c,(id,c)∈es1
    ·obtain ⟨c,hc⟩:=hin;exact g1 id c hc
    ·rw [d1'.same id (λh=>hin ⟨_,h⟩),d1.same id (λh=>hin ⟨_,h⟩)]
     exact hag id b (by simp [hb])
   obtain ⟨H2'',e2,d2',n2,g2⟩:=k2 H2' n1 (by rw [d1'.lo,d1.lo];exact hl) hmid
   refine ⟨H2'',by simp [bd,e1,e2],d1'.trans d2',n2,λid b hb=>?_⟩
   by_cases hin:∃ c,(id,c)∈es2
   ·obtain ⟨c,hc⟩:=hin;exact g2 id c hc
   ·rw [d2'.same id (λh=>hin ⟨_,h⟩),d2.same id (λh=>hin ⟨_,h⟩)]
    rcases mP hb with hb | hb
    ·exact absurd ⟨_,hb⟩ hin
    ·exact g1 id b hb
theorem qGw (id:Nat):Fr (rd id):=by
 intro H1 x H1' h
 unfold rd at h
 cases h1:H1.blks.get id with
 | none=>simp [h1] at h
 | some b=>
   simp only [h1,Option.some.injEq,Prod.mk.injEq] at h
   obtain ⟨rfl,rfl⟩:=h
   have key:∀ H:AH,H.blks.get id=some b→Does [(id,false)] H { H with log:=(id,false) :: H.log }:=λH hH=>
    ⟨rfl,Nat.le_refl _,rfl,λ_ _=>rfl,λi c hc=>by
     simp only [List.mem_singleton,Prod.mk.injEq] at hc
     obtain ⟨rfl,rfl⟩:=hc
     rw [hH];simp,by simp,λ_ h=>Or.inl h⟩
   refine ⟨[(id,false)],key _ h1,λH2 hn hl hag=>?_⟩
   have e:=hag id false (by simp)
   refine ⟨{ H2 with log:=(id,false) :: H2.log },by simp [rd,e,h1],key _ (by rw [e,h1]),hn,λi c hc=>?_⟩
   simp only [List.mem_singleton,Prod.mk.injEq] at hc
   obtain ⟨rfl,rfl⟩:=hc
   exact e
theorem qYN (id:Nat) (x:Option ABlk):Fr (λH:AH=>cond (Nat.ble H.lo id) (match H.blks.get id with | none=>none | some _=>some ((),{ H with blks:=H.blks.put id x,log:=(id,true) :: H.log })) none):=by
 intro H1 u H1' h
 cases hlo:Nat.ble H1.lo id with
 | false=>simp [hlo] at h
 | true=>
   simp only [hlo,cond_true] at h
   cases h1:H1.blks.get id with
   | none=>simp [h1] at h
   | some b=>
     simp only [h1,Option.some.injEq,Prod.mk.injEq] at h
     obtain ⟨_,rfl⟩:=h
     have key:∀ H:AH,H.blks.get id=some b→H.lo≤id→Does [(id,true)] H { H with blks:=H.blks.put id x,log:=(id,true) :: H.log }:=λH hH hl=>
      ⟨rfl,Nat.le_refl _,rfl,λi hi=>by
       have:id≠i:=λe=>hi (by simp [e])
       simp [Tr.get_put,this],λi c hc=>by
       simp only [List.mem_singleton,Prod.mk.injEq] at hc
       obtain ⟨rfl,rfl⟩:=hc
       rw [hH];simp,λi hi=>by
       simp only [List.mem_singleton,Prod.mk.injEq] at hi
       rw [hi.1];exact hl,λi hi=>by
       by_cases e:id=i
       ·subst e;rw [hH];simp
       ·simp [Tr.get_put,e] at hi;exact Or.inl hi⟩
     have hle:H1.lo≤id:=Nat.le_of_ble_eq_true hlo
     refine ⟨[(id,true)],key _ h1 hle,λH2 hn hl hag=>?_⟩
     have e:=hag id true (by simp)
     have hlo2:Nat.ble H2.lo id=true:=bL (Nat.le_trans hl hle)
     refine ⟨_,by simp only [hlo2,cond_true,e,h1],key _ (by rw [e,h1]) (Nat.le_trans hl hle),hn,λi c hc=>?_⟩
     simp only [List.mem_singleton,Prod.mk.injEq] at hc
     obtain ⟨rfl,rfl⟩:=hc
     simp [Tr.get_put]
theorem qPm (id:Nat) (b:ABlk):Fr (wr id b):=qYN id (some b)
theorem qZO (id:Nat):Fr (kill id):=qYN id none
theorem qVA (b:ABlk):Fr (nw b):=by
 intro H1 n H1' h
 unfold nw at h
 simp only [qA6] at h
 cases hlo:Nat.ble H1.lo H1.next with
 | false=>simp [hlo] at h
 | true=>
   simp only [hlo,cond_true,Option.some.injEq,Prod.mk.injEq] at h
   obtain ⟨rfl,rfl⟩:=h
   have key:∀ H:AH,H.lo≤H.next→Does [(H.next,true)] H { H with blks:=H.blks.put H.next (some b),next:=H.next+1,log:=(H.next,true) :: H.log }:=λH hl=>
    ⟨rfl,Nat.le_succ _,rfl,λi hi=>by
     have:H.next≠i:=λe=>hi (by simp [e])
     simp [Tr.get_put,this],λi c hc=>by
     simp only [List.mem_singleton,Prod.mk.injEq] at hc
     obtain ⟨rfl,rfl⟩:=hc
     exact Or.inr ⟨Nat.le_refl _,Nat.lt_succ_self _⟩,λi hi=>by
     simp only [List.mem_singleton,Prod.mk.injEq] at hi
     rw [hi.1];exact hl,λi hi=>by
     by_cases e:H.next=i
     ·subst e;exact Or.inr ⟨Nat.le_refl _,Nat.lt_succ_self _⟩
     ·simp [Tr.get_put,e] at hi;exact Or.inl hi⟩
   have hle:H1.lo≤H1.next:=Nat.le_of_ble_eq_true hlo
   refine ⟨_,key _ hle,λH2 hn hl hag=>?_⟩
   have hle2:H2.lo≤H2.next:=by rw [hn];exact Nat.le_trans hl hle
   have hlo2:Nat.ble H2.lo H1.next=true:=bL (Nat.le_trans hl hle)
   refine ⟨{ H2 with blks:=H2.blks.put H2.next (some b),next:=H2.next+1,log:=(H2.next,true) :: H2.log },by simp [nw,qA6,hn,hlo2],by rw [← hn];exact key _ hle2,by simp [hn],λi c hc=>?_⟩
   simp only [List.mem_singleton,Prod.mk.injEq] at hc
   obtain ⟨rfl,rfl⟩:=hc
   simp [Tr.get_put,hn]
theorem qTi {m:M α} (hm:Fr m):Fr (capture m):=by
 intro H1 r H1' h
 unfold capture at h
 cases h1:m { H1 with log:=[] } with
 | none=>simp [h1] at h
 | some p=>
   obtain ⟨a,K⟩:=p
   simp only [h1,Option.some.injEq,Prod.mk.injEq] at h
   obtain ⟨rfl,rfl⟩:=h
   obtain ⟨es,d,k⟩:=hm _ a K h1
   have hlog:K.log=es:=by simpa using d.log
   refine ⟨es,⟨by simp [hlog],d.next,d.lo,d.same,d.touch,d.wlo,d.gone⟩,λH2 hn hl hag=>?_⟩
   obtain ⟨K2,e2,d2,n2,g2⟩:=k { H2 with log:=[] } hn hl hag
   have hlog2:K2.log=es:=by simpa using d2.log
   exact ⟨{ K2 with log:=es ++ H2.log },by simp [capture,e2,hlog,hlog2],⟨rfl,d2.next,d2.lo,d2.same,d2.touch,d2.wlo,d2.gone⟩,n2,g2⟩
theorem qBr (b:Bool) {x y:M α} (hx:Fr x) (hy:Fr y):Fr (cond b x y):=by cases b <;> assumption
theorem qPu {m:M α} (hm:Fr m) {H:AH} {a:α} {es:List (Nat × Bool)} {H':AH} (h:capture m H=some ((a,es),H')) :
  Does es H H'∧(∃ K,m { H with log:=[] }=some (a,K)∧K.blks=H'.blks∧K.next=H'.next∧K.lo=H'.lo)∧
  ∀ H2:AH,H2.next=H.next→H2.lo≤H.lo→(∀ id b,(id,b)∈es→H2.blks.get id=H.blks.get id)→
   ∃ H2',m H2=some (a,H2')∧Does es H2 H2'∧H2'.next=H'.next∧∀ id b,(id,b)∈es→H2'.blks.get id=H'.blks.get id:=by
 unfold capture at h
 cases h1:m { H with log:=[] } with
 | none=>simp [h1] at h
 | some p=>
   obtain ⟨a',K⟩:=p
   simp only [h1,Option.some.injEq,Prod.mk.injEq] at h
   obtain ⟨⟨rfl,rfl⟩,rfl⟩:=h
   obtain ⟨es,d,k⟩:=hm _ a' K h1
   have hlog:K.log=es:=by simpa using d.log
   rw [hlog]
   exact ⟨⟨rfl,d.next,d.lo,d.same,d.touch,d.wlo,d.gone⟩,⟨K,rfl,rfl,rfl,rfl⟩,λH2 hn hl hag=>k H2 hn hl hag⟩
inductive All2 {α β:Type} (R:α→β→Prop):List α→List β→Prop where
 | nil:All2 R [] []
 | cons {a:α} {b:β} {l:List α} {m:List β}:R a b→All2 R l m→All2 R (a :: l) (b :: m)
theorem All2.append {α β:Type} {R:α→β→Prop} {a c:List α} {b d:List β} (h:All2 R a b) (k:All2 R c d):All2 R (a ++ c) (b ++ d):=by
 induction h with
 | nil=>exact k
 | cons h _ ih=>exact .cons h ih
theorem All2.mem {α β:Type} {R:α→β→Prop} {a:List α} {b:List β} (h:All2 R a b):∀ y∈b,∃ x∈a,R x y:=by
 induction h with
 | nil=>intro y hy;cases hy
 | cons h _ ih=>
   intro y hy
   rcases mC hy with rfl | hy
   ·exact ⟨_,List.mem_cons_self,h⟩
   ·obtain ⟨x,hx,hr⟩:=ih y hy;exact ⟨x,mO _ hx,hr⟩
theorem Does.uniq {es es':List (Nat × Bool)} {H H':AH} (h:Does es H H') (k:Does es' H H'):es=es':=List.append_cancel_right (h.log.symm.trans k.log)
structure WayR {γ:Type} (H1 H2:AH) (p q:γ × AH):Prop where
 out:q.1=p.1
 next:q.2.next=p.2.next
 does:∀ es,Does es H1 p.2→Does es H2 q.2∧∀ id b,(id,b)∈es→q.2.blks.get id=p.2.blks.get id
def FrN {γ:Type} (m:N γ):Prop:=∀ H1 L,m H1=some L→L≠[]∧(∀ p∈L,∃ es,Does es H1 p.2)∧
 ∀ H2:AH,H2.next=H1.next→H2.lo≤H1.lo→(∀ p∈L,∀ es,Does es H1 p.2→∀ id b,(id,b)∈es→H2.blks.get id=H1.blks.get id)→
  ∃ L2,m H2=some L2∧All2 (WayR H1 H2) L L2
theorem qW9 {γ:Type}:FrN (λ_=>none:N γ):=λ_ _ h=>by cases h
theorem qLs {γ:Type} {m:M γ} (hm:Fr m):FrN (oneN m):=by
 intro H1 L h
 unfold oneN at h
 cases h1:m H1 with
 | none=>simp [h1] at h
 | some r=>
   obtain ⟨a,K⟩:=r
   simp only [h1,Option.some.injEq] at h
   subst h
   obtain ⟨es,d,k⟩:=hm H1 a K h1
   refine ⟨by simp,λp hp=>⟨es,by simp at hp;subst hp;exact d⟩,λH2 hn hl hag=>?_⟩
   obtain ⟨K2,e2,d2,n2,g2⟩:=k H2 hn hl (hag (a,K) (by simp) es d)
   refine ⟨[(a,K2)],by simp [oneN,e2],.cons ⟨rfl,n2,λes' d'=>?_⟩ .nil⟩
   rw [d'.uniq d];exact ⟨d2,g2⟩
theorem Does.nil_of_refl {es:List (Nat × Bool)} {H:AH} (h:Does es H H):es=[]:=h.uniq (.refl H)
theorem qYD {γ:Type} (a:γ) (l:List γ):FrN (zAAh (a :: l)):=by
 intro H1 L h
 have h:some (qOq H1 (a :: l))=some L:=h
 cases h
 have hmem:∀ (l:List γ) (H:AH) p,p∈qOq H l→p.2=H:=by
  intro l H p
  induction l with
  | nil=>intro h;cases h
  | cons b l ih=>intro h;rcases mC h with rfl | h;rfl;exact ih h
 refine ⟨by simp [qOq],λp hp=>⟨[],by rw [hmem _ _ p hp];exact .refl _⟩,λH2 hn hl _=>⟨qOq H2 (a :: l),rfl,?_⟩⟩
 generalize a :: l=l
 induction l with
 | nil=>exact .nil
 | cons b l ih=>exact .cons ⟨rfl,hn,λes d=>by rw [d.nil_of_refl];exact ⟨.refl _,by simp⟩⟩ ih
theorem qY7 {γ δ:Type} {f:γ→N δ} (hf:∀ a,FrN (f a)) {H1:AH}:∀ (l:List (γ × AH)) (L:List (δ × AH)),(∀ p∈l,∃ es,Does es H1 p.2)→allN f l=some L→
  (l≠[]→L≠[])∧(∀ p∈L,∃ es,Does es H1 p.2)∧(∀ p∈l,∀ es,Does es H1 p.2→∃ q∈L,∃ es',Does (es' ++ es) H1 q.2)∧
   ∀ H2:AH,H2.next=H1.next→(∀ p∈L,∀ es,Does es H1 p.2→∀ id b,(id,b)∈es→H2.blks.get id=H1.blks.get id)→H2.lo≤H1.lo→
   ∀ l2,All2 (WayR H1 H2) l l2→∃ L2,allN f l2=some L2∧All2 (WayR H1 H2) L L2:=by
 intro l
 induction l with
 | nil=>
   intro L _ h
   cases h
   refine ⟨λh=>absurd rfl h,by simp,by simp,λH2 _ _ _ l2 h2=>?_⟩
   cases h2
   exact ⟨[],rfl,.nil⟩
 | cons p l ih=>
   obtain ⟨a,K⟩:=p
   intro L hl h
   unfold allN at h
   cases h1:f a K with
   | none=>simp [h1] at h
   | some lq=>
     simp only [h1] at h
     cases h2:allN f l with
     | none=>simp [h2] at h
     | some Lr=>
       simp only [h2,Option.some.injEq] at h
       subst h
       obtain ⟨eK,dK⟩:=hl (a,K) (by simp)
       obtain ⟨q1,q2,q3⟩:=hf a K lq h1
       obtain ⟨r1,r2,r4,r3⟩:=ih Lr (λp hp=>hl p (by simp [hp])) h2
       refine ⟨λ_=>?_,λp hp=>?_,λp hp es d=>?_,λH2 hn hag hlo l2 hl2=>?_⟩
       ·intro e;exact q1 (List.append_eq_nil_iff.1 e).1
       ·rcases mP hp with hp | hp
        ·obtain ⟨es',d'⟩:=q2 p hp;exact ⟨es' ++ eK,dK.trans d'⟩
        ·exact r2 p hp
       ·rcases mC hp with rfl | hp
        ·cases hlq:lq with
         | nil=>exact absurd hlq q1
         | cons q lq'=>
           obtain ⟨es',d'⟩:=q2 q (by rw [hlq];simp)
           exact ⟨q,by simp,es',d.trans d'⟩
        ·obtain ⟨q,hq,es',d'⟩:=r4 p hp es d
         exact ⟨q,by simp [hq],es',d'⟩
       ·cases hl2 with
        | @cons _ b _ l2' hR hl2'=>
          obtain ⟨b1,K2⟩:=b
          obtain ⟨h3,h4,h5⟩:=hR
          simp only at h3 h4 h5
          subst h3
          obtain ⟨d2,g2⟩:=h5 eK dK
          have mid:∀ p∈lq,∀ es,Does es K p.2→∀ id b,(id,b)∈es→K2.blks.get id=K.blks.get id:=by
           intro p hp es d id b hb
           by_cases hin:∃ c,(id,c)∈eK
           ·obtain ⟨c,hc⟩:=hin;exact g2 id c hc
           ·rw [d2.same id (λh=>hin ⟨_,h⟩),dK.same id (λh=>hin ⟨_,h⟩)]
            exact hag p (by simp [hp]) _ (dK.trans d) id b (by simp [hb])
          obtain ⟨lq2,e2,a2⟩:=q3 K2 h4 (by rw [d2.lo,dK.lo];exact hlo) mid
          obtain ⟨L2,e3,a3⟩:=r3 H2 hn (λp hp=>hag p (by simp [hp])) hlo l2' hl2'
          refine ⟨lq2 ++ L2,by unfold allN;simp [e2,e3],All2.append ?_ a3⟩
          have conv:∀ p q,p∈lq→WayR K K2 p q→WayR H1 H2 p q:=by
           intro p q hp ⟨o1,o2,o3⟩
           refine ⟨o1,o2,λes d=>?_⟩
           obtain ⟨es',d'⟩:=q2 p hp
           obtain ⟨d3,g3⟩:=o3 es' d'
           rw [d.uniq (dK.trans d')]
           refine ⟨d2.trans d3,λid b hb=>?_⟩
           by_cases hin:∃ c,(id,c)∈es'
           ·obtain ⟨c,hc⟩:=hin;exact g3 id c hc
           ·rw [d3.same id (λh=>hin ⟨_,h⟩),d'.same id (λh=>hin ⟨_,h⟩)]
            rcases mP hb with hb | hb
            ·exact absurd ⟨_,hb⟩ hin
            ·exact g2 id b hb
          have:∀ (u:List (δ × AH)) (v:List (δ × AH)),(∀ p∈u,p∈lq)→All2 (WayR K K2) u v→All2 (WayR H1 H2) u v:=by
           intro u v hu huv
           induction huv with
           | nil=>exact .nil
           | cons h _ ih2=>exact .cons (conv _ _ (hu _ (by simp)) h) (ih2 λp hp=>hu p (by simp [hp]))
          exact this lq lq2 (λ_ h=>h) a2
theorem qU8 {γ δ:Type} {m:N γ} {f:γ→N δ} (hm:FrN m) (hf:∀ a,FrN (f a)):FrN (bdN m f):=by
 intro H1 L h
 unfold bdN at h
 cases h1:m H1 with
 | none=>simp [h1] at h
 | some l=>
   simp only [h1] at h
   obtain ⟨a1,a2,a3⟩:=hm H1 l h1
   obtain ⟨b1,b2,b4,b3⟩:=qY7 hf l L a2 h
   refine ⟨b1 a1,b2,λH2 hn hl hag=>?_⟩
   obtain ⟨l2,e2,r2⟩:=a3 H2 hn hl (λp hp es d id b hb=>by
    obtain ⟨q,hq,es',d'⟩:=b4 p hp es d
    exact hag q hq _ d' id b (by simp [hb]))
   obtain ⟨L2,e3,r3⟩:=b3 H2 hn hag hl l2 r2
   exact ⟨L2,by simp [bdN,e2,e3],r3⟩
def qNT (K:AH) (Ks:List AH) (id:Nat):Option ABlk:=match K.blks.get id with | some b=>qMG id b Ks | none=>none
theorem qCX (K:AH) (Ks:List AH):∀ (es:List (Nat × Bool)) (t:Tr ABlk) (i:Nat),((i,true)∈es→(qIL K Ks es t).get i=qNT K Ks i)∧((i,true) ∉ es→(qIL K Ks es t).get i=t.get i):=by
 intro es
 induction es with
 | nil=>intro t i;exact ⟨by simp,λ_=>rfl⟩
 | cons e es ih=>
   obtain ⟨id,b⟩:=e
   intro t i
   cases b with
   | false=>
     obtain ⟨h1,h2⟩:=ih t i
     exact ⟨λh=>h1 (by simpa using h),λh=>h2 (by simpa using h)⟩
   | true=>
     obtain ⟨h1,h2⟩:=ih (t.put id (qNT K Ks id)) i
     refine ⟨λh=>?_,λh=>?_⟩
     ·by_cases hi:(i,true)∈es
      ·exact h1 hi
      ·have:i=id:=by rcases mC h with h | h;(injection h with h _);exact absurd h hi
       subst this
       refine (h2 hi).trans ?_
       rw [Tr.get_put,if_pos rfl]
     ·have hne:id≠i:=λe=>h (by simp [e])
      refine (h2 λhi=>h (by simp [hi])).trans ?_
      rw [Tr.get_put,if_neg hne]
theorem qPw (id:Nat):∀ (Ks Ks2:List AH) (b:ABlk),All2 (λK K2:AH=>K2.blks.get id=K.blks.get id) Ks Ks2→qMG id b Ks2=qMG id b Ks:=by
 intro Ks Ks2 b h
 induction h generalizing b with
 | nil=>rfl
 | cons h _ ih=>
   unfold qMG
   rw [h]
   split
   ·split
    ·exact ih _
    ·rfl
   ·rfl
theorem qOT (Ks:List AH):∀ n,n≤qEZ n Ks∧∀ K∈Ks,K.next≤qEZ n Ks:=by
 induction Ks with
 | nil=>intro n;exact ⟨Nat.le_refl _,by simp⟩
 | cons K Ks ih=>
   intro n
   unfold qEZ
   cases h:Nat.ble n K.next with
   | true=>
     simp only [cond_true]
     have:=Nat.le_of_ble_eq_true h
     obtain ⟨h1,h2⟩:=ih K.next
     exact ⟨by omega,λJ hJ=>by rcases mC hJ with rfl | hJ;exact h1;exact h2 J hJ⟩
   | false=>
     simp only [cond_false]
     have:¬ n≤K.next:=λe=>by rw [bL e] at h;cases h
     obtain ⟨h1,h2⟩:=ih n
     exact ⟨h1,λJ hJ=>by rcases mC hJ with rfl | hJ;omega;exact h2 J hJ⟩
theorem qPG:∀ (Ks Ks2:List AH) (n:Nat),All2 (λK K2:AH=>K2.next=K.next) Ks Ks2→qEZ n Ks2=qEZ n Ks:=by
 intro Ks Ks2 n h
 induction h generalizing n with
 | nil=>rfl
 | cons h _ ih=>unfold qEZ;rw [h,ih,ih]
theorem qMe {Ks:List AH} {e:Nat × Bool}:e∈logs Ks↔∃ K∈Ks,e∈K.log:=by
 induction Ks with
 | nil=>simp [logs]
 | cons K Ks ih=>simp [logs,ih]
theorem qTr:∀ (Ks Ks2:List AH),All2 (λK K2:AH=>K2.log=K.log) Ks Ks2→logs Ks2=logs Ks:=by
 intro Ks Ks2 h
 induction h with
 | nil=>rfl
 | cons h _ ih=>unfold logs;rw [h,ih]
theorem All2.imp {α β:Type} {R S:α→β→Prop} {l:List α} {m:List β} (h:All2 R l m) (k:∀ a b,a∈l→R a b→S a b):All2 S l m:=by
 induction h with
 | nil=>exact .nil
 | cons h _ ih=>exact .cons (k _ _ (by simp) h) (ih λa b ha=>k a b (by simp [ha]))
theorem All2.map {α β γ δ:Type} {f:α→γ} {g:β→δ} {S:γ→δ→Prop} {l:List α} {m:List β} (h:All2 (λa b=>S (f a) (g b)) l m):All2 S (l.map f) (m.map g):=by
 induction h with
 | nil=>exact .nil
 | cons h _ ih=>exact .cons h ih
theorem qOB {e:AExit} {ms:List Mk}:∀ (r r2:List (Out × AH)) (T:Tmps),All2 (λp q:Out × AH=>q.1=p.1) r r2→qDz e ms T r2=qDz e ms T r:=by
 intro r r2 T h
 induction h generalizing T with
 | nil=>rfl
 | @cons p q l m h _ ih=>
   obtain ⟨o,K⟩:=p
   obtain ⟨o2,K2⟩:=q
   simp only at h
   subst h
   cases o2 with
   | val v=>rfl
   | exit e' T' ms'=>
     unfold qDz
     cases qRf T T' with
     | none=>rfl
     | some T1=>simp only [ih]
theorem qQy {H:AH} {K:AH} {Ks:List AH} (hd:∀ J∈K :: Ks,Does J.log { H with log:=[] } J) :
  Does (logs (K :: Ks)) H { blks:=qIL K Ks (logs (K :: Ks)) H.blks,next:=qEZ K.next Ks,lo:=H.lo,log:=logs (K :: Ks) ++ H.log }:=by
 have hmax:∀ J∈K :: Ks,J.next≤qEZ K.next Ks:=λJ hJ=>by
  obtain ⟨h1,h2⟩:=qOT Ks K.next
  rcases mC hJ with rfl | hJ
  ·exact h1
  ·exact h2 J hJ
 refine ⟨rfl,Nat.le_trans (hd K (by simp)).next (hmax K (by simp)),rfl,λid hid=>(qCX K Ks _ _ id).2 hid,λid b hb=>?_,λid hb=>?_,λid h=>?_⟩
 ·obtain ⟨J,hJ,hb⟩:=qMe.1 hb
  rcases (hd J hJ).touch id b hb with h | h
  ·exact Or.inl h
  ·exact Or.inr ⟨h.1,Nat.lt_of_lt_of_le h.2 (hmax J hJ)⟩
 ·obtain ⟨J,hJ,hb⟩:=qMe.1 hb
  exact (hd J hJ).wlo id hb
 ·by_cases hid:(id,true)∈logs (K :: Ks)
  ·have h':qNT K Ks id≠none:=by rw [← (qCX K Ks _ _ id).1 hid];exact h
   have:K.blks.get id≠none:=by
    intro e
    unfold qNT at h'
    rw [e] at h'
    exact h' rfl
   rcases (hd K (by simp)).gone id this with h | h
   ·exact Or.inl h
   ·exact Or.inr ⟨h.1,Nat.lt_of_lt_of_le h.2 (hmax K (by simp))⟩
  ·exact Or.inl (by rw [← (qCX K Ks _ _ id).2 hid];exact h)
def qWa (m:N Out):M Out:=λH=>match m { H with log:=[] } with
 | none=>none
 | some L=>qEB H L
theorem qXp {m:N Out} (hm:FrN m):Fr (qWa m):=by
 intro H1 o H1' h
 unfold qWa at h
 cases h1:m { H1 with log:=[] } with
 | none=>simp [h1] at h
 | some L=>
   simp only [h1] at h
   obtain ⟨a1,a2,a3⟩:=hm _ L h1
   have hdoes:∀ p∈L,Does p.2.log { H1 with log:=[] } p.2:=by
    intro p hp
    obtain ⟨es,d⟩:=a2 p hp
    have:p.2.log=es:=by simpa using d.log
    rw [this];exact d
   match L,h,hdoes,a3,h1 with
   | [],h,_,_,_=>exact absurd rfl a1
   | [(o1,K)],h,hdoes,a3,h1=>
     simp only [qEB,Option.some.injEq,Prod.mk.injEq] at h
     obtain ⟨rfl,rfl⟩:=h
     have d:=hdoes (o1,K) (by simp)
     refine ⟨K.log,⟨rfl,d.next,d.lo,d.same,d.touch,d.wlo,d.gone⟩,λH2 hn hl hag=>?_⟩
     obtain ⟨L2,e2,r2⟩:=a3 { H2 with log:=[] } hn hl (λp hp es d' id b hb=>by
      simp only [List.mem_singleton] at hp
      subst hp
      rw [d'.uniq d] at hb
      exact hag id b hb)
     cases r2 with
     | @cons _ q _ _ hR hr=>
       cases hr
       obtain ⟨o2,K2⟩:=q
       obtain ⟨x1,x2,x3⟩:=hR
       simp only at x1
       subst x1
       obtain ⟨d2,g2⟩:=x3 _ d
       have hlog:K2.log=K.log:=by simpa using d2.log
       exact ⟨{ K2 with log:=K2.log ++ H2.log },by simp [qWa,e2,qEB],⟨by rw [hlog],d2.next,d2.lo,d2.same,d2.touch,d2.wlo,d2.gone⟩,x2,g2⟩
   | (o1,K) :: p :: r,h,hdoes,a3,h1=>
     cases o1 with
     | val v=>simp [qEB] at h
     | exit e T ms=>
       unfold qEB at h
       simp only at h
       cases hj:qDz e ms T (p :: r) with
       | none=>simp [hj] at h
       | some T1=>
         simp only [hj,Option.some.injEq,Prod.mk.injEq] at h
         obtain ⟨rfl,rfl⟩:=h
         have hd:∀ J∈K :: (p :: r).map (·.2),Does J.log { H1 with log:=[] } J:=by
          intro J hJ
          rcases mC hJ with rfl | hJ
          ·exact hdoes (.exit e T ms,J) (by simp)
          ·obtain ⟨q,hq,rfl⟩:=List.mem_map.1 hJ
           exact hdoes q (mO _ hq)
         refine ⟨_,qQy hd,λH2 hn hl hag=>?_⟩
         have hag':∀ p'∈((Out.exit e T ms,K) :: p :: r),∀ id b,(id,b)∈p'.2.log→H2.blks.get id=H1.blks.get id:=by
          intro p' hp id b hb
          refine hag id b (qMe.2 ⟨p'.2,?_,hb⟩)
          rcases mC hp with rfl | hp
          ·simp
          ·exact mO _ (List.mem_map.2 ⟨p',hp,rfl⟩)
         obtain ⟨L2,e2,r2⟩:=a3 { H2 with log:=[] } hn hl (λp' hp es d' id b hb=>by
          rw [d'.uniq (hdoes p' hp)] at hb
          exact hag' p' hp id b hb)
         have full:All2 (λp' q:Out × AH=>q.1=p'.1∧q.2.next=p'.2.next∧q.2.log=p'.2.log∧Does q.2.log { H2 with log:=[] } q.2∧∀ id,(id,true)∈logs (K :: (p :: r).map (·.2))∨(∃ b,(id,b)∈logs (K :: (p :: r).map (·.2)))→q.2.blks.get id=p'.2.blks.get id) ((Out.exit e T ms,K) :: p :: r) L2:=by
          refine r2.imp λp' q hp hR=>?_
          obtain ⟨d2,g2⟩:=hR.does _ (hdoes p' hp)
          have hlog:q.2.log=p'.2.log:=by simpa using d2.log
          refine ⟨hR.out,hR.next,hlog,by rw [hlog];exact d2,λid hid=>?_⟩
          have hid:∃ b,(id,b)∈logs (K :: (p :: r).map (·.2)):=by rcases hid with h | h;exact ⟨_,h⟩;exact h
          obtain ⟨b,hb⟩:=hid
          by_cases hin:∃ c,(id,c)∈p'.2.log
          ·obtain ⟨c,hc⟩:=hin;exact g2 id c hc
          ·rw [d2.same id (λh=>hin ⟨_,h⟩),(hdoes p' hp).same id (λh=>hin ⟨_,h⟩)]
           exact hag id b hb
         cases full with
         | @cons _ q _ L3 hq hL3=>
           obtain ⟨o2,K2⟩:=q
           obtain ⟨x1,x2,x3,x4,x5⟩:=hq
           simp only at x1 x2 x3 x4 x5
           subst x1
           cases hL3 with
           | @cons _ q2 _ L4 hq2 hL4=>
             have hall:All2 (λp' q:Out × AH=>q.1=p'.1∧q.2.next=p'.2.next∧q.2.log=p'.2.log∧Does q.2.log { H2 with log:=[] } q.2∧∀ id,(id,true)∈logs (K :: (p :: r).map (·.2))∨(∃ b,(id,b)∈logs (K :: (p :: r).map (·.2)))→q.2.blks.get id=p'.2.blks.get id) (p :: r) (q2 :: L4):=.cons hq2 hL4
             have j2:qDz e ms T (q2 :: L4)=some T1:=by rw [qOB (p :: r) (q2 :: L4) T (hall.imp λ_ _ _ h=>h.1)];exact hj
             have l2:logs (K2 :: (q2 :: L4).map (·.2))=logs (K :: (p :: r).map (·.2)):=qTr _ _ (.cons x3 ((hall.imp λ_ _ _ h=>h.2.2.1).map))
             have n2:qEZ K2.next ((q2 :: L4).map (·.2))=qEZ K.next ((p :: r).map (·.2)):=by rw [x2];exact qPG _ _ _ ((hall.imp λ_ _ _ h=>h.2.1).map)
             have hd2:∀ J∈K2 :: (q2 :: L4).map (·.2),Does J.log { H2 with log:=[] } J:=by
              intro J hJ
              rcases mC hJ with rfl | hJ
              ·exact x4
              ·obtain ⟨q,hq,rfl⟩:=List.mem_map.1 hJ
               obtain ⟨p',_,h⟩:=hall.mem q hq
               exact h.2.2.2.1
             refine ⟨_,by unfold qWa;simp only [e2];unfold qEB;simp only [j2];rfl,by rw [← l2];exact qQy hd2,n2,λid b hb=>?_⟩
             simp only [l2]
             by_cases hid:(id,true)∈logs (K :: (p :: r).map (·.2))
             ·rw [(qCX _ _ _ _ id).1 hid,(qCX _ _ _ _ id).1 hid]
              unfold qNT
              rw [x5 id (Or.inl hid)]
              split
              ·exact qPw id _ _ _ ((hall.imp λ_ _ _ h=>h.2.2.2.2 id (Or.inl hid)).map)
              ·rfl
             ·rw [(qCX _ _ _ _ id).2 hid,(qCX _ _ _ _ id).2 hid]
              exact hag id b hb
section
variable (P : Program)
theorem qGJ (elem:TypeId) (cs:List AV):Fr (qB0 elem cs):=qBr _ (qVA _) qAs
theorem qU7 (t:TypeId):Fr (qME P t):=by
 unfold qME;split
 ·exact qCB (qGJ _ _) λ_=>qBD _
 ·exact qAs
theorem qZ1 (t:TypeId) (v:AV):Fr (boxA t v):=qCB (qGJ _ _) λ_=>qBD _
theorem qLA (b o n:Nat):Fr (qCk b o n):=qCB (qGw _) λ_=>by split <;> first | exact qIH _ | exact qAs
theorem qMV (t:TypeId) (b o:Nat):Fr (qFa P t b o):=by
 unfold qFa
 repeat' first | exact qAs | exact qIH _ | exact qBD _ | exact qLA _ _ _ | exact qGw _ | (refine qCB ?_ λ_=>?_) | split
theorem qVq (t:TypeId) (g:Nat):Fr (qKB P t g):=by
 unfold qKB
 repeat' first | exact qAs | exact qBD _ | exact qGw _ | (refine qBr _ ?_ ?_) | (refine qCB ?_ λ_=>?_) | split
theorem qFA (b o:Nat) (vs:List AV):Fr (qCR b o vs):=qCB (qGw _) λ_=>by
 split
 ·exact qBr _ (qPm _ _) qAs
 ·exact qAs
theorem qVU (t:TypeId) (p v:AV):Fr (qJd P t p v):=by
 unfold qJd
 repeat' first | exact qAs | exact qFA _ _ _ | (refine qBr _ ?_ ?_) | split
theorem qN5 (t:TypeId) (n:Nat) (l:List (Nat × AV)):Fr (qD8 P t n l):=by
 unfold qD8
 repeat' first | exact qAs | exact qBD _ | exact qGJ _ _ | (refine qBr _ ?_ ?_) | (refine qCB ?_ λ_=>?_) | split
theorem qPR (t:TypeId) (l c:AV):Fr (qEP P t l c):=by
 unfold qEP
 simp only [qA6]
 repeat' first | exact qAs | exact qBD _ | exact qGJ _ _ | (refine qBr _ ?_ ?_) | (refine qCB ?_ λ_=>?_) | split
theorem qVZ (t:TypeId) (x:AV) (lo hi mx:Option AV):Fr (qGk P t x lo hi mx):=by
 unfold qGk
 repeat' first | exact qAs | exact qIH _ | exact qGw _ | (refine qBr _ ?_ ?_) | (refine qCB ?_ λ_=>?_) | split
theorem qPx (es n:Nat) (x:AV):Fr (qJh es n x):=by
 unfold qJh
 repeat' first | exact qAs | exact qBD _ | exact qLA _ _ _ | (refine qBr _ ?_ ?_) | split
theorem qWd (b:Nat) (e:TypeId):Fr (qXm b e):=qCB (qGw _) λ_=>by
 split
 ·exact qBr _ (qZO _) qAs
 ·exact qAs
theorem qT3 (st xt:TypeId) (s x:AV):Fr (qJA P st xt s x):=by
 unfold qJA
 simp only [qA6]
 repeat' first | exact qAs | exact qBD _ | exact qGJ _ _ | exact qPx _ _ _ | exact qFA _ _ _ | exact qWd _ _ | (refine qBr _ ?_ ?_) | (refine qCB ?_ λ_=>?_) | split
theorem qXT (t:TypeId) (d s:AV):Fr (qQt P t d s):=by
 unfold qQt
 simp only [qA6]
 repeat' first | exact qAs | exact qBD _ | exact qPx _ _ _ | exact qFA _ _ _ | (refine qBr _ ?_ ?_) | (refine qCB ?_ λ_=>?_) | split
theorem qZH (t:TypeId) (x:AV):Fr (lenA P t x):=by
 unfold lenA
 simp only [qA6]
 repeat' first | exact qAs | exact qBD _ | exact qGw _ | (refine qCB ?_ λ_=>?_) | split
theorem qWA (t:TypeId) (x:AV):Fr (qLw P t x):=by
 unfold qLw
 repeat' first | exact qAs | exact qBD _ | exact qGw _ | exact qPm _ _ | exact qFA _ _ _ | (refine qBr _ ?_ ?_) | (refine qCB ?_ λ_=>?_) | split
theorem qTe (t:TypeId) (x k:AV) (ok:Bool):Fr (qE7 P t x k ok):=by
 unfold qE7
 repeat' first | exact qAs | exact qBD _ | exact qIH _ | exact qGw _ | (refine qBr _ ?_ ?_) | (refine qCB ?_ λ_=>?_) | split
theorem qPO (t:TypeId) (m k v:AV):Fr (qDF P t m k v):=by
 unfold qDF
 simp only [qA6]
 repeat' first | exact qAs | exact qBD _ | exact qIH _ | exact qGw _ | exact qPm _ _ | (refine qBr _ ?_ ?_) | (refine qCB ?_ λ_=>?_) | split
theorem qTg (t:TypeId) (m k:AV):Fr (qNo P t m k):=by
 unfold qNo
 repeat' first | exact qAs | exact qBD _ | exact qIH _ | exact qGw _ | exact qPm _ _ | (refine qBr _ ?_ ?_) | (refine qCB ?_ λ_=>?_) | split
theorem qUv (t:TypeId) (x:AV):Fr (qMy P t x):=by
 unfold qMy
 repeat' first | exact qAs | exact qBD _ | exact qGw _ | exact qVA _ | (refine qCB ?_ λ_=>?_) | split
theorem qUI (x:AV):Fr (qNr x):=by
 unfold qNr
 repeat' first | exact qAs | exact qBD _ | exact qGw _ | (refine qBr _ ?_ ?_) | (refine qCB ?_ λ_=>?_) | split
theorem qXY (x:AV):Fr (qT2 x):=by
 unfold qT2
 repeat' first | exact qAs | exact qBD _ | exact qGw _ | (refine qBr _ ?_ ?_) | (refine qCB ?_ λ_=>?_) | split
theorem qYe (t:TypeId) (x:APl):Fr (x.get P t):=by
 cases x
 ·exact qBD _
 ·exact qMV _ _ _ _
theorem qX8 (s:FieldStep) (x:APl) (t:TypeId):Fr (qUh P s x t):=by
 unfold qUh
 repeat' first | exact qAs | exact qBD _ | exact qYe _ _ _ | (refine qBr _ ?_ ?_) | (refine qCB ?_ λ_=>?_) | split
theorem qOU:∀ (l:List FieldStep) (t:TypeId) (x:APl),Fr (qO7 P l t x)
 | [],_,_=>qBD _
 | _ :: l,_,_=>qCB (qX8 _ _ _ _) λ_=>qOU l _ _
theorem qP0 (t:TypeId) (x:APl) (b:Bool):Fr (qJf P t x b):=by
 unfold qJf
 repeat' first | exact qAs | exact qBD _ | exact qYe _ _ _ | exact qMV _ _ _ _ | (refine qBr _ ?_ ?_) | (refine qCB ?_ λ_=>?_) | split
theorem qT0 (t:TypeId) (v:AV) (n:String):Fr (qBq P t v n):=by
 unfold qBq
 repeat' first | exact qAs | exact qBD _ | exact qOU _ _ _ _ | exact qP0 _ _ _ _ | (refine qCB ?_ λ_=>?_) | split
theorem qRy (b:Builtin) (ts:List TypeId) (as:List AV):Fr (qE8 P b ts as):=by
 unfold qE8
 split <;> first | exact qAs | exact qT3 _ _ _ _ _ | exact qZH _ _ _ | exact qWA _ _ _ | exact qIH _ | exact qXT _ _ _ _ | exact qTg _ _ _ _
theorem zABF (k:FuncId) (as:List AV):Fr (goA P k as):=qBr _ (qBD _) qAs
theorem qXO (T:Tmps) (c:Call):Fr (qH9 P T c):=by
 unfold qH9
 repeat' first | exact qAs | exact qBD _ | exact qGw _ | (refine qBr _ ?_ ?_) | exact zABF _ _ _ | exact qRy _ _ _ _ | exact qT0 _ _ _ _ | (refine qCB ?_ λ_=>?_) | split
theorem qYQ (T:Tmps) (o:Op):Fr (opA P T o):=by
 unfold opA
 cases o <;> simp only <;> repeat' first | exact qAs | exact qBD _ | exact qIH _ | exact qU7 _ _ | exact qUv _ _ _ | exact qUI _ | exact qZ1 _ _ | exact qN5 _ _ _ _ | exact qMV _ _ _ _ | exact qVq _ _ _ | exact qVU _ _ _ _ | exact qPR _ _ _ _ | exact qVZ _ _ _ _ _ _ | exact qTe _ _ _ _ _ | exact qPO _ _ _ _ _ | exact qXO _ _ _ | (refine qCB ?_ λ_=>?_) | exact qVA _ | (refine qBr _ ?_ ?_) | split | (show Fr (bd (nw _) _))
def FrX (X:Td):Prop:=∀ f g args,X f=some g→Fr (g args)
theorem qWm:FrX noExt:=λ_ _ _ h=>by cases h
theorem qNJ {m:M Out} (h:Fr m):Fr (outVal m):=qCB h λ_=>by split <;> first | exact qBD _ | exact qAs
section
variable {ih : Task → M Out} (hih : ∀ t, Fr (ih t))
include hih
theorem qSx (x:ANext):Fr (qE5 ih x):=by
 unfold qE5
 split <;> first | exact qBD _ | exact qNJ (hih _)
theorem qJl (all:List Oper) (o:Oper) (T:Tmps):Fr (qDc P ih all o T):=by
 unfold qDc
 split
 ·exact qCB (qYQ _ _ _) λ_=>qSx hih _
 ·exact qBD _
 ·exact qAs
theorem qMT (nt:Nat) (all:List Oper) (o:Oper) (T:Tmps):Fr (qJ5 P ih nt all o T):=qCB (qJl P hih _ _ _) λ_=>qIH _
theorem qOr (nt:Nat) (all:List Oper):∀ (l:List Oper) (T:Tmps),Fr (opsA P ih nt all l T)
 | [],_=>qBD _
 | _ :: l,_=>qCB (qMT P hih _ _ _ _) λ_=>qOr nt all l _
theorem qSH (nt:Nat) (all:Array Oper):∀ (l:List Oper) (mks:List Nat) (done:List (Oper × List (Nat × Bool))) (T:Tmps),Fr (opsD P ih nt all l mks done T)
 | [],_,_,_=>qBD _
 | _ :: _,[],_,_=>qAs
 | _ :: l,_ :: mks,_,_=>qCB (qTi (qMT P hih _ _ _ _)) λ_=>qBr _ (qSH nt all l mks _ _) qAs
omit hih in
theorem qGD (T:Tmps):∀ l:List ResultVar,Fr (qC7 P T l)
 | []=>qBD _
 | .tmp _ :: l=>qCB (qGD T l) λ_=>qBD _
 | .cell a t :: l=>by
   unfold qC7
   split
   ·exact qCB (qMV _ _ _ _) λ_=>qCB (qGD T l) λ_=>qBD _
   ·exact qAs
omit hih in
theorem qR8 (o:Out):Fr (qPH o):=by
 unfold qPH
 split <;> first | exact qBD _ | exact qAs
theorem qQr (k:FuncId) (args:List AV):Fr (qL4 P ih k args):=by
 unfold qL4
 repeat' first | exact qAs | exact hih _ | exact qR8 _ | (refine qBr _ ?_ ?_) | (refine qCB ?_ λ_=>?_) | split
theorem qER:∀ l:List Mk,Fr (qBw P ih l)
 | []=>qBD _
 | .mark _ :: l=>qCB (qGw _) λ_=>by
   split
   ·exact qCB (qPm _ _) λ_=>qER l
   ·exact qAs
 | .call _ _ :: l=>qCB (qQr P hih _ _) λ_=>qER l
omit hih in
theorem qQC (r:Option Nat):Fr (qNs r):=by
 unfold qNs
 repeat' first | exact qAs | exact qBD _ | exact qGw _ | exact qVA _ | (refine qCB ?_ λ_=>?_) | split
theorem qEc (nt:Nat) (r:Option Nat) (s:MapStep):∀ (k:Nat) (T:Tmps) (ms:List Mk),FrN (qCJ ih nt r s k T ms)
 | 0,_,_=>qW9
 | k+1,T,ms=>by
   unfold qCJ
   refine qU8 (qLs (qXY _)) λh=>?_
   split
   ·refine qLs (qCB (hih _) λo=>?_)
    split
    ·exact qAs
    ·exact qBD _
   ·refine qU8 (qYD _ _) λe=>qU8 (qLs (qCB (qPm _ _) λ_=>hih _)) λo=>?_
    split
    ·exact qEc nt r s k _ _
    ·exact qLs (qBD _)
theorem qT6 (nt:Nat) (r:Option Nat) (s:MapStep) (T:Tmps) (ms:List Mk):Fr (qIN ih nt r s T ms):=qBr _ (qXp (qEc hih nt r s 1000 T ms)) qAs
theorem qTK (nt:Nat) (r:Option Nat) (c:Code) (T:Tmps) (ms:List Mk):Fr (qBF P ih nt r c T ms):=by
 unfold qBF
 repeat' first | exact qAs | exact qT6 hih _ _ _ _ _ | exact qBD _ | exact hih _ | exact qNJ (hih _) | exact qGw _ | exact qPm _ _ | exact qVA _ | exact qQC _ | exact qSH P hih _ _ _ _ _ _ | exact qOr P hih _ _ _ _ | (refine qBr _ ?_ ?_) | (refine qCB ?_ λ_=>?_) | split
theorem qTR (f:FuncId) (args:List AV):Fr (qCV P ih f args):=by
 unfold qCV
 repeat' first | exact qAs | exact qBD _ | exact hih _ | exact qER P hih _ | exact qGD _ _ _ | (refine qBr _ ?_ ?_) | (refine qCB ?_ λ_=>?_) | split
omit hih in
theorem qLx (l:Nat) (e:AExit):Fr (qEY l e):=by
 unfold qEY
 repeat' first | exact qAs | exact qBD _ | exact qGw _ | exact qPm _ _ | (refine qCB ?_ λ_=>?_) | split
omit hih in
theorem qWS (l:Nat):Fr (qL7 l):=by
 unfold qL7
 repeat' first | exact qAs | exact qBD _ | exact qGw _ | exact qPm _ _ | (refine qCB ?_ λ_=>?_) | split
theorem qRX (l:Nat) (args:List AV):Fr (qFF ih l args):=by
 unfold qFF
 repeat' first | exact qAs | exact qBD _ | exact hih _ | exact qGw _ | exact qWS _ | exact qLx _ _ | (refine qCB ?_ λ_=>?_) | split
theorem qTh {X:Td} (hX:FrX X) (t:Task):Fr (qJW P X ih t):=by
 cases t with
 | code=>exact qTK P hih _ _ _ _ _
 | call f args=>
   show Fr (match X f with
    | some g=>bd (g args) λv=>ret (.val v)
    | none=>qCV P ih f args)
   split
   ·rename_i g hg
    exact qCB (hX f g args hg) λ_=>qBD _
   ·exact qTR P hih _ _
 | round=>exact qRX hih _ _
end
theorem qFo {X:Td} (hX:FrX X):∀ (n:Nat) (t:Task),Fr (run P X n t)
 | 0,_=>qAs
 | n+1,t=>qTh P (qFo hX n) hX t
end
end Go.AM
namespace Go.AM
open Go Go.RowKit
section
variable {α β:Type}
theorem qAR {m:M α} {f:α→M β} {H:AH} {r:β × AH} (h:bd m f H=some r):∃ a H',m H=some (a,H')∧f a H'=some r:=by
 unfold bd at h
 cases h1:m H with
 | none=>simp [h1] at h
 | some p=>obtain ⟨a,H'⟩:=p;simp only [h1] at h;exact ⟨a,H',rfl,h⟩
theorem qAK {a:α} {H:AH} {r:α × AH} (h:ret a H=some r):r=(a,H):=by simp [ret] at h;exact h.symm
theorem qCl {o:Option α} {H:AH} {r:α × AH} (h:lift o H=some r):∃ a,o=some a∧r=(a,H):=by
 cases o with
 | none=>simp [lift] at h
 | some a=>exact ⟨a,rfl,by simp [lift] at h;exact h.symm⟩
theorem qAD {H:AH} {r:α × AH} (h:(fail:M α) H=some r):False:=by simp [fail] at h
theorem qAy {b:Bool} {x:M α} {H:AH} {r:α × AH} (h:cond b x fail H=some r):b=true∧x H=some r:=by
 cases b with
 | true=>exact ⟨rfl,h⟩
 | false=>exact (qAD (H:=H) h).elim
theorem qAY {b:Bool} {x:Option α} {r:α} (h:cond b x none=some r):b=true∧x=some r:=by
 cases b with
 | true=>exact ⟨rfl,h⟩
 | false=>cases h
end
structure Loc where
 blk:Nat
 sh:Nat
 sz:Nat
abbrev Ren:=Nat→Option Loc
def opqR (σ:Nat→Value) (v:Value):Nat→Prop
 | 0=>v.oneCell'=true
 | i+1=>v=σ (i+1)
mutual
def Rel (σ:Nat→Value) (ρ:Ren):AV→Value→Prop
 | .bool b,v=>v=.bool b
 | .int k n,v=>v=.int k n
 | .str s,v=>v=.string s
 | .ptr b o,v=>∃ L,ρ b=some L∧v=.pointer (some ⟨L.blk,L.sh+o,none⟩)
 | .nilptr,v=>v=.pointer none
 | .slc b o len cap es,v=>∃ L a c,ρ b=some L∧v=.slice (some a) len c∧((a=⟨L.blk,L.sh+o,none⟩∧L.sh+o+c * es≤L.sz)∨(len=0∧c=0))∧len≤c∧∀ k,cap=some k→c=k
 | .nilslc,v=>v=.slice none 0 0
 | .map b,v=>∃ L,ρ b=some L∧v=.map (some L.blk)
 | .nilmap,v=>v=.map none
 | .fn f as bs,v=>∃ as' bs':Array Value,v=.func f as' bs'∧RelL σ ρ as as'.toList∧RelL σ ρ bs bs'.toList
 | .yield l,v=>∃ L,ρ l=some L∧v=.func (.yield L.blk) #[] #[]
 | .nilFunc,v=>v=.nilFunc
 | .ifc t x,v=>∃ x',v=.iface t x'∧Rel σ ρ x x'
 | .nilIface,v=>v=.nilIface
 | .agg cs,v=>∃ cs':Array Value,v=.agg cs'∧RelL σ ρ cs cs'.toList
 | .tup cs,v=>∃ cs':Array Value,v=.tuple cs'∧RelL σ ρ cs cs'.toList
 | .opq i,v=>opqR σ v i
def RelL (σ:Nat→Value) (ρ:Ren):List AV→List Value→Prop
 | [],l=>l=[]
 | x :: xs,l=>∃ y ys,l=y :: ys∧Rel σ ρ x y∧RelL σ ρ xs ys
end
def Le (ρ ρ':Ren):Prop:=∀ id L,ρ id=some L→ρ' id=some L
theorem Le.refl (ρ:Ren):Le ρ ρ:=λ_ _ h=>h
theorem Le.trans {a b c:Ren} (h:Le a b) (k:Le b c):Le a c:=λi L x=>k i L (h i L x)
mutual
theorem Rel.mono {σ:Nat→Value} {ρ ρ':Ren} (h:Le ρ ρ'):∀ (x:AV) (v:Value),Rel σ ρ x v→Rel σ ρ' x v
 | .bool _,_,r=>r
 | .int _ _,_,r=>r
 | .str _,_,r=>r
 | .ptr _ _,_,r=>by unfold Rel at r ⊢;obtain ⟨L,h1,h2⟩:=r;exact ⟨L,h _ _ h1,h2⟩
 | .nilptr,_,r=>r
 | .slc _ _ _ _ _,_,r=>by unfold Rel at r ⊢;obtain ⟨L,o,c,h1,h2⟩:=r;exact ⟨L,o,c,h _ _ h1,h2⟩
 | .nilslc,_,r=>r
 | .map _,_,r=>by unfold Rel at r ⊢;obtain ⟨L,h1,h2⟩:=r;exact ⟨L,h _ _ h1,h2⟩
 | .nilmap,_,r=>r
 | .fn _ as bs,_,r=>by unfold Rel at r ⊢;obtain ⟨a,b,h1,h2,h3⟩:=r;exact ⟨a,b,h1,RelL.mono h as _ h2,RelL.mono h bs _ h3⟩
 | .yield _,_,r=>by unfold Rel at r ⊢;obtain ⟨L,h1,h2⟩:=r;exact ⟨L,h _ _ h1,h2⟩
 | .nilFunc,_,r=>r
 | .ifc _ x,_,r=>by unfold Rel at r ⊢;obtain ⟨y,h1,h2⟩:=r;exact ⟨y,h1,Rel.mono h x _ h2⟩
 | .nilIface,_,r=>r
 | .agg cs,_,r=>by unfold Rel at r ⊢;obtain ⟨y,h1,h2⟩:=r;exact ⟨y,h1,RelL.mono h cs _ h2⟩
 | .tup cs,_,r=>by unfold Rel at r ⊢;obtain ⟨y,h1,h2⟩:=r;exact ⟨y,h1,RelL.mono h cs _ h2⟩
 | .opq _,_,r=>r
theorem RelL.mono {σ:Nat→Value} {ρ ρ':Ren} (h:Le ρ ρ'):∀ (x:List AV) (v:List Value),RelL σ ρ x v→RelL σ ρ' x v
 | [],_,r=>r
 | x :: xs,_,r=>by unfold RelL at r ⊢;obtain ⟨y,ys,h1,h2,h3⟩:=r;exact ⟨y,ys,h1,Rel.mono h x _ h2,RelL.mono h xs _ h3⟩
end
section lists
variable {σ:Nat→Value} {ρ:Ren}
theorem RelL.length:∀ {xs:List AV} {ys:List Value},RelL σ ρ xs ys→ys.length=xs.length
 | [],_,r=>by unfold RelL at r;subst r;rfl
 | _ :: xs,_,r=>by unfold RelL at r;obtain ⟨y,ys,rfl,_,h⟩:=r;simp [RelL.length h]
theorem RelL.get:∀ {xs:List AV} {ys:List Value},RelL σ ρ xs ys→∀ (i:Nat) (x:AV),xs[i]?=some x→∃ y,ys[i]?=some y∧Rel σ ρ x y
 | [],_,_,i,x,h=>by simp at h
 | x :: xs,_,r,i,z,h=>by
   unfold RelL at r;obtain ⟨y,ys,rfl,h1,h2⟩:=r
   cases i with
   | zero=>simp at h;subst h;exact ⟨y,rfl,h1⟩
   | succ i=>simp at h ⊢;exact RelL.get h2 i z h
theorem RelL.of_get:∀ {xs:List AV} {ys:List Value},ys.length=xs.length→(∀ (i:Nat) (x:AV) (y:Value),xs[i]?=some x→ys[i]?=some y→Rel σ ρ x y)→RelL σ ρ xs ys
 | [],ys,hl,_=>by unfold RelL;cases ys <;> simp_all
 | x :: xs,ys,hl,h=>by
   cases ys with
   | nil=>simp at hl
   | cons y ys=>unfold RelL;exact ⟨y,ys,rfl,h 0 x y rfl rfl,RelL.of_get (by simpa using hl) λi a b ha hb=>h (i+1) a b (by simpa using ha) (by simpa using hb)⟩
theorem RelL.append {a c:List AV} {b d:List Value} (h:RelL σ ρ a b) (k:RelL σ ρ c d):RelL σ ρ (a ++ c) (b ++ d):=by
 induction a generalizing b with
 | nil=>unfold RelL at h;subst h;exact k
 | cons x xs ih=>unfold RelL at h;obtain ⟨y,ys,rfl,h1,h2⟩:=h;show RelL σ ρ (x :: (xs ++ c)) _;unfold RelL;exact ⟨y,ys ++ d,rfl,h1,ih h2⟩
theorem RelL.take {a:List AV} {b:List Value} (h:RelL σ ρ a b) (n:Nat):RelL σ ρ (a.take n) (b.take n):=by
 refine RelL.of_get (by simp [h.length]) λi x y hx hy=>?_
 rw [List.getElem?_take] at hx hy
 split at hx
 ·rename_i hn
  rw [if_pos hn] at hy
  obtain ⟨z,hz,hr⟩:=h.get i x hx
  rw [hz] at hy;cases hy;exact hr
 ·cases hx
theorem RelL.drop {a:List AV} {b:List Value} (h:RelL σ ρ a b) (n:Nat):RelL σ ρ (a.drop n) (b.drop n):=by
 refine RelL.of_get (by simp [h.length]) λi x y hx hy=>?_
 rw [List.getElem?_drop] at hx hy
 obtain ⟨z,hz,hr⟩:=h.get _ x hx
 rw [hz] at hy;cases hy;exact hr
theorem qKl:Rel σ ρ .undef undef:=by
 show Rel σ ρ (.tup []) _
 unfold Rel
 exact ⟨#[],rfl,by unfold RelL;rfl⟩
theorem RelL.nil:RelL σ ρ [] []:=by unfold RelL;rfl
theorem RelL.cons {x:AV} {xs:List AV} {y:Value} {ys:List Value} (h:Rel σ ρ x y) (k:RelL σ ρ xs ys):RelL σ ρ (x :: xs) (y :: ys):=by
 unfold RelL;exact ⟨y,ys,rfl,h,k⟩
end lists
def One (σ:Nat→Value):Prop:=∀ i,(σ i).oneCell'=true
theorem qTD {σ:Nat→Value} {v:Value} (hσ:One σ):∀ {i:Nat},opqR σ v i→v.oneCell'=true
 | 0,h=>h
 | i+1,h=>by have h:v=σ (i+1):=h;rw [h];exact hσ _
theorem qKi {σ:Nat→Value} {ρ:Ren} (hσ:One σ) {x:AV} {v:Value} (h:Rel σ ρ x v) (hx:x.one=true):v.oneCell'=true:=by
 cases x <;> simp [AV.one] at hx <;> unfold Rel at h
 all_goals first
  | (subst h;rfl)
  | (obtain ⟨_,_,rfl⟩:=h;rfl)
  | (obtain ⟨_,_,_,_,rfl,_⟩:=h;rfl)
  | (obtain ⟨_,_,rfl,_⟩:=h;rfl)
  | (obtain ⟨_,rfl,_⟩:=h;rfl)
  | exact qTD hσ h
theorem qGS {σ:Nat→Value} {ρ:Ren} (hσ:One σ) {x:AV} {v:Value} (h:Rel σ ρ x v):RelL σ ρ x.cells v.cells.toList:=by
 cases x
 case agg cs=>unfold Rel at h;obtain ⟨cs',rfl,h⟩:=h;exact h
 case opq i=>
  have h':=h
  unfold Rel at h'
  have:=qTD hσ h'
  have e:v.cells=#[v]:=by cases v <;> simp [Value.oneCell'] at this <;> rfl
  rw [e];exact .cons h .nil
 all_goals (
  have h':=h
  unfold Rel at h'
  have e:v.cells=#[v]:=by
   first
   | (subst h';rfl)
   | (obtain ⟨_,_,rfl⟩:=h';rfl)
   | (obtain ⟨_,_,_,_,rfl,_⟩:=h';rfl)
   | (obtain ⟨_,_,rfl,_⟩:=h';rfl)
   | (obtain ⟨_,rfl,_⟩:=h';rfl)
  rw [e];exact .cons h .nil)
def tget (T:Tmps) (i:Nat):AV:=(T.get i).getD .undef
structure TRel (σ:Nat→Value) (ρ:Ren) (nt:Nat) (T:Tmps) (tm:Array Value):Prop where
 size:tm.size=nt
 at_:∀ i,Rel σ ρ (tget T i) (tm.getD i undef)
theorem TRel.mono {σ:Nat→Value} {ρ ρ':Ren} {nt:Nat} {T:Tmps} {tm:Array Value} (h:TRel σ ρ nt T tm) (hl:Le ρ ρ'):TRel σ ρ' nt T tm:=
 ⟨h.size,λi=>Rel.mono hl _ _ (h.at_ i)⟩
structure ERel (σ:Nat→Value) (ρ:Ren) (e:AEnt) (e':MapEntry):Prop where
 key:Rel σ ρ e.key e'.key
 val:Rel σ ρ e.val e'.val
 born:e'.born=e.born
structure EsRel (σ:Nat→Value) (ρ:Ren) (es:List AEnt) (es':List MapEntry):Prop where
 len:es'.length=es.length
 at_:∀ (i:Nat) (e:AEnt) (e':MapEntry),es[i]?=some e→es'[i]?=some e'→ERel σ ρ e e'
theorem EsRel.mono {σ:Nat→Value} {ρ ρ':Ren} {a:List AEnt} {b:List MapEntry} (h:EsRel σ ρ a b) (hl:Le ρ ρ'):EsRel σ ρ' a b:=
 ⟨h.len,λi e e' x y=>let k:=h.at_ i e e' x y;⟨Rel.mono hl _ _ k.key,Rel.mono hl _ _ k.val,k.born⟩⟩
def BR (σ:Nat→Value) (ρ:Ren) (own:Prop) (L:Loc):ABlk→Option Obj→Prop
 | .cells elem c n,o=>∃ (cc:Array Value) (fr:Nat × Nat),o=some (.cells cc elem fr)∧(own→fr=(0,0))∧cc.size=L.sz∧L.sh+n≤cc.size∧
   ∀ i v,c.get i=some v→∃ v',cc[L.sh+i]?=some v'∧Rel σ ρ v v'∧v'.oneCell'=true
 | .map es clock,o=>∃ es':Array MapEntry,o=some (.map es' clock)∧EsRel σ ρ es es'.toList
 | .loop st pd nt T ps as bo d,o=>∃ (fn:FuncId) (tm:Array Value) (D:Loc),ρ d=some D∧
   o=some (.loop { state:=st,pending:=pd,fn:=fn,tmps:=tm,params:=ps.toArray,assign:=as,body:=bo,defers:=D.blk })∧TRel σ ρ nt T tm
 | .deferred b,o=>o=some (.deferred (if b then some [] else none))
 | .iter m since seen st,o=>L.sh=0∧∃ M,(match m with | none=>M=none | some i=>∃ D:Loc,ρ i=some D∧M=some D.blk)∧o=some (.mapIter M since seen.toArray st)
 | .glob g v,o=>L.blk=g∧∃ (vs:List Value) (elem:TypeId) (fr:Nat × Nat),o=some (.cells vs.toArray elem fr)∧RelL σ ρ v.cells vs∧∀ x∈vs,x.oneCell'=true
 | .one v,o=>L.sh=0∧∃ (v':Value) (elem:TypeId) (fr:Nat × Nat),o=some (.cells #[v'] elem fr)∧Rel σ ρ v v'
theorem BR.mono {σ:Nat→Value} {ρ ρ':Ren} {own:Prop} {L:Loc} {b:ABlk} {o:Option Obj} (h:BR σ ρ own L b o) (hl:Le ρ ρ'):BR σ ρ' own L b o:=by
 cases b with
 | cells elem c n=>obtain ⟨cc,fr,h1,h2,h3,h4,h5⟩:=h;exact ⟨cc,fr,h1,h2,h3,h4,λi v hv=>let ⟨v',a,b,c⟩:=h5 i v hv;⟨v',a,Rel.mono hl _ _ b,c⟩⟩
 | map es clock=>obtain ⟨es',h1,h2⟩:=h;exact ⟨es',h1,h2.mono hl⟩
 | loop st pd nt T ps as bo d=>obtain ⟨fn,tm,D,h1,h2,h3⟩:=h;exact ⟨fn,tm,D,hl _ _ h1,h2,h3.mono hl⟩
 | deferred b=>exact h
 | iter m since seen st=>
   obtain ⟨h0,M,h1,h2⟩:=h
   refine ⟨h0,M,?_,h2⟩
   cases m with
   | none=>exact h1
   | some i=>obtain ⟨D,h3,h4⟩:=h1;exact ⟨D,hl _ _ h3,h4⟩
 | glob g v=>obtain ⟨h0,vs,e,fr,h1,h2,h3⟩:=h;exact ⟨h0,vs,e,fr,h1,RelL.mono hl _ _ h2,h3⟩
 | one v=>obtain ⟨h0,v',e,fr,h1,h2⟩:=h;exact ⟨h0,v',e,fr,h1,Rel.mono hl _ _ h2⟩
structure WR (σ:Nat→Value) (ρ:Ren) (base:Nat) (H:AH) (w:World):Prop where
 blk:∀ id b,H.blks.get id=some b→∃ L,ρ id=some L∧BR σ ρ (H.lo≤id) L b w.heap[L.blk]?
 own:∀ id b L,H.blks.get id=some b→ρ id=some L→H.lo≤id→base≤L.blk
 inj:∀ i j bi bj Li Lj,H.blks.get i=some bi→H.blks.get j=some bj→ρ i=some Li→ρ j=some Lj→H.lo≤i→i≠j→Li.blk≠Lj.blk
 base:base≤w.heap.size
def Free (ρ:Ren) (a b:Nat):Prop:=∀ id,a≤id→id < b→ρ id=none
structure Ext (ρ ρ':Ren) (a b:Nat):Prop where
 le:Le ρ ρ'
 out:∀ id,id < a∨b≤id→ρ' id=ρ id
theorem Ext.refl (ρ:Ren) (a b:Nat):Ext ρ ρ a b:=⟨.refl _,λ_ _=>rfl⟩
theorem Ext.trans {r s t:Ren} {a b c:Nat} (h:Ext r s a b) (k:Ext s t b c) (hab:a≤b) (hbc:b≤c):Ext r t a c:=
 ⟨h.le.trans k.le,λid hid=>(k.out id (by omega)).trans (h.out id (by omega))⟩
theorem Ext.free {r s:Ren} {a b c:Nat} (h:Ext r s a b) (hf:Free r a c) (hab:a≤b):Free s b c:=
 λid h1 h2=>(h.out id (by omega)).trans (hf id (by omega) h2)
theorem Free.left {r:Ren} {a b c:Nat} (hf:Free r a c) (h:b≤c):Free r a b:=λid h1 h2=>hf id h1 (by omega)
structure Upd (w:World) (B:Nat) (o:Obj) (w':World):Prop where
 os:w'.os=w.os
 tape:w'.tape=w.tape
 output:w'.output=w.output
 size:w.heap.size≤w'.heap.size
 at_:w'.heap[B]?=some o
 other:∀ k,k≠B→w'.heap[k]?=w.heap[k]?
theorem Upd.below {w w':World} {B base:Nat} {o:Obj} (h:Upd w B o w') (hb:base≤B):Below base w w':=
 ⟨h.os,h.tape,h.output,h.size,λk hk=>h.other k (by omega)⟩
theorem qK4 {w:World} {k:Nat} {o:Obj} (h:w.heap[k]?=some o):k < w.heap.size:=(Array.getElem?_eq_some_iff.1 h).1
theorem BR.some {σ:Nat→Value} {ρ:Ren} {own:Prop} {L:Loc} {b:ABlk} {o:Option Obj} (h:BR σ ρ own L b o):∃ x,o=some x:=by
 cases b with
 | cells elem c n=>obtain ⟨cc,fr,h1,_⟩:=h;exact ⟨_,h1⟩
 | map es clock=>obtain ⟨es',h1,_⟩:=h;exact ⟨_,h1⟩
 | loop st pd nt T ps as bo d=>obtain ⟨fn,tm,D,_,h2,_⟩:=h;exact ⟨_,h2⟩
 | deferred b=>exact ⟨_,h⟩
 | iter m since seen st=>obtain ⟨_,M,_,h2⟩:=h;exact ⟨_,h2⟩
 | glob g v=>obtain ⟨_,vs,e,fr,h1,_⟩:=h;exact ⟨_,h1⟩
 | one v=>obtain ⟨_,v',e,fr,h1,_⟩:=h;exact ⟨_,h1⟩
theorem WR.log {σ:Nat→Value} {ρ:Ren} {base:Nat} {H K:AH} {w:World} (h:WR σ ρ base H w) (hb:K.blks=H.blks) (hl:K.lo=H.lo):WR σ ρ base K w:=by
 obtain ⟨a,b,c,d⟩:=h
 refine ⟨?_,?_,?_,d⟩
 ·rw [hb,hl];exact a
 ·rw [hb,hl];exact b
 ·rw [hb,hl];exact c
theorem WR.put {σ:Nat→Value} {ρ:Ren} {base:Nat} {H K:AH} {w w':World} {id:Nat} {b0 b:ABlk} {L:Loc} {o:Obj} (h:WR σ ρ base H w)
  (h0:H.blks.get id=some b0) (hL:ρ id=some L) (hlo:H.lo≤id) (hu:Upd w L.blk o w') (hb:BR σ ρ (H.lo≤id) L b (some o))
  (hk:∀ j,K.blks.get j=if id=j then some b else H.blks.get j) (hkl:K.lo=H.lo):WR σ ρ base K w'∧Below base w w':=by
 refine ⟨⟨?_,?_,?_,Nat.le_trans h.base hu.size⟩,hu.below (h.own _ _ _ h0 hL hlo)⟩
 ·intro j bj hj
  rw [hk] at hj
  rw [hkl]
  by_cases hij:id=j
  ·subst hij;rw [if_pos rfl] at hj;cases hj
   exact ⟨L,hL,by rw [hu.at_];exact hb⟩
  ·rw [if_neg hij] at hj
   obtain ⟨Lj,h1,h2⟩:=h.blk j bj hj
   refine ⟨Lj,h1,?_⟩
   rw [hu.other _ (h.inj id j _ _ _ _ h0 hj hL h1 hlo hij).symm];exact h2
 ·intro j bj Lj hj hLj hl
  rw [hk] at hj
  rw [hkl] at hl
  by_cases hij:id=j
  ·subst hij;exact h.own _ _ _ h0 hLj hl
  ·rw [if_neg hij] at hj;exact h.own _ _ _ hj hLj hl
 ·intro i j bi bj Li Lj hi hj hLi hLj hl hne
  rw [hk] at hi hj
  rw [hkl] at hl
  have hi':∃ b,H.blks.get i=Option.some b:=by by_cases e:id=i;exact ⟨_,e ▸ h0⟩;exact ⟨_,by rw [if_neg e] at hi;exact hi⟩
  have hj':∃ b,H.blks.get j=Option.some b:=by by_cases e:id=j;exact ⟨_,e ▸ h0⟩;exact ⟨_,by rw [if_neg e] at hj;exact hj⟩
  obtain ⟨b1,e1⟩:=hi'
  obtain ⟨b2,e2⟩:=hj'
  exact h.inj i j _ _ _ _ e1 e2 hLi hLj hl hne
theorem WR.kill {σ:Nat→Value} {ρ:Ren} {base:Nat} {H K:AH} {w:World} {id:Nat} (h:WR σ ρ base H w)
  (hk:∀ j,K.blks.get j=if id=j then none else H.blks.get j) (hkl:K.lo=H.lo):WR σ ρ base K w:=by
 have key:∀ j b,K.blks.get j=some b→H.blks.get j=some b∧id≠j:=by
  intro j b hj
  rw [hk] at hj
  by_cases e:id=j
  ·rw [if_pos e] at hj;cases hj
  ·rw [if_neg e] at hj;exact ⟨hj,e⟩
 refine ⟨λj b hj=>?_,λj b L hj hL hl=>?_,λi j bi bj Li Lj hi hj hLi hLj hl hne=>?_,h.base⟩
 ·rw [hkl];exact h.blk j b (key j b hj).1
 ·rw [hkl] at hl;exact h.own j b L (key j b hj).1 hL hl
 ·rw [hkl] at hl;exact h.inj i j _ _ _ _ (key i bi hi).1 (key j bj hj).1 hLi hLj hl hne
theorem WR.new {σ:Nat→Value} {ρ:Ren} {base:Nat} {H K:AH} {w w':World} {b:ABlk} {L:Loc} {o:Obj} (h:WR σ ρ base H w)
  (hf:ρ H.next=none) (hdead:∀ j bj Lj,H.blks.get j=some bj→ρ j=some Lj→Lj.blk≠L.blk) (hbase:base≤L.blk) (hu:Upd w L.blk o w')
  (hb:∀ ρ',Le ρ ρ'→ρ' H.next=some L→BR σ ρ' True L b (some o))
  (hk:∀ j,K.blks.get j=if H.next=j then some b else H.blks.get j) (hkl:K.lo=H.lo) (hkn:K.next=H.next+1) :
  ∃ ρ',Ext ρ ρ' H.next K.next∧ρ' H.next=some L∧WR σ ρ' base K w'∧Below base w w':=by
 let ρ':Ren:=λi=>if i=H.next then some L else ρ i
 have hle:Le ρ ρ':=by
  intro i Li hi
  show (if i=H.next then _ else _)=_
  by_cases e:i=H.next
  ·subst e;rw [hf] at hi;cases hi
  ·rw [if_neg e];exact hi
 have hnew:ρ' H.next=some L:=by show (if _ then _ else _)=_;rw [if_pos rfl]
 have hold:∀ i,i≠H.next→ρ' i=ρ i:=λi hi=>by show (if _ then _ else _)=_;rw [if_neg hi]
 have hlive:∀ j bj,H.blks.get j=some bj→j≠H.next:=by
  intro j bj hj e
  obtain ⟨L',h1,_⟩:=h.blk j bj hj
  rw [e,hf] at h1;cases h1
 refine ⟨ρ',⟨hle,λid hid=>hold id (by omega)⟩,hnew,⟨?_,?_,?_,Nat.le_trans h.base hu.size⟩,hu.below hbase⟩
 ·intro j bj hj
  rw [hk] at hj
  rw [hkl]
  by_cases e:H.next=j
  ·subst e;rw [if_pos rfl] at hj;cases hj
   refine ⟨L,hnew,?_⟩
   rw [hu.at_]
   have:=hb ρ' hle hnew
   revert this
   cases b with
   | cells elem c n=>rintro ⟨cc,fr,h1,h2,h3⟩;exact ⟨cc,fr,h1,λ_=>h2 trivial,h3⟩
   | map es clock=>exact id
   | loop st pd nt T ps as bo d=>exact id
   | deferred b=>exact id
   | iter m since seen st=>exact id
   | glob g v=>exact id
   | one v=>exact id
  ·rw [if_neg e] at hj
   obtain ⟨Lj,h1,h2⟩:=h.blk j bj hj
   refine ⟨Lj,hle _ _ h1,?_⟩
   rw [hu.other _ (hdead j bj Lj hj h1)]
   exact h2.mono hle
 ·intro j bj Lj hj hLj hl
  rw [hk] at hj
  rw [hkl] at hl
  by_cases e:H.next=j
  ·subst e;rw [hnew] at hLj;cases hLj;exact hbase
  ·rw [if_neg e] at hj;rw [hold j (Ne.symm e)] at hLj;exact h.own j bj Lj hj hLj hl
 ·intro i j bi bj Li Lj hi hj hLi hLj hl hne
  rw [hk] at hi hj
  rw [hkl] at hl
  by_cases ei:H.next=i
  ·subst ei
   rw [hnew] at hLi;cases hLi
   rw [if_neg hne] at hj
   rw [hold j (Ne.symm hne)] at hLj
   exact (hdead j bj Lj hj hLj).symm
  ·rw [if_neg ei] at hi
   rw [hold i (Ne.symm ei)] at hLi
   by_cases ej:H.next=j
   ·subst ej
    rw [hnew] at hLj;cases hLj
    exact hdead i bi Li hi hLi
   ·rw [if_neg ej] at hj
    rw [hold j (Ne.symm ej)] at hLj
    exact h.inj i j _ _ _ _ hi hj hLi hLj hl hne
end Go.AM
namespace Go.AM
open Go
inductive Blk where
 | cells (elem:TypeId) (l:List AV)
 | map (es:List AEnt) (clock:Nat)
 | loop (st:LoopState) (pending:Option Code) (nt:Nat) (keep:List (Nat × AV)) (params:List Tmp) (assign body:Code) (d:Nat)
 | deferred (b:Bool)
 | glob (g:Nat) (v:AV)
 | one (v:AV)
 | iter (m:Option Nat) (since:Nat) (seen:List Nat) (stepped:Nat)
abbrev Hq:=Nat→Option (Bool × Blk)
def hset (s:Hq) (b:Nat) (e:Bool × Blk):Hq:=λi=>if i=b then some e else s i
def hdel (s:Hq) (b:Nat):Hq:=λi=>if i=b then none else s i
def add (s t:Hq):Hq:=λi=>match s i with | some e=>some e | none=>t i
def TR (T:Tmps) (env:Nat→AV):Prop:=∀ i,tget T i=env i
def BRl:Blk→ABlk→Prop
 | .cells e l,.cells e' c n=>e=e'∧n=l.length∧qAb l=true∧∀ i,i < l.length→c.get i=l[i]?
 | .map es k,.map es' k'=>es=es'∧k=k'
 | .loop st pd nt env ps as bo d,.loop st' pd' nt' T ps' as' bo' d'=>st=st'∧pd=pd'∧nt=nt'∧(∀ p∈env,tget T p.1=p.2)∧ps=ps'∧as=as'∧bo=bo'∧d=d'
 | .deferred b,.deferred b'=>b=b'
 | .glob g v,.glob g' v'=>g=g'∧v=v'
 | .one v,.one v'=>v=v'
 | .iter m a b c,.iter m' a' b' c'=>m=m'∧a=a'∧b=b'∧c=c'
 | _,_=>False
structure HRel (s:Hq) (H:AH):Prop where
 lo:H.lo≤H.next
 wf:∀ i,H.blks.get i≠none→i < H.next
 at_:∀ i t b,s i=some (t,b)→(t=false→H.lo≤i)∧∃ ab,H.blks.get i=some ab∧BRl b ab
theorem HRel.lt {s:Hq} {H:AH} (h:HRel s H) {i:Nat} (hi:s i≠none):i < H.next:=by
 cases e:s i with
 | none=>exact absurd e hi
 | some x=>obtain ⟨t,b⟩:=x;obtain ⟨_,ab,h1,_⟩:=h.at_ i t b e;exact h.wf i (by rw [h1];simp)
theorem HRel.fresh {s:Hq} {H:AH} (h:HRel s H):s H.next=none:=by
 cases e:s H.next with
 | none=>rfl
 | some x=>exact absurd (h.lt (i:=H.next) (by rw [e];simp)) (Nat.lt_irrefl _)
def Sub (s t:Hq):Prop:=∀ i e,s i=some e→t i=some e
theorem HRel.sub {s t:Hq} {H:AH} (h:HRel t H) (hs:Sub s t):HRel s H:=⟨h.lo,h.wf,λi t' b hi=>h.at_ i t' b (hs i _ hi)⟩
def Pers (s s':Hq):Prop:=∀ i b,s i=some (true,b)→s' i=some (true,b)
theorem Pers.refl (s:Hq):Pers s s:=λ_ _ h=>h
theorem Pers.trans {a b c:Hq} (h:Pers a b) (k:Pers b c):Pers a c:=λi x hx=>k i x (h i x hx)
variable {α β:Type}
def wpF (m:Nat→M α) (Q:α→Hq→Prop) (s:Hq):Prop:=
 ∀ H,HRel s H→∃ n a H',m n H=some (a,H')∧∃ s',HRel s' H'∧Pers s s'∧Q a s'
def Mono (m:Nat→M α):Prop:=∀ n n' H r,n≤n'→m n H=some r→m n' H=some r
theorem Mono.const (m:M α):Mono λ_=>m:=λ_ _ _ _ _ h=>h
theorem wpF.mono {m:Nat→M α} {Q Q':α→Hq→Prop} {s:Hq} (h:wpF m Q s) (hQ:∀ a s',Q a s'→Q' a s'):wpF m Q' s:=λH hH=>
 let ⟨n,a,H',h1,s',h2,h3,h4⟩:=h H hH
 ⟨n,a,H',h1,s',h2,h3,hQ a s' h4⟩
theorem wpF.bd {m:Nat→M α} {f:Nat→α→M β} {Q:β→Hq→Prop} {s:Hq} (hm:Mono m) (hf:∀ a,Mono λn=>f n a)
  (h:wpF m (λa s'=>wpF (λn=>f n a) Q s') s):wpF (λn=>bd (m n) (f n)) Q s:=by
 intro H hH
 obtain ⟨n1,a,H1,h1,s1,h2,h3,h4⟩:=h H hH
 obtain ⟨n2,b,H2,h5,s2,h6,h7,h8⟩:=h4 H1 h2
 refine ⟨max n1 n2,b,H2,?_,s2,h6,h3.trans h7,h8⟩
 show AM.bd _ _ _=_
 unfold AM.bd
 rw [hm n1 (max n1 n2) H _ (Nat.le_max_left _ _) h1]
 exact hf a n2 (max n1 n2) H1 _ (Nat.le_max_right _ _) h5
theorem wpF.ret {a:α} {Q:α→Hq→Prop} {s:Hq} (h:Q a s):wpF (λ_=>ret a) Q s:=λH hH=>⟨0,a,H,rfl,s,hH,.refl _,h⟩
theorem wpF.lift {o:Option α} {a:α} {Q:α→Hq→Prop} {s:Hq} (ho:o=some a) (h:Q a s):wpF (λ_=>lift o) Q s:=λH hH=>⟨0,a,H,by rw [ho];rfl,s,hH,.refl _,h⟩
theorem wpF.cond {b:Bool} {m m':Nat→M α} {Q:α→Hq→Prop} {s:Hq} (hb:b=true) (h:wpF m Q s):wpF (λn=>_root_.cond b (m n) (m' n)) Q s:=by rw [hb];exact h
theorem wpF.congr {m m':Nat→M α} {Q:α→Hq→Prop} {s:Hq} (h:wpF m Q s) (e:∀ n,m n=m' n):wpF m' Q s:=by
 rw [show m'=m from funext λn=>(e n).symm];exact h
theorem qAX {s r:Hq} {i:Nat} (h:s i=none):add s r i=r i:=by unfold add;rw [h]
theorem qAZ {s r:Hq} {i:Nat} {e:Bool × Blk} (h:s i=some e):add s r i=some e:=by unfold add;rw [h]
theorem wpF.rd {b:Nat} {t:Bool} {x:Blk} {Q:ABlk→Hq→Prop} {s:Hq} (hb:s b=some (t,x)) (h:∀ ab,BRl x ab→Q ab s):wpF (λ_=>rd b) Q s:=by
 intro H hH
 obtain ⟨_,ab,h1,h2⟩:=hH.at_ b t x hb
 refine ⟨0,ab,{ H with log:=(b,false) :: H.log },by simp [AM.rd,h1],s,⟨hH.lo,hH.wf,hH.at_⟩,.refl _,h ab h2⟩
theorem wpF.nw {ab:ABlk} {x:Blk} {Q:Nat→Hq→Prop} {s:Hq} (hx:BRl x ab) (h:∀ b,s b=none→Q b (hset s b (false,x))):wpF (λ_=>nw ab) Q s:=by
 intro H hH
 have hlo:Nat.ble H.lo H.next=true:=bL hH.lo
 refine ⟨0,H.next,{ H with blks:=H.blks.put H.next (some ab),next:=H.next+1,log:=(H.next,true) :: H.log },by simp [AM.nw,qA6,hlo],_,?_,?_,h _ hH.fresh⟩
 ·refine ⟨Nat.le_succ_of_le hH.lo,λi hi=>?_,λi t b hi=>?_⟩
  ·simp only [Tr.get_put] at hi
   by_cases e:H.next=i
   ·subst e;exact Nat.lt_succ_self _
   ·rw [if_neg e] at hi;exact Nat.lt_succ_of_lt (hH.wf i hi)
  ·unfold hset at hi
   by_cases e:i=H.next
   ·subst e
    rw [if_pos rfl] at hi
    cases hi
    exact ⟨λ_=>hH.lo,ab,by simp [Tr.get_put],hx⟩
   ·rw [if_neg e] at hi
    obtain ⟨k1,ab',k2,k3⟩:=hH.at_ i t b hi
    exact ⟨k1,ab',by simp only [Tr.get_put];rw [if_neg (Ne.symm e)];exact k2,k3⟩
 ·intro i b hi
  unfold hset
  have:i≠H.next:=λe=>by rw [e,hH.fresh] at hi;cases hi
  rw [if_neg this];exact hi
theorem wpF.wr {b:Nat} {x0 x:Blk} {ab:ABlk} {Q:Unit→Hq→Prop} {s:Hq} (hb:s b=some (false,x0)) (hx:BRl x ab) (h:Q () (hset s b (false,x))):wpF (λ_=>wr b ab) Q s:=by
 intro H hH
 obtain ⟨h0,ab0,h1,h2⟩:=hH.at_ b false x0 hb
 have hlo:Nat.ble H.lo b=true:=bL (h0 rfl)
 refine ⟨0,(),{ H with blks:=H.blks.put b (some ab),log:=(b,true) :: H.log },by simp [AM.wr,hlo,h1],_,?_,?_,h⟩
 ·refine ⟨hH.lo,λi hi=>?_,λi t y hi=>?_⟩
  ·simp only [Tr.get_put] at hi
   by_cases e:b=i
   ·subst e;exact hH.wf b (by rw [h1];simp)
   ·rw [if_neg e] at hi;exact hH.wf i hi
  ·unfold hset at hi
   by_cases e:i=b
   ·subst e
    rw [if_pos rfl] at hi
    cases hi
    exact ⟨h0,ab,by simp [Tr.get_put],hx⟩
   ·rw [if_neg e] at hi
    obtain ⟨k1,ab',k2,k3⟩:=hH.at_ i t y hi
    exact ⟨k1,ab',by simp only [Tr.get_put];rw [if_neg (Ne.symm e)];exact k2,k3⟩
 ·intro i y hi
  unfold hset
  have:i≠b:=λe=>by rw [e,hb] at hi;cases hi
  rw [if_neg this];exact hi
theorem wpF.kill {b:Nat} {x0:Blk} {Q:Unit→Hq→Prop} {s:Hq} (hb:s b=some (false,x0)) (h:Q () (hdel s b)):wpF (λ_=>kill b) Q s:=by
 intro H hH
 obtain ⟨h0,ab0,h1,h2⟩:=hH.at_ b false x0 hb
 have hlo:Nat.ble H.lo b=true:=bL (h0 rfl)
 refine ⟨0,(),{ H with blks:=H.blks.put b none,log:=(b,true) :: H.log },by simp [AM.kill,hlo,h1],_,?_,?_,h⟩
 ·refine ⟨hH.lo,λi hi=>?_,λi t y hi=>?_⟩
  ·simp only [Tr.get_put] at hi
   by_cases e:b=i
   ·subst e;exact hH.wf b (by rw [h1];simp)
   ·rw [if_neg e] at hi;exact hH.wf i hi
  ·unfold hdel at hi
   by_cases e:i=b
   ·rw [if_pos e] at hi;cases hi
   ·rw [if_neg e] at hi
    obtain ⟨k1,ab',k2,k3⟩:=hH.at_ i t y hi
    exact ⟨k1,ab',by simp only [Tr.get_put];rw [if_neg (Ne.symm e)];exact k2,k3⟩
 ·intro i y hi
  unfold hdel
  have:i≠b:=λe=>by rw [e,hb] at hi;cases hi
  rw [if_neg this];exact hi
theorem Tr.keep {α:Type} (p:Nat→Prop) (t:Tr α):∀ a m:Nat,∃ t':Tr α,∀ i,(p (a+m * i)→t'.get i=t.get i)∧(¬ p (a+m * i)→t'.get i=none):=by
 induction t with
 | nil=>intro a m;exact ⟨.nil,λi=>⟨λ_=>rfl,λ_=>Tr.get_nil i⟩⟩
 | node v l r ihl ihr=>
   intro a m
   obtain ⟨l',hl⟩:=ihl (a+m) (2 * m)
   obtain ⟨r',hr⟩:=ihr (a+2 * m) (2 * m)
   have hv:∃ v':Option α,(p a→v'=v)∧(¬ p a→v'=none):=by
    by_cases h:p a
    ·exact ⟨v,λ_=>rfl,λk=>absurd h k⟩
    ·exact ⟨none,λk=>absurd k h,λ_=>rfl⟩
   obtain ⟨v',hv1,hv2⟩:=hv
   refine ⟨.node v' l' r',λi=>?_⟩
   cases i with
   | zero=>simp only [Nat.mul_zero,Nat.add_zero];exact ⟨hv1,hv2⟩
   | succ j=>
     cases hb:Nat.beq (j % 2) 0 with
     | true=>
       have e:j % 2=0:=bE hb
       have e2:a+m * (j+1)=a+m+2 * m * (j / 2):=by
        have:j=2 * (j / 2):=by omega
        generalize j / 2=q at *
        subst this
        rw [Nat.mul_add,Nat.mul_one,Nat.mul_comm 2 m,Nat.mul_assoc];omega
       have:=hl (j / 2)
       rw [← e2] at this
       simpa [Tr.get,hb] using this
     | false=>
       have e:j % 2=1:=by
        have:¬ j % 2=0:=λh=>by rw [h] at hb;cases hb
        omega
       have e2:a+m * (j+1)=a+2 * m+2 * m * (j / 2):=by
        have:j=2 * (j / 2)+1:=by omega
        generalize j / 2=q at *
        subst this
        rw [show 2 * q+1+1=2 * (q+1) by omega,← Nat.mul_assoc,Nat.mul_comm m 2,Nat.mul_add,Nat.mul_one];omega
       have:=hr (j / 2)
       rw [← e2] at this
       simpa [Tr.get,hb] using this
theorem qVg (p:Nat→Prop) (H:AH):∃ H0:AH,H0.next=H.next∧H0.lo=H.lo∧∀ i,(p i→H0.blks.get i=H.blks.get i)∧(¬ p i→H0.blks.get i=none):=by
 obtain ⟨t',h⟩:=Tr.keep p H.blks 0 1
 refine ⟨{ H with blks:=t' },rfl,rfl,λi=>?_⟩
 have:=h i
 simpa using this
theorem wpF.framed {m:Nat→M α} {Q:α→Hq→Prop} {s:Hq} (hfr:∀ n,Fr (m n)) (h:wpF m Q s) {H:AH} (hH:HRel s H) :
  ∃ n a H' s' es,m n H=some (a,H')∧HRel s' H'∧Pers s s'∧Q a s'∧Does es H H'∧(∀ i b,(i,b)∈es→s i≠none∨H.next≤i)∧∀ i,s i=none→i < H.next→s' i=none∧H'.blks.get i=H.blks.get i:=by
 obtain ⟨H0,hn,hl,hk⟩:=qVg (λi=>s i≠none) H
 have hH0:HRel s H0:=by
  refine ⟨by rw [hn,hl];exact hH.lo,λi hi=>?_,λi t b hi=>?_⟩
  ·rw [hn]
   by_cases e:s i=none
   ·exact absurd ((hk i).2 (λk=>k e)) hi
   ·exact hH.lt e
  ·rw [hl,(hk i).1 (by rw [hi];simp)];exact hH.at_ i t b hi
 obtain ⟨n,a,H0',h1,s',h2,h3,h4⟩:=h H0 hH0
 obtain ⟨es,d,k⟩:=hfr n H0 a H0' h1
 have known:∀ i b,(i,b)∈es→s i≠none∨H.next≤i:=by
  intro i b hi
  rcases d.touch i b hi with e | e
  ·left;intro e2;exact e ((hk i).2 (λq=>q e2))
  ·right;rw [← hn];exact e.1
 have agree:∀ i b,(i,b)∈es→H.blks.get i=H0.blks.get i:=by
  intro i b hi
  rcases known i b hi with e | e
  ·rw [(hk i).1 e]
  ·have e1:H.blks.get i=none:=by
    cases q:H.blks.get i with
    | none=>rfl
    | some x=>exact absurd (hH.wf i (by rw [q];simp)) (by omega)
   have e2:s i=none:=by
    cases q:s i with
    | none=>rfl
    | some x=>exact absurd (hH.lt (i:=i) (by rw [q];simp)) (by omega)
   rw [e1,(hk i).2 (λq=>q e2)]
 obtain ⟨H',h5,d',n',g'⟩:=k H hn.symm (Nat.le_of_eq hl.symm) agree
 have out:∀ i,s i=none→i < H.next→s' i=none∧H'.blks.get i=H.blks.get i:=by
  intro i hi hlt
  refine ⟨?_,d'.same i λhm=>?_⟩
  ·cases q:s' i with
   | none=>rfl
   | some x=>
     obtain ⟨t,b⟩:=x
     obtain ⟨_,ab,q1,_⟩:=h2.at_ i t b q
     rcases d.gone i (by rw [q1];simp) with e | e
     ·exact absurd ((hk i).2 (λq=>q hi)) e
     ·omega
  ·rcases known i _ hm with e | e
   ·exact e hi
   ·omega
 refine ⟨n,a,H',s',es,h5,⟨?_,λi hi=>?_,λi t b hi=>?_⟩,h3,h4,d',known,out⟩
 ·rw [d'.lo];exact Nat.le_trans hH.lo d'.next
 ·rcases d'.gone i hi with e | e
  ·exact Nat.lt_of_lt_of_le (hH.wf i e) d'.next
  ·exact e.2
 ·obtain ⟨q1,ab,q2,q3⟩:=h2.at_ i t b hi
  refine ⟨λht=>?_,ab,?_,q3⟩
  ·rw [d'.lo,← hl,← d.lo];exact q1 ht
  ·by_cases hm:∃ c,(i,c)∈es
   ·obtain ⟨c,hc⟩:=hm
    rw [g' i c hc];exact q2
   ·have e1:H0'.blks.get i=H0.blks.get i:=d.same i λhc=>hm ⟨_,hc⟩
    have e2:s i≠none:=by
     intro e
     rw [e1,(hk i).2 (λq=>q e)] at q2;cases q2
    rw [d'.same i λhc=>hm ⟨_,hc⟩,← (hk i).1 e2,← e1];exact q2
theorem wpF.frame {m:Nat→M α} {Q:α→Hq→Prop} {s r:Hq} (hfr:∀ n,Fr (m n)) (h:wpF m Q s) (hd:∀ i,r i≠none→s i=none) :
  wpF m (λa S=>∃ s',S=add s' r∧(∀ i,r i≠none→s' i=none)∧Q a s') (add s r):=by
 intro H hH
 have hs:Sub s (add s r):=λi e hi=>by unfold add;rw [hi]
 have hrr:∀ i t b,r i=some (t,b)→add s r i=some (t,b):=λi t b hi=>by unfold add;rw [hd i (by rw [hi];simp)];exact hi
 obtain ⟨n,a,H',s',es,h1,h2,h3,h4,d,_,h6⟩:=wpF.framed hfr h (hH.sub hs)
 have off:∀ i,r i≠none→s' i=none∧H'.blks.get i=H.blks.get i:=by
  intro i hi
  refine h6 i (hd i hi) ?_
  cases e:r i with
  | none=>exact absurd e hi
  | some x=>obtain ⟨t,b⟩:=x;exact hH.lt (by rw [hrr i t b e];simp)
 refine ⟨n,a,H',h1,add s' r,⟨h2.lo,h2.wf,λi t b hi=>?_⟩,λi b hi=>?_,s',rfl,λi hi=>(off i hi).1,h4⟩
 ·cases e:s' i with
  | some x=>rw [qAZ e] at hi;cases hi;exact h2.at_ i t b e
  | none=>
    rw [qAX e] at hi
    have hne:r i≠none:=by rw [hi];simp
    rw [(off i hne).2,d.lo]
    exact hH.at_ i t b (hrr i t b hi)
 ·cases e:s i with
  | some x=>rw [qAZ e] at hi;cases hi;rw [qAZ (h3 i b e)]
  | none=>
    rw [qAX e] at hi
    have hne:r i≠none:=by rw [hi];simp
    rw [qAX (off i hne).1];exact hi
end Go.AM
namespace Go.AM
open Go
abbrev Env:=Nat→AV
def upd (e:Env) (i:Nat) (v:AV):Env:=λj=>cond (Nat.beq j i) v (e j)
def qPM (l:List AV):Env:=λi=>l.getD i .undef
def oK {α:Type} (o:Option α) (K:α→Prop):Prop:=match o with | some a=>K a | none=>False
def qAP (v:AV) (p q:Prop):Prop:=match v with | .bool true=>p | .bool false=>q | _=>False
def qBK (c a b:AV):Option AV:=match c with | .bool true=>some a | .bool false=>some b | _=>none
def okX:Operand→Bool
 | .tmp _=>true
 | .const v=>(ofV 2 v).isSome
 | .func _=>true
 | .global _=>false
def evD (env:Env):Operand→AV
 | .tmp t=>env t
 | .const v=>match ofV 2 v with | some a=>a | none=>.undef
 | .func f=>.fn (.func f) [] []
 | .global _=>.undef
def oev (env:Env):Option Operand→Option AV
 | none=>none
 | some x=>some (evD env x)
def rd1 (s:Hq):AV→Option AV
 | .ptr b o=>match s b with
   | some (_,.cells _ l)=>l[o]?
   | _=>none
 | _=>none
def qJM (l:List AV) (o n:Nat):Option (List AV):=cond (Nat.ble (o+n) l.length) (some ((l.drop o).take n)) none
def rdN (s:Hq) (n:Nat):AV→Option (List AV)
 | .ptr b o=>match s b with
   | some (_,.cells _ l)=>qJM l o n
   | _=>none
 | _=>none
def wr1 (s:Hq) (p v:AV):Option Hq:=match p with
 | .ptr b o=>match s b with
   | some (false,.cells e l)=>cond (Nat.blt o l.length&&v.one) (some (hset s b (false,.cells e (l.set o v)))) none
   | _=>none
 | _=>none
def wrN (s:Hq) (p:AV) (vs:List AV):Option Hq:=match p with
 | .ptr b o=>match s b with
   | some (false,.cells e l)=>cond (Nat.ble (o+vs.length) l.length&&qAb vs) (some (hset s b (false,.cells e (qAu l o vs)))) none
   | _=>none
 | _=>none
def qBo (s:Hq) (n:Nat) (p v:AV):Option Hq:=cond (Nat.beq v.cells.length n) (wrN s p v.cells) none
def newK (elem:TypeId) (cs:List AV) (K:Nat→Hq→Prop) (s:Hq):Prop:=∀ b,s b=none→K b (hset s b (false,.cells elem cs))
def boxK (elem:TypeId) (v:AV) (K:AV→Hq→Prop) (s:Hq):Prop:=qAb v.cells=true∧newK elem v.cells (λb=>K (.ptr b 0)) s
def qA2 (cells:List AV):List (Nat × Nat × AV)→Option (List AV)
 | []=>some cells
 | (off,size,v) :: rest=>cond (Nat.beq v.cells.length size&&Nat.ble (off+v.cells.length) cells.length) (qA2 (qAu cells off v.cells) rest) none
def places (place:Nat→Option (Nat × Nat)):List (Nat × Operand)→Option (List (Nat × Nat × Operand))
 | []=>some []
 | (i,x) :: r=>match place i,places place r with
   | some (off,size),some l=>some ((off,size,x) :: l)
   | _,_=>none
def evPl (env:Env):List (Nat × Nat × Operand)→List (Nat × Nat × AV)
 | []=>[]
 | (o,n,x) :: r=>(o,n,evD env x) :: evPl env r
def qAF (k:Nat):AV→Option AV
 | .ptr b o=>some (.ptr b (o+k))
 | _=>none
def qWb (agg:Option Nat) (off:Nat) (cs:List AV):Option AV:=match agg with
 | some n=>(qJM cs off n).map .agg
 | none=>cs[off]?
def qYa (agg:Option Nat) (off:Nat):AV→Option AV
 | .agg cs=>qWb agg off cs
 | _=>none
def qGE (len n:Nat) (x i:AV):Option AV:=match x,nat? i with
 | .ptr b o,some i=>cond (Nat.blt i len) (some (.ptr b (o+i * n))) none
 | _,_=>none
def qAO (n:Nat) (x i:AV):Option AV:=match x,nat? i with
 | .slc b o len _ es,some i=>cond (Nat.blt i len&&Nat.beq n es) (some (.ptr b (o+i * n))) none
 | _,_=>none
def qWO (len n:Nat) (agg:Option Nat) (x i:AV):Option AV:=match x,nat? i with
 | .agg cs,some i=>cond (Nat.blt i len) (qWb agg (i * n) cs) none
 | _,_=>none
def qPK (x i:AV):Option AV:=match x,nat? i with
 | .str s,some i=>match s[i]? with
   | some b=>some (.int .u8 b.toNat)
   | none=>none
 | _,_=>none
def qDs (es:Nat) (x:AV) (lo hi mx:Option AV):Option AV:=match x with
 | .slc b o len cap es'=>match bound mx (cap.getD len) (cap.getD len) with
   | some m=>match bound hi len m with
     | some h=>match bound lo 0 h with
       | some l=>cond ((mx.isNone||hi.isSome)&&Nat.beq es' es)
         (match cap,mx with
         | none,none=>some (.slc b (o+l * es') (h - l) none es')
         | _,_=>some (.slc b (o+l * es') (h - l) (some (m - l)) es')) none
       | none=>none
     | none=>none
   | none=>none
 | .nilslc=>match bound lo 0 0,bound hi 0 0,bound mx 0 0 with
   | some _,some _,some _=>cond (mx.isNone||hi.isSome) (some .nilslc) none
   | _,_,_=>none
 | _=>none
def qV3 (s:Hq) (n es:Nat) (x:AV) (lo hi mx:Option AV):Option AV:=match x with
 | .ptr b o=>match s b with
   | some (_,.cells _ l)=>cond (Nat.ble (o+n * es) l.length) (match bound mx n n with
     | some m=>match bound hi n m with
       | some h=>match bound lo 0 h with
         | some l=>cond (mx.isNone||hi.isSome) (some (.slc b (o+l * es) (h - l) (some (m - l)) es)) none
         | none=>none
       | none=>none
     | none=>none) none
   | _=>none
 | _=>none
def qAG (op:BinOp) (a b:AV):Option AV:=match a,b with
 | .int k m,.int k' n=>cond (qCQ k k') (arith op k m n) none
 | _,_=>none
def qEF (op:BinOp) (a b:AV):Option AV:=match a,b with
 | .int k m,.int _ n=>qMs op k m n
 | _,_=>none
def eqV (kd:Nat) (cst:Bool) (a b:AV):Option Bool:=match kd,a,b with
 | 0,.int k m,.int k' n=>cond (qCQ k k') (some (eqI m n)) none
 | 1,.bool a,.bool b=>some (a == b)
 | 2,.str a,.str b=>some (a == b)
 | 3,.nilptr,.nilptr=>some true
 | 3,.nilptr,.ptr _ _=>some false
 | 3,.ptr _ _,.nilptr=>some false
 | 4,.nilIface,.nilIface=>cond cst (some true) none
 | 4,.nilIface,.ifc _ _=>some false
 | 4,.ifc _ _,.nilIface=>some false
 | 5,.nilslc,.nilslc=>some true
 | 5,.nilslc,.slc _ _ _ _ _=>some false
 | 5,.slc _ _ _ _ _,.nilslc=>some false
 | 6,.nilmap,.nilmap=>some true
 | 6,.nilmap,.map _=>some false
 | 6,.map _,.nilmap=>some false
 | 7,.nilFunc,.nilFunc=>some true
 | 7,.nilFunc,.fn _ _ _=>some false
 | 7,.fn _ _ _,.nilFunc=>some false
 | _,_,_=>none
def negB (neg:Bool) (r:Option Bool):Option AV:=match r with
 | some b=>some (.bool (cond neg (!b) b))
 | none=>none
def qP5:TypeDesc→Option Nat
 | .int _=>some 0
 | .bool=>some 1
 | .string=>some 2
 | .pointer _=>some 3
 | .interface _=>some 4
 | .slice _=>some 5
 | .map _ _=>some 6
 | .func _ _ _=>some 7
 | _=>none
def isC:Operand→Bool
 | .const _=>true
 | _=>false
def qCi (k:IntKind):AV→Option AV
 | .int _ n=>some (.int k (qB7 k n))
 | _=>none
def qY9:AV→Option AV
 | .str s=>some (.str s)
 | _=>none
def qR9 (t:TypeId) (z:Option AV) (ok:Bool):AV→Option AV
 | .ifc t' v=>cond (Nat.beq t' t) (some (cond ok (.tup [v,.bool true]) v)) (cond ok (match z with | some z=>some (.tup [z,.bool false]) | none=>none) none)
 | .nilIface=>cond ok (match z with | some z=>some (.tup [z,.bool false]) | none=>none) none
 | _=>none
def rdSl (s:Hq) (es:Nat):AV→Option (List AV)
 | .slc b o len _ es'=>cond (Nat.beq es es') (cond (Nat.beq (len * es) 0) (some []) (match s b with
   | some (_,.cells _ l)=>qJM l o (len * es)
   | _=>none)) none
 | .nilslc=>some []
 | _=>none
def qUk (elem:TypeId) (es n:Nat) (cs:List AV) (K:AV→Hq→Prop) (s:Hq):Prop:=
 n≤16777216∧newK elem cs (λb=>K (.slc b 0 n none es)) s
def qQa (elem:TypeId) (b:Nat) (K:Hq→Prop) (s:Hq):Prop:=match s b with
 | some (false,.cells e _)=>e=elem∧K (hdel s b)
 | _=>False
def appK (elem:TypeId) (es:Nat) (x y:AV) (K:AV→Hq→Prop) (s:Hq):Prop:=
 oK (rdSl s es y) λnew=>oK (qAa y) λn=>match x with
  | .nilslc=>match n with
    | 0=>K .nilslc s
    | _+1=>qUk elem es n new K s
  | .slc b o len cap es'=>es=es'∧(match n with
    | 0=>(match cap with | some c=>len≤c | none=>True)∧K x s
    | _+1=>match cap with
      | some c=>cond (Nat.ble (len+n) c) (oK (wrN s (.ptr b (o+len * es)) new) λs=>K (.slc b o (len+n) cap es) s)
        (oK (rdSl s es x) λold=>qUk elem es (len+n) (old ++ new) K s)
      | none=>oK (rdSl s es x) λold=>qQa elem b (λs=>qUk elem es (len+n) (old ++ new) K s) s)
  | _=>False
def qSR (z:List AV) (es:Nat) (x:AV) (K:AV→Hq→Prop) (s:Hq):Prop:=match x with
 | .nilslc=>K .undef s
 | .slc b o n _ es'=>es'=es∧(match n with
   | 0=>K .undef s
   | _+1=>oK (wrN s (.ptr b o) (repl n z)) λs=>K .undef s)
 | _=>False
def zAAZ (es:Nat) (d x:AV) (K:AV→Hq→Prop) (s:Hq):Prop:=oK (qAa x) λm=>match d with
 | .slc b o k _ es'=>es'=es∧m≤k∧(match m with
   | 0=>False
   | _+1=>oK (rdSl s es x) λcs=>oK (wrN s (.ptr b o) cs) λs=>K (.int .i64 m) s)
 | _=>False
def lenD (d:TypeDesc) (x:AV):Option Nat:=match d with
 | .string=>match x with | .str s=>some s.size | _=>none
 | .array n _=>some n
 | .slice _=>qAa x
 | _=>none
def qN7 (k:AV):List AEnt→Nat→Option (Option (Nat × AV))
 | [],_=>some none
 | e :: es,i=>match qPy (.int .i64) k e.key with
   | some true=>some (some (i,e.val))
   | some false=>qN7 k es (i+1)
   | none=>none
def intK (v:AV) (p:Prop):Prop:=match v with
 | .int _ _=>p
 | _=>False
def getM (s:Hq) (m k:AV):Option (Option AV):=match k with
 | .int _ _=>match m with
   | .nilmap=>some none
   | .map b=>match s b with
     | some (_,.map es _)=>match qN7 k es 0 with
       | some (some p)=>some (some p.2)
       | some none=>some none
       | none=>none
     | _=>none
   | _=>none
 | _=>none
def retM (z:AV) (ok:Bool):Option AV→AV
 | some v=>cond ok (.tup [v,.bool true]) v
 | none=>cond ok (.tup [z,.bool false]) z
def putE (es:List AEnt) (c:Nat) (k v:AV):Option (List AEnt × Nat):=match qN7 k es 0 with
 | some (some p)=>some (modE es p.1 λe=>{ e with key:=k,val:=v },c)
 | some none=>some (es ++ [{ key:=k,val:=v,born:=c }],c+1)
 | none=>none
def putM (s:Hq) (m k v:AV):Option Hq:=match k with
 | .int _ _=>match m with
   | .map b=>match s b with
     | some (false,.map es c)=>match putE es c k v with
       | some p=>some (hset s b (false,.map p.1 p.2))
       | none=>none
     | _=>none
   | _=>none
 | _=>none
def getG (P:Program) (kt:TypeId) (s:Hq) (m k:AV):Option (Option AV):=match P.underlying kt with
 | some d=>cond (aggD d&&qHX P 10 kt k) (match m with
   | .nilmap=>some none
   | .map b=>match s b with
     | some (_,.map es _)=>match qJC P kt d k es 0 with
       | some (some p)=>some (some p.2)
       | some none=>some none
       | none=>none
     | _=>none
   | _=>none) none
 | none=>none
def putG (P:Program) (kt:TypeId) (s:Hq) (m k v:AV):Option Hq:=match P.underlying kt with
 | some d=>cond (aggD d&&qHX P 10 kt k) (match m with
   | .map b=>match s b with
     | some (false,.map es c)=>match qJC P kt d k es 0 with
       | some (some p)=>some (hset s b (false,.map (modE es p.1 λe=>{ e with key:=k,val:=v }) c))
       | some none=>some (hset s b (false,.map (es ++ [{ key:=k,val:=v,born:=c }]) (c+1)))
       | none=>none
     | _=>none
   | _=>none) none
 | none=>none
def mapK (K:AV→Hq→Prop) (s:Hq):Prop:=∀ b,s b=none→K (.map b) (hset s b (false,.map [] 0))
def qRu (x:AV) (K:AV→Hq→Prop) (s:Hq):Prop:=match x with
 | .nilmap=>∀ b,s b=none→K (.ptr b 0) (hset s b (false,.iter none 0 [] 0))
 | .map m=>match s m with
   | some (_,.map _ c)=>∀ b,s b=none→K (.ptr b 0) (hset s b (false,.iter (some m) c [] c))
   | _=>False
 | _=>False
def entD (s:Hq) (x:AV):Option AV:=match x with
 | .ptr r 0=>match s r with
   | some (_,.iter (some m) _ seen stepped)=>match qQN seen with
     | some stamp=>match s m with
       | some (_,.map es c)=>cond (Nat.beq c stepped) (match qGq stamp es with
         | some e=>some (.tup [e.key,e.val])
         | none=>none) none
       | _=>none
     | none=>none
   | _=>none
 | _=>none
def lenM (s:Hq):AV→Option Nat
 | .nilmap=>some 0
 | .map b=>match s b with
   | some (_,.map es _)=>some es.length
   | _=>none
 | _=>none
section
variable (P : Program) (X : Td)
def wpT (t:Task) (Q:Out→Hq→Prop) (s:Hq):Prop:=wpF (λn=>run P X n t) Q s
def wC (f:FuncId) (args:List AV) (K:AV→Hq→Prop) (s:Hq):Prop:=wpT P X (.call f args) (λo s'=>∃ v,o=.val v∧K v s') s
def qKg (l:Nat) (args:List AV) (K:AV→Hq→Prop) (s:Hq):Prop:=wpT P X (.round l args) (λo s'=>∃ v,o=.val v∧K v s') s
def goK (k:FuncId) (args:List AV) (K:AV→Hq→Prop) (s:Hq):Prop:=isFn P k=true∧wC P X k args K s
def qD4 (x:AV) (name:String) (args:List AV) (K:AV→Hq→Prop) (s:Hq):Prop:=match x with
 | .ifc t v=>wpF (λ_=>qBq P t v name) (λp s'=>goK P X p.1 (p.2 :: args) K s') s
 | _=>False
def qPN (l:Nat) (n:Nat) (s:Hq):Prop:=match s l with
 | some (_,.loop _ _ _ _ ps _ _ _)=>ps.length=n
 | _=>False
def funK (f:AV) (args:List AV) (K:AV→Hq→Prop) (s:Hq):Prop:=match f with
 | .fn (.func k) first cap=>goK P X k (first ++ args ++ cap) K s
 | .fn (.method name) [x] _=>qD4 P X x name args K s
 | .yield l=>qPN l args.length s∧qKg P X l args K s
 | _=>False
def qXX (t:TypeId) (f:Nat):Option Nat:=match P.underlying t with
 | some (.struct fields)=>match fields[f]? with
   | some fd=>match sz P fd.type with
     | some (_+1)=>some fd.offset
     | _=>none
   | none=>none
 | _=>none
def qKv (t:TypeId):Option (Option Nat):=match qDX P t with
 | some true=>match sz P t with
   | some n=>some (some n)
   | none=>none
 | some false=>some none
 | none=>none
def qNy (t:TypeId) (p:AV) (K:AV→Prop) (s:Hq):Prop:=match qKv P t with
 | some (some n)=>oK (rdN s n p) λl=>K (.agg l)
 | some none=>oK (rd1 s p) K
 | none=>False
def gldN (s:Hq) (n g:Nat):Option (List AV):=match s g with
 | some (_,.glob g' (.agg l))=>cond (Nat.beq g g'&&Nat.beq n l.length) (some l) none
 | _=>none
def zAA0 (n:Nat) (x:AV):Option AV:=match x with
 | .slc b o len _ _=>cond (Nat.ble n len&&Nat.blt 0 len) (some (.ptr b o)) none
 | _=>none
def zABO (t:TypeId) (x:AV):Option AV:=match P.underlying t with
 | some (.array n _)=>zAA0 n x
 | _=>none
def gldK (t:TypeId) (g:Nat) (K:AV→Prop) (s:Hq):Prop:=match qKv P t with
 | some (some n)=>oK (gldN s n g) λl=>K (.agg l)
 | _=>False
def qVJ (t:TypeId) (p v:AV) (K:AV→Hq→Prop) (s:Hq):Prop:=match qKv P t,sz P t with
 | some (some n),_=>oK (qBo s n p v) (K .undef)
 | some none,some 1=>oK (wr1 s p v) (K .undef)
 | _,_=>False
def zcells (t:TypeId):Option (List AV):=match qEp P t with
 | some z=>cond (qAb z.cells) (some z.cells) none
 | none=>none
def zelem (t:TypeId):Option (List AV × Nat):=match qEp P t,sz P t with
 | some z,some es=>cond (Nat.beq z.cells.length es&&qAb z.cells) (some (z.cells,es)) none
 | _,_=>none
def qW1 (t:TypeId) (a b:AV):Option Bool:=match a,b with
 | .agg _,.agg _=>aEq P 30 t a b
 | _,_=>none
def eqK (neg:Bool) (t:TypeId) (cst:Bool) (a b:AV) (K:AV→Hq→Prop) (s:Hq):Prop:=match P.underlying t with
 | some d=>match qP5 d with
   | some kd=>oK (negB neg (eqV kd cst a b)) (K · s)
   | none=>cond (P.eqGuardType P.depth t) False (oK (negB neg (qW1 P t a b)) (K · s))
 | none=>False
def qVp (b:Builtin) (ts:List TypeId) (args:List AV) (K:AV→Hq→Prop) (s:Hq):Prop:=match b,ts,args with
 | .append,[st,xt],[x,y]=>match P.underlying st,P.underlying xt with
   | some (.slice elem),some (.slice _)=>match zelem P elem,qFj P elem with
     | some (_,es),some by_=>cond (Nat.ble by_ 65536) (appK elem es x y K s) False
     | _,_=>False
   | _,_=>False
 | .len,t :: _,[x]=>match P.underlying t with
   | some (.map _ _)=>oK (lenM s x) λn=>K (.int .i64 n) s
   | some d=>oK (lenD d x) λn=>K (.int .i64 n) s
   | none=>False
 | .clear,t :: _,[x]=>match P.underlying t with
   | some (.slice elem)=>match zelem P elem with
     | some (z,es)=>qSR z es x K s
     | none=>False
   | _=>False
 | .copy,t :: _,[d,x]=>match P.underlying t with
   | some (.slice elem)=>match sz P elem with
     | some es=>zAAZ es d x K s
     | none=>False
   | _=>False
 | .min,_,x :: xs=>oK (qKU min2A x xs) (K · s)
 | .max,_,x :: xs=>oK (qKU max2A x xs) (K · s)
 | _,_,_=>False
def wpOp (env:Env) (K:AV→Hq→Prop) (s:Hq):Op→Prop
 | .move x | .assign x=>K (evD env x) s
 | .pick c a b=>oK (qBK (evD env c) (evD env a) (evD env b)) (K · s)
 | .alloc t=>match zcells P t with
   | some z=>newK t z (λb=>K (.ptr b 0)) s
   | none=>False
 | .box t x=>boxK t (evD env x) K s
 | .build t ps=>match qEp P t,P.underlying t with
   | some z,some (.struct fields)=>cond (fields.toList.all λf=>(sz P f.type).isSome) (match places (qMq P fields.toList) ps.toList with
     | some l=>oK (qA2 z.cells (evPl env l)) λcs=>K (.agg cs) s
     | none=>False) False
   | some z,some (.array _ elem)=>match sz P elem with
     | some n=>match places (λi=>some (i * n,n)) ps.toList with
       | some l=>oK (qA2 z.cells (evPl env l)) λcs=>K (.agg cs) s
       | none=>False
     | none=>False
   | _,_=>False
 | .buildSlice t len ps=>match P.underlying t with
   | some (.slice elem)=>match zelem P elem with
     | some (z,es)=>cond (Nat.ble (len * es) 16777216) (match places (λi=>some (i * es,es)) ps.toList with
       | some l=>oK (qA2 (repl len z) (evPl env l)) λcs=>qAb cs=true∧newK elem cs (λb=>K (.slc b 0 len (some len) es)) s
       | none=>False) False
     | none=>False
   | _=>False
 | .load t a=>match a with
   | .global g=>gldK P t g (K · s) s
   | a=>qNy P t (evD env a) (K · s) s
 | .sliceToArrayPointer t x=>oK (zABO P t (evD env x)) (K · s)
 | .store t a x=>qVJ P t (evD env a) (evD env x) K s
 | .nilCheck x=>oK (qAH (evD env x)) (K · s)
 | .binOp op t x y _=>match op with
   | .eql=>eqK P false t (isC x||isC y) (evD env x) (evD env y) K s
   | .neq=>eqK P true t (isC x||isC y) (evD env x) (evD env y) K s
   | .shl | .shr=>oK (qEF op (evD env x) (evD env y)) (K · s)
   | _=>oK (qAG op (evD env x) (evD env y)) (K · s)
 | .unOp op _ x=>oK (qBd op (evD env x)) (K · s)
 | .convert a d x=>match P.underlying a,P.underlying d with
   | some (.int _),some (.int k)=>oK (qCi k (evD env x)) (K · s)
   | some .string,some .string=>oK (qY9 (evD env x)) (K · s)
   | _,_=>False
 | .makeInterface t x=>match P.underlying t with
   | some (.interface _)=>False
   | some _=>K (.ifc t (evD env x)) s
   | none=>False
 | .makeFunc f first cap=>match f with
   | .func k=>K (.fn (.func k) (first.toList.map (evD env)) (cap.toList.map (evD env))) s
   | .method n=>K (.fn (.method n) (first.toList.map (evD env)) (cap.toList.map (evD env))) s
   | _=>False
 | .makeSlice t l c=>match P.underlying t with
   | some (.slice elem)=>match zelem P elem,qFj P elem with
     | some (z,es),some by_=>cond (Nat.ble by_ 32768) (oK (nat? (evD env l)) λl=>oK (nat? (evD env c)) λc=>(l≤c∧c≤4294967296)∧newK elem (repl c z) (λb=>K (.slc b 0 l (some c) es)) s) False
     | _,_=>False
   | _=>False
 | .slice t x lo hi mx=>match P.underlying t with
   | some (.slice elem)=>match sz P elem with
     | some es=>oK (qDs es (evD env x) (oev env lo) (oev env hi) (oev env mx)) (K · s)
     | none=>False
   | some (.array n elem)=>match sz P elem with
     | some es=>oK (qV3 s n es (evD env x) (oev env lo) (oev env hi) (oev env mx)) (K · s)
     | none=>False
   | _=>False
 | .fieldAddr t x f=>match qXX P t f with
   | some k=>oK (qAF k (evD env x)) (K · s)
   | none=>False
 | .field t x f=>match P.underlying t with
   | some (.struct fields)=>match fields[f]? with
     | some fd=>match qKv P fd.type with
       | some g=>oK (qYa g fd.offset (evD env x)) (K · s)
       | none=>False
     | none=>False
   | _=>False
 | .indexAddr t x i=>match P.underlying t with
   | some (.array len elem)=>match sz P elem with
     | some n=>oK (qGE len n (evD env x) (evD env i)) (K · s)
     | none=>False
   | some (.slice elem)=>match sz P elem with
     | some n=>oK (qAO n (evD env x) (evD env i)) (K · s)
     | none=>False
   | _=>False
 | .index t x i=>match P.underlying t with
   | some (.array len elem)=>match sz P elem,qKv P elem with
     | some n,some g=>oK (qWO len n g (evD env x) (evD env i)) (K · s)
     | _,_=>False
   | some .string=>oK (qPK (evD env x) (evD env i)) (K · s)
   | _=>False
 | .typeAssert x _ t ok=>match P.underlying t with
   | some (.interface _)=>False
   | some _=>oK (qR9 t (qEp P t) ok (evD env x)) (K · s)
   | none=>False
 | .extract x i=>oK (qAN (evD env x) i) (K · s)
 | .makeMap t r=>match P.underlying t with
   | some (.map _ _)=>match r with
     | none=>mapK K s
     | some x=>intK (evD env x) (mapK K s)
   | _=>False
 | .entry x=>oK (entD s (evD env x)) (K · s)
 | .range t x=>match P.underlying t with
   | some (.map _ _)=>qRu (evD env x) K s
   | _=>False
 | .lookup t x k ok=>match P.underlying t with
   | some (.map kt et)=>match P.underlying kt,qEp P et with
     | some (.int _),some z=>oK (getM s (evD env x) (evD env k)) λr=>K (retM z ok r) s
     | some _,some z=>oK (getG P kt s (evD env x) (evD env k)) λr=>K (retM z ok r) s
     | _,_=>False
   | _=>False
 | .mapUpdate t m k x=>match P.underlying t with
   | some (.map kt _)=>match P.underlying kt with
     | some (.int _)=>oK (putM s (evD env m) (evD env k) (evD env x)) (K .undef)
     | some _=>oK (putG P kt s (evD env m) (evD env k) (evD env x)) (K .undef)
     | none=>False
   | _=>False
 | .call c=>match c.callee with
   | .builtin b=>qVp P b c.argTypes.toList (c.args.toList.map (evD env)) K s
   | .invoke r name=>qD4 P X (evD env r) name (c.args.toList.map (evD env)) K s
   | .value f=>match f with
     | .func k=>cond (isFn P k) (wC P X k (c.args.toList.map (evD env)) K s) False
     | f=>funK P X (evD env f) (c.args.toList.map (evD env)) K s
 | _=>False
def okOp (o:Op):Bool:=match o with
 | .load _ (.global _)=>true
 | o=>o.operands.toList.all okX
def setK (nt:Nat) (dst:Option Tmp) (env:Env) (v:AV) (K:Env→Prop):Prop:=match dst with
 | none=>K env
 | some d=>cond (Nat.blt d nt) (K (upd env d v)) False
abbrev Kn:=List (Nat × Option Bool)
def forget (kn:Kn):Option Tmp→Kn
 | none=>kn
 | some d=>kn.filter λp=>!Nat.beq p.1 d
def mark (kn:Kn):Option Tmp→Kn
 | none=>kn
 | some d=>(d,none) :: forget kn (some d)
def known:Kn→Nat→Option (Option Bool)
 | [],_=>none
 | p :: ps,d=>cond (Nat.beq p.1 d) (some p.2) (known ps d)
def qRR (all:List Oper) (j:Nat):Option Nat:=match all[j]? with
 | some o=>o.dst
 | none=>none
def qP6 (all:List Oper) (g:Option (Nat × Bool)) (kn:Kn) (env:Env) (go skip:Kn→Prop):Prop:=match g with
 | none=>go kn
 | some (j,w)=>match qRR all j with
   | none=>skip kn
   | some d=>match known kn d with
     | some (some b)=>cond (b == w) (go kn) (skip kn)
     | some none=>skip kn
     | none=>qAP (env d) (cond w (go ((d,some true) :: kn)) (skip ((d,some true) :: kn))) (cond w (skip ((d,some false) :: kn)) (go ((d,some false) :: kn)))
def opsE (nt:Nat) (all:List Oper):List Oper→Kn→Env→(Env→Hq→Prop)→Hq→Prop
 | [],_,env,K,s=>K env s
 | o :: os,kn,env,K,s=>qP6 all o.guard kn env
   (λkn=>wpOp P X env (λv s=>setK nt o.dst env v λenv=>opsE nt all os (forget kn o.dst) env K s) s o.op)
   (λkn=>setK nt o.dst env .undef λenv=>opsE nt all os (mark kn o.dst) env K s)
def cls:Op→Nat
 | .slice t _ _ _ _=>match P.underlying t with
   | some (.slice _)=>0
   | _=>1
 | .move _ | .assign _ | .pick _ _ _ | .nilCheck _ | .binOp _ _ _ _ _ | .unOp _ _ _ | .convert _ _ _ | .makeInterface _ _ | .makeFunc _ _ _ | .fieldAddr _ _ _ | .field _ _ _ | .indexAddr _ _ _ | .index _ _ _
 | .typeAssert _ _ _ _ | .extract _ _ | .build _ _ | .sliceToArrayPointer _ _=>0
 | .load _ _=>1
 | .lookup _ _ _ _=>1
 | .alloc _ | .box _ _ | .buildSlice _ _ _ | .makeSlice _ _ _ | .makeMap _ _=>2
 | .call c=>match c.callee with
   | .builtin .min | .builtin .max=>0
   | .builtin .len=>match c.argTypes.toList with
     | t :: _=>(match P.underlying t with
       | some (.slice _)=>0
       | _=>1)
     | []=>1
   | .builtin .append=>2
   | .builtin _=>3
   | _=>2
 | _=>3
def clsL (l:List Oper):List Nat:=l.map λo=>cls P o.op
def loose (cs mks:List Nat) (i:Nat):Bool:=(List.range cs.length).any λj=>!Nat.beq i j&&(!Nat.beq (cs.getD j 0) 0&&!Nat.testBit (mks.getD (max i j) 0) (min i j))
def memN (i:Nat):List Nat→Bool
 | []=>false
 | j :: l=>cond (Nat.beq i j) true (memN i l)
def mild (wl cs mks:List Nat) (i:Nat):Bool:=Nat.blt (cs.getD i 0) 2||(Nat.beq (cs.getD i 0) 2&&loose cs mks i&&!memN i wl)
def isSt:Op→Bool
 | .store _ _ _=>true
 | _=>false
def isLd:Op→Bool
 | .load _ _=>true
 | _=>false
def isNw:Op→Bool
 | .alloc _ | .box _ _=>true
 | _=>false
def wld (wl cs:List Nat) (i:Nat):Bool:=memN i wl&&Nat.beq (cs.getD i 0) 2
def sft (wl:List Nat) (all:List Oper) (cs mks:List Nat) (i:Nat):Bool:=match all[i]? with
 | some o=>(isSt o.op&&loose cs mks i)||wld wl cs i
 | none=>false
def soft (wl:List Nat) (all:List Oper) (cs mks:List Nat) (i:Nat):Bool:=mild wl cs mks i||sft wl all cs mks i
def watched (wl:List Nat) (all:List Oper) (cs mks:List Nat) (i:Nat):Bool:=match all[i]? with
 | some o=>isLd o.op&&(List.range cs.length).any λj=>Nat.blt i j&&sft wl all cs mks j&&!Nat.testBit (mks.getD j 0) i
 | none=>false
def tch (wl:List Nat) (all:List Oper) (cs mks:List Nat) (i:Nat):Bool:=watched wl all cs mks i||sft wl all cs mks i||(mild wl cs mks i&&match all[i]? with
 | some o=>isNw o.op
 | none=>false)
def qOe (wl:List Nat) (ops:Array Oper) (cs mks:List Nat):Bool:=(List.range cs.length).all λj=>(List.range j).all λi=>Nat.testBit (mks.getD j 0) i ||
 (match ops[i]?,ops[j]? with
  | some p,some o=>Oper.apart ops p o&&(Nat.beq (cs.getD i 0) 0||(Nat.beq (cs.getD j 0) 0||((soft wl ops.toList cs mks i&&mild wl cs mks j)||(tch wl ops.toList cs mks i&&sft wl ops.toList cs mks j))))
  | _,_=>false)
def minus (s h:Hq):Hq:=λb=>if h b=none then s b else none
def rest (s r:Hq):Hq:=λb=>if r b=none then s b else none
def qRB:Hq:=λ_=>some (false,.deferred true)
def qI4:AV→Nat
 | .ptr b _=>b
 | _=>0
def qLc (env:Env):Op→Nat
 | .load _ a=>match a with
   | .global g=>g
   | a=>qI4 (evD env a)
 | .store _ a _=>qI4 (evD env a)
 | _=>0
def frz (s:Hq):Hq:=λb=>match s b with
 | some (_,x)=>some (true,x)
 | none=>none
def cutH:List (Hq × Hq)→Hq→Hq
 | [],s=>s
 | p :: l,s=>cutH l λb=>if p.1 b=none∧p.2 b≠none then none else s b
def qCs (mk:Nat):List (Nat × Hq × Hq)→List (Hq × Hq)
 | []=>[]
 | p :: l=>cond (Nat.testBit mk p.1) (qCs mk l) (p.2 :: qCs mk l)
def opsQ (wl:List Nat) (nt:Nat) (all:List Oper) (cs mks:List Nat):List Oper→Nat→List (Nat × Hq × Hq)→List (Nat × Hq × Hq)→Kn→Env→(Env→Hq→Prop)→Hq→Prop
 | [],_,_,_,_,env,K,s=>K env s
 | o :: os,i,done,rds,kn,env,K,s=>qP6 all o.guard kn env
   (λkn=>match cls P o.op with
    | 0=>wpOp P X env (λv _=>setK nt o.dst env v λenv=>opsQ wl nt all cs mks os (i+1) done rds (forget kn o.dst) env K s) s o.op
    | 1=>wpOp P X env (λv _=>setK nt o.dst env v λenv'=>opsQ wl nt all cs mks os (i+1) done (cond (watched wl all cs mks i) (rds ++ [(i,hdel s (qLc env o.op),s)]) rds) (forget kn o.dst) env' K s) (cutH (qCs (mks.getD i 0) done) s) o.op
    | _=>cond (mild wl cs mks i)
      (wpOp P X env (λv s2=>(∀ b,s b≠none→cutH (qCs (mks.getD i 0) done) s b=none→s2 b=none)→setK nt o.dst env v λenv=>opsQ wl nt all cs mks os (i+1) (done ++ [(i,s,add s s2)]) rds (forget kn o.dst) env K (add s s2)) (frz (cutH (qCs (mks.getD i 0) done) s)) o.op)
      (cond (wld wl cs i)
       (∃ h:Hq,(∀ b,h b≠none→s b≠none)∧wpOp P X env (λv s2=>(∀ b,s b≠none→cutH (qCs (mks.getD i 0) (done ++ rds)) (minus s h) b=none→s2 b=none)→setK nt o.dst env v λenv=>opsQ wl nt all cs mks os (i+1) (done ++ [(i,h,qRB)]) rds (forget kn o.dst) env K (add s2 (rest s (cutH (qCs (mks.getD i 0) (done ++ rds)) (minus s h))))) (cutH (qCs (mks.getD i 0) (done ++ rds)) (minus s h)) o.op)
      (cond (sft wl all cs mks i)
       (cutH (qCs (mks.getD i 0) (done ++ rds)) s (qLc env o.op)≠none∧wpOp P X env (λv s2=>setK nt o.dst env v λenv'=>opsQ wl nt all cs mks os (i+1) (done ++ [(i,hdel s (qLc env o.op),s)]) rds (forget kn o.dst) env' K s2) s o.op)
       (wpOp P X env (λv s=>setK nt o.dst env v λenv=>opsQ wl nt all cs mks os (i+1) done rds (forget kn o.dst) env K s) s o.op))))
   (λkn=>setK nt o.dst env .undef λenv=>opsQ wl nt all cs mks os (i+1) done rds (mark kn o.dst) env K s)
end
end Go.AM
namespace Go.AM
open Go
variable {α β:Type}
def LeM (m m':M α):Prop:=∀ H r,m H=some r→m' H=some r
theorem LeM.refl (m:M α):LeM m m:=λ_ _ h=>h
theorem LeM.bd {m m':M α} {f f':α→M β} (hm:LeM m m') (hf:∀ a,LeM (f a) (f' a)):LeM (bd m f) (bd m' f'):=by
 intro H r h
 obtain ⟨a,H1,h1,h2⟩:=qAR h
 show AM.bd _ _ _=_
 unfold AM.bd
 rw [hm H _ h1]
 exact hf a H1 r h2
theorem LeM.cond {b:Bool} {x x' y y':M α} (hx:LeM x x') (hy:LeM y y'):LeM (_root_.cond b x y) (_root_.cond b x' y'):=by cases b <;> assumption
theorem LeM.capture {m m':M α} (hm:LeM m m'):LeM (capture m) (capture m'):=by
 intro H r h
 unfold AM.capture at h ⊢
 split at h
 ·cases h
 ·rename_i a H' e
  rw [hm _ _ e]
  exact h
theorem LeM.outVal {m m':M Out} (h:LeM m m'):LeM (outVal m) (outVal m'):=LeM.bd h λ_=>LeM.refl _
section
variable {P : Program} {ih ih' : Task → M Out} (hih : ∀ t, LeM (ih t) (ih' t))
include hih
theorem qPE (x:ANext):LeM (qE5 ih x) (qE5 ih' x):=by
 unfold qE5
 split <;> first | exact LeM.refl _ | exact LeM.outVal (hih _)
theorem qMX (nt:Nat) (all:List Oper) (o:Oper) (T:Tmps):LeM (qJ5 P ih nt all o T) (qJ5 P ih' nt all o T):=by
 refine LeM.bd ?_ λ_=>LeM.refl _
 unfold qDc
 split
 ·exact LeM.bd (LeM.refl _) λ_=>qPE hih _
 ·exact LeM.refl _
 ·exact LeM.refl _
theorem qRY (nt:Nat) (all:List Oper):∀ (l:List Oper) (T:Tmps),LeM (opsA P ih nt all l T) (opsA P ih' nt all l T)
 | [],_=>LeM.refl _
 | _ :: l,_=>LeM.bd (qMX hih _ _ _ _) λ_=>qRY nt all l _
theorem qRn (nt:Nat) (all:Array Oper):∀ (l:List Oper) (mks:List Nat) (done:List (Oper × List (Nat × Bool))) (T:Tmps),LeM (opsD P ih nt all l mks done T) (opsD P ih' nt all l mks done T)
 | [],_,_,_=>LeM.refl _
 | _ :: _,[],_,_=>LeM.refl _
 | _ :: l,_ :: mks,_,_=>LeM.bd (LeM.capture (qMX hih _ _ _ _)) λ_=>LeM.cond (qRn nt all l mks _ _) (LeM.refl _)
omit hih in
theorem qYM {m m':M α} (h:LeM m m'):∀ H L,oneN m H=some L→oneN m' H=some L:=by
 intro H L h1
 unfold oneN at h1 ⊢
 cases h2:m H with
 | none=>simp [h2] at h1
 | some r=>rw [h _ _ h2];rw [h2] at h1;exact h1
omit hih in
theorem qV5 {m m':N α} {f f':α→N β} (hm:∀ H L,m H=some L→m' H=some L) (hf:∀ a H L,f a H=some L→f' a H=some L):∀ H L,bdN m f H=some L→bdN m' f' H=some L:=by
 intro H L h
 unfold bdN at h ⊢
 cases h1:m H with
 | none=>simp [h1] at h
 | some l=>
   simp only [h1] at h
   rw [hm _ _ h1]
   have:∀ (l:List (α × AH)) L,allN f l=some L→allN f' l=some L:=by
    intro l
    induction l with
    | nil=>intro L h;exact h
    | cons p l ih=>
      obtain ⟨a,K⟩:=p
      intro L h
      unfold allN at h ⊢
      cases h2:f a K with
      | none=>simp [h2] at h
      | some lq=>
        cases h3:allN f l with
        | none=>simp [h2,h3] at h
        | some Lr=>
          simp only [h2,h3] at h
          rw [hf _ _ _ h2,ih _ h3]
          exact h
   exact this l L h
theorem qLz (nt:Nat) (r:Option Nat) (s:MapStep):∀ (k:Nat) (T:Tmps) (ms:List Mk) H L,qCJ ih nt r s k T ms H=some L→qCJ ih' nt r s k T ms H=some L
 | 0,_,_,_,_,h=>by cases h
 | k+1,T,ms,H,L,h=>by
   unfold qCJ at h ⊢
   revert H L
   refine qV5 (λ_ _ h=>h) λh=>?_
   obtain ⟨d,left⟩:=h
   cases left with
   | nil=>exact qYM (LeM.bd (hih _) λ_=>LeM.refl _)
   | cons e0 es0=>
     refine qV5 (λ_ _ h=>h) λe=>qV5 (qYM (LeM.bd (LeM.refl _) λ_=>hih _)) λo=>?_
     cases o with
     | val v=>exact λ_ _ h=>h
     | exit e T ms=>
       cases e with
       | nrm=>exact qLz nt r s k _ _
       | exit id=>exact λ_ _ h=>h
       | ret=>exact λ_ _ h=>h
theorem qTJ (nt:Nat) (r:Option Nat) (s:MapStep) (T:Tmps) (ms:List Mk):LeM (qIN ih nt r s T ms) (qIN ih' nt r s T ms):=by
 refine LeM.cond ?_ (LeM.refl _)
 intro H x h
 cases h1:qCJ ih nt r s 1000 T ms { H with log:=[] } with
 | none=>simp only [h1] at h;cases h
 | some L=>simp only [h1] at h;simp only [qLz hih nt r s 1000 T ms _ L h1];exact h
theorem qTc (nt:Nat) (r:Option Nat) (c:Code) (T:Tmps) (ms:List Mk):LeM (qBF P ih nt r c T ms) (qBF P ih' nt r c T ms):=by
 unfold qBF
 repeat' first | exact LeM.refl _ | exact hih _ | exact qTJ hih _ _ _ _ _ | exact LeM.outVal (hih _) | exact qRn hih _ _ _ _ _ _ | exact qRY hih _ _ _ _ | (refine LeM.cond ?_ ?_) | (refine LeM.bd ?_ λ_=>?_) | split
theorem qWH (k:FuncId) (args:List AV):LeM (qL4 P ih k args) (qL4 P ih' k args):=by
 unfold qL4
 repeat' first | exact LeM.refl _ | exact hih _ | (refine LeM.cond ?_ ?_) | (refine LeM.bd ?_ λ_=>?_) | split
theorem qDW:∀ l:List Mk,LeM (qBw P ih l) (qBw P ih' l)
 | []=>LeM.refl _
 | .mark _ :: l=>LeM.bd (LeM.refl _) λ_=>by
   split
   ·exact LeM.bd (LeM.refl _) λ_=>qDW l
   ·exact LeM.refl _
 | .call _ _ :: l=>LeM.bd (qWH hih _ _) λ_=>qDW l
theorem qTS (f:FuncId) (args:List AV):LeM (qCV P ih f args) (qCV P ih' f args):=by
 unfold qCV
 repeat' first | exact LeM.refl _ | exact hih _ | exact qDW hih _ | (refine LeM.cond ?_ ?_) | (refine LeM.bd ?_ λ_=>?_) | split
theorem qSA (l:Nat) (args:List AV):LeM (qFF ih l args) (qFF ih' l args):=by
 unfold qFF
 repeat' first | exact LeM.refl _ | exact hih _ | (refine LeM.bd ?_ λ_=>?_) | split
theorem qTp {X:Td} (t:Task):LeM (qJW P X ih t) (qJW P X ih' t):=by
 cases t with
 | code=>exact qTc hih _ _ _ _ _
 | call f args=>
   show LeM (match X f with
    | some g=>bd (g args) λv=>ret (.val v)
    | none=>qCV P ih f args) (match X f with
    | some g=>bd (g args) λv=>ret (.val v)
    | none=>qCV P ih' f args)
   split
   ·exact LeM.refl _
   ·exact qTS hih _ _
 | round=>exact qSA hih _ _
end
theorem qDt {P:Program} {X:Td}:∀ (n:Nat) (t:Task),LeM (run P X n t) (run P X (n+1) t)
 | 0,_=>λH _ h=>(qAD (H:=H) h).elim
 | n+1,t=>qTp (qDt n) t
theorem qDV {m:Nat→M α} (h:∀ n,LeM (m n) (m (n+1))):Mono m:=by
 intro n n' H r hle hr
 induction hle with
 | refl=>exact hr
 | step _ ih=>exact h _ H r ih
theorem qDy {P:Program} {X:Td} (t:Task):Mono λn=>run P X n t:=qDV λn=>qDt n t
theorem qPp {P:Program} {X:Td} (x:ANext):Mono λn=>qE5 (run P X n) x:=qDV λn=>qPE (qDt n) x
theorem qQh {P:Program} {X:Td} (nt:Nat) (all l:List Oper) (T:Tmps):Mono λn=>opsA P (run P X n) nt all l T:=qDV λn=>qRY (qDt n) nt all l T
theorem qC0:∀ {a b:List AV},qAb a=true→qAb b=true→qAb (a ++ b)=true
 | [],_,_,h=>h
 | x :: a,b,h1,h2=>by
   simp only [qAb,Bool.and_eq_true] at h1
   simp only [List.cons_append,qAb,Bool.and_eq_true]
   exact ⟨h1.1,qC0 h1.2 h2⟩
theorem qNw {z:List AV} (h:qAb z=true):∀ n,qAb (repl n z)=true
 | 0=>rfl
 | n+1=>qC0 h (qNw h n)
theorem qE3:∀ {l:List AV},qAb l=true→∀ x∈l,x.one=true
 | [],_,_,h=>by cases h
 | y :: l,h,x,hx=>by
   simp only [qAb,Bool.and_eq_true] at h
   rcases mC hx with e | e
   ·rw [e];exact h.1
   ·exact qE3 h.2 x e
theorem qJV:∀ {l:List AV},(∀ x∈l,x.one=true)→qAb l=true
 | [],_=>rfl
 | y :: l,h=>by
   simp only [qAb,Bool.and_eq_true]
   exact ⟨h y (by simp),qJV λx hx=>h x (by simp [hx])⟩
variable {P:Program} {s:Hq}
theorem qAo {o:Option α} {K:α→Prop} (h:oK o K):∃ a,o=some a∧K a:=by
 cases o with
 | none=>exact h.elim
 | some a=>exact ⟨a,rfl,h⟩
theorem qRd {l r:List AV} {o n:Nat} (h:qJM l o n=some r):o+n≤l.length∧r=(l.drop o).take n:=by
 unfold qJM at h
 obtain ⟨h1,h2⟩:=qAY h
 exact ⟨Nat.le_of_ble_eq_true h1,(Option.some.inj h2).symm⟩
theorem qOa {c:Tr AV} {l:List AV} (hc:∀ i,i < l.length→c.get i=l[i]?):∀ (n o:Nat),o+n≤l.length→qEy c o n=some ((l.drop o).take n)
 | 0,o,_=>by simp [qEy]
 | n+1,o,h=>by
   have h1:=hc o (by omega)
   rw [gE (by omega)] at h1
   rw [qEy,h1]
   simp only [qOa hc n (o+1) (by omega)]
   rw [List.drop_eq_getElem_cons (by omega:o < l.length),List.take_succ_cons]
theorem qL9 {b o n:Nat} {l:List AV} {Q:List AV→Hq→Prop} (h:rdN s n (.ptr b o)=some l) (hQ:qAb l=true→Q l s):wpF (λ_=>qCk b o n) Q s:=by
 unfold rdN at h
 simp only at h
 split at h
 ·rename_i t e c hb
  obtain ⟨h1,rfl⟩:=qRd h
  unfold qCk
  refine wpF.bd (.const _) (λ_=>.const _) (wpF.rd hb λab hab=>?_)
  cases ab with
  | cells e' c' n'=>
    obtain ⟨_,_,h2,h3⟩:=hab
    exact wpF.lift (qOa h3 n o h1) (hQ (qJV λx hx=>qE3 h2 x (List.mem_of_mem_drop (List.mem_of_mem_take hx))))
  | _=>exact hab.elim
 ·cases h
theorem qYr {b o:Nat} {v:AV} (h:rd1 s (.ptr b o)=some v):∃ t e l,s b=some (t,.cells e l)∧l[o]?=some v:=by
 unfold rd1 at h
 simp only at h
 split at h
 ·rename_i t e l hb;exact ⟨t,e,l,hb,h⟩
 ·cases h
theorem qRo {t:TypeId} {p:AV} {Q:AV→Hq→Prop} (h:qNy P t p (Q · s) s):wpF (λ_=>(match p with | .ptr b o=>qFa P t b o | _=>fail)) Q s:=by
 unfold qNy qKv at h
 cases ha:qDX P t with
 | none=>simp only [ha] at h
 | some ag=>
   cases ag with
   | true=>
     simp only [ha] at h
     cases hz:sz P t with
     | none=>simp only [hz] at h
     | some n=>
       simp only [hz] at h
       obtain ⟨l,h1,h2⟩:=qAo h
       cases p with
       | ptr b o=>
         simp only [qFa,ha,hz]
         exact wpF.bd (.const _) (λ_=>.const _) (qL9 h1 λ_=>wpF.ret h2)
       | _=>simp [rdN] at h1
   | false=>
     simp only [ha] at h
     obtain ⟨v,h1,h2⟩:=qAo h
     cases p with
     | ptr b o=>
       simp only [qFa,ha]
       obtain ⟨t',e,l,hb,hl⟩:=qYr h1
       refine wpF.bd (.const _) (λ_=>.const _) (wpF.rd hb λab hab=>?_)
       cases ab with
       | cells e' c' n'=>
         obtain ⟨_,_,_,h3⟩:=hab
         have hlt:o < l.length:=(gS hl).1
         exact wpF.lift (by rw [h3 o hlt,hl]) h2
       | _=>exact hab.elim
     | _=>simp [rd1] at h1
theorem qJS (l:List AV) (o:Nat) (vs:List AV) (h:o+vs.length≤l.length):(qAu l o vs).length=l.length:=by
 unfold qAu;simp;omega
theorem qL1 (l:List AV) (o:Nat) (vs:List AV) (h:o+vs.length≤l.length) (i:Nat):(qAu l o vs)[i]?=if o≤i∧i < o+vs.length then vs[i - o]? else l[i]?:=by
 unfold qAu
 have h1:(l.take o).length=o:=by simp;omega
 by_cases hi:i < o
 ·rw [List.append_assoc,List.getElem?_append_left (by omega),if_neg (by omega),List.getElem?_take,if_pos hi]
 ·by_cases hj:i < o+vs.length
  ·rw [if_pos ⟨by omega,hj⟩,List.append_assoc,List.getElem?_append_right (by omega),h1,List.getElem?_append_left (by omega)]
  ·rw [if_neg (by omega),List.getElem?_append_right (by simp;omega),List.getElem?_drop]
   congr 1
   simp;omega
theorem qQq (l:List AV) (o:Nat) (v:AV) (h:o < l.length):qAu l o [v]=l.set o v:=by
 apply List.ext_getElem?
 intro i
 rw [qL1 _ _ _ (by simp;omega),List.getElem?_set]
 by_cases e:o=i
 ·subst e;simp [h]
 ·rw [if_neg (by simp;omega),if_neg e]
theorem qEh {b o:Nat} {vs:List AV} {s':Hq} {Q:Unit→Hq→Prop} (h:wrN s (.ptr b o) vs=some s') (hQ:Q () s'):wpF (λ_=>qCR b o vs) Q s:=by
 unfold wrN at h
 simp only at h
 split at h
 ·rename_i e l hb
  obtain ⟨h1,h2⟩:=qAY h
  cases h2
  obtain ⟨h3,h4⟩:=Bool.and_eq_true_iff.1 h1
  have h3':=Nat.le_of_ble_eq_true h3
  unfold qCR
  refine wpF.bd (.const _) (λ_=>.const _) (wpF.rd hb λab hab=>?_)
  cases ab with
  | cells e' c' n'=>
    obtain ⟨rfl,rfl,h6,h5⟩:=hab
    refine wpF.cond (by rw [h3,h4];rfl) (wpF.wr (x:=.cells e (qAu l o vs)) hb ⟨rfl,(qJS _ _ _ h3').symm,?_,λi hi=>?_⟩ hQ)
    ·unfold qAu
     exact qC0 (qC0 (qJV λx hx=>qE3 h6 x (List.mem_of_mem_take hx)) h4) (qJV λx hx=>qE3 h6 x (List.mem_of_mem_drop hx))
    rw [Tr.get_ofListAt,qL1 _ _ _ h3']
    rw [qJS _ _ _ h3'] at hi
    split
    ·rfl
    ·exact h5 i hi
  | _=>exact hab.elim
 ·cases h
theorem qBk {v:AV} (h:v.one=true):v.cells=[v]:=by cases v <;> simp [AV.one] at h <;> rfl
theorem qXN {t:TypeId} {p v:AV} {K:AV→Hq→Prop} (h:qVJ P t p v K s):wpF (λ_=>qJd P t p v) (λ_ s'=>K .undef s') s:=by
 unfold qVJ at h
 cases ha:qKv P t with
 | none=>simp only [ha] at h
 | some g=>
   cases g with
   | some n=>
     simp only [ha] at h
     obtain ⟨s',h1,h2⟩:=qAo h
     have hsz:sz P t=some n:=by
      unfold qKv at ha
      split at ha
      ·cases hq:sz P t with
       | none=>simp [hq] at ha
       | some m=>simp [hq] at ha;rw [ha]
      ·cases ha
      ·cases ha
     unfold qBo at h1
     obtain ⟨h3,h4⟩:=qAY h1
     cases p with
     | ptr b o=>
       unfold qJd
       simp only [hsz]
       exact wpF.cond h3 (qEh (Q:=λ_ s'=>K .undef s') h4 h2)
     | _=>simp [wrN] at h4
   | none=>
     cases hn:sz P t with
     | none=>simp only [ha,hn] at h
     | some m=>
       simp only [ha,hn] at h
       split at h
       ·rename_i e2;cases e2
       ·rename_i e1 e2
        cases e2
        obtain ⟨s',h1,h2⟩:=qAo h
        cases p with
        | ptr b o=>
          unfold wr1 at h1
          simp only at h1
          split at h1
          ·rename_i e l hb
           obtain ⟨h3,h4⟩:=qAY h1
           obtain ⟨h5,h6⟩:=Bool.and_eq_true_iff.1 h3
           have h5':o < l.length:=by rwa [Nat.blt_eq] at h5
           unfold qJd
           simp only [hn,qBk h6]
           refine wpF.cond rfl (qEh (Q:=λ_ s'=>K .undef s') (s':=s') ?_ h2)
           unfold wrN
           simp only [hb]
           have e1:Nat.ble (o+[v].length) l.length=true:=bL (by simp;omega)
           have e2:qAb [v]=true:=by simp [qAb,h6]
           rw [e1,e2,qQq _ _ _ h5']
           exact h4
          ·cases h1
        | _=>simp [wr1] at h1
       ·exact h.elim
theorem qJF (cs:List AV) (i:Nat) (h:i < cs.length):(Tr.ofListAt .nil 0 cs).get i=cs[i]?:=by
 rw [Tr.get_ofListAt,if_pos ⟨Nat.zero_le _,by omega⟩];rfl
theorem qQ6 {elem:TypeId} {cs:List AV} {Q:Nat→Hq→Prop} (h1:qAb cs=true) (h:newK elem cs Q s):wpF (λ_=>qB0 elem cs) Q s:=by
 unfold qB0
 exact wpF.cond h1 (wpF.nw (x:=.cells elem cs) ⟨rfl,rfl,h1,λi hi=>qJF cs i hi⟩ h)
end Go.AM
namespace Go.AM
open Go
variable {P:Program} {s:Hq} {T:Tmps} {env:Env}
theorem qMK {x:Operand} (hT:TR T env) (h:okX x=true):ev T x=some (evD env x):=by
 cases x with
 | tmp t=>
   have:=hT t
   simp only [ev,evD,← this,tget]
   cases T.get t <;> rfl
 | const v=>
   simp only [okX] at h
   simp only [ev,evD]
   cases hv:ofV 2 v with
   | none=>rw [hv] at h;cases h
   | some a=>rfl
 | func f=>rfl
 | global g=>cases h
theorem qOJ (hT:TR T env):∀ {l:List Operand},l.all okX=true→evs T l=some (l.map (evD env))
 | [],_=>rfl
 | x :: l,h=>by
   simp only [List.all_cons,Bool.and_eq_true] at h
   simp only [evs,qMK hT h.1,qOJ hT h.2,List.map_cons]
theorem qSl (hT:TR T env) {x:Option Operand} (h:∀ y,x=some y→okX y=true):opt T x=some (oev env x):=by
 cases x with
 | none=>rfl
 | some y=>simp only [opt,qMK hT (h y rfl),oev]
theorem qLr (hT:TR T env):∀ {l:List (Nat × Operand)},(l.map (·.2)).all okX=true→qDn T l=some (l.map λp=>(p.1,evD env p.2))
 | [],_=>rfl
 | p :: l,h=>by
   obtain ⟨i,x⟩:=p
   simp only [List.map_cons,List.all_cons,Bool.and_eq_true] at h
   simp only [qDn,qMK hT h.1,qLr hT h.2,List.map_cons]
theorem qPn {place:Nat→Option (Nat × Nat)}:∀ {l:List (Nat × Operand)} {r:List (Nat × Nat × Operand)} {cs:List AV},places place l=some r→qNm place cs (l.map λp=>(p.1,evD env p.2))=qA2 cs (evPl env r)
 | [],r,cs,h=>by cases h;rfl
 | (i,x) :: l,r,cs,h=>by
   simp only [places] at h
   cases h1:place i with
   | none=>simp only [h1] at h;cases h
   | some p=>
     obtain ⟨off,size⟩:=p
     cases h2:places place l with
     | none=>simp only [h1,h2] at h;cases h
     | some r'=>
       simp only [h1,h2] at h
       cases h
       simp only [List.map_cons,qNm,h1,evPl,qA2]
       rw [qPn h2]
theorem okv {o o':Option AV} {n:Nat→ANext→M AV} {Q:AV→Hq→Prop} (hn:∀ k v,n k (.val v)=ret v) (h:oK o (Q · s)) (e:∀ v,o=some v→o'=some v) :
  wpF (λk=>bd (bd (lift o') λx=>ret (ANext.val x)) (n k)) Q s:=by
 obtain ⟨v,h1,h2⟩:=qAo h
 intro H hH
 refine ⟨0,v,H,?_,s,hH,.refl _,h2⟩
 rw [e v h1]
 show n 0 (.val v) H=_
 rw [hn];rfl
theorem kval {m:M AV} {n:Nat→ANext→M AV} {Q:AV→Hq→Prop} (hn:∀ k v,n k (.val v)=ret v) (h:wpF (λ_=>m) Q s) :
  wpF (λk=>bd (bd m λx=>ret (ANext.val x)) (n k)) Q s:=by
 refine h.congr λk=>?_
 funext H
 simp only [bd]
 cases m H with
 | none=>rfl
 | some r=>simp only [ret,hn]
theorem kunit {m:M Unit} {n:Nat→ANext→M AV} {Q:AV→Hq→Prop} (hn:∀ k v,n k (.val v)=ret v) (h:wpF (λ_=>m) (λ_ s'=>Q .undef s') s) :
  wpF (λk=>bd (bd m λ_=>ret (ANext.val .undef)) (n k)) Q s:=by
 intro H hH
 obtain ⟨n1,a,H',h1,h2⟩:=h H hH
 exact ⟨0,.undef,H',by simp only [bd,h1,ret,hn],h2⟩
theorem qVX {t:TypeId} {g:Option Nat} (hg:qKv P t=some g) {cs:List AV} {off:Nat} {v:AV} (h:qWb g off cs=some v):qGh P t cs off=some v:=by
 unfold qKv at hg
 unfold qGh
 cases ha:qDX P t with
 | none=>simp only [ha] at hg;cases hg
 | some b=>
   cases b with
   | true=>
     simp only [ha] at hg ⊢
     cases hz:sz P t with
     | none=>simp only [hz] at hg;cases hg
     | some n=>
       simp only [hz] at hg ⊢
       cases hg
       simp only [qWb,qJM] at h
       cases hb:Nat.ble (off+n) cs.length with
       | true=>simp only [hb,cond_true,Option.map_some,Option.some.injEq] at h ⊢;exact h
       | false=>simp only [hb,cond_false,Option.map_none] at h;cases h
   | false=>
     simp only [ha] at hg ⊢
     cases hg
     exact h
theorem qQG {t:TypeId} {f k:Nat} (hk:qXX P t f=some k) (x v:AV) (h:qAF k x=some v):qDG P t x f=some v:=by
 unfold qAF at h
 split at h
 ·rename_i b o
  unfold qXX at hk
  unfold qDG
  cases hu:P.underlying t with
  | none=>simp only [hu] at hk;cases hk
  | some d=>
    cases d with
    | struct fields=>
      simp only [hu] at hk ⊢
      cases hf:fields[f]? with
      | none=>simp only [hf] at hk;cases hk
      | some fd=>
        simp only [hf] at hk ⊢
        cases hz:sz P fd.type with
        | none=>simp only [hz] at hk;cases hk
        | some m=>
          cases m with
          | zero=>simp only [hz] at hk;cases hk
          | succ m=>simp only [hz] at hk ⊢;cases hk;rw [qA6];exact h
    | _=>simp only [hu] at hk;cases hk
 ·cases h
theorem qWG {t:TypeId} {len n:Nat} {elem:TypeId} (hu:P.underlying t=some (.array len elem)) (hz:sz P elem=some n) (x i v:AV) (h:qGE len n x i=some v):qDe P t x i=some v:=by
 unfold qGE at h
 split at h
 ·rename_i b o j hj
  simp only [qDe,hu,hj,hz,qA6];exact h
 ·cases h
theorem qVE {t:TypeId} {n:Nat} {elem:TypeId} (hu:P.underlying t=some (.slice elem)) (hz:sz P elem=some n) (x i v:AV) (h:qAO n x i=some v):qDe P t x i=some v:=by
 unfold qAO at h
 split at h
 ·rename_i b o len c es j hj
  simp only [qDe,hu,hj,hz,qA6];exact h
 ·cases h
theorem qUX {t:TypeId} {len n:Nat} {elem:TypeId} {g:Option Nat} (hu:P.underlying t=some (.array len elem)) (hz:sz P elem=some n) (hg:qKv P elem=some g) (x i v:AV) (h:qWO len n g x i=some v):qLK P t x i=some v:=by
 unfold qWO at h
 split at h
 ·rename_i cs j hj
  simp only [qLK,hu,hj,hz]
  obtain ⟨h1,h2⟩:=qAY h
  rw [h1];exact qVX hg h2
 ·cases h
theorem qR5 {t:TypeId} (hu:P.underlying t=some .string) (x i v:AV) (h:qPK x i=some v):qLK P t x i=some v:=by
 unfold qPK at h
 split at h
 ·rename_i cs j hj
  simp only [qLK,hu,hj]
  cases hb:cs[j]? with
  | none=>simp only [hb] at h;cases h
  | some b=>simp only [hb,qA6] at h ⊢;exact h
 ·cases h
theorem qUq {t:TypeId} {es:Nat} {elem:TypeId} (hu:P.underlying t=some (.slice elem)) (hz:sz P elem=some es) (x v:AV) (lo hi mx:Option AV) (h:qDs es x lo hi mx=some v):qGk P t x lo hi mx=lift (some v):=by
 have e:qGk P t x lo hi mx=lift (qMn P t x lo hi mx):=by
  unfold qGk
  cases x <;> simp only [hu]
 rw [e]
 congr 1
 unfold qDs at h
 unfold qMn
 split at h
 ·rename_i b o len cap es'
  simp only [hu,hz]
  cases h1:bound mx (cap.getD len) (cap.getD len) with
  | none=>simp only [h1] at h;cases h
  | some m=>
    simp only [h1] at h ⊢
    cases h2:bound hi len m with
    | none=>simp only [h2] at h;cases h
    | some hh=>
      simp only [h2] at h ⊢
      cases h3:bound lo 0 hh with
      | none=>simp only [h3] at h;cases h
      | some l=>
        simp only [h3,qA6] at h ⊢
        obtain ⟨h4,h5⟩:=qAY h
        rw [h4]
        exact h5
 ·simp only [hu]
  cases h1:bound lo 0 0 with
  | none=>simp only [h1] at h;cases h
  | some a1=>
    cases h2:bound hi 0 0 with
    | none=>simp only [h1,h2] at h;cases h
    | some a2=>
      cases h3:bound mx 0 0 with
      | none=>simp only [h1,h2,h3] at h;cases h
      | some a3=>
        simp only [h1,h2,h3] at h ⊢
        obtain ⟨h4,h5⟩:=qAY h
        have hi:(P.info? elem).isSome=true:=by
         unfold sz at hz
         cases hq:P.info? elem with
         | none=>simp [hq] at hz
         | some _=>rfl
        rw [h4,hi];exact h5
 ·cases h
theorem qUN {t:TypeId} {es n:Nat} {elem:TypeId} {x:AV} {lo hi mx:Option AV} {Q:AV→Hq→Prop} (hu:P.underlying t=some (.array n elem)) (hz:sz P elem=some es) (h:oK (qV3 s n es x lo hi mx) (Q · s)):wpF (λ_=>qGk P t x lo hi mx) Q s:=by
 obtain ⟨v,h,hQ⟩:=qAo h
 unfold qV3 at h
 split at h
 ·rename_i b o
  split at h
  ·rename_i tg e l hb
   obtain ⟨h0,h⟩:=qAY h
   simp only [qGk,hu,hz]
   refine wpF.bd (.const _) (λ_=>.const _) (wpF.rd hb λab hab=>?_)
   cases ab with
   | cells e' c' N=>
     obtain ⟨_,rfl,_⟩:=hab
     refine wpF.cond h0 (wpF.lift (a:=v) ?_ hQ)
     simp only [qMn,hu,hz]
     cases h1:bound mx n n with
     | none=>simp only [h1] at h;cases h
     | some m=>
       simp only [h1] at h ⊢
       cases h2:bound hi n m with
       | none=>simp only [h2] at h;cases h
       | some hh=>
         simp only [h2] at h ⊢
         cases h3:bound lo 0 hh with
         | none=>simp only [h3] at h;cases h
         | some l=>
           simp only [h3,qA6] at h ⊢
           exact h
   | _=>exact hab.elim
  ·cases h
 ·cases h
theorem qVY {op:BinOp} {t:TypeId} {x y:Operand} (h1:op≠.shl) (h2:op≠.shr) (a b v:AV) (h:qAG op a b=some v):binA P op t x y a b=some v:=by
 unfold qAG at h
 split at h
 ·rename_i k m k' n
  unfold binA
  cases op <;> first | exact absurd rfl h1 | exact absurd rfl h2 | exact h
 ·cases h
theorem qQk {op:BinOp} {t:TypeId} {x y:Operand} (h1:op=.shl∨op=.shr) (a b v:AV) (h:qEF op a b=some v):binA P op t x y a b=some v:=by
 unfold qEF at h
 split at h
 ·rename_i k m k' n
  unfold binA
  rcases h1 with rfl | rfl <;> exact h
 ·cases h
theorem qQU {neg:Bool} {r:Option Bool} {v:AV} (h:negB neg r=some v):∃ b,r=some b∧v=.bool (cond neg (!b) b):=by
 cases r with
 | none=>cases h
 | some b=>exact ⟨b,rfl,(Option.some.inj h).symm⟩
theorem zAAr {neg:Bool} {d:TypeDesc} {kd:Nat} {t:TypeId} {x y:Operand} (hu:P.underlying t=some d) (hk:qP5 d=some kd) (a b v:AV) (h:negB neg (eqV kd (isC x||isC y) a b)=some v) :
  binA P (cond neg .neq .eql) t x y a b=some v:=by
 obtain ⟨r,hr,rfl⟩:=qQU h
 have key:∀ (hint:¬ ∃ k m k' n,a=.int k m∧b=.int k' n),qCY P t x y a b=true→aEq P 30 t a b=some r→binA P (cond neg .neq .eql) t x y a b=some (.bool (cond neg (!r) r)):=by
  intro hint hg he
  have:∀ op,binA P op t x y a b=(match op with
   | .eql=>cond (qCY P t x y a b) ((aEq P 30 t a b).map .bool) none
   | .neq=>cond (qCY P t x y a b) ((aEq P 30 t a b).map λr=>.bool !r) none
   | _=>none):=by
   intro op
   unfold binA
   split
   ·rename_i k m k' n;exact absurd ⟨k,m,k',n,rfl,rfl⟩ hint
   ·rfl
  rw [this]
  cases neg <;> simp [hg,he]
 unfold eqV at hr
 split at hr
 ·rename_i k m k' n
  obtain ⟨h1,h2⟩:=qAY hr
  cases h2
  unfold binA
  cases neg <;> simp only [cond_true,cond_false,h1,arith]
 all_goals first
  | (cases hr;done)
  | (obtain ⟨hcst,hr⟩:=qAY hr
     cases hr
     refine key (by simp) ?_ ?_
     ·simp only [qCY]
      rw [← hcst]
      cases x <;> cases y <;> rfl
     ·cases d <;> simp [qP5] at hk <;> simp [aEq,hu])
  | (cases hr
     refine key (by simp) ?_ ?_
     ·simp [qCY,qNH]
     ·cases d <;> simp [qP5] at hk <;> simp [aEq,hu])
theorem qZo {src dst:TypeId} {k k':IntKind} (h1:P.underlying src=some (.int k')) (h2:P.underlying dst=some (.int k)) (x v:AV) (h:qCi k x=some v):qF1 P src dst x=some v:=by
 unfold qCi at h
 split at h
 ·simp only [qF1,h1,h2,qDL];exact h
 ·cases h
theorem qWw {src dst:TypeId} (h1:P.underlying src=some .string) (h2:P.underlying dst=some .string) (x v:AV) (h:qY9 x=some v):qF1 P src dst x=some v:=by
 unfold qY9 at h
 split at h
 ·simp only [qF1,h1,h2];exact h
 ·cases h
theorem qZb {t:TypeId} {d:TypeDesc} {ok:Bool} (hu:P.underlying t=some d) (hd:∀ a,d≠.interface a) (x v:AV) (h:qR9 t (qEp P t) ok x=some v):qEA P x t ok=some v:=by
 unfold qEA
 unfold qR9 at h
 split at h
 ·rename_i t' v'
  rw [hu]
  cases d <;> first | exact absurd rfl (hd _) | exact h
 ·rw [hu]
  cases d <;> first | exact absurd rfl (hd _) | exact h
 ·cases h
end Go.AM
namespace Go.AM
open Go
variable {P:Program} {s:Hq} {K:AV→Hq→Prop}
theorem qPt {elem:TypeId} {cs:List AV} {f:Nat→AV} (h1:qAb cs=true) (h:newK elem cs (λb=>K (f b)) s):wpF (λ_=>bd (qB0 elem cs) λid=>ret (f id)) K s:=
 wpF.bd (.const _) (λ_=>.const _) (qQ6 h1 λb hb=>wpF.ret (h b hb))
theorem qRF {t:TypeId} {z:List AV} (h:zcells P t=some z):∃ v,qEp P t=some v∧z=v.cells∧qAb z=true:=by
 unfold zcells at h
 cases hz:qEp P t with
 | none=>simp only [hz] at h;cases h
 | some v=>
   simp only [hz] at h
   obtain ⟨h1,h2⟩:=qAY h
   cases h2
   exact ⟨v,rfl,rfl,h1⟩
theorem qOK {t:TypeId} {z:List AV} {es:Nat} (h:zelem P t=some (z,es)):∃ v,qEp P t=some v∧sz P t=some es∧z=v.cells∧z.length=es∧qAb z=true:=by
 unfold zelem at h
 cases hz:qEp P t with
 | none=>simp only [hz] at h;cases h
 | some v=>
   cases hs:sz P t with
   | none=>simp only [hz,hs] at h;cases h
   | some n=>
     simp only [hz,hs] at h
     obtain ⟨h1,h2⟩:=qAY h
     cases h2
     obtain ⟨h3,h4⟩:=Bool.and_eq_true_iff.1 h1
     exact ⟨v,rfl,rfl,rfl,bE h3,h4⟩
theorem qMR {t:TypeId} {z:List AV} {es:Nat} (h:zelem P t=some (z,es)) (n:Nat):zeros P t n=some (repl n z,es):=by
 obtain ⟨v,h1,h2,h3,h4,_⟩:=qOK h
 have:Nat.beq v.cells.length es=true:=by rw [← h3,h4];exact Nat.beq_refl _
 simp only [zeros,h1,h2,this,cond_true,h3]
theorem qHx {es n:Nat} {x:AV} {new:List AV} {Q:List AV→Hq→Prop} (h:rdSl s es x=some new) (hn:qAa x=some n) (hQ:qAb new=true→Q new s):wpF (λ_=>qJh es n x) Q s:=by
 unfold qJh
 cases x with
 | slc b o len cap es'=>
   cases hn
   unfold rdSl at h
   simp only at h
   obtain ⟨h1,h⟩:=qAY h
   refine wpF.cond h1 ?_
   cases hz:Nat.beq (n * es) 0 with
   | true=>rw [hz] at h;cases h;exact wpF.ret (hQ rfl)
   | false=>
     rw [hz,cond_false] at h
     split at h
     ·rename_i t e l hb
      refine qL9 (l:=new) ?_ hQ
      simp only [rdN,hb];exact h
     ·cases h
 | nilslc=>cases h;exact wpF.ret (hQ rfl)
 | _=>cases hn
theorem qYt {b:Nat} {elem:TypeId} {Q:Hq→Prop} (h:qQa elem b Q s):wpF (λ_=>qXm b elem) (λ_ s'=>Q s') s:=by
 unfold qQa at h
 split at h
 ·rename_i e l hb
  obtain ⟨rfl,h2⟩:=h
  unfold qXm
  refine wpF.bd (.const _) (λ_=>.const _) (wpF.rd hb λab hab=>?_)
  cases ab with
  | cells e' c' n'=>
    obtain ⟨rfl,_⟩:=hab
    exact wpF.cond (Nat.beq_refl _) (wpF.kill hb h2)
  | _=>exact hab.elim
 ·exact h.elim
theorem qNj {l:List AV} {elem:TypeId} {n es:Nat} {Q:AV→Hq→Prop} (hl:qAb l=true) (h:qUk elem es n l Q s):Nat.ble n 16777216=true∧wpF (λ_=>bd (qB0 elem l) λid=>ret (.slc id 0 n none es)) Q s:=
 ⟨bL h.1,qPt hl h.2⟩
theorem qUQ {st xt elem:TypeId} {xe:TypeId} {x y:AV} {z:List AV} {es by_:Nat} (hs:P.underlying st=some (.slice elem)) (hx:P.underlying xt=some (.slice xe)) (hz:zelem P elem=some (z,es)) (hb:qFj P elem=some by_)
  (hby:Nat.ble by_ 65536=true) (h:appK elem es x y K s):wpF (λ_=>qJA P st xt x y) K s:=by
 obtain ⟨new,h1,h⟩:=qAo h
 obtain ⟨n,h2,h⟩:=qAo h
 unfold qJA
 simp only [hs,hx,qMR hz,hb,lenX,h2]
 cases x with
 | nilslc=>
   simp only
   cases n with
   | zero=>exact wpF.ret h
   | succ n=>
     simp only at h ⊢
     have g1:=bL h.1
     refine wpF.cond (by rw [g1,hby];rfl) ?_
     refine wpF.bd (.const _) (λ_=>.const _) (qHx h1 h2 λhnew=>(qNj hnew h).2)
 | slc b o len cap es'=>
   simp only at h ⊢
   obtain ⟨rfl,h⟩:=h
   refine wpF.cond (Nat.beq_refl _) ?_
   cases n with
   | zero=>
     simp only at h
     cases cap with
     | some c=>
       have hc:Nat.ble (len+0) c=true:=bL h.1
       simp only [wayA,hc];exact wpF.ret h.2
     | none=>
       have:Nat.beq 0 0=true:=rfl
       simp only [wayA,this];exact wpF.ret h.2
   | succ n=>
     simp only at h
     cases cap with
     | some c=>
       simp only [wayA] at h ⊢
       cases hc:Nat.ble (len+(n+1)) c with
       | true=>
         simp only [hc,cond_true] at h ⊢
         obtain ⟨s',h3,h4⟩:=qAo h
         simp only [qA6]
         refine wpF.bd (.const _) (λ_=>.const _) (qHx h1 h2 λ_=>?_)
         exact wpF.bd (.const _) (λ_=>.const _) (qEh h3 (wpF.ret h4))
       | false=>
         simp only [hc,cond_false] at h ⊢
         obtain ⟨old,h3,h4⟩:=qAo h
         have g1:=bL h4.1
         refine wpF.cond (by rw [g1,hby];rfl) ?_
         refine wpF.bd (.const _) (λ_=>.const _) (qHx h3 rfl λhold=>?_)
         refine wpF.bd (.const _) (λ_=>.const _) (qHx h1 h2 λhnew=>?_)
         refine wpF.bd (.const _) (λ_=>.const _) (wpF.ret ?_)
         simp only [qA6]
         exact (qNj (qC0 hold hnew) h4).2
     | none=>
       have e0:Nat.beq (n+1) 0=false:=rfl
       simp only [wayA,e0] at h ⊢
       obtain ⟨old,h3,h4⟩:=qAo h
       have g1:Nat.ble (len+(n+1)) 16777216=true:=by
        unfold qQa at h4
        split at h4
        ·exact bL h4.2.1
        ·exact h4.elim
       refine wpF.cond (by rw [g1,hby];rfl) ?_
       refine wpF.bd (.const _) (λ_=>.const _) (qHx h3 rfl λhold=>?_)
       refine wpF.bd (.const _) (λ_=>.const _) (qHx h1 h2 λhnew=>?_)
       refine wpF.bd (.const _) (λ_=>.const _) ?_
       simp only [cond_true,qA6]
       exact (qYt h4).mono λ_ s' h5=>(qNj (qC0 hold hnew) h5).2
 | _=>exact h.elim
theorem qXS {t elem:TypeId} {x:AV} {z:List AV} {es:Nat} (ht:P.underlying t=some (.slice elem)) (hz:zelem P elem=some (z,es)) (h:qSR z es x K s):wpF (λ_=>qLw P t x) K s:=by
 unfold qLw
 cases x with
 | nilslc=>simp only [ht];exact wpF.ret h
 | slc b o n cap es'=>
   obtain ⟨rfl,h⟩:=h
   simp only [ht,qMR hz]
   refine wpF.cond (Nat.beq_refl _) ?_
   cases n with
   | zero=>exact wpF.ret h
   | succ n=>
     simp only at h ⊢
     obtain ⟨s',h3,h4⟩:=qAo h
     exact wpF.bd (.const _) (λ_=>.const _) (qEh h3 (wpF.ret h4))
 | _=>exact h.elim
theorem qY4 {t elem:TypeId} {d x:AV} {es:Nat} (ht:P.underlying t=some (.slice elem)) (hz:sz P elem=some es) (h:zAAZ es d x K s):wpF (λ_=>qQt P t d x) K s:=by
 obtain ⟨m,h1,h2⟩:=qAo h
 unfold qQt
 cases d with
 | slc b o k cap es'=>
   obtain ⟨rfl,h3,h4⟩:=h2
   have hk:qAa (.slc b o k cap es')=some k:=rfl
   simp only [ht,h1,hk,hz,qA6,Nat.min_eq_left h3]
   cases m with
   | zero=>exact h4.elim
   | succ m=>
     simp only at h4
     obtain ⟨cs,h5,h6⟩:=qAo h4
     obtain ⟨s',h7,h8⟩:=qAo h6
     refine wpF.bd (.const _) (λ_=>.const _) (qHx h5 h1 λ_=>?_)
     refine wpF.cond (Nat.beq_refl _) ?_
     exact wpF.bd (.const _) (λ_=>.const _) (qEh h7 (wpF.ret h8))
 | _=>exact h2.elim
theorem zAAW {t:TypeId} {d:TypeDesc} {x:AV} {n:Nat} (ht:P.underlying t=some d) (h:lenD d x=some n) (hK:K (.int .i64 n) s):wpF (λ_=>lenA P t x) K s:=by
 unfold lenA
 cases d with
 | string=>
   simp only [lenD] at h
   split at h
   ·cases h;simp only [ht];exact wpF.ret hK
   ·cases h
 | array m e=>cases h;simp only [ht];exact wpF.ret hK
 | slice e=>
   simp only [lenD] at h
   cases x with
   | slc b o m cap es=>cases h;simp only [ht];exact wpF.ret hK
   | nilslc=>cases h;simp only [ht];exact wpF.ret hK
   | _=>cases h
 | _=>cases h
theorem qZ8 {t:TypeId} {kt et:TypeId} {x:AV} {n:Nat} (ht:P.underlying t=some (.map kt et)) (h:lenM s x=some n) (hK:K (.int .i64 n) s):wpF (λ_=>lenA P t x) K s:=by
 unfold lenA
 cases x with
 | nilmap=>cases h;simp only [ht];exact wpF.ret hK
 | map b=>
   simp only [lenM] at h
   simp only [ht]
   split at h
   ·rename_i es c hb
    cases h
    refine wpF.bd (.const _) (λ_=>.const _) (wpF.rd hb λab hab=>?_)
    cases ab <;> first | exact hab.elim | skip
    obtain ⟨rfl,rfl⟩:=hab
    simp only [qA6]
    exact wpF.ret hK
   ·cases h
 | _=>cases h
theorem qTo {b:Builtin} {ts:List TypeId} {args:List AV} (h:qVp P b ts args K s):wpF (λ_=>qE8 P b ts args) K s:=by
 unfold qVp at h
 split at h
 ·rename_i st xt x y
  show wpF (λ_=>qJA P st xt x y) K s
  cases h1:P.underlying st with
  | none=>simp only [h1] at h
  | some d1=>
    cases h2:P.underlying xt with
    | none=>cases d1 <;> simp only [h1,h2] at h
    | some d2=>
      cases d1 with
      | slice elem=>
        cases d2 with
        | slice e2=>
          simp only [h1,h2] at h
          cases h3:zelem P elem with
          | none=>simp only [h3] at h
          | some p=>
            obtain ⟨z,es⟩:=p
            cases h4:qFj P elem with
            | none=>simp only [h3,h4] at h
            | some by_=>
              simp only [h3,h4] at h
              cases h5:Nat.ble by_ 65536 with
              | true=>rw [h5] at h;exact qUQ h1 h2 h3 h4 h5 h
              | false=>rw [h5] at h;exact h.elim
        | _=>simp only [h1,h2] at h
      | _=>simp only [h1,h2] at h
 ·rename_i t ts x
  show wpF (λ_=>lenA P t x) K s
  cases h1:P.underlying t with
  | none=>simp only [h1] at h
  | some d=>
    cases d with
    | map kt et=>
      simp only [h1] at h
      obtain ⟨n,h2,h3⟩:=qAo h
      exact qZ8 h1 h2 h3
    | _=>
      simp only [h1] at h
      obtain ⟨n,h2,h3⟩:=qAo h
      exact zAAW h1 h2 h3
 ·rename_i t ts x
  show wpF (λ_=>qLw P t x) K s
  cases h1:P.underlying t with
  | none=>simp only [h1] at h
  | some d=>
    cases d with
    | slice elem=>
      simp only [h1] at h
      cases h3:zelem P elem with
      | none=>simp only [h3] at h
      | some p=>
        obtain ⟨z,es⟩:=p
        simp only [h3] at h
        exact qXS h1 h3 h
    | _=>simp only [h1] at h
 ·rename_i t ts d x
  show wpF (λ_=>qQt P t d x) K s
  cases h1:P.underlying t with
  | none=>simp only [h1] at h
  | some dd=>
    cases dd with
    | slice elem=>
      simp only [h1] at h
      cases h3:sz P elem with
      | none=>simp only [h3] at h
      | some es=>
        simp only [h3] at h
        exact qY4 h1 h3 h
    | _=>simp only [h1] at h
 ·rename_i x xs
  obtain ⟨v,h1,h2⟩:=qAo h
  exact wpF.lift h1 h2
 ·rename_i x xs
  obtain ⟨v,h1,h2⟩:=qAo h
  exact wpF.lift h1 h2
 ·exact h.elim
end Go.AM
namespace Go.AM
open Go
variable {α β:Type} {P:Program} {X:Td} {s:Hq} {T:Tmps} {env:Env} {K:AV→Hq→Prop}
theorem qLi {m:Nat→M α} {f:Nat→α→M β} (hm:Mono m) (hf:∀ a,Mono λn=>f n a):Mono λn=>bd (m n) (f n):=by
 intro n n' H r hle h
 obtain ⟨a,H1,h1,h2⟩:=qAR h
 show AM.bd _ _ _=_
 unfold AM.bd
 rw [hm n n' H _ hle h1]
 exact hf a n n' H1 r hle h2
theorem qSi {γ:Type} (m:M α) (f:α→M β) (g:β→M γ):bd (bd m f) g=bd m λa=>bd (f a) g:=by
 funext H
 simp only [bd]
 cases m H with
 | none=>rfl
 | some r=>rfl
theorem qV9 {t:Task} (h:wpT P X t (λo s'=>∃ v,o=.val v∧K v s') s):wpF (λn=>outVal (run P X n t)) K s:=by
 refine wpF.bd (qDy t) (λ_=>.const _) (wpF.mono h ?_)
 rintro o s' ⟨v,rfl,hv⟩
 exact wpF.ret hv
theorem qZe {k:FuncId} {args:List AV} (h:goK P X k args K s):wpF (λn=>bd (goA P k args) (qE5 (run P X n))) K s:=by
 obtain ⟨h1,h2⟩:=h
 refine (qV9 h2).congr λn=>?_
 unfold goA
 rw [h1];rfl
theorem qVe {x:AV} {name:String} {args:List AV} (h:qD4 P X x name args K s):∃ t v,x=.ifc t v∧wpF (λn=>bd (bd (qBq P t v name) λp=>goA P p.1 (p.2 :: args)) (qE5 (run P X n))) K s:=by
 unfold qD4 at h
 split at h
 ·rename_i t v
  refine ⟨t,v,rfl,?_⟩
  refine (wpF.bd (f:=λn p=>bd (goA P p.1 (p.2 :: args)) (qE5 (run P X n))) (.const _) (λp=>qLi (.const _) λ_=>qPp _) (wpF.mono h λp s' hp=>qZe hp)).congr λn=>?_
  rw [qSi]
 ·exact h.elim
theorem qZU {c:Call} (hT:TR T env) (ho:c.operands.toList.all okX=true) (h:wpOp P X env K s (.call c)):wpF (λn=>bd (qH9 P T c) (qE5 (run P X n))) K s:=by
 have hargs:c.args.toList.all okX=true:=by
  have:∀ x∈c.args.toList,okX x=true:=λx hx=>List.all_eq_true.1 ho x (by unfold Call.operands;simp only [Array.toList_append,List.mem_append];exact .inr hx)
  exact List.all_eq_true.2 this
 have hev:=qOJ hT hargs
 unfold qH9
 rw [hev]
 simp only [wpOp] at h
 cases hc:c.callee with
 | builtin b=>
   simp only [hc] at h ⊢
   exact kval (n:=λk=>qE5 (run P X k)) (λ_ _=>rfl) (qTo h)
 | invoke r name=>
   have hr:okX r=true:=List.all_eq_true.1 ho r (by simp [Call.operands,hc])
   simp only [hc,qMK hT hr] at h ⊢
   obtain ⟨t,v,e,h⟩:=qVe h
   rw [e]
   exact h
 | value f=>
   have hf:okX f=true:=List.all_eq_true.1 ho f (by simp [Call.operands,hc])
   simp only [hc,qMK hT hf] at h ⊢
   have main:funK P X (evD env f) (c.args.toList.map (evD env)) K s→wpF (λn=>bd (match (some (evD env f):Option AV) with
    | some (.fn (.func k) first cap)=>goA P k (first ++ c.args.toList.map (evD env) ++ cap)
    | some (.fn (.method name) [.ifc t v] _)=>bd (qBq P t v name) λp=>goA P p.1 (p.2 :: c.args.toList.map (evD env))
    | some (.yield l)=>bd (rd l) λblk=>match blk with
      | .loop _ _ _ _ ps _ _ _=>cond (Nat.beq ps.length (c.args.toList.map (evD env)).length) (ret (.round l (c.args.toList.map (evD env)))) fail
      | _=>fail
    | _=>fail) (qE5 (run P X n))) K s:=by
    intro h
    unfold funK at h
    split at h
    ·rename_i k first cap he
     simp only [he];exact qZe h
    ·rename_i name x w he
     obtain ⟨t,v,e,h2⟩:=qVe h
     subst e
     simp only [he]
     exact h2
    ·rename_i l he
     simp only [he]
     obtain ⟨h1,h2⟩:=h
     unfold qPN at h1
     split at h1
     ·rename_i tg st pd nt en ps as bo d hb
      refine (wpF.bd (f:=λn blk=>bd (match blk with
       | .loop _ _ _ _ ps _ _ _=>cond (Nat.beq ps.length (c.args.toList.map (evD env)).length) (ret (.round l (c.args.toList.map (evD env)))) fail
       | _=>fail) (qE5 (run P X n))) (.const _) (λ_=>qLi (.const _) λ_=>qPp _) (wpF.rd hb λab hab=>?_)).congr λn=>(qSi _ _ _).symm
      cases ab with
      | loop st' pd' nt' T' ps' as' bo' d'=>
        obtain ⟨_,_,_,_,rfl,_⟩:=hab
        refine (qV9 h2).congr λn=>?_
        have:Nat.beq ps.length (c.args.toList.map (evD env)).length=true:=by rw [h1];exact Nat.beq_refl _
        simp only [this]
        rfl
      | _=>exact hab.elim
     ·exact h1.elim
    ·exact h.elim
   cases f with
   | func k=>
     simp only at h
     cases hk:isFn P k with
     | true=>
       rw [hk] at h
       have:=qZe (P:=P) (X:=X) (k:=k) (args:=c.args.toList.map (evD env)) ⟨hk,h⟩
       simpa [evD] using this
     | false=>rw [hk] at h;exact h.elim
   | tmp t=>exact main h
   | const v=>exact main h
   | global g=>cases hf
theorem qQR {l:List Operand} (h:l.all okX=true) {x:Operand} (hx:x∈l):okX x=true:=List.all_eq_true.1 h x hx
theorem qUx {kt:TypeId} {ik:IntKind} {k:AV}:∀ (es:List AEnt) (i:Nat),qJC P kt (.int ik) k es i=qN7 k es i:=by
 intro es
 induction es with
 | nil=>intro i;rfl
 | cons e es ih=>
   intro i
   have:qSe P kt (.int ik) k e.key=qPy (.int .i64) k e.key:=by
    show qPy (.int ik) k e.key=_
    cases k <;> cases e.key <;> rfl
   unfold qJC qN7
   rw [this]
   cases qPy (.int .i64) k e.key with
   | none=>rfl
   | some b=>cases b <;> simp [ih]
theorem qYV {kt:TypeId} {ik jk:IntKind} {n:Int} (h:P.underlying kt=some (.int ik)):qHX P 10 kt (.int jk n)=true:=by
 unfold qHX
 rw [h]
theorem qUo {t kt et:TypeId} {ik:IntKind} {z x k:AV} {ok:Bool} (h1:P.underlying t=some (.map kt et)) (h2:P.underlying kt=some (.int ik)) (h3:qEp P et=some z)
  (h:oK (getM s x k) λr=>K (retM z ok r) s):wpF (λ_=>qE7 P t x k ok) K s:=by
 obtain ⟨r,h4,h5⟩:=qAo h
 unfold getM at h4
 cases k with
 | int jk n=>
   simp only at h4
   unfold qE7
   simp only [h1,h2,h3]
   refine wpF.cond (qYV h2) ?_
   cases x with
   | nilmap=>
     cases h4
     refine wpF.bd (.const _) (λ_=>.const _) (wpF.ret ?_)
     exact wpF.ret h5
   | map b=>
     simp only at h4
     split at h4
     ·rename_i es c hb
      have key:∀ q,qN7 (.int jk n) es 0=some q→K (retM z ok (q.map Prod.snd)) s→wpF (λ_=>bd (bd (rd b) λblk=>match blk with
        | .map es _=>lift (qJC P kt (.int ik) (.int jk n) es 0)
        | _=>fail) λr=>match r with
          | some (_,v)=>ret (cond ok (.tup [v,.bool true]) v)
          | none=>ret (cond ok (.tup [z,.bool false]) z)) K s:=by
       intro q hq hk
       refine wpF.bd (.const _) (λ_=>.const _) (wpF.bd (.const _) (λ_=>.const _) (wpF.rd hb λab hab=>?_))
       cases ab <;> first | exact hab.elim | skip
       obtain ⟨rfl,rfl⟩:=hab
       refine wpF.lift (a:=q) (by rw [qUx];exact hq) ?_
       cases q with
       | none=>exact wpF.ret hk
       | some p=>exact wpF.ret hk
      split at h4
      ·rename_i p hp;cases h4;exact key _ hp h5
      ·rename_i hp;cases h4;exact key _ hp h5
      ·cases h4
     ·cases h4
   | _=>cases h4
 | _=>cases h4
theorem qPs {t kt et:TypeId} {ik:IntKind} {m k v:AV} (h1:P.underlying t=some (.map kt et)) (h2:P.underlying kt=some (.int ik))
  (h:oK (putM s m k v) (K .undef)):wpF (λ_=>qDF P t m k v) (λ_ s'=>K .undef s') s:=by
 obtain ⟨s2,h4,h5⟩:=qAo h
 unfold putM at h4
 cases k with
 | int jk n=>
   simp only at h4
   cases m with
   | map b=>
     simp only at h4
     split at h4
     ·rename_i es c hb
      unfold qDF
      simp only [h1,h2]
      refine wpF.cond (qYV h2) (wpF.bd (.const _) (λ_=>.const _) (wpF.rd hb λab hab=>?_))
      cases ab <;> first | exact hab.elim | skip
      obtain ⟨rfl,rfl⟩:=hab
      unfold putE at h4
      cases hq:qN7 (.int jk n) es 0 with
      | none=>rw [hq] at h4;cases h4
      | some q=>
        rw [hq] at h4
        refine wpF.bd (.const _) (λ_=>.const _) (wpF.lift (a:=q) (by rw [qUx];exact hq) ?_)
        cases q with
        | none=>
          simp only [Option.some.injEq] at h4
          simp only [qA6]
          exact wpF.wr hb (x:=.map (es ++ [{ key:=.int jk n,val:=v,born:=c }]) (c+1)) ⟨rfl,rfl⟩ (by rw [h4];exact h5)
        | some p=>
          simp only [Option.some.injEq] at h4
          exact wpF.wr hb (x:=.map (modE es p.1 λe=>{ e with key:=.int jk n,val:=v }) c) ⟨rfl,rfl⟩ (by rw [h4];exact h5)
     ·cases h4
   | _=>cases h4
 | _=>cases h4
theorem qTT {t kt et:TypeId} {d:TypeDesc} {z x k:AV} {ok:Bool} (h1:P.underlying t=some (.map kt et)) (h2:P.underlying kt=some d) (h3:qEp P et=some z)
  (h:oK (getG P kt s x k) λr=>K (retM z ok r) s):wpF (λ_=>qE7 P t x k ok) K s:=by
 obtain ⟨r,h4,h5⟩:=qAo h
 unfold getG at h4
 rw [h2] at h4
 simp only at h4
 cases hc:(aggD d&&qHX P 10 kt k) with
 | false=>rw [hc] at h4;cases h4
 | true=>
 rw [hc,cond_true] at h4
 unfold qE7
 simp only [h1,h2,h3]
 refine wpF.cond (Bool.and_eq_true_iff.1 hc).2 ?_
 cases x with
 | nilmap=>
   cases h4
   refine wpF.bd (.const _) (λ_=>.const _) (wpF.ret ?_)
   exact wpF.ret h5
 | map b=>
   simp only at h4
   split at h4
   ·rename_i es c hb
    have key:∀ q,qJC P kt d k es 0=some q→K (retM z ok (q.map Prod.snd)) s→wpF (λ_=>bd (bd (rd b) λblk=>match blk with
      | .map es _=>lift (qJC P kt d k es 0)
      | _=>fail) λr=>match r with
        | some (_,v)=>ret (cond ok (.tup [v,.bool true]) v)
        | none=>ret (cond ok (.tup [z,.bool false]) z)) K s:=by
     intro q hq hk
     refine wpF.bd (.const _) (λ_=>.const _) (wpF.bd (.const _) (λ_=>.const _) (wpF.rd hb λab hab=>?_))
     cases ab <;> first | exact hab.elim | skip
     obtain ⟨rfl,rfl⟩:=hab
     refine wpF.lift (a:=q) hq ?_
     cases q with
     | none=>exact wpF.ret hk
     | some p=>exact wpF.ret hk
    split at h4
    ·rename_i p hp;cases h4;exact key _ hp h5
    ·rename_i hp;cases h4;exact key _ hp h5
    ·cases h4
   ·cases h4
 | _=>cases h4
theorem qPA {t kt et:TypeId} {d:TypeDesc} {m k v:AV} (h1:P.underlying t=some (.map kt et)) (h2:P.underlying kt=some d)
  (h:oK (putG P kt s m k v) (K .undef)):wpF (λ_=>qDF P t m k v) (λ_ s'=>K .undef s') s:=by
 obtain ⟨s2,h4,h5⟩:=qAo h
 unfold putG at h4
 rw [h2] at h4
 simp only at h4
 cases hc:(aggD d&&qHX P 10 kt k) with
 | false=>rw [hc] at h4;cases h4
 | true=>
 rw [hc,cond_true] at h4
 cases m with
 | map b=>
   simp only at h4
   split at h4
   ·rename_i es c hb
    unfold qDF
    simp only [h1,h2]
    refine wpF.cond (Bool.and_eq_true_iff.1 hc).2 (wpF.bd (.const _) (λ_=>.const _) (wpF.rd hb λab hab=>?_))
    cases ab <;> first | exact hab.elim | skip
    obtain ⟨rfl,rfl⟩:=hab
    cases hq:qJC P kt d k es 0 with
    | none=>rw [hq] at h4;cases h4
    | some q=>
      rw [hq] at h4
      refine wpF.bd (.const _) (λ_=>.const _) (wpF.lift (a:=q) hq ?_)
      cases q with
      | none=>
        simp only [Option.some.injEq] at h4
        simp only [qA6]
        exact wpF.wr hb (x:=.map (es ++ [{ key:=k,val:=v,born:=c }]) (c+1)) ⟨rfl,rfl⟩ (by rw [h4];exact h5)
      | some p=>
        simp only [Option.some.injEq] at h4
        exact wpF.wr hb (x:=.map (modE es p.1 λe=>{ e with key:=k,val:=v }) c) ⟨rfl,rfl⟩ (by rw [h4];exact h5)
   ·cases h4
 | _=>cases h4
theorem qOF (h:mapK K s):wpF (λ_=>qMb) K s:=wpF.bd (.const _) (λ_=>.const _) (wpF.nw (x:=.map [] 0) ⟨rfl,rfl⟩ λb hb=>wpF.ret (h b hb))
theorem qYA {t kt et:TypeId} {x:AV} (hu:P.underlying t=some (.map kt et)) (h:qRu x K s):wpF (λ_=>qMy P t x) K s:=by
 unfold qRu at h
 unfold qMy
 split at h
 ·simp only [hu]
  exact wpF.bd (.const _) (λ_=>.const _) (wpF.nw (x:=.iter none 0 [] 0) ⟨rfl,rfl,rfl,rfl⟩ λb hb=>wpF.ret (h b hb))
 ·rename_i m
  split at h
  ·rename_i t' es c hb
   simp only [hu]
   refine wpF.bd (.const _) (λ_=>.const _) (wpF.rd hb λab hab=>?_)
   cases ab <;> first | exact hab.elim | skip
   obtain ⟨rfl,rfl⟩:=hab
   exact wpF.bd (.const _) (λ_=>.const _) (wpF.nw (x:=.iter (some m) c [] c) ⟨rfl,rfl,rfl,rfl⟩ λb hb=>wpF.ret (h b hb))
  ·exact h.elim
 ·exact h.elim
theorem qXn {x v:AV} (h:entD s x=some v) (hK:K v s):wpF (λ_=>qNr x) K s:=by
 unfold entD at h
 unfold qNr
 split at h
 ·rename_i r
  split at h
  ·rename_i t m si seen stepped hr
   split at h
   ·rename_i stamp hl
    split at h
    ·rename_i t2 es c hm
     cases hc:Nat.beq c stepped with
     | false=>rw [hc] at h;cases h
     | true=>
       rw [hc,cond_true] at h
       split at h
       ·rename_i e he
        cases h
        refine wpF.bd (.const _) (λ_=>.const _) (wpF.rd hr λab hab=>?_)
        cases ab <;> first | exact hab.elim | skip
        obtain ⟨rfl,rfl,rfl,rfl⟩:=hab
        simp only [hl]
        refine wpF.bd (.const _) (λ_=>.const _) (wpF.rd hm λab hab=>?_)
        cases ab <;> first | exact hab.elim | skip
        obtain ⟨rfl,rfl⟩:=hab
        simp only [hc,cond_true,he]
        exact wpF.ret hK
       ·cases h
    ·cases h
   ·cases h
  ·cases h
 ·cases h
theorem qMZ {o:Op} (h:okOp o=true) (hn:∀ t g,o≠.load t (.global g)):o.operands.toList.all okX=true:=by
 unfold okOp at h
 split at h
 ·rename_i t g;exact absurd rfl (hn t g)
 ·exact h
theorem qX2 {t:TypeId} {g:Nat} {Q:AV→Hq→Prop} (h:gldK P t g (Q · s) s):wpF (λ_=>qKB P t g) Q s:=by
 unfold gldK qKv at h
 cases ha:qDX P t with
 | none=>simp only [ha] at h
 | some ag=>
   cases ag with
   | false=>simp only [ha] at h
   | true=>
     simp only [ha] at h
     cases hz:sz P t with
     | none=>simp only [hz] at h
     | some n=>
       simp only [hz] at h
       obtain ⟨l,h1,h2⟩:=qAo h
       unfold gldN at h1
       split at h1
       ·rename_i w g' l' hb
        cases hc:(Nat.beq g g'&&Nat.beq n l'.length) with
        | false=>rw [hc] at h1;cases h1
        | true=>
          rw [hc,cond_true] at h1
          cases h1
          simp only [Bool.and_eq_true] at hc
          unfold qKB
          refine wpF.bd (.const _) (λ_=>.const _) (wpF.rd hb λab hab=>?_)
          cases ab <;> first | exact hab.elim | skip
          obtain ⟨rfl,rfl⟩:=hab
          simp only [hc.1,cond_true,ha,hz,hc.2]
          exact wpF.ret h2
       ·cases h1
theorem zAAI {o:Op} (hT:TR T env) (ho:okOp o=true) (h:wpOp P X env K s o):wpF (λn=>bd (opA P T o) (qE5 (run P X n))) K s:=by
 by_cases hgl:∃ t g,o=.load t (.global g)
 ·obtain ⟨t,g,rfl⟩:=hgl
  simp only [opA]
  exact kval (n:=λk=>qE5 (run P X k)) (λ_ _=>rfl) (qX2 h)
 replace ho:=qMZ ho λt g e=>hgl ⟨t,g,e⟩
 have hn:∀ (k:Nat) (v:AV),qE5 (run P X k) (.val v)=ret v:=λ_ _=>rfl
 have hx:∀ x∈o.operands.toList,ev T x=some (evD env x):=λx hm=>qMK hT (qQR ho hm)
 have hmv:∀ {v:AV},K v s→wpF (λn=>bd (bd (ret v) λx=>ret (ANext.val x)) (qE5 (run P X n))) K s:=λhv=>kval hn (wpF.ret hv)
 cases o with
 | move x=>
   simp only [opA,hx x (by simp [Op.operands])]
   exact hmv h
 | assign x=>
   simp only [opA,hx x (by simp [Op.operands])]
   exact hmv h
 | pick c a b=>
   simp only [opA,hx c (by simp [Op.operands]),hx a (by simp [Op.operands]),hx b (by simp [Op.operands])]
   obtain ⟨v,h1,h2⟩:=qAo h
   unfold qBK at h1
   split at h1
   ·rename_i e;cases h1;simp only [e];exact hmv h2
   ·rename_i e;cases h1;simp only [e];exact hmv h2
   ·cases h1
 | alloc t=>
   simp only [wpOp] at h
   cases hz:zcells P t with
   | none=>simp only [hz] at h
   | some z=>
     simp only [hz] at h
     obtain ⟨v,h1,rfl,h2⟩:=qRF hz
     simp only [opA,qME,h1]
     exact kval hn (qPt h2 h)
 | box t x=>
   simp only [opA,hx x (by simp [Op.operands])]
   exact kval hn (qPt h.1 h.2)
 | build t ps=>
   have hp:(ps.toList.map (·.2)).all okX=true:=by simpa [Op.operands] using ho
   simp only [opA,qLr hT hp]
   simp only [wpOp] at h
   cases hz:qEp P t with
   | none=>simp only [hz] at h
   | some z=>
     cases hu:P.underlying t with
     | none=>simp only [hz,hu] at h
     | some d=>
       cases d with
       | struct fields=>
         simp only [hz,hu] at h
         cases hf:(fields.toList.all λf=>(sz P f.type).isSome) with
         | false=>rw [hf] at h;exact h.elim
         | true=>
           rw [hf] at h
           cases hl:places (qMq P fields.toList) ps.toList with
           | none=>simp only [hl] at h;exact h.elim
           | some l=>
             simp only [hl] at h
             obtain ⟨cs,h1,h2⟩:=qAo (α:=List AV) h
             refine kval hn (wpF.lift (a:=.agg cs) ?_ h2)
             simp only [qOV,hz,hu,hf,cond_true,qPn hl,h1,Option.map_some]
       | array len elem=>
         simp only [hz,hu] at h
         cases hs:sz P elem with
         | none=>simp only [hs] at h
         | some n=>
           simp only [hs] at h
           cases hl:places (λi=>some (i * n,n)) ps.toList with
           | none=>simp only [hl] at h
           | some l=>
             simp only [hl] at h
             obtain ⟨cs,h1,h2⟩:=qAo h
             refine kval hn (wpF.lift (a:=.agg cs) ?_ h2)
             simp only [qOV,hz,hu,hs,qPn hl,h1,Option.map_some]
       | _=>simp only [hz,hu] at h
 | buildSlice t len ps=>
   have hp:(ps.toList.map (·.2)).all okX=true:=by simpa [Op.operands] using ho
   simp only [opA,qLr hT hp]
   simp only [wpOp] at h
   cases hu:P.underlying t with
   | none=>simp only [hu] at h
   | some d=>
     cases d with
     | slice elem=>
       simp only [hu] at h
       cases hz:zelem P elem with
       | none=>simp only [hz] at h
       | some p=>
         obtain ⟨z,es⟩:=p
         simp only [hz] at h
         cases hb:Nat.ble (len * es) 16777216 with
         | false=>rw [hb] at h;exact h.elim
         | true=>
           rw [hb] at h
           cases hl:places (λi=>some (i * es,es)) ps.toList with
           | none=>simp only [hl] at h;exact h.elim
           | some l=>
             simp only [hl] at h
             obtain ⟨cs,h1,h2,h3⟩:=qAo (α:=List AV) h
             refine kval hn ?_
             simp only [qD8,hu,qMR hz,hb,cond_true,qPn hl,h1]
             exact qPt h2 h3
     | _=>simp only [hu] at h
 | load t a=>
   have e1:=hx a (by simp [Op.operands])
   have hA:opA P T (.load t a)=(match ev T a with
    | some p=>bd (match p with | .ptr b o=>qFa P t b o | _=>fail) λx=>ret (.val x)
    | none=>fail):=by cases a <;> first | rfl | (cases e1;done)
   have h':qNy P t (evD env a) (K · s) s:=by cases a <;> first | exact h | exact absurd rfl (λe=>hgl ⟨_,_,e⟩)
   simp only [hA,e1]
   exact kval hn (qRo h')
 | store t a x=>
   simp only [opA,hx a (by simp [Op.operands]),hx x (by simp [Op.operands])]
   exact kunit hn (qXN h)
 | nilCheck x=>
   simp only [opA,hx x (by simp [Op.operands])]
   exact okv hn h λ_ e=>e
 | binOp op t x y yt=>
   simp only [opA,hx x (by simp [Op.operands]),hx y (by simp [Op.operands])]
   simp only [wpOp] at h
   have heq:∀ neg,eqK P neg t (isC x||isC y) (evD env x) (evD env y) K s→wpF (λn=>bd (bd (lift (binA P (cond neg .neq .eql) t x y (evD env x) (evD env y))) λx=>ret (ANext.val x)) (qE5 (run P X n))) K s:=by
    intro neg h
    unfold eqK at h
    cases hu:P.underlying t with
    | none=>simp only [hu] at h
    | some d=>
      simp only [hu] at h
      cases hk:qP5 d with
      | some kd=>
        simp only [hk] at h
        exact okv hn h λv e=>zAAr hu hk _ _ v e
      | none=>
        simp only [hk] at h
        cases hg:P.eqGuardType P.depth t with
        | true=>rw [hg] at h;exact h.elim
        | false=>
          rw [hg] at h
          simp only [cond_false] at h
          refine okv hn h λv e=>?_
          obtain ⟨r,hr,rfl⟩:=qQU e
          unfold qW1 at hr
          split at hr
          ·rename_i xs ys e1 e2
           rw [e1,e2] at hr ⊢
           unfold binA
           cases neg <;> simp [qCY,hg,hr]
          ·cases hr
   cases op with
   | eql=>exact heq false h
   | neq=>exact heq true h
   | shl=>exact okv hn h λv e=>qQk (.inl rfl) _ _ v e
   | shr=>exact okv hn h λv e=>qQk (.inr rfl) _ _ v e
   | _=>exact okv hn h λv e=>qVY (by simp) (by simp) _ _ v e
 | unOp op t x=>
   simp only [opA,hx x (by simp [Op.operands])]
   exact okv hn h λ_ e=>e
 | convert a d x=>
   simp only [opA,hx x (by simp [Op.operands])]
   simp only [wpOp] at h
   cases h1:P.underlying a with
   | none=>simp only [h1] at h
   | some da=>
     cases h2:P.underlying d with
     | none=>cases da <;> simp only [h1,h2] at h
     | some dd=>
       cases da with
       | int k=>
         cases dd with
         | int k'=>
           simp only [h1,h2] at h
           exact okv hn h λv e=>qZo h1 h2 _ v e
         | _=>simp only [h1,h2] at h
       | string=>
         cases dd with
         | string=>
           simp only [h1,h2] at h
           exact okv hn h λv e=>qWw h1 h2 _ v e
         | _=>simp only [h1,h2] at h
       | _=>cases dd <;> simp only [h1,h2] at h
 | makeInterface t x=>
   simp only [opA,hx x (by simp [Op.operands])]
   simp only [wpOp] at h
   cases h1:P.underlying t with
   | none=>simp only [h1] at h
   | some d=>
     refine kval hn (wpF.lift (a:=.ifc t (evD env x)) ?_ ?_)
     ·unfold qF9;rw [h1]
      cases d <;> first | rfl | (simp only [h1] at h)
     ·cases d <;> first | (simp only [h1] at h;done) | (simp only [h1] at h;exact h)
 | makeFunc f first cap=>
   have hp:first.toList.all okX=true∧cap.toList.all okX=true:=by simpa [Op.operands] using ho
   simp only [opA,qOJ hT hp.1,qOJ hT hp.2]
   cases f with
   | func k=>exact wpF.ret (s:=s) h
   | method n=>exact wpF.ret (s:=s) h
   | _=>exact (show False from h).elim
 | makeSlice t l c=>
   simp only [opA,hx l (by simp [Op.operands]),hx c (by simp [Op.operands])]
   simp only [wpOp] at h
   cases hu:P.underlying t with
   | none=>simp only [hu] at h
   | some d=>
     cases d with
     | slice elem=>
       simp only [hu] at h
       cases hz:zelem P elem with
       | none=>simp only [hz] at h
       | some p=>
         obtain ⟨z,es⟩:=p
         cases hb:qFj P elem with
         | none=>simp only [hz,hb] at h
         | some by_=>
           simp only [hz,hb] at h
           cases hy:Nat.ble by_ 32768 with
           | false=>rw [hy] at h;exact h.elim
           | true=>
             rw [hy] at h
             obtain ⟨l',e1,h⟩:=qAo (α:=Nat) h
             obtain ⟨c',e2,h⟩:=qAo h
             refine kval hn ?_
             simp only [qEP,hu,e1,e2,qMR hz,hb,hy,qA6]
             obtain ⟨_,_,_,_,_,h1⟩:=qOK hz
             refine wpF.cond ?_ (qPt (qNw h1 _) h.2)
             rw [bL h.1.1,bL h.1.2];rfl
     | _=>simp only [hu] at h
 | slice t x lo hi mx=>
   have hlo:=qSl hT (x:=lo) λy hy=>qQR ho (by simp [Op.operands,hy])
   have hhi:=qSl hT (x:=hi) λy hy=>qQR ho (by simp [Op.operands,hy])
   have hmx:=qSl hT (x:=mx) λy hy=>qQR ho (by simp [Op.operands,hy])
   simp only [opA,hx x (by simp [Op.operands]),hlo,hhi,hmx]
   simp only [wpOp] at h
   cases hu:P.underlying t with
   | none=>simp only [hu] at h
   | some d=>
     cases d with
     | slice elem=>
       simp only [hu] at h
       cases hz:sz P elem with
       | none=>simp only [hz] at h
       | some es=>
         simp only [hz] at h
         obtain ⟨v,h1,h2⟩:=qAo h
         refine kval hn ?_
         rw [qUq hu hz _ v _ _ _ h1]
         exact wpF.lift rfl h2
     | array n elem=>
       simp only [hu] at h
       cases hz:sz P elem with
       | none=>simp only [hz] at h
       | some es=>
         simp only [hz] at h
         exact kval hn (qUN hu hz h)
     | _=>simp only [hu] at h
 | fieldAddr t x f=>
   simp only [opA,hx x (by simp [Op.operands])]
   simp only [wpOp] at h
   cases hk:qXX P t f with
   | none=>simp only [hk] at h
   | some k=>
     simp only [hk] at h
     exact okv hn h λv e=>qQG hk _ v e
 | field t x f=>
   simp only [opA,hx x (by simp [Op.operands])]
   simp only [wpOp] at h
   cases hu:P.underlying t with
   | none=>simp only [hu] at h
   | some d=>
     cases d with
     | struct fields=>
       simp only [hu] at h
       cases hf:fields[f]? with
       | none=>simp only [hf] at h
       | some fd=>
         simp only [hf] at h
         cases hg:qKv P fd.type with
         | none=>simp only [hg] at h
         | some g=>
           simp only [hg] at h
           refine okv hn h λv e=>?_
           unfold qYa at e
           split at e
           ·rename_i cs e0
            rw [e0]
            simp only [qOc,hu,hf]
            exact qVX hg e
           ·cases e
     | _=>simp only [hu] at h
 | indexAddr t x i=>
   simp only [opA,hx x (by simp [Op.operands]),hx i (by simp [Op.operands])]
   simp only [wpOp] at h
   cases hu:P.underlying t with
   | none=>simp only [hu] at h
   | some d=>
     cases d with
     | array len elem=>
       simp only [hu] at h
       cases hz:sz P elem with
       | none=>simp only [hz] at h
       | some n=>
         simp only [hz] at h
         exact okv hn h λv e=>qWG hu hz _ _ v e
     | slice elem=>
       simp only [hu] at h
       cases hz:sz P elem with
       | none=>simp only [hz] at h
       | some n=>
         simp only [hz] at h
         exact okv hn h λv e=>qVE hu hz _ _ v e
     | _=>simp only [hu] at h
 | index t x i=>
   simp only [opA,hx x (by simp [Op.operands]),hx i (by simp [Op.operands])]
   simp only [wpOp] at h
   cases hu:P.underlying t with
   | none=>simp only [hu] at h
   | some d=>
     cases d with
     | array len elem=>
       simp only [hu] at h
       cases hz:sz P elem with
       | none=>simp only [hz] at h
       | some n=>
         cases hg:qKv P elem with
         | none=>simp only [hz,hg] at h
         | some g=>
           simp only [hz,hg] at h
           exact okv hn h λv e=>qUX hu hz hg _ _ v e
     | string=>
       simp only [hu] at h
       exact okv hn h λv e=>qR5 hu _ _ v e
     | _=>simp only [hu] at h
 | typeAssert x xt t ok=>
   simp only [opA,hx x (by simp [Op.operands])]
   simp only [wpOp] at h
   cases hu:P.underlying t with
   | none=>simp only [hu] at h
   | some d=>
     cases d with
     | interface _=>simp only [hu] at h
     | _=>(simp only [hu] at h;exact okv hn h λv e=>qZb hu (by simp) _ v e)
 | extract x i=>
   simp only [opA,hx x (by simp [Op.operands])]
   exact okv hn h λ_ e=>e
 | makeMap t r=>
   have e1:opt T r=some (oev env r):=qSl hT λy hy=>qQR (l:=(Op.makeMap t r).operands.toList) ho (by subst hy;simp [Op.operands])
   simp only [opA,e1]
   simp only [wpOp] at h
   cases hu:P.underlying t with
   | none=>simp only [hu] at h
   | some d=>
     cases d with
     | map kt et=>
       simp only [hu] at h
       cases r with
       | none=>exact kval hn (qOF h)
       | some x=>
         simp only [oev]
         simp only at h
         unfold intK at h
         split at h
         ·rename_i q n hq
          rw [hq]
          exact kval hn (qOF h)
         ·exact h.elim
     | _=>simp only [hu] at h
 | lookup t x k ok=>
   simp only [opA,hx x (by simp [Op.operands]),hx k (by simp [Op.operands])]
   simp only [wpOp] at h
   cases hu:P.underlying t with
   | none=>simp only [hu] at h
   | some d=>
     cases d with
     | map kt et=>
       simp only [hu] at h
       cases hk:P.underlying kt with
       | none=>simp only [hk] at h
       | some kd=>
         cases hz:qEp P et with
         | none=>cases kd <;> simp only [hk,hz] at h
         | some z=>
           cases kd with
           | int ik=>
             simp only [hk,hz] at h
             exact kval hn (qUo hu hk hz h)
           | _=>
             simp only [hk,hz] at h
             exact kval hn (qTT hu hk hz h)
     | _=>simp only [hu] at h
 | mapUpdate t m k x=>
   simp only [opA,hx m (by simp [Op.operands]),hx k (by simp [Op.operands]),hx x (by simp [Op.operands])]
   simp only [wpOp] at h
   cases hu:P.underlying t with
   | none=>simp only [hu] at h
   | some d=>
     cases d with
     | map kt et=>
       simp only [hu] at h
       cases hk:P.underlying kt with
       | none=>simp only [hk] at h
       | some kd=>
         cases kd with
         | int ik=>
           simp only [hk] at h
           exact kunit hn (qPs hu hk h)
         | _=>
           simp only [hk] at h
           exact kunit hn (qPA hu hk h)
     | _=>simp only [hu] at h
 | entry x=>
   simp only [opA,hx x (by simp [Op.operands])]
   obtain ⟨v,h1,h2⟩:=qAo h
   exact kval hn (qXn h1 h2)
 | range t x=>
   simp only [opA,hx x (by simp [Op.operands])]
   simp only [wpOp] at h
   cases hu:P.underlying t with
   | none=>simp only [hu] at h
   | some d=>
     cases d with
     | map kt et=>
       simp only [hu] at h
       exact kval hn (qYA hu h)
     | _=>simp only [hu] at h
 | sliceToArrayPointer t x=>
   simp only [opA,hx x (by simp [Op.operands])]
   refine okv hn h λv e=>?_
   unfold zABO at e
   split at e
   ·rename_i m q hu
    unfold zAA0 at e
    unfold qYw
    split at e
    ·rename_i b o len cap es he
     simp only [hu,he]
     exact e
    ·cases e
   ·cases e
 | call c=>exact qZU hT ho h
 | _=>exact (show False from h).elim
end Go.AM
namespace Go.AM
open Go
variable {P:Program} {X:Td} {s:Hq} {T:Tmps} {env:Env} {nt:Nat}
theorem qSB {v:AV} {dst:Option Tmp} {K:Env→Prop} (hT:TR T env) (h:setK nt dst env v K):∃ T' env',setT nt T dst v=some T'∧TR T' env'∧K env'∧(∀ d,dst≠some d→env' d=env d)∧∀ d,dst=some d→env' d=v:=by
 cases dst with
 | none=>exact ⟨T,env,rfl,hT,h,λ_ _=>rfl,λ_ e=>by cases e⟩
 | some d=>
   unfold setK at h
   cases hd:Nat.blt d nt with
   | false=>simp only [hd] at h;exact h.elim
   | true=>
     simp only [hd] at h
     refine ⟨T.put d (some v),upd env d v,by simp [setT,hd],λi=>?_,h,λi hi=>?_,λi hi=>?_⟩
     ·unfold tget upd
      rw [Tr.get_put]
      by_cases e:d=i
      ·subst e;simp
      ·have:Nat.beq i d=false:=by
        cases hq:Nat.beq i d with
        | false=>rfl
        | true=>exact absurd (bE hq).symm e
       rw [if_neg e,this];exact hT i
     ·unfold upd
      have:Nat.beq i d=false:=by
       cases hq:Nat.beq i d with
       | false=>rfl
       | true=>exact absurd (by rw [bE hq]) hi
      rw [this];rfl
     ·cases hi
      unfold upd
      rw [Nat.beq_refl];rfl
def knV:Option Bool→AV
 | some b=>.bool b
 | none=>.undef
def KnOk (kn:Kn) (env:Env):Prop:=∀ d b,known kn d=some b→env d=knV b
theorem qJR:∀ {kn:Kn} {d d':Nat} {b:Option Bool},known (kn.filter λp=>!Nat.beq p.1 d) d'=some b→d'≠d∧known kn d'=some b
 | [],_,_,_,h=>by cases h
 | p :: ps,d,d',b,h=>by
   rw [List.filter_cons] at h
   by_cases hp:Nat.beq p.1 d=true
   ·rw [if_neg (by simp [hp])] at h
    obtain ⟨h1,h2⟩:=qJR h
    refine ⟨h1,?_⟩
    unfold known
    have:Nat.beq p.1 d'=false:=by
     cases hq:Nat.beq p.1 d' with
     | false=>rfl
     | true=>exact absurd ((bE hq).symm.trans (bE hp)) h1
    rw [this];exact h2
   ·rw [if_pos (by simp [hp])] at h
    unfold known at h ⊢
    cases hq:Nat.beq p.1 d' with
    | true=>
      rw [hq] at h
      refine ⟨λe=>hp ?_,h⟩
      rw [← e];exact hq
    | false=>rw [hq] at h;exact qJR h
theorem KnOk.forget {kn:Kn} {env':Env} {dst:Option Tmp} (h:KnOk kn env) (he:∀ d,dst≠some d→env' d=env d):KnOk (forget kn dst) env':=by
 intro d b hd
 cases dst with
 | none=>rw [he d (by simp)];exact h d b hd
 | some d0=>
   obtain ⟨h1,h2⟩:=qJR hd
   rw [he d (λe=>h1 (Option.some.inj e).symm)];exact h d b h2
theorem KnOk.cons {kn:Kn} {d:Nat} {b:Option Bool} (h:KnOk kn env) (he:env d=knV b):KnOk ((d,b) :: kn) env:=by
 intro d' b' h'
 unfold known at h'
 cases hq:Nat.beq d d' with
 | true=>rw [hq] at h';cases h';rw [← bE hq];exact he
 | false=>rw [hq] at h';exact h d' b' h'
theorem KnOk.mark {kn:Kn} {env':Env} {dst:Option Tmp} (h:KnOk kn env) (he:∀ d,dst≠some d→env' d=env d) (hv:∀ d,dst=some d→env' d=.undef):KnOk (mark kn dst) env':=by
 cases dst with
 | none=>exact h.forget (dst:=none) he
 | some d=>exact (h.forget he).cons (hv d rfl)
theorem KnOk.nil:KnOk [] env:=λ_ _ h=>by cases h
theorem qM3 {all:List Oper} {j d:Nat} {w b:Bool} (hT:TR T env) (hd:qRR all j=some d) (he:env d=.bool b):qCT all T (some (j,w))=some (b == w):=by
 unfold qRR at hd
 simp only [qCT]
 cases hj:all[j]? with
 | none=>rw [hj] at hd;cases hd
 | some o=>
   rw [hj] at hd
   simp only at hd ⊢
   rw [hd]
   have:=hT d
   rw [he] at this
   unfold tget at this
   cases hg:T.get d with
   | none=>rw [hg] at this;cases this
   | some v=>rw [hg] at this;simp only [Option.getD_some] at this;subst this;simp only [hg]
theorem qSN {all:List Oper} {j:Nat} {w:Bool} (hd:qRR all j=none):qCT all T (some (j,w))=some false:=by
 unfold qRR at hd
 simp only [qCT]
 cases hj:all[j]? with
 | none=>rfl
 | some o=>rw [hj] at hd;simp only at hd ⊢;rw [hd]
theorem qP1 {all:List Oper} {j d:Nat} {w:Bool} (hT:TR T env) (hd:qRR all j=some d) (he:env d=.undef):qCT all T (some (j,w))=some false:=by
 unfold qRR at hd
 simp only [qCT]
 cases hj:all[j]? with
 | none=>simp [hj] at hd
 | some o=>
   rw [hj] at hd
   simp only at hd ⊢
   rw [hd]
   have:=hT d
   rw [he] at this
   unfold tget at this
   cases hg:T.get d with
   | none=>simp only [hg]
   | some v=>rw [hg] at this;simp only [Option.getD_some] at this;subst this;simp only [hg];rfl
theorem qMz {all:List Oper} {g:Option (Nat × Bool)} {kn:Kn} {go skip:Kn→Prop} (hT:TR T env) (hk:KnOk kn env) (h:qP6 all g kn env go skip) :
  ∃ kn',KnOk kn' env∧((qCT all T g=some true∧go kn')∨(qCT all T g=some false∧skip kn')):=by
 unfold qP6 at h
 split at h
 ·exact ⟨kn,hk,.inl ⟨rfl,h⟩⟩
 ·rename_i j w
  split at h
  ·rename_i hd;exact ⟨kn,hk,.inr ⟨qSN hd,h⟩⟩
  ·rename_i d hd
   split at h
   ·rename_i b hb
    have:=qM3 (w:=w) hT hd (hk d (some b) hb)
    refine ⟨kn,hk,?_⟩
    cases hbw:(b == w) with
    | true=>rw [hbw] at h this;exact .inl ⟨this,h⟩
    | false=>rw [hbw] at h this;exact .inr ⟨this,h⟩
   ·rename_i hb
    exact ⟨kn,hk,.inr ⟨qP1 hT hd (hk d none hb),h⟩⟩
   ·unfold qAP at h
    split at h
    ·rename_i he
     have:=qM3 (w:=w) hT hd he
     refine ⟨_,hk.cons (b:=some true) he,?_⟩
     cases w with
     | true=>exact .inl ⟨this,h⟩
     | false=>exact .inr ⟨this,h⟩
    ·rename_i he
     have:=qM3 (w:=w) hT hd he
     refine ⟨_,hk.cons (b:=some false) he,?_⟩
     cases w with
     | true=>exact .inr ⟨this,h⟩
     | false=>exact .inl ⟨this,h⟩
    ·exact h.elim
theorem qTQ {all:List Oper} {o:Oper}:Mono λn=>qDc P (run P X n) all o T:=qDV λn=>by
 unfold qDc
 split
 ·exact LeM.bd (LeM.refl _) λ_=>qPE (qDt n) _
 ·exact LeM.refl _
 ·exact LeM.refl _
theorem qS1 {all:List Oper} {o:Oper} {Q:AV→Hq→Prop} {R:Tmps→Hq→Prop} (h:wpF (λn=>qDc P (run P X n) all o T) Q s) (hQ:∀ v s',Q v s'→∃ T',setT nt T o.dst v=some T'∧R T' s') :
  wpF (λn=>qJ5 P (run P X n) nt all o T) R s:=by
 refine wpF.bd (f:=λ_ v=>lift (setT nt T o.dst v)) qTQ (λ_=>.const _) (h.mono λv s' hv=>?_)
 obtain ⟨T',h1,h2⟩:=hQ v s' hv
 exact wpF.lift h1 h2
theorem qEf {all:List Oper} {o:Oper} {Q:AV→Hq→Prop} (hw:qCT all T o.guard=some true) (hT:TR T env) (ho:okOp o.op=true) (h:wpOp P X env Q s o.op):wpF (λn=>qDc P (run P X n) all o T) Q s:=by
 refine (zAAI hT ho h).congr λn=>?_
 unfold qDc;rw [hw]
theorem qKO {all:List Oper} {o:Oper} {Q:AV→Hq→Prop} (hw:qCT all T o.guard=some false) (h:Q .undef s):wpF (λn=>qDc P (run P X n) all o T) Q s:=by
 refine (wpF.ret h).congr λn=>?_
 unfold qDc;rw [hw]
theorem qUR {all:List Oper} {K:Env→Hq→Prop}:∀ (os:List Oper) (kn:Kn) (env:Env) (s:Hq) (T:Tmps),(os.all λo=>okOp o.op)=true→TR T env→KnOk kn env→opsE P X nt all os kn env K s→
  wpF (λn=>opsA P (run P X n) nt all os T) (λT' s'=>∃ env',TR T' env'∧K env' s'∧∀ j,(∀ o∈os,o.dst≠some j)→env' j=env j) s
 | [],_,env,s,T,_,hT,_,h=>wpF.ret ⟨env,hT,h,λ_ _=>rfl⟩
 | o :: os,kn,env,s,T,ha,hT,hk,h=>by
   simp only [List.all_cons,Bool.and_eq_true] at ha
   obtain ⟨kn',hk',hcase⟩:=qMz hT hk h
   have next:∀ (v:AV) (kn2:Kn),(∀ env',(∀ d,o.dst≠some d→env' d=env d)→(∀ d,o.dst=some d→env' d=v)→KnOk kn2 env')→∀ (s':Hq),(setK nt o.dst env v λenv=>opsE P X nt all os kn2 env K s')→∃ T',setT nt T o.dst v=some T'∧wpF (λn=>opsA P (run P X n) nt all os T') (λT' s'=>∃ env',TR T' env'∧K env' s'∧∀ j,(∀ o_1∈o :: os,o_1.dst≠some j)→env' j=env j) s':=by
    intro v kn2 hk2 s' hv
    obtain ⟨T',env',e1,e2,e3,e4,e5⟩:=qSB hT hv
    refine ⟨T',e1,(qUR os _ env' s' T' ha.2 e2 (hk2 env' e4 e5) e3).mono ?_⟩
    rintro T2 s2 ⟨env2,q1,q2,q3⟩
    exact ⟨env2,q1,q2,λj hj=>(q3 j λp hp=>hj p (by simp [hp])).trans (e4 j (hj o (by simp)))⟩
   have mono1:Mono λn=>qJ5 P (run P X n) nt all o T:=qDV λn=>qMX (qDt n) _ _ _ _
   refine wpF.bd (f:=λn T=>opsA P (run P X n) nt all os T) mono1 (λT=>qQh _ _ _ _) ?_
   rcases hcase with ⟨hw,h⟩ | ⟨hw,h⟩
   ·exact qS1 (qEf hw hT ha.1 h) λv s' hv=>next v _ (λenv' e4 _=>hk'.forget e4) s' hv
   ·exact qS1 (qKO (s:=s) (Q:=λv s'=>v=.undef∧setK nt o.dst env v λenv=>opsE P X nt all os (mark kn' o.dst) env K s') hw ⟨rfl,h⟩) λv s' hv=>next v _ (λenv' e4 e5=>hk'.mark e4 λd hd=>by rw [e5 d hd,hv.1]) s' hv.2
end Go.AM
namespace Go.AM
open Go
variable {α β:Type} {P:Program} {s:Hq} {T:Tmps} {env:Env} {ih:Task→M Out}
def RO (m:M α):Prop:=∀ H a H',m H=some (a,H')→∃ es:List (Nat × Bool),(∀ e∈es,e.2=false)∧H'={ H with log:=es ++ H.log }
def NE (m:M α):Prop:=∀ H a H',m H=some (a,H')→H'=H
theorem qIU (a:α):NE (ret a):=λH b H' h=>by cases qAK h;rfl
theorem qDm:NE (fail:M α):=λH _ _ h=>(qAD (H:=H) h).elim
theorem qLX (o:Option α):NE (lift o):=λH b H' h=>by obtain ⟨a,_,h2⟩:=qCl h;cases h2;rfl
theorem zAAy {m:M α} {f:α→M β} (hm:NE m) (hf:∀ a,NE (f a)):NE (bd m f):=λH b H' h=>by
 obtain ⟨a,H1,h1,h2⟩:=qAR h
 rw [hf a H1 b H' h2,hm H a H1 h1]
theorem qYl {b:Bool} {x y:M α} (hx:NE x) (hy:NE y):NE (cond b x y):=by cases b <;> assumption
theorem NE.ro {m:M α} (h:NE m):RO m:=λH a H' e=>⟨[],by simp,by rw [h H a H' e];rfl⟩
theorem qR6 {m:M α} {f:α→M β} (hm:RO m) (hf:∀ a,RO (f a)):RO (bd m f):=λH b H' h=>by
 obtain ⟨a,H1,h1,h2⟩:=qAR h
 obtain ⟨e1,k1,rfl⟩:=hm H a H1 h1
 obtain ⟨e2,k2,rfl⟩:=hf a _ b H' h2
 exact ⟨e2 ++ e1,λe he=>by rcases mP he with he | he;exact k2 e he;exact k1 e he,by simp⟩
theorem qO1 {b:Bool} {x y:M α} (hx:RO x) (hy:RO y):RO (cond b x y):=by cases b <;> assumption
theorem qWB (id:Nat):RO (rd id):=λH b H' h=>by
 unfold rd at h
 cases hb:H.blks.get id with
 | none=>simp [hb] at h
 | some x=>simp only [hb,Option.some.injEq,Prod.mk.injEq] at h;exact ⟨[(id,false)],by simp,h.2.symm⟩
theorem qMA (a:α):RO (ret a):=(qIU a).ro
theorem qID:RO (fail:M α):=qDm.ro
theorem qMu (o:Option α):RO (lift o):=(qLX o).ro
theorem qXJ (t:TypeId) (b o:Nat):RO (qFa P t b o):=by
 unfold qFa qCk
 repeat' first | exact qID | exact qMu _ | exact qMA _ | exact qWB _ | (refine qR6 ?_ λ_=>?_) | split
theorem qV2 (t:TypeId) (x:AV) (lo hi mx:Option AV):RO (qGk P t x lo hi mx):=by
 unfold qGk
 repeat' first | exact qID | exact qMu _ | exact qMA _ | exact qWB _ | (refine qO1 ?_ ?_) | (refine qR6 ?_ λ_=>?_) | split
theorem qZn (t:TypeId) (x:AV):RO (lenA P t x):=by
 unfold lenA
 simp only [qA6]
 repeat' first | exact qID | exact qMA _ | exact qWB _ | (refine qR6 ?_ λ_=>?_) | split
def qJZ (m:M ANext):Prop:=∀ H x H',m H=some (x,H')→∃ v,x=.val v
theorem qTG (v:AV):qJZ (ret (.val v)):=λ_ x _ h=>by cases qAK h;exact ⟨v,rfl⟩
theorem qO6:qJZ fail:=λH _ _ h=>(qAD (H:=H) h).elim
theorem qWi {m:M α} {f:α→M ANext} (hf:∀ a,qJZ (f a)):qJZ (bd m f):=λH x H' h=>by
 obtain ⟨a,H1,_,h2⟩:=qAR h
 exact hf a H1 x H' h2
theorem qUT {b:Bool} {x y:M ANext} (hx:qJZ x) (hy:qJZ y):qJZ (cond b x y):=by cases b <;> assumption
theorem qWK {t e:TypeId} (h:P.underlying t=some (.slice e)) (x:AV) (lo hi mx:Option AV):NE (qGk P t x lo hi mx):=by
 unfold qGk
 rw [h]
 exact qLX _
theorem qUn {t:TypeId} {x:Operand} {lo hi mx:Option Operand} (h:cls P (.slice t x lo hi mx)=0):∃ e,P.underlying t=some (.slice e):=by
 simp only [cls] at h
 split at h
 ·exact ⟨_,by assumption⟩
 ·cases h
theorem qZC {t e:TypeId} (h:P.underlying t=some (.slice e)) (x:AV):NE (lenA P t x):=by
 unfold lenA
 rw [h]
 cases x <;> first | exact qIU _ | exact qDm
theorem qVk {o:Op} (h:cls P o=0) (T:Tmps):NE (opA P T o)∧qJZ (opA P T o):=by
 cases o
 case call c=>
  simp only [cls] at h
  simp only [opA,qH9]
  split
  ·exact ⟨qDm,qO6⟩
  ·rename_i args hargs
   cases hc:c.callee with
   | builtin b=>
     simp only [hc] at h ⊢
     refine ⟨zAAy ?_ λ_=>qIU _,qWi λ_=>qTG _⟩
     cases b <;> first | (simp only at h;cases h;done) | skip
     case len=>
      simp only at h
      split at h
      ·rename_i t ts hts
       split at h
       ·rename_i e he
        rw [hts]
        show NE (qE8 P .len (t :: ts) args)
        rcases args with _ | ⟨x,_ | ⟨y,r⟩⟩
        ·exact qDm
        ·exact qZC he x
        ·exact qDm
       ·cases h
      ·cases h
     all_goals
      unfold qE8
      split <;> first | exact qDm | exact qLX _ | contradiction | (rename_i e _ _;cases e)
   | _=>simp only [hc] at h;cases h
 all_goals first
  | (simp only [cls] at h;cases h;done)
  | (simp only [opA]
     refine ⟨?_,?_⟩
     ·repeat' first | exact qDm | exact qWK (qUn h).choose_spec _ _ _ _ | exact qIU _ | exact qLX _ | (refine qYl ?_ ?_) | (refine zAAy ?_ λ_=>?_) | split
     ·repeat' first | exact qO6 | exact qTG _ | (refine qUT ?_ ?_) | (refine qWi λ_=>?_) | split)
theorem qUH (t:TypeId) (g:Nat):RO (qKB P t g):=by
 unfold qKB
 repeat' first | exact qID | exact qMA _ | exact qWB _ | (refine qO1 ?_ ?_) | (refine qR6 ?_ λ_=>?_) | split
theorem qTN (t:TypeId) (x k:AV) (ok:Bool):RO (qE7 P t x k ok):=by
 unfold qE7
 repeat' first | exact qID | exact qMu _ | exact qMA _ | exact qWB _ | (refine qO1 ?_ ?_) | (refine qR6 ?_ λ_=>?_) | split
theorem qVa {o:Op} (h:cls P o=1) (T:Tmps):RO (opA P T o)∧qJZ (opA P T o):=by
 cases o
 case call c=>
  simp only [cls] at h
  have hc:c.callee=.builtin .len:=by
   cases hq:c.callee with
   | builtin b=>rw [hq] at h;cases b <;> first | rfl | (simp only at h;cases h)
   | _=>rw [hq] at h;simp only at h;cases h
  simp only [opA,qH9,hc]
  split
  ·exact ⟨qID,qO6⟩
  ·refine ⟨qR6 ?_ λ_=>qMA _,qWi λ_=>qTG _⟩
   unfold qE8
   split <;> first | exact qID | exact qZn _ _ | exact qMu _ | contradiction
 all_goals first
  | (simp only [cls] at h;cases h;done)
  | (simp only [opA]
     refine ⟨?_,?_⟩
     ·repeat' first | exact qID | exact qMA _ | exact qMu _ | exact qUH _ _ | exact qXJ _ _ _ | exact qTN _ _ _ _ | exact qV2 _ _ _ _ _ | (refine qO1 ?_ ?_) | (refine qR6 ?_ λ_=>?_) | split
     ·repeat' first | exact qO6 | exact qTG _ | (refine qUT ?_ ?_) | (refine qWi λ_=>?_) | split)
theorem qUe {m:M ANext} (hm:qJZ m) (hr:RO m):RO (bd m (qE5 ih)):=by
 intro H a H' h
 obtain ⟨x,H1,h1,h2⟩:=qAR h
 obtain ⟨v,rfl⟩:=hm H x H1 h1
 cases qAK h2
 exact hr H _ _ h1
theorem qTm {m:M ANext} (hm:qJZ m) (hr:NE m):NE (bd m (qE5 ih)):=by
 intro H a H' h
 obtain ⟨x,H1,h1,h2⟩:=qAR h
 obtain ⟨v,rfl⟩:=hm H x H1 h1
 cases qAK h2
 exact hr H _ _ h1
theorem qX1 {all:List Oper} {o:Oper} (h:cls P o.op=0):NE (qDc P ih all o T):=by
 unfold qDc
 split
 ·exact qTm (qVk h T).2 (qVk h T).1
 ·exact qIU _
 ·exact qDm
theorem qX7 {all:List Oper} {o:Oper} (h:cls P o.op=1):RO (qDc P ih all o T):=by
 unfold qDc
 split
 ·exact qUe (qVa h T).2 (qVa h T).1
 ·exact qMA _
 ·exact qID
theorem qBI {b:Nat}:frz s b=none↔s b=none:=by
 unfold frz
 cases s b with
 | none=>simp
 | some e=>simp
theorem qBX {b:Nat} {t:Bool} {x:Blk} (h:s b=some (t,x)):frz s b=some (true,x):=by unfold frz;rw [h]
theorem qXD {m:Nat→M α} {Q:α→Hq→Prop} (hfr:∀ n,Fr (m n)) (h:wpF m Q (frz s)) {H:AH} (hH:HRel s H) :
  ∃ n a H' s2 es,m n H=some (a,H')∧Does es H H'∧(∀ i b,(i,b)∈es→s i≠none∨H.next≤i)∧(∀ i,(i,true)∈es→H.next≤i)∧(∀ i,s i=none→i < H.next→s2 i=none)∧Q a s2∧
   (∀ i t b,s i=none→s2 i=some (t,b)→H.next≤i∧∃ ab,H'.blks.get i=some ab∧BRl b ab):=by
 have hH1:HRel (frz s) { H with lo:=H.next }:=by
  refine ⟨Nat.le_refl _,hH.wf,λi t b hi=>?_⟩
  cases e:s i with
  | none=>rw [(qBI (s:=s)).2 e] at hi;cases hi
  | some x=>
    obtain ⟨t',b'⟩:=x
    rw [qBX e] at hi
    cases hi
    obtain ⟨_,k⟩:=hH.at_ i t' b e
    exact ⟨by simp,k⟩
 obtain ⟨n,a,H1,s2,es,h1,h2,_,h4,d,kn,out⟩:=wpF.framed hfr h hH1
 obtain ⟨es',d',k⟩:=hfr n { H with lo:=H.next } a H1 h1
 have he:es'=es:=List.append_cancel_right (d'.log.symm.trans d.log)
 subst he
 obtain ⟨H',h5,d5,n5,g5⟩:=k H rfl hH.lo (λ_ _ _=>rfl)
 refine ⟨n,a,H',s2,es',h5,d5,λi b hb=>?_,λi hi=>d.wlo i hi,λi hi hlt=>(out i ((qBI (s:=s)).2 hi) hlt).1,h4,λi t b hi hs=>?_⟩
 ·rcases kn i b hb with e | e
  ·exact .inl λq=>e ((qBI (s:=s)).2 q)
  ·exact .inr e
 ·obtain ⟨_,ab,q1,q2⟩:=h2.at_ i t b hs
  have hge:H.next≤i:=by
   rcases Nat.lt_or_ge i H.next with hlt | hge
   ·rw [(out i ((qBI (s:=s)).2 hi) hlt).1] at hs;cases hs
   ·exact hge
  refine ⟨hge,ab,?_,q2⟩
  by_cases hm:∃ c,(i,c)∈es'
  ·obtain ⟨c,hc⟩:=hm;rw [g5 i c hc];exact q1
  ·rw [d5.same i λhc=>hm ⟨_,hc⟩]
   have:=d.same i λhc=>hm ⟨_,hc⟩
   rw [this] at q1
   exact q1
theorem qZa {prev sj s2:Hq} {H H':AH} (hH:HRel prev H) (hsub:∀ i,prev i=none→sj i=none) {es:List (Nat × Bool)} (d:Does es H H') (hw:∀ i,(i,true)∈es→H.next≤i)
  (hn:∀ i t b,sj i=none→s2 i=some (t,b)→H.next≤i∧∃ ab,H'.blks.get i=some ab∧BRl b ab):HRel (add prev s2) H'∧Pers prev (add prev s2):=by
 refine ⟨⟨by rw [d.lo];exact Nat.le_trans hH.lo d.next,λi hi=>?_,λi t b hi=>?_⟩,λi b hi=>qAZ hi⟩
 ·rcases d.gone i hi with e | e
  ·exact Nat.lt_of_lt_of_le (hH.wf i e) d.next
  ·exact e.2
 ·cases e:prev i with
  | some x=>
    rw [qAZ e] at hi
    cases hi
    obtain ⟨q1,q2⟩:=hH.at_ i t b e
    have hlt:=hH.lt (i:=i) (by rw [e];simp)
    rw [d.lo,d.same i λhc=>by have:=hw i hc;omega]
    exact ⟨q1,q2⟩
  | none=>
    rw [qAX e] at hi
    obtain ⟨q1,q2⟩:=hn i t b (hsub i e) hi
    exact ⟨λ_=>by rw [d.lo];exact Nat.le_trans hH.lo q1,q2⟩
theorem qTz {m:M α} (hfr:Fr m) {H H':AH} {a:α} {es:List (Nat × Bool)} (h:m H=some (a,H')) (hl:H'.log=es ++ H.log) :
  ∃ H'',capture m H=some ((a,es),H'')∧H''.next=H'.next∧H''.lo=H'.lo∧∀ i,H''.blks.get i=H'.blks.get i:=by
 obtain ⟨es',d,k⟩:=hfr H a H' h
 have he:es'=es:=List.append_cancel_right (d.log.symm.trans hl)
 subst he
 obtain ⟨K,e2,d2,n2,g2⟩:=k { H with log:=[] } rfl (Nat.le_refl _) (λ_ _ _=>rfl)
 have hlog:K.log=es':=by simpa using d2.log
 refine ⟨{ K with log:=es' ++ H.log },by simp [capture,e2,hlog],n2,by show K.lo=_;rw [d2.lo,d.lo],λi=>?_⟩
 show K.blks.get i=_
 by_cases hm:∃ c,(i,c)∈es'
 ·obtain ⟨c,hc⟩:=hm;exact g2 i c hc
 ·rw [d2.same i λhc=>hm ⟨_,hc⟩,d.same i λhc=>hm ⟨_,hc⟩]
theorem HRel.eqv {H H':AH} (h:HRel s H) (hn:H'.next=H.next) (hl:H'.lo=H.lo) (hb:∀ i,H'.blks.get i=H.blks.get i):HRel s H':=
 ⟨by rw [hn,hl];exact h.lo,λi hi=>by rw [hn];rw [hb] at hi;exact h.wf i hi,λi t b hi=>by rw [hl,hb];exact h.at_ i t b hi⟩
def RB (b:Nat) (m:M α):Prop:=∀ H a H',m H=some (a,H')→∃ es:List (Nat × Bool),(∀ e∈es,e.1=b)∧H'.log=es ++ H.log
theorem qMH {m:M α} {b:Nat} (h:NE m):RB b m:=λH a H' e=>⟨[],by simp,by rw [h H a H' e];rfl⟩
theorem qZ5 {m:M α} {f:α→M β} {b:Nat} (hm:RB b m) (hf:∀ a,RB b (f a)):RB b (bd m f):=λH c H' h=>by
 obtain ⟨a,H1,h1,h2⟩:=qAR h
 obtain ⟨e1,k1,l1⟩:=hm H a H1 h1
 obtain ⟨e2,k2,l2⟩:=hf a _ c H' h2
 exact ⟨e2 ++ e1,λe he=>by rcases mP he with he | he;exact k2 e he;exact k1 e he,by rw [l2,l1];simp⟩
theorem qWU {c:Bool} {x y:M α} {b:Nat} (hx:RB b x) (hy:RB b y):RB b (cond c x y):=by cases c <;> assumption
theorem qYs (b:Nat):RB b (rd b):=λH a H' h=>by
 unfold rd at h
 cases hb:H.blks.get b with
 | none=>simp [hb] at h
 | some x=>simp only [hb,Option.some.injEq,Prod.mk.injEq] at h;exact ⟨[(b,false)],by simp,by rw [← h.2];rfl⟩
theorem zABr (b:Nat) (x:ABlk):RB b (wr b x):=λH a H' h=>by
 unfold wr at h
 cases hl:Nat.ble H.lo b with
 | false=>rw [hl] at h;cases h
 | true=>
   rw [hl,cond_true] at h
   cases hb:H.blks.get b with
   | none=>rw [hb] at h;cases h
   | some y=>rw [hb] at h;cases h;exact ⟨[(b,true)],by simp,rfl⟩
theorem qWp (t:TypeId) (b o:Nat):RB b (qFa P t b o):=by
 unfold qFa qCk
 repeat' first | exact qMH qDm | exact qMH (qLX _) | exact qMH (qIU _) | exact qYs _ | (refine qZ5 ?_ λ_=>?_) | split
theorem qWR (t:TypeId) (b o:Nat) (v:AV):RB b (qJd P t (.ptr b o) v):=by
 unfold qJd qCR
 simp only
 repeat' first | exact qMH qDm | exact qMH (qLX _) | exact qMH (qIU _) | exact qYs _ | exact zABr _ _ | (refine qWU ?_ ?_) | (refine qZ5 ?_ λ_=>?_) | split
theorem qUY {ih:Task→M Out} {m:M AV} {b:Nat} (h:RB b m):RB b (bd (bd m λx=>ret (.val x)) (qE5 ih)):=by
 intro H a H' e
 obtain ⟨x,H1,h1,h2⟩:=qAR e
 obtain ⟨v,H2,h3,h4⟩:=qAR h1
 cases qAK h4
 cases qAK h2
 exact h H _ _ h3
theorem qXB {ih:Task→M Out} {m:M Unit} {b:Nat} (h:RB b m):RB b (bd (bd m λ_=>ret (.val .undef)) (qE5 ih)):=by
 intro H a H' e
 obtain ⟨x,H1,h1,h2⟩:=qAR e
 obtain ⟨v,H2,h3,h4⟩:=qAR h1
 cases qAK h4
 cases qAK h2
 exact h H _ _ h3
theorem qO9 {o:Op} (h:okOp o=true) (hn:∀ t g,o≠.load t (.global g)) {x:Operand} (hx:x∈o.operands.toList):okX x=true:=List.all_eq_true.1 (qMZ h hn) x hx
theorem qVh (t:TypeId) (g:Nat):RB g (qKB P t g):=by
 unfold qKB
 repeat' first | exact qMH qDm | exact qMH (qIU _) | exact qYs _ | (refine qWU ?_ ?_) | (refine qZ5 ?_ λ_=>?_) | split
theorem qYG {all:List Oper} {o:Oper} (hT:TR T env) (ho:okOp o.op=true) (h:isLd o.op=true∨isSt o.op=true):RB (qLc env o.op) (qDc P ih all o T):=by
 unfold qDc
 split
 ·cases hop:o.op with
  | load t a=>
    simp only [opA]
    cases a with
    | global g=>
      simp only [qLc]
      exact qUY (qVh _ _)
    | _=>
      have hx:=qO9 ho (by rw [hop];intro t g e;cases e) (by rw [hop];simp [Op.operands];rfl)
      simp only [qMK hT hx,qLc]
      refine qUY ?_
      split
      ·rename_i e;rw [e];exact qWp _ _ _
      ·exact qMH qDm
  | store t a x=>
    have hx:okX a=true:=qO9 ho (by rw [hop];intro t g e;cases e) (by rw [hop];simp [Op.operands])
    have hy:okX x=true:=qO9 ho (by rw [hop];intro t g e;cases e) (by rw [hop];simp [Op.operands])
    simp only [opA,qMK hT hx,qMK hT hy,qLc]
    refine qXB ?_
    cases he:evD env a with
    | ptr b o=>exact qWR _ _ _ _
    | _=>exact qMH qDm
  | _=>rw [hop] at h;rcases h with h | h <;> cases h
 ·exact qMH (qIU _)
 ·exact qMH qDm
def NWm (m:M α):Prop:=∀ H a H',m H=some (a,H')→∃ es:List (Nat × Bool),(∀ e∈es,H.next≤e.1)∧H'.log=es ++ H.log
theorem qNF (elem:TypeId) (cs:List AV):NWm (qB0 elem cs):=by
 intro H a H' h
 unfold qB0 at h
 cases hc:qAb cs with
 | false=>rw [hc] at h;cases h
 | true=>
   rw [hc,cond_true] at h
   unfold nw at h
   rw [qA6] at h
   cases hb:Nat.ble H.lo H.next with
   | false=>rw [hb] at h;cases h
   | true=>rw [hb,cond_true] at h;cases h;exact ⟨[(H.next,true)],by simp,rfl⟩
theorem zAAg {m:M α} {f:α→M β} (hm:NWm m) (hf:∀ a,NE (f a)):NWm (bd m f):=λH c H' h=>by
 obtain ⟨a,H1,h1,h2⟩:=qAR h
 obtain ⟨e1,k1,l1⟩:=hm H a H1 h1
 rw [hf a H1 c H' h2]
 exact ⟨e1,k1,l1⟩
theorem qZl {m:M α} (h:NE m):NWm m:=λH a H' e=>⟨[],by simp,by rw [h H a H' e];rfl⟩
theorem qV1 {m:M AV} (h:NWm m):NWm (bd (bd m λx=>ret (.val x)) (qE5 ih)):=by
 intro H a H' e
 obtain ⟨x,H1,h1,h2⟩:=qAR e
 obtain ⟨v,H2,h3,h4⟩:=qAR h1
 cases qAK h4
 cases qAK h2
 exact h H _ _ h3
theorem zAAw {all:List Oper} {o:Oper} (h:isNw o.op=true):NWm (qDc P ih all o T):=by
 unfold qDc
 split
 ·cases hop:o.op with
  | alloc t=>
    simp only [opA]
    refine qV1 ?_
    unfold qME
    split
    ·exact zAAg (qNF _ _) λ_=>qIU _
    ·exact qZl qDm
  | box t x=>
    simp only [opA]
    split
    ·refine qV1 ?_
     unfold boxA
     exact zAAg (qNF _ _) λ_=>qIU _
    ·intro H a H' e
     obtain ⟨x,H1,h1,h2⟩:=qAR e
     exact (qAD h1).elim
  | _=>rw [hop] at h;cases h
 ·exact qZl (qIU _)
 ·exact qZl qDm
end Go.AM
