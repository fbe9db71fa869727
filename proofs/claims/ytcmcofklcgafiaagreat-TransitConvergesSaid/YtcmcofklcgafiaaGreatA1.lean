/- Part A1 of the proof: see the last part. -/
import Derived.KernelRfl
import Derived.RangeFuncLeaves
import Derived.RangeFuncIn
import Derived.WalkKit
import Derived.ChangeKeysEq
import Derived.MapKept
import Derived.Laws.MakeOwn
import Derived.Great.BuildSlice
import Derived.Laws.Append
import Derived.Laws.AppendOwn
import Derived.Maps.RangeRun
import Derived.OrdersIn
import Derived.RangeFuncCalls
open Go renaming BinOp→dS,Builtin→aW,Deferred→cx,Field→eo,FuncId→aQ,IntKind→aA,MapEntry→bS,Operand→aP,Program→ay,Result→aU,TypeDesc→ci,TypeId→ah,Value→ai,World→am,run_underlying→aF,typeInfo→ep
open List renaming all_cons→eu,all_eq_true→bU,getElem?_append_left→da,getElem?_append_right→ez,getElem?_of_mem→eA
open Nat renaming le_of_ble_eq_true→cJ,mul_le_mul_right→cV
set_option linter.unusedVariables false
namespace Go.AM
open Go List Nat
abbrev aj:=@if_neg
abbrev ak:=@if_pos
abbrev aC:=@decide_eq_false
abbrev aH:=@decide_eq_true
abbrev aq:=@and_true
abbrev aZ:=@beq_self_eq_true
abbrev aD:=@cond_true
abbrev aJ:=@congrArg
theorem oT {p:Prop} [Decidable p] (h:decide p=true):p:=of_decide_eq_true h
theorem oF {p:Prop} [Decidable p] (h:decide p=false):¬p:=of_decide_eq_false h
theorem gE {α:Type} {l:List α} {i:Nat} (h:i < l.length):l[i]?=some l[i]:=getElem?_eq_getElem h
theorem gS {α:Type} {l:List α} {i:Nat} {a:α} (h:l[i]?=some a):∃ h:i < l.length,l[i]=a:=List.getElem?_eq_some_iff.1 h
theorem lAp {α:Type} {l m:List α}:(l ++ m).length=l.length + m.length:=length_append
theorem bE {n m:Nat} (h:beq n m=true):n=m:=eq_of_beq_eq_true h
theorem cI {α:Type} (a:α) (l:List α) (b:α) (m:List α):((a::l)=(b::m))=(a=b∧l=m):=List.cons.injEq a l b m
theorem zAY (n:Nat):0 + n=n:=Nat.zero_add n
theorem mO {α:Type} (y:α) {a:α} {l:List α} (h:a∈l):a∈y::l:=mem_cons_of_mem y h
theorem mG {α:Type} {l:List α} {i:Nat} {a:α} (h:l[i]?=some a):a∈l:=mem_of_getElem? h
theorem bL {n m:Nat} (h:n ≤ m):ble n m=true:=ble_eq_true_of_le h
theorem lMY {α β:Type} {l:List α} (f:α→β):(l.map f).length=l.length:=length_map f
theorem g0Y {α:Type} {a:α} {l:List α}:(a::l)[0]?=some a:=rfl
theorem g1Y {α:Type} {a:α} {l:List α} {i:Nat}:(a::l)[i+1]?=l[i]?:=rfl
theorem mP {α:Type} {a:α} {s t:List α} (h:a∈s ++ t):a∈s∨a∈t:=mem_append.1 h
theorem mCY {α:Type} {a b:α} {l:List α} (h:a∈b::l):a=b∨a∈l:=mem_cons.1 h
inductive AV where
 |bool (b:Bool)
 |int (k:aA) (n:Int)
 |str (s:ByteArray)
 |ptr (b o:Nat)
 |nilptr
 |slc (b o len:Nat) (cap:Option Nat) (es:Nat)
 |nilslc
 |map (b:Nat)
 |nilmap
 |fn (f:Fn) (first captured:List AV)
 |yield (l:Nat)
 |nilFunc
 |ifc (t:ah) (v:AV)
 |nilIface
 |agg (cs:List AV)
 |tup (vs:List AV)
 deriving Inhabited
theorem oM{p:Prop}(h:p:=by omega):p:=h
theorem sI{p:Prop}(h:p:=by simp):p:=h
theorem gR{p:Prop}(h:p:=by grind):p:=h
theorem kR{p:Prop}(h:p:=by kernel_rfl):p:=h
theorem dE{p:Prop}(h:p:=by decide):p:=h
instance:Coe Int AV:=⟨.int .i64⟩
instance:Coe Nat AV:=⟨λn=>.int .i64 n⟩
instance:Coe Bool AV:=⟨.bool⟩
structure Mac(n:Nat)
def Ii:Mac 0:=⟨⟩
def Iw:Mac 1:=⟨⟩
def Iq:Mac 2:=⟨⟩
instance:CoeFun (Mac 0) λ_=>Int->AV:=⟨λ_=>.int .i64⟩
instance:CoeFun (Mac 1) λ_=>Int->AV:=⟨λ_=>.int .u32⟩
instance:CoeFun (Mac 2) λ_=>Int->AV:=⟨λ_=>.int .u64⟩
structure MP(P:Prop)
structure MV(v:AV)
structure ML(l:List AV)
instance{P}:CoeSort (MP P) Prop:=⟨λ_=>P⟩
instance{P}:CoeOut (MP P) Prop:=⟨λ_=>P⟩
instance{v}:CoeOut (MV v) AV:=⟨λ_=>v⟩
instance{l}:CoeOut (ML l) (List AV):=⟨λ_=>l⟩
def Pp(b:Nat):MV (.ptr b 0):=⟨⟩
def AV.undef:AV:=.tup []
def AV.cells:AV->List AV
 | .agg cs=>cs
 |v=>[v]
def AV.one:AV->Bool
 | .agg _ | .tup _=>false
 |_=>true
structure AEnt where
 key:AV
 val:AV
 born:Nat
def ofV:Nat->ai->Option AV
 |_,.bool b=>some (.bool b)
 |_,.int k n=>some (.int k n)
 |_,.string s=>some (.str s)
 |_,.pointer none=>some .nilptr
 |_,.slice none 0 0=>some .nilslc
 |_,.map none=>some .nilmap
 |_,.nilFunc=>some .nilFunc
 |_,.nilIface=>some .nilIface
 |d+1,.agg cs=>(cs.toList.mapM (ofV d)).map .agg
 |d+1,.tuple cs=>(cs.toList.mapM (ofV d)).map .tup
 |_,_=>none
inductive AExit where
 |nrm
 |exit (id:Nat)
 |ret
inductive Blk where
 |cells (elem:ah) (l:List AV)
 |map (es:List AEnt) (clock:Nat)
 |loop (st:LoopState) (pending:Option Code) (nt:Nat) (keep:List (Nat×AV)) (params:List Tmp) (assign body:Code) (d:Nat)
 |deferred (b:Bool)
 |glob (g:Nat) (v:AV)
 |one (v:AV)
 |iter (m:Option Nat) (since:Nat) (seen:List Nat) (stepped:Nat)
abbrev Hq:=Nat->Option (Bool×Blk)
def Hc(s:Hq)(b:Nat)(t:ah)(c:List AV):MP (s b=some (false,.cells t c)):=⟨⟩
def hset(s:Hq)(b:Nat)(e:Bool×Blk):Hq:=λi=>if i=b then some e else s i
def hdel(s:Hq)(b:Nat):Hq:=λi=>if i=b then none else s i
def add(s t:Hq):Hq:=λi=>match s i with|some e=>some e|none=>t i
def Sub(s t:Hq):Prop:=∀i e,s i=some e->t i=some e
def Pers(s s':Hq):Prop:=∀i b,s i=some (true,b)->s' i=some (true,b)
variable (P:ay)
def sz(t:ah):Option Nat:=match P.info? t with|some i=>some i.size|none=>none
def gY(t:ah):Option Bool:=match P.underlying t with
 |some (.struct _)=>some true
 |some (.array _ _)=>some true
 |some _=>some false
 |none=>none
def g9(t:ah):Option AV:=match P.info? t with
 |some i=>match i.zero with|some v=>ofV 2 v|none=>none
 |none=>none
def gh(t:ah)(cs:List AV)(off:Nat):Option AV:=
 match gY P t with
 | some true=>match sz P t with
   |some n=>cond (ble (off+n) cs.length) (some (.agg ((cs.drop off).take n))) none
   |none=>none
 |some false=>cs[off]?
 |none=>none
def frc{β:Type}(n:Int)(k:Int->β):β:=k n
def ltI(x y:Int):Bool:=decide (x<y)
def eqI(x y:Int):Bool:=x == y
def dw(k:aA)(n:Int):Int:=k.wrap n
theorem eQ{β:Type}(n:Int)(k:Int->β):frc n k=k n:=rfl
theorem ib(x y:Int):ltI x y=decide (x<y):=rfl
theorem iL(x y:Int):eqI x y=(x == y):=rfl
theorem gz(k:aA)(n:Int):dw k n=k.wrap n:=rfl
def arith(op:dS)(k:aA)(x y:Int):Option AV:=
 let r (n:Int):Option AV:=frc n λn=>some (.int k n)
 match op with
 | .add=>r (dw k (x+y))
 | .sub=>r (dw k (x-y))
 | .mul=>r (dw k (x*y))
 | .quo=>cond (eqI y 0) none (r (dw k (x.tdiv y)))
 | .rem=>cond (eqI y 0) none (r (x.tmod y))
 | .and=>r (dw k ((BitVec.ofInt k.bits x &&& BitVec.ofInt k.bits y).toNat:Nat))
 | .or=>r (dw k ((BitVec.ofInt k.bits x |||BitVec.ofInt k.bits y).toNat:Nat))
 | .xor=>r (dw k ((BitVec.ofInt k.bits x ^^^ BitVec.ofInt k.bits y).toNat:Nat))
 | .andNot=>r (dw k ((BitVec.ofInt k.bits x &&& ~~~(BitVec.ofInt k.bits y)).toNat:Nat))
 | .eql=>some (.bool (eqI x y))
 | .neq=>some (.bool (!eqI x y))
 | .lss=>some (.bool (ltI x y))
 | .leq=>some (.bool (!ltI y x))
 | .gtr=>some (.bool (ltI y x))
 | .geq=>some (.bool (!ltI x y))
 |_=>none
def pT(op:dS)(k:aA)(x y:Int):Option AV:=
 match y with
 | .negSucc _=>none
 | .ofNat m=>
   let n:=min m k.bits
   match op with
   | .shl=>frc (dw k (x*((2^n:Nat):Int))) λn=>some (.int k n)
   | .shr=>frc (x.fdiv ((2^n:Nat):Int)) λn=>some (.int k n)
   |_=>none
def iR:aA->aA->Bool
 | .i8,.i8 | .i16,.i16 | .i32,.i32 | .i64,.i64 | .u8,.u8 | .u16,.u16 | .u32,.u32 | .u64,.u64=>true
 |_,_=>false
def eqFields(eq:ah->AV->AV->Option Bool)(xs ys:List AV):List eo->Option Bool
 |[]=>some true
 | f::fs=>
   cond (f.name == "_") (eqFields eq xs ys fs)
    (match gh P f.type xs f.offset,gh P f.type ys f.offset with
    | some x,some y=>match eq f.type x y with
      |some true=>eqFields eq xs ys fs
      |some false=>some false
      |none=>none
    |_,_=>none)
def pU(eq:ah->AV->AV->Option Bool)(elem:ah)(n:Nat)(xs ys:List AV):Nat->Nat->Option Bool
 | 0,_=>some true
 | len+1,i=>
   match gh P elem xs (i*n),gh P elem ys (i*n)with
   | some x,some y=>match eq elem x y with
     |some true=>pU eq elem n xs ys len (i+1)
     |some false=>some false
     |none=>none
   |_,_=>none
def aEq:Nat->ah->AV->AV->Option Bool
 | 0,_,_,_=>none
 | d+1,t,x,y=>
   match P.underlying t,x,y with
   |some .bool,.bool a,.bool b=>some (a == b)
   |some (.int _),.int k a,.int k' b=>cond (iR k k') (some (eqI a b)) none
   |some .string,.str a,.str b=>some (a == b)
   |some (.pointer _),.nilptr,.nilptr=>some true
   |some (.pointer _),.nilptr,.ptr _ _=>some false
   |some (.pointer _),.ptr _ _,.nilptr=>some false
   |some (.interface _),.nilIface,.nilIface=>some true
   |some (.interface _),.nilIface,.ifc _ _=>some false
   |some (.interface _),.ifc _ _,.nilIface=>some false
   |some (.struct fields),.agg xs,.agg ys=>cond (P.stoodInHeld t) none (eqFields P (aEq d) xs ys fields.toList)
   | some (.array len elem),.agg xs,.agg ys=>match sz P elem with
     |some n=>pU P (aEq d) elem n xs ys len 0
     |none=>none
   |some (.slice _),.nilslc,.nilslc=>some true
   |some (.slice _),.nilslc,.slc _ _ _ _ _=>some false
   |some (.slice _),.slc _ _ _ _ _,.nilslc=>some false
   |some (.map _ _),.nilmap,.nilmap=>some true
   |some (.map _ _),.nilmap,.map _=>some false
   |some (.map _ _),.map _,.nilmap=>some false
   |some (.func _ _ _),.nilFunc,.nilFunc=>some true
   |some (.func _ _ _),.nilFunc,.fn _ _ _=>some false
   |some (.func _ _ _),.fn _ _ _,.nilFunc=>some false
   |_,_,_=>none
def my(t:ah):Option Nat:=match P.info? t with|some i=>some i.bytes|none=>none
def nat?:AV->Option Nat
 | .int _ (.ofNat n)=>some n
 |_=>none
def bound(x:Option AV)(dflt y:Nat):Option Nat:=
 match x with
 |none=>some dflt
 | some v=>match nat? v with
   |some n=>cond (ble n y) (some n) none
   |none=>none
def cM:AV->Option Nat
 | .slc _ _ n _ _=>some n
 | .nilslc=>some 0
 |_=>none
def min2A:AV->AV->Option AV
 | .int k x,.int k' y=>cond (iR k k') (some (.int k (cond (ltI y x) y x))) none
 |_,_=>none
def max2A:AV->AV->Option AV
 | .int k x,.int k' y=>cond (iR k k') (some (.int k (cond (ltI x y) y x))) none
 |_,_=>none
def im(f:AV->AV->Option AV):AV->List AV->Option AV
 |x,[]=>some x
 | x,y::ys=>match f x y with
   |some z=>im f z ys
   |none=>none
def jU(d:ci):AV->AV->Option Bool
 | .int k a,.int k' b=>match d with | .int _=>cond (iR k k') (some (eqI a b)) none|_=>none
 | .str a,.str b=>match d with | .string=>some (a == b)|_=>none
 | .bool a,.bool b=>match d with | .bool=>some (a == b)|_=>none
 |_,_=>none
def mz(f:AV->AV->Bool):List AV->List AV->Bool
 |[],[]=>true
 |x::xs,y::ys=>f x y&&mz f xs ys
 |_,_=>false
def iS:Nat->AV->AV->Bool
 |_+1,.bool a,.bool b=>a == b
 |_+1,.int k a,.int k' b=>iR k k'&&eqI a b
 |_+1,.str a,.str b=>a == b
 |n+1,.agg a,.agg b=>mz (iS n) a b
 |_,_,_=>false
def aggD:ci->Bool
 | .array _ _=>true
 | .struct _=>true
 |_=>false
def js(kt:ah)(d:ci)(k e:AV):Option Bool:=match aggD d with
 |false=>jU d k e
 | true=>match aEq P 30 kt k e with
   |some true=>cond (iS 10 k e) (some true) none
   |r=>r
def iM(kt:ah)(d:ci)(k:AV):List AEnt->Nat->Option (Option (Nat×AV))
 |[],_=>some none
 | e::es,i=>match js P kt d k e.key with
   |some true=>some (some (i,e.val))
   |some false=>iM kt d k es (i+1)
   |none=>none
def wG(ck:ah->AV->Bool)(e:ah)(c:Nat)(cs:List AV):Nat->Nat->Bool
 | 0,_=>true
 | n+1,i=>match gh P e cs (i*c)with
   |some x=>ck e x&&wG ck e c cs n (i+1)
   |none=>false
def pV(ck:ah->AV->Bool)(cs:List AV):List eo->Bool
 |[]=>true
 | f::fs=>cond (f.name == "_") (pV ck cs fs) (match gh P f.type cs f.offset with
   |some x=>ck f.type x&&pV ck cs fs
   |none=>false)
def iN:Nat->ah->AV->Bool
 | 0,_,_=>false
 | n+1,t,v=>match P.underlying t,v with
   |some (.int _),.int _ _=>true
   |some .string,.str _=>true
   |some .bool,.bool _=>true
   | some (.array len e),.agg cs=>match sz P e with
     |some c=>wG P (iN n) e c cs len 0
     |none=>false
   |some (.struct fs),.agg cs=>pV P (iN n) cs fs.toList
   |_,_=>false
def modE:List AEnt->Nat->(AEnt->AEnt)->List AEnt
 |[],_,_=>[]
 |e::es,0,f=>f e::es
 |e::es,i+1,f=>e::modE es i f
def hasN(n:Nat):List Nat->Bool
 |[]=>false
 |m::ms=>beq n m||hasN n ms
def jt:List Nat->Option Nat
 |[]=>none
 |[n]=>some n
 |_::ns=>jt ns
def oE(n:Nat):List AEnt->Option AEnt
 |[]=>none
 |e::es=>cond (beq e.born n) (some e) (oE n es)
def oG(op:UnOp)(x:AV):Option AV:=
 match op,x with
 | .neg,.int k n=>arith .sub k 0 n
 | .not,.bool b=>some (.bool !b)
 | .xor,.int k n=>arith .xor k (if k.signed then -1 else k.max) n
 |_,_=>none
def aX:List AV->Bool
 |[]=>true
 |v::vs=>v.one&&aX vs
def dB(cs:List AV)(off:Nat)(vs:List AV):List AV:=cs.take off++vs++cs.drop (off+vs.length)
def wH(fields:List eo)(i:Nat):Option (Nat×Nat):=match fields[i]? with
 | some f=>match sz P f.type with
   |some n=>some (f.offset,n)
   |none=>none
 |none=>none
def repl(n:Nat)(z:List AV):List AV:=match n with
 | 0=>[]
 |n+1=>z++repl n z
def eX(x:AV):Option AV:=match x with
 | .nilptr | .nilIface | .nilFunc=>none
 | .fn (.method _) _ _=>none
 |x=>some x
def bV(x:AV)(i:Nat):Option AV:=match x with
 | .tup vs=>vs[i]?
 |_=>none
def isFn(k:aQ):Bool:=match P.funcs[k]? with
 |some fn=>fn.body.isSome
 |none=>false
def oneV:List AV->AV
 |[v]=>v
 |vs=>.tup vs
def masks:List Oper->List Nat->List Nat
 |[],acc=>acc
 |o::os,acc=>masks os (acc ++ [o.after.toList.foldl (λs e=>cond (Region.binds .any e) (s |||(2^e.on |||acc.getD e.on 0)) s) 0])
def pW:List Oper->Nat->Bool
 |[],_=>true
 |o::os,i=>(o.after.toList.all λe=>!Region.binds .any e||blt e.on i)&&pW os (i+1)
def pX(ops:List Oper):Bool:=pW ops 0&&ops.all λo=>match o.op with | .select ..=>false | .defer _=>false|_=>true
def lP:List Oper->Option (List Oper×Call)
 |[]=>none
 | o::os=>match os with
   | []=>match o with
     |⟨none,.defer c,_,_,_,none⟩=>some ([],c)
     |_=>none
   | _::_=>match lP os with
     |some p=>some (o::p.1,p.2)
     |none=>none
def pY(c:Code):Option (Tmp×Code):=match c with
 | .seq (.region _ ops false) rest=>match ops.toList with
   |[⟨some t,.call ⟨.builtin .recover,⟨[]⟩,_⟩,_,_,_,none⟩]=>some (t,rest)
   |_=>none
 |_=>none
structure MapStep where
 it:Tmp
 nx:Tmp
 more:Tmp
 rest:Code
def mA(b:Code):Option MapStep:=match b with
 | .seq (.region _ ops false) rest=>match ops.toList with
   |[⟨some nx,.next (.tmp it) false,_,_,_,none⟩,⟨some more,.extract (.tmp nx') 0,_,_,_,none⟩]=>cond (beq nx nx') (some ⟨it,nx,more,rest⟩) none
   |_=>none
 |_=>none
def jV(since:Nat):List AEnt->Bool
 |[]=>true
 |e::es=>blt e.born since&&jV since es
def fY(seen:List Nat):List AEnt->List AEnt
 |[]=>[]
 |e::es=>cond (hasN e.born seen) (fY seen es) (e::fY seen es)
open Go.RowKit
structure Loc where
 blk:Nat
 sh:Nat
 sz:Nat
abbrev Ren:=Nat->Option Loc
mutual
def Rel(ρ:Ren):AV->ai->Prop
 | .bool b,v=>v=.bool b
 | .int k n,v=>v=.int k n
 | .str s,v=>v=.string s
 | .ptr b o,v=>∃L,ρ b=some L/\v=.pointer (some ⟨L.blk,L.sh+o,none⟩)
 | .nilptr,v=>v=.pointer none
 | .slc b o len cap es,v=>∃L a c,ρ b=some L/\v=.slice (some a) len c/\((a=⟨L.blk,L.sh+o,none⟩/\L.sh+o+c*es<=L.sz)∨(len=0/\c=0))/\len<=c/\∀k,cap=some k->c=k
 | .nilslc,v=>v=.slice none 0 0
 | .map b,v=>∃L,ρ b=some L/\v=.map (some L.blk)
 | .nilmap,v=>v=.map none
 | .fn f az bs,v=>∃as' bs':Array ai,v=.func f as' bs'/\RelL ρ az as'.toList/\RelL ρ bs bs'.toList
 | .yield l,v=>∃L,ρ l=some L/\v=.func (.yield L.blk) #[] #[]
 | .nilFunc,v=>v=.nilFunc
 | .ifc t x,v=>∃x',v=.iface t x'/\Rel ρ x x'
 | .nilIface,v=>v=.nilIface
 | .agg cs,v=>∃cs':Array ai,v=.agg cs'/\RelL ρ cs cs'.toList
 | .tup cs,v=>∃cs':Array ai,v=.tuple cs'/\RelL ρ cs cs'.toList
def RelL(ρ:Ren):List AV->List ai->Prop
 |[],l=>l=[]
 |x::xs,l=>∃y ys,l=y::ys/\Rel ρ x y/\RelL ρ xs ys
end
def Le(ρ ρ':Ren):Prop:=∀id L,ρ id=some L->ρ' id=some L
theorem Le.refl(ρ:Ren):Le ρ ρ:=λ_ _ h=>h
theorem Le.trans{a b c:Ren}(h:Le a b)(k:Le b c):Le a c:=λi L x=>k i L (h i L x)
mutual
theorem Rel.mono{ρ ρ':Ren}(h:Le ρ ρ'):∀(x:AV) (v:ai),Rel ρ x v->Rel ρ' x v
 | .bool _,_,r=>r
 | .int _ _,_,r=>r
 | .str _,_,r=>r
 | .ptr _ _,_,r=>by unfold Rel at r ⊢;obtain⟨L,h1,h2⟩:=r;exact⟨L,h _ _ h1,h2⟩
 | .nilptr,_,r=>r
 | .slc _ _ _ _ _,_,r=>by unfold Rel at r ⊢;obtain⟨L,o,c,h1,h2⟩:=r;exact⟨L,o,c,h _ _ h1,h2⟩
 | .nilslc,_,r=>r
 | .map _,_,r=>by unfold Rel at r ⊢;obtain⟨L,h1,h2⟩:=r;exact⟨L,h _ _ h1,h2⟩
 | .nilmap,_,r=>r
 | .fn _ az bs,_,r=>by unfold Rel at r ⊢;obtain⟨a,b,h1,h2,h3⟩:=r;exact⟨a,b,h1,RelL.mono h az _ h2,RelL.mono h bs _ h3⟩
 | .yield _,_,r=>by unfold Rel at r ⊢;obtain⟨L,h1,h2⟩:=r;exact⟨L,h _ _ h1,h2⟩
 | .nilFunc,_,r=>r
 | .ifc _ x,_,r=>by unfold Rel at r ⊢;obtain⟨y,h1,h2⟩:=r;exact⟨y,h1,Rel.mono h x _ h2⟩
 | .nilIface,_,r=>r
 | .agg cs,_,r=>by unfold Rel at r ⊢;obtain⟨y,h1,h2⟩:=r;exact⟨y,h1,RelL.mono h cs _ h2⟩
 | .tup cs,_,r=>by unfold Rel at r ⊢;obtain⟨y,h1,h2⟩:=r;exact⟨y,h1,RelL.mono h cs _ h2⟩
theorem RelL.mono{ρ ρ':Ren}(h:Le ρ ρ'):∀(x:List AV) (v:List ai),RelL ρ x v->RelL ρ' x v
 |[],_,r=>r
 |x::xs,_,r=>by unfold RelL at r ⊢;obtain⟨y,ys,h1,h2,h3⟩:=r;exact⟨y,ys,h1,Rel.mono h x _ h2,RelL.mono h xs _ h3⟩
end
section
variable {ρ:Ren}
theorem RelL.length:∀{xs:List AV}{ys:List ai},RelL ρ xs ys->ys.length=xs.length
 |[],_,r=>by grind [RelL]
 |_::xs,_,r=>by unfold RelL at r;obtain⟨y,ys,rfl,_,h⟩:=r;simp[RelL.length h]
theorem RelL.get:∀{xs:List AV}{ys:List ai},RelL ρ xs ys->∀(i:Nat) (x:AV),xs[i]?=some x->∃y,ys[i]?=some y/\Rel ρ x y
 |[],_,_,i,x,h=>by simp at h
 | x::xs,_,r,i,z,h=>by
   unfold RelL at r;obtain⟨y,ys,rfl,h1,h2⟩:=r;cases i with
   |zero=>grind
   |succ i=>simp at h ⊢;exact RelL.get h2 i z h
theorem RelL.of_get:∀{xs:List AV}{ys:List ai},ys.length=xs.length->(∀(i:Nat) (x:AV) (y:ai),xs[i]?=some x->ys[i]?=some y->Rel ρ x y)->RelL ρ xs ys
 |[],ys,hl,_=>by grind [RelL]
 | x::xs,ys,hl,h=>by
   cases ys with
   |nil=>simp at hl
   |cons y ys=>unfold RelL;exact⟨y,ys,rfl,h 0 x y rfl rfl,RelL.of_get (by simpa using hl) λi a b ha hb=>h (i+1) a b (by simpa using ha) (by simpa using hb)⟩
theorem RelL.append{a c:List AV}{b d:List ai}(h:RelL ρ a b)(k:RelL ρ c d):RelL ρ (a++c) (b++d):=by
 induction a generalizing b with
 |nil=>grind [RelL]
 |cons x xs ih=>unfold RelL at h;obtain⟨y,ys,rfl,h1,h2⟩:=h;show RelL ρ (x::(xs++c)) _;grind [RelL]
theorem RelL.take{a:List AV}{b:List ai}(h:RelL ρ a b)(n:Nat):RelL ρ (a.take n) (b.take n):=by
 refine RelL.of_get (by simp[h.length]) λi x y hx hy=>?_
 grind [get]
theorem RelL.drop{a:List AV}{b:List ai}(h:RelL ρ a b)(n:Nat):RelL ρ (a.drop n) (b.drop n):=by
 refine RelL.of_get (by simp[h.length]) λi x y hx hy=>?_
 grind [get]
theorem oH:Rel ρ .undef undef:=by exact⟨#[],rfl,by unfold RelL;rfl⟩
theorem RelL.nil:RelL ρ [] []:=by unfold RelL;rfl
theorem RelL.cons{x:AV}{xs:List AV}{y:ai}{ys:List ai}(h:Rel ρ x y)(k:RelL ρ xs ys):RelL ρ (x::xs) (y::ys):=by
 grind [RelL]
end
theorem Nd{ρ:Ren}{x:AV}{v:ai}(h:Rel ρ x v)(hx:x.one=true):v.oneCell'=true:=by
 cases x<;>simp[AV.one]at hx<;>unfold Rel at h
 all_goals first
  |(subst h;rfl)
  |(have ⟨_,_,rfl⟩:=h;rfl)
  |(obtain⟨_,_,_,_,rfl,_⟩:=h;rfl)
  |(obtain⟨_,_,rfl,_⟩:=h;rfl)
  |(obtain⟨_,rfl,_⟩:=h;rfl)
theorem mD{ρ:Ren}{x:AV}{v:ai}(h:Rel ρ x v):RelL ρ x.cells v.cells.toList:=by
 cases x
 case agg cs=>unfold Rel at h;obtain⟨cs',rfl,h⟩:=h;exact h
 all_goals (
  have h':=h;have e:v.cells=#[v]:=by
   first
   |(subst h';rfl)
   |(have ⟨_,_,rfl⟩:=h';rfl)
   |(obtain⟨_,_,_,_,rfl,_⟩:=h';rfl)
   |(obtain⟨_,_,rfl,_⟩:=h';rfl)
   |(obtain⟨_,rfl,_⟩:=h';rfl)
  rw[e];exact .cons h .nil)
structure ERel(ρ:Ren)(e:AEnt)(e':bS):Prop where
 key:Rel ρ e.key e'.key
 val:Rel ρ e.val e'.val
 born:e'.born=e.born
structure EsRel(ρ:Ren)(es:List AEnt)(es':List bS):Prop where
 len:es'.length=es.length
 at_:∀(i:Nat) (e:AEnt) (e':bS),es[i]?=some e->es'[i]?=some e'->ERel ρ e e'
theorem EsRel.mono{ρ ρ':Ren}{a:List AEnt}{b:List bS}(h:EsRel ρ a b)(hl:Le ρ ρ'):EsRel ρ' a b:=
 ⟨h.len,λi e e' x y=>let k:=h.at_ i e e' x y;⟨Rel.mono hl _ _ k.key,Rel.mono hl _ _ k.val,k.born⟩⟩
section
variable {P:ay}
theorem gO{t:ah}{n:Nat}(h:sz P t=some n)(w:am):(sizeOf t).run P w=.ok n w:=by unfold sz at h;rcases hi:P.info? t with _|i;simp[hi]at h;simp only[hi,Option.some.injEq]at h;subst h;simp[sizeOf,ep,hi]
theorem Nf{t:ah}{i:TypeInfo}(h:P.info? t=some i)(w:am):(ep t).run P w=.ok i w:=by simp[ep,h]
theorem pZ{t:ah}{b:Bool}(h:gY P t=some b)(w:am):(isAgg t).run P w=.ok b w:=by
 unfold gY at h;cases hu:P.underlying t with
 |none=>simp[hu]at h
 | some d=>
   simp only[hu]at h;cases d<;>simp at h<;>subst h<;>simp[isAgg,aF hu]
theorem p8{ρ:Ren}:∀(d:Nat) (v:ai) (x:AV),ofV d v=some x->Rel ρ x v:=by
 have mapM:∀(d:Nat),(∀v x,ofV d v=some x->Rel ρ x v)->∀(l:List ai) (r:List AV),l.mapM (ofV d)=some r->RelL ρ r l:=by
  intro d hd l
  induction l with
  |nil=>grind [RelL.nil]
  | cons v l ih=>
    intro r h;rcases h1:ofV d v with _|x;simp[h1]at h;rcases h2:l.mapM (ofV d)with _|xs;simp[h1,h2]at h;simp[h1,h2]at h;grind [RelL.cons]
 intro d
 induction d with
 | zero=>
   intro v x h;cases v with
   |pointer a=>grind [ofV,Rel]
   | slice a l c=>
     grind [ofV,Rel]
   |map r=>grind [ofV,Rel]
   |_=>simp[ofV]at h<;>(try subst h)<;>(try (unfold Rel;rfl))
 | succ d ih=>
   intro v x h;cases v with
   |pointer a=>grind [ofV,Rel]
   | slice a l c=>
     grind [ofV,Rel]
   |map r=>grind [ofV,Rel]
   | agg cs=>
     simp only[ofV,Option.map_eq_some_iff]at h
     grind [Rel]
   | tuple cs=>
     simp only[ofV,Option.map_eq_some_iff]at h
     grind [Rel]
   |_=>grind [ofV,Rel]
theorem oI{t:ah}{z:AV}(h:g9 P t=some z):∃v,(∀w,(zeroValue t).run P w=.ok v w)/\∀(ρ:Ren),Rel ρ z v:=by unfold g9 at h;rcases hi:P.info? t with _|i;simp[hi]at h;simp only[hi]at h;rcases hz:i.zero with _|v;simp[hz]at h;simp only[hz]at h;exact⟨v,λw=>by simp[zeroValue,ep,hi,hz],λρ=>p8 2 v z h⟩
variable {ρ:Ren}
theorem d6{α:Type}{b:Bool}{x:Option α}{r:α}(h:cond b x none=some r):b=true/\x=some r:=gR
theorem kN{t:ah}{cs:List AV}{cs':Array ai}{off:Nat}{x:AV}(h:gh P t cs off=some x)(hr:RelL ρ cs cs'.toList)(w:am):
  ∃v,(part t cs' off).run P w=.ok v w/\Rel ρ x v:=by
 unfold gh at h;cases ha:gY P t with
 |none=>simp[ha]at h
 | some b=>
   cases b with
   | true=>
     simp only[ha]at h;cases hs:sz P t with
     |none=>simp[hs]at h
     | some n=>
       simp only[hs]at h;have ⟨hle,h⟩:=d6 h;cases h;refine⟨.agg (cs'.extract off (off+n)),by simp[part,pZ ha,gO hs],?_⟩
       simp_all [Rel,RelL.take,RelL.drop]
   | false=>
     simp only[ha]at h;have ⟨v,hv,hrel⟩:=hr.get off x h;have hv':cs'[off]?=some v:=gR;exact⟨v,by simp[part,pZ ha,hv'],hrel⟩
theorem oJ{k k':aA}(h:iR k k'=true):k=k':=by cases k<;>cases k'<;>simp[iR]at h<;>rfl
theorem TR{eq:ah->AV->AV->Option Bool}(D:Nat)
  (heq:∀t x y b x' y',eq t x y=some b->Rel ρ x x'->Rel ρ y y'->∀w,(Op.equalIn D t x' y').run P w=.ok b w) (w:am)
  {xs ys:List AV}{xs' ys':Array ai}(hx:RelL ρ xs xs'.toList) (hy:RelL ρ ys ys'.toList) :
  ∀(fs:List eo) (b:Bool),eqFields P eq xs ys fs=some b->(Op.eqFields D xs' ys' fs).run P w=.ok b w:=by
 intro fs
 induction fs with
 |nil=>intro b h;simp[eqFields]at h;subst h;simp[Op.eqFields]
 | cons f fs ih=>
   intro b h;unfold eqFields at h;cases hn:f.name == "_" with
   | true=>
     simp only[hn,aD]at h;have:f.name="_":=by simpa using hn
     simp[Op.eqFields,this,ih b h]
   | false=>
     simp only[hn,cond_false]at h;have hne:¬f.name="_":=by simpa using hn
     cases h1:gh P f.type xs f.offset with
     |none=>simp[h1]at h
     | some x=>
       cases h2:gh P f.type ys f.offset with
       |none=>simp[h1,h2]at h
       | some y=>
         simp only[h1,h2]at h;have ⟨x',e1,r1⟩:=kN h1 hx w;have ⟨y',e2,r2⟩:=kN h2 hy w;cases h3:eq f.type x y with
         |none=>simp[h3]at h
         | some r=>
           have e3:=heq _ _ _ _ _ _ h3 r1 r2 w;cases r with
           |true=>simp only[h3]at h;simp[Op.eqFields,hne,e1,e2,e3,ih b h]
           |false=>simp only[h3,Option.some.injEq]at h;subst h;simp[Op.eqFields,hne,e1,e2,e3]
theorem TS{eq:ah->AV->AV->Option Bool}(D:Nat){e:ah}{c:Nat}
  (heq:∀t x y b x' y',eq t x y=some b->Rel ρ x x'->Rel ρ y y'->∀w,(Op.equalIn D t x' y').run P w=.ok b w) (w:am)
  {xs ys:List AV}{xs' ys':Array ai}(hx:RelL ρ xs xs'.toList) (hy:RelL ρ ys ys'.toList) :
  ∀(len i:Nat) (b:Bool),pU P eq e c xs ys len i=some b->(Op.eqItems D e c xs' ys' (range' i len)).run P w=.ok b w:=by
 intro len
 induction len with
 |zero=>intro i b h;simp[pU]at h;subst h;simp[Op.eqItems]
 | succ len ih=>
   intro i b h;unfold pU at h;cases h1:gh P e xs (i*c)with
   |none=>simp[h1]at h
   | some x=>
     cases h2:gh P e ys (i*c)with
     |none=>simp[h1,h2]at h
     | some y=>
       simp only[h1,h2]at h;have ⟨x',e1,r1⟩:=kN h1 hx w;have ⟨y',e2,r2⟩:=kN h2 hy w;rw[range'_succ];cases h3:eq e x y with
       |none=>simp[h3]at h
       | some r=>
         have e3:=heq _ _ _ _ _ _ h3 r1 r2 w;cases r with
         |true=>simp only[h3]at h;simp[Op.eqItems,e1,e2,e3,ih _ b h]
         |false=>simp only[h3,Option.some.injEq]at h;subst h;simp[Op.eqItems,e1,e2,e3]
theorem qg:∀(d:Nat) (t:ah) (x y:AV) (b:Bool) (x' y':ai),aEq P d t x y=some b->Rel ρ x x'->Rel ρ y y'->
  ∀(D:Nat),d<=D->∀w,(Op.equalIn D t x' y').run P w=.ok b w:=by
 intro d
 induction d with
 |zero=>simp_all [aEq]
 | succ d ih=>
   intro t x y b x' y' h hx hy D hD w;obtain⟨D,rfl⟩:∃k,D=k+1:=⟨D-1,by omega⟩
   unfold aEq at h;split at h
   case h_10=>
    rename_i fields xs ys hu;have hst:P.stoodInHeld t=false:=by
     grind
    obtain⟨xs',rfl,hx⟩:=hx;obtain⟨ys',rfl,hy⟩:=hy;have hf:P.fieldsOf t=fields:=by simp[ay.fieldsOf,hu]
    rw[run_equalIn_struct w D t xs' ys' (by rw[hf];exact hu) hst,hf]
    grind [TR]
   case h_11=>
    rename_i len elem xs ys hu;cases hs:sz P elem with
    |none=>simp[hs]at h
    | some n=>
      obtain⟨xs',rfl,hx⟩:=hx;obtain⟨ys',rfl,hy⟩:=hy;have hs':=hs;unfold sz at hs';cases hi:P.info? elem with
      |none=>simp[hi]at hs'
      | some i=>
        have hc:P.cellsOf elem=n:=by simp[hi]at hs';simp[ay.cellsOf,hi,hs']
        rw[run_equalIn_array w D xs' ys' hu hi,hc,range_eq_range']
        grind [TS]
   all_goals (first|(cases h;done)|skip)
   all_goals (rename_i hu;unfold Rel at hx hy)
   all_goals (first
    |(subst hx;subst hy)
    |(subst hx;obtain⟨_,_,rfl⟩:=hy)
    |(obtain⟨_,_,rfl⟩:=hx;subst hy)
    |(subst hx;obtain⟨_,rfl,_⟩:=hy)
    |(obtain⟨_,rfl,_⟩:=hx;subst hy)
    |(subst hx;obtain⟨_,_,_,_,rfl,_⟩:=hy)
    |(obtain⟨_,_,_,_,rfl,_⟩:=hx;subst hy)
    |(subst hx;obtain⟨_,_,rfl,_⟩:=hy)
    |(obtain⟨_,_,rfl,_⟩:=hx;subst hy)
    |skip)
   all_goals (try (have hc:=d6 h;clear h;obtain⟨hk,h⟩:=hc;replace hk:=oJ hk;subst hk))
   all_goals (try (cases h;done))
   all_goals (simp only[Option.some.injEq]at h;subst h)
   all_goals (simp[Op.equalIn,aF hu,iL])
end
end Go.AM
namespace Go.AM
open Go Go.RowKit List Nat
abbrev Env:=Nat->AV
def upd(e:Env)(i:Nat)(v:AV):Env:=λj=>cond (beq j i) v (e j)
def gZ(l:List AV):Env:=λi=>l.getD i .undef
def oK{α:Type}(o:Option α)(K:α->Prop):Prop:=match o with|some a=>K a|none=>False
def ao(v:AV)(p q:Prop):Prop:=match v with|true=>p|false=>q|_=>False
def cW(c a b:AV):Option AV:=match c with|true=>some a|false=>some b|_=>none
def okX:aP->Bool
 | .tmp _=>true
 | .const v=>(ofV 2 v).isSome
 | .func _=>true
 | .global _=>false
def evD(env:Env):aP->AV
 | .tmp t=>env t
 | .const v=>match ofV 2 v with|some a=>a|none=>.undef
 | .func f=>.fn (.func f) [] []
 | .global _=>.undef
def oev(env:Env):Option aP->Option AV
 |none=>none
 |some x=>some (evD env x)
def rd1(s:Hq):AV->Option AV
 | .ptr b o=>match s b with
   |some (_,.cells _ l)=>l[o]?
   |_=>none
 |_=>none
def ju(l:List AV)(o n:Nat):Option (List AV):=cond (ble (o+n) l.length) (some ((l.drop o).take n)) none
def rdN(s:Hq)(n:Nat):AV->Option (List AV)
 | .ptr b o=>match s b with
   |some (_,.cells _ l)=>ju l o n
   |_=>none
 |_=>none
def wr1(s:Hq)(p v:AV):Option Hq:=match p with
 | .ptr b o=>match s b with
   |some (false,.cells e l)=>cond (blt o l.length&&v.one) (some (hset s b (false,.cells e (l.set o v)))) none
   |_=>none
 |_=>none
def wrN(s:Hq)(p:AV)(vs:List AV):Option Hq:=match p with
 | .ptr b o=>match s b with
   |some (false,.cells e l)=>cond (ble (o+vs.length) l.length&&aX vs) (some (hset s b (false,.cells e (dB l o vs)))) none
   |_=>none
 |_=>none
def dP(s:Hq)(n:Nat)(p v:AV):Option Hq:=cond (beq v.cells.length n) (wrN s p v.cells) none
def newK(elem:ah)(cs:List AV)(K:Nat->Hq->Prop)(s:Hq):Prop:=∀b,s b=none->K b (hset s b (false,.cells elem cs))
def boxK(elem:ah)(v:AV)(K:AV->Hq->Prop)(s:Hq):Prop:=aX v.cells=true/\newK elem v.cells (λb=>K (Pp b)) s
def aM(cells:List AV):List (Nat×Nat×AV)->Option (List AV)
 |[]=>some cells
 |(off,size,v)::rest=>cond (beq v.cells.length size&&ble (off+v.cells.length) cells.length) (aM (dB cells off v.cells) rest) none
def places(place:Nat->Option (Nat×Nat)):List (Nat×aP)->Option (List (Nat×Nat×aP))
 |[]=>some []
 | (i,x)::r=>match place i,places place r with
   |some (off,size),some l=>some ((off,size,x)::l)
   |_,_=>none
def evPl(env:Env):List (Nat×Nat×aP)->List (Nat×Nat×AV)
 |[]=>[]
 |(o,n,x)::r=>(o,n,evD env x)::evPl env r
def fu(k:Nat):AV->Option AV
 | .ptr b o=>some (.ptr b (o+k))
 |_=>none
def iT(agg:Option Nat)(off:Nat)(cs:List AV):Option AV:=match agg with
 |some n=>(ju cs off n).map .agg
 |none=>cs[off]?
def wI(agg:Option Nat)(off:Nat):AV->Option AV
 | .agg cs=>iT agg off cs
 |_=>none
def fj(len n:Nat)(x i:AV):Option AV:=match x,nat? i with
 | .ptr b o,some i=>cond (blt i len) (some (.ptr b (o+i*n))) none
 |_,_=>none
def cF(n:Nat)(x i:AV):Option AV:=match x,nat? i with
 | .slc b o len _ es,some i=>cond (blt i len&&beq n es) (some (.ptr b (o+i*n))) none
 |_,_=>none
def wJ(len n:Nat)(agg:Option Nat)(x i:AV):Option AV:=match x,nat? i with
 | .agg cs,some i=>cond (blt i len) (iT agg (i*n) cs) none
 |_,_=>none
def AQ(x i:AV):Option AV:=match x,nat? i with
 | .str s,some i=>match s[i]? with
   |some b=>some (.int .u8 b.toNat)
   |none=>none
 |_,_=>none
def fI(es:Nat)(x:AV)(lo hi mx:Option AV):Option AV:=match x with
 | .slc b o len cap es'=>match bound mx (cap.getD len) (cap.getD len)with
   | some m=>match bound hi len m with
     | some h=>match bound lo 0 h with
       |some l=>cond ((mx.isNone||hi.isSome)&&beq es' es)
         (match cap,mx with
         |none,none=>some (.slc b (o+l*es') (h-l) none es')
         |_,_=>some (.slc b (o+l*es') (h-l) (some (m-l)) es')) none
       |none=>none
     |none=>none
   |none=>none
 | .nilslc=>match bound lo 0 0,bound hi 0 0,bound mx 0 0 with
   |some _,some _,some _=>cond (mx.isNone||hi.isSome) (some .nilslc) none
   |_,_,_=>none
 |_=>none
def oL(s:Hq)(n es:Nat)(x:AV)(lo hi mx:Option AV):Option AV:=match x with
 | .ptr b o=>match s b with
   | some (_,.cells _ l)=>cond (ble (o+n*es) l.length) (match bound mx n n with
     | some m=>match bound hi n m with
       | some h=>match bound lo 0 h with
         |some l=>cond (mx.isNone||hi.isSome) (some (.slc b (o+l*es) (h-l) (some (m-l)) es)) none
         |none=>none
       |none=>none
     |none=>none) none
   |_=>none
 |_=>none
def cZ(op:dS)(a b:AV):Option AV:=match a,b with
 | .int k m,.int k' n=>cond (iR k k') (arith op k m n) none
 |_,_=>none
def fN(op:dS)(a b:AV):Option AV:=match a,b with
 | .int k m,.int _ n=>pT op k m n
 |_,_=>none
def eqV(kd:Nat)(cst:Bool)(a b:AV):Option Bool:=match kd,a,b with
 | 0,.int k m,.int k' n=>cond (iR k k') (some (eqI m n)) none
 | 1,.bool a,.bool b=>some (a == b)
 | 2,.str a,.str b=>some (a == b)
 | 3,.nilptr,.nilptr=>some true
 | 3,.nilptr,.ptr _ _=>some false
 | 3,.ptr _ _,.nilptr=>some false
 | 4,.nilIface,.nilIface=>cond cst (some true) none
 | 4,.nilIface,.ifc _ _=>some false
 | 4,.ifc _ _,.nilIface=>some false
 | 5,.nilslc,.nilslc=>some true
 | 5,.nilslc,.slc _ _ _ _ _=>some false
 | 5,.slc _ _ _ _ _,.nilslc=>some false
 | 6,.nilmap,.nilmap=>some true
 | 6,.nilmap,.map _=>some false
 | 6,.map _,.nilmap=>some false
 | 7,.nilFunc,.nilFunc=>some true
 | 7,.nilFunc,.fn _ _ _=>some false
 | 7,.fn _ _ _,.nilFunc=>some false
 |_,_,_=>none
def negB(neg:Bool)(r:Option Bool):Option AV:=match r with
 |some b=>some (.bool (cond neg (!b) b))
 |none=>none
def wK:ci->Option Nat
 | .int _=>some 0
 | .bool=>some 1
 | .string=>some 2
 | .pointer _=>some 3
 | .interface _=>some 4
 | .slice _=>some 5
 | .map _ _=>some 6
 | .func _ _ _=>some 7
 |_=>none
def isC:aP->Bool
 | .const _=>true
 |_=>false
def dX(k:aA):AV->Option AV
 | .int _ n=>some (.int k (dw k n))
 |_=>none
def mF:AV->Option AV
 | .str s=>some (.str s)
 |_=>none
def jW(t:ah)(z:Option AV)(ok:Bool):AV->Option AV
 | .ifc t' v=>cond (beq t' t) (some (cond ok (.tup [v,true]) v)) (cond ok (match z with|some z=>some (.tup [z,false])|none=>none) none)
 | .nilIface=>cond ok (match z with|some z=>some (.tup [z,false])|none=>none) none
 |_=>none
def rdSl(s:Hq)(es:Nat):AV->Option (List AV)
 | .slc b o len _ es'=>cond (beq es es') (cond (beq (len*es) 0) (some []) (match s b with
   |some (_,.cells _ l)=>ju l o (len*es)
   |_=>none)) none
 | .nilslc=>some []
 |_=>none
def jX(elem:ah)(es n:Nat)(cs:List AV)(K:AV->Hq->Prop)(s:Hq):Prop:=
 n<=16777216/\newK elem cs (λb=>K (.slc b 0 n none es)) s
def lQ(elem:ah)(b:Nat)(K:Hq->Prop)(s:Hq):Prop:=match s b with
 |some (false,.cells e _)=>e=elem/\K (hdel s b)
 |_=>False
def appK(elem:ah)(es:Nat)(x y:AV)(K:AV->Hq->Prop)(s:Hq):Prop:=
 oK (rdSl s es y) λnew=>oK (cM y) λn=>match x with
  | .nilslc=>match n with
    | 0=>K .nilslc s
    |_+1=>jX elem es n new K s
  | .slc b o len cap es'=>es=es'/\(match n with
    | 0=>(match cap with|some c=>len<=c|none=>True)/\K x s
    | _+1=>match cap with
      |some c=>cond (ble (len+n) c) (oK (wrN s (.ptr b (o+len*es)) new) λs=>K (.slc b o (len+n) cap es) s)
        (oK (rdSl s es x) λold=>jX elem es (len+n) (old++new) K s)
      |none=>oK (rdSl s es x) λold=>lQ elem b (λs=>jX elem es (len+n) (old++new) K s) s)
  |_=>False
def oN(z:List AV)(es:Nat)(x:AV)(K:AV->Hq->Prop)(s:Hq):Prop:=match x with
 | .nilslc=>K .undef s
 | .slc b o n _ es'=>es'=es/\(match n with
   | 0=>K .undef s
   |_+1=>oK (wrN s (.ptr b o) (repl n z)) λs=>K .undef s)
 |_=>False
def TT(es:Nat)(d x:AV)(K:AV->Hq->Prop)(s:Hq):Prop:=oK (cM x) λm=>match d with
 | .slc b o k _ es'=>es'=es/\m<=k/\(match m with
   | 0=>False
   |_+1=>oK (rdSl s es x) λcs=>oK (wrN s (.ptr b o) cs) λs=>K m s)
 |_=>False
def lenD(d:ci)(x:AV):Option Nat:=match d with
 | .string=>match x with | .str s=>some s.size|_=>none
 | .array n _=>some n
 | .slice _=>cM x
 |_=>none
def jd(k:AV):List AEnt->Nat->Option (Option (Nat×AV))
 |[],_=>some none
 | e::es,i=>match jU (.int .i64) k e.key with
   |some true=>some (some (i,e.val))
   |some false=>jd k es (i+1)
   |none=>none
def intK(v:AV)(p:Prop):Prop:=match v with
 | .int _ _=>p
 |_=>False
def getM(s:Hq)(m k:AV):Option (Option AV):=match k with
 | .int _ _=>match m with
   | .nilmap=>some none
   | .map b=>match s b with
     | some (_,.map es _)=>match jd k es 0 with
       |some (some p)=>some (some p.2)
       |some none=>some none
       |none=>none
     |_=>none
   |_=>none
 |_=>none
def retM(z:AV)(ok:Bool):Option AV->AV
 |some v=>cond ok (.tup [v,true]) v
 |none=>cond ok (.tup [z,false]) z
def putE(es:List AEnt)(c:Nat)(k v:AV):Option (List AEnt×Nat):=match jd k es 0 with
 |some (some p)=>some (modE es p.1 λe=>{ e with key:=k,val:=v },c)
 |some none=>some (es ++ [{ key:=k,val:=v,born:=c }],c+1)
 |none=>none
def putM(s:Hq)(m k v:AV):Option Hq:=match k with
 | .int _ _=>match m with
   | .map b=>match s b with
     | some (false,.map es c)=>match putE es c k v with
       |some p=>some (hset s b (false,.map p.1 p.2))
       |none=>none
     |_=>none
   |_=>none
 |_=>none
def getG(P:ay)(kt:ah)(s:Hq)(m k:AV):Option (Option AV):=match P.underlying kt with
 | some d=>cond (aggD d&&iN P 10 kt k) (match m with
   | .nilmap=>some none
   | .map b=>match s b with
     | some (_,.map es _)=>match iM P kt d k es 0 with
       |some (some p)=>some (some p.2)
       |some none=>some none
       |none=>none
     |_=>none
   |_=>none) none
 |none=>none
def putG(P:ay)(kt:ah)(s:Hq)(m k v:AV):Option Hq:=match P.underlying kt with
 | some d=>cond (aggD d&&iN P 10 kt k) (match m with
   | .map b=>match s b with
     | some (false,.map es c)=>match iM P kt d k es 0 with
       |some (some p)=>some (hset s b (false,.map (modE es p.1 λe=>{ e with key:=k,val:=v }) c))
       |some none=>some (hset s b (false,.map (es ++ [{ key:=k,val:=v,born:=c }]) (c+1)))
       |none=>none
     |_=>none
   |_=>none) none
 |none=>none
def mapK(K:AV->Hq->Prop)(s:Hq):Prop:=∀b,s b=none->K (.map b) (hset s b (false,.map [] 0))
def jv(x:AV)(K:AV->Hq->Prop)(s:Hq):Prop:=match x with
 | .nilmap=>∀b,s b=none->K (Pp b) (hset s b (false,.iter none 0 [] 0))
 | .map m=>match s m with
   |some (_,.map _ c)=>∀b,s b=none->K (Pp b) (hset s b (false,.iter (some m) c [] c))
   |_=>False
 |_=>False
def entD(s:Hq)(x:AV):Option AV:=match x with
 | .ptr r 0=>match s r with
   | some (_,.iter (some m) _ seen stepped)=>match jt seen with
     | some stamp=>match s m with
       | some (_,.map es c)=>cond (beq c stepped) (match oE stamp es with
         |some e=>some (.tup [e.key,e.val])
         |none=>none) none
       |_=>none
     |none=>none
   |_=>none
 |_=>none
def lenM(s:Hq):AV->Option Nat
 | .nilmap=>some 0
 | .map b=>match s b with
   |some (_,.map es _)=>some es.length
   |_=>none
 |_=>none
section
variable (P : ay)
def mH(t:ah)(f:Nat):Option Nat:=match P.underlying t with
 | some (.struct fields)=>match fields[f]? with
   | some fd=>match sz P fd.type with
     |some (_+1)=>some fd.offset
     |_=>none
   |none=>none
 |_=>none
def io(t:ah):Option (Option Nat):=match gY P t with
 | some true=>match sz P t with
   |some n=>some (some n)
   |none=>none
 |some false=>some none
 |none=>none
def gP(t:ah)(p:AV)(K:AV->Prop)(s:Hq):Prop:=match io P t with
 |some (some n)=>oK (rdN s n p) λl=>K (.agg l)
 |some none=>oK (rd1 s p) K
 |none=>False
def gldN(s:Hq)(n g:Nat):Option (List AV):=match s g with
 |some (_,.glob g' (.agg l))=>cond (beq g g'&&beq n l.length) (some l) none
 |_=>none
def qq(n:Nat)(x:AV):Option AV:=match x with
 | .slc b o len _ _=>cond (ble n len&&blt 0 len) (some (.ptr b o)) none
 |_=>none
def qu(t:ah)(x:AV):Option AV:=match P.underlying t with
 |some (.array n _)=>qq n x
 |_=>none
def gldK(t:ah)(g:Nat)(K:AV->Prop)(s:Hq):Prop:=match io P t with
 |some (some n)=>oK (gldN s n g) λl=>K (.agg l)
 |_=>False
def mI(t:ah)(p v:AV)(K:AV->Hq->Prop)(s:Hq):Prop:=match io P t,sz P t with
 |some (some n),_=>oK (dP s n p v) (K .undef)
 |some none,some 1=>oK (wr1 s p v) (K .undef)
 |_,_=>False
def zcells(t:ah):Option (List AV):=match g9 P t with
 |some z=>cond (aX z.cells) (some z.cells) none
 |none=>none
def zelem(t:ah):Option (List AV×Nat):=match g9 P t,sz P t with
 |some z,some es=>cond (beq z.cells.length es&&aX z.cells) (some (z.cells,es)) none
 |_,_=>none
def fF(t:ah)(a b:AV):Option Bool:=match a,b with
 | .agg _,.agg _=>aEq P 30 t a b
 |_,_=>none
end
section
variable {P:ay} {ρ:Ren}
theorem AS{op:dS}{k:aA}{x y:Int}{v:AV}(h:arith op k x y=some v)(t:ah)(w:am):
  (op≠.shl/\op≠.shr)/\∃v',(binOp op t (.int k x) (.int k y)).run P w=.ok v' w/\Rel ρ v v':=by
 cases op
 case add=>simp only[arith,eQ,gz,Option.some.injEq]at h;subst h;exact⟨sI,_,by simp[binOp,Op.intArith];rfl,by unfold Rel;rfl⟩
 case sub=>simp only[arith,eQ,gz,Option.some.injEq]at h;subst h;exact⟨sI,_,by simp[binOp,Op.intArith];rfl,by unfold Rel;rfl⟩
 case mul=>simp only[arith,eQ,gz,Option.some.injEq]at h;subst h;exact⟨sI,_,by simp[binOp,Op.intArith];rfl,by unfold Rel;rfl⟩
 case quo=>
  simp only[arith,eQ,gz]at h;rcases hy:eqI y 0 with _|_;have h0:¬y=0:=by grind [iL]
  simp only[hy,cond_false,Option.some.injEq]at h;subst h;exact⟨sI,_,by simp[binOp,Op.intDiv,h0];rfl,by unfold Rel;rfl⟩;simp[hy]at h
 case rem=>
  simp only[arith,eQ]at h;rcases hy:eqI y 0 with _|_;have h0:¬y=0:=by grind [iL]
  simp only[hy,cond_false,Option.some.injEq]at h;subst h;exact⟨sI,_,by simp[binOp,Op.intDiv,h0];rfl,by unfold Rel;rfl⟩;simp[hy]at h
 case and=>simp only[arith,eQ,gz,Option.some.injEq]at h;subst h;exact⟨sI,_,by simp only[binOp,ne_eq,not_true_eq_false,if_false,Op.intBits];rfl,by unfold Rel;rfl⟩
 case or=>simp only[arith,eQ,gz,Option.some.injEq]at h;subst h;exact⟨sI,_,by simp only[binOp,ne_eq,not_true_eq_false,if_false,Op.intBits];rfl,by unfold Rel;rfl⟩
 case xor=>simp only[arith,eQ,gz,Option.some.injEq]at h;subst h;exact⟨sI,_,by simp only[binOp,ne_eq,not_true_eq_false,if_false,Op.intBits];rfl,by unfold Rel;rfl⟩
 case andNot=>simp only[arith,eQ,gz,Option.some.injEq]at h;subst h;exact⟨sI,_,by simp only[binOp,ne_eq,not_true_eq_false,if_false,Op.intBits];rfl,by unfold Rel;rfl⟩
 case eql=>simp only[arith,Option.some.injEq]at h;subst h;exact⟨sI,_,by simp[binOp,Op.intCmp];rfl,by unfold Rel;rw[iL]⟩
 case neq=>simp only[arith,Option.some.injEq]at h;subst h;exact⟨sI,_,by simp[binOp,Op.intCmp];rfl,by grind [Rel,iL]⟩
 case lss=>simp only[arith,Option.some.injEq]at h;subst h;exact⟨sI,_,by simp[binOp,Op.intCmp];rfl,by unfold Rel;rw[ib]⟩
 case leq=>simp only[arith,Option.some.injEq]at h;subst h;exact⟨sI,_,by simp[binOp,Op.intCmp];rfl,by grind [Rel,ib]⟩
 case gtr=>simp only[arith,Option.some.injEq]at h;subst h;exact⟨sI,_,by simp[binOp,Op.intCmp];rfl,by unfold Rel;rw[ib]⟩
 case geq=>simp only[arith,Option.some.injEq]at h;subst h;exact⟨sI,_,by simp[binOp,Op.intCmp];rfl,by grind [Rel,ib]⟩
 case shl=>simp[arith]at h
 grind [arith]
theorem Ng{op:dS}{k k':aA}{x y:Int}{v:AV}(h:pT op k x y=some v)(t:ah)(w:am):
  ∃v',(binOp op t (.int k x) (.int k' y)).run P w=.ok v' w/\Rel ρ v v':=by
 cases y with
 |negSucc m=>simp[pT]at h
 | ofNat m=>
   have h0:¬(Int.ofNat m<0):=sI;cases op<;>simp only[pT,eQ,gz]at h<;>first|(cases h;done)|skip
   exact⟨_,by simp only[binOp,Op.shift,h0,if_false];rfl,by grind [Rel]⟩;exact⟨_,by simp only[binOp,Op.shift,h0,if_false];rfl,by grind [Rel]⟩
theorem AT{x:AV}{v:ai}(h:Rel ρ x v)(h1:x≠.nilIface)(h2:∀cs,x≠.agg cs):v≠.nilIface/\∀cs,v≠.agg cs:=by
 cases x<;>unfold Rel at h<;>first
  |exact absurd rfl h1
  |exact absurd rfl (h2 _)
  |grind
  |grind
  |grind
  |grind
  |grind
theorem Nh{op:dS}{t:ah}{x y:aP}{a b:ai}(w:am)
  (h:(match a,b with
   | .nilIface,.nilIface=>(x matches .const _)||(y matches .const _)
   | .agg _,.agg _=>!P.eqGuardType P.depth t
   |_,_=>true)=true):(eqGuard op t x y a b).run P w=.ok () w:=by
 unfold eqGuard;cases op<;>simp only[Bool.not_true,Bool.not_false,Bool.false_eq_true,if_false,if_true]<;>first|rfl|skip
 all_goals
  split
  ·cases x<;>cases y<;>first|(simp at h;done)|rfl
  simp_all
  rfl
theorem AU{op:dS}{t:ah}{x y:aP}{a b:ai}(w:am)
  (h:(a≠.nilIface/\∀cs,a≠.agg cs)∨(b≠.nilIface/\∀cs,b≠.agg cs)):(eqGuard op t x y a b).run P w=.ok () w:=by
 grind [Nh]
def shape:ai->Bool
 | .int _ _ | .float _ _ | .complex _ _ _ | .string _=>false
 |_=>true
theorem AW(t:ah)(a b:ai)(h:shape a=true):binOp .eql t a b=(do pure (.bool (<- Op.equal t a b))):=by cases a<;>first|(simp[shape]at h;done)|rfl
theorem AX(t:ah)(a b:ai)(h:shape a=true):binOp .neq t a b=(do pure (.bool (!(<- Op.equal t a b)))):=by cases a<;>first|(simp[shape]at h;done)|rfl
theorem AY{x:AV}{v:ai}(h:Rel ρ x v)(h1:∀k n,x≠.int k n)(h2:∀s,x≠.str s):shape v=true:=by
 cases x<;>unfold Rel at h<;>first
  |exact absurd rfl (h1 _ _)
  |exact absurd rfl (h2 _)
  |(subst h;rfl)
  |(have ⟨_,_,rfl⟩:=h;rfl)
  |(obtain⟨_,_,_,_,rfl,_⟩:=h;rfl)
  |(obtain⟨_,_,rfl,_⟩:=h;rfl)
  |(obtain⟨_,rfl,_⟩:=h;rfl)
theorem AZ{d:Nat}{t:ah}{k:aA}{n:Int}{y:AV}{b:Bool}(h:aEq P d t (.int k n) y=some b):∃k' m,y=.int k' m:=by
 cases d with
 |zero=>simp[aEq]at h
 | succ d=>
   unfold aEq at h
   grind
theorem A0{d:Nat}{t:ah}{s:ByteArray}{y:AV}{b:Bool}(h:aEq P d t (.str s) y=some b):∃s',y=.str s'/\b=(s == s'):=by
 cases d with
 |zero=>simp[aEq]at h
 | succ d=>
   unfold aEq at h;split at h<;>simp_all
theorem qy{t:ah}{a b:AV}{r:Bool}{a' b':ai}(h:aEq P 30 t a b=some r)(hne:∀k m k' n,a=.int k m->b≠.int k' n)(ha:Rel ρ a a')(hb:Rel ρ b b')(w:am):
  (binOp .eql t a' b').run P w=.ok (.bool r) w/\(binOp .neq t a' b').run P w=.ok (.bool !r) w:=by
 by_cases hs:∃s,a=.str s
 obtain⟨s,rfl⟩:=hs;obtain⟨s',rfl,rfl⟩:=A0 h;unfold Rel at ha hb;subst ha;subst hb;simp[binOp,Op.stringOp,beq_toListBytes];have hsh:shape a'=true:=(by grind [AY,AZ])
 have hq:(Op.equal t a' b').run P w=.ok r w:=qg 30 t a b r a' b' h ha hb 10000 dE w
 simp_all [AW,AX]
def oO:AV->Bool
 | .nilIface | .agg _=>false
 |_=>true
def je(P:ay)(t:ah)(x y:aP):AV->AV->Bool
 | .nilIface,.nilIface=>(match x with | .const _=>true|_=>false)||(match y with | .const _=>true|_=>false)
 | .agg _,.agg _=>!P.eqGuardType P.depth t
 |a,b=>oO a||oO b
def binA(P:ay)(op:dS)(t:ah)(x y:aP)(a b:AV):Option AV:=
 match a,b with
 | .int k m,.int k' n=>match op with
   | .shl | .shr=>pT op k m n
   |_=>cond (iR k k') (arith op k m n) none
 | _,_=>match op with
   | .eql=>cond (je P t x y a b) ((aEq P 30 t a b).map .bool) none
   | .neq=>cond (je P t x y a b) ((aEq P 30 t a b).map λr=>.bool !r) none
   |_=>none
theorem Ni{x:AV}{v:ai}(hp:oO x=true)(h:Rel ρ x v):v≠.nilIface/\∀cs,v≠.agg cs:=
 AT h (by grind [oO]) (by grind [oO])
theorem Nj{op:dS}{t:ah}{x y:aP}{a b:AV}{a' b':ai}(h:je P t x y a b=true)(ha:Rel ρ a a')(hb:Rel ρ b b')(w:am):
  (eqGuard op t x y a' b').run P w=.ok () w:=by
 unfold je at h
 grind [Rel,Nh,Ni]
theorem A4{op:dS}{t:ah}{x y:aP}{a b:AV}(hii:¬ ∃k m k' n,a=.int k m/\b=.int k' n):binA P op t x y a b=match op with
   | .eql=>cond (je P t x y a b) ((aEq P 30 t a b).map .bool) none
   | .neq=>cond (je P t x y a b) ((aEq P 30 t a b).map λr=>.bool !r) none
   |_=>none:=by
 unfold binA
 grind
theorem wL{op:dS}{t:ah}{x y:aP}{a b v:AV}{a' b':ai}(h:binA P op t x y a b=some v)(ha:Rel ρ a a')(hb:Rel ρ b b')(w:am):
  ∃v',(do eqGuard op t x y a' b';binOp op t a' b':Sem ai).run P w=.ok v' w/\Rel ρ v v':=by
 by_cases hii:∃k m k' n,a=.int k m/\b=.int k' n
 obtain⟨k,m,k',n,rfl,rfl⟩:=hii;have hg:(eqGuard op t x y a' b').run P w=.ok () w:=AU w (.inl (Ni rfl ha));unfold Rel at ha hb;subst ha;subst hb;simp only[binA]at h;have key:∃v',(binOp op t (.int k m) (.int k' n)).run P w=.ok v' w/\Rel ρ v v':=by
  split at h;exact Ng h t w;exact Ng h t w;have hc:=d6 h;clear h;have ⟨hk,h⟩:=hc
  replace hk:=oJ hk;simp_all [AS]
 simp_all
 ·have hne:∀k m k' n,a=.int k m->b≠.int k' n:=gR
  rw[A4 hii]at h;split at h;have ⟨hg,h⟩:=d6 h;simp only[Option.map_eq_some_iff]at h;obtain⟨r,hr,rfl⟩:=h;exact⟨.bool r,by simp[Nj hg ha hb w,(qy hr hne ha hb w).1],by unfold Rel;rfl⟩;have ⟨hg,h⟩:=d6 h;simp only[Option.map_eq_some_iff]at h;obtain⟨r,hr,rfl⟩:=h;exact⟨.bool !r,by simp[Nj hg ha hb w,(qy hr hne ha hb w).2],by unfold Rel;rfl⟩
  ·cases h
theorem A5{op:UnOp}{x v:AV}{x':ai}(h:oG op x=some v)(hx:Rel ρ x x')(w:am):∃v',(Op.unary op x').run P w=.ok v' w/\Rel ρ v v':=by
 unfold oG at h;split at h;unfold Rel at hx;subst hx;simp only[arith,eQ,gz,Option.some.injEq]at h;subst h;exact⟨_,by simp[Op.unary,Op.intArith];rfl,by unfold Rel;simp⟩
 ·unfold Rel at hx;subst hx
  cases h;exact⟨_,by simp[Op.unary];rfl,by unfold Rel;rfl⟩
 unfold Rel at hx;subst hx;simp only[arith,eQ,gz,Option.some.injEq]at h;subst h;exact⟨_,by simp only[Op.unary,Op.intBits];rfl,by unfold Rel;rfl⟩
 ·cases h
theorem A6{op:dS}{t:ah}{x y:aP}(h1:op≠.shl)(h2:op≠.shr)(a b v:AV)(h:cZ op a b=some v):binA P op t x y a b=some v:=by
 unfold cZ at h
 grind [binA]
theorem A7{op:dS}{t:ah}{x y:aP}(h1:op=.shl∨op=.shr)(a b v:AV)(h:fN op a b=some v):binA P op t x y a b=some v:=by
 unfold fN at h
 grind [binA]
theorem Nk{neg:Bool}{r:Option Bool}{v:AV}(h:negB neg r=some v):∃b,r=some b/\v=(cond neg (!b) b):=by
 cases r with
 |none=>cases h
 |some b=>exact⟨b,rfl,(Option.some.inj h).symm⟩
theorem A8{neg:Bool}{d:ci}{kd:Nat}{t:ah}{x y:aP}(hu:P.underlying t=some d)(hk:wK d=some kd)(a b v:AV)(h:negB neg (eqV kd (isC x||isC y) a b)=some v):
  binA P (cond neg .neq .eql) t x y a b=some v:=by
 obtain⟨r,hr,rfl⟩:=Nk h;have key:∀(hint:¬ ∃k m k' n,a=.int k m/\b=.int k' n),je P t x y a b=true->aEq P 30 t a b=some r->binA P (cond neg .neq .eql) t x y a b=some (cond neg (!r) r):=by
  intro hint hg he;have:∀op,binA P op t x y a b=(match op with
   | .eql=>cond (je P t x y a b) ((aEq P 30 t a b).map .bool) none
   | .neq=>cond (je P t x y a b) ((aEq P 30 t a b).map λr=>.bool !r) none
   |_=>none):=by
   intro op;unfold binA
   grind
  grind
 unfold eqV at hr;split at hr
 ·rename_i k m k' n
  have ⟨h1,h2⟩:=d6 hr;cases h2;unfold binA;cases neg<;>simp only[aD,cond_false,h1,arith]
 all_goals first
  |(cases hr;done)
  |(have ⟨hcst,hr⟩:=d6 hr
    cases hr;refine key sI ?_ ?_
    ·simp only[je]
     rw[<- hcst];cases x<;>cases y<;>rfl
    ·cases d<;>simp[wK]at hk<;>simp[aEq,hu])
  |(cases hr
    refine key sI ?_ ?_;simp[je,oO]
    ·cases d<;>simp[wK]at hk<;>simp[aEq,hu])
theorem jf(B k i:Nat):(⟨B,k,none⟩:Addr).add i=⟨B,k+i,none⟩:=by
 unfold Addr.add
 grind
theorem nat?_rel{x:AV}{n:Nat}{x':ai}(h:nat? x=some n)(hx:Rel ρ x x'):∃k,x'=.int k (n:Int):=by
 unfold nat? at h;split at h
 grind [Rel]
 ·cases h
theorem A9{s d:ah}{k k':aA}{x v:AV}{x':ai}(h1:P.underlying s=some (.int k'))(h2:P.underlying d=some (.int k))(h:dX k x=some v)(hx:Rel ρ x x')(w:am):∃v',(convert s d x').run P w=.ok v' w/\Rel ρ v v':=by
 unfold dX at h;split at h
 ·unfold Rel at hx;subst hx;cases h
  exact⟨_,by simp[convert,aF h1,aF h2,Conv.intToInt];rfl,by unfold Rel;rw[gz]⟩
 ·cases h
theorem Ba{s d:ah}{x v:AV}{x':ai}(h1:P.underlying s=some .string)(h2:P.underlying d=some .string)(h:mF x=some v)(hx:Rel ρ x x')(w:am):∃v',(convert s d x').run P w=.ok v' w/\Rel ρ v v':=by
 unfold mF at h;split at h
 ·unfold Rel at hx;subst hx;cases h
  exact⟨_,by simp[convert,aF h1,aF h2];rfl,by unfold Rel;rfl⟩
 ·cases h
theorem TU{s:ah}{x v:AV}{f k:Nat}{x':ai}(h:mH P s f=some k)(hv:fu k x=some v)(hx:Rel ρ x x')(w:am):∃v',(Instr.fieldAt s x' f).run P w=.ok v' w/\Rel ρ v v':=by
 unfold mH at h;split at h<;>try (cases h;done)
 rename_i fields hu;split at h<;>try (cases h;done)
 rename_i fd hf;split at h<;>cases h
 rename_i n hs;unfold fu at hv;split at hv<;>cases hv
 obtain⟨L,hL,rfl⟩:=hx;refine⟨.pointer (some ⟨L.blk,L.sh+_+fd.offset,none⟩),by simp[Instr.fieldAt,aF hu,hf,Instr.sureAddr,fieldPlace,gO hs,jf];rfl,?_⟩
 grind [Rel]
theorem qD{t:ah}{g:Option Nat}{cs:List AV}{off:Nat}{v:AV}(hg:io P t=some g)(h:iT g off cs=some v):gh P t cs off=some v:=by
 cases e:gY P t with
 |none=>simp[io,e]at hg
 | some b=>
   cases hs:sz P t with
   |none=>cases b<;>simp_all [io,gh,iT]<;>(subst hg;exact h)
   | some n=>
     cases b
     ·simp_all [io,gh,iT];subst hg;exact h
     ·have hg:some n=g:=by simpa [io,e,hs]using hg
      subst hg;simp only[gh,e,hs];simp only[iT,ju]at h;cases hb:ble (off+n) cs.length with
      |false=>rw[hb]at h;cases h
      |true=>rw[hb]at h;exact h
theorem Bb{s:ah}{x v:AV}{f:Nat}{x':ai}{fields:Array eo}{fd:eo}{g:Option Nat}(hu:P.underlying s=some (.struct fields))(hf:fields[f]?=some fd)(hg:io P fd.type=some g)
  (h:wI g fd.offset x=some v) (hx:Rel ρ x x') (w:am):∃v',(Instr.field s x' f).run P w=.ok v' w/\Rel ρ v v':=by
 unfold wI at h;split at h
 ·unfold Rel at hx
  obtain⟨cs',rfl,hx⟩:=hx;have ⟨v',e,r⟩:=kN (qD hg h) hx w;exact⟨v',by simp[Instr.field,aF hu,hf,asAgg,e],r⟩
 ·cases h
theorem Bc{t elem:ah}{len n:Nat}{x i v:AV}{x' i':ai}(hu:P.underlying t=some (.array len elem))(hs:sz P elem=some n)(h:fj len n x i=some v)(hx:Rel ρ x x')(hi:Rel ρ i i')(w:am):
  ∃v',(Instr.indexAt t x' i').run P w=.ok v' w/\Rel ρ v v':=by
 unfold fj at h;split at h
 ·rename_i b o j hn
  obtain⟨k,rfl⟩:=nat?_rel hn hi;have ⟨hlt,h⟩:=d6 h;cases h;have hlt:j<len:=by simp_all
  obtain⟨L,hL,rfl⟩:=hx;refine⟨.pointer (some ⟨L.blk,L.sh+o+j*n,none⟩),by simp[Instr.indexAt,asIntOf,aF hu,Instr.sureAddr,gO hs,hlt,jf],?_⟩
  grind [Rel]
 ·cases h
theorem Be{t elem:ah}{n:Nat}{x i v:AV}{x' i':ai}(hu:P.underlying t=some (.slice elem))(hs:sz P elem=some n)(h:cF n x i=some v)(hx:Rel ρ x x')(hi:Rel ρ i i')(w:am):
  ∃v',(Instr.indexAt t x' i').run P w=.ok v' w/\Rel ρ v v':=by
 unfold cF at h;split at h
 ·rename_i b o len cap es j hn
  obtain⟨k,rfl⟩:=nat?_rel hn hi;have ⟨hlt,h⟩:=d6 h;cases h;have hlt:j<len:=by simp_all
  obtain⟨L,a,cc,hL,rfl,hoff,hcap,_⟩:=hx;have hoff:a=⟨L.blk,L.sh+o,none⟩:=gR;subst hoff;refine⟨.pointer (some ⟨L.blk,L.sh+o+j*n,none⟩),by simp[Instr.indexAt,asIntOf,aF hu,gO hs,hlt,jf],?_⟩
  grind [Rel]
 ·cases h
theorem Bg{t elem:ah}{len n:Nat}{g:Option Nat}{x i v:AV}{x' i':ai}(hu:P.underlying t=some (.array len elem))(hs:sz P elem=some n)(hg:io P elem=some g)(h:wJ len n g x i=some v)(hx:Rel ρ x x')(hi:Rel ρ i i')(w:am):
  ∃v',(Instr.index t x' i').run P w=.ok v' w/\Rel ρ v v':=by
 unfold wJ at h;split at h
 ·rename_i cs j hn
  obtain⟨k,rfl⟩:=nat?_rel hn hi;have ⟨hlt,h⟩:=d6 h;have hlt:j<len:=by simp_all
  obtain⟨cs',rfl,hx⟩:=hx;have ⟨v',e,r⟩:=kN (qD hg h) hx w;exact⟨v',by simp[Instr.index,asIntOf,aF hu,gO hs,hlt,e],r⟩
 ·cases h
theorem TV{t:ah}{x i v:AV}{x' i':ai}(hu:P.underlying t=some .string)(h:AQ x i=some v)(hx:Rel ρ x x')(hi:Rel ρ i i')(w:am):
  ∃v',(Instr.index t x' i').run P w=.ok v' w/\Rel ρ v v':=by
 unfold AQ at h;split at h
 ·rename_i s n hn
  obtain⟨k,rfl⟩:=nat?_rel hn hi;unfold Rel at hx;subst hx;split at h
  ·rename_i c hc
   cases h;exact⟨.int .u8 (c.toNat:Int),by simp[Instr.index,asIntOf,aF hu,hc],by unfold Rel;rfl⟩
  ·cases h
 ·cases h
theorem TW{t:ah}{d:ci}{x:AV}{x':ai}(hu:P.underlying t=some d)(hd:∀a,d≠.interface a)(hx:Rel ρ x x')(w:am):∃v',(Instr.makeInterface t x').run P w=.ok v' w/\Rel ρ (.ifc t x) v':=by
 refine⟨.iface t x',?_,by grind [Rel]⟩;simp only[Instr.makeInterface,Sem.run_bind,aF hu,aU.andThen_ok]
 simp_all
theorem TX{x v:AV}{i:Nat}{x':ai}(h:bV x i=some v)(hx:Rel ρ x x')(w:am):∃v',(Instr.extract x' i).run P w=.ok v' w/\Rel ρ v v':=by
 unfold bV at h;split at h;obtain⟨cs,rfl,hx⟩:=hx;have ⟨y,hy,r⟩:=hx.get i v h;have hy':cs[i]?=some y:=gR;exact⟨y,by simp[Instr.extract,hy'],r⟩
 ·cases h
theorem Bh{x v:AV}{xt t:ah}{d:ci}{ok:Bool}{x':ai}(hu:P.underlying t=some d)(hd:∀a,d≠.interface a)(h:jW t (g9 P t) ok x=some v)(hx:Rel ρ x x')(w:am):
  ∃v',(Instr.typeAssert x' xt t ok).run P w=.ok v' w/\Rel ρ v v':=by
 have zc:∀z,g9 P t=some z->∃zv,(∀w,(zeroValue t).run P w=.ok zv w)/\Rel ρ (.tup [z,false]) (.tuple #[zv,.bool false]):=by
  intro z hz;have ⟨zv,e,r⟩:=oI hz;refine⟨zv,e,?_⟩
  grind [Rel,RelL.cons,RelL.nil]
 unfold jW at h;split at h
 ·rename_i t' y
  obtain⟨y',rfl,hy⟩:=hx;cases hb:beq t' t with
  | true=>
    have:=bE hb;simp only[hb,aD,Option.some.injEq]at h;refine⟨cond ok (.tuple #[y',.bool true]) y',?_,by grind [Rel,RelL.cons,RelL.nil]⟩;simp only[Instr.typeAssert,Sem.run_bind,aF hu,aU.andThen_ok];cases ok<;>simp_all
  | false=>
    have hne:¬t'=t:=λe=>by simp_all
    simp only[hb,cond_false]at h;obtain⟨rfl,h⟩:=d6 h;split at h<;>cases h
    rename_i z hz;have ⟨zv,e,r⟩:=zc z hz;simp only[Instr.typeAssert,Sem.run_bind,aF hu,aU.andThen_ok]
    simp_all
 ·unfold Rel at hx;subst hx
  obtain⟨rfl,h⟩:=d6 h;split at h<;>cases h
  rename_i z hz;have ⟨zv,e,r⟩:=zc z hz;simp only[Instr.typeAssert,Sem.run_bind,aF hu,aU.andThen_ok]
  simp_all
 ·cases h
inductive ORel (ρ:Ren):Option AV->Option ai->Prop
 |none:ORel ρ none none
 |some {x v} (h:Rel ρ x v):ORel ρ (some x) (some v)
theorem mJ{x:Option AV}{x':Option ai}{d y n:Nat}(h:bound x d y=some n)(hx:ORel ρ x x'):
  (x=none/\x'=none/\n=d)∨∃k,x.isSome=true/\x'=some (.int k (n:Int))/\n<=y:=by
 cases hx with
 |none=>grind [bound]
 | some hr=>
   simp only[bound]at h;split at h
   ·rename_i m hm
    have hc:=d6 h;have ⟨hle,hh⟩:=hc;obtain⟨k,rfl⟩:=nat?_rel hm hr
    simp_all
   ·cases h
theorem sb{i y:Nat}(k:aA)(h:i<=y)(code:BoundsCode)(w:am):(Instr.sliceBound (.int k (i:Int)) y code).run P w=.ok i w:=by have:=run_sliceBound (P:=P) w k (i:Int) y code oM oM;simpa using this
theorem TY{lo hi mx:Option AV}{lo' hi' mx':Option ai}(hlo:ORel ρ lo lo')(hhi:ORel ρ hi hi')(hmx:ORel ρ mx mx'){b:Bool}{len c dm y m h l:Nat}
  (e1:bound mx dm y=some m) (hy:y<=c) (hdm:mx=none->m<=c) (e2:bound hi len m=some h) (e3:bound lo 0 h=some l) (hg:(mx.isNone||hi.isSome)=true) (w:am) :
  (Instr.sliceBounds b len c lo' hi' mx').run P w=.ok (l,h,if mx.isNone then c else m) w:=by
 rcases mJ e1 hmx with⟨rfl,rfl,hm⟩|⟨km,hms,rfl,hm⟩;have hmc:=hdm rfl;rcases mJ e2 hhi with⟨rfl,rfl,hh⟩|⟨kh,_,rfl,hh⟩;subst hh;rcases mJ e3 hlo with⟨rfl,rfl,hl⟩|⟨kl,_,rfl,hl⟩;subst hl;simp[Instr.sliceBounds];simp[Instr.sliceBounds,sb kl hl];have hhc:h<=c:=oM;rcases mJ e3 hlo with⟨rfl,rfl,hl⟩|⟨kl,_,rfl,hl⟩;subst hl;simp[Instr.sliceBounds,sb kh hhc];simp[Instr.sliceBounds,sb kh hhc,sb kl hl]
 ·obtain⟨mv,rfl⟩:=Option.isSome_iff_exists.1 hms
  have hhs:hi.isSome=true:=by simpa using hg
  have hmc:m<=c:=oM;rcases mJ e2 hhi with⟨rfl,_,_⟩|⟨kh,_,rfl,hh⟩
  ·cases hhs
  rcases mJ e3 hlo with⟨rfl,rfl,hl⟩|⟨kl,_,rfl,hl⟩;subst hl;simp[Instr.sliceBounds,sb km hmc,sb kh hh];simp[Instr.sliceBounds,sb km hmc,sb kh hh,sb kl hl]
theorem wM{x:Option AV}{d y n:Nat}(h:bound x d y=some n):n<=d∨n<=y:=by
 cases x with
 |none=>simp[bound]at h;omega
 | some x=>
   simp only[bound]at h;split at h;have ⟨hle,hh⟩:=d6 h;simp_all
   ·cases h
end
end Go.AM
namespace Go.AM
open Go Go.RowKit List Nat
variable {P:ay} {ρ:Ren}
theorem Bi{lo hi mx:Option AV}{lo' hi' mx':Option ai}{len c d m h l:Nat}(hlo:ORel ρ lo lo')(hhi:ORel ρ hi hi')(hmx:ORel ρ mx mx')(b:Bool)(e1:bound mx d d=some m)(e2:bound hi len m=some h)(e3:bound lo 0 h=some l)
  (hg:(mx.isNone||hi.isSome)=true) (hl:len<=d) (hd:d<=c) (w:am):∃M,(Instr.sliceBounds b len c lo' hi' mx').run P w=.ok (l,h,M) w/\l<=h/\h<=M/\m<=M/\M<=c/\m<=d/\(mx.isNone=false∨c=d->M=m):=by
 have hb:=TY (P:=P) hlo hhi hmx (b:=b) (len:=len) e1 hd (λhn=>by subst hn;simp[bound]at e1;omega) e2 e3 hg w;have hm:m<=d:=by rcases wM e1 with h|h<;>exact h
 have hhm:h<=m:=by
  rcases mJ (ρ:=ρ) e2 hhi with⟨h1,_,h2⟩|⟨_,_,_,h1⟩
  ·simp_all [bound]
  ·exact h1
 have hlh:l<=h:=by rcases wM e3 with h|h<;>omega
 refine⟨_,hb,hlh,?_,?_,?_,hm,?_⟩
 ·split<;>omega
 ·split<;>omega
 ·split<;>omega
 ·intro h0
  split
  ·simp_all [bound]
  ·rfl
theorem qE{l m n es:Nat}(h:l<=m)(h2:m<=n):l*es+(m-l)*es=m*es/\m*es<=n*es/\l*es<=m*es:=by refine⟨by rw[<- Nat.add_mul];congr 1;omega,cV _ h2,cV _ h⟩
theorem Bj{t elem:ah}{es:Nat}{x v:AV}{lo hi mx:Option AV}{x':ai}{lo' hi' mx':Option ai}(hu:P.underlying t=some (.slice elem))(hs:sz P elem=some es)(hh:fI es x lo hi mx=some v)(hx:Rel ρ x x')
  (hlo:ORel ρ lo lo') (hhi:ORel ρ hi hi') (hmx:ORel ρ mx mx') (w:am):∃v',(Instr.sliceAt t x' lo' hi' mx').run P w=.ok v' w/\Rel ρ v v':=by
 unfold fI at hh;split at hh
 ·rename_i b o len cap es'
  split at hh<;>try (cases hh;done)
  rename_i m e1;split at hh<;>try (cases hh;done)
  rename_i h e2;split at hh<;>try (cases hh;done)
  rename_i l e3;have hc:=d6 hh;clear hh;have ⟨hg,hh⟩:=hc;rw[Bool.and_eq_true]at hg;obtain rfl:=bE hg.2;unfold Rel at hx;obtain⟨L,a,c,hL,rfl,hoff,hlc,hcap⟩:=hx;have hcl:cap.getD len<=c/\len<=cap.getD len:=by
   cases cap with
   |none=>grind
   |some c'=>grind
  have ⟨hcl,hll⟩:=hcl;have ⟨M,hb,hlh,hhM,hmM,hMc,hmd,hMm⟩:=Bi (P:=P) hlo hhi hmx true e1 e2 e3 hg.1 hll hcl w;have ⟨h2,h3,h4⟩:=qE (es:=es') (show l<=M by omega) hMc;refine⟨.slice (if M=l then some a else some (a.add (l*es'))) (h-l) (M-l),by simp[Instr.sliceAt,Instr.slice,aF hu,hb,gO hs],?_⟩;have hv:∃q,v=.slc b (o+l*es') (h-l) q es'/\∀k,q=some k->M-l=k:=by
   cases cap with
   | none=>
     cases mx with
     |none=>grind
     |some mv=>grind
   |some c'=>grind
  obtain⟨q,rfl,hq⟩:=hv;unfold Rel;split
  ·grind
  ·grind [jf]
 ·split at hh<;>try (cases hh;done)
  rename_i l h m e3 e2 e1;have ⟨hg,hh⟩:=d6 hh;cases hh;unfold Rel at hx;subst hx;have hm0:m=0:=by rcases wM e1 with h|h<;>omega
  have hh0:h=0:=by rcases wM e2 with h|h<;>omega
  subst hm0;subst hh0;have ⟨M,hb,k1,k2,k3,k4,_⟩:=Bi (P:=P) hlo hhi hmx true e1 e2 e3 hg (Nat.le_refl 0) (Nat.le_refl 0) w;obtain rfl:M=0:=oM;obtain rfl:l=0:=oM;exact⟨.slice none 0 0,by simp[Instr.sliceAt,Instr.slice,aF hu,hb,gO hs],by unfold Rel;rfl⟩
 ·cases hh
end Go.AM
namespace Go.AM
open Go Go.RowKit List Nat
def BR(ρ:Ren)(own:Prop)(L:Loc):Blk->Option Obj->Prop
 | .cells elem l,o=>∃(cc:Array ai) (fr:Nat×Nat),o=some (.cells cc elem fr)/\(own->fr=(0,0))/\cc.size=L.sz/\L.sh+l.length<=cc.size/\
   ∀i v,l[i]?=some v->∃v',cc[L.sh+i]?=some v'/\Rel ρ v v'/\v'.oneCell'=true
 | .map es clock,o=>∃es':Array bS,o=some (.map es' clock)/\EsRel ρ es es'.toList
 | .loop st pd nt keep ps az bo d,o=>∃(fn:aQ) (tm:Array ai) (D:Loc) (env:Env),ρ d=some D/\
   o=some (.loop { state:=st,pending:=pd,fn:=fn,tmps:=tm,params:=ps.toArray,assign:=az,body:=bo,defers:=D.blk })/\tm.size=nt/\(∀i,Rel ρ (env i) (tm.getD i undef))/\∀p∈keep,env p.1=p.2
 | .deferred b,o=>o=some (.deferred (if b then some []else none))
 | .iter m since seen st,o=>L.sh=0/\∃M,(match m with|none=>M=none|some i=>∃D:Loc,ρ i=some D/\M=some D.blk)/\o=some (.mapIter M since seen.toArray st)
 | .glob g v,o=>L.blk=g/\∃(vs:List ai) (elem:ah) (fr:Nat×Nat),o=some (.cells vs.toArray elem fr)/\RelL ρ v.cells vs/\∀x∈vs,x.oneCell'=true
 | .one v,o=>L.sh=0/\∃(v':ai) (elem:ah) (fr:Nat×Nat),o=some (.cells #[v'] elem fr)/\Rel ρ v v'
theorem BR.mono{ρ ρ':Ren}{own:Prop}{L:Loc}{b:Blk}{o:Option Obj}(h:BR ρ own L b o)(hl:Le ρ ρ'):BR ρ' own L b o:=by
 cases b with
 |cells elem l=>obtain⟨cc,fr,h1,h2,h3,h4,h5⟩:=h;exact⟨cc,fr,h1,h2,h3,h4,λi v hv=>let ⟨v',a,b,c⟩:=h5 i v hv;⟨v',a,Rel.mono hl _ _ b,c⟩⟩
 |map es clock=>have ⟨es',h1,h2⟩:=h;exact⟨es',h1,h2.mono hl⟩
 |loop st pd nt T ps az bo d=>have ⟨fn,tm,D,env,h1,h2,h3,h4,h5⟩:=h;exact⟨fn,tm,D,env,hl _ _ h1,h2,h3,λi=>Rel.mono hl _ _ (h4 i),h5⟩
 |deferred b=>exact h
 | iter m since seen st=>
   have ⟨h0,M,h1,h2⟩:=h;refine⟨h0,M,?_,h2⟩;rcases m with _|i
   ·exact h1
   ·have ⟨D,h3,h4⟩:=h1;exact⟨D,hl _ _ h3,h4⟩
 |glob g v=>have ⟨h0,vs,e,fr,h1,h2,h3⟩:=h;exact⟨h0,vs,e,fr,h1,RelL.mono hl _ _ h2,h3⟩
 |one v=>have ⟨h0,v',e,fr,h1,h2⟩:=h;exact⟨h0,v',e,fr,h1,Rel.mono hl _ _ h2⟩
theorem BR.some{ρ:Ren}{own:Prop}{L:Loc}{b:Blk}{o:Option Obj}(h:BR ρ own L b o):∃x,o=some x:=by
 cases b with
 |cells elem l=>have ⟨cc,fr,h1,_⟩:=h;exact⟨_,h1⟩
 |map es clock=>have ⟨es',h1,_⟩:=h;exact⟨_,h1⟩
 |loop st pd nt T ps az bo d=>have ⟨fn,tm,D,env,_,h2,_⟩:=h;exact⟨_,h2⟩
 |deferred b=>exact⟨_,h⟩
 |iter m since seen st=>have ⟨_,M,_,h2⟩:=h;exact⟨_,h2⟩
 |glob g v=>have ⟨_,vs,e,fr,h1,_⟩:=h;exact⟨_,h1⟩
 |one v=>have ⟨_,v',_,_,h1,_⟩:=h;exact⟨_,h1⟩
theorem BR.weak{ρ:Ren}{own own':Prop}{L:Loc}{b:Blk}{o:Option Obj}(h:BR ρ own L b o)(hw:own'->own):BR ρ own' L b o:=by
 cases b with
 |cells elem l=>have ⟨cc,fr,h1,h2,h3⟩:=h;exact⟨cc,fr,h1,λk=>h2 (hw k),h3⟩
 |_=>exact h
structure WR(ρ:Ren)(base:Nat)(S:Hq)(w:am):Prop where
 at_:∀i e b,S i=some (e,b)->∃L,ρ i=some L/\BR ρ (e=false) L b w.heap[L.blk]?/\(e=false->base<=L.blk)
 inj:∀i j bi e bj Li Lj,S i=some (false,bi)->S j=some (e,bj)->ρ i=some Li->ρ j=some Lj->i≠j->Li.blk≠Lj.blk
 base:base<=w.heap.size
 fin:∃n,∀i,n<=i->ρ i=none
theorem cC{s r:Hq}{i:Nat}(h:s i=none):add s r i=r i:=by unfold add;rw[h]
theorem cU{s r:Hq}{i:Nat}{e:Bool×Blk}(h:s i=some e):add s r i=some e:=by unfold add;rw[h]
theorem dT{s:Hq}{b:Nat}{e:Bool×Blk}:hset s b e b=some e:=ak rfl
theorem cG{s:Hq}{b i:Nat}{e:Bool×Blk}(h:i≠b):hset s b e i=s i:=aj h
theorem dL{s:Hq}{b i:Nat}(h:i≠b):hdel s b i=s i:=aj h
theorem ic{s:Hq}{b:Nat}:hdel s b b=none:=ak rfl
structure Upd(w:am)(B:Nat)(o:Obj)(w':am):Prop where
 os:w'.os=w.os
 tape:w'.tape=w.tape
 output:w'.output=w.output
 size:w.heap.size<=w'.heap.size
 at_:w'.heap[B]?=some o
 other:∀k,k≠B->w'.heap[k]?=w.heap[k]?
theorem Upd.below{w w':am}{B base:Nat}{o:Obj}(h:Upd w B o w')(hb:base<=B):Below base w w':=
 ⟨h.os,h.tape,h.output,h.size,λk hk=>h.other k oM⟩
theorem qF{w:am}{k:Nat}{o:Obj}(h:w.heap[k]?=some o):k<w.heap.size:=(Array.getElem?_eq_some_iff.1 h).1
section
variable {P:ay} {ρ ρ':Ren} {base:Nat} {S S':Hq} {w w':am}
theorem WR.live{i:Nat}{e:Bool}{b:Blk}{L:Loc}(h:WR ρ base S w)(hs:S i=some (e,b))(hL:ρ i=some L):L.blk<w.heap.size:=by
 have ⟨L',h1,h2,_⟩:=h.at_ i e b hs
 grind [BR.some]
theorem WR.same(h:WR ρ base S w)(hw:w'.heap=w.heap):WR ρ base S w':=
 ⟨λi e b hi=>by rw[hw];exact h.at_ i e b hi,h.inj,by rw[hw];exact h.base,h.fin⟩
theorem WR.below(h:WR ρ base S w)(hb:Below w.heap.size w w'):WR ρ base S w':=
 ⟨λi e b hi=>by have ⟨L,h1,h2,h3⟩:=h.at_ i e b hi;exact⟨L,h1,by rw[hb.block L.blk (h.live hi h1)];exact h2,h3⟩,h.inj,Nat.le_trans h.base hb.size,h.fin⟩
theorem WR.sub(h:WR ρ base S w)(hs:Sub S' S):WR ρ base S' w:=
 ⟨λi e b hi=>h.at_ i e b (hs _ _ hi),λi j bi e bj Li Lj hi hj=>h.inj i j bi e bj Li Lj (hs _ _ hi) (hs _ _ hj),h.base,h.fin⟩
theorem WR.put{id:Nat}{b0 b:Blk}{L:Loc}{o:Obj}{tg:Bool}(h:WR ρ base S w)(h0:S id=some (false,b0))(hL:ρ id=some L)(hu:Upd w L.blk o w')(hb:BR ρ True L b (some o)):WR ρ base (hset S id (tg,b)) w'/\Below base w w':=by
 have ⟨L0,q1,_,q2⟩:=h.at_ _ _ _ h0;rw[hL]at q1;cases q1;refine⟨⟨λi e x hi=>?_,λi j bi e bj Li Lj hi hj hLi hLj hne=>?_,Nat.le_trans h.base hu.size,h.fin⟩,hu.below (q2 rfl)⟩
 ·unfold hset at hi
  split at hi
  ·grind [Upd.at_,BR.weak]
  ·rename_i q
   have ⟨L',h1,h2,h3⟩:=h.at_ i e x hi;exact⟨L',h1,by rw[hu.other _ (h.inj id i _ _ _ _ _ h0 hi hL h1 (Ne.symm q)).symm];exact h2,h3⟩
 ·have key:∀i e x,hset S id (tg,b) i=some (e,x)->∃x',S i=some (e,x')∨(i=id/\S i=some (false,x')):=by
   grind [hset]
  have ⟨x,hx⟩:=key i _ _ hi;have ⟨y,hy⟩:=key j _ _ hj;have hx2:S i=some (false,x):=gR;rcases hy with hy|⟨rfl,hy⟩
  ·exact h.inj i j _ _ _ _ _ hx2 hy hLi hLj hne
  ·exact h.inj i _ _ _ _ _ _ hx2 hy hLi hLj hne
theorem WR.free(h:WR ρ base S w):∃n,ρ n=none/\S n=none:=by
 have ⟨n,hn⟩:=h.fin;refine⟨n,hn n (Nat.le_refl _),?_⟩;cases q:S n with
 |none=>rfl
 |some x=>have ⟨L,h1,_⟩:=h.at_ n x.1 x.2 q;grind
theorem WR.new{id:Nat}{b:Blk}{L:Loc}{o:Obj}(h:WR ρ base S w)(hf:ρ id=none)(hfs:S id=none)(hdead:∀j e bj Lj,S j=some (e,bj)->ρ j=some Lj->Lj.blk≠L.blk)(hbase:base<=L.blk)(hu:Upd w L.blk o w')
  (hb:∀ ρ',Le ρ ρ'->ρ' id=some L->BR ρ' True L b (some o)):∃ ρ',Le ρ ρ'/\ρ' id=some L/\WR ρ' base (hset S id (false,b)) w'/\Below base w w':=by
 let ρ':Ren:=λi=>if i=id then some L else ρ i
 have hle:Le ρ ρ':=λi Li hi=>by
  grind
 have hnew:ρ' id=some L:=ak rfl;have hold:∀i,i≠id->ρ' i=ρ i:=λi hi=>aj hi;refine⟨ρ',hle,hnew,⟨λi e x hi=>?_,λi j bi e bj Li Lj hi hj hLi hLj hne=>?_,Nat.le_trans h.base hu.size,?_⟩,hu.below hbase⟩
 ·unfold hset at hi
  split at hi
  ·rename_i q;subst q;cases hi
   exact⟨L,hnew,by rw[hu.at_];grind,λ_=>hbase⟩
  ·have ⟨L',h1,h2,h3⟩:=h.at_ i e x hi
   exact⟨L',hle _ _ h1,by rw[hu.other _ (hdead i e x L' hi h1)];exact h2.mono hle,h3⟩
 ·by_cases qi:i=id
  ·subst qi
   rw[cG (Ne.symm hne)]at hj
   grind
  ·rw[cG qi]at hi
   rw[hold i qi]at hLi
   by_cases qj:j=id
   ·grind
   ·rw[cG qj]at hj
    rw[hold j qj]at hLj;exact h.inj i j _ _ _ _ _ hi hj hLi hLj hne
 ·have ⟨n,hn⟩:=h.fin
  refine⟨max n (id+1),λi hi=>?_⟩
  grind
end
structure Fit(ρ:Ren)(base:Nat)(s t:Hq)(w:am):Prop where
 wr:WR ρ base (add t s) w
 fr:∀i x,t i=some x->s i=none∨s i=some (true,x.2)
structure Stp(ρ ρ':Ren)(base:Nat)(s s' t:Hq)(w w':am):Prop where
 le:Le ρ ρ'
 below:Below base w w'
 pers:Pers s s'
 fit:Fit ρ' base s' t w'
 nw:∀i,t i≠none->s i=none->s' i=none
theorem Pers.refl(s:Hq):Pers s s:=λ_ _ h=>h
theorem Pers.trans{a b c:Hq}(h:Pers a b)(k:Pers b c):Pers a c:=λi x hx=>k i x (h i x hx)
section
variable {ρ ρ' ρ1 ρ2:Ren} {base:Nat} {s s' s1 s2 t:Hq} {w w' w1 w2:am}
theorem Stp.refl(h:Fit ρ base s t w):Stp ρ ρ base s s t w w:=⟨.refl _,.refl _ _,.refl _,h,λ_ _ h=>h⟩
theorem Stp.trans(h:Stp ρ ρ1 base s s1 t w w1)(k:Stp ρ1 ρ2 base s1 s2 t w1 w2):Stp ρ ρ2 base s s2 t w w2:=
 ⟨h.le.trans k.le,h.below.trans k.below,h.pers.trans k.pers,k.fit,λi a b=>k.nw i a (h.nw i a b)⟩
theorem Fit.get(h:Fit ρ base s t w){i:Nat}{e:Bool}{b:Blk}(hi:s i=some (e,b)):∃L,ρ i=some L/\BR ρ (e=false) L b w.heap[L.blk]?/\(e=false->base<=L.blk/\t i=none):=by
 cases q:t i with
 | none=>
   obtain⟨L,h1,h2,h3⟩:=h.wr.at_ i e b (by rw[cC q];exact hi)
   grind
 | some x=>
   rcases h.fr i x q with k|k
   ·rw[hi]at k;cases k
   ·rw[hi]at k;cases k
    obtain⟨L,h1,h2,_⟩:=h.wr.at_ i x.1 x.2 (cU q);exact⟨L,h1,h2.weak (λk=>nomatch k),λk=>nomatch k⟩
theorem Nl{i:Nat}{x:Bool×Blk}(h:t i=none):add t (hset s i x)=hset (add t s) i x:=by
 funext j
 unfold hset;split
 ·grind [cC]
 ·rename_i q
  cases k:t j with
  |none=>grind [cC]
  |some y=>grind [cU]
theorem Fit.sub(h:Fit ρ base s t w)(hs:Sub s' s):Fit ρ base s' t w:=
 ⟨h.wr.sub λi e hi=>by
  cases q:t i with
  |none=>rw[cC q]at hi ⊢;exact hs _ _ hi
  |some x=>grind [cU],λi x hx=>by
  cases q:s' i with
  |none=>exact .inl rfl
  |some y=>rcases h.fr i x hx with k|k
           ·rw[hs i y q]at k;cases k
           ·rw[hs i y q]at k;exact .inr k⟩
theorem Fit.same(h:Fit ρ base s t w)(hw:w'.heap=w.heap):Fit ρ base s t w':=⟨h.wr.same hw,h.fr⟩
theorem Fit.put{id:Nat}{b0 b:Blk}{L:Loc}{o:Obj}(h:Fit ρ base s t w)(h0:s id=some (false,b0))(hL:ρ id=some L)(hu:Upd w L.blk o w')(hb:BR ρ True L b (some o)):Stp ρ ρ base s (hset s id (false,b)) t w w':=by
 have ⟨L',q1,_,q3⟩:=h.get h0;have ht:=(q3 rfl).2;have ⟨k1,k2⟩:=h.wr.put (tg:=false) (by rw[cC ht];exact h0) hL hu hb;rw[<- Nl ht]at k1;refine⟨.refl _,k2,λi x hi=>?_,⟨k1,λi x hx=>?_⟩,λi hi hs=>?_⟩
 ·grind [cG]
 ·rw[cG λq=>gR];exact h.fr i x hx
 grind [cG]
theorem Fit.new{b:Blk}{L:Loc}{o:Obj}(h:Fit ρ base s t w)(hdead:∀j e bj Lj,add t s j=some (e,bj)->ρ j=some Lj->Lj.blk≠L.blk)(hbase:base<=L.blk)(hu:Upd w L.blk o w')(hb:∀ ρ' id,Le ρ ρ'->ρ' id=some L->BR ρ' True L b (some o)):
  ∃id ρ',s id=none/\ρ' id=some L/\Stp ρ ρ' base s (hset s id (false,b)) t w w':=by
 have ⟨id,f1,f2⟩:=h.wr.free;have ht:t id=none:=by
  cases q:t id with
  |none=>rfl
  |some x=>grind [cU]
 rw[cC ht]at f2;have ⟨ρ',x1,x2,x3,x4⟩:=h.wr.new f1 (by grind [cC]) hdead hbase hu λρ' a b=>hb ρ' id a b;rw[<- Nl ht]at x3;refine⟨id,ρ',f2,x2,x1,x4,λi x hi=>?_,⟨x3,λi x hx=>?_⟩,λi hi hs=>?_⟩
 ·grind [cG]
 ·rw[cG λq=>gR];exact h.fr i x hx
 grind [cG]
theorem Bk(w:am)(o:Obj):Upd w w.heap.size o (w.alloc o):=
 ⟨rfl,rfl,rfl,sI,by show(w.heap.push o)[w.heap.size]?=some o;simp,λk hk=>by show(w.heap.push o)[k]?=w.heap[k]?;grind⟩
theorem Fit.push{b:Blk}{o:Obj}{n:Nat}(h:Fit ρ base s t w)(hb:∀ ρ',Le ρ ρ'->BR ρ' True ⟨w.heap.size,0,n⟩ b (some o)):
  ∃id ρ',s id=none/\ρ' id=some ⟨w.heap.size,0,n⟩/\Stp ρ ρ' base s (hset s id (false,b)) t w (w.alloc o):=
 h.new (L:=⟨w.heap.size,0,n⟩) (λj e bj Lj hj hLj=>ne_of_lt (h.wr.live hj hLj)) h.wr.base (Bk w o) λρ' _ a _=>hb ρ' a
end
end Go.AM
namespace Go.AM
open Go Go.RowKit List Nat
section
variable {P:ay} {w:am}
theorem mK{B:Nat}{cc:Array ai}{e:ah}{fr:Nat×Nat}(h:w.heap[B]?=some (.cells cc e fr))(k:Nat):w.cell? ⟨B,k,none⟩=cc[k]?:=by simp[am.cell?,h]
theorem Nm{B:Nat}{cc:Array ai}{e:ah}(h:w.heap[B]?=some (.cells cc e (0,0)))(k:Nat):w.frozen? ⟨B,k,none⟩=false:=by simp[am.frozen?,h]
theorem TZ{B k:Nat}{cc:Array ai}{e:ah}{fr:Nat×Nat}(v:ai)(h:w.heap[B]?=some (.cells cc e fr)):
  Upd w B (.cells (cc.setIfInBounds k v) e fr) (w.setCell ⟨B,k,none⟩ v):=by
 refine⟨rfl,rfl,rfl,sI,?_,λj hj=>Below.heap_setCell _ _ _ _ hj⟩;simp[am.setCell,Array.getElem?_modify,h]
theorem Upd.trans{w1 w2:am}{B:Nat}{o1 o2:Obj}(h:Upd w B o1 w1)(k:Upd w1 B o2 w2):Upd w B o2 w2:=
 ⟨k.os.trans h.os,k.tape.trans h.tape,k.output.trans h.output,Nat.le_trans h.size k.size,k.at_,λj hj=>(k.other j hj).trans (h.other j hj)⟩
theorem Upd.self{B:Nat}{o:Obj}(h:w.heap[B]?=some o):Upd w B o w:=⟨rfl,rfl,rfl,Nat.le_refl _,h,λ_ _=>rfl⟩
theorem Nn{B k:Nat}{e:ah}:∀(vs:List ai) (i:Nat) (w:am) (cc:Array ai),w.heap[B]?=some (.cells cc e (0,0))->k+i+vs.length<=cc.size->
  (∀v∈vs,v.oneCell'=true)->∃w' cc',(storeCells ⟨B,k,none⟩ vs i).run P w=.ok () w'/\Upd w B (.cells cc' e (0,0)) w'/\cc'.size=cc.size/\
   ∀j,cc'[j]?=if k+i<=j/\j<k+i+vs.length then vs[j-(k+i)]? else cc[j]?:=by
 intro vs
 induction vs with
 | nil=>
   intro i w cc h _ _;refine⟨w,cc,by simp[storeCells],Upd.self h,rfl,λj=>?_⟩
   grind
 | cons v vs ih=>
   intro i w cc h hl h1;simp only[length_cons]at hl;have hlt:k+i<cc.size:=oM;have hcell:w.cell? ⟨B,k+i,none⟩=some cc[k+i]:=by rw[mK h];grind
   have hst:(store ((⟨B,k,none⟩:Addr).add i) v).run P w=.ok () (w.setCell ⟨B,k+i,none⟩ v):=by rw[jf,run_store P w _ v _ (h1 v sI),hcell];simp[Nm h]
   have hu:=TZ (w:=w) (k:=k+i) v h;have ⟨w',cc',e1,u1,s1,g1⟩:=ih (i+1) (w.setCell ⟨B,k+i,none⟩ v) _ hu.at_ (by simp;omega) (λx hx=>h1 x (by simp[hx]));refine⟨w',cc',by simp[storeCells,hst,e1],hu.trans u1,by simpa using s1,λj=>?_⟩;rw[g1 j]
   by_cases hj:j=k+i
   subst hj;rw[aj oM,ak sI];simp[hlt]
   by_cases hj2:k+(i+1)<=j/\j<k+(i+1)+vs.length
   rw[ak hj2,ak gR];have:j-(k+i)=(j-(k+(i+1)))+1:=oM;rw[this,g1Y]
   grind
end
theorem cB{α:Type}{o:Option α}{K:α->Prop}(h:oK o K):∃a,o=some a/\K a:=by
 cases o with
 |none=>exact h.elim
 |some a=>exact⟨a,rfl,h⟩
theorem T8{l r:List AV}{o n:Nat}(h:ju l o n=some r):o+n<=l.length/\r=(l.drop o).take n:=by
 have ⟨h1,h2⟩:=d6 h
 simp_all
theorem Np(l:List AV)(o:Nat)(vs:List AV)(h:o+vs.length<=l.length):(dB l o vs).length=l.length:=by
 grind [dB]
theorem Nq(l:List AV)(o:Nat)(vs:List AV)(h:o+vs.length<=l.length)(i:Nat):(dB l o vs)[i]?=if o<=i/\i<o+vs.length then vs[i-o]? else l[i]?:=by
 unfold dB;have h1:(l.take o).length=o:=by simp;omega
 grind
theorem fZ{v:AV}(h:v.one=true):v.cells=[v]:=by cases v<;>simp[AV.one]at h<;>rfl
theorem wN:∀{a b:List AV},aX a=true->aX b=true->aX (a++b)=true
 |[],_,_,h=>h
 | x::a,b,h1,h2=>by
   simp only[aX,Bool.and_eq_true]at h1;simp only[cons_append,aX,Bool.and_eq_true];exact⟨h1.1,wN h1.2 h2⟩
theorem Nr{z:List AV}(h:aX z=true):∀n,aX (repl n z)=true
 | 0=>rfl
 |n+1=>wN h (Nr h n)
theorem qG:∀{l:List AV},aX l=true->∀x∈l,x.one=true
 |[],_,_,h=>by cases h
 | y::l,h,x,hx=>by
   simp only[aX,Bool.and_eq_true]at h;rcases mCY hx with e|e;rw[e];exact h.1;exact qG h.2 x e
theorem Bl:∀{l:List AV},(∀x∈l,x.one=true)->aX l=true
 |[],_=>rfl
 | y::l,h=>by
   simp only[aX,Bool.and_eq_true];exact⟨h y sI,Bl λx hx=>h x (by simp[hx])⟩
def OkV(ρ:Ren)(base:Nat)(s t:Hq)(w:am)(K:AV->Hq->Prop)(r:aU ai):Prop:=
 ∃v' w' ρ' v s',r=.ok v' w'/\Stp ρ ρ' base s s' t w w'/\Rel ρ' v v'/\K v s'
section
variable {P:ay} {ρ:Ren} {base:Nat} {s t:Hq} {w:am} {K:AV→Hq→Prop}
theorem OkV.pure{r:aU ai}{v':ai}{v:AV}(hf:Fit ρ base s t w)(hr:r=.ok v' w)(h:Rel ρ v v')(hk:K v s):OkV ρ base s t w K r:=⟨v',w,ρ,v,s,hr,.refl hf,h,hk⟩
theorem Bo{v:AV}{v':ai}(h:Rel ρ v v')(h1:v'.oneCell'=true):v.one=true:=by
 cases v<;>first|rfl|skip
 ·unfold Rel at h;obtain⟨cs,rfl,_⟩:=h;cases h1
 ·unfold Rel at h;obtain⟨cs,rfl,_⟩:=h;cases h1
theorem Bp{l:List AV}{vs:List ai}(h:aX l=true)(hr:RelL ρ l vs):∀v∈vs,v.oneCell'=true:=by
 intro v hv;have ⟨i,hi⟩:=eA hv;have hlt:i<l.length:=by grind [RelL.length]
 have hx:=gE hlt
 grind [Nd,qG,RelL.get]
theorem Ns{b o n:Nat}{l:List AV}(hf:Fit ρ base s t w)(h:rdN s n (.ptr b o)=some l){L:Loc}(hL:ρ b=some L):
  ∃vs:List ai,vs.length=n/\RelL ρ l vs/\aX l=true/\(∀v∈vs,v.oneCell'=true)/\(∀j v,vs[j]?=some v->w.cell? ((⟨L.blk,L.sh+o,none⟩:Addr).add j)=some v):=by
 unfold rdN at h;simp only at h;split at h
 ·rename_i e el c hb
  obtain⟨h1,rfl⟩:=T8 h;have ⟨L',hL',⟨cc,fr,q1,_,q3,q4,q5⟩,_⟩:=hf.get hb;have key:∀i,i<n->∃v,cc[L.sh+o+i]?=some v/\Rel ρ (c[o+i]?.getD .undef) v/\v.oneCell'=true:=by
   grind
  have hg:∀i,i<n->((c.drop o).take n)[i]?=some (c[o+i]?.getD .undef):=λi hi=>by
   grind
  have hr:∀j,j<n->((List.range n).map λi=>(cc[L.sh+o+i]?).getD undef)[j]?=some ((cc[L.sh+o+j]?).getD undef):=λj hj=>by simp[hj]
  refine⟨(List.range n).map λi=>(cc[L.sh+o+i]?).getD undef,sI,RelL.of_get (by simp;omega) λi x y hx hy=>?_,Bl λx hx=>?_,λv hv=>?_,λj v hv=>?_⟩
  ·grind
  ·have ⟨i,hi⟩:=eA hx
   have hi':i<n:=gR;rw[hg i hi']at hi;cases hi;have ⟨v,a,r,z⟩:=key i hi';exact Bo r z
  ·simp only[mem_map,mem_range]at hv
   grind
  ·have hj:j<n:=gR
   grind [jf,mK]
 ·cases h
theorem Nt{b o n:Nat}{l:List AV}(hf:Fit ρ base s t w)(h:rdN s n (.ptr b o)=some l){L:Loc}(hL:ρ b=some L):
  ∃vs:List ai,vs.length=n/\RelL ρ l vs/\aX l=true/\(∀v∈vs,v.oneCell'=true)/\∀w2:am,w2.heap=w.heap->(loadCells ⟨L.blk,L.sh+o,none⟩ n).run P w2=.ok vs.toArray w2:=by
 have ⟨vs,a1,a2,a3,a4,a5⟩:=Ns hf h hL;refine⟨vs,a1,a2,a3,a4,λw2 h2=>?_⟩;have:=run_loadCells_list (P:=P) (w:=w2) ⟨L.blk,L.sh+o,none⟩ vs λj v hv=>by have:=a5 j v hv;simpa [am.cell?,h2]using this
 grind
theorem Bq{ty:ah}{p:AV}{p':ai}{K:AV->Prop}(hf:Fit ρ base s t w)(h:gP P ty p K s)(hp:Rel ρ p p'):∃a v v',p'=.pointer (some a)/\(loadVar ty a).run P w=.ok v' w/\Rel ρ v v'/\K v:=by
 unfold gP io at h;cases ha:gY P ty with
 |none=>simp only[ha]at h
 | some ag=>
   cases ag with
   | true=>
     simp only[ha]at h;cases hz:sz P ty with
     |none=>simp only[hz]at h
     | some n=>
       simp only[hz]at h;have ⟨l,h1,h2⟩:=cB h;cases p with
       | ptr b o=>
         obtain⟨L,hL,rfl⟩:=hp;have ⟨vs,_,r,_,_,e⟩:=Nt (P:=P) hf h1 hL;exact⟨_,_,.agg vs.toArray,rfl,by simp[loadVar,pZ ha,gO hz,e w rfl],by grind [Rel],h2⟩
       |_=>simp[rdN]at h1
   | false=>
     simp only[ha]at h;have ⟨v,h1,h2⟩:=cB h;cases p with
     | ptr b o=>
       obtain⟨L,hL,rfl⟩:=hp;unfold rd1 at h1;simp only at h1;split at h1
       ·rename_i e el c hb
        have ⟨L',hL',⟨cc,fr,q1,_,q3,q4,q5⟩,_⟩:=hf.get hb;rw[hL]at hL';cases hL';have ⟨v',a,r,_⟩:=q5 _ _ h1;exact⟨_,v,v',rfl,by simp[loadVar,pZ ha,mK q1,a],r,h2⟩
       ·cases h1
     |_=>simp[rd1]at h1
theorem Br{ty:ah}{g:Nat}{K:AV->Prop}(hf:Fit ρ base s t w)(h:gldK P ty g K s):∃v v',(loadVar ty ⟨g,0,none⟩).run P w=.ok v' w/\Rel ρ v v'/\K v:=by
 unfold gldK io at h;cases ha:gY P ty with
 |none=>simp only[ha]at h
 | some ag=>
   cases ag with
   |false=>simp only[ha]at h
   | true=>
     simp only[ha]at h;cases hz:sz P ty with
     |none=>simp only[hz]at h
     | some n=>
       simp only[hz]at h;have ⟨l,h1,h2⟩:=cB h;unfold gldN at h1;split at h1
       ·rename_i e g' l' hb
        have ⟨h3,h4⟩:=d6 h1;cases h4;have ⟨h5,h6⟩:=Bool.and_eq_true_iff.1 h3;obtain rfl:=bE h5;obtain rfl:=bE h6;have ⟨L,hL,⟨hbk,vs,el,fr,ho,hr,_⟩,_⟩:=hf.get hb;rw[hbk]at ho;have hr:RelL ρ l vs:=hr;have hl:=run_loadCells_list (P:=P) (w:=w) ⟨g,0,none⟩ vs (λj y hj=>by rw[jf,mK ho];simpa using hj);rw[hr.length]at hl;exact⟨_,.agg vs.toArray,by simp[loadVar,pZ ha,gO hz,hl],by grind [Rel],h2⟩
       ·cases h1
theorem Bs{b o:Nat}{vs:List AV}{vs':List ai}{s':Hq}(hf:Fit ρ base s t w)(h:wrN s (.ptr b o) vs=some s'){L:Loc}(hL:ρ b=some L)(hr:RelL ρ vs vs'):
  ∃w',(storeCells ⟨L.blk,L.sh+o,none⟩ vs').run P w=.ok () w'/\Stp ρ ρ base s s' t w w':=by
 unfold wrN at h;simp only at h;split at h
 ·rename_i e l hb
  have ⟨h1,h2⟩:=d6 h;cases h2;have ⟨h3,h4⟩:=Bool.and_eq_true_iff.1 h1;have h3:=cJ h3;have ⟨L',hL',⟨cc,fr,q1,q2,q3,q4,q5⟩,_⟩:=hf.get hb;rw[hL]at hL';cases hL';obtain rfl:=q2 rfl;have hlen:=hr.length;have ⟨w',cc',p1,p2,p3,p4⟩:=Nn (P:=P) (k:=L.sh+o) vs' 0 w cc q1 (by rw[hlen];omega) (Bp h4 hr);refine⟨w',p1,hf.put hb hL p2 ⟨cc',(0,0),rfl,λ_=>rfl,by rw[p3,q3],by grind [Np],λi v hv=>?_⟩⟩;rw[Nq _ _ _ h3]at hv;rw[p4];split at hv
  ·grind [Bp,RelL.get]
  grind
 ·cases h
theorem Bt{ty:ah}{p v:AV}{p' v':ai}(hf:Fit ρ base s t w)(h:mI P ty p v K s)(hp:Rel ρ p p')(hv:Rel ρ v v'):∃w' s',(Instr.storeAt ty p' v').run P w=.ok () w'/\Stp ρ ρ base s s' t w w'/\K .undef s':=by
 have main:∀n s',sz P ty=some n->v.cells.length=n->wrN s p v.cells=some s'->∃w',(Instr.storeAt ty p' v').run P w=.ok () w'/\Stp ρ ρ base s s' t w w':=by
  intro n s' hn hl hw;cases p with
  | ptr b o=>
    obtain⟨L,hL,rfl⟩:=hp;have hc:=mD hv;have ⟨w',e,st⟩:=Bs (P:=P) hf hw hL hc;have hsz:v'.cells.size=n:=by have:=hc.length;simp at this;omega
    exact⟨w',by simp[Instr.storeAt,Instr.sureAddr,storeVar,gO hn,hsz,e],st⟩
  |_=>simp[wrN]at hw
 unfold mI at h;split at h
 ·rename_i _ n ha
  have ⟨s',h1,h2⟩:=cB h;have ⟨h3,h4⟩:=d6 h1;have hn:sz P ty=some n:=by
   grind [io]
  have ⟨w',e,st⟩:=main n s' hn (bE h3) h4
  grind
 ·rename_i ha hn
  have ⟨s',h1,h2⟩:=cB h;unfold wr1 at h1;split at h1
  ·rename_i b o
   split at h1
   ·rename_i e l hb
    have ⟨h3,h4⟩:=d6 h1;have ⟨h5,h6⟩:=Bool.and_eq_true_iff.1 h3;have h5:o<l.length:=by rwa [blt_eq]at h5
    have ⟨w',e,st⟩:=main 1 (hset s b (false,.cells e (l.set o v))) hn (by rw[fZ h6];rfl) (by
     unfold wrN;simp only[hb,fZ h6];have e1:ble (o+[v].length) l.length=true:=bL (by simp;omega);have e2:dB l o [v]=l.set o v:=by apply ext_getElem?;grind [Nq]
     grind [aX])
    grind
   ·cases h1
  ·cases h1
 ·exact h.elim
theorem qH{elem:ah}{cs:List AV}{K:Nat->Hq->Prop}{vs:List ai}(hf:Fit ρ base s t w)(h:newK elem cs K s)(h1:aX cs=true)(hr:RelL ρ cs vs)(rest:List ai):
  ∃id s' ρ',ρ' id=some ⟨w.heap.size,0,vs.length+rest.length⟩/\Stp ρ ρ' base s s' t w (w.alloc (.cells (vs++rest).toArray elem))/\K id s':=by
 have ⟨id,ρ',a,b,c⟩:=hf.push (b:=.cells elem cs) (o:=.cells (vs++rest).toArray elem) (n:=vs.length+rest.length) λρ' hle=>⟨(vs++rest).toArray,(0,0),rfl,λ_=>rfl,sI,by simp[hr.length],λi v hv=>by have ⟨y,hy,r⟩:=hr.get i v hv;have hi:=(gS hy).1;exact⟨y,by simp[da hi,hy],Rel.mono hle _ _ r,Bp h1 hr y (mG hy)⟩⟩
 exact⟨id,_,ρ',b,c,h id a⟩
theorem T9{ty:ah}{z:List AV}(h:zcells P ty=some z):∃v,g9 P ty=some v/\z=v.cells/\aX z=true:=by
 unfold zcells at h
 grind
theorem Bu{ty:ah}{z:List AV}(hf:Fit ρ base s t w)(hz:zcells P ty=some z)(h:newK ty z (λb=>K (Pp b)) s):OkV ρ base s t w K ((Instr.alloc ty true (.tuple #[])).run P w):=by obtain⟨v,h1,rfl,h3⟩:=T9 hz;have ⟨zv,e,r⟩:=oI h1;have ⟨id,s',ρ',a,b,c⟩:=qH hf h h3 (mD (r ρ)) [];refine⟨.pointer (some ⟨w.heap.size,0,none⟩),_,ρ',Pp id,s',by simp[Instr.alloc,e,newVar,newRow];rfl,by simpa using b,by grind [Rel],c⟩
theorem Bv{ty:ah}{x:AV}{x':ai}(hf:Fit ρ base s t w)(h:boxK ty x K s)(hx:Rel ρ x x'):OkV ρ base s t w K ((Instr.box ty x').run P w):=by have ⟨id,s',ρ',a,b,c⟩:=qH hf h.2 h.1 (mD hx) [];refine⟨.pointer (some ⟨w.heap.size,0,none⟩),_,ρ',Pp id,s',by simp[Instr.box,newVar,newRow];rfl,by simpa using b,by grind [Rel],c⟩
end
end Go.AM
namespace Go.AM
open Go Go.RowKit List Nat
structure ER(ρ:Ren)(nt:Nat)(env:Env)(tm:Array ai):Prop where
 size:tm.size=nt
 at_:∀i,Rel ρ (env i) (tm.getD i undef)
theorem ER.mono{ρ ρ':Ren}{nt:Nat}{env:Env}{tm:Array ai}(h:ER ρ nt env tm)(hl:Le ρ ρ'):ER ρ' nt env tm:=⟨h.size,λi=>Rel.mono hl _ _ (h.at_ i)⟩
theorem iU{ρ:Ren}{nt:Nat}{env:Env}{a:Act}(h:ER ρ nt env a.tmps){x:aP}(hx:okX x=true):Rel ρ (evD env x) (a.eval x):=by
 cases x with
 |tmp i=>exact h.at_ i
 | const v=>
   have ⟨y,hy⟩:=Option.isSome_iff_exists.1 (show(ofV 2 v).isSome=true from hx);simp only[evD,hy];exact p8 2 v y hy
 |func f=>show Rel ρ (.fn (.func f) [] []) _;unfold Rel;exact⟨#[],#[],rfl,.nil,.nil⟩
 |global g=>cases hx
theorem oP{ρ:Ren}{nt:Nat}{env:Env}{a:Act}(h:ER ρ nt env a.tmps):∀{l:List aP},l.all okX=true->RelL ρ (l.map (evD env)) (l.map a.eval)
 |[],_=>.nil
 | x::l,hl=>by
   simp only[eu,Bool.and_eq_true]at hl;exact .cons (iU h hl.1) (oP h hl.2)
theorem Bw{ρ:Ren}{nt:Nat}{env:Env}{a:Act}(h:ER ρ nt env a.tmps){x:Option aP}(hx:∀y,x=some y->okX y=true):ORel ρ (oev env x) (x.map a.eval):=by
 cases x with
 |none=>exact .none
 |some y=>exact .some (iU h (hx y rfl))
section
variable {P:ay} {ρ:Ren} {base:Nat} {s t:Hq} {w:am} {K:AV→Hq→Prop}
def iV(n:Nat)(z:List ai):List ai:=match n with
 | 0=>[]
 |n+1=>z++iV n z
theorem wO(n:Nat)(z:List ai):(iV n z).length=n*z.length:=by
 induction n with
 |zero=>simp[iV]
 |succ n ih=>grind [iV]
theorem Bx(n:Nat)(z:List ai)(i:Nat)(hi:i<n*z.length):(iV n z)[i]?=z[i % z.length]?:=by
 induction n generalizing i with
 |zero=>simp at hi
 | succ n ih=>
   simp only[iV]
   by_cases h:i<z.length
   rw[da h,mod_eq_of_lt h];rw[ez oM,ih _ gR];rw[mod_eq_sub_mod (a:=i) oM]
theorem wP{z:List AV}{z':List ai}(h:RelL ρ z z')(n:Nat):RelL ρ (repl n z) (iV n z'):=by
 induction n with
 |zero=>exact .nil
 |succ n ih=>exact h.append ih
theorem By(z:Array ai)(n:Nat):((Array.range (n*z.size)).map (z[· % z.size]!))=(iV n z.toList).toArray:=by
 apply Array.ext;simp[wO];intro i h1 h2;have hz:0<z.size:=by
  grind
 have hg:=Bx n z.toList i (by simpa using h1);have hm:i % z.size<z.size:=mod_lt _ hz;simp only[Array.getElem_map,Array.getElem_range,getElem_toArray];have h2':i<(iV n z.toList).length:=by simpa using h2
 rw[gE h2']at hg;simp only[Array.length_toList,Array.getElem?_toList,Array.getElem?_eq_getElem hm,Option.some.injEq]at hg;rw[hg];simp[hm]
theorem wQ{elem:ah}{z:List AV}{es:Nat}(h:zelem P elem=some (z,es)):∃i v,P.info? elem=some i/\i.zero=some v/\i.size=es/\v.cells.size=es/\aX z=true/\∀ ρ,RelL ρ z v.cells.toList:=by
 unfold zelem at h;split at h
 ·rename_i za m hz hs
  have ⟨hb,h⟩:=d6 h;cases h;have ⟨hb,h1⟩:=Bool.and_eq_true_iff.1 hb;have hb:=bE hb;have ⟨v,e,r⟩:=oI hz;unfold g9 at hz;split at hz
  ·rename_i i hi
   split at hz
   ·rename_i v' hv'
    have hvv:v'=v:=by have:=e default;simp[zeroValue,ep,hi,hv']at this;exact this
    subst hvv;have hr:=λρ=>mD (r ρ);refine⟨i,v',hi,hv',?_,?_,h1,hr⟩
    ·grind [sz]
    ·have:=(hr λ_=>none).length;simp at this;omega
   ·cases hz
  ·cases hz
 ·cases h
theorem Nu{elem:ah}{z:List AV}{es:Nat}(h:zelem P elem=some (z,es)):sz P elem=some es:=by
 unfold zelem at h
 grind
theorem Bz(l:List ai):∀(n off:Nat) (a:Array ai),off+n+l.length<=a.size->
  ((l.zipIdx n).foldl (λ(cs:Array ai) (x:ai×Nat)=>cs.setIfInBounds (off+x.2) x.1) a).size=a.size/\
  ∀j:Nat,((l.zipIdx n).foldl (λ(cs:Array ai) (x:ai×Nat)=>cs.setIfInBounds (off+x.2) x.1) a)[j]?=if off+n<=j/\j<off+n+l.length then l[j-(off+n)]? else a[j]?:=by
 induction l with
 |nil=>intro n off a h;refine⟨rfl,λj=>?_⟩;simp only[zipIdx_nil,foldl_nil,length_nil];rw[aj oM]
 | cons v l ih=>
   intro n off a h;simp only[length_cons]at h;have ⟨h1,h2⟩:=ih (n+1) off (a.setIfInBounds (off+n) v) (by simp;omega);simp only[zipIdx_cons,foldl_cons];refine⟨by rw[h1];simp,λj=>?_⟩;rw[h2 j]
   by_cases hj:j=off+n
   grind
   by_cases hj2:off+(n+1)<=j/\j<off+(n+1)+l.length
   rw[ak hj2,ak gR];have:j-(off+n)=(j-(off+(n+1)))+1:=oM
   simp_all
   grind
theorem Ua{cs vs:List AV}{cs':Array ai}{vs':Array ai}{off:Nat}(h:RelL ρ cs cs'.toList)(hv:RelL ρ vs vs'.toList)(hl:off+vs.length<=cs.length):
  RelL ρ (dB cs off vs) (vs'.zipIdx.foldl (λ(cs:Array ai) (x:ai×Nat)=>cs.setIfInBounds (off+x.2) x.1) cs').toList:=by
 have e1:=h.length;have e2:=hv.length;simp only[Array.length_toList]at e1 e2;have ⟨s1,s2⟩:=Bz vs'.toList 0 off cs' (by simp;omega);have hfold:vs'.zipIdx.foldl (λ(cs:Array ai) (x:ai×Nat)=>cs.setIfInBounds (off+x.2) x.1) cs'=(vs'.toList.zipIdx 0).foldl (λ(cs:Array ai) (x:ai×Nat)=>cs.setIfInBounds (off+x.2) x.1) cs':=by rw[<- Array.foldl_toList];simp
 rw[hfold];refine RelL.of_get ?_ λi x y hx hy=>?_
 grind [dB]
 rw[Array.getElem?_toList,s2]at hy;unfold dB at hx
 by_cases hi:off<=i/\i<off+vs.length
 grind [RelL.get]
 rw[aj (by simp;omega)]at hy
 grind [RelL.get]
theorem wR{nt:Nat}{place:Nat->Option (Nat×Nat)}{env:Env}{a:Act}(hT:ER ρ nt env a.tmps):∀(ps:List (Nat×aP)) (l:List (Nat×Nat×aP)) (cs r:List AV) (cs':Array ai),places place ps=some l->(ps.all λp=>okX p.2)=true->
  aM cs (evPl env l)=some r->RelL ρ cs cs'.toList->∃r':Array ai,Instr.fill place cs' (ps.map λp=>(p.1,a.eval p.2))=some r'/\RelL ρ r r'.toList/\r.length=cs.length
 |[],l,cs,r,cs',hp,_,h,hr=>by cases hp;cases h;exact⟨cs',rfl,hr,rfl⟩
 | (i,x)::ps,l,cs,r,cs',hp,ho,h,hr=>by
   unfold places at hp;split at hp
   ·rename_i off size l' hpl hpl'
    cases hp;simp only[eu,Bool.and_eq_true]at ho;have ⟨hc,h⟩:=d6 h;rw[Bool.and_eq_true]at hc;have h1:=bE hc.1;have h2:=cJ hc.2;have hv:=mD (iU hT ho.1);have ⟨r',g1,g2,g3⟩:=wR hT ps l' _ _ _ hpl' ho.2 h (Ua hr hv h2);refine⟨r',?_,g2,by grind [Np]⟩;have e1:=hr.length;have e2:=hv.length;unfold Instr.fill
    grind
   ·cases hp
theorem BA{fields:Array eo}(h:(fields.toList.all λf=>(sz P f.type).isSome)=true)(w:am):
  (fields.mapM λf=>(do pure (f.offset,<- sizeOf f.type):Sem (Nat×Nat))).run P w=.ok (fields.map λf=>(f.offset,P.cellsOf f.type)) w:=by
 rw[Array.mapM_eq_mapM_toList];simp only[Sem.run_map];have key:∀l:List eo,(l.all λf=>(sz P f.type).isSome)=true->(l.mapM λf=>(do pure (f.offset,<- sizeOf f.type):Sem (Nat×Nat))).run P w=.ok (l.map λf=>(f.offset,P.cellsOf f.type)) w:=by
  intro l
  induction l with
  |nil=>intro _;simp
  | cons f l ih=>
    intro hl;simp only[eu,Bool.and_eq_true]at hl;have ⟨n,hn⟩:=Option.isSome_iff_exists.1 hl.1;have hc:P.cellsOf f.type=n:=by unfold sz at hn;rcases hi:P.info? f.type with _|i;simp[hi]at hn;simp[hi]at hn;simp[ay.cellsOf,hi,hn]
    simp_all [gO]
 rw[key _ h];simp only[aU.andThen_ok]
 congr 1
 apply Array.ext';simp
theorem BB{ty:ah}{z:AV}{fields:Array eo}{nt:Nat}{env:Env}{a:Act}{ps:Array (Nat×aP)}{l:List (Nat×Nat×aP)}{cs:List AV}(hz:g9 P ty=some z)(hu:P.underlying ty=some (.struct fields))(hall:(fields.toList.all λf=>(sz P f.type).isSome)=true)
  (hT:ER ρ nt env a.tmps) (hp:places (wH P fields.toList) ps.toList=some l) (ho:(ps.toList.all λp=>okX p.2)=true) (h:aM z.cells (evPl env l)=some cs) (w:am) :
  ∃v',(Instr.build ty (ps.map λ(i,x)=>(i,a.eval x))).run P w=.ok v' w/\Rel ρ (.agg cs) v':=by
 have ⟨zv,e,hrel⟩:=oI hz;have ⟨r',g1,g2,_⟩:=wR hT ps.toList l z.cells cs zv.cells hp ho h (mD (hrel ρ));have hplace:(λi=>(fields.map λf=>(f.offset,P.cellsOf f.type))[i]?)=wH P fields.toList:=by
  funext i
  simp only[wH,Array.getElem?_map,Array.getElem?_toList];rcases hf:fields[i]? with _|f
  ·rfl
  ·have hm:f∈fields.toList:=gR
   have hs:=bU.1 hall f hm;have ⟨n,hn⟩:=Option.isSome_iff_exists.1 hs;have hc:P.cellsOf f.type=n:=by
    have hn':=hn;unfold sz at hn';rcases hi:P.info? f.type with _|i
    ·simp[hi]at hn'
    ·simp[hi]at hn';simp[ay.cellsOf,hi,hn']
   simp[hn,hc]
 refine⟨.agg r',?_,by grind [Rel]⟩;have hm:(ps.map λ(i,x)=>(i,a.eval x)).toList=ps.toList.map λp=>(p.1,a.eval p.2):=sI;simp only[Instr.build,Sem.run_bind,e,aU.andThen_ok,aF hu,BA hall];rw[hplace,hm,g1];rfl
theorem Ub{ty elem:ah}{z:AV}{n m:Nat}{nt:Nat}{env:Env}{a:Act}{ps:Array (Nat×aP)}{l:List (Nat×Nat×aP)}{cs:List AV}(hz:g9 P ty=some z)(hu:P.underlying ty=some (.array m elem))(hs:sz P elem=some n)
  (hT:ER ρ nt env a.tmps) (hp:places (λi=>some (i*n,n)) ps.toList=some l) (ho:(ps.toList.all λp=>okX p.2)=true) (h:aM z.cells (evPl env l)=some cs) (w:am) :
  ∃v',(Instr.build ty (ps.map λ(i,x)=>(i,a.eval x))).run P w=.ok v' w/\Rel ρ (.agg cs) v':=by
 have ⟨zv,e,hrel⟩:=oI hz;have ⟨r',g1,g2,_⟩:=wR hT ps.toList l z.cells cs zv.cells hp ho h (mD (hrel ρ));have hm:(ps.map λ(i,x)=>(i,a.eval x)).toList=ps.toList.map λp=>(p.1,a.eval p.2):=sI;refine⟨.agg r',?_,by grind [Rel]⟩;simp only[Instr.build,Sem.run_bind,e,aU.andThen_ok,aF hu,gO hs,hm,g1];rfl
theorem Uc{ty elem:ah}{n es:Nat}{z:List AV}{nt:Nat}{env:Env}{a:Act}{ps:Array (Nat×aP)}{l:List (Nat×Nat×aP)}{cs:List AV}(hu:P.underlying ty=some (.slice elem))(hz:zelem P elem=some (z,es))(hle:ble (n*es) 16777216=true)
  (hT:ER ρ nt env a.tmps) (hp:places (λi=>some (i*es,es)) ps.toList=some l) (ho:(ps.toList.all λp=>okX p.2)=true) (h:aM (repl n z) (evPl env l)=some cs) (h1:aX cs=true) (hf:Fit ρ base s t w) (hK:newK elem cs (λb=>K (.slc b 0 n (some n) es)) s) :
  OkV ρ base s t w K ((Instr.buildSlice ty n (ps.map λ(i,x)=>(i,a.eval x))).run P w):=by
 have hle:=cJ hle;have ⟨i,zv,q1,q2,q3,q4,q5,q6⟩:=wQ hz;have hs:=Nu hz;have hm:(ps.map λ(i,x)=>(i,a.eval x)).toList=ps.toList.map λp=>(p.1,a.eval p.2):=sI;have ⟨r',g1,g2,g3⟩:=wR hT ps.toList l (repl n z) cs (iV n zv.cells.toList).toArray hp ho h (by grind [wP]);have ⟨id,s',ρ',x1,x2,x3⟩:=qH hf hK h1 g2 [];have hlen:r'.size=n*es:=by
  have e1:=g2.length;have e2:=(wP (q6 ρ) n).length
  grind [wO]
 refine⟨.slice (some ⟨w.heap.size,0,none⟩) n n,_,ρ',.slc id 0 n (some n) es,s',?_,x2,by grind [Rel],x3⟩;have hbig:¬(n*es>2^24):=by simp;omega
 by_cases h0:n*es=0
 ·have hc:(iV n zv.cells.toList).toArray=#[]:=by
   grind [wO]
  rw[hc]at g1;simp only[Instr.buildSlice,Sem.run_bind,aF hu,aU.andThen_ok,gO hs,hm];simp[h0,g1,newRow,show(Array.range 0)=(#[]:Array Nat)from rfl]
 ·have hcy:=By zv.cells n
  rw[q4]at hcy;simp only[Instr.buildSlice,Sem.run_bind,aF hu,aU.andThen_ok,gO hs,hm];simp[hbig,h0,zeroValue,ep,q1,q2,newRow,q4,hcy,g1]
theorem Ud{ty elem:ah}{z:List AV}{es by_ n m:Nat}{l c:AV}{l' c':ai}(hu:P.underlying ty=some (.slice elem))(hz:zelem P elem=some (z,es))(hb:my P elem=some by_)(hby:ble by_ 32768=true)(hl:nat? l=some n)(hc:nat? c=some m)(hnm:n<=m/\m<=4294967296)
  (rl:Rel ρ l l') (rc:Rel ρ c c') (hf:Fit ρ base s t w) (hK:newK elem (repl m z) (λb=>K (.slc b 0 n (some m) es)) s):OkV ρ base s t w K ((Instr.makeSlice ty l' c').run P w):=by
 have hby:=cJ hby;have ⟨i,zv,q1,q2,q3,q4,q5,q6⟩:=wQ hz;obtain⟨kl,rfl⟩:=nat?_rel hl rl;obtain⟨kc,rfl⟩:=nat?_rel hc rc;have ⟨id,s',ρ',x1,x2,x3⟩:=qH hf hK (Nr q5 m) (wP (q6 ρ) m) [];have hbi:i.bytes=by_:=by grind [my]
 have hbytes:(i.bytes:Int)*(m:Int)<=281474976710656:=by
  have:by_*m<=32768*4294967296:=Nat.mul_le_mul hby hnm.2
  grind
 have hrun:=run_make w ty elem i zv hu q1 q2 kl kc (n:Int) (m:Int) oM oM hbytes oM;simp only[Int.toNat_natCast]at hrun;have hcy:=By zv.cells m;have hmc:madeCells zv.cells (m*i.size)=(iV m zv.cells.toList).toArray:=by unfold madeCells;grind
 rw[hmc]at hrun;refine⟨_,_,ρ',_,s',hrun,by simpa using x2,?_,x3⟩
 grind [Rel,wO]
theorem BC{es n:Nat}{x:AV}{l:List AV}{x':ai}(hf:Fit ρ base s t w)(h:rdSl s es x=some l)(hn:cM x=some n)(hx:Rel ρ x x'):
  ∃vs:List ai,vs.length=n*es/\RelL ρ l vs/\aX l=true/\(∀v∈vs,v.oneCell'=true)/\∀w2:am,w2.heap=w.heap->(aW.firstCells es n x').run P w2=.ok vs.toArray w2:=by
 unfold rdSl at h;split at h
 ·rename_i b o ln cap es'
  cases hn;have hcs:=d6 h;clear h;have ⟨he,h⟩:=hcs;obtain⟨L,a,c,hL,rfl,hoff,hlc,_⟩:=hx;have nil:n*es=0->∃vs:List ai,vs.length=n*es/\RelL ρ [] vs/\aX []=true/\(∀v∈vs,v.oneCell'=true)/\∀w2:am,w2.heap=w.heap->(aW.firstCells es n (.slice (some a) n c)).run P w2=.ok vs.toArray w2:=λh0=>
   ⟨[],by simp[h0],.nil,rfl,sI,λw2 _=>by simp[aW.firstCells,loadCells,h0,loadCellsFrom]⟩
  cases hz:beq (n*es) 0 with
  | true=>
    simp_all
  | false=>
    rw[hz,cond_false]at h;rcases hoff with⟨rfl,_⟩|⟨h0,_⟩
    ·have ⟨vs,a1,a2,a3,a4,a5⟩:=Nt (P:=P) hf (b:=b) (o:=o) (n:=n*es) h hL
     exact⟨vs,a1,a2,a3,a4,a5⟩
    ·subst h0;simp at hz
 ·cases h;cases hn
  unfold Rel at hx;subst hx;exact⟨[],sI,.nil,rfl,sI,λw2 _=>by simp[aW.firstCells]⟩
 ·cases h
theorem BD{x:AV}{x':ai}{n:Nat}(h:cM x=some n)(hx:Rel ρ x x')(w:am):(aW.lenOf x').run P w=.ok n w:=by
 unfold cM at h;split at h
 ·cases h;unfold Rel at hx;obtain⟨L,off,c,hL,rfl,_⟩:=hx;rfl
 ·cases h;unfold Rel at hx;subst hx;rfl
 ·cases h
theorem Ue(a:Addr)(w:am):(storeCells a []).run P w=.ok () w:=by simp[storeCells]
theorem wS{t u ty elem:ah}{xd:ci}{es:Nat}(ht:P.underlying t=some (.slice elem))(hu:P.underlying u=some xd)(hxd:∀k,xd≠.int k)(hs:sz P elem=some es)
  {a:Option Addr}{len c n:Nat}{x':ai}{vs:List ai}(hx:∀w,(aW.lenOf x').run P w=.ok n w) (hf:(aW.firstCells es n x').run P w=.ok vs.toArray w) (hle:len+n<=c) :
  (aW.append_ #[t,u] ty #[.slice a len c,x']).run P w=(match a with
   |some a=>((storeCells (a.add (len*es)) vs).run P w).andThen λ_ w'=>.ok (.slice (some a) (len+n) c) w'
   |none=>.ok (.slice none (len+n) c) w):=by
 cases a with
 |none=>simp[aW.append_,aF ht,aF hu,gO hs,hx,hf,hle]
 |some a=>simp[aW.append_,aF ht,aF hu,gO hs,hx,hf,hle]
theorem Uf{t u ty elem:ah}{xd:ci}{es:Nat}{i:TypeInfo}{z:ai}(ht:P.underlying t=some (.slice elem))(hu:P.underlying u=some xd)(hxd:∀k,xd≠.int k)(hi:P.info? elem=some i)(hz:i.zero=some z)(hes:i.size=es)
  {a:Option Addr}{len c n:Nat}{x':ai}{olds vs:List ai}(hx:∀w,(aW.lenOf x').run P w=.ok n w) (hf:∀w2:am,w2.heap=w.heap->(aW.firstCells es n x').run P w2=.ok vs.toArray w2)
  (ho:∀w2:am,w2.heap=w.heap->(aW.firstCells es len (.slice a len c)).run P w2=.ok olds.toArray w2) (hgt:c<len+n) (hneed:len+n<=16777216) (hby:i.bytes<=65536) :
  (aW.append_ #[t,u] ty #[.slice a len c,x']).run P w=.ok (.slice (some ⟨w.heap.size,0,none⟩) (len+n) (grownCap w (len+n) c elem))
    (w.drew.alloc (.cells ((olds++vs)++(aW.zeroCells z.cells (grownCap w (len+n) c elem-(len+n))).toList).toArray elem)):=by
 subst hes;have hn:¬(len+n<=c):=oM;have h63':¬(9223372036854775807<((len:Int)+(n:Int))):=oM;have hfit:aW.nextslicecap (len+n) c*i.bytes<=281474976710656:=by refine growslice_fits hgt ?_;have:(len+n)*i.bytes<=16777216*65536:=Nat.mul_le_mul hneed hby;omega
 have h48':¬(281474976710656<aW.nextslicecap (len+n) c*i.bytes):=oM;have hf1:=hf w.drew rfl;have ho1:=ho w.drew rfl;simp[aW.append_,aF ht,aF hu,sizeOf,ep,zeroValue,hi,hz,hx,hn,h63',h48',Question.forced,hf1,ho1,newRow,grownCap]
 congr 2
 simp
theorem Ug(z:Array ai)(n:Nat):(aW.zeroCells z n).size=n*z.size:=by simp[aW.zeroCells]
theorem Fit.drew(h:Fit ρ base s t w):Fit ρ base s t w.drew:=h.same rfl
theorem Nv{B:Nat}{w w':am}(h:Below B w.drew w'):Below B w w':=⟨h.os,h.tape,h.output,h.size,h.block⟩
theorem BE{ty u tr elem:ah}{xd:ci}{es by_:Nat}{z:List AV}(ht:P.underlying ty=some (.slice elem))(hu:P.underlying u=some xd)(hxd:∀k,xd≠.int k)(hz:zelem P elem=some (z,es))(hb:my P elem=some by_)(hby:by_<=65536)
  {a:Option Addr}{len c n:Nat}{x':ai}{olds vs:List ai}{lo ln:List AV}(hx:∀w,(aW.lenOf x').run P w=.ok n w) (hf:∀w2:am,w2.heap=w.heap->(aW.firstCells es n x').run P w2=.ok vs.toArray w2)
  (ho:∀w2:am,w2.heap=w.heap->(aW.firstCells es len (.slice a len c)).run P w2=.ok olds.toArray w2) (hgt:c<len+n) (hlo:RelL ρ lo olds) (hln:RelL ρ ln vs) (hol:olds.length=len*es) (hvl:vs.length=n*es) (o1:aX lo=true) (o2:aX ln=true)
  (hfit:Fit ρ base s t w) (h:jX elem es (len+n) (lo++ln) K s):OkV ρ base s t w K ((aW.append_ #[ty,u] tr #[.slice a len c,x']).run P w):=by
 have ⟨i,zv,q1,q2,q3,q4,q5,q6⟩:=wQ hz;have hbi:i.bytes=by_:=by grind [my]
 have hrun:=Uf (ty:=tr) ht hu hxd q1 q2 q3 hx hf ho hgt h.1 (by rw[hbi];exact hby);have ⟨id,s',ρ',x1,x2,x3⟩:=qH hfit.drew h.2 (wN o1 o2) (hlo.append hln) (aW.zeroCells zv.cells (grownCap w (len+n) c elem-(len+n))).toList;have hge:=grownCap_ge w (len+n) c elem;refine⟨_,_,ρ',_,s',hrun,⟨x2.le,Nv x2.below,x2.pers,x2.fit,x2.nw⟩,?_,x3⟩;refine⟨_,_,_,x1,rfl,.inl ⟨rfl,?_⟩,hge,λk hk=>by cases hk⟩;simp only[lAp,hol,hvl,Array.length_toList,Ug,q4,zAY];rw[<- Nat.add_mul,<- Nat.add_mul]
 grind
theorem BF{st xt tr elem:ah}{xd:ci}{z:List AV}{es by_:Nat}{x y:AV}{x' y':ai}(hs:P.underlying st=some (.slice elem))(hxt:P.underlying xt=some xd)(hxd:∀k,xd≠.int k)(hz:zelem P elem=some (z,es))(hb:my P elem=some by_)(hby:ble by_ 65536=true)
  (hf:Fit ρ base s t w) (h:appK elem es x y K s) (hx:Rel ρ x x') (hy:Rel ρ y y'):OkV ρ base s t w K ((aW.append_ #[st,xt] tr #[x',y']).run P w):=by
 have hby:=cJ hby;have hsz:=Nu hz;have ⟨new,h1,h⟩:=cB h;have ⟨n,h2,h⟩:=cB h;have hlo:=λw=>BD (P:=P) h2 hy w;have ⟨vs,a1,a2,a3,a4,a5⟩:=BC (P:=P) hf h1 h2 hy;have vnil:n=0->vs=[]:=λe=>(by simp_all)
 cases x with
 | nilslc=>
   unfold Rel at hx;subst hx;cases n with
   | zero=>
     exact .pure hf (wS (ty:=tr) hs hxt hxd hsz hlo (a5 w rfl) (Nat.le_refl _)) (by unfold Rel;rfl) h
   | succ m=>
     have:=BE (tr:=tr) (a:=none) (len:=0) (c:=0) (olds:=[]) (lo:=[]) hs hxt hxd hz hb hby hlo a5 (λw2 _=>by simp[aW.firstCells]) oM .nil a2 sI a1 rfl a3 hf (by simpa using h);exact this
 | slc b o len cap es'=>
   have ⟨rfl,h⟩:=h;have hxr:=hx;obtain⟨L,a,c,hL,rfl,hoff,hlc,hcap⟩:=hx;cases n with
   | zero=>
     refine .pure hf ?_ hxr h.2
     simp_all [wS,Ue]
   | succ m=>
     have room:len+(m+1)<=c->a=⟨L.blk,L.sh+o,none⟩/\L.sh+o+c*es<=L.sz:=λhle=>by
      grind
     cases cap with
     | some c'=>
       simp only at h;obtain rfl:=hcap c' rfl;cases hc:ble (len+(m+1)) c with
       | true=>
         rw[hc,aD]at h;have hle:=cJ hc;obtain⟨rfl,hoc⟩:=room hle;have ⟨s',h3,h4⟩:=cB h;have ⟨w',e,st'⟩:=Bs (P:=P) hf h3 hL a2;have:=wS (ty:=tr) (a:=some ⟨L.blk,L.sh+o,none⟩) hs hxt hxd hsz hlo (a5 w rfl) hle;simp only[jf,Nat.add_assoc,e,aU.andThen_ok]at this;refine⟨_,w',ρ,_,s',this,st',?_,h4⟩;exact⟨L,_,c,hL,rfl,.inl ⟨rfl,hoc⟩,hle,hcap⟩
       | false=>
         rw[hc,cond_false]at h;have ⟨old,h3,h4⟩:=cB h;have ⟨os,b1,b2,b3,_,b5⟩:=BC (P:=P) hf h3 rfl hxr;have hgt:=Nat.lt_of_not_le λk=>by rw[bL k]at hc;cases hc
         exact BE (tr:=tr) hs hxt hxd hz hb hby hlo a5 b5 hgt b2 a2 b1 a1 b3 a3 hf h4
     | none=>
       have ⟨old,h3,h4⟩:=cB h;have ⟨os,b1,b2,b3,b4,b5⟩:=BC (P:=P) hf h3 rfl hxr;unfold lQ at h4;split at h4
       ·rename_i e l hbk
        have ⟨rfl,h4⟩:=h4;have hds:Sub (hdel s b) s:=λi x hi=>by
         unfold hdel at hi;split at hi
         ·cases hi
         ·exact hi
        have fin:∀{r},OkV ρ base (hdel s b) t w K r->OkV ρ base s t w K r:=by
         rintro r ⟨v',w',ρ',v,s',e1,st',e2,e3⟩;refine⟨v',w',ρ',v,s',e1,⟨st'.le,st'.below,λi x hi=>st'.pers i x ?_,st'.fit,λi hi hs=>st'.nw i hi ?_⟩,e2,e3⟩
         ·grind [dL]
         grind [hdel]
        have hf2:=hf.sub hds
        by_cases hroom:c<len+(m+1)
        ·exact fin (BE (tr:=tr) hs hxt hxd hz hb hby hlo a5 b5 hroom b2 a2 b1 a1 b3 a3 hf2 h4)
        ·have hle:len+(m+1)<=c:=oM
         obtain⟨rfl,hoc⟩:=room hle;have ⟨L',hL',⟨cc,fr,q1,q2,q3,q4,q5⟩,q6⟩:=hf.get hbk;rw[hL]at hL';cases hL';obtain rfl:=q2 rfl;have ⟨hbase,htb⟩:=q6 rfl;have hmul:(len+(m+1))*es<=c*es:=cV _ hle;rw[Nat.add_mul]at hmul;have ⟨w',cc',s1,s2,s3,s4⟩:=Nn (P:=P) (k:=L.sh+o+len*es) vs 0 w cc q1 (by rw[q3];omega) a4;have hrun:=wS (ty:=tr) (a:=some ⟨L.blk,L.sh+o,none⟩) hs hxt hxd hsz hlo (a5 w rfl) hle;simp only[jf,s1,aU.andThen_ok]at hrun;refine fin ?_;have l1:=b2.length;have l2:=a2.length;have hcr:∃us:List ai,RelL ρ old us/\(∀v∈us,v.oneCell'=true)/\∀j v,us[j]?=some v->w.cell? ((⟨L.blk,L.sh+o,none⟩:Addr).add j)=some v:=by
          have ⟨_,h3⟩:=d6 h3;cases hz0:beq (len*es) 0 with
          |true=>grind
          | false=>
            rw[hz0,cond_false]at h3;have ⟨us,_,u1,_,u2,u3⟩:=Ns hf (b:=b) (o:=o) (n:=len*es) h3 hL
            grind
         have ⟨us,u1,u2,u3⟩:=hcr;have ⟨id,ρ',f1,f2,f3⟩:=hf2.new (b:=.cells e (old++new)) (L:=⟨L.blk,L.sh+o,cc'.size⟩) (o:=.cells cc' e (0,0)) (λj e' bj Lj hj hLj=>by
          have hj2:j≠b:=(by grind [cC,ic])
          have hj3:add t s j=some (e',bj):=by
           cases q:t j with
           |none=>grind [cC,dL]
           |some x=>grind [cU]
          exact(hf.wr.inj b j _ _ _ _ _ (by rw[cC htb];exact hbk) hj3 hL hLj hj2.symm).symm) hbase s2 λρ' id hle _=>by
           refine⟨cc',(0,0),rfl,λ_=>rfl,rfl,?_,λi v hv=>?_⟩
           ·grind
           ·by_cases hi:i<old.length
            ·rw[da hi]at hv
             have ⟨y,hy,r⟩:=u1.get i v hv;refine⟨y,?_,Rel.mono hle _ _ r,u2 y (mG hy)⟩
             grind [jf,mK]
            ·rw[ez oM]at hv
             have ⟨y,hy,r⟩:=a2.get _ v hv;refine⟨y,?_,Rel.mono hle _ _ r,a4 y (mG hy)⟩;have hlt:=(gS hy).1;show cc'[L.sh+o+i]?=_;rw[s4,ak oM,<- hy]
             congr 1;omega
         refine⟨_,w',ρ',_,_,hrun,f3,?_,h4.2 id f1⟩
         grind [Rel]
       ·exact h4.elim
 |_=>exact h.elim
end
end Go.AM
namespace Go.AM
open Go Go.RowKit List Nat
section
variable {P:ay} {ρ:Ren} {base:Nat} {s t:Hq} {w:am} {K:AV→Hq→Prop}
theorem BH{ty elem tr:ah}{z:List AV}{es:Nat}{x:AV}{x':ai}(hu:P.underlying ty=some (.slice elem))(hz:zelem P elem=some (z,es))(hf:Fit ρ base s t w)(h:oN z es x K s)(hx:Rel ρ x x')(ts:List ah):
  OkV ρ base s t w K ((aW.clear_ (ty::ts).toArray tr #[x']).run P w):=by
 have und:Rel ρ .undef (.tuple #[]):=oH;cases x with
 | nilslc=>
   unfold Rel at hx;subst hx;exact .pure hf (by simp[aW.clear_,aF hu]) und h
 | slc b o n c es'=>
   have ⟨rfl,h⟩:=h;obtain⟨L,a,cc,hL,rfl,hoff,hlc,_⟩:=hx;cases n with
   |zero=>exact .pure hf (by simp[aW.clear_,aF hu]) und h
   | succ n=>
     have ⟨s',h3,h4⟩:=cB h;have ⟨i,zv,q1,q2,q3,q4,q5,q6⟩:=wQ hz;obtain⟨rfl,hoc⟩:a=⟨L.blk,L.sh+o,none⟩/\L.sh+o+cc*es'<=L.sz:=gR;have ⟨w',e,st⟩:=Bs (P:=P) hf h3 hL (wP (q6 ρ) (n+1));have hzc:aW.zeroCells zv.cells (n+1)=(iV (n+1) zv.cells.toList).toArray:=By zv.cells (n+1);exact⟨.tuple #[],w',ρ,.undef,s',by simp[aW.clear_,aF hu,zeroValue,ep,q1,q2,hzc,e],st,und,h4⟩
 |_=>exact h.elim
theorem qI{l:List AV}{x v:AV}{l':List ai}{x':ai}(h:im min2A x l=some v)(hx:Rel ρ x x')(hl:RelL ρ l l')(w:am):
  ∃v',(l'.foldlM aW.min2 x').run P w=.ok v' w/\Rel ρ v v':=by
 induction l generalizing x x' l' with
 |nil=>unfold RelL at hl;subst hl;cases h;simp_all
 | cons y ys ih=>
   obtain⟨y',ys',rfl,hy,hys⟩:=hl;simp only[im]at h;split at h
   ·rename_i z hz
    unfold min2A at hz;split at hz;rename_i k a k' b;have ⟨hk,hz'⟩:=d6 hz;have hk:=oJ hk;simp only[Option.some.injEq]at hz';unfold Rel at hx hy;subst hx;subst hy;have ⟨v',e,r⟩:=ih (x':=.int k (if b<a then b else a)) h (by grind [Rel,ib]) hys;exact⟨v',by simp only[foldlM_cons,aW.min2,Sem.run_bind,Sem.run_pure,aU.andThen_ok];exact e,r⟩
    ·cases hz
   ·cases h
theorem qJ{l:List AV}{x v:AV}{l':List ai}{x':ai}(h:im max2A x l=some v)(hx:Rel ρ x x')(hl:RelL ρ l l')(w:am):
  ∃v',(l'.foldlM aW.max2 x').run P w=.ok v' w/\Rel ρ v v':=by
 induction l generalizing x x' l' with
 |nil=>unfold RelL at hl;subst hl;cases h;simp_all
 | cons y ys ih=>
   obtain⟨y',ys',rfl,hy,hys⟩:=hl;simp only[im]at h;split at h
   ·rename_i z hz
    unfold max2A at hz;split at hz;rename_i k a k' b;have ⟨hk,hz'⟩:=d6 hz;have hk:=oJ hk;simp only[Option.some.injEq]at hz';unfold Rel at hx hy;subst hx;subst hy;have ⟨v',e,r⟩:=ih (x':=.int k (if a<b then b else a)) h (by grind [Rel,ib]) hys;exact⟨v',by simp only[foldlM_cons,aW.max2,Sem.run_bind,Sem.run_pure,aU.andThen_ok];exact e,r⟩
    ·cases hz
   ·cases h
theorem qK{ty tr:ah}{d:ci}{x:AV}{n:Nat}{x':ai}(hu:P.underlying ty=some d)(h:lenD d x=some n)(hx:Rel ρ x x')(ts:List ah):∃v',(aW.len_ (ty::ts).toArray tr #[x']).run P w=.ok v' w/\Rel ρ n v':=by
 refine⟨goInt n,?_,by unfold Rel;rfl⟩;cases d with
 | string=>
   simp only[lenD]at h;split at h<;>cases h
   unfold Rel at hx;subst hx;simp[aW.len_,aF hu]
 |array m e=>cases h;simp[aW.len_,aF hu]
 | slice e=>
   simp only[lenD]at h;unfold cM at h;split at h<;>cases h
   ·unfold Rel at hx
    obtain⟨L,off,cc,_,rfl,_⟩:=hx;simp[aW.len_,aF hu]
   ·unfold Rel at hx;subst hx
    simp[aW.len_,aF hu]
 |_=>cases h
theorem qL{ty kt et tr:ah}{x:AV}{n:Nat}{x':ai}(hu:P.underlying ty=some (.map kt et))(hf:Fit ρ base s t w)(h:lenM s x=some n)(hx:Rel ρ x x')(ts:List ah):∃v',(aW.len_ (ty::ts).toArray tr #[x']).run P w=.ok v' w/\Rel ρ n v':=by
 refine⟨goInt n,?_,by unfold Rel;rfl⟩;unfold lenM at h;split at h
 ·cases h
  unfold Rel at hx;subst hx;simp[aW.len_,aF hu]
 ·split at h<;>cases h
  rename_i e es c hb;obtain⟨L,hL,rfl⟩:=hx;have ⟨L',hL',⟨es',q1,q2⟩,_⟩:=hf.get hb;rw[hL]at hL';cases hL';have hl:es'.size=es.length:=by have:=q2.len;simpa using this
  simp[aW.len_,aF hu,getObj,Sem.run,q1,hl]
 ·cases h
theorem BI{ty kt et:ah}{x:AV}{x':ai}(hu:P.underlying ty=some (.map kt et))(hf:Fit ρ base s t w)(h:jv x K s)(hx:Rel ρ x x'):OkV ρ base s t w K ((Instr.range ty x').run P w):=by
 cases x with
 | nilmap=>
   unfold Rel at hx;subst hx;have ⟨id,ρ',a,b,c⟩:=hf.push (b:=.iter none 0 [] 0) (o:=.mapIter none 0 #[] 0) (n:=0) λρ' _=>⟨rfl,none,rfl,rfl⟩
   exact⟨.pointer (some ⟨w.heap.size,0,none⟩),_,ρ',Pp id,_,by simp[Instr.range,aF hu,newObj,Sem.run],c,by grind [Rel],h id a⟩
 | map m=>
   simp only[jv]at h;split at h
   ·rename_i e es c hb
    obtain⟨L,hL,rfl⟩:=hx;have ⟨L',hL',⟨es',q1,q2⟩,_⟩:=hf.get hb;rw[hL]at hL';cases hL';have ⟨id,ρ',a,b,d⟩:=hf.push (b:=.iter (some m) c [] c) (o:=.mapIter (some L.blk) c #[] c) (n:=0) λρ' hle=>⟨rfl,some L.blk,⟨L,hle _ _ hL,rfl⟩,rfl⟩
    exact⟨.pointer (some ⟨w.heap.size,0,none⟩),_,ρ',Pp id,_,by simp[Instr.range,aF hu,getObj,Sem.run,q1,newObj],d,by grind [Rel],h id a⟩
   ·exact h.elim
 |_=>exact h.elim
theorem Nw{n:Nat}{e:AEnt}:∀{es:List AEnt}{es':List bS},EsRel ρ es es'->oE n es=some e->∃e',es'.find? (·.born == n)=some e'/\ERel ρ e e'
 |[],_,_,h=>by cases h
 | a::es,es',hr,h=>by
   cases es' with
   |nil=>have:=hr.len;simp at this
   | cons a' es'=>
     have ha:=hr.at_ 0 a a' rfl rfl;have ht:EsRel ρ es es':=⟨by have:=hr.len;simpa using this,λi x y hx hy=>hr.at_ (i+1) x y (by simpa using hx) (by simpa using hy)⟩
     unfold oE at h;cases hb:beq a.born n with
     | true=>
       simp only[hb,aD]at h;have:=bE hb
       grind [ERel.born]
     | false=>
       simp only[hb,cond_false]at h;have ⟨e',h1,h2⟩:=Nw ht h;have:¬a.born=n:=λe=>by subst e;simp at hb
       grind [ERel.born]
theorem BJ:∀l:List Nat,jt l=l.getLast?
 |[]=>rfl
 |[_]=>rfl
 |_::b::l=>by unfold jt;rw[BJ (b::l)];grind
theorem BK{x v:AV}{x':ai}(hf:Fit ρ base s t w)(h:entD s x=some v)(hx:Rel ρ x x'):∃v',(Instr.entry x').run P w=.ok v' w/\Rel ρ v v':=by
 unfold entD at h;split at h<;>try (cases h;done)
 rename_i r;split at h<;>try (cases h;done)
 rename_i e1 m since seen stepped hb;split at h<;>try (cases h;done)
 rename_i stamp hst;split at h<;>try (cases h;done)
 rename_i e2 es clock hb2
 replace h:=d6 h
 obtain⟨hc,h⟩:=h;have hc:=bE hc;subst hc;split at h<;>cases h
 rename_i e he;obtain⟨L,hL,rfl⟩:=hx;have ⟨L',hL',⟨hsh,M,q1,q2⟩,_⟩:=hf.get hb;rw[hL]at hL';cases hL';obtain⟨D,q3,rfl⟩:=q1;have ⟨D',hD',⟨es',q4,q5⟩,_⟩:=hf.get hb2;rw[q3]at hD';cases hD';have ⟨e',q6,q7⟩:=Nw q5 he;rw[BJ]at hst;have q6':es'.find? (·.born == stamp)=some e':=gR;have hback:seen.toArray.back?=some stamp:=by simp[hst]
 refine⟨.tuple #[e'.key,e'.val],?_,by grind [Rel,RelL.cons,ERel.key,ERel.val,RelL.nil]⟩;simp only[Instr.entry,hsh,Nat.add_zero,getObj,Sem.run_bind,Sem.run,q2,q4,aU.andThen,hback,q6',bne_self_eq_false,Bool.false_eq_true,if_false];rfl
theorem BL{b clock:Nat}{es:Array bS}(hb:w.heap[b]?=some (.map es clock)):(getObj b).run P w=.ok (.map es clock) w:=by simp[getObj,Sem.run,hb]
theorem EsRel.cons{e:AEnt}{es:List AEnt}{l:List bS}(h:EsRel ρ (e::es) l):∃e' es',l=e'::es'/\ERel ρ e e'/\EsRel ρ es es':=by rcases l with _|⟨e',es'⟩;have:=h.len;simp at this;exact⟨e',es',rfl,h.at_ 0 _ _ rfl rfl,by have:=h.len;simpa using this,λi a b ha hb=>h.at_ (i+1) a b ha hb⟩
theorem EsRel.nil{l:List bS}(h:EsRel ρ [] l):l=[]:=eq_nil_of_length_eq_zero h.len
theorem Ny{x y:ByteArray}(h:(x == y)=true):x=y:=by
 cases x with
 | mk a=>
   cases y with
   | mk b=>
     have:(a == b)=true:=h;rw[eq_of_beq this]
theorem NA(x:ByteArray):(x == x)=true:=by
 cases x with
 |mk a=>show(a == a)=true;exact aZ a
theorem NB{kd:ci}{a b:AV}{a' b':ai}{r:Bool}(h:jU kd a b=some r)(ha:Rel ρ a a')(hb:Rel ρ b b'):Instr.sameNow kd a' b'=some r/\(r=true->a'=b'/\∀n,Instr.sameBits n b' a'=true):=by
 unfold jU at h;split at h
 ·split at h
  ·have ⟨hk,h⟩:=d6 h
   have hk:=oJ hk;cases h;subst ha;subst hb;subst hk;refine⟨by simp[Instr.sameNow,iL],λe=>?_⟩;have:=eq_of_beq e;subst this;exact⟨rfl,λn=>by cases n<;>simp[Instr.sameBits]⟩
  ·cases h
 ·split at h
  ·cases h
   subst ha;subst hb;refine⟨rfl,λe=>?_⟩;have:=Ny e;subst this;exact⟨rfl,λn=>by cases n<;>simp[Instr.sameBits,NA]⟩
  ·cases h
 ·split at h
  ·cases h
   subst ha;subst hb;refine⟨rfl,λe=>?_⟩;have:=eq_of_beq e;subst this;exact⟨rfl,λn=>by cases n<;>simp[Instr.sameBits]⟩
  ·cases h
 ·cases h
theorem Rel.agg{cs:List AV}{v:ai}(h:Rel ρ (.agg cs) v):∃cs',v=.agg cs'/\RelL ρ cs cs'.toList:=by unfold Rel at h;exact h
theorem NC:∀(n:Nat) {a b:AV}{a' b':ai},iS n a b=true->Rel ρ a a'->Rel ρ b b'->∀m,n<=m->Instr.sameBits m b' a'=true
 | 0,a,b,_,_,h,_,_,_,_=>by cases a<;>cases b<;>cases h
 | n+1,a,b,a',b',h,ha,hb,m,hm=>by
   obtain⟨m,rfl⟩:∃k,m=k+1:=⟨m-1,oM⟩
   unfold iS at h;split at h;unfold Rel at ha hb;subst ha;subst hb;have:=eq_of_beq h;subst this;simp[Instr.sameBits];unfold Rel at ha hb;subst ha;subst hb;obtain⟨h1,h2⟩:=Bool.and_eq_true_iff.1 h;have:=oJ h1;subst this;have:=eq_of_beq h2;subst this;simp[Instr.sameBits];unfold Rel at ha hb;subst ha;subst hb;have:=Ny h;subst this;simp[Instr.sameBits,NA]
   ·rename_i _ _ _ n' xs ys q4
    obtain⟨xs',rfl,hx⟩:=ha.agg;obtain⟨ys',rfl,hy⟩:=hb.agg;have key:∀(xs ys:List AV) (xs' ys':List ai),mz (iS n) xs ys=true->RelL ρ xs xs'->RelL ρ ys ys'->ys'.length=xs'.length/\(ys'.zip xs').all (λ(x,y)=>Instr.sameBits m x y)=true:=by
     intro xs
     induction xs with
     | nil=>
       intro ys xs' ys' h hx hy;cases ys with
       |cons=>cases h
       |nil=>simp_all [RelL]
     | cons x xs ih=>
       intro ys xs' ys' h hx hy;cases ys with
       |nil=>cases h
       | cons y ys=>
         have ⟨h1,h2⟩:=Bool.and_eq_true_iff.1 h;obtain⟨x',xs2,rfl,hx1,hx2⟩:=hx;obtain⟨y',ys2,rfl,hy1,hy2⟩:=hy;have ⟨e1,e2⟩:=ih _ _ _ h2 hx2 hy2;exact⟨by simp[e1],by simp only[zip_cons_cons,eu,e2,Bool.and_true];exact NC n h1 hx1 hy1 m oM⟩
    simp only[Instr.sameBits]
    grind
   ·cases h
theorem Uh{kd:ci}{kt:ah}{k:AV}{k':ai}(hnd:aggD kd=false)(hk:Rel ρ k k'):∀(es:List AEnt) (es':List bS) (i:Nat) (r:Option (Nat×AV)),iM P kt kd k es i=some r->EsRel ρ es es'->
  (r=none/\Instr.findNow kd k' es' i=some none)∨∃j v v' e',r=some (i+j,v)/\Instr.findNow kd k' es' i=some (some (i+j,v'))/\Rel ρ v v'/\es'[j]?=some e'/\Instr.sameBits 10000 e'.key k'=true:=by
 intro es
 induction es with
 | nil=>
   intro es' i r h hr;cases h;rw[hr.nil];exact .inl ⟨rfl,rfl⟩
 | cons e es ih=>
   intro es' i r h hr;obtain⟨e',es2,rfl,he,hr⟩:=hr.cons;simp only[iM,js,hnd]at h;split at h
   ·rename_i q
    cases h;have ⟨q1,q2⟩:=NB q hk he.key;exact .inr ⟨0,e.val,e'.val,e',rfl,by simp[Instr.findNow,q1],he.val,rfl,(q2 rfl).2 _⟩
   rename_i q;have ⟨q1,_⟩:=NB q hk he.key;rcases ih es2 (i+1) r h hr with⟨h1,h2⟩|⟨j,v,v',e2,h1,h2,h3,h4,h5⟩;exact .inl ⟨h1,by simp[Instr.findNow,q1,h2]⟩;have:i+1+j=i+(j+1):=oM;rw[this]at h1 h2;exact .inr ⟨j+1,v,v',e2,h1,by simp[Instr.findNow,q1,h2],h3,h4,h5⟩
   ·cases h
theorem Ui{kd:ci}{kt:ah}{k:AV}{k':ai}(hnd:aggD kd=true)(hk:Rel ρ k k')(w:am):∀(es:List AEnt) (es':List bS) (i:Nat) (r:Option (Nat×AV)),iM P kt kd k es i=some r->EsRel ρ es es'->
  (r=none/\(Instr.findAsking kt k' es' i).run P w=.ok none w)∨∃j v v' e',r=some (i+j,v)/\(Instr.findAsking kt k' es' i).run P w=.ok (some (i+j,v')) w/\Rel ρ v v'/\es'[j]?=some e'/\Instr.sameBits 10000 e'.key k'=true:=by
 intro es
 induction es with
 | nil=>
   intro es' i r h hr;cases h;rw[hr.nil];exact .inl ⟨rfl,by simp[Instr.findAsking]⟩
 | cons e es ih=>
   intro es' i r h hr;obtain⟨e',es2,rfl,he,hr⟩:=hr.cons;simp only[iM,js,hnd]at h;cases q:aEq P 30 kt k e.key with
   |none=>grind
   | some b=>
     have e1:(Op.equal kt k' e'.key).run P w=.ok b w:=qg 30 kt k e.key b k' e'.key q hk he.key 10000 dE w;cases b with
     | true=>
       simp only[q]at h;cases q2:iS 10 k e.key with
       |false=>grind
       | true=>
         simp only[q2,aD]at h;cases h;refine .inr ⟨0,e.val,e'.val,e',rfl,?_,he.val,rfl,(by grind [NC,ERel.key])⟩;unfold Instr.findAsking;simp[e1]
     | false=>
       simp only[q]at h;rcases ih es2 (i+1) r h hr with⟨h1,h2⟩|⟨j,v,v',e2,h1,h2,h3,h4,h5⟩;refine .inl ⟨h1,?_⟩;unfold Instr.findAsking;simp[e1,h2];have:i+1+j=i+(j+1):=oM;rw[this]at h1 h2;refine .inr ⟨j+1,v,v',e2,h1,?_,h3,h4,h5⟩;unfold Instr.findAsking;simp[e1,h2]
theorem ND{kd:ci}{kt:ah}(hu:P.underlying kt=some kd){k:AV}{k':ai}(hk:Rel ρ k k')(w:am)(es:List AEnt)(es':List bS)(r:Option (Nat×AV))(h:iM P kt kd k es 0=some r)(hr:EsRel ρ es es'):
  (r=none/\(Instr.findKey kt k' es').run P w=.ok none w)∨∃j v v' e',r=some (0+j,v)/\(Instr.findKey kt k' es').run P w=.ok (some (0+j,v')) w/\Rel ρ v v'/\es'[j]?=some e'/\Instr.sameBits 10000 e'.key k'=true:=by
 cases hnd:aggD kd with
 | false=>
   rcases Uh hnd hk es es' 0 r h hr with⟨h1,h2⟩|⟨j,v,v',e2,h1,h2,h3⟩;exact .inl ⟨h1,by simp[Instr.findKey,aF hu,h2]⟩;exact .inr ⟨j,v,v',e2,h1,by simp only[Instr.findKey,Sem.run_bind,aF hu,aU.andThen_ok,h2,Sem.run_pure],h3⟩
 | true=>
   have e0:(Instr.findKey kt k' es').run P w=(Instr.findAsking kt k' es').run P w:=by
    cases es' with
    |nil=>simp[Instr.findKey,aF hu,Instr.findNow,Instr.findAsking]
    |cons e es'=>cases kd<;>first|(cases hnd;done)|simp[Instr.findKey,aF hu,Instr.findNow,Instr.sameNow]
   grind [Ui]
theorem Uj{ck:ah->AV->Bool}{e:ah}{c:Nat}{b:Bool}{n:Nat}(w:am)(hs:(sizeOf e).run P w=.ok c w)
  (hck:∀t x x',ck t x=true->Rel ρ x x'->(Instr.checkKey b n t x').run P w=.ok () w) {cs:List AV}{cs':Array ai}(hr:RelL ρ cs cs'.toList) :
  ∀(len i:Nat),wG P ck e c cs len i=true->(forIn (range' i len) PUnit.unit λi _=>do
   Instr.checkKey b n e (<- part e cs' (i*(<- sizeOf e)))
   pure (ForInStep.yield PUnit.unit)).run P w=.ok PUnit.unit w:=by
 intro len
 induction len with
 |zero=>intro i _;simp
 | succ len ih=>
   intro i h;unfold wG at h;cases h1:gh P e cs (i*c)with
   |none=>simp[h1]at h
   | some x=>
     simp only[h1]at h;have ⟨h2,h3⟩:=Bool.and_eq_true_iff.1 h;have ⟨x',e1,r1⟩:=kN h1 hr w;rw[range'_succ];simp only[forIn_cons,Sem.run_bind,hs,aU.andThen_ok,e1,hck _ _ _ h2 r1,Sem.run_pure];exact ih (i+1) h3
theorem Uk{ck:ah->AV->Bool}{b:Bool}{n:Nat}(w:am)
  (hck:∀t x x',ck t x=true->Rel ρ x x'->(Instr.checkKey b n t x').run P w=.ok () w) {cs:List AV}{cs':Array ai}(hr:RelL ρ cs cs'.toList) :
  ∀(fs:List eo),pV P ck cs fs=true->(forIn fs PUnit.unit λ(f:eo) _=>do
   if f.name≠"_" then
    Instr.checkKey b n f.type (<- part f.type cs' f.offset)
    pure (ForInStep.yield PUnit.unit)
   else pure (ForInStep.yield PUnit.unit)).run P w=.ok PUnit.unit w:=by
 intro fs
 induction fs with
 |nil=>intro _;simp
 | cons f fs ih=>
   intro h;unfold pV at h;cases hn:f.name == "_" with
   | true=>
     grind
   | false=>
     simp only[hn,cond_false]at h;have hn':¬f.name="_":=by simpa using hn
     cases h1:gh P f.type cs f.offset with
     |none=>simp[h1]at h
     | some x=>
       simp only[h1]at h;have ⟨h2,h3⟩:=Bool.and_eq_true_iff.1 h;have ⟨x',e1,r1⟩:=kN h1 hr w;simp only[forIn_cons,hn',ne_eq,not_false_eq_true,if_true,Sem.run_bind,e1,aU.andThen_ok,hck _ _ _ h2 r1,Sem.run_pure];exact ih h3
theorem wT:∀(d:Nat) {t:ah}{k:AV}{k':ai},iN P d t k=true->Rel ρ k k'->∀(b:Bool) (D:Nat),d<=D->∀w,(Instr.checkKey b D t k').run P w=.ok () w
 | 0,_,_,_,h,_,_,_,_,_=>by cases h
 | d+1,t,k,k',h,hk,b,D,hD,w=>by
   obtain⟨D,rfl⟩:∃k,D=k+1:=⟨D-1,oM⟩
   unfold iN at h;generalize hu:P.underlying t=kd at h;split at h
   ·unfold Rel at hk;subst hk
    simp[Instr.checkKey,aF hu]
   ·unfold Rel at hk;subst hk
    simp[Instr.checkKey,aF hu]
   ·unfold Rel at hk;subst hk
    simp[Instr.checkKey,aF hu]
   ·rename_i len e cs
    obtain⟨cs',rfl,hr⟩:=hk.agg;cases hs:sz P e with
    |none=>grind
    | some c=>
      simp only[hs]at h;unfold Instr.checkKey;simp only[Sem.run_bind,aF hu,aU.andThen_ok];have:=Uj (b:=b) (n:=D) w (gO hs w) (λt x x' h1 r1=>wT d h1 r1 b D oM w) hr len 0 h
      simp_all
   ·rename_i fs cs
    obtain⟨cs',rfl,hr⟩:=hk.agg;unfold Instr.checkKey;simp only[Sem.run_bind,aF hu,aU.andThen_ok];have:=Uk (b:=b) (n:=D) w (λt x x' h1 r1=>wT d h1 r1 b D oM w) hr fs.toList h
    simp_all
   ·cases h
theorem qM{kt:ah}{ik:aA}{k:AV}:∀(es:List AEnt) (i:Nat),iM P kt (.int ik) k es i=jd k es i:=by
 intro es
 induction es with
 |nil=>intro i;rfl
 | cons e es ih=>
   intro i;have h:js P kt (.int ik) k e.key=jU (.int .i64) k e.key:=by cases k<;>cases e.key<;>rfl
   grind [iM,jd]
def wU(ok:Bool)(z:ai):Option (Nat×ai)->ai
 |some (_,v)=>if ok then .tuple #[v,.bool true]else v
 |none=>if ok then .tuple #[z,.bool false]else z
theorem NE{t kt et:ah}{kd:ci}{k' z:ai}{ok:Bool}{b clock:Nat}{es:Array bS}{r:Option (Nat×ai)}(hu:P.underlying t=some (.map kt et))(hku:P.underlying kt=some kd)(hc:∀b w,(Instr.checkKey b 10000 kt k').run P w=.ok () w)
  (hz:∀w,(zeroValue et).run P w=.ok z w) (hb:w.heap[b]?=some (.map es clock)) (hf:(Instr.findKey kt k' es.toList).run P w=.ok r w):(Instr.lookup t (.map (some b)) k' ok).run P w=.ok (wU ok z r) w:=by
 unfold Instr.lookup;simp only[Sem.run_bind,aF hu,aU.andThen_ok,BL hb,Sem.run_pure,hc,hf];cases r with
 |none=>simp only[Sem.run_bind,hz,aU.andThen_ok,Sem.run_pure];rfl
 |some p=>have ⟨j,v⟩:=p;simp only[Sem.run_bind,aU.andThen_ok,Sem.run_pure];rfl
theorem Ul{t kt et:ah}{kd:ci}{k' z:ai}{ok:Bool}(hu:P.underlying t=some (.map kt et))(hku:P.underlying kt=some kd)(hc:∀b w,(Instr.checkKey b 10000 kt k').run P w=.ok () w)
  (hz:∀w,(zeroValue et).run P w=.ok z w):(Instr.lookup t (.map none) k' ok).run P w=.ok (wU ok z none) w:=by
 unfold Instr.lookup;have hf:(Instr.findKey kt k' (#[]:Array bS).toList).run P w=.ok none w:=by simp[Instr.findKey,aF hku,Instr.findNow]
 simp only[Sem.run_bind,aF hu,aU.andThen_ok,Sem.run_pure,hc,hf,hz];rfl
theorem BM{ok:Bool}{z v:AV}{z' v':ai}(hz:Rel ρ z z')(hv:Rel ρ v v')(j:Nat):Rel ρ (cond ok (.tup [v,true]) v) (wU ok z' (some (j,v')))/\Rel ρ (cond ok (.tup [z,false]) z) (wU ok z' none):=by
 have two:∀{x:AV}{x':ai}(b:Bool),Rel ρ x x'->Rel ρ (.tup [x,b]) (.tuple #[x',.bool b]):=(by grind [Rel,RelL.cons,RelL.nil])
 cases ok with
 |true=>exact⟨two true hv,two false hz⟩
 |false=>exact⟨hv,hz⟩
theorem NF{b clock:Nat}{es:Array bS}(o:Obj)(hb:w.heap[b]?=some (.map es clock)):∃w',(setObj b o).run P w=.ok () w'/\Upd w b o w':=by
 have hlt:=qF hb;refine⟨{ w with heap:=w.heap.setIfInBounds b o },by simp[setObj,Sem.run,hb],rfl,rfl,rfl,sI,by simp[hlt],λk hk=>?_⟩
 grind
theorem NG(f:AEnt->AEnt):∀(es:List AEnt) (i j:Nat),(modE es i f)[j]?=if i=j then(es[j]?).map f else es[j]?
 |[],i,j=>by simp[modE]
 |e::es,0,j=>by cases j<;>simp[modE]
 | e::es,i+1,j=>by
   cases j with
   |zero=>simp[modE]
   |succ j=>simp only[modE,g1Y,NG f es i j,Nat.add_right_cancel_iff]
theorem NH(f:AEnt->AEnt):∀(es:List AEnt) (i:Nat),(modE es i f).length=es.length
 |[],_=>rfl
 |e::es,0=>rfl
 |e::es,i+1=>by simp[modE,NH f es i]
theorem EsRel.modify{es:List AEnt}{es':Array bS}{k v:AV}{k' v':ai}(h:EsRel ρ es es'.toList)(hk:Rel ρ k k')(hv:Rel ρ v v')(i:Nat):EsRel ρ (modE es i λe=>{ e with key:=k,val:=v }) (es'.modify i λe=>{ e with key:=k',val:=v' }).toList:=by
 refine⟨by have:=h.len;grind [NH],λj e e' he he'=>?_⟩;rw[NG]at he;rw[Array.getElem?_toList,Array.getElem?_modify]at he';have at_:=h.at_ j;simp only[Array.getElem?_toList]at at_;split at he
 ·rename_i hij
  rw[ak hij]at he';rw[Option.map_eq_some_iff]at he;obtain⟨a,ha,rfl⟩:=he;cases hb:es'[j]? with
  |none=>rw[hb]at he';cases he'
  | some b=>
    rw[hb]at he';cases he';exact⟨hk,hv,(at_ a b ha hb).born⟩
 grind
theorem EsRel.push{es:List AEnt}{es':Array bS}{k v:AV}{k' v':ai}(h:EsRel ρ es es'.toList)(hk:Rel ρ k k')(hv:Rel ρ v v')(c:Nat):EsRel ρ (es ++ [{ key:=k,val:=v,born:=c }]) (es'.push { key:=k',val:=v',born:=c }).toList:=by
 have hl:=h.len;refine⟨by simp at hl ⊢;exact hl,λj e e' he he'=>?_⟩;rw[Array.toList_push,getElem?_append]at he';rw[getElem?_append]at he;rw[hl]at he';split at he
 grind [at_]
 ·rename_i hlt
  rw[aj hlt]at he';cases q:j-es.length with
  |zero=>rw[q]at he he';cases he;cases he';exact⟨hk,hv,rfl⟩
  |succ n=>rw[q]at he;cases he
theorem qN{ty kt et:ah}{kd:ci}{x k z:AV}{x' k':ai}{ok:Bool}{r:Option AV}(hu:P.underlying ty=some (.map kt et))(hku:P.underlying kt=some kd)(hz:g9 P et=some z)(hk1:iN P 10 kt k=true)
  (hf:Fit ρ base s t w) (h:(x=.nilmap/\r=none)∨∃b e es c q,x=.map b/\s b=some (e,.map es c)/\iM P kt kd k es 0=some q/\r=q.map (·.2)) (hx:Rel ρ x x') (hk:Rel ρ k k') :
  ∃v',(Instr.lookup ty x' k' ok).run P w=.ok v' w/\Rel ρ (retM z ok r) v':=by
 have ⟨z',hz1,hz2⟩:=oI (P:=P) hz;have hzr:=hz2 ρ;have hc:=λb w=>wT 10 hk1 hk b 10000 dE w;rcases h with⟨rfl,rfl⟩|⟨b,e,es,c,q,rfl,hb,hq,rfl⟩
 ·unfold Rel at hx;subst hx
  exact⟨_,Ul hu hku hc hz1,(BM hzr hzr 0).2⟩
 ·unfold Rel at hx
  obtain⟨L,hL,rfl⟩:=hx;have ⟨L',hL',⟨es',q1,q2⟩,_⟩:=hf.get hb;rw[hL]at hL';cases hL';rcases ND hku hk w _ es'.toList q hq q2 with⟨rfl,a2⟩|⟨j,v1,v',e',rfl,a2,a3,_⟩
  ·exact⟨_,NE hu hku hc hz1 q1 a2,(BM hzr hzr 0).2⟩
  ·exact⟨_,NE hu hku hc hz1 q1 a2,(BM hzr a3 _).1⟩
theorem BN{ty kt et:ah}{ik:aA}{x k z:AV}{x' k':ai}{ok:Bool}{r:Option AV}(hu:P.underlying ty=some (.map kt et))(hku:P.underlying kt=some (.int ik))(hz:g9 P et=some z)
  (hf:Fit ρ base s t w) (h:getM s x k=some r) (hx:Rel ρ x x') (hk:Rel ρ k k'):∃v',(Instr.lookup ty x' k' ok).run P w=.ok v' w/\Rel ρ (retM z ok r) v':=by
 unfold getM at h;split at h<;>try (cases h;done)
 rename_i jk n;refine qN hu hku hz (by simp[iN,hku]) hf ?_ hx hk
 grind [qM]
theorem BO{ty kt et:ah}{kd:ci}{x k z:AV}{x' k':ai}{ok:Bool}{r:Option AV}(hu:P.underlying ty=some (.map kt et))(hku:P.underlying kt=some kd)(hz:g9 P et=some z)
  (hf:Fit ρ base s t w) (h:getG P kt s x k=some r) (hx:Rel ρ x x') (hk:Rel ρ k k'):∃v',(Instr.lookup ty x' k' ok).run P w=.ok v' w/\Rel ρ (retM z ok r) v':=by
 unfold getG at h;simp only[hku]at h
 replace h:=d6 h
 have ⟨h0,h⟩:=h;refine qN hu hku hz (Bool.and_eq_true_iff.1 h0).2 hf ?_ hx hk
 grind
theorem qO{ty kt et:ah}{kd:ci}{b c:Nat}{es:List AEnt}{k v:AV}{x' k' v':ai}{q:Option (Nat×AV)}(hu:P.underlying ty=some (.map kt et))(hku:P.underlying kt=some kd)(hk1:iN P 10 kt k=true)
  (hf:Fit ρ base s t w) (hb:s b=some (false,.map es c)) (hq:iM P kt kd k es 0=some q) (hx:Rel ρ (.map b) x') (hk:Rel ρ k k') (hv:Rel ρ v v') :
  ∃w',(Instr.mapUpdate ty x' k' v').run P w=.ok () w'/\Stp ρ ρ base s (hset s b (false,match q with|some p=>.map (modE es p.1 λe=>{ e with key:=k,val:=v }) c|none=>.map (es ++ [{ key:=k,val:=v,born:=c }]) (c+1))) t w w':=by
 obtain⟨L,hL,rfl⟩:=hx;have ⟨L',hL',⟨es',q1,q2⟩,_⟩:=hf.get hb;rw[hL]at hL';cases hL';have hc:(Instr.checkKey false 10000 kt k').run P w=.ok () w:=(by grind [wT])
 rcases ND hku hk w _ es'.toList q hq q2 with⟨rfl,a2⟩|⟨j,v1,v2,e',rfl,a2,a3,a4,a5⟩
 ·have ⟨w',s1,s2⟩:=NF (P:=P) (.map (es'.push { key:=k',val:=v',born:=c }) (c+1)) q1
  refine⟨w',?_,hf.put hb hL s2 ⟨_,rfl,q2.push hk hv c⟩⟩;simp only[Instr.mapUpdate,Sem.run_bind,aF hu,aU.andThen_ok,BL q1,hc,a2,s1]
 ·rw[zAY]at a2
  have ⟨w',s1,s2⟩:=NF (P:=P) (.map (es'.modify j λe=>{ e with key:=k',val:=v' }) c) q1;refine⟨w',?_,?_⟩
  ·have hst:(Instr.keyThatStays (((es'[j]?).map (·.key)).getD k') k').run P w=.ok k' w:=by
    rw[Array.getElem?_toList]at a4;simp[Instr.keyThatStays,a4,a5]
   simp only[Instr.mapUpdate,Sem.run_bind,aF hu,aU.andThen_ok,BL q1,hc,a2,hst,s1]
  ·simp only[zAY]
   exact hf.put hb hL s2 ⟨_,rfl,q2.modify hk hv j⟩
theorem qP{ty kt et:ah}{ik:aA}{x k v:AV}{x' k' v':ai}{s':Hq}(hu:P.underlying ty=some (.map kt et))(hku:P.underlying kt=some (.int ik))(hf:Fit ρ base s t w)(h:putM s x k v=some s')(hx:Rel ρ x x')(hk:Rel ρ k k')(hv:Rel ρ v v'):
  ∃w',(Instr.mapUpdate ty x' k' v').run P w=.ok () w'/\Stp ρ ρ base s s' t w w':=by
 unfold putM at h;split at h<;>try (cases h;done)
 rename_i jk jn;split at h<;>try (cases h;done)
 rename_i b;split at h<;>try (cases h;done)
 rename_i es c hb;split at h<;>cases h
 rename_i p hp;unfold putE at hp;have key:=λq hq=>qO (q:=q) hu hku (k:=.int jk jn) (v:=v) (by simp[iN,hku]) hf hb (by rw[qM];exact hq) hx hk hv
 grind
theorem qQ{ty kt et:ah}{kd:ci}{x k v:AV}{x' k' v':ai}{s':Hq}(hu:P.underlying ty=some (.map kt et))(hku:P.underlying kt=some kd)(hf:Fit ρ base s t w)(h:putG P kt s x k v=some s')(hx:Rel ρ x x')(hk:Rel ρ k k')(hv:Rel ρ v v'):
  ∃w',(Instr.mapUpdate ty x' k' v').run P w=.ok () w'/\Stp ρ ρ base s s' t w w':=by
 unfold putG at h;simp only[hku]at h
 replace h:=d6 h
 have ⟨h0,h⟩:=h;split at h<;>try (cases h;done)
 rename_i b;split at h<;>try (cases h;done)
 rename_i es c hb;have key:=λq hq=>qO (q:=q) hu hku (k:=k) (v:=v) (Bool.and_eq_true_iff.1 h0).2 hf hb hq hx hk hv
 grind
theorem qR{ty:ah}(hf:Fit ρ base s t w)(h:mapK K s)(o:Option ai)(ho:∀v,o=some v->∃k n,v=.int k n){kt et:ah}(hu:P.underlying ty=some (.map kt et)):OkV ρ base s t w K ((Instr.makeMap ty o).run P w):=by
 have ⟨id,ρ',a,b,c⟩:=hf.push (b:=.map [] 0) (o:=.map #[] 0) (n:=0) λρ' _=>⟨#[],rfl,rfl,λi e e' h=>by simp at h⟩
 have hr:(Instr.makeMap ty o).run P w=.ok (.map (some w.heap.size)) (w.alloc (.map #[] 0)):=by
  cases o with
  |none=>simp[Instr.makeMap,newObj,Sem.run]
  | some v=>
    obtain⟨k,n,rfl⟩:=ho v rfl;simp[Instr.makeMap,aF hu,asInt,asIntOf]
 exact⟨_,_,ρ',.map id,_,hr,c,by grind [Rel],h id a⟩
def mL(P:ay)(t:ah)(name:String):Option (aQ×Option ah):=match P.info? t with
 | some i=>match i.methods.find? (·.name == name)with
   | some m=>cond m.path.isEmpty (match m.func with
     | some (f,pr)=>match P.underlying t with
       |some (.pointer e)=>some (f,cond pr none (some e))
       |some _=>cond pr none (some (f,none))
       |none=>none
     |none=>none) none
   |none=>none
 |none=>none
def kP(P:ay)(t:ah)(name:String):Option (aQ×ah×Nat):=match P.info? t with
 | some i=>match i.methods.find? (·.name == name)with
   | some m=>match m.path.toList,m.func with
     | [st],some (f,true)=>cond st.deref none (match P.underlying st.struct with
       | some (.struct fs)=>match fs[st.index]? with
         | some fl=>match P.underlying fl.type with
           |some (.pointer _)=>some (f,fl.type,fl.offset)
           |_=>none
         |none=>none
       |_=>none)
     |_,_=>none
   |none=>none
 |none=>none
theorem qS{ty:ah}{x:AV}{x':ai}{name:String}{f:aQ}{o:Option ah}{r:AV}(hf:Fit ρ base s t w)(h:mL P ty name=some (f,o))(hx:Rel ρ x x')(hr:match o with|none=>r=x|some e=>gP P e x (·=r) s)(n:Nat):
  ∃r',(method (n+1) ty x' name).run P w=.ok (f,r') w/\Rel ρ r r':=by
 unfold mL at h;split at h<;>try (cases h;done)
 rename_i i hi;split at h<;>try (cases h;done)
 rename_i m hm
 replace h:=d6 h
 have ⟨hp,h⟩:=h;split at h<;>try (cases h;done)
 rename_i f' pr hfn;have hpath:m.path.toList=[]:=by simpa using hp
 have main:∀v',(receiverAt ty (.val x') pr (if m.path.isEmpty then some ((name.splitOn ".").getLastD name)else none)).run P w=.ok v' w->(method (n+1) ty x' name).run P w=.ok (f',v') w:=λv' hv=>by simp only[method,Sem.run_bind,Nf hi,aU.andThen_ok,hm,hpath,follow,hfn,hv,Sem.run_pure]
 split at h
 ·rename_i e hu
  cases pr with
  | true=>
    cases h;obtain rfl:=hr;exact⟨x',main x' (by simp[receiverAt,aF hu,Place.get]),hx⟩
  | false=>
    cases h;obtain⟨a,v,v',rfl,hv,hrel,rfl⟩:=Bq hf hr hx;refine⟨v',main v' ?_,hrel⟩;have hchk:∀name:String,aW.ssaWrapNilChk_ #[ty] ty #[.pointer (some a),strVal "",strVal name]=pure (.pointer (some a)):=λ_=>rfl;generalize(if m.path.isEmpty then some ((name.splitOn ".").getLastD name)else none)=wr;cases wr<;>simp[receiverAt,aF hu,Place.get,hchk,asAddr,hv]
 ·rename_i d hnp hu
  cases pr with
  |true=>cases h
  | false=>
    cases h;obtain rfl:=hr;refine⟨x',main x' ?_,hx⟩;simp only[receiverAt,Sem.run_bind,aF hu,aU.andThen_ok];cases d<;>first|exact absurd rfl (hnp _)|simp[Place.get]
 ·cases h
theorem BP{ty fty:ah}{cs:List AV}{x':ai}{name:String}{f:aQ}{off:Nat}{r:AV}(h:kP P ty name=some (f,fty,off))(hx:Rel ρ (.agg cs) x')(hr:gh P fty cs off=some r)(n:Nat):
  ∃r',(method (n+1) ty x' name).run P w=.ok (f,r') w/\Rel ρ r r':=by
 unfold kP at h;split at h<;>try (cases h;done)
 rename_i i hi;split at h<;>try (cases h;done)
 rename_i m hm;split at h<;>try (cases h;done)
 rename_i st f' hpath hfn;cases hd:st.deref with
 |true=>rw[hd]at h;cases h
 | false=>
   rw[hd,cond_false]at h;split at h<;>try (cases h;done)
   rename_i fs hu;split at h<;>try (cases h;done)
   rename_i fl hfl;split at h<;>try (cases h;done)
   rename_i e hp;cases h;obtain⟨cs',rfl,hcs⟩:=hx.agg;have ⟨v',hv,hrel⟩:=kN hr hcs w;refine⟨v',?_,hrel⟩;simp only[method,Sem.run_bind,Nf hi,aU.andThen_ok,hm,hpath,follow,aF hu,hfl,hd,hfn,hv,Sem.run_pure,Bool.false_eq_true,if_false,receiverAt,aF hp,Place.get]
end
end Go.AM
namespace Go.AM
open Go Go.RowKit List Nat
def mM(P:ay):Prop:=∀(k:aQ) (fn:Func),P.funcs[k]?=some fn->fn.name≠"runtime.NumGoroutine"
structure Grd(P:ay):Prop where
 mixed:P.follows .mixedOrders=true
 nonum:mM P
def kT(ρ:Ren)(base:Nat)(s t:Hq)(w:am)(K:AV->Hq->Prop):Ending->am->Prop:=
 λe w'=>∃v v' s' ρ',e=.returned v'/\Rel ρ' v v'/\Stp ρ ρ' base s s' t w w'/\K v s'
def wC(P:ay)(f:aQ)(args:List AV)(K:AV->Hq->Prop)(s:Hq):Prop:=Grd P->∀(ρ:Ren) (base:Nat) (t:Hq) (w:am) (args':Array ai),Fit ρ base s t w->RelL ρ args args'.toList->
 CallsIn Fence.wide 0 P f args' w (kT ρ base s t w K)
def gF(P:ay)(l:Nat)(args:List AV)(K:AV->Hq->Prop)(s:Hq):Prop:=Grd P->∀(ρ:Ren) (base:Nat) (t:Hq) (w:am) (args':Array ai) (L:Loc) (n:Next),Fit ρ base s t w->ρ l=some L->RelL ρ args args'.toList->
 (Instr.yield L.blk args').run P w=.ok n w->∃fn tm az bo,n=.round L.blk fn tm az bo/\RoundIn Fence.wide 0 P L.blk fn tm az bo w (kT ρ base s t w K)
section
variable (P : ay)
def goK(k:aQ)(args:List AV)(K:AV->Hq->Prop)(s:Hq):Prop:=isFn P k=true/\wC P k args K s
def eg(x:AV)(name:String)(args:List AV)(K:AV->Hq->Prop)(s:Hq):Prop:=match x with
 | .ifc t v=>match mL P t name with
   |some (f,none)=>goK P f (v::args) K s
   |some (f,some e)=>gP P e v (λr=>goK P f (r::args) K s) s
   | none=>match v with
     | .agg cs=>match kP P t name with
       |some (f,fty,off)=>oK (gh P fty cs off) λr=>goK P f (r::args) K s
       |none=>False
     |_=>False
 |_=>False
def jw(l:Nat)(n:Nat)(s:Hq):Prop:=match s l with
 |some (_,.loop _ _ _ _ ps _ _ _)=>ps.length=n
 |_=>False
def funK(f:AV)(args:List AV)(K:AV->Hq->Prop)(s:Hq):Prop:=match f with
 | .fn (.func k) first cap=>goK P k (first++args++cap) K s
 | .fn (.method name) [x] _=>eg P x name args K s
 | .yield l=>jw l args.length s/\gF P l args K s
 |_=>False
def eqK(neg:Bool)(t:ah)(cst:Bool)(a b:AV)(K:AV->Hq->Prop)(s:Hq):Prop:=match P.underlying t with
 | some d=>match wK d with
   |some kd=>oK (negB neg (eqV kd cst a b)) (K · s)
   |none=>cond (P.eqGuardType P.depth t) False (oK (negB neg (fF P t a b)) (K · s))
 |none=>False
def lR(b:aW)(ts:List ah)(args:List AV)(K:AV->Hq->Prop)(s:Hq):Prop:=match b,ts,args with
 | .append,[st,xt],[x,y]=>match P.underlying st,P.underlying xt with
   | some (.slice elem),some (.slice _)=>match zelem P elem,my P elem with
     |some (_,es),some by_=>cond (ble by_ 65536) (appK elem es x y K s) False
     |_,_=>False
   |_,_=>False
 | .len,t::_,[x]=>match P.underlying t with
   |some (.map _ _)=>oK (lenM s x) λn=>K n s
   |some d=>oK (lenD d x) λn=>K n s
   |none=>False
 | .clear,t::_,[x]=>match P.underlying t with
   | some (.slice elem)=>match zelem P elem with
     |some (z,es)=>oN z es x K s
     |none=>False
   |_=>False
 | .min,_,x::xs=>oK (im min2A x xs) (K · s)
 | .max,_,x::xs=>oK (im max2A x xs) (K · s)
 |_,_,_=>False
def wpOp(env:Env)(K:AV->Hq->Prop)(s:Hq):Op->Prop
 | .move x | .assign x=>K (evD env x) s
 | .pick c a b=>oK (cW (evD env c) (evD env a) (evD env b)) (K · s)
 | .alloc t=>match zcells P t with
   |some z=>newK t z (λb=>K (Pp b)) s
   |none=>False
 | .box t x=>boxK t (evD env x) K s
 | .build t ps=>match g9 P t,P.underlying t with
   | some z,some (.struct fields)=>cond (fields.toList.all λf=>(sz P f.type).isSome) (match places (wH P fields.toList) ps.toList with
     |some l=>oK (aM z.cells (evPl env l)) λcs=>K (.agg cs) s
     |none=>False) False
   | some z,some (.array _ elem)=>match sz P elem with
     | some n=>match places (λi=>some (i*n,n)) ps.toList with
       |some l=>oK (aM z.cells (evPl env l)) λcs=>K (.agg cs) s
       |none=>False
     |none=>False
   |_,_=>False
 | .buildSlice t len ps=>match P.underlying t with
   | some (.slice elem)=>match zelem P elem with
     | some (z,es)=>cond (ble (len*es) 16777216) (match places (λi=>some (i*es,es)) ps.toList with
       |some l=>oK (aM (repl len z) (evPl env l)) λcs=>aX cs=true/\newK elem cs (λb=>K (.slc b 0 len (some len) es)) s
       |none=>False) False
     |none=>False
   |_=>False
 | .load t a=>match a with
   | .global g=>gldK P t g (K · s) s
   |a=>gP P t (evD env a) (K · s) s
 | .sliceToArrayPointer t x=>oK (qu P t (evD env x)) (K · s)
 | .store t a x=>mI P t (evD env a) (evD env x) K s
 | .nilCheck x=>oK (eX (evD env x)) (K · s)
 | .binOp op t x y _=>match op with
   | .eql=>eqK P false t (isC x||isC y) (evD env x) (evD env y) K s
   | .neq=>eqK P true t (isC x||isC y) (evD env x) (evD env y) K s
   | .shl | .shr=>oK (fN op (evD env x) (evD env y)) (K · s)
   |_=>oK (cZ op (evD env x) (evD env y)) (K · s)
 | .unOp op _ x=>oK (oG op (evD env x)) (K · s)
 | .convert a d x=>match P.underlying a,P.underlying d with
   |some (.int _),some (.int k)=>oK (dX k (evD env x)) (K · s)
   |some .string,some .string=>oK (mF (evD env x)) (K · s)
   |_,_=>False
 | .makeInterface t x=>match P.underlying t with
   |some (.interface _)=>False
   |some _=>K (.ifc t (evD env x)) s
   |none=>False
 | .makeFunc f first cap=>match f with
   | .func k=>K (.fn (.func k) (first.toList.map (evD env)) (cap.toList.map (evD env))) s
   | .method n=>K (.fn (.method n) (first.toList.map (evD env)) (cap.toList.map (evD env))) s
   |_=>False
 | .makeSlice t l c=>match P.underlying t with
   | some (.slice elem)=>match zelem P elem,my P elem with
     |some (z,es),some by_=>cond (ble by_ 32768) (oK (nat? (evD env l)) λl=>oK (nat? (evD env c)) λc=>(l<=c/\c<=4294967296)/\newK elem (repl c z) (λb=>K (.slc b 0 l (some c) es)) s) False
     |_,_=>False
   |_=>False
 | .slice t x lo hi mx=>match P.underlying t with
   | some (.slice elem)=>match sz P elem with
     |some es=>oK (fI es (evD env x) (oev env lo) (oev env hi) (oev env mx)) (K · s)
     |none=>False
   | some (.array n elem)=>match sz P elem with
     |some es=>oK (oL s n es (evD env x) (oev env lo) (oev env hi) (oev env mx)) (K · s)
     |none=>False
   |_=>False
 | .fieldAddr t x f=>match mH P t f with
   |some k=>oK (fu k (evD env x)) (K · s)
   |none=>False
 | .field t x f=>match P.underlying t with
   | some (.struct fields)=>match fields[f]? with
     | some fd=>match io P fd.type with
       |some g=>oK (wI g fd.offset (evD env x)) (K · s)
       |none=>False
     |none=>False
   |_=>False
 | .indexAddr t x i=>match P.underlying t with
   | some (.array len elem)=>match sz P elem with
     |some n=>oK (fj len n (evD env x) (evD env i)) (K · s)
     |none=>False
   | some (.slice elem)=>match sz P elem with
     |some n=>oK (cF n (evD env x) (evD env i)) (K · s)
     |none=>False
   |_=>False
 | .index t x i=>match P.underlying t with
   | some (.array len elem)=>match sz P elem,io P elem with
     |some n,some g=>oK (wJ len n g (evD env x) (evD env i)) (K · s)
     |_,_=>False
   |some .string=>oK (AQ (evD env x) (evD env i)) (K · s)
   |_=>False
 | .typeAssert x _ t ok=>match P.underlying t with
   |some (.interface _)=>False
   |some _=>oK (jW t (g9 P t) ok (evD env x)) (K · s)
   |none=>False
 | .extract x i=>oK (bV (evD env x) i) (K · s)
 | .makeMap t r=>match P.underlying t with
   | some (.map _ _)=>match r with
     |none=>mapK K s
     |some x=>intK (evD env x) (mapK K s)
   |_=>False
 | .entry x=>oK (entD s (evD env x)) (K · s)
 | .range t x=>match P.underlying t with
   |some (.map _ _)=>jv (evD env x) K s
   |_=>False
 | .lookup t x k ok=>match P.underlying t with
   | some (.map kt et)=>match P.underlying kt,g9 P et with
     |some (.int _),some z=>oK (getM s (evD env x) (evD env k)) λr=>K (retM z ok r) s
     |some _,some z=>oK (getG P kt s (evD env x) (evD env k)) λr=>K (retM z ok r) s
     |_,_=>False
   |_=>False
 | .mapUpdate t m k x=>match P.underlying t with
   | some (.map kt _)=>match P.underlying kt with
     |some (.int _)=>oK (putM s (evD env m) (evD env k) (evD env x)) (K .undef)
     |some _=>oK (putG P kt s (evD env m) (evD env k) (evD env x)) (K .undef)
     |none=>False
   |_=>False
 | .insert t m k x=>match P.underlying t with
   | some (.map kt _)=>match P.underlying kt with
     |some (.int _)=>oK (putM s (evD env m) (evD env k) (evD env x)) (K .undef)
     |some _=>oK (putG P kt s (evD env m) (evD env k) (evD env x)) (K .undef)
     |none=>False
   |_=>False
 | .call c=>match c.callee with
   | .builtin b=>lR P b c.argTypes.toList (c.args.toList.map (evD env)) K s
   | .invoke r name=>eg P (evD env r) name (c.args.toList.map (evD env)) K s
   | .value f=>match f with
     | .func k=>cond (isFn P k) (wC P k (c.args.toList.map (evD env)) K s) False
     |f=>funK P (evD env f) (c.args.toList.map (evD env)) K s
 |_=>False
def okOp(o:Op):Bool:=match o with
 | .load _ (.global _)=>true
 |o=>o.operands.toList.all okX
end
section
variable {P:ay} {ρ:Ren} {base nt:Nat} {s t:Hq} {w:am} {K:AV→Hq→Prop} {env:Env} {a:Act}
theorem NI{o:Op}(h:okOp o=true)(hn:∀t g,o≠.load t (.global g)):o.operands.toList.all okX=true:=by
 simp_all [okOp]
def OkN(P:ay)(ρ:Ren)(base:Nat)(s t:Hq)(w:am)(K:AV->Hq->Prop)(r:aU Next):Prop:=∃n w1,r=.ok n w1/\
 ((∃v v' ρ' s',(n=.value v'∨(n=.skip/\v'=undef))/\Stp ρ ρ' base s s' t w w1/\Rel ρ' v v'/\K v s')∨
 (w1=w/\∃f args args',n=.enter f args'/\RelL ρ args args'.toList/\wC P f args K s)∨
 (w1=w/\∃(l:Nat) (L:Loc) (args:List AV) (args':Array ai),ρ l=some L/\RelL ρ args args'.toList/\(Instr.yield L.blk args').run P w=.ok n w/\gF P l args K s))
theorem OkN.of_val{m:Sem ai}(h:OkV ρ base s t w K (m.run P w)):OkN P ρ base s t w K ((do pure (.value (<- m)):Sem Next).run P w):=by have ⟨v',w',ρ',v,s',e,st,r,k⟩:=h;exact⟨.value v',w',by simp[e],gR⟩
theorem OkN.det{m:Sem ai}{v:AV}(hf:Fit ρ base s t w)(h:∃v',m.run P w=.ok v' w/\Rel ρ v v')(hk:K v s):OkN P ρ base s t w K ((do pure (.value (<- m)):Sem Next).run P w):=by have ⟨v',e,r⟩:=h;exact .of_val (.pure hf e r hk)
theorem OkN.skip{m:Sem Unit}{ρ':Ren}{w':am}{s':Hq}(h:m.run P w=.ok () w')(st:Stp ρ ρ' base s s' t w w')(hk:K .undef s'):OkN P ρ base s t w K ((do m;pure Next.skip:Sem Next).run P w):=
 ⟨.skip,w',by simp[h],.inl ⟨.undef,undef,ρ',s',.inr ⟨rfl,rfl⟩,st,oH,hk⟩⟩
theorem qT{k:aQ}(hname:mM P)(h:isFn P k=true)(args:Array ai)(w:am):(callFunc k args).run P w=.ok (.enter k args) w:=by
 unfold isFn at h;split at h
 ·rename_i fn hfn
  have h1:=hname k fn hfn;have h2:¬fn.body=none:=gR;simp[callFunc,hfn,h1,h2]
 ·cases h
theorem qU{k:aQ}{args:List AV}{args':Array ai}(g:Grd P)(h:goK P k args K s)(hr:RelL ρ args args'.toList):OkN P ρ base s t w K ((callFunc k args').run P w):=
 ⟨_,w,qT g.nonum h.1 args' w,.inr (.inl ⟨rfl,k,args,args',rfl,hr,h.2⟩)⟩
theorem NJ{ty:ah}{x:AV}{x':ai}{name:String}{args:List AV}{args':List ai}(g:Grd P)(hf:Fit ρ base s t w)(h:eg P (.ifc ty x) name args K s)(hx:Rel ρ x x')(hr:RelL ρ args args'):OkN P ρ base s t w K ((callMethod (.iface ty x') name args'.toArray).run P w):=by
 have main:∀f r,(∃r',(method (P.types.size+Made.depth-1+1) ty x' name).run P w=.ok (f,r') w/\Rel ρ r r')->goK P f (r::args) K s->OkN P ρ base s t w K ((callMethod (.iface ty x') name args'.toArray).run P w):=by
  rintro f r ⟨r',e,q⟩ hg
  have hd:P.types.size+Made.depth-1+1=P.types.size+Made.depth:=by have:0<Made.depth:=dE
                                                                  omega
  rw[hd]at e;have:=qU (base:=base) (t:=t) (w:=w) (args':=#[r']++args'.toArray) g hg (by simpa using RelL.cons q hr);simp only[callMethod,Sem.run_bind,run_program,aU.andThen_ok,e];exact this
 simp only[eg]at h;split at h
 ·rename_i f hm
  exact main f x (qS hf hm hx rfl _) h
 ·rename_i f e hm
  have hex:∃r,gP P e x (λq=>q=r) s/\goK P f (r::args) K s:=by
   unfold gP at h ⊢;split at h
   ·have ⟨l,h1,h2⟩:=cB h;exact⟨.agg l,by rw[h1];rfl,h2⟩
   ·have ⟨l,h1,h2⟩:=cB h;exact⟨l,by rw[h1];rfl,h2⟩
   ·exact h.elim
  have ⟨r,h1,h2⟩:=hex;exact main f r (qS hf hm hx h1 _) h2
 ·split at h
  ·split at h
   ·rename_i f fty off hm
    have ⟨r,h1,h2⟩:=cB h;exact main f r (BP hm hx h1 _) h2
   ·exact h.elim
  ·exact h.elim
theorem BQ{b:aW}{ts:Array ah}{args:List AV}{args':Array ai}{ty:ah}{cs:Array Bool}(hf:Fit ρ base s t w)(h:lR P b ts.toList args K s)(hr:RelL ρ args args'.toList):OkN P ρ base s t w K ((builtin b ts ty cs args').run P w):=by
 have ⟨ts⟩:=ts;have ⟨args'⟩:=args';simp only at hr h;unfold lR at h;split at h
 ·rename_i st xt x y
  unfold RelL at hr;obtain⟨x',l1,rfl,hx,hr⟩:=hr;unfold RelL at hr;obtain⟨y',l2,rfl,hy,hr⟩:=hr;unfold RelL at hr;subst hr;split at h
  ·rename_i elem e2 h1 h2
   split at h
   ·rename_i z es by_ h3 h4
    cases h5:ble by_ 65536 with
    |false=>grind
    | true=>
      rw[h5,aD]at h;exact .of_val (BF h1 h2 sI h3 h4 h5 hf h hx hy)
   ·exact h.elim
  ·exact h.elim
 ·rename_i ty' ts x
  unfold RelL at hr;obtain⟨x',l1,rfl,hx,hr⟩:=hr;unfold RelL at hr;subst hr;split at h
  ·rename_i kt et hu
   have ⟨n,h1,h2⟩:=cB h;exact .det hf (qL hu hf h1 hx ts) h2
  ·rename_i d _ hu
   have ⟨n,h1,h2⟩:=cB h;exact .det hf (qK hu h1 hx ts) h2
  ·exact h.elim
 ·rename_i ty' ts x
  unfold RelL at hr;obtain⟨x',l1,rfl,hx,hr⟩:=hr;unfold RelL at hr;subst hr;split at h
  ·rename_i elem hu
   split at h
   ·rename_i z es hz
    exact .of_val (BH hu hz hf h hx ts)
   ·exact h.elim
  ·exact h.elim
 ·rename_i x xs
  unfold RelL at hr;obtain⟨x',l1,rfl,hx,hr⟩:=hr;have ⟨r,h1,h2⟩:=cB h;have ⟨v',e,q⟩:=qI (P:=P) h1 hx hr w;exact .det (m:=aW.min_ _ _ _) hf ⟨v',by simpa [aW.min_]using e,q⟩ h2
 ·rename_i x xs
  unfold RelL at hr;obtain⟨x',l1,rfl,hx,hr⟩:=hr;have ⟨r,h1,h2⟩:=cB h;have ⟨v',e,q⟩:=qJ (P:=P) h1 hx hr w;exact .det (m:=aW.max_ _ _ _) hf ⟨v',by simpa [aW.max_]using e,q⟩ h2
 ·exact h.elim
theorem BS{l:Nat}{args:List AV}{args':Array ai}{L:Loc}(hf:Fit ρ base s t w)(h:jw l args.length s/\gF P l args K s)(hL:ρ l=some L)(hr:RelL ρ args args'.toList):OkN P ρ base s t w K ((Instr.yield L.blk args').run P w):=by
 have ⟨h1,h2⟩:=h;unfold jw at h1;split at h1
 ·rename_i e st pd nt keep ps az bo d hb
  have ⟨L',hL',⟨fn,tm,D,env,_,q2,_⟩,_⟩:=hf.get hb;rw[hL]at hL';cases hL';have hsz:args'.size=ps.length:=by have:=hr.length;simp at this;omega
  have hrun:∃n,(Instr.yield L.blk args').run P w=.ok n w:=by simp only[Instr.yield,Instr.getLoop,getObj,Sem.run_bind,Sem.run,q2,aU.andThen_ok];simp[hsz]
  have ⟨n,hn⟩:=hrun;exact⟨n,w,hn,.inr (.inr ⟨rfl,l,L,args,args',hL,hr,hn,h2⟩)⟩
 ·exact h1.elim
theorem NK(name:String)(cap:Array ai)(v:ai)(X:Array ai)(w:am):(invoke (.fn (.method name) cap) (#[v]++X)).run P w=(callMethod v name X).run P w:=by
 have e0:(#[v]++X)[0]?=some v:=gR;have e1:(#[v]++X).extract 1 (#[v]++X).size=X:=by
  simp_all
 simp only[invoke,e0,e1]
theorem BT{c:Call}{ty:ah}(g:Grd P)(hf:Fit ρ base s t w)(hT:ER ρ nt env a.tmps)(ho:c.operands.toList.all okX=true)(h:wpOp P env K s (.call c)):OkN P ρ base s t w K ((do let d <- resolve a.eval c ty;invoke d.target d.args:Sem Next).run P w):=by
 have hm:=λx hx=>bU.1 ho x hx;have hargs:c.args.toList.all okX=true:=bU.2 λx hx=>hm x (by unfold Call.operands;grind);have hr:=oP hT hargs;have hr':RelL ρ (c.args.toList.map (evD env)) (c.args.map a.eval).toList:=by simpa using hr
 have e0:(List.map a.eval c.args.toList).toArray=Array.map a.eval c.args:=by apply Array.ext';simp
 simp only[wpOp]at h;cases hc:c.callee with
 | builtin b=>
   simp only[hc]at h;simp only[resolve,hc,invoke,Sem.run_bind,Sem.run_pure,aU.andThen_ok];exact BQ hf h hr'
 | invoke r name=>
   simp only[hc]at h;have hv:=iU hT (hm r (by simp[Call.operands,hc]));generalize evD env r=x at h hv;cases x with
   | ifc t' v=>
     have ⟨v',he,hv⟩:=hv;have:=NJ g hf h hv hr;simp only[resolve,hc,he,Sem.run_bind,Sem.run_pure,aU.andThen_ok,NK];rw[<- e0];exact this
   |_=>exact h.elim
 | value f=>
   simp only[hc]at h;have hfx:=hm f (by simp[Call.operands,hc]);have main:funK P (evD env f) (c.args.toList.map (evD env)) K s->OkN P ρ base s t w K ((do let d <- resolve a.eval c ty;invoke d.target d.args:Sem Next).run P w):=by
    intro h;have hv:=iU hT hfx;unfold funK at h;split at h
    ·rename_i k first cap he
     rw[he]at hv;have ⟨fs,cs,he,h1,h2⟩:=hv;have:=qU (base:=base) (t:=t) (w:=w) (args':=fs++c.args.map a.eval++cs) g h (by simpa using(h1.append hr).append h2);simp only[resolve,hc,he,cx.ofValue,invoke,Sem.run_bind,Sem.run_pure,aU.andThen_ok];exact this
    ·rename_i name x cap he
     rw[he]at hv;have ⟨fs,cs,he,h1,h2⟩:=hv;obtain⟨y,ys,hfs,h1,h3⟩:=h1;unfold RelL at h3;subst h3;cases x with
     | ifc t' v=>
       obtain⟨v',rfl,h1⟩:=h1;have hfs':fs=#[.iface t' v']:=gR;subst hfs';have:=NJ g hf h h1 hr;simp only[resolve,hc,he,cx.ofValue,Sem.run_bind,Sem.run_pure,aU.andThen_ok,NK];rw[<- e0];exact this
     |_=>exact h.elim
    ·rename_i l he
     rw[he]at hv;have ⟨L,hL,he⟩:=hv;have:=BS hf h hL hr';simp only[resolve,hc,he,cx.ofValue,invoke,Sem.run_bind,Sem.run_pure,aU.andThen_ok];simpa using this
    ·exact h.elim
   cases f with
   | func k=>
     simp only at h;cases hk:isFn P k with
     |false=>grind
     | true=>
       rw[hk,aD]at h;exact main ⟨hk,by simpa [evD]using h⟩
   |tmp i=>exact main h
   |const v=>exact main h
   |global q=>exact main h
def jx:ai->Bool
 | .pointer none | .nilIface | .nilFunc=>false
 | .func (.method _) _ _=>false
 |_=>true
theorem Um{x v:AV}{x':ai}(h:eX x=some v)(hx:Rel ρ x x'):v=x/\jx x'=true:=by
 have hv:v=x:=by
  unfold eX at h
  grind
 subst hv;refine⟨rfl,?_⟩;cases v
 case fn f az bs=>obtain⟨as',bs',rfl,_⟩:=hx;cases f<;>first|rfl|grind [eX]
 all_goals (unfold Rel at hx;first
  |grind [eX]
  |(subst hx;rfl)
  |(have ⟨_,_,rfl⟩:=hx;rfl)
  |(obtain⟨_,_,_,_,rfl,_⟩:=hx;rfl)
  |(obtain⟨_,rfl,_⟩:=hx;rfl))
theorem BU{y:aP}{dst:Option Tmp}{type:ah}{pos:String}{after:Array Edge}{guard:Option (Nat×Bool)}(h:jx (a.eval y)=true)(w:am):
  (execOp a.eval { dst,op:=.nilCheck y,type,pos,after,guard }).run P w=.ok (.value (a.eval y)) w:=by
 simp only[execOp];generalize a.eval y=x' at *;cases x' with
 |pointer q=>cases q<;>first|rfl|(simp[jx]at h;done)
 |func f az bs=>cases f<;>first|rfl|(simp[jx]at h;done)
 |_=>first|rfl|(simp[jx]at h;done)
end
end Go.AM
