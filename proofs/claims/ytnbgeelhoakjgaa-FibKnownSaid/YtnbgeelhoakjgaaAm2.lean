/- Part 2 of a calculation in a small memory that is proved to answer as the program does: see the last part. -/
import Derived.Test.YtnbgeelhoakjgaaAm1
import Derived.Orders
namespace Go.AM
open Go

section
variable (P : Program)

/-! ### memory -/
def cellsAt (c : Tr AVal) : Nat → Nat → Option (List AVal)
  | _, 0 => some []
  | o, n + 1 => match c.get o with
    | none => none
    | some v => match cellsAt c (o + 1) n with
      | none => none
      | some vs => some (v :: vs)
def allOne : List AVal → Bool
  | [] => true
  | v :: vs => v.one && allOne vs
def newCells (elem : TypeId) (cs : List AVal) : M Nat :=
  cond (allOne cs) (nw (.cells elem (Tr.ofListAt .nil 0 cs) cs.length)) fail
def allocA (elem : TypeId) : M AVal :=
  match zeroA P elem with
  | some z => bd (newCells elem z.cells) fun id => ret (.ptr id 0)
  | none => fail
def boxA (elem : TypeId) (v : AVal) : M AVal := bd (newCells elem v.cells) fun id => ret (.ptr id 0)
def loadCellsA (b o n : Nat) : M (List AVal) := bd (rd b) fun blk =>
  match blk with
  | .cells _ c _ => lift (cellsAt c o n)
  | _ => fail
def loadA (t : TypeId) (b o : Nat) : M AVal :=
  match isAggT P t with
  | some true => match sz P t with
    | some n => bd (loadCellsA b o n) fun l => ret (.agg l)
    | none => fail
  | some false => bd (rd b) fun blk => match blk with
    | .cells _ c _ => lift (c.get o)
    | _ => fail
  | none => fail
def storeCellsA (b o : Nat) (vs : List AVal) : M Unit := bd (rd b) fun blk =>
  match blk with
  | .cells e c n => cond (Nat.ble (o + vs.length) n && allOne vs) (wr b (.cells e (Tr.ofListAt c o vs) n)) fail
  | _ => fail
def storeA (t : TypeId) (p v : AVal) : M Unit :=
  match p with
  | .ptr b o => match sz P t with
    | some n => cond (Nat.beq v.cells.length n) (storeCellsA b o v.cells) fail
    | none => fail
  | _ => fail

/-! ### building -/
def setRange (cs : List AVal) (off : Nat) (vs : List AVal) : List AVal := cs.take off ++ vs ++ cs.drop (off + vs.length)
def fillA (place : Nat → Option (Nat × Nat)) (cells : List AVal) : List (Nat × AVal) → Option (List AVal)
  | [] => some cells
  | (i, v) :: rest =>
    match place i with
    | none => none
    | some (off, size) => cond (Nat.beq v.cells.length size && Nat.ble (off + v.cells.length) cells.length) (fillA place (setRange cells off v.cells) rest) none
def evParts (T : Tmps) : List (Nat × Operand) → Option (List (Nat × AVal))
  | [] => some []
  | (i, x) :: r => match ev T x, evParts T r with
    | some v, some l => some ((i, v) :: l)
    | _, _ => none
def placeOf (fields : List Field) (i : Nat) : Option (Nat × Nat) := match fields[i]? with
  | some f => match sz P f.type with
    | some n => some (f.offset, n)
    | none => none
  | none => none
def buildA (t : TypeId) (parts : List (Nat × AVal)) : Option AVal :=
  match zeroA P t, P.underlying t with
  | some z, some (.struct fields) => cond (fields.toList.all fun f => (sz P f.type).isSome) ((fillA (placeOf P fields.toList) z.cells parts).map .agg) none
  | some z, some (.array _ elem) => match sz P elem with
    | some n => (fillA (fun i => some (i * n, n)) z.cells parts).map .agg
    | none => none
  | _, _ => none
def repl (n : Nat) (z : List AVal) : List AVal := match n with
  | 0 => []
  | n + 1 => z ++ repl n z
/-- n elements of type 'elem', all zero; how many cells one has -/
def zeros (elem : TypeId) (n : Nat) : Option (List AVal × Nat) :=
  match zeroA P elem, sz P elem with
  | some z, some es => cond (Nat.beq z.cells.length es) (some (repl n z.cells, es)) none
  | _, _ => none
def buildSliceA (t : TypeId) (len : Nat) (parts : List (Nat × AVal)) : M AVal :=
  match P.underlying t with
  | some (.slice elem) => match zeros P elem len with
    | some (cs, es) => cond (Nat.ble (len * es) 16777216) (match fillA (fun i => some (i * es, es)) cs parts with
      | some cs => bd (newCells elem cs) fun id => ret (.slc id 0 len (some len) es)
      | none => fail) fail
    | none => fail
  | _ => fail
def bytesOf (t : TypeId) : Option Nat := match P.info? t with | some i => some i.bytes | none => none
def nat? : AVal → Option Nat
  | .int _ (.ofNat n) => some n
  | _ => none
def makeSliceA (t : TypeId) (l c : AVal) : M AVal :=
  match P.underlying t, nat? l, nat? c with
  | some (.slice elem), some l, some c => match zeros P elem c, bytesOf P elem with
    | some (cs, es), some by_ => cond (Nat.ble l c && (Nat.ble c 4294967296 && Nat.ble by_ 32768)) (bd (newCells elem cs) fun id => frcN l fun l => frcN c fun c => ret (.slc id 0 l (some c) es)) fail
    | _, _ => fail
  | _, _, _ => fail

/-! ### addresses -/
def fieldAddrA (s : TypeId) (x : AVal) (f : Nat) : Option AVal :=
  match P.underlying s, x with
  | some (.struct fields), .ptr b o => match fields[f]? with
    | some fd => match sz P fd.type with
      | some (_ + 1) => frcN (o + fd.offset) fun q => some (.ptr b q)
      | _ => none
    | none => none
  | _, _ => none
def fieldA (t : TypeId) (x : AVal) (f : Nat) : Option AVal :=
  match P.underlying t, x with
  | some (.struct fields), .agg cs => match fields[f]? with
    | some fd => aPart P fd.type cs fd.offset
    | none => none
  | _, _ => none
def indexAddrA (t : TypeId) (x i : AVal) : Option AVal :=
  match P.underlying t, x, nat? i with
  | some (.array len elem), .ptr b o, some i => match sz P elem with
    | some n => cond (Nat.blt i len) (frcN (o + i * n) fun q => some (.ptr b q)) none
    | none => none
  | some (.slice elem), .slc b o len _ es, some i => match sz P elem with
    | some n => cond (Nat.blt i len && Nat.beq n es) (frcN (o + i * n) fun q => some (.ptr b q)) none
    | none => none
  | _, _, _ => none
def indexA (t : TypeId) (x i : AVal) : Option AVal :=
  match P.underlying t, x, nat? i with
  | some (.array len elem), .agg cs, some i => match sz P elem with
    | some n => cond (Nat.blt i len) (aPart P elem cs (i * n)) none
    | none => none
  | some .string, .str s, some i => match s[i]? with
    | some b => frcN b.toNat fun n => some (.int .u8 n)
    | none => none
  | _, _, _ => none
/-- an optional bound: its value, or the default; at most 'y' -/
def bound (x : Option AVal) (dflt y : Nat) : Option Nat :=
  match x with
  | none => some dflt
  | some v => match nat? v with
    | some n => cond (Nat.ble n y) (some n) none
    | none => none
def sliceA (t : TypeId) (x : AVal) (lo hi mx : Option AVal) : Option AVal :=
  match P.underlying t, x with
  | some (.array n elem), .ptr b o =>
    match sz P elem, bound mx n n with
    | some es, some m => match bound hi n m with
      | some h => match bound lo 0 h with
        | some l => cond (mx.isNone || hi.isSome) (frcN (o + l * es) fun q => frcN (h - l) fun len => frcN (m - l) fun c => some (.slc b q len (some c) es)) none
        | none => none
      | none => none
    | _, _ => none
  | some (.slice elem), .slc b o len cap es =>
    match sz P elem, bound mx (cap.getD len) (cap.getD len) with
    | some es', some m => match bound hi len m with
      | some h => match bound lo 0 h with
        | some l => cond ((mx.isNone || hi.isSome) && Nat.beq es es') (frcN (o + l * es) fun q => frcN (h - l) fun len =>
            match cap, mx with
            | none, none => some (.slc b q len none es)
            | _, _ => frcN (m - l) fun c => some (.slc b q len (some c) es)) none
        | none => none
      | none => none
    | _, _ => none
  | some (.slice elem), .nilslc => match bound lo 0 0, bound hi 0 0, bound mx 0 0 with
    | some _, some _, some _ => cond ((mx.isNone || hi.isSome) && (P.info? elem).isSome) (some .nilslc) none
    | _, _, _ => none
  | _, _ => none

def sliceM (t : TypeId) (x : AVal) (lo hi mx : Option AVal) : M AVal :=
  match P.underlying t, x with
  | some (.array n elem), .ptr b o => match sz P elem with
    | some es => bd (rd b) fun blk => match blk with
      | .cells _ _ N => cond (Nat.ble (o + n * es) N) (lift (sliceA P t (.ptr b o) lo hi mx)) fail
      | _ => fail
    | none => fail
  | _, x => lift (sliceA P t x lo hi mx)
/-! ### built-ins -/
def lenOfA : AVal → Option Nat
  | .slc _ _ n _ _ => some n
  | .nilslc => some 0
  | _ => none
def lenX (d : TypeDesc) (x : AVal) : Option Nat := match d with
  | .int _ => none
  | _ => lenOfA x
def firstA (es : Nat) (n : Nat) : AVal → M (List AVal)
  | .slc b o _ _ es' => cond (Nat.beq es es') (cond (Nat.beq (n * es) 0) (ret []) (loadCellsA b o (n * es))) fail
  | .nilslc => ret []
  | _ => fail
/-- is there room for n more? (true: surely, or nothing is appended) and: is the slice given up? -/
def wayA (cap : Option Nat) (len n : Nat) : Bool × Bool := match cap with
  | some c => (Nat.ble (len + n) c, false)
  | none => (Nat.beq n 0, true)
def killC (b : Nat) (elem : TypeId) : M Unit := bd (rd b) fun blk => match blk with
  | .cells e _ _ => cond (Nat.beq e elem) (kill b) fail
  | _ => fail
def appendA (sT xT : TypeId) (s x : AVal) : M AVal :=
  match P.underlying sT, P.underlying xT with
  | some (.slice elem), some xd => match lenX xd x, zeros P elem 0, bytesOf P elem with
    | some n, some (_, es), some by_ =>
      match s with
      | .nilslc => match n with
        | 0 => ret .nilslc
        | _ + 1 => cond (Nat.ble n 16777216 && Nat.ble by_ 65536) (bd (firstA es n x) fun new => bd (newCells elem new) fun id => ret (.slc id 0 n none es)) fail
      | .slc b o len cap es' =>
        cond (Nat.beq es es') (
          match wayA cap len n with
          | (true, _) => match n with
            | 0 => ret s
            | _ + 1 => bd (firstA es n x) fun new => bd (storeCellsA b (o + len * es) new) fun _ => frcN (len + n) fun l => ret (.slc b o l cap es)
          | (false, dead) =>
            cond (Nat.ble (len + n) 16777216 && Nat.ble by_ 65536) (
              bd (firstA es len s) fun old => bd (firstA es n x) fun new => bd (cond dead (killC b elem) (ret ())) fun _ =>
              bd (newCells elem (old ++ new)) fun id => frcN (len + n) fun l => ret (.slc id 0 l none es)) fail) fail
      | _ => fail
    | _, _, _ => fail
  | _, _ => fail
def copyA (dT : TypeId) (d s : AVal) : M AVal :=
  match P.underlying dT, lenOfA s, lenOfA d with
  | some (.slice elem), some m, some k => match sz P elem with
    | some es => frcN (min m k) fun n => bd (firstA es n s) fun cs =>
      match d with
      | .slc b o _ _ es' => cond (Nat.beq es es') (match n with
        | 0 => ret (.int .i64 0)
        | _ + 1 => bd (storeCellsA b o cs) fun _ => ret (.int .i64 n)) fail
      | _ => ret (.int .i64 n)
    | none => fail
  | _, _, _ => fail
def lenA (t : TypeId) (x : AVal) : M AVal :=
  match P.underlying t, x with
  | some .string, .str s => ret (.int .i64 s.size)
  | some (.array n _), _ => ret (.int .i64 n)
  | some (.slice _), .slc _ _ n _ _ => ret (.int .i64 n)
  | some (.slice _), .nilslc => ret (.int .i64 0)
  | some (.map _ _), .nilmap => ret (.int .i64 0)
  | some (.map _ _), .map b => bd (rd b) fun blk => match blk with
    | .map es _ => frcN es.length fun n => ret (.int .i64 n)
    | _ => fail
  | _, _ => fail
def clearA (t : TypeId) (x : AVal) : M AVal :=
  match P.underlying t, x with
  | some (.slice _), .nilslc => ret .undef
  | some (.slice elem), .slc b o n _ es => match zeros P elem n with
    | some (cs, es') => cond (Nat.beq es es') (match n with
      | 0 => ret .undef
      | _ + 1 => bd (storeCellsA b o cs) fun _ => ret .undef) fail
    | none => fail
  | _, _ => fail
def min2A : AVal → AVal → Option AVal
  | .int k x, .int k' y => cond (intKindEq k k') (some (.int k (cond (ltI y x) y x))) none
  | _, _ => none
def max2A : AVal → AVal → Option AVal
  | .int k x, .int k' y => cond (intKindEq k k') (some (.int k (cond (ltI x y) y x))) none
  | _, _ => none
def foldA (f : AVal → AVal → Option AVal) : AVal → List AVal → Option AVal
  | x, [] => some x
  | x, y :: ys => match f x y with
    | some z => foldA f z ys
    | none => none

/-! ### maps with keys that are numbers, texts or Booleans -/
def keyEq (d : TypeDesc) : AVal → AVal → Option Bool
  | .int k a, .int k' b => match d with | .int _ => cond (intKindEq k k') (some (eqI a b)) none | _ => none
  | .str a, .str b => match d with | .string => some (a == b) | _ => none
  | .bool a, .bool b => match d with | .bool => some (a == b) | _ => none
  | _, _ => none
def findE (d : TypeDesc) (k : AVal) : List AEnt → Nat → Option (Option (Nat × AVal))
  | [], _ => some none
  | e :: es, i => match keyEq d k e.key with
    | some true => some (some (i, e.val))
    | some false => findE d k es (i + 1)
    | none => none
def simpleKey : TypeDesc → AVal → Bool
  | .int _, .int _ _ => true
  | .string, .str _ => true
  | .bool, .bool _ => true
  | _, _ => false
def makeMapA : M AVal := bd (nw (.map [] 0)) fun id => ret (.map id)
def lookupA (t : TypeId) (x k : AVal) (ok : Bool) : M AVal :=
  match P.underlying t with
  | some (.map kt et) => match P.underlying kt, zeroA P et with
    | some kd, some z => cond (simpleKey kd k) (
        bd (match x with
          | .nilmap => ret none
          | .map b => bd (rd b) fun blk => match blk with
            | .map es _ => lift (findE kd k es 0)
            | _ => fail
          | _ => fail) fun r =>
        match r with
        | some (_, v) => ret (cond ok (.tup [v, .bool true]) v)
        | none => ret (cond ok (.tup [z, .bool false]) z)) fail
    | _, _ => fail
  | _ => fail
def modE : List AEnt → Nat → (AEnt → AEnt) → List AEnt
  | [], _, _ => []
  | e :: es, 0, f => f e :: es
  | e :: es, i + 1, f => e :: modE es i f
def mapUpdateA (t : TypeId) (m k v : AVal) : M Unit :=
  match P.underlying t, m with
  | some (.map kt _), .map b => match P.underlying kt with
    | some kd => cond (simpleKey kd k) (bd (rd b) fun blk => match blk with
      | .map es clock => bd (lift (findE kd k es 0)) fun r => match r with
        | some (i, _) => wr b (.map (modE es i fun e => { e with key := k, val := v }) clock)
        | none => frcN clock fun clock => wr b (.map (es ++ [{ key := k, val := v, born := clock }]) (clock + 1))
      | _ => fail) fail
    | none => fail
  | _, _ => fail

/-! ### ranges over maps -/
def rangeA (t : TypeId) (x : AVal) : M AVal :=
  match P.underlying t, x with
  | some (.map _ _), .nilmap => bd (nw (.iter none 0 [] 0)) fun id => ret (.ptr id 0)
  | some (.map _ _), .map b => bd (rd b) fun blk => match blk with
    | .map _ clock => bd (nw (.iter (some b) clock [] clock)) fun id => ret (.ptr id 0)
    | _ => fail
  | _, _ => fail
def memN (n : Nat) : List Nat → Bool
  | [] => false
  | m :: ms => Nat.beq n m || memN n ms
def lastN : List Nat → Option Nat
  | [] => none
  | [n] => some n
  | _ :: ns => lastN ns
def findBorn (n : Nat) : List AEnt → Option AEnt
  | [] => none
  | e :: es => cond (Nat.beq e.born n) (some e) (findBorn n es)
def entryA (x : AVal) : M AVal :=
  match x with
  | .ptr r 0 => bd (rd r) fun blk => match blk with
    | .iter (some m) _ seen stepped => match lastN seen with
      | some stamp => bd (rd m) fun blk => match blk with
        | .map es clock => cond (Nat.beq clock stepped) (match findBorn stamp es with
          | some e => ret (.tup [e.key, e.val])
          | none => fail) fail
        | _ => fail
      | none => fail
    | _ => fail
  | _ => fail
def deleteA (t : TypeId) (m k : AVal) : M AVal :=
  match P.underlying t with
  | some (.map kt _) => match P.underlying kt with
    | some kd => cond (simpleKey kd k) (match m with
      | .nilmap => ret .undef
      | .map b => bd (rd b) fun blk => match blk with
        | .map es clock => bd (lift (findE kd k es 0)) fun r => match r with
          | some (i, _) => bd (wr b (.map (es.eraseIdx i) clock)) fun _ => ret .undef
          | none => bd (wr b (.map es clock)) fun _ => ret .undef
        | _ => fail
      | _ => fail) fail
    | none => fail
  | _ => fail

/-! ### conversions, interfaces -/
def convertA (src dst : TypeId) (x : AVal) : Option AVal :=
  match P.underlying src, P.underlying dst, x with
  | some (.int _), some (.int k), .int _ n => frc (wrapK k n) fun n => some (.int k n)
  | some .string, some .string, .str s => some (.str s)
  | _, _, _ => none
def unaryA (op : UnOp) (x : AVal) : Option AVal :=
  match op, x with
  | .neg, .int k n => arith .sub k 0 n
  | .not, .bool b => some (.bool !b)
  | .xor, .int k n => arith .xor k (if k.signed then -1 else k.max) n
  | _, _ => none
def plainV : AVal → Bool
  | .nilIface | .agg _ | .opq _ => false
  | _ => true
def guardPair (t : TypeId) (x y : Operand) : AVal → AVal → Bool
  | .nilIface, .nilIface => (match x with | .const _ => true | _ => false) || (match y with | .const _ => true | _ => false)
  | .agg _, .agg _ => !P.eqGuardType P.depth t
  | a, b => plainV a || plainV b
def binA (op : BinOp) (t : TypeId) (x y : Operand) (a b : AVal) : Option AVal :=
  match a, b with
  | .int k m, .int k' n => match op with
    | .shl | .shr => shiftA op k m n
    | _ => cond (intKindEq k k') (arith op k m n) none
  | _, _ => match op with
    | .eql => cond (guardPair P t x y a b) ((aEq P 30 t a b).map .bool) none
    | .neq => cond (guardPair P t x y a b) ((aEq P 30 t a b).map fun r => .bool !r) none
    | _ => none
def makeIfaceA (t : TypeId) (x : AVal) : Option AVal :=
  match P.underlying t with
  | some (.interface _) => none
  | some _ => some (.ifc t x)
  | none => none
def typeAssertA (x : AVal) (asserted : TypeId) (ok : Bool) : Option AVal :=
  match P.underlying asserted, x with
  | some (.interface _), _ => none
  | some _, .ifc t v => cond (Nat.beq t asserted) (some (cond ok (.tup [v, .bool true]) v))
      (cond ok (match zeroA P asserted with | some z => some (.tup [z, .bool false]) | none => none) none)
  | some _, .nilIface => cond ok (match zeroA P asserted with | some z => some (.tup [z, .bool false]) | none => none) none
  | _, _ => none
def extractA (x : AVal) (i : Nat) : Option AVal := match x with
  | .tup vs => vs[i]?
  | _ => none
def nilCheckA (x : AVal) : Option AVal := match x with
  | .nilptr | .nilIface | .nilFunc | .opq _ => none
  | .fn (.method _) _ _ => none
  | x => some x

/-! ### calls -/
inductive APl where
  | val (v : AVal)
  | var (b o : Nat)
def APl.get (t : TypeId) : APl → M AVal
  | .val v => ret v
  | .var b o => loadA P t b o
def stepA (s : FieldStep) (x : APl) (t : TypeId) : M (TypeId × APl) :=
  match P.underlying s.struct with
  | some (.struct fields) => match fields[s.index]? with
    | some f => match sz P f.type with
      | some (_ + 1) => cond s.deref
          (bd (x.get P t) fun v => match v with
            | .ptr b o => ret (f.type, .var b (o + f.offset))
            | _ => fail)
          (match x with
            | .var b o => ret (f.type, .var b (o + f.offset))
            | .val (.agg cs) => match aPart P f.type cs f.offset with
              | some v => ret (f.type, .val v)
              | none => fail
            | _ => fail)
      | _ => fail
    | none => fail
  | _ => fail
def followA : List FieldStep → TypeId → APl → M (TypeId × APl)
  | [], t, x => ret (t, x)
  | s :: rest, t, x => bd (stepA P s x t) fun p => followA rest p.1 p.2
def receiverA (xt : TypeId) (x : APl) (ptrRecv : Bool) : M AVal :=
  match P.underlying xt with
  | some (.pointer elem) => cond ptrRecv (x.get P xt) (bd (x.get P xt) fun v => match v with
    | .ptr b o => loadA P elem b o
    | _ => fail)
  | some _ => cond ptrRecv (match x with | .var b o => ret (.ptr b o) | _ => fail) (x.get P xt)
  | none => fail
def methodA (t : TypeId) (v : AVal) (name : String) : M (FuncId × AVal) :=
  match P.info? t with
  | some i => match i.methods.find? (·.name == name) with
    | some m => match m.func with
      | some (f, pr) => bd (followA P m.path.toList t (.val v)) fun p => bd (receiverA P p.1 p.2 pr) fun r => ret (f, r)
      | none => fail
    | none => fail
  | none => fail

inductive ANext where
  | val (v : AVal)
  | enter (f : FuncId) (args : List AVal)
  | round (l : Nat) (args : List AVal)
def isFn (k : FuncId) : Bool := match P.funcs[k]? with
  | some fn => fn.body.isSome
  | none => false
def goA (k : FuncId) (args : List AVal) : M ANext := cond (isFn P k) (ret (.enter k args)) fail
def builtinA (b : Builtin) (ts : List TypeId) (args : List AVal) : M AVal :=
  match b, ts, args with
  | .append, [st, xt], [s, x] => appendA P st xt s x
  | .len, t :: _, [x] => lenA P t x
  | .clear, t :: _, [x] => clearA P t x
  | .min, _, x :: xs => lift (foldA min2A x xs)
  | .max, _, x :: xs => lift (foldA max2A x xs)
  | .copy, t :: _, [d, s] => copyA P t d s
  | .delete, t :: _, [m, k] => deleteA P t m k
  | _, _, _ => fail
def callA (T : Tmps) (c : Call) : M ANext :=
  match evs T c.args.toList with
  | none => fail
  | some args => match c.callee with
    | .builtin b => bd (builtinA P b c.argTypes.toList args) fun v => ret (.val v)
    | .invoke r name => match ev T r with
      | some (.ifc t v) => bd (methodA P t v name) fun p => goA P p.1 (p.2 :: args)
      | _ => fail
    | .value f => match ev T f with
      | some (.fn (.func k) first cap) => goA P k (first ++ args ++ cap)
      | some (.fn (.method name) [.ifc t v] _) => bd (methodA P t v name) fun p => goA P p.1 (p.2 :: args)
      | some (.yield l) => bd (rd l) fun blk => match blk with
        | .loop _ _ _ _ ps _ _ _ => cond (Nat.beq ps.length args.length) (ret (.round l args)) fail
        | _ => fail
      | _ => fail
def opt (T : Tmps) : Option Operand → Option (Option AVal)
  | none => some none
  | some x => match ev T x with
    | some v => some (some v)
    | none => none
/-- one operation -/
def opA (T : Tmps) (o : Op) : M ANext :=
  let v (m : M AVal) : M ANext := bd m fun x => ret (.val x)
  let u (m : M Unit) : M ANext := bd m fun _ => ret (.val .undef)
  let e1 (x : Operand) (k : AVal → M AVal) : M ANext := match ev T x with | some a => v (k a) | none => fail
  let e2 (x y : Operand) (k : AVal → AVal → M AVal) : M ANext := match ev T x, ev T y with | some a, some b => v (k a b) | _, _ => fail
  match o with
  | .move x | .assign x => e1 x ret
  | .pick c a b => match ev T c with
    | some (.bool t) => cond t (e1 a ret) (e1 b ret)
    | _ => fail
  | .alloc t => v (allocA P t)
  | .box t x => e1 x (boxA t)
  | .build t ps => match evParts T ps.toList with | some l => v (lift (buildA P t l)) | none => fail
  | .buildSlice t n ps => match evParts T ps.toList with | some l => v (buildSliceA P t n l) | none => fail
  | .load t a => e1 a fun p => match p with | .ptr b o => loadA P t b o | _ => fail
  | .store t a x => match ev T a, ev T x with | some a, some b => u (storeA P t a b) | _, _ => fail
  | .nilCheck x => e1 x fun a => lift (nilCheckA a)
  | .binOp op t x y _ => e2 x y fun a b => lift (binA P op t x y a b)
  | .unOp op _ x => e1 x fun a => lift (unaryA op a)
  | .convert s d x => e1 x fun a => lift (convertA P s d a)
  | .makeInterface t x => e1 x fun a => lift (makeIfaceA P t a)
  | .makeFunc f first cap => match f with
    | .func _ => match evs T first.toList, evs T cap.toList with
      | some a, some b => ret (.val (.fn f a b))
      | _, _ => fail
    | .method _ => match evs T first.toList, evs T cap.toList with
      | some a, some b => ret (.val (.fn f a b))
      | _, _ => fail
    | _ => fail
  | .makeSlice t l c => e2 l c fun a b => makeSliceA P t a b
  | .slice t x lo hi mx => match ev T x, opt T lo, opt T hi, opt T mx with
    | some x, some lo, some hi, some mx => v (sliceM P t x lo hi mx)
    | _, _, _, _ => fail
  | .fieldAddr s x f => e1 x fun a => lift (fieldAddrA P s a f)
  | .field t x f => e1 x fun a => lift (fieldA P t a f)
  | .indexAddr t x i => e2 x i fun a b => lift (indexAddrA P t a b)
  | .index t x i => e2 x i fun a b => lift (indexA P t a b)
  | .typeAssert x _ a ok => e1 x fun v => lift (typeAssertA P v a ok)
  | .extract x i => e1 x fun v => lift (extractA v i)
  | .makeMap t r => match P.underlying t, opt T r with
    | some (.map _ _), some none => v makeMapA
    | some (.map _ _), some (some (.int _ _)) => v makeMapA
    | _, _ => fail
  | .lookup t x k ok => e2 x k fun a b => lookupA P t a b ok
  | .mapUpdate t m k x => match ev T m, ev T k, ev T x with
    | some m, some k, some x => u (mapUpdateA P t m k x)
    | _, _, _ => fail
  | .range t x => e1 x (rangeA P t)
  | .entry x => e1 x entryA
  | .call c => callA P T c
  | _ => fail

/-- functions that are taken as told: what they do to the abstract memory -/
abbrev Told := FuncId → Option (List AVal → M AVal)
def noExt : Told := fun _ => none
/-! ### code -/
inductive AExit where
  | nrm
  | exit (id : Nat)
  | ret
inductive Task where
  | code (nt : Nat) (rnd : Option Nat) (c : Code) (T : Tmps) (ms : List Nat)
  | call (f : FuncId) (args : List AVal)
  | round (l : Nat) (args : List AVal)
inductive Out where
  | exit (e : AExit) (T : Tmps) (ms : List Nat)
  | val (v : AVal)
def wantedA (ops : List Oper) (T : Tmps) : Option (Nat × Bool) → Option Bool
  | none => some true
  | some (j, w) => match ops[j]? with
    | some o => match o.dst with
      | some d => match T.get d with
        | some (.bool b) => some (b == w)
        | some (.opq _) => none
        | _ => some false
      | none => some false
    | none => some false
def tget' (T : Tmps) (i : Nat) : AVal := match T.get i with | some v => v | none => .undef
def setT (nt : Nat) (T : Tmps) (dst : Option Tmp) (v : AVal) : Option Tmps :=
  match dst with
  | none => some T
  | some d => cond (Nat.blt d nt) (some (T.put d (some v))) none
def outVal (m : M Out) : M AVal := bd m fun o => match o with | .val v => ret v | _ => fail
def nextA (ih : Task → M Out) : ANext → M AVal
  | .val v => ret v
  | .enter f args => outVal (ih (.call f args))
  | .round l args => outVal (ih (.round l args))
/-- what an operation leaves in its slot -/
def valOp (ih : Task → M Out) (all : List Oper) (o : Oper) (T : Tmps) : M AVal :=
  match wantedA all T o.guard with
  | some true => bd (opA P T o.op) (nextA ih)
  | some false => ret .undef
  | none => fail
def oneOp (ih : Task → M Out) (nt : Nat) (all : List Oper) (o : Oper) (T : Tmps) : M Tmps :=
  bd (valOp P ih all o T) fun v => lift (setT nt T o.dst v)
def opsA (ih : Task → M Out) (nt : Nat) (all : List Oper) : List Oper → Tmps → M Tmps
  | [], T => ret T
  | o :: os, T => bd (oneOp P ih nt all o T) fun T => opsA ih nt all os T
/-- the operations that come before each one, as the bits of a number -/
def masks : List Oper → List Nat → List Nat
  | [], acc => acc
  | o :: os, acc => masks os (acc ++ [o.after.toList.foldl (fun s e => cond (Region.binds .any e) (s ||| (2 ^ e.on ||| acc.getD e.on 0)) s) 0])
def clash1 (e : Nat × Bool) : List (Nat × Bool) → Bool
  | [] => false
  | f :: fs => (Nat.beq e.1 f.1 && (e.2 || f.2)) || clash1 e fs
def clash : List (Nat × Bool) → List (Nat × Bool) → Bool
  | [], _ => false
  | e :: es, fs => clash1 e fs || clash es fs
/-- operation 'o', whose mask is 'mk' and whose events are 'es', against those before it (the first of which is number i) -/
def against (all : Array Oper) (o : Oper) (mk : Nat) (es : List (Nat × Bool)) : List (Oper × List (Nat × Bool)) → Nat → Bool
  | [], _ => true
  | p :: ps, i => (Nat.testBit mk i || (Oper.apart all p.1 o && !clash p.2 es)) && against all o mk es ps (i + 1)
def opsD (ih : Task → M Out) (nt : Nat) (all : Array Oper) : List Oper → List Nat → List (Oper × List (Nat × Bool)) → Tmps → M Tmps
  | o :: os, mk :: mks, done, T => bd (capture (oneOp P ih nt all.toList o T)) fun r =>
    cond (against all o mk r.2 done 0) (opsD ih nt all os mks (done ++ [(o, r.2)]) r.1) fail
  | [], _, _, T => ret T
  | _, _, _, _ => fail
def backEdges : List Oper → Nat → Bool
  | [], _ => true
  | o :: os, i => (o.after.toList.all fun e => !Region.binds .any e || Nat.blt e.on i) && backEdges os (i + 1)
def regionOk (ops : List Oper) : Bool := backEdges ops 0 && ops.all fun o => match o.op with | .select .. => false | .defer _ => false | _ => true
def resultsA (T : Tmps) : List ResultVar → M (List AVal)
  | [] => ret []
  | .tmp t :: rs => bd (resultsA T rs) fun vs => ret ((match T.get t with | some v => v | none => .undef) :: vs)
  | .cell a t :: rs => match T.get a with
    | some (.ptr b o) => bd (loadA P t b o) fun v => bd (resultsA T rs) fun vs => ret (v :: vs)
    | _ => fail
def takeMarks : List Nat → M Unit
  | [] => ret ()
  | r :: rs => bd (rd r) fun blk => match blk with
    | .deferred true => bd (wr r (.deferred false)) fun _ => takeMarks rs
    | _ => fail
def setParams (nt : Nat) : Tmps → List Tmp → List AVal → Option Tmps
  | T, [], [] => some T
  | T, p :: ps, v :: vs => cond (Nat.blt p nt) (setParams nt (T.put p (some v)) ps vs) none
  | _, _, _ => none
def enterA (rnd : Option Nat) : M (Nat × List Nat) :=
  match rnd with
  | some l => bd (rd l) fun blk => match blk with
    | .loop _ _ _ _ _ _ _ d => ret (d, [])
    | _ => fail
  | none => bd (nw (.deferred true)) fun r => ret (r, [r])
def oneV : List AVal → AVal
  | [v] => v
  | vs => .tup vs
/-! ### several ways that come together -/
mutual
def eqA : AVal → AVal → Bool
  | .bool a, .bool b => a == b
  | .int k a, .int k' b => intKindEq k k' && eqI a b
  | .str a, .str b => decide (a = b)
  | .ptr b o, .ptr b' o' => Nat.beq b b' && Nat.beq o o'
  | .nilptr, .nilptr => true
  | .slc b o l c e, .slc b' o' l' c' e' => Nat.beq b b' && (Nat.beq o o' && (Nat.beq l l' && ((match c, c' with | none, none => true | some c, some c' => Nat.beq c c' | _, _ => false) && Nat.beq e e')))
  | .nilslc, .nilslc => true
  | .map b, .map b' => Nat.beq b b'
  | .nilmap, .nilmap => true
  | .fn (.func k) a c, .fn (.func k') a' c' => Nat.beq k k' && (eqAs a a' && eqAs c c')
  | .yield l, .yield l' => Nat.beq l l'
  | .nilFunc, .nilFunc => true
  | .ifc t v, .ifc t' v' => Nat.beq t t' && eqA v v'
  | .nilIface, .nilIface => true
  | .agg l, .agg l' => eqAs l l'
  | .tup l, .tup l' => eqAs l l'
  | .opq i, .opq j => Nat.beq i j
  | _, _ => false
def eqAs : List AVal → List AVal → Bool
  | [], [] => true
  | x :: xs, y :: ys => eqA x y && eqAs xs ys
  | _, _ => false
end
mutual
/-- what is known of a value that is the one or the other; '.opq 0': some value of one cell -/
def joinV : AVal → AVal → Option AVal
  | .agg l, .agg l' => (joinVs l l').map .agg
  | .tup l, .tup l' => (joinVs l l').map .tup
  | a, b => cond (eqA a b) (some a) (cond (a.one && b.one) (some (.opq 0)) none)
def joinVs : List AVal → List AVal → Option (List AVal)
  | [], [] => some []
  | x :: xs, y :: ys => match joinV x y, joinVs xs ys with
    | some z, some zs => some (z :: zs)
    | _, _ => none
  | _, _ => none
end
def joinO : Option AVal → Option AVal → Option (Option AVal)
  | none, none => some none
  | some a, some b => (joinV a b).map some
  | _, _ => none
def joinT : Tmps → Tmps → Option Tmps
  | .nil, .nil => some .nil
  | .node v l r, .node v' l' r' => match joinO v v', joinT l l', joinT r r' with
    | some v, some l, some r => some (.node v l r)
    | _, _, _ => none
  | _, _ => none
def meetO : Option AVal → Option AVal → Option AVal
  | some a, some b => cond (a.one && b.one) (joinV a b) none
  | _, _ => none
def meetT : Tmps → Tmps → Tmps
  | .node v l r, .node v' l' r' => .node (meetO v v') (meetT l l') (meetT r r')
  | _, _ => .nil
def eqEs : List AEnt → List AEnt → Bool
  | [], [] => true
  | e :: es, e' :: es' => eqA e.key e'.key && (eqA e.val e'.val && (Nat.beq e.born e'.born && eqEs es es'))
  | _, _ => false
def joinB : ABlk → ABlk → Option ABlk
  | .cells e c n, .cells e' c' n' => cond (Nat.beq e e' && Nat.beq n n') (some (.cells e (meetT c c') n)) none
  | .map es k, .map es' k' => cond (eqEs es es' && Nat.beq k k') (some (.map es k)) none
  | .deferred b, .deferred b' => cond (b == b') (some (.deferred b)) none
  | _, _ => none
/-- what is known of a block behind all ways -/
def joinAt (id : Nat) : ABlk → List AHeap → Option ABlk
  | b, [] => some b
  | b, K :: Ks => match K.blks.get id with
    | some b' => match joinB b b' with
      | some b => joinAt id b Ks
      | none => none
    | none => none
def joinBlks (K : AHeap) (Ks : List AHeap) : List (Nat × Bool) → Tr ABlk → Tr ABlk
  | [], t => t
  | (id, true) :: es, t => joinBlks K Ks es (t.put id (match K.blks.get id with | some b => joinAt id b Ks | none => none))
  | (_, false) :: es, t => joinBlks K Ks es t
def eqE : AExit → AExit → Bool
  | .nrm, .nrm => true
  | .exit i, .exit j => Nat.beq i j
  | .ret, .ret => true
  | _, _ => false
def eqNs : List Nat → List Nat → Bool
  | [], [] => true
  | x :: xs, y :: ys => Nat.beq x y && eqNs xs ys
  | _, _ => false
def joinOuts (e : AExit) (ms : List Nat) : Tmps → List (Out × AHeap) → Option Tmps
  | T, [] => some T
  | T, (.exit e' T' ms', _) :: r => cond (eqE e e' && eqNs ms ms') (match joinT T T' with | some T => joinOuts e ms T r | none => none) none
  | _, _ => none
def maxNext : Nat → List AHeap → Nat
  | n, [] => n
  | n, K :: Ks => cond (Nat.ble n K.next) (maxNext K.next Ks) (maxNext n Ks)
def logs : List AHeap → List (Nat × Bool)
  | [] => []
  | K :: Ks => K.log ++ logs Ks
/-- the ways from memory H on, which began without events -/
def joinAll (H : AHeap) : List (Out × AHeap) → Option (Out × AHeap)
  | [] => none
  | (o, K) :: r => match r with
    | [] => some (o, { K with log := K.log ++ H.log })
    | _ :: _ => match o with
      | .exit e T ms => match joinOuts e ms T r with
        | some T => some (.exit e T ms, { blks := joinBlks K (r.map (·.2)) (logs (K :: r.map (·.2))) H.blks, next := maxNext K.next (r.map (·.2)), lo := H.lo, log := logs (K :: r.map (·.2)) ++ H.log })
        | none => none
      | _ => none

abbrev N (α : Type) := AHeap → Option (List (α × AHeap))
def oneN {α : Type} (m : M α) : N α := fun H => match m H with | none => none | some r => some [r]
def allN {α β : Type} (f : α → N β) : List (α × AHeap) → Option (List (β × AHeap))
  | [] => some []
  | (a, K) :: r => match f a K with
    | none => none
    | some l => match allN f r with
      | none => none
      | some l' => some (l ++ l')
def bdN {α β : Type} (m : N α) (f : α → N β) : N β := fun H => match m H with | none => none | some l => allN f l
def pairH {α : Type} (H : AHeap) : List α → List (α × AHeap)
  | [] => []
  | a :: as => (a, H) :: pairH H as
def eachN {α : Type} (l : List α) : N α := fun H => some (pairH H l)
structure MapStep where
  it : Tmp
  nx : Tmp
  more : Tmp
  rest : Code
def mapStep (b : Code) : Option MapStep := match b with
  | .seq (.region _ ops false) rest => match ops.toList with
    | [⟨some nx, .next (.tmp it) false, _, _, _, none⟩, ⟨some more, .extract (.tmp nx') 0, _, _, _, none⟩] => cond (Nat.beq nx nx') (some ⟨it, nx, more, rest⟩) none
    | _ => none
  | _ => none
def allOld (since : Nat) : List AEnt → Bool
  | [] => true
  | e :: es => Nat.blt e.born since && allOld since es
def leftE (seen : List Nat) : List AEnt → List AEnt
  | [] => []
  | e :: es => cond (memN e.born seen) (leftE seen es) (e :: leftE seen es)
structure IterD where
  b : Nat
  m : Nat
  since : Nat
  seen : List Nat
  clock : Nat
/-- the iterator: what is left -/
def headA (x : AVal) : M (IterD × List AEnt) := match x with
  | .ptr r 0 => bd (rd r) fun blk => match blk with
    | .iter none _ _ _ => ret (⟨r, 0, 0, [], 0⟩, [])
    | .iter (some m) since seen stepped => bd (rd m) fun blk => match blk with
      | .map es clock => cond (Nat.ble since stepped && allOld since es) (ret (⟨r, m, since, seen, clock⟩, leftE seen es)) fail
      | _ => fail
    | _ => fail
  | _ => fail
def turnA (d : IterD) (e : AEnt) : M Unit := wr d.b (.iter (some d.m) d.since (d.seen ++ [e.born]) d.clock)
def mapRounds (ih : Task → M Out) (nt : Nat) (rnd : Option Nat) (s : MapStep) : Nat → Tmps → List Nat → N Out
  | 0, _, _ => fun _ => none
  | k + 1, T, ms => bdN (oneN (headA (tget' T s.it))) fun h => match h.2 with
    | [] => oneN (bd (ih (.code nt rnd s.rest ((T.put s.nx (some (.tup [.bool false]))).put s.more (some (.bool false))) ms)) fun o => match o with
      | .exit .nrm _ _ => fail
      | o => ret o)
    | e :: es => bdN (eachN (e :: es)) fun e => bdN (oneN (bd (turnA h.1 e) fun _ => ih (.code nt rnd s.rest ((T.put s.nx (some (.tup [.bool true, e.key, e.val]))).put s.more (some (.bool true))) ms))) fun o => match o with
      | .exit .nrm T ms => mapRounds ih nt rnd s k T ms
      | o => oneN (ret o)
def mapLoop (ih : Task → M Out) (nt : Nat) (rnd : Option Nat) (s : MapStep) (T : Tmps) (ms : List Nat) : M Out := cond (Nat.blt s.nx nt && Nat.blt s.more nt) (fun H =>
  match mapRounds ih nt rnd s 1000 T ms { H with log := [] } with
  | none => none
  | some L => joinAll H L) fail

def runCode (ih : Task → M Out) (nt : Nat) (rnd : Option Nat) (c : Code) (T : Tmps) (ms : List Nat) : M Out :=
  match c with
  | .skip => ret (.exit .nrm T ms)
  | .region _ ops draw => bd (cond draw (cond (regionOk ops.toList) (opsD P ih nt ops ops.toList (masks ops.toList []) [] T) fail) (opsA P ih nt ops.toList ops.toList T)) fun T => ret (.exit .nrm T ms)
  | .seq a b => bd (ih (.code nt rnd a T ms)) fun o => match o with
    | .exit .nrm T ms => ih (.code nt rnd b T ms)
    | o => ret o
  | .cond c a b => match ev T c with
    | some (.bool t) => ih (.code nt rnd (cond t a b) T ms)
    | _ => fail
  | .block id b => bd (ih (.code nt rnd b T ms)) fun o => match o with
    | .exit (.exit id') T ms => cond (Nat.beq id' id) (ret (.exit .nrm T ms)) (ret (.exit (.exit id') T ms))
    | o => ret o
  | .loop b => match mapStep b with
    | some s => mapLoop ih nt rnd s T ms
    | none => bd (ih (.code nt rnd b T ms)) fun o => match o with
      | .exit .nrm T ms => ih (.code nt rnd (.loop b) T ms)
      | o => ret o
  | .exit id => ret (.exit (.exit id) T ms)
  | .ret => ret (.exit .ret T ms)
  | .rangeFunc f ps assign body => match ev T f with
    | some (.fn (.func k) first cap) => cond (isFn P k) (
      bd (enterA rnd) fun dm => bd (nw (.loop .ready none nt T ps.toList assign body dm.1)) fun l =>
      bd (outVal (ih (.call k (first ++ [.yield l] ++ cap)))) fun _ => bd (rd l) fun blk => match blk with
      | .loop st pend nt' T' ps' as' bo' d' => match st with
        | .busy => fail
        | _ => bd (wr l (.loop .exhausted pend nt' T' ps' as' bo' d')) fun _ => match pend with
          | none => ret (.exit .nrm T (dm.2 ++ ms))
          | some c => ih (.code nt rnd c T (dm.2 ++ ms))
      | _ => fail) fail
    | _ => fail
  | _ => fail
def runCall (ih : Task → M Out) (f : FuncId) (args : List AVal) : M Out :=
  match P.funcs[f]? with
  | some fn => match fn.body with
    | some c => cond (Nat.ble args.length fn.ntmps) (bd (ih (.code fn.ntmps none c (Tr.ofListAt .nil 0 args) [])) fun o => match o with
      | .exit e T ms => match e with
        | .exit _ => fail
        | _ => bd (takeMarks ms) fun _ => bd (resultsA P T fn.results.toList) fun vs => ret (.val (oneV vs))
      | _ => fail) fail
    | none => fail
  | none => fail
def endRoundA (l : Nat) (e : AExit) : M Out := bd (rd l) fun blk => match blk with
  | .loop _ _ a2 a3 a4 a5 a6 a7 => match e with
    | .nrm => bd (wr l (.loop .ready none a2 a3 a4 a5 a6 a7)) fun _ => ret (.val (.bool true))
    | .ret => bd (wr l (.loop .done (some .ret) a2 a3 a4 a5 a6 a7)) fun _ => ret (.val (.bool false))
    | .exit id => bd (wr l (.loop .done (some (.exit id)) a2 a3 a4 a5 a6 a7)) fun _ => ret (.val (.bool false))
  | _ => fail
def beginA (l : Nat) : M Unit := bd (rd l) fun blk => match blk with
  | .loop .ready pd a2 a3 a4 a5 a6 a7 => wr l (.loop .busy pd a2 a3 a4 a5 a6 a7)
  | _ => fail
def runRound (ih : Task → M Out) (l : Nat) (args : List AVal) : M Out :=
  bd (rd l) fun blk => match blk with
  | .loop _ _ nt T ps assign body _ => match setParams nt T ps args with
    | some T => bd (ih (.code nt (some l) assign T [])) fun o => match o with
      | .exit .nrm T [] => bd (beginA l) fun _ => bd (ih (.code nt (some l) body T [])) fun o => match o with
          | .exit e _ _ => endRoundA l e
          | _ => fail
      | _ => fail
    | none => fail
  | _ => fail
def runStep (X : Told) (ih : Task → M Out) : Task → M Out
  | .code nt rnd c T ms => runCode P ih nt rnd c T ms
  | .call f args => match X f with
    | some g => bd (g args) fun v => ret (.val v)
    | none => runCall P ih f args
  | .round l args => runRound ih l args
def run (X : Told) : Nat → Task → M Out
  | 0, _ => fail
  | n + 1, t => runStep P X (run X n) t
end
end Go.AM
