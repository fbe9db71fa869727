/- Part A1 of the proof: see the last part. -/
import Derived.RangeFuncLeaves
import Derived.RangeFuncIn
import Derived.Orders
import Derived.WalkKit
import Derived.ChangeKeysEq
import Derived.MapKept
namespace Go.AM
open Go

/-! ### tries: finite maps from numbers -/
inductive Tr (α : Type) where
  | nil : Tr α
  | node : Option α → Tr α → Tr α → Tr α

namespace Tr
variable {α : Type}
def get : Tr α → Nat → Option α
  | .nil, _ => none
  | .node v l r, i =>
    match i with
    | 0 => v
    | j + 1 => cond (Nat.beq (j % 2) 0) (l.get (j / 2)) (r.get (j / 2))
def setF : Nat → Tr α → Nat → Option α → Tr α
  | 0, t, _, _ => t
  | f + 1, t, i, x =>
    match t, i with
    | .nil, 0 => .node x .nil .nil
    | .nil, j + 1 => cond (Nat.beq (j % 2) 0) (.node none (setF f .nil (j / 2) x) .nil) (.node none .nil (setF f .nil (j / 2) x))
    | .node _ l r, 0 => .node x l r
    | .node v l r, j + 1 => cond (Nat.beq (j % 2) 0) (.node v (setF f l (j / 2) x) r) (.node v l (setF f r (j / 2) x))
def put (t : Tr α) (i : Nat) (x : Option α) : Tr α := setF (i + 1) t i x
def set (t : Tr α) (i : Nat) (x : α) : Tr α := put t i (some x)
def ofListAt (t : Tr α) (i : Nat) : List α → Tr α
  | [] => t
  | x :: xs => ofListAt (t.set i x) (i + 1) xs
/-- every entry passes; 'a + m * index' is the key -/
def allB (p : Nat → α → Bool) : Tr α → Nat → Nat → Bool
  | .nil, _, _ => true
  | .node v l r, a, m => (match v with | some x => p a x | none => true) && (l.allB p (a + m) (2 * m) && r.allB p (a + 2 * m) (2 * m))
end Tr

/-! ### forced numbers -/
def frcN {β : Type} (n : Nat) (k : Nat → β) : β := match n with | 0 => k 0 | m + 1 => k (m + 1)
def frc {β : Type} (n : Int) (k : Int → β) : β :=
  match n with
  | .ofNat a => frcN a fun a => k (.ofNat a)
  | .negSucc a => frcN a fun a => k (.negSucc a)
def ltI : Int → Int → Bool
  | .ofNat a, .ofNat b => Nat.blt a b
  | .ofNat _, .negSucc _ => false
  | .negSucc _, .ofNat _ => true
  | .negSucc a, .negSucc b => Nat.blt b a
def eqI : Int → Int → Bool
  | .ofNat a, .ofNat b => Nat.beq a b
  | .negSucc a, .negSucc b => Nat.beq a b
  | _, _ => false
/-- wrapping at modulus m; h: where the negative numbers begin (m: none) -/
def wrapM (m h : Nat) : Int → Int
  | .ofNat a => cond (Nat.blt a h) (.ofNat a) (let r := a % m; cond (Nat.blt r h) (.ofNat r) (.negSucc (m - r - 1)))
  | .negSucc a => let r := m - 1 - a % m; cond (Nat.blt r h) (.ofNat r) (.negSucc (m - r - 1))
def wrapK : IntKind → Int → Int
  | .i8 => wrapM 256 128
  | .i16 => wrapM 65536 32768
  | .i32 => wrapM 4294967296 2147483648
  | .i64 => wrapM 18446744073709551616 9223372036854775808
  | .u8 => wrapM 256 256
  | .u16 => wrapM 65536 65536
  | .u32 => wrapM 4294967296 4294967296
  | .u64 => wrapM 18446744073709551616 18446744073709551616

/-! ### values -/
inductive AVal where
  | bool (b : Bool)
  | int (k : IntKind) (n : Int)
  | str (s : ByteArray)
  | ptr (b o : Nat)
  | nilptr
  | slc (b o len : Nat) (cap : Option Nat) (es : Nat)
  | nilslc
  | map (b : Nat)
  | nilmap
  | fn (f : Fn) (first captured : List AVal)
  | yield (l : Nat)
  | nilFunc
  | ifc (t : TypeId) (v : AVal)
  | nilIface
  | agg (cs : List AVal)
  | tup (vs : List AVal)
  | opq (i : Nat)
  deriving Inhabited
def AVal.undef : AVal := .tup []
def AVal.cells : AVal → List AVal
  | .agg cs => cs
  | v => [v]
def AVal.one : AVal → Bool
  | .agg _ | .tup _ => false
  | _ => true

abbrev Tmps := Tr AVal
/-- what is still to be done when a function is left: the mark of a range over a function, a call -/
inductive Mk where
  | mark (r : Nat)
  | call (k : FuncId) (args : List AVal)

structure AEnt where
  key : AVal
  val : AVal
  born : Nat

inductive ABlk where
  | cells (elem : TypeId) (c : Tr AVal) (n : Nat)
  | map (es : List AEnt) (clock : Nat)
  | loop (st : LoopState) (pending : Option Code) (nt : Nat) (T : Tmps) (params : List Tmp) (assign body : Code) (defers : Nat)
  | deferred (some : Bool)
  | iter (m : Option Nat) (since : Nat) (seen : List Nat) (stepped : Nat)
  | one (v : AVal)
  /-- a variable of a package that is only read -/
  | glob (g : Nat) (v : AVal)

/-- Abstract memory: the blocks, the next free number, the first number that may be written, and the events (true: written), the last one first. -/
structure AHeap where
  blks : Tr ABlk
  next : Nat
  lo : Nat
  log : List (Nat × Bool)

abbrev M (α : Type) := AHeap → Option (α × AHeap)
def ret {α : Type} (a : α) : M α := fun H => some (a, H)
def bd {α β : Type} (m : M α) (f : α → M β) : M β := fun H => match m H with | none => none | some (a, H') => f a H'
def fail {α : Type} : M α := fun _ => none
def lift {α : Type} (o : Option α) : M α := fun H => match o with | none => none | some a => some (a, H)
def rd (id : Nat) : M ABlk := fun H => match H.blks.get id with | none => none | some b => some (b, { H with log := (id, false) :: H.log })
def wr (id : Nat) (b : ABlk) : M Unit := fun H =>
  cond (Nat.ble H.lo id) (match H.blks.get id with | none => none | some _ => some ((), { H with blks := H.blks.put id (some b), log := (id, true) :: H.log })) none
def kill (id : Nat) : M Unit := fun H =>
  cond (Nat.ble H.lo id) (match H.blks.get id with | none => none | some _ => some ((), { H with blks := H.blks.put id none, log := (id, true) :: H.log })) none
def nw (b : ABlk) : M Nat := fun H => frcN H.next fun n =>
  cond (Nat.ble H.lo n) (some (n, { H with blks := H.blks.put n (some b), next := n + 1, log := (n, true) :: H.log })) none
/-- the events of one piece of work -/
def capture {α : Type} (m : M α) : M (α × List (Nat × Bool)) := fun H => match m { H with log := [] } with
  | none => none
  | some (a, H') => some ((a, H'.log), { H' with log := H'.log ++ H.log })

/-! ### operands -/
def ofV : Nat → Value → Option AVal
  | _, .bool b => some (.bool b)
  | _, .int k n => some (.int k n)
  | _, .string s => some (.str s)
  | _, .pointer none => some .nilptr
  | _, .slice none 0 0 => some .nilslc
  | _, .map none => some .nilmap
  | _, .nilFunc => some .nilFunc
  | _, .nilIface => some .nilIface
  | d + 1, .agg cs => (cs.toList.mapM (ofV d)).map .agg
  | d + 1, .tuple cs => (cs.toList.mapM (ofV d)).map .tup
  | _, _ => none
def ev (T : Tmps) : Operand → Option AVal
  | .tmp t => match T.get t with | some v => some v | none => some .undef
  | .const v => ofV 2 v
  | .func f => some (.fn (.func f) [] [])
  | .global _ => none
def evs (T : Tmps) : List Operand → Option (List AVal)
  | [] => some []
  | x :: xs => match ev T x with
    | none => none
    | some v => match evs T xs with
      | none => none
      | some vs => some (v :: vs)

section
variable (P : Program)

/-! ### types -/
def sz (t : TypeId) : Option Nat := match P.info? t with | some i => some i.size | none => none
def isAggT (t : TypeId) : Option Bool := match P.underlying t with
  | some (.struct _) => some true
  | some (.array _ _) => some true
  | some _ => some false
  | none => none
def zeroA (t : TypeId) : Option AVal := match P.info? t with
  | some i => match i.zero with | some v => ofV 2 v | none => none
  | none => none
def aPart (t : TypeId) (cs : List AVal) (off : Nat) : Option AVal :=
  match isAggT P t with
  | some true => match sz P t with
    | some n => cond (Nat.ble (off + n) cs.length) (some (.agg ((cs.drop off).take n))) none
    | none => none
  | some false => cs[off]?
  | none => none

/-! ### numbers -/
def arith (op : BinOp) (k : IntKind) (x y : Int) : Option AVal :=
  let r (n : Int) : Option AVal := frc n fun n => some (.int k n)
  match op with
  | .add => r (wrapK k (x + y))
  | .sub => r (wrapK k (x - y))
  | .mul => r (wrapK k (x * y))
  | .quo => cond (eqI y 0) none (r (wrapK k (x.tdiv y)))
  | .rem => cond (eqI y 0) none (r (x.tmod y))
  | .and => r (wrapK k ((BitVec.ofInt k.bits x &&& BitVec.ofInt k.bits y).toNat : Nat))
  | .or => r (wrapK k ((BitVec.ofInt k.bits x ||| BitVec.ofInt k.bits y).toNat : Nat))
  | .xor => r (wrapK k ((BitVec.ofInt k.bits x ^^^ BitVec.ofInt k.bits y).toNat : Nat))
  | .andNot => r (wrapK k ((BitVec.ofInt k.bits x &&& ~~~(BitVec.ofInt k.bits y)).toNat : Nat))
  | .eql => some (.bool (eqI x y))
  | .neq => some (.bool (!eqI x y))
  | .lss => some (.bool (ltI x y))
  | .leq => some (.bool (!ltI y x))
  | .gtr => some (.bool (ltI y x))
  | .geq => some (.bool (!ltI x y))
  | _ => none
def shiftA (op : BinOp) (k : IntKind) (x y : Int) : Option AVal :=
  match y with
  | .negSucc _ => none
  | .ofNat m =>
    let n := min m k.bits
    match op with
    | .shl => frc (wrapK k (x * ((2 ^ n : Nat) : Int))) fun n => some (.int k n)
    | .shr => frc (x.fdiv ((2 ^ n : Nat) : Int)) fun n => some (.int k n)
    | _ => none
def intKindEq : IntKind → IntKind → Bool
  | .i8, .i8 | .i16, .i16 | .i32, .i32 | .i64, .i64 | .u8, .u8 | .u16, .u16 | .u32, .u32 | .u64, .u64 => true
  | _, _ => false

def eqFields (eq : TypeId → AVal → AVal → Option Bool) (xs ys : List AVal) : List Field → Option Bool
  | [] => some true
  | f :: fs =>
    cond (f.name == "_") (eqFields eq xs ys fs)
      (match aPart P f.type xs f.offset, aPart P f.type ys f.offset with
      | some x, some y => match eq f.type x y with
        | some true => eqFields eq xs ys fs
        | some false => some false
        | none => none
      | _, _ => none)
def eqElems (eq : TypeId → AVal → AVal → Option Bool) (elem : TypeId) (n : Nat) (xs ys : List AVal) : Nat → Nat → Option Bool
  | 0, _ => some true
  | len + 1, i =>
    match aPart P elem xs (i * n), aPart P elem ys (i * n) with
    | some x, some y => match eq elem x y with
      | some true => eqElems eq elem n xs ys len (i + 1)
      | some false => some false
      | none => none
    | _, _ => none
def aEq : Nat → TypeId → AVal → AVal → Option Bool
  | 0, _, _, _ => none
  | d + 1, t, x, y =>
    match P.underlying t, x, y with
    | some .bool, .bool a, .bool b => some (a == b)
    | some (.int _), .int k a, .int k' b => cond (intKindEq k k') (some (eqI a b)) none
    | some .string, .str a, .str b => some (a == b)
    | some (.pointer _), .nilptr, .nilptr => some true
    | some (.pointer _), .nilptr, .ptr _ _ => some false
    | some (.pointer _), .ptr _ _, .nilptr => some false
    | some (.interface _), .nilIface, .nilIface => some true
    | some (.interface _), .nilIface, .ifc _ _ => some false
    | some (.interface _), .ifc _ _, .nilIface => some false
    | some (.struct fields), .agg xs, .agg ys => cond (P.stoodInHeld t) none (eqFields P (aEq d) xs ys fields.toList)
    | some (.array len elem), .agg xs, .agg ys => match sz P elem with
      | some n => eqElems P (aEq d) elem n xs ys len 0
      | none => none
    | some (.slice _), .nilslc, .nilslc => some true
    | some (.slice _), .nilslc, .slc _ _ _ _ _ => some false
    | some (.slice _), .slc _ _ _ _ _, .nilslc => some false
    | some (.map _ _), .nilmap, .nilmap => some true
    | some (.map _ _), .nilmap, .map _ => some false
    | some (.map _ _), .map _, .nilmap => some false
    | some (.func _ _ _), .nilFunc, .nilFunc => some true
    | some (.func _ _ _), .nilFunc, .fn _ _ _ => some false
    | some (.func _ _ _), .fn _ _ _, .nilFunc => some false
    | _, _, _ => none
end
end Go.AM
namespace Go.AM
open Go

section
variable (P : Program)

/-! ### memory -/
def cellsAt (c : Tr AVal) : Nat → Nat → Option (List AVal)
  | _, 0 => some []
  | o, n + 1 => match c.get o with
    | none => none
    | some v => match cellsAt c (o + 1) n with
      | none => none
      | some vs => some (v :: vs)
def allOne : List AVal → Bool
  | [] => true
  | v :: vs => v.one && allOne vs
def newCells (elem : TypeId) (cs : List AVal) : M Nat :=
  cond (allOne cs) (nw (.cells elem (Tr.ofListAt .nil 0 cs) cs.length)) fail
def allocA (elem : TypeId) : M AVal :=
  match zeroA P elem with
  | some z => bd (newCells elem z.cells) fun id => ret (.ptr id 0)
  | none => fail
def boxA (elem : TypeId) (v : AVal) : M AVal := bd (newCells elem v.cells) fun id => ret (.ptr id 0)
def loadCellsA (b o n : Nat) : M (List AVal) := bd (rd b) fun blk =>
  match blk with
  | .cells _ c _ => lift (cellsAt c o n)
  | _ => fail
def loadA (t : TypeId) (b o : Nat) : M AVal :=
  match isAggT P t with
  | some true => match sz P t with
    | some n => bd (loadCellsA b o n) fun l => ret (.agg l)
    | none => fail
  | some false => bd (rd b) fun blk => match blk with
    | .cells _ c _ => lift (c.get o)
    | _ => fail
  | none => fail
def gloadA (t : TypeId) (g : Nat) : M AVal := bd (rd g) fun blk => match blk with
  | .glob g' v => cond (Nat.beq g g') (match isAggT P t with
    | some true => match v with
      | .agg l => match sz P t with
        | some n => cond (Nat.beq n l.length) (ret v) fail
        | none => fail
      | _ => fail
    | some false => cond v.one (ret v) fail
    | none => fail) fail
  | _ => fail
def storeCellsA (b o : Nat) (vs : List AVal) : M Unit := bd (rd b) fun blk =>
  match blk with
  | .cells e c n => cond (Nat.ble (o + vs.length) n && allOne vs) (wr b (.cells e (Tr.ofListAt c o vs) n)) fail
  | _ => fail
def storeA (t : TypeId) (p v : AVal) : M Unit :=
  match p with
  | .ptr b o => match sz P t with
    | some n => cond (Nat.beq v.cells.length n) (storeCellsA b o v.cells) fail
    | none => fail
  | _ => fail

/-! ### building -/
def setRange (cs : List AVal) (off : Nat) (vs : List AVal) : List AVal := cs.take off ++ vs ++ cs.drop (off + vs.length)
def fillA (place : Nat → Option (Nat × Nat)) (cells : List AVal) : List (Nat × AVal) → Option (List AVal)
  | [] => some cells
  | (i, v) :: rest =>
    match place i with
    | none => none
    | some (off, size) => cond (Nat.beq v.cells.length size && Nat.ble (off + v.cells.length) cells.length) (fillA place (setRange cells off v.cells) rest) none
def evParts (T : Tmps) : List (Nat × Operand) → Option (List (Nat × AVal))
  | [] => some []
  | (i, x) :: r => match ev T x, evParts T r with
    | some v, some l => some ((i, v) :: l)
    | _, _ => none
def placeOf (fields : List Field) (i : Nat) : Option (Nat × Nat) := match fields[i]? with
  | some f => match sz P f.type with
    | some n => some (f.offset, n)
    | none => none
  | none => none
def buildA (t : TypeId) (parts : List (Nat × AVal)) : Option AVal :=
  match zeroA P t, P.underlying t with
  | some z, some (.struct fields) => cond (fields.toList.all fun f => (sz P f.type).isSome) ((fillA (placeOf P fields.toList) z.cells parts).map .agg) none
  | some z, some (.array _ elem) => match sz P elem with
    | some n => (fillA (fun i => some (i * n, n)) z.cells parts).map .agg
    | none => none
  | _, _ => none
def repl (n : Nat) (z : List AVal) : List AVal := match n with
  | 0 => []
  | n + 1 => z ++ repl n z
/-- n elements of type 'elem', all zero; how many cells one has -/
def zeros (elem : TypeId) (n : Nat) : Option (List AVal × Nat) :=
  match zeroA P elem, sz P elem with
  | some z, some es => cond (Nat.beq z.cells.length es) (some (repl n z.cells, es)) none
  | _, _ => none
def buildSliceA (t : TypeId) (len : Nat) (parts : List (Nat × AVal)) : M AVal :=
  match P.underlying t with
  | some (.slice elem) => match zeros P elem len with
    | some (cs, es) => cond (Nat.ble (len * es) 16777216) (match fillA (fun i => some (i * es, es)) cs parts with
      | some cs => bd (newCells elem cs) fun id => ret (.slc id 0 len (some len) es)
      | none => fail) fail
    | none => fail
  | _ => fail
def bytesOf (t : TypeId) : Option Nat := match P.info? t with | some i => some i.bytes | none => none
def nat? : AVal → Option Nat
  | .int _ (.ofNat n) => some n
  | _ => none
def makeSliceA (t : TypeId) (l c : AVal) : M AVal :=
  match P.underlying t, nat? l, nat? c with
  | some (.slice elem), some l, some c => match zeros P elem c, bytesOf P elem with
    | some (cs, es), some by_ => cond (Nat.ble l c && (Nat.ble c 4294967296 && Nat.ble by_ 32768)) (bd (newCells elem cs) fun id => frcN l fun l => frcN c fun c => ret (.slc id 0 l (some c) es)) fail
    | _, _ => fail
  | _, _, _ => fail

/-! ### addresses -/
def fieldAddrA (s : TypeId) (x : AVal) (f : Nat) : Option AVal :=
  match P.underlying s, x with
  | some (.struct fields), .ptr b o => match fields[f]? with
    | some fd => match sz P fd.type with
      | some (_ + 1) => frcN (o + fd.offset) fun q => some (.ptr b q)
      | _ => none
    | none => none
  | _, _ => none
def fieldA (t : TypeId) (x : AVal) (f : Nat) : Option AVal :=
  match P.underlying t, x with
  | some (.struct fields), .agg cs => match fields[f]? with
    | some fd => aPart P fd.type cs fd.offset
    | none => none
  | _, _ => none
def indexAddrA (t : TypeId) (x i : AVal) : Option AVal :=
  match P.underlying t, x, nat? i with
  | some (.array len elem), .ptr b o, some i => match sz P elem with
    | some n => cond (Nat.blt i len) (frcN (o + i * n) fun q => some (.ptr b q)) none
    | none => none
  | some (.slice elem), .slc b o len _ es, some i => match sz P elem with
    | some n => cond (Nat.blt i len && Nat.beq n es) (frcN (o + i * n) fun q => some (.ptr b q)) none
    | none => none
  | _, _, _ => none
def indexA (t : TypeId) (x i : AVal) : Option AVal :=
  match P.underlying t, x, nat? i with
  | some (.array len elem), .agg cs, some i => match sz P elem with
    | some n => cond (Nat.blt i len) (aPart P elem cs (i * n)) none
    | none => none
  | some .string, .str s, some i => match s[i]? with
    | some b => frcN b.toNat fun n => some (.int .u8 n)
    | none => none
  | _, _, _ => none
/-- an optional bound: its value, or the default; at most 'y' -/
def bound (x : Option AVal) (dflt y : Nat) : Option Nat :=
  match x with
  | none => some dflt
  | some v => match nat? v with
    | some n => cond (Nat.ble n y) (some n) none
    | none => none
def sliceA (t : TypeId) (x : AVal) (lo hi mx : Option AVal) : Option AVal :=
  match P.underlying t, x with
  | some (.array n elem), .ptr b o =>
    match sz P elem, bound mx n n with
    | some es, some m => match bound hi n m with
      | some h => match bound lo 0 h with
        | some l => cond (mx.isNone || hi.isSome) (frcN (o + l * es) fun q => frcN (h - l) fun len => frcN (m - l) fun c => some (.slc b q len (some c) es)) none
        | none => none
      | none => none
    | _, _ => none
  | some (.slice elem), .slc b o len cap es =>
    match sz P elem, bound mx (cap.getD len) (cap.getD len) with
    | some es', some m => match bound hi len m with
      | some h => match bound lo 0 h with
        | some l => cond ((mx.isNone || hi.isSome) && Nat.beq es es') (frcN (o + l * es) fun q => frcN (h - l) fun len =>
            match cap, mx with
            | none, none => some (.slc b q len none es)
            | _, _ => frcN (m - l) fun c => some (.slc b q len (some c) es)) none
        | none => none
      | none => none
    | _, _ => none
  | some (.slice elem), .nilslc => match bound lo 0 0, bound hi 0 0, bound mx 0 0 with
    | some _, some _, some _ => cond ((mx.isNone || hi.isSome) && (P.info? elem).isSome) (some .nilslc) none
    | _, _, _ => none
  | _, _ => none

def sliceM (t : TypeId) (x : AVal) (lo hi mx : Option AVal) : M AVal :=
  match P.underlying t, x with
  | some (.array n elem), .ptr b o => match sz P elem with
    | some es => bd (rd b) fun blk => match blk with
      | .cells _ _ N => cond (Nat.ble (o + n * es) N) (lift (sliceA P t (.ptr b o) lo hi mx)) fail
      | _ => fail
    | none => fail
  | _, x => lift (sliceA P t x lo hi mx)
/-! ### built-ins -/
def lenOfA : AVal → Option Nat
  | .slc _ _ n _ _ => some n
  | .nilslc => some 0
  | _ => none
def lenX (d : TypeDesc) (x : AVal) : Option Nat := match d with
  | .int _ => none
  | _ => lenOfA x
def firstA (es : Nat) (n : Nat) : AVal → M (List AVal)
  | .slc b o _ _ es' => cond (Nat.beq es es') (cond (Nat.beq (n * es) 0) (ret []) (loadCellsA b o (n * es))) fail
  | .nilslc => ret []
  | _ => fail
/-- is there room for n more? (true: surely, or nothing is appended) and: is the slice given up? -/
def wayA (cap : Option Nat) (len n : Nat) : Bool × Bool := match cap with
  | some c => (Nat.ble (len + n) c, false)
  | none => (Nat.beq n 0, true)
def killC (b : Nat) (elem : TypeId) : M Unit := bd (rd b) fun blk => match blk with
  | .cells e _ _ => cond (Nat.beq e elem) (kill b) fail
  | _ => fail
def appendA (sT xT : TypeId) (s x : AVal) : M AVal :=
  match P.underlying sT, P.underlying xT with
  | some (.slice elem), some xd => match lenX xd x, zeros P elem 0, bytesOf P elem with
    | some n, some (_, es), some by_ =>
      match s with
      | .nilslc => match n with
        | 0 => ret .nilslc
        | _ + 1 => cond (Nat.ble n 16777216 && Nat.ble by_ 65536) (bd (firstA es n x) fun new => bd (newCells elem new) fun id => ret (.slc id 0 n none es)) fail
      | .slc b o len cap es' =>
        cond (Nat.beq es es') (
          match wayA cap len n with
          | (true, _) => match n with
            | 0 => ret s
            | _ + 1 => bd (firstA es n x) fun new => bd (storeCellsA b (o + len * es) new) fun _ => frcN (len + n) fun l => ret (.slc b o l cap es)
          | (false, dead) =>
            cond (Nat.ble (len + n) 16777216 && Nat.ble by_ 65536) (
              bd (firstA es len s) fun old => bd (firstA es n x) fun new => bd (cond dead (killC b elem) (ret ())) fun _ =>
              bd (newCells elem (old ++ new)) fun id => frcN (len + n) fun l => ret (.slc id 0 l none es)) fail) fail
      | _ => fail
    | _, _, _ => fail
  | _, _ => fail
def copyA (dT : TypeId) (d s : AVal) : M AVal :=
  match P.underlying dT, lenOfA s, lenOfA d with
  | some (.slice elem), some m, some k => match sz P elem with
    | some es => frcN (min m k) fun n => bd (firstA es n s) fun cs =>
      match d with
      | .slc b o _ _ es' => cond (Nat.beq es es') (match n with
        | 0 => ret (.int .i64 0)
        | _ + 1 => bd (storeCellsA b o cs) fun _ => ret (.int .i64 n)) fail
      | _ => ret (.int .i64 n)
    | none => fail
  | _, _, _ => fail
def lenA (t : TypeId) (x : AVal) : M AVal :=
  match P.underlying t, x with
  | some .string, .str s => ret (.int .i64 s.size)
  | some (.array n _), _ => ret (.int .i64 n)
  | some (.slice _), .slc _ _ n _ _ => ret (.int .i64 n)
  | some (.slice _), .nilslc => ret (.int .i64 0)
  | some (.map _ _), .nilmap => ret (.int .i64 0)
  | some (.map _ _), .map b => bd (rd b) fun blk => match blk with
    | .map es _ => frcN es.length fun n => ret (.int .i64 n)
    | _ => fail
  | _, _ => fail
def clearA (t : TypeId) (x : AVal) : M AVal :=
  match P.underlying t, x with
  | some (.slice _), .nilslc => ret .undef
  | some (.slice elem), .slc b o n _ es => match zeros P elem n with
    | some (cs, es') => cond (Nat.beq es es') (match n with
      | 0 => ret .undef
      | _ + 1 => bd (storeCellsA b o cs) fun _ => ret .undef) fail
    | none => fail
  | _, _ => fail
def min2A : AVal → AVal → Option AVal
  | .int k x, .int k' y => cond (intKindEq k k') (some (.int k (cond (ltI y x) y x))) none
  | _, _ => none
def max2A : AVal → AVal → Option AVal
  | .int k x, .int k' y => cond (intKindEq k k') (some (.int k (cond (ltI x y) y x))) none
  | _, _ => none
def foldA (f : AVal → AVal → Option AVal) : AVal → List AVal → Option AVal
  | x, [] => some x
  | x, y :: ys => match f x y with
    | some z => foldA f z ys
    | none => none

/-! ### maps with keys that are numbers, texts or Booleans -/
def keyEq (d : TypeDesc) : AVal → AVal → Option Bool
  | .int k a, .int k' b => match d with | .int _ => cond (intKindEq k k') (some (eqI a b)) none | _ => none
  | .str a, .str b => match d with | .string => some (a == b) | _ => none
  | .bool a, .bool b => match d with | .bool => some (a == b) | _ => none
  | _, _ => none
/-- keys that are made of numbers, texts and Booleans: the same -/
def sameL (f : AVal → AVal → Bool) : List AVal → List AVal → Bool
  | [], [] => true
  | x :: xs, y :: ys => f x y && sameL f xs ys
  | _, _ => false
def sameP : Nat → AVal → AVal → Bool
  | _ + 1, .bool a, .bool b => a == b
  | _ + 1, .int k a, .int k' b => intKindEq k k' && eqI a b
  | _ + 1, .str a, .str b => a == b
  | n + 1, .agg a, .agg b => sameL (sameP n) a b
  | _, _, _ => false
def aggD : TypeDesc → Bool
  | .array _ _ => true
  | .struct _ => true
  | _ => false
def keyEqT (kt : TypeId) (d : TypeDesc) (k e : AVal) : Option Bool := match aggD d with
  | false => keyEq d k e
  | true => match aEq P 30 kt k e with
    | some true => cond (sameP 10 k e) (some true) none
    | r => r
def findE (kt : TypeId) (d : TypeDesc) (k : AVal) : List AEnt → Nat → Option (Option (Nat × AVal))
  | [], _ => some none
  | e :: es, i => match keyEqT P kt d k e.key with
    | some true => some (some (i, e.val))
    | some false => findE kt d k es (i + 1)
    | none => none
def keyElems (ck : TypeId → AVal → Bool) (e : TypeId) (c : Nat) (cs : List AVal) : Nat → Nat → Bool
  | 0, _ => true
  | n + 1, i => match aPart P e cs (i * c) with
    | some x => ck e x && keyElems ck e c cs n (i + 1)
    | none => false
def keyFields (ck : TypeId → AVal → Bool) (cs : List AVal) : List Field → Bool
  | [] => true
  | f :: fs => cond (f.name == "_") (keyFields ck cs fs) (match aPart P f.type cs f.offset with
    | some x => ck f.type x && keyFields ck cs fs
    | none => false)
def keyOkT : Nat → TypeId → AVal → Bool
  | 0, _, _ => false
  | n + 1, t, v => match P.underlying t, v with
    | some (.int _), .int _ _ => true
    | some .string, .str _ => true
    | some .bool, .bool _ => true
    | some (.array len e), .agg cs => match sz P e with
      | some c => keyElems P (keyOkT n) e c cs len 0
      | none => false
    | some (.struct fs), .agg cs => keyFields P (keyOkT n) cs fs.toList
    | _, _ => false
def makeMapA : M AVal := bd (nw (.map [] 0)) fun id => ret (.map id)
def lookupA (t : TypeId) (x k : AVal) (ok : Bool) : M AVal :=
  match P.underlying t with
  | some (.map kt et) => match P.underlying kt, zeroA P et with
    | some kd, some z => cond (keyOkT P 10 kt k) (
        bd (match x with
          | .nilmap => ret none
          | .map b => bd (rd b) fun blk => match blk with
            | .map es _ => lift (findE P kt kd k es 0)
            | _ => fail
          | _ => fail) fun r =>
        match r with
        | some (_, v) => ret (cond ok (.tup [v, .bool true]) v)
        | none => ret (cond ok (.tup [z, .bool false]) z)) fail
    | _, _ => fail
  | _ => fail
def modE : List AEnt → Nat → (AEnt → AEnt) → List AEnt
  | [], _, _ => []
  | e :: es, 0, f => f e :: es
  | e :: es, i + 1, f => e :: modE es i f
def mapUpdateA (t : TypeId) (m k v : AVal) : M Unit :=
  match P.underlying t, m with
  | some (.map kt _), .map b => match P.underlying kt with
    | some kd => cond (keyOkT P 10 kt k) (bd (rd b) fun blk => match blk with
      | .map es clock => bd (lift (findE P kt kd k es 0)) fun r => match r with
        | some (i, _) => wr b (.map (modE es i fun e => { e with key := k, val := v }) clock)
        | none => frcN clock fun clock => wr b (.map (es ++ [{ key := k, val := v, born := clock }]) (clock + 1))
      | _ => fail) fail
    | none => fail
  | _, _ => fail

/-! ### ranges over maps -/
def rangeA (t : TypeId) (x : AVal) : M AVal :=
  match P.underlying t, x with
  | some (.map _ _), .nilmap => bd (nw (.iter none 0 [] 0)) fun id => ret (.ptr id 0)
  | some (.map _ _), .map b => bd (rd b) fun blk => match blk with
    | .map _ clock => bd (nw (.iter (some b) clock [] clock)) fun id => ret (.ptr id 0)
    | _ => fail
  | _, _ => fail
def hasN (n : Nat) : List Nat → Bool
  | [] => false
  | m :: ms => Nat.beq n m || hasN n ms
def lastN : List Nat → Option Nat
  | [] => none
  | [n] => some n
  | _ :: ns => lastN ns
def findBorn (n : Nat) : List AEnt → Option AEnt
  | [] => none
  | e :: es => cond (Nat.beq e.born n) (some e) (findBorn n es)
def entryA (x : AVal) : M AVal :=
  match x with
  | .ptr r 0 => bd (rd r) fun blk => match blk with
    | .iter (some m) _ seen stepped => match lastN seen with
      | some stamp => bd (rd m) fun blk => match blk with
        | .map es clock => cond (Nat.beq clock stepped) (match findBorn stamp es with
          | some e => ret (.tup [e.key, e.val])
          | none => fail) fail
        | _ => fail
      | none => fail
    | _ => fail
  | _ => fail
def deleteA (t : TypeId) (m k : AVal) : M AVal :=
  match P.underlying t with
  | some (.map kt _) => match P.underlying kt with
    | some kd => cond (keyOkT P 10 kt k) (match m with
      | .nilmap => ret .undef
      | .map b => bd (rd b) fun blk => match blk with
        | .map es clock => bd (lift (findE P kt kd k es 0)) fun r => match r with
          | some (i, _) => bd (wr b (.map (es.eraseIdx i) clock)) fun _ => ret .undef
          | none => bd (wr b (.map es clock)) fun _ => ret .undef
        | _ => fail
      | _ => fail) fail
    | none => fail
  | _ => fail

/-! ### conversions, interfaces -/
def convertA (src dst : TypeId) (x : AVal) : Option AVal :=
  match P.underlying src, P.underlying dst, x with
  | some (.int _), some (.int k), .int _ n => frc (wrapK k n) fun n => some (.int k n)
  | some .string, some .string, .str s => some (.str s)
  | _, _, _ => none
def unaryA (op : UnOp) (x : AVal) : Option AVal :=
  match op, x with
  | .neg, .int k n => arith .sub k 0 n
  | .not, .bool b => some (.bool !b)
  | .xor, .int k n => arith .xor k (if k.signed then -1 else k.max) n
  | _, _ => none
def plainV : AVal → Bool
  | .nilIface | .agg _ | .opq _ => false
  | _ => true
def guardPair (t : TypeId) (x y : Operand) : AVal → AVal → Bool
  | .nilIface, .nilIface => (match x with | .const _ => true | _ => false) || (match y with | .const _ => true | _ => false)
  | .agg _, .agg _ => !P.eqGuardType P.depth t
  | a, b => plainV a || plainV b
def binA (op : BinOp) (t : TypeId) (x y : Operand) (a b : AVal) : Option AVal :=
  match a, b with
  | .int k m, .int k' n => match op with
    | .shl | .shr => shiftA op k m n
    | _ => cond (intKindEq k k') (arith op k m n) none
  | _, _ => match op with
    | .eql => cond (guardPair P t x y a b) ((aEq P 30 t a b).map .bool) none
    | .neq => cond (guardPair P t x y a b) ((aEq P 30 t a b).map fun r => .bool !r) none
    | _ => none
def makeIfaceA (t : TypeId) (x : AVal) : Option AVal :=
  match P.underlying t with
  | some (.interface _) => none
  | some _ => some (.ifc t x)
  | none => none
def typeAssertA (x : AVal) (asserted : TypeId) (ok : Bool) : Option AVal :=
  match P.underlying asserted, x with
  | some (.interface _), _ => none
  | some _, .ifc t v => cond (Nat.beq t asserted) (some (cond ok (.tup [v, .bool true]) v))
      (cond ok (match zeroA P asserted with | some z => some (.tup [z, .bool false]) | none => none) none)
  | some _, .nilIface => cond ok (match zeroA P asserted with | some z => some (.tup [z, .bool false]) | none => none) none
  | _, _ => none
def extractA (x : AVal) (i : Nat) : Option AVal := match x with
  | .tup vs => vs[i]?
  | _ => none
def nilCheckA (x : AVal) : Option AVal := match x with
  | .nilptr | .nilIface | .nilFunc | .opq _ => none
  | .fn (.method _) _ _ => none
  | x => some x

/-! ### calls -/
inductive APl where
  | val (v : AVal)
  | var (b o : Nat)
def APl.get (t : TypeId) : APl → M AVal
  | .val v => ret v
  | .var b o => loadA P t b o
def stepA (s : FieldStep) (x : APl) (t : TypeId) : M (TypeId × APl) :=
  match P.underlying s.struct with
  | some (.struct fields) => match fields[s.index]? with
    | some f => match sz P f.type with
      | some (_ + 1) => cond s.deref
          (bd (x.get P t) fun v => match v with
            | .ptr b o => ret (f.type, .var b (o + f.offset))
            | _ => fail)
          (match x with
            | .var b o => ret (f.type, .var b (o + f.offset))
            | .val (.agg cs) => match aPart P f.type cs f.offset with
              | some v => ret (f.type, .val v)
              | none => fail
            | _ => fail)
      | _ => fail
    | none => fail
  | _ => fail
def followA : List FieldStep → TypeId → APl → M (TypeId × APl)
  | [], t, x => ret (t, x)
  | s :: rest, t, x => bd (stepA P s x t) fun p => followA rest p.1 p.2
def receiverA (xt : TypeId) (x : APl) (ptrRecv : Bool) : M AVal :=
  match P.underlying xt with
  | some (.pointer elem) => cond ptrRecv (x.get P xt) (bd (x.get P xt) fun v => match v with
    | .ptr b o => loadA P elem b o
    | _ => fail)
  | some _ => cond ptrRecv (match x with | .var b o => ret (.ptr b o) | _ => fail) (x.get P xt)
  | none => fail
def methodA (t : TypeId) (v : AVal) (name : String) : M (FuncId × AVal) :=
  match P.info? t with
  | some i => match i.methods.find? (·.name == name) with
    | some m => match m.func with
      | some (f, pr) => bd (followA P m.path.toList t (.val v)) fun p => bd (receiverA P p.1 p.2 pr) fun r => ret (f, r)
      | none => fail
    | none => fail
  | none => fail

inductive ANext where
  | val (v : AVal)
  | enter (f : FuncId) (args : List AVal)
  | round (l : Nat) (args : List AVal)
def isFn (k : FuncId) : Bool := match P.funcs[k]? with
  | some fn => fn.body.isSome
  | none => false
def goA (k : FuncId) (args : List AVal) : M ANext := cond (isFn P k) (ret (.enter k args)) fail
def builtinA (b : Builtin) (ts : List TypeId) (args : List AVal) : M AVal :=
  match b, ts, args with
  | .append, [st, xt], [s, x] => appendA P st xt s x
  | .len, t :: _, [x] => lenA P t x
  | .clear, t :: _, [x] => clearA P t x
  | .min, _, x :: xs => lift (foldA min2A x xs)
  | .max, _, x :: xs => lift (foldA max2A x xs)
  | .copy, t :: _, [d, s] => copyA P t d s
  | .delete, t :: _, [m, k] => deleteA P t m k
  | _, _, _ => fail
def callA (T : Tmps) (c : Call) : M ANext :=
  match evs T c.args.toList with
  | none => fail
  | some args => match c.callee with
    | .builtin b => bd (builtinA P b c.argTypes.toList args) fun v => ret (.val v)
    | .invoke r name => match ev T r with
      | some (.ifc t v) => bd (methodA P t v name) fun p => goA P p.1 (p.2 :: args)
      | _ => fail
    | .value f => match ev T f with
      | some (.fn (.func k) first cap) => goA P k (first ++ args ++ cap)
      | some (.fn (.method name) [.ifc t v] _) => bd (methodA P t v name) fun p => goA P p.1 (p.2 :: args)
      | some (.yield l) => bd (rd l) fun blk => match blk with
        | .loop _ _ _ _ ps _ _ _ => cond (Nat.beq ps.length args.length) (ret (.round l args)) fail
        | _ => fail
      | _ => fail
def opt (T : Tmps) : Option Operand → Option (Option AVal)
  | none => some none
  | some x => match ev T x with
    | some v => some (some v)
    | none => none
/-- one operation -/
def s2apA (t : TypeId) (x : AVal) : Option AVal := match P.underlying t, x with
  | some (.array n _), .slc b o len _ _ => cond (Nat.ble n len && Nat.blt 0 len) (some (.ptr b o)) none
  | _, _ => none
def opA (T : Tmps) (o : Op) : M ANext :=
  let v (m : M AVal) : M ANext := bd m fun x => ret (.val x)
  let u (m : M Unit) : M ANext := bd m fun _ => ret (.val .undef)
  let e1 (x : Operand) (k : AVal → M AVal) : M ANext := match ev T x with | some a => v (k a) | none => fail
  let e2 (x y : Operand) (k : AVal → AVal → M AVal) : M ANext := match ev T x, ev T y with | some a, some b => v (k a b) | _, _ => fail
  match o with
  | .move x | .assign x => e1 x ret
  | .pick c a b => match ev T c with
    | some (.bool t) => cond t (e1 a ret) (e1 b ret)
    | _ => fail
  | .alloc t => v (allocA P t)
  | .box t x => e1 x (boxA t)
  | .build t ps => match evParts T ps.toList with | some l => v (lift (buildA P t l)) | none => fail
  | .buildSlice t n ps => match evParts T ps.toList with | some l => v (buildSliceA P t n l) | none => fail
  | .load t a => match a with
    | .global g => v (gloadA P t g)
    | a => e1 a fun p => match p with | .ptr b o => loadA P t b o | _ => fail
  | .store t a x => match ev T a, ev T x with | some a, some b => u (storeA P t a b) | _, _ => fail
  | .nilCheck x => e1 x fun a => lift (nilCheckA a)
  | .binOp op t x y _ => e2 x y fun a b => lift (binA P op t x y a b)
  | .unOp op _ x => e1 x fun a => lift (unaryA op a)
  | .convert s d x => e1 x fun a => lift (convertA P s d a)
  | .makeInterface t x => e1 x fun a => lift (makeIfaceA P t a)
  | .makeFunc f first cap => match f with
    | .func _ => match evs T first.toList, evs T cap.toList with
      | some a, some b => ret (.val (.fn f a b))
      | _, _ => fail
    | .method _ => match evs T first.toList, evs T cap.toList with
      | some a, some b => ret (.val (.fn f a b))
      | _, _ => fail
    | _ => fail
  | .sliceToArrayPointer t x => e1 x fun a => lift (s2apA P t a)
  | .makeSlice t l c => e2 l c fun a b => makeSliceA P t a b
  | .slice t x lo hi mx => match ev T x, opt T lo, opt T hi, opt T mx with
    | some x, some lo, some hi, some mx => v (sliceM P t x lo hi mx)
    | _, _, _, _ => fail
  | .fieldAddr s x f => e1 x fun a => lift (fieldAddrA P s a f)
  | .field t x f => e1 x fun a => lift (fieldA P t a f)
  | .indexAddr t x i => e2 x i fun a b => lift (indexAddrA P t a b)
  | .index t x i => e2 x i fun a b => lift (indexA P t a b)
  | .typeAssert x _ a ok => e1 x fun v => lift (typeAssertA P v a ok)
  | .extract x i => e1 x fun v => lift (extractA v i)
  | .makeMap t r => match P.underlying t, opt T r with
    | some (.map _ _), some none => v makeMapA
    | some (.map _ _), some (some (.int _ _)) => v makeMapA
    | _, _ => fail
  | .lookup t x k ok => e2 x k fun a b => lookupA P t a b ok
  | .mapUpdate t m k x => match ev T m, ev T k, ev T x with
    | some m, some k, some x => u (mapUpdateA P t m k x)
    | _, _, _ => fail
  | .insert t m k x => match ev T m, ev T k, ev T x with
    | some m, some k, some x => u (mapUpdateA P t m k x)
    | _, _, _ => fail
  | .range t x => e1 x (rangeA P t)
  | .entry x => e1 x entryA
  | .call c => callA P T c
  | _ => fail

/-- functions that are taken as told: what they do to the abstract memory -/
abbrev Told := FuncId → Option (List AVal → M AVal)
def noExt : Told := fun _ => none
/-! ### code -/
inductive AExit where
  | nrm
  | exit (id : Nat)
  | ret
inductive Task where
  | code (nt : Nat) (rnd : Option Nat) (c : Code) (T : Tmps) (ms : List Mk)
  | call (f : FuncId) (args : List AVal)
  | round (l : Nat) (args : List AVal)
inductive Out where
  | exit (e : AExit) (T : Tmps) (ms : List Mk)
  | val (v : AVal)
def wantedA (ops : List Oper) (T : Tmps) : Option (Nat × Bool) → Option Bool
  | none => some true
  | some (j, w) => match ops[j]? with
    | some o => match o.dst with
      | some d => match T.get d with
        | some (.bool b) => some (b == w)
        | some (.opq _) => none
        | _ => some false
      | none => some false
    | none => some false
def tget' (T : Tmps) (i : Nat) : AVal := match T.get i with | some v => v | none => .undef
def setT (nt : Nat) (T : Tmps) (dst : Option Tmp) (v : AVal) : Option Tmps :=
  match dst with
  | none => some T
  | some d => cond (Nat.blt d nt) (some (T.put d (some v))) none
def outVal (m : M Out) : M AVal := bd m fun o => match o with | .val v => ret v | _ => fail
def nextA (ih : Task → M Out) : ANext → M AVal
  | .val v => ret v
  | .enter f args => outVal (ih (.call f args))
  | .round l args => outVal (ih (.round l args))
/-- what an operation leaves in its slot -/
def valOp (ih : Task → M Out) (all : List Oper) (o : Oper) (T : Tmps) : M AVal :=
  match wantedA all T o.guard with
  | some true => bd (opA P T o.op) (nextA ih)
  | some false => ret .undef
  | none => fail
def oneOp (ih : Task → M Out) (nt : Nat) (all : List Oper) (o : Oper) (T : Tmps) : M Tmps :=
  bd (valOp P ih all o T) fun v => lift (setT nt T o.dst v)
def opsA (ih : Task → M Out) (nt : Nat) (all : List Oper) : List Oper → Tmps → M Tmps
  | [], T => ret T
  | o :: os, T => bd (oneOp P ih nt all o T) fun T => opsA ih nt all os T
/-- the operations that come before each one, as the bits of a number -/
def masks : List Oper → List Nat → List Nat
  | [], acc => acc
  | o :: os, acc => masks os (acc ++ [o.after.toList.foldl (fun s e => cond (Region.binds .any e) (s ||| (2 ^ e.on ||| acc.getD e.on 0)) s) 0])
def clash1 (e : Nat × Bool) : List (Nat × Bool) → Bool
  | [] => false
  | f :: fs => (Nat.beq e.1 f.1 && (e.2 || f.2)) || clash1 e fs
def clash : List (Nat × Bool) → List (Nat × Bool) → Bool
  | [], _ => false
  | e :: es, fs => clash1 e fs || clash es fs
/-- operation 'o', whose mask is 'mk' and whose events are 'es', against those before it (the first of which is number i) -/
def against (all : Array Oper) (o : Oper) (mk : Nat) (es : List (Nat × Bool)) : List (Oper × List (Nat × Bool)) → Nat → Bool
  | [], _ => true
  | p :: ps, i => (Nat.testBit mk i || (Oper.apart all p.1 o && !clash p.2 es)) && against all o mk es ps (i + 1)
def opsD (ih : Task → M Out) (nt : Nat) (all : Array Oper) : List Oper → List Nat → List (Oper × List (Nat × Bool)) → Tmps → M Tmps
  | o :: os, mk :: mks, done, T => bd (capture (oneOp P ih nt all.toList o T)) fun r =>
    cond (against all o mk r.2 done 0) (opsD ih nt all os mks (done ++ [(o, r.2)]) r.1) fail
  | [], _, _, T => ret T
  | _, _, _, _ => fail
def backEdges : List Oper → Nat → Bool
  | [], _ => true
  | o :: os, i => (o.after.toList.all fun e => !Region.binds .any e || Nat.blt e.on i) && backEdges os (i + 1)
def regionOk (ops : List Oper) : Bool := backEdges ops 0 && ops.all fun o => match o.op with | .select .. => false | .defer _ => false | _ => true
def resultsA (T : Tmps) : List ResultVar → M (List AVal)
  | [] => ret []
  | .tmp t :: rs => bd (resultsA T rs) fun vs => ret ((match T.get t with | some v => v | none => .undef) :: vs)
  | .cell a t :: rs => match T.get a with
    | some (.ptr b o) => bd (loadA P t b o) fun v => bd (resultsA T rs) fun vs => ret (v :: vs)
    | _ => fail
/-- a first word 'recover()' of a deferred function: where its value goes, and the rest -/
def recTop (c : Code) : Option (Tmp × Code) := match c with
  | .seq (.region _ ops false) rest => match ops.toList with
    | [⟨some t, .call ⟨.builtin .recover, ⟨[]⟩, _⟩, _, _, _, none⟩] => some (t, rest)
    | _ => none
  | _ => none
def defCode (fn : Func) (T : Tmps) (c : Code) : Option (Code × Tmps) := match recTop c with
  | some (t, rest) => cond (Nat.blt t fn.ntmps) (some (rest, T.put t (some .nilIface))) none
  | none => some (c, T)
def quietEnd : Out → M Unit
  | .exit .nrm _ [] => ret ()
  | .exit .ret _ [] => ret ()
  | _ => fail
/-- a deferred call, while the function returns -/
def runDef (ih : Task → M Out) (k : FuncId) (args : List AVal) : M Unit :=
  match P.funcs[k]? with
  | some fn => match fn.body, fn.results.toList with
    | some c, [] => cond (Nat.ble args.length fn.ntmps) (match defCode fn (Tr.ofListAt .nil 0 args) c with
      | some p => bd (ih (.code fn.ntmps none p.1 p.2 [])) quietEnd
      | none => fail) fail
    | _, _ => fail
  | none => fail
def takeMarks (ih : Task → M Out) : List Mk → M Unit
  | [] => ret ()
  | .mark r :: rs => bd (rd r) fun blk => match blk with
    | .deferred true => bd (wr r (.deferred false)) fun _ => takeMarks ih rs
    | _ => fail
  | .call k args :: rs => bd (runDef P ih k args) fun _ => takeMarks ih rs
/-- a statement 'defer': the operations ahead of it, and the call -/
def deferOf : List Oper → Option (List Oper × Call)
  | [] => none
  | o :: os => match os with
    | [] => match o with
      | ⟨none, .defer c, _, _, _, none⟩ => some ([], c)
      | _ => none
    | _ :: _ => match deferOf os with
      | some p => some (o :: p.1, p.2)
      | none => none
def deferA (T : Tmps) (c : Call) : Option Mk := match c.callee with
  | .value f => match evs T c.args.toList, ev T f with
    | some as', some (.fn (.func k) first cap) => cond (isFn P k) (some (.call k (first ++ as' ++ cap))) none
    | _, _ => none
  | _ => none
def setParams (nt : Nat) : Tmps → List Tmp → List AVal → Option Tmps
  | T, [], [] => some T
  | T, p :: ps, v :: vs => cond (Nat.blt p nt) (setParams nt (T.put p (some v)) ps vs) none
  | _, _, _ => none
def enterA (rnd : Option Nat) : M (Nat × List Nat) :=
  match rnd with
  | some l => bd (rd l) fun blk => match blk with
    | .loop _ _ _ _ _ _ _ d => ret (d, [])
    | _ => fail
  | none => bd (nw (.deferred true)) fun r => ret (r, [r])
def oneV : List AVal → AVal
  | [v] => v
  | vs => .tup vs
/-! ### several ways that come together -/
def eqFn : Fn → Fn → Bool
  | .func k, .func k' => Nat.beq k k'
  | f, f' => decide (f = f')
mutual
def eqA : AVal → AVal → Bool
  | .bool a, .bool b => a == b
  | .int k a, .int k' b => intKindEq k k' && eqI a b
  | .str a, .str b => decide (a = b)
  | .ptr b o, .ptr b' o' => Nat.beq b b' && Nat.beq o o'
  | .nilptr, .nilptr => true
  | .slc b o l c e, .slc b' o' l' c' e' => Nat.beq b b' && (Nat.beq o o' && (Nat.beq l l' && ((match c, c' with | none, none => true | some c, some c' => Nat.beq c c' | _, _ => false) && Nat.beq e e')))
  | .nilslc, .nilslc => true
  | .map b, .map b' => Nat.beq b b'
  | .nilmap, .nilmap => true
  | .fn f a c, .fn f' a' c' => eqFn f f' && (eqAs a a' && eqAs c c')
  | .yield l, .yield l' => Nat.beq l l'
  | .nilFunc, .nilFunc => true
  | .ifc t v, .ifc t' v' => Nat.beq t t' && eqA v v'
  | .nilIface, .nilIface => true
  | .agg l, .agg l' => eqAs l l'
  | .tup l, .tup l' => eqAs l l'
  | .opq i, .opq j => Nat.beq i j
  | _, _ => false
def eqAs : List AVal → List AVal → Bool
  | [], [] => true
  | x :: xs, y :: ys => eqA x y && eqAs xs ys
  | _, _ => false
end
mutual
/-- what is known of a value that is the one or the other; '.opq 0': some value of one cell -/
def joinV : AVal → AVal → Option AVal
  | .agg l, .agg l' => (joinVs l l').map .agg
  | .tup l, .tup l' => (joinVs l l').map .tup
  | a, b => cond (eqA a b) (some a) (cond (a.one && b.one) (some (.opq 0)) none)
def joinVs : List AVal → List AVal → Option (List AVal)
  | [], [] => some []
  | x :: xs, y :: ys => match joinV x y, joinVs xs ys with
    | some z, some zs => some (z :: zs)
    | _, _ => none
  | _, _ => none
end
def joinO : Option AVal → Option AVal → Option (Option AVal)
  | none, none => some none
  | a, b => (joinV (a.getD .undef) (b.getD .undef)).map some
/-- (nothing was put into the slots of the one) -/
def joinL : Tmps → Option Tmps
  | .nil => some .nil
  | .node v l r => match joinO none v, joinL l, joinL r with
    | some v, some l, some r => some (.node v l r)
    | _, _, _ => none
def joinR : Tmps → Option Tmps
  | .nil => some .nil
  | .node v l r => match joinO v none, joinR l, joinR r with
    | some v, some l, some r => some (.node v l r)
    | _, _, _ => none
def joinT : Tmps → Tmps → Option Tmps
  | .nil, t => joinL t
  | t, .nil => joinR t
  | .node v l r, .node v' l' r' => match joinO v v', joinT l l', joinT r r' with
    | some v, some l, some r => some (.node v l r)
    | _, _, _ => none
def meetO : Option AVal → Option AVal → Option AVal
  | some a, some b => cond (a.one && b.one) (joinV a b) none
  | _, _ => none
def meetT : Tmps → Tmps → Tmps
  | .node v l r, .node v' l' r' => .node (meetO v v') (meetT l l') (meetT r r')
  | _, _ => .nil
def eqEs : List AEnt → List AEnt → Bool
  | [], [] => true
  | e :: es, e' :: es' => eqA e.key e'.key && (eqA e.val e'.val && (Nat.beq e.born e'.born && eqEs es es'))
  | _, _ => false
def joinB : ABlk → ABlk → Option ABlk
  | .cells e c n, .cells e' c' n' => cond (Nat.beq e e' && Nat.beq n n') (some (.cells e (meetT c c') n)) none
  | .map es k, .map es' k' => cond (eqEs es es' && Nat.beq k k') (some (.map es k)) none
  | .deferred b, .deferred b' => cond (b == b') (some (.deferred b)) none
  | _, _ => none
/-- what is known of a block behind all ways -/
def joinAt (id : Nat) : ABlk → List AHeap → Option ABlk
  | b, [] => some b
  | b, K :: Ks => match K.blks.get id with
    | some b' => match joinB b b' with
      | some b => joinAt id b Ks
      | none => none
    | none => none
def joinBlks (K : AHeap) (Ks : List AHeap) : List (Nat × Bool) → Tr ABlk → Tr ABlk
  | [], t => t
  | (id, true) :: es, t => joinBlks K Ks es (t.put id (match K.blks.get id with | some b => joinAt id b Ks | none => none))
  | (_, false) :: es, t => joinBlks K Ks es t
def eqE : AExit → AExit → Bool
  | .nrm, .nrm => true
  | .exit i, .exit j => Nat.beq i j
  | .ret, .ret => true
  | _, _ => false
def eqMs : List Mk → List Mk → Bool
  | [], [] => true
  | .mark x :: xs, .mark y :: ys => Nat.beq x y && eqMs xs ys
  | .call k a :: xs, .call k' a' :: ys => Nat.beq k k' && (eqAs a a' && eqMs xs ys)
  | _, _ => false
def joinOuts (e : AExit) (ms : List Mk) : Tmps → List (Out × AHeap) → Option Tmps
  | T, [] => some T
  | T, (.exit e' T' ms', _) :: r => cond (eqE e e' && eqMs ms ms') (match joinT T T' with | some T => joinOuts e ms T r | none => none) none
  | _, _ => none
def maxNext : Nat → List AHeap → Nat
  | n, [] => n
  | n, K :: Ks => cond (Nat.ble n K.next) (maxNext K.next Ks) (maxNext n Ks)
def logs : List AHeap → List (Nat × Bool)
  | [] => []
  | K :: Ks => K.log ++ logs Ks
/-- the ways from memory H on, which began without events -/
def joinAll (H : AHeap) : List (Out × AHeap) → Option (Out × AHeap)
  | [] => none
  | (o, K) :: r => match r with
    | [] => some (o, { K with log := K.log ++ H.log })
    | _ :: _ => match o with
      | .exit e T ms => match joinOuts e ms T r with
        | some T => some (.exit e T ms, { blks := joinBlks K (r.map (·.2)) (logs (K :: r.map (·.2))) H.blks, next := maxNext K.next (r.map (·.2)), lo := H.lo, log := logs (K :: r.map (·.2)) ++ H.log })
        | none => none
      | _ => none

abbrev N (α : Type) := AHeap → Option (List (α × AHeap))
def oneN {α : Type} (m : M α) : N α := fun H => match m H with | none => none | some r => some [r]
def allN {α β : Type} (f : α → N β) : List (α × AHeap) → Option (List (β × AHeap))
  | [] => some []
  | (a, K) :: r => match f a K with
    | none => none
    | some l => match allN f r with
      | none => none
      | some l' => some (l ++ l')
def bdN {α β : Type} (m : N α) (f : α → N β) : N β := fun H => match m H with | none => none | some l => allN f l
def pairH {α : Type} (H : AHeap) : List α → List (α × AHeap)
  | [] => []
  | a :: as => (a, H) :: pairH H as
def eachN {α : Type} (l : List α) : N α := fun H => some (pairH H l)
structure MapStep where
  it : Tmp
  nx : Tmp
  more : Tmp
  rest : Code
def mapStep (b : Code) : Option MapStep := match b with
  | .seq (.region _ ops false) rest => match ops.toList with
    | [⟨some nx, .next (.tmp it) false, _, _, _, none⟩, ⟨some more, .extract (.tmp nx') 0, _, _, _, none⟩] => cond (Nat.beq nx nx') (some ⟨it, nx, more, rest⟩) none
    | _ => none
  | _ => none
def allOld (since : Nat) : List AEnt → Bool
  | [] => true
  | e :: es => Nat.blt e.born since && allOld since es
def leftE (seen : List Nat) : List AEnt → List AEnt
  | [] => []
  | e :: es => cond (hasN e.born seen) (leftE seen es) (e :: leftE seen es)
structure IterD where
  b : Nat
  m : Nat
  since : Nat
  seen : List Nat
  clock : Nat
/-- the iterator: what is left -/
def headA (x : AVal) : M (IterD × List AEnt) := match x with
  | .ptr r 0 => bd (rd r) fun blk => match blk with
    | .iter none _ _ _ => ret (⟨r, 0, 0, [], 0⟩, [])
    | .iter (some m) since seen stepped => bd (rd m) fun blk => match blk with
      | .map es clock => cond (Nat.ble since stepped && allOld since es) (ret (⟨r, m, since, seen, clock⟩, leftE seen es)) fail
      | _ => fail
    | _ => fail
  | _ => fail
def turnA (d : IterD) (e : AEnt) : M Unit := wr d.b (.iter (some d.m) d.since (d.seen ++ [e.born]) d.clock)
def mapRounds (ih : Task → M Out) (nt : Nat) (rnd : Option Nat) (s : MapStep) : Nat → Tmps → List Mk → N Out
  | 0, _, _ => fun _ => none
  | k + 1, T, ms => bdN (oneN (headA (tget' T s.it))) fun h => match h.2 with
    | [] => oneN (bd (ih (.code nt rnd s.rest ((T.put s.nx (some (.tup [.bool false]))).put s.more (some (.bool false))) ms)) fun o => match o with
      | .exit .nrm _ _ => fail
      | o => ret o)
    | e :: es => bdN (eachN (e :: es)) fun e => bdN (oneN (bd (turnA h.1 e) fun _ => ih (.code nt rnd s.rest ((T.put s.nx (some (.tup [.bool true, e.key, e.val]))).put s.more (some (.bool true))) ms))) fun o => match o with
      | .exit .nrm T ms => mapRounds ih nt rnd s k T ms
      | o => oneN (ret o)
def mapLoop (ih : Task → M Out) (nt : Nat) (rnd : Option Nat) (s : MapStep) (T : Tmps) (ms : List Mk) : M Out := cond (Nat.blt s.nx nt && Nat.blt s.more nt) (fun H =>
  match mapRounds ih nt rnd s 1000 T ms { H with log := [] } with
  | none => none
  | some L => joinAll H L) fail

def runCode (ih : Task → M Out) (nt : Nat) (rnd : Option Nat) (c : Code) (T : Tmps) (ms : List Mk) : M Out :=
  match c with
  | .skip => ret (.exit .nrm T ms)
  | .region _ ops draw => match cond draw none (deferOf ops.toList) with
    | some p => match rnd with
      | none => bd (opsA P ih nt ops.toList p.1 T) fun T => match deferA P T p.2 with
        | some m => ret (.exit .nrm T (m :: ms))
        | none => fail
      | some _ => fail
    | none => bd (cond draw (cond (regionOk ops.toList) (opsD P ih nt ops ops.toList (masks ops.toList []) [] T) fail) (opsA P ih nt ops.toList ops.toList T)) fun T => ret (.exit .nrm T ms)
  | .seq a b => bd (ih (.code nt rnd a T ms)) fun o => match o with
    | .exit .nrm T ms => ih (.code nt rnd b T ms)
    | o => ret o
  | .cond c a b => match ev T c with
    | some (.bool t) => ih (.code nt rnd (cond t a b) T ms)
    | _ => fail
  | .block id b => bd (ih (.code nt rnd b T ms)) fun o => match o with
    | .exit (.exit id') T ms => cond (Nat.beq id' id) (ret (.exit .nrm T ms)) (ret (.exit (.exit id') T ms))
    | o => ret o
  | .loop b => match mapStep b with
    | some s => mapLoop ih nt rnd s T ms
    | none => bd (ih (.code nt rnd b T ms)) fun o => match o with
      | .exit .nrm T ms => ih (.code nt rnd (.loop b) T ms)
      | o => ret o
  | .exit id => ret (.exit (.exit id) T ms)
  | .ret => ret (.exit .ret T ms)
  | .rangeFunc f ps assign body => match ev T f with
    | some (.fn (.func k) first cap) => cond (isFn P k) (
      bd (enterA rnd) fun dm => bd (nw (.loop .ready none nt T ps.toList assign body dm.1)) fun l =>
      bd (outVal (ih (.call k (first ++ [.yield l] ++ cap)))) fun _ => bd (rd l) fun blk => match blk with
      | .loop st pend nt' T' ps' as' bo' d' => match st with
        | .busy => fail
        | _ => bd (wr l (.loop .exhausted pend nt' T' ps' as' bo' d')) fun _ => match pend with
          | none => ret (.exit .nrm T (dm.2.map .mark ++ ms))
          | some c => ih (.code nt rnd c T (dm.2.map .mark ++ ms))
      | _ => fail) fail
    | _ => fail
  | _ => fail
def runCall (ih : Task → M Out) (f : FuncId) (args : List AVal) : M Out :=
  match P.funcs[f]? with
  | some fn => match fn.body with
    | some c => cond (Nat.ble args.length fn.ntmps) (bd (ih (.code fn.ntmps none c (Tr.ofListAt .nil 0 args) [])) fun o => match o with
      | .exit e T ms => match e with
        | .exit _ => fail
        | _ => bd (takeMarks P ih ms) fun _ => bd (resultsA P T fn.results.toList) fun vs => ret (.val (oneV vs))
      | _ => fail) fail
    | none => fail
  | none => fail
def endRoundA (l : Nat) (e : AExit) : M Out := bd (rd l) fun blk => match blk with
  | .loop _ _ a2 a3 a4 a5 a6 a7 => match e with
    | .nrm => bd (wr l (.loop .ready none a2 a3 a4 a5 a6 a7)) fun _ => ret (.val (.bool true))
    | .ret => bd (wr l (.loop .done (some .ret) a2 a3 a4 a5 a6 a7)) fun _ => ret (.val (.bool false))
    | .exit id => bd (wr l (.loop .done (some (.exit id)) a2 a3 a4 a5 a6 a7)) fun _ => ret (.val (.bool false))
  | _ => fail
def beginA (l : Nat) : M Unit := bd (rd l) fun blk => match blk with
  | .loop .ready pd a2 a3 a4 a5 a6 a7 => wr l (.loop .busy pd a2 a3 a4 a5 a6 a7)
  | _ => fail
def runRound (ih : Task → M Out) (l : Nat) (args : List AVal) : M Out :=
  bd (rd l) fun blk => match blk with
  | .loop _ _ nt T ps assign body _ => match setParams nt T ps args with
    | some T => bd (ih (.code nt (some l) assign T [])) fun o => match o with
      | .exit .nrm T [] => bd (beginA l) fun _ => bd (ih (.code nt (some l) body T [])) fun o => match o with
          | .exit e _ _ => endRoundA l e
          | _ => fail
      | _ => fail
    | none => fail
  | _ => fail
def runStep (X : Told) (ih : Task → M Out) : Task → M Out
  | .code nt rnd c T ms => runCode P ih nt rnd c T ms
  | .call f args => match X f with
    | some g => bd (g args) fun v => ret (.val v)
    | none => runCall P ih f args
  | .round l args => runRound ih l args
def run (X : Told) : Nat → Task → M Out
  | 0, _ => fail
  | n + 1, t => runStep P X (run X n) t
end
end Go.AM
namespace Go.AM
open Go

/-! ### tries -/
theorem Tr.get_nil {α : Type} (i : Nat) : (Tr.nil : Tr α).get i = none := by cases i <;> rfl
theorem ite_same {α : Type} {p q : Prop} [Decidable p] [Decidable q] {a b : α} (h : p ↔ q) : (if p then a else b) = if q then a else b := by
  by_cases hp : p <;> simp [hp, h.symm] <;> simp_all
theorem Tr.get_setF {α : Type} : ∀ (f : Nat) (t : Tr α) (i : Nat) (x : Option α) (j : Nat), i < f → (Tr.setF f t i x).get j = if i = j then x else t.get j := by
  intro f
  induction f with
  | zero => intro t i x j h; omega
  | succ f ih =>
    intro t i x j h
    have key : ∀ a b : Nat, a + 1 = b + 1 ↔ (Nat.beq (a % 2) 0 = Nat.beq (b % 2) 0 ∧ a / 2 = b / 2) := by
      intro a b
      constructor
      · intro h; have : a = b := by omega
        subst this; exact ⟨rfl, rfl⟩
      · rintro ⟨h1, h2⟩
        have : (a % 2 = 0) ↔ (b % 2 = 0) := by
          constructor
          · intro h; rw [h] at h1; exact Nat.eq_of_beq_eq_true (h1.symm.trans rfl)
          · intro h; rw [h] at h1; exact Nat.eq_of_beq_eq_true (h1.trans rfl)
        omega
    cases t with
    | nil =>
      cases i with
      | zero => cases j <;> simp [Tr.setF, Tr.get]
      | succ i =>
        have hi : i / 2 < f := by omega
        cases j with
        | zero => cases hb : Nat.beq (i % 2) 0 <;> simp [Tr.setF, Tr.get, hb]
        | succ j =>
          have k := key i j
          rw [ite_same k, Tr.get_nil]
          cases hb : Nat.beq (i % 2) 0 <;> cases hc : Nat.beq (j % 2) 0 <;> simp [Tr.setF, Tr.get, hb, hc, ih _ _ _ _ hi]
    | node v l r =>
      cases i with
      | zero => cases j <;> simp [Tr.setF, Tr.get]
      | succ i =>
        have hi : i / 2 < f := by omega
        cases j with
        | zero => cases hb : Nat.beq (i % 2) 0 <;> simp [Tr.setF, Tr.get, hb]
        | succ j =>
          have k := key i j
          rw [ite_same k]
          cases hb : Nat.beq (i % 2) 0 <;> cases hc : Nat.beq (j % 2) 0 <;> simp [Tr.setF, Tr.get, hb, hc, ih _ _ _ _ hi]
theorem Tr.get_put {α : Type} (t : Tr α) (i : Nat) (x : Option α) (j : Nat) : (t.put i x).get j = if i = j then x else t.get j :=
  Tr.get_setF (i + 1) t i x j (by omega)
theorem Tr.get_ofListAt {α : Type} : ∀ (l : List α) (t : Tr α) (o i : Nat), (Tr.ofListAt t o l).get i = if o ≤ i ∧ i < o + l.length then l[i - o]? else t.get i := by
  intro l
  induction l with
  | nil => intro t o i; simp [Tr.ofListAt]; intro h1 h2; omega
  | cons x xs ih =>
    intro t o i
    simp only [Tr.ofListAt, ih, Tr.set, Tr.get_put, List.length_cons]
    by_cases h : o = i
    · subst h; rw [if_neg (by omega), if_pos rfl, if_pos (by omega)]; simp
    · by_cases h1 : o + 1 ≤ i ∧ i < o + 1 + xs.length
      · rw [if_pos h1, if_pos (by omega)]
        have : i - o = (i - (o + 1)) + 1 := by omega
        rw [this, List.getElem?_cons_succ]
      · rw [if_neg h1, if_neg h, if_neg (by omega)]

/-! ### numbers -/
theorem frcN_eq {β : Type} (n : Nat) (k : Nat → β) : frcN n k = k n := by cases n <;> rfl
theorem frc_eq {β : Type} (n : Int) (k : Int → β) : frc n k = k n := by cases n <;> simp [frc, frcN_eq]
theorem ltI_eq (x y : Int) : ltI x y = decide (x < y) := by
  rw [Bool.eq_iff_iff]
  cases x <;> cases y <;> simp [ltI, Nat.blt_eq] <;> omega
theorem eqI_eq (x y : Int) : eqI x y = (x == y) := by
  rw [Bool.eq_iff_iff]
  cases x <;> cases y <;> simp [eqI] <;> omega
theorem wrapM_eq (m h : Nat) (n : Int) (hh : h ≤ m) (h0 : 0 < h) : wrapM m h n = (if (n % (m : Int)) ≥ (h : Int) then n % (m : Int) - m else n % (m : Int)) := by
  have hm : 0 < m := by omega
  cases n with
  | ofNat a =>
    simp only [wrapM]
    have e : (Int.ofNat a) % (m : Int) = ((a % m : Nat) : Int) := by simp
    rw [e]
    have hr := Nat.mod_lt a hm
    cases h1 : Nat.blt a h with
    | true =>
      have : a < h := by simpa [Nat.blt_eq] using h1
      have : a % m = a := Nat.mod_eq_of_lt (by omega)
      rw [this, if_neg (by omega)]; rfl
    | false =>
      simp only [cond_false]
      cases h2 : Nat.blt (a % m) h with
      | true =>
        have : a % m < h := by simpa [Nat.blt_eq] using h2
        rw [if_neg (by omega)]; rfl
      | false =>
        have : ¬ (a % m < h) := by rw [← Nat.blt_eq, h2]; simp
        rw [if_pos (by omega)]
        simp only [cond_false, Int.negSucc_eq]; omega
  | negSucc a =>
    simp only [wrapM]
    have hr := Nat.mod_lt a hm
    have e : (Int.negSucc a) % (m : Int) = ((m - 1 - a % m : Nat) : Int) := by
      rw [Int.negSucc_emod a (by omega)]
      have : (a : Int) % (m : Int) = ((a % m : Nat) : Int) := by simp
      omega
    rw [e]
    have hr2 : m - 1 - a % m < m := by omega
    generalize m - 1 - a % m = r at *
    cases h2 : Nat.blt r h with
    | true =>
      have : r < h := by simpa [Nat.blt_eq] using h2
      rw [if_neg (by omega)]; rfl
    | false =>
      have : ¬ (r < h) := by rw [← Nat.blt_eq, h2]; simp
      rw [if_pos (by omega)]
      simp only [cond_false, Int.negSucc_eq]; omega
theorem wrapK_eq (k : IntKind) (n : Int) : wrapK k n = k.wrap n := by
  cases k <;> simp only [wrapK] <;> rw [wrapM_eq _ _ _ (by omega) (by omega)] <;> simp [IntKind.wrap, IntKind.bits, IntKind.signed] <;> omega
end Go.AM
namespace Go.AM
open Go

/-! ### what a piece of work touches, and that it hangs on nothing else -/
structure Does (es : List (Nat × Bool)) (H H' : AHeap) : Prop where
  log : H'.log = es ++ H.log
  next : H.next ≤ H'.next
  lo : H'.lo = H.lo
  same : ∀ id, (id, true) ∉ es → H'.blks.get id = H.blks.get id
  touch : ∀ id b, (id, b) ∈ es → H.blks.get id ≠ none ∨ (H.next ≤ id ∧ id < H'.next)
  wlo : ∀ id, (id, true) ∈ es → H.lo ≤ id
  gone : ∀ id, H'.blks.get id ≠ none → H.blks.get id ≠ none ∨ (H.next ≤ id ∧ id < H'.next)
def Fr {α : Type} (m : M α) : Prop := ∀ H1 a H1', m H1 = some (a, H1') → ∃ es, Does es H1 H1' ∧
  ∀ H2 : AHeap, H2.next = H1.next → H2.lo ≤ H1.lo → (∀ id b, (id, b) ∈ es → H2.blks.get id = H1.blks.get id) →
    ∃ H2', m H2 = some (a, H2') ∧ Does es H2 H2' ∧ H2'.next = H1'.next ∧ ∀ id b, (id, b) ∈ es → H2'.blks.get id = H1'.blks.get id

theorem Does.refl (H : AHeap) : Does [] H H := ⟨rfl, Nat.le_refl _, rfl, fun _ _ => rfl, by simp, by simp, fun _ h => Or.inl h⟩
theorem Does.trans {es1 es2 : List (Nat × Bool)} {H H' H'' : AHeap} (h1 : Does es1 H H') (h2 : Does es2 H' H'') : Does (es2 ++ es1) H H'' :=
  ⟨by rw [h2.log, h1.log, List.append_assoc], Nat.le_trans h1.next h2.next, h2.lo.trans h1.lo, fun id hid => by
    rw [h2.same id (fun h => hid (by simp [h])), h1.same id (fun h => hid (by simp [h]))],
    fun id b hb => by
      have n1 := h1.next
      have n2 := h2.next
      rcases List.mem_append.1 hb with hb | hb
      · rcases h2.touch id b hb with h | h
        · rcases h1.gone id h with h | h
          · exact Or.inl h
          · exact Or.inr ⟨h.1, by omega⟩
        · exact Or.inr ⟨by omega, h.2⟩
      · rcases h1.touch id b hb with h | h
        · exact Or.inl h
        · exact Or.inr ⟨h.1, by omega⟩,
    fun id hb => by
      rcases List.mem_append.1 hb with hb | hb
      · rw [← h1.lo]; exact h2.wlo id hb
      · exact h1.wlo id hb,
    fun id h => by
      have n1 := h1.next
      have n2 := h2.next
      rcases h2.gone id h with h | h
      · rcases h1.gone id h with h | h
        · exact Or.inl h
        · exact Or.inr ⟨h.1, by omega⟩
      · exact Or.inr ⟨by omega, h.2⟩⟩
variable {α β : Type}
theorem fr_ret (a : α) : Fr (ret a) := by
  intro H1 x H1' h
  simp only [ret, Option.some.injEq, Prod.mk.injEq] at h
  obtain ⟨rfl, rfl⟩ := h
  exact ⟨[], .refl _, fun H2 hn _ _ => ⟨H2, rfl, .refl _, hn, by simp⟩⟩
theorem fr_fail : Fr (fail : M α) := by intro H1 x H1' h; simp [fail] at h
theorem fr_lift (o : Option α) : Fr (lift o) := by
  cases o with
  | none => intro H1 x H1' h; simp [lift] at h
  | some a => exact fr_ret a
theorem fr_bd {m : M α} {f : α → M β} (hm : Fr m) (hf : ∀ a, Fr (f a)) : Fr (bd m f) := by
  intro H1 b H1'' h
  unfold bd at h
  cases h1 : m H1 with
  | none => simp [h1] at h
  | some p =>
    obtain ⟨a, H1'⟩ := p
    simp only [h1] at h
    obtain ⟨es1, d1, k1⟩ := hm H1 a H1' h1
    obtain ⟨es2, d2, k2⟩ := hf a H1' b H1'' h
    refine ⟨es2 ++ es1, d1.trans d2, fun H2 hn hl hag => ?_⟩
    obtain ⟨H2', e1, d1', n1, g1⟩ := k1 H2 hn hl (fun id b hb => hag id b (by simp [hb]))
    have hmid : ∀ id b, (id, b) ∈ es2 → H2'.blks.get id = H1'.blks.get id := by
      intro id b hb
      by_cases hin : ∃ c, (id, c) ∈ es1
      · obtain ⟨c, hc⟩ := hin; exact g1 id c hc
      · rw [d1'.same id (fun h => hin ⟨_, h⟩), d1.same id (fun h => hin ⟨_, h⟩)]
        exact hag id b (by simp [hb])
    obtain ⟨H2'', e2, d2', n2, g2⟩ := k2 H2' n1 (by rw [d1'.lo, d1.lo]; exact hl) hmid
    refine ⟨H2'', by simp [bd, e1, e2], d1'.trans d2', n2, fun id b hb => ?_⟩
    by_cases hin : ∃ c, (id, c) ∈ es2
    · obtain ⟨c, hc⟩ := hin; exact g2 id c hc
    · rw [d2'.same id (fun h => hin ⟨_, h⟩), d2.same id (fun h => hin ⟨_, h⟩)]
      rcases List.mem_append.1 hb with hb | hb
      · exact absurd ⟨_, hb⟩ hin
      · exact g1 id b hb
theorem fr_rd (id : Nat) : Fr (rd id) := by
  intro H1 x H1' h
  unfold rd at h
  cases h1 : H1.blks.get id with
  | none => simp [h1] at h
  | some b =>
    simp only [h1, Option.some.injEq, Prod.mk.injEq] at h
    obtain ⟨rfl, rfl⟩ := h
    have key : ∀ H : AHeap, H.blks.get id = some b → Does [(id, false)] H { H with log := (id, false) :: H.log } := fun H hH =>
      ⟨rfl, Nat.le_refl _, rfl, fun _ _ => rfl, fun i c hc => by
        simp only [List.mem_singleton, Prod.mk.injEq] at hc
        obtain ⟨rfl, rfl⟩ := hc
        rw [hH]; simp, by simp, fun _ h => Or.inl h⟩
    refine ⟨[(id, false)], key _ h1, fun H2 hn hl hag => ?_⟩
    have e := hag id false (by simp)
    refine ⟨{ H2 with log := (id, false) :: H2.log }, by simp [rd, e, h1], key _ (by rw [e, h1]), hn, fun i c hc => ?_⟩
    simp only [List.mem_singleton, Prod.mk.injEq] at hc
    obtain ⟨rfl, rfl⟩ := hc
    exact e
theorem fr_put (id : Nat) (x : Option ABlk) : Fr (fun H : AHeap => cond (Nat.ble H.lo id) (match H.blks.get id with | none => none | some _ => some ((), { H with blks := H.blks.put id x, log := (id, true) :: H.log })) none) := by
  intro H1 u H1' h
  cases hlo : Nat.ble H1.lo id with
  | false => simp [hlo] at h
  | true =>
    simp only [hlo, cond_true] at h
    cases h1 : H1.blks.get id with
    | none => simp [h1] at h
    | some b =>
      simp only [h1, Option.some.injEq, Prod.mk.injEq] at h
      obtain ⟨_, rfl⟩ := h
      have key : ∀ H : AHeap, H.blks.get id = some b → H.lo ≤ id → Does [(id, true)] H { H with blks := H.blks.put id x, log := (id, true) :: H.log } := fun H hH hl =>
        ⟨rfl, Nat.le_refl _, rfl, fun i hi => by
          have : id ≠ i := fun e => hi (by simp [e])
          simp [Tr.get_put, this], fun i c hc => by
          simp only [List.mem_singleton, Prod.mk.injEq] at hc
          obtain ⟨rfl, rfl⟩ := hc
          rw [hH]; simp, fun i hi => by
          simp only [List.mem_singleton, Prod.mk.injEq] at hi
          rw [hi.1]; exact hl, fun i hi => by
          by_cases e : id = i
          · subst e; rw [hH]; simp
          · simp [Tr.get_put, e] at hi; exact Or.inl hi⟩
      have hle : H1.lo ≤ id := Nat.le_of_ble_eq_true hlo
      refine ⟨[(id, true)], key _ h1 hle, fun H2 hn hl hag => ?_⟩
      have e := hag id true (by simp)
      have hlo2 : Nat.ble H2.lo id = true := Nat.ble_eq_true_of_le (Nat.le_trans hl hle)
      refine ⟨_, by simp only [hlo2, cond_true, e, h1], key _ (by rw [e, h1]) (Nat.le_trans hl hle), hn, fun i c hc => ?_⟩
      simp only [List.mem_singleton, Prod.mk.injEq] at hc
      obtain ⟨rfl, rfl⟩ := hc
      simp [Tr.get_put]
theorem fr_wr (id : Nat) (b : ABlk) : Fr (wr id b) := fr_put id (some b)
theorem fr_kill (id : Nat) : Fr (kill id) := fr_put id none
theorem fr_nw (b : ABlk) : Fr (nw b) := by
  intro H1 n H1' h
  unfold nw at h
  simp only [frcN_eq] at h
  cases hlo : Nat.ble H1.lo H1.next with
  | false => simp [hlo] at h
  | true =>
    simp only [hlo, cond_true, Option.some.injEq, Prod.mk.injEq] at h
    obtain ⟨rfl, rfl⟩ := h
    have key : ∀ H : AHeap, H.lo ≤ H.next → Does [(H.next, true)] H { H with blks := H.blks.put H.next (some b), next := H.next + 1, log := (H.next, true) :: H.log } := fun H hl =>
      ⟨rfl, Nat.le_succ _, rfl, fun i hi => by
        have : H.next ≠ i := fun e => hi (by simp [e])
        simp [Tr.get_put, this], fun i c hc => by
        simp only [List.mem_singleton, Prod.mk.injEq] at hc
        obtain ⟨rfl, rfl⟩ := hc
        exact Or.inr ⟨Nat.le_refl _, Nat.lt_succ_self _⟩, fun i hi => by
        simp only [List.mem_singleton, Prod.mk.injEq] at hi
        rw [hi.1]; exact hl, fun i hi => by
        by_cases e : H.next = i
        · subst e; exact Or.inr ⟨Nat.le_refl _, Nat.lt_succ_self _⟩
        · simp [Tr.get_put, e] at hi; exact Or.inl hi⟩
    have hle : H1.lo ≤ H1.next := Nat.le_of_ble_eq_true hlo
    refine ⟨_, key _ hle, fun H2 hn hl hag => ?_⟩
    have hle2 : H2.lo ≤ H2.next := by rw [hn]; exact Nat.le_trans hl hle
    have hlo2 : Nat.ble H2.lo H1.next = true := Nat.ble_eq_true_of_le (Nat.le_trans hl hle)
    refine ⟨{ H2 with blks := H2.blks.put H2.next (some b), next := H2.next + 1, log := (H2.next, true) :: H2.log }, by simp [nw, frcN_eq, hn, hlo2], by rw [← hn]; exact key _ hle2, by simp [hn], fun i c hc => ?_⟩
    simp only [List.mem_singleton, Prod.mk.injEq] at hc
    obtain ⟨rfl, rfl⟩ := hc
    simp [Tr.get_put, hn]
theorem fr_capture {m : M α} (hm : Fr m) : Fr (capture m) := by
  intro H1 r H1' h
  unfold capture at h
  cases h1 : m { H1 with log := [] } with
  | none => simp [h1] at h
  | some p =>
    obtain ⟨a, K⟩ := p
    simp only [h1, Option.some.injEq, Prod.mk.injEq] at h
    obtain ⟨rfl, rfl⟩ := h
    obtain ⟨es, d, k⟩ := hm _ a K h1
    have hlog : K.log = es := by simpa using d.log
    refine ⟨es, ⟨by simp [hlog], d.next, d.lo, d.same, d.touch, d.wlo, d.gone⟩, fun H2 hn hl hag => ?_⟩
    obtain ⟨K2, e2, d2, n2, g2⟩ := k { H2 with log := [] } hn hl hag
    have hlog2 : K2.log = es := by simpa using d2.log
    exact ⟨{ K2 with log := es ++ H2.log }, by simp [capture, e2, hlog, hlog2], ⟨rfl, d2.next, d2.lo, d2.same, d2.touch, d2.wlo, d2.gone⟩, n2, g2⟩
theorem fr_cond (b : Bool) {x y : M α} (hx : Fr x) (hy : Fr y) : Fr (cond b x y) := by cases b <;> assumption
theorem capture_spec {m : M α} (hm : Fr m) {H : AHeap} {a : α} {es : List (Nat × Bool)} {H' : AHeap} (h : capture m H = some ((a, es), H')) :
    Does es H H' ∧ (∃ K, m { H with log := [] } = some (a, K) ∧ K.blks = H'.blks ∧ K.next = H'.next ∧ K.lo = H'.lo) ∧
    ∀ H2 : AHeap, H2.next = H.next → H2.lo ≤ H.lo → (∀ id b, (id, b) ∈ es → H2.blks.get id = H.blks.get id) →
      ∃ H2', m H2 = some (a, H2') ∧ Does es H2 H2' ∧ H2'.next = H'.next ∧ ∀ id b, (id, b) ∈ es → H2'.blks.get id = H'.blks.get id := by
  unfold capture at h
  cases h1 : m { H with log := [] } with
  | none => simp [h1] at h
  | some p =>
    obtain ⟨a', K⟩ := p
    simp only [h1, Option.some.injEq, Prod.mk.injEq] at h
    obtain ⟨⟨rfl, rfl⟩, rfl⟩ := h
    obtain ⟨es, d, k⟩ := hm _ a' K h1
    have hlog : K.log = es := by simpa using d.log
    rw [hlog]
    exact ⟨⟨rfl, d.next, d.lo, d.same, d.touch, d.wlo, d.gone⟩, ⟨K, rfl, rfl, rfl, rfl⟩, fun H2 hn hl hag => k H2 hn hl hag⟩

/-! ### several ways -/
inductive All2 {α β : Type} (R : α → β → Prop) : List α → List β → Prop where
  | nil : All2 R [] []
  | cons {a : α} {b : β} {l : List α} {m : List β} : R a b → All2 R l m → All2 R (a :: l) (b :: m)
theorem All2.append {α β : Type} {R : α → β → Prop} {a c : List α} {b d : List β} (h : All2 R a b) (k : All2 R c d) : All2 R (a ++ c) (b ++ d) := by
  induction h with
  | nil => exact k
  | cons h _ ih => exact .cons h ih
theorem All2.mem {α β : Type} {R : α → β → Prop} {a : List α} {b : List β} (h : All2 R a b) : ∀ y ∈ b, ∃ x ∈ a, R x y := by
  induction h with
  | nil => intro y hy; cases hy
  | cons h _ ih =>
    intro y hy
    rcases List.mem_cons.1 hy with rfl | hy
    · exact ⟨_, List.mem_cons_self, h⟩
    · obtain ⟨x, hx, hr⟩ := ih y hy; exact ⟨x, List.mem_cons_of_mem _ hx, hr⟩
theorem Does.uniq {es es' : List (Nat × Bool)} {H H' : AHeap} (h : Does es H H') (k : Does es' H H') : es = es' := List.append_cancel_right (h.log.symm.trans k.log)
/-- one way of the first memory, and the same of the second -/
structure WayR {γ : Type} (H1 H2 : AHeap) (p q : γ × AHeap) : Prop where
  out : q.1 = p.1
  next : q.2.next = p.2.next
  does : ∀ es, Does es H1 p.2 → Does es H2 q.2 ∧ ∀ id b, (id, b) ∈ es → q.2.blks.get id = p.2.blks.get id
def FrN {γ : Type} (m : N γ) : Prop := ∀ H1 L, m H1 = some L → L ≠ [] ∧ (∀ p ∈ L, ∃ es, Does es H1 p.2) ∧
  ∀ H2 : AHeap, H2.next = H1.next → H2.lo ≤ H1.lo → (∀ p ∈ L, ∀ es, Does es H1 p.2 → ∀ id b, (id, b) ∈ es → H2.blks.get id = H1.blks.get id) →
    ∃ L2, m H2 = some L2 ∧ All2 (WayR H1 H2) L L2
theorem frN_none {γ : Type} : FrN (fun _ => none : N γ) := fun _ _ h => by cases h
theorem frN_one {γ : Type} {m : M γ} (hm : Fr m) : FrN (oneN m) := by
  intro H1 L h
  unfold oneN at h
  cases h1 : m H1 with
  | none => simp [h1] at h
  | some r =>
    obtain ⟨a, K⟩ := r
    simp only [h1, Option.some.injEq] at h
    subst h
    obtain ⟨es, d, k⟩ := hm H1 a K h1
    refine ⟨by simp, fun p hp => ⟨es, by simp at hp; subst hp; exact d⟩, fun H2 hn hl hag => ?_⟩
    obtain ⟨K2, e2, d2, n2, g2⟩ := k H2 hn hl (hag (a, K) (by simp) es d)
    refine ⟨[(a, K2)], by simp [oneN, e2], .cons ⟨rfl, n2, fun es' d' => ?_⟩ .nil⟩
    rw [d'.uniq d]; exact ⟨d2, g2⟩
theorem Does.nil_of_refl {es : List (Nat × Bool)} {H : AHeap} (h : Does es H H) : es = [] := h.uniq (.refl H)
theorem frN_each {γ : Type} (a : γ) (l : List γ) : FrN (eachN (a :: l)) := by
  intro H1 L h
  have h : some (pairH H1 (a :: l)) = some L := h
  cases h
  have hmem : ∀ (l : List γ) (H : AHeap) p, p ∈ pairH H l → p.2 = H := by
    intro l H p
    induction l with
    | nil => intro h; cases h
    | cons b l ih => intro h; rcases List.mem_cons.1 h with rfl | h; rfl; exact ih h
  refine ⟨by simp [pairH], fun p hp => ⟨[], by rw [hmem _ _ p hp]; exact .refl _⟩, fun H2 hn hl _ => ⟨pairH H2 (a :: l), rfl, ?_⟩⟩
  generalize a :: l = l
  induction l with
  | nil => exact .nil
  | cons b l ih => exact .cons ⟨rfl, hn, fun es d => by rw [d.nil_of_refl]; exact ⟨.refl _, by simp⟩⟩ ih
theorem frN_all {γ δ : Type} {f : γ → N δ} (hf : ∀ a, FrN (f a)) {H1 : AHeap} : ∀ (l : List (γ × AHeap)) (L : List (δ × AHeap)), (∀ p ∈ l, ∃ es, Does es H1 p.2) → allN f l = some L →
    (l ≠ [] → L ≠ []) ∧ (∀ p ∈ L, ∃ es, Does es H1 p.2) ∧ (∀ p ∈ l, ∀ es, Does es H1 p.2 → ∃ q ∈ L, ∃ es', Does (es' ++ es) H1 q.2) ∧
      ∀ H2 : AHeap, H2.next = H1.next → (∀ p ∈ L, ∀ es, Does es H1 p.2 → ∀ id b, (id, b) ∈ es → H2.blks.get id = H1.blks.get id) → H2.lo ≤ H1.lo →
      ∀ l2, All2 (WayR H1 H2) l l2 → ∃ L2, allN f l2 = some L2 ∧ All2 (WayR H1 H2) L L2 := by
  intro l
  induction l with
  | nil =>
    intro L _ h
    cases h
    refine ⟨fun h => absurd rfl h, by simp, by simp, fun H2 _ _ _ l2 h2 => ?_⟩
    cases h2
    exact ⟨[], rfl, .nil⟩
  | cons p l ih =>
    obtain ⟨a, K⟩ := p
    intro L hl h
    unfold allN at h
    cases h1 : f a K with
    | none => simp [h1] at h
    | some lq =>
      simp only [h1] at h
      cases h2 : allN f l with
      | none => simp [h2] at h
      | some Lr =>
        simp only [h2, Option.some.injEq] at h
        subst h
        obtain ⟨eK, dK⟩ := hl (a, K) (by simp)
        obtain ⟨q1, q2, q3⟩ := hf a K lq h1
        obtain ⟨r1, r2, r4, r3⟩ := ih Lr (fun p hp => hl p (by simp [hp])) h2
        refine ⟨fun _ => ?_, fun p hp => ?_, fun p hp es d => ?_, fun H2 hn hag hlo l2 hl2 => ?_⟩
        · intro e; exact q1 (List.append_eq_nil_iff.1 e).1
        · rcases List.mem_append.1 hp with hp | hp
          · obtain ⟨es', d'⟩ := q2 p hp; exact ⟨es' ++ eK, dK.trans d'⟩
          · exact r2 p hp
        · rcases List.mem_cons.1 hp with rfl | hp
          · cases hlq : lq with
            | nil => exact absurd hlq q1
            | cons q lq' =>
              obtain ⟨es', d'⟩ := q2 q (by rw [hlq]; simp)
              exact ⟨q, by simp, es', d.trans d'⟩
          · obtain ⟨q, hq, es', d'⟩ := r4 p hp es d
            exact ⟨q, by simp [hq], es', d'⟩
        · cases hl2 with
          | @cons _ b _ l2' hR hl2' =>
            obtain ⟨b1, K2⟩ := b
            obtain ⟨h3, h4, h5⟩ := hR
            simp only at h3 h4 h5
            subst h3
            obtain ⟨d2, g2⟩ := h5 eK dK
            have mid : ∀ p ∈ lq, ∀ es, Does es K p.2 → ∀ id b, (id, b) ∈ es → K2.blks.get id = K.blks.get id := by
              intro p hp es d id b hb
              by_cases hin : ∃ c, (id, c) ∈ eK
              · obtain ⟨c, hc⟩ := hin; exact g2 id c hc
              · rw [d2.same id (fun h => hin ⟨_, h⟩), dK.same id (fun h => hin ⟨_, h⟩)]
                exact hag p (by simp [hp]) _ (dK.trans d) id b (by simp [hb])
            obtain ⟨lq2, e2, a2⟩ := q3 K2 h4 (by rw [d2.lo, dK.lo]; exact hlo) mid
            obtain ⟨L2, e3, a3⟩ := r3 H2 hn (fun p hp => hag p (by simp [hp])) hlo l2' hl2'
            refine ⟨lq2 ++ L2, by unfold allN; simp [e2, e3], All2.append ?_ a3⟩
            have conv : ∀ p q, p ∈ lq → WayR K K2 p q → WayR H1 H2 p q := by
              intro p q hp ⟨o1, o2, o3⟩
              refine ⟨o1, o2, fun es d => ?_⟩
              obtain ⟨es', d'⟩ := q2 p hp
              obtain ⟨d3, g3⟩ := o3 es' d'
              rw [d.uniq (dK.trans d')]
              refine ⟨d2.trans d3, fun id b hb => ?_⟩
              by_cases hin : ∃ c, (id, c) ∈ es'
              · obtain ⟨c, hc⟩ := hin; exact g3 id c hc
              · rw [d3.same id (fun h => hin ⟨_, h⟩), d'.same id (fun h => hin ⟨_, h⟩)]
                rcases List.mem_append.1 hb with hb | hb
                · exact absurd ⟨_, hb⟩ hin
                · exact g2 id b hb
            have : ∀ (u : List (δ × AHeap)) (v : List (δ × AHeap)), (∀ p ∈ u, p ∈ lq) → All2 (WayR K K2) u v → All2 (WayR H1 H2) u v := by
              intro u v hu huv
              induction huv with
              | nil => exact .nil
              | cons h _ ih2 => exact .cons (conv _ _ (hu _ (by simp)) h) (ih2 fun p hp => hu p (by simp [hp]))
            exact this lq lq2 (fun _ h => h) a2
theorem frN_bd {γ δ : Type} {m : N γ} {f : γ → N δ} (hm : FrN m) (hf : ∀ a, FrN (f a)) : FrN (bdN m f) := by
  intro H1 L h
  unfold bdN at h
  cases h1 : m H1 with
  | none => simp [h1] at h
  | some l =>
    simp only [h1] at h
    obtain ⟨a1, a2, a3⟩ := hm H1 l h1
    obtain ⟨b1, b2, b4, b3⟩ := frN_all hf l L a2 h
    refine ⟨b1 a1, b2, fun H2 hn hl hag => ?_⟩
    obtain ⟨l2, e2, r2⟩ := a3 H2 hn hl (fun p hp es d id b hb => by
      obtain ⟨q, hq, es', d'⟩ := b4 p hp es d
      exact hag q hq _ d' id b (by simp [hb]))
    obtain ⟨L2, e3, r3⟩ := b3 H2 hn hag hl l2 r2
    exact ⟨L2, by simp [bdN, e2, e3], r3⟩

def joinId (K : AHeap) (Ks : List AHeap) (id : Nat) : Option ABlk := match K.blks.get id with | some b => joinAt id b Ks | none => none
theorem joinBlks_get (K : AHeap) (Ks : List AHeap) : ∀ (es : List (Nat × Bool)) (t : Tr ABlk) (i : Nat), ((i, true) ∈ es → (joinBlks K Ks es t).get i = joinId K Ks i) ∧ ((i, true) ∉ es → (joinBlks K Ks es t).get i = t.get i) := by
  intro es
  induction es with
  | nil => intro t i; exact ⟨by simp, fun _ => rfl⟩
  | cons e es ih =>
    obtain ⟨id, b⟩ := e
    intro t i
    cases b with
    | false =>
      obtain ⟨h1, h2⟩ := ih t i
      exact ⟨fun h => h1 (by simpa using h), fun h => h2 (by simpa using h)⟩
    | true =>
      obtain ⟨h1, h2⟩ := ih (t.put id (joinId K Ks id)) i
      refine ⟨fun h => ?_, fun h => ?_⟩
      · by_cases hi : (i, true) ∈ es
        · exact h1 hi
        · have : i = id := by rcases List.mem_cons.1 h with h | h; (injection h with h _); exact absurd h hi
          subst this
          refine (h2 hi).trans ?_
          rw [Tr.get_put, if_pos rfl]
      · have hne : id ≠ i := fun e => h (by simp [e])
        refine (h2 fun hi => h (by simp [hi])).trans ?_
        rw [Tr.get_put, if_neg hne]
theorem joinAt_congr (id : Nat) : ∀ (Ks Ks2 : List AHeap) (b : ABlk), All2 (fun K K2 : AHeap => K2.blks.get id = K.blks.get id) Ks Ks2 → joinAt id b Ks2 = joinAt id b Ks := by
  intro Ks Ks2 b h
  induction h generalizing b with
  | nil => rfl
  | cons h _ ih =>
    unfold joinAt
    rw [h]
    split
    · split
      · exact ih _
      · rfl
    · rfl
theorem maxNext_ge (Ks : List AHeap) : ∀ n, n ≤ maxNext n Ks ∧ ∀ K ∈ Ks, K.next ≤ maxNext n Ks := by
  induction Ks with
  | nil => intro n; exact ⟨Nat.le_refl _, by simp⟩
  | cons K Ks ih =>
    intro n
    unfold maxNext
    cases h : Nat.ble n K.next with
    | true =>
      simp only [cond_true]
      have := Nat.le_of_ble_eq_true h
      obtain ⟨h1, h2⟩ := ih K.next
      exact ⟨by omega, fun J hJ => by rcases List.mem_cons.1 hJ with rfl | hJ; exact h1; exact h2 J hJ⟩
    | false =>
      simp only [cond_false]
      have : ¬ n ≤ K.next := fun e => by rw [Nat.ble_eq_true_of_le e] at h; cases h
      obtain ⟨h1, h2⟩ := ih n
      exact ⟨h1, fun J hJ => by rcases List.mem_cons.1 hJ with rfl | hJ; omega; exact h2 J hJ⟩
theorem maxNext_congr : ∀ (Ks Ks2 : List AHeap) (n : Nat), All2 (fun K K2 : AHeap => K2.next = K.next) Ks Ks2 → maxNext n Ks2 = maxNext n Ks := by
  intro Ks Ks2 n h
  induction h generalizing n with
  | nil => rfl
  | cons h _ ih => unfold maxNext; rw [h, ih, ih]
theorem mem_logs {Ks : List AHeap} {e : Nat × Bool} : e ∈ logs Ks ↔ ∃ K ∈ Ks, e ∈ K.log := by
  induction Ks with
  | nil => simp [logs]
  | cons K Ks ih => simp [logs, ih]
theorem logs_congr : ∀ (Ks Ks2 : List AHeap), All2 (fun K K2 : AHeap => K2.log = K.log) Ks Ks2 → logs Ks2 = logs Ks := by
  intro Ks Ks2 h
  induction h with
  | nil => rfl
  | cons h _ ih => unfold logs; rw [h, ih]
theorem All2.imp {α β : Type} {R S : α → β → Prop} {l : List α} {m : List β} (h : All2 R l m) (k : ∀ a b, a ∈ l → R a b → S a b) : All2 S l m := by
  induction h with
  | nil => exact .nil
  | cons h _ ih => exact .cons (k _ _ (by simp) h) (ih fun a b ha => k a b (by simp [ha]))
theorem All2.map {α β γ δ : Type} {f : α → γ} {g : β → δ} {S : γ → δ → Prop} {l : List α} {m : List β} (h : All2 (fun a b => S (f a) (g b)) l m) : All2 S (l.map f) (m.map g) := by
  induction h with
  | nil => exact .nil
  | cons h _ ih => exact .cons h ih
theorem joinOuts_congr {e : AExit} {ms : List Mk} : ∀ (r r2 : List (Out × AHeap)) (T : Tmps), All2 (fun p q : Out × AHeap => q.1 = p.1) r r2 → joinOuts e ms T r2 = joinOuts e ms T r := by
  intro r r2 T h
  induction h generalizing T with
  | nil => rfl
  | @cons p q l m h _ ih =>
    obtain ⟨o, K⟩ := p
    obtain ⟨o2, K2⟩ := q
    simp only at h
    subst h
    cases o2 with
    | val v => rfl
    | exit e' T' ms' =>
      unfold joinOuts
      cases joinT T T' with
      | none => rfl
      | some T1 => simp only [ih]
/-- what all ways together do -/
theorem does_join {H : AHeap} {K : AHeap} {Ks : List AHeap} (hd : ∀ J ∈ K :: Ks, Does J.log { H with log := [] } J) :
    Does (logs (K :: Ks)) H { blks := joinBlks K Ks (logs (K :: Ks)) H.blks, next := maxNext K.next Ks, lo := H.lo, log := logs (K :: Ks) ++ H.log } := by
  have hmax : ∀ J ∈ K :: Ks, J.next ≤ maxNext K.next Ks := fun J hJ => by
    obtain ⟨h1, h2⟩ := maxNext_ge Ks K.next
    rcases List.mem_cons.1 hJ with rfl | hJ
    · exact h1
    · exact h2 J hJ
  refine ⟨rfl, Nat.le_trans (hd K (by simp)).next (hmax K (by simp)), rfl, fun id hid => (joinBlks_get K Ks _ _ id).2 hid, fun id b hb => ?_, fun id hb => ?_, fun id h => ?_⟩
  · obtain ⟨J, hJ, hb⟩ := mem_logs.1 hb
    rcases (hd J hJ).touch id b hb with h | h
    · exact Or.inl h
    · exact Or.inr ⟨h.1, Nat.lt_of_lt_of_le h.2 (hmax J hJ)⟩
  · obtain ⟨J, hJ, hb⟩ := mem_logs.1 hb
    exact (hd J hJ).wlo id hb
  · by_cases hid : (id, true) ∈ logs (K :: Ks)
    · have h' : joinId K Ks id ≠ none := by rw [← (joinBlks_get K Ks _ _ id).1 hid]; exact h
      have : K.blks.get id ≠ none := by
        intro e
        unfold joinId at h'
        rw [e] at h'
        exact h' rfl
      rcases (hd K (by simp)).gone id this with h | h
      · exact Or.inl h
      · exact Or.inr ⟨h.1, Nat.lt_of_lt_of_le h.2 (hmax K (by simp))⟩
    · exact Or.inl (by rw [← (joinBlks_get K Ks _ _ id).2 hid]; exact h)
def joinN (m : N Out) : M Out := fun H => match m { H with log := [] } with
  | none => none
  | some L => joinAll H L
theorem fr_joinN {m : N Out} (hm : FrN m) : Fr (joinN m) := by
  intro H1 o H1' h
  unfold joinN at h
  cases h1 : m { H1 with log := [] } with
  | none => simp [h1] at h
  | some L =>
    simp only [h1] at h
    obtain ⟨a1, a2, a3⟩ := hm _ L h1
    have hdoes : ∀ p ∈ L, Does p.2.log { H1 with log := [] } p.2 := by
      intro p hp
      obtain ⟨es, d⟩ := a2 p hp
      have : p.2.log = es := by simpa using d.log
      rw [this]; exact d
    match L, h, hdoes, a3, h1 with
    | [], h, _, _, _ => exact absurd rfl a1
    | [(o1, K)], h, hdoes, a3, h1 =>
      simp only [joinAll, Option.some.injEq, Prod.mk.injEq] at h
      obtain ⟨rfl, rfl⟩ := h
      have d := hdoes (o1, K) (by simp)
      refine ⟨K.log, ⟨rfl, d.next, d.lo, d.same, d.touch, d.wlo, d.gone⟩, fun H2 hn hl hag => ?_⟩
      obtain ⟨L2, e2, r2⟩ := a3 { H2 with log := [] } hn hl (fun p hp es d' id b hb => by
        simp only [List.mem_singleton] at hp
        subst hp
        rw [d'.uniq d] at hb
        exact hag id b hb)
      cases r2 with
      | @cons _ q _ _ hR hr =>
        cases hr
        obtain ⟨o2, K2⟩ := q
        obtain ⟨x1, x2, x3⟩ := hR
        simp only at x1
        subst x1
        obtain ⟨d2, g2⟩ := x3 _ d
        have hlog : K2.log = K.log := by simpa using d2.log
        exact ⟨{ K2 with log := K2.log ++ H2.log }, by simp [joinN, e2, joinAll], ⟨by rw [hlog], d2.next, d2.lo, d2.same, d2.touch, d2.wlo, d2.gone⟩, x2, g2⟩
    | (o1, K) :: p :: r, h, hdoes, a3, h1 =>
      cases o1 with
      | val v => simp [joinAll] at h
      | exit e T ms =>
        unfold joinAll at h
        simp only at h
        cases hj : joinOuts e ms T (p :: r) with
        | none => simp [hj] at h
        | some T1 =>
          simp only [hj, Option.some.injEq, Prod.mk.injEq] at h
          obtain ⟨rfl, rfl⟩ := h
          have hd : ∀ J ∈ K :: (p :: r).map (·.2), Does J.log { H1 with log := [] } J := by
            intro J hJ
            rcases List.mem_cons.1 hJ with rfl | hJ
            · exact hdoes (.exit e T ms, J) (by simp)
            · obtain ⟨q, hq, rfl⟩ := List.mem_map.1 hJ
              exact hdoes q (List.mem_cons_of_mem _ hq)
          refine ⟨_, does_join hd, fun H2 hn hl hag => ?_⟩
          have hag' : ∀ p' ∈ ((Out.exit e T ms, K) :: p :: r), ∀ id b, (id, b) ∈ p'.2.log → H2.blks.get id = H1.blks.get id := by
            intro p' hp id b hb
            refine hag id b (mem_logs.2 ⟨p'.2, ?_, hb⟩)
            rcases List.mem_cons.1 hp with rfl | hp
            · simp
            · exact List.mem_cons_of_mem _ (List.mem_map.2 ⟨p', hp, rfl⟩)
          obtain ⟨L2, e2, r2⟩ := a3 { H2 with log := [] } hn hl (fun p' hp es d' id b hb => by
            rw [d'.uniq (hdoes p' hp)] at hb
            exact hag' p' hp id b hb)
          have full : All2 (fun p' q : Out × AHeap => q.1 = p'.1 ∧ q.2.next = p'.2.next ∧ q.2.log = p'.2.log ∧ Does q.2.log { H2 with log := [] } q.2 ∧ ∀ id, (id, true) ∈ logs (K :: (p :: r).map (·.2)) ∨ (∃ b, (id, b) ∈ logs (K :: (p :: r).map (·.2))) → q.2.blks.get id = p'.2.blks.get id) ((Out.exit e T ms, K) :: p :: r) L2 := by
            refine r2.imp fun p' q hp hR => ?_
            obtain ⟨d2, g2⟩ := hR.does _ (hdoes p' hp)
            have hlog : q.2.log = p'.2.log := by simpa using d2.log
            refine ⟨hR.out, hR.next, hlog, by rw [hlog]; exact d2, fun id hid => ?_⟩
            have hid : ∃ b, (id, b) ∈ logs (K :: (p :: r).map (·.2)) := by rcases hid with h | h; exact ⟨_, h⟩; exact h
            obtain ⟨b, hb⟩ := hid
            by_cases hin : ∃ c, (id, c) ∈ p'.2.log
            · obtain ⟨c, hc⟩ := hin; exact g2 id c hc
            · rw [d2.same id (fun h => hin ⟨_, h⟩), (hdoes p' hp).same id (fun h => hin ⟨_, h⟩)]
              exact hag id b hb
          cases full with
          | @cons _ q _ L3 hq hL3 =>
            obtain ⟨o2, K2⟩ := q
            obtain ⟨x1, x2, x3, x4, x5⟩ := hq
            simp only at x1 x2 x3 x4 x5
            subst x1
            cases hL3 with
            | @cons _ q2 _ L4 hq2 hL4 =>
              have hall : All2 (fun p' q : Out × AHeap => q.1 = p'.1 ∧ q.2.next = p'.2.next ∧ q.2.log = p'.2.log ∧ Does q.2.log { H2 with log := [] } q.2 ∧ ∀ id, (id, true) ∈ logs (K :: (p :: r).map (·.2)) ∨ (∃ b, (id, b) ∈ logs (K :: (p :: r).map (·.2))) → q.2.blks.get id = p'.2.blks.get id) (p :: r) (q2 :: L4) := .cons hq2 hL4
              have j2 : joinOuts e ms T (q2 :: L4) = some T1 := by rw [joinOuts_congr (p :: r) (q2 :: L4) T (hall.imp fun _ _ _ h => h.1)]; exact hj
              have l2 : logs (K2 :: (q2 :: L4).map (·.2)) = logs (K :: (p :: r).map (·.2)) := logs_congr _ _ (.cons x3 ((hall.imp fun _ _ _ h => h.2.2.1).map))
              have n2 : maxNext K2.next ((q2 :: L4).map (·.2)) = maxNext K.next ((p :: r).map (·.2)) := by rw [x2]; exact maxNext_congr _ _ _ ((hall.imp fun _ _ _ h => h.2.1).map)
              have hd2 : ∀ J ∈ K2 :: (q2 :: L4).map (·.2), Does J.log { H2 with log := [] } J := by
                intro J hJ
                rcases List.mem_cons.1 hJ with rfl | hJ
                · exact x4
                · obtain ⟨q, hq, rfl⟩ := List.mem_map.1 hJ
                  obtain ⟨p', _, h⟩ := hall.mem q hq
                  exact h.2.2.2.1
              refine ⟨_, by unfold joinN; simp only [e2]; unfold joinAll; simp only [j2]; rfl, by rw [← l2]; exact does_join hd2, n2, fun id b hb => ?_⟩
              simp only [l2]
              by_cases hid : (id, true) ∈ logs (K :: (p :: r).map (·.2))
              · rw [(joinBlks_get _ _ _ _ id).1 hid, (joinBlks_get _ _ _ _ id).1 hid]
                unfold joinId
                rw [x5 id (Or.inl hid)]
                split
                · exact joinAt_congr id _ _ _ ((hall.imp fun _ _ _ h => h.2.2.2.2 id (Or.inl hid)).map)
                · rfl
              · rw [(joinBlks_get _ _ _ _ id).2 hid, (joinBlks_get _ _ _ _ id).2 hid]
                exact hag id b hb

/-! ### every operation -/
section
variable (P : Program)
theorem fr_newCells (elem : TypeId) (cs : List AVal) : Fr (newCells elem cs) := fr_cond _ (fr_nw _) fr_fail
theorem fr_allocA (t : TypeId) : Fr (allocA P t) := by
  unfold allocA; split
  · exact fr_bd (fr_newCells _ _) fun _ => fr_ret _
  · exact fr_fail
theorem fr_boxA (t : TypeId) (v : AVal) : Fr (boxA t v) := fr_bd (fr_newCells _ _) fun _ => fr_ret _
theorem fr_loadCellsA (b o n : Nat) : Fr (loadCellsA b o n) := fr_bd (fr_rd _) fun _ => by split <;> first | exact fr_lift _ | exact fr_fail
theorem fr_loadA (t : TypeId) (b o : Nat) : Fr (loadA P t b o) := by
  unfold loadA
  repeat' first | exact fr_fail | exact fr_lift _ | exact fr_ret _ | exact fr_loadCellsA _ _ _ | exact fr_rd _ | (refine fr_bd ?_ fun _ => ?_) | split
theorem fr_gloadA (t : TypeId) (g : Nat) : Fr (gloadA P t g) := by
  unfold gloadA
  repeat' first | exact fr_fail | exact fr_ret _ | exact fr_rd _ | (refine fr_cond _ ?_ ?_) | (refine fr_bd ?_ fun _ => ?_) | split
theorem fr_storeCellsA (b o : Nat) (vs : List AVal) : Fr (storeCellsA b o vs) := fr_bd (fr_rd _) fun _ => by
  split
  · exact fr_cond _ (fr_wr _ _) fr_fail
  · exact fr_fail
theorem fr_storeA (t : TypeId) (p v : AVal) : Fr (storeA P t p v) := by
  unfold storeA
  repeat' first | exact fr_fail | exact fr_storeCellsA _ _ _ | (refine fr_cond _ ?_ ?_) | split
theorem fr_buildSliceA (t : TypeId) (n : Nat) (l : List (Nat × AVal)) : Fr (buildSliceA P t n l) := by
  unfold buildSliceA
  repeat' first | exact fr_fail | exact fr_ret _ | exact fr_newCells _ _ | (refine fr_cond _ ?_ ?_) | (refine fr_bd ?_ fun _ => ?_) | split
theorem fr_makeSliceA (t : TypeId) (l c : AVal) : Fr (makeSliceA P t l c) := by
  unfold makeSliceA
  simp only [frcN_eq]
  repeat' first | exact fr_fail | exact fr_ret _ | exact fr_newCells _ _ | (refine fr_cond _ ?_ ?_) | (refine fr_bd ?_ fun _ => ?_) | split
theorem fr_sliceM (t : TypeId) (x : AVal) (lo hi mx : Option AVal) : Fr (sliceM P t x lo hi mx) := by
  unfold sliceM
  repeat' first | exact fr_fail | exact fr_lift _ | exact fr_rd _ | (refine fr_cond _ ?_ ?_) | (refine fr_bd ?_ fun _ => ?_) | split
theorem fr_firstA (es n : Nat) (x : AVal) : Fr (firstA es n x) := by
  unfold firstA
  repeat' first | exact fr_fail | exact fr_ret _ | exact fr_loadCellsA _ _ _ | (refine fr_cond _ ?_ ?_) | split
theorem fr_killC (b : Nat) (e : TypeId) : Fr (killC b e) := fr_bd (fr_rd _) fun _ => by
  split
  · exact fr_cond _ (fr_kill _) fr_fail
  · exact fr_fail
theorem fr_appendA (st xt : TypeId) (s x : AVal) : Fr (appendA P st xt s x) := by
  unfold appendA
  simp only [frcN_eq]
  repeat' first | exact fr_fail | exact fr_ret _ | exact fr_newCells _ _ | exact fr_firstA _ _ _ | exact fr_storeCellsA _ _ _ | exact fr_killC _ _ | (refine fr_cond _ ?_ ?_) | (refine fr_bd ?_ fun _ => ?_) | split
theorem fr_copyA (t : TypeId) (d s : AVal) : Fr (copyA P t d s) := by
  unfold copyA
  simp only [frcN_eq]
  repeat' first | exact fr_fail | exact fr_ret _ | exact fr_firstA _ _ _ | exact fr_storeCellsA _ _ _ | (refine fr_cond _ ?_ ?_) | (refine fr_bd ?_ fun _ => ?_) | split
theorem fr_lenA (t : TypeId) (x : AVal) : Fr (lenA P t x) := by
  unfold lenA
  simp only [frcN_eq]
  repeat' first | exact fr_fail | exact fr_ret _ | exact fr_rd _ | (refine fr_bd ?_ fun _ => ?_) | split
theorem fr_clearA (t : TypeId) (x : AVal) : Fr (clearA P t x) := by
  unfold clearA
  repeat' first | exact fr_fail | exact fr_ret _ | exact fr_rd _ | exact fr_wr _ _ | exact fr_storeCellsA _ _ _ | (refine fr_cond _ ?_ ?_) | (refine fr_bd ?_ fun _ => ?_) | split
theorem fr_lookupA (t : TypeId) (x k : AVal) (ok : Bool) : Fr (lookupA P t x k ok) := by
  unfold lookupA
  repeat' first | exact fr_fail | exact fr_ret _ | exact fr_lift _ | exact fr_rd _ | (refine fr_cond _ ?_ ?_) | (refine fr_bd ?_ fun _ => ?_) | split
theorem fr_mapUpdateA (t : TypeId) (m k v : AVal) : Fr (mapUpdateA P t m k v) := by
  unfold mapUpdateA
  simp only [frcN_eq]
  repeat' first | exact fr_fail | exact fr_ret _ | exact fr_lift _ | exact fr_rd _ | exact fr_wr _ _ | (refine fr_cond _ ?_ ?_) | (refine fr_bd ?_ fun _ => ?_) | split
theorem fr_deleteA (t : TypeId) (m k : AVal) : Fr (deleteA P t m k) := by
  unfold deleteA
  repeat' first | exact fr_fail | exact fr_ret _ | exact fr_lift _ | exact fr_rd _ | exact fr_wr _ _ | (refine fr_cond _ ?_ ?_) | (refine fr_bd ?_ fun _ => ?_) | split
theorem fr_rangeA (t : TypeId) (x : AVal) : Fr (rangeA P t x) := by
  unfold rangeA
  repeat' first | exact fr_fail | exact fr_ret _ | exact fr_rd _ | exact fr_nw _ | (refine fr_bd ?_ fun _ => ?_) | split
theorem fr_entryA (x : AVal) : Fr (entryA x) := by
  unfold entryA
  repeat' first | exact fr_fail | exact fr_ret _ | exact fr_rd _ | (refine fr_cond _ ?_ ?_) | (refine fr_bd ?_ fun _ => ?_) | split
theorem fr_headA (x : AVal) : Fr (headA x) := by
  unfold headA
  repeat' first | exact fr_fail | exact fr_ret _ | exact fr_rd _ | (refine fr_cond _ ?_ ?_) | (refine fr_bd ?_ fun _ => ?_) | split
theorem fr_get (t : TypeId) (x : APl) : Fr (x.get P t) := by
  cases x
  · exact fr_ret _
  · exact fr_loadA _ _ _ _
theorem fr_stepA (s : FieldStep) (x : APl) (t : TypeId) : Fr (stepA P s x t) := by
  unfold stepA
  repeat' first | exact fr_fail | exact fr_ret _ | exact fr_get _ _ _ | (refine fr_cond _ ?_ ?_) | (refine fr_bd ?_ fun _ => ?_) | split
theorem fr_followA : ∀ (l : List FieldStep) (t : TypeId) (x : APl), Fr (followA P l t x)
  | [], _, _ => fr_ret _
  | _ :: l, _, _ => fr_bd (fr_stepA _ _ _ _) fun _ => fr_followA l _ _
theorem fr_receiverA (t : TypeId) (x : APl) (b : Bool) : Fr (receiverA P t x b) := by
  unfold receiverA
  repeat' first | exact fr_fail | exact fr_ret _ | exact fr_get _ _ _ | exact fr_loadA _ _ _ _ | (refine fr_cond _ ?_ ?_) | (refine fr_bd ?_ fun _ => ?_) | split
theorem fr_methodA (t : TypeId) (v : AVal) (n : String) : Fr (methodA P t v n) := by
  unfold methodA
  repeat' first | exact fr_fail | exact fr_ret _ | exact fr_followA _ _ _ _ | exact fr_receiverA _ _ _ _ | (refine fr_bd ?_ fun _ => ?_) | split
theorem fr_builtinA (b : Builtin) (ts : List TypeId) (as : List AVal) : Fr (builtinA P b ts as) := by
  unfold builtinA
  split <;> first | exact fr_fail | exact fr_appendA _ _ _ _ _ | exact fr_lenA _ _ _ | exact fr_clearA _ _ _ | exact fr_lift _ | exact fr_copyA _ _ _ _ | exact fr_deleteA _ _ _ _
theorem fr_goA (k : FuncId) (as : List AVal) : Fr (goA P k as) := fr_cond _ (fr_ret _) fr_fail
theorem fr_callA (T : Tmps) (c : Call) : Fr (callA P T c) := by
  unfold callA
  repeat' first | exact fr_fail | exact fr_ret _ | exact fr_rd _ | (refine fr_cond _ ?_ ?_) | exact fr_goA _ _ _ | exact fr_builtinA _ _ _ _ | exact fr_methodA _ _ _ _ | (refine fr_bd ?_ fun _ => ?_) | split
theorem fr_opA (T : Tmps) (o : Op) : Fr (opA P T o) := by
  unfold opA
  cases o <;> simp only <;> repeat' first | exact fr_fail | exact fr_ret _ | exact fr_lift _ | exact fr_allocA _ _ | exact fr_rangeA _ _ _ | exact fr_entryA _ | exact fr_boxA _ _ | exact fr_buildSliceA _ _ _ _ | exact fr_loadA _ _ _ _ | exact fr_gloadA _ _ _ | exact fr_storeA _ _ _ _ | exact fr_makeSliceA _ _ _ _ | exact fr_sliceM _ _ _ _ _ _ | exact fr_lookupA _ _ _ _ _ | exact fr_mapUpdateA _ _ _ _ _ | exact fr_callA _ _ _ | (refine fr_bd ?_ fun _ => ?_) | exact fr_nw _ | (refine fr_cond _ ?_ ?_) | split | (show Fr (bd (nw _) _))

def FrX (X : Told) : Prop := ∀ f g args, X f = some g → Fr (g args)
theorem frX_none : FrX noExt := fun _ _ _ h => by cases h
theorem fr_outVal {m : M Out} (h : Fr m) : Fr (outVal m) := fr_bd h fun _ => by split <;> first | exact fr_ret _ | exact fr_fail
section
variable {ih : Task → M Out} (hih : ∀ t, Fr (ih t))
include hih
theorem fr_nextA (x : ANext) : Fr (nextA ih x) := by
  unfold nextA
  split <;> first | exact fr_ret _ | exact fr_outVal (hih _)
theorem fr_valOp (all : List Oper) (o : Oper) (T : Tmps) : Fr (valOp P ih all o T) := by
  unfold valOp
  split
  · exact fr_bd (fr_opA _ _ _) fun _ => fr_nextA hih _
  · exact fr_ret _
  · exact fr_fail
theorem fr_oneOp (nt : Nat) (all : List Oper) (o : Oper) (T : Tmps) : Fr (oneOp P ih nt all o T) := fr_bd (fr_valOp P hih _ _ _) fun _ => fr_lift _
theorem fr_opsA (nt : Nat) (all : List Oper) : ∀ (l : List Oper) (T : Tmps), Fr (opsA P ih nt all l T)
  | [], _ => fr_ret _
  | _ :: l, _ => fr_bd (fr_oneOp P hih _ _ _ _) fun _ => fr_opsA nt all l _
theorem fr_opsD (nt : Nat) (all : Array Oper) : ∀ (l : List Oper) (mks : List Nat) (done : List (Oper × List (Nat × Bool))) (T : Tmps), Fr (opsD P ih nt all l mks done T)
  | [], _, _, _ => fr_ret _
  | _ :: _, [], _, _ => fr_fail
  | _ :: l, _ :: mks, _, _ => fr_bd (fr_capture (fr_oneOp P hih _ _ _ _)) fun _ => fr_cond _ (fr_opsD nt all l mks _ _) fr_fail
omit hih in
theorem fr_resultsA (T : Tmps) : ∀ l : List ResultVar, Fr (resultsA P T l)
  | [] => fr_ret _
  | .tmp _ :: l => fr_bd (fr_resultsA T l) fun _ => fr_ret _
  | .cell a t :: l => by
    unfold resultsA
    split
    · exact fr_bd (fr_loadA _ _ _ _) fun _ => fr_bd (fr_resultsA T l) fun _ => fr_ret _
    · exact fr_fail
omit hih in
theorem fr_quietEnd (o : Out) : Fr (quietEnd o) := by
  unfold quietEnd
  split <;> first | exact fr_ret _ | exact fr_fail
theorem fr_runDef (k : FuncId) (args : List AVal) : Fr (runDef P ih k args) := by
  unfold runDef
  repeat' first | exact fr_fail | exact hih _ | exact fr_quietEnd _ | (refine fr_cond _ ?_ ?_) | (refine fr_bd ?_ fun _ => ?_) | split
theorem fr_takeMarks : ∀ l : List Mk, Fr (takeMarks P ih l)
  | [] => fr_ret _
  | .mark _ :: l => fr_bd (fr_rd _) fun _ => by
    split
    · exact fr_bd (fr_wr _ _) fun _ => fr_takeMarks l
    · exact fr_fail
  | .call _ _ :: l => fr_bd (fr_runDef P hih _ _) fun _ => fr_takeMarks l
omit hih in
theorem fr_enterA (r : Option Nat) : Fr (enterA r) := by
  unfold enterA
  repeat' first | exact fr_fail | exact fr_ret _ | exact fr_rd _ | exact fr_nw _ | (refine fr_bd ?_ fun _ => ?_) | split
theorem frN_mapRounds (nt : Nat) (r : Option Nat) (s : MapStep) : ∀ (k : Nat) (T : Tmps) (ms : List Mk), FrN (mapRounds ih nt r s k T ms)
  | 0, _, _ => frN_none
  | k + 1, T, ms => by
    unfold mapRounds
    refine frN_bd (frN_one (fr_headA _)) fun h => ?_
    split
    · refine frN_one (fr_bd (hih _) fun o => ?_)
      split
      · exact fr_fail
      · exact fr_ret _
    · refine frN_bd (frN_each _ _) fun e => frN_bd (frN_one (fr_bd (fr_wr _ _) fun _ => hih _)) fun o => ?_
      split
      · exact frN_mapRounds nt r s k _ _
      · exact frN_one (fr_ret _)
theorem fr_mapLoop (nt : Nat) (r : Option Nat) (s : MapStep) (T : Tmps) (ms : List Mk) : Fr (mapLoop ih nt r s T ms) := fr_cond _ (fr_joinN (frN_mapRounds hih nt r s 1000 T ms)) fr_fail
theorem fr_runCode (nt : Nat) (r : Option Nat) (c : Code) (T : Tmps) (ms : List Mk) : Fr (runCode P ih nt r c T ms) := by
  unfold runCode
  repeat' first | exact fr_fail | exact fr_mapLoop hih _ _ _ _ _ | exact fr_ret _ | exact hih _ | exact fr_outVal (hih _) | exact fr_rd _ | exact fr_wr _ _ | exact fr_nw _ | exact fr_enterA _ | exact fr_opsD P hih _ _ _ _ _ _ | exact fr_opsA P hih _ _ _ _ | (refine fr_cond _ ?_ ?_) | (refine fr_bd ?_ fun _ => ?_) | split
theorem fr_runCall (f : FuncId) (args : List AVal) : Fr (runCall P ih f args) := by
  unfold runCall
  repeat' first | exact fr_fail | exact fr_ret _ | exact hih _ | exact fr_takeMarks P hih _ | exact fr_resultsA _ _ _ | (refine fr_cond _ ?_ ?_) | (refine fr_bd ?_ fun _ => ?_) | split
omit hih in
theorem fr_endRoundA (l : Nat) (e : AExit) : Fr (endRoundA l e) := by
  unfold endRoundA
  repeat' first | exact fr_fail | exact fr_ret _ | exact fr_rd _ | exact fr_wr _ _ | (refine fr_bd ?_ fun _ => ?_) | split
omit hih in
theorem fr_beginA (l : Nat) : Fr (beginA l) := by
  unfold beginA
  repeat' first | exact fr_fail | exact fr_ret _ | exact fr_rd _ | exact fr_wr _ _ | (refine fr_bd ?_ fun _ => ?_) | split
theorem fr_runRound (l : Nat) (args : List AVal) : Fr (runRound ih l args) := by
  unfold runRound
  repeat' first | exact fr_fail | exact fr_ret _ | exact hih _ | exact fr_rd _ | exact fr_beginA _ | exact fr_endRoundA _ _ | (refine fr_bd ?_ fun _ => ?_) | split
theorem fr_runStep {X : Told} (hX : FrX X) (t : Task) : Fr (runStep P X ih t) := by
  cases t with
  | code => exact fr_runCode P hih _ _ _ _ _
  | call f args =>
    show Fr (match X f with
      | some g => bd (g args) fun v => ret (.val v)
      | none => runCall P ih f args)
    split
    · rename_i g hg
      exact fr_bd (hX f g args hg) fun _ => fr_ret _
    · exact fr_runCall P hih _ _
  | round => exact fr_runRound hih _ _
end
theorem fr_run {X : Told} (hX : FrX X) : ∀ (n : Nat) (t : Task), Fr (run P X n t)
  | 0, _ => fr_fail
  | n + 1, t => fr_runStep P (fr_run hX n) hX t
end
end Go.AM
namespace Go.AM
open Go Go.RowKit

/-! ### taking work apart -/
section
variable {α β : Type}
theorem bd_some {m : M α} {f : α → M β} {H : AHeap} {r : β × AHeap} (h : bd m f H = some r) : ∃ a H', m H = some (a, H') ∧ f a H' = some r := by
  unfold bd at h
  cases h1 : m H with
  | none => simp [h1] at h
  | some p => obtain ⟨a, H'⟩ := p; simp only [h1] at h; exact ⟨a, H', rfl, h⟩
theorem ret_some {a : α} {H : AHeap} {r : α × AHeap} (h : ret a H = some r) : r = (a, H) := by simp [ret] at h; exact h.symm
theorem lift_some {o : Option α} {H : AHeap} {r : α × AHeap} (h : lift o H = some r) : ∃ a, o = some a ∧ r = (a, H) := by
  cases o with
  | none => simp [lift] at h
  | some a => exact ⟨a, rfl, by simp [lift] at h; exact h.symm⟩
theorem fail_some {H : AHeap} {r : α × AHeap} (h : (fail : M α) H = some r) : False := by simp [fail] at h
theorem cond_some {b : Bool} {x : M α} {H : AHeap} {r : α × AHeap} (h : cond b x fail H = some r) : b = true ∧ x H = some r := by
  cases b with
  | true => exact ⟨rfl, h⟩
  | false => exact (fail_some (H := H) h).elim
theorem condO_some {b : Bool} {x : Option α} {r : α} (h : cond b x none = some r) : b = true ∧ x = some r := by
  cases b with
  | true => exact ⟨rfl, h⟩
  | false => cases h
end

/-! ### the relation -/
structure Loc where
  blk : Nat
  sh : Nat
  sz : Nat
abbrev Ren := Nat → Option Loc

/-- '.opq 0': some value of one cell; the others: the value that stands for the number -/
def opqR (σ : Nat → Value) (v : Value) : Nat → Prop
  | 0 => v.oneCell' = true
  | i + 1 => v = σ (i + 1)
mutual
def Rel (σ : Nat → Value) (ρ : Ren) : AVal → Value → Prop
  | .bool b, v => v = .bool b
  | .int k n, v => v = .int k n
  | .str s, v => v = .string s
  | .ptr b o, v => ∃ L, ρ b = some L ∧ v = .pointer (some ⟨L.blk, L.sh + o, none⟩)
  | .nilptr, v => v = .pointer none
  | .slc b o len cap es, v => ∃ L a c, ρ b = some L ∧ v = .slice (some a) len c ∧ ((a = ⟨L.blk, L.sh + o, none⟩ ∧ L.sh + o + c * es ≤ L.sz) ∨ (len = 0 ∧ c = 0)) ∧ len ≤ c ∧ ∀ k, cap = some k → c = k
  | .nilslc, v => v = .slice none 0 0
  | .map b, v => ∃ L, ρ b = some L ∧ v = .map (some L.blk)
  | .nilmap, v => v = .map none
  | .fn f as bs, v => ∃ as' bs' : Array Value, v = .func f as' bs' ∧ RelL σ ρ as as'.toList ∧ RelL σ ρ bs bs'.toList
  | .yield l, v => ∃ L, ρ l = some L ∧ v = .func (.yield L.blk) #[] #[]
  | .nilFunc, v => v = .nilFunc
  | .ifc t x, v => ∃ x', v = .iface t x' ∧ Rel σ ρ x x'
  | .nilIface, v => v = .nilIface
  | .agg cs, v => ∃ cs' : Array Value, v = .agg cs' ∧ RelL σ ρ cs cs'.toList
  | .tup cs, v => ∃ cs' : Array Value, v = .tuple cs' ∧ RelL σ ρ cs cs'.toList
  | .opq i, v => opqR σ v i
def RelL (σ : Nat → Value) (ρ : Ren) : List AVal → List Value → Prop
  | [], l => l = []
  | x :: xs, l => ∃ y ys, l = y :: ys ∧ Rel σ ρ x y ∧ RelL σ ρ xs ys
end

def Le (ρ ρ' : Ren) : Prop := ∀ id L, ρ id = some L → ρ' id = some L
theorem Le.refl (ρ : Ren) : Le ρ ρ := fun _ _ h => h
theorem Le.trans {a b c : Ren} (h : Le a b) (k : Le b c) : Le a c := fun i L x => k i L (h i L x)

mutual
theorem Rel.mono {σ : Nat → Value} {ρ ρ' : Ren} (h : Le ρ ρ') : ∀ (x : AVal) (v : Value), Rel σ ρ x v → Rel σ ρ' x v
  | .bool _, _, r => r
  | .int _ _, _, r => r
  | .str _, _, r => r
  | .ptr _ _, _, r => by unfold Rel at r ⊢; obtain ⟨L, h1, h2⟩ := r; exact ⟨L, h _ _ h1, h2⟩
  | .nilptr, _, r => r
  | .slc _ _ _ _ _, _, r => by unfold Rel at r ⊢; obtain ⟨L, o, c, h1, h2⟩ := r; exact ⟨L, o, c, h _ _ h1, h2⟩
  | .nilslc, _, r => r
  | .map _, _, r => by unfold Rel at r ⊢; obtain ⟨L, h1, h2⟩ := r; exact ⟨L, h _ _ h1, h2⟩
  | .nilmap, _, r => r
  | .fn _ as bs, _, r => by unfold Rel at r ⊢; obtain ⟨a, b, h1, h2, h3⟩ := r; exact ⟨a, b, h1, RelL.mono h as _ h2, RelL.mono h bs _ h3⟩
  | .yield _, _, r => by unfold Rel at r ⊢; obtain ⟨L, h1, h2⟩ := r; exact ⟨L, h _ _ h1, h2⟩
  | .nilFunc, _, r => r
  | .ifc _ x, _, r => by unfold Rel at r ⊢; obtain ⟨y, h1, h2⟩ := r; exact ⟨y, h1, Rel.mono h x _ h2⟩
  | .nilIface, _, r => r
  | .agg cs, _, r => by unfold Rel at r ⊢; obtain ⟨y, h1, h2⟩ := r; exact ⟨y, h1, RelL.mono h cs _ h2⟩
  | .tup cs, _, r => by unfold Rel at r ⊢; obtain ⟨y, h1, h2⟩ := r; exact ⟨y, h1, RelL.mono h cs _ h2⟩
  | .opq _, _, r => r
theorem RelL.mono {σ : Nat → Value} {ρ ρ' : Ren} (h : Le ρ ρ') : ∀ (x : List AVal) (v : List Value), RelL σ ρ x v → RelL σ ρ' x v
  | [], _, r => r
  | x :: xs, _, r => by unfold RelL at r ⊢; obtain ⟨y, ys, h1, h2, h3⟩ := r; exact ⟨y, ys, h1, Rel.mono h x _ h2, RelL.mono h xs _ h3⟩
end

section lists
variable {σ : Nat → Value} {ρ : Ren}
theorem RelL.length : ∀ {xs : List AVal} {ys : List Value}, RelL σ ρ xs ys → ys.length = xs.length
  | [], _, r => by unfold RelL at r; subst r; rfl
  | _ :: xs, _, r => by unfold RelL at r; obtain ⟨y, ys, rfl, _, h⟩ := r; simp [RelL.length h]
theorem RelL.get : ∀ {xs : List AVal} {ys : List Value}, RelL σ ρ xs ys → ∀ (i : Nat) (x : AVal), xs[i]? = some x → ∃ y, ys[i]? = some y ∧ Rel σ ρ x y
  | [], _, _, i, x, h => by simp at h
  | x :: xs, _, r, i, z, h => by
    unfold RelL at r; obtain ⟨y, ys, rfl, h1, h2⟩ := r
    cases i with
    | zero => simp at h; subst h; exact ⟨y, rfl, h1⟩
    | succ i => simp at h ⊢; exact RelL.get h2 i z h
theorem RelL.of_get : ∀ {xs : List AVal} {ys : List Value}, ys.length = xs.length → (∀ (i : Nat) (x : AVal) (y : Value), xs[i]? = some x → ys[i]? = some y → Rel σ ρ x y) → RelL σ ρ xs ys
  | [], ys, hl, _ => by unfold RelL; cases ys <;> simp_all
  | x :: xs, ys, hl, h => by
    cases ys with
    | nil => simp at hl
    | cons y ys => unfold RelL; exact ⟨y, ys, rfl, h 0 x y rfl rfl, RelL.of_get (by simpa using hl) fun i a b ha hb => h (i + 1) a b (by simpa using ha) (by simpa using hb)⟩
theorem RelL.append {a c : List AVal} {b d : List Value} (h : RelL σ ρ a b) (k : RelL σ ρ c d) : RelL σ ρ (a ++ c) (b ++ d) := by
  induction a generalizing b with
  | nil => unfold RelL at h; subst h; exact k
  | cons x xs ih => unfold RelL at h; obtain ⟨y, ys, rfl, h1, h2⟩ := h; show RelL σ ρ (x :: (xs ++ c)) _; unfold RelL; exact ⟨y, ys ++ d, rfl, h1, ih h2⟩
theorem RelL.take {a : List AVal} {b : List Value} (h : RelL σ ρ a b) (n : Nat) : RelL σ ρ (a.take n) (b.take n) := by
  refine RelL.of_get (by simp [h.length]) fun i x y hx hy => ?_
  rw [List.getElem?_take] at hx hy
  split at hx
  · rename_i hn
    rw [if_pos hn] at hy
    obtain ⟨z, hz, hr⟩ := h.get i x hx
    rw [hz] at hy; cases hy; exact hr
  · cases hx
theorem RelL.drop {a : List AVal} {b : List Value} (h : RelL σ ρ a b) (n : Nat) : RelL σ ρ (a.drop n) (b.drop n) := by
  refine RelL.of_get (by simp [h.length]) fun i x y hx hy => ?_
  rw [List.getElem?_drop] at hx hy
  obtain ⟨z, hz, hr⟩ := h.get _ x hx
  rw [hz] at hy; cases hy; exact hr
theorem rel_undef : Rel σ ρ .undef undef := by
  show Rel σ ρ (.tup []) _
  unfold Rel
  exact ⟨#[], rfl, by unfold RelL; rfl⟩
theorem RelL.nil : RelL σ ρ [] [] := by unfold RelL; rfl
theorem RelL.cons {x : AVal} {xs : List AVal} {y : Value} {ys : List Value} (h : Rel σ ρ x y) (k : RelL σ ρ xs ys) : RelL σ ρ (x :: xs) (y :: ys) := by
  unfold RelL; exact ⟨y, ys, rfl, h, k⟩
end lists

/-- what stands for the values that are never looked into: each fills one cell -/
def One (σ : Nat → Value) : Prop := ∀ i, (σ i).oneCell' = true
theorem opqR_one {σ : Nat → Value} {v : Value} (hσ : One σ) : ∀ {i : Nat}, opqR σ v i → v.oneCell' = true
  | 0, h => h
  | i + 1, h => by have h : v = σ (i + 1) := h; rw [h]; exact hσ _
theorem one_cell {σ : Nat → Value} {ρ : Ren} (hσ : One σ) {x : AVal} {v : Value} (h : Rel σ ρ x v) (hx : x.one = true) : v.oneCell' = true := by
  cases x <;> simp [AVal.one] at hx <;> unfold Rel at h
  all_goals first
    | (subst h; rfl)
    | (obtain ⟨_, _, rfl⟩ := h; rfl)
    | (obtain ⟨_, _, _, _, rfl, _⟩ := h; rfl)
    | (obtain ⟨_, _, rfl, _⟩ := h; rfl)
    | (obtain ⟨_, rfl, _⟩ := h; rfl)
    | exact opqR_one hσ h
theorem rel_cells {σ : Nat → Value} {ρ : Ren} (hσ : One σ) {x : AVal} {v : Value} (h : Rel σ ρ x v) : RelL σ ρ x.cells v.cells.toList := by
  cases x
  case agg cs => unfold Rel at h; obtain ⟨cs', rfl, h⟩ := h; exact h
  case opq i =>
    have h' := h
    unfold Rel at h'
    have := opqR_one hσ h'
    have e : v.cells = #[v] := by cases v <;> simp [Value.oneCell'] at this <;> rfl
    rw [e]; exact .cons h .nil
  all_goals (
    have h' := h
    unfold Rel at h'
    have e : v.cells = #[v] := by
      first
      | (subst h'; rfl)
      | (obtain ⟨_, _, rfl⟩ := h'; rfl)
      | (obtain ⟨_, _, _, _, rfl, _⟩ := h'; rfl)
      | (obtain ⟨_, _, rfl, _⟩ := h'; rfl)
      | (obtain ⟨_, rfl, _⟩ := h'; rfl)
    rw [e]; exact .cons h .nil)

def tget (T : Tmps) (i : Nat) : AVal := (T.get i).getD .undef
structure TRel (σ : Nat → Value) (ρ : Ren) (nt : Nat) (T : Tmps) (tm : Array Value) : Prop where
  size : tm.size = nt
  at_ : ∀ i, Rel σ ρ (tget T i) (tm.getD i undef)
theorem TRel.mono {σ : Nat → Value} {ρ ρ' : Ren} {nt : Nat} {T : Tmps} {tm : Array Value} (h : TRel σ ρ nt T tm) (hl : Le ρ ρ') : TRel σ ρ' nt T tm :=
  ⟨h.size, fun i => Rel.mono hl _ _ (h.at_ i)⟩

structure ERel (σ : Nat → Value) (ρ : Ren) (e : AEnt) (e' : MapEntry) : Prop where
  key : Rel σ ρ e.key e'.key
  val : Rel σ ρ e.val e'.val
  born : e'.born = e.born
structure EsRel (σ : Nat → Value) (ρ : Ren) (es : List AEnt) (es' : List MapEntry) : Prop where
  len : es'.length = es.length
  at_ : ∀ (i : Nat) (e : AEnt) (e' : MapEntry), es[i]? = some e → es'[i]? = some e' → ERel σ ρ e e'
theorem EsRel.mono {σ : Nat → Value} {ρ ρ' : Ren} {a : List AEnt} {b : List MapEntry} (h : EsRel σ ρ a b) (hl : Le ρ ρ') : EsRel σ ρ' a b :=
  ⟨h.len, fun i e e' x y => let k := h.at_ i e e' x y; ⟨Rel.mono hl _ _ k.key, Rel.mono hl _ _ k.val, k.born⟩⟩

/-- what a block of concrete memory holds for an abstract one -/
def BR (σ : Nat → Value) (ρ : Ren) (own : Prop) (L : Loc) : ABlk → Option Obj → Prop
  | .cells elem c n, o => ∃ (cc : Array Value) (fr : Nat × Nat), o = some (.cells cc elem fr) ∧ (own → fr = (0, 0)) ∧ cc.size = L.sz ∧ L.sh + n ≤ cc.size ∧
      ∀ i v, c.get i = some v → ∃ v', cc[L.sh + i]? = some v' ∧ Rel σ ρ v v' ∧ v'.oneCell' = true
  | .map es clock, o => ∃ es' : Array MapEntry, o = some (.map es' clock) ∧ EsRel σ ρ es es'.toList
  | .loop st pd nt T ps as bo d, o => ∃ (fn : FuncId) (tm : Array Value) (D : Loc), ρ d = some D ∧
      o = some (.loop { state := st, pending := pd, fn := fn, tmps := tm, params := ps.toArray, assign := as, body := bo, defers := D.blk }) ∧ TRel σ ρ nt T tm
  | .deferred b, o => o = some (.deferred (if b then some [] else none))
  | .iter m since seen st, o => L.sh = 0 ∧ ∃ M, (match m with | none => M = none | some i => ∃ D : Loc, ρ i = some D ∧ M = some D.blk) ∧ o = some (.mapIter M since seen.toArray st)
  | .glob g v, o => L.blk = g ∧ ∃ (vs : List Value) (elem : TypeId) (fr : Nat × Nat), o = some (.cells vs.toArray elem fr) ∧ RelL σ ρ v.cells vs ∧ ∀ x ∈ vs, x.oneCell' = true
  | .one v, o => L.sh = 0 ∧ ∃ (v' : Value) (elem : TypeId) (fr : Nat × Nat), o = some (.cells #[v'] elem fr) ∧ Rel σ ρ v v'
theorem BR.mono {σ : Nat → Value} {ρ ρ' : Ren} {own : Prop} {L : Loc} {b : ABlk} {o : Option Obj} (h : BR σ ρ own L b o) (hl : Le ρ ρ') : BR σ ρ' own L b o := by
  cases b with
  | cells elem c n => obtain ⟨cc, fr, h1, h2, h3, h4, h5⟩ := h; exact ⟨cc, fr, h1, h2, h3, h4, fun i v hv => let ⟨v', a, b, c⟩ := h5 i v hv; ⟨v', a, Rel.mono hl _ _ b, c⟩⟩
  | map es clock => obtain ⟨es', h1, h2⟩ := h; exact ⟨es', h1, h2.mono hl⟩
  | loop st pd nt T ps as bo d => obtain ⟨fn, tm, D, h1, h2, h3⟩ := h; exact ⟨fn, tm, D, hl _ _ h1, h2, h3.mono hl⟩
  | deferred b => exact h
  | iter m since seen st =>
    obtain ⟨h0, M, h1, h2⟩ := h
    refine ⟨h0, M, ?_, h2⟩
    cases m with
    | none => exact h1
    | some i => obtain ⟨D, h3, h4⟩ := h1; exact ⟨D, hl _ _ h3, h4⟩
  | glob g v => obtain ⟨h0, vs, e, fr, h1, h2, h3⟩ := h; exact ⟨h0, vs, e, fr, h1, RelL.mono hl _ _ h2, h3⟩
  | one v => obtain ⟨h0, v', e, fr, h1, h2⟩ := h; exact ⟨h0, v', e, fr, h1, Rel.mono hl _ _ h2⟩

structure WR (σ : Nat → Value) (ρ : Ren) (base : Nat) (H : AHeap) (w : World) : Prop where
  blk : ∀ id b, H.blks.get id = some b → ∃ L, ρ id = some L ∧ BR σ ρ (H.lo ≤ id) L b w.heap[L.blk]?
  own : ∀ id b L, H.blks.get id = some b → ρ id = some L → H.lo ≤ id → base ≤ L.blk
  inj : ∀ i j bi bj Li Lj, H.blks.get i = some bi → H.blks.get j = some bj → ρ i = some Li → ρ j = some Lj → H.lo ≤ i → i ≠ j → Li.blk ≠ Lj.blk
  base : base ≤ w.heap.size

def Free (ρ : Ren) (a b : Nat) : Prop := ∀ id, a ≤ id → id < b → ρ id = none
structure Ext (ρ ρ' : Ren) (a b : Nat) : Prop where
  le : Le ρ ρ'
  out : ∀ id, id < a ∨ b ≤ id → ρ' id = ρ id
theorem Ext.refl (ρ : Ren) (a b : Nat) : Ext ρ ρ a b := ⟨.refl _, fun _ _ => rfl⟩
theorem Ext.trans {r s t : Ren} {a b c : Nat} (h : Ext r s a b) (k : Ext s t b c) (hab : a ≤ b) (hbc : b ≤ c) : Ext r t a c :=
  ⟨h.le.trans k.le, fun id hid => (k.out id (by omega)).trans (h.out id (by omega))⟩
theorem Ext.free {r s : Ren} {a b c : Nat} (h : Ext r s a b) (hf : Free r a c) (hab : a ≤ b) : Free s b c :=
  fun id h1 h2 => (h.out id (by omega)).trans (hf id (by omega) h2)
theorem Free.left {r : Ren} {a b c : Nat} (hf : Free r a c) (h : b ≤ c) : Free r a b := fun id h1 h2 => hf id h1 (by omega)

/-- one block of the world is as said, all others are as they were -/
structure Upd (w : World) (B : Nat) (o : Obj) (w' : World) : Prop where
  os : w'.os = w.os
  tape : w'.tape = w.tape
  output : w'.output = w.output
  size : w.heap.size ≤ w'.heap.size
  at_ : w'.heap[B]? = some o
  other : ∀ k, k ≠ B → w'.heap[k]? = w.heap[k]?
theorem Upd.below {w w' : World} {B base : Nat} {o : Obj} (h : Upd w B o w') (hb : base ≤ B) : Below base w w' :=
  ⟨h.os, h.tape, h.output, h.size, fun k hk => h.other k (by omega)⟩
theorem lt_of_get {w : World} {k : Nat} {o : Obj} (h : w.heap[k]? = some o) : k < w.heap.size := (Array.getElem?_eq_some_iff.1 h).1
theorem BR.some {σ : Nat → Value} {ρ : Ren} {own : Prop} {L : Loc} {b : ABlk} {o : Option Obj} (h : BR σ ρ own L b o) : ∃ x, o = some x := by
  cases b with
  | cells elem c n => obtain ⟨cc, fr, h1, _⟩ := h; exact ⟨_, h1⟩
  | map es clock => obtain ⟨es', h1, _⟩ := h; exact ⟨_, h1⟩
  | loop st pd nt T ps as bo d => obtain ⟨fn, tm, D, _, h2, _⟩ := h; exact ⟨_, h2⟩
  | deferred b => exact ⟨_, h⟩
  | iter m since seen st => obtain ⟨_, M, _, h2⟩ := h; exact ⟨_, h2⟩
  | glob g v => obtain ⟨_, vs, e, fr, h1, _⟩ := h; exact ⟨_, h1⟩
  | one v => obtain ⟨_, v', e, fr, h1, _⟩ := h; exact ⟨_, h1⟩

theorem WR.log {σ : Nat → Value} {ρ : Ren} {base : Nat} {H K : AHeap} {w : World} (h : WR σ ρ base H w) (hb : K.blks = H.blks) (hl : K.lo = H.lo) : WR σ ρ base K w := by
  obtain ⟨a, b, c, d⟩ := h
  refine ⟨?_, ?_, ?_, d⟩
  · rw [hb, hl]; exact a
  · rw [hb, hl]; exact b
  · rw [hb, hl]; exact c
/-- a block is written -/
theorem WR.put {σ : Nat → Value} {ρ : Ren} {base : Nat} {H K : AHeap} {w w' : World} {id : Nat} {b0 b : ABlk} {L : Loc} {o : Obj} (h : WR σ ρ base H w)
    (h0 : H.blks.get id = some b0) (hL : ρ id = some L) (hlo : H.lo ≤ id) (hu : Upd w L.blk o w') (hb : BR σ ρ (H.lo ≤ id) L b (some o))
    (hk : ∀ j, K.blks.get j = if id = j then some b else H.blks.get j) (hkl : K.lo = H.lo) : WR σ ρ base K w' ∧ Below base w w' := by
  refine ⟨⟨?_, ?_, ?_, Nat.le_trans h.base hu.size⟩, hu.below (h.own _ _ _ h0 hL hlo)⟩
  · intro j bj hj
    rw [hk] at hj
    rw [hkl]
    by_cases hij : id = j
    · subst hij; rw [if_pos rfl] at hj; cases hj
      exact ⟨L, hL, by rw [hu.at_]; exact hb⟩
    · rw [if_neg hij] at hj
      obtain ⟨Lj, h1, h2⟩ := h.blk j bj hj
      refine ⟨Lj, h1, ?_⟩
      rw [hu.other _ (h.inj id j _ _ _ _ h0 hj hL h1 hlo hij).symm]; exact h2
  · intro j bj Lj hj hLj hl
    rw [hk] at hj
    rw [hkl] at hl
    by_cases hij : id = j
    · subst hij; exact h.own _ _ _ h0 hLj hl
    · rw [if_neg hij] at hj; exact h.own _ _ _ hj hLj hl
  · intro i j bi bj Li Lj hi hj hLi hLj hl hne
    rw [hk] at hi hj
    rw [hkl] at hl
    have hi' : ∃ b, H.blks.get i = Option.some b := by by_cases e : id = i; exact ⟨_, e ▸ h0⟩; exact ⟨_, by rw [if_neg e] at hi; exact hi⟩
    have hj' : ∃ b, H.blks.get j = Option.some b := by by_cases e : id = j; exact ⟨_, e ▸ h0⟩; exact ⟨_, by rw [if_neg e] at hj; exact hj⟩
    obtain ⟨b1, e1⟩ := hi'
    obtain ⟨b2, e2⟩ := hj'
    exact h.inj i j _ _ _ _ e1 e2 hLi hLj hl hne
/-- a block is given up -/
theorem WR.kill {σ : Nat → Value} {ρ : Ren} {base : Nat} {H K : AHeap} {w : World} {id : Nat} (h : WR σ ρ base H w)
    (hk : ∀ j, K.blks.get j = if id = j then none else H.blks.get j) (hkl : K.lo = H.lo) : WR σ ρ base K w := by
  have key : ∀ j b, K.blks.get j = some b → H.blks.get j = some b ∧ id ≠ j := by
    intro j b hj
    rw [hk] at hj
    by_cases e : id = j
    · rw [if_pos e] at hj; cases hj
    · rw [if_neg e] at hj; exact ⟨hj, e⟩
  refine ⟨fun j b hj => ?_, fun j b L hj hL hl => ?_, fun i j bi bj Li Lj hi hj hLi hLj hl hne => ?_, h.base⟩
  · rw [hkl]; exact h.blk j b (key j b hj).1
  · rw [hkl] at hl; exact h.own j b L (key j b hj).1 hL hl
  · rw [hkl] at hl; exact h.inj i j _ _ _ _ (key i bi hi).1 (key j bj hj).1 hLi hLj hl hne
/-- a new number for a block of concrete memory that no number stands for -/
theorem WR.new {σ : Nat → Value} {ρ : Ren} {base : Nat} {H K : AHeap} {w w' : World} {b : ABlk} {L : Loc} {o : Obj} (h : WR σ ρ base H w)
    (hf : ρ H.next = none) (hdead : ∀ j bj Lj, H.blks.get j = some bj → ρ j = some Lj → Lj.blk ≠ L.blk) (hbase : base ≤ L.blk) (hu : Upd w L.blk o w')
    (hb : ∀ ρ', Le ρ ρ' → ρ' H.next = some L → BR σ ρ' True L b (some o))
    (hk : ∀ j, K.blks.get j = if H.next = j then some b else H.blks.get j) (hkl : K.lo = H.lo) (hkn : K.next = H.next + 1) :
    ∃ ρ', Ext ρ ρ' H.next K.next ∧ ρ' H.next = some L ∧ WR σ ρ' base K w' ∧ Below base w w' := by
  let ρ' : Ren := fun i => if i = H.next then some L else ρ i
  have hle : Le ρ ρ' := by
    intro i Li hi
    show (if i = H.next then _ else _) = _
    by_cases e : i = H.next
    · subst e; rw [hf] at hi; cases hi
    · rw [if_neg e]; exact hi
  have hnew : ρ' H.next = some L := by show (if _ then _ else _) = _; rw [if_pos rfl]
  have hold : ∀ i, i ≠ H.next → ρ' i = ρ i := fun i hi => by show (if _ then _ else _) = _; rw [if_neg hi]
  have hlive : ∀ j bj, H.blks.get j = some bj → j ≠ H.next := by
    intro j bj hj e
    obtain ⟨L', h1, _⟩ := h.blk j bj hj
    rw [e, hf] at h1; cases h1
  refine ⟨ρ', ⟨hle, fun id hid => hold id (by omega)⟩, hnew, ⟨?_, ?_, ?_, Nat.le_trans h.base hu.size⟩, hu.below hbase⟩
  · intro j bj hj
    rw [hk] at hj
    rw [hkl]
    by_cases e : H.next = j
    · subst e; rw [if_pos rfl] at hj; cases hj
      refine ⟨L, hnew, ?_⟩
      rw [hu.at_]
      have := hb ρ' hle hnew
      revert this
      cases b with
      | cells elem c n => rintro ⟨cc, fr, h1, h2, h3⟩; exact ⟨cc, fr, h1, fun _ => h2 trivial, h3⟩
      | map es clock => exact id
      | loop st pd nt T ps as bo d => exact id
      | deferred b => exact id
      | iter m since seen st => exact id
      | glob g v => exact id
      | one v => exact id
    · rw [if_neg e] at hj
      obtain ⟨Lj, h1, h2⟩ := h.blk j bj hj
      refine ⟨Lj, hle _ _ h1, ?_⟩
      rw [hu.other _ (hdead j bj Lj hj h1)]
      exact h2.mono hle
  · intro j bj Lj hj hLj hl
    rw [hk] at hj
    rw [hkl] at hl
    by_cases e : H.next = j
    · subst e; rw [hnew] at hLj; cases hLj; exact hbase
    · rw [if_neg e] at hj; rw [hold j (Ne.symm e)] at hLj; exact h.own j bj Lj hj hLj hl
  · intro i j bi bj Li Lj hi hj hLi hLj hl hne
    rw [hk] at hi hj
    rw [hkl] at hl
    by_cases ei : H.next = i
    · subst ei
      rw [hnew] at hLi; cases hLi
      rw [if_neg hne] at hj
      rw [hold j (Ne.symm hne)] at hLj
      exact (hdead j bj Lj hj hLj).symm
    · rw [if_neg ei] at hi
      rw [hold i (Ne.symm ei)] at hLi
      by_cases ej : H.next = j
      · subst ej
        rw [hnew] at hLj; cases hLj
        exact hdead i bi Li hi hLi
      · rw [if_neg ej] at hj
        rw [hold j (Ne.symm ej)] at hLj
        exact h.inj i j _ _ _ _ hi hj hLi hLj hl hne
end Go.AM
namespace Go.AM
open Go Go.RowKit

section
variable {P : Program}
/-! ### types -/
theorem sz_run {t : TypeId} {n : Nat} (h : sz P t = some n) (w : World) : (sizeOf t).run P w = .ok n w := by
  unfold sz at h
  cases hi : P.info? t with
  | none => simp [hi] at h
  | some i => simp only [hi, Option.some.injEq] at h; subst h; simp [sizeOf, typeInfo, hi]
theorem info_run {t : TypeId} {i : TypeInfo} (h : P.info? t = some i) (w : World) : (typeInfo t).run P w = .ok i w := by simp [typeInfo, h]
theorem isAgg_run {t : TypeId} {b : Bool} (h : isAggT P t = some b) (w : World) : (isAgg t).run P w = .ok b w := by
  unfold isAggT at h
  cases hu : P.underlying t with
  | none => simp [hu] at h
  | some d =>
    simp only [hu] at h
    cases d <;> simp at h <;> subst h <;> simp [isAgg, run_underlying hu]
theorem ofV_rel {σ : Nat → Value} {ρ : Ren} : ∀ (d : Nat) (v : Value) (x : AVal), ofV d v = some x → Rel σ ρ x v := by
  have mapM : ∀ (d : Nat), (∀ v x, ofV d v = some x → Rel σ ρ x v) → ∀ (l : List Value) (r : List AVal), l.mapM (ofV d) = some r → RelL σ ρ r l := by
    intro d hd l
    induction l with
    | nil => intro r h; simp at h; subst h; exact .nil
    | cons v l ih =>
      intro r h
      rw [List.mapM_cons] at h
      cases h1 : ofV d v with
      | none => simp [h1] at h
      | some x =>
        cases h2 : l.mapM (ofV d) with
        | none => simp [h1, h2] at h
        | some xs => simp [h1, h2] at h; subst h; exact .cons (hd _ _ h1) (ih _ h2)
  intro d
  induction d with
  | zero =>
    intro v x h
    cases v with
    | pointer a => cases a <;> simp [ofV] at h; subst h; unfold Rel; rfl
    | slice a l c =>
      cases a with
      | some a => simp [ofV] at h
      | none => cases l with
        | succ l => simp [ofV] at h
        | zero => cases c with
          | succ c => simp [ofV] at h
          | zero => simp [ofV] at h; subst h; unfold Rel; rfl
    | map r => cases r <;> simp [ofV] at h; subst h; unfold Rel; rfl
    | _ => simp [ofV] at h <;> (try subst h) <;> (try (unfold Rel; rfl))
  | succ d ih =>
    intro v x h
    cases v with
    | pointer a => cases a <;> simp [ofV] at h; subst h; unfold Rel; rfl
    | slice a l c =>
      cases a with
      | some a => simp [ofV] at h
      | none => cases l with
        | succ l => simp [ofV] at h
        | zero => cases c with
          | succ c => simp [ofV] at h
          | zero => simp [ofV] at h; subst h; unfold Rel; rfl
    | map r => cases r <;> simp [ofV] at h; subst h; unfold Rel; rfl
    | agg cs =>
      simp only [ofV, Option.map_eq_some_iff] at h
      obtain ⟨r, h1, rfl⟩ := h
      unfold Rel; exact ⟨cs, rfl, mapM d ih _ _ h1⟩
    | tuple cs =>
      simp only [ofV, Option.map_eq_some_iff] at h
      obtain ⟨r, h1, rfl⟩ := h
      unfold Rel; exact ⟨cs, rfl, mapM d ih _ _ h1⟩
    | _ => simp [ofV] at h <;> (try subst h) <;> (try (unfold Rel; rfl))
theorem zero_run {t : TypeId} {z : AVal} (h : zeroA P t = some z) : ∃ v, (∀ w, (zeroValue t).run P w = .ok v w) ∧ ∀ (σ : Nat → Value) (ρ : Ren), Rel σ ρ z v := by
  unfold zeroA at h
  cases hi : P.info? t with
  | none => simp [hi] at h
  | some i =>
    simp only [hi] at h
    cases hz : i.zero with
    | none => simp [hz] at h
    | some v => simp only [hz] at h; exact ⟨v, fun w => by simp [zeroValue, typeInfo, hi, hz], fun σ ρ => ofV_rel 2 v z h⟩

variable {σ : Nat → Value} {ρ : Ren}
theorem part_run {t : TypeId} {cs : List AVal} {cs' : Array Value} {off : Nat} {x : AVal} (h : aPart P t cs off = some x) (hr : RelL σ ρ cs cs'.toList) (w : World) :
    ∃ v, (part t cs' off).run P w = .ok v w ∧ Rel σ ρ x v := by
  unfold aPart at h
  cases ha : isAggT P t with
  | none => simp [ha] at h
  | some b =>
    cases b with
    | true =>
      simp only [ha] at h
      cases hs : sz P t with
      | none => simp [hs] at h
      | some n =>
        simp only [hs] at h
        obtain ⟨hle, h⟩ := condO_some h
        cases h
        refine ⟨.agg (cs'.extract off (off + n)), by simp [part, isAgg_run ha, sz_run hs], ?_⟩
        unfold Rel
        refine ⟨_, rfl, ?_⟩
        have e : (cs'.extract off (off + n)).toList = (cs'.toList.drop off).take n := by
          rw [Array.toList_extract, List.extract_eq_take_drop]
          congr 1; omega
        rw [e]
        exact (hr.drop off).take n
    | false =>
      simp only [ha] at h
      obtain ⟨v, hv, hrel⟩ := hr.get off x h
      have hv' : cs'[off]? = some v := by rw [← Array.getElem?_toList]; exact hv
      exact ⟨v, by simp [part, isAgg_run ha, hv'], hrel⟩

/-! ### equality -/
theorem kind_eq {k k' : IntKind} (h : intKindEq k k' = true) : k = k' := by cases k <;> cases k' <;> simp [intKindEq] at h <;> rfl
theorem eqFields_run {eq : TypeId → AVal → AVal → Option Bool} (D : Nat)
    (heq : ∀ t x y b x' y', eq t x y = some b → Rel σ ρ x x' → Rel σ ρ y y' → ∀ w, (Op.equalIn D t x' y').run P w = .ok b w) (w : World)
    {xs ys : List AVal} {xs' ys' : Array Value} (hx : RelL σ ρ xs xs'.toList) (hy : RelL σ ρ ys ys'.toList) :
    ∀ (fs : List Field) (b : Bool), eqFields P eq xs ys fs = some b → (Op.eqFields D xs' ys' fs).run P w = .ok b w := by
  intro fs
  induction fs with
  | nil => intro b h; simp [eqFields] at h; subst h; simp [Op.eqFields]
  | cons f fs ih =>
    intro b h
    unfold eqFields at h
    cases hn : f.name == "_" with
    | true =>
      simp only [hn, cond_true] at h
      have : f.name = "_" := by simpa using hn
      simp [Op.eqFields, this, ih b h]
    | false =>
      simp only [hn, cond_false] at h
      have hne : ¬ f.name = "_" := by simpa using hn
      cases h1 : aPart P f.type xs f.offset with
      | none => simp [h1] at h
      | some x =>
        cases h2 : aPart P f.type ys f.offset with
        | none => simp [h1, h2] at h
        | some y =>
          simp only [h1, h2] at h
          obtain ⟨x', e1, r1⟩ := part_run h1 hx w
          obtain ⟨y', e2, r2⟩ := part_run h2 hy w
          cases h3 : eq f.type x y with
          | none => simp [h3] at h
          | some r =>
            have e3 := heq _ _ _ _ _ _ h3 r1 r2 w
            cases r with
            | true => simp only [h3] at h; simp [Op.eqFields, hne, e1, e2, e3, ih b h]
            | false => simp only [h3, Option.some.injEq] at h; subst h; simp [Op.eqFields, hne, e1, e2, e3]
theorem eqElems_run {eq : TypeId → AVal → AVal → Option Bool} (D : Nat) {e : TypeId} {c : Nat}
    (heq : ∀ t x y b x' y', eq t x y = some b → Rel σ ρ x x' → Rel σ ρ y y' → ∀ w, (Op.equalIn D t x' y').run P w = .ok b w) (w : World)
    {xs ys : List AVal} {xs' ys' : Array Value} (hx : RelL σ ρ xs xs'.toList) (hy : RelL σ ρ ys ys'.toList) :
    ∀ (len i : Nat) (b : Bool), eqElems P eq e c xs ys len i = some b → (Op.eqItems D e c xs' ys' (List.range' i len)).run P w = .ok b w := by
  intro len
  induction len with
  | zero => intro i b h; simp [eqElems] at h; subst h; simp [Op.eqItems]
  | succ len ih =>
    intro i b h
    unfold eqElems at h
    cases h1 : aPart P e xs (i * c) with
    | none => simp [h1] at h
    | some x =>
      cases h2 : aPart P e ys (i * c) with
      | none => simp [h1, h2] at h
      | some y =>
        simp only [h1, h2] at h
        obtain ⟨x', e1, r1⟩ := part_run h1 hx w
        obtain ⟨y', e2, r2⟩ := part_run h2 hy w
        rw [List.range'_succ]
        cases h3 : eq e x y with
        | none => simp [h3] at h
        | some r =>
          have e3 := heq _ _ _ _ _ _ h3 r1 r2 w
          cases r with
          | true => simp only [h3] at h; simp [Op.eqItems, e1, e2, e3, ih _ b h]
          | false => simp only [h3, Option.some.injEq] at h; subst h; simp [Op.eqItems, e1, e2, e3]
theorem aEq_run : ∀ (d : Nat) (t : TypeId) (x y : AVal) (b : Bool) (x' y' : Value), aEq P d t x y = some b → Rel σ ρ x x' → Rel σ ρ y y' →
    ∀ (D : Nat), d ≤ D → ∀ w, (Op.equalIn D t x' y').run P w = .ok b w := by
  intro d
  induction d with
  | zero => intro t x y b x' y' h; simp [aEq] at h
  | succ d ih =>
    intro t x y b x' y' h hx hy D hD w
    obtain ⟨D, rfl⟩ : ∃ k, D = k + 1 := ⟨D - 1, by omega⟩
    unfold aEq at h
    split at h
    case h_10 =>
      rename_i fields xs ys hu
      have hst : P.stoodInHeld t = false := by
        cases hs : P.stoodInHeld t with
        | true => simp [hs] at h
        | false => rfl
      simp only [hst, cond_false] at h
      unfold Rel at hx hy
      obtain ⟨xs', rfl, hx⟩ := hx
      obtain ⟨ys', rfl, hy⟩ := hy
      have hf : P.fieldsOf t = fields := by simp [Program.fieldsOf, hu]
      rw [run_equalIn_struct w D t xs' ys' (by rw [hf]; exact hu) hst, hf]
      exact eqFields_run D (fun t x y b x' y' h r1 r2 w => ih t x y b x' y' h r1 r2 D (by omega) w) w hx hy _ _ h
    case h_11 =>
      rename_i len elem xs ys hu
      cases hs : sz P elem with
      | none => simp [hs] at h
      | some n =>
        simp only [hs] at h
        unfold Rel at hx hy
        obtain ⟨xs', rfl, hx⟩ := hx
        obtain ⟨ys', rfl, hy⟩ := hy
        have hs' := hs
        unfold sz at hs'
        cases hi : P.info? elem with
        | none => simp [hi] at hs'
        | some i =>
          have hc : P.cellsOf elem = n := by simp [hi] at hs'; simp [Program.cellsOf, hi, hs']
          rw [run_equalIn_array w D xs' ys' hu hi, hc, List.range_eq_range']
          exact eqElems_run D (fun t x y b x' y' h r1 r2 w => ih t x y b x' y' h r1 r2 D (by omega) w) w hx hy _ _ _ h
    all_goals (first | (cases h; done) | skip)
    all_goals (rename_i hu; unfold Rel at hx hy)
    all_goals (first
      | (subst hx; subst hy)
      | (subst hx; obtain ⟨_, _, rfl⟩ := hy)
      | (obtain ⟨_, _, rfl⟩ := hx; subst hy)
      | (subst hx; obtain ⟨_, rfl, _⟩ := hy)
      | (obtain ⟨_, rfl, _⟩ := hx; subst hy)
      | (subst hx; obtain ⟨_, _, _, _, rfl, _⟩ := hy)
      | (obtain ⟨_, _, _, _, rfl, _⟩ := hx; subst hy)
      | (subst hx; obtain ⟨_, _, rfl, _⟩ := hy)
      | (obtain ⟨_, _, rfl, _⟩ := hx; subst hy)
      | skip)
    all_goals (try (have hc := condO_some h; clear h; obtain ⟨hk, h⟩ := hc; replace hk := kind_eq hk; subst hk))
    all_goals (try (cases h; done))
    all_goals (simp only [Option.some.injEq] at h; subst h)
    all_goals (simp [Op.equalIn, run_underlying hu, eqI_eq])
end
end Go.AM
namespace Go.AM
open Go Go.RowKit

section
variable {P : Program} {σ : Nat → Value} {ρ : Ren}
/-! ### numbers -/
theorem arith_run {op : BinOp} {k : IntKind} {x y : Int} {v : AVal} (h : arith op k x y = some v) (t : TypeId) (w : World) :
    (op ≠ .shl ∧ op ≠ .shr) ∧ ∃ v', (binOp op t (.int k x) (.int k y)).run P w = .ok v' w ∧ Rel σ ρ v v' := by
  cases op
  case add => simp only [arith, frc_eq, wrapK_eq, Option.some.injEq] at h; subst h; exact ⟨by simp, _, by simp [binOp, Op.intArith]; rfl, by unfold Rel; rfl⟩
  case sub => simp only [arith, frc_eq, wrapK_eq, Option.some.injEq] at h; subst h; exact ⟨by simp, _, by simp [binOp, Op.intArith]; rfl, by unfold Rel; rfl⟩
  case mul => simp only [arith, frc_eq, wrapK_eq, Option.some.injEq] at h; subst h; exact ⟨by simp, _, by simp [binOp, Op.intArith]; rfl, by unfold Rel; rfl⟩
  case quo =>
    simp only [arith, frc_eq, wrapK_eq] at h
    cases hy : eqI y 0 with
    | true => simp [hy] at h
    | false =>
      have h0 : ¬ y = 0 := by rw [eqI_eq] at hy; simpa using hy
      simp only [hy, cond_false, Option.some.injEq] at h; subst h
      exact ⟨by simp, _, by simp [binOp, Op.intDiv, h0]; rfl, by unfold Rel; rfl⟩
  case rem =>
    simp only [arith, frc_eq] at h
    cases hy : eqI y 0 with
    | true => simp [hy] at h
    | false =>
      have h0 : ¬ y = 0 := by rw [eqI_eq] at hy; simpa using hy
      simp only [hy, cond_false, Option.some.injEq] at h; subst h
      exact ⟨by simp, _, by simp [binOp, Op.intDiv, h0]; rfl, by unfold Rel; rfl⟩
  case and => simp only [arith, frc_eq, wrapK_eq, Option.some.injEq] at h; subst h; exact ⟨by simp, _, by simp only [binOp, ne_eq, not_true_eq_false, if_false, Op.intBits]; rfl, by unfold Rel; rfl⟩
  case or => simp only [arith, frc_eq, wrapK_eq, Option.some.injEq] at h; subst h; exact ⟨by simp, _, by simp only [binOp, ne_eq, not_true_eq_false, if_false, Op.intBits]; rfl, by unfold Rel; rfl⟩
  case xor => simp only [arith, frc_eq, wrapK_eq, Option.some.injEq] at h; subst h; exact ⟨by simp, _, by simp only [binOp, ne_eq, not_true_eq_false, if_false, Op.intBits]; rfl, by unfold Rel; rfl⟩
  case andNot => simp only [arith, frc_eq, wrapK_eq, Option.some.injEq] at h; subst h; exact ⟨by simp, _, by simp only [binOp, ne_eq, not_true_eq_false, if_false, Op.intBits]; rfl, by unfold Rel; rfl⟩
  case eql => simp only [arith, Option.some.injEq] at h; subst h; exact ⟨by simp, _, by simp [binOp, Op.intCmp]; rfl, by unfold Rel; rw [eqI_eq]⟩
  case neq => simp only [arith, Option.some.injEq] at h; subst h; exact ⟨by simp, _, by simp [binOp, Op.intCmp]; rfl, by unfold Rel; rw [eqI_eq]; rfl⟩
  case lss => simp only [arith, Option.some.injEq] at h; subst h; exact ⟨by simp, _, by simp [binOp, Op.intCmp]; rfl, by unfold Rel; rw [ltI_eq]⟩
  case leq => simp only [arith, Option.some.injEq] at h; subst h; exact ⟨by simp, _, by simp [binOp, Op.intCmp]; rfl, by unfold Rel; rw [ltI_eq]; congr 1; rw [Bool.eq_iff_iff]; simp⟩
  case gtr => simp only [arith, Option.some.injEq] at h; subst h; exact ⟨by simp, _, by simp [binOp, Op.intCmp]; rfl, by unfold Rel; rw [ltI_eq]⟩
  case geq => simp only [arith, Option.some.injEq] at h; subst h; exact ⟨by simp, _, by simp [binOp, Op.intCmp]; rfl, by unfold Rel; rw [ltI_eq]; congr 1; rw [Bool.eq_iff_iff]; simp⟩
  case shl => simp [arith] at h
  case shr => simp [arith] at h
theorem shift_run {op : BinOp} {k k' : IntKind} {x y : Int} {v : AVal} (h : shiftA op k x y = some v) (t : TypeId) (w : World) :
    ∃ v', (binOp op t (.int k x) (.int k' y)).run P w = .ok v' w ∧ Rel σ ρ v v' := by
  cases y with
  | negSucc m => simp [shiftA] at h
  | ofNat m =>
    have h0 : ¬ (Int.ofNat m < 0) := by simp
    cases op <;> simp only [shiftA, frc_eq, wrapK_eq] at h <;> first | (cases h; done) | skip
    · simp only [Option.some.injEq] at h; subst h
      exact ⟨_, by simp only [binOp, Op.shift, h0, if_false]; rfl, by unfold Rel; simp [Int.natCast_pow]⟩
    · simp only [Option.some.injEq] at h; subst h
      exact ⟨_, by simp only [binOp, Op.shift, h0, if_false]; rfl, by unfold Rel; simp [Int.natCast_pow]⟩
theorem rel_plain {x : AVal} {v : Value} (h : Rel σ ρ x v) (h1 : x ≠ .nilIface) (h2 : ∀ cs, x ≠ .agg cs) (h3 : ∀ i, x ≠ .opq i) : v ≠ .nilIface ∧ ∀ cs, v ≠ .agg cs := by
  cases x <;> unfold Rel at h <;> first
    | exact absurd rfl h1
    | exact absurd rfl (h2 _)
    | exact absurd rfl (h3 _)
    | (subst h; exact ⟨by simp, by simp⟩)
    | (obtain ⟨_, _, rfl⟩ := h; exact ⟨by simp, by simp⟩)
    | (obtain ⟨_, _, _, _, rfl, _⟩ := h; exact ⟨by simp, by simp⟩)
    | (obtain ⟨_, _, rfl, _⟩ := h; exact ⟨by simp, by simp⟩)
    | (obtain ⟨_, rfl, _⟩ := h; exact ⟨by simp, by simp⟩)
theorem eqGuard_cases {op : BinOp} {t : TypeId} {x y : Operand} {a b : Value} (w : World)
    (h : (match a, b with
      | .nilIface, .nilIface => (x matches .const _) || (y matches .const _)
      | .agg _, .agg _ => !P.eqGuardType P.depth t
      | _, _ => true) = true) : (eqGuard op t x y a b).run P w = .ok () w := by
  unfold eqGuard
  cases op <;> simp only [Bool.not_true, Bool.not_false, Bool.false_eq_true, if_false, if_true] <;> first | rfl | skip
  all_goals
    split
    · cases x <;> cases y <;> first | (simp at h; done) | rfl
    · have hg : P.eqGuardType P.depth t = false := by simpa using h
      simp [hg]
    · rfl
theorem guard_pass {op : BinOp} {t : TypeId} {x y : Operand} {a b : Value} (w : World)
    (h : (a ≠ .nilIface ∧ ∀ cs, a ≠ .agg cs) ∨ (b ≠ .nilIface ∧ ∀ cs, b ≠ .agg cs)) : (eqGuard op t x y a b).run P w = .ok () w := by
  refine eqGuard_cases w ?_
  split
  · rcases h with h | h <;> exact absurd rfl h.1
  · rcases h with h | h <;> exact absurd rfl (h.2 _)
  · rfl
theorem plainV_ne {x : AVal} {v : Value} (hp : plainV x = true) (h : Rel σ ρ x v) : v ≠ .nilIface ∧ ∀ cs, v ≠ .agg cs :=
  rel_plain h (fun e => by subst e; simp [plainV] at hp) (fun _ e => by subst e; simp [plainV] at hp) (fun _ e => by subst e; simp [plainV] at hp)
theorem guard_run {op : BinOp} {t : TypeId} {x y : Operand} {a b : AVal} {a' b' : Value} (h : guardPair P t x y a b = true) (ha : Rel σ ρ a a') (hb : Rel σ ρ b b') (w : World) :
    (eqGuard op t x y a' b').run P w = .ok () w := by
  unfold guardPair at h
  split at h
  · unfold Rel at ha hb; subst ha; subst hb
    exact eqGuard_cases w h
  · unfold Rel at ha hb
    obtain ⟨xs, rfl, _⟩ := ha
    obtain ⟨ys, rfl, _⟩ := hb
    exact eqGuard_cases w h
  · rw [Bool.or_eq_true] at h
    exact guard_pass w (h.imp (fun h => plainV_ne h ha) (fun h => plainV_ne h hb))
def shape : Value → Bool
  | .int _ _ | .float _ _ | .complex _ _ _ | .string _ => false
  | _ => true
theorem eql_gen (t : TypeId) (a b : Value) (h : shape a = true) : binOp .eql t a b = (do pure (.bool (← Op.equal t a b))) := by
  cases a <;> first | (simp [shape] at h; done) | rfl
theorem neq_gen (t : TypeId) (a b : Value) (h : shape a = true) : binOp .neq t a b = (do pure (.bool (!(← Op.equal t a b)))) := by
  cases a <;> first | (simp [shape] at h; done) | rfl
theorem rel_shape {x : AVal} {v : Value} (h : Rel σ ρ x v) (h1 : ∀ k n, x ≠ .int k n) (h2 : ∀ s, x ≠ .str s) (h3 : ∀ i, x ≠ .opq i) : shape v = true := by
  cases x <;> unfold Rel at h <;> first
    | exact absurd rfl (h1 _ _)
    | exact absurd rfl (h2 _)
    | exact absurd rfl (h3 _)
    | (subst h; rfl)
    | (obtain ⟨_, _, rfl⟩ := h; rfl)
    | (obtain ⟨_, _, _, _, rfl, _⟩ := h; rfl)
    | (obtain ⟨_, _, rfl, _⟩ := h; rfl)
    | (obtain ⟨_, rfl, _⟩ := h; rfl)
theorem aEq_int {d : Nat} {t : TypeId} {k : IntKind} {n : Int} {y : AVal} {b : Bool} (h : aEq P d t (.int k n) y = some b) : ∃ k' m, y = .int k' m := by
  cases d with
  | zero => simp [aEq] at h
  | succ d =>
    unfold aEq at h
    split at h <;> first | exact ⟨_, _, rfl⟩ | (simp at h; done) | (rename_i h1; simp at h1; done) | skip
    all_goals simp_all
theorem aEq_str {d : Nat} {t : TypeId} {s : ByteArray} {y : AVal} {b : Bool} (h : aEq P d t (.str s) y = some b) : ∃ s', y = .str s' ∧ b = (s == s') := by
  cases d with
  | zero => simp [aEq] at h
  | succ d =>
    unfold aEq at h
    split at h <;> simp_all
theorem aEq_opq {d : Nat} {t : TypeId} {i : Nat} {y : AVal} {b : Bool} (h : aEq P d t (.opq i) y = some b) : False := by
  cases d with
  | zero => simp [aEq] at h
  | succ d =>
    unfold aEq at h
    split at h <;> simp_all
theorem eq_run {t : TypeId} {a b : AVal} {r : Bool} {a' b' : Value} (h : aEq P 30 t a b = some r) (hne : ∀ k m k' n, a = .int k m → b ≠ .int k' n) (ha : Rel σ ρ a a') (hb : Rel σ ρ b b') (w : World) :
    (binOp .eql t a' b').run P w = .ok (.bool r) w ∧ (binOp .neq t a' b').run P w = .ok (.bool !r) w := by
  by_cases hs : ∃ s, a = .str s
  · obtain ⟨s, rfl⟩ := hs
    obtain ⟨s', rfl, rfl⟩ := aEq_str h
    unfold Rel at ha hb; subst ha; subst hb
    simp [binOp, Op.stringOp, beq_toListBytes]
  · have hsh : shape a' = true := rel_shape ha
      (fun k n e => by subst e; obtain ⟨k', m, rfl⟩ := aEq_int h; exact hne _ _ _ _ rfl rfl)
      (fun s e => hs ⟨s, e⟩) (fun i e => by subst e; exact aEq_opq h)
    have hq : (Op.equal t a' b').run P w = .ok r w := aEq_run 30 t a b r a' b' h ha hb 10000 (by decide) w
    rw [eql_gen _ _ _ hsh, neq_gen _ _ _ hsh]
    simp [hq]
theorem binA_other {op : BinOp} {t : TypeId} {x y : Operand} {a b : AVal} (hii : ¬ ∃ k m k' n, a = .int k m ∧ b = .int k' n) : binA P op t x y a b = match op with
      | .eql => cond (guardPair P t x y a b) ((aEq P 30 t a b).map .bool) none
      | .neq => cond (guardPair P t x y a b) ((aEq P 30 t a b).map fun r => .bool !r) none
      | _ => none := by
  unfold binA
  split
  · exact absurd ⟨_, _, _, _, rfl, rfl⟩ hii
  · rfl
theorem binA_run {op : BinOp} {t : TypeId} {x y : Operand} {a b v : AVal} {a' b' : Value} (h : binA P op t x y a b = some v) (ha : Rel σ ρ a a') (hb : Rel σ ρ b b') (w : World) :
    ∃ v', (do eqGuard op t x y a' b'; binOp op t a' b' : Sem Value).run P w = .ok v' w ∧ Rel σ ρ v v' := by
  by_cases hii : ∃ k m k' n, a = .int k m ∧ b = .int k' n
  · obtain ⟨k, m, k', n, rfl, rfl⟩ := hii
    have hg : (eqGuard op t x y a' b').run P w = .ok () w := guard_pass w (.inl (plainV_ne rfl ha))
    unfold Rel at ha hb; subst ha; subst hb
    simp only [binA] at h
    have key : ∃ v', (binOp op t (.int k m) (.int k' n)).run P w = .ok v' w ∧ Rel σ ρ v v' := by
      split at h
      · exact shift_run h t w
      · exact shift_run h t w
      · have hc := condO_some h
        clear h
        obtain ⟨hk, h⟩ := hc
        replace hk := kind_eq hk; subst hk
        exact (arith_run h t w).2
    obtain ⟨v', e, r⟩ := key
    exact ⟨v', by simp [hg, e], r⟩
  · have hne : ∀ k m k' n, a = .int k m → b ≠ .int k' n := fun k m k' n e1 e2 => hii ⟨k, m, k', n, e1, e2⟩
    rw [binA_other hii] at h
    split at h
    · obtain ⟨hg, h⟩ := condO_some h
      simp only [Option.map_eq_some_iff] at h
      obtain ⟨r, hr, rfl⟩ := h
      exact ⟨.bool r, by simp [guard_run hg ha hb w, (eq_run hr hne ha hb w).1], by unfold Rel; rfl⟩
    · obtain ⟨hg, h⟩ := condO_some h
      simp only [Option.map_eq_some_iff] at h
      obtain ⟨r, hr, rfl⟩ := h
      exact ⟨.bool !r, by simp [guard_run hg ha hb w, (eq_run hr hne ha hb w).2], by unfold Rel; rfl⟩
    · cases h
theorem unary_run {op : UnOp} {x v : AVal} {x' : Value} (h : unaryA op x = some v) (hx : Rel σ ρ x x') (w : World) : ∃ v', (Op.unary op x').run P w = .ok v' w ∧ Rel σ ρ v v' := by
  unfold unaryA at h
  split at h
  · unfold Rel at hx; subst hx
    simp only [arith, frc_eq, wrapK_eq, Option.some.injEq] at h; subst h
    exact ⟨_, by simp [Op.unary, Op.intArith]; rfl, by unfold Rel; simp⟩
  · unfold Rel at hx; subst hx
    cases h
    exact ⟨_, by simp [Op.unary]; rfl, by unfold Rel; rfl⟩
  · unfold Rel at hx; subst hx
    simp only [arith, frc_eq, wrapK_eq, Option.some.injEq] at h; subst h
    exact ⟨_, by simp only [Op.unary, Op.intBits]; rfl, by unfold Rel; rfl⟩
  · cases h
theorem convert_run {s d : TypeId} {x v : AVal} {x' : Value} (h : convertA P s d x = some v) (hx : Rel σ ρ x x') (w : World) : ∃ v', (convert s d x').run P w = .ok v' w ∧ Rel σ ρ v v' := by
  unfold convertA at h
  split at h
  · rename_i h1 h2
    unfold Rel at hx; subst hx
    simp only [frc_eq, wrapK_eq, Option.some.injEq] at h; subst h
    exact ⟨_, by simp [convert, run_underlying h1, run_underlying h2, Conv.intToInt]; rfl, by unfold Rel; rfl⟩
  · rename_i h1 h2
    unfold Rel at hx; subst hx
    cases h
    exact ⟨_, by simp [convert, run_underlying h1, run_underlying h2]; rfl, by unfold Rel; rfl⟩
  · cases h

/-! ### addresses -/
theorem addr_add (B k i : Nat) : (⟨B, k, none⟩ : Addr).add i = ⟨B, k + i, none⟩ := by
  unfold Addr.add
  split
  · rename_i h; subst h; rfl
  · rfl
theorem fieldAddr_run {s : TypeId} {x v : AVal} {f : Nat} {x' : Value} (h : fieldAddrA P s x f = some v) (hx : Rel σ ρ x x') (w : World) : ∃ v', (Instr.fieldAt s x' f).run P w = .ok v' w ∧ Rel σ ρ v v' := by
  unfold fieldAddrA at h
  split at h
  · rename_i fields b o hu
    split at h
    · rename_i fd hf
      split at h
      · rename_i n hs
        simp only [frcN_eq, Option.some.injEq] at h; subst h
        unfold Rel at hx
        obtain ⟨L, hL, rfl⟩ := hx
        refine ⟨.pointer (some ⟨L.blk, L.sh + o + fd.offset, none⟩), ?_, ?_⟩
        · simp [Instr.fieldAt, run_underlying hu, hf, Instr.sureAddr, fieldPlace, sz_run hs, addr_add]
        · unfold Rel; exact ⟨L, hL, by rw [Nat.add_assoc]⟩
      · cases h
    · cases h
  · cases h
theorem field_run {s : TypeId} {x v : AVal} {f : Nat} {x' : Value} (h : fieldA P s x f = some v) (hx : Rel σ ρ x x') (w : World) : ∃ v', (Instr.field s x' f).run P w = .ok v' w ∧ Rel σ ρ v v' := by
  unfold fieldA at h
  split at h
  · rename_i fields cs hu
    split at h
    · rename_i fd hf
      unfold Rel at hx
      obtain ⟨cs', rfl, hx⟩ := hx
      obtain ⟨v', e, r⟩ := part_run h hx w
      exact ⟨v', by simp [Instr.field, run_underlying hu, hf, asAgg, e], r⟩
    · cases h
  · cases h
theorem nat?_rel {x : AVal} {n : Nat} {x' : Value} (h : nat? x = some n) (hx : Rel σ ρ x x') : ∃ k, x' = .int k (n : Int) := by
  unfold nat? at h
  split at h
  · cases h; unfold Rel at hx; exact ⟨_, hx⟩
  · cases h
theorem indexAddr_run {t : TypeId} {x i v : AVal} {x' i' : Value} (h : indexAddrA P t x i = some v) (hx : Rel σ ρ x x') (hi : Rel σ ρ i i') (w : World) :
    ∃ v', (Instr.indexAt t x' i').run P w = .ok v' w ∧ Rel σ ρ v v' := by
  unfold indexAddrA at h
  split at h
  · rename_i len elem b o n hu hn
    obtain ⟨k, rfl⟩ := nat?_rel hn hi
    split at h
    · rename_i c hs
      obtain ⟨hlt, h⟩ := condO_some h
      simp only [frcN_eq, Option.some.injEq] at h; subst h
      have hlt : n < len := by simpa [Nat.blt_eq] using hlt
      unfold Rel at hx
      obtain ⟨L, hL, rfl⟩ := hx
      refine ⟨.pointer (some ⟨L.blk, L.sh + o + n * c, none⟩), ?_, ?_⟩
      · have h2 : ¬ len ≤ n := by omega
        have hlt' : n < len := by omega
        simp [Instr.indexAt, asIntOf, run_underlying hu, Instr.sureAddr, sz_run hs, hlt', addr_add]
      · unfold Rel; exact ⟨L, hL, by rw [Nat.add_assoc]⟩
    · cases h
  · rename_i elem b o len cap es n hu hn
    obtain ⟨k, rfl⟩ := nat?_rel hn hi
    split at h
    · rename_i c hs
      obtain ⟨hlt, h⟩ := condO_some h
      simp only [frcN_eq, Option.some.injEq] at h; subst h
      rw [Bool.and_eq_true] at hlt
      have hlt1 : n < len := by simpa [Nat.blt_eq] using hlt.1
      unfold Rel at hx
      obtain ⟨L, a, cc, hL, rfl, hoff, hcap, _⟩ := hx
      have hoff : a = ⟨L.blk, L.sh + o, none⟩ := by rcases hoff with h | h; exact h.1; omega
      subst hoff
      refine ⟨.pointer (some ⟨L.blk, L.sh + o + n * c, none⟩), ?_, ?_⟩
      · have h2 : ¬ len ≤ n := by omega
        have hlt' : n < len := by omega
        simp [Instr.indexAt, asIntOf, run_underlying hu, sz_run hs, hlt', addr_add]
      · unfold Rel; exact ⟨L, hL, by rw [Nat.add_assoc]⟩
    · cases h
  · cases h
theorem index_run {t : TypeId} {x i v : AVal} {x' i' : Value} (h : indexA P t x i = some v) (hx : Rel σ ρ x x') (hi : Rel σ ρ i i') (w : World) :
    ∃ v', (Instr.index t x' i').run P w = .ok v' w ∧ Rel σ ρ v v' := by
  unfold indexA at h
  split at h
  · rename_i len elem cs n hu hn
    obtain ⟨k, rfl⟩ := nat?_rel hn hi
    split at h
    · rename_i c hs
      obtain ⟨hlt, h⟩ := condO_some h
      have hlt : n < len := by simpa [Nat.blt_eq] using hlt
      unfold Rel at hx
      obtain ⟨cs', rfl, hx⟩ := hx
      obtain ⟨v', e, r⟩ := part_run h hx w
      have hlt' : n < len := by omega
      exact ⟨v', by simp [Instr.index, asIntOf, run_underlying hu, sz_run hs, hlt', e], r⟩
    · cases h
  · rename_i s n hu hn
    obtain ⟨k, rfl⟩ := nat?_rel hn hi
    unfold Rel at hx; subst hx
    split at h
    · rename_i c hc
      simp only [frcN_eq, Option.some.injEq] at h; subst h
      exact ⟨.int .u8 (c.toNat : Int), by simp [Instr.index, asIntOf, run_underlying hu, hc], by unfold Rel; rfl⟩
    · cases h
  · cases h
theorem makeIface_run {t : TypeId} {x v : AVal} {x' : Value} (h : makeIfaceA P t x = some v) (hx : Rel σ ρ x x') (w : World) : ∃ v', (Instr.makeInterface t x').run P w = .ok v' w ∧ Rel σ ρ v v' := by
  unfold makeIfaceA at h
  split at h
  · cases h
  · rename_i d hni hu
    cases h
    refine ⟨.iface t x', ?_, by unfold Rel; exact ⟨x', rfl, hx⟩⟩
    simp only [Instr.makeInterface, Sem.run_bind, run_underlying hu, Result.andThen_ok]
    cases d <;> first | exact absurd rfl (hni _) | rfl
  · cases h
theorem extract_run {x v : AVal} {i : Nat} {x' : Value} (h : extractA x i = some v) (hx : Rel σ ρ x x') (w : World) : ∃ v', (Instr.extract x' i).run P w = .ok v' w ∧ Rel σ ρ v v' := by
  unfold extractA at h
  split at h
  · unfold Rel at hx
    obtain ⟨cs, rfl, hx⟩ := hx
    obtain ⟨y, hy, r⟩ := hx.get i v h
    have hy' : cs[i]? = some y := by rw [← Array.getElem?_toList]; exact hy
    exact ⟨y, by simp [Instr.extract, hy'], r⟩
  · cases h
theorem typeAssert_run {x v : AVal} {xt as_ : TypeId} {ok : Bool} {x' : Value} (h : typeAssertA P x as_ ok = some v) (hx : Rel σ ρ x x') (w : World) :
    ∃ v', (Instr.typeAssert x' xt as_ ok).run P w = .ok v' w ∧ Rel σ ρ v v' := by
  have zeroCase : ∀ z, zeroA P as_ = some z → ∃ zv, (∀ w, (zeroValue as_).run P w = .ok zv w) ∧ Rel σ ρ (.tup [z, .bool false]) (.tuple #[zv, .bool false]) := by
    intro z hz
    obtain ⟨zv, e, r⟩ := zero_run hz
    refine ⟨zv, e, ?_⟩
    unfold Rel
    exact ⟨_, rfl, .cons (r σ ρ) (.cons (by unfold Rel; rfl) .nil)⟩
  unfold typeAssertA at h
  split at h
  · cases h
  · rename_i d t y hni hu
    unfold Rel at hx
    obtain ⟨y', rfl, hy⟩ := hx
    have hd : ∀ ms, d ≠ .interface ms := fun ms e => hni ms e
    cases hb : Nat.beq t as_ with
    | true =>
      have : t = as_ := Nat.eq_of_beq_eq_true hb
      subst this
      simp only [hb, cond_true, Option.some.injEq] at h
      cases ok with
      | true =>
        simp only [cond_true] at h; subst h
        refine ⟨.tuple #[y', .bool true], ?_, by unfold Rel; exact ⟨_, rfl, .cons hy (.cons (by unfold Rel; rfl) .nil)⟩⟩
        simp only [Instr.typeAssert, Sem.run_bind, run_underlying hu, Result.andThen_ok]
        cases d <;> first | exact absurd rfl (hd _) | simp
      | false =>
        simp only [cond_false] at h; subst h
        refine ⟨y', ?_, hy⟩
        simp only [Instr.typeAssert, Sem.run_bind, run_underlying hu, Result.andThen_ok]
        cases d <;> first | exact absurd rfl (hd _) | simp
    | false =>
      have hne : ¬ t = as_ := fun e => by subst e; rw [Nat.beq_refl] at hb; cases hb
      simp only [hb, cond_false] at h
      obtain ⟨hok, h⟩ := condO_some h
      subst hok
      split at h
      · rename_i z hz
        cases h
        obtain ⟨zv, e, r⟩ := zeroCase z hz
        refine ⟨_, ?_, r⟩
        simp only [Instr.typeAssert, Sem.run_bind, run_underlying hu, Result.andThen_ok]
        cases d <;> first | exact absurd rfl (hd _) | simp [hne, e]
      · cases h
  · rename_i d hni hu
    unfold Rel at hx; subst hx
    have hd : ∀ ms, d ≠ .interface ms := fun ms e => hni ms e
    obtain ⟨hok, h⟩ := condO_some h
    subst hok
    split at h
    · rename_i z hz
      cases h
      obtain ⟨zv, e, r⟩ := zeroCase z hz
      refine ⟨_, ?_, r⟩
      simp only [Instr.typeAssert, Sem.run_bind, run_underlying hu, Result.andThen_ok]
      cases d <;> first | exact absurd rfl (hd _) | simp [e]
    · cases h
  · cases h
end
end Go.AM
namespace Go.AM
open Go Go.RowKit

section
variable {P : Program} {σ : Nat → Value} {ρ : Ren}
/-! ### slice expressions -/
inductive ORel (σ : Nat → Value) (ρ : Ren) : Option AVal → Option Value → Prop
  | none : ORel σ ρ none none
  | some {x v} (h : Rel σ ρ x v) : ORel σ ρ (some x) (some v)
theorem bound_run {x : Option AVal} {x' : Option Value} {d y n : Nat} (h : bound x d y = some n) (hx : ORel σ ρ x x') :
    (x = none ∧ x' = none ∧ n = d) ∨ ∃ k, x.isSome = true ∧ x' = some (.int k (n : Int)) ∧ n ≤ y := by
  cases hx with
  | none => simp [bound] at h; exact .inl ⟨rfl, rfl, h.symm⟩
  | some hr =>
    simp only [bound] at h
    split at h
    · rename_i m hm
      have hc := condO_some h
      obtain ⟨hle, hh⟩ := hc
      cases hh
      obtain ⟨k, rfl⟩ := nat?_rel hm hr
      exact .inr ⟨k, rfl, rfl, by simpa [Nat.ble_eq] using hle⟩
    · cases h
theorem sb {i y : Nat} (k : IntKind) (h : i ≤ y) (code : BoundsCode) (w : World) : (Instr.sliceBound (.int k (i : Int)) y code).run P w = .ok i w := by
  have := run_sliceBound (P := P) w k (i : Int) y code (by omega) (by omega)
  simpa using this
theorem sliceBounds_run {lo hi mx : Option AVal} {lo' hi' mx' : Option Value} (hlo : ORel σ ρ lo lo') (hhi : ORel σ ρ hi hi') (hmx : ORel σ ρ mx mx') {b : Bool} {len c dm y m h l : Nat}
    (e1 : bound mx dm y = some m) (hy : y ≤ c) (hdm : mx = none → m ≤ c) (e2 : bound hi len m = some h) (e3 : bound lo 0 h = some l) (hg : (mx.isNone || hi.isSome) = true) (w : World) :
    (Instr.sliceBounds b len c lo' hi' mx').run P w = .ok (l, h, if mx.isNone then c else m) w := by
  rcases bound_run e1 hmx with ⟨rfl, rfl, hm⟩ | ⟨km, hms, rfl, hm⟩
  · have hmc := hdm rfl
    rcases bound_run e2 hhi with ⟨rfl, rfl, hh⟩ | ⟨kh, _, rfl, hh⟩
    · subst hh
      rcases bound_run e3 hlo with ⟨rfl, rfl, hl⟩ | ⟨kl, _, rfl, hl⟩
      · subst hl; simp [Instr.sliceBounds]
      · simp [Instr.sliceBounds, sb kl hl]
    · have hhc : h ≤ c := by omega
      rcases bound_run e3 hlo with ⟨rfl, rfl, hl⟩ | ⟨kl, _, rfl, hl⟩
      · subst hl; simp [Instr.sliceBounds, sb kh hhc]
      · simp [Instr.sliceBounds, sb kh hhc, sb kl hl]
  · obtain ⟨mv, rfl⟩ := Option.isSome_iff_exists.1 hms
    have hhs : hi.isSome = true := by simpa using hg
    have hmc : m ≤ c := by omega
    rcases bound_run e2 hhi with ⟨rfl, _, _⟩ | ⟨kh, _, rfl, hh⟩
    · cases hhs
    · rcases bound_run e3 hlo with ⟨rfl, rfl, hl⟩ | ⟨kl, _, rfl, hl⟩
      · subst hl; simp [Instr.sliceBounds, sb km hmc, sb kh hh]
      · simp [Instr.sliceBounds, sb km hmc, sb kh hh, sb kl hl]
theorem add_le (B k i : Nat) (m : Nat) (hm : m = 0 → i = 0) : (if m = 0 then (⟨B, k, none⟩ : Addr) else (⟨B, k, none⟩ : Addr).add i) = ⟨B, k + i, none⟩ := by
  split
  · rename_i h; rw [hm h]; rfl
  · exact addr_add _ _ _
theorem bound_le {x : Option AVal} {d y n : Nat} (h : bound x d y = some n) : n ≤ d ∨ n ≤ y := by
  cases x with
  | none => simp [bound] at h; omega
  | some x =>
    simp only [bound] at h
    split at h
    · obtain ⟨hle, hh⟩ := condO_some h; cases hh; right; simpa [Nat.ble_eq] using hle
    · cases h
theorem slice_run {t : TypeId} {x v : AVal} {lo hi mx : Option AVal} {x' : Value} {lo' hi' mx' : Option Value} (hh : sliceA P t x lo hi mx = some v) (hx : Rel σ ρ x x')
    (hlo : ORel σ ρ lo lo') (hhi : ORel σ ρ hi hi') (hmx : ORel σ ρ mx mx') (w : World)
    (hsz : ∀ n elem b o L es, P.underlying t = some (.array n elem) → x = .ptr b o → ρ b = some L → sz P elem = some es → L.sh + o + n * es ≤ L.sz) :
    ∃ v', (Instr.sliceAt t x' lo' hi' mx').run P w = .ok v' w ∧ Rel σ ρ v v' := by
  unfold sliceA at hh
  split at hh
  · rename_i n elem b o hu
    split at hh
    · rename_i es m hs e1
      split at hh
      · rename_i h e2
        split at hh
        · rename_i l e3
          obtain ⟨hg, hh⟩ := condO_some hh
          simp only [frcN_eq, Option.some.injEq] at hh; subst hh
          unfold Rel at hx
          obtain ⟨L, hL, rfl⟩ := hx
          have hb := sliceBounds_run (P := P) hlo hhi hmx (b := false) (len := n) e1 (Nat.le_refl n) (fun hn => by subst hn; simp [bound] at e1; omega) e2 e3 hg w
          have hmn : (if mx.isNone = true then n else m) = m := by
            split
            · rename_i hn
              cases mx with
              | none => simp [bound] at e1; exact e1
              | some _ => cases hn
            · rfl
          rw [hmn] at hb
          have hm : m ≤ n := by rcases bound_le e1 with h | h <;> exact h
          have hhm : h ≤ m ∨ h ≤ n := by rcases bound_le e2 with h | h <;> omega
          have hhm' : h ≤ m := by
            cases hi with
            | none =>
              simp [bound] at e2
              cases mx with
              | none => simp [bound] at e1; omega
              | some _ => simp at hg
            | some hv => rcases bound_run (σ := σ) (ρ := ρ) e2 hhi with ⟨h1, _⟩ | ⟨_, _, _, h1⟩; cases h1; exact h1
          have hlh : l ≤ h := by rcases bound_le e3 with h | h <;> omega
          have hz := hsz n elem b o L es hu rfl hL hs
          refine ⟨.slice (some (if m = l then ⟨L.blk, L.sh + o, none⟩ else (⟨L.blk, L.sh + o, none⟩ : Addr).add (l * es))) (h - l) (m - l), ?_, ?_⟩
          · simp [Instr.sliceAt, run_underlying hu, Instr.sureAddr, hb, sz_run hs]
          · unfold Rel
            have hmul : l * es ≤ n * es := Nat.mul_le_mul_right _ (by omega)
            have hmul2 : l * es + (m - l) * es = m * es := by rw [← Nat.add_mul]; congr 1; omega
            have hmul3 : m * es ≤ n * es := Nat.mul_le_mul_right _ hm
            split
            · rename_i hml
              exact ⟨L, _, _, hL, rfl, .inr ⟨by omega, by omega⟩, by omega, fun k hk => by cases hk; rfl⟩
            · rw [addr_add]
              exact ⟨L, _, _, hL, rfl, .inl ⟨by rw [Nat.add_assoc], by omega⟩, by omega, fun k hk => by cases hk; rfl⟩
        · cases hh
      · cases hh
    · cases hh
  · rename_i elem b o len cap es hu
    split at hh
    · rename_i es' m hs e1
      split at hh
      · rename_i h e2
        split at hh
        · rename_i l e3
          have hcc := condO_some hh
          clear hh
          obtain ⟨hg, hh⟩ := hcc
          rw [Bool.and_eq_true] at hg
          have hes : es = es' := Nat.eq_of_beq_eq_true hg.2
          subst hes
          simp only [frcN_eq] at hh
          unfold Rel at hx
          obtain ⟨L, a, c, hL, rfl, hoff, hlc, hcap⟩ := hx
          have hcl : cap.getD len ≤ c := by
            cases cap with
            | none => exact hlc
            | some c' => rw [hcap c' rfl]; exact Nat.le_refl _
          have hb := sliceBounds_run (P := P) hlo hhi hmx (b := true) (len := len) e1 hcl (fun hn => by subst hn; simp [bound] at e1; omega) e2 e3 hg.1 w
          have hm : m ≤ cap.getD len := by rcases bound_le e1 with h | h <;> exact h
          have hhm' : h ≤ m ∨ (h = len ∧ cap.getD len = m) := by
            cases hi with
            | none =>
              simp [bound] at e2
              cases mx with
              | none => simp [bound] at e1; right; exact ⟨e2.symm, e1⟩
              | some _ => simp at hg
            | some hv => rcases bound_run (σ := σ) (ρ := ρ) e2 hhi with ⟨h1, _⟩ | ⟨_, _, _, h1⟩; cases h1; exact .inl h1
          have hll : len ≤ cap.getD len := by
            cases cap with
            | none => exact Nat.le_refl _
            | some c' => rw [hcap c' rfl] at hlc; exact hlc
          have hlh : l ≤ h := by rcases bound_le e3 with h | h <;> omega
          generalize hM : (if mx.isNone = true then c else m) = M at hb
          have hMc : M ≤ c := by rw [← hM]; split <;> omega
          have hhM : h ≤ M := by rw [← hM]; split <;> omega
          have hmul2 : l * es + (M - l) * es = M * es := by rw [← Nat.add_mul]; congr 1; omega
          have hmul3 : M * es ≤ c * es := Nat.mul_le_mul_right _ hMc
          have hmul4 : l * es ≤ M * es := Nat.mul_le_mul_right _ (by omega)
          refine ⟨.slice (if M = l then some a else some (a.add (l * es))) (h - l) (M - l), ?_, ?_⟩
          · simp [Instr.sliceAt, Instr.slice, run_underlying hu, hb, sz_run hs]
          · have hv : ∃ q, v = .slc b (o + l * es) (h - l) q es ∧ ∀ k, q = some k → M - l = k := by
              cases cap with
              | none =>
                cases mx with
                | none => exact ⟨none, (Option.some.inj hh).symm, fun k hk => by cases hk⟩
                | some mv => refine ⟨some (m - l), (Option.some.inj hh).symm, fun k hk => ?_⟩; cases hk; rw [← hM]; simp
              | some c' =>
                refine ⟨some (m - l), by cases mx <;> exact (Option.some.inj hh).symm, fun k hk => ?_⟩
                cases hk
                have hcc := hcap c' rfl
                rw [← hM]
                split
                · rename_i hn
                  cases mx with
                  | none => simp [bound] at e1; omega
                  | some _ => cases hn
                · rfl
            obtain ⟨q, rfl, hq⟩ := hv
            unfold Rel
            split
            · rename_i hml
              exact ⟨L, a, _, hL, rfl, .inr ⟨by omega, by omega⟩, by omega, hq⟩
            · rcases hoff with ⟨rfl, hoc⟩ | ⟨_, h0⟩
              · rw [addr_add]
                exact ⟨L, _, _, hL, rfl, .inl ⟨by rw [Nat.add_assoc], by omega⟩, by omega, hq⟩
              · omega
        · cases hh
      · cases hh
    · cases hh
  · rename_i elem hu
    split at hh
    · rename_i l h m e3 e2 e1
      obtain ⟨hg, hh⟩ := condO_some hh
      rw [Bool.and_eq_true] at hg
      cases hh
      unfold Rel at hx; subst hx
      have hm0 : m = 0 := by rcases bound_le e1 with h | h <;> omega
      have hh0 : h = 0 := by rcases bound_le e2 with h | h <;> omega
      have hl0 : l = 0 := by rcases bound_le e3 with h | h <;> omega
      subst hm0; subst hh0; subst hl0
      have hb := sliceBounds_run (P := P) hlo hhi hmx (b := true) (len := 0) (c := 0) e1 (Nat.le_refl 0) (fun _ => Nat.le_refl 0) e2 e3 hg.1 w
      have : (if mx.isNone = true then 0 else 0) = 0 := by split <;> rfl
      rw [this] at hb
      obtain ⟨i, hi'⟩ := Option.isSome_iff_exists.1 hg.2
      refine ⟨.slice none 0 0, ?_, by unfold Rel; rfl⟩
      simp [Instr.sliceAt, Instr.slice, run_underlying hu, hb, sizeOf, typeInfo, hi']
    · cases hh
  · cases hh
end
end Go.AM
namespace Go.AM
open Go Go.RowKit

section
variable {P : Program} {σ : Nat → Value} {ρ : Ren} {base : Nat} {H H' : AHeap} {w : World}
/-- what a piece of concrete work must come to -/
def Okay (σ : Nat → Value) (ρ : Ren) (base : Nat) (H H' : AHeap) (w : World) {β : Type} (R : Ren → β → Prop) (r : Result β) : Prop :=
  ∃ b w' ρ', r = .ok b w' ∧ Ext ρ ρ' H.next H'.next ∧ WR σ ρ' base H' w' ∧ Below base w w' ∧ R ρ' b
theorem Okay.same {β : Type} {R : Ren → β → Prop} {r : Result β} {b : β} (hr : r = .ok b w) (hwr : WR σ ρ base H w) (hb : H'.blks = H.blks) (hl : H'.lo = H.lo) (h : R ρ b) : Okay σ ρ base H H' w R r :=
  ⟨b, w, ρ, hr, .refl _ _ _, hwr.log hb hl, .refl _ _, h⟩
theorem rd_some {id : Nat} {b : ABlk} (h : rd id H = some (b, H')) : H.blks.get id = some b ∧ H'.blks = H.blks ∧ H'.lo = H.lo ∧ H'.next = H.next := by
  unfold rd at h
  split at h
  · cases h
  · rename_i b' hb; cases h; exact ⟨hb, rfl, rfl, rfl⟩
theorem wr_some {id : Nat} {b : ABlk} {u : Unit} (h : wr id b H = some (u, H')) : H.lo ≤ id ∧ (∃ b0, H.blks.get id = some b0) ∧ (∀ j, H'.blks.get j = if id = j then some b else H.blks.get j) ∧ H'.lo = H.lo ∧ H'.next = H.next := by
  unfold wr at h
  have hc := condO_some h
  clear h
  obtain ⟨hlo, h⟩ := hc
  split at h
  · cases h
  · rename_i b0 hb; cases h
    exact ⟨by simpa [Nat.ble_eq] using hlo, ⟨b0, hb⟩, fun j => Tr.get_put _ _ _ _, rfl, rfl⟩
theorem kill_some {id : Nat} {u : Unit} (h : kill id H = some (u, H')) : H.lo ≤ id ∧ (∃ b0, H.blks.get id = some b0) ∧ (∀ j, H'.blks.get j = if id = j then none else H.blks.get j) ∧ H'.lo = H.lo ∧ H'.next = H.next := by
  unfold kill at h
  have hc := condO_some h
  clear h
  obtain ⟨hlo, h⟩ := hc
  split at h
  · cases h
  · rename_i b0 hb; cases h
    exact ⟨by simpa [Nat.ble_eq] using hlo, ⟨b0, hb⟩, fun j => Tr.get_put _ _ _ _, rfl, rfl⟩
theorem nw_some {b : ABlk} {n : Nat} (h : nw b H = some (n, H')) : n = H.next ∧ H.lo ≤ H.next ∧ (∀ j, H'.blks.get j = if H.next = j then some b else H.blks.get j) ∧ H'.lo = H.lo ∧ H'.next = H.next + 1 := by
  unfold nw at h
  rw [frcN_eq] at h
  have hc := condO_some h
  clear h
  obtain ⟨hlo, h⟩ := hc
  cases h
  exact ⟨rfl, by simpa [Nat.ble_eq] using hlo, fun j => Tr.get_put _ _ _ _, rfl, rfl⟩

theorem cell_of {B : Nat} {cc : Array Value} {e : TypeId} {fr : Nat × Nat} (h : w.heap[B]? = some (.cells cc e fr)) (k : Nat) : w.cell? ⟨B, k, none⟩ = cc[k]? := by
  simp [World.cell?, h]
theorem frozen_of {B : Nat} {cc : Array Value} {e : TypeId} (h : w.heap[B]? = some (.cells cc e (0, 0))) (k : Nat) : w.frozen? ⟨B, k, none⟩ = false := by
  simp [World.frozen?, h]
theorem setCell_upd {B k : Nat} {cc : Array Value} {e : TypeId} {fr : Nat × Nat} (v : Value) (h : w.heap[B]? = some (.cells cc e fr)) :
    Upd w B (.cells (cc.setIfInBounds k v) e fr) (w.setCell ⟨B, k, none⟩ v) := by
  refine ⟨rfl, rfl, rfl, by simp, ?_, fun j hj => Below.heap_setCell _ _ _ _ hj⟩
  simp [World.setCell, Array.getElem?_modify, h]
theorem Upd.trans {w1 w2 : World} {B : Nat} {o1 o2 : Obj} (h : Upd w B o1 w1) (k : Upd w1 B o2 w2) : Upd w B o2 w2 :=
  ⟨k.os.trans h.os, k.tape.trans h.tape, k.output.trans h.output, Nat.le_trans h.size k.size, k.at_, fun j hj => (k.other j hj).trans (h.other j hj)⟩
theorem Upd.self {B : Nat} {o : Obj} (h : w.heap[B]? = some o) : Upd w B o w := ⟨rfl, rfl, rfl, Nat.le_refl _, h, fun _ _ => rfl⟩
theorem run_storeCells {B k : Nat} {e : TypeId} : ∀ (vs : List Value) (i : Nat) (w : World) (cc : Array Value), w.heap[B]? = some (.cells cc e (0, 0)) → k + i + vs.length ≤ cc.size →
    (∀ v ∈ vs, v.oneCell' = true) → ∃ w' cc', (storeCells ⟨B, k, none⟩ vs i).run P w = .ok () w' ∧ Upd w B (.cells cc' e (0, 0)) w' ∧ cc'.size = cc.size ∧
      ∀ j, cc'[j]? = if k + i ≤ j ∧ j < k + i + vs.length then vs[j - (k + i)]? else cc[j]? := by
  intro vs
  induction vs with
  | nil =>
    intro i w cc h _ _
    refine ⟨w, cc, by simp [storeCells], Upd.self h, rfl, fun j => ?_⟩
    rw [if_neg (by simp only [List.length_nil]; omega)]
  | cons v vs ih =>
    intro i w cc h hl h1
    simp only [List.length_cons] at hl
    have hlt : k + i < cc.size := by omega
    have hcell : w.cell? ⟨B, k + i, none⟩ = some cc[k + i] := by rw [cell_of h]; exact Array.getElem?_eq_getElem hlt
    have hst : (store ((⟨B, k, none⟩ : Addr).add i) v).run P w = .ok () (w.setCell ⟨B, k + i, none⟩ v) := by
      rw [addr_add, run_store P w _ v _ (h1 v (by simp)), hcell]
      simp [frozen_of h]
    have hu := setCell_upd (w := w) (k := k + i) v h
    obtain ⟨w', cc', e1, u1, s1, g1⟩ := ih (i + 1) (w.setCell ⟨B, k + i, none⟩ v) _ hu.at_ (by simp; omega) (fun x hx => h1 x (by simp [hx]))
    refine ⟨w', cc', by simp [storeCells, hst, e1], hu.trans u1, by simpa using s1, fun j => ?_⟩
    rw [g1 j]
    by_cases hj : j = k + i
    · subst hj
      rw [if_neg (by omega), if_pos (by simp)]
      simp [hlt]
    · by_cases hj2 : k + (i + 1) ≤ j ∧ j < k + (i + 1) + vs.length
      · rw [if_pos hj2, if_pos (by simp only [List.length_cons]; omega)]
        have : j - (k + i) = (j - (k + (i + 1))) + 1 := by omega
        rw [this, List.getElem?_cons_succ]
      · rw [if_neg hj2, if_neg (by simp only [List.length_cons]; omega)]
        rw [Array.getElem?_setIfInBounds_ne (by omega)]

theorem cellsAt_spec {c : Tr AVal} : ∀ (n o : Nat) (l : List AVal), cellsAt c o n = some l → l.length = n ∧ ∀ i x, l[i]? = some x → c.get (o + i) = some x := by
  intro n
  induction n with
  | zero => intro o l h; cases h; exact ⟨rfl, fun i x h => by simp at h⟩
  | succ n ih =>
    intro o l h
    unfold cellsAt at h
    split at h
    · cases h
    · rename_i v hv
      split at h
      · cases h
      · rename_i vs hvs
        cases h
        obtain ⟨h1, h2⟩ := ih _ _ hvs
        refine ⟨by simp [h1], fun i x hx => ?_⟩
        cases i with
        | zero => simp at hx; subst hx; exact hv
        | succ i => simp at hx; have := h2 i x hx; rw [show o + (i + 1) = o + 1 + i from by omega]; exact this
/-- the cells that an abstract block shows, in the world -/
theorem cells_read {b o n : Nat} {l : List AVal} {e : TypeId} {c : Tr AVal} {N : Nat} {L : Loc} (hwr : WR σ ρ base H w) (hb : H.blks.get b = some (.cells e c N)) (hL : ρ b = some L) (hl : cellsAt c o n = some l) :
    ∃ vs : List Value, vs.length = n ∧ RelL σ ρ l vs ∧ (∀ v ∈ vs, v.oneCell' = true) ∧ ∀ j v, vs[j]? = some v → w.cell? ((⟨L.blk, L.sh + o, none⟩ : Addr).add j) = some v := by
  obtain ⟨L', hL', cc, fr, h1, _, _, _, h5⟩ := hwr.blk b _ hb
  rw [hL] at hL'; cases hL'
  obtain ⟨hlen, hget⟩ := cellsAt_spec n o l hl
  have key : ∀ i x, l[i]? = some x → ∃ v, cc[L.sh + o + i]? = some v ∧ Rel σ ρ x v ∧ v.oneCell' = true := by
    intro i x hx
    obtain ⟨v, a, b, c⟩ := h5 _ _ (hget i x hx)
    exact ⟨v, by rw [Nat.add_assoc]; exact a, b, c⟩
  refine ⟨(List.range n).map fun i => (cc[L.sh + o + i]?).getD undef, by simp, ?_, ?_, ?_⟩
  · refine RelL.of_get (by simp [hlen]) fun i x y hx hy => ?_
    obtain ⟨v, a, b, _⟩ := key i x hx
    have hi : i < n := by rw [← hlen]; exact (List.getElem?_eq_some_iff.1 hx).1
    simp [List.getElem?_map, List.getElem?_range hi, a] at hy
    subst hy; exact b
  · intro v hv
    simp only [List.mem_map, List.mem_range] at hv
    obtain ⟨i, hi, rfl⟩ := hv
    have : l[i]? = some l[i] := List.getElem?_eq_getElem (by omega)
    obtain ⟨v, a, _, c⟩ := key i _ this
    rw [a]; exact c
  · intro j v hv
    have hj : j < n := by have := (List.getElem?_eq_some_iff.1 hv).1; simpa using this
    have : l[j]? = some l[j] := List.getElem?_eq_getElem (by omega)
    obtain ⟨v', a, _, _⟩ := key j _ this
    simp [List.getElem?_map, List.getElem?_range hj, a] at hv
    subst hv
    rw [addr_add, cell_of h1]; exact a
theorem loadCellsA_ok {b o n : Nat} {l : List AVal} {L : Loc} (h : loadCellsA b o n H = some (l, H')) (hwr : WR σ ρ base H w) (hL : ρ b = some L) :
    H'.blks = H.blks ∧ H'.lo = H.lo ∧ H'.next = H.next ∧ ∃ vs : List Value, vs.length = n ∧ RelL σ ρ l vs ∧ (∀ v ∈ vs, v.oneCell' = true) ∧ (∀ j v, vs[j]? = some v → w.cell? ((⟨L.blk, L.sh + o, none⟩ : Addr).add j) = some v) ∧
      (loadCells ⟨L.blk, L.sh + o, none⟩ n).run P w = .ok vs.toArray w := by
  obtain ⟨blk, K, h1, h2⟩ := bd_some h
  obtain ⟨hb, e1, e2, e3⟩ := rd_some h1
  split at h2
  · rename_i e c N
    obtain ⟨l', hl, e⟩ := lift_some h2
    cases e
    obtain ⟨vs, a1, a2, a3, a4⟩ := cells_read hwr hb hL hl
    refine ⟨e1, e2, e3, vs, a1, a2, a3, a4, ?_⟩
    have := run_loadCells_list (P := P) (w := w) ⟨L.blk, L.sh + o, none⟩ vs a4
    rw [a1] at this; exact this
  · exact (fail_some h2).elim
theorem loadA_ok {t : TypeId} {b o : Nat} {v : AVal} {L : Loc} (h : loadA P t b o H = some (v, H')) (hwr : WR σ ρ base H w) (hL : ρ b = some L) :
    H'.blks = H.blks ∧ H'.lo = H.lo ∧ H'.next = H.next ∧ ∃ v', (loadVar t ⟨L.blk, L.sh + o, none⟩).run P w = .ok v' w ∧ Rel σ ρ v v' := by
  unfold loadA at h
  cases ha : isAggT P t with
  | none => simp only [ha] at h; exact (fail_some h).elim
  | some g =>
    cases g with
    | true =>
      simp only [ha] at h
      cases hs : sz P t with
      | none => simp only [hs] at h; exact (fail_some h).elim
      | some n =>
        simp only [hs] at h
        obtain ⟨l, K, h1, h2⟩ := bd_some h
        cases ret_some h2
        obtain ⟨e1, e2, e3, vs, _, r, _, _, e⟩ := loadCellsA_ok (P := P) h1 hwr hL
        exact ⟨e1, e2, e3, .agg vs.toArray, by simp [loadVar, isAgg_run ha, sz_run hs, e], by unfold Rel; exact ⟨_, rfl, by simpa using r⟩⟩
    | false =>
      simp only [ha] at h
      obtain ⟨blk, K, h1, h2⟩ := bd_some h
      obtain ⟨hb, e1, e2, e3⟩ := rd_some h1
      cases blk with
      | cells e c N =>
        simp only at h2
        obtain ⟨x, hx, e⟩ := lift_some h2
        cases e
        obtain ⟨L', hL', cc, fr, h1, _, _, _, h5⟩ := hwr.blk b _ hb
        rw [hL] at hL'; cases hL'
        obtain ⟨v', a, r, _⟩ := h5 _ _ hx
        exact ⟨e1, e2, e3, v', by simp [loadVar, isAgg_run ha, cell_of h1, a], r⟩
      | _ => exact (fail_some h2).elim
theorem gloadA_ok {t : TypeId} {g : Nat} {v : AVal} (h : gloadA P t g H = some (v, H')) (hwr : WR σ ρ base H w) :
    H'.blks = H.blks ∧ H'.lo = H.lo ∧ H'.next = H.next ∧ ∃ v', (loadVar t ⟨g, 0, none⟩).run P w = .ok v' w ∧ Rel σ ρ v v' := by
  obtain ⟨blk, K, h1, h2⟩ := bd_some h
  obtain ⟨hb, e1, e2, e3⟩ := rd_some h1
  cases blk with
  | glob g' x =>
    simp only at h2
    have hcs := cond_some h2
    clear h2
    obtain ⟨hg, h2⟩ := hcs
    replace hg := Nat.eq_of_beq_eq_true hg
    subst hg
    obtain ⟨L, hL, hbk, vs, e, fr, ho, hr, hone⟩ := hwr.blk g _ hb
    rw [hbk] at ho
    cases ha : isAggT P t with
    | none => simp only [ha] at h2; exact (fail_some h2).elim
    | some q =>
      cases q with
      | true =>
        simp only [ha] at h2
        cases x with
        | agg l =>
          simp only at h2
          cases hs : sz P t with
          | none => simp only [hs] at h2; exact (fail_some h2).elim
          | some n =>
            simp only [hs] at h2
            obtain ⟨hn, h3⟩ := cond_some h2
            have hn := Nat.eq_of_beq_eq_true hn
            cases ret_some h3
            have hr : RelL σ ρ l vs := hr
            have hlen : vs.length = n := by rw [hr.length, hn]
            have hl := run_loadCells_list (P := P) (w := w) ⟨g, 0, none⟩ vs (fun j y hj => by
              rw [addr_add, cell_of ho]
              simpa using hj)
            rw [hlen] at hl
            exact ⟨e1, e2, e3, .agg vs.toArray, by simp [loadVar, isAgg_run ha, sz_run hs, hl], by unfold Rel; exact ⟨_, rfl, by simpa using hr⟩⟩
        | _ => exact (fail_some h2).elim
      | false =>
        simp only [ha] at h2
        obtain ⟨hx, h3⟩ := cond_some h2
        cases ret_some h3
        have hc : v.cells = [v] := by cases v <;> first | rfl | cases hx
        rw [hc] at hr
        unfold RelL at hr
        obtain ⟨y, ys, rfl, hy, hys⟩ := hr
        exact ⟨e1, e2, e3, y, by simp [loadVar, isAgg_run ha, cell_of ho], hy⟩
  | _ => exact (fail_some h2).elim
theorem allOne_spec {l : List AVal} (h : allOne l = true) : ∀ x ∈ l, x.one = true := by
  induction l with
  | nil => simp
  | cons y ys ih =>
    simp only [allOne, Bool.and_eq_true] at h
    intro x hx
    rcases List.mem_cons.1 hx with rfl | hx
    · exact h.1
    · exact ih h.2 x hx
theorem rel_one {l : List AVal} {vs : List Value} (hσ : One σ) (h : allOne l = true) (hr : RelL σ ρ l vs) : ∀ v ∈ vs, v.oneCell' = true := by
  intro v hv
  obtain ⟨i, hi⟩ := List.getElem?_of_mem hv
  have hlt : i < l.length := by rw [← hr.length]; exact (List.getElem?_eq_some_iff.1 hi).1
  have hx : l[i]? = some l[i] := List.getElem?_eq_getElem hlt
  obtain ⟨y, hy, r⟩ := hr.get i _ hx
  rw [hi] at hy; cases hy
  exact one_cell hσ r (allOne_spec h _ (List.getElem_mem hlt))
theorem storeCellsA_ok {b o : Nat} {vs : List AVal} {u : Unit} {L : Loc} {vs' : List Value} (h : storeCellsA b o vs H = some (u, H')) (hσ : One σ) (hwr : WR σ ρ base H w) (hL : ρ b = some L) (hr : RelL σ ρ vs vs') :
    H'.next = H.next ∧ H'.lo = H.lo ∧ ∃ w', (storeCells ⟨L.blk, L.sh + o, none⟩ vs').run P w = .ok () w' ∧ WR σ ρ base H' w' ∧ Below base w w' := by
  obtain ⟨blk, K, h1, h2⟩ := bd_some h
  obtain ⟨hb, e1, e2, e3⟩ := rd_some h1
  split at h2
  · rename_i e c N
    obtain ⟨hc, h2⟩ := cond_some h2
    rw [Bool.and_eq_true] at hc
    have hle : o + vs.length ≤ N := by simpa [Nat.ble_eq] using hc.1
    obtain ⟨hlo, _, hk, hkl, hkn⟩ := wr_some h2
    rw [e2] at hlo
    obtain ⟨L', hL', cc, fr, p1, p2, p3, p4, p5⟩ := hwr.blk b _ hb
    rw [hL] at hL'; cases hL'
    have hfr := p2 hlo
    subst hfr
    have hlen := hr.length
    obtain ⟨w', cc', q1, q2, q3, q4⟩ := run_storeCells (P := P) (k := L.sh + o) vs' 0 w cc p1 (by rw [hlen]; omega) (rel_one hσ hc.2 hr)
    have hput := hwr.put (K := H') (b := .cells e (Tr.ofListAt c o vs) N) hb hL hlo q2 (by
      refine ⟨cc', (0, 0), rfl, fun _ => rfl, by rw [q3, p3], by rw [q3]; exact p4, fun i v hv => ?_⟩
      rw [Tr.get_ofListAt] at hv
      rw [q4]
      split at hv
      · rename_i hi
        rw [if_pos (by rw [hlen]; omega)]
        obtain ⟨y, hy, r⟩ := hr.get _ _ hv
        refine ⟨y, ?_, r, rel_one hσ hc.2 hr y (List.mem_of_getElem? hy)⟩
        rw [← hy]; congr 1; omega
      · rename_i hi
        rw [if_neg (by rw [hlen]; omega)]
        exact p5 i v hv) (fun j => by rw [hk, e1]) (hkl.trans e2)
    exact ⟨hkn.trans e3, hkl.trans e2, w', q1, hput.1, hput.2⟩
  · exact (fail_some h2).elim
theorem live_lt {j : Nat} {bj : ABlk} {Lj : Loc} (hwr : WR σ ρ base H w) (h : H.blks.get j = some bj) (hL : ρ j = some Lj) : Lj.blk < w.heap.size := by
  obtain ⟨L', hL', hb⟩ := hwr.blk j _ h
  rw [hL] at hL'; cases hL'
  obtain ⟨o, ho⟩ := hb.some
  exact lt_of_get ho
theorem newCells_ok {elem : TypeId} {cs : List AVal} {id : Nat} (h : newCells elem cs H = some (id, H')) (hσ : One σ) (hwr : WR σ ρ base H w) (hf : Free ρ H.next H'.next) {B sh : Nat} {cc : Array Value} {w' : World}
    (hu : Upd w B (.cells cc elem (0, 0)) w') (hB : base ≤ B) (hdead : ∀ j bj Lj, H.blks.get j = some bj → ρ j = some Lj → Lj.blk ≠ B) (hlen : sh + cs.length ≤ cc.size)
    (hrel : ∀ i x, cs[i]? = some x → ∃ v, cc[sh + i]? = some v ∧ Rel σ ρ x v) :
    id = H.next ∧ H'.next = H.next + 1 ∧ H'.lo = H.lo ∧ ∃ ρ', Ext ρ ρ' H.next H'.next ∧ ρ' id = some ⟨B, sh, cc.size⟩ ∧ WR σ ρ' base H' w' ∧ Below base w w' := by
  obtain ⟨hc, h⟩ := cond_some h
  obtain ⟨rfl, hlo, hk, hkl, hkn⟩ := nw_some h
  have hn : ρ H.next = none := hf H.next (Nat.le_refl _) (by omega)
  obtain ⟨ρ', x1, x2, x3, x4⟩ := hwr.new (L := ⟨B, sh, cc.size⟩) (b := .cells elem (Tr.ofListAt .nil 0 cs) cs.length) hn hdead hB hu (fun ρ' hle _ => by
    refine ⟨cc, (0, 0), rfl, fun _ => rfl, rfl, hlen, fun i v hv => ?_⟩
    rw [Tr.get_ofListAt, Tr.get_nil] at hv
    split at hv
    · obtain ⟨y, hy, r⟩ := hrel _ _ hv
      have : i - 0 = i := by omega
      rw [this] at hy hv
      exact ⟨y, hy, Rel.mono hle _ _ r, one_cell hσ r (allOne_spec hc _ (List.mem_of_getElem? hv))⟩
    · cases hv) hk hkl hkn
  exact ⟨rfl, hkn, hkl, ρ', x1, x2, x3, x4⟩
theorem push_upd (w : World) (o : Obj) : Upd w w.heap.size o (w.alloc o) :=
  ⟨rfl, rfl, rfl, by simp, by show (w.heap.push o)[w.heap.size]? = some o; simp, fun k hk => by
    show (w.heap.push o)[k]? = w.heap[k]?; rw [Array.getElem?_push, if_neg hk]⟩
/-- a fresh row -/
theorem fresh_ok {elem : TypeId} {cs : List AVal} {id : Nat} (h : newCells elem cs H = some (id, H')) (hσ : One σ) (hwr : WR σ ρ base H w) (hf : Free ρ H.next H'.next) {vs : List Value} (rest : List Value) (hr : RelL σ ρ cs vs) :
    id = H.next ∧ H'.next = H.next + 1 ∧ H'.lo = H.lo ∧ ∃ ρ', Ext ρ ρ' H.next H'.next ∧ ρ' id = some ⟨w.heap.size, 0, vs.length + rest.length⟩ ∧ WR σ ρ' base H' (w.alloc (.cells (vs ++ rest).toArray elem)) ∧ Below base w (w.alloc (.cells (vs ++ rest).toArray elem)) := by
  have hl := hr.length
  have := newCells_ok h hσ hwr hf (sh := 0) (push_upd w (.cells (vs ++ rest).toArray elem)) hwr.base (fun j bj Lj hj hLj => Nat.ne_of_lt (live_lt hwr hj hLj)) (by simp [hl]) (fun i x hx => by
    obtain ⟨y, hy, r⟩ := hr.get i x hx
    refine ⟨y, ?_, r⟩
    have hi : i < vs.length := (List.getElem?_eq_some_iff.1 hy).1
    simp [List.getElem?_append_left hi, hy])
  simpa using this
end
end Go.AM
