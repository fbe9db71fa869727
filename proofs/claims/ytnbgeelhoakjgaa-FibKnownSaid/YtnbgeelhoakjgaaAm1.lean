/- Part 1 of a calculation in a small memory that is proved to answer as the program does: see the last part. -/
import Derived.RangeFuncLeaves
import Derived.RangeFuncIn
namespace Go.AM
open Go

/-! ### tries: finite maps from numbers -/
inductive Tr (α : Type) where
  | nil : Tr α
  | node : Option α → Tr α → Tr α → Tr α

namespace Tr
variable {α : Type}
def get : Tr α → Nat → Option α
  | .nil, _ => none
  | .node v l r, i =>
    match i with
    | 0 => v
    | j + 1 => cond (Nat.beq (j % 2) 0) (l.get (j / 2)) (r.get (j / 2))
def setF : Nat → Tr α → Nat → Option α → Tr α
  | 0, t, _, _ => t
  | f + 1, t, i, x =>
    match t, i with
    | .nil, 0 => .node x .nil .nil
    | .nil, j + 1 => cond (Nat.beq (j % 2) 0) (.node none (setF f .nil (j / 2) x) .nil) (.node none .nil (setF f .nil (j / 2) x))
    | .node _ l r, 0 => .node x l r
    | .node v l r, j + 1 => cond (Nat.beq (j % 2) 0) (.node v (setF f l (j / 2) x) r) (.node v l (setF f r (j / 2) x))
def put (t : Tr α) (i : Nat) (x : Option α) : Tr α := setF (i + 1) t i x
def set (t : Tr α) (i : Nat) (x : α) : Tr α := put t i (some x)
def ofListAt (t : Tr α) (i : Nat) : List α → Tr α
  | [] => t
  | x :: xs => ofListAt (t.set i x) (i + 1) xs
/-- every entry passes; 'a + m * index' is the key -/
def allB (p : Nat → α → Bool) : Tr α → Nat → Nat → Bool
  | .nil, _, _ => true
  | .node v l r, a, m => (match v with | some x => p a x | none => true) && (l.allB p (a + m) (2 * m) && r.allB p (a + 2 * m) (2 * m))
end Tr

/-! ### forced numbers -/
def frcN {β : Type} (n : Nat) (k : Nat → β) : β := match n with | 0 => k 0 | m + 1 => k (m + 1)
def frc {β : Type} (n : Int) (k : Int → β) : β :=
  match n with
  | .ofNat a => frcN a fun a => k (.ofNat a)
  | .negSucc a => frcN a fun a => k (.negSucc a)
def ltI : Int → Int → Bool
  | .ofNat a, .ofNat b => Nat.blt a b
  | .ofNat _, .negSucc _ => false
  | .negSucc _, .ofNat _ => true
  | .negSucc a, .negSucc b => Nat.blt b a
def eqI : Int → Int → Bool
  | .ofNat a, .ofNat b => Nat.beq a b
  | .negSucc a, .negSucc b => Nat.beq a b
  | _, _ => false
/-- wrapping at modulus m; h: where the negative numbers begin (m: none) -/
def wrapM (m h : Nat) : Int → Int
  | .ofNat a => cond (Nat.blt a h) (.ofNat a) (let r := a % m; cond (Nat.blt r h) (.ofNat r) (.negSucc (m - r - 1)))
  | .negSucc a => let r := m - 1 - a % m; cond (Nat.blt r h) (.ofNat r) (.negSucc (m - r - 1))
def wrapK : IntKind → Int → Int
  | .i8 => wrapM 256 128
  | .i16 => wrapM 65536 32768
  | .i32 => wrapM 4294967296 2147483648
  | .i64 => wrapM 18446744073709551616 9223372036854775808
  | .u8 => wrapM 256 256
  | .u16 => wrapM 65536 65536
  | .u32 => wrapM 4294967296 4294967296
  | .u64 => wrapM 18446744073709551616 18446744073709551616

/-! ### values -/
inductive AVal where
  | bool (b : Bool)
  | int (k : IntKind) (n : Int)
  | str (s : ByteArray)
  | ptr (b o : Nat)
  | nilptr
  | slc (b o len : Nat) (cap : Option Nat) (es : Nat)
  | nilslc
  | map (b : Nat)
  | nilmap
  | fn (f : Fn) (first captured : List AVal)
  | yield (l : Nat)
  | nilFunc
  | ifc (t : TypeId) (v : AVal)
  | nilIface
  | agg (cs : List AVal)
  | tup (vs : List AVal)
  | opq (i : Nat)
  deriving Inhabited
def AVal.undef : AVal := .tup []
def AVal.cells : AVal → List AVal
  | .agg cs => cs
  | v => [v]
def AVal.one : AVal → Bool
  | .agg _ | .tup _ => false
  | _ => true

abbrev Tmps := Tr AVal

structure AEnt where
  key : AVal
  val : AVal
  born : Nat

inductive ABlk where
  | cells (elem : TypeId) (c : Tr AVal) (n : Nat)
  | map (es : List AEnt) (clock : Nat)
  | loop (st : LoopState) (pending : Option Code) (nt : Nat) (T : Tmps) (params : List Tmp) (assign body : Code) (defers : Nat)
  | deferred (some : Bool)
  | iter (m : Option Nat) (since : Nat) (seen : List Nat) (stepped : Nat)

/-- Abstract memory: the blocks, the next free number, the first number that may be written, and the events (true: written), the last one first. -/
structure AHeap where
  blks : Tr ABlk
  next : Nat
  lo : Nat
  log : List (Nat × Bool)

abbrev M (α : Type) := AHeap → Option (α × AHeap)
def ret {α : Type} (a : α) : M α := fun H => some (a, H)
def bd {α β : Type} (m : M α) (f : α → M β) : M β := fun H => match m H with | none => none | some (a, H') => f a H'
def fail {α : Type} : M α := fun _ => none
def lift {α : Type} (o : Option α) : M α := fun H => match o with | none => none | some a => some (a, H)
def rd (id : Nat) : M ABlk := fun H => match H.blks.get id with | none => none | some b => some (b, { H with log := (id, false) :: H.log })
def wr (id : Nat) (b : ABlk) : M Unit := fun H =>
  cond (Nat.ble H.lo id) (match H.blks.get id with | none => none | some _ => some ((), { H with blks := H.blks.put id (some b), log := (id, true) :: H.log })) none
def kill (id : Nat) : M Unit := fun H =>
  cond (Nat.ble H.lo id) (match H.blks.get id with | none => none | some _ => some ((), { H with blks := H.blks.put id none, log := (id, true) :: H.log })) none
def nw (b : ABlk) : M Nat := fun H => frcN H.next fun n =>
  cond (Nat.ble H.lo n) (some (n, { H with blks := H.blks.put n (some b), next := n + 1, log := (n, true) :: H.log })) none
/-- the events of one piece of work -/
def capture {α : Type} (m : M α) : M (α × List (Nat × Bool)) := fun H => match m { H with log := [] } with
  | none => none
  | some (a, H') => some ((a, H'.log), { H' with log := H'.log ++ H.log })

/-! ### operands -/
def ofV : Nat → Value → Option AVal
  | _, .bool b => some (.bool b)
  | _, .int k n => some (.int k n)
  | _, .string s => some (.str s)
  | _, .pointer none => some .nilptr
  | _, .slice none 0 0 => some .nilslc
  | _, .map none => some .nilmap
  | _, .nilFunc => some .nilFunc
  | _, .nilIface => some .nilIface
  | d + 1, .agg cs => (cs.toList.mapM (ofV d)).map .agg
  | d + 1, .tuple cs => (cs.toList.mapM (ofV d)).map .tup
  | _, _ => none
def ev (T : Tmps) : Operand → Option AVal
  | .tmp t => match T.get t with | some v => some v | none => some .undef
  | .const v => ofV 2 v
  | .func f => some (.fn (.func f) [] [])
  | .global _ => none
def evs (T : Tmps) : List Operand → Option (List AVal)
  | [] => some []
  | x :: xs => match ev T x with
    | none => none
    | some v => match evs T xs with
      | none => none
      | some vs => some (v :: vs)

section
variable (P : Program)

/-! ### types -/
def sz (t : TypeId) : Option Nat := match P.info? t with | some i => some i.size | none => none
def isAggT (t : TypeId) : Option Bool := match P.underlying t with
  | some (.struct _) => some true
  | some (.array _ _) => some true
  | some _ => some false
  | none => none
def zeroA (t : TypeId) : Option AVal := match P.info? t with
  | some i => match i.zero with | some v => ofV 2 v | none => none
  | none => none
def aPart (t : TypeId) (cs : List AVal) (off : Nat) : Option AVal :=
  match isAggT P t with
  | some true => match sz P t with
    | some n => cond (Nat.ble (off + n) cs.length) (some (.agg ((cs.drop off).take n))) none
    | none => none
  | some false => cs[off]?
  | none => none

/-! ### numbers -/
def arith (op : BinOp) (k : IntKind) (x y : Int) : Option AVal :=
  let r (n : Int) : Option AVal := frc n fun n => some (.int k n)
  match op with
  | .add => r (wrapK k (x + y))
  | .sub => r (wrapK k (x - y))
  | .mul => r (wrapK k (x * y))
  | .quo => cond (eqI y 0) none (r (wrapK k (x.tdiv y)))
  | .rem => cond (eqI y 0) none (r (x.tmod y))
  | .and => r (wrapK k ((BitVec.ofInt k.bits x &&& BitVec.ofInt k.bits y).toNat : Nat))
  | .or => r (wrapK k ((BitVec.ofInt k.bits x ||| BitVec.ofInt k.bits y).toNat : Nat))
  | .xor => r (wrapK k ((BitVec.ofInt k.bits x ^^^ BitVec.ofInt k.bits y).toNat : Nat))
  | .andNot => r (wrapK k ((BitVec.ofInt k.bits x &&& ~~~(BitVec.ofInt k.bits y)).toNat : Nat))
  | .eql => some (.bool (eqI x y))
  | .neq => some (.bool (!eqI x y))
  | .lss => some (.bool (ltI x y))
  | .leq => some (.bool (!ltI y x))
  | .gtr => some (.bool (ltI y x))
  | .geq => some (.bool (!ltI x y))
  | _ => none
def shiftA (op : BinOp) (k : IntKind) (x y : Int) : Option AVal :=
  match y with
  | .negSucc _ => none
  | .ofNat m =>
    let n := min m k.bits
    match op with
    | .shl => frc (wrapK k (x * ((2 ^ n : Nat) : Int))) fun n => some (.int k n)
    | .shr => frc (x.fdiv ((2 ^ n : Nat) : Int)) fun n => some (.int k n)
    | _ => none
def intKindEq : IntKind → IntKind → Bool
  | .i8, .i8 | .i16, .i16 | .i32, .i32 | .i64, .i64 | .u8, .u8 | .u16, .u16 | .u32, .u32 | .u64, .u64 => true
  | _, _ => false

def eqFields (eq : TypeId → AVal → AVal → Option Bool) (xs ys : List AVal) : List Field → Option Bool
  | [] => some true
  | f :: fs =>
    cond (f.name == "_") (eqFields eq xs ys fs)
      (match aPart P f.type xs f.offset, aPart P f.type ys f.offset with
      | some x, some y => match eq f.type x y with
        | some true => eqFields eq xs ys fs
        | some false => some false
        | none => none
      | _, _ => none)
def eqElems (eq : TypeId → AVal → AVal → Option Bool) (elem : TypeId) (n : Nat) (xs ys : List AVal) : Nat → Nat → Option Bool
  | 0, _ => some true
  | len + 1, i =>
    match aPart P elem xs (i * n), aPart P elem ys (i * n) with
    | some x, some y => match eq elem x y with
      | some true => eqElems eq elem n xs ys len (i + 1)
      | some false => some false
      | none => none
    | _, _ => none
def aEq : Nat → TypeId → AVal → AVal → Option Bool
  | 0, _, _, _ => none
  | d + 1, t, x, y =>
    match P.underlying t, x, y with
    | some .bool, .bool a, .bool b => some (a == b)
    | some (.int _), .int k a, .int k' b => cond (intKindEq k k') (some (eqI a b)) none
    | some .string, .str a, .str b => some (a == b)
    | some (.pointer _), .nilptr, .nilptr => some true
    | some (.pointer _), .nilptr, .ptr _ _ => some false
    | some (.pointer _), .ptr _ _, .nilptr => some false
    | some (.interface _), .nilIface, .nilIface => some true
    | some (.interface _), .nilIface, .ifc _ _ => some false
    | some (.interface _), .ifc _ _, .nilIface => some false
    | some (.struct fields), .agg xs, .agg ys => cond (P.stoodInHeld t) none (eqFields P (aEq d) xs ys fields.toList)
    | some (.array len elem), .agg xs, .agg ys => match sz P elem with
      | some n => eqElems P (aEq d) elem n xs ys len 0
      | none => none
    | some (.slice _), .nilslc, .nilslc => some true
    | some (.slice _), .nilslc, .slc _ _ _ _ _ => some false
    | some (.slice _), .slc _ _ _ _ _, .nilslc => some false
    | some (.map _ _), .nilmap, .nilmap => some true
    | some (.map _ _), .nilmap, .map _ => some false
    | some (.map _ _), .map _, .nilmap => some false
    | some (.func _ _ _), .nilFunc, .nilFunc => some true
    | some (.func _ _ _), .nilFunc, .fn _ _ _ => some false
    | some (.func _ _ _), .fn _ _ _, .nilFunc => some false
    | _, _, _ => none
end
end Go.AM
