/- A symbolic evaluator over the model's code: abstract values, blocks, operations. Definitions alone. The evaluator: what an operation, a region, a function's code does to abstract states. Definitions alone. The evaluator: operations, regions, code. Definitions alone. The evaluator: regions that draw, code. Definitions alone. An operation that is no call of a function hands its continuation one outcome, whatever the continuation. Templates of states; contracts of functions; loops. Definitions alone. What abstract values and heaps say of the machine's: relations, and how they live on. The parts of a block and their cells, one by one. Equality of structs and arrays of plain values. Plain operations: what the machine's run gives is what the evaluator says. Operations that make, read and write memory: what the machine's run gives is what the evaluator says. Stores, and the operations that make blocks. Conversions, slicing, addresses, elements. Operations on addresses, parts, texts and slices. An element of an array's value. Slicing and conversions. -/
import Derived.Tactics
import Derived.Laws.Cells
import Derived.Laws.Rows
import GoSem.ClaimKeys
import Derived.DeepKeys
import Derived.Laws.StructEq
import Derived.Laws.Pointers
import Derived.Laws.Cover3
import Derived.Laws.BytesString
set_option linter.unusedVariables false
set_option linter.unusedSimpArgs false
namespace Go.Ev

abbrev Str := List UInt8

/-- The kinds of fields that a row of records may have. -/
inductive Fk where
  | int (k : IntKind) | str | bool
  deriving DecidableEq
@[reducible] def El : Fk → Type
  | .int _ => Int
  | .str => Str
  | .bool => Bool
@[reducible] def Tup : List Fk → Type
  | [] => Unit
  | f :: fs => El f × Tup fs
def elD : (f : Fk) → El f
  | .int _ => (0 : Int)
  | .str => ([] : List UInt8)
  | .bool => false
def tupD : (fs : List Fk) → Tup fs
  | [] => ()
  | f :: fs => (elD f, tupD fs)

/-- A value of one cell. -/
inductive Sc where
  | bool (b : Bool)
  | int (k : IntKind) (n : Int)
  | str (s : Str)
  | ptr (n base ix w f : Nat)
  | nilp
  | slice (n w : Nat) (r : Option (Nat × Nat)) (cap : Option Nat)   -- of a row that is alone in its block; r: from which element on, how many; none: the whole
  | nilsl
  | fn (f : FuncId) (caps : List Nat)
  | nilfn
  | mapr (n : Nat)
  | nilmap
  | err (isnil : Bool)
  | top

def elSc : (f : Fk) → El f → Sc
  | .int k, n => .int k n
  | .str, s => .str s
  | .bool, b => .bool b
def tupSc : (fs : List Fk) → Tup fs → List Sc
  | [], _ => []
  | f :: fs, t => elSc f t.1 :: tupSc fs t.2

/-- A part of a block, or of a struct's or an array's value. -/
inductive Seg where
  | one (v : Sc)
  | ints (k : IntKind) (xs : List Int) (n : Nat)
  | bytes (xs : Str) (n : Nat)
  | strs (xs : List Str) (n : Nat)
  | recs (fs : List Fk) (xs : List (Tup fs)) (n : Nat)

def Seg.flat : Seg → List Sc
  | .one v => [v]
  | .ints k xs _ => xs.map fun x => .int k x
  | .bytes xs _ => xs.map fun b => .int .u8 (b.toNat : Int)
  | .strs xs _ => xs.map fun s => .str s
  | .recs fs xs _ => xs.flatMap (tupSc fs)
def Seg.size : Seg → Nat
  | .one _ => 1
  | .ints _ _ n => n
  | .bytes _ n => n
  | .strs _ n => n
  | .recs fs _ n => n * fs.length
def Seg.wf : Seg → Prop
  | .one _ => True
  | .ints _ xs n => xs.length = n
  | .bytes xs n => xs.length = n
  | .strs xs n => xs.length = n
  | .recs _ xs n => xs.length = n
abbrev Segs := List Seg
def flats (g : Segs) : List Sc := g.flatMap Seg.flat

inductive Cmp where
  | sc (v : Sc)
  | agg (g : Segs)
inductive AVal where
  | c (x : Cmp)
  | tup (vs : List Cmp)
@[reducible] def AVal.s (v : Sc) : AVal := .c (.sc v)
@[reducible] def AVal.g (g : Segs) : AVal := .c (.agg g)

/-- A test that must hold. -/
def gd {R : Type} (b : Bool) (k : Option R) : Option R := match b with
  | true => k
  | false => none
/-- A way that parts. -/
def br {R : Type} (b : Bool) (x y : Option R) : Option R := match b with
  | true => x
  | false => y

def inB (i : Int) (n : Nat) : Bool := decide (0 ≤ i) && decide (i < (n : Int))
def leB (i : Int) (n : Nat) : Bool := decide (0 ≤ i) && decide (i ≤ (n : Int))

/-! ### Lists of pairs -/
def look {α : Type _} : List (Nat × α) → Nat → Option α
  | [], _ => none
  | (a, x) :: r, n => match Nat.beq a n with
    | true => some x
    | false => look r n
def upd {α : Type} : List (Nat × α) → Nat → α → List (Nat × α)
  | [], n, x => [(n, x)]
  | (a, y) :: r, n, x => match Nat.beq a n with
    | true => (a, x) :: r
    | false => (a, y) :: upd r n x
def del {α : Type} : List (Nat × α) → Nat → List (Nat × α)
  | [], _ => []
  | (a, y) :: r, n => match Nat.beq a n with
    | true => del r n
    | false => (a, y) :: del r n

/-- A block: may it be written, and what it holds. -/
structure Blk where
  rw : Bool
  g : Segs
structure St where
  tm : List (Nat × AVal)
  hp : List (Nat × Blk)
  nx : Nat

/-- What an operation does to the heap: blocks that are there anew, or gone. -/
abbrev Eff := List (Nat × Option Blk)
def applyE : Eff → List (Nat × Blk) → List (Nat × Blk)
  | [], h => h
  | (n, some g) :: r, h => applyE r (upd h n g)
  | (n, none) :: r, h => applyE r (del h n)

def St.putT (nt : Nat) (st : St) (d : Option Nat) (v : AVal) : St :=
  match d with
  | none => st
  | some t => { st with tm := upd st.tm t v }

/-! ### Operands -/
def fitsB (k : IntKind) (n : Int) : Bool := decide (k.min ≤ n) && decide (n ≤ k.max)
def constVal : Value → Option AVal
  | .bool b => some (.s (.bool b))
  | .int k n => match fitsB k n with
    | true => some (.s (.int k n))
    | false => none
  | .string s => match Nat.ble s.data.toList.length 9223372036854775807 with
    | true => some (.s (.str s.data.toList))
    | false => none
  | .pointer none => some (.s .nilp)
  | .slice none 0 0 => some (.s .nilsl)
  | .map none => some (.s .nilmap)
  | .nilFunc => some (.s .nilfn)
  | .nilIface => some (.s (.err true))
  | _ => none
def evOpnd (tm : Nat → Option AVal) : Operand → Option AVal
  | .tmp t => tm t
  | .const v => constVal v
  | .func f => some (.s (.fn f []))
  | .global _ => none

/-! ### Layout -/
/-- The part of a block that begins at a cell, and what is ahead of it and behind it. -/
def locate : Segs → Nat → Option (Segs × Seg × Segs)
  | [], _ => none
  | g :: r, b => match Nat.beq b 0 with
    | true => some ([], g, r)
    | false => match Nat.ble g.size b with
      | true => match locate r (b - g.size) with
        | some (x, y, z) => some (g :: x, y, z)
        | none => none
      | false => none
/-- The parts from a cell on that fill so many cells. -/
def takeS : Segs → Nat → Option (Segs × Segs)
  | r, 0 => some ([], r)
  | [], _ + 1 => none
  | g :: r, n + 1 => match Nat.ble g.size (n + 1) with
    | true => match takeS r (n + 1 - g.size) with
      | some (x, y) => some (g :: x, y)
      | none => none
    | false => none
def splitS : Segs → Nat → Option (Segs × Segs)
  | r, 0 => some ([], r)
  | [], _ + 1 => none
  | g :: r, n + 1 => match Nat.ble g.size (n + 1) with
    | true => match splitS r (n + 1 - g.size) with
      | some (x, y) => some (g :: x, y)
      | none => none
    | false => none
def sizeS : Segs → Nat
  | [] => 0
  | g :: r => g.size + sizeS r

/-- Is a block one row alone? -/
def lone1 : Segs → Segs → Bool
  | [], [] => true
  | _, _ => false

/-- Field f of element ix of a row. -/
def tupAt : (fs : List Fk) → Tup fs → Nat → Option Sc
  | [], _, _ => none
  | f :: _, t, 0 => some (elSc f t.1)
  | _ :: fs, t, n + 1 => tupAt fs t.2 n
def tupSet : (fs : List Fk) → Tup fs → Nat → Sc → Option (Tup fs)
  | [], _, _, _ => none
  | .int k :: fs, t, 0, .int k' n => if k = k' then some (n, t.2) else none
  | .str :: fs, t, 0, .str s => some (s, t.2)
  | .bool :: fs, t, 0, .bool b => some (b, t.2)
  | _ :: _, _, 0, _ => none
  | _ :: fs, t, n + 1, v => match tupSet fs t.2 n v with
    | some u => some (t.1, u)
    | none => none
def tupOf : (fs : List Fk) → List Sc → Option (Tup fs)
  | [], [] => some ()
  | .int k :: fs, .int k' n :: r => if k = k' then match tupOf fs r with
      | some u => some (n, u)
      | none => none
    else none
  | .str :: fs, .str s :: r => match tupOf fs r with
    | some u => some (s, u)
    | none => none
  | .bool :: fs, .bool b :: r => match tupOf fs r with
    | some u => some (b, u)
    | none => none
  | _, _ => none

/-- The cell at element ix, field f, of a part that is a row. -/
def Seg.elem (g : Seg) (ix w f : Nat) : Option Sc :=
  match g with
  | .one v => match Nat.beq w 0, Nat.beq f 0 with
    | true, true => match Nat.beq ix 0 with
      | true => some v
      | false => none
    | _, _ => none
  | .ints k xs _ => match Nat.beq w 1, Nat.beq f 0 with
    | true, true => some (.int k (xs.getD ix 0))
    | _, _ => none
  | .bytes xs _ => match Nat.beq w 1, Nat.beq f 0 with
    | true, true => some (.int .u8 ((xs.getD ix 0).toNat : Int))
    | _, _ => none
  | .strs xs _ => match Nat.beq w 1, Nat.beq f 0 with
    | true, true => some (.str (xs.getD ix []))
    | _, _ => none
  | .recs fs xs _ => match Nat.beq w fs.length with
    | true => tupAt fs (xs.getD ix (tupD fs)) f
    | _ => none
def Seg.setElem (g : Seg) (ix w f : Nat) (v : Sc) : Option Seg :=
  match g with
  | .one _ => match Nat.beq w 0, Nat.beq f 0 with
    | true, true => match Nat.beq ix 0 with
      | true => some (.one v)
      | false => none
    | _, _ => none
  | .ints k xs n => match Nat.beq w 1, Nat.beq f 0, v with
    | true, true, .int k' x => if k = k' then some (.ints k (xs.set ix x) n) else none
    | _, _, _ => none
  | .bytes xs n => match Nat.beq w 1, Nat.beq f 0, v with
    | true, true, .int .u8 x => some (.bytes (xs.set ix (UInt8.ofNat x.toNat)) n)
    | _, _, _ => none
  | .strs xs n => match Nat.beq w 1, Nat.beq f 0, v with
    | true, true, .str x => some (.strs (xs.set ix x) n)
    | _, _, _ => none
  | .recs fs xs n => match Nat.beq w fs.length with
    | true => match tupSet fs (xs.getD ix (tupD fs)) f v with
      | some u => some (.recs fs (xs.set ix u) n)
      | none => none
    | _ => none
def Seg.cnt : Seg → Nat
  | .one _ => 1
  | .ints _ _ n => n
  | .bytes _ n => n
  | .strs _ n => n
  | .recs _ _ n => n
def Seg.isOne : Seg → Bool
  | .one _ => true
  | _ => false
/-- A row's element's width; 0: no row. -/
def Seg.width : Seg → Nat
  | .one _ => 0
  | .ints _ _ _ => 1
  | .bytes _ _ => 1
  | .strs _ _ => 1
  | .recs fs _ _ => fs.length
end Go.Ev

namespace Go.Ev

/-! ### Numbers -/
def addI (k : IntKind) (a b : Int) : Int := k.wrap (a + b)
def subI (k : IntKind) (a b : Int) : Int := k.wrap (a - b)
def mulI (k : IntKind) (a b : Int) : Int := k.wrap (a * b)
def quoI (k : IntKind) (a b : Int) : Int := k.wrap (a.tdiv b)
def remI (a b : Int) : Int := a.tmod b
def andI (k : IntKind) (a b : Int) : Int := k.wrap ((BitVec.ofInt k.bits a &&& BitVec.ofInt k.bits b).toNat : Int)
def orI (k : IntKind) (a b : Int) : Int := k.wrap ((BitVec.ofInt k.bits a ||| BitVec.ofInt k.bits b).toNat : Int)
def xorI (k : IntKind) (a b : Int) : Int := k.wrap ((BitVec.ofInt k.bits a ^^^ BitVec.ofInt k.bits b).toNat : Int)
def andNotI (k : IntKind) (a b : Int) : Int := k.wrap ((BitVec.ofInt k.bits a &&& ~~~ BitVec.ofInt k.bits b).toNat : Int)
def shlI (k : IntKind) (a b : Int) : Int := k.wrap (a * 2 ^ (min b.toNat k.bits))
def shrI (k : IntKind) (a b : Int) : Int := a.fdiv (2 ^ (min b.toNat k.bits))
def notI (k : IntKind) (a : Int) : Int := xorI k (if k.signed then -1 else k.max) a
def cvtI (k : IntKind) (a : Int) : Int := k.wrap a
def eqI (a b : Int) : Bool := decide (a = b)
def ltI (a b : Int) : Bool := decide (a < b)
def leI (a b : Int) : Bool := decide (a ≤ b)
def mnI (a b : Int) : Int := if b < a then b else a
def mxI (a b : Int) : Int := if b > a then b else a
def eqS (a b : Str) : Bool := decide (a = b)
def ltS (a b : Str) : Bool := Op.bytesLess a b
/-- May two texts become one? -/
def catB (a b : Str) : Bool := decide (a.length + b.length ≤ 9223372036854775807)
/-- May so many elements of so many bytes be laid behind others? -/
def appB (n m bytes : Nat) : Bool := decide ((n + m) * bytes ≤ 140737488355328)
def makeB (n : Int) (bytes : Nat) : Bool := decide (0 ≤ n) && decide ((bytes : Int) * n ≤ 281474976710656)
def beqK : IntKind → IntKind → Bool
  | .i8, .i8 | .i16, .i16 | .i32, .i32 | .i64, .i64 | .u8, .u8 | .u16, .u16 | .u32, .u32 | .u64, .u64 => true
  | _, _ => false

section
variable {R : Type}

def evBinInt (op : BinOp) (k : IntKind) (a b : Int) (K : Sc → Option R) : Option R :=
  match op with
  | .add => K (.int k (addI k a b))
  | .sub => K (.int k (subI k a b))
  | .mul => K (.int k (mulI k a b))
  | .quo => gd (!eqI b 0) (K (.int k (quoI k a b)))
  | .rem => gd (!eqI b 0) (K (.int k (remI a b)))
  | .and => K (.int k (andI k a b))
  | .or => K (.int k (orI k a b))
  | .xor => K (.int k (xorI k a b))
  | .andNot => K (.int k (andNotI k a b))
  | .eql => K (.bool (eqI a b))
  | .neq => K (.bool (!eqI a b))
  | .lss => K (.bool (ltI a b))
  | .leq => K (.bool (leI a b))
  | .gtr => K (.bool (ltI b a))
  | .geq => K (.bool (leI b a))
  | _ => none
def evBinStr (op : BinOp) (a b : Str) (K : Sc → Option R) : Option R :=
  match op with
  | .add => gd (catB a b) (K (.str (a ++ b)))
  | .eql => K (.bool (eqS a b))
  | .neq => K (.bool (!eqS a b))
  | .lss => K (.bool (ltS a b))
  | .leq => K (.bool (ltS a b || eqS a b))
  | .gtr => K (.bool (!(ltS a b || eqS a b)))
  | .geq => K (.bool (!ltS a b))
  | _ => none
def isC : Operand → Bool
  | .const _ => true
  | _ => false
/-- '==' of values that are no numbers and no texts. -/
def eqSc : Option TypeDesc → Bool → Sc → Sc → Option Bool
  | some .bool, _, .bool a, .bool b => some (a == b)
  | some (.pointer _), _, .nilp, .nilp => some true
  | some (.pointer _), _, .nilp, .ptr .. => some false
  | some (.pointer _), _, .ptr .., .nilp => some false
  | some (.interface _), true, .err a, .err true => some a
  | some (.map _ _), _, .nilmap, .nilmap => some true
  | some (.map _ _), _, .mapr _, .nilmap => some false
  | some (.func _ _ _), _, .nilfn, .nilfn => some true
  | some (.func _ _ _), _, .fn .., .nilfn => some false
  | _, _, _, _ => none
def evBin (d : Option TypeDesc) (yc : Bool) (op : BinOp) (x y : Sc) (K : Sc → Option R) : Option R :=
  match op, x, y with
  | .shl, .int k a, .int _ b => gd (leI 0 b) (K (.int k (shlI k a b)))
  | .shr, .int k a, .int _ b => gd (leI 0 b) (K (.int k (shrI k a b)))
  | op, .int k a, .int k' b => match beqK k k' with
    | true => evBinInt op k a b K
    | false => none
  | op, .str a, .str b => evBinStr op a b K
  | .eql, x, y => match eqSc d yc x y with
    | some b => K (.bool b)
    | none => none
  | .neq, x, y => match eqSc d yc x y with
    | some b => K (.bool (!b))
    | none => none
  | _, _, _ => none
def evUn (op : UnOp) (x : Sc) (K : Sc → Option R) : Option R :=
  match op, x with
  | .not, .bool b => K (.bool (!b))
  | .neg, .int k n => K (.int k (subI k 0 n))
  | .xor, .int k n => K (.int k (notI k n))
  | _, _ => none

/-! ### Types -/
variable (P : Program)
def aggOf (t : TypeId) : Option Bool := match P.underlying t with
  | some (.struct _) => some true
  | some (.array _ _) => some true
  | some _ => some false
  | none => none
def cells (t : TypeId) : Option Nat := (P.info? t).map (·.size)
def bytesOf (t : TypeId) : Option Nat := (P.info? t).map (·.bytes)
def repS : Nat → Segs → Segs
  | 0, _ => []
  | n + 1, g => g ++ repS n g
/-- A row of elements of a type: none of them yet. -/
def rowKind (t : TypeId) : Option Seg :=
  match P.underlying t with
  | some (.int .u8) => some (.bytes [] 0)
  | some (.int k) => some (.ints k [] 0)
  | some .string => some (.strs [] 0)
  | some (.struct fs) => match fkOf fs.toList with
    | some l => some (.recs l [] 0)
    | none => none
  | _ => none
where
  fkOf : List Field → Option (List Fk)
    | [] => some []
    | f :: r => match P.underlying f.type, fkOf r with
      | some (.int k), some l => some (.int k :: l)
      | some .string, some l => some (.str :: l)
      | some .bool, some l => some (.bool :: l)
      | _, _ => none
mutual
def zeroG : Nat → TypeId → Option Segs
  | 0, _ => none
  | fuel + 1, t => match P.underlying t with
    | some .bool => some [.one (.bool false)]
    | some (.int k) => some [.one (.int k 0)]
    | some .string => some [.one (.str [])]
    | some (.pointer _) => some [.one .nilp]
    | some (.slice _) => some [.one .nilsl]
    | some (.map _ _) => some [.one .nilmap]
    | some (.func _ _ _) => some [.one .nilfn]
    | some (.interface _) => some [.one (.err true)]
    | some (.struct fs) => zeroF fuel fs.toList
    | some (.array n e) => match P.underlying e with
      | some (.int .u8) => some [.bytes (List.replicate n 0) n]
      | some (.int k) => some [.ints k (List.replicate n 0) n]
      | some .string => some [.strs (List.replicate n []) n]
      | some .bool => some [.recs [.bool] (List.replicate n (tupD [.bool])) n]
      | _ => match rowKind P e with
        | some (.recs (f :: l) _ _) => some [.recs (f :: l) (List.replicate n (tupD (f :: l))) n]
        | _ => match zeroG fuel e with
          | some g => some (repS n g)
          | none => none
    | _ => none
def zeroF : Nat → List Field → Option Segs
  | 0, _ => none
  | _ + 1, [] => some []
  | fuel + 1, f :: r => match zeroG fuel f.type, zeroF fuel r with
    | some a, some b => some (a ++ b)
    | _, _ => none
end
/-- Is a value the one that an abstract cell tells, whatever the places? -/
def sameSc : Sc → Value → Bool
  | .bool a, .bool b => a == b
  | .int j a, .int k b => beqK j k && decide (a = b) && decide (a = 0)
  | .str a, .string s => a.isEmpty && s.data.toList.isEmpty
  | .nilp, .pointer none => true
  | .nilsl, .slice none 0 0 => true
  | .nilmap, .map none => true
  | .nilfn, .nilFunc => true
  | .err true, .nilIface => true
  | _, _ => false
def sameScs : List Sc → List Value → Bool
  | [], [] => true
  | a :: r, b :: q => sameSc a b && sameScs r q
  | _, _ => false
def wfB : Segs → Bool
  | [] => true
  | .one _ :: r => wfB r
  | .ints _ xs n :: r => Nat.beq xs.length n && wfB r
  | .bytes xs n :: r => Nat.beq xs.length n && wfB r
  | .strs xs n :: r => Nat.beq xs.length n && wfB r
  | .recs _ xs n :: r => Nat.beq xs.length n && wfB r
/-- A type's zero value. -/
def zeroS (t : TypeId) : Option Segs :=
  match zeroG P 64 t, (P.info? t).map (·.zero) with
  | some g, some (some z) => match wfB g, sameScs (flats g) z.cells.toList with
    | true, true => some g
    | _, _ => none
  | _, _ => none

/-- Rows one behind the other. -/
def catG : Seg → Seg → Option Seg
  | .ints k xs n, .ints k' ys m => match beqK k k' with
    | true => some (.ints k (xs ++ ys) (n + m))
    | false => none
  | .bytes xs n, .bytes ys m => some (.bytes (xs ++ ys) (n + m))
  | .strs xs n, .strs ys m => some (.strs (xs ++ ys) (n + m))
  | .recs fs xs n, .recs fs' ys m => if h : fs = fs' then some (.recs fs (xs ++ h ▸ ys) (n + m)) else none
  | _, _ => none
/-- The elements of a row from one on, so many. -/
def subG : Seg → Nat → Nat → Option Seg
  | .ints k xs n, s, l => some (.ints k ((xs.drop s).take l) l)
  | .bytes xs n, s, l => some (.bytes ((xs.drop s).take l) l)
  | .strs xs n, s, l => some (.strs ((xs.drop s).take l) l)
  | .recs fs xs n, s, l => some (.recs fs ((xs.drop s).take l) l)
  | _, _, _ => none
/-- All elements of a row, if a slice has all of them by sight. -/
def lenG : Seg → Nat
  | .ints _ xs _ => xs.length
  | .bytes xs _ => xs.length
  | .strs xs _ => xs.length
  | .recs _ xs _ => xs.length
  | .one _ => 0

variable (hp : Nat → Option Blk)
/-- The row of which a block is made, if its elements are of so many cells. -/
def rowOf (n w : Nat) : Option Seg := match hp n with
  | some b => match b.g with
    | [r] => match Nat.beq r.width w with
      | true => some r
      | false => none
    | _ => none
  | none => none

/-! ### Memory -/
def ldSc (g : Segs) (base ix w f : Nat) (K : Sc → Option R) : Option R :=
  match locate g base with
  | some ([], r, []) => match r.elem ix w f with
    | some v => K v
    | none => none
  | some (_, r, _) => match r.elem ix w f with
    | some v => match r.isOne with
      | true => K v
      | false => gd (Nat.blt ix r.cnt) (K v)
    | none => none
  | none => none
def stSc (g : Segs) (base ix w f : Nat) (v : Sc) (K : Segs → Option R) : Option R :=
  match locate g base with
  | some ([], r, []) => match r.setElem ix w f v with
    | some r' => K [r']
    | none => none
  | some (a, r, b) => match r.setElem ix w f v with
    | some r' => match r.isOne with
      | true => K (a ++ r' :: b)
      | false => gd (Nat.blt ix r.cnt) (K (a ++ r' :: b))
    | none => none
  | none => none
/-- A struct or array out of a block. -/
def ldAgg (g : Segs) (base ix w f size : Nat) (K : Segs → Option R) : Option R :=
  match Nat.beq w 0 with
  | true => match Nat.beq f 0, splitS g base with
    | true, some (_, r) => match takeS r size with
      | some (x, _) => K x
      | none => none
    | _, _ => none
  | false => match g with
    | [.recs fs xs n] => match Nat.beq w fs.length, Nat.beq size fs.length, Nat.beq f 0, Nat.beq base 0 with
      | true, true, true, true => K ((tupSc fs (xs.getD ix (tupD fs))).map Seg.one)
      | _, _, _, _ => none
    | [q] => match Nat.beq w 1 && Nat.beq q.width 1 && (Nat.beq f 0 && Nat.beq base 0), subG q ix size with
      | true, some x => gd (Nat.ble (ix + size) q.cnt) (K [x])
      | _, _ => none
    | _ => none
def onesOf : Segs → Option (List Sc)
  | [] => some []
  | .one v :: r => match onesOf r with
    | some l => some (v :: l)
    | none => none
  | _ => none
def stAgg (g : Segs) (base ix w f size : Nat) (v : Segs) (K : Segs → Option R) : Option R :=
  match Nat.beq w 0 with
  | true => match Nat.beq f 0, splitS g base with
    | true, some (a, r) => match takeS r size with
      | some (_, b) => match Nat.beq (sizeS v) size with
        | true => K (a ++ v ++ b)
        | false => none
      | none => none
    | _, _ => none
  | false => match g, onesOf v with
    | [.recs fs xs n], some l => match Nat.beq w fs.length, Nat.beq size fs.length, Nat.beq f 0, Nat.beq base 0, tupOf fs l with
      | true, true, true, true, some u => K [.recs fs (xs.set ix u) n]
      | _, _, _, _, _ => none
    | _, _ => none
end
end Go.Ev

namespace Go.Ev

/-- What the calls of functions come to: a function, its arguments, the heap, the next free name. -/
abbrev CallO := (R : Type) → FuncId → List AVal → (Nat → Option Blk) → Nat → (AVal → Eff → Nat → Option R) → Option R
/-- What the loops come to, by their number. -/
abbrev LoopO := (R : Type) → Nat → St → (Exit → St → Option R) → Option R

section
variable {R : Type} (P : Program) (nt : Nat) (Γ : CallO)

def scOf : Option AVal → Option Sc
  | some (.c (.sc v)) => some v
  | _ => none
def opList (tm : Nat → Option AVal) : List Operand → Option (List AVal)
  | [] => some []
  | x :: r => match evOpnd tm x, opList tm r with
    | some v, some vs => some (v :: vs)
    | _, _ => none
def segsOf : AVal → Option Segs
  | .c (.sc .top) => none
  | .c (.sc v) => some [.one v]
  | .c (.agg g) => some g
  | .tup _ => none
/-- Equality of structs and arrays, part by part. -/
def eqL (xs ys : List Int) : Bool := decide (xs = ys)
def eqBs (xs ys : List Str) : Bool := decide (xs = ys)
def eqSeg : Seg → Seg → Option Bool
  | .one (.int j a), .one (.int k b) => match beqK j k with
    | true => some (eqI a b)
    | false => none
  | .one (.str a), .one (.str b) => some (eqS a b)
  | .one (.bool a), .one (.bool b) => some (a == b)
  | .ints j xs n, .ints k ys m => match beqK j k, Nat.beq n m with
    | true, true => some (eqL xs ys)
    | _, _ => none
  | .bytes xs n, .bytes ys m => match Nat.beq n m with
    | true => some (eqS xs ys)
    | _ => none
  | .strs xs n, .strs ys m => match Nat.beq n m with
    | true => some (eqBs xs ys)
    | _ => none
  | _, _ => none
def eqSegs : Segs → Segs → Option Bool
  | [], [] => some true
  | [a], [b] => eqSeg a b
  | a :: r, b :: q => match eqSeg a b, eqSegs r q with
    | some x, some y => some (x && y)
    | _, _ => none
  | _, _ => none

/-- The kinds of the cells of a struct or an array, where they are numbers, texts and bools. -/
def kindSc : Sc → Option Fk
  | .bool _ => some .bool
  | .int k _ => some (.int k)
  | .str _ => some .str
  | _ => none
def kindsSeg : Seg → Option (List Fk)
  | .one v => match kindSc v with
    | some k => some [k]
    | none => none
  | .ints k _ n => some (List.replicate n (.int k))
  | .bytes _ n => some (List.replicate n (.int .u8))
  | .strs _ n => some (List.replicate n .str)
  | .recs _ _ _ => none
def kindsS : Segs → Option (List Fk)
  | [] => some []
  | g :: r => match kindsSeg g, kindsS r with
    | some x, some y => some (x ++ y)
    | _, _ => none
def seqB (P : Program) : List Field → Nat → Bool
  | [], _ => true
  | f :: r, o => Nat.beq f.offset o && seqB P r (o + P.cellsOf f.type)
def sumB (P : Program) : List Field → Nat
  | [] => 0
  | f :: r => P.cellsOf f.type + sumB P r
def kindsOK (P : Program) : Nat → TypeId → List Fk → Bool
  | 0, _, _ => false
  | d + 1, t, ks => match P.underlying t, ks with
    | some .bool, [.bool] => true
    | some (.int q), [.int q'] => beqK q q'
    | some .string, [.str] => true
    | some (.array n e), ks => Nat.beq ks.length (P.cellsOf t) && Nat.beq (P.cellsOf t) (n * P.cellsOf e) && (List.range n).all fun i => kindsOK P d e ((ks.drop (i * P.cellsOf e)).take (P.cellsOf e))
    | some (.struct fs), ks => Nat.beq ks.length (P.cellsOf t) && fs.all (·.name != "_") && fs.toList.all (fun f => kindsOK P d f.type ((ks.drop f.offset).take (P.cellsOf f.type))) && seqB P fs.toList 0 && Nat.beq (sumB P fs.toList) (P.cellsOf t)
    | _, _ => false
def eqTyB (P : Program) (t : TypeId) (a b : Segs) : Bool :=
  P.keyTypeAt 16 t && !P.eqGuardType P.depth t && match kindsS a, kindsS b with
    | some ks, some js => kindsOK P 16 t ks && kindsOK P 16 t js && match P.underlying t with
      | some (.array _ _) => true
      | some (.struct _) => true
      | _ => false
    | _, _ => false
def evEqAgg (P : Program) (op : BinOp) (t : TypeId) (a b : Segs) (K : AVal → Eff → Nat → Option R) : Option R :=
  match op, eqTyB P t a b, eqSegs a b with
  | .eql, true, some r => K (.s (.bool r)) [] 0
  | .neq, true, some r => K (.s (.bool (!r))) [] 0
  | _, _, _ => none
def fieldOff (s : TypeId) (f : Nat) : Option Nat := match P.underlying s with
  | some (.struct fs) => match fs.toList[f]? with
    | some x => match cells P x.type with
      | some 0 => none
      | some _ => some x.offset
      | none => none
    | none => none
  | _ => none
/-- Parts laid into a struct's or an array's zero value. -/
def fillS (place : Nat → Option (Nat × Nat)) : List (Nat × Option AVal) → Segs → Option Segs
  | [], g => some g
  | (i, v) :: r, g => match place i, v with
    | some (off, size), some v => match segsOf v with
      | some x => match Nat.beq size (sizeS x), splitS g off with
        | true, some (a, b) => match takeS b size with
          | some (_, c) => fillS place r (a ++ x ++ c)
          | none => none
        | _, _ => none
      | none => none
    | _, _ => none
/-- Numbers, bytes and texts laid into an array of them. -/
def fillRow : List (Nat × Option AVal) → Seg → Option Seg
  | [], g => some g
  | (i, v) :: r, g => match scOf v with
    | some x => match Nat.blt i g.cnt, g.setElem i g.width 0 x with
      | true, some g' => fillRow r g'
      | _, _ => none
    | none => none
def placesL : List Field → Option (List (Nat × Nat))
  | [] => some []
  | f :: r => match cells P f.type, placesL r with
    | some n, some l => some ((f.offset, n) :: l)
    | _, _ => none
def isRow1 : Segs → Option Seg
  | [.ints k xs n] => some (.ints k xs n)
  | [.bytes xs n] => some (.bytes xs n)
  | [.strs xs n] => some (.strs xs n)
  | _ => none
def evBuild (t : TypeId) (parts : List (Nat × Option AVal)) : Option Segs :=
  match zeroS P t with
  | some z => match P.underlying t with
    | some (.struct fs) => match placesL P fs.toList with
      | some l => fillS (fun i => l[i]?) parts z
      | none => none
    | some (.array _ e) => match cells P e, isRow1 z with
      | some 1, some g => match fillRow parts g with
        | some g' => some [g']
        | none => none
      | some w, _ => fillS (fun i => some (i * w, w)) parts z
      | none, _ => none
    | _ => none
  | none => none
/-- A new row of records out of parts, in order. -/
def recsOf (fs : List Fk) : Nat → List (Nat × Option AVal) → Option (List (Tup fs))
  | _, [] => some []
  | k, (i, v) :: r => match Nat.beq i k, v with
    | true, some (.c (.agg g)) => match onesOf g with
      | some l => match tupOf fs l, recsOf fs (k + 1) r with
        | some u, some us => some (u :: us)
        | _, _ => none
      | none => none
    | _, _ => none
def intsOf (k : IntKind) : Nat → List (Nat × Option AVal) → Option (List Int)
  | _, [] => some []
  | j, (i, v) :: r => match Nat.beq i j, scOf v, intsOf k (j + 1) r with
    | true, some (.int k' x), some xs => match beqK k k' with
      | true => some (x :: xs)
      | false => none
    | _, _, _ => none
def bytesOf' : Nat → List (Nat × Option AVal) → Option Str
  | _, [] => some []
  | j, (i, v) :: r => match Nat.beq i j, scOf v, bytesOf' (j + 1) r with
    | true, some (.int .u8 x), some xs => some (UInt8.ofNat x.toNat :: xs)
    | _, _, _ => none
def strsOf : Nat → List (Nat × Option AVal) → Option (List Str)
  | _, [] => some []
  | j, (i, v) :: r => match Nat.beq i j, scOf v, strsOf (j + 1) r with
    | true, some (.str x), some xs => some (x :: xs)
    | _, _, _ => none
def evRow (e : TypeId) (len : Nat) (parts : List (Nat × Option AVal)) : Option Seg :=
  match Nat.beq parts.length len, rowKind P e with
  | true, some (.ints k _ _) => match intsOf k 0 parts with
    | some xs => some (.ints k xs len)
    | none => none
  | true, some (.bytes _ _) => match bytesOf' 0 parts with
    | some xs => some (.bytes xs len)
    | none => none
  | true, some (.strs _ _) => match strsOf 0 parts with
    | some xs => some (.strs xs len)
    | none => none
  | true, some (.recs fs _ _) => match recsOf fs 0 parts with
    | some xs => some (.recs fs xs len)
    | none => none
  | _, _ => none

/-- The row that a slice tells. -/
def sliceRow (hp : Nat → Option Blk) (e : TypeId) : Sc → Option Seg
  | .slice n w none _ => rowOf hp n w
  | .slice n w (some (s, l)) _ => match rowOf hp n w with
    | some r => subG r s l
    | none => none
  | .nilsl => rowKind P e
  | _ => none
def elemOf' (t : TypeId) : Option TypeId := match P.underlying t with
  | some (.slice e) => some e
  | _ => none
/-- How many elements a slice has. -/
def lenSl (hp : Nat → Option Blk) : Sc → Option Nat
  | .slice n w none _ => match rowOf hp n w with
    | some r => some (lenG r)
    | none => none
  | .slice _ _ (some (_, l)) _ => some l
  | .nilsl => some 0
  | _ => none
def setCnt : Seg → Seg
  | .ints k xs _ => .ints k xs xs.length
  | .bytes xs _ => .bytes xs xs.length
  | .strs xs _ => .strs xs xs.length
  | .recs fs xs _ => .recs fs xs xs.length
  | g => g
def zeroRow (e : TypeId) (n : Nat) : Option Seg := match rowKind P e with
  | some (.ints k _ _) => some (.ints k (List.replicate n 0) n)
  | some (.bytes _ _) => some (.bytes (List.replicate n 0) n)
  | some (.strs _ _) => some (.strs (List.replicate n []) n)
  | some (.recs fs _ _) => some (.recs fs (List.replicate n (tupD fs)) n)
  | _ => none

/-- An element's cells, if its zero value has as many. -/
def zeroW (e : TypeId) : Option Nat := match P.info? e with
  | some i => match i.zero with
    | some z => match Nat.beq z.cells.size i.size with
      | true => some i.size
      | false => none
    | none => none
  | none => none
def elemZ : Seg → List Sc
  | .ints k _ _ => [.int k 0]
  | .bytes _ _ => [.int .u8 0]
  | .strs _ _ => [.str []]
  | .recs fs _ _ => tupSc fs (tupD fs)
  | _ => []
def sameZ (e : TypeId) (g : Seg) : Bool := match P.info? e with
  | some i => match i.zero with
    | some z => sameScs (elemZ g) z.cells.toList
    | none => false
  | none => false

/-- A text, or a slice: what is appended or copied. -/
def srcRow (hp : Nat → Option Blk) (e : TypeId) : Sc → Option Seg
  | .str b => some (.bytes b b.length)
  | x => sliceRow P hp e x
def eqOpt : Option Nat → Nat → Bool
  | some a, b => Nat.beq a b
  | none, _ => false
/-- The place of an element in its row. -/
def ixOf : Option (Nat × Nat) → Nat → Nat
  | none, j => j
  | some (s, _), j => s + j
def begOf : Option (Nat × Nat) → Nat
  | none => 0
  | some (s, _) => s

/-! ### Built-in functions -/
def evAppend (hp : Nat → Option Blk) (nx : Nat) (t : TypeId) (s x : Sc) (K : AVal → Eff → Nat → Option R) : Option R :=
  match elemOf' P t with
  | none => none
  | some e =>
    match sliceRow P hp e s, srcRow P hp e x, bytesOf P e, zeroW P e with
    | some a, some b, some by_, some w => match catG a b, Nat.blt 0 w && Nat.blt 0 by_ && Nat.beq a.width w with
      | some c, true =>
        let go (ef : Eff) : Option R := gd (appB (lenG a) (lenG b) by_) (K (.s (.slice nx w none none)) ((nx, some ⟨true, [setCnt c]⟩) :: ef) 1)
        match s with
        | .nilsl => go []
        | .slice _ _ _ (some 0) => go []
        | .slice n _ _ none => match hp n with
          | some bl => match bl.rw with
            | true => go [(n, none)]
            | false => none
          | none => none
        | _ => none
      | _, _ => none
    | _, _, _, _ => none
def foldMn (k : IntKind) : Int → List AVal → Option Int
  | a, [] => some a
  | a, .c (.sc (.int k' b)) :: r => match beqK k k' with
    | true => foldMn k (mnI a b) r
    | false => none
  | _, _ => none
def foldMx (k : IntKind) : Int → List AVal → Option Int
  | a, [] => some a
  | a, .c (.sc (.int k' b)) :: r => match beqK k k' with
    | true => foldMx k (mxI a b) r
    | false => none
  | _, _ => none
/-- A row over whose elements from one on others are laid. -/
def spliceG : Seg → Nat → Seg → Option Seg
  | .ints k xs n, s, .ints k' ys _ => match beqK k k' with
    | true => some (.ints k (xs.take s ++ ys ++ xs.drop (s + ys.length)) n)
    | false => none
  | .bytes xs n, s, .bytes ys _ => some (.bytes (xs.take s ++ ys ++ xs.drop (s + ys.length)) n)
  | .strs xs n, s, .strs ys _ => some (.strs (xs.take s ++ ys ++ xs.drop (s + ys.length)) n)
  | _, _, _ => none
def evCopy (hp : Nat → Option Blk) (t : TypeId) (d x : Sc) (K : AVal → Eff → Nat → Option R) : Option R :=
  match elemOf' P t with
  | none => none
  | some e =>
    match d, lenSl hp d, srcRow P hp e x with
    | .slice n w r cap, some dl, some b => match hp n with
      | some bl => match bl.rw && eqOpt (cells P e) w, rowOf hp n w, subG b 0 (min (lenG b) dl) with
        | true, some row, some y => match spliceG row (begOf r) y with
          | some row' => K (.s (.int .i64 ((min (lenG b) dl : Nat) : Int))) [(n, some ⟨true, [row']⟩)] 0
          | none => none
        | _, _, _ => none
      | none => none
    | _, _, _ => none
def evBuiltin (b : Builtin) (ts : List TypeId) (hp : Nat → Option Blk) (nx : Nat) (vs : List AVal) (K : AVal → Eff → Nat → Option R) : Option R :=
  match b, ts, vs with
  | .len, [t], [.c (.sc (.str s))] => match P.underlying t with
    | some .string => K (.s (.int .i64 (s.length : Int))) [] 0
    | _ => none
  | .len, [t], [v] => match P.underlying t with
    | some (.array n _) => match Nat.ble n 9223372036854775807 with
      | true => K (.s (.int .i64 (n : Int))) [] 0
      | false => none
    | some (.slice _) => match v with
      | .c (.sc s) => match lenSl hp s with
        | some n => K (.s (.int .i64 (n : Int))) [] 0
        | none => none
      | _ => none
    | _ => none
  | .min, _, .c (.sc (.int k a)) :: r => match foldMn k a r with
    | some m => K (.s (.int k m)) [] 0
    | none => none
  | .max, _, .c (.sc (.int k a)) :: r => match foldMx k a r with
    | some m => K (.s (.int k m)) [] 0
    | none => none
  | .append, [t, u], [.c (.sc s), .c (.sc x)] => match P.underlying u with
    | some (.int _) => none
    | none => none
    | _ => evAppend P hp nx t s x K
  | .copy, [t, _], [.c (.sc d), .c (.sc x)] => evCopy P hp t d x K
  | _, _, _ => none

/-! ### Conversions, slicing -/
def evConvert (src dst : TypeId) (hp : Nat → Option Blk) (nx : Nat) (x : Sc) (K : AVal → Eff → Nat → Option R) : Option R :=
  match P.underlying src, P.underlying dst, x with
  | some _, some (.int k), .int _ n => K (.s (.int k (cvtI k n))) [] 0
  | some _, some .string, .str s => K (.s (.str s)) [] 0
  | some _, some (.slice e), .str s => match P.underlying e with
    | some (.int .u8) => K (.s (.slice nx 1 none none)) [(nx, some ⟨true, [.bytes s s.length]⟩)] 1
    | _ => none
  | some (.slice e), some .string, x => match P.underlying e with
    | some (.int .u8) => match sliceRow P hp e x with
      | some (.bytes s _) => K (.s (.str s)) [] 0
      | _ => none
    | _ => none
  | _, _, _ => none
/-- An optional bound: none, or a number. -/
def bound (tm : Nat → Option AVal) : Option Operand → Option (Option Int)
  | none => some none
  | some x => match evOpnd tm x with
    | some (.c (.sc (.int _ n))) => some (some n)
    | _ => none
def cutStr (s : Str) (lo hi : Option Int) (K : Str → Option R) : Option R :=
  match lo, hi with
  | none, none => K s
  | some a, none => gd (leB a s.length) (K (s.drop a.toNat))
  | none, some b => gd (leB b s.length) (K (s.take b.toNat))
  | some a, some b => gd (leB b s.length) (gd (leB a b.toNat) (K ((s.take b.toNat).drop a.toNat)))
/-- A slice's part: its row's first element, how many, and how many there may be. -/
def cutSl (s l : Nat) (lo hi mx : Option Int) (K : Nat → Nat → Option Nat → Option R) : Option R :=
  match lo, hi, mx with
  | none, none, none => K s l none
  | some a, none, none => gd (leB a l) (K (s + a.toNat) (l - a.toNat) none)
  | none, some b, none => gd (leB b l) (K s b.toNat none)
  | some a, some b, none => gd (leB b l) (gd (leB a b.toNat) (K (s + a.toNat) (b.toNat - a.toNat) none))
  | some a, some b, some m => gd (leB m l) (gd (leB b m.toNat) (gd (leB a b.toNat) (K (s + a.toNat) (b.toNat - a.toNat) (some (m.toNat - a.toNat)))))
  | none, some b, some m => gd (leB m l) (gd (leB b m.toNat) (K s b.toNat (some m.toNat)))
  | _, none, some _ => none
def loOf : Option Int → Nat
  | none => 0
  | some a => a.toNat
def capMin (a b : Option Nat) (s : Nat) : Option Nat := match b with
  | some c => some c
  | none => match a with
    | some c => some (c - s)
    | none => none
def evSlice (t : TypeId) (hp : Nat → Option Blk) (x : Sc) (lo hi mx : Option Int) (K : AVal → Eff → Nat → Option R) : Option R :=
  match P.underlying t, x with
  | some .string, .str s => match mx with
    | none => cutStr s lo hi fun r => K (.s (.str r)) [] 0
    | some _ => none
  | some (.slice e), .slice n w r cap => match sliceRow P hp e (.slice n w r cap), cells P e with
    | some row, some sz => match Nat.beq sz w with
      | true => match lo, hi, mx with
        | none, none, none => K (.s (.slice n w r cap)) [] 0
        | lo, hi, mx => cutSl (begOf r) (lenG row) lo hi mx fun s' l' c' => K (.s (.slice n w (some (s', l')) (capMin cap c' (loOf lo)))) [] 0
      | false => none
    | _, _ => none
  | some (.slice e), .nilsl => match cells P e with
    | some _ => cutSl 0 0 lo hi mx fun _ _ _ => K (.s .nilsl) [] 0
    | none => none
  | some (.array m e), .ptr n 0 0 0 0 => match cells P e with
    | some w => match rowOf hp n w with
      | some r => match Nat.beq r.cnt m && Nat.ble m 9223372036854775807, Nat.blt 0 w with
        | true, true => cutSl 0 m lo hi mx fun s' l' c' => K (.s (.slice n w (some (s', l')) (capMin (some m) c' s'))) [] 0
        | _, _ => none
      | none => none
    | none => none
  | _, _ => none

def Sc.isTop : Sc → Bool
  | .top => true
  | _ => false
def evStore (b : Blk) (n base ix w f size : Nat) (v : AVal) (K : AVal → Eff → Nat → Option R) : Option R :=
  match b.rw with
  | false => none
  | true => match v with
    | .c (.sc v) => match Nat.beq size 1, v.isTop with
      | true, false => stSc b.g base ix w f v fun g => K (.s .top) [(n, some ⟨true, g⟩)] 0
      | _, _ => none
    | .c (.agg v) => stAgg b.g base ix w f size v fun g => K (.s .top) [(n, some ⟨true, g⟩)] 0
    | .tup _ => none

/-! ### An operation -/
def evOp (o : Oper) (tm : Nat → Option AVal) (hp : Nat → Option Blk) (nx : Nat) (K : AVal → Eff → Nat → Option R) : Option R :=
  match o.op with
  | .move x | .assign x => match evOpnd tm x with
    | some v => K v [] 0
    | none => none
  | .pick c a b => match evOpnd tm c with
    | some (.c (.sc (.bool true))) => match evOpnd tm a with
      | some v => K v [] 0
      | none => none
    | some (.c (.sc (.bool false))) => match evOpnd tm b with
      | some v => K v [] 0
      | none => none
    | _ => none
  | .alloc t => match zeroS P t with
    | some g => match Nat.blt 0 (sizeS g) with
      | true => K (.s (.ptr nx 0 0 0 0)) [(nx, some ⟨true, g⟩)] 1
      | false => none
    | none => none
  | .box t x => match evOpnd tm x with
    | some v => match segsOf v with
      | some g => match Nat.blt 0 (sizeS g) with
        | true => K (.s (.ptr nx 0 0 0 0)) [(nx, some ⟨true, g⟩)] 1
        | false => none
      | none => none
    | none => none
  | .build t parts => match evBuild P t (parts.toList.map fun p => (p.1, evOpnd tm p.2)) with
    | some g => K (.g g) [] 0
    | none => none
  | .buildSlice t len parts => match elemOf' P t with
    | some e => match evRow P e len (parts.toList.map fun p => (p.1, evOpnd tm p.2)), zeroW P e with
      | some g, some w => match Nat.ble (len * w) 16777216, Nat.blt 0 w && Nat.beq g.width w with
        | true, true => K (.s (.slice nx w none none)) [(nx, some ⟨true, [g]⟩)] 1
        | _, _ => none
      | _, _ => none
    | none => none
  | .load t a => match scOf (evOpnd tm a) with
    | some (.ptr n base ix w f) => match hp n with
      | some b => match aggOf P t with
        | some true => match cells P t with
          | some size => ldAgg b.g base ix w f size fun g => K (.g g) [] 0
          | none => none
        | some false => ldSc b.g base ix w f fun v => K (.s v) [] 0
        | none => none
      | none => none
    | _ => none
  | .store t a x => match scOf (evOpnd tm a), evOpnd tm x, cells P t with
    | some (.ptr n base ix w f), some v, some size => match hp n with
      | some b => evStore b n base ix w f size v K
      | none => none
    | _, _, _ => none
  | .nilCheck x => match scOf (evOpnd tm x) with
    | some (.ptr n base ix w f) => K (.s (.ptr n base ix w f)) [] 0
    | some (.fn f caps) => K (.s (.fn f caps)) [] 0
    | _ => none
  | .binOp op t x y _ => match evOpnd tm x, evOpnd tm y with
    | some (.c (.sc a)), some (.c (.sc b)) => evBin (P.underlying t) (isC y) op a b fun v => K (.s v) [] 0
    | some (.c (.agg a)), some (.c (.agg b)) => evEqAgg P op t a b K
    | _, _ => none
  | .unOp op _ x => match scOf (evOpnd tm x) with
    | some v => evUn op v fun v => K (.s v) [] 0
    | none => none
  | .convert src dst x => match scOf (evOpnd tm x) with
    | some v => evConvert P src dst hp nx v K
    | none => none
  | .makeFunc (.func f) first captured => match first.toList, opList tm captured.toList with
    | [], some vs => match capsOf vs with
      | some l => K (.s (.fn f l)) [] 0
      | none => none
    | _, _ => none
  | .makeSlice t l c => match elemOf' P t, scOf (evOpnd tm l), scOf (evOpnd tm c) with
    | some e, some (.int _ a), some (.int _ b) => match bytesOf P e, cells P e, zeroRow P e a.toNat with
      | some by_, some w, some g => match Nat.blt 0 w && Nat.blt 0 by_ && sameZ P e g && Nat.beq g.width w with
        | true => gd (makeB b by_) (gd (leB a b.toNat) (K (.s (.slice nx w none none)) [(nx, some ⟨true, [g]⟩)] 1))
        | false => none
      | _, _, _ => none
    | _, _, _ => none
  | .slice t x lo h m => match scOf (evOpnd tm x), bound tm lo, bound tm h, bound tm m with
    | some v, some lo, some h, some m => evSlice P t hp v lo h m K
    | _, _, _, _ => none
  | .fieldAddr s x f => match scOf (evOpnd tm x), fieldOff P s f with
    | some (.ptr n base ix w fo), some off => match Nat.beq w 0, hp n with
      | true, some b => match Nat.beq fo 0 && Nat.blt (base + off) (sizeS b.g) with
        | true => K (.s (.ptr n (base + off) 0 0 0)) [] 0
        | false => none
      | false, some _ => match rowOf hp n w, Nat.beq fo 0 && Nat.beq base 0 && Nat.blt off w with
        | some _, true => K (.s (.ptr n 0 ix w off)) [] 0
        | _, _ => none
      | _, none => none
    | _, _ => none
  | .indexAddr t x ix => match scOf (evOpnd tm x), scOf (evOpnd tm ix) with
    | some (.ptr n base 0 0 0), some (.int _ i) => match P.underlying t, hp n with
      | some (.array len e), some b => match cells P e, locate b.g base with
        | some sz, some (_, r, _) => match Nat.blt 0 sz && Nat.ble (base + len * sz) (sizeS b.g) with
          | false => none
          | true => match r.isOne with
          | true => gd (inB i len) (K (.s (.ptr n (base + i.toNat * sz) 0 0 0)) [] 0)
          | false => match Nat.beq r.width sz with
            | true => gd (inB i len) (K (.s (.ptr n base i.toNat sz 0)) [] 0)
            | false => none
        | _, _ => none
      | _, _ => none
    | some (.slice n w r cap), some (.int _ i) => match lenSl hp (.slice n w r cap) with
      | some l => match elemOf' P t with
        | some e => match cells P e with
          | some sz => match Nat.beq sz w with
            | true => gd (inB i l) (K (.s (.ptr n 0 (ixOf r i.toNat) w 0)) [] 0)
            | false => none
          | none => none
        | none => none
      | none => none
    | _, _ => none
  | .index t x ix => match evOpnd tm x, scOf (evOpnd tm ix) with
    | some (.c (.sc (.str s))), some (.int _ i) => match P.underlying t with
      | some .string => gd (inB i s.length) (K (.s (.int .u8 ((s.getD i.toNat 0).toNat : Int))) [] 0)
      | _ => none
    | some (.c (.agg [rr])), some (.int _ i) => match P.underlying t with
      | some (.array len e) => match cells P e with
        | some wd => match !rr.isOne && Nat.beq rr.cnt len && (Nat.beq rr.width wd && Nat.blt 0 wd) with
          | true => gd (inB i len) (match aggOf P e with
            | some true => ldAgg [rr] 0 i.toNat wd 0 wd fun g => K (.g g) [] 0
            | some false => ldSc [rr] 0 i.toNat wd 0 fun v => K (.s v) [] 0
            | none => none)
          | false => none
        | none => none
      | _ => none
    | _, _ => none
  | .sliceToArrayPointer t x => match scOf (evOpnd tm x), P.underlying t with
    | some (.slice n w r cap), some (.array m e) => match lenSl hp (.slice n w r cap), cells P e with
      | some l, some sz => match Nat.beq sz w && Nat.blt 0 m with
        | true => gd (Nat.ble m l) (K (.s (.ptr n 0 (begOf r) w 0)) [] 0)
        | false => none
      | _, _ => none
    | _, _ => none
  | .extract t ix => match evOpnd tm t with
    | some (.tup vs) => match vs[ix]? with
      | some v => K (.c v) [] 0
      | none => none
    | _ => none
  | .call c => match c.callee, opList tm c.args.toList with
    | .builtin b, some vs => evBuiltin P b c.argTypes.toList hp nx vs K
    | .value f, some vs => match scOf (evOpnd tm f) with
      | some (.fn g caps) => Γ R g (vs ++ caps.map fun n => .s (.ptr n 0 0 0 0)) hp nx K
      | _ => none
    | _, _ => none
  | _ => none
where
  capsOf : List AVal → Option (List Nat)
    | [] => some []
    | .c (.sc (.ptr n 0 0 0 0)) :: r => match capsOf r with
      | some l => some (n :: l)
      | none => none
    | _ => none

/-! ### Regions -/
def St.after (st : St) (d : Option Nat) (v : AVal) (ef : Eff) (cnt : Nat) : St :=
  { tm := match d with
      | none => st.tm
      | some t => upd st.tm t v
    hp := applyE ef st.hp
    nx := st.nx + cnt }
def okDst (nt : Nat) : Option Nat → Bool
  | none => true
  | some t => Nat.blt t nt
def guardVar (ops : Array Oper) (j : Nat) : Option Nat := match ops.toList[j]? with
  | some o => o.dst
  | none => none
/-- Operations one behind the other. -/
def evOps (ops : Array Oper) : List Oper → St → (St → Option R) → Option R
  | [], st, K => K st
  | o :: r, st, K => match okDst nt o.dst with
    | false => none
    | true => match o.guard with
      | none => evOp P Γ o (look st.tm) (look st.hp) st.nx fun v ef cnt => evOps ops r (st.after o.dst v ef cnt) K
      | some (j, want) => match guardVar ops j with
        | none => none
        | some d => match Nat.blt d nt, look st.tm d with
          | true, some (.c (.sc (.bool b))) =>
            br b
              (let st1 : St := { st with tm := upd st.tm d (.s (.bool true)) }
               match want with
               | true => evOp P Γ o (look st1.tm) (look st1.hp) st1.nx fun v ef cnt => evOps ops r (st1.after o.dst v ef cnt) K
               | false => evOps ops r (st1.after o.dst (.tup []) [] 0) K)
              (let st1 : St := { st with tm := upd st.tm d (.s (.bool false)) }
               match want with
               | false => evOp P Γ o (look st1.tm) (look st1.hp) st1.nx fun v ef cnt => evOps ops r (st1.after o.dst v ef cnt) K
               | true => evOps ops r (st1.after o.dst (.tup []) [] 0) K)
          | true, some (.tup []) => evOps ops r (st.after o.dst (.tup []) [] 0) K
          | _, _ => none
end
end Go.Ev

namespace Go.Ev

/-! ### States told anew: less, and under other names -/
def namesC : List Nat → List Nat → List Nat   -- those that are not there yet, behind the others
  | [], acc => acc
  | n :: r, acc => match acc.elem n with
    | true => namesC r acc
    | false => namesC r (acc ++ [n])
def Sc.names : Sc → List Nat
  | .ptr n _ _ _ _ => [n]
  | .slice n _ _ _ => [n]
  | .fn _ caps => caps
  | .mapr n => [n]
  | _ => []
def Seg.names : Seg → List Nat
  | .one v => v.names
  | _ => []
def Segs.names : Segs → List Nat
  | [] => []
  | g :: r => g.names ++ Segs.names r
def Cmp.names : Cmp → List Nat
  | .sc v => v.names
  | .agg g => Segs.names g
def Cmps.names : List Cmp → List Nat
  | [] => []
  | c :: r => c.names ++ Cmps.names r
def AVal.names : AVal → List Nat
  | .c x => x.names
  | .tup vs => Cmps.names vs
def tmNames : List (Nat × AVal) → List Nat
  | [] => []
  | (_, v) :: r => v.names ++ tmNames r
/-- The names that values lead to, in order. -/
def reach (hp : List (Nat × Blk)) : Nat → List Nat → List Nat → List Nat
  | 0, _, acc => acc
  | _, [], acc => acc
  | fuel + 1, n :: todo, acc => match acc.elem n with
    | true => reach hp fuel todo acc
    | false => match look hp n with
      | some b => reach hp fuel (todo ++ Segs.names b.g) (acc ++ [n])
      | none => reach hp fuel todo acc

def mapL (m : Nat → Option Nat) : List Nat → Option (List Nat)
  | [] => some []
  | n :: r => match m n, mapL m r with
    | some a, some l => some (a :: l)
    | _, _ => none
/-- A value under other names; what leads nowhere is no longer told. -/
def Sc.ren (m : Nat → Option Nat) : Sc → Sc
  | .ptr n base ix w f => match m n with
    | some a => .ptr a base ix w f
    | none => .top
  | .slice n w r c => match m n with
    | some a => .slice a w r c
    | none => .top
  | .fn f caps => match mapL m caps with
    | some l => .fn f l
    | none => .top
  | .mapr n => match m n with
    | some a => .mapr a
    | none => .top
  | v => v
def Seg.ren (m : Nat → Option Nat) : Seg → Seg
  | .one v => .one (v.ren m)
  | g => g
def Segs.ren (m : Nat → Option Nat) : Segs → Segs
  | [] => []
  | g :: r => g.ren m :: Segs.ren m r
def Cmp.ren (m : Nat → Option Nat) : Cmp → Cmp
  | .sc v => .sc (v.ren m)
  | .agg g => .agg (Segs.ren m g)
def Cmps.ren (m : Nat → Option Nat) : List Cmp → List Cmp
  | [] => []
  | c :: r => c.ren m :: Cmps.ren m r
def AVal.ren (m : Nat → Option Nat) : AVal → AVal
  | .c x => .c (x.ren m)
  | .tup vs => .tup (Cmps.ren m vs)
def keepTm (tm : List (Nat × AVal)) : List Nat → List (Nat × AVal)
  | [] => []
  | t :: r => match look tm t with
    | some v => (t, v) :: keepTm tm r
    | none => keepTm tm r
def iotaN : Nat → Nat → List Nat
  | _, 0 => []
  | s, n + 1 => s :: iotaN (s + 1) n
def filterGe (pin : Nat) : List Nat → List Nat
  | [] => []
  | n :: r => match Nat.ble pin n with
    | true => n :: filterGe pin r
    | false => filterGe pin r
/-- The place of a name in a list. -/
def idxN : Nat → List Nat → Nat → Option Nat
  | _, [], _ => none
  | j, a :: r, n => match Nat.beq a n with
    | true => some j
    | false => idxN (j + 1) r n
def nodupN : List Nat → Bool
  | [] => true
  | a :: r => !r.elem a && nodupN r
/-- Blocks laid anew, under the names 0, 1, .. -/
def layHp (hp : List (Nat × Blk)) (m : Nat → Option Nat) : Nat → List Nat → List (Nat × Blk)
  | _, [] => []
  | j, n :: r => match look hp n with
    | some b => (j, ⟨b.rw, Segs.ren m b.g⟩) :: layHp hp m (j + 1) r
    | none => layHp hp m (j + 1) r
def mapTm (m : Nat → Option Nat) : List (Nat × AVal) → List (Nat × AVal)
  | [] => []
  | (t, v) :: r => (t, v.ren m) :: mapTm m r
def normL (pin : Nat) (keep : List Nat) (st : St) : List Nat :=
  iotaN 0 pin ++ filterGe pin (reach st.hp 64 (iotaN 0 pin ++ tmNames (keepTm st.tm keep)) [])
/-- A state of which only some temporaries are kept, and what they lead to; names below pin stay as they are. -/
def normSt (pin : Nat) (keep : List Nat) (st : St) : St :=
  match nodupN (normL pin keep st) with
  | false => st
  | true => { tm := mapTm (idxN 0 (normL pin keep st)) (keepTm st.tm keep), hp := layHp st.hp (idxN 0 (normL pin keep st)) 0 (normL pin keep st), nx := (normL pin keep st).length }

/-- An empty row of a kind. -/
def emptyRow : Seg → Option Seg
  | .ints k _ _ => some (.ints k [] 0)
  | .bytes _ _ => some (.bytes [] 0)
  | .strs _ _ => some (.strs [] 0)
  | .recs (f :: fs) _ _ => some (.recs (f :: fs) [] 0)
  | _ => none
/-- A part of a block that is a nil slice, told otherwise. -/
def setNil : Nat → Sc → Segs → Option Segs
  | 0, s, .one .nilsl :: r => some (.one s :: r)
  | j + 1, s, a :: r => match setNil j s r with
    | some r' => some (a :: r')
    | none => none
  | _, _, _ => none
/-- A field of the block that a temporary leads to. -/
def liftField (t j : Nat) (g : Seg) (st : St) : St := match look st.tm t, emptyRow g with
  | some (.c (.sc (.ptr n 0 0 0 0))), some e => match look st.hp n with
    | some b => match setNil j (.slice st.nx e.width none none) b.g with
      | some g' => { st with hp := upd (upd st.hp n ⟨b.rw, g'⟩) st.nx ⟨true, [e]⟩, nx := st.nx + 1 }
      | none => st
    | none => st
  | _, _ => st
/-- Temporaries that hold a nil slice hold an empty one from here on (no more is told of it than that it is empty); from 100000 on: fields of the blocks that they lead to. -/
def liftNil : List (Nat × Seg) → St → St
  | [], st => st
  | (t, g) :: r, st => match Nat.blt t 100000 with
    | false => liftNil r (liftField (t % 100000) (t / 100000 - 1) g st)
    | true => match look st.tm t, emptyRow g with
      | some (.c (.sc .nilsl)), some e => liftNil r { tm := upd st.tm t (.s (.slice st.nx e.width none none)), hp := upd st.hp st.nx ⟨true, [e]⟩, nx := st.nx + 1 }
      | _, _ => liftNil r st
/-! ### Code -/
/-- One operation of a region whose order is open: its number, does it change what was there, which blocks it may look at, which operations are ahead of it whatever the order. -/
structure Dp where
  i : Nat
  x : Bool
  feet : List Nat
  anc : List Nat
structure Lg where
  i : Nat
  feet : List Nat
  n : Nat
  cnt : Nat
inductive Ann where
  | leaf
  | node (a b : Ann)
  | draw (plan : List Dp)
  | orc (i : Nat) (keep : List Nat) (nils : List (Nat × Seg))
  | unroll (k : Nat) (a : Ann)
def Ann.l : Ann → Ann
  | .node a _ => a
  | _ => .leaf
def Ann.r : Ann → Ann
  | .node _ b => b
  | _ => .leaf

def restr {α : Type} (l : List Nat) (f : Nat → Option α) (n : Nat) : Option α := match l.elem n with
  | true => f n
  | false => none
def opndTmps : List Operand → List Nat
  | [] => []
  | .tmp t :: r => t :: opndTmps r
  | _ :: r => opndTmps r
def eKeys : Eff → List Nat
  | [] => []
  | (n, _) :: r => n :: eKeys r

/-! ### Regions whose order is open -/
def opReads (o : Oper) : List Nat := opndTmps o.op.operands.toList
def isDet (o : Oper) : Bool := match o.op with
  | .call c => match c.callee with
    | .builtin _ => true
    | _ => false
  | _ => true
def bindsOn (o : Oper) (i : Nat) : Bool := o.after.toList.any fun e => Region.binds .any e && Nat.beq e.on i
def hasI (l : List Dp) (i : Nat) : Bool := l.any fun q => Nat.beq q.i i
/-- Do two operations keep out of each other's temporaries? The first is ahead in the plan. -/
def apartB (oq : Oper) (q : Dp) (o : Oper) (p : Dp) : Bool :=
  !Nat.beq q.i p.i &&
  (match o.dst with
   | some d => (!(opReads oq).elem d || p.anc.elem q.i) && (match oq.dst with
     | some e => !Nat.beq e d
     | none => true)
   | none => true) &&
  (match oq.dst with
   | some d => !(opReads o).elem d || p.anc.elem q.i
   | none => true)
def planL (ops : Array Oper) : List Dp → List Dp → Bool
  | _, [] => true
  | pre, p :: r => match ops.toList[p.i]? with
    | none => false
    | some o => o.guard.isNone && (p.x || isDet o) &&
      (o.after.toList.all fun e => !Region.binds .any e || hasI pre e.on) &&
      (p.anc.all fun a => bindsOn o a || pre.any fun q => bindsOn o q.i && q.anc.elem a) &&
      (pre.all fun q => match ops.toList[q.i]? with
        | some oq => apartB oq q o p
        | none => false) &&
      (!p.x || r.all fun q => q.anc.elem p.i) && planL ops (p :: pre) r
def planOK (ops : Array Oper) (plan : List Dp) : Bool :=
  ((iotaN 0 ops.size).all fun i => hasI plan i) && planL ops [] plan
def allLt (N : Nat) (l : List Nat) : Bool := l.all fun n => Nat.blt n N
def viewTm (N : Nat) (tm : List (Nat × AVal)) : List Nat → Bool
  | [] => true
  | t :: r => (match look tm t with
    | some v => allLt N v.names
    | none => true) && viewTm N tm r
def viewHp (N : Nat) (hp : List (Nat × Blk)) : List Nat → Bool
  | [] => true
  | n :: r => (match look hp n with
    | some b => allLt N (Segs.names b.g)
    | none => true) && viewHp N hp r
def inNew (N cnt n : Nat) : Bool := Nat.ble N n && Nat.blt n (N + cnt)
def drEffB (x : Bool) (feet : List Nat) (hp : List (Nat × Blk)) (N cnt : Nat) : Eff → Bool
  | [] => true
  | (n, b) :: r => ((x && feet.elem n && (look hp n).isSome) || (inNew N cnt n && match b with
    | some x => x.rw
    | none => true)) && drEffB x feet hp N cnt r
def drLogF (p : Dp) : List Lg → Bool
  | [] => true
  | l :: r => (p.anc.elem l.i || p.feet.all (fun n => !inNew l.n l.cnt n)) && drLogF p r
def drLogE (p : Dp) (E : Eff) : List Lg → Bool
  | [] => true
  | l :: r => (p.anc.elem l.i || (eKeys E).all (fun n => !l.feet.elem n)) && drLogE p E r

section
variable {R : Type} (P : Program) (nt pin : Nat) (Γ : CallO) (Λ : LoopO)
/-- The operations of a region, in an order that a plan tells; each looks at its own temporaries and blocks alone. -/
def evDr (ops : Array Oper) : List Dp → List Lg → St → (St → Option R) → Option R
  | [], _, st, K => K st
  | p :: r, log, st, K => match ops.toList[p.i]? with
    | none => none
    | some o => match okDst nt o.dst && (allLt st.nx p.feet && (viewTm st.nx st.tm (opReads o) && (viewHp st.nx st.hp p.feet && drLogF p log))) with
      | false => none
      | true => evOp P Γ o (restr (opReads o) (look st.tm)) (restr p.feet (look st.hp)) st.nx fun v E cnt =>
        match drEffB p.x p.feet st.hp st.nx cnt E && drLogE p E log with
        | false => none
        | true => evDr ops r (⟨p.i, p.feet, st.nx, cnt⟩ :: log) (st.after o.dst v E cnt) K
def blockExit (id : Nat) (K : Exit → St → Option R) : Exit → St → Option R
  | .exit j, st => match Nat.beq j id with
    | true => K .normal st
    | false => K (.exit j) st
  | e, st => K e st
def thenK (K2 : St → Option R) (K : Exit → St → Option R) : Exit → St → Option R
  | .normal, st => K2 st
  | e, st => K e st
def loopN (step : St → (Exit → St → Option R) → Option R) : Nat → St → (Exit → St → Option R) → Option R
  | 0, _, _ => none
  | k + 1, st, K => step st (thenK (fun st' => loopN step k st' K) K)
def setBool (st : St) (c : Operand) (b : Bool) : St := match c with
  | .tmp t => { st with tm := upd st.tm t (.s (.bool b)) }
  | _ => st
def okCond (c : Operand) : Bool := match c with
  | .tmp t => Nat.blt t nt
  | _ => true
def evRegion (ops : Array Oper) (d : Bool) (ann : Ann) (st : St) (K : St → Option R) : Option R := match d with
  | false => evOps P nt Γ ops ops.toList st K
  | true => match ann with
    | .draw plan => match P.follows .mixedOrders && planOK ops plan with
      | true => evDr P nt Γ ops plan [] st K
      | false => none
    | _ => none
def brV (ok : Bool) (v : Option AVal) (x y : Option R) : Option R := match ok with
  | false => none
  | true => match v with
    | some (.c (.sc (.bool b))) => br b x y
    | _ => none
def evCode : Code → Ann → St → (Exit → St → Option R) → Option R
  | .skip, ann, st, K => match ann with
    | .orc i keep nils => Λ R i (normSt pin keep (liftNil nils st)) K
    | _ => K .normal st
  | .region _ ops d, ann, st, K => match ann with
    | .orc i keep nils => Λ R i (normSt pin keep (liftNil nils st)) K
    | ann => evRegion P nt Γ ops d ann st (K .normal)
  | .seq x y, ann, st, K => match ann with
    | .orc i keep nils => Λ R i (normSt pin keep (liftNil nils st)) K
    | ann => evCode x ann.l st (thenK (fun st' => evCode y ann.r st' K) K)
  | .cond c x y, ann, st, K => match ann with
    | .orc i keep nils => Λ R i (normSt pin keep (liftNil nils st)) K
    | ann => brV (okCond nt c) (evOpnd (look st.tm) c) (evCode x ann.l (setBool st c true) K) (evCode y ann.r (setBool st c false) K)
  | .block id c, ann, st, K => match ann with
    | .orc i keep nils => Λ R i (normSt pin keep (liftNil nils st)) K
    | ann => evCode c ann.l st (blockExit id K)
  | .loop c, ann, st, K => match ann with
    | .orc i keep nils => Λ R i (normSt pin keep (liftNil nils st)) K
    | .unroll k a => loopN (evCode c a) k st K
    | _ => none
  | .exit id, ann, st, K => match ann with
    | .orc i keep nils => Λ R i (normSt pin keep (liftNil nils st)) K
    | _ => K (.exit id) st
  | .ret, ann, st, K => match ann with
    | .orc i keep nils => Λ R i (normSt pin keep (liftNil nils st)) K
    | _ => K .ret st
  | _, _, _, _ => none
end
end Go.Ev

namespace Go.Ev

abbrev Out := AVal × Eff × Nat
def kid : AVal → Eff → Nat → Option Out := fun v E c => some (v, E, c)
section
variable {R : Type} (P : Program) (Γ : CallO)
theorem gd_bind {α β : Type} (b : Bool) (x : Option α) (f : α → Option β) : (gd b x).bind f = gd b (x.bind f) := by cases b <;> rfl
theorem evBinInt_nat {S : Type} (op : BinOp) (k : IntKind) (a b : Int) (K : Sc → Option S) (f : S → Option R) : (evBinInt op k a b K).bind f = evBinInt op k a b (fun s => (K s).bind f) := by
  cases op <;> simp only [evBinInt, gd_bind] <;> rfl
theorem evBinStr_nat {S : Type} (op : BinOp) (a b : Str) (K : Sc → Option S) (f : S → Option R) : (evBinStr op a b K).bind f = evBinStr op a b (fun s => (K s).bind f) := by
  cases op <;> simp only [evBinStr, gd_bind] <;> rfl
theorem evBin_nat {S : Type} (d : Option TypeDesc) (yc : Bool) (op : BinOp) (x y : Sc) (K : Sc → Option S) (f : S → Option R) : (evBin d yc op x y K).bind f = evBin d yc op x y (fun s => (K s).bind f) := by
  unfold evBin
  split
  · exact gd_bind _ _ _
  · exact gd_bind _ _ _
  · split
    · exact evBinInt_nat ..
    · rfl
  · exact evBinStr_nat ..
  · split <;> rfl
  · split <;> rfl
  · rfl
theorem evUn_nat {S : Type} (op : UnOp) (x : Sc) (K : Sc → Option S) (f : S → Option R) : (evUn op x K).bind f = evUn op x (fun s => (K s).bind f) := by
  unfold evUn; split <;> rfl
theorem ldSc_nat {S : Type} (g : Segs) (base ix w fo : Nat) (K : Sc → Option S) (f : S → Option R) : (ldSc g base ix w fo K).bind f = ldSc g base ix w fo (fun s => (K s).bind f) := by
  unfold ldSc
  split
  · split <;> rfl
  · split
    · split
      · rfl
      · exact gd_bind _ _ _
    · rfl
  · rfl
theorem stSc_nat {S : Type} (g : Segs) (base ix w fo : Nat) (v : Sc) (K : Segs → Option S) (f : S → Option R) : (stSc g base ix w fo v K).bind f = stSc g base ix w fo v (fun s => (K s).bind f) := by
  unfold stSc
  split
  · split <;> rfl
  · split
    · split
      · rfl
      · exact gd_bind _ _ _
    · rfl
  · rfl
theorem ldAgg_nat {S : Type} (g : Segs) (base ix w fo size : Nat) (K : Segs → Option S) (f : S → Option R) : (ldAgg g base ix w fo size K).bind f = ldAgg g base ix w fo size (fun s => (K s).bind f) := by
  unfold ldAgg
  split
  · split
    · split <;> rfl
    · rfl
  · split
    · split <;> rfl
    · split
      · exact gd_bind ..
      · rfl
    · rfl
theorem stAgg_nat {S : Type} (g : Segs) (base ix w fo size : Nat) (v : Segs) (K : Segs → Option S) (f : S → Option R) : (stAgg g base ix w fo size v K).bind f = stAgg g base ix w fo size v (fun s => (K s).bind f) := by
  unfold stAgg
  split
  · split
    · split
      · split <;> rfl
      · rfl
    · rfl
  · split
    · split <;> rfl
    · rfl
theorem evEqAgg_nat {S : Type} (op : BinOp) (t : TypeId) (a b : Segs) (K : AVal → Eff → Nat → Option S) (f : S → Option R) : (evEqAgg P op t a b K).bind f = evEqAgg P op t a b (fun v E c => (K v E c).bind f) := by
  unfold evEqAgg; split <;> rfl
theorem evAppend_nat {S : Type} (hp : Nat → Option Blk) (nx : Nat) (t : TypeId) (s x : Sc) (K : AVal → Eff → Nat → Option S) (f : S → Option R) :
    (evAppend P hp nx t s x K).bind f = evAppend P hp nx t s x (fun v E c => (K v E c).bind f) := by
  unfold evAppend
  split
  · rfl
  · split
    · split
      · split
        · exact gd_bind _ _ _
        · exact gd_bind _ _ _
        · split
          · split
            · exact gd_bind _ _ _
            · rfl
          · rfl
        · rfl
      · rfl
    · rfl
theorem evCopy_nat {S : Type} (hp : Nat → Option Blk) (t : TypeId) (d x : Sc) (K : AVal → Eff → Nat → Option S) (f : S → Option R) :
    (evCopy P hp t d x K).bind f = evCopy P hp t d x (fun v E c => (K v E c).bind f) := by
  unfold evCopy
  split
  · rfl
  · split
    · split
      · split
        · split <;> rfl
        · rfl
      · rfl
    · rfl
theorem evBuiltin_nat {S : Type} (b : Builtin) (ts : List TypeId) (hp : Nat → Option Blk) (nx : Nat) (vs : List AVal) (K : AVal → Eff → Nat → Option S) (f : S → Option R) :
    (evBuiltin P b ts hp nx vs K).bind f = evBuiltin P b ts hp nx vs (fun v E c => (K v E c).bind f) := by
  unfold evBuiltin
  split
  · split <;> rfl
  · split
    · split <;> rfl
    · split
      · split <;> rfl
      · rfl
    · rfl
  · split <;> rfl
  · split <;> rfl
  · split
    · rfl
    · rfl
    · exact evAppend_nat ..
  · exact evCopy_nat ..
  · rfl
theorem evConvert_nat {S : Type} (src dst : TypeId) (hp : Nat → Option Blk) (nx : Nat) (x : Sc) (K : AVal → Eff → Nat → Option S) (f : S → Option R) :
    (evConvert P src dst hp nx x K).bind f = evConvert P src dst hp nx x (fun v E c => (K v E c).bind f) := by
  unfold evConvert
  split
  · rfl
  · rfl
  · split <;> rfl
  · split
    · split <;> rfl
    · rfl
  · rfl
theorem cutStr_nat {S : Type} (s : Str) (lo hi : Option Int) (K : Str → Option S) (f : S → Option R) : (cutStr s lo hi K).bind f = cutStr s lo hi (fun s => (K s).bind f) := by
  unfold cutStr
  split <;> first | rfl | simp only [gd_bind]
theorem cutSl_nat {S : Type} (s l : Nat) (lo hi mx : Option Int) (K : Nat → Nat → Option Nat → Option S) (f : S → Option R) : (cutSl s l lo hi mx K).bind f = cutSl s l lo hi mx (fun a b c => (K a b c).bind f) := by
  unfold cutSl
  split <;> first | rfl | simp only [gd_bind]
theorem evSlice_nat {S : Type} (t : TypeId) (hp : Nat → Option Blk) (x : Sc) (lo hi mx : Option Int) (K : AVal → Eff → Nat → Option S) (f : S → Option R) :
    (evSlice P t hp x lo hi mx K).bind f = evSlice P t hp x lo hi mx (fun v E c => (K v E c).bind f) := by
  unfold evSlice
  split
  · split
    · exact cutStr_nat ..
    · rfl
  · split
    · split
      · split
        · rfl
        · exact cutSl_nat ..
      · rfl
    · rfl
  · split
    · exact cutSl_nat ..
    · rfl
  · split
    · split
      · split
        · exact cutSl_nat ..
        · rfl
      · rfl
    · rfl
  · rfl
theorem evStore_nat {S : Type} (b : Blk) (n base ix w fo size : Nat) (v : AVal) (K : AVal → Eff → Nat → Option S) (f : S → Option R) :
    (evStore b n base ix w fo size v K).bind f = evStore b n base ix w fo size v (fun v E c => (K v E c).bind f) := by
  unfold evStore
  split
  · rfl
  · split
    · split
      · exact stSc_nat ..
      · rfl
    · exact stAgg_nat ..
    · rfl
theorem evOp_nat0 {S : Type} {o : Oper} (hd : isDet o = true) (tm : Nat → Option AVal) (hp : Nat → Option Blk) (nx : Nat) (K : AVal → Eff → Nat → Option S) (f : S → Option R) :
    (evOp P Γ o tm hp nx K).bind f = evOp P Γ o tm hp nx (fun v E c => (K v E c).bind f) := by
  unfold evOp
  split
  · split <;> rfl
  · split <;> rfl
  · split
    · split <;> rfl
    · split <;> rfl
    · rfl
  · split
    · split <;> rfl
    · rfl
  · split
    · split
      · split <;> rfl
      · rfl
    · rfl
  · split <;> rfl
  · split
    · split
      · split <;> rfl
      · rfl
    · rfl
  · split
    · split
      · split
        · split
          · exact ldAgg_nat ..
          · rfl
        · exact ldSc_nat ..
        · rfl
      · rfl
    · rfl
  · split
    · split
      · exact evStore_nat ..
      · rfl
    · rfl
  · split <;> rfl
  · split
    · exact evBin_nat ..
    · exact evEqAgg_nat ..
    · rfl
  · split
    · exact evUn_nat ..
    · rfl
  · split
    · exact evConvert_nat ..
    · rfl
  · split
    · split <;> rfl
    · rfl
  · split
    · split
      · split
        · simp only [gd_bind]
        · rfl
      · rfl
    · rfl
  · split
    · exact evSlice_nat ..
    · rfl
  · split
    · split
      · split <;> rfl
      · split <;> rfl
      · rfl
    · rfl
  · split
    · split
      · split
        · split
          · rfl
          · split
            · exact gd_bind ..
            · split
              · exact gd_bind ..
              · rfl
        · rfl
      · rfl
    · split
      · split
        · split
          · split
            · exact gd_bind ..
            · rfl
          · rfl
        · rfl
      · rfl
    · rfl
  · split
    · split
      · exact gd_bind ..
      · rfl
    · split
      · split
        · split
          · rw [gd_bind]
            congr 1
            split
            · exact ldAgg_nat ..
            · exact ldSc_nat ..
            · rfl
          · rfl
        · rfl
      · rfl
    · rfl
  · split
    · split
      · split
        · exact gd_bind ..
        · rfl
      · rfl
    · rfl
  · split
    · split <;> rfl
    · rfl
  · rename_i c hop
    unfold isDet at hd
    rw [hop] at hd
    split
    · exact evBuiltin_nat ..
    · rename_i f' vs hc hvs
      simp only [hc] at hd
      cases hd
    · rfl
  · rfl
/-- What an operation that is no call hands on. -/
theorem evOp_nat {o : Oper} (hd : isDet o = true) {tm : Nat → Option AVal} {hp : Nat → Option Blk} {nx : Nat} {K : AVal → Eff → Nat → Option R} {r : R} (h : evOp P Γ o tm hp nx K = some r) :
    ∃ v E c, evOp P Γ o tm hp nx kid = some (v, E, c) ∧ K v E c = some r := by
  have := evOp_nat0 P Γ hd tm hp nx kid (fun x : Out => K x.1 x.2.1 x.2.2)
  have h2 : (fun v E c => (kid v E c).bind (fun x : Out => K x.1 x.2.1 x.2.2)) = K := by funext v E c; rfl
  rw [h2, h] at this
  cases hk : evOp P Γ o tm hp nx kid with
  | none => rw [hk] at this; cases this
  | some x =>
    obtain ⟨v, E, c⟩ := x
    rw [hk] at this
    exact ⟨v, E, c, rfl, this⟩
end
end Go.Ev

namespace Go.Ev

/-- The form of a cell: variables, and what is fixed. -/
inductive VK where
  | i (k : IntKind) | b | s | err
  | ik (k : IntKind) (n : Int) | bk (b : Bool) | sk (s : Str)
  | ptr (n base ix w f : Nat) | nilp | sl (n w : Nat) (cap : Option Nat) | slr (n w : Nat) (cap : Option Nat) | nilsl | fn (f : FuncId) (caps : List Nat) | nilfn | mapr (n : Nat) | nilmap | top
@[reducible] def VT : VK → Type
  | .i _ => Int
  | .b => Bool
  | .s => Str
  | .err => Bool
  | .slr _ _ _ => Nat × Nat
  | _ => Unit
def toSc : (v : VK) → VT v → Sc
  | .i k, x => .int k x
  | .b, x => .bool x
  | .s, x => .str x
  | .err, x => .err x
  | .ik k n, _ => .int k n
  | .bk b, _ => .bool b
  | .sk s, _ => .str s
  | .ptr n base ix w f, _ => .ptr n base ix w f
  | .nilp, _ => .nilp
  | .sl n w c, _ => .slice n w none c
  | .slr n w c, p => .slice n w (some p) c
  | .nilsl, _ => .nilsl
  | .fn f caps, _ => .fn f caps
  | .nilfn, _ => .nilfn
  | .mapr n, _ => .mapr n
  | .nilmap, _ => .nilmap
  | .top, _ => .top
/-- The form of a part of a block. A number: an array's length. -/
inductive SK where
  | one (v : VK)
  | ints (k : IntKind) (n : Option Nat) | bytes (n : Option Nat) | strs (n : Option Nat) | recs (fs : List Fk) (n : Option Nat)
@[reducible] def ST : SK → Type
  | .one v => VT v
  | .ints _ _ => List Int
  | .bytes _ => Str
  | .strs _ => List Str
  | .recs fs _ => List (Tup fs)
def cntOf : Option Nat → Nat → Nat
  | some n, _ => n
  | none, m => m
def toSeg : (s : SK) → ST s → Seg
  | .one v, x => .one (toSc v x)
  | .ints k n, xs => .ints k xs (cntOf n xs.length)
  | .bytes n, xs => .bytes xs (cntOf n xs.length)
  | .strs n, xs => .strs xs (cntOf n xs.length)
  | .recs fs n, xs => .recs fs xs (cntOf n xs.length)
@[reducible] def GT : List SK → Type
  | [] => Unit
  | s :: r => ST s × GT r
def toSegs : (l : List SK) → GT l → Segs
  | [], _ => []
  | s :: r, x => toSeg s x.1 :: toSegs r x.2
inductive AK where
  | sc (v : VK)
  | agg (l : List SK)
@[reducible] def AT : AK → Type
  | .sc v => VT v
  | .agg l => GT l
def toA : (a : AK) → AT a → AVal
  | .sc v, x => .s (toSc v x)
  | .agg l, x => .g (toSegs l x)
/-- The temporaries' forms. -/
@[reducible] def TmT : List (Nat × AK) → Type
  | [] => Unit
  | (_, a) :: r => AT a × TmT r
def toTm : (l : List (Nat × AK)) → TmT l → List (Nat × AVal)
  | [], _ => []
  | (t, a) :: r, x => (t, toA a x.1) :: toTm r x.2
@[reducible] def HpT : List (Bool × List SK) → Type
  | [] => Unit
  | (_, l) :: r => GT l × HpT r
def toHp : Nat → (l : List (Bool × List SK)) → HpT l → List (Nat × Blk)
  | _, [], _ => []
  | n, (rw, l) :: r, x => (n, ⟨rw, toSegs l x.1⟩) :: toHp (n + 1) r x.2
/-- A state's form: the names are 0, 1, .. -/
structure StK where
  tm : List (Nat × AK)
  hp : List (Bool × List SK)
@[reducible] def StT (T : StK) : Type := TmT T.tm × HpT T.hp
def toSt (T : StK) (x : StT T) : St := ⟨toTm T.tm x.1, toHp 0 T.hp x.2, T.hp.length⟩

/-! ### Back: what a state of a form has, the names being told as well (m: from the form's names to the state's) -/
abbrev Nm := List (Nat × Nat)
/-- A name of the form is a name of the state. -/
def bindN (m : Nm) (a b : Nat) : Option Nm := match look m a with
  | some c => match Nat.beq c b with
    | true => some m
    | false => none
  | none => some (m ++ [(a, b)])
def bindL : Nm → List Nat → List Nat → Option Nm
  | m, [], [] => some m
  | m, a :: r, b :: q => match bindN m a b with
    | some m' => bindL m' r q
    | none => none
  | _, _, _ => none
def eqO : Option Nat → Option Nat → Bool
  | none, none => true
  | some a, some b => Nat.beq a b
  | _, _ => false
def eq4 (a b c d a' b' c' d' : Nat) : Bool := Nat.beq a a' && Nat.beq b b' && Nat.beq c c' && Nat.beq d d'
def eqB : Bool → Bool → Bool
  | true, true => true
  | false, false => true
  | _, _ => false
def eqStrB : Str → Str → Bool
  | [], [] => true
  | a :: r, b :: q => Nat.beq a.toNat b.toNat && eqStrB r q
  | _, _ => false
def unSc (m : Nm) : (v : VK) → Sc → Option (Nm × VT v)
  | .i k, .int k' x => match beqK k k' with
    | true => some (m, x)
    | false => none
  | .b, .bool x => some (m, x)
  | .s, .str x => some (m, x)
  | .err, .err x => some (m, x)
  | .ik k n, .int k' x => match beqK k k' && decide (x = n) with
    | true => some (m, ())
    | false => none
  | .bk b, .bool x => match eqB x b with
    | true => some (m, ())
    | false => none
  | .sk s, .str x => match eqStrB x s with
    | true => some (m, ())
    | false => none
  | .ptr n base ix w f, .ptr n' base' ix' w' f' => match eq4 base ix w f base' ix' w' f', bindN m n n' with
    | true, some m' => some (m', ())
    | _, _ => none
  | .nilp, .nilp => some (m, ())
  | .sl n w c, .slice n' w' none c' => match Nat.beq w w' && eqO c c', bindN m n n' with
    | true, some m' => some (m', ())
    | _, _ => none
  | .slr n w c, .slice n' w' (some p) c' => match Nat.beq w w' && eqO c c', bindN m n n' with
    | true, some m' => some (m', p)
    | _, _ => none
  | .nilsl, .nilsl => some (m, ())
  | .fn f caps, .fn f' caps' => match Nat.beq f f', bindL m caps caps' with
    | true, some m' => some (m', ())
    | _, _ => none
  | .nilfn, .nilfn => some (m, ())
  | .mapr n, .mapr n' => match bindN m n n' with
    | some m' => some (m', ())
    | none => none
  | .nilmap, .nilmap => some (m, ())
  | .top, _ => some (m, ())
  | _, _ => none
def cntOk : Option Nat → Nat → Bool
  | some n, m => Nat.beq n m
  | none, _ => true
def unSeg (m : Nm) : (s : SK) → Seg → Option (Nm × ST s)
  | .one v, .one x => unSc m v x
  | .ints k n, .ints k' xs n' => match beqK k k' && cntOk n n' with
    | true => some (m, xs)
    | false => none
  | .bytes n, .bytes xs n' => match cntOk n n' with
    | true => some (m, xs)
    | false => none
  | .strs n, .strs xs n' => match cntOk n n' with
    | true => some (m, xs)
    | false => none
  | .recs fs n, .recs fs' xs n' => if h : fs' = fs then match cntOk n n' with
      | true => some (m, h ▸ xs)
      | false => none
    else none
  | _, _ => none
def unSegs (m : Nm) : (l : List SK) → Segs → Option (Nm × GT l)
  | [], [] => some (m, ())
  | s :: r, g :: q => match unSeg m s g with
    | some (m', x) => match unSegs m' r q with
      | some (m2, y) => some (m2, (x, y))
      | none => none
    | none => none
  | _, _ => none
def unA (m : Nm) : (a : AK) → AVal → Option (Nm × AT a)
  | .sc v, .c (.sc x) => unSc m v x
  | .agg l, .c (.agg g) => unSegs m l g
  | _, _ => none
@[reducible] def ArT : List AK → Type
  | [] => Unit
  | a :: r => AT a × ArT r
def toArgs : (l : List AK) → ArT l → List AVal
  | [], _ => []
  | a :: r, x => toA a x.1 :: toArgs r x.2
def unArgs (m : Nm) : (l : List AK) → List AVal → Option (Nm × ArT l)
  | [], [] => some (m, ())
  | a :: r, v :: q => match unA m a v with
    | some (m', x) => match unArgs m' r q with
      | some (m2, y) => some (m2, (x, y))
      | none => none
    | none => none
  | _, _ => none
def unTm (m : Nm) : (l : List (Nat × AK)) → List (Nat × AVal) → Option (Nm × TmT l)
  | [], [] => some (m, ())
  | (t, a) :: r, (u, v) :: q => match Nat.beq t u, unA m a v with
    | true, some (m', x) => match unTm m' r q with
      | some (m2, y) => some (m2, (x, y))
      | none => none
    | _, _ => none
  | _, _ => none
/-- The blocks of the form, name by name, out of a heap. -/
def unHp (hp : Nat → Option Blk) : Nm → Nat → (l : List (Bool × List SK)) → Option (Nm × HpT l)
  | m, _, [] => some (m, ())
  | m, n, (rw, l) :: r => match look m n with
    | some a => match hp a with
      | some b => match !rw || b.rw, unSegs m l b.g with
        | true, some (m', x) => match unHp hp m' (n + 1) r with
          | some (m2, y) => some (m2, (x, y))
          | none => none
        | _, _ => none
      | none => none
    | none => none
/-- Names that are told apart. -/
def apart : Nm → Bool
  | [] => true
  | (_, b) :: r => !(r.any fun p => Nat.beq p.2 b) && apart r

def keysLt (n : Nat) : Nm → Bool
  | [] => true
  | (a, _) :: r => Nat.blt a n && keysLt n r

/-! ### Contracts -/
/-- One form of what a call comes to: its variables; the value, the blocks behind the call (the form's names, new ones behind them), how many are new. -/
structure Shape where
  T : Type
  out : T → AVal × List (Nat × Blk) × Nat
@[reducible] def KsT (R : Type) : List Shape → Type
  | [] => Unit
  | s :: r => (s.T → Option R) × KsT R r
def mkKs (R : Type) (G : AVal → List (Nat × Blk) → Nat → Option R) : (l : List Shape) → KsT R l
  | [] => ()
  | s :: r => (fun x => G (s.out x).1 (s.out x).2.1 (s.out x).2.2, mkKs R G r)
structure Con where
  args : List AK
  blks : List (Bool × List SK)
  shapes : List Shape
  F : (R : Type) → ArT args → HpT blks → KsT R shapes → Option R
/-- The names of the form and the new ones, as the caller has them. -/
def nmOf (m : Nm) (pin nx : Nat) (n : Nat) : Option Nat := match Nat.blt n pin with
  | true => look m n
  | false => some (nx + (n - pin))
def renB (m : Nat → Option Nat) : Option Blk → Option Blk
  | some b => some ⟨b.rw, Segs.ren m b.g⟩
  | none => none
/-- What a call does to the blocks that it may write. -/
def effA (m : Nm) (pin nx : Nat) (out : List (Nat × Blk)) : Nat → List (Bool × List SK) → Eff
  | _, [] => []
  | j, (true, _) :: r => match look m j with
    | some a => (a, renB (nmOf m pin nx) (look out j)) :: effA m pin nx out (j + 1) r
    | none => effA m pin nx out (j + 1) r
  | j, (false, _) :: r => effA m pin nx out (j + 1) r
def newB : Option Blk → Option Blk
  | some b => match b.rw with
    | true => some b
    | false => none
  | none => none
def effB (m : Nm) (pin nx : Nat) (out : List (Nat × Blk)) : Nat → Nat → Eff
  | _, 0 => []
  | i, n + 1 => (nx + i, renB (nmOf m pin nx) (newB (look out (pin + i)))) :: effB m pin nx out (i + 1) n
def conG (c : Con) (R : Type) (args : List AVal) (hp : Nat → Option Blk) (nx : Nat) (K : AVal → Eff → Nat → Option R) : Option R :=
  match unArgs [] c.args args with
  | some (m, x) => match unHp hp m 0 c.blks with
    | some (m', y) => match apart m', keysLt c.blks.length m' with
      | true, true => c.F R x y (mkKs R (fun v hp' cnt => K (v.ren (nmOf m' c.blks.length nx))
          (effA m' c.blks.length nx hp' 0 c.blks ++ effB m' c.blks.length nx hp' 0 cnt) cnt) c.shapes)
      | _, _ => none
    | none => none
  | none => none
def conFits (c : Con) (args : List AVal) (hp : Nat → Option Blk) : Bool := match unArgs [] c.args args with
  | some (m, _) => match unHp hp m 0 c.blks with
    | some _ => true
    | none => false
  | none => false
def conHas (g : FuncId) : List (FuncId × Con) → Bool
  | [] => false
  | (a, _) :: r => match Nat.beq a g with
    | true => true
    | false => conHas g r
/-- The first contract of a function that fits, of several; if there is one alone, that one. -/
def conL : List (FuncId × Con) → CallO
  | [], _, _, _, _, _, _ => none
  | (a, c) :: r, R, g, args, hp, nx, K => match Nat.beq a g with
    | false => conL r R g args hp nx K
    | true => match conHas g r with
      | false => conG c R args hp nx K
      | true => match conFits c args hp with
        | true => conG c R args hp nx K
        | false => conL r R g args hp nx K

/-! ### Pieces of code: loops, and what stands behind a parting of ways -/
def idNm : List Nat → Nm
  | [] => []
  | n :: r => (n, n) :: idNm r
def unTmL (tm : List (Nat × AVal)) : Nm → (l : List (Nat × AK)) → Option (Nm × TmT l)
  | m, [] => some (m, ())
  | m, (t, a) :: r => match look tm t with
    | some v => match unA m a v with
      | some (m', x) => match unTmL tm m' r with
        | some (m2, y) => some (m2, (x, y))
        | none => none
      | none => none
    | none => none
def flagsOk (hp : List (Nat × Blk)) : Nat → List (Bool × List SK) → Bool
  | _, [] => true
  | n, (rw, _) :: r => match look hp n with
    | some b => (match rw, b.rw with
      | true, true => flagsOk hp (n + 1) r
      | false, false => flagsOk hp (n + 1) r
      | _, _ => false)
    | none => false
/-- What a state has of a form; the names are the form's. -/
def unSt (pin : Nat) (T : StK) (st : St) : Option (StT T) := match Nat.ble pin T.hp.length, flagsOk st.hp 0 T.hp with
  | true, true => match unTmL st.tm (idNm (iotaN 0 T.hp.length)) T.tm with
    | some (m, x) => match unHp (look st.hp) m 0 T.hp with
      | some (m', y) => match keysLt T.hp.length m' with
        | true => some (x, y)
        | false => none
      | none => none
    | none => none
  | _, _ => none
/-- A piece of code: the form of the state ahead of it, what it may come to, how often its loop may go round. -/
structure PShape where
  T : Type
  out : T → Exit × St
@[reducible] def PKsT (R : Type) : List PShape → Type
  | [] => Unit
  | s :: r => (s.T → Option R) × PKsT R r
def mkPKs (R : Type) (K : Exit → St → Option R) : (l : List PShape) → PKsT R l
  | [] => ()
  | s :: r => (fun x => K (s.out x).1 (s.out x).2, mkPKs R K r)
structure Piece where
  T : StK
  shapes : List PShape
  /-- one round: on with the next one, or out -/
  step : (R : Type) → StT T → (StT T → Option R) → PKsT R shapes → Option R
  fuel : StT T → Nat
def runP (T : StK) (E : List PShape) (step : (R : Type) → StT T → (StT T → Option R) → PKsT R E → Option R) (R : Type) : Nat → StT T → PKsT R E → Option R
  | 0, _, _ => none
  | k + 1, v, kx => step R v (fun v' => runP T E step R k v' kx) kx
def pieceG (pin : Nat) (p : Piece) (R : Type) (st : St) (K : Exit → St → Option R) : Option R := match unSt pin p.T st with
  | some v => runP p.T p.shapes p.step R (p.fuel v) v (mkPKs R K p.shapes)
  | none => none
def pieceL (pin : Nat) (l : List (Nat × Piece)) : LoopO := fun R i st K => match look l i with
  | some p => pieceG pin p R st K
  | none => none
/-- Behind a round. -/
def loopK {R : Type} (pin : Nat) (T : StK) (keep : List Nat) (nils : List (Nat × Seg)) (keepX : List Nat) (nilsX : List (Nat × Seg)) (next : StT T → Option R) (K : Exit → St → Option R) : Exit → St → Option R
  | .normal, st => match unSt pin T (normSt pin keep (liftNil nils st)) with
    | some v => next v
    | none => none
  | e, st => K e (normSt pin keepX (liftNil nilsX st))
/-- Behind a piece that is no loop. -/
def joinK {R : Type} (pin : Nat) (keepX : List Nat) (nilsX : List (Nat × Seg)) (K : Exit → St → Option R) : Exit → St → Option R
  | e, st => K e (normSt pin keepX (liftNil nilsX st))
/-- What a loop's piece asks of its body. -/
def Piece.Loops (P : Program) (nt pin : Nat) (Γ : CallO) (Λ : LoopO) (body : Code) (ann : Ann) (keep : List Nat) (nils : List (Nat × Seg)) (keepX : List Nat) (nilsX : List (Nat × Seg)) (p : Piece) : Prop :=
  ∀ (R : Type) (v : StT p.T) (next : StT p.T → Option R) (K : Exit → St → Option R),
    evCode P nt pin Γ Λ body ann (toSt p.T v) (loopK pin p.T keep nils keepX nilsX next K) = p.step R v next (mkPKs R K p.shapes)
def Piece.Joins (P : Program) (nt pin : Nat) (Γ : CallO) (Λ : LoopO) (c : Code) (ann : Ann) (keepX : List Nat) (nilsX : List (Nat × Seg)) (p : Piece) : Prop :=
  ∀ (R : Type) (v : StT p.T) (next : StT p.T → Option R) (K : Exit → St → Option R),
    evCode P nt pin Γ Λ c ann (toSt p.T v) (joinK pin keepX nilsX K) = p.step R v next (mkPKs R K p.shapes)
/-- Code inside code. -/
def subC : Code → List Nat → Code
  | .seq x _, 0 :: r => subC x r
  | .seq _ y, 1 :: r => subC y r
  | .cond _ x _, 0 :: r => subC x r
  | .cond _ _ y, 1 :: r => subC y r
  | .block _ c, 0 :: r => subC c r
  | .loop c, 0 :: r => subC c r
  | c, _ => c
def fsub (fn : Func) (l : List Nat) : Code := match fn.body with
  | some c => subC c l
  | none => .skip
/-- The pieces that an annotation names: number, code. -/
def orcsAt : Code → Ann → List Nat → List (Nat × List Nat)
  | .seq x y, ann, l => match ann with
    | .orc i _ _ => [(i, l)]
    | ann => orcsAt x ann.l (l ++ [0]) ++ orcsAt y ann.r (l ++ [1])
  | .cond _ x y, ann, l => match ann with
    | .orc i _ _ => [(i, l)]
    | ann => orcsAt x ann.l (l ++ [0]) ++ orcsAt y ann.r (l ++ [1])
  | .block _ c, ann, l => match ann with
    | .orc i _ _ => [(i, l)]
    | ann => orcsAt c ann.l (l ++ [0])
  | .loop c, ann, l => match ann with
    | .orc i _ _ => [(i, l)]
    | .unroll _ a => orcsAt c a (l ++ [0])
    | _ => []
  | c, ann, l => match ann with
    | .orc i _ _ => [(i, l)]
    | _ => []

/-! ### Functions -/
section
variable {R : Type} (P : Program)
def resVals (st : St) : List ResultVar → (List AVal → Option R) → Option R
  | [], K => K []
  | .tmp t :: r, K => match look st.tm t with
    | some v => resVals st r fun vs => K (v :: vs)
    | none => none
  | .cell a t :: r, K => match look st.tm a with
    | some (.c (.sc (.ptr n base ix w f))) => match look st.hp n with
      | some b => match aggOf P t with
        | some true => match cells P t with
          | some size => ldAgg b.g base ix w f size fun g => resVals st r fun vs => K (.g g :: vs)
          | none => none
        | some false => ldSc b.g base ix w f fun v => resVals st r fun vs => K (.s v :: vs)
        | none => none
      | none => none
    | _ => none
def cmpOf : List AVal → Option (List Cmp)
  | [] => some []
  | .c x :: r => match cmpOf r with
    | some l => some (x :: l)
    | none => none
  | _ => none
/-- A function's result: one value, or several. -/
def resOf (vs : List AVal) : Option AVal := match vs with
  | [v] => some v
  | vs => match cmpOf vs with
    | some l => some (.tup l)
    | none => none
/-- Where a function ends: its result, and what is there for the caller. -/
def fnEnd (pin : Nat) (rs : List ResultVar) (K : AVal → List (Nat × Blk) → Nat → Option R) : Exit → St → Option R
  | .normal, st | .ret, st => resVals P st rs fun vs => match resOf vs with
    | some v => match look (normSt pin [0] ⟨[(0, v)], st.hp, st.nx⟩).tm 0 with
      | some v' => K v' (normSt pin [0] ⟨[(0, v)], st.hp, st.nx⟩).hp ((normSt pin [0] ⟨[(0, v)], st.hp, st.nx⟩).nx - pin)
      | none => none
    | none => none
  | _, _ => none
def numbered : Nat → List AVal → List (Nat × AVal)
  | _, [] => []
  | n, v :: r => (n, v) :: numbered (n + 1) r
def fnSt (args : List AVal) (hp : List (Nat × Blk)) (pin : Nat) : St := ⟨numbered 0 args, hp, pin⟩
def evFn (fn : Func) (Γ : CallO) (Λ : LoopO) (ann : Ann) (args : List AVal) (hp : List (Nat × Blk)) (pin : Nat) (K : AVal → List (Nat × Blk) → Nat → Option R) : Option R :=
  match fn.body with
  | some c => evCode P fn.ntmps pin Γ Λ c ann (fnSt args hp pin) (fnEnd P pin fn.results.toList K)
  | none => none
/-- What a contract asks of a function's text. -/
def Con.Says (P : Program) (fn : Func) (Γ : CallO) (Λ : LoopO) (ann : Ann) (c : Con) : Prop :=
  ∀ (R : Type) (x : ArT c.args) (y : HpT c.blks) (K : AVal → List (Nat × Blk) → Nat → Option R),
    evFn P fn Γ Λ ann (toArgs c.args x) (toHp 0 c.blks y) c.blks.length K = c.F R x y (mkKs R K c.shapes)
end
end Go.Ev

namespace Go.Ev

/-- Two lists, one element held against the other. -/
inductive All2 {α β : Type} (R : α → β → Prop) : List α → List β → Prop where
  | nil : All2 R [] []
  | cons {a : α} {b : β} {l : List α} {m : List β} : R a b → All2 R l m → All2 R (a :: l) (b :: m)
structure Loc where
  blk : Option Nat
  off : Nat
  cap : Nat
  len : Nat
  w : Nat
abbrev Map := Nat → Option Loc
def Map.le (ι κ : Map) : Prop := ∀ n l, ι n = some l → κ n = some l
theorem Map.le_refl (ι : Map) : ι.le ι := fun _ _ h => h
/-- More is told, but nothing new of names below a bound. -/
def Map.up (nx : Nat) (ι κ : Map) : Prop := ι.le κ ∧ ∀ n, n < nx → κ n = ι n
theorem Map.up_refl (nx : Nat) (ι : Map) : Map.up nx ι ι := ⟨Map.le_refl _, fun _ _ => rfl⟩
theorem Map.up_new {nx : Nat} {ι : Map} {o : Option Loc} (h : ι.le (fun m => if m = nx then o else ι m)) : Map.up nx ι (fun m => if m = nx then o else ι m) :=
  ⟨h, fun n hn => if_neg (by omega)⟩
theorem Map.le_trans {ι κ μ : Map} (h : ι.le κ) (h' : κ.le μ) : ι.le μ := fun n l e => h' n l (h n l e)

def fits (k : IntKind) (n : Int) : Prop := k.min ≤ n ∧ n ≤ k.max
abbrev maxL : Nat := 9223372036854775807

def srel (ι : Map) : Sc → Value → Prop
  | .bool b, v => v = .bool b
  | .int k n, v => v = .int k n ∧ fits k n
  | .str s, v => v = .string ⟨s.toArray⟩ ∧ s.length ≤ maxL
  | .ptr n base ix w f, v => ∃ l b, ι n = some l ∧ l.blk = some b ∧ v = .pointer (some ⟨b, l.off + (base + ix * w + f), none⟩) ∧ base + ix * w + f < l.len
  | .nilp, v => v = .pointer none
  | .slice n w r cap, v => ∃ oa l c lo, v = .slice oa l c ∧ l ≤ maxL ∧ 0 < w ∧ l ≤ c ∧ (∀ k, cap = some k → c = k) ∧ ι n = some lo ∧ (cap = none → lo.w = w) ∧
      match r with
      | some (s, l') => l = l' ∧ (s + l) * w ≤ lo.len ∧ ((l = 0 ∧ c = 0) ∨ ∃ b, lo.blk = some b ∧ oa = some ⟨b, lo.off + s * w, none⟩ ∧ (cap = none → c + s = lo.cap))
      | none => l * w = lo.len ∧ ((l = 0 ∧ c = 0) ∨ ∃ b, lo.blk = some b ∧ oa = some ⟨b, lo.off, none⟩ ∧ (cap = none → c = lo.cap))
  | .nilsl, v => v = .slice none 0 0
  | .fn f caps, v => ∃ xs : List Value, v = .func (.func f) #[] xs.toArray ∧ All2 (fun n x => ∃ l b, ι n = some l ∧ l.blk = some b ∧ x = .pointer (some ⟨b, l.off, none⟩) ∧ 0 < l.len) caps xs
  | .nilfn, v => v = .nilFunc
  | .mapr n, v => ∃ l b, ι n = some l ∧ l.blk = some b ∧ v = .map (some b)
  | .nilmap, v => v = .map none
  | .err b, v => (b = true ∧ v = .nilIface) ∨ (b = false ∧ ∃ t x, v = .iface t x)
  | .top, _ => True

theorem forall2_imp {α β : Type} {R S : α → β → Prop} (h : ∀ a b, R a b → S a b) {l : List α} {m : List β} (hl : All2 R l m) : All2 S l m := by
  induction hl with
  | nil => exact .nil
  | cons a _ ih => exact .cons (h _ _ a) ih

theorem srel_mono {ι κ : Map} (h : ι.le κ) {s : Sc} {v : Value} (hs : srel ι s v) : srel κ s v := by
  cases s with
  | ptr n base ix w f =>
    obtain ⟨l, b, h1, h2⟩ := hs
    exact ⟨l, b, h _ _ h1, h2⟩
  | slice n w r cap =>
    obtain ⟨oa, l, c, lo, h1, h2, h3, h4, h5, h6, h7⟩ := hs
    exact ⟨oa, l, c, lo, h1, h2, h3, h4, h5, h _ _ h6, h7⟩
  | fn f caps =>
    obtain ⟨xs, h1, h2⟩ := hs
    exact ⟨xs, h1, forall2_imp (fun n x ⟨l, b, e, r⟩ => ⟨l, b, h _ _ e, r⟩) h2⟩
  | mapr n =>
    obtain ⟨l, b, h1, h2⟩ := hs
    exact ⟨l, b, h _ _ h1, h2⟩
  | _ => exact hs

/-- A value of one cell, that may be stored. -/
def Sc.known : Sc → Prop
  | .top => False
  | _ => True
theorem srel_one {ι : Map} {s : Sc} {v : Value} (hs : srel ι s v) (hk : s.known) : v.oneCell' = true ∧ v.cells = #[v] := by
  cases s <;> simp only [srel, Sc.known] at hs hk
  case bool => subst hs; exact ⟨rfl, rfl⟩
  case int => obtain ⟨rfl, _⟩ := hs; exact ⟨rfl, rfl⟩
  case str => obtain ⟨rfl, _⟩ := hs; exact ⟨rfl, rfl⟩
  case ptr => obtain ⟨_, _, _, _, rfl, _⟩ := hs; exact ⟨rfl, rfl⟩
  case nilp => subst hs; exact ⟨rfl, rfl⟩
  case slice => obtain ⟨_, _, _, _, rfl, _⟩ := hs; exact ⟨rfl, rfl⟩
  case nilsl => subst hs; exact ⟨rfl, rfl⟩
  case fn => obtain ⟨_, rfl, _⟩ := hs; exact ⟨rfl, rfl⟩
  case nilfn => subst hs; exact ⟨rfl, rfl⟩
  case mapr => obtain ⟨_, _, _, _, rfl⟩ := hs; exact ⟨rfl, rfl⟩
  case nilmap => subst hs; exact ⟨rfl, rfl⟩
  case err =>
    rcases hs with ⟨_, rfl⟩ | ⟨_, _, _, rfl⟩
    · exact ⟨rfl, rfl⟩
    · exact ⟨rfl, rfl⟩

/-- Cells that are known, one by one. -/
def krel (ι : Map) (l : List Sc) (vs : List Value) : Prop := All2 (fun s v => srel ι s v ∧ (v.oneCell' = true ∧ v.cells = #[v])) l vs
theorem krel_mono {ι κ : Map} (h : ι.le κ) {l : List Sc} {vs : List Value} (hl : krel ι l vs) : krel κ l vs :=
  forall2_imp (fun _ _ ⟨a, b⟩ => ⟨srel_mono h a, b⟩) hl

def wfs (g : Segs) : Prop := ∀ s ∈ g, s.wf
def crel (ι : Map) : Cmp → Value → Prop
  | .sc s, v => srel ι s v
  | .agg g, v => wfs g ∧ ∃ cs : List Value, v = .agg cs.toArray ∧ krel ι (flats g) cs
def vrel (ι : Map) : AVal → Value → Prop
  | .c x, v => crel ι x v
  | .tup vs, v => ∃ xs : List Value, v = .tuple xs.toArray ∧ All2 (crel ι) vs xs
theorem crel_mono {ι κ : Map} (h : ι.le κ) {s : Cmp} {v : Value} (hs : crel ι s v) : crel κ s v := by
  cases s with
  | sc s => exact srel_mono h hs
  | agg g => exact ⟨hs.1, let ⟨cs, a, b⟩ := hs.2; ⟨cs, a, krel_mono h b⟩⟩
theorem vrel_mono {ι κ : Map} (h : ι.le κ) {s : AVal} {v : Value} (hs : vrel ι s v) : vrel κ s v := by
  cases s with
  | c x => exact crel_mono h hs
  | tup vs => exact let ⟨xs, a, b⟩ := hs; ⟨xs, a, forall2_imp (fun _ _ => crel_mono h) b⟩

/-- A block of the machine's holds what is told of it. -/
structure Holds (ι : Map) (w : World) (b : Nat) (lo : Loc) (l : List Sc) : Prop where
  ex : ∃ C e fr, w.heap[b]? = some (.cells C e fr) ∧ lo.off + lo.len ≤ C.size ∧ lo.off + lo.cap * lo.w ≤ C.size ∧ (∀ o, o < C.size → ¬ (fr.1 ≤ o ∧ o < fr.2)) ∧
    ∀ i x, l[i]? = some x → ∃ v, C[lo.off + i]? = some v ∧ srel ι x v ∧ (v.oneCell' = true ∧ v.cells = #[v])
structure BlkOK (ι : Map) (I : Nat → Prop) (w : World) (n : Nat) (b : Blk) : Prop where
  wf : wfs b.g
  ex : ∃ lo, ι n = some lo ∧ lo.len = (flats b.g).length ∧ (lo.blk = none → lo.len = 0) ∧
    ∀ k, lo.blk = some k → (b.rw = true → I k) ∧ (b.rw = false → ¬ I k) ∧ Holds ι w k lo (flats b.g)
structure HSim (ι : Map) (I : Nat → Prop) (nx : Nat) (hp : Nat → Option Blk) (w : World) : Prop where
  fresh : ∀ n, nx ≤ n → ι n = none ∧ hp n = none
  ok : ∀ n b, hp n = some b → BlkOK ι I w n b
  inj : ∀ m n a b x y k, m ≠ n → hp m = some a → hp n = some b → (a.rw = true ∨ b.rw = true) → ι m = some x → ι n = some y → x.blk = some k → y.blk = some k → False
  bound : ∀ k, I k → k < w.heap.size
/-- What a piece of code may have changed. -/
structure Fr (I : Nat → Prop) (w : World) (I' : Nat → Prop) (w' : World) : Prop where
  same : ∀ k, k < w.heap.size → ¬ I k → w'.heap[k]? = w.heap[k]?
  own : ∀ k, I' k → I k ∨ w.heap.size ≤ k
  size : w.heap.size ≤ w'.heap.size
  os : w'.os = w.os
  tape : w'.tape = w.tape
  output : w'.output = w.output
theorem Fr.refl (I : Nat → Prop) (w : World) : Fr I w I w := ⟨fun _ _ _ => rfl, fun _ h => .inl h, Nat.le_refl _, rfl, rfl, rfl⟩
theorem Fr.trans {I J K : Nat → Prop} {w w1 w2 : World} (h : Fr I w J w1) (h' : Fr J w1 K w2) : Fr I w K w2 where
  same k hk hI := by
    rw [h'.same k (Nat.lt_of_lt_of_le hk h.size) (fun hj => (h.own k hj).elim hI (fun hs => by omega)), h.same k hk hI]
  own k hk := by
    rcases h'.own k hk with hj | hs
    · exact h.own k hj
    · exact .inr (Nat.le_trans h.size hs)
  size := Nat.le_trans h.size h'.size
  os := h'.os.trans h.os
  tape := h'.tape.trans h.tape
  output := h'.output.trans h.output

theorem Holds.mono {ι κ : Map} (h : ι.le κ) {w w' : World} {b : Nat} {lo : Loc} {l : List Sc} (hh : Holds ι w b lo l) (hw : w'.heap[b]? = w.heap[b]?) : Holds κ w' b lo l := by
  obtain ⟨C, e, fr, h1, h2, h3, h4, h5⟩ := hh.ex
  exact ⟨C, e, fr, hw.trans h1, h2, h3, h4, fun i x hx => let ⟨v, a, b, c⟩ := h5 i x hx; ⟨v, a, srel_mono h b, c⟩⟩
theorem Holds.lt {ι : Map} {w : World} {b : Nat} {lo : Loc} {l : List Sc} (hh : Holds ι w b lo l) : b < w.heap.size := by
  obtain ⟨C, e, fr, h1, _⟩ := hh.ex
  exact (Array.getElem?_eq_some_iff.1 h1).1

/-- The world turned elsewhere: the heap lives on. -/
theorem HSim.world {ι : Map} {I : Nat → Prop} {nx : Nat} {hp : Nat → Option Blk} {w w' : World} (h : HSim ι I nx hp w) (hw : w'.heap = w.heap) : HSim ι I nx hp w' where
  fresh := h.fresh
  ok n b hb := by
    have ho := h.ok n b hb
    refine ⟨ho.wf, ?_⟩
    obtain ⟨lo, h1, h2, h3, h4⟩ := ho.ex
    exact ⟨lo, h1, h2, h3, fun k hk => let ⟨a, b, c⟩ := h4 k hk; ⟨a, b, c.mono (Map.le_refl _) (by rw [hw])⟩⟩
  inj := h.inj
  bound k hk := by rw [hw]; exact h.bound k hk

/-- Fewer blocks are told. -/
theorem HSim.less {ι : Map} {I : Nat → Prop} {nx : Nat} {hp hp' : Nat → Option Blk} {w : World} (h : HSim ι I nx hp w) (hl : ∀ n b, hp' n = some b → hp n = some b) : HSim ι I nx hp' w where
  fresh n hn := ⟨(h.fresh n hn).1, by
    cases hb : hp' n with
    | none => rfl
    | some b => have := hl n b hb; rw [(h.fresh n hn).2] at this; exact this.symm⟩
  ok n b hb := h.ok n b (hl n b hb)
  inj m n a b x y k hne ha hb := h.inj m n a b x y k hne (hl m a ha) (hl n b hb)
  bound := h.bound

/-- A heap with one more entry. -/
def put1 (hp : Nat → Option Blk) (n : Nat) (b : Option Blk) : Nat → Option Blk := fun m => if m = n then b else hp m
theorem put1_same {hp : Nat → Option Blk} {n : Nat} {b : Option Blk} : put1 hp n b n = b := by simp [put1]
theorem put1_other {hp : Nat → Option Blk} {n m : Nat} {b : Option Blk} (h : m ≠ n) : put1 hp n b m = hp m := by simp [put1, h]

/-- A new block. -/
theorem HSim.alloc {ι : Map} {I : Nat → Prop} {nx : Nat} {hp : Nat → Option Blk} {w : World} (h : HSim ι I nx hp w) (g : Segs) (hg : wfs g) (C : Array Value) (e : TypeId)
    (fr : Nat × Nat) (cap wd : Nat) (hlen : (flats g).length ≤ C.size) (hcap : cap * wd ≤ C.size) (hfr : ∀ o, o < C.size → ¬ (fr.1 ≤ o ∧ o < fr.2))
    (hc : ∀ (i : Nat) (x : Sc), (flats g)[i]? = some x → ∃ v : Value, C[i]? = some v ∧ srel ι x v ∧ (v.oneCell' = true ∧ v.cells = #[v]))
    (w' : World) (hw : w'.heap = w.heap.push (.cells C e fr)) :
    let lo : Loc := ⟨some w.heap.size, 0, cap, (flats g).length, wd⟩
    HSim (fun m => if m = nx then some lo else ι m) (fun k => I k ∨ k = w.heap.size) (nx + 1) (put1 hp nx (some ⟨true, g⟩)) w' ∧
      Map.le ι (fun m => if m = nx then some lo else ι m) := by
  intro lo
  have hle : Map.le ι (fun m => if m = nx then some lo else ι m) := fun n l hn => by
    by_cases hnx : n = nx
    · subst hnx; rw [(h.fresh n (Nat.le_refl _)).1] at hn; cases hn
    · simp [hnx, hn]
  have hold : ∀ k, k < w.heap.size → w'.heap[k]? = w.heap[k]? := fun k hk => by
    rw [hw, Array.getElem?_push]; simp [Nat.ne_of_lt hk]
  have hnew : w'.heap[w.heap.size]? = some (.cells C e fr) := by rw [hw]; simp
  refine ⟨⟨?_, ?_, ?_, ?_⟩, hle⟩
  · intro n hn
    have hne : n ≠ nx := by omega
    simp only [hne, if_false, put1]
    exact h.fresh n (by omega)
  · intro n b hb
    by_cases hnx : n = nx
    · subst hnx
      rw [put1_same] at hb
      cases hb
      refine ⟨hg, lo, by simp, rfl, by simp [lo], ?_⟩
      intro k hk
      cases hk
      refine ⟨fun _ => .inr rfl, by simp, ?_⟩
      refine ⟨C, e, fr, hnew, by simpa [lo] using hlen, by simpa [lo] using hcap, hfr, ?_⟩
      intro i x hx
      obtain ⟨v, a, b, c⟩ := hc i x hx
      exact ⟨v, by simpa [lo] using a, srel_mono hle b, c⟩
    · rw [put1_other hnx] at hb
      have ho := h.ok n b hb
      refine ⟨ho.wf, ?_⟩
      obtain ⟨l, h1, h2, h3, h4⟩ := ho.ex
      refine ⟨l, by simp [hnx, h1], h2, h3, fun k hk => ?_⟩
      obtain ⟨a, b', c⟩ := h4 k hk
      have hlt := c.lt
      refine ⟨fun hr => .inl (a hr), fun hr hor => ?_, c.mono hle (hold k hlt)⟩
      rcases hor with hI | he
      · exact b' hr hI
      · omega
  · intro m n a b x y k hne ha hb hr hx hy hxk hyk
    by_cases hm : m = nx
    · subst hm
      have hn : n ≠ m := fun e => hne e.symm
      simp only [if_true] at hx
      cases hx
      cases hxk
      simp only [hn, if_false] at hy
      rw [put1_other hn] at hb
      obtain ⟨l, h1, h2, h3, h4⟩ := (h.ok n b hb).ex
      rw [h1] at hy; cases hy
      have := (h4 _ hyk).2.2.lt
      omega
    · simp only [hm, if_false] at hx
      rw [put1_other hm] at ha
      by_cases hn : n = nx
      · subst hn
        simp only [if_true] at hy
        cases hy
        cases hyk
        obtain ⟨l, h1, h2, h3, h4⟩ := (h.ok m a ha).ex
        rw [h1] at hx; cases hx
        have := (h4 _ hxk).2.2.lt
        omega
      · simp only [hn, if_false] at hy
        rw [put1_other hn] at hb
        exact h.inj m n a b x y k hne ha hb hr hx hy hxk hyk
  · intro k hk
    rw [hw, Array.size_push]
    rcases hk with hI | he
    · have := h.bound k hI; omega
    · omega
theorem Fr.alloc {I : Nat → Prop} {w w' : World} {o : Obj} (hw : w'.heap = w.heap.push o) (h1 : w'.os = w.os) (h2 : w'.tape = w.tape) (h3 : w'.output = w.output) :
    Fr I w (fun k => I k ∨ k = w.heap.size) w' where
  same k hk _ := by rw [hw, Array.getElem?_push]; simp [Nat.ne_of_lt hk]
  own k hk := hk.imp id (fun e => by omega)
  size := by rw [hw, Array.size_push]; omega
  os := h1
  tape := h2
  output := h3

/-- A block written anew, at its place. -/
theorem HSim.write {ι : Map} {I : Nat → Prop} {nx : Nat} {hp : Nat → Option Blk} {w : World} (h : HSim ι I nx hp w) {n : Nat} {b : Blk} (hb : hp n = some b) (hrw : b.rw = true)
    {lo : Loc} (hlo : ι n = some lo) (g : Segs) (hg : wfs g) (hlen : (flats g).length = lo.len) (w' : World) (hsz : w'.heap.size = w.heap.size)
    (hother : ∀ k, lo.blk ≠ some k → w'.heap[k]? = w.heap[k]?)
    (hhere : ∀ k, lo.blk = some k → Holds ι w' k lo (flats g)) :
    HSim ι I nx (put1 hp n (some ⟨true, g⟩)) w' where
  fresh m hm := by
    refine ⟨(h.fresh m hm).1, ?_⟩
    have : m ≠ n := fun e => by subst e; rw [(h.fresh m hm).2] at hb; cases hb
    rw [put1_other this]
    exact (h.fresh m hm).2
  ok m c hc := by
    by_cases hm : m = n
    · subst hm
      rw [put1_same] at hc
      cases hc
      refine ⟨hg, lo, hlo, hlen.symm, ?_, ?_⟩
      · intro hn
        obtain ⟨l, h1, h2, h3, h4⟩ := (h.ok m b hb).ex
        rw [hlo] at h1; cases h1
        exact h3 hn
      · intro k hk
        obtain ⟨l, h1, h2, h3, h4⟩ := (h.ok m b hb).ex
        rw [hlo] at h1; cases h1
        exact ⟨fun _ => (h4 k hk).1 hrw, by simp, hhere k hk⟩
    · rw [put1_other hm] at hc
      have ho := h.ok m c hc
      refine ⟨ho.wf, ?_⟩
      obtain ⟨l, h1, h2, h3, h4⟩ := ho.ex
      refine ⟨l, h1, h2, h3, fun k hk => ?_⟩
      obtain ⟨a, b', d⟩ := h4 k hk
      refine ⟨a, b', d.mono (Map.le_refl _) (hother k fun he => ?_)⟩
      exact h.inj m n c b l lo k hm hc hb (.inr hrw) h1 hlo hk he
  inj m p a c x y k hne ha hc hr hx hy hxk hyk := by
    have key : ∀ q d, put1 hp n (some ⟨true, g⟩) q = some d → ∃ d', hp q = some d' ∧ d'.rw = d.rw := by
      intro q d hq
      by_cases hqn : q = n
      · subst hqn; rw [put1_same] at hq; cases hq; exact ⟨b, hb, hrw⟩
      · rw [put1_other hqn] at hq; exact ⟨d, hq, rfl⟩
    obtain ⟨a', ha', ea⟩ := key m a ha
    obtain ⟨c', hc', ec⟩ := key p c hc
    exact h.inj m p a' c' x y k hne ha' hc' (by rw [ea, ec]; exact hr) hx hy hxk hyk
  bound k hk := by rw [hsz]; exact h.bound k hk

/-- A world whose block has some cells laid anew, one behind the other. -/
def putCells (w : World) (b : Nat) : Nat → List Value → World
  | _, [] => w
  | o, v :: r => putCells (w.setCell ⟨b, o, none⟩ v) b (o + 1) r
theorem setCell_heap (w : World) (b o : Nat) (v : Value) (k : Nat) : (w.setCell ⟨b, o, none⟩ v).heap[k]? = if k = b then (w.heap[k]?).map (fun
      | .cells c elem frozen => .cells (c.setIfInBounds o v) elem frozen
      | x => x) else w.heap[k]? := by
  unfold World.setCell
  simp only [Array.getElem?_modify]
  by_cases hk : b = k
  · subst hk
    simp only [if_true]
    cases w.heap[b]? with
    | none => rfl
    | some x => cases x <;> simp
  · have : k ≠ b := fun e => hk e.symm
    simp [hk, this]
theorem putCells_other {b k : Nat} (h : k ≠ b) : ∀ (vs : List Value) (o : Nat) (w : World), (putCells w b o vs).heap[k]? = w.heap[k]? := by
  intro vs
  induction vs with
  | nil => intro o w; rfl
  | cons v r ih => intro o w; rw [putCells, ih, setCell_heap]; simp [h]
theorem putCells_rest (b : Nat) : ∀ (vs : List Value) (o : Nat) (w : World), (putCells w b o vs).heap.size = w.heap.size ∧ (putCells w b o vs).os = w.os ∧
    (putCells w b o vs).tape = w.tape ∧ (putCells w b o vs).output = w.output := by
  intro vs
  induction vs with
  | nil => intro o w; exact ⟨rfl, rfl, rfl, rfl⟩
  | cons v r ih => intro o w; rw [putCells]; have := ih (o + 1) (w.setCell ⟨b, o, none⟩ v); simp [World.setCell] at this ⊢; exact this
theorem putCells_here {b : Nat} : ∀ (vs : List Value) (o : Nat) (w : World) (C : Array Value) (e : TypeId) (fr : Nat × Nat), w.heap[b]? = some (.cells C e fr) →
    ∃ C', (putCells w b o vs).heap[b]? = some (.cells C' e fr) ∧ C'.size = C.size ∧ ∀ i, C'[i]? = if o ≤ i ∧ i < o + vs.length ∧ i < C.size then vs[i - o]? else C[i]? := by
  intro vs
  induction vs with
  | nil =>
    intro o w C e fr h
    refine ⟨C, h, rfl, fun i => ?_⟩
    rw [if_neg (by simp; omega)]
  | cons v r ih =>
    intro o w C e fr h
    have h1 : (w.setCell ⟨b, o, none⟩ v).heap[b]? = some (.cells (C.setIfInBounds o v) e fr) := by rw [setCell_heap]; simp [h]
    obtain ⟨C', a, s, c⟩ := ih (o + 1) _ _ _ _ h1
    refine ⟨C', a, by simpa using s, fun i => ?_⟩
    rw [c i]
    simp only [Array.size_setIfInBounds, List.length_cons]
    by_cases hi : o + 1 ≤ i ∧ i < o + 1 + r.length ∧ i < C.size
    · rw [if_pos hi, if_pos (by omega)]
      have : i - o = (i - (o + 1)) + 1 := by omega
      rw [this, List.getElem?_cons_succ]
    · rw [if_neg hi, Array.getElem?_setIfInBounds]
      by_cases he : o = i
      · subst he
        by_cases hlt : o < C.size
        · simp [hlt]
        · simp [hlt]
      · simp only [he, if_false]
        rw [if_neg (by omega)]
end Go.Ev

namespace Go.Ev

theorem flatMap_len {α β : Type} (f : α → List β) (m : Nat) (hf : ∀ x, (f x).length = m) : ∀ xs : List α, (xs.flatMap f).length = xs.length * m
  | [] => by simp
  | x :: xs => by rw [List.flatMap_cons, List.length_append, hf, flatMap_len f m hf xs, List.length_cons, Nat.succ_mul]; omega
theorem flatMap_at {α β : Type} (f : α → List β) (m : Nat) (hf : ∀ x, (f x).length = m) : ∀ (xs : List α) (i j : Nat), j < m → (xs.flatMap f)[i * m + j]? = (xs[i]?).bind fun x => (f x)[j]?
  | [], i, j, _ => by simp
  | x :: xs, 0, j, h => by
    rw [List.flatMap_cons, List.getElem?_append_left (by rw [hf]; omega)]
    simp
  | x :: xs, i + 1, j, h => by
    rw [List.flatMap_cons, List.getElem?_append_right (by rw [hf, Nat.succ_mul]; omega), hf]
    have : (i + 1) * m + j - m = i * m + j := by rw [Nat.succ_mul]; omega
    rw [this, flatMap_at f m hf xs i j h]
    simp
theorem flatMap_set {α β : Type} (f : α → List β) (m : Nat) (hf : ∀ x, (f x).length = m) : ∀ (xs : List α) (i j : Nat) (x y : α) (v : β), xs[i]? = some x → j < m → f y = (f x).set j v →
    (xs.set i y).flatMap f = (xs.flatMap f).set (i * m + j) v
  | [], i, j, x, y, v, h, _, _ => by simp at h
  | z :: xs, 0, j, x, y, v, h, hj, hy => by
    simp only [List.getElem?_cons_zero, Option.some.injEq] at h
    subst h
    simp only [List.set_cons_zero, List.flatMap_cons, Nat.zero_mul, Nat.zero_add]
    rw [List.set_append_left _ _ (by rw [hf]; omega), hy]
  | z :: xs, i + 1, j, x, y, v, h, hj, hy => by
    simp only [List.getElem?_cons_succ] at h
    simp only [List.set_cons_succ, List.flatMap_cons]
    rw [List.set_append_right _ _ (by rw [hf, Nat.succ_mul]; omega), hf, flatMap_set f m hf xs i j x y v h hj hy]
    congr 2
    rw [Nat.succ_mul]; omega

theorem tupSc_len : ∀ (fs : List Fk) (t : Tup fs), (tupSc fs t).length = fs.length
  | [], _ => rfl
  | f :: fs, t => by simp [tupSc, tupSc_len fs t.2]
theorem tupAt_spec : ∀ (fs : List Fk) (t : Tup fs) (f : Nat) (v : Sc), tupAt fs t f = some v → f < fs.length ∧ (tupSc fs t)[f]? = some v
  | [], _, _, _, h => by simp [tupAt] at h
  | g :: fs, t, 0, v, h => by simp [tupAt] at h; subst h; simp [tupSc]
  | g :: fs, t, f + 1, v, h => by
    simp only [tupAt] at h
    obtain ⟨a, b⟩ := tupAt_spec fs t.2 f v h
    exact ⟨by simp; omega, by simpa [tupSc] using b⟩
theorem tupSet_spec : ∀ (fs : List Fk) (t u : Tup fs) (f : Nat) (v : Sc), tupSet fs t f v = some u → f < fs.length ∧ tupSc fs u = (tupSc fs t).set f v
  | [], _, _, _, _, h => by simp [tupSet] at h
  | .int k :: fs, t, u, 0, v, h => by
    cases v <;> simp [tupSet] at h
    obtain ⟨rfl, rfl⟩ := h
    simp [tupSc, elSc]
  | .str :: fs, t, u, 0, v, h => by
    cases v <;> simp [tupSet] at h
    subst h
    simp [tupSc, elSc]
  | .bool :: fs, t, u, 0, v, h => by
    cases v <;> simp [tupSet] at h
    subst h
    simp [tupSc, elSc]
  | g :: fs, t, u, f + 1, v, h => by
    have h' : (match tupSet fs t.2 f v with
      | some u => some ((t.1, u) : Tup (g :: fs))
      | none => none) = some u := by cases g <;> exact h
    cases hs : tupSet fs t.2 f v with
    | none => rw [hs] at h'; cases h'
    | some z =>
      rw [hs] at h'
      cases h'
      obtain ⟨a, b⟩ := tupSet_spec fs t.2 z f v hs
      exact ⟨by simp; omega, by simp [tupSc, b]⟩
theorem tupOf_spec : ∀ (fs : List Fk) (l : List Sc) (u : Tup fs), tupOf fs l = some u → tupSc fs u = l
  | [], [], u, h => rfl
  | [], _ :: _, u, h => by simp [tupOf] at h
  | .int k :: fs, [], u, h => by simp [tupOf] at h
  | .str :: fs, [], u, h => by simp [tupOf] at h
  | .bool :: fs, [], u, h => by simp [tupOf] at h
  | .int k :: fs, v :: l, u, h => by
    cases v <;> simp [tupOf] at h
    obtain ⟨rfl, h⟩ := h
    cases hs : tupOf fs l with
    | none => rw [hs] at h; simp at h
    | some z => rw [hs] at h; simp at h; subst h; simp [tupSc, elSc, tupOf_spec fs l z hs]
  | .str :: fs, v :: l, u, h => by
    cases v <;> simp [tupOf] at h
    cases hs : tupOf fs l with
    | none => rw [hs] at h; simp at h
    | some z => rw [hs] at h; simp at h; subst h; simp [tupSc, elSc, tupOf_spec fs l z hs]
  | .bool :: fs, v :: l, u, h => by
    cases v <;> simp [tupOf] at h
    cases hs : tupOf fs l with
    | none => rw [hs] at h; simp at h
    | some z => rw [hs] at h; simp at h; subst h; simp [tupSc, elSc, tupOf_spec fs l z hs]

theorem Seg.flat_len {g : Seg} (h : g.wf) : g.flat.length = g.size := by
  cases g <;> simp only [Seg.wf, Seg.flat, Seg.size] at h ⊢
  case one => rfl
  case ints => simp [h]
  case bytes => simp [h]
  case strs => simp [h]
  case recs fs xs n => rw [flatMap_len _ fs.length (tupSc_len fs), h]
theorem flats_cons (s : Seg) (g : Segs) : flats (s :: g) = s.flat ++ flats g := by simp [flats]
theorem flats_append (a b : Segs) : flats (a ++ b) = flats a ++ flats b := by simp [flats]
theorem flats_one (s : Seg) : flats [s] = s.flat := by simp [flats]
theorem wfs_append {a b : Segs} : wfs (a ++ b) ↔ wfs a ∧ wfs b := by
  unfold wfs; constructor
  · intro h; exact ⟨fun s hs => h s (by simp [hs]), fun s hs => h s (by simp [hs])⟩
  · intro ⟨h1, h2⟩ s hs
    rcases List.mem_append.1 hs with h | h
    · exact h1 s h
    · exact h2 s h
theorem wfs_cons {s : Seg} {g : Segs} : wfs (s :: g) ↔ s.wf ∧ wfs g := by
  unfold wfs; simp
theorem flats_len {g : Segs} (h : wfs g) : (flats g).length = sizeS g := by
  induction g with
  | nil => rfl
  | cons s g ih => rw [flats_cons, List.length_append, Seg.flat_len (wfs_cons.1 h).1, ih (wfs_cons.1 h).2]; rfl

theorem locate_spec : ∀ (g : Segs) (b : Nat) (x : Segs) (r : Seg) (z : Segs), locate g b = some (x, r, z) → g = x ++ r :: z ∧ sizeS x = b
  | [], b, x, r, z, h => by simp [locate] at h
  | s :: g, b, x, r, z, h => by
    simp only [locate] at h
    split at h
    · rename_i hb
      simp only [Option.some.injEq, Prod.mk.injEq] at h
      obtain ⟨rfl, rfl, rfl⟩ := h
      exact ⟨rfl, by simp [Nat.beq_eq] at hb; simp [sizeS]; exact hb.symm⟩
    · split at h
      · rename_i hle
        split at h
        · rename_i x' y' z' hl
          simp only [Option.some.injEq, Prod.mk.injEq] at h
          obtain ⟨rfl, rfl, rfl⟩ := h
          obtain ⟨e, hs⟩ := locate_spec g _ _ _ _ hl
          have := Nat.le_of_ble_eq_true hle
          exact ⟨by rw [e]; rfl, by simp only [sizeS, hs]; omega⟩
        · cases h
      · cases h
theorem takeS_spec : ∀ (g : Segs) (n : Nat) (x z : Segs), takeS g n = some (x, z) → g = x ++ z ∧ sizeS x = n
  | g, 0, x, z, h => by simp [takeS] at h; obtain ⟨rfl, rfl⟩ := h; exact ⟨rfl, rfl⟩
  | [], n + 1, x, z, h => by simp [takeS] at h
  | s :: g, n + 1, x, z, h => by
    simp only [takeS] at h
    split at h
    · rename_i hle
      split at h
      · rename_i x' y' ht
        simp only [Option.some.injEq, Prod.mk.injEq] at h
        obtain ⟨rfl, rfl⟩ := h
        obtain ⟨e, hs⟩ := takeS_spec g _ _ _ ht
        have := Nat.le_of_ble_eq_true hle
        exact ⟨by rw [e]; rfl, by simp only [sizeS, hs]; omega⟩
      · cases h
    · cases h
theorem splitS_spec : ∀ (g : Segs) (n : Nat) (x z : Segs), splitS g n = some (x, z) → g = x ++ z ∧ sizeS x = n
  | g, 0, x, z, h => by simp [splitS] at h; obtain ⟨rfl, rfl⟩ := h; exact ⟨rfl, rfl⟩
  | [], n + 1, x, z, h => by simp [splitS] at h
  | s :: g, n + 1, x, z, h => by
    simp only [splitS] at h
    split at h
    · rename_i hle
      split at h
      · rename_i x' y' ht
        simp only [Option.some.injEq, Prod.mk.injEq] at h
        obtain ⟨rfl, rfl⟩ := h
        obtain ⟨e, hs⟩ := splitS_spec g _ _ _ ht
        have := Nat.le_of_ble_eq_true hle
        exact ⟨by rw [e]; rfl, by simp only [sizeS, hs]; omega⟩
      · cases h
    · cases h

theorem beq_of {a b : Nat} (h : Nat.beq a b = true) : a = b := Nat.eq_of_beq_eq_true h

/-- What an element's cell is. -/
theorem elem_spec {g : Seg} (hw : g.wf) {ix w f : Nat} {v : Sc} (h : g.elem ix w f = some v) :
    (g.isOne = true ∧ ix * w + f = 0 ∧ g.flat = [v]) ∨ (g.isOne = false ∧ f < w ∧ w = g.width ∧ (ix < g.cnt → g.flat[ix * w + f]? = some v)) := by
  cases g <;> simp only [Seg.elem, Seg.wf] at h hw
  case one u =>
    split at h
    · rename_i h1 h2
      split at h
      · rename_i h3
        cases h
        left
        have := beq_of h1; have := beq_of h2; have := beq_of h3
        subst_vars
        exact ⟨rfl, rfl, rfl⟩
      · cases h
    · cases h
  case ints k xs n =>
    split at h
    · rename_i h1 h2
      cases h
      right
      have := beq_of h1; have := beq_of h2
      subst_vars
      refine ⟨rfl, by omega, rfl, fun hi => ?_⟩
      simp only [Seg.cnt] at hi
      simp [Seg.flat, hi, List.getD, List.getElem?_eq_getElem hi]
    · cases h
  case bytes xs n =>
    split at h
    · rename_i h1 h2
      cases h
      right
      have := beq_of h1; have := beq_of h2
      subst_vars
      refine ⟨rfl, by omega, rfl, fun hi => ?_⟩
      simp only [Seg.cnt] at hi
      simp [Seg.flat, hi, List.getD, List.getElem?_eq_getElem hi]
    · cases h
  case strs xs n =>
    split at h
    · rename_i h1 h2
      cases h
      right
      have := beq_of h1; have := beq_of h2
      subst_vars
      refine ⟨rfl, by omega, rfl, fun hi => ?_⟩
      simp only [Seg.cnt] at hi
      simp [Seg.flat, hi, List.getD, List.getElem?_eq_getElem hi]
    · cases h
  case recs fs xs n =>
    split at h
    · rename_i h1
      right
      have := beq_of h1
      subst this
      subst hw
      obtain ⟨a, b⟩ := tupAt_spec _ _ _ _ h
      refine ⟨rfl, a, rfl, fun hi => ?_⟩
      simp only [Seg.cnt] at hi
      simp only [Seg.flat]
      rw [flatMap_at _ fs.length (tupSc_len fs) _ _ _ a, List.getElem?_eq_getElem hi]
      simpa [List.getD, List.getElem?_eq_getElem hi] using b
    · cases h

theorem fits_u8 {x : Int} (h : fits .u8 x) : 0 ≤ x ∧ x ≤ 255 := by
  simp [fits, IntKind.min, IntKind.max, IntKind.signed, IntKind.bits] at h; omega
theorem u8_back {x : Int} (h : fits .u8 x) : ((UInt8.ofNat x.toNat).toNat : Int) = x := by
  obtain ⟨a, b⟩ := fits_u8 h
  simp [UInt8.toNat_ofNat]
  omega

/-- A value that is a number of its kind. -/
def Sc.fine : Sc → Prop
  | .int k n => fits k n
  | _ => True
theorem srel_fine {ι : Map} {s : Sc} {v : Value} (h : srel ι s v) : s.fine := by
  cases s <;> simp only [Sc.fine]
  exact h.2
theorem setElem_spec {g g' : Seg} (hw : g.wf) {ix w f : Nat} {v : Sc} (hv : v.fine) (h : g.setElem ix w f v = some g') :
    g'.wf ∧ g'.isOne = g.isOne ∧ g'.size = g.size ∧ g'.cnt = g.cnt ∧ g'.width = g.width ∧
    ((g.isOne = true ∧ ix * w + f = 0 ∧ g'.flat = [v]) ∨ (g.isOne = false ∧ f < w ∧ w = g.width ∧ (ix < g.cnt → g'.flat = g.flat.set (ix * w + f) v))) := by
  cases g <;> simp only [Seg.setElem, Seg.wf] at h hw
  case one u =>
    split at h
    · rename_i h1 h2
      split at h
      · rename_i h3
        cases h
        have := beq_of h1; have := beq_of h2; have := beq_of h3
        subst_vars
        exact ⟨trivial, rfl, rfl, rfl, rfl, .inl ⟨rfl, rfl, rfl⟩⟩
      · cases h
    · cases h
  case ints k xs n =>
    split at h
    · rename_i k' x h1 h2
      split at h
      · rename_i hk
        cases h
        have := beq_of h1; have := beq_of h2
        subst_vars
        refine ⟨by simp [Seg.wf], rfl, rfl, rfl, rfl, .inr ⟨rfl, by omega, rfl, fun hi => ?_⟩⟩
        simp [Seg.flat, List.map_set]
      · cases h
    · cases h
  case bytes xs n =>
    split at h
    · rename_i x h1 h2
      cases h
      have := beq_of h1; have := beq_of h2
      subst_vars
      refine ⟨by simp [Seg.wf], rfl, rfl, rfl, rfl, .inr ⟨rfl, by omega, rfl, fun hi => ?_⟩⟩
      simp only [Seg.flat, List.map_set, Nat.mul_one, Nat.add_zero]
      rw [u8_back hv]
    · cases h
  case strs xs n =>
    split at h
    · rename_i x h1 h2
      cases h
      have := beq_of h1; have := beq_of h2
      subst_vars
      refine ⟨by simp [Seg.wf], rfl, rfl, rfl, rfl, .inr ⟨rfl, by omega, rfl, fun hi => ?_⟩⟩
      simp [Seg.flat, List.map_set]
    · cases h
  case recs fs xs n =>
    split at h
    · rename_i h1
      have := beq_of h1
      subst this
      subst hw
      split at h
      · rename_i u hu
        cases h
        obtain ⟨a, b⟩ := tupSet_spec _ _ _ _ _ hu
        refine ⟨by simp [Seg.wf], rfl, rfl, rfl, rfl, .inr ⟨rfl, a, rfl, fun hi => ?_⟩⟩
        simp only [Seg.cnt] at hi
        simp only [Seg.flat]
        refine flatMap_set _ fs.length (tupSc_len fs) _ _ _ xs[ix] _ _ (List.getElem?_eq_getElem hi) a ?_
        rw [b]
        simp [List.getD, List.getElem?_eq_getElem hi]
      · cases h
    · cases h
theorem cnt_of_lt {g : Seg} (hw : g.wf) (h1 : g.isOne = false) {ix f : Nat} (hf : f < g.width) (h : ix * g.width + f < g.size) : ix < g.cnt := by
  cases g <;> simp only [Seg.isOne, Seg.width, Seg.size, Seg.cnt] at *
  case one => cases h1
  case ints => omega
  case bytes => omega
  case strs => omega
  case recs fs xs n =>
    rcases Nat.lt_or_ge ix n with hlt | hge
    · exact hlt
    · exfalso
      have := Nat.mul_le_mul_right fs.length hge
      omega

theorem lt_of_cnt {g : Seg} (h1 : g.isOne = false) {ix f : Nat} (hf : f < g.width) (h : ix < g.cnt) : ix * g.width + f < g.size := by
  cases g <;> simp only [Seg.isOne, Seg.width, Seg.size, Seg.cnt] at *
  case one => cases h1
  case ints => omega
  case bytes => omega
  case strs => omega
  case recs fs xs n =>
    have := Nat.mul_le_mul_right fs.length (Nat.succ_le_of_lt h)
    rw [Nat.succ_mul] at this
    omega
theorem mid_at {a b c : List Sc} {i : Nat} (h : i < b.length) : (a ++ (b ++ c))[a.length + i]? = b[i]? := by
  rw [List.getElem?_append_right (by omega), Nat.add_sub_cancel_left, List.getElem?_append_left h]
theorem mid_set {a b c : List Sc} {i : Nat} {v : Sc} (h : i < b.length) : (a ++ (b ++ c)).set (a.length + i) v = a ++ (b.set i v ++ c) := by
  rw [List.set_append_right _ _ (by omega), Nat.add_sub_cancel_left, List.set_append_left _ _ h]

theorem ldSc_spec {R : Type} {g : Segs} (hw : wfs g) {base ix w f : Nat} {K : Sc → Option R} {r : R} (hlt : base + ix * w + f < (flats g).length) (h : ldSc g base ix w f K = some r) :
    ∃ v, (flats g)[base + ix * w + f]? = some v ∧ K v = some r := by
  have gen : ∀ (x : Segs) (s : Seg) (z : Segs) (v : Sc), locate g base = some (x, s, z) → s.elem ix w f = some v → (s.isOne = false → ix < s.cnt) → (flats g)[base + ix * w + f]? = some v := by
    intro x s z v hl he hc
    obtain ⟨e, hs⟩ := locate_spec _ _ _ _ _ hl
    subst e
    obtain ⟨wx, ws⟩ := wfs_append.1 hw
    obtain ⟨ws, wz⟩ := wfs_cons.1 ws
    have hx := flats_len wx
    rw [flats_append, flats_cons]
    have e1 : base + ix * w + f = (flats x).length + (ix * w + f) := by omega
    rw [e1]
    rcases elem_spec ws he with ⟨h1, h2, h3⟩ | ⟨h1, h2, h3, h4⟩
    · rw [mid_at (by rw [h3, h2]; simp), h3, h2]; rfl
    · have h5 := h4 (hc h1)
      rw [mid_at ?_, h5]
      rcases Nat.lt_or_ge (ix * w + f) s.flat.length with hh | hh
      · exact hh
      · rw [List.getElem?_eq_none hh] at h5; cases h5
  unfold ldSc at h
  split at h
  · rename_i s hl
    split at h
    · rename_i v he
      refine ⟨v, gen _ _ _ _ hl he (fun h1 => ?_), h⟩
      obtain ⟨e, hs⟩ := locate_spec _ _ _ _ _ hl
      subst e
      simp only [sizeS] at hs
      simp only [List.nil_append] at hlt hw
      rw [flats_one, Seg.flat_len (wfs_cons.1 hw).1] at hlt
      rcases elem_spec (wfs_cons.1 hw).1 he with ⟨h2, _⟩ | ⟨_, h3, h4, _⟩
      · rw [h1] at h2; cases h2
      · subst h4
        exact cnt_of_lt (wfs_cons.1 hw).1 h1 h3 (by omega)
    · cases h
  · rename_i x s z hl
    split at h
    · rename_i v he
      split at h
      · rename_i h1
        exact ⟨v, gen _ _ _ _ hl he (fun h2 => by rw [h1] at h2; cases h2), h⟩
      · unfold gd at h
        split at h
        · rename_i hb
          exact ⟨v, gen _ _ _ _ hl he (fun _ => by simpa [Nat.blt_eq] using hb), h⟩
        · cases h
    · cases h
  · cases h

theorem stSc_spec {R : Type} {g : Segs} (hw : wfs g) {base ix w f : Nat} {v : Sc} (hv : v.fine) {K : Segs → Option R} {r : R} (hlt : base + ix * w + f < (flats g).length) (h : stSc g base ix w f v K = some r) :
    ∃ g', wfs g' ∧ flats g' = (flats g).set (base + ix * w + f) v ∧ K g' = some r := by
  have gen : ∀ (x : Segs) (s s' : Seg) (z : Segs), locate g base = some (x, s, z) → s.setElem ix w f v = some s' → (s.isOne = false → ix < s.cnt) →
      wfs (x ++ s' :: z) ∧ flats (x ++ s' :: z) = (flats g).set (base + ix * w + f) v := by
    intro x s s' z hl he hc
    obtain ⟨e, hs⟩ := locate_spec _ _ _ _ _ hl
    subst e
    obtain ⟨wx, ws⟩ := wfs_append.1 hw
    obtain ⟨ws, wz⟩ := wfs_cons.1 ws
    have hx := flats_len wx
    obtain ⟨h0, h1, h2, h3, h4, h5⟩ := setElem_spec ws hv he
    refine ⟨wfs_append.2 ⟨wx, wfs_cons.2 ⟨h0, wz⟩⟩, ?_⟩
    simp only [flats_append, flats_cons]
    have e1 : base + ix * w + f = (flats x).length + (ix * w + f) := by omega
    rw [e1]
    rcases h5 with ⟨a, b, c⟩ | ⟨a, b, c, d⟩
    · have hl1 : s.flat.length = 1 := by rw [Seg.flat_len ws]; cases s <;> simp [Seg.isOne] at a; rfl
      rw [mid_set (by omega), b, c]
      congr 1
      match hq : s.flat, hl1 with
      | [q], _ => rfl
    · have hi := hc a
      rw [mid_set ?_, d hi]
      rw [Seg.flat_len ws]
      subst c
      exact lt_of_cnt a b hi
  unfold stSc at h
  split at h
  · rename_i s hl
    split at h
    · rename_i s' he
      obtain ⟨a, b⟩ := gen _ _ _ _ hl he (fun h1 => by
        obtain ⟨e, hs⟩ := locate_spec _ _ _ _ _ hl
        subst e
        simp only [sizeS] at hs
        simp only [List.nil_append] at hlt hw
        rw [flats_one, Seg.flat_len (wfs_cons.1 hw).1] at hlt
        obtain ⟨_, _, _, _, _, h5⟩ := setElem_spec (wfs_cons.1 hw).1 hv he
        rcases h5 with ⟨h2, _⟩ | ⟨_, h3, h4, _⟩
        · rw [h1] at h2; cases h2
        · subst h4
          exact cnt_of_lt (wfs_cons.1 hw).1 h1 h3 (by omega))
      exact ⟨_, a, b, h⟩
    · cases h
  · rename_i x s z hl
    split at h
    · rename_i s' he
      split at h
      · rename_i h1
        obtain ⟨a, b⟩ := gen _ _ _ _ hl he (fun h2 => by rw [h1] at h2; cases h2)
        exact ⟨_, a, b, h⟩
      · unfold gd at h
        split at h
        · rename_i hb
          obtain ⟨a, b⟩ := gen _ _ _ _ hl he (fun _ => by simpa [Nat.blt_eq] using hb)
          exact ⟨_, a, b, h⟩
        · cases h
    · cases h
  · cases h
end Go.Ev

namespace Go.Ev

def litSc : Sc → Option Lit
  | .bool b => some (.bool b)
  | .int k n => some (.int k n)
  | .str s => some (.string s)
  | _ => none
def kindL : Lit → Option Fk
  | .bool _ => some .bool
  | .int k _ => some (.int k)
  | .string _ => some .str
  | _ => none
theorem kindSc_lit {s : Sc} {k : Fk} (h : kindSc s = some k) : ∃ l, litSc s = some l ∧ kindL l = some k := by
  cases s <;> simp only [kindSc] at h <;> cases h
  · exact ⟨_, rfl, rfl⟩
  · exact ⟨_, rfl, rfl⟩
  · exact ⟨_, rfl, rfl⟩
/-- A value of one cell, and the literal that it is. -/
def LitV (l : Lit) (v : Value) : Prop := match l with
  | .bool b => v = .bool b
  | .int k n => v = .int k n ∧ (Lit.int k n).wf = true
  | .string s => v = .string ⟨s.toArray⟩ ∧ s.length ≤ maxLen
  | _ => False
theorem litV_of {ι : Map} {s : Sc} {v : Value} {l : Lit} (h : srel ι s v) (hl : litSc s = some l) : LitV l v := by
  cases s <;> simp only [litSc] at hl <;> cases hl
  · exact h
  · obtain ⟨rfl, h2⟩ := h
    exact ⟨rfl, by simpa [Lit.wf, fits] using h2⟩
  · exact h
theorem kindsSeg_spec {g : Seg} {ks : List Fk} (hw : g.wf) (h : kindsSeg g = some ks) : All2 (fun s k => kindSc s = some k) g.flat ks := by
  have rep : ∀ {α : Type} (f : α → Sc) (k : Fk), (∀ x, kindSc (f x) = some k) → ∀ (xs : List α), All2 (fun s k => kindSc s = some k) (xs.map f) (List.replicate xs.length k) := by
    intro α f k hf xs
    induction xs with
    | nil => exact .nil
    | cons x xs ih => exact .cons (hf x) ih
  cases g with
  | one v =>
    simp only [kindsSeg] at h
    cases hk : kindSc v with
    | none => rw [hk] at h; cases h
    | some k => rw [hk] at h; cases h; exact .cons hk .nil
  | ints k xs n =>
    simp only [kindsSeg] at h
    cases h
    have : xs.length = n := hw
    subst this
    exact rep (fun x => Sc.int k x) _ (fun _ => rfl) xs
  | bytes xs n =>
    simp only [kindsSeg] at h
    cases h
    have : xs.length = n := hw
    subst this
    exact rep (fun b : UInt8 => Sc.int .u8 (b.toNat : Int)) _ (fun _ => rfl) xs
  | strs xs n =>
    simp only [kindsSeg] at h
    cases h
    have : xs.length = n := hw
    subst this
    exact rep (fun x => Sc.str x) _ (fun _ => rfl) xs
  | recs fs xs n => simp only [kindsSeg] at h; cases h
theorem all2_appQ {α β : Type} {R : α → β → Prop} {l l' : List α} {m m' : List β} (h : All2 R l m) (h' : All2 R l' m') : All2 R (l ++ l') (m ++ m') := by
  induction h with
  | nil => exact h'
  | cons a _ ih => exact .cons a ih
theorem kindsS_spec : ∀ {g : Segs} {ks : List Fk}, wfs g → kindsS g = some ks → All2 (fun s k => kindSc s = some k) (flats g) ks
  | [], ks, _, h => by cases h; exact .nil
  | a :: g, ks, hw, h => by
    simp only [kindsS] at h
    split at h
    · rename_i x y hx hy
      cases h
      show All2 _ (a.flat ++ flats g) (x ++ y)
      exact all2_appQ (kindsSeg_spec (hw a (by simp)) hx) (kindsS_spec (fun s hs => hw s (by simp [hs])) hy)
    · cases h
/-- The literals of cells of known kinds. -/
theorem lits_of {ι : Map} : ∀ {ss : List Sc} {ks : List Fk} {vs : List Value}, All2 (fun s k => kindSc s = some k) ss ks → krel ι ss vs → ∃ ls, ss.map litSc = ls.map some ∧ All2 (fun k l => kindL l = some k) ks ls ∧ All2 LitV ls vs
  | [], _, _, h, hk => by cases h; cases hk; exact ⟨[], rfl, .nil, .nil⟩
  | s :: ss, _, _, h, hk => by
    cases h with
    | cons h1 h2 =>
      cases hk with
      | cons k1 k2 =>
        obtain ⟨ls, a, b, c⟩ := lits_of h2 k2
        obtain ⟨l, l1, l2⟩ := kindSc_lit h1
        exact ⟨l :: ls, by simp [l1, a], .cons l2 b, .cons (litV_of k1.1 l1) c⟩
theorem all2_lenQ {α β : Type} {R : α → β → Prop} {l : List α} {m : List β} (h : All2 R l m) : l.length = m.length := by
  induction h with
  | nil => rfl
  | cons _ _ ih => simp [ih]
theorem all2_dropQ {α β : Type} {R : α → β → Prop} {l : List α} {m : List β} (h : All2 R l m) : ∀ n, All2 R (l.drop n) (m.drop n) := by
  induction h with
  | nil => intro n; simp; exact .nil
  | cons a h ih =>
    intro n
    cases n with
    | zero => exact .cons a h
    | succ n => exact ih n
theorem all2_takeQ {α β : Type} {R : α → β → Prop} {l : List α} {m : List β} (h : All2 R l m) : ∀ n, All2 R (l.take n) (m.take n) := by
  induction h with
  | nil => intro n; simp; exact .nil
  | cons a h ih =>
    intro n
    cases n with
    | zero => exact .nil
    | succ n => exact .cons a (ih n)
theorem beqK_eq' {j k : IntKind} (h : beqK j k = true) : j = k := by cases j <;> cases k <;> first | rfl | cases h
theorem chunksQ {α : Type} (w : Nat) : ∀ (n : Nat) (l : List α), l.length = n * w → ((List.range n).map fun i => (l.drop (i * w)).take w).flatten = l
  | 0, l, h => by
    have : l = [] := List.eq_nil_of_length_eq_zero (by omega)
    subst this; rfl
  | n + 1, l, h => by
    rw [List.range_succ_eq_map, List.map_cons, List.map_map, List.flatten_cons]
    have e : ((fun i => (l.drop (i * w)).take w) ∘ Nat.succ) = fun i => ((l.drop w).drop (i * w)).take w := by
      funext i
      simp only [Function.comp, List.drop_drop]
      congr 2
      rw [Nat.succ_mul, Nat.add_comm]
    rw [e, chunksQ w n (l.drop w) (by rw [List.length_drop, h, Nat.succ_mul]; omega)]
    simp
theorem mapM_allQ {α β : Type} {f : α → Option β} {g : α → β} : ∀ {l : List α}, (∀ a ∈ l, f a = some (g a)) → l.mapM f = some (l.map g)
  | [], _ => rfl
  | a :: l, h => by
    rw [List.mapM_cons, h a (by simp), mapM_allQ (fun b hb => h b (by simp [hb]))]
    rfl
/-- Fields that lie one behind the other. -/
theorem fields_flat {α : Type} {P : Program} : ∀ {fs : List Field} {o : Nat} {l : List α}, seqB P fs o = true → o + sumB P fs = l.length → (fs.map fun f => (l.drop f.offset).take (P.cellsOf f.type)).flatten = l.drop o
  | [], o, l, h, hl => by
    simp only [sumB, Nat.add_zero] at hl
    simp [hl]
  | f :: fs, o, l, h, hl => by
    simp only [seqB, Bool.and_eq_true] at h
    obtain ⟨h1, h2⟩ := h
    have h1 := beq_of h1
    simp only [sumB] at hl
    rw [List.map_cons, List.flatten_cons, fields_flat h2 (by omega), h1, ← List.drop_drop]
    exact List.take_append_drop _ _
theorem kindsOK_spec {P : Program} : ∀ {D : Nat} {t : TypeId} {ks : List Fk} {ls : List Lit} {vs : List Value}, kindsOK P D t ks = true → All2 (fun k l => kindL l = some k) ks ls → All2 LitV ls vs → P.keyLits D t vs = some ls
  | 0, t, ks, ls, vs, h, _, _ => by cases h
  | D + 1, t, ks, ls, vs, h, hk, hv => by
    unfold kindsOK at h
    split at h
    · rename_i hu
      cases hk with
      | cons k1 k2 =>
        cases k2
        cases hv with
        | cons v1 v2 =>
          cases v2
          rename_i l v
          cases l <;> simp only [kindL] at k1 <;> cases k1
          have : v = _ := v1
          subst this
          simp [Program.keyLits, hu]
    · rename_i q q' hu
      have := beqK_eq' h; subst this
      cases hk with
      | cons k1 k2 =>
        cases k2
        cases hv with
        | cons v1 v2 =>
          cases v2
          rename_i l v
          cases l <;> simp only [kindL] at k1 <;> cases k1
          obtain ⟨rfl, hw⟩ := v1
          simp [Program.keyLits, hu, hw]
    · rename_i hu
      cases hk with
      | cons k1 k2 =>
        cases k2
        cases hv with
        | cons v1 v2 =>
          cases v2
          rename_i l v
          cases l <;> simp only [kindL] at k1 <;> cases k1
          obtain ⟨rfl, hw⟩ := v1
          have : (⟨Array.mk _⟩ : ByteArray).size ≤ maxLen := hw
          simp [Program.keyLits, hu]
          simpa using this
    · rename_i ks' n e hu
      simp only [Bool.and_eq_true] at h
      obtain ⟨⟨h1, h2⟩, h3⟩ := h
      have h1 := beq_of h1
      have h2 := beq_of h2
      have hl1 := all2_lenQ hk
      have hl2 := all2_lenQ hv
      unfold Program.keyLits
      simp only [hu]
      rw [if_pos (by omega)]
      have hall : ∀ i ∈ List.range n, P.keyLits D e ((vs.drop (i * P.cellsOf e)).take (P.cellsOf e)) = some ((ls.drop (i * P.cellsOf e)).take (P.cellsOf e)) := by
        intro i hi
        have := List.all_eq_true.1 h3 i (by simpa using hi)
        exact kindsOK_spec this (all2_takeQ (all2_dropQ hk _) _) (all2_takeQ (all2_dropQ hv _) _)
      rw [mapM_allQ hall, Option.map_some, chunksQ (P.cellsOf e) n ls (by omega)]
    · rename_i ks' fs hu
      simp only [Bool.and_eq_true] at h
      obtain ⟨⟨⟨⟨h1, h2⟩, h3⟩, h4⟩, h5⟩ := h
      have h1 := beq_of h1
      have h5 := beq_of h5
      have hl1 := all2_lenQ hk
      have hl2 := all2_lenQ hv
      unfold Program.keyLits
      simp only [hu]
      rw [if_pos ⟨by omega, h2⟩]
      have hall : ∀ f ∈ fs.toList, P.keyLits D f.type ((vs.drop f.offset).take (P.cellsOf f.type)) = some ((ls.drop f.offset).take (P.cellsOf f.type)) := by
        intro f hf
        have := List.all_eq_true.1 h3 f hf
        exact kindsOK_spec this (all2_takeQ (all2_dropQ hk _) _) (all2_takeQ (all2_dropQ hv _) _)
      rw [mapM_allQ hall, Option.map_some, fields_flat h4 (by omega)]
      rfl
    · cases h

/-! ### What the evaluator says of equality -/
theorem eqSeg_spec {a b : Seg} {r : Bool} (ha : a.wf) (hb : b.wf) (h : eqSeg a b = some r) : a.flat.length = b.flat.length ∧ (r = true ↔ a.flat = b.flat) := by
  cases a with
  | one v =>
    cases b with
    | one u =>
      cases v with
      | int j x =>
        cases u with
        | int k y =>
          simp only [eqSeg] at h
          split at h
          · rename_i hk
            cases h
            have := beqK_eq' hk; subst this
            exact ⟨rfl, by simp [Seg.flat, eqI]⟩
          · cases h
        | _ => cases h
      | str x =>
        cases u with
        | str y => simp only [eqSeg] at h; cases h; exact ⟨rfl, by simp [Seg.flat, eqS]⟩
        | _ => cases h
      | bool x =>
        cases u with
        | bool y => simp only [eqSeg] at h; cases h; exact ⟨rfl, by simp [Seg.flat]⟩
        | _ => cases h
      | _ => cases u <;> cases h
    | _ => cases v <;> cases h
  | ints j xs n =>
    cases b with
    | ints k ys m =>
      simp only [eqSeg] at h
      split at h
      · rename_i hk hn
        cases h
        have := beqK_eq' hk; subst this
        have e := beq_of hn
        have e1 : xs.length = n := ha
        have e2 : ys.length = m := hb
        refine ⟨by simp [Seg.flat]; omega, ?_⟩
        simp only [Seg.flat, eqL, decide_eq_true_eq]
        exact ⟨fun e => by rw [e], fun e => (List.map_inj_right (fun x y h => by cases h; rfl)).1 e⟩
      · cases h
    | _ => cases h
  | bytes xs n =>
    cases b with
    | bytes ys m =>
      simp only [eqSeg] at h
      split at h
      · rename_i hn
        cases h
        have e := beq_of hn
        have e1 : xs.length = n := ha
        have e2 : ys.length = m := hb
        refine ⟨by simp [Seg.flat]; omega, ?_⟩
        simp only [Seg.flat, eqS, decide_eq_true_eq]
        refine ⟨fun e => by rw [e], fun e => (List.map_inj_right (fun x y h => ?_)).1 e⟩
        simp only [Sc.int.injEq, true_and] at h
        exact UInt8.toNat_inj.1 (by omega)
      · cases h
    | _ => cases h
  | strs xs n =>
    cases b with
    | strs ys m =>
      simp only [eqSeg] at h
      split at h
      · rename_i hn
        cases h
        have e := beq_of hn
        have e1 : xs.length = n := ha
        have e2 : ys.length = m := hb
        refine ⟨by simp [Seg.flat]; omega, ?_⟩
        simp only [Seg.flat, eqBs, decide_eq_true_eq]
        exact ⟨fun e => by rw [e], fun e => (List.map_inj_right (fun x y h => by cases h; rfl)).1 e⟩
      · cases h
    | _ => cases h
  | recs fs xs n => cases b <;> cases h
theorem eqSegs_spec : ∀ {a b : Segs} {r : Bool}, wfs a → wfs b → eqSegs a b = some r → (flats a).length = (flats b).length ∧ (r = true ↔ flats a = flats b)
  | [], [], r, _, _, h => by cases h; exact ⟨rfl, by simp⟩
  | [], b :: q, r, _, _, h => by cases h
  | a :: p, [], r, _, _, h => by unfold eqSegs at h; cases p <;> cases h
  | a :: p, b :: q, r, ha, hb, h => by
    have key : ∀ {x y : Bool}, eqSeg a b = some x → (flats p).length = (flats q).length ∧ (y = true ↔ flats p = flats q) → (flats (a :: p)).length = (flats (b :: q)).length ∧ ((x && y) = true ↔ flats (a :: p) = flats (b :: q)) := by
      intro x y hx hy
      obtain ⟨l1, i1⟩ := eqSeg_spec (ha a (by simp)) (hb b (by simp)) hx
      obtain ⟨l2, i2⟩ := hy
      have e1 : flats (a :: p) = a.flat ++ flats p := rfl
      have e2 : flats (b :: q) = b.flat ++ flats q := rfl
      rw [e1, e2]
      refine ⟨by simp [l1, l2], ?_⟩
      rw [Bool.and_eq_true, i1, i2]
      exact ⟨fun ⟨e, f⟩ => by rw [e, f], fun e => List.append_inj e l1⟩
    have htl : ∀ {y : Bool}, eqSegs p q = some y → (flats p).length = (flats q).length ∧ (y = true ↔ flats p = flats q) := fun hy => eqSegs_spec (fun s hs => ha s (by simp [hs])) (fun s hs => hb s (by simp [hs])) hy
    unfold eqSegs at h
    split at h
    · rename_i heq; cases heq
    · rename_i x y heq1 heq2
      cases heq1; cases heq2
      have := key (y := true) h ⟨rfl, by simp⟩
      rwa [Bool.and_true] at this
    · rename_i a' p' b' q' _ heq1 heq2
      cases heq1; cases heq2
      split at h
      · rename_i x y hx hy
        cases h
        exact key hx (htl hy)
      · cases h
    · cases h
theorem lits_inj : ∀ {xs ys : List Sc} {lx ly : List Lit}, xs.map litSc = lx.map some → ys.map litSc = ly.map some → (lx = ly ↔ xs = ys)
  | [], ys, lx, ly, hx, hy => by
    cases lx with
    | cons _ _ => cases hx
    | nil =>
      cases ys with
      | nil =>
        cases ly with
        | nil => simp
        | cons _ _ => cases hy
      | cons _ _ =>
        cases ly with
        | nil => cases hy
        | cons _ _ => simp
  | x :: xs, ys, lx, ly, hx, hy => by
    cases lx with
    | nil => cases hx
    | cons l lx =>
      cases ys with
      | nil =>
        cases ly with
        | nil => simp
        | cons _ _ => cases hy
      | cons y ys =>
        cases ly with
        | nil => cases hy
        | cons m ly =>
          simp only [List.map_cons, List.cons.injEq] at hx hy ⊢
          rw [lits_inj hx.2 hy.2]
          have : l = m ↔ x = y := by
            have h1 := hx.1
            have h2 := hy.1
            cases x <;> simp only [litSc] at h1 <;> cases h1 <;> cases y <;> simp only [litSc] at h2 <;> cases h2 <;> simp
          rw [this]
theorem eqAgg_sound {ι : Map} {P : Program} {t : TypeId} {a b : Segs} {r : Bool} {X Y : Value} (hX : crel ι (.agg a) X) (hY : crel ι (.agg b) Y) (hc : eqTyB P t a b = true) (h : eqSegs a b = some r) (w : World) (x y : Operand) :
    (∀ op, (eqGuard op t x y X Y).run P w = .ok () w) ∧ (Op.equalIn 10000 t X Y).run P w = .ok r w := by
  obtain ⟨wa, cs, rfl, ka⟩ := hX
  obtain ⟨wb, ds, rfl, kb⟩ := hY
  unfold eqTyB at hc
  simp only [Bool.and_eq_true, Bool.not_eq_true'] at hc
  obtain ⟨⟨h1, h2⟩, h3⟩ := hc
  refine ⟨fun op => run_eqGuard_agg w op t x y _ _ h2, ?_⟩
  split at h3
  · rename_i ks js hks hjs
    simp only [Bool.and_eq_true] at h3
    obtain ⟨⟨h4, h5⟩, h6⟩ := h3
    obtain ⟨la, a1, a2, a3⟩ := lits_of (kindsS_spec wa hks) ka
    obtain ⟨lb, b1, b2, b3⟩ := lits_of (kindsS_spec wb hjs) kb
    have e1 := kindsOK_spec h4 a2 a3
    have e2 := kindsOK_spec h5 b2 b3
    have hform : ∀ {cs : List Value} {l : List Lit}, P.keyLits 16 t cs = some l → (Value.agg cs.toArray).formed P t = true := by
      intro cs l hl
      unfold Value.formed
      unfold Program.keyLits at hl
      split at h6
      · rename_i hu
        simp only [hu] at hl ⊢
        split at hl
        · rename_i hlen
          simpa using hlen
        · cases hl
      · rename_i hu
        simp only [hu] at hl ⊢
        split at hl
        · rename_i hlen
          simpa using hlen.1
        · cases hl
      · cases h6
    have c1 : (Value.agg cs.toArray).cells.toList = cs := by simp [Value.cells]
    have c2 : (Value.agg ds.toArray).cells.toList = ds := by simp [Value.cells]
    obtain ⟨r', hr, hiff⟩ := run_equalIn_deep (P := P) 9984 16 t h1 w 16 16 (.agg cs.toArray) (.agg ds.toArray) la lb (hform e1) (hform e2) (by rw [c1]; exact e1) (by rw [c2]; exact e2)
    have : r' = r := by
      have i1 := (eqSegs_spec wa wb h).2
      have i2 := lits_inj a1 b1
      rw [Bool.eq_iff_iff, hiff, i1, i2]
    subst this
    exact hr
  · cases h3
end Go.Ev

namespace Go.Ev

theorem gd_some {R : Type} {b : Bool} {k : Option R} {r : R} (h : gd b k = some r) : b = true ∧ k = some r := by
  cases b <;> simp [gd] at h
  exact ⟨rfl, h⟩
theorem beqK_eq {j k : IntKind} (h : beqK j k = true) : j = k := by cases j <;> cases k <;> first | rfl | cases h
theorem fits_wrap (k : IntKind) (n : Int) : fits k (k.wrap n) := by
  cases k <;> simp [fits, IntKind.wrap, IntKind.min, IntKind.max, IntKind.signed, IntKind.bits] <;> (try split) <;> omega
theorem fitsB_fits {k : IntKind} {n : Int} (h : fitsB k n = true) : fits k n := by
  simpa [fitsB, fits] using h
theorem fits_zero_max (k : IntKind) : k.min ≤ 0 ∧ 0 ≤ k.max := by
  cases k <;> simp [IntKind.min, IntKind.max, IntKind.signed, IntKind.bits]
theorem fits_between {k : IntKind} {a c : Int} (h : fits k a) (h1 : 0 ≤ c → c ≤ max a 0) (h2 : c ≤ 0 → min a 0 ≤ c) : fits k c := by
  have hz := fits_zero_max k
  unfold fits at *
  constructor <;> omega
theorem tmod_le' {a b : Int} (h : 0 ≤ a) : a.tmod b ≤ a := by
  have h1 := Int.natAbs_tmod a b
  have h2 := Nat.mod_le a.natAbs b.natAbs
  have h3 := Int.tmod_nonneg (a := a) b h
  omega
theorem fits_tmod {k : IntKind} {a : Int} (b : Int) (h : fits k a) : fits k (a.tmod b) := by
  refine fits_between h ?_ ?_
  · intro _
    rcases Int.lt_or_le a 0 with ha | ha
    · have : a.tmod b ≤ 0 := by
        have := Int.tmod_nonneg (a := -a) b (by omega)
        rw [Int.neg_tmod] at this; omega
      omega
    · have := tmod_le' (a := a) (b := b) ha
      omega
  · intro _
    rcases Int.lt_or_le a 0 with ha | ha
    · have := tmod_le' (a := -a) (b := b) (by omega)
      rw [Int.neg_tmod] at this
      omega
    · have := Int.tmod_nonneg (a := a) b ha
      omega
theorem fits_shr {k : IntKind} {a : Int} (n : Nat) (h : fits k a) : fits k (a.fdiv (2 ^ n)) := by
  have hp : (0 : Int) < 2 ^ n := Int.pow_pos (by omega)
  rw [Int.fdiv_eq_ediv_of_nonneg _ (Int.le_of_lt hp)]
  refine fits_between h ?_ ?_
  · intro _
    rcases Int.lt_or_le a 0 with ha | ha
    · have := Int.ediv_neg_of_neg_of_pos ha hp
      omega
    · have := Int.ediv_le_self (a := a) (2 ^ n) ha
      omega
  · intro _
    rcases Int.lt_or_le a 0 with ha | ha
    · have h1 : a ≤ a / 2 ^ n := by
        rw [Int.le_ediv_iff_mul_le hp]
        have h3 : (1 : Int) ≤ 2 ^ n := hp
        have h4 : a * 2 ^ n ≤ a * 1 := Int.mul_le_mul_of_nonpos_left (by omega) h3
        omega
      omega
    · have := Int.ediv_nonneg ha (Int.le_of_lt hp)
      omega

theorem run_und {P : Program} {t : TypeId} {d : TypeDesc} (h : P.underlying t = some d) (w : World) : (underlying t).run P w = .ok d w := run_underlying h w
theorem toList_mk (s : Str) : (⟨s.toArray⟩ : ByteArray).toList = s := by rw [ByteArray.toList_eq]
theorem eqS_beq (a b : Str) : (a == b) = eqS a b := by unfold eqS; rw [Bool.eq_iff_iff]; simp
theorem size_mk (s : Str) : (⟨s.toArray⟩ : ByteArray).size = s.length := by simp [ByteArray.size]

/-- What an operation's run comes to: a value, in a world. -/
def Res (P : Program) (o : Oper) (ρ : Operand → Value) (w : World) (x : Value) (w' : World) : Prop :=
  (execOp ρ o).run P w = .ok (.value x) w' ∨ ((execOp ρ o).run P w = .ok .skip w' ∧ x = undef)
theorem wp_of_res {P : Program} {o : Oper} {a : Act} {w : World} {x : Value} {w' : World} {next : Act → World → Prop} {Q : Exit → Act → World → Prop}
    (h : Res P o a.eval w x w') (hn : next (a.put o.dst x) w') : o.wp P a w next Q := by
  unfold Oper.wp
  rcases h with h | ⟨h, rfl⟩
  · rw [h]; exact hn
  · rw [h]; exact hn

theorem eqGuard_plain {P : Program} {w : World} {op : BinOp} {t : TypeId} {xo yo : Operand} : ∀ (X Y : Value), (∀ c, X ≠ .agg c) → X ≠ .nilIface → (eqGuard op t xo yo X Y).run P w = .ok () w := by
  intro X Y h1 h2
  cases X <;> first
    | exact absurd rfl h2
    | exact absurd rfl (h1 _)
    | (unfold eqGuard; dsimp only; split <;> rfl)
theorem eqSc_sound {P : Program} {ι : Map} {w : World} {t : TypeId} {x y : Sc} {X Y : Value} {xo yo : Operand} {b : Bool}
    (hx : srel ι x X) (hy : srel ι y Y) (h : eqSc (P.underlying t) (isC yo) x y = some b) :
    ((do eqGuard .eql t xo yo X Y; binOp .eql t X Y : Sem Value).run P w = .ok (.bool b) w) ∧
    ((do eqGuard .neq t xo yo X Y; binOp .neq t X Y : Sem Value).run P w = .ok (.bool (!b)) w) := by
  have fin : ∀ (X Y : Value) (b : Bool), (∀ c, X ≠ .agg c) → X ≠ .nilIface → (binOp .eql t X Y = (do pure (.bool (← Op.equal t X Y)) : Sem Value)) → (binOp .neq t X Y = (do pure (.bool (!(← Op.equal t X Y))) : Sem Value)) →
      (Op.equal t X Y).run P w = .ok b w →
      ((do eqGuard .eql t xo yo X Y; binOp .eql t X Y : Sem Value).run P w = .ok (.bool b) w) ∧
      ((do eqGuard .neq t xo yo X Y; binOp .neq t X Y : Sem Value).run P w = .ok (.bool (!b)) w) := by
    intro X Y b h1 h2 h3 h4 h5
    rw [h3, h4, Sem.run_bind, Sem.run_bind, eqGuard_plain X Y h1 h2, eqGuard_plain X Y h1 h2]
    simp [h5]
  unfold eqSc at h
  split at h
  · rename_i ht
    cases h
    cases hx; cases hy
    exact fin _ _ _ (by simp) (by simp) rfl rfl (run_equal_bool w t _ _ ht)
  · rename_i e ht
    cases h
    cases hx; cases hy
    exact fin _ _ _ (by simp) (by simp) rfl rfl (by show (Op.equalIn (9999 + 1) t _ _).run P w = _; rw [Op.equalIn, Sem.run_bind, run_und ht]; rfl)
  · rename_i e _ _ _ _ _ ht
    cases h
    cases hx
    obtain ⟨_, _, _, _, rfl, _⟩ := hy
    exact fin _ _ _ (by simp) (by simp) rfl rfl (by show (Op.equalIn (9999 + 1) t _ _).run P w = _; rw [Op.equalIn, Sem.run_bind, run_und ht]; rfl)
  · rename_i e _ _ _ _ _ ht
    cases h
    cases hy
    obtain ⟨_, _, _, _, rfl, _⟩ := hx
    exact fin _ _ _ (by simp) (by simp) rfl rfl (by show (Op.equalIn (9999 + 1) t _ _).run P w = _; rw [Op.equalIn, Sem.run_bind, run_und ht]; rfl)
  · rename_i ms a ht hc
    cases h
    have hY : Y = .nilIface := by
      rcases hy with ⟨_, e⟩ | ⟨e, _⟩
      · exact e
      · cases e
    subst hY
    rcases hx with ⟨rfl, rfl⟩ | ⟨rfl, tt, xx, rfl⟩
    · have hg : ∀ op, (eqGuard op t xo yo .nilIface .nilIface).run P w = .ok () w := by
        intro op
        unfold eqGuard
        cases yo <;> first | (cases hc; done) | (dsimp only; split <;> simp)
      have he : (Op.equal t .nilIface .nilIface).run P w = .ok true w := by show (Op.equalIn (9999 + 1) t _ _).run P w = _; rw [Op.equalIn, Sem.run_bind, run_und ht]; rfl
      constructor
      · rw [Sem.run_bind, hg]; simp [binOp, he]
      · rw [Sem.run_bind, hg]; simp [binOp, he]
    · exact fin _ _ _ (by simp) (by simp) rfl rfl (by show (Op.equalIn (9999 + 1) t _ _).run P w = _; rw [Op.equalIn, Sem.run_bind, run_und ht]; rfl)
  · rename_i k e ht
    cases h
    cases hx; cases hy
    exact fin _ _ _ (by simp) (by simp) rfl rfl (by show (Op.equalIn (9999 + 1) t _ _).run P w = _; rw [Op.equalIn, Sem.run_bind, run_und ht]; rfl)
  · rename_i k e _ ht
    cases h
    cases hy
    obtain ⟨_, _, _, _, rfl⟩ := hx
    exact fin _ _ _ (by simp) (by simp) rfl rfl (by show (Op.equalIn (9999 + 1) t _ _).run P w = _; rw [Op.equalIn, Sem.run_bind, run_und ht]; rfl)
  · rename_i k e v ht
    cases h
    cases hx; cases hy
    exact fin _ _ _ (by simp) (by simp) rfl rfl (by show (Op.equalIn (9999 + 1) t _ _).run P w = _; rw [Op.equalIn, Sem.run_bind, run_und ht]; rfl)
  · rename_i k e v _ _ ht
    cases h
    cases hy
    obtain ⟨_, rfl, _⟩ := hx
    exact fin _ _ _ (by simp) (by simp) rfl rfl (by show (Op.equalIn (9999 + 1) t _ _).run P w = _; rw [Op.equalIn, Sem.run_bind, run_und ht]; rfl)
  · cases h
theorem bin_sound {R : Type} {P : Program} {ι : Map} {w : World} {op : BinOp} {t : TypeId} {x y : Sc} {X Y : Value} {xo yo : Operand} {K : Sc → Option R} {r : R}
    (hx : srel ι x X) (hy : srel ι y Y) (h : evBin (P.underlying t) (isC yo) op x y K = some r) :
    ∃ v V, K v = some r ∧ srel ι v V ∧ (do eqGuard op t xo yo X Y; binOp op t X Y : Sem Value).run P w = .ok V w := by
  have noguard : ∀ (X Y : Value), (∀ c, X ≠ .agg c) → X ≠ .nilIface → (eqGuard op t xo yo X Y).run P w = .ok () w := by
    intro X Y h1 h2
    cases X <;> first
      | exact absurd rfl h2
      | exact absurd rfl (h1 _)
      | (unfold eqGuard; dsimp only; split <;> rfl)
  have fin : ∀ (X Y V : Value), (∀ c, X ≠ .agg c) → X ≠ .nilIface → (binOp op t X Y).run P w = .ok V w →
      (do eqGuard op t xo yo X Y; binOp op t X Y : Sem Value).run P w = .ok V w := by
    intro X Y V h1 h2 h3
    rw [Sem.run_bind, noguard X Y h1 h2, Result.andThen_ok, h3]
  unfold evBin at h
  split at h
  · rename_i k a k2 b
    obtain ⟨rfl, ha⟩ := hx
    obtain ⟨rfl, hb⟩ := hy
    obtain ⟨h1, h2⟩ := gd_some h
    have hb0 : ¬ b < 0 := by simp [leI] at h1; omega
    refine ⟨_, _, h2, ⟨rfl, fits_wrap _ _⟩, fin _ _ _ (by simp) (by simp) ?_⟩
    simp [binOp, Op.shift, hb0, shlI]
  · rename_i k a k2 b
    obtain ⟨rfl, ha⟩ := hx
    obtain ⟨rfl, hb⟩ := hy
    obtain ⟨h1, h2⟩ := gd_some h
    have hb0 : ¬ b < 0 := by simp [leI] at h1; omega
    refine ⟨_, _, h2, ⟨rfl, fits_shr _ ha⟩, fin _ _ _ (by simp) (by simp) ?_⟩
    simp [binOp, Op.shift, hb0, shrI]
  · rename_i k a k' b hn1 hn2
    obtain ⟨rfl, ha⟩ := hx
    obtain ⟨rfl, hb⟩ := hy
    split at h
    · rename_i hk
      have := beqK_eq hk
      subst this
      have key : ∀ V, K V = some r → srel ι V (match V with | .int k n => Value.int k n | .bool b => .bool b | _ => undef) →
          (binOp op t (.int k a) (.int k b)).run P w = .ok (match V with | .int k n => Value.int k n | .bool b => .bool b | _ => undef) w →
          ∃ v V, K v = some r ∧ srel ι v V ∧ (do eqGuard op t xo yo (.int k a) (.int k b); binOp op t (.int k a) (.int k b) : Sem Value).run P w = .ok V w :=
        fun V h1 h2 h3 => ⟨V, _, h1, h2, fin _ _ _ (by simp) (by simp) h3⟩
      unfold evBinInt at h
      split at h
      · exact key _ h ⟨rfl, fits_wrap _ _⟩ (by simp [binOp, Op.intArith, addI])
      · exact key _ h ⟨rfl, fits_wrap _ _⟩ (by simp [binOp, Op.intArith, subI])
      · exact key _ h ⟨rfl, fits_wrap _ _⟩ (by simp [binOp, Op.intArith, mulI])
      · obtain ⟨h1, h2⟩ := gd_some h
        have : b ≠ 0 := by simpa [eqI] using h1
        exact key _ h2 ⟨rfl, fits_wrap _ _⟩ (by simp [binOp, Op.intDiv, this, quoI])
      · obtain ⟨h1, h2⟩ := gd_some h
        have : b ≠ 0 := by simpa [eqI] using h1
        exact key _ h2 ⟨rfl, fits_tmod _ ha⟩ (by simp [binOp, Op.intDiv, this, remI])
      · exact key _ h ⟨rfl, fits_wrap _ _⟩ (by simp [binOp, Op.intBits, andI])
      · exact key _ h ⟨rfl, fits_wrap _ _⟩ (by simp [binOp, Op.intBits, orI])
      · exact key _ h ⟨rfl, fits_wrap _ _⟩ (by simp [binOp, Op.intBits, xorI])
      · exact key _ h ⟨rfl, fits_wrap _ _⟩ (by simp [binOp, Op.intBits, andNotI])
      · exact key _ h rfl (by simp [binOp, Op.intCmp, eqI]; rfl)
      · exact key _ h rfl (by simp [binOp, Op.intCmp, eqI]; rfl)
      · exact key _ h rfl (by simp [binOp, Op.intCmp, ltI])
      · exact key _ h rfl (by simp [binOp, Op.intCmp, leI])
      · exact key _ h rfl (by simp [binOp, Op.intCmp, ltI])
      · exact key _ h rfl (by simp [binOp, Op.intCmp, leI])
      · cases h
    · cases h
  · rename_i a b
    obtain ⟨rfl, ha⟩ := hx
    obtain ⟨rfl, hb⟩ := hy
    have fin' := fun V => fin (.string ⟨a.toArray⟩) (.string ⟨b.toArray⟩) V (by simp) (by simp)
    unfold evBinStr at h
    split at h
    · obtain ⟨h1, h2⟩ := gd_some h
      have h1' : a.length + b.length ≤ 9223372036854775807 := by simpa [catB] using h1
      refine ⟨_, .string ⟨(a ++ b).toArray⟩, h2, ⟨rfl, by simpa using h1'⟩, fin' _ ?_⟩
      have h3 : ¬ (((⟨a.toArray⟩ : ByteArray).size + (⟨b.toArray⟩ : ByteArray).size : Nat) : Int) > IntKind.i64.max := by
        rw [size_mk, size_mk]; simp [IntKind.max, IntKind.signed, IntKind.bits]; omega
      have h4 : (⟨a.toArray⟩ : ByteArray) ++ ⟨b.toArray⟩ = ⟨(a ++ b).toArray⟩ := by
        apply ByteArray.ext
        rw [ByteArray.data_append]
        simp
      simp only [binOp, Op.stringOp]
      rw [if_neg h3, h4]
      rfl
    · exact ⟨_, _, h, rfl, fin' _ (by simp only [binOp, Op.stringOp, toList_mk, eqS_beq]; rfl)⟩
    · exact ⟨_, _, h, rfl, fin' _ (by simp only [binOp, Op.stringOp, toList_mk, eqS_beq]; rfl)⟩
    · exact ⟨_, _, h, rfl, fin' _ (by simp [binOp, Op.stringOp, toList_mk, ltS])⟩
    · exact ⟨_, _, h, rfl, fin' _ (by simp only [binOp, Op.stringOp, toList_mk, eqS_beq]; rfl)⟩
    · exact ⟨_, _, h, rfl, fin' _ (by simp only [binOp, Op.stringOp, toList_mk, eqS_beq]; rfl)⟩
    · exact ⟨_, _, h, rfl, fin' _ (by simp [binOp, Op.stringOp, toList_mk, ltS])⟩
    · cases h
  · rename_i hni hns
    split at h
    · rename_i b hb
      obtain ⟨h1, h2⟩ := eqSc_sound (P := P) (w := w) (xo := xo) (t := t) hx hy hb
      exact ⟨_, _, h, rfl, h1⟩
    · cases h
  · rename_i hni hns
    split at h
    · rename_i b hb
      obtain ⟨h1, h2⟩ := eqSc_sound (P := P) (w := w) (xo := xo) (t := t) hx hy hb
      exact ⟨_, _, h, rfl, h2⟩
    · cases h
  · cases h

/-! ### Parts of rows -/
theorem lenG_cnt {g : Seg} (h : g.wf) (h1 : 0 < g.width) : lenG g = g.cnt := by
  cases g <;> simp only [Seg.wf, lenG, Seg.cnt, Seg.width] at *
  case one => omega
  all_goals exact h
theorem size_cnt (g : Seg) (h1 : 0 < g.width) : g.size = g.cnt * g.width := by
  cases g <;> simp only [Seg.size, Seg.cnt, Seg.width] at * <;> omega
theorem flatMap_sub {α β : Type} (f : α → List β) (m : Nat) (hf : ∀ x, (f x).length = m) : ∀ (xs : List α) (s l : Nat), ((xs.drop s).take l).flatMap f = ((xs.flatMap f).drop (s * m)).take (l * m) := by
  intro xs
  have hd : ∀ (xs : List α) (s : Nat), (xs.drop s).flatMap f = (xs.flatMap f).drop (s * m) := by
    intro xs
    induction xs with
    | nil => intro s; simp
    | cons x xs ih =>
      intro s
      cases s with
      | zero => simp
      | succ s =>
        have : (s + 1) * m = (f x).length + s * m := by rw [hf, Nat.succ_mul]; omega
        rw [List.drop_succ_cons, List.flatMap_cons, this, List.drop_append, List.drop_of_length_le (show (f x).length ≤ (f x).length + s * m by omega), ih]
        simp [Nat.add_sub_cancel_left]
  have ht : ∀ (xs : List α) (l : Nat), (xs.take l).flatMap f = (xs.flatMap f).take (l * m) := by
    intro xs
    induction xs with
    | nil => intro l; simp
    | cons x xs ih =>
      intro l
      cases l with
      | zero => simp
      | succ l =>
        have : (l + 1) * m = (f x).length + l * m := by rw [hf, Nat.succ_mul]; omega
        rw [List.take_succ_cons, List.flatMap_cons, List.flatMap_cons, this, List.take_append, List.take_of_length_le (show (f x).length ≤ (f x).length + l * m by omega), ih]
        simp [Nat.add_sub_cancel_left]
  intro s l
  rw [ht, hd]
theorem subG_spec {g g' : Seg} (hw : g.wf) {s l : Nat} (hle : s + l ≤ g.cnt) (h : subG g s l = some g') :
    g'.wf ∧ g'.cnt = l ∧ lenG g' = l ∧ g'.width = g.width ∧ g'.flat = (g.flat.drop (s * g.width)).take (l * g.width) ∧ g.isOne = false := by
  cases g <;> simp only [subG, Seg.wf, Seg.cnt] at h hw hle
  case one => cases h
  case ints k xs n =>
    cases h
    have : ((xs.drop s).take l).length = l := by simp; omega
    exact ⟨this, rfl, this, rfl, by simp [Seg.flat, Seg.width, List.map_take, List.map_drop], rfl⟩
  case bytes xs n =>
    cases h
    have : ((xs.drop s).take l).length = l := by simp; omega
    exact ⟨this, rfl, this, rfl, by simp [Seg.flat, Seg.width, List.map_take, List.map_drop], rfl⟩
  case strs xs n =>
    cases h
    have : ((xs.drop s).take l).length = l := by simp; omega
    exact ⟨this, rfl, this, rfl, by simp [Seg.flat, Seg.width, List.map_take, List.map_drop], rfl⟩
  case recs fs xs n =>
    cases h
    have : ((xs.drop s).take l).length = l := by simp; omega
    refine ⟨this, rfl, this, rfl, ?_, rfl⟩
    · simp only [Seg.flat, Seg.width]
      exact flatMap_sub _ fs.length (tupSc_len fs) xs s l
end Go.Ev

namespace Go.Ev

def appE : Eff → (Nat → Option Blk) → Nat → Option Blk
  | [], h => h
  | (n, b) :: r, h => appE r (put1 h n b)

def Good {R : Type} (P : Program) (o : Oper) (ρ : Operand → Value) (ι : Map) (I : Nat → Prop) (nx : Nat) (hp : Nat → Option Blk) (w : World) (K : AVal → Eff → Nat → Option R) (r : R) : Prop :=
  ∃ v E cnt x w' ι' I', K v E cnt = some r ∧ vrel ι' v x ∧ HSim ι' I' (nx + cnt) (appE E hp) w' ∧ Map.up nx ι ι' ∧ Fr I w I' w' ∧ Res P o ρ w x w'

section
variable {R : Type} {P : Program} {o : Oper} {ρ : Operand → Value} {ι : Map} {I : Nat → Prop} {nx : Nat} {hp : Nat → Option Blk} {w : World} {K : AVal → Eff → Nat → Option R} {r : R}

theorem good_pure (hs : HSim ι I nx hp w) {v : AVal} {x : Value} (h : K v [] 0 = some r) (hv : vrel ι v x) (hr : (execOp ρ o).run P w = .ok (.value x) w) : Good P o ρ ι I nx hp w K r :=
  ⟨v, [], 0, x, w, ι, I, h, hv, hs, Map.up_refl _ _, Fr.refl _ _, .inl hr⟩

theorem krel_len {l : List Sc} {cs : List Value} (h : krel ι l cs) : cs.length = l.length := by
  unfold krel at h
  induction h with
  | nil => rfl
  | cons _ _ ih => simp [ih]
theorem krel_at {l : List Sc} {cs : List Value} (h : krel ι l cs) : ∀ (i : Nat) (x : Sc), l[i]? = some x → ∃ v : Value, cs[i]? = some v ∧ srel ι x v ∧ (v.oneCell' = true ∧ v.cells = #[v]) := by
  unfold krel at h
  induction h with
  | nil => intro i x hx; simp at hx
  | cons a _ ih =>
    intro i x hx
    cases i with
    | zero => simp at hx; subst hx; exact ⟨_, rfl, a.1, a.2⟩
    | succ i => simpa using ih i x (by simpa using hx)
theorem krel_append {l l' : List Sc} {cs cs' : List Value} (h : krel ι l cs) (h' : krel ι l' cs') : krel ι (l ++ l') (cs ++ cs') := by
  unfold krel at *
  induction h with
  | nil => exact h'
  | cons a _ ih => exact .cons a ih
theorem krel_of_at : ∀ (l : List Sc) (cs : List Value), cs.length = l.length → (∀ (i : Nat) (x : Sc), l[i]? = some x → ∃ v : Value, cs[i]? = some v ∧ srel ι x v ∧ (v.oneCell' = true ∧ v.cells = #[v])) → krel ι l cs
  | [], [], _, _ => .nil
  | [], _ :: _, h, _ => by simp at h
  | _ :: _, [], h, _ => by simp at h
  | a :: l, c :: cs, h, hh => by
    obtain ⟨v, h1, h2⟩ := hh 0 a rfl
    simp at h1; subst h1
    exact .cons h2 (krel_of_at l cs (by simpa using h) fun i x hx => by simpa using hh (i + 1) x (by simpa using hx))

theorem segsOf_spec {v : AVal} {x : Value} {g : Segs} (hv : vrel ι v x) (h : segsOf v = some g) : wfs g ∧ ∃ cs : List Value, x.cells = cs.toArray ∧ krel ι (flats g) cs := by
  unfold segsOf at h
  split at h
  · cases h
  · rename_i s hs
    cases h
    have hk : s.known := by cases s <;> first | trivial | exact (hs rfl).elim
    have := srel_one hv hk
    refine ⟨wfs_cons.2 ⟨trivial, fun _ h => by cases h⟩, [x], this.2, ?_⟩
    exact .cons ⟨hv, this⟩ .nil
  · cases h
    obtain ⟨a, cs, rfl, b⟩ := hv
    exact ⟨a, cs, rfl, b⟩
  · cases h

/-- A new block out of cells. -/
theorem good_new (hs : HSim ι I nx hp w) {g : Segs} (hg : wfs g) {C : Array Value} {e : TypeId} {fr : Nat × Nat} {cap wd : Nat} {v : AVal} {x : Value} {w' : World}
    (hlen : (flats g).length ≤ C.size) (hcap : cap * wd ≤ C.size) (hfr : ∀ o, o < C.size → ¬ (fr.1 ≤ o ∧ o < fr.2))
    (hc : ∀ (i : Nat) (x : Sc), (flats g)[i]? = some x → ∃ v : Value, C[i]? = some v ∧ srel ι x v ∧ (v.oneCell' = true ∧ v.cells = #[v]))
    (hw : w'.heap = w.heap.push (.cells C e fr)) (h1 : w'.os = w.os) (h2 : w'.tape = w.tape) (h3 : w'.output = w.output)
    (h : K v [(nx, some ⟨true, g⟩)] 1 = some r)
    (hv : ∀ ι' : Map, ι.le ι' → ι' nx = some ⟨some w.heap.size, 0, cap, (flats g).length, wd⟩ → vrel ι' v x)
    (hr : (execOp ρ o).run P w = .ok (.value x) w') : Good P o ρ ι I nx hp w K r := by
  obtain ⟨a, b⟩ := hs.alloc g hg C e fr cap wd hlen hcap hfr hc w' hw
  exact ⟨v, _, 1, x, w', _, _, h, hv _ b (by simp), a, Map.up_new b, Fr.alloc hw h1 h2 h3, .inl hr⟩
/-- A new block, and one that is no longer told. -/
theorem good_new_kill (hs : HSim ι I nx hp w) {g : Segs} (hg : wfs g) {C : Array Value} {e : TypeId} {fr : Nat × Nat} {cap wd : Nat} {v : AVal} {x : Value} {w' : World} {n : Nat}
    (hlen : (flats g).length ≤ C.size) (hcap : cap * wd ≤ C.size) (hfr : ∀ o, o < C.size → ¬ (fr.1 ≤ o ∧ o < fr.2))
    (hc : ∀ (i : Nat) (x : Sc), (flats g)[i]? = some x → ∃ v : Value, C[i]? = some v ∧ srel ι x v ∧ (v.oneCell' = true ∧ v.cells = #[v]))
    (hw : w'.heap = w.heap.push (.cells C e fr)) (h1 : w'.os = w.os) (h2 : w'.tape = w.tape) (h3 : w'.output = w.output)
    (hn : n < nx)
    (h : K v [(nx, some ⟨true, g⟩), (n, none)] 1 = some r)
    (hv : ∀ ι' : Map, ι.le ι' → ι' nx = some ⟨some w.heap.size, 0, cap, (flats g).length, wd⟩ → vrel ι' v x)
    (hr : (execOp ρ o).run P w = .ok (.value x) w') : Good P o ρ ι I nx hp w K r := by
  obtain ⟨a, b⟩ := hs.alloc g hg C e fr cap wd hlen hcap hfr hc w' hw
  refine ⟨v, _, 1, x, w', _, _, h, hv _ b (by simp), ?_, Map.up_new b, Fr.alloc hw h1 h2 h3, .inl hr⟩
  refine a.less fun m c hm => ?_
  simp only [appE, put1] at hm ⊢
  split at hm
  · cases hm
  · exact hm

theorem name_lt (hs : HSim ι I nx hp w) {n : Nat} {b : Blk} (h : hp n = some b) : n < nx := by
  rcases Nat.lt_or_ge n nx with hl | hl
  · exact hl
  · rw [(hs.fresh n hl).2] at h; cases h

/-- A block that is told, at a place. -/
theorem blk_at (hs : HSim ι I nx hp w) {n : Nat} {b : Blk} (hb : hp n = some b) {lo : Loc} (hlo : ι n = some lo) {k : Nat} (hk : lo.blk = some k) :
    wfs b.g ∧ lo.len = (flats b.g).length ∧ Holds ι w k lo (flats b.g) ∧ (b.rw = true → I k) ∧ k < w.heap.size := by
  have ho := hs.ok n b hb
  obtain ⟨l, h1, h2, h3, h4⟩ := ho.ex
  rw [hlo] at h1; cases h1
  obtain ⟨a, b', c⟩ := h4 k hk
  exact ⟨ho.wf, h2, c, a, c.lt⟩
theorem blk_len (hs : HSim ι I nx hp w) {n : Nat} {b : Blk} (hb : hp n = some b) {lo : Loc} (hlo : ι n = some lo) : wfs b.g ∧ lo.len = (flats b.g).length := by
  have ho := hs.ok n b hb
  obtain ⟨l, h1, h2, h3, h4⟩ := ho.ex
  rw [hlo] at h1; cases h1
  exact ⟨ho.wf, h2⟩

theorem Holds.cell {k : Nat} {lo : Loc} {l : List Sc} (h : Holds ι w k lo l) {i : Nat} {x : Sc} (hx : l[i]? = some x) :
    ∃ v, w.cell? ⟨k, lo.off + i, none⟩ = some v ∧ srel ι x v ∧ (v.oneCell' = true ∧ v.cells = #[v]) := by
  obtain ⟨C, e, fr, h1, h2, h3, h4, h5⟩ := h.ex
  obtain ⟨v, a, b, c⟩ := h5 i x hx
  exact ⟨v, by simp [World.cell?, h1, a], b, c⟩
theorem Addr.add_plain' (g o j : Nat) : (⟨g, o, none⟩ : Addr).add j = ⟨g, o + j, none⟩ := by unfold Addr.add; split <;> simp_all

theorem Holds.cells {k : Nat} {lo : Loc} {l : List Sc} (h : Holds ι w k lo l) (s m : Nat) (hm : s + m ≤ l.length) :
    ∃ cs : List Value, (loadCells ⟨k, lo.off + s, none⟩ m).run P w = .ok cs.toArray w ∧ krel ι ((l.drop s).take m) cs := by
  have hx : ∀ j, j < m → ∃ v, w.cell? ⟨k, lo.off + (s + j), none⟩ = some v ∧ (∃ x, l[s + j]? = some x ∧ srel ι x v ∧ (v.oneCell' = true ∧ v.cells = #[v])) := by
    intro j hj
    have hlt : s + j < l.length := by omega
    obtain ⟨v, a, b, c⟩ := h.cell (List.getElem?_eq_getElem hlt)
    exact ⟨v, a, _, List.getElem?_eq_getElem hlt, b, c⟩
  let f : Nat → Value := fun j => (w.cell? ⟨k, lo.off + (s + j), none⟩).getD undef
  have hf : ∀ j, j < m → w.cell? ((⟨k, lo.off + s, none⟩ : Addr).add j) = some (f j) := by
    intro j hj
    obtain ⟨v, a, _⟩ := hx j hj
    rw [Addr.add_plain', Nat.add_assoc, a]
    simp [f, a]
  refine ⟨(List.range m).map f, run_loadCells w _ m f hf, ?_⟩
  refine krel_of_at _ _ (by simp; omega) ?_
  intro i x hxi
  rw [List.getElem?_take] at hxi
  split at hxi
  · rename_i hi
    rw [List.getElem?_drop] at hxi
    obtain ⟨v, a, y, b, c⟩ := hx i hi
    rw [b] at hxi; cases hxi
    refine ⟨v, ?_, c⟩
    simp [hi, f, a]
  · cases hxi

theorem aggOf_run {t : TypeId} {b : Bool} (h : aggOf P t = some b) : (isAgg t).run P w = .ok b w := by
  unfold aggOf at h
  unfold isAgg
  split at h <;> first
    | (cases h; done)
    | (rename_i d hd; cases h; rw [Sem.run_bind, run_und hd]; rfl)
    | (rename_i d e hd; cases h; rw [Sem.run_bind, run_und hd]; rfl)
    | (rename_i d h1 h2 hd; cases h; rw [Sem.run_bind, run_und hd]; cases d <;> first | rfl | exact (h1 _ rfl).elim | exact (h2 _ _ rfl).elim)
theorem cells_run {t : TypeId} {n : Nat} (h : cells P t = some n) : (sizeOf t).run P w = .ok n w := by
  unfold cells at h
  cases hi : P.info? t with
  | none => rw [hi] at h; cases h
  | some i =>
    rw [hi] at h
    cases h
    simp [sizeOf, typeInfo, hi]

theorem load_val {K' : AVal → Option R} (hs : HSim ι I nx hp w) {t : TypeId} {y : Value} {n base ix wd f : Nat} (ha : srel ι (.ptr n base ix wd f) y) {b : Blk} (hb : hp n = some b)
    (h : (match aggOf P t with
        | some true => match cells P t with
          | some size => ldAgg b.g base ix wd f size fun g => K' (.g g)
          | none => none
        | some false => ldSc b.g base ix wd f fun v => K' (.s v)
        | none => none) = some r) : ∃ k, y = .pointer (some k) ∧ ∃ v x, K' v = some r ∧ vrel ι v x ∧ (loadVar t k).run P w = .ok x w := by
  obtain ⟨lo, k, h1, h2, h3, h4⟩ := ha
  obtain ⟨hwf, hlen, hold, _, _⟩ := blk_at hs hb h1 h2
  refine ⟨_, h3, ?_⟩
  split at h
  · rename_i hagg
    split at h
    · rename_i size hsz
      have fin : ∀ (g : Segs) (m : Nat), wfs g → flats g = ((flats b.g).drop (base + ix * wd + f)).take size → base + ix * wd + f + size ≤ (flats b.g).length → K' (.g g) = some r → ∃ v x, K' v = some r ∧ vrel ι v x ∧ (loadVar t ⟨k, lo.off + (base + ix * wd + f), none⟩).run P w = .ok x w := by
        intro g m hg he hle hK
        obtain ⟨cs, hc1, hc2⟩ := hold.cells (P := P) (base + ix * wd + f) size hle
        refine ⟨_, .agg cs.toArray, hK, ⟨hg, cs, rfl, by rw [he]; exact hc2⟩, ?_⟩
        unfold loadVar
        rw [Sem.run_bind, aggOf_run hagg]
        simp only [Result.andThen_ok, if_true, Sem.run_bind, cells_run hsz, hc1, Sem.run_pure]
      unfold ldAgg at h
      split at h
      · rename_i hw0
        have := beq_of hw0; subst this
        split at h
        · rename_i p q hf0 hsp
          have := beq_of hf0; subst this
          split at h
          · rename_i x z htk
            obtain ⟨e1, s1⟩ := splitS_spec _ _ _ _ hsp
            obtain ⟨e2, s2⟩ := takeS_spec _ _ _ _ htk
            subst e2
            rw [e1] at hwf
            obtain ⟨wp, wq⟩ := wfs_append.1 hwf
            obtain ⟨wx, wz⟩ := wfs_append.1 wq
            have lp := flats_len wp
            have lx := flats_len wx
            have e3 : flats b.g = flats p ++ (flats x ++ flats z) := by rw [e1, flats_append, flats_append]
            have e4 : base + ix * 0 + 0 = (flats p).length := by omega
            refine fin x size wx ?_ ?_ h
            · rw [e3, e4, List.drop_left, List.take_append_of_le_length (by omega), List.take_of_length_le (by omega)]
            · rw [e3, e4]; simp; omega
          · cases h
        · cases h
      · split at h
        · rename_i fs xs m hg
          split at h
          · rename_i h5 h6 h7 h8
            have := beq_of h5; subst this
            have := beq_of h6; subst this
            have := beq_of h7; subst this
            have := beq_of h8; subst this
            rw [hg] at hwf hlen
            have hx : xs.length = m := (wfs_cons.1 hwf).1
            rw [flats_one, Seg.flat_len (wfs_cons.1 hwf).1] at hlen
            simp only [Seg.size] at hlen
            have hix : ix < xs.length := by
              rcases Nat.lt_or_ge ix xs.length with hh | hh
              · exact hh
              · exfalso
                have := Nat.mul_le_mul_right fs.length hh
                rw [hx] at this
                omega
            have hle : ix * fs.length + fs.length ≤ xs.length * fs.length := by
              have := Nat.mul_le_mul_right fs.length (Nat.succ_le_of_lt hix)
              rwa [Nat.succ_mul] at this
            have hfl : flats b.g = xs.flatMap (tupSc fs) := by rw [hg, flats_one]; rfl
            have hones : ∀ l : List Sc, flats (l.map Seg.one) = l ∧ wfs (l.map Seg.one) := by
              intro l
              induction l with
              | nil => exact ⟨rfl, fun _ h => by cases h⟩
              | cons a l ih => exact ⟨by rw [List.map_cons, flats_cons, ih.1]; rfl, wfs_cons.2 ⟨trivial, ih.2⟩⟩
            refine fin _ m (hones _).2 ?_ ?_ h
            · rw [(hones _).1, hfl]
              apply List.ext_getElem?
              intro j
              rw [List.getElem?_take]
              split
              · rename_i hj
                rw [List.getElem?_drop]
                have : 0 + ix * fs.length + 0 + j = ix * fs.length + j := by omega
                rw [this, flatMap_at _ fs.length (tupSc_len fs) _ _ _ hj, List.getElem?_eq_getElem hix]
                simp [List.getD, List.getElem?_eq_getElem hix]
              · rename_i hj
                rw [List.getElem?_eq_none (by rw [tupSc_len]; omega)]
            · rw [hfl, flatMap_len _ fs.length (tupSc_len fs)]; omega
          · cases h
        · rename_i q _ hg
          split at h
          · rename_i x hc hx
            simp only [Bool.and_eq_true] at hc
            obtain ⟨⟨c1, c2⟩, c3, c4⟩ := hc
            have := beq_of c1; subst this
            have c2 := beq_of c2
            have := beq_of c3; subst this
            have := beq_of c4; subst this
            obtain ⟨g1, g2⟩ := gd_some h
            have hle : ix + size ≤ q.cnt := Nat.le_of_ble_eq_true g1
            rw [hg] at hwf
            have hq := (wfs_cons.1 hwf).1
            obtain ⟨s1, s2, s3, s4, s5, _⟩ := subG_spec hq hle hx
            have hfq : flats b.g = q.flat := by rw [hg, flats_one]
            refine fin [x] size (wfs_cons.2 ⟨s1, fun _ h => by cases h⟩) ?_ ?_ g2
            · rw [flats_one, s5, hfq, c2, Nat.mul_one, Nat.mul_one, Nat.zero_add, Nat.add_zero]
            · rw [hfq, Seg.flat_len hq, size_cnt q (by omega), c2]; omega
          · cases h
        · cases h
    · cases h
  · rename_i hagg
    obtain ⟨v, hv, hK⟩ := ldSc_spec hwf (by rw [← hlen]; exact h4) h
    obtain ⟨x, hx1, hx2, _⟩ := hold.cell hv
    refine ⟨_, x, hK, hx2, ?_⟩
    unfold loadVar
    rw [Sem.run_bind, aggOf_run hagg]
    simp [hx1]
  · cases h
theorem good_load (hs : HSim ι I nx hp w) {t : TypeId} {a : Operand} (ho : o.op = .load t a) {n base ix wd f : Nat} (ha : srel ι (.ptr n base ix wd f) (ρ a)) {b : Blk} (hb : hp n = some b)
    (h : (match aggOf P t with
        | some true => match cells P t with
          | some size => ldAgg b.g base ix wd f size fun g => K (.g g) [] 0
          | none => none
        | some false => ldSc b.g base ix wd f fun v => K (.s v) [] 0
        | none => none) = some r) : Good P o ρ ι I nx hp w K r := by
  obtain ⟨k, h3, v, x, hK, hv, hx⟩ := load_val (K' := fun v => K v [] 0) hs ha hb h
  refine good_pure hs hK hv ?_
  unfold execOp
  rw [ho]
  simp only [Instr.loadAt, h3, Instr.sureAddr, Sem.run_bind, Sem.run_pure, Result.andThen_ok, hx]
end
end Go.Ev

namespace Go.Ev
section
variable {R : Type} {P : Program} {o : Oper} {ρ : Operand → Value} {ι : Map} {I : Nat → Prop} {nx : Nat} {hp : Nat → Option Blk} {w : World} {K : AVal → Eff → Nat → Option R} {r : R}

theorem run_storeCells (k off : Nat) : ∀ (vs : List Value) (i : Nat) (w : World) (C : Array Value) (e : TypeId) (fr : Nat × Nat), (∀ v ∈ vs, v.oneCell' = true) →
    w.heap[k]? = some (.cells C e fr) → off + i + vs.length ≤ C.size → (∀ o, o < C.size → ¬ (fr.1 ≤ o ∧ o < fr.2)) →
    (storeCells ⟨k, off, none⟩ vs i).run P w = .ok () (putCells w k (off + i) vs) := by
  intro vs
  induction vs with
  | nil => intro i w C e fr _ _ _ _; rfl
  | cons v vs ih =>
    intro i w C e fr h1 h2 h3 h4
    simp only [List.length_cons] at h3
    have hlt : off + i < C.size := by omega
    have hc : w.cell? ⟨k, off + i, none⟩ = some C[off + i] := by simp [World.cell?, h2, hlt]
    have hf : w.frozen? ⟨k, off + i, none⟩ = false := by
      simp only [World.frozen?, h2]
      have := h4 (off + i) hlt
      simp only [Bool.and_eq_false_iff, decide_eq_false_iff_not]
      omega
    simp only [storeCells, Sem.run_bind, Addr.add_plain', putCells]
    rw [run_store P w _ v .plain (h1 v (by simp)), hc]
    simp only [hf, Bool.false_eq_true, if_false, Result.andThen_ok]
    have h2' : (w.setCell ⟨k, off + i, none⟩ v).heap[k]? = some (.cells (C.setIfInBounds (off + i) v) e fr) := by rw [setCell_heap]; simp [h2]
    have := ih (i + 1) (w.setCell ⟨k, off + i, none⟩ v) _ e fr (fun u hu => h1 u (by simp [hu])) h2' (by simp; omega) (by simpa using h4)
    rw [this]
    congr 1

/-- What is stored lies there, and all else as before. -/
theorem put_holds {k : Nat} {lo : Loc} {l : List Sc} (h : Holds ι w k lo l) (hl : lo.len = l.length) {s : Nat} {l' : List Sc} {cs : List Value} (hk : krel ι l' cs) (hs : s + l'.length ≤ l.length) :
    Holds ι (putCells w k (lo.off + s) cs) k lo (l.take s ++ l' ++ l.drop (s + l'.length)) := by
  obtain ⟨C, e, fr, h1, h2, h3, h4, h5⟩ := h.ex
  obtain ⟨C', a, b, c⟩ := putCells_here (b := k) cs (lo.off + s) w C e fr h1
  have hcl := krel_len hk
  refine ⟨C', e, fr, a, by rw [b]; exact h2, by rw [b]; exact h3, by rw [b]; exact h4, ?_⟩
  intro i x hx
  rw [c]
  by_cases hi : s ≤ i ∧ i < s + l'.length
  · rw [if_pos ⟨by omega, by omega, by omega⟩]
    have e1 : lo.off + i - (lo.off + s) = i - s := by omega
    rw [e1]
    refine krel_at hk (i - s) x ?_
    rw [List.getElem?_append_left (by simp; omega), List.getElem?_append_right (by simp; omega)] at hx
    simpa [Nat.min_eq_left (show s ≤ l.length by omega)] using hx
  · rw [if_neg (by omega)]
    refine h5 i x ?_
    by_cases h6 : i < s
    · rw [List.append_assoc, List.getElem?_append_left (by simp; omega), List.getElem?_take] at hx
      simpa [h6] using hx
    · rw [List.getElem?_append_right (by simp; omega), List.getElem?_drop] at hx
      have : s + l'.length + (i - (List.take s l ++ l').length) = i := by simp; omega
      rwa [this] at hx

theorem good_write (hs : HSim ι I nx hp w) {n : Nat} {b : Blk} (hb : hp n = some b) (hrw : b.rw = true) {lo : Loc} (hlo : ι n = some lo) {k : Nat} (hk : lo.blk = some k)
    {s : Nat} {l' : List Sc} {cs : List Value} (hcs : krel ι l' cs) (hle : s + l'.length ≤ (flats b.g).length) {g' : Segs} (hg' : wfs g')
    (he : flats g' = (flats b.g).take s ++ l' ++ (flats b.g).drop (s + l'.length)) :
    HSim ι I nx (put1 hp n (some ⟨true, g'⟩)) (putCells w k (lo.off + s) cs) ∧ Fr I w I (putCells w k (lo.off + s) cs) := by
  obtain ⟨hwf, hlen, hold, hI, hlt⟩ := blk_at hs hb hlo hk
  obtain ⟨r1, r2, r3, r4⟩ := putCells_rest k cs (lo.off + s) w
  constructor
  · refine hs.write hb hrw hlo g' hg' ?_ _ r1 ?_ ?_
    · rw [he, hlen]; simp; omega
    · intro j hj
      exact putCells_other (fun e => hj (by rw [hk, e])) cs _ w
    · intro j hj
      rw [hk] at hj; cases hj
      rw [he]
      exact put_holds hold hlen hcs hle
  · refine ⟨fun j _ hj => putCells_other (fun e => hj (by subst e; exact hI hrw)) cs _ w, fun _ h => .inl h, by rw [r1]; exact Nat.le_refl _, r2, r3, r4⟩

theorem set_eq_splice {α : Type} (l : List α) (i : Nat) (v : α) (h : i < l.length) : l.set i v = l.take i ++ [v] ++ l.drop (i + 1) := by
  rw [List.set_eq_take_append_cons_drop, if_pos h]; simp

theorem storeVar_run {t : TypeId} {size : Nat} (hsz : cells P t = some size) {x : Value} {cs : List Value} (hx : x.cells = cs.toArray) (hcs : cs.length = size) (hone : ∀ v ∈ cs, v.oneCell' = true)
    {k off : Nat} {C : Array Value} {e : TypeId} {fr : Nat × Nat} (h2 : w.heap[k]? = some (.cells C e fr)) (h3 : off + cs.length ≤ C.size) (h4 : ∀ o, o < C.size → ¬ (fr.1 ≤ o ∧ o < fr.2)) :
    (storeVar t ⟨k, off, none⟩ x).run P w = .ok () (putCells w k off cs) := by
  unfold storeVar
  have hne : ¬ (x.cells.size ≠ size) := by rw [hx]; simp [hcs]
  simp only [Sem.run_bind, cells_run hsz, Result.andThen_ok, if_neg hne, Sem.run_pure]
  have := run_storeCells (P := P) k off cs 0 w C e fr hone h2 (by omega) h4
  rw [hx]
  simpa using this
theorem krel_one {l : List Sc} {cs : List Value} (h : krel ι l cs) : ∀ v ∈ cs, v.oneCell' = true := by
  unfold krel at h
  induction h with
  | nil => intro v hv; cases hv
  | cons a _ ih =>
    intro v hv
    cases hv with
    | head => exact a.2.1
    | tail _ h => exact ih v h

theorem onesOf_flats : ∀ {u : Segs} {l : List Sc}, onesOf u = some l → flats u = l
  | [], l, hl => by simp [onesOf] at hl; subst hl; rfl
  | a :: u, l, hl => by
    cases a <;> simp only [onesOf] at hl <;> try (cases hl; done)
    cases ho : onesOf u with
    | none => rw [ho] at hl; cases hl
    | some l2 => rw [ho] at hl; cases hl; rw [flats_cons, onesOf_flats ho]; rfl
theorem splice_rec {fs : List Fk} : ∀ (xs : List (Tup fs)) (ix : Nat) (tu : Tup fs), ix < xs.length →
    (xs.set ix tu).flatMap (tupSc fs) = (xs.flatMap (tupSc fs)).take (ix * fs.length) ++ tupSc fs tu ++ (xs.flatMap (tupSc fs)).drop (ix * fs.length + fs.length)
  | [], ix, tu, hix => by simp at hix
  | y :: xs, 0, tu, hix => by
    simp only [List.set_cons_zero, List.flatMap_cons, Nat.zero_mul, List.take_zero, List.nil_append, Nat.zero_add]
    rw [List.drop_append_of_le_length (by rw [tupSc_len]; omega), List.drop_of_length_le (by rw [tupSc_len]; omega)]
    rfl
  | y :: xs, ix + 1, tu, hix => by
    have e6 : (ix + 1) * fs.length = (tupSc fs y).length + ix * fs.length := by rw [tupSc_len, Nat.succ_mul]; omega
    have e7 : (ix + 1) * fs.length + fs.length = (tupSc fs y).length + (ix * fs.length + fs.length) := by rw [e6]; omega
    simp only [List.set_cons_succ, List.flatMap_cons]
    rw [e7, e6, List.take_append, List.take_of_length_le (by omega), List.drop_append, List.drop_of_length_le (by omega), splice_rec xs ix tu (by simpa using hix)]
    simp [Nat.add_sub_cancel_left]
theorem good_store (hs : HSim ι I nx hp w) {t : TypeId} {a x : Operand} (ho : o.op = .store t a x) {n base ix wd f : Nat} (ha : srel ι (.ptr n base ix wd f) (ρ a)) {v : AVal} (hv : vrel ι v (ρ x))
    {size : Nat} (hsz : cells P t = some size) {b : Blk} (hb : hp n = some b)
    (h : evStore b n base ix wd f size v K = some r) : Good P o ρ ι I nx hp w K r := by
  obtain ⟨lo, k, h1, h2, h3, h4⟩ := ha
  obtain ⟨hwf, hlen, hold, hI, _⟩ := blk_at hs hb h1 h2
  have hex : ∀ w', (storeVar t ⟨k, lo.off + (base + ix * wd + f), none⟩ (ρ x)).run P w = .ok () w' → (execOp ρ o).run P w = .ok .skip w' := by
    intro w' hx
    unfold execOp
    rw [ho]
    simp only [Instr.storeAt, h3, Instr.sureAddr, Sem.run_bind, Sem.run_pure, Result.andThen_ok, hx]
  have fin : ∀ (g' : Segs) (s : Nat) (l' : List Sc) (cs : List Value), s = base + ix * wd + f → b.rw = true → (ρ x).cells = cs.toArray → cs.length = size → krel ι l' cs → s + l'.length ≤ (flats b.g).length → wfs g' →
      flats g' = (flats b.g).take s ++ l' ++ (flats b.g).drop (s + l'.length) → K (.s .top) [(n, some ⟨true, g'⟩)] 0 = some r → Good P o ρ ι I nx hp w K r := by
    intro g' s l' cs hse hrw hc hcl hk hle hg' he hK
    subst hse
    obtain ⟨p, q⟩ := good_write hs hb hrw h1 h2 hk hle hg' he
    obtain ⟨C, e, fr, c1, c2, c3, c4, c5⟩ := hold.ex
    refine ⟨.s .top, _, 0, undef, _, ι, I, hK, trivial, p, Map.up_refl _ _, q, .inr ⟨hex _ ?_, rfl⟩⟩
    refine storeVar_run hsz hc hcl (krel_one hk) c1 ?_ c4
    have := krel_len hk
    omega
  unfold evStore at h
  cases hrw : b.rw with
  | false => rw [hrw] at h; cases h
  | true =>
  rw [hrw] at h
  cases v with
  | tup vs => cases h
  | c v =>
  cases v with
  | sc u =>
    dsimp only at h
    split at h
    · rename_i hs1 htop
      have := beq_of hs1; subst this
      have hkn : u.known := by cases u <;> first | trivial | (simp [Sc.isTop] at htop)
      have hone := srel_one hv hkn
      obtain ⟨g', hg', he, hK⟩ := stSc_spec hwf (srel_fine hv) (by rw [← hlen]; exact h4) h
      refine fin g' _ [u] [ρ x] rfl hrw hone.2 rfl (.cons ⟨hv, hone⟩ .nil) (by simp; omega) hg' ?_ hK
      rw [he, set_eq_splice _ _ _ (by omega)]
      rfl
    · cases h
  | agg u =>
    dsimp only at h
    obtain ⟨hwu, cs, hcx, hcs⟩ := hv
    have hlu := flats_len hwu
    have hcl := krel_len hcs
    unfold stAgg at h
    split at h
    · rename_i hw0
      have := beq_of hw0; subst this
      split at h
      · rename_i p q hf0 hsp
        have := beq_of hf0; subst this
        split at h
        · rename_i x' z htk
          split at h
          · rename_i hsize
            have hsz2 := beq_of hsize
            obtain ⟨e1, s1⟩ := splitS_spec _ _ _ _ hsp
            obtain ⟨e2, s2⟩ := takeS_spec _ _ _ _ htk
            subst e2
            rw [e1] at hwf
            obtain ⟨wp, wq⟩ := wfs_append.1 hwf
            obtain ⟨wx, wz⟩ := wfs_append.1 wq
            have lp := flats_len wp
            have lx := flats_len wx
            have e3 : flats b.g = flats p ++ (flats x' ++ flats z) := by rw [e1, flats_append, flats_append]
            have e4 : base + ix * 0 + 0 = (flats p).length := by omega
            refine fin (p ++ u ++ z) _ (flats u) cs rfl hrw (by rw [hcx]; rfl) (by omega) hcs ?_ (wfs_append.2 ⟨wfs_append.2 ⟨wp, hwu⟩, wz⟩) ?_ h
            · rw [e3, e4]; simp; omega
            · rw [e3, e4, flats_append, flats_append, List.take_left, ← List.append_assoc (flats p), List.drop_append_of_le_length (by simp; omega)]
              congr 1
              rw [List.drop_of_length_le (by simp; omega)]
              rfl
          · cases h
        · cases h
      · cases h
    · split at h
      · rename_i fs xs m l hg hl
        split at h
        · rename_i tu h5 h6 h7 h8 h9
          have := beq_of h5; subst this
          have := beq_of h6; subst this
          have := beq_of h7; subst this
          have := beq_of h8; subst this
          have hou : flats u = l := onesOf_flats hl
          have htu := tupOf_spec _ _ _ h9
          rw [hg] at hwf hlen
          have hx : xs.length = m := (wfs_cons.1 hwf).1
          rw [flats_one, Seg.flat_len (wfs_cons.1 hwf).1] at hlen
          simp only [Seg.size] at hlen
          have hix : ix < xs.length := by
            rcases Nat.lt_or_ge ix xs.length with hh | hh
            · exact hh
            · exfalso
              have := Nat.mul_le_mul_right fs.length hh
              rw [hx] at this
              omega
          have hle : ix * fs.length + fs.length ≤ xs.length * fs.length := by
            have := Nat.mul_le_mul_right fs.length (Nat.succ_le_of_lt hix)
            rwa [Nat.succ_mul] at this
          have hfl : flats b.g = xs.flatMap (tupSc fs) := by rw [hg, flats_one]; rfl
          have hul : (flats u).length = fs.length := by rw [hou, ← htu, tupSc_len]
          refine fin _ _ (flats u) cs rfl hrw (by rw [hcx]; rfl) (by omega) hcs ?_ (wfs_cons.2 ⟨by simp [Seg.wf, hx], fun _ h => by cases h⟩) ?_ h
          · rw [hfl, flatMap_len _ fs.length (tupSc_len fs)]; omega
          · rw [hfl, flats_one]
            simp only [Seg.flat]
            have e5 : 0 + ix * fs.length + 0 = ix * fs.length := by omega
            rw [e5, hul, hou, ← htu]
            exact splice_rec xs ix tu hix
        · cases h
      · cases h
end
end Go.Ev

namespace Go.Ev
section
variable {R : Type} {P : Program} {o : Oper} {ρ : Operand → Value} {ι : Map} {I : Nat → Prop} {nx : Nat} {hp : Nat → Option Blk} {w : World} {K : AVal → Eff → Nat → Option R} {r : R}

theorem rowOf_spec {n wd : Nat} {row : Seg} (h : rowOf hp n wd = some row) : ∃ b, hp n = some b ∧ b.g = [row] ∧ row.width = wd := by
  unfold rowOf at h
  split at h
  · rename_i b hb
    split at h
    · rename_i q hg
      split at h
      · rename_i hw
        cases h
        exact ⟨b, hb, hg, beq_of hw⟩
      · cases h
    · cases h
  · cases h
/-- A slice's row. -/
structure RowAt (P : Program) (ι : Map) (w : World) (wd : Nat) (row : Seg) (X : Value) : Prop where
  ex : ∃ oa c, X = .slice oa (lenG row) c ∧ lenG row ≤ c ∧ lenG row ≤ maxL ∧ row.wf ∧ row.cnt = lenG row ∧
    ∀ k, k ≤ lenG row → ∃ cs : List Value, (Builtin.firstCells wd k X).run P w = .ok cs.toArray w ∧ krel ι (row.flat.take (k * wd)) cs

theorem slice_row (hs : HSim ι I nx hp w) {n wd : Nat} {rr : Option (Nat × Nat)} {cap : Option Nat} {X : Value} (hX : srel ι (.slice n wd rr cap) X) {e : TypeId} {row : Seg}
    (h : sliceRow P hp e (.slice n wd rr cap) = some row) : row.width = wd ∧ 0 < wd ∧ RowAt P ι w wd row X ∧ lenSl hp (.slice n wd rr cap) = some (lenG row) := by
  obtain ⟨oa, l, c, lo, rfl, h2, h3, h4, h5, h6, h7, h8⟩ := hX
  have cellsAt : ∀ (b : Blk) (s : Nat) (k : Nat) (base : Seg), hp n = some b → b.g = [base] → base.wf → lo.blk = some k → oa = some ⟨k, lo.off + s * wd, none⟩ → (s + l) * wd ≤ base.size →
      ∀ q, q ≤ l → ∃ cs : List Value, (Builtin.firstCells wd q (.slice oa l c)).run P w = .ok cs.toArray w ∧ krel ι (((base.flat.drop (s * wd)).take (l * wd)).take (q * wd)) cs := by
    intro b s k base hb hg hwf hk hoa hle q hq
    obtain ⟨_, hlen, hold, _, _⟩ := blk_at hs hb h6 hk
    rw [hg, flats_one] at hold
    have hql := Nat.mul_le_mul_right wd hq
    obtain ⟨cs, c1, c2⟩ := hold.cells (P := P) (s * wd) (q * wd) (by rw [Seg.flat_len hwf]; rw [Nat.add_mul] at hle; omega)
    rw [List.take_take, Nat.min_eq_left hql]
    refine ⟨cs, ?_, c2⟩
    subst hoa
    exact c1
  have cells0 : l = 0 → ∀ fl : List Sc, fl = [] → ∀ q, q ≤ l → ∃ cs : List Value, (Builtin.firstCells wd q (.slice oa l c)).run P w = .ok cs.toArray w ∧ krel ι (fl.take (q * wd)) cs := by
    intro h0 fl hfl q hq
    subst h0
    have : q = 0 := by omega
    subst this
    refine ⟨[], ?_, by subst hfl; simp only [List.take_nil]; exact .nil⟩
    cases oa with
    | none => rfl
    | some a => simp [Builtin.firstCells, loadCells, loadCellsFrom]
  cases rr with
  | none =>
    simp only [sliceRow] at h
    obtain ⟨b, hb, hg, hw⟩ := rowOf_spec h
    obtain ⟨hwf, hlen⟩ := blk_len hs hb h6
    rw [hg] at hwf hlen
    have hrw := (wfs_cons.1 hwf).1
    rw [flats_one, Seg.flat_len hrw] at hlen
    have hc := size_cnt row (by omega)
    obtain ⟨h8a, h8b⟩ := h8
    have hcnt : row.cnt = l := by
      have : l * wd = row.cnt * wd := by rw [h8a, hlen, hc, hw]
      exact (Nat.eq_of_mul_eq_mul_right h3 this).symm
    have hlg : lenG row = l := by rw [lenG_cnt hrw (by omega), hcnt]
    refine ⟨hw, h3, ?_, by simp [lenSl, h]⟩
    have hcs : ∀ q, q ≤ l → ∃ cs : List Value, (Builtin.firstCells wd q (.slice oa l c)).run P w = .ok cs.toArray w ∧ krel ι (row.flat.take (q * wd)) cs := by
      rcases h8b with ⟨h0, _⟩ | ⟨k, h9, h10, _⟩
      · refine cells0 h0 _ (List.eq_nil_of_length_eq_zero ?_)
        rw [Seg.flat_len hrw, hc, hcnt, h0]; simp
      · intro q hq
        obtain ⟨cs, c1, c2⟩ := cellsAt b 0 k row hb hg hrw h9 (by rw [h10]; simp) (by rw [hc, hcnt, hw]; simp) q hq
        refine ⟨cs, c1, ?_⟩
        have hfull : row.flat.take (l * wd) = row.flat := List.take_of_length_le (by rw [Seg.flat_len hrw, hc, hcnt, hw]; exact Nat.le_refl _)
        rwa [Nat.zero_mul, List.drop_zero, hfull] at c2
    exact ⟨oa, c, by rw [hlg], by rw [hlg]; exact h4, by rw [hlg]; exact h2, hrw, by rw [hlg, hcnt], by rw [hlg]; exact hcs⟩
  | some p =>
    obtain ⟨s, l'⟩ := p
    obtain ⟨rfl, h8a, h8b⟩ := h8
    simp only [sliceRow] at h
    cases hro : rowOf hp n wd with
    | none => rw [hro] at h; cases h
    | some base =>
      rw [hro] at h
      obtain ⟨b, hb, hg, hw⟩ := rowOf_spec hro
      obtain ⟨hwf, hlen⟩ := blk_len hs hb h6
      rw [hg] at hwf hlen
      have hrw := (wfs_cons.1 hwf).1
      rw [flats_one, Seg.flat_len hrw] at hlen
      have hc := size_cnt base (by omega)
      have hle : s + l ≤ base.cnt := by
        have : (s + l) * wd ≤ base.cnt * wd := by rw [← hw, ← hc, ← hlen, hw]; exact h8a
        exact Nat.le_of_mul_le_mul_right this h3
      obtain ⟨s1, s2, s3, s4, s5, _⟩ := subG_spec hrw hle h
      refine ⟨by rw [s4, hw], h3, ?_, by simp [lenSl, s3]⟩
      rw [hw] at s5
      have hcs : ∀ q, q ≤ l → ∃ cs : List Value, (Builtin.firstCells wd q (.slice oa l c)).run P w = .ok cs.toArray w ∧ krel ι (row.flat.take (q * wd)) cs := by
        rcases h8b with ⟨h0, _⟩ | ⟨k, h9, h10, _⟩
        · refine cells0 h0 _ ?_
          rw [s5, h0]; simp
        · rw [s5]
          exact cellsAt b s k base hb hg hrw h9 h10 (by rw [hc, hw]; exact Nat.mul_le_mul_right _ hle)
      exact ⟨oa, c, by rw [s3], by rw [s3]; exact h4, by rw [s3]; exact h2, s1, by rw [s2, s3], by rw [s3]; exact hcs⟩
end
end Go.Ev

namespace Go.Ev
section
variable {R : Type} {P : Program} {o : Oper} {ρ : Operand → Value} {ι : Map} {I : Nat → Prop} {nx : Nat} {hp : Nat → Option Blk} {w : World} {K : AVal → Eff → Nat → Option R} {r : R}

theorem fieldOff_spec {s : TypeId} {f off : Nat} (h : fieldOff P s f = some off) :
    ∃ fs x n, P.underlying s = some (.struct fs) ∧ fs[f]? = some x ∧ x.offset = off ∧ cells P x.type = some (n + 1) := by
  unfold fieldOff at h
  split at h
  · rename_i fs hu
    split at h
    · rename_i x hx
      split at h
      · cases h
      · rename_i n hn hc
        cases h
        cases n with
        | zero => exact (hn rfl).elim
        | succ n => exact ⟨fs, x, n, hu, by simpa using hx, rfl, hc⟩
      · cases h
    · cases h
  · cases h
theorem fieldAt_run {s : TypeId} {f off : Nat} (h : fieldOff P s f = some off) (k d : Nat) :
    (Instr.fieldAt s (.pointer (some ⟨k, d, none⟩)) f).run P w = .ok (.pointer (some ⟨k, d + off, none⟩)) w := by
  obtain ⟨fs, x, n, h1, h2, h3, h4⟩ := fieldOff_spec h
  unfold Instr.fieldAt
  simp only [Sem.run_bind, run_und h1, Result.andThen_ok, h2, Instr.sureAddr, Sem.run_pure, fieldPlace, cells_run h4, Nat.add_one_ne_zero, if_false, Addr.add_plain', h3]
theorem good_fieldAddr (hs : HSim ι I nx hp w) {s : TypeId} {x : Operand} {f : Nat} (ho : o.op = .fieldAddr s x f) {n base ix wd fo : Nat} (hx : srel ι (.ptr n base ix wd fo) (ρ x)) {off : Nat} (hoff : fieldOff P s f = some off)
    (h : (match Nat.beq wd 0, hp n with
      | true, some b => match Nat.beq fo 0 && Nat.blt (base + off) (sizeS b.g) with
        | true => K (.s (.ptr n (base + off) 0 0 0)) [] 0
        | false => none
      | false, some _ => match rowOf hp n wd, Nat.beq fo 0 && Nat.beq base 0 && Nat.blt off wd with
        | some _, true => K (.s (.ptr n 0 ix wd off)) [] 0
        | _, _ => none
      | _, none => none) = some r) : Good P o ρ ι I nx hp w K r := by
  obtain ⟨lo, k, h1, h2, h3, h4⟩ := hx
  have hex : (execOp ρ o).run P w = .ok (.value (.pointer (some ⟨k, lo.off + (base + ix * wd + fo) + off, none⟩))) w := by
    unfold execOp
    rw [ho]
    simp only [h3, Sem.run_bind, fieldAt_run hoff, Result.andThen_ok, Sem.run_pure]
  split at h
  · rename_i b hw hb
    have := beq_of hw; subst this
    split at h
    · rename_i hc
      rw [Bool.and_eq_true] at hc
      obtain ⟨hc1, hc2⟩ := hc
      have := beq_of hc1; subst this
      have hc3 : base + off < sizeS b.g := by simpa [Nat.blt_eq] using hc2
      obtain ⟨hwf, hlen⟩ := blk_len hs hb h1
      refine good_pure hs h ?_ hex
      exact ⟨lo, k, h1, h2, by congr 3; omega, by rw [hlen, flats_len hwf]; omega⟩
    · cases h
  · rename_i b hw hb
    split at h
    · rename_i row hr hc
      simp only [Bool.and_eq_true] at hc
      obtain ⟨⟨hc1, hc2⟩, hc3⟩ := hc
      have := beq_of hc1; subst this
      have := beq_of hc2; subst this
      have hc4 : off < wd := by simpa [Nat.blt_eq] using hc3
      obtain ⟨b', hb', hg, hrw⟩ := rowOf_spec hr
      obtain ⟨hwf, hlen⟩ := blk_len hs hb' h1
      rw [hg] at hwf hlen
      have hrwf := (wfs_cons.1 hwf).1
      rw [flats_one, Seg.flat_len hrwf, size_cnt row (by omega), hrw] at hlen
      refine good_pure hs h ?_ hex
      refine ⟨lo, k, h1, h2, by congr 3; omega, ?_⟩
      have hix : ix < row.cnt := by
        rcases Nat.lt_or_ge ix row.cnt with hh | hh
        · exact hh
        · exfalso
          have := Nat.mul_le_mul_right wd hh
          omega
      have := Nat.mul_le_mul_right wd (Nat.succ_le_of_lt hix)
      rw [Nat.succ_mul] at this
      omega
    · cases h
  · cases h

theorem inB_spec {i : Int} {n : Nat} (h : inB i n = true) : 0 ≤ i ∧ i < (n : Int) := by simpa [inB] using h
theorem leB_spec {i : Int} {n : Nat} (h : leB i n = true) : 0 ≤ i ∧ i ≤ (n : Int) := by simpa [leB] using h

theorem good_indexArr (hs : HSim ι I nx hp w) {t : TypeId} {x ixo : Operand} (ho : o.op = .indexAddr t x ixo) {n base : Nat} (hx : srel ι (.ptr n base 0 0 0) (ρ x)) {ki : IntKind} {i : Int} (hi : srel ι (.int ki i) (ρ ixo))
    (h : (match P.underlying t, hp n with
      | some (.array len e), some b => match cells P e, locate b.g base with
        | some sz, some (_, r, _) => match Nat.blt 0 sz && Nat.ble (base + len * sz) (sizeS b.g) with
          | false => none
          | true => match r.isOne with
          | true => gd (inB i len) (K (.s (.ptr n (base + i.toNat * sz) 0 0 0)) [] 0)
          | false => match Nat.beq r.width sz with
            | true => gd (inB i len) (K (.s (.ptr n base i.toNat sz 0)) [] 0)
            | false => none
        | _, _ => none
      | _, _ => none) = some r) : Good P o ρ ι I nx hp w K r := by
  obtain ⟨lo, k, h1, h2, h3, h4⟩ := hx
  obtain ⟨hi1, _⟩ := hi
  split at h
  · rename_i len e b hu hb
    obtain ⟨hwf, hlen⟩ := blk_len hs hb h1
    rw [flats_len hwf] at hlen
    split at h
    · rename_i sz x' rr z hsz hl
      split at h
      · cases h
      · rename_i hc
        rw [Bool.and_eq_true] at hc
        obtain ⟨hc1, hc2⟩ := hc
        have hc3 : 0 < sz := by simpa [Nat.blt_eq] using hc1
        have hc4 := Nat.le_of_ble_eq_true hc2
        have key : ∀ v : AVal, K v [] 0 = some r → (0 ≤ i ∧ i < (len : Int)) → vrel ι v (.pointer (some ⟨k, lo.off + (base + 0 * 0 + 0) + i.toNat * sz, none⟩)) → Good P o ρ ι I nx hp w K r := by
          intro v hK hb1 hv
          refine good_pure hs hK hv ?_
          unfold execOp
          rw [ho]
          simp only [Instr.indexAt, hi1, h3, asIntOf, Sem.run_bind, Sem.run_pure, Result.andThen_ok, run_und hu, Instr.sureAddr]
          rw [if_pos hb1]
          simp only [Sem.run_bind, cells_run hsz, Result.andThen_ok, Sem.run_pure, Addr.add_plain']
        have hlt : (0 ≤ i ∧ i < (len : Int)) → base + i.toNat * sz < lo.len := by
          intro hb1
          have h5 : i.toNat < len := by omega
          have := Nat.mul_le_mul_right sz (Nat.succ_le_of_lt h5)
          rw [Nat.succ_mul] at this
          omega
        split at h
        · obtain ⟨g1, g2⟩ := gd_some h
          have hb1 := inB_spec g1
          exact key _ g2 hb1 ⟨lo, k, h1, h2, by congr 3; omega, by have := hlt hb1; omega⟩
        · split at h
          · obtain ⟨g1, g2⟩ := gd_some h
            have hb1 := inB_spec g1
            exact key _ g2 hb1 ⟨lo, k, h1, h2, by congr 3; omega, by have := hlt hb1; omega⟩
          · cases h
    · cases h
  · cases h
theorem good_indexSl (hs : HSim ι I nx hp w) {t : TypeId} {x ixo : Operand} (ho : o.op = .indexAddr t x ixo) {n wd : Nat} {rr : Option (Nat × Nat)} {cap : Option Nat} (hx : srel ι (.slice n wd rr cap) (ρ x)) {ki : IntKind} {i : Int} (hi : srel ι (.int ki i) (ρ ixo))
    (h : (match lenSl hp (.slice n wd rr cap) with
      | some l => match elemOf' P t with
        | some e => match cells P e with
          | some sz => match Nat.beq sz wd with
            | true => gd (inB i l) (K (.s (.ptr n 0 (ixOf rr i.toNat) wd 0)) [] 0)
            | false => none
          | none => none
        | none => none
      | none => none) = some r) : Good P o ρ ι I nx hp w K r := by
  obtain ⟨hi1, _⟩ := hi
  obtain ⟨oa, l, c, lo, h1, h2, h3, h4, h5, h6, h7, h8⟩ := hx
  split at h
  · rename_i l' hl
    split at h
    · rename_i e he
      split at h
      · rename_i sz hsz
        split at h
        · rename_i hsw
          have := beq_of hsw; subst this
          obtain ⟨g1, g2⟩ := gd_some h
          have hb1 := inB_spec g1
          have hu : P.underlying t = some (.slice e) := by
            unfold elemOf' at he
            split at he
            · rename_i hu; cases he; exact hu
            · cases he
          have key : ∀ (s k : Nat), l' = l → lo.blk = some k → oa = some ⟨k, lo.off + s * sz, none⟩ → (s + l) * sz ≤ lo.len → ixOf rr i.toNat = s + i.toNat → Good P o ρ ι I nx hp w K r := by
            intro s k hll hk hoa hle hm
            subst hll
            subst hoa
            rw [hm] at g2
            refine good_pure hs g2 (x := .pointer (some ⟨k, lo.off + s * sz + i.toNat * sz, none⟩)) ⟨lo, k, h6, hk, ?_, ?_⟩ ?_
            · congr 3
              rw [Nat.add_mul]; omega
            · have h9 : s + i.toNat < s + l' := by omega
              have := Nat.mul_le_mul_right sz (Nat.succ_le_of_lt h9)
              rw [Nat.succ_mul] at this
              omega
            · unfold execOp
              rw [ho]
              simp only [Instr.indexAt, hi1, h1, asIntOf, Sem.run_bind, Sem.run_pure, Result.andThen_ok, run_und hu]
              rw [if_pos hb1]
              simp only [Sem.run_bind, cells_run hsz, Result.andThen_ok, Sem.run_pure, Addr.add_plain']
          cases rr with
          | none =>
            obtain ⟨h8a, h8b⟩ := h8
            have hll : l' = l := by
              simp only [lenSl] at hl
              cases hro : rowOf hp n sz with
              | none => rw [hro] at hl; cases hl
              | some row =>
                rw [hro] at hl; cases hl
                obtain ⟨b, hb, hg, hw⟩ := rowOf_spec hro
                obtain ⟨hwf, hlen⟩ := blk_len hs hb h6
                rw [hg] at hwf hlen
                have hrw := (wfs_cons.1 hwf).1
                rw [flats_one, Seg.flat_len hrw, size_cnt row (by omega), hw] at hlen
                rw [lenG_cnt hrw (by omega)]
                exact Nat.eq_of_mul_eq_mul_right h3 (by rw [← hlen, ← h8a])
            rcases h8b with ⟨h0, _⟩ | ⟨k, h9, h10, _⟩
            · exfalso; omega
            · exact key 0 k hll h9 (by rw [h10]; simp) (by rw [Nat.zero_add, h8a]; exact Nat.le_refl _) (by simp [ixOf])
          | some p =>
            obtain ⟨s, l2⟩ := p
            obtain ⟨rfl, h8a, h8b⟩ := h8
            simp only [lenSl, Option.some.injEq] at hl
            rcases h8b with ⟨h0, _⟩ | ⟨k, h9, h10, _⟩
            · exfalso; omega
            · exact key s k hl.symm h9 h10 h8a rfl
        · cases h
      · cases h
    · cases h
  · cases h

theorem good_indexStr (hs : HSim ι I nx hp w) {t : TypeId} {x ixo : Operand} (ho : o.op = .index t x ixo) {s : Str} (hx : srel ι (.str s) (ρ x)) {ki : IntKind} {i : Int} (hi : srel ι (.int ki i) (ρ ixo))
    (hu : P.underlying t = some .string) (h : gd (inB i s.length) (K (.s (.int .u8 ((s.getD i.toNat 0).toNat : Int))) [] 0) = some r) : Good P o ρ ι I nx hp w K r := by
  obtain ⟨hx1, hx2⟩ := hx
  obtain ⟨hi1, _⟩ := hi
  obtain ⟨g1, g2⟩ := gd_some h
  obtain ⟨a, b⟩ := inB_spec g1
  have hlt : i.toNat < s.length := by omega
  refine good_pure hs g2 (x := .int .u8 ((s.getD i.toNat 0).toNat : Int)) ⟨rfl, ?_⟩ ?_
  · generalize s.getD i.toNat 0 = b8
    have := b8.toNat_lt
    simp [fits, IntKind.min, IntKind.max, IntKind.signed, IntKind.bits]
    omega
  · unfold execOp
    rw [ho]
    have hg : (⟨s.toArray⟩ : ByteArray)[i.toNat]? = some s[i.toNat] := by
      have hsz : i.toNat < (⟨s.toArray⟩ : ByteArray).size := by rw [size_mk]; exact hlt
      rw [getElem?_pos (⟨s.toArray⟩ : ByteArray) i.toNat hsz]
      rfl
    simp only [Instr.index, hi1, hx1, asIntOf, Sem.run_bind, Sem.run_pure, Result.andThen_ok, run_und hu]
    rw [if_pos a, hg]
    simp [List.getD, List.getElem?_eq_getElem hlt]

theorem good_extract (hs : HSim ι I nx hp w) {t : Operand} {ix : Nat} (ho : o.op = .extract t ix) {vs : List Cmp} (ht : vrel ι (.tup vs) (ρ t)) {v : Cmp} (hv : vs[ix]? = some v) (h : K (.c v) [] 0 = some r) :
    Good P o ρ ι I nx hp w K r := by
  obtain ⟨xs, h1, h2⟩ := ht
  have key : ∀ (vs : List Cmp) (xs : List Value) (ix : Nat), All2 (crel ι) vs xs → vs[ix]? = some v → ∃ x, xs[ix]? = some x ∧ crel ι v x := by
    intro vs xs ix ha
    induction ha generalizing ix with
    | nil => intro h; simp at h
    | cons a _ ih =>
      intro h
      cases ix with
      | zero => simp at h; subst h; exact ⟨_, rfl, a⟩
      | succ ix => simpa using ih ix (by simpa using h)
  obtain ⟨x, h3, h4⟩ := key vs xs ix h2 hv
  refine good_pure hs h (x := x) h4 ?_
  unfold execOp
  rw [ho]
  simp only [Instr.extract, h1]
  have : xs.toArray[ix]? = some x := by simpa using h3
  rw [this]
  rfl
end
end Go.Ev

namespace Go.Ev
section
variable {R : Type} {P : Program} {o : Oper} {ρ : Operand → Value} {ι : Map} {I : Nat → Prop} {nx : Nat} {hp : Nat → Option Blk} {w : World} {K : AVal → Eff → Nat → Option R} {r : R}

theorem ldAgg_spec {b : Segs} {base ix wd f size : Nat} {K' : Segs → Option R} (hwf : wfs b) (h4 : base + ix * wd + f < (flats b).length) (h : ldAgg b base ix wd f size K' = some r) :
    ∃ g, wfs g ∧ flats g = ((flats b).drop (base + ix * wd + f)).take size ∧ base + ix * wd + f + size ≤ (flats b).length ∧ K' g = some r := by
  unfold ldAgg at h
  split at h
  · rename_i hw0
    have := beq_of hw0; subst this
    split at h
    · rename_i p q hf0 hsp
      have := beq_of hf0; subst this
      split at h
      · rename_i x z htk
        obtain ⟨e1, s1⟩ := splitS_spec _ _ _ _ hsp
        obtain ⟨e2, s2⟩ := takeS_spec _ _ _ _ htk
        subst e2
        rw [e1] at hwf
        obtain ⟨wp, wq⟩ := wfs_append.1 hwf
        obtain ⟨wx, wz⟩ := wfs_append.1 wq
        have lp := flats_len wp
        have lx := flats_len wx
        have e3 : flats b = flats p ++ (flats x ++ flats z) := by rw [e1, flats_append, flats_append]
        have e4 : base + ix * 0 + 0 = (flats p).length := by omega
        refine ⟨x, wx, ?_, ?_, h⟩
        · rw [e3, e4, List.drop_left, List.take_append_of_le_length (by omega), List.take_of_length_le (by omega)]
        · rw [e3, e4]; simp; omega
      · cases h
    · cases h
  · split at h
    · rename_i fs xs m
      split at h
      · rename_i h5 h6 h7 h8
        have := beq_of h5; subst this
        have := beq_of h6; subst this
        have := beq_of h7; subst this
        have := beq_of h8; subst this
        have hx : xs.length = m := (wfs_cons.1 hwf).1
        have hfl : flats [Seg.recs fs xs m] = xs.flatMap (tupSc fs) := by rw [flats_one]; rfl
        rw [hfl, flatMap_len _ fs.length (tupSc_len fs)] at h4
        have hix : ix < xs.length := by
          rcases Nat.lt_or_ge ix xs.length with hh | hh
          · exact hh
          · exfalso
            have := Nat.mul_le_mul_right fs.length hh
            omega
        have hle : ix * fs.length + fs.length ≤ xs.length * fs.length := by
          have := Nat.mul_le_mul_right fs.length (Nat.succ_le_of_lt hix)
          rwa [Nat.succ_mul] at this
        have hones : ∀ l : List Sc, flats (l.map Seg.one) = l ∧ wfs (l.map Seg.one) := by
          intro l
          induction l with
          | nil => exact ⟨rfl, fun _ h => by cases h⟩
          | cons a l ih => exact ⟨by rw [List.map_cons, flats_cons, ih.1]; rfl, wfs_cons.2 ⟨trivial, ih.2⟩⟩
        refine ⟨_, (hones _).2, ?_, ?_, h⟩
        · rw [(hones _).1, hfl]
          apply List.ext_getElem?
          intro j
          rw [List.getElem?_take]
          split
          · rename_i hj
            rw [List.getElem?_drop]
            have : 0 + ix * fs.length + 0 + j = ix * fs.length + j := by omega
            rw [this, flatMap_at _ fs.length (tupSc_len fs) _ _ _ hj, List.getElem?_eq_getElem hix]
            simp [List.getD, List.getElem?_eq_getElem hix]
          · rename_i hj
            rw [List.getElem?_eq_none (by rw [tupSc_len]; omega)]
        · rw [hfl, flatMap_len _ fs.length (tupSc_len fs)]; omega
      · cases h
    · rename_i q _
      split at h
      · rename_i x hc hx
        simp only [Bool.and_eq_true] at hc
        obtain ⟨⟨c1, c2⟩, c3, c4⟩ := hc
        have := beq_of c1; subst this
        have c2 := beq_of c2
        have := beq_of c3; subst this
        have := beq_of c4; subst this
        obtain ⟨g1, g2⟩ := gd_some h
        have hle : ix + size ≤ q.cnt := Nat.le_of_ble_eq_true g1
        have hq := (wfs_cons.1 hwf).1
        obtain ⟨s1, s2, s3, s4, s5, _⟩ := subG_spec hq hle hx
        refine ⟨[x], wfs_cons.2 ⟨s1, fun _ h => by cases h⟩, ?_, ?_, g2⟩
        · rw [flats_one, flats_one, s5, c2, Nat.mul_one, Nat.mul_one, Nat.zero_add, Nat.add_zero]
        · rw [flats_one, Seg.flat_len hq, size_cnt q (by omega), c2]; omega
      · cases h
    · cases h
theorem krel_get {l : List Sc} {cs : List Value} (h : krel ι l cs) : ∀ {i : Nat} {x : Sc}, l[i]? = some x → ∃ v, cs[i]? = some v ∧ srel ι x v := by
  unfold krel at h
  induction h with
  | nil => intro i x hx; simp at hx
  | cons a _ ih =>
    intro i x hx
    cases i with
    | zero => simp at hx; subst hx; exact ⟨_, rfl, a.1⟩
    | succ i => exact ih (by simpa using hx)
theorem krel_part {l : List Sc} {cs : List Value} (h : krel ι l cs) : ∀ (s m : Nat), krel ι ((l.drop s).take m) ((cs.drop s).take m) := by
  have hd : ∀ (s : Nat) {l : List Sc} {cs : List Value}, krel ι l cs → krel ι (l.drop s) (cs.drop s) := by
    intro s
    induction s with
    | zero => exact fun h => h
    | succ s ih =>
      intro l cs h
      cases h with
      | nil => exact .nil
      | cons _ h => exact ih h
  have ht : ∀ (m : Nat) {l : List Sc} {cs : List Value}, krel ι l cs → krel ι (l.take m) (cs.take m) := by
    intro m
    induction m with
    | zero => intro l cs _; simp; exact .nil
    | succ m ih =>
      intro l cs h
      cases h with
      | nil => exact .nil
      | cons a h => exact .cons a (ih h)
  exact fun s m => ht m (hd s h)
theorem good_indexAgg (hs : HSim ι I nx hp w) {t : TypeId} {x ixo : Operand} (ho : o.op = .index t x ixo) {rr : Seg} (hx : crel ι (.agg [rr]) (ρ x)) {ki : IntKind} {i : Int} (hi : srel ι (.int ki i) (ρ ixo))
    {len : Nat} {e : TypeId} (hu : P.underlying t = some (.array len e)) {wd : Nat} (hwd : cells P e = some wd) (hc : (!rr.isOne && Nat.beq rr.cnt len && (Nat.beq rr.width wd && Nat.blt 0 wd)) = true)
    (h : gd (inB i len) (match aggOf P e with
      | some true => ldAgg [rr] 0 i.toNat wd 0 wd fun g => K (.g g) [] 0
      | some false => ldSc [rr] 0 i.toNat wd 0 fun v => K (.s v) [] 0
      | none => none) = some r) : Good P o ρ ι I nx hp w K r := by
  obtain ⟨hwf, cs, hX, hk⟩ := hx
  obtain ⟨hi1, _⟩ := hi
  obtain ⟨g1, g2⟩ := gd_some h
  obtain ⟨a, b⟩ := inB_spec g1
  rw [Bool.and_eq_true, Bool.and_eq_true, Bool.and_eq_true] at hc
  obtain ⟨⟨c1, c2⟩, c3, c4⟩ := hc
  have c2 := beq_of c2
  have c3 := beq_of c3
  have c4 : 0 < wd := by simpa [Nat.blt_eq] using c4
  have hlt : i.toNat < len := by omega
  have hrr := (wfs_cons.1 hwf).1
  have hfl : (flats [rr]).length = len * wd := by
    rw [flats_one, Seg.flat_len hrr, ← c2, ← c3]
    cases rr with
    | one v => simp [Seg.isOne] at c1
    | recs fs xs n => simp [Seg.size, Seg.cnt, Seg.width]
    | _ => simp [Seg.size, Seg.cnt, Seg.width]
  have hin : i.toNat * wd + wd ≤ len * wd := by
    have := Nat.mul_le_mul_right wd (Nat.succ_le_of_lt hlt)
    rwa [Nat.succ_mul] at this
  have hidx : ∀ {y : Value}, (part e cs.toArray (i.toNat * wd)).run P w = .ok y w → (execOp ρ o).run P w = .ok (.value y) w := by
    intro y hy
    unfold execOp
    rw [ho]
    simp only [hX, hi1, Instr.index, Sem.run_bind, asIntOf, Sem.run_pure, Result.andThen_ok, run_und hu]
    rw [if_pos ⟨a, b⟩]
    simp only [Sem.run_bind, cells_run hwd, Result.andThen_ok, hy, Sem.run_pure]
  split at g2
  · rename_i hagg
    obtain ⟨g, wg, eg, le, hK⟩ := ldAgg_spec hwf (by rw [hfl]; omega) g2
    have hp1 : (part e cs.toArray (i.toNat * wd)).run P w = .ok (.agg (cs.toArray.extract (i.toNat * wd) (i.toNat * wd + wd))) w := by
      unfold part
      rw [Sem.run_bind, aggOf_run hagg]
      simp only [Result.andThen_ok, if_true, Sem.run_bind, cells_run hwd, Sem.run_pure]
    refine good_pure hs hK (x := .agg (cs.toArray.extract (i.toNat * wd) (i.toNat * wd + wd))) ⟨wg, (cs.drop (i.toNat * wd)).take wd, ?_, ?_⟩ (hidx hp1)
    · congr 1
      apply Array.ext'
      simp [List.extract_eq_take_drop]
    · rw [eg]
      have := krel_part hk (i.toNat * wd) wd
      rwa [show 0 + i.toNat * wd + 0 = i.toNat * wd by omega]
  · rename_i hagg
    obtain ⟨v, hv, hK⟩ := ldSc_spec hwf (by rw [hfl]; omega) g2
    obtain ⟨y, hy1, hy2⟩ := krel_get hk hv
    rw [show 0 + i.toNat * wd + 0 = i.toNat * wd by omega] at hy1
    refine good_pure hs hK (x := y) hy2 (hidx ?_)
    unfold part
    rw [Sem.run_bind, aggOf_run hagg]
    simp [hy1]
  · cases g2
theorem good_toArray (hs : HSim ι I nx hp w) {t : TypeId} {x : Operand} (ho : o.op = .sliceToArrayPointer t x) {n wd : Nat} {rr : Option (Nat × Nat)} {cap : Option Nat} (hx : srel ι (.slice n wd rr cap) (ρ x))
    {m : Nat} {e : TypeId} (hu : P.underlying t = some (.array m e)) {l' : Nat} (hl : lenSl hp (.slice n wd rr cap) = some l') {sz : Nat} (hm : (Nat.beq sz wd && Nat.blt 0 m) = true)
    (h : gd (Nat.ble m l') (K (.s (.ptr n 0 (begOf rr) wd 0)) [] 0) = some r) : Good P o ρ ι I nx hp w K r := by
  rw [Bool.and_eq_true] at hm
  have hm0 : 0 < m := by simpa [Nat.blt_eq] using hm.2
  obtain ⟨g1, g2⟩ := gd_some h
  have g1 : m ≤ l' := Nat.le_of_ble_eq_true g1
  obtain ⟨oa, l, c, lo, h1, h2, h3, h4, h5, h6, h7, h8⟩ := hx
  have key : ∀ (s k : Nat), l' = l → lo.blk = some k → oa = some ⟨k, lo.off + s * wd, none⟩ → (s + l) * wd ≤ lo.len → begOf rr = s → Good P o ρ ι I nx hp w K r := by
    intro s k hll hk hoa hle hb
    subst hll
    subst hoa
    rw [hb] at g2
    refine good_pure hs g2 (x := .pointer (some ⟨k, lo.off + s * wd, none⟩)) ⟨lo, k, h6, hk, ?_, ?_⟩ ?_
    · congr 3
      omega
    · have h9 : s + 0 < s + l' := by omega
      have := Nat.mul_le_mul_right wd (Nat.succ_le_of_lt h9)
      rw [Nat.succ_mul] at this
      omega
    · unfold execOp
      rw [ho]
      simp only [Instr.arrayAt, h1, Sem.run_bind, run_und hu, Result.andThen_ok]
      rw [if_neg (by omega)]
      rfl
  cases rr with
  | none =>
    obtain ⟨h8a, h8b⟩ := h8
    have hll : l' = l := by
      simp only [lenSl] at hl
      cases hro : rowOf hp n wd with
      | none => rw [hro] at hl; cases hl
      | some row =>
        rw [hro] at hl; cases hl
        obtain ⟨b, hb, hg, hw⟩ := rowOf_spec hro
        obtain ⟨hwf, hlen⟩ := blk_len hs hb h6
        rw [hg] at hwf hlen
        have hrw := (wfs_cons.1 hwf).1
        rw [flats_one, Seg.flat_len hrw, size_cnt row (by omega), hw] at hlen
        rw [lenG_cnt hrw (by omega)]
        exact Nat.eq_of_mul_eq_mul_right h3 (by rw [← hlen, ← h8a])
    rcases h8b with ⟨h0, _⟩ | ⟨k, h9, h10, _⟩
    · exfalso; omega
    · exact key 0 k hll h9 (by rw [h10]; simp) (by rw [Nat.zero_add, h8a]; exact Nat.le_refl _) rfl
  | some p =>
    obtain ⟨s, l2⟩ := p
    obtain ⟨rfl, h8a, h8b⟩ := h8
    simp only [lenSl, Option.some.injEq] at hl
    rcases h8b with ⟨h0, _⟩ | ⟨k, h9, h10, _⟩
    · exfalso; omega
    · exact key s k hl.symm h9 h10 h8a rfl
end
end Go.Ev

namespace Go.Ev
section
variable {R : Type} {P : Program} {o : Oper} {ρ : Operand → Value} {ι : Map} {I : Nat → Prop} {nx : Nat} {hp : Nat → Option Blk} {w : World} {K : AVal → Eff → Nat → Option R} {r : R}

def brel : Option Int → Option Value → Prop
  | none, v => v = none
  | some n, v => ∃ k, v = some (.int k n)
def bOf (d : Nat) : Option Int → Nat
  | none => d
  | some n => n.toNat
def mxOf : Option Int → Nat → Option Nat
  | none, _ => none
  | some m, a => some (m.toNat - a)
def bIn (m : Nat) : Option Int → Prop
  | none => True
  | some n => 0 ≤ n ∧ n ≤ (m : Int)

theorem sliceBounds_run {isSl : Bool} {len cap : Nat} {lo hi mx : Option Int} {vl vh vm : Option Value} (h1 : brel lo vl) (h2 : brel hi vh) (h3 : brel mx vm)
    (hm : bIn cap mx) (hh : bIn (bOf cap mx) hi) (hl : bIn (bOf len hi) lo) (hx : mx.isSome = true → hi.isSome = true) :
    (Instr.sliceBounds isSl len cap vl vh vm).run P w = .ok (bOf 0 lo, bOf len hi, bOf cap mx) w := by
  have sb : ∀ (n : Int) (k : IntKind) (m : Nat) (code : BoundsCode), 0 ≤ n ∧ n ≤ (m : Int) → (Instr.sliceBound (.int k n) m code).run P w = .ok n.toNat w := by
    intro n k m code hb
    unfold Instr.sliceBound
    simp only [asIntOf, Sem.run_bind, Sem.run_pure, Result.andThen_ok]
    rw [if_pos hb]
    rfl
  unfold Instr.sliceBounds
  cases mx with
  | none =>
    simp only [brel] at h3
    subst h3
    cases hi with
    | none =>
      simp only [brel] at h2
      subst h2
      cases lo with
      | none => simp only [brel] at h1; subst h1; rfl
      | some a =>
        obtain ⟨k, rfl⟩ := h1
        have hl' : 0 ≤ a ∧ a ≤ (len : Int) := hl
        simp only [Sem.run_bind, Sem.run_pure, Result.andThen_ok, sb a k _ _ hl', bOf]
    | some b =>
      obtain ⟨kb, rfl⟩ := h2
      have hh' : 0 ≤ b ∧ b ≤ (cap : Int) := hh
      cases lo with
      | none =>
        simp only [brel] at h1; subst h1
        simp only [Sem.run_bind, Sem.run_pure, Result.andThen_ok, sb b kb _ _ hh', bOf]
      | some a =>
        obtain ⟨k, rfl⟩ := h1
        have hl' : 0 ≤ a ∧ a ≤ (b.toNat : Int) := hl
        simp only [Sem.run_bind, Sem.run_pure, Result.andThen_ok, sb b kb _ _ hh', sb a k _ _ hl', bOf]
  | some m =>
    obtain ⟨km, rfl⟩ := h3
    cases hi with
    | none => simp at hx
    | some b =>
      obtain ⟨kb, rfl⟩ := h2
      have hm' : 0 ≤ m ∧ m ≤ (cap : Int) := hm
      have hh' : 0 ≤ b ∧ b ≤ (m.toNat : Int) := hh
      cases lo with
      | none =>
        simp only [brel] at h1; subst h1
        simp only [Sem.run_bind, Sem.run_pure, Result.andThen_ok, sb m km _ _ hm', sb b kb _ _ hh', bOf]
      | some a =>
        obtain ⟨k, rfl⟩ := h1
        have hl' : 0 ≤ a ∧ a ≤ (b.toNat : Int) := hl
        simp only [Sem.run_bind, Sem.run_pure, Result.andThen_ok, sb m km _ _ hm', sb b kb _ _ hh', sb a k _ _ hl', bOf]

theorem cutSl_spec {s l c : Nat} {lo hi mx : Option Int} {K : Nat → Nat → Option Nat → Option R} (hlc : l ≤ c) (h : cutSl s l lo hi mx K = some r) :
    bIn c mx ∧ bIn (bOf c mx) hi ∧ bIn (bOf l hi) lo ∧ (mx.isSome = true → hi.isSome = true) ∧ bOf 0 lo ≤ bOf l hi ∧ bOf l hi ≤ l ∧ bOf l hi ≤ bOf c mx ∧ bOf c mx ≤ c ∧
    K (s + bOf 0 lo) (bOf l hi - bOf 0 lo) (mxOf mx (bOf 0 lo)) = some r := by
  unfold cutSl at h
  split at h
  · exact ⟨trivial, trivial, trivial, by simp, Nat.zero_le _, Nat.le_refl _, hlc, Nat.le_refl _, h⟩
  · rename_i a
    obtain ⟨g1, g2⟩ := gd_some h
    have := leB_spec g1
    exact ⟨trivial, trivial, this, by simp, by simp only [bOf]; omega, Nat.le_refl _, hlc, Nat.le_refl _, g2⟩
  · rename_i b
    obtain ⟨g1, g2⟩ := gd_some h
    have := leB_spec g1
    exact ⟨trivial, by simp only [bIn, bOf]; omega, trivial, by simp, Nat.zero_le _, by simp only [bOf]; omega, by simp only [bOf]; omega, Nat.le_refl _, g2⟩
  · rename_i a b
    obtain ⟨g1, g2⟩ := gd_some h
    obtain ⟨g3, g4⟩ := gd_some g2
    have := leB_spec g1; have := leB_spec g3
    exact ⟨trivial, by simp only [bIn, bOf]; omega, by simp only [bIn, bOf]; omega, by simp, by simp only [bOf]; omega, by simp only [bOf]; omega, by simp only [bOf]; omega, Nat.le_refl _, g4⟩
  · rename_i a b m
    obtain ⟨g1, g2⟩ := gd_some h
    obtain ⟨g3, g4⟩ := gd_some g2
    obtain ⟨g5, g6⟩ := gd_some g4
    have := leB_spec g1; have := leB_spec g3; have := leB_spec g5
    exact ⟨by simp only [bIn]; omega, by simp only [bIn, bOf]; omega, by simp only [bIn, bOf]; omega, by simp, by simp only [bOf]; omega, by simp only [bOf]; omega, by simp only [bOf]; omega, by simp only [bOf]; omega, g6⟩
  · rename_i b m
    obtain ⟨g1, g2⟩ := gd_some h
    obtain ⟨g3, g4⟩ := gd_some g2
    have := leB_spec g1; have := leB_spec g3
    exact ⟨by simp only [bIn]; omega, by simp only [bIn, bOf]; omega, trivial, by simp, by simp only [bOf]; omega, by simp only [bOf]; omega, by simp only [bOf]; omega, by simp only [bOf]; omega, g4⟩
  · cases h
theorem cutStr_spec {s : Str} {lo hi : Option Int} {K : Str → Option R} (h : cutStr s lo hi K = some r) :
    bIn s.length hi ∧ bIn (bOf s.length hi) lo ∧ bOf 0 lo ≤ bOf s.length hi ∧ bOf s.length hi ≤ s.length ∧ K ((s.take (bOf s.length hi)).drop (bOf 0 lo)) = some r := by
  unfold cutStr at h
  split at h
  · exact ⟨trivial, trivial, Nat.zero_le _, Nat.le_refl _, by simpa [bOf] using h⟩
  · rename_i a
    obtain ⟨g1, g2⟩ := gd_some h
    have := leB_spec g1
    exact ⟨trivial, this, by simp only [bOf]; omega, Nat.le_refl _, by simpa [bOf] using g2⟩
  · rename_i b
    obtain ⟨g1, g2⟩ := gd_some h
    have := leB_spec g1
    exact ⟨this, trivial, Nat.zero_le _, by simp only [bOf]; omega, by simpa [bOf] using g2⟩
  · rename_i a b
    obtain ⟨g1, g2⟩ := gd_some h
    obtain ⟨g3, g4⟩ := gd_some g2
    have := leB_spec g1; have := leB_spec g3
    exact ⟨this.imp id id |> fun _ => leB_spec g1, by simp only [bIn, bOf]; omega, by simp only [bOf]; omega, by simp only [bOf]; omega, by simpa [bOf] using g4⟩

theorem extract_mk (s : Str) (l h : Nat) : (⟨s.toArray⟩ : ByteArray).extract l h = ⟨((s.take h).drop l).toArray⟩ := by
  apply ByteArray.ext
  rw [ByteArray.data_extract]
  simp [List.extract_eq_take_drop, List.drop_take]

theorem good_slice (hs : HSim ι I nx hp w) {t : TypeId} {xo : Operand} {lo ho mo : Option Operand} (hop : o.op = .slice t xo lo ho mo) {x : Sc} (hx : srel ι x (ρ xo)) {l h m : Option Int}
    (hl : brel l (lo.map ρ)) (hh : brel h (ho.map ρ)) (hm : brel m (mo.map ρ)) (hK : evSlice P t hp x l h m K = some r) : Good P o ρ ι I nx hp w K r := by
  have hex : ∀ X, (Instr.sliceAt t (ρ xo) (lo.map ρ) (ho.map ρ) (mo.map ρ)).run P w = .ok X w → (execOp ρ o).run P w = .ok (.value X) w := by
    intro X hX
    unfold execOp
    rw [hop]
    simp only [Sem.run_bind, hX, Result.andThen_ok, Sem.run_pure]
  unfold evSlice at hK
  split at hK
  · rename_i s hu
    obtain ⟨hx1, hx2⟩ := hx
    cases m with
    | some m => cases hK
    | none =>
      obtain ⟨c1, c2, c3, c4, c5⟩ := cutStr_spec hK
      simp only [brel] at hm
      refine good_pure hs c5 (x := .string ⟨((s.take (bOf s.length h)).drop (bOf 0 l)).toArray⟩) ⟨rfl, by simp; omega⟩ (hex _ ?_)
      unfold Instr.sliceAt
      simp only [Sem.run_bind, run_und hu, Result.andThen_ok, Instr.slice, hx1, hm, size_mk]
      have := sliceBounds_run (P := P) (w := w) (isSl := false) (len := s.length) (cap := s.length) hl hh (mx := none) rfl trivial (by simpa [bOf] using c1) c2 (by simp)
      simp only [Option.isSome_none, Bool.false_eq_true, if_false, Sem.run_bind, Sem.run_pure, Result.andThen_ok, this, extract_mk]
  · rename_i e n wd rr cap hu
    split at hK
    · rename_i row sz hrow hsz
      obtain ⟨q1, q2, q3, q4⟩ := slice_row (P := P) hs hx hrow
      split at hK
      · rename_i hsw
        have := beq_of hsw; subst this
        obtain ⟨oa, ll, c, lo', e1, e2, e3, e4, e5, e6, e7, e8⟩ := hx
        have hll : lenG row = ll := by
          obtain ⟨oa2, c2, f1, _⟩ := q3.ex
          rw [e1] at f1
          simp only [Value.slice.injEq] at f1
          exact f1.2.1.symm
        have run : ∀ (hm2 : bIn c m) (hh2 : bIn (bOf c m) h) (hl2 : bIn (bOf ll h) l) (hx2 : m.isSome = true → h.isSome = true),
            (Instr.sliceAt t (ρ xo) (lo.map ρ) (ho.map ρ) (mo.map ρ)).run P w =
              .ok (.slice (if bOf c m = bOf 0 l then oa else oa.map (·.add (bOf 0 l * sz))) (bOf ll h - bOf 0 l) (bOf c m - bOf 0 l)) w := by
          intro hm2 hh2 hl2 hx2
          unfold Instr.sliceAt
          simp only [Sem.run_bind, run_und hu, Result.andThen_ok, Instr.slice, e1]
          rw [sliceBounds_run (P := P) (w := w) (isSl := true) hl hh hm hm2 hh2 hl2 hx2]
          simp only [Result.andThen_ok, Sem.run_bind, cells_run hsz, Sem.run_pure]
        split at hK
        · refine good_pure hs hK (x := ρ xo) ?_ (hex _ ?_)
          · exact ⟨oa, ll, c, lo', e1, e2, e3, e4, e5, e6, e7, e8⟩
          · rw [run trivial trivial trivial (by simp), e1]
            congr 2
            simp only [bOf, Nat.zero_mul, Nat.sub_zero]
            split
            · rfl
            · cases oa with
              | none => rfl
              | some a => simp [Addr.add]
        · rename_i hnn
          rw [hll] at hK
          obtain ⟨c1, c2, c3, c4, c5, c6, c7, c8, c9⟩ := cutSl_spec e4 hK
          refine good_pure hs c9 ?_ (hex _ (run c1 c2 c3 c4))
          have hsl : ∀ s, begOf rr = s → (s + ll) * sz ≤ lo'.len → ((ll = 0 ∧ c = 0) ∨ ∃ b, lo'.blk = some b ∧ oa = some ⟨b, lo'.off + s * sz, none⟩ ∧ (cap = none → c + s = lo'.cap)) →
              vrel ι (.s (.slice n sz (some (begOf rr + bOf 0 l, bOf ll h - bOf 0 l)) (capMin cap (mxOf m (bOf 0 l)) (loOf l))))
                (.slice (if bOf c m = bOf 0 l then oa else oa.map (·.add (bOf 0 l * sz))) (bOf ll h - bOf 0 l) (bOf c m - bOf 0 l)) := by
            intro s hbs hle hd
            subst hbs
            have hl0 : loOf l = bOf 0 l := by cases l <;> rfl
            refine ⟨_, _, _, lo', rfl, by omega, e3, by omega, ?_, e6, ?_, rfl, ?_, ?_⟩
            · intro k hk
              rw [hl0] at hk
              cases m with
              | none =>
                cases cap with
                | none => simp [capMin, mxOf] at hk
                | some kc =>
                  simp only [capMin, mxOf, Option.some.injEq] at hk
                  have := e5 kc rfl
                  simp only [bOf] at *
                  omega
              | some mm =>
                simp only [capMin, mxOf, Option.some.injEq] at hk
                simp only [bOf] at *
                omega
            · intro hk
              refine e7 ?_
              cases m with
              | none =>
                cases cap with
                | none => rfl
                | some kc => simp [capMin, mxOf] at hk
              | some mm => simp [capMin, mxOf] at hk
            · refine Nat.le_trans (Nat.mul_le_mul_right sz ?_) hle
              omega
            · by_cases hc : bOf c m = bOf 0 l
              · exact .inl (by omega)
              · rw [if_neg hc]
                rcases hd with ⟨h0, h0c⟩ | ⟨b, d1, d2, d3⟩
                · exact .inl (by omega)
                · refine .inr ⟨b, d1, ?_, ?_⟩
                  · rw [d2]
                    simp only [Option.map_some, Addr.add_plain', Nat.add_mul, Nat.add_assoc]
                  · intro hk
                    rw [hl0] at hk
                    cases m with
                    | none =>
                      cases cap with
                      | none => have := d3 rfl; simp only [bOf] at *; omega
                      | some kc => simp [capMin, mxOf] at hk
                    | some mm => simp [capMin, mxOf] at hk
          cases rr with
          | none =>
            obtain ⟨e8a, e8b⟩ := e8
            refine hsl 0 rfl (by rw [Nat.zero_add, e8a]; exact Nat.le_refl _) ?_
            rcases e8b with hz | ⟨b, d1, d2, d3⟩
            · exact .inl hz
            · exact .inr ⟨b, d1, by rw [d2]; simp, fun hk => by have := d3 hk; omega⟩
          | some p =>
            obtain ⟨s, l2⟩ := p
            obtain ⟨_, e8a, e8b⟩ := e8
            exact hsl s rfl e8a e8b
      · cases hK
    · cases hK
  · rename_i e hu
    have hx' : ρ xo = .slice none 0 0 := hx
    split at hK
    case h_2 => cases hK
    rename_i sz hsz
    obtain ⟨c1, c2, c3, c4, c5, c6, c7, c8, c9⟩ := cutSl_spec (c := 0) (Nat.le_refl 0) hK
    refine good_pure hs c9 (x := .slice none 0 0) rfl (hex _ ?_)
    unfold Instr.sliceAt
    simp only [Sem.run_bind, run_und hu, Result.andThen_ok, Instr.slice, hx']
    rw [sliceBounds_run (P := P) (w := w) (isSl := true) hl hh hm c1 c2 c3 c4]
    simp only [Result.andThen_ok, Sem.run_bind, cells_run hsz, Sem.run_pure]
    have a1 : bOf 0 h - bOf 0 l = 0 := by omega
    have a2 : bOf 0 m - bOf 0 l = 0 := by omega
    rw [a1, a2]
    split <;> rfl
  · rename_i mm e n hu
    split at hK
    · rename_i wd hwd
      split at hK
      · rename_i row hrow
        split at hK
        · rename_i hcnt hw0
          rw [Bool.and_eq_true] at hcnt
          have hmx : mm ≤ maxL := Nat.le_of_ble_eq_true hcnt.2
          have hc := beq_of hcnt.1
          have hw1 : 0 < wd := by simpa [Nat.blt_eq] using hw0
          obtain ⟨lo', k, h1, h2, h3, h4⟩ := hx
          obtain ⟨b, hb, hg, hwid⟩ := rowOf_spec hrow
          obtain ⟨hwf, hlen⟩ := blk_len hs hb h1
          rw [hg] at hwf hlen
          have hrw := (wfs_cons.1 hwf).1
          rw [flats_one, Seg.flat_len hrw, size_cnt row (by omega), hwid, hc] at hlen
          obtain ⟨c1, c2, c3, c4, c5, c6, c7, c8, c9⟩ := cutSl_spec (Nat.le_refl mm) hK
          refine good_pure hs c9 (x := .slice (some (if bOf mm m = bOf 0 l then ⟨k, lo'.off, none⟩ else ⟨k, lo'.off + bOf 0 l * wd, none⟩)) (bOf mm h - bOf 0 l) (bOf mm m - bOf 0 l)) ?_ (hex _ ?_)
          · refine ⟨_, _, _, lo', rfl, by omega, hw1, by omega, ?_, h1, ?_, rfl, ?_, ?_⟩
            · intro k2 hk2
              cases m with
              | none => simp only [capMin, mxOf, Option.some.injEq] at hk2; simp only [bOf] at *; omega
              | some m2 => simp only [capMin, mxOf, Option.some.injEq] at hk2; simp only [bOf] at *; omega
            · intro hk2; cases m <;> simp [capMin, mxOf] at hk2
            · rw [hlen]; exact Nat.mul_le_mul_right wd (by omega)
            · by_cases hcc : bOf mm m = bOf 0 l
              · exact .inl (by omega)
              · rw [if_neg hcc]
                refine .inr ⟨k, h2, by simp, ?_⟩
                intro hk2; cases m <;> simp [capMin, mxOf] at hk2
          · unfold Instr.sliceAt
            simp only [Sem.run_bind, run_und hu, Result.andThen_ok, h3, Instr.sureAddr, Sem.run_pure]
            rw [sliceBounds_run (P := P) (w := w) (isSl := false) hl hh hm c1 c2 c3 c4]
            simp only [Result.andThen_ok, Sem.run_bind, cells_run hwd, Sem.run_pure, Addr.add_plain']
            congr 4
        · cases hK
      · cases hK
    · cases hK
  · cases hK
end
end Go.Ev
