/- Texts EvA, EvB, EvC, EvD, EvE, EvF, EvG, EvH, EvI, EvJ, EvK, EvL, EvM, EvN, EvO, EvP, EvQ, EvR, EvS, EvEq, EvIx of this proof; printed names are shortened. -/
import Derived.Tactics
import Derived.Laws.Cells
import Derived.Laws.Rows
import GoSem.ClaimKeys
import Derived.Laws.StructEq
import Derived.Laws.Pointers
import Derived.Laws.Cover3
import Derived.Laws.BytesString
import Derived.Laws.Append
import Derived.Laws.AppendOwn
import Derived.DeepKeys
set_option linter.unusedVariables false
set_option linter.unusedSimpArgs false
namespace Go.Ev
abbrev Str := List UInt8
inductive Fk where
  | int (k : IntKind) | str | bool
  deriving DecidableEq
@[reducible] def El : Fk → Type
  | .int _ => Int
  | .str => Str
  | .bool => Bool
@[reducible] def Tup : List Fk → Type
  | [] => Unit
  | f :: fs => El f × Tup fs
def elD : (f : Fk) → El f
  | .int _ => (0 : Int)
  | .str => ([] : List UInt8)
  | .bool => false
def tupD : (fs : List Fk) → Tup fs
  | [] => ()
  | f :: fs => (elD f, tupD fs)
inductive Sc where
  | bool (b : Bool)
  | int (k : IntKind) (n : Int)
  | str (s : Str)
  | ptr (n base ix w f : Nat)
  | nilp
  | slice (n w : Nat) (r : Option (Nat × Nat)) (cap : Option Nat)   
  | nilsl
  | fn (f : FuncId) (caps : List Nat)
  | nilfn
  | mapr (n : Nat)
  | nilmap
  | err (isnil : Bool)
  | top
def elSc : (f : Fk) → El f → Sc
  | .int k, n => .int k n
  | .str, s => .str s
  | .bool, b => .bool b
def tupSc : (fs : List Fk) → Tup fs → List Sc
  | [], _ => []
  | f :: fs, t => elSc f t.1 :: tupSc fs t.2
inductive Seg where
  | one (v : Sc)
  | ints (k : IntKind) (xs : List Int) (n : Nat)
  | bytes (xs : Str) (n : Nat)
  | strs (xs : List Str) (n : Nat)
  | recs (fs : List Fk) (xs : List (Tup fs)) (n : Nat)
def Seg.flat : Seg → List Sc
  | .one v => [v]
  | .ints k xs _ => xs.map fun x => .int k x
  | .bytes xs _ => xs.map fun b => .int .u8 (b.toNat : Int)
  | .strs xs _ => xs.map fun s => .str s
  | .recs fs xs _ => xs.flatMap (tupSc fs)
def Seg.size : Seg → Nat
  | .one _ => 1
  | .ints _ _ n => n
  | .bytes _ n => n
  | .strs _ n => n
  | .recs fs _ n => n * fs.length
def Seg.wf : Seg → Prop
  | .one _ => True
  | .ints _ xs n => xs.length = n
  | .bytes xs n => xs.length = n
  | .strs xs n => xs.length = n
  | .recs _ xs n => xs.length = n
abbrev Segs := List Seg
def flats (g : Segs) : List Sc := g.flatMap Seg.flat
inductive Cmp where
  | sc (v : Sc)
  | agg (g : Segs)
inductive AVal where
  | c (x : Cmp)
  | tup (vs : List Cmp)
@[reducible] def AVal.s (v : Sc) : AVal := .c (.sc v)
@[reducible] def AVal.g (g : Segs) : AVal := .c (.agg g)
def gd {R : Type} (b : Bool) (k : Option R) : Option R := match b with
  | true => k
  | false => none
def br {R : Type} (b : Bool) (x y : Option R) : Option R := match b with
  | true => x
  | false => y
def inB (i : Int) (n : Nat) : Bool := decide (0 ≤ i) && decide (i < (n : Int))
def leB (i : Int) (n : Nat) : Bool := decide (0 ≤ i) && decide (i ≤ (n : Int))
def look {α : Type _} : List (Nat × α) → Nat → Option α
  | [], _ => none
  | (a, x) :: r, n => match Nat.beq a n with
    | true => some x
    | false => look r n
def upd {α : Type} : List (Nat × α) → Nat → α → List (Nat × α)
  | [], n, x => [(n, x)]
  | (a, y) :: r, n, x => match Nat.beq a n with
    | true => (a, x) :: r
    | false => (a, y) :: upd r n x
def del {α : Type} : List (Nat × α) → Nat → List (Nat × α)
  | [], _ => []
  | (a, y) :: r, n => match Nat.beq a n with
    | true => del r n
    | false => (a, y) :: del r n
structure Blk where
  rw : Bool
  g : Segs
structure St where
  tm : List (Nat × AVal)
  hp : List (Nat × Blk)
  nx : Nat
abbrev Eff := List (Nat × Option Blk)
def applyE : Eff → List (Nat × Blk) → List (Nat × Blk)
  | [], h => h
  | (n, some g) :: r, h => applyE r (upd h n g)
  | (n, none) :: r, h => applyE r (del h n)
def fitsB (k : IntKind) (n : Int) : Bool := decide (k.min ≤ n) && decide (n ≤ k.max)
def constVal : Value → Option AVal
  | .bool b => some (.s (.bool b))
  | .int k n => match fitsB k n with
    | true => some (.s (.int k n))
    | false => none
  | .string s => match Nat.ble s.data.toList.length 9223372036854775807 with
    | true => some (.s (.str s.data.toList))
    | false => none
  | .pointer none => some (.s .nilp)
  | .slice none 0 0 => some (.s .nilsl)
  | .map none => some (.s .nilmap)
  | .nilFunc => some (.s .nilfn)
  | .nilIface => some (.s (.err true))
  | _ => none
def evOpnd (tm : Nat → Option AVal) : Operand → Option AVal
  | .tmp t => tm t
  | .const v => constVal v
  | .func f => some (.s (.fn f []))
  | .global _ => none
def locate : Segs → Nat → Option (Segs × Seg × Segs)
  | [], _ => none
  | g :: r, b => match Nat.beq b 0 with
    | true => some ([], g, r)
    | false => match Nat.ble g.size b with
      | true => match locate r (b - g.size) with
        | some (x, y, z) => some (g :: x, y, z)
        | none => none
      | false => none
def takeS : Segs → Nat → Option (Segs × Segs)
  | r, 0 => some ([], r)
  | [], _ + 1 => none
  | g :: r, n + 1 => match Nat.ble g.size (n + 1) with
    | true => match takeS r (n + 1 - g.size) with
      | some (x, y) => some (g :: x, y)
      | none => none
    | false => none
def splitS : Segs → Nat → Option (Segs × Segs)
  | r, 0 => some ([], r)
  | [], _ + 1 => none
  | g :: r, n + 1 => match Nat.ble g.size (n + 1) with
    | true => match splitS r (n + 1 - g.size) with
      | some (x, y) => some (g :: x, y)
      | none => none
    | false => none
def sizeS : Segs → Nat
  | [] => 0
  | g :: r => g.size + sizeS r
def tupAt : (fs : List Fk) → Tup fs → Nat → Option Sc
  | [], _, _ => none
  | f :: _, t, 0 => some (elSc f t.1)
  | _ :: fs, t, n + 1 => tupAt fs t.2 n
def tupSet : (fs : List Fk) → Tup fs → Nat → Sc → Option (Tup fs)
  | [], _, _, _ => none
  | .int k :: fs, t, 0, .int k' n => if k = k' then some (n, t.2) else none
  | .str :: fs, t, 0, .str s => some (s, t.2)
  | .bool :: fs, t, 0, .bool b => some (b, t.2)
  | _ :: _, _, 0, _ => none
  | _ :: fs, t, n + 1, v => match tupSet fs t.2 n v with
    | some u => some (t.1, u)
    | none => none
def tupOf : (fs : List Fk) → List Sc → Option (Tup fs)
  | [], [] => some ()
  | .int k :: fs, .int k' n :: r => if k = k' then match tupOf fs r with
      | some u => some (n, u)
      | none => none
    else none
  | .str :: fs, .str s :: r => match tupOf fs r with
    | some u => some (s, u)
    | none => none
  | .bool :: fs, .bool b :: r => match tupOf fs r with
    | some u => some (b, u)
    | none => none
  | _, _ => none
def Seg.elem (g : Seg) (ix w f : Nat) : Option Sc :=
  match g with
  | .one v => match Nat.beq w 0, Nat.beq f 0 with
    | true, true => match Nat.beq ix 0 with
      | true => some v
      | false => none
    | _, _ => none
  | .ints k xs _ => match Nat.beq w 1, Nat.beq f 0 with
    | true, true => some (.int k (xs.getD ix 0))
    | _, _ => none
  | .bytes xs _ => match Nat.beq w 1, Nat.beq f 0 with
    | true, true => some (.int .u8 ((xs.getD ix 0).toNat : Int))
    | _, _ => none
  | .strs xs _ => match Nat.beq w 1, Nat.beq f 0 with
    | true, true => some (.str (xs.getD ix []))
    | _, _ => none
  | .recs fs xs _ => match Nat.beq w fs.length with
    | true => tupAt fs (xs.getD ix (tupD fs)) f
    | _ => none
def Seg.setElem (g : Seg) (ix w f : Nat) (v : Sc) : Option Seg :=
  match g with
  | .one _ => match Nat.beq w 0, Nat.beq f 0 with
    | true, true => match Nat.beq ix 0 with
      | true => some (.one v)
      | false => none
    | _, _ => none
  | .ints k xs n => match Nat.beq w 1, Nat.beq f 0, v with
    | true, true, .int k' x => if k = k' then some (.ints k (xs.set ix x) n) else none
    | _, _, _ => none
  | .bytes xs n => match Nat.beq w 1, Nat.beq f 0, v with
    | true, true, .int .u8 x => some (.bytes (xs.set ix (UInt8.ofNat x.toNat)) n)
    | _, _, _ => none
  | .strs xs n => match Nat.beq w 1, Nat.beq f 0, v with
    | true, true, .str x => some (.strs (xs.set ix x) n)
    | _, _, _ => none
  | .recs fs xs n => match Nat.beq w fs.length with
    | true => match tupSet fs (xs.getD ix (tupD fs)) f v with
      | some u => some (.recs fs (xs.set ix u) n)
      | none => none
    | _ => none
def Seg.cnt : Seg → Nat
  | .one _ => 1
  | .ints _ _ n => n
  | .bytes _ n => n
  | .strs _ n => n
  | .recs _ _ n => n
def Seg.isOne : Seg → Bool
  | .one _ => true
  | _ => false
def Seg.width : Seg → Nat
  | .one _ => 0
  | .ints _ _ _ => 1
  | .bytes _ _ => 1
  | .strs _ _ => 1
  | .recs fs _ _ => fs.length
def addI (k : IntKind) (a b : Int) : Int := k.wrap (a + b)
def subI (k : IntKind) (a b : Int) : Int := k.wrap (a - b)
def mulI (k : IntKind) (a b : Int) : Int := k.wrap (a * b)
def quoI (k : IntKind) (a b : Int) : Int := k.wrap (a.tdiv b)
def remI (a b : Int) : Int := a.tmod b
def andI (k : IntKind) (a b : Int) : Int := k.wrap ((BitVec.ofInt k.bits a &&& BitVec.ofInt k.bits b).toNat : Int)
def orI (k : IntKind) (a b : Int) : Int := k.wrap ((BitVec.ofInt k.bits a ||| BitVec.ofInt k.bits b).toNat : Int)
def xorI (k : IntKind) (a b : Int) : Int := k.wrap ((BitVec.ofInt k.bits a ^^^ BitVec.ofInt k.bits b).toNat : Int)
def andNotI (k : IntKind) (a b : Int) : Int := k.wrap ((BitVec.ofInt k.bits a &&& ~~~ BitVec.ofInt k.bits b).toNat : Int)
def shlI (k : IntKind) (a b : Int) : Int := k.wrap (a * 2 ^ (min b.toNat k.bits))
def shrI (k : IntKind) (a b : Int) : Int := a.fdiv (2 ^ (min b.toNat k.bits))
def notI (k : IntKind) (a : Int) : Int := xorI k (if k.signed then -1 else k.max) a
def cvtI (k : IntKind) (a : Int) : Int := k.wrap a
def eqI (a b : Int) : Bool := decide (a = b)
def ltI (a b : Int) : Bool := decide (a < b)
def leI (a b : Int) : Bool := decide (a ≤ b)
def mnI (a b : Int) : Int := if b < a then b else a
def mxI (a b : Int) : Int := if b > a then b else a
def eqS (a b : Str) : Bool := decide (a = b)
def ltS (a b : Str) : Bool := Op.bytesLess a b
def catB (a b : Str) : Bool := decide (a.length + b.length ≤ 9223372036854775807)
def appB (n m bytes : Nat) : Bool := decide ((n + m) * bytes ≤ 140737488355328)
def makeB (n : Int) (bytes : Nat) : Bool := decide (0 ≤ n) && decide ((bytes : Int) * n ≤ 281474976710656)
def beqK : IntKind → IntKind → Bool
  | .i8, .i8 | .i16, .i16 | .i32, .i32 | .i64, .i64 | .u8, .u8 | .u16, .u16 | .u32, .u32 | .u64, .u64 => true
  | _, _ => false
section
variable {R : Type}
def evBinInt (op : BinOp) (k : IntKind) (a b : Int) (K : Sc → Option R) : Option R :=
  match op with
  | .add => K (.int k (addI k a b))
  | .sub => K (.int k (subI k a b))
  | .mul => K (.int k (mulI k a b))
  | .quo => gd (!eqI b 0) (K (.int k (quoI k a b)))
  | .rem => gd (!eqI b 0) (K (.int k (remI a b)))
  | .and => K (.int k (andI k a b))
  | .or => K (.int k (orI k a b))
  | .xor => K (.int k (xorI k a b))
  | .andNot => K (.int k (andNotI k a b))
  | .eql => K (.bool (eqI a b))
  | .neq => K (.bool (!eqI a b))
  | .lss => K (.bool (ltI a b))
  | .leq => K (.bool (leI a b))
  | .gtr => K (.bool (ltI b a))
  | .geq => K (.bool (leI b a))
  | _ => none
def evBinStr (op : BinOp) (a b : Str) (K : Sc → Option R) : Option R :=
  match op with
  | .add => gd (catB a b) (K (.str (a ++ b)))
  | .eql => K (.bool (eqS a b))
  | .neq => K (.bool (!eqS a b))
  | .lss => K (.bool (ltS a b))
  | .leq => K (.bool (ltS a b || eqS a b))
  | .gtr => K (.bool (!(ltS a b || eqS a b)))
  | .geq => K (.bool (!ltS a b))
  | _ => none
def isC : Operand → Bool
  | .const _ => true
  | _ => false
def eqSc : Option TypeDesc → Bool → Sc → Sc → Option Bool
  | some .bool, _, .bool a, .bool b => some (a == b)
  | some (.pointer _), _, .nilp, .nilp => some true
  | some (.pointer _), _, .nilp, .ptr .. => some false
  | some (.pointer _), _, .ptr .., .nilp => some false
  | some (.interface _), true, .err a, .err true => some a
  | some (.map _ _), _, .nilmap, .nilmap => some true
  | some (.map _ _), _, .mapr _, .nilmap => some false
  | some (.func _ _ _), _, .nilfn, .nilfn => some true
  | some (.func _ _ _), _, .fn .., .nilfn => some false
  | _, _, _, _ => none
def evBin (d : Option TypeDesc) (yc : Bool) (op : BinOp) (x y : Sc) (K : Sc → Option R) : Option R :=
  match op, x, y with
  | .shl, .int k a, .int _ b => gd (leI 0 b) (K (.int k (shlI k a b)))
  | .shr, .int k a, .int _ b => gd (leI 0 b) (K (.int k (shrI k a b)))
  | op, .int k a, .int k' b => match beqK k k' with
    | true => evBinInt op k a b K
    | false => none
  | op, .str a, .str b => evBinStr op a b K
  | .eql, x, y => match eqSc d yc x y with
    | some b => K (.bool b)
    | none => none
  | .neq, x, y => match eqSc d yc x y with
    | some b => K (.bool (!b))
    | none => none
  | _, _, _ => none
def evUn (op : UnOp) (x : Sc) (K : Sc → Option R) : Option R :=
  match op, x with
  | .not, .bool b => K (.bool (!b))
  | .neg, .int k n => K (.int k (subI k 0 n))
  | .xor, .int k n => K (.int k (notI k n))
  | _, _ => none
variable (P : Program)
def aggOf (t : TypeId) : Option Bool := match P.underlying t with
  | some (.struct _) => some true
  | some (.array _ _) => some true
  | some _ => some false
  | none => none
def cells (t : TypeId) : Option Nat := (P.info? t).map (·.size)
def bytesOf (t : TypeId) : Option Nat := (P.info? t).map (·.bytes)
def repS : Nat → Segs → Segs
  | 0, _ => []
  | n + 1, g => g ++ repS n g
def rowKind (t : TypeId) : Option Seg :=
  match P.underlying t with
  | some (.int .u8) => some (.bytes [] 0)
  | some (.int k) => some (.ints k [] 0)
  | some .string => some (.strs [] 0)
  | some (.struct fs) => match fkOf fs.toList with
    | some l => some (.recs l [] 0)
    | none => none
  | _ => none
where
  fkOf : List Field → Option (List Fk)
    | [] => some []
    | f :: r => match P.underlying f.type, fkOf r with
      | some (.int k), some l => some (.int k :: l)
      | some .string, some l => some (.str :: l)
      | some .bool, some l => some (.bool :: l)
      | _, _ => none
mutual
def zeroG : Nat → TypeId → Option Segs
  | 0, _ => none
  | fuel + 1, t => match P.underlying t with
    | some .bool => some [.one (.bool false)]
    | some (.int k) => some [.one (.int k 0)]
    | some .string => some [.one (.str [])]
    | some (.pointer _) => some [.one .nilp]
    | some (.slice _) => some [.one .nilsl]
    | some (.map _ _) => some [.one .nilmap]
    | some (.func _ _ _) => some [.one .nilfn]
    | some (.interface _) => some [.one (.err true)]
    | some (.struct fs) => zeroF fuel fs.toList
    | some (.array n e) => match P.underlying e with
      | some (.int .u8) => some [.bytes (List.replicate n 0) n]
      | some (.int k) => some [.ints k (List.replicate n 0) n]
      | some .string => some [.strs (List.replicate n []) n]
      | some .bool => some [.recs [.bool] (List.replicate n (tupD [.bool])) n]
      | _ => match rowKind P e with
        | some (.recs (f :: l) _ _) => some [.recs (f :: l) (List.replicate n (tupD (f :: l))) n]
        | _ => match zeroG fuel e with
          | some g => some (repS n g)
          | none => none
    | _ => none
def zeroF : Nat → List Field → Option Segs
  | 0, _ => none
  | _ + 1, [] => some []
  | fuel + 1, f :: r => match zeroG fuel f.type, zeroF fuel r with
    | some a, some b => some (a ++ b)
    | _, _ => none
end
def sameSc : Sc → Value → Bool
  | .bool a, .bool b => a == b
  | .int j a, .int k b => beqK j k && decide (a = b) && decide (a = 0)
  | .str a, .string s => a.isEmpty && s.data.toList.isEmpty
  | .nilp, .pointer none => true
  | .nilsl, .slice none 0 0 => true
  | .nilmap, .map none => true
  | .nilfn, .nilFunc => true
  | .err true, .nilIface => true
  | _, _ => false
def sameScs : List Sc → List Value → Bool
  | [], [] => true
  | a :: r, b :: q => sameSc a b && sameScs r q
  | _, _ => false
def wfB : Segs → Bool
  | [] => true
  | .one _ :: r => wfB r
  | .ints _ xs n :: r => Nat.beq xs.length n && wfB r
  | .bytes xs n :: r => Nat.beq xs.length n && wfB r
  | .strs xs n :: r => Nat.beq xs.length n && wfB r
  | .recs _ xs n :: r => Nat.beq xs.length n && wfB r
def zeroS (t : TypeId) : Option Segs :=
  match zeroG P 64 t, (P.info? t).map (·.zero) with
  | some g, some (some z) => match wfB g, sameScs (flats g) z.cells.toList with
    | true, true => some g
    | _, _ => none
  | _, _ => none
def catG : Seg → Seg → Option Seg
  | .ints k xs n, .ints k' ys m => match beqK k k' with
    | true => some (.ints k (xs ++ ys) (n + m))
    | false => none
  | .bytes xs n, .bytes ys m => some (.bytes (xs ++ ys) (n + m))
  | .strs xs n, .strs ys m => some (.strs (xs ++ ys) (n + m))
  | .recs fs xs n, .recs fs' ys m => if h : fs = fs' then some (.recs fs (xs ++ h ▸ ys) (n + m)) else none
  | _, _ => none
def subG : Seg → Nat → Nat → Option Seg
  | .ints k xs n, s, l => some (.ints k ((xs.drop s).take l) l)
  | .bytes xs n, s, l => some (.bytes ((xs.drop s).take l) l)
  | .strs xs n, s, l => some (.strs ((xs.drop s).take l) l)
  | .recs fs xs n, s, l => some (.recs fs ((xs.drop s).take l) l)
  | _, _, _ => none
def lenG : Seg → Nat
  | .ints _ xs _ => xs.length
  | .bytes xs _ => xs.length
  | .strs xs _ => xs.length
  | .recs _ xs _ => xs.length
  | .one _ => 0
variable (hp : Nat → Option Blk)
def rowOf (n w : Nat) : Option Seg := match hp n with
  | some b => match b.g with
    | [r] => match Nat.beq r.width w with
      | true => some r
      | false => none
    | _ => none
  | none => none
def ldSc (g : Segs) (base ix w f : Nat) (K : Sc → Option R) : Option R :=
  match locate g base with
  | some ([], r, []) => match r.elem ix w f with
    | some v => K v
    | none => none
  | some (_, r, _) => match r.elem ix w f with
    | some v => match r.isOne with
      | true => K v
      | false => gd (Nat.blt ix r.cnt) (K v)
    | none => none
  | none => none
def stSc (g : Segs) (base ix w f : Nat) (v : Sc) (K : Segs → Option R) : Option R :=
  match locate g base with
  | some ([], r, []) => match r.setElem ix w f v with
    | some r' => K [r']
    | none => none
  | some (a, r, b) => match r.setElem ix w f v with
    | some r' => match r.isOne with
      | true => K (a ++ r' :: b)
      | false => gd (Nat.blt ix r.cnt) (K (a ++ r' :: b))
    | none => none
  | none => none
def ldAgg (g : Segs) (base ix w f size : Nat) (K : Segs → Option R) : Option R :=
  match Nat.beq w 0 with
  | true => match Nat.beq f 0, splitS g base with
    | true, some (_, r) => match takeS r size with
      | some (x, _) => K x
      | none => none
    | _, _ => none
  | false => match g with
    | [.recs fs xs n] => match Nat.beq w fs.length, Nat.beq size fs.length, Nat.beq f 0, Nat.beq base 0 with
      | true, true, true, true => K ((tupSc fs (xs.getD ix (tupD fs))).map Seg.one)
      | _, _, _, _ => none
    | [q] => match Nat.beq w 1 && Nat.beq q.width 1 && (Nat.beq f 0 && Nat.beq base 0), subG q ix size with
      | true, some x => gd (Nat.ble (ix + size) q.cnt) (K [x])
      | _, _ => none
    | _ => none
def onesOf : Segs → Option (List Sc)
  | [] => some []
  | .one v :: r => match onesOf r with
    | some l => some (v :: l)
    | none => none
  | _ => none
def stAgg (g : Segs) (base ix w f size : Nat) (v : Segs) (K : Segs → Option R) : Option R :=
  match Nat.beq w 0 with
  | true => match Nat.beq f 0, splitS g base with
    | true, some (a, r) => match takeS r size with
      | some (_, b) => match Nat.beq (sizeS v) size with
        | true => K (a ++ v ++ b)
        | false => none
      | none => none
    | _, _ => none
  | false => match g, onesOf v with
    | [.recs fs xs n], some l => match Nat.beq w fs.length, Nat.beq size fs.length, Nat.beq f 0, Nat.beq base 0, tupOf fs l with
      | true, true, true, true, some u => K [.recs fs (xs.set ix u) n]
      | _, _, _, _, _ => none
    | _, _ => none
end
abbrev CallO := (R : Type) → FuncId → List AVal → (Nat → Option Blk) → Nat → (AVal → Eff → Nat → Option R) → Option R
abbrev LoopO := (R : Type) → Nat → St → (Exit → St → Option R) → Option R
section
variable {R : Type} (P : Program) (nt : Nat) (Γ : CallO)
def scOf : Option AVal → Option Sc
  | some (.c (.sc v)) => some v
  | _ => none
def opList (tm : Nat → Option AVal) : List Operand → Option (List AVal)
  | [] => some []
  | x :: r => match evOpnd tm x, opList tm r with
    | some v, some vs => some (v :: vs)
    | _, _ => none
def segsOf : AVal → Option Segs
  | .c (.sc .top) => none
  | .c (.sc v) => some [.one v]
  | .c (.agg g) => some g
  | .tup _ => none
def eqL (xs ys : List Int) : Bool := decide (xs = ys)
def eqBs (xs ys : List Str) : Bool := decide (xs = ys)
def eqSeg : Seg → Seg → Option Bool
  | .one (.int j a), .one (.int k b) => match beqK j k with
    | true => some (eqI a b)
    | false => none
  | .one (.str a), .one (.str b) => some (eqS a b)
  | .one (.bool a), .one (.bool b) => some (a == b)
  | .ints j xs n, .ints k ys m => match beqK j k, Nat.beq n m with
    | true, true => some (eqL xs ys)
    | _, _ => none
  | .bytes xs n, .bytes ys m => match Nat.beq n m with
    | true => some (eqS xs ys)
    | _ => none
  | .strs xs n, .strs ys m => match Nat.beq n m with
    | true => some (eqBs xs ys)
    | _ => none
  | _, _ => none
def eqSegs : Segs → Segs → Option Bool
  | [], [] => some true
  | [a], [b] => eqSeg a b
  | a :: r, b :: q => match eqSeg a b, eqSegs r q with
    | some x, some y => some (x && y)
    | _, _ => none
  | _, _ => none
def kindSc : Sc → Option Fk
  | .bool _ => some .bool
  | .int k _ => some (.int k)
  | .str _ => some .str
  | _ => none
def kindsSeg : Seg → Option (List Fk)
  | .one v => match kindSc v with
    | some k => some [k]
    | none => none
  | .ints k _ n => some (List.replicate n (.int k))
  | .bytes _ n => some (List.replicate n (.int .u8))
  | .strs _ n => some (List.replicate n .str)
  | .recs _ _ _ => none
def kindsS : Segs → Option (List Fk)
  | [] => some []
  | g :: r => match kindsSeg g, kindsS r with
    | some x, some y => some (x ++ y)
    | _, _ => none
def seqB (P : Program) : List Field → Nat → Bool
  | [], _ => true
  | f :: r, o => Nat.beq f.offset o && seqB P r (o + P.cellsOf f.type)
def sumB (P : Program) : List Field → Nat
  | [] => 0
  | f :: r => P.cellsOf f.type + sumB P r
def kindsOK (P : Program) : Nat → TypeId → List Fk → Bool
  | 0, _, _ => false
  | d + 1, t, ks => match P.underlying t, ks with
    | some .bool, [.bool] => true
    | some (.int q), [.int q'] => beqK q q'
    | some .string, [.str] => true
    | some (.array n e), ks => Nat.beq ks.length (P.cellsOf t) && Nat.beq (P.cellsOf t) (n * P.cellsOf e) && (List.range n).all fun i => kindsOK P d e ((ks.drop (i * P.cellsOf e)).take (P.cellsOf e))
    | some (.struct fs), ks => Nat.beq ks.length (P.cellsOf t) && fs.all (·.name != "_") && fs.toList.all (fun f => kindsOK P d f.type ((ks.drop f.offset).take (P.cellsOf f.type))) && seqB P fs.toList 0 && Nat.beq (sumB P fs.toList) (P.cellsOf t)
    | _, _ => false
def eqTyB (P : Program) (t : TypeId) (a b : Segs) : Bool :=
  P.keyTypeAt 16 t && !P.eqGuardType P.depth t && match kindsS a, kindsS b with
    | some ks, some js => kindsOK P 16 t ks && kindsOK P 16 t js && match P.underlying t with
      | some (.array _ _) => true
      | some (.struct _) => true
      | _ => false
    | _, _ => false
def evEqAgg (P : Program) (op : BinOp) (t : TypeId) (a b : Segs) (K : AVal → Eff → Nat → Option R) : Option R :=
  match op, eqTyB P t a b, eqSegs a b with
  | .eql, true, some r => K (.s (.bool r)) [] 0
  | .neq, true, some r => K (.s (.bool (!r))) [] 0
  | _, _, _ => none
def fieldOff (s : TypeId) (f : Nat) : Option Nat := match P.underlying s with
  | some (.struct fs) => match fs.toList[f]? with
    | some x => match cells P x.type with
      | some 0 => none
      | some _ => some x.offset
      | none => none
    | none => none
  | _ => none
def fillS (place : Nat → Option (Nat × Nat)) : List (Nat × Option AVal) → Segs → Option Segs
  | [], g => some g
  | (i, v) :: r, g => match place i, v with
    | some (off, size), some v => match segsOf v with
      | some x => match Nat.beq size (sizeS x), splitS g off with
        | true, some (a, b) => match takeS b size with
          | some (_, c) => fillS place r (a ++ x ++ c)
          | none => none
        | _, _ => none
      | none => none
    | _, _ => none
def fillRow : List (Nat × Option AVal) → Seg → Option Seg
  | [], g => some g
  | (i, v) :: r, g => match scOf v with
    | some x => match Nat.blt i g.cnt, g.setElem i g.width 0 x with
      | true, some g' => fillRow r g'
      | _, _ => none
    | none => none
def placesL : List Field → Option (List (Nat × Nat))
  | [] => some []
  | f :: r => match cells P f.type, placesL r with
    | some n, some l => some ((f.offset, n) :: l)
    | _, _ => none
def isRow1 : Segs → Option Seg
  | [.ints k xs n] => some (.ints k xs n)
  | [.bytes xs n] => some (.bytes xs n)
  | [.strs xs n] => some (.strs xs n)
  | _ => none
def evBuild (t : TypeId) (parts : List (Nat × Option AVal)) : Option Segs :=
  match zeroS P t with
  | some z => match P.underlying t with
    | some (.struct fs) => match placesL P fs.toList with
      | some l => fillS (fun i => l[i]?) parts z
      | none => none
    | some (.array _ e) => match cells P e, isRow1 z with
      | some 1, some g => match fillRow parts g with
        | some g' => some [g']
        | none => none
      | some w, _ => fillS (fun i => some (i * w, w)) parts z
      | none, _ => none
    | _ => none
  | none => none
def recsOf (fs : List Fk) : Nat → List (Nat × Option AVal) → Option (List (Tup fs))
  | _, [] => some []
  | k, (i, v) :: r => match Nat.beq i k, v with
    | true, some (.c (.agg g)) => match onesOf g with
      | some l => match tupOf fs l, recsOf fs (k + 1) r with
        | some u, some us => some (u :: us)
        | _, _ => none
      | none => none
    | _, _ => none
def intsOf (k : IntKind) : Nat → List (Nat × Option AVal) → Option (List Int)
  | _, [] => some []
  | j, (i, v) :: r => match Nat.beq i j, scOf v, intsOf k (j + 1) r with
    | true, some (.int k' x), some xs => match beqK k k' with
      | true => some (x :: xs)
      | false => none
    | _, _, _ => none
def bytesOf' : Nat → List (Nat × Option AVal) → Option Str
  | _, [] => some []
  | j, (i, v) :: r => match Nat.beq i j, scOf v, bytesOf' (j + 1) r with
    | true, some (.int .u8 x), some xs => some (UInt8.ofNat x.toNat :: xs)
    | _, _, _ => none
def strsOf : Nat → List (Nat × Option AVal) → Option (List Str)
  | _, [] => some []
  | j, (i, v) :: r => match Nat.beq i j, scOf v, strsOf (j + 1) r with
    | true, some (.str x), some xs => some (x :: xs)
    | _, _, _ => none
def evRow (e : TypeId) (len : Nat) (parts : List (Nat × Option AVal)) : Option Seg :=
  match Nat.beq parts.length len, rowKind P e with
  | true, some (.ints k _ _) => match intsOf k 0 parts with
    | some xs => some (.ints k xs len)
    | none => none
  | true, some (.bytes _ _) => match bytesOf' 0 parts with
    | some xs => some (.bytes xs len)
    | none => none
  | true, some (.strs _ _) => match strsOf 0 parts with
    | some xs => some (.strs xs len)
    | none => none
  | true, some (.recs fs _ _) => match recsOf fs 0 parts with
    | some xs => some (.recs fs xs len)
    | none => none
  | _, _ => none
def sliceRow (hp : Nat → Option Blk) (e : TypeId) : Sc → Option Seg
  | .slice n w none _ => rowOf hp n w
  | .slice n w (some (s, l)) _ => match rowOf hp n w with
    | some r => subG r s l
    | none => none
  | .nilsl => rowKind P e
  | _ => none
def elemOf' (t : TypeId) : Option TypeId := match P.underlying t with
  | some (.slice e) => some e
  | _ => none
def lenSl (hp : Nat → Option Blk) : Sc → Option Nat
  | .slice n w none _ => match rowOf hp n w with
    | some r => some (lenG r)
    | none => none
  | .slice _ _ (some (_, l)) _ => some l
  | .nilsl => some 0
  | _ => none
def setCnt : Seg → Seg
  | .ints k xs _ => .ints k xs xs.length
  | .bytes xs _ => .bytes xs xs.length
  | .strs xs _ => .strs xs xs.length
  | .recs fs xs _ => .recs fs xs xs.length
  | g => g
def zeroRow (e : TypeId) (n : Nat) : Option Seg := match rowKind P e with
  | some (.ints k _ _) => some (.ints k (List.replicate n 0) n)
  | some (.bytes _ _) => some (.bytes (List.replicate n 0) n)
  | some (.strs _ _) => some (.strs (List.replicate n []) n)
  | some (.recs fs _ _) => some (.recs fs (List.replicate n (tupD fs)) n)
  | _ => none
def zeroW (e : TypeId) : Option Nat := match P.info? e with
  | some i => match i.zero with
    | some z => match Nat.beq z.cells.size i.size with
      | true => some i.size
      | false => none
    | none => none
  | none => none
def elemZ : Seg → List Sc
  | .ints k _ _ => [.int k 0]
  | .bytes _ _ => [.int .u8 0]
  | .strs _ _ => [.str []]
  | .recs fs _ _ => tupSc fs (tupD fs)
  | _ => []
def sameZ (e : TypeId) (g : Seg) : Bool := match P.info? e with
  | some i => match i.zero with
    | some z => sameScs (elemZ g) z.cells.toList
    | none => false
  | none => false
def srcRow (hp : Nat → Option Blk) (e : TypeId) : Sc → Option Seg
  | .str b => some (.bytes b b.length)
  | x => sliceRow P hp e x
def eqOpt : Option Nat → Nat → Bool
  | some a, b => Nat.beq a b
  | none, _ => false
def ixOf : Option (Nat × Nat) → Nat → Nat
  | none, j => j
  | some (s, _), j => s + j
def begOf : Option (Nat × Nat) → Nat
  | none => 0
  | some (s, _) => s
def evAppend (hp : Nat → Option Blk) (nx : Nat) (t : TypeId) (s x : Sc) (K : AVal → Eff → Nat → Option R) : Option R :=
  match elemOf' P t with
  | none => none
  | some e =>
    match sliceRow P hp e s, srcRow P hp e x, bytesOf P e, zeroW P e with
    | some a, some b, some by_, some w => match catG a b, Nat.blt 0 w && Nat.blt 0 by_ && Nat.beq a.width w with
      | some c, true =>
        let go (ef : Eff) : Option R := gd (appB (lenG a) (lenG b) by_) (K (.s (.slice nx w none none)) ((nx, some ⟨true, [setCnt c]⟩) :: ef) 1)
        match s with
        | .nilsl => go []
        | .slice _ _ _ (some 0) => go []
        | .slice n _ _ none => match hp n with
          | some bl => match bl.rw with
            | true => go [(n, none)]
            | false => none
          | none => none
        | _ => none
      | _, _ => none
    | _, _, _, _ => none
def foldMn (k : IntKind) : Int → List AVal → Option Int
  | a, [] => some a
  | a, .c (.sc (.int k' b)) :: r => match beqK k k' with
    | true => foldMn k (mnI a b) r
    | false => none
  | _, _ => none
def foldMx (k : IntKind) : Int → List AVal → Option Int
  | a, [] => some a
  | a, .c (.sc (.int k' b)) :: r => match beqK k k' with
    | true => foldMx k (mxI a b) r
    | false => none
  | _, _ => none
def spliceG : Seg → Nat → Seg → Option Seg
  | .ints k xs n, s, .ints k' ys _ => match beqK k k' with
    | true => some (.ints k (xs.take s ++ ys ++ xs.drop (s + ys.length)) n)
    | false => none
  | .bytes xs n, s, .bytes ys _ => some (.bytes (xs.take s ++ ys ++ xs.drop (s + ys.length)) n)
  | .strs xs n, s, .strs ys _ => some (.strs (xs.take s ++ ys ++ xs.drop (s + ys.length)) n)
  | _, _, _ => none
def evCopy (hp : Nat → Option Blk) (t : TypeId) (d x : Sc) (K : AVal → Eff → Nat → Option R) : Option R :=
  match elemOf' P t with
  | none => none
  | some e =>
    match d, lenSl hp d, srcRow P hp e x with
    | .slice n w r cap, some dl, some b => match hp n with
      | some bl => match bl.rw && eqOpt (cells P e) w, rowOf hp n w, subG b 0 (min (lenG b) dl) with
        | true, some row, some y => match spliceG row (begOf r) y with
          | some row' => K (.s (.int .i64 ((min (lenG b) dl : Nat) : Int))) [(n, some ⟨true, [row']⟩)] 0
          | none => none
        | _, _, _ => none
      | none => none
    | _, _, _ => none
def evBuiltin (b : Builtin) (ts : List TypeId) (hp : Nat → Option Blk) (nx : Nat) (vs : List AVal) (K : AVal → Eff → Nat → Option R) : Option R :=
  match b, ts, vs with
  | .len, [t], [.c (.sc (.str s))] => match P.underlying t with
    | some .string => K (.s (.int .i64 (s.length : Int))) [] 0
    | _ => none
  | .len, [t], [v] => match P.underlying t with
    | some (.array n _) => match Nat.ble n 9223372036854775807 with
      | true => K (.s (.int .i64 (n : Int))) [] 0
      | false => none
    | some (.slice _) => match v with
      | .c (.sc s) => match lenSl hp s with
        | some n => K (.s (.int .i64 (n : Int))) [] 0
        | none => none
      | _ => none
    | _ => none
  | .min, _, .c (.sc (.int k a)) :: r => match foldMn k a r with
    | some m => K (.s (.int k m)) [] 0
    | none => none
  | .max, _, .c (.sc (.int k a)) :: r => match foldMx k a r with
    | some m => K (.s (.int k m)) [] 0
    | none => none
  | .append, [t, u], [.c (.sc s), .c (.sc x)] => match P.underlying u with
    | some (.int _) => none
    | none => none
    | _ => evAppend P hp nx t s x K
  | .copy, [t, _], [.c (.sc d), .c (.sc x)] => evCopy P hp t d x K
  | _, _, _ => none
def evConvert (src dst : TypeId) (hp : Nat → Option Blk) (nx : Nat) (x : Sc) (K : AVal → Eff → Nat → Option R) : Option R :=
  match P.underlying src, P.underlying dst, x with
  | some _, some (.int k), .int _ n => K (.s (.int k (cvtI k n))) [] 0
  | some _, some .string, .str s => K (.s (.str s)) [] 0
  | some _, some (.slice e), .str s => match P.underlying e with
    | some (.int .u8) => K (.s (.slice nx 1 none none)) [(nx, some ⟨true, [.bytes s s.length]⟩)] 1
    | _ => none
  | some (.slice e), some .string, x => match P.underlying e with
    | some (.int .u8) => match sliceRow P hp e x with
      | some (.bytes s _) => K (.s (.str s)) [] 0
      | _ => none
    | _ => none
  | _, _, _ => none
def bound (tm : Nat → Option AVal) : Option Operand → Option (Option Int)
  | none => some none
  | some x => match evOpnd tm x with
    | some (.c (.sc (.int _ n))) => some (some n)
    | _ => none
def cutStr (s : Str) (lo hi : Option Int) (K : Str → Option R) : Option R :=
  match lo, hi with
  | none, none => K s
  | some a, none => gd (leB a s.length) (K (s.drop a.toNat))
  | none, some b => gd (leB b s.length) (K (s.take b.toNat))
  | some a, some b => gd (leB b s.length) (gd (leB a b.toNat) (K ((s.take b.toNat).drop a.toNat)))
def cutSl (s l : Nat) (lo hi mx : Option Int) (K : Nat → Nat → Option Nat → Option R) : Option R :=
  match lo, hi, mx with
  | none, none, none => K s l none
  | some a, none, none => gd (leB a l) (K (s + a.toNat) (l - a.toNat) none)
  | none, some b, none => gd (leB b l) (K s b.toNat none)
  | some a, some b, none => gd (leB b l) (gd (leB a b.toNat) (K (s + a.toNat) (b.toNat - a.toNat) none))
  | some a, some b, some m => gd (leB m l) (gd (leB b m.toNat) (gd (leB a b.toNat) (K (s + a.toNat) (b.toNat - a.toNat) (some (m.toNat - a.toNat)))))
  | none, some b, some m => gd (leB m l) (gd (leB b m.toNat) (K s b.toNat (some m.toNat)))
  | _, none, some _ => none
def loOf : Option Int → Nat
  | none => 0
  | some a => a.toNat
def capMin (a b : Option Nat) (s : Nat) : Option Nat := match b with
  | some c => some c
  | none => match a with
    | some c => some (c - s)
    | none => none
def evSlice (t : TypeId) (hp : Nat → Option Blk) (x : Sc) (lo hi mx : Option Int) (K : AVal → Eff → Nat → Option R) : Option R :=
  match P.underlying t, x with
  | some .string, .str s => match mx with
    | none => cutStr s lo hi fun r => K (.s (.str r)) [] 0
    | some _ => none
  | some (.slice e), .slice n w r cap => match sliceRow P hp e (.slice n w r cap), cells P e with
    | some row, some sz => match Nat.beq sz w with
      | true => match lo, hi, mx with
        | none, none, none => K (.s (.slice n w r cap)) [] 0
        | lo, hi, mx => cutSl (begOf r) (lenG row) lo hi mx fun s' l' c' => K (.s (.slice n w (some (s', l')) (capMin cap c' (loOf lo)))) [] 0
      | false => none
    | _, _ => none
  | some (.slice e), .nilsl => match cells P e with
    | some _ => cutSl 0 0 lo hi mx fun _ _ _ => K (.s .nilsl) [] 0
    | none => none
  | some (.array m e), .ptr n 0 0 0 0 => match cells P e with
    | some w => match rowOf hp n w with
      | some r => match Nat.beq r.cnt m && Nat.ble m 9223372036854775807, Nat.blt 0 w with
        | true, true => cutSl 0 m lo hi mx fun s' l' c' => K (.s (.slice n w (some (s', l')) (capMin (some m) c' s'))) [] 0
        | _, _ => none
      | none => none
    | none => none
  | _, _ => none
def Sc.isTop : Sc → Bool
  | .top => true
  | _ => false
def evStore (b : Blk) (n base ix w f size : Nat) (v : AVal) (K : AVal → Eff → Nat → Option R) : Option R :=
  match b.rw with
  | false => none
  | true => match v with
    | .c (.sc v) => match Nat.beq size 1, v.isTop with
      | true, false => stSc b.g base ix w f v fun g => K (.s .top) [(n, some ⟨true, g⟩)] 0
      | _, _ => none
    | .c (.agg v) => stAgg b.g base ix w f size v fun g => K (.s .top) [(n, some ⟨true, g⟩)] 0
    | .tup _ => none
def evOp (o : Oper) (tm : Nat → Option AVal) (hp : Nat → Option Blk) (nx : Nat) (K : AVal → Eff → Nat → Option R) : Option R :=
  match o.op with
  | .move x | .assign x => match evOpnd tm x with
    | some v => K v [] 0
    | none => none
  | .pick c a b => match evOpnd tm c with
    | some (.c (.sc (.bool true))) => match evOpnd tm a with
      | some v => K v [] 0
      | none => none
    | some (.c (.sc (.bool false))) => match evOpnd tm b with
      | some v => K v [] 0
      | none => none
    | _ => none
  | .alloc t => match zeroS P t with
    | some g => match Nat.blt 0 (sizeS g) with
      | true => K (.s (.ptr nx 0 0 0 0)) [(nx, some ⟨true, g⟩)] 1
      | false => none
    | none => none
  | .box t x => match evOpnd tm x with
    | some v => match segsOf v with
      | some g => match Nat.blt 0 (sizeS g) with
        | true => K (.s (.ptr nx 0 0 0 0)) [(nx, some ⟨true, g⟩)] 1
        | false => none
      | none => none
    | none => none
  | .build t parts => match evBuild P t (parts.toList.map fun p => (p.1, evOpnd tm p.2)) with
    | some g => K (.g g) [] 0
    | none => none
  | .buildSlice t len parts => match elemOf' P t with
    | some e => match evRow P e len (parts.toList.map fun p => (p.1, evOpnd tm p.2)), zeroW P e with
      | some g, some w => match Nat.ble (len * w) 16777216, Nat.blt 0 w && Nat.beq g.width w with
        | true, true => K (.s (.slice nx w none none)) [(nx, some ⟨true, [g]⟩)] 1
        | _, _ => none
      | _, _ => none
    | none => none
  | .load t a => match scOf (evOpnd tm a) with
    | some (.ptr n base ix w f) => match hp n with
      | some b => match aggOf P t with
        | some true => match cells P t with
          | some size => ldAgg b.g base ix w f size fun g => K (.g g) [] 0
          | none => none
        | some false => ldSc b.g base ix w f fun v => K (.s v) [] 0
        | none => none
      | none => none
    | _ => none
  | .store t a x => match scOf (evOpnd tm a), evOpnd tm x, cells P t with
    | some (.ptr n base ix w f), some v, some size => match hp n with
      | some b => evStore b n base ix w f size v K
      | none => none
    | _, _, _ => none
  | .nilCheck x => match scOf (evOpnd tm x) with
    | some (.ptr n base ix w f) => K (.s (.ptr n base ix w f)) [] 0
    | some (.fn f caps) => K (.s (.fn f caps)) [] 0
    | _ => none
  | .binOp op t x y _ => match evOpnd tm x, evOpnd tm y with
    | some (.c (.sc a)), some (.c (.sc b)) => evBin (P.underlying t) (isC y) op a b fun v => K (.s v) [] 0
    | some (.c (.agg a)), some (.c (.agg b)) => evEqAgg P op t a b K
    | _, _ => none
  | .unOp op _ x => match scOf (evOpnd tm x) with
    | some v => evUn op v fun v => K (.s v) [] 0
    | none => none
  | .convert src dst x => match scOf (evOpnd tm x) with
    | some v => evConvert P src dst hp nx v K
    | none => none
  | .makeFunc (.func f) first captured => match first.toList, opList tm captured.toList with
    | [], some vs => match capsOf vs with
      | some l => K (.s (.fn f l)) [] 0
      | none => none
    | _, _ => none
  | .makeSlice t l c => match elemOf' P t, scOf (evOpnd tm l), scOf (evOpnd tm c) with
    | some e, some (.int _ a), some (.int _ b) => match bytesOf P e, cells P e, zeroRow P e a.toNat with
      | some by_, some w, some g => match Nat.blt 0 w && Nat.blt 0 by_ && sameZ P e g && Nat.beq g.width w with
        | true => gd (makeB b by_) (gd (leB a b.toNat) (K (.s (.slice nx w none none)) [(nx, some ⟨true, [g]⟩)] 1))
        | false => none
      | _, _, _ => none
    | _, _, _ => none
  | .slice t x lo h m => match scOf (evOpnd tm x), bound tm lo, bound tm h, bound tm m with
    | some v, some lo, some h, some m => evSlice P t hp v lo h m K
    | _, _, _, _ => none
  | .fieldAddr s x f => match scOf (evOpnd tm x), fieldOff P s f with
    | some (.ptr n base ix w fo), some off => match Nat.beq w 0, hp n with
      | true, some b => match Nat.beq fo 0 && Nat.blt (base + off) (sizeS b.g) with
        | true => K (.s (.ptr n (base + off) 0 0 0)) [] 0
        | false => none
      | false, some _ => match rowOf hp n w, Nat.beq fo 0 && Nat.beq base 0 && Nat.blt off w with
        | some _, true => K (.s (.ptr n 0 ix w off)) [] 0
        | _, _ => none
      | _, none => none
    | _, _ => none
  | .indexAddr t x ix => match scOf (evOpnd tm x), scOf (evOpnd tm ix) with
    | some (.ptr n base 0 0 0), some (.int _ i) => match P.underlying t, hp n with
      | some (.array len e), some b => match cells P e, locate b.g base with
        | some sz, some (_, r, _) => match Nat.blt 0 sz && Nat.ble (base + len * sz) (sizeS b.g) with
          | false => none
          | true => match r.isOne with
          | true => gd (inB i len) (K (.s (.ptr n (base + i.toNat * sz) 0 0 0)) [] 0)
          | false => match Nat.beq r.width sz with
            | true => gd (inB i len) (K (.s (.ptr n base i.toNat sz 0)) [] 0)
            | false => none
        | _, _ => none
      | _, _ => none
    | some (.slice n w r cap), some (.int _ i) => match lenSl hp (.slice n w r cap) with
      | some l => match elemOf' P t with
        | some e => match cells P e with
          | some sz => match Nat.beq sz w with
            | true => gd (inB i l) (K (.s (.ptr n 0 (ixOf r i.toNat) w 0)) [] 0)
            | false => none
          | none => none
        | none => none
      | none => none
    | _, _ => none
  | .index t x ix => match evOpnd tm x, scOf (evOpnd tm ix) with
    | some (.c (.sc (.str s))), some (.int _ i) => match P.underlying t with
      | some .string => gd (inB i s.length) (K (.s (.int .u8 ((s.getD i.toNat 0).toNat : Int))) [] 0)
      | _ => none
    | some (.c (.agg [rr])), some (.int _ i) => match P.underlying t with
      | some (.array len e) => match cells P e with
        | some wd => match !rr.isOne && Nat.beq rr.cnt len && (Nat.beq rr.width wd && Nat.blt 0 wd) with
          | true => gd (inB i len) (match aggOf P e with
            | some true => ldAgg [rr] 0 i.toNat wd 0 wd fun g => K (.g g) [] 0
            | some false => ldSc [rr] 0 i.toNat wd 0 fun v => K (.s v) [] 0
            | none => none)
          | false => none
        | none => none
      | _ => none
    | _, _ => none
  | .sliceToArrayPointer t x => match scOf (evOpnd tm x), P.underlying t with
    | some (.slice n w r cap), some (.array m e) => match lenSl hp (.slice n w r cap), cells P e with
      | some l, some sz => match Nat.beq sz w && Nat.blt 0 m with
        | true => gd (Nat.ble m l) (K (.s (.ptr n 0 (begOf r) w 0)) [] 0)
        | false => none
      | _, _ => none
    | _, _ => none
  | .extract t ix => match evOpnd tm t with
    | some (.tup vs) => match vs[ix]? with
      | some v => K (.c v) [] 0
      | none => none
    | _ => none
  | .call c => match c.callee, opList tm c.args.toList with
    | .builtin b, some vs => evBuiltin P b c.argTypes.toList hp nx vs K
    | .value f, some vs => match scOf (evOpnd tm f) with
      | some (.fn g caps) => Γ R g (vs ++ caps.map fun n => .s (.ptr n 0 0 0 0)) hp nx K
      | _ => none
    | _, _ => none
  | _ => none
where
  capsOf : List AVal → Option (List Nat)
    | [] => some []
    | .c (.sc (.ptr n 0 0 0 0)) :: r => match capsOf r with
      | some l => some (n :: l)
      | none => none
    | _ => none
def St.after (st : St) (d : Option Nat) (v : AVal) (ef : Eff) (cnt : Nat) : St :=
  { tm := match d with
      | none => st.tm
      | some t => upd st.tm t v
    hp := applyE ef st.hp
    nx := st.nx + cnt }
def okDst (nt : Nat) : Option Nat → Bool
  | none => true
  | some t => Nat.blt t nt
def guardVar (ops : Array Oper) (j : Nat) : Option Nat := match ops.toList[j]? with
  | some o => o.dst
  | none => none
def evOps (ops : Array Oper) : List Oper → St → (St → Option R) → Option R
  | [], st, K => K st
  | o :: r, st, K => match okDst nt o.dst with
    | false => none
    | true => match o.guard with
      | none => evOp P Γ o (look st.tm) (look st.hp) st.nx fun v ef cnt => evOps ops r (st.after o.dst v ef cnt) K
      | some (j, want) => match guardVar ops j with
        | none => none
        | some d => match Nat.blt d nt, look st.tm d with
          | true, some (.c (.sc (.bool b))) =>
            br b
              (let st1 : St := { st with tm := upd st.tm d (.s (.bool true)) }
               match want with
               | true => evOp P Γ o (look st1.tm) (look st1.hp) st1.nx fun v ef cnt => evOps ops r (st1.after o.dst v ef cnt) K
               | false => evOps ops r (st1.after o.dst (.tup []) [] 0) K)
              (let st1 : St := { st with tm := upd st.tm d (.s (.bool false)) }
               match want with
               | false => evOp P Γ o (look st1.tm) (look st1.hp) st1.nx fun v ef cnt => evOps ops r (st1.after o.dst v ef cnt) K
               | true => evOps ops r (st1.after o.dst (.tup []) [] 0) K)
          | true, some (.tup []) => evOps ops r (st.after o.dst (.tup []) [] 0) K
          | _, _ => none
end
inductive All2 {α β : Type} (R : α → β → Prop) : List α → List β → Prop where
  | nil : All2 R [] []
  | cons {a : α} {b : β} {l : List α} {m : List β} : R a b → All2 R l m → All2 R (a :: l) (b :: m)
structure Loc where
  blk : Option Nat
  off : Nat
  cap : Nat
  len : Nat
  w : Nat
abbrev Map := Nat → Option Loc
def Map.le (ι κ : Map) : Prop := ∀ n l, ι n = some l → κ n = some l
theorem Map.le_refl (ι : Map) : ι.le ι := fun _ _ h => h
def Map.up (nx : Nat) (ι κ : Map) : Prop := ι.le κ ∧ ∀ n, n < nx → κ n = ι n
theorem Map.up_refl (nx : Nat) (ι : Map) : Map.up nx ι ι := ⟨Map.le_refl _, fun _ _ => rfl⟩
theorem Map.up_new {nx : Nat} {ι : Map} {o : Option Loc} (h : ι.le (fun m => if m = nx then o else ι m)) : Map.up nx ι (fun m => if m = nx then o else ι m) :=
  ⟨h, fun n hn => if_neg (by omega)⟩
theorem Map.le_trans {ι κ μ : Map} (h : ι.le κ) (h' : κ.le μ) : ι.le μ := fun n l e => h' n l (h n l e)
def fits (k : IntKind) (n : Int) : Prop := k.min ≤ n ∧ n ≤ k.max
abbrev maxL : Nat := 9223372036854775807
def srel (ι : Map) : Sc → Value → Prop
  | .bool b, v => v = .bool b
  | .int k n, v => v = .int k n ∧ fits k n
  | .str s, v => v = .string ⟨s.toArray⟩ ∧ s.length ≤ maxL
  | .ptr n base ix w f, v => ∃ l b, ι n = some l ∧ l.blk = some b ∧ v = .pointer (some ⟨b, l.off + (base + ix * w + f), none⟩) ∧ base + ix * w + f < l.len
  | .nilp, v => v = .pointer none
  | .slice n w r cap, v => ∃ oa l c lo, v = .slice oa l c ∧ l ≤ maxL ∧ 0 < w ∧ l ≤ c ∧ (∀ k, cap = some k → c = k) ∧ ι n = some lo ∧ (cap = none → lo.w = w) ∧
      match r with
      | some (s, l') => l = l' ∧ (s + l) * w ≤ lo.len ∧ ((l = 0 ∧ c = 0) ∨ ∃ b, lo.blk = some b ∧ oa = some ⟨b, lo.off + s * w, none⟩ ∧ (cap = none → c + s = lo.cap))
      | none => l * w = lo.len ∧ ((l = 0 ∧ c = 0) ∨ ∃ b, lo.blk = some b ∧ oa = some ⟨b, lo.off, none⟩ ∧ (cap = none → c = lo.cap))
  | .nilsl, v => v = .slice none 0 0
  | .fn f caps, v => ∃ xs : List Value, v = .func (.func f) #[] xs.toArray ∧ All2 (fun n x => ∃ l b, ι n = some l ∧ l.blk = some b ∧ x = .pointer (some ⟨b, l.off, none⟩) ∧ 0 < l.len) caps xs
  | .nilfn, v => v = .nilFunc
  | .mapr n, v => ∃ l b, ι n = some l ∧ l.blk = some b ∧ v = .map (some b)
  | .nilmap, v => v = .map none
  | .err b, v => (b = true ∧ v = .nilIface) ∨ (b = false ∧ ∃ t x, v = .iface t x)
  | .top, _ => True
theorem forall2_imp {α β : Type} {R S : α → β → Prop} (h : ∀ a b, R a b → S a b) {l : List α} {m : List β} (hl : All2 R l m) : All2 S l m := by
  induction hl with
  | nil => exact .nil
  | cons a _ ih => exact .cons (h _ _ a) ih
theorem srel_mono {ι κ : Map} (h : ι.le κ) {s : Sc} {v : Value} (hs : srel ι s v) : srel κ s v := by
  cases s with
  | ptr n base ix w f =>
    obtain ⟨l, b, h1, h2⟩ := hs
    exact ⟨l, b, h _ _ h1, h2⟩
  | slice n w r cap =>
    obtain ⟨oa, l, c, lo, h1, h2, h3, h4, h5, h6, h7⟩ := hs
    exact ⟨oa, l, c, lo, h1, h2, h3, h4, h5, h _ _ h6, h7⟩
  | fn f caps =>
    obtain ⟨xs, h1, h2⟩ := hs
    exact ⟨xs, h1, forall2_imp (fun n x ⟨l, b, e, r⟩ => ⟨l, b, h _ _ e, r⟩) h2⟩
  | mapr n =>
    obtain ⟨l, b, h1, h2⟩ := hs
    exact ⟨l, b, h _ _ h1, h2⟩
  | _ => exact hs
def Sc.known : Sc → Prop
  | .top => False
  | _ => True
theorem srel_one {ι : Map} {s : Sc} {v : Value} (hs : srel ι s v) (hk : s.known) : v.oneCell' = true ∧ v.cells = #[v] := by
  cases s <;> simp only [srel, Sc.known] at hs hk
  case bool => subst hs; exact ⟨rfl, rfl⟩
  case int => obtain ⟨rfl, _⟩ := hs; exact ⟨rfl, rfl⟩
  case str => obtain ⟨rfl, _⟩ := hs; exact ⟨rfl, rfl⟩
  case ptr => obtain ⟨_, _, _, _, rfl, _⟩ := hs; exact ⟨rfl, rfl⟩
  case nilp => subst hs; exact ⟨rfl, rfl⟩
  case slice => obtain ⟨_, _, _, _, rfl, _⟩ := hs; exact ⟨rfl, rfl⟩
  case nilsl => subst hs; exact ⟨rfl, rfl⟩
  case fn => obtain ⟨_, rfl, _⟩ := hs; exact ⟨rfl, rfl⟩
  case nilfn => subst hs; exact ⟨rfl, rfl⟩
  case mapr => obtain ⟨_, _, _, _, rfl⟩ := hs; exact ⟨rfl, rfl⟩
  case nilmap => subst hs; exact ⟨rfl, rfl⟩
  case err =>
    rcases hs with ⟨_, rfl⟩ | ⟨_, _, _, rfl⟩
    · exact ⟨rfl, rfl⟩
    · exact ⟨rfl, rfl⟩
def krel (ι : Map) (l : List Sc) (vs : List Value) : Prop := All2 (fun s v => srel ι s v ∧ (v.oneCell' = true ∧ v.cells = #[v])) l vs
theorem krel_mono {ι κ : Map} (h : ι.le κ) {l : List Sc} {vs : List Value} (hl : krel ι l vs) : krel κ l vs :=
  forall2_imp (fun _ _ ⟨a, b⟩ => ⟨srel_mono h a, b⟩) hl
def wfs (g : Segs) : Prop := ∀ s ∈ g, s.wf
def crel (ι : Map) : Cmp → Value → Prop
  | .sc s, v => srel ι s v
  | .agg g, v => wfs g ∧ ∃ cs : List Value, v = .agg cs.toArray ∧ krel ι (flats g) cs
def vrel (ι : Map) : AVal → Value → Prop
  | .c x, v => crel ι x v
  | .tup vs, v => ∃ xs : List Value, v = .tuple xs.toArray ∧ All2 (crel ι) vs xs
theorem crel_mono {ι κ : Map} (h : ι.le κ) {s : Cmp} {v : Value} (hs : crel ι s v) : crel κ s v := by
  cases s with
  | sc s => exact srel_mono h hs
  | agg g => exact ⟨hs.1, let ⟨cs, a, b⟩ := hs.2; ⟨cs, a, krel_mono h b⟩⟩
theorem vrel_mono {ι κ : Map} (h : ι.le κ) {s : AVal} {v : Value} (hs : vrel ι s v) : vrel κ s v := by
  cases s with
  | c x => exact crel_mono h hs
  | tup vs => exact let ⟨xs, a, b⟩ := hs; ⟨xs, a, forall2_imp (fun _ _ => crel_mono h) b⟩
structure Holds (ι : Map) (w : World) (b : Nat) (lo : Loc) (l : List Sc) : Prop where
  ex : ∃ C e fr, w.heap[b]? = some (.cells C e fr) ∧ lo.off + lo.len ≤ C.size ∧ lo.off + lo.cap * lo.w ≤ C.size ∧ (∀ o, o < C.size → ¬ (fr.1 ≤ o ∧ o < fr.2)) ∧
    ∀ i x, l[i]? = some x → ∃ v, C[lo.off + i]? = some v ∧ srel ι x v ∧ (v.oneCell' = true ∧ v.cells = #[v])
structure BlkOK (ι : Map) (I : Nat → Prop) (w : World) (n : Nat) (b : Blk) : Prop where
  wf : wfs b.g
  ex : ∃ lo, ι n = some lo ∧ lo.len = (flats b.g).length ∧ (lo.blk = none → lo.len = 0) ∧
    ∀ k, lo.blk = some k → (b.rw = true → I k) ∧ (b.rw = false → ¬ I k) ∧ Holds ι w k lo (flats b.g)
structure HSim (ι : Map) (I : Nat → Prop) (nx : Nat) (hp : Nat → Option Blk) (w : World) : Prop where
  fresh : ∀ n, nx ≤ n → ι n = none ∧ hp n = none
  ok : ∀ n b, hp n = some b → BlkOK ι I w n b
  inj : ∀ m n a b x y k, m ≠ n → hp m = some a → hp n = some b → (a.rw = true ∨ b.rw = true) → ι m = some x → ι n = some y → x.blk = some k → y.blk = some k → False
  bound : ∀ k, I k → k < w.heap.size
structure Fr (I : Nat → Prop) (w : World) (I' : Nat → Prop) (w' : World) : Prop where
  same : ∀ k, k < w.heap.size → ¬ I k → w'.heap[k]? = w.heap[k]?
  own : ∀ k, I' k → I k ∨ w.heap.size ≤ k
  size : w.heap.size ≤ w'.heap.size
  os : w'.os = w.os
  tape : w'.tape = w.tape
  output : w'.output = w.output
theorem Fr.refl (I : Nat → Prop) (w : World) : Fr I w I w := ⟨fun _ _ _ => rfl, fun _ h => .inl h, Nat.le_refl _, rfl, rfl, rfl⟩
theorem Fr.trans {I J K : Nat → Prop} {w w1 w2 : World} (h : Fr I w J w1) (h' : Fr J w1 K w2) : Fr I w K w2 where
  same k hk hI := by
    rw [h'.same k (Nat.lt_of_lt_of_le hk h.size) (fun hj => (h.own k hj).elim hI (fun hs => by omega)), h.same k hk hI]
  own k hk := by
    rcases h'.own k hk with hj | hs
    · exact h.own k hj
    · exact .inr (Nat.le_trans h.size hs)
  size := Nat.le_trans h.size h'.size
  os := h'.os.trans h.os
  tape := h'.tape.trans h.tape
  output := h'.output.trans h.output
theorem Holds.mono {ι κ : Map} (h : ι.le κ) {w w' : World} {b : Nat} {lo : Loc} {l : List Sc} (hh : Holds ι w b lo l) (hw : w'.heap[b]? = w.heap[b]?) : Holds κ w' b lo l := by
  obtain ⟨C, e, fr, h1, h2, h3, h4, h5⟩ := hh.ex
  exact ⟨C, e, fr, hw.trans h1, h2, h3, h4, fun i x hx => let ⟨v, a, b, c⟩ := h5 i x hx; ⟨v, a, srel_mono h b, c⟩⟩
theorem Holds.lt {ι : Map} {w : World} {b : Nat} {lo : Loc} {l : List Sc} (hh : Holds ι w b lo l) : b < w.heap.size := by
  obtain ⟨C, e, fr, h1, _⟩ := hh.ex
  exact (Array.getElem?_eq_some_iff.1 h1).1
theorem HSim.world {ι : Map} {I : Nat → Prop} {nx : Nat} {hp : Nat → Option Blk} {w w' : World} (h : HSim ι I nx hp w) (hw : w'.heap = w.heap) : HSim ι I nx hp w' where
  fresh := h.fresh
  ok n b hb := by
    have ho := h.ok n b hb
    refine ⟨ho.wf, ?_⟩
    obtain ⟨lo, h1, h2, h3, h4⟩ := ho.ex
    exact ⟨lo, h1, h2, h3, fun k hk => let ⟨a, b, c⟩ := h4 k hk; ⟨a, b, c.mono (Map.le_refl _) (by rw [hw])⟩⟩
  inj := h.inj
  bound k hk := by rw [hw]; exact h.bound k hk
theorem HSim.less {ι : Map} {I : Nat → Prop} {nx : Nat} {hp hp' : Nat → Option Blk} {w : World} (h : HSim ι I nx hp w) (hl : ∀ n b, hp' n = some b → hp n = some b) : HSim ι I nx hp' w where
  fresh n hn := ⟨(h.fresh n hn).1, by
    cases hb : hp' n with
    | none => rfl
    | some b => have := hl n b hb; rw [(h.fresh n hn).2] at this; exact this.symm⟩
  ok n b hb := h.ok n b (hl n b hb)
  inj m n a b x y k hne ha hb := h.inj m n a b x y k hne (hl m a ha) (hl n b hb)
  bound := h.bound
def put1 (hp : Nat → Option Blk) (n : Nat) (b : Option Blk) : Nat → Option Blk := fun m => if m = n then b else hp m
theorem put1_same {hp : Nat → Option Blk} {n : Nat} {b : Option Blk} : put1 hp n b n = b := by simp [put1]
theorem put1_other {hp : Nat → Option Blk} {n m : Nat} {b : Option Blk} (h : m ≠ n) : put1 hp n b m = hp m := by simp [put1, h]
theorem HSim.alloc {ι : Map} {I : Nat → Prop} {nx : Nat} {hp : Nat → Option Blk} {w : World} (h : HSim ι I nx hp w) (g : Segs) (hg : wfs g) (C : Array Value) (e : TypeId)
    (fr : Nat × Nat) (cap wd : Nat) (hlen : (flats g).length ≤ C.size) (hcap : cap * wd ≤ C.size) (hfr : ∀ o, o < C.size → ¬ (fr.1 ≤ o ∧ o < fr.2))
    (hc : ∀ (i : Nat) (x : Sc), (flats g)[i]? = some x → ∃ v : Value, C[i]? = some v ∧ srel ι x v ∧ (v.oneCell' = true ∧ v.cells = #[v]))
    (w' : World) (hw : w'.heap = w.heap.push (.cells C e fr)) :
    let lo : Loc := ⟨some w.heap.size, 0, cap, (flats g).length, wd⟩
    HSim (fun m => if m = nx then some lo else ι m) (fun k => I k ∨ k = w.heap.size) (nx + 1) (put1 hp nx (some ⟨true, g⟩)) w' ∧
      Map.le ι (fun m => if m = nx then some lo else ι m) := by
  intro lo
  have hle : Map.le ι (fun m => if m = nx then some lo else ι m) := fun n l hn => by
    by_cases hnx : n = nx
    · subst hnx; rw [(h.fresh n (Nat.le_refl _)).1] at hn; cases hn
    · simp [hnx, hn]
  have hold : ∀ k, k < w.heap.size → w'.heap[k]? = w.heap[k]? := fun k hk => by
    rw [hw, Array.getElem?_push]; simp [Nat.ne_of_lt hk]
  have hnew : w'.heap[w.heap.size]? = some (.cells C e fr) := by rw [hw]; simp
  refine ⟨⟨?_, ?_, ?_, ?_⟩, hle⟩
  · intro n hn
    have hne : n ≠ nx := by omega
    simp only [hne, if_false, put1]
    exact h.fresh n (by omega)
  · intro n b hb
    by_cases hnx : n = nx
    · subst hnx
      rw [put1_same] at hb
      cases hb
      refine ⟨hg, lo, by simp, rfl, by simp [lo], ?_⟩
      intro k hk
      cases hk
      refine ⟨fun _ => .inr rfl, by simp, ?_⟩
      refine ⟨C, e, fr, hnew, by simpa [lo] using hlen, by simpa [lo] using hcap, hfr, ?_⟩
      intro i x hx
      obtain ⟨v, a, b, c⟩ := hc i x hx
      exact ⟨v, by simpa [lo] using a, srel_mono hle b, c⟩
    · rw [put1_other hnx] at hb
      have ho := h.ok n b hb
      refine ⟨ho.wf, ?_⟩
      obtain ⟨l, h1, h2, h3, h4⟩ := ho.ex
      refine ⟨l, by simp [hnx, h1], h2, h3, fun k hk => ?_⟩
      obtain ⟨a, b', c⟩ := h4 k hk
      have hlt := c.lt
      refine ⟨fun hr => .inl (a hr), fun hr hor => ?_, c.mono hle (hold k hlt)⟩
      rcases hor with hI | he
      · exact b' hr hI
      · omega
  · intro m n a b x y k hne ha hb hr hx hy hxk hyk
    by_cases hm : m = nx
    · subst hm
      have hn : n ≠ m := fun e => hne e.symm
      simp only [if_true] at hx
      cases hx
      cases hxk
      simp only [hn, if_false] at hy
      rw [put1_other hn] at hb
      obtain ⟨l, h1, h2, h3, h4⟩ := (h.ok n b hb).ex
      rw [h1] at hy; cases hy
      have := (h4 _ hyk).2.2.lt
      omega
    · simp only [hm, if_false] at hx
      rw [put1_other hm] at ha
      by_cases hn : n = nx
      · subst hn
        simp only [if_true] at hy
        cases hy
        cases hyk
        obtain ⟨l, h1, h2, h3, h4⟩ := (h.ok m a ha).ex
        rw [h1] at hx; cases hx
        have := (h4 _ hxk).2.2.lt
        omega
      · simp only [hn, if_false] at hy
        rw [put1_other hn] at hb
        exact h.inj m n a b x y k hne ha hb hr hx hy hxk hyk
  · intro k hk
    rw [hw, Array.size_push]
    rcases hk with hI | he
    · have := h.bound k hI; omega
    · omega
theorem Fr.alloc {I : Nat → Prop} {w w' : World} {o : Obj} (hw : w'.heap = w.heap.push o) (h1 : w'.os = w.os) (h2 : w'.tape = w.tape) (h3 : w'.output = w.output) :
    Fr I w (fun k => I k ∨ k = w.heap.size) w' where
  same k hk _ := by rw [hw, Array.getElem?_push]; simp [Nat.ne_of_lt hk]
  own k hk := hk.imp id (fun e => by omega)
  size := by rw [hw, Array.size_push]; omega
  os := h1
  tape := h2
  output := h3
theorem HSim.write {ι : Map} {I : Nat → Prop} {nx : Nat} {hp : Nat → Option Blk} {w : World} (h : HSim ι I nx hp w) {n : Nat} {b : Blk} (hb : hp n = some b) (hrw : b.rw = true)
    {lo : Loc} (hlo : ι n = some lo) (g : Segs) (hg : wfs g) (hlen : (flats g).length = lo.len) (w' : World) (hsz : w'.heap.size = w.heap.size)
    (hother : ∀ k, lo.blk ≠ some k → w'.heap[k]? = w.heap[k]?)
    (hhere : ∀ k, lo.blk = some k → Holds ι w' k lo (flats g)) :
    HSim ι I nx (put1 hp n (some ⟨true, g⟩)) w' where
  fresh m hm := by
    refine ⟨(h.fresh m hm).1, ?_⟩
    have : m ≠ n := fun e => by subst e; rw [(h.fresh m hm).2] at hb; cases hb
    rw [put1_other this]
    exact (h.fresh m hm).2
  ok m c hc := by
    by_cases hm : m = n
    · subst hm
      rw [put1_same] at hc
      cases hc
      refine ⟨hg, lo, hlo, hlen.symm, ?_, ?_⟩
      · intro hn
        obtain ⟨l, h1, h2, h3, h4⟩ := (h.ok m b hb).ex
        rw [hlo] at h1; cases h1
        exact h3 hn
      · intro k hk
        obtain ⟨l, h1, h2, h3, h4⟩ := (h.ok m b hb).ex
        rw [hlo] at h1; cases h1
        exact ⟨fun _ => (h4 k hk).1 hrw, by simp, hhere k hk⟩
    · rw [put1_other hm] at hc
      have ho := h.ok m c hc
      refine ⟨ho.wf, ?_⟩
      obtain ⟨l, h1, h2, h3, h4⟩ := ho.ex
      refine ⟨l, h1, h2, h3, fun k hk => ?_⟩
      obtain ⟨a, b', d⟩ := h4 k hk
      refine ⟨a, b', d.mono (Map.le_refl _) (hother k fun he => ?_)⟩
      exact h.inj m n c b l lo k hm hc hb (.inr hrw) h1 hlo hk he
  inj m p a c x y k hne ha hc hr hx hy hxk hyk := by
    have key : ∀ q d, put1 hp n (some ⟨true, g⟩) q = some d → ∃ d', hp q = some d' ∧ d'.rw = d.rw := by
      intro q d hq
      by_cases hqn : q = n
      · subst hqn; rw [put1_same] at hq; cases hq; exact ⟨b, hb, hrw⟩
      · rw [put1_other hqn] at hq; exact ⟨d, hq, rfl⟩
    obtain ⟨a', ha', ea⟩ := key m a ha
    obtain ⟨c', hc', ec⟩ := key p c hc
    exact h.inj m p a' c' x y k hne ha' hc' (by rw [ea, ec]; exact hr) hx hy hxk hyk
  bound k hk := by rw [hsz]; exact h.bound k hk
def putCells (w : World) (b : Nat) : Nat → List Value → World
  | _, [] => w
  | o, v :: r => putCells (w.setCell ⟨b, o, none⟩ v) b (o + 1) r
theorem setCell_heap (w : World) (b o : Nat) (v : Value) (k : Nat) : (w.setCell ⟨b, o, none⟩ v).heap[k]? = if k = b then (w.heap[k]?).map (fun
      | .cells c elem frozen => .cells (c.setIfInBounds o v) elem frozen
      | x => x) else w.heap[k]? := by
  unfold World.setCell
  simp only [Array.getElem?_modify]
  by_cases hk : b = k
  · subst hk
    simp only [if_true]
    cases w.heap[b]? with
    | none => rfl
    | some x => cases x <;> simp
  · have : k ≠ b := fun e => hk e.symm
    simp [hk, this]
theorem putCells_other {b k : Nat} (h : k ≠ b) : ∀ (vs : List Value) (o : Nat) (w : World), (putCells w b o vs).heap[k]? = w.heap[k]? := by
  intro vs
  induction vs with
  | nil => intro o w; rfl
  | cons v r ih => intro o w; rw [putCells, ih, setCell_heap]; simp [h]
theorem putCells_rest (b : Nat) : ∀ (vs : List Value) (o : Nat) (w : World), (putCells w b o vs).heap.size = w.heap.size ∧ (putCells w b o vs).os = w.os ∧
    (putCells w b o vs).tape = w.tape ∧ (putCells w b o vs).output = w.output := by
  intro vs
  induction vs with
  | nil => intro o w; exact ⟨rfl, rfl, rfl, rfl⟩
  | cons v r ih => intro o w; rw [putCells]; have := ih (o + 1) (w.setCell ⟨b, o, none⟩ v); simp [World.setCell] at this ⊢; exact this
theorem putCells_here {b : Nat} : ∀ (vs : List Value) (o : Nat) (w : World) (C : Array Value) (e : TypeId) (fr : Nat × Nat), w.heap[b]? = some (.cells C e fr) →
    ∃ C', (putCells w b o vs).heap[b]? = some (.cells C' e fr) ∧ C'.size = C.size ∧ ∀ i, C'[i]? = if o ≤ i ∧ i < o + vs.length ∧ i < C.size then vs[i - o]? else C[i]? := by
  intro vs
  induction vs with
  | nil =>
    intro o w C e fr h
    refine ⟨C, h, rfl, fun i => ?_⟩
    rw [if_neg (by simp; omega)]
  | cons v r ih =>
    intro o w C e fr h
    have h1 : (w.setCell ⟨b, o, none⟩ v).heap[b]? = some (.cells (C.setIfInBounds o v) e fr) := by rw [setCell_heap]; simp [h]
    obtain ⟨C', a, s, c⟩ := ih (o + 1) _ _ _ _ h1
    refine ⟨C', a, by simpa using s, fun i => ?_⟩
    rw [c i]
    simp only [Array.size_setIfInBounds, List.length_cons]
    by_cases hi : o + 1 ≤ i ∧ i < o + 1 + r.length ∧ i < C.size
    · rw [if_pos hi, if_pos (by omega)]
      have : i - o = (i - (o + 1)) + 1 := by omega
      rw [this, List.getElem?_cons_succ]
    · rw [if_neg hi, Array.getElem?_setIfInBounds]
      by_cases he : o = i
      · subst he
        by_cases hlt : o < C.size
        · simp [hlt]
        · simp [hlt]
      · simp only [he, if_false]
        rw [if_neg (by omega)]
theorem flatMap_len {α β : Type} (f : α → List β) (m : Nat) (hf : ∀ x, (f x).length = m) : ∀ xs : List α, (xs.flatMap f).length = xs.length * m
  | [] => by simp
  | x :: xs => by rw [List.flatMap_cons, List.length_append, hf, flatMap_len f m hf xs, List.length_cons, Nat.succ_mul]; omega
theorem flatMap_at {α β : Type} (f : α → List β) (m : Nat) (hf : ∀ x, (f x).length = m) : ∀ (xs : List α) (i j : Nat), j < m → (xs.flatMap f)[i * m + j]? = (xs[i]?).bind fun x => (f x)[j]?
  | [], i, j, _ => by simp
  | x :: xs, 0, j, h => by
    rw [List.flatMap_cons, List.getElem?_append_left (by rw [hf]; omega)]
    simp
  | x :: xs, i + 1, j, h => by
    rw [List.flatMap_cons, List.getElem?_append_right (by rw [hf, Nat.succ_mul]; omega), hf]
    have : (i + 1) * m + j - m = i * m + j := by rw [Nat.succ_mul]; omega
    rw [this, flatMap_at f m hf xs i j h]
    simp
theorem flatMap_set {α β : Type} (f : α → List β) (m : Nat) (hf : ∀ x, (f x).length = m) : ∀ (xs : List α) (i j : Nat) (x y : α) (v : β), xs[i]? = some x → j < m → f y = (f x).set j v →
    (xs.set i y).flatMap f = (xs.flatMap f).set (i * m + j) v
  | [], i, j, x, y, v, h, _, _ => by simp at h
  | z :: xs, 0, j, x, y, v, h, hj, hy => by
    simp only [List.getElem?_cons_zero, Option.some.injEq] at h
    subst h
    simp only [List.set_cons_zero, List.flatMap_cons, Nat.zero_mul, Nat.zero_add]
    rw [List.set_append_left _ _ (by rw [hf]; omega), hy]
  | z :: xs, i + 1, j, x, y, v, h, hj, hy => by
    simp only [List.getElem?_cons_succ] at h
    simp only [List.set_cons_succ, List.flatMap_cons]
    rw [List.set_append_right _ _ (by rw [hf, Nat.succ_mul]; omega), hf, flatMap_set f m hf xs i j x y v h hj hy]
    congr 2
    rw [Nat.succ_mul]; omega
theorem tupSc_len : ∀ (fs : List Fk) (t : Tup fs), (tupSc fs t).length = fs.length
  | [], _ => rfl
  | f :: fs, t => by simp [tupSc, tupSc_len fs t.2]
theorem tupAt_spec : ∀ (fs : List Fk) (t : Tup fs) (f : Nat) (v : Sc), tupAt fs t f = some v → f < fs.length ∧ (tupSc fs t)[f]? = some v
  | [], _, _, _, h => by simp [tupAt] at h
  | g :: fs, t, 0, v, h => by simp [tupAt] at h; subst h; simp [tupSc]
  | g :: fs, t, f + 1, v, h => by
    simp only [tupAt] at h
    obtain ⟨a, b⟩ := tupAt_spec fs t.2 f v h
    exact ⟨by simp; omega, by simpa [tupSc] using b⟩
theorem tupSet_spec : ∀ (fs : List Fk) (t u : Tup fs) (f : Nat) (v : Sc), tupSet fs t f v = some u → f < fs.length ∧ tupSc fs u = (tupSc fs t).set f v
  | [], _, _, _, _, h => by simp [tupSet] at h
  | .int k :: fs, t, u, 0, v, h => by
    cases v <;> simp [tupSet] at h
    obtain ⟨rfl, rfl⟩ := h
    simp [tupSc, elSc]
  | .str :: fs, t, u, 0, v, h => by
    cases v <;> simp [tupSet] at h
    subst h
    simp [tupSc, elSc]
  | .bool :: fs, t, u, 0, v, h => by
    cases v <;> simp [tupSet] at h
    subst h
    simp [tupSc, elSc]
  | g :: fs, t, u, f + 1, v, h => by
    have h' : (match tupSet fs t.2 f v with
      | some u => some ((t.1, u) : Tup (g :: fs))
      | none => none) = some u := by cases g <;> exact h
    cases hs : tupSet fs t.2 f v with
    | none => rw [hs] at h'; cases h'
    | some z =>
      rw [hs] at h'
      cases h'
      obtain ⟨a, b⟩ := tupSet_spec fs t.2 z f v hs
      exact ⟨by simp; omega, by simp [tupSc, b]⟩
theorem tupOf_spec : ∀ (fs : List Fk) (l : List Sc) (u : Tup fs), tupOf fs l = some u → tupSc fs u = l
  | [], [], u, h => rfl
  | [], _ :: _, u, h => by simp [tupOf] at h
  | .int k :: fs, [], u, h => by simp [tupOf] at h
  | .str :: fs, [], u, h => by simp [tupOf] at h
  | .bool :: fs, [], u, h => by simp [tupOf] at h
  | .int k :: fs, v :: l, u, h => by
    cases v <;> simp [tupOf] at h
    obtain ⟨rfl, h⟩ := h
    cases hs : tupOf fs l with
    | none => rw [hs] at h; simp at h
    | some z => rw [hs] at h; simp at h; subst h; simp [tupSc, elSc, tupOf_spec fs l z hs]
  | .str :: fs, v :: l, u, h => by
    cases v <;> simp [tupOf] at h
    cases hs : tupOf fs l with
    | none => rw [hs] at h; simp at h
    | some z => rw [hs] at h; simp at h; subst h; simp [tupSc, elSc, tupOf_spec fs l z hs]
  | .bool :: fs, v :: l, u, h => by
    cases v <;> simp [tupOf] at h
    cases hs : tupOf fs l with
    | none => rw [hs] at h; simp at h
    | some z => rw [hs] at h; simp at h; subst h; simp [tupSc, elSc, tupOf_spec fs l z hs]
theorem Seg.flat_len {g : Seg} (h : g.wf) : g.flat.length = g.size := by
  cases g <;> simp only [Seg.wf, Seg.flat, Seg.size] at h ⊢
  case one => rfl
  case ints => simp [h]
  case bytes => simp [h]
  case strs => simp [h]
  case recs fs xs n => rw [flatMap_len _ fs.length (tupSc_len fs), h]
theorem flats_cons (s : Seg) (g : Segs) : flats (s :: g) = s.flat ++ flats g := by simp [flats]
theorem flats_append (a b : Segs) : flats (a ++ b) = flats a ++ flats b := by simp [flats]
theorem flats_one (s : Seg) : flats [s] = s.flat := by simp [flats]
theorem wfs_append {a b : Segs} : wfs (a ++ b) ↔ wfs a ∧ wfs b := by
  unfold wfs; constructor
  · intro h; exact ⟨fun s hs => h s (by simp [hs]), fun s hs => h s (by simp [hs])⟩
  · intro ⟨h1, h2⟩ s hs
    rcases List.mem_append.1 hs with h | h
    · exact h1 s h
    · exact h2 s h
theorem wfs_cons {s : Seg} {g : Segs} : wfs (s :: g) ↔ s.wf ∧ wfs g := by
  unfold wfs; simp
theorem flats_len {g : Segs} (h : wfs g) : (flats g).length = sizeS g := by
  induction g with
  | nil => rfl
  | cons s g ih => rw [flats_cons, List.length_append, Seg.flat_len (wfs_cons.1 h).1, ih (wfs_cons.1 h).2]; rfl
theorem locate_spec : ∀ (g : Segs) (b : Nat) (x : Segs) (r : Seg) (z : Segs), locate g b = some (x, r, z) → g = x ++ r :: z ∧ sizeS x = b
  | [], b, x, r, z, h => by simp [locate] at h
  | s :: g, b, x, r, z, h => by
    simp only [locate] at h
    split at h
    · rename_i hb
      simp only [Option.some.injEq, Prod.mk.injEq] at h
      obtain ⟨rfl, rfl, rfl⟩ := h
      exact ⟨rfl, by simp [Nat.beq_eq] at hb; simp [sizeS]; exact hb.symm⟩
    · split at h
      · rename_i hle
        split at h
        · rename_i x' y' z' hl
          simp only [Option.some.injEq, Prod.mk.injEq] at h
          obtain ⟨rfl, rfl, rfl⟩ := h
          obtain ⟨e, hs⟩ := locate_spec g _ _ _ _ hl
          have := Nat.le_of_ble_eq_true hle
          exact ⟨by rw [e]; rfl, by simp only [sizeS, hs]; omega⟩
        · cases h
      · cases h
theorem takeS_spec : ∀ (g : Segs) (n : Nat) (x z : Segs), takeS g n = some (x, z) → g = x ++ z ∧ sizeS x = n
  | g, 0, x, z, h => by simp [takeS] at h; obtain ⟨rfl, rfl⟩ := h; exact ⟨rfl, rfl⟩
  | [], n + 1, x, z, h => by simp [takeS] at h
  | s :: g, n + 1, x, z, h => by
    simp only [takeS] at h
    split at h
    · rename_i hle
      split at h
      · rename_i x' y' ht
        simp only [Option.some.injEq, Prod.mk.injEq] at h
        obtain ⟨rfl, rfl⟩ := h
        obtain ⟨e, hs⟩ := takeS_spec g _ _ _ ht
        have := Nat.le_of_ble_eq_true hle
        exact ⟨by rw [e]; rfl, by simp only [sizeS, hs]; omega⟩
      · cases h
    · cases h
theorem splitS_spec : ∀ (g : Segs) (n : Nat) (x z : Segs), splitS g n = some (x, z) → g = x ++ z ∧ sizeS x = n
  | g, 0, x, z, h => by simp [splitS] at h; obtain ⟨rfl, rfl⟩ := h; exact ⟨rfl, rfl⟩
  | [], n + 1, x, z, h => by simp [splitS] at h
  | s :: g, n + 1, x, z, h => by
    simp only [splitS] at h
    split at h
    · rename_i hle
      split at h
      · rename_i x' y' ht
        simp only [Option.some.injEq, Prod.mk.injEq] at h
        obtain ⟨rfl, rfl⟩ := h
        obtain ⟨e, hs⟩ := splitS_spec g _ _ _ ht
        have := Nat.le_of_ble_eq_true hle
        exact ⟨by rw [e]; rfl, by simp only [sizeS, hs]; omega⟩
      · cases h
    · cases h
theorem beq_of {a b : Nat} (h : Nat.beq a b = true) : a = b := Nat.eq_of_beq_eq_true h
theorem elem_spec {g : Seg} (hw : g.wf) {ix w f : Nat} {v : Sc} (h : g.elem ix w f = some v) :
    (g.isOne = true ∧ ix * w + f = 0 ∧ g.flat = [v]) ∨ (g.isOne = false ∧ f < w ∧ w = g.width ∧ (ix < g.cnt → g.flat[ix * w + f]? = some v)) := by
  cases g <;> simp only [Seg.elem, Seg.wf] at h hw
  case one u =>
    split at h
    · rename_i h1 h2
      split at h
      · rename_i h3
        cases h
        left
        have := beq_of h1; have := beq_of h2; have := beq_of h3
        subst_vars
        exact ⟨rfl, rfl, rfl⟩
      · cases h
    · cases h
  case ints k xs n =>
    split at h
    · rename_i h1 h2
      cases h
      right
      have := beq_of h1; have := beq_of h2
      subst_vars
      refine ⟨rfl, by omega, rfl, fun hi => ?_⟩
      simp only [Seg.cnt] at hi
      simp [Seg.flat, hi, List.getD, List.getElem?_eq_getElem hi]
    · cases h
  case bytes xs n =>
    split at h
    · rename_i h1 h2
      cases h
      right
      have := beq_of h1; have := beq_of h2
      subst_vars
      refine ⟨rfl, by omega, rfl, fun hi => ?_⟩
      simp only [Seg.cnt] at hi
      simp [Seg.flat, hi, List.getD, List.getElem?_eq_getElem hi]
    · cases h
  case strs xs n =>
    split at h
    · rename_i h1 h2
      cases h
      right
      have := beq_of h1; have := beq_of h2
      subst_vars
      refine ⟨rfl, by omega, rfl, fun hi => ?_⟩
      simp only [Seg.cnt] at hi
      simp [Seg.flat, hi, List.getD, List.getElem?_eq_getElem hi]
    · cases h
  case recs fs xs n =>
    split at h
    · rename_i h1
      right
      have := beq_of h1
      subst this
      subst hw
      obtain ⟨a, b⟩ := tupAt_spec _ _ _ _ h
      refine ⟨rfl, a, rfl, fun hi => ?_⟩
      simp only [Seg.cnt] at hi
      simp only [Seg.flat]
      rw [flatMap_at _ fs.length (tupSc_len fs) _ _ _ a, List.getElem?_eq_getElem hi]
      simpa [List.getD, List.getElem?_eq_getElem hi] using b
    · cases h
theorem fits_u8 {x : Int} (h : fits .u8 x) : 0 ≤ x ∧ x ≤ 255 := by
  simp [fits, IntKind.min, IntKind.max, IntKind.signed, IntKind.bits] at h; omega
theorem u8_back {x : Int} (h : fits .u8 x) : ((UInt8.ofNat x.toNat).toNat : Int) = x := by
  obtain ⟨a, b⟩ := fits_u8 h
  simp [UInt8.toNat_ofNat]
  omega
def Sc.fine : Sc → Prop
  | .int k n => fits k n
  | _ => True
theorem srel_fine {ι : Map} {s : Sc} {v : Value} (h : srel ι s v) : s.fine := by
  cases s <;> simp only [Sc.fine]
  exact h.2
theorem setElem_spec {g g' : Seg} (hw : g.wf) {ix w f : Nat} {v : Sc} (hv : v.fine) (h : g.setElem ix w f v = some g') :
    g'.wf ∧ g'.isOne = g.isOne ∧ g'.size = g.size ∧ g'.cnt = g.cnt ∧ g'.width = g.width ∧
    ((g.isOne = true ∧ ix * w + f = 0 ∧ g'.flat = [v]) ∨ (g.isOne = false ∧ f < w ∧ w = g.width ∧ (ix < g.cnt → g'.flat = g.flat.set (ix * w + f) v))) := by
  cases g <;> simp only [Seg.setElem, Seg.wf] at h hw
  case one u =>
    split at h
    · rename_i h1 h2
      split at h
      · rename_i h3
        cases h
        have := beq_of h1; have := beq_of h2; have := beq_of h3
        subst_vars
        exact ⟨trivial, rfl, rfl, rfl, rfl, .inl ⟨rfl, rfl, rfl⟩⟩
      · cases h
    · cases h
  case ints k xs n =>
    split at h
    · rename_i k' x h1 h2
      split at h
      · rename_i hk
        cases h
        have := beq_of h1; have := beq_of h2
        subst_vars
        refine ⟨by simp [Seg.wf], rfl, rfl, rfl, rfl, .inr ⟨rfl, by omega, rfl, fun hi => ?_⟩⟩
        simp [Seg.flat, List.map_set]
      · cases h
    · cases h
  case bytes xs n =>
    split at h
    · rename_i x h1 h2
      cases h
      have := beq_of h1; have := beq_of h2
      subst_vars
      refine ⟨by simp [Seg.wf], rfl, rfl, rfl, rfl, .inr ⟨rfl, by omega, rfl, fun hi => ?_⟩⟩
      simp only [Seg.flat, List.map_set, Nat.mul_one, Nat.add_zero]
      rw [u8_back hv]
    · cases h
  case strs xs n =>
    split at h
    · rename_i x h1 h2
      cases h
      have := beq_of h1; have := beq_of h2
      subst_vars
      refine ⟨by simp [Seg.wf], rfl, rfl, rfl, rfl, .inr ⟨rfl, by omega, rfl, fun hi => ?_⟩⟩
      simp [Seg.flat, List.map_set]
    · cases h
  case recs fs xs n =>
    split at h
    · rename_i h1
      have := beq_of h1
      subst this
      subst hw
      split at h
      · rename_i u hu
        cases h
        obtain ⟨a, b⟩ := tupSet_spec _ _ _ _ _ hu
        refine ⟨by simp [Seg.wf], rfl, rfl, rfl, rfl, .inr ⟨rfl, a, rfl, fun hi => ?_⟩⟩
        simp only [Seg.cnt] at hi
        simp only [Seg.flat]
        refine flatMap_set _ fs.length (tupSc_len fs) _ _ _ xs[ix] _ _ (List.getElem?_eq_getElem hi) a ?_
        rw [b]
        simp [List.getD, List.getElem?_eq_getElem hi]
      · cases h
    · cases h
theorem cnt_of_lt {g : Seg} (hw : g.wf) (h1 : g.isOne = false) {ix f : Nat} (hf : f < g.width) (h : ix * g.width + f < g.size) : ix < g.cnt := by
  cases g <;> simp only [Seg.isOne, Seg.width, Seg.size, Seg.cnt] at *
  case one => cases h1
  case ints => omega
  case bytes => omega
  case strs => omega
  case recs fs xs n =>
    rcases Nat.lt_or_ge ix n with hlt | hge
    · exact hlt
    · exfalso
      have := Nat.mul_le_mul_right fs.length hge
      omega
theorem lt_of_cnt {g : Seg} (h1 : g.isOne = false) {ix f : Nat} (hf : f < g.width) (h : ix < g.cnt) : ix * g.width + f < g.size := by
  cases g <;> simp only [Seg.isOne, Seg.width, Seg.size, Seg.cnt] at *
  case one => cases h1
  case ints => omega
  case bytes => omega
  case strs => omega
  case recs fs xs n =>
    have := Nat.mul_le_mul_right fs.length (Nat.succ_le_of_lt h)
    rw [Nat.succ_mul] at this
    omega
theorem mid_at {a b c : List Sc} {i : Nat} (h : i < b.length) : (a ++ (b ++ c))[a.length + i]? = b[i]? := by
  rw [List.getElem?_append_right (by omega), Nat.add_sub_cancel_left, List.getElem?_append_left h]
theorem mid_set {a b c : List Sc} {i : Nat} {v : Sc} (h : i < b.length) : (a ++ (b ++ c)).set (a.length + i) v = a ++ (b.set i v ++ c) := by
  rw [List.set_append_right _ _ (by omega), Nat.add_sub_cancel_left, List.set_append_left _ _ h]
theorem ldSc_spec {R : Type} {g : Segs} (hw : wfs g) {base ix w f : Nat} {K : Sc → Option R} {r : R} (hlt : base + ix * w + f < (flats g).length) (h : ldSc g base ix w f K = some r) :
    ∃ v, (flats g)[base + ix * w + f]? = some v ∧ K v = some r := by
  have gen : ∀ (x : Segs) (s : Seg) (z : Segs) (v : Sc), locate g base = some (x, s, z) → s.elem ix w f = some v → (s.isOne = false → ix < s.cnt) → (flats g)[base + ix * w + f]? = some v := by
    intro x s z v hl he hc
    obtain ⟨e, hs⟩ := locate_spec _ _ _ _ _ hl
    subst e
    obtain ⟨wx, ws⟩ := wfs_append.1 hw
    obtain ⟨ws, wz⟩ := wfs_cons.1 ws
    have hx := flats_len wx
    rw [flats_append, flats_cons]
    have e1 : base + ix * w + f = (flats x).length + (ix * w + f) := by omega
    rw [e1]
    rcases elem_spec ws he with ⟨h1, h2, h3⟩ | ⟨h1, h2, h3, h4⟩
    · rw [mid_at (by rw [h3, h2]; simp), h3, h2]; rfl
    · have h5 := h4 (hc h1)
      rw [mid_at ?_, h5]
      rcases Nat.lt_or_ge (ix * w + f) s.flat.length with hh | hh
      · exact hh
      · rw [List.getElem?_eq_none hh] at h5; cases h5
  unfold ldSc at h
  split at h
  · rename_i s hl
    split at h
    · rename_i v he
      refine ⟨v, gen _ _ _ _ hl he (fun h1 => ?_), h⟩
      obtain ⟨e, hs⟩ := locate_spec _ _ _ _ _ hl
      subst e
      simp only [sizeS] at hs
      simp only [List.nil_append] at hlt hw
      rw [flats_one, Seg.flat_len (wfs_cons.1 hw).1] at hlt
      rcases elem_spec (wfs_cons.1 hw).1 he with ⟨h2, _⟩ | ⟨_, h3, h4, _⟩
      · rw [h1] at h2; cases h2
      · subst h4
        exact cnt_of_lt (wfs_cons.1 hw).1 h1 h3 (by omega)
    · cases h
  · rename_i x s z hl
    split at h
    · rename_i v he
      split at h
      · rename_i h1
        exact ⟨v, gen _ _ _ _ hl he (fun h2 => by rw [h1] at h2; cases h2), h⟩
      · unfold gd at h
        split at h
        · rename_i hb
          exact ⟨v, gen _ _ _ _ hl he (fun _ => by simpa [Nat.blt_eq] using hb), h⟩
        · cases h
    · cases h
  · cases h
theorem stSc_spec {R : Type} {g : Segs} (hw : wfs g) {base ix w f : Nat} {v : Sc} (hv : v.fine) {K : Segs → Option R} {r : R} (hlt : base + ix * w + f < (flats g).length) (h : stSc g base ix w f v K = some r) :
    ∃ g', wfs g' ∧ flats g' = (flats g).set (base + ix * w + f) v ∧ K g' = some r := by
  have gen : ∀ (x : Segs) (s s' : Seg) (z : Segs), locate g base = some (x, s, z) → s.setElem ix w f v = some s' → (s.isOne = false → ix < s.cnt) →
      wfs (x ++ s' :: z) ∧ flats (x ++ s' :: z) = (flats g).set (base + ix * w + f) v := by
    intro x s s' z hl he hc
    obtain ⟨e, hs⟩ := locate_spec _ _ _ _ _ hl
    subst e
    obtain ⟨wx, ws⟩ := wfs_append.1 hw
    obtain ⟨ws, wz⟩ := wfs_cons.1 ws
    have hx := flats_len wx
    obtain ⟨h0, h1, h2, h3, h4, h5⟩ := setElem_spec ws hv he
    refine ⟨wfs_append.2 ⟨wx, wfs_cons.2 ⟨h0, wz⟩⟩, ?_⟩
    simp only [flats_append, flats_cons]
    have e1 : base + ix * w + f = (flats x).length + (ix * w + f) := by omega
    rw [e1]
    rcases h5 with ⟨a, b, c⟩ | ⟨a, b, c, d⟩
    · have hl1 : s.flat.length = 1 := by rw [Seg.flat_len ws]; cases s <;> simp [Seg.isOne] at a; rfl
      rw [mid_set (by omega), b, c]
      congr 1
      match hq : s.flat, hl1 with
      | [q], _ => rfl
    · have hi := hc a
      rw [mid_set ?_, d hi]
      rw [Seg.flat_len ws]
      subst c
      exact lt_of_cnt a b hi
  unfold stSc at h
  split at h
  · rename_i s hl
    split at h
    · rename_i s' he
      obtain ⟨a, b⟩ := gen _ _ _ _ hl he (fun h1 => by
        obtain ⟨e, hs⟩ := locate_spec _ _ _ _ _ hl
        subst e
        simp only [sizeS] at hs
        simp only [List.nil_append] at hlt hw
        rw [flats_one, Seg.flat_len (wfs_cons.1 hw).1] at hlt
        obtain ⟨_, _, _, _, _, h5⟩ := setElem_spec (wfs_cons.1 hw).1 hv he
        rcases h5 with ⟨h2, _⟩ | ⟨_, h3, h4, _⟩
        · rw [h1] at h2; cases h2
        · subst h4
          exact cnt_of_lt (wfs_cons.1 hw).1 h1 h3 (by omega))
      exact ⟨_, a, b, h⟩
    · cases h
  · rename_i x s z hl
    split at h
    · rename_i s' he
      split at h
      · rename_i h1
        obtain ⟨a, b⟩ := gen _ _ _ _ hl he (fun h2 => by rw [h1] at h2; cases h2)
        exact ⟨_, a, b, h⟩
      · unfold gd at h
        split at h
        · rename_i hb
          obtain ⟨a, b⟩ := gen _ _ _ _ hl he (fun _ => by simpa [Nat.blt_eq] using hb)
          exact ⟨_, a, b, h⟩
        · cases h
    · cases h
  · cases h
theorem gd_some {R : Type} {b : Bool} {k : Option R} {r : R} (h : gd b k = some r) : b = true ∧ k = some r := by
  cases b <;> simp [gd] at h
  exact ⟨rfl, h⟩
theorem beqK_eq {j k : IntKind} (h : beqK j k = true) : j = k := by cases j <;> cases k <;> first | rfl | cases h
theorem fits_wrap (k : IntKind) (n : Int) : fits k (k.wrap n) := by
  cases k <;> simp [fits, IntKind.wrap, IntKind.min, IntKind.max, IntKind.signed, IntKind.bits] <;> (try split) <;> omega
theorem fitsB_fits {k : IntKind} {n : Int} (h : fitsB k n = true) : fits k n := by
  simpa [fitsB, fits] using h
theorem fits_zero_max (k : IntKind) : k.min ≤ 0 ∧ 0 ≤ k.max := by
  cases k <;> simp [IntKind.min, IntKind.max, IntKind.signed, IntKind.bits]
theorem fits_between {k : IntKind} {a c : Int} (h : fits k a) (h1 : 0 ≤ c → c ≤ max a 0) (h2 : c ≤ 0 → min a 0 ≤ c) : fits k c := by
  have hz := fits_zero_max k
  unfold fits at *
  constructor <;> omega
theorem tmod_le' {a b : Int} (h : 0 ≤ a) : a.tmod b ≤ a := by
  have h1 := Int.natAbs_tmod a b
  have h2 := Nat.mod_le a.natAbs b.natAbs
  have h3 := Int.tmod_nonneg (a := a) b h
  omega
theorem fits_tmod {k : IntKind} {a : Int} (b : Int) (h : fits k a) : fits k (a.tmod b) := by
  refine fits_between h ?_ ?_
  · intro _
    rcases Int.lt_or_le a 0 with ha | ha
    · have : a.tmod b ≤ 0 := by
        have := Int.tmod_nonneg (a := -a) b (by omega)
        rw [Int.neg_tmod] at this; omega
      omega
    · have := tmod_le' (a := a) (b := b) ha
      omega
  · intro _
    rcases Int.lt_or_le a 0 with ha | ha
    · have := tmod_le' (a := -a) (b := b) (by omega)
      rw [Int.neg_tmod] at this
      omega
    · have := Int.tmod_nonneg (a := a) b ha
      omega
theorem fits_shr {k : IntKind} {a : Int} (n : Nat) (h : fits k a) : fits k (a.fdiv (2 ^ n)) := by
  have hp : (0 : Int) < 2 ^ n := Int.pow_pos (by omega)
  rw [Int.fdiv_eq_ediv_of_nonneg _ (Int.le_of_lt hp)]
  refine fits_between h ?_ ?_
  · intro _
    rcases Int.lt_or_le a 0 with ha | ha
    · have := Int.ediv_neg_of_neg_of_pos ha hp
      omega
    · have := Int.ediv_le_self (a := a) (2 ^ n) ha
      omega
  · intro _
    rcases Int.lt_or_le a 0 with ha | ha
    · have h1 : a ≤ a / 2 ^ n := by
        rw [Int.le_ediv_iff_mul_le hp]
        have h3 : (1 : Int) ≤ 2 ^ n := hp
        have h4 : a * 2 ^ n ≤ a * 1 := Int.mul_le_mul_of_nonpos_left (by omega) h3
        omega
      omega
    · have := Int.ediv_nonneg ha (Int.le_of_lt hp)
      omega
theorem run_und {P : Program} {t : TypeId} {d : TypeDesc} (h : P.underlying t = some d) (w : World) : (underlying t).run P w = .ok d w := run_underlying h w
theorem toList_mk (s : Str) : (⟨s.toArray⟩ : ByteArray).toList = s := by rw [ByteArray.toList_eq]
theorem eqS_beq (a b : Str) : (a == b) = eqS a b := by unfold eqS; rw [Bool.eq_iff_iff]; simp
theorem size_mk (s : Str) : (⟨s.toArray⟩ : ByteArray).size = s.length := by simp [ByteArray.size]
def Res (P : Program) (o : Oper) (ρ : Operand → Value) (w : World) (x : Value) (w' : World) : Prop :=
  (execOp ρ o).run P w = .ok (.value x) w' ∨ ((execOp ρ o).run P w = .ok .skip w' ∧ x = undef)
theorem wp_of_res {P : Program} {o : Oper} {a : Act} {w : World} {x : Value} {w' : World} {next : Act → World → Prop} {Q : Exit → Act → World → Prop}
    (h : Res P o a.eval w x w') (hn : next (a.put o.dst x) w') : o.wp P a w next Q := by
  unfold Oper.wp
  rcases h with h | ⟨h, rfl⟩
  · rw [h]; exact hn
  · rw [h]; exact hn
theorem eqGuard_plain {P : Program} {w : World} {op : BinOp} {t : TypeId} {xo yo : Operand} : ∀ (X Y : Value), (∀ c, X ≠ .agg c) → X ≠ .nilIface → (eqGuard op t xo yo X Y).run P w = .ok () w := by
  intro X Y h1 h2
  cases X <;> first
    | exact absurd rfl h2
    | exact absurd rfl (h1 _)
    | (unfold eqGuard; dsimp only; split <;> rfl)
theorem eqSc_sound {P : Program} {ι : Map} {w : World} {t : TypeId} {x y : Sc} {X Y : Value} {xo yo : Operand} {b : Bool}
    (hx : srel ι x X) (hy : srel ι y Y) (h : eqSc (P.underlying t) (isC yo) x y = some b) :
    ((do eqGuard .eql t xo yo X Y; binOp .eql t X Y : Sem Value).run P w = .ok (.bool b) w) ∧
    ((do eqGuard .neq t xo yo X Y; binOp .neq t X Y : Sem Value).run P w = .ok (.bool (!b)) w) := by
  have fin : ∀ (X Y : Value) (b : Bool), (∀ c, X ≠ .agg c) → X ≠ .nilIface → (binOp .eql t X Y = (do pure (.bool (← Op.equal t X Y)) : Sem Value)) → (binOp .neq t X Y = (do pure (.bool (!(← Op.equal t X Y))) : Sem Value)) →
      (Op.equal t X Y).run P w = .ok b w →
      ((do eqGuard .eql t xo yo X Y; binOp .eql t X Y : Sem Value).run P w = .ok (.bool b) w) ∧
      ((do eqGuard .neq t xo yo X Y; binOp .neq t X Y : Sem Value).run P w = .ok (.bool (!b)) w) := by
    intro X Y b h1 h2 h3 h4 h5
    rw [h3, h4, Sem.run_bind, Sem.run_bind, eqGuard_plain X Y h1 h2, eqGuard_plain X Y h1 h2]
    simp [h5]
  unfold eqSc at h
  split at h
  · rename_i ht
    cases h
    cases hx; cases hy
    exact fin _ _ _ (by simp) (by simp) rfl rfl (run_equal_bool w t _ _ ht)
  · rename_i e ht
    cases h
    cases hx; cases hy
    exact fin _ _ _ (by simp) (by simp) rfl rfl (by show (Op.equalIn (9999 + 1) t _ _).run P w = _; rw [Op.equalIn, Sem.run_bind, run_und ht]; rfl)
  · rename_i e _ _ _ _ _ ht
    cases h
    cases hx
    obtain ⟨_, _, _, _, rfl, _⟩ := hy
    exact fin _ _ _ (by simp) (by simp) rfl rfl (by show (Op.equalIn (9999 + 1) t _ _).run P w = _; rw [Op.equalIn, Sem.run_bind, run_und ht]; rfl)
  · rename_i e _ _ _ _ _ ht
    cases h
    cases hy
    obtain ⟨_, _, _, _, rfl, _⟩ := hx
    exact fin _ _ _ (by simp) (by simp) rfl rfl (by show (Op.equalIn (9999 + 1) t _ _).run P w = _; rw [Op.equalIn, Sem.run_bind, run_und ht]; rfl)
  · rename_i ms a ht hc
    cases h
    have hY : Y = .nilIface := by
      rcases hy with ⟨_, e⟩ | ⟨e, _⟩
      · exact e
      · cases e
    subst hY
    rcases hx with ⟨rfl, rfl⟩ | ⟨rfl, tt, xx, rfl⟩
    · have hg : ∀ op, (eqGuard op t xo yo .nilIface .nilIface).run P w = .ok () w := by
        intro op
        unfold eqGuard
        cases yo <;> first | (cases hc; done) | (dsimp only; split <;> simp)
      have he : (Op.equal t .nilIface .nilIface).run P w = .ok true w := by show (Op.equalIn (9999 + 1) t _ _).run P w = _; rw [Op.equalIn, Sem.run_bind, run_und ht]; rfl
      constructor
      · rw [Sem.run_bind, hg]; simp [binOp, he]
      · rw [Sem.run_bind, hg]; simp [binOp, he]
    · exact fin _ _ _ (by simp) (by simp) rfl rfl (by show (Op.equalIn (9999 + 1) t _ _).run P w = _; rw [Op.equalIn, Sem.run_bind, run_und ht]; rfl)
  · rename_i k e ht
    cases h
    cases hx; cases hy
    exact fin _ _ _ (by simp) (by simp) rfl rfl (by show (Op.equalIn (9999 + 1) t _ _).run P w = _; rw [Op.equalIn, Sem.run_bind, run_und ht]; rfl)
  · rename_i k e _ ht
    cases h
    cases hy
    obtain ⟨_, _, _, _, rfl⟩ := hx
    exact fin _ _ _ (by simp) (by simp) rfl rfl (by show (Op.equalIn (9999 + 1) t _ _).run P w = _; rw [Op.equalIn, Sem.run_bind, run_und ht]; rfl)
  · rename_i k e v ht
    cases h
    cases hx; cases hy
    exact fin _ _ _ (by simp) (by simp) rfl rfl (by show (Op.equalIn (9999 + 1) t _ _).run P w = _; rw [Op.equalIn, Sem.run_bind, run_und ht]; rfl)
  · rename_i k e v _ _ ht
    cases h
    cases hy
    obtain ⟨_, rfl, _⟩ := hx
    exact fin _ _ _ (by simp) (by simp) rfl rfl (by show (Op.equalIn (9999 + 1) t _ _).run P w = _; rw [Op.equalIn, Sem.run_bind, run_und ht]; rfl)
  · cases h
theorem bin_sound {R : Type} {P : Program} {ι : Map} {w : World} {op : BinOp} {t : TypeId} {x y : Sc} {X Y : Value} {xo yo : Operand} {K : Sc → Option R} {r : R}
    (hx : srel ι x X) (hy : srel ι y Y) (h : evBin (P.underlying t) (isC yo) op x y K = some r) :
    ∃ v V, K v = some r ∧ srel ι v V ∧ (do eqGuard op t xo yo X Y; binOp op t X Y : Sem Value).run P w = .ok V w := by
  have noguard : ∀ (X Y : Value), (∀ c, X ≠ .agg c) → X ≠ .nilIface → (eqGuard op t xo yo X Y).run P w = .ok () w := by
    intro X Y h1 h2
    cases X <;> first
      | exact absurd rfl h2
      | exact absurd rfl (h1 _)
      | (unfold eqGuard; dsimp only; split <;> rfl)
  have fin : ∀ (X Y V : Value), (∀ c, X ≠ .agg c) → X ≠ .nilIface → (binOp op t X Y).run P w = .ok V w →
      (do eqGuard op t xo yo X Y; binOp op t X Y : Sem Value).run P w = .ok V w := by
    intro X Y V h1 h2 h3
    rw [Sem.run_bind, noguard X Y h1 h2, Result.andThen_ok, h3]
  unfold evBin at h
  split at h
  · rename_i k a k2 b
    obtain ⟨rfl, ha⟩ := hx
    obtain ⟨rfl, hb⟩ := hy
    obtain ⟨h1, h2⟩ := gd_some h
    have hb0 : ¬ b < 0 := by simp [leI] at h1; omega
    refine ⟨_, _, h2, ⟨rfl, fits_wrap _ _⟩, fin _ _ _ (by simp) (by simp) ?_⟩
    simp [binOp, Op.shift, hb0, shlI]
  · rename_i k a k2 b
    obtain ⟨rfl, ha⟩ := hx
    obtain ⟨rfl, hb⟩ := hy
    obtain ⟨h1, h2⟩ := gd_some h
    have hb0 : ¬ b < 0 := by simp [leI] at h1; omega
    refine ⟨_, _, h2, ⟨rfl, fits_shr _ ha⟩, fin _ _ _ (by simp) (by simp) ?_⟩
    simp [binOp, Op.shift, hb0, shrI]
  · rename_i k a k' b hn1 hn2
    obtain ⟨rfl, ha⟩ := hx
    obtain ⟨rfl, hb⟩ := hy
    split at h
    · rename_i hk
      have := beqK_eq hk
      subst this
      have key : ∀ V, K V = some r → srel ι V (match V with | .int k n => Value.int k n | .bool b => .bool b | _ => undef) →
          (binOp op t (.int k a) (.int k b)).run P w = .ok (match V with | .int k n => Value.int k n | .bool b => .bool b | _ => undef) w →
          ∃ v V, K v = some r ∧ srel ι v V ∧ (do eqGuard op t xo yo (.int k a) (.int k b); binOp op t (.int k a) (.int k b) : Sem Value).run P w = .ok V w :=
        fun V h1 h2 h3 => ⟨V, _, h1, h2, fin _ _ _ (by simp) (by simp) h3⟩
      unfold evBinInt at h
      split at h
      · exact key _ h ⟨rfl, fits_wrap _ _⟩ (by simp [binOp, Op.intArith, addI])
      · exact key _ h ⟨rfl, fits_wrap _ _⟩ (by simp [binOp, Op.intArith, subI])
      · exact key _ h ⟨rfl, fits_wrap _ _⟩ (by simp [binOp, Op.intArith, mulI])
      · obtain ⟨h1, h2⟩ := gd_some h
        have : b ≠ 0 := by simpa [eqI] using h1
        exact key _ h2 ⟨rfl, fits_wrap _ _⟩ (by simp [binOp, Op.intDiv, this, quoI])
      · obtain ⟨h1, h2⟩ := gd_some h
        have : b ≠ 0 := by simpa [eqI] using h1
        exact key _ h2 ⟨rfl, fits_tmod _ ha⟩ (by simp [binOp, Op.intDiv, this, remI])
      · exact key _ h ⟨rfl, fits_wrap _ _⟩ (by simp [binOp, Op.intBits, andI])
      · exact key _ h ⟨rfl, fits_wrap _ _⟩ (by simp [binOp, Op.intBits, orI])
      · exact key _ h ⟨rfl, fits_wrap _ _⟩ (by simp [binOp, Op.intBits, xorI])
      · exact key _ h ⟨rfl, fits_wrap _ _⟩ (by simp [binOp, Op.intBits, andNotI])
      · exact key _ h rfl (by simp [binOp, Op.intCmp, eqI]; rfl)
      · exact key _ h rfl (by simp [binOp, Op.intCmp, eqI]; rfl)
      · exact key _ h rfl (by simp [binOp, Op.intCmp, ltI])
      · exact key _ h rfl (by simp [binOp, Op.intCmp, leI])
      · exact key _ h rfl (by simp [binOp, Op.intCmp, ltI])
      · exact key _ h rfl (by simp [binOp, Op.intCmp, leI])
      · cases h
    · cases h
  · rename_i a b
    obtain ⟨rfl, ha⟩ := hx
    obtain ⟨rfl, hb⟩ := hy
    have fin' := fun V => fin (.string ⟨a.toArray⟩) (.string ⟨b.toArray⟩) V (by simp) (by simp)
    unfold evBinStr at h
    split at h
    · obtain ⟨h1, h2⟩ := gd_some h
      have h1' : a.length + b.length ≤ 9223372036854775807 := by simpa [catB] using h1
      refine ⟨_, .string ⟨(a ++ b).toArray⟩, h2, ⟨rfl, by simpa using h1'⟩, fin' _ ?_⟩
      have h3 : ¬ (((⟨a.toArray⟩ : ByteArray).size + (⟨b.toArray⟩ : ByteArray).size : Nat) : Int) > IntKind.i64.max := by
        rw [size_mk, size_mk]; simp [IntKind.max, IntKind.signed, IntKind.bits]; omega
      have h4 : (⟨a.toArray⟩ : ByteArray) ++ ⟨b.toArray⟩ = ⟨(a ++ b).toArray⟩ := by
        apply ByteArray.ext
        rw [ByteArray.data_append]
        simp
      simp only [binOp, Op.stringOp]
      rw [if_neg h3, h4]
      rfl
    · exact ⟨_, _, h, rfl, fin' _ (by simp only [binOp, Op.stringOp, toList_mk, eqS_beq]; rfl)⟩
    · exact ⟨_, _, h, rfl, fin' _ (by simp only [binOp, Op.stringOp, toList_mk, eqS_beq]; rfl)⟩
    · exact ⟨_, _, h, rfl, fin' _ (by simp [binOp, Op.stringOp, toList_mk, ltS])⟩
    · exact ⟨_, _, h, rfl, fin' _ (by simp only [binOp, Op.stringOp, toList_mk, eqS_beq]; rfl)⟩
    · exact ⟨_, _, h, rfl, fin' _ (by simp only [binOp, Op.stringOp, toList_mk, eqS_beq]; rfl)⟩
    · exact ⟨_, _, h, rfl, fin' _ (by simp [binOp, Op.stringOp, toList_mk, ltS])⟩
    · cases h
  · rename_i hni hns
    split at h
    · rename_i b hb
      obtain ⟨h1, h2⟩ := eqSc_sound (P := P) (w := w) (xo := xo) (t := t) hx hy hb
      exact ⟨_, _, h, rfl, h1⟩
    · cases h
  · rename_i hni hns
    split at h
    · rename_i b hb
      obtain ⟨h1, h2⟩ := eqSc_sound (P := P) (w := w) (xo := xo) (t := t) hx hy hb
      exact ⟨_, _, h, rfl, h2⟩
    · cases h
  · cases h
theorem lenG_cnt {g : Seg} (h : g.wf) (h1 : 0 < g.width) : lenG g = g.cnt := by
  cases g <;> simp only [Seg.wf, lenG, Seg.cnt, Seg.width] at *
  case one => omega
  all_goals exact h
theorem size_cnt (g : Seg) (h1 : 0 < g.width) : g.size = g.cnt * g.width := by
  cases g <;> simp only [Seg.size, Seg.cnt, Seg.width] at * <;> omega
theorem flatMap_sub {α β : Type} (f : α → List β) (m : Nat) (hf : ∀ x, (f x).length = m) : ∀ (xs : List α) (s l : Nat), ((xs.drop s).take l).flatMap f = ((xs.flatMap f).drop (s * m)).take (l * m) := by
  intro xs
  have hd : ∀ (xs : List α) (s : Nat), (xs.drop s).flatMap f = (xs.flatMap f).drop (s * m) := by
    intro xs
    induction xs with
    | nil => intro s; simp
    | cons x xs ih =>
      intro s
      cases s with
      | zero => simp
      | succ s =>
        have : (s + 1) * m = (f x).length + s * m := by rw [hf, Nat.succ_mul]; omega
        rw [List.drop_succ_cons, List.flatMap_cons, this, List.drop_append, List.drop_of_length_le (show (f x).length ≤ (f x).length + s * m by omega), ih]
        simp [Nat.add_sub_cancel_left]
  have ht : ∀ (xs : List α) (l : Nat), (xs.take l).flatMap f = (xs.flatMap f).take (l * m) := by
    intro xs
    induction xs with
    | nil => intro l; simp
    | cons x xs ih =>
      intro l
      cases l with
      | zero => simp
      | succ l =>
        have : (l + 1) * m = (f x).length + l * m := by rw [hf, Nat.succ_mul]; omega
        rw [List.take_succ_cons, List.flatMap_cons, List.flatMap_cons, this, List.take_append, List.take_of_length_le (show (f x).length ≤ (f x).length + l * m by omega), ih]
        simp [Nat.add_sub_cancel_left]
  intro s l
  rw [ht, hd]
theorem subG_spec {g g' : Seg} (hw : g.wf) {s l : Nat} (hle : s + l ≤ g.cnt) (h : subG g s l = some g') :
    g'.wf ∧ g'.cnt = l ∧ lenG g' = l ∧ g'.width = g.width ∧ g'.flat = (g.flat.drop (s * g.width)).take (l * g.width) ∧ g.isOne = false := by
  cases g <;> simp only [subG, Seg.wf, Seg.cnt] at h hw hle
  case one => cases h
  case ints k xs n =>
    cases h
    have : ((xs.drop s).take l).length = l := by simp; omega
    exact ⟨this, rfl, this, rfl, by simp [Seg.flat, Seg.width, List.map_take, List.map_drop], rfl⟩
  case bytes xs n =>
    cases h
    have : ((xs.drop s).take l).length = l := by simp; omega
    exact ⟨this, rfl, this, rfl, by simp [Seg.flat, Seg.width, List.map_take, List.map_drop], rfl⟩
  case strs xs n =>
    cases h
    have : ((xs.drop s).take l).length = l := by simp; omega
    exact ⟨this, rfl, this, rfl, by simp [Seg.flat, Seg.width, List.map_take, List.map_drop], rfl⟩
  case recs fs xs n =>
    cases h
    have : ((xs.drop s).take l).length = l := by simp; omega
    refine ⟨this, rfl, this, rfl, ?_, rfl⟩
    · simp only [Seg.flat, Seg.width]
      exact flatMap_sub _ fs.length (tupSc_len fs) xs s l
def appE : Eff → (Nat → Option Blk) → Nat → Option Blk
  | [], h => h
  | (n, b) :: r, h => appE r (put1 h n b)
def Good {R : Type} (P : Program) (o : Oper) (ρ : Operand → Value) (ι : Map) (I : Nat → Prop) (nx : Nat) (hp : Nat → Option Blk) (w : World) (K : AVal → Eff → Nat → Option R) (r : R) : Prop :=
  ∃ v E cnt x w' ι' I', K v E cnt = some r ∧ vrel ι' v x ∧ HSim ι' I' (nx + cnt) (appE E hp) w' ∧ Map.up nx ι ι' ∧ Fr I w I' w' ∧ Res P o ρ w x w'
section
variable {R : Type} {P : Program} {o : Oper} {ρ : Operand → Value} {ι : Map} {I : Nat → Prop} {nx : Nat} {hp : Nat → Option Blk} {w : World} {K : AVal → Eff → Nat → Option R} {r : R}
theorem good_pure (hs : HSim ι I nx hp w) {v : AVal} {x : Value} (h : K v [] 0 = some r) (hv : vrel ι v x) (hr : (execOp ρ o).run P w = .ok (.value x) w) : Good P o ρ ι I nx hp w K r :=
  ⟨v, [], 0, x, w, ι, I, h, hv, hs, Map.up_refl _ _, Fr.refl _ _, .inl hr⟩
theorem krel_len {l : List Sc} {cs : List Value} (h : krel ι l cs) : cs.length = l.length := by
  unfold krel at h
  induction h with
  | nil => rfl
  | cons _ _ ih => simp [ih]
theorem krel_at {l : List Sc} {cs : List Value} (h : krel ι l cs) : ∀ (i : Nat) (x : Sc), l[i]? = some x → ∃ v : Value, cs[i]? = some v ∧ srel ι x v ∧ (v.oneCell' = true ∧ v.cells = #[v]) := by
  unfold krel at h
  induction h with
  | nil => intro i x hx; simp at hx
  | cons a _ ih =>
    intro i x hx
    cases i with
    | zero => simp at hx; subst hx; exact ⟨_, rfl, a.1, a.2⟩
    | succ i => simpa using ih i x (by simpa using hx)
theorem krel_append {l l' : List Sc} {cs cs' : List Value} (h : krel ι l cs) (h' : krel ι l' cs') : krel ι (l ++ l') (cs ++ cs') := by
  unfold krel at *
  induction h with
  | nil => exact h'
  | cons a _ ih => exact .cons a ih
theorem krel_of_at : ∀ (l : List Sc) (cs : List Value), cs.length = l.length → (∀ (i : Nat) (x : Sc), l[i]? = some x → ∃ v : Value, cs[i]? = some v ∧ srel ι x v ∧ (v.oneCell' = true ∧ v.cells = #[v])) → krel ι l cs
  | [], [], _, _ => .nil
  | [], _ :: _, h, _ => by simp at h
  | _ :: _, [], h, _ => by simp at h
  | a :: l, c :: cs, h, hh => by
    obtain ⟨v, h1, h2⟩ := hh 0 a rfl
    simp at h1; subst h1
    exact .cons h2 (krel_of_at l cs (by simpa using h) fun i x hx => by simpa using hh (i + 1) x (by simpa using hx))
theorem segsOf_spec {v : AVal} {x : Value} {g : Segs} (hv : vrel ι v x) (h : segsOf v = some g) : wfs g ∧ ∃ cs : List Value, x.cells = cs.toArray ∧ krel ι (flats g) cs := by
  unfold segsOf at h
  split at h
  · cases h
  · rename_i s hs
    cases h
    have hk : s.known := by cases s <;> first | trivial | exact (hs rfl).elim
    have := srel_one hv hk
    refine ⟨wfs_cons.2 ⟨trivial, fun _ h => by cases h⟩, [x], this.2, ?_⟩
    exact .cons ⟨hv, this⟩ .nil
  · cases h
    obtain ⟨a, cs, rfl, b⟩ := hv
    exact ⟨a, cs, rfl, b⟩
  · cases h
theorem good_new (hs : HSim ι I nx hp w) {g : Segs} (hg : wfs g) {C : Array Value} {e : TypeId} {fr : Nat × Nat} {cap wd : Nat} {v : AVal} {x : Value} {w' : World}
    (hlen : (flats g).length ≤ C.size) (hcap : cap * wd ≤ C.size) (hfr : ∀ o, o < C.size → ¬ (fr.1 ≤ o ∧ o < fr.2))
    (hc : ∀ (i : Nat) (x : Sc), (flats g)[i]? = some x → ∃ v : Value, C[i]? = some v ∧ srel ι x v ∧ (v.oneCell' = true ∧ v.cells = #[v]))
    (hw : w'.heap = w.heap.push (.cells C e fr)) (h1 : w'.os = w.os) (h2 : w'.tape = w.tape) (h3 : w'.output = w.output)
    (h : K v [(nx, some ⟨true, g⟩)] 1 = some r)
    (hv : ∀ ι' : Map, ι.le ι' → ι' nx = some ⟨some w.heap.size, 0, cap, (flats g).length, wd⟩ → vrel ι' v x)
    (hr : (execOp ρ o).run P w = .ok (.value x) w') : Good P o ρ ι I nx hp w K r := by
  obtain ⟨a, b⟩ := hs.alloc g hg C e fr cap wd hlen hcap hfr hc w' hw
  exact ⟨v, _, 1, x, w', _, _, h, hv _ b (by simp), a, Map.up_new b, Fr.alloc hw h1 h2 h3, .inl hr⟩
theorem good_new_kill (hs : HSim ι I nx hp w) {g : Segs} (hg : wfs g) {C : Array Value} {e : TypeId} {fr : Nat × Nat} {cap wd : Nat} {v : AVal} {x : Value} {w' : World} {n : Nat}
    (hlen : (flats g).length ≤ C.size) (hcap : cap * wd ≤ C.size) (hfr : ∀ o, o < C.size → ¬ (fr.1 ≤ o ∧ o < fr.2))
    (hc : ∀ (i : Nat) (x : Sc), (flats g)[i]? = some x → ∃ v : Value, C[i]? = some v ∧ srel ι x v ∧ (v.oneCell' = true ∧ v.cells = #[v]))
    (hw : w'.heap = w.heap.push (.cells C e fr)) (h1 : w'.os = w.os) (h2 : w'.tape = w.tape) (h3 : w'.output = w.output)
    (hn : n < nx)
    (h : K v [(nx, some ⟨true, g⟩), (n, none)] 1 = some r)
    (hv : ∀ ι' : Map, ι.le ι' → ι' nx = some ⟨some w.heap.size, 0, cap, (flats g).length, wd⟩ → vrel ι' v x)
    (hr : (execOp ρ o).run P w = .ok (.value x) w') : Good P o ρ ι I nx hp w K r := by
  obtain ⟨a, b⟩ := hs.alloc g hg C e fr cap wd hlen hcap hfr hc w' hw
  refine ⟨v, _, 1, x, w', _, _, h, hv _ b (by simp), ?_, Map.up_new b, Fr.alloc hw h1 h2 h3, .inl hr⟩
  refine a.less fun m c hm => ?_
  simp only [appE, put1] at hm ⊢
  split at hm
  · cases hm
  · exact hm
theorem name_lt (hs : HSim ι I nx hp w) {n : Nat} {b : Blk} (h : hp n = some b) : n < nx := by
  rcases Nat.lt_or_ge n nx with hl | hl
  · exact hl
  · rw [(hs.fresh n hl).2] at h; cases h
theorem blk_at (hs : HSim ι I nx hp w) {n : Nat} {b : Blk} (hb : hp n = some b) {lo : Loc} (hlo : ι n = some lo) {k : Nat} (hk : lo.blk = some k) :
    wfs b.g ∧ lo.len = (flats b.g).length ∧ Holds ι w k lo (flats b.g) ∧ (b.rw = true → I k) ∧ k < w.heap.size := by
  have ho := hs.ok n b hb
  obtain ⟨l, h1, h2, h3, h4⟩ := ho.ex
  rw [hlo] at h1; cases h1
  obtain ⟨a, b', c⟩ := h4 k hk
  exact ⟨ho.wf, h2, c, a, c.lt⟩
theorem blk_len (hs : HSim ι I nx hp w) {n : Nat} {b : Blk} (hb : hp n = some b) {lo : Loc} (hlo : ι n = some lo) : wfs b.g ∧ lo.len = (flats b.g).length := by
  have ho := hs.ok n b hb
  obtain ⟨l, h1, h2, h3, h4⟩ := ho.ex
  rw [hlo] at h1; cases h1
  exact ⟨ho.wf, h2⟩
theorem Holds.cell {k : Nat} {lo : Loc} {l : List Sc} (h : Holds ι w k lo l) {i : Nat} {x : Sc} (hx : l[i]? = some x) :
    ∃ v, w.cell? ⟨k, lo.off + i, none⟩ = some v ∧ srel ι x v ∧ (v.oneCell' = true ∧ v.cells = #[v]) := by
  obtain ⟨C, e, fr, h1, h2, h3, h4, h5⟩ := h.ex
  obtain ⟨v, a, b, c⟩ := h5 i x hx
  exact ⟨v, by simp [World.cell?, h1, a], b, c⟩
theorem Addr.add_plain' (g o j : Nat) : (⟨g, o, none⟩ : Addr).add j = ⟨g, o + j, none⟩ := by unfold Addr.add; split <;> simp_all
theorem Holds.cells {k : Nat} {lo : Loc} {l : List Sc} (h : Holds ι w k lo l) (s m : Nat) (hm : s + m ≤ l.length) :
    ∃ cs : List Value, (loadCells ⟨k, lo.off + s, none⟩ m).run P w = .ok cs.toArray w ∧ krel ι ((l.drop s).take m) cs := by
  have hx : ∀ j, j < m → ∃ v, w.cell? ⟨k, lo.off + (s + j), none⟩ = some v ∧ (∃ x, l[s + j]? = some x ∧ srel ι x v ∧ (v.oneCell' = true ∧ v.cells = #[v])) := by
    intro j hj
    have hlt : s + j < l.length := by omega
    obtain ⟨v, a, b, c⟩ := h.cell (List.getElem?_eq_getElem hlt)
    exact ⟨v, a, _, List.getElem?_eq_getElem hlt, b, c⟩
  let f : Nat → Value := fun j => (w.cell? ⟨k, lo.off + (s + j), none⟩).getD undef
  have hf : ∀ j, j < m → w.cell? ((⟨k, lo.off + s, none⟩ : Addr).add j) = some (f j) := by
    intro j hj
    obtain ⟨v, a, _⟩ := hx j hj
    rw [Addr.add_plain', Nat.add_assoc, a]
    simp [f, a]
  refine ⟨(List.range m).map f, run_loadCells w _ m f hf, ?_⟩
  refine krel_of_at _ _ (by simp; omega) ?_
  intro i x hxi
  rw [List.getElem?_take] at hxi
  split at hxi
  · rename_i hi
    rw [List.getElem?_drop] at hxi
    obtain ⟨v, a, y, b, c⟩ := hx i hi
    rw [b] at hxi; cases hxi
    refine ⟨v, ?_, c⟩
    simp [hi, f, a]
  · cases hxi
theorem aggOf_run {t : TypeId} {b : Bool} (h : aggOf P t = some b) : (isAgg t).run P w = .ok b w := by
  unfold aggOf at h
  unfold isAgg
  split at h <;> first
    | (cases h; done)
    | (rename_i d hd; cases h; rw [Sem.run_bind, run_und hd]; rfl)
    | (rename_i d e hd; cases h; rw [Sem.run_bind, run_und hd]; rfl)
    | (rename_i d h1 h2 hd; cases h; rw [Sem.run_bind, run_und hd]; cases d <;> first | rfl | exact (h1 _ rfl).elim | exact (h2 _ _ rfl).elim)
theorem cells_run {t : TypeId} {n : Nat} (h : cells P t = some n) : (sizeOf t).run P w = .ok n w := by
  unfold cells at h
  cases hi : P.info? t with
  | none => rw [hi] at h; cases h
  | some i =>
    rw [hi] at h
    cases h
    simp [sizeOf, typeInfo, hi]
theorem load_val {K' : AVal → Option R} (hs : HSim ι I nx hp w) {t : TypeId} {y : Value} {n base ix wd f : Nat} (ha : srel ι (.ptr n base ix wd f) y) {b : Blk} (hb : hp n = some b)
    (h : (match aggOf P t with
        | some true => match cells P t with
          | some size => ldAgg b.g base ix wd f size fun g => K' (.g g)
          | none => none
        | some false => ldSc b.g base ix wd f fun v => K' (.s v)
        | none => none) = some r) : ∃ k, y = .pointer (some k) ∧ ∃ v x, K' v = some r ∧ vrel ι v x ∧ (loadVar t k).run P w = .ok x w := by
  obtain ⟨lo, k, h1, h2, h3, h4⟩ := ha
  obtain ⟨hwf, hlen, hold, _, _⟩ := blk_at hs hb h1 h2
  refine ⟨_, h3, ?_⟩
  split at h
  · rename_i hagg
    split at h
    · rename_i size hsz
      have fin : ∀ (g : Segs) (m : Nat), wfs g → flats g = ((flats b.g).drop (base + ix * wd + f)).take size → base + ix * wd + f + size ≤ (flats b.g).length → K' (.g g) = some r → ∃ v x, K' v = some r ∧ vrel ι v x ∧ (loadVar t ⟨k, lo.off + (base + ix * wd + f), none⟩).run P w = .ok x w := by
        intro g m hg he hle hK
        obtain ⟨cs, hc1, hc2⟩ := hold.cells (P := P) (base + ix * wd + f) size hle
        refine ⟨_, .agg cs.toArray, hK, ⟨hg, cs, rfl, by rw [he]; exact hc2⟩, ?_⟩
        unfold loadVar
        rw [Sem.run_bind, aggOf_run hagg]
        simp only [Result.andThen_ok, if_true, Sem.run_bind, cells_run hsz, hc1, Sem.run_pure]
      unfold ldAgg at h
      split at h
      · rename_i hw0
        have := beq_of hw0; subst this
        split at h
        · rename_i p q hf0 hsp
          have := beq_of hf0; subst this
          split at h
          · rename_i x z htk
            obtain ⟨e1, s1⟩ := splitS_spec _ _ _ _ hsp
            obtain ⟨e2, s2⟩ := takeS_spec _ _ _ _ htk
            subst e2
            rw [e1] at hwf
            obtain ⟨wp, wq⟩ := wfs_append.1 hwf
            obtain ⟨wx, wz⟩ := wfs_append.1 wq
            have lp := flats_len wp
            have lx := flats_len wx
            have e3 : flats b.g = flats p ++ (flats x ++ flats z) := by rw [e1, flats_append, flats_append]
            have e4 : base + ix * 0 + 0 = (flats p).length := by omega
            refine fin x size wx ?_ ?_ h
            · rw [e3, e4, List.drop_left, List.take_append_of_le_length (by omega), List.take_of_length_le (by omega)]
            · rw [e3, e4]; simp; omega
          · cases h
        · cases h
      · split at h
        · rename_i fs xs m hg
          split at h
          · rename_i h5 h6 h7 h8
            have := beq_of h5; subst this
            have := beq_of h6; subst this
            have := beq_of h7; subst this
            have := beq_of h8; subst this
            rw [hg] at hwf hlen
            have hx : xs.length = m := (wfs_cons.1 hwf).1
            rw [flats_one, Seg.flat_len (wfs_cons.1 hwf).1] at hlen
            simp only [Seg.size] at hlen
            have hix : ix < xs.length := by
              rcases Nat.lt_or_ge ix xs.length with hh | hh
              · exact hh
              · exfalso
                have := Nat.mul_le_mul_right fs.length hh
                rw [hx] at this
                omega
            have hle : ix * fs.length + fs.length ≤ xs.length * fs.length := by
              have := Nat.mul_le_mul_right fs.length (Nat.succ_le_of_lt hix)
              rwa [Nat.succ_mul] at this
            have hfl : flats b.g = xs.flatMap (tupSc fs) := by rw [hg, flats_one]; rfl
            have hones : ∀ l : List Sc, flats (l.map Seg.one) = l ∧ wfs (l.map Seg.one) := by
              intro l
              induction l with
              | nil => exact ⟨rfl, fun _ h => by cases h⟩
              | cons a l ih => exact ⟨by rw [List.map_cons, flats_cons, ih.1]; rfl, wfs_cons.2 ⟨trivial, ih.2⟩⟩
            refine fin _ m (hones _).2 ?_ ?_ h
            · rw [(hones _).1, hfl]
              apply List.ext_getElem?
              intro j
              rw [List.getElem?_take]
              split
              · rename_i hj
                rw [List.getElem?_drop]
                have : 0 + ix * fs.length + 0 + j = ix * fs.length + j := by omega
                rw [this, flatMap_at _ fs.length (tupSc_len fs) _ _ _ hj, List.getElem?_eq_getElem hix]
                simp [List.getD, List.getElem?_eq_getElem hix]
              · rename_i hj
                rw [List.getElem?_eq_none (by rw [tupSc_len]; omega)]
            · rw [hfl, flatMap_len _ fs.length (tupSc_len fs)]; omega
          · cases h
        · rename_i q _ hg
          split at h
          · rename_i x hc hx
            simp only [Bool.and_eq_true] at hc
            obtain ⟨⟨c1, c2⟩, c3, c4⟩ := hc
            have := beq_of c1; subst this
            have c2 := beq_of c2
            have := beq_of c3; subst this
            have := beq_of c4; subst this
            obtain ⟨g1, g2⟩ := gd_some h
            have hle : ix + size ≤ q.cnt := Nat.le_of_ble_eq_true g1
            rw [hg] at hwf
            have hq := (wfs_cons.1 hwf).1
            obtain ⟨s1, s2, s3, s4, s5, _⟩ := subG_spec hq hle hx
            have hfq : flats b.g = q.flat := by rw [hg, flats_one]
            refine fin [x] size (wfs_cons.2 ⟨s1, fun _ h => by cases h⟩) ?_ ?_ g2
            · rw [flats_one, s5, hfq, c2, Nat.mul_one, Nat.mul_one, Nat.zero_add, Nat.add_zero]
            · rw [hfq, Seg.flat_len hq, size_cnt q (by omega), c2]; omega
          · cases h
        · cases h
    · cases h
  · rename_i hagg
    obtain ⟨v, hv, hK⟩ := ldSc_spec hwf (by rw [← hlen]; exact h4) h
    obtain ⟨x, hx1, hx2, _⟩ := hold.cell hv
    refine ⟨_, x, hK, hx2, ?_⟩
    unfold loadVar
    rw [Sem.run_bind, aggOf_run hagg]
    simp [hx1]
  · cases h
theorem good_load (hs : HSim ι I nx hp w) {t : TypeId} {a : Operand} (ho : o.op = .load t a) {n base ix wd f : Nat} (ha : srel ι (.ptr n base ix wd f) (ρ a)) {b : Blk} (hb : hp n = some b)
    (h : (match aggOf P t with
        | some true => match cells P t with
          | some size => ldAgg b.g base ix wd f size fun g => K (.g g) [] 0
          | none => none
        | some false => ldSc b.g base ix wd f fun v => K (.s v) [] 0
        | none => none) = some r) : Good P o ρ ι I nx hp w K r := by
  obtain ⟨k, h3, v, x, hK, hv, hx⟩ := load_val (K' := fun v => K v [] 0) hs ha hb h
  refine good_pure hs hK hv ?_
  unfold execOp
  rw [ho]
  simp only [Instr.loadAt, h3, Instr.sureAddr, Sem.run_bind, Sem.run_pure, Result.andThen_ok, hx]
end
section
variable {R : Type} {P : Program} {o : Oper} {ρ : Operand → Value} {ι : Map} {I : Nat → Prop} {nx : Nat} {hp : Nat → Option Blk} {w : World} {K : AVal → Eff → Nat → Option R} {r : R}
theorem run_storeCells (k off : Nat) : ∀ (vs : List Value) (i : Nat) (w : World) (C : Array Value) (e : TypeId) (fr : Nat × Nat), (∀ v ∈ vs, v.oneCell' = true) →
    w.heap[k]? = some (.cells C e fr) → off + i + vs.length ≤ C.size → (∀ o, o < C.size → ¬ (fr.1 ≤ o ∧ o < fr.2)) →
    (storeCells ⟨k, off, none⟩ vs i).run P w = .ok () (putCells w k (off + i) vs) := by
  intro vs
  induction vs with
  | nil => intro i w C e fr _ _ _ _; rfl
  | cons v vs ih =>
    intro i w C e fr h1 h2 h3 h4
    simp only [List.length_cons] at h3
    have hlt : off + i < C.size := by omega
    have hc : w.cell? ⟨k, off + i, none⟩ = some C[off + i] := by simp [World.cell?, h2, hlt]
    have hf : w.frozen? ⟨k, off + i, none⟩ = false := by
      simp only [World.frozen?, h2]
      have := h4 (off + i) hlt
      simp only [Bool.and_eq_false_iff, decide_eq_false_iff_not]
      omega
    simp only [storeCells, Sem.run_bind, Addr.add_plain', putCells]
    rw [run_store P w _ v .plain (h1 v (by simp)), hc]
    simp only [hf, Bool.false_eq_true, if_false, Result.andThen_ok]
    have h2' : (w.setCell ⟨k, off + i, none⟩ v).heap[k]? = some (.cells (C.setIfInBounds (off + i) v) e fr) := by rw [setCell_heap]; simp [h2]
    have := ih (i + 1) (w.setCell ⟨k, off + i, none⟩ v) _ e fr (fun u hu => h1 u (by simp [hu])) h2' (by simp; omega) (by simpa using h4)
    rw [this]
    congr 1
theorem put_holds {k : Nat} {lo : Loc} {l : List Sc} (h : Holds ι w k lo l) (hl : lo.len = l.length) {s : Nat} {l' : List Sc} {cs : List Value} (hk : krel ι l' cs) (hs : s + l'.length ≤ l.length) :
    Holds ι (putCells w k (lo.off + s) cs) k lo (l.take s ++ l' ++ l.drop (s + l'.length)) := by
  obtain ⟨C, e, fr, h1, h2, h3, h4, h5⟩ := h.ex
  obtain ⟨C', a, b, c⟩ := putCells_here (b := k) cs (lo.off + s) w C e fr h1
  have hcl := krel_len hk
  refine ⟨C', e, fr, a, by rw [b]; exact h2, by rw [b]; exact h3, by rw [b]; exact h4, ?_⟩
  intro i x hx
  rw [c]
  by_cases hi : s ≤ i ∧ i < s + l'.length
  · rw [if_pos ⟨by omega, by omega, by omega⟩]
    have e1 : lo.off + i - (lo.off + s) = i - s := by omega
    rw [e1]
    refine krel_at hk (i - s) x ?_
    rw [List.getElem?_append_left (by simp; omega), List.getElem?_append_right (by simp; omega)] at hx
    simpa [Nat.min_eq_left (show s ≤ l.length by omega)] using hx
  · rw [if_neg (by omega)]
    refine h5 i x ?_
    by_cases h6 : i < s
    · rw [List.append_assoc, List.getElem?_append_left (by simp; omega), List.getElem?_take] at hx
      simpa [h6] using hx
    · rw [List.getElem?_append_right (by simp; omega), List.getElem?_drop] at hx
      have : s + l'.length + (i - (List.take s l ++ l').length) = i := by simp; omega
      rwa [this] at hx
theorem good_write (hs : HSim ι I nx hp w) {n : Nat} {b : Blk} (hb : hp n = some b) (hrw : b.rw = true) {lo : Loc} (hlo : ι n = some lo) {k : Nat} (hk : lo.blk = some k)
    {s : Nat} {l' : List Sc} {cs : List Value} (hcs : krel ι l' cs) (hle : s + l'.length ≤ (flats b.g).length) {g' : Segs} (hg' : wfs g')
    (he : flats g' = (flats b.g).take s ++ l' ++ (flats b.g).drop (s + l'.length)) :
    HSim ι I nx (put1 hp n (some ⟨true, g'⟩)) (putCells w k (lo.off + s) cs) ∧ Fr I w I (putCells w k (lo.off + s) cs) := by
  obtain ⟨hwf, hlen, hold, hI, hlt⟩ := blk_at hs hb hlo hk
  obtain ⟨r1, r2, r3, r4⟩ := putCells_rest k cs (lo.off + s) w
  constructor
  · refine hs.write hb hrw hlo g' hg' ?_ _ r1 ?_ ?_
    · rw [he, hlen]; simp; omega
    · intro j hj
      exact putCells_other (fun e => hj (by rw [hk, e])) cs _ w
    · intro j hj
      rw [hk] at hj; cases hj
      rw [he]
      exact put_holds hold hlen hcs hle
  · refine ⟨fun j _ hj => putCells_other (fun e => hj (by subst e; exact hI hrw)) cs _ w, fun _ h => .inl h, by rw [r1]; exact Nat.le_refl _, r2, r3, r4⟩
theorem set_eq_splice {α : Type} (l : List α) (i : Nat) (v : α) (h : i < l.length) : l.set i v = l.take i ++ [v] ++ l.drop (i + 1) := by
  rw [List.set_eq_take_append_cons_drop, if_pos h]; simp
theorem storeVar_run {t : TypeId} {size : Nat} (hsz : cells P t = some size) {x : Value} {cs : List Value} (hx : x.cells = cs.toArray) (hcs : cs.length = size) (hone : ∀ v ∈ cs, v.oneCell' = true)
    {k off : Nat} {C : Array Value} {e : TypeId} {fr : Nat × Nat} (h2 : w.heap[k]? = some (.cells C e fr)) (h3 : off + cs.length ≤ C.size) (h4 : ∀ o, o < C.size → ¬ (fr.1 ≤ o ∧ o < fr.2)) :
    (storeVar t ⟨k, off, none⟩ x).run P w = .ok () (putCells w k off cs) := by
  unfold storeVar
  have hne : ¬ (x.cells.size ≠ size) := by rw [hx]; simp [hcs]
  simp only [Sem.run_bind, cells_run hsz, Result.andThen_ok, if_neg hne, Sem.run_pure]
  have := run_storeCells (P := P) k off cs 0 w C e fr hone h2 (by omega) h4
  rw [hx]
  simpa using this
theorem krel_one {l : List Sc} {cs : List Value} (h : krel ι l cs) : ∀ v ∈ cs, v.oneCell' = true := by
  unfold krel at h
  induction h with
  | nil => intro v hv; cases hv
  | cons a _ ih =>
    intro v hv
    cases hv with
    | head => exact a.2.1
    | tail _ h => exact ih v h
theorem onesOf_flats : ∀ {u : Segs} {l : List Sc}, onesOf u = some l → flats u = l
  | [], l, hl => by simp [onesOf] at hl; subst hl; rfl
  | a :: u, l, hl => by
    cases a <;> simp only [onesOf] at hl <;> try (cases hl; done)
    cases ho : onesOf u with
    | none => rw [ho] at hl; cases hl
    | some l2 => rw [ho] at hl; cases hl; rw [flats_cons, onesOf_flats ho]; rfl
theorem splice_rec {fs : List Fk} : ∀ (xs : List (Tup fs)) (ix : Nat) (tu : Tup fs), ix < xs.length →
    (xs.set ix tu).flatMap (tupSc fs) = (xs.flatMap (tupSc fs)).take (ix * fs.length) ++ tupSc fs tu ++ (xs.flatMap (tupSc fs)).drop (ix * fs.length + fs.length)
  | [], ix, tu, hix => by simp at hix
  | y :: xs, 0, tu, hix => by
    simp only [List.set_cons_zero, List.flatMap_cons, Nat.zero_mul, List.take_zero, List.nil_append, Nat.zero_add]
    rw [List.drop_append_of_le_length (by rw [tupSc_len]; omega), List.drop_of_length_le (by rw [tupSc_len]; omega)]
    rfl
  | y :: xs, ix + 1, tu, hix => by
    have e6 : (ix + 1) * fs.length = (tupSc fs y).length + ix * fs.length := by rw [tupSc_len, Nat.succ_mul]; omega
    have e7 : (ix + 1) * fs.length + fs.length = (tupSc fs y).length + (ix * fs.length + fs.length) := by rw [e6]; omega
    simp only [List.set_cons_succ, List.flatMap_cons]
    rw [e7, e6, List.take_append, List.take_of_length_le (by omega), List.drop_append, List.drop_of_length_le (by omega), splice_rec xs ix tu (by simpa using hix)]
    simp [Nat.add_sub_cancel_left]
theorem good_store (hs : HSim ι I nx hp w) {t : TypeId} {a x : Operand} (ho : o.op = .store t a x) {n base ix wd f : Nat} (ha : srel ι (.ptr n base ix wd f) (ρ a)) {v : AVal} (hv : vrel ι v (ρ x))
    {size : Nat} (hsz : cells P t = some size) {b : Blk} (hb : hp n = some b)
    (h : evStore b n base ix wd f size v K = some r) : Good P o ρ ι I nx hp w K r := by
  obtain ⟨lo, k, h1, h2, h3, h4⟩ := ha
  obtain ⟨hwf, hlen, hold, hI, _⟩ := blk_at hs hb h1 h2
  have hex : ∀ w', (storeVar t ⟨k, lo.off + (base + ix * wd + f), none⟩ (ρ x)).run P w = .ok () w' → (execOp ρ o).run P w = .ok .skip w' := by
    intro w' hx
    unfold execOp
    rw [ho]
    simp only [Instr.storeAt, h3, Instr.sureAddr, Sem.run_bind, Sem.run_pure, Result.andThen_ok, hx]
  have fin : ∀ (g' : Segs) (s : Nat) (l' : List Sc) (cs : List Value), s = base + ix * wd + f → b.rw = true → (ρ x).cells = cs.toArray → cs.length = size → krel ι l' cs → s + l'.length ≤ (flats b.g).length → wfs g' →
      flats g' = (flats b.g).take s ++ l' ++ (flats b.g).drop (s + l'.length) → K (.s .top) [(n, some ⟨true, g'⟩)] 0 = some r → Good P o ρ ι I nx hp w K r := by
    intro g' s l' cs hse hrw hc hcl hk hle hg' he hK
    subst hse
    obtain ⟨p, q⟩ := good_write hs hb hrw h1 h2 hk hle hg' he
    obtain ⟨C, e, fr, c1, c2, c3, c4, c5⟩ := hold.ex
    refine ⟨.s .top, _, 0, undef, _, ι, I, hK, trivial, p, Map.up_refl _ _, q, .inr ⟨hex _ ?_, rfl⟩⟩
    refine storeVar_run hsz hc hcl (krel_one hk) c1 ?_ c4
    have := krel_len hk
    omega
  unfold evStore at h
  cases hrw : b.rw with
  | false => rw [hrw] at h; cases h
  | true =>
  rw [hrw] at h
  cases v with
  | tup vs => cases h
  | c v =>
  cases v with
  | sc u =>
    dsimp only at h
    split at h
    · rename_i hs1 htop
      have := beq_of hs1; subst this
      have hkn : u.known := by cases u <;> first | trivial | (simp [Sc.isTop] at htop)
      have hone := srel_one hv hkn
      obtain ⟨g', hg', he, hK⟩ := stSc_spec hwf (srel_fine hv) (by rw [← hlen]; exact h4) h
      refine fin g' _ [u] [ρ x] rfl hrw hone.2 rfl (.cons ⟨hv, hone⟩ .nil) (by simp; omega) hg' ?_ hK
      rw [he, set_eq_splice _ _ _ (by omega)]
      rfl
    · cases h
  | agg u =>
    dsimp only at h
    obtain ⟨hwu, cs, hcx, hcs⟩ := hv
    have hlu := flats_len hwu
    have hcl := krel_len hcs
    unfold stAgg at h
    split at h
    · rename_i hw0
      have := beq_of hw0; subst this
      split at h
      · rename_i p q hf0 hsp
        have := beq_of hf0; subst this
        split at h
        · rename_i x' z htk
          split at h
          · rename_i hsize
            have hsz2 := beq_of hsize
            obtain ⟨e1, s1⟩ := splitS_spec _ _ _ _ hsp
            obtain ⟨e2, s2⟩ := takeS_spec _ _ _ _ htk
            subst e2
            rw [e1] at hwf
            obtain ⟨wp, wq⟩ := wfs_append.1 hwf
            obtain ⟨wx, wz⟩ := wfs_append.1 wq
            have lp := flats_len wp
            have lx := flats_len wx
            have e3 : flats b.g = flats p ++ (flats x' ++ flats z) := by rw [e1, flats_append, flats_append]
            have e4 : base + ix * 0 + 0 = (flats p).length := by omega
            refine fin (p ++ u ++ z) _ (flats u) cs rfl hrw (by rw [hcx]; rfl) (by omega) hcs ?_ (wfs_append.2 ⟨wfs_append.2 ⟨wp, hwu⟩, wz⟩) ?_ h
            · rw [e3, e4]; simp; omega
            · rw [e3, e4, flats_append, flats_append, List.take_left, ← List.append_assoc (flats p), List.drop_append_of_le_length (by simp; omega)]
              congr 1
              rw [List.drop_of_length_le (by simp; omega)]
              rfl
          · cases h
        · cases h
      · cases h
    · split at h
      · rename_i fs xs m l hg hl
        split at h
        · rename_i tu h5 h6 h7 h8 h9
          have := beq_of h5; subst this
          have := beq_of h6; subst this
          have := beq_of h7; subst this
          have := beq_of h8; subst this
          have hou : flats u = l := onesOf_flats hl
          have htu := tupOf_spec _ _ _ h9
          rw [hg] at hwf hlen
          have hx : xs.length = m := (wfs_cons.1 hwf).1
          rw [flats_one, Seg.flat_len (wfs_cons.1 hwf).1] at hlen
          simp only [Seg.size] at hlen
          have hix : ix < xs.length := by
            rcases Nat.lt_or_ge ix xs.length with hh | hh
            · exact hh
            · exfalso
              have := Nat.mul_le_mul_right fs.length hh
              rw [hx] at this
              omega
          have hle : ix * fs.length + fs.length ≤ xs.length * fs.length := by
            have := Nat.mul_le_mul_right fs.length (Nat.succ_le_of_lt hix)
            rwa [Nat.succ_mul] at this
          have hfl : flats b.g = xs.flatMap (tupSc fs) := by rw [hg, flats_one]; rfl
          have hul : (flats u).length = fs.length := by rw [hou, ← htu, tupSc_len]
          refine fin _ _ (flats u) cs rfl hrw (by rw [hcx]; rfl) (by omega) hcs ?_ (wfs_cons.2 ⟨by simp [Seg.wf, hx], fun _ h => by cases h⟩) ?_ h
          · rw [hfl, flatMap_len _ fs.length (tupSc_len fs)]; omega
          · rw [hfl, flats_one]
            simp only [Seg.flat]
            have e5 : 0 + ix * fs.length + 0 = ix * fs.length := by omega
            rw [e5, hul, hou, ← htu]
            exact splice_rec xs ix tu hix
        · cases h
      · cases h
end
section
variable {R : Type} {P : Program} {o : Oper} {ρ : Operand → Value} {ι : Map} {I : Nat → Prop} {nx : Nat} {hp : Nat → Option Blk} {w : World} {K : AVal → Eff → Nat → Option R} {r : R}
theorem rowOf_spec {n wd : Nat} {row : Seg} (h : rowOf hp n wd = some row) : ∃ b, hp n = some b ∧ b.g = [row] ∧ row.width = wd := by
  unfold rowOf at h
  split at h
  · rename_i b hb
    split at h
    · rename_i q hg
      split at h
      · rename_i hw
        cases h
        exact ⟨b, hb, hg, beq_of hw⟩
      · cases h
    · cases h
  · cases h
structure RowAt (P : Program) (ι : Map) (w : World) (wd : Nat) (row : Seg) (X : Value) : Prop where
  ex : ∃ oa c, X = .slice oa (lenG row) c ∧ lenG row ≤ c ∧ lenG row ≤ maxL ∧ row.wf ∧ row.cnt = lenG row ∧
    ∀ k, k ≤ lenG row → ∃ cs : List Value, (Builtin.firstCells wd k X).run P w = .ok cs.toArray w ∧ krel ι (row.flat.take (k * wd)) cs
theorem slice_row (hs : HSim ι I nx hp w) {n wd : Nat} {rr : Option (Nat × Nat)} {cap : Option Nat} {X : Value} (hX : srel ι (.slice n wd rr cap) X) {e : TypeId} {row : Seg}
    (h : sliceRow P hp e (.slice n wd rr cap) = some row) : row.width = wd ∧ 0 < wd ∧ RowAt P ι w wd row X ∧ lenSl hp (.slice n wd rr cap) = some (lenG row) := by
  obtain ⟨oa, l, c, lo, rfl, h2, h3, h4, h5, h6, h7, h8⟩ := hX
  have cellsAt : ∀ (b : Blk) (s : Nat) (k : Nat) (base : Seg), hp n = some b → b.g = [base] → base.wf → lo.blk = some k → oa = some ⟨k, lo.off + s * wd, none⟩ → (s + l) * wd ≤ base.size →
      ∀ q, q ≤ l → ∃ cs : List Value, (Builtin.firstCells wd q (.slice oa l c)).run P w = .ok cs.toArray w ∧ krel ι (((base.flat.drop (s * wd)).take (l * wd)).take (q * wd)) cs := by
    intro b s k base hb hg hwf hk hoa hle q hq
    obtain ⟨_, hlen, hold, _, _⟩ := blk_at hs hb h6 hk
    rw [hg, flats_one] at hold
    have hql := Nat.mul_le_mul_right wd hq
    obtain ⟨cs, c1, c2⟩ := hold.cells (P := P) (s * wd) (q * wd) (by rw [Seg.flat_len hwf]; rw [Nat.add_mul] at hle; omega)
    rw [List.take_take, Nat.min_eq_left hql]
    refine ⟨cs, ?_, c2⟩
    subst hoa
    exact c1
  have cells0 : l = 0 → ∀ fl : List Sc, fl = [] → ∀ q, q ≤ l → ∃ cs : List Value, (Builtin.firstCells wd q (.slice oa l c)).run P w = .ok cs.toArray w ∧ krel ι (fl.take (q * wd)) cs := by
    intro h0 fl hfl q hq
    subst h0
    have : q = 0 := by omega
    subst this
    refine ⟨[], ?_, by subst hfl; simp only [List.take_nil]; exact .nil⟩
    cases oa with
    | none => rfl
    | some a => simp [Builtin.firstCells, loadCells, loadCellsFrom]
  cases rr with
  | none =>
    simp only [sliceRow] at h
    obtain ⟨b, hb, hg, hw⟩ := rowOf_spec h
    obtain ⟨hwf, hlen⟩ := blk_len hs hb h6
    rw [hg] at hwf hlen
    have hrw := (wfs_cons.1 hwf).1
    rw [flats_one, Seg.flat_len hrw] at hlen
    have hc := size_cnt row (by omega)
    obtain ⟨h8a, h8b⟩ := h8
    have hcnt : row.cnt = l := by
      have : l * wd = row.cnt * wd := by rw [h8a, hlen, hc, hw]
      exact (Nat.eq_of_mul_eq_mul_right h3 this).symm
    have hlg : lenG row = l := by rw [lenG_cnt hrw (by omega), hcnt]
    refine ⟨hw, h3, ?_, by simp [lenSl, h]⟩
    have hcs : ∀ q, q ≤ l → ∃ cs : List Value, (Builtin.firstCells wd q (.slice oa l c)).run P w = .ok cs.toArray w ∧ krel ι (row.flat.take (q * wd)) cs := by
      rcases h8b with ⟨h0, _⟩ | ⟨k, h9, h10, _⟩
      · refine cells0 h0 _ (List.eq_nil_of_length_eq_zero ?_)
        rw [Seg.flat_len hrw, hc, hcnt, h0]; simp
      · intro q hq
        obtain ⟨cs, c1, c2⟩ := cellsAt b 0 k row hb hg hrw h9 (by rw [h10]; simp) (by rw [hc, hcnt, hw]; simp) q hq
        refine ⟨cs, c1, ?_⟩
        have hfull : row.flat.take (l * wd) = row.flat := List.take_of_length_le (by rw [Seg.flat_len hrw, hc, hcnt, hw]; exact Nat.le_refl _)
        rwa [Nat.zero_mul, List.drop_zero, hfull] at c2
    exact ⟨oa, c, by rw [hlg], by rw [hlg]; exact h4, by rw [hlg]; exact h2, hrw, by rw [hlg, hcnt], by rw [hlg]; exact hcs⟩
  | some p =>
    obtain ⟨s, l'⟩ := p
    obtain ⟨rfl, h8a, h8b⟩ := h8
    simp only [sliceRow] at h
    cases hro : rowOf hp n wd with
    | none => rw [hro] at h; cases h
    | some base =>
      rw [hro] at h
      obtain ⟨b, hb, hg, hw⟩ := rowOf_spec hro
      obtain ⟨hwf, hlen⟩ := blk_len hs hb h6
      rw [hg] at hwf hlen
      have hrw := (wfs_cons.1 hwf).1
      rw [flats_one, Seg.flat_len hrw] at hlen
      have hc := size_cnt base (by omega)
      have hle : s + l ≤ base.cnt := by
        have : (s + l) * wd ≤ base.cnt * wd := by rw [← hw, ← hc, ← hlen, hw]; exact h8a
        exact Nat.le_of_mul_le_mul_right this h3
      obtain ⟨s1, s2, s3, s4, s5, _⟩ := subG_spec hrw hle h
      refine ⟨by rw [s4, hw], h3, ?_, by simp [lenSl, s3]⟩
      rw [hw] at s5
      have hcs : ∀ q, q ≤ l → ∃ cs : List Value, (Builtin.firstCells wd q (.slice oa l c)).run P w = .ok cs.toArray w ∧ krel ι (row.flat.take (q * wd)) cs := by
        rcases h8b with ⟨h0, _⟩ | ⟨k, h9, h10, _⟩
        · refine cells0 h0 _ ?_
          rw [s5, h0]; simp
        · rw [s5]
          exact cellsAt b s k base hb hg hrw h9 h10 (by rw [hc, hw]; exact Nat.mul_le_mul_right _ hle)
      exact ⟨oa, c, by rw [s3], by rw [s3]; exact h4, by rw [s3]; exact h2, s1, by rw [s2, s3], by rw [s3]; exact hcs⟩
end
section
variable {R : Type} {P : Program} {o : Oper} {ρ : Operand → Value} {ι : Map} {I : Nat → Prop} {nx : Nat} {hp : Nat → Option Blk} {w : World} {K : AVal → Eff → Nat → Option R} {r : R}
theorem fieldOff_spec {s : TypeId} {f off : Nat} (h : fieldOff P s f = some off) :
    ∃ fs x n, P.underlying s = some (.struct fs) ∧ fs[f]? = some x ∧ x.offset = off ∧ cells P x.type = some (n + 1) := by
  unfold fieldOff at h
  split at h
  · rename_i fs hu
    split at h
    · rename_i x hx
      split at h
      · cases h
      · rename_i n hn hc
        cases h
        cases n with
        | zero => exact (hn rfl).elim
        | succ n => exact ⟨fs, x, n, hu, by simpa using hx, rfl, hc⟩
      · cases h
    · cases h
  · cases h
theorem fieldAt_run {s : TypeId} {f off : Nat} (h : fieldOff P s f = some off) (k d : Nat) :
    (Instr.fieldAt s (.pointer (some ⟨k, d, none⟩)) f).run P w = .ok (.pointer (some ⟨k, d + off, none⟩)) w := by
  obtain ⟨fs, x, n, h1, h2, h3, h4⟩ := fieldOff_spec h
  unfold Instr.fieldAt
  simp only [Sem.run_bind, run_und h1, Result.andThen_ok, h2, Instr.sureAddr, Sem.run_pure, fieldPlace, cells_run h4, Nat.add_one_ne_zero, if_false, Addr.add_plain', h3]
theorem good_fieldAddr (hs : HSim ι I nx hp w) {s : TypeId} {x : Operand} {f : Nat} (ho : o.op = .fieldAddr s x f) {n base ix wd fo : Nat} (hx : srel ι (.ptr n base ix wd fo) (ρ x)) {off : Nat} (hoff : fieldOff P s f = some off)
    (h : (match Nat.beq wd 0, hp n with
      | true, some b => match Nat.beq fo 0 && Nat.blt (base + off) (sizeS b.g) with
        | true => K (.s (.ptr n (base + off) 0 0 0)) [] 0
        | false => none
      | false, some _ => match rowOf hp n wd, Nat.beq fo 0 && Nat.beq base 0 && Nat.blt off wd with
        | some _, true => K (.s (.ptr n 0 ix wd off)) [] 0
        | _, _ => none
      | _, none => none) = some r) : Good P o ρ ι I nx hp w K r := by
  obtain ⟨lo, k, h1, h2, h3, h4⟩ := hx
  have hex : (execOp ρ o).run P w = .ok (.value (.pointer (some ⟨k, lo.off + (base + ix * wd + fo) + off, none⟩))) w := by
    unfold execOp
    rw [ho]
    simp only [h3, Sem.run_bind, fieldAt_run hoff, Result.andThen_ok, Sem.run_pure]
  split at h
  · rename_i b hw hb
    have := beq_of hw; subst this
    split at h
    · rename_i hc
      rw [Bool.and_eq_true] at hc
      obtain ⟨hc1, hc2⟩ := hc
      have := beq_of hc1; subst this
      have hc3 : base + off < sizeS b.g := by simpa [Nat.blt_eq] using hc2
      obtain ⟨hwf, hlen⟩ := blk_len hs hb h1
      refine good_pure hs h ?_ hex
      exact ⟨lo, k, h1, h2, by congr 3; omega, by rw [hlen, flats_len hwf]; omega⟩
    · cases h
  · rename_i b hw hb
    split at h
    · rename_i row hr hc
      simp only [Bool.and_eq_true] at hc
      obtain ⟨⟨hc1, hc2⟩, hc3⟩ := hc
      have := beq_of hc1; subst this
      have := beq_of hc2; subst this
      have hc4 : off < wd := by simpa [Nat.blt_eq] using hc3
      obtain ⟨b', hb', hg, hrw⟩ := rowOf_spec hr
      obtain ⟨hwf, hlen⟩ := blk_len hs hb' h1
      rw [hg] at hwf hlen
      have hrwf := (wfs_cons.1 hwf).1
      rw [flats_one, Seg.flat_len hrwf, size_cnt row (by omega), hrw] at hlen
      refine good_pure hs h ?_ hex
      refine ⟨lo, k, h1, h2, by congr 3; omega, ?_⟩
      have hix : ix < row.cnt := by
        rcases Nat.lt_or_ge ix row.cnt with hh | hh
        · exact hh
        · exfalso
          have := Nat.mul_le_mul_right wd hh
          omega
      have := Nat.mul_le_mul_right wd (Nat.succ_le_of_lt hix)
      rw [Nat.succ_mul] at this
      omega
    · cases h
  · cases h
theorem inB_spec {i : Int} {n : Nat} (h : inB i n = true) : 0 ≤ i ∧ i < (n : Int) := by simpa [inB] using h
theorem leB_spec {i : Int} {n : Nat} (h : leB i n = true) : 0 ≤ i ∧ i ≤ (n : Int) := by simpa [leB] using h
theorem good_indexArr (hs : HSim ι I nx hp w) {t : TypeId} {x ixo : Operand} (ho : o.op = .indexAddr t x ixo) {n base : Nat} (hx : srel ι (.ptr n base 0 0 0) (ρ x)) {ki : IntKind} {i : Int} (hi : srel ι (.int ki i) (ρ ixo))
    (h : (match P.underlying t, hp n with
      | some (.array len e), some b => match cells P e, locate b.g base with
        | some sz, some (_, r, _) => match Nat.blt 0 sz && Nat.ble (base + len * sz) (sizeS b.g) with
          | false => none
          | true => match r.isOne with
          | true => gd (inB i len) (K (.s (.ptr n (base + i.toNat * sz) 0 0 0)) [] 0)
          | false => match Nat.beq r.width sz with
            | true => gd (inB i len) (K (.s (.ptr n base i.toNat sz 0)) [] 0)
            | false => none
        | _, _ => none
      | _, _ => none) = some r) : Good P o ρ ι I nx hp w K r := by
  obtain ⟨lo, k, h1, h2, h3, h4⟩ := hx
  obtain ⟨hi1, _⟩ := hi
  split at h
  · rename_i len e b hu hb
    obtain ⟨hwf, hlen⟩ := blk_len hs hb h1
    rw [flats_len hwf] at hlen
    split at h
    · rename_i sz x' rr z hsz hl
      split at h
      · cases h
      · rename_i hc
        rw [Bool.and_eq_true] at hc
        obtain ⟨hc1, hc2⟩ := hc
        have hc3 : 0 < sz := by simpa [Nat.blt_eq] using hc1
        have hc4 := Nat.le_of_ble_eq_true hc2
        have key : ∀ v : AVal, K v [] 0 = some r → (0 ≤ i ∧ i < (len : Int)) → vrel ι v (.pointer (some ⟨k, lo.off + (base + 0 * 0 + 0) + i.toNat * sz, none⟩)) → Good P o ρ ι I nx hp w K r := by
          intro v hK hb1 hv
          refine good_pure hs hK hv ?_
          unfold execOp
          rw [ho]
          simp only [Instr.indexAt, hi1, h3, asIntOf, Sem.run_bind, Sem.run_pure, Result.andThen_ok, run_und hu, Instr.sureAddr]
          rw [if_pos hb1]
          simp only [Sem.run_bind, cells_run hsz, Result.andThen_ok, Sem.run_pure, Addr.add_plain']
        have hlt : (0 ≤ i ∧ i < (len : Int)) → base + i.toNat * sz < lo.len := by
          intro hb1
          have h5 : i.toNat < len := by omega
          have := Nat.mul_le_mul_right sz (Nat.succ_le_of_lt h5)
          rw [Nat.succ_mul] at this
          omega
        split at h
        · obtain ⟨g1, g2⟩ := gd_some h
          have hb1 := inB_spec g1
          exact key _ g2 hb1 ⟨lo, k, h1, h2, by congr 3; omega, by have := hlt hb1; omega⟩
        · split at h
          · obtain ⟨g1, g2⟩ := gd_some h
            have hb1 := inB_spec g1
            exact key _ g2 hb1 ⟨lo, k, h1, h2, by congr 3; omega, by have := hlt hb1; omega⟩
          · cases h
    · cases h
  · cases h
theorem good_indexSl (hs : HSim ι I nx hp w) {t : TypeId} {x ixo : Operand} (ho : o.op = .indexAddr t x ixo) {n wd : Nat} {rr : Option (Nat × Nat)} {cap : Option Nat} (hx : srel ι (.slice n wd rr cap) (ρ x)) {ki : IntKind} {i : Int} (hi : srel ι (.int ki i) (ρ ixo))
    (h : (match lenSl hp (.slice n wd rr cap) with
      | some l => match elemOf' P t with
        | some e => match cells P e with
          | some sz => match Nat.beq sz wd with
            | true => gd (inB i l) (K (.s (.ptr n 0 (ixOf rr i.toNat) wd 0)) [] 0)
            | false => none
          | none => none
        | none => none
      | none => none) = some r) : Good P o ρ ι I nx hp w K r := by
  obtain ⟨hi1, _⟩ := hi
  obtain ⟨oa, l, c, lo, h1, h2, h3, h4, h5, h6, h7, h8⟩ := hx
  split at h
  · rename_i l' hl
    split at h
    · rename_i e he
      split at h
      · rename_i sz hsz
        split at h
        · rename_i hsw
          have := beq_of hsw; subst this
          obtain ⟨g1, g2⟩ := gd_some h
          have hb1 := inB_spec g1
          have hu : P.underlying t = some (.slice e) := by
            unfold elemOf' at he
            split at he
            · rename_i hu; cases he; exact hu
            · cases he
          have key : ∀ (s k : Nat), l' = l → lo.blk = some k → oa = some ⟨k, lo.off + s * sz, none⟩ → (s + l) * sz ≤ lo.len → ixOf rr i.toNat = s + i.toNat → Good P o ρ ι I nx hp w K r := by
            intro s k hll hk hoa hle hm
            subst hll
            subst hoa
            rw [hm] at g2
            refine good_pure hs g2 (x := .pointer (some ⟨k, lo.off + s * sz + i.toNat * sz, none⟩)) ⟨lo, k, h6, hk, ?_, ?_⟩ ?_
            · congr 3
              rw [Nat.add_mul]; omega
            · have h9 : s + i.toNat < s + l' := by omega
              have := Nat.mul_le_mul_right sz (Nat.succ_le_of_lt h9)
              rw [Nat.succ_mul] at this
              omega
            · unfold execOp
              rw [ho]
              simp only [Instr.indexAt, hi1, h1, asIntOf, Sem.run_bind, Sem.run_pure, Result.andThen_ok, run_und hu]
              rw [if_pos hb1]
              simp only [Sem.run_bind, cells_run hsz, Result.andThen_ok, Sem.run_pure, Addr.add_plain']
          cases rr with
          | none =>
            obtain ⟨h8a, h8b⟩ := h8
            have hll : l' = l := by
              simp only [lenSl] at hl
              cases hro : rowOf hp n sz with
              | none => rw [hro] at hl; cases hl
              | some row =>
                rw [hro] at hl; cases hl
                obtain ⟨b, hb, hg, hw⟩ := rowOf_spec hro
                obtain ⟨hwf, hlen⟩ := blk_len hs hb h6
                rw [hg] at hwf hlen
                have hrw := (wfs_cons.1 hwf).1
                rw [flats_one, Seg.flat_len hrw, size_cnt row (by omega), hw] at hlen
                rw [lenG_cnt hrw (by omega)]
                exact Nat.eq_of_mul_eq_mul_right h3 (by rw [← hlen, ← h8a])
            rcases h8b with ⟨h0, _⟩ | ⟨k, h9, h10, _⟩
            · exfalso; omega
            · exact key 0 k hll h9 (by rw [h10]; simp) (by rw [Nat.zero_add, h8a]; exact Nat.le_refl _) (by simp [ixOf])
          | some p =>
            obtain ⟨s, l2⟩ := p
            obtain ⟨rfl, h8a, h8b⟩ := h8
            simp only [lenSl, Option.some.injEq] at hl
            rcases h8b with ⟨h0, _⟩ | ⟨k, h9, h10, _⟩
            · exfalso; omega
            · exact key s k hl.symm h9 h10 h8a rfl
        · cases h
      · cases h
    · cases h
  · cases h
theorem good_indexStr (hs : HSim ι I nx hp w) {t : TypeId} {x ixo : Operand} (ho : o.op = .index t x ixo) {s : Str} (hx : srel ι (.str s) (ρ x)) {ki : IntKind} {i : Int} (hi : srel ι (.int ki i) (ρ ixo))
    (hu : P.underlying t = some .string) (h : gd (inB i s.length) (K (.s (.int .u8 ((s.getD i.toNat 0).toNat : Int))) [] 0) = some r) : Good P o ρ ι I nx hp w K r := by
  obtain ⟨hx1, hx2⟩ := hx
  obtain ⟨hi1, _⟩ := hi
  obtain ⟨g1, g2⟩ := gd_some h
  obtain ⟨a, b⟩ := inB_spec g1
  have hlt : i.toNat < s.length := by omega
  refine good_pure hs g2 (x := .int .u8 ((s.getD i.toNat 0).toNat : Int)) ⟨rfl, ?_⟩ ?_
  · generalize s.getD i.toNat 0 = b8
    have := b8.toNat_lt
    simp [fits, IntKind.min, IntKind.max, IntKind.signed, IntKind.bits]
    omega
  · unfold execOp
    rw [ho]
    have hg : (⟨s.toArray⟩ : ByteArray)[i.toNat]? = some s[i.toNat] := by
      have hsz : i.toNat < (⟨s.toArray⟩ : ByteArray).size := by rw [size_mk]; exact hlt
      rw [getElem?_pos (⟨s.toArray⟩ : ByteArray) i.toNat hsz]
      rfl
    simp only [Instr.index, hi1, hx1, asIntOf, Sem.run_bind, Sem.run_pure, Result.andThen_ok, run_und hu]
    rw [if_pos a, hg]
    simp [List.getD, List.getElem?_eq_getElem hlt]
theorem good_extract (hs : HSim ι I nx hp w) {t : Operand} {ix : Nat} (ho : o.op = .extract t ix) {vs : List Cmp} (ht : vrel ι (.tup vs) (ρ t)) {v : Cmp} (hv : vs[ix]? = some v) (h : K (.c v) [] 0 = some r) :
    Good P o ρ ι I nx hp w K r := by
  obtain ⟨xs, h1, h2⟩ := ht
  have key : ∀ (vs : List Cmp) (xs : List Value) (ix : Nat), All2 (crel ι) vs xs → vs[ix]? = some v → ∃ x, xs[ix]? = some x ∧ crel ι v x := by
    intro vs xs ix ha
    induction ha generalizing ix with
    | nil => intro h; simp at h
    | cons a _ ih =>
      intro h
      cases ix with
      | zero => simp at h; subst h; exact ⟨_, rfl, a⟩
      | succ ix => simpa using ih ix (by simpa using h)
  obtain ⟨x, h3, h4⟩ := key vs xs ix h2 hv
  refine good_pure hs h (x := x) h4 ?_
  unfold execOp
  rw [ho]
  simp only [Instr.extract, h1]
  have : xs.toArray[ix]? = some x := by simpa using h3
  rw [this]
  rfl
end
section
variable {R : Type} {P : Program} {o : Oper} {ρ : Operand → Value} {ι : Map} {I : Nat → Prop} {nx : Nat} {hp : Nat → Option Blk} {w : World} {K : AVal → Eff → Nat → Option R} {r : R}
def brel : Option Int → Option Value → Prop
  | none, v => v = none
  | some n, v => ∃ k, v = some (.int k n)
def bOf (d : Nat) : Option Int → Nat
  | none => d
  | some n => n.toNat
def mxOf : Option Int → Nat → Option Nat
  | none, _ => none
  | some m, a => some (m.toNat - a)
def bIn (m : Nat) : Option Int → Prop
  | none => True
  | some n => 0 ≤ n ∧ n ≤ (m : Int)
theorem sliceBounds_run {isSl : Bool} {len cap : Nat} {lo hi mx : Option Int} {vl vh vm : Option Value} (h1 : brel lo vl) (h2 : brel hi vh) (h3 : brel mx vm)
    (hm : bIn cap mx) (hh : bIn (bOf cap mx) hi) (hl : bIn (bOf len hi) lo) (hx : mx.isSome = true → hi.isSome = true) :
    (Instr.sliceBounds isSl len cap vl vh vm).run P w = .ok (bOf 0 lo, bOf len hi, bOf cap mx) w := by
  have sb : ∀ (n : Int) (k : IntKind) (m : Nat) (code : BoundsCode), 0 ≤ n ∧ n ≤ (m : Int) → (Instr.sliceBound (.int k n) m code).run P w = .ok n.toNat w := by
    intro n k m code hb
    unfold Instr.sliceBound
    simp only [asIntOf, Sem.run_bind, Sem.run_pure, Result.andThen_ok]
    rw [if_pos hb]
    rfl
  unfold Instr.sliceBounds
  cases mx with
  | none =>
    simp only [brel] at h3
    subst h3
    cases hi with
    | none =>
      simp only [brel] at h2
      subst h2
      cases lo with
      | none => simp only [brel] at h1; subst h1; rfl
      | some a =>
        obtain ⟨k, rfl⟩ := h1
        have hl' : 0 ≤ a ∧ a ≤ (len : Int) := hl
        simp only [Sem.run_bind, Sem.run_pure, Result.andThen_ok, sb a k _ _ hl', bOf]
    | some b =>
      obtain ⟨kb, rfl⟩ := h2
      have hh' : 0 ≤ b ∧ b ≤ (cap : Int) := hh
      cases lo with
      | none =>
        simp only [brel] at h1; subst h1
        simp only [Sem.run_bind, Sem.run_pure, Result.andThen_ok, sb b kb _ _ hh', bOf]
      | some a =>
        obtain ⟨k, rfl⟩ := h1
        have hl' : 0 ≤ a ∧ a ≤ (b.toNat : Int) := hl
        simp only [Sem.run_bind, Sem.run_pure, Result.andThen_ok, sb b kb _ _ hh', sb a k _ _ hl', bOf]
  | some m =>
    obtain ⟨km, rfl⟩ := h3
    cases hi with
    | none => simp at hx
    | some b =>
      obtain ⟨kb, rfl⟩ := h2
      have hm' : 0 ≤ m ∧ m ≤ (cap : Int) := hm
      have hh' : 0 ≤ b ∧ b ≤ (m.toNat : Int) := hh
      cases lo with
      | none =>
        simp only [brel] at h1; subst h1
        simp only [Sem.run_bind, Sem.run_pure, Result.andThen_ok, sb m km _ _ hm', sb b kb _ _ hh', bOf]
      | some a =>
        obtain ⟨k, rfl⟩ := h1
        have hl' : 0 ≤ a ∧ a ≤ (b.toNat : Int) := hl
        simp only [Sem.run_bind, Sem.run_pure, Result.andThen_ok, sb m km _ _ hm', sb b kb _ _ hh', sb a k _ _ hl', bOf]
theorem cutSl_spec {s l c : Nat} {lo hi mx : Option Int} {K : Nat → Nat → Option Nat → Option R} (hlc : l ≤ c) (h : cutSl s l lo hi mx K = some r) :
    bIn c mx ∧ bIn (bOf c mx) hi ∧ bIn (bOf l hi) lo ∧ (mx.isSome = true → hi.isSome = true) ∧ bOf 0 lo ≤ bOf l hi ∧ bOf l hi ≤ l ∧ bOf l hi ≤ bOf c mx ∧ bOf c mx ≤ c ∧
    K (s + bOf 0 lo) (bOf l hi - bOf 0 lo) (mxOf mx (bOf 0 lo)) = some r := by
  unfold cutSl at h
  split at h
  · exact ⟨trivial, trivial, trivial, by simp, Nat.zero_le _, Nat.le_refl _, hlc, Nat.le_refl _, h⟩
  · rename_i a
    obtain ⟨g1, g2⟩ := gd_some h
    have := leB_spec g1
    exact ⟨trivial, trivial, this, by simp, by simp only [bOf]; omega, Nat.le_refl _, hlc, Nat.le_refl _, g2⟩
  · rename_i b
    obtain ⟨g1, g2⟩ := gd_some h
    have := leB_spec g1
    exact ⟨trivial, by simp only [bIn, bOf]; omega, trivial, by simp, Nat.zero_le _, by simp only [bOf]; omega, by simp only [bOf]; omega, Nat.le_refl _, g2⟩
  · rename_i a b
    obtain ⟨g1, g2⟩ := gd_some h
    obtain ⟨g3, g4⟩ := gd_some g2
    have := leB_spec g1; have := leB_spec g3
    exact ⟨trivial, by simp only [bIn, bOf]; omega, by simp only [bIn, bOf]; omega, by simp, by simp only [bOf]; omega, by simp only [bOf]; omega, by simp only [bOf]; omega, Nat.le_refl _, g4⟩
  · rename_i a b m
    obtain ⟨g1, g2⟩ := gd_some h
    obtain ⟨g3, g4⟩ := gd_some g2
    obtain ⟨g5, g6⟩ := gd_some g4
    have := leB_spec g1; have := leB_spec g3; have := leB_spec g5
    exact ⟨by simp only [bIn]; omega, by simp only [bIn, bOf]; omega, by simp only [bIn, bOf]; omega, by simp, by simp only [bOf]; omega, by simp only [bOf]; omega, by simp only [bOf]; omega, by simp only [bOf]; omega, g6⟩
  · rename_i b m
    obtain ⟨g1, g2⟩ := gd_some h
    obtain ⟨g3, g4⟩ := gd_some g2
    have := leB_spec g1; have := leB_spec g3
    exact ⟨by simp only [bIn]; omega, by simp only [bIn, bOf]; omega, trivial, by simp, by simp only [bOf]; omega, by simp only [bOf]; omega, by simp only [bOf]; omega, by simp only [bOf]; omega, g4⟩
  · cases h
theorem cutStr_spec {s : Str} {lo hi : Option Int} {K : Str → Option R} (h : cutStr s lo hi K = some r) :
    bIn s.length hi ∧ bIn (bOf s.length hi) lo ∧ bOf 0 lo ≤ bOf s.length hi ∧ bOf s.length hi ≤ s.length ∧ K ((s.take (bOf s.length hi)).drop (bOf 0 lo)) = some r := by
  unfold cutStr at h
  split at h
  · exact ⟨trivial, trivial, Nat.zero_le _, Nat.le_refl _, by simpa [bOf] using h⟩
  · rename_i a
    obtain ⟨g1, g2⟩ := gd_some h
    have := leB_spec g1
    exact ⟨trivial, this, by simp only [bOf]; omega, Nat.le_refl _, by simpa [bOf] using g2⟩
  · rename_i b
    obtain ⟨g1, g2⟩ := gd_some h
    have := leB_spec g1
    exact ⟨this, trivial, Nat.zero_le _, by simp only [bOf]; omega, by simpa [bOf] using g2⟩
  · rename_i a b
    obtain ⟨g1, g2⟩ := gd_some h
    obtain ⟨g3, g4⟩ := gd_some g2
    have := leB_spec g1; have := leB_spec g3
    exact ⟨this.imp id id |> fun _ => leB_spec g1, by simp only [bIn, bOf]; omega, by simp only [bOf]; omega, by simp only [bOf]; omega, by simpa [bOf] using g4⟩
theorem extract_mk (s : Str) (l h : Nat) : (⟨s.toArray⟩ : ByteArray).extract l h = ⟨((s.take h).drop l).toArray⟩ := by
  apply ByteArray.ext
  rw [ByteArray.data_extract]
  simp [List.extract_eq_take_drop, List.drop_take]
theorem good_slice (hs : HSim ι I nx hp w) {t : TypeId} {xo : Operand} {lo ho mo : Option Operand} (hop : o.op = .slice t xo lo ho mo) {x : Sc} (hx : srel ι x (ρ xo)) {l h m : Option Int}
    (hl : brel l (lo.map ρ)) (hh : brel h (ho.map ρ)) (hm : brel m (mo.map ρ)) (hK : evSlice P t hp x l h m K = some r) : Good P o ρ ι I nx hp w K r := by
  have hex : ∀ X, (Instr.sliceAt t (ρ xo) (lo.map ρ) (ho.map ρ) (mo.map ρ)).run P w = .ok X w → (execOp ρ o).run P w = .ok (.value X) w := by
    intro X hX
    unfold execOp
    rw [hop]
    simp only [Sem.run_bind, hX, Result.andThen_ok, Sem.run_pure]
  unfold evSlice at hK
  split at hK
  · rename_i s hu
    obtain ⟨hx1, hx2⟩ := hx
    cases m with
    | some m => cases hK
    | none =>
      obtain ⟨c1, c2, c3, c4, c5⟩ := cutStr_spec hK
      simp only [brel] at hm
      refine good_pure hs c5 (x := .string ⟨((s.take (bOf s.length h)).drop (bOf 0 l)).toArray⟩) ⟨rfl, by simp; omega⟩ (hex _ ?_)
      unfold Instr.sliceAt
      simp only [Sem.run_bind, run_und hu, Result.andThen_ok, Instr.slice, hx1, hm, size_mk]
      have := sliceBounds_run (P := P) (w := w) (isSl := false) (len := s.length) (cap := s.length) hl hh (mx := none) rfl trivial (by simpa [bOf] using c1) c2 (by simp)
      simp only [Option.isSome_none, Bool.false_eq_true, if_false, Sem.run_bind, Sem.run_pure, Result.andThen_ok, this, extract_mk]
  · rename_i e n wd rr cap hu
    split at hK
    · rename_i row sz hrow hsz
      obtain ⟨q1, q2, q3, q4⟩ := slice_row (P := P) hs hx hrow
      split at hK
      · rename_i hsw
        have := beq_of hsw; subst this
        obtain ⟨oa, ll, c, lo', e1, e2, e3, e4, e5, e6, e7, e8⟩ := hx
        have hll : lenG row = ll := by
          obtain ⟨oa2, c2, f1, _⟩ := q3.ex
          rw [e1] at f1
          simp only [Value.slice.injEq] at f1
          exact f1.2.1.symm
        have run : ∀ (hm2 : bIn c m) (hh2 : bIn (bOf c m) h) (hl2 : bIn (bOf ll h) l) (hx2 : m.isSome = true → h.isSome = true),
            (Instr.sliceAt t (ρ xo) (lo.map ρ) (ho.map ρ) (mo.map ρ)).run P w =
              .ok (.slice (if bOf c m = bOf 0 l then oa else oa.map (·.add (bOf 0 l * sz))) (bOf ll h - bOf 0 l) (bOf c m - bOf 0 l)) w := by
          intro hm2 hh2 hl2 hx2
          unfold Instr.sliceAt
          simp only [Sem.run_bind, run_und hu, Result.andThen_ok, Instr.slice, e1]
          rw [sliceBounds_run (P := P) (w := w) (isSl := true) hl hh hm hm2 hh2 hl2 hx2]
          simp only [Result.andThen_ok, Sem.run_bind, cells_run hsz, Sem.run_pure]
        split at hK
        · refine good_pure hs hK (x := ρ xo) ?_ (hex _ ?_)
          · exact ⟨oa, ll, c, lo', e1, e2, e3, e4, e5, e6, e7, e8⟩
          · rw [run trivial trivial trivial (by simp), e1]
            congr 2
            simp only [bOf, Nat.zero_mul, Nat.sub_zero]
            split
            · rfl
            · cases oa with
              | none => rfl
              | some a => simp [Addr.add]
        · rename_i hnn
          rw [hll] at hK
          obtain ⟨c1, c2, c3, c4, c5, c6, c7, c8, c9⟩ := cutSl_spec e4 hK
          refine good_pure hs c9 ?_ (hex _ (run c1 c2 c3 c4))
          have hsl : ∀ s, begOf rr = s → (s + ll) * sz ≤ lo'.len → ((ll = 0 ∧ c = 0) ∨ ∃ b, lo'.blk = some b ∧ oa = some ⟨b, lo'.off + s * sz, none⟩ ∧ (cap = none → c + s = lo'.cap)) →
              vrel ι (.s (.slice n sz (some (begOf rr + bOf 0 l, bOf ll h - bOf 0 l)) (capMin cap (mxOf m (bOf 0 l)) (loOf l))))
                (.slice (if bOf c m = bOf 0 l then oa else oa.map (·.add (bOf 0 l * sz))) (bOf ll h - bOf 0 l) (bOf c m - bOf 0 l)) := by
            intro s hbs hle hd
            subst hbs
            have hl0 : loOf l = bOf 0 l := by cases l <;> rfl
            refine ⟨_, _, _, lo', rfl, by omega, e3, by omega, ?_, e6, ?_, rfl, ?_, ?_⟩
            · intro k hk
              rw [hl0] at hk
              cases m with
              | none =>
                cases cap with
                | none => simp [capMin, mxOf] at hk
                | some kc =>
                  simp only [capMin, mxOf, Option.some.injEq] at hk
                  have := e5 kc rfl
                  simp only [bOf] at *
                  omega
              | some mm =>
                simp only [capMin, mxOf, Option.some.injEq] at hk
                simp only [bOf] at *
                omega
            · intro hk
              refine e7 ?_
              cases m with
              | none =>
                cases cap with
                | none => rfl
                | some kc => simp [capMin, mxOf] at hk
              | some mm => simp [capMin, mxOf] at hk
            · refine Nat.le_trans (Nat.mul_le_mul_right sz ?_) hle
              omega
            · by_cases hc : bOf c m = bOf 0 l
              · exact .inl (by omega)
              · rw [if_neg hc]
                rcases hd with ⟨h0, h0c⟩ | ⟨b, d1, d2, d3⟩
                · exact .inl (by omega)
                · refine .inr ⟨b, d1, ?_, ?_⟩
                  · rw [d2]
                    simp only [Option.map_some, Addr.add_plain', Nat.add_mul, Nat.add_assoc]
                  · intro hk
                    rw [hl0] at hk
                    cases m with
                    | none =>
                      cases cap with
                      | none => have := d3 rfl; simp only [bOf] at *; omega
                      | some kc => simp [capMin, mxOf] at hk
                    | some mm => simp [capMin, mxOf] at hk
          cases rr with
          | none =>
            obtain ⟨e8a, e8b⟩ := e8
            refine hsl 0 rfl (by rw [Nat.zero_add, e8a]; exact Nat.le_refl _) ?_
            rcases e8b with hz | ⟨b, d1, d2, d3⟩
            · exact .inl hz
            · exact .inr ⟨b, d1, by rw [d2]; simp, fun hk => by have := d3 hk; omega⟩
          | some p =>
            obtain ⟨s, l2⟩ := p
            obtain ⟨_, e8a, e8b⟩ := e8
            exact hsl s rfl e8a e8b
      · cases hK
    · cases hK
  · rename_i e hu
    have hx' : ρ xo = .slice none 0 0 := hx
    split at hK
    case h_2 => cases hK
    rename_i sz hsz
    obtain ⟨c1, c2, c3, c4, c5, c6, c7, c8, c9⟩ := cutSl_spec (c := 0) (Nat.le_refl 0) hK
    refine good_pure hs c9 (x := .slice none 0 0) rfl (hex _ ?_)
    unfold Instr.sliceAt
    simp only [Sem.run_bind, run_und hu, Result.andThen_ok, Instr.slice, hx']
    rw [sliceBounds_run (P := P) (w := w) (isSl := true) hl hh hm c1 c2 c3 c4]
    simp only [Result.andThen_ok, Sem.run_bind, cells_run hsz, Sem.run_pure]
    have a1 : bOf 0 h - bOf 0 l = 0 := by omega
    have a2 : bOf 0 m - bOf 0 l = 0 := by omega
    rw [a1, a2]
    split <;> rfl
  · rename_i mm e n hu
    split at hK
    · rename_i wd hwd
      split at hK
      · rename_i row hrow
        split at hK
        · rename_i hcnt hw0
          rw [Bool.and_eq_true] at hcnt
          have hmx : mm ≤ maxL := Nat.le_of_ble_eq_true hcnt.2
          have hc := beq_of hcnt.1
          have hw1 : 0 < wd := by simpa [Nat.blt_eq] using hw0
          obtain ⟨lo', k, h1, h2, h3, h4⟩ := hx
          obtain ⟨b, hb, hg, hwid⟩ := rowOf_spec hrow
          obtain ⟨hwf, hlen⟩ := blk_len hs hb h1
          rw [hg] at hwf hlen
          have hrw := (wfs_cons.1 hwf).1
          rw [flats_one, Seg.flat_len hrw, size_cnt row (by omega), hwid, hc] at hlen
          obtain ⟨c1, c2, c3, c4, c5, c6, c7, c8, c9⟩ := cutSl_spec (Nat.le_refl mm) hK
          refine good_pure hs c9 (x := .slice (some (if bOf mm m = bOf 0 l then ⟨k, lo'.off, none⟩ else ⟨k, lo'.off + bOf 0 l * wd, none⟩)) (bOf mm h - bOf 0 l) (bOf mm m - bOf 0 l)) ?_ (hex _ ?_)
          · refine ⟨_, _, _, lo', rfl, by omega, hw1, by omega, ?_, h1, ?_, rfl, ?_, ?_⟩
            · intro k2 hk2
              cases m with
              | none => simp only [capMin, mxOf, Option.some.injEq] at hk2; simp only [bOf] at *; omega
              | some m2 => simp only [capMin, mxOf, Option.some.injEq] at hk2; simp only [bOf] at *; omega
            · intro hk2; cases m <;> simp [capMin, mxOf] at hk2
            · rw [hlen]; exact Nat.mul_le_mul_right wd (by omega)
            · by_cases hcc : bOf mm m = bOf 0 l
              · exact .inl (by omega)
              · rw [if_neg hcc]
                refine .inr ⟨k, h2, by simp, ?_⟩
                intro hk2; cases m <;> simp [capMin, mxOf] at hk2
          · unfold Instr.sliceAt
            simp only [Sem.run_bind, run_und hu, Result.andThen_ok, h3, Instr.sureAddr, Sem.run_pure]
            rw [sliceBounds_run (P := P) (w := w) (isSl := false) hl hh hm c1 c2 c3 c4]
            simp only [Result.andThen_ok, Sem.run_bind, cells_run hwd, Sem.run_pure, Addr.add_plain']
            congr 4
        · cases hK
      · cases hK
    · cases hK
  · cases hK
end
section
variable {R : Type} {P : Program} {o : Oper} {ρ : Operand → Value} {ι : Map} {I : Nat → Prop} {nx : Nat} {hp : Nat → Option Blk} {w : World} {K : AVal → Eff → Nat → Option R} {r : R}
theorem krel_bytes {s : Str} {cs : List Value} (h : krel ι (s.map fun b => Sc.int .u8 (b.toNat : Int)) cs) : cs = s.map fun b => Value.int .u8 (b.toNat : Int) := by
  unfold krel at h
  induction s generalizing cs with
  | nil => cases h; rfl
  | cons a s ih =>
    cases h with
    | cons h1 h2 => rw [h1.1.1, ih h2]; rfl
theorem bytes_krel (s : Str) : krel ι (s.map fun b => Sc.int .u8 (b.toNat : Int)) (s.map fun b => Value.int .u8 (b.toNat : Int)) := by
  unfold krel
  induction s with
  | nil => exact .nil
  | cons a s ih =>
    refine .cons ⟨⟨rfl, ?_⟩, rfl, rfl⟩ ih
    have := a.toNat_lt
    simp [fits, IntKind.min, IntKind.max, IntKind.signed, IntKind.bits]
    omega
theorem push_fold (s : Str) : ∀ acc : ByteArray, (s.map fun b => (b.toNat : Int)).foldl (fun r n => r.push (UInt8.ofNat n.toNat)) acc = ⟨(acc.data.toList ++ s).toArray⟩ := by
  induction s with
  | nil => intro acc; simp
  | cons a s ih =>
    intro acc
    rw [List.map_cons, List.foldl_cons, ih]
    simp
theorem freeze_rest (w : World) (a : Addr) (n : Nat) : (w.freeze a n).os = w.os ∧ (w.freeze a n).tape = w.tape ∧ (w.freeze a n).output = w.output := by
  unfold World.freeze
  split <;> exact ⟨rfl, rfl, rfl⟩
theorem row_any (hs : HSim ι I nx hp w) {x : Sc} {X : Value} (hX : srel ι x X) {e : TypeId} {row : Seg} (h : sliceRow P hp e x = some row) :
    ∃ oa c, X = .slice oa (lenG row) c ∧ lenG row ≤ maxL ∧ lenG row ≤ c ∧ row.wf ∧ row.cnt = lenG row ∧
      ∀ k, k ≤ lenG row → ∃ cs : List Value, (Builtin.firstCells row.width k X).run P w = .ok cs.toArray w ∧ krel ι (row.flat.take (k * row.width)) cs := by
  cases x with
  | slice n wd rr cap =>
    obtain ⟨q1, q2, q3, q4⟩ := slice_row (P := P) hs hX h
    obtain ⟨oa, c, e1, e2, e3, e4, e5, e6⟩ := q3.ex
    exact ⟨oa, c, e1, e3, e2, e4, e5, by rw [q1]; exact e6⟩
  | nilsl =>
    have hX' : X = .slice none 0 0 := hX
    subst hX'
    have hz : lenG row = 0 ∧ row.wf ∧ row.cnt = 0 ∧ row.flat = [] := by
      simp only [sliceRow] at h
      unfold rowKind at h
      split at h <;> first
        | (cases h; exact ⟨rfl, rfl, rfl, rfl⟩)
        | (split at h <;> first | (cases h; exact ⟨rfl, rfl, rfl, rfl⟩) | cases h)
        | cases h
    obtain ⟨z1, z2, z3, z4⟩ := hz
    refine ⟨none, 0, by rw [z1], by rw [z1]; exact Nat.zero_le _, by rw [z1]; exact Nat.le_refl _, z2, by rw [z1, z3], ?_⟩
    intro k hk
    exact ⟨[], rfl, by rw [z4, List.take_nil]; exact .nil⟩
  | _ => cases h
theorem row_all {row : Seg} (hw : row.wf) (hc : row.cnt = lenG row) (h1 : 0 < row.width) : row.flat.take (lenG row * row.width) = row.flat := by
  rw [List.take_of_length_le]
  rw [Seg.flat_len hw, size_cnt row h1, hc]
  exact Nat.le_refl _
theorem good_convert (hs : HSim ι I nx hp w) {src dst : TypeId} {xo : Operand} (hop : o.op = .convert src dst xo) {x : Sc} (hx : srel ι x (ρ xo)) (h : evConvert P src dst hp nx x K = some r) : Good P o ρ ι I nx hp w K r := by
  have hex : ∀ X w', (convert src dst (ρ xo)).run P w = .ok X w' → (execOp ρ o).run P w = .ok (.value X) w' := by
    intro X w' hX
    unfold execOp
    rw [hop]
    simp only [Sem.run_bind, hX, Result.andThen_ok, Sem.run_pure]
  unfold evConvert at h
  split at h
  · rename_i d k kn n hu1 hu2
    obtain ⟨hx1, _⟩ := hx
    refine good_pure hs h (x := .int k (cvtI k n)) ⟨rfl, fits_wrap _ _⟩ (hex _ _ ?_)
    unfold convert
    rw [Sem.run_bind, run_und hu1, Result.andThen_ok, Sem.run_bind, run_und hu2, Result.andThen_ok, hx1]
    rfl
  · rename_i d s hu1 hu2
    obtain ⟨hx1, hx2⟩ := hx
    refine good_pure hs h (x := .string ⟨s.toArray⟩) ⟨rfl, hx2⟩ (hex _ _ ?_)
    unfold convert
    rw [Sem.run_bind, run_und hu1, Result.andThen_ok, Sem.run_bind, run_und hu2, Result.andThen_ok, hx1]
    rfl
  · rename_i d e s hu1 hu2
    obtain ⟨hx1, hx2⟩ := hx
    split at h
    · rename_i hu3
      let cap := (Question.appendCap s.length 0 e).cut (w.tape w.drawn (.appendCap s.length 0 e))
      have hcap : s.length ≤ cap := by simp [cap, Question.cut]
      let C : Array Value := (s.map fun b => Value.int .u8 (b.toNat : Int)).toArray ++ Array.replicate (cap - s.length) (.int .u8 0)
      have hC : C.size = cap := by simp [C]; omega
      let w1 : World := { w.drew with heap := w.heap.push (.cells C e) }
      have hfl : flats [Seg.bytes s s.length] = s.map fun b => Sc.int .u8 (b.toNat : Int) := by rw [flats_one]; rfl
      have hrun : (convert src dst (ρ xo)).run P w = .ok (.slice (some ⟨w.heap.size, 0, none⟩) s.length cap) (w1.freeze ⟨w.heap.size, C.size, none⟩ 1) := by
        unfold convert
        rw [Sem.run_bind, run_und hu1, Result.andThen_ok, Sem.run_bind, run_und hu2, Result.andThen_ok, hx1]
        show (do match ← underlying e with
          | .int .u8 => Conv.stringToBytes e ⟨s.toArray⟩
          | .int .i32 => Conv.stringToRunes e ⟨s.toArray⟩
          | _ => stuck "Convert: string to a slice of what?" : Sem Value).run P w = _
        rw [Sem.run_bind, run_und hu3, Result.andThen_ok]
        show (Conv.stringToBytes e ⟨s.toArray⟩).run P w = _
        unfold Conv.stringToBytes
        rw [size_mk, Sem.run_bind, run_choose, if_neg (by simp [Question.forced]), Result.andThen_ok]
        have hmap : (⟨s.toArray⟩ : ByteArray).data.map (fun b => Value.int .u8 (b.toNat : Int)) = (s.map fun b => Value.int .u8 (b.toNat : Int)).toArray := by simp
        simp only [hmap, newRow, Sem.run_bind, run_newObj, Result.andThen_ok, Sem.run_pure, markStringish, run_shape]
        have hsh : World.shape? w1 w.heap.size = some (e, C.size) := by simp [World.shape?, w1]
        change ((match World.shape? w1 w.heap.size with
          | some (fst, n) => freeze { block := w.heap.size, off := n } 1
          | x => pure ()).run P w1).andThen _ = _
        rw [hsh]
        rfl
      have hheap : (w1.freeze ⟨w.heap.size, C.size, none⟩ 1).heap = w.heap.push (.cells C e (C.size, C.size + 1)) := by
        unfold World.freeze
        simp only [Nat.one_ne_zero, if_false, w1]
        apply Array.ext_getElem?
        intro i
        rw [Array.getElem?_modify, Array.getElem?_push, Array.getElem?_push]
        by_cases hi : w.heap.size = i
        · subst hi
          simp
        · have : i ≠ w.heap.size := fun e => hi e.symm
          simp [hi, this]
      refine good_new hs (g := [.bytes s s.length]) (wfs_cons.2 ⟨rfl, fun _ h => by cases h⟩) (C := C) (cap := cap) (wd := 1) ?_ (by omega) ?_ ?_ hheap ?_ ?_ ?_ h ?_ (hex _ _ hrun)
      · rw [hfl]; simp [hC]; omega
      · intro o ho; simp; omega
      · intro i x hxi
        rw [hfl] at hxi
        obtain ⟨v, a, b⟩ := krel_at (bytes_krel (ι := ι) s) i x hxi
        refine ⟨v, ?_, b⟩
        have hlt : i < (s.map fun b => Value.int .u8 (b.toNat : Int)).length := by
          rcases Nat.lt_or_ge i (s.map fun b => Value.int .u8 (b.toNat : Int)).length with hh | hh
          · exact hh
          · rw [List.getElem?_eq_none hh] at a; cases a
        simp only [C]
        rw [Array.getElem?_append_left (by simpa using hlt)]
        simpa using a
      · exact (freeze_rest w1 _ _).1
      · exact (freeze_rest w1 _ _).2.1
      · exact (freeze_rest w1 _ _).2.2
      · intro ι' _ h1
        refine ⟨_, _, _, _, rfl, hx2, by omega, hcap, by simp, h1, fun _ => rfl, ?_, .inr ⟨w.heap.size, rfl, rfl, fun _ => rfl⟩⟩
        rw [hfl]; simp
    · cases h
  · rename_i _ _ _ e hu1 hu2 _
    split at h
    · rename_i hu3
      split at h
      · rename_i s m hrow
        obtain ⟨oa, c, e1, e2, e3, e4, e5, e6'⟩ := row_any (P := P) hs hx hrow
        obtain ⟨cs, e6, e7⟩ := e6' _ (Nat.le_refl _)
        rw [row_all e4 e5 (by simp [Seg.width])] at e7
        have hcs := krel_bytes (s := s) e7
        have hlen : lenG (Seg.bytes s m) = s.length := rfl
        rw [hlen] at e1 e2 e6
        refine good_pure hs h (x := .string ⟨s.toArray⟩) ⟨rfl, e2⟩ (hex _ _ ?_)
        have h1 : (convert src dst (ρ xo)).run P w = (Conv.bytesToString (ρ xo)).run P w := by
          unfold convert
          rw [Sem.run_bind, run_und hu1, Result.andThen_ok, Sem.run_bind, run_und hu2, Result.andThen_ok, e1]
          show (do match ← underlying e with
            | .int .u8 => Conv.bytesToString (.slice oa s.length c)
            | .int .i32 => Conv.runesToString (.slice oa s.length c)
            | _ => stuck "Convert: a slice of what to string?" : Sem Value).run P w = _
          rw [Sem.run_bind, run_und hu3, Result.andThen_ok]
        rw [h1, e1]
        rw [e1] at e6
        cases oa with
        | none =>
          have e8 : (Builtin.firstCells 1 s.length (.slice none s.length c)).run P w = .ok #[] w := rfl
          rw [show (Seg.bytes s m).width = 1 from rfl, e8] at e6
          have : cs = [] := by
            have := e6
            injection this with a b
            simpa using a.symm
          rw [this] at hcs
          have : s = [] := by simpa using hcs.symm
          subst this
          rfl
        | some a =>
          have e8 : (loadCells a s.length).run P w = .ok ((s.map fun b => (b.toNat : Int)).map (Value.int .u8)).toArray w := by
            have e9 : (Builtin.firstCells 1 s.length (.slice (some a) s.length c)).run P w = (loadCells a s.length).run P w := by
              simp [Builtin.firstCells]
            rw [show (Seg.bytes s m).width = 1 from rfl, e9, hcs] at e6
            rw [e6]
            simp
          rw [run_bytesToString w a s.length c _ e8, push_fold]
          rfl
      · cases h
    · cases h
  · cases h
end
section
variable {R : Type} {P : Program} {o : Oper} {ρ : Operand → Value} {ι : Map} {I : Nat → Prop} {nx : Nat} {hp : Nat → Option Blk} {w : World} {K : AVal → Eff → Nat → Option R} {r : R}
theorem catG_spec {a b c : Seg} (ha : a.wf) (hb : b.wf) (h : catG a b = some c) :
    (setCnt c).wf ∧ (setCnt c).flat = a.flat ++ b.flat ∧ (setCnt c).width = a.width ∧ b.width = a.width ∧ lenG (setCnt c) = lenG a + lenG b ∧ (setCnt c).cnt = lenG (setCnt c) ∧ (setCnt c).size = (lenG a + lenG b) * a.width := by
  cases a <;> cases b <;> simp only [catG] at h <;> try (cases h; done)
  case ints.ints k xs n k' ys m =>
    split at h
    · rename_i hk
      have := beqK_eq hk; subst this
      cases h
      simp [setCnt, Seg.wf, Seg.flat, Seg.width, lenG, Seg.cnt, Seg.size]
    · cases h
  case bytes.bytes xs n ys m => cases h; simp [setCnt, Seg.wf, Seg.flat, Seg.width, lenG, Seg.cnt, Seg.size]
  case strs.strs xs n ys m => cases h; simp [setCnt, Seg.wf, Seg.flat, Seg.width, lenG, Seg.cnt, Seg.size]
  case recs.recs fs xs n fs' ys m =>
    split at h
    · rename_i hf
      subst hf
      cases h
      simp [setCnt, Seg.wf, Seg.flat, Seg.width, lenG, Seg.cnt, Seg.size]
    · cases h
theorem zeroW_spec {e : TypeId} {wd : Nat} (h : zeroW P e = some wd) : ∃ i z, P.info? e = some i ∧ i.zero = some z ∧ z.cells.size = wd ∧ i.size = wd ∧ cells P e = some wd := by
  unfold zeroW at h
  split at h
  · rename_i i hi
    split at h
    · rename_i z hz
      split at h
      · rename_i hc
        cases h
        exact ⟨i, z, hi, hz, beq_of hc, rfl, by simp [cells, hi]⟩
      · cases h
    · cases h
  · cases h
theorem run_info {t : TypeId} {i : TypeInfo} (h : P.info? t = some i) : (typeInfo t).run P w = .ok i w := by
  unfold typeInfo
  simp [h]
theorem run_zero {t : TypeId} {i : TypeInfo} {z : Value} (h : P.info? t = some i) (hz : i.zero = some z) : (zeroValue t).run P w = .ok z w := by
  unfold zeroValue
  rw [Sem.run_bind, run_info h, Result.andThen_ok, hz]
  rfl
theorem src_spec (hs : HSim ι I nx hp w) {x : Sc} {X : Value} (hX : srel ι x X) {e : TypeId} {row : Seg} (h : srcRow P hp e x = some row) :
    lenG row ≤ maxL ∧ row.wf ∧ row.cnt = lenG row ∧ (Builtin.lenOf X).run P w = .ok (lenG row) w ∧
    ∀ k, k ≤ lenG row → ∃ cs : List Value, (Builtin.firstCells row.width k X).run P w = .ok cs.toArray w ∧ krel ι (row.flat.take (k * row.width)) cs := by
  by_cases hstr : ∃ b, x = .str b
  · obtain ⟨b, rfl⟩ := hstr
    obtain ⟨rfl, h2⟩ := hX
    cases h
    refine ⟨h2, rfl, rfl, ?_, ?_⟩
    · show Result.ok (⟨b.toArray⟩ : ByteArray).size w = _
      rw [size_mk]; rfl
    · intro n hn
      refine ⟨(b.take n).map fun b => Value.int .u8 (b.toNat : Int), ?_, ?_⟩
      · show Result.ok _ w = _
        congr 1
        rw [extract_mk]
        simp
      · have := bytes_krel (ι := ι) (b.take n)
        simpa [Seg.flat, Seg.width, List.map_take] using this
  · have h' : sliceRow P hp e x = some row := by
      cases x <;> first | exact h | (exfalso; exact hstr ⟨_, rfl⟩)
    obtain ⟨oa, c, e1, e2, e3, e4, e5, e6⟩ := row_any (P := P) hs hX h'
    exact ⟨e2, e4, e5, by rw [e1]; rfl, e6⟩
theorem HSim.none1 (h : HSim ι I nx hp w) (g : Segs) (hg : wfs g) (hl : (flats g).length = 0) (wd : Nat) :
    HSim (fun m => if m = nx then some ⟨none, 0, 0, 0, wd⟩ else ι m) I (nx + 1) (put1 hp nx (some ⟨true, g⟩)) w ∧ Map.le ι (fun m => if m = nx then some ⟨none, 0, 0, 0, wd⟩ else ι m) := by
  have hle : Map.le ι (fun m => if m = nx then some ⟨none, 0, 0, 0, wd⟩ else ι m) := fun n l hn => by
    by_cases hnx : n = nx
    · subst hnx; rw [(h.fresh n (Nat.le_refl _)).1] at hn; cases hn
    · simp [hnx, hn]
  refine ⟨⟨?_, ?_, ?_, h.bound⟩, hle⟩
  · intro n hn
    have hne : n ≠ nx := by omega
    simp only [hne, if_false, put1]
    exact h.fresh n (by omega)
  · intro n b hb
    by_cases hnx : n = nx
    · subst hnx
      rw [put1_same] at hb
      cases hb
      exact ⟨hg, ⟨none, 0, 0, 0, wd⟩, by simp, by simp [hl], by simp, by simp⟩
    · rw [put1_other hnx] at hb
      have ho := h.ok n b hb
      refine ⟨ho.wf, ?_⟩
      obtain ⟨l, h1, h2, h3, h4⟩ := ho.ex
      exact ⟨l, by simp [hnx, h1], h2, h3, fun k hk => let ⟨a, b', c⟩ := h4 k hk; ⟨a, b', c.mono hle rfl⟩⟩
  · intro m n a b x y k hne ha hb hr hx hy hxk hyk
    by_cases hm : m = nx
    · subst hm
      simp only [if_true] at hx
      cases hx; cases hxk
    · simp only [hm, if_false] at hx
      rw [put1_other hm] at ha
      by_cases hn : n = nx
      · subst hn
        simp only [if_true] at hy
        cases hy; cases hyk
      · simp only [hn, if_false] at hy
        rw [put1_other hn] at hb
        exact h.inj m n a b x y k hne ha hb hr hx hy hxk hyk
theorem HSim.move (h : HSim ι I nx hp w) {n : Nat} {b : Blk} (hb : hp n = some b) (hrw : b.rw = true) {lo : Loc} (hlo : ι n = some lo) {k : Nat} (hk : lo.blk = some k)
    (g : Segs) (hg : wfs g) (lo' : Loc) (hlo' : lo'.blk = some k) (hlen : lo'.len = (flats g).length) (w' : World) (hsz : w'.heap.size = w.heap.size)
    (hother : ∀ j, j ≠ k → w'.heap[j]? = w.heap[j]?) (hhere : Holds ι w' k lo' (flats g)) :
    HSim (fun m => if m = nx then some lo' else ι m) I (nx + 1) (put1 (put1 hp nx (some ⟨true, g⟩)) n none) w' ∧ Map.le ι (fun m => if m = nx then some lo' else ι m) := by
  have hnlt := name_lt h hb
  have hle : Map.le ι (fun m => if m = nx then some lo' else ι m) := fun q l hn => by
    by_cases hnx : q = nx
    · subst hnx; rw [(h.fresh q (Nat.le_refl _)).1] at hn; cases hn
    · simp [hnx, hn]
  have key : ∀ q c, put1 (put1 hp nx (some ⟨true, g⟩)) n none q = some c → q ≠ n ∧ ((q = nx ∧ c = ⟨true, g⟩) ∨ (q ≠ nx ∧ hp q = some c)) := by
    intro q c hq
    by_cases h1 : q = n
    · subst h1; rw [put1_same] at hq; cases hq
    · rw [put1_other h1] at hq
      by_cases h2 : q = nx
      · subst h2; rw [put1_same] at hq; cases hq; exact ⟨h1, .inl ⟨rfl, rfl⟩⟩
      · rw [put1_other h2] at hq; exact ⟨h1, .inr ⟨h2, hq⟩⟩
  refine ⟨⟨?_, ?_, ?_, ?_⟩, hle⟩
  · intro q hq
    have h1 : q ≠ n := by omega
    have h2 : q ≠ nx := by omega
    rw [put1_other h1, put1_other h2]
    simp only [h2, if_false]
    exact h.fresh q (by omega)
  · intro q c hc
    obtain ⟨hqn, ⟨rfl, rfl⟩ | ⟨hqx, hq⟩⟩ := key q c hc
    · refine ⟨hg, lo', by simp, hlen, by rw [hlo']; simp, ?_⟩
      intro j hj
      rw [hlo'] at hj; cases hj
      refine ⟨fun _ => ?_, by simp, hhere.mono hle rfl⟩
      obtain ⟨l, h1, h2, h3, h4⟩ := (h.ok n b hb).ex
      rw [hlo] at h1; cases h1
      exact (h4 _ hk).1 hrw
    · have ho := h.ok q c hq
      refine ⟨ho.wf, ?_⟩
      obtain ⟨l, h1, h2, h3, h4⟩ := ho.ex
      refine ⟨l, by simp [hqx, h1], h2, h3, fun j hj => ?_⟩
      obtain ⟨a, b', d⟩ := h4 j hj
      refine ⟨a, b', d.mono hle (hother j fun he => ?_)⟩
      subst he
      exact h.inj q n c b l lo j hqn hq hb (.inr hrw) h1 hlo hj hk
  · intro m p a c x y j hne ha hc hr hx hy hxj hyj
    obtain ⟨hmn, hm⟩ := key m a ha
    obtain ⟨hpn, hpp⟩ := key p c hc
    rcases hm with ⟨rfl, rfl⟩ | ⟨hmx, hm⟩
    · rcases hpp with ⟨rfl, _⟩ | ⟨hpx, hpp⟩
      · exact hne rfl
      · simp only [if_true] at hx
        cases hx
        simp only [hpx, if_false] at hy
        rw [hlo'] at hxj; cases hxj
        exact h.inj p n c b y lo _ hpn hpp hb (.inr hrw) hy hlo hyj hk
    · simp only [hmx, if_false] at hx
      rcases hpp with ⟨rfl, rfl⟩ | ⟨hpx, hpp⟩
      · simp only [if_true] at hy
        cases hy
        rw [hlo'] at hyj; cases hyj
        exact h.inj m n a b x lo _ hmn hm hb (.inr hrw) hx hlo hxj hk
      · simp only [hpx, if_false] at hy
        exact h.inj m p a c x y j hne hm hpp hr hx hy hxj hyj
  · intro j hj; rw [hsz]; exact h.bound j hj
theorem exec_builtin {c : Call} (ho : o.op = .call c) {b : Builtin} (hb : c.callee = .builtin b) :
    ∃ cs, (execOp ρ o).run P w = (builtin b c.argTypes o.type cs (c.args.map ρ)).run P w := by
  unfold execOp
  rw [ho]
  simp only [resolve, hb, Sem.run_bind, Sem.run_pure, Result.andThen_ok, invoke]
  exact ⟨_, rfl⟩
theorem append_run {t u ty e : TypeId} {d : TypeDesc} (ht : P.underlying t = some (.slice e)) (hu : P.underlying u = some d) (hd : ∀ k, d ≠ .int k) {i : TypeInfo} {z : Value} (hi : P.info? e = some i) (hz : i.zero = some z)
    (hby : 0 < i.bytes) {oa : Option Addr} {l c m : Nat} {X : Value} (hX : (Builtin.lenOf X).run P w = .ok m w) {new0 new old : List Value} (hnew0 : (Builtin.firstCells i.size m X).run P w = .ok new0.toArray w) (hnew : (Builtin.firstCells i.size m X).run P w.drew = .ok new.toArray w.drew)
    (hold : (Builtin.firstCells i.size l (.slice oa l c)).run P w.drew = .ok old.toArray w.drew) (hbound : (l + m) * i.bytes ≤ 140737488355328) :
    (l + m ≤ c → ∀ w', (match oa with
        | some a => (storeCells (a.add (l * i.size)) new0 : Sem Unit)
        | none => pure ()).run P w = .ok () w' → (Builtin.append_ #[t, u] ty #[.slice oa l c, X]).run P w = .ok (.slice oa (l + m) c) w') ∧
    (¬ l + m ≤ c → ∃ nc, l + m ≤ nc ∧ (Builtin.append_ #[t, u] ty #[.slice oa l c, X]).run P w =
      .ok (.slice (some ⟨w.heap.size, 0, none⟩) (l + m) nc) (w.drew.alloc (.cells (old.toArray ++ new.toArray ++ Builtin.zeroCells z.cells (nc - (l + m))) e))) := by
  have hsz : (sizeOf e).run P w = .ok i.size w := cells_run (by simp [cells, hi])
  have hdm : (match d with | .int _ => true | _ => false) = false := by cases d <;> first | rfl | exact (hd _ rfl).elim
  constructor
  · intro hle w' hst
    cases oa with
    | none =>
      simp only [Sem.run_pure, Result.ok.injEq, true_and] at hst
      subst hst
      simp [Builtin.append_, run_und ht, run_und hu, hdm, hsz, hX, hle, hnew0]
    | some a =>
      simp [Builtin.append_, run_und ht, run_und hu, hdm, hsz, hX, hle, hnew0]
      simp at hst
      rw [hst]
      simp
  · intro hgt
    have h63' : ¬ ((9223372036854775807 < (l : Int) + (m : Int)) ∧ i.bytes = 0) := by omega
    have h48 := growslice_fits (bytes := i.bytes) (show c < l + m by omega) hbound
    have h48' : ¬ (281474976710656 < Builtin.nextslicecap (l + m) c * i.bytes) := by omega
    refine ⟨grownCap w (l + m) c e, grownCap_ge _ _ _ _, ?_⟩
    simp [Builtin.append_, run_und ht, run_und hu, hdm, hsz, hX, hgt, h63', h48', typeInfo, hi, zeroValue, hz, Question.forced, hold, hnew, newRow, grownCap]
    have hap : old.toArray ++ new.toArray = (old ++ new).toArray := by simp
    rw [← Array.append_assoc, hap]
theorem good_append (hs : HSim ι I nx hp w) {c : Call} (ho : o.op = .call c) (hcb : c.callee = .builtin .append) {t u : TypeId} (hat : c.argTypes = #[t, u]) {so xo : Operand} (hargs : c.args = #[so, xo]) {d : TypeDesc} (hu : P.underlying u = some d) (hd : ∀ k, d ≠ .int k)
    {s x : Sc} (hsr : srel ι s (ρ so)) (hxr : srel ι x (ρ xo)) (h : evAppend P hp nx t s x K = some r) : Good P o ρ ι I nx hp w K r := by
  have hex : ∀ X w', (Builtin.append_ #[t, u] o.type #[ρ so, ρ xo]).run P w = .ok X w' → (execOp ρ o).run P w = .ok (.value X) w' := by
    intro X w' hX
    obtain ⟨cs, he⟩ := exec_builtin (P := P) (ρ := ρ) (w := w) ho hcb
    rw [he, hat, hargs]
    simp [builtin, hX]
  unfold evAppend at h
  split at h
  · cases h
  · rename_i e he
    have ht : P.underlying t = some (.slice e) := by
      unfold elemOf' at he
      split at he
      · rename_i hu; cases he; exact hu
      · cases he
    split at h
    · rename_i a b by_ wd ha hb hby hzw
      obtain ⟨i, z, hi, hz, hzs, hsz, hcell⟩ := zeroW_spec hzw
      split at h
      · rename_i cc hcat hcond
        simp only [Bool.and_eq_true] at hcond
        obtain ⟨⟨q1, q2⟩, q3⟩ := hcond
        have hw0 : 0 < wd := by simpa [Nat.blt_eq] using q1
        have hby0 : 0 < by_ := by simpa [Nat.blt_eq] using q2
        have haw := beq_of q3
        have hbi : i.bytes = by_ := by unfold bytesOf at hby; rw [hi] at hby; simpa using hby
        obtain ⟨oa, cap, a1, a2, a3, a4, a5, a6⟩ := row_any (P := P) hs hsr ha
        obtain ⟨b1, b2, b3, b4, b5⟩ := src_spec (P := P) hs hxr hb
        obtain ⟨g1, g2, g3, g4, g5, g6, g7⟩ := catG_spec a4 b2 hcat
        obtain ⟨oa2, cap2, a1', _, _, _, _, a6'⟩ := row_any (P := P) (w := w.drew) (hs.world rfl) hsr ha
        obtain ⟨_, _, _, _, b5'⟩ := src_spec (P := P) (w := w.drew) (hs.world rfl) hxr hb
        obtain ⟨old, o1, o2⟩ := a6' _ (Nat.le_refl _)
        obtain ⟨new, n1, n2⟩ := b5' _ (Nat.le_refl _)
        obtain ⟨new0, m1, m2⟩ := b5 _ (Nat.le_refl _)
        rw [row_all a4 a5 (by omega)] at o2
        rw [row_all b2 b3 (by omega)] at n2 m2
        rw [haw, a1, ← hsz] at o1
        rw [g4, haw, ← hsz] at n1 m1
        have hgo : ∀ ef : Eff, gd (appB (lenG a) (lenG b) by_) (K (.s (.slice nx wd none none)) ((nx, some ⟨true, [setCnt cc]⟩) :: ef) 1) = some r →
            (lenG a + lenG b) * i.bytes ≤ 140737488355328 ∧ K (.s (.slice nx wd none none)) ((nx, some ⟨true, [setCnt cc]⟩) :: ef) 1 = some r := by
          intro ef hh
          obtain ⟨p1, p2⟩ := gd_some hh
          exact ⟨by rw [hbi]; simpa [appB] using p1, p2⟩
        have hwfc : wfs [setCnt cc] := wfs_cons.2 ⟨g1, fun _ h => by cases h⟩
        have hfl : flats [setCnt cc] = a.flat ++ b.flat := by rw [flats_one, g2]
        have hfll : (flats [setCnt cc]).length = (lenG a + lenG b) * wd := by rw [flats_one, Seg.flat_len g1, g7, haw]
        have hmaxl : (lenG a + lenG b) * i.bytes ≤ 140737488355328 → lenG a + lenG b ≤ maxL := by
          intro hh
          have := Nat.le_mul_of_pos_right (lenG a + lenG b) (show 0 < i.bytes by omega)
          simp only [maxL]; omega
        
        have grow : ∀ (ef : Eff), (ef = [] ∨ ∃ n, n < nx ∧ ef = [(n, none)]) → (lenG a + lenG b) * i.bytes ≤ 140737488355328 → ¬ lenG a + lenG b ≤ cap → K (.s (.slice nx wd none none)) ((nx, some ⟨true, [setCnt cc]⟩) :: ef) 1 = some r → Good P o ρ ι I nx hp w K r := by
          intro ef hef hbd hgt hK
          obtain ⟨nc, e1, e2⟩ := (append_run (w := w) (P := P) (t := t) (u := u) (ty := o.type) ht hu hd hi hz (by omega) (X := ρ xo) b4 m1 n1 o1 hbd).2 hgt
          have hC : (old.toArray ++ new.toArray ++ Builtin.zeroCells z.cells (nc - (lenG a + lenG b))).size = nc * wd := by
            rw [Array.size_append, Array.size_append, size_zeroCells, hzs]
            have h1 := krel_len o2; have h2 := krel_len n2
            rw [Seg.flat_len a4, size_cnt a (by omega), a5, haw] at h1
            rw [Seg.flat_len b2, size_cnt b (by omega), b3, g4, haw] at h2
            simp only [List.size_toArray, h1, h2]
            rw [← Nat.add_mul, ← Nat.add_mul]
            congr 1; omega
          have hcells : ∀ (j : Nat) (y : Sc), (flats [setCnt cc])[j]? = some y → ∃ v : Value, (old.toArray ++ new.toArray ++ Builtin.zeroCells z.cells (nc - (lenG a + lenG b)))[j]? = some v ∧ srel ι y v ∧ (v.oneCell' = true ∧ v.cells = #[v]) := by
            intro j y hy
            rw [hfl] at hy
            obtain ⟨v, v1, v2⟩ := krel_at (krel_append o2 n2) j y hy
            have hlt : j < (old ++ new).length := by
              rcases Nat.lt_or_ge j (old ++ new).length with hh | hh
              · exact hh
              · rw [List.getElem?_eq_none hh] at v1; cases v1
            refine ⟨v, ?_, v2⟩
            rw [Array.getElem?_append_left (by simpa using hlt)]
            simpa using v1
          have hv : ∀ ι' : Map, ι.le ι' → ι' nx = some ⟨some w.heap.size, 0, nc, (flats [setCnt cc]).length, wd⟩ → vrel ι' (.s (.slice nx wd none none)) (.slice (some ⟨w.heap.size, 0, none⟩) (lenG a + lenG b) nc) := by
            intro ι' _ h1
            exact ⟨_, _, _, _, rfl, hmaxl hbd, hw0, e1, by simp, h1, fun _ => rfl, by rw [hfll], .inr ⟨w.heap.size, rfl, rfl, fun _ => rfl⟩⟩
          rcases hef with rfl | ⟨n, hn, rfl⟩
          · refine good_new hs hwfc (C := old.toArray ++ new.toArray ++ Builtin.zeroCells z.cells (nc - (lenG a + lenG b))) (e := e) (fr := (0, 0)) (w' := w.drew.alloc (.cells (old.toArray ++ new.toArray ++ Builtin.zeroCells z.cells (nc - (lenG a + lenG b))) e)) (cap := nc) (wd := wd) (by rw [hC, hfll]; exact Nat.mul_le_mul_right _ e1) (by rw [hC]; exact Nat.le_refl _) (by intro o _; simp) hcells rfl rfl rfl rfl hK hv (hex _ _ ?_)
            rw [a1]; exact e2
          · refine good_new_kill hs hwfc (C := old.toArray ++ new.toArray ++ Builtin.zeroCells z.cells (nc - (lenG a + lenG b))) (e := e) (fr := (0, 0)) (w' := w.drew.alloc (.cells (old.toArray ++ new.toArray ++ Builtin.zeroCells z.cells (nc - (lenG a + lenG b))) e)) (cap := nc) (wd := wd) (by rw [hC, hfll]; exact Nat.mul_le_mul_right _ e1) (by rw [hC]; exact Nat.le_refl _) (by intro o _; simp) hcells rfl rfl rfl rfl hn hK hv (hex _ _ ?_)
            rw [a1]; exact e2
        
        have empty : ∀ (ef : Eff), (ef = [] ∨ ∃ n, n < nx ∧ ef = [(n, none)]) → (lenG a + lenG b) * i.bytes ≤ 140737488355328 → lenG a + lenG b = 0 → cap = 0 → K (.s (.slice nx wd none none)) ((nx, some ⟨true, [setCnt cc]⟩) :: ef) 1 = some r → Good P o ρ ι I nx hp w K r := by
          intro ef hef hbd h0 hc0 hK
          have hnew0 : new0 = [] := by
            have h2 := krel_len m2
            rw [Seg.flat_len b2, size_cnt b (by omega), b3] at h2
            have : lenG b = 0 := by omega
            rw [this] at h2
            exact List.eq_nil_of_length_eq_zero (by simpa using h2)
          have hrun := (append_run (w := w) (P := P) (t := t) (u := u) (ty := o.type) ht hu hd hi hz (by omega) (X := ρ xo) b4 m1 n1 o1 hbd).1 (by omega) w (by rw [hnew0]; cases oa <;> rfl)
          obtain ⟨p1, p2⟩ := hs.none1 [setCnt cc] hwfc (by rw [hfll, h0]; simp) wd
          have hv : vrel (fun m => if m = nx then some ⟨none, 0, 0, 0, wd⟩ else ι m) (.s (.slice nx wd none none)) (.slice oa (lenG a + lenG b) cap) :=
            ⟨oa, _, cap, ⟨none, 0, 0, 0, wd⟩, rfl, hmaxl hbd, hw0, by omega, by simp, by simp, fun _ => rfl, by rw [h0]; simp, .inl ⟨h0, hc0⟩⟩
          rcases hef with rfl | ⟨n, hn, rfl⟩
          · exact ⟨_, _, 1, _, w, _, I, hK, hv, p1, Map.up_new p2, Fr.refl _ _, .inl (hex _ _ (by rw [a1]; exact hrun))⟩
          · refine ⟨_, _, 1, _, w, _, I, hK, hv, p1.less ?_, Map.up_new p2, Fr.refl _ _, .inl (hex _ _ (by rw [a1]; exact hrun))⟩
            intro q c hq
            simp only [appE, put1] at hq ⊢
            split at hq
            · cases hq
            · exact hq
        split at h
        · 
          obtain ⟨hbd, hK⟩ := hgo [] h
          have h1 : ρ so = .slice none 0 0 := hsr
          rw [a1] at h1
          simp only [Value.slice.injEq] at h1
          by_cases hle : lenG a + lenG b ≤ cap
          · exact empty [] (.inl rfl) hbd (by omega) (by omega) hK
          · exact grow [] (.inl rfl) hbd hle hK
        · 
          obtain ⟨hbd, hK⟩ := hgo [] h
          obtain ⟨oa', l', c', lo, f1, f2, f3, f4, f5, f6, f7, f8⟩ := hsr
          rw [a1] at f1
          simp only [Value.slice.injEq] at f1
          have := f5 0 rfl
          by_cases hle : lenG a + lenG b ≤ cap
          · exact empty [] (.inl rfl) hbd (by omega) (by omega) hK
          · exact grow [] (.inl rfl) hbd hle hK
        · rename_i n wd' rr
          split at h
          · rename_i bl hbl
            split at h
            · rename_i hrw
              obtain ⟨hbd, hK⟩ := hgo _ h
              have hn := name_lt hs hbl
              by_cases hle : lenG a + lenG b ≤ cap
              · obtain ⟨q1', q2', q3', q4'⟩ := slice_row (P := P) hs hsr ha
                obtain ⟨oa', l', c', lo, f1, f2, f3, f4, f5, f6, f7, f8⟩ := hsr
                rw [a1] at f1
                simp only [Value.slice.injEq] at f1
                obtain ⟨rfl, rfl, rfl⟩ := f1
                have hwd : wd' = wd := by rw [← q1', haw]
                subst hwd
                have hlw := f7 rfl
                have inplace : ∀ (s : Nat) (k : Nat), lo.blk = some k → oa = some ⟨k, lo.off + s * wd', none⟩ → cap + s = lo.cap → (s + lenG a) * wd' ≤ lo.len → a.flat = ((flats bl.g).drop (s * wd')).take (lenG a * wd') → Good P o ρ ι I nx hp w K r := by
                  intro s k hk hoa hcap hsle hafl
                  obtain ⟨hwfb, hlenb, holdb, hIb, hltb⟩ := blk_at hs hbl f6 hk
                  obtain ⟨C, ee, fr, c1, c2, c3, c4, c5⟩ := holdb.ex
                  have hm2 := krel_len m2
                  rw [Seg.flat_len b2, size_cnt b (by omega), b3, g4, haw] at hm2
                  have hroom : lo.off + (s * wd' + lenG a * wd') + new0.length ≤ C.size := by
                    rw [hm2]
                    have : s * wd' + lenG a * wd' + lenG b * wd' ≤ lo.cap * lo.w := by
                      rw [hlw, ← Nat.add_mul, ← Nat.add_mul]
                      exact Nat.mul_le_mul_right _ (by omega)
                    omega
                  have hst := run_storeCells (P := P) k (lo.off + s * wd' + lenG a * wd') new0 0 w C ee fr (krel_one m2) c1 (by omega) c4
                  have hrun := (append_run (w := w) (P := P) (t := t) (u := u) (ty := o.type) ht hu hd hi hz (by omega) (X := ρ xo) b4 m1 n1 o1 hbd).1 hle _ (by
                    rw [hoa]
                    simp only [Addr.add_plain', hsz]
                    exact hst)
                  simp only [Nat.add_zero] at hrun
                  obtain ⟨C', d1, d2, d3⟩ := putCells_here (b := k) new0 (lo.off + s * wd' + lenG a * wd') w C ee fr c1
                  obtain ⟨r1, r2, r3, r4⟩ := putCells_rest k new0 (lo.off + s * wd' + lenG a * wd') w
                  have hmv := hs.move hbl hrw f6 hk [setCnt cc] hwfc ⟨some k, lo.off + s * wd', cap, (flats [setCnt cc]).length, wd'⟩ rfl rfl (putCells w k (lo.off + s * wd' + lenG a * wd') new0) r1
                    (fun j hj => putCells_other hj new0 _ w) ⟨C', ee, fr, d1, by
                      rw [d2]
                      simp only [hfll, Nat.add_mul]
                      omega, by
                      rw [d2]
                      simp only
                      have : s * wd' + cap * wd' = lo.cap * lo.w := by rw [hlw, ← Nat.add_mul, ← hcap, Nat.add_comm]
                      omega, by rw [d2]; exact c4, by
                      intro j y hy
                      simp only
                      rw [hfl] at hy
                      rw [d3]
                      have hal : a.flat.length = lenG a * wd' := by rw [Seg.flat_len a4, size_cnt a (by omega), a5, haw]
                      by_cases hj : j < lenG a * wd'
                      · rw [if_neg (by omega)]
                        rw [List.getElem?_append_left (by omega), hafl, List.getElem?_take, if_pos hj, List.getElem?_drop] at hy
                        obtain ⟨v, v1, v2, v3⟩ := c5 _ y hy
                        exact ⟨v, by rw [Nat.add_assoc]; exact v1, v2, v3⟩
                      · rw [List.getElem?_append_right (by omega), hal] at hy
                        obtain ⟨v, v1, v2, v3⟩ := krel_at m2 _ y hy
                        have hlt : j - lenG a * wd' < new0.length := by
                          rcases Nat.lt_or_ge (j - lenG a * wd') new0.length with hh | hh
                          · exact hh
                          · rw [List.getElem?_eq_none hh] at v1; cases v1
                        rw [if_pos (by omega)]
                        have : lo.off + s * wd' + j - (lo.off + s * wd' + lenG a * wd') = j - lenG a * wd' := by omega
                        rw [this]
                        exact ⟨v, v1, v2, v3⟩⟩
                  refine ⟨_, _, 1, _, _, _, I, hK, ?_, hmv.1, Map.up_new hmv.2, ⟨fun j _ hj => putCells_other (fun e => hj (by subst e; exact hIb hrw)) new0 _ w, fun _ h => .inl h, by rw [r1]; exact Nat.le_refl _, r2, r3, r4⟩, .inl (hex _ _ (by rw [a1]; exact hrun))⟩
                  exact ⟨oa, _, cap, _, rfl, hmaxl hbd, hw0, hle, by simp, by simp; rfl, fun _ => rfl, by rw [hfll], .inr ⟨k, rfl, hoa, fun _ => rfl⟩⟩
                cases rr with
                | none =>
                  obtain ⟨f8a, f8b⟩ := f8
                  rcases f8b with ⟨h0, h0c⟩ | ⟨k, h9, h10, h11⟩
                  · exact empty _ (.inr ⟨n, hn, rfl⟩) hbd (by omega) h0c hK
                  · have hro : rowOf hp n wd' = some a := ha
                    obtain ⟨b', hb', hg', _⟩ := rowOf_spec hro
                    rw [hbl] at hb'; cases hb'
                    refine inplace 0 k h9 (by rw [h10]; simp) (by have := h11 rfl; omega) (by rw [Nat.zero_add, f8a]; exact Nat.le_refl _) ?_
                    rw [hg', flats_one, Nat.zero_mul, List.drop_zero]
                    rw [← haw] ; exact (row_all a4 a5 (by omega)).symm
                | some p =>
                  obtain ⟨s, l2⟩ := p
                  obtain ⟨rfl, f8a, f8b⟩ := f8
                  rcases f8b with ⟨h0, h0c⟩ | ⟨k, h9, h10, h11⟩
                  · exact empty _ (.inr ⟨n, hn, rfl⟩) hbd (by omega) h0c hK
                  · simp only [sliceRow] at ha
                    cases hro : rowOf hp n wd' with
                    | none => rw [hro] at ha; cases ha
                    | some base =>
                      rw [hro] at ha
                      obtain ⟨b', hb', hg', hbw⟩ := rowOf_spec hro
                      rw [hbl] at hb'; cases hb'
                      obtain ⟨hwfb, hlenb⟩ := blk_len hs hbl f6
                      rw [hg'] at hwfb hlenb
                      have hrwb := (wfs_cons.1 hwfb).1
                      rw [flats_one, Seg.flat_len hrwb, size_cnt base (by omega), hbw] at hlenb
                      have hle2 : s + lenG a ≤ base.cnt := Nat.le_of_mul_le_mul_right (by rw [← hlenb]; exact f8a) f3
                      obtain ⟨_, _, _, _, s5, _⟩ := subG_spec hrwb hle2 ha
                      refine inplace s k h9 h10 (h11 rfl) f8a ?_
                      rw [s5, hg', flats_one, hbw]
              · exact grow _ (.inr ⟨n, hn, rfl⟩) hbd hle hK
            · cases h
          · cases h
        · cases h
      · cases h
    · cases h
end
section
variable {R : Type} {P : Program} {o : Oper} {ρ : Operand → Value} {ι : Map} {I : Nat → Prop} {nx : Nat} {hp : Nat → Option Blk} {w : World} {K : AVal → Eff → Nat → Option R} {r : R}
theorem spliceG_spec {g y g' : Seg} (hg : g.wf) (hy : y.wf) {s : Nat} (hle : s + lenG y ≤ g.cnt) (h : spliceG g s y = some g') :
    g'.wf ∧ y.width = g.width ∧ g'.width = g.width ∧ g'.flat = g.flat.take (s * g.width) ++ y.flat ++ g.flat.drop (s * g.width + y.flat.length) := by
  cases g <;> cases y <;> simp only [spliceG] at h <;> try (cases h; done)
  case ints.ints k xs n k' ys m =>
    split at h
    · rename_i hk
      have := beqK_eq hk; subst this
      cases h
      simp only [Seg.wf, lenG, Seg.cnt] at *
      refine ⟨by simp; omega, rfl, rfl, ?_⟩
      simp [Seg.flat, Seg.width, List.map_take, List.map_drop]
    · cases h
  case bytes.bytes xs n ys m =>
    cases h
    simp only [Seg.wf, lenG, Seg.cnt] at *
    refine ⟨by simp; omega, rfl, rfl, ?_⟩
    simp [Seg.flat, Seg.width, List.map_take, List.map_drop]
  case strs.strs xs n ys m =>
    cases h
    simp only [Seg.wf, lenG, Seg.cnt] at *
    refine ⟨by simp; omega, rfl, rfl, ?_⟩
    simp [Seg.flat, Seg.width, List.map_take, List.map_drop]
theorem fits_nat {n : Nat} (h : n ≤ maxL) : fits .i64 (n : Int) := by
  simp [fits, IntKind.min, IntKind.max, IntKind.signed, IntKind.bits]
  simp only [maxL] at h
  omega
theorem good_copy (hs : HSim ι I nx hp w) {c : Call} (ho : o.op = .call c) (hcb : c.callee = .builtin .copy) {t u : TypeId} (hat : c.argTypes = #[t, u]) {so xo : Operand} (hargs : c.args = #[so, xo])
    {s x : Sc} (hsr : srel ι s (ρ so)) (hxr : srel ι x (ρ xo)) (h : evCopy P hp t s x K = some r) : Good P o ρ ι I nx hp w K r := by
  have hex : ∀ X w', (Builtin.copy_ #[t, u] o.type #[ρ so, ρ xo]).run P w = .ok X w' → (execOp ρ o).run P w = .ok (.value X) w' := by
    intro X w' hX
    obtain ⟨cs, he⟩ := exec_builtin (P := P) (ρ := ρ) (w := w) ho hcb
    rw [he, hat, hargs]
    simp [builtin, hX]
  unfold evCopy at h
  split at h
  · cases h
  · rename_i e he
    have ht : P.underlying t = some (.slice e) := by
      unfold elemOf' at he
      split at he
      · rename_i hu; cases he; exact hu
      · cases he
    cases s with
    | slice n wd rr cap =>
      cases hdl : lenSl hp (.slice n wd rr cap) with
      | none => rw [hdl] at h; cases h
      | some dl =>
      cases hb : srcRow P hp e x with
      | none => rw [hdl, hb] at h; cases h
      | some b =>
      rw [hdl, hb] at h
      dsimp only at h
      obtain ⟨b1, b2, b3, b4, b5⟩ := src_spec (P := P) hs hxr hb
      split at h
      · rename_i bl hbl
        split at h
        · rename_i row y hrw0 hrow hy
          rw [Bool.and_eq_true] at hrw0
          obtain ⟨hrw, heq⟩ := hrw0
          split at h
          · rename_i row' hspl
            obtain ⟨b', hb', hg', hwid⟩ := rowOf_spec hrow
            rw [hbl] at hb'; cases hb'
            obtain ⟨oa, l, c', lo, f1, f2, f3, f4, f5, f6, f7, f8⟩ := hsr
            obtain ⟨hwfb, hlenb⟩ := blk_len hs hbl f6
            rw [hg'] at hwfb hlenb
            have hrwb := (wfs_cons.1 hwfb).1
            rw [flats_one, Seg.flat_len hrwb, size_cnt row (by omega), hwid] at hlenb
            obtain ⟨s1, s2, s3, s4, s5, s6⟩ := subG_spec b2 (s := 0) (l := min (lenG b) dl) (by rw [b3]; simp; omega) hy
            rw [Nat.zero_mul, List.drop_zero] at s5
            obtain ⟨cs, e1, e2⟩ := b5 (min (lenG b) dl) (Nat.min_le_left _ _)
            rw [← s5] at e2
            
            have key : ∀ (sb : Nat), begOf rr = sb → dl = l → sb + l ≤ row.cnt → ((l = 0 ∧ c' = 0) ∨ ∃ k, lo.blk = some k ∧ oa = some ⟨k, lo.off + sb * wd, none⟩) → Good P o ρ ι I nx hp w K r := by
              intro sb hsb hdll hcnt hplace
              subst hdll
              rw [hsb] at hspl
              obtain ⟨t1, t2, t3, t4⟩ := spliceG_spec hrwb s1 (by rw [s3]; omega) hspl
              have hbw : b.width = wd := by rw [← s4, t2, hwid]
              have hel : (sizeOf e).run P w = .ok wd w := by
                cases hce : cells P e with
                | none => rw [hce] at heq; cases heq
                | some q => rw [hce] at heq; have := beq_of heq; subst this; exact cells_run hce
              have hylen : y.flat.length = min (lenG b) dl * wd := by rw [Seg.flat_len s1, size_cnt y (by omega), s2, s4, hbw]
              rw [hbw] at e1
              have hrun : ∀ w', (match oa with
                  | some a => (storeCells a cs : Sem Unit)
                  | none => pure ()).run P w = .ok () w' → (Builtin.copy_ #[t, u] o.type #[ρ so, ρ xo]).run P w = .ok (.int .i64 ((min (lenG b) dl : Nat) : Int)) w' := by
                intro w' hst
                unfold Builtin.copy_
                cases oa with
                | none =>
                  simp only [Sem.run_pure, Result.ok.injEq, true_and] at hst
                  subst hst
                  simp [run_und ht, f1, b4, hel, e1, goInt]
                | some a =>
                  simp at hst
                  simp [run_und ht, f1, b4, hel, e1, hst, goInt]
              have hwf' : wfs [row'] := wfs_cons.2 ⟨t1, fun _ h => by cases h⟩
              have hfits : fits .i64 ((min (lenG b) dl : Nat) : Int) := fits_nat (Nat.le_trans (Nat.min_le_left _ _) b1)
              rcases hplace with ⟨h0, h0c⟩ | ⟨k, hk, hoa⟩
              · have hcs : cs = [] := by
                  have := krel_len e2
                  rw [hylen, h0] at this
                  exact List.eq_nil_of_length_eq_zero (by simpa using this)
                have hyf : y.flat = [] := List.eq_nil_of_length_eq_zero (by rw [hylen, h0]; simp)
                have hsame : flats [row'] = flats bl.g := by
                  rw [hg', flats_one, flats_one, t4, hyf]; simp
                have hput : HSim ι I nx (put1 hp n (some ⟨true, [row']⟩)) w := by
                  refine hs.write hbl hrw f6 [row'] hwf' ?_ w rfl (fun _ _ => rfl) ?_
                  · rw [hsame, hg', flats_one, Seg.flat_len hrwb, size_cnt row (by omega), hwid, hlenb]
                  · intro k hk
                    rw [hsame]
                    exact (blk_at hs hbl f6 hk).2.2.1
                exact ⟨_, _, 0, _, w, ι, I, h, ⟨rfl, hfits⟩, hput, Map.up_refl _ _, Fr.refl _ _, .inl (hex _ _ (hrun w (by rw [hcs]; cases oa <;> rfl)))⟩
              · obtain ⟨hwfb2, hlenb2, holdb, hIb, hltb⟩ := blk_at hs hbl f6 hk
                obtain ⟨C, ee, fr, c1, c2, c3, c4, c5⟩ := holdb.ex
                have hcl := krel_len e2
                have hle1 : sb * wd + y.flat.length ≤ (flats bl.g).length := by
                  rw [hylen, ← hlenb2, hlenb, ← Nat.add_mul]
                  exact Nat.mul_le_mul_right _ (by omega)
                obtain ⟨p1, p2⟩ := good_write hs hbl hrw f6 hk e2 hle1 hwf' (by rw [flats_one, t4, hwid, hg', flats_one])
                refine ⟨_, _, 0, _, _, ι, I, h, ⟨rfl, hfits⟩, p1, Map.up_refl _ _, p2, .inl (hex _ _ (hrun _ ?_))⟩
                rw [hoa]
                have := run_storeCells (P := P) k (lo.off + sb * wd) cs 0 w C ee fr (krel_one e2) c1 (by omega) c4
                simpa using this
            cases rr with
            | none =>
              obtain ⟨f8a, f8b⟩ := f8
              have hlc : l = row.cnt := Nat.eq_of_mul_eq_mul_right f3 (by rw [f8a, hlenb])
              have hdl2 : dl = l := by
                simp only [lenSl, hrow] at hdl
                cases hdl
                rw [lenG_cnt hrwb (by omega), hlc]
              refine key 0 rfl hdl2 (by omega) ?_
              rcases f8b with hz | ⟨k, h9, h10, _⟩
              · exact .inl hz
              · exact .inr ⟨k, h9, by rw [h10]; simp⟩
            | some p =>
              obtain ⟨s, l2⟩ := p
              obtain ⟨rfl, f8a, f8b⟩ := f8
              simp only [lenSl, Option.some.injEq] at hdl
              refine key s rfl hdl.symm (Nat.le_of_mul_le_mul_right (by rw [← hlenb]; exact f8a) f3) ?_
              rcases f8b with hz | ⟨k, h9, h10, _⟩
              · exact .inl hz
              · exact .inr ⟨k, h9, h10⟩
          · cases h
        · cases h
      · cases h
    | _ => cases h
theorem good_len (hs : HSim ι I nx hp w) {c : Call} (ho : o.op = .call c) (hcb : c.callee = .builtin .len) {t : TypeId} (hat : c.argTypes = #[t]) {so : Operand} (hargs : c.args = #[so])
    {X : Value} {n : Nat} (hX : ρ so = X) (hn : n ≤ maxL) {d : TypeDesc} (hu : P.underlying t = some d)
    (hd : (d = .string ∧ ∃ s, X = .string s ∧ s.size = n) ∨ (∃ e, d = .array n e) ∨ (∃ e oa c, d = .slice e ∧ X = .slice oa n c))
    (h : K (.s (.int .i64 (n : Int))) [] 0 = some r) : Good P o ρ ι I nx hp w K r := by
  refine good_pure hs h (x := .int .i64 (n : Int)) ⟨rfl, fits_nat hn⟩ ?_
  obtain ⟨cs, he⟩ := exec_builtin (P := P) (ρ := ρ) (w := w) ho hcb
  rw [he, hat, hargs]
  have : (Builtin.len_ #[t] o.type #[ρ so]).run P w = .ok (.int .i64 (n : Int)) w := by
    rw [hX]
    rcases hd with ⟨rfl, s, rfl, rfl⟩ | ⟨e, rfl⟩ | ⟨e, oa, c, rfl, rfl⟩
    · simp [Builtin.len_, run_und hu, goInt]
    · cases X <;> simp [Builtin.len_, run_und hu, goInt]
    · simp [Builtin.len_, run_und hu, goInt]
  simp [builtin, this]
theorem foldMn_run {k : IntKind} : ∀ (vs : List AVal) (xs : List Value) (a m : Int), fits k a → All2 (vrel ι) vs xs → foldMn k a vs = some m →
    fits k m ∧ (xs.foldlM Builtin.min2 (.int k a)).run P w = .ok (.int k m) w
  | [], [], a, m, hf, _, h => by cases h; exact ⟨hf, rfl⟩
  | [], _ :: _, a, m, hf, hh, h => by cases hh
  | v :: vs, xs, a, m, hf, hh, h => by
    cases hh with
    | cons h1 h2 =>
      rename_i x xs
      cases v with
      | tup _ => cases h
      | c v =>
        cases v with
        | agg _ => cases h
        | sc v =>
          cases v <;> try (cases h; done)
          rename_i k' b
          simp only [foldMn] at h
          split at h
          · rename_i hk
            have := beqK_eq hk; subst this
            obtain ⟨rfl, hb⟩ := h1
            have hf' : fits k (mnI a b) := by unfold mnI; split <;> assumption
            obtain ⟨q1, q2⟩ := foldMn_run vs xs _ m hf' h2 h
            refine ⟨q1, ?_⟩
            rw [List.foldlM_cons, Sem.run_bind]
            have : (Builtin.min2 (.int k a) (.int k b)).run P w = .ok (.int k (mnI a b)) w := rfl
            rw [this]
            exact q2
          · cases h
theorem foldMx_run {k : IntKind} : ∀ (vs : List AVal) (xs : List Value) (a m : Int), fits k a → All2 (vrel ι) vs xs → foldMx k a vs = some m →
    fits k m ∧ (xs.foldlM Builtin.max2 (.int k a)).run P w = .ok (.int k m) w
  | [], [], a, m, hf, _, h => by cases h; exact ⟨hf, rfl⟩
  | [], _ :: _, a, m, hf, hh, h => by cases hh
  | v :: vs, xs, a, m, hf, hh, h => by
    cases hh with
    | cons h1 h2 =>
      rename_i x xs
      cases v with
      | tup _ => cases h
      | c v =>
        cases v with
        | agg _ => cases h
        | sc v =>
          cases v <;> try (cases h; done)
          rename_i k' b
          simp only [foldMx] at h
          split at h
          · rename_i hk
            have := beqK_eq hk; subst this
            obtain ⟨rfl, hb⟩ := h1
            have hf' : fits k (mxI a b) := by unfold mxI; split <;> assumption
            obtain ⟨q1, q2⟩ := foldMx_run vs xs _ m hf' h2 h
            refine ⟨q1, ?_⟩
            rw [List.foldlM_cons, Sem.run_bind]
            have : (Builtin.max2 (.int k a) (.int k b)).run P w = .ok (.int k (mxI a b)) w := rfl
            rw [this]
            exact q2
          · cases h
end
section
variable {R : Type} {P : Program} {o : Oper} {ρ : Operand → Value} {ι : Map} {I : Nat → Prop} {nx : Nat} {hp : Nat → Option Blk} {w : World} {K : AVal → Eff → Nat → Option R} {r : R}
theorem sameSc_spec {s : Sc} {v : Value} (h : sameSc s v = true) : srel ι s v ∧ (v.oneCell' = true ∧ v.cells = #[v]) := by
  cases s <;> cases v <;> simp only [sameSc] at h <;> try (cases h; done)
  case bool.bool a b => simp at h; subst h; exact ⟨rfl, rfl, rfl⟩
  case int.int j a k b =>
    simp at h
    obtain ⟨⟨h1, h2⟩, h3⟩ := h
    have := beqK_eq h1
    subst this; subst h2; subst h3
    have := fits_zero_max j
    exact ⟨⟨rfl, this⟩, rfl, rfl⟩
  case str.string a b =>
    simp at h
    obtain ⟨h1, h2⟩ := h
    subst h1
    refine ⟨⟨?_, by simp [maxL]⟩, rfl, rfl⟩
    congr 1
    apply ByteArray.ext
    simp [h2]
  case nilp.pointer a =>
    cases a with
    | none => exact ⟨rfl, rfl, rfl⟩
    | some a => cases h
  case nilsl.slice a l c =>
    cases a with
    | some a => cases h
    | none =>
      cases l with
      | succ l => cases h
      | zero =>
        cases c with
        | succ c => cases h
        | zero => exact ⟨rfl, rfl, rfl⟩
  case nilfn.nilFunc => exact ⟨rfl, rfl, rfl⟩
  case nilmap.map a =>
    cases a with
    | none => exact ⟨rfl, rfl, rfl⟩
    | some a => cases h
  case err.nilIface b =>
    cases b with
    | true => exact ⟨.inl ⟨rfl, rfl⟩, rfl, rfl⟩
    | false => cases h
  all_goals (first | cases h | (rename_i b; cases b <;> cases h))
theorem sameScs_spec : ∀ {l : List Sc} {vs : List Value}, sameScs l vs = true → krel ι l vs
  | [], [], _ => .nil
  | [], _ :: _, h => by cases h
  | _ :: _, [], h => by cases h
  | a :: l, b :: vs, h => by
    simp only [sameScs, Bool.and_eq_true] at h
    exact .cons (sameSc_spec h.1) (sameScs_spec h.2)
theorem wfB_spec : ∀ {g : Segs}, wfB g = true → wfs g
  | [], _ => fun _ h => by cases h
  | a :: g, h => by
    cases a <;> simp only [wfB, Bool.and_eq_true] at h
    case one => exact wfs_cons.2 ⟨trivial, wfB_spec h⟩
    all_goals exact wfs_cons.2 ⟨beq_of h.1, wfB_spec h.2⟩
theorem zeroS_spec {t : TypeId} {g : Segs} (h : zeroS P t = some g) : wfs g ∧ ∃ i z, P.info? t = some i ∧ i.zero = some z ∧ krel ι (flats g) z.cells.toList := by
  unfold zeroS at h
  split at h
  · rename_i g' z hg hz
    split at h
    · rename_i h1 h2
      cases h
      cases hi : P.info? t with
      | none => rw [hi] at hz; cases hz
      | some i =>
        rw [hi] at hz
        simp only [Option.map_some, Option.some.injEq] at hz
        exact ⟨wfB_spec h1, i, z, rfl, hz, sameScs_spec h2⟩
    · cases h
  · cases h
theorem good_var (hs : HSim ι I nx hp w) {g : Segs} (hg : wfs g) {x : Value} {cs : List Value} (hx : x.cells = cs.toArray) (hk : krel ι (flats g) cs) {t : TypeId}
    (h : K (.s (.ptr nx 0 0 0 0)) [(nx, some ⟨true, g⟩)] 1 = some r) (hpos : 0 < (flats g).length)
    (hr : ∀ x', (newVar t x).run P w = .ok x' (w.alloc (.cells x.cells t)) → x' = ⟨w.heap.size, 0, none⟩ → (execOp ρ o).run P w = .ok (.value (.pointer (some x'))) (w.alloc (.cells x.cells t))) : Good P o ρ ι I nx hp w K r := by
  have hlen := krel_len hk
  refine good_new hs hg (C := cs.toArray) (e := t) (fr := (0, 0)) (cap := 0) (wd := 0) (x := .pointer (some ⟨w.heap.size, 0, none⟩)) (w' := w.alloc (.cells x.cells t)) ?_ (by simp) (by intro o _; simp) ?_ ?_ rfl rfl rfl h ?_ ?_
  · simp [hlen]
  · intro i y hy
    obtain ⟨v, a, b⟩ := krel_at hk i y hy
    exact ⟨v, by simpa using a, b⟩
  · rw [hx]; rfl
  · intro ι' _ h1
    exact ⟨_, _, h1, rfl, by simp, by simpa using hpos⟩
  · exact hr _ (by simp [newVar, newRow]) rfl
theorem foldl_splice (off : Nat) : ∀ (vs : List Value) (k : Nat) (cs : Array Value), off + k + vs.length ≤ cs.size →
    (((vs.zipIdx k).foldl (fun (cs : Array Value) (p : Value × Nat) => cs.setIfInBounds (off + p.2) p.1) cs)).toList = cs.toList.take (off + k) ++ vs ++ cs.toList.drop (off + k + vs.length) := by
  intro vs
  induction vs with
  | nil => intro k cs h; simp
  | cons v vs ih =>
    intro k cs h
    simp only [List.length_cons] at h
    rw [List.zipIdx_cons, List.foldl_cons, ih (k + 1) _ (by simp; omega)]
    simp only [Array.toList_setIfInBounds, List.length_cons]
    have hlt : off + k < cs.toList.length := by simpa using (by omega : off + k < cs.size)
    have e1 : off + (k + 1) = off + k + 1 := by omega
    have hA : (cs.toList.take (off + k)).length = off + k := by rw [List.length_take]; omega
    rw [e1, set_eq_splice _ _ _ hlt]
    generalize hAe : cs.toList.take (off + k) = A at *
    have h1 : (A ++ [v]).length = off + k + 1 := by simp [hA]
    rw [List.take_append_of_le_length (by omega), List.take_of_length_le (by omega), List.drop_append, List.drop_of_length_le (by omega), h1, List.nil_append, List.drop_drop]
    simp only [List.append_assoc, List.cons_append, List.nil_append]
    congr 4
    omega
theorem fill_one {place : Nat → Option (Nat × Nat)} {cells : Array Value} {i off size : Nat} {x : Value} {cs : List Value} (hp : place i = some (off, size)) (hx : x.cells = cs.toArray) (hc : cs.length = size)
    (hle : off + size ≤ cells.size) (rest : List (Nat × Value)) :
    Instr.fill place cells ((i, x) :: rest) = Instr.fill place (cells.toList.take off ++ cs ++ cells.toList.drop (off + size)).toArray rest := by
  rw [Instr.fill, hp]
  simp only [hx, List.size_toArray, hc]
  rw [if_neg (by simp; omega)]
  congr 1
  apply Array.ext'
  have := foldl_splice off cs 0 cells (by omega)
  simp only [Nat.add_zero, hc] at this
  rw [← this, ← Array.foldl_toList, Array.toList_zipIdx]
end
section
variable {R : Type} {P : Program} {o : Oper} {ρ : Operand → Value} {ι : Map} {I : Nat → Prop} {nx : Nat} {hp : Nat → Option Blk} {w : World} {K : AVal → Eff → Nat → Option R} {r : R}
def parts (ι : Map) (ps : List (Nat × Option AVal)) (xs : List (Nat × Value)) : Prop := All2 (fun p x => p.1 = x.1 ∧ ∀ v, p.2 = some v → vrel ι v x.2) ps xs
theorem krel_splice {l l' : List Sc} {cs cs' : List Value} (h : krel ι l cs) (h' : krel ι l' cs') {off : Nat} (hle : off + l'.length ≤ l.length) :
    krel ι (l.take off ++ l' ++ l.drop (off + l'.length)) (cs.take off ++ cs' ++ cs.drop (off + l'.length)) := by
  have hl := krel_len h
  have hl' := krel_len h'
  have ht : ∀ n, krel ι (l.take n) (cs.take n) := by
    intro n
    refine krel_of_at _ _ (by simp [hl]) fun i x hx => ?_
    rw [List.getElem?_take] at hx ⊢
    split at hx
    · rename_i hi; rw [if_pos hi]; exact krel_at h i x hx
    · cases hx
  have hd : ∀ n, krel ι (l.drop n) (cs.drop n) := by
    intro n
    refine krel_of_at _ _ (by simp [hl]) fun i x hx => ?_
    rw [List.getElem?_drop] at hx ⊢
    exact krel_at h _ x hx
  exact krel_append (krel_append (ht _) h') (hd _)
theorem fillS_spec {place : Nat → Option (Nat × Nat)} : ∀ (ps : List (Nat × Option AVal)) (xs : List (Nat × Value)) (g g' : Segs) (cs : List Value), parts ι ps xs → wfs g → krel ι (flats g) cs → fillS place ps g = some g' →
    wfs g' ∧ ∃ cs', Instr.fill place cs.toArray xs = some cs' ∧ krel ι (flats g') cs'.toList
  | [], [], g, g', cs, _, hw, hk, h => by cases h; exact ⟨hw, cs.toArray, rfl, hk⟩
  | [], _ :: _, _, _, _, h, _, _, _ => by cases h
  | p :: ps, xs, g, g', cs, hp, hw, hk, h => by
    cases hp with
    | cons h1 h2 =>
      rename_i x xs
      obtain ⟨i, ov⟩ := p
      obtain ⟨j, X⟩ := x
      obtain ⟨rfl, h1⟩ := h1
      simp only [fillS] at h
      split at h
      · rename_i off size v hpl
        split at h
        · rename_i y hy
          split at h
          · rename_i a b hs hsp
            have hsz := beq_of hs
            split at h
            · rename_i z c htk
              obtain ⟨hwy, ys, hX, hky⟩ := segsOf_spec (h1 v rfl) hy
              obtain ⟨e1, s1⟩ := splitS_spec _ _ _ _ hsp
              obtain ⟨e2, s2⟩ := takeS_spec _ _ _ _ htk
              subst e2
              have hw0 := hw
              rw [e1] at hw0
              obtain ⟨wa, wb⟩ := wfs_append.1 hw0
              obtain ⟨wz, wc⟩ := wfs_append.1 wb
              have la := flats_len wa
              have lz := flats_len wz
              have ly := flats_len hwy
              have lcs := krel_len hk
              have lys := krel_len hky
              have e3 : flats g = flats a ++ (flats z ++ flats c) := by rw [e1, flats_append, flats_append]
              have hlen : (flats g).length = (flats a).length + ((flats z).length + (flats c).length) := by rw [e3]; simp
              have hle : off + (flats y).length ≤ (flats g).length := by omega
              have e4 : flats (a ++ y ++ c) = (flats g).take off ++ flats y ++ (flats g).drop (off + (flats y).length) := by
                have h5 : off = (flats a).length := by omega
                have h6 : off + (flats y).length = (flats a).length + (flats z).length := by omega
                rw [h6, h5, e3, List.take_left, ← List.append_assoc (flats a), List.drop_append_of_le_length (by simp), List.drop_of_length_le (by simp), flats_append, flats_append]
                rfl
              have hks := krel_splice hk hky hle
              rw [← e4] at hks
              obtain ⟨q1, cs', q2, q3⟩ := fillS_spec ps xs _ g' _ h2 (wfs_append.2 ⟨wfs_append.2 ⟨wa, hwy⟩, wc⟩) hks h
              refine ⟨q1, cs', ?_, q3⟩
              rw [fill_one hpl hX (by omega) (by simp; omega)]
              rw [← q2]
              congr 3
              have : off + size = off + (flats y).length := by omega
              rw [this]
            · cases h
          · cases h
        · cases h
      · cases h
theorem tupSet_known : ∀ {fs : List Fk} {t u : Tup fs} {f : Nat} {v : Sc}, tupSet fs t f v = some u → v.known
  | [], _, _, _, _, h => by simp [tupSet] at h
  | .int k :: fs, t, u, 0, v, h => by cases v <;> simp [tupSet] at h <;> trivial
  | .str :: fs, t, u, 0, v, h => by cases v <;> simp [tupSet] at h <;> trivial
  | .bool :: fs, t, u, 0, v, h => by cases v <;> simp [tupSet] at h <;> trivial
  | g :: fs, t, u, f + 1, v, h => by
    have h' : (match tupSet fs t.2 f v with
      | some u => some ((t.1, u) : Tup (g :: fs))
      | none => none) = some u := by cases g <;> exact h
    cases hs : tupSet fs t.2 f v with
    | none => rw [hs] at h'; cases h'
    | some z => exact tupSet_known hs
theorem setElem_known {g g' : Seg} (h1 : g.isOne = false) {ix w f : Nat} {v : Sc} (h : g.setElem ix w f v = some g') : v.known := by
  cases g <;> simp only [Seg.setElem] at h
  case one => cases h1
  case ints => split at h <;> first | trivial | cases h
  case bytes => split at h <;> first | trivial | cases h
  case strs => split at h <;> first | trivial | cases h
  case recs =>
    split at h
    · split at h
      · rename_i hu; exact tupSet_known hu
      · cases h
    · cases h
theorem placesL_run : ∀ (fs : List Field) (l : List (Nat × Nat)), placesL P fs = some l → (fs.mapM fun f => Prod.mk f.offset <$> sizeOf f.type).run P w = .ok l w
  | [], l, h => by cases h; rfl
  | f :: fs, l, h => by
    simp only [placesL] at h
    split at h
    · rename_i n l' h1 h2
      cases h
      simp [List.mapM_cons, cells_run h1, placesL_run fs l' h2]
    · cases h
theorem fillRow_spec : ∀ (ps : List (Nat × Option AVal)) (xs : List (Nat × Value)) (g g' : Seg) (cs : List Value), parts ι ps xs → g.wf → g.width = 1 → krel ι g.flat cs → fillRow ps g = some g' →
    g'.wf ∧ ∃ cs', Instr.fill (fun i => some (i * 1, 1)) cs.toArray xs = some cs' ∧ krel ι g'.flat cs'.toList
  | [], [], g, g', cs, _, hw, _, hk, h => by cases h; exact ⟨hw, cs.toArray, rfl, hk⟩
  | [], _ :: _, _, _, _, h, _, _, _, _ => by cases h
  | p :: ps, xs, g, g', cs, hp, hw, hw1, hk, h => by
    cases hp with
    | cons h1 h2 =>
      rename_i x xs
      obtain ⟨i, ov⟩ := p
      obtain ⟨j, X⟩ := x
      obtain ⟨rfl, h1⟩ := h1
      simp only [fillRow] at h
      cases hsc : scOf ov with
      | none => rw [hsc] at h; cases h
      | some s =>
        rw [hsc] at h
        dsimp only at h
        have hov : ov = some (.c (.sc s)) := by
          unfold scOf at hsc
          split at hsc
          · cases hsc; rfl
          · cases hsc
        have hX := h1 _ hov
        split at h
        · rename_i gg hlt hset
          have hlt' : i < g.cnt := by simpa [Nat.blt_eq] using hlt
          have hfl := Seg.flat_len hw
          rw [size_cnt g (by omega), hw1, Nat.mul_one] at hfl
          obtain ⟨q0, q1, q2, q3, q4, q5⟩ := setElem_spec hw (srel_fine hX) hset
          have hkn : s.known := setElem_known (by cases g <;> first | rfl | simp [Seg.width] at hw1) hset
          have hone := srel_one hX hkn
          rcases q5 with ⟨a1, _⟩ | ⟨a1, a2, a3, a4⟩
          · exfalso; cases g <;> simp [Seg.isOne, Seg.width] at a1 hw1
          · have e1 := a4 hlt'
            rw [hw1, Nat.mul_one, Nat.add_zero] at e1
            have e2 : gg.flat = g.flat.take i ++ [s] ++ g.flat.drop (i + 1) := by rw [e1, set_eq_splice _ _ _ (by omega)]
            have lcs := krel_len hk
            have hks : krel ι gg.flat (cs.take i ++ [X] ++ cs.drop (i + 1)) := by
              rw [e2]
              exact krel_splice hk (.cons ⟨hX, hone⟩ .nil) (by simp; omega)
            obtain ⟨p1, cs', p2, p3⟩ := fillRow_spec ps xs gg g' _ h2 q0 (by rw [q4, hw1]) hks h
            refine ⟨p1, cs', ?_, p3⟩
            rw [fill_one (i := i) (off := i) (size := 1) (by simp) hone.2 rfl (by simp; omega)]
            exact p2
        · cases h
theorem good_build (hs : HSim ι I nx hp w) {t : TypeId} {ps : Array (Nat × Operand)} (hop : o.op = .build t ps) {qs : List (Nat × Option AVal)} (hq : parts ι qs (ps.toList.map fun p => (p.1, ρ p.2))) {g : Segs} (hg : evBuild P t qs = some g)
    (h : K (.g g) [] 0 = some r) : Good P o ρ ι I nx hp w K r := by
  have hex : ∀ X, (Instr.build t (ps.map fun p => (p.1, ρ p.2))).run P w = .ok X w → (execOp ρ o).run P w = .ok (.value X) w := by
    intro X hX
    unfold execOp
    rw [hop]
    simp only [Sem.run_bind, hX, Result.andThen_ok, Sem.run_pure]
  have hpl : (ps.map fun p => (p.1, ρ p.2)).toList = ps.toList.map fun p => (p.1, ρ p.2) := by simp
  unfold evBuild at hg
  split at hg
  · rename_i z hz
    obtain ⟨hwz, i, zv, hi, hzv, hkz⟩ := zeroS_spec (ι := ι) hz
    have hzr : (zeroValue t).run P w = .ok zv w := run_zero hi hzv
    split at hg
    · rename_i fs hu
      split at hg
      · rename_i l hpl2
        obtain ⟨q1, cs', q2, q3⟩ := fillS_spec qs _ z g zv.cells.toList hq hwz hkz hg
        refine good_pure hs h (x := .agg cs') ⟨q1, cs'.toList, by simp, q3⟩ (hex _ ?_)
        unfold Instr.build
        have hpr := placesL_run (P := P) (w := w) fs.toList l hpl2
        simp only [Sem.run_bind, hzr, Result.andThen_ok, run_und hu, hpl]
        simp [Array.mapM_eq_mapM_toList, hpr]
        simp only [Array.toArray_toList] at q2
        rw [q2]
        rfl
      · cases hg
    · rename_i n e hu
      split at hg
      · rename_i row hce hrow
        split at hg
        · rename_i row' hfill
          cases hg
          have hz1 : z = [row] ∧ row.width = 1 := by
            unfold isRow1 at hrow
            split at hrow <;> first | (cases hrow; exact ⟨rfl, rfl⟩) | cases hrow
          obtain ⟨rfl, hw1⟩ := hz1
          rw [flats_one] at hkz
          obtain ⟨q1, cs', q2, q3⟩ := fillRow_spec qs _ row row' zv.cells.toList hq (wfs_cons.1 hwz).1 hw1 hkz hfill
          refine good_pure hs h (x := .agg cs') ⟨wfs_cons.2 ⟨q1, fun _ h => by cases h⟩, cs'.toList, by simp, by rw [flats_one]; exact q3⟩ (hex _ ?_)
          unfold Instr.build
          simp only [Sem.run_bind, hzr, Result.andThen_ok, run_und hu, cells_run hce, hpl]
          simp only [Array.toArray_toList] at q2
          rw [q2]
          rfl
        · cases hg
      · rename_i wd _ hce _
        obtain ⟨q1, cs', q2, q3⟩ := fillS_spec qs _ z g zv.cells.toList hq hwz hkz hg
        refine good_pure hs h (x := .agg cs') ⟨q1, cs'.toList, by simp, q3⟩ (hex _ ?_)
        unfold Instr.build
        simp only [Sem.run_bind, hzr, Result.andThen_ok, run_und hu, cells_run hce, hpl]
        simp only [Array.toArray_toList] at q2
        rw [q2]
        rfl
      · cases hg
    · cases hg
  · cases hg
end
section
variable {R : Type} {P : Program} {o : Oper} {ρ : Operand → Value} {ι : Map} {I : Nat → Prop} {nx : Nat} {hp : Nat → Option Blk} {w : World} {K : AVal → Eff → Nat → Option R} {r : R}
inductive Seq (wd : Nat) : Nat → List (Nat × Value) → List Value → Prop where
  | nil {j : Nat} : Seq wd j [] []
  | cons {j : Nat} {x : Value} {cs : List Value} {xs : List (Nat × Value)} {l : List Value} : x.cells = cs.toArray → cs.length = wd → Seq wd (j + 1) xs l → Seq wd j ((j, x) :: xs) (cs ++ l)
theorem Seq.len {wd j : Nat} {xs : List (Nat × Value)} {l : List Value} (h : Seq wd j xs l) : l.length = xs.length * wd := by
  induction h with
  | nil => simp
  | cons h1 h2 _ ih => rw [List.length_append, h2, ih, List.length_cons, Nat.succ_mul]; omega
theorem fill_seq {wd : Nat} : ∀ {j : Nat} {xs : List (Nat × Value)} {l : List Value} (cells : Array Value), Seq wd j xs l → (j + xs.length) * wd ≤ cells.size →
    Instr.fill (fun i => some (i * wd, wd)) cells xs = some (cells.toList.take (j * wd) ++ l ++ cells.toList.drop ((j + xs.length) * wd)).toArray
  | j, [], l, cells, h, hle => by
    cases h
    simp [Instr.fill]
  | j, (i, x) :: xs, l, cells, h, hle => by
    cases h with
    | cons h1 h2 h3 =>
      rename_i cs l'
      simp only [List.length_cons] at hle ⊢
      have e1 : j + (xs.length + 1) = j + 1 + xs.length := by omega
      have e2 : (j + 1 + xs.length) * wd = j * wd + wd + xs.length * wd := by rw [Nat.add_mul, Nat.add_mul, Nat.one_mul]
      rw [e1, e2] at hle
      rw [fill_one (i := j) (off := j * wd) (size := wd) rfl h1 h2 (by omega)]
      have hA : (cells.toList.take (j * wd)).length = j * wd := by rw [List.length_take]; simp; omega
      have hB : (cells.toList.take (j * wd) ++ cs).length = (j + 1) * wd := by rw [List.length_append, hA, h2, Nat.succ_mul]
      have hsz : ((cells.toList.take (j * wd) ++ cs ++ cells.toList.drop (j * wd + wd)).toArray).size = cells.size := by
        simp only [List.size_toArray, List.length_append, hA, h2, List.length_drop, Array.length_toList]; omega
      rw [fill_seq _ h3 (by rw [hsz, e2]; exact hle)]
      congr 2
      simp only [List.toList_toArray]
      rw [List.take_append_of_le_length (by omega), List.take_of_length_le (by omega), List.drop_append, List.drop_of_length_le (by rw [hB, e2, Nat.succ_mul]; omega), hB, List.nil_append, List.drop_drop, e1]
      simp only [List.append_assoc]
      congr 4
      rw [e2, Nat.succ_mul]
      omega
theorem all2_len {α β : Type} {Q : α → β → Prop} {l : List α} {m : List β} (h : All2 Q l m) : l.length = m.length := by
  induction h with
  | nil => rfl
  | cons _ _ ih => simp [ih]
theorem seq_ints {k : IntKind} : ∀ (ps : List (Nat × Option AVal)) (xs : List (Nat × Value)) (j : Nat) (l : List Int), parts ι ps xs → intsOf k j ps = some l → l.length = ps.length ∧ ∃ cs, Seq 1 j xs cs ∧ krel ι (l.map fun x => Sc.int k x) cs
  | [], [], j, l, _, h => by cases h; exact ⟨rfl, [], .nil, .nil⟩
  | [], _ :: _, _, _, h, _ => by cases h
  | p :: ps, xs, j, l, hp, h => by
    cases hp with
    | cons h1 h2 =>
      rename_i x xs
      obtain ⟨i, ov⟩ := p
      obtain ⟨i', X⟩ := x
      simp only [intsOf] at h
      split at h
      · rename_i k' y ys hj hsc hr
        have := beq_of hj; subst this
        split at h
        · rename_i hkk
          have := beqK_eq hkk; subst this
          cases h
          obtain ⟨q0, cs, q1, q2⟩ := seq_ints ps xs _ ys h2 hr
          have hov : ov = some (.c (.sc (.int k y))) := by
            unfold scOf at hsc
            split at hsc
            · cases hsc; rfl
            · cases hsc
          have hX : srel ι (.int k y) X := h1.2 _ hov
          have hone := srel_one hX trivial
          have : i = i' := h1.1
          subst this
          exact ⟨by simp [q0], [X] ++ cs, .cons hone.2 rfl q1, .cons ⟨hX, hone⟩ q2⟩
        · cases h
      · cases h
theorem seq_bytes : ∀ (ps : List (Nat × Option AVal)) (xs : List (Nat × Value)) (j : Nat) (l : Str), parts ι ps xs → bytesOf' j ps = some l → l.length = ps.length ∧ ∃ cs, Seq 1 j xs cs ∧ krel ι (l.map fun x => Sc.int .u8 (x.toNat : Int)) cs
  | [], [], j, l, _, h => by cases h; exact ⟨rfl, [], .nil, .nil⟩
  | [], _ :: _, _, _, h, _ => by cases h
  | p :: ps, xs, j, l, hp, h => by
    cases hp with
    | cons h1 h2 =>
      rename_i x xs
      obtain ⟨i, ov⟩ := p
      obtain ⟨i', X⟩ := x
      simp only [bytesOf'] at h
      split at h
      · rename_i y ys hj hsc hr
        have := beq_of hj; subst this
        cases h
        obtain ⟨q0, cs, q1, q2⟩ := seq_bytes ps xs _ ys h2 hr
        have hov : ov = some (.c (.sc (.int .u8 y))) := by
          unfold scOf at hsc
          split at hsc
          · cases hsc; rfl
          · cases hsc
        have hX : srel ι (.int .u8 y) X := h1.2 _ hov
        have hX2 : crel ι (.sc (.int .u8 ((UInt8.ofNat y.toNat).toNat : Int))) X := by
          rw [u8_back (srel_fine (s := .int .u8 y) hX)]
          exact hX
        have hone := srel_one (ι := ι) (s := .int .u8 ((UInt8.ofNat y.toNat).toNat : Int)) hX2 trivial
        have : i = i' := h1.1
        subst this
        exact ⟨by simp [q0], [X] ++ cs, .cons hone.2 rfl q1, .cons ⟨hX2, hone⟩ q2⟩
      · cases h
theorem seq_strs : ∀ (ps : List (Nat × Option AVal)) (xs : List (Nat × Value)) (j : Nat) (l : List Str), parts ι ps xs → strsOf j ps = some l → l.length = ps.length ∧ ∃ cs, Seq 1 j xs cs ∧ krel ι (l.map fun x => Sc.str x) cs
  | [], [], j, l, _, h => by cases h; exact ⟨rfl, [], .nil, .nil⟩
  | [], _ :: _, _, _, h, _ => by cases h
  | p :: ps, xs, j, l, hp, h => by
    cases hp with
    | cons h1 h2 =>
      rename_i x xs
      obtain ⟨i, ov⟩ := p
      obtain ⟨i', X⟩ := x
      simp only [strsOf] at h
      split at h
      · rename_i y ys hj hsc hr
        have := beq_of hj; subst this
        cases h
        obtain ⟨q0, cs, q1, q2⟩ := seq_strs ps xs _ ys h2 hr
        have hov : ov = some (.c (.sc (.str y))) := by
          unfold scOf at hsc
          split at hsc
          · cases hsc; rfl
          · cases hsc
        have hX : srel ι (.str y) X := h1.2 _ hov
        have hone := srel_one hX trivial
        have : i = i' := h1.1
        subst this
        exact ⟨by simp [q0], [X] ++ cs, .cons hone.2 rfl q1, .cons ⟨hX, hone⟩ q2⟩
      · cases h
theorem seq_recs {fs : List Fk} : ∀ (ps : List (Nat × Option AVal)) (xs : List (Nat × Value)) (j : Nat) (l : List (Tup fs)), parts ι ps xs → recsOf fs j ps = some l → l.length = ps.length ∧ ∃ cs, Seq fs.length j xs cs ∧ krel ι (l.flatMap (tupSc fs)) cs
  | [], [], j, l, _, h => by cases h; exact ⟨rfl, [], .nil, .nil⟩
  | [], _ :: _, _, _, h, _ => by cases h
  | p :: ps, xs, j, l, hp, h => by
    cases hp with
    | cons h1 h2 =>
      rename_i x xs
      obtain ⟨i, ov⟩ := p
      obtain ⟨i', X⟩ := x
      simp only [recsOf] at h
      split at h
      · rename_i g hj
        have := beq_of hj; subst this
        split at h
        · rename_i ol hol
          split at h
          · rename_i u us hu hr
            cases h
            obtain ⟨q0, cs, q1, q2⟩ := seq_recs ps xs _ us h2 hr
            obtain ⟨hwg, ys, hX, hky⟩ := h1.2 _ rfl
            have : i = i' := h1.1
            subst this
            have htu := tupOf_spec _ _ _ hu
            rw [onesOf_flats hol, ← htu] at hky
            refine ⟨by simp [q0], ys ++ cs, .cons (by rw [show X = .agg ys.toArray from hX]; rfl) ?_ q1, ?_⟩
            · rw [krel_len hky, tupSc_len]
            · rw [List.flatMap_cons]; exact krel_append hky q2
          · cases h
        · cases h
      · cases h
theorem good_buildSlice (hs : HSim ι I nx hp w) {t e : TypeId} {len : Nat} {ps : Array (Nat × Operand)} (hop : o.op = .buildSlice t len ps) {qs : List (Nat × Option AVal)} (hq : parts ι qs (ps.toList.map fun p => (p.1, ρ p.2)))
    (he : elemOf' P t = some e) {g : Seg} (hg : evRow P e len qs = some g) {wd : Nat} (hzw : zeroW P e = some wd) (hle : len * wd ≤ 16777216) (hw0 : 0 < wd) (hgw : g.width = wd)
    (h : K (.s (.slice nx wd none none)) [(nx, some ⟨true, [g]⟩)] 1 = some r) : Good P o ρ ι I nx hp w K r := by
  have ht : P.underlying t = some (.slice e) := by
    unfold elemOf' at he
    split at he
    · rename_i hu; cases he; exact hu
    · cases he
  obtain ⟨i, z, hi, hz, hzs, hsz, hcell⟩ := zeroW_spec hzw
  have hex : ∀ X w', (Instr.buildSlice t len (ps.map fun p => (p.1, ρ p.2))).run P w = .ok X w' → (execOp ρ o).run P w = .ok (.value X) w' := by
    intro X w' hX
    unfold execOp
    rw [hop]
    simp only [Sem.run_bind, hX, Result.andThen_ok, Sem.run_pure]
  have hpl : (ps.map fun p => (p.1, ρ p.2)).toList = ps.toList.map fun p => (p.1, ρ p.2) := by simp
  have hxl : (ps.toList.map fun p => (p.1, ρ p.2)).length = qs.length := by
    exact (all2_len hq).symm
  have hrow : qs.length = len ∧ g.wf ∧ g.cnt = len ∧ lenG g = len ∧ ∃ cs, Seq wd 0 (ps.toList.map fun p => (p.1, ρ p.2)) cs ∧ krel ι g.flat cs := by
    unfold evRow at hg
    split at hg
    · rename_i k _ _ hl hk
      have := beq_of hl
      split at hg
      · rename_i xs hxs
        cases hg
        obtain ⟨q0, cs, q1, q2⟩ := seq_ints _ _ _ _ hq hxs
        have : wd = 1 := hgw.symm
        subst this
        exact ⟨beq_of hl, by simp [Seg.wf]; omega, rfl, by simp [lenG]; omega, cs, q1, q2⟩
      · cases hg
    · rename_i hl hk
      split at hg
      · rename_i xs hxs
        cases hg
        obtain ⟨q0, cs, q1, q2⟩ := seq_bytes _ _ _ _ hq hxs
        have : wd = 1 := hgw.symm
        subst this
        have := beq_of hl
        exact ⟨beq_of hl, by simp [Seg.wf]; omega, rfl, by simp [lenG]; omega, cs, q1, q2⟩
      · cases hg
    · rename_i hl hk
      split at hg
      · rename_i xs hxs
        cases hg
        obtain ⟨q0, cs, q1, q2⟩ := seq_strs _ _ _ _ hq hxs
        have : wd = 1 := hgw.symm
        subst this
        have := beq_of hl
        exact ⟨beq_of hl, by simp [Seg.wf]; omega, rfl, by simp [lenG]; omega, cs, q1, q2⟩
      · cases hg
    · rename_i fs _ _ hl hk
      split at hg
      · rename_i xs hxs
        cases hg
        obtain ⟨q0, cs, q1, q2⟩ := seq_recs _ _ _ _ hq hxs
        have : wd = fs.length := hgw.symm
        subst this
        have := beq_of hl
        exact ⟨beq_of hl, by simp [Seg.wf]; omega, rfl, by simp [lenG]; omega, cs, q1, q2⟩
      · cases hg
    · cases hg
  obtain ⟨r1, r2, r3, r4, cs, r5, r6⟩ := hrow
  have hcl := r5.len
  rw [hxl, r1] at hcl
  have hfl : g.flat.length = len * wd := by rw [Seg.flat_len r2, size_cnt g (by omega), r3, hgw]
  let C0 : Array Value := (Array.range (len * wd)).map (fun j => (if len * wd = 0 then #[] else z.cells)[j % (if len * wd = 0 then #[] else z.cells : Array Value).size]!)
  have hC0 : C0.size = len * wd := by simp [C0]
  have hfill := fill_seq (wd := wd) C0 r5 (by rw [hC0, hxl, r1]; simp)
  have hres : (C0.toList.take (0 * wd) ++ cs ++ C0.toList.drop ((0 + (ps.toList.map fun p => (p.1, ρ p.2)).length) * wd)).toArray = cs.toArray := by
    rw [hxl, r1]
    simp [hC0]
  rw [hres] at hfill
  refine good_new hs (g := [g]) (wfs_cons.2 ⟨r2, fun _ h => by cases h⟩) (C := cs.toArray) (e := e) (fr := (0, 0)) (cap := len) (wd := wd) (x := .slice (some ⟨w.heap.size, 0, none⟩) len len) (w' := w.alloc (.cells cs.toArray e)) ?_ (by simp [hcl]) (by intro o _; simp) ?_ rfl rfl rfl rfl h ?_ (hex _ _ ?_)
  · rw [flats_one, hfl]; simp [hcl]
  · intro j y hy
    rw [flats_one] at hy
    obtain ⟨v, a, b⟩ := krel_at r6 j y hy
    exact ⟨v, by simpa using a, b⟩
  · intro ι' _ h1
    have hlm : len ≤ maxL := by
      have := Nat.le_mul_of_pos_right len hw0
      simp only [maxL]; omega
    exact ⟨_, _, _, _, rfl, hlm, hw0, Nat.le_refl _, by simp, h1, fun _ => rfl, by rw [flats_one, hfl], .inr ⟨w.heap.size, rfl, rfl, fun _ => rfl⟩⟩
  · unfold Instr.buildSlice
    have hn : ¬ len * wd > 2 ^ 24 := by omega
    simp only [Sem.run_bind, run_und ht, Result.andThen_ok, cells_run hcell, if_neg hn, Sem.run_pure]
    by_cases h0 : len * wd = 0
    · have e1 : C0 = (Array.range (len * wd)).map (fun j => (#[] : Array Value)[j % (#[] : Array Value).size]!) := by simp [C0, h0]
      simp only [h0, if_true, Sem.run_bind, Sem.run_pure, Result.andThen_ok]
      rw [hpl]
      rw [e1, h0] at hfill
      rw [hfill]
      simp [newRow]
    · have e1 : C0 = (Array.range (len * wd)).map (fun j => z.cells[j % z.cells.size]!) := by simp [C0, h0]
      simp only [h0, if_false, Sem.run_bind, run_zero hi hz, Result.andThen_ok, Sem.run_pure]
      rw [hpl]
      rw [e1] at hfill
      rw [hfill]
      simp [newRow]
end
section
variable {R : Type} {P : Program} {o : Oper} {ρ : Operand → Value} {ι : Map} {I : Nat → Prop} {nx : Nat} {hp : Nat → Option Blk} {w : World} {K : AVal → Eff → Nat → Option R} {r : R}
theorem rep_at {α : Type} (l : List α) (m : Nat) (hm : 0 < l.length) : ∀ (n i : Nat) (x : α), ((List.replicate n l).flatten)[i]? = some x → l[i % l.length]? = some x ∧ i < n * l.length
  | 0, i, x, h => by simp at h
  | n + 1, i, x, h => by
    rw [List.replicate_succ, List.flatten_cons] at h
    by_cases hi : i < l.length
    · rw [List.getElem?_append_left hi] at h
      exact ⟨by rw [Nat.mod_eq_of_lt hi]; exact h, by rw [Nat.succ_mul]; omega⟩
    · rw [List.getElem?_append_right (by omega)] at h
      obtain ⟨a, b⟩ := rep_at l m hm n _ x h
      refine ⟨?_, by rw [Nat.succ_mul]; omega⟩
      rw [Nat.mod_eq_sub_mod (by omega)]
      exact a
theorem zeroRow_flat {e : TypeId} {n : Nat} {g : Seg} (h : zeroRow P e n = some g) : g.flat = (List.replicate n (elemZ g)).flatten ∧ g.wf ∧ lenG g = n ∧ g.cnt = n ∧ (elemZ g).length = g.width := by
  unfold zeroRow at h
  split at h
  · cases h; exact ⟨by simp [Seg.flat, elemZ], by simp [Seg.wf], by simp [lenG], rfl, rfl⟩
  · cases h; exact ⟨by simp [Seg.flat, elemZ], by simp [Seg.wf], by simp [lenG], rfl, rfl⟩
  · cases h; exact ⟨by simp [Seg.flat, elemZ], by simp [Seg.wf], by simp [lenG], rfl, rfl⟩
  · rename_i fs _ _ _
    cases h
    refine ⟨?_, by simp [Seg.wf], by simp [lenG], rfl, tupSc_len _ _⟩
    simp only [Seg.flat, elemZ]
    induction n with
    | zero => rfl
    | succ n ih => rw [List.replicate_succ, List.flatMap_cons, List.replicate_succ, List.flatten_cons, ih]
  · cases h
theorem wrap_small {n : Int} (h0 : 0 ≤ n) (h1 : n ≤ 281474976710656) : IntKind.i64.wrap n = n := by
  simp [IntKind.wrap, IntKind.signed, IntKind.bits]
  omega
theorem good_makeSlice (hs : HSim ι I nx hp w) {t e : TypeId} {lo co : Operand} (hop : o.op = .makeSlice t lo co) (he : elemOf' P t = some e) {k1 k2 : IntKind} {a b : Int} (hl : srel ι (.int k1 a) (ρ lo)) (hc : srel ι (.int k2 b) (ρ co))
    {by_ wd : Nat} (hby : bytesOf P e = some by_) (hwd : cells P e = some wd) {g : Seg} (hg : zeroRow P e a.toNat = some g) (hcond : (Nat.blt 0 wd && Nat.blt 0 by_ && sameZ P e g && Nat.beq g.width wd) = true)
    (h : gd (makeB b by_) (gd (leB a b.toNat) (K (.s (.slice nx wd none none)) [(nx, some ⟨true, [g]⟩)] 1)) = some r) : Good P o ρ ι I nx hp w K r := by
  have ht : P.underlying t = some (.slice e) := by
    unfold elemOf' at he
    split at he
    · rename_i hu; cases he; exact hu
    · cases he
  simp only [Bool.and_eq_true] at hcond
  obtain ⟨⟨⟨q1, q2⟩, q3⟩, q4⟩ := hcond
  have hw0 : 0 < wd := by simpa [Nat.blt_eq] using q1
  have hb0 : 0 < by_ := by simpa [Nat.blt_eq] using q2
  have hgw := beq_of q4
  obtain ⟨g1, g2⟩ := gd_some h
  obtain ⟨g3, g4⟩ := gd_some g2
  have hmk : 0 ≤ b ∧ (by_ : Int) * b ≤ 281474976710656 := by simpa [makeB] using g1
  have hab := leB_spec g3
  have hb1 : b ≤ 281474976710656 := by
    have h1 : (1 : Int) * b ≤ (by_ : Int) * b := Int.mul_le_mul_of_nonneg_right (by omega) hmk.1
    omega
  obtain ⟨z1, z2, z3, z4, z5⟩ := zeroRow_flat hg
  rw [hgw] at z5
  have hz : ∃ i z, P.info? e = some i ∧ i.zero = some z ∧ krel ι (elemZ g) z.cells.toList ∧ i.bytes = by_ := by
    unfold sameZ at q3
    split at q3
    · rename_i i hi
      split at q3
      · rename_i z hz
        exact ⟨i, z, hi, hz, sameScs_spec q3, by unfold bytesOf at hby; rw [hi] at hby; simpa using hby⟩
      · cases q3
    · cases q3
  obtain ⟨i, z, hi, hzv, hkz, hbi⟩ := hz
  have hzl : z.cells.size = wd := by have := krel_len hkz; rw [z5] at this; simpa using this
  have hex : ∀ X w', (Instr.makeSlice t (ρ lo) (ρ co)).run P w = .ok X w' → (execOp ρ o).run P w = .ok (.value X) w' := by
    intro X w' hX
    unfold execOp
    rw [hop]
    simp only [Sem.run_bind, hX, Result.andThen_ok, Sem.run_pure]
  obtain ⟨hl1, _⟩ := hl
  obtain ⟨hc1, _⟩ := hc
  let C : Array Value := (Array.range (b.toNat * wd)).map (fun j => z.cells[j % z.cells.size]!)
  have hC : C.size = b.toNat * wd := by simp [C]
  have hle : a.toNat ≤ b.toNat := by omega
  have hfl : g.flat.length = a.toNat * wd := by rw [Seg.flat_len z2, size_cnt g (by omega), z4, hgw]
  refine good_new hs (g := [g]) (wfs_cons.2 ⟨z2, fun _ h => by cases h⟩) (C := C) (e := e) (fr := (0, 0)) (cap := b.toNat) (wd := wd) (x := .slice (some ⟨w.heap.size, 0, none⟩) a.toNat b.toNat) (w' := w.alloc (.cells C e)) ?_ (by rw [hC]; exact Nat.le_refl _) (by intro o _; simp) ?_ rfl rfl rfl rfl g4 ?_ (hex _ _ ?_)
  · rw [flats_one, hfl, hC]; exact Nat.mul_le_mul_right _ hle
  · intro j y hy
    rw [flats_one, z1] at hy
    obtain ⟨p1, p2⟩ := rep_at (elemZ g) 0 (by omega) _ _ _ hy
    rw [z5] at p1 p2
    obtain ⟨v, v1, v2⟩ := krel_at hkz _ _ p1
    refine ⟨v, ?_, v2⟩
    have hj : j < b.toNat * wd := Nat.lt_of_lt_of_le p2 (Nat.mul_le_mul_right _ hle)
    have hjm : j % wd < z.cells.size := by rw [hzl]; exact Nat.mod_lt _ hw0
    simp only [C]
    rw [Array.getElem?_map, Array.getElem?_range, if_pos hj]
    simp only [Option.map_some, hzl]
    rw [getElem!_pos z.cells (j % wd) hjm]
    rw [Array.getElem?_toList, Array.getElem?_eq_getElem hjm] at v1
    exact v1
  · intro ι' _ h1
    refine ⟨_, _, _, _, rfl, by simp only [maxL]; omega, hw0, hle, by simp, h1, fun _ => rfl, ?_, .inr ⟨w.heap.size, rfl, rfl, fun _ => rfl⟩⟩
    rw [flats_one, hfl]
  · have hwa := wrap_small hab.1 (show a ≤ 281474976710656 by omega)
    have hwb := wrap_small hmk.1 hb1
    have ht1 : (b < 0) = False := by simp; omega
    have htl : ¬ ((b < 0 ∨ 281474976710656 < (i.bytes : Int) * b) ∨ a < 0 ∨ b < a) := by rw [hbi]; omega
    unfold Instr.makeSlice
    simp only [Sem.run_bind, run_und ht, Result.andThen_ok, hl1, hc1, asInt, asIntOf, Sem.run_pure, run_info hi, hwa, hwb]
    rw [if_neg (by simp; omega)]
    simp only [Sem.run_pure, Result.andThen_ok, run_askRoom, Sem.run_bind, cells_run hwd]
    by_cases h0 : b.toNat * wd = 0
    · have e1 : C = (Array.range (b.toNat * wd)).map (fun j => (#[] : Array Value)[j % (#[] : Array Value).size]!) := by simp [C, h0]
      simp only [h0, if_true, Sem.run_pure, Result.andThen_ok]
      rw [h0] at e1
      simp [newRow, e1]
    · simp only [h0, if_false, Sem.run_bind, run_zero hi hzv, Result.andThen_ok, Sem.run_pure]
      simp [newRow, C]
end
class Amb where
  ok : (Nat → Prop) → World → Prop
  fr : ∀ {I : Nat → Prop} {w : World} {I' : Nat → Prop} {w' : World}, ok I w → Fr I w I' w' → ok I' w'
  
  sub : ∀ {I I' : Nat → Prop} {w : World}, ok I w → (∀ k, I' k → I k) → ok I' w
def CallT [Amb] (P : Program) (g : FuncId) (args : List AVal) (hp : Nat → Option Blk) (nx : Nat) (Q : AVal → Eff → Nat → Prop) : Prop :=
  (∃ fn, P.funcs[g]? = some fn ∧ (fn.name == "runtime.NumGoroutine") = false ∧ fn.body.isSome = true) ∧
  ∀ (ι : Map) (I : Nat → Prop) (w : World) (xs : List Value), All2 (vrel ι) args xs → HSim ι I nx hp w → Amb.ok I w →
    Calls P g xs.toArray w fun e w' => ∃ v E cnt x ι' I', Q v E cnt ∧ e = .returned x ∧ vrel ι' v x ∧ HSim ι' I' (nx + cnt) (appE E hp) w' ∧ Map.up nx ι ι' ∧ Fr I w I' w'
def CallE [Amb] (P : Program) (g : FuncId) (args : List AVal) (hp : Nat → Option Blk) (nx : Nat) (Q : AVal → Eff → Nat → Prop) : Prop :=
  ∀ (ι : Map) (I : Nat → Prop) (w : World) (xs : List Value), All2 (vrel ι) args xs → HSim ι I nx hp w → Amb.ok I w →
    ∃ v E cnt x w' ι' I', Q v E cnt ∧ (callFunc g xs.toArray).run P w = .ok (.value x) w' ∧ vrel ι' v x ∧ HSim ι' I' (nx + cnt) (appE E hp) w' ∧ Map.up nx ι ι' ∧ Fr I w I' w'
def CallsOK [Amb] (P : Program) (Γ : CallO) : Prop :=
  ∀ (R : Type) (g : FuncId) (args : List AVal) (hp : Nat → Option Blk) (nx : Nat) (K : AVal → Eff → Nat → Option R) (r : R), Γ R g args hp nx K = some r →
    CallT P g args hp nx (fun v E cnt => K v E cnt = some r) ∨ CallE P g args hp nx (fun v E cnt => K v E cnt = some r)
structure ASim (ι : Map) (nt : Nat) (tm : Nat → Option AVal) (a : Act) : Prop where
  defers : a.defers = []
  size : a.tmps.size = nt
  vals : ∀ t v, tm t = some v → ∃ x, a.tmps[t]? = some x ∧ vrel ι v x
theorem ASim.mono {ι κ : Map} {nt : Nat} {tm : Nat → Option AVal} {a : Act} (h : ASim ι nt tm a) (hle : ι.le κ) : ASim κ nt tm a :=
  ⟨h.defers, h.size, fun t v ht => let ⟨x, b, c⟩ := h.vals t v ht; ⟨x, b, vrel_mono hle c⟩⟩
theorem constVal_spec {ι : Map} {c : Value} {v : AVal} (h : constVal c = some v) : vrel ι v c := by
  unfold constVal at h
  split at h
  · cases h; rfl
  · split at h
    · rename_i hf; cases h; exact ⟨rfl, fitsB_fits hf⟩
    · cases h
  · split at h
    · rename_i s hs
      cases h
      exact ⟨by simp, Nat.le_of_ble_eq_true hs⟩
    · cases h
  · cases h; rfl
  · cases h; rfl
  · cases h; rfl
  · cases h; rfl
  · cases h; exact .inl ⟨rfl, rfl⟩
  · cases h
theorem opnd_spec {ι : Map} {nt : Nat} {tm : Nat → Option AVal} {a : Act} (h : ASim ι nt tm a) {x : Operand} {v : AVal} (hx : evOpnd tm x = some v) : vrel ι v (a.eval x) := by
  cases x with
  | tmp t =>
    obtain ⟨y, h1, h2⟩ := h.vals t v hx
    simp only [Act.eval, Array.getD_eq_getD_getElem?, h1]
    exact h2
  | const c => exact constVal_spec hx
  | func f => cases hx; exact ⟨[], rfl, .nil⟩
  | global g => cases hx
theorem scOf_spec {v : Option AVal} {s : Sc} (h : scOf v = some s) : v = some (.s s) := by
  unfold scOf at h
  split at h
  · cases h; rfl
  · cases h
theorem opList_spec {ι : Map} {nt : Nat} {tm : Nat → Option AVal} {a : Act} (h : ASim ι nt tm a) : ∀ {l : List Operand} {vs : List AVal}, opList tm l = some vs → All2 (vrel ι) vs (l.map a.eval)
  | [], vs, hl => by cases hl; exact .nil
  | x :: l, vs, hl => by
    simp only [opList] at hl
    split at hl
    · rename_i v vs' h1 h2
      cases hl
      exact .cons (opnd_spec h h1) (opList_spec h h2)
    · cases hl
theorem parts_spec {ι : Map} {nt : Nat} {tm : Nat → Option AVal} {a : Act} (h : ASim ι nt tm a) : ∀ (l : List (Nat × Operand)), parts ι (l.map fun p => (p.1, evOpnd tm p.2)) (l.map fun p => (p.1, a.eval p.2))
  | [] => .nil
  | p :: l => .cons ⟨rfl, fun v hv => opnd_spec h hv⟩ (parts_spec h l)
theorem bound_spec {ι : Map} {nt : Nat} {tm : Nat → Option AVal} {a : Act} (h : ASim ι nt tm a) {x : Option Operand} {n : Option Int} (hx : bound tm x = some n) : brel n (x.map a.eval) := by
  unfold bound at hx
  split at hx
  · cases hx; rfl
  · split at hx
    · rename_i k m hv
      cases hx
      exact ⟨k, by rw [Option.map_some, (opnd_spec h hv : srel ι (.int k m) _).1]⟩
    · cases hx
def OpOK {R : Type} (P : Program) (o : Oper) (a : Act) (w : World) (ι : Map) (I : Nat → Prop) (nx : Nat) (hp : Nat → Option Blk) (K : AVal → Eff → Nat → Option R) (r : R) : Prop :=
  ∀ (next : Act → World → Prop) (Q : Exit → Act → World → Prop),
    (∀ v E cnt x w' ι' I', K v E cnt = some r → vrel ι' v x → HSim ι' I' (nx + cnt) (appE E hp) w' → Map.up nx ι ι' → Fr I w I' w' → next (a.put o.dst x) w') → o.wp P a w next Q
section
variable {R : Type} {P : Program} {Γ : CallO} {o : Oper} {a : Act} {nt : Nat} {tm : Nat → Option AVal} {ι : Map} {I : Nat → Prop} {nx : Nat} {hp : Nat → Option Blk} {w : World} {K : AVal → Eff → Nat → Option R} {r : R}
theorem ok_of_good (h : Good P o a.eval ι I nx hp w K r) : OpOK P o a w ι I nx hp K r := by
  intro next Q hn
  obtain ⟨v, E, cnt, x, w', ι', I', h1, h2, h3, h4, h5, h6⟩ := h
  exact wp_of_res h6 (hn v E cnt x w' ι' I' h1 h2 h3 h4 h5)
theorem capsOf_spec {ι : Map} : ∀ {vs : List AVal} {xs : List Value} {l : List Nat}, All2 (vrel ι) vs xs → evOp.capsOf vs = some l →
    All2 (fun n x => ∃ l b, ι n = some l ∧ l.blk = some b ∧ x = Value.pointer (some ⟨b, l.off, none⟩) ∧ 0 < l.len) l xs
  | [], _, _, h, hl => by cases h; cases hl; exact .nil
  | v :: vs, _, l, h, hl => by
    cases h with
    | cons h1 h2 =>
      unfold evOp.capsOf at hl
      split at hl
      · rename_i heq; cases heq
      · rename_i n r' heq
        cases heq
        split at hl
        · rename_i l' hl'
          cases hl
          obtain ⟨lo, b, p1, p2, p3, p4⟩ := h1
          exact .cons ⟨lo, b, p1, p2, by rw [p3]; simp, by simpa using p4⟩ (capsOf_spec h2 hl')
        · cases hl
      · cases hl
theorem caps_args {ι : Map} : ∀ {caps : List Nat} {xs : List Value}, All2 (fun n x => ∃ l b, ι n = some l ∧ l.blk = some b ∧ x = Value.pointer (some ⟨b, l.off, none⟩) ∧ 0 < l.len) caps xs →
    All2 (vrel ι) (caps.map fun n => AVal.s (.ptr n 0 0 0 0)) xs
  | [], _, h => by cases h; exact .nil
  | n :: caps, _, h => by
    cases h with
    | cons h1 h2 =>
      obtain ⟨lo, b, p1, p2, p3, p4⟩ := h1
      exact .cons ⟨lo, b, p1, p2, by rw [p3]; simp, by simpa using p4⟩ (caps_args h2)
theorem all2_append {α β : Type} {Q : α → β → Prop} {l l' : List α} {m m' : List β} (h : All2 Q l m) (h' : All2 Q l' m') : All2 Q (l ++ l') (m ++ m') := by
  induction h with
  | nil => exact h'
  | cons a _ ih => exact .cons a ih
theorem ok_call [Amb] (hΓ : CallsOK P Γ) (ha : ASim ι nt tm a) (hs : HSim ι I nx hp w) (hA : Amb.ok I w) {c : Call} (ho : o.op = .call c) {f : Operand} (hc : c.callee = .value f) {vs : List AVal} (hvs : opList tm c.args.toList = some vs) {g : FuncId} {caps : List Nat}
    (hf : evOpnd tm f = some (.s (.fn g caps))) (h : Γ R g (vs ++ caps.map fun n => .s (.ptr n 0 0 0 0)) hp nx K = some r) : OpOK P o a w ι I nx hp K r := by
  intro next Q hn
  obtain ⟨xs, hx1, hx2⟩ := opnd_spec ha hf
  have hargs := opList_spec ha hvs
  have hall := all2_append hargs (caps_args hx2)
  have heq : (List.map a.eval c.args.toList ++ xs).toArray = c.args.map a.eval ++ xs.toArray := by
    apply Array.ext'
    simp
  rcases hΓ R g _ hp nx K r h with ⟨⟨fn, f1, f2, f3⟩, hcall⟩ | hcall
  · have hrun := hcall ι I w _ hall hs hA
    have hexe : (execOp a.eval o).run P w = .ok (.enter g ((c.args.map a.eval) ++ xs.toArray)) w := by
      unfold execOp
      rw [ho]
      simp only [resolve, hc, Sem.run_bind, hx1, Deferred.ofValue, Sem.run_pure, Result.andThen_ok, invoke, callFunc, run_program, f1]
      have hb : fn.body.isNone = false := by cases hb : fn.body <;> simp_all
      rw [f2, hb]
      simp
    unfold Oper.wp
    rw [hexe, Oper.upon_enter]
    rw [heq] at hrun
    refine hrun.mono ?_
    rintro e w' ⟨v, E, cnt, x, ι', I', k1, rfl, k2, k3, k4, k5⟩
    exact hn v E cnt x w' ι' I' k1 k2 k3 k4 k5
  · obtain ⟨v, E, cnt, x, w', ι', I', k1, k0, k2, k3, k4, k5⟩ := hcall ι I w _ hall hs hA
    rw [heq] at k0
    have hexe : (execOp a.eval o).run P w = .ok (.value x) w' := by
      unfold execOp
      rw [ho]
      simp only [resolve, hc, Sem.run_bind, hx1, Deferred.ofValue, Sem.run_pure, Result.andThen_ok, invoke]
      simpa using k0
    unfold Oper.wp
    rw [hexe]
    exact hn v E cnt x w' ι' I' k1 k2 k3 k4 k5
end
def litSc : Sc → Option Lit
  | .bool b => some (.bool b)
  | .int k n => some (.int k n)
  | .str s => some (.string s)
  | _ => none
def kindL : Lit → Option Fk
  | .bool _ => some .bool
  | .int k _ => some (.int k)
  | .string _ => some .str
  | _ => none
theorem kindSc_lit {s : Sc} {k : Fk} (h : kindSc s = some k) : ∃ l, litSc s = some l ∧ kindL l = some k := by
  cases s <;> simp only [kindSc] at h <;> cases h
  · exact ⟨_, rfl, rfl⟩
  · exact ⟨_, rfl, rfl⟩
  · exact ⟨_, rfl, rfl⟩
def LitV (l : Lit) (v : Value) : Prop := match l with
  | .bool b => v = .bool b
  | .int k n => v = .int k n ∧ (Lit.int k n).wf = true
  | .string s => v = .string ⟨s.toArray⟩ ∧ s.length ≤ maxLen
  | _ => False
theorem litV_of {ι : Map} {s : Sc} {v : Value} {l : Lit} (h : srel ι s v) (hl : litSc s = some l) : LitV l v := by
  cases s <;> simp only [litSc] at hl <;> cases hl
  · exact h
  · obtain ⟨rfl, h2⟩ := h
    exact ⟨rfl, by simpa [Lit.wf, fits] using h2⟩
  · exact h
theorem kindsSeg_spec {g : Seg} {ks : List Fk} (hw : g.wf) (h : kindsSeg g = some ks) : All2 (fun s k => kindSc s = some k) g.flat ks := by
  have rep : ∀ {α : Type} (f : α → Sc) (k : Fk), (∀ x, kindSc (f x) = some k) → ∀ (xs : List α), All2 (fun s k => kindSc s = some k) (xs.map f) (List.replicate xs.length k) := by
    intro α f k hf xs
    induction xs with
    | nil => exact .nil
    | cons x xs ih => exact .cons (hf x) ih
  cases g with
  | one v =>
    simp only [kindsSeg] at h
    cases hk : kindSc v with
    | none => rw [hk] at h; cases h
    | some k => rw [hk] at h; cases h; exact .cons hk .nil
  | ints k xs n =>
    simp only [kindsSeg] at h
    cases h
    have : xs.length = n := hw
    subst this
    exact rep (fun x => Sc.int k x) _ (fun _ => rfl) xs
  | bytes xs n =>
    simp only [kindsSeg] at h
    cases h
    have : xs.length = n := hw
    subst this
    exact rep (fun b : UInt8 => Sc.int .u8 (b.toNat : Int)) _ (fun _ => rfl) xs
  | strs xs n =>
    simp only [kindsSeg] at h
    cases h
    have : xs.length = n := hw
    subst this
    exact rep (fun x => Sc.str x) _ (fun _ => rfl) xs
  | recs fs xs n => simp only [kindsSeg] at h; cases h
theorem all2_appQ {α β : Type} {R : α → β → Prop} {l l' : List α} {m m' : List β} (h : All2 R l m) (h' : All2 R l' m') : All2 R (l ++ l') (m ++ m') := by
  induction h with
  | nil => exact h'
  | cons a _ ih => exact .cons a ih
theorem kindsS_spec : ∀ {g : Segs} {ks : List Fk}, wfs g → kindsS g = some ks → All2 (fun s k => kindSc s = some k) (flats g) ks
  | [], ks, _, h => by cases h; exact .nil
  | a :: g, ks, hw, h => by
    simp only [kindsS] at h
    split at h
    · rename_i x y hx hy
      cases h
      show All2 _ (a.flat ++ flats g) (x ++ y)
      exact all2_appQ (kindsSeg_spec (hw a (by simp)) hx) (kindsS_spec (fun s hs => hw s (by simp [hs])) hy)
    · cases h
theorem lits_of {ι : Map} : ∀ {ss : List Sc} {ks : List Fk} {vs : List Value}, All2 (fun s k => kindSc s = some k) ss ks → krel ι ss vs → ∃ ls, ss.map litSc = ls.map some ∧ All2 (fun k l => kindL l = some k) ks ls ∧ All2 LitV ls vs
  | [], _, _, h, hk => by cases h; cases hk; exact ⟨[], rfl, .nil, .nil⟩
  | s :: ss, _, _, h, hk => by
    cases h with
    | cons h1 h2 =>
      cases hk with
      | cons k1 k2 =>
        obtain ⟨ls, a, b, c⟩ := lits_of h2 k2
        obtain ⟨l, l1, l2⟩ := kindSc_lit h1
        exact ⟨l :: ls, by simp [l1, a], .cons l2 b, .cons (litV_of k1.1 l1) c⟩
theorem all2_lenQ {α β : Type} {R : α → β → Prop} {l : List α} {m : List β} (h : All2 R l m) : l.length = m.length := by
  induction h with
  | nil => rfl
  | cons _ _ ih => simp [ih]
theorem all2_dropQ {α β : Type} {R : α → β → Prop} {l : List α} {m : List β} (h : All2 R l m) : ∀ n, All2 R (l.drop n) (m.drop n) := by
  induction h with
  | nil => intro n; simp; exact .nil
  | cons a h ih =>
    intro n
    cases n with
    | zero => exact .cons a h
    | succ n => exact ih n
theorem all2_takeQ {α β : Type} {R : α → β → Prop} {l : List α} {m : List β} (h : All2 R l m) : ∀ n, All2 R (l.take n) (m.take n) := by
  induction h with
  | nil => intro n; simp; exact .nil
  | cons a h ih =>
    intro n
    cases n with
    | zero => exact .nil
    | succ n => exact .cons a (ih n)
theorem beqK_eq' {j k : IntKind} (h : beqK j k = true) : j = k := by cases j <;> cases k <;> first | rfl | cases h
theorem chunksQ {α : Type} (w : Nat) : ∀ (n : Nat) (l : List α), l.length = n * w → ((List.range n).map fun i => (l.drop (i * w)).take w).flatten = l
  | 0, l, h => by
    have : l = [] := List.eq_nil_of_length_eq_zero (by omega)
    subst this; rfl
  | n + 1, l, h => by
    rw [List.range_succ_eq_map, List.map_cons, List.map_map, List.flatten_cons]
    have e : ((fun i => (l.drop (i * w)).take w) ∘ Nat.succ) = fun i => ((l.drop w).drop (i * w)).take w := by
      funext i
      simp only [Function.comp, List.drop_drop]
      congr 2
      rw [Nat.succ_mul, Nat.add_comm]
    rw [e, chunksQ w n (l.drop w) (by rw [List.length_drop, h, Nat.succ_mul]; omega)]
    simp
theorem mapM_allQ {α β : Type} {f : α → Option β} {g : α → β} : ∀ {l : List α}, (∀ a ∈ l, f a = some (g a)) → l.mapM f = some (l.map g)
  | [], _ => rfl
  | a :: l, h => by
    rw [List.mapM_cons, h a (by simp), mapM_allQ (fun b hb => h b (by simp [hb]))]
    rfl
theorem fields_flat {α : Type} {P : Program} : ∀ {fs : List Field} {o : Nat} {l : List α}, seqB P fs o = true → o + sumB P fs = l.length → (fs.map fun f => (l.drop f.offset).take (P.cellsOf f.type)).flatten = l.drop o
  | [], o, l, h, hl => by
    simp only [sumB, Nat.add_zero] at hl
    simp [hl]
  | f :: fs, o, l, h, hl => by
    simp only [seqB, Bool.and_eq_true] at h
    obtain ⟨h1, h2⟩ := h
    have h1 := beq_of h1
    simp only [sumB] at hl
    rw [List.map_cons, List.flatten_cons, fields_flat h2 (by omega), h1, ← List.drop_drop]
    exact List.take_append_drop _ _
theorem kindsOK_spec {P : Program} : ∀ {D : Nat} {t : TypeId} {ks : List Fk} {ls : List Lit} {vs : List Value}, kindsOK P D t ks = true → All2 (fun k l => kindL l = some k) ks ls → All2 LitV ls vs → P.keyLits D t vs = some ls
  | 0, t, ks, ls, vs, h, _, _ => by cases h
  | D + 1, t, ks, ls, vs, h, hk, hv => by
    unfold kindsOK at h
    split at h
    · rename_i hu
      cases hk with
      | cons k1 k2 =>
        cases k2
        cases hv with
        | cons v1 v2 =>
          cases v2
          rename_i l v
          cases l <;> simp only [kindL] at k1 <;> cases k1
          have : v = _ := v1
          subst this
          simp [Program.keyLits, hu]
    · rename_i q q' hu
      have := beqK_eq' h; subst this
      cases hk with
      | cons k1 k2 =>
        cases k2
        cases hv with
        | cons v1 v2 =>
          cases v2
          rename_i l v
          cases l <;> simp only [kindL] at k1 <;> cases k1
          obtain ⟨rfl, hw⟩ := v1
          simp [Program.keyLits, hu, hw]
    · rename_i hu
      cases hk with
      | cons k1 k2 =>
        cases k2
        cases hv with
        | cons v1 v2 =>
          cases v2
          rename_i l v
          cases l <;> simp only [kindL] at k1 <;> cases k1
          obtain ⟨rfl, hw⟩ := v1
          have : (⟨Array.mk _⟩ : ByteArray).size ≤ maxLen := hw
          simp [Program.keyLits, hu]
          simpa using this
    · rename_i ks' n e hu
      simp only [Bool.and_eq_true] at h
      obtain ⟨⟨h1, h2⟩, h3⟩ := h
      have h1 := beq_of h1
      have h2 := beq_of h2
      have hl1 := all2_lenQ hk
      have hl2 := all2_lenQ hv
      unfold Program.keyLits
      simp only [hu]
      rw [if_pos (by omega)]
      have hall : ∀ i ∈ List.range n, P.keyLits D e ((vs.drop (i * P.cellsOf e)).take (P.cellsOf e)) = some ((ls.drop (i * P.cellsOf e)).take (P.cellsOf e)) := by
        intro i hi
        have := List.all_eq_true.1 h3 i (by simpa using hi)
        exact kindsOK_spec this (all2_takeQ (all2_dropQ hk _) _) (all2_takeQ (all2_dropQ hv _) _)
      rw [mapM_allQ hall, Option.map_some, chunksQ (P.cellsOf e) n ls (by omega)]
    · rename_i ks' fs hu
      simp only [Bool.and_eq_true] at h
      obtain ⟨⟨⟨⟨h1, h2⟩, h3⟩, h4⟩, h5⟩ := h
      have h1 := beq_of h1
      have h5 := beq_of h5
      have hl1 := all2_lenQ hk
      have hl2 := all2_lenQ hv
      unfold Program.keyLits
      simp only [hu]
      rw [if_pos ⟨by omega, h2⟩]
      have hall : ∀ f ∈ fs.toList, P.keyLits D f.type ((vs.drop f.offset).take (P.cellsOf f.type)) = some ((ls.drop f.offset).take (P.cellsOf f.type)) := by
        intro f hf
        have := List.all_eq_true.1 h3 f hf
        exact kindsOK_spec this (all2_takeQ (all2_dropQ hk _) _) (all2_takeQ (all2_dropQ hv _) _)
      rw [mapM_allQ hall, Option.map_some, fields_flat h4 (by omega)]
      rfl
    · cases h
theorem eqSeg_spec {a b : Seg} {r : Bool} (ha : a.wf) (hb : b.wf) (h : eqSeg a b = some r) : a.flat.length = b.flat.length ∧ (r = true ↔ a.flat = b.flat) := by
  cases a with
  | one v =>
    cases b with
    | one u =>
      cases v with
      | int j x =>
        cases u with
        | int k y =>
          simp only [eqSeg] at h
          split at h
          · rename_i hk
            cases h
            have := beqK_eq' hk; subst this
            exact ⟨rfl, by simp [Seg.flat, eqI]⟩
          · cases h
        | _ => cases h
      | str x =>
        cases u with
        | str y => simp only [eqSeg] at h; cases h; exact ⟨rfl, by simp [Seg.flat, eqS]⟩
        | _ => cases h
      | bool x =>
        cases u with
        | bool y => simp only [eqSeg] at h; cases h; exact ⟨rfl, by simp [Seg.flat]⟩
        | _ => cases h
      | _ => cases u <;> cases h
    | _ => cases v <;> cases h
  | ints j xs n =>
    cases b with
    | ints k ys m =>
      simp only [eqSeg] at h
      split at h
      · rename_i hk hn
        cases h
        have := beqK_eq' hk; subst this
        have e := beq_of hn
        have e1 : xs.length = n := ha
        have e2 : ys.length = m := hb
        refine ⟨by simp [Seg.flat]; omega, ?_⟩
        simp only [Seg.flat, eqL, decide_eq_true_eq]
        exact ⟨fun e => by rw [e], fun e => (List.map_inj_right (fun x y h => by cases h; rfl)).1 e⟩
      · cases h
    | _ => cases h
  | bytes xs n =>
    cases b with
    | bytes ys m =>
      simp only [eqSeg] at h
      split at h
      · rename_i hn
        cases h
        have e := beq_of hn
        have e1 : xs.length = n := ha
        have e2 : ys.length = m := hb
        refine ⟨by simp [Seg.flat]; omega, ?_⟩
        simp only [Seg.flat, eqS, decide_eq_true_eq]
        refine ⟨fun e => by rw [e], fun e => (List.map_inj_right (fun x y h => ?_)).1 e⟩
        simp only [Sc.int.injEq, true_and] at h
        exact UInt8.toNat_inj.1 (by omega)
      · cases h
    | _ => cases h
  | strs xs n =>
    cases b with
    | strs ys m =>
      simp only [eqSeg] at h
      split at h
      · rename_i hn
        cases h
        have e := beq_of hn
        have e1 : xs.length = n := ha
        have e2 : ys.length = m := hb
        refine ⟨by simp [Seg.flat]; omega, ?_⟩
        simp only [Seg.flat, eqBs, decide_eq_true_eq]
        exact ⟨fun e => by rw [e], fun e => (List.map_inj_right (fun x y h => by cases h; rfl)).1 e⟩
      · cases h
    | _ => cases h
  | recs fs xs n => cases b <;> cases h
theorem eqSegs_spec : ∀ {a b : Segs} {r : Bool}, wfs a → wfs b → eqSegs a b = some r → (flats a).length = (flats b).length ∧ (r = true ↔ flats a = flats b)
  | [], [], r, _, _, h => by cases h; exact ⟨rfl, by simp⟩
  | [], b :: q, r, _, _, h => by cases h
  | a :: p, [], r, _, _, h => by unfold eqSegs at h; cases p <;> cases h
  | a :: p, b :: q, r, ha, hb, h => by
    have key : ∀ {x y : Bool}, eqSeg a b = some x → (flats p).length = (flats q).length ∧ (y = true ↔ flats p = flats q) → (flats (a :: p)).length = (flats (b :: q)).length ∧ ((x && y) = true ↔ flats (a :: p) = flats (b :: q)) := by
      intro x y hx hy
      obtain ⟨l1, i1⟩ := eqSeg_spec (ha a (by simp)) (hb b (by simp)) hx
      obtain ⟨l2, i2⟩ := hy
      have e1 : flats (a :: p) = a.flat ++ flats p := rfl
      have e2 : flats (b :: q) = b.flat ++ flats q := rfl
      rw [e1, e2]
      refine ⟨by simp [l1, l2], ?_⟩
      rw [Bool.and_eq_true, i1, i2]
      exact ⟨fun ⟨e, f⟩ => by rw [e, f], fun e => List.append_inj e l1⟩
    have htl : ∀ {y : Bool}, eqSegs p q = some y → (flats p).length = (flats q).length ∧ (y = true ↔ flats p = flats q) := fun hy => eqSegs_spec (fun s hs => ha s (by simp [hs])) (fun s hs => hb s (by simp [hs])) hy
    unfold eqSegs at h
    split at h
    · rename_i heq; cases heq
    · rename_i x y heq1 heq2
      cases heq1; cases heq2
      have := key (y := true) h ⟨rfl, by simp⟩
      rwa [Bool.and_true] at this
    · rename_i a' p' b' q' _ heq1 heq2
      cases heq1; cases heq2
      split at h
      · rename_i x y hx hy
        cases h
        exact key hx (htl hy)
      · cases h
    · cases h
theorem lits_inj : ∀ {xs ys : List Sc} {lx ly : List Lit}, xs.map litSc = lx.map some → ys.map litSc = ly.map some → (lx = ly ↔ xs = ys)
  | [], ys, lx, ly, hx, hy => by
    cases lx with
    | cons _ _ => cases hx
    | nil =>
      cases ys with
      | nil =>
        cases ly with
        | nil => simp
        | cons _ _ => cases hy
      | cons _ _ =>
        cases ly with
        | nil => cases hy
        | cons _ _ => simp
  | x :: xs, ys, lx, ly, hx, hy => by
    cases lx with
    | nil => cases hx
    | cons l lx =>
      cases ys with
      | nil =>
        cases ly with
        | nil => simp
        | cons _ _ => cases hy
      | cons y ys =>
        cases ly with
        | nil => cases hy
        | cons m ly =>
          simp only [List.map_cons, List.cons.injEq] at hx hy ⊢
          rw [lits_inj hx.2 hy.2]
          have : l = m ↔ x = y := by
            have h1 := hx.1
            have h2 := hy.1
            cases x <;> simp only [litSc] at h1 <;> cases h1 <;> cases y <;> simp only [litSc] at h2 <;> cases h2 <;> simp
          rw [this]
theorem eqAgg_sound {ι : Map} {P : Program} {t : TypeId} {a b : Segs} {r : Bool} {X Y : Value} (hX : crel ι (.agg a) X) (hY : crel ι (.agg b) Y) (hc : eqTyB P t a b = true) (h : eqSegs a b = some r) (w : World) (x y : Operand) :
    (∀ op, (eqGuard op t x y X Y).run P w = .ok () w) ∧ (Op.equalIn 10000 t X Y).run P w = .ok r w := by
  obtain ⟨wa, cs, rfl, ka⟩ := hX
  obtain ⟨wb, ds, rfl, kb⟩ := hY
  unfold eqTyB at hc
  simp only [Bool.and_eq_true, Bool.not_eq_true'] at hc
  obtain ⟨⟨h1, h2⟩, h3⟩ := hc
  refine ⟨fun op => run_eqGuard_agg w op t x y _ _ h2, ?_⟩
  split at h3
  · rename_i ks js hks hjs
    simp only [Bool.and_eq_true] at h3
    obtain ⟨⟨h4, h5⟩, h6⟩ := h3
    obtain ⟨la, a1, a2, a3⟩ := lits_of (kindsS_spec wa hks) ka
    obtain ⟨lb, b1, b2, b3⟩ := lits_of (kindsS_spec wb hjs) kb
    have e1 := kindsOK_spec h4 a2 a3
    have e2 := kindsOK_spec h5 b2 b3
    have hform : ∀ {cs : List Value} {l : List Lit}, P.keyLits 16 t cs = some l → (Value.agg cs.toArray).formed P t = true := by
      intro cs l hl
      unfold Value.formed
      unfold Program.keyLits at hl
      split at h6
      · rename_i hu
        simp only [hu] at hl ⊢
        split at hl
        · rename_i hlen
          simpa using hlen
        · cases hl
      · rename_i hu
        simp only [hu] at hl ⊢
        split at hl
        · rename_i hlen
          simpa using hlen.1
        · cases hl
      · cases h6
    have c1 : (Value.agg cs.toArray).cells.toList = cs := by simp [Value.cells]
    have c2 : (Value.agg ds.toArray).cells.toList = ds := by simp [Value.cells]
    obtain ⟨r', hr, hiff⟩ := run_equalIn_deep (P := P) 9984 16 t h1 w 16 16 (.agg cs.toArray) (.agg ds.toArray) la lb (hform e1) (hform e2) (by rw [c1]; exact e1) (by rw [c2]; exact e2)
    have : r' = r := by
      have i1 := (eqSegs_spec wa wb h).2
      have i2 := lits_inj a1 b1
      rw [Bool.eq_iff_iff, hiff, i1, i2]
    subst this
    exact hr
  · cases h3
section
variable {R : Type} {P : Program} {o : Oper} {ρ : Operand → Value} {ι : Map} {I : Nat → Prop} {nx : Nat} {hp : Nat → Option Blk} {w : World} {K : AVal → Eff → Nat → Option R} {r : R}
theorem ldAgg_spec {b : Segs} {base ix wd f size : Nat} {K' : Segs → Option R} (hwf : wfs b) (h4 : base + ix * wd + f < (flats b).length) (h : ldAgg b base ix wd f size K' = some r) :
    ∃ g, wfs g ∧ flats g = ((flats b).drop (base + ix * wd + f)).take size ∧ base + ix * wd + f + size ≤ (flats b).length ∧ K' g = some r := by
  unfold ldAgg at h
  split at h
  · rename_i hw0
    have := beq_of hw0; subst this
    split at h
    · rename_i p q hf0 hsp
      have := beq_of hf0; subst this
      split at h
      · rename_i x z htk
        obtain ⟨e1, s1⟩ := splitS_spec _ _ _ _ hsp
        obtain ⟨e2, s2⟩ := takeS_spec _ _ _ _ htk
        subst e2
        rw [e1] at hwf
        obtain ⟨wp, wq⟩ := wfs_append.1 hwf
        obtain ⟨wx, wz⟩ := wfs_append.1 wq
        have lp := flats_len wp
        have lx := flats_len wx
        have e3 : flats b = flats p ++ (flats x ++ flats z) := by rw [e1, flats_append, flats_append]
        have e4 : base + ix * 0 + 0 = (flats p).length := by omega
        refine ⟨x, wx, ?_, ?_, h⟩
        · rw [e3, e4, List.drop_left, List.take_append_of_le_length (by omega), List.take_of_length_le (by omega)]
        · rw [e3, e4]; simp; omega
      · cases h
    · cases h
  · split at h
    · rename_i fs xs m
      split at h
      · rename_i h5 h6 h7 h8
        have := beq_of h5; subst this
        have := beq_of h6; subst this
        have := beq_of h7; subst this
        have := beq_of h8; subst this
        have hx : xs.length = m := (wfs_cons.1 hwf).1
        have hfl : flats [Seg.recs fs xs m] = xs.flatMap (tupSc fs) := by rw [flats_one]; rfl
        rw [hfl, flatMap_len _ fs.length (tupSc_len fs)] at h4
        have hix : ix < xs.length := by
          rcases Nat.lt_or_ge ix xs.length with hh | hh
          · exact hh
          · exfalso
            have := Nat.mul_le_mul_right fs.length hh
            omega
        have hle : ix * fs.length + fs.length ≤ xs.length * fs.length := by
          have := Nat.mul_le_mul_right fs.length (Nat.succ_le_of_lt hix)
          rwa [Nat.succ_mul] at this
        have hones : ∀ l : List Sc, flats (l.map Seg.one) = l ∧ wfs (l.map Seg.one) := by
          intro l
          induction l with
          | nil => exact ⟨rfl, fun _ h => by cases h⟩
          | cons a l ih => exact ⟨by rw [List.map_cons, flats_cons, ih.1]; rfl, wfs_cons.2 ⟨trivial, ih.2⟩⟩
        refine ⟨_, (hones _).2, ?_, ?_, h⟩
        · rw [(hones _).1, hfl]
          apply List.ext_getElem?
          intro j
          rw [List.getElem?_take]
          split
          · rename_i hj
            rw [List.getElem?_drop]
            have : 0 + ix * fs.length + 0 + j = ix * fs.length + j := by omega
            rw [this, flatMap_at _ fs.length (tupSc_len fs) _ _ _ hj, List.getElem?_eq_getElem hix]
            simp [List.getD, List.getElem?_eq_getElem hix]
          · rename_i hj
            rw [List.getElem?_eq_none (by rw [tupSc_len]; omega)]
        · rw [hfl, flatMap_len _ fs.length (tupSc_len fs)]; omega
      · cases h
    · rename_i q _
      split at h
      · rename_i x hc hx
        simp only [Bool.and_eq_true] at hc
        obtain ⟨⟨c1, c2⟩, c3, c4⟩ := hc
        have := beq_of c1; subst this
        have c2 := beq_of c2
        have := beq_of c3; subst this
        have := beq_of c4; subst this
        obtain ⟨g1, g2⟩ := gd_some h
        have hle : ix + size ≤ q.cnt := Nat.le_of_ble_eq_true g1
        have hq := (wfs_cons.1 hwf).1
        obtain ⟨s1, s2, s3, s4, s5, _⟩ := subG_spec hq hle hx
        refine ⟨[x], wfs_cons.2 ⟨s1, fun _ h => by cases h⟩, ?_, ?_, g2⟩
        · rw [flats_one, flats_one, s5, c2, Nat.mul_one, Nat.mul_one, Nat.zero_add, Nat.add_zero]
        · rw [flats_one, Seg.flat_len hq, size_cnt q (by omega), c2]; omega
      · cases h
    · cases h
theorem krel_get {l : List Sc} {cs : List Value} (h : krel ι l cs) : ∀ {i : Nat} {x : Sc}, l[i]? = some x → ∃ v, cs[i]? = some v ∧ srel ι x v := by
  unfold krel at h
  induction h with
  | nil => intro i x hx; simp at hx
  | cons a _ ih =>
    intro i x hx
    cases i with
    | zero => simp at hx; subst hx; exact ⟨_, rfl, a.1⟩
    | succ i => exact ih (by simpa using hx)
theorem krel_part {l : List Sc} {cs : List Value} (h : krel ι l cs) : ∀ (s m : Nat), krel ι ((l.drop s).take m) ((cs.drop s).take m) := by
  have hd : ∀ (s : Nat) {l : List Sc} {cs : List Value}, krel ι l cs → krel ι (l.drop s) (cs.drop s) := by
    intro s
    induction s with
    | zero => exact fun h => h
    | succ s ih =>
      intro l cs h
      cases h with
      | nil => exact .nil
      | cons _ h => exact ih h
  have ht : ∀ (m : Nat) {l : List Sc} {cs : List Value}, krel ι l cs → krel ι (l.take m) (cs.take m) := by
    intro m
    induction m with
    | zero => intro l cs _; simp; exact .nil
    | succ m ih =>
      intro l cs h
      cases h with
      | nil => exact .nil
      | cons a h => exact .cons a (ih h)
  exact fun s m => ht m (hd s h)
theorem good_indexAgg (hs : HSim ι I nx hp w) {t : TypeId} {x ixo : Operand} (ho : o.op = .index t x ixo) {rr : Seg} (hx : crel ι (.agg [rr]) (ρ x)) {ki : IntKind} {i : Int} (hi : srel ι (.int ki i) (ρ ixo))
    {len : Nat} {e : TypeId} (hu : P.underlying t = some (.array len e)) {wd : Nat} (hwd : cells P e = some wd) (hc : (!rr.isOne && Nat.beq rr.cnt len && (Nat.beq rr.width wd && Nat.blt 0 wd)) = true)
    (h : gd (inB i len) (match aggOf P e with
      | some true => ldAgg [rr] 0 i.toNat wd 0 wd fun g => K (.g g) [] 0
      | some false => ldSc [rr] 0 i.toNat wd 0 fun v => K (.s v) [] 0
      | none => none) = some r) : Good P o ρ ι I nx hp w K r := by
  obtain ⟨hwf, cs, hX, hk⟩ := hx
  obtain ⟨hi1, _⟩ := hi
  obtain ⟨g1, g2⟩ := gd_some h
  obtain ⟨a, b⟩ := inB_spec g1
  rw [Bool.and_eq_true, Bool.and_eq_true, Bool.and_eq_true] at hc
  obtain ⟨⟨c1, c2⟩, c3, c4⟩ := hc
  have c2 := beq_of c2
  have c3 := beq_of c3
  have c4 : 0 < wd := by simpa [Nat.blt_eq] using c4
  have hlt : i.toNat < len := by omega
  have hrr := (wfs_cons.1 hwf).1
  have hfl : (flats [rr]).length = len * wd := by
    rw [flats_one, Seg.flat_len hrr, ← c2, ← c3]
    cases rr with
    | one v => simp [Seg.isOne] at c1
    | recs fs xs n => simp [Seg.size, Seg.cnt, Seg.width]
    | _ => simp [Seg.size, Seg.cnt, Seg.width]
  have hin : i.toNat * wd + wd ≤ len * wd := by
    have := Nat.mul_le_mul_right wd (Nat.succ_le_of_lt hlt)
    rwa [Nat.succ_mul] at this
  have hidx : ∀ {y : Value}, (part e cs.toArray (i.toNat * wd)).run P w = .ok y w → (execOp ρ o).run P w = .ok (.value y) w := by
    intro y hy
    unfold execOp
    rw [ho]
    simp only [hX, hi1, Instr.index, Sem.run_bind, asIntOf, Sem.run_pure, Result.andThen_ok, run_und hu]
    rw [if_pos ⟨a, b⟩]
    simp only [Sem.run_bind, cells_run hwd, Result.andThen_ok, hy, Sem.run_pure]
  split at g2
  · rename_i hagg
    obtain ⟨g, wg, eg, le, hK⟩ := ldAgg_spec hwf (by rw [hfl]; omega) g2
    have hp1 : (part e cs.toArray (i.toNat * wd)).run P w = .ok (.agg (cs.toArray.extract (i.toNat * wd) (i.toNat * wd + wd))) w := by
      unfold part
      rw [Sem.run_bind, aggOf_run hagg]
      simp only [Result.andThen_ok, if_true, Sem.run_bind, cells_run hwd, Sem.run_pure]
    refine good_pure hs hK (x := .agg (cs.toArray.extract (i.toNat * wd) (i.toNat * wd + wd))) ⟨wg, (cs.drop (i.toNat * wd)).take wd, ?_, ?_⟩ (hidx hp1)
    · congr 1
      apply Array.ext'
      simp [List.extract_eq_take_drop]
    · rw [eg]
      have := krel_part hk (i.toNat * wd) wd
      rwa [show 0 + i.toNat * wd + 0 = i.toNat * wd by omega]
  · rename_i hagg
    obtain ⟨v, hv, hK⟩ := ldSc_spec hwf (by rw [hfl]; omega) g2
    obtain ⟨y, hy1, hy2⟩ := krel_get hk hv
    rw [show 0 + i.toNat * wd + 0 = i.toNat * wd by omega] at hy1
    refine good_pure hs hK (x := y) hy2 (hidx ?_)
    unfold part
    rw [Sem.run_bind, aggOf_run hagg]
    simp [hy1]
  · cases g2
theorem good_toArray (hs : HSim ι I nx hp w) {t : TypeId} {x : Operand} (ho : o.op = .sliceToArrayPointer t x) {n wd : Nat} {rr : Option (Nat × Nat)} {cap : Option Nat} (hx : srel ι (.slice n wd rr cap) (ρ x))
    {m : Nat} {e : TypeId} (hu : P.underlying t = some (.array m e)) {l' : Nat} (hl : lenSl hp (.slice n wd rr cap) = some l') {sz : Nat} (hm : (Nat.beq sz wd && Nat.blt 0 m) = true)
    (h : gd (Nat.ble m l') (K (.s (.ptr n 0 (begOf rr) wd 0)) [] 0) = some r) : Good P o ρ ι I nx hp w K r := by
  rw [Bool.and_eq_true] at hm
  have hm0 : 0 < m := by simpa [Nat.blt_eq] using hm.2
  obtain ⟨g1, g2⟩ := gd_some h
  have g1 : m ≤ l' := Nat.le_of_ble_eq_true g1
  obtain ⟨oa, l, c, lo, h1, h2, h3, h4, h5, h6, h7, h8⟩ := hx
  have key : ∀ (s k : Nat), l' = l → lo.blk = some k → oa = some ⟨k, lo.off + s * wd, none⟩ → (s + l) * wd ≤ lo.len → begOf rr = s → Good P o ρ ι I nx hp w K r := by
    intro s k hll hk hoa hle hb
    subst hll
    subst hoa
    rw [hb] at g2
    refine good_pure hs g2 (x := .pointer (some ⟨k, lo.off + s * wd, none⟩)) ⟨lo, k, h6, hk, ?_, ?_⟩ ?_
    · congr 3
      omega
    · have h9 : s + 0 < s + l' := by omega
      have := Nat.mul_le_mul_right wd (Nat.succ_le_of_lt h9)
      rw [Nat.succ_mul] at this
      omega
    · unfold execOp
      rw [ho]
      simp only [Instr.arrayAt, h1, Sem.run_bind, run_und hu, Result.andThen_ok]
      rw [if_neg (by omega)]
      rfl
  cases rr with
  | none =>
    obtain ⟨h8a, h8b⟩ := h8
    have hll : l' = l := by
      simp only [lenSl] at hl
      cases hro : rowOf hp n wd with
      | none => rw [hro] at hl; cases hl
      | some row =>
        rw [hro] at hl; cases hl
        obtain ⟨b, hb, hg, hw⟩ := rowOf_spec hro
        obtain ⟨hwf, hlen⟩ := blk_len hs hb h6
        rw [hg] at hwf hlen
        have hrw := (wfs_cons.1 hwf).1
        rw [flats_one, Seg.flat_len hrw, size_cnt row (by omega), hw] at hlen
        rw [lenG_cnt hrw (by omega)]
        exact Nat.eq_of_mul_eq_mul_right h3 (by rw [← hlen, ← h8a])
    rcases h8b with ⟨h0, _⟩ | ⟨k, h9, h10, _⟩
    · exfalso; omega
    · exact key 0 k hll h9 (by rw [h10]; simp) (by rw [Nat.zero_add, h8a]; exact Nat.le_refl _) rfl
  | some p =>
    obtain ⟨s, l2⟩ := p
    obtain ⟨rfl, h8a, h8b⟩ := h8
    simp only [lenSl, Option.some.injEq] at hl
    rcases h8b with ⟨h0, _⟩ | ⟨k, h9, h10, _⟩
    · exfalso; omega
    · exact key s k hl.symm h9 h10 h8a rfl
end
end Go.Ev
