/- The abstract machine: its operations and its runs. -/
import Derived.Test.YtbhgalddlkebgaaDoorGmA
namespace Gm
open Go

inductive Blk where
  | dead
  | cells (cs : List AV)
  | row (ro : Bool) (t : Ty) (xs : List t.den)

structure HS where
  hp : Nat → Blk
  hn : Nat

structure St where
  fr : Nat → AV
  hs : HS

def upd {α : Type} (f : Nat → α) (k : Nat) (v : α) : Nat → α := fun n => bif Nat.beq n k then v else f n

def vAV0 : Value → AV
  | .bool b => .bool b
  | .int k n => .int k n
  | .string s => .str s.data.toList
  | .pointer none => .nilp
  | .slice none 0 0 => .snil
  | .nilFunc => .nilf
  | .nilIface => .nili
  | _ => .top
def vAV1 : Value → AV
  | .agg cs => .agg (cs.toList.map vAV0)
  | v => vAV0 v
def vAV : Value → AV
  | .iface t v => .iface t (vAV1 v)
  | v => vAV1 v

def oval (fr : Nat → AV) : Operand → AV
  | .tmp t => fr t
  | .const v => vAV v
  | .func f => .func f [] []
  | .global _ => .top

/-- What a seat tells of its types and functions: nothing here is trusted. -/
structure Env where
  P : Program
  ty : TypeId → Option Ty
  clone : FuncId → Option (Ty × Nat)
  /-- By the temporary and the type: copies (append to an empty literal) that nobody writes, and literals that are appended to. -/
  cp : Option Nat → Nat → Bool := fun _ _ => false
  /-- What is so of the world whenever a function begins. -/
  V : World → Prop := fun _ => True

abbrev Entry := List AV → (AV → Prop) → Prop
abbrev Callee := FuncId → List AV → HS → (AV → HS → Prop) → Prop

variable (E : Env)

def szT (t : TypeId) : Option Nat := (E.P.info? t).map (·.size)
def aggD : TypeDesc → Bool | .struct _ => true | .array _ _ => true | _ => false
def zeroC (t : TypeId) : Option AV := ((E.P.info? t).bind (·.zero)).map vAV
def elemT (t : TypeId) : Option TypeId := match E.P.underlying t with | some (.slice e) => some e | _ => none

def AV.solid : AV → Bool
  | .top => false
  | .tup _ => false
  | _ => true
/-- What one cell holds. -/
def oneC : AV → Bool
  | .agg _ => false
  | .tup _ => false
  | .top => false
  | _ => true

/-- The part of a row of cells that is a value of the type. -/
def partC (t : TypeId) (cs : List AV) (off : Nat) : Option AV :=
  match szT E t, E.P.underlying t with
  | some n, some d => if aggD d then (if off + n ≤ cs.length then some (.agg ((cs.drop off).take n)) else none) else cs[off]?
  | _, _ => none

def spliceC (cs : List AV) (off : Nat) (v : List AV) : List AV := cs.take off ++ (v ++ cs.drop (off + v.length))

def fillC (place : Nat → Option (Nat × Nat)) (cs : List AV) : List (Nat × AV) → Option (List AV)
  | [] => some cs
  | (i, v) :: rest =>
    match place i with
    | none => none
    | some (off, size) => if v.solid && Nat.beq v.cells.length size && Nat.ble (off + size) cs.length then fillC place (spliceC cs off v.cells) rest else none

def placesS (fields : List Field) : Option (List (Nat × Nat)) := fields.mapM fun f => (szT E f.type).map fun n => (f.offset, n)

def buildC (t : TypeId) (parts : List (Nat × AV)) : Option AV :=
  match zeroC E t, E.P.underlying t with
  | some (.agg z), some (.struct fields) => match placesS E fields.toList with
    | some ps => (fillC (fun i => ps[i]?) z parts).map .agg
    | none => none
  | some (.agg z), some (.array _ e) => match szT E e with
    | some n => (fillC (fun i => some (i * n, n)) z parts).map .agg
    | none => none
  | _, _ => none

/-- A slice's literal: all its parts, in order. -/
def litC (i : Nat) : List (Nat × AV) → Option (List AV)
  | [] => some []
  | (j, v) :: rest => if Nat.beq i j && v.solid then (litC (i + 1) rest).map (v :: ·) else none

def iand (k : IntKind) (x y : Int) : Int := k.wrap (BitVec.ofInt k.bits x &&& BitVec.ofInt k.bits y).toNat
def ior (k : IntKind) (x y : Int) : Int := k.wrap (BitVec.ofInt k.bits x ||| BitVec.ofInt k.bits y).toNat
def ixor (k : IntKind) (x y : Int) : Int := k.wrap (BitVec.ofInt k.bits x ^^^ BitVec.ofInt k.bits y).toNat
def iandn (k : IntKind) (x y : Int) : Int := k.wrap (BitVec.ofInt k.bits x &&& ~~~BitVec.ofInt k.bits y).toNat
def ishl (k : IntKind) (x y : Int) : Int := k.wrap (x * 2 ^ (min y.toNat k.bits))
def ishr (k : IntKind) (x y : Int) : Int := x.fdiv (2 ^ (min y.toNat k.bits))
def maxI : Int := 9223372036854775807
/-- Is a text of so many bytes one that may be? -/
def fits (n : Nat) : Bool := Nat.ble n 9223372036854775807

/-- The element at an index. -/
def getI {α : Type} (xs : List α) (i : Int) : Option α := if 0 ≤ i then xs[i.toNat]? else none

def caseN (i : Int) (K : Nat → Prop) : Nat → Nat → Prop
  | _, 0 => False
  | j, n + 1 => bif i == (j : Int) then K j else caseN i K (j + 1) n

/-- One of the first n numbers: which one it is. -/
def caseI (i : Int) (n : Nat) (K : Nat → Prop) : Prop := caseN i K 0 n

def sub {α : Type} (xs : List α) (l h : Nat) : List α := (xs.take h).drop l

/-- Equality. -/
def aeq : Nat → TypeId → AV → AV → Option Bool
  | 0, _, _, _ => none
  | d + 1, t, x, y =>
    match E.P.underlying t, x, y with
    | some .bool, .bool a, .bool b => some (a == b)
    | some (.int _), .int k a, .int k' b => if k = k' then some (a == b) else none
    | some .string, .str a, .str b => some (a == b)
    | some (.interface _), .nili, .iface _ _ => some false
    | some (.interface _), .iface _ _, .nili => some false
    | some (.slice _), .snil, .snil => some true
    | some (.slice _), .vl _, .snil => some false
    | some (.slice _), .sl .nn _ _, .snil => some false
    | some (.struct fields), .agg xs, .agg ys =>
      if E.P.stoodInHeld t then none else
      fields.toList.foldr (fun f acc =>
        if f.name = "_" then none else
        match acc, partC E f.type xs f.offset, partC E f.type ys f.offset with
        | some r, some a, some b => (aeq d f.type a b).map fun q => q && r
        | _, _, _ => none) (some true)
    | some (.array len elem), .agg xs, .agg ys =>
      match szT E elem with
      | none => none
      | some n => (List.range len).foldr (fun i acc =>
        match acc, partC E elem xs (i * n), partC E elem ys (i * n) with
        | some r, some a, some b => (aeq d elem a b).map fun q => q && r
        | _, _, _ => none) (some true)
    | _, _, _ => none

def noGuard (t : TypeId) : AV → Bool
  | .agg _ => !(E.P.eqGuardType E.P.depth t)
  | _ => true

def abin (op : BinOp) (t : TypeId) (x y : AV) (K : AV → Prop) : Prop :=
  match op, x, y with
  | .shl, .int k a, .int _ b => bif decide (0 ≤ b) then K (.int k (ishl k a b)) else False
  | .shr, .int k a, .int _ b => bif decide (0 ≤ b) then K (.int k (ishr k a b)) else False
  | .add, .int k a, .int k' b => if k = k' then K (.int k (k.wrap (a + b))) else False
  | .sub, .int k a, .int k' b => if k = k' then K (.int k (k.wrap (a - b))) else False
  | .mul, .int k a, .int k' b => if k = k' then K (.int k (k.wrap (a * b))) else False
  | .quo, .int k a, .int k' b => if k = k' then (bif b == 0 then False else K (.int k (k.wrap (a.tdiv b)))) else False
  | .rem, .int k a, .int k' b => if k = k' then (bif b == 0 then False else K (.int k (a.tmod b))) else False
  | .and, .int k a, .int k' b => if k = k' then K (.int k (iand k a b)) else False
  | .or, .int k a, .int k' b => if k = k' then K (.int k (ior k a b)) else False
  | .xor, .int k a, .int k' b => if k = k' then K (.int k (ixor k a b)) else False
  | .andNot, .int k a, .int k' b => if k = k' then K (.int k (iandn k a b)) else False
  | .eql, .int k a, .int k' b => if k = k' then K (.bool (a == b)) else False
  | .neq, .int k a, .int k' b => if k = k' then K (.bool (a != b)) else False
  | .lss, .int k a, .int k' b => if k = k' then K (.bool (decide (a < b))) else False
  | .leq, .int k a, .int k' b => if k = k' then K (.bool (decide (a ≤ b))) else False
  | .gtr, .int k a, .int k' b => if k = k' then K (.bool (decide (a > b))) else False
  | .geq, .int k a, .int k' b => if k = k' then K (.bool (decide (a ≥ b))) else False
  | .add, .str a, .str b => bif fits (a.length + b.length) then K (.str (a ++ b)) else False
  | .eql, .str a, .str b => K (.bool (a == b))
  | .neq, .str a, .str b => K (.bool (!(a == b)))
  | .eql, a, b => if noGuard E t a then (match aeq E 12 t a b with | some r => K (.bool r) | none => False) else False
  | .neq, a, b => if noGuard E t a then (match aeq E 12 t a b with | some r => K (.bool (!r)) | none => False) else False
  | _, _, _ => False

def aun (op : UnOp) (x : AV) : Option AV :=
  match op, x with
  | .neg, .int k n => some (.int k (k.wrap (0 - n)))
  | .xor, .int k n => some (.int k (ixor k (if k.signed then -1 else k.max) n))
  | .not, .bool b => some (.bool (!b))
  | _, _ => none

def bytesOfInts (xs : List Int) : Str := xs.map fun n => UInt8.ofNat n.toNat
def intsOfBytes (s : Str) : List Int := s.map fun b => (b.toNat : Int)
def decs (t : Ty) : List AV → Option (List t.den)
  | [] => some []
  | v :: vs => match dec t v, decs t vs with
    | some x, some xs => some (x :: xs)
    | _, _ => none

def aconv (s d : TypeId) (x : AV) : Option AV :=
  match E.P.underlying s, E.P.underlying d, x with
  | some (.int _), some (.int k), .int _ n => some (.int k (k.wrap n))
  | some .string, some .string, .str a => some (.str a)
  | some (.slice e), some .string, .sl _ (.int .u8) xs => match E.P.underlying e with
    | some (.int .u8) => some (.str (bytesOfInts xs))
    | _ => none
  | some (.slice e), some .string, .vl vs => match E.P.underlying e, decs (.int .u8) vs with
    | some (.int .u8), some xs => some (.str (bytesOfInts xs))
    | _, _ => none
  | _, _, _ => none


def AV.nonNil : AV → Bool
  | .ptr _ _ => true
  | .fptr _ _ => true
  | .elt _ _ _ => true
  | .iface _ _ => true
  | _ => false

def toI : AV → Option Int
  | .int _ n => some n
  | _ => none

/-- A slice expression's bounds: low, high, whether the room behind it is cut off. -/
def sliceB (n : Nat) (l h m : Option AV) (K : Nat → Nat → Bool → Prop) : Prop :=
  match l, h, m with
  | none, none, none => K 0 n false
  | some (.int _ a), none, none => bif decide (0 ≤ a) && decide (a ≤ (n : Int)) then K a.toNat n false else False
  | none, some (.int _ b), none => bif decide (0 ≤ b) && decide (b ≤ (n : Int)) then K 0 b.toNat false else False
  | some (.int _ a), some (.int _ b), none => bif decide (0 ≤ a) && decide (a ≤ b) && decide (b ≤ (n : Int)) then K a.toNat b.toNat false else False
  | none, some (.int _ b), some (.int _ c) => bif decide (0 ≤ b) && decide (b ≤ (n : Int)) && b == c then K 0 b.toNat true else False
  | _, _, _ => False

def optArg (o : Option Operand) (vs : List AV) : Option AV × List AV :=
  match o, vs with
  | some _, v :: r => (some v, r)
  | _, r => (none, r)

def aslice (t : TypeId) (x : AV) (l h m : Option AV) (K : AV → Prop) : Prop :=
  match E.P.underlying t, x with
  | some .string, .str s => match m with
    | none => sliceB s.length l h none fun a b _ => K (.str (sub s a b))
    | some _ => False
  | some (.slice e), .sl _ t' xs => if szT E e = some t'.sz then sliceB xs.length l h m fun a b c => K (.sl (bif c then .full else .any) t' (sub xs a b)) else False
  | some (.slice e), .snil => match szT E e with
    | some _ => sliceB 0 l h m fun _ _ _ => K .snil
    | none => False
  | _, _ => False

abbrev Tab := List (Nat × Entry)
def tabGet : Tab → Nat → Option Entry
  | [], _ => none
  | (k, e) :: r, f => bif Nat.beq k f then some e else tabGet r f

def slrs0 : AV → List Nat
  | .slr b => [b]
  | _ => []
def slrs1 : AV → List Nat
  | .agg cs => cs.flatMap slrs0
  | v => slrs0 v
/-- The rows that a value names. -/
def slrs : AV → List Nat
  | .tup cs => cs.flatMap slrs1
  | v => slrs1 v

def frz0 (hp : Nat → Blk) : AV → AV
  | .slr b => match hp b with
    | .row _ t xs => .sl .any t xs
    | _ => .top
  | v => v
def frz1 (hp : Nat → Blk) : AV → AV
  | .agg cs => .agg (cs.map (frz0 hp))
  | v => frz0 hp v
/-- A value, its rows as lists. -/
def frz (hp : Nat → Blk) : AV → AV
  | .tup cs => .tup (cs.map (frz1 hp))
  | v => frz1 hp v

def roB : Blk → Blk
  | .row _ t xs => .row true t xs
  | b => b
def roAll : List Nat → (Nat → Blk) → (Nat → Blk)
  | [], hp => hp
  | b :: r, hp => roAll r (upd hp b (roB (hp b)))

/-- A value that names nothing of the heap. -/
def cl0 : AV → Bool
  | .int _ _ => true | .bool _ => true | .str _ => true | .nilp => true | .snil => true | .sl _ _ _ => true | .nilf => true | .nili => true
  | _ => false
def cl1 : AV → Bool
  | .agg cs => cs.all cl0
  | v => cl0 v
def cl2 : AV → Bool
  | .tup cs => cs.all cl1
  | .iface _ v => cl1 v
  | .vl vs => vs.all cl1
  | .func _ a b => a.all cl1 && b.all cl1
  | .fptr cs _ => cs.all cl0
  | v => cl1 v

def minI (x y : Int) : Int := if y < x then y else x
def maxI2 (x y : Int) : Int := if y > x then y else x

variable (tab : Tab) (cal : Callee)

def nilConst : Operand → Bool
  | .const (.slice none 0 0) => true
  | _ => false

/-- A copy of a list that stays as it is. -/
def isCp (o : Oper) (vs : List AV) : Bool :=
  match o.op, vs with
  | .call c, [.vl [], .sl _ _ _] => match c.callee with
    | .builtin .append => E.cp o.dst o.type
    | _ => false
  | _, _ => false

def tier (o : Oper) (vs : List AV) : Nat :=
  match o.op, vs with
  | .load _ _, [.fptr _ _] => 0
  | .load _ _, _ => 1
  | .indexAddr _ _ _, .slr _ :: _ => 1
  | .convert _ _ _, [.slr _] => 1
  | .convert _ d _, [.str _] => match E.P.underlying d with | some (.slice _) => 2 | _ => 0
  | .assign x, _ => bif nilConst x then (match E.ty o.type with | some (.slice _) => 2 | _ => 0) else 0
  | .buildSlice _ _ _, _ => bif E.cp o.dst o.type then 2 else 0
  | .alloc _, _ => 2
  | .box _ _, _ => 2
  | .store _ _ _, _ => 2
  | .makeSlice _ _ _, _ => 2
  | .slice _ _ _ _ _, .slr _ :: _ => 2
  | .call c, vs => match c.callee, vs with
    | .builtin .append, _ => bif isCp E o vs then 0 else 2
    | .builtin .len, [.slr _] => 1
    | .builtin _, _ => 0
    | .value _, .func f a b :: args => match tabGet tab f with
      | some _ => match (a ++ (args ++ b)).flatMap slrs with
        | [] => 0
        | _ => 2
      | none => 2
    | _, _ => 2
  | _, _ => 0

/-- Two nil interfaces. -/
def nil2 : AV → AV → Bool
  | .nili, .nili => true
  | _, _ => false
def isK : Operand → Bool
  | .const _ => true
  | _ => false

/-- Two nil interfaces, one of them the literal. -/
def anil (op : BinOp) (t : TypeId) (K : AV → Prop) : Prop :=
  match E.P.underlying t, op with
  | some (.interface _), .eql => K (.bool true)
  | some (.interface _), .neq => K (.bool false)
  | _, _ => False

def abuiltin (b : Builtin) (ts : List TypeId) (vs : List AV) (K : AV → Prop) : Prop :=
  match b, ts, vs with
  | .len, t :: _, [v] => match E.P.underlying t, v with
    | some .string, .str s => K (.int .i64 (s.length : Int))
    | some (.slice _), .sl _ _ xs => K (.int .i64 (xs.length : Int))
    | some (.slice _), .vl vs => K (.int .i64 (vs.length : Int))
    | some (.slice _), .snil => K (.int .i64 0)
    | some (.array n _), _ => K (.int .i64 (n : Int))
    | _, _ => False
  | .min, _, [.int k x, .int _ y] => K (.int k (minI x y))
  | .max, _, [.int k x, .int _ y] => K (.int k (maxI2 x y))
  | _, _, _ => False

/-- Operations whose answer hangs on their operands alone. -/
def a0 (o : Oper) (vs : List AV) (K : AV → Prop) : Prop :=
  match o.op, vs with
  | .move _, [v] => K v
  | .assign _, [v] => K v
  | .pick _ _ _, [.bool c, a, b] => bif c then K a else K b
  | .build t parts, vs => match buildC E t ((parts.toList.map (·.1)).zip vs) with
    | some v => K v
    | none => False
  | .buildSlice t n parts, vs => match elemT E t with
    | some e => match szT E e, litC 0 ((parts.toList.map (·.1)).zip vs) with
      | some z, some l => match zeroC E e with
        | some _ => if Nat.beq l.length n && (Nat.ble (n * z) 16777216 && (l.all fun v => Nat.beq v.cells.length z)) then K (.vl l) else False
        | none => False
      | _, _ => False
    | none => False
  | .load t _, [.fptr cs i] => match partC E t cs i with
    | some v => K v
    | none => False
  | .nilCheck _, [v] => if v.nonNil then K v else False
  | .binOp op t x y _, [a, b] => bif nil2 a b && (isK x || isK y) then anil E op t K else abin E op t a b K
  | .unOp op _ _, [a] => match aun op a with
    | some v => K v
    | none => False
  | .convert s d _, [a] => match aconv E s d a with
    | some v => K v
    | none => False
  | .makeInterface t _, [v] => match E.P.underlying t with
    | some (.interface _) => False
    | some _ => if v.solid then K (.iface t v) else False
    | none => False
  | .makeFunc (.func f) first _, vs => K (.func f (vs.take first.size) (vs.drop first.size))
  | .slice t _ l h m, v :: r =>
    let (l, r) := optArg l r
    let (h, r) := optArg h r
    let (m, _) := optArg m r
    aslice E t v l h m K
  | .fieldAddr s _ f, [v] => match E.P.underlying s with
    | some (.struct fields) => match fields[f]? with
      | some fd => match szT E fd.type with
        | some (_ + 1) => match v with
          | .ptr b o => K (.ptr b (o + fd.offset))
          | .fptr cs o => K (.fptr cs (o + fd.offset))
          | .elt b i o => K (.elt b i (o + fd.offset))
          | _ => False
        | _ => False
      | none => False
    | _ => False
  | .field t _ f, [.agg cs] => match E.P.underlying t with
    | some (.struct fields) => match fields[f]? with
      | some fd => match partC E fd.type cs fd.offset with
        | some v => K v
        | none => False
      | none => False
    | _ => False
  | .indexAddr t _ _, [v, .int _ i] => match E.P.underlying t, v with
    | some (.slice e), .sl _ t' xs => if szT E e = some t'.sz then (match getI xs i with
      | some x => K (.fptr (enc t' x).cells 0)
      | none => False) else False
    | some (.slice e), .vl l => match szT E e with
      | some z => if l.all fun v => Nat.beq v.cells.length z then caseI i l.length fun j => (match l[j]? with
        | some v => K (.fptr v.cells 0)
        | none => False) else False
      | none => False
    | some (.array n e), .ptr b o => match szT E e with
      | some z => caseI i n fun j => K (.ptr b (o + j * z))
      | none => False
    | some (.array n e), .fptr cs o => match szT E e with
      | some z => caseI i n fun j => K (.fptr cs (o + j * z))
      | none => False
    | _, _ => False
  | .index t _ _, [v, .int _ i] => match E.P.underlying t, v with
    | some .string, .str s => match getI s i with
      | some b => K (.int .u8 (b.toNat : Int))
      | none => False
    | some (.array n e), .agg cs => match szT E e with
      | some z => caseI i n fun j => (match partC E e cs (j * z) with
        | some v => K v
        | none => False)
      | none => False
    | _, _ => False
  | .extract _ i, [.tup vs] => match vs[i]? with
    | some v => K v
    | none => False
  | .call c, vs => match c.callee, vs with
    | .builtin b, vs => abuiltin E b c.argTypes.toList vs K
    | .value _, .func f a b :: args => match tabGet tab f with
      | some en => en (a ++ (args ++ b)) K
      | none => False
    | _, _ => False
  | _, _ => False

/-- Operations whose answer hangs on the heap too. -/
def a1 (o : Oper) (vs : List AV) (hs : HS) (K : AV → Prop) : Prop :=
  match o.op, vs with
  | .load t _, [.ptr b i] => match hs.hp b with
    | .cells cs => match partC E t cs i with
      | some v => K v
      | none => False
    | _ => False
  | .load t _, [.elt b j i] => match hs.hp b with
    | .row _ t' xs => match xs[j]? with
      | some x => match partC E t (enc t' x).cells i with
        | some v => K v
        | none => False
      | none => False
    | _ => False
  | .indexAddr t _ _, [.slr b, .int _ i] => match E.P.underlying t, hs.hp b with
    | some (.slice e), .row _ t' xs => if szT E e = some t'.sz then (bif decide (0 ≤ i) && decide (i < (xs.length : Int)) then K (.elt b i.toNat 0) else False) else False
    | _, _ => False
  | .convert s d _, [.slr b] => match E.P.underlying s, E.P.underlying d, hs.hp b with
    | some (.slice e), some .string, .row _ (.int .u8) xs => match E.P.underlying e with
      | some (.int .u8) => K (.str (bytesOfInts xs))
      | _ => False
    | _, _, _ => False
  | .call c, [.slr b] => match c.callee, c.argTypes.toList, hs.hp b with
    | .builtin .len, t :: _, .row _ _ xs => match E.P.underlying t with
      | some (.slice _) => K (.int .i64 (xs.length : Int))
      | _ => False
    | _, _, _ => False
  | _, _ => False

def HS.push (hs : HS) (b : Blk) : HS := { hp := upd hs.hp hs.hn b, hn := hs.hn + 1 }

/-- The list of what is appended. -/
def srcL (t : Ty) (hp : Nat → Blk) : AV → Option (List t.den)
  | .snil => some []
  | .vl vs => decs t vs
  | .sl _ t' ys => if h : t' = t then some (h ▸ ys) else none
  | .slr b => match hp b with
    | .row _ t' ys => if h : t' = t then some (h ▸ ys) else none
    | _ => none
  | _ => none

/-- 2^46. -/
def room : Nat := 70368744177664

def aapp (t : Ty) (w : Nat) (base src : AV) (hs : HS) (K : AV → HS → Prop) : Prop :=
  match srcL t hs.hp src with
  | none => False
  | some ys =>
    match base with
    | .snil => bif decide (ys.length * w ≤ room) then K (.slr hs.hn) (hs.push (.row false t ys)) else False
    | .vl [] => bif decide (ys.length * w ≤ room) then K (.slr hs.hn) (hs.push (.row false t ys)) else False
    | .sl .full t' xs => if h : t' = t then (match src with
      | .vl (_ :: _) => bif decide ((xs.length + ys.length) * w ≤ room) then K (.slr hs.hn) (hs.push (.row false t ((h ▸ xs : List t.den) ++ ys))) else False
      | _ => False) else False
    | .slr b => match hs.hp b with
      | .row ro t' xs => if h : t' = t then
          (match src with
          | .slr b' => bif Nat.beq b b' then False else (bif decide ((xs.length + ys.length) * w ≤ room) then K (.slr hs.hn) ({ hs with hp := upd hs.hp b .dead }.push (.row ro t ((h ▸ xs : List t.den) ++ ys))) else False)
          | _ => bif decide ((xs.length + ys.length) * w ≤ room) then K (.slr hs.hn) ({ hs with hp := upd hs.hp b .dead }.push (.row ro t ((h ▸ xs : List t.den) ++ ys))) else False) else False
      | _ => False
    | _ => False

/-- Operations that change the heap. -/
def a2 (o : Oper) (vs : List AV) (hs : HS) (K : AV → HS → Prop) : Prop :=
  match o.op, vs with
  | .alloc t, _ => match zeroC E t with
    | some z => if z.solid then K (.ptr hs.hn 0) (hs.push (.cells z.cells)) else False
    | none => False
  | .box _ _, [v] => if v.solid then K (.ptr hs.hn 0) (hs.push (.cells v.cells)) else False
  | .assign _, _ => match E.ty o.type with
    | some (.slice t) => K (.slr hs.hn) (hs.push (.row false t []))
    | _ => False
  | .buildSlice t n parts, vs => match elemT E t, E.ty t with
    | some e, some (.slice t') => match szT E e, litC 0 ((parts.toList.map (·.1)).zip vs), zeroC E e with
      | some z, some l, some _ => if z = t'.sz ∧ (Nat.beq l.length n && (Nat.ble (n * z) 16777216 && (l.all fun v => Nat.beq v.cells.length z))) = true then (match decs t' l with
        | some xs => K (.slr hs.hn) (hs.push (.row false t' xs))
        | none => False) else False
      | _, _, _ => False
    | _, _ => False
  | .store t _ _, [.ptr b i, v] => match hs.hp b, szT E t with
    | .cells cs, some z => if v.solid && (v.cells.all oneC && (Nat.beq v.cells.length z && Nat.ble (i + z) cs.length)) then K (.tup []) { hs with hp := upd hs.hp b (.cells (spliceC cs i v.cells)) } else False
    | _, _ => False
  | .store t _ _, [.elt b j 0, v] => match hs.hp b, szT E t with
    | .row false t' xs, some z => match dec t' v with
      | some y => if z = t'.sz then K (.tup []) { hs with hp := upd hs.hp b (.row false t' (xs.set j y)) } else False
      | none => False
    | _, _ => False
  | .makeSlice t _ _, [.int _ n, .int _ c] => match elemT E t, E.ty t with
    | some e, some (.slice t') => match zeroC E e, szT E e, (E.P.info? e).map (·.bytes) with
      | some z, some s, some (w + 1) => match dec t' z with
        | some y => if s = t'.sz then (bif n == c && (decide (0 ≤ n) && decide (n * (w + 1 : Nat) ≤ (room : Int))) then K (.slr hs.hn) (hs.push (.row false t' (List.replicate n.toNat y))) else False) else False
        | none => False
      | _, _, _ => False
    | _, _ => False
  | .convert s d _, [.str a] => match E.P.underlying s, E.P.underlying d with
    | some .string, some (.slice e) => match E.P.underlying e with
      | some (.int .u8) => K (.slr hs.hn) (hs.push (.row false (.int .u8) (intsOfBytes a)))
      | _ => False
    | _, _ => False
  | .slice t _ l h m, .slr b :: r => match hs.hp b with
    | .row _ t' xs =>
      let (l, r) := optArg l r
      let (h, r) := optArg h r
      let (m, _) := optArg m r
      aslice E t (.sl .any t' xs) l h m fun v => K v { hs with hp := upd hs.hp b (.row true t' xs) }
    | _ => False
  | .call c, vs => match c.callee, vs with
    | .builtin .append, [base, src] => match c.argTypes.toList with
      | [s, x] => match elemT E s, elemT E x, E.ty s with
        | some e, some _, some (.slice t') => match szT E e, (E.P.info? e).map (·.bytes) with
          | some z, some (w + 1) => match zeroC E e with
            | some zc => if z = t'.sz ∧ (zc.solid && Nat.beq zc.cells.length t'.sz) = true then aapp t' (w + 1) base src hs K else False
            | none => False
          | _, _ => False
        | _, _, _ => False
      | _ => False
    | .value _, .func f a b :: args => match tabGet tab f with
      | some en => en ((a ++ (args ++ b)).map (frz hs.hp)) fun v => K v { hs with hp := roAll ((a ++ (args ++ b)).flatMap slrs) hs.hp }
      | none => match E.clone f with
        | some (t, w) => match a ++ (args ++ b) with
          | [.snil] => K (.slr hs.hn) (hs.push (.row false t []))
          | [.sl _ t' xs] => if h : t' = t then (bif decide (xs.length * w ≤ room) then K (.slr hs.hn) (hs.push (.row false t (h ▸ xs))) else False) else False
          | _ => False
        | none => cal f (a ++ (args ++ b)) hs K
    | _, _ => False
  | _, _ => False

def acp (o : Oper) (vs : List AV) (K : AV → Prop) : Prop :=
  match o.op, vs with
  | .call c, [.vl [], .sl _ t ys] => match c.callee, c.argTypes.toList with
    | .builtin .append, [s, x] => match elemT E s, elemT E x with
      | some e, some _ => match szT E e, (E.P.info? e).map (·.bytes), zeroC E e with
        | some z, some (w + 1), some zc => if z = t.sz ∧ (zc.solid && Nat.beq zc.cells.length t.sz) = true then (bif decide (ys.length * (w + 1) ≤ room) then K (.sl .any t ys) else False) else False
        | _, _, _ => False
      | _, _ => False
    | _, _ => False
  | _, _ => False

/-- The block that is looked at. -/
def blk1 : List AV → Nat
  | .ptr b _ :: _ => b
  | .elt b _ _ :: _ => b
  | .slr b :: _ => b
  | _ => 0

def aop (o : Oper) (vs : List AV) (hs : HS) (K : AV → HS → Prop) : Prop :=
  match tier E tab o vs with
  | 0 => bif isCp E o vs then acp E o vs fun v => K v hs else a0 E tab o vs fun v => K v hs
  | 1 => bif Nat.blt (blk1 vs) hs.hn then a1 E o vs hs fun v => K v hs else False
  | _ => a2 E tab cal o vs hs K

/-- No call is entered in place. -/
def noCal : Callee := fun _ _ _ _ => False

variable (nt : Nat)

def St.put (st : St) (dst : Option Nat) (v : AV) (hs : HS) : St :=
  match dst with
  | some d => { fr := upd st.fr d v, hs }
  | none => { st with hs }

def dstOk : Option Nat → Bool
  | some d => Nat.blt d nt
  | none => true

def valsOf (o : Oper) (fr : Nat → AV) : List AV := o.op.operands.toList.map (oval fr)

inductive GV where
  | run | skip | stuck
  | test (d : Nat) (b want : Bool)

def guardOf (ops : List Oper) (o : Oper) (fr : Nat → AV) : GV :=
  match o.guard with
  | none => .run
  | some (j, want) => match (ops[j]?).bind (·.dst) with
    | some d => match fr d with
      | .bool b => .test d b want
      | .tup [] => .skip
      | _ => .stuck
    | none => .stuck

/-- One operation of a region; the number tells what it did with the heap. -/
def aop1 (ops : List Oper) (o : Oper) (st : St) (K : Nat → St → Prop) : Prop :=
  bif dstOk nt o.dst then
    match guardOf ops o st.fr with
    | .stuck => False
    | .skip => K 0 (st.put o.dst (.tup []) st.hs)
    | .run => aop E tab cal o (valsOf o st.fr) st.hs fun v hs => K (tier E tab o (valsOf o st.fr)) (st.put o.dst v hs)
    | .test d b true => bif b then aop E tab cal o (valsOf o (upd st.fr d (.bool true))) st.hs fun v hs => K (tier E tab o (valsOf o (upd st.fr d (.bool true)))) ({ st with fr := upd st.fr d (.bool true) }.put o.dst v hs)
      else K 0 ({ st with fr := upd st.fr d (.bool false) }.put o.dst (.tup []) st.hs)
    | .test d b false => bif b then K 0 ({ st with fr := upd st.fr d (.bool true) }.put o.dst (.tup []) st.hs)
      else aop E tab cal o (valsOf o (upd st.fr d (.bool false))) st.hs fun v hs => K (tier E tab o (valsOf o (upd st.fr d (.bool false)))) ({ st with fr := upd st.fr d (.bool false) }.put o.dst v hs)
  else False

def aseq (ops : List Oper) : List Oper → St → (St → Prop) → Prop
  | [], st, K => K st
  | o :: r, st, K => aop1 E tab cal nt ops o st fun _ st' => aseq ops r st' K

/-- A region whose order is open: what each operation did is kept, and held against the edges. -/
def adraw (ops : List Oper) : List Oper → List Nat → St → (List Nat → St → Prop) → Prop
  | [], log, st, K => K log st
  | o :: r, log, st, K => aop1 E tab cal nt ops o st fun c st' => adraw ops r (log ++ [c]) st' K

/-- For each operation: which ones surely come before it (bit by bit). -/
def befMask (acc : List Nat) (o : Oper) : Nat :=
  o.after.toList.foldl (fun s e => bif Region.binds .any e then s ||| (1 <<< e.on) ||| acc.getD e.on 0 else s) 0
def befores (ops : List Oper) : List Nat := ops.foldl (fun acc o => acc ++ [befMask acc o]) []

def looks (ops : List Oper) (o : Oper) : List Nat :=
  (o.op.operands.toList.filterMap fun | .tmp t => some t | _ => none) ++
  (match o.guard with
   | some (g, _) => ((ops[g]?).bind (·.dst)).toList
   | none => [])

def memB (n : Nat) : List Nat → Bool
  | [] => false
  | a :: r => Nat.beq n a || memB n r

/-- Must the two come in one order? -/
def isNew (o : Oper) : Bool :=
  match o.op with
  | .alloc _ => true
  | .box _ _ => true
  | _ => false

/-- Must two operations keep their order: all but a look ahead of a new block. -/
def conf (ops : List Oper) (a b : Oper) (ca cb : Nat) : Bool :=
  (Nat.ble 3 (ca + cb) && !(Nat.beq ca 1 && isNew b)) ||
  (match a.dst with | some d => memB d (looks ops b) || (match b.dst with | some e => Nat.beq d e | none => false) | none => false) ||
  (match b.dst with | some e => memB e (looks ops a) | none => false)

/-- All pairs that must come in one order do. -/
def drawOk (ops : List Oper) (log : List Nat) : Bool :=
  let bs := befores ops
  ((List.range ops.length).all fun j => match ops[j]? with
    | some o => o.after.toList.all fun e => !(Region.binds .any e) || Nat.blt e.on j
    | none => true) &&
  ((List.range ops.length).all fun j => (List.range j).all fun i =>
    match ops[i]?, ops[j]? with
    | some a, some b => !(conf ops a b (log.getD i 2) (log.getD j 2)) || (bs.getD j 0).testBit i
    | _, _ => false)

/-- What a loop keeps: temporaries (and the row that is a slice's home), blocks, the next name. -/
structure Keep where
  ks : List (Nat × Option Nat)
  bs : List Nat
  hn : Nat
  /-- A block's cells that hold rows: the block, the cell, the row's home. -/
  cs : List (Nat × Nat × Nat) := []

def lookL {α : Type} (d : α) : List (Nat × α) → Nat → α
  | [], _ => d
  | (k, v) :: r, n => bif Nat.beq n k then v else lookL d r n

def keptRef (bs : List Nat) : AV → Bool
  | .ptr b _ => memB b bs
  | .slr b => memB b bs
  | .agg cs => cs.all fun c => match c with | .ptr b _ => memB b bs | .slr b => memB b bs | c => cl0 c
  | .func _ a b => (a ++ b).all fun c => match c with | .ptr b _ => memB b bs | .slr b => memB b bs | c => cl1 c
  | v => cl2 v
def keptV (bs : List Nat) (v : AV) : AV := bif keptRef bs v then v else .top

def homeOf (fr : Nat → AV) : Nat × Option Nat → Option (Nat × Nat)
  | (k, some b) => match fr k with
    | .slr x => some (b, x)
    | _ => none
  | _ => none

def nodupB : List Nat → Bool
  | [] => true
  | a :: r => !memB a r && nodupB r

def homesOk (kp : Keep) (hm : List (Nat × Nat)) : Bool := nodupB (hm.map (·.2)) && nodupB (hm.map (·.1)) && (hm.all fun p => !memB p.1 kp.bs && !memB p.2 kp.bs)

def lget : List AV → Nat → AV
  | [], _ => .top
  | v :: _, 0 => v
  | _ :: r, n + 1 => lget r n

def cellHome (hp : Nat → Blk) : Nat × Nat × Nat → Option (Nat × Nat)
  | (b, i, h) => match hp b with
    | .cells cs => match lget cs i with
      | .slr x => some (h, x)
      | _ => none
    | _ => none

/-- The rows' homes: what the kept name is, and what it was. -/
def hmOf (kp : Keep) (st : St) : List (Nat × Nat) := kp.ks.filterMap (homeOf st.fr) ++ kp.cs.filterMap (cellHome st.hs.hp)

def homeIn : List (Nat × Nat × Nat) → Nat → Nat → Option Nat
  | [], _, _ => none
  | (c, j, h) :: r, b, i => bif Nat.beq c b && Nat.beq j i then some h else homeIn r b i

def keptC1 (kp : Keep) (ok : Bool) (b i : Nat) (c : AV) : AV :=
  match homeIn kp.cs b i with
  | some h => match c with
    | .slr _ => bif ok then .slr h else .top
    | c => keptV kp.bs c
  | none => keptV kp.bs c

def keptC (kp : Keep) (ok : Bool) (b : Nat) : Nat → List AV → List AV
  | _, [] => []
  | i, c :: r => keptC1 kp ok b i c :: keptC kp ok b (i + 1) r

def keepSt (kp : Keep) (st : St) : St :=
  let hm := hmOf kp st
  { fr := lookL .top (kp.ks.map fun p => (p.1, match p.2 with
      | some b => match st.fr p.1 with
        | .slr _ => bif homesOk kp hm then .slr b else .top
        | v => keptV kp.bs v
      | none => keptV kp.bs (st.fr p.1))),
    hs := { hp := lookL .dead ((bif homesOk kp hm then hm.map fun p => (p.1, match st.hs.hp p.2 with | .row ro t xs => .row ro t xs | _ => .dead) else []) ++ kp.bs.map fun b => (b, match st.hs.hp b with
      | .cells cs => .cells (keptC kp (homesOk kp hm) b 0 cs)
      | x => x)), hn := kp.hn } }

def loopN : Nat → ((St → Prop) → St → Prop) → St → Prop
  | 0, _, _ => False
  | n + 1, body, st => body (loopN n body) st

abbrev LoopE := (Nat → St → Prop) → (St → Prop) → St → Prop
structure LSpec where
  kp : Keep
  kr : Keep
  le : LoopE

variable (lt : Nat → Option LSpec)

def keepOk (kp : Keep) : Bool := (kp.bs.all fun b => Nat.blt b kp.hn) && ((kp.ks.all fun p => match p.2 with | some b => Nat.blt b kp.hn | none => true) && kp.cs.all fun p => Nat.blt p.2.2 kp.hn)

def acode : Code → Nat → (St → Prop) → (Nat → St → Prop) → (St → Prop) → St → Prop
  | .skip, _, Kn, _, _, st => Kn st
  | .region _ ops false, _, Kn, _, _, st => aseq E tab cal nt ops.toList ops.toList st Kn
  | .region _ ops true, _, Kn, _, _, st => adraw E tab cal nt ops.toList ops.toList [] st fun log st' => bif drawOk ops.toList log then Kn st' else False
  | .seq a b, i, Kn, Kx, Kr, st => acode a i (acode b i Kn Kx Kr) Kx Kr st
  | .cond (.tmp t) a b, i, Kn, Kx, Kr, st => match st.fr t with
    | .bool c => bif c then acode a i Kn Kx Kr { st with fr := upd st.fr t (.bool true) } else acode b i Kn Kx Kr { st with fr := upd st.fr t (.bool false) }
    | _ => False
  | .block id b, _, Kn, Kx, Kr, st => acode b id Kn (fun i s => bif Nat.beq i id then Kn s else Kx i s) Kr st
  | .loop b, i, _, Kx, Kr, st => match lt i with
    | some l => l.le Kx Kr st
    | none => loopN 12 (fun rec s => acode b i rec Kx Kr s) st
  | .exit id, _, _, Kx, _, st => Kx id st
  | .ret, _, _, _, Kr, st => Kr st
  | _, _, _, _, _, _ => False

/-- What a loop of the table stands for. -/
def loopSem (fuel : Nat) (kp kr : Keep) (b : Code) (i : Nat) (Kx : Nat → St → Prop) (Kr : St → Prop) (st : St) : Prop :=
  loopN fuel (fun rec s => acode E tab cal nt lt b i (fun s' => rec (keepSt kp s')) (fun j s' => Kx j (keepSt kp s')) (fun s' => Kr (keepSt kr s')) s) (keepSt kp st)

def ares (st : St) : List ResultVar → Option (List AV)
  | [] => some []
  | .tmp t :: r => (ares st r).map (st.fr t :: ·)
  | .cell a t :: r => match st.fr a with
    | .ptr b i => match st.hs.hp b with
      | .cells cs => match partC E t cs i, ares st r with
        | some v, some vs => some (v :: vs)
        | _, _ => none
      | _ => none
    | _ => none

def tupOf : List AV → AV
  | [v] => v
  | vs => .tup vs

/-- What a function answers, its results read at its end. -/
def afin (fn : Func) (K : AV → HS → Prop) (st : St) : Prop :=
  match ares E st fn.results.toList with
  | some vs => K (tupOf vs) st.hs
  | none => False

/-- A call in place: no loop of the table stands there. -/
def afun : Nat → Callee
  | 0, _, _, _, _ => False
  | d + 1, f, args, hs, K => match E.P.funcs[f]? with
    | some fn => match fn.body with
      | some c => bif Nat.ble args.length fn.ntmps then acode E tab (afun d) fn.ntmps (fun _ => none) c 0 (fun _ => False) (fun _ _ => False) (afin E fn K) { fr := lget args, hs } else False
      | none => False
    | none => False

def hs0 : HS := { hp := fun _ => .dead, hn := 0 }

/-- A call of a function that gets values alone, and answers values alone. -/
def apure (d : Nat) (f : FuncId) (args : List AV) (K : AV → Prop) : Prop :=
  match E.P.funcs[f]? with
  | some fn => match fn.body with
    | some c => bif Nat.ble args.length fn.ntmps then acode E tab (afun E tab d) fn.ntmps lt c 0 (fun _ => False) (fun _ _ => False) (afin E fn fun v hs => K (frz hs.hp v)) { fr := lget args, hs := hs0 } else False
    | none => False
  | none => False

/-- A function's loops, each with its block's number. -/
def loopsOf : Code → Nat → List (Nat × Code)
  | .seq a b, i => loopsOf a i ++ loopsOf b i
  | .cond _ a b, i => loopsOf a i ++ loopsOf b i
  | .block id b, _ => loopsOf b id
  | .loop b, i => (i, b) :: loopsOf b i
  | _, _ => []

def loopsIn (P : Program) (f : FuncId) : List (Nat × Code) :=
  match P.funcs[f]? with
  | some fn => match fn.body with
    | some c => loopsOf c 0
    | none => []
  | none => []

end Gm
