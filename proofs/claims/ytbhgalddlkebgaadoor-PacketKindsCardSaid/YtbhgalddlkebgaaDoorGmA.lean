/- The abstract machine: types and values. -/
import GoSem.Step
import Derived.Orders
namespace Gm
open Go

abbrev Str := List UInt8
structure Write where
  sector : Int
  data : Str
  deriving DecidableEq, Inhabited
structure Disk where
  sure : List Str
  cache : List Write
  fuse : Int
  dead : Bool
  deriving DecidableEq, Inhabited
structure Vec where
  current : Int
  bitmap : Int
  old0 : Int
  old1 : Int
  deriving DecidableEq, Inhabited
structure Super where
  blocks : Int
  vector : Vec
  inc : Bool
  pri : Bool
  dis : Bool
  deriving DecidableEq, Inhabited
structure Hello where
  blocks : Int
  vector : Vec
  inc : Bool
  was : Bool
  dis : Bool
  pri : Bool
  mask : Int
  deriving DecidableEq, Inhabited
structure Packet where
  kind : Int
  session : Int
  hello : Hello
  block : Int
  data : Str
  deriving DecidableEq, Inhabited
structure Shape where
  hello : Bool
  block : Bool
  data : Bool
  deriving DecidableEq, Inhabited

structure Two where
  a : Int
  b : Int
  deriving DecidableEq, Inhabited

inductive Ty where
  | int (k : IntKind) | bool | str | slice (t : Ty) | st (n : Nat)
  deriving DecidableEq

abbrev denS : Nat → Type
  | 0 => Write
  | 1 => Disk
  | 2 => Vec
  | 3 => Super
  | 4 => Hello
  | 5 => Packet
  | 6 => Shape
  | 7 => Two
  | _ => Unit

@[reducible] def Ty.den : Ty → Type
  | .int _ => Int
  | .bool => Bool
  | .str => Str
  | .slice t => List t.den
  | .st n => denS n

/-- What is known of a frozen slice: nothing more; it has no spare room; it isn't nil. -/
inductive SF where
  | any | full | nn

inductive AV : Type where
  | int (k : IntKind) (n : Int)
  | bool (b : Bool)
  | str (s : Str)
  | agg (cs : List AV)
  | tup (cs : List AV)
  | nilp
  | ptr (b o : Nat)
  | fptr (cs : List AV) (o : Nat)
  | elt (b : Nat) (i : Nat) (o : Nat)
  | snil
  | sl (f : SF) (t : Ty) (xs : List t.den)
  | vl (vs : List AV)
  | slr (b : Nat)
  | func (f : FuncId) (first captured : List AV)
  | nilf
  | iface (t : Nat) (v : AV)
  | nili
  | top

def encS : (n : Nat) → denS n → List AV
  | 0, w => [.int .i64 w.sector, .str w.data]
  | 1, d => [.sl .any .str d.sure, .sl .any (.st 0) d.cache, .int .i64 d.fuse, .bool d.dead]
  | 2, v => [.int .u64 v.current, .int .u64 v.bitmap, .int .u64 v.old0, .int .u64 v.old1]
  | 3, s => [.int .i64 s.blocks, .int .u64 s.vector.current, .int .u64 s.vector.bitmap, .int .u64 s.vector.old0, .int .u64 s.vector.old1, .bool s.inc, .bool s.pri, .bool s.dis]
  | 4, h => [.int .i64 h.blocks, .int .u64 h.vector.current, .int .u64 h.vector.bitmap, .int .u64 h.vector.old0, .int .u64 h.vector.old1, .bool h.inc, .bool h.was, .bool h.dis, .bool h.pri, .int .u32 h.mask]
  | 5, p => [.int .i64 p.kind, .int .u64 p.session, .int .i64 p.hello.blocks, .int .u64 p.hello.vector.current, .int .u64 p.hello.vector.bitmap, .int .u64 p.hello.vector.old0, .int .u64 p.hello.vector.old1, .bool p.hello.inc, .bool p.hello.was, .bool p.hello.dis, .bool p.hello.pri, .int .u32 p.hello.mask, .int .i64 p.block, .str p.data]
  | 6, s => [.bool s.hello, .bool s.block, .bool s.data]
  | 7, s => [.int .u32 s.a, .int .u32 s.b]
  | _, _ => []

def enc : (t : Ty) → t.den → AV
  | .int k, n => .int k n
  | .bool, b => .bool b
  | .str, s => .str s
  | .slice t, xs => .sl .any t xs
  | .st n, x => .agg (encS n x)

def AV.cells : AV → List AV
  | .agg cs => cs
  | v => [v]

/-- How many cells a value of the type has. -/
def Ty.sz : Ty → Nat
  | .st 0 => 2 | .st 1 => 4 | .st 2 => 4 | .st 3 => 8 | .st 4 => 10 | .st 5 => 14 | .st 6 => 3 | .st 7 => 2 | .st _ => 0
  | _ => 1

/-- An element of a literal: it names no slice. -/
def decE : (t : Ty) → AV → Option t.den
  | .int k, .int k' n => if k' = k then some n else none
  | .bool, .bool b => some b
  | .str, .str s => some s
  | .st 0, .agg [.int .i64 a, .str b] => some ⟨a, b⟩
  | _, _ => none
def decEs (t : Ty) : List AV → Option (List t.den)
  | [] => some []
  | v :: vs => match decE t v, decEs t vs with
    | some x, some xs => some (x :: xs)
    | _, _ => none

def decSl (t : Ty) : AV → Option (List t.den)
  | .snil => some []
  | .sl _ t' xs => if h : t' = t then some (h ▸ xs) else none
  | .vl vs => decEs t vs
  | _ => none

def decS : (n : Nat) → List AV → Option (denS n)
  | 0, [.int .i64 a, .str b] => some ⟨a, b⟩
  | 1, [a, b, .int .i64 c, .bool d] => match decSl .str a, decSl (.st 0) b with
    | some a, some b => some ⟨a, b, c, d⟩
    | _, _ => none
  | 2, [.int .u64 a, .int .u64 b, .int .u64 c, .int .u64 d] => some ⟨a, b, c, d⟩
  | 3, [.int .i64 n, .int .u64 a, .int .u64 b, .int .u64 c, .int .u64 d, .bool i, .bool p, .bool s] => some ⟨n, ⟨a, b, c, d⟩, i, p, s⟩
  | 4, [.int .i64 n, .int .u64 a, .int .u64 b, .int .u64 c, .int .u64 d, .bool i, .bool w, .bool s, .bool p, .int .u32 m] => some ⟨n, ⟨a, b, c, d⟩, i, w, s, p, m⟩
  | 5, [.int .i64 k, .int .u64 e, .int .i64 n, .int .u64 a, .int .u64 b, .int .u64 c, .int .u64 d, .bool i, .bool w, .bool s, .bool p, .int .u32 m, .int .i64 f, .str g] => some ⟨k, e, ⟨n, ⟨a, b, c, d⟩, i, w, s, p, m⟩, f, g⟩
  | 6, [.bool a, .bool b, .bool c] => some ⟨a, b, c⟩
  | 7, [.int .u32 a, .int .u32 b] => some ⟨a, b⟩
  | _, _ => none

def dec : (t : Ty) → AV → Option t.den
  | .int k, .int k' n => if k' = k then some n else none
  | .bool, .bool b => some b
  | .str, .str s => some s
  | .slice t, v => decSl t v
  | .st n, .agg cs => decS n cs
  | _, _ => none

/-- 'v' says no less than 'u'. -/
inductive Weak : AV → AV → Prop where
  | refl (v) : Weak v v
  | own (o t xs) : Weak (.sl o t xs) (.sl .any t xs)
  | nil (t) : Weak .snil (.sl .any t [])
  | vl (t xs) : Weak (.vl (xs.map (enc t))) (.sl .any t xs)
  | agg (cs ds) : cs.length = ds.length → (∀ i (h : i < cs.length) (h' : i < ds.length), Weak cs[i] ds[i]) → Weak (.agg cs) (.agg ds)

theorem decE_eq {t : Ty} {v : AV} {x : t.den} (h : decE t v = some x) : v = enc t x := by
  unfold decE at h
  split at h
  · split at h
    · rename_i e; subst e; cases h; rfl
    · cases h
  · cases h; rfl
  · cases h; rfl
  · cases h; rfl
  · cases h
theorem decEs_eq {t : Ty} : ∀ {vs : List AV} {xs : List t.den}, decEs t vs = some xs → vs = xs.map (enc t)
  | [], xs, h => by cases h; rfl
  | v :: vs, xs, h => by
    unfold decEs at h
    split at h
    · rename_i x ys h1 h2
      cases h
      rw [decE_eq h1, decEs_eq h2]
      rfl
    · cases h

theorem decSl_weak {t : Ty} {v : AV} {xs : List t.den} (h : decSl t v = some xs) : Weak v (.sl .any t xs) := by
  unfold decSl at h
  split at h
  · cases h; exact .nil _
  · rename_i o t' ys
    split at h
    · rename_i e; subst e; cases h; exact .own _ _ _
    · cases h
  · rw [decEs_eq h]; exact .vl _ _
  · cases h

theorem weak_refl_agg (cs : List AV) : Weak (.agg cs) (.agg cs) := .refl _

theorem decS_weak {n : Nat} {cs : List AV} {x : denS n} (h : decS n cs = some x) : Weak (.agg cs) (.agg (encS n x)) := by
  unfold decS at h
  split at h
  · cases h; exact .refl _
  · rename_i a b c d
    split at h
    · rename_i a' b' ha hb
      cases h
      refine .agg _ _ rfl ?_
      intro i h1 h2
      have e1 := decSl_weak ha
      have e2 := decSl_weak hb
      match i, h1 with
      | 0, _ => exact e1
      | 1, _ => exact e2
      | 2, _ => exact .refl _
      | 3, _ => exact .refl _
    · cases h
  · cases h; exact .refl _
  · cases h; exact .refl _
  · cases h; exact .refl _
  · cases h; exact .refl _
  · cases h; exact .refl _
  · cases h; exact .refl _
  · cases h

theorem dec_weak {t : Ty} {v : AV} {x : t.den} (h : dec t v = some x) : Weak v (enc t x) := by
  unfold dec at h
  split at h
  · split at h
    · rename_i e; subst e; cases h; exact .refl _
    · cases h
  · cases h; exact .refl _
  · cases h; exact .refl _
  · exact decSl_weak h
  · exact decS_weak h
  · cases h

theorem encS_length : ∀ (n : Nat) (x : denS n), (encS n x).length = (Ty.st n).sz
  | 0, _ | 1, _ | 2, _ | 3, _ | 4, _ | 5, _ | 6, _ | 7, _ => rfl
  | _ + 8, _ => rfl

theorem enc_cells_length (t : Ty) (x : t.den) : (enc t x).cells.length = t.sz := by
  cases t with
  | st n => exact encS_length n x
  | _ => rfl

end Gm
