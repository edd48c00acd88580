/- The abstract machine: types and values. (The structures' parts are printed by tools/structs.py.) -/
import GoSem.Step
import Derived.Orders
import Derived.KernelRfl
set_option maxRecDepth 10000
namespace Gm
open Go
abbrev Str := List UInt8
structure Write where
  sector : Int
  data : Str
  deriving DecidableEq, Inhabited
structure Disk where
  sure : List Str
  cache : List Write
  fuse : Int
  dead : Bool
  deriving DecidableEq, Inhabited
structure Vec where
  current : Int
  bitmap : Int
  old0 : Int
  old1 : Int
  deriving DecidableEq, Inhabited
structure Super where
  blocks : Int
  vector : Vec
  inc : Bool
  pri : Bool
  dis : Bool
  deriving DecidableEq, Inhabited
structure Hello where
  blocks : Int
  vector : Vec
  inc : Bool
  was : Bool
  dis : Bool
  pri : Bool
  mask : Int
  deriving DecidableEq, Inhabited
structure Packet where
  kind : Int
  session : Int
  hello : Hello
  block : Int
  data : Str
  deriving DecidableEq, Inhabited
structure Shape where
  hello : Bool
  block : Bool
  data : Bool
  deriving DecidableEq, Inhabited
structure Two where
  a : Int
  b : Int
  deriving DecidableEq, Inhabited
structure Store where
  disk : Disk
  sup : Super
  mask : Int
  deriving DecidableEq, Inhabited
structure Req where
  on : Bool
  id : Int
  block : Int
  data : Str
  deriving DecidableEq, Inhabited
structure Mint where
  gen : Int
  parent : Int
  node : Int
  deriving DecidableEq, Inhabited
structure Outp where
  kind : Int
  node : Int
  id : Int
  err : Int
  data : Str
  deriving DecidableEq, Inhabited
structure Event where
  kind : Int
  node : Int
  id : Int
  block : Int
  data : Str
  num : Int
  keeps : List Bool
  deriving DecidableEq, Inhabited
structure Node where
  id : Int
  up : Bool
  store : Store
  primary : Bool
  state : Int
  session : Int
  peer : Hello
  peerPri : Bool
  req : Req
  asking : Bool
  askId : Int
  wanted : Int
  minted : Bool
  draws : List Int
  mints : List Mint
  deriving DecidableEq, Inhabited
structure Link where
  up : Bool
  session : Int
  to0 : List Str
  to1 : List Str
  deriving DecidableEq, Inhabited
structure Cluster where
  n0 : Node
  n1 : Node
  link : Link
  w0 : Bool
  w1 : Bool
  deriving DecidableEq, Inhabited
structure Case where
  blocks : Int
  l : List Event
  side : Bool
  deriving DecidableEq, Inhabited
structure Verdict where
  kind : Int
  source : Int
  deriving DecidableEq, Inhabited
structure PairI where
  a : Int
  b : Int
  deriving DecidableEq, Inhabited
structure PairH where
  h0 : Hello
  h1 : Hello
  source : Int
  deriving DecidableEq, Inhabited
structure SAct where
  kind : Int
  block : Int
  mask : Int
  data : Str
  sup : Super
  deriving DecidableEq, Inhabited
structure Node5 where
  n0 : Node
  n1 : Node
  n2 : Node
  n3 : Node
  n4 : Node
  deriving DecidableEq, Inhabited
inductive Ty where
  | int (k : IntKind) | bool | str | slice (t : Ty) | st (n : Nat)
  deriving DecidableEq
abbrev denS : Nat → Type
  | 0 => Write
  | 1 => Disk
  | 2 => Vec
  | 3 => Super
  | 4 => Hello
  | 5 => Packet
  | 6 => Shape
  | 7 => Two
  | 8 => Store
  | 9 => Req
  | 10 => Mint
  | 11 => Outp
  | 12 => Event
  | 13 => Node
  | 14 => Link
  | 15 => Cluster
  | 16 => Case
  | 17 => Verdict
  | 18 => PairI
  | 19 => PairH
  | 20 => SAct
  | 21 => Node5
  | _ => Unit
@[reducible] def Ty.den : Ty → Type
  | .int _ => Int
  | .bool => Bool
  | .str => Str
  | .slice t => List t.den
  | .st n => denS n
def leafs : Nat → List Ty
  | 0 => [.int .i64, .str]
  | 1 => [.slice .str, .slice (.st 0), .int .i64, .bool]
  | 2 => [.int .u64, .int .u64, .int .u64, .int .u64]
  | 3 => [.int .i64, .int .u64, .int .u64, .int .u64, .int .u64, .bool, .bool, .bool]
  | 4 => [.int .i64, .int .u64, .int .u64, .int .u64, .int .u64, .bool, .bool, .bool, .bool, .int .u32]
  | 5 => [.int .i64, .int .u64, .int .i64, .int .u64, .int .u64, .int .u64, .int .u64, .bool, .bool, .bool, .bool, .int .u32, .int .i64, .str]
  | 6 => [.bool, .bool, .bool]
  | 7 => [.int .u32, .int .u32]
  | 8 => [.slice .str, .slice (.st 0), .int .i64, .bool, .int .i64, .int .u64, .int .u64, .int .u64, .int .u64, .bool, .bool, .bool, .int .u32]
  | 9 => [.bool, .int .i64, .int .i64, .str]
  | 10 => [.int .u64, .int .u64, .int .i64]
  | 11 => [.int .i64, .int .i64, .int .i64, .int .i64, .str]
  | 12 => [.int .i64, .int .i64, .int .i64, .int .i64, .str, .int .u64, .slice .bool]
  | 13 => [.int .i64, .bool, .slice .str, .slice (.st 0), .int .i64, .bool, .int .i64, .int .u64, .int .u64, .int .u64, .int .u64, .bool, .bool, .bool, .int .u32, .bool, .int .i64, .int .u64, .int .i64, .int .u64, .int .u64, .int .u64, .int .u64, .bool, .bool, .bool, .bool, .int .u32, .bool, .bool, .int .i64, .int .i64, .str, .bool, .int .i64, .int .i64, .bool, .slice (.int .u64), .slice (.st 10)]
  | 14 => [.bool, .int .u64, .slice .str, .slice .str]
  | 15 => [.int .i64, .bool, .slice .str, .slice (.st 0), .int .i64, .bool, .int .i64, .int .u64, .int .u64, .int .u64, .int .u64, .bool, .bool, .bool, .int .u32, .bool, .int .i64, .int .u64, .int .i64, .int .u64, .int .u64, .int .u64, .int .u64, .bool, .bool, .bool, .bool, .int .u32, .bool, .bool, .int .i64, .int .i64, .str, .bool, .int .i64, .int .i64, .bool, .slice (.int .u64), .slice (.st 10), .int .i64, .bool, .slice .str, .slice (.st 0), .int .i64, .bool, .int .i64, .int .u64, .int .u64, .int .u64, .int .u64, .bool, .bool, .bool, .int .u32, .bool, .int .i64, .int .u64, .int .i64, .int .u64, .int .u64, .int .u64, .int .u64, .bool, .bool, .bool, .bool, .int .u32, .bool, .bool, .int .i64, .int .i64, .str, .bool, .int .i64, .int .i64, .bool, .slice (.int .u64), .slice (.st 10), .bool, .int .u64, .slice .str, .slice .str, .bool, .bool]
  | 16 => [.int .u8, .slice (.st 12), .bool]
  | 17 => [.int .i64, .int .i64]
  | 18 => [.int .i64, .int .i64]
  | 19 => [.int .i64, .int .u64, .int .u64, .int .u64, .int .u64, .bool, .bool, .bool, .bool, .int .u32, .int .i64, .int .u64, .int .u64, .int .u64, .int .u64, .bool, .bool, .bool, .bool, .int .u32, .int .i64]
  | 20 => [.int .i64, .int .i64, .int .u32, .str, .int .i64, .int .u64, .int .u64, .int .u64, .int .u64, .bool, .bool, .bool]
  | 21 => [.int .i64, .bool, .slice .str, .slice (.st 0), .int .i64, .bool, .int .i64, .int .u64, .int .u64, .int .u64, .int .u64, .bool, .bool, .bool, .int .u32, .bool, .int .i64, .int .u64, .int .i64, .int .u64, .int .u64, .int .u64, .int .u64, .bool, .bool, .bool, .bool, .int .u32, .bool, .bool, .int .i64, .int .i64, .str, .bool, .int .i64, .int .i64, .bool, .slice (.int .u64), .slice (.st 10), .int .i64, .bool, .slice .str, .slice (.st 0), .int .i64, .bool, .int .i64, .int .u64, .int .u64, .int .u64, .int .u64, .bool, .bool, .bool, .int .u32, .bool, .int .i64, .int .u64, .int .i64, .int .u64, .int .u64, .int .u64, .int .u64, .bool, .bool, .bool, .bool, .int .u32, .bool, .bool, .int .i64, .int .i64, .str, .bool, .int .i64, .int .i64, .bool, .slice (.int .u64), .slice (.st 10), .int .i64, .bool, .slice .str, .slice (.st 0), .int .i64, .bool, .int .i64, .int .u64, .int .u64, .int .u64, .int .u64, .bool, .bool, .bool, .int .u32, .bool, .int .i64, .int .u64, .int .i64, .int .u64, .int .u64, .int .u64, .int .u64, .bool, .bool, .bool, .bool, .int .u32, .bool, .bool, .int .i64, .int .i64, .str, .bool, .int .i64, .int .i64, .bool, .slice (.int .u64), .slice (.st 10), .int .i64, .bool, .slice .str, .slice (.st 0), .int .i64, .bool, .int .i64, .int .u64, .int .u64, .int .u64, .int .u64, .bool, .bool, .bool, .int .u32, .bool, .int .i64, .int .u64, .int .i64, .int .u64, .int .u64, .int .u64, .int .u64, .bool, .bool, .bool, .bool, .int .u32, .bool, .bool, .int .i64, .int .i64, .str, .bool, .int .i64, .int .i64, .bool, .slice (.int .u64), .slice (.st 10), .int .i64, .bool, .slice .str, .slice (.st 0), .int .i64, .bool, .int .i64, .int .u64, .int .u64, .int .u64, .int .u64, .bool, .bool, .bool, .int .u32, .bool, .int .i64, .int .u64, .int .i64, .int .u64, .int .u64, .int .u64, .int .u64, .bool, .bool, .bool, .bool, .int .u32, .bool, .bool, .int .i64, .int .i64, .str, .bool, .int .i64, .int .i64, .bool, .slice (.int .u64), .slice (.st 10)]
  | _ => []
@[reducible] def Dens : List Ty → Type
  | [] => Unit
  | t :: r => t.den × Dens r
def unS : (n : Nat) → denS n → Dens (leafs n)
  | 0, x => (x.sector, x.data, ())
  | 1, x => (x.sure, x.cache, x.fuse, x.dead, ())
  | 2, x => (x.current, x.bitmap, x.old0, x.old1, ())
  | 3, x => (x.blocks, x.vector.current, x.vector.bitmap, x.vector.old0, x.vector.old1, x.inc, x.pri, x.dis, ())
  | 4, x => (x.blocks, x.vector.current, x.vector.bitmap, x.vector.old0, x.vector.old1, x.inc, x.was, x.dis, x.pri, x.mask, ())
  | 5, x => (x.kind, x.session, x.hello.blocks, x.hello.vector.current, x.hello.vector.bitmap, x.hello.vector.old0, x.hello.vector.old1, x.hello.inc, x.hello.was, x.hello.dis, x.hello.pri, x.hello.mask, x.block, x.data, ())
  | 6, x => (x.hello, x.block, x.data, ())
  | 7, x => (x.a, x.b, ())
  | 8, x => (x.disk.sure, x.disk.cache, x.disk.fuse, x.disk.dead, x.sup.blocks, x.sup.vector.current, x.sup.vector.bitmap, x.sup.vector.old0, x.sup.vector.old1, x.sup.inc, x.sup.pri, x.sup.dis, x.mask, ())
  | 9, x => (x.on, x.id, x.block, x.data, ())
  | 10, x => (x.gen, x.parent, x.node, ())
  | 11, x => (x.kind, x.node, x.id, x.err, x.data, ())
  | 12, x => (x.kind, x.node, x.id, x.block, x.data, x.num, x.keeps, ())
  | 13, x => (x.id, x.up, x.store.disk.sure, x.store.disk.cache, x.store.disk.fuse, x.store.disk.dead, x.store.sup.blocks, x.store.sup.vector.current, x.store.sup.vector.bitmap, x.store.sup.vector.old0, x.store.sup.vector.old1, x.store.sup.inc, x.store.sup.pri, x.store.sup.dis, x.store.mask, x.primary, x.state, x.session, x.peer.blocks, x.peer.vector.current, x.peer.vector.bitmap, x.peer.vector.old0, x.peer.vector.old1, x.peer.inc, x.peer.was, x.peer.dis, x.peer.pri, x.peer.mask, x.peerPri, x.req.on, x.req.id, x.req.block, x.req.data, x.asking, x.askId, x.wanted, x.minted, x.draws, x.mints, ())
  | 14, x => (x.up, x.session, x.to0, x.to1, ())
  | 15, x => (x.n0.id, x.n0.up, x.n0.store.disk.sure, x.n0.store.disk.cache, x.n0.store.disk.fuse, x.n0.store.disk.dead, x.n0.store.sup.blocks, x.n0.store.sup.vector.current, x.n0.store.sup.vector.bitmap, x.n0.store.sup.vector.old0, x.n0.store.sup.vector.old1, x.n0.store.sup.inc, x.n0.store.sup.pri, x.n0.store.sup.dis, x.n0.store.mask, x.n0.primary, x.n0.state, x.n0.session, x.n0.peer.blocks, x.n0.peer.vector.current, x.n0.peer.vector.bitmap, x.n0.peer.vector.old0, x.n0.peer.vector.old1, x.n0.peer.inc, x.n0.peer.was, x.n0.peer.dis, x.n0.peer.pri, x.n0.peer.mask, x.n0.peerPri, x.n0.req.on, x.n0.req.id, x.n0.req.block, x.n0.req.data, x.n0.asking, x.n0.askId, x.n0.wanted, x.n0.minted, x.n0.draws, x.n0.mints, x.n1.id, x.n1.up, x.n1.store.disk.sure, x.n1.store.disk.cache, x.n1.store.disk.fuse, x.n1.store.disk.dead, x.n1.store.sup.blocks, x.n1.store.sup.vector.current, x.n1.store.sup.vector.bitmap, x.n1.store.sup.vector.old0, x.n1.store.sup.vector.old1, x.n1.store.sup.inc, x.n1.store.sup.pri, x.n1.store.sup.dis, x.n1.store.mask, x.n1.primary, x.n1.state, x.n1.session, x.n1.peer.blocks, x.n1.peer.vector.current, x.n1.peer.vector.bitmap, x.n1.peer.vector.old0, x.n1.peer.vector.old1, x.n1.peer.inc, x.n1.peer.was, x.n1.peer.dis, x.n1.peer.pri, x.n1.peer.mask, x.n1.peerPri, x.n1.req.on, x.n1.req.id, x.n1.req.block, x.n1.req.data, x.n1.asking, x.n1.askId, x.n1.wanted, x.n1.minted, x.n1.draws, x.n1.mints, x.link.up, x.link.session, x.link.to0, x.link.to1, x.w0, x.w1, ())
  | 16, x => (x.blocks, x.l, x.side, ())
  | 17, x => (x.kind, x.source, ())
  | 18, x => (x.a, x.b, ())
  | 19, x => (x.h0.blocks, x.h0.vector.current, x.h0.vector.bitmap, x.h0.vector.old0, x.h0.vector.old1, x.h0.inc, x.h0.was, x.h0.dis, x.h0.pri, x.h0.mask, x.h1.blocks, x.h1.vector.current, x.h1.vector.bitmap, x.h1.vector.old0, x.h1.vector.old1, x.h1.inc, x.h1.was, x.h1.dis, x.h1.pri, x.h1.mask, x.source, ())
  | 20, x => (x.kind, x.block, x.mask, x.data, x.sup.blocks, x.sup.vector.current, x.sup.vector.bitmap, x.sup.vector.old0, x.sup.vector.old1, x.sup.inc, x.sup.pri, x.sup.dis, ())
  | 21, x => (x.n0.id, x.n0.up, x.n0.store.disk.sure, x.n0.store.disk.cache, x.n0.store.disk.fuse, x.n0.store.disk.dead, x.n0.store.sup.blocks, x.n0.store.sup.vector.current, x.n0.store.sup.vector.bitmap, x.n0.store.sup.vector.old0, x.n0.store.sup.vector.old1, x.n0.store.sup.inc, x.n0.store.sup.pri, x.n0.store.sup.dis, x.n0.store.mask, x.n0.primary, x.n0.state, x.n0.session, x.n0.peer.blocks, x.n0.peer.vector.current, x.n0.peer.vector.bitmap, x.n0.peer.vector.old0, x.n0.peer.vector.old1, x.n0.peer.inc, x.n0.peer.was, x.n0.peer.dis, x.n0.peer.pri, x.n0.peer.mask, x.n0.peerPri, x.n0.req.on, x.n0.req.id, x.n0.req.block, x.n0.req.data, x.n0.asking, x.n0.askId, x.n0.wanted, x.n0.minted, x.n0.draws, x.n0.mints, x.n1.id, x.n1.up, x.n1.store.disk.sure, x.n1.store.disk.cache, x.n1.store.disk.fuse, x.n1.store.disk.dead, x.n1.store.sup.blocks, x.n1.store.sup.vector.current, x.n1.store.sup.vector.bitmap, x.n1.store.sup.vector.old0, x.n1.store.sup.vector.old1, x.n1.store.sup.inc, x.n1.store.sup.pri, x.n1.store.sup.dis, x.n1.store.mask, x.n1.primary, x.n1.state, x.n1.session, x.n1.peer.blocks, x.n1.peer.vector.current, x.n1.peer.vector.bitmap, x.n1.peer.vector.old0, x.n1.peer.vector.old1, x.n1.peer.inc, x.n1.peer.was, x.n1.peer.dis, x.n1.peer.pri, x.n1.peer.mask, x.n1.peerPri, x.n1.req.on, x.n1.req.id, x.n1.req.block, x.n1.req.data, x.n1.asking, x.n1.askId, x.n1.wanted, x.n1.minted, x.n1.draws, x.n1.mints, x.n2.id, x.n2.up, x.n2.store.disk.sure, x.n2.store.disk.cache, x.n2.store.disk.fuse, x.n2.store.disk.dead, x.n2.store.sup.blocks, x.n2.store.sup.vector.current, x.n2.store.sup.vector.bitmap, x.n2.store.sup.vector.old0, x.n2.store.sup.vector.old1, x.n2.store.sup.inc, x.n2.store.sup.pri, x.n2.store.sup.dis, x.n2.store.mask, x.n2.primary, x.n2.state, x.n2.session, x.n2.peer.blocks, x.n2.peer.vector.current, x.n2.peer.vector.bitmap, x.n2.peer.vector.old0, x.n2.peer.vector.old1, x.n2.peer.inc, x.n2.peer.was, x.n2.peer.dis, x.n2.peer.pri, x.n2.peer.mask, x.n2.peerPri, x.n2.req.on, x.n2.req.id, x.n2.req.block, x.n2.req.data, x.n2.asking, x.n2.askId, x.n2.wanted, x.n2.minted, x.n2.draws, x.n2.mints, x.n3.id, x.n3.up, x.n3.store.disk.sure, x.n3.store.disk.cache, x.n3.store.disk.fuse, x.n3.store.disk.dead, x.n3.store.sup.blocks, x.n3.store.sup.vector.current, x.n3.store.sup.vector.bitmap, x.n3.store.sup.vector.old0, x.n3.store.sup.vector.old1, x.n3.store.sup.inc, x.n3.store.sup.pri, x.n3.store.sup.dis, x.n3.store.mask, x.n3.primary, x.n3.state, x.n3.session, x.n3.peer.blocks, x.n3.peer.vector.current, x.n3.peer.vector.bitmap, x.n3.peer.vector.old0, x.n3.peer.vector.old1, x.n3.peer.inc, x.n3.peer.was, x.n3.peer.dis, x.n3.peer.pri, x.n3.peer.mask, x.n3.peerPri, x.n3.req.on, x.n3.req.id, x.n3.req.block, x.n3.req.data, x.n3.asking, x.n3.askId, x.n3.wanted, x.n3.minted, x.n3.draws, x.n3.mints, x.n4.id, x.n4.up, x.n4.store.disk.sure, x.n4.store.disk.cache, x.n4.store.disk.fuse, x.n4.store.disk.dead, x.n4.store.sup.blocks, x.n4.store.sup.vector.current, x.n4.store.sup.vector.bitmap, x.n4.store.sup.vector.old0, x.n4.store.sup.vector.old1, x.n4.store.sup.inc, x.n4.store.sup.pri, x.n4.store.sup.dis, x.n4.store.mask, x.n4.primary, x.n4.state, x.n4.session, x.n4.peer.blocks, x.n4.peer.vector.current, x.n4.peer.vector.bitmap, x.n4.peer.vector.old0, x.n4.peer.vector.old1, x.n4.peer.inc, x.n4.peer.was, x.n4.peer.dis, x.n4.peer.pri, x.n4.peer.mask, x.n4.peerPri, x.n4.req.on, x.n4.req.id, x.n4.req.block, x.n4.req.data, x.n4.asking, x.n4.askId, x.n4.wanted, x.n4.minted, x.n4.draws, x.n4.mints, ())
  | _ + 22, _ => ()
def mkS : (n : Nat) → Dens (leafs n) → denS n
  | 0, d => ⟨d.1, d.2.1⟩
  | 1, d => ⟨d.1, d.2.1, d.2.2.1, d.2.2.2.1⟩
  | 2, d => ⟨d.1, d.2.1, d.2.2.1, d.2.2.2.1⟩
  | 3, d => ⟨d.1, ⟨d.2.1, d.2.2.1, d.2.2.2.1, d.2.2.2.2.1⟩, d.2.2.2.2.2.1, d.2.2.2.2.2.2.1, d.2.2.2.2.2.2.2.1⟩
  | 4, d => ⟨d.1, ⟨d.2.1, d.2.2.1, d.2.2.2.1, d.2.2.2.2.1⟩, d.2.2.2.2.2.1, d.2.2.2.2.2.2.1, d.2.2.2.2.2.2.2.1, d.2.2.2.2.2.2.2.2.1, d.2.2.2.2.2.2.2.2.2.1⟩
  | 5, d => ⟨d.1, d.2.1, ⟨d.2.2.1, ⟨d.2.2.2.1, d.2.2.2.2.1, d.2.2.2.2.2.1, d.2.2.2.2.2.2.1⟩, d.2.2.2.2.2.2.2.1, d.2.2.2.2.2.2.2.2.1, d.2.2.2.2.2.2.2.2.2.1, d.2.2.2.2.2.2.2.2.2.2.1, d.2.2.2.2.2.2.2.2.2.2.2.1⟩, d.2.2.2.2.2.2.2.2.2.2.2.2.1, d.2.2.2.2.2.2.2.2.2.2.2.2.2.1⟩
  | 6, d => ⟨d.1, d.2.1, d.2.2.1⟩
  | 7, d => ⟨d.1, d.2.1⟩
  | 8, d => ⟨⟨d.1, d.2.1, d.2.2.1, d.2.2.2.1⟩, ⟨d.2.2.2.2.1, ⟨d.2.2.2.2.2.1, d.2.2.2.2.2.2.1, d.2.2.2.2.2.2.2.1, d.2.2.2.2.2.2.2.2.1⟩, d.2.2.2.2.2.2.2.2.2.1, d.2.2.2.2.2.2.2.2.2.2.1, d.2.2.2.2.2.2.2.2.2.2.2.1⟩, d.2.2.2.2.2.2.2.2.2.2.2.2.1⟩
  | 9, d => ⟨d.1, d.2.1, d.2.2.1, d.2.2.2.1⟩
  | 10, d => ⟨d.1, d.2.1, d.2.2.1⟩
  | 11, d => ⟨d.1, d.2.1, d.2.2.1, d.2.2.2.1, d.2.2.2.2.1⟩
  | 12, d => ⟨d.1, d.2.1, d.2.2.1, d.2.2.2.1, d.2.2.2.2.1, d.2.2.2.2.2.1, d.2.2.2.2.2.2.1⟩
  | 13, d => ⟨d.1, d.2.1, ⟨⟨d.2.2.1, d.2.2.2.1, d.2.2.2.2.1, d.2.2.2.2.2.1⟩, ⟨d.2.2.2.2.2.2.1, ⟨d.2.2.2.2.2.2.2.1, d.2.2.2.2.2.2.2.2.1, d.2.2.2.2.2.2.2.2.2.1, d.2.2.2.2.2.2.2.2.2.2.1⟩, d.2.2.2.2.2.2.2.2.2.2.2.1, d.2.2.2.2.2.2.2.2.2.2.2.2.1, d.2.2.2.2.2.2.2.2.2.2.2.2.2.1⟩, d.2.2.2.2.2.2.2.2.2.2.2.2.2.2.1⟩, d.2.2.2.2.2.2.2.2.2.2.2.2.2.2.2.1, d.2.2.2.2.2.2.2.2.2.2.2.2.2.2.2.2.1, d.2.2.2.2.2.2.2.2.2.2.2.2.2.2.2.2.2.1, ⟨d.2.2.2.2.2.2.2.2.2.2.2.2.2.2.2.2.2.2.1, ⟨d.2.2.2.2.2.2.2.2.2.2.2.2.2.2.2.2.2.2.2.1, d.2.2.2.2.2.2.2.2.2.2.2.2.2.2.2.2.2.2.2.2.1, d.2.2.2.2.2.2.2.2.2.2.2.2.2.2.2.2.2.2.2.2.2.1, d.2.2.2.2.2.2.2.2.2.2.2.2.2.2.2.2.2.2.2.2.2.2.1⟩, d.2.2.2.2.2.2.2.2.2.2.2.2.2.2.2.2.2.2.2.2.2.2.2.1, d.2.2.2.2.2.2.2.2.2.2.2.2.2.2.2.2.2.2.2.2.2.2.2.2.1, d.2.2.2.2.2.2.2.2.2.2.2.2.2.2.2.2.2.2.2.2.2.2.2.2.2.1, d.2.2.2.2.2.2.2.2.2.2.2.2.2.2.2.2.2.2.2.2.2.2.2.2.2.2.1, d.2.2.2.2.2.2.2.2.2.2.2.2.2.2.2.2.2.2.2.2.2.2.2.2.2.2.2.1⟩, d.2.2.2.2.2.2.2.2.2.2.2.2.2.2.2.2.2.2.2.2.2.2.2.2.2.2.2.2.1, ⟨d.2.2.2.2.2.2.2.2.2.2.2.2.2.2.2.2.2.2.2.2.2.2.2.2.2.2.2.2.2.1, d.2.2.2.2.2.2.2.2.2.2.2.2.2.2.2.2.2.2.2.2.2.2.2.2.2.2.2.2.2.2.1, d.2.2.2.2.2.2.2.2.2.2.2.2.2.2.2.2.2.2.2.2.2.2.2.2.2.2.2.2.2.2.2.1, d.2.2.2.2.2.2.2.2.2.2.2.2.2.2.2.2.2.2.2.2.2.2.2.2.2.2.2.2.2.2.2.2.1⟩, d.2.2.2.2.2.2.2.2.2.2.2.2.2.2.2.2.2.2.2.2.2.2.2.2.2.2.2.2.2.2.2.2.2.1, d.2.2.2.2.2.2.2.2.2.2.2.2.2.2.2.2.2.2.2.2.2.2.2.2.2.2.2.2.2.2.2.2.2.2.1, d.2.2.2.2.2.2.2.2.2.2.2.2.2.2.2.2.2.2.2.2.2.2.2.2.2.2.2.2.2.2.2.2.2.2.2.1, d.2.2.2.2.2.2.2.2.2.2.2.2.2.2.2.2.2.2.2.2.2.2.2.2.2.2.2.2.2.2.2.2.2.2.2.2.1, d.2.2.2.2.2.2.2.2.2.2.2.2.2.2.2.2.2.2.2.2.2.2.2.2.2.2.2.2.2.2.2.2.2.2.2.2.2.1, d.2.2.2.2.2.2.2.2.2.2.2.2.2.2.2.2.2.2.2.2.2.2.2.2.2.2.2.2.2.2.2.2.2.2.2.2.2.2.1⟩
  | 14, d => ⟨d.1, d.2.1, d.2.2.1, d.2.2.2.1⟩
  | 15, d => ⟨⟨d.1, d.2.1, ⟨⟨d.2.2.1, d.2.2.2.1, d.2.2.2.2.1, d.2.2.2.2.2.1⟩, ⟨d.2.2.2.2.2.2.1, ⟨d.2.2.2.2.2.2.2.1, d.2.2.2.2.2.2.2.2.1, d.2.2.2.2.2.2.2.2.2.1, d.2.2.2.2.2.2.2.2.2.2.1⟩, d.2.2.2.2.2.2.2.2.2.2.2.1, d.2.2.2.2.2.2.2.2.2.2.2.2.1, d.2.2.2.2.2.2.2.2.2.2.2.2.2.1⟩, d.2.2.2.2.2.2.2.2.2.2.2.2.2.2.1⟩, d.2.2.2.2.2.2.2.2.2.2.2.2.2.2.2.1, d.2.2.2.2.2.2.2.2.2.2.2.2.2.2.2.2.1, d.2.2.2.2.2.2.2.2.2.2.2.2.2.2.2.2.2.1, ⟨d.2.2.2.2.2.2.2.2.2.2.2.2.2.2.2.2.2.2.1, ⟨d.2.2.2.2.2.2.2.2.2.2.2.2.2.2.2.2.2.2.2.1, d.2.2.2.2.2.2.2.2.2.2.2.2.2.2.2.2.2.2.2.2.1, d.2.2.2.2.2.2.2.2.2.2.2.2.2.2.2.2.2.2.2.2.2.1, d.2.2.2.2.2.2.2.2.2.2.2.2.2.2.2.2.2.2.2.2.2.2.1⟩, d.2.2.2.2.2.2.2.2.2.2.2.2.2.2.2.2.2.2.2.2.2.2.2.1, d.2.2.2.2.2.2.2.2.2.2.2.2.2.2.2.2.2.2.2.2.2.2.2.2.1, d.2.2.2.2.2.2.2.2.2.2.2.2.2.2.2.2.2.2.2.2.2.2.2.2.2.1, d.2.2.2.2.2.2.2.2.2.2.2.2.2.2.2.2.2.2.2.2.2.2.2.2.2.2.1, d.2.2.2.2.2.2.2.2.2.2.2.2.2.2.2.2.2.2.2.2.2.2.2.2.2.2.2.1⟩, d.2.2.2.2.2.2.2.2.2.2.2.2.2.2.2.2.2.2.2.2.2.2.2.2.2.2.2.2.1, ⟨d.2.2.2.2.2.2.2.2.2.2.2.2.2.2.2.2.2.2.2.2.2.2.2.2.2.2.2.2.2.1, d.2.2.2.2.2.2.2.2.2.2.2.2.2.2.2.2.2.2.2.2.2.2.2.2.2.2.2.2.2.2.1, d.2.2.2.2.2.2.2.2.2.2.2.2.2.2.2.2.2.2.2.2.2.2.2.2.2.2.2.2.2.2.2.1, d.2.2.2.2.2.2.2.2.2.2.2.2.2.2.2.2.2.2.2.2.2.2.2.2.2.2.2.2.2.2.2.2.1⟩, d.2.2.2.2.2.2.2.2.2.2.2.2.2.2.2.2.2.2.2.2.2.2.2.2.2.2.2.2.2.2.2.2.2.1, d.2.2.2.2.2.2.2.2.2.2.2.2.2.2.2.2.2.2.2.2.2.2.2.2.2.2.2.2.2.2.2.2.2.2.1, d.2.2.2.2.2.2.2.2.2.2.2.2.2.2.2.2.2.2.2.2.2.2.2.2.2.2.2.2.2.2.2.2.2.2.2.1, d.2.2.2.2.2.2.2.2.2.2.2.2.2.2.2.2.2.2.2.2.2.2.2.2.2.2.2.2.2.2.2.2.2.2.2.2.1, d.2.2.2.2.2.2.2.2.2.2.2.2.2.2.2.2.2.2.2.2.2.2.2.2.2.2.2.2.2.2.2.2.2.2.2.2.2.1, d.2.2.2.2.2.2.2.2.2.2.2.2.2.2.2.2.2.2.2.2.2.2.2.2.2.2.2.2.2.2.2.2.2.2.2.2.2.2.1⟩, ⟨d.2.2.2.2.2.2.2.2.2.2.2.2.2.2.2.2.2.2.2.2.2.2.2.2.2.2.2.2.2.2.2.2.2.2.2.2.2.2.2.1, d.2.2.2.2.2.2.2.2.2.2.2.2.2.2.2.2.2.2.2.2.2.2.2.2.2.2.2.2.2.2.2.2.2.2.2.2.2.2.2.2.1, ⟨⟨d.2.2.2.2.2.2.2.2.2.2.2.2.2.2.2.2.2.2.2.2.2.2.2.2.2.2.2.2.2.2.2.2.2.2.2.2.2.2.2.2.2.1, d.2.2.2.2.2.2.2.2.2.2.2.2.2.2.2.2.2.2.2.2.2.2.2.2.2.2.2.2.2.2.2.2.2.2.2.2.2.2.2.2.2.2.1, d.2.2.2.2.2.2.2.2.2.2.2.2.2.2.2.2.2.2.2.2.2.2.2.2.2.2.2.2.2.2.2.2.2.2.2.2.2.2.2.2.2.2.2.1, d.2.2.2.2.2.2.2.2.2.2.2.2.2.2.2.2.2.2.2.2.2.2.2.2.2.2.2.2.2.2.2.2.2.2.2.2.2.2.2.2.2.2.2.2.1⟩, ⟨d.2.2.2.2.2.2.2.2.2.2.2.2.2.2.2.2.2.2.2.2.2.2.2.2.2.2.2.2.2.2.2.2.2.2.2.2.2.2.2.2.2.2.2.2.2.1, ⟨d.2.2.2.2.2.2.2.2.2.2.2.2.2.2.2.2.2.2.2.2.2.2.2.2.2.2.2.2.2.2.2.2.2.2.2.2.2.2.2.2.2.2.2.2.2.2.1, d.2.2.2.2.2.2.2.2.2.2.2.2.2.2.2.2.2.2.2.2.2.2.2.2.2.2.2.2.2.2.2.2.2.2.2.2.2.2.2.2.2.2.2.2.2.2.2.1, d.2.2.2.2.2.2.2.2.2.2.2.2.2.2.2.2.2.2.2.2.2.2.2.2.2.2.2.2.2.2.2.2.2.2.2.2.2.2.2.2.2.2.2.2.2.2.2.2.1, d.2.2.2.2.2.2.2.2.2.2.2.2.2.2.2.2.2.2.2.2.2.2.2.2.2.2.2.2.2.2.2.2.2.2.2.2.2.2.2.2.2.2.2.2.2.2.2.2.2.1⟩, d.2.2.2.2.2.2.2.2.2.2.2.2.2.2.2.2.2.2.2.2.2.2.2.2.2.2.2.2.2.2.2.2.2.2.2.2.2.2.2.2.2.2.2.2.2.2.2.2.2.2.1, d.2.2.2.2.2.2.2.2.2.2.2.2.2.2.2.2.2.2.2.2.2.2.2.2.2.2.2.2.2.2.2.2.2.2.2.2.2.2.2.2.2.2.2.2.2.2.2.2.2.2.2.1, d.2.2.2.2.2.2.2.2.2.2.2.2.2.2.2.2.2.2.2.2.2.2.2.2.2.2.2.2.2.2.2.2.2.2.2.2.2.2.2.2.2.2.2.2.2.2.2.2.2.2.2.2.1⟩, d.2.2.2.2.2.2.2.2.2.2.2.2.2.2.2.2.2.2.2.2.2.2.2.2.2.2.2.2.2.2.2.2.2.2.2.2.2.2.2.2.2.2.2.2.2.2.2.2.2.2.2.2.2.1⟩, d.2.2.2.2.2.2.2.2.2.2.2.2.2.2.2.2.2.2.2.2.2.2.2.2.2.2.2.2.2.2.2.2.2.2.2.2.2.2.2.2.2.2.2.2.2.2.2.2.2.2.2.2.2.2.1, d.2.2.2.2.2.2.2.2.2.2.2.2.2.2.2.2.2.2.2.2.2.2.2.2.2.2.2.2.2.2.2.2.2.2.2.2.2.2.2.2.2.2.2.2.2.2.2.2.2.2.2.2.2.2.2.1, d.2.2.2.2.2.2.2.2.2.2.2.2.2.2.2.2.2.2.2.2.2.2.2.2.2.2.2.2.2.2.2.2.2.2.2.2.2.2.2.2.2.2.2.2.2.2.2.2.2.2.2.2.2.2.2.2.1, ⟨d.2.2.2.2.2.2.2.2.2.2.2.2.2.2.2.2.2.2.2.2.2.2.2.2.2.2.2.2.2.2.2.2.2.2.2.2.2.2.2.2.2.2.2.2.2.2.2.2.2.2.2.2.2.2.2.2.2.1, ⟨d.2.2.2.2.2.2.2.2.2.2.2.2.2.2.2.2.2.2.2.2.2.2.2.2.2.2.2.2.2.2.2.2.2.2.2.2.2.2.2.2.2.2.2.2.2.2.2.2.2.2.2.2.2.2.2.2.2.2.1, d.2.2.2.2.2.2.2.2.2.2.2.2.2.2.2.2.2.2.2.2.2.2.2.2.2.2.2.2.2.2.2.2.2.2.2.2.2.2.2.2.2.2.2.2.2.2.2.2.2.2.2.2.2.2.2.2.2.2.2.1, d.2.2.2.2.2.2.2.2.2.2.2.2.2.2.2.2.2.2.2.2.2.2.2.2.2.2.2.2.2.2.2.2.2.2.2.2.2.2.2.2.2.2.2.2.2.2.2.2.2.2.2.2.2.2.2.2.2.2.2.2.1, d.2.2.2.2.2.2.2.2.2.2.2.2.2.2.2.2.2.2.2.2.2.2.2.2.2.2.2.2.2.2.2.2.2.2.2.2.2.2.2.2.2.2.2.2.2.2.2.2.2.2.2.2.2.2.2.2.2.2.2.2.2.1⟩, d.2.2.2.2.2.2.2.2.2.2.2.2.2.2.2.2.2.2.2.2.2.2.2.2.2.2.2.2.2.2.2.2.2.2.2.2.2.2.2.2.2.2.2.2.2.2.2.2.2.2.2.2.2.2.2.2.2.2.2.2.2.2.1, d.2.2.2.2.2.2.2.2.2.2.2.2.2.2.2.2.2.2.2.2.2.2.2.2.2.2.2.2.2.2.2.2.2.2.2.2.2.2.2.2.2.2.2.2.2.2.2.2.2.2.2.2.2.2.2.2.2.2.2.2.2.2.2.1, d.2.2.2.2.2.2.2.2.2.2.2.2.2.2.2.2.2.2.2.2.2.2.2.2.2.2.2.2.2.2.2.2.2.2.2.2.2.2.2.2.2.2.2.2.2.2.2.2.2.2.2.2.2.2.2.2.2.2.2.2.2.2.2.2.1, d.2.2.2.2.2.2.2.2.2.2.2.2.2.2.2.2.2.2.2.2.2.2.2.2.2.2.2.2.2.2.2.2.2.2.2.2.2.2.2.2.2.2.2.2.2.2.2.2.2.2.2.2.2.2.2.2.2.2.2.2.2.2.2.2.2.1, d.2.2.2.2.2.2.2.2.2.2.2.2.2.2.2.2.2.2.2.2.2.2.2.2.2.2.2.2.2.2.2.2.2.2.2.2.2.2.2.2.2.2.2.2.2.2.2.2.2.2.2.2.2.2.2.2.2.2.2.2.2.2.2.2.2.2.1⟩, d.2.2.2.2.2.2.2.2.2.2.2.2.2.2.2.2.2.2.2.2.2.2.2.2.2.2.2.2.2.2.2.2.2.2.2.2.2.2.2.2.2.2.2.2.2.2.2.2.2.2.2.2.2.2.2.2.2.2.2.2.2.2.2.2.2.2.2.1, ⟨d.2.2.2.2.2.2.2.2.2.2.2.2.2.2.2.2.2.2.2.2.2.2.2.2.2.2.2.2.2.2.2.2.2.2.2.2.2.2.2.2.2.2.2.2.2.2.2.2.2.2.2.2.2.2.2.2.2.2.2.2.2.2.2.2.2.2.2.2.1, d.2.2.2.2.2.2.2.2.2.2.2.2.2.2.2.2.2.2.2.2.2.2.2.2.2.2.2.2.2.2.2.2.2.2.2.2.2.2.2.2.2.2.2.2.2.2.2.2.2.2.2.2.2.2.2.2.2.2.2.2.2.2.2.2.2.2.2.2.2.1, d.2.2.2.2.2.2.2.2.2.2.2.2.2.2.2.2.2.2.2.2.2.2.2.2.2.2.2.2.2.2.2.2.2.2.2.2.2.2.2.2.2.2.2.2.2.2.2.2.2.2.2.2.2.2.2.2.2.2.2.2.2.2.2.2.2.2.2.2.2.2.1, d.2.2.2.2.2.2.2.2.2.2.2.2.2.2.2.2.2.2.2.2.2.2.2.2.2.2.2.2.2.2.2.2.2.2.2.2.2.2.2.2.2.2.2.2.2.2.2.2.2.2.2.2.2.2.2.2.2.2.2.2.2.2.2.2.2.2.2.2.2.2.2.1⟩, d.2.2.2.2.2.2.2.2.2.2.2.2.2.2.2.2.2.2.2.2.2.2.2.2.2.2.2.2.2.2.2.2.2.2.2.2.2.2.2.2.2.2.2.2.2.2.2.2.2.2.2.2.2.2.2.2.2.2.2.2.2.2.2.2.2.2.2.2.2.2.2.2.1, d.2.2.2.2.2.2.2.2.2.2.2.2.2.2.2.2.2.2.2.2.2.2.2.2.2.2.2.2.2.2.2.2.2.2.2.2.2.2.2.2.2.2.2.2.2.2.2.2.2.2.2.2.2.2.2.2.2.2.2.2.2.2.2.2.2.2.2.2.2.2.2.2.2.1, d.2.2.2.2.2.2.2.2.2.2.2.2.2.2.2.2.2.2.2.2.2.2.2.2.2.2.2.2.2.2.2.2.2.2.2.2.2.2.2.2.2.2.2.2.2.2.2.2.2.2.2.2.2.2.2.2.2.2.2.2.2.2.2.2.2.2.2.2.2.2.2.2.2.2.1, d.2.2.2.2.2.2.2.2.2.2.2.2.2.2.2.2.2.2.2.2.2.2.2.2.2.2.2.2.2.2.2.2.2.2.2.2.2.2.2.2.2.2.2.2.2.2.2.2.2.2.2.2.2.2.2.2.2.2.2.2.2.2.2.2.2.2.2.2.2.2.2.2.2.2.2.1, d.2.2.2.2.2.2.2.2.2.2.2.2.2.2.2.2.2.2.2.2.2.2.2.2.2.2.2.2.2.2.2.2.2.2.2.2.2.2.2.2.2.2.2.2.2.2.2.2.2.2.2.2.2.2.2.2.2.2.2.2.2.2.2.2.2.2.2.2.2.2.2.2.2.2.2.2.1, d.2.2.2.2.2.2.2.2.2.2.2.2.2.2.2.2.2.2.2.2.2.2.2.2.2.2.2.2.2.2.2.2.2.2.2.2.2.2.2.2.2.2.2.2.2.2.2.2.2.2.2.2.2.2.2.2.2.2.2.2.2.2.2.2.2.2.2.2.2.2.2.2.2.2.2.2.2.1⟩, ⟨d.2.2.2.2.2.2.2.2.2.2.2.2.2.2.2.2.2.2.2.2.2.2.2.2.2.2.2.2.2.2.2.2.2.2.2.2.2.2.2.2.2.2.2.2.2.2.2.2.2.2.2.2.2.2.2.2.2.2.2.2.2.2.2.2.2.2.2.2.2.2.2.2.2.2.2.2.2.2.1, d.2.2.2.2.2.2.2.2.2.2.2.2.2.2.2.2.2.2.2.2.2.2.2.2.2.2.2.2.2.2.2.2.2.2.2.2.2.2.2.2.2.2.2.2.2.2.2.2.2.2.2.2.2.2.2.2.2.2.2.2.2.2.2.2.2.2.2.2.2.2.2.2.2.2.2.2.2.2.2.1, d.2.2.2.2.2.2.2.2.2.2.2.2.2.2.2.2.2.2.2.2.2.2.2.2.2.2.2.2.2.2.2.2.2.2.2.2.2.2.2.2.2.2.2.2.2.2.2.2.2.2.2.2.2.2.2.2.2.2.2.2.2.2.2.2.2.2.2.2.2.2.2.2.2.2.2.2.2.2.2.2.1, d.2.2.2.2.2.2.2.2.2.2.2.2.2.2.2.2.2.2.2.2.2.2.2.2.2.2.2.2.2.2.2.2.2.2.2.2.2.2.2.2.2.2.2.2.2.2.2.2.2.2.2.2.2.2.2.2.2.2.2.2.2.2.2.2.2.2.2.2.2.2.2.2.2.2.2.2.2.2.2.2.2.1⟩, d.2.2.2.2.2.2.2.2.2.2.2.2.2.2.2.2.2.2.2.2.2.2.2.2.2.2.2.2.2.2.2.2.2.2.2.2.2.2.2.2.2.2.2.2.2.2.2.2.2.2.2.2.2.2.2.2.2.2.2.2.2.2.2.2.2.2.2.2.2.2.2.2.2.2.2.2.2.2.2.2.2.2.1, d.2.2.2.2.2.2.2.2.2.2.2.2.2.2.2.2.2.2.2.2.2.2.2.2.2.2.2.2.2.2.2.2.2.2.2.2.2.2.2.2.2.2.2.2.2.2.2.2.2.2.2.2.2.2.2.2.2.2.2.2.2.2.2.2.2.2.2.2.2.2.2.2.2.2.2.2.2.2.2.2.2.2.2.1⟩
  | 16, d => ⟨d.1, d.2.1, d.2.2.1⟩
  | 17, d => ⟨d.1, d.2.1⟩
  | 18, d => ⟨d.1, d.2.1⟩
  | 19, d => ⟨⟨d.1, ⟨d.2.1, d.2.2.1, d.2.2.2.1, d.2.2.2.2.1⟩, d.2.2.2.2.2.1, d.2.2.2.2.2.2.1, d.2.2.2.2.2.2.2.1, d.2.2.2.2.2.2.2.2.1, d.2.2.2.2.2.2.2.2.2.1⟩, ⟨d.2.2.2.2.2.2.2.2.2.2.1, ⟨d.2.2.2.2.2.2.2.2.2.2.2.1, d.2.2.2.2.2.2.2.2.2.2.2.2.1, d.2.2.2.2.2.2.2.2.2.2.2.2.2.1, d.2.2.2.2.2.2.2.2.2.2.2.2.2.2.1⟩, d.2.2.2.2.2.2.2.2.2.2.2.2.2.2.2.1, d.2.2.2.2.2.2.2.2.2.2.2.2.2.2.2.2.1, d.2.2.2.2.2.2.2.2.2.2.2.2.2.2.2.2.2.1, d.2.2.2.2.2.2.2.2.2.2.2.2.2.2.2.2.2.2.1, d.2.2.2.2.2.2.2.2.2.2.2.2.2.2.2.2.2.2.2.1⟩, d.2.2.2.2.2.2.2.2.2.2.2.2.2.2.2.2.2.2.2.2.1⟩
  | 20, d => ⟨d.1, d.2.1, d.2.2.1, d.2.2.2.1, ⟨d.2.2.2.2.1, ⟨d.2.2.2.2.2.1, d.2.2.2.2.2.2.1, d.2.2.2.2.2.2.2.1, d.2.2.2.2.2.2.2.2.1⟩, d.2.2.2.2.2.2.2.2.2.1, d.2.2.2.2.2.2.2.2.2.2.1, d.2.2.2.2.2.2.2.2.2.2.2.1⟩⟩
  | 21, d => let e0 := d.2.2.2.2.2.2.2.2.2.2.2.2.2.2.2.2.2.2.2.2.2.2.2.2.2.2.2.2.2.2.2.2.2.2.2.2.2.2.2; let e1 := e0.2.2.2.2.2.2.2.2.2.2.2.2.2.2.2.2.2.2.2.2.2.2.2.2.2.2.2.2.2.2.2.2.2.2.2.2.2.2.2; let e2 := e1.2.2.2.2.2.2.2.2.2.2.2.2.2.2.2.2.2.2.2.2.2.2.2.2.2.2.2.2.2.2.2.2.2.2.2.2.2.2.2; let e3 := e2.2.2.2.2.2.2.2.2.2.2.2.2.2.2.2.2.2.2.2.2.2.2.2.2.2.2.2.2.2.2.2.2.2.2.2.2.2.2.2; ⟨⟨d.1, d.2.1, ⟨⟨d.2.2.1, d.2.2.2.1, d.2.2.2.2.1, d.2.2.2.2.2.1⟩, ⟨d.2.2.2.2.2.2.1, ⟨d.2.2.2.2.2.2.2.1, d.2.2.2.2.2.2.2.2.1, d.2.2.2.2.2.2.2.2.2.1, d.2.2.2.2.2.2.2.2.2.2.1⟩, d.2.2.2.2.2.2.2.2.2.2.2.1, d.2.2.2.2.2.2.2.2.2.2.2.2.1, d.2.2.2.2.2.2.2.2.2.2.2.2.2.1⟩, d.2.2.2.2.2.2.2.2.2.2.2.2.2.2.1⟩, d.2.2.2.2.2.2.2.2.2.2.2.2.2.2.2.1, d.2.2.2.2.2.2.2.2.2.2.2.2.2.2.2.2.1, d.2.2.2.2.2.2.2.2.2.2.2.2.2.2.2.2.2.1, ⟨d.2.2.2.2.2.2.2.2.2.2.2.2.2.2.2.2.2.2.1, ⟨d.2.2.2.2.2.2.2.2.2.2.2.2.2.2.2.2.2.2.2.1, d.2.2.2.2.2.2.2.2.2.2.2.2.2.2.2.2.2.2.2.2.1, d.2.2.2.2.2.2.2.2.2.2.2.2.2.2.2.2.2.2.2.2.2.1, d.2.2.2.2.2.2.2.2.2.2.2.2.2.2.2.2.2.2.2.2.2.2.1⟩, d.2.2.2.2.2.2.2.2.2.2.2.2.2.2.2.2.2.2.2.2.2.2.2.1, d.2.2.2.2.2.2.2.2.2.2.2.2.2.2.2.2.2.2.2.2.2.2.2.2.1, d.2.2.2.2.2.2.2.2.2.2.2.2.2.2.2.2.2.2.2.2.2.2.2.2.2.1, d.2.2.2.2.2.2.2.2.2.2.2.2.2.2.2.2.2.2.2.2.2.2.2.2.2.2.1, d.2.2.2.2.2.2.2.2.2.2.2.2.2.2.2.2.2.2.2.2.2.2.2.2.2.2.2.1⟩, d.2.2.2.2.2.2.2.2.2.2.2.2.2.2.2.2.2.2.2.2.2.2.2.2.2.2.2.2.1, ⟨d.2.2.2.2.2.2.2.2.2.2.2.2.2.2.2.2.2.2.2.2.2.2.2.2.2.2.2.2.2.1, d.2.2.2.2.2.2.2.2.2.2.2.2.2.2.2.2.2.2.2.2.2.2.2.2.2.2.2.2.2.2.1, d.2.2.2.2.2.2.2.2.2.2.2.2.2.2.2.2.2.2.2.2.2.2.2.2.2.2.2.2.2.2.2.1, d.2.2.2.2.2.2.2.2.2.2.2.2.2.2.2.2.2.2.2.2.2.2.2.2.2.2.2.2.2.2.2.2.1⟩, d.2.2.2.2.2.2.2.2.2.2.2.2.2.2.2.2.2.2.2.2.2.2.2.2.2.2.2.2.2.2.2.2.2.1, d.2.2.2.2.2.2.2.2.2.2.2.2.2.2.2.2.2.2.2.2.2.2.2.2.2.2.2.2.2.2.2.2.2.2.1, d.2.2.2.2.2.2.2.2.2.2.2.2.2.2.2.2.2.2.2.2.2.2.2.2.2.2.2.2.2.2.2.2.2.2.2.1, d.2.2.2.2.2.2.2.2.2.2.2.2.2.2.2.2.2.2.2.2.2.2.2.2.2.2.2.2.2.2.2.2.2.2.2.2.1, d.2.2.2.2.2.2.2.2.2.2.2.2.2.2.2.2.2.2.2.2.2.2.2.2.2.2.2.2.2.2.2.2.2.2.2.2.2.1, d.2.2.2.2.2.2.2.2.2.2.2.2.2.2.2.2.2.2.2.2.2.2.2.2.2.2.2.2.2.2.2.2.2.2.2.2.2.2.1⟩, ⟨e0.1, e0.2.1, ⟨⟨e0.2.2.1, e0.2.2.2.1, e0.2.2.2.2.1, e0.2.2.2.2.2.1⟩, ⟨e0.2.2.2.2.2.2.1, ⟨e0.2.2.2.2.2.2.2.1, e0.2.2.2.2.2.2.2.2.1, e0.2.2.2.2.2.2.2.2.2.1, e0.2.2.2.2.2.2.2.2.2.2.1⟩, e0.2.2.2.2.2.2.2.2.2.2.2.1, e0.2.2.2.2.2.2.2.2.2.2.2.2.1, e0.2.2.2.2.2.2.2.2.2.2.2.2.2.1⟩, e0.2.2.2.2.2.2.2.2.2.2.2.2.2.2.1⟩, e0.2.2.2.2.2.2.2.2.2.2.2.2.2.2.2.1, e0.2.2.2.2.2.2.2.2.2.2.2.2.2.2.2.2.1, e0.2.2.2.2.2.2.2.2.2.2.2.2.2.2.2.2.2.1, ⟨e0.2.2.2.2.2.2.2.2.2.2.2.2.2.2.2.2.2.2.1, ⟨e0.2.2.2.2.2.2.2.2.2.2.2.2.2.2.2.2.2.2.2.1, e0.2.2.2.2.2.2.2.2.2.2.2.2.2.2.2.2.2.2.2.2.1, e0.2.2.2.2.2.2.2.2.2.2.2.2.2.2.2.2.2.2.2.2.2.1, e0.2.2.2.2.2.2.2.2.2.2.2.2.2.2.2.2.2.2.2.2.2.2.1⟩, e0.2.2.2.2.2.2.2.2.2.2.2.2.2.2.2.2.2.2.2.2.2.2.2.1, e0.2.2.2.2.2.2.2.2.2.2.2.2.2.2.2.2.2.2.2.2.2.2.2.2.1, e0.2.2.2.2.2.2.2.2.2.2.2.2.2.2.2.2.2.2.2.2.2.2.2.2.2.1, e0.2.2.2.2.2.2.2.2.2.2.2.2.2.2.2.2.2.2.2.2.2.2.2.2.2.2.1, e0.2.2.2.2.2.2.2.2.2.2.2.2.2.2.2.2.2.2.2.2.2.2.2.2.2.2.2.1⟩, e0.2.2.2.2.2.2.2.2.2.2.2.2.2.2.2.2.2.2.2.2.2.2.2.2.2.2.2.2.1, ⟨e0.2.2.2.2.2.2.2.2.2.2.2.2.2.2.2.2.2.2.2.2.2.2.2.2.2.2.2.2.2.1, e0.2.2.2.2.2.2.2.2.2.2.2.2.2.2.2.2.2.2.2.2.2.2.2.2.2.2.2.2.2.2.1, e0.2.2.2.2.2.2.2.2.2.2.2.2.2.2.2.2.2.2.2.2.2.2.2.2.2.2.2.2.2.2.2.1, e0.2.2.2.2.2.2.2.2.2.2.2.2.2.2.2.2.2.2.2.2.2.2.2.2.2.2.2.2.2.2.2.2.1⟩, e0.2.2.2.2.2.2.2.2.2.2.2.2.2.2.2.2.2.2.2.2.2.2.2.2.2.2.2.2.2.2.2.2.2.1, e0.2.2.2.2.2.2.2.2.2.2.2.2.2.2.2.2.2.2.2.2.2.2.2.2.2.2.2.2.2.2.2.2.2.2.1, e0.2.2.2.2.2.2.2.2.2.2.2.2.2.2.2.2.2.2.2.2.2.2.2.2.2.2.2.2.2.2.2.2.2.2.2.1, e0.2.2.2.2.2.2.2.2.2.2.2.2.2.2.2.2.2.2.2.2.2.2.2.2.2.2.2.2.2.2.2.2.2.2.2.2.1, e0.2.2.2.2.2.2.2.2.2.2.2.2.2.2.2.2.2.2.2.2.2.2.2.2.2.2.2.2.2.2.2.2.2.2.2.2.2.1, e0.2.2.2.2.2.2.2.2.2.2.2.2.2.2.2.2.2.2.2.2.2.2.2.2.2.2.2.2.2.2.2.2.2.2.2.2.2.2.1⟩, ⟨e1.1, e1.2.1, ⟨⟨e1.2.2.1, e1.2.2.2.1, e1.2.2.2.2.1, e1.2.2.2.2.2.1⟩, ⟨e1.2.2.2.2.2.2.1, ⟨e1.2.2.2.2.2.2.2.1, e1.2.2.2.2.2.2.2.2.1, e1.2.2.2.2.2.2.2.2.2.1, e1.2.2.2.2.2.2.2.2.2.2.1⟩, e1.2.2.2.2.2.2.2.2.2.2.2.1, e1.2.2.2.2.2.2.2.2.2.2.2.2.1, e1.2.2.2.2.2.2.2.2.2.2.2.2.2.1⟩, e1.2.2.2.2.2.2.2.2.2.2.2.2.2.2.1⟩, e1.2.2.2.2.2.2.2.2.2.2.2.2.2.2.2.1, e1.2.2.2.2.2.2.2.2.2.2.2.2.2.2.2.2.1, e1.2.2.2.2.2.2.2.2.2.2.2.2.2.2.2.2.2.1, ⟨e1.2.2.2.2.2.2.2.2.2.2.2.2.2.2.2.2.2.2.1, ⟨e1.2.2.2.2.2.2.2.2.2.2.2.2.2.2.2.2.2.2.2.1, e1.2.2.2.2.2.2.2.2.2.2.2.2.2.2.2.2.2.2.2.2.1, e1.2.2.2.2.2.2.2.2.2.2.2.2.2.2.2.2.2.2.2.2.2.1, e1.2.2.2.2.2.2.2.2.2.2.2.2.2.2.2.2.2.2.2.2.2.2.1⟩, e1.2.2.2.2.2.2.2.2.2.2.2.2.2.2.2.2.2.2.2.2.2.2.2.1, e1.2.2.2.2.2.2.2.2.2.2.2.2.2.2.2.2.2.2.2.2.2.2.2.2.1, e1.2.2.2.2.2.2.2.2.2.2.2.2.2.2.2.2.2.2.2.2.2.2.2.2.2.1, e1.2.2.2.2.2.2.2.2.2.2.2.2.2.2.2.2.2.2.2.2.2.2.2.2.2.2.1, e1.2.2.2.2.2.2.2.2.2.2.2.2.2.2.2.2.2.2.2.2.2.2.2.2.2.2.2.1⟩, e1.2.2.2.2.2.2.2.2.2.2.2.2.2.2.2.2.2.2.2.2.2.2.2.2.2.2.2.2.1, ⟨e1.2.2.2.2.2.2.2.2.2.2.2.2.2.2.2.2.2.2.2.2.2.2.2.2.2.2.2.2.2.1, e1.2.2.2.2.2.2.2.2.2.2.2.2.2.2.2.2.2.2.2.2.2.2.2.2.2.2.2.2.2.2.1, e1.2.2.2.2.2.2.2.2.2.2.2.2.2.2.2.2.2.2.2.2.2.2.2.2.2.2.2.2.2.2.2.1, e1.2.2.2.2.2.2.2.2.2.2.2.2.2.2.2.2.2.2.2.2.2.2.2.2.2.2.2.2.2.2.2.2.1⟩, e1.2.2.2.2.2.2.2.2.2.2.2.2.2.2.2.2.2.2.2.2.2.2.2.2.2.2.2.2.2.2.2.2.2.1, e1.2.2.2.2.2.2.2.2.2.2.2.2.2.2.2.2.2.2.2.2.2.2.2.2.2.2.2.2.2.2.2.2.2.2.1, e1.2.2.2.2.2.2.2.2.2.2.2.2.2.2.2.2.2.2.2.2.2.2.2.2.2.2.2.2.2.2.2.2.2.2.2.1, e1.2.2.2.2.2.2.2.2.2.2.2.2.2.2.2.2.2.2.2.2.2.2.2.2.2.2.2.2.2.2.2.2.2.2.2.2.1, e1.2.2.2.2.2.2.2.2.2.2.2.2.2.2.2.2.2.2.2.2.2.2.2.2.2.2.2.2.2.2.2.2.2.2.2.2.2.1, e1.2.2.2.2.2.2.2.2.2.2.2.2.2.2.2.2.2.2.2.2.2.2.2.2.2.2.2.2.2.2.2.2.2.2.2.2.2.2.1⟩, ⟨e2.1, e2.2.1, ⟨⟨e2.2.2.1, e2.2.2.2.1, e2.2.2.2.2.1, e2.2.2.2.2.2.1⟩, ⟨e2.2.2.2.2.2.2.1, ⟨e2.2.2.2.2.2.2.2.1, e2.2.2.2.2.2.2.2.2.1, e2.2.2.2.2.2.2.2.2.2.1, e2.2.2.2.2.2.2.2.2.2.2.1⟩, e2.2.2.2.2.2.2.2.2.2.2.2.1, e2.2.2.2.2.2.2.2.2.2.2.2.2.1, e2.2.2.2.2.2.2.2.2.2.2.2.2.2.1⟩, e2.2.2.2.2.2.2.2.2.2.2.2.2.2.2.1⟩, e2.2.2.2.2.2.2.2.2.2.2.2.2.2.2.2.1, e2.2.2.2.2.2.2.2.2.2.2.2.2.2.2.2.2.1, e2.2.2.2.2.2.2.2.2.2.2.2.2.2.2.2.2.2.1, ⟨e2.2.2.2.2.2.2.2.2.2.2.2.2.2.2.2.2.2.2.1, ⟨e2.2.2.2.2.2.2.2.2.2.2.2.2.2.2.2.2.2.2.2.1, e2.2.2.2.2.2.2.2.2.2.2.2.2.2.2.2.2.2.2.2.2.1, e2.2.2.2.2.2.2.2.2.2.2.2.2.2.2.2.2.2.2.2.2.2.1, e2.2.2.2.2.2.2.2.2.2.2.2.2.2.2.2.2.2.2.2.2.2.2.1⟩, e2.2.2.2.2.2.2.2.2.2.2.2.2.2.2.2.2.2.2.2.2.2.2.2.1, e2.2.2.2.2.2.2.2.2.2.2.2.2.2.2.2.2.2.2.2.2.2.2.2.2.1, e2.2.2.2.2.2.2.2.2.2.2.2.2.2.2.2.2.2.2.2.2.2.2.2.2.2.1, e2.2.2.2.2.2.2.2.2.2.2.2.2.2.2.2.2.2.2.2.2.2.2.2.2.2.2.1, e2.2.2.2.2.2.2.2.2.2.2.2.2.2.2.2.2.2.2.2.2.2.2.2.2.2.2.2.1⟩, e2.2.2.2.2.2.2.2.2.2.2.2.2.2.2.2.2.2.2.2.2.2.2.2.2.2.2.2.2.1, ⟨e2.2.2.2.2.2.2.2.2.2.2.2.2.2.2.2.2.2.2.2.2.2.2.2.2.2.2.2.2.2.1, e2.2.2.2.2.2.2.2.2.2.2.2.2.2.2.2.2.2.2.2.2.2.2.2.2.2.2.2.2.2.2.1, e2.2.2.2.2.2.2.2.2.2.2.2.2.2.2.2.2.2.2.2.2.2.2.2.2.2.2.2.2.2.2.2.1, e2.2.2.2.2.2.2.2.2.2.2.2.2.2.2.2.2.2.2.2.2.2.2.2.2.2.2.2.2.2.2.2.2.1⟩, e2.2.2.2.2.2.2.2.2.2.2.2.2.2.2.2.2.2.2.2.2.2.2.2.2.2.2.2.2.2.2.2.2.2.1, e2.2.2.2.2.2.2.2.2.2.2.2.2.2.2.2.2.2.2.2.2.2.2.2.2.2.2.2.2.2.2.2.2.2.2.1, e2.2.2.2.2.2.2.2.2.2.2.2.2.2.2.2.2.2.2.2.2.2.2.2.2.2.2.2.2.2.2.2.2.2.2.2.1, e2.2.2.2.2.2.2.2.2.2.2.2.2.2.2.2.2.2.2.2.2.2.2.2.2.2.2.2.2.2.2.2.2.2.2.2.2.1, e2.2.2.2.2.2.2.2.2.2.2.2.2.2.2.2.2.2.2.2.2.2.2.2.2.2.2.2.2.2.2.2.2.2.2.2.2.2.1, e2.2.2.2.2.2.2.2.2.2.2.2.2.2.2.2.2.2.2.2.2.2.2.2.2.2.2.2.2.2.2.2.2.2.2.2.2.2.2.1⟩, ⟨e3.1, e3.2.1, ⟨⟨e3.2.2.1, e3.2.2.2.1, e3.2.2.2.2.1, e3.2.2.2.2.2.1⟩, ⟨e3.2.2.2.2.2.2.1, ⟨e3.2.2.2.2.2.2.2.1, e3.2.2.2.2.2.2.2.2.1, e3.2.2.2.2.2.2.2.2.2.1, e3.2.2.2.2.2.2.2.2.2.2.1⟩, e3.2.2.2.2.2.2.2.2.2.2.2.1, e3.2.2.2.2.2.2.2.2.2.2.2.2.1, e3.2.2.2.2.2.2.2.2.2.2.2.2.2.1⟩, e3.2.2.2.2.2.2.2.2.2.2.2.2.2.2.1⟩, e3.2.2.2.2.2.2.2.2.2.2.2.2.2.2.2.1, e3.2.2.2.2.2.2.2.2.2.2.2.2.2.2.2.2.1, e3.2.2.2.2.2.2.2.2.2.2.2.2.2.2.2.2.2.1, ⟨e3.2.2.2.2.2.2.2.2.2.2.2.2.2.2.2.2.2.2.1, ⟨e3.2.2.2.2.2.2.2.2.2.2.2.2.2.2.2.2.2.2.2.1, e3.2.2.2.2.2.2.2.2.2.2.2.2.2.2.2.2.2.2.2.2.1, e3.2.2.2.2.2.2.2.2.2.2.2.2.2.2.2.2.2.2.2.2.2.1, e3.2.2.2.2.2.2.2.2.2.2.2.2.2.2.2.2.2.2.2.2.2.2.1⟩, e3.2.2.2.2.2.2.2.2.2.2.2.2.2.2.2.2.2.2.2.2.2.2.2.1, e3.2.2.2.2.2.2.2.2.2.2.2.2.2.2.2.2.2.2.2.2.2.2.2.2.1, e3.2.2.2.2.2.2.2.2.2.2.2.2.2.2.2.2.2.2.2.2.2.2.2.2.2.1, e3.2.2.2.2.2.2.2.2.2.2.2.2.2.2.2.2.2.2.2.2.2.2.2.2.2.2.1, e3.2.2.2.2.2.2.2.2.2.2.2.2.2.2.2.2.2.2.2.2.2.2.2.2.2.2.2.1⟩, e3.2.2.2.2.2.2.2.2.2.2.2.2.2.2.2.2.2.2.2.2.2.2.2.2.2.2.2.2.1, ⟨e3.2.2.2.2.2.2.2.2.2.2.2.2.2.2.2.2.2.2.2.2.2.2.2.2.2.2.2.2.2.1, e3.2.2.2.2.2.2.2.2.2.2.2.2.2.2.2.2.2.2.2.2.2.2.2.2.2.2.2.2.2.2.1, e3.2.2.2.2.2.2.2.2.2.2.2.2.2.2.2.2.2.2.2.2.2.2.2.2.2.2.2.2.2.2.2.1, e3.2.2.2.2.2.2.2.2.2.2.2.2.2.2.2.2.2.2.2.2.2.2.2.2.2.2.2.2.2.2.2.2.1⟩, e3.2.2.2.2.2.2.2.2.2.2.2.2.2.2.2.2.2.2.2.2.2.2.2.2.2.2.2.2.2.2.2.2.2.1, e3.2.2.2.2.2.2.2.2.2.2.2.2.2.2.2.2.2.2.2.2.2.2.2.2.2.2.2.2.2.2.2.2.2.2.1, e3.2.2.2.2.2.2.2.2.2.2.2.2.2.2.2.2.2.2.2.2.2.2.2.2.2.2.2.2.2.2.2.2.2.2.2.1, e3.2.2.2.2.2.2.2.2.2.2.2.2.2.2.2.2.2.2.2.2.2.2.2.2.2.2.2.2.2.2.2.2.2.2.2.2.1, e3.2.2.2.2.2.2.2.2.2.2.2.2.2.2.2.2.2.2.2.2.2.2.2.2.2.2.2.2.2.2.2.2.2.2.2.2.2.1, e3.2.2.2.2.2.2.2.2.2.2.2.2.2.2.2.2.2.2.2.2.2.2.2.2.2.2.2.2.2.2.2.2.2.2.2.2.2.2.1⟩⟩
  | _ + 22, _ => ()
theorem unS_mkS21 (d : Dens (leafs 21)) : unS 21 (mkS 21 d) = d := by kernel_rfl
theorem unS_mkS : ∀ (n : Nat) (d : Dens (leafs n)), unS n (mkS n d) = d
  | 0, _ => rfl
  | 1, _ => rfl
  | 2, _ => rfl
  | 3, _ => rfl
  | 4, _ => rfl
  | 5, _ => rfl
  | 6, _ => rfl
  | 7, _ => rfl
  | 8, _ => rfl
  | 9, _ => rfl
  | 10, _ => rfl
  | 11, _ => rfl
  | 12, _ => rfl
  | 13, _ => rfl
  | 14, _ => rfl
  | 15, _ => rfl
  | 16, _ => rfl
  | 17, _ => rfl
  | 18, _ => rfl
  | 19, _ => rfl
  | 20, _ => rfl
  | 21, d => unS_mkS21 d
  | _ + 22, _ => rfl
inductive SF where
  | any | full | nn
inductive AV : Type where
  | int (k : IntKind) (n : Int)
  | bool (b : Bool)
  | str (s : Str)
  | agg (cs : List AV)
  | tup (cs : List AV)
  | nilp
  | ptr (b o : Nat)
  | fptr (cs : List AV) (o : Nat)
  | elt (b : Nat) (i : Nat) (o : Nat)
  | snil
  | sl (f : SF) (t : Ty) (xs : List t.den)
  | vl (vs : List AV)
  | slr (b : Nat)
  | func (f : FuncId) (first captured : List AV)
  | nilf
  | iface (t : Nat) (v : AV)
  | nili
  | top
def encLf : (t : Ty) → t.den → AV
  | .int k, n => .int k n
  | .bool, b => .bool b
  | .str, s => .str s
  | .slice t, xs => .sl .any t xs
  | .st _, _ => .snil
def encL : (ts : List Ty) → Dens ts → List AV
  | [], _ => []
  | t :: r, d => encLf t d.1 :: encL r d.2
def encS (n : Nat) (x : denS n) : List AV := encL (leafs n) (unS n x)
def enc : (t : Ty) → t.den → AV
  | .int k, n => .int k n
  | .bool, b => .bool b
  | .str, s => .str s
  | .slice t, xs => .sl .any t xs
  | .st n, x => .agg (encS n x)
def AV.cells : AV → List AV
  | .agg cs => cs
  | v => [v]
def Ty.sz : Ty → Nat
  | .st n => (leafs n).length
  | _ => 1
def decLf (f : (t : Ty) → AV → Option (List t.den)) : (t : Ty) → AV → Option t.den
  | .int k, .int k' n => if k' = k then some n else none
  | .bool, .bool b => some b
  | .str, .str s => some s
  | .slice t, v => f t v
  | _, _ => none
def decL (f : (t : Ty) → AV → Option (List t.den)) : (ts : List Ty) → List AV → Option (Dens ts)
  | [], [] => some ()
  | t :: r, v :: vs => match decLf f t v, decL f r vs with
    | some x, some y => some (x, y)
    | _, _ => none
  | _, _ => none
def decSG (f : (t : Ty) → AV → Option (List t.den)) (n : Nat) (cs : List AV) : Option (denS n) := match decL f (leafs n) cs with
  | some d => some (mkS n d)
  | none => none
def decSl0 (t : Ty) : AV → Option (List t.den)
  | .snil => some []
  | .sl _ t' xs => if h : t' = t then some (h ▸ xs) else none
  | _ => none
def decE : (t : Ty) → AV → Option t.den
  | .st n, .agg cs => decSG decSl0 n cs
  | .st _, _ => none
  | .slice _, _ => none
  | t, v => decLf decSl0 t v
def decEs (t : Ty) : List AV → Option (List t.den)
  | [] => some []
  | v :: vs => match decE t v, decEs t vs with
    | some x, some xs => some (x :: xs)
    | _, _ => none
def decSl (t : Ty) : AV → Option (List t.den)
  | .snil => some []
  | .sl _ t' xs => if h : t' = t then some (h ▸ xs) else none
  | .vl vs => decEs t vs
  | _ => none
def dec : (t : Ty) → AV → Option t.den
  | .int k, .int k' n => if k' = k then some n else none
  | .bool, .bool b => some b
  | .str, .str s => some s
  | .slice t, v => decSl t v
  | .st n, .agg cs => decSG decSl n cs
  | _, _ => none
inductive Weak : AV → AV → Prop where
  | refl (v) : Weak v v
  | own (o t xs) : Weak (.sl o t xs) (.sl .any t xs)
  | nil (t) : Weak .snil (.sl .any t [])
  | vl (t : Ty) (vs : List AV) (xs : List t.den) : vs.length = xs.length → (∀ i (h : i < vs.length) (h' : i < xs.length), Weak vs[i] (enc t xs[i])) → Weak (.vl vs) (.sl .any t xs)
  | agg (cs ds) : cs.length = ds.length → (∀ i (h : i < cs.length) (h' : i < ds.length), Weak cs[i] ds[i]) → Weak (.agg cs) (.agg ds)
theorem encL_length : ∀ (ts : List Ty) (d : Dens ts), (encL ts d).length = ts.length
  | [], _ => rfl
  | _ :: r, d => by simp [encL, encL_length r d.2]
theorem decSl0_weak {t : Ty} {v : AV} {xs : List t.den} (h : decSl0 t v = some xs) : Weak v (.sl .any t xs) := by
  unfold decSl0 at h
  split at h
  · cases h; exact .nil _
  · rename_i o t' ys
    split at h
    · rename_i e; subst e; cases h; exact .own _ _ _
    · cases h
  · cases h
theorem decLf_weak {f : (t : Ty) → AV → Option (List t.den)} (hf : ∀ t v xs, f t v = some xs → Weak v (.sl .any t xs)) {t : Ty} {v : AV} {x : t.den} (h : decLf f t v = some x) : Weak v (encLf t x) := by
  unfold decLf at h
  split at h
  · split at h
    · rename_i e; subst e; cases h; exact .refl _
    · cases h
  · cases h; exact .refl _
  · cases h; exact .refl _
  · exact hf _ _ _ h
  · cases h
theorem decL_weak {f : (t : Ty) → AV → Option (List t.den)} (hf : ∀ t v xs, f t v = some xs → Weak v (.sl .any t xs)) : ∀ {ts : List Ty} {cs : List AV} {d : Dens ts}, decL f ts cs = some d →
    cs.length = (encL ts d).length ∧ ∀ i (h : i < cs.length) (h' : i < (encL ts d).length), Weak cs[i] (encL ts d)[i]
  | [], [], _, _ => ⟨rfl, fun i h => by simp at h⟩
  | t :: r, v :: vs, d, h => by
    unfold decL at h
    split at h
    · rename_i x y hx hy
      cases h
      obtain ⟨h1, h2⟩ := decL_weak hf hy
      refine ⟨by simp [encL, h1], ?_⟩
      intro i hi hi'
      cases i with
      | zero => exact decLf_weak hf hx
      | succ i => exact h2 i (by simpa using hi) (by simpa [encL] using hi')
    · cases h
  | [], _ :: _, _, h => by cases h
  | _ :: _, [], _, h => by cases h
theorem decSG_weak {f : (t : Ty) → AV → Option (List t.den)} (hf : ∀ t v xs, f t v = some xs → Weak v (.sl .any t xs)) {n : Nat} {cs : List AV} {x : denS n} (h : decSG f n cs = some x) : Weak (.agg cs) (.agg (encS n x)) := by
  unfold decSG at h
  split at h
  · rename_i d hd
    cases h
    obtain ⟨h1, h2⟩ := decL_weak hf hd
    unfold encS
    rw [unS_mkS]
    exact .agg _ _ h1 h2
  · cases h
theorem decE_weak {t : Ty} {v : AV} {x : t.den} (h : decE t v = some x) : Weak v (enc t x) := by
  unfold decE at h
  split at h
  · exact decSG_weak (fun _ _ _ => decSl0_weak) h
  · cases h
  · cases h
  · rename_i h1 h2 h3
    have := decLf_weak (fun _ _ _ => decSl0_weak) h
    cases t with
    | st n => first | exact (h1 n rfl).elim | exact (h2 n rfl).elim | exact (h3 n rfl).elim
    | slice t => first | exact (h1 t rfl).elim | exact (h2 t rfl).elim | exact (h3 t rfl).elim
    | _ => exact this
theorem decEs_weak {t : Ty} : ∀ {vs : List AV} {xs : List t.den}, decEs t vs = some xs → vs.length = xs.length ∧ ∀ i (h : i < vs.length) (h' : i < xs.length), Weak vs[i] (enc t xs[i])
  | [], xs, h => by cases h; exact ⟨rfl, fun i h => by simp at h⟩
  | v :: vs, xs, h => by
    unfold decEs at h
    split at h
    · rename_i x ys h1 h2
      cases h
      obtain ⟨e1, e2⟩ := decEs_weak h2
      refine ⟨by simp [e1], ?_⟩
      intro i hi hi'
      cases i with
      | zero => exact decE_weak h1
      | succ i => exact e2 i (by simpa using hi) (by simpa using hi')
    · cases h
theorem decSl_weak {t : Ty} {v : AV} {xs : List t.den} (h : decSl t v = some xs) : Weak v (.sl .any t xs) := by
  unfold decSl at h
  split at h
  · cases h; exact .nil _
  · rename_i o t' ys
    split at h
    · rename_i e; subst e; cases h; exact .own _ _ _
    · cases h
  · obtain ⟨h1, h2⟩ := decEs_weak h
    exact .vl _ _ _ h1 h2
  · cases h
theorem dec_weak {t : Ty} {v : AV} {x : t.den} (h : dec t v = some x) : Weak v (enc t x) := by
  unfold dec at h
  split at h
  · split at h
    · rename_i e; subst e; cases h; exact .refl _
    · cases h
  · cases h; exact .refl _
  · cases h; exact .refl _
  · exact decSl_weak h
  · exact decSG_weak (fun _ _ _ => decSl_weak) h
  · cases h
theorem encS_length (n : Nat) (x : denS n) : (encS n x).length = (Ty.st n).sz := encL_length _ _
theorem enc_cells_length (t : Ty) (x : t.den) : (enc t x).cells.length = t.sz := by
  cases t with
  | st n => exact encS_length n x
  | _ => rfl
theorem encL_mem : ∀ {ts : List Ty} {d : Dens ts} {c : AV}, c ∈ encL ts d → ∃ (t : Ty) (x : t.den), t ∈ ts ∧ c = encLf t x
  | [], _, _, h => by cases h
  | t :: r, d, c, h => by
    rcases List.mem_cons.1 h with rfl | h
    · exact ⟨t, d.1, List.mem_cons_self, rfl⟩
    · obtain ⟨u, x, hu, e⟩ := encL_mem h
      exact ⟨u, x, List.mem_cons_of_mem _ hu, e⟩
theorem weak_length {a b : AV} (h : Weak a b) : a.cells.length = b.cells.length := by
  cases h <;> first | rfl | assumption
theorem weak_cells {a b : AV} (h : Weak a b) (j : Nat) (c d : AV) (hc : a.cells[j]? = some c) (hd : b.cells[j]? = some d) : Weak c d := by
  have one : ∀ {x y : AV}, Weak x y → x.cells = [x] → y.cells = [y] → x.cells[j]? = some c → y.cells[j]? = some d → Weak c d := by
    intro x y hw hx hy h1 h2
    rw [hx] at h1
    rw [hy] at h2
    cases j with
    | zero => simp at h1 h2; subst h1; subst h2; exact hw
    | succ j => simp at h1
  cases h with
  | refl => rw [hc] at hd; cases hd; exact .refl _
  | own o t xs => exact one (.own o t xs) rfl rfl hc hd
  | nil t => exact one (.nil t) rfl rfl hc hd
  | vl t vs xs e h => exact one (.vl t vs xs e h) rfl rfl hc hd
  | agg cs ds e h =>
    have h1 : j < cs.length := (List.getElem?_eq_some_iff.1 hc).1
    have h2 : j < ds.length := (List.getElem?_eq_some_iff.1 hd).1
    have h3 := h j h1 h2
    have e1 : cs[j] = c := (List.getElem?_eq_some_iff.1 hc).2
    have e2 : ds[j] = d := (List.getElem?_eq_some_iff.1 hd).2
    rw [e1, e2] at h3
    exact h3
theorem weak_agg {a : AV} {ds : List AV} (h : Weak a (.agg ds)) : ∃ cs, a = .agg cs := by
  cases h with
  | refl => exact ⟨_, rfl⟩
  | agg cs _ _ _ => exact ⟨_, rfl⟩
theorem weak_one {a b : AV} (h : Weak a b) (hb : ∀ ds, b ≠ .agg ds) : a.cells = [a] := by
  cases h with
  | refl => cases a <;> first | rfl | exact absurd rfl (hb _)
  | own => rfl
  | nil => rfl
  | vl => rfl
  | agg cs ds e _ => exact absurd rfl (hb ds)
end Gm

namespace Gm
open Go
inductive Blk where
  | dead
  | cells (cs : List AV)
  | row (ro : Bool) (t : Ty) (xs : List t.den)
structure HS where
  hp : Nat → Blk
  hn : Nat
structure St where
  fr : Nat → AV
  hs : HS
def upd {α : Type} (f : Nat → α) (k : Nat) (v : α) : Nat → α := fun n => bif Nat.beq n k then v else f n
def vAV0 : Value → AV
  | .bool b => .bool b
  | .int k n => .int k n
  | .string s => .str s.data.toList
  | .pointer none => .nilp
  | .slice none 0 0 => .snil
  | .nilFunc => .nilf
  | .nilIface => .nili
  | _ => .top
def vAV1 : Value → AV
  | .agg cs => .agg (cs.toList.map vAV0)
  | v => vAV0 v
def vAV : Value → AV
  | .iface t v => .iface t (vAV1 v)
  | v => vAV1 v
def oval (fr : Nat → AV) : Operand → AV
  | .tmp t => fr t
  | .const v => vAV v
  | .func f => .func f [] []
  | .global _ => .top
structure Env where
  P : Program
  ty : TypeId → Option Ty
  clone : FuncId → Option (Ty × Nat)
  cp : Option Nat → Nat → Bool := fun _ _ => false
  V : World → Prop := fun _ => True
  ro : FuncId → Bool := fun _ => false
  nd : FuncId → Bool := fun _ => false
  dm : Nat → Nat → Bool := fun _ _ => false
abbrev Entry := List AV → (AV → Prop) → Prop
abbrev Callee := FuncId → List AV → HS → (AV → HS → Prop) → Prop
variable (E : Env)
def szT (t : TypeId) : Option Nat := (E.P.info? t).map (·.size)
def aggD : TypeDesc → Bool | .struct _ => true | .array _ _ => true | _ => false
def zeroC (t : TypeId) : Option AV := ((E.P.info? t).bind (·.zero)).map vAV
def elemT (t : TypeId) : Option TypeId := match E.P.underlying t with | some (.slice e) => some e | _ => none
def AV.solid : AV → Bool
  | .top => false
  | .tup _ => false
  | _ => true
def oneC : AV → Bool
  | .agg _ => false
  | .tup _ => false
  | .top => false
  | _ => true
def partC (t : TypeId) (cs : List AV) (off : Nat) : Option AV :=
  match szT E t, E.P.underlying t with
  | some n, some d => if aggD d then (if off + n ≤ cs.length then some (.agg ((cs.drop off).take n)) else none) else cs[off]?
  | _, _ => none
def spliceC (cs : List AV) (off : Nat) (v : List AV) : List AV := cs.take off ++ (v ++ cs.drop (off + v.length))
def fillC (place : Nat → Option (Nat × Nat)) (cs : List AV) : List (Nat × AV) → Option (List AV)
  | [] => some cs
  | (i, v) :: rest =>
    match place i with
    | none => none
    | some (off, size) => if v.solid && Nat.beq v.cells.length size && Nat.ble (off + size) cs.length then fillC place (spliceC cs off v.cells) rest else none
def placesS (fields : List Field) : Option (List (Nat × Nat)) := fields.mapM fun f => (szT E f.type).map fun n => (f.offset, n)
def buildC (t : TypeId) (parts : List (Nat × AV)) : Option AV :=
  match zeroC E t, E.P.underlying t with
  | some (.agg z), some (.struct fields) => match placesS E fields.toList with
    | some ps => (fillC (fun i => ps[i]?) z parts).map .agg
    | none => none
  | some (.agg z), some (.array _ e) => match szT E e with
    | some n => (fillC (fun i => some (i * n, n)) z parts).map .agg
    | none => none
  | _, _ => none
def litC (i : Nat) : List (Nat × AV) → Option (List AV)
  | [] => some []
  | (j, v) :: rest => if Nat.beq i j && v.solid then (litC (i + 1) rest).map (v :: ·) else none
def iand (k : IntKind) (x y : Int) : Int := k.wrap (BitVec.ofInt k.bits x &&& BitVec.ofInt k.bits y).toNat
def ior (k : IntKind) (x y : Int) : Int := k.wrap (BitVec.ofInt k.bits x ||| BitVec.ofInt k.bits y).toNat
def ixor (k : IntKind) (x y : Int) : Int := k.wrap (BitVec.ofInt k.bits x ^^^ BitVec.ofInt k.bits y).toNat
def iandn (k : IntKind) (x y : Int) : Int := k.wrap (BitVec.ofInt k.bits x &&& ~~~BitVec.ofInt k.bits y).toNat
def ishl (k : IntKind) (x y : Int) : Int := k.wrap (x * 2 ^ (min y.toNat k.bits))
def ishr (k : IntKind) (x y : Int) : Int := x.fdiv (2 ^ (min y.toNat k.bits))
def maxI : Int := 9223372036854775807
def fits (n : Nat) : Bool := Nat.ble n 9223372036854775807
def getI {α : Type} (xs : List α) (i : Int) : Option α := if 0 ≤ i then xs[i.toNat]? else none
def caseN (i : Int) (K : Nat → Prop) : Nat → Nat → Prop
  | _, 0 => False
  | j, n + 1 => bif i == (j : Int) then K j else caseN i K (j + 1) n
def caseI (i : Int) (n : Nat) (K : Nat → Prop) : Prop := caseN i K 0 n
def sub {α : Type} (xs : List α) (l h : Nat) : List α := (xs.take h).drop l
def aeq : Nat → TypeId → AV → AV → Option Bool
  | 0, _, _, _ => none
  | d + 1, t, x, y =>
    match E.P.underlying t, x, y with
    | some .bool, .bool a, .bool b => some (a == b)
    | some (.int _), .int k a, .int k' b => if k = k' then some (a == b) else none
    | some .string, .str a, .str b => some (a == b)
    | some (.interface _), .nili, .iface _ _ => some false
    | some (.interface _), .iface _ _, .nili => some false
    | some (.slice _), .snil, .snil => some true
    | some (.slice _), .vl _, .snil => some false
    | some (.slice _), .sl .nn _ _, .snil => some false
    | some (.struct fields), .agg xs, .agg ys =>
      if E.P.stoodInHeld t then none else
      fields.toList.foldr (fun f acc =>
        if f.name = "_" then none else
        match acc, partC E f.type xs f.offset, partC E f.type ys f.offset with
        | some r, some a, some b => (aeq d f.type a b).map fun q => q && r
        | _, _, _ => none) (some true)
    | some (.array len elem), .agg xs, .agg ys =>
      match szT E elem with
      | none => none
      | some n => (List.range len).foldr (fun i acc =>
        match acc, partC E elem xs (i * n), partC E elem ys (i * n) with
        | some r, some a, some b => (aeq d elem a b).map fun q => q && r
        | _, _, _ => none) (some true)
    | _, _, _ => none
def noGuard (t : TypeId) : AV → Bool
  | .agg _ => !(E.P.eqGuardType E.P.depth t)
  | _ => true
def abin (op : BinOp) (t : TypeId) (x y : AV) (K : AV → Prop) : Prop :=
  match op, x, y with
  | .shl, .int k a, .int _ b => bif decide (0 ≤ b) then K (.int k (ishl k a b)) else False
  | .shr, .int k a, .int _ b => bif decide (0 ≤ b) then K (.int k (ishr k a b)) else False
  | .add, .int k a, .int k' b => if k = k' then K (.int k (k.wrap (a + b))) else False
  | .sub, .int k a, .int k' b => if k = k' then K (.int k (k.wrap (a - b))) else False
  | .mul, .int k a, .int k' b => if k = k' then K (.int k (k.wrap (a * b))) else False
  | .quo, .int k a, .int k' b => if k = k' then (bif b == 0 then False else K (.int k (k.wrap (a.tdiv b)))) else False
  | .rem, .int k a, .int k' b => if k = k' then (bif b == 0 then False else K (.int k (a.tmod b))) else False
  | .and, .int k a, .int k' b => if k = k' then K (.int k (iand k a b)) else False
  | .or, .int k a, .int k' b => if k = k' then K (.int k (ior k a b)) else False
  | .xor, .int k a, .int k' b => if k = k' then K (.int k (ixor k a b)) else False
  | .andNot, .int k a, .int k' b => if k = k' then K (.int k (iandn k a b)) else False
  | .eql, .int k a, .int k' b => if k = k' then K (.bool (a == b)) else False
  | .neq, .int k a, .int k' b => if k = k' then K (.bool (a != b)) else False
  | .lss, .int k a, .int k' b => if k = k' then K (.bool (decide (a < b))) else False
  | .leq, .int k a, .int k' b => if k = k' then K (.bool (decide (a ≤ b))) else False
  | .gtr, .int k a, .int k' b => if k = k' then K (.bool (decide (a > b))) else False
  | .geq, .int k a, .int k' b => if k = k' then K (.bool (decide (a ≥ b))) else False
  | .add, .str a, .str b => bif fits (a.length + b.length) then K (.str (a ++ b)) else False
  | .eql, .str a, .str b => K (.bool (a == b))
  | .neq, .str a, .str b => K (.bool (!(a == b)))
  | .eql, a, b => if noGuard E t a then (match aeq E 12 t a b with | some r => K (.bool r) | none => False) else False
  | .neq, a, b => if noGuard E t a then (match aeq E 12 t a b with | some r => K (.bool (!r)) | none => False) else False
  | _, _, _ => False
def aun (op : UnOp) (x : AV) : Option AV :=
  match op, x with
  | .neg, .int k n => some (.int k (k.wrap (0 - n)))
  | .xor, .int k n => some (.int k (ixor k (if k.signed then -1 else k.max) n))
  | .not, .bool b => some (.bool (!b))
  | _, _ => none
def bytesOfInts (xs : List Int) : Str := xs.map fun n => UInt8.ofNat n.toNat
def intsOfBytes (s : Str) : List Int := s.map fun b => (b.toNat : Int)
def decs (t : Ty) : List AV → Option (List t.den)
  | [] => some []
  | v :: vs => match dec t v, decs t vs with
    | some x, some xs => some (x :: xs)
    | _, _ => none
def aconv (s d : TypeId) (x : AV) : Option AV :=
  match E.P.underlying s, E.P.underlying d, x with
  | some (.int _), some (.int k), .int _ n => some (.int k (k.wrap n))
  | some .string, some .string, .str a => some (.str a)
  | some (.slice e), some .string, .sl _ (.int .u8) xs => match E.P.underlying e with
    | some (.int .u8) => some (.str (bytesOfInts xs))
    | _ => none
  | some (.slice e), some .string, .vl vs => match E.P.underlying e, decs (.int .u8) vs with
    | some (.int .u8), some xs => some (.str (bytesOfInts xs))
    | _, _ => none
  | _, _, _ => none
def AV.nonNil : AV → Bool
  | .ptr _ _ => true
  | .fptr _ _ => true
  | .elt _ _ _ => true
  | .iface _ _ => true
  | _ => false
def sliceB (n : Nat) (l h m : Option AV) (K : Nat → Nat → Bool → Prop) : Prop :=
  match l, h, m with
  | none, none, none => K 0 n false
  | some (.int _ a), none, none => bif decide (0 ≤ a) && decide (a ≤ (n : Int)) then K a.toNat n false else False
  | none, some (.int _ b), none => bif decide (0 ≤ b) && decide (b ≤ (n : Int)) then K 0 b.toNat false else False
  | some (.int _ a), some (.int _ b), none => bif decide (0 ≤ a) && decide (a ≤ b) && decide (b ≤ (n : Int)) then K a.toNat b.toNat false else False
  | none, some (.int _ b), some (.int _ c) => bif decide (0 ≤ b) && decide (b ≤ (n : Int)) && b == c then K 0 b.toNat true else False
  | _, _, _ => False
def optArg (o : Option Operand) (vs : List AV) : Option AV × List AV :=
  match o, vs with
  | some _, v :: r => (some v, r)
  | _, r => (none, r)
def aslice (t : TypeId) (x : AV) (l h m : Option AV) (K : AV → Prop) : Prop :=
  match E.P.underlying t, x with
  | some .string, .str s => match m with
    | none => sliceB s.length l h none fun a b _ => K (.str (sub s a b))
    | some _ => False
  | some (.slice e), .sl _ t' xs => if szT E e = some t'.sz then sliceB xs.length l h m fun a b c => K (.sl (bif c then .full else .any) t' (sub xs a b)) else False
  | some (.slice e), .snil => match szT E e with
    | some _ => sliceB 0 l h m fun _ _ _ => K .snil
    | none => False
  | _, _ => False
abbrev Tab := List (Nat × Entry)
def tabGet : Tab → Nat → Option Entry
  | [], _ => none
  | (k, e) :: r, f => bif Nat.beq k f then some e else tabGet r f
def slrs0 : AV → List Nat
  | .slr b => [b]
  | _ => []
def slrs1 : AV → List Nat
  | .agg cs => cs.flatMap slrs0
  | v => slrs0 v
def slrs : AV → List Nat
  | .tup cs => cs.flatMap slrs1
  | v => slrs1 v
def frz0 (hp : Nat → Blk) : AV → AV
  | .slr b => match hp b with
    | .row _ t xs => .sl .any t xs
    | _ => .top
  | v => v
def frz1 (hp : Nat → Blk) : AV → AV
  | .agg cs => .agg (cs.map (frz0 hp))
  | v => frz0 hp v
def frz (hp : Nat → Blk) : AV → AV
  | .tup cs => .tup (cs.map (frz1 hp))
  | v => frz1 hp v
def roB : Blk → Blk
  | .row _ t xs => .row true t xs
  | b => b
def roAll : List Nat → (Nat → Blk) → (Nat → Blk)
  | [], hp => hp
  | b :: r, hp => roAll r (upd hp b (roB (hp b)))
def cl0 : AV → Bool
  | .int _ _ => true | .bool _ => true | .str _ => true | .nilp => true | .snil => true | .sl _ _ _ => true | .nilf => true | .nili => true
  | _ => false
def cl1 : AV → Bool
  | .agg cs => cs.all cl0
  | v => cl0 v
def cl2 : AV → Bool
  | .tup cs => cs.all cl1
  | .iface _ v => cl1 v
  | .vl vs => vs.all cl1
  | .func _ a b => a.all cl1 && b.all cl1
  | .fptr cs _ => cs.all cl0
  | v => cl1 v
def minI (x y : Int) : Int := if y < x then y else x
def maxI2 (x y : Int) : Int := if y > x then y else x
variable (tab : Tab) (cal : Callee)
def nilConst : Operand → Bool
  | .const (.slice none 0 0) => true
  | _ => false
def isCp (o : Oper) (vs : List AV) : Bool :=
  match o.op, vs with
  | .call c, [.vl [], .sl _ _ _] => match c.callee with
    | .builtin .append => E.cp o.dst (o.type + 65536)
    | _ => false
  | _, _ => false
def tier (o : Oper) (vs : List AV) : Nat :=
  match o.op, vs with
  | .load _ _, [.fptr _ _] => 0
  | .load _ _, _ => 1
  | .indexAddr _ _ _, .slr _ :: _ => 1
  | .convert _ _ _, [.slr _] => 1
  | .convert _ d _, [.str _] => match E.P.underlying d with | some (.slice _) => 2 | _ => 0
  | .assign x, _ => bif nilConst x then (match E.ty o.type with | some (.slice _) => 2 | _ => 0) else 0
  | .buildSlice _ _ _, _ => bif E.cp o.dst o.type then 2 else 0
  | .alloc _, _ => 2
  | .box _ _, _ => 2
  | .store _ _ _, _ => 2
  | .makeSlice _ _ _, _ => 2
  | .slice _ _ _ _ _, .slr _ :: _ => 2
  | .call c, vs => match c.callee, vs with
    | .builtin .append, _ => bif isCp E o vs then 0 else 2
    | .builtin .len, [.slr _] => 1
    | .builtin _, _ => 0
    | .value _, .func f a b :: args => match tabGet tab f with
      | some _ => match (a ++ (args ++ b)).flatMap slrs with
        | [] => 0
        | _ => 2
      | none => 2
    | _, _ => 2
  | _, _ => 0
def nil2 : AV → AV → Bool
  | .nili, .nili => true
  | _, _ => false
def isK : Operand → Bool
  | .const _ => true
  | _ => false
def anil (op : BinOp) (t : TypeId) (K : AV → Prop) : Prop :=
  match E.P.underlying t, op with
  | some (.interface _), .eql => K (.bool true)
  | some (.interface _), .neq => K (.bool false)
  | _, _ => False
def abuiltin (b : Builtin) (ts : List TypeId) (vs : List AV) (K : AV → Prop) : Prop :=
  match b, ts, vs with
  | .len, t :: _, [v] => match E.P.underlying t, v with
    | some .string, .str s => K (.int .i64 (s.length : Int))
    | some (.slice _), .sl _ _ xs => K (.int .i64 (xs.length : Int))
    | some (.slice _), .vl vs => K (.int .i64 (vs.length : Int))
    | some (.slice _), .snil => K (.int .i64 0)
    | some (.array n _), _ => K (.int .i64 (n : Int))
    | _, _ => False
  | .min, _, [.int k x, .int _ y] => K (.int k (minI x y))
  | .max, _, [.int k x, .int _ y] => K (.int k (maxI2 x y))
  | _, _, _ => False
def a0 (o : Oper) (vs : List AV) (K : AV → Prop) : Prop :=
  match o.op, vs with
  | .move _, [v] => K v
  | .assign _, [v] => K v
  | .pick _ _ _, [.bool c, a, b] => bif c then K a else K b
  | .build t parts, vs => match buildC E t ((parts.toList.map (·.1)).zip vs) with
    | some v => K v
    | none => False
  | .buildSlice t n parts, vs => match elemT E t with
    | some e => match szT E e, litC 0 ((parts.toList.map (·.1)).zip vs) with
      | some z, some l => match zeroC E e with
        | some _ => if Nat.beq l.length n && (Nat.ble (n * z) 16777216 && (l.all fun v => Nat.beq v.cells.length z)) then K (.vl l) else False
        | none => False
      | _, _ => False
    | none => False
  | .load t _, [.fptr cs i] => match partC E t cs i with
    | some v => K v
    | none => False
  | .nilCheck _, [v] => if v.nonNil then K v else False
  | .binOp op t x y _, [a, b] => bif nil2 a b && (isK x || isK y) then anil E op t K else abin E op t a b K
  | .unOp op _ _, [a] => match aun op a with
    | some v => K v
    | none => False
  | .convert s d _, [a] => match aconv E s d a with
    | some v => K v
    | none => False
  | .makeInterface t _, [v] => match E.P.underlying t with
    | some (.interface _) => False
    | some _ => if v.solid then K (.iface t v) else False
    | none => False
  | .makeFunc (.func f) first _, vs => K (.func f (vs.take first.size) (vs.drop first.size))
  | .slice t _ l h m, v :: r =>
    let (l, r) := optArg l r
    let (h, r) := optArg h r
    let (m, _) := optArg m r
    aslice E t v l h m K
  | .fieldAddr s _ f, [v] => match E.P.underlying s with
    | some (.struct fields) => match fields[f]? with
      | some fd => match szT E fd.type with
        | some (_ + 1) => match v with
          | .ptr b o => K (.ptr b (o + fd.offset))
          | .fptr cs o => K (.fptr cs (o + fd.offset))
          | .elt b i o => K (.elt b i (o + fd.offset))
          | _ => False
        | _ => False
      | none => False
    | _ => False
  | .field t _ f, [.agg cs] => match E.P.underlying t with
    | some (.struct fields) => match fields[f]? with
      | some fd => match partC E fd.type cs fd.offset with
        | some v => K v
        | none => False
      | none => False
    | _ => False
  | .indexAddr t _ _, [v, .int _ i] => match E.P.underlying t, v with
    | some (.slice e), .sl _ t' xs => if szT E e = some t'.sz then (match getI xs i with
      | some x => K (.fptr (enc t' x).cells 0)
      | none => False) else False
    | some (.slice e), .vl l => match szT E e with
      | some z => if l.all fun v => Nat.beq v.cells.length z then caseI i l.length fun j => (match l[j]? with
        | some v => K (.fptr v.cells 0)
        | none => False) else False
      | none => False
    | some (.array n e), .ptr b o => match szT E e with
      | some z => caseI i n fun j => K (.ptr b (o + j * z))
      | none => False
    | some (.array n e), .fptr cs o => match szT E e with
      | some z => caseI i n fun j => K (.fptr cs (o + j * z))
      | none => False
    | _, _ => False
  | .index t _ _, [v, .int _ i] => match E.P.underlying t, v with
    | some .string, .str s => match getI s i with
      | some b => K (.int .u8 (b.toNat : Int))
      | none => False
    | some (.array n e), .agg cs => match szT E e with
      | some z => caseI i n fun j => (match partC E e cs (j * z) with
        | some v => K v
        | none => False)
      | none => False
    | _, _ => False
  | .extract _ i, [.tup vs] => match vs[i]? with
    | some v => K v
    | none => False
  | .call c, vs => match c.callee, vs with
    | .builtin b, vs => abuiltin E b c.argTypes.toList vs K
    | .value _, .func f a b :: args => match tabGet tab f with
      | some en => en (a ++ (args ++ b)) K
      | none => False
    | _, _ => False
  | _, _ => False
def a1 (o : Oper) (vs : List AV) (hs : HS) (K : AV → Prop) : Prop :=
  match o.op, vs with
  | .load t _, [.ptr b i] => match hs.hp b with
    | .cells cs => match partC E t cs i with
      | some v => K v
      | none => False
    | _ => False
  | .load t _, [.elt b j i] => match hs.hp b with
    | .row _ t' xs => match xs[j]? with
      | some x => match partC E t (enc t' x).cells i with
        | some v => K v
        | none => False
      | none => False
    | _ => False
  | .indexAddr t _ _, [.slr b, .int _ i] => match E.P.underlying t, hs.hp b with
    | some (.slice e), .row _ t' xs => if szT E e = some t'.sz then (bif decide (0 ≤ i) && decide (i < (xs.length : Int)) then K (.elt b i.toNat 0) else False) else False
    | _, _ => False
  | .convert s d _, [.slr b] => match E.P.underlying s, E.P.underlying d, hs.hp b with
    | some (.slice e), some .string, .row _ (.int .u8) xs => match E.P.underlying e with
      | some (.int .u8) => K (.str (bytesOfInts xs))
      | _ => False
    | _, _, _ => False
  | .call c, [.slr b] => match c.callee, c.argTypes.toList, hs.hp b with
    | .builtin .len, t :: _, .row _ _ xs => match E.P.underlying t with
      | some (.slice _) => K (.int .i64 (xs.length : Int))
      | _ => False
    | _, _, _ => False
  | _, _ => False
def HS.push (hs : HS) (b : Blk) : HS := { hp := upd hs.hp hs.hn b, hn := hs.hn + 1 }
def srcL (t : Ty) (hp : Nat → Blk) : AV → Option (List t.den)
  | .snil => some []
  | .vl vs => decs t vs
  | .sl _ t' ys => if h : t' = t then some (h ▸ ys) else none
  | .slr b => match hp b with
    | .row _ t' ys => if h : t' = t then some (h ▸ ys) else none
    | _ => none
  | _ => none
def room : Nat := 70368744177664
def aapp (t : Ty) (w : Nat) (base src : AV) (hs : HS) (K : AV → HS → Prop) : Prop :=
  match srcL t hs.hp src with
  | none => False
  | some ys =>
    match base with
    | .snil => bif decide (ys.length * w ≤ room) then K (.slr hs.hn) (hs.push (.row false t ys)) else False
    | .vl [] => bif decide (ys.length * w ≤ room) then K (.slr hs.hn) (hs.push (.row false t ys)) else False
    | .vl (v :: vs) => match decs t (v :: vs) with
      | some xs => bif Nat.beq ys.length 0 then K (.vl (v :: vs)) hs else (bif decide ((xs.length + ys.length) * w ≤ room) then K (.slr hs.hn) (hs.push (.row false t (xs ++ ys))) else False)
      | none => False
    | .sl .full t' xs => if h : t' = t then (match src with
      | .vl (_ :: _) => bif decide ((xs.length + ys.length) * w ≤ room) then K (.slr hs.hn) (hs.push (.row false t ((h ▸ xs : List t.den) ++ ys))) else False
      | _ => False) else False
    | .slr b => match hs.hp b with
      | .row ro t' xs => if h : t' = t then
          (match src with
          | .slr b' => bif Nat.beq b b' then False else (bif decide ((xs.length + ys.length) * w ≤ room) then K (.slr hs.hn) ({ hs with hp := upd hs.hp b .dead }.push (.row ro t ((h ▸ xs : List t.den) ++ ys))) else False)
          | _ => bif decide ((xs.length + ys.length) * w ≤ room) then K (.slr hs.hn) ({ hs with hp := upd hs.hp b .dead }.push (.row ro t ((h ▸ xs : List t.den) ++ ys))) else False) else False
      | _ => False
    | _ => False
def a2 (o : Oper) (vs : List AV) (hs : HS) (K : AV → HS → Prop) : Prop :=
  match o.op, vs with
  | .alloc t, _ => match zeroC E t with
    | some z => if z.solid then K (.ptr hs.hn 0) (hs.push (.cells z.cells)) else False
    | none => False
  | .box _ _, [v] => if v.solid then K (.ptr hs.hn 0) (hs.push (.cells v.cells)) else False
  | .assign _, _ => match E.ty o.type with
    | some (.slice t) => K (.slr hs.hn) (hs.push (.row false t []))
    | _ => False
  | .buildSlice t n parts, vs => match elemT E t, E.ty t with
    | some e, some (.slice t') => match szT E e, litC 0 ((parts.toList.map (·.1)).zip vs), zeroC E e with
      | some z, some l, some _ => if z = t'.sz ∧ (Nat.beq l.length n && (Nat.ble (n * z) 16777216 && (l.all fun v => Nat.beq v.cells.length z))) = true then (match decs t' l with
        | some xs => K (.slr hs.hn) (hs.push (.row false t' xs))
        | none => False) else False
      | _, _, _ => False
    | _, _ => False
  | .store t _ _, [.ptr b i, v] => match hs.hp b, szT E t with
    | .cells cs, some z => if v.solid && (v.cells.all oneC && (Nat.beq v.cells.length z && Nat.ble (i + z) cs.length)) then K (.tup []) { hs with hp := upd hs.hp b (.cells (spliceC cs i v.cells)) } else False
    | _, _ => False
  | .store t _ _, [.elt b j 0, v] => match hs.hp b, szT E t with
    | .row false t' xs, some z => match dec t' v with
      | some y => if z = t'.sz then K (.tup []) { hs with hp := upd hs.hp b (.row false t' (xs.set j y)) } else False
      | none => False
    | _, _ => False
  | .makeSlice t _ _, [.int _ n, .int _ c] => match elemT E t, E.ty t with
    | some e, some (.slice t') => match zeroC E e, szT E e, (E.P.info? e).map (·.bytes) with
      | some z, some s, some (w + 1) => match dec t' z with
        | some y => if s = t'.sz then (bif n == c && (decide (0 ≤ n) && decide (n * (w + 1 : Nat) ≤ (room : Int))) then K (.slr hs.hn) (hs.push (.row false t' (List.replicate n.toNat y))) else False) else False
        | none => False
      | _, _, _ => False
    | _, _ => False
  | .convert s d _, [.str a] => match E.P.underlying s, E.P.underlying d with
    | some .string, some (.slice e) => match E.P.underlying e with
      | some (.int .u8) => K (.slr hs.hn) (hs.push (.row false (.int .u8) (intsOfBytes a)))
      | _ => False
    | _, _ => False
  | .slice t _ l h m, .slr b :: r => match hs.hp b with
    | .row _ t' xs =>
      let (l, r) := optArg l r
      let (h, r) := optArg h r
      let (m, _) := optArg m r
      aslice E t (.sl .any t' xs) l h m fun v => K v { hs with hp := upd hs.hp b (.row true t' xs) }
    | _ => False
  | .call c, vs => match c.callee, vs with
    | .builtin .append, [base, src] => match c.argTypes.toList with
      | [s, x] => match elemT E s, elemT E x, E.ty s with
        | some e, some _, some (.slice t') => match szT E e, (E.P.info? e).map (·.bytes) with
          | some z, some (w + 1) => match zeroC E e with
            | some zc => if z = t'.sz ∧ (zc.solid && Nat.beq zc.cells.length t'.sz) = true then aapp t' (w + 1) base src hs K else False
            | none => False
          | _, _ => False
        | _, _, _ => False
      | _ => False
    | .value _, .func f a b :: args => match tabGet tab f with
      | some en => en ((a ++ (args ++ b)).map (frz hs.hp)) fun v => K v { hs with hp := roAll ((a ++ (args ++ b)).flatMap slrs) hs.hp }
      | none => match E.clone f with
        | some (t, w) => match a ++ (args ++ b) with
          | [.snil] => K (.slr hs.hn) (hs.push (.row false t []))
          | [.sl _ t' xs] => if h : t' = t then (bif decide (xs.length * w ≤ room) then K (.slr hs.hn) (hs.push (.row false t (h ▸ xs))) else False) else False
          | _ => False
        | none => cal f (a ++ (args ++ b)) hs K
    | _, _ => False
  | _, _ => False
def acp (o : Oper) (vs : List AV) (K : AV → Prop) : Prop :=
  match o.op, vs with
  | .call c, [.vl [], .sl _ t ys] => match c.callee, c.argTypes.toList with
    | .builtin .append, [s, x] => match elemT E s, elemT E x with
      | some e, some _ => match szT E e, (E.P.info? e).map (·.bytes), zeroC E e with
        | some z, some (w + 1), some zc => if z = t.sz ∧ (zc.solid && Nat.beq zc.cells.length t.sz) = true then (bif decide (ys.length * (w + 1) ≤ room) then K (.sl .any t ys) else False) else False
        | _, _, _ => False
      | _, _ => False
    | _, _ => False
  | _, _ => False
def blk1 : List AV → Nat
  | .ptr b _ :: _ => b
  | .elt b _ _ :: _ => b
  | .slr b :: _ => b
  | _ => 0
def aop (o : Oper) (vs : List AV) (hs : HS) (K : AV → HS → Prop) : Prop :=
  match tier E tab o vs with
  | 0 => bif isCp E o vs then acp E o vs fun v => K v hs else a0 E tab o vs fun v => K v hs
  | 1 => bif Nat.blt (blk1 vs) hs.hn then a1 E o vs hs fun v => K v hs else False
  | _ => a2 E tab cal o vs hs K
variable (nt : Nat)
def St.put (st : St) (dst : Option Nat) (v : AV) (hs : HS) : St :=
  match dst with
  | some d => { fr := upd st.fr d v, hs }
  | none => { st with hs }
def dstOk : Option Nat → Bool
  | some d => Nat.blt d nt
  | none => true
def valsOf (o : Oper) (fr : Nat → AV) : List AV := o.op.operands.toList.map (oval fr)
inductive GV where
  | run | skip | stuck
  | test (d : Nat) (b want : Bool)
def guardOf (ops : List Oper) (o : Oper) (fr : Nat → AV) : GV :=
  match o.guard with
  | none => .run
  | some (j, want) => match (ops[j]?).bind (·.dst) with
    | some d => match fr d with
      | .bool b => .test d b want
      | .tup [] => .skip
      | _ => .stuck
    | none => .stuck
def tch (o : Oper) (vs : List AV) (hs : HS) : Nat :=
  match o.op, vs with
  | .alloc _, _ => hs.hn + 1
  | .box _ _, _ => hs.hn + 1
  | .store _ _ _, .ptr b _ :: _ => b + 1
  | .store _ _ _, .elt b _ _ :: _ => b + 1
  | .slice _ _ _ _ _, .slr b :: _ => b + 1
  | .call c, base :: args => match c.callee, base with
    | .builtin .append, .slr b => b + 1
    | .builtin .append, _ => hs.hn + 1
    | .value _, .func f p q => match tabGet tab f with
      | some _ => match (p ++ (args ++ q)).flatMap slrs with
        | [b] => b + 1
        | _ => 0
      | none => match E.clone f with
        | some _ => hs.hn + 1
        | none => bif E.ro f then hs.hn + 1 else 0
    | _, _ => 0
  | _, _ => 0
def code (o : Oper) (vs : List AV) (hs : HS) : Nat :=
  match tier E tab o vs with
  | 0 => 0
  | 1 => 1 + 3 * blk1 vs
  | _ => 2 + 3 * tch E tab o vs hs
def isAl (o : Oper) : Bool :=
  match o.op with
  | .alloc _ => true
  | _ => false
def alCount : List Oper → Nat → Nat
  | [], _ => 0
  | _, 0 => 0
  | o :: r, i + 1 => bif isAl o then alCount r i + 1 else alCount r i
def resvH : List Oper → HS → HS
  | [], hs => hs
  | o :: r, hs => match o.op with
    | .alloc t => resvH r (match zeroC E t with
      | some z => hs.push (.cells z.cells)
      | none => hs.push .dead)
    | _ => resvH r hs
def nmOf (rs : Option Nat) (ops : List Oper) (i : Nat) (o : Oper) : Option Nat :=
  match rs with
  | some n => bif isAl o then some (n + alCount ops i) else none
  | none => none
def aopN (nm : Option Nat) (o : Oper) (vs : List AV) (hs : HS) (K : AV → HS → Prop) : Prop :=
  match nm with
  | some b => match o.op with
    | .alloc t => match zeroC E t with
      | some z => if z.solid then K (.ptr b 0) hs else False
      | none => False
    | _ => False
  | none => aop E tab cal o vs hs K
def codeN (nm : Option Nat) (o : Oper) (vs : List AV) (hs : HS) : Nat :=
  match nm with
  | some b => 3 * (b + 1)
  | none => code E tab o vs hs
def aop1 (nm : Option Nat) (ops : List Oper) (o : Oper) (st : St) (K : Nat → St → Prop) : Prop :=
  bif dstOk nt o.dst then
    match guardOf ops o st.fr with
    | .stuck => False
    | .skip => K 0 (st.put o.dst (.tup []) st.hs)
    | .run => aopN E tab cal nm o (valsOf o st.fr) st.hs fun v hs => K (codeN E tab nm o (valsOf o st.fr) st.hs) (st.put o.dst v hs)
    | .test d b true => bif b then aopN E tab cal nm o (valsOf o (upd st.fr d (.bool true))) st.hs fun v hs => K (codeN E tab nm o (valsOf o (upd st.fr d (.bool true))) st.hs) ({ st with fr := upd st.fr d (.bool true) }.put o.dst v hs)
      else K 0 ({ st with fr := upd st.fr d (.bool false) }.put o.dst (.tup []) st.hs)
    | .test d b false => bif b then K 0 ({ st with fr := upd st.fr d (.bool true) }.put o.dst (.tup []) st.hs)
      else aopN E tab cal nm o (valsOf o (upd st.fr d (.bool false))) st.hs fun v hs => K (codeN E tab nm o (valsOf o (upd st.fr d (.bool false))) st.hs) ({ st with fr := upd st.fr d (.bool false) }.put o.dst v hs)
  else False
def aseq (ops : List Oper) : List Oper → St → (St → Prop) → Prop
  | [], st, K => K st
  | o :: r, st, K => aop1 E tab cal nt none ops o st fun _ st' => aseq ops r st' K
def adraw (rs : Option Nat) (ops : List Oper) : List Oper → List Nat → St → (List Nat → St → Prop) → Prop
  | [], log, st, K => K log st
  | o :: r, log, st, K => aop1 E tab cal nt (nmOf rs ops log.length o) ops o st fun c st' => bif Nat.ble st.hs.hn st'.hs.hn then adraw rs ops r (log ++ [c]) st' K else False
def befMask (acc : List Nat) (o : Oper) : Nat :=
  o.after.toList.foldl (fun s e => bif Region.binds .any e then s ||| (1 <<< e.on) ||| acc.getD e.on 0 else s) 0
def befores (ops : List Oper) : List Nat := ops.foldl (fun acc o => acc ++ [befMask acc o]) []
def looks (ops : List Oper) (o : Oper) : List Nat :=
  (o.op.operands.toList.filterMap fun | .tmp t => some t | _ => none) ++
  (match o.guard with
   | some (g, _) => ((ops[g]?).bind (·.dst)).toList
   | none => [])
def memB (n : Nat) : List Nat → Bool
  | [] => false
  | a :: r => Nat.beq n a || memB n r
def meets (hn ca cb : Nat) : Bool :=
  (Nat.beq (ca % 3) 2 && Nat.beq (cb % 3) 2) ||
  ((Nat.beq (ca % 3) 0 && Nat.blt 0 ca && Nat.beq (cb % 3) 2) && (Nat.beq (cb / 3) 0 || Nat.beq (cb / 3) (ca / 3))) ||
  ((Nat.beq (ca % 3) 1 && Nat.beq (cb % 3) 2) && (Nat.beq (cb / 3) 0 || Nat.beq (cb / 3) (ca / 3 + 1))) ||
  ((Nat.beq (ca % 3) 2 && Nat.beq (cb % 3) 1) && (Nat.beq (ca / 3) 0 || Nat.beq (ca / 3) (cb / 3 + 1) || Nat.ble hn (cb / 3)))
def late (ca cb : Nat) : Bool := (Nat.beq (cb % 3) 0 && Nat.blt 0 cb && Nat.beq (ca % 3) 2) && (Nat.beq (ca / 3) 0 || Nat.beq (ca / 3) (cb / 3))
def conf (hn : Nat) (ops : List Oper) (a b : Oper) (ca cb : Nat) : Bool :=
  meets hn ca cb ||
  (match a.dst with | some d => memB d (looks ops b) || (match b.dst with | some e => Nat.beq d e | none => false) | none => false) ||
  (match b.dst with | some e => memB e (looks ops a) | none => false)
def drawOk (hn : Nat) (ops : List Oper) (log : List Nat) : Bool :=
  let bs := befores ops
  ((List.range ops.length).all fun j => match ops[j]? with
    | some o => o.after.toList.all fun e => !(Region.binds .any e) || Nat.blt e.on j
    | none => true) &&
  ((List.range ops.length).all fun j => (List.range j).all fun i =>
    match ops[i]?, ops[j]? with
    | some a, some b => (!(conf hn ops a b (log.getD i 2) (log.getD j 2)) || (bs.getD j 0).testBit i) && !(late (log.getD i 2) (log.getD j 2))
    | _, _ => false)
def needR (ops : List Oper) : Bool :=
  (ops.any isAl) && (let bs := befores ops
  (List.range ops.length).any fun j => (List.range j).any fun i =>
    match ops[i]?, ops[j]? with
    | some a, some b => isAl a && isAl b && !((bs.getD j 0).testBit i)
    | _, _ => false)
structure Keep where
  ks : List (Nat × Option Nat)
  bs : List Nat
  hn : Nat
  cs : List (Nat × Nat × Nat) := []
  ts : List (Nat × Nat) := []
def lookL {α : Type} (d : α) : List (Nat × α) → Nat → α
  | [], _ => d
  | (k, v) :: r, n => bif Nat.beq n k then v else lookL d r n
def keptRef (bs : List Nat) : AV → Bool
  | .ptr b _ => memB b bs
  | .slr b => memB b bs
  | .agg cs => cs.all fun c => match c with | .ptr b _ => memB b bs | .slr b => memB b bs | c => cl0 c
  | .func _ a b => (a ++ b).all fun c => match c with | .ptr b _ => memB b bs | .slr b => memB b bs | c => cl1 c
  | v => cl2 v
def keptV (bs : List Nat) (v : AV) : AV := bif keptRef bs v then v else .top
def homeOf (fr : Nat → AV) : Nat × Option Nat → Option (Nat × Nat)
  | (k, some b) => match fr k with
    | .slr x => some (b, x)
    | _ => none
  | _ => none
def nodupB : List Nat → Bool
  | [] => true
  | a :: r => !memB a r && nodupB r
def homesOk (kp : Keep) (hm : List (Nat × Nat)) : Bool := nodupB (hm.map (·.2)) && nodupB (hm.map (·.1)) && (hm.all fun p => !memB p.1 kp.bs && !memB p.2 kp.bs)
def lget : List AV → Nat → AV
  | [], _ => .top
  | v :: _, 0 => v
  | _ :: r, n + 1 => lget r n
def cellHome (hp : Nat → Blk) : Nat × Nat × Nat → Option (Nat × Nat)
  | (b, i, h) => match hp b with
    | .cells cs => match lget cs i with
      | .slr x => some (h, x)
      | _ => none
    | _ => none
def hmOf (kp : Keep) (st : St) : List (Nat × Nat) := kp.ks.filterMap (homeOf st.fr) ++ kp.cs.filterMap (cellHome st.hs.hp)
def homeIn : List (Nat × Nat × Nat) → Nat → Nat → Option Nat
  | [], _, _ => none
  | (c, j, h) :: r, b, i => bif Nat.beq c b && Nat.beq j i then some h else homeIn r b i
def keptC1 (kp : Keep) (ok : Bool) (b i : Nat) (c : AV) : AV :=
  match homeIn kp.cs b i with
  | some h => match c with
    | .slr _ => bif ok then .slr h else .top
    | c => keptV kp.bs c
  | none => keptV kp.bs c
def keptC (kp : Keep) (ok : Bool) (b : Nat) : Nat → List AV → List AV
  | _, [] => []
  | i, c :: r => keptC1 kp ok b i c :: keptC kp ok b (i + 1) r
def normC (n : Nat) (cs : List AV) : Blk := match decL decSl0 (leafs n) cs with
  | some d => .cells (encL (leafs n) d)
  | none => .dead
def keptB (kp : Keep) (ok : Bool) (b : Nat) : Blk → Blk
  | .cells cs => match lookL none (kp.ts.map fun p => (p.1, some p.2)) b with
    | some n => normC n cs
    | none => .cells (keptC kp ok b 0 cs)
  | x => x
def keepSt (kp : Keep) (st : St) : St :=
  let hm := hmOf kp st
  { fr := lookL .top (kp.ks.map fun p => (p.1, match p.2 with
      | some b => match st.fr p.1 with
        | .slr _ => bif homesOk kp hm then .slr b else .top
        | v => keptV kp.bs v
      | none => keptV kp.bs (st.fr p.1))),
    hs := { hp := lookL .dead ((bif homesOk kp hm then hm.map fun p => (p.1, match st.hs.hp p.2 with | .row ro t xs => .row ro t xs | _ => .dead) else []) ++ kp.bs.map fun b => (b, keptB kp (homesOk kp hm) b (st.hs.hp b))), hn := kp.hn } }
def loopN : Nat → ((St → Prop) → St → Prop) → St → Prop
  | 0, _, _ => False
  | n + 1, body, st => body (loopN n body) st
abbrev LoopE := (Nat → St → Prop) → (St → Prop) → St → Prop
structure LSpec where
  kp : Keep
  kr : Keep
  le : LoopE
variable (lt : Nat → Option LSpec)
def keepOk (kp : Keep) : Bool := (kp.bs.all fun b => Nat.blt b kp.hn) && ((kp.ks.all fun p => match p.2 with | some b => Nat.blt b kp.hn | none => true) && kp.cs.all fun p => Nat.blt p.2.2 kp.hn)
def allL (p : Nat → Prop) : List Nat → Prop
  | [] => True
  | i :: r => p i ∧ allL p r
def aall (ops : Array Oper) (K : St → Prop) : Nat → Array Bool → St → Prop
  | 0, listed, st => match Region.ready .any ops listed with
    | [] => K st
    | _ :: _ => False
  | fuel + 1, listed, st => match Region.ready .any ops listed with
    | [] => K st
    | i :: r => allL (fun i => match ops[i]? with
      | some o => aop1 E tab cal nt none ops.toList o st fun _ st' => aall ops K fuel (listed.setIfInBounds i true) st'
      | none => True) (i :: r)
def detT (tab : Tab) : Tab := tab.filter fun p => !E.nd p.1
def tabM (tab : Tab) (m : Bool) : Tab := bif m then tab else detT E tab
def acodeM (E : Env) (tab : Tab) (cal : Bool → Callee) (nt : Nat) (lt : Nat → Option LSpec) (m : Bool) : Code → Nat → (St → Prop) → (Nat → St → Prop) → (St → Prop) → St → Prop
  | .skip, _, Kn, _, _, st => Kn st
  | .region _ ops false, _, Kn, _, _, st => aseq E (tabM E tab m) (cal m) nt ops.toList ops.toList st Kn
  | .region id ops true, _, Kn, _, _, st =>
    bif m && E.dm id ops.size then aall E tab (cal true) nt ops Kn ops.size (Array.replicate ops.size false) st
    else bif needR ops.toList then adraw E (detT E tab) (cal false) nt (some st.hs.hn) ops.toList ops.toList [] { st with hs := resvH E ops.toList st.hs } fun log st' => bif drawOk (resvH E ops.toList st.hs).hn ops.toList log then Kn st' else False
    else adraw E (detT E tab) (cal false) nt none ops.toList ops.toList [] st fun log st' => bif drawOk st.hs.hn ops.toList log then Kn st' else False
  | .seq a b, i, Kn, Kx, Kr, st => acodeM E tab cal nt lt m a i (acodeM E tab cal nt lt m b i Kn Kx Kr) Kx Kr st
  | .cond (.tmp t) a b, i, Kn, Kx, Kr, st => match st.fr t with
    | .bool c => bif c then acodeM E tab cal nt lt m a i Kn Kx Kr { st with fr := upd st.fr t (.bool true) } else acodeM E tab cal nt lt m b i Kn Kx Kr { st with fr := upd st.fr t (.bool false) }
    | _ => False
  | .block id b, _, Kn, Kx, Kr, st => acodeM E tab cal nt lt m b id Kn (fun i s => bif Nat.beq i id then Kn s else Kx i s) Kr st
  | .loop b, i, _, Kx, Kr, st => match lt i with
    | some l => l.le Kx Kr st
    | none => loopN 12 (fun rec s => acodeM E tab cal nt lt m b i rec Kx Kr s) st
  | .exit id, _, _, Kx, _, st => Kx id st
  | .ret, _, _, _, Kr, st => Kr st
  | _, _, _, _, _, _ => False
abbrev acode (E : Env) (tab : Tab) (cal : Bool → Callee) (nt : Nat) (lt : Nat → Option LSpec) := acodeM E tab cal nt lt true
def loopSem (E : Env) (tab : Tab) (cal : Bool → Callee) (nt : Nat) (lt : Nat → Option LSpec) (fuel : Nat) (kp kr : Keep) (b : Code) (i : Nat) (Kx : Nat → St → Prop) (Kr : St → Prop) (st : St) : Prop :=
  loopN fuel (fun rec s => acode E tab cal nt lt b i (fun s' => rec (keepSt kp s')) (fun j s' => Kx j (keepSt kp s')) (fun s' => Kr (keepSt kr s')) s) (keepSt kp st)
def ares (st : St) : List ResultVar → Option (List AV)
  | [] => some []
  | .tmp t :: r => (ares st r).map (st.fr t :: ·)
  | .cell a t :: r => match st.fr a with
    | .ptr b i => match st.hs.hp b with
      | .cells cs => match partC E t cs i, ares st r with
        | some v, some vs => some (v :: vs)
        | _, _ => none
      | _ => none
    | _ => none
def tupOf : List AV → AV
  | [v] => v
  | vs => .tup vs
def afin (fn : Func) (K : AV → HS → Prop) (st : St) : Prop :=
  match ares E st fn.results.toList with
  | some vs => K (tupOf vs) st.hs
  | none => False
def okR (n c : Nat) : Bool := !Nat.beq (c % 3) 2 || Nat.blt n (c / 3)
def aseqR (n : Nat) (ops : List Oper) : List Oper → St → (St → Prop) → Prop
  | [], st, K => K st
  | o :: r, st, K => aop1 E tab cal nt none ops o st fun c st' => bif okR n c then aseqR n ops r st' K else False
def acodeR (n : Nat) : Code → (St → Prop) → (St → Prop) → St → Prop
  | .skip, Kn, _, st => Kn st
  | .region _ ops false, Kn, _, st => aseqR E tab cal nt n ops.toList ops.toList st Kn
  | .region _ ops true, Kn, _, st => bif needR ops.toList then False
    else adraw E tab cal nt none ops.toList ops.toList [] st fun log st' => bif drawOk st.hs.hn ops.toList log && log.all (okR n) then Kn st' else False
  | .seq a b, Kn, Kr, st => acodeR n a (acodeR n b Kn Kr) Kr st
  | .ret, _, Kr, st => Kr st
  | _, _, _, _ => False
def afun : Nat → Bool → Callee
  | 0, _, _, _, _, _ => False
  | d + 1, m, f, args, hs, K => match E.P.funcs[f]? with
    | some fn => match fn.body with
      | some c => bif Nat.ble args.length fn.ntmps then
          (bif E.ro f then acodeR E (detT E tab) (afun d false) fn.ntmps hs.hn c (afin E fn K) (afin E fn K) { fr := lget args, hs }
          else acodeM E tab (afun d) fn.ntmps (fun _ => none) m c 0 (afin E fn K) (fun _ _ => False) (afin E fn K) { fr := lget args, hs }) else False
      | none => False
    | none => False
def hs0 : HS := { hp := fun _ => .dead, hn := 0 }
def apure (d : Nat) (f : FuncId) (args : List AV) (K : AV → Prop) : Prop :=
  match E.P.funcs[f]? with
  | some fn => match fn.body with
    | some c => bif Nat.ble args.length fn.ntmps then acode E tab (afun E tab d) fn.ntmps lt c 0 (afin E fn fun v hs => K (frz hs.hp v)) (fun _ _ => False) (afin E fn fun v hs => K (frz hs.hp v)) { fr := lget args, hs := hs0 } else False
    | none => False
  | none => False
def loopsOf : Code → Nat → List (Nat × Code)
  | .seq a b, i => loopsOf a i ++ loopsOf b i
  | .cond _ a b, i => loopsOf a i ++ loopsOf b i
  | .block id b, _ => loopsOf b id
  | .loop b, i => (i, b) :: loopsOf b i
  | _, _ => []
def loopsIn (P : Program) (f : FuncId) : List (Nat × Code) :=
  match P.funcs[f]? with
  | some fn => match fn.body with
    | some c => loopsOf c 0
    | none => []
  | none => []
end Gm
