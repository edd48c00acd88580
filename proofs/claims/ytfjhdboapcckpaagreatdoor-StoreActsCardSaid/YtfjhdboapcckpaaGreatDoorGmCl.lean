/- A row's arguments, read as typed values. -/
import Derived.ProofKit
import Derived.Carry
import Derived.JoinedOf
import Derived.SizedLaws
import Derived.OpenShut
import Derived.WideShapes
import Derived.Test.YtfjhdboapcckpaaGreatDoorGmZ6
namespace Gm
open Go Go.WideShapes
def leafsOf : Ty → List Ty
  | .st n => leafs n
  | t => [t]
def Ty.by : Ty → Nat
  | .int k => k.bits / 8
  | .bool => 1
  | .str => 16
  | .slice _ => 24
  | .st 0 => 24
  | .st 1 => 64
  | .st 2 => 32
  | .st 3 => 48
  | .st 4 => 48
  | .st 5 => 88
  | .st 6 => 3
  | .st 7 => 8
  | .st 8 => 120
  | .st 9 => 40
  | .st 10 => 24
  | .st 11 => 48
  | .st 12 => 80
  | .st 13 => 336
  | .st 14 => 64
  | .st 15 => 744
  | .st 16 => 40
  | .st 17 => 16
  | .st 18 => 16
  | .st 19 => 104
  | .st 20 => 88
  | .st 21 => 1680
  | .st _ => 0
abbrev big : Nat := 0x7ffffffff000
abbrev inK (k : IntKind) (n : Int) : Prop := k.min ≤ n ∧ n ≤ k.max
abbrev wStr (s : Str) : Prop := s.length ≤ big
def wWrite (y : Write) : Prop := inK .i64 y.sector ∧ wStr y.data
def wDisk (y : Disk) : Prop := (y.sure.length * 16 ≤ big ∧ ∀ x ∈ y.sure, wStr x) ∧ (y.cache.length * 24 ≤ big ∧ ∀ x ∈ y.cache, wWrite x) ∧ inK .i64 y.fuse
def wVec (y : Vec) : Prop := inK .u64 y.current ∧ inK .u64 y.bitmap ∧ inK .u64 y.old0 ∧ inK .u64 y.old1
def wf3 (y : Super) : Prop := inK .i64 y.blocks ∧ wVec y.vector
def wHello (y : Hello) : Prop := inK .i64 y.blocks ∧ wVec y.vector ∧ inK .u32 y.mask
def wf5 (y : Packet) : Prop := inK .i64 y.kind ∧ inK .u64 y.session ∧ wHello y.hello ∧ inK .i64 y.block ∧ wStr y.data
def wf6 (_ : Shape) : Prop := True
def wf7 (y : Two) : Prop := inK .u32 y.a ∧ inK .u32 y.b
def wf8 (y : Store) : Prop := wDisk y.disk ∧ wf3 y.sup ∧ inK .u32 y.mask
def wf9 (y : Req) : Prop := inK .i64 y.id ∧ inK .i64 y.block ∧ wStr y.data
def wf10 (y : Mint) : Prop := inK .u64 y.gen ∧ inK .u64 y.parent ∧ inK .i64 y.node
def wf11 (y : Outp) : Prop := inK .i64 y.kind ∧ inK .i64 y.node ∧ inK .i64 y.id ∧ inK .i64 y.err ∧ wStr y.data
def wf12 (y : Event) : Prop := inK .i64 y.kind ∧ inK .i64 y.node ∧ inK .i64 y.id ∧ inK .i64 y.block ∧ wStr y.data ∧ inK .u64 y.num ∧ (y.keeps.length * 1 ≤ big ∧ ∀ x ∈ y.keeps, True)
def wf13 (y : Node) : Prop := inK .i64 y.id ∧ wf8 y.store ∧ inK .i64 y.state ∧ inK .u64 y.session ∧ wHello y.peer ∧ wf9 y.req ∧ inK .i64 y.askId ∧ inK .i64 y.wanted ∧ (y.draws.length * 8 ≤ big ∧ ∀ x ∈ y.draws, inK .u64 x) ∧ (y.mints.length * 24 ≤ big ∧ ∀ x ∈ y.mints, wf10 x)
def wf14 (y : Link) : Prop := inK .u64 y.session ∧ (y.to0.length * 16 ≤ big ∧ ∀ x ∈ y.to0, wStr x) ∧ (y.to1.length * 16 ≤ big ∧ ∀ x ∈ y.to1, wStr x)
def wf15 (y : Cluster) : Prop := wf13 y.n0 ∧ wf13 y.n1 ∧ wf14 y.link
def wf16 (y : Case) : Prop := inK .u8 y.blocks ∧ (y.l.length * 80 ≤ big ∧ ∀ x ∈ y.l, wf12 x)
def wf17 (y : Verdict) : Prop := inK .i64 y.kind ∧ inK .i64 y.source
def wf18 (y : PairI) : Prop := inK .i64 y.a ∧ inK .i64 y.b
def wf19 (y : PairH) : Prop := wHello y.h0 ∧ wHello y.h1 ∧ inK .i64 y.source
def wf20 (y : SAct) : Prop := inK .i64 y.kind ∧ inK .i64 y.block ∧ inK .u32 y.mask ∧ wStr y.data ∧ wf3 y.sup
def wf21 (y : Node5) : Prop := wf13 y.n0 ∧ wf13 y.n1 ∧ wf13 y.n2 ∧ wf13 y.n3 ∧ wf13 y.n4
def wfS : (n : Nat) → denS n → Prop
  | 0, x => wWrite x
  | 1, x => wDisk x
  | 2, x => wVec x
  | 3, x => wf3 x
  | 4, x => wHello x
  | 5, x => wf5 x
  | 6, x => wf6 x
  | 7, x => wf7 x
  | 8, x => wf8 x
  | 9, x => wf9 x
  | 10, x => wf10 x
  | 11, x => wf11 x
  | 12, x => wf12 x
  | 13, x => wf13 x
  | 14, x => wf14 x
  | 15, x => wf15 x
  | 16, x => wf16 x
  | 17, x => wf17 x
  | 18, x => wf18 x
  | 19, x => wf19 x
  | 20, x => wf20 x
  | 21, x => wf21 x
  | _, _ => True
def Wf : (t : Ty) → t.den → Prop
  | .int k, n => inK k n
  | .bool, _ => True
  | .str, s => wStr s
  | .slice t, xs => xs.length * t.by ≤ big ∧ ∀ x ∈ xs, Wf t x
  | .st n, x => wfS n x
def WfAll : (ts : List Ty) → Dens ts → Prop
  | [], _ => True
  | t :: r, x => Wf t x.1 ∧ WfAll r x.2
inductive Leafs : List Ty → List AV → Prop
  | nil : Leafs [] []
  | cons {t : Ty} (x : t.den) {ts as} : Wf t x → Leafs ts as → Leafs (t :: ts) (enc t x :: as)
theorem Leafs.length {ts : List Ty} {as : List AV} (h : Leafs ts as) : as.length = ts.length := by
  induction h with
  | nil => rfl
  | cons _ _ _ ih => simp [ih]
theorem Leafs.append {ts : List Ty} {as : List AV} (h : Leafs ts as) : ∀ {us : List Ty} {bs : List AV}, Leafs us bs → Leafs (ts ++ us) (as ++ bs) := by
  induction h with
  | nil => exact fun h => h
  | cons x h1 _ ih => exact fun k => .cons x h1 (ih k)
theorem Leafs.inv {t : Ty} {ts : List Ty} {as : List AV} (h : Leafs (t :: ts) as) : ∃ (x : t.den) (bs : List AV), as = enc t x :: bs ∧ Wf t x ∧ Leafs ts bs := by
  cases h with
  | cons x h1 h2 => exact ⟨x, _, rfl, h1, h2⟩
theorem Leafs.inv0 {as : List AV} (h : Leafs [] as) : as = [] := by cases h; rfl
theorem Leafs.st : ∀ {n : Nat} {as : List AV}, n < 21 → Leafs (leafs n) as → ∃ x : denS n, as = encS n x ∧ wfS n x
  | 0, as, _, h => by
    obtain ⟨a0, _, rfl, h0, h⟩ := h.inv
    obtain ⟨a1, _, rfl, h1, h⟩ := h.inv
    cases h.inv0
    exact ⟨⟨a0, a1⟩, rfl, ⟨h0, h1⟩⟩
  | 1, as, _, h => by
    obtain ⟨a0, _, rfl, h0, h⟩ := h.inv
    obtain ⟨a1, _, rfl, h1, h⟩ := h.inv
    obtain ⟨a2, _, rfl, h2, h⟩ := h.inv
    obtain ⟨a3, _, rfl, h3, h⟩ := h.inv
    cases h.inv0
    exact ⟨⟨a0, a1, a2, a3⟩, rfl, ⟨h0, h1, h2⟩⟩
  | 2, as, _, h => by
    obtain ⟨a0, _, rfl, h0, h⟩ := h.inv
    obtain ⟨a1, _, rfl, h1, h⟩ := h.inv
    obtain ⟨a2, _, rfl, h2, h⟩ := h.inv
    obtain ⟨a3, _, rfl, h3, h⟩ := h.inv
    cases h.inv0
    exact ⟨⟨a0, a1, a2, a3⟩, rfl, ⟨h0, h1, h2, h3⟩⟩
  | 3, as, _, h => by
    obtain ⟨a0, _, rfl, h0, h⟩ := h.inv
    obtain ⟨a1, _, rfl, h1, h⟩ := h.inv
    obtain ⟨a2, _, rfl, h2, h⟩ := h.inv
    obtain ⟨a3, _, rfl, h3, h⟩ := h.inv
    obtain ⟨a4, _, rfl, h4, h⟩ := h.inv
    obtain ⟨a5, _, rfl, h5, h⟩ := h.inv
    obtain ⟨a6, _, rfl, h6, h⟩ := h.inv
    obtain ⟨a7, _, rfl, h7, h⟩ := h.inv
    cases h.inv0
    exact ⟨⟨a0, ⟨a1, a2, a3, a4⟩, a5, a6, a7⟩, rfl, ⟨h0, ⟨h1, h2, h3, h4⟩⟩⟩
  | 4, as, _, h => by
    obtain ⟨a0, _, rfl, h0, h⟩ := h.inv
    obtain ⟨a1, _, rfl, h1, h⟩ := h.inv
    obtain ⟨a2, _, rfl, h2, h⟩ := h.inv
    obtain ⟨a3, _, rfl, h3, h⟩ := h.inv
    obtain ⟨a4, _, rfl, h4, h⟩ := h.inv
    obtain ⟨a5, _, rfl, h5, h⟩ := h.inv
    obtain ⟨a6, _, rfl, h6, h⟩ := h.inv
    obtain ⟨a7, _, rfl, h7, h⟩ := h.inv
    obtain ⟨a8, _, rfl, h8, h⟩ := h.inv
    obtain ⟨a9, _, rfl, h9, h⟩ := h.inv
    cases h.inv0
    exact ⟨⟨a0, ⟨a1, a2, a3, a4⟩, a5, a6, a7, a8, a9⟩, rfl, ⟨h0, ⟨h1, h2, h3, h4⟩, h9⟩⟩
  | 5, as, _, h => by
    obtain ⟨a0, _, rfl, h0, h⟩ := h.inv
    obtain ⟨a1, _, rfl, h1, h⟩ := h.inv
    obtain ⟨a2, _, rfl, h2, h⟩ := h.inv
    obtain ⟨a3, _, rfl, h3, h⟩ := h.inv
    obtain ⟨a4, _, rfl, h4, h⟩ := h.inv
    obtain ⟨a5, _, rfl, h5, h⟩ := h.inv
    obtain ⟨a6, _, rfl, h6, h⟩ := h.inv
    obtain ⟨a7, _, rfl, h7, h⟩ := h.inv
    obtain ⟨a8, _, rfl, h8, h⟩ := h.inv
    obtain ⟨a9, _, rfl, h9, h⟩ := h.inv
    obtain ⟨a10, _, rfl, h10, h⟩ := h.inv
    obtain ⟨a11, _, rfl, h11, h⟩ := h.inv
    obtain ⟨a12, _, rfl, h12, h⟩ := h.inv
    obtain ⟨a13, _, rfl, h13, h⟩ := h.inv
    cases h.inv0
    exact ⟨⟨a0, a1, ⟨a2, ⟨a3, a4, a5, a6⟩, a7, a8, a9, a10, a11⟩, a12, a13⟩, rfl, ⟨h0, h1, ⟨h2, ⟨h3, h4, h5, h6⟩, h11⟩, h12, h13⟩⟩
  | 6, as, _, h => by
    obtain ⟨a0, _, rfl, h0, h⟩ := h.inv
    obtain ⟨a1, _, rfl, h1, h⟩ := h.inv
    obtain ⟨a2, _, rfl, h2, h⟩ := h.inv
    cases h.inv0
    exact ⟨⟨a0, a1, a2⟩, rfl, trivial⟩
  | 7, as, _, h => by
    obtain ⟨a0, _, rfl, h0, h⟩ := h.inv
    obtain ⟨a1, _, rfl, h1, h⟩ := h.inv
    cases h.inv0
    exact ⟨⟨a0, a1⟩, rfl, ⟨h0, h1⟩⟩
  | 8, as, _, h => by
    obtain ⟨a0, _, rfl, h0, h⟩ := h.inv
    obtain ⟨a1, _, rfl, h1, h⟩ := h.inv
    obtain ⟨a2, _, rfl, h2, h⟩ := h.inv
    obtain ⟨a3, _, rfl, h3, h⟩ := h.inv
    obtain ⟨a4, _, rfl, h4, h⟩ := h.inv
    obtain ⟨a5, _, rfl, h5, h⟩ := h.inv
    obtain ⟨a6, _, rfl, h6, h⟩ := h.inv
    obtain ⟨a7, _, rfl, h7, h⟩ := h.inv
    obtain ⟨a8, _, rfl, h8, h⟩ := h.inv
    obtain ⟨a9, _, rfl, h9, h⟩ := h.inv
    obtain ⟨a10, _, rfl, h10, h⟩ := h.inv
    obtain ⟨a11, _, rfl, h11, h⟩ := h.inv
    obtain ⟨a12, _, rfl, h12, h⟩ := h.inv
    cases h.inv0
    exact ⟨⟨⟨a0, a1, a2, a3⟩, ⟨a4, ⟨a5, a6, a7, a8⟩, a9, a10, a11⟩, a12⟩, rfl, ⟨⟨h0, h1, h2⟩, ⟨h4, ⟨h5, h6, h7, h8⟩⟩, h12⟩⟩
  | 9, as, _, h => by
    obtain ⟨a0, _, rfl, h0, h⟩ := h.inv
    obtain ⟨a1, _, rfl, h1, h⟩ := h.inv
    obtain ⟨a2, _, rfl, h2, h⟩ := h.inv
    obtain ⟨a3, _, rfl, h3, h⟩ := h.inv
    cases h.inv0
    exact ⟨⟨a0, a1, a2, a3⟩, rfl, ⟨h1, h2, h3⟩⟩
  | 10, as, _, h => by
    obtain ⟨a0, _, rfl, h0, h⟩ := h.inv
    obtain ⟨a1, _, rfl, h1, h⟩ := h.inv
    obtain ⟨a2, _, rfl, h2, h⟩ := h.inv
    cases h.inv0
    exact ⟨⟨a0, a1, a2⟩, rfl, ⟨h0, h1, h2⟩⟩
  | 11, as, _, h => by
    obtain ⟨a0, _, rfl, h0, h⟩ := h.inv
    obtain ⟨a1, _, rfl, h1, h⟩ := h.inv
    obtain ⟨a2, _, rfl, h2, h⟩ := h.inv
    obtain ⟨a3, _, rfl, h3, h⟩ := h.inv
    obtain ⟨a4, _, rfl, h4, h⟩ := h.inv
    cases h.inv0
    exact ⟨⟨a0, a1, a2, a3, a4⟩, rfl, ⟨h0, h1, h2, h3, h4⟩⟩
  | 12, as, _, h => by
    obtain ⟨a0, _, rfl, h0, h⟩ := h.inv
    obtain ⟨a1, _, rfl, h1, h⟩ := h.inv
    obtain ⟨a2, _, rfl, h2, h⟩ := h.inv
    obtain ⟨a3, _, rfl, h3, h⟩ := h.inv
    obtain ⟨a4, _, rfl, h4, h⟩ := h.inv
    obtain ⟨a5, _, rfl, h5, h⟩ := h.inv
    obtain ⟨a6, _, rfl, h6, h⟩ := h.inv
    cases h.inv0
    exact ⟨⟨a0, a1, a2, a3, a4, a5, a6⟩, rfl, ⟨h0, h1, h2, h3, h4, h5, h6⟩⟩
  | 13, as, _, h => by
    obtain ⟨a0, _, rfl, h0, h⟩ := h.inv
    obtain ⟨a1, _, rfl, h1, h⟩ := h.inv
    obtain ⟨a2, _, rfl, h2, h⟩ := h.inv
    obtain ⟨a3, _, rfl, h3, h⟩ := h.inv
    obtain ⟨a4, _, rfl, h4, h⟩ := h.inv
    obtain ⟨a5, _, rfl, h5, h⟩ := h.inv
    obtain ⟨a6, _, rfl, h6, h⟩ := h.inv
    obtain ⟨a7, _, rfl, h7, h⟩ := h.inv
    obtain ⟨a8, _, rfl, h8, h⟩ := h.inv
    obtain ⟨a9, _, rfl, h9, h⟩ := h.inv
    obtain ⟨a10, _, rfl, h10, h⟩ := h.inv
    obtain ⟨a11, _, rfl, h11, h⟩ := h.inv
    obtain ⟨a12, _, rfl, h12, h⟩ := h.inv
    obtain ⟨a13, _, rfl, h13, h⟩ := h.inv
    obtain ⟨a14, _, rfl, h14, h⟩ := h.inv
    obtain ⟨a15, _, rfl, h15, h⟩ := h.inv
    obtain ⟨a16, _, rfl, h16, h⟩ := h.inv
    obtain ⟨a17, _, rfl, h17, h⟩ := h.inv
    obtain ⟨a18, _, rfl, h18, h⟩ := h.inv
    obtain ⟨a19, _, rfl, h19, h⟩ := h.inv
    obtain ⟨a20, _, rfl, h20, h⟩ := h.inv
    obtain ⟨a21, _, rfl, h21, h⟩ := h.inv
    obtain ⟨a22, _, rfl, h22, h⟩ := h.inv
    obtain ⟨a23, _, rfl, h23, h⟩ := h.inv
    obtain ⟨a24, _, rfl, h24, h⟩ := h.inv
    obtain ⟨a25, _, rfl, h25, h⟩ := h.inv
    obtain ⟨a26, _, rfl, h26, h⟩ := h.inv
    obtain ⟨a27, _, rfl, h27, h⟩ := h.inv
    obtain ⟨a28, _, rfl, h28, h⟩ := h.inv
    obtain ⟨a29, _, rfl, h29, h⟩ := h.inv
    obtain ⟨a30, _, rfl, h30, h⟩ := h.inv
    obtain ⟨a31, _, rfl, h31, h⟩ := h.inv
    obtain ⟨a32, _, rfl, h32, h⟩ := h.inv
    obtain ⟨a33, _, rfl, h33, h⟩ := h.inv
    obtain ⟨a34, _, rfl, h34, h⟩ := h.inv
    obtain ⟨a35, _, rfl, h35, h⟩ := h.inv
    obtain ⟨a36, _, rfl, h36, h⟩ := h.inv
    obtain ⟨a37, _, rfl, h37, h⟩ := h.inv
    obtain ⟨a38, _, rfl, h38, h⟩ := h.inv
    cases h.inv0
    exact ⟨⟨a0, a1, ⟨⟨a2, a3, a4, a5⟩, ⟨a6, ⟨a7, a8, a9, a10⟩, a11, a12, a13⟩, a14⟩, a15, a16, a17, ⟨a18, ⟨a19, a20, a21, a22⟩, a23, a24, a25, a26, a27⟩, a28, ⟨a29, a30, a31, a32⟩, a33, a34, a35, a36, a37, a38⟩, rfl, ⟨h0, ⟨⟨h2, h3, h4⟩, ⟨h6, ⟨h7, h8, h9, h10⟩⟩, h14⟩, h16, h17, ⟨h18, ⟨h19, h20, h21, h22⟩, h27⟩, ⟨h30, h31, h32⟩, h34, h35, h37, h38⟩⟩
  | 14, as, _, h => by
    obtain ⟨a0, _, rfl, h0, h⟩ := h.inv
    obtain ⟨a1, _, rfl, h1, h⟩ := h.inv
    obtain ⟨a2, _, rfl, h2, h⟩ := h.inv
    obtain ⟨a3, _, rfl, h3, h⟩ := h.inv
    cases h.inv0
    exact ⟨⟨a0, a1, a2, a3⟩, rfl, ⟨h1, h2, h3⟩⟩
  | 15, as, _, h => by
    obtain ⟨a0, _, rfl, h0, h⟩ := h.inv
    obtain ⟨a1, _, rfl, h1, h⟩ := h.inv
    obtain ⟨a2, _, rfl, h2, h⟩ := h.inv
    obtain ⟨a3, _, rfl, h3, h⟩ := h.inv
    obtain ⟨a4, _, rfl, h4, h⟩ := h.inv
    obtain ⟨a5, _, rfl, h5, h⟩ := h.inv
    obtain ⟨a6, _, rfl, h6, h⟩ := h.inv
    obtain ⟨a7, _, rfl, h7, h⟩ := h.inv
    obtain ⟨a8, _, rfl, h8, h⟩ := h.inv
    obtain ⟨a9, _, rfl, h9, h⟩ := h.inv
    obtain ⟨a10, _, rfl, h10, h⟩ := h.inv
    obtain ⟨a11, _, rfl, h11, h⟩ := h.inv
    obtain ⟨a12, _, rfl, h12, h⟩ := h.inv
    obtain ⟨a13, _, rfl, h13, h⟩ := h.inv
    obtain ⟨a14, _, rfl, h14, h⟩ := h.inv
    obtain ⟨a15, _, rfl, h15, h⟩ := h.inv
    obtain ⟨a16, _, rfl, h16, h⟩ := h.inv
    obtain ⟨a17, _, rfl, h17, h⟩ := h.inv
    obtain ⟨a18, _, rfl, h18, h⟩ := h.inv
    obtain ⟨a19, _, rfl, h19, h⟩ := h.inv
    obtain ⟨a20, _, rfl, h20, h⟩ := h.inv
    obtain ⟨a21, _, rfl, h21, h⟩ := h.inv
    obtain ⟨a22, _, rfl, h22, h⟩ := h.inv
    obtain ⟨a23, _, rfl, h23, h⟩ := h.inv
    obtain ⟨a24, _, rfl, h24, h⟩ := h.inv
    obtain ⟨a25, _, rfl, h25, h⟩ := h.inv
    obtain ⟨a26, _, rfl, h26, h⟩ := h.inv
    obtain ⟨a27, _, rfl, h27, h⟩ := h.inv
    obtain ⟨a28, _, rfl, h28, h⟩ := h.inv
    obtain ⟨a29, _, rfl, h29, h⟩ := h.inv
    obtain ⟨a30, _, rfl, h30, h⟩ := h.inv
    obtain ⟨a31, _, rfl, h31, h⟩ := h.inv
    obtain ⟨a32, _, rfl, h32, h⟩ := h.inv
    obtain ⟨a33, _, rfl, h33, h⟩ := h.inv
    obtain ⟨a34, _, rfl, h34, h⟩ := h.inv
    obtain ⟨a35, _, rfl, h35, h⟩ := h.inv
    obtain ⟨a36, _, rfl, h36, h⟩ := h.inv
    obtain ⟨a37, _, rfl, h37, h⟩ := h.inv
    obtain ⟨a38, _, rfl, h38, h⟩ := h.inv
    obtain ⟨a39, _, rfl, h39, h⟩ := h.inv
    obtain ⟨a40, _, rfl, h40, h⟩ := h.inv
    obtain ⟨a41, _, rfl, h41, h⟩ := h.inv
    obtain ⟨a42, _, rfl, h42, h⟩ := h.inv
    obtain ⟨a43, _, rfl, h43, h⟩ := h.inv
    obtain ⟨a44, _, rfl, h44, h⟩ := h.inv
    obtain ⟨a45, _, rfl, h45, h⟩ := h.inv
    obtain ⟨a46, _, rfl, h46, h⟩ := h.inv
    obtain ⟨a47, _, rfl, h47, h⟩ := h.inv
    obtain ⟨a48, _, rfl, h48, h⟩ := h.inv
    obtain ⟨a49, _, rfl, h49, h⟩ := h.inv
    obtain ⟨a50, _, rfl, h50, h⟩ := h.inv
    obtain ⟨a51, _, rfl, h51, h⟩ := h.inv
    obtain ⟨a52, _, rfl, h52, h⟩ := h.inv
    obtain ⟨a53, _, rfl, h53, h⟩ := h.inv
    obtain ⟨a54, _, rfl, h54, h⟩ := h.inv
    obtain ⟨a55, _, rfl, h55, h⟩ := h.inv
    obtain ⟨a56, _, rfl, h56, h⟩ := h.inv
    obtain ⟨a57, _, rfl, h57, h⟩ := h.inv
    obtain ⟨a58, _, rfl, h58, h⟩ := h.inv
    obtain ⟨a59, _, rfl, h59, h⟩ := h.inv
    obtain ⟨a60, _, rfl, h60, h⟩ := h.inv
    obtain ⟨a61, _, rfl, h61, h⟩ := h.inv
    obtain ⟨a62, _, rfl, h62, h⟩ := h.inv
    obtain ⟨a63, _, rfl, h63, h⟩ := h.inv
    obtain ⟨a64, _, rfl, h64, h⟩ := h.inv
    obtain ⟨a65, _, rfl, h65, h⟩ := h.inv
    obtain ⟨a66, _, rfl, h66, h⟩ := h.inv
    obtain ⟨a67, _, rfl, h67, h⟩ := h.inv
    obtain ⟨a68, _, rfl, h68, h⟩ := h.inv
    obtain ⟨a69, _, rfl, h69, h⟩ := h.inv
    obtain ⟨a70, _, rfl, h70, h⟩ := h.inv
    obtain ⟨a71, _, rfl, h71, h⟩ := h.inv
    obtain ⟨a72, _, rfl, h72, h⟩ := h.inv
    obtain ⟨a73, _, rfl, h73, h⟩ := h.inv
    obtain ⟨a74, _, rfl, h74, h⟩ := h.inv
    obtain ⟨a75, _, rfl, h75, h⟩ := h.inv
    obtain ⟨a76, _, rfl, h76, h⟩ := h.inv
    obtain ⟨a77, _, rfl, h77, h⟩ := h.inv
    obtain ⟨a78, _, rfl, h78, h⟩ := h.inv
    obtain ⟨a79, _, rfl, h79, h⟩ := h.inv
    obtain ⟨a80, _, rfl, h80, h⟩ := h.inv
    obtain ⟨a81, _, rfl, h81, h⟩ := h.inv
    obtain ⟨a82, _, rfl, h82, h⟩ := h.inv
    obtain ⟨a83, _, rfl, h83, h⟩ := h.inv
    cases h.inv0
    exact ⟨⟨⟨a0, a1, ⟨⟨a2, a3, a4, a5⟩, ⟨a6, ⟨a7, a8, a9, a10⟩, a11, a12, a13⟩, a14⟩, a15, a16, a17, ⟨a18, ⟨a19, a20, a21, a22⟩, a23, a24, a25, a26, a27⟩, a28, ⟨a29, a30, a31, a32⟩, a33, a34, a35, a36, a37, a38⟩, ⟨a39, a40, ⟨⟨a41, a42, a43, a44⟩, ⟨a45, ⟨a46, a47, a48, a49⟩, a50, a51, a52⟩, a53⟩, a54, a55, a56, ⟨a57, ⟨a58, a59, a60, a61⟩, a62, a63, a64, a65, a66⟩, a67, ⟨a68, a69, a70, a71⟩, a72, a73, a74, a75, a76, a77⟩, ⟨a78, a79, a80, a81⟩, a82, a83⟩, rfl, ⟨⟨h0, ⟨⟨h2, h3, h4⟩, ⟨h6, ⟨h7, h8, h9, h10⟩⟩, h14⟩, h16, h17, ⟨h18, ⟨h19, h20, h21, h22⟩, h27⟩, ⟨h30, h31, h32⟩, h34, h35, h37, h38⟩, ⟨h39, ⟨⟨h41, h42, h43⟩, ⟨h45, ⟨h46, h47, h48, h49⟩⟩, h53⟩, h55, h56, ⟨h57, ⟨h58, h59, h60, h61⟩, h66⟩, ⟨h69, h70, h71⟩, h73, h74, h76, h77⟩, ⟨h79, h80, h81⟩⟩⟩
  | 16, as, _, h => by
    obtain ⟨a0, _, rfl, h0, h⟩ := h.inv
    obtain ⟨a1, _, rfl, h1, h⟩ := h.inv
    obtain ⟨a2, _, rfl, h2, h⟩ := h.inv
    cases h.inv0
    exact ⟨⟨a0, a1, a2⟩, rfl, ⟨h0, h1⟩⟩
  | 17, as, _, h => by
    obtain ⟨a0, _, rfl, h0, h⟩ := h.inv
    obtain ⟨a1, _, rfl, h1, h⟩ := h.inv
    cases h.inv0
    exact ⟨⟨a0, a1⟩, rfl, ⟨h0, h1⟩⟩
  | 18, as, _, h => by
    obtain ⟨a0, _, rfl, h0, h⟩ := h.inv
    obtain ⟨a1, _, rfl, h1, h⟩ := h.inv
    cases h.inv0
    exact ⟨⟨a0, a1⟩, rfl, ⟨h0, h1⟩⟩
  | 19, as, _, h => by
    obtain ⟨a0, _, rfl, h0, h⟩ := h.inv
    obtain ⟨a1, _, rfl, h1, h⟩ := h.inv
    obtain ⟨a2, _, rfl, h2, h⟩ := h.inv
    obtain ⟨a3, _, rfl, h3, h⟩ := h.inv
    obtain ⟨a4, _, rfl, h4, h⟩ := h.inv
    obtain ⟨a5, _, rfl, h5, h⟩ := h.inv
    obtain ⟨a6, _, rfl, h6, h⟩ := h.inv
    obtain ⟨a7, _, rfl, h7, h⟩ := h.inv
    obtain ⟨a8, _, rfl, h8, h⟩ := h.inv
    obtain ⟨a9, _, rfl, h9, h⟩ := h.inv
    obtain ⟨a10, _, rfl, h10, h⟩ := h.inv
    obtain ⟨a11, _, rfl, h11, h⟩ := h.inv
    obtain ⟨a12, _, rfl, h12, h⟩ := h.inv
    obtain ⟨a13, _, rfl, h13, h⟩ := h.inv
    obtain ⟨a14, _, rfl, h14, h⟩ := h.inv
    obtain ⟨a15, _, rfl, h15, h⟩ := h.inv
    obtain ⟨a16, _, rfl, h16, h⟩ := h.inv
    obtain ⟨a17, _, rfl, h17, h⟩ := h.inv
    obtain ⟨a18, _, rfl, h18, h⟩ := h.inv
    obtain ⟨a19, _, rfl, h19, h⟩ := h.inv
    obtain ⟨a20, _, rfl, h20, h⟩ := h.inv
    cases h.inv0
    exact ⟨⟨⟨a0, ⟨a1, a2, a3, a4⟩, a5, a6, a7, a8, a9⟩, ⟨a10, ⟨a11, a12, a13, a14⟩, a15, a16, a17, a18, a19⟩, a20⟩, rfl, ⟨⟨h0, ⟨h1, h2, h3, h4⟩, h9⟩, ⟨h10, ⟨h11, h12, h13, h14⟩, h19⟩, h20⟩⟩
  | 20, as, _, h => by
    obtain ⟨a0, _, rfl, h0, h⟩ := h.inv
    obtain ⟨a1, _, rfl, h1, h⟩ := h.inv
    obtain ⟨a2, _, rfl, h2, h⟩ := h.inv
    obtain ⟨a3, _, rfl, h3, h⟩ := h.inv
    obtain ⟨a4, _, rfl, h4, h⟩ := h.inv
    obtain ⟨a5, _, rfl, h5, h⟩ := h.inv
    obtain ⟨a6, _, rfl, h6, h⟩ := h.inv
    obtain ⟨a7, _, rfl, h7, h⟩ := h.inv
    obtain ⟨a8, _, rfl, h8, h⟩ := h.inv
    obtain ⟨a9, _, rfl, h9, h⟩ := h.inv
    obtain ⟨a10, _, rfl, h10, h⟩ := h.inv
    obtain ⟨a11, _, rfl, h11, h⟩ := h.inv
    cases h.inv0
    exact ⟨⟨a0, a1, a2, a3, ⟨a4, ⟨a5, a6, a7, a8⟩, a9, a10, a11⟩⟩, rfl, ⟨h0, h1, h2, h3, ⟨h4, ⟨h5, h6, h7, h8⟩⟩⟩⟩
  | _ + 21, _, h, _ => by omega
def Ty.real : Ty → Bool
  | .st n => Nat.blt n 21
  | _ => true
theorem Leafs.of {t : Ty} (hr : t.real = true) {as : List AV} (h : Leafs (leafsOf t) as) : ∃ x : t.den, as = (enc t x).cells ∧ Wf t x := by
  cases t with
  | st n =>
    obtain ⟨x, e, hx⟩ := Leafs.st (n := n) (by simpa [Ty.real] using hr) h
    exact ⟨x, e, hx⟩
  | int k => obtain ⟨x, bs, rfl, hx, h⟩ := h.inv; cases h.inv0; exact ⟨x, rfl, hx⟩
  | bool => obtain ⟨x, bs, rfl, hx, h⟩ := h.inv; cases h.inv0; exact ⟨x, rfl, hx⟩
  | str => obtain ⟨x, bs, rfl, hx, h⟩ := h.inv; cases h.inv0; exact ⟨x, rfl, hx⟩
  | slice t => obtain ⟨x, bs, rfl, hx, h⟩ := h.inv; cases h.inv0; exact ⟨x, rfl, hx⟩
def flatP (P : Program) (go : List Ty → TypeId → Bool) {α : Type} (off : α → Nat) (ty : α → TypeId) : List α → Nat → List Ty → Bool
  | [], _, ts => ts.isEmpty
  | x :: r, o, ts => Nat.beq (off x) o && (Nat.ble (P.cellsOf (ty x)) ts.length && (go (ts.take (P.cellsOf (ty x))) (ty x) && flatP P go off ty r (o + P.cellsOf (ty x)) (ts.drop (P.cellsOf (ty x)))))
def flatIs (P : Program) : Nat → List Ty → TypeId → Bool
  | 0, _, _ => false
  | k + 1, ts, t => match P.underlying t, ts with
    | some (.struct fs), ts => Nat.beq (P.cellsOf t) ts.length && flatP P (flatIs P k) (·.offset) (·.type) fs.toList 0 ts
    | some (.array n e), ts => Nat.beq (P.cellsOf t) ts.length && flatP P (flatIs P k) (fun i => i * P.cellsOf e) (fun _ => e) (List.range n) 0 ts
    | some .bool, [.bool] => true
    | some (.int q), [.int q'] => decide (q = q')
    | some .string, [.str] => true
    | some (.slice e), [.slice u] => u.real && (Nat.blt 0 u.sz && (Nat.beq (P.cellsOf e) u.sz && (Nat.beq (P.bytesOf e) u.by && flatIs P k (leafsOf u) e)))
    | _, _ => false
section
variable {H : Type} {encH : TypeId × Value → H} {P : Program} {S : Sit}
def small (ns : List Nat) : Prop := ∀ n ∈ ns, n ≤ big
theorem flatP_ok {go : List Ty → TypeId → Bool} {α : Type} {off : α → Nat} {ty : α → TypeId} {cs : List Value} :
    ∀ (l : List α) (o : Nat) (ts : List Ty), flatP P go off ty l o ts = true →
    (∀ x ∈ l, ∀ us, go us (ty x) = true → ∃ as, Leafs us as ∧ ∀ (i : Nat) a v, as[i]? = some a → ((cs.drop (off x)).take (P.cellsOf (ty x)))[i]? = some v → Rv S a v) →
    ∃ as, Leafs ts as ∧ ∀ (i : Nat) a v, as[i]? = some a → cs[o + i]? = some v → Rv S a v
  | [], o, ts, h, _ => by
    cases ts with
    | nil => exact ⟨[], .nil, fun i a v h => by simp at h⟩
    | cons => cases h
  | x :: l, o, ts, h, hs => by
    simp only [flatP, Bool.and_eq_true] at h
    obtain ⟨h1, h2, h3, h4⟩ := h
    have h1 := Nat.eq_of_beq_eq_true h1
    have h2 := Nat.le_of_ble_eq_true h2
    obtain ⟨as, ha, hav⟩ := hs x (by simp) _ h3
    obtain ⟨bs, hb, hbv⟩ := flatP_ok l _ _ h4 (fun y hy us hg => hs y (by simp [hy]) us hg)
    have hlen : (ts.take (P.cellsOf (ty x))).length = P.cellsOf (ty x) := by simp; omega
    have hal := ha.length
    refine ⟨as ++ bs, by simpa using ha.append hb, ?_⟩
    intro i a v hi hv
    rw [List.getElem?_append] at hi
    split at hi
    · rename_i hlt
      refine hav i a v hi ?_
      rw [List.getElem?_take, if_pos (by omega), List.getElem?_drop, h1]
      exact hv
    · rename_i hlt
      refine hbv (i - as.length) a v hi ?_
      rw [show o + P.cellsOf (ty x) + (i - as.length) = o + i by omega]
      exact hv
theorem weightsAll_mem {e : TypeId} : ∀ {ds : List (DataW H)} {d : DataW H}, d ∈ ds → ∀ n ∈ d.weights P e, n ∈ DataW.weightsAll P e ds
  | [], _, h, _, _ => by cases h
  | d0 :: ds, d, h, n, hn => by
    simp only [DataW.weightsAll, List.mem_append]
    rcases List.mem_cons.1 h with rfl | h
    · exact .inl hn
    · exact .inr (weightsAll_mem h n hn)
theorem pick_list {α β : Type} {R : Nat → α → β → Prop} : ∀ (l : List α) (k : Nat), (∀ (i : Nat) x, l[i]? = some x → ∃ y, R (k + i) x y) → ∃ ys : List β, ys.length = l.length ∧ ∀ (i : Nat) x y, l[i]? = some x → ys[i]? = some y → R (k + i) x y
  | [], _, _ => ⟨[], rfl, fun i x y h => by simp at h⟩
  | x :: l, k, h => by
    obtain ⟨y, hy⟩ := h 0 x rfl
    obtain ⟨ys, h1, h2⟩ := pick_list (R := R) l (k + 1) (fun i x hx => by
      have := h (i + 1) x (by simpa using hx)
      rwa [show k + (i + 1) = k + 1 + i by omega] at this)
    refine ⟨y :: ys, by simp [h1], ?_⟩
    intro i x' y' hx hy'
    cases i with
    | zero => simp at hx hy'; subst hx; subst hy'; exact hy
    | succ i =>
      have := h2 i x' y' (by simpa using hx) (by simpa using hy')
      rwa [show k + 1 + i = k + (i + 1) by omega] at this
theorem cells_some {w : World} {base : Nat} {a : Addr} {n : Nat} {cs : List Value} (h : w.cells? base a n = some cs) : cs.length = n ∧ ∀ i, i < n → w.cell? (a.add i) = cs[i]? := by
  unfold World.cells? at h
  split at h
  · refine ⟨by simpa using mapM_some_length h, ?_⟩
    intro i hi
    exact mapM_some_get h i i (by simp [hi])
  · cases h
theorem spot_none {w : World} {a : Addr} {v : Value} (h : w.cell? a = some v) : a = at_ a.block a.off ∧ a.block < w.heap.size := by
  unfold World.cell? at h
  split at h
  · rename_i hh
    split at h
    · cases h
    · rename_i hs
      refine ⟨?_, (Array.getElem?_eq_some_iff.1 hh).1⟩
      obtain ⟨b, o, s⟩ := a
      cases s with
      | none => rfl
      | some s => simp at hs
  · cases h
theorem add_at0 (B o n : Nat) : (at_ B o).add n = at_ B (o + n) := by
  unfold Addr.add at_
  split
  · rename_i h; subst h; rfl
  · rfl
theorem open_trod (hF : ∀ B o, B < S.w.heap.size → S.F B o) : ∀ (k fuel : Nat) (ts : List Ty) (t : TypeId) (cs : List Value) (x : DataW H × List MemPlace), flatIs P k ts t = true →
    DataW.trod encH P S.w 0 (fun _ => true) true fuel t cs = some x → small (x.1.weights P t) →
    cs.length = ts.length ∧ ∃ as, Leafs ts as ∧ ∀ (i : Nat) a v, as[i]? = some a → cs[i]? = some v → Rv S a v
  | 0, _, _, _, _, _, h, _, _ => by cases h
  | k + 1, fuel, ts, t, cs, x, hf, h, hw => by
    have IH := open_trod hF k
    have one : ∀ {u : Ty} (x : u.den) (v : Value), Wf u x → Rv S (enc u x) v → ts = [u] → cs = [v] → cs.length = ts.length ∧ ∃ as, Leafs ts as ∧ ∀ (i : Nat) a v, as[i]? = some a → cs[i]? = some v → Rv S a v := by
      intro u x v hx hr e1 e2
      subst e1; subst e2
      refine ⟨rfl, _, .cons x hx .nil, ?_⟩
      intro i a w hi hv
      cases i with
      | zero => simp at hi hv; subst hi; subst hv; exact hr
      | succ i => simp at hi
    unfold flatIs at hf
    split at hf
    · -- a struct
      rename_i fs hu
      simp only [Bool.and_eq_true] at hf
      obtain ⟨hf1, hf2⟩ := hf
      have hf1 := Nat.eq_of_beq_eq_true hf1
      obtain ⟨xs, n, rfl, rfl, hl, hxl, hx⟩ := DataW.trod_struct hu h
      refine ⟨hl.trans hf1, ?_⟩
      have hw' : ∀ n ∈ DataW.weightsEach P (fs.toList.map (·.type)) (xs.map (·.1)), n ≤ big := by
        intro n hn
        refine hw n ?_
        simp only [DataW.weights, hu]
        exact hn
      obtain ⟨as, ha, hav⟩ := flatP_ok (S := S) (cs := cs) fs.toList 0 _ hf2 (by
        intro f hf us hg
        obtain ⟨i, hi, hid⟩ := List.mem_iff_getElem.1 hf
        have hfi : fs[i]? = some f := by
          rw [← Array.getElem?_toList, List.getElem?_eq_getElem hi, hid]
        have hget := hx i f hfi
        have hi' : i < xs.length := by rw [hxl]; simpa using hi
        have hxi : xs[i]? = some xs[i] := List.getElem?_eq_getElem hi'
        rw [hxi] at hget
        have hws : small (xs[i].1.weights P f.type) := fun n hn => hw' n (DataW.weights_mem_each (j := i) (t := f.type) (d := xs[i].1) (by rw [List.getElem?_map, List.getElem?_eq_getElem hi, hid]; rfl) (by rw [List.getElem?_map, hxi]; rfl) n hn)
        exact (IH n us f.type _ _ hg hget hws).2)
      exact ⟨as, ha, fun i a v hi hv => hav i a v hi (by simpa using hv)⟩
    · -- an array
      rename_i n e hu
      simp only [Bool.and_eq_true] at hf
      obtain ⟨hf1, hf2⟩ := hf
      have hf1 := Nat.eq_of_beq_eq_true hf1
      obtain ⟨xs, m, rfl, rfl, hl, hxl, hx⟩ := DataW.trod_array hu h
      refine ⟨hl.trans hf1, ?_⟩
      have hw' : ∀ n ∈ DataW.weightsAll P e (xs.map (·.1)), n ≤ big := by
        intro n hn
        refine hw n ?_
        simp only [DataW.weights, hu]
        exact hn
      obtain ⟨as, ha, hav⟩ := flatP_ok (S := S) (cs := cs) (List.range n) 0 _ hf2 (by
        intro i hi us hg
        have hi : i < n := by simpa using hi
        have hget := hx i hi
        have hi' : i < xs.length := by omega
        have hxi : xs[i]? = some xs[i] := List.getElem?_eq_getElem hi'
        rw [hxi] at hget
        have hws : small (xs[i].1.weights P e) := fun n hn => hw' n (weightsAll_mem (d := xs[i].1) (List.mem_map.2 ⟨_, List.getElem_mem hi', rfl⟩) n hn)
        exact (IH m us e _ _ hg hget hws).2)
      exact ⟨as, ha, fun i a v hi hv => hav i a v hi (by simpa using hv)⟩
    · -- bool
      rename_i hu
      obtain ⟨b, rfl, rfl⟩ := DataW.trod_bool hu h
      exact one (u := .bool) b (.bool b) trivial (.bool b) rfl rfl
    · -- int
      rename_i q q' hu
      have e : q = q' := by simpa using hf
      subst e
      obtain ⟨n, rfl, rfl, hn⟩ := DataW.trod_int hu h
      simp only [Lit.wf, Bool.and_eq_true, decide_eq_true_eq] at hn
      exact one (u := .int q) n (.int q n) hn (.int q n) rfl rfl
    · -- string
      rename_i hu
      obtain ⟨s, rfl, rfl, hs⟩ := DataW.trod_string hu h
      exact one (u := .str) s.data.toList (.string s) (hw _ (by simp [DataW.weights])) (.str _ _ rfl) rfl rfl
    · -- a slice
      rename_i e u hu
      simp only [Bool.and_eq_true] at hf
      obtain ⟨hr, hz, hc, hb, hg⟩ := hf
      have hz : 0 < u.sz := Nat.le_of_ble_eq_true hz
      have hc := Nat.eq_of_beq_eq_true hc
      have hb := Nat.eq_of_beq_eq_true hb
      rcases DataW.trod_slice hu h with ⟨rfl, rfl⟩ | ⟨a, len, cap, elems, rest, n, rfl, rfl, rfl, _, hl, hm, hlen, hel, _, _⟩
      · exact one (u := .slice u) ([] : List u.den) (.slice none 0 0) ⟨by simp, fun x h => by cases h⟩ (.slN _ _ (by simp)) rfl rfl
      · have hw1 : (elems.length + rest.length) * P.bytesOf e ≤ big := hw _ (by simp [DataW.weights, hu])
        have hw2 : ∀ y ∈ elems, small (y.1.weights P e) := fun y hy n hn => hw n (by
          simp only [DataW.weights, hu, List.mem_cons, List.mem_append]
          exact .inr (.inl (weightsAll_mem (List.mem_map.2 ⟨y, hy, rfl⟩) n hn)))
        obtain ⟨xs, hxl, hxs⟩ := pick_list (R := fun i (_ : DataW H × List MemPlace) (x : u.den) => Wf u x ∧ ∃ cs, S.w.cells? 0 (a.add (i * u.sz)) u.sz = some cs ∧ ∀ (j : Nat) c v, (enc u x).cells[j]? = some c → cs[j]? = some v → Rv S c v) elems 0 (by
          intro i y hy
          have hi : i < len := by rw [← hlen]; exact (List.getElem?_eq_some_iff.1 hy).1
          have h1 := hel i hi
          rw [hy, hc, Option.bind_eq_some_iff] at h1
          obtain ⟨cs, h1, h2⟩ := h1
          obtain ⟨_, as, ha, hav⟩ := IH n (leafsOf u) e cs y hg h2 (hw2 y (List.mem_of_getElem? hy))
          obtain ⟨x, hx, hwx⟩ := Leafs.of hr ha
          subst hx
          exact ⟨x, hwx, cs, by simpa using h1, hav⟩)
        have hxw : ∀ x ∈ xs, Wf u x := by
          intro x hx
          obtain ⟨i, hi, e⟩ := List.mem_iff_getElem.1 hx
          have hi' : i < elems.length := by omega
          exact (hxs i elems[i] x (List.getElem?_eq_getElem hi') (by rw [List.getElem?_eq_getElem hi, e])).1
        have hxc : ∀ (i : Nat) x, xs[i]? = some x → ∃ cs, S.w.cells? 0 (a.add (i * u.sz)) u.sz = some cs ∧ ∀ (j : Nat) c v, (enc u x).cells[j]? = some c → cs[j]? = some v → Rv S c v := by
          intro i x hx
          have hi : i < xs.length := (List.getElem?_eq_some_iff.1 hx).1
          have hi' : i < elems.length := by omega
          have := (hxs i elems[i] x (List.getElem?_eq_getElem hi') hx).2
          simpa using this
        have hlx : xs.length = len := hxl.trans hlen
        have hwf : Wf (.slice u) xs := by
          refine ⟨?_, hxw⟩
          rw [← hb, hxl]
          exact Nat.le_trans (Nat.mul_le_mul_right _ (by omega)) hw1
        refine one (u := .slice u) xs _ hwf ?_ rfl rfl
        show Rv S (.sl .any u xs) _
        cases xs with
        | nil =>
          simp at hlx
          subst hlx
          exact .slE _ _ _ _ (by simp)
        | cons x0 xr =>
          -- its first cell is there
          obtain ⟨cs0, h0, _⟩ := hxc 0 x0 rfl
          have h00 := (cells_some h0).2 0 hz
          have hcl := (cells_some h0).1
          have ha0 : a.add (0 * u.sz) = a := by simp [Addr.add]
          rw [ha0] at h00
          have haa : a.add 0 = a := by simp [Addr.add]
          rw [haa, List.getElem?_eq_getElem (by omega)] at h00
          obtain ⟨e1, e2⟩ := spot_none h00
          rw [e1] at hxc ⊢
          generalize a.block = B at *
          generalize a.off = off at *
          rw [← hlx]
          have cellv : ∀ i j, i < (x0 :: xr).length → j < u.sz → ∃ v, S.w.cell? (at_ B (off + (i * u.sz + j))) = some v ∧ ∀ x c, (x0 :: xr)[i]? = some x → (enc u x).cells[j]? = some c → Rv S c v := by
            intro i j hi hj
            obtain ⟨cs, h1, h2⟩ := hxc i _ (List.getElem?_eq_getElem hi)
            obtain ⟨h3, h4⟩ := cells_some h1
            have h5 := h4 j hj
            rw [add_at0, add_at0, List.getElem?_eq_getElem (by omega), Nat.add_assoc] at h5
            refine ⟨_, h5, ?_⟩
            intro x c hx hc
            rw [List.getElem?_eq_getElem hi] at hx
            cases hx
            exact h2 j c _ hc (List.getElem?_eq_getElem (by omega))
          refine .sl _ _ _ _ _ _ (fun k => (S.w.cell? (at_ B (off + k))).getD (.bool false)) (by omega) (by simp) (fun k _ => hF _ _ e2) ?_ ?_
          · intro k hk
            have hk1 : k / u.sz < (x0 :: xr).length := by rw [Nat.div_lt_iff_lt_mul hz]; exact hk
            obtain ⟨v, h1, _⟩ := cellv (k / u.sz) (k % u.sz) hk1 (Nat.mod_lt _ hz)
            rw [Nat.mul_comm, Nat.div_add_mod] at h1
            rw [h1]; rfl
          · intro i x j c hx hc
            have hi : i < (x0 :: xr).length := (List.getElem?_eq_some_iff.1 hx).1
            have hj : j < u.sz := by
              have := (List.getElem?_eq_some_iff.1 hc).1
              rwa [enc_cells_length] at this
            obtain ⟨v, h1, h2⟩ := cellv i j hi hj
            rw [h1]
            exact h2 x c hx hc
    · cases hf
def headIs (P : Program) (u : Ty) (t : TypeId) : Bool := match u, P.underlying t with
  | .st _, some (.struct _) => true
  | .st _, some (.array _ _) => true
  | .int _, some (.int _) => true
  | .bool, some .bool => true
  | .str, some .string => true
  | .slice _, some (.slice _) => true
  | _, _ => false
theorem head_ok {u : Ty} {t : TypeId} {v : Value} {x : u.den} {b0 : Nat} (h : headIs P u t = true) (hok : Value.okWide P S.w .any b0 t v) (hlen : v.cells.toList.length = (enc u x).cells.length)
    (hav : ∀ (i : Nat) a w, (enc u x).cells[i]? = some a → v.cells.toList[i]? = some w → Rv S a w) : Rv S (enc u x) v := by
  have one : (enc u x).cells = [enc u x] → v.cells = #[v] → Rv S (enc u x) v := fun h1 h2 => hav 0 _ v (by rw [h1]; rfl) (by rw [h2]; rfl)
  have agg : ∀ n (y : denS n), enc u x = .agg (encS n y) → (∃ cs, v = .agg cs) → Rv S (enc u x) v := by
    intro n y h1 h2
    obtain ⟨cs, rfl⟩ := h2
    rw [h1] at hav hlen ⊢
    refine .agg _ _ (by simpa [Value.cells, AV.cells] using hlen.symm) ?_
    intro i c w hc hw
    exact hav i c w hc (by simpa [Value.cells] using hw)
  unfold headIs at h
  split at h
  · rename_i n fs hu
    simp only [Value.okWide, hu] at hok
    obtain ⟨cs, rfl, _⟩ := hok
    exact agg _ _ rfl ⟨_, rfl⟩
  · rename_i n fs e hu
    simp only [Value.okWide, hu] at hok
    obtain ⟨cs, rfl, _⟩ := hok
    exact agg _ _ rfl ⟨_, rfl⟩
  · rename_i q q' hu
    obtain ⟨n, rfl⟩ := okWide_int hu hok
    exact one rfl rfl
  · rename_i hu
    obtain ⟨n, rfl⟩ := okWide_bool hu hok
    exact one rfl rfl
  · rename_i hu
    obtain ⟨n, rfl⟩ := okWide_string hu hok
    exact one rfl rfl
  · rename_i q e hu
    obtain ⟨a, l, c, rfl⟩ := okWide_slice hu hok
    exact one rfl rfl
  · cases h
def tysIs (P : Program) : List Ty → List TypeId → Bool
  | [], [] => true
  | u :: us, t :: ts => u.real && (flatIs P 8 (leafsOf u) t && (headIs P u t && tysIs P us ts))
  | _, _ => false
theorem open_all {b0 : Nat} (hF : ∀ B o, B < S.w.heap.size → S.F B o) : ∀ (us : List Ty) (ts : List TypeId) (vs : List Value) (ds : List (DataW H)) (ps : List MemPlace), tysIs P us ts = true →
    DataW.TrodAll encH P S.w 0 (fun _ => true) true ts vs ds ps → small (DataW.weightsEach P ts ds) → (∀ (j : Nat) t v, ts[j]? = some t → vs[j]? = some v → Value.okWide P S.w .any b0 t v) →
    ∃ x : Dens us, WfAll us x ∧ (encA us x).length = vs.length ∧ ∀ (i : Nat) a v, (encA us x)[i]? = some a → vs[i]? = some v → Rv S a v
  | [], [], vs, ds, ps, _, h, _, _ => by
    obtain ⟨rfl, rfl, rfl⟩ := ChangeShapes.trodAll_nil h
    exact ⟨(), trivial, rfl, fun i a v h => by simp [encA] at h⟩
  | u :: us, t :: ts, vs, ds, ps, hf, h, hw, hok => by
    obtain ⟨v, vs, d, ds, p, q, rfl, rfl, rfl, h1, h2⟩ := ChangeShapes.trodAll_cons h
    simp only [tysIs, Bool.and_eq_true] at hf
    obtain ⟨hr, hf1, hf2, hf3⟩ := hf
    obtain ⟨fuel, h1⟩ := h1
    simp only [DataW.weightsEach] at hw
    obtain ⟨e1, as, ha, hav⟩ := open_trod hF 8 fuel (leafsOf u) t _ _ hf1 h1 (fun n hn => hw n (List.mem_append.2 (.inl hn)))
    have hal := ha.length
    obtain ⟨x, hx, hwx⟩ := Leafs.of hr ha
    subst hx
    obtain ⟨y, hy, hyl, hyv⟩ := open_all hF us ts vs ds q hf3 h2 (fun n hn => hw n (List.mem_append.2 (.inr hn))) (fun j t v ht hv => hok (j + 1) t v (by simpa using ht) (by simpa using hv))
    refine ⟨(x, y), ⟨hwx, hy⟩, by simp [encA, hyl], ?_⟩
    have hv : Rv S (enc u x) v := head_ok hf2 (hok 0 t v rfl rfl) (by omega) hav
    intro i a w hi hv'
    cases i with
    | zero => simp [encA] at hi hv'; subst hi; subst hv'; exact hv
    | succ i => exact hyv i a w (by simpa [encA] using hi) (by simpa using hv')
  | [], _ :: _, _, _, _, h, _, _, _ => by cases h
  | _ :: _, [], _, _, _, h, _, _, _ => by cases h
end
end Gm

namespace Gm
open Go Go.RowKit
theorem callable_of {P : Program} {f : FuncId} (hn : NoNum P) (h : ((P.funcs[f]?).bind (·.body)).isSome = true) : Callable P f := by
  cases hf : P.funcs[f]? with
  | none => rw [hf] at h; cases h
  | some fn =>
    rw [hf] at h
    cases hb : fn.body with
    | none => simp [hb] at h
    | some c => exact callable hn hf hb
def ansK {β : Type} (cod : Cod β) (K : β → Prop) (v : AV) : Prop := match cod.dec v with
  | some r => K r
  | none => False
theorem mkSound {E : Env} {tab : Tab} {lt : Nat → Option LSpec} {d : Nat} {f : FuncId} {β : Type} {ts : List Ty} {cod : Cod β} {F : Dens ts → (β → Prop) → Prop} (g : Ground E tab) (hl : LoopsOk E tab lt d f)
    (hcall : ((E.P.funcs[f]?).bind (·.body)).isSome = true) (h : ∀ x K, apure E tab lt d f (encA ts x) (ansK cod K) = F x K) : EntrySound E f (mkEntry ts cod F) :=
  mkEntry_sound g hl (callable_of g.num hcall) (fun x K k => by have e := h x K; rw [← e] at k; exact k)
section
variable {H : Type} {encH : TypeId × Value → H} {P : Program}
theorem trodAll_below {W W' : World} (hl : laidOutB P = true) (hb : Below W.heap.size W W') : ∀ (ts : List TypeId) (vs : List Value) (ds : List (DataW H)) (ps : List MemPlace), (ts.all fun t => P.readableRec t && decide (t < P.types.size)) = true →
    DataW.TrodAll encH P W 0 (fun _ => true) true ts vs ds ps → (∀ x ∈ ps, x.block < W.heap.size) →
    DataW.TrodAll encH P W' 0 (fun b => decide (b < W.heap.size)) true ts vs ds ps ∧ ds.length = ts.length
  | [], vs, ds, ps, _, h, _ => by
    obtain ⟨rfl, rfl, rfl⟩ := ChangeShapes.trodAll_nil h
    exact ⟨rfl, rfl⟩
  | t :: ts, vs, ds, ps, hr, h, hlt => by
    obtain ⟨v, vs, d, ds, p, q, rfl, rfl, rfl, h1, h2⟩ := ChangeShapes.trodAll_cons h
    simp only [List.all_cons, Bool.and_eq_true, decide_eq_true_eq] at hr
    obtain ⟨⟨r1, r2⟩, r3⟩ := hr
    obtain ⟨h3, h4⟩ := trodAll_below hl hb ts vs ds q (by simpa using r3) h2 (fun x hx => hlt x (by simp [hx]))
    exact ⟨⟨p, q, Below.trod hl r1 r2 h1 hb (fun x hx => hlt x (by simp [hx])), h3, rfl⟩, by simp [h4]⟩
end
theorem law_calls {E : Env} {tab : Tab} {lt : Nat → Option LSpec} {d : Nat} {f : FuncId} {us : List Ty} {F : Dens us → (Bool → Prop) → Prop} (g : Ground E tab) (hl : LoopsOk E tab lt d f)
    (heq : ∀ (x : Dens us) (K : Bool → Prop), apure E tab lt d f (encA us x) (ansK (cTy .bool) K) = F x K)
    {W : World} {args : Array Value} {x : Dens us} (hv : E.V W) (hx : F x fun r => r = true) (hlen : (encA us x).length = args.size)
    (hr : ∀ (i : Nat) a v, (encA us x)[i]? = some a → args[i]? = some v → Rv (fresh { w := W, F := fun B _ => B < W.heap.size, G := fun _ => ⟨none, 0, 0, 0⟩, N := 0 }) a v) :
    Calls E.P f args W fun e W' => e = .returned (.bool true) ∧ Below W.heap.size W W' := by
  have h := heq x fun r => r = true
  rw [← h] at hx
  refine ((apure_calls g hl hx).2 { w := W, F := fun B _ => B < W.heap.size, G := fun _ => ⟨none, 0, 0, 0⟩, N := 0 } args (fun B o h => h) hv ⟨hlen, hr⟩).mono ?_
  rintro e w' ⟨v, a, T, rfl, rfl, h1, h2, h3⟩
  have ha : a = .bool true := by
    unfold ansK at h2
    split at h2
    · rename_i r hd
      subst h2
      cases a <;> first | (cases hd; rfl) | cases hd
    · exact h2.elim
  subst ha
  obtain ⟨U, hU, hX, _⟩ := h3 (.bool true) (.bool _) (fun _ _ h => h)
  have hv : v = .bool true := by cases h1; rfl
  subst hv
  refine ⟨rfl, ?_⟩
  rw [← hU]
  exact ⟨hX.os, hX.tape, hX.output, hX.size, fun k hk => hX.old k hk⟩
theorem law_contract {E : Env} {P : Program} {tab : Tab} {lt : Nat → Option LSpec} {d : Nat} {f : FuncId} {fn : Func} {us : List Ty} {F : Dens us → (Bool → Prop) → Prop} {s : ChangeSpec} {tb : TypeId} {apart fresh handsOn : Bool} (hP : E.P = P) (g : Ground E tab) (hl : LoopsOk E tab lt d f)
    (heq : ∀ (x : Dens us) (K : Bool → Prop), apure E tab lt d f (encA us x) (ansK (cTy .bool) K) = F x K)
    (hF : ∀ x, WfAll us x → F x fun r => r = true)
    (laid : laidOutB P = true) (hread : (fn.params.toList.all fun t => P.readableRec t && decide (t < P.types.size)) = true) (hty : tysIs P us fn.params.toList = true)
    (hvars : s.vars = []) (hres : fn.resultTypes = #[tb]) (hb : P.underlying tb = some .bool)
    (hs : ∀ (H : Type) (ds : List (DataW H)), ds.length = us.length → s.fn H ds = ⟨[.lit (.bool true)], ds, []⟩)
    {H : Type} {encH : TypeId × Value → H} (W : World) (hv : E.V W) (base : Nat) (args : Array Value) (ds gs : List (DataW H)) (before : List MemPlace)
    (hok : ∀ (j : Nat) t v, fn.params[j]? = some t → args[j]? = some v → Value.okWide P W .any base t v)
    (hW : DataW.Whole encH P fn.params.toList s.vars apart W args.toList ds gs before)
    (hw : (DataW.weightsEach P (fn.params.toList ++ s.plain.varTypes P) (ds ++ gs)).all (· ≤ reachBytes) = true) :
    Calls P f args W fun e W' => ∃ v, e = .returned v ∧ s.post encH P fn apart fresh handsOn false W args v W' := by
  subst hP
  have hW0 := hW
  obtain ⟨p, q, hA, hV, rfl, hfz, hap⟩ := hW
  rw [hvars] at hV
  obtain ⟨rfl, rfl⟩ := ChangeShapes.trodVars_none hV
  have hlt : ∀ x ∈ p, x.block < W.heap.size := fun x hx => hW0.lt x (by simp [hx])
  have hvt : s.plain.varTypes E.P = [] := by
    simp [ChangeSpec.plain, DataSpec.varTypes, hvars]
  rw [hvt, List.append_nil, List.append_nil] at hw
  obtain ⟨x, hx, hlen, hr⟩ := open_all (S := Gm.fresh { w := W, F := fun B _ => B < W.heap.size, G := fun _ => ⟨none, 0, 0, 0⟩, N := 0 }) (fun B o h => h) us fn.params.toList args.toList ds p hty hA
    (fun n hn => of_decide_eq_true (List.all_eq_true.1 hw n hn)) (b0 := base) (fun j t v ht hv => hok j t v (by simpa using ht) (by simpa using hv))
  have hul : us.length = fn.params.toList.length := by
    clear hread hA hok hw hr hlen
    revert hty
    generalize fn.params.toList = ts
    clear hx x hW0 hF heq hs hl hlt hfz hap F
    induction us generalizing ts with
    | nil => intro h; cases ts with
      | nil => rfl
      | cons => cases h
    | cons u us ih => intro h; cases ts with
      | nil => cases h
      | cons t ts =>
        simp only [tysIs, Bool.and_eq_true] at h
        simp [ih ts h.2.2.2]
  refine (law_calls g hl heq hv (hF x hx) (by simpa using hlen) (fun i a v ha hv => hr i a v ha (by simpa using hv))).mono ?_
  rintro e W' ⟨rfl, hbel⟩
  obtain ⟨h1, h2⟩ := trodAll_below laid hbel fn.params.toList args.toList ds p hread hA hlt
  refine ⟨_, rfl, ds, [], _, [], p, [], hW0, ?_, ?_, ?_, hbel.frame _, fun h => by cases h⟩
  · rw [List.append_nil, hs H ds (by omega), hres]
    exact ChangeShapes.trodAll_mk1 (shut_bool hb true)
  · rw [List.append_nil, hs H ds (by omega)]
    exact h1
  · rw [List.append_nil, hs H ds (by omega), hvars]
    rfl
end Gm

namespace Gm
open Go
def hsC (t : Ty) (xs : List t.den) : HS := (hs0.push (.row false t [])).push (.row false t xs)
def Flat (t : Ty) : Prop := ∀ (x : t.den) (c : AV), c ∈ (enc t x).cells → ∀ (S T : Sit) (u : Value), Rv S c u → Rv T c u
theorem flat_str : Flat .str := by
  intro x c hc S T u h
  simp [enc, AV.cells] at hc
  subst hc
  cases h with
  | str _ b e => exact .str _ b e
theorem flat_st {n : Nat} (hl : ((leafs n).all fun t => match t with | .slice _ => false | .st _ => false | _ => true) = true) : Flat (.st n) := by
  intro x c hc S T u h
  have hc : c ∈ encS n x := hc
  unfold encS at hc
  obtain ⟨t, y, ht, rfl⟩ := encL_mem hc
  have := List.all_eq_true.1 hl t ht
  cases t with
  | int k => cases h; exact .int _ _
  | bool => cases h; exact .bool _
  | str =>
    cases h with
    | str _ b e => exact .str _ b e
  | slice t => cases this
  | st m => cases this
theorem flat_write : Flat (.st 0) := flat_st rfl
theorem clone_of {E0 : Env} {f : FuncId} {t : Ty} {w : Nat} (hflat : Flat t) (hcl : CloneSound E0) (hn : NoNum E0.P) (hm : E0.P.follows .mixedOrders = true)
    (h1 : ∀ (xs : List t.den) (K : AV → HS → Prop), afun E0 [] 1 true f [.sl .nn t xs] hs0 K = (bif decide (xs.length * w ≤ room) then K (.slr 1) (hsC t xs) else False))
    (h2 : ∀ (K : AV → HS → Prop), afun E0 [] 1 true f [.snil] hs0 K = (bif decide (([] : List t.den).length * w ≤ room) then K (.slr 1) (hsC t []) else False)) :
    Callable E0.P f ∧ ∀ (w0 : World) (A : Ow) (S : Sit) (hs : HS) (v : Value) (xs : List t.den), RH w0 A S hs → Rv S (.sl .any t xs) v →
      xs.length * w ≤ room → Calls E0.P f #[v] S.w (fun e w' => ∃ v a T, e = .returned v ∧ a = .slr hs.hn ∧ T.w = w' ∧ Le S T ∧ RH w0 A T (hs.push (.row false t xs)) ∧ Rv T a v) := by
  have go : ∀ (xs : List t.den) (arg : AV), xs.length * w ≤ room → (∀ K : AV → HS → Prop, afun E0 [] 1 true f [arg] hs0 K = (bif decide (xs.length * w ≤ room) then K (.slr 1) (hsC t xs) else False)) →
      Callable E0.P f ∧ ∀ (w0 : World) (A : Ow) (S : Sit) (hs : HS) (v : Value), RH w0 A S hs → Rv (fresh S) arg v →
      Calls E0.P f #[v] S.w (fun e w' => ∃ v a T, e = .returned v ∧ a = .slr hs.hn ∧ T.w = w' ∧ Le S T ∧ RH w0 A T (hs.push (.row false t xs)) ∧ Rv T a v) := by
    intro xs arg hx he
    have hrun := fun (w0 : World) (A : Ow) => afun_sound (w0 := w0) (A := A) hn hm (fun _ _ h => by cases h) hcl dtab_nil 1 true f [arg] hs0 (fun a hs' => a = .slr 1 ∧ hs'.hp 1 = .row false t xs) (by
      rw [he]
      have hd : decide (xs.length * w ≤ room) = true := by simpa using hx
      rw [hd]
      exact ⟨rfl, rfl⟩)
    refine ⟨(hrun default ⟨fun _ => False, fun _ _ => False⟩).1, ?_⟩
    intro w0 A S hs v r hv
    have hc : Cs (fresh S) [arg] #[v] := by
      refine ⟨rfl, ?_⟩
      intro i c u h1 h2
      match i with
      | 0 => simp at h1 h2; subst h1; subst h2; exact hv
      | i + 1 => simp at h1
    refine ((hrun S.w ⟨fun _ => False, S.F⟩).2 (fresh S) #[v] (fresh_rh r.F) hc).mono ?_
    rintro e w' ⟨v', a, T, hs', rfl, rfl, hle, hrh, hrv, rfl, hrow⟩
    have hX : Ext S { w := T.w, F := S.F, G := S.G, N := S.N } := {
      le := ⟨fun B o h => h, fun B o u h hc => hle.cell B o u h hc, fun _ _ => rfl, Nat.le_refl _⟩
      G := rfl
      N := rfl
      os := hrh.os
      tape := hrh.tape
      output := hrh.output
      size := hrh.size
      old := fun B hB => hrh.old B hB (fun h => h)
      F := fun B o h => .inl h }
    have r1 := r.ext hX
    have hb := hrh.blks 1
    rw [hrow] at hb
    obtain ⟨l1, l2, l3⟩ := hb
    rcases l3 with ⟨b1, b2, b3⟩ | ⟨B, c, el, fz, b1, b2, b3, b4, b5, b6, b7⟩
    · -- there is no row
      subst b2
      refine ⟨v', .slr hs.hn, Sit.bare { w := T.w, F := S.F, G := S.G, N := S.N } t.sz, rfl, rfl, rfl, hX.le.trans (Le.bare _ _), r1.bare false t, ?_⟩
      have hg : (Sit.bare { w := T.w, F := S.F, G := S.G, N := S.N } t.sz).G hs.hn = ⟨none, 0, 0, t.sz⟩ := by
        rw [← r.N]; exact upd_self _ _ _
      have hN : hs.hn < (Sit.bare { w := T.w, F := S.F, G := S.G, N := S.N } t.sz).N := by
        show hs.hn < S.N + 1
        rw [r.N]; omega
      have hv' : ∃ a, v' = .slice a 0 0 := by
        generalize e1 : (AV.slr 1) = a at hrv
        cases hrv with
        | slr b B hb hB => cases e1; rw [b1] at hB; cases hB
        | slrN b a hb hB hl hc => exact ⟨_, rfl⟩
        | _ => cases e1
      obtain ⟨a, rfl⟩ := hv'
      exact .slrN _ _ hN (by rw [hg]) (by rw [hg]) (by rw [hg])
    · have hlt : B < T.w.heap.size := heap_lt b2
      have hnew : S.w.heap.size ≤ B := by
        rcases hrh.own 1 B (by rw [hrow]; intro h; cases h) b1 with h | h
        · exact h.elim
        · exact h
      have hv' : v' = .slice (some (at_ B 0)) (T.G 1).len (T.G 1).cap := by
        generalize e1 : (AV.slr 1) = a at hrv
        cases hrv with
        | slr b B' hb hB => cases e1; rw [b1] at hB; cases hB; rfl
        | slrN b a hb hB hl hc => cases e1; rw [b1] at hB; cases hB
        | _ => cases e1
      subst hv'
      have hput : World.put T.w B (.cells c el fz) = T.w := put_self b2
      have hG : (Sit.adopt { w := T.w, F := S.F, G := S.G, N := S.N } B (.cells c el fz) (T.G 1).len (T.G 1).cap t.sz).G S.N = ⟨some B, (T.G 1).len, (T.G 1).cap, t.sz⟩ := upd_self _ _ _
      have hL : Le { w := T.w, F := S.F, G := S.G, N := S.N } (Sit.adopt { w := T.w, F := S.F, G := S.G, N := S.N } B (.cells c el fz) (T.G 1).len (T.G 1).cap t.sz) :=
        ⟨fun _ _ h => h, fun B' o u _ h => by show (World.put T.w B _).cell? _ = _; rw [hput]; exact h, fun b hb => upd_ne _ _ (by show b ≠ S.N; have hb : b < S.N := hb; omega), Nat.le_succ _⟩
      have hF2 : ∀ o, ¬ S.F B o := fun o h => by have := r.F B o h; omega
      refine ⟨_, .slr hs.hn, Sit.adopt { w := T.w, F := S.F, G := S.G, N := S.N } B (.cells c el fz) (T.G 1).len (T.G 1).cap t.sz, rfl, rfl, hput, hX.le.trans hL, ?_, ?_⟩
      · refine r1.adopt hlt ?_ ?_ hL ?_
        · intro x hx hB
          have := r.alive_lt hx hB
          omega
        · exact .inr (Nat.le_trans r.size hnew)
        · refine ⟨by rw [hG]; exact l1, by rw [hG], .inr ⟨B, c, el, fz, by rw [hG], ?_, by rw [hG]; exact b3, by rw [hG]; exact b4, by rw [hG]; exact b5, ?_, fun o h => absurd h (hF2 o)⟩⟩
          · show (World.put T.w B _).heap[B]? = _
            rw [hput]; exact b2
          · intro i x j a u hx ha hu
            exact hflat x a (List.mem_of_getElem? ha) T _ u (b6 i x j a u hx ha hu)
      · have : Rv (Sit.adopt { w := T.w, F := S.F, G := S.G, N := S.N } B (.cells c el fz) (T.G 1).len (T.G 1).cap t.sz) (.slr S.N) (.slice (some (at_ B 0)) (((Sit.adopt { w := T.w, F := S.F, G := S.G, N := S.N } B (.cells c el fz) (T.G 1).len (T.G 1).cap t.sz).G S.N).len) (((Sit.adopt { w := T.w, F := S.F, G := S.G, N := S.N } B (.cells c el fz) (T.G 1).len (T.G 1).cap t.sz).G S.N).cap)) :=
          .slr S.N B (Nat.lt_succ_self _) (by rw [hG])
        rw [hG] at this
        rw [← r.N]
        exact this
  refine ⟨(go [] .snil (by simp) h2).1, ?_⟩
  intro w0 A S hs v xs r hv hx
  have le : LeF S (fresh S) := ⟨fun _ _ h => h, fun _ _ _ _ h => h⟩
  have nn : Rv S (.sl .nn t xs) v ∨ (v = .slice none 0 0 ∧ xs = []) := by
    cases hv with
    | slN => exact .inr ⟨rfl, rfl⟩
    | slE _ _ a cap h => exact .inl (.slE _ _ _ _ (fun h => by cases h))
    | sl _ _ _ B off cap val h1 h2 h3 h4 h5 => exact .inl (.sl _ _ _ _ _ _ val h1 (fun h => by cases h) h3 h4 h5)
  rcases nn with h | ⟨rfl, rfl⟩
  · exact (go xs (.sl .nn t xs) hx (h1 xs)).2 w0 A S hs v r (h.closed le (.sl _ _ _))
  · exact (go [] .snil (by simp) h2).2 w0 A S hs _ r .snil
end Gm
