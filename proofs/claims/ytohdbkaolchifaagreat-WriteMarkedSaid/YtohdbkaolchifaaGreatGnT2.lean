/- Printed by a program (gen.py): the functions' answers, and that they are so. -/
import Derived.Test.YtohdbkaolchifaaGreatGnT1
set_option linter.unusedVariables false
set_option maxRecDepth 100000
namespace Gm
open Go Go.Proofs
namespace q44
abbrev A : List Ty := [(.int .i64), (.int .u64)]
abbrev C := (cTwo (.st 15) (.int .i64))
abbrev T : Type := Int → Int → ((Cluster × Int) → Prop) → Prop
noncomputable def tabV (f0 : q22.T) (f1 : q43.T) : Tab := [(47, mkEntry q22.A q22.C fun x => f0 x.1 x.2.1), (48, mkEntry q43.A q43.C fun x => f1 x.1 x.2.1)]
noncomputable def tab : Tab := tabV q22.F q43.F
structure R where
  t5 : Int
  m0 : Cluster
def cR (x : R) : St := { fr := lookL .top [(4, (.ptr 0 0)), (5, (.int .i64 x.t5))], hs := { hp := lookL .dead [(0, (.cells [(.int .i64 x.m0.n0.id), (.bool x.m0.n0.up), (.sl .any .str x.m0.n0.store.disk.sure), (.sl .any (.st 0) x.m0.n0.store.disk.cache), (.int .i64 x.m0.n0.store.disk.fuse), (.bool x.m0.n0.store.disk.dead), (.int .i64 x.m0.n0.store.sup.blocks), (.int .u64 x.m0.n0.store.sup.vector.current), (.int .u64 x.m0.n0.store.sup.vector.bitmap), (.int .u64 x.m0.n0.store.sup.vector.old0), (.int .u64 x.m0.n0.store.sup.vector.old1), (.bool x.m0.n0.store.sup.inc), (.bool x.m0.n0.store.sup.pri), (.bool x.m0.n0.store.sup.dis), (.int .u32 x.m0.n0.store.mask), (.bool x.m0.n0.primary), (.int .i64 x.m0.n0.state), (.int .u64 x.m0.n0.session), (.int .i64 x.m0.n0.peer.blocks), (.int .u64 x.m0.n0.peer.vector.current), (.int .u64 x.m0.n0.peer.vector.bitmap), (.int .u64 x.m0.n0.peer.vector.old0), (.int .u64 x.m0.n0.peer.vector.old1), (.bool x.m0.n0.peer.inc), (.bool x.m0.n0.peer.was), (.bool x.m0.n0.peer.dis), (.bool x.m0.n0.peer.pri), (.int .u32 x.m0.n0.peer.mask), (.bool x.m0.n0.peerPri), (.bool x.m0.n0.req.on), (.int .i64 x.m0.n0.req.id), (.int .i64 x.m0.n0.req.block), (.str x.m0.n0.req.data), (.bool x.m0.n0.asking), (.int .i64 x.m0.n0.askId), (.int .i64 x.m0.n0.wanted), (.bool x.m0.n0.minted), (.sl .any (.int .u64) x.m0.n0.draws), (.sl .any (.st 10) x.m0.n0.mints), (.int .i64 x.m0.n1.id), (.bool x.m0.n1.up), (.sl .any .str x.m0.n1.store.disk.sure), (.sl .any (.st 0) x.m0.n1.store.disk.cache), (.int .i64 x.m0.n1.store.disk.fuse), (.bool x.m0.n1.store.disk.dead), (.int .i64 x.m0.n1.store.sup.blocks), (.int .u64 x.m0.n1.store.sup.vector.current), (.int .u64 x.m0.n1.store.sup.vector.bitmap), (.int .u64 x.m0.n1.store.sup.vector.old0), (.int .u64 x.m0.n1.store.sup.vector.old1), (.bool x.m0.n1.store.sup.inc), (.bool x.m0.n1.store.sup.pri), (.bool x.m0.n1.store.sup.dis), (.int .u32 x.m0.n1.store.mask), (.bool x.m0.n1.primary), (.int .i64 x.m0.n1.state), (.int .u64 x.m0.n1.session), (.int .i64 x.m0.n1.peer.blocks), (.int .u64 x.m0.n1.peer.vector.current), (.int .u64 x.m0.n1.peer.vector.bitmap), (.int .u64 x.m0.n1.peer.vector.old0), (.int .u64 x.m0.n1.peer.vector.old1), (.bool x.m0.n1.peer.inc), (.bool x.m0.n1.peer.was), (.bool x.m0.n1.peer.dis), (.bool x.m0.n1.peer.pri), (.int .u32 x.m0.n1.peer.mask), (.bool x.m0.n1.peerPri), (.bool x.m0.n1.req.on), (.int .i64 x.m0.n1.req.id), (.int .i64 x.m0.n1.req.block), (.str x.m0.n1.req.data), (.bool x.m0.n1.asking), (.int .i64 x.m0.n1.askId), (.int .i64 x.m0.n1.wanted), (.bool x.m0.n1.minted), (.sl .any (.int .u64) x.m0.n1.draws), (.sl .any (.st 10) x.m0.n1.mints), (.bool x.m0.link.up), (.int .u64 x.m0.link.session), (.sl .any .str x.m0.link.to0), (.sl .any .str x.m0.link.to1), (.bool x.m0.w0), (.bool x.m0.w1)]))], hn := 3 } }
def kR : Keep := { ks := [(4, none), (5, none)], bs := [0], hn := 3, ts := [(0, 15)] }
structure L0 where
  blocks : Int
  g : Int
  i : Int
  m0 : Cluster
  m1 : Cluster
def c0 (x : L0) : St := { fr := lookL .top [(0, (.int .i64 x.blocks)), (1, (.int .u64 x.g)), (4, (.ptr 0 0)), (6, (.ptr 1 0)), (7, (.int .i64 x.i))], hs := { hp := lookL .dead [(0, (.cells [(.int .i64 x.m0.n0.id), (.bool x.m0.n0.up), (.sl .any .str x.m0.n0.store.disk.sure), (.sl .any (.st 0) x.m0.n0.store.disk.cache), (.int .i64 x.m0.n0.store.disk.fuse), (.bool x.m0.n0.store.disk.dead), (.int .i64 x.m0.n0.store.sup.blocks), (.int .u64 x.m0.n0.store.sup.vector.current), (.int .u64 x.m0.n0.store.sup.vector.bitmap), (.int .u64 x.m0.n0.store.sup.vector.old0), (.int .u64 x.m0.n0.store.sup.vector.old1), (.bool x.m0.n0.store.sup.inc), (.bool x.m0.n0.store.sup.pri), (.bool x.m0.n0.store.sup.dis), (.int .u32 x.m0.n0.store.mask), (.bool x.m0.n0.primary), (.int .i64 x.m0.n0.state), (.int .u64 x.m0.n0.session), (.int .i64 x.m0.n0.peer.blocks), (.int .u64 x.m0.n0.peer.vector.current), (.int .u64 x.m0.n0.peer.vector.bitmap), (.int .u64 x.m0.n0.peer.vector.old0), (.int .u64 x.m0.n0.peer.vector.old1), (.bool x.m0.n0.peer.inc), (.bool x.m0.n0.peer.was), (.bool x.m0.n0.peer.dis), (.bool x.m0.n0.peer.pri), (.int .u32 x.m0.n0.peer.mask), (.bool x.m0.n0.peerPri), (.bool x.m0.n0.req.on), (.int .i64 x.m0.n0.req.id), (.int .i64 x.m0.n0.req.block), (.str x.m0.n0.req.data), (.bool x.m0.n0.asking), (.int .i64 x.m0.n0.askId), (.int .i64 x.m0.n0.wanted), (.bool x.m0.n0.minted), (.sl .any (.int .u64) x.m0.n0.draws), (.sl .any (.st 10) x.m0.n0.mints), (.int .i64 x.m0.n1.id), (.bool x.m0.n1.up), (.sl .any .str x.m0.n1.store.disk.sure), (.sl .any (.st 0) x.m0.n1.store.disk.cache), (.int .i64 x.m0.n1.store.disk.fuse), (.bool x.m0.n1.store.disk.dead), (.int .i64 x.m0.n1.store.sup.blocks), (.int .u64 x.m0.n1.store.sup.vector.current), (.int .u64 x.m0.n1.store.sup.vector.bitmap), (.int .u64 x.m0.n1.store.sup.vector.old0), (.int .u64 x.m0.n1.store.sup.vector.old1), (.bool x.m0.n1.store.sup.inc), (.bool x.m0.n1.store.sup.pri), (.bool x.m0.n1.store.sup.dis), (.int .u32 x.m0.n1.store.mask), (.bool x.m0.n1.primary), (.int .i64 x.m0.n1.state), (.int .u64 x.m0.n1.session), (.int .i64 x.m0.n1.peer.blocks), (.int .u64 x.m0.n1.peer.vector.current), (.int .u64 x.m0.n1.peer.vector.bitmap), (.int .u64 x.m0.n1.peer.vector.old0), (.int .u64 x.m0.n1.peer.vector.old1), (.bool x.m0.n1.peer.inc), (.bool x.m0.n1.peer.was), (.bool x.m0.n1.peer.dis), (.bool x.m0.n1.peer.pri), (.int .u32 x.m0.n1.peer.mask), (.bool x.m0.n1.peerPri), (.bool x.m0.n1.req.on), (.int .i64 x.m0.n1.req.id), (.int .i64 x.m0.n1.req.block), (.str x.m0.n1.req.data), (.bool x.m0.n1.asking), (.int .i64 x.m0.n1.askId), (.int .i64 x.m0.n1.wanted), (.bool x.m0.n1.minted), (.sl .any (.int .u64) x.m0.n1.draws), (.sl .any (.st 10) x.m0.n1.mints), (.bool x.m0.link.up), (.int .u64 x.m0.link.session), (.sl .any .str x.m0.link.to0), (.sl .any .str x.m0.link.to1), (.bool x.m0.w0), (.bool x.m0.w1)])), (1, (.cells [(.int .i64 x.m1.n0.id), (.bool x.m1.n0.up), (.sl .any .str x.m1.n0.store.disk.sure), (.sl .any (.st 0) x.m1.n0.store.disk.cache), (.int .i64 x.m1.n0.store.disk.fuse), (.bool x.m1.n0.store.disk.dead), (.int .i64 x.m1.n0.store.sup.blocks), (.int .u64 x.m1.n0.store.sup.vector.current), (.int .u64 x.m1.n0.store.sup.vector.bitmap), (.int .u64 x.m1.n0.store.sup.vector.old0), (.int .u64 x.m1.n0.store.sup.vector.old1), (.bool x.m1.n0.store.sup.inc), (.bool x.m1.n0.store.sup.pri), (.bool x.m1.n0.store.sup.dis), (.int .u32 x.m1.n0.store.mask), (.bool x.m1.n0.primary), (.int .i64 x.m1.n0.state), (.int .u64 x.m1.n0.session), (.int .i64 x.m1.n0.peer.blocks), (.int .u64 x.m1.n0.peer.vector.current), (.int .u64 x.m1.n0.peer.vector.bitmap), (.int .u64 x.m1.n0.peer.vector.old0), (.int .u64 x.m1.n0.peer.vector.old1), (.bool x.m1.n0.peer.inc), (.bool x.m1.n0.peer.was), (.bool x.m1.n0.peer.dis), (.bool x.m1.n0.peer.pri), (.int .u32 x.m1.n0.peer.mask), (.bool x.m1.n0.peerPri), (.bool x.m1.n0.req.on), (.int .i64 x.m1.n0.req.id), (.int .i64 x.m1.n0.req.block), (.str x.m1.n0.req.data), (.bool x.m1.n0.asking), (.int .i64 x.m1.n0.askId), (.int .i64 x.m1.n0.wanted), (.bool x.m1.n0.minted), (.sl .any (.int .u64) x.m1.n0.draws), (.sl .any (.st 10) x.m1.n0.mints), (.int .i64 x.m1.n1.id), (.bool x.m1.n1.up), (.sl .any .str x.m1.n1.store.disk.sure), (.sl .any (.st 0) x.m1.n1.store.disk.cache), (.int .i64 x.m1.n1.store.disk.fuse), (.bool x.m1.n1.store.disk.dead), (.int .i64 x.m1.n1.store.sup.blocks), (.int .u64 x.m1.n1.store.sup.vector.current), (.int .u64 x.m1.n1.store.sup.vector.bitmap), (.int .u64 x.m1.n1.store.sup.vector.old0), (.int .u64 x.m1.n1.store.sup.vector.old1), (.bool x.m1.n1.store.sup.inc), (.bool x.m1.n1.store.sup.pri), (.bool x.m1.n1.store.sup.dis), (.int .u32 x.m1.n1.store.mask), (.bool x.m1.n1.primary), (.int .i64 x.m1.n1.state), (.int .u64 x.m1.n1.session), (.int .i64 x.m1.n1.peer.blocks), (.int .u64 x.m1.n1.peer.vector.current), (.int .u64 x.m1.n1.peer.vector.bitmap), (.int .u64 x.m1.n1.peer.vector.old0), (.int .u64 x.m1.n1.peer.vector.old1), (.bool x.m1.n1.peer.inc), (.bool x.m1.n1.peer.was), (.bool x.m1.n1.peer.dis), (.bool x.m1.n1.peer.pri), (.int .u32 x.m1.n1.peer.mask), (.bool x.m1.n1.peerPri), (.bool x.m1.n1.req.on), (.int .i64 x.m1.n1.req.id), (.int .i64 x.m1.n1.req.block), (.str x.m1.n1.req.data), (.bool x.m1.n1.asking), (.int .i64 x.m1.n1.askId), (.int .i64 x.m1.n1.wanted), (.bool x.m1.n1.minted), (.sl .any (.int .u64) x.m1.n1.draws), (.sl .any (.st 10) x.m1.n1.mints), (.bool x.m1.link.up), (.int .u64 x.m1.link.session), (.sl .any .str x.m1.link.to0), (.sl .any .str x.m1.link.to1), (.bool x.m1.w0), (.bool x.m1.w1)]))], hn := 2 } }
def kp0 : Keep := { ks := [(0, none), (1, none), (4, none), (6, none), (7, none)], bs := [0, 1], hn := 2, ts := [(0, 15), (1, 15)] }
def p0 (st : St) (K : L0 → Prop) : Prop := gInt .i64 (st.fr 0) fun a1 => gInt .u64 (st.fr 1) fun a2 => gPtr 0 0 (st.fr 4) <| gPtr 1 0 (st.fr 6) <| gInt .i64 (st.fr 7) fun a3 => gBlkS 15 (st.hs.hp 0) fun a4 => gBlkS 15 (st.hs.hp 1) fun a5 => K ⟨a1, a2, a3, a4, a5⟩
set_option maxHeartbeats 4000000 in
theorem p0_ok (st : St) (K : L0 → Prop) (h : p0 st K) : ∃ x, keepSt kp0 st = c0 x ∧ K x := by
  obtain ⟨a1, h0, h⟩ := gInt_elim h
  obtain ⟨a2, h1, h⟩ := gInt_elim h
  obtain ⟨h2, h⟩ := gPtr_elim h
  obtain ⟨h3, h⟩ := gPtr_elim h
  obtain ⟨a3, h4, h⟩ := gInt_elim h
  obtain ⟨z5, a4, h5, y5, h⟩ := gBlkS_elim h
  have q5 : ∀ ok, keptB kp0 ok 0 (.cells z5) = .cells (encS 15 a4) := fun _ => y5
  simp only [kp0] at q5
  obtain ⟨z6, a5, h6, y6, h⟩ := gBlkS_elim h
  have q6 : ∀ ok, keptB kp0 ok 1 (.cells z6) = .cells (encS 15 a5) := fun _ => y6
  simp only [kp0] at q6
  refine ⟨_, ?_, h⟩
  simp only [keepSt, kp0, List.map, h0, h1, h2, h3, h4, h5, h6, q5, q6]
  rfl
def b0V (f0 : q22.T) (f1 : q43.T) (rec kx : L0 → Prop) (kr : R → Prop) (x : L0) : Prop :=
  (bif (decide (x.i < 2)) then (f0 x.blocks x.g fun r1 => (bif (r1.2 != 0) then (kr ⟨r1.2, (⟨(⟨0, false, (⟨(⟨([] : List Str), ([] : List Write), 0, false⟩ : Disk), (⟨0, (⟨0, 0, 0, 0⟩ : Vec), false, false, false⟩ : Super), 0⟩ : Store), false, 0, 0, (⟨0, (⟨0, 0, 0, 0⟩ : Vec), false, false, false, false, 0⟩ : Hello), false, (⟨false, 0, 0, ([] : Str)⟩ : Req), false, 0, 0, false, ([] : List Int), ([] : List Mint)⟩ : Node), (⟨0, false, (⟨(⟨([] : List Str), ([] : List Write), 0, false⟩ : Disk), (⟨0, (⟨0, 0, 0, 0⟩ : Vec), false, false, false⟩ : Super), 0⟩ : Store), false, 0, 0, (⟨0, (⟨0, 0, 0, 0⟩ : Vec), false, false, false, false, 0⟩ : Hello), false, (⟨false, 0, 0, ([] : Str)⟩ : Req), false, 0, 0, false, ([] : List Int), ([] : List Mint)⟩ : Node), (⟨false, 0, ([] : List Str), ([] : List Str)⟩ : Link), false, false⟩ : Cluster)⟩) else (f1 (⟨x.i, false, (⟨r1.1, (⟨0, (⟨0, 0, 0, 0⟩ : Vec), false, false, false⟩ : Super), 0⟩ : Store), false, 0, 0, (⟨0, (⟨0, 0, 0, 0⟩ : Vec), false, false, false, false, 0⟩ : Hello), false, (⟨false, 0, 0, ([] : Str)⟩ : Req), false, 0, 0, false, ([] : List Int), ([] : List Mint)⟩ : Node) ([] : List Bool) fun r2 => (bif (x.i == 0) then (rec ⟨x.blocks, x.g, (IntKind.i64.wrap (x.i + 1)), x.m0, (⟨r2.1, x.m1.n1, x.m1.link, x.m1.w0, x.m1.w1⟩ : Cluster)⟩) else (bif (x.i == 1) then (rec ⟨x.blocks, x.g, (IntKind.i64.wrap (x.i + 1)), x.m0, (⟨x.m1.n0, r2.1, x.m1.link, x.m1.w0, x.m1.w1⟩ : Cluster)⟩) else False))))) else (kx ⟨x.blocks, x.g, x.i, x.m0, x.m1⟩))
def ltV (f0 : q22.T) (f1 : q43.T) : Nat → Option LSpec
  | 0 => some (mkLoop 0 kp0 kR p0 c0 cR (b0V f0 f1))
  | _ => none
def lt : Nat → Option LSpec := ltV q22.F q43.F
def FV (f0 : q22.T) (f1 : q43.T) (blocks : Int) (g : Int) (K : (Cluster × Int) → Prop) : Prop :=
  (∃ n, loopB (b0V f0 f1) n (fun x3 => (K (x3.m1, 0))) (fun r4 => (K (r4.m0, r4.t5))) ⟨blocks, g, 0, (⟨(⟨0, false, (⟨(⟨([] : List Str), ([] : List Write), 0, false⟩ : Disk), (⟨0, (⟨0, 0, 0, 0⟩ : Vec), false, false, false⟩ : Super), 0⟩ : Store), false, 0, 0, (⟨0, (⟨0, 0, 0, 0⟩ : Vec), false, false, false, false, 0⟩ : Hello), false, (⟨false, 0, 0, ([] : Str)⟩ : Req), false, 0, 0, false, ([] : List Int), ([] : List Mint)⟩ : Node), (⟨0, false, (⟨(⟨([] : List Str), ([] : List Write), 0, false⟩ : Disk), (⟨0, (⟨0, 0, 0, 0⟩ : Vec), false, false, false⟩ : Super), 0⟩ : Store), false, 0, 0, (⟨0, (⟨0, 0, 0, 0⟩ : Vec), false, false, false, false, 0⟩ : Hello), false, (⟨false, 0, 0, ([] : Str)⟩ : Req), false, 0, 0, false, ([] : List Int), ([] : List Mint)⟩ : Node), (⟨false, 0, ([] : List Str), ([] : List Str)⟩ : Link), false, false⟩ : Cluster), (⟨(⟨0, false, (⟨(⟨([] : List Str), ([] : List Write), 0, false⟩ : Disk), (⟨0, (⟨0, 0, 0, 0⟩ : Vec), false, false, false⟩ : Super), 0⟩ : Store), false, 0, 0, (⟨0, (⟨0, 0, 0, 0⟩ : Vec), false, false, false, false, 0⟩ : Hello), false, (⟨false, 0, 0, ([] : Str)⟩ : Req), false, 0, 0, false, ([] : List Int), ([] : List Mint)⟩ : Node), (⟨0, false, (⟨(⟨([] : List Str), ([] : List Write), 0, false⟩ : Disk), (⟨0, (⟨0, 0, 0, 0⟩ : Vec), false, false, false⟩ : Super), 0⟩ : Store), false, 0, 0, (⟨0, (⟨0, 0, 0, 0⟩ : Vec), false, false, false, false, 0⟩ : Hello), false, (⟨false, 0, 0, ([] : Str)⟩ : Req), false, 0, 0, false, ([] : List Int), ([] : List Mint)⟩ : Node), (⟨false, 0, ([] : List Str), ([] : List Str)⟩ : Link), false, false⟩ : Cluster)⟩)
def F (blocks : Int) (g : Int) (K : (Cluster × Int) → Prop) : Prop := FV q22.F q43.F blocks g K
noncomputable def en : Entry := mkEntry A C fun x => F x.1 x.2.1
theorem eqv (f0 : q22.T) (f1 : q43.T) (blocks : Int) (g : Int) (K : (Cluster × Int) → Prop) : apure E (tabV f0 f1) (ltV f0 f1) 4 32 [enc (.int .i64) blocks, enc (.int .u64) g] (ansK C K) = FV f0 f1 blocks g K := by kernel_rfl
theorem l0v (f0 : q22.T) (f1 : q43.T) (R : St → Prop) (Kx : Nat → St → Prop) (Kr : St → Prop) (x : L0) : acode E (tabV f0 f1) (afun E (tabV f0 f1) 4) 36 (ltV f0 f1) ((loopsIn E.P 32).getD 0 (0, .skip)).2 0 (fun s => R (keepSt kp0 s)) (fun j s => Kx j (keepSt kp0 s)) (fun s => Kr (keepSt kR s)) (c0 x) = b0V f0 f1 (fun x => R (c0 x)) (fun x => Kx 0 (c0 x)) (fun r => Kr (cR r)) x := by kernel_rfl
theorem l0_ok : LSound E tab (afun E tab 4) 36 lt 0 ((loopsIn E.P 32).getD 0 (0, .skip)).2 (mkLoop 0 kp0 kR p0 c0 cR (b0V q22.F q43.F)) := mkLoop_sound (by decide) (by decide) p0_ok (fun R Kx Kr x => l0v q22.F q43.F R Kx Kr x)
theorem loops : LoopsOk E tab lt 4 32 := loops_of (nt := 36) (ids := [0]) (by kernel_rfl) (by kernel_rfl) (by
  intro k i hk l hl
  match k, hk with
  | 0, hk => cases hk; cases hl; exact l0_ok
  | _ + 1, hk => exact absurd hk (by simp))
theorem det (blocks : Int) (g : Int) : Det (F blocks g) := by
  unfold F FV
  repeat' with_reducible first | exact det_ret _ | exact det_false | refine det_cond _ ?_ ?_ | refine det_oget _ (fun _ => ?_) | refine det_bind (q22.det _ _) (fun _ => ?_) | refine det_bind (q43.det _ _) (fun _ => ?_) | refine det_loop (fun _ => ?_) (fun _ => ?_) (fun _ => ?_) _ | unfold b0V
theorem edet (a : List AV) : Det (en a) := mkEntry_det (fun x : Dens A => det x.1 x.2.1) a
theorem ground : Ground E tab := ⟨num, mixed, (tab_cons q22.sound (tab_cons q43.sound (tab_nil _))), clone, (dtab_cons q22.edet (dtab_cons q43.edet dtab_nil)), stab⟩
theorem sound : EntrySound E 32 en := mkSound ground loops (by kernel_rfl) (fun (x : Dens A) K => eqv q22.F q43.F x.1 x.2.1 K)
end q44
namespace q45
abbrev A : List Ty := [(.st 13), (.int .i64), (.int .i64), .str]
abbrev C := (cTy (.st 11))
abbrev T : Type := Node → Int → Int → Str → (Outp → Prop) → Prop
noncomputable def tab : Tab := []
def F (n_0 : Node) (id : Int) (e : Int) (data : Str) (K : Outp → Prop) : Prop :=
  (K (⟨2, n_0.id, id, e, data⟩ : Outp))
noncomputable def en : Entry := mkEntry A C fun x => F x.1 x.2.1 x.2.2.1 x.2.2.2.1
theorem eqv (n_0 : Node) (id : Int) (e : Int) (data : Str) (K : Outp → Prop) : apure E tab (fun _ => none) 4 88 [enc (.st 13) n_0, enc (.int .i64) id, enc (.int .i64) e, enc .str data] (ansK C K) = F n_0 id e data K := by kernel_rfl
theorem loops : LoopsOk E tab (fun _ => none) 4 88 := loops_none _ _ _ _
theorem det (n_0 : Node) (id : Int) (e : Int) (data : Str) : Det (F n_0 id e data) := by
  unfold F
  repeat' with_reducible first | exact det_ret _ | exact det_false | refine det_cond _ ?_ ?_ | refine det_oget _ (fun _ => ?_)
theorem edet (a : List AV) : Det (en a) := mkEntry_det (fun x : Dens A => det x.1 x.2.1 x.2.2.1 x.2.2.2.1) a
theorem ground : Ground E tab := ⟨num, mixed, (tab_nil _), clone, dtab_nil, stab⟩
theorem sound : EntrySound E 88 en := mkSound ground loops (by kernel_rfl) (fun (x : Dens A) K => eqv  x.1 x.2.1 x.2.2.1 x.2.2.2.1 K)
end q45
namespace q46
abbrev A : List Ty := [(.st 13), (.int .i64), (.int .i64)]
abbrev C := (cTwo (.st 13) (.slice (.st 11)))
abbrev T : Type := Node → Int → Int → ((Node × (List Outp)) → Prop) → Prop
noncomputable def tabV (f0 : q45.T) : Tab := [(88, mkEntry q45.A q45.C fun x => f0 x.1 x.2.1 x.2.2.1 x.2.2.2.1)]
noncomputable def tab : Tab := tabV q45.F
def FV (f0 : q45.T) (n_0 : Node) (id : Int) (e : Int) (K : (Node × (List Outp)) → Prop) : Prop :=
  (f0 n_0 id e ([] : Str) fun r1 => (K (n_0, ([r1] : List Outp))))
def F (n_0 : Node) (id : Int) (e : Int) (K : (Node × (List Outp)) → Prop) : Prop := FV q45.F n_0 id e K
noncomputable def en : Entry := mkEntry A C fun x => F x.1 x.2.1 x.2.2.1
theorem eqv (f0 : q45.T) (n_0 : Node) (id : Int) (e : Int) (K : (Node × (List Outp)) → Prop) : apure E (tabV f0) (fun _ => none) 4 109 [enc (.st 13) n_0, enc (.int .i64) id, enc (.int .i64) e] (ansK C K) = FV f0 n_0 id e K := by kernel_rfl
theorem loops : LoopsOk E tab (fun _ => none) 4 109 := loops_none _ _ _ _
theorem det (n_0 : Node) (id : Int) (e : Int) : Det (F n_0 id e) := by
  unfold F FV
  repeat' with_reducible first | exact det_ret _ | exact det_false | refine det_cond _ ?_ ?_ | refine det_oget _ (fun _ => ?_) | refine det_bind (q45.det _ _ _ _) (fun _ => ?_)
theorem edet (a : List AV) : Det (en a) := mkEntry_det (fun x : Dens A => det x.1 x.2.1 x.2.2.1) a
theorem ground : Ground E tab := ⟨num, mixed, (tab_cons q45.sound (tab_nil _)), clone, (dtab_cons q45.edet dtab_nil), stab⟩
theorem sound : EntrySound E 109 en := mkSound ground loops (by kernel_rfl) (fun (x : Dens A) K => eqv q45.F x.1 x.2.1 x.2.2.1 K)
end q46
namespace q47
abbrev A : List Ty := [(.st 13)]
abbrev C := (cTy .bool)
abbrev T : Type := Node → (Bool → Prop) → Prop
noncomputable def tab : Tab := []
def F (n_0 : Node) (K : Bool → Prop) : Prop :=
  (bif (n_0.state == 2) then (K true) else (K (n_0.state == 3)))
noncomputable def en : Entry := mkEntry A C fun x => F x.1
theorem eqv (n_0 : Node) (K : Bool → Prop) : apure E tab (fun _ => none) 4 110 [enc (.st 13) n_0] (ansK C K) = F n_0 K := by kernel_rfl
theorem loops : LoopsOk E tab (fun _ => none) 4 110 := loops_none _ _ _ _
theorem det (n_0 : Node) : Det (F n_0) := by
  unfold F
  repeat' with_reducible first | exact det_ret _ | exact det_false | refine det_cond _ ?_ ?_ | refine det_oget _ (fun _ => ?_)
theorem edet (a : List AV) : Det (en a) := mkEntry_det (fun x : Dens A => det x.1) a
theorem ground : Ground E tab := ⟨num, mixed, (tab_nil _), clone, dtab_nil, stab⟩
theorem sound : EntrySound E 110 en := mkSound ground loops (by kernel_rfl) (fun (x : Dens A) K => eqv  x.1 K)
end q47
namespace q48
abbrev A : List Ty := [(.st 4)]
abbrev C := (cTy .bool)
abbrev T : Type := Hello → (Bool → Prop) → Prop
noncomputable def tabV (f0 : q37.T) : Tab := [(46, mkEntry q37.A q37.C fun x => f0 x.1 x.2.1)]
noncomputable def tab : Tab := tabV q37.F
def FV (f0 : q37.T) (h : Hello) (K : Bool → Prop) : Prop :=
  (bif (decide (h.blocks ≥ 1)) then (bif (decide (h.blocks ≤ 32)) then (bif (h.vector.current != 0) then (f0 h.mask h.blocks fun r1 => (bif r1 then (bif h.pri then (bif (!h.was) then (bif h.pri then (K (!h.inc)) else (K true)) else (K false)) else (bif h.pri then (K (!h.inc)) else (K true))) else (K false))) else (K false)) else (K false)) else (K false))
def F (h : Hello) (K : Bool → Prop) : Prop := FV q37.F h K
noncomputable def en : Entry := mkEntry A C fun x => F x.1
theorem eqv (f0 : q37.T) (h : Hello) (K : Bool → Prop) : apure E (tabV f0) (fun _ => none) 4 175 [enc (.st 4) h] (ansK C K) = FV f0 h K := by kernel_rfl
theorem loops : LoopsOk E tab (fun _ => none) 4 175 := loops_none _ _ _ _
theorem det (h : Hello) : Det (F h) := by
  unfold F FV
  repeat' with_reducible first | exact det_ret _ | exact det_false | refine det_cond _ ?_ ?_ | refine det_oget _ (fun _ => ?_) | refine det_bind (q37.det _ _) (fun _ => ?_)
theorem edet (a : List AV) : Det (en a) := mkEntry_det (fun x : Dens A => det x.1) a
theorem ground : Ground E tab := ⟨num, mixed, (tab_cons q37.sound (tab_nil _)), clone, (dtab_cons q37.edet dtab_nil), stab⟩
theorem sound : EntrySound E 175 en := mkSound ground loops (by kernel_rfl) (fun (x : Dens A) K => eqv q37.F x.1 K)
end q48
namespace q49
abbrev A : List Ty := [(.int .i64)]
abbrev C := (cTy .bool)
abbrev T : Type := Int → (Bool → Prop) → Prop
noncomputable def tab : Tab := []
def F (kind : Int) (K : Bool → Prop) : Prop :=
  (bif (decide (kind ≥ 2)) then (K (decide (kind ≤ 7))) else (K false))
noncomputable def en : Entry := mkEntry A C fun x => F x.1
theorem eqv (kind : Int) (K : Bool → Prop) : apure E tab (fun _ => none) 4 157 [enc (.int .i64) kind] (ansK C K) = F kind K := by kernel_rfl
theorem loops : LoopsOk E tab (fun _ => none) 4 157 := loops_none _ _ _ _
theorem det (kind : Int) : Det (F kind) := by
  unfold F
  repeat' with_reducible first | exact det_ret _ | exact det_false | refine det_cond _ ?_ ?_ | refine det_oget _ (fun _ => ?_)
theorem edet (a : List AV) : Det (en a) := mkEntry_det (fun x : Dens A => det x.1) a
theorem ground : Ground E tab := ⟨num, mixed, (tab_nil _), clone, dtab_nil, stab⟩
theorem sound : EntrySound E 157 en := mkSound ground loops (by kernel_rfl) (fun (x : Dens A) K => eqv  x.1 K)
end q49
namespace q50
abbrev A : List Ty := [(.int .i64)]
abbrev C := (cTy .bool)
abbrev T : Type := Int → (Bool → Prop) → Prop
noncomputable def tab : Tab := []
def F (kind : Int) (K : Bool → Prop) : Prop :=
  (bif (kind == 2) then (K true) else (K (kind == 6)))
noncomputable def en : Entry := mkEntry A C fun x => F x.1
theorem eqv (kind : Int) (K : Bool → Prop) : apure E tab (fun _ => none) 4 176 [enc (.int .i64) kind] (ansK C K) = F kind K := by kernel_rfl
theorem loops : LoopsOk E tab (fun _ => none) 4 176 := loops_none _ _ _ _
theorem det (kind : Int) : Det (F kind) := by
  unfold F
  repeat' with_reducible first | exact det_ret _ | exact det_false | refine det_cond _ ?_ ?_ | refine det_oget _ (fun _ => ?_)
theorem edet (a : List AV) : Det (en a) := mkEntry_det (fun x : Dens A => det x.1) a
theorem ground : Ground E tab := ⟨num, mixed, (tab_nil _), clone, dtab_nil, stab⟩
theorem sound : EntrySound E 176 en := mkSound ground loops (by kernel_rfl) (fun (x : Dens A) K => eqv  x.1 K)
end q50
namespace q51
abbrev A : List Ty := [(.st 5)]
abbrev C := (cTy .bool)
abbrev T : Type := Packet → (Bool → Prop) → Prop
noncomputable def tabV (f0 : q48.T) (f1 : q49.T) (f2 : q50.T) : Tab := [(175, mkEntry q48.A q48.C fun x => f0 x.1), (157, mkEntry q49.A q49.C fun x => f1 x.1), (176, mkEntry q50.A q50.C fun x => f2 x.1)]
noncomputable def tab : Tab := tabV q48.F q49.F q50.F
def FV (f0 : q48.T) (f1 : q49.T) (f2 : q50.T) (p : Packet) (K : Bool → Prop) : Prop :=
  (bif (decide (p.kind < 1)) then (K false) else (bif (decide (p.kind > 13)) then (K false) else (bif (p.kind == 1) then (f0 p.hello fun r1 => (bif (!r1) then (K false) else (bif (p.kind != 1) then (bif (!((p.hello.blocks == 0) && (((p.hello.vector.current == 0) && ((p.hello.vector.bitmap == 0) && (((p.hello.vector.old0 == 0) && ((p.hello.vector.old1 == 0) && true)) && true))) && ((p.hello.inc == false) && ((p.hello.was == false) && ((p.hello.dis == false) && ((p.hello.pri == false) && ((p.hello.mask == 0) && true)))))))) then (K false) else (bif (decide (p.block < 0)) then (K false) else (bif (decide (p.block > 31)) then (K false) else (f1 p.kind fun r2 => (bif (!r2) then (bif (p.block != 0) then (K false) else (f2 p.kind fun r3 => (bif r3 then (K ((p.data.length : Int) == 8)) else (K (p.data == ([] : Str)))))) else (f2 p.kind fun r4 => (bif r4 then (K ((p.data.length : Int) == 8)) else (K (p.data == ([] : Str)))))))))) else (bif (decide (p.block < 0)) then (K false) else (bif (decide (p.block > 31)) then (K false) else (f1 p.kind fun r5 => (bif (!r5) then (bif (p.block != 0) then (K false) else (f2 p.kind fun r6 => (bif r6 then (K ((p.data.length : Int) == 8)) else (K (p.data == ([] : Str)))))) else (f2 p.kind fun r7 => (bif r7 then (K ((p.data.length : Int) == 8)) else (K (p.data == ([] : Str)))))))))))) else (bif (p.kind != 1) then (bif (!((p.hello.blocks == 0) && (((p.hello.vector.current == 0) && ((p.hello.vector.bitmap == 0) && (((p.hello.vector.old0 == 0) && ((p.hello.vector.old1 == 0) && true)) && true))) && ((p.hello.inc == false) && ((p.hello.was == false) && ((p.hello.dis == false) && ((p.hello.pri == false) && ((p.hello.mask == 0) && true)))))))) then (K false) else (bif (decide (p.block < 0)) then (K false) else (bif (decide (p.block > 31)) then (K false) else (f1 p.kind fun r8 => (bif (!r8) then (bif (p.block != 0) then (K false) else (f2 p.kind fun r9 => (bif r9 then (K ((p.data.length : Int) == 8)) else (K (p.data == ([] : Str)))))) else (f2 p.kind fun r10 => (bif r10 then (K ((p.data.length : Int) == 8)) else (K (p.data == ([] : Str)))))))))) else (bif (decide (p.block < 0)) then (K false) else (bif (decide (p.block > 31)) then (K false) else (f1 p.kind fun r11 => (bif (!r11) then (bif (p.block != 0) then (K false) else (f2 p.kind fun r12 => (bif r12 then (K ((p.data.length : Int) == 8)) else (K (p.data == ([] : Str)))))) else (f2 p.kind fun r13 => (bif r13 then (K ((p.data.length : Int) == 8)) else (K (p.data == ([] : Str)))))))))))))
def F (p : Packet) (K : Bool → Prop) : Prop := FV q48.F q49.F q50.F p K
noncomputable def en : Entry := mkEntry A C fun x => F x.1
theorem eqv (f0 : q48.T) (f1 : q49.T) (f2 : q50.T) (p : Packet) (K : Bool → Prop) : apure E (tabV f0 f1 f2) (fun _ => none) 4 158 [enc (.st 5) p] (ansK C K) = FV f0 f1 f2 p K := by kernel_rfl
theorem loops : LoopsOk E tab (fun _ => none) 4 158 := loops_none _ _ _ _
theorem det (p : Packet) : Det (F p) := by
  unfold F FV
  repeat' with_reducible first | exact det_ret _ | exact det_false | refine det_cond _ ?_ ?_ | refine det_oget _ (fun _ => ?_) | refine det_bind (q48.det _) (fun _ => ?_) | refine det_bind (q49.det _) (fun _ => ?_) | refine det_bind (q50.det _) (fun _ => ?_)
theorem edet (a : List AV) : Det (en a) := mkEntry_det (fun x : Dens A => det x.1) a
theorem ground : Ground E tab := ⟨num, mixed, (tab_cons q48.sound (tab_cons q49.sound (tab_cons q50.sound (tab_nil _)))), clone, (dtab_cons q48.edet (dtab_cons q49.edet (dtab_cons q50.edet dtab_nil))), stab⟩
theorem sound : EntrySound E 158 en := mkSound ground loops (by kernel_rfl) (fun (x : Dens A) K => eqv q48.F q49.F q50.F x.1 K)
end q51
namespace q52
abbrev A : List Ty := [(.st 4)]
abbrev C := (cTwo .str (.int .i64))
abbrev T : Type := Hello → ((Str × Int) → Prop) → Prop
noncomputable def tabV (f0 : q48.T) (f1 : q13.T) (f2 : q15.T) (f3 : q18.T) : Tab := [(175, mkEntry q48.A q48.C fun x => f0 x.1), (105, mkEntry q13.A q13.C fun x => f1 x.1), (106, mkEntry q15.A q15.C fun x => f2 x.1), (76, mkEntry q18.A q18.C fun x => f3 x.1)]
noncomputable def tab : Tab := tabV q48.F q13.F q15.F q18.F
def FV (f0 : q48.T) (f1 : q13.T) (f2 : q15.T) (f3 : q18.T) (h : Hello) (K : (Str × Int) → Prop) : Prop :=
  (f0 h fun r1 => (bif (!r1) then (K (([] : Str), 1)) else (f1 ([h.inc, h.was, h.dis, h.pri] : List Bool) fun r2 => (f2 h.vector.current fun r3 => (bif (fits ((bytesOfInts ([(IntKind.u8.wrap h.blocks), r2] : List Int)).length + r3.length)) then (f2 h.vector.bitmap fun r4 => (bif (fits (((bytesOfInts ([(IntKind.u8.wrap h.blocks), r2] : List Int)) ++ r3).length + r4.length)) then (f2 h.vector.old0 fun r5 => (bif (fits ((((bytesOfInts ([(IntKind.u8.wrap h.blocks), r2] : List Int)) ++ r3) ++ r4).length + r5.length)) then (f2 h.vector.old1 fun r6 => (bif (fits (((((bytesOfInts ([(IntKind.u8.wrap h.blocks), r2] : List Int)) ++ r3) ++ r4) ++ r5).length + r6.length)) then (f3 h.mask fun r7 => (bif (fits ((((((bytesOfInts ([(IntKind.u8.wrap h.blocks), r2] : List Int)) ++ r3) ++ r4) ++ r5) ++ r6).length + r7.length)) then (K (((((((bytesOfInts ([(IntKind.u8.wrap h.blocks), r2] : List Int)) ++ r3) ++ r4) ++ r5) ++ r6) ++ r7), 0)) else False)) else False)) else False)) else False)) else False)))))
def F (h : Hello) (K : (Str × Int) → Prop) : Prop := FV q48.F q13.F q15.F q18.F h K
noncomputable def en : Entry := mkEntry A C fun x => F x.1
theorem eqv (f0 : q48.T) (f1 : q13.T) (f2 : q15.T) (f3 : q18.T) (h : Hello) (K : (Str × Int) → Prop) : apure E (tabV f0 f1 f2 f3) (fun _ => none) 4 177 [enc (.st 4) h] (ansK C K) = FV f0 f1 f2 f3 h K := by kernel_rfl
theorem loops : LoopsOk E tab (fun _ => none) 4 177 := loops_none _ _ _ _
theorem det (h : Hello) : Det (F h) := by
  unfold F FV
  repeat' with_reducible first | exact det_ret _ | exact det_false | refine det_cond _ ?_ ?_ | refine det_oget _ (fun _ => ?_) | refine det_bind (q48.det _) (fun _ => ?_) | refine det_bind (q13.det _) (fun _ => ?_) | refine det_bind (q15.det _) (fun _ => ?_) | refine det_bind (q18.det _) (fun _ => ?_)
theorem edet (a : List AV) : Det (en a) := mkEntry_det (fun x : Dens A => det x.1) a
theorem ground : Ground E tab := ⟨num, mixed, (tab_cons q48.sound (tab_cons q13.sound (tab_cons q15.sound (tab_cons q18.sound (tab_nil _))))), clone, (dtab_cons q48.edet (dtab_cons q13.edet (dtab_cons q15.edet (dtab_cons q18.edet dtab_nil)))), stab⟩
theorem sound : EntrySound E 177 en := mkSound ground loops (by kernel_rfl) (fun (x : Dens A) K => eqv q48.F q13.F q15.F q18.F x.1 K)
end q52
namespace q53
abbrev A : List Ty := [(.st 5)]
abbrev C := (cTy .str)
abbrev T : Type := Packet → (Str → Prop) → Prop
noncomputable def tabV (f0 : q15.T) (f1 : q52.T) (f2 : q49.T) : Tab := [(106, mkEntry q15.A q15.C fun x => f0 x.1), (177, mkEntry q52.A q52.C fun x => f1 x.1), (157, mkEntry q49.A q49.C fun x => f2 x.1)]
noncomputable def tab : Tab := tabV q15.F q52.F q49.F
def FV (f0 : q15.T) (f1 : q52.T) (f2 : q49.T) (p : Packet) (K : Str → Prop) : Prop :=
  (f0 p.session fun r1 => (bif (fits ((bytesOfInts ([(IntKind.u8.wrap p.kind)] : List Int)).length + r1.length)) then (bif (p.kind == 1) then (f1 p.hello fun r2 => (bif (fits (((bytesOfInts ([(IntKind.u8.wrap p.kind)] : List Int)) ++ r1).length + r2.1.length)) then (f2 p.kind fun r3 => (bif r3 then (bif (fits ((((bytesOfInts ([(IntKind.u8.wrap p.kind)] : List Int)) ++ r1) ++ r2.1).length + (bytesOfInts ([(IntKind.u8.wrap p.block)] : List Int)).length)) then (bif (fits (((((bytesOfInts ([(IntKind.u8.wrap p.kind)] : List Int)) ++ r1) ++ r2.1) ++ (bytesOfInts ([(IntKind.u8.wrap p.block)] : List Int))).length + p.data.length)) then (K (((((bytesOfInts ([(IntKind.u8.wrap p.kind)] : List Int)) ++ r1) ++ r2.1) ++ (bytesOfInts ([(IntKind.u8.wrap p.block)] : List Int))) ++ p.data)) else False) else False) else (bif (fits ((((bytesOfInts ([(IntKind.u8.wrap p.kind)] : List Int)) ++ r1) ++ r2.1).length + p.data.length)) then (K ((((bytesOfInts ([(IntKind.u8.wrap p.kind)] : List Int)) ++ r1) ++ r2.1) ++ p.data)) else False))) else False)) else (f2 p.kind fun r4 => (bif r4 then (bif (fits (((bytesOfInts ([(IntKind.u8.wrap p.kind)] : List Int)) ++ r1).length + (bytesOfInts ([(IntKind.u8.wrap p.block)] : List Int)).length)) then (bif (fits ((((bytesOfInts ([(IntKind.u8.wrap p.kind)] : List Int)) ++ r1) ++ (bytesOfInts ([(IntKind.u8.wrap p.block)] : List Int))).length + p.data.length)) then (K ((((bytesOfInts ([(IntKind.u8.wrap p.kind)] : List Int)) ++ r1) ++ (bytesOfInts ([(IntKind.u8.wrap p.block)] : List Int))) ++ p.data)) else False) else False) else (bif (fits (((bytesOfInts ([(IntKind.u8.wrap p.kind)] : List Int)) ++ r1).length + p.data.length)) then (K (((bytesOfInts ([(IntKind.u8.wrap p.kind)] : List Int)) ++ r1) ++ p.data)) else False)))) else False))
def F (p : Packet) (K : Str → Prop) : Prop := FV q15.F q52.F q49.F p K
noncomputable def en : Entry := mkEntry A C fun x => F x.1
theorem eqv (f0 : q15.T) (f1 : q52.T) (f2 : q49.T) (p : Packet) (K : Str → Prop) : apure E (tabV f0 f1 f2) (fun _ => none) 4 159 [enc (.st 5) p] (ansK C K) = FV f0 f1 f2 p K := by kernel_rfl
theorem loops : LoopsOk E tab (fun _ => none) 4 159 := loops_none _ _ _ _
theorem det (p : Packet) : Det (F p) := by
  unfold F FV
  repeat' with_reducible first | exact det_ret _ | exact det_false | refine det_cond _ ?_ ?_ | refine det_oget _ (fun _ => ?_) | refine det_bind (q15.det _) (fun _ => ?_) | refine det_bind (q52.det _) (fun _ => ?_) | refine det_bind (q49.det _) (fun _ => ?_)
theorem edet (a : List AV) : Det (en a) := mkEntry_det (fun x : Dens A => det x.1) a
theorem ground : Ground E tab := ⟨num, mixed, (tab_cons q15.sound (tab_cons q52.sound (tab_cons q49.sound (tab_nil _)))), clone, (dtab_cons q15.edet (dtab_cons q52.edet (dtab_cons q49.edet dtab_nil))), stab⟩
theorem sound : EntrySound E 159 en := mkSound ground loops (by kernel_rfl) (fun (x : Dens A) K => eqv q15.F q52.F q49.F x.1 K)
end q53
namespace q54
abbrev A : List Ty := [(.st 5)]
abbrev C := (cTwo .str (.int .i64))
abbrev T : Type := Packet → ((Str × Int) → Prop) → Prop
noncomputable def tabV (f0 : q51.T) (f1 : q53.T) (f2 : q19.T) : Tab := [(158, mkEntry q51.A q51.C fun x => f0 x.1), (159, mkEntry q53.A q53.C fun x => f1 x.1), (73, mkEntry q19.A q19.C fun x => f2 x.1)]
noncomputable def tab : Tab := tabV q51.F q53.F q19.F
def FV (f0 : q51.T) (f1 : q53.T) (f2 : q19.T) (p : Packet) (K : (Str × Int) → Prop) : Prop :=
  (f0 p fun r1 => (bif (!r1) then (K (([] : Str), 1)) else (f1 p fun r2 => (f2 r2 fun r3 => (K (r3, 0))))))
def F (p : Packet) (K : (Str × Int) → Prop) : Prop := FV q51.F q53.F q19.F p K
noncomputable def en : Entry := mkEntry A C fun x => F x.1
theorem eqv (f0 : q51.T) (f1 : q53.T) (f2 : q19.T) (p : Packet) (K : (Str × Int) → Prop) : apure E (tabV f0 f1 f2) (fun _ => none) 4 143 [enc (.st 5) p] (ansK C K) = FV f0 f1 f2 p K := by kernel_rfl
theorem loops : LoopsOk E tab (fun _ => none) 4 143 := loops_none _ _ _ _
theorem det (p : Packet) : Det (F p) := by
  unfold F FV
  repeat' with_reducible first | exact det_ret _ | exact det_false | refine det_cond _ ?_ ?_ | refine det_oget _ (fun _ => ?_) | refine det_bind (q51.det _) (fun _ => ?_) | refine det_bind (q53.det _) (fun _ => ?_) | refine det_bind (q19.det _) (fun _ => ?_)
theorem edet (a : List AV) : Det (en a) := mkEntry_det (fun x : Dens A => det x.1) a
theorem ground : Ground E tab := ⟨num, mixed, (tab_cons q51.sound (tab_cons q53.sound (tab_cons q19.sound (tab_nil _)))), clone, (dtab_cons q51.edet (dtab_cons q53.edet (dtab_cons q19.edet dtab_nil))), stab⟩
theorem sound : EntrySound E 143 en := mkSound ground loops (by kernel_rfl) (fun (x : Dens A) K => eqv q51.F q53.F q19.F x.1 K)
end q54
namespace q55
abbrev A : List Ty := [(.st 13), (.st 5)]
abbrev C := cOut
abbrev T : Type := Node → Packet → ((Int × Str) → Prop) → Prop
noncomputable def tabV (f0 : q54.T) : Tab := [(143, mkEntry q54.A q54.C fun x => f0 x.1)]
noncomputable def tab : Tab := tabV q54.F
def FV (f0 : q54.T) (n_0 : Node) (p : Packet) (K : (Int × Str) → Prop) : Prop :=
  (f0 (⟨p.kind, n_0.session, p.hello, p.block, p.data⟩ : Packet) fun r1 => (K (n_0.id, r1.1)))
def F (n_0 : Node) (p : Packet) (K : (Int × Str) → Prop) : Prop := FV q54.F n_0 p K
noncomputable def en : Entry := mkEntry A C fun x => F x.1 x.2.1
theorem eqv (f0 : q54.T) (n_0 : Node) (p : Packet) (K : (Int × Str) → Prop) : apure E (tabV f0) (fun _ => none) 4 111 [enc (.st 13) n_0, enc (.st 5) p] (ansK C K) = FV f0 n_0 p K := by kernel_rfl
theorem loops : LoopsOk E tab (fun _ => none) 4 111 := loops_none _ _ _ _
theorem det (n_0 : Node) (p : Packet) : Det (F n_0 p) := by
  unfold F FV
  repeat' with_reducible first | exact det_ret _ | exact det_false | refine det_cond _ ?_ ?_ | refine det_oget _ (fun _ => ?_) | refine det_bind (q54.det _) (fun _ => ?_)
theorem edet (a : List AV) : Det (en a) := mkEntry_det (fun x : Dens A => det x.1 x.2.1) a
theorem ground : Ground E tab := ⟨num, mixed, (tab_cons q54.sound (tab_nil _)), clone, (dtab_cons q54.edet dtab_nil), stab⟩
theorem sound : EntrySound E 111 en := mkSound ground loops (by kernel_rfl) (fun (x : Dens A) K => eqv q54.F x.1 x.2.1 K)
end q55
namespace q56
abbrev A : List Ty := [(.st 1)]
abbrev C := (cTy (.st 1))
abbrev T : Type := Disk → (Disk → Prop) → Prop
noncomputable def tab : Tab := []
def F (d : Disk) (K : Disk → Prop) : Prop :=
  (bif (d.fuse == 1) then (bif (decide (d.fuse > 0)) then (K (⟨d.sure, d.cache, (IntKind.i64.wrap (d.fuse - 1)), true⟩ : Disk)) else (K (⟨d.sure, d.cache, d.fuse, true⟩ : Disk))) else (bif (decide (d.fuse > 0)) then (K (⟨d.sure, d.cache, (IntKind.i64.wrap (d.fuse - 1)), d.dead⟩ : Disk)) else (K d)))
noncomputable def en : Entry := mkEntry A C fun x => F x.1
theorem eqv (d : Disk) (K : Disk → Prop) : apure E tab (fun _ => none) 4 189 [enc (.st 1) d] (ansK C K) = F d K := by kernel_rfl
theorem loops : LoopsOk E tab (fun _ => none) 4 189 := loops_none _ _ _ _
theorem det (d : Disk) : Det (F d) := by
  unfold F
  repeat' with_reducible first | exact det_ret _ | exact det_false | refine det_cond _ ?_ ?_ | refine det_oget _ (fun _ => ?_)
theorem edet (a : List AV) : Det (en a) := mkEntry_det (fun x : Dens A => det x.1) a
theorem ground : Ground E tab := ⟨num, mixed, (tab_nil _), clone, dtab_nil, stab⟩
theorem sound : EntrySound E 189 en := mkSound ground loops (by kernel_rfl) (fun (x : Dens A) K => eqv  x.1 K)
end q56
namespace q57
abbrev A : List Ty := [(.st 1), (.int .i64), .str]
abbrev C := (cTwo (.st 1) (.int .i64))
abbrev T : Type := Disk → Int → Str → ((Disk × Int) → Prop) → Prop
noncomputable def tabV (f0 : q56.T) : Tab := [(189, mkEntry q56.A q56.C fun x => f0 x.1)]
noncomputable def tab : Tab := tabV q56.F
def FV (f0 : q56.T) (d : Disk) (i : Int) (data : Str) (K : (Disk × Int) → Prop) : Prop :=
  (bif d.dead then (K (d, 6)) else (bif (decide (i < 0)) then (K (d, 4)) else (bif (decide (i ≥ (d.sure.length : Int))) then (K (d, 4)) else (bif (decide ((data.length : Int) > 64)) then (K (d, 5)) else (f0 d fun r1 => (bif r1.dead then (K (r1, 6)) else (bif (decide (r1.cache.length * 24 ≤ room)) then (bif (decide ((r1.cache.length + ([(⟨i, data⟩ : Write)] : List Write).length) * 24 ≤ room)) then (K ((⟨r1.sure, (r1.cache ++ ([(⟨i, data⟩ : Write)] : List Write)), r1.fuse, r1.dead⟩ : Disk), 0)) else False) else False)))))))
def F (d : Disk) (i : Int) (data : Str) (K : (Disk × Int) → Prop) : Prop := FV q56.F d i data K
noncomputable def en : Entry := mkEntry A C fun x => F x.1 x.2.1 x.2.2.1
theorem eqv (f0 : q56.T) (d : Disk) (i : Int) (data : Str) (K : (Disk × Int) → Prop) : apure E (tabV f0) (fun _ => none) 4 178 [enc (.st 1) d, enc (.int .i64) i, enc .str data] (ansK C K) = FV f0 d i data K := by kernel_rfl
theorem loops : LoopsOk E tab (fun _ => none) 4 178 := loops_none _ _ _ _
theorem det (d : Disk) (i : Int) (data : Str) : Det (F d i data) := by
  unfold F FV
  repeat' with_reducible first | exact det_ret _ | exact det_false | refine det_cond _ ?_ ?_ | refine det_oget _ (fun _ => ?_) | refine det_bind (q56.det _) (fun _ => ?_)
theorem edet (a : List AV) : Det (en a) := mkEntry_det (fun x : Dens A => det x.1 x.2.1 x.2.2.1) a
theorem ground : Ground E tab := ⟨num, mixed, (tab_cons q56.sound (tab_nil _)), clone, (dtab_cons q56.edet dtab_nil), stab⟩
theorem sound : EntrySound E 178 en := mkSound ground loops (by kernel_rfl) (fun (x : Dens A) K => eqv q56.F x.1 x.2.1 x.2.2.1 K)
end q57
namespace q58
abbrev A : List Ty := [(.st 1)]
abbrev C := (cTwo (.st 1) (.int .i64))
abbrev T : Type := Disk → ((Disk × Int) → Prop) → Prop
noncomputable def tabV (f0 : q56.T) (f1 : q24.T) : Tab := [(189, mkEntry q56.A q56.C fun x => f0 x.1), (60, mkEntry q24.A q24.C fun x => f1 x.1 x.2.1)]
noncomputable def tab : Tab := tabV q56.F q24.F
structure R where
def cR (_ : R) : St := { fr := fun _ => .top, hs := hs0 }
def kR : Keep := { ks := [], bs := [], hn := 0 }
structure L0 where
  sure : (List Str)
  i : Int
  m0 : Disk
  m1 : Disk
def c0 (x : L0) : St := { fr := lookL .top [(1, (.ptr 0 0)), (2, (.ptr 1 0)), (4, (.slr 2)), (5, (.int .i64 x.i))], hs := { hp := lookL .dead [(2, (.row false .str x.sure)), (0, (.cells [(.sl .any .str x.m0.sure), (.sl .any (.st 0) x.m0.cache), (.int .i64 x.m0.fuse), (.bool x.m0.dead)])), (1, (.cells [(.sl .any .str x.m1.sure), (.sl .any (.st 0) x.m1.cache), (.int .i64 x.m1.fuse), (.bool x.m1.dead)]))], hn := 3 } }
def kp0 : Keep := { ks := [(1, none), (2, none), (4, some 2), (5, none)], bs := [0, 1], hn := 3, ts := [(0, 1), (1, 1)] }
def p0 (st : St) (K : L0 → Prop) : Prop := gHomes kp0 st <| gPtr 0 0 (st.fr 1) <| gPtr 1 0 (st.fr 2) <| gSlr (st.fr 4) fun c1 => gRow false .str (st.hs.hp c1) fun a2 => gInt .i64 (st.fr 5) fun a3 => gBlkS 1 (st.hs.hp 0) fun a4 => gBlkS 1 (st.hs.hp 1) fun a5 => K ⟨a2, a3, a4, a5⟩
set_option maxHeartbeats 4000000 in
theorem p0_ok (st : St) (K : L0 → Prop) (h : p0 st K) : ∃ x, keepSt kp0 st = c0 x ∧ K x := by
  obtain ⟨h0, h⟩ := gHomes_elim h
  obtain ⟨h1, h⟩ := gPtr_elim h
  obtain ⟨h2, h⟩ := gPtr_elim h
  obtain ⟨c1, h3, h⟩ := gSlr_elim h
  obtain ⟨a2, h4, h⟩ := gRow_elim h
  obtain ⟨a3, h5, h⟩ := gInt_elim h
  obtain ⟨z6, a4, h6, y6, h⟩ := gBlkS_elim h
  have q6 : ∀ ok, keptB kp0 ok 0 (.cells z6) = .cells (encS 1 a4) := fun _ => y6
  simp only [kp0] at q6
  obtain ⟨z7, a5, h7, y7, h⟩ := gBlkS_elim h
  have q7 : ∀ ok, keptB kp0 ok 1 (.cells z7) = .cells (encS 1 a5) := fun _ => y7
  simp only [kp0] at q7
  refine ⟨_, ?_, h⟩
  simp only [keepSt, h0]
  simp only [kp0, List.map, List.filterMap, homeOf, h1, h2, h3, h4, h5, h6, h7, q6, q7, hmOf, List.append_nil, cond_true]
  rfl
def b0V (f0 : q56.T) (f1 : q24.T) (rec kx : L0 → Prop) (kr : R → Prop) (x : L0) : Prop :=
  (bif (decide (x.i < (x.m0.sure.length : Int))) then (f1 x.m0 x.i fun r2 => (bif (decide ((x.sure.length + ([r2] : List Str).length) * 16 ≤ room)) then (rec ⟨(x.sure ++ ([r2] : List Str)), (IntKind.i64.wrap (x.i + 1)), x.m0, x.m1⟩) else False)) else (kx ⟨x.sure, x.i, x.m0, x.m1⟩))
def ltV (f0 : q56.T) (f1 : q24.T) : Nat → Option LSpec
  | 0 => some (mkLoop 0 kp0 kR p0 c0 cR (b0V f0 f1))
  | _ => none
def lt : Nat → Option LSpec := ltV q56.F q24.F
def FV (f0 : q56.T) (f1 : q24.T) (d : Disk) (K : (Disk × Int) → Prop) : Prop :=
  (bif d.dead then (K (d, 6)) else (f0 d fun r1 => (bif r1.dead then (K (r1, 6)) else (∃ n, loopB (b0V f0 f1) n (fun x3 => (K ((⟨x3.sure, ([] : List Write), x3.m0.fuse, x3.m0.dead⟩ : Disk), 0))) (fun _ => False) ⟨([] : List Str), 0, r1, (⟨([] : List Str), ([] : List Write), 0, false⟩ : Disk)⟩))))
def F (d : Disk) (K : (Disk × Int) → Prop) : Prop := FV q56.F q24.F d K
noncomputable def en : Entry := mkEntry A C fun x => F x.1
theorem eqv (f0 : q56.T) (f1 : q24.T) (d : Disk) (K : (Disk × Int) → Prop) : apure E (tabV f0 f1) (ltV f0 f1) 4 179 [enc (.st 1) d] (ansK C K) = FV f0 f1 d K := by kernel_rfl
theorem l0v (f0 : q56.T) (f1 : q24.T) (R : St → Prop) (Kx : Nat → St → Prop) (Kr : St → Prop) (x : L0) : acode E (tabV f0 f1) (afun E (tabV f0 f1) 4) 31 (ltV f0 f1) ((loopsIn E.P 179).getD 0 (0, .skip)).2 0 (fun s => R (keepSt kp0 s)) (fun j s => Kx j (keepSt kp0 s)) (fun s => Kr (keepSt kR s)) (c0 x) = b0V f0 f1 (fun x => R (c0 x)) (fun x => Kx 0 (c0 x)) (fun r => Kr (cR r)) x := by kernel_rfl
theorem l0_ok : LSound E tab (afun E tab 4) 31 lt 0 ((loopsIn E.P 179).getD 0 (0, .skip)).2 (mkLoop 0 kp0 kR p0 c0 cR (b0V q56.F q24.F)) := mkLoop_sound (by decide) (by decide) p0_ok (fun R Kx Kr x => l0v q56.F q24.F R Kx Kr x)
theorem loops : LoopsOk E tab lt 4 179 := loops_of (nt := 31) (ids := [0]) (by kernel_rfl) (by kernel_rfl) (by
  intro k i hk l hl
  match k, hk with
  | 0, hk => cases hk; cases hl; exact l0_ok
  | _ + 1, hk => exact absurd hk (by simp))
theorem det (d : Disk) : Det (F d) := by
  unfold F FV
  repeat' with_reducible first | exact det_ret _ | exact det_false | refine det_cond _ ?_ ?_ | refine det_oget _ (fun _ => ?_) | refine det_bind (q56.det _) (fun _ => ?_) | refine det_bind (q24.det _ _) (fun _ => ?_) | refine det_loop (fun _ => ?_) (fun _ => ?_) (fun _ => ?_) _ | unfold b0V
theorem edet (a : List AV) : Det (en a) := mkEntry_det (fun x : Dens A => det x.1) a
theorem ground : Ground E tab := ⟨num, mixed, (tab_cons q56.sound (tab_cons q24.sound (tab_nil _))), clone, (dtab_cons q56.edet (dtab_cons q24.edet dtab_nil)), stab⟩
theorem sound : EntrySound E 179 en := mkSound ground loops (by kernel_rfl) (fun (x : Dens A) K => eqv q56.F q24.F x.1 K)
end q58
namespace q59
abbrev A : List Ty := [(.st 1), (.st 3)]
abbrev C := (cTwo (.st 1) (.int .i64))
abbrev T : Type := Disk → Super → ((Disk × Int) → Prop) → Prop
noncomputable def tabV (f0 : q20.T) (f1 : q32.T) (f2 : q57.T) (f3 : q58.T) : Tab := [(75, mkEntry q20.A q20.C fun x => f0 x.1), (43, mkEntry q32.A q32.C fun x => f1 x.1 x.2.1), (178, mkEntry q57.A q57.C fun x => f2 x.1 x.2.1 x.2.2.1), (179, mkEntry q58.A q58.C fun x => f3 x.1)]
noncomputable def tab : Tab := tabV q20.F q32.F q57.F q58.F
def FV (f0 : q20.T) (f1 : q32.T) (f2 : q57.T) (f3 : q58.T) (d : Disk) (s : Super) (K : (Disk × Int) → Prop) : Prop :=
  (f0 s fun r1 => (bif (r1.2 != 0) then (K (d, 1)) else (f1 d s fun r2 => (bif (!r2) then (K (d, 1)) else (f2 d 0 r1.1 fun r3 => (bif (r3.2 != 0) then (K (r3.1, r3.2)) else (f3 r3.1 fun r4 => (K (r4.1, r4.2)))))))))
def F (d : Disk) (s : Super) (K : (Disk × Int) → Prop) : Prop := FV q20.F q32.F q57.F q58.F d s K
noncomputable def en : Entry := mkEntry A C fun x => F x.1 x.2.1
theorem eqv (f0 : q20.T) (f1 : q32.T) (f2 : q57.T) (f3 : q58.T) (d : Disk) (s : Super) (K : (Disk × Int) → Prop) : apure E (tabV f0 f1 f2 f3) (fun _ => none) 4 164 [enc (.st 1) d, enc (.st 3) s] (ansK C K) = FV f0 f1 f2 f3 d s K := by kernel_rfl
theorem loops : LoopsOk E tab (fun _ => none) 4 164 := loops_none _ _ _ _
theorem det (d : Disk) (s : Super) : Det (F d s) := by
  unfold F FV
  repeat' with_reducible first | exact det_ret _ | exact det_false | refine det_cond _ ?_ ?_ | refine det_oget _ (fun _ => ?_) | refine det_bind (q20.det _) (fun _ => ?_) | refine det_bind (q32.det _ _) (fun _ => ?_) | refine det_bind (q57.det _ _ _) (fun _ => ?_) | refine det_bind (q58.det _) (fun _ => ?_)
theorem edet (a : List AV) : Det (en a) := mkEntry_det (fun x : Dens A => det x.1 x.2.1) a
theorem ground : Ground E tab := ⟨num, mixed, (tab_cons q20.sound (tab_cons q32.sound (tab_cons q57.sound (tab_cons q58.sound (tab_nil _))))), clone, (dtab_cons q20.edet (dtab_cons q32.edet (dtab_cons q57.edet (dtab_cons q58.edet dtab_nil)))), stab⟩
theorem sound : EntrySound E 164 en := mkSound ground loops (by kernel_rfl) (fun (x : Dens A) K => eqv q20.F q32.F q57.F q58.F x.1 x.2.1 K)
end q59
namespace q60
abbrev A : List Ty := [(.st 8), (.st 3)]
abbrev C := (cTwo (.st 8) (.int .i64))
abbrev T : Type := Store → Super → ((Store × Int) → Prop) → Prop
noncomputable def tabV (f0 : q59.T) : Tab := [(164, mkEntry q59.A q59.C fun x => f0 x.1 x.2.1)]
noncomputable def tab : Tab := tabV q59.F
def FV (f0 : q59.T) (s : Store) (b_1 : Super) (K : (Store × Int) → Prop) : Prop :=
  (bif ((b_1.blocks == s.sup.blocks) && (((b_1.vector.current == s.sup.vector.current) && ((b_1.vector.bitmap == s.sup.vector.bitmap) && (((b_1.vector.old0 == s.sup.vector.old0) && ((b_1.vector.old1 == s.sup.vector.old1) && true)) && true))) && ((b_1.inc == s.sup.inc) && ((b_1.pri == s.sup.pri) && ((b_1.dis == s.sup.dis) && true))))) then (K (s, 0)) else (f0 s.disk b_1 fun r1 => (bif (r1.2 == 0) then (K ((⟨r1.1, b_1, s.mask⟩ : Store), r1.2)) else (K ((⟨r1.1, s.sup, s.mask⟩ : Store), r1.2)))))
def F (s : Store) (b_1 : Super) (K : (Store × Int) → Prop) : Prop := FV q59.F s b_1 K
noncomputable def en : Entry := mkEntry A C fun x => F x.1 x.2.1
theorem eqv (f0 : q59.T) (s : Store) (b_1 : Super) (K : (Store × Int) → Prop) : apure E (tabV f0) (fun _ => none) 4 144 [enc (.st 8) s, enc (.st 3) b_1] (ansK C K) = FV f0 s b_1 K := by kernel_rfl
theorem loops : LoopsOk E tab (fun _ => none) 4 144 := loops_none _ _ _ _
theorem det (s : Store) (b_1 : Super) : Det (F s b_1) := by
  unfold F FV
  repeat' with_reducible first | exact det_ret _ | exact det_false | refine det_cond _ ?_ ?_ | refine det_oget _ (fun _ => ?_) | refine det_bind (q59.det _ _) (fun _ => ?_)
theorem edet (a : List AV) : Det (en a) := mkEntry_det (fun x : Dens A => det x.1 x.2.1) a
theorem ground : Ground E tab := ⟨num, mixed, (tab_cons q59.sound (tab_nil _)), clone, (dtab_cons q59.edet dtab_nil), stab⟩
theorem sound : EntrySound E 144 en := mkSound ground loops (by kernel_rfl) (fun (x : Dens A) K => eqv q59.F x.1 x.2.1 K)
end q60
namespace q61
abbrev A : List Ty := [(.st 1)]
abbrev C := (cTy (.st 1))
abbrev T : Type := Disk → (Disk → Prop) → Prop
noncomputable def tab : Tab := []
def F (d : Disk) (K : Disk → Prop) : Prop :=
  (K (⟨d.sure, d.cache, 0, true⟩ : Disk))
noncomputable def en : Entry := mkEntry A C fun x => F x.1
theorem eqv (d : Disk) (K : Disk → Prop) : apure E tab (fun _ => none) 4 13 [enc (.st 1) d] (ansK C K) = F d K := by kernel_rfl
theorem loops : LoopsOk E tab (fun _ => none) 4 13 := loops_none _ _ _ _
theorem det (d : Disk) : Det (F d) := by
  unfold F
  repeat' with_reducible first | exact det_ret _ | exact det_false | refine det_cond _ ?_ ?_ | refine det_oget _ (fun _ => ?_)
theorem edet (a : List AV) : Det (en a) := mkEntry_det (fun x : Dens A => det x.1) a
theorem ground : Ground E tab := ⟨num, mixed, (tab_nil _), clone, dtab_nil, stab⟩
theorem sound : EntrySound E 13 en := mkSound ground loops (by kernel_rfl) (fun (x : Dens A) K => eqv  x.1 K)
end q61
namespace q62
abbrev A : List Ty := [(.st 13)]
abbrev C := (cTy (.st 13))
abbrev T : Type := Node → (Node → Prop) → Prop
noncomputable def tabV (f0 : q61.T) : Tab := [(13, mkEntry q61.A q61.C fun x => f0 x.1)]
noncomputable def tab : Tab := tabV q61.F
def FV (f0 : q61.T) (n_0 : Node) (K : Node → Prop) : Prop :=
  (f0 n_0.store.disk fun r1 => (K (⟨n_0.id, false, (⟨r1, (⟨0, (⟨0, 0, 0, 0⟩ : Vec), false, false, false⟩ : Super), 0⟩ : Store), false, 0, 0, (⟨0, (⟨0, 0, 0, 0⟩ : Vec), false, false, false, false, 0⟩ : Hello), false, (⟨false, 0, 0, ([] : Str)⟩ : Req), false, 0, 0, false, n_0.draws, n_0.mints⟩ : Node)))
def F (n_0 : Node) (K : Node → Prop) : Prop := FV q61.F n_0 K
noncomputable def en : Entry := mkEntry A C fun x => F x.1
theorem eqv (f0 : q61.T) (n_0 : Node) (K : Node → Prop) : apure E (tabV f0) (fun _ => none) 4 87 [enc (.st 13) n_0] (ansK C K) = FV f0 n_0 K := by kernel_rfl
theorem loops : LoopsOk E tab (fun _ => none) 4 87 := loops_none _ _ _ _
theorem det (n_0 : Node) : Det (F n_0) := by
  unfold F FV
  repeat' with_reducible first | exact det_ret _ | exact det_false | refine det_cond _ ?_ ?_ | refine det_oget _ (fun _ => ?_) | refine det_bind (q61.det _) (fun _ => ?_)
theorem edet (a : List AV) : Det (en a) := mkEntry_det (fun x : Dens A => det x.1) a
theorem ground : Ground E tab := ⟨num, mixed, (tab_cons q61.sound (tab_nil _)), clone, (dtab_cons q61.edet dtab_nil), stab⟩
theorem sound : EntrySound E 87 en := mkSound ground loops (by kernel_rfl) (fun (x : Dens A) K => eqv q61.F x.1 K)
end q62
namespace q63
abbrev A : List Ty := [(.st 13), (.st 3)]
abbrev C := (cTwo (.st 13) .bool)
abbrev T : Type := Node → Super → ((Node × Bool) → Prop) → Prop
noncomputable def tabV (f0 : q60.T) (f1 : q62.T) : Tab := [(144, mkEntry q60.A q60.C fun x => f0 x.1 x.2.1), (87, mkEntry q62.A q62.C fun x => f1 x.1)]
noncomputable def tab : Tab := tabV q60.F q62.F
def FV (f0 : q60.T) (f1 : q62.T) (n_0 : Node) (b_1 : Super) (K : (Node × Bool) → Prop) : Prop :=
  (f0 n_0.store b_1 fun r1 => (bif (r1.2 != 0) then (f1 (⟨n_0.id, n_0.up, r1.1, n_0.primary, n_0.state, n_0.session, n_0.peer, n_0.peerPri, n_0.req, n_0.asking, n_0.askId, n_0.wanted, n_0.minted, n_0.draws, n_0.mints⟩ : Node) fun r2 => (K (r2, false))) else (K ((⟨n_0.id, n_0.up, r1.1, n_0.primary, n_0.state, n_0.session, n_0.peer, n_0.peerPri, n_0.req, n_0.asking, n_0.askId, n_0.wanted, n_0.minted, n_0.draws, n_0.mints⟩ : Node), true))))
def F (n_0 : Node) (b_1 : Super) (K : (Node × Bool) → Prop) : Prop := FV q60.F q62.F n_0 b_1 K
noncomputable def en : Entry := mkEntry A C fun x => F x.1 x.2.1
theorem eqv (f0 : q60.T) (f1 : q62.T) (n_0 : Node) (b_1 : Super) (K : (Node × Bool) → Prop) : apure E (tabV f0 f1) (fun _ => none) 4 112 [enc (.st 13) n_0, enc (.st 3) b_1] (ansK C K) = FV f0 f1 n_0 b_1 K := by kernel_rfl
theorem loops : LoopsOk E tab (fun _ => none) 4 112 := loops_none _ _ _ _
theorem det (n_0 : Node) (b_1 : Super) : Det (F n_0 b_1) := by
  unfold F FV
  repeat' with_reducible first | exact det_ret _ | exact det_false | refine det_cond _ ?_ ?_ | refine det_oget _ (fun _ => ?_) | refine det_bind (q60.det _ _) (fun _ => ?_) | refine det_bind (q62.det _) (fun _ => ?_)
theorem edet (a : List AV) : Det (en a) := mkEntry_det (fun x : Dens A => det x.1 x.2.1) a
theorem ground : Ground E tab := ⟨num, mixed, (tab_cons q60.sound (tab_cons q62.sound (tab_nil _))), clone, (dtab_cons q60.edet (dtab_cons q62.edet dtab_nil)), stab⟩
theorem sound : EntrySound E 112 en := mkSound ground loops (by kernel_rfl) (fun (x : Dens A) K => eqv q60.F q62.F x.1 x.2.1 K)
end q63
namespace q64
abbrev A : List Ty := [(.st 13), (.int .i64)]
abbrev C := (cTwo (.st 13) (.slice (.st 11)))
abbrev T : Type := Node → Int → ((Node × (List Outp)) → Prop) → Prop
noncomputable def tabV (f0 : q46.T) (f1 : q47.T) (f2 : q55.T) (f3 : q63.T) (f4 : q45.T) : Tab := [(109, mkEntry q46.A q46.C fun x => f0 x.1 x.2.1 x.2.2.1), (110, mkEntry q47.A q47.C fun x => f1 x.1), (111, mkEntry q55.A q55.C fun x => f2 x.1 x.2.1), (112, mkEntry q63.A q63.C fun x => f3 x.1 x.2.1), (88, mkEntry q45.A q45.C fun x => f4 x.1 x.2.1 x.2.2.1 x.2.2.2.1)]
noncomputable def tab : Tab := tabV q46.F q47.F q55.F q63.F q45.F
def FV (f0 : q46.T) (f1 : q47.T) (f2 : q55.T) (f3 : q63.T) (f4 : q45.T) (n_0 : Node) (id : Int) (K : (Node × (List Outp)) → Prop) : Prop :=
  (bif (!n_0.up) then (f0 n_0 id 7 fun r1 => (K (r1.1, r1.2))) else (bif n_0.primary then (f0 n_0 id 8 fun r2 => (K (r2.1, r2.2))) else (bif n_0.store.sup.inc then (f0 n_0 id 9 fun r3 => (K (r3.1, r3.2))) else (bif n_0.store.sup.dis then (f0 n_0 id 10 fun r4 => (K (r4.1, r4.2))) else (bif (n_0.state == 1) then (f0 n_0 id 11 fun r5 => (K (r5.1, r5.2))) else (bif (n_0.state == 4) then (f0 n_0 id 11 fun r6 => (K (r6.1, r6.2))) else (bif n_0.asking then (f0 n_0 id 11 fun r7 => (K (r7.1, r7.2))) else (bif n_0.peerPri then (f0 n_0 id 12 fun r8 => (K (r8.1, r8.2))) else (f1 n_0 fun r9 => (bif r9 then (f2 (⟨n_0.id, n_0.up, n_0.store, n_0.primary, n_0.state, n_0.session, n_0.peer, n_0.peerPri, n_0.req, true, id, n_0.wanted, n_0.minted, n_0.draws, n_0.mints⟩ : Node) (⟨10, 0, (⟨0, (⟨0, 0, 0, 0⟩ : Vec), false, false, false, false, 0⟩ : Hello), 0, ([] : Str)⟩ : Packet) fun r10 => (K ((⟨n_0.id, n_0.up, n_0.store, n_0.primary, n_0.state, n_0.session, n_0.peer, n_0.peerPri, n_0.req, true, id, n_0.wanted, n_0.minted, n_0.draws, n_0.mints⟩ : Node), ([(⟨1, r10.1, 0, 0, r10.2⟩ : Outp)] : List Outp)))) else (f3 n_0 (⟨n_0.store.sup.blocks, n_0.store.sup.vector, n_0.store.sup.inc, true, n_0.store.sup.dis⟩ : Super) fun r11 => (bif (!r11.2) then (K (r11.1, ([] : List Outp))) else (f4 (⟨r11.1.id, r11.1.up, r11.1.store, true, r11.1.state, r11.1.session, r11.1.peer, r11.1.peerPri, r11.1.req, r11.1.asking, r11.1.askId, r11.1.wanted, r11.1.minted, r11.1.draws, r11.1.mints⟩ : Node) id 0 ([] : Str) fun r12 => (K ((⟨r11.1.id, r11.1.up, r11.1.store, true, r11.1.state, r11.1.session, r11.1.peer, r11.1.peerPri, r11.1.req, r11.1.asking, r11.1.askId, r11.1.wanted, r11.1.minted, r11.1.draws, r11.1.mints⟩ : Node), ([r12] : List Outp))))))))))))))))
def F (n_0 : Node) (id : Int) (K : (Node × (List Outp)) → Prop) : Prop := FV q46.F q47.F q55.F q63.F q45.F n_0 id K
noncomputable def en : Entry := mkEntry A C fun x => F x.1 x.2.1
theorem eqv (f0 : q46.T) (f1 : q47.T) (f2 : q55.T) (f3 : q63.T) (f4 : q45.T) (n_0 : Node) (id : Int) (K : (Node × (List Outp)) → Prop) : apure E (tabV f0 f1 f2 f3 f4) (fun _ => none) 4 78 [enc (.st 13) n_0, enc (.int .i64) id] (ansK C K) = FV f0 f1 f2 f3 f4 n_0 id K := by kernel_rfl
theorem loops : LoopsOk E tab (fun _ => none) 4 78 := loops_none _ _ _ _
theorem det (n_0 : Node) (id : Int) : Det (F n_0 id) := by
  unfold F FV
  repeat' with_reducible first | exact det_ret _ | exact det_false | refine det_cond _ ?_ ?_ | refine det_oget _ (fun _ => ?_) | refine det_bind (q46.det _ _ _) (fun _ => ?_) | refine det_bind (q47.det _) (fun _ => ?_) | refine det_bind (q55.det _ _) (fun _ => ?_) | refine det_bind (q63.det _ _) (fun _ => ?_) | refine det_bind (q45.det _ _ _ _) (fun _ => ?_)
theorem edet (a : List AV) : Det (en a) := mkEntry_det (fun x : Dens A => det x.1 x.2.1) a
theorem ground : Ground E tab := ⟨num, mixed, (tab_cons q46.sound (tab_cons q47.sound (tab_cons q55.sound (tab_cons q63.sound (tab_cons q45.sound (tab_nil _)))))), clone, (dtab_cons q46.edet (dtab_cons q47.edet (dtab_cons q55.edet (dtab_cons q63.edet (dtab_cons q45.edet dtab_nil))))), stab⟩
theorem sound : EntrySound E 78 en := mkSound ground loops (by kernel_rfl) (fun (x : Dens A) K => eqv q46.F q47.F q55.F q63.F q45.F x.1 x.2.1 K)
end q64
namespace q65
abbrev A : List Ty := [(.st 13), (.int .i64)]
abbrev C := (cTwo (.st 13) (.slice (.st 11)))
abbrev T : Type := Node → Int → ((Node × (List Outp)) → Prop) → Prop
noncomputable def tabV (f0 : q46.T) (f1 : q63.T) (f2 : q47.T) (f3 : q55.T) (f4 : q45.T) : Tab := [(109, mkEntry q46.A q46.C fun x => f0 x.1 x.2.1 x.2.2.1), (112, mkEntry q63.A q63.C fun x => f1 x.1 x.2.1), (110, mkEntry q47.A q47.C fun x => f2 x.1), (111, mkEntry q55.A q55.C fun x => f3 x.1 x.2.1), (88, mkEntry q45.A q45.C fun x => f4 x.1 x.2.1 x.2.2.1 x.2.2.2.1)]
noncomputable def tab : Tab := tabV q46.F q63.F q47.F q55.F q45.F
def FV (f0 : q46.T) (f1 : q63.T) (f2 : q47.T) (f3 : q55.T) (f4 : q45.T) (n_0 : Node) (id : Int) (K : (Node × (List Outp)) → Prop) : Prop :=
  (bif (!n_0.up) then (f0 n_0 id 7 fun r1 => (K (r1.1, r1.2))) else (bif (!n_0.primary) then (f0 n_0 id 8 fun r2 => (K (r2.1, r2.2))) else (bif n_0.req.on then (f0 n_0 id 11 fun r3 => (K (r3.1, r3.2))) else (bif (n_0.state == 1) then (f0 n_0 id 11 fun r4 => (K (r4.1, r4.2))) else (f1 n_0 (⟨n_0.store.sup.blocks, n_0.store.sup.vector, n_0.store.sup.inc, false, n_0.store.sup.dis⟩ : Super) fun r5 => (bif (!r5.2) then (K (r5.1, ([] : List Outp))) else (f2 (⟨r5.1.id, r5.1.up, r5.1.store, false, r5.1.state, r5.1.session, r5.1.peer, r5.1.peerPri, r5.1.req, r5.1.asking, r5.1.askId, r5.1.wanted, r5.1.minted, r5.1.draws, r5.1.mints⟩ : Node) fun r6 => (bif r6 then (f3 (⟨r5.1.id, r5.1.up, r5.1.store, false, r5.1.state, r5.1.session, r5.1.peer, r5.1.peerPri, r5.1.req, r5.1.asking, r5.1.askId, r5.1.wanted, r5.1.minted, r5.1.draws, r5.1.mints⟩ : Node) (⟨13, 0, (⟨0, (⟨0, 0, 0, 0⟩ : Vec), false, false, false, false, 0⟩ : Hello), 0, ([] : Str)⟩ : Packet) fun r7 => (bif (decide ((([] : List Outp).length + ([(⟨1, r7.1, 0, 0, r7.2⟩ : Outp)] : List Outp).length) * 48 ≤ room)) then (f4 (⟨r5.1.id, r5.1.up, r5.1.store, false, r5.1.state, r5.1.session, r5.1.peer, r5.1.peerPri, r5.1.req, r5.1.asking, r5.1.askId, r5.1.wanted, r5.1.minted, r5.1.draws, r5.1.mints⟩ : Node) id 0 ([] : Str) fun r8 => (bif (decide (((([] : List Outp) ++ ([(⟨1, r7.1, 0, 0, r7.2⟩ : Outp)] : List Outp)).length + ([r8] : List Outp).length) * 48 ≤ room)) then (K ((⟨r5.1.id, r5.1.up, r5.1.store, false, r5.1.state, r5.1.session, r5.1.peer, r5.1.peerPri, r5.1.req, r5.1.asking, r5.1.askId, r5.1.wanted, r5.1.minted, r5.1.draws, r5.1.mints⟩ : Node), ((([] : List Outp) ++ ([(⟨1, r7.1, 0, 0, r7.2⟩ : Outp)] : List Outp)) ++ ([r8] : List Outp)))) else False)) else False)) else (f4 (⟨r5.1.id, r5.1.up, r5.1.store, false, r5.1.state, r5.1.session, r5.1.peer, r5.1.peerPri, r5.1.req, r5.1.asking, r5.1.askId, r5.1.wanted, r5.1.minted, r5.1.draws, r5.1.mints⟩ : Node) id 0 ([] : Str) fun r9 => (bif (decide ((([] : List Outp).length + ([r9] : List Outp).length) * 48 ≤ room)) then (K ((⟨r5.1.id, r5.1.up, r5.1.store, false, r5.1.state, r5.1.session, r5.1.peer, r5.1.peerPri, r5.1.req, r5.1.asking, r5.1.askId, r5.1.wanted, r5.1.minted, r5.1.draws, r5.1.mints⟩ : Node), (([] : List Outp) ++ ([r9] : List Outp)))) else False))))))))))
def F (n_0 : Node) (id : Int) (K : (Node × (List Outp)) → Prop) : Prop := FV q46.F q63.F q47.F q55.F q45.F n_0 id K
noncomputable def en : Entry := mkEntry A C fun x => F x.1 x.2.1
theorem eqv (f0 : q46.T) (f1 : q63.T) (f2 : q47.T) (f3 : q55.T) (f4 : q45.T) (n_0 : Node) (id : Int) (K : (Node × (List Outp)) → Prop) : apure E (tabV f0 f1 f2 f3 f4) (fun _ => none) 4 79 [enc (.st 13) n_0, enc (.int .i64) id] (ansK C K) = FV f0 f1 f2 f3 f4 n_0 id K := by kernel_rfl
theorem loops : LoopsOk E tab (fun _ => none) 4 79 := loops_none _ _ _ _
theorem det (n_0 : Node) (id : Int) : Det (F n_0 id) := by
  unfold F FV
  repeat' with_reducible first | exact det_ret _ | exact det_false | refine det_cond _ ?_ ?_ | refine det_oget _ (fun _ => ?_) | refine det_bind (q46.det _ _ _) (fun _ => ?_) | refine det_bind (q63.det _ _) (fun _ => ?_) | refine det_bind (q47.det _) (fun _ => ?_) | refine det_bind (q55.det _ _) (fun _ => ?_) | refine det_bind (q45.det _ _ _ _) (fun _ => ?_)
theorem edet (a : List AV) : Det (en a) := mkEntry_det (fun x : Dens A => det x.1 x.2.1) a
theorem ground : Ground E tab := ⟨num, mixed, (tab_cons q46.sound (tab_cons q63.sound (tab_cons q47.sound (tab_cons q55.sound (tab_cons q45.sound (tab_nil _)))))), clone, (dtab_cons q46.edet (dtab_cons q63.edet (dtab_cons q47.edet (dtab_cons q55.edet (dtab_cons q45.edet dtab_nil))))), stab⟩
theorem sound : EntrySound E 79 en := mkSound ground loops (by kernel_rfl) (fun (x : Dens A) K => eqv q46.F q63.F q47.F q55.F q45.F x.1 x.2.1 K)
end q65
namespace q66
abbrev A : List Ty := [(.st 13), (.int .i64)]
abbrev C := (cTwo (.st 13) (.slice (.st 11)))
abbrev T : Type := Node → Int → ((Node × (List Outp)) → Prop) → Prop
noncomputable def tabV (f0 : q46.T) (f1 : q63.T) (f2 : q45.T) : Tab := [(109, mkEntry q46.A q46.C fun x => f0 x.1 x.2.1 x.2.2.1), (112, mkEntry q63.A q63.C fun x => f1 x.1 x.2.1), (88, mkEntry q45.A q45.C fun x => f2 x.1 x.2.1 x.2.2.1 x.2.2.2.1)]
noncomputable def tab : Tab := tabV q46.F q63.F q45.F
def FV (f0 : q46.T) (f1 : q63.T) (f2 : q45.T) (n_0 : Node) (id : Int) (K : (Node × (List Outp)) → Prop) : Prop :=
  (bif (!n_0.up) then (f0 n_0 id 7 fun r1 => (K (r1.1, r1.2))) else (bif n_0.primary then (f0 n_0 id 8 fun r2 => (K (r2.1, r2.2))) else (bif (n_0.state != 0) then (f0 n_0 id 11 fun r3 => (K (r3.1, r3.2))) else (f1 n_0 (⟨n_0.store.sup.blocks, n_0.store.sup.vector, n_0.store.sup.inc, n_0.store.sup.pri, true⟩ : Super) fun r4 => (bif (!r4.2) then (K (r4.1, ([] : List Outp))) else (f2 r4.1 id 0 ([] : Str) fun r5 => (K (r4.1, ([r5] : List Outp)))))))))
def F (n_0 : Node) (id : Int) (K : (Node × (List Outp)) → Prop) : Prop := FV q46.F q63.F q45.F n_0 id K
noncomputable def en : Entry := mkEntry A C fun x => F x.1 x.2.1
theorem eqv (f0 : q46.T) (f1 : q63.T) (f2 : q45.T) (n_0 : Node) (id : Int) (K : (Node × (List Outp)) → Prop) : apure E (tabV f0 f1 f2) (fun _ => none) 4 80 [enc (.st 13) n_0, enc (.int .i64) id] (ansK C K) = FV f0 f1 f2 n_0 id K := by kernel_rfl
theorem loops : LoopsOk E tab (fun _ => none) 4 80 := loops_none _ _ _ _
theorem det (n_0 : Node) (id : Int) : Det (F n_0 id) := by
  unfold F FV
  repeat' with_reducible first | exact det_ret _ | exact det_false | refine det_cond _ ?_ ?_ | refine det_oget _ (fun _ => ?_) | refine det_bind (q46.det _ _ _) (fun _ => ?_) | refine det_bind (q63.det _ _) (fun _ => ?_) | refine det_bind (q45.det _ _ _ _) (fun _ => ?_)
theorem edet (a : List AV) : Det (en a) := mkEntry_det (fun x : Dens A => det x.1 x.2.1) a
theorem ground : Ground E tab := ⟨num, mixed, (tab_cons q46.sound (tab_cons q63.sound (tab_cons q45.sound (tab_nil _)))), clone, (dtab_cons q46.edet (dtab_cons q63.edet (dtab_cons q45.edet dtab_nil))), stab⟩
theorem sound : EntrySound E 80 en := mkSound ground loops (by kernel_rfl) (fun (x : Dens A) K => eqv q46.F q63.F q45.F x.1 x.2.1 K)
end q66
namespace q67
abbrev A : List Ty := [(.st 8), (.int .i64)]
abbrev C := (cTwo .str (.int .i64))
abbrev T : Type := Store → Int → ((Str × Int) → Prop) → Prop
noncomputable def tabV (f0 : q40.T) : Tab := [(21, mkEntry q40.A q40.C fun x => f0 x.1 x.2.1)]
noncomputable def tab : Tab := tabV q40.F
def FV (f0 : q40.T) (s : Store) (i : Int) (K : (Str × Int) → Prop) : Prop :=
  (f0 s.disk i fun r1 => (K (r1.1, r1.2)))
def F (s : Store) (i : Int) (K : (Str × Int) → Prop) : Prop := FV q40.F s i K
noncomputable def en : Entry := mkEntry A C fun x => F x.1 x.2.1
theorem eqv (f0 : q40.T) (s : Store) (i : Int) (K : (Str × Int) → Prop) : apure E (tabV f0) (fun _ => none) 4 8 [enc (.st 8) s, enc (.int .i64) i] (ansK C K) = FV f0 s i K := by kernel_rfl
theorem loops : LoopsOk E tab (fun _ => none) 4 8 := loops_none _ _ _ _
theorem det (s : Store) (i : Int) : Det (F s i) := by
  unfold F FV
  repeat' with_reducible first | exact det_ret _ | exact det_false | refine det_cond _ ?_ ?_ | refine det_oget _ (fun _ => ?_) | refine det_bind (q40.det _ _) (fun _ => ?_)
theorem edet (a : List AV) : Det (en a) := mkEntry_det (fun x : Dens A => det x.1 x.2.1) a
theorem ground : Ground E tab := ⟨num, mixed, (tab_cons q40.sound (tab_nil _)), clone, (dtab_cons q40.edet dtab_nil), stab⟩
theorem sound : EntrySound E 8 en := mkSound ground loops (by kernel_rfl) (fun (x : Dens A) K => eqv q40.F x.1 x.2.1 K)
end q67
namespace q68
abbrev A : List Ty := [(.st 13), (.int .i64), (.int .i64)]
abbrev C := (cTwo (.st 13) (.slice (.st 11)))
abbrev T : Type := Node → Int → Int → ((Node × (List Outp)) → Prop) → Prop
noncomputable def tabV (f0 : q46.T) (f1 : q67.T) (f2 : q45.T) : Tab := [(109, mkEntry q46.A q46.C fun x => f0 x.1 x.2.1 x.2.2.1), (8, mkEntry q67.A q67.C fun x => f1 x.1 x.2.1), (88, mkEntry q45.A q45.C fun x => f2 x.1 x.2.1 x.2.2.1 x.2.2.2.1)]
noncomputable def tab : Tab := tabV q46.F q67.F q45.F
def FV (f0 : q46.T) (f1 : q67.T) (f2 : q45.T) (n_0 : Node) (id : Int) (block : Int) (K : (Node × (List Outp)) → Prop) : Prop :=
  (bif (!n_0.up) then (f0 n_0 id 7 fun r1 => (K (r1.1, r1.2))) else (bif (!n_0.primary) then (f0 n_0 id 8 fun r2 => (K (r2.1, r2.2))) else (f1 n_0.store block fun r3 => (f2 n_0 id r3.2 r3.1 fun r4 => (K (n_0, ([r4] : List Outp)))))))
def F (n_0 : Node) (id : Int) (block : Int) (K : (Node × (List Outp)) → Prop) : Prop := FV q46.F q67.F q45.F n_0 id block K
noncomputable def en : Entry := mkEntry A C fun x => F x.1 x.2.1 x.2.2.1
theorem eqv (f0 : q46.T) (f1 : q67.T) (f2 : q45.T) (n_0 : Node) (id : Int) (block : Int) (K : (Node × (List Outp)) → Prop) : apure E (tabV f0 f1 f2) (fun _ => none) 4 81 [enc (.st 13) n_0, enc (.int .i64) id, enc (.int .i64) block] (ansK C K) = FV f0 f1 f2 n_0 id block K := by kernel_rfl
theorem loops : LoopsOk E tab (fun _ => none) 4 81 := loops_none _ _ _ _
theorem det (n_0 : Node) (id : Int) (block : Int) : Det (F n_0 id block) := by
  unfold F FV
  repeat' with_reducible first | exact det_ret _ | exact det_false | refine det_cond _ ?_ ?_ | refine det_oget _ (fun _ => ?_) | refine det_bind (q46.det _ _ _) (fun _ => ?_) | refine det_bind (q67.det _ _) (fun _ => ?_) | refine det_bind (q45.det _ _ _ _) (fun _ => ?_)
theorem edet (a : List AV) : Det (en a) := mkEntry_det (fun x : Dens A => det x.1 x.2.1 x.2.2.1) a
theorem ground : Ground E tab := ⟨num, mixed, (tab_cons q46.sound (tab_cons q67.sound (tab_cons q45.sound (tab_nil _)))), clone, (dtab_cons q46.edet (dtab_cons q67.edet (dtab_cons q45.edet dtab_nil))), stab⟩
theorem sound : EntrySound E 81 en := mkSound ground loops (by kernel_rfl) (fun (x : Dens A) K => eqv q46.F q67.F q45.F x.1 x.2.1 x.2.2.1 K)
end q68
namespace q69
abbrev A : List Ty := [(.st 2), (.int .u64)]
abbrev C := (cTwo (.st 2) (.int .i64))
abbrev T : Type := Vec → Int → ((Vec × Int) → Prop) → Prop
noncomputable def tab : Tab := []
def F (v : Vec) (g : Int) (K : (Vec × Int) → Prop) : Prop :=
  (bif (g == 0) then (K ((⟨0, 0, 0, 0⟩ : Vec), 14)) else (bif (v.bitmap == 0) then (K ((⟨g, v.current, v.old0, v.old1⟩ : Vec), 0)) else (K ((⟨g, v.bitmap, v.current, v.old0⟩ : Vec), 0))))
noncomputable def en : Entry := mkEntry A C fun x => F x.1 x.2.1
theorem eqv (v : Vec) (g : Int) (K : (Vec × Int) → Prop) : apure E tab (fun _ => none) 4 145 [enc (.st 2) v, enc (.int .u64) g] (ansK C K) = F v g K := by kernel_rfl
theorem loops : LoopsOk E tab (fun _ => none) 4 145 := loops_none _ _ _ _
theorem det (v : Vec) (g : Int) : Det (F v g) := by
  unfold F
  repeat' with_reducible first | exact det_ret _ | exact det_false | refine det_cond _ ?_ ?_ | refine det_oget _ (fun _ => ?_)
theorem edet (a : List AV) : Det (en a) := mkEntry_det (fun x : Dens A => det x.1 x.2.1) a
theorem ground : Ground E tab := ⟨num, mixed, (tab_nil _), clone, dtab_nil, stab⟩
theorem sound : EntrySound E 145 en := mkSound ground loops (by kernel_rfl) (fun (x : Dens A) K => eqv  x.1 x.2.1 K)
end q69
namespace q70
abbrev A : List Ty := [(.st 13)]
abbrev C := (cTwo (.st 13) (.int .i64))
abbrev T : Type := Node → ((Node × Int) → Prop) → Prop
noncomputable def tabV (f0 : q69.T) (f1 : q63.T) : Tab := [(145, mkEntry q69.A q69.C fun x => f0 x.1 x.2.1), (112, mkEntry q63.A q63.C fun x => f1 x.1 x.2.1)]
noncomputable def tab : Tab := tabV q69.F q63.F
def FV (f0 : q69.T) (f1 : q63.T) (n_0 : Node) (K : (Node × Int) → Prop) : Prop :=
  (bif ((n_0.draws.length : Int) == 0) then (K (n_0, 14)) else (oget (getI n_0.draws 0) fun v1 => (bif (decide (0 ≤ 1) && decide (1 ≤ (n_0.draws.length : Int))) then (bif (decide ((sub n_0.draws (Int.toNat 1) n_0.draws.length).length * 8 ≤ room)) then (bif (v1 == 0) then (K ((⟨n_0.id, n_0.up, n_0.store, n_0.primary, n_0.state, n_0.session, n_0.peer, n_0.peerPri, n_0.req, n_0.asking, n_0.askId, n_0.wanted, n_0.minted, (sub n_0.draws (Int.toNat 1) n_0.draws.length), n_0.mints⟩ : Node), 14)) else (bif (decide (n_0.mints.length * 24 ≤ room)) then (bif (decide ((n_0.mints.length + ([(⟨v1, n_0.store.sup.vector.current, n_0.id⟩ : Mint)] : List Mint).length) * 24 ≤ room)) then (f0 n_0.store.sup.vector v1 fun r2 => (f1 (⟨n_0.id, n_0.up, n_0.store, n_0.primary, n_0.state, n_0.session, n_0.peer, n_0.peerPri, n_0.req, n_0.asking, n_0.askId, n_0.wanted, n_0.minted, (sub n_0.draws (Int.toNat 1) n_0.draws.length), (n_0.mints ++ ([(⟨v1, n_0.store.sup.vector.current, n_0.id⟩ : Mint)] : List Mint))⟩ : Node) (⟨n_0.store.sup.blocks, r2.1, n_0.store.sup.inc, n_0.store.sup.pri, n_0.store.sup.dis⟩ : Super) fun r3 => (bif (!r3.2) then (K (r3.1, 6)) else (K ((⟨r3.1.id, r3.1.up, r3.1.store, r3.1.primary, r3.1.state, r3.1.session, r3.1.peer, r3.1.peerPri, r3.1.req, r3.1.asking, r3.1.askId, r3.1.wanted, true, r3.1.draws, r3.1.mints⟩ : Node), 0))))) else False) else False)) else False) else False)))
def F (n_0 : Node) (K : (Node × Int) → Prop) : Prop := FV q69.F q63.F n_0 K
noncomputable def en : Entry := mkEntry A C fun x => F x.1
theorem eqv (f0 : q69.T) (f1 : q63.T) (n_0 : Node) (K : (Node × Int) → Prop) : apure E (tabV f0 f1) (fun _ => none) 4 113 [enc (.st 13) n_0] (ansK C K) = FV f0 f1 n_0 K := by kernel_rfl
theorem loops : LoopsOk E tab (fun _ => none) 4 113 := loops_none _ _ _ _
theorem det (n_0 : Node) : Det (F n_0) := by
  unfold F FV
  repeat' with_reducible first | exact det_ret _ | exact det_false | refine det_cond _ ?_ ?_ | refine det_oget _ (fun _ => ?_) | refine det_bind (q69.det _ _) (fun _ => ?_) | refine det_bind (q63.det _ _) (fun _ => ?_)
theorem edet (a : List AV) : Det (en a) := mkEntry_det (fun x : Dens A => det x.1) a
theorem ground : Ground E tab := ⟨num, mixed, (tab_cons q69.sound (tab_cons q63.sound (tab_nil _))), clone, (dtab_cons q69.edet (dtab_cons q63.edet dtab_nil)), stab⟩
theorem sound : EntrySound E 113 en := mkSound ground loops (by kernel_rfl) (fun (x : Dens A) K => eqv q69.F q63.F x.1 K)
end q70
namespace q71
abbrev A : List Ty := [(.int .u32), (.slice (.int .i64))]
abbrev C := (cTy (.int .u32))
abbrev T : Type := Int → (List Int) → (Int → Prop) → Prop
noncomputable def tabV (f0 : q36.T) (f1 : q35.T) : Tab := [(14, mkEntry q36.A q36.C fun x => f0 x.1 x.2.1), (31, mkEntry q35.A q35.C fun x => f1 x.1)]
noncomputable def tab : Tab := tabV q36.F q35.F
structure R where
def cR (_ : R) : St := { fr := fun _ => .top, hs := hs0 }
def kR : Keep := { ks := [], bs := [], hn := 0 }
structure L0 where
  m : Int
  l : (List Int)
  k : Int
def c0 (x : L0) : St := { fr := lookL .top [(0, (.int .u32 x.m)), (1, (.sl .any (.int .i64) x.l)), (5, (.int .i64 x.k))], hs := { hp := lookL .dead [], hn := 0 } }
def kp0 : Keep := { ks := [(0, none), (1, none), (5, none)], bs := [], hn := 0 }
def p0 (st : St) (K : L0 → Prop) : Prop := gInt .u32 (st.fr 0) fun a1 => gSl .any (.int .i64) (st.fr 1) fun a2 => gInt .i64 (st.fr 5) fun a3 => K ⟨a1, a2, a3⟩
set_option maxHeartbeats 4000000 in
theorem p0_ok (st : St) (K : L0 → Prop) (h : p0 st K) : ∃ x, keepSt kp0 st = c0 x ∧ K x := by
  obtain ⟨a1, h0, h⟩ := gInt_elim h
  obtain ⟨a2, h1, h⟩ := gSl_elim h
  obtain ⟨a3, h2, h⟩ := gInt_elim h
  refine ⟨_, ?_, h⟩
  simp only [keepSt, kp0, List.map, h0, h1, h2]
  rfl
def b0V (f0 : q36.T) (f1 : q35.T) (rec kx : L0 → Prop) (kr : R → Prop) (x : L0) : Prop :=
  (bif (decide (x.k < (x.l.length : Int))) then (oget (getI x.l x.k) fun v1 => (bif (decide (v1 ≥ 0)) then (oget (getI x.l x.k) fun v2 => (bif (decide (v2 < 32)) then (oget (getI x.l x.k) fun v3 => (f0 x.m v3 fun r4 => (bif (!r4) then (oget (getI x.l x.k) fun v5 => (f1 v5 fun r6 => (rec ⟨(IntKind.u32.wrap (x.m + r6)), x.l, (IntKind.i64.wrap (x.k + 1))⟩))) else (rec ⟨x.m, x.l, (IntKind.i64.wrap (x.k + 1))⟩)))) else (rec ⟨x.m, x.l, (IntKind.i64.wrap (x.k + 1))⟩))) else (rec ⟨x.m, x.l, (IntKind.i64.wrap (x.k + 1))⟩))) else (kx ⟨x.m, x.l, x.k⟩))
def ltV (f0 : q36.T) (f1 : q35.T) : Nat → Option LSpec
  | 0 => some (mkLoop 0 kp0 kR p0 c0 cR (b0V f0 f1))
  | _ => none
def lt : Nat → Option LSpec := ltV q36.F q35.F
def FV (f0 : q36.T) (f1 : q35.T) (m : Int) (l : (List Int)) (K : Int → Prop) : Prop :=
  (∃ n, loopB (b0V f0 f1) n (fun x7 => (K x7.m)) (fun _ => False) ⟨m, l, 0⟩)
def F (m : Int) (l : (List Int)) (K : Int → Prop) : Prop := FV q36.F q35.F m l K
noncomputable def en : Entry := mkEntry A C fun x => F x.1 x.2.1
theorem eqv (f0 : q36.T) (f1 : q35.T) (m : Int) (l : (List Int)) (K : Int → Prop) : apure E (tabV f0 f1) (ltV f0 f1) 4 166 [enc (.int .u32) m, enc (.slice (.int .i64)) l] (ansK C K) = FV f0 f1 m l K := by kernel_rfl
theorem l0v (f0 : q36.T) (f1 : q35.T) (R : St → Prop) (Kx : Nat → St → Prop) (Kr : St → Prop) (x : L0) : acode E (tabV f0 f1) (afun E (tabV f0 f1) 4) 41 (ltV f0 f1) ((loopsIn E.P 166).getD 0 (0, .skip)).2 0 (fun s => R (keepSt kp0 s)) (fun j s => Kx j (keepSt kp0 s)) (fun s => Kr (keepSt kR s)) (c0 x) = b0V f0 f1 (fun x => R (c0 x)) (fun x => Kx 0 (c0 x)) (fun r => Kr (cR r)) x := by kernel_rfl
theorem l0_ok : LSound E tab (afun E tab 4) 41 lt 0 ((loopsIn E.P 166).getD 0 (0, .skip)).2 (mkLoop 0 kp0 kR p0 c0 cR (b0V q36.F q35.F)) := mkLoop_sound (by decide) (by decide) p0_ok (fun R Kx Kr x => l0v q36.F q35.F R Kx Kr x)
theorem loops : LoopsOk E tab lt 4 166 := loops_of (nt := 41) (ids := [0]) (by kernel_rfl) (by kernel_rfl) (by
  intro k i hk l hl
  match k, hk with
  | 0, hk => cases hk; cases hl; exact l0_ok
  | _ + 1, hk => exact absurd hk (by simp))
theorem det (m : Int) (l : (List Int)) : Det (F m l) := by
  unfold F FV
  repeat' with_reducible first | exact det_ret _ | exact det_false | refine det_cond _ ?_ ?_ | refine det_oget _ (fun _ => ?_) | refine det_bind (q36.det _ _) (fun _ => ?_) | refine det_bind (q35.det _) (fun _ => ?_) | refine det_loop (fun _ => ?_) (fun _ => ?_) (fun _ => ?_) _ | unfold b0V
theorem edet (a : List AV) : Det (en a) := mkEntry_det (fun x : Dens A => det x.1 x.2.1) a
theorem ground : Ground E tab := ⟨num, mixed, (tab_cons q36.sound (tab_cons q35.sound (tab_nil _))), clone, (dtab_cons q36.edet (dtab_cons q35.edet dtab_nil)), stab⟩
theorem sound : EntrySound E 166 en := mkSound ground loops (by kernel_rfl) (fun (x : Dens A) K => eqv q36.F q35.F x.1 x.2.1 K)
end q71
namespace q72
abbrev A : List Ty := [(.st 1), (.int .u32)]
abbrev C := (cTwo (.st 1) (.int .i64))
abbrev T : Type := Disk → Int → ((Disk × Int) → Prop) → Prop
noncomputable def tabV (f0 : q37.T) (f1 : q18.T) (f2 : q19.T) (f3 : q57.T) : Tab := [(46, mkEntry q37.A q37.C fun x => f0 x.1 x.2.1), (76, mkEntry q18.A q18.C fun x => f1 x.1), (73, mkEntry q19.A q19.C fun x => f2 x.1), (178, mkEntry q57.A q57.C fun x => f3 x.1 x.2.1 x.2.2.1)]
noncomputable def tab : Tab := tabV q37.F q18.F q19.F q57.F
def FV (f0 : q37.T) (f1 : q18.T) (f2 : q19.T) (f3 : q57.T) (d : Disk) (m : Int) (K : (Disk × Int) → Prop) : Prop :=
  (f0 m (IntKind.i64.wrap ((d.sure.length : Int) - 2)) fun r1 => (bif (!r1) then (K (d, 1)) else (f1 m fun r2 => (f2 r2 fun r3 => (f3 d 1 r3 fun r4 => (K (r4.1, r4.2)))))))
def F (d : Disk) (m : Int) (K : (Disk × Int) → Prop) : Prop := FV q37.F q18.F q19.F q57.F d m K
noncomputable def en : Entry := mkEntry A C fun x => F x.1 x.2.1
theorem eqv (f0 : q37.T) (f1 : q18.T) (f2 : q19.T) (f3 : q57.T) (d : Disk) (m : Int) (K : (Disk × Int) → Prop) : apure E (tabV f0 f1 f2 f3) (fun _ => none) 4 188 [enc (.st 1) d, enc (.int .u32) m] (ansK C K) = FV f0 f1 f2 f3 d m K := by kernel_rfl
theorem loops : LoopsOk E tab (fun _ => none) 4 188 := loops_none _ _ _ _
theorem det (d : Disk) (m : Int) : Det (F d m) := by
  unfold F FV
  repeat' with_reducible first | exact det_ret _ | exact det_false | refine det_cond _ ?_ ?_ | refine det_oget _ (fun _ => ?_) | refine det_bind (q37.det _ _) (fun _ => ?_) | refine det_bind (q18.det _) (fun _ => ?_) | refine det_bind (q19.det _) (fun _ => ?_) | refine det_bind (q57.det _ _ _) (fun _ => ?_)
theorem edet (a : List AV) : Det (en a) := mkEntry_det (fun x : Dens A => det x.1 x.2.1) a
theorem ground : Ground E tab := ⟨num, mixed, (tab_cons q37.sound (tab_cons q18.sound (tab_cons q19.sound (tab_cons q57.sound (tab_nil _))))), clone, (dtab_cons q37.edet (dtab_cons q18.edet (dtab_cons q19.edet (dtab_cons q57.edet dtab_nil)))), stab⟩
theorem sound : EntrySound E 188 en := mkSound ground loops (by kernel_rfl) (fun (x : Dens A) K => eqv q37.F q18.F q19.F q57.F x.1 x.2.1 K)
end q72
namespace q73
abbrev A : List Ty := [(.st 1), (.int .u32)]
abbrev C := (cTwo (.st 1) (.int .i64))
abbrev T : Type := Disk → Int → ((Disk × Int) → Prop) → Prop
noncomputable def tabV (f0 : q72.T) (f1 : q58.T) : Tab := [(188, mkEntry q72.A q72.C fun x => f0 x.1 x.2.1), (179, mkEntry q58.A q58.C fun x => f1 x.1)]
noncomputable def tab : Tab := tabV q72.F q58.F
def FV (f0 : q72.T) (f1 : q58.T) (d : Disk) (m : Int) (K : (Disk × Int) → Prop) : Prop :=
  (f0 d m fun r1 => (bif (r1.2 != 0) then (K (r1.1, r1.2)) else (f1 r1.1 fun r2 => (K (r2.1, r2.2)))))
def F (d : Disk) (m : Int) (K : (Disk × Int) → Prop) : Prop := FV q72.F q58.F d m K
noncomputable def en : Entry := mkEntry A C fun x => F x.1 x.2.1
theorem eqv (f0 : q72.T) (f1 : q58.T) (d : Disk) (m : Int) (K : (Disk × Int) → Prop) : apure E (tabV f0 f1) (fun _ => none) 4 180 [enc (.st 1) d, enc (.int .u32) m] (ansK C K) = FV f0 f1 d m K := by kernel_rfl
theorem loops : LoopsOk E tab (fun _ => none) 4 180 := loops_none _ _ _ _
theorem det (d : Disk) (m : Int) : Det (F d m) := by
  unfold F FV
  repeat' with_reducible first | exact det_ret _ | exact det_false | refine det_cond _ ?_ ?_ | refine det_oget _ (fun _ => ?_) | refine det_bind (q72.det _ _) (fun _ => ?_) | refine det_bind (q58.det _) (fun _ => ?_)
theorem edet (a : List AV) : Det (en a) := mkEntry_det (fun x : Dens A => det x.1 x.2.1) a
theorem ground : Ground E tab := ⟨num, mixed, (tab_cons q72.sound (tab_cons q58.sound (tab_nil _))), clone, (dtab_cons q72.edet (dtab_cons q58.edet dtab_nil)), stab⟩
theorem sound : EntrySound E 180 en := mkSound ground loops (by kernel_rfl) (fun (x : Dens A) K => eqv q72.F q58.F x.1 x.2.1 K)
end q73
namespace q74
abbrev A : List Ty := [(.st 8), (.int .u32)]
abbrev C := (cTwo (.st 8) (.int .i64))
abbrev T : Type := Store → Int → ((Store × Int) → Prop) → Prop
noncomputable def tabV (f0 : q73.T) : Tab := [(180, mkEntry q73.A q73.C fun x => f0 x.1 x.2.1)]
noncomputable def tab : Tab := tabV q73.F
def FV (f0 : q73.T) (s : Store) (m : Int) (K : (Store × Int) → Prop) : Prop :=
  (bif (m == s.mask) then (K (s, 0)) else (f0 s.disk m fun r1 => (bif (r1.2 == 0) then (K ((⟨r1.1, s.sup, m⟩ : Store), r1.2)) else (K ((⟨r1.1, s.sup, s.mask⟩ : Store), r1.2)))))
def F (s : Store) (m : Int) (K : (Store × Int) → Prop) : Prop := FV q73.F s m K
noncomputable def en : Entry := mkEntry A C fun x => F x.1 x.2.1
theorem eqv (f0 : q73.T) (s : Store) (m : Int) (K : (Store × Int) → Prop) : apure E (tabV f0) (fun _ => none) 4 165 [enc (.st 8) s, enc (.int .u32) m] (ansK C K) = FV f0 s m K := by kernel_rfl
theorem loops : LoopsOk E tab (fun _ => none) 4 165 := loops_none _ _ _ _
theorem det (s : Store) (m : Int) : Det (F s m) := by
  unfold F FV
  repeat' with_reducible first | exact det_ret _ | exact det_false | refine det_cond _ ?_ ?_ | refine det_oget _ (fun _ => ?_) | refine det_bind (q73.det _ _) (fun _ => ?_)
theorem edet (a : List AV) : Det (en a) := mkEntry_det (fun x : Dens A => det x.1 x.2.1) a
theorem ground : Ground E tab := ⟨num, mixed, (tab_cons q73.sound (tab_nil _)), clone, (dtab_cons q73.edet dtab_nil), stab⟩
theorem sound : EntrySound E 165 en := mkSound ground loops (by kernel_rfl) (fun (x : Dens A) K => eqv q73.F x.1 x.2.1 K)
end q74
namespace q75
abbrev A : List Ty := [(.st 8), (.int .i64)]
abbrev C := (cTwo (.st 8) (.int .i64))
abbrev T : Type := Store → Int → ((Store × Int) → Prop) → Prop
noncomputable def tabV (f0 : q71.T) (f1 : q74.T) : Tab := [(166, mkEntry q71.A q71.C fun x => f0 x.1 x.2.1), (165, mkEntry q74.A q74.C fun x => f1 x.1 x.2.1)]
noncomputable def tab : Tab := tabV q71.F q74.F
def FV (f0 : q71.T) (f1 : q74.T) (s : Store) (i : Int) (K : (Store × Int) → Prop) : Prop :=
  (bif (decide (i < 0)) then (K (s, 4)) else (bif (decide (i ≥ s.sup.blocks)) then (K (s, 4)) else (f0 s.mask ([i] : List Int) fun r1 => (f1 s r1 fun r2 => (K (r2.1, r2.2))))))
def F (s : Store) (i : Int) (K : (Store × Int) → Prop) : Prop := FV q71.F q74.F s i K
noncomputable def en : Entry := mkEntry A C fun x => F x.1 x.2.1
theorem eqv (f0 : q71.T) (f1 : q74.T) (s : Store) (i : Int) (K : (Store × Int) → Prop) : apure E (tabV f0 f1) (fun _ => none) 4 146 [enc (.st 8) s, enc (.int .i64) i] (ansK C K) = FV f0 f1 s i K := by kernel_rfl
theorem loops : LoopsOk E tab (fun _ => none) 4 146 := loops_none _ _ _ _
theorem det (s : Store) (i : Int) : Det (F s i) := by
  unfold F FV
  repeat' with_reducible first | exact det_ret _ | exact det_false | refine det_cond _ ?_ ?_ | refine det_oget _ (fun _ => ?_) | refine det_bind (q71.det _ _) (fun _ => ?_) | refine det_bind (q74.det _ _) (fun _ => ?_)
theorem edet (a : List AV) : Det (en a) := mkEntry_det (fun x : Dens A => det x.1 x.2.1) a
theorem ground : Ground E tab := ⟨num, mixed, (tab_cons q71.sound (tab_cons q74.sound (tab_nil _))), clone, (dtab_cons q71.edet (dtab_cons q74.edet dtab_nil)), stab⟩
theorem sound : EntrySound E 146 en := mkSound ground loops (by kernel_rfl) (fun (x : Dens A) K => eqv q71.F q74.F x.1 x.2.1 K)
end q75
namespace q76
abbrev A : List Ty := [(.st 13), (.st 8), (.int .i64)]
abbrev C := (cTwo (.st 13) .bool)
abbrev T : Type := Node → Store → Int → ((Node × Bool) → Prop) → Prop
noncomputable def tabV (f0 : q62.T) : Tab := [(87, mkEntry q62.A q62.C fun x => f0 x.1)]
noncomputable def tab : Tab := tabV q62.F
def FV (f0 : q62.T) (n_0 : Node) (s : Store) (e : Int) (K : (Node × Bool) → Prop) : Prop :=
  (bif (e != 0) then (f0 (⟨n_0.id, n_0.up, s, n_0.primary, n_0.state, n_0.session, n_0.peer, n_0.peerPri, n_0.req, n_0.asking, n_0.askId, n_0.wanted, n_0.minted, n_0.draws, n_0.mints⟩ : Node) fun r1 => (K (r1, false))) else (K ((⟨n_0.id, n_0.up, s, n_0.primary, n_0.state, n_0.session, n_0.peer, n_0.peerPri, n_0.req, n_0.asking, n_0.askId, n_0.wanted, n_0.minted, n_0.draws, n_0.mints⟩ : Node), true)))
def F (n_0 : Node) (s : Store) (e : Int) (K : (Node × Bool) → Prop) : Prop := FV q62.F n_0 s e K
noncomputable def en : Entry := mkEntry A C fun x => F x.1 x.2.1 x.2.2.1
theorem eqv (f0 : q62.T) (n_0 : Node) (s : Store) (e : Int) (K : (Node × Bool) → Prop) : apure E (tabV f0) (fun _ => none) 4 147 [enc (.st 13) n_0, enc (.st 8) s, enc (.int .i64) e] (ansK C K) = FV f0 n_0 s e K := by kernel_rfl
theorem loops : LoopsOk E tab (fun _ => none) 4 147 := loops_none _ _ _ _
theorem det (n_0 : Node) (s : Store) (e : Int) : Det (F n_0 s e) := by
  unfold F FV
  repeat' with_reducible first | exact det_ret _ | exact det_false | refine det_cond _ ?_ ?_ | refine det_oget _ (fun _ => ?_) | refine det_bind (q62.det _) (fun _ => ?_)
theorem edet (a : List AV) : Det (en a) := mkEntry_det (fun x : Dens A => det x.1 x.2.1 x.2.2.1) a
theorem ground : Ground E tab := ⟨num, mixed, (tab_cons q62.sound (tab_nil _)), clone, (dtab_cons q62.edet dtab_nil), stab⟩
theorem sound : EntrySound E 147 en := mkSound ground loops (by kernel_rfl) (fun (x : Dens A) K => eqv q62.F x.1 x.2.1 x.2.2.1 K)
end q76
namespace q77
abbrev A : List Ty := [(.st 1), (.int .i64), .str]
abbrev C := (cTwo (.st 1) (.int .i64))
abbrev T : Type := Disk → Int → Str → ((Disk × Int) → Prop) → Prop
noncomputable def tabV (f0 : q39.T) (f1 : q57.T) (f2 : q58.T) : Tab := [(37, mkEntry q39.A q39.C fun x => f0 x.1 x.2.1), (178, mkEntry q57.A q57.C fun x => f1 x.1 x.2.1 x.2.2.1), (179, mkEntry q58.A q58.C fun x => f2 x.1)]
noncomputable def tab : Tab := tabV q39.F q57.F q58.F
def FV (f0 : q39.T) (f1 : q57.T) (f2 : q58.T) (d : Disk) (i : Int) (data : Str) (K : (Disk × Int) → Prop) : Prop :=
  (f0 d i fun r1 => (bif (!r1) then (K (d, 4)) else (bif ((data.length : Int) != 8) then (K (d, 5)) else (f1 d (IntKind.i64.wrap (i + 2)) data fun r2 => (bif (r2.2 != 0) then (K (r2.1, r2.2)) else (f2 r2.1 fun r3 => (K (r3.1, r3.2))))))))
def F (d : Disk) (i : Int) (data : Str) (K : (Disk × Int) → Prop) : Prop := FV q39.F q57.F q58.F d i data K
noncomputable def en : Entry := mkEntry A C fun x => F x.1 x.2.1 x.2.2.1
theorem eqv (f0 : q39.T) (f1 : q57.T) (f2 : q58.T) (d : Disk) (i : Int) (data : Str) (K : (Disk × Int) → Prop) : apure E (tabV f0 f1 f2) (fun _ => none) 4 167 [enc (.st 1) d, enc (.int .i64) i, enc .str data] (ansK C K) = FV f0 f1 f2 d i data K := by kernel_rfl
theorem loops : LoopsOk E tab (fun _ => none) 4 167 := loops_none _ _ _ _
theorem det (d : Disk) (i : Int) (data : Str) : Det (F d i data) := by
  unfold F FV
  repeat' with_reducible first | exact det_ret _ | exact det_false | refine det_cond _ ?_ ?_ | refine det_oget _ (fun _ => ?_) | refine det_bind (q39.det _ _) (fun _ => ?_) | refine det_bind (q57.det _ _ _) (fun _ => ?_) | refine det_bind (q58.det _) (fun _ => ?_)
theorem edet (a : List AV) : Det (en a) := mkEntry_det (fun x : Dens A => det x.1 x.2.1 x.2.2.1) a
theorem ground : Ground E tab := ⟨num, mixed, (tab_cons q39.sound (tab_cons q57.sound (tab_cons q58.sound (tab_nil _)))), clone, (dtab_cons q39.edet (dtab_cons q57.edet (dtab_cons q58.edet dtab_nil))), stab⟩
theorem sound : EntrySound E 167 en := mkSound ground loops (by kernel_rfl) (fun (x : Dens A) K => eqv q39.F q57.F q58.F x.1 x.2.1 x.2.2.1 K)
end q77
end Gm
