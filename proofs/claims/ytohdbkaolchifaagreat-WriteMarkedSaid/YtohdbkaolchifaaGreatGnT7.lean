/- Printed by a program (gen.py): the functions' answers, and that they are so. -/
import Derived.Test.YtohdbkaolchifaaGreatGnT6
set_option linter.unusedVariables false
set_option maxRecDepth 100000
namespace Gm
open Go Go.Proofs
namespace q174
abbrev A : List Ty := []
abbrev C := (cTy .bool)
abbrev T : Type := (Bool → Prop) → Prop
noncomputable def tabV (f0 : q127.T) (f1 : q168.T) (f2 : q169.T) (f3 : q172.T) (f4 : q173.T) (f5 : q0.T) : Tab := [(15, mkEntry q127.A q127.C fun x => f0 x.1 x.2.1), (10, mkEntry q168.A q168.C fun x => f1 x.1 x.2.1 x.2.2.1 x.2.2.2.1), (16, mkEntry q169.A q169.C fun x => f2 x.1), (17, mkEntry q172.A q172.C fun x => f3 x.1 x.2.1), (18, mkEntry q173.A q173.C fun x => f4 x.1 x.2.1 x.2.2.1), (19, mkEntry q0.A q0.C fun _ => f5)]
noncomputable def tab : Tab := tabV q127.F q168.F q169.F q172.F q173.F q0.F
def FV (f0 : q127.T) (f1 : q168.T) (f2 : q169.T) (f3 : q172.T) (f4 : q173.T) (f5 : q0.T) (K : Bool → Prop) : Prop :=
  (f0 1 ([(⟨1, 0, 0, 0, ([] : Str), 0, ([] : List Bool)⟩ : Event), (⟨13, 0, 0, 0, ([] : Str), 9, ([] : List Bool)⟩ : Event)] : List Event) fun r1 => (f1 r1.n0 3 1 ([97, 98, 99, 100, 101, 102, 103, 104] : Str) fun r2 => (f1 r2.1 4 2 ([97, 98, 99, 100, 101, 102, 103, 104] : Str) fun r3 => (f1 r1.n1 5 0 ([97, 98, 99, 100, 101, 102, 103, 104] : Str) fun r4 => (bif ((r2.2.length : Int) != 1) then (K false) else (bif ((r3.2.length : Int) != 1) then (K false) else (bif ((r4.2.length : Int) != 1) then (K false) else (oget (getI r2.2 0) fun v5 => (bif (!((v5.kind == 2) && ((v5.node == 0) && ((v5.id == 3) && ((v5.err == 0) && ((v5.data == ([] : Str)) && true)))))) then (K false) else (oget (getI r3.2 0) fun v6 => (bif (v6.err != 4) then (K false) else (oget (getI r4.2 0) fun v7 => (bif (v7.err != 8) then (K false) else (f0 1 ([(⟨1, 0, 0, 0, ([] : Str), 0, ([] : List Bool)⟩ : Event), (⟨13, 0, 0, 0, ([] : Str), 9, ([] : List Bool)⟩ : Event), (⟨6, 0, 0, 0, ([] : Str), 0, ([] : List Bool)⟩ : Event), (⟨6, 1, 0, 0, ([] : Str), 0, ([] : List Bool)⟩ : Event), (⟨9, 0, 0, 0, ([] : Str), 0, ([] : List Bool)⟩ : Event), (⟨9, 1, 0, 0, ([] : Str), 0, ([] : List Bool)⟩ : Event)] : List Event) fun r8 => (f1 r8.n0 6 0 ([97, 98, 99, 100, 101, 102, 103, 104] : Str) fun r9 => (f2 r9.1 fun r10 => (f3 r9.1 0 fun r11 => (f4 r8.n1 0 ([97, 98, 99, 100, 101, 102, 103, 104] : Str) fun r12 => (bif ((r9.2.length : Int) != 1) then (K false) else (bif ((r10.2.length : Int) != 1) then (K false) else (bif ((r11.2.length : Int) != 2) then (K false) else (bif ((r12.2.length : Int) != 1) then (K false) else (bif (r2.1.store.sup.vector.current == 9) then (f5 fun r13 => (bif (r2.1.store.sup.vector.bitmap == r13) then (bif r2.1.minted then (bif (r2.1.store.mask == 2) then (bif r9.1.req.on then (oget (getI r9.2 0) fun v14 => (bif (v14.kind == 1) then (oget (getI r10.2 0) fun v15 => (bif ((v15.kind == 2) && ((v15.node == 0) && ((v15.id == 6) && ((v15.err == 0) && ((v15.data == ([] : Str)) && true))))) then (bif r10.1.minted then (bif (r10.1.state == 0) then (bif (!r11.1.req.on) then (bif (r11.1.store.mask == 0) then (oget (getI r11.2 0) fun v16 => (bif (v16.id == 6) then (K (r12.1.store.mask == 1)) else (K false))) else (K false)) else (K false)) else (K false)) else (K false)) else (K false))) else (K false))) else (K false)) else (K false)) else (K false)) else (K false))) else (K false))))))))))))))))))))))))
def F (K : Bool → Prop) : Prop := FV q127.F q168.F q169.F q172.F q173.F q0.F K
noncomputable def en : Entry := mkEntry A C fun _ => F
theorem eqv (f0 : q127.T) (f1 : q168.T) (f2 : q169.T) (f3 : q172.T) (f4 : q173.T) (f5 : q0.T) (K : Bool → Prop) : apure E (tabV f0 f1 f2 f3 f4 f5) (fun _ => none) 4 5 [] (ansK C K) = FV f0 f1 f2 f3 f4 f5 K := by kernel_rfl
theorem eq (x : Dens A) (K : Bool → Prop) : apure E tab (fun _ => none) 4 5 (encA A x) (ansK C K) = F K := eqv q127.F q168.F q169.F q172.F q173.F q0.F K
theorem loops : LoopsOk E tab (fun _ => none) 4 5 := loops_none _ _ _ _
theorem det : Det (F) := by
  unfold F FV
  repeat' with_reducible first | exact det_ret _ | exact det_false | refine det_cond _ ?_ ?_ | refine det_oget _ (fun _ => ?_) | refine det_bind (q127.det _ _) (fun _ => ?_) | refine det_bind (q168.det _ _ _ _) (fun _ => ?_) | refine det_bind (q169.det _) (fun _ => ?_) | refine det_bind (q172.det _ _) (fun _ => ?_) | refine det_bind (q173.det _ _ _) (fun _ => ?_) | refine det_bind (q0.det) (fun _ => ?_)
theorem edet (a : List AV) : Det (en a) := mkEntry_det (fun _ : Dens A => det) a
theorem ground : Ground E tab := ⟨num, mixed, (tab_cons q127.sound (tab_cons q168.sound (tab_cons q169.sound (tab_cons q172.sound (tab_cons q173.sound (tab_cons q0.sound (tab_nil _))))))), clone, (dtab_cons q127.edet (dtab_cons q168.edet (dtab_cons q169.edet (dtab_cons q172.edet (dtab_cons q173.edet (dtab_cons q0.edet dtab_nil)))))), stab⟩
theorem sound : EntrySound E 5 en := mkSound ground loops (by kernel_rfl) (eq)
end q174
namespace q175
abbrev A : List Ty := [(.slice (.st 12)), (.int .i64)]
abbrev C := (cTy .bool)
abbrev T : Type := (List Event) → Int → (Bool → Prop) → Prop
noncomputable def tab : Tab := []
structure R where
  t4 : Bool
def cR (x : R) : St := { fr := lookL .top [(4, (.bool x.t4))], hs := { hp := lookL .dead [], hn := 0 } }
def kR : Keep := { ks := [(4, none)], bs := [], hn := 0 }
structure L0 where
  l : (List Event)
  i : Int
def c0 (x : L0) : St := { fr := lookL .top [(0, (.sl .any (.st 12) x.l)), (5, (.int .i64 x.i))], hs := { hp := lookL .dead [], hn := 0 } }
def kp0 : Keep := { ks := [(0, none), (5, none)], bs := [], hn := 0 }
def p0 (st : St) (K : L0 → Prop) : Prop := gSl .any (.st 12) (st.fr 0) fun a1 => gInt .i64 (st.fr 5) fun a2 => K ⟨a1, a2⟩
set_option maxHeartbeats 4000000 in
theorem p0_ok (st : St) (K : L0 → Prop) (h : p0 st K) : ∃ x, keepSt kp0 st = c0 x ∧ K x := by
  obtain ⟨a1, h0, h⟩ := gSl_elim h
  obtain ⟨a2, h1, h⟩ := gInt_elim h
  refine ⟨_, ?_, h⟩
  simp only [keepSt, kp0, List.map, h0, h1]
  rfl
def b0 (rec kx : L0 → Prop) (kr : R → Prop) (x : L0) : Prop :=
  (bif (decide (x.i < (x.l.length : Int))) then (oget (getI x.l x.i) fun v1 => (bif (decide ((v1.data.length : Int) > 300)) then (kr ⟨true⟩) else (oget (getI x.l x.i) fun v2 => (bif (decide ((v2.keeps.length : Int) > 100)) then (kr ⟨true⟩) else (rec ⟨x.l, (IntKind.i64.wrap (x.i + 1))⟩))))) else (kx ⟨x.l, x.i⟩))
def lt : Nat → Option LSpec
  | 0 => some (mkLoop 0 kp0 kR p0 c0 cR b0)
  | _ => none
def F (l : (List Event)) (most : Int) (K : Bool → Prop) : Prop :=
  (bif (decide ((l.length : Int) > most)) then (K true) else (∃ n, loopB b0 n (fun x3 => (K false)) (fun r4 => (K r4.t4)) ⟨l, 0⟩))
noncomputable def en : Entry := mkEntry A C fun x => F x.1 x.2.1
theorem eqv (l : (List Event)) (most : Int) (K : Bool → Prop) : apure E tab lt 4 6 [enc (.slice (.st 12)) l, enc (.int .i64) most] (ansK C K) = F l most K := by kernel_rfl
theorem l0v (R : St → Prop) (Kx : Nat → St → Prop) (Kr : St → Prop) (x : L0) : acode E tab (afun E tab 4) 32 lt ((loopsIn E.P 6).getD 0 (0, .skip)).2 0 (fun s => R (keepSt kp0 s)) (fun j s => Kx j (keepSt kp0 s)) (fun s => Kr (keepSt kR s)) (c0 x) = b0 (fun x => R (c0 x)) (fun x => Kx 0 (c0 x)) (fun r => Kr (cR r)) x := by kernel_rfl
theorem l0_ok : LSound E tab (afun E tab 4) 32 lt 0 ((loopsIn E.P 6).getD 0 (0, .skip)).2 (mkLoop 0 kp0 kR p0 c0 cR b0) := mkLoop_sound (by decide) (by decide) p0_ok (fun R Kx Kr x => l0v  R Kx Kr x)
theorem loops : LoopsOk E tab lt 4 6 := loops_of (nt := 32) (ids := [0]) (by kernel_rfl) (by kernel_rfl) (by
  intro k i hk l hl
  match k, hk with
  | 0, hk => cases hk; cases hl; exact l0_ok
  | _ + 1, hk => exact absurd hk (by simp))
theorem det (l : (List Event)) (most : Int) : Det (F l most) := by
  unfold F
  repeat' with_reducible first | exact det_ret _ | exact det_false | refine det_cond _ ?_ ?_ | refine det_oget _ (fun _ => ?_) | refine det_loop (fun _ => ?_) (fun _ => ?_) (fun _ => ?_) _ | unfold b0
theorem edet (a : List AV) : Det (en a) := mkEntry_det (fun x : Dens A => det x.1 x.2.1) a
theorem ground : Ground E tab := ⟨num, mixed, (tab_nil _), clone, dtab_nil, stab⟩
theorem sound : EntrySound E 6 en := mkSound ground loops (by kernel_rfl) (fun (x : Dens A) K => eqv  x.1 x.2.1 K)
end q175
namespace q176
abbrev A : List Ty := [(.st 16)]
abbrev C := (cTy (.int .i64))
abbrev T : Type := Case → (Int → Prop) → Prop
noncomputable def tab : Tab := []
def F (c : Case) (K : Int → Prop) : Prop :=
  (bif c.side then (K 1) else (K 0))
noncomputable def en : Entry := mkEntry A C fun x => F x.1
theorem eqv (c : Case) (K : Int → Prop) : apure E tab (fun _ => none) 4 20 [enc (.st 16) c] (ansK C K) = F c K := by kernel_rfl
theorem eq (x : Dens A) (K : Int → Prop) : apure E tab (fun _ => none) 4 20 (encA A x) (ansK C K) = F x.1 K := eqv  x.1 K
theorem loops : LoopsOk E tab (fun _ => none) 4 20 := loops_none _ _ _ _
theorem det (c : Case) : Det (F c) := by
  unfold F
  repeat' with_reducible first | exact det_ret _ | exact det_false | refine det_cond _ ?_ ?_ | refine det_oget _ (fun _ => ?_)
theorem edet (a : List AV) : Det (en a) := mkEntry_det (fun x : Dens A => det x.1) a
theorem ground : Ground E tab := ⟨num, mixed, (tab_nil _), clone, dtab_nil, stab⟩
theorem sound : EntrySound E 20 en := mkSound ground loops (by kernel_rfl) (eq)
end q176
namespace q177
abbrev A : List Ty := [(.st 16)]
abbrev C := (cTy (.st 13))
abbrev T : Type := Case → (Node → Prop) → Prop
noncomputable def tabV (f0 : q127.T) (f1 : q176.T) : Tab := [(15, mkEntry q127.A q127.C fun x => f0 x.1 x.2.1), (20, mkEntry q176.A q176.C fun x => f1 x.1)]
noncomputable def tab : Tab := tabV q127.F q176.F
def FV (f0 : q127.T) (f1 : q176.T) (c : Case) (K : Node → Prop) : Prop :=
  (f0 c.blocks c.l fun r1 => (f1 c fun r2 => (bif (r2 == 0) then (K r1.n0) else (bif (r2 == 1) then (K r1.n1) else False))))
def F (c : Case) (K : Node → Prop) : Prop := FV q127.F q176.F c K
noncomputable def en : Entry := mkEntry A C fun x => F x.1
theorem eqv (f0 : q127.T) (f1 : q176.T) (c : Case) (K : Node → Prop) : apure E (tabV f0 f1) (fun _ => none) 4 7 [enc (.st 16) c] (ansK C K) = FV f0 f1 c K := by kernel_rfl
theorem eq (x : Dens A) (K : Node → Prop) : apure E tab (fun _ => none) 4 7 (encA A x) (ansK C K) = F x.1 K := eqv q127.F q176.F x.1 K
theorem loops : LoopsOk E tab (fun _ => none) 4 7 := loops_none _ _ _ _
theorem det (c : Case) : Det (F c) := by
  unfold F FV
  repeat' with_reducible first | exact det_ret _ | exact det_false | refine det_cond _ ?_ ?_ | refine det_oget _ (fun _ => ?_) | refine det_bind (q127.det _ _) (fun _ => ?_) | refine det_bind (q176.det _) (fun _ => ?_)
theorem edet (a : List AV) : Det (en a) := mkEntry_det (fun x : Dens A => det x.1) a
theorem ground : Ground E tab := ⟨num, mixed, (tab_cons q127.sound (tab_cons q176.sound (tab_nil _))), clone, (dtab_cons q127.edet (dtab_cons q176.edet dtab_nil)), stab⟩
theorem sound : EntrySound E 7 en := mkSound ground loops (by kernel_rfl) (eq)
end q177
namespace q178
abbrev A : List Ty := [(.st 16), (.st 18), (.int .u8)]
abbrev C := (cTy .bool)
abbrev T : Type := Case → PairI → Int → (Bool → Prop) → Prop
noncomputable def tabV (f0 : q174.T) (f1 : q175.T) (f2 : q177.T) (f3 : q67.T) (f4 : q124.T) (f5 : q168.T) (f6 : q61.T) (f7 : q23.T) (f8 : q42.T) (f9 : q36.T) : Tab := [(5, mkEntry q174.A q174.C fun _ => f0), (6, mkEntry q175.A q175.C fun x => f1 x.1 x.2.1), (7, mkEntry q177.A q177.C fun x => f2 x.1), (8, mkEntry q67.A q67.C fun x => f3 x.1 x.2.1), (9, mkEntry q124.A q124.C fun x => f4 x.1 x.2.1), (10, mkEntry q168.A q168.C fun x => f5 x.1 x.2.1 x.2.2.1 x.2.2.2.1), (13, mkEntry q61.A q61.C fun x => f6 x.1), (12, mkEntry q23.A q23.C fun x => f7 x.1 x.2.1), (11, mkEntry q42.A q42.C fun x => f8 x.1), (14, mkEntry q36.A q36.C fun x => f9 x.1 x.2.1)]
noncomputable def tab : Tab := tabV q174.F q175.F q177.F q67.F q124.F q168.F q61.F q23.F q42.F q36.F
structure R where
  t6 : Bool
def cR (x : R) : St := { fr := lookL .top [(6, (.bool x.t6))], hs := { hp := lookL .dead [], hn := 5 } }
def kR : Keep := { ks := [(6, none)], bs := [], hn := 5 }
structure L0 where
  was : Str
  e : Int
  out : (List Outp)
  i : Int
  m1 : Int
  m1_1 : Int
  m3 : Node
def c0 (x : L0) : St := { fr := lookL .top [(4, (.ptr 1 0)), (8, (.str x.was)), (9, (.int .i64 x.e)), (10, (.ptr 3 0)), (11, (.sl .any (.st 11) x.out)), (12, (.int .i64 x.i))], hs := { hp := lookL .dead [(1, (.cells [(.int .i64 x.m1), (.int .i64 x.m1_1)])), (3, (.cells [(.int .i64 x.m3.id), (.bool x.m3.up), (.sl .any .str x.m3.store.disk.sure), (.sl .any (.st 0) x.m3.store.disk.cache), (.int .i64 x.m3.store.disk.fuse), (.bool x.m3.store.disk.dead), (.int .i64 x.m3.store.sup.blocks), (.int .u64 x.m3.store.sup.vector.current), (.int .u64 x.m3.store.sup.vector.bitmap), (.int .u64 x.m3.store.sup.vector.old0), (.int .u64 x.m3.store.sup.vector.old1), (.bool x.m3.store.sup.inc), (.bool x.m3.store.sup.pri), (.bool x.m3.store.sup.dis), (.int .u32 x.m3.store.mask), (.bool x.m3.primary), (.int .i64 x.m3.state), (.int .u64 x.m3.session), (.int .i64 x.m3.peer.blocks), (.int .u64 x.m3.peer.vector.current), (.int .u64 x.m3.peer.vector.bitmap), (.int .u64 x.m3.peer.vector.old0), (.int .u64 x.m3.peer.vector.old1), (.bool x.m3.peer.inc), (.bool x.m3.peer.was), (.bool x.m3.peer.dis), (.bool x.m3.peer.pri), (.int .u32 x.m3.peer.mask), (.bool x.m3.peerPri), (.bool x.m3.req.on), (.int .i64 x.m3.req.id), (.int .i64 x.m3.req.block), (.str x.m3.req.data), (.bool x.m3.asking), (.int .i64 x.m3.askId), (.int .i64 x.m3.wanted), (.bool x.m3.minted), (.sl .any (.int .u64) x.m3.draws), (.sl .any (.st 10) x.m3.mints)]))], hn := 4 } }
def kp0 : Keep := { ks := [(4, none), (8, none), (9, none), (10, none), (11, none), (12, none)], bs := [1, 3], hn := 4, ts := [(3, 13)] }
def p0 (st : St) (K : L0 → Prop) : Prop := gPtr 1 0 (st.fr 4) <| gStr (st.fr 8) fun a1 => gInt .i64 (st.fr 9) fun a2 => gPtr 3 0 (st.fr 10) <| gSl .any (.st 11) (st.fr 11) fun a3 => gInt .i64 (st.fr 12) fun a4 => gCells (st.hs.hp 1) fun c5 => gCons c5 fun c6 c7 => gInt .i64 c6 fun a8 => gCons c7 fun c9 c10 => gInt .i64 c9 fun a11 => gNil c10 <| gBlkS 13 (st.hs.hp 3) fun a12 => K ⟨a1, a2, a3, a4, a8, a11, a12⟩
set_option maxHeartbeats 4000000 in
theorem p0_ok (st : St) (K : L0 → Prop) (h : p0 st K) : ∃ x, keepSt kp0 st = c0 x ∧ K x := by
  obtain ⟨h0, h⟩ := gPtr_elim h
  obtain ⟨a1, h1, h⟩ := gStr_elim h
  obtain ⟨a2, h2, h⟩ := gInt_elim h
  obtain ⟨h3, h⟩ := gPtr_elim h
  obtain ⟨a3, h4, h⟩ := gSl_elim h
  obtain ⟨a4, h5, h⟩ := gInt_elim h
  obtain ⟨c5, h6, h⟩ := gCells_elim h
  obtain ⟨c6, c7, h7, h⟩ := gCons_elim h
  obtain ⟨a8, h8, h⟩ := gInt_elim h
  obtain ⟨c9, c10, h9, h⟩ := gCons_elim h
  obtain ⟨a11, h10, h⟩ := gInt_elim h
  obtain ⟨h11, h⟩ := gNil_elim h
  obtain ⟨z12, a12, h12, y12, h⟩ := gBlkS_elim h
  have q12 : ∀ ok, keptB kp0 ok 3 (.cells z12) = .cells (encS 13 a12) := fun _ => y12
  simp only [kp0] at q12
  refine ⟨_, ?_, h⟩
  subst h7
  subst h8
  subst h9
  subst h10
  subst h11
  simp only [keepSt, kp0, List.map, h0, h1, h2, h3, h4, h5, h6, h12, q12]
  rfl
def b0V (f0 : q174.T) (f1 : q175.T) (f2 : q177.T) (f3 : q67.T) (f4 : q124.T) (f5 : q168.T) (f6 : q61.T) (f7 : q23.T) (f8 : q42.T) (f9 : q36.T) (rec kx : L0 → Prop) (kr : R → Prop) (x : L0) : Prop :=
  (bif (decide (x.i < 2)) then (f6 x.m3.store.disk fun r7 => (f7 r7 ([(x.i == 1), (x.i == 1), (x.i == 1), (x.i == 1), (x.i == 1), (x.i == 1)] : List Bool) fun r8 => (f8 r8 fun r9 => (bif (r9.2 != 0) then (kr ⟨false⟩) else (f3 r9.1 x.m1_1 fun r10 => (bif (x.e != r10.2) then (kr ⟨false⟩) else (bif (!(r10.1 == x.was)) then (bif (!(r10.1 == ([122, 122, 122, 122, 122, 122, 122, 122] : Str))) then (kr ⟨false⟩) else (f9 r9.1.mask x.m1_1 fun r11 => (bif (!r11) then (kr ⟨false⟩) else (bif ((x.out.length : Int) == 1) then (oget (getI x.out 0) fun v12 => (bif (v12.kind == 2) then (oget (getI x.out 0) fun v13 => (bif (v13.err == 0) then (bif (!(r10.1 == ([122, 122, 122, 122, 122, 122, 122, 122] : Str))) then (kr ⟨false⟩) else (rec ⟨x.was, x.e, x.out, (IntKind.i64.wrap (x.i + 1)), x.m1, x.m1_1, x.m3⟩)) else (rec ⟨x.was, x.e, x.out, (IntKind.i64.wrap (x.i + 1)), x.m1, x.m1_1, x.m3⟩))) else (rec ⟨x.was, x.e, x.out, (IntKind.i64.wrap (x.i + 1)), x.m1, x.m1_1, x.m3⟩))) else (rec ⟨x.was, x.e, x.out, (IntKind.i64.wrap (x.i + 1)), x.m1, x.m1_1, x.m3⟩))))) else (bif ((x.out.length : Int) == 1) then (oget (getI x.out 0) fun v14 => (bif (v14.kind == 2) then (oget (getI x.out 0) fun v15 => (bif (v15.err == 0) then (bif (!(r10.1 == ([122, 122, 122, 122, 122, 122, 122, 122] : Str))) then (kr ⟨false⟩) else (rec ⟨x.was, x.e, x.out, (IntKind.i64.wrap (x.i + 1)), x.m1, x.m1_1, x.m3⟩)) else (rec ⟨x.was, x.e, x.out, (IntKind.i64.wrap (x.i + 1)), x.m1, x.m1_1, x.m3⟩))) else (rec ⟨x.was, x.e, x.out, (IntKind.i64.wrap (x.i + 1)), x.m1, x.m1_1, x.m3⟩))) else (rec ⟨x.was, x.e, x.out, (IntKind.i64.wrap (x.i + 1)), x.m1, x.m1_1, x.m3⟩))))))))) else (kx ⟨x.was, x.e, x.out, x.i, x.m1, x.m1_1, x.m3⟩))
def ltV (f0 : q174.T) (f1 : q175.T) (f2 : q177.T) (f3 : q67.T) (f4 : q124.T) (f5 : q168.T) (f6 : q61.T) (f7 : q23.T) (f8 : q42.T) (f9 : q36.T) : Nat → Option LSpec
  | 0 => some (mkLoop 0 kp0 kR p0 c0 cR (b0V f0 f1 f2 f3 f4 f5 f6 f7 f8 f9))
  | _ => none
def lt : Nat → Option LSpec := ltV q174.F q175.F q177.F q67.F q124.F q168.F q61.F q23.F q42.F q36.F
def FV (f0 : q174.T) (f1 : q175.T) (f2 : q177.T) (f3 : q67.T) (f4 : q124.T) (f5 : q168.T) (f6 : q61.T) (f7 : q23.T) (f8 : q42.T) (f9 : q36.T) (c : Case) (two : PairI) (fuse : Int) (K : Bool → Prop) : Prop :=
  (f0 fun r1 => (bif (!r1) then (K false) else (f1 c.l 60 fun r2 => (bif r2 then (K true) else (f2 c fun r3 => (bif (!r3.up) then (K true) else (f3 r3.store two.b fun r4 => (bif (9 == 0) then False else (f4 r3.store.disk (IntKind.i64.wrap (fuse.tmod 9)) fun r5 => (f5 (⟨r3.id, r3.up, (⟨r5, r3.store.sup, r3.store.mask⟩ : Store), r3.primary, r3.state, r3.session, r3.peer, r3.peerPri, r3.req, r3.asking, r3.askId, r3.wanted, r3.minted, r3.draws, r3.mints⟩ : Node) two.a two.b ([122, 122, 122, 122, 122, 122, 122, 122] : Str) fun r6 => (∃ n, loopB (b0V f0 f1 f2 f3 f4 f5 f6 f7 f8 f9) n (fun x16 => (K true)) (fun r17 => (K r17.t6)) ⟨r4.1, r4.2, r6.2, 0, two.a, two.b, r6.1⟩)))))))))))
def F (c : Case) (two : PairI) (fuse : Int) (K : Bool → Prop) : Prop := FV q174.F q175.F q177.F q67.F q124.F q168.F q61.F q23.F q42.F q36.F c two fuse K
noncomputable def en : Entry := mkEntry A C fun x => F x.1 x.2.1 x.2.2.1
theorem eqv (f0 : q174.T) (f1 : q175.T) (f2 : q177.T) (f3 : q67.T) (f4 : q124.T) (f5 : q168.T) (f6 : q61.T) (f7 : q23.T) (f8 : q42.T) (f9 : q36.T) (c : Case) (two : PairI) (fuse : Int) (K : Bool → Prop) : apure E (tabV f0 f1 f2 f3 f4 f5 f6 f7 f8 f9) (ltV f0 f1 f2 f3 f4 f5 f6 f7 f8 f9) 4 3 [enc (.st 16) c, enc (.st 18) two, enc (.int .u8) fuse] (ansK C K) = FV f0 f1 f2 f3 f4 f5 f6 f7 f8 f9 c two fuse K := by kernel_rfl
theorem eq (x : Dens A) (K : Bool → Prop) : apure E tab lt 4 3 (encA A x) (ansK C K) = F x.1 x.2.1 x.2.2.1 K := eqv q174.F q175.F q177.F q67.F q124.F q168.F q61.F q23.F q42.F q36.F x.1 x.2.1 x.2.2.1 K
theorem l0v (f0 : q174.T) (f1 : q175.T) (f2 : q177.T) (f3 : q67.T) (f4 : q124.T) (f5 : q168.T) (f6 : q61.T) (f7 : q23.T) (f8 : q42.T) (f9 : q36.T) (R : St → Prop) (Kx : Nat → St → Prop) (Kr : St → Prop) (x : L0) : acode E (tabV f0 f1 f2 f3 f4 f5 f6 f7 f8 f9) (afun E (tabV f0 f1 f2 f3 f4 f5 f6 f7 f8 f9) 4) 129 (ltV f0 f1 f2 f3 f4 f5 f6 f7 f8 f9) ((loopsIn E.P 3).getD 0 (0, .skip)).2 0 (fun s => R (keepSt kp0 s)) (fun j s => Kx j (keepSt kp0 s)) (fun s => Kr (keepSt kR s)) (c0 x) = b0V f0 f1 f2 f3 f4 f5 f6 f7 f8 f9 (fun x => R (c0 x)) (fun x => Kx 0 (c0 x)) (fun r => Kr (cR r)) x := by kernel_rfl
theorem l0_ok : LSound E tab (afun E tab 4) 129 lt 0 ((loopsIn E.P 3).getD 0 (0, .skip)).2 (mkLoop 0 kp0 kR p0 c0 cR (b0V q174.F q175.F q177.F q67.F q124.F q168.F q61.F q23.F q42.F q36.F)) := mkLoop_sound (by decide) (by decide) p0_ok (fun R Kx Kr x => l0v q174.F q175.F q177.F q67.F q124.F q168.F q61.F q23.F q42.F q36.F R Kx Kr x)
theorem loops : LoopsOk E tab lt 4 3 := loops_of (nt := 129) (ids := [0]) (by kernel_rfl) (by kernel_rfl) (by
  intro k i hk l hl
  match k, hk with
  | 0, hk => cases hk; cases hl; exact l0_ok
  | _ + 1, hk => exact absurd hk (by simp))
theorem det (c : Case) (two : PairI) (fuse : Int) : Det (F c two fuse) := by
  unfold F FV
  repeat' with_reducible first | exact det_ret _ | exact det_false | refine det_cond _ ?_ ?_ | refine det_oget _ (fun _ => ?_) | refine det_bind (q174.det) (fun _ => ?_) | refine det_bind (q175.det _ _) (fun _ => ?_) | refine det_bind (q177.det _) (fun _ => ?_) | refine det_bind (q67.det _ _) (fun _ => ?_) | refine det_bind (q124.det _ _) (fun _ => ?_) | refine det_bind (q168.det _ _ _ _) (fun _ => ?_) | refine det_bind (q61.det _) (fun _ => ?_) | refine det_bind (q23.det _ _) (fun _ => ?_) | refine det_bind (q42.det _) (fun _ => ?_) | refine det_bind (q36.det _ _) (fun _ => ?_) | refine det_loop (fun _ => ?_) (fun _ => ?_) (fun _ => ?_) _ | unfold b0V
theorem edet (a : List AV) : Det (en a) := mkEntry_det (fun x : Dens A => det x.1 x.2.1 x.2.2.1) a
theorem ground : Ground E tab := ⟨num, mixed, (tab_cons q174.sound (tab_cons q175.sound (tab_cons q177.sound (tab_cons q67.sound (tab_cons q124.sound (tab_cons q168.sound (tab_cons q61.sound (tab_cons q23.sound (tab_cons q42.sound (tab_cons q36.sound (tab_nil _))))))))))), clone, (dtab_cons q174.edet (dtab_cons q175.edet (dtab_cons q177.edet (dtab_cons q67.edet (dtab_cons q124.edet (dtab_cons q168.edet (dtab_cons q61.edet (dtab_cons q23.edet (dtab_cons q42.edet (dtab_cons q36.edet dtab_nil)))))))))), stab⟩
theorem sound : EntrySound E 3 en := mkSound ground loops (by kernel_rfl) (eq)
end q178
namespace q179
abbrev A : List Ty := [(.st 16), (.st 18), .str]
abbrev C := (cTy .bool)
abbrev T : Type := Case → PairI → Str → (Bool → Prop) → Prop
noncomputable def tabV (f0 : q174.T) (f1 : q175.T) (f2 : q177.T) (f3 : q168.T) : Tab := [(5, mkEntry q174.A q174.C fun _ => f0), (6, mkEntry q175.A q175.C fun x => f1 x.1 x.2.1), (7, mkEntry q177.A q177.C fun x => f2 x.1), (10, mkEntry q168.A q168.C fun x => f3 x.1 x.2.1 x.2.2.1 x.2.2.2.1)]
noncomputable def tab : Tab := tabV q174.F q175.F q177.F q168.F
def FV (f0 : q174.T) (f1 : q175.T) (f2 : q177.T) (f3 : q168.T) (c : Case) (two : PairI) (data : Str) (K : Bool → Prop) : Prop :=
  (f0 fun r1 => (bif (!r1) then (K false) else (f1 c.l 60 fun r2 => (bif r2 then (K true) else (bif (decide ((data.length : Int) > 100)) then (K true) else (f2 c fun r3 => (f3 r3 two.a two.b data fun r4 => (bif ((r4.2.length : Int) != 1) then (K true) else (oget (getI r4.2 0) fun v5 => (bif (v5.kind != 2) then (K true) else (oget (getI r4.2 0) fun v6 => (bif (v6.err != 0) then (K true) else (f3 r4.1 two.a two.b data fun r7 => (bif ((r7.1.mints.length : Int) != (r4.1.mints.length : Int)) then (K false) else (bif (!r4.1.minted) then (K false) else (bif r3.minted then (bif ((r4.1.mints.length : Int) == (r3.mints.length : Int)) then (K ((r4.1.store.sup.blocks == r3.store.sup.blocks) && (((r4.1.store.sup.vector.current == r3.store.sup.vector.current) && ((r4.1.store.sup.vector.bitmap == r3.store.sup.vector.bitmap) && (((r4.1.store.sup.vector.old0 == r3.store.sup.vector.old0) && ((r4.1.store.sup.vector.old1 == r3.store.sup.vector.old1) && true)) && true))) && ((r4.1.store.sup.inc == r3.store.sup.inc) && ((r4.1.store.sup.pri == r3.store.sup.pri) && ((r4.1.store.sup.dis == r3.store.sup.dis) && true)))))) else (K false)) else (bif ((r4.1.mints.length : Int) == (IntKind.i64.wrap ((r3.mints.length : Int) + 1))) then (bif (decide ((r3.draws.length : Int) > 0)) then (oget (getI r4.1.mints (r3.mints.length : Int)) fun v8 => (oget (getI r3.draws 0) fun v9 => (bif ((v8.gen == v9) && ((v8.parent == r3.store.sup.vector.current) && ((v8.node == r3.id) && true))) then (oget (getI r3.draws 0) fun v10 => (K (r4.1.store.sup.vector.current == v10))) else (K false)))) else (K false)) else (K false))))))))))))))))))
def F (c : Case) (two : PairI) (data : Str) (K : Bool → Prop) : Prop := FV q174.F q175.F q177.F q168.F c two data K
noncomputable def en : Entry := mkEntry A C fun x => F x.1 x.2.1 x.2.2.1
theorem eqv (f0 : q174.T) (f1 : q175.T) (f2 : q177.T) (f3 : q168.T) (c : Case) (two : PairI) (data : Str) (K : Bool → Prop) : apure E (tabV f0 f1 f2 f3) (fun _ => none) 4 4 [enc (.st 16) c, enc (.st 18) two, enc .str data] (ansK C K) = FV f0 f1 f2 f3 c two data K := by kernel_rfl
theorem eq (x : Dens A) (K : Bool → Prop) : apure E tab (fun _ => none) 4 4 (encA A x) (ansK C K) = F x.1 x.2.1 x.2.2.1 K := eqv q174.F q175.F q177.F q168.F x.1 x.2.1 x.2.2.1 K
theorem loops : LoopsOk E tab (fun _ => none) 4 4 := loops_none _ _ _ _
theorem det (c : Case) (two : PairI) (data : Str) : Det (F c two data) := by
  unfold F FV
  repeat' with_reducible first | exact det_ret _ | exact det_false | refine det_cond _ ?_ ?_ | refine det_oget _ (fun _ => ?_) | refine det_bind (q174.det) (fun _ => ?_) | refine det_bind (q175.det _ _) (fun _ => ?_) | refine det_bind (q177.det _) (fun _ => ?_) | refine det_bind (q168.det _ _ _ _) (fun _ => ?_)
theorem edet (a : List AV) : Det (en a) := mkEntry_det (fun x : Dens A => det x.1 x.2.1 x.2.2.1) a
theorem ground : Ground E tab := ⟨num, mixed, (tab_cons q174.sound (tab_cons q175.sound (tab_cons q177.sound (tab_cons q168.sound (tab_nil _))))), clone, (dtab_cons q174.edet (dtab_cons q175.edet (dtab_cons q177.edet (dtab_cons q168.edet dtab_nil)))), stab⟩
theorem sound : EntrySound E 4 en := mkSound ground loops (by kernel_rfl) (eq)
end q179
end Gm
