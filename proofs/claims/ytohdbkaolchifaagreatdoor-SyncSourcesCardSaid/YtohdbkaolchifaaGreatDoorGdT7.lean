/- Printed by a program (gen.py): the functions' answers, and that they are so. -/
import Derived.Test.YtohdbkaolchifaaGreatDoorGdT6
set_option linter.unusedVariables false
set_option maxRecDepth 100000
namespace Gm
open Go Go.Proofs
namespace q178
abbrev A : List Ty := [(.slice (.st 10)), (.slice (.st 10))]
abbrev C := (cTy .bool)
abbrev T : Type := (List Mint) → (List Mint) → (Bool → Prop) → Prop
noncomputable def tab : Tab := []
structure R where
  t4 : Bool
def cR (x : R) : St := { fr := lookL .top [(4, (.bool x.t4))], hs := { hp := lookL .dead [], hn := 0 } }
def kR : Keep := { ks := [(4, none)], bs := [], hn := 0 }
structure L0 where
  a : (List Mint)
  b0 : (List Mint)
  i : Int
def c0 (x : L0) : St := { fr := lookL .top [(0, (.sl .any (.st 10) x.a)), (1, (.sl .any (.st 10) x.b0)), (5, (.int .i64 x.i))], hs := { hp := lookL .dead [], hn := 0 } }
def kp0 : Keep := { ks := [(0, none), (1, none), (5, none)], bs := [], hn := 0 }
def p0 (st : St) (K : L0 → Prop) : Prop := gSl .any (.st 10) (st.fr 0) fun a1 => gSl .any (.st 10) (st.fr 1) fun a2 => gInt .i64 (st.fr 5) fun a3 => K ⟨a1, a2, a3⟩
set_option maxHeartbeats 4000000 in
theorem p0_ok (st : St) (K : L0 → Prop) (h : p0 st K) : ∃ x, keepSt kp0 st = c0 x ∧ K x := by
  obtain ⟨a1, h0, h⟩ := gSl_elim h
  obtain ⟨a2, h1, h⟩ := gSl_elim h
  obtain ⟨a3, h2, h⟩ := gInt_elim h
  refine ⟨_, ?_, h⟩
  simp only [keepSt, kp0, List.map, h0, h1, h2]
  rfl
def b0 (rec kx : L0 → Prop) (kr : R → Prop) (x : L0) : Prop :=
  (bif (decide (x.i < (x.a.length : Int))) then (oget (getI x.a x.i) fun v1 => (oget (getI x.b0 x.i) fun v2 => (bif (!((v1.gen == v2.gen) && ((v1.parent == v2.parent) && ((v1.node == v2.node) && true)))) then (kr ⟨false⟩) else (rec ⟨x.a, x.b0, (IntKind.i64.wrap (x.i + 1))⟩)))) else (kx ⟨x.a, x.b0, x.i⟩))
def lt : Nat → Option LSpec
  | 0 => some (mkLoop 0 kp0 kR p0 c0 cR b0)
  | _ => none
def F (a : (List Mint)) (b_1 : (List Mint)) (K : Bool → Prop) : Prop :=
  (bif ((a.length : Int) != (b_1.length : Int)) then (K false) else (∃ n, loopB b0 n (fun x3 => (K true)) (fun r4 => (K r4.t4)) ⟨a, b_1, 0⟩))
noncomputable def en : Entry := mkEntry A C fun x => F x.1 x.2.1
theorem eqv (a : (List Mint)) (b_1 : (List Mint)) (K : Bool → Prop) : apure E tab lt 4 76 [enc (.slice (.st 10)) a, enc (.slice (.st 10)) b_1] (ansK C K) = F a b_1 K := by kernel_rfl
theorem l0v (R : St → Prop) (Kx : Nat → St → Prop) (Kr : St → Prop) (x : L0) : acode E tab (afun E tab 4) 26 lt ((loopsIn E.P 76).getD 0 (0, .skip)).2 0 (fun s => R (keepSt kp0 s)) (fun j s => Kx j (keepSt kp0 s)) (fun s => Kr (keepSt kR s)) (c0 x) = b0 (fun x => R (c0 x)) (fun x => Kx 0 (c0 x)) (fun r => Kr (cR r)) x := by kernel_rfl
theorem l0_ok : LSound E tab (afun E tab 4) 26 lt 0 ((loopsIn E.P 76).getD 0 (0, .skip)).2 (mkLoop 0 kp0 kR p0 c0 cR b0) := mkLoop_sound (by decide) (by decide) p0_ok (fun R Kx Kr x => l0v  R Kx Kr x)
theorem loops : LoopsOk E tab lt 4 76 := loops_of (nt := 26) (ids := [0]) (by kernel_rfl) (by kernel_rfl) (by
  intro k i hk l hl
  match k, hk with
  | 0, hk => cases hk; cases hl; exact l0_ok
  | _ + 1, hk => exact absurd hk (by simp))
theorem det (a : (List Mint)) (b_1 : (List Mint)) : Det (F a b_1) := by
  unfold F
  repeat' with_reducible first | exact det_ret _ | refine det_cond _ ?_ ?_ | refine det_oget _ (fun _ => ?_) | refine det_loop (fun _ => ?_) (fun _ => ?_) (fun _ => ?_) _ | unfold b0
theorem edet (a : List AV) : Det (en a) := mkEntry_det (fun x : Dens A => det x.1 x.2.1) a
theorem ground : Ground E tab := ⟨num, mixed, (tab_nil _), clone, dtab_nil, stab⟩
theorem sound : EntrySound E 76 en := mkSound ground loops (by kernel_rfl) (fun (x : Dens A) K => eqv  x.1 x.2.1 K)
end q178
namespace q179
abbrev A : List Ty := [(.st 13), (.st 13)]
abbrev C := (cTy .bool)
abbrev T : Type := Node → Node → (Bool → Prop) → Prop
noncomputable def tv (f0 : q176.T) (f1 : q177.T) (f2 : q178.T) : Tab := [(74, mkEntry q176.A q176.C fun x => f0 x.1 x.2.1), (75, mkEntry q177.A q177.C fun x => f1 x.1 x.2.1), (76, mkEntry q178.A q178.C fun x => f2 x.1 x.2.1)]
noncomputable def tab : Tab := tv q176.F q177.F q178.F
def FV (f0 : q176.T) (f1 : q177.T) (f2 : q178.T) (a : Node) (b_1 : Node) (K : Bool → Prop) : Prop :=
  (f0 a.store b_1.store fun r1 => (bif (!r1) then (K false) else (f1 a.draws b_1.draws fun r2 => (bif (!r2) then (K false) else (f2 a.mints b_1.mints fun r3 => (bif (!r3) then (K false) else (bif (a.id == b_1.id) then (bif (a.up == b_1.up) then (bif (a.primary == b_1.primary) then (bif (a.state == b_1.state) then (bif (a.session == b_1.session) then (bif ((a.peer.blocks == b_1.peer.blocks) && (((a.peer.vector.current == b_1.peer.vector.current) && ((a.peer.vector.bitmap == b_1.peer.vector.bitmap) && (((a.peer.vector.old0 == b_1.peer.vector.old0) && ((a.peer.vector.old1 == b_1.peer.vector.old1) && true)) && true))) && ((a.peer.inc == b_1.peer.inc) && ((a.peer.was == b_1.peer.was) && ((a.peer.dis == b_1.peer.dis) && ((a.peer.pri == b_1.peer.pri) && ((a.peer.mask == b_1.peer.mask) && true))))))) then (bif (a.peerPri == b_1.peerPri) then (bif ((a.req.on == b_1.req.on) && ((a.req.id == b_1.req.id) && ((a.req.block == b_1.req.block) && ((a.req.data == b_1.req.data) && true)))) then (bif (a.asking == b_1.asking) then (bif (a.askId == b_1.askId) then (bif (a.wanted == b_1.wanted) then (K (a.minted == b_1.minted)) else (K false)) else (K false)) else (K false)) else (K false)) else (K false)) else (K false)) else (K false)) else (K false)) else (K false)) else (K false)) else (K false))))))))
def F (a : Node) (b_1 : Node) (K : Bool → Prop) : Prop := FV q176.F q177.F q178.F a b_1 K
noncomputable def en : Entry := mkEntry A C fun x => F x.1 x.2.1
theorem eqv (f0 : q176.T) (f1 : q177.T) (f2 : q178.T) (a : Node) (b_1 : Node) (K : Bool → Prop) : apure E (tv f0 f1 f2) (fun _ => none) 4 20 [enc (.st 13) a, enc (.st 13) b_1] (ansK C K) = FV f0 f1 f2 a b_1 K := by kernel_rfl
theorem loops : LoopsOk E tab (fun _ => none) 4 20 := loops_none _ _ _ _
theorem det (a : Node) (b_1 : Node) : Det (F a b_1) := by
  unfold F FV
  repeat' with_reducible first | exact det_ret _ | refine det_cond _ ?_ ?_ | refine det_bind (q176.det _ _) (fun _ => ?_) | refine det_bind (q177.det _ _) (fun _ => ?_) | refine det_bind (q178.det _ _) (fun _ => ?_)
theorem edet (a : List AV) : Det (en a) := mkEntry_det (fun x : Dens A => det x.1 x.2.1) a
theorem ground : Ground E tab := ⟨num, mixed, (tab_cons q176.sound (tab_cons q177.sound (tab_cons q178.sound (tab_nil _)))), clone, (dtab_cons q176.edet (dtab_cons q177.edet (dtab_cons q178.edet dtab_nil))), stab⟩
theorem sound : EntrySound E 20 en := mkSound ground loops (by kernel_rfl) (fun (x : Dens A) K => eqv q176.F q177.F q178.F x.1 x.2.1 K)
end q179
namespace q180
abbrev A : List Ty := []
abbrev C := (cTy .bool)
abbrev T : Type := (Bool → Prop) → Prop
noncomputable def tv (f0 : q127.T) (f1 : q148.T) (f2 : q170.T) (f3 : q171.T) (f4 : q172.T) (f5 : q173.T) (f6 : q174.T) (f7 : q91.T) (f8 : q9.T) (f9 : q179.T) : Tab := [(62, mkEntry q127.A q127.C fun _ => f0), (24, mkEntry q148.A q148.C fun x => f1 x.1 x.2.1), (18, mkEntry q170.A q170.C fun x => f2 x.1 x.2.1 x.2.2.1), (26, mkEntry q171.A q171.C fun x => f3 x.1 x.2.1), (28, mkEntry q172.A q172.C fun x => f4 x.1), (22, mkEntry q173.A q173.C fun x => f5 x.1), (16, mkEntry q174.A q174.C fun x => f6 x.1), (63, mkEntry q91.A q91.C fun x => f7 x.1), (64, mkEntry q9.A q9.C fun _ => f8), (20, mkEntry q179.A q179.C fun x => f9 x.1 x.2.1)]
noncomputable def tab : Tab := tv q127.F q148.F q170.F q171.F q172.F q173.F q174.F q91.F q9.F q179.F
def FV (f0 : q127.T) (f1 : q148.T) (f2 : q170.T) (f3 : q171.T) (f4 : q172.T) (f5 : q173.T) (f6 : q174.T) (f7 : q91.T) (f8 : q9.T) (f9 : q179.T) (K : Bool → Prop) : Prop :=
  (f0 fun r1 => (bif (r1.n0.state != 3) then (K false) else (bif (r1.n1.state != 4) then (K false) else (f1 r1.n0 1 fun r2 => (f2 r1.n1 1 ([97, 98, 99, 100, 101, 102, 103, 104] : Str) fun r3 => (f2 r1.n1 0 ([122, 122, 122, 122, 122, 122, 122, 122] : Str) fun r4 => (f3 r1.n0 1 fun r5 => (f4 r5.1 fun r6 => (f5 r3.1 fun r7 => (f6 r1.n1 fun r8 => (bif ((r2.2.length : Int) != 1) then (K false) else (bif ((r3.2.length : Int) != 2) then (K false) else (bif ((IntKind.i64.wrap ((IntKind.i64.wrap ((r4.2.length : Int) + (r5.2.length : Int))) + (r8.2.length : Int))) != 0) then (K false) else (bif ((r6.2.length : Int) != 1) then (K false) else (oget (getI r2.2 0) fun v9 => (f7 v9.data fun r10 => (bif (r10.2 == 0) then (bif (r10.1.kind == 6) then (bif (r10.1.data == ([97, 98, 99, 100, 101, 102, 103, 104] : Str)) then (bif (!r3.1.store.sup.inc) then (f8 fun r11 => (bif ((r3.1.store.sup.vector.current == 9) && ((r3.1.store.sup.vector.bitmap == 0) && (((r3.1.store.sup.vector.old0 == r11) && ((r3.1.store.sup.vector.old1 == 0) && true)) && true))) then (bif (r3.1.store.mask == 0) then (f9 r4.1 r1.n1 fun r12 => (bif r12 then (bif (r5.1.store.mask == 0) then (bif (r6.1.state == 2) then (bif ((r6.1.store.sup.vector.current == r3.1.store.sup.vector.current) && ((r6.1.store.sup.vector.bitmap == r3.1.store.sup.vector.bitmap) && (((r6.1.store.sup.vector.old0 == r3.1.store.sup.vector.old0) && ((r6.1.store.sup.vector.old1 == r3.1.store.sup.vector.old1) && true)) && true))) then (K (r7.state == 2)) else (K false)) else (K false)) else (K false)) else (K false))) else (K false)) else (K false))) else (K false)) else (K false)) else (K false)) else (K false))))))))))))))))))
def F (K : Bool → Prop) : Prop := FV q127.F q148.F q170.F q171.F q172.F q173.F q174.F q91.F q9.F q179.F K
noncomputable def en : Entry := mkEntry A C fun _ => F
theorem eqv (f0 : q127.T) (f1 : q148.T) (f2 : q170.T) (f3 : q171.T) (f4 : q172.T) (f5 : q173.T) (f6 : q174.T) (f7 : q91.T) (f8 : q9.T) (f9 : q179.T) (K : Bool → Prop) : apure E (tv f0 f1 f2 f3 f4 f5 f6 f7 f8 f9) (fun _ => none) 4 13 [] (ansK C K) = FV f0 f1 f2 f3 f4 f5 f6 f7 f8 f9 K := by kernel_rfl
theorem eq (x : Dens A) (K : Bool → Prop) : apure E tab (fun _ => none) 4 13 (encA A x) (ansK C K) = F K := eqv q127.F q148.F q170.F q171.F q172.F q173.F q174.F q91.F q9.F q179.F K
theorem loops : LoopsOk E tab (fun _ => none) 4 13 := loops_none _ _ _ _
theorem det : Det (F) := by
  unfold F FV
  repeat' with_reducible first | exact det_ret _ | refine det_cond _ ?_ ?_ | refine det_oget _ (fun _ => ?_) | refine det_bind (q127.det) (fun _ => ?_) | refine det_bind (q148.det _ _) (fun _ => ?_) | refine det_bind (q170.det _ _ _) (fun _ => ?_) | refine det_bind (q171.det _ _) (fun _ => ?_) | refine det_bind (q172.det _) (fun _ => ?_) | refine det_bind (q173.det _) (fun _ => ?_) | refine det_bind (q174.det _) (fun _ => ?_) | refine det_bind (q91.det _) (fun _ => ?_) | refine det_bind (q9.det) (fun _ => ?_) | refine det_bind (q179.det _ _) (fun _ => ?_)
theorem edet (a : List AV) : Det (en a) := mkEntry_det (fun _ : Dens A => det) a
theorem ground : Ground E tab := ⟨num, mixed, (tab_cons q127.sound (tab_cons q148.sound (tab_cons q170.sound (tab_cons q171.sound (tab_cons q172.sound (tab_cons q173.sound (tab_cons q174.sound (tab_cons q91.sound (tab_cons q9.sound (tab_cons q179.sound (tab_nil _))))))))))), clone, (dtab_cons q127.edet (dtab_cons q148.edet (dtab_cons q170.edet (dtab_cons q171.edet (dtab_cons q172.edet (dtab_cons q173.edet (dtab_cons q174.edet (dtab_cons q91.edet (dtab_cons q9.edet (dtab_cons q179.edet dtab_nil)))))))))), stab⟩
theorem sound : EntrySound E 13 en := mkSound ground loops (by kernel_rfl) (eq)
end q180
namespace q181
abbrev A : List Ty := [(.slice (.st 12)), (.int .i64)]
abbrev C := (cTy .bool)
abbrev T : Type := (List Event) → Int → (Bool → Prop) → Prop
noncomputable def tab : Tab := []
structure R where
  t4 : Bool
def cR (x : R) : St := { fr := lookL .top [(4, (.bool x.t4))], hs := { hp := lookL .dead [], hn := 0 } }
def kR : Keep := { ks := [(4, none)], bs := [], hn := 0 }
structure L0 where
  l : (List Event)
  i : Int
def c0 (x : L0) : St := { fr := lookL .top [(0, (.sl .any (.st 12) x.l)), (5, (.int .i64 x.i))], hs := { hp := lookL .dead [], hn := 0 } }
def kp0 : Keep := { ks := [(0, none), (5, none)], bs := [], hn := 0 }
def p0 (st : St) (K : L0 → Prop) : Prop := gSl .any (.st 12) (st.fr 0) fun a1 => gInt .i64 (st.fr 5) fun a2 => K ⟨a1, a2⟩
set_option maxHeartbeats 4000000 in
theorem p0_ok (st : St) (K : L0 → Prop) (h : p0 st K) : ∃ x, keepSt kp0 st = c0 x ∧ K x := by
  obtain ⟨a1, h0, h⟩ := gSl_elim h
  obtain ⟨a2, h1, h⟩ := gInt_elim h
  refine ⟨_, ?_, h⟩
  simp only [keepSt, kp0, List.map, h0, h1]
  rfl
def b0 (rec kx : L0 → Prop) (kr : R → Prop) (x : L0) : Prop :=
  (bif (decide (x.i < (x.l.length : Int))) then (oget (getI x.l x.i) fun v1 => (bif (decide ((v1.data.length : Int) > 300)) then (kr ⟨true⟩) else (oget (getI x.l x.i) fun v2 => (bif (decide ((v2.keeps.length : Int) > 100)) then (kr ⟨true⟩) else (rec ⟨x.l, (IntKind.i64.wrap (x.i + 1))⟩))))) else (kx ⟨x.l, x.i⟩))
def lt : Nat → Option LSpec
  | 0 => some (mkLoop 0 kp0 kR p0 c0 cR b0)
  | _ => none
def F (l : (List Event)) (most : Int) (K : Bool → Prop) : Prop :=
  (bif (decide ((l.length : Int) > most)) then (K true) else (∃ n, loopB b0 n (fun x3 => (K false)) (fun r4 => (K r4.t4)) ⟨l, 0⟩))
noncomputable def en : Entry := mkEntry A C fun x => F x.1 x.2.1
theorem eqv (l : (List Event)) (most : Int) (K : Bool → Prop) : apure E tab lt 4 14 [enc (.slice (.st 12)) l, enc (.int .i64) most] (ansK C K) = F l most K := by kernel_rfl
theorem l0v (R : St → Prop) (Kx : Nat → St → Prop) (Kr : St → Prop) (x : L0) : acode E tab (afun E tab 4) 32 lt ((loopsIn E.P 14).getD 0 (0, .skip)).2 0 (fun s => R (keepSt kp0 s)) (fun j s => Kx j (keepSt kp0 s)) (fun s => Kr (keepSt kR s)) (c0 x) = b0 (fun x => R (c0 x)) (fun x => Kx 0 (c0 x)) (fun r => Kr (cR r)) x := by kernel_rfl
theorem l0_ok : LSound E tab (afun E tab 4) 32 lt 0 ((loopsIn E.P 14).getD 0 (0, .skip)).2 (mkLoop 0 kp0 kR p0 c0 cR b0) := mkLoop_sound (by decide) (by decide) p0_ok (fun R Kx Kr x => l0v  R Kx Kr x)
theorem loops : LoopsOk E tab lt 4 14 := loops_of (nt := 32) (ids := [0]) (by kernel_rfl) (by kernel_rfl) (by
  intro k i hk l hl
  match k, hk with
  | 0, hk => cases hk; cases hl; exact l0_ok
  | _ + 1, hk => exact absurd hk (by simp))
theorem det (l : (List Event)) (most : Int) : Det (F l most) := by
  unfold F
  repeat' with_reducible first | exact det_ret _ | refine det_cond _ ?_ ?_ | refine det_oget _ (fun _ => ?_) | refine det_loop (fun _ => ?_) (fun _ => ?_) (fun _ => ?_) _ | unfold b0
theorem edet (a : List AV) : Det (en a) := mkEntry_det (fun x : Dens A => det x.1 x.2.1) a
theorem ground : Ground E tab := ⟨num, mixed, (tab_nil _), clone, dtab_nil, stab⟩
theorem sound : EntrySound E 14 en := mkSound ground loops (by kernel_rfl) (fun (x : Dens A) K => eqv  x.1 x.2.1 K)
end q181
namespace q182
abbrev A : List Ty := [(.st 16)]
abbrev C := (cTy (.int .i64))
abbrev T : Type := Case → (Int → Prop) → Prop
noncomputable def tab : Tab := []
def F (c : Case) (K : Int → Prop) : Prop :=
  (bif c.side then (K 1) else (K 0))
noncomputable def en : Entry := mkEntry A C fun x => F x.1
theorem eqv (c : Case) (K : Int → Prop) : apure E tab (fun _ => none) 4 65 [enc (.st 16) c] (ansK C K) = F c K := by kernel_rfl
theorem eq (x : Dens A) (K : Int → Prop) : apure E tab (fun _ => none) 4 65 (encA A x) (ansK C K) = F x.1 K := eqv  x.1 K
theorem loops : LoopsOk E tab (fun _ => none) 4 65 := loops_none _ _ _ _
theorem det (c : Case) : Det (F c) := by
  unfold F
  repeat' with_reducible first | exact det_ret _ | refine det_cond _ ?_ ?_
theorem edet (a : List AV) : Det (en a) := mkEntry_det (fun x : Dens A => det x.1) a
theorem ground : Ground E tab := ⟨num, mixed, (tab_nil _), clone, dtab_nil, stab⟩
theorem sound : EntrySound E 65 en := mkSound ground loops (by kernel_rfl) (eq)
end q182
namespace q183
abbrev A : List Ty := [(.st 16)]
abbrev C := (cTy (.st 13))
abbrev T : Type := Case → (Node → Prop) → Prop
noncomputable def tv (f0 : q126.T) (f1 : q182.T) : Tab := [(42, mkEntry q126.A q126.C fun x => f0 x.1 x.2.1), (65, mkEntry q182.A q182.C fun x => f1 x.1)]
noncomputable def tab : Tab := tv q126.F q182.F
def FV (f0 : q126.T) (f1 : q182.T) (c : Case) (K : Node → Prop) : Prop :=
  (f0 c.blocks c.l fun r1 => (f1 c fun r2 => (bif (r2 == 0) then (K r1.n0) else (bif (r2 == 1) then (K r1.n1) else False))))
def F (c : Case) (K : Node → Prop) : Prop := FV q126.F q182.F c K
noncomputable def en : Entry := mkEntry A C fun x => F x.1
theorem eqv (f0 : q126.T) (f1 : q182.T) (c : Case) (K : Node → Prop) : apure E (tv f0 f1) (fun _ => none) 4 15 [enc (.st 16) c] (ansK C K) = FV f0 f1 c K := by kernel_rfl
theorem eq (x : Dens A) (K : Node → Prop) : apure E tab (fun _ => none) 4 15 (encA A x) (ansK C K) = F x.1 K := eqv q126.F q182.F x.1 K
theorem loops : LoopsOk E tab (fun _ => none) 4 15 := loops_none _ _ _ _
theorem det (c : Case) : Det (F c) := by
  unfold F FV
  repeat' with_reducible first | exact det_ret _ | exact det_false | refine det_cond _ ?_ ?_ | refine det_bind (q126.det _ _) (fun _ => ?_) | refine det_bind (q182.det _) (fun _ => ?_)
theorem edet (a : List AV) : Det (en a) := mkEntry_det (fun x : Dens A => det x.1) a
theorem ground : Ground E tab := ⟨num, mixed, (tab_cons q126.sound (tab_cons q182.sound (tab_nil _))), clone, (dtab_cons q126.edet (dtab_cons q182.edet dtab_nil)), stab⟩
theorem sound : EntrySound E 15 en := mkSound ground loops (by kernel_rfl) (eq)
end q183
namespace q184
abbrev A : List Ty := [(.slice (.st 11)), (.slice (.st 11))]
abbrev C := (cTy .bool)
abbrev T : Type := (List Outp) → (List Outp) → (Bool → Prop) → Prop
noncomputable def tab : Tab := []
structure R where
  t4 : Bool
def cR (x : R) : St := { fr := lookL .top [(4, (.bool x.t4))], hs := { hp := lookL .dead [], hn := 0 } }
def kR : Keep := { ks := [(4, none)], bs := [], hn := 0 }
structure L0 where
  a : (List Outp)
  b0 : (List Outp)
  i : Int
def c0 (x : L0) : St := { fr := lookL .top [(0, (.sl .any (.st 11) x.a)), (1, (.sl .any (.st 11) x.b0)), (5, (.int .i64 x.i))], hs := { hp := lookL .dead [], hn := 0 } }
def kp0 : Keep := { ks := [(0, none), (1, none), (5, none)], bs := [], hn := 0 }
def p0 (st : St) (K : L0 → Prop) : Prop := gSl .any (.st 11) (st.fr 0) fun a1 => gSl .any (.st 11) (st.fr 1) fun a2 => gInt .i64 (st.fr 5) fun a3 => K ⟨a1, a2, a3⟩
set_option maxHeartbeats 4000000 in
theorem p0_ok (st : St) (K : L0 → Prop) (h : p0 st K) : ∃ x, keepSt kp0 st = c0 x ∧ K x := by
  obtain ⟨a1, h0, h⟩ := gSl_elim h
  obtain ⟨a2, h1, h⟩ := gSl_elim h
  obtain ⟨a3, h2, h⟩ := gInt_elim h
  refine ⟨_, ?_, h⟩
  simp only [keepSt, kp0, List.map, h0, h1, h2]
  rfl
def b0 (rec kx : L0 → Prop) (kr : R → Prop) (x : L0) : Prop :=
  (bif (decide (x.i < (x.a.length : Int))) then (oget (getI x.a x.i) fun v1 => (oget (getI x.b0 x.i) fun v2 => (bif (!((v1.kind == v2.kind) && ((v1.node == v2.node) && ((v1.id == v2.id) && ((v1.err == v2.err) && ((v1.data == v2.data) && true)))))) then (kr ⟨false⟩) else (rec ⟨x.a, x.b0, (IntKind.i64.wrap (x.i + 1))⟩)))) else (kx ⟨x.a, x.b0, x.i⟩))
def lt : Nat → Option LSpec
  | 0 => some (mkLoop 0 kp0 kR p0 c0 cR b0)
  | _ => none
def F (a : (List Outp)) (b_1 : (List Outp)) (K : Bool → Prop) : Prop :=
  (bif ((a.length : Int) != (b_1.length : Int)) then (K false) else (∃ n, loopB b0 n (fun x3 => (K true)) (fun r4 => (K r4.t4)) ⟨a, b_1, 0⟩))
noncomputable def en : Entry := mkEntry A C fun x => F x.1 x.2.1
theorem eqv (a : (List Outp)) (b_1 : (List Outp)) (K : Bool → Prop) : apure E tab lt 4 21 [enc (.slice (.st 11)) a, enc (.slice (.st 11)) b_1] (ansK C K) = F a b_1 K := by kernel_rfl
theorem l0v (R : St → Prop) (Kx : Nat → St → Prop) (Kr : St → Prop) (x : L0) : acode E tab (afun E tab 4) 26 lt ((loopsIn E.P 21).getD 0 (0, .skip)).2 0 (fun s => R (keepSt kp0 s)) (fun j s => Kx j (keepSt kp0 s)) (fun s => Kr (keepSt kR s)) (c0 x) = b0 (fun x => R (c0 x)) (fun x => Kx 0 (c0 x)) (fun r => Kr (cR r)) x := by kernel_rfl
theorem l0_ok : LSound E tab (afun E tab 4) 26 lt 0 ((loopsIn E.P 21).getD 0 (0, .skip)).2 (mkLoop 0 kp0 kR p0 c0 cR b0) := mkLoop_sound (by decide) (by decide) p0_ok (fun R Kx Kr x => l0v  R Kx Kr x)
theorem loops : LoopsOk E tab lt 4 21 := loops_of (nt := 26) (ids := [0]) (by kernel_rfl) (by kernel_rfl) (by
  intro k i hk l hl
  match k, hk with
  | 0, hk => cases hk; cases hl; exact l0_ok
  | _ + 1, hk => exact absurd hk (by simp))
theorem det (a : (List Outp)) (b_1 : (List Outp)) : Det (F a b_1) := by
  unfold F
  repeat' with_reducible first | exact det_ret _ | refine det_cond _ ?_ ?_ | refine det_oget _ (fun _ => ?_) | refine det_loop (fun _ => ?_) (fun _ => ?_) (fun _ => ?_) _ | unfold b0
theorem edet (a : List AV) : Det (en a) := mkEntry_det (fun x : Dens A => det x.1 x.2.1) a
theorem ground : Ground E tab := ⟨num, mixed, (tab_nil _), clone, dtab_nil, stab⟩
theorem sound : EntrySound E 21 en := mkSound ground loops (by kernel_rfl) (fun (x : Dens A) K => eqv  x.1 x.2.1 K)
end q184
namespace q185
abbrev A : List Ty := [(.st 13), (.int .i64)]
abbrev C := (cTwo (.st 13) (.slice (.st 11)))
abbrev T : Type := Node → Int → ((Node × (List Outp)) → Prop) → Prop
noncomputable def tv (f0 : q116.T) : Tab := [(79, mkEntry q116.A q116.C fun x => f0 x.1 x.2.1)]
noncomputable def tab : Tab := tv q116.F
def FV (f0 : q116.T) (n_0 : Node) (block : Int) (K : (Node × (List Outp)) → Prop) : Prop :=
  (f0 n_0 block fun r1 => (K (r1.1, r1.2)))
def F (n_0 : Node) (block : Int) (K : (Node × (List Outp)) → Prop) : Prop := FV q116.F n_0 block K
noncomputable def en : Entry := mkEntry A C fun x => F x.1 x.2.1
theorem eqv (f0 : q116.T) (n_0 : Node) (block : Int) (K : (Node × (List Outp)) → Prop) : apure E (tv f0) (fun _ => none) 4 25 [enc (.st 13) n_0, enc (.int .i64) block] (ansK C K) = FV f0 n_0 block K := by kernel_rfl
theorem loops : LoopsOk E tab (fun _ => none) 4 25 := loops_none _ _ _ _
theorem det (n_0 : Node) (block : Int) : Det (F n_0 block) := by
  unfold F FV
  repeat' with_reducible first | exact det_ret _ | refine det_bind (q116.det _ _) (fun _ => ?_)
theorem edet (a : List AV) : Det (en a) := mkEntry_det (fun x : Dens A => det x.1 x.2.1) a
theorem ground : Ground E tab := ⟨num, mixed, (tab_cons q116.sound (tab_nil _)), clone, (dtab_cons q116.edet dtab_nil), stab⟩
theorem sound : EntrySound E 25 en := mkSound ground loops (by kernel_rfl) (fun (x : Dens A) K => eqv q116.F x.1 x.2.1 K)
end q185
namespace q186
abbrev A : List Ty := [(.st 13), (.int .i64)]
abbrev C := (cTwo (.st 13) (.slice (.st 11)))
abbrev T : Type := Node → Int → ((Node × (List Outp)) → Prop) → Prop
noncomputable def tv (f0 : q118.T) : Tab := [(80, mkEntry q118.A q118.C fun x => f0 x.1 x.2.1)]
noncomputable def tab : Tab := tv q118.F
def FV (f0 : q118.T) (n_0 : Node) (block : Int) (K : (Node × (List Outp)) → Prop) : Prop :=
  (f0 n_0 block fun r1 => (K (r1.1, r1.2)))
def F (n_0 : Node) (block : Int) (K : (Node × (List Outp)) → Prop) : Prop := FV q118.F n_0 block K
noncomputable def en : Entry := mkEntry A C fun x => F x.1 x.2.1
theorem eqv (f0 : q118.T) (n_0 : Node) (block : Int) (K : (Node × (List Outp)) → Prop) : apure E (tv f0) (fun _ => none) 4 27 [enc (.st 13) n_0, enc (.int .i64) block] (ansK C K) = FV f0 n_0 block K := by kernel_rfl
theorem loops : LoopsOk E tab (fun _ => none) 4 27 := loops_none _ _ _ _
theorem det (n_0 : Node) (block : Int) : Det (F n_0 block) := by
  unfold F FV
  repeat' with_reducible first | exact det_ret _ | refine det_bind (q118.det _ _) (fun _ => ?_)
theorem edet (a : List AV) : Det (en a) := mkEntry_det (fun x : Dens A => det x.1 x.2.1) a
theorem ground : Ground E tab := ⟨num, mixed, (tab_cons q118.sound (tab_nil _)), clone, (dtab_cons q118.edet dtab_nil), stab⟩
theorem sound : EntrySound E 27 en := mkSound ground loops (by kernel_rfl) (fun (x : Dens A) K => eqv q118.F x.1 x.2.1 K)
end q186
namespace q187
abbrev A : List Ty := [(.st 13)]
abbrev C := (cTwo (.st 13) (.slice (.st 11)))
abbrev T : Type := Node → ((Node × (List Outp)) → Prop) → Prop
noncomputable def tv (f0 : q119.T) : Tab := [(83, mkEntry q119.A q119.C fun x => f0 x.1)]
noncomputable def tab : Tab := tv q119.F
def FV (f0 : q119.T) (n_0 : Node) (K : (Node × (List Outp)) → Prop) : Prop :=
  (f0 n_0 fun r1 => (K (r1.1, r1.2)))
def F (n_0 : Node) (K : (Node × (List Outp)) → Prop) : Prop := FV q119.F n_0 K
noncomputable def en : Entry := mkEntry A C fun x => F x.1
theorem eqv (f0 : q119.T) (n_0 : Node) (K : (Node × (List Outp)) → Prop) : apure E (tv f0) (fun _ => none) 4 29 [enc (.st 13) n_0] (ansK C K) = FV f0 n_0 K := by kernel_rfl
theorem loops : LoopsOk E tab (fun _ => none) 4 29 := loops_none _ _ _ _
theorem det (n_0 : Node) : Det (F n_0) := by
  unfold F FV
  repeat' with_reducible first | exact det_ret _ | refine det_bind (q119.det _) (fun _ => ?_)
theorem edet (a : List AV) : Det (en a) := mkEntry_det (fun x : Dens A => det x.1) a
theorem ground : Ground E tab := ⟨num, mixed, (tab_cons q119.sound (tab_nil _)), clone, (dtab_cons q119.edet dtab_nil), stab⟩
theorem sound : EntrySound E 29 en := mkSound ground loops (by kernel_rfl) (fun (x : Dens A) K => eqv q119.F x.1 K)
end q187
namespace q188
abbrev A : List Ty := [(.st 16), (.int .i64)]
abbrev C := (cTy .bool)
abbrev T : Type := Case → Int → (Bool → Prop) → Prop
noncomputable def tv (f0 : q180.T) (f1 : q181.T) (f2 : q183.T) (f3 : q148.T) (f4 : q185.T) (f5 : q171.T) (f6 : q186.T) (f7 : q172.T) (f8 : q187.T) (f9 : q179.T) (f10 : q184.T) : Tab := [(13, mkEntry q180.A q180.C fun _ => f0), (14, mkEntry q181.A q181.C fun x => f1 x.1 x.2.1), (15, mkEntry q183.A q183.C fun x => f2 x.1), (24, mkEntry q148.A q148.C fun x => f3 x.1 x.2.1), (25, mkEntry q185.A q185.C fun x => f4 x.1 x.2.1), (26, mkEntry q171.A q171.C fun x => f5 x.1 x.2.1), (27, mkEntry q186.A q186.C fun x => f6 x.1 x.2.1), (28, mkEntry q172.A q172.C fun x => f7 x.1), (29, mkEntry q187.A q187.C fun x => f8 x.1), (20, mkEntry q179.A q179.C fun x => f9 x.1 x.2.1), (21, mkEntry q184.A q184.C fun x => f10 x.1 x.2.1)]
noncomputable def tab : Tab := tv q180.F q181.F q183.F q148.F q185.F q171.F q186.F q172.F q187.F q179.F q184.F
def FV (f0 : q180.T) (f1 : q181.T) (f2 : q183.T) (f3 : q148.T) (f4 : q185.T) (f5 : q171.T) (f6 : q186.T) (f7 : q172.T) (f8 : q187.T) (f9 : q179.T) (f10 : q184.T) (c : Case) (block : Int) (K : Bool → Prop) : Prop :=
  (f0 fun r1 => (bif (!r1) then (K false) else (f1 c.l 60 fun r2 => (bif r2 then (K true) else (f2 c fun r3 => (bif (r3.state != 3) then (K true) else (bif (decide (block < 0)) then (K true) else (bif (decide (block ≥ r3.store.sup.blocks)) then (K true) else (f3 r3 block fun r4 => (f4 r3 block fun r5 => (f5 r3 block fun r6 => (f6 r3 block fun r7 => (f7 r3 fun r8 => (f8 r3 fun r9 => (f9 r4.1 r5.1 fun r10 => (bif r10 then (f10 r4.2 r5.2 fun r11 => (bif r11 then (f9 r6.1 r7.1 fun r12 => (bif r12 then (f10 r6.2 r7.2 fun r13 => (bif r13 then (f9 r8.1 r9.1 fun r14 => (bif r14 then (f10 r8.2 r9.2 fun r15 => (K r15)) else (K false))) else (K false))) else (K false))) else (K false))) else (K false)))))))))))))))))
def F (c : Case) (block : Int) (K : Bool → Prop) : Prop := FV q180.F q181.F q183.F q148.F q185.F q171.F q186.F q172.F q187.F q179.F q184.F c block K
noncomputable def en : Entry := mkEntry A C fun x => F x.1 x.2.1
theorem eqv (f0 : q180.T) (f1 : q181.T) (f2 : q183.T) (f3 : q148.T) (f4 : q185.T) (f5 : q171.T) (f6 : q186.T) (f7 : q172.T) (f8 : q187.T) (f9 : q179.T) (f10 : q184.T) (c : Case) (block : Int) (K : Bool → Prop) : apure E (tv f0 f1 f2 f3 f4 f5 f6 f7 f8 f9 f10) (fun _ => none) 4 4 [enc (.st 16) c, enc (.int .i64) block] (ansK C K) = FV f0 f1 f2 f3 f4 f5 f6 f7 f8 f9 f10 c block K := by kernel_rfl
theorem eq (x : Dens A) (K : Bool → Prop) : apure E tab (fun _ => none) 4 4 (encA A x) (ansK C K) = F x.1 x.2.1 K := eqv q180.F q181.F q183.F q148.F q185.F q171.F q186.F q172.F q187.F q179.F q184.F x.1 x.2.1 K
theorem loops : LoopsOk E tab (fun _ => none) 4 4 := loops_none _ _ _ _
theorem det (c : Case) (block : Int) : Det (F c block) := by
  unfold F FV
  repeat' with_reducible first | exact det_ret _ | refine det_cond _ ?_ ?_ | refine det_bind (q180.det) (fun _ => ?_) | refine det_bind (q181.det _ _) (fun _ => ?_) | refine det_bind (q183.det _) (fun _ => ?_) | refine det_bind (q148.det _ _) (fun _ => ?_) | refine det_bind (q185.det _ _) (fun _ => ?_) | refine det_bind (q171.det _ _) (fun _ => ?_) | refine det_bind (q186.det _ _) (fun _ => ?_) | refine det_bind (q172.det _) (fun _ => ?_) | refine det_bind (q187.det _) (fun _ => ?_) | refine det_bind (q179.det _ _) (fun _ => ?_) | refine det_bind (q184.det _ _) (fun _ => ?_)
theorem edet (a : List AV) : Det (en a) := mkEntry_det (fun x : Dens A => det x.1 x.2.1) a
theorem ground : Ground E tab := ⟨num, mixed, (tab_cons q180.sound (tab_cons q181.sound (tab_cons q183.sound (tab_cons q148.sound (tab_cons q185.sound (tab_cons q171.sound (tab_cons q186.sound (tab_cons q172.sound (tab_cons q187.sound (tab_cons q179.sound (tab_cons q184.sound (tab_nil _)))))))))))), clone, (dtab_cons q180.edet (dtab_cons q181.edet (dtab_cons q183.edet (dtab_cons q148.edet (dtab_cons q185.edet (dtab_cons q171.edet (dtab_cons q186.edet (dtab_cons q172.edet (dtab_cons q187.edet (dtab_cons q179.edet (dtab_cons q184.edet dtab_nil))))))))))), stab⟩
theorem sound : EntrySound E 4 en := mkSound ground loops (by kernel_rfl) (eq)
end q188
end Gm
