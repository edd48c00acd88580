/- Printed by a program (gen.py): the functions' answers, and that they are so. -/
import Derived.Test.YtfjhdboapcckpaaGreatDoorGdT2
set_option linter.unusedVariables false
set_option maxRecDepth 100000
namespace Gm
open Go Go.Proofs
namespace q98
abbrev A : List Ty := [(.int .u8), (.slice (.int .i64)), (.slice (.int .i64))]
abbrev C := (cTy .bool)
abbrev T : Type := Int → (List Int) → (List Int) → (Bool → Prop) → Prop
noncomputable def tv (f0 : q97.T) (f1 : q54.T) (f2 : q78.T) (f3 : q85.T) (f4 : q81.T) (f5 : q82.T) (f6 : q63.T) : Tab := [(25, mkEntry q97.A q97.C fun _ => f0), (26, mkEntry q54.A q54.C fun x => f1 x.1), (27, mkEntry q78.A q78.C fun x => f2 x.1 x.2.1), (28, mkEntry q85.A q85.C fun x => f3 x.1 x.2.1), (31, mkEntry q81.A q81.C fun x => f4 x.1), (30, mkEntry q82.A q82.C fun x => f5 x.1 x.2.1), (29, mkEntry q63.A q63.C fun x => f6 x.1)]
noncomputable def tab : Tab := tv q97.F q54.F q78.F q85.F q81.F q82.F q63.F
structure R where
  t6 : Bool
def cR (x : R) : St := { fr := lookL .top [(6, (.bool x.t6))], hs := { hp := lookL .dead [], hn := 2 } }
def kR : Keep := { ks := [(6, none)], bs := [], hn := 2 }
structure L0 where
  l : (List Int)
  wiped : (List Int)
  i : Int
  m0 : Store
def c0 (x : L0) : St := { fr := lookL .top [(1, (.sl .any (.int .i64) x.l)), (2, (.sl .any (.int .i64) x.wiped)), (7, (.ptr 0 0)), (8, (.int .i64 x.i))], hs := { hp := lookL .dead [(0, (.cells (encS 8 x.m0)))], hn := 1 } }
def kp0 : Keep := { ks := [(1, none), (2, none), (7, none), (8, none)], bs := [0], hn := 1, ts := [(0, 8)] }
def p0 (st : St) (K : L0 → Prop) : Prop := gSl .any (.int .i64) (st.fr 1) fun a1 => gSl .any (.int .i64) (st.fr 2) fun a2 => gPtr 0 0 (st.fr 7) <| gInt .i64 (st.fr 8) fun a3 => gBlkS 8 (st.hs.hp 0) fun a4 => K ⟨a1, a2, a3, a4⟩
set_option maxHeartbeats 4000000 in
theorem p0_ok (st : St) (K : L0 → Prop) (h : p0 st K) : ∃ x, keepSt kp0 st = c0 x ∧ K x := by
  obtain ⟨a1, h0, h⟩ := gSl_elim h
  obtain ⟨a2, h1, h⟩ := gSl_elim h
  obtain ⟨h2, h⟩ := gPtr_elim h
  obtain ⟨a3, h3, h⟩ := gInt_elim h
  obtain ⟨z4, a4, h4, y4, h⟩ := gBlkS_elim h
  have q4 : ∀ ok, keptB kp0 ok 0 (.cells z4) = .cells (encS 8 a4) := fun _ => y4
  simp only [kp0] at q4
  refine ⟨_, ?_, h⟩
  simp only [keepSt, kp0, List.map, h0, h1, h2, h3, h4, q4]
  rfl
structure L2 where
  wiped : (List Int)
  all : Int
  i : Int
  m0 : Store
def c2 (x : L2) : St := { fr := lookL .top [(2, (.sl .any (.int .i64) x.wiped)), (7, (.ptr 0 0)), (11, (.int .u32 x.all)), (12, (.int .i64 x.i))], hs := { hp := lookL .dead [(0, (.cells (encS 8 x.m0)))], hn := 1 } }
def kp2 : Keep := { ks := [(2, none), (7, none), (11, none), (12, none)], bs := [0], hn := 1, ts := [(0, 8)] }
def p2 (st : St) (K : L2 → Prop) : Prop := gSl .any (.int .i64) (st.fr 2) fun a1 => gPtr 0 0 (st.fr 7) <| gInt .u32 (st.fr 11) fun a2 => gInt .i64 (st.fr 12) fun a3 => gBlkS 8 (st.hs.hp 0) fun a4 => K ⟨a1, a2, a3, a4⟩
set_option maxHeartbeats 4000000 in
theorem p2_ok (st : St) (K : L2 → Prop) (h : p2 st K) : ∃ x, keepSt kp2 st = c2 x ∧ K x := by
  obtain ⟨a1, h0, h⟩ := gSl_elim h
  obtain ⟨h1, h⟩ := gPtr_elim h
  obtain ⟨a2, h2, h⟩ := gInt_elim h
  obtain ⟨a3, h3, h⟩ := gInt_elim h
  obtain ⟨z4, a4, h4, y4, h⟩ := gBlkS_elim h
  have q4 : ∀ ok, keptB kp2 ok 0 (.cells z4) = .cells (encS 8 a4) := fun _ => y4
  simp only [kp2] at q4
  refine ⟨_, ?_, h⟩
  simp only [keepSt, kp2, List.map, h0, h1, h2, h3, h4, q4]
  rfl
def b0V (f0 : q97.T) (f1 : q54.T) (f2 : q78.T) (f3 : q85.T) (f4 : q81.T) (f5 : q82.T) (f6 : q63.T) (rec kx : L0 → Prop) (kr : R → Prop) (x : L0) : Prop :=
  (bif (decide (x.i < (x.l.length : Int))) then (oget (getI x.l x.i) fun v3 => (f2 x.m0 v3 fun r4 => (oget (getI x.l x.i) fun v5 => (bif (decide (v5 ≥ 0)) then (oget (getI x.l x.i) fun v6 => (bif (!((r4.2 == 0) == (decide (v6 < x.m0.sup.blocks)))) then (kr ⟨false⟩) else (rec ⟨x.l, x.wiped, (IntKind.i64.wrap (x.i + 1)), r4.1⟩))) else (bif (!((r4.2 == 0) == false)) then (kr ⟨false⟩) else (rec ⟨x.l, x.wiped, (IntKind.i64.wrap (x.i + 1)), r4.1⟩)))))) else (kx ⟨x.l, x.wiped, x.i, x.m0⟩))
def b2V (f0 : q97.T) (f1 : q54.T) (f2 : q78.T) (f3 : q85.T) (f4 : q81.T) (f5 : q82.T) (f6 : q63.T) (rec kx : L2 → Prop) (kr : R → Prop) (x : L2) : Prop :=
  (bif (decide (x.i < (x.wiped.length : Int))) then (oget (getI x.wiped x.i) fun v9 => (f3 x.m0 v9 fun r10 => (rec ⟨x.wiped, x.all, (IntKind.i64.wrap (x.i + 1)), r10.1⟩))) else (kx ⟨x.wiped, x.all, x.i, x.m0⟩))
def ltV (f0 : q97.T) (f1 : q54.T) (f2 : q78.T) (f3 : q85.T) (f4 : q81.T) (f5 : q82.T) (f6 : q63.T) : Nat → Option LSpec
  | 0 => some (mkLoop 0 kp0 kR p0 c0 cR (b0V f0 f1 f2 f3 f4 f5 f6))
  | 2 => some (mkLoop 2 kp2 kR p2 c2 cR (b2V f0 f1 f2 f3 f4 f5 f6))
  | _ => none
def lt : Nat → Option LSpec := ltV q97.F q54.F q78.F q85.F q81.F q82.F q63.F
def FV (f0 : q97.T) (f1 : q54.T) (f2 : q78.T) (f3 : q85.T) (f4 : q81.T) (f5 : q82.T) (f6 : q63.T) (n_0 : Int) (l : (List Int)) (wiped : (List Int)) (K : Bool → Prop) : Prop :=
  (f0 fun r1 => (bif (!r1) then (K false) else (bif (decide ((l.length : Int) > 50)) then (K true) else (bif (decide ((wiped.length : Int) > 50)) then (K true) else (bif (32 == 0) then False else (f1 (IntKind.i64.wrap (1 + (IntKind.i64.wrap (n_0.tmod 32)))) fun r2 => (∃ n, loopB (b0V f0 f1 f2 f3 f4 f5 f6) n (fun x7 => (∃ n, loopB (b2V f0 f1 f2 f3 f4 f5 f6) n (fun x11 => (f4 x11.m0.disk fun r13 => (f5 r13 ([] : List Bool) fun r14 => (f6 r14 fun r15 => (bif (r15.2 == 0) then (bif ((iand .u32 r15.1.mask x11.m0.mask) == x11.m0.mask) then (bif ((ior .u32 r15.1.mask x11.all) == x11.all) then (K ((ior .u32 x11.m0.mask x11.all) == x11.all)) else (K false)) else (K false)) else (K false)))))) (fun r12 => (K r12.t6)) ⟨x7.wiped, x7.m0.mask, 0, x7.m0⟩)) (fun r8 => (K r8.t6)) ⟨l, wiped, 0, r2⟩)))))))
def F (n_0 : Int) (l : (List Int)) (wiped : (List Int)) (K : Bool → Prop) : Prop := FV q97.F q54.F q78.F q85.F q81.F q82.F q63.F n_0 l wiped K
noncomputable def en : Entry := mkEntry A C fun x => F x.1 x.2.1 x.2.2.1
theorem eqv (f0 : q97.T) (f1 : q54.T) (f2 : q78.T) (f3 : q85.T) (f4 : q81.T) (f5 : q82.T) (f6 : q63.T) (n_0 : Int) (l : (List Int)) (wiped : (List Int)) (K : Bool → Prop) : apure E (tv f0 f1 f2 f3 f4 f5 f6) (ltV f0 f1 f2 f3 f4 f5 f6) 4 7 [enc (.int .u8) n_0, enc (.slice (.int .i64)) l, enc (.slice (.int .i64)) wiped] (ansK C K) = FV f0 f1 f2 f3 f4 f5 f6 n_0 l wiped K := by kernel_rfl
theorem eq (x : Dens A) (K : Bool → Prop) : apure E tab lt 4 7 (encA A x) (ansK C K) = F x.1 x.2.1 x.2.2.1 K := eqv q97.F q54.F q78.F q85.F q81.F q82.F q63.F x.1 x.2.1 x.2.2.1 K
theorem l0v (f0 : q97.T) (f1 : q54.T) (f2 : q78.T) (f3 : q85.T) (f4 : q81.T) (f5 : q82.T) (f6 : q63.T) (R : St → Prop) (Kx : Nat → St → Prop) (Kr : St → Prop) (x : L0) : acode E (tv f0 f1 f2 f3 f4 f5 f6) (afun E (tv f0 f1 f2 f3 f4 f5 f6) 4) 120 (ltV f0 f1 f2 f3 f4 f5 f6) ((loopsIn E.P 7).getD 0 (0, .skip)).2 0 (fun s => R (keepSt kp0 s)) (fun j s => Kx j (keepSt kp0 s)) (fun s => Kr (keepSt kR s)) (c0 x) = b0V f0 f1 f2 f3 f4 f5 f6 (fun x => R (c0 x)) (fun x => Kx 0 (c0 x)) (fun r => Kr (cR r)) x := by kernel_rfl
theorem l0_ok : LSound E tab (afun E tab 4) 120 lt 0 ((loopsIn E.P 7).getD 0 (0, .skip)).2 (mkLoop 0 kp0 kR p0 c0 cR (b0V q97.F q54.F q78.F q85.F q81.F q82.F q63.F)) := mkLoop_sound (by decide) (by decide) p0_ok (fun R Kx Kr x => l0v q97.F q54.F q78.F q85.F q81.F q82.F q63.F R Kx Kr x)
theorem l2v (f0 : q97.T) (f1 : q54.T) (f2 : q78.T) (f3 : q85.T) (f4 : q81.T) (f5 : q82.T) (f6 : q63.T) (R : St → Prop) (Kx : Nat → St → Prop) (Kr : St → Prop) (x : L2) : acode E (tv f0 f1 f2 f3 f4 f5 f6) (afun E (tv f0 f1 f2 f3 f4 f5 f6) 4) 120 (ltV f0 f1 f2 f3 f4 f5 f6) ((loopsIn E.P 7).getD 1 (0, .skip)).2 2 (fun s => R (keepSt kp2 s)) (fun j s => Kx j (keepSt kp2 s)) (fun s => Kr (keepSt kR s)) (c2 x) = b2V f0 f1 f2 f3 f4 f5 f6 (fun x => R (c2 x)) (fun x => Kx 2 (c2 x)) (fun r => Kr (cR r)) x := by kernel_rfl
theorem l2_ok : LSound E tab (afun E tab 4) 120 lt 2 ((loopsIn E.P 7).getD 1 (0, .skip)).2 (mkLoop 2 kp2 kR p2 c2 cR (b2V q97.F q54.F q78.F q85.F q81.F q82.F q63.F)) := mkLoop_sound (by decide) (by decide) p2_ok (fun R Kx Kr x => l2v q97.F q54.F q78.F q85.F q81.F q82.F q63.F R Kx Kr x)
theorem loops : LoopsOk E tab lt 4 7 := loops_of (nt := 120) (ids := [0, 2]) (by kernel_rfl) (by kernel_rfl) (by
  intro k i hk l hl
  match k, hk with
  | 0, hk => cases hk; cases hl; exact l0_ok
  | 1, hk => cases hk; cases hl; exact l2_ok
  | _ + 2, hk => exact absurd hk (by simp))
theorem ground : Ground E tab := ⟨num, mixed, (tab_cons q97.sound (tab_cons q54.sound (tab_cons q78.sound (tab_cons q85.sound (tab_cons q81.sound (tab_cons q82.sound (tab_cons q63.sound (tab_nil _)))))))), clone, (dtab_nd (by kernel_rfl) (dtab_cons q54.edet (dtab_cons q78.edet (dtab_cons q85.edet (dtab_cons q81.edet (dtab_cons q82.edet (dtab_nd (by kernel_rfl) dtab_nil))))))), stab⟩
theorem sound : EntrySound E 7 en := mkSound ground loops (by kernel_rfl) (eq)
end q98
end Gm
