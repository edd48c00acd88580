/- Printed by a program (gen.py): the functions' answers, and that they are so. -/
import Derived.Test.YtfjhdboapcckpaaGreatDoorGdNv
set_option linter.unusedVariables false
set_option maxRecDepth 100000
namespace Gm
open Go Go.Proofs
namespace q9
abbrev A : List Ty := [.str]
abbrev C := (cTy (.int .u64))
abbrev T : Type := Str → (Int → Prop) → Prop
noncomputable def tab : Tab := []
structure R where
def cR (_ : R) : St := { fr := fun _ => .top, hs := hs0 }
def kR : Keep := { ks := [], bs := [], hn := 0 }
structure L0 where
  s : Str
  n0 : Int
  t5 : Int
  t6 : Int
def c0 (x : L0) : St := { fr := lookL .top [(0, (.str x.s)), (2, (.int .u64 x.n0)), (5, (.int .i64 x.t5)), (6, (.int .i64 x.t6))], hs := { hp := lookL .dead [], hn := 0 } }
def kp0 : Keep := { ks := [(0, none), (2, none), (5, none), (6, none)], bs := [], hn := 0 }
def p0 (st : St) (K : L0 → Prop) : Prop := gStr (st.fr 0) fun a1 => gInt .u64 (st.fr 2) fun a2 => gInt .i64 (st.fr 5) fun a3 => gInt .i64 (st.fr 6) fun a4 => K ⟨a1, a2, a3, a4⟩
set_option maxHeartbeats 4000000 in
theorem p0_ok (st : St) (K : L0 → Prop) (h : p0 st K) : ∃ x, keepSt kp0 st = c0 x ∧ K x := by
  obtain ⟨a1, h0, h⟩ := gStr_elim h
  obtain ⟨a2, h1, h⟩ := gInt_elim h
  obtain ⟨a3, h2, h⟩ := gInt_elim h
  obtain ⟨a4, h3, h⟩ := gInt_elim h
  refine ⟨_, ?_, h⟩
  simp only [keepSt, kp0, List.map, h0, h1, h2, h3]
  rfl
def b0 (rec kx : L0 → Prop) (kr : R → Prop) (x : L0) : Prop :=
  (bif (decide (x.t6 < x.t5)) then (oget (getI x.s x.t6) fun v1 => (rec ⟨x.s, (ior .u64 (ishl .u64 x.n0 8) (IntKind.u64.wrap (v1.toNat : Int))), x.t5, (IntKind.i64.wrap (x.t6 + 1))⟩)) else (kx ⟨x.s, x.n0, x.t5, x.t6⟩))
def lt : Nat → Option LSpec
  | 0 => some (mkLoop 0 kp0 kR p0 c0 cR b0)
  | _ => none
def F (s : Str) (K : Int → Prop) : Prop :=
  (∃ n, loopB b0 n (fun x2 => (K x2.n0)) (fun _ => False) ⟨s, 0, (s.length : Int), 0⟩)
noncomputable def en : Entry := mkEntry A C fun x => F x.1
theorem eqv (s : Str) (K : Int → Prop) : apure E tab lt 4 159 [enc .str s] (ansK C K) = F s K := by kernel_rfl
theorem l0v (R : St → Prop) (Kx : Nat → St → Prop) (Kr : St → Prop) (x : L0) : acode E tab (afun E tab 4) 18 lt ((loopsIn E.P 159).getD 0 (0, .skip)).2 0 (fun s => R (keepSt kp0 s)) (fun j s => Kx j (keepSt kp0 s)) (fun s => Kr (keepSt kR s)) (c0 x) = b0 (fun x => R (c0 x)) (fun x => Kx 0 (c0 x)) (fun r => Kr (cR r)) x := by kernel_rfl
theorem l0_ok : LSound E tab (afun E tab 4) 18 lt 0 ((loopsIn E.P 159).getD 0 (0, .skip)).2 (mkLoop 0 kp0 kR p0 c0 cR b0) := mkLoop_sound (by decide) (by decide) p0_ok (fun R Kx Kr x => l0v  R Kx Kr x)
theorem loops : LoopsOk E tab lt 4 159 := loops_of (nt := 18) (ids := [0]) (by kernel_rfl) (by kernel_rfl) (by
  intro k i hk l hl
  match k, hk with
  | 0, hk => cases hk; cases hl; exact l0_ok
  | _ + 1, hk => exact absurd hk (by simp))
theorem det (s : Str) : Det (F s) := by
  unfold F
  repeat' with_reducible first | exact det_ret _ | exact det_false | refine det_cond _ ?_ ?_ | refine det_oget _ (fun _ => ?_) | refine det_loop (fun _ => ?_) (fun _ => ?_) (fun _ => ?_) _ | unfold b0
theorem edet (a : List AV) : Det (en a) := mkEntry_det (fun x : Dens A => det x.1) a
theorem ground : Ground E tab := ⟨num, mixed, (tab_nil _), clone, dtab_nil, stab⟩
theorem sound : EntrySound E 159 en := mkSound ground loops (by kernel_rfl) (fun (x : Dens A) K => eqv  x.1 K)
end q9
namespace q10
abbrev A : List Ty := [.str]
abbrev C := (cTwo (.int .u32) .bool)
abbrev T : Type := Str → ((Int × Bool) → Prop) → Prop
noncomputable def tv (f0 : q9.T) : Tab := [(159, mkEntry q9.A q9.C fun x => f0 x.1)]
noncomputable def tab : Tab := tv q9.F
def FV (f0 : q9.T) (s : Str) (K : (Int × Bool) → Prop) : Prop :=
  (bif ((s.length : Int) != 4) then (K (0, false)) else (f0 s fun r1 => (K ((IntKind.u32.wrap r1), true))))
def F (s : Str) (K : (Int × Bool) → Prop) : Prop := FV q9.F s K
noncomputable def en : Entry := mkEntry A C fun x => F x.1
theorem eqv (f0 : q9.T) (s : Str) (K : (Int × Bool) → Prop) : apure E (tv f0) (fun _ => none) 4 115 [enc .str s] (ansK C K) = FV f0 s K := by kernel_rfl
theorem loops : LoopsOk E tab (fun _ => none) 4 115 := loops_none _ _ _ _
theorem det (s : Str) : Det (F s) := by
  unfold F FV
  repeat' with_reducible first | exact det_ret _ | refine det_cond _ ?_ ?_ | refine det_bind (q9.det _) (fun _ => ?_)
theorem edet (a : List AV) : Det (en a) := mkEntry_det (fun x : Dens A => det x.1) a
theorem ground : Ground E tab := ⟨num, mixed, (tab_cons q9.sound (tab_nil _)), clone, (dtab_cons q9.edet dtab_nil), stab⟩
theorem sound : EntrySound E 115 en := mkSound ground loops (by kernel_rfl) (fun (x : Dens A) K => eqv q9.F x.1 K)
end q10
namespace q11
abbrev A : List Ty := [.str]
abbrev C := (cTy (.int .u32))
abbrev T : Type := Str → (Int → Prop) → Prop
noncomputable def tab : Tab := []
structure R where
def cR (_ : R) : St := { fr := fun _ => .top, hs := hs0 }
def kR : Keep := { ks := [], bs := [], hn := 0 }
structure L0 where
  s : Str
  n0 : Int
  t6 : Int
  t7 : Int
def c0 (x : L0) : St := { fr := lookL .top [(0, (.str x.s)), (3, (.int .u32 x.n0)), (6, (.int .i64 x.t6)), (7, (.int .i64 x.t7))], hs := { hp := lookL .dead [], hn := 0 } }
def kp0 : Keep := { ks := [(0, none), (3, none), (6, none), (7, none)], bs := [], hn := 0 }
def p0 (st : St) (K : L0 → Prop) : Prop := gStr (st.fr 0) fun a1 => gInt .u32 (st.fr 3) fun a2 => gInt .i64 (st.fr 6) fun a3 => gInt .i64 (st.fr 7) fun a4 => K ⟨a1, a2, a3, a4⟩
set_option maxHeartbeats 4000000 in
theorem p0_ok (st : St) (K : L0 → Prop) (h : p0 st K) : ∃ x, keepSt kp0 st = c0 x ∧ K x := by
  obtain ⟨a1, h0, h⟩ := gStr_elim h
  obtain ⟨a2, h1, h⟩ := gInt_elim h
  obtain ⟨a3, h2, h⟩ := gInt_elim h
  obtain ⟨a4, h3, h⟩ := gInt_elim h
  refine ⟨_, ?_, h⟩
  simp only [keepSt, kp0, List.map, h0, h1, h2, h3]
  rfl
def b0 (rec kx : L0 → Prop) (kr : R → Prop) (x : L0) : Prop :=
  (bif (decide (x.t7 < x.t6)) then (oget (getI x.s x.t7) fun v1 => (rec ⟨x.s, (IntKind.u32.wrap ((ixor .u32 x.n0 (IntKind.u32.wrap (v1.toNat : Int))) * 16777619)), x.t6, (IntKind.i64.wrap (x.t7 + 1))⟩)) else (kx ⟨x.s, x.n0, x.t6, x.t7⟩))
def lt : Nat → Option LSpec
  | 0 => some (mkLoop 0 kp0 kR p0 c0 cR b0)
  | _ => none
def F (s : Str) (K : Int → Prop) : Prop :=
  (∃ n, loopB b0 n (fun x2 => (K x2.n0)) (fun _ => False) ⟨s, 2166136261, (s.length : Int), 0⟩)
noncomputable def en : Entry := mkEntry A C fun x => F x.1
theorem eqv (s : Str) (K : Int → Prop) : apure E tab lt 4 153 [enc .str s] (ansK C K) = F s K := by kernel_rfl
theorem l0v (R : St → Prop) (Kx : Nat → St → Prop) (Kr : St → Prop) (x : L0) : acode E tab (afun E tab 4) 19 lt ((loopsIn E.P 153).getD 0 (0, .skip)).2 0 (fun s => R (keepSt kp0 s)) (fun j s => Kx j (keepSt kp0 s)) (fun s => Kr (keepSt kR s)) (c0 x) = b0 (fun x => R (c0 x)) (fun x => Kx 0 (c0 x)) (fun r => Kr (cR r)) x := by kernel_rfl
theorem l0_ok : LSound E tab (afun E tab 4) 19 lt 0 ((loopsIn E.P 153).getD 0 (0, .skip)).2 (mkLoop 0 kp0 kR p0 c0 cR b0) := mkLoop_sound (by decide) (by decide) p0_ok (fun R Kx Kr x => l0v  R Kx Kr x)
theorem loops : LoopsOk E tab lt 4 153 := loops_of (nt := 19) (ids := [0]) (by kernel_rfl) (by kernel_rfl) (by
  intro k i hk l hl
  match k, hk with
  | 0, hk => cases hk; cases hl; exact l0_ok
  | _ + 1, hk => exact absurd hk (by simp))
theorem det (s : Str) : Det (F s) := by
  unfold F
  repeat' with_reducible first | exact det_ret _ | exact det_false | refine det_cond _ ?_ ?_ | refine det_oget _ (fun _ => ?_) | refine det_loop (fun _ => ?_) (fun _ => ?_) (fun _ => ?_) _ | unfold b0
theorem edet (a : List AV) : Det (en a) := mkEntry_det (fun x : Dens A => det x.1) a
theorem ground : Ground E tab := ⟨num, mixed, (tab_nil _), clone, dtab_nil, stab⟩
theorem sound : EntrySound E 153 en := mkSound ground loops (by kernel_rfl) (fun (x : Dens A) K => eqv  x.1 K)
end q11
namespace q13
abbrev A : List Ty := [.str]
abbrev C := (cTwo .str (.int .i64))
abbrev T : Type := Str → ((Str × Int) → Prop) → Prop
noncomputable def tv (f0 : q10.T) (f1 : q11.T) : Tab := [(115, mkEntry q10.A q10.C fun x => f0 x.1), (153, mkEntry q11.A q11.C fun x => f1 x.1)]
noncomputable def tab : Tab := tv q10.F q11.F
def FV (f0 : q10.T) (f1 : q11.T) (s : Str) (K : (Str × Int) → Prop) : Prop :=
  (bif (decide ((IntKind.i64.wrap ((s.length : Int) - 4)) < 0)) then (K (([] : Str), 2)) else (bif (decide (0 ≤ (IntKind.i64.wrap ((s.length : Int) - 4))) && decide ((IntKind.i64.wrap ((s.length : Int) - 4)) ≤ (s.length : Int))) then (f0 (sub s (Int.toNat (IntKind.i64.wrap ((s.length : Int) - 4))) s.length) fun r1 => (bif (decide (0 ≤ (IntKind.i64.wrap ((s.length : Int) - 4))) && decide ((IntKind.i64.wrap ((s.length : Int) - 4)) ≤ (s.length : Int))) then (f1 (sub s 0 (Int.toNat (IntKind.i64.wrap ((s.length : Int) - 4)))) fun r2 => (bif (r1.1 != r2) then (K (([] : Str), 3)) else (bif (decide (0 ≤ (IntKind.i64.wrap ((s.length : Int) - 4))) && decide ((IntKind.i64.wrap ((s.length : Int) - 4)) ≤ (s.length : Int))) then (K ((sub s 0 (Int.toNat (IntKind.i64.wrap ((s.length : Int) - 4)))), 0)) else False))) else False)) else False))
def F (s : Str) (K : (Str × Int) → Prop) : Prop := FV q10.F q11.F s K
noncomputable def en : Entry := mkEntry A C fun x => F x.1
theorem eqv (f0 : q10.T) (f1 : q11.T) (s : Str) (K : (Str × Int) → Prop) : apure E (tv f0 f1) (fun _ => none) 4 114 [enc .str s] (ansK C K) = FV f0 f1 s K := by kernel_rfl
theorem loops : LoopsOk E tab (fun _ => none) 4 114 := loops_none _ _ _ _
theorem det (s : Str) : Det (F s) := by
  unfold F FV
  repeat' with_reducible first | exact det_ret _ | exact det_false | refine det_cond _ ?_ ?_ | refine det_bind (q10.det _) (fun _ => ?_) | refine det_bind (q11.det _) (fun _ => ?_)
theorem edet (a : List AV) : Det (en a) := mkEntry_det (fun x : Dens A => det x.1) a
theorem ground : Ground E tab := ⟨num, mixed, (tab_cons q10.sound (tab_cons q11.sound (tab_nil _))), clone, (dtab_cons q10.edet (dtab_cons q11.edet dtab_nil)), stab⟩
theorem sound : EntrySound E 114 en := mkSound ground loops (by kernel_rfl) (fun (x : Dens A) K => eqv q10.F q11.F x.1 K)
end q13
namespace q14
abbrev A : List Ty := [.str, .str]
abbrev C := (cTy .bool)
abbrev T : Type := Str → Str → (Bool → Prop) → Prop
noncomputable def tab : Tab := []
def F (s : Str) (prefix_1 : Str) (K : Bool → Prop) : Prop :=
  (bif (decide ((s.length : Int) ≥ (prefix_1.length : Int))) then (bif (decide (0 ≤ (prefix_1.length : Int)) && decide ((prefix_1.length : Int) ≤ (s.length : Int))) then (K ((sub s 0 (Int.toNat (prefix_1.length : Int))) == prefix_1)) else False) else (K false))
noncomputable def en : Entry := mkEntry A C fun x => F x.1 x.2.1
theorem eqv (s : Str) (prefix_1 : Str) (K : Bool → Prop) : apure E tab (fun _ => none) 4 240 [enc .str s, enc .str prefix_1] (ansK C K) = F s prefix_1 K := by kernel_rfl
theorem loops : LoopsOk E tab (fun _ => none) 4 240 := loops_none _ _ _ _
theorem det (s : Str) (prefix_1 : Str) : Det (F s prefix_1) := by
  unfold F
  repeat' with_reducible first | exact det_ret _ | exact det_false | refine det_cond _ ?_ ?_
theorem edet (a : List AV) : Det (en a) := mkEntry_det (fun x : Dens A => det x.1 x.2.1) a
theorem ground : Ground E tab := ⟨num, mixed, (tab_nil _), clone, dtab_nil, stab⟩
theorem sound : EntrySound E 240 en := mkSound ground loops (by kernel_rfl) (fun (x : Dens A) K => eqv  x.1 x.2.1 K)
end q14
namespace q15
abbrev A : List Ty := [.str, .str]
abbrev C := (cTwo .str .bool)
abbrev T : Type := Str → Str → ((Str × Bool) → Prop) → Prop
noncomputable def tv (f0 : q14.T) : Tab := [(240, mkEntry q14.A q14.C fun x => f0 x.1 x.2.1)]
noncomputable def tab : Tab := tv q14.F
def FV (f0 : q14.T) (s : Str) (prefix_1 : Str) (K : (Str × Bool) → Prop) : Prop :=
  (f0 s prefix_1 fun r1 => (bif (!r1) then (K (s, false)) else (bif (decide (0 ≤ (prefix_1.length : Int)) && decide ((prefix_1.length : Int) ≤ (s.length : Int))) then (K ((sub s (Int.toNat (prefix_1.length : Int)) s.length), true)) else False)))
def F (s : Str) (prefix_1 : Str) (K : (Str × Bool) → Prop) : Prop := FV q14.F s prefix_1 K
noncomputable def en : Entry := mkEntry A C fun x => F x.1 x.2.1
theorem eqv (f0 : q14.T) (s : Str) (prefix_1 : Str) (K : (Str × Bool) → Prop) : apure E (tv f0) (fun _ => none) 4 234 [enc .str s, enc .str prefix_1] (ansK C K) = FV f0 s prefix_1 K := by kernel_rfl
theorem loops : LoopsOk E tab (fun _ => none) 4 234 := loops_none _ _ _ _
theorem det (s : Str) (prefix_1 : Str) : Det (F s prefix_1) := by
  unfold F FV
  repeat' with_reducible first | exact det_ret _ | exact det_false | refine det_cond _ ?_ ?_ | refine det_bind (q14.det _ _) (fun _ => ?_)
theorem edet (a : List AV) : Det (en a) := mkEntry_det (fun x : Dens A => det x.1 x.2.1) a
theorem ground : Ground E tab := ⟨num, mixed, (tab_cons q14.sound (tab_nil _)), clone, (dtab_cons q14.edet dtab_nil), stab⟩
theorem sound : EntrySound E 234 en := mkSound ground loops (by kernel_rfl) (fun (x : Dens A) K => eqv q14.F x.1 x.2.1 K)
end q15
namespace q16
abbrev A : List Ty := [.str, .str]
abbrev C := (cTwo .str .bool)
abbrev T : Type := Str → Str → ((Str × Bool) → Prop) → Prop
noncomputable def tv (f0 : q15.T) : Tab := [(234, mkEntry q15.A q15.C fun x => f0 x.1 x.2.1)]
noncomputable def tab : Tab := tv q15.F
def FV (f0 : q15.T) (s : Str) (prefix_1 : Str) (K : (Str × Bool) → Prop) : Prop :=
  (f0 s prefix_1 fun r1 => (K (r1.1, r1.2)))
def F (s : Str) (prefix_1 : Str) (K : (Str × Bool) → Prop) : Prop := FV q15.F s prefix_1 K
noncomputable def en : Entry := mkEntry A C fun x => F x.1 x.2.1
theorem eqv (f0 : q15.T) (s : Str) (prefix_1 : Str) (K : (Str × Bool) → Prop) : apure E (tv f0) (fun _ => none) 4 220 [enc .str s, enc .str prefix_1] (ansK C K) = FV f0 s prefix_1 K := by kernel_rfl
theorem loops : LoopsOk E tab (fun _ => none) 4 220 := loops_none _ _ _ _
theorem det (s : Str) (prefix_1 : Str) : Det (F s prefix_1) := by
  unfold F FV
  repeat' with_reducible first | exact det_ret _ | refine det_bind (q15.det _ _) (fun _ => ?_)
theorem edet (a : List AV) : Det (en a) := mkEntry_det (fun x : Dens A => det x.1 x.2.1) a
theorem ground : Ground E tab := ⟨num, mixed, (tab_cons q15.sound (tab_nil _)), clone, (dtab_cons q15.edet dtab_nil), stab⟩
theorem sound : EntrySound E 220 en := mkSound ground loops (by kernel_rfl) (fun (x : Dens A) K => eqv q15.F x.1 x.2.1 K)
end q16
namespace q17
abbrev A : List Ty := [(.int .u8), (.int .i64)]
abbrev C := (cTwo (.slice .bool) .bool)
abbrev T : Type := Int → Int → (((List Bool) × Bool) → Prop) → Prop
noncomputable def tab : Tab := []
structure R where
def cR (_ : R) : St := { fr := fun _ => .top, hs := hs0 }
def kR : Keep := { ks := [], bs := [], hn := 0 }
structure L0 where
  b0 : Int
  l : (List Bool)
  t23 : Int
  t24 : Int
def c0 (x : L0) : St := { fr := lookL .top [(0, (.int .u8 x.b0)), (6, (.slr 1)), (23, (.int .i64 x.t23)), (24, (.int .i64 x.t24))], hs := { hp := lookL .dead [(1, (.row false .bool x.l))], hn := 2 } }
def kp0 : Keep := { ks := [(0, none), (6, some 1), (23, none), (24, none)], bs := [], hn := 2 }
def p0 (st : St) (K : L0 → Prop) : Prop := gHomes kp0 st <| gInt .u8 (st.fr 0) fun a1 => gSlr (st.fr 6) fun c2 => gRow false .bool (st.hs.hp c2) fun a3 => gInt .i64 (st.fr 23) fun a4 => gInt .i64 (st.fr 24) fun a5 => K ⟨a1, a3, a4, a5⟩
set_option maxHeartbeats 4000000 in
theorem p0_ok (st : St) (K : L0 → Prop) (h : p0 st K) : ∃ x, keepSt kp0 st = c0 x ∧ K x := by
  obtain ⟨h0, h⟩ := gHomes_elim h
  obtain ⟨a1, h1, h⟩ := gInt_elim h
  obtain ⟨c2, h2, h⟩ := gSlr_elim h
  obtain ⟨a3, h3, h⟩ := gRow_elim h
  obtain ⟨a4, h4, h⟩ := gInt_elim h
  obtain ⟨a5, h5, h⟩ := gInt_elim h
  refine ⟨_, ?_, h⟩
  simp only [keepSt, h0]
  simp only [kp0, List.map, List.filterMap, homeOf, h1, h2, h3, h4, h5, hmOf, List.append_nil, cond_true]
  rfl
def b0 (rec kx : L0 → Prop) (kr : R → Prop) (x : L0) : Prop :=
  (bif (decide (x.t24 < x.t23)) then (bif (decide (0 ≤ x.t24)) then (bif (decide (0 ≤ x.t24) && decide (x.t24 < (x.l.length : Int))) then (rec ⟨x.b0, (x.l.set (Int.toNat x.t24) ((iand .u8 (ishr .u8 x.b0 x.t24) 1) == 1)), x.t23, (IntKind.i64.wrap (x.t24 + 1))⟩) else False) else False) else (kx ⟨x.b0, x.l, x.t23, x.t24⟩))
def lt : Nat → Option LSpec
  | 0 => some (mkLoop 0 kp0 kR p0 c0 cR b0)
  | _ => none
def F (b_0 : Int) (n_1 : Int) (K : ((List Bool) × Bool) → Prop) : Prop :=
  (bif (decide (n_1 < 0)) then (K (([] : List Bool), false)) else (bif (decide (n_1 > 8)) then (K (([] : List Bool), false)) else (bif (decide (0 ≤ n_1)) then (bif ((ishr .u8 b_0 n_1) != 0) then (K (([] : List Bool), false)) else (bif (n_1 == n_1 && (decide (0 ≤ n_1) && decide (n_1 * (1 : Nat) ≤ (room : Int)))) then (∃ n, loopB b0 n (fun x1 => (K (x1.l, true))) (fun _ => False) ⟨b_0, (List.replicate (Int.toNat n_1) (false : Bool)), ((List.replicate (Int.toNat n_1) (false : Bool)).length : Int), 0⟩) else False)) else False)))
noncomputable def en : Entry := mkEntry A C fun x => F x.1 x.2.1
theorem eqv (b_0 : Int) (n_1 : Int) (K : ((List Bool) × Bool) → Prop) : apure E tab lt 4 221 [enc (.int .u8) b_0, enc (.int .i64) n_1] (ansK C K) = F b_0 n_1 K := by kernel_rfl
theorem l0v (R : St → Prop) (Kx : Nat → St → Prop) (Kr : St → Prop) (x : L0) : acode E tab (afun E tab 4) 37 lt ((loopsIn E.P 221).getD 0 (0, .skip)).2 0 (fun s => R (keepSt kp0 s)) (fun j s => Kx j (keepSt kp0 s)) (fun s => Kr (keepSt kR s)) (c0 x) = b0 (fun x => R (c0 x)) (fun x => Kx 0 (c0 x)) (fun r => Kr (cR r)) x := by kernel_rfl
theorem l0_ok : LSound E tab (afun E tab 4) 37 lt 0 ((loopsIn E.P 221).getD 0 (0, .skip)).2 (mkLoop 0 kp0 kR p0 c0 cR b0) := mkLoop_sound (by decide) (by decide) p0_ok (fun R Kx Kr x => l0v  R Kx Kr x)
theorem loops : LoopsOk E tab lt 4 221 := loops_of (nt := 37) (ids := [0]) (by kernel_rfl) (by kernel_rfl) (by
  intro k i hk l hl
  match k, hk with
  | 0, hk => cases hk; cases hl; exact l0_ok
  | _ + 1, hk => exact absurd hk (by simp))
theorem det (b_0 : Int) (n_1 : Int) : Det (F b_0 n_1) := by
  unfold F
  repeat' with_reducible first | exact det_ret _ | exact det_false | refine det_cond _ ?_ ?_ | refine det_loop (fun _ => ?_) (fun _ => ?_) (fun _ => ?_) _ | unfold b0
theorem edet (a : List AV) : Det (en a) := mkEntry_det (fun x : Dens A => det x.1 x.2.1) a
theorem ground : Ground E tab := ⟨num, mixed, (tab_nil _), clone, dtab_nil, stab⟩
theorem sound : EntrySound E 221 en := mkSound ground loops (by kernel_rfl) (fun (x : Dens A) K => eqv  x.1 x.2.1 K)
end q17
namespace q18
abbrev A : List Ty := [.str]
abbrev C := (cTwo (.int .u64) .bool)
abbrev T : Type := Str → ((Int × Bool) → Prop) → Prop
noncomputable def tv (f0 : q9.T) : Tab := [(159, mkEntry q9.A q9.C fun x => f0 x.1)]
noncomputable def tab : Tab := tv q9.F
def FV (f0 : q9.T) (s : Str) (K : (Int × Bool) → Prop) : Prop :=
  (bif ((s.length : Int) != 8) then (K (0, false)) else (f0 s fun r1 => (K (r1, true))))
def F (s : Str) (K : (Int × Bool) → Prop) : Prop := FV q9.F s K
noncomputable def en : Entry := mkEntry A C fun x => F x.1
theorem eqv (f0 : q9.T) (s : Str) (K : (Int × Bool) → Prop) : apure E (tv f0) (fun _ => none) 4 222 [enc .str s] (ansK C K) = FV f0 s K := by kernel_rfl
theorem loops : LoopsOk E tab (fun _ => none) 4 222 := loops_none _ _ _ _
theorem det (s : Str) : Det (F s) := by
  unfold F FV
  repeat' with_reducible first | exact det_ret _ | refine det_cond _ ?_ ?_ | refine det_bind (q9.det _) (fun _ => ?_)
theorem edet (a : List AV) : Det (en a) := mkEntry_det (fun x : Dens A => det x.1) a
theorem ground : Ground E tab := ⟨num, mixed, (tab_cons q9.sound (tab_nil _)), clone, (dtab_cons q9.edet dtab_nil), stab⟩
theorem sound : EntrySound E 222 en := mkSound ground loops (by kernel_rfl) (fun (x : Dens A) K => eqv q9.F x.1 K)
end q18
namespace q19
abbrev A : List Ty := [(.int .i64)]
abbrev C := (cTy .bool)
abbrev T : Type := Int → (Bool → Prop) → Prop
noncomputable def tab : Tab := []
def F (i : Int) (K : Bool → Prop) : Prop :=
  (bif (decide (i ≥ 0)) then (K (decide (i < 32))) else (K false))
noncomputable def en : Entry := mkEntry A C fun x => F x.1
theorem eqv (i : Int) (K : Bool → Prop) : apure E tab (fun _ => none) 4 146 [enc (.int .i64) i] (ansK C K) = F i K := by kernel_rfl
theorem loops : LoopsOk E tab (fun _ => none) 4 146 := loops_none _ _ _ _
theorem det (i : Int) : Det (F i) := by
  unfold F
  repeat' with_reducible first | exact det_ret _ | refine det_cond _ ?_ ?_
theorem edet (a : List AV) : Det (en a) := mkEntry_det (fun x : Dens A => det x.1) a
theorem ground : Ground E tab := ⟨num, mixed, (tab_nil _), clone, dtab_nil, stab⟩
theorem sound : EntrySound E 146 en := mkSound ground loops (by kernel_rfl) (fun (x : Dens A) K => eqv  x.1 K)
end q19
namespace q20
abbrev A : List Ty := [(.int .i64)]
abbrev C := (cTy (.int .u32))
abbrev T : Type := Int → (Int → Prop) → Prop
noncomputable def tv (f0 : q19.T) : Tab := [(146, mkEntry q19.A q19.C fun x => f0 x.1)]
noncomputable def tab : Tab := tv q19.F
def FV (f0 : q19.T) (blocks : Int) (K : Int → Prop) : Prop :=
  (f0 (IntKind.i64.wrap (blocks - 1)) fun r1 => (bif (!r1) then (K 0) else (bif (decide (0 ≤ blocks)) then (K (IntKind.u32.wrap ((ishl .u32 1 blocks) - 1))) else False)))
def F (blocks : Int) (K : Int → Prop) : Prop := FV q19.F blocks K
noncomputable def en : Entry := mkEntry A C fun x => F x.1
theorem eqv (f0 : q19.T) (blocks : Int) (K : Int → Prop) : apure E (tv f0) (fun _ => none) 4 187 [enc (.int .i64) blocks] (ansK C K) = FV f0 blocks K := by kernel_rfl
theorem loops : LoopsOk E tab (fun _ => none) 4 187 := loops_none _ _ _ _
theorem det (blocks : Int) : Det (F blocks) := by
  unfold F FV
  repeat' with_reducible first | exact det_ret _ | exact det_false | refine det_cond _ ?_ ?_ | refine det_bind (q19.det _) (fun _ => ?_)
theorem edet (a : List AV) : Det (en a) := mkEntry_det (fun x : Dens A => det x.1) a
theorem ground : Ground E tab := ⟨num, mixed, (tab_cons q19.sound (tab_nil _)), clone, (dtab_cons q19.edet dtab_nil), stab⟩
theorem sound : EntrySound E 187 en := mkSound ground loops (by kernel_rfl) (fun (x : Dens A) K => eqv q19.F x.1 K)
end q20
namespace q21
abbrev A : List Ty := [(.st 2)]
abbrev C := (cTy .bool)
abbrev T : Type := Vec → (Bool → Prop) → Prop
noncomputable def tab : Tab := []
def F (v : Vec) (K : Bool → Prop) : Prop :=
  (K (v.current != 0))
noncomputable def en : Entry := mkEntry A C fun x => F x.1
theorem eqv (v : Vec) (K : Bool → Prop) : apure E tab (fun _ => none) 4 218 [enc (.st 2) v] (ansK C K) = F v K := by kernel_rfl
theorem loops : LoopsOk E tab (fun _ => none) 4 218 := loops_none _ _ _ _
theorem det (v : Vec) : Det (F v) := by
  unfold F
  repeat' with_reducible first | exact det_ret _
theorem edet (a : List AV) : Det (en a) := mkEntry_det (fun x : Dens A => det x.1) a
theorem ground : Ground E tab := ⟨num, mixed, (tab_nil _), clone, dtab_nil, stab⟩
theorem sound : EntrySound E 218 en := mkSound ground loops (by kernel_rfl) (fun (x : Dens A) K => eqv  x.1 K)
end q21
namespace q22
abbrev A : List Ty := [(.st 3)]
abbrev C := (cTy .bool)
abbrev T : Type := Super → (Bool → Prop) → Prop
noncomputable def tv (f0 : q20.T) (f1 : q21.T) : Tab := [(187, mkEntry q20.A q20.C fun x => f0 x.1), (218, mkEntry q21.A q21.C fun x => f1 x.1)]
noncomputable def tab : Tab := tv q20.F q21.F
def FV (f0 : q20.T) (f1 : q21.T) (s : Super) (K : Bool → Prop) : Prop :=
  (f0 s.blocks fun r1 => (bif (r1 != 0) then (f1 s.vector fun r2 => (K r2)) else (K false)))
def F (s : Super) (K : Bool → Prop) : Prop := FV q20.F q21.F s K
noncomputable def en : Entry := mkEntry A C fun x => F x.1
theorem eqv (f0 : q20.T) (f1 : q21.T) (s : Super) (K : Bool → Prop) : apure E (tv f0 f1) (fun _ => none) 4 181 [enc (.st 3) s] (ansK C K) = FV f0 f1 s K := by kernel_rfl
theorem loops : LoopsOk E tab (fun _ => none) 4 181 := loops_none _ _ _ _
theorem det (s : Super) : Det (F s) := by
  unfold F FV
  repeat' with_reducible first | exact det_ret _ | refine det_cond _ ?_ ?_ | refine det_bind (q20.det _) (fun _ => ?_) | refine det_bind (q21.det _) (fun _ => ?_)
theorem edet (a : List AV) : Det (en a) := mkEntry_det (fun x : Dens A => det x.1) a
theorem ground : Ground E tab := ⟨num, mixed, (tab_cons q20.sound (tab_cons q21.sound (tab_nil _))), clone, (dtab_cons q20.edet (dtab_cons q21.edet dtab_nil)), stab⟩
theorem sound : EntrySound E 181 en := mkSound ground loops (by kernel_rfl) (fun (x : Dens A) K => eqv q20.F q21.F x.1 K)
end q22
namespace q23
abbrev A : List Ty := [.str]
abbrev C := (cTwo (.st 3) (.int .i64))
abbrev T : Type := Str → ((Super × Int) → Prop) → Prop
noncomputable def tv (f0 : q13.T) (f1 : q16.T) (f2 : q17.T) (f3 : q18.T) (f4 : q22.T) : Tab := [(114, mkEntry q13.A q13.C fun x => f0 x.1), (157, errors_Is.en), (220, mkEntry q16.A q16.C fun x => f1 x.1 x.2.1), (221, mkEntry q17.A q17.C fun x => f2 x.1 x.2.1), (222, mkEntry q18.A q18.C fun x => f3 x.1), (181, mkEntry q22.A q22.C fun x => f4 x.1)]
noncomputable def tab : Tab := tv q13.F q16.F q17.F q18.F q22.F
def FV (f0 : q13.T) (f1 : q16.T) (f2 : q17.T) (f3 : q18.T) (f4 : q22.T) (b_0 : Str) (K : (Super × Int) → Prop) : Prop :=
  (f0 b_0 fun r1 => (bif (r1.2 != 0) then False else (f1 r1.1 ([71, 77, 1] : Str) fun r2 => (bif (!r2.2) then False else (bif (decide ((r2.1.length : Int) < 2)) then False else (oget (getI r2.1 1) fun v3 => (f2 (v3.toNat : Int) 3 fun r4 => (bif (!r4.2) then False else (oget (getI r2.1 0) fun v5 => (oget (getI r4.1 0) fun v6 => (oget (getI r4.1 1) fun v7 => (oget (getI r4.1 2) fun v8 => (bif (decide (0 ≤ 2) && decide (2 ≤ (r2.1.length : Int))) then ((((bif (((sub r2.1 (Int.toNat 2) r2.1.length).length : Int) != 32) then ((False ∧ True) ∧ True) else (bif (decide (0 ≤ 0) && decide (0 ≤ 8) && decide (8 ≤ ((sub r2.1 (Int.toNat 2) r2.1.length).length : Int))) then (f3 (sub (sub r2.1 (Int.toNat 2) r2.1.length) (Int.toNat 0) (Int.toNat 8)) fun r19 => (bif (decide (0 ≤ 8) && decide (8 ≤ 16) && decide (16 ≤ ((sub r2.1 (Int.toNat 2) r2.1.length).length : Int))) then (f3 (sub (sub r2.1 (Int.toNat 2) r2.1.length) (Int.toNat 8) (Int.toNat 16)) fun r20 => (bif (decide (0 ≤ 16) && decide (16 ≤ 24) && decide (24 ≤ ((sub r2.1 (Int.toNat 2) r2.1.length).length : Int))) then (f3 (sub (sub r2.1 (Int.toNat 2) r2.1.length) (Int.toNat 16) (Int.toNat 24)) fun r21 => (bif (decide (0 ≤ 24) && decide (24 ≤ 32) && decide (32 ≤ ((sub r2.1 (Int.toNat 2) r2.1.length).length : Int))) then (f3 (sub (sub r2.1 (Int.toNat 2) r2.1.length) (Int.toNat 24) (Int.toNat 32)) fun r22 => (f4 (⟨(IntKind.i64.wrap (v5.toNat : Int)), (⟨r19.1, r20.1, r21.1, r22.1⟩ : Vec), v6, v7, v8⟩ : Super) fun r23 => (bif (!r23) then ((False ∧ True) ∧ True) else (((K ((⟨(IntKind.i64.wrap (v5.toNat : Int)), (⟨0, 0, 0, 0⟩ : Vec), v6, v7, v8⟩ : Super), 0)) ∧ True) ∧ True)))) else False)) else False)) else False)) else False)) ∧ True) ∧ True) ∧ ((((bif (((sub r2.1 (Int.toNat 2) r2.1.length).length : Int) != 32) then ((False ∧ True) ∧ True) else (bif (decide (0 ≤ 0) && decide (0 ≤ 8) && decide (8 ≤ ((sub r2.1 (Int.toNat 2) r2.1.length).length : Int))) then (f3 (sub (sub r2.1 (Int.toNat 2) r2.1.length) (Int.toNat 0) (Int.toNat 8)) fun r14 => (bif (decide (0 ≤ 8) && decide (8 ≤ 16) && decide (16 ≤ ((sub r2.1 (Int.toNat 2) r2.1.length).length : Int))) then (f3 (sub (sub r2.1 (Int.toNat 2) r2.1.length) (Int.toNat 8) (Int.toNat 16)) fun r15 => (bif (decide (0 ≤ 16) && decide (16 ≤ 24) && decide (24 ≤ ((sub r2.1 (Int.toNat 2) r2.1.length).length : Int))) then (f3 (sub (sub r2.1 (Int.toNat 2) r2.1.length) (Int.toNat 16) (Int.toNat 24)) fun r16 => (bif (decide (0 ≤ 24) && decide (24 ≤ 32) && decide (32 ≤ ((sub r2.1 (Int.toNat 2) r2.1.length).length : Int))) then (f3 (sub (sub r2.1 (Int.toNat 2) r2.1.length) (Int.toNat 24) (Int.toNat 32)) fun r17 => (f4 (⟨(IntKind.i64.wrap (v5.toNat : Int)), (⟨r14.1, r15.1, r16.1, r17.1⟩ : Vec), v6, v7, v8⟩ : Super) fun r18 => (bif (!r18) then ((False ∧ True) ∧ True) else (((K ((⟨(IntKind.i64.wrap (v5.toNat : Int)), (⟨0, 0, 0, 0⟩ : Vec), v6, v7, v8⟩ : Super), 0)) ∧ True) ∧ True)))) else False)) else False)) else False)) else False)) ∧ True) ∧ ((bif (((sub r2.1 (Int.toNat 2) r2.1.length).length : Int) != 32) then (((False ∧ True) ∧ True) ∧ True) else (bif (decide (0 ≤ 0) && decide (0 ≤ 8) && decide (8 ≤ ((sub r2.1 (Int.toNat 2) r2.1.length).length : Int))) then (f3 (sub (sub r2.1 (Int.toNat 2) r2.1.length) (Int.toNat 0) (Int.toNat 8)) fun r9 => (bif (decide (0 ≤ 8) && decide (8 ≤ 16) && decide (16 ≤ ((sub r2.1 (Int.toNat 2) r2.1.length).length : Int))) then (f3 (sub (sub r2.1 (Int.toNat 2) r2.1.length) (Int.toNat 8) (Int.toNat 16)) fun r10 => (bif (decide (0 ≤ 16) && decide (16 ≤ 24) && decide (24 ≤ ((sub r2.1 (Int.toNat 2) r2.1.length).length : Int))) then (f3 (sub (sub r2.1 (Int.toNat 2) r2.1.length) (Int.toNat 16) (Int.toNat 24)) fun r11 => (bif (decide (0 ≤ 24) && decide (24 ≤ 32) && decide (32 ≤ ((sub r2.1 (Int.toNat 2) r2.1.length).length : Int))) then (f3 (sub (sub r2.1 (Int.toNat 2) r2.1.length) (Int.toNat 24) (Int.toNat 32)) fun r12 => (f4 (⟨(IntKind.i64.wrap (v5.toNat : Int)), (⟨r9.1, r10.1, r11.1, r12.1⟩ : Vec), v6, v7, v8⟩ : Super) fun r13 => (bif (!r13) then (((False ∧ True) ∧ True) ∧ True) else ((((K ((⟨(IntKind.i64.wrap (v5.toNat : Int)), (⟨r9.1, r10.1, r11.1, r12.1⟩ : Vec), v6, v7, v8⟩ : Super), 0)) ∧ True) ∧ True) ∧ True)))) else False)) else False)) else False)) else False)) ∧ True)) ∧ True)) else False)))))))))))))
def F (b_0 : Str) (K : (Super × Int) → Prop) : Prop := FV q13.F q16.F q17.F q18.F q22.F b_0 K
noncomputable def en : Entry := mkEntry A C fun x => F x.1
theorem eqv (f0 : q13.T) (f1 : q16.T) (f2 : q17.T) (f3 : q18.T) (f4 : q22.T) (b_0 : Str) (K : (Super × Int) → Prop) : apure E (tv f0 f1 f2 f3 f4) (fun _ => none) 4 112 [enc .str b_0] (ansK C K) = FV f0 f1 f2 f3 f4 b_0 K := by kernel_rfl
theorem loops : LoopsOk E tab (fun _ => none) 4 112 := loops_none _ _ _ _
theorem ground : Ground E tab := ⟨num, mixed, (tab_cons q13.sound (tab_cons errors_Is.sound (tab_cons q16.sound (tab_cons q17.sound (tab_cons q18.sound (tab_cons q22.sound (tab_nil _))))))), clone, (dtab_cons q13.edet (dtab_cons errors_Is.edet (dtab_cons q16.edet (dtab_cons q17.edet (dtab_cons q18.edet (dtab_cons q22.edet dtab_nil)))))), stab⟩
theorem sound : EntrySound E 112 en := mkSound ground loops (by kernel_rfl) (fun (x : Dens A) K => eqv q13.F q16.F q17.F q18.F q22.F x.1 K)
end q23
end Gm
