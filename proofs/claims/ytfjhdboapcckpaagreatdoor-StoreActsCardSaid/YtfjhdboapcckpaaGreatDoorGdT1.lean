/- Printed by a program (gen.py): the functions' answers, and that they are so. -/
import Derived.Test.YtfjhdboapcckpaaGreatDoorGdRd3
set_option linter.unusedVariables false
set_option maxRecDepth 100000
namespace Gm
open Go Go.Proofs
namespace q24
abbrev A : List Ty := [(.st 3)]
abbrev C := (cTy .bool)
abbrev T : Type := Super → (Bool → Prop) → Prop
noncomputable def tab : Tab := []
def F (s : Super) (K : Bool → Prop) : Prop :=
  (bif (decide (s.blocks ≥ 1)) then (bif (decide (s.blocks ≤ 32)) then (K (s.vector.current != 0)) else (K false)) else (K false))
noncomputable def en : Entry := mkEntry A C fun x => F x.1
theorem eqv (s : Super) (K : Bool → Prop) : apure E tab (fun _ => none) 4 137 [enc (.st 3) s] (ansK C K) = F s K := by kernel_rfl
theorem loops : LoopsOk E tab (fun _ => none) 4 137 := loops_none _ _ _ _
theorem det (s : Super) : Det (F s) := by
  unfold F
  repeat' with_reducible first | exact det_ret _ | refine det_cond _ ?_ ?_
theorem edet (a : List AV) : Det (en a) := mkEntry_det (fun x : Dens A => det x.1) a
theorem ground : Ground E tab := ⟨num, mixed, (tab_nil _), clone, dtab_nil, stab⟩
theorem sound : EntrySound E 137 en := mkSound ground loops (by kernel_rfl) (fun (x : Dens A) K => eqv  x.1 K)
end q24
namespace q25
abbrev A : List Ty := [(.slice .bool)]
abbrev C := (cTy (.int .u8))
abbrev T : Type := (List Bool) → (Int → Prop) → Prop
noncomputable def tab : Tab := []
structure R where
def cR (_ : R) : St := { fr := fun _ => .top, hs := hs0 }
def kR : Keep := { ks := [], bs := [], hn := 0 }
structure L0 where
  l : (List Bool)
  b0 : Int
  p : Int
  i : Int
def c0 (x : L0) : St := { fr := lookL .top [(0, (.sl .any .bool x.l)), (3, (.int .u8 x.b0)), (4, (.int .u8 x.p)), (5, (.int .i64 x.i))], hs := { hp := lookL .dead [], hn := 0 } }
def kp0 : Keep := { ks := [(0, none), (3, none), (4, none), (5, none)], bs := [], hn := 0 }
def p0 (st : St) (K : L0 → Prop) : Prop := gSl .any .bool (st.fr 0) fun a1 => gInt .u8 (st.fr 3) fun a2 => gInt .u8 (st.fr 4) fun a3 => gInt .i64 (st.fr 5) fun a4 => K ⟨a1, a2, a3, a4⟩
set_option maxHeartbeats 4000000 in
theorem p0_ok (st : St) (K : L0 → Prop) (h : p0 st K) : ∃ x, keepSt kp0 st = c0 x ∧ K x := by
  obtain ⟨a1, h0, h⟩ := gSl_elim h
  obtain ⟨a2, h1, h⟩ := gInt_elim h
  obtain ⟨a3, h2, h⟩ := gInt_elim h
  obtain ⟨a4, h3, h⟩ := gInt_elim h
  refine ⟨_, ?_, h⟩
  simp only [keepSt, kp0, List.map, h0, h1, h2, h3]
  rfl
def b0 (rec kx : L0 → Prop) (kr : R → Prop) (x : L0) : Prop :=
  (bif (decide (x.i < (x.l.length : Int))) then (bif (decide (x.i < 8)) then (oget (getI x.l x.i) fun v1 => (bif v1 then (rec ⟨x.l, (IntKind.u8.wrap (x.b0 + x.p)), (IntKind.u8.wrap (x.p * 2)), (IntKind.i64.wrap (x.i + 1))⟩) else (rec ⟨x.l, x.b0, (IntKind.u8.wrap (x.p * 2)), (IntKind.i64.wrap (x.i + 1))⟩))) else (kx ⟨x.l, x.b0, x.p, x.i⟩)) else (kx ⟨x.l, x.b0, x.p, x.i⟩))
def lt : Nat → Option LSpec
  | 0 => some (mkLoop 0 kp0 kR p0 c0 cR b0)
  | _ => none
def F (l : (List Bool)) (K : Int → Prop) : Prop :=
  (∃ n, loopB b0 n (fun x2 => (K x2.b0)) (fun _ => False) ⟨l, 0, 1, 0⟩)
noncomputable def en : Entry := mkEntry A C fun x => F x.1
theorem eqv (l : (List Bool)) (K : Int → Prop) : apure E tab lt 4 183 [enc (.slice .bool) l] (ansK C K) = F l K := by kernel_rfl
theorem l0v (R : St → Prop) (Kx : Nat → St → Prop) (Kr : St → Prop) (x : L0) : acode E tab (afun E tab 4) 26 lt ((loopsIn E.P 183).getD 0 (0, .skip)).2 0 (fun s => R (keepSt kp0 s)) (fun j s => Kx j (keepSt kp0 s)) (fun s => Kr (keepSt kR s)) (c0 x) = b0 (fun x => R (c0 x)) (fun x => Kx 0 (c0 x)) (fun r => Kr (cR r)) x := by kernel_rfl
theorem l0_ok : LSound E tab (afun E tab 4) 26 lt 0 ((loopsIn E.P 183).getD 0 (0, .skip)).2 (mkLoop 0 kp0 kR p0 c0 cR b0) := mkLoop_sound (by decide) (by decide) p0_ok (fun R Kx Kr x => l0v  R Kx Kr x)
theorem loops : LoopsOk E tab lt 4 183 := loops_of (nt := 26) (ids := [0]) (by kernel_rfl) (by kernel_rfl) (by
  intro k i hk l hl
  match k, hk with
  | 0, hk => cases hk; cases hl; exact l0_ok
  | _ + 1, hk => exact absurd hk (by simp))
theorem det (l : (List Bool)) : Det (F l) := by
  unfold F
  repeat' with_reducible first | exact det_ret _ | exact det_false | refine det_cond _ ?_ ?_ | refine det_oget _ (fun _ => ?_) | refine det_loop (fun _ => ?_) (fun _ => ?_) (fun _ => ?_) _ | unfold b0
theorem edet (a : List AV) : Det (en a) := mkEntry_det (fun x : Dens A => det x.1) a
theorem ground : Ground E tab := ⟨num, mixed, (tab_nil _), clone, dtab_nil, stab⟩
theorem sound : EntrySound E 183 en := mkSound ground loops (by kernel_rfl) (fun (x : Dens A) K => eqv  x.1 K)
end q25
namespace q26
abbrev A : List Ty := [(.int .u64), (.int .i64)]
abbrev C := (cTy .str)
abbrev T : Type := Int → Int → (Str → Prop) → Prop
noncomputable def tab : Tab := []
structure R where
def cR (_ : R) : St := { fr := fun _ => .top, hs := hs0 }
def kR : Keep := { ks := [], bs := [], hn := 0 }
structure L0 where
  n0 : Int
  size : Int
  s : Str
  i : Int
def c0 (x : L0) : St := { fr := lookL .top [(0, (.int .u64 x.n0)), (1, (.int .i64 x.size)), (5, (.str x.s)), (6, (.int .i64 x.i))], hs := { hp := lookL .dead [], hn := 0 } }
def kp0 : Keep := { ks := [(0, none), (1, none), (5, none), (6, none)], bs := [], hn := 0 }
def p0 (st : St) (K : L0 → Prop) : Prop := gInt .u64 (st.fr 0) fun a1 => gInt .i64 (st.fr 1) fun a2 => gStr (st.fr 5) fun a3 => gInt .i64 (st.fr 6) fun a4 => K ⟨a1, a2, a3, a4⟩
set_option maxHeartbeats 4000000 in
theorem p0_ok (st : St) (K : L0 → Prop) (h : p0 st K) : ∃ x, keepSt kp0 st = c0 x ∧ K x := by
  obtain ⟨a1, h0, h⟩ := gInt_elim h
  obtain ⟨a2, h1, h⟩ := gInt_elim h
  obtain ⟨a3, h2, h⟩ := gStr_elim h
  obtain ⟨a4, h3, h⟩ := gInt_elim h
  refine ⟨_, ?_, h⟩
  simp only [keepSt, kp0, List.map, h0, h1, h2, h3]
  rfl
def b0 (rec kx : L0 → Prop) (kr : R → Prop) (x : L0) : Prop :=
  (bif (decide (x.i < x.size)) then (bif (256 == 0) then False else (bif (fits ((bytesOfInts ([(IntKind.u8.wrap (x.n0.tmod 256))] : List Int)).length + x.s.length)) then (bif (256 == 0) then False else (rec ⟨(IntKind.u64.wrap (x.n0.tdiv 256)), x.size, ((bytesOfInts ([(IntKind.u8.wrap (x.n0.tmod 256))] : List Int)) ++ x.s), (IntKind.i64.wrap (x.i + 1))⟩)) else False)) else (kx ⟨x.n0, x.size, x.s, x.i⟩))
def lt : Nat → Option LSpec
  | 0 => some (mkLoop 0 kp0 kR p0 c0 cR b0)
  | _ => none
def F (n_0 : Int) (size : Int) (K : Str → Prop) : Prop :=
  (∃ n, loopB b0 n (fun x1 => (K x1.s)) (fun _ => False) ⟨n_0, size, ([] : Str), 0⟩)
noncomputable def en : Entry := mkEntry A C fun x => F x.1 x.2.1
theorem eqv (n_0 : Int) (size : Int) (K : Str → Prop) : apure E tab lt 4 140 [enc (.int .u64) n_0, enc (.int .i64) size] (ansK C K) = F n_0 size K := by kernel_rfl
theorem l0v (R : St → Prop) (Kx : Nat → St → Prop) (Kr : St → Prop) (x : L0) : acode E tab (afun E tab 4) 22 lt ((loopsIn E.P 140).getD 0 (0, .skip)).2 0 (fun s => R (keepSt kp0 s)) (fun j s => Kx j (keepSt kp0 s)) (fun s => Kr (keepSt kR s)) (c0 x) = b0 (fun x => R (c0 x)) (fun x => Kx 0 (c0 x)) (fun r => Kr (cR r)) x := by kernel_rfl
theorem l0_ok : LSound E tab (afun E tab 4) 22 lt 0 ((loopsIn E.P 140).getD 0 (0, .skip)).2 (mkLoop 0 kp0 kR p0 c0 cR b0) := mkLoop_sound (by decide) (by decide) p0_ok (fun R Kx Kr x => l0v  R Kx Kr x)
theorem loops : LoopsOk E tab lt 4 140 := loops_of (nt := 22) (ids := [0]) (by kernel_rfl) (by kernel_rfl) (by
  intro k i hk l hl
  match k, hk with
  | 0, hk => cases hk; cases hl; exact l0_ok
  | _ + 1, hk => exact absurd hk (by simp))
theorem det (n_0 : Int) (size : Int) : Det (F n_0 size) := by
  unfold F
  repeat' with_reducible first | exact det_ret _ | exact det_false | refine det_cond _ ?_ ?_ | refine det_loop (fun _ => ?_) (fun _ => ?_) (fun _ => ?_) _ | unfold b0
theorem edet (a : List AV) : Det (en a) := mkEntry_det (fun x : Dens A => det x.1 x.2.1) a
theorem ground : Ground E tab := ⟨num, mixed, (tab_nil _), clone, dtab_nil, stab⟩
theorem sound : EntrySound E 140 en := mkSound ground loops (by kernel_rfl) (fun (x : Dens A) K => eqv  x.1 x.2.1 K)
end q26
namespace q27
abbrev A : List Ty := [(.int .u64)]
abbrev C := (cTy .str)
abbrev T : Type := Int → (Str → Prop) → Prop
noncomputable def tv (f0 : q26.T) : Tab := [(140, mkEntry q26.A q26.C fun x => f0 x.1 x.2.1)]
noncomputable def tab : Tab := tv q26.F
def FV (f0 : q26.T) (n_0 : Int) (K : Str → Prop) : Prop :=
  (f0 n_0 8 fun r1 => (K r1))
def F (n_0 : Int) (K : Str → Prop) : Prop := FV q26.F n_0 K
noncomputable def en : Entry := mkEntry A C fun x => F x.1
theorem eqv (f0 : q26.T) (n_0 : Int) (K : Str → Prop) : apure E (tv f0) (fun _ => none) 4 178 [enc (.int .u64) n_0] (ansK C K) = FV f0 n_0 K := by kernel_rfl
theorem loops : LoopsOk E tab (fun _ => none) 4 178 := loops_none _ _ _ _
theorem det (n_0 : Int) : Det (F n_0) := by
  unfold F FV
  repeat' with_reducible first | exact det_ret _ | refine det_bind (q26.det _ _) (fun _ => ?_)
theorem edet (a : List AV) : Det (en a) := mkEntry_det (fun x : Dens A => det x.1) a
theorem ground : Ground E tab := ⟨num, mixed, (tab_cons q26.sound (tab_nil _)), clone, (dtab_cons q26.edet dtab_nil), stab⟩
theorem sound : EntrySound E 178 en := mkSound ground loops (by kernel_rfl) (fun (x : Dens A) K => eqv q26.F x.1 K)
end q27
namespace q28
abbrev A : List Ty := [(.st 3)]
abbrev C := (cTy .str)
abbrev T : Type := Super → (Str → Prop) → Prop
noncomputable def tv (f0 : q25.T) (f1 : q27.T) : Tab := [(183, mkEntry q25.A q25.C fun x => f0 x.1), (178, mkEntry q27.A q27.C fun x => f1 x.1)]
noncomputable def tab : Tab := tv q25.F q27.F
def FV (f0 : q25.T) (f1 : q27.T) (s : Super) (K : Str → Prop) : Prop :=
  (f0 ([s.inc, s.pri, s.dis] : List Bool) fun r1 => (bif (fits (([71, 77, 1] : Str).length + (bytesOfInts ([(IntKind.u8.wrap s.blocks), r1] : List Int)).length)) then (f1 s.vector.current fun r2 => (bif (fits ((([71, 77, 1] : Str) ++ (bytesOfInts ([(IntKind.u8.wrap s.blocks), r1] : List Int))).length + r2.length)) then (f1 s.vector.bitmap fun r3 => (bif (fits (((([71, 77, 1] : Str) ++ (bytesOfInts ([(IntKind.u8.wrap s.blocks), r1] : List Int))) ++ r2).length + r3.length)) then (f1 s.vector.old0 fun r4 => (bif (fits ((((([71, 77, 1] : Str) ++ (bytesOfInts ([(IntKind.u8.wrap s.blocks), r1] : List Int))) ++ r2) ++ r3).length + r4.length)) then (f1 s.vector.old1 fun r5 => (bif (fits (((((([71, 77, 1] : Str) ++ (bytesOfInts ([(IntKind.u8.wrap s.blocks), r1] : List Int))) ++ r2) ++ r3) ++ r4).length + r5.length)) then (K (((((([71, 77, 1] : Str) ++ (bytesOfInts ([(IntKind.u8.wrap s.blocks), r1] : List Int))) ++ r2) ++ r3) ++ r4) ++ r5)) else False)) else False)) else False)) else False)) else False))
def F (s : Super) (K : Str → Prop) : Prop := FV q25.F q27.F s K
noncomputable def en : Entry := mkEntry A C fun x => F x.1
theorem eqv (f0 : q25.T) (f1 : q27.T) (s : Super) (K : Str → Prop) : apure E (tv f0 f1) (fun _ => none) 4 138 [enc (.st 3) s] (ansK C K) = FV f0 f1 s K := by kernel_rfl
theorem loops : LoopsOk E tab (fun _ => none) 4 138 := loops_none _ _ _ _
theorem det (s : Super) : Det (F s) := by
  unfold F FV
  repeat' with_reducible first | exact det_ret _ | exact det_false | refine det_cond _ ?_ ?_ | refine det_bind (q25.det _) (fun _ => ?_) | refine det_bind (q27.det _) (fun _ => ?_)
theorem edet (a : List AV) : Det (en a) := mkEntry_det (fun x : Dens A => det x.1) a
theorem ground : Ground E tab := ⟨num, mixed, (tab_cons q25.sound (tab_cons q27.sound (tab_nil _))), clone, (dtab_cons q25.edet (dtab_cons q27.edet dtab_nil)), stab⟩
theorem sound : EntrySound E 138 en := mkSound ground loops (by kernel_rfl) (fun (x : Dens A) K => eqv q25.F q27.F x.1 K)
end q28
namespace q29
abbrev A : List Ty := [.str]
abbrev C := (cTy (.int .u32))
abbrev T : Type := Str → (Int → Prop) → Prop
noncomputable def tab : Tab := []
structure R where
def cR (_ : R) : St := { fr := fun _ => .top, hs := hs0 }
def kR : Keep := { ks := [], bs := [], hn := 0 }
structure L0 where
  s : Str
  n0 : Int
  i : Int
def c0 (x : L0) : St := { fr := lookL .top [(0, (.str x.s)), (3, (.int .u64 x.n0)), (4, (.int .i64 x.i))], hs := { hp := lookL .dead [], hn := 0 } }
def kp0 : Keep := { ks := [(0, none), (3, none), (4, none)], bs := [], hn := 0 }
def p0 (st : St) (K : L0 → Prop) : Prop := gStr (st.fr 0) fun a1 => gInt .u64 (st.fr 3) fun a2 => gInt .i64 (st.fr 4) fun a3 => K ⟨a1, a2, a3⟩
set_option maxHeartbeats 4000000 in
theorem p0_ok (st : St) (K : L0 → Prop) (h : p0 st K) : ∃ x, keepSt kp0 st = c0 x ∧ K x := by
  obtain ⟨a1, h0, h⟩ := gStr_elim h
  obtain ⟨a2, h1, h⟩ := gInt_elim h
  obtain ⟨a3, h2, h⟩ := gInt_elim h
  refine ⟨_, ?_, h⟩
  simp only [keepSt, kp0, List.map, h0, h1, h2]
  rfl
def b0 (rec kx : L0 → Prop) (kr : R → Prop) (x : L0) : Prop :=
  (bif (decide (x.i < (x.s.length : Int))) then (oget (getI x.s x.i) fun v1 => (bif (4294967296 == 0) then False else (rec ⟨x.s, ((IntKind.u64.wrap ((ixor .u64 x.n0 (IntKind.u64.wrap (v1.toNat : Int))) * 16777619)).tmod 4294967296), (IntKind.i64.wrap (x.i + 1))⟩))) else (kx ⟨x.s, x.n0, x.i⟩))
def lt : Nat → Option LSpec
  | 0 => some (mkLoop 0 kp0 kR p0 c0 cR b0)
  | _ => none
def F (s : Str) (K : Int → Prop) : Prop :=
  (∃ n, loopB b0 n (fun x2 => (K (IntKind.u32.wrap x2.n0))) (fun _ => False) ⟨s, 2166136261, 0⟩)
noncomputable def en : Entry := mkEntry A C fun x => F x.1
theorem eqv (s : Str) (K : Int → Prop) : apure E tab lt 4 139 [enc .str s] (ansK C K) = F s K := by kernel_rfl
theorem l0v (R : St → Prop) (Kx : Nat → St → Prop) (Kr : St → Prop) (x : L0) : acode E tab (afun E tab 4) 21 lt ((loopsIn E.P 139).getD 0 (0, .skip)).2 0 (fun s => R (keepSt kp0 s)) (fun j s => Kx j (keepSt kp0 s)) (fun s => Kr (keepSt kR s)) (c0 x) = b0 (fun x => R (c0 x)) (fun x => Kx 0 (c0 x)) (fun r => Kr (cR r)) x := by kernel_rfl
theorem l0_ok : LSound E tab (afun E tab 4) 21 lt 0 ((loopsIn E.P 139).getD 0 (0, .skip)).2 (mkLoop 0 kp0 kR p0 c0 cR b0) := mkLoop_sound (by decide) (by decide) p0_ok (fun R Kx Kr x => l0v  R Kx Kr x)
theorem loops : LoopsOk E tab lt 4 139 := loops_of (nt := 21) (ids := [0]) (by kernel_rfl) (by kernel_rfl) (by
  intro k i hk l hl
  match k, hk with
  | 0, hk => cases hk; cases hl; exact l0_ok
  | _ + 1, hk => exact absurd hk (by simp))
theorem det (s : Str) : Det (F s) := by
  unfold F
  repeat' with_reducible first | exact det_ret _ | exact det_false | refine det_cond _ ?_ ?_ | refine det_oget _ (fun _ => ?_) | refine det_loop (fun _ => ?_) (fun _ => ?_) (fun _ => ?_) _ | unfold b0
theorem edet (a : List AV) : Det (en a) := mkEntry_det (fun x : Dens A => det x.1) a
theorem ground : Ground E tab := ⟨num, mixed, (tab_nil _), clone, dtab_nil, stab⟩
theorem sound : EntrySound E 139 en := mkSound ground loops (by kernel_rfl) (fun (x : Dens A) K => eqv  x.1 K)
end q29
namespace q30
abbrev A : List Ty := [(.int .u32)]
abbrev C := (cTy .str)
abbrev T : Type := Int → (Str → Prop) → Prop
noncomputable def tv (f0 : q26.T) : Tab := [(140, mkEntry q26.A q26.C fun x => f0 x.1 x.2.1)]
noncomputable def tab : Tab := tv q26.F
def FV (f0 : q26.T) (n_0 : Int) (K : Str → Prop) : Prop :=
  (f0 (IntKind.u64.wrap n_0) 4 fun r1 => (K r1))
def F (n_0 : Int) (K : Str → Prop) : Prop := FV q26.F n_0 K
noncomputable def en : Entry := mkEntry A C fun x => F x.1
theorem eqv (f0 : q26.T) (n_0 : Int) (K : Str → Prop) : apure E (tv f0) (fun _ => none) 4 100 [enc (.int .u32) n_0] (ansK C K) = FV f0 n_0 K := by kernel_rfl
theorem loops : LoopsOk E tab (fun _ => none) 4 100 := loops_none _ _ _ _
theorem det (n_0 : Int) : Det (F n_0) := by
  unfold F FV
  repeat' with_reducible first | exact det_ret _ | refine det_bind (q26.det _ _) (fun _ => ?_)
theorem edet (a : List AV) : Det (en a) := mkEntry_det (fun x : Dens A => det x.1) a
theorem ground : Ground E tab := ⟨num, mixed, (tab_cons q26.sound (tab_nil _)), clone, (dtab_cons q26.edet dtab_nil), stab⟩
theorem sound : EntrySound E 100 en := mkSound ground loops (by kernel_rfl) (fun (x : Dens A) K => eqv q26.F x.1 K)
end q30
namespace q31
abbrev A : List Ty := [.str]
abbrev C := (cTy .str)
abbrev T : Type := Str → (Str → Prop) → Prop
noncomputable def tv (f0 : q29.T) (f1 : q30.T) : Tab := [(139, mkEntry q29.A q29.C fun x => f0 x.1), (100, mkEntry q30.A q30.C fun x => f1 x.1)]
noncomputable def tab : Tab := tv q29.F q30.F
def FV (f0 : q29.T) (f1 : q30.T) (s : Str) (K : Str → Prop) : Prop :=
  (f0 s fun r1 => (f1 r1 fun r2 => (bif (fits (s.length + r2.length)) then (K (s ++ r2)) else False)))
def F (s : Str) (K : Str → Prop) : Prop := FV q29.F q30.F s K
noncomputable def en : Entry := mkEntry A C fun x => F x.1
theorem eqv (f0 : q29.T) (f1 : q30.T) (s : Str) (K : Str → Prop) : apure E (tv f0 f1) (fun _ => none) 4 99 [enc .str s] (ansK C K) = FV f0 f1 s K := by kernel_rfl
theorem loops : LoopsOk E tab (fun _ => none) 4 99 := loops_none _ _ _ _
theorem det (s : Str) : Det (F s) := by
  unfold F FV
  repeat' with_reducible first | exact det_ret _ | exact det_false | refine det_cond _ ?_ ?_ | refine det_bind (q29.det _) (fun _ => ?_) | refine det_bind (q30.det _) (fun _ => ?_)
theorem edet (a : List AV) : Det (en a) := mkEntry_det (fun x : Dens A => det x.1) a
theorem ground : Ground E tab := ⟨num, mixed, (tab_cons q29.sound (tab_cons q30.sound (tab_nil _))), clone, (dtab_cons q29.edet (dtab_cons q30.edet dtab_nil)), stab⟩
theorem sound : EntrySound E 99 en := mkSound ground loops (by kernel_rfl) (fun (x : Dens A) K => eqv q29.F q30.F x.1 K)
end q31
namespace q32
abbrev A : List Ty := [(.st 3)]
abbrev C := (cTwo .str (.int .i64))
abbrev T : Type := Super → ((Str × Int) → Prop) → Prop
noncomputable def tv (f0 : q24.T) (f1 : q28.T) (f2 : q31.T) : Tab := [(137, mkEntry q24.A q24.C fun x => f0 x.1), (138, mkEntry q28.A q28.C fun x => f1 x.1), (99, mkEntry q31.A q31.C fun x => f2 x.1)]
noncomputable def tab : Tab := tv q24.F q28.F q31.F
def FV (f0 : q24.T) (f1 : q28.T) (f2 : q31.T) (s : Super) (K : (Str × Int) → Prop) : Prop :=
  (f0 s fun r1 => (bif (!r1) then (K (([] : Str), 1)) else (f1 s fun r2 => (f2 r2 fun r3 => (K (r3, 0))))))
def F (s : Super) (K : (Str × Int) → Prop) : Prop := FV q24.F q28.F q31.F s K
noncomputable def en : Entry := mkEntry A C fun x => F x.1
theorem eqv (f0 : q24.T) (f1 : q28.T) (f2 : q31.T) (s : Super) (K : (Str × Int) → Prop) : apure E (tv f0 f1 f2) (fun _ => none) 4 98 [enc (.st 3) s] (ansK C K) = FV f0 f1 f2 s K := by kernel_rfl
theorem loops : LoopsOk E tab (fun _ => none) 4 98 := loops_none _ _ _ _
theorem det (s : Super) : Det (F s) := by
  unfold F FV
  repeat' with_reducible first | exact det_ret _ | refine det_cond _ ?_ ?_ | refine det_bind (q24.det _) (fun _ => ?_) | refine det_bind (q28.det _) (fun _ => ?_) | refine det_bind (q31.det _) (fun _ => ?_)
theorem edet (a : List AV) : Det (en a) := mkEntry_det (fun x : Dens A => det x.1) a
theorem ground : Ground E tab := ⟨num, mixed, (tab_cons q24.sound (tab_cons q28.sound (tab_cons q31.sound (tab_nil _)))), clone, (dtab_cons q24.edet (dtab_cons q28.edet (dtab_cons q31.edet dtab_nil))), stab⟩
theorem sound : EntrySound E 98 en := mkSound ground loops (by kernel_rfl) (fun (x : Dens A) K => eqv q24.F q28.F q31.F x.1 K)
end q32
namespace q33
abbrev A : List Ty := []
abbrev C := (cTy .str)
abbrev T : Type := (Str → Prop) → Prop
noncomputable def tab : Tab := []
def F (K : Str → Prop) : Prop :=
  (K ([0, 0, 0, 0, 0, 0, 0, 0] : Str))
noncomputable def en : Entry := mkEntry A C fun _ => F
theorem eqv (K : Str → Prop) : apure E tab (fun _ => none) 4 101 [] (ansK C K) = F K := by kernel_rfl
theorem loops : LoopsOk E tab (fun _ => none) 4 101 := loops_none _ _ _ _
theorem det : Det (F) := by
  unfold F
  repeat' with_reducible first | exact det_ret _
theorem edet (a : List AV) : Det (en a) := mkEntry_det (fun _ : Dens A => det) a
theorem ground : Ground E tab := ⟨num, mixed, (tab_nil _), clone, dtab_nil, stab⟩
theorem sound : EntrySound E 101 en := mkSound ground loops (by kernel_rfl) (fun (_ : Dens A) K => eqv  K)
end q33
namespace q34
abbrev A : List Ty := [(.int .i64), (.int .u64)]
abbrev C := (cTwo (.st 1) (.int .i64))
abbrev T : Type := Int → Int → ((Disk × Int) → Prop) → Prop
noncomputable def tv (f0 : q32.T) (f1 : q30.T) (f2 : q31.T) (f3 : q33.T) : Tab := [(98, mkEntry q32.A q32.C fun x => f0 x.1), (100, mkEntry q30.A q30.C fun x => f1 x.1), (99, mkEntry q31.A q31.C fun x => f2 x.1), (101, mkEntry q33.A q33.C fun _ => f3)]
noncomputable def tab : Tab := tv q32.F q30.F q31.F q33.F
structure R where
def cR (_ : R) : St := { fr := fun _ => .top, hs := hs0 }
def kR : Keep := { ks := [], bs := [], hn := 0 }
structure L0 where
  blocks : Int
  i : Int
  m0 : Disk
  m2_0 : (List Str)
  m2 : Int
  m2_1 : Bool
def c0 (x : L0) : St := { fr := lookL .top [(0, (.int .i64 x.blocks)), (4, (.ptr 0 0)), (8, (.ptr 2 0)), (9, (.int .i64 x.i))], hs := { hp := lookL .dead [(1, (.row false .str x.m2_0)), (0, (.cells (encS 1 x.m0))), (2, (.cells [(.slr 1), .snil, (.int .i64 x.m2), (.bool x.m2_1)]))], hn := 3 } }
def kp0 : Keep := { ks := [(0, none), (4, none), (8, none), (9, none)], bs := [0, 2], hn := 3, cs := [(2, 0, 1)], ts := [(0, 1)] }
def p0 (st : St) (K : L0 → Prop) : Prop := gHomes kp0 st <| gInt .i64 (st.fr 0) fun a1 => gPtr 0 0 (st.fr 4) <| gPtr 2 0 (st.fr 8) <| gInt .i64 (st.fr 9) fun a2 => gBlkS 1 (st.hs.hp 0) fun a3 => gCells (st.hs.hp 2) fun c4 => gCons c4 fun c5 c6 => gSlr c5 fun c7 => gRow false .str (st.hs.hp c7) fun a8 => gCons c6 fun c9 c10 => gSnil c9 <| gCons c10 fun c11 c12 => gInt .i64 c11 fun a13 => gCons c12 fun c14 c15 => gBool c14 fun a16 => gNil c15 <| K ⟨a1, a2, a3, a8, a13, a16⟩
set_option maxHeartbeats 4000000 in
theorem p0_ok (st : St) (K : L0 → Prop) (h : p0 st K) : ∃ x, keepSt kp0 st = c0 x ∧ K x := by
  obtain ⟨h0, h⟩ := gHomes_elim h
  obtain ⟨a1, h1, h⟩ := gInt_elim h
  obtain ⟨h2, h⟩ := gPtr_elim h
  obtain ⟨h3, h⟩ := gPtr_elim h
  obtain ⟨a2, h4, h⟩ := gInt_elim h
  obtain ⟨z5, a3, h5, y5, h⟩ := gBlkS_elim h
  have q5 : ∀ ok, keptB kp0 ok 0 (.cells z5) = .cells (encS 1 a3) := fun _ => y5
  simp only [kp0] at q5
  obtain ⟨c4, h6, h⟩ := gCells_elim h
  obtain ⟨c5, c6, h7, h⟩ := gCons_elim h
  obtain ⟨c7, h8, h⟩ := gSlr_elim h
  obtain ⟨a8, h9, h⟩ := gRow_elim h
  obtain ⟨c9, c10, h10, h⟩ := gCons_elim h
  obtain ⟨h11, h⟩ := gSnil_elim h
  obtain ⟨c11, c12, h12, h⟩ := gCons_elim h
  obtain ⟨a13, h13, h⟩ := gInt_elim h
  obtain ⟨c14, c15, h14, h⟩ := gCons_elim h
  obtain ⟨a16, h15, h⟩ := gBool_elim h
  obtain ⟨h16, h⟩ := gNil_elim h
  refine ⟨_, ?_, h⟩
  subst h7
  subst h8
  subst h10
  subst h11
  subst h12
  subst h13
  subst h14
  subst h15
  subst h16
  simp only [keepSt, h0]
  simp only [kp0, List.map, List.filterMap, homeOf, h1, h2, h3, h4, h5, h6, h9, q5, hmOf, cellHome, lget, List.nil_append, cond_true]
  rfl
def b0V (f0 : q32.T) (f1 : q30.T) (f2 : q31.T) (f3 : q33.T) (rec kx : L0 → Prop) (kr : R → Prop) (x : L0) : Prop :=
  (bif (decide (x.i < x.blocks)) then (f3 fun r4 => (bif (decide ((x.m2_0.length + ([r4] : List Str).length) * 16 ≤ room)) then (rec ⟨x.blocks, (IntKind.i64.wrap (x.i + 1)), x.m0, (x.m2_0 ++ ([r4] : List Str)), x.m2, x.m2_1⟩) else False)) else (kx ⟨x.blocks, x.i, x.m0, x.m2_0, x.m2, x.m2_1⟩))
def ltV (f0 : q32.T) (f1 : q30.T) (f2 : q31.T) (f3 : q33.T) : Nat → Option LSpec
  | 0 => some (mkLoop 0 kp0 kR p0 c0 cR (b0V f0 f1 f2 f3))
  | _ => none
def lt : Nat → Option LSpec := ltV q32.F q30.F q31.F q33.F
def FV (f0 : q32.T) (f1 : q30.T) (f2 : q31.T) (f3 : q33.T) (blocks : Int) (g : Int) (K : (Disk × Int) → Prop) : Prop :=
  (f0 (⟨blocks, (⟨g, 0, 0, 0⟩ : Vec), false, false, false⟩ : Super) fun r1 => (bif (r1.2 != 0) then (K ((⟨([] : List Str), ([] : List Write), 0, false⟩ : Disk), r1.2)) else (f1 0 fun r2 => (f2 r2 fun r3 => (∃ n, loopB (b0V f0 f1 f2 f3) n (fun x5 => (K ((⟨x5.m2_0, ([] : List Write), x5.m2, x5.m2_1⟩ : Disk), 0))) (fun _ => False) ⟨blocks, 0, (⟨([] : List Str), ([] : List Write), 0, false⟩ : Disk), ([r1.1, r3] : List Str), 0, false⟩)))))
def F (blocks : Int) (g : Int) (K : (Disk × Int) → Prop) : Prop := FV q32.F q30.F q31.F q33.F blocks g K
noncomputable def en : Entry := mkEntry A C fun x => F x.1 x.2.1
theorem eqv (f0 : q32.T) (f1 : q30.T) (f2 : q31.T) (f3 : q33.T) (blocks : Int) (g : Int) (K : (Disk × Int) → Prop) : apure E (tv f0 f1 f2 f3) (ltV f0 f1 f2 f3) 4 68 [enc (.int .i64) blocks, enc (.int .u64) g] (ansK C K) = FV f0 f1 f2 f3 blocks g K := by kernel_rfl
theorem l0v (f0 : q32.T) (f1 : q30.T) (f2 : q31.T) (f3 : q33.T) (R : St → Prop) (Kx : Nat → St → Prop) (Kr : St → Prop) (x : L0) : acode E (tv f0 f1 f2 f3) (afun E (tv f0 f1 f2 f3) 4) 39 (ltV f0 f1 f2 f3) ((loopsIn E.P 68).getD 0 (0, .skip)).2 0 (fun s => R (keepSt kp0 s)) (fun j s => Kx j (keepSt kp0 s)) (fun s => Kr (keepSt kR s)) (c0 x) = b0V f0 f1 f2 f3 (fun x => R (c0 x)) (fun x => Kx 0 (c0 x)) (fun r => Kr (cR r)) x := by kernel_rfl
theorem l0_ok : LSound E tab (afun E tab 4) 39 lt 0 ((loopsIn E.P 68).getD 0 (0, .skip)).2 (mkLoop 0 kp0 kR p0 c0 cR (b0V q32.F q30.F q31.F q33.F)) := mkLoop_sound (by decide) (by decide) p0_ok (fun R Kx Kr x => l0v q32.F q30.F q31.F q33.F R Kx Kr x)
theorem loops : LoopsOk E tab lt 4 68 := loops_of (nt := 39) (ids := [0]) (by kernel_rfl) (by kernel_rfl) (by
  intro k i hk l hl
  match k, hk with
  | 0, hk => cases hk; cases hl; exact l0_ok
  | _ + 1, hk => exact absurd hk (by simp))
theorem det (blocks : Int) (g : Int) : Det (F blocks g) := by
  unfold F FV
  repeat' with_reducible first | exact det_ret _ | exact det_false | refine det_cond _ ?_ ?_ | refine det_bind (q32.det _) (fun _ => ?_) | refine det_bind (q30.det _) (fun _ => ?_) | refine det_bind (q31.det _) (fun _ => ?_) | refine det_bind (q33.det) (fun _ => ?_) | refine det_loop (fun _ => ?_) (fun _ => ?_) (fun _ => ?_) _ | unfold b0V
theorem edet (a : List AV) : Det (en a) := mkEntry_det (fun x : Dens A => det x.1 x.2.1) a
theorem ground : Ground E tab := ⟨num, mixed, (tab_cons q32.sound (tab_cons q30.sound (tab_cons q31.sound (tab_cons q33.sound (tab_nil _))))), clone, (dtab_cons q32.edet (dtab_cons q30.edet (dtab_cons q31.edet (dtab_cons q33.edet dtab_nil)))), stab⟩
theorem sound : EntrySound E 68 en := mkSound ground loops (by kernel_rfl) (fun (x : Dens A) K => eqv q32.F q30.F q31.F q33.F x.1 x.2.1 K)
end q34
namespace q35
abbrev A : List Ty := [(.st 1), (.int .i64)]
abbrev C := (cTy .str)
abbrev T : Type := Disk → Int → (Str → Prop) → Prop
noncomputable def tab : Tab := []
structure R where
def cR (_ : R) : St := { fr := fun _ => .top, hs := hs0 }
def kR : Keep := { ks := [], bs := [], hn := 0 }
structure L0 where
  i : Int
  s : Str
  k : Int
  m0 : Disk
def c0 (x : L0) : St := { fr := lookL .top [(1, (.int .i64 x.i)), (2, (.ptr 0 0)), (5, (.str x.s)), (6, (.int .i64 x.k))], hs := { hp := lookL .dead [(0, (.cells (encS 1 x.m0)))], hn := 1 } }
def kp0 : Keep := { ks := [(1, none), (2, none), (5, none), (6, none)], bs := [0], hn := 1, ts := [(0, 1)] }
def p0 (st : St) (K : L0 → Prop) : Prop := gInt .i64 (st.fr 1) fun a1 => gPtr 0 0 (st.fr 2) <| gStr (st.fr 5) fun a2 => gInt .i64 (st.fr 6) fun a3 => gBlkS 1 (st.hs.hp 0) fun a4 => K ⟨a1, a2, a3, a4⟩
set_option maxHeartbeats 4000000 in
theorem p0_ok (st : St) (K : L0 → Prop) (h : p0 st K) : ∃ x, keepSt kp0 st = c0 x ∧ K x := by
  obtain ⟨a1, h0, h⟩ := gInt_elim h
  obtain ⟨h1, h⟩ := gPtr_elim h
  obtain ⟨a2, h2, h⟩ := gStr_elim h
  obtain ⟨a3, h3, h⟩ := gInt_elim h
  obtain ⟨z4, a4, h4, y4, h⟩ := gBlkS_elim h
  have q4 : ∀ ok, keptB kp0 ok 0 (.cells z4) = .cells (encS 1 a4) := fun _ => y4
  simp only [kp0] at q4
  refine ⟨_, ?_, h⟩
  simp only [keepSt, kp0, List.map, h0, h1, h2, h3, h4, q4]
  rfl
def b0 (rec kx : L0 → Prop) (kr : R → Prop) (x : L0) : Prop :=
  (bif (decide (x.k < (x.m0.cache.length : Int))) then (oget (getI x.m0.cache x.k) fun v2 => (bif (v2.sector == x.i) then (oget (getI x.m0.cache x.k) fun v3 => (rec ⟨x.i, v3.data, (IntKind.i64.wrap (x.k + 1)), x.m0⟩)) else (rec ⟨x.i, x.s, (IntKind.i64.wrap (x.k + 1)), x.m0⟩))) else (kx ⟨x.i, x.s, x.k, x.m0⟩))
def lt : Nat → Option LSpec
  | 0 => some (mkLoop 0 kp0 kR p0 c0 cR b0)
  | _ => none
def F (d : Disk) (i : Int) (K : Str → Prop) : Prop :=
  (oget (getI d.sure i) fun v1 => (∃ n, loopB b0 n (fun x4 => (K x4.s)) (fun _ => False) ⟨i, v1, 0, d⟩))
noncomputable def en : Entry := mkEntry A C fun x => F x.1 x.2.1
theorem eqv (d : Disk) (i : Int) (K : Str → Prop) : apure E tab lt 4 180 [enc (.st 1) d, enc (.int .i64) i] (ansK C K) = F d i K := by kernel_rfl
theorem l0v (R : St → Prop) (Kx : Nat → St → Prop) (Kr : St → Prop) (x : L0) : acode E tab (afun E tab 4) 34 lt ((loopsIn E.P 180).getD 0 (0, .skip)).2 0 (fun s => R (keepSt kp0 s)) (fun j s => Kx j (keepSt kp0 s)) (fun s => Kr (keepSt kR s)) (c0 x) = b0 (fun x => R (c0 x)) (fun x => Kx 0 (c0 x)) (fun r => Kr (cR r)) x := by kernel_rfl
theorem l0_ok : LSound E tab (afun E tab 4) 34 lt 0 ((loopsIn E.P 180).getD 0 (0, .skip)).2 (mkLoop 0 kp0 kR p0 c0 cR b0) := mkLoop_sound (by decide) (by decide) p0_ok (fun R Kx Kr x => l0v  R Kx Kr x)
theorem loops : LoopsOk E tab lt 4 180 := loops_of (nt := 34) (ids := [0]) (by kernel_rfl) (by kernel_rfl) (by
  intro k i hk l hl
  match k, hk with
  | 0, hk => cases hk; cases hl; exact l0_ok
  | _ + 1, hk => exact absurd hk (by simp))
theorem det (d : Disk) (i : Int) : Det (F d i) := by
  unfold F
  repeat' with_reducible first | exact det_ret _ | exact det_false | refine det_cond _ ?_ ?_ | refine det_oget _ (fun _ => ?_) | refine det_loop (fun _ => ?_) (fun _ => ?_) (fun _ => ?_) _ | unfold b0
theorem edet (a : List AV) : Det (en a) := mkEntry_det (fun x : Dens A => det x.1 x.2.1) a
theorem ground : Ground E tab := ⟨num, mixed, (tab_nil _), clone, dtab_nil, stab⟩
theorem sound : EntrySound E 180 en := mkSound ground loops (by kernel_rfl) (fun (x : Dens A) K => eqv  x.1 x.2.1 K)
end q35
namespace q36
abbrev A : List Ty := [(.st 1), (.int .i64)]
abbrev C := (cTwo .str (.int .i64))
abbrev T : Type := Disk → Int → ((Str × Int) → Prop) → Prop
noncomputable def tv (f0 : q35.T) : Tab := [(180, mkEntry q35.A q35.C fun x => f0 x.1 x.2.1)]
noncomputable def tab : Tab := tv q35.F
def FV (f0 : q35.T) (d : Disk) (i : Int) (K : (Str × Int) → Prop) : Prop :=
  (bif d.dead then (K (([] : Str), 6)) else (bif (decide (i < 0)) then (K (([] : Str), 4)) else (bif (decide (i ≥ (d.sure.length : Int))) then (K (([] : Str), 4)) else (f0 d i fun r1 => (K (r1, 0))))))
def F (d : Disk) (i : Int) (K : (Str × Int) → Prop) : Prop := FV q35.F d i K
noncomputable def en : Entry := mkEntry A C fun x => F x.1 x.2.1
theorem eqv (f0 : q35.T) (d : Disk) (i : Int) (K : (Str × Int) → Prop) : apure E (tv f0) (fun _ => none) 4 132 [enc (.st 1) d, enc (.int .i64) i] (ansK C K) = FV f0 d i K := by kernel_rfl
theorem loops : LoopsOk E tab (fun _ => none) 4 132 := loops_none _ _ _ _
theorem det (d : Disk) (i : Int) : Det (F d i) := by
  unfold F FV
  repeat' with_reducible first | exact det_ret _ | refine det_cond _ ?_ ?_ | refine det_bind (q35.det _ _) (fun _ => ?_)
theorem edet (a : List AV) : Det (en a) := mkEntry_det (fun x : Dens A => det x.1 x.2.1) a
theorem ground : Ground E tab := ⟨num, mixed, (tab_cons q35.sound (tab_nil _)), clone, (dtab_cons q35.edet dtab_nil), stab⟩
theorem sound : EntrySound E 132 en := mkSound ground loops (by kernel_rfl) (fun (x : Dens A) K => eqv q35.F x.1 x.2.1 K)
end q36
namespace q37
abbrev A : List Ty := [.str]
abbrev C := (cTwo .str (.int .i64))
abbrev T : Type := Str → ((Str × Int) → Prop) → Prop
noncomputable def tv (f0 : q31.T) : Tab := [(99, mkEntry q31.A q31.C fun x => f0 x.1)]
noncomputable def tab : Tab := tv q31.F
def FV (f0 : q31.T) (s : Str) (K : (Str × Int) → Prop) : Prop :=
  (bif (decide ((s.length : Int) < 4)) then (K (([] : Str), 2)) else (bif (decide (0 ≤ (IntKind.i64.wrap ((s.length : Int) - 4))) && decide ((IntKind.i64.wrap ((s.length : Int) - 4)) ≤ (s.length : Int))) then (f0 (sub s 0 (Int.toNat (IntKind.i64.wrap ((s.length : Int) - 4)))) fun r1 => (bif (!(r1 == s)) then (K (([] : Str), 3)) else (K ((sub s 0 (Int.toNat (IntKind.i64.wrap ((s.length : Int) - 4)))), 0)))) else False))
def F (s : Str) (K : (Str × Int) → Prop) : Prop := FV q31.F s K
noncomputable def en : Entry := mkEntry A C fun x => F x.1
theorem eqv (f0 : q31.T) (s : Str) (K : (Str × Int) → Prop) : apure E (tv f0) (fun _ => none) 4 143 [enc .str s] (ansK C K) = FV f0 s K := by kernel_rfl
theorem loops : LoopsOk E tab (fun _ => none) 4 143 := loops_none _ _ _ _
theorem det (s : Str) : Det (F s) := by
  unfold F FV
  repeat' with_reducible first | exact det_ret _ | exact det_false | refine det_cond _ ?_ ?_ | refine det_bind (q31.det _) (fun _ => ?_)
theorem edet (a : List AV) : Det (en a) := mkEntry_det (fun x : Dens A => det x.1) a
theorem ground : Ground E tab := ⟨num, mixed, (tab_cons q31.sound (tab_nil _)), clone, (dtab_cons q31.edet dtab_nil), stab⟩
theorem sound : EntrySound E 143 en := mkSound ground loops (by kernel_rfl) (fun (x : Dens A) K => eqv q31.F x.1 K)
end q37
namespace q38
abbrev A : List Ty := [(.int .u8), (.int .i64)]
abbrev C := (cTwo (.slice .bool) .bool)
abbrev T : Type := Int → Int → (((List Bool) × Bool) → Prop) → Prop
noncomputable def tab : Tab := []
structure R where
def cR (_ : R) : St := { fr := fun _ => .top, hs := hs0 }
def kR : Keep := { ks := [], bs := [], hn := 0 }
structure L0 where
  b0 : Int
  n0 : Int
  out : (List Bool)
  i : Int
def c0 (x : L0) : St := { fr := lookL .top [(0, (.int .u8 x.b0)), (1, (.int .i64 x.n0)), (6, (.slr 1)), (7, (.int .i64 x.i))], hs := { hp := lookL .dead [(1, (.row false .bool x.out))], hn := 2 } }
def kp0 : Keep := { ks := [(0, none), (1, none), (6, some 1), (7, none)], bs := [], hn := 2 }
def p0 (st : St) (K : L0 → Prop) : Prop := gHomes kp0 st <| gInt .u8 (st.fr 0) fun a1 => gInt .i64 (st.fr 1) fun a2 => gSlr (st.fr 6) fun c3 => gRow false .bool (st.hs.hp c3) fun a4 => gInt .i64 (st.fr 7) fun a5 => K ⟨a1, a2, a4, a5⟩
set_option maxHeartbeats 4000000 in
theorem p0_ok (st : St) (K : L0 → Prop) (h : p0 st K) : ∃ x, keepSt kp0 st = c0 x ∧ K x := by
  obtain ⟨h0, h⟩ := gHomes_elim h
  obtain ⟨a1, h1, h⟩ := gInt_elim h
  obtain ⟨a2, h2, h⟩ := gInt_elim h
  obtain ⟨c3, h3, h⟩ := gSlr_elim h
  obtain ⟨a4, h4, h⟩ := gRow_elim h
  obtain ⟨a5, h5, h⟩ := gInt_elim h
  refine ⟨_, ?_, h⟩
  simp only [keepSt, h0]
  simp only [kp0, List.map, List.filterMap, homeOf, h1, h2, h3, h4, h5, hmOf, List.append_nil, cond_true]
  rfl
def b0 (rec kx : L0 → Prop) (kr : R → Prop) (x : L0) : Prop :=
  (bif (decide (x.i < x.n0)) then (bif (2 == 0) then False else (bif (decide ((x.out.length + ([((x.b0.tmod 2) == 1)] : List Bool).length) * 1 ≤ room)) then (bif (2 == 0) then False else (rec ⟨(IntKind.u8.wrap (x.b0.tdiv 2)), x.n0, (x.out ++ ([((x.b0.tmod 2) == 1)] : List Bool)), (IntKind.i64.wrap (x.i + 1))⟩)) else False)) else (kx ⟨x.b0, x.n0, x.out, x.i⟩))
def lt : Nat → Option LSpec
  | 0 => some (mkLoop 0 kp0 kR p0 c0 cR b0)
  | _ => none
def F (b_0 : Int) (n_1 : Int) (K : ((List Bool) × Bool) → Prop) : Prop :=
  (bif (decide (n_1 < 0)) then (K (([] : List Bool), false)) else (bif (decide (n_1 > 8)) then (K (([] : List Bool), false)) else (∃ n, loopB b0 n (fun x1 => (bif (decide (x1.b0 > 0)) then (K (([] : List Bool), false)) else (K (x1.out, true)))) (fun _ => False) ⟨b_0, n_1, ([] : List Bool), 0⟩)))
noncomputable def en : Entry := mkEntry A C fun x => F x.1 x.2.1
theorem eqv (b_0 : Int) (n_1 : Int) (K : ((List Bool) × Bool) → Prop) : apure E tab lt 4 184 [enc (.int .u8) b_0, enc (.int .i64) n_1] (ansK C K) = F b_0 n_1 K := by kernel_rfl
theorem l0v (R : St → Prop) (Kx : Nat → St → Prop) (Kr : St → Prop) (x : L0) : acode E tab (afun E tab 4) 30 lt ((loopsIn E.P 184).getD 0 (0, .skip)).2 0 (fun s => R (keepSt kp0 s)) (fun j s => Kx j (keepSt kp0 s)) (fun s => Kr (keepSt kR s)) (c0 x) = b0 (fun x => R (c0 x)) (fun x => Kx 0 (c0 x)) (fun r => Kr (cR r)) x := by kernel_rfl
theorem l0_ok : LSound E tab (afun E tab 4) 30 lt 0 ((loopsIn E.P 184).getD 0 (0, .skip)).2 (mkLoop 0 kp0 kR p0 c0 cR b0) := mkLoop_sound (by decide) (by decide) p0_ok (fun R Kx Kr x => l0v  R Kx Kr x)
theorem loops : LoopsOk E tab lt 4 184 := loops_of (nt := 30) (ids := [0]) (by kernel_rfl) (by kernel_rfl) (by
  intro k i hk l hl
  match k, hk with
  | 0, hk => cases hk; cases hl; exact l0_ok
  | _ + 1, hk => exact absurd hk (by simp))
theorem det (b_0 : Int) (n_1 : Int) : Det (F b_0 n_1) := by
  unfold F
  repeat' with_reducible first | exact det_ret _ | exact det_false | refine det_cond _ ?_ ?_ | refine det_loop (fun _ => ?_) (fun _ => ?_) (fun _ => ?_) _ | unfold b0
theorem edet (a : List AV) : Det (en a) := mkEntry_det (fun x : Dens A => det x.1 x.2.1) a
theorem ground : Ground E tab := ⟨num, mixed, (tab_nil _), clone, dtab_nil, stab⟩
theorem sound : EntrySound E 184 en := mkSound ground loops (by kernel_rfl) (fun (x : Dens A) K => eqv  x.1 x.2.1 K)
end q38
namespace q39
abbrev A : List Ty := [.str, (.int .i64)]
abbrev C := (cTwo (.int .u64) .bool)
abbrev T : Type := Str → Int → ((Int × Bool) → Prop) → Prop
noncomputable def tab : Tab := []
structure R where
def cR (_ : R) : St := { fr := fun _ => .top, hs := hs0 }
def kR : Keep := { ks := [], bs := [], hn := 0 }
structure L0 where
  s : Str
  size : Int
  n0 : Int
  i : Int
def c0 (x : L0) : St := { fr := lookL .top [(0, (.str x.s)), (1, (.int .i64 x.size)), (6, (.int .u64 x.n0)), (7, (.int .i64 x.i))], hs := { hp := lookL .dead [], hn := 0 } }
def kp0 : Keep := { ks := [(0, none), (1, none), (6, none), (7, none)], bs := [], hn := 0 }
def p0 (st : St) (K : L0 → Prop) : Prop := gStr (st.fr 0) fun a1 => gInt .i64 (st.fr 1) fun a2 => gInt .u64 (st.fr 6) fun a3 => gInt .i64 (st.fr 7) fun a4 => K ⟨a1, a2, a3, a4⟩
set_option maxHeartbeats 4000000 in
theorem p0_ok (st : St) (K : L0 → Prop) (h : p0 st K) : ∃ x, keepSt kp0 st = c0 x ∧ K x := by
  obtain ⟨a1, h0, h⟩ := gStr_elim h
  obtain ⟨a2, h1, h⟩ := gInt_elim h
  obtain ⟨a3, h2, h⟩ := gInt_elim h
  obtain ⟨a4, h3, h⟩ := gInt_elim h
  refine ⟨_, ?_, h⟩
  simp only [keepSt, kp0, List.map, h0, h1, h2, h3]
  rfl
def b0 (rec kx : L0 → Prop) (kr : R → Prop) (x : L0) : Prop :=
  (bif (decide (x.i < x.size)) then (oget (getI x.s x.i) fun v1 => (rec ⟨x.s, x.size, (IntKind.u64.wrap ((IntKind.u64.wrap (x.n0 * 256)) + (IntKind.u64.wrap (v1.toNat : Int)))), (IntKind.i64.wrap (x.i + 1))⟩)) else (kx ⟨x.s, x.size, x.n0, x.i⟩))
def lt : Nat → Option LSpec
  | 0 => some (mkLoop 0 kp0 kR p0 c0 cR b0)
  | _ => none
def F (s : Str) (size : Int) (K : (Int × Bool) → Prop) : Prop :=
  (bif ((s.length : Int) != size) then (K (0, false)) else (∃ n, loopB b0 n (fun x2 => (K (x2.n0, true))) (fun _ => False) ⟨s, size, 0, 0⟩))
noncomputable def en : Entry := mkEntry A C fun x => F x.1 x.2.1
theorem eqv (s : Str) (size : Int) (K : (Int × Bool) → Prop) : apure E tab lt 4 186 [enc .str s, enc (.int .i64) size] (ansK C K) = F s size K := by kernel_rfl
theorem l0v (R : St → Prop) (Kx : Nat → St → Prop) (Kr : St → Prop) (x : L0) : acode E tab (afun E tab 4) 25 lt ((loopsIn E.P 186).getD 0 (0, .skip)).2 0 (fun s => R (keepSt kp0 s)) (fun j s => Kx j (keepSt kp0 s)) (fun s => Kr (keepSt kR s)) (c0 x) = b0 (fun x => R (c0 x)) (fun x => Kx 0 (c0 x)) (fun r => Kr (cR r)) x := by kernel_rfl
theorem l0_ok : LSound E tab (afun E tab 4) 25 lt 0 ((loopsIn E.P 186).getD 0 (0, .skip)).2 (mkLoop 0 kp0 kR p0 c0 cR b0) := mkLoop_sound (by decide) (by decide) p0_ok (fun R Kx Kr x => l0v  R Kx Kr x)
theorem loops : LoopsOk E tab lt 4 186 := loops_of (nt := 25) (ids := [0]) (by kernel_rfl) (by kernel_rfl) (by
  intro k i hk l hl
  match k, hk with
  | 0, hk => cases hk; cases hl; exact l0_ok
  | _ + 1, hk => exact absurd hk (by simp))
theorem det (s : Str) (size : Int) : Det (F s size) := by
  unfold F
  repeat' with_reducible first | exact det_ret _ | exact det_false | refine det_cond _ ?_ ?_ | refine det_oget _ (fun _ => ?_) | refine det_loop (fun _ => ?_) (fun _ => ?_) (fun _ => ?_) _ | unfold b0
theorem edet (a : List AV) : Det (en a) := mkEntry_det (fun x : Dens A => det x.1 x.2.1) a
theorem ground : Ground E tab := ⟨num, mixed, (tab_nil _), clone, dtab_nil, stab⟩
theorem sound : EntrySound E 186 en := mkSound ground loops (by kernel_rfl) (fun (x : Dens A) K => eqv  x.1 x.2.1 K)
end q39
namespace q40
abbrev A : List Ty := [.str]
abbrev C := (cTwo (.int .u64) .bool)
abbrev T : Type := Str → ((Int × Bool) → Prop) → Prop
noncomputable def tv (f0 : q39.T) : Tab := [(186, mkEntry q39.A q39.C fun x => f0 x.1 x.2.1)]
noncomputable def tab : Tab := tv q39.F
def FV (f0 : q39.T) (s : Str) (K : (Int × Bool) → Prop) : Prop :=
  (f0 s 8 fun r1 => (K (r1.1, r1.2)))
def F (s : Str) (K : (Int × Bool) → Prop) : Prop := FV q39.F s K
noncomputable def en : Entry := mkEntry A C fun x => F x.1
theorem eqv (f0 : q39.T) (s : Str) (K : (Int × Bool) → Prop) : apure E (tv f0) (fun _ => none) 4 219 [enc .str s] (ansK C K) = FV f0 s K := by kernel_rfl
theorem loops : LoopsOk E tab (fun _ => none) 4 219 := loops_none _ _ _ _
theorem det (s : Str) : Det (F s) := by
  unfold F FV
  repeat' with_reducible first | exact det_ret _ | refine det_bind (q39.det _ _) (fun _ => ?_)
theorem edet (a : List AV) : Det (en a) := mkEntry_det (fun x : Dens A => det x.1) a
theorem ground : Ground E tab := ⟨num, mixed, (tab_cons q39.sound (tab_nil _)), clone, (dtab_cons q39.edet dtab_nil), stab⟩
theorem sound : EntrySound E 219 en := mkSound ground loops (by kernel_rfl) (fun (x : Dens A) K => eqv q39.F x.1 K)
end q40
namespace q41
abbrev A : List Ty := [.str, (.int .i64)]
abbrev C := (cTy (.int .u64))
abbrev T : Type := Str → Int → (Int → Prop) → Prop
noncomputable def tv (f0 : q40.T) : Tab := [(219, mkEntry q40.A q40.C fun x => f0 x.1)]
noncomputable def tab : Tab := tv q40.F
def FV (f0 : q40.T) (b_0 : Str) (at_1 : Int) (K : Int → Prop) : Prop :=
  (bif (decide (0 ≤ at_1) && decide (at_1 ≤ (IntKind.i64.wrap (at_1 + 8))) && decide ((IntKind.i64.wrap (at_1 + 8)) ≤ (b_0.length : Int))) then (f0 (sub b_0 (Int.toNat at_1) (Int.toNat (IntKind.i64.wrap (at_1 + 8)))) fun r1 => (K r1.1)) else False)
def F (b_0 : Str) (at_1 : Int) (K : Int → Prop) : Prop := FV q40.F b_0 at_1 K
noncomputable def en : Entry := mkEntry A C fun x => F x.1 x.2.1
theorem eqv (f0 : q40.T) (b_0 : Str) (at_1 : Int) (K : Int → Prop) : apure E (tv f0) (fun _ => none) 4 185 [enc .str b_0, enc (.int .i64) at_1] (ansK C K) = FV f0 b_0 at_1 K := by kernel_rfl
theorem loops : LoopsOk E tab (fun _ => none) 4 185 := loops_none _ _ _ _
theorem det (b_0 : Str) (at_1 : Int) : Det (F b_0 at_1) := by
  unfold F FV
  repeat' with_reducible first | exact det_ret _ | exact det_false | refine det_cond _ ?_ ?_ | refine det_bind (q40.det _) (fun _ => ?_)
theorem edet (a : List AV) : Det (en a) := mkEntry_det (fun x : Dens A => det x.1 x.2.1) a
theorem ground : Ground E tab := ⟨num, mixed, (tab_cons q40.sound (tab_nil _)), clone, (dtab_cons q40.edet dtab_nil), stab⟩
theorem sound : EntrySound E 185 en := mkSound ground loops (by kernel_rfl) (fun (x : Dens A) K => eqv q40.F x.1 x.2.1 K)
end q41
namespace q42
abbrev A : List Ty := [.str]
abbrev C := (cTwo (.st 3) (.int .i64))
abbrev T : Type := Str → ((Super × Int) → Prop) → Prop
noncomputable def tv (f0 : q37.T) (f1 : q38.T) (f2 : q41.T) (f3 : q24.T) (f4 : q28.T) : Tab := [(143, mkEntry q37.A q37.C fun x => f0 x.1), (184, mkEntry q38.A q38.C fun x => f1 x.1 x.2.1), (185, mkEntry q41.A q41.C fun x => f2 x.1 x.2.1), (137, mkEntry q24.A q24.C fun x => f3 x.1), (138, mkEntry q28.A q28.C fun x => f4 x.1)]
noncomputable def tab : Tab := tv q37.F q38.F q41.F q24.F q28.F
def FV (f0 : q37.T) (f1 : q38.T) (f2 : q41.T) (f3 : q24.T) (f4 : q28.T) (b_0 : Str) (K : (Super × Int) → Prop) : Prop :=
  (f0 b_0 fun r1 => (bif (r1.2 != 0) then (K ((⟨0, (⟨0, 0, 0, 0⟩ : Vec), false, false, false⟩ : Super), r1.2)) else (bif ((r1.1.length : Int) != 37) then (K ((⟨0, (⟨0, 0, 0, 0⟩ : Vec), false, false, false⟩ : Super), 2)) else (oget (getI r1.1 4) fun v2 => (bif (decide ((v2.toNat : Int) > 7)) then (K ((⟨0, (⟨0, 0, 0, 0⟩ : Vec), false, false, false⟩ : Super), 2)) else (oget (getI r1.1 4) fun v3 => (f1 (v3.toNat : Int) 3 fun r4 => (oget (getI r1.1 3) fun v5 => (f2 r1.1 5 fun r6 => (f2 r1.1 13 fun r7 => (f2 r1.1 21 fun r8 => (f2 r1.1 29 fun r9 => (oget (getI r4.1 0) fun v10 => (oget (getI r4.1 1) fun v11 => (oget (getI r4.1 2) fun v12 => (f3 (⟨(IntKind.i64.wrap (v5.toNat : Int)), (⟨r6, r7, r8, r9⟩ : Vec), v10, v11, v12⟩ : Super) fun r13 => (bif (!r13) then (K ((⟨0, (⟨0, 0, 0, 0⟩ : Vec), false, false, false⟩ : Super), 2)) else (f4 (⟨(IntKind.i64.wrap (v5.toNat : Int)), (⟨r6, r7, r8, r9⟩ : Vec), v10, v11, v12⟩ : Super) fun r14 => (bif (!(r14 == r1.1)) then (K ((⟨0, (⟨0, 0, 0, 0⟩ : Vec), false, false, false⟩ : Super), 2)) else (K ((⟨(IntKind.i64.wrap (v5.toNat : Int)), (⟨r6, r7, r8, r9⟩ : Vec), v10, v11, v12⟩ : Super), 0)))))))))))))))))))))
def F (b_0 : Str) (K : (Super × Int) → Prop) : Prop := FV q37.F q38.F q41.F q24.F q28.F b_0 K
noncomputable def en : Entry := mkEntry A C fun x => F x.1
theorem eqv (f0 : q37.T) (f1 : q38.T) (f2 : q41.T) (f3 : q24.T) (f4 : q28.T) (b_0 : Str) (K : (Super × Int) → Prop) : apure E (tv f0 f1 f2 f3 f4) (fun _ => none) 4 141 [enc .str b_0] (ansK C K) = FV f0 f1 f2 f3 f4 b_0 K := by kernel_rfl
theorem loops : LoopsOk E tab (fun _ => none) 4 141 := loops_none _ _ _ _
theorem det (b_0 : Str) : Det (F b_0) := by
  unfold F FV
  repeat' with_reducible first | exact det_ret _ | refine det_cond _ ?_ ?_ | refine det_oget _ (fun _ => ?_) | refine det_bind (q37.det _) (fun _ => ?_) | refine det_bind (q38.det _ _) (fun _ => ?_) | refine det_bind (q41.det _ _) (fun _ => ?_) | refine det_bind (q24.det _) (fun _ => ?_) | refine det_bind (q28.det _) (fun _ => ?_)
theorem edet (a : List AV) : Det (en a) := mkEntry_det (fun x : Dens A => det x.1) a
theorem ground : Ground E tab := ⟨num, mixed, (tab_cons q37.sound (tab_cons q38.sound (tab_cons q41.sound (tab_cons q24.sound (tab_cons q28.sound (tab_nil _)))))), clone, (dtab_cons q37.edet (dtab_cons q38.edet (dtab_cons q41.edet (dtab_cons q24.edet (dtab_cons q28.edet dtab_nil))))), stab⟩
theorem sound : EntrySound E 141 en := mkSound ground loops (by kernel_rfl) (fun (x : Dens A) K => eqv q37.F q38.F q41.F q24.F q28.F x.1 K)
end q42
namespace q43
abbrev A : List Ty := [(.st 1), (.st 3)]
abbrev C := (cTy .bool)
abbrev T : Type := Disk → Super → (Bool → Prop) → Prop
noncomputable def tab : Tab := []
def F (d : Disk) (s : Super) (K : Bool → Prop) : Prop :=
  (K ((IntKind.i64.wrap ((d.sure.length : Int) - 2)) == s.blocks))
noncomputable def en : Entry := mkEntry A C fun x => F x.1 x.2.1
theorem eqv (d : Disk) (s : Super) (K : Bool → Prop) : apure E tab (fun _ => none) 4 142 [enc (.st 1) d, enc (.st 3) s] (ansK C K) = F d s K := by kernel_rfl
theorem loops : LoopsOk E tab (fun _ => none) 4 142 := loops_none _ _ _ _
theorem det (d : Disk) (s : Super) : Det (F d s) := by
  unfold F
  repeat' with_reducible first | exact det_ret _
theorem edet (a : List AV) : Det (en a) := mkEntry_det (fun x : Dens A => det x.1 x.2.1) a
theorem ground : Ground E tab := ⟨num, mixed, (tab_nil _), clone, dtab_nil, stab⟩
theorem sound : EntrySound E 142 en := mkSound ground loops (by kernel_rfl) (fun (x : Dens A) K => eqv  x.1 x.2.1 K)
end q43
namespace q44
abbrev A : List Ty := [(.st 1)]
abbrev C := (cTwo (.st 3) (.int .i64))
abbrev T : Type := Disk → ((Super × Int) → Prop) → Prop
noncomputable def tv (f0 : q36.T) (f1 : q42.T) (f2 : q43.T) : Tab := [(132, mkEntry q36.A q36.C fun x => f0 x.1 x.2.1), (141, mkEntry q42.A q42.C fun x => f1 x.1), (142, mkEntry q43.A q43.C fun x => f2 x.1 x.2.1)]
noncomputable def tab : Tab := tv q36.F q42.F q43.F
def FV (f0 : q36.T) (f1 : q42.T) (f2 : q43.T) (d : Disk) (K : (Super × Int) → Prop) : Prop :=
  (f0 d 0 fun r1 => (bif (r1.2 != 0) then (K ((⟨0, (⟨0, 0, 0, 0⟩ : Vec), false, false, false⟩ : Super), r1.2)) else (f1 r1.1 fun r2 => (bif (r2.2 != 0) then (K ((⟨0, (⟨0, 0, 0, 0⟩ : Vec), false, false, false⟩ : Super), r2.2)) else (f2 d r2.1 fun r3 => (bif (!r3) then (K ((⟨0, (⟨0, 0, 0, 0⟩ : Vec), false, false, false⟩ : Super), 2)) else (K (r2.1, 0))))))))
def F (d : Disk) (K : (Super × Int) → Prop) : Prop := FV q36.F q42.F q43.F d K
noncomputable def en : Entry := mkEntry A C fun x => F x.1
theorem eqv (f0 : q36.T) (f1 : q42.T) (f2 : q43.T) (d : Disk) (K : (Super × Int) → Prop) : apure E (tv f0 f1 f2) (fun _ => none) 4 102 [enc (.st 1) d] (ansK C K) = FV f0 f1 f2 d K := by kernel_rfl
theorem loops : LoopsOk E tab (fun _ => none) 4 102 := loops_none _ _ _ _
theorem det (d : Disk) : Det (F d) := by
  unfold F FV
  repeat' with_reducible first | exact det_ret _ | refine det_cond _ ?_ ?_ | refine det_bind (q36.det _ _) (fun _ => ?_) | refine det_bind (q42.det _) (fun _ => ?_) | refine det_bind (q43.det _ _) (fun _ => ?_)
theorem edet (a : List AV) : Det (en a) := mkEntry_det (fun x : Dens A => det x.1) a
theorem ground : Ground E tab := ⟨num, mixed, (tab_cons q36.sound (tab_cons q42.sound (tab_cons q43.sound (tab_nil _)))), clone, (dtab_cons q36.edet (dtab_cons q42.edet (dtab_cons q43.edet dtab_nil))), stab⟩
theorem sound : EntrySound E 102 en := mkSound ground loops (by kernel_rfl) (fun (x : Dens A) K => eqv q36.F q42.F q43.F x.1 K)
end q44
namespace q45
abbrev A : List Ty := [.str]
abbrev C := (cTwo (.int .u32) .bool)
abbrev T : Type := Str → ((Int × Bool) → Prop) → Prop
noncomputable def tv (f0 : q39.T) : Tab := [(186, mkEntry q39.A q39.C fun x => f0 x.1 x.2.1)]
noncomputable def tab : Tab := tv q39.F
def FV (f0 : q39.T) (s : Str) (K : (Int × Bool) → Prop) : Prop :=
  (f0 s 4 fun r1 => (K ((IntKind.u32.wrap r1.1), r1.2)))
def F (s : Str) (K : (Int × Bool) → Prop) : Prop := FV q39.F s K
noncomputable def en : Entry := mkEntry A C fun x => F x.1
theorem eqv (f0 : q39.T) (s : Str) (K : (Int × Bool) → Prop) : apure E (tv f0) (fun _ => none) 4 144 [enc .str s] (ansK C K) = FV f0 s K := by kernel_rfl
theorem loops : LoopsOk E tab (fun _ => none) 4 144 := loops_none _ _ _ _
theorem det (s : Str) : Det (F s) := by
  unfold F FV
  repeat' with_reducible first | exact det_ret _ | refine det_bind (q39.det _ _) (fun _ => ?_)
theorem edet (a : List AV) : Det (en a) := mkEntry_det (fun x : Dens A => det x.1) a
theorem ground : Ground E tab := ⟨num, mixed, (tab_cons q39.sound (tab_nil _)), clone, (dtab_cons q39.edet dtab_nil), stab⟩
theorem sound : EntrySound E 144 en := mkSound ground loops (by kernel_rfl) (fun (x : Dens A) K => eqv q39.F x.1 K)
end q45
namespace q46
abbrev A : List Ty := [(.int .i64)]
abbrev C := (cTy (.int .u32))
abbrev T : Type := Int → (Int → Prop) → Prop
noncomputable def tab : Tab := []
structure R where
def cR (_ : R) : St := { fr := fun _ => .top, hs := hs0 }
def kR : Keep := { ks := [], bs := [], hn := 0 }
structure L0 where
  n0 : Int
  p : Int
  i : Int
def c0 (x : L0) : St := { fr := lookL .top [(0, (.int .i64 x.n0)), (3, (.int .u32 x.p)), (4, (.int .i64 x.i))], hs := { hp := lookL .dead [], hn := 0 } }
def kp0 : Keep := { ks := [(0, none), (3, none), (4, none)], bs := [], hn := 0 }
def p0 (st : St) (K : L0 → Prop) : Prop := gInt .i64 (st.fr 0) fun a1 => gInt .u32 (st.fr 3) fun a2 => gInt .i64 (st.fr 4) fun a3 => K ⟨a1, a2, a3⟩
set_option maxHeartbeats 4000000 in
theorem p0_ok (st : St) (K : L0 → Prop) (h : p0 st K) : ∃ x, keepSt kp0 st = c0 x ∧ K x := by
  obtain ⟨a1, h0, h⟩ := gInt_elim h
  obtain ⟨a2, h1, h⟩ := gInt_elim h
  obtain ⟨a3, h2, h⟩ := gInt_elim h
  refine ⟨_, ?_, h⟩
  simp only [keepSt, kp0, List.map, h0, h1, h2]
  rfl
def b0 (rec kx : L0 → Prop) (kr : R → Prop) (x : L0) : Prop :=
  (bif (decide (x.i < x.n0)) then (rec ⟨x.n0, (IntKind.u32.wrap (2 * x.p)), (IntKind.i64.wrap (x.i + 1))⟩) else (kx ⟨x.n0, x.p, x.i⟩))
def lt : Nat → Option LSpec
  | 0 => some (mkLoop 0 kp0 kR p0 c0 cR b0)
  | _ => none
def F (n_0 : Int) (K : Int → Prop) : Prop :=
  (∃ n, loopB b0 n (fun x1 => (K x1.p)) (fun _ => False) ⟨n_0, 1, 0⟩)
noncomputable def en : Entry := mkEntry A C fun x => F x.1
theorem eqv (n_0 : Int) (K : Int → Prop) : apure E tab lt 4 162 [enc (.int .i64) n_0] (ansK C K) = F n_0 K := by kernel_rfl
theorem l0v (R : St → Prop) (Kx : Nat → St → Prop) (Kr : St → Prop) (x : L0) : acode E tab (afun E tab 4) 13 lt ((loopsIn E.P 162).getD 0 (0, .skip)).2 0 (fun s => R (keepSt kp0 s)) (fun j s => Kx j (keepSt kp0 s)) (fun s => Kr (keepSt kR s)) (c0 x) = b0 (fun x => R (c0 x)) (fun x => Kx 0 (c0 x)) (fun r => Kr (cR r)) x := by kernel_rfl
theorem l0_ok : LSound E tab (afun E tab 4) 13 lt 0 ((loopsIn E.P 162).getD 0 (0, .skip)).2 (mkLoop 0 kp0 kR p0 c0 cR b0) := mkLoop_sound (by decide) (by decide) p0_ok (fun R Kx Kr x => l0v  R Kx Kr x)
theorem loops : LoopsOk E tab lt 4 162 := loops_of (nt := 13) (ids := [0]) (by kernel_rfl) (by kernel_rfl) (by
  intro k i hk l hl
  match k, hk with
  | 0, hk => cases hk; cases hl; exact l0_ok
  | _ + 1, hk => exact absurd hk (by simp))
theorem det (n_0 : Int) : Det (F n_0) := by
  unfold F
  repeat' with_reducible first | exact det_ret _ | exact det_false | refine det_cond _ ?_ ?_ | refine det_loop (fun _ => ?_) (fun _ => ?_) (fun _ => ?_) _ | unfold b0
theorem edet (a : List AV) : Det (en a) := mkEntry_det (fun x : Dens A => det x.1) a
theorem ground : Ground E tab := ⟨num, mixed, (tab_nil _), clone, dtab_nil, stab⟩
theorem sound : EntrySound E 162 en := mkSound ground loops (by kernel_rfl) (fun (x : Dens A) K => eqv  x.1 K)
end q46
namespace q47
abbrev A : List Ty := [(.int .u32), (.int .i64)]
abbrev C := (cTy .bool)
abbrev T : Type := Int → Int → (Bool → Prop) → Prop
noncomputable def tv (f0 : q46.T) : Tab := [(162, mkEntry q46.A q46.C fun x => f0 x.1)]
noncomputable def tab : Tab := tv q46.F
def FV (f0 : q46.T) (m : Int) (i : Int) (K : Bool → Prop) : Prop :=
  (bif (decide (i ≥ 0)) then (bif (decide (i < 32)) then (f0 i fun r1 => (bif (r1 == 0) then False else (bif (2 == 0) then False else (K (((IntKind.u32.wrap (m.tdiv r1)).tmod 2) == 1))))) else (K false)) else (K false))
def F (m : Int) (i : Int) (K : Bool → Prop) : Prop := FV q46.F m i K
noncomputable def en : Entry := mkEntry A C fun x => F x.1 x.2.1
theorem eqv (f0 : q46.T) (m : Int) (i : Int) (K : Bool → Prop) : apure E (tv f0) (fun _ => none) 4 161 [enc (.int .u32) m, enc (.int .i64) i] (ansK C K) = FV f0 m i K := by kernel_rfl
theorem loops : LoopsOk E tab (fun _ => none) 4 161 := loops_none _ _ _ _
theorem det (m : Int) (i : Int) : Det (F m i) := by
  unfold F FV
  repeat' with_reducible first | exact det_ret _ | exact det_false | refine det_cond _ ?_ ?_ | refine det_bind (q46.det _) (fun _ => ?_)
theorem edet (a : List AV) : Det (en a) := mkEntry_det (fun x : Dens A => det x.1 x.2.1) a
theorem ground : Ground E tab := ⟨num, mixed, (tab_cons q46.sound (tab_nil _)), clone, (dtab_cons q46.edet dtab_nil), stab⟩
theorem sound : EntrySound E 161 en := mkSound ground loops (by kernel_rfl) (fun (x : Dens A) K => eqv q46.F x.1 x.2.1 K)
end q47
namespace q48
abbrev A : List Ty := [(.int .u32), (.int .i64)]
abbrev C := (cTy .bool)
abbrev T : Type := Int → Int → (Bool → Prop) → Prop
noncomputable def tv (f0 : q47.T) : Tab := [(161, mkEntry q47.A q47.C fun x => f0 x.1 x.2.1)]
noncomputable def tab : Tab := tv q47.F
structure R where
  t4 : Bool
def cR (x : R) : St := { fr := lookL .top [(4, (.bool x.t4))], hs := { hp := lookL .dead [], hn := 0 } }
def kR : Keep := { ks := [(4, none)], bs := [], hn := 0 }
structure L0 where
  m : Int
  i : Int
def c0 (x : L0) : St := { fr := lookL .top [(0, (.int .u32 x.m)), (5, (.int .i64 x.i))], hs := { hp := lookL .dead [], hn := 0 } }
def kp0 : Keep := { ks := [(0, none), (5, none)], bs := [], hn := 0 }
def p0 (st : St) (K : L0 → Prop) : Prop := gInt .u32 (st.fr 0) fun a1 => gInt .i64 (st.fr 5) fun a2 => K ⟨a1, a2⟩
set_option maxHeartbeats 4000000 in
theorem p0_ok (st : St) (K : L0 → Prop) (h : p0 st K) : ∃ x, keepSt kp0 st = c0 x ∧ K x := by
  obtain ⟨a1, h0, h⟩ := gInt_elim h
  obtain ⟨a2, h1, h⟩ := gInt_elim h
  refine ⟨_, ?_, h⟩
  simp only [keepSt, kp0, List.map, h0, h1]
  rfl
def b0V (f0 : q47.T) (rec kx : L0 → Prop) (kr : R → Prop) (x : L0) : Prop :=
  (bif (decide (x.i < 32)) then (f0 x.m x.i fun r1 => (bif r1 then (kr ⟨false⟩) else (rec ⟨x.m, (IntKind.i64.wrap (x.i + 1))⟩))) else (kx ⟨x.m, x.i⟩))
def ltV (f0 : q47.T) : Nat → Option LSpec
  | 0 => some (mkLoop 0 kp0 kR p0 c0 cR (b0V f0))
  | _ => none
def lt : Nat → Option LSpec := ltV q47.F
def FV (f0 : q47.T) (m : Int) (blocks : Int) (K : Bool → Prop) : Prop :=
  (bif (decide (blocks < 1)) then (K false) else (bif (decide (blocks > 32)) then (K false) else (∃ n, loopB (b0V f0) n (fun x2 => (K true)) (fun r3 => (K r3.t4)) ⟨m, blocks⟩)))
def F (m : Int) (blocks : Int) (K : Bool → Prop) : Prop := FV q47.F m blocks K
noncomputable def en : Entry := mkEntry A C fun x => F x.1 x.2.1
theorem eqv (f0 : q47.T) (m : Int) (blocks : Int) (K : Bool → Prop) : apure E (tv f0) (ltV f0) 4 145 [enc (.int .u32) m, enc (.int .i64) blocks] (ansK C K) = FV f0 m blocks K := by kernel_rfl
theorem l0v (f0 : q47.T) (R : St → Prop) (Kx : Nat → St → Prop) (Kr : St → Prop) (x : L0) : acode E (tv f0) (afun E (tv f0) 4) 20 (ltV f0) ((loopsIn E.P 145).getD 0 (0, .skip)).2 0 (fun s => R (keepSt kp0 s)) (fun j s => Kx j (keepSt kp0 s)) (fun s => Kr (keepSt kR s)) (c0 x) = b0V f0 (fun x => R (c0 x)) (fun x => Kx 0 (c0 x)) (fun r => Kr (cR r)) x := by kernel_rfl
theorem l0_ok : LSound E tab (afun E tab 4) 20 lt 0 ((loopsIn E.P 145).getD 0 (0, .skip)).2 (mkLoop 0 kp0 kR p0 c0 cR (b0V q47.F)) := mkLoop_sound (by decide) (by decide) p0_ok (fun R Kx Kr x => l0v q47.F R Kx Kr x)
theorem loops : LoopsOk E tab lt 4 145 := loops_of (nt := 20) (ids := [0]) (by kernel_rfl) (by kernel_rfl) (by
  intro k i hk l hl
  match k, hk with
  | 0, hk => cases hk; cases hl; exact l0_ok
  | _ + 1, hk => exact absurd hk (by simp))
theorem det (m : Int) (blocks : Int) : Det (F m blocks) := by
  unfold F FV
  repeat' with_reducible first | exact det_ret _ | refine det_cond _ ?_ ?_ | refine det_bind (q47.det _ _) (fun _ => ?_) | refine det_loop (fun _ => ?_) (fun _ => ?_) (fun _ => ?_) _ | unfold b0V
theorem edet (a : List AV) : Det (en a) := mkEntry_det (fun x : Dens A => det x.1 x.2.1) a
theorem ground : Ground E tab := ⟨num, mixed, (tab_cons q47.sound (tab_nil _)), clone, (dtab_cons q47.edet dtab_nil), stab⟩
theorem sound : EntrySound E 145 en := mkSound ground loops (by kernel_rfl) (fun (x : Dens A) K => eqv q47.F x.1 x.2.1 K)
end q48
namespace q49
abbrev A : List Ty := [(.st 1)]
abbrev C := (cTwo (.int .u32) (.int .i64))
abbrev T : Type := Disk → ((Int × Int) → Prop) → Prop
noncomputable def tv (f0 : q36.T) (f1 : q37.T) (f2 : q45.T) (f3 : q48.T) : Tab := [(132, mkEntry q36.A q36.C fun x => f0 x.1 x.2.1), (143, mkEntry q37.A q37.C fun x => f1 x.1), (144, mkEntry q45.A q45.C fun x => f2 x.1), (145, mkEntry q48.A q48.C fun x => f3 x.1 x.2.1)]
noncomputable def tab : Tab := tv q36.F q37.F q45.F q48.F
def FV (f0 : q36.T) (f1 : q37.T) (f2 : q45.T) (f3 : q48.T) (d : Disk) (K : (Int × Int) → Prop) : Prop :=
  (f0 d 1 fun r1 => (bif (r1.2 != 0) then (K (0, r1.2)) else (f1 r1.1 fun r2 => (bif (r2.2 != 0) then (K (0, r2.2)) else (f2 r2.1 fun r3 => (bif (!r3.2) then (K (0, 2)) else (f3 r3.1 (IntKind.i64.wrap ((d.sure.length : Int) - 2)) fun r4 => (bif (!r4) then (K (0, 2)) else (K (r3.1, 0))))))))))
def F (d : Disk) (K : (Int × Int) → Prop) : Prop := FV q36.F q37.F q45.F q48.F d K
noncomputable def en : Entry := mkEntry A C fun x => F x.1
theorem eqv (f0 : q36.T) (f1 : q37.T) (f2 : q45.T) (f3 : q48.T) (d : Disk) (K : (Int × Int) → Prop) : apure E (tv f0 f1 f2 f3) (fun _ => none) 4 103 [enc (.st 1) d] (ansK C K) = FV f0 f1 f2 f3 d K := by kernel_rfl
theorem loops : LoopsOk E tab (fun _ => none) 4 103 := loops_none _ _ _ _
theorem det (d : Disk) : Det (F d) := by
  unfold F FV
  repeat' with_reducible first | exact det_ret _ | refine det_cond _ ?_ ?_ | refine det_bind (q36.det _ _) (fun _ => ?_) | refine det_bind (q37.det _) (fun _ => ?_) | refine det_bind (q45.det _) (fun _ => ?_) | refine det_bind (q48.det _ _) (fun _ => ?_)
theorem edet (a : List AV) : Det (en a) := mkEntry_det (fun x : Dens A => det x.1) a
theorem ground : Ground E tab := ⟨num, mixed, (tab_cons q36.sound (tab_cons q37.sound (tab_cons q45.sound (tab_cons q48.sound (tab_nil _))))), clone, (dtab_cons q36.edet (dtab_cons q37.edet (dtab_cons q45.edet (dtab_cons q48.edet dtab_nil)))), stab⟩
theorem sound : EntrySound E 103 en := mkSound ground loops (by kernel_rfl) (fun (x : Dens A) K => eqv q36.F q37.F q45.F q48.F x.1 K)
end q49
namespace q50
abbrev A : List Ty := [(.st 1), (.int .i64)]
abbrev C := (cTy .bool)
abbrev T : Type := Disk → Int → (Bool → Prop) → Prop
noncomputable def tab : Tab := []
def F (d : Disk) (i : Int) (K : Bool → Prop) : Prop :=
  (bif (decide (i ≥ 0)) then (K (decide (i < (IntKind.i64.wrap ((d.sure.length : Int) - 2))))) else (K false))
noncomputable def en : Entry := mkEntry A C fun x => F x.1 x.2.1
theorem eqv (d : Disk) (i : Int) (K : Bool → Prop) : apure E tab (fun _ => none) 4 131 [enc (.st 1) d, enc (.int .i64) i] (ansK C K) = F d i K := by kernel_rfl
theorem loops : LoopsOk E tab (fun _ => none) 4 131 := loops_none _ _ _ _
theorem det (d : Disk) (i : Int) : Det (F d i) := by
  unfold F
  repeat' with_reducible first | exact det_ret _ | refine det_cond _ ?_ ?_
theorem edet (a : List AV) : Det (en a) := mkEntry_det (fun x : Dens A => det x.1 x.2.1) a
theorem ground : Ground E tab := ⟨num, mixed, (tab_nil _), clone, dtab_nil, stab⟩
theorem sound : EntrySound E 131 en := mkSound ground loops (by kernel_rfl) (fun (x : Dens A) K => eqv  x.1 x.2.1 K)
end q50
namespace q51
abbrev A : List Ty := [(.st 1), (.int .i64)]
abbrev C := (cTwo .str (.int .i64))
abbrev T : Type := Disk → Int → ((Str × Int) → Prop) → Prop
noncomputable def tv (f0 : q50.T) (f1 : q36.T) : Tab := [(131, mkEntry q50.A q50.C fun x => f0 x.1 x.2.1), (132, mkEntry q36.A q36.C fun x => f1 x.1 x.2.1)]
noncomputable def tab : Tab := tv q50.F q36.F
def FV (f0 : q50.T) (f1 : q36.T) (d : Disk) (i : Int) (K : (Str × Int) → Prop) : Prop :=
  (f0 d i fun r1 => (bif (!r1) then (K (([] : Str), 4)) else (f1 d (IntKind.i64.wrap (i + 2)) fun r2 => (bif (r2.2 != 0) then (K (([] : Str), r2.2)) else (bif ((r2.1.length : Int) != 8) then (K (([] : Str), 2)) else (K (r2.1, 0)))))))
def F (d : Disk) (i : Int) (K : (Str × Int) → Prop) : Prop := FV q50.F q36.F d i K
noncomputable def en : Entry := mkEntry A C fun x => F x.1 x.2.1
theorem eqv (f0 : q50.T) (f1 : q36.T) (d : Disk) (i : Int) (K : (Str × Int) → Prop) : apure E (tv f0 f1) (fun _ => none) 4 92 [enc (.st 1) d, enc (.int .i64) i] (ansK C K) = FV f0 f1 d i K := by kernel_rfl
theorem loops : LoopsOk E tab (fun _ => none) 4 92 := loops_none _ _ _ _
theorem det (d : Disk) (i : Int) : Det (F d i) := by
  unfold F FV
  repeat' with_reducible first | exact det_ret _ | refine det_cond _ ?_ ?_ | refine det_bind (q50.det _ _) (fun _ => ?_) | refine det_bind (q36.det _ _) (fun _ => ?_)
theorem edet (a : List AV) : Det (en a) := mkEntry_det (fun x : Dens A => det x.1 x.2.1) a
theorem ground : Ground E tab := ⟨num, mixed, (tab_cons q50.sound (tab_cons q36.sound (tab_nil _))), clone, (dtab_cons q50.edet (dtab_cons q36.edet dtab_nil)), stab⟩
theorem sound : EntrySound E 92 en := mkSound ground loops (by kernel_rfl) (fun (x : Dens A) K => eqv q50.F q36.F x.1 x.2.1 K)
end q51
namespace q52
abbrev A : List Ty := [(.st 1)]
abbrev C := (cTwo (.slice .str) (.int .i64))
abbrev T : Type := Disk → (((List Str) × Int) → Prop) → Prop
noncomputable def tv (f0 : q51.T) : Tab := [(92, mkEntry q51.A q51.C fun x => f0 x.1 x.2.1)]
noncomputable def tab : Tab := tv q51.F
structure R where
  t2 : (List Str)
  t3 : Int
def cR (x : R) : St := { fr := lookL .top [(2, (.slr 3)), (3, (.int .i64 x.t3))], hs := { hp := lookL .dead [(3, (.row false .str x.t2))], hn := 4 } }
def kR : Keep := { ks := [(2, some 3), (3, none)], bs := [], hn := 4 }
structure L0 where
  out : (List Str)
  i : Int
  m0 : Disk
def c0 (x : L0) : St := { fr := lookL .top [(1, (.ptr 0 0)), (4, (.slr 2)), (5, (.int .i64 x.i))], hs := { hp := lookL .dead [(2, (.row false .str x.out)), (0, (.cells (encS 1 x.m0)))], hn := 3 } }
def kp0 : Keep := { ks := [(1, none), (4, some 2), (5, none)], bs := [0], hn := 3, ts := [(0, 1)] }
def p0 (st : St) (K : L0 → Prop) : Prop := gHomes kp0 st <| gPtr 0 0 (st.fr 1) <| gSlr (st.fr 4) fun c1 => gRow false .str (st.hs.hp c1) fun a2 => gInt .i64 (st.fr 5) fun a3 => gBlkS 1 (st.hs.hp 0) fun a4 => K ⟨a2, a3, a4⟩
set_option maxHeartbeats 4000000 in
theorem p0_ok (st : St) (K : L0 → Prop) (h : p0 st K) : ∃ x, keepSt kp0 st = c0 x ∧ K x := by
  obtain ⟨h0, h⟩ := gHomes_elim h
  obtain ⟨h1, h⟩ := gPtr_elim h
  obtain ⟨c1, h2, h⟩ := gSlr_elim h
  obtain ⟨a2, h3, h⟩ := gRow_elim h
  obtain ⟨a3, h4, h⟩ := gInt_elim h
  obtain ⟨z5, a4, h5, y5, h⟩ := gBlkS_elim h
  have q5 : ∀ ok, keptB kp0 ok 0 (.cells z5) = .cells (encS 1 a4) := fun _ => y5
  simp only [kp0] at q5
  refine ⟨_, ?_, h⟩
  simp only [keepSt, h0]
  simp only [kp0, List.map, List.filterMap, homeOf, h1, h2, h3, h4, h5, q5, hmOf, List.append_nil, cond_true]
  rfl
def b0V (f0 : q51.T) (rec kx : L0 → Prop) (kr : R → Prop) (x : L0) : Prop :=
  (bif (decide (x.i < (IntKind.i64.wrap ((x.m0.sure.length : Int) - 2)))) then (f0 x.m0 x.i fun r1 => (bif (r1.2 != 0) then (kr ⟨([] : List Str), r1.2⟩) else (bif (decide ((x.out.length + ([r1.1] : List Str).length) * 16 ≤ room)) then (rec ⟨(x.out ++ ([r1.1] : List Str)), (IntKind.i64.wrap (x.i + 1)), x.m0⟩) else False))) else (kx ⟨x.out, x.i, x.m0⟩))
def ltV (f0 : q51.T) : Nat → Option LSpec
  | 0 => some (mkLoop 0 kp0 kR p0 c0 cR (b0V f0))
  | _ => none
def lt : Nat → Option LSpec := ltV q51.F
def FV (f0 : q51.T) (d : Disk) (K : ((List Str) × Int) → Prop) : Prop :=
  (∃ n, loopB (b0V f0) n (fun x2 => (K (x2.out, 0))) (fun r3 => (K (r3.t2, r3.t3))) ⟨([] : List Str), 0, d⟩)
def F (d : Disk) (K : ((List Str) × Int) → Prop) : Prop := FV q51.F d K
noncomputable def en : Entry := mkEntry A C fun x => F x.1
theorem eqv (f0 : q51.T) (d : Disk) (K : ((List Str) × Int) → Prop) : apure E (tv f0) (ltV f0) 4 104 [enc (.st 1) d] (ansK C K) = FV f0 d K := by kernel_rfl
theorem l0v (f0 : q51.T) (R : St → Prop) (Kx : Nat → St → Prop) (Kr : St → Prop) (x : L0) : acode E (tv f0) (afun E (tv f0) 4) 30 (ltV f0) ((loopsIn E.P 104).getD 0 (0, .skip)).2 0 (fun s => R (keepSt kp0 s)) (fun j s => Kx j (keepSt kp0 s)) (fun s => Kr (keepSt kR s)) (c0 x) = b0V f0 (fun x => R (c0 x)) (fun x => Kx 0 (c0 x)) (fun r => Kr (cR r)) x := by kernel_rfl
theorem l0_ok : LSound E tab (afun E tab 4) 30 lt 0 ((loopsIn E.P 104).getD 0 (0, .skip)).2 (mkLoop 0 kp0 kR p0 c0 cR (b0V q51.F)) := mkLoop_sound (by decide) (by decide) p0_ok (fun R Kx Kr x => l0v q51.F R Kx Kr x)
theorem loops : LoopsOk E tab lt 4 104 := loops_of (nt := 30) (ids := [0]) (by kernel_rfl) (by kernel_rfl) (by
  intro k i hk l hl
  match k, hk with
  | 0, hk => cases hk; cases hl; exact l0_ok
  | _ + 1, hk => exact absurd hk (by simp))
theorem det (d : Disk) : Det (F d) := by
  unfold F FV
  repeat' with_reducible first | exact det_ret _ | exact det_false | refine det_cond _ ?_ ?_ | refine det_bind (q51.det _ _) (fun _ => ?_) | refine det_loop (fun _ => ?_) (fun _ => ?_) (fun _ => ?_) _ | unfold b0V
theorem edet (a : List AV) : Det (en a) := mkEntry_det (fun x : Dens A => det x.1) a
theorem ground : Ground E tab := ⟨num, mixed, (tab_cons q51.sound (tab_nil _)), clone, (dtab_cons q51.edet dtab_nil), stab⟩
theorem sound : EntrySound E 104 en := mkSound ground loops (by kernel_rfl) (fun (x : Dens A) K => eqv q51.F x.1 K)
end q52
namespace q53
abbrev A : List Ty := [(.st 1)]
abbrev C := (cTwo (.st 8) (.int .i64))
abbrev T : Type := Disk → ((Store × Int) → Prop) → Prop
noncomputable def tv (f0 : q44.T) (f1 : q49.T) (f2 : q52.T) : Tab := [(102, mkEntry q44.A q44.C fun x => f0 x.1), (103, mkEntry q49.A q49.C fun x => f1 x.1), (104, mkEntry q52.A q52.C fun x => f2 x.1)]
noncomputable def tab : Tab := tv q44.F q49.F q52.F
def FV (f0 : q44.T) (f1 : q49.T) (f2 : q52.T) (d : Disk) (K : (Store × Int) → Prop) : Prop :=
  (f0 d fun r1 => (bif (r1.2 != 0) then (K ((⟨(⟨([] : List Str), ([] : List Write), 0, false⟩ : Disk), (⟨0, (⟨0, 0, 0, 0⟩ : Vec), false, false, false⟩ : Super), 0⟩ : Store), r1.2)) else (f1 d fun r2 => (bif (r2.2 != 0) then (K ((⟨(⟨([] : List Str), ([] : List Write), 0, false⟩ : Disk), (⟨0, (⟨0, 0, 0, 0⟩ : Vec), false, false, false⟩ : Super), 0⟩ : Store), r2.2)) else (f2 d fun r3 => (bif (r3.2 != 0) then (K ((⟨(⟨([] : List Str), ([] : List Write), 0, false⟩ : Disk), (⟨0, (⟨0, 0, 0, 0⟩ : Vec), false, false, false⟩ : Super), 0⟩ : Store), r3.2)) else (K ((⟨d, r1.1, r2.1⟩ : Store), 0))))))))
def F (d : Disk) (K : (Store × Int) → Prop) : Prop := FV q44.F q49.F q52.F d K
noncomputable def en : Entry := mkEntry A C fun x => F x.1
theorem eqv (f0 : q44.T) (f1 : q49.T) (f2 : q52.T) (d : Disk) (K : (Store × Int) → Prop) : apure E (tv f0 f1 f2) (fun _ => none) 4 69 [enc (.st 1) d] (ansK C K) = FV f0 f1 f2 d K := by kernel_rfl
theorem loops : LoopsOk E tab (fun _ => none) 4 69 := loops_none _ _ _ _
theorem det (d : Disk) : Det (F d) := by
  unfold F FV
  repeat' with_reducible first | exact det_ret _ | refine det_cond _ ?_ ?_ | refine det_bind (q44.det _) (fun _ => ?_) | refine det_bind (q49.det _) (fun _ => ?_) | refine det_bind (q52.det _) (fun _ => ?_)
theorem edet (a : List AV) : Det (en a) := mkEntry_det (fun x : Dens A => det x.1) a
theorem ground : Ground E tab := ⟨num, mixed, (tab_cons q44.sound (tab_cons q49.sound (tab_cons q52.sound (tab_nil _)))), clone, (dtab_cons q44.edet (dtab_cons q49.edet (dtab_cons q52.edet dtab_nil))), stab⟩
theorem sound : EntrySound E 69 en := mkSound ground loops (by kernel_rfl) (fun (x : Dens A) K => eqv q44.F q49.F q52.F x.1 K)
end q53
namespace q54
abbrev A : List Ty := [(.int .i64)]
abbrev C := (cTy (.st 8))
abbrev T : Type := Int → (Store → Prop) → Prop
noncomputable def tv (f0 : q34.T) (f1 : q53.T) : Tab := [(68, mkEntry q34.A q34.C fun x => f0 x.1 x.2.1), (69, mkEntry q53.A q53.C fun x => f1 x.1)]
noncomputable def tab : Tab := tv q34.F q53.F
def FV (f0 : q34.T) (f1 : q53.T) (blocks : Int) (K : Store → Prop) : Prop :=
  (f0 blocks 7 fun r1 => (f1 r1.1 fun r2 => (K r2.1)))
def F (blocks : Int) (K : Store → Prop) : Prop := FV q34.F q53.F blocks K
noncomputable def en : Entry := mkEntry A C fun x => F x.1
theorem eqv (f0 : q34.T) (f1 : q53.T) (blocks : Int) (K : Store → Prop) : apure E (tv f0 f1) (fun _ => none) 4 26 [enc (.int .i64) blocks] (ansK C K) = FV f0 f1 blocks K := by kernel_rfl
theorem loops : LoopsOk E tab (fun _ => none) 4 26 := loops_none _ _ _ _
theorem det (blocks : Int) : Det (F blocks) := by
  unfold F FV
  repeat' with_reducible first | exact det_ret _ | refine det_bind (q34.det _ _) (fun _ => ?_) | refine det_bind (q53.det _) (fun _ => ?_)
theorem edet (a : List AV) : Det (en a) := mkEntry_det (fun x : Dens A => det x.1) a
theorem ground : Ground E tab := ⟨num, mixed, (tab_cons q34.sound (tab_cons q53.sound (tab_nil _))), clone, (dtab_cons q34.edet (dtab_cons q53.edet dtab_nil)), stab⟩
theorem sound : EntrySound E 26 en := mkSound ground loops (by kernel_rfl) (fun (x : Dens A) K => eqv q34.F q53.F x.1 K)
end q54
namespace q55
abbrev A : List Ty := [(.st 1), (.st 3)]
abbrev C := (cTy .bool)
abbrev T : Type := Disk → Super → (Bool → Prop) → Prop
noncomputable def tab : Tab := []
def F (d : Disk) (s : Super) (K : Bool → Prop) : Prop :=
  (K (s.blocks == (IntKind.i64.wrap ((d.sure.length : Int) - 2))))
noncomputable def en : Entry := mkEntry A C fun x => F x.1 x.2.1
theorem eqv (d : Disk) (s : Super) (K : Bool → Prop) : apure E tab (fun _ => none) 4 113 [enc (.st 1) d, enc (.st 3) s] (ansK C K) = F d s K := by kernel_rfl
theorem loops : LoopsOk E tab (fun _ => none) 4 113 := loops_none _ _ _ _
theorem det (d : Disk) (s : Super) : Det (F d s) := by
  unfold F
  repeat' with_reducible first | exact det_ret _
theorem edet (a : List AV) : Det (en a) := mkEntry_det (fun x : Dens A => det x.1 x.2.1) a
theorem ground : Ground E tab := ⟨num, mixed, (tab_nil _), clone, dtab_nil, stab⟩
theorem sound : EntrySound E 113 en := mkSound ground loops (by kernel_rfl) (fun (x : Dens A) K => eqv  x.1 x.2.1 K)
end q55
namespace q56
abbrev A : List Ty := [(.st 1)]
abbrev C := (cTwo (.st 3) (.int .i64))
abbrev T : Type := Disk → ((Super × Int) → Prop) → Prop
noncomputable def tv (f0 : Disk → Int → ((Str × Int) → Prop) → Prop) (f1 : super_Dec.T) (f2 : q55.T) : Tab := [(111, mkEntry [(.st 1), (.int .i64)] (cTwo .str (.int .i64)) fun x => f0 x.1 x.2.1), (112, mkEntry super_Dec.A super_Dec.C fun x => f1 x.1), (113, mkEntry q55.A q55.C fun x => f2 x.1 x.2.1)]
noncomputable def tab : Tab := tv disk_Read.F super_Dec.F q55.F
def FV (f0 : Disk → Int → ((Str × Int) → Prop) → Prop) (f1 : super_Dec.T) (f2 : q55.T) (d : Disk) (K : (Super × Int) → Prop) : Prop :=
  (f0 d 0 fun r1 => (bif (r1.2 != 0) then (K ((⟨0, (⟨0, 0, 0, 0⟩ : Vec), false, false, false⟩ : Super), r1.2)) else (f1 r1.1 fun r2 => (bif (r2.2 == 0) then (f2 d r2.1 fun r3 => (bif (!r3) then (K ((⟨0, (⟨0, 0, 0, 0⟩ : Vec), false, false, false⟩ : Super), 2)) else (K (r2.1, r2.2)))) else (K (r2.1, r2.2))))))
def F (d : Disk) (K : (Super × Int) → Prop) : Prop := FV disk_Read.F super_Dec.F q55.F d K
noncomputable def en : Entry := mkEntry A C fun x => F x.1
theorem eqv (f0 : Disk → Int → ((Str × Int) → Prop) → Prop) (f1 : super_Dec.T) (f2 : q55.T) (d : Disk) (K : (Super × Int) → Prop) : apure E (tv f0 f1 f2) (fun _ => none) 4 76 [enc (.st 1) d] (ansK C K) = FV f0 f1 f2 d K := by kernel_rfl
theorem loops : LoopsOk E tab (fun _ => none) 4 76 := loops_none _ _ _ _
theorem ground : Ground E tab := ⟨num, mixed, (tab_cons disk_Read.sound (tab_cons super_Dec.sound (tab_cons q55.sound (tab_nil _)))), clone, (dtab_cons disk_Read.edet (dtab_nd (by kernel_rfl) (dtab_cons q55.edet dtab_nil))), stab⟩
theorem sound : EntrySound E 76 en := mkSound ground loops (by kernel_rfl) (fun (x : Dens A) K => eqv disk_Read.F super_Dec.F q55.F x.1 K)
end q56
namespace q57
abbrev A : List Ty := [(.int .u32), (.int .i64)]
abbrev C := (cTy .bool)
abbrev T : Type := Int → Int → (Bool → Prop) → Prop
noncomputable def tv (f0 : q19.T) (f1 : q20.T) : Tab := [(146, mkEntry q19.A q19.C fun x => f0 x.1), (187, mkEntry q20.A q20.C fun x => f1 x.1)]
noncomputable def tab : Tab := tv q19.F q20.F
def FV (f0 : q19.T) (f1 : q20.T) (m : Int) (blocks : Int) (K : Bool → Prop) : Prop :=
  (f0 (IntKind.i64.wrap (blocks - 1)) fun r1 => (bif r1 then (f1 blocks fun r2 => (K ((iandn .u32 m r2) == 0))) else (K false)))
def F (m : Int) (blocks : Int) (K : Bool → Prop) : Prop := FV q19.F q20.F m blocks K
noncomputable def en : Entry := mkEntry A C fun x => F x.1 x.2.1
theorem eqv (f0 : q19.T) (f1 : q20.T) (m : Int) (blocks : Int) (K : Bool → Prop) : apure E (tv f0 f1) (fun _ => none) 4 148 [enc (.int .u32) m, enc (.int .i64) blocks] (ansK C K) = FV f0 f1 m blocks K := by kernel_rfl
theorem loops : LoopsOk E tab (fun _ => none) 4 148 := loops_none _ _ _ _
theorem det (m : Int) (blocks : Int) : Det (F m blocks) := by
  unfold F FV
  repeat' with_reducible first | exact det_ret _ | refine det_cond _ ?_ ?_ | refine det_bind (q19.det _) (fun _ => ?_) | refine det_bind (q20.det _) (fun _ => ?_)
theorem edet (a : List AV) : Det (en a) := mkEntry_det (fun x : Dens A => det x.1 x.2.1) a
theorem ground : Ground E tab := ⟨num, mixed, (tab_cons q19.sound (tab_cons q20.sound (tab_nil _))), clone, (dtab_cons q19.edet (dtab_cons q20.edet dtab_nil)), stab⟩
theorem sound : EntrySound E 148 en := mkSound ground loops (by kernel_rfl) (fun (x : Dens A) K => eqv q19.F q20.F x.1 x.2.1 K)
end q57
namespace q58
abbrev A : List Ty := [(.st 1), (.int .u32)]
abbrev C := (cTy .bool)
abbrev T : Type := Disk → Int → (Bool → Prop) → Prop
noncomputable def tv (f0 : q57.T) : Tab := [(148, mkEntry q57.A q57.C fun x => f0 x.1 x.2.1)]
noncomputable def tab : Tab := tv q57.F
def FV (f0 : q57.T) (d : Disk) (m : Int) (K : Bool → Prop) : Prop :=
  (f0 m (IntKind.i64.wrap ((d.sure.length : Int) - 2)) fun r1 => (K r1))
def F (d : Disk) (m : Int) (K : Bool → Prop) : Prop := FV q57.F d m K
noncomputable def en : Entry := mkEntry A C fun x => F x.1 x.2.1
theorem eqv (f0 : q57.T) (d : Disk) (m : Int) (K : Bool → Prop) : apure E (tv f0) (fun _ => none) 4 107 [enc (.st 1) d, enc (.int .u32) m] (ansK C K) = FV f0 d m K := by kernel_rfl
theorem loops : LoopsOk E tab (fun _ => none) 4 107 := loops_none _ _ _ _
theorem det (d : Disk) (m : Int) : Det (F d m) := by
  unfold F FV
  repeat' with_reducible first | exact det_ret _ | refine det_bind (q57.det _ _) (fun _ => ?_)
theorem edet (a : List AV) : Det (en a) := mkEntry_det (fun x : Dens A => det x.1 x.2.1) a
theorem ground : Ground E tab := ⟨num, mixed, (tab_cons q57.sound (tab_nil _)), clone, (dtab_cons q57.edet dtab_nil), stab⟩
theorem sound : EntrySound E 107 en := mkSound ground loops (by kernel_rfl) (fun (x : Dens A) K => eqv q57.F x.1 x.2.1 K)
end q58
namespace q59
abbrev A : List Ty := [(.st 1)]
abbrev C := (cTwo (.int .u32) (.int .i64))
abbrev T : Type := Disk → ((Int × Int) → Prop) → Prop
noncomputable def tv (f0 : Disk → Int → ((Str × Int) → Prop) → Prop) (f1 : q13.T) (f2 : q10.T) (f3 : q58.T) : Tab := [(111, mkEntry [(.st 1), (.int .i64)] (cTwo .str (.int .i64)) fun x => f0 x.1 x.2.1), (114, mkEntry q13.A q13.C fun x => f1 x.1), (115, mkEntry q10.A q10.C fun x => f2 x.1), (107, mkEntry q58.A q58.C fun x => f3 x.1 x.2.1)]
noncomputable def tab : Tab := tv disk_Read.F q13.F q10.F q58.F
def FV (f0 : Disk → Int → ((Str × Int) → Prop) → Prop) (f1 : q13.T) (f2 : q10.T) (f3 : q58.T) (d : Disk) (K : (Int × Int) → Prop) : Prop :=
  (f0 d 1 fun r1 => (bif (r1.2 != 0) then (K (0, r1.2)) else (f1 r1.1 fun r2 => (bif (r2.2 != 0) then (K (0, r2.2)) else (f2 r2.1 fun r3 => (bif (!r3.2) then (K (0, 2)) else (f3 d r3.1 fun r4 => (bif (!r4) then (K (0, 2)) else (K (r3.1, 0))))))))))
def F (d : Disk) (K : (Int × Int) → Prop) : Prop := FV disk_Read.F q13.F q10.F q58.F d K
noncomputable def en : Entry := mkEntry A C fun x => F x.1
theorem eqv (f0 : Disk → Int → ((Str × Int) → Prop) → Prop) (f1 : q13.T) (f2 : q10.T) (f3 : q58.T) (d : Disk) (K : (Int × Int) → Prop) : apure E (tv f0 f1 f2 f3) (fun _ => none) 4 77 [enc (.st 1) d] (ansK C K) = FV f0 f1 f2 f3 d K := by kernel_rfl
theorem loops : LoopsOk E tab (fun _ => none) 4 77 := loops_none _ _ _ _
theorem det (d : Disk) : Det (F d) := by
  unfold F FV
  repeat' with_reducible first | exact det_ret _ | refine det_cond _ ?_ ?_ | refine det_bind (disk_Read.det _ _) (fun _ => ?_) | refine det_bind (q13.det _) (fun _ => ?_) | refine det_bind (q10.det _) (fun _ => ?_) | refine det_bind (q58.det _ _) (fun _ => ?_)
theorem edet (a : List AV) : Det (en a) := mkEntry_det (fun x : Dens A => det x.1) a
theorem ground : Ground E tab := ⟨num, mixed, (tab_cons disk_Read.sound (tab_cons q13.sound (tab_cons q10.sound (tab_cons q58.sound (tab_nil _))))), clone, (dtab_cons disk_Read.edet (dtab_cons q13.edet (dtab_cons q10.edet (dtab_cons q58.edet dtab_nil)))), stab⟩
theorem sound : EntrySound E 77 en := mkSound ground loops (by kernel_rfl) (fun (x : Dens A) K => eqv disk_Read.F q13.F q10.F q58.F x.1 K)
end q59
namespace q60
abbrev A : List Ty := [(.st 1), (.int .i64)]
abbrev C := (cTy .bool)
abbrev T : Type := Disk → Int → (Bool → Prop) → Prop
noncomputable def tab : Tab := []
def F (d : Disk) (i : Int) (K : Bool → Prop) : Prop :=
  (bif (decide (i ≥ 0)) then (K (decide (i < (IntKind.i64.wrap ((d.sure.length : Int) - 2))))) else (K false))
noncomputable def en : Entry := mkEntry A C fun x => F x.1 x.2.1
theorem eqv (d : Disk) (i : Int) (K : Bool → Prop) : apure E tab (fun _ => none) 4 130 [enc (.st 1) d, enc (.int .i64) i] (ansK C K) = F d i K := by kernel_rfl
theorem loops : LoopsOk E tab (fun _ => none) 4 130 := loops_none _ _ _ _
theorem det (d : Disk) (i : Int) : Det (F d i) := by
  unfold F
  repeat' with_reducible first | exact det_ret _ | refine det_cond _ ?_ ?_
theorem edet (a : List AV) : Det (en a) := mkEntry_det (fun x : Dens A => det x.1 x.2.1) a
theorem ground : Ground E tab := ⟨num, mixed, (tab_nil _), clone, dtab_nil, stab⟩
theorem sound : EntrySound E 130 en := mkSound ground loops (by kernel_rfl) (fun (x : Dens A) K => eqv  x.1 x.2.1 K)
end q60
namespace q61
abbrev A : List Ty := [(.st 1), (.int .i64)]
abbrev C := (cTwo .str (.int .i64))
abbrev T : Type := Disk → Int → ((Str × Int) → Prop) → Prop
noncomputable def tv (f0 : q60.T) (f1 : Disk → Int → ((Str × Int) → Prop) → Prop) : Tab := [(130, mkEntry q60.A q60.C fun x => f0 x.1 x.2.1), (111, mkEntry [(.st 1), (.int .i64)] (cTwo .str (.int .i64)) fun x => f1 x.1 x.2.1)]
noncomputable def tab : Tab := tv q60.F disk_Read.F
def FV (f0 : q60.T) (f1 : Disk → Int → ((Str × Int) → Prop) → Prop) (d : Disk) (i : Int) (K : (Str × Int) → Prop) : Prop :=
  (f0 d i fun r1 => (bif (!r1) then (K (([] : Str), 4)) else (f1 d (IntKind.i64.wrap (i + 2)) fun r2 => (bif (r2.2 != 0) then (K (([] : Str), r2.2)) else (bif ((r2.1.length : Int) != 8) then (K (([] : Str), 2)) else (K (r2.1, 0)))))))
def F (d : Disk) (i : Int) (K : (Str × Int) → Prop) : Prop := FV q60.F disk_Read.F d i K
noncomputable def en : Entry := mkEntry A C fun x => F x.1 x.2.1
theorem eqv (f0 : q60.T) (f1 : Disk → Int → ((Str × Int) → Prop) → Prop) (d : Disk) (i : Int) (K : (Str × Int) → Prop) : apure E (tv f0 f1) (fun _ => none) 4 91 [enc (.st 1) d, enc (.int .i64) i] (ansK C K) = FV f0 f1 d i K := by kernel_rfl
theorem loops : LoopsOk E tab (fun _ => none) 4 91 := loops_none _ _ _ _
theorem det (d : Disk) (i : Int) : Det (F d i) := by
  unfold F FV
  repeat' with_reducible first | exact det_ret _ | refine det_cond _ ?_ ?_ | refine det_bind (q60.det _ _) (fun _ => ?_) | refine det_bind (disk_Read.det _ _) (fun _ => ?_)
theorem edet (a : List AV) : Det (en a) := mkEntry_det (fun x : Dens A => det x.1 x.2.1) a
theorem ground : Ground E tab := ⟨num, mixed, (tab_cons q60.sound (tab_cons disk_Read.sound (tab_nil _))), clone, (dtab_cons q60.edet (dtab_cons disk_Read.edet dtab_nil)), stab⟩
theorem sound : EntrySound E 91 en := mkSound ground loops (by kernel_rfl) (fun (x : Dens A) K => eqv q60.F disk_Read.F x.1 x.2.1 K)
end q61
namespace q62
abbrev A : List Ty := [(.st 1)]
abbrev C := (cTwo (.slice .str) (.int .i64))
abbrev T : Type := Disk → (((List Str) × Int) → Prop) → Prop
noncomputable def tv (f0 : q61.T) : Tab := [(91, mkEntry q61.A q61.C fun x => f0 x.1 x.2.1)]
noncomputable def tab : Tab := tv q61.F
structure R where
  t2 : (List Str)
  t3 : Int
def cR (x : R) : St := { fr := lookL .top [(2, (.slr 3)), (3, (.int .i64 x.t3))], hs := { hp := lookL .dead [(3, (.row false .str x.t2))], hn := 4 } }
def kR : Keep := { ks := [(2, some 3), (3, none)], bs := [], hn := 4 }
structure L0 where
  l : (List Str)
  t12 : Int
  t13 : Int
  m0 : Disk
def c0 (x : L0) : St := { fr := lookL .top [(1, (.ptr 0 0)), (4, (.slr 2)), (12, (.int .i64 x.t12)), (13, (.int .i64 x.t13))], hs := { hp := lookL .dead [(2, (.row false .str x.l)), (0, (.cells (encS 1 x.m0)))], hn := 3 } }
def kp0 : Keep := { ks := [(1, none), (4, some 2), (12, none), (13, none)], bs := [0], hn := 3, ts := [(0, 1)] }
def p0 (st : St) (K : L0 → Prop) : Prop := gHomes kp0 st <| gPtr 0 0 (st.fr 1) <| gSlr (st.fr 4) fun c1 => gRow false .str (st.hs.hp c1) fun a2 => gInt .i64 (st.fr 12) fun a3 => gInt .i64 (st.fr 13) fun a4 => gBlkS 1 (st.hs.hp 0) fun a5 => K ⟨a2, a3, a4, a5⟩
set_option maxHeartbeats 4000000 in
theorem p0_ok (st : St) (K : L0 → Prop) (h : p0 st K) : ∃ x, keepSt kp0 st = c0 x ∧ K x := by
  obtain ⟨h0, h⟩ := gHomes_elim h
  obtain ⟨h1, h⟩ := gPtr_elim h
  obtain ⟨c1, h2, h⟩ := gSlr_elim h
  obtain ⟨a2, h3, h⟩ := gRow_elim h
  obtain ⟨a3, h4, h⟩ := gInt_elim h
  obtain ⟨a4, h5, h⟩ := gInt_elim h
  obtain ⟨z6, a5, h6, y6, h⟩ := gBlkS_elim h
  have q6 : ∀ ok, keptB kp0 ok 0 (.cells z6) = .cells (encS 1 a5) := fun _ => y6
  simp only [kp0] at q6
  refine ⟨_, ?_, h⟩
  simp only [keepSt, h0]
  simp only [kp0, List.map, List.filterMap, homeOf, h1, h2, h3, h4, h5, h6, q6, hmOf, List.append_nil, cond_true]
  rfl
def b0V (f0 : q61.T) (rec kx : L0 → Prop) (kr : R → Prop) (x : L0) : Prop :=
  (bif (decide (x.t13 < x.t12)) then (f0 x.m0 x.t13 fun r1 => (bif (r1.2 != 0) then (kr ⟨([] : List Str), r1.2⟩) else (bif (decide ((x.l.length + ([r1.1] : List Str).length) * 16 ≤ room)) then (rec ⟨(x.l ++ ([r1.1] : List Str)), x.t12, (IntKind.i64.wrap (x.t13 + 1)), x.m0⟩) else False))) else (kx ⟨x.l, x.t12, x.t13, x.m0⟩))
def ltV (f0 : q61.T) : Nat → Option LSpec
  | 0 => some (mkLoop 0 kp0 kR p0 c0 cR (b0V f0))
  | _ => none
def lt : Nat → Option LSpec := ltV q61.F
def FV (f0 : q61.T) (d : Disk) (K : ((List Str) × Int) → Prop) : Prop :=
  (∃ n, loopB (b0V f0) n (fun x2 => (K (x2.l, 0))) (fun r3 => (K (r3.t2, r3.t3))) ⟨([] : List Str), (maxI2 (IntKind.i64.wrap ((d.sure.length : Int) - 2)) 0), 0, d⟩)
def F (d : Disk) (K : ((List Str) × Int) → Prop) : Prop := FV q61.F d K
noncomputable def en : Entry := mkEntry A C fun x => F x.1
theorem eqv (f0 : q61.T) (d : Disk) (K : ((List Str) × Int) → Prop) : apure E (tv f0) (ltV f0) 4 78 [enc (.st 1) d] (ansK C K) = FV f0 d K := by kernel_rfl
theorem l0v (f0 : q61.T) (R : St → Prop) (Kx : Nat → St → Prop) (Kr : St → Prop) (x : L0) : acode E (tv f0) (afun E (tv f0) 4) 31 (ltV f0) ((loopsIn E.P 78).getD 0 (0, .skip)).2 0 (fun s => R (keepSt kp0 s)) (fun j s => Kx j (keepSt kp0 s)) (fun s => Kr (keepSt kR s)) (c0 x) = b0V f0 (fun x => R (c0 x)) (fun x => Kx 0 (c0 x)) (fun r => Kr (cR r)) x := by kernel_rfl
theorem l0_ok : LSound E tab (afun E tab 4) 31 lt 0 ((loopsIn E.P 78).getD 0 (0, .skip)).2 (mkLoop 0 kp0 kR p0 c0 cR (b0V q61.F)) := mkLoop_sound (by decide) (by decide) p0_ok (fun R Kx Kr x => l0v q61.F R Kx Kr x)
theorem loops : LoopsOk E tab lt 4 78 := loops_of (nt := 31) (ids := [0]) (by kernel_rfl) (by kernel_rfl) (by
  intro k i hk l hl
  match k, hk with
  | 0, hk => cases hk; cases hl; exact l0_ok
  | _ + 1, hk => exact absurd hk (by simp))
theorem det (d : Disk) : Det (F d) := by
  unfold F FV
  repeat' with_reducible first | exact det_ret _ | exact det_false | refine det_cond _ ?_ ?_ | refine det_bind (q61.det _ _) (fun _ => ?_) | refine det_loop (fun _ => ?_) (fun _ => ?_) (fun _ => ?_) _ | unfold b0V
theorem edet (a : List AV) : Det (en a) := mkEntry_det (fun x : Dens A => det x.1) a
theorem ground : Ground E tab := ⟨num, mixed, (tab_cons q61.sound (tab_nil _)), clone, (dtab_cons q61.edet dtab_nil), stab⟩
theorem sound : EntrySound E 78 en := mkSound ground loops (by kernel_rfl) (fun (x : Dens A) K => eqv q61.F x.1 K)
end q62
end Gm
