/- Printed by a program (gen.py): the functions' answers, and that they are so. -/
import Derived.Test.YtfjhdboapcckpaaGreatDoorGdT1
set_option linter.unusedVariables false
set_option maxRecDepth 100000
namespace Gm
open Go Go.Proofs
namespace q63
abbrev A : List Ty := [(.st 1)]
abbrev C := (cTwo (.st 8) (.int .i64))
abbrev T : Type := Disk → ((Store × Int) → Prop) → Prop
noncomputable def tv (f0 : q56.T) (f1 : q59.T) (f2 : q62.T) : Tab := [(76, mkEntry q56.A q56.C fun x => f0 x.1), (77, mkEntry q59.A q59.C fun x => f1 x.1), (78, mkEntry q62.A q62.C fun x => f2 x.1)]
noncomputable def tab : Tab := tv q56.F q59.F q62.F
def FV (f0 : q56.T) (f1 : q59.T) (f2 : q62.T) (d : Disk) (K : (Store × Int) → Prop) : Prop :=
  (f0 d fun r1 => (bif (r1.2 != 0) then (K ((⟨(⟨([] : List Str), ([] : List Write), 0, false⟩ : Disk), (⟨0, (⟨0, 0, 0, 0⟩ : Vec), false, false, false⟩ : Super), 0⟩ : Store), r1.2)) else (f1 d fun r2 => (bif (r2.2 != 0) then (K ((⟨(⟨([] : List Str), ([] : List Write), 0, false⟩ : Disk), (⟨0, (⟨0, 0, 0, 0⟩ : Vec), false, false, false⟩ : Super), 0⟩ : Store), r2.2)) else (f2 d fun r3 => (bif (r3.2 != 0) then (K ((⟨(⟨([] : List Str), ([] : List Write), 0, false⟩ : Disk), (⟨0, (⟨0, 0, 0, 0⟩ : Vec), false, false, false⟩ : Super), 0⟩ : Store), r3.2)) else (K ((⟨d, r1.1, r2.1⟩ : Store), 0))))))))
def F (d : Disk) (K : (Store × Int) → Prop) : Prop := FV q56.F q59.F q62.F d K
noncomputable def en : Entry := mkEntry A C fun x => F x.1
theorem eqv (f0 : q56.T) (f1 : q59.T) (f2 : q62.T) (d : Disk) (K : (Store × Int) → Prop) : apure E (tv f0 f1 f2) (fun _ => none) 4 29 [enc (.st 1) d] (ansK C K) = FV f0 f1 f2 d K := by kernel_rfl
theorem loops : LoopsOk E tab (fun _ => none) 4 29 := loops_none _ _ _ _
theorem ground : Ground E tab := ⟨num, mixed, (tab_cons q56.sound (tab_cons q59.sound (tab_cons q62.sound (tab_nil _)))), clone, (dtab_nd (by kernel_rfl) (dtab_cons q59.edet (dtab_cons q62.edet dtab_nil))), stab⟩
theorem sound : EntrySound E 29 en := mkSound ground loops (by kernel_rfl) (fun (x : Dens A) K => eqv q56.F q59.F q62.F x.1 K)
end q63
namespace q64
abbrev A : List Ty := [(.st 8), (.int .i64)]
abbrev C := (cTy .bool)
abbrev T : Type := Store → Int → (Bool → Prop) → Prop
noncomputable def tab : Tab := []
def F (s : Store) (i : Int) (K : Bool → Prop) : Prop :=
  (bif (decide (i ≥ 0)) then (K (decide (i < s.sup.blocks))) else (K false))
noncomputable def en : Entry := mkEntry A C fun x => F x.1 x.2.1
theorem eqv (s : Store) (i : Int) (K : Bool → Prop) : apure E tab (fun _ => none) 4 70 [enc (.st 8) s, enc (.int .i64) i] (ansK C K) = F s i K := by kernel_rfl
theorem loops : LoopsOk E tab (fun _ => none) 4 70 := loops_none _ _ _ _
theorem det (s : Store) (i : Int) : Det (F s i) := by
  unfold F
  repeat' with_reducible first | exact det_ret _ | refine det_cond _ ?_ ?_
theorem edet (a : List AV) : Det (en a) := mkEntry_det (fun x : Dens A => det x.1 x.2.1) a
theorem ground : Ground E tab := ⟨num, mixed, (tab_nil _), clone, dtab_nil, stab⟩
theorem sound : EntrySound E 70 en := mkSound ground loops (by kernel_rfl) (fun (x : Dens A) K => eqv  x.1 x.2.1 K)
end q64
namespace q65
abbrev A : List Ty := [(.slice (.int .i64))]
abbrev C := (cTy (.int .u32))
abbrev T : Type := (List Int) → (Int → Prop) → Prop
noncomputable def tv (f0 : q19.T) : Tab := [(146, mkEntry q19.A q19.C fun x => f0 x.1)]
noncomputable def tab : Tab := tv q19.F
structure R where
def cR (_ : R) : St := { fr := fun _ => .top, hs := hs0 }
def kR : Keep := { ks := [], bs := [], hn := 0 }
structure L0 where
  m : Int
  t5 : (List Int)
  t6 : Int
  t7 : Int
def c0 (x : L0) : St := { fr := lookL .top [(2, (.int .u32 x.m)), (5, (.sl .any (.int .i64) x.t5)), (6, (.int .i64 x.t6)), (7, (.int .i64 x.t7))], hs := { hp := lookL .dead [], hn := 0 } }
def kp0 : Keep := { ks := [(2, none), (5, none), (6, none), (7, none)], bs := [], hn := 0 }
def p0 (st : St) (K : L0 → Prop) : Prop := gInt .u32 (st.fr 2) fun a1 => gSl .any (.int .i64) (st.fr 5) fun a2 => gInt .i64 (st.fr 6) fun a3 => gInt .i64 (st.fr 7) fun a4 => K ⟨a1, a2, a3, a4⟩
set_option maxHeartbeats 4000000 in
theorem p0_ok (st : St) (K : L0 → Prop) (h : p0 st K) : ∃ x, keepSt kp0 st = c0 x ∧ K x := by
  obtain ⟨a1, h0, h⟩ := gInt_elim h
  obtain ⟨a2, h1, h⟩ := gSl_elim h
  obtain ⟨a3, h2, h⟩ := gInt_elim h
  obtain ⟨a4, h3, h⟩ := gInt_elim h
  refine ⟨_, ?_, h⟩
  simp only [keepSt, kp0, List.map, h0, h1, h2, h3]
  rfl
def b0V (f0 : q19.T) (rec kx : L0 → Prop) (kr : R → Prop) (x : L0) : Prop :=
  (bif (decide (x.t7 < x.t6)) then (oget (getI x.t5 x.t7) fun v1 => (f0 v1 fun r2 => (bif r2 then (bif (decide (0 ≤ v1)) then (rec ⟨(ior .u32 x.m (ishl .u32 1 v1)), x.t5, x.t6, (IntKind.i64.wrap (x.t7 + 1))⟩) else False) else (rec ⟨x.m, x.t5, x.t6, (IntKind.i64.wrap (x.t7 + 1))⟩)))) else (kx ⟨x.m, x.t5, x.t6, x.t7⟩))
def ltV (f0 : q19.T) : Nat → Option LSpec
  | 0 => some (mkLoop 0 kp0 kR p0 c0 cR (b0V f0))
  | _ => none
def lt : Nat → Option LSpec := ltV q19.F
def FV (f0 : q19.T) (l : (List Int)) (K : Int → Prop) : Prop :=
  (∃ n, loopB (b0V f0) n (fun x3 => (K x3.m)) (fun _ => False) ⟨0, l, (l.length : Int), 0⟩)
def F (l : (List Int)) (K : Int → Prop) : Prop := FV q19.F l K
noncomputable def en : Entry := mkEntry A C fun x => F x.1
theorem eqv (f0 : q19.T) (l : (List Int)) (K : Int → Prop) : apure E (tv f0) (ltV f0) 4 105 [enc (.slice (.int .i64)) l] (ansK C K) = FV f0 l K := by kernel_rfl
theorem l0v (f0 : q19.T) (R : St → Prop) (Kx : Nat → St → Prop) (Kr : St → Prop) (x : L0) : acode E (tv f0) (afun E (tv f0) 4) 19 (ltV f0) ((loopsIn E.P 105).getD 0 (0, .skip)).2 0 (fun s => R (keepSt kp0 s)) (fun j s => Kx j (keepSt kp0 s)) (fun s => Kr (keepSt kR s)) (c0 x) = b0V f0 (fun x => R (c0 x)) (fun x => Kx 0 (c0 x)) (fun r => Kr (cR r)) x := by kernel_rfl
theorem l0_ok : LSound E tab (afun E tab 4) 19 lt 0 ((loopsIn E.P 105).getD 0 (0, .skip)).2 (mkLoop 0 kp0 kR p0 c0 cR (b0V q19.F)) := mkLoop_sound (by decide) (by decide) p0_ok (fun R Kx Kr x => l0v q19.F R Kx Kr x)
theorem loops : LoopsOk E tab lt 4 105 := loops_of (nt := 19) (ids := [0]) (by kernel_rfl) (by kernel_rfl) (by
  intro k i hk l hl
  match k, hk with
  | 0, hk => cases hk; cases hl; exact l0_ok
  | _ + 1, hk => exact absurd hk (by simp))
theorem det (l : (List Int)) : Det (F l) := by
  unfold F FV
  repeat' with_reducible first | exact det_ret _ | exact det_false | refine det_cond _ ?_ ?_ | refine det_oget _ (fun _ => ?_) | refine det_bind (q19.det _) (fun _ => ?_) | refine det_loop (fun _ => ?_) (fun _ => ?_) (fun _ => ?_) _ | unfold b0V
theorem edet (a : List AV) : Det (en a) := mkEntry_det (fun x : Dens A => det x.1) a
theorem ground : Ground E tab := ⟨num, mixed, (tab_cons q19.sound (tab_nil _)), clone, (dtab_cons q19.edet dtab_nil), stab⟩
theorem sound : EntrySound E 105 en := mkSound ground loops (by kernel_rfl) (fun (x : Dens A) K => eqv q19.F x.1 K)
end q65
namespace q66
abbrev A : List Ty := [(.int .u32), (.slice (.int .i64))]
abbrev C := (cTy (.int .u32))
abbrev T : Type := Int → (List Int) → (Int → Prop) → Prop
noncomputable def tv (f0 : q65.T) : Tab := [(105, mkEntry q65.A q65.C fun x => f0 x.1)]
noncomputable def tab : Tab := tv q65.F
def FV (f0 : q65.T) (m : Int) (l : (List Int)) (K : Int → Prop) : Prop :=
  (f0 l fun r1 => (K (ior .u32 m r1)))
def F (m : Int) (l : (List Int)) (K : Int → Prop) : Prop := FV q65.F m l K
noncomputable def en : Entry := mkEntry A C fun x => F x.1 x.2.1
theorem eqv (f0 : q65.T) (m : Int) (l : (List Int)) (K : Int → Prop) : apure E (tv f0) (fun _ => none) 4 72 [enc (.int .u32) m, enc (.slice (.int .i64)) l] (ansK C K) = FV f0 m l K := by kernel_rfl
theorem loops : LoopsOk E tab (fun _ => none) 4 72 := loops_none _ _ _ _
theorem det (m : Int) (l : (List Int)) : Det (F m l) := by
  unfold F FV
  repeat' with_reducible first | exact det_ret _ | refine det_bind (q65.det _) (fun _ => ?_)
theorem edet (a : List AV) : Det (en a) := mkEntry_det (fun x : Dens A => det x.1 x.2.1) a
theorem ground : Ground E tab := ⟨num, mixed, (tab_cons q65.sound (tab_nil _)), clone, (dtab_cons q65.edet dtab_nil), stab⟩
theorem sound : EntrySound E 72 en := mkSound ground loops (by kernel_rfl) (fun (x : Dens A) K => eqv q65.F x.1 x.2.1 K)
end q66
namespace q67
abbrev A : List Ty := [(.int .u64), (.int .i64)]
abbrev C := (cTy .str)
abbrev T : Type := Int → Int → (Str → Prop) → Prop
noncomputable def tab : Tab := []
structure R where
def cR (_ : R) : St := { fr := fun _ => .top, hs := hs0 }
def kR : Keep := { ks := [], bs := [], hn := 0 }
structure L0 where
  n0 : Int
  size : Int
  b0 : (List Int)
  t10 : Int
  t11 : Int
def c0 (x : L0) : St := { fr := lookL .top [(0, (.int .u64 x.n0)), (1, (.int .i64 x.size)), (5, (.slr 0)), (10, (.int .i64 x.t10)), (11, (.int .i64 x.t11))], hs := { hp := lookL .dead [(0, (.row false (.int .u8) x.b0))], hn := 1 } }
def kp0 : Keep := { ks := [(0, none), (1, none), (5, some 0), (10, none), (11, none)], bs := [], hn := 1 }
def p0 (st : St) (K : L0 → Prop) : Prop := gHomes kp0 st <| gInt .u64 (st.fr 0) fun a1 => gInt .i64 (st.fr 1) fun a2 => gSlr (st.fr 5) fun c3 => gRow false (.int .u8) (st.hs.hp c3) fun a4 => gInt .i64 (st.fr 10) fun a5 => gInt .i64 (st.fr 11) fun a6 => K ⟨a1, a2, a4, a5, a6⟩
set_option maxHeartbeats 4000000 in
theorem p0_ok (st : St) (K : L0 → Prop) (h : p0 st K) : ∃ x, keepSt kp0 st = c0 x ∧ K x := by
  obtain ⟨h0, h⟩ := gHomes_elim h
  obtain ⟨a1, h1, h⟩ := gInt_elim h
  obtain ⟨a2, h2, h⟩ := gInt_elim h
  obtain ⟨c3, h3, h⟩ := gSlr_elim h
  obtain ⟨a4, h4, h⟩ := gRow_elim h
  obtain ⟨a5, h5, h⟩ := gInt_elim h
  obtain ⟨a6, h6, h⟩ := gInt_elim h
  refine ⟨_, ?_, h⟩
  simp only [keepSt, h0]
  simp only [kp0, List.map, List.filterMap, homeOf, h1, h2, h3, h4, h5, h6, hmOf, List.append_nil, cond_true]
  rfl
def b0 (rec kx : L0 → Prop) (kr : R → Prop) (x : L0) : Prop :=
  (bif (decide (x.t11 < x.t10)) then (bif (decide (0 ≤ (IntKind.i64.wrap (8 * x.t11)))) then (bif (decide (0 ≤ (IntKind.i64.wrap ((IntKind.i64.wrap (x.size - 1)) - x.t11))) && decide ((IntKind.i64.wrap ((IntKind.i64.wrap (x.size - 1)) - x.t11)) < (x.b0.length : Int))) then (rec ⟨x.n0, x.size, (x.b0.set (Int.toNat (IntKind.i64.wrap ((IntKind.i64.wrap (x.size - 1)) - x.t11))) (IntKind.u8.wrap (ishr .u64 x.n0 (IntKind.i64.wrap (8 * x.t11))))), x.t10, (IntKind.i64.wrap (x.t11 + 1))⟩) else False) else False) else (kx ⟨x.n0, x.size, x.b0, x.t10, x.t11⟩))
def lt : Nat → Option LSpec
  | 0 => some (mkLoop 0 kp0 kR p0 c0 cR b0)
  | _ => none
def F (n_0 : Int) (size : Int) (K : Str → Prop) : Prop :=
  (bif (size == size && (decide (0 ≤ size) && decide (size * (1 : Nat) ≤ (room : Int)))) then (∃ n, loopB b0 n (fun x1 => (K (bytesOfInts x1.b0))) (fun _ => False) ⟨n_0, size, (List.replicate (Int.toNat size) (0 : Int)), ((List.replicate (Int.toNat size) (0 : Int)).length : Int), 0⟩) else False)
noncomputable def en : Entry := mkEntry A C fun x => F x.1 x.2.1
theorem eqv (n_0 : Int) (size : Int) (K : Str → Prop) : apure E tab lt 4 154 [enc (.int .u64) n_0, enc (.int .i64) size] (ansK C K) = F n_0 size K := by kernel_rfl
theorem l0v (R : St → Prop) (Kx : Nat → St → Prop) (Kr : St → Prop) (x : L0) : acode E tab (afun E tab 4) 28 lt ((loopsIn E.P 154).getD 0 (0, .skip)).2 0 (fun s => R (keepSt kp0 s)) (fun j s => Kx j (keepSt kp0 s)) (fun s => Kr (keepSt kR s)) (c0 x) = b0 (fun x => R (c0 x)) (fun x => Kx 0 (c0 x)) (fun r => Kr (cR r)) x := by kernel_rfl
theorem l0_ok : LSound E tab (afun E tab 4) 28 lt 0 ((loopsIn E.P 154).getD 0 (0, .skip)).2 (mkLoop 0 kp0 kR p0 c0 cR b0) := mkLoop_sound (by decide) (by decide) p0_ok (fun R Kx Kr x => l0v  R Kx Kr x)
theorem loops : LoopsOk E tab lt 4 154 := loops_of (nt := 28) (ids := [0]) (by kernel_rfl) (by kernel_rfl) (by
  intro k i hk l hl
  match k, hk with
  | 0, hk => cases hk; cases hl; exact l0_ok
  | _ + 1, hk => exact absurd hk (by simp))
theorem det (n_0 : Int) (size : Int) : Det (F n_0 size) := by
  unfold F
  repeat' with_reducible first | exact det_ret _ | exact det_false | refine det_cond _ ?_ ?_ | refine det_loop (fun _ => ?_) (fun _ => ?_) (fun _ => ?_) _ | unfold b0
theorem edet (a : List AV) : Det (en a) := mkEntry_det (fun x : Dens A => det x.1 x.2.1) a
theorem ground : Ground E tab := ⟨num, mixed, (tab_nil _), clone, dtab_nil, stab⟩
theorem sound : EntrySound E 154 en := mkSound ground loops (by kernel_rfl) (fun (x : Dens A) K => eqv  x.1 x.2.1 K)
end q67
namespace q68
abbrev A : List Ty := [(.int .u32)]
abbrev C := (cTy .str)
abbrev T : Type := Int → (Str → Prop) → Prop
noncomputable def tv (f0 : q67.T) : Tab := [(154, mkEntry q67.A q67.C fun x => f0 x.1 x.2.1)]
noncomputable def tab : Tab := tv q67.F
def FV (f0 : q67.T) (n_0 : Int) (K : Str → Prop) : Prop :=
  (f0 (IntKind.u64.wrap n_0) 4 fun r1 => (K r1))
def F (n_0 : Int) (K : Str → Prop) : Prop := FV q67.F n_0 K
noncomputable def en : Entry := mkEntry A C fun x => F x.1
theorem eqv (f0 : q67.T) (n_0 : Int) (K : Str → Prop) : apure E (tv f0) (fun _ => none) 4 110 [enc (.int .u32) n_0] (ansK C K) = FV f0 n_0 K := by kernel_rfl
theorem loops : LoopsOk E tab (fun _ => none) 4 110 := loops_none _ _ _ _
theorem det (n_0 : Int) : Det (F n_0) := by
  unfold F FV
  repeat' with_reducible first | exact det_ret _ | refine det_bind (q67.det _ _) (fun _ => ?_)
theorem edet (a : List AV) : Det (en a) := mkEntry_det (fun x : Dens A => det x.1) a
theorem ground : Ground E tab := ⟨num, mixed, (tab_cons q67.sound (tab_nil _)), clone, (dtab_cons q67.edet dtab_nil), stab⟩
theorem sound : EntrySound E 110 en := mkSound ground loops (by kernel_rfl) (fun (x : Dens A) K => eqv q67.F x.1 K)
end q68
namespace q69
abbrev A : List Ty := [.str]
abbrev C := (cTy .str)
abbrev T : Type := Str → (Str → Prop) → Prop
noncomputable def tv (f0 : q11.T) (f1 : q68.T) : Tab := [(153, mkEntry q11.A q11.C fun x => f0 x.1), (110, mkEntry q68.A q68.C fun x => f1 x.1)]
noncomputable def tab : Tab := tv q11.F q68.F
def FV (f0 : q11.T) (f1 : q68.T) (s : Str) (K : Str → Prop) : Prop :=
  (f0 s fun r1 => (f1 r1 fun r2 => (bif (fits (s.length + r2.length)) then (K (s ++ r2)) else False)))
def F (s : Str) (K : Str → Prop) : Prop := FV q11.F q68.F s K
noncomputable def en : Entry := mkEntry A C fun x => F x.1
theorem eqv (f0 : q11.T) (f1 : q68.T) (s : Str) (K : Str → Prop) : apure E (tv f0 f1) (fun _ => none) 4 109 [enc .str s] (ansK C K) = FV f0 f1 s K := by kernel_rfl
theorem loops : LoopsOk E tab (fun _ => none) 4 109 := loops_none _ _ _ _
theorem det (s : Str) : Det (F s) := by
  unfold F FV
  repeat' with_reducible first | exact det_ret _ | exact det_false | refine det_cond _ ?_ ?_ | refine det_bind (q11.det _) (fun _ => ?_) | refine det_bind (q68.det _) (fun _ => ?_)
theorem edet (a : List AV) : Det (en a) := mkEntry_det (fun x : Dens A => det x.1) a
theorem ground : Ground E tab := ⟨num, mixed, (tab_cons q11.sound (tab_cons q68.sound (tab_nil _))), clone, (dtab_cons q11.edet (dtab_cons q68.edet dtab_nil)), stab⟩
theorem sound : EntrySound E 109 en := mkSound ground loops (by kernel_rfl) (fun (x : Dens A) K => eqv q11.F q68.F x.1 K)
end q69
namespace q70
abbrev A : List Ty := [(.st 1), (.int .i64)]
abbrev C := (cTy .bool)
abbrev T : Type := Disk → Int → (Bool → Prop) → Prop
noncomputable def tab : Tab := []
def F (d : Disk) (i : Int) (K : Bool → Prop) : Prop :=
  (bif (decide (i ≥ 0)) then (K (decide (i < (d.sure.length : Int)))) else (K false))
noncomputable def en : Entry := mkEntry A C fun x => F x.1 x.2.1
theorem eqv (d : Disk) (i : Int) (K : Bool → Prop) : apure E tab (fun _ => none) 4 149 [enc (.st 1) d, enc (.int .i64) i] (ansK C K) = F d i K := by kernel_rfl
theorem loops : LoopsOk E tab (fun _ => none) 4 149 := loops_none _ _ _ _
theorem det (d : Disk) (i : Int) : Det (F d i) := by
  unfold F
  repeat' with_reducible first | exact det_ret _ | refine det_cond _ ?_ ?_
theorem edet (a : List AV) : Det (en a) := mkEntry_det (fun x : Dens A => det x.1 x.2.1) a
theorem ground : Ground E tab := ⟨num, mixed, (tab_nil _), clone, dtab_nil, stab⟩
theorem sound : EntrySound E 149 en := mkSound ground loops (by kernel_rfl) (fun (x : Dens A) K => eqv  x.1 x.2.1 K)
end q70
namespace q71
abbrev A : List Ty := [.str]
abbrev C := (cTy .bool)
abbrev T : Type := Str → (Bool → Prop) → Prop
noncomputable def tab : Tab := []
def F (s : Str) (K : Bool → Prop) : Prop :=
  (K (decide ((s.length : Int) > 64)))
noncomputable def en : Entry := mkEntry A C fun x => F x.1
theorem eqv (s : Str) (K : Bool → Prop) : apure E tab (fun _ => none) 4 150 [enc .str s] (ansK C K) = F s K := by kernel_rfl
theorem loops : LoopsOk E tab (fun _ => none) 4 150 := loops_none _ _ _ _
theorem det (s : Str) : Det (F s) := by
  unfold F
  repeat' with_reducible first | exact det_ret _
theorem edet (a : List AV) : Det (en a) := mkEntry_det (fun x : Dens A => det x.1) a
theorem ground : Ground E tab := ⟨num, mixed, (tab_nil _), clone, dtab_nil, stab⟩
theorem sound : EntrySound E 150 en := mkSound ground loops (by kernel_rfl) (fun (x : Dens A) K => eqv  x.1 K)
end q71
namespace q72
abbrev A : List Ty := [(.st 1)]
abbrev C := (cTy (.st 1))
abbrev T : Type := Disk → (Disk → Prop) → Prop
noncomputable def tab : Tab := []
def F (d : Disk) (K : Disk → Prop) : Prop :=
  (K (⟨d.sure, d.cache, 0, true⟩ : Disk))
noncomputable def en : Entry := mkEntry A C fun x => F x.1
theorem eqv (d : Disk) (K : Disk → Prop) : apure E tab (fun _ => none) 4 63 [enc (.st 1) d] (ansK C K) = F d K := by kernel_rfl
theorem loops : LoopsOk E tab (fun _ => none) 4 63 := loops_none _ _ _ _
theorem det (d : Disk) : Det (F d) := by
  unfold F
  repeat' with_reducible first | exact det_ret _
theorem edet (a : List AV) : Det (en a) := mkEntry_det (fun x : Dens A => det x.1) a
theorem ground : Ground E tab := ⟨num, mixed, (tab_nil _), clone, dtab_nil, stab⟩
theorem sound : EntrySound E 63 en := mkSound ground loops (by kernel_rfl) (fun (x : Dens A) K => eqv  x.1 K)
end q72
namespace q73
abbrev A : List Ty := [(.st 1), (.int .i64), .str]
abbrev C := (cTwo (.st 1) (.int .i64))
abbrev T : Type := Disk → Int → Str → ((Disk × Int) → Prop) → Prop
noncomputable def tv (f0 : q70.T) (f1 : q71.T) (f2 : q72.T) : Tab := [(149, mkEntry q70.A q70.C fun x => f0 x.1 x.2.1), (150, mkEntry q71.A q71.C fun x => f1 x.1), (63, mkEntry q72.A q72.C fun x => f2 x.1)]
noncomputable def tab : Tab := tv q70.F q71.F q72.F
def FV (f0 : q70.T) (f1 : q71.T) (f2 : q72.T) (d : Disk) (i : Int) (data : Str) (K : (Disk × Int) → Prop) : Prop :=
  (bif d.dead then (K (d, 6)) else (f0 d i fun r1 => (bif (!r1) then (K (d, 4)) else (f1 data fun r2 => (bif r2 then (K (d, 5)) else (bif (d.fuse == 0) then (bif (decide (d.cache.length * 24 ≤ room)) then (bif (decide (0 ≤ (d.cache.length : Int)) && decide ((d.cache.length : Int) ≤ (d.cache.length : Int)) && (d.cache.length : Int) == (d.cache.length : Int)) then (bif (decide (((sub d.cache 0 (Int.toNat (d.cache.length : Int))).length + ([(⟨i, data⟩ : Write)] : List Write).length) * 24 ≤ room)) then (K ((⟨d.sure, ((sub d.cache 0 (Int.toNat (d.cache.length : Int))) ++ ([(⟨i, data⟩ : Write)] : List Write)), d.fuse, d.dead⟩ : Disk), 0)) else False) else False) else False) else (bif (d.fuse == 1) then (f2 d fun r3 => (K (r3, 6))) else (bif (decide (d.cache.length * 24 ≤ room)) then (bif (decide (0 ≤ (d.cache.length : Int)) && decide ((d.cache.length : Int) ≤ (d.cache.length : Int)) && (d.cache.length : Int) == (d.cache.length : Int)) then (bif (decide (((sub d.cache 0 (Int.toNat (d.cache.length : Int))).length + ([(⟨i, data⟩ : Write)] : List Write).length) * 24 ≤ room)) then (K ((⟨d.sure, ((sub d.cache 0 (Int.toNat (d.cache.length : Int))) ++ ([(⟨i, data⟩ : Write)] : List Write)), (IntKind.i64.wrap (d.fuse - 1)), d.dead⟩ : Disk), 0)) else False) else False) else False))))))))
def F (d : Disk) (i : Int) (data : Str) (K : (Disk × Int) → Prop) : Prop := FV q70.F q71.F q72.F d i data K
noncomputable def en : Entry := mkEntry A C fun x => F x.1 x.2.1 x.2.2.1
theorem eqv (f0 : q70.T) (f1 : q71.T) (f2 : q72.T) (d : Disk) (i : Int) (data : Str) (K : (Disk × Int) → Prop) : apure E (tv f0 f1 f2) (fun _ => none) 4 108 [enc (.st 1) d, enc (.int .i64) i, enc .str data] (ansK C K) = FV f0 f1 f2 d i data K := by kernel_rfl
theorem loops : LoopsOk E tab (fun _ => none) 4 108 := loops_none _ _ _ _
theorem det (d : Disk) (i : Int) (data : Str) : Det (F d i data) := by
  unfold F FV
  repeat' with_reducible first | exact det_ret _ | exact det_false | refine det_cond _ ?_ ?_ | refine det_bind (q70.det _ _) (fun _ => ?_) | refine det_bind (q71.det _) (fun _ => ?_) | refine det_bind (q72.det _) (fun _ => ?_)
theorem edet (a : List AV) : Det (en a) := mkEntry_det (fun x : Dens A => det x.1 x.2.1 x.2.2.1) a
theorem ground : Ground E tab := ⟨num, mixed, (tab_cons q70.sound (tab_cons q71.sound (tab_cons q72.sound (tab_nil _)))), clone, (dtab_cons q70.edet (dtab_cons q71.edet (dtab_cons q72.edet dtab_nil))), stab⟩
theorem sound : EntrySound E 108 en := mkSound ground loops (by kernel_rfl) (fun (x : Dens A) K => eqv q70.F q71.F q72.F x.1 x.2.1 x.2.2.1 K)
end q73
namespace q74
abbrev A : List Ty := [(.st 1), (.int .u32)]
abbrev C := (cTwo (.st 1) (.int .i64))
abbrev T : Type := Disk → Int → ((Disk × Int) → Prop) → Prop
noncomputable def tv (f0 : q58.T) (f1 : q68.T) (f2 : q69.T) (f3 : q73.T) : Tab := [(107, mkEntry q58.A q58.C fun x => f0 x.1 x.2.1), (110, mkEntry q68.A q68.C fun x => f1 x.1), (109, mkEntry q69.A q69.C fun x => f2 x.1), (108, mkEntry q73.A q73.C fun x => f3 x.1 x.2.1 x.2.2.1)]
noncomputable def tab : Tab := tv q58.F q68.F q69.F q73.F
def FV (f0 : q58.T) (f1 : q68.T) (f2 : q69.T) (f3 : q73.T) (d : Disk) (m : Int) (K : (Disk × Int) → Prop) : Prop :=
  (f0 d m fun r1 => (bif (!r1) then (K (d, 1)) else (f1 m fun r2 => (f2 r2 fun r3 => (f3 d 1 r3 fun r4 => (K (r4.1, r4.2)))))))
def F (d : Disk) (m : Int) (K : (Disk × Int) → Prop) : Prop := FV q58.F q68.F q69.F q73.F d m K
noncomputable def en : Entry := mkEntry A C fun x => F x.1 x.2.1
theorem eqv (f0 : q58.T) (f1 : q68.T) (f2 : q69.T) (f3 : q73.T) (d : Disk) (m : Int) (K : (Disk × Int) → Prop) : apure E (tv f0 f1 f2 f3) (fun _ => none) 4 75 [enc (.st 1) d, enc (.int .u32) m] (ansK C K) = FV f0 f1 f2 f3 d m K := by kernel_rfl
theorem loops : LoopsOk E tab (fun _ => none) 4 75 := loops_none _ _ _ _
theorem det (d : Disk) (m : Int) : Det (F d m) := by
  unfold F FV
  repeat' with_reducible first | exact det_ret _ | refine det_cond _ ?_ ?_ | refine det_bind (q58.det _ _) (fun _ => ?_) | refine det_bind (q68.det _) (fun _ => ?_) | refine det_bind (q69.det _) (fun _ => ?_) | refine det_bind (q73.det _ _ _) (fun _ => ?_)
theorem edet (a : List AV) : Det (en a) := mkEntry_det (fun x : Dens A => det x.1 x.2.1) a
theorem ground : Ground E tab := ⟨num, mixed, (tab_cons q58.sound (tab_cons q68.sound (tab_cons q69.sound (tab_cons q73.sound (tab_nil _))))), clone, (dtab_cons q58.edet (dtab_cons q68.edet (dtab_cons q69.edet (dtab_cons q73.edet dtab_nil)))), stab⟩
theorem sound : EntrySound E 75 en := mkSound ground loops (by kernel_rfl) (fun (x : Dens A) K => eqv q58.F q68.F q69.F q73.F x.1 x.2.1 K)
end q74
namespace q75
abbrev A : List Ty := [(.slice .str), (.slice (.st 0))]
abbrev C := (cTy (.slice .str))
abbrev T : Type := (List Str) → (List Write) → ((List Str) → Prop) → Prop
noncomputable def tab : Tab := []
structure R where
def cR (_ : R) : St := { fr := fun _ => .top, hs := hs0 }
def kR : Keep := { ks := [], bs := [], hn := 0 }
structure L0 where
  sure : (List Str)
  t9 : (List Write)
  t10 : Int
  t11 : Int
def c0 (x : L0) : St := { fr := lookL .top [(0, (.slr 1)), (9, (.sl .any (.st 0) x.t9)), (10, (.int .i64 x.t10)), (11, (.int .i64 x.t11))], hs := { hp := lookL .dead [(1, (.row false .str x.sure))], hn := 2 } }
def kp0 : Keep := { ks := [(0, some 1), (9, none), (10, none), (11, none)], bs := [], hn := 2 }
def p0 (st : St) (K : L0 → Prop) : Prop := gHomes kp0 st <| gSlr (st.fr 0) fun c1 => gRow false .str (st.hs.hp c1) fun a2 => gSl .any (.st 0) (st.fr 9) fun a3 => gInt .i64 (st.fr 10) fun a4 => gInt .i64 (st.fr 11) fun a5 => K ⟨a2, a3, a4, a5⟩
set_option maxHeartbeats 4000000 in
theorem p0_ok (st : St) (K : L0 → Prop) (h : p0 st K) : ∃ x, keepSt kp0 st = c0 x ∧ K x := by
  obtain ⟨h0, h⟩ := gHomes_elim h
  obtain ⟨c1, h1, h⟩ := gSlr_elim h
  obtain ⟨a2, h2, h⟩ := gRow_elim h
  obtain ⟨a3, h3, h⟩ := gSl_elim h
  obtain ⟨a4, h4, h⟩ := gInt_elim h
  obtain ⟨a5, h5, h⟩ := gInt_elim h
  refine ⟨_, ?_, h⟩
  simp only [keepSt, h0]
  simp only [kp0, List.map, List.filterMap, homeOf, h1, h2, h3, h4, h5, hmOf, List.append_nil, cond_true]
  rfl
def b0 (rec kx : L0 → Prop) (kr : R → Prop) (x : L0) : Prop :=
  (bif (decide (x.t11 < x.t10)) then (oget (getI x.t9 x.t11) fun v1 => (bif (decide (0 ≤ v1.sector) && decide (v1.sector < (x.sure.length : Int))) then (rec ⟨(x.sure.set (Int.toNat v1.sector) v1.data), x.t9, x.t10, (IntKind.i64.wrap (x.t11 + 1))⟩) else False)) else (kx ⟨x.sure, x.t9, x.t10, x.t11⟩))
def lt : Nat → Option LSpec
  | 0 => some (mkLoop 0 kp0 kR p0 c0 cR b0)
  | _ => none
def F (sure : (List Str)) (writes : (List Write)) (K : (List Str) → Prop) : Prop :=
  (bif (decide (sure.length * 16 ≤ room)) then (∃ n, loopB b0 n (fun x2 => (K x2.sure)) (fun _ => False) ⟨sure, writes, (writes.length : Int), 0⟩) else False)
noncomputable def en : Entry := mkEntry A C fun x => F x.1 x.2.1
theorem eqv (sure : (List Str)) (writes : (List Write)) (K : (List Str) → Prop) : apure E tab lt 4 94 [enc (.slice .str) sure, enc (.slice (.st 0)) writes] (ansK C K) = F sure writes K := by kernel_rfl
theorem l0v (R : St → Prop) (Kx : Nat → St → Prop) (Kr : St → Prop) (x : L0) : acode E tab (afun E tab 4) 23 lt ((loopsIn E.P 94).getD 0 (0, .skip)).2 0 (fun s => R (keepSt kp0 s)) (fun j s => Kx j (keepSt kp0 s)) (fun s => Kr (keepSt kR s)) (c0 x) = b0 (fun x => R (c0 x)) (fun x => Kx 0 (c0 x)) (fun r => Kr (cR r)) x := by kernel_rfl
theorem l0_ok : LSound E tab (afun E tab 4) 23 lt 0 ((loopsIn E.P 94).getD 0 (0, .skip)).2 (mkLoop 0 kp0 kR p0 c0 cR b0) := mkLoop_sound (by decide) (by decide) p0_ok (fun R Kx Kr x => l0v  R Kx Kr x)
theorem loops : LoopsOk E tab lt 4 94 := loops_of (nt := 23) (ids := [0]) (by kernel_rfl) (by kernel_rfl) (by
  intro k i hk l hl
  match k, hk with
  | 0, hk => cases hk; cases hl; exact l0_ok
  | _ + 1, hk => exact absurd hk (by simp))
theorem det (sure : (List Str)) (writes : (List Write)) : Det (F sure writes) := by
  unfold F
  repeat' with_reducible first | exact det_ret _ | exact det_false | refine det_cond _ ?_ ?_ | refine det_oget _ (fun _ => ?_) | refine det_loop (fun _ => ?_) (fun _ => ?_) (fun _ => ?_) _ | unfold b0
theorem edet (a : List AV) : Det (en a) := mkEntry_det (fun x : Dens A => det x.1 x.2.1) a
theorem ground : Ground E tab := ⟨num, mixed, (tab_nil _), clone, dtab_nil, stab⟩
theorem sound : EntrySound E 94 en := mkSound ground loops (by kernel_rfl) (fun (x : Dens A) K => eqv  x.1 x.2.1 K)
end q75
namespace q76
abbrev A : List Ty := [(.st 1)]
abbrev C := (cTwo (.st 1) (.int .i64))
abbrev T : Type := Disk → ((Disk × Int) → Prop) → Prop
noncomputable def tv (f0 : q75.T) (f1 : q72.T) : Tab := [(94, mkEntry q75.A q75.C fun x => f0 x.1 x.2.1), (63, mkEntry q72.A q72.C fun x => f1 x.1)]
noncomputable def tab : Tab := tv q75.F q72.F
def FV (f0 : q75.T) (f1 : q72.T) (d : Disk) (K : (Disk × Int) → Prop) : Prop :=
  (bif d.dead then (K (d, 6)) else (bif (d.fuse == 0) then (f0 d.sure d.cache fun r1 => (K ((⟨r1, ([] : List Write), d.fuse, d.dead⟩ : Disk), 0))) else (bif (d.fuse == 1) then (f1 d fun r2 => (K (r2, 6))) else (f0 d.sure d.cache fun r3 => (K ((⟨r3, ([] : List Write), (IntKind.i64.wrap (d.fuse - 1)), d.dead⟩ : Disk), 0))))))
def F (d : Disk) (K : (Disk × Int) → Prop) : Prop := FV q75.F q72.F d K
noncomputable def en : Entry := mkEntry A C fun x => F x.1
theorem eqv (f0 : q75.T) (f1 : q72.T) (d : Disk) (K : (Disk × Int) → Prop) : apure E (tv f0 f1) (fun _ => none) 4 106 [enc (.st 1) d] (ansK C K) = FV f0 f1 d K := by kernel_rfl
theorem loops : LoopsOk E tab (fun _ => none) 4 106 := loops_none _ _ _ _
theorem det (d : Disk) : Det (F d) := by
  unfold F FV
  repeat' with_reducible first | exact det_ret _ | refine det_cond _ ?_ ?_ | refine det_bind (q75.det _ _) (fun _ => ?_) | refine det_bind (q72.det _) (fun _ => ?_)
theorem edet (a : List AV) : Det (en a) := mkEntry_det (fun x : Dens A => det x.1) a
theorem ground : Ground E tab := ⟨num, mixed, (tab_cons q75.sound (tab_cons q72.sound (tab_nil _))), clone, (dtab_cons q75.edet (dtab_cons q72.edet dtab_nil)), stab⟩
theorem sound : EntrySound E 106 en := mkSound ground loops (by kernel_rfl) (fun (x : Dens A) K => eqv q75.F q72.F x.1 K)
end q76
namespace q77
abbrev A : List Ty := [(.st 1), (.int .u32)]
abbrev C := (cTwo (.st 1) (.int .i64))
abbrev T : Type := Disk → Int → ((Disk × Int) → Prop) → Prop
noncomputable def tv (f0 : q74.T) (f1 : q76.T) : Tab := [(75, mkEntry q74.A q74.C fun x => f0 x.1 x.2.1), (106, mkEntry q76.A q76.C fun x => f1 x.1)]
noncomputable def tab : Tab := tv q74.F q76.F
def FV (f0 : q74.T) (f1 : q76.T) (d : Disk) (m : Int) (K : (Disk × Int) → Prop) : Prop :=
  (f0 d m fun r1 => (bif (r1.2 != 0) then (K (r1.1, r1.2)) else (f1 r1.1 fun r2 => (K (r2.1, r2.2)))))
def F (d : Disk) (m : Int) (K : (Disk × Int) → Prop) : Prop := FV q74.F q76.F d m K
noncomputable def en : Entry := mkEntry A C fun x => F x.1 x.2.1
theorem eqv (f0 : q74.T) (f1 : q76.T) (d : Disk) (m : Int) (K : (Disk × Int) → Prop) : apure E (tv f0 f1) (fun _ => none) 4 73 [enc (.st 1) d, enc (.int .u32) m] (ansK C K) = FV f0 f1 d m K := by kernel_rfl
theorem loops : LoopsOk E tab (fun _ => none) 4 73 := loops_none _ _ _ _
theorem det (d : Disk) (m : Int) : Det (F d m) := by
  unfold F FV
  repeat' with_reducible first | exact det_ret _ | refine det_cond _ ?_ ?_ | refine det_bind (q74.det _ _) (fun _ => ?_) | refine det_bind (q76.det _) (fun _ => ?_)
theorem edet (a : List AV) : Det (en a) := mkEntry_det (fun x : Dens A => det x.1 x.2.1) a
theorem ground : Ground E tab := ⟨num, mixed, (tab_cons q74.sound (tab_cons q76.sound (tab_nil _))), clone, (dtab_cons q74.edet (dtab_cons q76.edet dtab_nil)), stab⟩
theorem sound : EntrySound E 73 en := mkSound ground loops (by kernel_rfl) (fun (x : Dens A) K => eqv q74.F q76.F x.1 x.2.1 K)
end q77
namespace q78
abbrev A : List Ty := [(.st 8), (.int .i64)]
abbrev C := (cTwo (.st 8) (.int .i64))
abbrev T : Type := Store → Int → ((Store × Int) → Prop) → Prop
noncomputable def tv (f0 : q64.T) (f1 : q66.T) (f2 : q77.T) : Tab := [(70, mkEntry q64.A q64.C fun x => f0 x.1 x.2.1), (72, mkEntry q66.A q66.C fun x => f1 x.1 x.2.1), (73, mkEntry q77.A q77.C fun x => f2 x.1 x.2.1)]
noncomputable def tab : Tab := tv q64.F q66.F q77.F
def FV (f0 : q64.T) (f1 : q66.T) (f2 : q77.T) (s : Store) (i : Int) (K : (Store × Int) → Prop) : Prop :=
  (f0 s i fun r1 => (bif (!r1) then (K (s, 4)) else (f1 s.mask ([i] : List Int) fun r2 => (bif (r2 == s.mask) then (K (s, 0)) else (f2 s.disk r2 fun r3 => (bif (r3.2 == 0) then (K ((⟨r3.1, s.sup, r2⟩ : Store), r3.2)) else (K ((⟨r3.1, s.sup, s.mask⟩ : Store), r3.2))))))))
def F (s : Store) (i : Int) (K : (Store × Int) → Prop) : Prop := FV q64.F q66.F q77.F s i K
noncomputable def en : Entry := mkEntry A C fun x => F x.1 x.2.1
theorem eqv (f0 : q64.T) (f1 : q66.T) (f2 : q77.T) (s : Store) (i : Int) (K : (Store × Int) → Prop) : apure E (tv f0 f1 f2) (fun _ => none) 4 27 [enc (.st 8) s, enc (.int .i64) i] (ansK C K) = FV f0 f1 f2 s i K := by kernel_rfl
theorem loops : LoopsOk E tab (fun _ => none) 4 27 := loops_none _ _ _ _
theorem det (s : Store) (i : Int) : Det (F s i) := by
  unfold F FV
  repeat' with_reducible first | exact det_ret _ | refine det_cond _ ?_ ?_ | refine det_bind (q64.det _ _) (fun _ => ?_) | refine det_bind (q66.det _ _) (fun _ => ?_) | refine det_bind (q77.det _ _) (fun _ => ?_)
theorem edet (a : List AV) : Det (en a) := mkEntry_det (fun x : Dens A => det x.1 x.2.1) a
theorem ground : Ground E tab := ⟨num, mixed, (tab_cons q64.sound (tab_cons q66.sound (tab_cons q77.sound (tab_nil _)))), clone, (dtab_cons q64.edet (dtab_cons q66.edet (dtab_cons q77.edet dtab_nil))), stab⟩
theorem sound : EntrySound E 27 en := mkSound ground loops (by kernel_rfl) (fun (x : Dens A) K => eqv q64.F q66.F q77.F x.1 x.2.1 K)
end q78
namespace q79
abbrev A : List Ty := [(.st 1), (.int .i64), .str]
abbrev C := (cTwo (.st 1) (.int .i64))
abbrev T : Type := Disk → Int → Str → ((Disk × Int) → Prop) → Prop
noncomputable def tv (f0 : q60.T) (f1 : q73.T) (f2 : q76.T) : Tab := [(130, mkEntry q60.A q60.C fun x => f0 x.1 x.2.1), (108, mkEntry q73.A q73.C fun x => f1 x.1 x.2.1 x.2.2.1), (106, mkEntry q76.A q76.C fun x => f2 x.1)]
noncomputable def tab : Tab := tv q60.F q73.F q76.F
def FV (f0 : q60.T) (f1 : q73.T) (f2 : q76.T) (d : Disk) (i : Int) (data : Str) (K : (Disk × Int) → Prop) : Prop :=
  (f0 d i fun r1 => (bif (!r1) then (K (d, 4)) else (bif ((data.length : Int) != 8) then (K (d, 5)) else (f1 d (IntKind.i64.wrap (i + 2)) data fun r2 => (bif (r2.2 != 0) then (K (r2.1, r2.2)) else (f2 r2.1 fun r3 => (K (r3.1, r3.2))))))))
def F (d : Disk) (i : Int) (data : Str) (K : (Disk × Int) → Prop) : Prop := FV q60.F q73.F q76.F d i data K
noncomputable def en : Entry := mkEntry A C fun x => F x.1 x.2.1 x.2.2.1
theorem eqv (f0 : q60.T) (f1 : q73.T) (f2 : q76.T) (d : Disk) (i : Int) (data : Str) (K : (Disk × Int) → Prop) : apure E (tv f0 f1 f2) (fun _ => none) 4 95 [enc (.st 1) d, enc (.int .i64) i, enc .str data] (ansK C K) = FV f0 f1 f2 d i data K := by kernel_rfl
theorem loops : LoopsOk E tab (fun _ => none) 4 95 := loops_none _ _ _ _
theorem det (d : Disk) (i : Int) (data : Str) : Det (F d i data) := by
  unfold F FV
  repeat' with_reducible first | exact det_ret _ | refine det_cond _ ?_ ?_ | refine det_bind (q60.det _ _) (fun _ => ?_) | refine det_bind (q73.det _ _ _) (fun _ => ?_) | refine det_bind (q76.det _) (fun _ => ?_)
theorem edet (a : List AV) : Det (en a) := mkEntry_det (fun x : Dens A => det x.1 x.2.1 x.2.2.1) a
theorem ground : Ground E tab := ⟨num, mixed, (tab_cons q60.sound (tab_cons q73.sound (tab_cons q76.sound (tab_nil _)))), clone, (dtab_cons q60.edet (dtab_cons q73.edet (dtab_cons q76.edet dtab_nil))), stab⟩
theorem sound : EntrySound E 95 en := mkSound ground loops (by kernel_rfl) (fun (x : Dens A) K => eqv q60.F q73.F q76.F x.1 x.2.1 x.2.2.1 K)
end q79
namespace q80
abbrev A : List Ty := [(.st 8), (.int .i64), .str]
abbrev C := (cTwo (.st 8) (.int .i64))
abbrev T : Type := Store → Int → Str → ((Store × Int) → Prop) → Prop
noncomputable def tv (f0 : q79.T) : Tab := [(95, mkEntry q79.A q79.C fun x => f0 x.1 x.2.1 x.2.2.1)]
noncomputable def tab : Tab := tv q79.F
def FV (f0 : q79.T) (s : Store) (i : Int) (data : Str) (K : (Store × Int) → Prop) : Prop :=
  (f0 s.disk i data fun r1 => (K ((⟨r1.1, s.sup, s.mask⟩ : Store), r1.2)))
def F (s : Store) (i : Int) (data : Str) (K : (Store × Int) → Prop) : Prop := FV q79.F s i data K
noncomputable def en : Entry := mkEntry A C fun x => F x.1 x.2.1 x.2.2.1
theorem eqv (f0 : q79.T) (s : Store) (i : Int) (data : Str) (K : (Store × Int) → Prop) : apure E (tv f0) (fun _ => none) 4 65 [enc (.st 8) s, enc (.int .i64) i, enc .str data] (ansK C K) = FV f0 s i data K := by kernel_rfl
theorem loops : LoopsOk E tab (fun _ => none) 4 65 := loops_none _ _ _ _
theorem det (s : Store) (i : Int) (data : Str) : Det (F s i data) := by
  unfold F FV
  repeat' with_reducible first | exact det_ret _ | refine det_bind (q79.det _ _ _) (fun _ => ?_)
theorem edet (a : List AV) : Det (en a) := mkEntry_det (fun x : Dens A => det x.1 x.2.1 x.2.2.1) a
theorem ground : Ground E tab := ⟨num, mixed, (tab_cons q79.sound (tab_nil _)), clone, (dtab_cons q79.edet dtab_nil), stab⟩
theorem sound : EntrySound E 65 en := mkSound ground loops (by kernel_rfl) (fun (x : Dens A) K => eqv q79.F x.1 x.2.1 x.2.2.1 K)
end q80
namespace q81
abbrev A : List Ty := [(.st 1)]
abbrev C := (cTy (.st 1))
abbrev T : Type := Disk → (Disk → Prop) → Prop
noncomputable def tab : Tab := []
def F (d : Disk) (K : Disk → Prop) : Prop :=
  (K (⟨d.sure, d.cache, 0, true⟩ : Disk))
noncomputable def en : Entry := mkEntry A C fun x => F x.1
theorem eqv (d : Disk) (K : Disk → Prop) : apure E tab (fun _ => none) 4 31 [enc (.st 1) d] (ansK C K) = F d K := by kernel_rfl
theorem loops : LoopsOk E tab (fun _ => none) 4 31 := loops_none _ _ _ _
theorem det (d : Disk) : Det (F d) := by
  unfold F
  repeat' with_reducible first | exact det_ret _
theorem edet (a : List AV) : Det (en a) := mkEntry_det (fun x : Dens A => det x.1) a
theorem ground : Ground E tab := ⟨num, mixed, (tab_nil _), clone, dtab_nil, stab⟩
theorem sound : EntrySound E 31 en := mkSound ground loops (by kernel_rfl) (fun (x : Dens A) K => eqv  x.1 K)
end q81
namespace q82
abbrev A : List Ty := [(.st 1), (.slice .bool)]
abbrev C := (cTy (.st 1))
abbrev T : Type := Disk → (List Bool) → (Disk → Prop) → Prop
noncomputable def tab : Tab := []
structure R where
def cR (_ : R) : St := { fr := fun _ => .top, hs := hs0 }
def kR : Keep := { ks := [], bs := [], hn := 0 }
structure L0 where
  keeps : (List Bool)
  sure : (List Str)
  i : Int
  m0 : Disk
  m1 : Disk
def c0 (x : L0) : St := { fr := lookL .top [(1, (.sl .any .bool x.keeps)), (2, (.ptr 0 0)), (4, (.ptr 1 0)), (5, (.slr 2)), (6, (.int .i64 x.i))], hs := { hp := lookL .dead [(2, (.row false .str x.sure)), (0, (.cells (encS 1 x.m0))), (1, (.cells (encS 1 x.m1)))], hn := 3 } }
def kp0 : Keep := { ks := [(1, none), (2, none), (4, none), (5, some 2), (6, none)], bs := [0, 1], hn := 3, ts := [(0, 1), (1, 1)] }
def p0 (st : St) (K : L0 → Prop) : Prop := gHomes kp0 st <| gSl .any .bool (st.fr 1) fun a1 => gPtr 0 0 (st.fr 2) <| gPtr 1 0 (st.fr 4) <| gSlr (st.fr 5) fun c2 => gRow false .str (st.hs.hp c2) fun a3 => gInt .i64 (st.fr 6) fun a4 => gBlkS 1 (st.hs.hp 0) fun a5 => gBlkS 1 (st.hs.hp 1) fun a6 => K ⟨a1, a3, a4, a5, a6⟩
set_option maxHeartbeats 4000000 in
theorem p0_ok (st : St) (K : L0 → Prop) (h : p0 st K) : ∃ x, keepSt kp0 st = c0 x ∧ K x := by
  obtain ⟨h0, h⟩ := gHomes_elim h
  obtain ⟨a1, h1, h⟩ := gSl_elim h
  obtain ⟨h2, h⟩ := gPtr_elim h
  obtain ⟨h3, h⟩ := gPtr_elim h
  obtain ⟨c2, h4, h⟩ := gSlr_elim h
  obtain ⟨a3, h5, h⟩ := gRow_elim h
  obtain ⟨a4, h6, h⟩ := gInt_elim h
  obtain ⟨z7, a5, h7, y7, h⟩ := gBlkS_elim h
  have q7 : ∀ ok, keptB kp0 ok 0 (.cells z7) = .cells (encS 1 a5) := fun _ => y7
  simp only [kp0] at q7
  obtain ⟨z8, a6, h8, y8, h⟩ := gBlkS_elim h
  have q8 : ∀ ok, keptB kp0 ok 1 (.cells z8) = .cells (encS 1 a6) := fun _ => y8
  simp only [kp0] at q8
  refine ⟨_, ?_, h⟩
  simp only [keepSt, h0]
  simp only [kp0, List.map, List.filterMap, homeOf, h1, h2, h3, h4, h5, h6, h7, h8, q7, q8, hmOf, List.append_nil, cond_true]
  rfl
def b0 (rec kx : L0 → Prop) (kr : R → Prop) (x : L0) : Prop :=
  (bif (decide (x.i < (x.m0.cache.length : Int))) then (bif (decide (x.i < (x.keeps.length : Int))) then (oget (getI x.keeps x.i) fun v1 => (bif v1 then (oget (getI x.m0.cache x.i) fun v2 => (oget (getI x.m0.cache x.i) fun v3 => (bif (decide (0 ≤ v2.sector) && decide (v2.sector < (x.sure.length : Int))) then (rec ⟨x.keeps, (x.sure.set (Int.toNat v2.sector) v3.data), (IntKind.i64.wrap (x.i + 1)), x.m0, x.m1⟩) else False))) else (rec ⟨x.keeps, x.sure, (IntKind.i64.wrap (x.i + 1)), x.m0, x.m1⟩))) else (kx ⟨x.keeps, x.sure, x.i, x.m0, x.m1⟩)) else (kx ⟨x.keeps, x.sure, x.i, x.m0, x.m1⟩))
def lt : Nat → Option LSpec
  | 0 => some (mkLoop 0 kp0 kR p0 c0 cR b0)
  | _ => none
def F (d : Disk) (keeps : (List Bool)) (K : Disk → Prop) : Prop :=
  (bif (decide (d.sure.length * 16 ≤ room)) then (∃ n, loopB b0 n (fun x4 => (K (⟨x4.sure, ([] : List Write), 0, false⟩ : Disk))) (fun _ => False) ⟨keeps, d.sure, 0, d, (⟨([] : List Str), ([] : List Write), 0, false⟩ : Disk)⟩) else False)
noncomputable def en : Entry := mkEntry A C fun x => F x.1 x.2.1
theorem eqv (d : Disk) (keeps : (List Bool)) (K : Disk → Prop) : apure E tab lt 4 30 [enc (.st 1) d, enc (.slice .bool) keeps] (ansK C K) = F d keeps K := by kernel_rfl
theorem l0v (R : St → Prop) (Kx : Nat → St → Prop) (Kr : St → Prop) (x : L0) : acode E tab (afun E tab 4) 44 lt ((loopsIn E.P 30).getD 0 (0, .skip)).2 0 (fun s => R (keepSt kp0 s)) (fun j s => Kx j (keepSt kp0 s)) (fun s => Kr (keepSt kR s)) (c0 x) = b0 (fun x => R (c0 x)) (fun x => Kx 0 (c0 x)) (fun r => Kr (cR r)) x := by kernel_rfl
theorem l0_ok : LSound E tab (afun E tab 4) 44 lt 0 ((loopsIn E.P 30).getD 0 (0, .skip)).2 (mkLoop 0 kp0 kR p0 c0 cR b0) := mkLoop_sound (by decide) (by decide) p0_ok (fun R Kx Kr x => l0v  R Kx Kr x)
theorem loops : LoopsOk E tab lt 4 30 := loops_of (nt := 44) (ids := [0]) (by kernel_rfl) (by kernel_rfl) (by
  intro k i hk l hl
  match k, hk with
  | 0, hk => cases hk; cases hl; exact l0_ok
  | _ + 1, hk => exact absurd hk (by simp))
theorem det (d : Disk) (keeps : (List Bool)) : Det (F d keeps) := by
  unfold F
  repeat' with_reducible first | exact det_ret _ | exact det_false | refine det_cond _ ?_ ?_ | refine det_oget _ (fun _ => ?_) | refine det_loop (fun _ => ?_) (fun _ => ?_) (fun _ => ?_) _ | unfold b0
theorem edet (a : List AV) : Det (en a) := mkEntry_det (fun x : Dens A => det x.1 x.2.1) a
theorem ground : Ground E tab := ⟨num, mixed, (tab_nil _), clone, dtab_nil, stab⟩
theorem sound : EntrySound E 30 en := mkSound ground loops (by kernel_rfl) (fun (x : Dens A) K => eqv  x.1 x.2.1 K)
end q82
namespace q83
abbrev A : List Ty := [(.st 8), (.int .i64)]
abbrev C := (cTwo .str (.int .i64))
abbrev T : Type := Store → Int → ((Str × Int) → Prop) → Prop
noncomputable def tv (f0 : q61.T) : Tab := [(91, mkEntry q61.A q61.C fun x => f0 x.1 x.2.1)]
noncomputable def tab : Tab := tv q61.F
def FV (f0 : q61.T) (s : Store) (i : Int) (K : (Str × Int) → Prop) : Prop :=
  (f0 s.disk i fun r1 => (K (r1.1, r1.2)))
def F (s : Store) (i : Int) (K : (Str × Int) → Prop) : Prop := FV q61.F s i K
noncomputable def en : Entry := mkEntry A C fun x => F x.1 x.2.1
theorem eqv (f0 : q61.T) (s : Store) (i : Int) (K : (Str × Int) → Prop) : apure E (tv f0) (fun _ => none) 4 57 [enc (.st 8) s, enc (.int .i64) i] (ansK C K) = FV f0 s i K := by kernel_rfl
theorem loops : LoopsOk E tab (fun _ => none) 4 57 := loops_none _ _ _ _
theorem det (s : Store) (i : Int) : Det (F s i) := by
  unfold F FV
  repeat' with_reducible first | exact det_ret _ | refine det_bind (q61.det _ _) (fun _ => ?_)
theorem edet (a : List AV) : Det (en a) := mkEntry_det (fun x : Dens A => det x.1 x.2.1) a
theorem ground : Ground E tab := ⟨num, mixed, (tab_cons q61.sound (tab_nil _)), clone, (dtab_cons q61.edet dtab_nil), stab⟩
theorem sound : EntrySound E 57 en := mkSound ground loops (by kernel_rfl) (fun (x : Dens A) K => eqv q61.F x.1 x.2.1 K)
end q83
namespace q84
abbrev A : List Ty := [(.int .u32), (.slice (.int .i64))]
abbrev C := (cTy (.int .u32))
abbrev T : Type := Int → (List Int) → (Int → Prop) → Prop
noncomputable def tv (f0 : q65.T) : Tab := [(105, mkEntry q65.A q65.C fun x => f0 x.1)]
noncomputable def tab : Tab := tv q65.F
def FV (f0 : q65.T) (m : Int) (l : (List Int)) (K : Int → Prop) : Prop :=
  (f0 l fun r1 => (K (iandn .u32 m r1)))
def F (m : Int) (l : (List Int)) (K : Int → Prop) : Prop := FV q65.F m l K
noncomputable def en : Entry := mkEntry A C fun x => F x.1 x.2.1
theorem eqv (f0 : q65.T) (m : Int) (l : (List Int)) (K : Int → Prop) : apure E (tv f0) (fun _ => none) 4 74 [enc (.int .u32) m, enc (.slice (.int .i64)) l] (ansK C K) = FV f0 m l K := by kernel_rfl
theorem loops : LoopsOk E tab (fun _ => none) 4 74 := loops_none _ _ _ _
theorem det (m : Int) (l : (List Int)) : Det (F m l) := by
  unfold F FV
  repeat' with_reducible first | exact det_ret _ | refine det_bind (q65.det _) (fun _ => ?_)
theorem edet (a : List AV) : Det (en a) := mkEntry_det (fun x : Dens A => det x.1 x.2.1) a
theorem ground : Ground E tab := ⟨num, mixed, (tab_cons q65.sound (tab_nil _)), clone, (dtab_cons q65.edet dtab_nil), stab⟩
theorem sound : EntrySound E 74 en := mkSound ground loops (by kernel_rfl) (fun (x : Dens A) K => eqv q65.F x.1 x.2.1 K)
end q84
namespace q85
abbrev A : List Ty := [(.st 8), (.int .i64)]
abbrev C := (cTwo (.st 8) (.int .i64))
abbrev T : Type := Store → Int → ((Store × Int) → Prop) → Prop
noncomputable def tv (f0 : q64.T) (f1 : q84.T) (f2 : q74.T) : Tab := [(70, mkEntry q64.A q64.C fun x => f0 x.1 x.2.1), (74, mkEntry q84.A q84.C fun x => f1 x.1 x.2.1), (75, mkEntry q74.A q74.C fun x => f2 x.1 x.2.1)]
noncomputable def tab : Tab := tv q64.F q84.F q74.F
def FV (f0 : q64.T) (f1 : q84.T) (f2 : q74.T) (s : Store) (i : Int) (K : (Store × Int) → Prop) : Prop :=
  (f0 s i fun r1 => (bif (!r1) then (K (s, 4)) else (f1 s.mask ([i] : List Int) fun r2 => (bif (r2 == s.mask) then (K (s, 0)) else (f2 s.disk r2 fun r3 => (bif (r3.2 == 0) then (K ((⟨r3.1, s.sup, r2⟩ : Store), r3.2)) else (K ((⟨r3.1, s.sup, s.mask⟩ : Store), r3.2))))))))
def F (s : Store) (i : Int) (K : (Store × Int) → Prop) : Prop := FV q64.F q84.F q74.F s i K
noncomputable def en : Entry := mkEntry A C fun x => F x.1 x.2.1
theorem eqv (f0 : q64.T) (f1 : q84.T) (f2 : q74.T) (s : Store) (i : Int) (K : (Store × Int) → Prop) : apure E (tv f0 f1 f2) (fun _ => none) 4 28 [enc (.st 8) s, enc (.int .i64) i] (ansK C K) = FV f0 f1 f2 s i K := by kernel_rfl
theorem loops : LoopsOk E tab (fun _ => none) 4 28 := loops_none _ _ _ _
theorem det (s : Store) (i : Int) : Det (F s i) := by
  unfold F FV
  repeat' with_reducible first | exact det_ret _ | refine det_cond _ ?_ ?_ | refine det_bind (q64.det _ _) (fun _ => ?_) | refine det_bind (q84.det _ _) (fun _ => ?_) | refine det_bind (q74.det _ _) (fun _ => ?_)
theorem edet (a : List AV) : Det (en a) := mkEntry_det (fun x : Dens A => det x.1 x.2.1) a
theorem ground : Ground E tab := ⟨num, mixed, (tab_cons q64.sound (tab_cons q84.sound (tab_cons q74.sound (tab_nil _)))), clone, (dtab_cons q64.edet (dtab_cons q84.edet (dtab_cons q74.edet dtab_nil))), stab⟩
theorem sound : EntrySound E 28 en := mkSound ground loops (by kernel_rfl) (fun (x : Dens A) K => eqv q64.F q84.F q74.F x.1 x.2.1 K)
end q85
namespace q86
abbrev A : List Ty := [(.slice .bool)]
abbrev C := (cTy (.int .u8))
abbrev T : Type := (List Bool) → (Int → Prop) → Prop
noncomputable def tab : Tab := []
structure R where
def cR (_ : R) : St := { fr := fun _ => .top, hs := hs0 }
def kR : Keep := { ks := [], bs := [], hn := 0 }
structure L0 where
  b0 : Int
  t9 : (List Bool)
  t10 : Int
  t11 : Int
def c0 (x : L0) : St := { fr := lookL .top [(2, (.int .u8 x.b0)), (9, (.sl .any .bool x.t9)), (10, (.int .i64 x.t10)), (11, (.int .i64 x.t11))], hs := { hp := lookL .dead [], hn := 0 } }
def kp0 : Keep := { ks := [(2, none), (9, none), (10, none), (11, none)], bs := [], hn := 0 }
def p0 (st : St) (K : L0 → Prop) : Prop := gInt .u8 (st.fr 2) fun a1 => gSl .any .bool (st.fr 9) fun a2 => gInt .i64 (st.fr 10) fun a3 => gInt .i64 (st.fr 11) fun a4 => K ⟨a1, a2, a3, a4⟩
set_option maxHeartbeats 4000000 in
theorem p0_ok (st : St) (K : L0 → Prop) (h : p0 st K) : ∃ x, keepSt kp0 st = c0 x ∧ K x := by
  obtain ⟨a1, h0, h⟩ := gInt_elim h
  obtain ⟨a2, h1, h⟩ := gSl_elim h
  obtain ⟨a3, h2, h⟩ := gInt_elim h
  obtain ⟨a4, h3, h⟩ := gInt_elim h
  refine ⟨_, ?_, h⟩
  simp only [keepSt, kp0, List.map, h0, h1, h2, h3]
  rfl
def b0 (rec kx : L0 → Prop) (kr : R → Prop) (x : L0) : Prop :=
  (bif (decide (x.t11 < x.t10)) then (oget (getI x.t9 x.t11) fun v1 => (bif v1 then (bif (decide (0 ≤ x.t11)) then (rec ⟨(ior .u8 x.b0 (ishl .u8 1 x.t11)), x.t9, x.t10, (IntKind.i64.wrap (x.t11 + 1))⟩) else False) else (rec ⟨x.b0, x.t9, x.t10, (IntKind.i64.wrap (x.t11 + 1))⟩))) else (kx ⟨x.b0, x.t9, x.t10, x.t11⟩))
def lt : Nat → Option LSpec
  | 0 => some (mkLoop 0 kp0 kR p0 c0 cR b0)
  | _ => none
def F (l : (List Bool)) (K : Int → Prop) : Prop :=
  (bif (decide (0 ≤ (minI (l.length : Int) 8)) && decide ((minI (l.length : Int) 8) ≤ (l.length : Int))) then (∃ n, loopB b0 n (fun x2 => (K x2.b0)) (fun _ => False) ⟨0, (sub l 0 (Int.toNat (minI (l.length : Int) 8))), ((sub l 0 (Int.toNat (minI (l.length : Int) 8))).length : Int), 0⟩) else False)
noncomputable def en : Entry := mkEntry A C fun x => F x.1
theorem eqv (l : (List Bool)) (K : Int → Prop) : apure E tab lt 4 174 [enc (.slice .bool) l] (ansK C K) = F l K := by kernel_rfl
theorem l0v (R : St → Prop) (Kx : Nat → St → Prop) (Kr : St → Prop) (x : L0) : acode E tab (afun E tab 4) 23 lt ((loopsIn E.P 174).getD 0 (0, .skip)).2 0 (fun s => R (keepSt kp0 s)) (fun j s => Kx j (keepSt kp0 s)) (fun s => Kr (keepSt kR s)) (c0 x) = b0 (fun x => R (c0 x)) (fun x => Kx 0 (c0 x)) (fun r => Kr (cR r)) x := by kernel_rfl
theorem l0_ok : LSound E tab (afun E tab 4) 23 lt 0 ((loopsIn E.P 174).getD 0 (0, .skip)).2 (mkLoop 0 kp0 kR p0 c0 cR b0) := mkLoop_sound (by decide) (by decide) p0_ok (fun R Kx Kr x => l0v  R Kx Kr x)
theorem loops : LoopsOk E tab lt 4 174 := loops_of (nt := 23) (ids := [0]) (by kernel_rfl) (by kernel_rfl) (by
  intro k i hk l hl
  match k, hk with
  | 0, hk => cases hk; cases hl; exact l0_ok
  | _ + 1, hk => exact absurd hk (by simp))
theorem det (l : (List Bool)) : Det (F l) := by
  unfold F
  repeat' with_reducible first | exact det_ret _ | exact det_false | refine det_cond _ ?_ ?_ | refine det_oget _ (fun _ => ?_) | refine det_loop (fun _ => ?_) (fun _ => ?_) (fun _ => ?_) _ | unfold b0
theorem edet (a : List AV) : Det (en a) := mkEntry_det (fun x : Dens A => det x.1) a
theorem ground : Ground E tab := ⟨num, mixed, (tab_nil _), clone, dtab_nil, stab⟩
theorem sound : EntrySound E 174 en := mkSound ground loops (by kernel_rfl) (fun (x : Dens A) K => eqv  x.1 K)
end q86
namespace q87
abbrev A : List Ty := [(.int .u64)]
abbrev C := (cTy .str)
abbrev T : Type := Int → (Str → Prop) → Prop
noncomputable def tv (f0 : q67.T) : Tab := [(154, mkEntry q67.A q67.C fun x => f0 x.1 x.2.1)]
noncomputable def tab : Tab := tv q67.F
def FV (f0 : q67.T) (n_0 : Int) (K : Str → Prop) : Prop :=
  (f0 n_0 8 fun r1 => (K r1))
def F (n_0 : Int) (K : Str → Prop) : Prop := FV q67.F n_0 K
noncomputable def en : Entry := mkEntry A C fun x => F x.1
theorem eqv (f0 : q67.T) (n_0 : Int) (K : Str → Prop) : apure E (tv f0) (fun _ => none) 4 126 [enc (.int .u64) n_0] (ansK C K) = FV f0 n_0 K := by kernel_rfl
theorem loops : LoopsOk E tab (fun _ => none) 4 126 := loops_none _ _ _ _
theorem det (n_0 : Int) : Det (F n_0) := by
  unfold F FV
  repeat' with_reducible first | exact det_ret _ | refine det_bind (q67.det _ _) (fun _ => ?_)
theorem edet (a : List AV) : Det (en a) := mkEntry_det (fun x : Dens A => det x.1) a
theorem ground : Ground E tab := ⟨num, mixed, (tab_cons q67.sound (tab_nil _)), clone, (dtab_cons q67.edet dtab_nil), stab⟩
theorem sound : EntrySound E 126 en := mkSound ground loops (by kernel_rfl) (fun (x : Dens A) K => eqv q67.F x.1 K)
end q87
namespace q88
abbrev A : List Ty := [(.st 3)]
abbrev C := (cTwo .str (.int .i64))
abbrev T : Type := Super → ((Str × Int) → Prop) → Prop
noncomputable def tv (f0 : q22.T) (f1 : q86.T) (f2 : q87.T) (f3 : q69.T) : Tab := [(181, mkEntry q22.A q22.C fun x => f0 x.1), (174, mkEntry q86.A q86.C fun x => f1 x.1), (126, mkEntry q87.A q87.C fun x => f2 x.1), (109, mkEntry q69.A q69.C fun x => f3 x.1)]
noncomputable def tab : Tab := tv q22.F q86.F q87.F q69.F
structure R where
def cR (_ : R) : St := { fr := fun _ => .top, hs := hs0 }
def kR : Keep := { ks := [], bs := [], hn := 0 }
structure L0 where
  b0 : Str
  t25 : Int
  m0 : Super
def c0 (x : L0) : St := { fr := lookL .top [(4, (.str x.b0)), (24, (.agg [(.ptr 0 1), (.ptr 0 2), (.ptr 0 3), (.ptr 0 4)])), (25, (.int .i64 x.t25))], hs := { hp := lookL .dead [(0, (.cells (encS 3 x.m0)))], hn := 2 } }
def kp0 : Keep := { ks := [(4, none), (24, none), (25, none)], bs := [0], hn := 2, ts := [(0, 3)] }
def p0 (st : St) (K : L0 → Prop) : Prop := gStr (st.fr 4) fun a1 => gAgg (st.fr 24) fun c2 => gCons c2 fun c3 c4 => gPtr 0 1 c3 <| gCons c4 fun c5 c6 => gPtr 0 2 c5 <| gCons c6 fun c7 c8 => gPtr 0 3 c7 <| gCons c8 fun c9 c10 => gPtr 0 4 c9 <| gNil c10 <| gInt .i64 (st.fr 25) fun a11 => gBlkS 3 (st.hs.hp 0) fun a12 => K ⟨a1, a11, a12⟩
set_option maxHeartbeats 4000000 in
theorem p0_ok (st : St) (K : L0 → Prop) (h : p0 st K) : ∃ x, keepSt kp0 st = c0 x ∧ K x := by
  obtain ⟨a1, h0, h⟩ := gStr_elim h
  obtain ⟨c2, h1, h⟩ := gAgg_elim h
  obtain ⟨c3, c4, h2, h⟩ := gCons_elim h
  obtain ⟨h3, h⟩ := gPtr_elim h
  obtain ⟨c5, c6, h4, h⟩ := gCons_elim h
  obtain ⟨h5, h⟩ := gPtr_elim h
  obtain ⟨c7, c8, h6, h⟩ := gCons_elim h
  obtain ⟨h7, h⟩ := gPtr_elim h
  obtain ⟨c9, c10, h8, h⟩ := gCons_elim h
  obtain ⟨h9, h⟩ := gPtr_elim h
  obtain ⟨h10, h⟩ := gNil_elim h
  obtain ⟨a11, h11, h⟩ := gInt_elim h
  obtain ⟨z12, a12, h12, y12, h⟩ := gBlkS_elim h
  have q12 : ∀ ok, keptB kp0 ok 0 (.cells z12) = .cells (encS 3 a12) := fun _ => y12
  simp only [kp0] at q12
  refine ⟨_, ?_, h⟩
  subst h2
  subst h3
  subst h4
  subst h5
  subst h6
  subst h7
  subst h8
  subst h9
  subst h10
  simp only [keepSt, kp0, List.map, h0, h1, h11, h12, q12]
  rfl
def b0V (f0 : q22.T) (f1 : q86.T) (f2 : q87.T) (f3 : q69.T) (rec kx : L0 → Prop) (kr : R → Prop) (x : L0) : Prop :=
  (bif (decide (x.t25 < 4)) then (bif (x.t25 == 0) then (f2 x.m0.vector.current fun r6 => (bif (fits (x.b0.length + r6.length)) then (rec ⟨(x.b0 ++ r6), (IntKind.i64.wrap (x.t25 + 1)), x.m0⟩) else False)) else (bif (x.t25 == 1) then (f2 x.m0.vector.bitmap fun r5 => (bif (fits (x.b0.length + r5.length)) then (rec ⟨(x.b0 ++ r5), (IntKind.i64.wrap (x.t25 + 1)), x.m0⟩) else False)) else (bif (x.t25 == 2) then (f2 x.m0.vector.old0 fun r4 => (bif (fits (x.b0.length + r4.length)) then (rec ⟨(x.b0 ++ r4), (IntKind.i64.wrap (x.t25 + 1)), x.m0⟩) else False)) else (bif (x.t25 == 3) then (f2 x.m0.vector.old1 fun r3 => (bif (fits (x.b0.length + r3.length)) then (rec ⟨(x.b0 ++ r3), (IntKind.i64.wrap (x.t25 + 1)), x.m0⟩) else False)) else False)))) else (kx ⟨x.b0, x.t25, x.m0⟩))
def ltV (f0 : q22.T) (f1 : q86.T) (f2 : q87.T) (f3 : q69.T) : Nat → Option LSpec
  | 0 => some (mkLoop 0 kp0 kR p0 c0 cR (b0V f0 f1 f2 f3))
  | _ => none
def lt : Nat → Option LSpec := ltV q22.F q86.F q87.F q69.F
def FV (f0 : q22.T) (f1 : q86.T) (f2 : q87.T) (f3 : q69.T) (s : Super) (K : (Str × Int) → Prop) : Prop :=
  (f0 s fun r1 => (bif (!r1) then (K (([] : Str), 1)) else (f1 ([s.inc, s.pri, s.dis] : List Bool) fun r2 => (bif (fits (([71, 77, 1] : Str).length + (bytesOfInts ([(IntKind.u8.wrap s.blocks), r2] : List Int)).length)) then (∃ n, loopB (b0V f0 f1 f2 f3) n (fun x7 => (f3 x7.b0 fun r9 => (K (r9, 0)))) (fun _ => False) ⟨(([71, 77, 1] : Str) ++ (bytesOfInts ([(IntKind.u8.wrap s.blocks), r2] : List Int))), 0, s⟩) else False))))
def F (s : Super) (K : (Str × Int) → Prop) : Prop := FV q22.F q86.F q87.F q69.F s K
noncomputable def en : Entry := mkEntry A C fun x => F x.1
theorem eqv (f0 : q22.T) (f1 : q86.T) (f2 : q87.T) (f3 : q69.T) (s : Super) (K : (Str × Int) → Prop) : apure E (tv f0 f1 f2 f3) (ltV f0 f1 f2 f3) 4 136 [enc (.st 3) s] (ansK C K) = FV f0 f1 f2 f3 s K := by kernel_rfl
theorem l0v (f0 : q22.T) (f1 : q86.T) (f2 : q87.T) (f3 : q69.T) (R : St → Prop) (Kx : Nat → St → Prop) (Kr : St → Prop) (x : L0) : acode E (tv f0 f1 f2 f3) (afun E (tv f0 f1 f2 f3) 4) 37 (ltV f0 f1 f2 f3) ((loopsIn E.P 136).getD 0 (0, .skip)).2 0 (fun s => R (keepSt kp0 s)) (fun j s => Kx j (keepSt kp0 s)) (fun s => Kr (keepSt kR s)) (c0 x) = b0V f0 f1 f2 f3 (fun x => R (c0 x)) (fun x => Kx 0 (c0 x)) (fun r => Kr (cR r)) x := by kernel_rfl
theorem l0_ok : LSound E tab (afun E tab 4) 37 lt 0 ((loopsIn E.P 136).getD 0 (0, .skip)).2 (mkLoop 0 kp0 kR p0 c0 cR (b0V q22.F q86.F q87.F q69.F)) := mkLoop_sound (by decide) (by decide) p0_ok (fun R Kx Kr x => l0v q22.F q86.F q87.F q69.F R Kx Kr x)
theorem loops : LoopsOk E tab lt 4 136 := loops_of (nt := 37) (ids := [0]) (by kernel_rfl) (by kernel_rfl) (by
  intro k i hk l hl
  match k, hk with
  | 0, hk => cases hk; cases hl; exact l0_ok
  | _ + 1, hk => exact absurd hk (by simp))
theorem det (s : Super) : Det (F s) := by
  unfold F FV
  repeat' with_reducible first | exact det_ret _ | exact det_false | refine det_cond _ ?_ ?_ | refine det_bind (q22.det _) (fun _ => ?_) | refine det_bind (q86.det _) (fun _ => ?_) | refine det_bind (q87.det _) (fun _ => ?_) | refine det_bind (q69.det _) (fun _ => ?_) | refine det_loop (fun _ => ?_) (fun _ => ?_) (fun _ => ?_) _ | unfold b0V
theorem edet (a : List AV) : Det (en a) := mkEntry_det (fun x : Dens A => det x.1) a
theorem ground : Ground E tab := ⟨num, mixed, (tab_cons q22.sound (tab_cons q86.sound (tab_cons q87.sound (tab_cons q69.sound (tab_nil _))))), clone, (dtab_cons q22.edet (dtab_cons q86.edet (dtab_cons q87.edet (dtab_cons q69.edet dtab_nil)))), stab⟩
theorem sound : EntrySound E 136 en := mkSound ground loops (by kernel_rfl) (fun (x : Dens A) K => eqv q22.F q86.F q87.F q69.F x.1 K)
end q88
namespace q89
abbrev A : List Ty := [(.st 1), (.st 3)]
abbrev C := (cTwo (.st 1) (.int .i64))
abbrev T : Type := Disk → Super → ((Disk × Int) → Prop) → Prop
noncomputable def tv (f0 : q88.T) (f1 : q55.T) (f2 : q73.T) (f3 : q76.T) : Tab := [(136, mkEntry q88.A q88.C fun x => f0 x.1), (113, mkEntry q55.A q55.C fun x => f1 x.1 x.2.1), (108, mkEntry q73.A q73.C fun x => f2 x.1 x.2.1 x.2.2.1), (106, mkEntry q76.A q76.C fun x => f3 x.1)]
noncomputable def tab : Tab := tv q88.F q55.F q73.F q76.F
def FV (f0 : q88.T) (f1 : q55.T) (f2 : q73.T) (f3 : q76.T) (d : Disk) (s : Super) (K : (Disk × Int) → Prop) : Prop :=
  (f0 s fun r1 => (bif (r1.2 != 0) then (K (d, 1)) else (f1 d s fun r2 => (bif (!r2) then (K (d, 1)) else (f2 d 0 r1.1 fun r3 => (bif (r3.2 != 0) then (K (r3.1, r3.2)) else (f3 r3.1 fun r4 => (K (r4.1, r4.2)))))))))
def F (d : Disk) (s : Super) (K : (Disk × Int) → Prop) : Prop := FV q88.F q55.F q73.F q76.F d s K
noncomputable def en : Entry := mkEntry A C fun x => F x.1 x.2.1
theorem eqv (f0 : q88.T) (f1 : q55.T) (f2 : q73.T) (f3 : q76.T) (d : Disk) (s : Super) (K : (Disk × Int) → Prop) : apure E (tv f0 f1 f2 f3) (fun _ => none) 4 96 [enc (.st 1) d, enc (.st 3) s] (ansK C K) = FV f0 f1 f2 f3 d s K := by kernel_rfl
theorem loops : LoopsOk E tab (fun _ => none) 4 96 := loops_none _ _ _ _
theorem det (d : Disk) (s : Super) : Det (F d s) := by
  unfold F FV
  repeat' with_reducible first | exact det_ret _ | refine det_cond _ ?_ ?_ | refine det_bind (q88.det _) (fun _ => ?_) | refine det_bind (q55.det _ _) (fun _ => ?_) | refine det_bind (q73.det _ _ _) (fun _ => ?_) | refine det_bind (q76.det _) (fun _ => ?_)
theorem edet (a : List AV) : Det (en a) := mkEntry_det (fun x : Dens A => det x.1 x.2.1) a
theorem ground : Ground E tab := ⟨num, mixed, (tab_cons q88.sound (tab_cons q55.sound (tab_cons q73.sound (tab_cons q76.sound (tab_nil _))))), clone, (dtab_cons q88.edet (dtab_cons q55.edet (dtab_cons q73.edet (dtab_cons q76.edet dtab_nil)))), stab⟩
theorem sound : EntrySound E 96 en := mkSound ground loops (by kernel_rfl) (fun (x : Dens A) K => eqv q88.F q55.F q73.F q76.F x.1 x.2.1 K)
end q89
namespace q90
abbrev A : List Ty := [(.st 8), (.st 3)]
abbrev C := (cTwo (.st 8) (.int .i64))
abbrev T : Type := Store → Super → ((Store × Int) → Prop) → Prop
noncomputable def tv (f0 : q89.T) : Tab := [(96, mkEntry q89.A q89.C fun x => f0 x.1 x.2.1)]
noncomputable def tab : Tab := tv q89.F
def FV (f0 : q89.T) (s : Store) (b_1 : Super) (K : (Store × Int) → Prop) : Prop :=
  (bif ((b_1.blocks == s.sup.blocks) && (((b_1.vector.current == s.sup.vector.current) && ((b_1.vector.bitmap == s.sup.vector.bitmap) && (((b_1.vector.old0 == s.sup.vector.old0) && ((b_1.vector.old1 == s.sup.vector.old1) && true)) && true))) && ((b_1.inc == s.sup.inc) && ((b_1.pri == s.sup.pri) && ((b_1.dis == s.sup.dis) && true))))) then (K (s, 0)) else (f0 s.disk b_1 fun r1 => (bif (r1.2 == 0) then (K ((⟨r1.1, b_1, s.mask⟩ : Store), r1.2)) else (K ((⟨r1.1, s.sup, s.mask⟩ : Store), r1.2)))))
def F (s : Store) (b_1 : Super) (K : (Store × Int) → Prop) : Prop := FV q89.F s b_1 K
noncomputable def en : Entry := mkEntry A C fun x => F x.1 x.2.1
theorem eqv (f0 : q89.T) (s : Store) (b_1 : Super) (K : (Store × Int) → Prop) : apure E (tv f0) (fun _ => none) 4 66 [enc (.st 8) s, enc (.st 3) b_1] (ansK C K) = FV f0 s b_1 K := by kernel_rfl
theorem loops : LoopsOk E tab (fun _ => none) 4 66 := loops_none _ _ _ _
theorem det (s : Store) (b_1 : Super) : Det (F s b_1) := by
  unfold F FV
  repeat' with_reducible first | exact det_ret _ | refine det_cond _ ?_ ?_ | refine det_bind (q89.det _ _) (fun _ => ?_)
theorem edet (a : List AV) : Det (en a) := mkEntry_det (fun x : Dens A => det x.1 x.2.1) a
theorem ground : Ground E tab := ⟨num, mixed, (tab_cons q89.sound (tab_nil _)), clone, (dtab_cons q89.edet dtab_nil), stab⟩
theorem sound : EntrySound E 66 en := mkSound ground loops (by kernel_rfl) (fun (x : Dens A) K => eqv q89.F x.1 x.2.1 K)
end q90
namespace q91
abbrev A : List Ty := [(.slice (.int .u32))]
abbrev C := (cTy (.int .u32))
abbrev T : Type := (List Int) → (Int → Prop) → Prop
noncomputable def tab : Tab := []
structure R where
def cR (_ : R) : St := { fr := fun _ => .top, hs := hs0 }
def kR : Keep := { ks := [], bs := [], hn := 0 }
structure L0 where
  m : Int
  t5 : (List Int)
  t6 : Int
  t7 : Int
def c0 (x : L0) : St := { fr := lookL .top [(2, (.int .u32 x.m)), (5, (.sl .any (.int .u32) x.t5)), (6, (.int .i64 x.t6)), (7, (.int .i64 x.t7))], hs := { hp := lookL .dead [], hn := 0 } }
def kp0 : Keep := { ks := [(2, none), (5, none), (6, none), (7, none)], bs := [], hn := 0 }
def p0 (st : St) (K : L0 → Prop) : Prop := gInt .u32 (st.fr 2) fun a1 => gSl .any (.int .u32) (st.fr 5) fun a2 => gInt .i64 (st.fr 6) fun a3 => gInt .i64 (st.fr 7) fun a4 => K ⟨a1, a2, a3, a4⟩
set_option maxHeartbeats 4000000 in
theorem p0_ok (st : St) (K : L0 → Prop) (h : p0 st K) : ∃ x, keepSt kp0 st = c0 x ∧ K x := by
  obtain ⟨a1, h0, h⟩ := gInt_elim h
  obtain ⟨a2, h1, h⟩ := gSl_elim h
  obtain ⟨a3, h2, h⟩ := gInt_elim h
  obtain ⟨a4, h3, h⟩ := gInt_elim h
  refine ⟨_, ?_, h⟩
  simp only [keepSt, kp0, List.map, h0, h1, h2, h3]
  rfl
def b0 (rec kx : L0 → Prop) (kr : R → Prop) (x : L0) : Prop :=
  (bif (decide (x.t7 < x.t6)) then (oget (getI x.t5 x.t7) fun v1 => (rec ⟨(ior .u32 x.m v1), x.t5, x.t6, (IntKind.i64.wrap (x.t7 + 1))⟩)) else (kx ⟨x.m, x.t5, x.t6, x.t7⟩))
def lt : Nat → Option LSpec
  | 0 => some (mkLoop 0 kp0 kR p0 c0 cR b0)
  | _ => none
def F (l : (List Int)) (K : Int → Prop) : Prop :=
  (∃ n, loopB b0 n (fun x2 => (K x2.m)) (fun _ => False) ⟨0, l, (l.length : Int), 0⟩)
noncomputable def en : Entry := mkEntry A C fun x => F x.1
theorem eqv (l : (List Int)) (K : Int → Prop) : apure E tab lt 4 97 [enc (.slice (.int .u32)) l] (ansK C K) = F l K := by kernel_rfl
theorem l0v (R : St → Prop) (Kx : Nat → St → Prop) (Kr : St → Prop) (x : L0) : acode E tab (afun E tab 4) 16 lt ((loopsIn E.P 97).getD 0 (0, .skip)).2 0 (fun s => R (keepSt kp0 s)) (fun j s => Kx j (keepSt kp0 s)) (fun s => Kr (keepSt kR s)) (c0 x) = b0 (fun x => R (c0 x)) (fun x => Kx 0 (c0 x)) (fun r => Kr (cR r)) x := by kernel_rfl
theorem l0_ok : LSound E tab (afun E tab 4) 16 lt 0 ((loopsIn E.P 97).getD 0 (0, .skip)).2 (mkLoop 0 kp0 kR p0 c0 cR b0) := mkLoop_sound (by decide) (by decide) p0_ok (fun R Kx Kr x => l0v  R Kx Kr x)
theorem loops : LoopsOk E tab lt 4 97 := loops_of (nt := 16) (ids := [0]) (by kernel_rfl) (by kernel_rfl) (by
  intro k i hk l hl
  match k, hk with
  | 0, hk => cases hk; cases hl; exact l0_ok
  | _ + 1, hk => exact absurd hk (by simp))
theorem det (l : (List Int)) : Det (F l) := by
  unfold F
  repeat' with_reducible first | exact det_ret _ | exact det_false | refine det_cond _ ?_ ?_ | refine det_oget _ (fun _ => ?_) | refine det_loop (fun _ => ?_) (fun _ => ?_) (fun _ => ?_) _ | unfold b0
theorem edet (a : List AV) : Det (en a) := mkEntry_det (fun x : Dens A => det x.1) a
theorem ground : Ground E tab := ⟨num, mixed, (tab_nil _), clone, dtab_nil, stab⟩
theorem sound : EntrySound E 97 en := mkSound ground loops (by kernel_rfl) (fun (x : Dens A) K => eqv  x.1 K)
end q91
namespace q92
abbrev A : List Ty := [(.st 8), (.int .u32)]
abbrev C := (cTwo (.st 8) (.int .i64))
abbrev T : Type := Store → Int → ((Store × Int) → Prop) → Prop
noncomputable def tv (f0 : q91.T) (f1 : q77.T) : Tab := [(97, mkEntry q91.A q91.C fun x => f0 x.1), (73, mkEntry q77.A q77.C fun x => f1 x.1 x.2.1)]
noncomputable def tab : Tab := tv q91.F q77.F
def FV (f0 : q91.T) (f1 : q77.T) (s : Store) (m : Int) (K : (Store × Int) → Prop) : Prop :=
  (f0 ([s.mask, m] : List Int) fun r1 => (bif (r1 == s.mask) then (K (s, 0)) else (f1 s.disk r1 fun r2 => (bif (r2.2 == 0) then (K ((⟨r2.1, s.sup, r1⟩ : Store), r2.2)) else (K ((⟨r2.1, s.sup, s.mask⟩ : Store), r2.2))))))
def F (s : Store) (m : Int) (K : (Store × Int) → Prop) : Prop := FV q91.F q77.F s m K
noncomputable def en : Entry := mkEntry A C fun x => F x.1 x.2.1
theorem eqv (f0 : q91.T) (f1 : q77.T) (s : Store) (m : Int) (K : (Store × Int) → Prop) : apure E (tv f0 f1) (fun _ => none) 4 67 [enc (.st 8) s, enc (.int .u32) m] (ansK C K) = FV f0 f1 s m K := by kernel_rfl
theorem loops : LoopsOk E tab (fun _ => none) 4 67 := loops_none _ _ _ _
theorem det (s : Store) (m : Int) : Det (F s m) := by
  unfold F FV
  repeat' with_reducible first | exact det_ret _ | refine det_cond _ ?_ ?_ | refine det_bind (q91.det _) (fun _ => ?_) | refine det_bind (q77.det _ _) (fun _ => ?_)
theorem edet (a : List AV) : Det (en a) := mkEntry_det (fun x : Dens A => det x.1 x.2.1) a
theorem ground : Ground E tab := ⟨num, mixed, (tab_cons q91.sound (tab_cons q77.sound (tab_nil _))), clone, (dtab_cons q91.edet (dtab_cons q77.edet dtab_nil)), stab⟩
theorem sound : EntrySound E 67 en := mkSound ground loops (by kernel_rfl) (fun (x : Dens A) K => eqv q91.F q77.F x.1 x.2.1 K)
end q92
namespace q93
abbrev A : List Ty := [(.slice .str), (.slice .str)]
abbrev C := (cTy .bool)
abbrev T : Type := (List Str) → (List Str) → (Bool → Prop) → Prop
noncomputable def tab : Tab := []
structure R where
  t4 : Bool
def cR (x : R) : St := { fr := lookL .top [(4, (.bool x.t4))], hs := { hp := lookL .dead [], hn := 0 } }
def kR : Keep := { ks := [(4, none)], bs := [], hn := 0 }
structure L0 where
  s1 : (List Str)
  s2 : (List Str)
  t12 : Int
  t13 : Int
def c0 (x : L0) : St := { fr := lookL .top [(0, (.sl .any .str x.s1)), (1, (.sl .any .str x.s2)), (12, (.int .i64 x.t12)), (13, (.int .i64 x.t13))], hs := { hp := lookL .dead [], hn := 0 } }
def kp0 : Keep := { ks := [(0, none), (1, none), (12, none), (13, none)], bs := [], hn := 0 }
def p0 (st : St) (K : L0 → Prop) : Prop := gSl .any .str (st.fr 0) fun a1 => gSl .any .str (st.fr 1) fun a2 => gInt .i64 (st.fr 12) fun a3 => gInt .i64 (st.fr 13) fun a4 => K ⟨a1, a2, a3, a4⟩
set_option maxHeartbeats 4000000 in
theorem p0_ok (st : St) (K : L0 → Prop) (h : p0 st K) : ∃ x, keepSt kp0 st = c0 x ∧ K x := by
  obtain ⟨a1, h0, h⟩ := gSl_elim h
  obtain ⟨a2, h1, h⟩ := gSl_elim h
  obtain ⟨a3, h2, h⟩ := gInt_elim h
  obtain ⟨a4, h3, h⟩ := gInt_elim h
  refine ⟨_, ?_, h⟩
  simp only [keepSt, kp0, List.map, h0, h1, h2, h3]
  rfl
def b0 (rec kx : L0 → Prop) (kr : R → Prop) (x : L0) : Prop :=
  (bif (decide (x.t13 < x.t12)) then (oget (getI x.s1 x.t13) fun v1 => (oget (getI x.s2 x.t13) fun v2 => (bif (!(v1 == v2)) then (kr ⟨false⟩) else (rec ⟨x.s1, x.s2, x.t12, (IntKind.i64.wrap (x.t13 + 1))⟩)))) else (kx ⟨x.s1, x.s2, x.t12, x.t13⟩))
def lt : Nat → Option LSpec
  | 0 => some (mkLoop 0 kp0 kR p0 c0 cR b0)
  | _ => none
def F (s1 : (List Str)) (s2 : (List Str)) (K : Bool → Prop) : Prop :=
  (bif ((s1.length : Int) != (s2.length : Int)) then (K false) else (∃ n, loopB b0 n (fun x3 => (K true)) (fun r4 => (K r4.t4)) ⟨s1, s2, (s1.length : Int), 0⟩))
noncomputable def en : Entry := mkEntry A C fun x => F x.1 x.2.1
theorem eqv (s1 : (List Str)) (s2 : (List Str)) (K : Bool → Prop) : apure E tab lt 4 133 [enc (.slice .str) s1, enc (.slice .str) s2] (ansK C K) = F s1 s2 K := by kernel_rfl
theorem l0v (R : St → Prop) (Kx : Nat → St → Prop) (Kr : St → Prop) (x : L0) : acode E tab (afun E tab 4) 26 lt ((loopsIn E.P 133).getD 0 (0, .skip)).2 0 (fun s => R (keepSt kp0 s)) (fun j s => Kx j (keepSt kp0 s)) (fun s => Kr (keepSt kR s)) (c0 x) = b0 (fun x => R (c0 x)) (fun x => Kx 0 (c0 x)) (fun r => Kr (cR r)) x := by kernel_rfl
theorem l0_ok : LSound E tab (afun E tab 4) 26 lt 0 ((loopsIn E.P 133).getD 0 (0, .skip)).2 (mkLoop 0 kp0 kR p0 c0 cR b0) := mkLoop_sound (by decide) (by decide) p0_ok (fun R Kx Kr x => l0v  R Kx Kr x)
theorem loops : LoopsOk E tab lt 4 133 := loops_of (nt := 26) (ids := [0]) (by kernel_rfl) (by kernel_rfl) (by
  intro k i hk l hl
  match k, hk with
  | 0, hk => cases hk; cases hl; exact l0_ok
  | _ + 1, hk => exact absurd hk (by simp))
theorem det (s1 : (List Str)) (s2 : (List Str)) : Det (F s1 s2) := by
  unfold F
  repeat' with_reducible first | exact det_ret _ | refine det_cond _ ?_ ?_ | refine det_oget _ (fun _ => ?_) | refine det_loop (fun _ => ?_) (fun _ => ?_) (fun _ => ?_) _ | unfold b0
theorem edet (a : List AV) : Det (en a) := mkEntry_det (fun x : Dens A => det x.1 x.2.1) a
theorem ground : Ground E tab := ⟨num, mixed, (tab_nil _), clone, dtab_nil, stab⟩
theorem sound : EntrySound E 133 en := mkSound ground loops (by kernel_rfl) (fun (x : Dens A) K => eqv  x.1 x.2.1 K)
end q93
namespace q94
abbrev A : List Ty := [(.slice (.st 0)), (.slice (.st 0))]
abbrev C := (cTy .bool)
abbrev T : Type := (List Write) → (List Write) → (Bool → Prop) → Prop
noncomputable def tab : Tab := []
structure R where
  t4 : Bool
def cR (x : R) : St := { fr := lookL .top [(4, (.bool x.t4))], hs := { hp := lookL .dead [], hn := 0 } }
def kR : Keep := { ks := [(4, none)], bs := [], hn := 0 }
structure L0 where
  s1 : (List Write)
  s2 : (List Write)
  t12 : Int
  t13 : Int
def c0 (x : L0) : St := { fr := lookL .top [(0, (.sl .any (.st 0) x.s1)), (1, (.sl .any (.st 0) x.s2)), (12, (.int .i64 x.t12)), (13, (.int .i64 x.t13))], hs := { hp := lookL .dead [], hn := 0 } }
def kp0 : Keep := { ks := [(0, none), (1, none), (12, none), (13, none)], bs := [], hn := 0 }
def p0 (st : St) (K : L0 → Prop) : Prop := gSl .any (.st 0) (st.fr 0) fun a1 => gSl .any (.st 0) (st.fr 1) fun a2 => gInt .i64 (st.fr 12) fun a3 => gInt .i64 (st.fr 13) fun a4 => K ⟨a1, a2, a3, a4⟩
set_option maxHeartbeats 4000000 in
theorem p0_ok (st : St) (K : L0 → Prop) (h : p0 st K) : ∃ x, keepSt kp0 st = c0 x ∧ K x := by
  obtain ⟨a1, h0, h⟩ := gSl_elim h
  obtain ⟨a2, h1, h⟩ := gSl_elim h
  obtain ⟨a3, h2, h⟩ := gInt_elim h
  obtain ⟨a4, h3, h⟩ := gInt_elim h
  refine ⟨_, ?_, h⟩
  simp only [keepSt, kp0, List.map, h0, h1, h2, h3]
  rfl
def b0 (rec kx : L0 → Prop) (kr : R → Prop) (x : L0) : Prop :=
  (bif (decide (x.t13 < x.t12)) then (oget (getI x.s1 x.t13) fun v1 => (oget (getI x.s2 x.t13) fun v2 => (bif (!((v1.sector == v2.sector) && ((v1.data == v2.data) && true))) then (kr ⟨false⟩) else (rec ⟨x.s1, x.s2, x.t12, (IntKind.i64.wrap (x.t13 + 1))⟩)))) else (kx ⟨x.s1, x.s2, x.t12, x.t13⟩))
def lt : Nat → Option LSpec
  | 0 => some (mkLoop 0 kp0 kR p0 c0 cR b0)
  | _ => none
def F (s1 : (List Write)) (s2 : (List Write)) (K : Bool → Prop) : Prop :=
  (bif ((s1.length : Int) != (s2.length : Int)) then (K false) else (∃ n, loopB b0 n (fun x3 => (K true)) (fun r4 => (K r4.t4)) ⟨s1, s2, (s1.length : Int), 0⟩))
noncomputable def en : Entry := mkEntry A C fun x => F x.1 x.2.1
theorem eqv (s1 : (List Write)) (s2 : (List Write)) (K : Bool → Prop) : apure E tab lt 4 134 [enc (.slice (.st 0)) s1, enc (.slice (.st 0)) s2] (ansK C K) = F s1 s2 K := by kernel_rfl
theorem l0v (R : St → Prop) (Kx : Nat → St → Prop) (Kr : St → Prop) (x : L0) : acode E tab (afun E tab 4) 26 lt ((loopsIn E.P 134).getD 0 (0, .skip)).2 0 (fun s => R (keepSt kp0 s)) (fun j s => Kx j (keepSt kp0 s)) (fun s => Kr (keepSt kR s)) (c0 x) = b0 (fun x => R (c0 x)) (fun x => Kx 0 (c0 x)) (fun r => Kr (cR r)) x := by kernel_rfl
theorem l0_ok : LSound E tab (afun E tab 4) 26 lt 0 ((loopsIn E.P 134).getD 0 (0, .skip)).2 (mkLoop 0 kp0 kR p0 c0 cR b0) := mkLoop_sound (by decide) (by decide) p0_ok (fun R Kx Kr x => l0v  R Kx Kr x)
theorem loops : LoopsOk E tab lt 4 134 := loops_of (nt := 26) (ids := [0]) (by kernel_rfl) (by kernel_rfl) (by
  intro k i hk l hl
  match k, hk with
  | 0, hk => cases hk; cases hl; exact l0_ok
  | _ + 1, hk => exact absurd hk (by simp))
theorem det (s1 : (List Write)) (s2 : (List Write)) : Det (F s1 s2) := by
  unfold F
  repeat' with_reducible first | exact det_ret _ | refine det_cond _ ?_ ?_ | refine det_oget _ (fun _ => ?_) | refine det_loop (fun _ => ?_) (fun _ => ?_) (fun _ => ?_) _ | unfold b0
theorem edet (a : List AV) : Det (en a) := mkEntry_det (fun x : Dens A => det x.1 x.2.1) a
theorem ground : Ground E tab := ⟨num, mixed, (tab_nil _), clone, dtab_nil, stab⟩
theorem sound : EntrySound E 134 en := mkSound ground loops (by kernel_rfl) (fun (x : Dens A) K => eqv  x.1 x.2.1 K)
end q94
namespace q95
abbrev A : List Ty := [(.st 1), (.st 1)]
abbrev C := (cTy .bool)
abbrev T : Type := Disk → Disk → (Bool → Prop) → Prop
noncomputable def tv (f0 : q93.T) (f1 : q94.T) : Tab := [(133, mkEntry q93.A q93.C fun x => f0 x.1 x.2.1), (134, mkEntry q94.A q94.C fun x => f1 x.1 x.2.1)]
noncomputable def tab : Tab := tv q93.F q94.F
def FV (f0 : q93.T) (f1 : q94.T) (a : Disk) (b_1 : Disk) (K : Bool → Prop) : Prop :=
  (f0 a.sure b_1.sure fun r1 => (bif r1 then (f1 a.cache b_1.cache fun r2 => (bif r2 then (bif (a.fuse == b_1.fuse) then (K (a.dead == b_1.dead)) else (K false)) else (K false))) else (K false)))
def F (a : Disk) (b_1 : Disk) (K : Bool → Prop) : Prop := FV q93.F q94.F a b_1 K
noncomputable def en : Entry := mkEntry A C fun x => F x.1 x.2.1
theorem eqv (f0 : q93.T) (f1 : q94.T) (a : Disk) (b_1 : Disk) (K : Bool → Prop) : apure E (tv f0 f1) (fun _ => none) 4 93 [enc (.st 1) a, enc (.st 1) b_1] (ansK C K) = FV f0 f1 a b_1 K := by kernel_rfl
theorem loops : LoopsOk E tab (fun _ => none) 4 93 := loops_none _ _ _ _
theorem det (a : Disk) (b_1 : Disk) : Det (F a b_1) := by
  unfold F FV
  repeat' with_reducible first | exact det_ret _ | refine det_cond _ ?_ ?_ | refine det_bind (q93.det _ _) (fun _ => ?_) | refine det_bind (q94.det _ _) (fun _ => ?_)
theorem edet (a : List AV) : Det (en a) := mkEntry_det (fun x : Dens A => det x.1 x.2.1) a
theorem ground : Ground E tab := ⟨num, mixed, (tab_cons q93.sound (tab_cons q94.sound (tab_nil _))), clone, (dtab_cons q93.edet (dtab_cons q94.edet dtab_nil)), stab⟩
theorem sound : EntrySound E 93 en := mkSound ground loops (by kernel_rfl) (fun (x : Dens A) K => eqv q93.F q94.F x.1 x.2.1 K)
end q95
namespace q96
abbrev A : List Ty := [(.st 8), (.st 8)]
abbrev C := (cTy .bool)
abbrev T : Type := Store → Store → (Bool → Prop) → Prop
noncomputable def tv (f0 : q95.T) : Tab := [(93, mkEntry q95.A q95.C fun x => f0 x.1 x.2.1)]
noncomputable def tab : Tab := tv q95.F
def FV (f0 : q95.T) (a : Store) (b_1 : Store) (K : Bool → Prop) : Prop :=
  (f0 a.disk b_1.disk fun r1 => (bif r1 then (bif ((a.sup.blocks == b_1.sup.blocks) && (((a.sup.vector.current == b_1.sup.vector.current) && ((a.sup.vector.bitmap == b_1.sup.vector.bitmap) && (((a.sup.vector.old0 == b_1.sup.vector.old0) && ((a.sup.vector.old1 == b_1.sup.vector.old1) && true)) && true))) && ((a.sup.inc == b_1.sup.inc) && ((a.sup.pri == b_1.sup.pri) && ((a.sup.dis == b_1.sup.dis) && true))))) then (K (a.mask == b_1.mask)) else (K false)) else (K false)))
def F (a : Store) (b_1 : Store) (K : Bool → Prop) : Prop := FV q95.F a b_1 K
noncomputable def en : Entry := mkEntry A C fun x => F x.1 x.2.1
theorem eqv (f0 : q95.T) (a : Store) (b_1 : Store) (K : Bool → Prop) : apure E (tv f0) (fun _ => none) 4 60 [enc (.st 8) a, enc (.st 8) b_1] (ansK C K) = FV f0 a b_1 K := by kernel_rfl
theorem loops : LoopsOk E tab (fun _ => none) 4 60 := loops_none _ _ _ _
theorem det (a : Store) (b_1 : Store) : Det (F a b_1) := by
  unfold F FV
  repeat' with_reducible first | exact det_ret _ | refine det_cond _ ?_ ?_ | refine det_bind (q95.det _ _) (fun _ => ?_)
theorem edet (a : List AV) : Det (en a) := mkEntry_det (fun x : Dens A => det x.1 x.2.1) a
theorem ground : Ground E tab := ⟨num, mixed, (tab_cons q95.sound (tab_nil _)), clone, (dtab_cons q95.edet dtab_nil), stab⟩
theorem sound : EntrySound E 60 en := mkSound ground loops (by kernel_rfl) (fun (x : Dens A) K => eqv q95.F x.1 x.2.1 K)
end q96
namespace q97
abbrev A : List Ty := []
abbrev C := (cTy .bool)
abbrev T : Type := (Bool → Prop) → Prop
noncomputable def tv (f0 : q54.T) (f1 : q63.T) (f2 : q78.T) (f3 : q80.T) (f4 : q81.T) (f5 : q82.T) (f6 : q83.T) (f7 : q85.T) (f8 : q90.T) (f9 : q92.T) (f10 : q96.T) : Tab := [(26, mkEntry q54.A q54.C fun x => f0 x.1), (29, mkEntry q63.A q63.C fun x => f1 x.1), (27, mkEntry q78.A q78.C fun x => f2 x.1 x.2.1), (65, mkEntry q80.A q80.C fun x => f3 x.1 x.2.1 x.2.2.1), (31, mkEntry q81.A q81.C fun x => f4 x.1), (30, mkEntry q82.A q82.C fun x => f5 x.1 x.2.1), (57, mkEntry q83.A q83.C fun x => f6 x.1 x.2.1), (28, mkEntry q85.A q85.C fun x => f7 x.1 x.2.1), (66, mkEntry q90.A q90.C fun x => f8 x.1 x.2.1), (67, mkEntry q92.A q92.C fun x => f9 x.1 x.2.1), (60, mkEntry q96.A q96.C fun x => f10 x.1 x.2.1)]
noncomputable def tab : Tab := tv q54.F q63.F q78.F q80.F q81.F q82.F q83.F q85.F q90.F q92.F q96.F
def FV (f0 : q54.T) (f1 : q63.T) (f2 : q78.T) (f3 : q80.T) (f4 : q81.T) (f5 : q82.T) (f6 : q83.T) (f7 : q85.T) (f8 : q90.T) (f9 : q92.T) (f10 : q96.T) (K : Bool → Prop) : Prop :=
  (f0 3 fun r1 => (f1 r1.disk fun r2 => (f2 r2.1 2 fun r3 => (f3 r3.1 2 ([97, 98, 99, 100, 101, 102, 103, 104] : Str) fun r4 => (f4 r4.1.disk fun r5 => (f5 r5 ([] : List Bool) fun r6 => (f1 r6 fun r7 => (f6 r7.1 2 fun r8 => (f7 r4.1 2 fun r9 => (f8 r9.1 (⟨3, (⟨8, 0, 0, 0⟩ : Vec), false, false, false⟩ : Super) fun r10 => (f1 (⟨([([] : Str), ([] : Str), ([] : Str)] : List Str), ([] : List Write), 0, false⟩ : Disk) fun r11 => (f2 r2.1 3 fun r12 => (f9 r10.1 5 fun r13 => (bif (r2.2 == 0) then (bif (r3.2 == 0) then (bif (r4.2 == 0) then (bif (r7.2 == 0) then (bif (r8.2 == 0) then (bif (r9.2 == 0) then (bif (r10.2 == 0) then (bif (r11.2 == 2) then (bif (r12.2 == 4) then (bif (r13.2 == 0) then (bif (r7.1.mask == 4) then (bif (r8.1 == ([97, 98, 99, 100, 101, 102, 103, 104] : Str)) then (bif (r9.1.mask == 0) then (bif ((r9.1.disk.cache.length : Int) == 1) then (bif (r10.1.sup.vector.current == 8) then (bif ((r10.1.disk.cache.length : Int) == 0) then (bif (r13.1.mask == 5) then (f10 r2.1 r2.1 fun r14 => (bif r14 then (f10 r2.1 r3.1 fun r15 => (K (!r15))) else (K false))) else (K false)) else (K false)) else (K false)) else (K false)) else (K false)) else (K false)) else (K false)) else (K false)) else (K false)) else (K false)) else (K false)) else (K false)) else (K false)) else (K false)) else (K false)) else (K false)) else (K false)))))))))))))))
def F (K : Bool → Prop) : Prop := FV q54.F q63.F q78.F q80.F q81.F q82.F q83.F q85.F q90.F q92.F q96.F K
noncomputable def en : Entry := mkEntry A C fun _ => F
theorem eqv (f0 : q54.T) (f1 : q63.T) (f2 : q78.T) (f3 : q80.T) (f4 : q81.T) (f5 : q82.T) (f6 : q83.T) (f7 : q85.T) (f8 : q90.T) (f9 : q92.T) (f10 : q96.T) (K : Bool → Prop) : apure E (tv f0 f1 f2 f3 f4 f5 f6 f7 f8 f9 f10) (fun _ => none) 4 25 [] (ansK C K) = FV f0 f1 f2 f3 f4 f5 f6 f7 f8 f9 f10 K := by kernel_rfl
theorem eq (x : Dens A) (K : Bool → Prop) : apure E tab (fun _ => none) 4 25 (encA A x) (ansK C K) = F K := eqv q54.F q63.F q78.F q80.F q81.F q82.F q83.F q85.F q90.F q92.F q96.F K
theorem loops : LoopsOk E tab (fun _ => none) 4 25 := loops_none _ _ _ _
theorem ground : Ground E tab := ⟨num, mixed, (tab_cons q54.sound (tab_cons q63.sound (tab_cons q78.sound (tab_cons q80.sound (tab_cons q81.sound (tab_cons q82.sound (tab_cons q83.sound (tab_cons q85.sound (tab_cons q90.sound (tab_cons q92.sound (tab_cons q96.sound (tab_nil _)))))))))))), clone, (dtab_cons q54.edet (dtab_nd (by kernel_rfl) (dtab_cons q78.edet (dtab_cons q80.edet (dtab_cons q81.edet (dtab_cons q82.edet (dtab_cons q83.edet (dtab_cons q85.edet (dtab_cons q90.edet (dtab_cons q92.edet (dtab_cons q96.edet dtab_nil))))))))))), stab⟩
theorem sound : EntrySound E 25 en := mkSound ground loops (by kernel_rfl) (eq)
end q97
end Gm
