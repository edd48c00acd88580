/- Printed by a program (gen.py): the functions' answers, and that they are so. -/
import Derived.Test.YtfjhdboapcckpaaGreatDoorGdT2
set_option linter.unusedVariables false
set_option maxRecDepth 100000
namespace Gm
open Go Go.Proofs
namespace q98
abbrev A : List Ty := [(.slice (.st 20))]
abbrev C := (cTy .bool)
abbrev T : Type := (List SAct) → (Bool → Prop) → Prop
noncomputable def tab : Tab := []
structure R where
  t2 : Bool
def cR (x : R) : St := { fr := lookL .top [(2, (.bool x.t2))], hs := { hp := lookL .dead [], hn := 0 } }
def kR : Keep := { ks := [(2, none)], bs := [], hn := 0 }
structure L0 where
  l : (List SAct)
  i : Int
def c0 (x : L0) : St := { fr := lookL .top [(0, (.sl .any (.st 20) x.l)), (3, (.int .i64 x.i))], hs := { hp := lookL .dead [], hn := 0 } }
def kp0 : Keep := { ks := [(0, none), (3, none)], bs := [], hn := 0 }
def p0 (st : St) (K : L0 → Prop) : Prop := gSl .any (.st 20) (st.fr 0) fun a1 => gInt .i64 (st.fr 3) fun a2 => K ⟨a1, a2⟩
set_option maxHeartbeats 4000000 in
theorem p0_ok (st : St) (K : L0 → Prop) (h : p0 st K) : ∃ x, keepSt kp0 st = c0 x ∧ K x := by
  obtain ⟨a1, h0, h⟩ := gSl_elim h
  obtain ⟨a2, h1, h⟩ := gInt_elim h
  refine ⟨_, ?_, h⟩
  simp only [keepSt, kp0, List.map, h0, h1]
  rfl
def b0 (rec kx : L0 → Prop) (kr : R → Prop) (x : L0) : Prop :=
  (bif (decide (x.i < (x.l.length : Int))) then (oget (getI x.l x.i) fun v1 => (bif (decide ((v1.data.length : Int) > 100)) then (kr ⟨true⟩) else (rec ⟨x.l, (IntKind.i64.wrap (x.i + 1))⟩))) else (kx ⟨x.l, x.i⟩))
def lt : Nat → Option LSpec
  | 0 => some (mkLoop 0 kp0 kR p0 c0 cR b0)
  | _ => none
def F (l : (List SAct)) (K : Bool → Prop) : Prop :=
  (bif (decide ((l.length : Int) > 40)) then (K true) else (∃ n, loopB b0 n (fun x2 => (K false)) (fun r3 => (K r3.t2)) ⟨l, 0⟩))
noncomputable def en : Entry := mkEntry A C fun x => F x.1
theorem eqv (l : (List SAct)) (K : Bool → Prop) : apure E tab lt 4 32 [enc (.slice (.st 20)) l] (ansK C K) = F l K := by kernel_rfl
theorem eq (x : Dens A) (K : Bool → Prop) : apure E tab lt 4 32 (encA A x) (ansK C K) = F x.1 K := eqv  x.1 K
theorem l0v (R : St → Prop) (Kx : Nat → St → Prop) (Kr : St → Prop) (x : L0) : acode E tab (afun E tab 4) 20 lt ((loopsIn E.P 32).getD 0 (0, .skip)).2 0 (fun s => R (keepSt kp0 s)) (fun j s => Kx j (keepSt kp0 s)) (fun s => Kr (keepSt kR s)) (c0 x) = b0 (fun x => R (c0 x)) (fun x => Kx 0 (c0 x)) (fun r => Kr (cR r)) x := by kernel_rfl
theorem l0_ok : LSound E tab (afun E tab 4) 20 lt 0 ((loopsIn E.P 32).getD 0 (0, .skip)).2 (mkLoop 0 kp0 kR p0 c0 cR b0) := mkLoop_sound (by decide) (by decide) p0_ok (fun R Kx Kr x => l0v  R Kx Kr x)
theorem loops : LoopsOk E tab lt 4 32 := loops_of (nt := 20) (ids := [0]) (by kernel_rfl) (by kernel_rfl) (by
  intro k i hk l hl
  match k, hk with
  | 0, hk => cases hk; cases hl; exact l0_ok
  | _ + 1, hk => exact absurd hk (by simp))
theorem det (l : (List SAct)) : Det (F l) := by
  unfold F
  repeat' with_reducible first | exact det_ret _ | refine det_cond _ ?_ ?_ | refine det_oget _ (fun _ => ?_) | refine det_loop (fun _ => ?_) (fun _ => ?_) (fun _ => ?_) _ | unfold b0
theorem edet (a : List AV) : Det (en a) := mkEntry_det (fun x : Dens A => det x.1) a
theorem ground : Ground E tab := ⟨num, mixed, (tab_nil _), clone, dtab_nil, stab⟩
theorem sound : EntrySound E 32 en := mkSound ground loops (by kernel_rfl) (eq)
end q98
namespace q99
abbrev A : List Ty := [(.st 1), (.int .i64)]
abbrev C := (cTy (.st 1))
abbrev T : Type := Disk → Int → (Disk → Prop) → Prop
noncomputable def tab : Tab := []
def F (d : Disk) (n_1 : Int) (K : Disk → Prop) : Prop :=
  (K (⟨d.sure, d.cache, (maxI2 n_1 0), d.dead⟩ : Disk))
noncomputable def en : Entry := mkEntry A C fun x => F x.1 x.2.1
theorem eqv (d : Disk) (n_1 : Int) (K : Disk → Prop) : apure E tab (fun _ => none) 4 33 [enc (.st 1) d, enc (.int .i64) n_1] (ansK C K) = F d n_1 K := by kernel_rfl
theorem loops : LoopsOk E tab (fun _ => none) 4 33 := loops_none _ _ _ _
theorem det (d : Disk) (n_1 : Int) : Det (F d n_1) := by
  unfold F
  repeat' with_reducible first | exact det_ret _
theorem edet (a : List AV) : Det (en a) := mkEntry_det (fun x : Dens A => det x.1 x.2.1) a
theorem ground : Ground E tab := ⟨num, mixed, (tab_nil _), clone, dtab_nil, stab⟩
theorem sound : EntrySound E 33 en := mkSound ground loops (by kernel_rfl) (fun (x : Dens A) K => eqv  x.1 x.2.1 K)
end q99
namespace q100
abbrev A : List Ty := [(.st 8), (.st 20)]
abbrev C := (cThree (.st 8) .str (.int .i64))
abbrev T : Type := Store → SAct → ((Store × Str × Int) → Prop) → Prop
noncomputable def tv (f0 : q78.T) (f1 : q85.T) (f2 : q92.T) (f3 : q80.T) (f4 : q90.T) (f5 : q83.T) : Tab := [(27, mkEntry q78.A q78.C fun x => f0 x.1 x.2.1), (28, mkEntry q85.A q85.C fun x => f1 x.1 x.2.1), (67, mkEntry q92.A q92.C fun x => f2 x.1 x.2.1), (65, mkEntry q80.A q80.C fun x => f3 x.1 x.2.1 x.2.2.1), (66, mkEntry q90.A q90.C fun x => f4 x.1 x.2.1), (57, mkEntry q83.A q83.C fun x => f5 x.1 x.2.1)]
noncomputable def tab : Tab := tv q78.F q85.F q92.F q80.F q90.F q83.F
def FV (f0 : q78.T) (f1 : q85.T) (f2 : q92.T) (f3 : q80.T) (f4 : q90.T) (f5 : q83.T) (s : Store) (a : SAct) (K : (Store × Str × Int) → Prop) : Prop :=
  (bif (a.kind == 0) then (f0 s a.block fun r1 => (K (r1.1, ([] : Str), r1.2))) else (bif (a.kind == 1) then (f1 s a.block fun r2 => (K (r2.1, ([] : Str), r2.2))) else (bif (a.kind == 2) then (f2 s a.mask fun r3 => (K (r3.1, ([] : Str), r3.2))) else (bif (a.kind == 3) then (f3 s a.block a.data fun r4 => (K (r4.1, ([] : Str), r4.2))) else (bif (a.kind == 4) then (f4 s a.sup fun r5 => (K (r5.1, ([] : Str), r5.2))) else (f5 s a.block fun r6 => (K (s, r6.1, r6.2))))))))
def F (s : Store) (a : SAct) (K : (Store × Str × Int) → Prop) : Prop := FV q78.F q85.F q92.F q80.F q90.F q83.F s a K
noncomputable def en : Entry := mkEntry A C fun x => F x.1 x.2.1
theorem eqv (f0 : q78.T) (f1 : q85.T) (f2 : q92.T) (f3 : q80.T) (f4 : q90.T) (f5 : q83.T) (s : Store) (a : SAct) (K : (Store × Str × Int) → Prop) : apure E (tv f0 f1 f2 f3 f4 f5) (fun _ => none) 4 34 [enc (.st 8) s, enc (.st 20) a] (ansK C K) = FV f0 f1 f2 f3 f4 f5 s a K := by kernel_rfl
theorem eq (x : Dens A) (K : (Store × Str × Int) → Prop) : apure E tab (fun _ => none) 4 34 (encA A x) (ansK C K) = F x.1 x.2.1 K := eqv q78.F q85.F q92.F q80.F q90.F q83.F x.1 x.2.1 K
theorem loops : LoopsOk E tab (fun _ => none) 4 34 := loops_none _ _ _ _
theorem det (s : Store) (a : SAct) : Det (F s a) := by
  unfold F FV
  repeat' with_reducible first | exact det_ret _ | refine det_cond _ ?_ ?_ | refine det_bind (q78.det _ _) (fun _ => ?_) | refine det_bind (q85.det _ _) (fun _ => ?_) | refine det_bind (q92.det _ _) (fun _ => ?_) | refine det_bind (q80.det _ _ _) (fun _ => ?_) | refine det_bind (q90.det _ _) (fun _ => ?_) | refine det_bind (q83.det _ _) (fun _ => ?_)
theorem edet (a : List AV) : Det (en a) := mkEntry_det (fun x : Dens A => det x.1 x.2.1) a
theorem ground : Ground E tab := ⟨num, mixed, (tab_cons q78.sound (tab_cons q85.sound (tab_cons q92.sound (tab_cons q80.sound (tab_cons q90.sound (tab_cons q83.sound (tab_nil _))))))), clone, (dtab_cons q78.edet (dtab_cons q85.edet (dtab_cons q92.edet (dtab_cons q80.edet (dtab_cons q90.edet (dtab_cons q83.edet dtab_nil)))))), stab⟩
theorem sound : EntrySound E 34 en := mkSound ground loops (by kernel_rfl) (eq)
end q100
namespace q101
abbrev A : List Ty := [(.int .u32), (.slice (.int .i64))]
abbrev C := (cTy (.int .u32))
abbrev T : Type := Int → (List Int) → (Int → Prop) → Prop
noncomputable def tv (f0 : q47.T) (f1 : q46.T) : Tab := [(161, mkEntry q47.A q47.C fun x => f0 x.1 x.2.1), (162, mkEntry q46.A q46.C fun x => f1 x.1)]
noncomputable def tab : Tab := tv q47.F q46.F
structure R where
def cR (_ : R) : St := { fr := fun _ => .top, hs := hs0 }
def kR : Keep := { ks := [], bs := [], hn := 0 }
structure L0 where
  m : Int
  l : (List Int)
  k : Int
def c0 (x : L0) : St := { fr := lookL .top [(0, (.int .u32 x.m)), (1, (.sl .any (.int .i64) x.l)), (5, (.int .i64 x.k))], hs := { hp := lookL .dead [], hn := 0 } }
def kp0 : Keep := { ks := [(0, none), (1, none), (5, none)], bs := [], hn := 0 }
def p0 (st : St) (K : L0 → Prop) : Prop := gInt .u32 (st.fr 0) fun a1 => gSl .any (.int .i64) (st.fr 1) fun a2 => gInt .i64 (st.fr 5) fun a3 => K ⟨a1, a2, a3⟩
set_option maxHeartbeats 4000000 in
theorem p0_ok (st : St) (K : L0 → Prop) (h : p0 st K) : ∃ x, keepSt kp0 st = c0 x ∧ K x := by
  obtain ⟨a1, h0, h⟩ := gInt_elim h
  obtain ⟨a2, h1, h⟩ := gSl_elim h
  obtain ⟨a3, h2, h⟩ := gInt_elim h
  refine ⟨_, ?_, h⟩
  simp only [keepSt, kp0, List.map, h0, h1, h2]
  rfl
def b0V (f0 : q47.T) (f1 : q46.T) (rec kx : L0 → Prop) (kr : R → Prop) (x : L0) : Prop :=
  (bif (decide (x.k < (x.l.length : Int))) then (oget (getI x.l x.k) fun v1 => (bif (decide (v1 ≥ 0)) then (oget (getI x.l x.k) fun v2 => (bif (decide (v2 < 32)) then (oget (getI x.l x.k) fun v3 => (f0 x.m v3 fun r4 => (bif (!r4) then (oget (getI x.l x.k) fun v5 => (f1 v5 fun r6 => (rec ⟨(IntKind.u32.wrap (x.m + r6)), x.l, (IntKind.i64.wrap (x.k + 1))⟩))) else (rec ⟨x.m, x.l, (IntKind.i64.wrap (x.k + 1))⟩)))) else (rec ⟨x.m, x.l, (IntKind.i64.wrap (x.k + 1))⟩))) else (rec ⟨x.m, x.l, (IntKind.i64.wrap (x.k + 1))⟩))) else (kx ⟨x.m, x.l, x.k⟩))
def ltV (f0 : q47.T) (f1 : q46.T) : Nat → Option LSpec
  | 0 => some (mkLoop 0 kp0 kR p0 c0 cR (b0V f0 f1))
  | _ => none
def lt : Nat → Option LSpec := ltV q47.F q46.F
def FV (f0 : q47.T) (f1 : q46.T) (m : Int) (l : (List Int)) (K : Int → Prop) : Prop :=
  (∃ n, loopB (b0V f0 f1) n (fun x7 => (K x7.m)) (fun _ => False) ⟨m, l, 0⟩)
def F (m : Int) (l : (List Int)) (K : Int → Prop) : Prop := FV q47.F q46.F m l K
noncomputable def en : Entry := mkEntry A C fun x => F x.1 x.2.1
theorem eqv (f0 : q47.T) (f1 : q46.T) (m : Int) (l : (List Int)) (K : Int → Prop) : apure E (tv f0 f1) (ltV f0 f1) 4 117 [enc (.int .u32) m, enc (.slice (.int .i64)) l] (ansK C K) = FV f0 f1 m l K := by kernel_rfl
theorem l0v (f0 : q47.T) (f1 : q46.T) (R : St → Prop) (Kx : Nat → St → Prop) (Kr : St → Prop) (x : L0) : acode E (tv f0 f1) (afun E (tv f0 f1) 4) 41 (ltV f0 f1) ((loopsIn E.P 117).getD 0 (0, .skip)).2 0 (fun s => R (keepSt kp0 s)) (fun j s => Kx j (keepSt kp0 s)) (fun s => Kr (keepSt kR s)) (c0 x) = b0V f0 f1 (fun x => R (c0 x)) (fun x => Kx 0 (c0 x)) (fun r => Kr (cR r)) x := by kernel_rfl
theorem l0_ok : LSound E tab (afun E tab 4) 41 lt 0 ((loopsIn E.P 117).getD 0 (0, .skip)).2 (mkLoop 0 kp0 kR p0 c0 cR (b0V q47.F q46.F)) := mkLoop_sound (by decide) (by decide) p0_ok (fun R Kx Kr x => l0v q47.F q46.F R Kx Kr x)
theorem loops : LoopsOk E tab lt 4 117 := loops_of (nt := 41) (ids := [0]) (by kernel_rfl) (by kernel_rfl) (by
  intro k i hk l hl
  match k, hk with
  | 0, hk => cases hk; cases hl; exact l0_ok
  | _ + 1, hk => exact absurd hk (by simp))
theorem det (m : Int) (l : (List Int)) : Det (F m l) := by
  unfold F FV
  repeat' with_reducible first | exact det_ret _ | exact det_false | refine det_cond _ ?_ ?_ | refine det_oget _ (fun _ => ?_) | refine det_bind (q47.det _ _) (fun _ => ?_) | refine det_bind (q46.det _) (fun _ => ?_) | refine det_loop (fun _ => ?_) (fun _ => ?_) (fun _ => ?_) _ | unfold b0V
theorem edet (a : List AV) : Det (en a) := mkEntry_det (fun x : Dens A => det x.1 x.2.1) a
theorem ground : Ground E tab := ⟨num, mixed, (tab_cons q47.sound (tab_cons q46.sound (tab_nil _))), clone, (dtab_cons q47.edet (dtab_cons q46.edet dtab_nil)), stab⟩
theorem sound : EntrySound E 117 en := mkSound ground loops (by kernel_rfl) (fun (x : Dens A) K => eqv q47.F q46.F x.1 x.2.1 K)
end q101
namespace q102
abbrev A : List Ty := [(.st 1)]
abbrev C := (cTy (.st 1))
abbrev T : Type := Disk → (Disk → Prop) → Prop
noncomputable def tab : Tab := []
def F (d : Disk) (K : Disk → Prop) : Prop :=
  (bif (d.fuse == 1) then (bif (decide (d.fuse > 0)) then (K (⟨d.sure, d.cache, (IntKind.i64.wrap (d.fuse - 1)), true⟩ : Disk)) else (K (⟨d.sure, d.cache, d.fuse, true⟩ : Disk))) else (bif (decide (d.fuse > 0)) then (K (⟨d.sure, d.cache, (IntKind.i64.wrap (d.fuse - 1)), d.dead⟩ : Disk)) else (K d)))
noncomputable def en : Entry := mkEntry A C fun x => F x.1
theorem eqv (d : Disk) (K : Disk → Prop) : apure E tab (fun _ => none) 4 198 [enc (.st 1) d] (ansK C K) = F d K := by kernel_rfl
theorem loops : LoopsOk E tab (fun _ => none) 4 198 := loops_none _ _ _ _
theorem det (d : Disk) : Det (F d) := by
  unfold F
  repeat' with_reducible first | exact det_ret _ | refine det_cond _ ?_ ?_
theorem edet (a : List AV) : Det (en a) := mkEntry_det (fun x : Dens A => det x.1) a
theorem ground : Ground E tab := ⟨num, mixed, (tab_nil _), clone, dtab_nil, stab⟩
theorem sound : EntrySound E 198 en := mkSound ground loops (by kernel_rfl) (fun (x : Dens A) K => eqv  x.1 K)
end q102
namespace q103
abbrev A : List Ty := [(.st 1), (.int .i64), .str]
abbrev C := (cTwo (.st 1) (.int .i64))
abbrev T : Type := Disk → Int → Str → ((Disk × Int) → Prop) → Prop
noncomputable def tv (f0 : q102.T) : Tab := [(198, mkEntry q102.A q102.C fun x => f0 x.1)]
noncomputable def tab : Tab := tv q102.F
def FV (f0 : q102.T) (d : Disk) (i : Int) (data : Str) (K : (Disk × Int) → Prop) : Prop :=
  (bif d.dead then (K (d, 6)) else (bif (decide (i < 0)) then (K (d, 4)) else (bif (decide (i ≥ (d.sure.length : Int))) then (K (d, 4)) else (bif (decide ((data.length : Int) > 64)) then (K (d, 5)) else (f0 d fun r1 => (bif r1.dead then (K (r1, 6)) else (bif (decide (r1.cache.length * 24 ≤ room)) then (bif (decide ((r1.cache.length + ([(⟨i, data⟩ : Write)] : List Write).length) * 24 ≤ room)) then (K ((⟨r1.sure, (r1.cache ++ ([(⟨i, data⟩ : Write)] : List Write)), r1.fuse, r1.dead⟩ : Disk), 0)) else False) else False)))))))
def F (d : Disk) (i : Int) (data : Str) (K : (Disk × Int) → Prop) : Prop := FV q102.F d i data K
noncomputable def en : Entry := mkEntry A C fun x => F x.1 x.2.1 x.2.2.1
theorem eqv (f0 : q102.T) (d : Disk) (i : Int) (data : Str) (K : (Disk × Int) → Prop) : apure E (tv f0) (fun _ => none) 4 163 [enc (.st 1) d, enc (.int .i64) i, enc .str data] (ansK C K) = FV f0 d i data K := by kernel_rfl
theorem loops : LoopsOk E tab (fun _ => none) 4 163 := loops_none _ _ _ _
theorem det (d : Disk) (i : Int) (data : Str) : Det (F d i data) := by
  unfold F FV
  repeat' with_reducible first | exact det_ret _ | exact det_false | refine det_cond _ ?_ ?_ | refine det_bind (q102.det _) (fun _ => ?_)
theorem edet (a : List AV) : Det (en a) := mkEntry_det (fun x : Dens A => det x.1 x.2.1 x.2.2.1) a
theorem ground : Ground E tab := ⟨num, mixed, (tab_cons q102.sound (tab_nil _)), clone, (dtab_cons q102.edet dtab_nil), stab⟩
theorem sound : EntrySound E 163 en := mkSound ground loops (by kernel_rfl) (fun (x : Dens A) K => eqv q102.F x.1 x.2.1 x.2.2.1 K)
end q103
namespace q104
abbrev A : List Ty := [(.st 1), (.int .u32)]
abbrev C := (cTwo (.st 1) (.int .i64))
abbrev T : Type := Disk → Int → ((Disk × Int) → Prop) → Prop
noncomputable def tv (f0 : q48.T) (f1 : q30.T) (f2 : q31.T) (f3 : q103.T) : Tab := [(145, mkEntry q48.A q48.C fun x => f0 x.1 x.2.1), (100, mkEntry q30.A q30.C fun x => f1 x.1), (99, mkEntry q31.A q31.C fun x => f2 x.1), (163, mkEntry q103.A q103.C fun x => f3 x.1 x.2.1 x.2.2.1)]
noncomputable def tab : Tab := tv q48.F q30.F q31.F q103.F
def FV (f0 : q48.T) (f1 : q30.T) (f2 : q31.T) (f3 : q103.T) (d : Disk) (m : Int) (K : (Disk × Int) → Prop) : Prop :=
  (f0 m (IntKind.i64.wrap ((d.sure.length : Int) - 2)) fun r1 => (bif (!r1) then (K (d, 1)) else (f1 m fun r2 => (f2 r2 fun r3 => (f3 d 1 r3 fun r4 => (K (r4.1, r4.2)))))))
def F (d : Disk) (m : Int) (K : (Disk × Int) → Prop) : Prop := FV q48.F q30.F q31.F q103.F d m K
noncomputable def en : Entry := mkEntry A C fun x => F x.1 x.2.1
theorem eqv (f0 : q48.T) (f1 : q30.T) (f2 : q31.T) (f3 : q103.T) (d : Disk) (m : Int) (K : (Disk × Int) → Prop) : apure E (tv f0 f1 f2 f3) (fun _ => none) 4 119 [enc (.st 1) d, enc (.int .u32) m] (ansK C K) = FV f0 f1 f2 f3 d m K := by kernel_rfl
theorem loops : LoopsOk E tab (fun _ => none) 4 119 := loops_none _ _ _ _
theorem det (d : Disk) (m : Int) : Det (F d m) := by
  unfold F FV
  repeat' with_reducible first | exact det_ret _ | refine det_cond _ ?_ ?_ | refine det_bind (q48.det _ _) (fun _ => ?_) | refine det_bind (q30.det _) (fun _ => ?_) | refine det_bind (q31.det _) (fun _ => ?_) | refine det_bind (q103.det _ _ _) (fun _ => ?_)
theorem edet (a : List AV) : Det (en a) := mkEntry_det (fun x : Dens A => det x.1 x.2.1) a
theorem ground : Ground E tab := ⟨num, mixed, (tab_cons q48.sound (tab_cons q30.sound (tab_cons q31.sound (tab_cons q103.sound (tab_nil _))))), clone, (dtab_cons q48.edet (dtab_cons q30.edet (dtab_cons q31.edet (dtab_cons q103.edet dtab_nil)))), stab⟩
theorem sound : EntrySound E 119 en := mkSound ground loops (by kernel_rfl) (fun (x : Dens A) K => eqv q48.F q30.F q31.F q103.F x.1 x.2.1 K)
end q104
namespace q105
abbrev A : List Ty := [(.st 1)]
abbrev C := (cTwo (.st 1) (.int .i64))
abbrev T : Type := Disk → ((Disk × Int) → Prop) → Prop
noncomputable def tv (f0 : q102.T) (f1 : q35.T) : Tab := [(198, mkEntry q102.A q102.C fun x => f0 x.1), (180, mkEntry q35.A q35.C fun x => f1 x.1 x.2.1)]
noncomputable def tab : Tab := tv q102.F q35.F
structure R where
def cR (_ : R) : St := { fr := fun _ => .top, hs := hs0 }
def kR : Keep := { ks := [], bs := [], hn := 0 }
structure L0 where
  sure : (List Str)
  i : Int
  m0 : Disk
  m1 : Disk
def c0 (x : L0) : St := { fr := lookL .top [(1, (.ptr 0 0)), (2, (.ptr 1 0)), (4, (.slr 2)), (5, (.int .i64 x.i))], hs := { hp := lookL .dead [(2, (.row false .str x.sure)), (0, (.cells (encS 1 x.m0))), (1, (.cells (encS 1 x.m1)))], hn := 3 } }
def kp0 : Keep := { ks := [(1, none), (2, none), (4, some 2), (5, none)], bs := [0, 1], hn := 3, ts := [(0, 1), (1, 1)] }
def p0 (st : St) (K : L0 → Prop) : Prop := gHomes kp0 st <| gPtr 0 0 (st.fr 1) <| gPtr 1 0 (st.fr 2) <| gSlr (st.fr 4) fun c1 => gRow false .str (st.hs.hp c1) fun a2 => gInt .i64 (st.fr 5) fun a3 => gBlkS 1 (st.hs.hp 0) fun a4 => gBlkS 1 (st.hs.hp 1) fun a5 => K ⟨a2, a3, a4, a5⟩
set_option maxHeartbeats 4000000 in
theorem p0_ok (st : St) (K : L0 → Prop) (h : p0 st K) : ∃ x, keepSt kp0 st = c0 x ∧ K x := by
  obtain ⟨h0, h⟩ := gHomes_elim h
  obtain ⟨h1, h⟩ := gPtr_elim h
  obtain ⟨h2, h⟩ := gPtr_elim h
  obtain ⟨c1, h3, h⟩ := gSlr_elim h
  obtain ⟨a2, h4, h⟩ := gRow_elim h
  obtain ⟨a3, h5, h⟩ := gInt_elim h
  obtain ⟨z6, a4, h6, y6, h⟩ := gBlkS_elim h
  have q6 : ∀ ok, keptB kp0 ok 0 (.cells z6) = .cells (encS 1 a4) := fun _ => y6
  simp only [kp0] at q6
  obtain ⟨z7, a5, h7, y7, h⟩ := gBlkS_elim h
  have q7 : ∀ ok, keptB kp0 ok 1 (.cells z7) = .cells (encS 1 a5) := fun _ => y7
  simp only [kp0] at q7
  refine ⟨_, ?_, h⟩
  simp only [keepSt, h0]
  simp only [kp0, List.map, List.filterMap, homeOf, h1, h2, h3, h4, h5, h6, h7, q6, q7, hmOf, List.append_nil, cond_true]
  rfl
def b0V (f0 : q102.T) (f1 : q35.T) (rec kx : L0 → Prop) (kr : R → Prop) (x : L0) : Prop :=
  (bif (decide (x.i < (x.m0.sure.length : Int))) then (f1 x.m0 x.i fun r2 => (bif (decide ((x.sure.length + ([r2] : List Str).length) * 16 ≤ room)) then (rec ⟨(x.sure ++ ([r2] : List Str)), (IntKind.i64.wrap (x.i + 1)), x.m0, x.m1⟩) else False)) else (kx ⟨x.sure, x.i, x.m0, x.m1⟩))
def ltV (f0 : q102.T) (f1 : q35.T) : Nat → Option LSpec
  | 0 => some (mkLoop 0 kp0 kR p0 c0 cR (b0V f0 f1))
  | _ => none
def lt : Nat → Option LSpec := ltV q102.F q35.F
def FV (f0 : q102.T) (f1 : q35.T) (d : Disk) (K : (Disk × Int) → Prop) : Prop :=
  (bif d.dead then (K (d, 6)) else (f0 d fun r1 => (bif r1.dead then (K (r1, 6)) else (∃ n, loopB (b0V f0 f1) n (fun x3 => (K ((⟨x3.sure, ([] : List Write), x3.m0.fuse, x3.m0.dead⟩ : Disk), 0))) (fun _ => False) ⟨([] : List Str), 0, r1, (⟨([] : List Str), ([] : List Write), 0, false⟩ : Disk)⟩))))
def F (d : Disk) (K : (Disk × Int) → Prop) : Prop := FV q102.F q35.F d K
noncomputable def en : Entry := mkEntry A C fun x => F x.1
theorem eqv (f0 : q102.T) (f1 : q35.T) (d : Disk) (K : (Disk × Int) → Prop) : apure E (tv f0 f1) (ltV f0 f1) 4 165 [enc (.st 1) d] (ansK C K) = FV f0 f1 d K := by kernel_rfl
theorem l0v (f0 : q102.T) (f1 : q35.T) (R : St → Prop) (Kx : Nat → St → Prop) (Kr : St → Prop) (x : L0) : acode E (tv f0 f1) (afun E (tv f0 f1) 4) 31 (ltV f0 f1) ((loopsIn E.P 165).getD 0 (0, .skip)).2 0 (fun s => R (keepSt kp0 s)) (fun j s => Kx j (keepSt kp0 s)) (fun s => Kr (keepSt kR s)) (c0 x) = b0V f0 f1 (fun x => R (c0 x)) (fun x => Kx 0 (c0 x)) (fun r => Kr (cR r)) x := by kernel_rfl
theorem l0_ok : LSound E tab (afun E tab 4) 31 lt 0 ((loopsIn E.P 165).getD 0 (0, .skip)).2 (mkLoop 0 kp0 kR p0 c0 cR (b0V q102.F q35.F)) := mkLoop_sound (by decide) (by decide) p0_ok (fun R Kx Kr x => l0v q102.F q35.F R Kx Kr x)
theorem loops : LoopsOk E tab lt 4 165 := loops_of (nt := 31) (ids := [0]) (by kernel_rfl) (by kernel_rfl) (by
  intro k i hk l hl
  match k, hk with
  | 0, hk => cases hk; cases hl; exact l0_ok
  | _ + 1, hk => exact absurd hk (by simp))
theorem det (d : Disk) : Det (F d) := by
  unfold F FV
  repeat' with_reducible first | exact det_ret _ | exact det_false | refine det_cond _ ?_ ?_ | refine det_bind (q102.det _) (fun _ => ?_) | refine det_bind (q35.det _ _) (fun _ => ?_) | refine det_loop (fun _ => ?_) (fun _ => ?_) (fun _ => ?_) _ | unfold b0V
theorem edet (a : List AV) : Det (en a) := mkEntry_det (fun x : Dens A => det x.1) a
theorem ground : Ground E tab := ⟨num, mixed, (tab_cons q102.sound (tab_cons q35.sound (tab_nil _))), clone, (dtab_cons q102.edet (dtab_cons q35.edet dtab_nil)), stab⟩
theorem sound : EntrySound E 165 en := mkSound ground loops (by kernel_rfl) (fun (x : Dens A) K => eqv q102.F q35.F x.1 K)
end q105
namespace q106
abbrev A : List Ty := [(.st 1), (.int .u32)]
abbrev C := (cTwo (.st 1) (.int .i64))
abbrev T : Type := Disk → Int → ((Disk × Int) → Prop) → Prop
noncomputable def tv (f0 : q104.T) (f1 : q105.T) : Tab := [(119, mkEntry q104.A q104.C fun x => f0 x.1 x.2.1), (165, mkEntry q105.A q105.C fun x => f1 x.1)]
noncomputable def tab : Tab := tv q104.F q105.F
def FV (f0 : q104.T) (f1 : q105.T) (d : Disk) (m : Int) (K : (Disk × Int) → Prop) : Prop :=
  (f0 d m fun r1 => (bif (r1.2 != 0) then (K (r1.1, r1.2)) else (f1 r1.1 fun r2 => (K (r2.1, r2.2)))))
def F (d : Disk) (m : Int) (K : (Disk × Int) → Prop) : Prop := FV q104.F q105.F d m K
noncomputable def en : Entry := mkEntry A C fun x => F x.1 x.2.1
theorem eqv (f0 : q104.T) (f1 : q105.T) (d : Disk) (m : Int) (K : (Disk × Int) → Prop) : apure E (tv f0 f1) (fun _ => none) 4 160 [enc (.st 1) d, enc (.int .u32) m] (ansK C K) = FV f0 f1 d m K := by kernel_rfl
theorem loops : LoopsOk E tab (fun _ => none) 4 160 := loops_none _ _ _ _
theorem det (d : Disk) (m : Int) : Det (F d m) := by
  unfold F FV
  repeat' with_reducible first | exact det_ret _ | refine det_cond _ ?_ ?_ | refine det_bind (q104.det _ _) (fun _ => ?_) | refine det_bind (q105.det _) (fun _ => ?_)
theorem edet (a : List AV) : Det (en a) := mkEntry_det (fun x : Dens A => det x.1 x.2.1) a
theorem ground : Ground E tab := ⟨num, mixed, (tab_cons q104.sound (tab_cons q105.sound (tab_nil _))), clone, (dtab_cons q104.edet (dtab_cons q105.edet dtab_nil)), stab⟩
theorem sound : EntrySound E 160 en := mkSound ground loops (by kernel_rfl) (fun (x : Dens A) K => eqv q104.F q105.F x.1 x.2.1 K)
end q106
namespace q107
abbrev A : List Ty := [(.st 8), (.int .u32)]
abbrev C := (cTwo (.st 8) (.int .i64))
abbrev T : Type := Store → Int → ((Store × Int) → Prop) → Prop
noncomputable def tv (f0 : q106.T) : Tab := [(160, mkEntry q106.A q106.C fun x => f0 x.1 x.2.1)]
noncomputable def tab : Tab := tv q106.F
def FV (f0 : q106.T) (s : Store) (m : Int) (K : (Store × Int) → Prop) : Prop :=
  (bif (m == s.mask) then (K (s, 0)) else (f0 s.disk m fun r1 => (bif (r1.2 == 0) then (K ((⟨r1.1, s.sup, m⟩ : Store), r1.2)) else (K ((⟨r1.1, s.sup, s.mask⟩ : Store), r1.2)))))
def F (s : Store) (m : Int) (K : (Store × Int) → Prop) : Prop := FV q106.F s m K
noncomputable def en : Entry := mkEntry A C fun x => F x.1 x.2.1
theorem eqv (f0 : q106.T) (s : Store) (m : Int) (K : (Store × Int) → Prop) : apure E (tv f0) (fun _ => none) 4 116 [enc (.st 8) s, enc (.int .u32) m] (ansK C K) = FV f0 s m K := by kernel_rfl
theorem loops : LoopsOk E tab (fun _ => none) 4 116 := loops_none _ _ _ _
theorem det (s : Store) (m : Int) : Det (F s m) := by
  unfold F FV
  repeat' with_reducible first | exact det_ret _ | refine det_cond _ ?_ ?_ | refine det_bind (q106.det _ _) (fun _ => ?_)
theorem edet (a : List AV) : Det (en a) := mkEntry_det (fun x : Dens A => det x.1 x.2.1) a
theorem ground : Ground E tab := ⟨num, mixed, (tab_cons q106.sound (tab_nil _)), clone, (dtab_cons q106.edet dtab_nil), stab⟩
theorem sound : EntrySound E 116 en := mkSound ground loops (by kernel_rfl) (fun (x : Dens A) K => eqv q106.F x.1 x.2.1 K)
end q107
namespace q108
abbrev A : List Ty := [(.st 8), (.int .i64)]
abbrev C := (cTwo (.st 8) (.int .i64))
abbrev T : Type := Store → Int → ((Store × Int) → Prop) → Prop
noncomputable def tv (f0 : q101.T) (f1 : q107.T) : Tab := [(117, mkEntry q101.A q101.C fun x => f0 x.1 x.2.1), (116, mkEntry q107.A q107.C fun x => f1 x.1 x.2.1)]
noncomputable def tab : Tab := tv q101.F q107.F
def FV (f0 : q101.T) (f1 : q107.T) (s : Store) (i : Int) (K : (Store × Int) → Prop) : Prop :=
  (bif (decide (i < 0)) then (K (s, 4)) else (bif (decide (i ≥ s.sup.blocks)) then (K (s, 4)) else (f0 s.mask ([i] : List Int) fun r1 => (f1 s r1 fun r2 => (K (r2.1, r2.2))))))
def F (s : Store) (i : Int) (K : (Store × Int) → Prop) : Prop := FV q101.F q107.F s i K
noncomputable def en : Entry := mkEntry A C fun x => F x.1 x.2.1
theorem eqv (f0 : q101.T) (f1 : q107.T) (s : Store) (i : Int) (K : (Store × Int) → Prop) : apure E (tv f0 f1) (fun _ => none) 4 79 [enc (.st 8) s, enc (.int .i64) i] (ansK C K) = FV f0 f1 s i K := by kernel_rfl
theorem loops : LoopsOk E tab (fun _ => none) 4 79 := loops_none _ _ _ _
theorem det (s : Store) (i : Int) : Det (F s i) := by
  unfold F FV
  repeat' with_reducible first | exact det_ret _ | refine det_cond _ ?_ ?_ | refine det_bind (q101.det _ _) (fun _ => ?_) | refine det_bind (q107.det _ _) (fun _ => ?_)
theorem edet (a : List AV) : Det (en a) := mkEntry_det (fun x : Dens A => det x.1 x.2.1) a
theorem ground : Ground E tab := ⟨num, mixed, (tab_cons q101.sound (tab_cons q107.sound (tab_nil _))), clone, (dtab_cons q101.edet (dtab_cons q107.edet dtab_nil)), stab⟩
theorem sound : EntrySound E 79 en := mkSound ground loops (by kernel_rfl) (fun (x : Dens A) K => eqv q101.F q107.F x.1 x.2.1 K)
end q108
namespace q109
abbrev A : List Ty := [(.int .u32), (.slice (.int .i64))]
abbrev C := (cTy (.int .u32))
abbrev T : Type := Int → (List Int) → (Int → Prop) → Prop
noncomputable def tv (f0 : q47.T) (f1 : q46.T) : Tab := [(161, mkEntry q47.A q47.C fun x => f0 x.1 x.2.1), (162, mkEntry q46.A q46.C fun x => f1 x.1)]
noncomputable def tab : Tab := tv q47.F q46.F
structure R where
def cR (_ : R) : St := { fr := fun _ => .top, hs := hs0 }
def kR : Keep := { ks := [], bs := [], hn := 0 }
structure L0 where
  m : Int
  l : (List Int)
  k : Int
def c0 (x : L0) : St := { fr := lookL .top [(0, (.int .u32 x.m)), (1, (.sl .any (.int .i64) x.l)), (5, (.int .i64 x.k))], hs := { hp := lookL .dead [], hn := 0 } }
def kp0 : Keep := { ks := [(0, none), (1, none), (5, none)], bs := [], hn := 0 }
def p0 (st : St) (K : L0 → Prop) : Prop := gInt .u32 (st.fr 0) fun a1 => gSl .any (.int .i64) (st.fr 1) fun a2 => gInt .i64 (st.fr 5) fun a3 => K ⟨a1, a2, a3⟩
set_option maxHeartbeats 4000000 in
theorem p0_ok (st : St) (K : L0 → Prop) (h : p0 st K) : ∃ x, keepSt kp0 st = c0 x ∧ K x := by
  obtain ⟨a1, h0, h⟩ := gInt_elim h
  obtain ⟨a2, h1, h⟩ := gSl_elim h
  obtain ⟨a3, h2, h⟩ := gInt_elim h
  refine ⟨_, ?_, h⟩
  simp only [keepSt, kp0, List.map, h0, h1, h2]
  rfl
def b0V (f0 : q47.T) (f1 : q46.T) (rec kx : L0 → Prop) (kr : R → Prop) (x : L0) : Prop :=
  (bif (decide (x.k < (x.l.length : Int))) then (oget (getI x.l x.k) fun v1 => (f0 x.m v1 fun r2 => (bif r2 then (oget (getI x.l x.k) fun v3 => (f1 v3 fun r4 => (rec ⟨(IntKind.u32.wrap (x.m - r4)), x.l, (IntKind.i64.wrap (x.k + 1))⟩))) else (rec ⟨x.m, x.l, (IntKind.i64.wrap (x.k + 1))⟩)))) else (kx ⟨x.m, x.l, x.k⟩))
def ltV (f0 : q47.T) (f1 : q46.T) : Nat → Option LSpec
  | 0 => some (mkLoop 0 kp0 kR p0 c0 cR (b0V f0 f1))
  | _ => none
def lt : Nat → Option LSpec := ltV q47.F q46.F
def FV (f0 : q47.T) (f1 : q46.T) (m : Int) (l : (List Int)) (K : Int → Prop) : Prop :=
  (∃ n, loopB (b0V f0 f1) n (fun x5 => (K x5.m)) (fun _ => False) ⟨m, l, 0⟩)
def F (m : Int) (l : (List Int)) (K : Int → Prop) : Prop := FV q47.F q46.F m l K
noncomputable def en : Entry := mkEntry A C fun x => F x.1 x.2.1
theorem eqv (f0 : q47.T) (f1 : q46.T) (m : Int) (l : (List Int)) (K : Int → Prop) : apure E (tv f0 f1) (ltV f0 f1) 4 118 [enc (.int .u32) m, enc (.slice (.int .i64)) l] (ansK C K) = FV f0 f1 m l K := by kernel_rfl
theorem l0v (f0 : q47.T) (f1 : q46.T) (R : St → Prop) (Kx : Nat → St → Prop) (Kr : St → Prop) (x : L0) : acode E (tv f0 f1) (afun E (tv f0 f1) 4) 26 (ltV f0 f1) ((loopsIn E.P 118).getD 0 (0, .skip)).2 0 (fun s => R (keepSt kp0 s)) (fun j s => Kx j (keepSt kp0 s)) (fun s => Kr (keepSt kR s)) (c0 x) = b0V f0 f1 (fun x => R (c0 x)) (fun x => Kx 0 (c0 x)) (fun r => Kr (cR r)) x := by kernel_rfl
theorem l0_ok : LSound E tab (afun E tab 4) 26 lt 0 ((loopsIn E.P 118).getD 0 (0, .skip)).2 (mkLoop 0 kp0 kR p0 c0 cR (b0V q47.F q46.F)) := mkLoop_sound (by decide) (by decide) p0_ok (fun R Kx Kr x => l0v q47.F q46.F R Kx Kr x)
theorem loops : LoopsOk E tab lt 4 118 := loops_of (nt := 26) (ids := [0]) (by kernel_rfl) (by kernel_rfl) (by
  intro k i hk l hl
  match k, hk with
  | 0, hk => cases hk; cases hl; exact l0_ok
  | _ + 1, hk => exact absurd hk (by simp))
theorem det (m : Int) (l : (List Int)) : Det (F m l) := by
  unfold F FV
  repeat' with_reducible first | exact det_ret _ | exact det_false | refine det_cond _ ?_ ?_ | refine det_oget _ (fun _ => ?_) | refine det_bind (q47.det _ _) (fun _ => ?_) | refine det_bind (q46.det _) (fun _ => ?_) | refine det_loop (fun _ => ?_) (fun _ => ?_) (fun _ => ?_) _ | unfold b0V
theorem edet (a : List AV) : Det (en a) := mkEntry_det (fun x : Dens A => det x.1 x.2.1) a
theorem ground : Ground E tab := ⟨num, mixed, (tab_cons q47.sound (tab_cons q46.sound (tab_nil _))), clone, (dtab_cons q47.edet (dtab_cons q46.edet dtab_nil)), stab⟩
theorem sound : EntrySound E 118 en := mkSound ground loops (by kernel_rfl) (fun (x : Dens A) K => eqv q47.F q46.F x.1 x.2.1 K)
end q109
namespace q110
abbrev A : List Ty := [(.st 8), (.int .i64)]
abbrev C := (cTwo (.st 8) (.int .i64))
abbrev T : Type := Store → Int → ((Store × Int) → Prop) → Prop
noncomputable def tv (f0 : q109.T) (f1 : q104.T) : Tab := [(118, mkEntry q109.A q109.C fun x => f0 x.1 x.2.1), (119, mkEntry q104.A q104.C fun x => f1 x.1 x.2.1)]
noncomputable def tab : Tab := tv q109.F q104.F
def FV (f0 : q109.T) (f1 : q104.T) (s : Store) (i : Int) (K : (Store × Int) → Prop) : Prop :=
  (bif (decide (i < 0)) then (K (s, 4)) else (bif (decide (i ≥ s.sup.blocks)) then (K (s, 4)) else (f0 s.mask ([i] : List Int) fun r1 => (bif (r1 == s.mask) then (K (s, 0)) else (f1 s.disk r1 fun r2 => (bif (r2.2 == 0) then (K ((⟨r2.1, s.sup, r1⟩ : Store), r2.2)) else (K ((⟨r2.1, s.sup, s.mask⟩ : Store), r2.2))))))))
def F (s : Store) (i : Int) (K : (Store × Int) → Prop) : Prop := FV q109.F q104.F s i K
noncomputable def en : Entry := mkEntry A C fun x => F x.1 x.2.1
theorem eqv (f0 : q109.T) (f1 : q104.T) (s : Store) (i : Int) (K : (Store × Int) → Prop) : apure E (tv f0 f1) (fun _ => none) 4 80 [enc (.st 8) s, enc (.int .i64) i] (ansK C K) = FV f0 f1 s i K := by kernel_rfl
theorem loops : LoopsOk E tab (fun _ => none) 4 80 := loops_none _ _ _ _
theorem det (s : Store) (i : Int) : Det (F s i) := by
  unfold F FV
  repeat' with_reducible first | exact det_ret _ | refine det_cond _ ?_ ?_ | refine det_bind (q109.det _ _) (fun _ => ?_) | refine det_bind (q104.det _ _) (fun _ => ?_)
theorem edet (a : List AV) : Det (en a) := mkEntry_det (fun x : Dens A => det x.1 x.2.1) a
theorem ground : Ground E tab := ⟨num, mixed, (tab_cons q109.sound (tab_cons q104.sound (tab_nil _))), clone, (dtab_cons q109.edet (dtab_cons q104.edet dtab_nil)), stab⟩
theorem sound : EntrySound E 80 en := mkSound ground loops (by kernel_rfl) (fun (x : Dens A) K => eqv q109.F q104.F x.1 x.2.1 K)
end q110
namespace q111
abbrev A : List Ty := [(.int .u32)]
abbrev C := (cTy (.slice (.int .i64)))
abbrev T : Type := Int → ((List Int) → Prop) → Prop
noncomputable def tv (f0 : q47.T) : Tab := [(161, mkEntry q47.A q47.C fun x => f0 x.1 x.2.1)]
noncomputable def tab : Tab := tv q47.F
structure R where
def cR (_ : R) : St := { fr := fun _ => .top, hs := hs0 }
def kR : Keep := { ks := [], bs := [], hn := 0 }
structure L0 where
  m : Int
  out : (List Int)
  i : Int
def c0 (x : L0) : St := { fr := lookL .top [(0, (.int .u32 x.m)), (3, (.slr 1)), (4, (.int .i64 x.i))], hs := { hp := lookL .dead [(1, (.row false (.int .i64) x.out))], hn := 2 } }
def kp0 : Keep := { ks := [(0, none), (3, some 1), (4, none)], bs := [], hn := 2 }
def p0 (st : St) (K : L0 → Prop) : Prop := gHomes kp0 st <| gInt .u32 (st.fr 0) fun a1 => gSlr (st.fr 3) fun c2 => gRow false (.int .i64) (st.hs.hp c2) fun a3 => gInt .i64 (st.fr 4) fun a4 => K ⟨a1, a3, a4⟩
set_option maxHeartbeats 4000000 in
theorem p0_ok (st : St) (K : L0 → Prop) (h : p0 st K) : ∃ x, keepSt kp0 st = c0 x ∧ K x := by
  obtain ⟨h0, h⟩ := gHomes_elim h
  obtain ⟨a1, h1, h⟩ := gInt_elim h
  obtain ⟨c2, h2, h⟩ := gSlr_elim h
  obtain ⟨a3, h3, h⟩ := gRow_elim h
  obtain ⟨a4, h4, h⟩ := gInt_elim h
  refine ⟨_, ?_, h⟩
  simp only [keepSt, h0]
  simp only [kp0, List.map, List.filterMap, homeOf, h1, h2, h3, h4, hmOf, List.append_nil, cond_true]
  rfl
def b0V (f0 : q47.T) (rec kx : L0 → Prop) (kr : R → Prop) (x : L0) : Prop :=
  (bif (decide (x.i < 32)) then (f0 x.m x.i fun r1 => (bif r1 then (bif (decide ((x.out.length + ([x.i] : List Int).length) * 8 ≤ room)) then (rec ⟨x.m, (x.out ++ ([x.i] : List Int)), (IntKind.i64.wrap (x.i + 1))⟩) else False) else (rec ⟨x.m, x.out, (IntKind.i64.wrap (x.i + 1))⟩))) else (kx ⟨x.m, x.out, x.i⟩))
def ltV (f0 : q47.T) : Nat → Option LSpec
  | 0 => some (mkLoop 0 kp0 kR p0 c0 cR (b0V f0))
  | _ => none
def lt : Nat → Option LSpec := ltV q47.F
def FV (f0 : q47.T) (m : Int) (K : (List Int) → Prop) : Prop :=
  (∃ n, loopB (b0V f0) n (fun x2 => (K x2.out)) (fun _ => False) ⟨m, ([] : List Int), 0⟩)
def F (m : Int) (K : (List Int) → Prop) : Prop := FV q47.F m K
noncomputable def en : Entry := mkEntry A C fun x => F x.1
theorem eqv (f0 : q47.T) (m : Int) (K : (List Int) → Prop) : apure E (tv f0) (ltV f0) 4 164 [enc (.int .u32) m] (ansK C K) = FV f0 m K := by kernel_rfl
theorem l0v (f0 : q47.T) (R : St → Prop) (Kx : Nat → St → Prop) (Kr : St → Prop) (x : L0) : acode E (tv f0) (afun E (tv f0) 4) 17 (ltV f0) ((loopsIn E.P 164).getD 0 (0, .skip)).2 0 (fun s => R (keepSt kp0 s)) (fun j s => Kx j (keepSt kp0 s)) (fun s => Kr (keepSt kR s)) (c0 x) = b0V f0 (fun x => R (c0 x)) (fun x => Kx 0 (c0 x)) (fun r => Kr (cR r)) x := by kernel_rfl
theorem l0_ok : LSound E tab (afun E tab 4) 17 lt 0 ((loopsIn E.P 164).getD 0 (0, .skip)).2 (mkLoop 0 kp0 kR p0 c0 cR (b0V q47.F)) := mkLoop_sound (by decide) (by decide) p0_ok (fun R Kx Kr x => l0v q47.F R Kx Kr x)
theorem loops : LoopsOk E tab lt 4 164 := loops_of (nt := 17) (ids := [0]) (by kernel_rfl) (by kernel_rfl) (by
  intro k i hk l hl
  match k, hk with
  | 0, hk => cases hk; cases hl; exact l0_ok
  | _ + 1, hk => exact absurd hk (by simp))
theorem det (m : Int) : Det (F m) := by
  unfold F FV
  repeat' with_reducible first | exact det_ret _ | exact det_false | refine det_cond _ ?_ ?_ | refine det_bind (q47.det _ _) (fun _ => ?_) | refine det_loop (fun _ => ?_) (fun _ => ?_) (fun _ => ?_) _ | unfold b0V
theorem edet (a : List AV) : Det (en a) := mkEntry_det (fun x : Dens A => det x.1) a
theorem ground : Ground E tab := ⟨num, mixed, (tab_cons q47.sound (tab_nil _)), clone, (dtab_cons q47.edet dtab_nil), stab⟩
theorem sound : EntrySound E 164 en := mkSound ground loops (by kernel_rfl) (fun (x : Dens A) K => eqv q47.F x.1 K)
end q111
namespace q112
abbrev A : List Ty := [(.slice (.int .u32))]
abbrev C := (cTy (.int .u32))
abbrev T : Type := (List Int) → (Int → Prop) → Prop
noncomputable def tv (f0 : q111.T) (f1 : q101.T) : Tab := [(164, mkEntry q111.A q111.C fun x => f0 x.1), (117, mkEntry q101.A q101.C fun x => f1 x.1 x.2.1)]
noncomputable def tab : Tab := tv q111.F q101.F
structure R where
def cR (_ : R) : St := { fr := fun _ => .top, hs := hs0 }
def kR : Keep := { ks := [], bs := [], hn := 0 }
structure L0 where
  l : (List Int)
  m : Int
  k : Int
def c0 (x : L0) : St := { fr := lookL .top [(0, (.sl .any (.int .u32) x.l)), (3, (.int .u32 x.m)), (4, (.int .i64 x.k))], hs := { hp := lookL .dead [], hn := 0 } }
def kp0 : Keep := { ks := [(0, none), (3, none), (4, none)], bs := [], hn := 0 }
def p0 (st : St) (K : L0 → Prop) : Prop := gSl .any (.int .u32) (st.fr 0) fun a1 => gInt .u32 (st.fr 3) fun a2 => gInt .i64 (st.fr 4) fun a3 => K ⟨a1, a2, a3⟩
set_option maxHeartbeats 4000000 in
theorem p0_ok (st : St) (K : L0 → Prop) (h : p0 st K) : ∃ x, keepSt kp0 st = c0 x ∧ K x := by
  obtain ⟨a1, h0, h⟩ := gSl_elim h
  obtain ⟨a2, h1, h⟩ := gInt_elim h
  obtain ⟨a3, h2, h⟩ := gInt_elim h
  refine ⟨_, ?_, h⟩
  simp only [keepSt, kp0, List.map, h0, h1, h2]
  rfl
def b0V (f0 : q111.T) (f1 : q101.T) (rec kx : L0 → Prop) (kr : R → Prop) (x : L0) : Prop :=
  (bif (decide (x.k < (x.l.length : Int))) then (oget (getI x.l x.k) fun v1 => (f0 v1 fun r2 => (f1 x.m r2 fun r3 => (rec ⟨x.l, r3, (IntKind.i64.wrap (x.k + 1))⟩)))) else (kx ⟨x.l, x.m, x.k⟩))
def ltV (f0 : q111.T) (f1 : q101.T) : Nat → Option LSpec
  | 0 => some (mkLoop 0 kp0 kR p0 c0 cR (b0V f0 f1))
  | _ => none
def lt : Nat → Option LSpec := ltV q111.F q101.F
def FV (f0 : q111.T) (f1 : q101.T) (l : (List Int)) (K : Int → Prop) : Prop :=
  (∃ n, loopB (b0V f0 f1) n (fun x4 => (K x4.m)) (fun _ => False) ⟨l, 0, 0⟩)
def F (l : (List Int)) (K : Int → Prop) : Prop := FV q111.F q101.F l K
noncomputable def en : Entry := mkEntry A C fun x => F x.1
theorem eqv (f0 : q111.T) (f1 : q101.T) (l : (List Int)) (K : Int → Prop) : apure E (tv f0 f1) (ltV f0 f1) 4 120 [enc (.slice (.int .u32)) l] (ansK C K) = FV f0 f1 l K := by kernel_rfl
theorem l0v (f0 : q111.T) (f1 : q101.T) (R : St → Prop) (Kx : Nat → St → Prop) (Kr : St → Prop) (x : L0) : acode E (tv f0 f1) (afun E (tv f0 f1) 4) 19 (ltV f0 f1) ((loopsIn E.P 120).getD 0 (0, .skip)).2 0 (fun s => R (keepSt kp0 s)) (fun j s => Kx j (keepSt kp0 s)) (fun s => Kr (keepSt kR s)) (c0 x) = b0V f0 f1 (fun x => R (c0 x)) (fun x => Kx 0 (c0 x)) (fun r => Kr (cR r)) x := by kernel_rfl
theorem l0_ok : LSound E tab (afun E tab 4) 19 lt 0 ((loopsIn E.P 120).getD 0 (0, .skip)).2 (mkLoop 0 kp0 kR p0 c0 cR (b0V q111.F q101.F)) := mkLoop_sound (by decide) (by decide) p0_ok (fun R Kx Kr x => l0v q111.F q101.F R Kx Kr x)
theorem loops : LoopsOk E tab lt 4 120 := loops_of (nt := 19) (ids := [0]) (by kernel_rfl) (by kernel_rfl) (by
  intro k i hk l hl
  match k, hk with
  | 0, hk => cases hk; cases hl; exact l0_ok
  | _ + 1, hk => exact absurd hk (by simp))
theorem det (l : (List Int)) : Det (F l) := by
  unfold F FV
  repeat' with_reducible first | exact det_ret _ | exact det_false | refine det_cond _ ?_ ?_ | refine det_oget _ (fun _ => ?_) | refine det_bind (q111.det _) (fun _ => ?_) | refine det_bind (q101.det _ _) (fun _ => ?_) | refine det_loop (fun _ => ?_) (fun _ => ?_) (fun _ => ?_) _ | unfold b0V
theorem edet (a : List AV) : Det (en a) := mkEntry_det (fun x : Dens A => det x.1) a
theorem ground : Ground E tab := ⟨num, mixed, (tab_cons q111.sound (tab_cons q101.sound (tab_nil _))), clone, (dtab_cons q111.edet (dtab_cons q101.edet dtab_nil)), stab⟩
theorem sound : EntrySound E 120 en := mkSound ground loops (by kernel_rfl) (fun (x : Dens A) K => eqv q111.F q101.F x.1 K)
end q112
namespace q113
abbrev A : List Ty := [(.st 8), (.int .u32)]
abbrev C := (cTwo (.st 8) (.int .i64))
abbrev T : Type := Store → Int → ((Store × Int) → Prop) → Prop
noncomputable def tv (f0 : q112.T) (f1 : q107.T) : Tab := [(120, mkEntry q112.A q112.C fun x => f0 x.1), (116, mkEntry q107.A q107.C fun x => f1 x.1 x.2.1)]
noncomputable def tab : Tab := tv q112.F q107.F
def FV (f0 : q112.T) (f1 : q107.T) (s : Store) (m : Int) (K : (Store × Int) → Prop) : Prop :=
  (f0 ([s.mask, m] : List Int) fun r1 => (f1 s r1 fun r2 => (K (r2.1, r2.2))))
def F (s : Store) (m : Int) (K : (Store × Int) → Prop) : Prop := FV q112.F q107.F s m K
noncomputable def en : Entry := mkEntry A C fun x => F x.1 x.2.1
theorem eqv (f0 : q112.T) (f1 : q107.T) (s : Store) (m : Int) (K : (Store × Int) → Prop) : apure E (tv f0 f1) (fun _ => none) 4 81 [enc (.st 8) s, enc (.int .u32) m] (ansK C K) = FV f0 f1 s m K := by kernel_rfl
theorem loops : LoopsOk E tab (fun _ => none) 4 81 := loops_none _ _ _ _
theorem det (s : Store) (m : Int) : Det (F s m) := by
  unfold F FV
  repeat' with_reducible first | exact det_ret _ | refine det_bind (q112.det _) (fun _ => ?_) | refine det_bind (q107.det _ _) (fun _ => ?_)
theorem edet (a : List AV) : Det (en a) := mkEntry_det (fun x : Dens A => det x.1 x.2.1) a
theorem ground : Ground E tab := ⟨num, mixed, (tab_cons q112.sound (tab_cons q107.sound (tab_nil _))), clone, (dtab_cons q112.edet (dtab_cons q107.edet dtab_nil)), stab⟩
theorem sound : EntrySound E 81 en := mkSound ground loops (by kernel_rfl) (fun (x : Dens A) K => eqv q112.F q107.F x.1 x.2.1 K)
end q113
namespace q114
abbrev A : List Ty := [(.st 1), (.int .i64), .str]
abbrev C := (cTwo (.st 1) (.int .i64))
abbrev T : Type := Disk → Int → Str → ((Disk × Int) → Prop) → Prop
noncomputable def tv (f0 : q50.T) (f1 : q103.T) (f2 : q105.T) : Tab := [(131, mkEntry q50.A q50.C fun x => f0 x.1 x.2.1), (163, mkEntry q103.A q103.C fun x => f1 x.1 x.2.1 x.2.2.1), (165, mkEntry q105.A q105.C fun x => f2 x.1)]
noncomputable def tab : Tab := tv q50.F q103.F q105.F
def FV (f0 : q50.T) (f1 : q103.T) (f2 : q105.T) (d : Disk) (i : Int) (data : Str) (K : (Disk × Int) → Prop) : Prop :=
  (f0 d i fun r1 => (bif (!r1) then (K (d, 4)) else (bif ((data.length : Int) != 8) then (K (d, 5)) else (f1 d (IntKind.i64.wrap (i + 2)) data fun r2 => (bif (r2.2 != 0) then (K (r2.1, r2.2)) else (f2 r2.1 fun r3 => (K (r3.1, r3.2))))))))
def F (d : Disk) (i : Int) (data : Str) (K : (Disk × Int) → Prop) : Prop := FV q50.F q103.F q105.F d i data K
noncomputable def en : Entry := mkEntry A C fun x => F x.1 x.2.1 x.2.2.1
theorem eqv (f0 : q50.T) (f1 : q103.T) (f2 : q105.T) (d : Disk) (i : Int) (data : Str) (K : (Disk × Int) → Prop) : apure E (tv f0 f1 f2) (fun _ => none) 4 121 [enc (.st 1) d, enc (.int .i64) i, enc .str data] (ansK C K) = FV f0 f1 f2 d i data K := by kernel_rfl
theorem loops : LoopsOk E tab (fun _ => none) 4 121 := loops_none _ _ _ _
theorem det (d : Disk) (i : Int) (data : Str) : Det (F d i data) := by
  unfold F FV
  repeat' with_reducible first | exact det_ret _ | refine det_cond _ ?_ ?_ | refine det_bind (q50.det _ _) (fun _ => ?_) | refine det_bind (q103.det _ _ _) (fun _ => ?_) | refine det_bind (q105.det _) (fun _ => ?_)
theorem edet (a : List AV) : Det (en a) := mkEntry_det (fun x : Dens A => det x.1 x.2.1 x.2.2.1) a
theorem ground : Ground E tab := ⟨num, mixed, (tab_cons q50.sound (tab_cons q103.sound (tab_cons q105.sound (tab_nil _)))), clone, (dtab_cons q50.edet (dtab_cons q103.edet (dtab_cons q105.edet dtab_nil))), stab⟩
theorem sound : EntrySound E 121 en := mkSound ground loops (by kernel_rfl) (fun (x : Dens A) K => eqv q50.F q103.F q105.F x.1 x.2.1 x.2.2.1 K)
end q114
namespace q115
abbrev A : List Ty := [(.st 8), (.int .i64), .str]
abbrev C := (cTwo (.st 8) (.int .i64))
abbrev T : Type := Store → Int → Str → ((Store × Int) → Prop) → Prop
noncomputable def tv (f0 : q114.T) : Tab := [(121, mkEntry q114.A q114.C fun x => f0 x.1 x.2.1 x.2.2.1)]
noncomputable def tab : Tab := tv q114.F
def FV (f0 : q114.T) (s : Store) (i : Int) (data : Str) (K : (Store × Int) → Prop) : Prop :=
  (f0 s.disk i data fun r1 => (K ((⟨r1.1, s.sup, s.mask⟩ : Store), r1.2)))
def F (s : Store) (i : Int) (data : Str) (K : (Store × Int) → Prop) : Prop := FV q114.F s i data K
noncomputable def en : Entry := mkEntry A C fun x => F x.1 x.2.1 x.2.2.1
theorem eqv (f0 : q114.T) (s : Store) (i : Int) (data : Str) (K : (Store × Int) → Prop) : apure E (tv f0) (fun _ => none) 4 82 [enc (.st 8) s, enc (.int .i64) i, enc .str data] (ansK C K) = FV f0 s i data K := by kernel_rfl
theorem loops : LoopsOk E tab (fun _ => none) 4 82 := loops_none _ _ _ _
theorem det (s : Store) (i : Int) (data : Str) : Det (F s i data) := by
  unfold F FV
  repeat' with_reducible first | exact det_ret _ | refine det_bind (q114.det _ _ _) (fun _ => ?_)
theorem edet (a : List AV) : Det (en a) := mkEntry_det (fun x : Dens A => det x.1 x.2.1 x.2.2.1) a
theorem ground : Ground E tab := ⟨num, mixed, (tab_cons q114.sound (tab_nil _)), clone, (dtab_cons q114.edet dtab_nil), stab⟩
theorem sound : EntrySound E 82 en := mkSound ground loops (by kernel_rfl) (fun (x : Dens A) K => eqv q114.F x.1 x.2.1 x.2.2.1 K)
end q115
namespace q116
abbrev A : List Ty := [(.st 1), (.st 3)]
abbrev C := (cTwo (.st 1) (.int .i64))
abbrev T : Type := Disk → Super → ((Disk × Int) → Prop) → Prop
noncomputable def tv (f0 : q32.T) (f1 : q43.T) (f2 : q103.T) (f3 : q105.T) : Tab := [(98, mkEntry q32.A q32.C fun x => f0 x.1), (142, mkEntry q43.A q43.C fun x => f1 x.1 x.2.1), (163, mkEntry q103.A q103.C fun x => f2 x.1 x.2.1 x.2.2.1), (165, mkEntry q105.A q105.C fun x => f3 x.1)]
noncomputable def tab : Tab := tv q32.F q43.F q103.F q105.F
def FV (f0 : q32.T) (f1 : q43.T) (f2 : q103.T) (f3 : q105.T) (d : Disk) (s : Super) (K : (Disk × Int) → Prop) : Prop :=
  (f0 s fun r1 => (bif (r1.2 != 0) then (K (d, 1)) else (f1 d s fun r2 => (bif (!r2) then (K (d, 1)) else (f2 d 0 r1.1 fun r3 => (bif (r3.2 != 0) then (K (r3.1, r3.2)) else (f3 r3.1 fun r4 => (K (r4.1, r4.2)))))))))
def F (d : Disk) (s : Super) (K : (Disk × Int) → Prop) : Prop := FV q32.F q43.F q103.F q105.F d s K
noncomputable def en : Entry := mkEntry A C fun x => F x.1 x.2.1
theorem eqv (f0 : q32.T) (f1 : q43.T) (f2 : q103.T) (f3 : q105.T) (d : Disk) (s : Super) (K : (Disk × Int) → Prop) : apure E (tv f0 f1 f2 f3) (fun _ => none) 4 122 [enc (.st 1) d, enc (.st 3) s] (ansK C K) = FV f0 f1 f2 f3 d s K := by kernel_rfl
theorem loops : LoopsOk E tab (fun _ => none) 4 122 := loops_none _ _ _ _
theorem det (d : Disk) (s : Super) : Det (F d s) := by
  unfold F FV
  repeat' with_reducible first | exact det_ret _ | refine det_cond _ ?_ ?_ | refine det_bind (q32.det _) (fun _ => ?_) | refine det_bind (q43.det _ _) (fun _ => ?_) | refine det_bind (q103.det _ _ _) (fun _ => ?_) | refine det_bind (q105.det _) (fun _ => ?_)
theorem edet (a : List AV) : Det (en a) := mkEntry_det (fun x : Dens A => det x.1 x.2.1) a
theorem ground : Ground E tab := ⟨num, mixed, (tab_cons q32.sound (tab_cons q43.sound (tab_cons q103.sound (tab_cons q105.sound (tab_nil _))))), clone, (dtab_cons q32.edet (dtab_cons q43.edet (dtab_cons q103.edet (dtab_cons q105.edet dtab_nil)))), stab⟩
theorem sound : EntrySound E 122 en := mkSound ground loops (by kernel_rfl) (fun (x : Dens A) K => eqv q32.F q43.F q103.F q105.F x.1 x.2.1 K)
end q116
namespace q117
abbrev A : List Ty := [(.st 8), (.st 3)]
abbrev C := (cTwo (.st 8) (.int .i64))
abbrev T : Type := Store → Super → ((Store × Int) → Prop) → Prop
noncomputable def tv (f0 : q116.T) : Tab := [(122, mkEntry q116.A q116.C fun x => f0 x.1 x.2.1)]
noncomputable def tab : Tab := tv q116.F
def FV (f0 : q116.T) (s : Store) (b_1 : Super) (K : (Store × Int) → Prop) : Prop :=
  (bif ((b_1.blocks == s.sup.blocks) && (((b_1.vector.current == s.sup.vector.current) && ((b_1.vector.bitmap == s.sup.vector.bitmap) && (((b_1.vector.old0 == s.sup.vector.old0) && ((b_1.vector.old1 == s.sup.vector.old1) && true)) && true))) && ((b_1.inc == s.sup.inc) && ((b_1.pri == s.sup.pri) && ((b_1.dis == s.sup.dis) && true))))) then (K (s, 0)) else (f0 s.disk b_1 fun r1 => (bif (r1.2 == 0) then (K ((⟨r1.1, b_1, s.mask⟩ : Store), r1.2)) else (K ((⟨r1.1, s.sup, s.mask⟩ : Store), r1.2)))))
def F (s : Store) (b_1 : Super) (K : (Store × Int) → Prop) : Prop := FV q116.F s b_1 K
noncomputable def en : Entry := mkEntry A C fun x => F x.1 x.2.1
theorem eqv (f0 : q116.T) (s : Store) (b_1 : Super) (K : (Store × Int) → Prop) : apure E (tv f0) (fun _ => none) 4 83 [enc (.st 8) s, enc (.st 3) b_1] (ansK C K) = FV f0 s b_1 K := by kernel_rfl
theorem loops : LoopsOk E tab (fun _ => none) 4 83 := loops_none _ _ _ _
theorem det (s : Store) (b_1 : Super) : Det (F s b_1) := by
  unfold F FV
  repeat' with_reducible first | exact det_ret _ | refine det_cond _ ?_ ?_ | refine det_bind (q116.det _ _) (fun _ => ?_)
theorem edet (a : List AV) : Det (en a) := mkEntry_det (fun x : Dens A => det x.1 x.2.1) a
theorem ground : Ground E tab := ⟨num, mixed, (tab_cons q116.sound (tab_nil _)), clone, (dtab_cons q116.edet dtab_nil), stab⟩
theorem sound : EntrySound E 83 en := mkSound ground loops (by kernel_rfl) (fun (x : Dens A) K => eqv q116.F x.1 x.2.1 K)
end q117
namespace q118
abbrev A : List Ty := [(.st 8), (.int .i64)]
abbrev C := (cTwo .str (.int .i64))
abbrev T : Type := Store → Int → ((Str × Int) → Prop) → Prop
noncomputable def tv (f0 : q51.T) : Tab := [(92, mkEntry q51.A q51.C fun x => f0 x.1 x.2.1)]
noncomputable def tab : Tab := tv q51.F
def FV (f0 : q51.T) (s : Store) (i : Int) (K : (Str × Int) → Prop) : Prop :=
  (f0 s.disk i fun r1 => (K (r1.1, r1.2)))
def F (s : Store) (i : Int) (K : (Str × Int) → Prop) : Prop := FV q51.F s i K
noncomputable def en : Entry := mkEntry A C fun x => F x.1 x.2.1
theorem eqv (f0 : q51.T) (s : Store) (i : Int) (K : (Str × Int) → Prop) : apure E (tv f0) (fun _ => none) 4 58 [enc (.st 8) s, enc (.int .i64) i] (ansK C K) = FV f0 s i K := by kernel_rfl
theorem loops : LoopsOk E tab (fun _ => none) 4 58 := loops_none _ _ _ _
theorem det (s : Store) (i : Int) : Det (F s i) := by
  unfold F FV
  repeat' with_reducible first | exact det_ret _ | refine det_bind (q51.det _ _) (fun _ => ?_)
theorem edet (a : List AV) : Det (en a) := mkEntry_det (fun x : Dens A => det x.1 x.2.1) a
theorem ground : Ground E tab := ⟨num, mixed, (tab_cons q51.sound (tab_nil _)), clone, (dtab_cons q51.edet dtab_nil), stab⟩
theorem sound : EntrySound E 58 en := mkSound ground loops (by kernel_rfl) (fun (x : Dens A) K => eqv q51.F x.1 x.2.1 K)
end q118
namespace q119
abbrev A : List Ty := [(.st 8), (.st 20)]
abbrev C := (cThree (.st 8) .str (.int .i64))
abbrev T : Type := Store → SAct → ((Store × Str × Int) → Prop) → Prop
noncomputable def tv (f0 : q108.T) (f1 : q110.T) (f2 : q113.T) (f3 : q115.T) (f4 : q117.T) (f5 : q118.T) : Tab := [(79, mkEntry q108.A q108.C fun x => f0 x.1 x.2.1), (80, mkEntry q110.A q110.C fun x => f1 x.1 x.2.1), (81, mkEntry q113.A q113.C fun x => f2 x.1 x.2.1), (82, mkEntry q115.A q115.C fun x => f3 x.1 x.2.1 x.2.2.1), (83, mkEntry q117.A q117.C fun x => f4 x.1 x.2.1), (58, mkEntry q118.A q118.C fun x => f5 x.1 x.2.1)]
noncomputable def tab : Tab := tv q108.F q110.F q113.F q115.F q117.F q118.F
def FV (f0 : q108.T) (f1 : q110.T) (f2 : q113.T) (f3 : q115.T) (f4 : q117.T) (f5 : q118.T) (s : Store) (a : SAct) (K : (Store × Str × Int) → Prop) : Prop :=
  (bif (a.kind == 0) then (f0 s a.block fun r1 => (K (r1.1, ([] : Str), r1.2))) else (bif (a.kind == 1) then (f1 s a.block fun r2 => (K (r2.1, ([] : Str), r2.2))) else (bif (a.kind == 2) then (f2 s a.mask fun r3 => (K (r3.1, ([] : Str), r3.2))) else (bif (a.kind == 3) then (f3 s a.block a.data fun r4 => (K (r4.1, ([] : Str), r4.2))) else (bif (a.kind == 4) then (f4 s a.sup fun r5 => (K (r5.1, ([] : Str), r5.2))) else (f5 s a.block fun r6 => (K (s, r6.1, r6.2))))))))
def F (s : Store) (a : SAct) (K : (Store × Str × Int) → Prop) : Prop := FV q108.F q110.F q113.F q115.F q117.F q118.F s a K
noncomputable def en : Entry := mkEntry A C fun x => F x.1 x.2.1
theorem eqv (f0 : q108.T) (f1 : q110.T) (f2 : q113.T) (f3 : q115.T) (f4 : q117.T) (f5 : q118.T) (s : Store) (a : SAct) (K : (Store × Str × Int) → Prop) : apure E (tv f0 f1 f2 f3 f4 f5) (fun _ => none) 4 35 [enc (.st 8) s, enc (.st 20) a] (ansK C K) = FV f0 f1 f2 f3 f4 f5 s a K := by kernel_rfl
theorem eq (x : Dens A) (K : (Store × Str × Int) → Prop) : apure E tab (fun _ => none) 4 35 (encA A x) (ansK C K) = F x.1 x.2.1 K := eqv q108.F q110.F q113.F q115.F q117.F q118.F x.1 x.2.1 K
theorem loops : LoopsOk E tab (fun _ => none) 4 35 := loops_none _ _ _ _
theorem det (s : Store) (a : SAct) : Det (F s a) := by
  unfold F FV
  repeat' with_reducible first | exact det_ret _ | refine det_cond _ ?_ ?_ | refine det_bind (q108.det _ _) (fun _ => ?_) | refine det_bind (q110.det _ _) (fun _ => ?_) | refine det_bind (q113.det _ _) (fun _ => ?_) | refine det_bind (q115.det _ _ _) (fun _ => ?_) | refine det_bind (q117.det _ _) (fun _ => ?_) | refine det_bind (q118.det _ _) (fun _ => ?_)
theorem edet (a : List AV) : Det (en a) := mkEntry_det (fun x : Dens A => det x.1 x.2.1) a
theorem ground : Ground E tab := ⟨num, mixed, (tab_cons q108.sound (tab_cons q110.sound (tab_cons q113.sound (tab_cons q115.sound (tab_cons q117.sound (tab_cons q118.sound (tab_nil _))))))), clone, (dtab_cons q108.edet (dtab_cons q110.edet (dtab_cons q113.edet (dtab_cons q115.edet (dtab_cons q117.edet (dtab_cons q118.edet dtab_nil)))))), stab⟩
theorem sound : EntrySound E 35 en := mkSound ground loops (by kernel_rfl) (eq)
end q119
namespace q120
abbrev A : List Ty := [(.st 1), (.st 1)]
abbrev C := (cTy .bool)
abbrev T : Type := Disk → Disk → (Bool → Prop) → Prop
noncomputable def tab : Tab := []
structure R where
  t4 : Bool
def cR (x : R) : St := { fr := lookL .top [(4, (.bool x.t4))], hs := { hp := lookL .dead [], hn := 2 } }
def kR : Keep := { ks := [(4, none)], bs := [], hn := 2 }
structure L0 where
  i : Int
  m0 : Disk
  m1 : Disk
def c0 (x : L0) : St := { fr := lookL .top [(2, (.ptr 0 0)), (3, (.ptr 1 0)), (5, (.int .i64 x.i))], hs := { hp := lookL .dead [(0, (.cells (encS 1 x.m0))), (1, (.cells (encS 1 x.m1)))], hn := 2 } }
def kp0 : Keep := { ks := [(2, none), (3, none), (5, none)], bs := [0, 1], hn := 2, ts := [(0, 1), (1, 1)] }
def p0 (st : St) (K : L0 → Prop) : Prop := gPtr 0 0 (st.fr 2) <| gPtr 1 0 (st.fr 3) <| gInt .i64 (st.fr 5) fun a1 => gBlkS 1 (st.hs.hp 0) fun a2 => gBlkS 1 (st.hs.hp 1) fun a3 => K ⟨a1, a2, a3⟩
set_option maxHeartbeats 4000000 in
theorem p0_ok (st : St) (K : L0 → Prop) (h : p0 st K) : ∃ x, keepSt kp0 st = c0 x ∧ K x := by
  obtain ⟨h0, h⟩ := gPtr_elim h
  obtain ⟨h1, h⟩ := gPtr_elim h
  obtain ⟨a1, h2, h⟩ := gInt_elim h
  obtain ⟨z3, a2, h3, y3, h⟩ := gBlkS_elim h
  have q3 : ∀ ok, keptB kp0 ok 0 (.cells z3) = .cells (encS 1 a2) := fun _ => y3
  simp only [kp0] at q3
  obtain ⟨z4, a3, h4, y4, h⟩ := gBlkS_elim h
  have q4 : ∀ ok, keptB kp0 ok 1 (.cells z4) = .cells (encS 1 a3) := fun _ => y4
  simp only [kp0] at q4
  refine ⟨_, ?_, h⟩
  simp only [keepSt, kp0, List.map, h0, h1, h2, h3, h4, q3, q4]
  rfl
structure L2 where
  i : Int
  m0 : Disk
  m1 : Disk
def c2 (x : L2) : St := { fr := lookL .top [(2, (.ptr 0 0)), (3, (.ptr 1 0)), (6, (.int .i64 x.i))], hs := { hp := lookL .dead [(0, (.cells (encS 1 x.m0))), (1, (.cells (encS 1 x.m1)))], hn := 2 } }
def kp2 : Keep := { ks := [(2, none), (3, none), (6, none)], bs := [0, 1], hn := 2, ts := [(0, 1), (1, 1)] }
def p2 (st : St) (K : L2 → Prop) : Prop := gPtr 0 0 (st.fr 2) <| gPtr 1 0 (st.fr 3) <| gInt .i64 (st.fr 6) fun a1 => gBlkS 1 (st.hs.hp 0) fun a2 => gBlkS 1 (st.hs.hp 1) fun a3 => K ⟨a1, a2, a3⟩
set_option maxHeartbeats 4000000 in
theorem p2_ok (st : St) (K : L2 → Prop) (h : p2 st K) : ∃ x, keepSt kp2 st = c2 x ∧ K x := by
  obtain ⟨h0, h⟩ := gPtr_elim h
  obtain ⟨h1, h⟩ := gPtr_elim h
  obtain ⟨a1, h2, h⟩ := gInt_elim h
  obtain ⟨z3, a2, h3, y3, h⟩ := gBlkS_elim h
  have q3 : ∀ ok, keptB kp2 ok 0 (.cells z3) = .cells (encS 1 a2) := fun _ => y3
  simp only [kp2] at q3
  obtain ⟨z4, a3, h4, y4, h⟩ := gBlkS_elim h
  have q4 : ∀ ok, keptB kp2 ok 1 (.cells z4) = .cells (encS 1 a3) := fun _ => y4
  simp only [kp2] at q4
  refine ⟨_, ?_, h⟩
  simp only [keepSt, kp2, List.map, h0, h1, h2, h3, h4, q3, q4]
  rfl
def b0 (rec kx : L0 → Prop) (kr : R → Prop) (x : L0) : Prop :=
  (bif (decide (x.i < (x.m0.sure.length : Int))) then (oget (getI x.m0.sure x.i) fun v1 => (oget (getI x.m1.sure x.i) fun v2 => (bif (!(v1 == v2)) then (kr ⟨false⟩) else (rec ⟨(IntKind.i64.wrap (x.i + 1)), x.m0, x.m1⟩)))) else (kx ⟨x.i, x.m0, x.m1⟩))
def b2 (rec kx : L2 → Prop) (kr : R → Prop) (x : L2) : Prop :=
  (bif (decide (x.i < (x.m0.cache.length : Int))) then (oget (getI x.m0.cache x.i) fun v5 => (oget (getI x.m1.cache x.i) fun v6 => (bif (!((v5.sector == v6.sector) && ((v5.data == v6.data) && true))) then (kr ⟨false⟩) else (rec ⟨(IntKind.i64.wrap (x.i + 1)), x.m0, x.m1⟩)))) else (kx ⟨x.i, x.m0, x.m1⟩))
def lt : Nat → Option LSpec
  | 0 => some (mkLoop 0 kp0 kR p0 c0 cR b0)
  | 2 => some (mkLoop 2 kp2 kR p2 c2 cR b2)
  | _ => none
def F (a : Disk) (b_1 : Disk) (K : Bool → Prop) : Prop :=
  (bif ((a.sure.length : Int) != (b_1.sure.length : Int)) then (K false) else (bif ((a.cache.length : Int) != (b_1.cache.length : Int)) then (K false) else (bif (a.fuse != b_1.fuse) then (K false) else (bif (!(a.dead == b_1.dead)) then (K false) else (∃ n, loopB b0 n (fun x3 => (∃ n, loopB b2 n (fun x7 => (K true)) (fun r8 => (K r8.t4)) ⟨0, x3.m0, x3.m1⟩)) (fun r4 => (K r4.t4)) ⟨0, a, b_1⟩)))))
noncomputable def en : Entry := mkEntry A C fun x => F x.1 x.2.1
theorem eqv (a : Disk) (b_1 : Disk) (K : Bool → Prop) : apure E tab lt 4 84 [enc (.st 1) a, enc (.st 1) b_1] (ansK C K) = F a b_1 K := by kernel_rfl
theorem l0v (R : St → Prop) (Kx : Nat → St → Prop) (Kr : St → Prop) (x : L0) : acode E tab (afun E tab 4) 73 lt ((loopsIn E.P 84).getD 0 (0, .skip)).2 0 (fun s => R (keepSt kp0 s)) (fun j s => Kx j (keepSt kp0 s)) (fun s => Kr (keepSt kR s)) (c0 x) = b0 (fun x => R (c0 x)) (fun x => Kx 0 (c0 x)) (fun r => Kr (cR r)) x := by kernel_rfl
theorem l0_ok : LSound E tab (afun E tab 4) 73 lt 0 ((loopsIn E.P 84).getD 0 (0, .skip)).2 (mkLoop 0 kp0 kR p0 c0 cR b0) := mkLoop_sound (by decide) (by decide) p0_ok (fun R Kx Kr x => l0v  R Kx Kr x)
theorem l2v (R : St → Prop) (Kx : Nat → St → Prop) (Kr : St → Prop) (x : L2) : acode E tab (afun E tab 4) 73 lt ((loopsIn E.P 84).getD 1 (0, .skip)).2 2 (fun s => R (keepSt kp2 s)) (fun j s => Kx j (keepSt kp2 s)) (fun s => Kr (keepSt kR s)) (c2 x) = b2 (fun x => R (c2 x)) (fun x => Kx 2 (c2 x)) (fun r => Kr (cR r)) x := by kernel_rfl
theorem l2_ok : LSound E tab (afun E tab 4) 73 lt 2 ((loopsIn E.P 84).getD 1 (0, .skip)).2 (mkLoop 2 kp2 kR p2 c2 cR b2) := mkLoop_sound (by decide) (by decide) p2_ok (fun R Kx Kr x => l2v  R Kx Kr x)
theorem loops : LoopsOk E tab lt 4 84 := loops_of (nt := 73) (ids := [0, 2]) (by kernel_rfl) (by kernel_rfl) (by
  intro k i hk l hl
  match k, hk with
  | 0, hk => cases hk; cases hl; exact l0_ok
  | 1, hk => cases hk; cases hl; exact l2_ok
  | _ + 2, hk => exact absurd hk (by simp))
theorem det (a : Disk) (b_1 : Disk) : Det (F a b_1) := by
  unfold F
  repeat' with_reducible first | exact det_ret _ | refine det_cond _ ?_ ?_ | refine det_oget _ (fun _ => ?_) | refine det_loop (fun _ => ?_) (fun _ => ?_) (fun _ => ?_) _ | unfold b0 | unfold b2
theorem edet (a : List AV) : Det (en a) := mkEntry_det (fun x : Dens A => det x.1 x.2.1) a
theorem ground : Ground E tab := ⟨num, mixed, (tab_nil _), clone, dtab_nil, stab⟩
theorem sound : EntrySound E 84 en := mkSound ground loops (by kernel_rfl) (fun (x : Dens A) K => eqv  x.1 x.2.1 K)
end q120
namespace q121
abbrev A : List Ty := [(.st 8), (.st 8)]
abbrev C := (cTy .bool)
abbrev T : Type := Store → Store → (Bool → Prop) → Prop
noncomputable def tv (f0 : q120.T) : Tab := [(84, mkEntry q120.A q120.C fun x => f0 x.1 x.2.1)]
noncomputable def tab : Tab := tv q120.F
def FV (f0 : q120.T) (a : Store) (b_1 : Store) (K : Bool → Prop) : Prop :=
  (f0 a.disk b_1.disk fun r1 => (bif r1 then (bif ((a.sup.blocks == b_1.sup.blocks) && (((a.sup.vector.current == b_1.sup.vector.current) && ((a.sup.vector.bitmap == b_1.sup.vector.bitmap) && (((a.sup.vector.old0 == b_1.sup.vector.old0) && ((a.sup.vector.old1 == b_1.sup.vector.old1) && true)) && true))) && ((a.sup.inc == b_1.sup.inc) && ((a.sup.pri == b_1.sup.pri) && ((a.sup.dis == b_1.sup.dis) && true))))) then (K (a.mask == b_1.mask)) else (K false)) else (K false)))
def F (a : Store) (b_1 : Store) (K : Bool → Prop) : Prop := FV q120.F a b_1 K
noncomputable def en : Entry := mkEntry A C fun x => F x.1 x.2.1
theorem eqv (f0 : q120.T) (a : Store) (b_1 : Store) (K : Bool → Prop) : apure E (tv f0) (fun _ => none) 4 36 [enc (.st 8) a, enc (.st 8) b_1] (ansK C K) = FV f0 a b_1 K := by kernel_rfl
theorem loops : LoopsOk E tab (fun _ => none) 4 36 := loops_none _ _ _ _
theorem det (a : Store) (b_1 : Store) : Det (F a b_1) := by
  unfold F FV
  repeat' with_reducible first | exact det_ret _ | refine det_cond _ ?_ ?_ | refine det_bind (q120.det _ _) (fun _ => ?_)
theorem edet (a : List AV) : Det (en a) := mkEntry_det (fun x : Dens A => det x.1 x.2.1) a
theorem ground : Ground E tab := ⟨num, mixed, (tab_cons q120.sound (tab_nil _)), clone, (dtab_cons q120.edet dtab_nil), stab⟩
theorem sound : EntrySound E 36 en := mkSound ground loops (by kernel_rfl) (fun (x : Dens A) K => eqv q120.F x.1 x.2.1 K)
end q121
namespace q122
abbrev A : List Ty := [(.int .u8), (.slice (.st 20)), (.int .u8)]
abbrev C := (cTy .bool)
abbrev T : Type := Int → (List SAct) → Int → (Bool → Prop) → Prop
noncomputable def tv (f0 : q97.T) (f1 : q98.T) (f2 : q54.T) (f3 : q99.T) (f4 : q100.T) (f5 : q119.T) (f6 : q121.T) : Tab := [(25, mkEntry q97.A q97.C fun _ => f0), (32, mkEntry q98.A q98.C fun x => f1 x.1), (26, mkEntry q54.A q54.C fun x => f2 x.1), (33, mkEntry q99.A q99.C fun x => f3 x.1 x.2.1), (34, mkEntry q100.A q100.C fun x => f4 x.1 x.2.1), (35, mkEntry q119.A q119.C fun x => f5 x.1 x.2.1), (36, mkEntry q121.A q121.C fun x => f6 x.1 x.2.1)]
noncomputable def tab : Tab := tv q97.F q98.F q54.F q99.F q100.F q119.F q121.F
structure R where
  t6 : Bool
def cR (x : R) : St := { fr := lookL .top [(6, (.bool x.t6))], hs := { hp := lookL .dead [], hn := 3 } }
def kR : Keep := { ks := [(6, none)], bs := [], hn := 3 }
structure L0 where
  l : (List SAct)
  i : Int
  m0 : Store
def c0 (x : L0) : St := { fr := lookL .top [(1, (.sl .any (.st 20) x.l)), (7, (.ptr 0 0)), (8, (.int .i64 x.i))], hs := { hp := lookL .dead [(0, (.cells (encS 8 x.m0)))], hn := 1 } }
def kp0 : Keep := { ks := [(1, none), (7, none), (8, none)], bs := [0], hn := 1, ts := [(0, 8)] }
def p0 (st : St) (K : L0 → Prop) : Prop := gSl .any (.st 20) (st.fr 1) fun a1 => gPtr 0 0 (st.fr 7) <| gInt .i64 (st.fr 8) fun a2 => gBlkS 8 (st.hs.hp 0) fun a3 => K ⟨a1, a2, a3⟩
set_option maxHeartbeats 4000000 in
theorem p0_ok (st : St) (K : L0 → Prop) (h : p0 st K) : ∃ x, keepSt kp0 st = c0 x ∧ K x := by
  obtain ⟨a1, h0, h⟩ := gSl_elim h
  obtain ⟨h1, h⟩ := gPtr_elim h
  obtain ⟨a2, h2, h⟩ := gInt_elim h
  obtain ⟨z3, a3, h3, y3, h⟩ := gBlkS_elim h
  have q3 : ∀ ok, keptB kp0 ok 0 (.cells z3) = .cells (encS 8 a3) := fun _ => y3
  simp only [kp0] at q3
  refine ⟨_, ?_, h⟩
  simp only [keepSt, kp0, List.map, h0, h1, h2, h3, q3]
  rfl
def b0V (f0 : q97.T) (f1 : q98.T) (f2 : q54.T) (f3 : q99.T) (f4 : q100.T) (f5 : q119.T) (f6 : q121.T) (rec kx : L0 → Prop) (kr : R → Prop) (x : L0) : Prop :=
  (bif (decide (x.i < (x.l.length : Int))) then (oget (getI x.l x.i) fun v5 => (f4 x.m0 v5 fun r6 => (oget (getI x.l x.i) fun v7 => (f5 x.m0 v7 fun r8 => (f6 r6.1 r8.1 fun r9 => (bif (!r9) then (kr ⟨false⟩) else (bif (!(r6.2.1 == r8.2.1)) then (kr ⟨false⟩) else (bif (r6.2.2 != r8.2.2) then (kr ⟨false⟩) else (bif r6.1.disk.dead then (kr ⟨(r6.2.2 == 6)⟩) else (rec ⟨x.l, (IntKind.i64.wrap (x.i + 1)), r6.1⟩)))))))))) else (kx ⟨x.l, x.i, x.m0⟩))
def ltV (f0 : q97.T) (f1 : q98.T) (f2 : q54.T) (f3 : q99.T) (f4 : q100.T) (f5 : q119.T) (f6 : q121.T) : Nat → Option LSpec
  | 0 => some (mkLoop 0 kp0 kR p0 c0 cR (b0V f0 f1 f2 f3 f4 f5 f6))
  | _ => none
def lt : Nat → Option LSpec := ltV q97.F q98.F q54.F q99.F q100.F q119.F q121.F
def FV (f0 : q97.T) (f1 : q98.T) (f2 : q54.T) (f3 : q99.T) (f4 : q100.T) (f5 : q119.T) (f6 : q121.T) (n_0 : Int) (l : (List SAct)) (fuse : Int) (K : Bool → Prop) : Prop :=
  (f0 fun r1 => (bif (!r1) then (K false) else (f1 l fun r2 => (bif r2 then (K true) else (bif (32 == 0) then False else (f2 (IntKind.i64.wrap (1 + (IntKind.i64.wrap (n_0.tmod 32)))) fun r3 => (f3 r3.disk (IntKind.i64.wrap fuse) fun r4 => (∃ n, loopB (b0V f0 f1 f2 f3 f4 f5 f6) n (fun x10 => (K true)) (fun r11 => (K r11.t6)) ⟨l, 0, (⟨r4, r3.sup, r3.mask⟩ : Store)⟩))))))))
def F (n_0 : Int) (l : (List SAct)) (fuse : Int) (K : Bool → Prop) : Prop := FV q97.F q98.F q54.F q99.F q100.F q119.F q121.F n_0 l fuse K
noncomputable def en : Entry := mkEntry A C fun x => F x.1 x.2.1 x.2.2.1
theorem eqv (f0 : q97.T) (f1 : q98.T) (f2 : q54.T) (f3 : q99.T) (f4 : q100.T) (f5 : q119.T) (f6 : q121.T) (n_0 : Int) (l : (List SAct)) (fuse : Int) (K : Bool → Prop) : apure E (tv f0 f1 f2 f3 f4 f5 f6) (ltV f0 f1 f2 f3 f4 f5 f6) 4 8 [enc (.int .u8) n_0, enc (.slice (.st 20)) l, enc (.int .u8) fuse] (ansK C K) = FV f0 f1 f2 f3 f4 f5 f6 n_0 l fuse K := by kernel_rfl
theorem eq (x : Dens A) (K : Bool → Prop) : apure E tab lt 4 8 (encA A x) (ansK C K) = F x.1 x.2.1 x.2.2.1 K := eqv q97.F q98.F q54.F q99.F q100.F q119.F q121.F x.1 x.2.1 x.2.2.1 K
theorem l0v (f0 : q97.T) (f1 : q98.T) (f2 : q54.T) (f3 : q99.T) (f4 : q100.T) (f5 : q119.T) (f6 : q121.T) (R : St → Prop) (Kx : Nat → St → Prop) (Kr : St → Prop) (x : L0) : acode E (tv f0 f1 f2 f3 f4 f5 f6) (afun E (tv f0 f1 f2 f3 f4 f5 f6) 4) 76 (ltV f0 f1 f2 f3 f4 f5 f6) ((loopsIn E.P 8).getD 0 (0, .skip)).2 0 (fun s => R (keepSt kp0 s)) (fun j s => Kx j (keepSt kp0 s)) (fun s => Kr (keepSt kR s)) (c0 x) = b0V f0 f1 f2 f3 f4 f5 f6 (fun x => R (c0 x)) (fun x => Kx 0 (c0 x)) (fun r => Kr (cR r)) x := by kernel_rfl
theorem l0_ok : LSound E tab (afun E tab 4) 76 lt 0 ((loopsIn E.P 8).getD 0 (0, .skip)).2 (mkLoop 0 kp0 kR p0 c0 cR (b0V q97.F q98.F q54.F q99.F q100.F q119.F q121.F)) := mkLoop_sound (by decide) (by decide) p0_ok (fun R Kx Kr x => l0v q97.F q98.F q54.F q99.F q100.F q119.F q121.F R Kx Kr x)
theorem loops : LoopsOk E tab lt 4 8 := loops_of (nt := 76) (ids := [0]) (by kernel_rfl) (by kernel_rfl) (by
  intro k i hk l hl
  match k, hk with
  | 0, hk => cases hk; cases hl; exact l0_ok
  | _ + 1, hk => exact absurd hk (by simp))
theorem ground : Ground E tab := ⟨num, mixed, (tab_cons q97.sound (tab_cons q98.sound (tab_cons q54.sound (tab_cons q99.sound (tab_cons q100.sound (tab_cons q119.sound (tab_cons q121.sound (tab_nil _)))))))), clone, (dtab_nd (by kernel_rfl) (dtab_cons q98.edet (dtab_cons q54.edet (dtab_cons q99.edet (dtab_cons q100.edet (dtab_cons q119.edet (dtab_cons q121.edet dtab_nil))))))), stab⟩
theorem sound : EntrySound E 8 en := mkSound ground loops (by kernel_rfl) (eq)
end q122
end Gm
