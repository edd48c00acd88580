/- Printed by a program (gen.py): the functions' answers, and that they are so. -/
import Derived.Test.YtohdbkaolchifaaGreatGnT5
set_option linter.unusedVariables false
set_option maxRecDepth 100000
namespace Gm
open Go Go.Proofs
namespace q149
abbrev A : List Ty := [(.st 1), (.st 3)]
abbrev C := (cTwo (.st 1) (.int .i64))
abbrev T : Type := Disk → Super → ((Disk × Int) → Prop) → Prop
noncomputable def tabV (f0 : q140.T) (f1 : q141.T) (f2 : q146.T) (f3 : q148.T) : Tab := [(132, mkEntry q140.A q140.C fun x => f0 x.1), (133, mkEntry q141.A q141.C fun x => f1 x.1 x.2.1), (96, mkEntry q146.A q146.C fun x => f2 x.1 x.2.1 x.2.2.1), (98, mkEntry q148.A q148.C fun x => f3 x.1)]
noncomputable def tab : Tab := tabV q140.F q141.F q146.F q148.F
def FV (f0 : q140.T) (f1 : q141.T) (f2 : q146.T) (f3 : q148.T) (d : Disk) (s : Super) (K : (Disk × Int) → Prop) : Prop :=
  (f0 s fun r1 => (bif (r1.2 != 0) then (K (d, 1)) else (f1 d s fun r2 => (bif (!r2) then (K (d, 1)) else (f2 d 0 r1.1 fun r3 => (bif (r3.2 != 0) then (K (r3.1, r3.2)) else (f3 r3.1 fun r4 => (K (r4.1, r4.2)))))))))
def F (d : Disk) (s : Super) (K : (Disk × Int) → Prop) : Prop := FV q140.F q141.F q146.F q148.F d s K
noncomputable def en : Entry := mkEntry A C fun x => F x.1 x.2.1
theorem eqv (f0 : q140.T) (f1 : q141.T) (f2 : q146.T) (f3 : q148.T) (d : Disk) (s : Super) (K : (Disk × Int) → Prop) : apure E (tabV f0 f1 f2 f3) (fun _ => none) 4 92 [enc (.st 1) d, enc (.st 3) s] (ansK C K) = FV f0 f1 f2 f3 d s K := by kernel_rfl
theorem loops : LoopsOk E tab (fun _ => none) 4 92 := loops_none _ _ _ _
theorem det (d : Disk) (s : Super) : Det (F d s) := by
  unfold F FV
  repeat' with_reducible first | exact det_ret _ | exact det_false | refine det_cond _ ?_ ?_ | refine det_oget _ (fun _ => ?_) | refine det_bind (q140.det _) (fun _ => ?_) | refine det_bind (q141.det _ _) (fun _ => ?_) | refine det_bind (q146.det _ _ _) (fun _ => ?_) | refine det_bind (q148.det _) (fun _ => ?_)
theorem edet (a : List AV) : Det (en a) := mkEntry_det (fun x : Dens A => det x.1 x.2.1) a
theorem ground : Ground E tab := ⟨num, mixed, (tab_cons q140.sound (tab_cons q141.sound (tab_cons q146.sound (tab_cons q148.sound (tab_nil _))))), clone, (dtab_cons q140.edet (dtab_cons q141.edet (dtab_cons q146.edet (dtab_cons q148.edet dtab_nil)))), stab⟩
theorem sound : EntrySound E 92 en := mkSound ground loops (by kernel_rfl) (fun (x : Dens A) K => eqv q140.F q141.F q146.F q148.F x.1 x.2.1 K)
end q149
namespace q150
abbrev A : List Ty := [(.st 8), (.st 3)]
abbrev C := (cTwo (.st 8) (.int .i64))
abbrev T : Type := Store → Super → ((Store × Int) → Prop) → Prop
noncomputable def tabV (f0 : q149.T) : Tab := [(92, mkEntry q149.A q149.C fun x => f0 x.1 x.2.1)]
noncomputable def tab : Tab := tabV q149.F
def FV (f0 : q149.T) (s : Store) (b_1 : Super) (K : (Store × Int) → Prop) : Prop :=
  (bif ((b_1.blocks == s.sup.blocks) && (((b_1.vector.current == s.sup.vector.current) && ((b_1.vector.bitmap == s.sup.vector.bitmap) && (((b_1.vector.old0 == s.sup.vector.old0) && ((b_1.vector.old1 == s.sup.vector.old1) && true)) && true))) && ((b_1.inc == s.sup.inc) && ((b_1.pri == s.sup.pri) && ((b_1.dis == s.sup.dis) && true))))) then (K (s, 0)) else (f0 s.disk b_1 fun r1 => (bif (r1.2 == 0) then (K ((⟨r1.1, b_1, s.mask⟩ : Store), r1.2)) else (K ((⟨r1.1, s.sup, s.mask⟩ : Store), r1.2)))))
def F (s : Store) (b_1 : Super) (K : (Store × Int) → Prop) : Prop := FV q149.F s b_1 K
noncomputable def en : Entry := mkEntry A C fun x => F x.1 x.2.1
theorem eqv (f0 : q149.T) (s : Store) (b_1 : Super) (K : (Store × Int) → Prop) : apure E (tabV f0) (fun _ => none) 4 54 [enc (.st 8) s, enc (.st 3) b_1] (ansK C K) = FV f0 s b_1 K := by kernel_rfl
theorem loops : LoopsOk E tab (fun _ => none) 4 54 := loops_none _ _ _ _
theorem det (s : Store) (b_1 : Super) : Det (F s b_1) := by
  unfold F FV
  repeat' with_reducible first | exact det_ret _ | exact det_false | refine det_cond _ ?_ ?_ | refine det_oget _ (fun _ => ?_) | refine det_bind (q149.det _ _) (fun _ => ?_)
theorem edet (a : List AV) : Det (en a) := mkEntry_det (fun x : Dens A => det x.1 x.2.1) a
theorem ground : Ground E tab := ⟨num, mixed, (tab_cons q149.sound (tab_nil _)), clone, (dtab_cons q149.edet dtab_nil), stab⟩
theorem sound : EntrySound E 54 en := mkSound ground loops (by kernel_rfl) (fun (x : Dens A) K => eqv q149.F x.1 x.2.1 K)
end q150
namespace q151
abbrev A : List Ty := [(.st 13)]
abbrev C := (cTy (.st 13))
abbrev T : Type := Node → (Node → Prop) → Prop
noncomputable def tabV (f0 : q144.T) : Tab := [(93, mkEntry q144.A q144.C fun x => f0 x.1)]
noncomputable def tab : Tab := tabV q144.F
def FV (f0 : q144.T) (n_0 : Node) (K : Node → Prop) : Prop :=
  (f0 n_0.store.disk fun r1 => (K (⟨n_0.id, false, (⟨r1, (⟨0, (⟨0, 0, 0, 0⟩ : Vec), false, false, false⟩ : Super), 0⟩ : Store), false, 0, 0, (⟨0, (⟨0, 0, 0, 0⟩ : Vec), false, false, false, false, 0⟩ : Hello), false, (⟨false, 0, 0, ([] : Str)⟩ : Req), false, 0, 0, false, n_0.draws, n_0.mints⟩ : Node)))
def F (n_0 : Node) (K : Node → Prop) : Prop := FV q144.F n_0 K
noncomputable def en : Entry := mkEntry A C fun x => F x.1
theorem eqv (f0 : q144.T) (n_0 : Node) (K : Node → Prop) : apure E (tabV f0) (fun _ => none) 4 55 [enc (.st 13) n_0] (ansK C K) = FV f0 n_0 K := by kernel_rfl
theorem loops : LoopsOk E tab (fun _ => none) 4 55 := loops_none _ _ _ _
theorem det (n_0 : Node) : Det (F n_0) := by
  unfold F FV
  repeat' with_reducible first | exact det_ret _ | exact det_false | refine det_cond _ ?_ ?_ | refine det_oget _ (fun _ => ?_) | refine det_bind (q144.det _) (fun _ => ?_)
theorem edet (a : List AV) : Det (en a) := mkEntry_det (fun x : Dens A => det x.1) a
theorem ground : Ground E tab := ⟨num, mixed, (tab_cons q144.sound (tab_nil _)), clone, (dtab_cons q144.edet dtab_nil), stab⟩
theorem sound : EntrySound E 55 en := mkSound ground loops (by kernel_rfl) (fun (x : Dens A) K => eqv q144.F x.1 K)
end q151
namespace q152
abbrev A : List Ty := [(.st 8), (.int .i64)]
abbrev C := (cTy .bool)
abbrev T : Type := Store → Int → (Bool → Prop) → Prop
noncomputable def tab : Tab := []
def F (s : Store) (i : Int) (K : Bool → Prop) : Prop :=
  (bif (decide (i ≥ 0)) then (K (decide (i < s.sup.blocks))) else (K false))
noncomputable def en : Entry := mkEntry A C fun x => F x.1 x.2.1
theorem eqv (s : Store) (i : Int) (K : Bool → Prop) : apure E tab (fun _ => none) 4 56 [enc (.st 8) s, enc (.int .i64) i] (ansK C K) = F s i K := by kernel_rfl
theorem loops : LoopsOk E tab (fun _ => none) 4 56 := loops_none _ _ _ _
theorem det (s : Store) (i : Int) : Det (F s i) := by
  unfold F
  repeat' with_reducible first | exact det_ret _ | exact det_false | refine det_cond _ ?_ ?_ | refine det_oget _ (fun _ => ?_)
theorem edet (a : List AV) : Det (en a) := mkEntry_det (fun x : Dens A => det x.1 x.2.1) a
theorem ground : Ground E tab := ⟨num, mixed, (tab_nil _), clone, dtab_nil, stab⟩
theorem sound : EntrySound E 56 en := mkSound ground loops (by kernel_rfl) (fun (x : Dens A) K => eqv  x.1 x.2.1 K)
end q152
namespace q153
abbrev A : List Ty := [(.slice (.int .i64))]
abbrev C := (cTy (.int .u32))
abbrev T : Type := (List Int) → (Int → Prop) → Prop
noncomputable def tabV (f0 : q130.T) : Tab := [(134, mkEntry q130.A q130.C fun x => f0 x.1)]
noncomputable def tab : Tab := tabV q130.F
structure R where
def cR (_ : R) : St := { fr := fun _ => .top, hs := hs0 }
def kR : Keep := { ks := [], bs := [], hn := 0 }
structure L0 where
  m : Int
  t5 : (List Int)
  t6 : Int
  t7 : Int
def c0 (x : L0) : St := { fr := lookL .top [(2, (.int .u32 x.m)), (5, (.sl .any (.int .i64) x.t5)), (6, (.int .i64 x.t6)), (7, (.int .i64 x.t7))], hs := { hp := lookL .dead [], hn := 0 } }
def kp0 : Keep := { ks := [(2, none), (5, none), (6, none), (7, none)], bs := [], hn := 0 }
def p0 (st : St) (K : L0 → Prop) : Prop := gInt .u32 (st.fr 2) fun a1 => gSl .any (.int .i64) (st.fr 5) fun a2 => gInt .i64 (st.fr 6) fun a3 => gInt .i64 (st.fr 7) fun a4 => K ⟨a1, a2, a3, a4⟩
set_option maxHeartbeats 4000000 in
theorem p0_ok (st : St) (K : L0 → Prop) (h : p0 st K) : ∃ x, keepSt kp0 st = c0 x ∧ K x := by
  obtain ⟨a1, h0, h⟩ := gInt_elim h
  obtain ⟨a2, h1, h⟩ := gSl_elim h
  obtain ⟨a3, h2, h⟩ := gInt_elim h
  obtain ⟨a4, h3, h⟩ := gInt_elim h
  refine ⟨_, ?_, h⟩
  simp only [keepSt, kp0, List.map, h0, h1, h2, h3]
  rfl
def b0V (f0 : q130.T) (rec kx : L0 → Prop) (kr : R → Prop) (x : L0) : Prop :=
  (bif (decide (x.t7 < x.t6)) then (oget (getI x.t5 x.t7) fun v1 => (f0 v1 fun r2 => (bif r2 then (bif (decide (0 ≤ v1)) then (rec ⟨(ior .u32 x.m (ishl .u32 1 v1)), x.t5, x.t6, (IntKind.i64.wrap (x.t7 + 1))⟩) else False) else (rec ⟨x.m, x.t5, x.t6, (IntKind.i64.wrap (x.t7 + 1))⟩)))) else (kx ⟨x.m, x.t5, x.t6, x.t7⟩))
def ltV (f0 : q130.T) : Nat → Option LSpec
  | 0 => some (mkLoop 0 kp0 kR p0 c0 cR (b0V f0))
  | _ => none
def lt : Nat → Option LSpec := ltV q130.F
def FV (f0 : q130.T) (l : (List Int)) (K : Int → Prop) : Prop :=
  (∃ n, loopB (b0V f0) n (fun x3 => (K x3.m)) (fun _ => False) ⟨0, l, (l.length : Int), 0⟩)
def F (l : (List Int)) (K : Int → Prop) : Prop := FV q130.F l K
noncomputable def en : Entry := mkEntry A C fun x => F x.1
theorem eqv (f0 : q130.T) (l : (List Int)) (K : Int → Prop) : apure E (tabV f0) (ltV f0) 4 94 [enc (.slice (.int .i64)) l] (ansK C K) = FV f0 l K := by kernel_rfl
theorem l0v (f0 : q130.T) (R : St → Prop) (Kx : Nat → St → Prop) (Kr : St → Prop) (x : L0) : acode E (tabV f0) (afun E (tabV f0) 4) 19 (ltV f0) ((loopsIn E.P 94).getD 0 (0, .skip)).2 0 (fun s => R (keepSt kp0 s)) (fun j s => Kx j (keepSt kp0 s)) (fun s => Kr (keepSt kR s)) (c0 x) = b0V f0 (fun x => R (c0 x)) (fun x => Kx 0 (c0 x)) (fun r => Kr (cR r)) x := by kernel_rfl
theorem l0_ok : LSound E tab (afun E tab 4) 19 lt 0 ((loopsIn E.P 94).getD 0 (0, .skip)).2 (mkLoop 0 kp0 kR p0 c0 cR (b0V q130.F)) := mkLoop_sound (by decide) (by decide) p0_ok (fun R Kx Kr x => l0v q130.F R Kx Kr x)
theorem loops : LoopsOk E tab lt 4 94 := loops_of (nt := 19) (ids := [0]) (by kernel_rfl) (by kernel_rfl) (by
  intro k i hk l hl
  match k, hk with
  | 0, hk => cases hk; cases hl; exact l0_ok
  | _ + 1, hk => exact absurd hk (by simp))
theorem det (l : (List Int)) : Det (F l) := by
  unfold F FV
  repeat' with_reducible first | exact det_ret _ | exact det_false | refine det_cond _ ?_ ?_ | refine det_oget _ (fun _ => ?_) | refine det_bind (q130.det _) (fun _ => ?_) | refine det_loop (fun _ => ?_) (fun _ => ?_) (fun _ => ?_) _ | unfold b0V
theorem edet (a : List AV) : Det (en a) := mkEntry_det (fun x : Dens A => det x.1) a
theorem ground : Ground E tab := ⟨num, mixed, (tab_cons q130.sound (tab_nil _)), clone, (dtab_cons q130.edet dtab_nil), stab⟩
theorem sound : EntrySound E 94 en := mkSound ground loops (by kernel_rfl) (fun (x : Dens A) K => eqv q130.F x.1 K)
end q153
namespace q154
abbrev A : List Ty := [(.int .u32), (.slice (.int .i64))]
abbrev C := (cTy (.int .u32))
abbrev T : Type := Int → (List Int) → (Int → Prop) → Prop
noncomputable def tabV (f0 : q153.T) : Tab := [(94, mkEntry q153.A q153.C fun x => f0 x.1)]
noncomputable def tab : Tab := tabV q153.F
def FV (f0 : q153.T) (m : Int) (l : (List Int)) (K : Int → Prop) : Prop :=
  (f0 l fun r1 => (K (ior .u32 m r1)))
def F (m : Int) (l : (List Int)) (K : Int → Prop) : Prop := FV q153.F m l K
noncomputable def en : Entry := mkEntry A C fun x => F x.1 x.2.1
theorem eqv (f0 : q153.T) (m : Int) (l : (List Int)) (K : Int → Prop) : apure E (tabV f0) (fun _ => none) 4 61 [enc (.int .u32) m, enc (.slice (.int .i64)) l] (ansK C K) = FV f0 m l K := by kernel_rfl
theorem loops : LoopsOk E tab (fun _ => none) 4 61 := loops_none _ _ _ _
theorem det (m : Int) (l : (List Int)) : Det (F m l) := by
  unfold F FV
  repeat' with_reducible first | exact det_ret _ | exact det_false | refine det_cond _ ?_ ?_ | refine det_oget _ (fun _ => ?_) | refine det_bind (q153.det _) (fun _ => ?_)
theorem edet (a : List AV) : Det (en a) := mkEntry_det (fun x : Dens A => det x.1 x.2.1) a
theorem ground : Ground E tab := ⟨num, mixed, (tab_cons q153.sound (tab_nil _)), clone, (dtab_cons q153.edet dtab_nil), stab⟩
theorem sound : EntrySound E 61 en := mkSound ground loops (by kernel_rfl) (fun (x : Dens A) K => eqv q153.F x.1 x.2.1 K)
end q154
namespace q155
abbrev A : List Ty := [(.int .u32), (.int .i64)]
abbrev C := (cTy .bool)
abbrev T : Type := Int → Int → (Bool → Prop) → Prop
noncomputable def tabV (f0 : q130.T) (f1 : q131.T) : Tab := [(134, mkEntry q130.A q130.C fun x => f0 x.1), (162, mkEntry q131.A q131.C fun x => f1 x.1)]
noncomputable def tab : Tab := tabV q130.F q131.F
def FV (f0 : q130.T) (f1 : q131.T) (m : Int) (blocks : Int) (K : Bool → Prop) : Prop :=
  (f0 (IntKind.i64.wrap (blocks - 1)) fun r1 => (bif r1 then (f1 blocks fun r2 => (K ((iandn .u32 m r2) == 0))) else (K false)))
def F (m : Int) (blocks : Int) (K : Bool → Prop) : Prop := FV q130.F q131.F m blocks K
noncomputable def en : Entry := mkEntry A C fun x => F x.1 x.2.1
theorem eqv (f0 : q130.T) (f1 : q131.T) (m : Int) (blocks : Int) (K : Bool → Prop) : apure E (tabV f0 f1) (fun _ => none) 4 135 [enc (.int .u32) m, enc (.int .i64) blocks] (ansK C K) = FV f0 f1 m blocks K := by kernel_rfl
theorem loops : LoopsOk E tab (fun _ => none) 4 135 := loops_none _ _ _ _
theorem det (m : Int) (blocks : Int) : Det (F m blocks) := by
  unfold F FV
  repeat' with_reducible first | exact det_ret _ | exact det_false | refine det_cond _ ?_ ?_ | refine det_oget _ (fun _ => ?_) | refine det_bind (q130.det _) (fun _ => ?_) | refine det_bind (q131.det _) (fun _ => ?_)
theorem edet (a : List AV) : Det (en a) := mkEntry_det (fun x : Dens A => det x.1 x.2.1) a
theorem ground : Ground E tab := ⟨num, mixed, (tab_cons q130.sound (tab_cons q131.sound (tab_nil _))), clone, (dtab_cons q130.edet (dtab_cons q131.edet dtab_nil)), stab⟩
theorem sound : EntrySound E 135 en := mkSound ground loops (by kernel_rfl) (fun (x : Dens A) K => eqv q130.F q131.F x.1 x.2.1 K)
end q155
namespace q156
abbrev A : List Ty := [(.st 1), (.int .u32)]
abbrev C := (cTy .bool)
abbrev T : Type := Disk → Int → (Bool → Prop) → Prop
noncomputable def tabV (f0 : q155.T) : Tab := [(135, mkEntry q155.A q155.C fun x => f0 x.1 x.2.1)]
noncomputable def tab : Tab := tabV q155.F
def FV (f0 : q155.T) (d : Disk) (m : Int) (K : Bool → Prop) : Prop :=
  (f0 m (IntKind.i64.wrap ((d.sure.length : Int) - 2)) fun r1 => (K r1))
def F (d : Disk) (m : Int) (K : Bool → Prop) : Prop := FV q155.F d m K
noncomputable def en : Entry := mkEntry A C fun x => F x.1 x.2.1
theorem eqv (f0 : q155.T) (d : Disk) (m : Int) (K : Bool → Prop) : apure E (tabV f0) (fun _ => none) 4 95 [enc (.st 1) d, enc (.int .u32) m] (ansK C K) = FV f0 d m K := by kernel_rfl
theorem loops : LoopsOk E tab (fun _ => none) 4 95 := loops_none _ _ _ _
theorem det (d : Disk) (m : Int) : Det (F d m) := by
  unfold F FV
  repeat' with_reducible first | exact det_ret _ | exact det_false | refine det_cond _ ?_ ?_ | refine det_oget _ (fun _ => ?_) | refine det_bind (q155.det _ _) (fun _ => ?_)
theorem edet (a : List AV) : Det (en a) := mkEntry_det (fun x : Dens A => det x.1 x.2.1) a
theorem ground : Ground E tab := ⟨num, mixed, (tab_cons q155.sound (tab_nil _)), clone, (dtab_cons q155.edet dtab_nil), stab⟩
theorem sound : EntrySound E 95 en := mkSound ground loops (by kernel_rfl) (fun (x : Dens A) K => eqv q155.F x.1 x.2.1 K)
end q156
namespace q157
abbrev A : List Ty := [(.st 1), (.int .u32)]
abbrev C := (cTwo (.st 1) (.int .i64))
abbrev T : Type := Disk → Int → ((Disk × Int) → Prop) → Prop
noncomputable def tabV (f0 : q156.T) (f1 : q138.T) (f2 : q139.T) (f3 : q146.T) : Tab := [(95, mkEntry q156.A q156.C fun x => f0 x.1 x.2.1), (97, mkEntry q138.A q138.C fun x => f1 x.1), (68, mkEntry q139.A q139.C fun x => f2 x.1), (96, mkEntry q146.A q146.C fun x => f3 x.1 x.2.1 x.2.2.1)]
noncomputable def tab : Tab := tabV q156.F q138.F q139.F q146.F
def FV (f0 : q156.T) (f1 : q138.T) (f2 : q139.T) (f3 : q146.T) (d : Disk) (m : Int) (K : (Disk × Int) → Prop) : Prop :=
  (f0 d m fun r1 => (bif (!r1) then (K (d, 1)) else (f1 m fun r2 => (f2 r2 fun r3 => (f3 d 1 r3 fun r4 => (K (r4.1, r4.2)))))))
def F (d : Disk) (m : Int) (K : (Disk × Int) → Prop) : Prop := FV q156.F q138.F q139.F q146.F d m K
noncomputable def en : Entry := mkEntry A C fun x => F x.1 x.2.1
theorem eqv (f0 : q156.T) (f1 : q138.T) (f2 : q139.T) (f3 : q146.T) (d : Disk) (m : Int) (K : (Disk × Int) → Prop) : apure E (tabV f0 f1 f2 f3) (fun _ => none) 4 59 [enc (.st 1) d, enc (.int .u32) m] (ansK C K) = FV f0 f1 f2 f3 d m K := by kernel_rfl
theorem loops : LoopsOk E tab (fun _ => none) 4 59 := loops_none _ _ _ _
theorem det (d : Disk) (m : Int) : Det (F d m) := by
  unfold F FV
  repeat' with_reducible first | exact det_ret _ | exact det_false | refine det_cond _ ?_ ?_ | refine det_oget _ (fun _ => ?_) | refine det_bind (q156.det _ _) (fun _ => ?_) | refine det_bind (q138.det _) (fun _ => ?_) | refine det_bind (q139.det _) (fun _ => ?_) | refine det_bind (q146.det _ _ _) (fun _ => ?_)
theorem edet (a : List AV) : Det (en a) := mkEntry_det (fun x : Dens A => det x.1 x.2.1) a
theorem ground : Ground E tab := ⟨num, mixed, (tab_cons q156.sound (tab_cons q138.sound (tab_cons q139.sound (tab_cons q146.sound (tab_nil _))))), clone, (dtab_cons q156.edet (dtab_cons q138.edet (dtab_cons q139.edet (dtab_cons q146.edet dtab_nil)))), stab⟩
theorem sound : EntrySound E 59 en := mkSound ground loops (by kernel_rfl) (fun (x : Dens A) K => eqv q156.F q138.F q139.F q146.F x.1 x.2.1 K)
end q157
namespace q158
abbrev A : List Ty := [(.st 1), (.int .u32)]
abbrev C := (cTwo (.st 1) (.int .i64))
abbrev T : Type := Disk → Int → ((Disk × Int) → Prop) → Prop
noncomputable def tabV (f0 : q157.T) (f1 : q148.T) : Tab := [(59, mkEntry q157.A q157.C fun x => f0 x.1 x.2.1), (98, mkEntry q148.A q148.C fun x => f1 x.1)]
noncomputable def tab : Tab := tabV q157.F q148.F
def FV (f0 : q157.T) (f1 : q148.T) (d : Disk) (m : Int) (K : (Disk × Int) → Prop) : Prop :=
  (f0 d m fun r1 => (bif (r1.2 != 0) then (K (r1.1, r1.2)) else (f1 r1.1 fun r2 => (K (r2.1, r2.2)))))
def F (d : Disk) (m : Int) (K : (Disk × Int) → Prop) : Prop := FV q157.F q148.F d m K
noncomputable def en : Entry := mkEntry A C fun x => F x.1 x.2.1
theorem eqv (f0 : q157.T) (f1 : q148.T) (d : Disk) (m : Int) (K : (Disk × Int) → Prop) : apure E (tabV f0 f1) (fun _ => none) 4 62 [enc (.st 1) d, enc (.int .u32) m] (ansK C K) = FV f0 f1 d m K := by kernel_rfl
theorem loops : LoopsOk E tab (fun _ => none) 4 62 := loops_none _ _ _ _
theorem det (d : Disk) (m : Int) : Det (F d m) := by
  unfold F FV
  repeat' with_reducible first | exact det_ret _ | exact det_false | refine det_cond _ ?_ ?_ | refine det_oget _ (fun _ => ?_) | refine det_bind (q157.det _ _) (fun _ => ?_) | refine det_bind (q148.det _) (fun _ => ?_)
theorem edet (a : List AV) : Det (en a) := mkEntry_det (fun x : Dens A => det x.1 x.2.1) a
theorem ground : Ground E tab := ⟨num, mixed, (tab_cons q157.sound (tab_cons q148.sound (tab_nil _))), clone, (dtab_cons q157.edet (dtab_cons q148.edet dtab_nil)), stab⟩
theorem sound : EntrySound E 62 en := mkSound ground loops (by kernel_rfl) (fun (x : Dens A) K => eqv q157.F q148.F x.1 x.2.1 K)
end q158
namespace q159
abbrev A : List Ty := [(.st 8), (.int .i64)]
abbrev C := (cTwo (.st 8) (.int .i64))
abbrev T : Type := Store → Int → ((Store × Int) → Prop) → Prop
noncomputable def tabV (f0 : q152.T) (f1 : q154.T) (f2 : q158.T) : Tab := [(56, mkEntry q152.A q152.C fun x => f0 x.1 x.2.1), (61, mkEntry q154.A q154.C fun x => f1 x.1 x.2.1), (62, mkEntry q158.A q158.C fun x => f2 x.1 x.2.1)]
noncomputable def tab : Tab := tabV q152.F q154.F q158.F
def FV (f0 : q152.T) (f1 : q154.T) (f2 : q158.T) (s : Store) (i : Int) (K : (Store × Int) → Prop) : Prop :=
  (f0 s i fun r1 => (bif (!r1) then (K (s, 4)) else (f1 s.mask ([i] : List Int) fun r2 => (bif (r2 == s.mask) then (K (s, 0)) else (f2 s.disk r2 fun r3 => (bif (r3.2 == 0) then (K ((⟨r3.1, s.sup, r2⟩ : Store), r3.2)) else (K ((⟨r3.1, s.sup, s.mask⟩ : Store), r3.2))))))))
def F (s : Store) (i : Int) (K : (Store × Int) → Prop) : Prop := FV q152.F q154.F q158.F s i K
noncomputable def en : Entry := mkEntry A C fun x => F x.1 x.2.1
theorem eqv (f0 : q152.T) (f1 : q154.T) (f2 : q158.T) (s : Store) (i : Int) (K : (Store × Int) → Prop) : apure E (tabV f0 f1 f2) (fun _ => none) 4 39 [enc (.st 8) s, enc (.int .i64) i] (ansK C K) = FV f0 f1 f2 s i K := by kernel_rfl
theorem loops : LoopsOk E tab (fun _ => none) 4 39 := loops_none _ _ _ _
theorem det (s : Store) (i : Int) : Det (F s i) := by
  unfold F FV
  repeat' with_reducible first | exact det_ret _ | exact det_false | refine det_cond _ ?_ ?_ | refine det_oget _ (fun _ => ?_) | refine det_bind (q152.det _ _) (fun _ => ?_) | refine det_bind (q154.det _ _) (fun _ => ?_) | refine det_bind (q158.det _ _) (fun _ => ?_)
theorem edet (a : List AV) : Det (en a) := mkEntry_det (fun x : Dens A => det x.1 x.2.1) a
theorem ground : Ground E tab := ⟨num, mixed, (tab_cons q152.sound (tab_cons q154.sound (tab_cons q158.sound (tab_nil _)))), clone, (dtab_cons q152.edet (dtab_cons q154.edet (dtab_cons q158.edet dtab_nil))), stab⟩
theorem sound : EntrySound E 39 en := mkSound ground loops (by kernel_rfl) (fun (x : Dens A) K => eqv q152.F q154.F q158.F x.1 x.2.1 K)
end q159
namespace q160
abbrev A : List Ty := [(.st 1), (.int .i64)]
abbrev C := (cTy .bool)
abbrev T : Type := Disk → Int → (Bool → Prop) → Prop
noncomputable def tab : Tab := []
def F (d : Disk) (i : Int) (K : Bool → Prop) : Prop :=
  (bif (decide (i ≥ 0)) then (K (decide (i < (IntKind.i64.wrap ((d.sure.length : Int) - 2))))) else (K false))
noncomputable def en : Entry := mkEntry A C fun x => F x.1 x.2.1
theorem eqv (d : Disk) (i : Int) (K : Bool → Prop) : apure E tab (fun _ => none) 4 99 [enc (.st 1) d, enc (.int .i64) i] (ansK C K) = F d i K := by kernel_rfl
theorem loops : LoopsOk E tab (fun _ => none) 4 99 := loops_none _ _ _ _
theorem det (d : Disk) (i : Int) : Det (F d i) := by
  unfold F
  repeat' with_reducible first | exact det_ret _ | exact det_false | refine det_cond _ ?_ ?_ | refine det_oget _ (fun _ => ?_)
theorem edet (a : List AV) : Det (en a) := mkEntry_det (fun x : Dens A => det x.1 x.2.1) a
theorem ground : Ground E tab := ⟨num, mixed, (tab_nil _), clone, dtab_nil, stab⟩
theorem sound : EntrySound E 99 en := mkSound ground loops (by kernel_rfl) (fun (x : Dens A) K => eqv  x.1 x.2.1 K)
end q160
namespace q161
abbrev A : List Ty := [(.st 1), (.int .i64), .str]
abbrev C := (cTwo (.st 1) (.int .i64))
abbrev T : Type := Disk → Int → Str → ((Disk × Int) → Prop) → Prop
noncomputable def tabV (f0 : q160.T) (f1 : q146.T) (f2 : q148.T) : Tab := [(99, mkEntry q160.A q160.C fun x => f0 x.1 x.2.1), (96, mkEntry q146.A q146.C fun x => f1 x.1 x.2.1 x.2.2.1), (98, mkEntry q148.A q148.C fun x => f2 x.1)]
noncomputable def tab : Tab := tabV q160.F q146.F q148.F
def FV (f0 : q160.T) (f1 : q146.T) (f2 : q148.T) (d : Disk) (i : Int) (data : Str) (K : (Disk × Int) → Prop) : Prop :=
  (f0 d i fun r1 => (bif (!r1) then (K (d, 4)) else (bif ((data.length : Int) != 8) then (K (d, 5)) else (f1 d (IntKind.i64.wrap (i + 2)) data fun r2 => (bif (r2.2 != 0) then (K (r2.1, r2.2)) else (f2 r2.1 fun r3 => (K (r3.1, r3.2))))))))
def F (d : Disk) (i : Int) (data : Str) (K : (Disk × Int) → Prop) : Prop := FV q160.F q146.F q148.F d i data K
noncomputable def en : Entry := mkEntry A C fun x => F x.1 x.2.1 x.2.2.1
theorem eqv (f0 : q160.T) (f1 : q146.T) (f2 : q148.T) (d : Disk) (i : Int) (data : Str) (K : (Disk × Int) → Prop) : apure E (tabV f0 f1 f2) (fun _ => none) 4 63 [enc (.st 1) d, enc (.int .i64) i, enc .str data] (ansK C K) = FV f0 f1 f2 d i data K := by kernel_rfl
theorem loops : LoopsOk E tab (fun _ => none) 4 63 := loops_none _ _ _ _
theorem det (d : Disk) (i : Int) (data : Str) : Det (F d i data) := by
  unfold F FV
  repeat' with_reducible first | exact det_ret _ | exact det_false | refine det_cond _ ?_ ?_ | refine det_oget _ (fun _ => ?_) | refine det_bind (q160.det _ _) (fun _ => ?_) | refine det_bind (q146.det _ _ _) (fun _ => ?_) | refine det_bind (q148.det _) (fun _ => ?_)
theorem edet (a : List AV) : Det (en a) := mkEntry_det (fun x : Dens A => det x.1 x.2.1 x.2.2.1) a
theorem ground : Ground E tab := ⟨num, mixed, (tab_cons q160.sound (tab_cons q146.sound (tab_cons q148.sound (tab_nil _)))), clone, (dtab_cons q160.edet (dtab_cons q146.edet (dtab_cons q148.edet dtab_nil))), stab⟩
theorem sound : EntrySound E 63 en := mkSound ground loops (by kernel_rfl) (fun (x : Dens A) K => eqv q160.F q146.F q148.F x.1 x.2.1 x.2.2.1 K)
end q161
namespace q162
abbrev A : List Ty := [(.st 8), (.int .i64), .str]
abbrev C := (cTwo (.st 8) (.int .i64))
abbrev T : Type := Store → Int → Str → ((Store × Int) → Prop) → Prop
noncomputable def tabV (f0 : q161.T) : Tab := [(63, mkEntry q161.A q161.C fun x => f0 x.1 x.2.1 x.2.2.1)]
noncomputable def tab : Tab := tabV q161.F
def FV (f0 : q161.T) (s : Store) (i : Int) (data : Str) (K : (Store × Int) → Prop) : Prop :=
  (f0 s.disk i data fun r1 => (K ((⟨r1.1, s.sup, s.mask⟩ : Store), r1.2)))
def F (s : Store) (i : Int) (data : Str) (K : (Store × Int) → Prop) : Prop := FV q161.F s i data K
noncomputable def en : Entry := mkEntry A C fun x => F x.1 x.2.1 x.2.2.1
theorem eqv (f0 : q161.T) (s : Store) (i : Int) (data : Str) (K : (Store × Int) → Prop) : apure E (tabV f0) (fun _ => none) 4 40 [enc (.st 8) s, enc (.int .i64) i, enc .str data] (ansK C K) = FV f0 s i data K := by kernel_rfl
theorem loops : LoopsOk E tab (fun _ => none) 4 40 := loops_none _ _ _ _
theorem det (s : Store) (i : Int) (data : Str) : Det (F s i data) := by
  unfold F FV
  repeat' with_reducible first | exact det_ret _ | exact det_false | refine det_cond _ ?_ ?_ | refine det_oget _ (fun _ => ?_) | refine det_bind (q161.det _ _ _) (fun _ => ?_)
theorem edet (a : List AV) : Det (en a) := mkEntry_det (fun x : Dens A => det x.1 x.2.1 x.2.2.1) a
theorem ground : Ground E tab := ⟨num, mixed, (tab_cons q161.sound (tab_nil _)), clone, (dtab_cons q161.edet dtab_nil), stab⟩
theorem sound : EntrySound E 40 en := mkSound ground loops (by kernel_rfl) (fun (x : Dens A) K => eqv q161.F x.1 x.2.1 x.2.2.1 K)
end q162
namespace q163
abbrev A : List Ty := [(.int .i64)]
abbrev C := (cTwo (.st 6) .bool)
abbrev T : Type := Int → ((Shape × Bool) → Prop) → Prop
noncomputable def tab : Tab := []
def F (kind : Int) (K : (Shape × Bool) → Prop) : Prop :=
  (bif (kind == 1) then (K ((⟨true, false, false⟩ : Shape), true)) else (bif (kind == 2) then (K ((⟨false, true, true⟩ : Shape), true)) else (bif (kind == 6) then (K ((⟨false, true, true⟩ : Shape), true)) else (bif (kind == 3) then (K ((⟨false, true, false⟩ : Shape), true)) else (bif (kind == 4) then (K ((⟨false, true, false⟩ : Shape), true)) else (bif (kind == 5) then (K ((⟨false, true, false⟩ : Shape), true)) else (bif (kind == 7) then (K ((⟨false, true, false⟩ : Shape), true)) else (bif (kind == 8) then (K ((⟨false, false, false⟩ : Shape), true)) else (bif (kind == 9) then (K ((⟨false, false, false⟩ : Shape), true)) else (bif (kind == 10) then (K ((⟨false, false, false⟩ : Shape), true)) else (bif (kind == 11) then (K ((⟨false, false, false⟩ : Shape), true)) else (bif (kind == 12) then (K ((⟨false, false, false⟩ : Shape), true)) else (bif (kind == 13) then (K ((⟨false, false, false⟩ : Shape), true)) else (K ((⟨false, false, false⟩ : Shape), false)))))))))))))))
noncomputable def en : Entry := mkEntry A C fun x => F x.1
theorem eqv (kind : Int) (K : (Shape × Bool) → Prop) : apure E tab (fun _ => none) 4 65 [enc (.int .i64) kind] (ansK C K) = F kind K := by kernel_rfl
theorem loops : LoopsOk E tab (fun _ => none) 4 65 := loops_none _ _ _ _
theorem det (kind : Int) : Det (F kind) := by
  unfold F
  repeat' with_reducible first | exact det_ret _ | exact det_false | refine det_cond _ ?_ ?_ | refine det_oget _ (fun _ => ?_)
theorem edet (a : List AV) : Det (en a) := mkEntry_det (fun x : Dens A => det x.1) a
theorem ground : Ground E tab := ⟨num, mixed, (tab_nil _), clone, dtab_nil, stab⟩
theorem sound : EntrySound E 65 en := mkSound ground loops (by kernel_rfl) (fun (x : Dens A) K => eqv  x.1 K)
end q163
namespace q164
abbrev A : List Ty := [(.st 4)]
abbrev C := (cTy .bool)
abbrev T : Type := Hello → (Bool → Prop) → Prop
noncomputable def tabV (f0 : q132.T) (f1 : q155.T) : Tab := [(142, mkEntry q132.A q132.C fun x => f0 x.1), (135, mkEntry q155.A q155.C fun x => f1 x.1 x.2.1)]
noncomputable def tab : Tab := tabV q132.F q155.F
def FV (f0 : q132.T) (f1 : q155.T) (h : Hello) (K : Bool → Prop) : Prop :=
  (f0 h.vector fun r1 => (bif r1 then (f1 h.mask h.blocks fun r2 => (bif r2 then (bif (!h.pri) then (K true) else (bif (!h.was) then (K (!h.inc)) else (K false))) else (K false))) else (K false)))
def F (h : Hello) (K : Bool → Prop) : Prop := FV q132.F q155.F h K
noncomputable def en : Entry := mkEntry A C fun x => F x.1
theorem eqv (f0 : q132.T) (f1 : q155.T) (h : Hello) (K : Bool → Prop) : apure E (tabV f0 f1) (fun _ => none) 4 100 [enc (.st 4) h] (ansK C K) = FV f0 f1 h K := by kernel_rfl
theorem loops : LoopsOk E tab (fun _ => none) 4 100 := loops_none _ _ _ _
theorem det (h : Hello) : Det (F h) := by
  unfold F FV
  repeat' with_reducible first | exact det_ret _ | exact det_false | refine det_cond _ ?_ ?_ | refine det_oget _ (fun _ => ?_) | refine det_bind (q132.det _) (fun _ => ?_) | refine det_bind (q155.det _ _) (fun _ => ?_)
theorem edet (a : List AV) : Det (en a) := mkEntry_det (fun x : Dens A => det x.1) a
theorem ground : Ground E tab := ⟨num, mixed, (tab_cons q132.sound (tab_cons q155.sound (tab_nil _))), clone, (dtab_cons q132.edet (dtab_cons q155.edet dtab_nil)), stab⟩
theorem sound : EntrySound E 100 en := mkSound ground loops (by kernel_rfl) (fun (x : Dens A) K => eqv q132.F q155.F x.1 K)
end q164
namespace q165
abbrev A : List Ty := [(.st 5)]
abbrev C := (cTy .bool)
abbrev T : Type := Packet → (Bool → Prop) → Prop
noncomputable def tabV (f0 : q163.T) (f1 : q164.T) (f2 : q154.T) : Tab := [(65, mkEntry q163.A q163.C fun x => f0 x.1), (100, mkEntry q164.A q164.C fun x => f1 x.1), (61, mkEntry q154.A q154.C fun x => f2 x.1 x.2.1)]
noncomputable def tab : Tab := tabV q163.F q164.F q154.F
def FV (f0 : q163.T) (f1 : q164.T) (f2 : q154.T) (p : Packet) (K : Bool → Prop) : Prop :=
  (f0 p.kind fun r1 => (bif (!r1.2) then (K false) else (f1 p.hello fun r2 => (bif (!(r1.1.hello == r2)) then (K false) else (bif (!r1.1.hello) then (bif (!((p.hello.blocks == 0) && (((p.hello.vector.current == 0) && ((p.hello.vector.bitmap == 0) && (((p.hello.vector.old0 == 0) && ((p.hello.vector.old1 == 0) && true)) && true))) && ((p.hello.inc == false) && ((p.hello.was == false) && ((p.hello.dis == false) && ((p.hello.pri == false) && ((p.hello.mask == 0) && true)))))))) then (K false) else (bif r1.1.block then (f2 0 ([p.block] : List Int) fun r3 => (bif (r3 == 0) then (K false) else (bif (!r1.1.block) then (bif (p.block != 0) then (K false) else (bif r1.1.data then (K ((p.data.length : Int) == 8)) else (K (p.data == ([] : Str))))) else (bif r1.1.data then (K ((p.data.length : Int) == 8)) else (K (p.data == ([] : Str))))))) else (bif (!r1.1.block) then (bif (p.block != 0) then (K false) else (bif r1.1.data then (K ((p.data.length : Int) == 8)) else (K (p.data == ([] : Str))))) else (bif r1.1.data then (K ((p.data.length : Int) == 8)) else (K (p.data == ([] : Str))))))) else (bif r1.1.block then (f2 0 ([p.block] : List Int) fun r4 => (bif (r4 == 0) then (K false) else (bif (!r1.1.block) then (bif (p.block != 0) then (K false) else (bif r1.1.data then (K ((p.data.length : Int) == 8)) else (K (p.data == ([] : Str))))) else (bif r1.1.data then (K ((p.data.length : Int) == 8)) else (K (p.data == ([] : Str))))))) else (bif (!r1.1.block) then (bif (p.block != 0) then (K false) else (bif r1.1.data then (K ((p.data.length : Int) == 8)) else (K (p.data == ([] : Str))))) else (bif r1.1.data then (K ((p.data.length : Int) == 8)) else (K (p.data == ([] : Str)))))))))))
def F (p : Packet) (K : Bool → Prop) : Prop := FV q163.F q164.F q154.F p K
noncomputable def en : Entry := mkEntry A C fun x => F x.1
theorem eqv (f0 : q163.T) (f1 : q164.T) (f2 : q154.T) (p : Packet) (K : Bool → Prop) : apure E (tabV f0 f1 f2) (fun _ => none) 4 64 [enc (.st 5) p] (ansK C K) = FV f0 f1 f2 p K := by kernel_rfl
theorem loops : LoopsOk E tab (fun _ => none) 4 64 := loops_none _ _ _ _
theorem det (p : Packet) : Det (F p) := by
  unfold F FV
  repeat' with_reducible first | exact det_ret _ | exact det_false | refine det_cond _ ?_ ?_ | refine det_oget _ (fun _ => ?_) | refine det_bind (q163.det _) (fun _ => ?_) | refine det_bind (q164.det _) (fun _ => ?_) | refine det_bind (q154.det _ _) (fun _ => ?_)
theorem edet (a : List AV) : Det (en a) := mkEntry_det (fun x : Dens A => det x.1) a
theorem ground : Ground E tab := ⟨num, mixed, (tab_cons q163.sound (tab_cons q164.sound (tab_cons q154.sound (tab_nil _)))), clone, (dtab_cons q163.edet (dtab_cons q164.edet (dtab_cons q154.edet dtab_nil))), stab⟩
theorem sound : EntrySound E 64 en := mkSound ground loops (by kernel_rfl) (fun (x : Dens A) K => eqv q163.F q164.F q154.F x.1 K)
end q165
namespace q166
abbrev A : List Ty := [(.st 4)]
abbrev C := (cTwo .str (.int .i64))
abbrev T : Type := Hello → ((Str × Int) → Prop) → Prop
noncomputable def tabV (f0 : q164.T) (f1 : q134.T) (f2 : q136.T) (f3 : q138.T) : Tab := [(100, mkEntry q164.A q164.C fun x => f0 x.1), (102, mkEntry q134.A q134.C fun x => f1 x.1), (66, mkEntry q136.A q136.C fun x => f2 x.1), (97, mkEntry q138.A q138.C fun x => f3 x.1)]
noncomputable def tab : Tab := tabV q164.F q134.F q136.F q138.F
def FV (f0 : q164.T) (f1 : q134.T) (f2 : q136.T) (f3 : q138.T) (h : Hello) (K : (Str × Int) → Prop) : Prop :=
  (f0 h fun r1 => (bif (!r1) then (K (([] : Str), 1)) else (f1 ([h.inc, h.was, h.dis, h.pri] : List Bool) fun r2 => (f2 h.vector.current fun r3 => (bif (fits ((bytesOfInts ([(IntKind.u8.wrap h.blocks), r2] : List Int)).length + r3.length)) then (f2 h.vector.bitmap fun r4 => (bif (fits (((bytesOfInts ([(IntKind.u8.wrap h.blocks), r2] : List Int)) ++ r3).length + r4.length)) then (f2 h.vector.old0 fun r5 => (bif (fits ((((bytesOfInts ([(IntKind.u8.wrap h.blocks), r2] : List Int)) ++ r3) ++ r4).length + r5.length)) then (f2 h.vector.old1 fun r6 => (bif (fits (((((bytesOfInts ([(IntKind.u8.wrap h.blocks), r2] : List Int)) ++ r3) ++ r4) ++ r5).length + r6.length)) then (f3 h.mask fun r7 => (bif (fits ((((((bytesOfInts ([(IntKind.u8.wrap h.blocks), r2] : List Int)) ++ r3) ++ r4) ++ r5) ++ r6).length + r7.length)) then (K (((((((bytesOfInts ([(IntKind.u8.wrap h.blocks), r2] : List Int)) ++ r3) ++ r4) ++ r5) ++ r6) ++ r7), 0)) else False)) else False)) else False)) else False)) else False)))))
def F (h : Hello) (K : (Str × Int) → Prop) : Prop := FV q164.F q134.F q136.F q138.F h K
noncomputable def en : Entry := mkEntry A C fun x => F x.1
theorem eqv (f0 : q164.T) (f1 : q134.T) (f2 : q136.T) (f3 : q138.T) (h : Hello) (K : (Str × Int) → Prop) : apure E (tabV f0 f1 f2 f3) (fun _ => none) 4 67 [enc (.st 4) h] (ansK C K) = FV f0 f1 f2 f3 h K := by kernel_rfl
theorem loops : LoopsOk E tab (fun _ => none) 4 67 := loops_none _ _ _ _
theorem det (h : Hello) : Det (F h) := by
  unfold F FV
  repeat' with_reducible first | exact det_ret _ | exact det_false | refine det_cond _ ?_ ?_ | refine det_oget _ (fun _ => ?_) | refine det_bind (q164.det _) (fun _ => ?_) | refine det_bind (q134.det _) (fun _ => ?_) | refine det_bind (q136.det _) (fun _ => ?_) | refine det_bind (q138.det _) (fun _ => ?_)
theorem edet (a : List AV) : Det (en a) := mkEntry_det (fun x : Dens A => det x.1) a
theorem ground : Ground E tab := ⟨num, mixed, (tab_cons q164.sound (tab_cons q134.sound (tab_cons q136.sound (tab_cons q138.sound (tab_nil _))))), clone, (dtab_cons q164.edet (dtab_cons q134.edet (dtab_cons q136.edet (dtab_cons q138.edet dtab_nil)))), stab⟩
theorem sound : EntrySound E 67 en := mkSound ground loops (by kernel_rfl) (fun (x : Dens A) K => eqv q164.F q134.F q136.F q138.F x.1 K)
end q166
namespace q167
abbrev A : List Ty := [(.st 5)]
abbrev C := (cTwo .str (.int .i64))
abbrev T : Type := Packet → ((Str × Int) → Prop) → Prop
noncomputable def tabV (f0 : q165.T) (f1 : q163.T) (f2 : q136.T) (f3 : q166.T) (f4 : q139.T) : Tab := [(64, mkEntry q165.A q165.C fun x => f0 x.1), (65, mkEntry q163.A q163.C fun x => f1 x.1), (66, mkEntry q136.A q136.C fun x => f2 x.1), (67, mkEntry q166.A q166.C fun x => f3 x.1), (68, mkEntry q139.A q139.C fun x => f4 x.1)]
noncomputable def tab : Tab := tabV q165.F q163.F q136.F q166.F q139.F
def FV (f0 : q165.T) (f1 : q163.T) (f2 : q136.T) (f3 : q166.T) (f4 : q139.T) (p : Packet) (K : (Str × Int) → Prop) : Prop :=
  (f0 p fun r1 => (bif (!r1) then (K (([] : Str), 1)) else (f1 p.kind fun r2 => (f2 p.session fun r3 => (bif (fits ((bytesOfInts ([(IntKind.u8.wrap p.kind)] : List Int)).length + r3.length)) then (bif r2.1.hello then (f3 p.hello fun r4 => (bif (fits (((bytesOfInts ([(IntKind.u8.wrap p.kind)] : List Int)) ++ r3).length + r4.1.length)) then (bif r2.1.block then (bif (fits ((((bytesOfInts ([(IntKind.u8.wrap p.kind)] : List Int)) ++ r3) ++ r4.1).length + (bytesOfInts ([(IntKind.u8.wrap p.block)] : List Int)).length)) then (bif (fits (((((bytesOfInts ([(IntKind.u8.wrap p.kind)] : List Int)) ++ r3) ++ r4.1) ++ (bytesOfInts ([(IntKind.u8.wrap p.block)] : List Int))).length + p.data.length)) then (f4 (((((bytesOfInts ([(IntKind.u8.wrap p.kind)] : List Int)) ++ r3) ++ r4.1) ++ (bytesOfInts ([(IntKind.u8.wrap p.block)] : List Int))) ++ p.data) fun r5 => (K (r5, 0))) else False) else False) else (bif (fits ((((bytesOfInts ([(IntKind.u8.wrap p.kind)] : List Int)) ++ r3) ++ r4.1).length + p.data.length)) then (f4 ((((bytesOfInts ([(IntKind.u8.wrap p.kind)] : List Int)) ++ r3) ++ r4.1) ++ p.data) fun r6 => (K (r6, 0))) else False)) else False)) else (bif r2.1.block then (bif (fits (((bytesOfInts ([(IntKind.u8.wrap p.kind)] : List Int)) ++ r3).length + (bytesOfInts ([(IntKind.u8.wrap p.block)] : List Int)).length)) then (bif (fits ((((bytesOfInts ([(IntKind.u8.wrap p.kind)] : List Int)) ++ r3) ++ (bytesOfInts ([(IntKind.u8.wrap p.block)] : List Int))).length + p.data.length)) then (f4 ((((bytesOfInts ([(IntKind.u8.wrap p.kind)] : List Int)) ++ r3) ++ (bytesOfInts ([(IntKind.u8.wrap p.block)] : List Int))) ++ p.data) fun r7 => (K (r7, 0))) else False) else False) else (bif (fits (((bytesOfInts ([(IntKind.u8.wrap p.kind)] : List Int)) ++ r3).length + p.data.length)) then (f4 (((bytesOfInts ([(IntKind.u8.wrap p.kind)] : List Int)) ++ r3) ++ p.data) fun r8 => (K (r8, 0))) else False))) else False)))))
def F (p : Packet) (K : (Str × Int) → Prop) : Prop := FV q165.F q163.F q136.F q166.F q139.F p K
noncomputable def en : Entry := mkEntry A C fun x => F x.1
theorem eqv (f0 : q165.T) (f1 : q163.T) (f2 : q136.T) (f3 : q166.T) (f4 : q139.T) (p : Packet) (K : (Str × Int) → Prop) : apure E (tabV f0 f1 f2 f3 f4) (fun _ => none) 4 41 [enc (.st 5) p] (ansK C K) = FV f0 f1 f2 f3 f4 p K := by kernel_rfl
theorem loops : LoopsOk E tab (fun _ => none) 4 41 := loops_none _ _ _ _
theorem det (p : Packet) : Det (F p) := by
  unfold F FV
  repeat' with_reducible first | exact det_ret _ | exact det_false | refine det_cond _ ?_ ?_ | refine det_oget _ (fun _ => ?_) | refine det_bind (q165.det _) (fun _ => ?_) | refine det_bind (q163.det _) (fun _ => ?_) | refine det_bind (q136.det _) (fun _ => ?_) | refine det_bind (q166.det _) (fun _ => ?_) | refine det_bind (q139.det _) (fun _ => ?_)
theorem edet (a : List AV) : Det (en a) := mkEntry_det (fun x : Dens A => det x.1) a
theorem ground : Ground E tab := ⟨num, mixed, (tab_cons q165.sound (tab_cons q163.sound (tab_cons q136.sound (tab_cons q166.sound (tab_cons q139.sound (tab_nil _)))))), clone, (dtab_cons q165.edet (dtab_cons q163.edet (dtab_cons q136.edet (dtab_cons q166.edet (dtab_cons q139.edet dtab_nil))))), stab⟩
theorem sound : EntrySound E 41 en := mkSound ground loops (by kernel_rfl) (fun (x : Dens A) K => eqv q165.F q163.F q136.F q166.F q139.F x.1 K)
end q167
namespace q168
abbrev A : List Ty := [(.st 13), (.int .i64), (.int .i64), .str]
abbrev C := (cTwo (.st 13) (.slice (.st 11)))
abbrev T : Type := Node → Int → Int → Str → ((Node × (List Outp)) → Prop) → Prop
noncomputable def tabV (f0 : q128.T) (f1 : q159.T) (f2 : q151.T) (f3 : q162.T) (f4 : q129.T) (f5 : q150.T) (f6 : q167.T) : Tab := [(51, mkEntry q128.A q128.C fun x => f0 x.1 x.2.1), (39, mkEntry q159.A q159.C fun x => f1 x.1 x.2.1), (55, mkEntry q151.A q151.C fun x => f2 x.1), (40, mkEntry q162.A q162.C fun x => f3 x.1 x.2.1 x.2.2.1), (52, mkEntry q129.A q129.C fun x => f4 x.1), (54, mkEntry q150.A q150.C fun x => f5 x.1 x.2.1), (41, mkEntry q167.A q167.C fun x => f6 x.1)]
noncomputable def tab : Tab := tabV q128.F q159.F q151.F q162.F q129.F q150.F q167.F
def FV (f0 : q128.T) (f1 : q159.T) (f2 : q151.T) (f3 : q162.T) (f4 : q129.T) (f5 : q150.T) (f6 : q167.T) (n_0 : Node) (id : Int) (block : Int) (data : Str) (K : (Node × (List Outp)) → Prop) : Prop :=
  (bif (!n_0.up) then (bif (decide (([(⟨2, n_0.id, id, 7, ([] : Str)⟩ : Outp)] : List Outp).length * 48 ≤ room)) then (K (n_0, ([(⟨2, n_0.id, id, 7, ([] : Str)⟩ : Outp)] : List Outp))) else False) else (bif (!n_0.primary) then (bif (decide (([(⟨2, n_0.id, id, 8, ([] : Str)⟩ : Outp)] : List Outp).length * 48 ≤ room)) then (K (n_0, ([(⟨2, n_0.id, id, 8, ([] : Str)⟩ : Outp)] : List Outp))) else False) else (bif (decide (block < 0)) then (bif (decide (([(⟨2, n_0.id, id, 4, ([] : Str)⟩ : Outp)] : List Outp).length * 48 ≤ room)) then (K (n_0, ([(⟨2, n_0.id, id, 4, ([] : Str)⟩ : Outp)] : List Outp))) else False) else (bif (decide (block ≥ n_0.store.sup.blocks)) then (bif (decide (([(⟨2, n_0.id, id, 4, ([] : Str)⟩ : Outp)] : List Outp).length * 48 ≤ room)) then (K (n_0, ([(⟨2, n_0.id, id, 4, ([] : Str)⟩ : Outp)] : List Outp))) else False) else (bif ((data.length : Int) != 8) then (bif (decide (([(⟨2, n_0.id, id, 5, ([] : Str)⟩ : Outp)] : List Outp).length * 48 ≤ room)) then (K (n_0, ([(⟨2, n_0.id, id, 5, ([] : Str)⟩ : Outp)] : List Outp))) else False) else (bif n_0.req.on then (bif (decide (([(⟨2, n_0.id, id, 11, ([] : Str)⟩ : Outp)] : List Outp).length * 48 ≤ room)) then (K (n_0, ([(⟨2, n_0.id, id, 11, ([] : Str)⟩ : Outp)] : List Outp))) else False) else (bif (n_0.state == 1) then (bif (decide (([(⟨2, n_0.id, id, 11, ([] : Str)⟩ : Outp)] : List Outp).length * 48 ≤ room)) then (K (n_0, ([(⟨2, n_0.id, id, 11, ([] : Str)⟩ : Outp)] : List Outp))) else False) else (bif (n_0.state == 0) then (bif (!n_0.minted) then (bif ((n_0.draws.length : Int) == 0) then (bif (decide (([(⟨2, n_0.id, id, 14, ([] : Str)⟩ : Outp)] : List Outp).length * 48 ≤ room)) then (K (n_0, ([(⟨2, n_0.id, id, 14, ([] : Str)⟩ : Outp)] : List Outp))) else False) else (oget (getI n_0.draws 0) fun v1 => (bif (decide (0 ≤ 1) && decide (1 ≤ (n_0.draws.length : Int))) then (bif (decide ((sub n_0.draws (Int.toNat 1) n_0.draws.length).length * 8 ≤ room)) then (f0 n_0.store.sup.vector v1 fun r2 => (bif (r2.2 != 0) then (bif (r2.2 == 0) then (f1 n_0.store block fun r3 => (bif (r3.2 != 0) then (f2 (⟨n_0.id, n_0.up, r3.1, n_0.primary, n_0.state, n_0.session, n_0.peer, n_0.peerPri, n_0.req, n_0.asking, n_0.askId, n_0.wanted, n_0.minted, (sub n_0.draws (Int.toNat 1) n_0.draws.length), n_0.mints⟩ : Node) fun r4 => (bif (r3.2 == 0) then (f3 r4.store block data fun r5 => (bif (r5.2 != 0) then (f2 (⟨r4.id, r4.up, r5.1, r4.primary, r4.state, r4.session, r4.peer, r4.peerPri, r4.req, r4.asking, r4.askId, r4.wanted, r4.minted, r4.draws, r4.mints⟩ : Node) fun r6 => (bif (r5.2 == 0) then (bif (decide (([(⟨2, r6.id, id, 0, ([] : Str)⟩ : Outp)] : List Outp).length * 48 ≤ room)) then (K (r6, ([(⟨2, r6.id, id, 0, ([] : Str)⟩ : Outp)] : List Outp))) else False) else (K (r6, ([] : List Outp))))) else (bif (r5.2 == 0) then (bif (decide (([(⟨2, r4.id, id, 0, ([] : Str)⟩ : Outp)] : List Outp).length * 48 ≤ room)) then (K ((⟨r4.id, r4.up, r5.1, r4.primary, r4.state, r4.session, r4.peer, r4.peerPri, r4.req, r4.asking, r4.askId, r4.wanted, r4.minted, r4.draws, r4.mints⟩ : Node), ([(⟨2, r4.id, id, 0, ([] : Str)⟩ : Outp)] : List Outp))) else False) else (K ((⟨r4.id, r4.up, r5.1, r4.primary, r4.state, r4.session, r4.peer, r4.peerPri, r4.req, r4.asking, r4.askId, r4.wanted, r4.minted, r4.draws, r4.mints⟩ : Node), ([] : List Outp)))))) else (K (r4, ([] : List Outp))))) else (bif (r3.2 == 0) then (f3 r3.1 block data fun r7 => (bif (r7.2 != 0) then (f2 (⟨n_0.id, n_0.up, r7.1, n_0.primary, n_0.state, n_0.session, n_0.peer, n_0.peerPri, n_0.req, n_0.asking, n_0.askId, n_0.wanted, n_0.minted, (sub n_0.draws (Int.toNat 1) n_0.draws.length), n_0.mints⟩ : Node) fun r8 => (bif (r7.2 == 0) then (bif (decide (([(⟨2, r8.id, id, 0, ([] : Str)⟩ : Outp)] : List Outp).length * 48 ≤ room)) then (K (r8, ([(⟨2, r8.id, id, 0, ([] : Str)⟩ : Outp)] : List Outp))) else False) else (K (r8, ([] : List Outp))))) else (bif (r7.2 == 0) then (bif (decide (([(⟨2, n_0.id, id, 0, ([] : Str)⟩ : Outp)] : List Outp).length * 48 ≤ room)) then (K ((⟨n_0.id, n_0.up, r7.1, n_0.primary, n_0.state, n_0.session, n_0.peer, n_0.peerPri, n_0.req, n_0.asking, n_0.askId, n_0.wanted, n_0.minted, (sub n_0.draws (Int.toNat 1) n_0.draws.length), n_0.mints⟩ : Node), ([(⟨2, n_0.id, id, 0, ([] : Str)⟩ : Outp)] : List Outp))) else False) else (K ((⟨n_0.id, n_0.up, r7.1, n_0.primary, n_0.state, n_0.session, n_0.peer, n_0.peerPri, n_0.req, n_0.asking, n_0.askId, n_0.wanted, n_0.minted, (sub n_0.draws (Int.toNat 1) n_0.draws.length), n_0.mints⟩ : Node), ([] : List Outp)))))) else (K ((⟨n_0.id, n_0.up, r3.1, n_0.primary, n_0.state, n_0.session, n_0.peer, n_0.peerPri, n_0.req, n_0.asking, n_0.askId, n_0.wanted, n_0.minted, (sub n_0.draws (Int.toNat 1) n_0.draws.length), n_0.mints⟩ : Node), ([] : List Outp)))))) else (bif (r2.2 == 6) then (K ((⟨n_0.id, n_0.up, n_0.store, n_0.primary, n_0.state, n_0.session, n_0.peer, n_0.peerPri, n_0.req, n_0.asking, n_0.askId, n_0.wanted, n_0.minted, (sub n_0.draws (Int.toNat 1) n_0.draws.length), n_0.mints⟩ : Node), ([] : List Outp))) else (bif (decide (([(⟨2, n_0.id, id, r2.2, ([] : Str)⟩ : Outp)] : List Outp).length * 48 ≤ room)) then (K ((⟨n_0.id, n_0.up, n_0.store, n_0.primary, n_0.state, n_0.session, n_0.peer, n_0.peerPri, n_0.req, n_0.asking, n_0.askId, n_0.wanted, n_0.minted, (sub n_0.draws (Int.toNat 1) n_0.draws.length), n_0.mints⟩ : Node), ([(⟨2, n_0.id, id, r2.2, ([] : Str)⟩ : Outp)] : List Outp))) else False))) else (bif (decide (n_0.mints.length * 24 ≤ room)) then (f4 n_0.mints fun r9 => (bif (decide ((r9.length + ([(⟨v1, n_0.store.sup.vector.current, n_0.id⟩ : Mint)] : List Mint).length) * 24 ≤ room)) then (f5 n_0.store (⟨n_0.store.sup.blocks, r2.1, n_0.store.sup.inc, n_0.store.sup.pri, n_0.store.sup.dis⟩ : Super) fun r10 => (bif (r10.2 != 0) then (f2 (⟨n_0.id, n_0.up, r10.1, n_0.primary, n_0.state, n_0.session, n_0.peer, n_0.peerPri, n_0.req, n_0.asking, n_0.askId, n_0.wanted, n_0.minted, (sub n_0.draws (Int.toNat 1) n_0.draws.length), (r9 ++ ([(⟨v1, n_0.store.sup.vector.current, n_0.id⟩ : Mint)] : List Mint))⟩ : Node) fun r11 => (bif (!(r10.2 == 0)) then (K (r11, ([] : List Outp))) else (f1 r11.store block fun r12 => (bif (r12.2 != 0) then (f2 (⟨r11.id, r11.up, r12.1, r11.primary, r11.state, r11.session, r11.peer, r11.peerPri, r11.req, r11.asking, r11.askId, r11.wanted, true, r11.draws, r11.mints⟩ : Node) fun r13 => (bif (r12.2 == 0) then (f3 r13.store block data fun r14 => (bif (r14.2 != 0) then (f2 (⟨r13.id, r13.up, r14.1, r13.primary, r13.state, r13.session, r13.peer, r13.peerPri, r13.req, r13.asking, r13.askId, r13.wanted, r13.minted, r13.draws, r13.mints⟩ : Node) fun r15 => (bif (r14.2 == 0) then (bif (decide (([(⟨2, r15.id, id, 0, ([] : Str)⟩ : Outp)] : List Outp).length * 48 ≤ room)) then (K (r15, ([(⟨2, r15.id, id, 0, ([] : Str)⟩ : Outp)] : List Outp))) else False) else (K (r15, ([] : List Outp))))) else (bif (r14.2 == 0) then (bif (decide (([(⟨2, r13.id, id, 0, ([] : Str)⟩ : Outp)] : List Outp).length * 48 ≤ room)) then (K ((⟨r13.id, r13.up, r14.1, r13.primary, r13.state, r13.session, r13.peer, r13.peerPri, r13.req, r13.asking, r13.askId, r13.wanted, r13.minted, r13.draws, r13.mints⟩ : Node), ([(⟨2, r13.id, id, 0, ([] : Str)⟩ : Outp)] : List Outp))) else False) else (K ((⟨r13.id, r13.up, r14.1, r13.primary, r13.state, r13.session, r13.peer, r13.peerPri, r13.req, r13.asking, r13.askId, r13.wanted, r13.minted, r13.draws, r13.mints⟩ : Node), ([] : List Outp)))))) else (K (r13, ([] : List Outp))))) else (bif (r12.2 == 0) then (f3 r12.1 block data fun r16 => (bif (r16.2 != 0) then (f2 (⟨r11.id, r11.up, r16.1, r11.primary, r11.state, r11.session, r11.peer, r11.peerPri, r11.req, r11.asking, r11.askId, r11.wanted, true, r11.draws, r11.mints⟩ : Node) fun r17 => (bif (r16.2 == 0) then (bif (decide (([(⟨2, r17.id, id, 0, ([] : Str)⟩ : Outp)] : List Outp).length * 48 ≤ room)) then (K (r17, ([(⟨2, r17.id, id, 0, ([] : Str)⟩ : Outp)] : List Outp))) else False) else (K (r17, ([] : List Outp))))) else (bif (r16.2 == 0) then (bif (decide (([(⟨2, r11.id, id, 0, ([] : Str)⟩ : Outp)] : List Outp).length * 48 ≤ room)) then (K ((⟨r11.id, r11.up, r16.1, r11.primary, r11.state, r11.session, r11.peer, r11.peerPri, r11.req, r11.asking, r11.askId, r11.wanted, true, r11.draws, r11.mints⟩ : Node), ([(⟨2, r11.id, id, 0, ([] : Str)⟩ : Outp)] : List Outp))) else False) else (K ((⟨r11.id, r11.up, r16.1, r11.primary, r11.state, r11.session, r11.peer, r11.peerPri, r11.req, r11.asking, r11.askId, r11.wanted, true, r11.draws, r11.mints⟩ : Node), ([] : List Outp)))))) else (K ((⟨r11.id, r11.up, r12.1, r11.primary, r11.state, r11.session, r11.peer, r11.peerPri, r11.req, r11.asking, r11.askId, r11.wanted, true, r11.draws, r11.mints⟩ : Node), ([] : List Outp)))))))) else (bif (!(r10.2 == 0)) then (K ((⟨n_0.id, n_0.up, r10.1, n_0.primary, n_0.state, n_0.session, n_0.peer, n_0.peerPri, n_0.req, n_0.asking, n_0.askId, n_0.wanted, n_0.minted, (sub n_0.draws (Int.toNat 1) n_0.draws.length), (r9 ++ ([(⟨v1, n_0.store.sup.vector.current, n_0.id⟩ : Mint)] : List Mint))⟩ : Node), ([] : List Outp))) else (f1 r10.1 block fun r18 => (bif (r18.2 != 0) then (f2 (⟨n_0.id, n_0.up, r18.1, n_0.primary, n_0.state, n_0.session, n_0.peer, n_0.peerPri, n_0.req, n_0.asking, n_0.askId, n_0.wanted, true, (sub n_0.draws (Int.toNat 1) n_0.draws.length), (r9 ++ ([(⟨v1, n_0.store.sup.vector.current, n_0.id⟩ : Mint)] : List Mint))⟩ : Node) fun r19 => (bif (r18.2 == 0) then (f3 r19.store block data fun r20 => (bif (r20.2 != 0) then (f2 (⟨r19.id, r19.up, r20.1, r19.primary, r19.state, r19.session, r19.peer, r19.peerPri, r19.req, r19.asking, r19.askId, r19.wanted, r19.minted, r19.draws, r19.mints⟩ : Node) fun r21 => (bif (r20.2 == 0) then (bif (decide (([(⟨2, r21.id, id, 0, ([] : Str)⟩ : Outp)] : List Outp).length * 48 ≤ room)) then (K (r21, ([(⟨2, r21.id, id, 0, ([] : Str)⟩ : Outp)] : List Outp))) else False) else (K (r21, ([] : List Outp))))) else (bif (r20.2 == 0) then (bif (decide (([(⟨2, r19.id, id, 0, ([] : Str)⟩ : Outp)] : List Outp).length * 48 ≤ room)) then (K ((⟨r19.id, r19.up, r20.1, r19.primary, r19.state, r19.session, r19.peer, r19.peerPri, r19.req, r19.asking, r19.askId, r19.wanted, r19.minted, r19.draws, r19.mints⟩ : Node), ([(⟨2, r19.id, id, 0, ([] : Str)⟩ : Outp)] : List Outp))) else False) else (K ((⟨r19.id, r19.up, r20.1, r19.primary, r19.state, r19.session, r19.peer, r19.peerPri, r19.req, r19.asking, r19.askId, r19.wanted, r19.minted, r19.draws, r19.mints⟩ : Node), ([] : List Outp)))))) else (K (r19, ([] : List Outp))))) else (bif (r18.2 == 0) then (f3 r18.1 block data fun r22 => (bif (r22.2 != 0) then (f2 (⟨n_0.id, n_0.up, r22.1, n_0.primary, n_0.state, n_0.session, n_0.peer, n_0.peerPri, n_0.req, n_0.asking, n_0.askId, n_0.wanted, true, (sub n_0.draws (Int.toNat 1) n_0.draws.length), (r9 ++ ([(⟨v1, n_0.store.sup.vector.current, n_0.id⟩ : Mint)] : List Mint))⟩ : Node) fun r23 => (bif (r22.2 == 0) then (bif (decide (([(⟨2, r23.id, id, 0, ([] : Str)⟩ : Outp)] : List Outp).length * 48 ≤ room)) then (K (r23, ([(⟨2, r23.id, id, 0, ([] : Str)⟩ : Outp)] : List Outp))) else False) else (K (r23, ([] : List Outp))))) else (bif (r22.2 == 0) then (bif (decide (([(⟨2, n_0.id, id, 0, ([] : Str)⟩ : Outp)] : List Outp).length * 48 ≤ room)) then (K ((⟨n_0.id, n_0.up, r22.1, n_0.primary, n_0.state, n_0.session, n_0.peer, n_0.peerPri, n_0.req, n_0.asking, n_0.askId, n_0.wanted, true, (sub n_0.draws (Int.toNat 1) n_0.draws.length), (r9 ++ ([(⟨v1, n_0.store.sup.vector.current, n_0.id⟩ : Mint)] : List Mint))⟩ : Node), ([(⟨2, n_0.id, id, 0, ([] : Str)⟩ : Outp)] : List Outp))) else False) else (K ((⟨n_0.id, n_0.up, r22.1, n_0.primary, n_0.state, n_0.session, n_0.peer, n_0.peerPri, n_0.req, n_0.asking, n_0.askId, n_0.wanted, true, (sub n_0.draws (Int.toNat 1) n_0.draws.length), (r9 ++ ([(⟨v1, n_0.store.sup.vector.current, n_0.id⟩ : Mint)] : List Mint))⟩ : Node), ([] : List Outp)))))) else (K ((⟨n_0.id, n_0.up, r18.1, n_0.primary, n_0.state, n_0.session, n_0.peer, n_0.peerPri, n_0.req, n_0.asking, n_0.askId, n_0.wanted, true, (sub n_0.draws (Int.toNat 1) n_0.draws.length), (r9 ++ ([(⟨v1, n_0.store.sup.vector.current, n_0.id⟩ : Mint)] : List Mint))⟩ : Node), ([] : List Outp))))))))) else False)) else False))) else False) else False))) else (f1 n_0.store block fun r24 => (bif (r24.2 != 0) then (f2 (⟨n_0.id, n_0.up, r24.1, n_0.primary, n_0.state, n_0.session, n_0.peer, n_0.peerPri, n_0.req, n_0.asking, n_0.askId, n_0.wanted, n_0.minted, n_0.draws, n_0.mints⟩ : Node) fun r25 => (bif (r24.2 == 0) then (f3 r25.store block data fun r26 => (bif (r26.2 != 0) then (f2 (⟨r25.id, r25.up, r26.1, r25.primary, r25.state, r25.session, r25.peer, r25.peerPri, r25.req, r25.asking, r25.askId, r25.wanted, r25.minted, r25.draws, r25.mints⟩ : Node) fun r27 => (bif (r26.2 == 0) then (bif (decide (([(⟨2, r27.id, id, 0, ([] : Str)⟩ : Outp)] : List Outp).length * 48 ≤ room)) then (K (r27, ([(⟨2, r27.id, id, 0, ([] : Str)⟩ : Outp)] : List Outp))) else False) else (K (r27, ([] : List Outp))))) else (bif (r26.2 == 0) then (bif (decide (([(⟨2, r25.id, id, 0, ([] : Str)⟩ : Outp)] : List Outp).length * 48 ≤ room)) then (K ((⟨r25.id, r25.up, r26.1, r25.primary, r25.state, r25.session, r25.peer, r25.peerPri, r25.req, r25.asking, r25.askId, r25.wanted, r25.minted, r25.draws, r25.mints⟩ : Node), ([(⟨2, r25.id, id, 0, ([] : Str)⟩ : Outp)] : List Outp))) else False) else (K ((⟨r25.id, r25.up, r26.1, r25.primary, r25.state, r25.session, r25.peer, r25.peerPri, r25.req, r25.asking, r25.askId, r25.wanted, r25.minted, r25.draws, r25.mints⟩ : Node), ([] : List Outp)))))) else (K (r25, ([] : List Outp))))) else (bif (r24.2 == 0) then (f3 r24.1 block data fun r28 => (bif (r28.2 != 0) then (f2 (⟨n_0.id, n_0.up, r28.1, n_0.primary, n_0.state, n_0.session, n_0.peer, n_0.peerPri, n_0.req, n_0.asking, n_0.askId, n_0.wanted, n_0.minted, n_0.draws, n_0.mints⟩ : Node) fun r29 => (bif (r28.2 == 0) then (bif (decide (([(⟨2, r29.id, id, 0, ([] : Str)⟩ : Outp)] : List Outp).length * 48 ≤ room)) then (K (r29, ([(⟨2, r29.id, id, 0, ([] : Str)⟩ : Outp)] : List Outp))) else False) else (K (r29, ([] : List Outp))))) else (bif (r28.2 == 0) then (bif (decide (([(⟨2, n_0.id, id, 0, ([] : Str)⟩ : Outp)] : List Outp).length * 48 ≤ room)) then (K ((⟨n_0.id, n_0.up, r28.1, n_0.primary, n_0.state, n_0.session, n_0.peer, n_0.peerPri, n_0.req, n_0.asking, n_0.askId, n_0.wanted, n_0.minted, n_0.draws, n_0.mints⟩ : Node), ([(⟨2, n_0.id, id, 0, ([] : Str)⟩ : Outp)] : List Outp))) else False) else (K ((⟨n_0.id, n_0.up, r28.1, n_0.primary, n_0.state, n_0.session, n_0.peer, n_0.peerPri, n_0.req, n_0.asking, n_0.askId, n_0.wanted, n_0.minted, n_0.draws, n_0.mints⟩ : Node), ([] : List Outp)))))) else (K ((⟨n_0.id, n_0.up, r24.1, n_0.primary, n_0.state, n_0.session, n_0.peer, n_0.peerPri, n_0.req, n_0.asking, n_0.askId, n_0.wanted, n_0.minted, n_0.draws, n_0.mints⟩ : Node), ([] : List Outp))))))) else (f1 n_0.store block fun r30 => (bif (r30.2 != 0) then (f2 (⟨n_0.id, n_0.up, r30.1, n_0.primary, n_0.state, n_0.session, n_0.peer, n_0.peerPri, n_0.req, n_0.asking, n_0.askId, n_0.wanted, n_0.minted, n_0.draws, n_0.mints⟩ : Node) fun r31 => (bif (r30.2 == 0) then (f3 r31.store block data fun r32 => (bif (r32.2 != 0) then (f2 (⟨r31.id, r31.up, r32.1, r31.primary, r31.state, r31.session, r31.peer, r31.peerPri, r31.req, r31.asking, r31.askId, r31.wanted, r31.minted, r31.draws, r31.mints⟩ : Node) fun r33 => (bif (r32.2 == 0) then (f6 (⟨2, r33.session, (⟨0, (⟨0, 0, 0, 0⟩ : Vec), false, false, false, false, 0⟩ : Hello), block, data⟩ : Packet) fun r34 => (bif (decide (([(⟨1, r33.id, 0, 0, r34.1⟩ : Outp)] : List Outp).length * 48 ≤ room)) then (K ((⟨r33.id, r33.up, r33.store, r33.primary, r33.state, r33.session, r33.peer, r33.peerPri, (⟨true, id, block, data⟩ : Req), r33.asking, r33.askId, r33.wanted, r33.minted, r33.draws, r33.mints⟩ : Node), ([(⟨1, r33.id, 0, 0, r34.1⟩ : Outp)] : List Outp))) else False)) else (K (r33, ([] : List Outp))))) else (bif (r32.2 == 0) then (f6 (⟨2, r31.session, (⟨0, (⟨0, 0, 0, 0⟩ : Vec), false, false, false, false, 0⟩ : Hello), block, data⟩ : Packet) fun r35 => (bif (decide (([(⟨1, r31.id, 0, 0, r35.1⟩ : Outp)] : List Outp).length * 48 ≤ room)) then (K ((⟨r31.id, r31.up, r32.1, r31.primary, r31.state, r31.session, r31.peer, r31.peerPri, (⟨true, id, block, data⟩ : Req), r31.asking, r31.askId, r31.wanted, r31.minted, r31.draws, r31.mints⟩ : Node), ([(⟨1, r31.id, 0, 0, r35.1⟩ : Outp)] : List Outp))) else False)) else (K ((⟨r31.id, r31.up, r32.1, r31.primary, r31.state, r31.session, r31.peer, r31.peerPri, r31.req, r31.asking, r31.askId, r31.wanted, r31.minted, r31.draws, r31.mints⟩ : Node), ([] : List Outp)))))) else (K (r31, ([] : List Outp))))) else (bif (r30.2 == 0) then (f3 r30.1 block data fun r36 => (bif (r36.2 != 0) then (f2 (⟨n_0.id, n_0.up, r36.1, n_0.primary, n_0.state, n_0.session, n_0.peer, n_0.peerPri, n_0.req, n_0.asking, n_0.askId, n_0.wanted, n_0.minted, n_0.draws, n_0.mints⟩ : Node) fun r37 => (bif (r36.2 == 0) then (f6 (⟨2, r37.session, (⟨0, (⟨0, 0, 0, 0⟩ : Vec), false, false, false, false, 0⟩ : Hello), block, data⟩ : Packet) fun r38 => (bif (decide (([(⟨1, r37.id, 0, 0, r38.1⟩ : Outp)] : List Outp).length * 48 ≤ room)) then (K ((⟨r37.id, r37.up, r37.store, r37.primary, r37.state, r37.session, r37.peer, r37.peerPri, (⟨true, id, block, data⟩ : Req), r37.asking, r37.askId, r37.wanted, r37.minted, r37.draws, r37.mints⟩ : Node), ([(⟨1, r37.id, 0, 0, r38.1⟩ : Outp)] : List Outp))) else False)) else (K (r37, ([] : List Outp))))) else (bif (r36.2 == 0) then (f6 (⟨2, n_0.session, (⟨0, (⟨0, 0, 0, 0⟩ : Vec), false, false, false, false, 0⟩ : Hello), block, data⟩ : Packet) fun r39 => (bif (decide (([(⟨1, n_0.id, 0, 0, r39.1⟩ : Outp)] : List Outp).length * 48 ≤ room)) then (K ((⟨n_0.id, n_0.up, r36.1, n_0.primary, n_0.state, n_0.session, n_0.peer, n_0.peerPri, (⟨true, id, block, data⟩ : Req), n_0.asking, n_0.askId, n_0.wanted, n_0.minted, n_0.draws, n_0.mints⟩ : Node), ([(⟨1, n_0.id, 0, 0, r39.1⟩ : Outp)] : List Outp))) else False)) else (K ((⟨n_0.id, n_0.up, r36.1, n_0.primary, n_0.state, n_0.session, n_0.peer, n_0.peerPri, n_0.req, n_0.asking, n_0.askId, n_0.wanted, n_0.minted, n_0.draws, n_0.mints⟩ : Node), ([] : List Outp)))))) else (K ((⟨n_0.id, n_0.up, r30.1, n_0.primary, n_0.state, n_0.session, n_0.peer, n_0.peerPri, n_0.req, n_0.asking, n_0.askId, n_0.wanted, n_0.minted, n_0.draws, n_0.mints⟩ : Node), ([] : List Outp))))))))))))))
def F (n_0 : Node) (id : Int) (block : Int) (data : Str) (K : (Node × (List Outp)) → Prop) : Prop := FV q128.F q159.F q151.F q162.F q129.F q150.F q167.F n_0 id block data K
noncomputable def en : Entry := mkEntry A C fun x => F x.1 x.2.1 x.2.2.1 x.2.2.2.1
theorem eqv (f0 : q128.T) (f1 : q159.T) (f2 : q151.T) (f3 : q162.T) (f4 : q129.T) (f5 : q150.T) (f6 : q167.T) (n_0 : Node) (id : Int) (block : Int) (data : Str) (K : (Node × (List Outp)) → Prop) : apure E (tabV f0 f1 f2 f3 f4 f5 f6) (fun _ => none) 4 10 [enc (.st 13) n_0, enc (.int .i64) id, enc (.int .i64) block, enc .str data] (ansK C K) = FV f0 f1 f2 f3 f4 f5 f6 n_0 id block data K := by kernel_rfl
theorem loops : LoopsOk E tab (fun _ => none) 4 10 := loops_none _ _ _ _
theorem det (n_0 : Node) (id : Int) (block : Int) (data : Str) : Det (F n_0 id block data) := by
  unfold F FV
  repeat' with_reducible first | exact det_ret _ | exact det_false | refine det_cond _ ?_ ?_ | refine det_oget _ (fun _ => ?_) | refine det_bind (q128.det _ _) (fun _ => ?_) | refine det_bind (q159.det _ _) (fun _ => ?_) | refine det_bind (q151.det _) (fun _ => ?_) | refine det_bind (q162.det _ _ _) (fun _ => ?_) | refine det_bind (q129.det _) (fun _ => ?_) | refine det_bind (q150.det _ _) (fun _ => ?_) | refine det_bind (q167.det _) (fun _ => ?_)
theorem edet (a : List AV) : Det (en a) := mkEntry_det (fun x : Dens A => det x.1 x.2.1 x.2.2.1 x.2.2.2.1) a
theorem ground : Ground E tab := ⟨num, mixed, (tab_cons q128.sound (tab_cons q159.sound (tab_cons q151.sound (tab_cons q162.sound (tab_cons q129.sound (tab_cons q150.sound (tab_cons q167.sound (tab_nil _)))))))), clone, (dtab_cons q128.edet (dtab_cons q159.edet (dtab_cons q151.edet (dtab_cons q162.edet (dtab_cons q129.edet (dtab_cons q150.edet (dtab_cons q167.edet dtab_nil))))))), stab⟩
theorem sound : EntrySound E 10 en := mkSound ground loops (by kernel_rfl) (fun (x : Dens A) K => eqv q128.F q159.F q151.F q162.F q129.F q150.F q167.F x.1 x.2.1 x.2.2.1 x.2.2.2.1 K)
end q168
namespace q169
abbrev A : List Ty := [(.st 13)]
abbrev C := (cTwo (.st 13) (.slice (.st 11)))
abbrev T : Type := Node → ((Node × (List Outp)) → Prop) → Prop
noncomputable def tabV (f0 : q128.T) (f1 : q129.T) (f2 : q150.T) (f3 : q151.T) : Tab := [(51, mkEntry q128.A q128.C fun x => f0 x.1 x.2.1), (52, mkEntry q129.A q129.C fun x => f1 x.1), (54, mkEntry q150.A q150.C fun x => f2 x.1 x.2.1), (55, mkEntry q151.A q151.C fun x => f3 x.1)]
noncomputable def tab : Tab := tabV q128.F q129.F q150.F q151.F
def FV (f0 : q128.T) (f1 : q129.T) (f2 : q150.T) (f3 : q151.T) (n_0 : Node) (K : (Node × (List Outp)) → Prop) : Prop :=
  (bif (n_0.state == 0) then (K (n_0, ([] : List Outp))) else (bif n_0.asking then (bif (decide (([(⟨2, n_0.id, n_0.askId, 13, ([] : Str)⟩ : Outp)] : List Outp).length * 48 ≤ room)) then (bif n_0.req.on then (bif ((n_0.draws.length : Int) == 0) then (bif (decide ((([(⟨2, n_0.id, n_0.askId, 13, ([] : Str)⟩ : Outp)] : List Outp).length + ([(⟨2, n_0.id, n_0.req.id, 14, ([] : Str)⟩ : Outp)] : List Outp).length) * 48 ≤ room)) then (K ((⟨n_0.id, n_0.up, n_0.store, n_0.primary, 0, 0, (⟨0, (⟨0, 0, 0, 0⟩ : Vec), false, false, false, false, 0⟩ : Hello), false, (⟨false, 0, 0, ([] : Str)⟩ : Req), false, 0, 0, false, n_0.draws, n_0.mints⟩ : Node), (([(⟨2, n_0.id, n_0.askId, 13, ([] : Str)⟩ : Outp)] : List Outp) ++ ([(⟨2, n_0.id, n_0.req.id, 14, ([] : Str)⟩ : Outp)] : List Outp)))) else False) else (oget (getI n_0.draws 0) fun v1 => (bif (decide (0 ≤ 1) && decide (1 ≤ (n_0.draws.length : Int))) then (bif (decide ((sub n_0.draws (Int.toNat 1) n_0.draws.length).length * 8 ≤ room)) then (f0 n_0.store.sup.vector v1 fun r2 => (bif (r2.2 != 0) then (bif (r2.2 != 6) then (bif (decide ((([(⟨2, n_0.id, n_0.askId, 13, ([] : Str)⟩ : Outp)] : List Outp).length + ([(⟨2, n_0.id, n_0.req.id, r2.2, ([] : Str)⟩ : Outp)] : List Outp).length) * 48 ≤ room)) then (K ((⟨n_0.id, n_0.up, n_0.store, n_0.primary, 0, 0, (⟨0, (⟨0, 0, 0, 0⟩ : Vec), false, false, false, false, 0⟩ : Hello), false, (⟨false, 0, 0, ([] : Str)⟩ : Req), false, 0, 0, false, (sub n_0.draws (Int.toNat 1) n_0.draws.length), n_0.mints⟩ : Node), (([(⟨2, n_0.id, n_0.askId, 13, ([] : Str)⟩ : Outp)] : List Outp) ++ ([(⟨2, n_0.id, n_0.req.id, r2.2, ([] : Str)⟩ : Outp)] : List Outp)))) else False) else (K ((⟨n_0.id, n_0.up, n_0.store, n_0.primary, 0, 0, (⟨0, (⟨0, 0, 0, 0⟩ : Vec), false, false, false, false, 0⟩ : Hello), false, (⟨false, 0, 0, ([] : Str)⟩ : Req), false, 0, 0, false, (sub n_0.draws (Int.toNat 1) n_0.draws.length), n_0.mints⟩ : Node), ([(⟨2, n_0.id, n_0.askId, 13, ([] : Str)⟩ : Outp)] : List Outp)))) else (bif (decide (n_0.mints.length * 24 ≤ room)) then (f1 n_0.mints fun r3 => (bif (decide ((r3.length + ([(⟨v1, n_0.store.sup.vector.current, n_0.id⟩ : Mint)] : List Mint).length) * 24 ≤ room)) then (f2 n_0.store (⟨n_0.store.sup.blocks, r2.1, n_0.store.sup.inc, n_0.store.sup.pri, n_0.store.sup.dis⟩ : Super) fun r4 => (bif (r4.2 != 0) then (f3 (⟨n_0.id, n_0.up, r4.1, n_0.primary, 0, 0, (⟨0, (⟨0, 0, 0, 0⟩ : Vec), false, false, false, false, 0⟩ : Hello), false, (⟨false, 0, 0, ([] : Str)⟩ : Req), false, 0, 0, false, (sub n_0.draws (Int.toNat 1) n_0.draws.length), (r3 ++ ([(⟨v1, n_0.store.sup.vector.current, n_0.id⟩ : Mint)] : List Mint))⟩ : Node) fun r5 => (bif (!(r4.2 == 0)) then (K (r5, ([(⟨2, n_0.id, n_0.askId, 13, ([] : Str)⟩ : Outp)] : List Outp))) else (bif (decide ((([(⟨2, n_0.id, n_0.askId, 13, ([] : Str)⟩ : Outp)] : List Outp).length + ([(⟨2, r5.id, n_0.req.id, 0, ([] : Str)⟩ : Outp)] : List Outp).length) * 48 ≤ room)) then (K ((⟨r5.id, r5.up, r5.store, r5.primary, r5.state, r5.session, r5.peer, r5.peerPri, r5.req, r5.asking, r5.askId, r5.wanted, true, r5.draws, r5.mints⟩ : Node), (([(⟨2, n_0.id, n_0.askId, 13, ([] : Str)⟩ : Outp)] : List Outp) ++ ([(⟨2, r5.id, n_0.req.id, 0, ([] : Str)⟩ : Outp)] : List Outp)))) else False))) else (bif (!(r4.2 == 0)) then (K ((⟨n_0.id, n_0.up, r4.1, n_0.primary, 0, 0, (⟨0, (⟨0, 0, 0, 0⟩ : Vec), false, false, false, false, 0⟩ : Hello), false, (⟨false, 0, 0, ([] : Str)⟩ : Req), false, 0, 0, false, (sub n_0.draws (Int.toNat 1) n_0.draws.length), (r3 ++ ([(⟨v1, n_0.store.sup.vector.current, n_0.id⟩ : Mint)] : List Mint))⟩ : Node), ([(⟨2, n_0.id, n_0.askId, 13, ([] : Str)⟩ : Outp)] : List Outp))) else (bif (decide ((([(⟨2, n_0.id, n_0.askId, 13, ([] : Str)⟩ : Outp)] : List Outp).length + ([(⟨2, n_0.id, n_0.req.id, 0, ([] : Str)⟩ : Outp)] : List Outp).length) * 48 ≤ room)) then (K ((⟨n_0.id, n_0.up, r4.1, n_0.primary, 0, 0, (⟨0, (⟨0, 0, 0, 0⟩ : Vec), false, false, false, false, 0⟩ : Hello), false, (⟨false, 0, 0, ([] : Str)⟩ : Req), false, 0, 0, true, (sub n_0.draws (Int.toNat 1) n_0.draws.length), (r3 ++ ([(⟨v1, n_0.store.sup.vector.current, n_0.id⟩ : Mint)] : List Mint))⟩ : Node), (([(⟨2, n_0.id, n_0.askId, 13, ([] : Str)⟩ : Outp)] : List Outp) ++ ([(⟨2, n_0.id, n_0.req.id, 0, ([] : Str)⟩ : Outp)] : List Outp)))) else False)))) else False)) else False))) else False) else False))) else (K ((⟨n_0.id, n_0.up, n_0.store, n_0.primary, 0, 0, (⟨0, (⟨0, 0, 0, 0⟩ : Vec), false, false, false, false, 0⟩ : Hello), false, (⟨false, 0, 0, ([] : Str)⟩ : Req), false, 0, 0, false, n_0.draws, n_0.mints⟩ : Node), ([(⟨2, n_0.id, n_0.askId, 13, ([] : Str)⟩ : Outp)] : List Outp)))) else False) else (bif n_0.req.on then (bif ((n_0.draws.length : Int) == 0) then (bif (decide (([(⟨2, n_0.id, n_0.req.id, 14, ([] : Str)⟩ : Outp)] : List Outp).length * 48 ≤ room)) then (K ((⟨n_0.id, n_0.up, n_0.store, n_0.primary, 0, 0, (⟨0, (⟨0, 0, 0, 0⟩ : Vec), false, false, false, false, 0⟩ : Hello), false, (⟨false, 0, 0, ([] : Str)⟩ : Req), false, 0, 0, false, n_0.draws, n_0.mints⟩ : Node), ([(⟨2, n_0.id, n_0.req.id, 14, ([] : Str)⟩ : Outp)] : List Outp))) else False) else (oget (getI n_0.draws 0) fun v6 => (bif (decide (0 ≤ 1) && decide (1 ≤ (n_0.draws.length : Int))) then (bif (decide ((sub n_0.draws (Int.toNat 1) n_0.draws.length).length * 8 ≤ room)) then (f0 n_0.store.sup.vector v6 fun r7 => (bif (r7.2 != 0) then (bif (r7.2 != 6) then (bif (decide (([(⟨2, n_0.id, n_0.req.id, r7.2, ([] : Str)⟩ : Outp)] : List Outp).length * 48 ≤ room)) then (K ((⟨n_0.id, n_0.up, n_0.store, n_0.primary, 0, 0, (⟨0, (⟨0, 0, 0, 0⟩ : Vec), false, false, false, false, 0⟩ : Hello), false, (⟨false, 0, 0, ([] : Str)⟩ : Req), false, 0, 0, false, (sub n_0.draws (Int.toNat 1) n_0.draws.length), n_0.mints⟩ : Node), ([(⟨2, n_0.id, n_0.req.id, r7.2, ([] : Str)⟩ : Outp)] : List Outp))) else False) else (K ((⟨n_0.id, n_0.up, n_0.store, n_0.primary, 0, 0, (⟨0, (⟨0, 0, 0, 0⟩ : Vec), false, false, false, false, 0⟩ : Hello), false, (⟨false, 0, 0, ([] : Str)⟩ : Req), false, 0, 0, false, (sub n_0.draws (Int.toNat 1) n_0.draws.length), n_0.mints⟩ : Node), ([] : List Outp)))) else (bif (decide (n_0.mints.length * 24 ≤ room)) then (f1 n_0.mints fun r8 => (bif (decide ((r8.length + ([(⟨v6, n_0.store.sup.vector.current, n_0.id⟩ : Mint)] : List Mint).length) * 24 ≤ room)) then (f2 n_0.store (⟨n_0.store.sup.blocks, r7.1, n_0.store.sup.inc, n_0.store.sup.pri, n_0.store.sup.dis⟩ : Super) fun r9 => (bif (r9.2 != 0) then (f3 (⟨n_0.id, n_0.up, r9.1, n_0.primary, 0, 0, (⟨0, (⟨0, 0, 0, 0⟩ : Vec), false, false, false, false, 0⟩ : Hello), false, (⟨false, 0, 0, ([] : Str)⟩ : Req), false, 0, 0, false, (sub n_0.draws (Int.toNat 1) n_0.draws.length), (r8 ++ ([(⟨v6, n_0.store.sup.vector.current, n_0.id⟩ : Mint)] : List Mint))⟩ : Node) fun r10 => (bif (!(r9.2 == 0)) then (K (r10, ([] : List Outp))) else (bif (decide (([(⟨2, r10.id, n_0.req.id, 0, ([] : Str)⟩ : Outp)] : List Outp).length * 48 ≤ room)) then (K ((⟨r10.id, r10.up, r10.store, r10.primary, r10.state, r10.session, r10.peer, r10.peerPri, r10.req, r10.asking, r10.askId, r10.wanted, true, r10.draws, r10.mints⟩ : Node), ([(⟨2, r10.id, n_0.req.id, 0, ([] : Str)⟩ : Outp)] : List Outp))) else False))) else (bif (!(r9.2 == 0)) then (K ((⟨n_0.id, n_0.up, r9.1, n_0.primary, 0, 0, (⟨0, (⟨0, 0, 0, 0⟩ : Vec), false, false, false, false, 0⟩ : Hello), false, (⟨false, 0, 0, ([] : Str)⟩ : Req), false, 0, 0, false, (sub n_0.draws (Int.toNat 1) n_0.draws.length), (r8 ++ ([(⟨v6, n_0.store.sup.vector.current, n_0.id⟩ : Mint)] : List Mint))⟩ : Node), ([] : List Outp))) else (bif (decide (([(⟨2, n_0.id, n_0.req.id, 0, ([] : Str)⟩ : Outp)] : List Outp).length * 48 ≤ room)) then (K ((⟨n_0.id, n_0.up, r9.1, n_0.primary, 0, 0, (⟨0, (⟨0, 0, 0, 0⟩ : Vec), false, false, false, false, 0⟩ : Hello), false, (⟨false, 0, 0, ([] : Str)⟩ : Req), false, 0, 0, true, (sub n_0.draws (Int.toNat 1) n_0.draws.length), (r8 ++ ([(⟨v6, n_0.store.sup.vector.current, n_0.id⟩ : Mint)] : List Mint))⟩ : Node), ([(⟨2, n_0.id, n_0.req.id, 0, ([] : Str)⟩ : Outp)] : List Outp))) else False)))) else False)) else False))) else False) else False))) else (K ((⟨n_0.id, n_0.up, n_0.store, n_0.primary, 0, 0, (⟨0, (⟨0, 0, 0, 0⟩ : Vec), false, false, false, false, 0⟩ : Hello), false, (⟨false, 0, 0, ([] : Str)⟩ : Req), false, 0, 0, false, n_0.draws, n_0.mints⟩ : Node), ([] : List Outp))))))
def F (n_0 : Node) (K : (Node × (List Outp)) → Prop) : Prop := FV q128.F q129.F q150.F q151.F n_0 K
noncomputable def en : Entry := mkEntry A C fun x => F x.1
theorem eqv (f0 : q128.T) (f1 : q129.T) (f2 : q150.T) (f3 : q151.T) (n_0 : Node) (K : (Node × (List Outp)) → Prop) : apure E (tabV f0 f1 f2 f3) (fun _ => none) 4 16 [enc (.st 13) n_0] (ansK C K) = FV f0 f1 f2 f3 n_0 K := by kernel_rfl
theorem loops : LoopsOk E tab (fun _ => none) 4 16 := loops_none _ _ _ _
theorem det (n_0 : Node) : Det (F n_0) := by
  unfold F FV
  repeat' with_reducible first | exact det_ret _ | exact det_false | refine det_cond _ ?_ ?_ | refine det_oget _ (fun _ => ?_) | refine det_bind (q128.det _ _) (fun _ => ?_) | refine det_bind (q129.det _) (fun _ => ?_) | refine det_bind (q150.det _ _) (fun _ => ?_) | refine det_bind (q151.det _) (fun _ => ?_)
theorem edet (a : List AV) : Det (en a) := mkEntry_det (fun x : Dens A => det x.1) a
theorem ground : Ground E tab := ⟨num, mixed, (tab_cons q128.sound (tab_cons q129.sound (tab_cons q150.sound (tab_cons q151.sound (tab_nil _))))), clone, (dtab_cons q128.edet (dtab_cons q129.edet (dtab_cons q150.edet (dtab_cons q151.edet dtab_nil)))), stab⟩
theorem sound : EntrySound E 16 en := mkSound ground loops (by kernel_rfl) (fun (x : Dens A) K => eqv q128.F q129.F q150.F q151.F x.1 K)
end q169
namespace q170
abbrev A : List Ty := [(.int .u32), (.slice (.int .i64))]
abbrev C := (cTy (.int .u32))
abbrev T : Type := Int → (List Int) → (Int → Prop) → Prop
noncomputable def tabV (f0 : q153.T) : Tab := [(94, mkEntry q153.A q153.C fun x => f0 x.1)]
noncomputable def tab : Tab := tabV q153.F
def FV (f0 : q153.T) (m : Int) (l : (List Int)) (K : Int → Prop) : Prop :=
  (f0 l fun r1 => (K (iandn .u32 m r1)))
def F (m : Int) (l : (List Int)) (K : Int → Prop) : Prop := FV q153.F m l K
noncomputable def en : Entry := mkEntry A C fun x => F x.1 x.2.1
theorem eqv (f0 : q153.T) (m : Int) (l : (List Int)) (K : Int → Prop) : apure E (tabV f0) (fun _ => none) 4 58 [enc (.int .u32) m, enc (.slice (.int .i64)) l] (ansK C K) = FV f0 m l K := by kernel_rfl
theorem loops : LoopsOk E tab (fun _ => none) 4 58 := loops_none _ _ _ _
theorem det (m : Int) (l : (List Int)) : Det (F m l) := by
  unfold F FV
  repeat' with_reducible first | exact det_ret _ | exact det_false | refine det_cond _ ?_ ?_ | refine det_oget _ (fun _ => ?_) | refine det_bind (q153.det _) (fun _ => ?_)
theorem edet (a : List AV) : Det (en a) := mkEntry_det (fun x : Dens A => det x.1 x.2.1) a
theorem ground : Ground E tab := ⟨num, mixed, (tab_cons q153.sound (tab_nil _)), clone, (dtab_cons q153.edet dtab_nil), stab⟩
theorem sound : EntrySound E 58 en := mkSound ground loops (by kernel_rfl) (fun (x : Dens A) K => eqv q153.F x.1 x.2.1 K)
end q170
namespace q171
abbrev A : List Ty := [(.st 8), (.int .i64)]
abbrev C := (cTwo (.st 8) (.int .i64))
abbrev T : Type := Store → Int → ((Store × Int) → Prop) → Prop
noncomputable def tabV (f0 : q152.T) (f1 : q170.T) (f2 : q157.T) : Tab := [(56, mkEntry q152.A q152.C fun x => f0 x.1 x.2.1), (58, mkEntry q170.A q170.C fun x => f1 x.1 x.2.1), (59, mkEntry q157.A q157.C fun x => f2 x.1 x.2.1)]
noncomputable def tab : Tab := tabV q152.F q170.F q157.F
def FV (f0 : q152.T) (f1 : q170.T) (f2 : q157.T) (s : Store) (i : Int) (K : (Store × Int) → Prop) : Prop :=
  (f0 s i fun r1 => (bif (!r1) then (K (s, 4)) else (f1 s.mask ([i] : List Int) fun r2 => (bif (r2 == s.mask) then (K (s, 0)) else (f2 s.disk r2 fun r3 => (bif (r3.2 == 0) then (K ((⟨r3.1, s.sup, r2⟩ : Store), r3.2)) else (K ((⟨r3.1, s.sup, s.mask⟩ : Store), r3.2))))))))
def F (s : Store) (i : Int) (K : (Store × Int) → Prop) : Prop := FV q152.F q170.F q157.F s i K
noncomputable def en : Entry := mkEntry A C fun x => F x.1 x.2.1
theorem eqv (f0 : q152.T) (f1 : q170.T) (f2 : q157.T) (s : Store) (i : Int) (K : (Store × Int) → Prop) : apure E (tabV f0 f1 f2) (fun _ => none) 4 36 [enc (.st 8) s, enc (.int .i64) i] (ansK C K) = FV f0 f1 f2 s i K := by kernel_rfl
theorem loops : LoopsOk E tab (fun _ => none) 4 36 := loops_none _ _ _ _
theorem det (s : Store) (i : Int) : Det (F s i) := by
  unfold F FV
  repeat' with_reducible first | exact det_ret _ | exact det_false | refine det_cond _ ?_ ?_ | refine det_oget _ (fun _ => ?_) | refine det_bind (q152.det _ _) (fun _ => ?_) | refine det_bind (q170.det _ _) (fun _ => ?_) | refine det_bind (q157.det _ _) (fun _ => ?_)
theorem edet (a : List AV) : Det (en a) := mkEntry_det (fun x : Dens A => det x.1 x.2.1) a
theorem ground : Ground E tab := ⟨num, mixed, (tab_cons q152.sound (tab_cons q170.sound (tab_cons q157.sound (tab_nil _)))), clone, (dtab_cons q152.edet (dtab_cons q170.edet (dtab_cons q157.edet dtab_nil))), stab⟩
theorem sound : EntrySound E 36 en := mkSound ground loops (by kernel_rfl) (fun (x : Dens A) K => eqv q152.F q170.F q157.F x.1 x.2.1 K)
end q171
namespace q172
abbrev A : List Ty := [(.st 13), (.int .i64)]
abbrev C := (cTwo (.st 13) (.slice (.st 11)))
abbrev T : Type := Node → Int → ((Node × (List Outp)) → Prop) → Prop
noncomputable def tabV (f0 : q171.T) (f1 : q151.T) (f2 : q167.T) : Tab := [(36, mkEntry q171.A q171.C fun x => f0 x.1 x.2.1), (55, mkEntry q151.A q151.C fun x => f1 x.1), (41, mkEntry q167.A q167.C fun x => f2 x.1)]
noncomputable def tab : Tab := tabV q171.F q151.F q167.F
def FV (f0 : q171.T) (f1 : q151.T) (f2 : q167.T) (n_0 : Node) (block : Int) (K : (Node × (List Outp)) → Prop) : Prop :=
  (bif (!n_0.req.on) then (K (n_0, ([] : List Outp))) else (bif (n_0.req.block != block) then (K (n_0, ([] : List Outp))) else (bif (decide (([(⟨2, n_0.id, n_0.req.id, 0, ([] : Str)⟩ : Outp)] : List Outp).length * 48 ≤ room)) then (f0 n_0.store block fun r1 => (bif (r1.2 != 0) then (f1 (⟨n_0.id, n_0.up, r1.1, n_0.primary, n_0.state, n_0.session, n_0.peer, n_0.peerPri, (⟨false, 0, 0, ([] : Str)⟩ : Req), n_0.asking, n_0.askId, n_0.wanted, n_0.minted, n_0.draws, n_0.mints⟩ : Node) fun r2 => (bif (r1.2 == 0) then (f2 (⟨4, r2.session, (⟨0, (⟨0, 0, 0, 0⟩ : Vec), false, false, false, false, 0⟩ : Hello), block, ([] : Str)⟩ : Packet) fun r3 => (bif (decide ((([(⟨2, n_0.id, n_0.req.id, 0, ([] : Str)⟩ : Outp)] : List Outp).length + ([(⟨1, r2.id, 0, 0, r3.1⟩ : Outp)] : List Outp).length) * 48 ≤ room)) then (K (r2, (([(⟨2, n_0.id, n_0.req.id, 0, ([] : Str)⟩ : Outp)] : List Outp) ++ ([(⟨1, r2.id, 0, 0, r3.1⟩ : Outp)] : List Outp)))) else False)) else (K (r2, ([(⟨2, n_0.id, n_0.req.id, 0, ([] : Str)⟩ : Outp)] : List Outp))))) else (bif (r1.2 == 0) then (f2 (⟨4, n_0.session, (⟨0, (⟨0, 0, 0, 0⟩ : Vec), false, false, false, false, 0⟩ : Hello), block, ([] : Str)⟩ : Packet) fun r4 => (bif (decide ((([(⟨2, n_0.id, n_0.req.id, 0, ([] : Str)⟩ : Outp)] : List Outp).length + ([(⟨1, n_0.id, 0, 0, r4.1⟩ : Outp)] : List Outp).length) * 48 ≤ room)) then (K ((⟨n_0.id, n_0.up, r1.1, n_0.primary, n_0.state, n_0.session, n_0.peer, n_0.peerPri, (⟨false, 0, 0, ([] : Str)⟩ : Req), n_0.asking, n_0.askId, n_0.wanted, n_0.minted, n_0.draws, n_0.mints⟩ : Node), (([(⟨2, n_0.id, n_0.req.id, 0, ([] : Str)⟩ : Outp)] : List Outp) ++ ([(⟨1, n_0.id, 0, 0, r4.1⟩ : Outp)] : List Outp)))) else False)) else (K ((⟨n_0.id, n_0.up, r1.1, n_0.primary, n_0.state, n_0.session, n_0.peer, n_0.peerPri, (⟨false, 0, 0, ([] : Str)⟩ : Req), n_0.asking, n_0.askId, n_0.wanted, n_0.minted, n_0.draws, n_0.mints⟩ : Node), ([(⟨2, n_0.id, n_0.req.id, 0, ([] : Str)⟩ : Outp)] : List Outp)))))) else False)))
def F (n_0 : Node) (block : Int) (K : (Node × (List Outp)) → Prop) : Prop := FV q171.F q151.F q167.F n_0 block K
noncomputable def en : Entry := mkEntry A C fun x => F x.1 x.2.1
theorem eqv (f0 : q171.T) (f1 : q151.T) (f2 : q167.T) (n_0 : Node) (block : Int) (K : (Node × (List Outp)) → Prop) : apure E (tabV f0 f1 f2) (fun _ => none) 4 17 [enc (.st 13) n_0, enc (.int .i64) block] (ansK C K) = FV f0 f1 f2 n_0 block K := by kernel_rfl
theorem loops : LoopsOk E tab (fun _ => none) 4 17 := loops_none _ _ _ _
theorem det (n_0 : Node) (block : Int) : Det (F n_0 block) := by
  unfold F FV
  repeat' with_reducible first | exact det_ret _ | exact det_false | refine det_cond _ ?_ ?_ | refine det_oget _ (fun _ => ?_) | refine det_bind (q171.det _ _) (fun _ => ?_) | refine det_bind (q151.det _) (fun _ => ?_) | refine det_bind (q167.det _) (fun _ => ?_)
theorem edet (a : List AV) : Det (en a) := mkEntry_det (fun x : Dens A => det x.1 x.2.1) a
theorem ground : Ground E tab := ⟨num, mixed, (tab_cons q171.sound (tab_cons q151.sound (tab_cons q167.sound (tab_nil _)))), clone, (dtab_cons q171.edet (dtab_cons q151.edet (dtab_cons q167.edet dtab_nil))), stab⟩
theorem sound : EntrySound E 17 en := mkSound ground loops (by kernel_rfl) (fun (x : Dens A) K => eqv q171.F q151.F q167.F x.1 x.2.1 K)
end q172
namespace q173
abbrev A : List Ty := [(.st 13), (.int .i64), .str]
abbrev C := (cTwo (.st 13) (.slice (.st 11)))
abbrev T : Type := Node → Int → Str → ((Node × (List Outp)) → Prop) → Prop
noncomputable def tabV (f0 : q159.T) (f1 : q151.T) (f2 : q162.T) (f3 : q167.T) : Tab := [(39, mkEntry q159.A q159.C fun x => f0 x.1 x.2.1), (55, mkEntry q151.A q151.C fun x => f1 x.1), (40, mkEntry q162.A q162.C fun x => f2 x.1 x.2.1 x.2.2.1), (41, mkEntry q167.A q167.C fun x => f3 x.1)]
noncomputable def tab : Tab := tabV q159.F q151.F q162.F q167.F
def FV (f0 : q159.T) (f1 : q151.T) (f2 : q162.T) (f3 : q167.T) (n_0 : Node) (block : Int) (data : Str) (K : (Node × (List Outp)) → Prop) : Prop :=
  (f0 n_0.store block fun r1 => (bif (r1.2 != 0) then (f1 (⟨n_0.id, n_0.up, r1.1, n_0.primary, n_0.state, n_0.session, n_0.peer, n_0.peerPri, n_0.req, n_0.asking, n_0.askId, n_0.wanted, n_0.minted, n_0.draws, n_0.mints⟩ : Node) fun r2 => (bif (r1.2 == 0) then (f2 r2.store block data fun r3 => (bif (r3.2 != 0) then (f1 (⟨r2.id, r2.up, r3.1, r2.primary, r2.state, r2.session, r2.peer, r2.peerPri, r2.req, r2.asking, r2.askId, r2.wanted, r2.minted, r2.draws, r2.mints⟩ : Node) fun r4 => (bif (r3.2 == 0) then (f3 (⟨3, r4.session, (⟨0, (⟨0, 0, 0, 0⟩ : Vec), false, false, false, false, 0⟩ : Hello), block, ([] : Str)⟩ : Packet) fun r5 => (bif (decide (([(⟨1, r4.id, 0, 0, r5.1⟩ : Outp)] : List Outp).length * 48 ≤ room)) then (K (r4, ([(⟨1, r4.id, 0, 0, r5.1⟩ : Outp)] : List Outp))) else False)) else (K (r4, ([] : List Outp))))) else (bif (r3.2 == 0) then (f3 (⟨3, r2.session, (⟨0, (⟨0, 0, 0, 0⟩ : Vec), false, false, false, false, 0⟩ : Hello), block, ([] : Str)⟩ : Packet) fun r6 => (bif (decide (([(⟨1, r2.id, 0, 0, r6.1⟩ : Outp)] : List Outp).length * 48 ≤ room)) then (K ((⟨r2.id, r2.up, r3.1, r2.primary, r2.state, r2.session, r2.peer, r2.peerPri, r2.req, r2.asking, r2.askId, r2.wanted, r2.minted, r2.draws, r2.mints⟩ : Node), ([(⟨1, r2.id, 0, 0, r6.1⟩ : Outp)] : List Outp))) else False)) else (K ((⟨r2.id, r2.up, r3.1, r2.primary, r2.state, r2.session, r2.peer, r2.peerPri, r2.req, r2.asking, r2.askId, r2.wanted, r2.minted, r2.draws, r2.mints⟩ : Node), ([] : List Outp)))))) else (K (r2, ([] : List Outp))))) else (bif (r1.2 == 0) then (f2 r1.1 block data fun r7 => (bif (r7.2 != 0) then (f1 (⟨n_0.id, n_0.up, r7.1, n_0.primary, n_0.state, n_0.session, n_0.peer, n_0.peerPri, n_0.req, n_0.asking, n_0.askId, n_0.wanted, n_0.minted, n_0.draws, n_0.mints⟩ : Node) fun r8 => (bif (r7.2 == 0) then (f3 (⟨3, r8.session, (⟨0, (⟨0, 0, 0, 0⟩ : Vec), false, false, false, false, 0⟩ : Hello), block, ([] : Str)⟩ : Packet) fun r9 => (bif (decide (([(⟨1, r8.id, 0, 0, r9.1⟩ : Outp)] : List Outp).length * 48 ≤ room)) then (K (r8, ([(⟨1, r8.id, 0, 0, r9.1⟩ : Outp)] : List Outp))) else False)) else (K (r8, ([] : List Outp))))) else (bif (r7.2 == 0) then (f3 (⟨3, n_0.session, (⟨0, (⟨0, 0, 0, 0⟩ : Vec), false, false, false, false, 0⟩ : Hello), block, ([] : Str)⟩ : Packet) fun r10 => (bif (decide (([(⟨1, n_0.id, 0, 0, r10.1⟩ : Outp)] : List Outp).length * 48 ≤ room)) then (K ((⟨n_0.id, n_0.up, r7.1, n_0.primary, n_0.state, n_0.session, n_0.peer, n_0.peerPri, n_0.req, n_0.asking, n_0.askId, n_0.wanted, n_0.minted, n_0.draws, n_0.mints⟩ : Node), ([(⟨1, n_0.id, 0, 0, r10.1⟩ : Outp)] : List Outp))) else False)) else (K ((⟨n_0.id, n_0.up, r7.1, n_0.primary, n_0.state, n_0.session, n_0.peer, n_0.peerPri, n_0.req, n_0.asking, n_0.askId, n_0.wanted, n_0.minted, n_0.draws, n_0.mints⟩ : Node), ([] : List Outp)))))) else (K ((⟨n_0.id, n_0.up, r1.1, n_0.primary, n_0.state, n_0.session, n_0.peer, n_0.peerPri, n_0.req, n_0.asking, n_0.askId, n_0.wanted, n_0.minted, n_0.draws, n_0.mints⟩ : Node), ([] : List Outp))))))
def F (n_0 : Node) (block : Int) (data : Str) (K : (Node × (List Outp)) → Prop) : Prop := FV q159.F q151.F q162.F q167.F n_0 block data K
noncomputable def en : Entry := mkEntry A C fun x => F x.1 x.2.1 x.2.2.1
theorem eqv (f0 : q159.T) (f1 : q151.T) (f2 : q162.T) (f3 : q167.T) (n_0 : Node) (block : Int) (data : Str) (K : (Node × (List Outp)) → Prop) : apure E (tabV f0 f1 f2 f3) (fun _ => none) 4 18 [enc (.st 13) n_0, enc (.int .i64) block, enc .str data] (ansK C K) = FV f0 f1 f2 f3 n_0 block data K := by kernel_rfl
theorem loops : LoopsOk E tab (fun _ => none) 4 18 := loops_none _ _ _ _
theorem det (n_0 : Node) (block : Int) (data : Str) : Det (F n_0 block data) := by
  unfold F FV
  repeat' with_reducible first | exact det_ret _ | exact det_false | refine det_cond _ ?_ ?_ | refine det_oget _ (fun _ => ?_) | refine det_bind (q159.det _ _) (fun _ => ?_) | refine det_bind (q151.det _) (fun _ => ?_) | refine det_bind (q162.det _ _ _) (fun _ => ?_) | refine det_bind (q167.det _) (fun _ => ?_)
theorem edet (a : List AV) : Det (en a) := mkEntry_det (fun x : Dens A => det x.1 x.2.1 x.2.2.1) a
theorem ground : Ground E tab := ⟨num, mixed, (tab_cons q159.sound (tab_cons q151.sound (tab_cons q162.sound (tab_cons q167.sound (tab_nil _))))), clone, (dtab_cons q159.edet (dtab_cons q151.edet (dtab_cons q162.edet (dtab_cons q167.edet dtab_nil)))), stab⟩
theorem sound : EntrySound E 18 en := mkSound ground loops (by kernel_rfl) (fun (x : Dens A) K => eqv q159.F q151.F q162.F q167.F x.1 x.2.1 x.2.2.1 K)
end q173
end Gm
