/- Printed by a program (gen.py): the functions' answers, and that they are so. -/
import Derived.Test.YtbhgalddlkebgaaGmT1
import Derived.Test.YtbhgalddlkebgaaGmT2
import Derived.Test.YtbhgalddlkebgaaGmRd3
import Derived.Test.YtbhgalddlkebgaaGmRi2
import Derived.Test.YtbhgalddlkebgaaGmRp
import Derived.Test.YtbhgalddlkebgaaGmT3
import Derived.Test.YtbhgalddlkebgaaGmT5
set_option linter.unusedVariables false
set_option maxRecDepth 100000
namespace Gm
open Go Go.Proofs
namespace super_Right
noncomputable def tab : Tab := [(120, mask_All.en), (93, vector_Right.en)]
def F (s : Super) (K : Bool → Prop) : Prop :=
  (mask_All.F s.blocks fun r1 => (bif (r1 != 0) then (vector_Right.F s.vector fun r2 => (K r2)) else (K false)))
noncomputable def en : Entry := mkEntry [(.st 3)] (cTy .bool) fun x => F x.1
noncomputable def tabV (f0 : Int → (Int → Prop) → Prop) (f1 : Vec → (Bool → Prop) → Prop) : Tab := [(120, mkEntry [(.int .i64)] (cTy (.int .u32)) fun x => f0 x.1), (93, mkEntry [(.st 2)] (cTy .bool) fun x => f1 x.1)]
theorem tabE : tab = tabV mask_All.F vector_Right.F := by kernel_rfl
theorem eqv (f0 : Int → (Int → Prop) → Prop) (f1 : Vec → (Bool → Prop) → Prop) (s : Super) (K : Bool → Prop) : apure E (tabV f0 f1) (fun _ => none) 4 140 [enc (.st 3) s] (ansK ((cTy .bool)) K) =
  (f0 s.blocks fun r1 => (bif (r1 != 0) then (f1 s.vector fun r2 => (K r2)) else (K false))) := by kernel_rfl
theorem eq (x : Dens [(.st 3)]) (K : Bool → Prop) : apure E tab (fun _ => none) 4 140 (encA [(.st 3)] x) (ansK ((cTy .bool)) K) = F x.1 K := eqv mask_All.F vector_Right.F x.1 K
theorem loops : LoopsOk E tab (fun _ => none) 4 140 := loops_none _ _ _ _
theorem det (s : Super) : Det (F s) := by
  unfold F
  repeat' first | with_reducible exact det_ret _ | with_reducible exact det_false | with_reducible refine det_cond _ ?_ ?_ | with_reducible refine det_oget _ (fun _ => ?_) | with_reducible exact mask_All.det _ | with_reducible refine det_bind (mask_All.det _) (fun _ => ?_) | with_reducible exact vector_Right.det _ | with_reducible refine det_bind (vector_Right.det _) (fun _ => ?_)
theorem edet (args : List AV) : Det (en args) := mkEntry_det (ts := [(.st 3)]) (cod := (cTy .bool)) (F := fun x => F x.1) (fun x => det x.1) args
theorem ground : Ground E tab := ⟨num, mixed, (tab_cons mask_All.sound (tab_cons vector_Right.sound (tab_nil _))), clone, (dtab_cons mask_All.edet (dtab_cons vector_Right.edet dtab_nil))⟩
theorem has : ((E.P.funcs[140]?).bind (·.body)).isSome = true := by kernel_rfl
theorem sound : EntrySound E.P 140 en := mkSound (ts := [(.st 3)]) (cod := (cTy .bool)) (F := fun x => F x.1) ground loops has eq
end super_Right
namespace super_Encode
noncomputable def tab : Tab := [(140, super_Right.en), (40, num_Flags.en), (36, num_Put64.en), (27, check_Seal.en)]
structure R where
def cR (_ : R) : St := { fr := fun _ => .top, hs := hs0 }
def kR : Keep := { ks := [], bs := [], hn := 0 }
structure L0 where
  b0 : Str
  t25 : Int
  m0 : Int
  m0_1 : Int
  m0_2 : Int
  m0_3 : Int
  m0_4 : Int
  m0_5 : Bool
  m0_6 : Bool
  m0_7 : Bool
def c0 (x : L0) : St := { fr := lookL .top [(4, (.str x.b0)), (24, (.agg [(.ptr 0 1), (.ptr 0 2), (.ptr 0 3), (.ptr 0 4)])), (25, (.int .i64 x.t25))], hs := { hp := lookL .dead [(0, (.cells [(.int .i64 x.m0), (.int .u64 x.m0_1), (.int .u64 x.m0_2), (.int .u64 x.m0_3), (.int .u64 x.m0_4), (.bool x.m0_5), (.bool x.m0_6), (.bool x.m0_7)]))], hn := 2 } }
def kp0 : Keep := { ks := [(4, none), (24, none), (25, none)], bs := [0], hn := 2 }
def p0 (st : St) (K : L0 → Prop) : Prop := gStr (st.fr 4) fun a1 => gAgg (st.fr 24) fun c2 => gCons c2 fun c3 c4 => gPtr 0 1 c3 <| gCons c4 fun c5 c6 => gPtr 0 2 c5 <| gCons c6 fun c7 c8 => gPtr 0 3 c7 <| gCons c8 fun c9 c10 => gPtr 0 4 c9 <| gNil c10 <| gInt .i64 (st.fr 25) fun a11 => gCells (st.hs.hp 0) fun c12 => gCons c12 fun c13 c14 => gInt .i64 c13 fun a15 => gCons c14 fun c16 c17 => gInt .u64 c16 fun a18 => gCons c17 fun c19 c20 => gInt .u64 c19 fun a21 => gCons c20 fun c22 c23 => gInt .u64 c22 fun a24 => gCons c23 fun c25 c26 => gInt .u64 c25 fun a27 => gCons c26 fun c28 c29 => gBool c28 fun a30 => gCons c29 fun c31 c32 => gBool c31 fun a33 => gCons c32 fun c34 c35 => gBool c34 fun a36 => gNil c35 <| K ⟨a1, a11, a15, a18, a21, a24, a27, a30, a33, a36⟩
theorem p0_ok (st : St) (K : L0 → Prop) (h : p0 st K) : ∃ x, keepSt kp0 st = c0 x ∧ K x := by
  obtain ⟨a1, h0, h⟩ := gStr_elim h
  obtain ⟨c2, h1, h⟩ := gAgg_elim h
  obtain ⟨c3, c4, h2, h⟩ := gCons_elim h
  obtain ⟨h3, h⟩ := gPtr_elim h
  obtain ⟨c5, c6, h4, h⟩ := gCons_elim h
  obtain ⟨h5, h⟩ := gPtr_elim h
  obtain ⟨c7, c8, h6, h⟩ := gCons_elim h
  obtain ⟨h7, h⟩ := gPtr_elim h
  obtain ⟨c9, c10, h8, h⟩ := gCons_elim h
  obtain ⟨h9, h⟩ := gPtr_elim h
  obtain ⟨h10, h⟩ := gNil_elim h
  obtain ⟨a11, h11, h⟩ := gInt_elim h
  obtain ⟨c12, h12, h⟩ := gCells_elim h
  obtain ⟨c13, c14, h13, h⟩ := gCons_elim h
  obtain ⟨a15, h14, h⟩ := gInt_elim h
  obtain ⟨c16, c17, h15, h⟩ := gCons_elim h
  obtain ⟨a18, h16, h⟩ := gInt_elim h
  obtain ⟨c19, c20, h17, h⟩ := gCons_elim h
  obtain ⟨a21, h18, h⟩ := gInt_elim h
  obtain ⟨c22, c23, h19, h⟩ := gCons_elim h
  obtain ⟨a24, h20, h⟩ := gInt_elim h
  obtain ⟨c25, c26, h21, h⟩ := gCons_elim h
  obtain ⟨a27, h22, h⟩ := gInt_elim h
  obtain ⟨c28, c29, h23, h⟩ := gCons_elim h
  obtain ⟨a30, h24, h⟩ := gBool_elim h
  obtain ⟨c31, c32, h25, h⟩ := gCons_elim h
  obtain ⟨a33, h26, h⟩ := gBool_elim h
  obtain ⟨c34, c35, h27, h⟩ := gCons_elim h
  obtain ⟨a36, h28, h⟩ := gBool_elim h
  obtain ⟨h29, h⟩ := gNil_elim h
  refine ⟨_, ?_, h⟩
  subst h2
  subst h3
  subst h4
  subst h5
  subst h6
  subst h7
  subst h8
  subst h9
  subst h10
  subst h13
  subst h14
  subst h15
  subst h16
  subst h17
  subst h18
  subst h19
  subst h20
  subst h21
  subst h22
  subst h23
  subst h24
  subst h25
  subst h26
  subst h27
  subst h28
  subst h29
  simp only [keepSt, kp0, List.map, h0, h1, h11, h12]
  rfl
def b0 (rec kx : L0 → Prop) (kr : R → Prop) (x : L0) : Prop :=
  (bif (decide (x.t25 < 4)) then (bif (x.t25 == 0) then (num_Put64.F x.m0_1 fun r6 => (bif (fits (x.b0.length + r6.length)) then (rec ⟨(x.b0 ++ r6), (IntKind.i64.wrap (x.t25 + 1)), x.m0, x.m0_1, x.m0_2, x.m0_3, x.m0_4, x.m0_5, x.m0_6, x.m0_7⟩) else False)) else (bif (x.t25 == 1) then (num_Put64.F x.m0_2 fun r5 => (bif (fits (x.b0.length + r5.length)) then (rec ⟨(x.b0 ++ r5), (IntKind.i64.wrap (x.t25 + 1)), x.m0, x.m0_1, x.m0_2, x.m0_3, x.m0_4, x.m0_5, x.m0_6, x.m0_7⟩) else False)) else (bif (x.t25 == 2) then (num_Put64.F x.m0_3 fun r4 => (bif (fits (x.b0.length + r4.length)) then (rec ⟨(x.b0 ++ r4), (IntKind.i64.wrap (x.t25 + 1)), x.m0, x.m0_1, x.m0_2, x.m0_3, x.m0_4, x.m0_5, x.m0_6, x.m0_7⟩) else False)) else (bif (x.t25 == 3) then (num_Put64.F x.m0_4 fun r3 => (bif (fits (x.b0.length + r3.length)) then (rec ⟨(x.b0 ++ r3), (IntKind.i64.wrap (x.t25 + 1)), x.m0, x.m0_1, x.m0_2, x.m0_3, x.m0_4, x.m0_5, x.m0_6, x.m0_7⟩) else False)) else False)))) else (kx ⟨x.b0, x.t25, x.m0, x.m0_1, x.m0_2, x.m0_3, x.m0_4, x.m0_5, x.m0_6, x.m0_7⟩))
def l0 : LSpec := mkLoop 0 kp0 kR p0 c0 cR b0
def lt : Nat → Option LSpec
  | 0 => some l0
  | _ => none
def F (s : Super) (K : (Str × Int) → Prop) : Prop :=
  (super_Right.F s fun r1 => (bif (!r1) then (K (([] : Str), 1)) else (num_Flags.F ([s.inc, s.pri, s.dis] : List Bool) fun r2 => (bif (fits (([71, 77, 1] : Str).length + (bytesOfInts ([(IntKind.u8.wrap s.blocks), r2] : List Int)).length)) then (∃ n, loopB b0 n (fun x7 => (check_Seal.F x7.b0 fun r9 => (K (r9, 0)))) (fun _ => False) ⟨(([71, 77, 1] : Str) ++ (bytesOfInts ([(IntKind.u8.wrap s.blocks), r2] : List Int))), 0, s.blocks, s.vector.current, s.vector.bitmap, s.vector.old0, s.vector.old1, s.inc, s.pri, s.dis⟩) else False))))
noncomputable def en : Entry := mkEntry [(.st 3)] (cTwo .str (.int .i64)) fun x => F x.1
noncomputable def tabV (f0 : Super → (Bool → Prop) → Prop) (f1 : (List Bool) → (Int → Prop) → Prop) (f2 : Int → (Str → Prop) → Prop) (f3 : Str → (Str → Prop) → Prop) : Tab := [(140, mkEntry [(.st 3)] (cTy .bool) fun x => f0 x.1), (40, mkEntry [(.slice .bool)] (cTy (.int .u8)) fun x => f1 x.1), (36, mkEntry [(.int .u64)] (cTy .str) fun x => f2 x.1), (27, mkEntry [.str] (cTy .str) fun x => f3 x.1)]
theorem tabE : tab = tabV super_Right.F num_Flags.F num_Put64.F check_Seal.F := by kernel_rfl
def b0V (f0 : Super → (Bool → Prop) → Prop) (f1 : (List Bool) → (Int → Prop) → Prop) (f2 : Int → (Str → Prop) → Prop) (f3 : Str → (Str → Prop) → Prop) (rec kx : L0 → Prop) (kr : R → Prop) (x : L0) : Prop :=
  (bif (decide (x.t25 < 4)) then (bif (x.t25 == 0) then (f2 x.m0_1 fun r6 => (bif (fits (x.b0.length + r6.length)) then (rec ⟨(x.b0 ++ r6), (IntKind.i64.wrap (x.t25 + 1)), x.m0, x.m0_1, x.m0_2, x.m0_3, x.m0_4, x.m0_5, x.m0_6, x.m0_7⟩) else False)) else (bif (x.t25 == 1) then (f2 x.m0_2 fun r5 => (bif (fits (x.b0.length + r5.length)) then (rec ⟨(x.b0 ++ r5), (IntKind.i64.wrap (x.t25 + 1)), x.m0, x.m0_1, x.m0_2, x.m0_3, x.m0_4, x.m0_5, x.m0_6, x.m0_7⟩) else False)) else (bif (x.t25 == 2) then (f2 x.m0_3 fun r4 => (bif (fits (x.b0.length + r4.length)) then (rec ⟨(x.b0 ++ r4), (IntKind.i64.wrap (x.t25 + 1)), x.m0, x.m0_1, x.m0_2, x.m0_3, x.m0_4, x.m0_5, x.m0_6, x.m0_7⟩) else False)) else (bif (x.t25 == 3) then (f2 x.m0_4 fun r3 => (bif (fits (x.b0.length + r3.length)) then (rec ⟨(x.b0 ++ r3), (IntKind.i64.wrap (x.t25 + 1)), x.m0, x.m0_1, x.m0_2, x.m0_3, x.m0_4, x.m0_5, x.m0_6, x.m0_7⟩) else False)) else False)))) else (kx ⟨x.b0, x.t25, x.m0, x.m0_1, x.m0_2, x.m0_3, x.m0_4, x.m0_5, x.m0_6, x.m0_7⟩))
def ltV (f0 : Super → (Bool → Prop) → Prop) (f1 : (List Bool) → (Int → Prop) → Prop) (f2 : Int → (Str → Prop) → Prop) (f3 : Str → (Str → Prop) → Prop) : Nat → Option LSpec
  | 0 => some (mkLoop 0 kp0 kR p0 c0 cR (b0V f0 f1 f2 f3))
  | _ => none
theorem ltE : lt = ltV super_Right.F num_Flags.F num_Put64.F check_Seal.F := by kernel_rfl
theorem eqv (f0 : Super → (Bool → Prop) → Prop) (f1 : (List Bool) → (Int → Prop) → Prop) (f2 : Int → (Str → Prop) → Prop) (f3 : Str → (Str → Prop) → Prop) (s : Super) (K : (Str × Int) → Prop) : apure E (tabV f0 f1 f2 f3) (ltV f0 f1 f2 f3) 4 128 [enc (.st 3) s] (ansK ((cTwo .str (.int .i64))) K) =
  (f0 s fun r1 => (bif (!r1) then (K (([] : Str), 1)) else (f1 ([s.inc, s.pri, s.dis] : List Bool) fun r2 => (bif (fits (([71, 77, 1] : Str).length + (bytesOfInts ([(IntKind.u8.wrap s.blocks), r2] : List Int)).length)) then (∃ n, loopB (b0V f0 f1 f2 f3) n (fun x7 => (f3 x7.b0 fun r9 => (K (r9, 0)))) (fun _ => False) ⟨(([71, 77, 1] : Str) ++ (bytesOfInts ([(IntKind.u8.wrap s.blocks), r2] : List Int))), 0, s.blocks, s.vector.current, s.vector.bitmap, s.vector.old0, s.vector.old1, s.inc, s.pri, s.dis⟩) else False)))) := by kernel_rfl
theorem eq (x : Dens [(.st 3)]) (K : (Str × Int) → Prop) : apure E tab lt 4 128 (encA [(.st 3)] x) (ansK ((cTwo .str (.int .i64))) K) = F x.1 K := by
  rw [tabE, ltE]
  exact eqv super_Right.F num_Flags.F num_Put64.F check_Seal.F x.1 K
theorem l0v (f0 : Super → (Bool → Prop) → Prop) (f1 : (List Bool) → (Int → Prop) → Prop) (f2 : Int → (Str → Prop) → Prop) (f3 : Str → (Str → Prop) → Prop) (R : St → Prop) (Kx : Nat → St → Prop) (Kr : St → Prop) (x : L0) : acode E (tabV f0 f1 f2 f3) (afun E (tabV f0 f1 f2 f3) 4) 37 (ltV f0 f1 f2 f3) ((loopsIn E.P 128).getD 0 (0, .skip)).2 0 (fun s => R (keepSt kp0 s)) (fun j s => Kx j (keepSt kp0 s)) (fun s => Kr (keepSt kR s)) (c0 x) =
    b0V f0 f1 f2 f3 (fun x => R (c0 x)) (fun x => Kx 0 (c0 x)) (fun r => Kr (cR r)) x := by kernel_rfl
theorem l0_ok : LSound E tab (afun E tab 4) 37 lt 0 ((loopsIn E.P 128).getD 0 (0, .skip)).2 l0 := mkLoop_sound (by decide) (by decide) p0_ok (fun R Kx Kr x => by
  rw [tabE, ltE]
  exact l0v super_Right.F num_Flags.F num_Put64.F check_Seal.F R Kx Kr x)
theorem loops : LoopsOk E tab lt 4 128 := loops_of (nt := 37) (ids := [0]) (by kernel_rfl) (by kernel_rfl) (by
  intro k i hk l hl
  match k, hk with
  | 0, hk => cases hk; cases hl; exact l0_ok
  | _ + 1, hk => exact absurd hk (by simp))
theorem det (s : Super) : Det (F s) := by
  unfold F
  repeat' first | with_reducible exact det_ret _ | with_reducible exact det_false | with_reducible refine det_cond _ ?_ ?_ | with_reducible refine det_oget _ (fun _ => ?_) | with_reducible exact super_Right.det _ | with_reducible refine det_bind (super_Right.det _) (fun _ => ?_) | with_reducible exact num_Flags.det _ | with_reducible refine det_bind (num_Flags.det _) (fun _ => ?_) | with_reducible exact num_Put64.det _ | with_reducible refine det_bind (num_Put64.det _) (fun _ => ?_) | with_reducible exact check_Seal.det _ | with_reducible refine det_bind (check_Seal.det _) (fun _ => ?_) | with_reducible refine det_loop (fun _ => ?_) (fun _ => ?_) (fun _ => ?_) _ | unfold b0
theorem edet (args : List AV) : Det (en args) := mkEntry_det (ts := [(.st 3)]) (cod := (cTwo .str (.int .i64))) (F := fun x => F x.1) (fun x => det x.1) args
theorem ground : Ground E tab := ⟨num, mixed, (tab_cons super_Right.sound (tab_cons num_Flags.sound (tab_cons num_Put64.sound (tab_cons check_Seal.sound (tab_nil _))))), clone, (dtab_cons super_Right.edet (dtab_cons num_Flags.edet (dtab_cons num_Put64.edet (dtab_cons check_Seal.edet dtab_nil))))⟩
theorem has : ((E.P.funcs[128]?).bind (·.body)).isSome = true := by kernel_rfl
theorem sound : EntrySound E.P 128 en := mkSound (ts := [(.st 3)]) (cod := (cTwo .str (.int .i64))) (F := fun x => F x.1) ground loops has eq
end super_Encode
namespace meta_Fits
noncomputable def tab : Tab := []
def F (d : Disk) (s : Super) (K : Bool → Prop) : Prop :=
  (K (s.blocks == (IntKind.i64.wrap ((d.sure.length : Int) - 2))))
noncomputable def en : Entry := mkEntry [(.st 1), (.st 3)] (cTy .bool) fun x => F x.1 x.2.1
theorem eq (x : Dens [(.st 1), (.st 3)]) (K : Bool → Prop) : apure E tab (fun _ => none) 4 129 (encA [(.st 1), (.st 3)] x) (ansK ((cTy .bool)) K) = F x.1 x.2.1 K := by kernel_rfl
theorem loops : LoopsOk E tab (fun _ => none) 4 129 := loops_none _ _ _ _
theorem det (d : Disk) (s : Super) : Det (F d s) := by
  unfold F
  repeat' first | with_reducible exact det_ret _ | with_reducible exact det_false | with_reducible refine det_cond _ ?_ ?_ | with_reducible refine det_oget _ (fun _ => ?_)
theorem edet (args : List AV) : Det (en args) := mkEntry_det (ts := [(.st 1), (.st 3)]) (cod := (cTy .bool)) (F := fun x => F x.1 x.2.1) (fun x => det x.1 x.2.1) args
theorem ground : Ground E tab := ⟨num, mixed, (tab_nil _), clone, dtab_nil⟩
theorem has : ((E.P.funcs[129]?).bind (·.body)).isSome = true := by kernel_rfl
theorem sound : EntrySound E.P 129 en := mkSound (ts := [(.st 1), (.st 3)]) (cod := (cTy .bool)) (F := fun x => F x.1 x.2.1) ground loops has eq
end meta_Fits
namespace meta_Commit
noncomputable def tab : Tab := [(128, super_Encode.en), (129, meta_Fits.en), (60, disk_Write.en), (64, disk_Flush.en)]
def F (d : Disk) (s : Super) (K : (Disk × Int) → Prop) : Prop :=
  (super_Encode.F s fun r1 => (bif (r1.2 != 0) then (K (d, 1)) else (meta_Fits.F d s fun r2 => (bif (!r2) then (K (d, 1)) else (disk_Write.F d 0 r1.1 fun r3 => (bif (r3.2 != 0) then (K (r3.1, r3.2)) else (disk_Flush.F r3.1 fun r4 => (K (r4.1, r4.2)))))))))
noncomputable def en : Entry := mkEntry [(.st 1), (.st 3)] (cTwo (.st 1) (.int .i64)) fun x => F x.1 x.2.1
noncomputable def tabV (f0 : Super → ((Str × Int) → Prop) → Prop) (f1 : Disk → Super → (Bool → Prop) → Prop) (f2 : Disk → Int → Str → ((Disk × Int) → Prop) → Prop) (f3 : Disk → ((Disk × Int) → Prop) → Prop) : Tab := [(128, mkEntry [(.st 3)] (cTwo .str (.int .i64)) fun x => f0 x.1), (129, mkEntry [(.st 1), (.st 3)] (cTy .bool) fun x => f1 x.1 x.2.1), (60, mkEntry [(.st 1), (.int .i64), .str] (cTwo (.st 1) (.int .i64)) fun x => f2 x.1 x.2.1 x.2.2.1), (64, mkEntry [(.st 1)] (cTwo (.st 1) (.int .i64)) fun x => f3 x.1)]
theorem tabE : tab = tabV super_Encode.F meta_Fits.F disk_Write.F disk_Flush.F := by kernel_rfl
theorem eqv (f0 : Super → ((Str × Int) → Prop) → Prop) (f1 : Disk → Super → (Bool → Prop) → Prop) (f2 : Disk → Int → Str → ((Disk × Int) → Prop) → Prop) (f3 : Disk → ((Disk × Int) → Prop) → Prop) (d : Disk) (s : Super) (K : (Disk × Int) → Prop) : apure E (tabV f0 f1 f2 f3) (fun _ => none) 4 116 [enc (.st 1) d, enc (.st 3) s] (ansK ((cTwo (.st 1) (.int .i64))) K) =
  (f0 s fun r1 => (bif (r1.2 != 0) then (K (d, 1)) else (f1 d s fun r2 => (bif (!r2) then (K (d, 1)) else (f2 d 0 r1.1 fun r3 => (bif (r3.2 != 0) then (K (r3.1, r3.2)) else (f3 r3.1 fun r4 => (K (r4.1, r4.2))))))))) := by kernel_rfl
theorem eq (x : Dens [(.st 1), (.st 3)]) (K : (Disk × Int) → Prop) : apure E tab (fun _ => none) 4 116 (encA [(.st 1), (.st 3)] x) (ansK ((cTwo (.st 1) (.int .i64))) K) = F x.1 x.2.1 K := eqv super_Encode.F meta_Fits.F disk_Write.F disk_Flush.F x.1 x.2.1 K
theorem loops : LoopsOk E tab (fun _ => none) 4 116 := loops_none _ _ _ _
theorem det (d : Disk) (s : Super) : Det (F d s) := by
  unfold F
  repeat' first | with_reducible exact det_ret _ | with_reducible exact det_false | with_reducible refine det_cond _ ?_ ?_ | with_reducible refine det_oget _ (fun _ => ?_) | with_reducible exact super_Encode.det _ | with_reducible refine det_bind (super_Encode.det _) (fun _ => ?_) | with_reducible exact meta_Fits.det _ _ | with_reducible refine det_bind (meta_Fits.det _ _) (fun _ => ?_) | with_reducible exact disk_Write.det _ _ _ | with_reducible refine det_bind (disk_Write.det _ _ _) (fun _ => ?_) | with_reducible exact disk_Flush.det _ | with_reducible refine det_bind (disk_Flush.det _) (fun _ => ?_)
theorem edet (args : List AV) : Det (en args) := mkEntry_det (ts := [(.st 1), (.st 3)]) (cod := (cTwo (.st 1) (.int .i64))) (F := fun x => F x.1 x.2.1) (fun x => det x.1 x.2.1) args
theorem ground : Ground E tab := ⟨num, mixed, (tab_cons super_Encode.sound (tab_cons meta_Fits.sound (tab_cons disk_Write.sound (tab_cons disk_Flush.sound (tab_nil _))))), clone, (dtab_cons super_Encode.edet (dtab_cons meta_Fits.edet (dtab_cons disk_Write.edet (dtab_cons disk_Flush.edet dtab_nil))))⟩
theorem has : ((E.P.funcs[116]?).bind (·.body)).isSome = true := by kernel_rfl
theorem sound : EntrySound E.P 116 en := mkSound (ts := [(.st 1), (.st 3)]) (cod := (cTwo (.st 1) (.int .i64))) (F := fun x => F x.1 x.2.1) ground loops has eq
end meta_Commit
namespace area_there
noncomputable def tab : Tab := []
def F (d : Disk) (i : Int) (K : Bool → Prop) : Prop :=
  (bif (decide (i ≥ 0)) then (K (decide (i < (IntKind.i64.wrap ((d.sure.length : Int) - 2))))) else (K false))
noncomputable def en : Entry := mkEntry [(.st 1), (.int .i64)] (cTy .bool) fun x => F x.1 x.2.1
theorem eq (x : Dens [(.st 1), (.int .i64)]) (K : Bool → Prop) : apure E tab (fun _ => none) 4 114 (encA [(.st 1), (.int .i64)] x) (ansK ((cTy .bool)) K) = F x.1 x.2.1 K := by kernel_rfl
theorem loops : LoopsOk E tab (fun _ => none) 4 114 := loops_none _ _ _ _
theorem det (d : Disk) (i : Int) : Det (F d i) := by
  unfold F
  repeat' first | with_reducible exact det_ret _ | with_reducible exact det_false | with_reducible refine det_cond _ ?_ ?_ | with_reducible refine det_oget _ (fun _ => ?_)
theorem edet (args : List AV) : Det (en args) := mkEntry_det (ts := [(.st 1), (.int .i64)]) (cod := (cTy .bool)) (F := fun x => F x.1 x.2.1) (fun x => det x.1 x.2.1) args
theorem ground : Ground E tab := ⟨num, mixed, (tab_nil _), clone, dtab_nil⟩
theorem has : ((E.P.funcs[114]?).bind (·.body)).isSome = true := by kernel_rfl
theorem sound : EntrySound E.P 114 en := mkSound (ts := [(.st 1), (.int .i64)]) (cod := (cTy .bool)) (F := fun x => F x.1 x.2.1) ground loops has eq
end area_there
namespace area_Put
noncomputable def tab : Tab := [(114, area_there.en), (60, disk_Write.en), (64, disk_Flush.en)]
def F (d : Disk) (i : Int) (data : Str) (K : (Disk × Int) → Prop) : Prop :=
  (area_there.F d i fun r1 => (bif (!r1) then (K (d, 4)) else (bif ((data.length : Int) != 8) then (K (d, 5)) else (disk_Write.F d (IntKind.i64.wrap (i + 2)) data fun r2 => (bif (r2.2 != 0) then (K (r2.1, r2.2)) else (disk_Flush.F r2.1 fun r3 => (K (r3.1, r3.2))))))))
noncomputable def en : Entry := mkEntry [(.st 1), (.int .i64), .str] (cTwo (.st 1) (.int .i64)) fun x => F x.1 x.2.1 x.2.2.1
noncomputable def tabV (f0 : Disk → Int → (Bool → Prop) → Prop) (f1 : Disk → Int → Str → ((Disk × Int) → Prop) → Prop) (f2 : Disk → ((Disk × Int) → Prop) → Prop) : Tab := [(114, mkEntry [(.st 1), (.int .i64)] (cTy .bool) fun x => f0 x.1 x.2.1), (60, mkEntry [(.st 1), (.int .i64), .str] (cTwo (.st 1) (.int .i64)) fun x => f1 x.1 x.2.1 x.2.2.1), (64, mkEntry [(.st 1)] (cTwo (.st 1) (.int .i64)) fun x => f2 x.1)]
theorem tabE : tab = tabV area_there.F disk_Write.F disk_Flush.F := by kernel_rfl
theorem eqv (f0 : Disk → Int → (Bool → Prop) → Prop) (f1 : Disk → Int → Str → ((Disk × Int) → Prop) → Prop) (f2 : Disk → ((Disk × Int) → Prop) → Prop) (d : Disk) (i : Int) (data : Str) (K : (Disk × Int) → Prop) : apure E (tabV f0 f1 f2) (fun _ => none) 4 82 [enc (.st 1) d, enc (.int .i64) i, enc .str data] (ansK ((cTwo (.st 1) (.int .i64))) K) =
  (f0 d i fun r1 => (bif (!r1) then (K (d, 4)) else (bif ((data.length : Int) != 8) then (K (d, 5)) else (f1 d (IntKind.i64.wrap (i + 2)) data fun r2 => (bif (r2.2 != 0) then (K (r2.1, r2.2)) else (f2 r2.1 fun r3 => (K (r3.1, r3.2)))))))) := by kernel_rfl
theorem eq (x : Dens [(.st 1), (.int .i64), .str]) (K : (Disk × Int) → Prop) : apure E tab (fun _ => none) 4 82 (encA [(.st 1), (.int .i64), .str] x) (ansK ((cTwo (.st 1) (.int .i64))) K) = F x.1 x.2.1 x.2.2.1 K := eqv area_there.F disk_Write.F disk_Flush.F x.1 x.2.1 x.2.2.1 K
theorem loops : LoopsOk E tab (fun _ => none) 4 82 := loops_none _ _ _ _
theorem det (d : Disk) (i : Int) (data : Str) : Det (F d i data) := by
  unfold F
  repeat' first | with_reducible exact det_ret _ | with_reducible exact det_false | with_reducible refine det_cond _ ?_ ?_ | with_reducible refine det_oget _ (fun _ => ?_) | with_reducible exact area_there.det _ _ | with_reducible refine det_bind (area_there.det _ _) (fun _ => ?_) | with_reducible exact disk_Write.det _ _ _ | with_reducible refine det_bind (disk_Write.det _ _ _) (fun _ => ?_) | with_reducible exact disk_Flush.det _ | with_reducible refine det_bind (disk_Flush.det _) (fun _ => ?_)
theorem edet (args : List AV) : Det (en args) := mkEntry_det (ts := [(.st 1), (.int .i64), .str]) (cod := (cTwo (.st 1) (.int .i64))) (F := fun x => F x.1 x.2.1 x.2.2.1) (fun x => det x.1 x.2.1 x.2.2.1) args
theorem ground : Ground E tab := ⟨num, mixed, (tab_cons area_there.sound (tab_cons disk_Write.sound (tab_cons disk_Flush.sound (tab_nil _)))), clone, (dtab_cons area_there.edet (dtab_cons disk_Write.edet (dtab_cons disk_Flush.edet dtab_nil)))⟩
theorem has : ((E.P.funcs[82]?).bind (·.body)).isSome = true := by kernel_rfl
theorem sound : EntrySound E.P 82 en := mkSound (ts := [(.st 1), (.int .i64), .str]) (cod := (cTwo (.st 1) (.int .i64))) (F := fun x => F x.1 x.2.1 x.2.2.1) ground loops has eq
end area_Put
namespace area_Format
noncomputable def tab : Tab := [(54, disk_New.en), (116, meta_Commit.en), (75, bits_Save.en), (117, strings_Repeat.en), (82, area_Put.en)]
structure R where
  t5 : Int
  m0 : Int
  m0_1 : Bool
def cR (x : R) : St := { fr := lookL .top [(4, (.ptr 0 0)), (5, (.int .i64 x.t5))], hs := { hp := lookL .dead [(0, (.cells [.snil, .snil, (.int .i64 x.m0), (.bool x.m0_1)]))], hn := 2 } }
def kR : Keep := { ks := [(4, none), (5, none)], bs := [0], hn := 2 }
structure L0 where
  nought : Str
  t50 : Int
  t51 : Int
  m0 : Int
  m0_1 : Bool
  m1 : (List Str)
  m1_1 : (List Write)
  m1_2 : Int
  m1_3 : Bool
def c0 (x : L0) : St := { fr := lookL .top [(4, (.ptr 0 0)), (6, (.ptr 1 0)), (8, (.str x.nought)), (50, (.int .i64 x.t50)), (51, (.int .i64 x.t51))], hs := { hp := lookL .dead [(0, (.cells [.snil, .snil, (.int .i64 x.m0), (.bool x.m0_1)])), (1, (.cells [(.sl .any .str x.m1), (.sl .any (.st 0) x.m1_1), (.int .i64 x.m1_2), (.bool x.m1_3)]))], hn := 2 } }
def kp0 : Keep := { ks := [(4, none), (6, none), (8, none), (50, none), (51, none)], bs := [0, 1], hn := 2 }
def p0 (st : St) (K : L0 → Prop) : Prop := gPtr 0 0 (st.fr 4) <| gPtr 1 0 (st.fr 6) <| gStr (st.fr 8) fun a1 => gInt .i64 (st.fr 50) fun a2 => gInt .i64 (st.fr 51) fun a3 => gCells (st.hs.hp 0) fun c4 => gCons c4 fun c5 c6 => gSnil c5 <| gCons c6 fun c7 c8 => gSnil c7 <| gCons c8 fun c9 c10 => gInt .i64 c9 fun a11 => gCons c10 fun c12 c13 => gBool c12 fun a14 => gNil c13 <| gCells (st.hs.hp 1) fun c15 => gCons c15 fun c16 c17 => gSl .any .str c16 fun a18 => gCons c17 fun c19 c20 => gSl .any (.st 0) c19 fun a21 => gCons c20 fun c22 c23 => gInt .i64 c22 fun a24 => gCons c23 fun c25 c26 => gBool c25 fun a27 => gNil c26 <| K ⟨a1, a2, a3, a11, a14, a18, a21, a24, a27⟩
theorem p0_ok (st : St) (K : L0 → Prop) (h : p0 st K) : ∃ x, keepSt kp0 st = c0 x ∧ K x := by
  obtain ⟨h0, h⟩ := gPtr_elim h
  obtain ⟨h1, h⟩ := gPtr_elim h
  obtain ⟨a1, h2, h⟩ := gStr_elim h
  obtain ⟨a2, h3, h⟩ := gInt_elim h
  obtain ⟨a3, h4, h⟩ := gInt_elim h
  obtain ⟨c4, h5, h⟩ := gCells_elim h
  obtain ⟨c5, c6, h6, h⟩ := gCons_elim h
  obtain ⟨h7, h⟩ := gSnil_elim h
  obtain ⟨c7, c8, h8, h⟩ := gCons_elim h
  obtain ⟨h9, h⟩ := gSnil_elim h
  obtain ⟨c9, c10, h10, h⟩ := gCons_elim h
  obtain ⟨a11, h11, h⟩ := gInt_elim h
  obtain ⟨c12, c13, h12, h⟩ := gCons_elim h
  obtain ⟨a14, h13, h⟩ := gBool_elim h
  obtain ⟨h14, h⟩ := gNil_elim h
  obtain ⟨c15, h15, h⟩ := gCells_elim h
  obtain ⟨c16, c17, h16, h⟩ := gCons_elim h
  obtain ⟨a18, h17, h⟩ := gSl_elim h
  obtain ⟨c19, c20, h18, h⟩ := gCons_elim h
  obtain ⟨a21, h19, h⟩ := gSl_elim h
  obtain ⟨c22, c23, h20, h⟩ := gCons_elim h
  obtain ⟨a24, h21, h⟩ := gInt_elim h
  obtain ⟨c25, c26, h22, h⟩ := gCons_elim h
  obtain ⟨a27, h23, h⟩ := gBool_elim h
  obtain ⟨h24, h⟩ := gNil_elim h
  refine ⟨_, ?_, h⟩
  subst h6
  subst h7
  subst h8
  subst h9
  subst h10
  subst h11
  subst h12
  subst h13
  subst h14
  subst h16
  subst h17
  subst h18
  subst h19
  subst h20
  subst h21
  subst h22
  subst h23
  subst h24
  simp only [keepSt, kp0, List.map, h0, h1, h2, h3, h4, h5, h15]
  rfl
def b0 (rec kx : L0 → Prop) (kr : R → Prop) (x : L0) : Prop :=
  (bif (decide (x.t51 < x.t50)) then (area_Put.F (⟨x.m1, x.m1_1, x.m1_2, x.m1_3⟩ : Disk) x.t51 x.nought fun r5 => (bif (r5.2 != 0) then (kr ⟨r5.2, 0, false⟩) else (rec ⟨x.nought, x.t50, (IntKind.i64.wrap (x.t51 + 1)), x.m0, x.m0_1, r5.1.sure, r5.1.cache, r5.1.fuse, r5.1.dead⟩))) else (kx ⟨x.nought, x.t50, x.t51, x.m0, x.m0_1, x.m1, x.m1_1, x.m1_2, x.m1_3⟩))
def l0 : LSpec := mkLoop 0 kp0 kR p0 c0 cR b0
def lt : Nat → Option LSpec
  | 0 => some l0
  | _ => none
def F (blocks : Int) (g : Int) (K : (Disk × Int) → Prop) : Prop :=
  (bif (decide (blocks < 1)) then (K ((⟨([] : List Str), ([] : List Write), 0, false⟩ : Disk), 1)) else (bif (decide (blocks > 32)) then (K ((⟨([] : List Str), ([] : List Write), 0, false⟩ : Disk), 1)) else (disk_New.F (IntKind.i64.wrap (blocks + 2)) fun r1 => (bif (r1.2 != 0) then (K ((⟨([] : List Str), ([] : List Write), 0, false⟩ : Disk), r1.2)) else (meta_Commit.F r1.1 (⟨blocks, (⟨g, 0, 0, 0⟩ : Vec), false, false, false⟩ : Super) fun r2 => (bif (r2.2 != 0) then (K ((⟨([] : List Str), ([] : List Write), 0, false⟩ : Disk), r2.2)) else (bits_Save.F r2.1 0 fun r3 => (bif (r3.2 != 0) then (K ((⟨([] : List Str), ([] : List Write), 0, false⟩ : Disk), r3.2)) else (strings_Repeat.F ([0] : Str) 8 fun r4 => (∃ n, loopB b0 n (fun x6 => (K ((⟨x6.m1, x6.m1_1, x6.m1_2, x6.m1_3⟩ : Disk), 0))) (fun r7 => (K ((⟨([] : List Str), ([] : List Write), r7.m0, r7.m0_1⟩ : Disk), r7.t5))) ⟨r4, blocks, 0, 0, false, r3.1.sure, r3.1.cache, r3.1.fuse, r3.1.dead⟩))))))))))
noncomputable def en : Entry := mkEntry [(.int .i64), (.int .u64)] (cTwo (.st 1) (.int .i64)) fun x => F x.1 x.2.1
noncomputable def tabV (f0 : Int → ((Disk × Int) → Prop) → Prop) (f1 : Disk → Super → ((Disk × Int) → Prop) → Prop) (f2 : Disk → Int → ((Disk × Int) → Prop) → Prop) (f3 : Str → Int → (Str → Prop) → Prop) (f4 : Disk → Int → Str → ((Disk × Int) → Prop) → Prop) : Tab := [(54, mkEntry [(.int .i64)] (cTwo (.st 1) (.int .i64)) fun x => f0 x.1), (116, mkEntry [(.st 1), (.st 3)] (cTwo (.st 1) (.int .i64)) fun x => f1 x.1 x.2.1), (75, mkEntry [(.st 1), (.int .u32)] (cTwo (.st 1) (.int .i64)) fun x => f2 x.1 x.2.1), (117, mkEntry [.str, (.int .i64)] (cTy .str) fun x => f3 x.1 x.2.1), (82, mkEntry [(.st 1), (.int .i64), .str] (cTwo (.st 1) (.int .i64)) fun x => f4 x.1 x.2.1 x.2.2.1)]
theorem tabE : tab = tabV disk_New.F meta_Commit.F bits_Save.F strings_Repeat.F area_Put.F := by kernel_rfl
def b0V (f0 : Int → ((Disk × Int) → Prop) → Prop) (f1 : Disk → Super → ((Disk × Int) → Prop) → Prop) (f2 : Disk → Int → ((Disk × Int) → Prop) → Prop) (f3 : Str → Int → (Str → Prop) → Prop) (f4 : Disk → Int → Str → ((Disk × Int) → Prop) → Prop) (rec kx : L0 → Prop) (kr : R → Prop) (x : L0) : Prop :=
  (bif (decide (x.t51 < x.t50)) then (f4 (⟨x.m1, x.m1_1, x.m1_2, x.m1_3⟩ : Disk) x.t51 x.nought fun r5 => (bif (r5.2 != 0) then (kr ⟨r5.2, 0, false⟩) else (rec ⟨x.nought, x.t50, (IntKind.i64.wrap (x.t51 + 1)), x.m0, x.m0_1, r5.1.sure, r5.1.cache, r5.1.fuse, r5.1.dead⟩))) else (kx ⟨x.nought, x.t50, x.t51, x.m0, x.m0_1, x.m1, x.m1_1, x.m1_2, x.m1_3⟩))
def ltV (f0 : Int → ((Disk × Int) → Prop) → Prop) (f1 : Disk → Super → ((Disk × Int) → Prop) → Prop) (f2 : Disk → Int → ((Disk × Int) → Prop) → Prop) (f3 : Str → Int → (Str → Prop) → Prop) (f4 : Disk → Int → Str → ((Disk × Int) → Prop) → Prop) : Nat → Option LSpec
  | 0 => some (mkLoop 0 kp0 kR p0 c0 cR (b0V f0 f1 f2 f3 f4))
  | _ => none
theorem ltE : lt = ltV disk_New.F meta_Commit.F bits_Save.F strings_Repeat.F area_Put.F := by kernel_rfl
theorem eqv (f0 : Int → ((Disk × Int) → Prop) → Prop) (f1 : Disk → Super → ((Disk × Int) → Prop) → Prop) (f2 : Disk → Int → ((Disk × Int) → Prop) → Prop) (f3 : Str → Int → (Str → Prop) → Prop) (f4 : Disk → Int → Str → ((Disk × Int) → Prop) → Prop) (blocks : Int) (g : Int) (K : (Disk × Int) → Prop) : apure E (tabV f0 f1 f2 f3 f4) (ltV f0 f1 f2 f3 f4) 4 87 [enc (.int .i64) blocks, enc (.int .u64) g] (ansK ((cTwo (.st 1) (.int .i64))) K) =
  (bif (decide (blocks < 1)) then (K ((⟨([] : List Str), ([] : List Write), 0, false⟩ : Disk), 1)) else (bif (decide (blocks > 32)) then (K ((⟨([] : List Str), ([] : List Write), 0, false⟩ : Disk), 1)) else (f0 (IntKind.i64.wrap (blocks + 2)) fun r1 => (bif (r1.2 != 0) then (K ((⟨([] : List Str), ([] : List Write), 0, false⟩ : Disk), r1.2)) else (f1 r1.1 (⟨blocks, (⟨g, 0, 0, 0⟩ : Vec), false, false, false⟩ : Super) fun r2 => (bif (r2.2 != 0) then (K ((⟨([] : List Str), ([] : List Write), 0, false⟩ : Disk), r2.2)) else (f2 r2.1 0 fun r3 => (bif (r3.2 != 0) then (K ((⟨([] : List Str), ([] : List Write), 0, false⟩ : Disk), r3.2)) else (f3 ([0] : Str) 8 fun r4 => (∃ n, loopB (b0V f0 f1 f2 f3 f4) n (fun x6 => (K ((⟨x6.m1, x6.m1_1, x6.m1_2, x6.m1_3⟩ : Disk), 0))) (fun r7 => (K ((⟨([] : List Str), ([] : List Write), r7.m0, r7.m0_1⟩ : Disk), r7.t5))) ⟨r4, blocks, 0, 0, false, r3.1.sure, r3.1.cache, r3.1.fuse, r3.1.dead⟩)))))))))) := by kernel_rfl
theorem eq (x : Dens [(.int .i64), (.int .u64)]) (K : (Disk × Int) → Prop) : apure E tab lt 4 87 (encA [(.int .i64), (.int .u64)] x) (ansK ((cTwo (.st 1) (.int .i64))) K) = F x.1 x.2.1 K := by
  rw [tabE, ltE]
  exact eqv disk_New.F meta_Commit.F bits_Save.F strings_Repeat.F area_Put.F x.1 x.2.1 K
theorem l0v (f0 : Int → ((Disk × Int) → Prop) → Prop) (f1 : Disk → Super → ((Disk × Int) → Prop) → Prop) (f2 : Disk → Int → ((Disk × Int) → Prop) → Prop) (f3 : Str → Int → (Str → Prop) → Prop) (f4 : Disk → Int → Str → ((Disk × Int) → Prop) → Prop) (R : St → Prop) (Kx : Nat → St → Prop) (Kr : St → Prop) (x : L0) : acode E (tabV f0 f1 f2 f3 f4) (afun E (tabV f0 f1 f2 f3 f4) 4) 67 (ltV f0 f1 f2 f3 f4) ((loopsIn E.P 87).getD 0 (0, .skip)).2 0 (fun s => R (keepSt kp0 s)) (fun j s => Kx j (keepSt kp0 s)) (fun s => Kr (keepSt kR s)) (c0 x) =
    b0V f0 f1 f2 f3 f4 (fun x => R (c0 x)) (fun x => Kx 0 (c0 x)) (fun r => Kr (cR r)) x := by kernel_rfl
theorem l0_ok : LSound E tab (afun E tab 4) 67 lt 0 ((loopsIn E.P 87).getD 0 (0, .skip)).2 l0 := mkLoop_sound (by decide) (by decide) p0_ok (fun R Kx Kr x => by
  rw [tabE, ltE]
  exact l0v disk_New.F meta_Commit.F bits_Save.F strings_Repeat.F area_Put.F R Kx Kr x)
theorem loops : LoopsOk E tab lt 4 87 := loops_of (nt := 67) (ids := [0]) (by kernel_rfl) (by kernel_rfl) (by
  intro k i hk l hl
  match k, hk with
  | 0, hk => cases hk; cases hl; exact l0_ok
  | _ + 1, hk => exact absurd hk (by simp))
theorem det (blocks : Int) (g : Int) : Det (F blocks g) := by
  unfold F
  repeat' first | with_reducible exact det_ret _ | with_reducible exact det_false | with_reducible refine det_cond _ ?_ ?_ | with_reducible refine det_oget _ (fun _ => ?_) | with_reducible exact disk_New.det _ | with_reducible refine det_bind (disk_New.det _) (fun _ => ?_) | with_reducible exact meta_Commit.det _ _ | with_reducible refine det_bind (meta_Commit.det _ _) (fun _ => ?_) | with_reducible exact bits_Save.det _ _ | with_reducible refine det_bind (bits_Save.det _ _) (fun _ => ?_) | with_reducible exact strings_Repeat.det _ _ | with_reducible refine det_bind (strings_Repeat.det _ _) (fun _ => ?_) | with_reducible exact area_Put.det _ _ _ | with_reducible refine det_bind (area_Put.det _ _ _) (fun _ => ?_) | with_reducible refine det_loop (fun _ => ?_) (fun _ => ?_) (fun _ => ?_) _ | unfold b0
theorem edet (args : List AV) : Det (en args) := mkEntry_det (ts := [(.int .i64), (.int .u64)]) (cod := (cTwo (.st 1) (.int .i64))) (F := fun x => F x.1 x.2.1) (fun x => det x.1 x.2.1) args
theorem ground : Ground E tab := ⟨num, mixed, (tab_cons disk_New.sound (tab_cons meta_Commit.sound (tab_cons bits_Save.sound (tab_cons strings_Repeat.sound (tab_cons area_Put.sound (tab_nil _)))))), clone, (dtab_cons disk_New.edet (dtab_cons meta_Commit.edet (dtab_cons bits_Save.edet (dtab_cons strings_Repeat.edet (dtab_cons area_Put.edet dtab_nil)))))⟩
theorem has : ((E.P.funcs[87]?).bind (·.body)).isSome = true := by kernel_rfl
theorem sound : EntrySound E.P 87 en := mkSound (ts := [(.int .i64), (.int .u64)]) (cod := (cTwo (.st 1) (.int .i64))) (F := fun x => F x.1 x.2.1) ground loops has eq
end area_Format
namespace area_Read
noncomputable def tab : Tab := [(114, area_there.en), (62, disk_Read.en)]
def F (d : Disk) (i : Int) (K : (Str × Int) → Prop) : Prop :=
  (area_there.F d i fun r1 => (bif (!r1) then (K (([] : Str), 4)) else (disk_Read.F d (IntKind.i64.wrap (i + 2)) fun r2 => (bif (r2.2 != 0) then (K (([] : Str), r2.2)) else (bif ((r2.1.length : Int) != 8) then (K (([] : Str), 2)) else (K (r2.1, 0)))))))
noncomputable def en : Entry := mkEntry [(.st 1), (.int .i64)] (cTwo .str (.int .i64)) fun x => F x.1 x.2.1
noncomputable def tabV (f0 : Disk → Int → (Bool → Prop) → Prop) (f1 : Disk → Int → ((Str × Int) → Prop) → Prop) : Tab := [(114, mkEntry [(.st 1), (.int .i64)] (cTy .bool) fun x => f0 x.1 x.2.1), (62, mkEntry [(.st 1), (.int .i64)] (cTwo .str (.int .i64)) fun x => f1 x.1 x.2.1)]
theorem tabE : tab = tabV area_there.F disk_Read.F := by kernel_rfl
theorem eqv (f0 : Disk → Int → (Bool → Prop) → Prop) (f1 : Disk → Int → ((Str × Int) → Prop) → Prop) (d : Disk) (i : Int) (K : (Str × Int) → Prop) : apure E (tabV f0 f1) (fun _ => none) 4 80 [enc (.st 1) d, enc (.int .i64) i] (ansK ((cTwo .str (.int .i64))) K) =
  (f0 d i fun r1 => (bif (!r1) then (K (([] : Str), 4)) else (f1 d (IntKind.i64.wrap (i + 2)) fun r2 => (bif (r2.2 != 0) then (K (([] : Str), r2.2)) else (bif ((r2.1.length : Int) != 8) then (K (([] : Str), 2)) else (K (r2.1, 0))))))) := by kernel_rfl
theorem eq (x : Dens [(.st 1), (.int .i64)]) (K : (Str × Int) → Prop) : apure E tab (fun _ => none) 4 80 (encA [(.st 1), (.int .i64)] x) (ansK ((cTwo .str (.int .i64))) K) = F x.1 x.2.1 K := eqv area_there.F disk_Read.F x.1 x.2.1 K
theorem loops : LoopsOk E tab (fun _ => none) 4 80 := loops_none _ _ _ _
theorem det (d : Disk) (i : Int) : Det (F d i) := by
  unfold F
  repeat' first | with_reducible exact det_ret _ | with_reducible exact det_false | with_reducible refine det_cond _ ?_ ?_ | with_reducible refine det_oget _ (fun _ => ?_) | with_reducible exact area_there.det _ _ | with_reducible refine det_bind (area_there.det _ _) (fun _ => ?_) | with_reducible exact disk_Read.det _ _ | with_reducible refine det_bind (disk_Read.det _ _) (fun _ => ?_)
theorem edet (args : List AV) : Det (en args) := mkEntry_det (ts := [(.st 1), (.int .i64)]) (cod := (cTwo .str (.int .i64))) (F := fun x => F x.1 x.2.1) (fun x => det x.1 x.2.1) args
theorem ground : Ground E tab := ⟨num, mixed, (tab_cons area_there.sound (tab_cons disk_Read.sound (tab_nil _))), clone, (dtab_cons area_there.edet (dtab_cons disk_Read.edet dtab_nil))⟩
theorem has : ((E.P.funcs[80]?).bind (·.body)).isSome = true := by kernel_rfl
theorem sound : EntrySound E.P 80 en := mkSound (ts := [(.st 1), (.int .i64)]) (cod := (cTwo .str (.int .i64))) (F := fun x => F x.1 x.2.1) ground loops has eq
end area_Read
namespace area_All
noncomputable def tab : Tab := [(80, area_Read.en)]
structure R where
  t2 : (List Str)
  t3 : Int
def cR (x : R) : St := { fr := lookL .top [(2, (.slr 3)), (3, (.int .i64 x.t3))], hs := { hp := lookL .dead [(3, (.row false .str x.t2))], hn := 4 } }
def kR : Keep := { ks := [(2, some 3), (3, none)], bs := [], hn := 4 }
structure L0 where
  l : (List Str)
  t12 : Int
  t13 : Int
  m0 : (List Str)
  m0_1 : (List Write)
  m0_2 : Int
  m0_3 : Bool
def c0 (x : L0) : St := { fr := lookL .top [(1, (.ptr 0 0)), (4, (.slr 2)), (12, (.int .i64 x.t12)), (13, (.int .i64 x.t13))], hs := { hp := lookL .dead [(2, (.row false .str x.l)), (0, (.cells [(.sl .any .str x.m0), (.sl .any (.st 0) x.m0_1), (.int .i64 x.m0_2), (.bool x.m0_3)]))], hn := 3 } }
def kp0 : Keep := { ks := [(1, none), (4, some 2), (12, none), (13, none)], bs := [0], hn := 3 }
def p0 (st : St) (K : L0 → Prop) : Prop := gHomes kp0 st <| gPtr 0 0 (st.fr 1) <| gSlr (st.fr 4) fun c1 => gRow false .str (st.hs.hp c1) fun a2 => gInt .i64 (st.fr 12) fun a3 => gInt .i64 (st.fr 13) fun a4 => gCells (st.hs.hp 0) fun c5 => gCons c5 fun c6 c7 => gSl .any .str c6 fun a8 => gCons c7 fun c9 c10 => gSl .any (.st 0) c9 fun a11 => gCons c10 fun c12 c13 => gInt .i64 c12 fun a14 => gCons c13 fun c15 c16 => gBool c15 fun a17 => gNil c16 <| K ⟨a2, a3, a4, a8, a11, a14, a17⟩
theorem p0_ok (st : St) (K : L0 → Prop) (h : p0 st K) : ∃ x, keepSt kp0 st = c0 x ∧ K x := by
  obtain ⟨h0, h⟩ := gHomes_elim h
  obtain ⟨h1, h⟩ := gPtr_elim h
  obtain ⟨c1, h2, h⟩ := gSlr_elim h
  obtain ⟨a2, h3, h⟩ := gRow_elim h
  obtain ⟨a3, h4, h⟩ := gInt_elim h
  obtain ⟨a4, h5, h⟩ := gInt_elim h
  obtain ⟨c5, h6, h⟩ := gCells_elim h
  obtain ⟨c6, c7, h7, h⟩ := gCons_elim h
  obtain ⟨a8, h8, h⟩ := gSl_elim h
  obtain ⟨c9, c10, h9, h⟩ := gCons_elim h
  obtain ⟨a11, h10, h⟩ := gSl_elim h
  obtain ⟨c12, c13, h11, h⟩ := gCons_elim h
  obtain ⟨a14, h12, h⟩ := gInt_elim h
  obtain ⟨c15, c16, h13, h⟩ := gCons_elim h
  obtain ⟨a17, h14, h⟩ := gBool_elim h
  obtain ⟨h15, h⟩ := gNil_elim h
  refine ⟨_, ?_, h⟩
  subst h7
  subst h8
  subst h9
  subst h10
  subst h11
  subst h12
  subst h13
  subst h14
  subst h15
  simp only [keepSt, h0]
  simp only [kp0, List.map, List.filterMap, homeOf, h1, h2, h3, h4, h5, h6, hmOf, List.append_nil, cond_true]
  rfl
def b0 (rec kx : L0 → Prop) (kr : R → Prop) (x : L0) : Prop :=
  (bif (decide (x.t13 < x.t12)) then (area_Read.F (⟨x.m0, x.m0_1, x.m0_2, x.m0_3⟩ : Disk) x.t13 fun r1 => (bif (r1.2 != 0) then (kr ⟨([] : List Str), r1.2⟩) else (bif (decide ((x.l.length + ([r1.1] : List Str).length) * 16 ≤ room)) then (rec ⟨(x.l ++ ([r1.1] : List Str)), x.t12, (IntKind.i64.wrap (x.t13 + 1)), x.m0, x.m0_1, x.m0_2, x.m0_3⟩) else False))) else (kx ⟨x.l, x.t12, x.t13, x.m0, x.m0_1, x.m0_2, x.m0_3⟩))
def l0 : LSpec := mkLoop 0 kp0 kR p0 c0 cR b0
def lt : Nat → Option LSpec
  | 0 => some l0
  | _ => none
def F (d : Disk) (K : ((List Str) × Int) → Prop) : Prop :=
  (∃ n, loopB b0 n (fun x2 => (K (x2.l, 0))) (fun r3 => (K (r3.t2, r3.t3))) ⟨([] : List Str), (maxI2 (IntKind.i64.wrap ((d.sure.length : Int) - 2)) 0), 0, d.sure, d.cache, d.fuse, d.dead⟩)
noncomputable def en : Entry := mkEntry [(.st 1)] (cTwo (.slice .str) (.int .i64)) fun x => F x.1
noncomputable def tabV (f0 : Disk → Int → ((Str × Int) → Prop) → Prop) : Tab := [(80, mkEntry [(.st 1), (.int .i64)] (cTwo .str (.int .i64)) fun x => f0 x.1 x.2.1)]
theorem tabE : tab = tabV area_Read.F := by kernel_rfl
def b0V (f0 : Disk → Int → ((Str × Int) → Prop) → Prop) (rec kx : L0 → Prop) (kr : R → Prop) (x : L0) : Prop :=
  (bif (decide (x.t13 < x.t12)) then (f0 (⟨x.m0, x.m0_1, x.m0_2, x.m0_3⟩ : Disk) x.t13 fun r1 => (bif (r1.2 != 0) then (kr ⟨([] : List Str), r1.2⟩) else (bif (decide ((x.l.length + ([r1.1] : List Str).length) * 16 ≤ room)) then (rec ⟨(x.l ++ ([r1.1] : List Str)), x.t12, (IntKind.i64.wrap (x.t13 + 1)), x.m0, x.m0_1, x.m0_2, x.m0_3⟩) else False))) else (kx ⟨x.l, x.t12, x.t13, x.m0, x.m0_1, x.m0_2, x.m0_3⟩))
def ltV (f0 : Disk → Int → ((Str × Int) → Prop) → Prop) : Nat → Option LSpec
  | 0 => some (mkLoop 0 kp0 kR p0 c0 cR (b0V f0))
  | _ => none
theorem ltE : lt = ltV area_Read.F := by kernel_rfl
theorem eqv (f0 : Disk → Int → ((Str × Int) → Prop) → Prop) (d : Disk) (K : ((List Str) × Int) → Prop) : apure E (tabV f0) (ltV f0) 4 84 [enc (.st 1) d] (ansK ((cTwo (.slice .str) (.int .i64))) K) =
  (∃ n, loopB (b0V f0) n (fun x2 => (K (x2.l, 0))) (fun r3 => (K (r3.t2, r3.t3))) ⟨([] : List Str), (maxI2 (IntKind.i64.wrap ((d.sure.length : Int) - 2)) 0), 0, d.sure, d.cache, d.fuse, d.dead⟩) := by kernel_rfl
theorem eq (x : Dens [(.st 1)]) (K : ((List Str) × Int) → Prop) : apure E tab lt 4 84 (encA [(.st 1)] x) (ansK ((cTwo (.slice .str) (.int .i64))) K) = F x.1 K := by
  rw [tabE, ltE]
  exact eqv area_Read.F x.1 K
theorem l0v (f0 : Disk → Int → ((Str × Int) → Prop) → Prop) (R : St → Prop) (Kx : Nat → St → Prop) (Kr : St → Prop) (x : L0) : acode E (tabV f0) (afun E (tabV f0) 4) 31 (ltV f0) ((loopsIn E.P 84).getD 0 (0, .skip)).2 0 (fun s => R (keepSt kp0 s)) (fun j s => Kx j (keepSt kp0 s)) (fun s => Kr (keepSt kR s)) (c0 x) =
    b0V f0 (fun x => R (c0 x)) (fun x => Kx 0 (c0 x)) (fun r => Kr (cR r)) x := by kernel_rfl
theorem l0_ok : LSound E tab (afun E tab 4) 31 lt 0 ((loopsIn E.P 84).getD 0 (0, .skip)).2 l0 := mkLoop_sound (by decide) (by decide) p0_ok (fun R Kx Kr x => by
  rw [tabE, ltE]
  exact l0v area_Read.F R Kx Kr x)
theorem loops : LoopsOk E tab lt 4 84 := loops_of (nt := 31) (ids := [0]) (by kernel_rfl) (by kernel_rfl) (by
  intro k i hk l hl
  match k, hk with
  | 0, hk => cases hk; cases hl; exact l0_ok
  | _ + 1, hk => exact absurd hk (by simp))
theorem det (d : Disk) : Det (F d) := by
  unfold F
  repeat' first | with_reducible exact det_ret _ | with_reducible exact det_false | with_reducible refine det_cond _ ?_ ?_ | with_reducible refine det_oget _ (fun _ => ?_) | with_reducible exact area_Read.det _ _ | with_reducible refine det_bind (area_Read.det _ _) (fun _ => ?_) | with_reducible refine det_loop (fun _ => ?_) (fun _ => ?_) (fun _ => ?_) _ | unfold b0
theorem edet (args : List AV) : Det (en args) := mkEntry_det (ts := [(.st 1)]) (cod := (cTwo (.slice .str) (.int .i64))) (F := fun x => F x.1) (fun x => det x.1) args
theorem ground : Ground E tab := ⟨num, mixed, (tab_cons area_Read.sound (tab_nil _)), clone, (dtab_cons area_Read.edet dtab_nil)⟩
theorem has : ((E.P.funcs[84]?).bind (·.body)).isSome = true := by kernel_rfl
theorem sound : EntrySound E.P 84 en := mkSound (ts := [(.st 1)]) (cod := (cTwo (.slice .str) (.int .i64))) (F := fun x => F x.1) ground loops has eq
end area_All
namespace ref06_number
noncomputable def tab : Tab := [(33, ref01_Get64.en)]
def F (b_0 : Str) (at_1 : Int) (K : Int → Prop) : Prop :=
  (bif (decide (0 ≤ at_1) && decide (at_1 ≤ (IntKind.i64.wrap (at_1 + 8))) && decide ((IntKind.i64.wrap (at_1 + 8)) ≤ (b_0.length : Int))) then (ref01_Get64.F (sub b_0 (Int.toNat at_1) (Int.toNat (IntKind.i64.wrap (at_1 + 8)))) fun r1 => (K r1.1)) else False)
noncomputable def en : Entry := mkEntry [.str, (.int .i64)] (cTy (.int .u64)) fun x => F x.1 x.2.1
noncomputable def tabV (f0 : Str → ((Int × Bool) → Prop) → Prop) : Tab := [(33, mkEntry [.str] (cTwo (.int .u64) .bool) fun x => f0 x.1)]
theorem tabE : tab = tabV ref01_Get64.F := by kernel_rfl
theorem eqv (f0 : Str → ((Int × Bool) → Prop) → Prop) (b_0 : Str) (at_1 : Int) (K : Int → Prop) : apure E (tabV f0) (fun _ => none) 4 139 [enc .str b_0, enc (.int .i64) at_1] (ansK ((cTy (.int .u64))) K) =
  (bif (decide (0 ≤ at_1) && decide (at_1 ≤ (IntKind.i64.wrap (at_1 + 8))) && decide ((IntKind.i64.wrap (at_1 + 8)) ≤ (b_0.length : Int))) then (f0 (sub b_0 (Int.toNat at_1) (Int.toNat (IntKind.i64.wrap (at_1 + 8)))) fun r1 => (K r1.1)) else False) := by kernel_rfl
theorem eq (x : Dens [.str, (.int .i64)]) (K : Int → Prop) : apure E tab (fun _ => none) 4 139 (encA [.str, (.int .i64)] x) (ansK ((cTy (.int .u64))) K) = F x.1 x.2.1 K := eqv ref01_Get64.F x.1 x.2.1 K
theorem loops : LoopsOk E tab (fun _ => none) 4 139 := loops_none _ _ _ _
theorem det (b_0 : Str) (at_1 : Int) : Det (F b_0 at_1) := by
  unfold F
  repeat' first | with_reducible exact det_ret _ | with_reducible exact det_false | with_reducible refine det_cond _ ?_ ?_ | with_reducible refine det_oget _ (fun _ => ?_) | with_reducible exact ref01_Get64.det _ | with_reducible refine det_bind (ref01_Get64.det _) (fun _ => ?_)
theorem edet (args : List AV) : Det (en args) := mkEntry_det (ts := [.str, (.int .i64)]) (cod := (cTy (.int .u64))) (F := fun x => F x.1 x.2.1) (fun x => det x.1 x.2.1) args
theorem ground : Ground E tab := ⟨num, mixed, (tab_cons ref01_Get64.sound (tab_nil _)), clone, (dtab_cons ref01_Get64.edet dtab_nil)⟩
theorem has : ((E.P.funcs[139]?).bind (·.body)).isSome = true := by kernel_rfl
theorem sound : EntrySound E.P 139 en := mkSound (ts := [.str, (.int .i64)]) (cod := (cTy (.int .u64))) (F := fun x => F x.1 x.2.1) ground loops has eq
end ref06_number
namespace ref06_Right
noncomputable def tab : Tab := []
def F (s : Super) (K : Bool → Prop) : Prop :=
  (bif (decide (s.blocks ≥ 1)) then (bif (decide (s.blocks ≤ 32)) then (K (s.vector.current != 0)) else (K false)) else (K false))
noncomputable def en : Entry := mkEntry [(.st 3)] (cTy .bool) fun x => F x.1
theorem eq (x : Dens [(.st 3)]) (K : Bool → Prop) : apure E tab (fun _ => none) 4 136 (encA [(.st 3)] x) (ansK ((cTy .bool)) K) = F x.1 K := by kernel_rfl
theorem loops : LoopsOk E tab (fun _ => none) 4 136 := loops_none _ _ _ _
theorem det (s : Super) : Det (F s) := by
  unfold F
  repeat' first | with_reducible exact det_ret _ | with_reducible exact det_false | with_reducible refine det_cond _ ?_ ?_ | with_reducible refine det_oget _ (fun _ => ?_)
theorem edet (args : List AV) : Det (en args) := mkEntry_det (ts := [(.st 3)]) (cod := (cTy .bool)) (F := fun x => F x.1) (fun x => det x.1) args
theorem ground : Ground E tab := ⟨num, mixed, (tab_nil _), clone, dtab_nil⟩
theorem has : ((E.P.funcs[136]?).bind (·.body)).isSome = true := by kernel_rfl
theorem sound : EntrySound E.P 136 en := mkSound (ts := [(.st 3)]) (cod := (cTy .bool)) (F := fun x => F x.1) ground loops has eq
end ref06_Right
namespace ref06_bytes
noncomputable def tab : Tab := [(41, ref01_Flags.en), (37, ref01_Put64.en)]
def F (s : Super) (K : Str → Prop) : Prop :=
  (ref01_Flags.F ([s.inc, s.pri, s.dis] : List Bool) fun r1 => (bif (fits (([71, 77, 1] : Str).length + (bytesOfInts ([(IntKind.u8.wrap s.blocks), r1] : List Int)).length)) then (ref01_Put64.F s.vector.current fun r2 => (bif (fits ((([71, 77, 1] : Str) ++ (bytesOfInts ([(IntKind.u8.wrap s.blocks), r1] : List Int))).length + r2.length)) then (ref01_Put64.F s.vector.bitmap fun r3 => (bif (fits (((([71, 77, 1] : Str) ++ (bytesOfInts ([(IntKind.u8.wrap s.blocks), r1] : List Int))) ++ r2).length + r3.length)) then (ref01_Put64.F s.vector.old0 fun r4 => (bif (fits ((((([71, 77, 1] : Str) ++ (bytesOfInts ([(IntKind.u8.wrap s.blocks), r1] : List Int))) ++ r2) ++ r3).length + r4.length)) then (ref01_Put64.F s.vector.old1 fun r5 => (bif (fits (((((([71, 77, 1] : Str) ++ (bytesOfInts ([(IntKind.u8.wrap s.blocks), r1] : List Int))) ++ r2) ++ r3) ++ r4).length + r5.length)) then (K (((((([71, 77, 1] : Str) ++ (bytesOfInts ([(IntKind.u8.wrap s.blocks), r1] : List Int))) ++ r2) ++ r3) ++ r4) ++ r5)) else False)) else False)) else False)) else False)) else False))
noncomputable def en : Entry := mkEntry [(.st 3)] (cTy .str) fun x => F x.1
noncomputable def tabV (f0 : (List Bool) → (Int → Prop) → Prop) (f1 : Int → (Str → Prop) → Prop) : Tab := [(41, mkEntry [(.slice .bool)] (cTy (.int .u8)) fun x => f0 x.1), (37, mkEntry [(.int .u64)] (cTy .str) fun x => f1 x.1)]
theorem tabE : tab = tabV ref01_Flags.F ref01_Put64.F := by kernel_rfl
theorem eqv (f0 : (List Bool) → (Int → Prop) → Prop) (f1 : Int → (Str → Prop) → Prop) (s : Super) (K : Str → Prop) : apure E (tabV f0 f1) (fun _ => none) 4 137 [enc (.st 3) s] (ansK ((cTy .str)) K) =
  (f0 ([s.inc, s.pri, s.dis] : List Bool) fun r1 => (bif (fits (([71, 77, 1] : Str).length + (bytesOfInts ([(IntKind.u8.wrap s.blocks), r1] : List Int)).length)) then (f1 s.vector.current fun r2 => (bif (fits ((([71, 77, 1] : Str) ++ (bytesOfInts ([(IntKind.u8.wrap s.blocks), r1] : List Int))).length + r2.length)) then (f1 s.vector.bitmap fun r3 => (bif (fits (((([71, 77, 1] : Str) ++ (bytesOfInts ([(IntKind.u8.wrap s.blocks), r1] : List Int))) ++ r2).length + r3.length)) then (f1 s.vector.old0 fun r4 => (bif (fits ((((([71, 77, 1] : Str) ++ (bytesOfInts ([(IntKind.u8.wrap s.blocks), r1] : List Int))) ++ r2) ++ r3).length + r4.length)) then (f1 s.vector.old1 fun r5 => (bif (fits (((((([71, 77, 1] : Str) ++ (bytesOfInts ([(IntKind.u8.wrap s.blocks), r1] : List Int))) ++ r2) ++ r3) ++ r4).length + r5.length)) then (K (((((([71, 77, 1] : Str) ++ (bytesOfInts ([(IntKind.u8.wrap s.blocks), r1] : List Int))) ++ r2) ++ r3) ++ r4) ++ r5)) else False)) else False)) else False)) else False)) else False)) := by kernel_rfl
theorem eq (x : Dens [(.st 3)]) (K : Str → Prop) : apure E tab (fun _ => none) 4 137 (encA [(.st 3)] x) (ansK ((cTy .str)) K) = F x.1 K := eqv ref01_Flags.F ref01_Put64.F x.1 K
theorem loops : LoopsOk E tab (fun _ => none) 4 137 := loops_none _ _ _ _
theorem det (s : Super) : Det (F s) := by
  unfold F
  repeat' first | with_reducible exact det_ret _ | with_reducible exact det_false | with_reducible refine det_cond _ ?_ ?_ | with_reducible refine det_oget _ (fun _ => ?_) | with_reducible exact ref01_Flags.det _ | with_reducible refine det_bind (ref01_Flags.det _) (fun _ => ?_) | with_reducible exact ref01_Put64.det _ | with_reducible refine det_bind (ref01_Put64.det _) (fun _ => ?_)
theorem edet (args : List AV) : Det (en args) := mkEntry_det (ts := [(.st 3)]) (cod := (cTy .str)) (F := fun x => F x.1) (fun x => det x.1) args
theorem ground : Ground E tab := ⟨num, mixed, (tab_cons ref01_Flags.sound (tab_cons ref01_Put64.sound (tab_nil _))), clone, (dtab_cons ref01_Flags.edet (dtab_cons ref01_Put64.edet dtab_nil))⟩
theorem has : ((E.P.funcs[137]?).bind (·.body)).isSome = true := by kernel_rfl
theorem sound : EntrySound E.P 137 en := mkSound (ts := [(.st 3)]) (cod := (cTy .str)) (F := fun x => F x.1) ground loops has eq
end ref06_bytes
namespace ref06_Decode
noncomputable def tab : Tab := [(24, ref02_Open.en), (39, ref01_Unflag.en), (139, ref06_number.en), (136, ref06_Right.en), (137, ref06_bytes.en)]
def F (b_0 : Str) (K : (Super × Int) → Prop) : Prop :=
  (ref02_Open.F b_0 fun r1 => (bif (r1.2 != 0) then (K ((⟨0, (⟨0, 0, 0, 0⟩ : Vec), false, false, false⟩ : Super), r1.2)) else (bif ((r1.1.length : Int) != 37) then (K ((⟨0, (⟨0, 0, 0, 0⟩ : Vec), false, false, false⟩ : Super), 2)) else (oget (getI r1.1 4) fun v2 => (bif (decide ((v2.toNat : Int) > 7)) then (K ((⟨0, (⟨0, 0, 0, 0⟩ : Vec), false, false, false⟩ : Super), 2)) else (oget (getI r1.1 4) fun v3 => (ref01_Unflag.F (v3.toNat : Int) 3 fun r4 => (oget (getI r1.1 3) fun v5 => (ref06_number.F r1.1 5 fun r6 => (ref06_number.F r1.1 13 fun r7 => (ref06_number.F r1.1 21 fun r8 => (ref06_number.F r1.1 29 fun r9 => (oget (getI r4.1 0) fun v10 => (oget (getI r4.1 1) fun v11 => (oget (getI r4.1 2) fun v12 => (ref06_Right.F (⟨(IntKind.i64.wrap (v5.toNat : Int)), (⟨r6, r7, r8, r9⟩ : Vec), v10, v11, v12⟩ : Super) fun r13 => (bif (!r13) then (K ((⟨0, (⟨0, 0, 0, 0⟩ : Vec), false, false, false⟩ : Super), 2)) else (ref06_bytes.F (⟨(IntKind.i64.wrap (v5.toNat : Int)), (⟨r6, r7, r8, r9⟩ : Vec), v10, v11, v12⟩ : Super) fun r14 => (bif (!(r14 == r1.1)) then (K ((⟨0, (⟨0, 0, 0, 0⟩ : Vec), false, false, false⟩ : Super), 2)) else (K ((⟨(IntKind.i64.wrap (v5.toNat : Int)), (⟨r6, r7, r8, r9⟩ : Vec), v10, v11, v12⟩ : Super), 0)))))))))))))))))))))
noncomputable def en : Entry := mkEntry [.str] (cTwo (.st 3) (.int .i64)) fun x => F x.1
noncomputable def tabV (f0 : Str → ((Str × Int) → Prop) → Prop) (f1 : Int → Int → (((List Bool) × Bool) → Prop) → Prop) (f2 : Str → Int → (Int → Prop) → Prop) (f3 : Super → (Bool → Prop) → Prop) (f4 : Super → (Str → Prop) → Prop) : Tab := [(24, mkEntry [.str] (cTwo .str (.int .i64)) fun x => f0 x.1), (39, mkEntry [(.int .u8), (.int .i64)] (cTwo (.slice .bool) .bool) fun x => f1 x.1 x.2.1), (139, mkEntry [.str, (.int .i64)] (cTy (.int .u64)) fun x => f2 x.1 x.2.1), (136, mkEntry [(.st 3)] (cTy .bool) fun x => f3 x.1), (137, mkEntry [(.st 3)] (cTy .str) fun x => f4 x.1)]
theorem tabE : tab = tabV ref02_Open.F ref01_Unflag.F ref06_number.F ref06_Right.F ref06_bytes.F := by kernel_rfl
theorem eqv (f0 : Str → ((Str × Int) → Prop) → Prop) (f1 : Int → Int → (((List Bool) × Bool) → Prop) → Prop) (f2 : Str → Int → (Int → Prop) → Prop) (f3 : Super → (Bool → Prop) → Prop) (f4 : Super → (Str → Prop) → Prop) (b_0 : Str) (K : (Super × Int) → Prop) : apure E (tabV f0 f1 f2 f3 f4) (fun _ => none) 4 126 [enc .str b_0] (ansK ((cTwo (.st 3) (.int .i64))) K) =
  (f0 b_0 fun r1 => (bif (r1.2 != 0) then (K ((⟨0, (⟨0, 0, 0, 0⟩ : Vec), false, false, false⟩ : Super), r1.2)) else (bif ((r1.1.length : Int) != 37) then (K ((⟨0, (⟨0, 0, 0, 0⟩ : Vec), false, false, false⟩ : Super), 2)) else (oget (getI r1.1 4) fun v2 => (bif (decide ((v2.toNat : Int) > 7)) then (K ((⟨0, (⟨0, 0, 0, 0⟩ : Vec), false, false, false⟩ : Super), 2)) else (oget (getI r1.1 4) fun v3 => (f1 (v3.toNat : Int) 3 fun r4 => (oget (getI r1.1 3) fun v5 => (f2 r1.1 5 fun r6 => (f2 r1.1 13 fun r7 => (f2 r1.1 21 fun r8 => (f2 r1.1 29 fun r9 => (oget (getI r4.1 0) fun v10 => (oget (getI r4.1 1) fun v11 => (oget (getI r4.1 2) fun v12 => (f3 (⟨(IntKind.i64.wrap (v5.toNat : Int)), (⟨r6, r7, r8, r9⟩ : Vec), v10, v11, v12⟩ : Super) fun r13 => (bif (!r13) then (K ((⟨0, (⟨0, 0, 0, 0⟩ : Vec), false, false, false⟩ : Super), 2)) else (f4 (⟨(IntKind.i64.wrap (v5.toNat : Int)), (⟨r6, r7, r8, r9⟩ : Vec), v10, v11, v12⟩ : Super) fun r14 => (bif (!(r14 == r1.1)) then (K ((⟨0, (⟨0, 0, 0, 0⟩ : Vec), false, false, false⟩ : Super), 2)) else (K ((⟨(IntKind.i64.wrap (v5.toNat : Int)), (⟨r6, r7, r8, r9⟩ : Vec), v10, v11, v12⟩ : Super), 0))))))))))))))))))))) := by kernel_rfl
theorem eq (x : Dens [.str]) (K : (Super × Int) → Prop) : apure E tab (fun _ => none) 4 126 (encA [.str] x) (ansK ((cTwo (.st 3) (.int .i64))) K) = F x.1 K := eqv ref02_Open.F ref01_Unflag.F ref06_number.F ref06_Right.F ref06_bytes.F x.1 K
theorem loops : LoopsOk E tab (fun _ => none) 4 126 := loops_none _ _ _ _
theorem det (b_0 : Str) : Det (F b_0) := by
  unfold F
  repeat' first | with_reducible exact det_ret _ | with_reducible exact det_false | with_reducible refine det_cond _ ?_ ?_ | with_reducible refine det_oget _ (fun _ => ?_) | with_reducible exact ref02_Open.det _ | with_reducible refine det_bind (ref02_Open.det _) (fun _ => ?_) | with_reducible exact ref01_Unflag.det _ _ | with_reducible refine det_bind (ref01_Unflag.det _ _) (fun _ => ?_) | with_reducible exact ref06_number.det _ _ | with_reducible refine det_bind (ref06_number.det _ _) (fun _ => ?_) | with_reducible exact ref06_Right.det _ | with_reducible refine det_bind (ref06_Right.det _) (fun _ => ?_) | with_reducible exact ref06_bytes.det _ | with_reducible refine det_bind (ref06_bytes.det _) (fun _ => ?_)
theorem edet (args : List AV) : Det (en args) := mkEntry_det (ts := [.str]) (cod := (cTwo (.st 3) (.int .i64))) (F := fun x => F x.1) (fun x => det x.1) args
theorem ground : Ground E tab := ⟨num, mixed, (tab_cons ref02_Open.sound (tab_cons ref01_Unflag.sound (tab_cons ref06_number.sound (tab_cons ref06_Right.sound (tab_cons ref06_bytes.sound (tab_nil _)))))), clone, (dtab_cons ref02_Open.edet (dtab_cons ref01_Unflag.edet (dtab_cons ref06_number.edet (dtab_cons ref06_Right.edet (dtab_cons ref06_bytes.edet dtab_nil)))))⟩
theorem has : ((E.P.funcs[126]?).bind (·.body)).isSome = true := by kernel_rfl
theorem sound : EntrySound E.P 126 en := mkSound (ts := [.str]) (cod := (cTwo (.st 3) (.int .i64))) (F := fun x => F x.1) ground loops has eq
end ref06_Decode
namespace ref07_Fits
noncomputable def tab : Tab := []
def F (d : Disk) (s : Super) (K : Bool → Prop) : Prop :=
  (K ((IntKind.i64.wrap ((d.sure.length : Int) - 2)) == s.blocks))
noncomputable def en : Entry := mkEntry [(.st 1), (.st 3)] (cTy .bool) fun x => F x.1 x.2.1
theorem eq (x : Dens [(.st 1), (.st 3)]) (K : Bool → Prop) : apure E tab (fun _ => none) 4 127 (encA [(.st 1), (.st 3)] x) (ansK ((cTy .bool)) K) = F x.1 x.2.1 K := by kernel_rfl
theorem loops : LoopsOk E tab (fun _ => none) 4 127 := loops_none _ _ _ _
theorem det (d : Disk) (s : Super) : Det (F d s) := by
  unfold F
  repeat' first | with_reducible exact det_ret _ | with_reducible exact det_false | with_reducible refine det_cond _ ?_ ?_ | with_reducible refine det_oget _ (fun _ => ?_)
theorem edet (args : List AV) : Det (en args) := mkEntry_det (ts := [(.st 1), (.st 3)]) (cod := (cTy .bool)) (F := fun x => F x.1 x.2.1) (fun x => det x.1 x.2.1) args
theorem ground : Ground E tab := ⟨num, mixed, (tab_nil _), clone, dtab_nil⟩
theorem has : ((E.P.funcs[127]?).bind (·.body)).isSome = true := by kernel_rfl
theorem sound : EntrySound E.P 127 en := mkSound (ts := [(.st 1), (.st 3)]) (cod := (cTy .bool)) (F := fun x => F x.1 x.2.1) ground loops has eq
end ref07_Fits
namespace ref07_Load
noncomputable def tab : Tab := [(63, ref04_Read.en), (126, ref06_Decode.en), (127, ref07_Fits.en)]
def F (d : Disk) (K : (Super × Int) → Prop) : Prop :=
  (ref04_Read.F d 0 fun r1 => (bif (r1.2 != 0) then (K ((⟨0, (⟨0, 0, 0, 0⟩ : Vec), false, false, false⟩ : Super), r1.2)) else (ref06_Decode.F r1.1 fun r2 => (bif (r2.2 != 0) then (K ((⟨0, (⟨0, 0, 0, 0⟩ : Vec), false, false, false⟩ : Super), r2.2)) else (ref07_Fits.F d r2.1 fun r3 => (bif (!r3) then (K ((⟨0, (⟨0, 0, 0, 0⟩ : Vec), false, false, false⟩ : Super), 2)) else (K (r2.1, 0))))))))
noncomputable def en : Entry := mkEntry [(.st 1)] (cTwo (.st 3) (.int .i64)) fun x => F x.1
noncomputable def tabV (f0 : Disk → Int → ((Str × Int) → Prop) → Prop) (f1 : Str → ((Super × Int) → Prop) → Prop) (f2 : Disk → Super → (Bool → Prop) → Prop) : Tab := [(63, mkEntry [(.st 1), (.int .i64)] (cTwo .str (.int .i64)) fun x => f0 x.1 x.2.1), (126, mkEntry [.str] (cTwo (.st 3) (.int .i64)) fun x => f1 x.1), (127, mkEntry [(.st 1), (.st 3)] (cTy .bool) fun x => f2 x.1 x.2.1)]
theorem tabE : tab = tabV ref04_Read.F ref06_Decode.F ref07_Fits.F := by kernel_rfl
theorem eqv (f0 : Disk → Int → ((Str × Int) → Prop) → Prop) (f1 : Str → ((Super × Int) → Prop) → Prop) (f2 : Disk → Super → (Bool → Prop) → Prop) (d : Disk) (K : (Super × Int) → Prop) : apure E (tabV f0 f1 f2) (fun _ => none) 4 112 [enc (.st 1) d] (ansK ((cTwo (.st 3) (.int .i64))) K) =
  (f0 d 0 fun r1 => (bif (r1.2 != 0) then (K ((⟨0, (⟨0, 0, 0, 0⟩ : Vec), false, false, false⟩ : Super), r1.2)) else (f1 r1.1 fun r2 => (bif (r2.2 != 0) then (K ((⟨0, (⟨0, 0, 0, 0⟩ : Vec), false, false, false⟩ : Super), r2.2)) else (f2 d r2.1 fun r3 => (bif (!r3) then (K ((⟨0, (⟨0, 0, 0, 0⟩ : Vec), false, false, false⟩ : Super), 2)) else (K (r2.1, 0)))))))) := by kernel_rfl
theorem eq (x : Dens [(.st 1)]) (K : (Super × Int) → Prop) : apure E tab (fun _ => none) 4 112 (encA [(.st 1)] x) (ansK ((cTwo (.st 3) (.int .i64))) K) = F x.1 K := eqv ref04_Read.F ref06_Decode.F ref07_Fits.F x.1 K
theorem loops : LoopsOk E tab (fun _ => none) 4 112 := loops_none _ _ _ _
theorem det (d : Disk) : Det (F d) := by
  unfold F
  repeat' first | with_reducible exact det_ret _ | with_reducible exact det_false | with_reducible refine det_cond _ ?_ ?_ | with_reducible refine det_oget _ (fun _ => ?_) | with_reducible exact ref04_Read.det _ _ | with_reducible refine det_bind (ref04_Read.det _ _) (fun _ => ?_) | with_reducible exact ref06_Decode.det _ | with_reducible refine det_bind (ref06_Decode.det _) (fun _ => ?_) | with_reducible exact ref07_Fits.det _ _ | with_reducible refine det_bind (ref07_Fits.det _ _) (fun _ => ?_)
theorem edet (args : List AV) : Det (en args) := mkEntry_det (ts := [(.st 1)]) (cod := (cTwo (.st 3) (.int .i64))) (F := fun x => F x.1) (fun x => det x.1) args
theorem ground : Ground E tab := ⟨num, mixed, (tab_cons ref04_Read.sound (tab_cons ref06_Decode.sound (tab_cons ref07_Fits.sound (tab_nil _)))), clone, (dtab_cons ref04_Read.edet (dtab_cons ref06_Decode.edet (dtab_cons ref07_Fits.edet dtab_nil)))⟩
theorem has : ((E.P.funcs[112]?).bind (·.body)).isSome = true := by kernel_rfl
theorem sound : EntrySound E.P 112 en := mkSound (ts := [(.st 1)]) (cod := (cTwo (.st 3) (.int .i64))) (F := fun x => F x.1) ground loops has eq
end ref07_Load
namespace ref09_Nought
noncomputable def tab : Tab := []
def F (K : Str → Prop) : Prop :=
  (K ([0, 0, 0, 0, 0, 0, 0, 0] : Str))
noncomputable def en : Entry := mkEntry [] (cTy .str) fun x => F 
theorem eq (x : Dens []) (K : Str → Prop) : apure E tab (fun _ => none) 4 113 (encA [] x) (ansK ((cTy .str)) K) = F  K := by kernel_rfl
theorem loops : LoopsOk E tab (fun _ => none) 4 113 := loops_none _ _ _ _
theorem det : Det (F) := by
  unfold F
  repeat' first | with_reducible exact det_ret _ | with_reducible exact det_false | with_reducible refine det_cond _ ?_ ?_ | with_reducible refine det_oget _ (fun _ => ?_)
theorem edet (args : List AV) : Det (en args) := mkEntry_det (ts := []) (cod := (cTy .str)) (F := fun _ => F) (fun _ => det ) args
theorem ground : Ground E tab := ⟨num, mixed, (tab_nil _), clone, dtab_nil⟩
theorem has : ((E.P.funcs[113]?).bind (·.body)).isSome = true := by kernel_rfl
theorem sound : EntrySound E.P 113 en := mkSound (ts := []) (cod := (cTy .str)) (F := fun _ => F) ground loops has eq
end ref09_Nought
namespace ref09_Texts
noncomputable def tab : Tab := []
structure R where
  t4 : Bool
def cR (x : R) : St := { fr := lookL .top [(4, (.bool x.t4))], hs := { hp := lookL .dead [], hn := 0 } }
def kR : Keep := { ks := [(4, none)], bs := [], hn := 0 }
structure L0 where
  a : (List Str)
  b0 : (List Str)
  i : Int
def c0 (x : L0) : St := { fr := lookL .top [(0, (.sl .any .str x.a)), (1, (.sl .any .str x.b0)), (5, (.int .i64 x.i))], hs := { hp := lookL .dead [], hn := 0 } }
def kp0 : Keep := { ks := [(0, none), (1, none), (5, none)], bs := [], hn := 0 }
def p0 (st : St) (K : L0 → Prop) : Prop := gSl .any .str (st.fr 0) fun a1 => gSl .any .str (st.fr 1) fun a2 => gInt .i64 (st.fr 5) fun a3 => K ⟨a1, a2, a3⟩
theorem p0_ok (st : St) (K : L0 → Prop) (h : p0 st K) : ∃ x, keepSt kp0 st = c0 x ∧ K x := by
  obtain ⟨a1, h0, h⟩ := gSl_elim h
  obtain ⟨a2, h1, h⟩ := gSl_elim h
  obtain ⟨a3, h2, h⟩ := gInt_elim h
  refine ⟨_, ?_, h⟩
  simp only [keepSt, kp0, List.map, h0, h1, h2]
  rfl
def b0 (rec kx : L0 → Prop) (kr : R → Prop) (x : L0) : Prop :=
  (bif (decide (x.i < (x.a.length : Int))) then (oget (getI x.a x.i) fun v1 => (oget (getI x.b0 x.i) fun v2 => (bif (!(v1 == v2)) then (kr ⟨false⟩) else (rec ⟨x.a, x.b0, (IntKind.i64.wrap (x.i + 1))⟩)))) else (kx ⟨x.a, x.b0, x.i⟩))
def l0 : LSpec := mkLoop 0 kp0 kR p0 c0 cR b0
def lt : Nat → Option LSpec
  | 0 => some l0
  | _ => none
def F (a : (List Str)) (b_1 : (List Str)) (K : Bool → Prop) : Prop :=
  (bif ((a.length : Int) != (b_1.length : Int)) then (K false) else (∃ n, loopB b0 n (fun x3 => (K true)) (fun r4 => (K r4.t4)) ⟨a, b_1, 0⟩))
noncomputable def en : Entry := mkEntry [(.slice .str), (.slice .str)] (cTy .bool) fun x => F x.1 x.2.1
theorem eq (x : Dens [(.slice .str), (.slice .str)]) (K : Bool → Prop) : apure E tab lt 4 86 (encA [(.slice .str), (.slice .str)] x) (ansK ((cTy .bool)) K) = F x.1 x.2.1 K := by kernel_rfl
theorem l0_ok : LSound E tab (afun E tab 4) 26 lt 0 ((loopsIn E.P 86).getD 0 (0, .skip)).2 l0 := mkLoop_sound (by decide) (by decide) p0_ok (fun R Kx Kr x => by kernel_rfl)
theorem loops : LoopsOk E tab lt 4 86 := loops_of (nt := 26) (ids := [0]) (by kernel_rfl) (by kernel_rfl) (by
  intro k i hk l hl
  match k, hk with
  | 0, hk => cases hk; cases hl; exact l0_ok
  | _ + 1, hk => exact absurd hk (by simp))
theorem det (a : (List Str)) (b_1 : (List Str)) : Det (F a b_1) := by
  unfold F
  repeat' first | with_reducible exact det_ret _ | with_reducible exact det_false | with_reducible refine det_cond _ ?_ ?_ | with_reducible refine det_oget _ (fun _ => ?_) | with_reducible refine det_loop (fun _ => ?_) (fun _ => ?_) (fun _ => ?_) _ | unfold b0
theorem edet (args : List AV) : Det (en args) := mkEntry_det (ts := [(.slice .str), (.slice .str)]) (cod := (cTy .bool)) (F := fun x => F x.1 x.2.1) (fun x => det x.1 x.2.1) args
theorem ground : Ground E tab := ⟨num, mixed, (tab_nil _), clone, dtab_nil⟩
theorem has : ((E.P.funcs[86]?).bind (·.body)).isSome = true := by kernel_rfl
theorem sound : EntrySound E.P 86 en := mkSound (ts := [(.slice .str), (.slice .str)]) (cod := (cTy .bool)) (F := fun x => F x.1 x.2.1) ground loops has eq
end ref09_Texts
namespace law09_alive
noncomputable def tab : Tab := [(87, area_Format.en), (82, area_Put.en), (80, area_Read.en), (84, area_All.en), (112, ref07_Load.en), (74, ref08_Load.en), (113, ref09_Nought.en), (86, ref09_Texts.en)]
def F (K : Bool → Prop) : Prop :=
  (area_Format.F 2 7 fun r1 => (area_Put.F r1.1 1 ([97, 98, 99, 100, 101, 102, 103, 104] : Str) fun r2 => (area_Read.F r2.1 1 fun r3 => (area_All.F r2.1 fun r4 => (area_Read.F r2.1 2 fun r5 => (area_Put.F r2.1 0 ([97, 98, 99] : Str) fun r6 => (area_Format.F 0 7 fun r7 => (ref07_Load.F r1.1 fun r8 => (ref08_Load.F r1.1 fun r9 => (bif (r1.2 == 0) then (bif (r2.2 == 0) then (bif (r3.2 == 0) then (bif (r4.2 == 0) then (bif (r5.2 == 4) then (bif (r6.2 == 5) then (bif (r7.2 == 1) then (bif (r8.2 == 0) then (bif (r9.2 == 0) then (bif ((r1.1.sure.length : Int) == 4) then (bif (r3.1 == ([97, 98, 99, 100, 101, 102, 103, 104] : Str)) then (ref09_Nought.F fun r10 => (ref09_Texts.F r4.1 ([r10, r3.1] : List Str) fun r11 => (bif r11 then (bif ((r8.1.blocks == 2) && (((r8.1.vector.current == 7) && ((r8.1.vector.bitmap == 0) && (((r8.1.vector.old0 == 0) && ((r8.1.vector.old1 == 0) && true)) && true))) && ((r8.1.inc == false) && ((r8.1.pri == false) && ((r8.1.dis == false) && true))))) then (K (r9.1 == 0)) else (K false)) else (K false)))) else (K false)) else (K false)) else (K false)) else (K false)) else (K false)) else (K false)) else (K false)) else (K false)) else (K false)) else (K false)) else (K false)))))))))))
noncomputable def en : Entry := mkEntry [] (cTy .bool) fun x => F 
noncomputable def tabV (f0 : Int → Int → ((Disk × Int) → Prop) → Prop) (f1 : Disk → Int → Str → ((Disk × Int) → Prop) → Prop) (f2 : Disk → Int → ((Str × Int) → Prop) → Prop) (f3 : Disk → (((List Str) × Int) → Prop) → Prop) (f4 : Disk → ((Super × Int) → Prop) → Prop) (f5 : Disk → ((Int × Int) → Prop) → Prop) (f6 : (Str → Prop) → Prop) (f7 : (List Str) → (List Str) → (Bool → Prop) → Prop) : Tab := [(87, mkEntry [(.int .i64), (.int .u64)] (cTwo (.st 1) (.int .i64)) fun x => f0 x.1 x.2.1), (82, mkEntry [(.st 1), (.int .i64), .str] (cTwo (.st 1) (.int .i64)) fun x => f1 x.1 x.2.1 x.2.2.1), (80, mkEntry [(.st 1), (.int .i64)] (cTwo .str (.int .i64)) fun x => f2 x.1 x.2.1), (84, mkEntry [(.st 1)] (cTwo (.slice .str) (.int .i64)) fun x => f3 x.1), (112, mkEntry [(.st 1)] (cTwo (.st 3) (.int .i64)) fun x => f4 x.1), (74, mkEntry [(.st 1)] (cTwo (.int .u32) (.int .i64)) fun x => f5 x.1), (113, mkEntry [] (cTy .str) fun _ => f6), (86, mkEntry [(.slice .str), (.slice .str)] (cTy .bool) fun x => f7 x.1 x.2.1)]
theorem tabE : tab = tabV area_Format.F area_Put.F area_Read.F area_All.F ref07_Load.F ref08_Load.F ref09_Nought.F ref09_Texts.F := by kernel_rfl
theorem eqv (f0 : Int → Int → ((Disk × Int) → Prop) → Prop) (f1 : Disk → Int → Str → ((Disk × Int) → Prop) → Prop) (f2 : Disk → Int → ((Str × Int) → Prop) → Prop) (f3 : Disk → (((List Str) × Int) → Prop) → Prop) (f4 : Disk → ((Super × Int) → Prop) → Prop) (f5 : Disk → ((Int × Int) → Prop) → Prop) (f6 : (Str → Prop) → Prop) (f7 : (List Str) → (List Str) → (Bool → Prop) → Prop) (K : Bool → Prop) : apure E (tabV f0 f1 f2 f3 f4 f5 f6 f7) (fun _ => none) 4 79 [] (ansK ((cTy .bool)) K) =
  (f0 2 7 fun r1 => (f1 r1.1 1 ([97, 98, 99, 100, 101, 102, 103, 104] : Str) fun r2 => (f2 r2.1 1 fun r3 => (f3 r2.1 fun r4 => (f2 r2.1 2 fun r5 => (f1 r2.1 0 ([97, 98, 99] : Str) fun r6 => (f0 0 7 fun r7 => (f4 r1.1 fun r8 => (f5 r1.1 fun r9 => (bif (r1.2 == 0) then (bif (r2.2 == 0) then (bif (r3.2 == 0) then (bif (r4.2 == 0) then (bif (r5.2 == 4) then (bif (r6.2 == 5) then (bif (r7.2 == 1) then (bif (r8.2 == 0) then (bif (r9.2 == 0) then (bif ((r1.1.sure.length : Int) == 4) then (bif (r3.1 == ([97, 98, 99, 100, 101, 102, 103, 104] : Str)) then (f6 fun r10 => (f7 r4.1 ([r10, r3.1] : List Str) fun r11 => (bif r11 then (bif ((r8.1.blocks == 2) && (((r8.1.vector.current == 7) && ((r8.1.vector.bitmap == 0) && (((r8.1.vector.old0 == 0) && ((r8.1.vector.old1 == 0) && true)) && true))) && ((r8.1.inc == false) && ((r8.1.pri == false) && ((r8.1.dis == false) && true))))) then (K (r9.1 == 0)) else (K false)) else (K false)))) else (K false)) else (K false)) else (K false)) else (K false)) else (K false)) else (K false)) else (K false)) else (K false)) else (K false)) else (K false)) else (K false))))))))))) := by kernel_rfl
theorem eq (x : Dens []) (K : Bool → Prop) : apure E tab (fun _ => none) 4 79 (encA [] x) (ansK ((cTy .bool)) K) = F  K := eqv area_Format.F area_Put.F area_Read.F area_All.F ref07_Load.F ref08_Load.F ref09_Nought.F ref09_Texts.F  K
theorem loops : LoopsOk E tab (fun _ => none) 4 79 := loops_none _ _ _ _
theorem det : Det (F) := by
  unfold F
  repeat' first | with_reducible exact det_ret _ | with_reducible exact det_false | with_reducible refine det_cond _ ?_ ?_ | with_reducible refine det_oget _ (fun _ => ?_) | with_reducible exact area_Format.det _ _ | with_reducible refine det_bind (area_Format.det _ _) (fun _ => ?_) | with_reducible exact area_Put.det _ _ _ | with_reducible refine det_bind (area_Put.det _ _ _) (fun _ => ?_) | with_reducible exact area_Read.det _ _ | with_reducible refine det_bind (area_Read.det _ _) (fun _ => ?_) | with_reducible exact area_All.det _ | with_reducible refine det_bind (area_All.det _) (fun _ => ?_) | with_reducible exact ref07_Load.det _ | with_reducible refine det_bind (ref07_Load.det _) (fun _ => ?_) | with_reducible exact ref08_Load.det _ | with_reducible refine det_bind (ref08_Load.det _) (fun _ => ?_) | with_reducible exact ref09_Nought.det | with_reducible refine det_bind (ref09_Nought.det) (fun _ => ?_) | with_reducible exact ref09_Texts.det _ _ | with_reducible refine det_bind (ref09_Texts.det _ _) (fun _ => ?_)
theorem edet (args : List AV) : Det (en args) := mkEntry_det (ts := []) (cod := (cTy .bool)) (F := fun _ => F) (fun _ => det ) args
theorem ground : Ground E tab := ⟨num, mixed, (tab_cons area_Format.sound (tab_cons area_Put.sound (tab_cons area_Read.sound (tab_cons area_All.sound (tab_cons ref07_Load.sound (tab_cons ref08_Load.sound (tab_cons ref09_Nought.sound (tab_cons ref09_Texts.sound (tab_nil _))))))))), clone, (dtab_cons area_Format.edet (dtab_cons area_Put.edet (dtab_cons area_Read.edet (dtab_cons area_All.edet (dtab_cons ref07_Load.edet (dtab_cons ref08_Load.edet (dtab_cons ref09_Nought.edet (dtab_cons ref09_Texts.edet dtab_nil))))))))⟩
theorem has : ((E.P.funcs[79]?).bind (·.body)).isSome = true := by kernel_rfl
theorem sound : EntrySound E.P 79 en := mkSound (ts := []) (cod := (cTy .bool)) (F := fun _ => F) ground loops has eq
end law09_alive
namespace ref09_there
noncomputable def tab : Tab := []
def F (d : Disk) (i : Int) (K : Bool → Prop) : Prop :=
  (bif (decide (i ≥ 0)) then (K (decide (i < (IntKind.i64.wrap ((d.sure.length : Int) - 2))))) else (K false))
noncomputable def en : Entry := mkEntry [(.st 1), (.int .i64)] (cTy .bool) fun x => F x.1 x.2.1
theorem eq (x : Dens [(.st 1), (.int .i64)]) (K : Bool → Prop) : apure E tab (fun _ => none) 4 115 (encA [(.st 1), (.int .i64)] x) (ansK ((cTy .bool)) K) = F x.1 x.2.1 K := by kernel_rfl
theorem loops : LoopsOk E tab (fun _ => none) 4 115 := loops_none _ _ _ _
theorem det (d : Disk) (i : Int) : Det (F d i) := by
  unfold F
  repeat' first | with_reducible exact det_ret _ | with_reducible exact det_false | with_reducible refine det_cond _ ?_ ?_ | with_reducible refine det_oget _ (fun _ => ?_)
theorem edet (args : List AV) : Det (en args) := mkEntry_det (ts := [(.st 1), (.int .i64)]) (cod := (cTy .bool)) (F := fun x => F x.1 x.2.1) (fun x => det x.1 x.2.1) args
theorem ground : Ground E tab := ⟨num, mixed, (tab_nil _), clone, dtab_nil⟩
theorem has : ((E.P.funcs[115]?).bind (·.body)).isSome = true := by kernel_rfl
theorem sound : EntrySound E.P 115 en := mkSound (ts := [(.st 1), (.int .i64)]) (cod := (cTy .bool)) (F := fun x => F x.1 x.2.1) ground loops has eq
end ref09_there
namespace ref09_Read
noncomputable def tab : Tab := [(115, ref09_there.en), (63, ref04_Read.en)]
def F (d : Disk) (i : Int) (K : (Str × Int) → Prop) : Prop :=
  (ref09_there.F d i fun r1 => (bif (!r1) then (K (([] : Str), 4)) else (ref04_Read.F d (IntKind.i64.wrap (i + 2)) fun r2 => (bif (r2.2 != 0) then (K (([] : Str), r2.2)) else (bif ((r2.1.length : Int) != 8) then (K (([] : Str), 2)) else (K (r2.1, 0)))))))
noncomputable def en : Entry := mkEntry [(.st 1), (.int .i64)] (cTwo .str (.int .i64)) fun x => F x.1 x.2.1
noncomputable def tabV (f0 : Disk → Int → (Bool → Prop) → Prop) (f1 : Disk → Int → ((Str × Int) → Prop) → Prop) : Tab := [(115, mkEntry [(.st 1), (.int .i64)] (cTy .bool) fun x => f0 x.1 x.2.1), (63, mkEntry [(.st 1), (.int .i64)] (cTwo .str (.int .i64)) fun x => f1 x.1 x.2.1)]
theorem tabE : tab = tabV ref09_there.F ref04_Read.F := by kernel_rfl
theorem eqv (f0 : Disk → Int → (Bool → Prop) → Prop) (f1 : Disk → Int → ((Str × Int) → Prop) → Prop) (d : Disk) (i : Int) (K : (Str × Int) → Prop) : apure E (tabV f0 f1) (fun _ => none) 4 81 [enc (.st 1) d, enc (.int .i64) i] (ansK ((cTwo .str (.int .i64))) K) =
  (f0 d i fun r1 => (bif (!r1) then (K (([] : Str), 4)) else (f1 d (IntKind.i64.wrap (i + 2)) fun r2 => (bif (r2.2 != 0) then (K (([] : Str), r2.2)) else (bif ((r2.1.length : Int) != 8) then (K (([] : Str), 2)) else (K (r2.1, 0))))))) := by kernel_rfl
theorem eq (x : Dens [(.st 1), (.int .i64)]) (K : (Str × Int) → Prop) : apure E tab (fun _ => none) 4 81 (encA [(.st 1), (.int .i64)] x) (ansK ((cTwo .str (.int .i64))) K) = F x.1 x.2.1 K := eqv ref09_there.F ref04_Read.F x.1 x.2.1 K
theorem loops : LoopsOk E tab (fun _ => none) 4 81 := loops_none _ _ _ _
theorem det (d : Disk) (i : Int) : Det (F d i) := by
  unfold F
  repeat' first | with_reducible exact det_ret _ | with_reducible exact det_false | with_reducible refine det_cond _ ?_ ?_ | with_reducible refine det_oget _ (fun _ => ?_) | with_reducible exact ref09_there.det _ _ | with_reducible refine det_bind (ref09_there.det _ _) (fun _ => ?_) | with_reducible exact ref04_Read.det _ _ | with_reducible refine det_bind (ref04_Read.det _ _) (fun _ => ?_)
theorem edet (args : List AV) : Det (en args) := mkEntry_det (ts := [(.st 1), (.int .i64)]) (cod := (cTwo .str (.int .i64))) (F := fun x => F x.1 x.2.1) (fun x => det x.1 x.2.1) args
theorem ground : Ground E tab := ⟨num, mixed, (tab_cons ref09_there.sound (tab_cons ref04_Read.sound (tab_nil _))), clone, (dtab_cons ref09_there.edet (dtab_cons ref04_Read.edet dtab_nil))⟩
theorem has : ((E.P.funcs[81]?).bind (·.body)).isSome = true := by kernel_rfl
theorem sound : EntrySound E.P 81 en := mkSound (ts := [(.st 1), (.int .i64)]) (cod := (cTwo .str (.int .i64))) (F := fun x => F x.1 x.2.1) ground loops has eq
end ref09_Read
namespace ref09_Put
noncomputable def tab : Tab := [(115, ref09_there.en), (61, ref04_Write.en), (65, ref04_Flush.en)]
def F (d : Disk) (i : Int) (data : Str) (K : (Disk × Int) → Prop) : Prop :=
  (ref09_there.F d i fun r1 => (bif (!r1) then (K (d, 4)) else (bif ((data.length : Int) != 8) then (K (d, 5)) else (ref04_Write.F d (IntKind.i64.wrap (i + 2)) data fun r2 => (bif (r2.2 != 0) then (K (r2.1, r2.2)) else (ref04_Flush.F r2.1 fun r3 => (K (r3.1, r3.2))))))))
noncomputable def en : Entry := mkEntry [(.st 1), (.int .i64), .str] (cTwo (.st 1) (.int .i64)) fun x => F x.1 x.2.1 x.2.2.1
noncomputable def tabV (f0 : Disk → Int → (Bool → Prop) → Prop) (f1 : Disk → Int → Str → ((Disk × Int) → Prop) → Prop) (f2 : Disk → ((Disk × Int) → Prop) → Prop) : Tab := [(115, mkEntry [(.st 1), (.int .i64)] (cTy .bool) fun x => f0 x.1 x.2.1), (61, mkEntry [(.st 1), (.int .i64), .str] (cTwo (.st 1) (.int .i64)) fun x => f1 x.1 x.2.1 x.2.2.1), (65, mkEntry [(.st 1)] (cTwo (.st 1) (.int .i64)) fun x => f2 x.1)]
theorem tabE : tab = tabV ref09_there.F ref04_Write.F ref04_Flush.F := by kernel_rfl
theorem eqv (f0 : Disk → Int → (Bool → Prop) → Prop) (f1 : Disk → Int → Str → ((Disk × Int) → Prop) → Prop) (f2 : Disk → ((Disk × Int) → Prop) → Prop) (d : Disk) (i : Int) (data : Str) (K : (Disk × Int) → Prop) : apure E (tabV f0 f1 f2) (fun _ => none) 4 83 [enc (.st 1) d, enc (.int .i64) i, enc .str data] (ansK ((cTwo (.st 1) (.int .i64))) K) =
  (f0 d i fun r1 => (bif (!r1) then (K (d, 4)) else (bif ((data.length : Int) != 8) then (K (d, 5)) else (f1 d (IntKind.i64.wrap (i + 2)) data fun r2 => (bif (r2.2 != 0) then (K (r2.1, r2.2)) else (f2 r2.1 fun r3 => (K (r3.1, r3.2)))))))) := by kernel_rfl
theorem eq (x : Dens [(.st 1), (.int .i64), .str]) (K : (Disk × Int) → Prop) : apure E tab (fun _ => none) 4 83 (encA [(.st 1), (.int .i64), .str] x) (ansK ((cTwo (.st 1) (.int .i64))) K) = F x.1 x.2.1 x.2.2.1 K := eqv ref09_there.F ref04_Write.F ref04_Flush.F x.1 x.2.1 x.2.2.1 K
theorem loops : LoopsOk E tab (fun _ => none) 4 83 := loops_none _ _ _ _
theorem det (d : Disk) (i : Int) (data : Str) : Det (F d i data) := by
  unfold F
  repeat' first | with_reducible exact det_ret _ | with_reducible exact det_false | with_reducible refine det_cond _ ?_ ?_ | with_reducible refine det_oget _ (fun _ => ?_) | with_reducible exact ref09_there.det _ _ | with_reducible refine det_bind (ref09_there.det _ _) (fun _ => ?_) | with_reducible exact ref04_Write.det _ _ _ | with_reducible refine det_bind (ref04_Write.det _ _ _) (fun _ => ?_) | with_reducible exact ref04_Flush.det _ | with_reducible refine det_bind (ref04_Flush.det _) (fun _ => ?_)
theorem edet (args : List AV) : Det (en args) := mkEntry_det (ts := [(.st 1), (.int .i64), .str]) (cod := (cTwo (.st 1) (.int .i64))) (F := fun x => F x.1 x.2.1 x.2.2.1) (fun x => det x.1 x.2.1 x.2.2.1) args
theorem ground : Ground E tab := ⟨num, mixed, (tab_cons ref09_there.sound (tab_cons ref04_Write.sound (tab_cons ref04_Flush.sound (tab_nil _)))), clone, (dtab_cons ref09_there.edet (dtab_cons ref04_Write.edet (dtab_cons ref04_Flush.edet dtab_nil)))⟩
theorem has : ((E.P.funcs[83]?).bind (·.body)).isSome = true := by kernel_rfl
theorem sound : EntrySound E.P 83 en := mkSound (ts := [(.st 1), (.int .i64), .str]) (cod := (cTwo (.st 1) (.int .i64))) (F := fun x => F x.1 x.2.1 x.2.2.1) ground loops has eq
end ref09_Put
namespace ref09_All
noncomputable def tab : Tab := [(81, ref09_Read.en)]
structure R where
  t2 : (List Str)
  t3 : Int
def cR (x : R) : St := { fr := lookL .top [(2, (.slr 3)), (3, (.int .i64 x.t3))], hs := { hp := lookL .dead [(3, (.row false .str x.t2))], hn := 4 } }
def kR : Keep := { ks := [(2, some 3), (3, none)], bs := [], hn := 4 }
structure L0 where
  out : (List Str)
  i : Int
  m0 : (List Str)
  m0_1 : (List Write)
  m0_2 : Int
  m0_3 : Bool
def c0 (x : L0) : St := { fr := lookL .top [(1, (.ptr 0 0)), (4, (.slr 2)), (5, (.int .i64 x.i))], hs := { hp := lookL .dead [(2, (.row false .str x.out)), (0, (.cells [(.sl .any .str x.m0), (.sl .any (.st 0) x.m0_1), (.int .i64 x.m0_2), (.bool x.m0_3)]))], hn := 3 } }
def kp0 : Keep := { ks := [(1, none), (4, some 2), (5, none)], bs := [0], hn := 3 }
def p0 (st : St) (K : L0 → Prop) : Prop := gHomes kp0 st <| gPtr 0 0 (st.fr 1) <| gSlr (st.fr 4) fun c1 => gRow false .str (st.hs.hp c1) fun a2 => gInt .i64 (st.fr 5) fun a3 => gCells (st.hs.hp 0) fun c4 => gCons c4 fun c5 c6 => gSl .any .str c5 fun a7 => gCons c6 fun c8 c9 => gSl .any (.st 0) c8 fun a10 => gCons c9 fun c11 c12 => gInt .i64 c11 fun a13 => gCons c12 fun c14 c15 => gBool c14 fun a16 => gNil c15 <| K ⟨a2, a3, a7, a10, a13, a16⟩
theorem p0_ok (st : St) (K : L0 → Prop) (h : p0 st K) : ∃ x, keepSt kp0 st = c0 x ∧ K x := by
  obtain ⟨h0, h⟩ := gHomes_elim h
  obtain ⟨h1, h⟩ := gPtr_elim h
  obtain ⟨c1, h2, h⟩ := gSlr_elim h
  obtain ⟨a2, h3, h⟩ := gRow_elim h
  obtain ⟨a3, h4, h⟩ := gInt_elim h
  obtain ⟨c4, h5, h⟩ := gCells_elim h
  obtain ⟨c5, c6, h6, h⟩ := gCons_elim h
  obtain ⟨a7, h7, h⟩ := gSl_elim h
  obtain ⟨c8, c9, h8, h⟩ := gCons_elim h
  obtain ⟨a10, h9, h⟩ := gSl_elim h
  obtain ⟨c11, c12, h10, h⟩ := gCons_elim h
  obtain ⟨a13, h11, h⟩ := gInt_elim h
  obtain ⟨c14, c15, h12, h⟩ := gCons_elim h
  obtain ⟨a16, h13, h⟩ := gBool_elim h
  obtain ⟨h14, h⟩ := gNil_elim h
  refine ⟨_, ?_, h⟩
  subst h6
  subst h7
  subst h8
  subst h9
  subst h10
  subst h11
  subst h12
  subst h13
  subst h14
  simp only [keepSt, h0]
  simp only [kp0, List.map, List.filterMap, homeOf, h1, h2, h3, h4, h5, hmOf, List.append_nil, cond_true]
  rfl
def b0 (rec kx : L0 → Prop) (kr : R → Prop) (x : L0) : Prop :=
  (bif (decide (x.i < (IntKind.i64.wrap ((x.m0.length : Int) - 2)))) then (ref09_Read.F (⟨x.m0, x.m0_1, x.m0_2, x.m0_3⟩ : Disk) x.i fun r1 => (bif (r1.2 != 0) then (kr ⟨([] : List Str), r1.2⟩) else (bif (decide ((x.out.length + ([r1.1] : List Str).length) * 16 ≤ room)) then (rec ⟨(x.out ++ ([r1.1] : List Str)), (IntKind.i64.wrap (x.i + 1)), x.m0, x.m0_1, x.m0_2, x.m0_3⟩) else False))) else (kx ⟨x.out, x.i, x.m0, x.m0_1, x.m0_2, x.m0_3⟩))
def l0 : LSpec := mkLoop 0 kp0 kR p0 c0 cR b0
def lt : Nat → Option LSpec
  | 0 => some l0
  | _ => none
def F (d : Disk) (K : ((List Str) × Int) → Prop) : Prop :=
  (∃ n, loopB b0 n (fun x2 => (K (x2.out, 0))) (fun r3 => (K (r3.t2, r3.t3))) ⟨([] : List Str), 0, d.sure, d.cache, d.fuse, d.dead⟩)
noncomputable def en : Entry := mkEntry [(.st 1)] (cTwo (.slice .str) (.int .i64)) fun x => F x.1
noncomputable def tabV (f0 : Disk → Int → ((Str × Int) → Prop) → Prop) : Tab := [(81, mkEntry [(.st 1), (.int .i64)] (cTwo .str (.int .i64)) fun x => f0 x.1 x.2.1)]
theorem tabE : tab = tabV ref09_Read.F := by kernel_rfl
def b0V (f0 : Disk → Int → ((Str × Int) → Prop) → Prop) (rec kx : L0 → Prop) (kr : R → Prop) (x : L0) : Prop :=
  (bif (decide (x.i < (IntKind.i64.wrap ((x.m0.length : Int) - 2)))) then (f0 (⟨x.m0, x.m0_1, x.m0_2, x.m0_3⟩ : Disk) x.i fun r1 => (bif (r1.2 != 0) then (kr ⟨([] : List Str), r1.2⟩) else (bif (decide ((x.out.length + ([r1.1] : List Str).length) * 16 ≤ room)) then (rec ⟨(x.out ++ ([r1.1] : List Str)), (IntKind.i64.wrap (x.i + 1)), x.m0, x.m0_1, x.m0_2, x.m0_3⟩) else False))) else (kx ⟨x.out, x.i, x.m0, x.m0_1, x.m0_2, x.m0_3⟩))
def ltV (f0 : Disk → Int → ((Str × Int) → Prop) → Prop) : Nat → Option LSpec
  | 0 => some (mkLoop 0 kp0 kR p0 c0 cR (b0V f0))
  | _ => none
theorem ltE : lt = ltV ref09_Read.F := by kernel_rfl
theorem eqv (f0 : Disk → Int → ((Str × Int) → Prop) → Prop) (d : Disk) (K : ((List Str) × Int) → Prop) : apure E (tabV f0) (ltV f0) 4 85 [enc (.st 1) d] (ansK ((cTwo (.slice .str) (.int .i64))) K) =
  (∃ n, loopB (b0V f0) n (fun x2 => (K (x2.out, 0))) (fun r3 => (K (r3.t2, r3.t3))) ⟨([] : List Str), 0, d.sure, d.cache, d.fuse, d.dead⟩) := by kernel_rfl
theorem eq (x : Dens [(.st 1)]) (K : ((List Str) × Int) → Prop) : apure E tab lt 4 85 (encA [(.st 1)] x) (ansK ((cTwo (.slice .str) (.int .i64))) K) = F x.1 K := by
  rw [tabE, ltE]
  exact eqv ref09_Read.F x.1 K
theorem l0v (f0 : Disk → Int → ((Str × Int) → Prop) → Prop) (R : St → Prop) (Kx : Nat → St → Prop) (Kr : St → Prop) (x : L0) : acode E (tabV f0) (afun E (tabV f0) 4) 30 (ltV f0) ((loopsIn E.P 85).getD 0 (0, .skip)).2 0 (fun s => R (keepSt kp0 s)) (fun j s => Kx j (keepSt kp0 s)) (fun s => Kr (keepSt kR s)) (c0 x) =
    b0V f0 (fun x => R (c0 x)) (fun x => Kx 0 (c0 x)) (fun r => Kr (cR r)) x := by kernel_rfl
theorem l0_ok : LSound E tab (afun E tab 4) 30 lt 0 ((loopsIn E.P 85).getD 0 (0, .skip)).2 l0 := mkLoop_sound (by decide) (by decide) p0_ok (fun R Kx Kr x => by
  rw [tabE, ltE]
  exact l0v ref09_Read.F R Kx Kr x)
theorem loops : LoopsOk E tab lt 4 85 := loops_of (nt := 30) (ids := [0]) (by kernel_rfl) (by kernel_rfl) (by
  intro k i hk l hl
  match k, hk with
  | 0, hk => cases hk; cases hl; exact l0_ok
  | _ + 1, hk => exact absurd hk (by simp))
theorem det (d : Disk) : Det (F d) := by
  unfold F
  repeat' first | with_reducible exact det_ret _ | with_reducible exact det_false | with_reducible refine det_cond _ ?_ ?_ | with_reducible refine det_oget _ (fun _ => ?_) | with_reducible exact ref09_Read.det _ _ | with_reducible refine det_bind (ref09_Read.det _ _) (fun _ => ?_) | with_reducible refine det_loop (fun _ => ?_) (fun _ => ?_) (fun _ => ?_) _ | unfold b0
theorem edet (args : List AV) : Det (en args) := mkEntry_det (ts := [(.st 1)]) (cod := (cTwo (.slice .str) (.int .i64))) (F := fun x => F x.1) (fun x => det x.1) args
theorem ground : Ground E tab := ⟨num, mixed, (tab_cons ref09_Read.sound (tab_nil _)), clone, (dtab_cons ref09_Read.edet dtab_nil)⟩
theorem has : ((E.P.funcs[85]?).bind (·.body)).isSome = true := by kernel_rfl
theorem sound : EntrySound E.P 85 en := mkSound (ts := [(.st 1)]) (cod := (cTwo (.slice .str) (.int .i64))) (F := fun x => F x.1) ground loops has eq
end ref09_All
namespace law09_AreaTells
noncomputable def tab : Tab := [(79, law09_alive.en), (53, ref04_Great.en), (58, ref04_Right.en), (80, area_Read.en), (81, ref09_Read.en), (82, area_Put.en), (83, ref09_Put.en), (84, area_All.en), (85, ref09_All.en), (56, ref04_Same.en), (86, ref09_Texts.en)]
def F (d : Disk) (i : Int) (data : Str) (K : Bool → Prop) : Prop :=
  (law09_alive.F fun r1 => (bif (!r1) then (K false) else (ref04_Great.F d fun r2 => (bif r2 then (K true) else (ref04_Right.F d fun r3 => (bif (!r3) then (K true) else (bif (decide ((data.length : Int) > 100)) then (K true) else (area_Read.F d i fun r4 => (ref09_Read.F d i fun r5 => (area_Put.F d i data fun r6 => (ref09_Put.F d i data fun r7 => (area_All.F d fun r8 => (ref09_All.F d fun r9 => (bif (r4.1 == r5.1) then (bif (r4.2 == r5.2) then (ref04_Same.F r6.1 r7.1 fun r10 => (bif r10 then (bif (r6.2 == r7.2) then (ref09_Texts.F r8.1 r9.1 fun r11 => (bif r11 then (K (r8.2 == r9.2)) else (K false))) else (K false)) else (K false))) else (K false)) else (K false)))))))))))))))
noncomputable def en : Entry := mkEntry [(.st 1), (.int .i64), .str] (cTy .bool) fun x => F x.1 x.2.1 x.2.2.1
noncomputable def tabV (f0 : (Bool → Prop) → Prop) (f1 : Disk → (Bool → Prop) → Prop) (f2 : Disk → (Bool → Prop) → Prop) (f3 : Disk → Int → ((Str × Int) → Prop) → Prop) (f4 : Disk → Int → ((Str × Int) → Prop) → Prop) (f5 : Disk → Int → Str → ((Disk × Int) → Prop) → Prop) (f6 : Disk → Int → Str → ((Disk × Int) → Prop) → Prop) (f7 : Disk → (((List Str) × Int) → Prop) → Prop) (f8 : Disk → (((List Str) × Int) → Prop) → Prop) (f9 : Disk → Disk → (Bool → Prop) → Prop) (f10 : (List Str) → (List Str) → (Bool → Prop) → Prop) : Tab := [(79, mkEntry [] (cTy .bool) fun _ => f0), (53, mkEntry [(.st 1)] (cTy .bool) fun x => f1 x.1), (58, mkEntry [(.st 1)] (cTy .bool) fun x => f2 x.1), (80, mkEntry [(.st 1), (.int .i64)] (cTwo .str (.int .i64)) fun x => f3 x.1 x.2.1), (81, mkEntry [(.st 1), (.int .i64)] (cTwo .str (.int .i64)) fun x => f4 x.1 x.2.1), (82, mkEntry [(.st 1), (.int .i64), .str] (cTwo (.st 1) (.int .i64)) fun x => f5 x.1 x.2.1 x.2.2.1), (83, mkEntry [(.st 1), (.int .i64), .str] (cTwo (.st 1) (.int .i64)) fun x => f6 x.1 x.2.1 x.2.2.1), (84, mkEntry [(.st 1)] (cTwo (.slice .str) (.int .i64)) fun x => f7 x.1), (85, mkEntry [(.st 1)] (cTwo (.slice .str) (.int .i64)) fun x => f8 x.1), (56, mkEntry [(.st 1), (.st 1)] (cTy .bool) fun x => f9 x.1 x.2.1), (86, mkEntry [(.slice .str), (.slice .str)] (cTy .bool) fun x => f10 x.1 x.2.1)]
theorem tabE : tab = tabV law09_alive.F ref04_Great.F ref04_Right.F area_Read.F ref09_Read.F area_Put.F ref09_Put.F area_All.F ref09_All.F ref04_Same.F ref09_Texts.F := by kernel_rfl
theorem eqv (f0 : (Bool → Prop) → Prop) (f1 : Disk → (Bool → Prop) → Prop) (f2 : Disk → (Bool → Prop) → Prop) (f3 : Disk → Int → ((Str × Int) → Prop) → Prop) (f4 : Disk → Int → ((Str × Int) → Prop) → Prop) (f5 : Disk → Int → Str → ((Disk × Int) → Prop) → Prop) (f6 : Disk → Int → Str → ((Disk × Int) → Prop) → Prop) (f7 : Disk → (((List Str) × Int) → Prop) → Prop) (f8 : Disk → (((List Str) × Int) → Prop) → Prop) (f9 : Disk → Disk → (Bool → Prop) → Prop) (f10 : (List Str) → (List Str) → (Bool → Prop) → Prop) (d : Disk) (i : Int) (data : Str) (K : Bool → Prop) : apure E (tabV f0 f1 f2 f3 f4 f5 f6 f7 f8 f9 f10) (fun _ => none) 4 19 [enc (.st 1) d, enc (.int .i64) i, enc .str data] (ansK ((cTy .bool)) K) =
  (f0 fun r1 => (bif (!r1) then (K false) else (f1 d fun r2 => (bif r2 then (K true) else (f2 d fun r3 => (bif (!r3) then (K true) else (bif (decide ((data.length : Int) > 100)) then (K true) else (f3 d i fun r4 => (f4 d i fun r5 => (f5 d i data fun r6 => (f6 d i data fun r7 => (f7 d fun r8 => (f8 d fun r9 => (bif (r4.1 == r5.1) then (bif (r4.2 == r5.2) then (f9 r6.1 r7.1 fun r10 => (bif r10 then (bif (r6.2 == r7.2) then (f10 r8.1 r9.1 fun r11 => (bif r11 then (K (r8.2 == r9.2)) else (K false))) else (K false)) else (K false))) else (K false)) else (K false))))))))))))))) := by kernel_rfl
theorem eq (x : Dens [(.st 1), (.int .i64), .str]) (K : Bool → Prop) : apure E tab (fun _ => none) 4 19 (encA [(.st 1), (.int .i64), .str] x) (ansK ((cTy .bool)) K) = F x.1 x.2.1 x.2.2.1 K := eqv law09_alive.F ref04_Great.F ref04_Right.F area_Read.F ref09_Read.F area_Put.F ref09_Put.F area_All.F ref09_All.F ref04_Same.F ref09_Texts.F x.1 x.2.1 x.2.2.1 K
theorem loops : LoopsOk E tab (fun _ => none) 4 19 := loops_none _ _ _ _
theorem det (d : Disk) (i : Int) (data : Str) : Det (F d i data) := by
  unfold F
  repeat' first | with_reducible exact det_ret _ | with_reducible exact det_false | with_reducible refine det_cond _ ?_ ?_ | with_reducible refine det_oget _ (fun _ => ?_) | with_reducible exact law09_alive.det | with_reducible refine det_bind (law09_alive.det) (fun _ => ?_) | with_reducible exact ref04_Great.det _ | with_reducible refine det_bind (ref04_Great.det _) (fun _ => ?_) | with_reducible exact ref04_Right.det _ | with_reducible refine det_bind (ref04_Right.det _) (fun _ => ?_) | with_reducible exact area_Read.det _ _ | with_reducible refine det_bind (area_Read.det _ _) (fun _ => ?_) | with_reducible exact ref09_Read.det _ _ | with_reducible refine det_bind (ref09_Read.det _ _) (fun _ => ?_) | with_reducible exact area_Put.det _ _ _ | with_reducible refine det_bind (area_Put.det _ _ _) (fun _ => ?_) | with_reducible exact ref09_Put.det _ _ _ | with_reducible refine det_bind (ref09_Put.det _ _ _) (fun _ => ?_) | with_reducible exact area_All.det _ | with_reducible refine det_bind (area_All.det _) (fun _ => ?_) | with_reducible exact ref09_All.det _ | with_reducible refine det_bind (ref09_All.det _) (fun _ => ?_) | with_reducible exact ref04_Same.det _ _ | with_reducible refine det_bind (ref04_Same.det _ _) (fun _ => ?_) | with_reducible exact ref09_Texts.det _ _ | with_reducible refine det_bind (ref09_Texts.det _ _) (fun _ => ?_)
theorem edet (args : List AV) : Det (en args) := mkEntry_det (ts := [(.st 1), (.int .i64), .str]) (cod := (cTy .bool)) (F := fun x => F x.1 x.2.1 x.2.2.1) (fun x => det x.1 x.2.1 x.2.2.1) args
theorem ground : Ground E tab := ⟨num, mixed, (tab_cons law09_alive.sound (tab_cons ref04_Great.sound (tab_cons ref04_Right.sound (tab_cons area_Read.sound (tab_cons ref09_Read.sound (tab_cons area_Put.sound (tab_cons ref09_Put.sound (tab_cons area_All.sound (tab_cons ref09_All.sound (tab_cons ref04_Same.sound (tab_cons ref09_Texts.sound (tab_nil _)))))))))))), clone, (dtab_cons law09_alive.edet (dtab_cons ref04_Great.edet (dtab_cons ref04_Right.edet (dtab_cons area_Read.edet (dtab_cons ref09_Read.edet (dtab_cons area_Put.edet (dtab_cons ref09_Put.edet (dtab_cons area_All.edet (dtab_cons ref09_All.edet (dtab_cons ref04_Same.edet (dtab_cons ref09_Texts.edet dtab_nil)))))))))))⟩
theorem has : ((E.P.funcs[19]?).bind (·.body)).isSome = true := by kernel_rfl
theorem sound : EntrySound E.P 19 en := mkSound (ts := [(.st 1), (.int .i64), .str]) (cod := (cTy .bool)) (F := fun x => F x.1 x.2.1 x.2.2.1) ground loops has eq
end law09_AreaTells
namespace ref06_Encode
noncomputable def tab : Tab := [(136, ref06_Right.en), (137, ref06_bytes.en), (28, ref02_Seal.en)]
def F (s : Super) (K : (Str × Int) → Prop) : Prop :=
  (ref06_Right.F s fun r1 => (bif (!r1) then (K (([] : Str), 1)) else (ref06_bytes.F s fun r2 => (ref02_Seal.F r2 fun r3 => (K (r3, 0))))))
noncomputable def en : Entry := mkEntry [(.st 3)] (cTwo .str (.int .i64)) fun x => F x.1
noncomputable def tabV (f0 : Super → (Bool → Prop) → Prop) (f1 : Super → (Str → Prop) → Prop) (f2 : Str → (Str → Prop) → Prop) : Tab := [(136, mkEntry [(.st 3)] (cTy .bool) fun x => f0 x.1), (137, mkEntry [(.st 3)] (cTy .str) fun x => f1 x.1), (28, mkEntry [.str] (cTy .str) fun x => f2 x.1)]
theorem tabE : tab = tabV ref06_Right.F ref06_bytes.F ref02_Seal.F := by kernel_rfl
theorem eqv (f0 : Super → (Bool → Prop) → Prop) (f1 : Super → (Str → Prop) → Prop) (f2 : Str → (Str → Prop) → Prop) (s : Super) (K : (Str × Int) → Prop) : apure E (tabV f0 f1 f2) (fun _ => none) 4 118 [enc (.st 3) s] (ansK ((cTwo .str (.int .i64))) K) =
  (f0 s fun r1 => (bif (!r1) then (K (([] : Str), 1)) else (f1 s fun r2 => (f2 r2 fun r3 => (K (r3, 0)))))) := by kernel_rfl
theorem eq (x : Dens [(.st 3)]) (K : (Str × Int) → Prop) : apure E tab (fun _ => none) 4 118 (encA [(.st 3)] x) (ansK ((cTwo .str (.int .i64))) K) = F x.1 K := eqv ref06_Right.F ref06_bytes.F ref02_Seal.F x.1 K
theorem loops : LoopsOk E tab (fun _ => none) 4 118 := loops_none _ _ _ _
theorem det (s : Super) : Det (F s) := by
  unfold F
  repeat' first | with_reducible exact det_ret _ | with_reducible exact det_false | with_reducible refine det_cond _ ?_ ?_ | with_reducible refine det_oget _ (fun _ => ?_) | with_reducible exact ref06_Right.det _ | with_reducible refine det_bind (ref06_Right.det _) (fun _ => ?_) | with_reducible exact ref06_bytes.det _ | with_reducible refine det_bind (ref06_bytes.det _) (fun _ => ?_) | with_reducible exact ref02_Seal.det _ | with_reducible refine det_bind (ref02_Seal.det _) (fun _ => ?_)
theorem edet (args : List AV) : Det (en args) := mkEntry_det (ts := [(.st 3)]) (cod := (cTwo .str (.int .i64))) (F := fun x => F x.1) (fun x => det x.1) args
theorem ground : Ground E tab := ⟨num, mixed, (tab_cons ref06_Right.sound (tab_cons ref06_bytes.sound (tab_cons ref02_Seal.sound (tab_nil _)))), clone, (dtab_cons ref06_Right.edet (dtab_cons ref06_bytes.edet (dtab_cons ref02_Seal.edet dtab_nil)))⟩
theorem has : ((E.P.funcs[118]?).bind (·.body)).isSome = true := by kernel_rfl
theorem sound : EntrySound E.P 118 en := mkSound (ts := [(.st 3)]) (cod := (cTwo .str (.int .i64))) (F := fun x => F x.1) ground loops has eq
end ref06_Encode
namespace ref09_Format
noncomputable def tab : Tab := [(118, ref06_Encode.en), (35, ref01_Put32.en), (28, ref02_Seal.en), (113, ref09_Nought.en)]
structure R where
def cR (_ : R) : St := { fr := fun _ => .top, hs := hs0 }
def kR : Keep := { ks := [], bs := [], hn := 0 }
structure L0 where
  blocks : Int
  i : Int
  m0 : Int
  m0_1 : Bool
  m2_0 : (List Str)
  m2 : Int
  m2_1 : Bool
def c0 (x : L0) : St := { fr := lookL .top [(0, (.int .i64 x.blocks)), (4, (.ptr 0 0)), (8, (.ptr 2 0)), (9, (.int .i64 x.i))], hs := { hp := lookL .dead [(1, (.row false .str x.m2_0)), (0, (.cells [.snil, .snil, (.int .i64 x.m0), (.bool x.m0_1)])), (2, (.cells [(.slr 1), .snil, (.int .i64 x.m2), (.bool x.m2_1)]))], hn := 3 } }
def kp0 : Keep := { ks := [(0, none), (4, none), (8, none), (9, none)], bs := [0, 2], hn := 3, cs := [(2, 0, 1)] }
def p0 (st : St) (K : L0 → Prop) : Prop := gHomes kp0 st <| gInt .i64 (st.fr 0) fun a1 => gPtr 0 0 (st.fr 4) <| gPtr 2 0 (st.fr 8) <| gInt .i64 (st.fr 9) fun a2 => gCells (st.hs.hp 0) fun c3 => gCons c3 fun c4 c5 => gSnil c4 <| gCons c5 fun c6 c7 => gSnil c6 <| gCons c7 fun c8 c9 => gInt .i64 c8 fun a10 => gCons c9 fun c11 c12 => gBool c11 fun a13 => gNil c12 <| gCells (st.hs.hp 2) fun c14 => gCons c14 fun c15 c16 => gSlr c15 fun c17 => gRow false .str (st.hs.hp c17) fun a18 => gCons c16 fun c19 c20 => gSnil c19 <| gCons c20 fun c21 c22 => gInt .i64 c21 fun a23 => gCons c22 fun c24 c25 => gBool c24 fun a26 => gNil c25 <| K ⟨a1, a2, a10, a13, a18, a23, a26⟩
theorem p0_ok (st : St) (K : L0 → Prop) (h : p0 st K) : ∃ x, keepSt kp0 st = c0 x ∧ K x := by
  obtain ⟨h0, h⟩ := gHomes_elim h
  obtain ⟨a1, h1, h⟩ := gInt_elim h
  obtain ⟨h2, h⟩ := gPtr_elim h
  obtain ⟨h3, h⟩ := gPtr_elim h
  obtain ⟨a2, h4, h⟩ := gInt_elim h
  obtain ⟨c3, h5, h⟩ := gCells_elim h
  obtain ⟨c4, c5, h6, h⟩ := gCons_elim h
  obtain ⟨h7, h⟩ := gSnil_elim h
  obtain ⟨c6, c7, h8, h⟩ := gCons_elim h
  obtain ⟨h9, h⟩ := gSnil_elim h
  obtain ⟨c8, c9, h10, h⟩ := gCons_elim h
  obtain ⟨a10, h11, h⟩ := gInt_elim h
  obtain ⟨c11, c12, h12, h⟩ := gCons_elim h
  obtain ⟨a13, h13, h⟩ := gBool_elim h
  obtain ⟨h14, h⟩ := gNil_elim h
  obtain ⟨c14, h15, h⟩ := gCells_elim h
  obtain ⟨c15, c16, h16, h⟩ := gCons_elim h
  obtain ⟨c17, h17, h⟩ := gSlr_elim h
  obtain ⟨a18, h18, h⟩ := gRow_elim h
  obtain ⟨c19, c20, h19, h⟩ := gCons_elim h
  obtain ⟨h20, h⟩ := gSnil_elim h
  obtain ⟨c21, c22, h21, h⟩ := gCons_elim h
  obtain ⟨a23, h22, h⟩ := gInt_elim h
  obtain ⟨c24, c25, h23, h⟩ := gCons_elim h
  obtain ⟨a26, h24, h⟩ := gBool_elim h
  obtain ⟨h25, h⟩ := gNil_elim h
  refine ⟨_, ?_, h⟩
  subst h6
  subst h7
  subst h8
  subst h9
  subst h10
  subst h11
  subst h12
  subst h13
  subst h14
  subst h16
  subst h17
  subst h19
  subst h20
  subst h21
  subst h22
  subst h23
  subst h24
  subst h25
  simp only [keepSt, h0]
  simp only [kp0, List.map, List.filterMap, homeOf, h1, h2, h3, h4, h5, h15, h18, hmOf, cellHome, lget, List.nil_append, cond_true]
  rfl
def b0 (rec kx : L0 → Prop) (kr : R → Prop) (x : L0) : Prop :=
  (bif (decide (x.i < x.blocks)) then (ref09_Nought.F fun r4 => (bif (decide ((x.m2_0.length + ([r4] : List Str).length) * 16 ≤ room)) then (rec ⟨x.blocks, (IntKind.i64.wrap (x.i + 1)), x.m0, x.m0_1, (x.m2_0 ++ ([r4] : List Str)), x.m2, x.m2_1⟩) else False)) else (kx ⟨x.blocks, x.i, x.m0, x.m0_1, x.m2_0, x.m2, x.m2_1⟩))
def l0 : LSpec := mkLoop 0 kp0 kR p0 c0 cR b0
def lt : Nat → Option LSpec
  | 0 => some l0
  | _ => none
def F (blocks : Int) (g : Int) (K : (Disk × Int) → Prop) : Prop :=
  (ref06_Encode.F (⟨blocks, (⟨g, 0, 0, 0⟩ : Vec), false, false, false⟩ : Super) fun r1 => (bif (r1.2 != 0) then (K ((⟨([] : List Str), ([] : List Write), 0, false⟩ : Disk), r1.2)) else (ref01_Put32.F 0 fun r2 => (ref02_Seal.F r2 fun r3 => (∃ n, loopB b0 n (fun x5 => (K ((⟨x5.m2_0, ([] : List Write), x5.m2, x5.m2_1⟩ : Disk), 0))) (fun _ => False) ⟨blocks, 0, 0, false, ([r1.1, r3] : List Str), 0, false⟩)))))
noncomputable def en : Entry := mkEntry [(.int .i64), (.int .u64)] (cTwo (.st 1) (.int .i64)) fun x => F x.1 x.2.1
noncomputable def tabV (f0 : Super → ((Str × Int) → Prop) → Prop) (f1 : Int → (Str → Prop) → Prop) (f2 : Str → (Str → Prop) → Prop) (f3 : (Str → Prop) → Prop) : Tab := [(118, mkEntry [(.st 3)] (cTwo .str (.int .i64)) fun x => f0 x.1), (35, mkEntry [(.int .u32)] (cTy .str) fun x => f1 x.1), (28, mkEntry [.str] (cTy .str) fun x => f2 x.1), (113, mkEntry [] (cTy .str) fun _ => f3)]
theorem tabE : tab = tabV ref06_Encode.F ref01_Put32.F ref02_Seal.F ref09_Nought.F := by kernel_rfl
def b0V (f0 : Super → ((Str × Int) → Prop) → Prop) (f1 : Int → (Str → Prop) → Prop) (f2 : Str → (Str → Prop) → Prop) (f3 : (Str → Prop) → Prop) (rec kx : L0 → Prop) (kr : R → Prop) (x : L0) : Prop :=
  (bif (decide (x.i < x.blocks)) then (f3 fun r4 => (bif (decide ((x.m2_0.length + ([r4] : List Str).length) * 16 ≤ room)) then (rec ⟨x.blocks, (IntKind.i64.wrap (x.i + 1)), x.m0, x.m0_1, (x.m2_0 ++ ([r4] : List Str)), x.m2, x.m2_1⟩) else False)) else (kx ⟨x.blocks, x.i, x.m0, x.m0_1, x.m2_0, x.m2, x.m2_1⟩))
def ltV (f0 : Super → ((Str × Int) → Prop) → Prop) (f1 : Int → (Str → Prop) → Prop) (f2 : Str → (Str → Prop) → Prop) (f3 : (Str → Prop) → Prop) : Nat → Option LSpec
  | 0 => some (mkLoop 0 kp0 kR p0 c0 cR (b0V f0 f1 f2 f3))
  | _ => none
theorem ltE : lt = ltV ref06_Encode.F ref01_Put32.F ref02_Seal.F ref09_Nought.F := by kernel_rfl
theorem eqv (f0 : Super → ((Str × Int) → Prop) → Prop) (f1 : Int → (Str → Prop) → Prop) (f2 : Str → (Str → Prop) → Prop) (f3 : (Str → Prop) → Prop) (blocks : Int) (g : Int) (K : (Disk × Int) → Prop) : apure E (tabV f0 f1 f2 f3) (ltV f0 f1 f2 f3) 4 88 [enc (.int .i64) blocks, enc (.int .u64) g] (ansK ((cTwo (.st 1) (.int .i64))) K) =
  (f0 (⟨blocks, (⟨g, 0, 0, 0⟩ : Vec), false, false, false⟩ : Super) fun r1 => (bif (r1.2 != 0) then (K ((⟨([] : List Str), ([] : List Write), 0, false⟩ : Disk), r1.2)) else (f1 0 fun r2 => (f2 r2 fun r3 => (∃ n, loopB (b0V f0 f1 f2 f3) n (fun x5 => (K ((⟨x5.m2_0, ([] : List Write), x5.m2, x5.m2_1⟩ : Disk), 0))) (fun _ => False) ⟨blocks, 0, 0, false, ([r1.1, r3] : List Str), 0, false⟩))))) := by kernel_rfl
theorem eq (x : Dens [(.int .i64), (.int .u64)]) (K : (Disk × Int) → Prop) : apure E tab lt 4 88 (encA [(.int .i64), (.int .u64)] x) (ansK ((cTwo (.st 1) (.int .i64))) K) = F x.1 x.2.1 K := by
  rw [tabE, ltE]
  exact eqv ref06_Encode.F ref01_Put32.F ref02_Seal.F ref09_Nought.F x.1 x.2.1 K
theorem l0v (f0 : Super → ((Str × Int) → Prop) → Prop) (f1 : Int → (Str → Prop) → Prop) (f2 : Str → (Str → Prop) → Prop) (f3 : (Str → Prop) → Prop) (R : St → Prop) (Kx : Nat → St → Prop) (Kr : St → Prop) (x : L0) : acode E (tabV f0 f1 f2 f3) (afun E (tabV f0 f1 f2 f3) 4) 39 (ltV f0 f1 f2 f3) ((loopsIn E.P 88).getD 0 (0, .skip)).2 0 (fun s => R (keepSt kp0 s)) (fun j s => Kx j (keepSt kp0 s)) (fun s => Kr (keepSt kR s)) (c0 x) =
    b0V f0 f1 f2 f3 (fun x => R (c0 x)) (fun x => Kx 0 (c0 x)) (fun r => Kr (cR r)) x := by kernel_rfl
theorem l0_ok : LSound E tab (afun E tab 4) 39 lt 0 ((loopsIn E.P 88).getD 0 (0, .skip)).2 l0 := mkLoop_sound (by decide) (by decide) p0_ok (fun R Kx Kr x => by
  rw [tabE, ltE]
  exact l0v ref06_Encode.F ref01_Put32.F ref02_Seal.F ref09_Nought.F R Kx Kr x)
theorem loops : LoopsOk E tab lt 4 88 := loops_of (nt := 39) (ids := [0]) (by kernel_rfl) (by kernel_rfl) (by
  intro k i hk l hl
  match k, hk with
  | 0, hk => cases hk; cases hl; exact l0_ok
  | _ + 1, hk => exact absurd hk (by simp))
theorem det (blocks : Int) (g : Int) : Det (F blocks g) := by
  unfold F
  repeat' first | with_reducible exact det_ret _ | with_reducible exact det_false | with_reducible refine det_cond _ ?_ ?_ | with_reducible refine det_oget _ (fun _ => ?_) | with_reducible exact ref06_Encode.det _ | with_reducible refine det_bind (ref06_Encode.det _) (fun _ => ?_) | with_reducible exact ref01_Put32.det _ | with_reducible refine det_bind (ref01_Put32.det _) (fun _ => ?_) | with_reducible exact ref02_Seal.det _ | with_reducible refine det_bind (ref02_Seal.det _) (fun _ => ?_) | with_reducible exact ref09_Nought.det | with_reducible refine det_bind (ref09_Nought.det) (fun _ => ?_) | with_reducible refine det_loop (fun _ => ?_) (fun _ => ?_) (fun _ => ?_) _ | unfold b0
theorem edet (args : List AV) : Det (en args) := mkEntry_det (ts := [(.int .i64), (.int .u64)]) (cod := (cTwo (.st 1) (.int .i64))) (F := fun x => F x.1 x.2.1) (fun x => det x.1 x.2.1) args
theorem ground : Ground E tab := ⟨num, mixed, (tab_cons ref06_Encode.sound (tab_cons ref01_Put32.sound (tab_cons ref02_Seal.sound (tab_cons ref09_Nought.sound (tab_nil _))))), clone, (dtab_cons ref06_Encode.edet (dtab_cons ref01_Put32.edet (dtab_cons ref02_Seal.edet (dtab_cons ref09_Nought.edet dtab_nil))))⟩
theorem has : ((E.P.funcs[88]?).bind (·.body)).isSome = true := by kernel_rfl
theorem sound : EntrySound E.P 88 en := mkSound (ts := [(.int .i64), (.int .u64)]) (cod := (cTwo (.st 1) (.int .i64))) (F := fun x => F x.1 x.2.1) ground loops has eq
end ref09_Format
namespace law09_AreaFormats
noncomputable def tab : Tab := [(79, law09_alive.en), (87, area_Format.en), (88, ref09_Format.en), (56, ref04_Same.en), (84, area_All.en), (58, ref04_Right.en)]
def F (blocks : Int) (g : Int) (K : Bool → Prop) : Prop :=
  (law09_alive.F fun r1 => (bif (!r1) then (K false) else (area_Format.F blocks g fun r2 => (ref09_Format.F blocks g fun r3 => (ref04_Same.F r2.1 r3.1 fun r4 => (bif (!r4) then (K false) else (bif (r2.2 != r3.2) then (K false) else (bif (r2.2 != 0) then (K true) else (area_All.F r2.1 fun r5 => (bif (r5.2 == 0) then (bif ((r5.1.length : Int) == blocks) then (ref04_Right.F r2.1 fun r6 => (K r6)) else (K false)) else (K false)))))))))))
noncomputable def en : Entry := mkEntry [(.int .i64), (.int .u64)] (cTy .bool) fun x => F x.1 x.2.1
noncomputable def tabV (f0 : (Bool → Prop) → Prop) (f1 : Int → Int → ((Disk × Int) → Prop) → Prop) (f2 : Int → Int → ((Disk × Int) → Prop) → Prop) (f3 : Disk → Disk → (Bool → Prop) → Prop) (f4 : Disk → (((List Str) × Int) → Prop) → Prop) (f5 : Disk → (Bool → Prop) → Prop) : Tab := [(79, mkEntry [] (cTy .bool) fun _ => f0), (87, mkEntry [(.int .i64), (.int .u64)] (cTwo (.st 1) (.int .i64)) fun x => f1 x.1 x.2.1), (88, mkEntry [(.int .i64), (.int .u64)] (cTwo (.st 1) (.int .i64)) fun x => f2 x.1 x.2.1), (56, mkEntry [(.st 1), (.st 1)] (cTy .bool) fun x => f3 x.1 x.2.1), (84, mkEntry [(.st 1)] (cTwo (.slice .str) (.int .i64)) fun x => f4 x.1), (58, mkEntry [(.st 1)] (cTy .bool) fun x => f5 x.1)]
theorem tabE : tab = tabV law09_alive.F area_Format.F ref09_Format.F ref04_Same.F area_All.F ref04_Right.F := by kernel_rfl
theorem eqv (f0 : (Bool → Prop) → Prop) (f1 : Int → Int → ((Disk × Int) → Prop) → Prop) (f2 : Int → Int → ((Disk × Int) → Prop) → Prop) (f3 : Disk → Disk → (Bool → Prop) → Prop) (f4 : Disk → (((List Str) × Int) → Prop) → Prop) (f5 : Disk → (Bool → Prop) → Prop) (blocks : Int) (g : Int) (K : Bool → Prop) : apure E (tabV f0 f1 f2 f3 f4 f5) (fun _ => none) 4 20 [enc (.int .i64) blocks, enc (.int .u64) g] (ansK ((cTy .bool)) K) =
  (f0 fun r1 => (bif (!r1) then (K false) else (f1 blocks g fun r2 => (f2 blocks g fun r3 => (f3 r2.1 r3.1 fun r4 => (bif (!r4) then (K false) else (bif (r2.2 != r3.2) then (K false) else (bif (r2.2 != 0) then (K true) else (f4 r2.1 fun r5 => (bif (r5.2 == 0) then (bif ((r5.1.length : Int) == blocks) then (f5 r2.1 fun r6 => (K r6)) else (K false)) else (K false))))))))))) := by kernel_rfl
theorem eq (x : Dens [(.int .i64), (.int .u64)]) (K : Bool → Prop) : apure E tab (fun _ => none) 4 20 (encA [(.int .i64), (.int .u64)] x) (ansK ((cTy .bool)) K) = F x.1 x.2.1 K := eqv law09_alive.F area_Format.F ref09_Format.F ref04_Same.F area_All.F ref04_Right.F x.1 x.2.1 K
theorem loops : LoopsOk E tab (fun _ => none) 4 20 := loops_none _ _ _ _
theorem det (blocks : Int) (g : Int) : Det (F blocks g) := by
  unfold F
  repeat' first | with_reducible exact det_ret _ | with_reducible exact det_false | with_reducible refine det_cond _ ?_ ?_ | with_reducible refine det_oget _ (fun _ => ?_) | with_reducible exact law09_alive.det | with_reducible refine det_bind (law09_alive.det) (fun _ => ?_) | with_reducible exact area_Format.det _ _ | with_reducible refine det_bind (area_Format.det _ _) (fun _ => ?_) | with_reducible exact ref09_Format.det _ _ | with_reducible refine det_bind (ref09_Format.det _ _) (fun _ => ?_) | with_reducible exact ref04_Same.det _ _ | with_reducible refine det_bind (ref04_Same.det _ _) (fun _ => ?_) | with_reducible exact area_All.det _ | with_reducible refine det_bind (area_All.det _) (fun _ => ?_) | with_reducible exact ref04_Right.det _ | with_reducible refine det_bind (ref04_Right.det _) (fun _ => ?_)
theorem edet (args : List AV) : Det (en args) := mkEntry_det (ts := [(.int .i64), (.int .u64)]) (cod := (cTy .bool)) (F := fun x => F x.1 x.2.1) (fun x => det x.1 x.2.1) args
theorem ground : Ground E tab := ⟨num, mixed, (tab_cons law09_alive.sound (tab_cons area_Format.sound (tab_cons ref09_Format.sound (tab_cons ref04_Same.sound (tab_cons area_All.sound (tab_cons ref04_Right.sound (tab_nil _))))))), clone, (dtab_cons law09_alive.edet (dtab_cons area_Format.edet (dtab_cons ref09_Format.edet (dtab_cons ref04_Same.edet (dtab_cons area_All.edet (dtab_cons ref04_Right.edet dtab_nil))))))⟩
theorem has : ((E.P.funcs[20]?).bind (·.body)).isSome = true := by kernel_rfl
theorem sound : EntrySound E.P 20 en := mkSound (ts := [(.int .i64), (.int .u64)]) (cod := (cTy .bool)) (F := fun x => F x.1 x.2.1) ground loops has eq
end law09_AreaFormats
namespace law09_AreaOne
noncomputable def tab : Tab := [(79, law09_alive.en), (87, area_Format.en), (84, area_All.en), (67, ref04_Arm.en), (82, area_Put.en), (69, ref04_Crash.en), (71, ref04_Revive.en), (56, ref04_Same.en)]
structure R where
  t6 : Bool
def cR (x : R) : St := { fr := lookL .top [(6, (.bool x.t6))], hs := { hp := lookL .dead [], hn := 4 } }
def kR : Keep := { ks := [(6, none)], bs := [], hn := 4 }
structure L2 where
  writes : (List Write)
  keeps : (List Bool)
  l : (List Str)
  i : Int
  after : (List Str)
  f : Int
  k : Int
  m0 : (List Str)
  m0_1 : (List Write)
  m0_2 : Int
  m0_3 : Bool
  m1 : Int
  m1_1 : Str
  m3 : (List Str)
  m3_1 : (List Write)
  m3_2 : Int
  m3_3 : Bool
def c2 (x : L2) : St := { fr := lookL .top [(1, (.sl .any (.st 0) x.writes)), (2, (.sl .any .bool x.keeps)), (7, (.ptr 0 0)), (9, (.sl .any .str x.l)), (11, (.int .i64 x.i)), (12, (.ptr 1 0)), (15, (.sl .any .str x.after)), (17, (.ptr 3 0)), (18, (.int .i64 x.f)), (19, (.int .i64 x.k))], hs := { hp := lookL .dead [(0, (.cells [(.sl .any .str x.m0), (.sl .any (.st 0) x.m0_1), (.int .i64 x.m0_2), (.bool x.m0_3)])), (1, (.cells [(.int .i64 x.m1), (.str x.m1_1)])), (3, (.cells [(.sl .any .str x.m3), (.sl .any (.st 0) x.m3_1), (.int .i64 x.m3_2), (.bool x.m3_3)]))], hn := 4 } }
def kp2 : Keep := { ks := [(1, none), (2, none), (7, none), (9, none), (11, none), (12, none), (15, none), (17, none), (18, none), (19, none)], bs := [0, 1, 3], hn := 4 }
def p2 (st : St) (K : L2 → Prop) : Prop := gSl .any (.st 0) (st.fr 1) fun a1 => gSl .any .bool (st.fr 2) fun a2 => gPtr 0 0 (st.fr 7) <| gSl .any .str (st.fr 9) fun a3 => gInt .i64 (st.fr 11) fun a4 => gPtr 1 0 (st.fr 12) <| gSl .any .str (st.fr 15) fun a5 => gPtr 3 0 (st.fr 17) <| gInt .i64 (st.fr 18) fun a6 => gInt .i64 (st.fr 19) fun a7 => gCells (st.hs.hp 0) fun c8 => gCons c8 fun c9 c10 => gSl .any .str c9 fun a11 => gCons c10 fun c12 c13 => gSl .any (.st 0) c12 fun a14 => gCons c13 fun c15 c16 => gInt .i64 c15 fun a17 => gCons c16 fun c18 c19 => gBool c18 fun a20 => gNil c19 <| gCells (st.hs.hp 1) fun c21 => gCons c21 fun c22 c23 => gInt .i64 c22 fun a24 => gCons c23 fun c25 c26 => gStr c25 fun a27 => gNil c26 <| gCells (st.hs.hp 3) fun c28 => gCons c28 fun c29 c30 => gSl .any .str c29 fun a31 => gCons c30 fun c32 c33 => gSl .any (.st 0) c32 fun a34 => gCons c33 fun c35 c36 => gInt .i64 c35 fun a37 => gCons c36 fun c38 c39 => gBool c38 fun a40 => gNil c39 <| K ⟨a1, a2, a3, a4, a5, a6, a7, a11, a14, a17, a20, a24, a27, a31, a34, a37, a40⟩
theorem p2_ok (st : St) (K : L2 → Prop) (h : p2 st K) : ∃ x, keepSt kp2 st = c2 x ∧ K x := by
  obtain ⟨a1, h0, h⟩ := gSl_elim h
  obtain ⟨a2, h1, h⟩ := gSl_elim h
  obtain ⟨h2, h⟩ := gPtr_elim h
  obtain ⟨a3, h3, h⟩ := gSl_elim h
  obtain ⟨a4, h4, h⟩ := gInt_elim h
  obtain ⟨h5, h⟩ := gPtr_elim h
  obtain ⟨a5, h6, h⟩ := gSl_elim h
  obtain ⟨h7, h⟩ := gPtr_elim h
  obtain ⟨a6, h8, h⟩ := gInt_elim h
  obtain ⟨a7, h9, h⟩ := gInt_elim h
  obtain ⟨c8, h10, h⟩ := gCells_elim h
  obtain ⟨c9, c10, h11, h⟩ := gCons_elim h
  obtain ⟨a11, h12, h⟩ := gSl_elim h
  obtain ⟨c12, c13, h13, h⟩ := gCons_elim h
  obtain ⟨a14, h14, h⟩ := gSl_elim h
  obtain ⟨c15, c16, h15, h⟩ := gCons_elim h
  obtain ⟨a17, h16, h⟩ := gInt_elim h
  obtain ⟨c18, c19, h17, h⟩ := gCons_elim h
  obtain ⟨a20, h18, h⟩ := gBool_elim h
  obtain ⟨h19, h⟩ := gNil_elim h
  obtain ⟨c21, h20, h⟩ := gCells_elim h
  obtain ⟨c22, c23, h21, h⟩ := gCons_elim h
  obtain ⟨a24, h22, h⟩ := gInt_elim h
  obtain ⟨c25, c26, h23, h⟩ := gCons_elim h
  obtain ⟨a27, h24, h⟩ := gStr_elim h
  obtain ⟨h25, h⟩ := gNil_elim h
  obtain ⟨c28, h26, h⟩ := gCells_elim h
  obtain ⟨c29, c30, h27, h⟩ := gCons_elim h
  obtain ⟨a31, h28, h⟩ := gSl_elim h
  obtain ⟨c32, c33, h29, h⟩ := gCons_elim h
  obtain ⟨a34, h30, h⟩ := gSl_elim h
  obtain ⟨c35, c36, h31, h⟩ := gCons_elim h
  obtain ⟨a37, h32, h⟩ := gInt_elim h
  obtain ⟨c38, c39, h33, h⟩ := gCons_elim h
  obtain ⟨a40, h34, h⟩ := gBool_elim h
  obtain ⟨h35, h⟩ := gNil_elim h
  refine ⟨_, ?_, h⟩
  subst h11
  subst h12
  subst h13
  subst h14
  subst h15
  subst h16
  subst h17
  subst h18
  subst h19
  subst h21
  subst h22
  subst h23
  subst h24
  subst h25
  subst h27
  subst h28
  subst h29
  subst h30
  subst h31
  subst h32
  subst h33
  subst h34
  subst h35
  simp only [keepSt, kp2, List.map, h0, h1, h2, h3, h4, h5, h6, h7, h8, h9, h10, h20, h26]
  rfl
def b2 (rec kx : L2 → Prop) (kr : R → Prop) (x : L2) : Prop :=
  (bif (decide (x.k < (x.l.length : Int))) then (oget (getI x.after x.k) fun v11 => (oget (getI x.l x.k) fun v12 => (bif (!(v11 == v12)) then (bif (x.k != x.m1) then (kr ⟨false⟩) else (oget (getI x.after x.k) fun v13 => (bif (!(v13 == x.m1_1)) then (kr ⟨false⟩) else (rec ⟨x.writes, x.keeps, x.l, x.i, x.after, x.f, (IntKind.i64.wrap (x.k + 1)), x.m0, x.m0_1, x.m0_2, x.m0_3, x.m1, x.m1_1, x.m3, x.m3_1, x.m3_2, x.m3_3⟩)))) else (rec ⟨x.writes, x.keeps, x.l, x.i, x.after, x.f, (IntKind.i64.wrap (x.k + 1)), x.m0, x.m0_1, x.m0_2, x.m0_3, x.m1, x.m1_1, x.m3, x.m3_1, x.m3_2, x.m3_3⟩)))) else (kx ⟨x.writes, x.keeps, x.l, x.i, x.after, x.f, x.k, x.m0, x.m0_1, x.m0_2, x.m0_3, x.m1, x.m1_1, x.m3, x.m3_1, x.m3_2, x.m3_3⟩))
def l2 : LSpec := mkLoop 2 kp2 kR p2 c2 cR b2
structure L4 where
  writes : (List Write)
  keeps : (List Bool)
  l : (List Str)
  i : Int
  m : (List Str)
  k : Int
  m0 : (List Str)
  m0_1 : (List Write)
  m0_2 : Int
  m0_3 : Bool
  m1 : Int
  m1_1 : Str
  m3 : (List Str)
  m3_1 : (List Write)
  m3_2 : Int
  m3_3 : Bool
def c4 (x : L4) : St := { fr := lookL .top [(1, (.sl .any (.st 0) x.writes)), (2, (.sl .any .bool x.keeps)), (7, (.ptr 0 0)), (9, (.sl .any .str x.l)), (11, (.int .i64 x.i)), (12, (.ptr 1 0)), (17, (.ptr 3 0)), (20, (.sl .any .str x.m)), (22, (.int .i64 x.k))], hs := { hp := lookL .dead [(0, (.cells [(.sl .any .str x.m0), (.sl .any (.st 0) x.m0_1), (.int .i64 x.m0_2), (.bool x.m0_3)])), (1, (.cells [(.int .i64 x.m1), (.str x.m1_1)])), (3, (.cells [(.sl .any .str x.m3), (.sl .any (.st 0) x.m3_1), (.int .i64 x.m3_2), (.bool x.m3_3)]))], hn := 4 } }
def kp4 : Keep := { ks := [(1, none), (2, none), (7, none), (9, none), (11, none), (12, none), (17, none), (20, none), (22, none)], bs := [0, 1, 3], hn := 4 }
def p4 (st : St) (K : L4 → Prop) : Prop := gSl .any (.st 0) (st.fr 1) fun a1 => gSl .any .bool (st.fr 2) fun a2 => gPtr 0 0 (st.fr 7) <| gSl .any .str (st.fr 9) fun a3 => gInt .i64 (st.fr 11) fun a4 => gPtr 1 0 (st.fr 12) <| gPtr 3 0 (st.fr 17) <| gSl .any .str (st.fr 20) fun a5 => gInt .i64 (st.fr 22) fun a6 => gCells (st.hs.hp 0) fun c7 => gCons c7 fun c8 c9 => gSl .any .str c8 fun a10 => gCons c9 fun c11 c12 => gSl .any (.st 0) c11 fun a13 => gCons c12 fun c14 c15 => gInt .i64 c14 fun a16 => gCons c15 fun c17 c18 => gBool c17 fun a19 => gNil c18 <| gCells (st.hs.hp 1) fun c20 => gCons c20 fun c21 c22 => gInt .i64 c21 fun a23 => gCons c22 fun c24 c25 => gStr c24 fun a26 => gNil c25 <| gCells (st.hs.hp 3) fun c27 => gCons c27 fun c28 c29 => gSl .any .str c28 fun a30 => gCons c29 fun c31 c32 => gSl .any (.st 0) c31 fun a33 => gCons c32 fun c34 c35 => gInt .i64 c34 fun a36 => gCons c35 fun c37 c38 => gBool c37 fun a39 => gNil c38 <| K ⟨a1, a2, a3, a4, a5, a6, a10, a13, a16, a19, a23, a26, a30, a33, a36, a39⟩
theorem p4_ok (st : St) (K : L4 → Prop) (h : p4 st K) : ∃ x, keepSt kp4 st = c4 x ∧ K x := by
  obtain ⟨a1, h0, h⟩ := gSl_elim h
  obtain ⟨a2, h1, h⟩ := gSl_elim h
  obtain ⟨h2, h⟩ := gPtr_elim h
  obtain ⟨a3, h3, h⟩ := gSl_elim h
  obtain ⟨a4, h4, h⟩ := gInt_elim h
  obtain ⟨h5, h⟩ := gPtr_elim h
  obtain ⟨h6, h⟩ := gPtr_elim h
  obtain ⟨a5, h7, h⟩ := gSl_elim h
  obtain ⟨a6, h8, h⟩ := gInt_elim h
  obtain ⟨c7, h9, h⟩ := gCells_elim h
  obtain ⟨c8, c9, h10, h⟩ := gCons_elim h
  obtain ⟨a10, h11, h⟩ := gSl_elim h
  obtain ⟨c11, c12, h12, h⟩ := gCons_elim h
  obtain ⟨a13, h13, h⟩ := gSl_elim h
  obtain ⟨c14, c15, h14, h⟩ := gCons_elim h
  obtain ⟨a16, h15, h⟩ := gInt_elim h
  obtain ⟨c17, c18, h16, h⟩ := gCons_elim h
  obtain ⟨a19, h17, h⟩ := gBool_elim h
  obtain ⟨h18, h⟩ := gNil_elim h
  obtain ⟨c20, h19, h⟩ := gCells_elim h
  obtain ⟨c21, c22, h20, h⟩ := gCons_elim h
  obtain ⟨a23, h21, h⟩ := gInt_elim h
  obtain ⟨c24, c25, h22, h⟩ := gCons_elim h
  obtain ⟨a26, h23, h⟩ := gStr_elim h
  obtain ⟨h24, h⟩ := gNil_elim h
  obtain ⟨c27, h25, h⟩ := gCells_elim h
  obtain ⟨c28, c29, h26, h⟩ := gCons_elim h
  obtain ⟨a30, h27, h⟩ := gSl_elim h
  obtain ⟨c31, c32, h28, h⟩ := gCons_elim h
  obtain ⟨a33, h29, h⟩ := gSl_elim h
  obtain ⟨c34, c35, h30, h⟩ := gCons_elim h
  obtain ⟨a36, h31, h⟩ := gInt_elim h
  obtain ⟨c37, c38, h32, h⟩ := gCons_elim h
  obtain ⟨a39, h33, h⟩ := gBool_elim h
  obtain ⟨h34, h⟩ := gNil_elim h
  refine ⟨_, ?_, h⟩
  subst h10
  subst h11
  subst h12
  subst h13
  subst h14
  subst h15
  subst h16
  subst h17
  subst h18
  subst h20
  subst h21
  subst h22
  subst h23
  subst h24
  subst h26
  subst h27
  subst h28
  subst h29
  subst h30
  subst h31
  subst h32
  subst h33
  subst h34
  simp only [keepSt, kp4, List.map, h0, h1, h2, h3, h4, h5, h6, h7, h8, h9, h19, h25]
  rfl
def b4 (rec kx : L4 → Prop) (kr : R → Prop) (x : L4) : Prop :=
  (bif (decide (x.k < (x.l.length : Int))) then (bif (x.k == x.m1) then (oget (getI x.m x.k) fun v18 => (bif (!(v18 == x.m1_1)) then (kr ⟨false⟩) else (bif (x.k != x.m1) then (oget (getI x.m x.k) fun v19 => (oget (getI x.l x.k) fun v20 => (bif (!(v19 == v20)) then (kr ⟨false⟩) else (rec ⟨x.writes, x.keeps, x.l, x.i, x.m, (IntKind.i64.wrap (x.k + 1)), x.m0, x.m0_1, x.m0_2, x.m0_3, x.m1, x.m1_1, x.m3, x.m3_1, x.m3_2, x.m3_3⟩)))) else (rec ⟨x.writes, x.keeps, x.l, x.i, x.m, (IntKind.i64.wrap (x.k + 1)), x.m0, x.m0_1, x.m0_2, x.m0_3, x.m1, x.m1_1, x.m3, x.m3_1, x.m3_2, x.m3_3⟩)))) else (bif (x.k != x.m1) then (oget (getI x.m x.k) fun v21 => (oget (getI x.l x.k) fun v22 => (bif (!(v21 == v22)) then (kr ⟨false⟩) else (rec ⟨x.writes, x.keeps, x.l, x.i, x.m, (IntKind.i64.wrap (x.k + 1)), x.m0, x.m0_1, x.m0_2, x.m0_3, x.m1, x.m1_1, x.m3, x.m3_1, x.m3_2, x.m3_3⟩)))) else (rec ⟨x.writes, x.keeps, x.l, x.i, x.m, (IntKind.i64.wrap (x.k + 1)), x.m0, x.m0_1, x.m0_2, x.m0_3, x.m1, x.m1_1, x.m3, x.m3_1, x.m3_2, x.m3_3⟩))) else (kx ⟨x.writes, x.keeps, x.l, x.i, x.m, x.k, x.m0, x.m0_1, x.m0_2, x.m0_3, x.m1, x.m1_1, x.m3, x.m3_1, x.m3_2, x.m3_3⟩))
def l4 : LSpec := mkLoop 4 kp4 kR p4 c4 cR b4
structure L0 where
  writes : (List Write)
  keeps : (List Bool)
  l : (List Str)
  i : Int
  m0 : (List Str)
  m0_1 : (List Write)
  m0_2 : Int
  m0_3 : Bool
def c0 (x : L0) : St := { fr := lookL .top [(1, (.sl .any (.st 0) x.writes)), (2, (.sl .any .bool x.keeps)), (7, (.ptr 0 0)), (9, (.sl .any .str x.l)), (11, (.int .i64 x.i))], hs := { hp := lookL .dead [(0, (.cells [(.sl .any .str x.m0), (.sl .any (.st 0) x.m0_1), (.int .i64 x.m0_2), (.bool x.m0_3)]))], hn := 1 } }
def kp0 : Keep := { ks := [(1, none), (2, none), (7, none), (9, none), (11, none)], bs := [0], hn := 1 }
def p0 (st : St) (K : L0 → Prop) : Prop := gSl .any (.st 0) (st.fr 1) fun a1 => gSl .any .bool (st.fr 2) fun a2 => gPtr 0 0 (st.fr 7) <| gSl .any .str (st.fr 9) fun a3 => gInt .i64 (st.fr 11) fun a4 => gCells (st.hs.hp 0) fun c5 => gCons c5 fun c6 c7 => gSl .any .str c6 fun a8 => gCons c7 fun c9 c10 => gSl .any (.st 0) c9 fun a11 => gCons c10 fun c12 c13 => gInt .i64 c12 fun a14 => gCons c13 fun c15 c16 => gBool c15 fun a17 => gNil c16 <| K ⟨a1, a2, a3, a4, a8, a11, a14, a17⟩
theorem p0_ok (st : St) (K : L0 → Prop) (h : p0 st K) : ∃ x, keepSt kp0 st = c0 x ∧ K x := by
  obtain ⟨a1, h0, h⟩ := gSl_elim h
  obtain ⟨a2, h1, h⟩ := gSl_elim h
  obtain ⟨h2, h⟩ := gPtr_elim h
  obtain ⟨a3, h3, h⟩ := gSl_elim h
  obtain ⟨a4, h4, h⟩ := gInt_elim h
  obtain ⟨c5, h5, h⟩ := gCells_elim h
  obtain ⟨c6, c7, h6, h⟩ := gCons_elim h
  obtain ⟨a8, h7, h⟩ := gSl_elim h
  obtain ⟨c9, c10, h8, h⟩ := gCons_elim h
  obtain ⟨a11, h9, h⟩ := gSl_elim h
  obtain ⟨c12, c13, h10, h⟩ := gCons_elim h
  obtain ⟨a14, h11, h⟩ := gInt_elim h
  obtain ⟨c15, c16, h12, h⟩ := gCons_elim h
  obtain ⟨a17, h13, h⟩ := gBool_elim h
  obtain ⟨h14, h⟩ := gNil_elim h
  refine ⟨_, ?_, h⟩
  subst h6
  subst h7
  subst h8
  subst h9
  subst h10
  subst h11
  subst h12
  subst h13
  subst h14
  simp only [keepSt, kp0, List.map, h0, h1, h2, h3, h4, h5]
  rfl
def b0 (rec kx : L0 → Prop) (kr : R → Prop) (x : L0) : Prop :=
  (bif (decide (x.i < (x.writes.length : Int))) then (oget (getI x.writes x.i) fun v4 => (ref04_Arm.F (⟨x.m0, x.m0_1, x.m0_2, x.m0_3⟩ : Disk) 2 fun r5 => (area_Put.F r5 v4.sector v4.data fun r6 => (ref04_Crash.F r6.1 fun r7 => (ref04_Revive.F r7 x.keeps fun r8 => (area_All.F r8 fun r9 => (area_Put.F (⟨x.m0, x.m0_1, x.m0_2, x.m0_3⟩ : Disk) v4.sector v4.data fun r10 => (bif (r9.2 != 0) then (kr ⟨false⟩) else (bif ((r9.1.length : Int) != (x.l.length : Int)) then (kr ⟨false⟩) else (∃ n, loopB b2 n (fun x14 => (bif (x14.f != 0) then (ref04_Same.F (⟨x14.m3, x14.m3_1, x14.m3_2, x14.m3_3⟩ : Disk) (⟨x14.m0, x14.m0_1, x14.m0_2, x14.m0_3⟩ : Disk) fun r16 => (bif (!r16) then (kr ⟨false⟩) else (rec ⟨x14.writes, x14.keeps, x14.l, (IntKind.i64.wrap (x14.i + 1)), x14.m0, x14.m0_1, x14.m0_2, x14.m0_3⟩))) else (area_All.F (⟨x14.m3, x14.m3_1, x14.m3_2, x14.m3_3⟩ : Disk) fun r17 => (bif (r17.2 != 0) then (kr ⟨false⟩) else (bif ((r17.1.length : Int) != (x14.l.length : Int)) then (kr ⟨false⟩) else (∃ n, loopB b4 n (fun x23 => (rec ⟨x23.writes, x23.keeps, x23.m, (IntKind.i64.wrap (x23.i + 1)), x23.m3, x23.m3_1, x23.m3_2, x23.m3_3⟩)) (fun r24 => (kr ⟨r24.t6⟩)) ⟨x14.writes, x14.keeps, x14.l, x14.i, r17.1, 0, x14.m0, x14.m0_1, x14.m0_2, x14.m0_3, x14.m1, x14.m1_1, x14.m3, x14.m3_1, x14.m3_2, x14.m3_3⟩)))))) (fun r15 => (kr ⟨r15.t6⟩)) ⟨x.writes, x.keeps, x.l, x.i, r9.1, r10.2, 0, x.m0, x.m0_1, x.m0_2, x.m0_3, v4.sector, v4.data, r10.1.sure, r10.1.cache, r10.1.fuse, r10.1.dead⟩)))))))))) else (kx ⟨x.writes, x.keeps, x.l, x.i, x.m0, x.m0_1, x.m0_2, x.m0_3⟩))
def l0 : LSpec := mkLoop 0 kp0 kR p0 c0 cR b0
def lt : Nat → Option LSpec
  | 2 => some l2
  | 4 => some l4
  | 0 => some l0
  | _ => none
def F (n_0 : Int) (writes : (List Write)) (keeps : (List Bool)) (K : Bool → Prop) : Prop :=
  (law09_alive.F fun r1 => (bif (!r1) then (K false) else (bif (decide ((writes.length : Int) > 20)) then (K true) else (bif (decide ((keeps.length : Int) > 50)) then (K true) else (bif (32 == 0) then False else (area_Format.F (IntKind.i64.wrap (1 + (IntKind.i64.wrap (n_0.tmod 32)))) 7 fun r2 => (area_All.F r2.1 fun r3 => (∃ n, loopB b0 n (fun x25 => (K true)) (fun r26 => (K r26.t6)) ⟨writes, keeps, r3.1, 0, r2.1.sure, r2.1.cache, r2.1.fuse, r2.1.dead⟩))))))))
noncomputable def en : Entry := mkEntry [(.int .u8), (.slice (.st 0)), (.slice .bool)] (cTy .bool) fun x => F x.1 x.2.1 x.2.2.1
noncomputable def tabV (f0 : (Bool → Prop) → Prop) (f1 : Int → Int → ((Disk × Int) → Prop) → Prop) (f2 : Disk → (((List Str) × Int) → Prop) → Prop) (f3 : Disk → Int → (Disk → Prop) → Prop) (f4 : Disk → Int → Str → ((Disk × Int) → Prop) → Prop) (f5 : Disk → (Disk → Prop) → Prop) (f6 : Disk → (List Bool) → (Disk → Prop) → Prop) (f7 : Disk → Disk → (Bool → Prop) → Prop) : Tab := [(79, mkEntry [] (cTy .bool) fun _ => f0), (87, mkEntry [(.int .i64), (.int .u64)] (cTwo (.st 1) (.int .i64)) fun x => f1 x.1 x.2.1), (84, mkEntry [(.st 1)] (cTwo (.slice .str) (.int .i64)) fun x => f2 x.1), (67, mkEntry [(.st 1), (.int .i64)] (cTy (.st 1)) fun x => f3 x.1 x.2.1), (82, mkEntry [(.st 1), (.int .i64), .str] (cTwo (.st 1) (.int .i64)) fun x => f4 x.1 x.2.1 x.2.2.1), (69, mkEntry [(.st 1)] (cTy (.st 1)) fun x => f5 x.1), (71, mkEntry [(.st 1), (.slice .bool)] (cTy (.st 1)) fun x => f6 x.1 x.2.1), (56, mkEntry [(.st 1), (.st 1)] (cTy .bool) fun x => f7 x.1 x.2.1)]
theorem tabE : tab = tabV law09_alive.F area_Format.F area_All.F ref04_Arm.F area_Put.F ref04_Crash.F ref04_Revive.F ref04_Same.F := by kernel_rfl
def b2V (f0 : (Bool → Prop) → Prop) (f1 : Int → Int → ((Disk × Int) → Prop) → Prop) (f2 : Disk → (((List Str) × Int) → Prop) → Prop) (f3 : Disk → Int → (Disk → Prop) → Prop) (f4 : Disk → Int → Str → ((Disk × Int) → Prop) → Prop) (f5 : Disk → (Disk → Prop) → Prop) (f6 : Disk → (List Bool) → (Disk → Prop) → Prop) (f7 : Disk → Disk → (Bool → Prop) → Prop) (rec kx : L2 → Prop) (kr : R → Prop) (x : L2) : Prop :=
  (bif (decide (x.k < (x.l.length : Int))) then (oget (getI x.after x.k) fun v11 => (oget (getI x.l x.k) fun v12 => (bif (!(v11 == v12)) then (bif (x.k != x.m1) then (kr ⟨false⟩) else (oget (getI x.after x.k) fun v13 => (bif (!(v13 == x.m1_1)) then (kr ⟨false⟩) else (rec ⟨x.writes, x.keeps, x.l, x.i, x.after, x.f, (IntKind.i64.wrap (x.k + 1)), x.m0, x.m0_1, x.m0_2, x.m0_3, x.m1, x.m1_1, x.m3, x.m3_1, x.m3_2, x.m3_3⟩)))) else (rec ⟨x.writes, x.keeps, x.l, x.i, x.after, x.f, (IntKind.i64.wrap (x.k + 1)), x.m0, x.m0_1, x.m0_2, x.m0_3, x.m1, x.m1_1, x.m3, x.m3_1, x.m3_2, x.m3_3⟩)))) else (kx ⟨x.writes, x.keeps, x.l, x.i, x.after, x.f, x.k, x.m0, x.m0_1, x.m0_2, x.m0_3, x.m1, x.m1_1, x.m3, x.m3_1, x.m3_2, x.m3_3⟩))
def b4V (f0 : (Bool → Prop) → Prop) (f1 : Int → Int → ((Disk × Int) → Prop) → Prop) (f2 : Disk → (((List Str) × Int) → Prop) → Prop) (f3 : Disk → Int → (Disk → Prop) → Prop) (f4 : Disk → Int → Str → ((Disk × Int) → Prop) → Prop) (f5 : Disk → (Disk → Prop) → Prop) (f6 : Disk → (List Bool) → (Disk → Prop) → Prop) (f7 : Disk → Disk → (Bool → Prop) → Prop) (rec kx : L4 → Prop) (kr : R → Prop) (x : L4) : Prop :=
  (bif (decide (x.k < (x.l.length : Int))) then (bif (x.k == x.m1) then (oget (getI x.m x.k) fun v18 => (bif (!(v18 == x.m1_1)) then (kr ⟨false⟩) else (bif (x.k != x.m1) then (oget (getI x.m x.k) fun v19 => (oget (getI x.l x.k) fun v20 => (bif (!(v19 == v20)) then (kr ⟨false⟩) else (rec ⟨x.writes, x.keeps, x.l, x.i, x.m, (IntKind.i64.wrap (x.k + 1)), x.m0, x.m0_1, x.m0_2, x.m0_3, x.m1, x.m1_1, x.m3, x.m3_1, x.m3_2, x.m3_3⟩)))) else (rec ⟨x.writes, x.keeps, x.l, x.i, x.m, (IntKind.i64.wrap (x.k + 1)), x.m0, x.m0_1, x.m0_2, x.m0_3, x.m1, x.m1_1, x.m3, x.m3_1, x.m3_2, x.m3_3⟩)))) else (bif (x.k != x.m1) then (oget (getI x.m x.k) fun v21 => (oget (getI x.l x.k) fun v22 => (bif (!(v21 == v22)) then (kr ⟨false⟩) else (rec ⟨x.writes, x.keeps, x.l, x.i, x.m, (IntKind.i64.wrap (x.k + 1)), x.m0, x.m0_1, x.m0_2, x.m0_3, x.m1, x.m1_1, x.m3, x.m3_1, x.m3_2, x.m3_3⟩)))) else (rec ⟨x.writes, x.keeps, x.l, x.i, x.m, (IntKind.i64.wrap (x.k + 1)), x.m0, x.m0_1, x.m0_2, x.m0_3, x.m1, x.m1_1, x.m3, x.m3_1, x.m3_2, x.m3_3⟩))) else (kx ⟨x.writes, x.keeps, x.l, x.i, x.m, x.k, x.m0, x.m0_1, x.m0_2, x.m0_3, x.m1, x.m1_1, x.m3, x.m3_1, x.m3_2, x.m3_3⟩))
def b0V (f0 : (Bool → Prop) → Prop) (f1 : Int → Int → ((Disk × Int) → Prop) → Prop) (f2 : Disk → (((List Str) × Int) → Prop) → Prop) (f3 : Disk → Int → (Disk → Prop) → Prop) (f4 : Disk → Int → Str → ((Disk × Int) → Prop) → Prop) (f5 : Disk → (Disk → Prop) → Prop) (f6 : Disk → (List Bool) → (Disk → Prop) → Prop) (f7 : Disk → Disk → (Bool → Prop) → Prop) (rec kx : L0 → Prop) (kr : R → Prop) (x : L0) : Prop :=
  (bif (decide (x.i < (x.writes.length : Int))) then (oget (getI x.writes x.i) fun v4 => (f3 (⟨x.m0, x.m0_1, x.m0_2, x.m0_3⟩ : Disk) 2 fun r5 => (f4 r5 v4.sector v4.data fun r6 => (f5 r6.1 fun r7 => (f6 r7 x.keeps fun r8 => (f2 r8 fun r9 => (f4 (⟨x.m0, x.m0_1, x.m0_2, x.m0_3⟩ : Disk) v4.sector v4.data fun r10 => (bif (r9.2 != 0) then (kr ⟨false⟩) else (bif ((r9.1.length : Int) != (x.l.length : Int)) then (kr ⟨false⟩) else (∃ n, loopB (b2V f0 f1 f2 f3 f4 f5 f6 f7) n (fun x14 => (bif (x14.f != 0) then (f7 (⟨x14.m3, x14.m3_1, x14.m3_2, x14.m3_3⟩ : Disk) (⟨x14.m0, x14.m0_1, x14.m0_2, x14.m0_3⟩ : Disk) fun r16 => (bif (!r16) then (kr ⟨false⟩) else (rec ⟨x14.writes, x14.keeps, x14.l, (IntKind.i64.wrap (x14.i + 1)), x14.m0, x14.m0_1, x14.m0_2, x14.m0_3⟩))) else (f2 (⟨x14.m3, x14.m3_1, x14.m3_2, x14.m3_3⟩ : Disk) fun r17 => (bif (r17.2 != 0) then (kr ⟨false⟩) else (bif ((r17.1.length : Int) != (x14.l.length : Int)) then (kr ⟨false⟩) else (∃ n, loopB (b4V f0 f1 f2 f3 f4 f5 f6 f7) n (fun x23 => (rec ⟨x23.writes, x23.keeps, x23.m, (IntKind.i64.wrap (x23.i + 1)), x23.m3, x23.m3_1, x23.m3_2, x23.m3_3⟩)) (fun r24 => (kr ⟨r24.t6⟩)) ⟨x14.writes, x14.keeps, x14.l, x14.i, r17.1, 0, x14.m0, x14.m0_1, x14.m0_2, x14.m0_3, x14.m1, x14.m1_1, x14.m3, x14.m3_1, x14.m3_2, x14.m3_3⟩)))))) (fun r15 => (kr ⟨r15.t6⟩)) ⟨x.writes, x.keeps, x.l, x.i, r9.1, r10.2, 0, x.m0, x.m0_1, x.m0_2, x.m0_3, v4.sector, v4.data, r10.1.sure, r10.1.cache, r10.1.fuse, r10.1.dead⟩)))))))))) else (kx ⟨x.writes, x.keeps, x.l, x.i, x.m0, x.m0_1, x.m0_2, x.m0_3⟩))
def ltV (f0 : (Bool → Prop) → Prop) (f1 : Int → Int → ((Disk × Int) → Prop) → Prop) (f2 : Disk → (((List Str) × Int) → Prop) → Prop) (f3 : Disk → Int → (Disk → Prop) → Prop) (f4 : Disk → Int → Str → ((Disk × Int) → Prop) → Prop) (f5 : Disk → (Disk → Prop) → Prop) (f6 : Disk → (List Bool) → (Disk → Prop) → Prop) (f7 : Disk → Disk → (Bool → Prop) → Prop) : Nat → Option LSpec
  | 2 => some (mkLoop 2 kp2 kR p2 c2 cR (b2V f0 f1 f2 f3 f4 f5 f6 f7))
  | 4 => some (mkLoop 4 kp4 kR p4 c4 cR (b4V f0 f1 f2 f3 f4 f5 f6 f7))
  | 0 => some (mkLoop 0 kp0 kR p0 c0 cR (b0V f0 f1 f2 f3 f4 f5 f6 f7))
  | _ => none
theorem ltE : lt = ltV law09_alive.F area_Format.F area_All.F ref04_Arm.F area_Put.F ref04_Crash.F ref04_Revive.F ref04_Same.F := by kernel_rfl
theorem eqv (f0 : (Bool → Prop) → Prop) (f1 : Int → Int → ((Disk × Int) → Prop) → Prop) (f2 : Disk → (((List Str) × Int) → Prop) → Prop) (f3 : Disk → Int → (Disk → Prop) → Prop) (f4 : Disk → Int → Str → ((Disk × Int) → Prop) → Prop) (f5 : Disk → (Disk → Prop) → Prop) (f6 : Disk → (List Bool) → (Disk → Prop) → Prop) (f7 : Disk → Disk → (Bool → Prop) → Prop) (n_0 : Int) (writes : (List Write)) (keeps : (List Bool)) (K : Bool → Prop) : apure E (tabV f0 f1 f2 f3 f4 f5 f6 f7) (ltV f0 f1 f2 f3 f4 f5 f6 f7) 4 21 [enc (.int .u8) n_0, enc (.slice (.st 0)) writes, enc (.slice .bool) keeps] (ansK ((cTy .bool)) K) =
  (f0 fun r1 => (bif (!r1) then (K false) else (bif (decide ((writes.length : Int) > 20)) then (K true) else (bif (decide ((keeps.length : Int) > 50)) then (K true) else (bif (32 == 0) then False else (f1 (IntKind.i64.wrap (1 + (IntKind.i64.wrap (n_0.tmod 32)))) 7 fun r2 => (f2 r2.1 fun r3 => (∃ n, loopB (b0V f0 f1 f2 f3 f4 f5 f6 f7) n (fun x25 => (K true)) (fun r26 => (K r26.t6)) ⟨writes, keeps, r3.1, 0, r2.1.sure, r2.1.cache, r2.1.fuse, r2.1.dead⟩)))))))) := by kernel_rfl
theorem eq (x : Dens [(.int .u8), (.slice (.st 0)), (.slice .bool)]) (K : Bool → Prop) : apure E tab lt 4 21 (encA [(.int .u8), (.slice (.st 0)), (.slice .bool)] x) (ansK ((cTy .bool)) K) = F x.1 x.2.1 x.2.2.1 K := by
  rw [tabE, ltE]
  exact eqv law09_alive.F area_Format.F area_All.F ref04_Arm.F area_Put.F ref04_Crash.F ref04_Revive.F ref04_Same.F x.1 x.2.1 x.2.2.1 K
theorem l2v (f0 : (Bool → Prop) → Prop) (f1 : Int → Int → ((Disk × Int) → Prop) → Prop) (f2 : Disk → (((List Str) × Int) → Prop) → Prop) (f3 : Disk → Int → (Disk → Prop) → Prop) (f4 : Disk → Int → Str → ((Disk × Int) → Prop) → Prop) (f5 : Disk → (Disk → Prop) → Prop) (f6 : Disk → (List Bool) → (Disk → Prop) → Prop) (f7 : Disk → Disk → (Bool → Prop) → Prop) (R : St → Prop) (Kx : Nat → St → Prop) (Kr : St → Prop) (x : L2) : acode E (tabV f0 f1 f2 f3 f4 f5 f6 f7) (afun E (tabV f0 f1 f2 f3 f4 f5 f6 f7) 4) 180 (ltV f0 f1 f2 f3 f4 f5 f6 f7) ((loopsIn E.P 21).getD 1 (0, .skip)).2 2 (fun s => R (keepSt kp2 s)) (fun j s => Kx j (keepSt kp2 s)) (fun s => Kr (keepSt kR s)) (c2 x) =
    b2V f0 f1 f2 f3 f4 f5 f6 f7 (fun x => R (c2 x)) (fun x => Kx 2 (c2 x)) (fun r => Kr (cR r)) x := by kernel_rfl
theorem l2_ok : LSound E tab (afun E tab 4) 180 lt 2 ((loopsIn E.P 21).getD 1 (0, .skip)).2 l2 := mkLoop_sound (by decide) (by decide) p2_ok (fun R Kx Kr x => by
  rw [tabE, ltE]
  exact l2v law09_alive.F area_Format.F area_All.F ref04_Arm.F area_Put.F ref04_Crash.F ref04_Revive.F ref04_Same.F R Kx Kr x)
theorem l4v (f0 : (Bool → Prop) → Prop) (f1 : Int → Int → ((Disk × Int) → Prop) → Prop) (f2 : Disk → (((List Str) × Int) → Prop) → Prop) (f3 : Disk → Int → (Disk → Prop) → Prop) (f4 : Disk → Int → Str → ((Disk × Int) → Prop) → Prop) (f5 : Disk → (Disk → Prop) → Prop) (f6 : Disk → (List Bool) → (Disk → Prop) → Prop) (f7 : Disk → Disk → (Bool → Prop) → Prop) (R : St → Prop) (Kx : Nat → St → Prop) (Kr : St → Prop) (x : L4) : acode E (tabV f0 f1 f2 f3 f4 f5 f6 f7) (afun E (tabV f0 f1 f2 f3 f4 f5 f6 f7) 4) 180 (ltV f0 f1 f2 f3 f4 f5 f6 f7) ((loopsIn E.P 21).getD 2 (0, .skip)).2 4 (fun s => R (keepSt kp4 s)) (fun j s => Kx j (keepSt kp4 s)) (fun s => Kr (keepSt kR s)) (c4 x) =
    b4V f0 f1 f2 f3 f4 f5 f6 f7 (fun x => R (c4 x)) (fun x => Kx 4 (c4 x)) (fun r => Kr (cR r)) x := by kernel_rfl
theorem l4_ok : LSound E tab (afun E tab 4) 180 lt 4 ((loopsIn E.P 21).getD 2 (0, .skip)).2 l4 := mkLoop_sound (by decide) (by decide) p4_ok (fun R Kx Kr x => by
  rw [tabE, ltE]
  exact l4v law09_alive.F area_Format.F area_All.F ref04_Arm.F area_Put.F ref04_Crash.F ref04_Revive.F ref04_Same.F R Kx Kr x)
theorem l0v (f0 : (Bool → Prop) → Prop) (f1 : Int → Int → ((Disk × Int) → Prop) → Prop) (f2 : Disk → (((List Str) × Int) → Prop) → Prop) (f3 : Disk → Int → (Disk → Prop) → Prop) (f4 : Disk → Int → Str → ((Disk × Int) → Prop) → Prop) (f5 : Disk → (Disk → Prop) → Prop) (f6 : Disk → (List Bool) → (Disk → Prop) → Prop) (f7 : Disk → Disk → (Bool → Prop) → Prop) (R : St → Prop) (Kx : Nat → St → Prop) (Kr : St → Prop) (x : L0) : acode E (tabV f0 f1 f2 f3 f4 f5 f6 f7) (afun E (tabV f0 f1 f2 f3 f4 f5 f6 f7) 4) 180 (ltV f0 f1 f2 f3 f4 f5 f6 f7) ((loopsIn E.P 21).getD 0 (0, .skip)).2 0 (fun s => R (keepSt kp0 s)) (fun j s => Kx j (keepSt kp0 s)) (fun s => Kr (keepSt kR s)) (c0 x) =
    b0V f0 f1 f2 f3 f4 f5 f6 f7 (fun x => R (c0 x)) (fun x => Kx 0 (c0 x)) (fun r => Kr (cR r)) x := by kernel_rfl
theorem l0_ok : LSound E tab (afun E tab 4) 180 lt 0 ((loopsIn E.P 21).getD 0 (0, .skip)).2 l0 := mkLoop_sound (by decide) (by decide) p0_ok (fun R Kx Kr x => by
  rw [tabE, ltE]
  exact l0v law09_alive.F area_Format.F area_All.F ref04_Arm.F area_Put.F ref04_Crash.F ref04_Revive.F ref04_Same.F R Kx Kr x)
theorem loops : LoopsOk E tab lt 4 21 := loops_of (nt := 180) (ids := [0, 2, 4]) (by kernel_rfl) (by kernel_rfl) (by
  intro k i hk l hl
  match k, hk with
  | 0, hk => cases hk; cases hl; exact l0_ok
  | 1, hk => cases hk; cases hl; exact l2_ok
  | 2, hk => cases hk; cases hl; exact l4_ok
  | _ + 3, hk => exact absurd hk (by simp))
theorem det (n_0 : Int) (writes : (List Write)) (keeps : (List Bool)) : Det (F n_0 writes keeps) := by
  unfold F
  repeat' first | with_reducible exact det_ret _ | with_reducible exact det_false | with_reducible refine det_cond _ ?_ ?_ | with_reducible refine det_oget _ (fun _ => ?_) | with_reducible exact law09_alive.det | with_reducible refine det_bind (law09_alive.det) (fun _ => ?_) | with_reducible exact area_Format.det _ _ | with_reducible refine det_bind (area_Format.det _ _) (fun _ => ?_) | with_reducible exact area_All.det _ | with_reducible refine det_bind (area_All.det _) (fun _ => ?_) | with_reducible exact ref04_Arm.det _ _ | with_reducible refine det_bind (ref04_Arm.det _ _) (fun _ => ?_) | with_reducible exact area_Put.det _ _ _ | with_reducible refine det_bind (area_Put.det _ _ _) (fun _ => ?_) | with_reducible exact ref04_Crash.det _ | with_reducible refine det_bind (ref04_Crash.det _) (fun _ => ?_) | with_reducible exact ref04_Revive.det _ _ | with_reducible refine det_bind (ref04_Revive.det _ _) (fun _ => ?_) | with_reducible exact ref04_Same.det _ _ | with_reducible refine det_bind (ref04_Same.det _ _) (fun _ => ?_) | with_reducible refine det_loop (fun _ => ?_) (fun _ => ?_) (fun _ => ?_) _ | unfold b2 | unfold b4 | unfold b0
theorem edet (args : List AV) : Det (en args) := mkEntry_det (ts := [(.int .u8), (.slice (.st 0)), (.slice .bool)]) (cod := (cTy .bool)) (F := fun x => F x.1 x.2.1 x.2.2.1) (fun x => det x.1 x.2.1 x.2.2.1) args
theorem ground : Ground E tab := ⟨num, mixed, (tab_cons law09_alive.sound (tab_cons area_Format.sound (tab_cons area_All.sound (tab_cons ref04_Arm.sound (tab_cons area_Put.sound (tab_cons ref04_Crash.sound (tab_cons ref04_Revive.sound (tab_cons ref04_Same.sound (tab_nil _))))))))), clone, (dtab_cons law09_alive.edet (dtab_cons area_Format.edet (dtab_cons area_All.edet (dtab_cons ref04_Arm.edet (dtab_cons area_Put.edet (dtab_cons ref04_Crash.edet (dtab_cons ref04_Revive.edet (dtab_cons ref04_Same.edet dtab_nil))))))))⟩
theorem has : ((E.P.funcs[21]?).bind (·.body)).isSome = true := by kernel_rfl
theorem sound : EntrySound E.P 21 en := mkSound (ts := [(.int .u8), (.slice (.st 0)), (.slice .bool)]) (cod := (cTy .bool)) (F := fun x => F x.1 x.2.1 x.2.2.1) ground loops has eq
end law09_AreaOne
end Gm
