/- Printed by a program (gen.py): the functions' answers, and that they are so. -/
import Derived.Test.YtbhgalddlkebgaaGmT1
set_option linter.unusedVariables false
set_option maxRecDepth 100000
namespace Gm
open Go Go.Proofs
namespace hello_Of
noncomputable def tab : Tab := []
def F (s : Super) (primary : Bool) (m : Int) (K : Hello → Prop) : Prop :=
  (bif s.pri then (K (⟨s.blocks, s.vector, s.inc, (!primary), s.dis, primary, m⟩ : Hello)) else (K (⟨s.blocks, s.vector, s.inc, false, s.dis, primary, m⟩ : Hello)))
noncomputable def en : Entry := mkEntry [(.st 3), .bool, (.int .u32)] (cTy (.st 4)) fun x => F x.1 x.2.1 x.2.2.1
theorem eq (x : Dens [(.st 3), .bool, (.int .u32)]) (K : Hello → Prop) : apure E tab (fun _ => none) 4 44 (encA [(.st 3), .bool, (.int .u32)] x) (ansK ((cTy (.st 4))) K) = F x.1 x.2.1 x.2.2.1 K := by kernel_rfl
theorem loops : LoopsOk E tab (fun _ => none) 4 44 := loops_none _ _ _ _
theorem det (s : Super) (primary : Bool) (m : Int) : Det (F s primary m) := by
  unfold F
  repeat' first | with_reducible exact det_ret _ | with_reducible exact det_false | with_reducible refine det_cond _ ?_ ?_ | with_reducible refine det_oget _ (fun _ => ?_)
theorem edet (args : List AV) : Det (en args) := mkEntry_det (ts := [(.st 3), .bool, (.int .u32)]) (cod := (cTy (.st 4))) (F := fun x => F x.1 x.2.1 x.2.2.1) (fun x => det x.1 x.2.1 x.2.2.1) args
theorem ground : Ground E tab := ⟨num, mixed, (tab_nil _), clone, dtab_nil⟩
theorem has : ((E.P.funcs[44]?).bind (·.body)).isSome = true := by kernel_rfl
theorem sound : EntrySound E.P 44 en := mkSound (ts := [(.st 3), .bool, (.int .u32)]) (cod := (cTy (.st 4))) (F := fun x => F x.1 x.2.1 x.2.2.1) ground loops has eq
end hello_Of
namespace vector_Right
noncomputable def tab : Tab := []
def F (v : Vec) (K : Bool → Prop) : Prop :=
  (K (v.current != 0))
noncomputable def en : Entry := mkEntry [(.st 2)] (cTy .bool) fun x => F x.1
theorem eq (x : Dens [(.st 2)]) (K : Bool → Prop) : apure E tab (fun _ => none) 4 93 (encA [(.st 2)] x) (ansK ((cTy .bool)) K) = F x.1 K := by kernel_rfl
theorem loops : LoopsOk E tab (fun _ => none) 4 93 := loops_none _ _ _ _
theorem det (v : Vec) : Det (F v) := by
  unfold F
  repeat' first | with_reducible exact det_ret _ | with_reducible exact det_false | with_reducible refine det_cond _ ?_ ?_ | with_reducible refine det_oget _ (fun _ => ?_)
theorem edet (args : List AV) : Det (en args) := mkEntry_det (ts := [(.st 2)]) (cod := (cTy .bool)) (F := fun x => F x.1) (fun x => det x.1) args
theorem ground : Ground E tab := ⟨num, mixed, (tab_nil _), clone, dtab_nil⟩
theorem has : ((E.P.funcs[93]?).bind (·.body)).isSome = true := by kernel_rfl
theorem sound : EntrySound E.P 93 en := mkSound (ts := [(.st 2)]) (cod := (cTy .bool)) (F := fun x => F x.1) ground loops has eq
end vector_Right
namespace mask_there
noncomputable def tab : Tab := []
def F (i : Int) (K : Bool → Prop) : Prop :=
  (bif (decide (i ≥ 0)) then (K (decide (i < 32))) else (K false))
noncomputable def en : Entry := mkEntry [(.int .i64)] (cTy .bool) fun x => F x.1
theorem eq (x : Dens [(.int .i64)]) (K : Bool → Prop) : apure E tab (fun _ => none) 4 119 (encA [(.int .i64)] x) (ansK ((cTy .bool)) K) = F x.1 K := by kernel_rfl
theorem loops : LoopsOk E tab (fun _ => none) 4 119 := loops_none _ _ _ _
theorem det (i : Int) : Det (F i) := by
  unfold F
  repeat' first | with_reducible exact det_ret _ | with_reducible exact det_false | with_reducible refine det_cond _ ?_ ?_ | with_reducible refine det_oget _ (fun _ => ?_)
theorem edet (args : List AV) : Det (en args) := mkEntry_det (ts := [(.int .i64)]) (cod := (cTy .bool)) (F := fun x => F x.1) (fun x => det x.1) args
theorem ground : Ground E tab := ⟨num, mixed, (tab_nil _), clone, dtab_nil⟩
theorem has : ((E.P.funcs[119]?).bind (·.body)).isSome = true := by kernel_rfl
theorem sound : EntrySound E.P 119 en := mkSound (ts := [(.int .i64)]) (cod := (cTy .bool)) (F := fun x => F x.1) ground loops has eq
end mask_there
namespace mask_All
noncomputable def tab : Tab := [(119, mask_there.en)]
def F (blocks : Int) (K : Int → Prop) : Prop :=
  (mask_there.F (IntKind.i64.wrap (blocks - 1)) fun r1 => (bif (!r1) then (K 0) else (bif (decide (0 ≤ blocks)) then (K (IntKind.u32.wrap ((ishl .u32 1 blocks) - 1))) else False)))
noncomputable def en : Entry := mkEntry [(.int .i64)] (cTy (.int .u32)) fun x => F x.1
noncomputable def tabV (f0 : Int → (Bool → Prop) → Prop) : Tab := [(119, mkEntry [(.int .i64)] (cTy .bool) fun x => f0 x.1)]
theorem tabE : tab = tabV mask_there.F := by kernel_rfl
theorem eqv (f0 : Int → (Bool → Prop) → Prop) (blocks : Int) (K : Int → Prop) : apure E (tabV f0) (fun _ => none) 4 120 [enc (.int .i64) blocks] (ansK ((cTy (.int .u32))) K) =
  (f0 (IntKind.i64.wrap (blocks - 1)) fun r1 => (bif (!r1) then (K 0) else (bif (decide (0 ≤ blocks)) then (K (IntKind.u32.wrap ((ishl .u32 1 blocks) - 1))) else False))) := by kernel_rfl
theorem eq (x : Dens [(.int .i64)]) (K : Int → Prop) : apure E tab (fun _ => none) 4 120 (encA [(.int .i64)] x) (ansK ((cTy (.int .u32))) K) = F x.1 K := eqv mask_there.F x.1 K
theorem loops : LoopsOk E tab (fun _ => none) 4 120 := loops_none _ _ _ _
theorem det (blocks : Int) : Det (F blocks) := by
  unfold F
  repeat' first | with_reducible exact det_ret _ | with_reducible exact det_false | with_reducible refine det_cond _ ?_ ?_ | with_reducible refine det_oget _ (fun _ => ?_) | with_reducible exact mask_there.det _ | with_reducible refine det_bind (mask_there.det _) (fun _ => ?_)
theorem edet (args : List AV) : Det (en args) := mkEntry_det (ts := [(.int .i64)]) (cod := (cTy (.int .u32))) (F := fun x => F x.1) (fun x => det x.1) args
theorem ground : Ground E tab := ⟨num, mixed, (tab_cons mask_there.sound (tab_nil _)), clone, (dtab_cons mask_there.edet dtab_nil)⟩
theorem has : ((E.P.funcs[120]?).bind (·.body)).isSome = true := by kernel_rfl
theorem sound : EntrySound E.P 120 en := mkSound (ts := [(.int .i64)]) (cod := (cTy (.int .u32))) (F := fun x => F x.1) ground loops has eq
end mask_All
namespace mask_Right
noncomputable def tab : Tab := [(119, mask_there.en), (120, mask_All.en)]
def F (m : Int) (blocks : Int) (K : Bool → Prop) : Prop :=
  (mask_there.F (IntKind.i64.wrap (blocks - 1)) fun r1 => (bif r1 then (mask_All.F blocks fun r2 => (K ((iandn .u32 m r2) == 0))) else (K false)))
noncomputable def en : Entry := mkEntry [(.int .u32), (.int .i64)] (cTy .bool) fun x => F x.1 x.2.1
noncomputable def tabV (f0 : Int → (Bool → Prop) → Prop) (f1 : Int → (Int → Prop) → Prop) : Tab := [(119, mkEntry [(.int .i64)] (cTy .bool) fun x => f0 x.1), (120, mkEntry [(.int .i64)] (cTy (.int .u32)) fun x => f1 x.1)]
theorem tabE : tab = tabV mask_there.F mask_All.F := by kernel_rfl
theorem eqv (f0 : Int → (Bool → Prop) → Prop) (f1 : Int → (Int → Prop) → Prop) (m : Int) (blocks : Int) (K : Bool → Prop) : apure E (tabV f0 f1) (fun _ => none) 4 94 [enc (.int .u32) m, enc (.int .i64) blocks] (ansK ((cTy .bool)) K) =
  (f0 (IntKind.i64.wrap (blocks - 1)) fun r1 => (bif r1 then (f1 blocks fun r2 => (K ((iandn .u32 m r2) == 0))) else (K false))) := by kernel_rfl
theorem eq (x : Dens [(.int .u32), (.int .i64)]) (K : Bool → Prop) : apure E tab (fun _ => none) 4 94 (encA [(.int .u32), (.int .i64)] x) (ansK ((cTy .bool)) K) = F x.1 x.2.1 K := eqv mask_there.F mask_All.F x.1 x.2.1 K
theorem loops : LoopsOk E tab (fun _ => none) 4 94 := loops_none _ _ _ _
theorem det (m : Int) (blocks : Int) : Det (F m blocks) := by
  unfold F
  repeat' first | with_reducible exact det_ret _ | with_reducible exact det_false | with_reducible refine det_cond _ ?_ ?_ | with_reducible refine det_oget _ (fun _ => ?_) | with_reducible exact mask_there.det _ | with_reducible refine det_bind (mask_there.det _) (fun _ => ?_) | with_reducible exact mask_All.det _ | with_reducible refine det_bind (mask_All.det _) (fun _ => ?_)
theorem edet (args : List AV) : Det (en args) := mkEntry_det (ts := [(.int .u32), (.int .i64)]) (cod := (cTy .bool)) (F := fun x => F x.1 x.2.1) (fun x => det x.1 x.2.1) args
theorem ground : Ground E tab := ⟨num, mixed, (tab_cons mask_there.sound (tab_cons mask_All.sound (tab_nil _))), clone, (dtab_cons mask_there.edet (dtab_cons mask_All.edet dtab_nil))⟩
theorem has : ((E.P.funcs[94]?).bind (·.body)).isSome = true := by kernel_rfl
theorem sound : EntrySound E.P 94 en := mkSound (ts := [(.int .u32), (.int .i64)]) (cod := (cTy .bool)) (F := fun x => F x.1 x.2.1) ground loops has eq
end mask_Right
namespace hello_Right
noncomputable def tab : Tab := [(93, vector_Right.en), (94, mask_Right.en)]
def F (h : Hello) (K : Bool → Prop) : Prop :=
  (vector_Right.F h.vector fun r1 => (bif r1 then (mask_Right.F h.mask h.blocks fun r2 => (bif r2 then (bif (!h.pri) then (K true) else (bif (!h.was) then (K (!h.inc)) else (K false))) else (K false))) else (K false)))
noncomputable def en : Entry := mkEntry [(.st 4)] (cTy .bool) fun x => F x.1
noncomputable def tabV (f0 : Vec → (Bool → Prop) → Prop) (f1 : Int → Int → (Bool → Prop) → Prop) : Tab := [(93, mkEntry [(.st 2)] (cTy .bool) fun x => f0 x.1), (94, mkEntry [(.int .u32), (.int .i64)] (cTy .bool) fun x => f1 x.1 x.2.1)]
theorem tabE : tab = tabV vector_Right.F mask_Right.F := by kernel_rfl
theorem eqv (f0 : Vec → (Bool → Prop) → Prop) (f1 : Int → Int → (Bool → Prop) → Prop) (h : Hello) (K : Bool → Prop) : apure E (tabV f0 f1) (fun _ => none) 4 46 [enc (.st 4) h] (ansK ((cTy .bool)) K) =
  (f0 h.vector fun r1 => (bif r1 then (f1 h.mask h.blocks fun r2 => (bif r2 then (bif (!h.pri) then (K true) else (bif (!h.was) then (K (!h.inc)) else (K false))) else (K false))) else (K false))) := by kernel_rfl
theorem eq (x : Dens [(.st 4)]) (K : Bool → Prop) : apure E tab (fun _ => none) 4 46 (encA [(.st 4)] x) (ansK ((cTy .bool)) K) = F x.1 K := eqv vector_Right.F mask_Right.F x.1 K
theorem loops : LoopsOk E tab (fun _ => none) 4 46 := loops_none _ _ _ _
theorem det (h : Hello) : Det (F h) := by
  unfold F
  repeat' first | with_reducible exact det_ret _ | with_reducible exact det_false | with_reducible refine det_cond _ ?_ ?_ | with_reducible refine det_oget _ (fun _ => ?_) | with_reducible exact vector_Right.det _ | with_reducible refine det_bind (vector_Right.det _) (fun _ => ?_) | with_reducible exact mask_Right.det _ _ | with_reducible refine det_bind (mask_Right.det _ _) (fun _ => ?_)
theorem edet (args : List AV) : Det (en args) := mkEntry_det (ts := [(.st 4)]) (cod := (cTy .bool)) (F := fun x => F x.1) (fun x => det x.1) args
theorem ground : Ground E tab := ⟨num, mixed, (tab_cons vector_Right.sound (tab_cons mask_Right.sound (tab_nil _))), clone, (dtab_cons vector_Right.edet (dtab_cons mask_Right.edet dtab_nil))⟩
theorem has : ((E.P.funcs[46]?).bind (·.body)).isSome = true := by kernel_rfl
theorem sound : EntrySound E.P 46 en := mkSound (ts := [(.st 4)]) (cod := (cTy .bool)) (F := fun x => F x.1) ground loops has eq
end hello_Right
namespace hello_Encode
noncomputable def tab : Tab := [(46, hello_Right.en), (40, num_Flags.en), (36, num_Put64.en), (34, num_Put32.en)]
def F (h : Hello) (K : (Str × Int) → Prop) : Prop :=
  (hello_Right.F h fun r1 => (bif (!r1) then (K (([] : Str), 1)) else (num_Flags.F ([h.inc, h.was, h.dis, h.pri] : List Bool) fun r2 => (num_Put64.F h.vector.current fun r3 => (bif (fits ((bytesOfInts ([(IntKind.u8.wrap h.blocks), r2] : List Int)).length + r3.length)) then (num_Put64.F h.vector.bitmap fun r4 => (bif (fits (((bytesOfInts ([(IntKind.u8.wrap h.blocks), r2] : List Int)) ++ r3).length + r4.length)) then (num_Put64.F h.vector.old0 fun r5 => (bif (fits ((((bytesOfInts ([(IntKind.u8.wrap h.blocks), r2] : List Int)) ++ r3) ++ r4).length + r5.length)) then (num_Put64.F h.vector.old1 fun r6 => (bif (fits (((((bytesOfInts ([(IntKind.u8.wrap h.blocks), r2] : List Int)) ++ r3) ++ r4) ++ r5).length + r6.length)) then (num_Put32.F h.mask fun r7 => (bif (fits ((((((bytesOfInts ([(IntKind.u8.wrap h.blocks), r2] : List Int)) ++ r3) ++ r4) ++ r5) ++ r6).length + r7.length)) then (K (((((((bytesOfInts ([(IntKind.u8.wrap h.blocks), r2] : List Int)) ++ r3) ++ r4) ++ r5) ++ r6) ++ r7), 0)) else False)) else False)) else False)) else False)) else False)))))
noncomputable def en : Entry := mkEntry [(.st 4)] (cTwo .str (.int .i64)) fun x => F x.1
noncomputable def tabV (f0 : Hello → (Bool → Prop) → Prop) (f1 : (List Bool) → (Int → Prop) → Prop) (f2 : Int → (Str → Prop) → Prop) (f3 : Int → (Str → Prop) → Prop) : Tab := [(46, mkEntry [(.st 4)] (cTy .bool) fun x => f0 x.1), (40, mkEntry [(.slice .bool)] (cTy (.int .u8)) fun x => f1 x.1), (36, mkEntry [(.int .u64)] (cTy .str) fun x => f2 x.1), (34, mkEntry [(.int .u32)] (cTy .str) fun x => f3 x.1)]
theorem tabE : tab = tabV hello_Right.F num_Flags.F num_Put64.F num_Put32.F := by kernel_rfl
theorem eqv (f0 : Hello → (Bool → Prop) → Prop) (f1 : (List Bool) → (Int → Prop) → Prop) (f2 : Int → (Str → Prop) → Prop) (f3 : Int → (Str → Prop) → Prop) (h : Hello) (K : (Str × Int) → Prop) : apure E (tabV f0 f1 f2 f3) (fun _ => none) 4 48 [enc (.st 4) h] (ansK ((cTwo .str (.int .i64))) K) =
  (f0 h fun r1 => (bif (!r1) then (K (([] : Str), 1)) else (f1 ([h.inc, h.was, h.dis, h.pri] : List Bool) fun r2 => (f2 h.vector.current fun r3 => (bif (fits ((bytesOfInts ([(IntKind.u8.wrap h.blocks), r2] : List Int)).length + r3.length)) then (f2 h.vector.bitmap fun r4 => (bif (fits (((bytesOfInts ([(IntKind.u8.wrap h.blocks), r2] : List Int)) ++ r3).length + r4.length)) then (f2 h.vector.old0 fun r5 => (bif (fits ((((bytesOfInts ([(IntKind.u8.wrap h.blocks), r2] : List Int)) ++ r3) ++ r4).length + r5.length)) then (f2 h.vector.old1 fun r6 => (bif (fits (((((bytesOfInts ([(IntKind.u8.wrap h.blocks), r2] : List Int)) ++ r3) ++ r4) ++ r5).length + r6.length)) then (f3 h.mask fun r7 => (bif (fits ((((((bytesOfInts ([(IntKind.u8.wrap h.blocks), r2] : List Int)) ++ r3) ++ r4) ++ r5) ++ r6).length + r7.length)) then (K (((((((bytesOfInts ([(IntKind.u8.wrap h.blocks), r2] : List Int)) ++ r3) ++ r4) ++ r5) ++ r6) ++ r7), 0)) else False)) else False)) else False)) else False)) else False))))) := by kernel_rfl
theorem eq (x : Dens [(.st 4)]) (K : (Str × Int) → Prop) : apure E tab (fun _ => none) 4 48 (encA [(.st 4)] x) (ansK ((cTwo .str (.int .i64))) K) = F x.1 K := eqv hello_Right.F num_Flags.F num_Put64.F num_Put32.F x.1 K
theorem loops : LoopsOk E tab (fun _ => none) 4 48 := loops_none _ _ _ _
theorem det (h : Hello) : Det (F h) := by
  unfold F
  repeat' first | with_reducible exact det_ret _ | with_reducible exact det_false | with_reducible refine det_cond _ ?_ ?_ | with_reducible refine det_oget _ (fun _ => ?_) | with_reducible exact hello_Right.det _ | with_reducible refine det_bind (hello_Right.det _) (fun _ => ?_) | with_reducible exact num_Flags.det _ | with_reducible refine det_bind (num_Flags.det _) (fun _ => ?_) | with_reducible exact num_Put64.det _ | with_reducible refine det_bind (num_Put64.det _) (fun _ => ?_) | with_reducible exact num_Put32.det _ | with_reducible refine det_bind (num_Put32.det _) (fun _ => ?_)
theorem edet (args : List AV) : Det (en args) := mkEntry_det (ts := [(.st 4)]) (cod := (cTwo .str (.int .i64))) (F := fun x => F x.1) (fun x => det x.1) args
theorem ground : Ground E tab := ⟨num, mixed, (tab_cons hello_Right.sound (tab_cons num_Flags.sound (tab_cons num_Put64.sound (tab_cons num_Put32.sound (tab_nil _))))), clone, (dtab_cons hello_Right.edet (dtab_cons num_Flags.edet (dtab_cons num_Put64.edet (dtab_cons num_Put32.edet dtab_nil))))⟩
theorem has : ((E.P.funcs[48]?).bind (·.body)).isSome = true := by kernel_rfl
theorem sound : EntrySound E.P 48 en := mkSound (ts := [(.st 4)]) (cod := (cTwo .str (.int .i64))) (F := fun x => F x.1) ground loops has eq
end hello_Encode
namespace hello_Decode
noncomputable def tab : Tab := [(38, num_Unflag.en), (32, num_Get64.en), (30, num_Get32.en), (46, hello_Right.en)]
def F (b_0 : Str) (K : (Hello × Int) → Prop) : Prop :=
  (bif ((b_0.length : Int) != 38) then (K ((⟨0, (⟨0, 0, 0, 0⟩ : Vec), false, false, false, false, 0⟩ : Hello), 2)) else (oget (getI b_0 1) fun v1 => (num_Unflag.F (v1.toNat : Int) 4 fun r2 => (bif (!r2.2) then (K ((⟨0, (⟨0, 0, 0, 0⟩ : Vec), false, false, false, false, 0⟩ : Hello), 2)) else (oget (getI b_0 0) fun v3 => (oget (getI r2.1 0) fun v4 => (oget (getI r2.1 1) fun v5 => (oget (getI r2.1 2) fun v6 => (oget (getI r2.1 3) fun v7 => (bif (decide (0 ≤ 2) && decide (2 ≤ 10) && decide (10 ≤ (b_0.length : Int))) then (num_Get64.F (sub b_0 (Int.toNat 2) (Int.toNat 10)) fun r8 => (bif (decide (0 ≤ 10) && decide (10 ≤ 18) && decide (18 ≤ (b_0.length : Int))) then (num_Get64.F (sub b_0 (Int.toNat 10) (Int.toNat 18)) fun r9 => (bif (decide (0 ≤ 18) && decide (18 ≤ 26) && decide (26 ≤ (b_0.length : Int))) then (num_Get64.F (sub b_0 (Int.toNat 18) (Int.toNat 26)) fun r10 => (bif (decide (0 ≤ 26) && decide (26 ≤ 34) && decide (34 ≤ (b_0.length : Int))) then (num_Get64.F (sub b_0 (Int.toNat 26) (Int.toNat 34)) fun r11 => (bif (decide (0 ≤ 34) && decide (34 ≤ (b_0.length : Int))) then (num_Get32.F (sub b_0 (Int.toNat 34) b_0.length) fun r12 => (hello_Right.F (⟨(IntKind.i64.wrap (v3.toNat : Int)), (⟨r8.1, r9.1, r10.1, r11.1⟩ : Vec), v4, v5, v6, v7, r12.1⟩ : Hello) fun r13 => (bif (!r13) then (K ((⟨0, (⟨0, 0, 0, 0⟩ : Vec), false, false, false, false, 0⟩ : Hello), 2)) else (K ((⟨(IntKind.i64.wrap (v3.toNat : Int)), (⟨r8.1, r9.1, r10.1, r11.1⟩ : Vec), v4, v5, v6, v7, r12.1⟩ : Hello), 0))))) else False)) else False)) else False)) else False)) else False))))))))))
noncomputable def en : Entry := mkEntry [.str] (cTwo (.st 4) (.int .i64)) fun x => F x.1
noncomputable def tabV (f0 : Int → Int → (((List Bool) × Bool) → Prop) → Prop) (f1 : Str → ((Int × Bool) → Prop) → Prop) (f2 : Str → ((Int × Bool) → Prop) → Prop) (f3 : Hello → (Bool → Prop) → Prop) : Tab := [(38, mkEntry [(.int .u8), (.int .i64)] (cTwo (.slice .bool) .bool) fun x => f0 x.1 x.2.1), (32, mkEntry [.str] (cTwo (.int .u64) .bool) fun x => f1 x.1), (30, mkEntry [.str] (cTwo (.int .u32) .bool) fun x => f2 x.1), (46, mkEntry [(.st 4)] (cTy .bool) fun x => f3 x.1)]
theorem tabE : tab = tabV num_Unflag.F num_Get64.F num_Get32.F hello_Right.F := by kernel_rfl
theorem eqv (f0 : Int → Int → (((List Bool) × Bool) → Prop) → Prop) (f1 : Str → ((Int × Bool) → Prop) → Prop) (f2 : Str → ((Int × Bool) → Prop) → Prop) (f3 : Hello → (Bool → Prop) → Prop) (b_0 : Str) (K : (Hello × Int) → Prop) : apure E (tabV f0 f1 f2 f3) (fun _ => none) 4 50 [enc .str b_0] (ansK ((cTwo (.st 4) (.int .i64))) K) =
  (bif ((b_0.length : Int) != 38) then (K ((⟨0, (⟨0, 0, 0, 0⟩ : Vec), false, false, false, false, 0⟩ : Hello), 2)) else (oget (getI b_0 1) fun v1 => (f0 (v1.toNat : Int) 4 fun r2 => (bif (!r2.2) then (K ((⟨0, (⟨0, 0, 0, 0⟩ : Vec), false, false, false, false, 0⟩ : Hello), 2)) else (oget (getI b_0 0) fun v3 => (oget (getI r2.1 0) fun v4 => (oget (getI r2.1 1) fun v5 => (oget (getI r2.1 2) fun v6 => (oget (getI r2.1 3) fun v7 => (bif (decide (0 ≤ 2) && decide (2 ≤ 10) && decide (10 ≤ (b_0.length : Int))) then (f1 (sub b_0 (Int.toNat 2) (Int.toNat 10)) fun r8 => (bif (decide (0 ≤ 10) && decide (10 ≤ 18) && decide (18 ≤ (b_0.length : Int))) then (f1 (sub b_0 (Int.toNat 10) (Int.toNat 18)) fun r9 => (bif (decide (0 ≤ 18) && decide (18 ≤ 26) && decide (26 ≤ (b_0.length : Int))) then (f1 (sub b_0 (Int.toNat 18) (Int.toNat 26)) fun r10 => (bif (decide (0 ≤ 26) && decide (26 ≤ 34) && decide (34 ≤ (b_0.length : Int))) then (f1 (sub b_0 (Int.toNat 26) (Int.toNat 34)) fun r11 => (bif (decide (0 ≤ 34) && decide (34 ≤ (b_0.length : Int))) then (f2 (sub b_0 (Int.toNat 34) b_0.length) fun r12 => (f3 (⟨(IntKind.i64.wrap (v3.toNat : Int)), (⟨r8.1, r9.1, r10.1, r11.1⟩ : Vec), v4, v5, v6, v7, r12.1⟩ : Hello) fun r13 => (bif (!r13) then (K ((⟨0, (⟨0, 0, 0, 0⟩ : Vec), false, false, false, false, 0⟩ : Hello), 2)) else (K ((⟨(IntKind.i64.wrap (v3.toNat : Int)), (⟨r8.1, r9.1, r10.1, r11.1⟩ : Vec), v4, v5, v6, v7, r12.1⟩ : Hello), 0))))) else False)) else False)) else False)) else False)) else False)))))))))) := by kernel_rfl
theorem eq (x : Dens [.str]) (K : (Hello × Int) → Prop) : apure E tab (fun _ => none) 4 50 (encA [.str] x) (ansK ((cTwo (.st 4) (.int .i64))) K) = F x.1 K := eqv num_Unflag.F num_Get64.F num_Get32.F hello_Right.F x.1 K
theorem loops : LoopsOk E tab (fun _ => none) 4 50 := loops_none _ _ _ _
theorem det (b_0 : Str) : Det (F b_0) := by
  unfold F
  repeat' first | with_reducible exact det_ret _ | with_reducible exact det_false | with_reducible refine det_cond _ ?_ ?_ | with_reducible refine det_oget _ (fun _ => ?_) | with_reducible exact num_Unflag.det _ _ | with_reducible refine det_bind (num_Unflag.det _ _) (fun _ => ?_) | with_reducible exact num_Get64.det _ | with_reducible refine det_bind (num_Get64.det _) (fun _ => ?_) | with_reducible exact num_Get32.det _ | with_reducible refine det_bind (num_Get32.det _) (fun _ => ?_) | with_reducible exact hello_Right.det _ | with_reducible refine det_bind (hello_Right.det _) (fun _ => ?_)
theorem edet (args : List AV) : Det (en args) := mkEntry_det (ts := [.str]) (cod := (cTwo (.st 4) (.int .i64))) (F := fun x => F x.1) (fun x => det x.1) args
theorem ground : Ground E tab := ⟨num, mixed, (tab_cons num_Unflag.sound (tab_cons num_Get64.sound (tab_cons num_Get32.sound (tab_cons hello_Right.sound (tab_nil _))))), clone, (dtab_cons num_Unflag.edet (dtab_cons num_Get64.edet (dtab_cons num_Get32.edet (dtab_cons hello_Right.edet dtab_nil))))⟩
theorem has : ((E.P.funcs[50]?).bind (·.body)).isSome = true := by kernel_rfl
theorem sound : EntrySound E.P 50 en := mkSound (ts := [.str]) (cod := (cTwo (.st 4) (.int .i64))) (F := fun x => F x.1) ground loops has eq
end hello_Decode
namespace law10_alive
noncomputable def tab : Tab := [(44, hello_Of.en), (48, hello_Encode.en), (50, hello_Decode.en), (46, hello_Right.en)]
def F (K : Bool → Prop) : Prop :=
  (hello_Of.F (⟨3, (⟨7, 0, 0, 0⟩ : Vec), false, true, false⟩ : Super) false 5 fun r1 => (hello_Encode.F r1 fun r2 => (hello_Decode.F r2.1 fun r3 => (hello_Encode.F (⟨0, (⟨0, 0, 0, 0⟩ : Vec), false, false, false, false, 0⟩ : Hello) fun r4 => (hello_Decode.F ([97, 98, 99] : Str) fun r5 => (bif ((r1.blocks == 3) && (((r1.vector.current == 7) && ((r1.vector.bitmap == 0) && (((r1.vector.old0 == 0) && ((r1.vector.old1 == 0) && true)) && true))) && ((r1.inc == false) && ((r1.was == true) && ((r1.dis == false) && ((r1.pri == false) && ((r1.mask == 5) && true))))))) then (bif (r2.2 == 0) then (bif (r3.2 == 0) then (bif (r4.2 == 1) then (bif (r5.2 == 2) then (bif ((r2.1.length : Int) == 38) then (bif ((r3.1.blocks == r1.blocks) && (((r3.1.vector.current == r1.vector.current) && ((r3.1.vector.bitmap == r1.vector.bitmap) && (((r3.1.vector.old0 == r1.vector.old0) && ((r3.1.vector.old1 == r1.vector.old1) && true)) && true))) && ((r3.1.inc == r1.inc) && ((r3.1.was == r1.was) && ((r3.1.dis == r1.dis) && ((r3.1.pri == r1.pri) && ((r3.1.mask == r1.mask) && true))))))) then (bif (decide (0 ≤ 2) && decide (2 ≤ (r2.1.length : Int))) then (bif ((sub r2.1 0 (Int.toNat 2)) == ([3, 2] : Str)) then (bif (decide (0 ≤ 34) && decide (34 ≤ (r2.1.length : Int))) then (bif ((sub r2.1 (Int.toNat 34) r2.1.length) == ([0, 0, 0, 5] : Str)) then (hello_Right.F r1 fun r6 => (bif r6 then (hello_Right.F (⟨3, (⟨7, 0, 0, 0⟩ : Vec), false, false, false, false, 8⟩ : Hello) fun r7 => (K (!r7))) else (K false))) else (K false)) else False) else (K false)) else False) else (K false)) else (K false)) else (K false)) else (K false)) else (K false)) else (K false)) else (K false)))))))
noncomputable def en : Entry := mkEntry [] (cTy .bool) fun x => F 
noncomputable def tabV (f0 : Super → Bool → Int → (Hello → Prop) → Prop) (f1 : Hello → ((Str × Int) → Prop) → Prop) (f2 : Str → ((Hello × Int) → Prop) → Prop) (f3 : Hello → (Bool → Prop) → Prop) : Tab := [(44, mkEntry [(.st 3), .bool, (.int .u32)] (cTy (.st 4)) fun x => f0 x.1 x.2.1 x.2.2.1), (48, mkEntry [(.st 4)] (cTwo .str (.int .i64)) fun x => f1 x.1), (50, mkEntry [.str] (cTwo (.st 4) (.int .i64)) fun x => f2 x.1), (46, mkEntry [(.st 4)] (cTy .bool) fun x => f3 x.1)]
theorem tabE : tab = tabV hello_Of.F hello_Encode.F hello_Decode.F hello_Right.F := by kernel_rfl
theorem eqv (f0 : Super → Bool → Int → (Hello → Prop) → Prop) (f1 : Hello → ((Str × Int) → Prop) → Prop) (f2 : Str → ((Hello × Int) → Prop) → Prop) (f3 : Hello → (Bool → Prop) → Prop) (K : Bool → Prop) : apure E (tabV f0 f1 f2 f3) (fun _ => none) 4 43 [] (ansK ((cTy .bool)) K) =
  (f0 (⟨3, (⟨7, 0, 0, 0⟩ : Vec), false, true, false⟩ : Super) false 5 fun r1 => (f1 r1 fun r2 => (f2 r2.1 fun r3 => (f1 (⟨0, (⟨0, 0, 0, 0⟩ : Vec), false, false, false, false, 0⟩ : Hello) fun r4 => (f2 ([97, 98, 99] : Str) fun r5 => (bif ((r1.blocks == 3) && (((r1.vector.current == 7) && ((r1.vector.bitmap == 0) && (((r1.vector.old0 == 0) && ((r1.vector.old1 == 0) && true)) && true))) && ((r1.inc == false) && ((r1.was == true) && ((r1.dis == false) && ((r1.pri == false) && ((r1.mask == 5) && true))))))) then (bif (r2.2 == 0) then (bif (r3.2 == 0) then (bif (r4.2 == 1) then (bif (r5.2 == 2) then (bif ((r2.1.length : Int) == 38) then (bif ((r3.1.blocks == r1.blocks) && (((r3.1.vector.current == r1.vector.current) && ((r3.1.vector.bitmap == r1.vector.bitmap) && (((r3.1.vector.old0 == r1.vector.old0) && ((r3.1.vector.old1 == r1.vector.old1) && true)) && true))) && ((r3.1.inc == r1.inc) && ((r3.1.was == r1.was) && ((r3.1.dis == r1.dis) && ((r3.1.pri == r1.pri) && ((r3.1.mask == r1.mask) && true))))))) then (bif (decide (0 ≤ 2) && decide (2 ≤ (r2.1.length : Int))) then (bif ((sub r2.1 0 (Int.toNat 2)) == ([3, 2] : Str)) then (bif (decide (0 ≤ 34) && decide (34 ≤ (r2.1.length : Int))) then (bif ((sub r2.1 (Int.toNat 34) r2.1.length) == ([0, 0, 0, 5] : Str)) then (f3 r1 fun r6 => (bif r6 then (f3 (⟨3, (⟨7, 0, 0, 0⟩ : Vec), false, false, false, false, 8⟩ : Hello) fun r7 => (K (!r7))) else (K false))) else (K false)) else False) else (K false)) else False) else (K false)) else (K false)) else (K false)) else (K false)) else (K false)) else (K false)) else (K false))))))) := by kernel_rfl
theorem eq (x : Dens []) (K : Bool → Prop) : apure E tab (fun _ => none) 4 43 (encA [] x) (ansK ((cTy .bool)) K) = F  K := eqv hello_Of.F hello_Encode.F hello_Decode.F hello_Right.F  K
theorem loops : LoopsOk E tab (fun _ => none) 4 43 := loops_none _ _ _ _
theorem det : Det (F) := by
  unfold F
  repeat' first | with_reducible exact det_ret _ | with_reducible exact det_false | with_reducible refine det_cond _ ?_ ?_ | with_reducible refine det_oget _ (fun _ => ?_) | with_reducible exact hello_Of.det _ _ _ | with_reducible refine det_bind (hello_Of.det _ _ _) (fun _ => ?_) | with_reducible exact hello_Encode.det _ | with_reducible refine det_bind (hello_Encode.det _) (fun _ => ?_) | with_reducible exact hello_Decode.det _ | with_reducible refine det_bind (hello_Decode.det _) (fun _ => ?_) | with_reducible exact hello_Right.det _ | with_reducible refine det_bind (hello_Right.det _) (fun _ => ?_)
theorem edet (args : List AV) : Det (en args) := mkEntry_det (ts := []) (cod := (cTy .bool)) (F := fun _ => F) (fun _ => det ) args
theorem ground : Ground E tab := ⟨num, mixed, (tab_cons hello_Of.sound (tab_cons hello_Encode.sound (tab_cons hello_Decode.sound (tab_cons hello_Right.sound (tab_nil _))))), clone, (dtab_cons hello_Of.edet (dtab_cons hello_Encode.edet (dtab_cons hello_Decode.edet (dtab_cons hello_Right.edet dtab_nil))))⟩
theorem has : ((E.P.funcs[43]?).bind (·.body)).isSome = true := by kernel_rfl
theorem sound : EntrySound E.P 43 en := mkSound (ts := []) (cod := (cTy .bool)) (F := fun _ => F) ground loops has eq
end law10_alive
namespace ref10_Of
noncomputable def tab : Tab := []
def F (s : Super) (primary : Bool) (m : Int) (K : Hello → Prop) : Prop :=
  (bif s.pri then (K (⟨s.blocks, s.vector, s.inc, (!primary), s.dis, primary, m⟩ : Hello)) else (K (⟨s.blocks, s.vector, s.inc, false, s.dis, primary, m⟩ : Hello)))
noncomputable def en : Entry := mkEntry [(.st 3), .bool, (.int .u32)] (cTy (.st 4)) fun x => F x.1 x.2.1 x.2.2.1
theorem eq (x : Dens [(.st 3), .bool, (.int .u32)]) (K : Hello → Prop) : apure E tab (fun _ => none) 4 45 (encA [(.st 3), .bool, (.int .u32)] x) (ansK ((cTy (.st 4))) K) = F x.1 x.2.1 x.2.2.1 K := by kernel_rfl
theorem loops : LoopsOk E tab (fun _ => none) 4 45 := loops_none _ _ _ _
theorem det (s : Super) (primary : Bool) (m : Int) : Det (F s primary m) := by
  unfold F
  repeat' first | with_reducible exact det_ret _ | with_reducible exact det_false | with_reducible refine det_cond _ ?_ ?_ | with_reducible refine det_oget _ (fun _ => ?_)
theorem edet (args : List AV) : Det (en args) := mkEntry_det (ts := [(.st 3), .bool, (.int .u32)]) (cod := (cTy (.st 4))) (F := fun x => F x.1 x.2.1 x.2.2.1) (fun x => det x.1 x.2.1 x.2.2.1) args
theorem ground : Ground E tab := ⟨num, mixed, (tab_nil _), clone, dtab_nil⟩
theorem has : ((E.P.funcs[45]?).bind (·.body)).isSome = true := by kernel_rfl
theorem sound : EntrySound E.P 45 en := mkSound (ts := [(.st 3), .bool, (.int .u32)]) (cod := (cTy (.st 4))) (F := fun x => F x.1 x.2.1 x.2.2.1) ground loops has eq
end ref10_Of
namespace ref03_pow
noncomputable def tab : Tab := []
structure R where
def cR (_ : R) : St := { fr := fun _ => .top, hs := hs0 }
def kR : Keep := { ks := [], bs := [], hn := 0 }
structure L0 where
  n0 : Int
  p : Int
  i : Int
def c0 (x : L0) : St := { fr := lookL .top [(0, (.int .i64 x.n0)), (3, (.int .u32 x.p)), (4, (.int .i64 x.i))], hs := { hp := lookL .dead [], hn := 0 } }
def kp0 : Keep := { ks := [(0, none), (3, none), (4, none)], bs := [], hn := 0 }
def p0 (st : St) (K : L0 → Prop) : Prop := gInt .i64 (st.fr 0) fun a1 => gInt .u32 (st.fr 3) fun a2 => gInt .i64 (st.fr 4) fun a3 => K ⟨a1, a2, a3⟩
theorem p0_ok (st : St) (K : L0 → Prop) (h : p0 st K) : ∃ x, keepSt kp0 st = c0 x ∧ K x := by
  obtain ⟨a1, h0, h⟩ := gInt_elim h
  obtain ⟨a2, h1, h⟩ := gInt_elim h
  obtain ⟨a3, h2, h⟩ := gInt_elim h
  refine ⟨_, ?_, h⟩
  simp only [keepSt, kp0, List.map, h0, h1, h2]
  rfl
def b0 (rec kx : L0 → Prop) (kr : R → Prop) (x : L0) : Prop :=
  (bif (decide (x.i < x.n0)) then (rec ⟨x.n0, (IntKind.u32.wrap (2 * x.p)), (IntKind.i64.wrap (x.i + 1))⟩) else (kx ⟨x.n0, x.p, x.i⟩))
def l0 : LSpec := mkLoop 0 kp0 kR p0 c0 cR b0
def lt : Nat → Option LSpec
  | 0 => some l0
  | _ => none
def F (n_0 : Int) (K : Int → Prop) : Prop :=
  (∃ n, loopB b0 n (fun x1 => (K x1.p)) (fun _ => False) ⟨n_0, 1, 0⟩)
noncomputable def en : Entry := mkEntry [(.int .i64)] (cTy (.int .u32)) fun x => F x.1
theorem eq (x : Dens [(.int .i64)]) (K : Int → Prop) : apure E tab lt 4 138 (encA [(.int .i64)] x) (ansK ((cTy (.int .u32))) K) = F x.1 K := by kernel_rfl
theorem l0_ok : LSound E tab (afun E tab 4) 13 lt 0 ((loopsIn E.P 138).getD 0 (0, .skip)).2 l0 := mkLoop_sound (by decide) (by decide) p0_ok (fun R Kx Kr x => by kernel_rfl)
theorem loops : LoopsOk E tab lt 4 138 := loops_of (nt := 13) (ids := [0]) (by kernel_rfl) (by kernel_rfl) (by
  intro k i hk l hl
  match k, hk with
  | 0, hk => cases hk; cases hl; exact l0_ok
  | _ + 1, hk => exact absurd hk (by simp))
theorem det (n_0 : Int) : Det (F n_0) := by
  unfold F
  repeat' first | with_reducible exact det_ret _ | with_reducible exact det_false | with_reducible refine det_cond _ ?_ ?_ | with_reducible refine det_oget _ (fun _ => ?_) | with_reducible refine det_loop (fun _ => ?_) (fun _ => ?_) (fun _ => ?_) _ | unfold b0
theorem edet (args : List AV) : Det (en args) := mkEntry_det (ts := [(.int .i64)]) (cod := (cTy (.int .u32))) (F := fun x => F x.1) (fun x => det x.1) args
theorem ground : Ground E tab := ⟨num, mixed, (tab_nil _), clone, dtab_nil⟩
theorem has : ((E.P.funcs[138]?).bind (·.body)).isSome = true := by kernel_rfl
theorem sound : EntrySound E.P 138 en := mkSound (ts := [(.int .i64)]) (cod := (cTy (.int .u32))) (F := fun x => F x.1) ground loops has eq
end ref03_pow
namespace ref03_Has
noncomputable def tab : Tab := [(138, ref03_pow.en)]
def F (m : Int) (i : Int) (K : Bool → Prop) : Prop :=
  (bif (decide (i ≥ 0)) then (bif (decide (i < 32)) then (ref03_pow.F i fun r1 => (bif (r1 == 0) then False else (bif (2 == 0) then False else (K (((IntKind.u32.wrap (m.tdiv r1)).tmod 2) == 1))))) else (K false)) else (K false))
noncomputable def en : Entry := mkEntry [(.int .u32), (.int .i64)] (cTy .bool) fun x => F x.1 x.2.1
noncomputable def tabV (f0 : Int → (Int → Prop) → Prop) : Tab := [(138, mkEntry [(.int .i64)] (cTy (.int .u32)) fun x => f0 x.1)]
theorem tabE : tab = tabV ref03_pow.F := by kernel_rfl
theorem eqv (f0 : Int → (Int → Prop) → Prop) (m : Int) (i : Int) (K : Bool → Prop) : apure E (tabV f0) (fun _ => none) 4 121 [enc (.int .u32) m, enc (.int .i64) i] (ansK ((cTy .bool)) K) =
  (bif (decide (i ≥ 0)) then (bif (decide (i < 32)) then (f0 i fun r1 => (bif (r1 == 0) then False else (bif (2 == 0) then False else (K (((IntKind.u32.wrap (m.tdiv r1)).tmod 2) == 1))))) else (K false)) else (K false)) := by kernel_rfl
theorem eq (x : Dens [(.int .u32), (.int .i64)]) (K : Bool → Prop) : apure E tab (fun _ => none) 4 121 (encA [(.int .u32), (.int .i64)] x) (ansK ((cTy .bool)) K) = F x.1 x.2.1 K := eqv ref03_pow.F x.1 x.2.1 K
theorem loops : LoopsOk E tab (fun _ => none) 4 121 := loops_none _ _ _ _
theorem det (m : Int) (i : Int) : Det (F m i) := by
  unfold F
  repeat' first | with_reducible exact det_ret _ | with_reducible exact det_false | with_reducible refine det_cond _ ?_ ?_ | with_reducible refine det_oget _ (fun _ => ?_) | with_reducible exact ref03_pow.det _ | with_reducible refine det_bind (ref03_pow.det _) (fun _ => ?_)
theorem edet (args : List AV) : Det (en args) := mkEntry_det (ts := [(.int .u32), (.int .i64)]) (cod := (cTy .bool)) (F := fun x => F x.1 x.2.1) (fun x => det x.1 x.2.1) args
theorem ground : Ground E tab := ⟨num, mixed, (tab_cons ref03_pow.sound (tab_nil _)), clone, (dtab_cons ref03_pow.edet dtab_nil)⟩
theorem has : ((E.P.funcs[121]?).bind (·.body)).isSome = true := by kernel_rfl
theorem sound : EntrySound E.P 121 en := mkSound (ts := [(.int .u32), (.int .i64)]) (cod := (cTy .bool)) (F := fun x => F x.1 x.2.1) ground loops has eq
end ref03_Has
namespace ref03_Right
noncomputable def tab : Tab := [(121, ref03_Has.en)]
structure R where
  t4 : Bool
def cR (x : R) : St := { fr := lookL .top [(4, (.bool x.t4))], hs := { hp := lookL .dead [], hn := 0 } }
def kR : Keep := { ks := [(4, none)], bs := [], hn := 0 }
structure L0 where
  m : Int
  i : Int
def c0 (x : L0) : St := { fr := lookL .top [(0, (.int .u32 x.m)), (5, (.int .i64 x.i))], hs := { hp := lookL .dead [], hn := 0 } }
def kp0 : Keep := { ks := [(0, none), (5, none)], bs := [], hn := 0 }
def p0 (st : St) (K : L0 → Prop) : Prop := gInt .u32 (st.fr 0) fun a1 => gInt .i64 (st.fr 5) fun a2 => K ⟨a1, a2⟩
theorem p0_ok (st : St) (K : L0 → Prop) (h : p0 st K) : ∃ x, keepSt kp0 st = c0 x ∧ K x := by
  obtain ⟨a1, h0, h⟩ := gInt_elim h
  obtain ⟨a2, h1, h⟩ := gInt_elim h
  refine ⟨_, ?_, h⟩
  simp only [keepSt, kp0, List.map, h0, h1]
  rfl
def b0 (rec kx : L0 → Prop) (kr : R → Prop) (x : L0) : Prop :=
  (bif (decide (x.i < 32)) then (ref03_Has.F x.m x.i fun r1 => (bif r1 then (kr ⟨false⟩) else (rec ⟨x.m, (IntKind.i64.wrap (x.i + 1))⟩))) else (kx ⟨x.m, x.i⟩))
def l0 : LSpec := mkLoop 0 kp0 kR p0 c0 cR b0
def lt : Nat → Option LSpec
  | 0 => some l0
  | _ => none
def F (m : Int) (blocks : Int) (K : Bool → Prop) : Prop :=
  (bif (decide (blocks < 1)) then (K false) else (bif (decide (blocks > 32)) then (K false) else (∃ n, loopB b0 n (fun x2 => (K true)) (fun r3 => (K r3.t4)) ⟨m, blocks⟩)))
noncomputable def en : Entry := mkEntry [(.int .u32), (.int .i64)] (cTy .bool) fun x => F x.1 x.2.1
noncomputable def tabV (f0 : Int → Int → (Bool → Prop) → Prop) : Tab := [(121, mkEntry [(.int .u32), (.int .i64)] (cTy .bool) fun x => f0 x.1 x.2.1)]
theorem tabE : tab = tabV ref03_Has.F := by kernel_rfl
def b0V (f0 : Int → Int → (Bool → Prop) → Prop) (rec kx : L0 → Prop) (kr : R → Prop) (x : L0) : Prop :=
  (bif (decide (x.i < 32)) then (f0 x.m x.i fun r1 => (bif r1 then (kr ⟨false⟩) else (rec ⟨x.m, (IntKind.i64.wrap (x.i + 1))⟩))) else (kx ⟨x.m, x.i⟩))
def ltV (f0 : Int → Int → (Bool → Prop) → Prop) : Nat → Option LSpec
  | 0 => some (mkLoop 0 kp0 kR p0 c0 cR (b0V f0))
  | _ => none
theorem ltE : lt = ltV ref03_Has.F := by kernel_rfl
theorem eqv (f0 : Int → Int → (Bool → Prop) → Prop) (m : Int) (blocks : Int) (K : Bool → Prop) : apure E (tabV f0) (ltV f0) 4 95 [enc (.int .u32) m, enc (.int .i64) blocks] (ansK ((cTy .bool)) K) =
  (bif (decide (blocks < 1)) then (K false) else (bif (decide (blocks > 32)) then (K false) else (∃ n, loopB (b0V f0) n (fun x2 => (K true)) (fun r3 => (K r3.t4)) ⟨m, blocks⟩))) := by kernel_rfl
theorem eq (x : Dens [(.int .u32), (.int .i64)]) (K : Bool → Prop) : apure E tab lt 4 95 (encA [(.int .u32), (.int .i64)] x) (ansK ((cTy .bool)) K) = F x.1 x.2.1 K := by
  rw [tabE, ltE]
  exact eqv ref03_Has.F x.1 x.2.1 K
theorem l0v (f0 : Int → Int → (Bool → Prop) → Prop) (R : St → Prop) (Kx : Nat → St → Prop) (Kr : St → Prop) (x : L0) : acode E (tabV f0) (afun E (tabV f0) 4) 20 (ltV f0) ((loopsIn E.P 95).getD 0 (0, .skip)).2 0 (fun s => R (keepSt kp0 s)) (fun j s => Kx j (keepSt kp0 s)) (fun s => Kr (keepSt kR s)) (c0 x) =
    b0V f0 (fun x => R (c0 x)) (fun x => Kx 0 (c0 x)) (fun r => Kr (cR r)) x := by kernel_rfl
theorem l0_ok : LSound E tab (afun E tab 4) 20 lt 0 ((loopsIn E.P 95).getD 0 (0, .skip)).2 l0 := mkLoop_sound (by decide) (by decide) p0_ok (fun R Kx Kr x => by
  rw [tabE, ltE]
  exact l0v ref03_Has.F R Kx Kr x)
theorem loops : LoopsOk E tab lt 4 95 := loops_of (nt := 20) (ids := [0]) (by kernel_rfl) (by kernel_rfl) (by
  intro k i hk l hl
  match k, hk with
  | 0, hk => cases hk; cases hl; exact l0_ok
  | _ + 1, hk => exact absurd hk (by simp))
theorem det (m : Int) (blocks : Int) : Det (F m blocks) := by
  unfold F
  repeat' first | with_reducible exact det_ret _ | with_reducible exact det_false | with_reducible refine det_cond _ ?_ ?_ | with_reducible refine det_oget _ (fun _ => ?_) | with_reducible exact ref03_Has.det _ _ | with_reducible refine det_bind (ref03_Has.det _ _) (fun _ => ?_) | with_reducible refine det_loop (fun _ => ?_) (fun _ => ?_) (fun _ => ?_) _ | unfold b0
theorem edet (args : List AV) : Det (en args) := mkEntry_det (ts := [(.int .u32), (.int .i64)]) (cod := (cTy .bool)) (F := fun x => F x.1 x.2.1) (fun x => det x.1 x.2.1) args
theorem ground : Ground E tab := ⟨num, mixed, (tab_cons ref03_Has.sound (tab_nil _)), clone, (dtab_cons ref03_Has.edet dtab_nil)⟩
theorem has : ((E.P.funcs[95]?).bind (·.body)).isSome = true := by kernel_rfl
theorem sound : EntrySound E.P 95 en := mkSound (ts := [(.int .u32), (.int .i64)]) (cod := (cTy .bool)) (F := fun x => F x.1 x.2.1) ground loops has eq
end ref03_Right
namespace ref10_Right
noncomputable def tab : Tab := [(95, ref03_Right.en)]
def F (h : Hello) (K : Bool → Prop) : Prop :=
  (bif (decide (h.blocks ≥ 1)) then (bif (decide (h.blocks ≤ 32)) then (bif (h.vector.current != 0) then (ref03_Right.F h.mask h.blocks fun r1 => (bif r1 then (bif h.pri then (bif (!h.was) then (bif h.pri then (K (!h.inc)) else (K true)) else (K false)) else (bif h.pri then (K (!h.inc)) else (K true))) else (K false))) else (K false)) else (K false)) else (K false))
noncomputable def en : Entry := mkEntry [(.st 4)] (cTy .bool) fun x => F x.1
noncomputable def tabV (f0 : Int → Int → (Bool → Prop) → Prop) : Tab := [(95, mkEntry [(.int .u32), (.int .i64)] (cTy .bool) fun x => f0 x.1 x.2.1)]
theorem tabE : tab = tabV ref03_Right.F := by kernel_rfl
theorem eqv (f0 : Int → Int → (Bool → Prop) → Prop) (h : Hello) (K : Bool → Prop) : apure E (tabV f0) (fun _ => none) 4 47 [enc (.st 4) h] (ansK ((cTy .bool)) K) =
  (bif (decide (h.blocks ≥ 1)) then (bif (decide (h.blocks ≤ 32)) then (bif (h.vector.current != 0) then (f0 h.mask h.blocks fun r1 => (bif r1 then (bif h.pri then (bif (!h.was) then (bif h.pri then (K (!h.inc)) else (K true)) else (K false)) else (bif h.pri then (K (!h.inc)) else (K true))) else (K false))) else (K false)) else (K false)) else (K false)) := by kernel_rfl
theorem eq (x : Dens [(.st 4)]) (K : Bool → Prop) : apure E tab (fun _ => none) 4 47 (encA [(.st 4)] x) (ansK ((cTy .bool)) K) = F x.1 K := eqv ref03_Right.F x.1 K
theorem loops : LoopsOk E tab (fun _ => none) 4 47 := loops_none _ _ _ _
theorem det (h : Hello) : Det (F h) := by
  unfold F
  repeat' first | with_reducible exact det_ret _ | with_reducible exact det_false | with_reducible refine det_cond _ ?_ ?_ | with_reducible refine det_oget _ (fun _ => ?_) | with_reducible exact ref03_Right.det _ _ | with_reducible refine det_bind (ref03_Right.det _ _) (fun _ => ?_)
theorem edet (args : List AV) : Det (en args) := mkEntry_det (ts := [(.st 4)]) (cod := (cTy .bool)) (F := fun x => F x.1) (fun x => det x.1) args
theorem ground : Ground E tab := ⟨num, mixed, (tab_cons ref03_Right.sound (tab_nil _)), clone, (dtab_cons ref03_Right.edet dtab_nil)⟩
theorem has : ((E.P.funcs[47]?).bind (·.body)).isSome = true := by kernel_rfl
theorem sound : EntrySound E.P 47 en := mkSound (ts := [(.st 4)]) (cod := (cTy .bool)) (F := fun x => F x.1) ground loops has eq
end ref10_Right
namespace law10_HelloMakes
noncomputable def tab : Tab := [(43, law10_alive.en), (44, hello_Of.en), (45, ref10_Of.en), (46, hello_Right.en), (47, ref10_Right.en)]
def F (s : Super) (primary : Bool) (m : Int) (K : Bool → Prop) : Prop :=
  (law10_alive.F fun r1 => (bif (!r1) then (K false) else (hello_Of.F s primary m fun r2 => (ref10_Of.F s primary m fun r3 => (bif ((r2.blocks == r3.blocks) && (((r2.vector.current == r3.vector.current) && ((r2.vector.bitmap == r3.vector.bitmap) && (((r2.vector.old0 == r3.vector.old0) && ((r2.vector.old1 == r3.vector.old1) && true)) && true))) && ((r2.inc == r3.inc) && ((r2.was == r3.was) && ((r2.dis == r3.dis) && ((r2.pri == r3.pri) && ((r2.mask == r3.mask) && true))))))) then (hello_Right.F r2 fun r4 => (ref10_Right.F r2 fun r5 => (K (r4 == r5)))) else (K false))))))
noncomputable def en : Entry := mkEntry [(.st 3), .bool, (.int .u32)] (cTy .bool) fun x => F x.1 x.2.1 x.2.2.1
noncomputable def tabV (f0 : (Bool → Prop) → Prop) (f1 : Super → Bool → Int → (Hello → Prop) → Prop) (f2 : Super → Bool → Int → (Hello → Prop) → Prop) (f3 : Hello → (Bool → Prop) → Prop) (f4 : Hello → (Bool → Prop) → Prop) : Tab := [(43, mkEntry [] (cTy .bool) fun _ => f0), (44, mkEntry [(.st 3), .bool, (.int .u32)] (cTy (.st 4)) fun x => f1 x.1 x.2.1 x.2.2.1), (45, mkEntry [(.st 3), .bool, (.int .u32)] (cTy (.st 4)) fun x => f2 x.1 x.2.1 x.2.2.1), (46, mkEntry [(.st 4)] (cTy .bool) fun x => f3 x.1), (47, mkEntry [(.st 4)] (cTy .bool) fun x => f4 x.1)]
theorem tabE : tab = tabV law10_alive.F hello_Of.F ref10_Of.F hello_Right.F ref10_Right.F := by kernel_rfl
theorem eqv (f0 : (Bool → Prop) → Prop) (f1 : Super → Bool → Int → (Hello → Prop) → Prop) (f2 : Super → Bool → Int → (Hello → Prop) → Prop) (f3 : Hello → (Bool → Prop) → Prop) (f4 : Hello → (Bool → Prop) → Prop) (s : Super) (primary : Bool) (m : Int) (K : Bool → Prop) : apure E (tabV f0 f1 f2 f3 f4) (fun _ => none) 4 9 [enc (.st 3) s, enc .bool primary, enc (.int .u32) m] (ansK ((cTy .bool)) K) =
  (f0 fun r1 => (bif (!r1) then (K false) else (f1 s primary m fun r2 => (f2 s primary m fun r3 => (bif ((r2.blocks == r3.blocks) && (((r2.vector.current == r3.vector.current) && ((r2.vector.bitmap == r3.vector.bitmap) && (((r2.vector.old0 == r3.vector.old0) && ((r2.vector.old1 == r3.vector.old1) && true)) && true))) && ((r2.inc == r3.inc) && ((r2.was == r3.was) && ((r2.dis == r3.dis) && ((r2.pri == r3.pri) && ((r2.mask == r3.mask) && true))))))) then (f3 r2 fun r4 => (f4 r2 fun r5 => (K (r4 == r5)))) else (K false)))))) := by kernel_rfl
theorem eq (x : Dens [(.st 3), .bool, (.int .u32)]) (K : Bool → Prop) : apure E tab (fun _ => none) 4 9 (encA [(.st 3), .bool, (.int .u32)] x) (ansK ((cTy .bool)) K) = F x.1 x.2.1 x.2.2.1 K := eqv law10_alive.F hello_Of.F ref10_Of.F hello_Right.F ref10_Right.F x.1 x.2.1 x.2.2.1 K
theorem loops : LoopsOk E tab (fun _ => none) 4 9 := loops_none _ _ _ _
theorem det (s : Super) (primary : Bool) (m : Int) : Det (F s primary m) := by
  unfold F
  repeat' first | with_reducible exact det_ret _ | with_reducible exact det_false | with_reducible refine det_cond _ ?_ ?_ | with_reducible refine det_oget _ (fun _ => ?_) | with_reducible exact law10_alive.det | with_reducible refine det_bind (law10_alive.det) (fun _ => ?_) | with_reducible exact hello_Of.det _ _ _ | with_reducible refine det_bind (hello_Of.det _ _ _) (fun _ => ?_) | with_reducible exact ref10_Of.det _ _ _ | with_reducible refine det_bind (ref10_Of.det _ _ _) (fun _ => ?_) | with_reducible exact hello_Right.det _ | with_reducible refine det_bind (hello_Right.det _) (fun _ => ?_) | with_reducible exact ref10_Right.det _ | with_reducible refine det_bind (ref10_Right.det _) (fun _ => ?_)
theorem edet (args : List AV) : Det (en args) := mkEntry_det (ts := [(.st 3), .bool, (.int .u32)]) (cod := (cTy .bool)) (F := fun x => F x.1 x.2.1 x.2.2.1) (fun x => det x.1 x.2.1 x.2.2.1) args
theorem ground : Ground E tab := ⟨num, mixed, (tab_cons law10_alive.sound (tab_cons hello_Of.sound (tab_cons ref10_Of.sound (tab_cons hello_Right.sound (tab_cons ref10_Right.sound (tab_nil _)))))), clone, (dtab_cons law10_alive.edet (dtab_cons hello_Of.edet (dtab_cons ref10_Of.edet (dtab_cons hello_Right.edet (dtab_cons ref10_Right.edet dtab_nil)))))⟩
theorem has : ((E.P.funcs[9]?).bind (·.body)).isSome = true := by kernel_rfl
theorem sound : EntrySound E.P 9 en := mkSound (ts := [(.st 3), .bool, (.int .u32)]) (cod := (cTy .bool)) (F := fun x => F x.1 x.2.1 x.2.2.1) ground loops has eq
end law10_HelloMakes
namespace ref10_Encode
noncomputable def tab : Tab := [(47, ref10_Right.en), (41, ref01_Flags.en), (37, ref01_Put64.en), (35, ref01_Put32.en)]
def F (h : Hello) (K : (Str × Int) → Prop) : Prop :=
  (ref10_Right.F h fun r1 => (bif (!r1) then (K (([] : Str), 1)) else (ref01_Flags.F ([h.inc, h.was, h.dis, h.pri] : List Bool) fun r2 => (ref01_Put64.F h.vector.current fun r3 => (bif (fits ((bytesOfInts ([(IntKind.u8.wrap h.blocks), r2] : List Int)).length + r3.length)) then (ref01_Put64.F h.vector.bitmap fun r4 => (bif (fits (((bytesOfInts ([(IntKind.u8.wrap h.blocks), r2] : List Int)) ++ r3).length + r4.length)) then (ref01_Put64.F h.vector.old0 fun r5 => (bif (fits ((((bytesOfInts ([(IntKind.u8.wrap h.blocks), r2] : List Int)) ++ r3) ++ r4).length + r5.length)) then (ref01_Put64.F h.vector.old1 fun r6 => (bif (fits (((((bytesOfInts ([(IntKind.u8.wrap h.blocks), r2] : List Int)) ++ r3) ++ r4) ++ r5).length + r6.length)) then (ref01_Put32.F h.mask fun r7 => (bif (fits ((((((bytesOfInts ([(IntKind.u8.wrap h.blocks), r2] : List Int)) ++ r3) ++ r4) ++ r5) ++ r6).length + r7.length)) then (K (((((((bytesOfInts ([(IntKind.u8.wrap h.blocks), r2] : List Int)) ++ r3) ++ r4) ++ r5) ++ r6) ++ r7), 0)) else False)) else False)) else False)) else False)) else False)))))
noncomputable def en : Entry := mkEntry [(.st 4)] (cTwo .str (.int .i64)) fun x => F x.1
noncomputable def tabV (f0 : Hello → (Bool → Prop) → Prop) (f1 : (List Bool) → (Int → Prop) → Prop) (f2 : Int → (Str → Prop) → Prop) (f3 : Int → (Str → Prop) → Prop) : Tab := [(47, mkEntry [(.st 4)] (cTy .bool) fun x => f0 x.1), (41, mkEntry [(.slice .bool)] (cTy (.int .u8)) fun x => f1 x.1), (37, mkEntry [(.int .u64)] (cTy .str) fun x => f2 x.1), (35, mkEntry [(.int .u32)] (cTy .str) fun x => f3 x.1)]
theorem tabE : tab = tabV ref10_Right.F ref01_Flags.F ref01_Put64.F ref01_Put32.F := by kernel_rfl
theorem eqv (f0 : Hello → (Bool → Prop) → Prop) (f1 : (List Bool) → (Int → Prop) → Prop) (f2 : Int → (Str → Prop) → Prop) (f3 : Int → (Str → Prop) → Prop) (h : Hello) (K : (Str × Int) → Prop) : apure E (tabV f0 f1 f2 f3) (fun _ => none) 4 49 [enc (.st 4) h] (ansK ((cTwo .str (.int .i64))) K) =
  (f0 h fun r1 => (bif (!r1) then (K (([] : Str), 1)) else (f1 ([h.inc, h.was, h.dis, h.pri] : List Bool) fun r2 => (f2 h.vector.current fun r3 => (bif (fits ((bytesOfInts ([(IntKind.u8.wrap h.blocks), r2] : List Int)).length + r3.length)) then (f2 h.vector.bitmap fun r4 => (bif (fits (((bytesOfInts ([(IntKind.u8.wrap h.blocks), r2] : List Int)) ++ r3).length + r4.length)) then (f2 h.vector.old0 fun r5 => (bif (fits ((((bytesOfInts ([(IntKind.u8.wrap h.blocks), r2] : List Int)) ++ r3) ++ r4).length + r5.length)) then (f2 h.vector.old1 fun r6 => (bif (fits (((((bytesOfInts ([(IntKind.u8.wrap h.blocks), r2] : List Int)) ++ r3) ++ r4) ++ r5).length + r6.length)) then (f3 h.mask fun r7 => (bif (fits ((((((bytesOfInts ([(IntKind.u8.wrap h.blocks), r2] : List Int)) ++ r3) ++ r4) ++ r5) ++ r6).length + r7.length)) then (K (((((((bytesOfInts ([(IntKind.u8.wrap h.blocks), r2] : List Int)) ++ r3) ++ r4) ++ r5) ++ r6) ++ r7), 0)) else False)) else False)) else False)) else False)) else False))))) := by kernel_rfl
theorem eq (x : Dens [(.st 4)]) (K : (Str × Int) → Prop) : apure E tab (fun _ => none) 4 49 (encA [(.st 4)] x) (ansK ((cTwo .str (.int .i64))) K) = F x.1 K := eqv ref10_Right.F ref01_Flags.F ref01_Put64.F ref01_Put32.F x.1 K
theorem loops : LoopsOk E tab (fun _ => none) 4 49 := loops_none _ _ _ _
theorem det (h : Hello) : Det (F h) := by
  unfold F
  repeat' first | with_reducible exact det_ret _ | with_reducible exact det_false | with_reducible refine det_cond _ ?_ ?_ | with_reducible refine det_oget _ (fun _ => ?_) | with_reducible exact ref10_Right.det _ | with_reducible refine det_bind (ref10_Right.det _) (fun _ => ?_) | with_reducible exact ref01_Flags.det _ | with_reducible refine det_bind (ref01_Flags.det _) (fun _ => ?_) | with_reducible exact ref01_Put64.det _ | with_reducible refine det_bind (ref01_Put64.det _) (fun _ => ?_) | with_reducible exact ref01_Put32.det _ | with_reducible refine det_bind (ref01_Put32.det _) (fun _ => ?_)
theorem edet (args : List AV) : Det (en args) := mkEntry_det (ts := [(.st 4)]) (cod := (cTwo .str (.int .i64))) (F := fun x => F x.1) (fun x => det x.1) args
theorem ground : Ground E tab := ⟨num, mixed, (tab_cons ref10_Right.sound (tab_cons ref01_Flags.sound (tab_cons ref01_Put64.sound (tab_cons ref01_Put32.sound (tab_nil _))))), clone, (dtab_cons ref10_Right.edet (dtab_cons ref01_Flags.edet (dtab_cons ref01_Put64.edet (dtab_cons ref01_Put32.edet dtab_nil))))⟩
theorem has : ((E.P.funcs[49]?).bind (·.body)).isSome = true := by kernel_rfl
theorem sound : EntrySound E.P 49 en := mkSound (ts := [(.st 4)]) (cod := (cTwo .str (.int .i64))) (F := fun x => F x.1) ground loops has eq
end ref10_Encode
namespace ref10_number
noncomputable def tab : Tab := [(33, ref01_Get64.en)]
def F (b_0 : Str) (at_1 : Int) (K : Int → Prop) : Prop :=
  (bif (decide (0 ≤ at_1) && decide (at_1 ≤ (IntKind.i64.wrap (at_1 + 8))) && decide ((IntKind.i64.wrap (at_1 + 8)) ≤ (b_0.length : Int))) then (ref01_Get64.F (sub b_0 (Int.toNat at_1) (Int.toNat (IntKind.i64.wrap (at_1 + 8)))) fun r1 => (K r1.1)) else False)
noncomputable def en : Entry := mkEntry [.str, (.int .i64)] (cTy (.int .u64)) fun x => F x.1 x.2.1
noncomputable def tabV (f0 : Str → ((Int × Bool) → Prop) → Prop) : Tab := [(33, mkEntry [.str] (cTwo (.int .u64) .bool) fun x => f0 x.1)]
theorem tabE : tab = tabV ref01_Get64.F := by kernel_rfl
theorem eqv (f0 : Str → ((Int × Bool) → Prop) → Prop) (b_0 : Str) (at_1 : Int) (K : Int → Prop) : apure E (tabV f0) (fun _ => none) 4 96 [enc .str b_0, enc (.int .i64) at_1] (ansK ((cTy (.int .u64))) K) =
  (bif (decide (0 ≤ at_1) && decide (at_1 ≤ (IntKind.i64.wrap (at_1 + 8))) && decide ((IntKind.i64.wrap (at_1 + 8)) ≤ (b_0.length : Int))) then (f0 (sub b_0 (Int.toNat at_1) (Int.toNat (IntKind.i64.wrap (at_1 + 8)))) fun r1 => (K r1.1)) else False) := by kernel_rfl
theorem eq (x : Dens [.str, (.int .i64)]) (K : Int → Prop) : apure E tab (fun _ => none) 4 96 (encA [.str, (.int .i64)] x) (ansK ((cTy (.int .u64))) K) = F x.1 x.2.1 K := eqv ref01_Get64.F x.1 x.2.1 K
theorem loops : LoopsOk E tab (fun _ => none) 4 96 := loops_none _ _ _ _
theorem det (b_0 : Str) (at_1 : Int) : Det (F b_0 at_1) := by
  unfold F
  repeat' first | with_reducible exact det_ret _ | with_reducible exact det_false | with_reducible refine det_cond _ ?_ ?_ | with_reducible refine det_oget _ (fun _ => ?_) | with_reducible exact ref01_Get64.det _ | with_reducible refine det_bind (ref01_Get64.det _) (fun _ => ?_)
theorem edet (args : List AV) : Det (en args) := mkEntry_det (ts := [.str, (.int .i64)]) (cod := (cTy (.int .u64))) (F := fun x => F x.1 x.2.1) (fun x => det x.1 x.2.1) args
theorem ground : Ground E tab := ⟨num, mixed, (tab_cons ref01_Get64.sound (tab_nil _)), clone, (dtab_cons ref01_Get64.edet dtab_nil)⟩
theorem has : ((E.P.funcs[96]?).bind (·.body)).isSome = true := by kernel_rfl
theorem sound : EntrySound E.P 96 en := mkSound (ts := [.str, (.int .i64)]) (cod := (cTy (.int .u64))) (F := fun x => F x.1 x.2.1) ground loops has eq
end ref10_number
namespace ref10_Decode
noncomputable def tab : Tab := [(39, ref01_Unflag.en), (31, ref01_Get32.en), (96, ref10_number.en), (47, ref10_Right.en)]
def F (b_0 : Str) (K : (Hello × Int) → Prop) : Prop :=
  (bif ((b_0.length : Int) != 38) then (K ((⟨0, (⟨0, 0, 0, 0⟩ : Vec), false, false, false, false, 0⟩ : Hello), 2)) else (oget (getI b_0 1) fun v1 => (bif (decide ((v1.toNat : Int) > 15)) then (K ((⟨0, (⟨0, 0, 0, 0⟩ : Vec), false, false, false, false, 0⟩ : Hello), 2)) else (oget (getI b_0 1) fun v2 => (ref01_Unflag.F (v2.toNat : Int) 4 fun r3 => (bif (decide (0 ≤ 34) && decide (34 ≤ (b_0.length : Int))) then (ref01_Get32.F (sub b_0 (Int.toNat 34) b_0.length) fun r4 => (oget (getI b_0 0) fun v5 => (oget (getI r3.1 0) fun v6 => (oget (getI r3.1 1) fun v7 => (oget (getI r3.1 2) fun v8 => (oget (getI r3.1 3) fun v9 => (ref10_number.F b_0 2 fun r10 => (ref10_number.F b_0 10 fun r11 => (ref10_number.F b_0 18 fun r12 => (ref10_number.F b_0 26 fun r13 => (ref10_Right.F (⟨(IntKind.i64.wrap (v5.toNat : Int)), (⟨r10, r11, r12, r13⟩ : Vec), v6, v7, v8, v9, r4.1⟩ : Hello) fun r14 => (bif (!r14) then (K ((⟨0, (⟨0, 0, 0, 0⟩ : Vec), false, false, false, false, 0⟩ : Hello), 2)) else (K ((⟨(IntKind.i64.wrap (v5.toNat : Int)), (⟨r10, r11, r12, r13⟩ : Vec), v6, v7, v8, v9, r4.1⟩ : Hello), 0)))))))))))))) else False))))))
noncomputable def en : Entry := mkEntry [.str] (cTwo (.st 4) (.int .i64)) fun x => F x.1
noncomputable def tabV (f0 : Int → Int → (((List Bool) × Bool) → Prop) → Prop) (f1 : Str → ((Int × Bool) → Prop) → Prop) (f2 : Str → Int → (Int → Prop) → Prop) (f3 : Hello → (Bool → Prop) → Prop) : Tab := [(39, mkEntry [(.int .u8), (.int .i64)] (cTwo (.slice .bool) .bool) fun x => f0 x.1 x.2.1), (31, mkEntry [.str] (cTwo (.int .u32) .bool) fun x => f1 x.1), (96, mkEntry [.str, (.int .i64)] (cTy (.int .u64)) fun x => f2 x.1 x.2.1), (47, mkEntry [(.st 4)] (cTy .bool) fun x => f3 x.1)]
theorem tabE : tab = tabV ref01_Unflag.F ref01_Get32.F ref10_number.F ref10_Right.F := by kernel_rfl
theorem eqv (f0 : Int → Int → (((List Bool) × Bool) → Prop) → Prop) (f1 : Str → ((Int × Bool) → Prop) → Prop) (f2 : Str → Int → (Int → Prop) → Prop) (f3 : Hello → (Bool → Prop) → Prop) (b_0 : Str) (K : (Hello × Int) → Prop) : apure E (tabV f0 f1 f2 f3) (fun _ => none) 4 51 [enc .str b_0] (ansK ((cTwo (.st 4) (.int .i64))) K) =
  (bif ((b_0.length : Int) != 38) then (K ((⟨0, (⟨0, 0, 0, 0⟩ : Vec), false, false, false, false, 0⟩ : Hello), 2)) else (oget (getI b_0 1) fun v1 => (bif (decide ((v1.toNat : Int) > 15)) then (K ((⟨0, (⟨0, 0, 0, 0⟩ : Vec), false, false, false, false, 0⟩ : Hello), 2)) else (oget (getI b_0 1) fun v2 => (f0 (v2.toNat : Int) 4 fun r3 => (bif (decide (0 ≤ 34) && decide (34 ≤ (b_0.length : Int))) then (f1 (sub b_0 (Int.toNat 34) b_0.length) fun r4 => (oget (getI b_0 0) fun v5 => (oget (getI r3.1 0) fun v6 => (oget (getI r3.1 1) fun v7 => (oget (getI r3.1 2) fun v8 => (oget (getI r3.1 3) fun v9 => (f2 b_0 2 fun r10 => (f2 b_0 10 fun r11 => (f2 b_0 18 fun r12 => (f2 b_0 26 fun r13 => (f3 (⟨(IntKind.i64.wrap (v5.toNat : Int)), (⟨r10, r11, r12, r13⟩ : Vec), v6, v7, v8, v9, r4.1⟩ : Hello) fun r14 => (bif (!r14) then (K ((⟨0, (⟨0, 0, 0, 0⟩ : Vec), false, false, false, false, 0⟩ : Hello), 2)) else (K ((⟨(IntKind.i64.wrap (v5.toNat : Int)), (⟨r10, r11, r12, r13⟩ : Vec), v6, v7, v8, v9, r4.1⟩ : Hello), 0)))))))))))))) else False)))))) := by kernel_rfl
theorem eq (x : Dens [.str]) (K : (Hello × Int) → Prop) : apure E tab (fun _ => none) 4 51 (encA [.str] x) (ansK ((cTwo (.st 4) (.int .i64))) K) = F x.1 K := eqv ref01_Unflag.F ref01_Get32.F ref10_number.F ref10_Right.F x.1 K
theorem loops : LoopsOk E tab (fun _ => none) 4 51 := loops_none _ _ _ _
theorem det (b_0 : Str) : Det (F b_0) := by
  unfold F
  repeat' first | with_reducible exact det_ret _ | with_reducible exact det_false | with_reducible refine det_cond _ ?_ ?_ | with_reducible refine det_oget _ (fun _ => ?_) | with_reducible exact ref01_Unflag.det _ _ | with_reducible refine det_bind (ref01_Unflag.det _ _) (fun _ => ?_) | with_reducible exact ref01_Get32.det _ | with_reducible refine det_bind (ref01_Get32.det _) (fun _ => ?_) | with_reducible exact ref10_number.det _ _ | with_reducible refine det_bind (ref10_number.det _ _) (fun _ => ?_) | with_reducible exact ref10_Right.det _ | with_reducible refine det_bind (ref10_Right.det _) (fun _ => ?_)
theorem edet (args : List AV) : Det (en args) := mkEntry_det (ts := [.str]) (cod := (cTwo (.st 4) (.int .i64))) (F := fun x => F x.1) (fun x => det x.1) args
theorem ground : Ground E tab := ⟨num, mixed, (tab_cons ref01_Unflag.sound (tab_cons ref01_Get32.sound (tab_cons ref10_number.sound (tab_cons ref10_Right.sound (tab_nil _))))), clone, (dtab_cons ref01_Unflag.edet (dtab_cons ref01_Get32.edet (dtab_cons ref10_number.edet (dtab_cons ref10_Right.edet dtab_nil))))⟩
theorem has : ((E.P.funcs[51]?).bind (·.body)).isSome = true := by kernel_rfl
theorem sound : EntrySound E.P 51 en := mkSound (ts := [.str]) (cod := (cTwo (.st 4) (.int .i64))) (F := fun x => F x.1) ground loops has eq
end ref10_Decode
namespace law10_HelloBytes
noncomputable def tab : Tab := [(43, law10_alive.en), (48, hello_Encode.en), (49, ref10_Encode.en), (50, hello_Decode.en), (51, ref10_Decode.en), (46, hello_Right.en), (47, ref10_Right.en)]
def F (h : Hello) (b_1 : Str) (K : Bool → Prop) : Prop :=
  (law10_alive.F fun r1 => (bif (!r1) then (K false) else (bif (decide ((b_1.length : Int) > 500)) then (K true) else (hello_Encode.F h fun r2 => (ref10_Encode.F h fun r3 => (hello_Decode.F b_1 fun r4 => (ref10_Decode.F b_1 fun r5 => (bif (r2.1 == r3.1) then (bif (r2.2 == r3.2) then (bif ((r4.1.blocks == r5.1.blocks) && (((r4.1.vector.current == r5.1.vector.current) && ((r4.1.vector.bitmap == r5.1.vector.bitmap) && (((r4.1.vector.old0 == r5.1.vector.old0) && ((r4.1.vector.old1 == r5.1.vector.old1) && true)) && true))) && ((r4.1.inc == r5.1.inc) && ((r4.1.was == r5.1.was) && ((r4.1.dis == r5.1.dis) && ((r4.1.pri == r5.1.pri) && ((r4.1.mask == r5.1.mask) && true))))))) then (bif (r4.2 == r5.2) then (hello_Right.F h fun r6 => (ref10_Right.F h fun r7 => (K (r6 == r7)))) else (K false)) else (K false)) else (K false)) else (K false)))))))))
noncomputable def en : Entry := mkEntry [(.st 4), .str] (cTy .bool) fun x => F x.1 x.2.1
noncomputable def tabV (f0 : (Bool → Prop) → Prop) (f1 : Hello → ((Str × Int) → Prop) → Prop) (f2 : Hello → ((Str × Int) → Prop) → Prop) (f3 : Str → ((Hello × Int) → Prop) → Prop) (f4 : Str → ((Hello × Int) → Prop) → Prop) (f5 : Hello → (Bool → Prop) → Prop) (f6 : Hello → (Bool → Prop) → Prop) : Tab := [(43, mkEntry [] (cTy .bool) fun _ => f0), (48, mkEntry [(.st 4)] (cTwo .str (.int .i64)) fun x => f1 x.1), (49, mkEntry [(.st 4)] (cTwo .str (.int .i64)) fun x => f2 x.1), (50, mkEntry [.str] (cTwo (.st 4) (.int .i64)) fun x => f3 x.1), (51, mkEntry [.str] (cTwo (.st 4) (.int .i64)) fun x => f4 x.1), (46, mkEntry [(.st 4)] (cTy .bool) fun x => f5 x.1), (47, mkEntry [(.st 4)] (cTy .bool) fun x => f6 x.1)]
theorem tabE : tab = tabV law10_alive.F hello_Encode.F ref10_Encode.F hello_Decode.F ref10_Decode.F hello_Right.F ref10_Right.F := by kernel_rfl
theorem eqv (f0 : (Bool → Prop) → Prop) (f1 : Hello → ((Str × Int) → Prop) → Prop) (f2 : Hello → ((Str × Int) → Prop) → Prop) (f3 : Str → ((Hello × Int) → Prop) → Prop) (f4 : Str → ((Hello × Int) → Prop) → Prop) (f5 : Hello → (Bool → Prop) → Prop) (f6 : Hello → (Bool → Prop) → Prop) (h : Hello) (b_1 : Str) (K : Bool → Prop) : apure E (tabV f0 f1 f2 f3 f4 f5 f6) (fun _ => none) 4 10 [enc (.st 4) h, enc .str b_1] (ansK ((cTy .bool)) K) =
  (f0 fun r1 => (bif (!r1) then (K false) else (bif (decide ((b_1.length : Int) > 500)) then (K true) else (f1 h fun r2 => (f2 h fun r3 => (f3 b_1 fun r4 => (f4 b_1 fun r5 => (bif (r2.1 == r3.1) then (bif (r2.2 == r3.2) then (bif ((r4.1.blocks == r5.1.blocks) && (((r4.1.vector.current == r5.1.vector.current) && ((r4.1.vector.bitmap == r5.1.vector.bitmap) && (((r4.1.vector.old0 == r5.1.vector.old0) && ((r4.1.vector.old1 == r5.1.vector.old1) && true)) && true))) && ((r4.1.inc == r5.1.inc) && ((r4.1.was == r5.1.was) && ((r4.1.dis == r5.1.dis) && ((r4.1.pri == r5.1.pri) && ((r4.1.mask == r5.1.mask) && true))))))) then (bif (r4.2 == r5.2) then (f5 h fun r6 => (f6 h fun r7 => (K (r6 == r7)))) else (K false)) else (K false)) else (K false)) else (K false))))))))) := by kernel_rfl
theorem eq (x : Dens [(.st 4), .str]) (K : Bool → Prop) : apure E tab (fun _ => none) 4 10 (encA [(.st 4), .str] x) (ansK ((cTy .bool)) K) = F x.1 x.2.1 K := eqv law10_alive.F hello_Encode.F ref10_Encode.F hello_Decode.F ref10_Decode.F hello_Right.F ref10_Right.F x.1 x.2.1 K
theorem loops : LoopsOk E tab (fun _ => none) 4 10 := loops_none _ _ _ _
theorem det (h : Hello) (b_1 : Str) : Det (F h b_1) := by
  unfold F
  repeat' first | with_reducible exact det_ret _ | with_reducible exact det_false | with_reducible refine det_cond _ ?_ ?_ | with_reducible refine det_oget _ (fun _ => ?_) | with_reducible exact law10_alive.det | with_reducible refine det_bind (law10_alive.det) (fun _ => ?_) | with_reducible exact hello_Encode.det _ | with_reducible refine det_bind (hello_Encode.det _) (fun _ => ?_) | with_reducible exact ref10_Encode.det _ | with_reducible refine det_bind (ref10_Encode.det _) (fun _ => ?_) | with_reducible exact hello_Decode.det _ | with_reducible refine det_bind (hello_Decode.det _) (fun _ => ?_) | with_reducible exact ref10_Decode.det _ | with_reducible refine det_bind (ref10_Decode.det _) (fun _ => ?_) | with_reducible exact hello_Right.det _ | with_reducible refine det_bind (hello_Right.det _) (fun _ => ?_) | with_reducible exact ref10_Right.det _ | with_reducible refine det_bind (ref10_Right.det _) (fun _ => ?_)
theorem edet (args : List AV) : Det (en args) := mkEntry_det (ts := [(.st 4), .str]) (cod := (cTy .bool)) (F := fun x => F x.1 x.2.1) (fun x => det x.1 x.2.1) args
theorem ground : Ground E tab := ⟨num, mixed, (tab_cons law10_alive.sound (tab_cons hello_Encode.sound (tab_cons ref10_Encode.sound (tab_cons hello_Decode.sound (tab_cons ref10_Decode.sound (tab_cons hello_Right.sound (tab_cons ref10_Right.sound (tab_nil _)))))))), clone, (dtab_cons law10_alive.edet (dtab_cons hello_Encode.edet (dtab_cons ref10_Encode.edet (dtab_cons hello_Decode.edet (dtab_cons ref10_Decode.edet (dtab_cons hello_Right.edet (dtab_cons ref10_Right.edet dtab_nil)))))))⟩
theorem has : ((E.P.funcs[10]?).bind (·.body)).isSome = true := by kernel_rfl
theorem sound : EntrySound E.P 10 en := mkSound (ts := [(.st 4), .str]) (cod := (cTy .bool)) (F := fun x => F x.1 x.2.1) ground loops has eq
end law10_HelloBytes
namespace law10_HelloBack
noncomputable def tab : Tab := [(43, law10_alive.en), (48, hello_Encode.en), (50, hello_Decode.en)]
def F (h : Hello) (b_1 : Str) (K : Bool → Prop) : Prop :=
  (law10_alive.F fun r1 => (bif (!r1) then (K false) else (bif (decide ((b_1.length : Int) > 500)) then (K true) else (hello_Encode.F h fun r2 => (bif (r2.2 == 0) then (hello_Decode.F r2.1 fun r3 => (bif (r3.2 != 0) then (K false) else (bif (!((r3.1.blocks == h.blocks) && (((r3.1.vector.current == h.vector.current) && ((r3.1.vector.bitmap == h.vector.bitmap) && (((r3.1.vector.old0 == h.vector.old0) && ((r3.1.vector.old1 == h.vector.old1) && true)) && true))) && ((r3.1.inc == h.inc) && ((r3.1.was == h.was) && ((r3.1.dis == h.dis) && ((r3.1.pri == h.pri) && ((r3.1.mask == h.mask) && true)))))))) then (K false) else (hello_Decode.F b_1 fun r4 => (bif (r4.2 != 0) then (K ((r4.1.blocks == 0) && (((r4.1.vector.current == 0) && ((r4.1.vector.bitmap == 0) && (((r4.1.vector.old0 == 0) && ((r4.1.vector.old1 == 0) && true)) && true))) && ((r4.1.inc == false) && ((r4.1.was == false) && ((r4.1.dis == false) && ((r4.1.pri == false) && ((r4.1.mask == 0) && true)))))))) else (hello_Encode.F r4.1 fun r5 => (bif (r5.2 == 0) then (K (r5.1 == b_1)) else (K false)))))))) else (hello_Decode.F b_1 fun r6 => (bif (r6.2 != 0) then (K ((r6.1.blocks == 0) && (((r6.1.vector.current == 0) && ((r6.1.vector.bitmap == 0) && (((r6.1.vector.old0 == 0) && ((r6.1.vector.old1 == 0) && true)) && true))) && ((r6.1.inc == false) && ((r6.1.was == false) && ((r6.1.dis == false) && ((r6.1.pri == false) && ((r6.1.mask == 0) && true)))))))) else (hello_Encode.F r6.1 fun r7 => (bif (r7.2 == 0) then (K (r7.1 == b_1)) else (K false))))))))))
noncomputable def en : Entry := mkEntry [(.st 4), .str] (cTy .bool) fun x => F x.1 x.2.1
noncomputable def tabV (f0 : (Bool → Prop) → Prop) (f1 : Hello → ((Str × Int) → Prop) → Prop) (f2 : Str → ((Hello × Int) → Prop) → Prop) : Tab := [(43, mkEntry [] (cTy .bool) fun _ => f0), (48, mkEntry [(.st 4)] (cTwo .str (.int .i64)) fun x => f1 x.1), (50, mkEntry [.str] (cTwo (.st 4) (.int .i64)) fun x => f2 x.1)]
theorem tabE : tab = tabV law10_alive.F hello_Encode.F hello_Decode.F := by kernel_rfl
theorem eqv (f0 : (Bool → Prop) → Prop) (f1 : Hello → ((Str × Int) → Prop) → Prop) (f2 : Str → ((Hello × Int) → Prop) → Prop) (h : Hello) (b_1 : Str) (K : Bool → Prop) : apure E (tabV f0 f1 f2) (fun _ => none) 4 11 [enc (.st 4) h, enc .str b_1] (ansK ((cTy .bool)) K) =
  (f0 fun r1 => (bif (!r1) then (K false) else (bif (decide ((b_1.length : Int) > 500)) then (K true) else (f1 h fun r2 => (bif (r2.2 == 0) then (f2 r2.1 fun r3 => (bif (r3.2 != 0) then (K false) else (bif (!((r3.1.blocks == h.blocks) && (((r3.1.vector.current == h.vector.current) && ((r3.1.vector.bitmap == h.vector.bitmap) && (((r3.1.vector.old0 == h.vector.old0) && ((r3.1.vector.old1 == h.vector.old1) && true)) && true))) && ((r3.1.inc == h.inc) && ((r3.1.was == h.was) && ((r3.1.dis == h.dis) && ((r3.1.pri == h.pri) && ((r3.1.mask == h.mask) && true)))))))) then (K false) else (f2 b_1 fun r4 => (bif (r4.2 != 0) then (K ((r4.1.blocks == 0) && (((r4.1.vector.current == 0) && ((r4.1.vector.bitmap == 0) && (((r4.1.vector.old0 == 0) && ((r4.1.vector.old1 == 0) && true)) && true))) && ((r4.1.inc == false) && ((r4.1.was == false) && ((r4.1.dis == false) && ((r4.1.pri == false) && ((r4.1.mask == 0) && true)))))))) else (f1 r4.1 fun r5 => (bif (r5.2 == 0) then (K (r5.1 == b_1)) else (K false)))))))) else (f2 b_1 fun r6 => (bif (r6.2 != 0) then (K ((r6.1.blocks == 0) && (((r6.1.vector.current == 0) && ((r6.1.vector.bitmap == 0) && (((r6.1.vector.old0 == 0) && ((r6.1.vector.old1 == 0) && true)) && true))) && ((r6.1.inc == false) && ((r6.1.was == false) && ((r6.1.dis == false) && ((r6.1.pri == false) && ((r6.1.mask == 0) && true)))))))) else (f1 r6.1 fun r7 => (bif (r7.2 == 0) then (K (r7.1 == b_1)) else (K false)))))))))) := by kernel_rfl
theorem eq (x : Dens [(.st 4), .str]) (K : Bool → Prop) : apure E tab (fun _ => none) 4 11 (encA [(.st 4), .str] x) (ansK ((cTy .bool)) K) = F x.1 x.2.1 K := eqv law10_alive.F hello_Encode.F hello_Decode.F x.1 x.2.1 K
theorem loops : LoopsOk E tab (fun _ => none) 4 11 := loops_none _ _ _ _
theorem det (h : Hello) (b_1 : Str) : Det (F h b_1) := by
  unfold F
  repeat' first | with_reducible exact det_ret _ | with_reducible exact det_false | with_reducible refine det_cond _ ?_ ?_ | with_reducible refine det_oget _ (fun _ => ?_) | with_reducible exact law10_alive.det | with_reducible refine det_bind (law10_alive.det) (fun _ => ?_) | with_reducible exact hello_Encode.det _ | with_reducible refine det_bind (hello_Encode.det _) (fun _ => ?_) | with_reducible exact hello_Decode.det _ | with_reducible refine det_bind (hello_Decode.det _) (fun _ => ?_)
theorem edet (args : List AV) : Det (en args) := mkEntry_det (ts := [(.st 4), .str]) (cod := (cTy .bool)) (F := fun x => F x.1 x.2.1) (fun x => det x.1 x.2.1) args
theorem ground : Ground E tab := ⟨num, mixed, (tab_cons law10_alive.sound (tab_cons hello_Encode.sound (tab_cons hello_Decode.sound (tab_nil _)))), clone, (dtab_cons law10_alive.edet (dtab_cons hello_Encode.edet (dtab_cons hello_Decode.edet dtab_nil)))⟩
theorem has : ((E.P.funcs[11]?).bind (·.body)).isSome = true := by kernel_rfl
theorem sound : EntrySound E.P 11 en := mkSound (ts := [(.st 4), .str]) (cod := (cTy .bool)) (F := fun x => F x.1 x.2.1) ground loops has eq
end law10_HelloBack
end Gm
