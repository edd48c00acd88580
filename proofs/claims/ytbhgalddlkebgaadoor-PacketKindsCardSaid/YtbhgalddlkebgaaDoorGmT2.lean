/- Printed by a program (gen.py): the functions' answers, and that they are so. -/
import Derived.Test.YtbhgalddlkebgaaDoorGmT1
set_option linter.unusedVariables false
set_option maxRecDepth 100000
namespace Gm
open Go Go.Proofs
namespace vector_Right
noncomputable def tab : Tab := []
def F (v : Vec) (K : Bool → Prop) : Prop :=
  (K (v.current != 0))
noncomputable def en : Entry := mkEntry [(.st 2)] (cTy .bool) fun x => F x.1
theorem eq (x : Dens [(.st 2)]) (K : Bool → Prop) : apure E tab (fun _ => none) 4 40 (encA [(.st 2)] x) (ansK ((cTy .bool)) K) = F x.1 K := by kernel_rfl
theorem loops : LoopsOk E tab (fun _ => none) 4 40 := loops_none _ _ _ _
theorem det (v : Vec) : Det (F v) := by
  unfold F
  repeat' first | with_reducible exact det_ret _ | with_reducible exact det_false | with_reducible refine det_cond _ ?_ ?_ | with_reducible refine det_oget _ (fun _ => ?_)
theorem edet (args : List AV) : Det (en args) := mkEntry_det (ts := [(.st 2)]) (cod := (cTy .bool)) (F := fun x => F x.1) (fun x => det x.1) args
theorem ground : Ground E tab := ⟨num, mixed, (tab_nil _), clone, dtab_nil, stab⟩
theorem has : ((E.P.funcs[40]?).bind (·.body)).isSome = true := by kernel_rfl
theorem sound : EntrySound E 40 en := mkSound (ts := [(.st 2)]) (cod := (cTy .bool)) (F := fun x => F x.1) ground loops has eq
end vector_Right
namespace mask_there
noncomputable def tab : Tab := []
def F (i : Int) (K : Bool → Prop) : Prop :=
  (bif (decide (i ≥ 0)) then (K (decide (i < 32))) else (K false))
noncomputable def en : Entry := mkEntry [(.int .i64)] (cTy .bool) fun x => F x.1
theorem eq (x : Dens [(.int .i64)]) (K : Bool → Prop) : apure E tab (fun _ => none) 4 54 (encA [(.int .i64)] x) (ansK ((cTy .bool)) K) = F x.1 K := by kernel_rfl
theorem loops : LoopsOk E tab (fun _ => none) 4 54 := loops_none _ _ _ _
theorem det (i : Int) : Det (F i) := by
  unfold F
  repeat' first | with_reducible exact det_ret _ | with_reducible exact det_false | with_reducible refine det_cond _ ?_ ?_ | with_reducible refine det_oget _ (fun _ => ?_)
theorem edet (args : List AV) : Det (en args) := mkEntry_det (ts := [(.int .i64)]) (cod := (cTy .bool)) (F := fun x => F x.1) (fun x => det x.1) args
theorem ground : Ground E tab := ⟨num, mixed, (tab_nil _), clone, dtab_nil, stab⟩
theorem has : ((E.P.funcs[54]?).bind (·.body)).isSome = true := by kernel_rfl
theorem sound : EntrySound E 54 en := mkSound (ts := [(.int .i64)]) (cod := (cTy .bool)) (F := fun x => F x.1) ground loops has eq
end mask_there
namespace mask_All
noncomputable def tab : Tab := [(54, mask_there.en)]
def F (blocks : Int) (K : Int → Prop) : Prop :=
  (mask_there.F (IntKind.i64.wrap (blocks - 1)) fun r1 => (bif (!r1) then (K 0) else (bif (decide (0 ≤ blocks)) then (K (IntKind.u32.wrap ((ishl .u32 1 blocks) - 1))) else False)))
noncomputable def en : Entry := mkEntry [(.int .i64)] (cTy (.int .u32)) fun x => F x.1
noncomputable def tabV (f0 : Int → (Bool → Prop) → Prop) : Tab := [(54, mkEntry [(.int .i64)] (cTy .bool) fun x => f0 x.1)]
theorem tabE : tab = tabV mask_there.F := by kernel_rfl
theorem eqv (f0 : Int → (Bool → Prop) → Prop) (blocks : Int) (K : Int → Prop) : apure E (tabV f0) (fun _ => none) 4 55 [enc (.int .i64) blocks] (ansK ((cTy (.int .u32))) K) =
  (f0 (IntKind.i64.wrap (blocks - 1)) fun r1 => (bif (!r1) then (K 0) else (bif (decide (0 ≤ blocks)) then (K (IntKind.u32.wrap ((ishl .u32 1 blocks) - 1))) else False))) := by kernel_rfl
theorem eq (x : Dens [(.int .i64)]) (K : Int → Prop) : apure E tab (fun _ => none) 4 55 (encA [(.int .i64)] x) (ansK ((cTy (.int .u32))) K) = F x.1 K := eqv mask_there.F x.1 K
theorem loops : LoopsOk E tab (fun _ => none) 4 55 := loops_none _ _ _ _
theorem det (blocks : Int) : Det (F blocks) := by
  unfold F
  repeat' first | with_reducible exact det_ret _ | with_reducible exact det_false | with_reducible refine det_cond _ ?_ ?_ | with_reducible refine det_oget _ (fun _ => ?_) | with_reducible exact mask_there.det _ | with_reducible refine det_bind (mask_there.det _) (fun _ => ?_)
theorem edet (args : List AV) : Det (en args) := mkEntry_det (ts := [(.int .i64)]) (cod := (cTy (.int .u32))) (F := fun x => F x.1) (fun x => det x.1) args
theorem ground : Ground E tab := ⟨num, mixed, (tab_cons mask_there.sound (tab_nil _)), clone, (dtab_cons mask_there.edet dtab_nil), stab⟩
theorem has : ((E.P.funcs[55]?).bind (·.body)).isSome = true := by kernel_rfl
theorem sound : EntrySound E 55 en := mkSound (ts := [(.int .i64)]) (cod := (cTy (.int .u32))) (F := fun x => F x.1) ground loops has eq
end mask_All
namespace mask_Right
noncomputable def tab : Tab := [(54, mask_there.en), (55, mask_All.en)]
def F (m : Int) (blocks : Int) (K : Bool → Prop) : Prop :=
  (mask_there.F (IntKind.i64.wrap (blocks - 1)) fun r1 => (bif r1 then (mask_All.F blocks fun r2 => (K ((iandn .u32 m r2) == 0))) else (K false)))
noncomputable def en : Entry := mkEntry [(.int .u32), (.int .i64)] (cTy .bool) fun x => F x.1 x.2.1
noncomputable def tabV (f0 : Int → (Bool → Prop) → Prop) (f1 : Int → (Int → Prop) → Prop) : Tab := [(54, mkEntry [(.int .i64)] (cTy .bool) fun x => f0 x.1), (55, mkEntry [(.int .i64)] (cTy (.int .u32)) fun x => f1 x.1)]
theorem tabE : tab = tabV mask_there.F mask_All.F := by kernel_rfl
theorem eqv (f0 : Int → (Bool → Prop) → Prop) (f1 : Int → (Int → Prop) → Prop) (m : Int) (blocks : Int) (K : Bool → Prop) : apure E (tabV f0 f1) (fun _ => none) 4 41 [enc (.int .u32) m, enc (.int .i64) blocks] (ansK ((cTy .bool)) K) =
  (f0 (IntKind.i64.wrap (blocks - 1)) fun r1 => (bif r1 then (f1 blocks fun r2 => (K ((iandn .u32 m r2) == 0))) else (K false))) := by kernel_rfl
theorem eq (x : Dens [(.int .u32), (.int .i64)]) (K : Bool → Prop) : apure E tab (fun _ => none) 4 41 (encA [(.int .u32), (.int .i64)] x) (ansK ((cTy .bool)) K) = F x.1 x.2.1 K := eqv mask_there.F mask_All.F x.1 x.2.1 K
theorem loops : LoopsOk E tab (fun _ => none) 4 41 := loops_none _ _ _ _
theorem det (m : Int) (blocks : Int) : Det (F m blocks) := by
  unfold F
  repeat' first | with_reducible exact det_ret _ | with_reducible exact det_false | with_reducible refine det_cond _ ?_ ?_ | with_reducible refine det_oget _ (fun _ => ?_) | with_reducible exact mask_there.det _ | with_reducible refine det_bind (mask_there.det _) (fun _ => ?_) | with_reducible exact mask_All.det _ | with_reducible refine det_bind (mask_All.det _) (fun _ => ?_)
theorem edet (args : List AV) : Det (en args) := mkEntry_det (ts := [(.int .u32), (.int .i64)]) (cod := (cTy .bool)) (F := fun x => F x.1 x.2.1) (fun x => det x.1 x.2.1) args
theorem ground : Ground E tab := ⟨num, mixed, (tab_cons mask_there.sound (tab_cons mask_All.sound (tab_nil _))), clone, (dtab_cons mask_there.edet (dtab_cons mask_All.edet dtab_nil)), stab⟩
theorem has : ((E.P.funcs[41]?).bind (·.body)).isSome = true := by kernel_rfl
theorem sound : EntrySound E 41 en := mkSound (ts := [(.int .u32), (.int .i64)]) (cod := (cTy .bool)) (F := fun x => F x.1 x.2.1) ground loops has eq
end mask_Right
namespace hello_Right
noncomputable def tab : Tab := [(40, vector_Right.en), (41, mask_Right.en)]
def F (h : Hello) (K : Bool → Prop) : Prop :=
  (vector_Right.F h.vector fun r1 => (bif r1 then (mask_Right.F h.mask h.blocks fun r2 => (bif r2 then (bif (!h.pri) then (K true) else (bif (!h.was) then (K (!h.inc)) else (K false))) else (K false))) else (K false)))
noncomputable def en : Entry := mkEntry [(.st 4)] (cTy .bool) fun x => F x.1
noncomputable def tabV (f0 : Vec → (Bool → Prop) → Prop) (f1 : Int → Int → (Bool → Prop) → Prop) : Tab := [(40, mkEntry [(.st 2)] (cTy .bool) fun x => f0 x.1), (41, mkEntry [(.int .u32), (.int .i64)] (cTy .bool) fun x => f1 x.1 x.2.1)]
theorem tabE : tab = tabV vector_Right.F mask_Right.F := by kernel_rfl
theorem eqv (f0 : Vec → (Bool → Prop) → Prop) (f1 : Int → Int → (Bool → Prop) → Prop) (h : Hello) (K : Bool → Prop) : apure E (tabV f0 f1) (fun _ => none) 4 22 [enc (.st 4) h] (ansK ((cTy .bool)) K) =
  (f0 h.vector fun r1 => (bif r1 then (f1 h.mask h.blocks fun r2 => (bif r2 then (bif (!h.pri) then (K true) else (bif (!h.was) then (K (!h.inc)) else (K false))) else (K false))) else (K false))) := by kernel_rfl
theorem eq (x : Dens [(.st 4)]) (K : Bool → Prop) : apure E tab (fun _ => none) 4 22 (encA [(.st 4)] x) (ansK ((cTy .bool)) K) = F x.1 K := eqv vector_Right.F mask_Right.F x.1 K
theorem loops : LoopsOk E tab (fun _ => none) 4 22 := loops_none _ _ _ _
theorem det (h : Hello) : Det (F h) := by
  unfold F
  repeat' first | with_reducible exact det_ret _ | with_reducible exact det_false | with_reducible refine det_cond _ ?_ ?_ | with_reducible refine det_oget _ (fun _ => ?_) | with_reducible exact vector_Right.det _ | with_reducible refine det_bind (vector_Right.det _) (fun _ => ?_) | with_reducible exact mask_Right.det _ _ | with_reducible refine det_bind (mask_Right.det _ _) (fun _ => ?_)
theorem edet (args : List AV) : Det (en args) := mkEntry_det (ts := [(.st 4)]) (cod := (cTy .bool)) (F := fun x => F x.1) (fun x => det x.1) args
theorem ground : Ground E tab := ⟨num, mixed, (tab_cons vector_Right.sound (tab_cons mask_Right.sound (tab_nil _))), clone, (dtab_cons vector_Right.edet (dtab_cons mask_Right.edet dtab_nil)), stab⟩
theorem has : ((E.P.funcs[22]?).bind (·.body)).isSome = true := by kernel_rfl
theorem sound : EntrySound E 22 en := mkSound (ts := [(.st 4)]) (cod := (cTy .bool)) (F := fun x => F x.1) ground loops has eq
end hello_Right
namespace hello_Encode
noncomputable def tab : Tab := [(22, hello_Right.en), (35, num_Flags.en), (18, num_Put64.en), (36, num_Put32.en)]
def F (h : Hello) (K : (Str × Int) → Prop) : Prop :=
  (hello_Right.F h fun r1 => (bif (!r1) then (K (([] : Str), 1)) else (num_Flags.F ([h.inc, h.was, h.dis, h.pri] : List Bool) fun r2 => (num_Put64.F h.vector.current fun r3 => (bif (fits ((bytesOfInts ([(IntKind.u8.wrap h.blocks), r2] : List Int)).length + r3.length)) then (num_Put64.F h.vector.bitmap fun r4 => (bif (fits (((bytesOfInts ([(IntKind.u8.wrap h.blocks), r2] : List Int)) ++ r3).length + r4.length)) then (num_Put64.F h.vector.old0 fun r5 => (bif (fits ((((bytesOfInts ([(IntKind.u8.wrap h.blocks), r2] : List Int)) ++ r3) ++ r4).length + r5.length)) then (num_Put64.F h.vector.old1 fun r6 => (bif (fits (((((bytesOfInts ([(IntKind.u8.wrap h.blocks), r2] : List Int)) ++ r3) ++ r4) ++ r5).length + r6.length)) then (num_Put32.F h.mask fun r7 => (bif (fits ((((((bytesOfInts ([(IntKind.u8.wrap h.blocks), r2] : List Int)) ++ r3) ++ r4) ++ r5) ++ r6).length + r7.length)) then (K (((((((bytesOfInts ([(IntKind.u8.wrap h.blocks), r2] : List Int)) ++ r3) ++ r4) ++ r5) ++ r6) ++ r7), 0)) else False)) else False)) else False)) else False)) else False)))))
noncomputable def en : Entry := mkEntry [(.st 4)] (cTwo .str (.int .i64)) fun x => F x.1
noncomputable def tabV (f0 : Hello → (Bool → Prop) → Prop) (f1 : (List Bool) → (Int → Prop) → Prop) (f2 : Int → (Str → Prop) → Prop) (f3 : Int → (Str → Prop) → Prop) : Tab := [(22, mkEntry [(.st 4)] (cTy .bool) fun x => f0 x.1), (35, mkEntry [(.slice .bool)] (cTy (.int .u8)) fun x => f1 x.1), (18, mkEntry [(.int .u64)] (cTy .str) fun x => f2 x.1), (36, mkEntry [(.int .u32)] (cTy .str) fun x => f3 x.1)]
theorem tabE : tab = tabV hello_Right.F num_Flags.F num_Put64.F num_Put32.F := by kernel_rfl
theorem eqv (f0 : Hello → (Bool → Prop) → Prop) (f1 : (List Bool) → (Int → Prop) → Prop) (f2 : Int → (Str → Prop) → Prop) (f3 : Int → (Str → Prop) → Prop) (h : Hello) (K : (Str × Int) → Prop) : apure E (tabV f0 f1 f2 f3) (fun _ => none) 4 19 [enc (.st 4) h] (ansK ((cTwo .str (.int .i64))) K) =
  (f0 h fun r1 => (bif (!r1) then (K (([] : Str), 1)) else (f1 ([h.inc, h.was, h.dis, h.pri] : List Bool) fun r2 => (f2 h.vector.current fun r3 => (bif (fits ((bytesOfInts ([(IntKind.u8.wrap h.blocks), r2] : List Int)).length + r3.length)) then (f2 h.vector.bitmap fun r4 => (bif (fits (((bytesOfInts ([(IntKind.u8.wrap h.blocks), r2] : List Int)) ++ r3).length + r4.length)) then (f2 h.vector.old0 fun r5 => (bif (fits ((((bytesOfInts ([(IntKind.u8.wrap h.blocks), r2] : List Int)) ++ r3) ++ r4).length + r5.length)) then (f2 h.vector.old1 fun r6 => (bif (fits (((((bytesOfInts ([(IntKind.u8.wrap h.blocks), r2] : List Int)) ++ r3) ++ r4) ++ r5).length + r6.length)) then (f3 h.mask fun r7 => (bif (fits ((((((bytesOfInts ([(IntKind.u8.wrap h.blocks), r2] : List Int)) ++ r3) ++ r4) ++ r5) ++ r6).length + r7.length)) then (K (((((((bytesOfInts ([(IntKind.u8.wrap h.blocks), r2] : List Int)) ++ r3) ++ r4) ++ r5) ++ r6) ++ r7), 0)) else False)) else False)) else False)) else False)) else False))))) := by kernel_rfl
theorem eq (x : Dens [(.st 4)]) (K : (Str × Int) → Prop) : apure E tab (fun _ => none) 4 19 (encA [(.st 4)] x) (ansK ((cTwo .str (.int .i64))) K) = F x.1 K := eqv hello_Right.F num_Flags.F num_Put64.F num_Put32.F x.1 K
theorem loops : LoopsOk E tab (fun _ => none) 4 19 := loops_none _ _ _ _
theorem det (h : Hello) : Det (F h) := by
  unfold F
  repeat' first | with_reducible exact det_ret _ | with_reducible exact det_false | with_reducible refine det_cond _ ?_ ?_ | with_reducible refine det_oget _ (fun _ => ?_) | with_reducible exact hello_Right.det _ | with_reducible refine det_bind (hello_Right.det _) (fun _ => ?_) | with_reducible exact num_Flags.det _ | with_reducible refine det_bind (num_Flags.det _) (fun _ => ?_) | with_reducible exact num_Put64.det _ | with_reducible refine det_bind (num_Put64.det _) (fun _ => ?_) | with_reducible exact num_Put32.det _ | with_reducible refine det_bind (num_Put32.det _) (fun _ => ?_)
theorem edet (args : List AV) : Det (en args) := mkEntry_det (ts := [(.st 4)]) (cod := (cTwo .str (.int .i64))) (F := fun x => F x.1) (fun x => det x.1) args
theorem ground : Ground E tab := ⟨num, mixed, (tab_cons hello_Right.sound (tab_cons num_Flags.sound (tab_cons num_Put64.sound (tab_cons num_Put32.sound (tab_nil _))))), clone, (dtab_cons hello_Right.edet (dtab_cons num_Flags.edet (dtab_cons num_Put64.edet (dtab_cons num_Put32.edet dtab_nil)))), stab⟩
theorem has : ((E.P.funcs[19]?).bind (·.body)).isSome = true := by kernel_rfl
theorem sound : EntrySound E 19 en := mkSound (ts := [(.st 4)]) (cod := (cTwo .str (.int .i64))) (F := fun x => F x.1) ground loops has eq
end hello_Encode
namespace hello_Decode
noncomputable def tab : Tab := [(65, num_Unflag.en), (46, num_Get64.en), (57, num_Get32.en), (22, hello_Right.en)]
def F (b_0 : Str) (K : (Hello × Int) → Prop) : Prop :=
  (bif ((b_0.length : Int) != 38) then (K ((⟨0, (⟨0, 0, 0, 0⟩ : Vec), false, false, false, false, 0⟩ : Hello), 2)) else (oget (getI b_0 1) fun v1 => (num_Unflag.F (v1.toNat : Int) 4 fun r2 => (bif (!r2.2) then (K ((⟨0, (⟨0, 0, 0, 0⟩ : Vec), false, false, false, false, 0⟩ : Hello), 2)) else (oget (getI b_0 0) fun v3 => (oget (getI r2.1 0) fun v4 => (oget (getI r2.1 1) fun v5 => (oget (getI r2.1 2) fun v6 => (oget (getI r2.1 3) fun v7 => (bif (decide (0 ≤ 2) && decide (2 ≤ 10) && decide (10 ≤ (b_0.length : Int))) then (num_Get64.F (sub b_0 (Int.toNat 2) (Int.toNat 10)) fun r8 => (bif (decide (0 ≤ 10) && decide (10 ≤ 18) && decide (18 ≤ (b_0.length : Int))) then (num_Get64.F (sub b_0 (Int.toNat 10) (Int.toNat 18)) fun r9 => (bif (decide (0 ≤ 18) && decide (18 ≤ 26) && decide (26 ≤ (b_0.length : Int))) then (num_Get64.F (sub b_0 (Int.toNat 18) (Int.toNat 26)) fun r10 => (bif (decide (0 ≤ 26) && decide (26 ≤ 34) && decide (34 ≤ (b_0.length : Int))) then (num_Get64.F (sub b_0 (Int.toNat 26) (Int.toNat 34)) fun r11 => (bif (decide (0 ≤ 34) && decide (34 ≤ (b_0.length : Int))) then (num_Get32.F (sub b_0 (Int.toNat 34) b_0.length) fun r12 => (hello_Right.F (⟨(IntKind.i64.wrap (v3.toNat : Int)), (⟨r8.1, r9.1, r10.1, r11.1⟩ : Vec), v4, v5, v6, v7, r12.1⟩ : Hello) fun r13 => (bif (!r13) then (K ((⟨0, (⟨0, 0, 0, 0⟩ : Vec), false, false, false, false, 0⟩ : Hello), 2)) else (K ((⟨(IntKind.i64.wrap (v3.toNat : Int)), (⟨r8.1, r9.1, r10.1, r11.1⟩ : Vec), v4, v5, v6, v7, r12.1⟩ : Hello), 0))))) else False)) else False)) else False)) else False)) else False))))))))))
noncomputable def en : Entry := mkEntry [.str] (cTwo (.st 4) (.int .i64)) fun x => F x.1
noncomputable def tabV (f0 : Int → Int → (((List Bool) × Bool) → Prop) → Prop) (f1 : Str → ((Int × Bool) → Prop) → Prop) (f2 : Str → ((Int × Bool) → Prop) → Prop) (f3 : Hello → (Bool → Prop) → Prop) : Tab := [(65, mkEntry [(.int .u8), (.int .i64)] (cTwo (.slice .bool) .bool) fun x => f0 x.1 x.2.1), (46, mkEntry [.str] (cTwo (.int .u64) .bool) fun x => f1 x.1), (57, mkEntry [.str] (cTwo (.int .u32) .bool) fun x => f2 x.1), (22, mkEntry [(.st 4)] (cTy .bool) fun x => f3 x.1)]
theorem tabE : tab = tabV num_Unflag.F num_Get64.F num_Get32.F hello_Right.F := by kernel_rfl
theorem eqv (f0 : Int → Int → (((List Bool) × Bool) → Prop) → Prop) (f1 : Str → ((Int × Bool) → Prop) → Prop) (f2 : Str → ((Int × Bool) → Prop) → Prop) (f3 : Hello → (Bool → Prop) → Prop) (b_0 : Str) (K : (Hello × Int) → Prop) : apure E (tabV f0 f1 f2 f3) (fun _ => none) 4 59 [enc .str b_0] (ansK ((cTwo (.st 4) (.int .i64))) K) =
  (bif ((b_0.length : Int) != 38) then (K ((⟨0, (⟨0, 0, 0, 0⟩ : Vec), false, false, false, false, 0⟩ : Hello), 2)) else (oget (getI b_0 1) fun v1 => (f0 (v1.toNat : Int) 4 fun r2 => (bif (!r2.2) then (K ((⟨0, (⟨0, 0, 0, 0⟩ : Vec), false, false, false, false, 0⟩ : Hello), 2)) else (oget (getI b_0 0) fun v3 => (oget (getI r2.1 0) fun v4 => (oget (getI r2.1 1) fun v5 => (oget (getI r2.1 2) fun v6 => (oget (getI r2.1 3) fun v7 => (bif (decide (0 ≤ 2) && decide (2 ≤ 10) && decide (10 ≤ (b_0.length : Int))) then (f1 (sub b_0 (Int.toNat 2) (Int.toNat 10)) fun r8 => (bif (decide (0 ≤ 10) && decide (10 ≤ 18) && decide (18 ≤ (b_0.length : Int))) then (f1 (sub b_0 (Int.toNat 10) (Int.toNat 18)) fun r9 => (bif (decide (0 ≤ 18) && decide (18 ≤ 26) && decide (26 ≤ (b_0.length : Int))) then (f1 (sub b_0 (Int.toNat 18) (Int.toNat 26)) fun r10 => (bif (decide (0 ≤ 26) && decide (26 ≤ 34) && decide (34 ≤ (b_0.length : Int))) then (f1 (sub b_0 (Int.toNat 26) (Int.toNat 34)) fun r11 => (bif (decide (0 ≤ 34) && decide (34 ≤ (b_0.length : Int))) then (f2 (sub b_0 (Int.toNat 34) b_0.length) fun r12 => (f3 (⟨(IntKind.i64.wrap (v3.toNat : Int)), (⟨r8.1, r9.1, r10.1, r11.1⟩ : Vec), v4, v5, v6, v7, r12.1⟩ : Hello) fun r13 => (bif (!r13) then (K ((⟨0, (⟨0, 0, 0, 0⟩ : Vec), false, false, false, false, 0⟩ : Hello), 2)) else (K ((⟨(IntKind.i64.wrap (v3.toNat : Int)), (⟨r8.1, r9.1, r10.1, r11.1⟩ : Vec), v4, v5, v6, v7, r12.1⟩ : Hello), 0))))) else False)) else False)) else False)) else False)) else False)))))))))) := by kernel_rfl
theorem eq (x : Dens [.str]) (K : (Hello × Int) → Prop) : apure E tab (fun _ => none) 4 59 (encA [.str] x) (ansK ((cTwo (.st 4) (.int .i64))) K) = F x.1 K := eqv num_Unflag.F num_Get64.F num_Get32.F hello_Right.F x.1 K
theorem loops : LoopsOk E tab (fun _ => none) 4 59 := loops_none _ _ _ _
theorem det (b_0 : Str) : Det (F b_0) := by
  unfold F
  repeat' first | with_reducible exact det_ret _ | with_reducible exact det_false | with_reducible refine det_cond _ ?_ ?_ | with_reducible refine det_oget _ (fun _ => ?_) | with_reducible exact num_Unflag.det _ _ | with_reducible refine det_bind (num_Unflag.det _ _) (fun _ => ?_) | with_reducible exact num_Get64.det _ | with_reducible refine det_bind (num_Get64.det _) (fun _ => ?_) | with_reducible exact num_Get32.det _ | with_reducible refine det_bind (num_Get32.det _) (fun _ => ?_) | with_reducible exact hello_Right.det _ | with_reducible refine det_bind (hello_Right.det _) (fun _ => ?_)
theorem edet (args : List AV) : Det (en args) := mkEntry_det (ts := [.str]) (cod := (cTwo (.st 4) (.int .i64))) (F := fun x => F x.1) (fun x => det x.1) args
theorem ground : Ground E tab := ⟨num, mixed, (tab_cons num_Unflag.sound (tab_cons num_Get64.sound (tab_cons num_Get32.sound (tab_cons hello_Right.sound (tab_nil _))))), clone, (dtab_cons num_Unflag.edet (dtab_cons num_Get64.edet (dtab_cons num_Get32.edet (dtab_cons hello_Right.edet dtab_nil)))), stab⟩
theorem has : ((E.P.funcs[59]?).bind (·.body)).isSome = true := by kernel_rfl
theorem sound : EntrySound E 59 en := mkSound (ts := [.str]) (cod := (cTwo (.st 4) (.int .i64))) (F := fun x => F x.1) ground loops has eq
end hello_Decode
namespace ref03_pow
noncomputable def tab : Tab := []
structure R where
def cR (_ : R) : St := { fr := fun _ => .top, hs := hs0 }
def kR : Keep := { ks := [], bs := [], hn := 0 }
structure L0 where
  n0 : Int
  p : Int
  i : Int
def c0 (x : L0) : St := { fr := lookL .top [(0, (.int .i64 x.n0)), (3, (.int .u32 x.p)), (4, (.int .i64 x.i))], hs := { hp := lookL .dead [], hn := 0 } }
def kp0 : Keep := { ks := [(0, none), (3, none), (4, none)], bs := [], hn := 0 }
def p0 (st : St) (K : L0 → Prop) : Prop := gInt .i64 (st.fr 0) fun a1 => gInt .u32 (st.fr 3) fun a2 => gInt .i64 (st.fr 4) fun a3 => K ⟨a1, a2, a3⟩
theorem p0_ok (st : St) (K : L0 → Prop) (h : p0 st K) : ∃ x, keepSt kp0 st = c0 x ∧ K x := by
  obtain ⟨a1, h0, h⟩ := gInt_elim h
  obtain ⟨a2, h1, h⟩ := gInt_elim h
  obtain ⟨a3, h2, h⟩ := gInt_elim h
  refine ⟨_, ?_, h⟩
  simp only [keepSt, kp0, List.map, h0, h1, h2]
  rfl
def b0 (rec kx : L0 → Prop) (kr : R → Prop) (x : L0) : Prop :=
  (bif (decide (x.i < x.n0)) then (rec ⟨x.n0, (IntKind.u32.wrap (2 * x.p)), (IntKind.i64.wrap (x.i + 1))⟩) else (kx ⟨x.n0, x.p, x.i⟩))
def l0 : LSpec := mkLoop 0 kp0 kR p0 c0 cR b0
def lt : Nat → Option LSpec
  | 0 => some l0
  | _ => none
def F (n_0 : Int) (K : Int → Prop) : Prop :=
  (∃ n, loopB b0 n (fun x1 => (K x1.p)) (fun _ => False) ⟨n_0, 1, 0⟩)
noncomputable def en : Entry := mkEntry [(.int .i64)] (cTy (.int .u32)) fun x => F x.1
theorem eq (x : Dens [(.int .i64)]) (K : Int → Prop) : apure E tab lt 4 64 (encA [(.int .i64)] x) (ansK ((cTy (.int .u32))) K) = F x.1 K := by kernel_rfl
theorem l0_ok : LSound E tab (afun E tab 4) 13 lt 0 ((loopsIn E.P 64).getD 0 (0, .skip)).2 l0 := mkLoop_sound (by decide) (by decide) p0_ok (fun R Kx Kr x => by kernel_rfl)
theorem loops : LoopsOk E tab lt 4 64 := loops_of (nt := 13) (ids := [0]) (by kernel_rfl) (by kernel_rfl) (by
  intro k i hk l hl
  match k, hk with
  | 0, hk => cases hk; cases hl; exact l0_ok
  | _ + 1, hk => exact absurd hk (by simp))
theorem det (n_0 : Int) : Det (F n_0) := by
  unfold F
  repeat' first | with_reducible exact det_ret _ | with_reducible exact det_false | with_reducible refine det_cond _ ?_ ?_ | with_reducible refine det_oget _ (fun _ => ?_) | with_reducible refine det_loop (fun _ => ?_) (fun _ => ?_) (fun _ => ?_) _ | unfold b0
theorem edet (args : List AV) : Det (en args) := mkEntry_det (ts := [(.int .i64)]) (cod := (cTy (.int .u32))) (F := fun x => F x.1) (fun x => det x.1) args
theorem ground : Ground E tab := ⟨num, mixed, (tab_nil _), clone, dtab_nil, stab⟩
theorem has : ((E.P.funcs[64]?).bind (·.body)).isSome = true := by kernel_rfl
theorem sound : EntrySound E 64 en := mkSound (ts := [(.int .i64)]) (cod := (cTy (.int .u32))) (F := fun x => F x.1) ground loops has eq
end ref03_pow
namespace ref03_Has
noncomputable def tab : Tab := [(64, ref03_pow.en)]
def F (m : Int) (i : Int) (K : Bool → Prop) : Prop :=
  (bif (decide (i ≥ 0)) then (bif (decide (i < 32)) then (ref03_pow.F i fun r1 => (bif (r1 == 0) then False else (bif (2 == 0) then False else (K (((IntKind.u32.wrap (m.tdiv r1)).tmod 2) == 1))))) else (K false)) else (K false))
noncomputable def en : Entry := mkEntry [(.int .u32), (.int .i64)] (cTy .bool) fun x => F x.1 x.2.1
noncomputable def tabV (f0 : Int → (Int → Prop) → Prop) : Tab := [(64, mkEntry [(.int .i64)] (cTy (.int .u32)) fun x => f0 x.1)]
theorem tabE : tab = tabV ref03_pow.F := by kernel_rfl
theorem eqv (f0 : Int → (Int → Prop) → Prop) (m : Int) (i : Int) (K : Bool → Prop) : apure E (tabV f0) (fun _ => none) 4 56 [enc (.int .u32) m, enc (.int .i64) i] (ansK ((cTy .bool)) K) =
  (bif (decide (i ≥ 0)) then (bif (decide (i < 32)) then (f0 i fun r1 => (bif (r1 == 0) then False else (bif (2 == 0) then False else (K (((IntKind.u32.wrap (m.tdiv r1)).tmod 2) == 1))))) else (K false)) else (K false)) := by kernel_rfl
theorem eq (x : Dens [(.int .u32), (.int .i64)]) (K : Bool → Prop) : apure E tab (fun _ => none) 4 56 (encA [(.int .u32), (.int .i64)] x) (ansK ((cTy .bool)) K) = F x.1 x.2.1 K := eqv ref03_pow.F x.1 x.2.1 K
theorem loops : LoopsOk E tab (fun _ => none) 4 56 := loops_none _ _ _ _
theorem det (m : Int) (i : Int) : Det (F m i) := by
  unfold F
  repeat' first | with_reducible exact det_ret _ | with_reducible exact det_false | with_reducible refine det_cond _ ?_ ?_ | with_reducible refine det_oget _ (fun _ => ?_) | with_reducible exact ref03_pow.det _ | with_reducible refine det_bind (ref03_pow.det _) (fun _ => ?_)
theorem edet (args : List AV) : Det (en args) := mkEntry_det (ts := [(.int .u32), (.int .i64)]) (cod := (cTy .bool)) (F := fun x => F x.1 x.2.1) (fun x => det x.1 x.2.1) args
theorem ground : Ground E tab := ⟨num, mixed, (tab_cons ref03_pow.sound (tab_nil _)), clone, (dtab_cons ref03_pow.edet dtab_nil), stab⟩
theorem has : ((E.P.funcs[56]?).bind (·.body)).isSome = true := by kernel_rfl
theorem sound : EntrySound E 56 en := mkSound (ts := [(.int .u32), (.int .i64)]) (cod := (cTy .bool)) (F := fun x => F x.1 x.2.1) ground loops has eq
end ref03_Has
namespace ref03_Right
noncomputable def tab : Tab := [(56, ref03_Has.en)]
structure R where
  t4 : Bool
def cR (x : R) : St := { fr := lookL .top [(4, (.bool x.t4))], hs := { hp := lookL .dead [], hn := 0 } }
def kR : Keep := { ks := [(4, none)], bs := [], hn := 0 }
structure L0 where
  m : Int
  i : Int
def c0 (x : L0) : St := { fr := lookL .top [(0, (.int .u32 x.m)), (5, (.int .i64 x.i))], hs := { hp := lookL .dead [], hn := 0 } }
def kp0 : Keep := { ks := [(0, none), (5, none)], bs := [], hn := 0 }
def p0 (st : St) (K : L0 → Prop) : Prop := gInt .u32 (st.fr 0) fun a1 => gInt .i64 (st.fr 5) fun a2 => K ⟨a1, a2⟩
theorem p0_ok (st : St) (K : L0 → Prop) (h : p0 st K) : ∃ x, keepSt kp0 st = c0 x ∧ K x := by
  obtain ⟨a1, h0, h⟩ := gInt_elim h
  obtain ⟨a2, h1, h⟩ := gInt_elim h
  refine ⟨_, ?_, h⟩
  simp only [keepSt, kp0, List.map, h0, h1]
  rfl
def b0 (rec kx : L0 → Prop) (kr : R → Prop) (x : L0) : Prop :=
  (bif (decide (x.i < 32)) then (ref03_Has.F x.m x.i fun r1 => (bif r1 then (kr ⟨false⟩) else (rec ⟨x.m, (IntKind.i64.wrap (x.i + 1))⟩))) else (kx ⟨x.m, x.i⟩))
def l0 : LSpec := mkLoop 0 kp0 kR p0 c0 cR b0
def lt : Nat → Option LSpec
  | 0 => some l0
  | _ => none
def F (m : Int) (blocks : Int) (K : Bool → Prop) : Prop :=
  (bif (decide (blocks < 1)) then (K false) else (bif (decide (blocks > 32)) then (K false) else (∃ n, loopB b0 n (fun x2 => (K true)) (fun r3 => (K r3.t4)) ⟨m, blocks⟩)))
noncomputable def en : Entry := mkEntry [(.int .u32), (.int .i64)] (cTy .bool) fun x => F x.1 x.2.1
noncomputable def tabV (f0 : Int → Int → (Bool → Prop) → Prop) : Tab := [(56, mkEntry [(.int .u32), (.int .i64)] (cTy .bool) fun x => f0 x.1 x.2.1)]
theorem tabE : tab = tabV ref03_Has.F := by kernel_rfl
def b0V (f0 : Int → Int → (Bool → Prop) → Prop) (rec kx : L0 → Prop) (kr : R → Prop) (x : L0) : Prop :=
  (bif (decide (x.i < 32)) then (f0 x.m x.i fun r1 => (bif r1 then (kr ⟨false⟩) else (rec ⟨x.m, (IntKind.i64.wrap (x.i + 1))⟩))) else (kx ⟨x.m, x.i⟩))
def ltV (f0 : Int → Int → (Bool → Prop) → Prop) : Nat → Option LSpec
  | 0 => some (mkLoop 0 kp0 kR p0 c0 cR (b0V f0))
  | _ => none
theorem ltE : lt = ltV ref03_Has.F := by kernel_rfl
theorem eqv (f0 : Int → Int → (Bool → Prop) → Prop) (m : Int) (blocks : Int) (K : Bool → Prop) : apure E (tabV f0) (ltV f0) 4 43 [enc (.int .u32) m, enc (.int .i64) blocks] (ansK ((cTy .bool)) K) =
  (bif (decide (blocks < 1)) then (K false) else (bif (decide (blocks > 32)) then (K false) else (∃ n, loopB (b0V f0) n (fun x2 => (K true)) (fun r3 => (K r3.t4)) ⟨m, blocks⟩))) := by kernel_rfl
theorem eq (x : Dens [(.int .u32), (.int .i64)]) (K : Bool → Prop) : apure E tab lt 4 43 (encA [(.int .u32), (.int .i64)] x) (ansK ((cTy .bool)) K) = F x.1 x.2.1 K := by
  rw [tabE, ltE]
  exact eqv ref03_Has.F x.1 x.2.1 K
theorem l0v (f0 : Int → Int → (Bool → Prop) → Prop) (R : St → Prop) (Kx : Nat → St → Prop) (Kr : St → Prop) (x : L0) : acode E (tabV f0) (afun E (tabV f0) 4) 20 (ltV f0) ((loopsIn E.P 43).getD 0 (0, .skip)).2 0 (fun s => R (keepSt kp0 s)) (fun j s => Kx j (keepSt kp0 s)) (fun s => Kr (keepSt kR s)) (c0 x) =
    b0V f0 (fun x => R (c0 x)) (fun x => Kx 0 (c0 x)) (fun r => Kr (cR r)) x := by kernel_rfl
theorem l0_ok : LSound E tab (afun E tab 4) 20 lt 0 ((loopsIn E.P 43).getD 0 (0, .skip)).2 l0 := mkLoop_sound (by decide) (by decide) p0_ok (fun R Kx Kr x => by
  rw [tabE, ltE]
  exact l0v ref03_Has.F R Kx Kr x)
theorem loops : LoopsOk E tab lt 4 43 := loops_of (nt := 20) (ids := [0]) (by kernel_rfl) (by kernel_rfl) (by
  intro k i hk l hl
  match k, hk with
  | 0, hk => cases hk; cases hl; exact l0_ok
  | _ + 1, hk => exact absurd hk (by simp))
theorem det (m : Int) (blocks : Int) : Det (F m blocks) := by
  unfold F
  repeat' first | with_reducible exact det_ret _ | with_reducible exact det_false | with_reducible refine det_cond _ ?_ ?_ | with_reducible refine det_oget _ (fun _ => ?_) | with_reducible exact ref03_Has.det _ _ | with_reducible refine det_bind (ref03_Has.det _ _) (fun _ => ?_) | with_reducible refine det_loop (fun _ => ?_) (fun _ => ?_) (fun _ => ?_) _ | unfold b0
theorem edet (args : List AV) : Det (en args) := mkEntry_det (ts := [(.int .u32), (.int .i64)]) (cod := (cTy .bool)) (F := fun x => F x.1 x.2.1) (fun x => det x.1 x.2.1) args
theorem ground : Ground E tab := ⟨num, mixed, (tab_cons ref03_Has.sound (tab_nil _)), clone, (dtab_cons ref03_Has.edet dtab_nil), stab⟩
theorem has : ((E.P.funcs[43]?).bind (·.body)).isSome = true := by kernel_rfl
theorem sound : EntrySound E 43 en := mkSound (ts := [(.int .u32), (.int .i64)]) (cod := (cTy .bool)) (F := fun x => F x.1 x.2.1) ground loops has eq
end ref03_Right
namespace ref10_Right
noncomputable def tab : Tab := [(43, ref03_Right.en)]
def F (h : Hello) (K : Bool → Prop) : Prop :=
  (bif (decide (h.blocks ≥ 1)) then (bif (decide (h.blocks ≤ 32)) then (bif (h.vector.current != 0) then (ref03_Right.F h.mask h.blocks fun r1 => (bif r1 then (bif h.pri then (bif (!h.was) then (bif h.pri then (K (!h.inc)) else (K true)) else (K false)) else (bif h.pri then (K (!h.inc)) else (K true))) else (K false))) else (K false)) else (K false)) else (K false))
noncomputable def en : Entry := mkEntry [(.st 4)] (cTy .bool) fun x => F x.1
noncomputable def tabV (f0 : Int → Int → (Bool → Prop) → Prop) : Tab := [(43, mkEntry [(.int .u32), (.int .i64)] (cTy .bool) fun x => f0 x.1 x.2.1)]
theorem tabE : tab = tabV ref03_Right.F := by kernel_rfl
theorem eqv (f0 : Int → Int → (Bool → Prop) → Prop) (h : Hello) (K : Bool → Prop) : apure E (tabV f0) (fun _ => none) 4 24 [enc (.st 4) h] (ansK ((cTy .bool)) K) =
  (bif (decide (h.blocks ≥ 1)) then (bif (decide (h.blocks ≤ 32)) then (bif (h.vector.current != 0) then (f0 h.mask h.blocks fun r1 => (bif r1 then (bif h.pri then (bif (!h.was) then (bif h.pri then (K (!h.inc)) else (K true)) else (K false)) else (bif h.pri then (K (!h.inc)) else (K true))) else (K false))) else (K false)) else (K false)) else (K false)) := by kernel_rfl
theorem eq (x : Dens [(.st 4)]) (K : Bool → Prop) : apure E tab (fun _ => none) 4 24 (encA [(.st 4)] x) (ansK ((cTy .bool)) K) = F x.1 K := eqv ref03_Right.F x.1 K
theorem loops : LoopsOk E tab (fun _ => none) 4 24 := loops_none _ _ _ _
theorem det (h : Hello) : Det (F h) := by
  unfold F
  repeat' first | with_reducible exact det_ret _ | with_reducible exact det_false | with_reducible refine det_cond _ ?_ ?_ | with_reducible refine det_oget _ (fun _ => ?_) | with_reducible exact ref03_Right.det _ _ | with_reducible refine det_bind (ref03_Right.det _ _) (fun _ => ?_)
theorem edet (args : List AV) : Det (en args) := mkEntry_det (ts := [(.st 4)]) (cod := (cTy .bool)) (F := fun x => F x.1) (fun x => det x.1) args
theorem ground : Ground E tab := ⟨num, mixed, (tab_cons ref03_Right.sound (tab_nil _)), clone, (dtab_cons ref03_Right.edet dtab_nil), stab⟩
theorem has : ((E.P.funcs[24]?).bind (·.body)).isSome = true := by kernel_rfl
theorem sound : EntrySound E 24 en := mkSound (ts := [(.st 4)]) (cod := (cTy .bool)) (F := fun x => F x.1) ground loops has eq
end ref10_Right
namespace ref10_Encode
noncomputable def tab : Tab := [(24, ref10_Right.en), (53, ref01_Flags.en), (38, ref01_Put64.en), (27, ref01_Put32.en)]
def F (h : Hello) (K : (Str × Int) → Prop) : Prop :=
  (ref10_Right.F h fun r1 => (bif (!r1) then (K (([] : Str), 1)) else (ref01_Flags.F ([h.inc, h.was, h.dis, h.pri] : List Bool) fun r2 => (ref01_Put64.F h.vector.current fun r3 => (bif (fits ((bytesOfInts ([(IntKind.u8.wrap h.blocks), r2] : List Int)).length + r3.length)) then (ref01_Put64.F h.vector.bitmap fun r4 => (bif (fits (((bytesOfInts ([(IntKind.u8.wrap h.blocks), r2] : List Int)) ++ r3).length + r4.length)) then (ref01_Put64.F h.vector.old0 fun r5 => (bif (fits ((((bytesOfInts ([(IntKind.u8.wrap h.blocks), r2] : List Int)) ++ r3) ++ r4).length + r5.length)) then (ref01_Put64.F h.vector.old1 fun r6 => (bif (fits (((((bytesOfInts ([(IntKind.u8.wrap h.blocks), r2] : List Int)) ++ r3) ++ r4) ++ r5).length + r6.length)) then (ref01_Put32.F h.mask fun r7 => (bif (fits ((((((bytesOfInts ([(IntKind.u8.wrap h.blocks), r2] : List Int)) ++ r3) ++ r4) ++ r5) ++ r6).length + r7.length)) then (K (((((((bytesOfInts ([(IntKind.u8.wrap h.blocks), r2] : List Int)) ++ r3) ++ r4) ++ r5) ++ r6) ++ r7), 0)) else False)) else False)) else False)) else False)) else False)))))
noncomputable def en : Entry := mkEntry [(.st 4)] (cTwo .str (.int .i64)) fun x => F x.1
noncomputable def tabV (f0 : Hello → (Bool → Prop) → Prop) (f1 : (List Bool) → (Int → Prop) → Prop) (f2 : Int → (Str → Prop) → Prop) (f3 : Int → (Str → Prop) → Prop) : Tab := [(24, mkEntry [(.st 4)] (cTy .bool) fun x => f0 x.1), (53, mkEntry [(.slice .bool)] (cTy (.int .u8)) fun x => f1 x.1), (38, mkEntry [(.int .u64)] (cTy .str) fun x => f2 x.1), (27, mkEntry [(.int .u32)] (cTy .str) fun x => f3 x.1)]
theorem tabE : tab = tabV ref10_Right.F ref01_Flags.F ref01_Put64.F ref01_Put32.F := by kernel_rfl
theorem eqv (f0 : Hello → (Bool → Prop) → Prop) (f1 : (List Bool) → (Int → Prop) → Prop) (f2 : Int → (Str → Prop) → Prop) (f3 : Int → (Str → Prop) → Prop) (h : Hello) (K : (Str × Int) → Prop) : apure E (tabV f0 f1 f2 f3) (fun _ => none) 4 39 [enc (.st 4) h] (ansK ((cTwo .str (.int .i64))) K) =
  (f0 h fun r1 => (bif (!r1) then (K (([] : Str), 1)) else (f1 ([h.inc, h.was, h.dis, h.pri] : List Bool) fun r2 => (f2 h.vector.current fun r3 => (bif (fits ((bytesOfInts ([(IntKind.u8.wrap h.blocks), r2] : List Int)).length + r3.length)) then (f2 h.vector.bitmap fun r4 => (bif (fits (((bytesOfInts ([(IntKind.u8.wrap h.blocks), r2] : List Int)) ++ r3).length + r4.length)) then (f2 h.vector.old0 fun r5 => (bif (fits ((((bytesOfInts ([(IntKind.u8.wrap h.blocks), r2] : List Int)) ++ r3) ++ r4).length + r5.length)) then (f2 h.vector.old1 fun r6 => (bif (fits (((((bytesOfInts ([(IntKind.u8.wrap h.blocks), r2] : List Int)) ++ r3) ++ r4) ++ r5).length + r6.length)) then (f3 h.mask fun r7 => (bif (fits ((((((bytesOfInts ([(IntKind.u8.wrap h.blocks), r2] : List Int)) ++ r3) ++ r4) ++ r5) ++ r6).length + r7.length)) then (K (((((((bytesOfInts ([(IntKind.u8.wrap h.blocks), r2] : List Int)) ++ r3) ++ r4) ++ r5) ++ r6) ++ r7), 0)) else False)) else False)) else False)) else False)) else False))))) := by kernel_rfl
theorem eq (x : Dens [(.st 4)]) (K : (Str × Int) → Prop) : apure E tab (fun _ => none) 4 39 (encA [(.st 4)] x) (ansK ((cTwo .str (.int .i64))) K) = F x.1 K := eqv ref10_Right.F ref01_Flags.F ref01_Put64.F ref01_Put32.F x.1 K
theorem loops : LoopsOk E tab (fun _ => none) 4 39 := loops_none _ _ _ _
theorem det (h : Hello) : Det (F h) := by
  unfold F
  repeat' first | with_reducible exact det_ret _ | with_reducible exact det_false | with_reducible refine det_cond _ ?_ ?_ | with_reducible refine det_oget _ (fun _ => ?_) | with_reducible exact ref10_Right.det _ | with_reducible refine det_bind (ref10_Right.det _) (fun _ => ?_) | with_reducible exact ref01_Flags.det _ | with_reducible refine det_bind (ref01_Flags.det _) (fun _ => ?_) | with_reducible exact ref01_Put64.det _ | with_reducible refine det_bind (ref01_Put64.det _) (fun _ => ?_) | with_reducible exact ref01_Put32.det _ | with_reducible refine det_bind (ref01_Put32.det _) (fun _ => ?_)
theorem edet (args : List AV) : Det (en args) := mkEntry_det (ts := [(.st 4)]) (cod := (cTwo .str (.int .i64))) (F := fun x => F x.1) (fun x => det x.1) args
theorem ground : Ground E tab := ⟨num, mixed, (tab_cons ref10_Right.sound (tab_cons ref01_Flags.sound (tab_cons ref01_Put64.sound (tab_cons ref01_Put32.sound (tab_nil _))))), clone, (dtab_cons ref10_Right.edet (dtab_cons ref01_Flags.edet (dtab_cons ref01_Put64.edet (dtab_cons ref01_Put32.edet dtab_nil)))), stab⟩
theorem has : ((E.P.funcs[39]?).bind (·.body)).isSome = true := by kernel_rfl
theorem sound : EntrySound E 39 en := mkSound (ts := [(.st 4)]) (cod := (cTwo .str (.int .i64))) (F := fun x => F x.1) ground loops has eq
end ref10_Encode
namespace ref10_number
noncomputable def tab : Tab := [(32, ref01_Get64.en)]
def F (b_0 : Str) (at_1 : Int) (K : Int → Prop) : Prop :=
  (bif (decide (0 ≤ at_1) && decide (at_1 ≤ (IntKind.i64.wrap (at_1 + 8))) && decide ((IntKind.i64.wrap (at_1 + 8)) ≤ (b_0.length : Int))) then (ref01_Get64.F (sub b_0 (Int.toNat at_1) (Int.toNat (IntKind.i64.wrap (at_1 + 8)))) fun r1 => (K r1.1)) else False)
noncomputable def en : Entry := mkEntry [.str, (.int .i64)] (cTy (.int .u64)) fun x => F x.1 x.2.1
noncomputable def tabV (f0 : Str → ((Int × Bool) → Prop) → Prop) : Tab := [(32, mkEntry [.str] (cTwo (.int .u64) .bool) fun x => f0 x.1)]
theorem tabE : tab = tabV ref01_Get64.F := by kernel_rfl
theorem eqv (f0 : Str → ((Int × Bool) → Prop) → Prop) (b_0 : Str) (at_1 : Int) (K : Int → Prop) : apure E (tabV f0) (fun _ => none) 4 52 [enc .str b_0, enc (.int .i64) at_1] (ansK ((cTy (.int .u64))) K) =
  (bif (decide (0 ≤ at_1) && decide (at_1 ≤ (IntKind.i64.wrap (at_1 + 8))) && decide ((IntKind.i64.wrap (at_1 + 8)) ≤ (b_0.length : Int))) then (f0 (sub b_0 (Int.toNat at_1) (Int.toNat (IntKind.i64.wrap (at_1 + 8)))) fun r1 => (K r1.1)) else False) := by kernel_rfl
theorem eq (x : Dens [.str, (.int .i64)]) (K : Int → Prop) : apure E tab (fun _ => none) 4 52 (encA [.str, (.int .i64)] x) (ansK ((cTy (.int .u64))) K) = F x.1 x.2.1 K := eqv ref01_Get64.F x.1 x.2.1 K
theorem loops : LoopsOk E tab (fun _ => none) 4 52 := loops_none _ _ _ _
theorem det (b_0 : Str) (at_1 : Int) : Det (F b_0 at_1) := by
  unfold F
  repeat' first | with_reducible exact det_ret _ | with_reducible exact det_false | with_reducible refine det_cond _ ?_ ?_ | with_reducible refine det_oget _ (fun _ => ?_) | with_reducible exact ref01_Get64.det _ | with_reducible refine det_bind (ref01_Get64.det _) (fun _ => ?_)
theorem edet (args : List AV) : Det (en args) := mkEntry_det (ts := [.str, (.int .i64)]) (cod := (cTy (.int .u64))) (F := fun x => F x.1 x.2.1) (fun x => det x.1 x.2.1) args
theorem ground : Ground E tab := ⟨num, mixed, (tab_cons ref01_Get64.sound (tab_nil _)), clone, (dtab_cons ref01_Get64.edet dtab_nil), stab⟩
theorem has : ((E.P.funcs[52]?).bind (·.body)).isSome = true := by kernel_rfl
theorem sound : EntrySound E 52 en := mkSound (ts := [.str, (.int .i64)]) (cod := (cTy (.int .u64))) (F := fun x => F x.1 x.2.1) ground loops has eq
end ref10_number
namespace ref10_Decode
noncomputable def tab : Tab := [(50, ref01_Unflag.en), (51, ref01_Get32.en), (52, ref10_number.en), (24, ref10_Right.en)]
def F (b_0 : Str) (K : (Hello × Int) → Prop) : Prop :=
  (bif ((b_0.length : Int) != 38) then (K ((⟨0, (⟨0, 0, 0, 0⟩ : Vec), false, false, false, false, 0⟩ : Hello), 2)) else (oget (getI b_0 1) fun v1 => (bif (decide ((v1.toNat : Int) > 15)) then (K ((⟨0, (⟨0, 0, 0, 0⟩ : Vec), false, false, false, false, 0⟩ : Hello), 2)) else (oget (getI b_0 1) fun v2 => (ref01_Unflag.F (v2.toNat : Int) 4 fun r3 => (bif (decide (0 ≤ 34) && decide (34 ≤ (b_0.length : Int))) then (ref01_Get32.F (sub b_0 (Int.toNat 34) b_0.length) fun r4 => (oget (getI b_0 0) fun v5 => (oget (getI r3.1 0) fun v6 => (oget (getI r3.1 1) fun v7 => (oget (getI r3.1 2) fun v8 => (oget (getI r3.1 3) fun v9 => (ref10_number.F b_0 2 fun r10 => (ref10_number.F b_0 10 fun r11 => (ref10_number.F b_0 18 fun r12 => (ref10_number.F b_0 26 fun r13 => (ref10_Right.F (⟨(IntKind.i64.wrap (v5.toNat : Int)), (⟨r10, r11, r12, r13⟩ : Vec), v6, v7, v8, v9, r4.1⟩ : Hello) fun r14 => (bif (!r14) then (K ((⟨0, (⟨0, 0, 0, 0⟩ : Vec), false, false, false, false, 0⟩ : Hello), 2)) else (K ((⟨(IntKind.i64.wrap (v5.toNat : Int)), (⟨r10, r11, r12, r13⟩ : Vec), v6, v7, v8, v9, r4.1⟩ : Hello), 0)))))))))))))) else False))))))
noncomputable def en : Entry := mkEntry [.str] (cTwo (.st 4) (.int .i64)) fun x => F x.1
noncomputable def tabV (f0 : Int → Int → (((List Bool) × Bool) → Prop) → Prop) (f1 : Str → ((Int × Bool) → Prop) → Prop) (f2 : Str → Int → (Int → Prop) → Prop) (f3 : Hello → (Bool → Prop) → Prop) : Tab := [(50, mkEntry [(.int .u8), (.int .i64)] (cTwo (.slice .bool) .bool) fun x => f0 x.1 x.2.1), (51, mkEntry [.str] (cTwo (.int .u32) .bool) fun x => f1 x.1), (52, mkEntry [.str, (.int .i64)] (cTy (.int .u64)) fun x => f2 x.1 x.2.1), (24, mkEntry [(.st 4)] (cTy .bool) fun x => f3 x.1)]
theorem tabE : tab = tabV ref01_Unflag.F ref01_Get32.F ref10_number.F ref10_Right.F := by kernel_rfl
theorem eqv (f0 : Int → Int → (((List Bool) × Bool) → Prop) → Prop) (f1 : Str → ((Int × Bool) → Prop) → Prop) (f2 : Str → Int → (Int → Prop) → Prop) (f3 : Hello → (Bool → Prop) → Prop) (b_0 : Str) (K : (Hello × Int) → Prop) : apure E (tabV f0 f1 f2 f3) (fun _ => none) 4 33 [enc .str b_0] (ansK ((cTwo (.st 4) (.int .i64))) K) =
  (bif ((b_0.length : Int) != 38) then (K ((⟨0, (⟨0, 0, 0, 0⟩ : Vec), false, false, false, false, 0⟩ : Hello), 2)) else (oget (getI b_0 1) fun v1 => (bif (decide ((v1.toNat : Int) > 15)) then (K ((⟨0, (⟨0, 0, 0, 0⟩ : Vec), false, false, false, false, 0⟩ : Hello), 2)) else (oget (getI b_0 1) fun v2 => (f0 (v2.toNat : Int) 4 fun r3 => (bif (decide (0 ≤ 34) && decide (34 ≤ (b_0.length : Int))) then (f1 (sub b_0 (Int.toNat 34) b_0.length) fun r4 => (oget (getI b_0 0) fun v5 => (oget (getI r3.1 0) fun v6 => (oget (getI r3.1 1) fun v7 => (oget (getI r3.1 2) fun v8 => (oget (getI r3.1 3) fun v9 => (f2 b_0 2 fun r10 => (f2 b_0 10 fun r11 => (f2 b_0 18 fun r12 => (f2 b_0 26 fun r13 => (f3 (⟨(IntKind.i64.wrap (v5.toNat : Int)), (⟨r10, r11, r12, r13⟩ : Vec), v6, v7, v8, v9, r4.1⟩ : Hello) fun r14 => (bif (!r14) then (K ((⟨0, (⟨0, 0, 0, 0⟩ : Vec), false, false, false, false, 0⟩ : Hello), 2)) else (K ((⟨(IntKind.i64.wrap (v5.toNat : Int)), (⟨r10, r11, r12, r13⟩ : Vec), v6, v7, v8, v9, r4.1⟩ : Hello), 0)))))))))))))) else False)))))) := by kernel_rfl
theorem eq (x : Dens [.str]) (K : (Hello × Int) → Prop) : apure E tab (fun _ => none) 4 33 (encA [.str] x) (ansK ((cTwo (.st 4) (.int .i64))) K) = F x.1 K := eqv ref01_Unflag.F ref01_Get32.F ref10_number.F ref10_Right.F x.1 K
theorem loops : LoopsOk E tab (fun _ => none) 4 33 := loops_none _ _ _ _
theorem det (b_0 : Str) : Det (F b_0) := by
  unfold F
  repeat' first | with_reducible exact det_ret _ | with_reducible exact det_false | with_reducible refine det_cond _ ?_ ?_ | with_reducible refine det_oget _ (fun _ => ?_) | with_reducible exact ref01_Unflag.det _ _ | with_reducible refine det_bind (ref01_Unflag.det _ _) (fun _ => ?_) | with_reducible exact ref01_Get32.det _ | with_reducible refine det_bind (ref01_Get32.det _) (fun _ => ?_) | with_reducible exact ref10_number.det _ _ | with_reducible refine det_bind (ref10_number.det _ _) (fun _ => ?_) | with_reducible exact ref10_Right.det _ | with_reducible refine det_bind (ref10_Right.det _) (fun _ => ?_)
theorem edet (args : List AV) : Det (en args) := mkEntry_det (ts := [.str]) (cod := (cTwo (.st 4) (.int .i64))) (F := fun x => F x.1) (fun x => det x.1) args
theorem ground : Ground E tab := ⟨num, mixed, (tab_cons ref01_Unflag.sound (tab_cons ref01_Get32.sound (tab_cons ref10_number.sound (tab_cons ref10_Right.sound (tab_nil _))))), clone, (dtab_cons ref01_Unflag.edet (dtab_cons ref01_Get32.edet (dtab_cons ref10_number.edet (dtab_cons ref10_Right.edet dtab_nil)))), stab⟩
theorem has : ((E.P.funcs[33]?).bind (·.body)).isSome = true := by kernel_rfl
theorem sound : EntrySound E 33 en := mkSound (ts := [.str]) (cod := (cTwo (.st 4) (.int .i64))) (F := fun x => F x.1) ground loops has eq
end ref10_Decode
namespace mask_of
noncomputable def tab : Tab := [(54, mask_there.en)]
structure R where
def cR (_ : R) : St := { fr := fun _ => .top, hs := hs0 }
def kR : Keep := { ks := [], bs := [], hn := 0 }
structure L0 where
  m : Int
  t5 : (List Int)
  t6 : Int
  t7 : Int
def c0 (x : L0) : St := { fr := lookL .top [(2, (.int .u32 x.m)), (5, (.sl .any (.int .i64) x.t5)), (6, (.int .i64 x.t6)), (7, (.int .i64 x.t7))], hs := { hp := lookL .dead [], hn := 0 } }
def kp0 : Keep := { ks := [(2, none), (5, none), (6, none), (7, none)], bs := [], hn := 0 }
def p0 (st : St) (K : L0 → Prop) : Prop := gInt .u32 (st.fr 2) fun a1 => gSl .any (.int .i64) (st.fr 5) fun a2 => gInt .i64 (st.fr 6) fun a3 => gInt .i64 (st.fr 7) fun a4 => K ⟨a1, a2, a3, a4⟩
theorem p0_ok (st : St) (K : L0 → Prop) (h : p0 st K) : ∃ x, keepSt kp0 st = c0 x ∧ K x := by
  obtain ⟨a1, h0, h⟩ := gInt_elim h
  obtain ⟨a2, h1, h⟩ := gSl_elim h
  obtain ⟨a3, h2, h⟩ := gInt_elim h
  obtain ⟨a4, h3, h⟩ := gInt_elim h
  refine ⟨_, ?_, h⟩
  simp only [keepSt, kp0, List.map, h0, h1, h2, h3]
  rfl
def b0 (rec kx : L0 → Prop) (kr : R → Prop) (x : L0) : Prop :=
  (bif (decide (x.t7 < x.t6)) then (oget (getI x.t5 x.t7) fun v1 => (mask_there.F v1 fun r2 => (bif r2 then (bif (decide (0 ≤ v1)) then (rec ⟨(ior .u32 x.m (ishl .u32 1 v1)), x.t5, x.t6, (IntKind.i64.wrap (x.t7 + 1))⟩) else False) else (rec ⟨x.m, x.t5, x.t6, (IntKind.i64.wrap (x.t7 + 1))⟩)))) else (kx ⟨x.m, x.t5, x.t6, x.t7⟩))
def l0 : LSpec := mkLoop 0 kp0 kR p0 c0 cR b0
def lt : Nat → Option LSpec
  | 0 => some l0
  | _ => none
def F (l : (List Int)) (K : Int → Prop) : Prop :=
  (∃ n, loopB b0 n (fun x3 => (K x3.m)) (fun _ => False) ⟨0, l, (l.length : Int), 0⟩)
noncomputable def en : Entry := mkEntry [(.slice (.int .i64))] (cTy (.int .u32)) fun x => F x.1
noncomputable def tabV (f0 : Int → (Bool → Prop) → Prop) : Tab := [(54, mkEntry [(.int .i64)] (cTy .bool) fun x => f0 x.1)]
theorem tabE : tab = tabV mask_there.F := by kernel_rfl
def b0V (f0 : Int → (Bool → Prop) → Prop) (rec kx : L0 → Prop) (kr : R → Prop) (x : L0) : Prop :=
  (bif (decide (x.t7 < x.t6)) then (oget (getI x.t5 x.t7) fun v1 => (f0 v1 fun r2 => (bif r2 then (bif (decide (0 ≤ v1)) then (rec ⟨(ior .u32 x.m (ishl .u32 1 v1)), x.t5, x.t6, (IntKind.i64.wrap (x.t7 + 1))⟩) else False) else (rec ⟨x.m, x.t5, x.t6, (IntKind.i64.wrap (x.t7 + 1))⟩)))) else (kx ⟨x.m, x.t5, x.t6, x.t7⟩))
def ltV (f0 : Int → (Bool → Prop) → Prop) : Nat → Option LSpec
  | 0 => some (mkLoop 0 kp0 kR p0 c0 cR (b0V f0))
  | _ => none
theorem ltE : lt = ltV mask_there.F := by kernel_rfl
theorem eqv (f0 : Int → (Bool → Prop) → Prop) (l : (List Int)) (K : Int → Prop) : apure E (tabV f0) (ltV f0) 4 42 [enc (.slice (.int .i64)) l] (ansK ((cTy (.int .u32))) K) =
  (∃ n, loopB (b0V f0) n (fun x3 => (K x3.m)) (fun _ => False) ⟨0, l, (l.length : Int), 0⟩) := by kernel_rfl
theorem eq (x : Dens [(.slice (.int .i64))]) (K : Int → Prop) : apure E tab lt 4 42 (encA [(.slice (.int .i64))] x) (ansK ((cTy (.int .u32))) K) = F x.1 K := by
  rw [tabE, ltE]
  exact eqv mask_there.F x.1 K
theorem l0v (f0 : Int → (Bool → Prop) → Prop) (R : St → Prop) (Kx : Nat → St → Prop) (Kr : St → Prop) (x : L0) : acode E (tabV f0) (afun E (tabV f0) 4) 19 (ltV f0) ((loopsIn E.P 42).getD 0 (0, .skip)).2 0 (fun s => R (keepSt kp0 s)) (fun j s => Kx j (keepSt kp0 s)) (fun s => Kr (keepSt kR s)) (c0 x) =
    b0V f0 (fun x => R (c0 x)) (fun x => Kx 0 (c0 x)) (fun r => Kr (cR r)) x := by kernel_rfl
theorem l0_ok : LSound E tab (afun E tab 4) 19 lt 0 ((loopsIn E.P 42).getD 0 (0, .skip)).2 l0 := mkLoop_sound (by decide) (by decide) p0_ok (fun R Kx Kr x => by
  rw [tabE, ltE]
  exact l0v mask_there.F R Kx Kr x)
theorem loops : LoopsOk E tab lt 4 42 := loops_of (nt := 19) (ids := [0]) (by kernel_rfl) (by kernel_rfl) (by
  intro k i hk l hl
  match k, hk with
  | 0, hk => cases hk; cases hl; exact l0_ok
  | _ + 1, hk => exact absurd hk (by simp))
theorem det (l : (List Int)) : Det (F l) := by
  unfold F
  repeat' first | with_reducible exact det_ret _ | with_reducible exact det_false | with_reducible refine det_cond _ ?_ ?_ | with_reducible refine det_oget _ (fun _ => ?_) | with_reducible exact mask_there.det _ | with_reducible refine det_bind (mask_there.det _) (fun _ => ?_) | with_reducible refine det_loop (fun _ => ?_) (fun _ => ?_) (fun _ => ?_) _ | unfold b0
theorem edet (args : List AV) : Det (en args) := mkEntry_det (ts := [(.slice (.int .i64))]) (cod := (cTy (.int .u32))) (F := fun x => F x.1) (fun x => det x.1) args
theorem ground : Ground E tab := ⟨num, mixed, (tab_cons mask_there.sound (tab_nil _)), clone, (dtab_cons mask_there.edet dtab_nil), stab⟩
theorem has : ((E.P.funcs[42]?).bind (·.body)).isSome = true := by kernel_rfl
theorem sound : EntrySound E 42 en := mkSound (ts := [(.slice (.int .i64))]) (cod := (cTy (.int .u32))) (F := fun x => F x.1) ground loops has eq
end mask_of
namespace mask_Set
noncomputable def tab : Tab := [(42, mask_of.en)]
def F (m : Int) (l : (List Int)) (K : Int → Prop) : Prop :=
  (mask_of.F l fun r1 => (K (ior .u32 m r1)))
noncomputable def en : Entry := mkEntry [(.int .u32), (.slice (.int .i64))] (cTy (.int .u32)) fun x => F x.1 x.2.1
noncomputable def tabV (f0 : (List Int) → (Int → Prop) → Prop) : Tab := [(42, mkEntry [(.slice (.int .i64))] (cTy (.int .u32)) fun x => f0 x.1)]
theorem tabE : tab = tabV mask_of.F := by kernel_rfl
theorem eqv (f0 : (List Int) → (Int → Prop) → Prop) (m : Int) (l : (List Int)) (K : Int → Prop) : apure E (tabV f0) (fun _ => none) 4 23 [enc (.int .u32) m, enc (.slice (.int .i64)) l] (ansK ((cTy (.int .u32))) K) =
  (f0 l fun r1 => (K (ior .u32 m r1))) := by kernel_rfl
theorem eq (x : Dens [(.int .u32), (.slice (.int .i64))]) (K : Int → Prop) : apure E tab (fun _ => none) 4 23 (encA [(.int .u32), (.slice (.int .i64))] x) (ansK ((cTy (.int .u32))) K) = F x.1 x.2.1 K := eqv mask_of.F x.1 x.2.1 K
theorem loops : LoopsOk E tab (fun _ => none) 4 23 := loops_none _ _ _ _
theorem det (m : Int) (l : (List Int)) : Det (F m l) := by
  unfold F
  repeat' first | with_reducible exact det_ret _ | with_reducible exact det_false | with_reducible refine det_cond _ ?_ ?_ | with_reducible refine det_oget _ (fun _ => ?_) | with_reducible exact mask_of.det _ | with_reducible refine det_bind (mask_of.det _) (fun _ => ?_)
theorem edet (args : List AV) : Det (en args) := mkEntry_det (ts := [(.int .u32), (.slice (.int .i64))]) (cod := (cTy (.int .u32))) (F := fun x => F x.1 x.2.1) (fun x => det x.1 x.2.1) args
theorem ground : Ground E tab := ⟨num, mixed, (tab_cons mask_of.sound (tab_nil _)), clone, (dtab_cons mask_of.edet dtab_nil), stab⟩
theorem has : ((E.P.funcs[23]?).bind (·.body)).isSome = true := by kernel_rfl
theorem sound : EntrySound E 23 en := mkSound (ts := [(.int .u32), (.slice (.int .i64))]) (cod := (cTy (.int .u32))) (F := fun x => F x.1 x.2.1) ground loops has eq
end mask_Set
end Gm
