/- Printed by a program (gen.py): the functions' answers, and that they are so. -/
import Derived.Test.YtbhgalddlkebgaaGmT1
import Derived.Test.YtbhgalddlkebgaaGmT2
import Derived.Test.YtbhgalddlkebgaaGmRd3
import Derived.Test.YtbhgalddlkebgaaGmRi2
import Derived.Test.YtbhgalddlkebgaaGmT3
set_option linter.unusedVariables false
set_option maxRecDepth 100000
namespace Gm
open Go Go.Proofs
namespace bits_right
noncomputable def tab : Tab := [(94, mask_Right.en)]
def F (d : Disk) (m : Int) (K : Bool → Prop) : Prop :=
  (mask_Right.F m (IntKind.i64.wrap ((d.sure.length : Int) - 2)) fun r1 => (K r1))
noncomputable def en : Entry := mkEntry [(.st 1), (.int .u32)] (cTy .bool) fun x => F x.1 x.2.1
noncomputable def tabV (f0 : Int → Int → (Bool → Prop) → Prop) : Tab := [(94, mkEntry [(.int .u32), (.int .i64)] (cTy .bool) fun x => f0 x.1 x.2.1)]
theorem tabE : tab = tabV mask_Right.F := by kernel_rfl
theorem eqv (f0 : Int → Int → (Bool → Prop) → Prop) (d : Disk) (m : Int) (K : Bool → Prop) : apure E (tabV f0) (fun _ => none) 4 111 [enc (.st 1) d, enc (.int .u32) m] (ansK ((cTy .bool)) K) =
  (f0 m (IntKind.i64.wrap ((d.sure.length : Int) - 2)) fun r1 => (K r1)) := by kernel_rfl
theorem eq (x : Dens [(.st 1), (.int .u32)]) (K : Bool → Prop) : apure E tab (fun _ => none) 4 111 (encA [(.st 1), (.int .u32)] x) (ansK ((cTy .bool)) K) = F x.1 x.2.1 K := eqv mask_Right.F x.1 x.2.1 K
theorem loops : LoopsOk E tab (fun _ => none) 4 111 := loops_none _ _ _ _
theorem det (d : Disk) (m : Int) : Det (F d m) := by
  unfold F
  repeat' first | with_reducible exact det_ret _ | with_reducible exact det_false | with_reducible refine det_cond _ ?_ ?_ | with_reducible refine det_oget _ (fun _ => ?_) | with_reducible exact mask_Right.det _ _ | with_reducible refine det_bind (mask_Right.det _ _) (fun _ => ?_)
theorem edet (args : List AV) : Det (en args) := mkEntry_det (ts := [(.st 1), (.int .u32)]) (cod := (cTy .bool)) (F := fun x => F x.1 x.2.1) (fun x => det x.1 x.2.1) args
theorem ground : Ground E tab := ⟨num, mixed, (tab_cons mask_Right.sound (tab_nil _)), clone, (dtab_cons mask_Right.edet dtab_nil)⟩
theorem has : ((E.P.funcs[111]?).bind (·.body)).isSome = true := by kernel_rfl
theorem sound : EntrySound E.P 111 en := mkSound (ts := [(.st 1), (.int .u32)]) (cod := (cTy .bool)) (F := fun x => F x.1 x.2.1) ground loops has eq
end bits_right
namespace bits_Note
noncomputable def tab : Tab := [(111, bits_right.en), (34, num_Put32.en), (27, check_Seal.en), (60, disk_Write.en)]
def F (d : Disk) (m : Int) (K : (Disk × Int) → Prop) : Prop :=
  (bits_right.F d m fun r1 => (bif (!r1) then (K (d, 1)) else (num_Put32.F m fun r2 => (check_Seal.F r2 fun r3 => (disk_Write.F d 1 r3 fun r4 => (K (r4.1, r4.2)))))))
noncomputable def en : Entry := mkEntry [(.st 1), (.int .u32)] (cTwo (.st 1) (.int .i64)) fun x => F x.1 x.2.1
noncomputable def tabV (f0 : Disk → Int → (Bool → Prop) → Prop) (f1 : Int → (Str → Prop) → Prop) (f2 : Str → (Str → Prop) → Prop) (f3 : Disk → Int → Str → ((Disk × Int) → Prop) → Prop) : Tab := [(111, mkEntry [(.st 1), (.int .u32)] (cTy .bool) fun x => f0 x.1 x.2.1), (34, mkEntry [(.int .u32)] (cTy .str) fun x => f1 x.1), (27, mkEntry [.str] (cTy .str) fun x => f2 x.1), (60, mkEntry [(.st 1), (.int .i64), .str] (cTwo (.st 1) (.int .i64)) fun x => f3 x.1 x.2.1 x.2.2.1)]
theorem tabE : tab = tabV bits_right.F num_Put32.F check_Seal.F disk_Write.F := by kernel_rfl
theorem eqv (f0 : Disk → Int → (Bool → Prop) → Prop) (f1 : Int → (Str → Prop) → Prop) (f2 : Str → (Str → Prop) → Prop) (f3 : Disk → Int → Str → ((Disk × Int) → Prop) → Prop) (d : Disk) (m : Int) (K : (Disk × Int) → Prop) : apure E (tabV f0 f1 f2 f3) (fun _ => none) 4 77 [enc (.st 1) d, enc (.int .u32) m] (ansK ((cTwo (.st 1) (.int .i64))) K) =
  (f0 d m fun r1 => (bif (!r1) then (K (d, 1)) else (f1 m fun r2 => (f2 r2 fun r3 => (f3 d 1 r3 fun r4 => (K (r4.1, r4.2))))))) := by kernel_rfl
theorem eq (x : Dens [(.st 1), (.int .u32)]) (K : (Disk × Int) → Prop) : apure E tab (fun _ => none) 4 77 (encA [(.st 1), (.int .u32)] x) (ansK ((cTwo (.st 1) (.int .i64))) K) = F x.1 x.2.1 K := eqv bits_right.F num_Put32.F check_Seal.F disk_Write.F x.1 x.2.1 K
theorem loops : LoopsOk E tab (fun _ => none) 4 77 := loops_none _ _ _ _
theorem det (d : Disk) (m : Int) : Det (F d m) := by
  unfold F
  repeat' first | with_reducible exact det_ret _ | with_reducible exact det_false | with_reducible refine det_cond _ ?_ ?_ | with_reducible refine det_oget _ (fun _ => ?_) | with_reducible exact bits_right.det _ _ | with_reducible refine det_bind (bits_right.det _ _) (fun _ => ?_) | with_reducible exact num_Put32.det _ | with_reducible refine det_bind (num_Put32.det _) (fun _ => ?_) | with_reducible exact check_Seal.det _ | with_reducible refine det_bind (check_Seal.det _) (fun _ => ?_) | with_reducible exact disk_Write.det _ _ _ | with_reducible refine det_bind (disk_Write.det _ _ _) (fun _ => ?_)
theorem edet (args : List AV) : Det (en args) := mkEntry_det (ts := [(.st 1), (.int .u32)]) (cod := (cTwo (.st 1) (.int .i64))) (F := fun x => F x.1 x.2.1) (fun x => det x.1 x.2.1) args
theorem ground : Ground E tab := ⟨num, mixed, (tab_cons bits_right.sound (tab_cons num_Put32.sound (tab_cons check_Seal.sound (tab_cons disk_Write.sound (tab_nil _))))), clone, (dtab_cons bits_right.edet (dtab_cons num_Put32.edet (dtab_cons check_Seal.edet (dtab_cons disk_Write.edet dtab_nil))))⟩
theorem has : ((E.P.funcs[77]?).bind (·.body)).isSome = true := by kernel_rfl
theorem sound : EntrySound E.P 77 en := mkSound (ts := [(.st 1), (.int .u32)]) (cod := (cTwo (.st 1) (.int .i64))) (F := fun x => F x.1 x.2.1) ground loops has eq
end bits_Note
namespace bits_Save
noncomputable def tab : Tab := [(77, bits_Note.en), (64, disk_Flush.en)]
def F (d : Disk) (m : Int) (K : (Disk × Int) → Prop) : Prop :=
  (bits_Note.F d m fun r1 => (bif (r1.2 != 0) then (K (r1.1, r1.2)) else (disk_Flush.F r1.1 fun r2 => (K (r2.1, r2.2)))))
noncomputable def en : Entry := mkEntry [(.st 1), (.int .u32)] (cTwo (.st 1) (.int .i64)) fun x => F x.1 x.2.1
noncomputable def tabV (f0 : Disk → Int → ((Disk × Int) → Prop) → Prop) (f1 : Disk → ((Disk × Int) → Prop) → Prop) : Tab := [(77, mkEntry [(.st 1), (.int .u32)] (cTwo (.st 1) (.int .i64)) fun x => f0 x.1 x.2.1), (64, mkEntry [(.st 1)] (cTwo (.st 1) (.int .i64)) fun x => f1 x.1)]
theorem tabE : tab = tabV bits_Note.F disk_Flush.F := by kernel_rfl
theorem eqv (f0 : Disk → Int → ((Disk × Int) → Prop) → Prop) (f1 : Disk → ((Disk × Int) → Prop) → Prop) (d : Disk) (m : Int) (K : (Disk × Int) → Prop) : apure E (tabV f0 f1) (fun _ => none) 4 75 [enc (.st 1) d, enc (.int .u32) m] (ansK ((cTwo (.st 1) (.int .i64))) K) =
  (f0 d m fun r1 => (bif (r1.2 != 0) then (K (r1.1, r1.2)) else (f1 r1.1 fun r2 => (K (r2.1, r2.2))))) := by kernel_rfl
theorem eq (x : Dens [(.st 1), (.int .u32)]) (K : (Disk × Int) → Prop) : apure E tab (fun _ => none) 4 75 (encA [(.st 1), (.int .u32)] x) (ansK ((cTwo (.st 1) (.int .i64))) K) = F x.1 x.2.1 K := eqv bits_Note.F disk_Flush.F x.1 x.2.1 K
theorem loops : LoopsOk E tab (fun _ => none) 4 75 := loops_none _ _ _ _
theorem det (d : Disk) (m : Int) : Det (F d m) := by
  unfold F
  repeat' first | with_reducible exact det_ret _ | with_reducible exact det_false | with_reducible refine det_cond _ ?_ ?_ | with_reducible refine det_oget _ (fun _ => ?_) | with_reducible exact bits_Note.det _ _ | with_reducible refine det_bind (bits_Note.det _ _) (fun _ => ?_) | with_reducible exact disk_Flush.det _ | with_reducible refine det_bind (disk_Flush.det _) (fun _ => ?_)
theorem edet (args : List AV) : Det (en args) := mkEntry_det (ts := [(.st 1), (.int .u32)]) (cod := (cTwo (.st 1) (.int .i64))) (F := fun x => F x.1 x.2.1) (fun x => det x.1 x.2.1) args
theorem ground : Ground E tab := ⟨num, mixed, (tab_cons bits_Note.sound (tab_cons disk_Flush.sound (tab_nil _))), clone, (dtab_cons bits_Note.edet (dtab_cons disk_Flush.edet dtab_nil))⟩
theorem has : ((E.P.funcs[75]?).bind (·.body)).isSome = true := by kernel_rfl
theorem sound : EntrySound E.P 75 en := mkSound (ts := [(.st 1), (.int .u32)]) (cod := (cTwo (.st 1) (.int .i64))) (F := fun x => F x.1 x.2.1) ground loops has eq
end bits_Save
namespace bits_Load
noncomputable def tab : Tab := [(62, disk_Read.en), (23, check_Open.en), (30, num_Get32.en), (111, bits_right.en)]
def F (d : Disk) (K : (Int × Int) → Prop) : Prop :=
  (disk_Read.F d 1 fun r1 => (bif (r1.2 != 0) then (K (0, r1.2)) else (check_Open.F r1.1 fun r2 => (bif (r2.2 != 0) then (K (0, r2.2)) else (num_Get32.F r2.1 fun r3 => (bif (!r3.2) then (K (0, 2)) else (bits_right.F d r3.1 fun r4 => (bif (!r4) then (K (0, 2)) else (K (r3.1, 0))))))))))
noncomputable def en : Entry := mkEntry [(.st 1)] (cTwo (.int .u32) (.int .i64)) fun x => F x.1
noncomputable def tabV (f0 : Disk → Int → ((Str × Int) → Prop) → Prop) (f1 : Str → ((Str × Int) → Prop) → Prop) (f2 : Str → ((Int × Bool) → Prop) → Prop) (f3 : Disk → Int → (Bool → Prop) → Prop) : Tab := [(62, mkEntry [(.st 1), (.int .i64)] (cTwo .str (.int .i64)) fun x => f0 x.1 x.2.1), (23, mkEntry [.str] (cTwo .str (.int .i64)) fun x => f1 x.1), (30, mkEntry [.str] (cTwo (.int .u32) .bool) fun x => f2 x.1), (111, mkEntry [(.st 1), (.int .u32)] (cTy .bool) fun x => f3 x.1 x.2.1)]
theorem tabE : tab = tabV disk_Read.F check_Open.F num_Get32.F bits_right.F := by kernel_rfl
theorem eqv (f0 : Disk → Int → ((Str × Int) → Prop) → Prop) (f1 : Str → ((Str × Int) → Prop) → Prop) (f2 : Str → ((Int × Bool) → Prop) → Prop) (f3 : Disk → Int → (Bool → Prop) → Prop) (d : Disk) (K : (Int × Int) → Prop) : apure E (tabV f0 f1 f2 f3) (fun _ => none) 4 73 [enc (.st 1) d] (ansK ((cTwo (.int .u32) (.int .i64))) K) =
  (f0 d 1 fun r1 => (bif (r1.2 != 0) then (K (0, r1.2)) else (f1 r1.1 fun r2 => (bif (r2.2 != 0) then (K (0, r2.2)) else (f2 r2.1 fun r3 => (bif (!r3.2) then (K (0, 2)) else (f3 d r3.1 fun r4 => (bif (!r4) then (K (0, 2)) else (K (r3.1, 0)))))))))) := by kernel_rfl
theorem eq (x : Dens [(.st 1)]) (K : (Int × Int) → Prop) : apure E tab (fun _ => none) 4 73 (encA [(.st 1)] x) (ansK ((cTwo (.int .u32) (.int .i64))) K) = F x.1 K := eqv disk_Read.F check_Open.F num_Get32.F bits_right.F x.1 K
theorem loops : LoopsOk E tab (fun _ => none) 4 73 := loops_none _ _ _ _
theorem det (d : Disk) : Det (F d) := by
  unfold F
  repeat' first | with_reducible exact det_ret _ | with_reducible exact det_false | with_reducible refine det_cond _ ?_ ?_ | with_reducible refine det_oget _ (fun _ => ?_) | with_reducible exact disk_Read.det _ _ | with_reducible refine det_bind (disk_Read.det _ _) (fun _ => ?_) | with_reducible exact check_Open.det _ | with_reducible refine det_bind (check_Open.det _) (fun _ => ?_) | with_reducible exact num_Get32.det _ | with_reducible refine det_bind (num_Get32.det _) (fun _ => ?_) | with_reducible exact bits_right.det _ _ | with_reducible refine det_bind (bits_right.det _ _) (fun _ => ?_)
theorem edet (args : List AV) : Det (en args) := mkEntry_det (ts := [(.st 1)]) (cod := (cTwo (.int .u32) (.int .i64))) (F := fun x => F x.1) (fun x => det x.1) args
theorem ground : Ground E tab := ⟨num, mixed, (tab_cons disk_Read.sound (tab_cons check_Open.sound (tab_cons num_Get32.sound (tab_cons bits_right.sound (tab_nil _))))), clone, (dtab_cons disk_Read.edet (dtab_cons check_Open.edet (dtab_cons num_Get32.edet (dtab_cons bits_right.edet dtab_nil))))⟩
theorem has : ((E.P.funcs[73]?).bind (·.body)).isSome = true := by kernel_rfl
theorem sound : EntrySound E.P 73 en := mkSound (ts := [(.st 1)]) (cod := (cTwo (.int .u32) (.int .i64))) (F := fun x => F x.1) ground loops has eq
end bits_Load
namespace law08_alive
noncomputable def tab : Tab := [(55, ref04_New.en), (75, bits_Save.en), (77, bits_Note.en), (73, bits_Load.en), (69, ref04_Crash.en), (71, ref04_Revive.en)]
def F (K : Bool → Prop) : Prop :=
  (ref04_New.F 5 fun r1 => (bits_Save.F r1.1 5 fun r2 => (bits_Note.F r2.1 4 fun r3 => (bits_Load.F r3.1 fun r4 => (ref04_Crash.F r3.1 fun r5 => (ref04_Revive.F r5 ([] : List Bool) fun r6 => (bits_Load.F r6 fun r7 => (ref04_Crash.F r3.1 fun r8 => (ref04_Revive.F r8 ([true] : List Bool) fun r9 => (bits_Load.F r9 fun r10 => (bits_Save.F r1.1 8 fun r11 => (bits_Load.F r1.1 fun r12 => (bif (r2.2 == 0) then (bif (r3.2 == 0) then (bif (r4.2 == 0) then (bif (r7.2 == 0) then (bif (r10.2 == 0) then (bif (r11.2 == 1) then (bif (r12.2 == 2) then (bif (r4.1 == 4) then (bif (r7.1 == 5) then (K (r10.1 == 4)) else (K false)) else (K false)) else (K false)) else (K false)) else (K false)) else (K false)) else (K false)) else (K false)) else (K false))))))))))))))
noncomputable def en : Entry := mkEntry [] (cTy .bool) fun x => F 
noncomputable def tabV (f0 : Int → ((Disk × Int) → Prop) → Prop) (f1 : Disk → Int → ((Disk × Int) → Prop) → Prop) (f2 : Disk → Int → ((Disk × Int) → Prop) → Prop) (f3 : Disk → ((Int × Int) → Prop) → Prop) (f4 : Disk → (Disk → Prop) → Prop) (f5 : Disk → (List Bool) → (Disk → Prop) → Prop) : Tab := [(55, mkEntry [(.int .i64)] (cTwo (.st 1) (.int .i64)) fun x => f0 x.1), (75, mkEntry [(.st 1), (.int .u32)] (cTwo (.st 1) (.int .i64)) fun x => f1 x.1 x.2.1), (77, mkEntry [(.st 1), (.int .u32)] (cTwo (.st 1) (.int .i64)) fun x => f2 x.1 x.2.1), (73, mkEntry [(.st 1)] (cTwo (.int .u32) (.int .i64)) fun x => f3 x.1), (69, mkEntry [(.st 1)] (cTy (.st 1)) fun x => f4 x.1), (71, mkEntry [(.st 1), (.slice .bool)] (cTy (.st 1)) fun x => f5 x.1 x.2.1)]
theorem tabE : tab = tabV ref04_New.F bits_Save.F bits_Note.F bits_Load.F ref04_Crash.F ref04_Revive.F := by kernel_rfl
theorem eqv (f0 : Int → ((Disk × Int) → Prop) → Prop) (f1 : Disk → Int → ((Disk × Int) → Prop) → Prop) (f2 : Disk → Int → ((Disk × Int) → Prop) → Prop) (f3 : Disk → ((Int × Int) → Prop) → Prop) (f4 : Disk → (Disk → Prop) → Prop) (f5 : Disk → (List Bool) → (Disk → Prop) → Prop) (K : Bool → Prop) : apure E (tabV f0 f1 f2 f3 f4 f5) (fun _ => none) 4 72 [] (ansK ((cTy .bool)) K) =
  (f0 5 fun r1 => (f1 r1.1 5 fun r2 => (f2 r2.1 4 fun r3 => (f3 r3.1 fun r4 => (f4 r3.1 fun r5 => (f5 r5 ([] : List Bool) fun r6 => (f3 r6 fun r7 => (f4 r3.1 fun r8 => (f5 r8 ([true] : List Bool) fun r9 => (f3 r9 fun r10 => (f1 r1.1 8 fun r11 => (f3 r1.1 fun r12 => (bif (r2.2 == 0) then (bif (r3.2 == 0) then (bif (r4.2 == 0) then (bif (r7.2 == 0) then (bif (r10.2 == 0) then (bif (r11.2 == 1) then (bif (r12.2 == 2) then (bif (r4.1 == 4) then (bif (r7.1 == 5) then (K (r10.1 == 4)) else (K false)) else (K false)) else (K false)) else (K false)) else (K false)) else (K false)) else (K false)) else (K false)) else (K false)))))))))))))) := by kernel_rfl
theorem eq (x : Dens []) (K : Bool → Prop) : apure E tab (fun _ => none) 4 72 (encA [] x) (ansK ((cTy .bool)) K) = F  K := eqv ref04_New.F bits_Save.F bits_Note.F bits_Load.F ref04_Crash.F ref04_Revive.F  K
theorem loops : LoopsOk E tab (fun _ => none) 4 72 := loops_none _ _ _ _
theorem det : Det (F) := by
  unfold F
  repeat' first | with_reducible exact det_ret _ | with_reducible exact det_false | with_reducible refine det_cond _ ?_ ?_ | with_reducible refine det_oget _ (fun _ => ?_) | with_reducible exact ref04_New.det _ | with_reducible refine det_bind (ref04_New.det _) (fun _ => ?_) | with_reducible exact bits_Save.det _ _ | with_reducible refine det_bind (bits_Save.det _ _) (fun _ => ?_) | with_reducible exact bits_Note.det _ _ | with_reducible refine det_bind (bits_Note.det _ _) (fun _ => ?_) | with_reducible exact bits_Load.det _ | with_reducible refine det_bind (bits_Load.det _) (fun _ => ?_) | with_reducible exact ref04_Crash.det _ | with_reducible refine det_bind (ref04_Crash.det _) (fun _ => ?_) | with_reducible exact ref04_Revive.det _ _ | with_reducible refine det_bind (ref04_Revive.det _ _) (fun _ => ?_)
theorem edet (args : List AV) : Det (en args) := mkEntry_det (ts := []) (cod := (cTy .bool)) (F := fun _ => F) (fun _ => det ) args
theorem ground : Ground E tab := ⟨num, mixed, (tab_cons ref04_New.sound (tab_cons bits_Save.sound (tab_cons bits_Note.sound (tab_cons bits_Load.sound (tab_cons ref04_Crash.sound (tab_cons ref04_Revive.sound (tab_nil _))))))), clone, (dtab_cons ref04_New.edet (dtab_cons bits_Save.edet (dtab_cons bits_Note.edet (dtab_cons bits_Load.edet (dtab_cons ref04_Crash.edet (dtab_cons ref04_Revive.edet dtab_nil))))))⟩
theorem has : ((E.P.funcs[72]?).bind (·.body)).isSome = true := by kernel_rfl
theorem sound : EntrySound E.P 72 en := mkSound (ts := []) (cod := (cTy .bool)) (F := fun _ => F) ground loops has eq
end law08_alive
namespace ref04_holds
noncomputable def tab : Tab := []
structure R where
def cR (_ : R) : St := { fr := fun _ => .top, hs := hs0 }
def kR : Keep := { ks := [], bs := [], hn := 0 }
structure L0 where
  i : Int
  s : Str
  k : Int
  m0 : (List Str)
  m0_1 : (List Write)
  m0_2 : Int
  m0_3 : Bool
def c0 (x : L0) : St := { fr := lookL .top [(1, (.int .i64 x.i)), (2, (.ptr 0 0)), (5, (.str x.s)), (6, (.int .i64 x.k))], hs := { hp := lookL .dead [(0, (.cells [(.sl .any .str x.m0), (.sl .any (.st 0) x.m0_1), (.int .i64 x.m0_2), (.bool x.m0_3)]))], hn := 1 } }
def kp0 : Keep := { ks := [(1, none), (2, none), (5, none), (6, none)], bs := [0], hn := 1 }
def p0 (st : St) (K : L0 → Prop) : Prop := gInt .i64 (st.fr 1) fun a1 => gPtr 0 0 (st.fr 2) <| gStr (st.fr 5) fun a2 => gInt .i64 (st.fr 6) fun a3 => gCells (st.hs.hp 0) fun c4 => gCons c4 fun c5 c6 => gSl .any .str c5 fun a7 => gCons c6 fun c8 c9 => gSl .any (.st 0) c8 fun a10 => gCons c9 fun c11 c12 => gInt .i64 c11 fun a13 => gCons c12 fun c14 c15 => gBool c14 fun a16 => gNil c15 <| K ⟨a1, a2, a3, a7, a10, a13, a16⟩
theorem p0_ok (st : St) (K : L0 → Prop) (h : p0 st K) : ∃ x, keepSt kp0 st = c0 x ∧ K x := by
  obtain ⟨a1, h0, h⟩ := gInt_elim h
  obtain ⟨h1, h⟩ := gPtr_elim h
  obtain ⟨a2, h2, h⟩ := gStr_elim h
  obtain ⟨a3, h3, h⟩ := gInt_elim h
  obtain ⟨c4, h4, h⟩ := gCells_elim h
  obtain ⟨c5, c6, h5, h⟩ := gCons_elim h
  obtain ⟨a7, h6, h⟩ := gSl_elim h
  obtain ⟨c8, c9, h7, h⟩ := gCons_elim h
  obtain ⟨a10, h8, h⟩ := gSl_elim h
  obtain ⟨c11, c12, h9, h⟩ := gCons_elim h
  obtain ⟨a13, h10, h⟩ := gInt_elim h
  obtain ⟨c14, c15, h11, h⟩ := gCons_elim h
  obtain ⟨a16, h12, h⟩ := gBool_elim h
  obtain ⟨h13, h⟩ := gNil_elim h
  refine ⟨_, ?_, h⟩
  subst h5
  subst h6
  subst h7
  subst h8
  subst h9
  subst h10
  subst h11
  subst h12
  subst h13
  simp only [keepSt, kp0, List.map, h0, h1, h2, h3, h4]
  rfl
def b0 (rec kx : L0 → Prop) (kr : R → Prop) (x : L0) : Prop :=
  (bif (decide (x.k < (x.m0_1.length : Int))) then (oget (getI x.m0_1 x.k) fun v2 => (bif (v2.sector == x.i) then (oget (getI x.m0_1 x.k) fun v3 => (rec ⟨x.i, v3.data, (IntKind.i64.wrap (x.k + 1)), x.m0, x.m0_1, x.m0_2, x.m0_3⟩)) else (rec ⟨x.i, x.s, (IntKind.i64.wrap (x.k + 1)), x.m0, x.m0_1, x.m0_2, x.m0_3⟩))) else (kx ⟨x.i, x.s, x.k, x.m0, x.m0_1, x.m0_2, x.m0_3⟩))
def l0 : LSpec := mkLoop 0 kp0 kR p0 c0 cR b0
def lt : Nat → Option LSpec
  | 0 => some l0
  | _ => none
def F (d : Disk) (i : Int) (K : Str → Prop) : Prop :=
  (oget (getI d.sure i) fun v1 => (∃ n, loopB b0 n (fun x4 => (K x4.s)) (fun _ => False) ⟨i, v1, 0, d.sure, d.cache, d.fuse, d.dead⟩))
noncomputable def en : Entry := mkEntry [(.st 1), (.int .i64)] (cTy .str) fun x => F x.1 x.2.1
theorem eq (x : Dens [(.st 1), (.int .i64)]) (K : Str → Prop) : apure E tab lt 4 109 (encA [(.st 1), (.int .i64)] x) (ansK ((cTy .str)) K) = F x.1 x.2.1 K := by kernel_rfl
theorem l0_ok : LSound E tab (afun E tab 4) 34 lt 0 ((loopsIn E.P 109).getD 0 (0, .skip)).2 l0 := mkLoop_sound (by decide) (by decide) p0_ok (fun R Kx Kr x => by kernel_rfl)
theorem loops : LoopsOk E tab lt 4 109 := loops_of (nt := 34) (ids := [0]) (by kernel_rfl) (by kernel_rfl) (by
  intro k i hk l hl
  match k, hk with
  | 0, hk => cases hk; cases hl; exact l0_ok
  | _ + 1, hk => exact absurd hk (by simp))
theorem det (d : Disk) (i : Int) : Det (F d i) := by
  unfold F
  repeat' first | with_reducible exact det_ret _ | with_reducible exact det_false | with_reducible refine det_cond _ ?_ ?_ | with_reducible refine det_oget _ (fun _ => ?_) | with_reducible refine det_loop (fun _ => ?_) (fun _ => ?_) (fun _ => ?_) _ | unfold b0
theorem edet (args : List AV) : Det (en args) := mkEntry_det (ts := [(.st 1), (.int .i64)]) (cod := (cTy .str)) (F := fun x => F x.1 x.2.1) (fun x => det x.1 x.2.1) args
theorem ground : Ground E tab := ⟨num, mixed, (tab_nil _), clone, dtab_nil⟩
theorem has : ((E.P.funcs[109]?).bind (·.body)).isSome = true := by kernel_rfl
theorem sound : EntrySound E.P 109 en := mkSound (ts := [(.st 1), (.int .i64)]) (cod := (cTy .str)) (F := fun x => F x.1 x.2.1) ground loops has eq
end ref04_holds
namespace ref04_Read
noncomputable def tab : Tab := [(109, ref04_holds.en)]
def F (d : Disk) (i : Int) (K : (Str × Int) → Prop) : Prop :=
  (bif d.dead then (K (([] : Str), 6)) else (bif (decide (i < 0)) then (K (([] : Str), 4)) else (bif (decide (i ≥ (d.sure.length : Int))) then (K (([] : Str), 4)) else (ref04_holds.F d i fun r1 => (K (r1, 0))))))
noncomputable def en : Entry := mkEntry [(.st 1), (.int .i64)] (cTwo .str (.int .i64)) fun x => F x.1 x.2.1
noncomputable def tabV (f0 : Disk → Int → (Str → Prop) → Prop) : Tab := [(109, mkEntry [(.st 1), (.int .i64)] (cTy .str) fun x => f0 x.1 x.2.1)]
theorem tabE : tab = tabV ref04_holds.F := by kernel_rfl
theorem eqv (f0 : Disk → Int → (Str → Prop) → Prop) (d : Disk) (i : Int) (K : (Str × Int) → Prop) : apure E (tabV f0) (fun _ => none) 4 63 [enc (.st 1) d, enc (.int .i64) i] (ansK ((cTwo .str (.int .i64))) K) =
  (bif d.dead then (K (([] : Str), 6)) else (bif (decide (i < 0)) then (K (([] : Str), 4)) else (bif (decide (i ≥ (d.sure.length : Int))) then (K (([] : Str), 4)) else (f0 d i fun r1 => (K (r1, 0)))))) := by kernel_rfl
theorem eq (x : Dens [(.st 1), (.int .i64)]) (K : (Str × Int) → Prop) : apure E tab (fun _ => none) 4 63 (encA [(.st 1), (.int .i64)] x) (ansK ((cTwo .str (.int .i64))) K) = F x.1 x.2.1 K := eqv ref04_holds.F x.1 x.2.1 K
theorem loops : LoopsOk E tab (fun _ => none) 4 63 := loops_none _ _ _ _
theorem det (d : Disk) (i : Int) : Det (F d i) := by
  unfold F
  repeat' first | with_reducible exact det_ret _ | with_reducible exact det_false | with_reducible refine det_cond _ ?_ ?_ | with_reducible refine det_oget _ (fun _ => ?_) | with_reducible exact ref04_holds.det _ _ | with_reducible refine det_bind (ref04_holds.det _ _) (fun _ => ?_)
theorem edet (args : List AV) : Det (en args) := mkEntry_det (ts := [(.st 1), (.int .i64)]) (cod := (cTwo .str (.int .i64))) (F := fun x => F x.1 x.2.1) (fun x => det x.1 x.2.1) args
theorem ground : Ground E tab := ⟨num, mixed, (tab_cons ref04_holds.sound (tab_nil _)), clone, (dtab_cons ref04_holds.edet dtab_nil)⟩
theorem has : ((E.P.funcs[63]?).bind (·.body)).isSome = true := by kernel_rfl
theorem sound : EntrySound E.P 63 en := mkSound (ts := [(.st 1), (.int .i64)]) (cod := (cTwo .str (.int .i64))) (F := fun x => F x.1 x.2.1) ground loops has eq
end ref04_Read
namespace ref08_Load
noncomputable def tab : Tab := [(63, ref04_Read.en), (24, ref02_Open.en), (31, ref01_Get32.en), (95, ref03_Right.en)]
def F (d : Disk) (K : (Int × Int) → Prop) : Prop :=
  (ref04_Read.F d 1 fun r1 => (bif (r1.2 != 0) then (K (0, r1.2)) else (ref02_Open.F r1.1 fun r2 => (bif (r2.2 != 0) then (K (0, r2.2)) else (ref01_Get32.F r2.1 fun r3 => (bif (!r3.2) then (K (0, 2)) else (ref03_Right.F r3.1 (IntKind.i64.wrap ((d.sure.length : Int) - 2)) fun r4 => (bif (!r4) then (K (0, 2)) else (K (r3.1, 0))))))))))
noncomputable def en : Entry := mkEntry [(.st 1)] (cTwo (.int .u32) (.int .i64)) fun x => F x.1
noncomputable def tabV (f0 : Disk → Int → ((Str × Int) → Prop) → Prop) (f1 : Str → ((Str × Int) → Prop) → Prop) (f2 : Str → ((Int × Bool) → Prop) → Prop) (f3 : Int → Int → (Bool → Prop) → Prop) : Tab := [(63, mkEntry [(.st 1), (.int .i64)] (cTwo .str (.int .i64)) fun x => f0 x.1 x.2.1), (24, mkEntry [.str] (cTwo .str (.int .i64)) fun x => f1 x.1), (31, mkEntry [.str] (cTwo (.int .u32) .bool) fun x => f2 x.1), (95, mkEntry [(.int .u32), (.int .i64)] (cTy .bool) fun x => f3 x.1 x.2.1)]
theorem tabE : tab = tabV ref04_Read.F ref02_Open.F ref01_Get32.F ref03_Right.F := by kernel_rfl
theorem eqv (f0 : Disk → Int → ((Str × Int) → Prop) → Prop) (f1 : Str → ((Str × Int) → Prop) → Prop) (f2 : Str → ((Int × Bool) → Prop) → Prop) (f3 : Int → Int → (Bool → Prop) → Prop) (d : Disk) (K : (Int × Int) → Prop) : apure E (tabV f0 f1 f2 f3) (fun _ => none) 4 74 [enc (.st 1) d] (ansK ((cTwo (.int .u32) (.int .i64))) K) =
  (f0 d 1 fun r1 => (bif (r1.2 != 0) then (K (0, r1.2)) else (f1 r1.1 fun r2 => (bif (r2.2 != 0) then (K (0, r2.2)) else (f2 r2.1 fun r3 => (bif (!r3.2) then (K (0, 2)) else (f3 r3.1 (IntKind.i64.wrap ((d.sure.length : Int) - 2)) fun r4 => (bif (!r4) then (K (0, 2)) else (K (r3.1, 0)))))))))) := by kernel_rfl
theorem eq (x : Dens [(.st 1)]) (K : (Int × Int) → Prop) : apure E tab (fun _ => none) 4 74 (encA [(.st 1)] x) (ansK ((cTwo (.int .u32) (.int .i64))) K) = F x.1 K := eqv ref04_Read.F ref02_Open.F ref01_Get32.F ref03_Right.F x.1 K
theorem loops : LoopsOk E tab (fun _ => none) 4 74 := loops_none _ _ _ _
theorem det (d : Disk) : Det (F d) := by
  unfold F
  repeat' first | with_reducible exact det_ret _ | with_reducible exact det_false | with_reducible refine det_cond _ ?_ ?_ | with_reducible refine det_oget _ (fun _ => ?_) | with_reducible exact ref04_Read.det _ _ | with_reducible refine det_bind (ref04_Read.det _ _) (fun _ => ?_) | with_reducible exact ref02_Open.det _ | with_reducible refine det_bind (ref02_Open.det _) (fun _ => ?_) | with_reducible exact ref01_Get32.det _ | with_reducible refine det_bind (ref01_Get32.det _) (fun _ => ?_) | with_reducible exact ref03_Right.det _ _ | with_reducible refine det_bind (ref03_Right.det _ _) (fun _ => ?_)
theorem edet (args : List AV) : Det (en args) := mkEntry_det (ts := [(.st 1)]) (cod := (cTwo (.int .u32) (.int .i64))) (F := fun x => F x.1) (fun x => det x.1) args
theorem ground : Ground E tab := ⟨num, mixed, (tab_cons ref04_Read.sound (tab_cons ref02_Open.sound (tab_cons ref01_Get32.sound (tab_cons ref03_Right.sound (tab_nil _))))), clone, (dtab_cons ref04_Read.edet (dtab_cons ref02_Open.edet (dtab_cons ref01_Get32.edet (dtab_cons ref03_Right.edet dtab_nil))))⟩
theorem has : ((E.P.funcs[74]?).bind (·.body)).isSome = true := by kernel_rfl
theorem sound : EntrySound E.P 74 en := mkSound (ts := [(.st 1)]) (cod := (cTwo (.int .u32) (.int .i64))) (F := fun x => F x.1) ground loops has eq
end ref08_Load
namespace ref04_burn
noncomputable def tab : Tab := []
def F (d : Disk) (K : Disk → Prop) : Prop :=
  (bif (d.fuse == 1) then (bif (decide (d.fuse > 0)) then (K (⟨d.sure, d.cache, (IntKind.i64.wrap (d.fuse - 1)), true⟩ : Disk)) else (K (⟨d.sure, d.cache, d.fuse, true⟩ : Disk))) else (bif (decide (d.fuse > 0)) then (K (⟨d.sure, d.cache, (IntKind.i64.wrap (d.fuse - 1)), d.dead⟩ : Disk)) else (K d)))
noncomputable def en : Entry := mkEntry [(.st 1)] (cTy (.st 1)) fun x => F x.1
theorem eq (x : Dens [(.st 1)]) (K : Disk → Prop) : apure E tab (fun _ => none) 4 107 (encA [(.st 1)] x) (ansK ((cTy (.st 1))) K) = F x.1 K := by kernel_rfl
theorem loops : LoopsOk E tab (fun _ => none) 4 107 := loops_none _ _ _ _
theorem det (d : Disk) : Det (F d) := by
  unfold F
  repeat' first | with_reducible exact det_ret _ | with_reducible exact det_false | with_reducible refine det_cond _ ?_ ?_ | with_reducible refine det_oget _ (fun _ => ?_)
theorem edet (args : List AV) : Det (en args) := mkEntry_det (ts := [(.st 1)]) (cod := (cTy (.st 1))) (F := fun x => F x.1) (fun x => det x.1) args
theorem ground : Ground E tab := ⟨num, mixed, (tab_nil _), clone, dtab_nil⟩
theorem has : ((E.P.funcs[107]?).bind (·.body)).isSome = true := by kernel_rfl
theorem sound : EntrySound E.P 107 en := mkSound (ts := [(.st 1)]) (cod := (cTy (.st 1))) (F := fun x => F x.1) ground loops has eq
end ref04_burn
namespace ref04_Write
noncomputable def tab : Tab := [(107, ref04_burn.en)]
def F (d : Disk) (i : Int) (data : Str) (K : (Disk × Int) → Prop) : Prop :=
  (bif d.dead then (K (d, 6)) else (bif (decide (i < 0)) then (K (d, 4)) else (bif (decide (i ≥ (d.sure.length : Int))) then (K (d, 4)) else (bif (decide ((data.length : Int) > 64)) then (K (d, 5)) else (ref04_burn.F d fun r1 => (bif r1.dead then (K (r1, 6)) else (bif (decide (r1.cache.length * 24 ≤ room)) then (bif (decide ((r1.cache.length + ([(⟨i, data⟩ : Write)] : List Write).length) * 24 ≤ room)) then (K ((⟨r1.sure, (r1.cache ++ ([(⟨i, data⟩ : Write)] : List Write)), r1.fuse, r1.dead⟩ : Disk), 0)) else False) else False)))))))
noncomputable def en : Entry := mkEntry [(.st 1), (.int .i64), .str] (cTwo (.st 1) (.int .i64)) fun x => F x.1 x.2.1 x.2.2.1
noncomputable def tabV (f0 : Disk → (Disk → Prop) → Prop) : Tab := [(107, mkEntry [(.st 1)] (cTy (.st 1)) fun x => f0 x.1)]
theorem tabE : tab = tabV ref04_burn.F := by kernel_rfl
theorem eqv (f0 : Disk → (Disk → Prop) → Prop) (d : Disk) (i : Int) (data : Str) (K : (Disk × Int) → Prop) : apure E (tabV f0) (fun _ => none) 4 61 [enc (.st 1) d, enc (.int .i64) i, enc .str data] (ansK ((cTwo (.st 1) (.int .i64))) K) =
  (bif d.dead then (K (d, 6)) else (bif (decide (i < 0)) then (K (d, 4)) else (bif (decide (i ≥ (d.sure.length : Int))) then (K (d, 4)) else (bif (decide ((data.length : Int) > 64)) then (K (d, 5)) else (f0 d fun r1 => (bif r1.dead then (K (r1, 6)) else (bif (decide (r1.cache.length * 24 ≤ room)) then (bif (decide ((r1.cache.length + ([(⟨i, data⟩ : Write)] : List Write).length) * 24 ≤ room)) then (K ((⟨r1.sure, (r1.cache ++ ([(⟨i, data⟩ : Write)] : List Write)), r1.fuse, r1.dead⟩ : Disk), 0)) else False) else False))))))) := by kernel_rfl
theorem eq (x : Dens [(.st 1), (.int .i64), .str]) (K : (Disk × Int) → Prop) : apure E tab (fun _ => none) 4 61 (encA [(.st 1), (.int .i64), .str] x) (ansK ((cTwo (.st 1) (.int .i64))) K) = F x.1 x.2.1 x.2.2.1 K := eqv ref04_burn.F x.1 x.2.1 x.2.2.1 K
theorem loops : LoopsOk E tab (fun _ => none) 4 61 := loops_none _ _ _ _
theorem det (d : Disk) (i : Int) (data : Str) : Det (F d i data) := by
  unfold F
  repeat' first | with_reducible exact det_ret _ | with_reducible exact det_false | with_reducible refine det_cond _ ?_ ?_ | with_reducible refine det_oget _ (fun _ => ?_) | with_reducible exact ref04_burn.det _ | with_reducible refine det_bind (ref04_burn.det _) (fun _ => ?_)
theorem edet (args : List AV) : Det (en args) := mkEntry_det (ts := [(.st 1), (.int .i64), .str]) (cod := (cTwo (.st 1) (.int .i64))) (F := fun x => F x.1 x.2.1 x.2.2.1) (fun x => det x.1 x.2.1 x.2.2.1) args
theorem ground : Ground E tab := ⟨num, mixed, (tab_cons ref04_burn.sound (tab_nil _)), clone, (dtab_cons ref04_burn.edet dtab_nil)⟩
theorem has : ((E.P.funcs[61]?).bind (·.body)).isSome = true := by kernel_rfl
theorem sound : EntrySound E.P 61 en := mkSound (ts := [(.st 1), (.int .i64), .str]) (cod := (cTwo (.st 1) (.int .i64))) (F := fun x => F x.1 x.2.1 x.2.2.1) ground loops has eq
end ref04_Write
namespace ref08_Note
noncomputable def tab : Tab := [(95, ref03_Right.en), (35, ref01_Put32.en), (28, ref02_Seal.en), (61, ref04_Write.en)]
def F (d : Disk) (m : Int) (K : (Disk × Int) → Prop) : Prop :=
  (ref03_Right.F m (IntKind.i64.wrap ((d.sure.length : Int) - 2)) fun r1 => (bif (!r1) then (K (d, 1)) else (ref01_Put32.F m fun r2 => (ref02_Seal.F r2 fun r3 => (ref04_Write.F d 1 r3 fun r4 => (K (r4.1, r4.2)))))))
noncomputable def en : Entry := mkEntry [(.st 1), (.int .u32)] (cTwo (.st 1) (.int .i64)) fun x => F x.1 x.2.1
noncomputable def tabV (f0 : Int → Int → (Bool → Prop) → Prop) (f1 : Int → (Str → Prop) → Prop) (f2 : Str → (Str → Prop) → Prop) (f3 : Disk → Int → Str → ((Disk × Int) → Prop) → Prop) : Tab := [(95, mkEntry [(.int .u32), (.int .i64)] (cTy .bool) fun x => f0 x.1 x.2.1), (35, mkEntry [(.int .u32)] (cTy .str) fun x => f1 x.1), (28, mkEntry [.str] (cTy .str) fun x => f2 x.1), (61, mkEntry [(.st 1), (.int .i64), .str] (cTwo (.st 1) (.int .i64)) fun x => f3 x.1 x.2.1 x.2.2.1)]
theorem tabE : tab = tabV ref03_Right.F ref01_Put32.F ref02_Seal.F ref04_Write.F := by kernel_rfl
theorem eqv (f0 : Int → Int → (Bool → Prop) → Prop) (f1 : Int → (Str → Prop) → Prop) (f2 : Str → (Str → Prop) → Prop) (f3 : Disk → Int → Str → ((Disk × Int) → Prop) → Prop) (d : Disk) (m : Int) (K : (Disk × Int) → Prop) : apure E (tabV f0 f1 f2 f3) (fun _ => none) 4 78 [enc (.st 1) d, enc (.int .u32) m] (ansK ((cTwo (.st 1) (.int .i64))) K) =
  (f0 m (IntKind.i64.wrap ((d.sure.length : Int) - 2)) fun r1 => (bif (!r1) then (K (d, 1)) else (f1 m fun r2 => (f2 r2 fun r3 => (f3 d 1 r3 fun r4 => (K (r4.1, r4.2))))))) := by kernel_rfl
theorem eq (x : Dens [(.st 1), (.int .u32)]) (K : (Disk × Int) → Prop) : apure E tab (fun _ => none) 4 78 (encA [(.st 1), (.int .u32)] x) (ansK ((cTwo (.st 1) (.int .i64))) K) = F x.1 x.2.1 K := eqv ref03_Right.F ref01_Put32.F ref02_Seal.F ref04_Write.F x.1 x.2.1 K
theorem loops : LoopsOk E tab (fun _ => none) 4 78 := loops_none _ _ _ _
theorem det (d : Disk) (m : Int) : Det (F d m) := by
  unfold F
  repeat' first | with_reducible exact det_ret _ | with_reducible exact det_false | with_reducible refine det_cond _ ?_ ?_ | with_reducible refine det_oget _ (fun _ => ?_) | with_reducible exact ref03_Right.det _ _ | with_reducible refine det_bind (ref03_Right.det _ _) (fun _ => ?_) | with_reducible exact ref01_Put32.det _ | with_reducible refine det_bind (ref01_Put32.det _) (fun _ => ?_) | with_reducible exact ref02_Seal.det _ | with_reducible refine det_bind (ref02_Seal.det _) (fun _ => ?_) | with_reducible exact ref04_Write.det _ _ _ | with_reducible refine det_bind (ref04_Write.det _ _ _) (fun _ => ?_)
theorem edet (args : List AV) : Det (en args) := mkEntry_det (ts := [(.st 1), (.int .u32)]) (cod := (cTwo (.st 1) (.int .i64))) (F := fun x => F x.1 x.2.1) (fun x => det x.1 x.2.1) args
theorem ground : Ground E tab := ⟨num, mixed, (tab_cons ref03_Right.sound (tab_cons ref01_Put32.sound (tab_cons ref02_Seal.sound (tab_cons ref04_Write.sound (tab_nil _))))), clone, (dtab_cons ref03_Right.edet (dtab_cons ref01_Put32.edet (dtab_cons ref02_Seal.edet (dtab_cons ref04_Write.edet dtab_nil))))⟩
theorem has : ((E.P.funcs[78]?).bind (·.body)).isSome = true := by kernel_rfl
theorem sound : EntrySound E.P 78 en := mkSound (ts := [(.st 1), (.int .u32)]) (cod := (cTwo (.st 1) (.int .i64))) (F := fun x => F x.1 x.2.1) ground loops has eq
end ref08_Note
namespace ref04_Flush
noncomputable def tab : Tab := [(107, ref04_burn.en), (109, ref04_holds.en)]
structure R where
def cR (_ : R) : St := { fr := fun _ => .top, hs := hs0 }
def kR : Keep := { ks := [], bs := [], hn := 0 }
structure L0 where
  sure : (List Str)
  i : Int
  m0 : (List Str)
  m0_1 : (List Write)
  m0_2 : Int
  m0_3 : Bool
  m1 : Int
  m1_1 : Bool
def c0 (x : L0) : St := { fr := lookL .top [(1, (.ptr 0 0)), (2, (.ptr 1 0)), (4, (.slr 2)), (5, (.int .i64 x.i))], hs := { hp := lookL .dead [(2, (.row false .str x.sure)), (0, (.cells [(.sl .any .str x.m0), (.sl .any (.st 0) x.m0_1), (.int .i64 x.m0_2), (.bool x.m0_3)])), (1, (.cells [.snil, .snil, (.int .i64 x.m1), (.bool x.m1_1)]))], hn := 3 } }
def kp0 : Keep := { ks := [(1, none), (2, none), (4, some 2), (5, none)], bs := [0, 1], hn := 3 }
def p0 (st : St) (K : L0 → Prop) : Prop := gHomes kp0 st <| gPtr 0 0 (st.fr 1) <| gPtr 1 0 (st.fr 2) <| gSlr (st.fr 4) fun c1 => gRow false .str (st.hs.hp c1) fun a2 => gInt .i64 (st.fr 5) fun a3 => gCells (st.hs.hp 0) fun c4 => gCons c4 fun c5 c6 => gSl .any .str c5 fun a7 => gCons c6 fun c8 c9 => gSl .any (.st 0) c8 fun a10 => gCons c9 fun c11 c12 => gInt .i64 c11 fun a13 => gCons c12 fun c14 c15 => gBool c14 fun a16 => gNil c15 <| gCells (st.hs.hp 1) fun c17 => gCons c17 fun c18 c19 => gSnil c18 <| gCons c19 fun c20 c21 => gSnil c20 <| gCons c21 fun c22 c23 => gInt .i64 c22 fun a24 => gCons c23 fun c25 c26 => gBool c25 fun a27 => gNil c26 <| K ⟨a2, a3, a7, a10, a13, a16, a24, a27⟩
theorem p0_ok (st : St) (K : L0 → Prop) (h : p0 st K) : ∃ x, keepSt kp0 st = c0 x ∧ K x := by
  obtain ⟨h0, h⟩ := gHomes_elim h
  obtain ⟨h1, h⟩ := gPtr_elim h
  obtain ⟨h2, h⟩ := gPtr_elim h
  obtain ⟨c1, h3, h⟩ := gSlr_elim h
  obtain ⟨a2, h4, h⟩ := gRow_elim h
  obtain ⟨a3, h5, h⟩ := gInt_elim h
  obtain ⟨c4, h6, h⟩ := gCells_elim h
  obtain ⟨c5, c6, h7, h⟩ := gCons_elim h
  obtain ⟨a7, h8, h⟩ := gSl_elim h
  obtain ⟨c8, c9, h9, h⟩ := gCons_elim h
  obtain ⟨a10, h10, h⟩ := gSl_elim h
  obtain ⟨c11, c12, h11, h⟩ := gCons_elim h
  obtain ⟨a13, h12, h⟩ := gInt_elim h
  obtain ⟨c14, c15, h13, h⟩ := gCons_elim h
  obtain ⟨a16, h14, h⟩ := gBool_elim h
  obtain ⟨h15, h⟩ := gNil_elim h
  obtain ⟨c17, h16, h⟩ := gCells_elim h
  obtain ⟨c18, c19, h17, h⟩ := gCons_elim h
  obtain ⟨h18, h⟩ := gSnil_elim h
  obtain ⟨c20, c21, h19, h⟩ := gCons_elim h
  obtain ⟨h20, h⟩ := gSnil_elim h
  obtain ⟨c22, c23, h21, h⟩ := gCons_elim h
  obtain ⟨a24, h22, h⟩ := gInt_elim h
  obtain ⟨c25, c26, h23, h⟩ := gCons_elim h
  obtain ⟨a27, h24, h⟩ := gBool_elim h
  obtain ⟨h25, h⟩ := gNil_elim h
  refine ⟨_, ?_, h⟩
  subst h7
  subst h8
  subst h9
  subst h10
  subst h11
  subst h12
  subst h13
  subst h14
  subst h15
  subst h17
  subst h18
  subst h19
  subst h20
  subst h21
  subst h22
  subst h23
  subst h24
  subst h25
  simp only [keepSt, h0]
  simp only [kp0, List.map, List.filterMap, homeOf, h1, h2, h3, h4, h5, h6, h16, hmOf, List.append_nil, cond_true]
  rfl
def b0 (rec kx : L0 → Prop) (kr : R → Prop) (x : L0) : Prop :=
  (bif (decide (x.i < (x.m0.length : Int))) then (ref04_holds.F (⟨x.m0, x.m0_1, x.m0_2, x.m0_3⟩ : Disk) x.i fun r2 => (bif (decide ((x.sure.length + ([r2] : List Str).length) * 16 ≤ room)) then (rec ⟨(x.sure ++ ([r2] : List Str)), (IntKind.i64.wrap (x.i + 1)), x.m0, x.m0_1, x.m0_2, x.m0_3, x.m1, x.m1_1⟩) else False)) else (kx ⟨x.sure, x.i, x.m0, x.m0_1, x.m0_2, x.m0_3, x.m1, x.m1_1⟩))
def l0 : LSpec := mkLoop 0 kp0 kR p0 c0 cR b0
def lt : Nat → Option LSpec
  | 0 => some l0
  | _ => none
def F (d : Disk) (K : (Disk × Int) → Prop) : Prop :=
  (bif d.dead then (K (d, 6)) else (ref04_burn.F d fun r1 => (bif r1.dead then (K (r1, 6)) else (∃ n, loopB b0 n (fun x3 => (K ((⟨x3.sure, ([] : List Write), x3.m0_2, x3.m0_3⟩ : Disk), 0))) (fun _ => False) ⟨([] : List Str), 0, r1.sure, r1.cache, r1.fuse, r1.dead, 0, false⟩))))
noncomputable def en : Entry := mkEntry [(.st 1)] (cTwo (.st 1) (.int .i64)) fun x => F x.1
noncomputable def tabV (f0 : Disk → (Disk → Prop) → Prop) (f1 : Disk → Int → (Str → Prop) → Prop) : Tab := [(107, mkEntry [(.st 1)] (cTy (.st 1)) fun x => f0 x.1), (109, mkEntry [(.st 1), (.int .i64)] (cTy .str) fun x => f1 x.1 x.2.1)]
theorem tabE : tab = tabV ref04_burn.F ref04_holds.F := by kernel_rfl
def b0V (f0 : Disk → (Disk → Prop) → Prop) (f1 : Disk → Int → (Str → Prop) → Prop) (rec kx : L0 → Prop) (kr : R → Prop) (x : L0) : Prop :=
  (bif (decide (x.i < (x.m0.length : Int))) then (f1 (⟨x.m0, x.m0_1, x.m0_2, x.m0_3⟩ : Disk) x.i fun r2 => (bif (decide ((x.sure.length + ([r2] : List Str).length) * 16 ≤ room)) then (rec ⟨(x.sure ++ ([r2] : List Str)), (IntKind.i64.wrap (x.i + 1)), x.m0, x.m0_1, x.m0_2, x.m0_3, x.m1, x.m1_1⟩) else False)) else (kx ⟨x.sure, x.i, x.m0, x.m0_1, x.m0_2, x.m0_3, x.m1, x.m1_1⟩))
def ltV (f0 : Disk → (Disk → Prop) → Prop) (f1 : Disk → Int → (Str → Prop) → Prop) : Nat → Option LSpec
  | 0 => some (mkLoop 0 kp0 kR p0 c0 cR (b0V f0 f1))
  | _ => none
theorem ltE : lt = ltV ref04_burn.F ref04_holds.F := by kernel_rfl
theorem eqv (f0 : Disk → (Disk → Prop) → Prop) (f1 : Disk → Int → (Str → Prop) → Prop) (d : Disk) (K : (Disk × Int) → Prop) : apure E (tabV f0 f1) (ltV f0 f1) 4 65 [enc (.st 1) d] (ansK ((cTwo (.st 1) (.int .i64))) K) =
  (bif d.dead then (K (d, 6)) else (f0 d fun r1 => (bif r1.dead then (K (r1, 6)) else (∃ n, loopB (b0V f0 f1) n (fun x3 => (K ((⟨x3.sure, ([] : List Write), x3.m0_2, x3.m0_3⟩ : Disk), 0))) (fun _ => False) ⟨([] : List Str), 0, r1.sure, r1.cache, r1.fuse, r1.dead, 0, false⟩)))) := by kernel_rfl
theorem eq (x : Dens [(.st 1)]) (K : (Disk × Int) → Prop) : apure E tab lt 4 65 (encA [(.st 1)] x) (ansK ((cTwo (.st 1) (.int .i64))) K) = F x.1 K := by
  rw [tabE, ltE]
  exact eqv ref04_burn.F ref04_holds.F x.1 K
theorem l0v (f0 : Disk → (Disk → Prop) → Prop) (f1 : Disk → Int → (Str → Prop) → Prop) (R : St → Prop) (Kx : Nat → St → Prop) (Kr : St → Prop) (x : L0) : acode E (tabV f0 f1) (afun E (tabV f0 f1) 4) 31 (ltV f0 f1) ((loopsIn E.P 65).getD 0 (0, .skip)).2 0 (fun s => R (keepSt kp0 s)) (fun j s => Kx j (keepSt kp0 s)) (fun s => Kr (keepSt kR s)) (c0 x) =
    b0V f0 f1 (fun x => R (c0 x)) (fun x => Kx 0 (c0 x)) (fun r => Kr (cR r)) x := by kernel_rfl
theorem l0_ok : LSound E tab (afun E tab 4) 31 lt 0 ((loopsIn E.P 65).getD 0 (0, .skip)).2 l0 := mkLoop_sound (by decide) (by decide) p0_ok (fun R Kx Kr x => by
  rw [tabE, ltE]
  exact l0v ref04_burn.F ref04_holds.F R Kx Kr x)
theorem loops : LoopsOk E tab lt 4 65 := loops_of (nt := 31) (ids := [0]) (by kernel_rfl) (by kernel_rfl) (by
  intro k i hk l hl
  match k, hk with
  | 0, hk => cases hk; cases hl; exact l0_ok
  | _ + 1, hk => exact absurd hk (by simp))
theorem det (d : Disk) : Det (F d) := by
  unfold F
  repeat' first | with_reducible exact det_ret _ | with_reducible exact det_false | with_reducible refine det_cond _ ?_ ?_ | with_reducible refine det_oget _ (fun _ => ?_) | with_reducible exact ref04_burn.det _ | with_reducible refine det_bind (ref04_burn.det _) (fun _ => ?_) | with_reducible exact ref04_holds.det _ _ | with_reducible refine det_bind (ref04_holds.det _ _) (fun _ => ?_) | with_reducible refine det_loop (fun _ => ?_) (fun _ => ?_) (fun _ => ?_) _ | unfold b0
theorem edet (args : List AV) : Det (en args) := mkEntry_det (ts := [(.st 1)]) (cod := (cTwo (.st 1) (.int .i64))) (F := fun x => F x.1) (fun x => det x.1) args
theorem ground : Ground E tab := ⟨num, mixed, (tab_cons ref04_burn.sound (tab_cons ref04_holds.sound (tab_nil _))), clone, (dtab_cons ref04_burn.edet (dtab_cons ref04_holds.edet dtab_nil))⟩
theorem has : ((E.P.funcs[65]?).bind (·.body)).isSome = true := by kernel_rfl
theorem sound : EntrySound E.P 65 en := mkSound (ts := [(.st 1)]) (cod := (cTwo (.st 1) (.int .i64))) (F := fun x => F x.1) ground loops has eq
end ref04_Flush
namespace ref08_Save
noncomputable def tab : Tab := [(78, ref08_Note.en), (65, ref04_Flush.en)]
def F (d : Disk) (m : Int) (K : (Disk × Int) → Prop) : Prop :=
  (ref08_Note.F d m fun r1 => (bif (r1.2 != 0) then (K (r1.1, r1.2)) else (ref04_Flush.F r1.1 fun r2 => (K (r2.1, r2.2)))))
noncomputable def en : Entry := mkEntry [(.st 1), (.int .u32)] (cTwo (.st 1) (.int .i64)) fun x => F x.1 x.2.1
noncomputable def tabV (f0 : Disk → Int → ((Disk × Int) → Prop) → Prop) (f1 : Disk → ((Disk × Int) → Prop) → Prop) : Tab := [(78, mkEntry [(.st 1), (.int .u32)] (cTwo (.st 1) (.int .i64)) fun x => f0 x.1 x.2.1), (65, mkEntry [(.st 1)] (cTwo (.st 1) (.int .i64)) fun x => f1 x.1)]
theorem tabE : tab = tabV ref08_Note.F ref04_Flush.F := by kernel_rfl
theorem eqv (f0 : Disk → Int → ((Disk × Int) → Prop) → Prop) (f1 : Disk → ((Disk × Int) → Prop) → Prop) (d : Disk) (m : Int) (K : (Disk × Int) → Prop) : apure E (tabV f0 f1) (fun _ => none) 4 76 [enc (.st 1) d, enc (.int .u32) m] (ansK ((cTwo (.st 1) (.int .i64))) K) =
  (f0 d m fun r1 => (bif (r1.2 != 0) then (K (r1.1, r1.2)) else (f1 r1.1 fun r2 => (K (r2.1, r2.2))))) := by kernel_rfl
theorem eq (x : Dens [(.st 1), (.int .u32)]) (K : (Disk × Int) → Prop) : apure E tab (fun _ => none) 4 76 (encA [(.st 1), (.int .u32)] x) (ansK ((cTwo (.st 1) (.int .i64))) K) = F x.1 x.2.1 K := eqv ref08_Note.F ref04_Flush.F x.1 x.2.1 K
theorem loops : LoopsOk E tab (fun _ => none) 4 76 := loops_none _ _ _ _
theorem det (d : Disk) (m : Int) : Det (F d m) := by
  unfold F
  repeat' first | with_reducible exact det_ret _ | with_reducible exact det_false | with_reducible refine det_cond _ ?_ ?_ | with_reducible refine det_oget _ (fun _ => ?_) | with_reducible exact ref08_Note.det _ _ | with_reducible refine det_bind (ref08_Note.det _ _) (fun _ => ?_) | with_reducible exact ref04_Flush.det _ | with_reducible refine det_bind (ref04_Flush.det _) (fun _ => ?_)
theorem edet (args : List AV) : Det (en args) := mkEntry_det (ts := [(.st 1), (.int .u32)]) (cod := (cTwo (.st 1) (.int .i64))) (F := fun x => F x.1 x.2.1) (fun x => det x.1 x.2.1) args
theorem ground : Ground E tab := ⟨num, mixed, (tab_cons ref08_Note.sound (tab_cons ref04_Flush.sound (tab_nil _))), clone, (dtab_cons ref08_Note.edet (dtab_cons ref04_Flush.edet dtab_nil))⟩
theorem has : ((E.P.funcs[76]?).bind (·.body)).isSome = true := by kernel_rfl
theorem sound : EntrySound E.P 76 en := mkSound (ts := [(.st 1), (.int .u32)]) (cod := (cTwo (.st 1) (.int .i64))) (F := fun x => F x.1 x.2.1) ground loops has eq
end ref08_Save
namespace law08_BitsTells
noncomputable def tab : Tab := [(72, law08_alive.en), (53, ref04_Great.en), (58, ref04_Right.en), (73, bits_Load.en), (74, ref08_Load.en), (75, bits_Save.en), (76, ref08_Save.en), (77, bits_Note.en), (78, ref08_Note.en), (56, ref04_Same.en)]
def F (d : Disk) (m : Int) (K : Bool → Prop) : Prop :=
  (law08_alive.F fun r1 => (bif (!r1) then (K false) else (ref04_Great.F d fun r2 => (bif r2 then (K true) else (ref04_Right.F d fun r3 => (bif (!r3) then (K true) else (bits_Load.F d fun r4 => (ref08_Load.F d fun r5 => (bits_Save.F d m fun r6 => (ref08_Save.F d m fun r7 => (bits_Note.F d m fun r8 => (ref08_Note.F d m fun r9 => (bif (r4.1 == r5.1) then (bif (r4.2 == r5.2) then (ref04_Same.F r6.1 r7.1 fun r10 => (bif r10 then (bif (r6.2 == r7.2) then (ref04_Same.F r8.1 r9.1 fun r11 => (bif r11 then (K (r8.2 == r9.2)) else (K false))) else (K false)) else (K false))) else (K false)) else (K false))))))))))))))
noncomputable def en : Entry := mkEntry [(.st 1), (.int .u32)] (cTy .bool) fun x => F x.1 x.2.1
noncomputable def tabV (f0 : (Bool → Prop) → Prop) (f1 : Disk → (Bool → Prop) → Prop) (f2 : Disk → (Bool → Prop) → Prop) (f3 : Disk → ((Int × Int) → Prop) → Prop) (f4 : Disk → ((Int × Int) → Prop) → Prop) (f5 : Disk → Int → ((Disk × Int) → Prop) → Prop) (f6 : Disk → Int → ((Disk × Int) → Prop) → Prop) (f7 : Disk → Int → ((Disk × Int) → Prop) → Prop) (f8 : Disk → Int → ((Disk × Int) → Prop) → Prop) (f9 : Disk → Disk → (Bool → Prop) → Prop) : Tab := [(72, mkEntry [] (cTy .bool) fun _ => f0), (53, mkEntry [(.st 1)] (cTy .bool) fun x => f1 x.1), (58, mkEntry [(.st 1)] (cTy .bool) fun x => f2 x.1), (73, mkEntry [(.st 1)] (cTwo (.int .u32) (.int .i64)) fun x => f3 x.1), (74, mkEntry [(.st 1)] (cTwo (.int .u32) (.int .i64)) fun x => f4 x.1), (75, mkEntry [(.st 1), (.int .u32)] (cTwo (.st 1) (.int .i64)) fun x => f5 x.1 x.2.1), (76, mkEntry [(.st 1), (.int .u32)] (cTwo (.st 1) (.int .i64)) fun x => f6 x.1 x.2.1), (77, mkEntry [(.st 1), (.int .u32)] (cTwo (.st 1) (.int .i64)) fun x => f7 x.1 x.2.1), (78, mkEntry [(.st 1), (.int .u32)] (cTwo (.st 1) (.int .i64)) fun x => f8 x.1 x.2.1), (56, mkEntry [(.st 1), (.st 1)] (cTy .bool) fun x => f9 x.1 x.2.1)]
theorem tabE : tab = tabV law08_alive.F ref04_Great.F ref04_Right.F bits_Load.F ref08_Load.F bits_Save.F ref08_Save.F bits_Note.F ref08_Note.F ref04_Same.F := by kernel_rfl
theorem eqv (f0 : (Bool → Prop) → Prop) (f1 : Disk → (Bool → Prop) → Prop) (f2 : Disk → (Bool → Prop) → Prop) (f3 : Disk → ((Int × Int) → Prop) → Prop) (f4 : Disk → ((Int × Int) → Prop) → Prop) (f5 : Disk → Int → ((Disk × Int) → Prop) → Prop) (f6 : Disk → Int → ((Disk × Int) → Prop) → Prop) (f7 : Disk → Int → ((Disk × Int) → Prop) → Prop) (f8 : Disk → Int → ((Disk × Int) → Prop) → Prop) (f9 : Disk → Disk → (Bool → Prop) → Prop) (d : Disk) (m : Int) (K : Bool → Prop) : apure E (tabV f0 f1 f2 f3 f4 f5 f6 f7 f8 f9) (fun _ => none) 4 17 [enc (.st 1) d, enc (.int .u32) m] (ansK ((cTy .bool)) K) =
  (f0 fun r1 => (bif (!r1) then (K false) else (f1 d fun r2 => (bif r2 then (K true) else (f2 d fun r3 => (bif (!r3) then (K true) else (f3 d fun r4 => (f4 d fun r5 => (f5 d m fun r6 => (f6 d m fun r7 => (f7 d m fun r8 => (f8 d m fun r9 => (bif (r4.1 == r5.1) then (bif (r4.2 == r5.2) then (f9 r6.1 r7.1 fun r10 => (bif r10 then (bif (r6.2 == r7.2) then (f9 r8.1 r9.1 fun r11 => (bif r11 then (K (r8.2 == r9.2)) else (K false))) else (K false)) else (K false))) else (K false)) else (K false)))))))))))))) := by kernel_rfl
theorem eq (x : Dens [(.st 1), (.int .u32)]) (K : Bool → Prop) : apure E tab (fun _ => none) 4 17 (encA [(.st 1), (.int .u32)] x) (ansK ((cTy .bool)) K) = F x.1 x.2.1 K := eqv law08_alive.F ref04_Great.F ref04_Right.F bits_Load.F ref08_Load.F bits_Save.F ref08_Save.F bits_Note.F ref08_Note.F ref04_Same.F x.1 x.2.1 K
theorem loops : LoopsOk E tab (fun _ => none) 4 17 := loops_none _ _ _ _
theorem det (d : Disk) (m : Int) : Det (F d m) := by
  unfold F
  repeat' first | with_reducible exact det_ret _ | with_reducible exact det_false | with_reducible refine det_cond _ ?_ ?_ | with_reducible refine det_oget _ (fun _ => ?_) | with_reducible exact law08_alive.det | with_reducible refine det_bind (law08_alive.det) (fun _ => ?_) | with_reducible exact ref04_Great.det _ | with_reducible refine det_bind (ref04_Great.det _) (fun _ => ?_) | with_reducible exact ref04_Right.det _ | with_reducible refine det_bind (ref04_Right.det _) (fun _ => ?_) | with_reducible exact bits_Load.det _ | with_reducible refine det_bind (bits_Load.det _) (fun _ => ?_) | with_reducible exact ref08_Load.det _ | with_reducible refine det_bind (ref08_Load.det _) (fun _ => ?_) | with_reducible exact bits_Save.det _ _ | with_reducible refine det_bind (bits_Save.det _ _) (fun _ => ?_) | with_reducible exact ref08_Save.det _ _ | with_reducible refine det_bind (ref08_Save.det _ _) (fun _ => ?_) | with_reducible exact bits_Note.det _ _ | with_reducible refine det_bind (bits_Note.det _ _) (fun _ => ?_) | with_reducible exact ref08_Note.det _ _ | with_reducible refine det_bind (ref08_Note.det _ _) (fun _ => ?_) | with_reducible exact ref04_Same.det _ _ | with_reducible refine det_bind (ref04_Same.det _ _) (fun _ => ?_)
theorem edet (args : List AV) : Det (en args) := mkEntry_det (ts := [(.st 1), (.int .u32)]) (cod := (cTy .bool)) (F := fun x => F x.1 x.2.1) (fun x => det x.1 x.2.1) args
theorem ground : Ground E tab := ⟨num, mixed, (tab_cons law08_alive.sound (tab_cons ref04_Great.sound (tab_cons ref04_Right.sound (tab_cons bits_Load.sound (tab_cons ref08_Load.sound (tab_cons bits_Save.sound (tab_cons ref08_Save.sound (tab_cons bits_Note.sound (tab_cons ref08_Note.sound (tab_cons ref04_Same.sound (tab_nil _))))))))))), clone, (dtab_cons law08_alive.edet (dtab_cons ref04_Great.edet (dtab_cons ref04_Right.edet (dtab_cons bits_Load.edet (dtab_cons ref08_Load.edet (dtab_cons bits_Save.edet (dtab_cons ref08_Save.edet (dtab_cons bits_Note.edet (dtab_cons ref08_Note.edet (dtab_cons ref04_Same.edet dtab_nil))))))))))⟩
theorem has : ((E.P.funcs[17]?).bind (·.body)).isSome = true := by kernel_rfl
theorem sound : EntrySound E.P 17 en := mkSound (ts := [(.st 1), (.int .u32)]) (cod := (cTy .bool)) (F := fun x => F x.1 x.2.1) ground loops has eq
end law08_BitsTells
namespace law08_BitsSure
noncomputable def tab : Tab := [(72, law08_alive.en), (55, ref04_New.en), (75, bits_Save.en), (56, ref04_Same.en), (77, bits_Note.en), (73, bits_Load.en), (69, ref04_Crash.en), (71, ref04_Revive.en)]
def F (n_0 : Int) (m : Two) (keeps : (List Bool)) (K : Bool → Prop) : Prop :=
  (law08_alive.F fun r1 => (bif (!r1) then (K false) else (bif (decide ((keeps.length : Int) > 50)) then (K true) else (bif (32 == 0) then False else (ref04_New.F (IntKind.i64.wrap (3 + (IntKind.i64.wrap (n_0.tmod 32)))) fun r2 => (bits_Save.F r2.1 m.a fun r3 => (bif (r3.2 != 0) then (bif (r3.2 == 1) then (ref04_Same.F r3.1 r2.1 fun r4 => (K r4)) else (K false)) else (bits_Note.F r3.1 m.b fun r5 => (bif (r5.2 != 0) then (bif (r5.2 == 1) then (ref04_Same.F r3.1 r5.1 fun r6 => (K r6)) else (K false)) else (bits_Load.F r5.1 fun r7 => (ref04_Crash.F r5.1 fun r8 => (ref04_Revive.F r8 keeps fun r9 => (bits_Load.F r9 fun r10 => (bif (r7.2 == 0) then (bif (r10.2 == 0) then (bif (r7.1 == m.b) then (bif (r10.1 == m.a) then (K true) else (K (r10.1 == m.b))) else (K false)) else (K false)) else (K false)))))))))))))))
noncomputable def en : Entry := mkEntry [(.int .u8), (.st 7), (.slice .bool)] (cTy .bool) fun x => F x.1 x.2.1 x.2.2.1
noncomputable def tabV (f0 : (Bool → Prop) → Prop) (f1 : Int → ((Disk × Int) → Prop) → Prop) (f2 : Disk → Int → ((Disk × Int) → Prop) → Prop) (f3 : Disk → Disk → (Bool → Prop) → Prop) (f4 : Disk → Int → ((Disk × Int) → Prop) → Prop) (f5 : Disk → ((Int × Int) → Prop) → Prop) (f6 : Disk → (Disk → Prop) → Prop) (f7 : Disk → (List Bool) → (Disk → Prop) → Prop) : Tab := [(72, mkEntry [] (cTy .bool) fun _ => f0), (55, mkEntry [(.int .i64)] (cTwo (.st 1) (.int .i64)) fun x => f1 x.1), (75, mkEntry [(.st 1), (.int .u32)] (cTwo (.st 1) (.int .i64)) fun x => f2 x.1 x.2.1), (56, mkEntry [(.st 1), (.st 1)] (cTy .bool) fun x => f3 x.1 x.2.1), (77, mkEntry [(.st 1), (.int .u32)] (cTwo (.st 1) (.int .i64)) fun x => f4 x.1 x.2.1), (73, mkEntry [(.st 1)] (cTwo (.int .u32) (.int .i64)) fun x => f5 x.1), (69, mkEntry [(.st 1)] (cTy (.st 1)) fun x => f6 x.1), (71, mkEntry [(.st 1), (.slice .bool)] (cTy (.st 1)) fun x => f7 x.1 x.2.1)]
theorem tabE : tab = tabV law08_alive.F ref04_New.F bits_Save.F ref04_Same.F bits_Note.F bits_Load.F ref04_Crash.F ref04_Revive.F := by kernel_rfl
theorem eqv (f0 : (Bool → Prop) → Prop) (f1 : Int → ((Disk × Int) → Prop) → Prop) (f2 : Disk → Int → ((Disk × Int) → Prop) → Prop) (f3 : Disk → Disk → (Bool → Prop) → Prop) (f4 : Disk → Int → ((Disk × Int) → Prop) → Prop) (f5 : Disk → ((Int × Int) → Prop) → Prop) (f6 : Disk → (Disk → Prop) → Prop) (f7 : Disk → (List Bool) → (Disk → Prop) → Prop) (n_0 : Int) (m : Two) (keeps : (List Bool)) (K : Bool → Prop) : apure E (tabV f0 f1 f2 f3 f4 f5 f6 f7) (fun _ => none) 4 18 [enc (.int .u8) n_0, enc (.st 7) m, enc (.slice .bool) keeps] (ansK ((cTy .bool)) K) =
  (f0 fun r1 => (bif (!r1) then (K false) else (bif (decide ((keeps.length : Int) > 50)) then (K true) else (bif (32 == 0) then False else (f1 (IntKind.i64.wrap (3 + (IntKind.i64.wrap (n_0.tmod 32)))) fun r2 => (f2 r2.1 m.a fun r3 => (bif (r3.2 != 0) then (bif (r3.2 == 1) then (f3 r3.1 r2.1 fun r4 => (K r4)) else (K false)) else (f4 r3.1 m.b fun r5 => (bif (r5.2 != 0) then (bif (r5.2 == 1) then (f3 r3.1 r5.1 fun r6 => (K r6)) else (K false)) else (f5 r5.1 fun r7 => (f6 r5.1 fun r8 => (f7 r8 keeps fun r9 => (f5 r9 fun r10 => (bif (r7.2 == 0) then (bif (r10.2 == 0) then (bif (r7.1 == m.b) then (bif (r10.1 == m.a) then (K true) else (K (r10.1 == m.b))) else (K false)) else (K false)) else (K false))))))))))))))) := by kernel_rfl
theorem eq (x : Dens [(.int .u8), (.st 7), (.slice .bool)]) (K : Bool → Prop) : apure E tab (fun _ => none) 4 18 (encA [(.int .u8), (.st 7), (.slice .bool)] x) (ansK ((cTy .bool)) K) = F x.1 x.2.1 x.2.2.1 K := eqv law08_alive.F ref04_New.F bits_Save.F ref04_Same.F bits_Note.F bits_Load.F ref04_Crash.F ref04_Revive.F x.1 x.2.1 x.2.2.1 K
theorem loops : LoopsOk E tab (fun _ => none) 4 18 := loops_none _ _ _ _
theorem det (n_0 : Int) (m : Two) (keeps : (List Bool)) : Det (F n_0 m keeps) := by
  unfold F
  repeat' first | with_reducible exact det_ret _ | with_reducible exact det_false | with_reducible refine det_cond _ ?_ ?_ | with_reducible refine det_oget _ (fun _ => ?_) | with_reducible exact law08_alive.det | with_reducible refine det_bind (law08_alive.det) (fun _ => ?_) | with_reducible exact ref04_New.det _ | with_reducible refine det_bind (ref04_New.det _) (fun _ => ?_) | with_reducible exact bits_Save.det _ _ | with_reducible refine det_bind (bits_Save.det _ _) (fun _ => ?_) | with_reducible exact ref04_Same.det _ _ | with_reducible refine det_bind (ref04_Same.det _ _) (fun _ => ?_) | with_reducible exact bits_Note.det _ _ | with_reducible refine det_bind (bits_Note.det _ _) (fun _ => ?_) | with_reducible exact bits_Load.det _ | with_reducible refine det_bind (bits_Load.det _) (fun _ => ?_) | with_reducible exact ref04_Crash.det _ | with_reducible refine det_bind (ref04_Crash.det _) (fun _ => ?_) | with_reducible exact ref04_Revive.det _ _ | with_reducible refine det_bind (ref04_Revive.det _ _) (fun _ => ?_)
theorem edet (args : List AV) : Det (en args) := mkEntry_det (ts := [(.int .u8), (.st 7), (.slice .bool)]) (cod := (cTy .bool)) (F := fun x => F x.1 x.2.1 x.2.2.1) (fun x => det x.1 x.2.1 x.2.2.1) args
theorem ground : Ground E tab := ⟨num, mixed, (tab_cons law08_alive.sound (tab_cons ref04_New.sound (tab_cons bits_Save.sound (tab_cons ref04_Same.sound (tab_cons bits_Note.sound (tab_cons bits_Load.sound (tab_cons ref04_Crash.sound (tab_cons ref04_Revive.sound (tab_nil _))))))))), clone, (dtab_cons law08_alive.edet (dtab_cons ref04_New.edet (dtab_cons bits_Save.edet (dtab_cons ref04_Same.edet (dtab_cons bits_Note.edet (dtab_cons bits_Load.edet (dtab_cons ref04_Crash.edet (dtab_cons ref04_Revive.edet dtab_nil))))))))⟩
theorem has : ((E.P.funcs[18]?).bind (·.body)).isSome = true := by kernel_rfl
theorem sound : EntrySound E.P 18 en := mkSound (ts := [(.int .u8), (.st 7), (.slice .bool)]) (cod := (cTy .bool)) (F := fun x => F x.1 x.2.1 x.2.2.1) ground loops has eq
end law08_BitsSure
end Gm
