/- Printed by a program (gen.py): the functions' answers, and that they are so. -/
import Derived.Test.YtbhgalddlkebgaaGmT1
import Derived.Test.YtbhgalddlkebgaaGmT2
import Derived.Test.YtbhgalddlkebgaaGmRd3
import Derived.Test.YtbhgalddlkebgaaGmRi2
import Derived.Test.YtbhgalddlkebgaaGmT3
set_option linter.unusedVariables false
set_option maxRecDepth 100000
namespace Gm
open Go Go.Proofs
namespace law04_DiskFuses
noncomputable def tab : Tab := [(52, law04_alive.en), (53, ref04_Great.en), (58, ref04_Right.en), (66, disk_Arm.en), (60, disk_Write.en)]
structure R where
  t6 : Bool
def cR (x : R) : St := { fr := lookL .top [(6, (.bool x.t6))], hs := { hp := lookL .dead [], hn := 3 } }
def kR : Keep := { ks := [(6, none)], bs := [], hn := 3 }
structure L0 where
  n0 : Int
  writes : (List Write)
  done : Int
  i : Int
  m0 : (List Str)
  m0_1 : (List Write)
  m0_2 : Int
  m0_3 : Bool
  m1 : (List Str)
  m1_1 : (List Write)
  m1_2 : Int
  m1_3 : Bool
def c0 (x : L0) : St := { fr := lookL .top [(1, (.int .u8 x.n0)), (2, (.sl .any (.st 0) x.writes)), (3, (.ptr 0 0)), (7, (.ptr 1 0)), (8, (.int .i64 x.done)), (9, (.int .i64 x.i))], hs := { hp := lookL .dead [(0, (.cells [(.sl .any .str x.m0), (.sl .any (.st 0) x.m0_1), (.int .i64 x.m0_2), (.bool x.m0_3)])), (1, (.cells [(.sl .any .str x.m1), (.sl .any (.st 0) x.m1_1), (.int .i64 x.m1_2), (.bool x.m1_3)]))], hn := 2 } }
def kp0 : Keep := { ks := [(1, none), (2, none), (3, none), (7, none), (8, none), (9, none)], bs := [0, 1], hn := 2 }
def p0 (st : St) (K : L0 → Prop) : Prop := gInt .u8 (st.fr 1) fun a1 => gSl .any (.st 0) (st.fr 2) fun a2 => gPtr 0 0 (st.fr 3) <| gPtr 1 0 (st.fr 7) <| gInt .i64 (st.fr 8) fun a3 => gInt .i64 (st.fr 9) fun a4 => gCells (st.hs.hp 0) fun c5 => gCons c5 fun c6 c7 => gSl .any .str c6 fun a8 => gCons c7 fun c9 c10 => gSl .any (.st 0) c9 fun a11 => gCons c10 fun c12 c13 => gInt .i64 c12 fun a14 => gCons c13 fun c15 c16 => gBool c15 fun a17 => gNil c16 <| gCells (st.hs.hp 1) fun c18 => gCons c18 fun c19 c20 => gSl .any .str c19 fun a21 => gCons c20 fun c22 c23 => gSl .any (.st 0) c22 fun a24 => gCons c23 fun c25 c26 => gInt .i64 c25 fun a27 => gCons c26 fun c28 c29 => gBool c28 fun a30 => gNil c29 <| K ⟨a1, a2, a3, a4, a8, a11, a14, a17, a21, a24, a27, a30⟩
theorem p0_ok (st : St) (K : L0 → Prop) (h : p0 st K) : ∃ x, keepSt kp0 st = c0 x ∧ K x := by
  obtain ⟨a1, h0, h⟩ := gInt_elim h
  obtain ⟨a2, h1, h⟩ := gSl_elim h
  obtain ⟨h2, h⟩ := gPtr_elim h
  obtain ⟨h3, h⟩ := gPtr_elim h
  obtain ⟨a3, h4, h⟩ := gInt_elim h
  obtain ⟨a4, h5, h⟩ := gInt_elim h
  obtain ⟨c5, h6, h⟩ := gCells_elim h
  obtain ⟨c6, c7, h7, h⟩ := gCons_elim h
  obtain ⟨a8, h8, h⟩ := gSl_elim h
  obtain ⟨c9, c10, h9, h⟩ := gCons_elim h
  obtain ⟨a11, h10, h⟩ := gSl_elim h
  obtain ⟨c12, c13, h11, h⟩ := gCons_elim h
  obtain ⟨a14, h12, h⟩ := gInt_elim h
  obtain ⟨c15, c16, h13, h⟩ := gCons_elim h
  obtain ⟨a17, h14, h⟩ := gBool_elim h
  obtain ⟨h15, h⟩ := gNil_elim h
  obtain ⟨c18, h16, h⟩ := gCells_elim h
  obtain ⟨c19, c20, h17, h⟩ := gCons_elim h
  obtain ⟨a21, h18, h⟩ := gSl_elim h
  obtain ⟨c22, c23, h19, h⟩ := gCons_elim h
  obtain ⟨a24, h20, h⟩ := gSl_elim h
  obtain ⟨c25, c26, h21, h⟩ := gCons_elim h
  obtain ⟨a27, h22, h⟩ := gInt_elim h
  obtain ⟨c28, c29, h23, h⟩ := gCons_elim h
  obtain ⟨a30, h24, h⟩ := gBool_elim h
  obtain ⟨h25, h⟩ := gNil_elim h
  refine ⟨_, ?_, h⟩
  subst h7
  subst h8
  subst h9
  subst h10
  subst h11
  subst h12
  subst h13
  subst h14
  subst h15
  subst h17
  subst h18
  subst h19
  subst h20
  subst h21
  subst h22
  subst h23
  subst h24
  subst h25
  simp only [keepSt, kp0, List.map, List.filterMap, homeOf, h0, h1, h2, h3, h4, h5, h6, h16]
  rfl
def b0 (rec kx : L0 → Prop) (kr : R → Prop) (x : L0) : Prop :=
  (bif (decide (x.i < (x.writes.length : Int))) then (oget (getI x.writes x.i) fun v5 => (oget (getI x.writes x.i) fun v6 => (disk_Write.F (⟨x.m1, x.m1_1, x.m1_2, x.m1_3⟩ : Disk) v5.sector v6.data fun r7 => (bif (r7.2 == 0) then (bif (!((r7.2 == 6) == r7.1.dead)) then (kr ⟨false⟩) else (bif (r7.2 != 0) then (bif ((r7.1.cache.length : Int) != (x.m1_1.length : Int)) then (kr ⟨false⟩) else (rec ⟨x.n0, x.writes, (IntKind.i64.wrap (x.done + 1)), (IntKind.i64.wrap (x.i + 1)), x.m0, x.m0_1, x.m0_2, x.m0_3, r7.1.sure, r7.1.cache, r7.1.fuse, r7.1.dead⟩)) else (rec ⟨x.n0, x.writes, (IntKind.i64.wrap (x.done + 1)), (IntKind.i64.wrap (x.i + 1)), x.m0, x.m0_1, x.m0_2, x.m0_3, r7.1.sure, r7.1.cache, r7.1.fuse, r7.1.dead⟩))) else (bif (!((r7.2 == 6) == r7.1.dead)) then (kr ⟨false⟩) else (bif (r7.2 != 0) then (bif ((r7.1.cache.length : Int) != (x.m1_1.length : Int)) then (kr ⟨false⟩) else (rec ⟨x.n0, x.writes, x.done, (IntKind.i64.wrap (x.i + 1)), x.m0, x.m0_1, x.m0_2, x.m0_3, r7.1.sure, r7.1.cache, r7.1.fuse, r7.1.dead⟩)) else (rec ⟨x.n0, x.writes, x.done, (IntKind.i64.wrap (x.i + 1)), x.m0, x.m0_1, x.m0_2, x.m0_3, r7.1.sure, r7.1.cache, r7.1.fuse, r7.1.dead⟩))))))) else (kx ⟨x.n0, x.writes, x.done, x.i, x.m0, x.m0_1, x.m0_2, x.m0_3, x.m1, x.m1_1, x.m1_2, x.m1_3⟩))
def l0 : LSpec := mkLoop 0 kp0 kR p0 c0 cR b0
def lt : Nat → Option LSpec
  | 0 => some l0
  | _ => none
def F (d : Disk) (n_1 : Int) (writes : (List Write)) (K : Bool → Prop) : Prop :=
  (law04_alive.F fun r1 => (bif (!r1) then (K false) else (ref04_Great.F d fun r2 => (bif r2 then (K true) else (ref04_Right.F d fun r3 => (bif (!r3) then (K true) else (bif d.dead then (K true) else (bif (decide ((writes.length : Int) > 50)) then (K true) else (bif (n_1 == 0) then (K true) else (disk_Arm.F d (IntKind.i64.wrap n_1) fun r4 => (∃ n, loopB b0 n (fun x8 => (bif (decide (x8.done < (IntKind.i64.wrap x8.n0))) then (bif ((x8.m1_1.length : Int) == (IntKind.i64.wrap ((x8.m0_1.length : Int) + x8.done))) then (bif x8.m1_3 then (K true) else (K (x8.m1_2 == (IntKind.i64.wrap ((IntKind.i64.wrap x8.n0) - x8.done))))) else (K false)) else (K false))) (fun r9 => (K r9.t6)) ⟨n_1, writes, 0, 0, d.sure, d.cache, d.fuse, d.dead, r4.sure, r4.cache, r4.fuse, r4.dead⟩)))))))))))
noncomputable def en : Entry := mkEntry [(.st 1), (.int .u8), (.slice (.st 0))] (cTy .bool) fun x => F x.1 x.2.1 x.2.2.1
noncomputable def tabV (f0 : (Bool → Prop) → Prop) (f1 : Disk → (Bool → Prop) → Prop) (f2 : Disk → (Bool → Prop) → Prop) (f3 : Disk → Int → (Disk → Prop) → Prop) (f4 : Disk → Int → Str → ((Disk × Int) → Prop) → Prop) : Tab := [(52, mkEntry [] (cTy .bool) fun _ => f0), (53, mkEntry [(.st 1)] (cTy .bool) fun x => f1 x.1), (58, mkEntry [(.st 1)] (cTy .bool) fun x => f2 x.1), (66, mkEntry [(.st 1), (.int .i64)] (cTy (.st 1)) fun x => f3 x.1 x.2.1), (60, mkEntry [(.st 1), (.int .i64), .str] (cTwo (.st 1) (.int .i64)) fun x => f4 x.1 x.2.1 x.2.2.1)]
theorem tabE : tab = tabV law04_alive.F ref04_Great.F ref04_Right.F disk_Arm.F disk_Write.F := by kernel_rfl
def b0V (f0 : (Bool → Prop) → Prop) (f1 : Disk → (Bool → Prop) → Prop) (f2 : Disk → (Bool → Prop) → Prop) (f3 : Disk → Int → (Disk → Prop) → Prop) (f4 : Disk → Int → Str → ((Disk × Int) → Prop) → Prop) (rec kx : L0 → Prop) (kr : R → Prop) (x : L0) : Prop :=
  (bif (decide (x.i < (x.writes.length : Int))) then (oget (getI x.writes x.i) fun v5 => (oget (getI x.writes x.i) fun v6 => (f4 (⟨x.m1, x.m1_1, x.m1_2, x.m1_3⟩ : Disk) v5.sector v6.data fun r7 => (bif (r7.2 == 0) then (bif (!((r7.2 == 6) == r7.1.dead)) then (kr ⟨false⟩) else (bif (r7.2 != 0) then (bif ((r7.1.cache.length : Int) != (x.m1_1.length : Int)) then (kr ⟨false⟩) else (rec ⟨x.n0, x.writes, (IntKind.i64.wrap (x.done + 1)), (IntKind.i64.wrap (x.i + 1)), x.m0, x.m0_1, x.m0_2, x.m0_3, r7.1.sure, r7.1.cache, r7.1.fuse, r7.1.dead⟩)) else (rec ⟨x.n0, x.writes, (IntKind.i64.wrap (x.done + 1)), (IntKind.i64.wrap (x.i + 1)), x.m0, x.m0_1, x.m0_2, x.m0_3, r7.1.sure, r7.1.cache, r7.1.fuse, r7.1.dead⟩))) else (bif (!((r7.2 == 6) == r7.1.dead)) then (kr ⟨false⟩) else (bif (r7.2 != 0) then (bif ((r7.1.cache.length : Int) != (x.m1_1.length : Int)) then (kr ⟨false⟩) else (rec ⟨x.n0, x.writes, x.done, (IntKind.i64.wrap (x.i + 1)), x.m0, x.m0_1, x.m0_2, x.m0_3, r7.1.sure, r7.1.cache, r7.1.fuse, r7.1.dead⟩)) else (rec ⟨x.n0, x.writes, x.done, (IntKind.i64.wrap (x.i + 1)), x.m0, x.m0_1, x.m0_2, x.m0_3, r7.1.sure, r7.1.cache, r7.1.fuse, r7.1.dead⟩))))))) else (kx ⟨x.n0, x.writes, x.done, x.i, x.m0, x.m0_1, x.m0_2, x.m0_3, x.m1, x.m1_1, x.m1_2, x.m1_3⟩))
def ltV (f0 : (Bool → Prop) → Prop) (f1 : Disk → (Bool → Prop) → Prop) (f2 : Disk → (Bool → Prop) → Prop) (f3 : Disk → Int → (Disk → Prop) → Prop) (f4 : Disk → Int → Str → ((Disk × Int) → Prop) → Prop) : Nat → Option LSpec
  | 0 => some (mkLoop 0 kp0 kR p0 c0 cR (b0V f0 f1 f2 f3 f4))
  | _ => none
theorem ltE : lt = ltV law04_alive.F ref04_Great.F ref04_Right.F disk_Arm.F disk_Write.F := by kernel_rfl
theorem eqv (f0 : (Bool → Prop) → Prop) (f1 : Disk → (Bool → Prop) → Prop) (f2 : Disk → (Bool → Prop) → Prop) (f3 : Disk → Int → (Disk → Prop) → Prop) (f4 : Disk → Int → Str → ((Disk × Int) → Prop) → Prop) (d : Disk) (n_1 : Int) (writes : (List Write)) (K : Bool → Prop) : apure E (tabV f0 f1 f2 f3 f4) (ltV f0 f1 f2 f3 f4) 4 16 [enc (.st 1) d, enc (.int .u8) n_1, enc (.slice (.st 0)) writes] (ansK ((cTy .bool)) K) =
  (f0 fun r1 => (bif (!r1) then (K false) else (f1 d fun r2 => (bif r2 then (K true) else (f2 d fun r3 => (bif (!r3) then (K true) else (bif d.dead then (K true) else (bif (decide ((writes.length : Int) > 50)) then (K true) else (bif (n_1 == 0) then (K true) else (f3 d (IntKind.i64.wrap n_1) fun r4 => (∃ n, loopB (b0V f0 f1 f2 f3 f4) n (fun x8 => (bif (decide (x8.done < (IntKind.i64.wrap x8.n0))) then (bif ((x8.m1_1.length : Int) == (IntKind.i64.wrap ((x8.m0_1.length : Int) + x8.done))) then (bif x8.m1_3 then (K true) else (K (x8.m1_2 == (IntKind.i64.wrap ((IntKind.i64.wrap x8.n0) - x8.done))))) else (K false)) else (K false))) (fun r9 => (K r9.t6)) ⟨n_1, writes, 0, 0, d.sure, d.cache, d.fuse, d.dead, r4.sure, r4.cache, r4.fuse, r4.dead⟩))))))))))) := by kernel_rfl
theorem eq (x : Dens [(.st 1), (.int .u8), (.slice (.st 0))]) (K : Bool → Prop) : apure E tab lt 4 16 (encA [(.st 1), (.int .u8), (.slice (.st 0))] x) (ansK ((cTy .bool)) K) = F x.1 x.2.1 x.2.2.1 K := by
  rw [tabE, ltE]
  exact eqv law04_alive.F ref04_Great.F ref04_Right.F disk_Arm.F disk_Write.F x.1 x.2.1 x.2.2.1 K
theorem l0v (f0 : (Bool → Prop) → Prop) (f1 : Disk → (Bool → Prop) → Prop) (f2 : Disk → (Bool → Prop) → Prop) (f3 : Disk → Int → (Disk → Prop) → Prop) (f4 : Disk → Int → Str → ((Disk × Int) → Prop) → Prop) (R : St → Prop) (Kx : Nat → St → Prop) (Kr : St → Prop) (x : L0) : acode E (tabV f0 f1 f2 f3 f4) (afun E (tabV f0 f1 f2 f3 f4) 4) 110 (ltV f0 f1 f2 f3 f4) ((loopsIn E.P 16).getD 0 (0, .skip)).2 0 (fun s => R (keepSt kp0 s)) (fun j s => Kx j (keepSt kp0 s)) (fun s => Kr (keepSt kR s)) (c0 x) =
    b0V f0 f1 f2 f3 f4 (fun x => R (c0 x)) (fun x => Kx 0 (c0 x)) (fun r => Kr (cR r)) x := by kernel_rfl
theorem l0_ok : LSound E tab (afun E tab 4) 110 lt 0 ((loopsIn E.P 16).getD 0 (0, .skip)).2 l0 := mkLoop_sound (by decide) (by decide) p0_ok (fun R Kx Kr x => by
  rw [tabE, ltE]
  exact l0v law04_alive.F ref04_Great.F ref04_Right.F disk_Arm.F disk_Write.F R Kx Kr x)
theorem loops : LoopsOk E tab lt 4 16 := loops_of (nt := 110) (ids := [0]) (by kernel_rfl) (by kernel_rfl) (by
  intro k i hk l hl
  match k, hk with
  | 0, hk => cases hk; cases hl; exact l0_ok
  | _ + 1, hk => exact absurd hk (by simp))
theorem det (d : Disk) (n_1 : Int) (writes : (List Write)) : Det (F d n_1 writes) := by
  unfold F
  repeat' first | with_reducible exact det_ret _ | with_reducible exact det_false | with_reducible refine det_cond _ ?_ ?_ | with_reducible refine det_oget _ (fun _ => ?_) | with_reducible exact law04_alive.det | with_reducible refine det_bind (law04_alive.det) (fun _ => ?_) | with_reducible exact ref04_Great.det _ | with_reducible refine det_bind (ref04_Great.det _) (fun _ => ?_) | with_reducible exact ref04_Right.det _ | with_reducible refine det_bind (ref04_Right.det _) (fun _ => ?_) | with_reducible exact disk_Arm.det _ _ | with_reducible refine det_bind (disk_Arm.det _ _) (fun _ => ?_) | with_reducible exact disk_Write.det _ _ _ | with_reducible refine det_bind (disk_Write.det _ _ _) (fun _ => ?_) | with_reducible refine det_loop (fun _ => ?_) (fun _ => ?_) (fun _ => ?_) _ | unfold b0
theorem edet (args : List AV) : Det (en args) := mkEntry_det (ts := [(.st 1), (.int .u8), (.slice (.st 0))]) (cod := (cTy .bool)) (F := fun x => F x.1 x.2.1 x.2.2.1) (fun x => det x.1 x.2.1 x.2.2.1) args
theorem ground : Ground E tab := ⟨num, mixed, (tab_cons law04_alive.sound (tab_cons ref04_Great.sound (tab_cons ref04_Right.sound (tab_cons disk_Arm.sound (tab_cons disk_Write.sound (tab_nil _)))))), clone, (dtab_cons law04_alive.edet (dtab_cons ref04_Great.edet (dtab_cons ref04_Right.edet (dtab_cons disk_Arm.edet (dtab_cons disk_Write.edet dtab_nil)))))⟩
theorem has : ((E.P.funcs[16]?).bind (·.body)).isSome = true := by kernel_rfl
theorem sound : EntrySound E.P 16 en := mkSound (ts := [(.st 1), (.int .u8), (.slice (.st 0))]) (cod := (cTy .bool)) (F := fun x => F x.1 x.2.1 x.2.2.1) ground loops has eq
end law04_DiskFuses
end Gm
