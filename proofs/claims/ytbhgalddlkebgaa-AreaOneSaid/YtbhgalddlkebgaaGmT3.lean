/- Printed by a program (gen.py): the functions' answers, and that they are so. -/
import Derived.Test.YtbhgalddlkebgaaGmT1
import Derived.Test.YtbhgalddlkebgaaGmT2
import Derived.Test.YtbhgalddlkebgaaGmRd3
import Derived.Test.YtbhgalddlkebgaaGmRi2
set_option linter.unusedVariables false
set_option maxRecDepth 100000
namespace Gm
open Go Go.Proofs
namespace disk_New
noncomputable def tab : Tab := []
def F (sectors : Int) (K : (Disk × Int) → Prop) : Prop :=
  (bif (decide (sectors < 1)) then (K ((⟨([] : List Str), ([] : List Write), 0, false⟩ : Disk), 1)) else (bif (decide (sectors > 64)) then (K ((⟨([] : List Str), ([] : List Write), 0, false⟩ : Disk), 1)) else (bif (sectors == sectors && (decide (0 ≤ sectors) && decide (sectors * (16 : Nat) ≤ (room : Int)))) then (K ((⟨(List.replicate (Int.toNat sectors) (([] : Str) : Str)), ([] : List Write), 0, false⟩ : Disk), 0)) else False)))
noncomputable def en : Entry := mkEntry [(.int .i64)] (cTwo (.st 1) (.int .i64)) fun x => F x.1
theorem eq (x : Dens [(.int .i64)]) (K : (Disk × Int) → Prop) : apure E tab (fun _ => none) 4 54 (encA [(.int .i64)] x) (ansK ((cTwo (.st 1) (.int .i64))) K) = F x.1 K := by kernel_rfl
theorem loops : LoopsOk E tab (fun _ => none) 4 54 := loops_none _ _ _ _
theorem det (sectors : Int) : Det (F sectors) := by
  unfold F
  repeat' first | with_reducible exact det_ret _ | with_reducible exact det_false | with_reducible refine det_cond _ ?_ ?_ | with_reducible refine det_oget _ (fun _ => ?_)
theorem edet (args : List AV) : Det (en args) := mkEntry_det (ts := [(.int .i64)]) (cod := (cTwo (.st 1) (.int .i64))) (F := fun x => F x.1) (fun x => det x.1) args
theorem ground : Ground E tab := ⟨num, mixed, (tab_nil _), clone, dtab_nil⟩
theorem has : ((E.P.funcs[54]?).bind (·.body)).isSome = true := by kernel_rfl
theorem sound : EntrySound E.P 54 en := mkSound (ts := [(.int .i64)]) (cod := (cTwo (.st 1) (.int .i64))) (F := fun x => F x.1) ground loops has eq
end disk_New
namespace disk_there
noncomputable def tab : Tab := []
def F (d : Disk) (i : Int) (K : Bool → Prop) : Prop :=
  (bif (decide (i ≥ 0)) then (K (decide (i < (d.sure.length : Int)))) else (K false))
noncomputable def en : Entry := mkEntry [(.st 1), (.int .i64)] (cTy .bool) fun x => F x.1 x.2.1
theorem eq (x : Dens [(.st 1), (.int .i64)]) (K : Bool → Prop) : apure E tab (fun _ => none) 4 101 (encA [(.st 1), (.int .i64)] x) (ansK ((cTy .bool)) K) = F x.1 x.2.1 K := by kernel_rfl
theorem loops : LoopsOk E tab (fun _ => none) 4 101 := loops_none _ _ _ _
theorem det (d : Disk) (i : Int) : Det (F d i) := by
  unfold F
  repeat' first | with_reducible exact det_ret _ | with_reducible exact det_false | with_reducible refine det_cond _ ?_ ?_ | with_reducible refine det_oget _ (fun _ => ?_)
theorem edet (args : List AV) : Det (en args) := mkEntry_det (ts := [(.st 1), (.int .i64)]) (cod := (cTy .bool)) (F := fun x => F x.1 x.2.1) (fun x => det x.1 x.2.1) args
theorem ground : Ground E tab := ⟨num, mixed, (tab_nil _), clone, dtab_nil⟩
theorem has : ((E.P.funcs[101]?).bind (·.body)).isSome = true := by kernel_rfl
theorem sound : EntrySound E.P 101 en := mkSound (ts := [(.st 1), (.int .i64)]) (cod := (cTy .bool)) (F := fun x => F x.1 x.2.1) ground loops has eq
end disk_there
namespace disk_long
noncomputable def tab : Tab := []
def F (s : Str) (K : Bool → Prop) : Prop :=
  (K (decide ((s.length : Int) > 64)))
noncomputable def en : Entry := mkEntry [.str] (cTy .bool) fun x => F x.1
theorem eq (x : Dens [.str]) (K : Bool → Prop) : apure E tab (fun _ => none) 4 98 (encA [.str] x) (ansK ((cTy .bool)) K) = F x.1 K := by kernel_rfl
theorem loops : LoopsOk E tab (fun _ => none) 4 98 := loops_none _ _ _ _
theorem det (s : Str) : Det (F s) := by
  unfold F
  repeat' first | with_reducible exact det_ret _ | with_reducible exact det_false | with_reducible refine det_cond _ ?_ ?_ | with_reducible refine det_oget _ (fun _ => ?_)
theorem edet (args : List AV) : Det (en args) := mkEntry_det (ts := [.str]) (cod := (cTy .bool)) (F := fun x => F x.1) (fun x => det x.1) args
theorem ground : Ground E tab := ⟨num, mixed, (tab_nil _), clone, dtab_nil⟩
theorem has : ((E.P.funcs[98]?).bind (·.body)).isSome = true := by kernel_rfl
theorem sound : EntrySound E.P 98 en := mkSound (ts := [.str]) (cod := (cTy .bool)) (F := fun x => F x.1) ground loops has eq
end disk_long
namespace disk_Crash
noncomputable def tab : Tab := []
def F (d : Disk) (K : Disk → Prop) : Prop :=
  (K (⟨d.sure, d.cache, 0, true⟩ : Disk))
noncomputable def en : Entry := mkEntry [(.st 1)] (cTy (.st 1)) fun x => F x.1
theorem eq (x : Dens [(.st 1)]) (K : Disk → Prop) : apure E tab (fun _ => none) 4 68 (encA [(.st 1)] x) (ansK ((cTy (.st 1))) K) = F x.1 K := by kernel_rfl
theorem loops : LoopsOk E tab (fun _ => none) 4 68 := loops_none _ _ _ _
theorem det (d : Disk) : Det (F d) := by
  unfold F
  repeat' first | with_reducible exact det_ret _ | with_reducible exact det_false | with_reducible refine det_cond _ ?_ ?_ | with_reducible refine det_oget _ (fun _ => ?_)
theorem edet (args : List AV) : Det (en args) := mkEntry_det (ts := [(.st 1)]) (cod := (cTy (.st 1))) (F := fun x => F x.1) (fun x => det x.1) args
theorem ground : Ground E tab := ⟨num, mixed, (tab_nil _), clone, dtab_nil⟩
theorem has : ((E.P.funcs[68]?).bind (·.body)).isSome = true := by kernel_rfl
theorem sound : EntrySound E.P 68 en := mkSound (ts := [(.st 1)]) (cod := (cTy (.st 1))) (F := fun x => F x.1) ground loops has eq
end disk_Crash
namespace slices_Clip_Write
noncomputable def tab : Tab := []
def F (s : (List Write)) (K : (List Write) → Prop) : Prop :=
  (bif (decide (0 ≤ (s.length : Int)) && decide ((s.length : Int) ≤ (s.length : Int)) && (s.length : Int) == (s.length : Int)) then (K (sub s 0 (Int.toNat (s.length : Int)))) else False)
noncomputable def en : Entry := mkEntry [(.slice (.st 0))] (cTy (.slice (.st 0))) fun x => F x.1
theorem eq (x : Dens [(.slice (.st 0))]) (K : (List Write) → Prop) : apure E tab (fun _ => none) 4 105 (encA [(.slice (.st 0))] x) (ansK ((cTy (.slice (.st 0)))) K) = F x.1 K := by kernel_rfl
theorem loops : LoopsOk E tab (fun _ => none) 4 105 := loops_none _ _ _ _
theorem det (s : (List Write)) : Det (F s) := by
  unfold F
  repeat' first | with_reducible exact det_ret _ | with_reducible exact det_false | with_reducible refine det_cond _ ?_ ?_ | with_reducible refine det_oget _ (fun _ => ?_)
theorem edet (args : List AV) : Det (en args) := mkEntry_det (ts := [(.slice (.st 0))]) (cod := (cTy (.slice (.st 0)))) (F := fun x => F x.1) (fun x => det x.1) args
theorem ground : Ground E tab := ⟨num, mixed, (tab_nil _), clone, dtab_nil⟩
theorem has : ((E.P.funcs[105]?).bind (·.body)).isSome = true := by kernel_rfl
theorem sound : EntrySound E.P 105 en := mkSound (ts := [(.slice (.st 0))]) (cod := (cTy (.slice (.st 0)))) (F := fun x => F x.1) ground loops has eq
end slices_Clip_Write
namespace disk_Write
noncomputable def tab : Tab := [(101, disk_there.en), (98, disk_long.en), (68, disk_Crash.en)]
def F (d : Disk) (i : Int) (data : Str) (K : (Disk × Int) → Prop) : Prop :=
  (bif d.dead then (K (d, 6)) else (disk_there.F d i fun r1 => (bif (!r1) then (K (d, 4)) else (disk_long.F data fun r2 => (bif r2 then (K (d, 5)) else (bif (d.fuse == 0) then (bif (decide (d.cache.length * 24 ≤ room)) then (bif (decide (0 ≤ (d.cache.length : Int)) && decide ((d.cache.length : Int) ≤ (d.cache.length : Int)) && (d.cache.length : Int) == (d.cache.length : Int)) then (bif (decide (((sub d.cache 0 (Int.toNat (d.cache.length : Int))).length + ([(⟨i, data⟩ : Write)] : List Write).length) * 24 ≤ room)) then (K ((⟨d.sure, ((sub d.cache 0 (Int.toNat (d.cache.length : Int))) ++ ([(⟨i, data⟩ : Write)] : List Write)), d.fuse, d.dead⟩ : Disk), 0)) else False) else False) else False) else (bif (d.fuse == 1) then (disk_Crash.F d fun r3 => (K (r3, 6))) else (bif (decide (d.cache.length * 24 ≤ room)) then (bif (decide (0 ≤ (d.cache.length : Int)) && decide ((d.cache.length : Int) ≤ (d.cache.length : Int)) && (d.cache.length : Int) == (d.cache.length : Int)) then (bif (decide (((sub d.cache 0 (Int.toNat (d.cache.length : Int))).length + ([(⟨i, data⟩ : Write)] : List Write).length) * 24 ≤ room)) then (K ((⟨d.sure, ((sub d.cache 0 (Int.toNat (d.cache.length : Int))) ++ ([(⟨i, data⟩ : Write)] : List Write)), (IntKind.i64.wrap (d.fuse - 1)), d.dead⟩ : Disk), 0)) else False) else False) else False))))))))
noncomputable def en : Entry := mkEntry [(.st 1), (.int .i64), .str] (cTwo (.st 1) (.int .i64)) fun x => F x.1 x.2.1 x.2.2.1
noncomputable def tabV (f0 : Disk → Int → (Bool → Prop) → Prop) (f1 : Str → (Bool → Prop) → Prop) (f2 : Disk → (Disk → Prop) → Prop) : Tab := [(101, mkEntry [(.st 1), (.int .i64)] (cTy .bool) fun x => f0 x.1 x.2.1), (98, mkEntry [.str] (cTy .bool) fun x => f1 x.1), (68, mkEntry [(.st 1)] (cTy (.st 1)) fun x => f2 x.1)]
theorem tabE : tab = tabV disk_there.F disk_long.F disk_Crash.F := by kernel_rfl
theorem eqv (f0 : Disk → Int → (Bool → Prop) → Prop) (f1 : Str → (Bool → Prop) → Prop) (f2 : Disk → (Disk → Prop) → Prop) (d : Disk) (i : Int) (data : Str) (K : (Disk × Int) → Prop) : apure E (tabV f0 f1 f2) (fun _ => none) 4 60 [enc (.st 1) d, enc (.int .i64) i, enc .str data] (ansK ((cTwo (.st 1) (.int .i64))) K) =
  (bif d.dead then (K (d, 6)) else (f0 d i fun r1 => (bif (!r1) then (K (d, 4)) else (f1 data fun r2 => (bif r2 then (K (d, 5)) else (bif (d.fuse == 0) then (bif (decide (d.cache.length * 24 ≤ room)) then (bif (decide (0 ≤ (d.cache.length : Int)) && decide ((d.cache.length : Int) ≤ (d.cache.length : Int)) && (d.cache.length : Int) == (d.cache.length : Int)) then (bif (decide (((sub d.cache 0 (Int.toNat (d.cache.length : Int))).length + ([(⟨i, data⟩ : Write)] : List Write).length) * 24 ≤ room)) then (K ((⟨d.sure, ((sub d.cache 0 (Int.toNat (d.cache.length : Int))) ++ ([(⟨i, data⟩ : Write)] : List Write)), d.fuse, d.dead⟩ : Disk), 0)) else False) else False) else False) else (bif (d.fuse == 1) then (f2 d fun r3 => (K (r3, 6))) else (bif (decide (d.cache.length * 24 ≤ room)) then (bif (decide (0 ≤ (d.cache.length : Int)) && decide ((d.cache.length : Int) ≤ (d.cache.length : Int)) && (d.cache.length : Int) == (d.cache.length : Int)) then (bif (decide (((sub d.cache 0 (Int.toNat (d.cache.length : Int))).length + ([(⟨i, data⟩ : Write)] : List Write).length) * 24 ≤ room)) then (K ((⟨d.sure, ((sub d.cache 0 (Int.toNat (d.cache.length : Int))) ++ ([(⟨i, data⟩ : Write)] : List Write)), (IntKind.i64.wrap (d.fuse - 1)), d.dead⟩ : Disk), 0)) else False) else False) else False)))))))) := by kernel_rfl
theorem eq (x : Dens [(.st 1), (.int .i64), .str]) (K : (Disk × Int) → Prop) : apure E tab (fun _ => none) 4 60 (encA [(.st 1), (.int .i64), .str] x) (ansK ((cTwo (.st 1) (.int .i64))) K) = F x.1 x.2.1 x.2.2.1 K := eqv disk_there.F disk_long.F disk_Crash.F x.1 x.2.1 x.2.2.1 K
theorem loops : LoopsOk E tab (fun _ => none) 4 60 := loops_none _ _ _ _
theorem det (d : Disk) (i : Int) (data : Str) : Det (F d i data) := by
  unfold F
  repeat' first | with_reducible exact det_ret _ | with_reducible exact det_false | with_reducible refine det_cond _ ?_ ?_ | with_reducible refine det_oget _ (fun _ => ?_) | with_reducible exact disk_there.det _ _ | with_reducible refine det_bind (disk_there.det _ _) (fun _ => ?_) | with_reducible exact disk_long.det _ | with_reducible refine det_bind (disk_long.det _) (fun _ => ?_) | with_reducible exact disk_Crash.det _ | with_reducible refine det_bind (disk_Crash.det _) (fun _ => ?_)
theorem edet (args : List AV) : Det (en args) := mkEntry_det (ts := [(.st 1), (.int .i64), .str]) (cod := (cTwo (.st 1) (.int .i64))) (F := fun x => F x.1 x.2.1 x.2.2.1) (fun x => det x.1 x.2.1 x.2.2.1) args
theorem ground : Ground E tab := ⟨num, mixed, (tab_cons disk_there.sound (tab_cons disk_long.sound (tab_cons disk_Crash.sound (tab_nil _)))), clone, (dtab_cons disk_there.edet (dtab_cons disk_long.edet (dtab_cons disk_Crash.edet dtab_nil)))⟩
theorem has : ((E.P.funcs[60]?).bind (·.body)).isSome = true := by kernel_rfl
theorem sound : EntrySound E.P 60 en := mkSound (ts := [(.st 1), (.int .i64), .str]) (cod := (cTwo (.st 1) (.int .i64))) (F := fun x => F x.1 x.2.1 x.2.2.1) ground loops has eq
end disk_Write
namespace disk_settle
noncomputable def tab : Tab := []
structure R where
def cR (_ : R) : St := { fr := fun _ => .top, hs := hs0 }
def kR : Keep := { ks := [], bs := [], hn := 0 }
structure L0 where
  sure : (List Str)
  t9 : (List Write)
  t10 : Int
  t11 : Int
def c0 (x : L0) : St := { fr := lookL .top [(0, (.slr 1)), (9, (.sl .any (.st 0) x.t9)), (10, (.int .i64 x.t10)), (11, (.int .i64 x.t11))], hs := { hp := lookL .dead [(1, (.row false .str x.sure))], hn := 2 } }
def kp0 : Keep := { ks := [(0, some 1), (9, none), (10, none), (11, none)], bs := [], hn := 2 }
def p0 (st : St) (K : L0 → Prop) : Prop := gHomes kp0 st <| gSlr (st.fr 0) fun c1 => gRow false .str (st.hs.hp c1) fun a2 => gSl .any (.st 0) (st.fr 9) fun a3 => gInt .i64 (st.fr 10) fun a4 => gInt .i64 (st.fr 11) fun a5 => K ⟨a2, a3, a4, a5⟩
theorem p0_ok (st : St) (K : L0 → Prop) (h : p0 st K) : ∃ x, keepSt kp0 st = c0 x ∧ K x := by
  obtain ⟨h0, h⟩ := gHomes_elim h
  obtain ⟨c1, h1, h⟩ := gSlr_elim h
  obtain ⟨a2, h2, h⟩ := gRow_elim h
  obtain ⟨a3, h3, h⟩ := gSl_elim h
  obtain ⟨a4, h4, h⟩ := gInt_elim h
  obtain ⟨a5, h5, h⟩ := gInt_elim h
  refine ⟨_, ?_, h⟩
  simp only [keepSt, h0]
  simp only [kp0, List.map, List.filterMap, homeOf, h1, h2, h3, h4, h5, hmOf, List.append_nil, cond_true]
  rfl
def b0 (rec kx : L0 → Prop) (kr : R → Prop) (x : L0) : Prop :=
  (bif (decide (x.t11 < x.t10)) then (oget (getI x.t9 x.t11) fun v1 => (bif (decide (0 ≤ v1.sector) && decide (v1.sector < (x.sure.length : Int))) then (rec ⟨(x.sure.set (Int.toNat v1.sector) v1.data), x.t9, x.t10, (IntKind.i64.wrap (x.t11 + 1))⟩) else False)) else (kx ⟨x.sure, x.t9, x.t10, x.t11⟩))
def l0 : LSpec := mkLoop 0 kp0 kR p0 c0 cR b0
def lt : Nat → Option LSpec
  | 0 => some l0
  | _ => none
def F (sure : (List Str)) (writes : (List Write)) (K : (List Str) → Prop) : Prop :=
  (bif (decide (sure.length * 16 ≤ room)) then (∃ n, loopB b0 n (fun x2 => (K x2.sure)) (fun _ => False) ⟨sure, writes, (writes.length : Int), 0⟩) else False)
noncomputable def en : Entry := mkEntry [(.slice .str), (.slice (.st 0))] (cTy (.slice .str)) fun x => F x.1 x.2.1
theorem eq (x : Dens [(.slice .str), (.slice (.st 0))]) (K : (List Str) → Prop) : apure E tab lt 4 110 (encA [(.slice .str), (.slice (.st 0))] x) (ansK ((cTy (.slice .str))) K) = F x.1 x.2.1 K := by kernel_rfl
theorem l0_ok : LSound E tab (afun E tab 4) 23 lt 0 ((loopsIn E.P 110).getD 0 (0, .skip)).2 l0 := mkLoop_sound (by decide) (by decide) p0_ok (fun R Kx Kr x => by kernel_rfl)
theorem loops : LoopsOk E tab lt 4 110 := loops_of (nt := 23) (ids := [0]) (by kernel_rfl) (by kernel_rfl) (by
  intro k i hk l hl
  match k, hk with
  | 0, hk => cases hk; cases hl; exact l0_ok
  | _ + 1, hk => exact absurd hk (by simp))
theorem det (sure : (List Str)) (writes : (List Write)) : Det (F sure writes) := by
  unfold F
  repeat' first | with_reducible exact det_ret _ | with_reducible exact det_false | with_reducible refine det_cond _ ?_ ?_ | with_reducible refine det_oget _ (fun _ => ?_) | with_reducible refine det_loop (fun _ => ?_) (fun _ => ?_) (fun _ => ?_) _ | unfold b0
theorem edet (args : List AV) : Det (en args) := mkEntry_det (ts := [(.slice .str), (.slice (.st 0))]) (cod := (cTy (.slice .str))) (F := fun x => F x.1 x.2.1) (fun x => det x.1 x.2.1) args
theorem ground : Ground E tab := ⟨num, mixed, (tab_nil _), clone, dtab_nil⟩
theorem has : ((E.P.funcs[110]?).bind (·.body)).isSome = true := by kernel_rfl
theorem sound : EntrySound E.P 110 en := mkSound (ts := [(.slice .str), (.slice (.st 0))]) (cod := (cTy (.slice .str))) (F := fun x => F x.1 x.2.1) ground loops has eq
end disk_settle
namespace disk_Revive
noncomputable def tab : Tab := [(110, disk_settle.en)]
structure R where
def cR (_ : R) : St := { fr := fun _ => .top, hs := hs0 }
def kR : Keep := { ks := [], bs := [], hn := 0 }
structure L0 where
  keeps : (List Bool)
  kept : (List Write)
  t9 : (List Write)
  t10 : Int
  t11 : Int
  m0 : (List Str)
  m0_1 : (List Write)
  m0_2 : Int
  m0_3 : Bool
  m1 : Int
  m1_1 : Bool
def c0 (x : L0) : St := { fr := lookL .top [(1, (.sl .any .bool x.keeps)), (2, (.ptr 0 0)), (4, (.ptr 1 0)), (5, (.slr 2)), (9, (.sl .any (.st 0) x.t9)), (10, (.int .i64 x.t10)), (11, (.int .i64 x.t11))], hs := { hp := lookL .dead [(2, (.row false (.st 0) x.kept)), (0, (.cells [(.sl .any .str x.m0), (.sl .any (.st 0) x.m0_1), (.int .i64 x.m0_2), (.bool x.m0_3)])), (1, (.cells [.snil, .snil, (.int .i64 x.m1), (.bool x.m1_1)]))], hn := 3 } }
def kp0 : Keep := { ks := [(1, none), (2, none), (4, none), (5, some 2), (9, none), (10, none), (11, none)], bs := [0, 1], hn := 3 }
def p0 (st : St) (K : L0 → Prop) : Prop := gHomes kp0 st <| gSl .any .bool (st.fr 1) fun a1 => gPtr 0 0 (st.fr 2) <| gPtr 1 0 (st.fr 4) <| gSlr (st.fr 5) fun c2 => gRow false (.st 0) (st.hs.hp c2) fun a3 => gSl .any (.st 0) (st.fr 9) fun a4 => gInt .i64 (st.fr 10) fun a5 => gInt .i64 (st.fr 11) fun a6 => gCells (st.hs.hp 0) fun c7 => gCons c7 fun c8 c9 => gSl .any .str c8 fun a10 => gCons c9 fun c11 c12 => gSl .any (.st 0) c11 fun a13 => gCons c12 fun c14 c15 => gInt .i64 c14 fun a16 => gCons c15 fun c17 c18 => gBool c17 fun a19 => gNil c18 <| gCells (st.hs.hp 1) fun c20 => gCons c20 fun c21 c22 => gSnil c21 <| gCons c22 fun c23 c24 => gSnil c23 <| gCons c24 fun c25 c26 => gInt .i64 c25 fun a27 => gCons c26 fun c28 c29 => gBool c28 fun a30 => gNil c29 <| K ⟨a1, a3, a4, a5, a6, a10, a13, a16, a19, a27, a30⟩
theorem p0_ok (st : St) (K : L0 → Prop) (h : p0 st K) : ∃ x, keepSt kp0 st = c0 x ∧ K x := by
  obtain ⟨h0, h⟩ := gHomes_elim h
  obtain ⟨a1, h1, h⟩ := gSl_elim h
  obtain ⟨h2, h⟩ := gPtr_elim h
  obtain ⟨h3, h⟩ := gPtr_elim h
  obtain ⟨c2, h4, h⟩ := gSlr_elim h
  obtain ⟨a3, h5, h⟩ := gRow_elim h
  obtain ⟨a4, h6, h⟩ := gSl_elim h
  obtain ⟨a5, h7, h⟩ := gInt_elim h
  obtain ⟨a6, h8, h⟩ := gInt_elim h
  obtain ⟨c7, h9, h⟩ := gCells_elim h
  obtain ⟨c8, c9, h10, h⟩ := gCons_elim h
  obtain ⟨a10, h11, h⟩ := gSl_elim h
  obtain ⟨c11, c12, h12, h⟩ := gCons_elim h
  obtain ⟨a13, h13, h⟩ := gSl_elim h
  obtain ⟨c14, c15, h14, h⟩ := gCons_elim h
  obtain ⟨a16, h15, h⟩ := gInt_elim h
  obtain ⟨c17, c18, h16, h⟩ := gCons_elim h
  obtain ⟨a19, h17, h⟩ := gBool_elim h
  obtain ⟨h18, h⟩ := gNil_elim h
  obtain ⟨c20, h19, h⟩ := gCells_elim h
  obtain ⟨c21, c22, h20, h⟩ := gCons_elim h
  obtain ⟨h21, h⟩ := gSnil_elim h
  obtain ⟨c23, c24, h22, h⟩ := gCons_elim h
  obtain ⟨h23, h⟩ := gSnil_elim h
  obtain ⟨c25, c26, h24, h⟩ := gCons_elim h
  obtain ⟨a27, h25, h⟩ := gInt_elim h
  obtain ⟨c28, c29, h26, h⟩ := gCons_elim h
  obtain ⟨a30, h27, h⟩ := gBool_elim h
  obtain ⟨h28, h⟩ := gNil_elim h
  refine ⟨_, ?_, h⟩
  subst h10
  subst h11
  subst h12
  subst h13
  subst h14
  subst h15
  subst h16
  subst h17
  subst h18
  subst h20
  subst h21
  subst h22
  subst h23
  subst h24
  subst h25
  subst h26
  subst h27
  subst h28
  simp only [keepSt, h0]
  simp only [kp0, List.map, List.filterMap, homeOf, h1, h2, h3, h4, h5, h6, h7, h8, h9, h19, hmOf, List.append_nil, cond_true]
  rfl
def b0 (rec kx : L0 → Prop) (kr : R → Prop) (x : L0) : Prop :=
  (bif (decide (x.t11 < x.t10)) then (oget (getI x.t9 x.t11) fun v1 => (bif (decide (x.t11 < (x.keeps.length : Int))) then (oget (getI x.keeps x.t11) fun v2 => (bif v2 then (bif (decide ((x.kept.length + ([v1] : List Write).length) * 24 ≤ room)) then (rec ⟨x.keeps, (x.kept ++ ([v1] : List Write)), x.t9, x.t10, (IntKind.i64.wrap (x.t11 + 1)), x.m0, x.m0_1, x.m0_2, x.m0_3, x.m1, x.m1_1⟩) else False) else (rec ⟨x.keeps, x.kept, x.t9, x.t10, (IntKind.i64.wrap (x.t11 + 1)), x.m0, x.m0_1, x.m0_2, x.m0_3, x.m1, x.m1_1⟩))) else (rec ⟨x.keeps, x.kept, x.t9, x.t10, (IntKind.i64.wrap (x.t11 + 1)), x.m0, x.m0_1, x.m0_2, x.m0_3, x.m1, x.m1_1⟩))) else (kx ⟨x.keeps, x.kept, x.t9, x.t10, x.t11, x.m0, x.m0_1, x.m0_2, x.m0_3, x.m1, x.m1_1⟩))
def l0 : LSpec := mkLoop 0 kp0 kR p0 c0 cR b0
def lt : Nat → Option LSpec
  | 0 => some l0
  | _ => none
def F (d : Disk) (keeps : (List Bool)) (K : Disk → Prop) : Prop :=
  (∃ n, loopB b0 n (fun x3 => (disk_settle.F x3.m0 x3.kept fun r5 => (K (⟨r5, ([] : List Write), 0, false⟩ : Disk)))) (fun _ => False) ⟨keeps, ([] : List Write), d.cache, (d.cache.length : Int), 0, d.sure, d.cache, d.fuse, d.dead, 0, false⟩)
noncomputable def en : Entry := mkEntry [(.st 1), (.slice .bool)] (cTy (.st 1)) fun x => F x.1 x.2.1
noncomputable def tabV (f0 : (List Str) → (List Write) → ((List Str) → Prop) → Prop) : Tab := [(110, mkEntry [(.slice .str), (.slice (.st 0))] (cTy (.slice .str)) fun x => f0 x.1 x.2.1)]
theorem tabE : tab = tabV disk_settle.F := by kernel_rfl
def b0V (f0 : (List Str) → (List Write) → ((List Str) → Prop) → Prop) (rec kx : L0 → Prop) (kr : R → Prop) (x : L0) : Prop :=
  (bif (decide (x.t11 < x.t10)) then (oget (getI x.t9 x.t11) fun v1 => (bif (decide (x.t11 < (x.keeps.length : Int))) then (oget (getI x.keeps x.t11) fun v2 => (bif v2 then (bif (decide ((x.kept.length + ([v1] : List Write).length) * 24 ≤ room)) then (rec ⟨x.keeps, (x.kept ++ ([v1] : List Write)), x.t9, x.t10, (IntKind.i64.wrap (x.t11 + 1)), x.m0, x.m0_1, x.m0_2, x.m0_3, x.m1, x.m1_1⟩) else False) else (rec ⟨x.keeps, x.kept, x.t9, x.t10, (IntKind.i64.wrap (x.t11 + 1)), x.m0, x.m0_1, x.m0_2, x.m0_3, x.m1, x.m1_1⟩))) else (rec ⟨x.keeps, x.kept, x.t9, x.t10, (IntKind.i64.wrap (x.t11 + 1)), x.m0, x.m0_1, x.m0_2, x.m0_3, x.m1, x.m1_1⟩))) else (kx ⟨x.keeps, x.kept, x.t9, x.t10, x.t11, x.m0, x.m0_1, x.m0_2, x.m0_3, x.m1, x.m1_1⟩))
def ltV (f0 : (List Str) → (List Write) → ((List Str) → Prop) → Prop) : Nat → Option LSpec
  | 0 => some (mkLoop 0 kp0 kR p0 c0 cR (b0V f0))
  | _ => none
theorem ltE : lt = ltV disk_settle.F := by kernel_rfl
theorem eqv (f0 : (List Str) → (List Write) → ((List Str) → Prop) → Prop) (d : Disk) (keeps : (List Bool)) (K : Disk → Prop) : apure E (tabV f0) (ltV f0) 4 70 [enc (.st 1) d, enc (.slice .bool) keeps] (ansK ((cTy (.st 1))) K) =
  (∃ n, loopB (b0V f0) n (fun x3 => (f0 x3.m0 x3.kept fun r5 => (K (⟨r5, ([] : List Write), 0, false⟩ : Disk)))) (fun _ => False) ⟨keeps, ([] : List Write), d.cache, (d.cache.length : Int), 0, d.sure, d.cache, d.fuse, d.dead, 0, false⟩) := by kernel_rfl
theorem eq (x : Dens [(.st 1), (.slice .bool)]) (K : Disk → Prop) : apure E tab lt 4 70 (encA [(.st 1), (.slice .bool)] x) (ansK ((cTy (.st 1))) K) = F x.1 x.2.1 K := by
  rw [tabE, ltE]
  exact eqv disk_settle.F x.1 x.2.1 K
theorem l0v (f0 : (List Str) → (List Write) → ((List Str) → Prop) → Prop) (R : St → Prop) (Kx : Nat → St → Prop) (Kr : St → Prop) (x : L0) : acode E (tabV f0) (afun E (tabV f0) 4) 36 (ltV f0) ((loopsIn E.P 70).getD 0 (0, .skip)).2 0 (fun s => R (keepSt kp0 s)) (fun j s => Kx j (keepSt kp0 s)) (fun s => Kr (keepSt kR s)) (c0 x) =
    b0V f0 (fun x => R (c0 x)) (fun x => Kx 0 (c0 x)) (fun r => Kr (cR r)) x := by kernel_rfl
theorem l0_ok : LSound E tab (afun E tab 4) 36 lt 0 ((loopsIn E.P 70).getD 0 (0, .skip)).2 l0 := mkLoop_sound (by decide) (by decide) p0_ok (fun R Kx Kr x => by
  rw [tabE, ltE]
  exact l0v disk_settle.F R Kx Kr x)
theorem loops : LoopsOk E tab lt 4 70 := loops_of (nt := 36) (ids := [0]) (by kernel_rfl) (by kernel_rfl) (by
  intro k i hk l hl
  match k, hk with
  | 0, hk => cases hk; cases hl; exact l0_ok
  | _ + 1, hk => exact absurd hk (by simp))
theorem det (d : Disk) (keeps : (List Bool)) : Det (F d keeps) := by
  unfold F
  repeat' first | with_reducible exact det_ret _ | with_reducible exact det_false | with_reducible refine det_cond _ ?_ ?_ | with_reducible refine det_oget _ (fun _ => ?_) | with_reducible exact disk_settle.det _ _ | with_reducible refine det_bind (disk_settle.det _ _) (fun _ => ?_) | with_reducible refine det_loop (fun _ => ?_) (fun _ => ?_) (fun _ => ?_) _ | unfold b0
theorem edet (args : List AV) : Det (en args) := mkEntry_det (ts := [(.st 1), (.slice .bool)]) (cod := (cTy (.st 1))) (F := fun x => F x.1 x.2.1) (fun x => det x.1 x.2.1) args
theorem ground : Ground E tab := ⟨num, mixed, (tab_cons disk_settle.sound (tab_nil _)), clone, (dtab_cons disk_settle.edet dtab_nil)⟩
theorem has : ((E.P.funcs[70]?).bind (·.body)).isSome = true := by kernel_rfl
theorem sound : EntrySound E.P 70 en := mkSound (ts := [(.st 1), (.slice .bool)]) (cod := (cTy (.st 1))) (F := fun x => F x.1 x.2.1) ground loops has eq
end disk_Revive
namespace disk_Flush
noncomputable def tab : Tab := [(110, disk_settle.en), (68, disk_Crash.en)]
def F (d : Disk) (K : (Disk × Int) → Prop) : Prop :=
  (bif d.dead then (K (d, 6)) else (bif (d.fuse == 0) then (disk_settle.F d.sure d.cache fun r1 => (K ((⟨r1, ([] : List Write), d.fuse, d.dead⟩ : Disk), 0))) else (bif (d.fuse == 1) then (disk_Crash.F d fun r2 => (K (r2, 6))) else (disk_settle.F d.sure d.cache fun r3 => (K ((⟨r3, ([] : List Write), (IntKind.i64.wrap (d.fuse - 1)), d.dead⟩ : Disk), 0))))))
noncomputable def en : Entry := mkEntry [(.st 1)] (cTwo (.st 1) (.int .i64)) fun x => F x.1
noncomputable def tabV (f0 : (List Str) → (List Write) → ((List Str) → Prop) → Prop) (f1 : Disk → (Disk → Prop) → Prop) : Tab := [(110, mkEntry [(.slice .str), (.slice (.st 0))] (cTy (.slice .str)) fun x => f0 x.1 x.2.1), (68, mkEntry [(.st 1)] (cTy (.st 1)) fun x => f1 x.1)]
theorem tabE : tab = tabV disk_settle.F disk_Crash.F := by kernel_rfl
theorem eqv (f0 : (List Str) → (List Write) → ((List Str) → Prop) → Prop) (f1 : Disk → (Disk → Prop) → Prop) (d : Disk) (K : (Disk × Int) → Prop) : apure E (tabV f0 f1) (fun _ => none) 4 64 [enc (.st 1) d] (ansK ((cTwo (.st 1) (.int .i64))) K) =
  (bif d.dead then (K (d, 6)) else (bif (d.fuse == 0) then (f0 d.sure d.cache fun r1 => (K ((⟨r1, ([] : List Write), d.fuse, d.dead⟩ : Disk), 0))) else (bif (d.fuse == 1) then (f1 d fun r2 => (K (r2, 6))) else (f0 d.sure d.cache fun r3 => (K ((⟨r3, ([] : List Write), (IntKind.i64.wrap (d.fuse - 1)), d.dead⟩ : Disk), 0)))))) := by kernel_rfl
theorem eq (x : Dens [(.st 1)]) (K : (Disk × Int) → Prop) : apure E tab (fun _ => none) 4 64 (encA [(.st 1)] x) (ansK ((cTwo (.st 1) (.int .i64))) K) = F x.1 K := eqv disk_settle.F disk_Crash.F x.1 K
theorem loops : LoopsOk E tab (fun _ => none) 4 64 := loops_none _ _ _ _
theorem det (d : Disk) : Det (F d) := by
  unfold F
  repeat' first | with_reducible exact det_ret _ | with_reducible exact det_false | with_reducible refine det_cond _ ?_ ?_ | with_reducible refine det_oget _ (fun _ => ?_) | with_reducible exact disk_settle.det _ _ | with_reducible refine det_bind (disk_settle.det _ _) (fun _ => ?_) | with_reducible exact disk_Crash.det _ | with_reducible refine det_bind (disk_Crash.det _) (fun _ => ?_)
theorem edet (args : List AV) : Det (en args) := mkEntry_det (ts := [(.st 1)]) (cod := (cTwo (.st 1) (.int .i64))) (F := fun x => F x.1) (fun x => det x.1) args
theorem ground : Ground E tab := ⟨num, mixed, (tab_cons disk_settle.sound (tab_cons disk_Crash.sound (tab_nil _))), clone, (dtab_cons disk_settle.edet (dtab_cons disk_Crash.edet dtab_nil))⟩
theorem has : ((E.P.funcs[64]?).bind (·.body)).isSome = true := by kernel_rfl
theorem sound : EntrySound E.P 64 en := mkSound (ts := [(.st 1)]) (cod := (cTwo (.st 1) (.int .i64))) (F := fun x => F x.1) ground loops has eq
end disk_Flush
namespace disk_Arm
noncomputable def tab : Tab := []
def F (d : Disk) (n_1 : Int) (K : Disk → Prop) : Prop :=
  (K (⟨d.sure, d.cache, (maxI2 n_1 0), d.dead⟩ : Disk))
noncomputable def en : Entry := mkEntry [(.st 1), (.int .i64)] (cTy (.st 1)) fun x => F x.1 x.2.1
theorem eq (x : Dens [(.st 1), (.int .i64)]) (K : Disk → Prop) : apure E tab (fun _ => none) 4 66 (encA [(.st 1), (.int .i64)] x) (ansK ((cTy (.st 1))) K) = F x.1 x.2.1 K := by kernel_rfl
theorem loops : LoopsOk E tab (fun _ => none) 4 66 := loops_none _ _ _ _
theorem det (d : Disk) (n_1 : Int) : Det (F d n_1) := by
  unfold F
  repeat' first | with_reducible exact det_ret _ | with_reducible exact det_false | with_reducible refine det_cond _ ?_ ?_ | with_reducible refine det_oget _ (fun _ => ?_)
theorem edet (args : List AV) : Det (en args) := mkEntry_det (ts := [(.st 1), (.int .i64)]) (cod := (cTy (.st 1))) (F := fun x => F x.1 x.2.1) (fun x => det x.1 x.2.1) args
theorem ground : Ground E tab := ⟨num, mixed, (tab_nil _), clone, dtab_nil⟩
theorem has : ((E.P.funcs[66]?).bind (·.body)).isSome = true := by kernel_rfl
theorem sound : EntrySound E.P 66 en := mkSound (ts := [(.st 1), (.int .i64)]) (cod := (cTy (.st 1))) (F := fun x => F x.1 x.2.1) ground loops has eq
end disk_Arm
namespace slices_Equal_string
noncomputable def tab : Tab := []
structure R where
  t4 : Bool
def cR (x : R) : St := { fr := lookL .top [(4, (.bool x.t4))], hs := { hp := lookL .dead [], hn := 0 } }
def kR : Keep := { ks := [(4, none)], bs := [], hn := 0 }
structure L0 where
  s1 : (List Str)
  s2 : (List Str)
  t12 : Int
  t13 : Int
def c0 (x : L0) : St := { fr := lookL .top [(0, (.sl .any .str x.s1)), (1, (.sl .any .str x.s2)), (12, (.int .i64 x.t12)), (13, (.int .i64 x.t13))], hs := { hp := lookL .dead [], hn := 0 } }
def kp0 : Keep := { ks := [(0, none), (1, none), (12, none), (13, none)], bs := [], hn := 0 }
def p0 (st : St) (K : L0 → Prop) : Prop := gSl .any .str (st.fr 0) fun a1 => gSl .any .str (st.fr 1) fun a2 => gInt .i64 (st.fr 12) fun a3 => gInt .i64 (st.fr 13) fun a4 => K ⟨a1, a2, a3, a4⟩
theorem p0_ok (st : St) (K : L0 → Prop) (h : p0 st K) : ∃ x, keepSt kp0 st = c0 x ∧ K x := by
  obtain ⟨a1, h0, h⟩ := gSl_elim h
  obtain ⟨a2, h1, h⟩ := gSl_elim h
  obtain ⟨a3, h2, h⟩ := gInt_elim h
  obtain ⟨a4, h3, h⟩ := gInt_elim h
  refine ⟨_, ?_, h⟩
  simp only [keepSt, kp0, List.map, h0, h1, h2, h3]
  rfl
def b0 (rec kx : L0 → Prop) (kr : R → Prop) (x : L0) : Prop :=
  (bif (decide (x.t13 < x.t12)) then (oget (getI x.s1 x.t13) fun v1 => (oget (getI x.s2 x.t13) fun v2 => (bif (!(v1 == v2)) then (kr ⟨false⟩) else (rec ⟨x.s1, x.s2, x.t12, (IntKind.i64.wrap (x.t13 + 1))⟩)))) else (kx ⟨x.s1, x.s2, x.t12, x.t13⟩))
def l0 : LSpec := mkLoop 0 kp0 kR p0 c0 cR b0
def lt : Nat → Option LSpec
  | 0 => some l0
  | _ => none
def F (s1 : (List Str)) (s2 : (List Str)) (K : Bool → Prop) : Prop :=
  (bif ((s1.length : Int) != (s2.length : Int)) then (K false) else (∃ n, loopB b0 n (fun x3 => (K true)) (fun r4 => (K r4.t4)) ⟨s1, s2, (s1.length : Int), 0⟩))
noncomputable def en : Entry := mkEntry [(.slice .str), (.slice .str)] (cTy .bool) fun x => F x.1 x.2.1
theorem eq (x : Dens [(.slice .str), (.slice .str)]) (K : Bool → Prop) : apure E tab lt 4 102 (encA [(.slice .str), (.slice .str)] x) (ansK ((cTy .bool)) K) = F x.1 x.2.1 K := by kernel_rfl
theorem l0_ok : LSound E tab (afun E tab 4) 26 lt 0 ((loopsIn E.P 102).getD 0 (0, .skip)).2 l0 := mkLoop_sound (by decide) (by decide) p0_ok (fun R Kx Kr x => by kernel_rfl)
theorem loops : LoopsOk E tab lt 4 102 := loops_of (nt := 26) (ids := [0]) (by kernel_rfl) (by kernel_rfl) (by
  intro k i hk l hl
  match k, hk with
  | 0, hk => cases hk; cases hl; exact l0_ok
  | _ + 1, hk => exact absurd hk (by simp))
theorem det (s1 : (List Str)) (s2 : (List Str)) : Det (F s1 s2) := by
  unfold F
  repeat' first | with_reducible exact det_ret _ | with_reducible exact det_false | with_reducible refine det_cond _ ?_ ?_ | with_reducible refine det_oget _ (fun _ => ?_) | with_reducible refine det_loop (fun _ => ?_) (fun _ => ?_) (fun _ => ?_) _ | unfold b0
theorem edet (args : List AV) : Det (en args) := mkEntry_det (ts := [(.slice .str), (.slice .str)]) (cod := (cTy .bool)) (F := fun x => F x.1 x.2.1) (fun x => det x.1 x.2.1) args
theorem ground : Ground E tab := ⟨num, mixed, (tab_nil _), clone, dtab_nil⟩
theorem has : ((E.P.funcs[102]?).bind (·.body)).isSome = true := by kernel_rfl
theorem sound : EntrySound E.P 102 en := mkSound (ts := [(.slice .str), (.slice .str)]) (cod := (cTy .bool)) (F := fun x => F x.1 x.2.1) ground loops has eq
end slices_Equal_string
namespace slices_Equal_Write
noncomputable def tab : Tab := []
structure R where
  t4 : Bool
def cR (x : R) : St := { fr := lookL .top [(4, (.bool x.t4))], hs := { hp := lookL .dead [], hn := 0 } }
def kR : Keep := { ks := [(4, none)], bs := [], hn := 0 }
structure L0 where
  s1 : (List Write)
  s2 : (List Write)
  t12 : Int
  t13 : Int
def c0 (x : L0) : St := { fr := lookL .top [(0, (.sl .any (.st 0) x.s1)), (1, (.sl .any (.st 0) x.s2)), (12, (.int .i64 x.t12)), (13, (.int .i64 x.t13))], hs := { hp := lookL .dead [], hn := 0 } }
def kp0 : Keep := { ks := [(0, none), (1, none), (12, none), (13, none)], bs := [], hn := 0 }
def p0 (st : St) (K : L0 → Prop) : Prop := gSl .any (.st 0) (st.fr 0) fun a1 => gSl .any (.st 0) (st.fr 1) fun a2 => gInt .i64 (st.fr 12) fun a3 => gInt .i64 (st.fr 13) fun a4 => K ⟨a1, a2, a3, a4⟩
theorem p0_ok (st : St) (K : L0 → Prop) (h : p0 st K) : ∃ x, keepSt kp0 st = c0 x ∧ K x := by
  obtain ⟨a1, h0, h⟩ := gSl_elim h
  obtain ⟨a2, h1, h⟩ := gSl_elim h
  obtain ⟨a3, h2, h⟩ := gInt_elim h
  obtain ⟨a4, h3, h⟩ := gInt_elim h
  refine ⟨_, ?_, h⟩
  simp only [keepSt, kp0, List.map, h0, h1, h2, h3]
  rfl
def b0 (rec kx : L0 → Prop) (kr : R → Prop) (x : L0) : Prop :=
  (bif (decide (x.t13 < x.t12)) then (oget (getI x.s1 x.t13) fun v1 => (oget (getI x.s2 x.t13) fun v2 => (bif (!((v1.sector == v2.sector) && ((v1.data == v2.data) && true))) then (kr ⟨false⟩) else (rec ⟨x.s1, x.s2, x.t12, (IntKind.i64.wrap (x.t13 + 1))⟩)))) else (kx ⟨x.s1, x.s2, x.t12, x.t13⟩))
def l0 : LSpec := mkLoop 0 kp0 kR p0 c0 cR b0
def lt : Nat → Option LSpec
  | 0 => some l0
  | _ => none
def F (s1 : (List Write)) (s2 : (List Write)) (K : Bool → Prop) : Prop :=
  (bif ((s1.length : Int) != (s2.length : Int)) then (K false) else (∃ n, loopB b0 n (fun x3 => (K true)) (fun r4 => (K r4.t4)) ⟨s1, s2, (s1.length : Int), 0⟩))
noncomputable def en : Entry := mkEntry [(.slice (.st 0)), (.slice (.st 0))] (cTy .bool) fun x => F x.1 x.2.1
theorem eq (x : Dens [(.slice (.st 0)), (.slice (.st 0))]) (K : Bool → Prop) : apure E tab lt 4 103 (encA [(.slice (.st 0)), (.slice (.st 0))] x) (ansK ((cTy .bool)) K) = F x.1 x.2.1 K := by kernel_rfl
theorem l0_ok : LSound E tab (afun E tab 4) 26 lt 0 ((loopsIn E.P 103).getD 0 (0, .skip)).2 l0 := mkLoop_sound (by decide) (by decide) p0_ok (fun R Kx Kr x => by kernel_rfl)
theorem loops : LoopsOk E tab lt 4 103 := loops_of (nt := 26) (ids := [0]) (by kernel_rfl) (by kernel_rfl) (by
  intro k i hk l hl
  match k, hk with
  | 0, hk => cases hk; cases hl; exact l0_ok
  | _ + 1, hk => exact absurd hk (by simp))
theorem det (s1 : (List Write)) (s2 : (List Write)) : Det (F s1 s2) := by
  unfold F
  repeat' first | with_reducible exact det_ret _ | with_reducible exact det_false | with_reducible refine det_cond _ ?_ ?_ | with_reducible refine det_oget _ (fun _ => ?_) | with_reducible refine det_loop (fun _ => ?_) (fun _ => ?_) (fun _ => ?_) _ | unfold b0
theorem edet (args : List AV) : Det (en args) := mkEntry_det (ts := [(.slice (.st 0)), (.slice (.st 0))]) (cod := (cTy .bool)) (F := fun x => F x.1 x.2.1) (fun x => det x.1 x.2.1) args
theorem ground : Ground E tab := ⟨num, mixed, (tab_nil _), clone, dtab_nil⟩
theorem has : ((E.P.funcs[103]?).bind (·.body)).isSome = true := by kernel_rfl
theorem sound : EntrySound E.P 103 en := mkSound (ts := [(.slice (.st 0)), (.slice (.st 0))]) (cod := (cTy .bool)) (F := fun x => F x.1 x.2.1) ground loops has eq
end slices_Equal_Write
namespace disk_Same
noncomputable def tab : Tab := [(102, slices_Equal_string.en), (103, slices_Equal_Write.en)]
def F (a : Disk) (b_1 : Disk) (K : Bool → Prop) : Prop :=
  (slices_Equal_string.F a.sure b_1.sure fun r1 => (bif r1 then (slices_Equal_Write.F a.cache b_1.cache fun r2 => (bif r2 then (bif (a.fuse == b_1.fuse) then (K (a.dead == b_1.dead)) else (K false)) else (K false))) else (K false)))
noncomputable def en : Entry := mkEntry [(.st 1), (.st 1)] (cTy .bool) fun x => F x.1 x.2.1
noncomputable def tabV (f0 : (List Str) → (List Str) → (Bool → Prop) → Prop) (f1 : (List Write) → (List Write) → (Bool → Prop) → Prop) : Tab := [(102, mkEntry [(.slice .str), (.slice .str)] (cTy .bool) fun x => f0 x.1 x.2.1), (103, mkEntry [(.slice (.st 0)), (.slice (.st 0))] (cTy .bool) fun x => f1 x.1 x.2.1)]
theorem tabE : tab = tabV slices_Equal_string.F slices_Equal_Write.F := by kernel_rfl
theorem eqv (f0 : (List Str) → (List Str) → (Bool → Prop) → Prop) (f1 : (List Write) → (List Write) → (Bool → Prop) → Prop) (a : Disk) (b_1 : Disk) (K : Bool → Prop) : apure E (tabV f0 f1) (fun _ => none) 4 59 [enc (.st 1) a, enc (.st 1) b_1] (ansK ((cTy .bool)) K) =
  (f0 a.sure b_1.sure fun r1 => (bif r1 then (f1 a.cache b_1.cache fun r2 => (bif r2 then (bif (a.fuse == b_1.fuse) then (K (a.dead == b_1.dead)) else (K false)) else (K false))) else (K false))) := by kernel_rfl
theorem eq (x : Dens [(.st 1), (.st 1)]) (K : Bool → Prop) : apure E tab (fun _ => none) 4 59 (encA [(.st 1), (.st 1)] x) (ansK ((cTy .bool)) K) = F x.1 x.2.1 K := eqv slices_Equal_string.F slices_Equal_Write.F x.1 x.2.1 K
theorem loops : LoopsOk E tab (fun _ => none) 4 59 := loops_none _ _ _ _
theorem det (a : Disk) (b_1 : Disk) : Det (F a b_1) := by
  unfold F
  repeat' first | with_reducible exact det_ret _ | with_reducible exact det_false | with_reducible refine det_cond _ ?_ ?_ | with_reducible refine det_oget _ (fun _ => ?_) | with_reducible exact slices_Equal_string.det _ _ | with_reducible refine det_bind (slices_Equal_string.det _ _) (fun _ => ?_) | with_reducible exact slices_Equal_Write.det _ _ | with_reducible refine det_bind (slices_Equal_Write.det _ _) (fun _ => ?_)
theorem edet (args : List AV) : Det (en args) := mkEntry_det (ts := [(.st 1), (.st 1)]) (cod := (cTy .bool)) (F := fun x => F x.1 x.2.1) (fun x => det x.1 x.2.1) args
theorem ground : Ground E tab := ⟨num, mixed, (tab_cons slices_Equal_string.sound (tab_cons slices_Equal_Write.sound (tab_nil _))), clone, (dtab_cons slices_Equal_string.edet (dtab_cons slices_Equal_Write.edet dtab_nil))⟩
theorem has : ((E.P.funcs[59]?).bind (·.body)).isSome = true := by kernel_rfl
theorem sound : EntrySound E.P 59 en := mkSound (ts := [(.st 1), (.st 1)]) (cod := (cTy .bool)) (F := fun x => F x.1 x.2.1) ground loops has eq
end disk_Same
namespace law04_alive
noncomputable def tab : Tab := [(54, disk_New.en), (60, disk_Write.en), (62, disk_Read.en), (68, disk_Crash.en), (70, disk_Revive.en), (64, disk_Flush.en), (66, disk_Arm.en), (57, disk_Right.en), (59, disk_Same.en)]
def F (K : Bool → Prop) : Prop :=
  (disk_New.F 2 fun r1 => (disk_Write.F r1.1 1 ([97] : Str) fun r2 => (disk_Read.F r2.1 1 fun r3 => (disk_Crash.F r2.1 fun r4 => (disk_Revive.F r4 ([] : List Bool) fun r5 => (disk_Read.F r5 1 fun r6 => (disk_Crash.F r2.1 fun r7 => (disk_Revive.F r7 ([true] : List Bool) fun r8 => (disk_Read.F r8 1 fun r9 => (disk_Crash.F r2.1 fun r10 => (disk_Read.F r10 1 fun r11 => (disk_Flush.F r2.1 fun r12 => (disk_Arm.F r12.1 1 fun r13 => (disk_Write.F r13 1 ([98] : Str) fun r14 => (disk_Write.F r1.1 2 ([98] : Str) fun r15 => (bif (r1.2 == 0) then (bif (r2.2 == 0) then (bif (r3.2 == 0) then (bif (r6.2 == 0) then (bif (r9.2 == 0) then (bif (r11.2 == 6) then (bif (r12.2 == 0) then (bif (r14.2 == 6) then (bif (r15.2 == 4) then (bif (r3.1 == ([97] : Str)) then (bif (r6.1 == ([] : Str)) then (bif (r9.1 == ([97] : Str)) then (bif ((r12.1.cache.length : Int) == 0) then (bif ((r12.1.sure.length : Int) == 2) then (oget (getI r12.1.sure 1) fun v16 => (bif (v16 == ([97] : Str)) then (bif r14.1.dead then (disk_Right.F r1.1 fun r17 => (bif r17 then (disk_Right.F (⟨([] : List Str), ([] : List Write), 0, false⟩ : Disk) fun r18 => (bif (!r18) then (disk_Same.F r1.1 r1.1 fun r19 => (bif r19 then (disk_Same.F r1.1 r2.1 fun r20 => (K (!r20))) else (K false))) else (K false))) else (K false))) else (K false)) else (K false))) else (K false)) else (K false)) else (K false)) else (K false)) else (K false)) else (K false)) else (K false)) else (K false)) else (K false)) else (K false)) else (K false)) else (K false)) else (K false)) else (K false)))))))))))))))))
noncomputable def en : Entry := mkEntry [] (cTy .bool) fun x => F 
noncomputable def tabV (f0 : Int → ((Disk × Int) → Prop) → Prop) (f1 : Disk → Int → Str → ((Disk × Int) → Prop) → Prop) (f2 : Disk → Int → ((Str × Int) → Prop) → Prop) (f3 : Disk → (Disk → Prop) → Prop) (f4 : Disk → (List Bool) → (Disk → Prop) → Prop) (f5 : Disk → ((Disk × Int) → Prop) → Prop) (f6 : Disk → Int → (Disk → Prop) → Prop) (f7 : Disk → (Bool → Prop) → Prop) (f8 : Disk → Disk → (Bool → Prop) → Prop) : Tab := [(54, mkEntry [(.int .i64)] (cTwo (.st 1) (.int .i64)) fun x => f0 x.1), (60, mkEntry [(.st 1), (.int .i64), .str] (cTwo (.st 1) (.int .i64)) fun x => f1 x.1 x.2.1 x.2.2.1), (62, mkEntry [(.st 1), (.int .i64)] (cTwo .str (.int .i64)) fun x => f2 x.1 x.2.1), (68, mkEntry [(.st 1)] (cTy (.st 1)) fun x => f3 x.1), (70, mkEntry [(.st 1), (.slice .bool)] (cTy (.st 1)) fun x => f4 x.1 x.2.1), (64, mkEntry [(.st 1)] (cTwo (.st 1) (.int .i64)) fun x => f5 x.1), (66, mkEntry [(.st 1), (.int .i64)] (cTy (.st 1)) fun x => f6 x.1 x.2.1), (57, mkEntry [(.st 1)] (cTy .bool) fun x => f7 x.1), (59, mkEntry [(.st 1), (.st 1)] (cTy .bool) fun x => f8 x.1 x.2.1)]
theorem tabE : tab = tabV disk_New.F disk_Write.F disk_Read.F disk_Crash.F disk_Revive.F disk_Flush.F disk_Arm.F disk_Right.F disk_Same.F := by kernel_rfl
theorem eqv (f0 : Int → ((Disk × Int) → Prop) → Prop) (f1 : Disk → Int → Str → ((Disk × Int) → Prop) → Prop) (f2 : Disk → Int → ((Str × Int) → Prop) → Prop) (f3 : Disk → (Disk → Prop) → Prop) (f4 : Disk → (List Bool) → (Disk → Prop) → Prop) (f5 : Disk → ((Disk × Int) → Prop) → Prop) (f6 : Disk → Int → (Disk → Prop) → Prop) (f7 : Disk → (Bool → Prop) → Prop) (f8 : Disk → Disk → (Bool → Prop) → Prop) (K : Bool → Prop) : apure E (tabV f0 f1 f2 f3 f4 f5 f6 f7 f8) (fun _ => none) 4 52 [] (ansK ((cTy .bool)) K) =
  (f0 2 fun r1 => (f1 r1.1 1 ([97] : Str) fun r2 => (f2 r2.1 1 fun r3 => (f3 r2.1 fun r4 => (f4 r4 ([] : List Bool) fun r5 => (f2 r5 1 fun r6 => (f3 r2.1 fun r7 => (f4 r7 ([true] : List Bool) fun r8 => (f2 r8 1 fun r9 => (f3 r2.1 fun r10 => (f2 r10 1 fun r11 => (f5 r2.1 fun r12 => (f6 r12.1 1 fun r13 => (f1 r13 1 ([98] : Str) fun r14 => (f1 r1.1 2 ([98] : Str) fun r15 => (bif (r1.2 == 0) then (bif (r2.2 == 0) then (bif (r3.2 == 0) then (bif (r6.2 == 0) then (bif (r9.2 == 0) then (bif (r11.2 == 6) then (bif (r12.2 == 0) then (bif (r14.2 == 6) then (bif (r15.2 == 4) then (bif (r3.1 == ([97] : Str)) then (bif (r6.1 == ([] : Str)) then (bif (r9.1 == ([97] : Str)) then (bif ((r12.1.cache.length : Int) == 0) then (bif ((r12.1.sure.length : Int) == 2) then (oget (getI r12.1.sure 1) fun v16 => (bif (v16 == ([97] : Str)) then (bif r14.1.dead then (f7 r1.1 fun r17 => (bif r17 then (f7 (⟨([] : List Str), ([] : List Write), 0, false⟩ : Disk) fun r18 => (bif (!r18) then (f8 r1.1 r1.1 fun r19 => (bif r19 then (f8 r1.1 r2.1 fun r20 => (K (!r20))) else (K false))) else (K false))) else (K false))) else (K false)) else (K false))) else (K false)) else (K false)) else (K false)) else (K false)) else (K false)) else (K false)) else (K false)) else (K false)) else (K false)) else (K false)) else (K false)) else (K false)) else (K false)) else (K false))))))))))))))))) := by kernel_rfl
theorem eq (x : Dens []) (K : Bool → Prop) : apure E tab (fun _ => none) 4 52 (encA [] x) (ansK ((cTy .bool)) K) = F  K := eqv disk_New.F disk_Write.F disk_Read.F disk_Crash.F disk_Revive.F disk_Flush.F disk_Arm.F disk_Right.F disk_Same.F  K
theorem loops : LoopsOk E tab (fun _ => none) 4 52 := loops_none _ _ _ _
theorem det : Det (F) := by
  unfold F
  repeat' first | with_reducible exact det_ret _ | with_reducible exact det_false | with_reducible refine det_cond _ ?_ ?_ | with_reducible refine det_oget _ (fun _ => ?_) | with_reducible exact disk_New.det _ | with_reducible refine det_bind (disk_New.det _) (fun _ => ?_) | with_reducible exact disk_Write.det _ _ _ | with_reducible refine det_bind (disk_Write.det _ _ _) (fun _ => ?_) | with_reducible exact disk_Read.det _ _ | with_reducible refine det_bind (disk_Read.det _ _) (fun _ => ?_) | with_reducible exact disk_Crash.det _ | with_reducible refine det_bind (disk_Crash.det _) (fun _ => ?_) | with_reducible exact disk_Revive.det _ _ | with_reducible refine det_bind (disk_Revive.det _ _) (fun _ => ?_) | with_reducible exact disk_Flush.det _ | with_reducible refine det_bind (disk_Flush.det _) (fun _ => ?_) | with_reducible exact disk_Arm.det _ _ | with_reducible refine det_bind (disk_Arm.det _ _) (fun _ => ?_) | with_reducible exact disk_Right.det _ | with_reducible refine det_bind (disk_Right.det _) (fun _ => ?_) | with_reducible exact disk_Same.det _ _ | with_reducible refine det_bind (disk_Same.det _ _) (fun _ => ?_)
theorem edet (args : List AV) : Det (en args) := mkEntry_det (ts := []) (cod := (cTy .bool)) (F := fun _ => F) (fun _ => det ) args
theorem ground : Ground E tab := ⟨num, mixed, (tab_cons disk_New.sound (tab_cons disk_Write.sound (tab_cons disk_Read.sound (tab_cons disk_Crash.sound (tab_cons disk_Revive.sound (tab_cons disk_Flush.sound (tab_cons disk_Arm.sound (tab_cons disk_Right.sound (tab_cons disk_Same.sound (tab_nil _)))))))))), clone, (dtab_cons disk_New.edet (dtab_cons disk_Write.edet (dtab_cons disk_Read.edet (dtab_cons disk_Crash.edet (dtab_cons disk_Revive.edet (dtab_cons disk_Flush.edet (dtab_cons disk_Arm.edet (dtab_cons disk_Right.edet (dtab_cons disk_Same.edet dtab_nil)))))))))⟩
theorem has : ((E.P.funcs[52]?).bind (·.body)).isSome = true := by kernel_rfl
theorem sound : EntrySound E.P 52 en := mkSound (ts := []) (cod := (cTy .bool)) (F := fun _ => F) ground loops has eq
end law04_alive
namespace ref04_Great
noncomputable def tab : Tab := []
structure R where
  t2 : Bool
def cR (x : R) : St := { fr := lookL .top [(2, (.bool x.t2))], hs := { hp := lookL .dead [], hn := 1 } }
def kR : Keep := { ks := [(2, none)], bs := [], hn := 1 }
structure L0 where
  i : Int
  m0 : (List Str)
  m0_1 : (List Write)
  m0_2 : Int
  m0_3 : Bool
def c0 (x : L0) : St := { fr := lookL .top [(1, (.ptr 0 0)), (3, (.int .i64 x.i))], hs := { hp := lookL .dead [(0, (.cells [(.sl .any .str x.m0), (.sl .any (.st 0) x.m0_1), (.int .i64 x.m0_2), (.bool x.m0_3)]))], hn := 1 } }
def kp0 : Keep := { ks := [(1, none), (3, none)], bs := [0], hn := 1 }
def p0 (st : St) (K : L0 → Prop) : Prop := gPtr 0 0 (st.fr 1) <| gInt .i64 (st.fr 3) fun a1 => gCells (st.hs.hp 0) fun c2 => gCons c2 fun c3 c4 => gSl .any .str c3 fun a5 => gCons c4 fun c6 c7 => gSl .any (.st 0) c6 fun a8 => gCons c7 fun c9 c10 => gInt .i64 c9 fun a11 => gCons c10 fun c12 c13 => gBool c12 fun a14 => gNil c13 <| K ⟨a1, a5, a8, a11, a14⟩
theorem p0_ok (st : St) (K : L0 → Prop) (h : p0 st K) : ∃ x, keepSt kp0 st = c0 x ∧ K x := by
  obtain ⟨h0, h⟩ := gPtr_elim h
  obtain ⟨a1, h1, h⟩ := gInt_elim h
  obtain ⟨c2, h2, h⟩ := gCells_elim h
  obtain ⟨c3, c4, h3, h⟩ := gCons_elim h
  obtain ⟨a5, h4, h⟩ := gSl_elim h
  obtain ⟨c6, c7, h5, h⟩ := gCons_elim h
  obtain ⟨a8, h6, h⟩ := gSl_elim h
  obtain ⟨c9, c10, h7, h⟩ := gCons_elim h
  obtain ⟨a11, h8, h⟩ := gInt_elim h
  obtain ⟨c12, c13, h9, h⟩ := gCons_elim h
  obtain ⟨a14, h10, h⟩ := gBool_elim h
  obtain ⟨h11, h⟩ := gNil_elim h
  refine ⟨_, ?_, h⟩
  subst h3
  subst h4
  subst h5
  subst h6
  subst h7
  subst h8
  subst h9
  subst h10
  subst h11
  simp only [keepSt, kp0, List.map, h0, h1, h2]
  rfl
def b0 (rec kx : L0 → Prop) (kr : R → Prop) (x : L0) : Prop :=
  (bif (decide (x.i < (x.m0.length : Int))) then (oget (getI x.m0 x.i) fun v1 => (bif (decide ((v1.length : Int) > 100)) then (kr ⟨true⟩) else (rec ⟨(IntKind.i64.wrap (x.i + 1)), x.m0, x.m0_1, x.m0_2, x.m0_3⟩))) else (kx ⟨x.i, x.m0, x.m0_1, x.m0_2, x.m0_3⟩))
def l0 : LSpec := mkLoop 0 kp0 kR p0 c0 cR b0
structure L2 where
  i : Int
  m0 : (List Str)
  m0_1 : (List Write)
  m0_2 : Int
  m0_3 : Bool
def c2 (x : L2) : St := { fr := lookL .top [(1, (.ptr 0 0)), (4, (.int .i64 x.i))], hs := { hp := lookL .dead [(0, (.cells [(.sl .any .str x.m0), (.sl .any (.st 0) x.m0_1), (.int .i64 x.m0_2), (.bool x.m0_3)]))], hn := 1 } }
def kp2 : Keep := { ks := [(1, none), (4, none)], bs := [0], hn := 1 }
def p2 (st : St) (K : L2 → Prop) : Prop := gPtr 0 0 (st.fr 1) <| gInt .i64 (st.fr 4) fun a1 => gCells (st.hs.hp 0) fun c2 => gCons c2 fun c3 c4 => gSl .any .str c3 fun a5 => gCons c4 fun c6 c7 => gSl .any (.st 0) c6 fun a8 => gCons c7 fun c9 c10 => gInt .i64 c9 fun a11 => gCons c10 fun c12 c13 => gBool c12 fun a14 => gNil c13 <| K ⟨a1, a5, a8, a11, a14⟩
theorem p2_ok (st : St) (K : L2 → Prop) (h : p2 st K) : ∃ x, keepSt kp2 st = c2 x ∧ K x := by
  obtain ⟨h0, h⟩ := gPtr_elim h
  obtain ⟨a1, h1, h⟩ := gInt_elim h
  obtain ⟨c2, h2, h⟩ := gCells_elim h
  obtain ⟨c3, c4, h3, h⟩ := gCons_elim h
  obtain ⟨a5, h4, h⟩ := gSl_elim h
  obtain ⟨c6, c7, h5, h⟩ := gCons_elim h
  obtain ⟨a8, h6, h⟩ := gSl_elim h
  obtain ⟨c9, c10, h7, h⟩ := gCons_elim h
  obtain ⟨a11, h8, h⟩ := gInt_elim h
  obtain ⟨c12, c13, h9, h⟩ := gCons_elim h
  obtain ⟨a14, h10, h⟩ := gBool_elim h
  obtain ⟨h11, h⟩ := gNil_elim h
  refine ⟨_, ?_, h⟩
  subst h3
  subst h4
  subst h5
  subst h6
  subst h7
  subst h8
  subst h9
  subst h10
  subst h11
  simp only [keepSt, kp2, List.map, h0, h1, h2]
  rfl
def b2 (rec kx : L2 → Prop) (kr : R → Prop) (x : L2) : Prop :=
  (bif (decide (x.i < (x.m0_1.length : Int))) then (oget (getI x.m0_1 x.i) fun v4 => (bif (decide ((v4.data.length : Int) > 100)) then (kr ⟨true⟩) else (rec ⟨(IntKind.i64.wrap (x.i + 1)), x.m0, x.m0_1, x.m0_2, x.m0_3⟩))) else (kx ⟨x.i, x.m0, x.m0_1, x.m0_2, x.m0_3⟩))
def l2 : LSpec := mkLoop 2 kp2 kR p2 c2 cR b2
def lt : Nat → Option LSpec
  | 0 => some l0
  | 2 => some l2
  | _ => none
def F (d : Disk) (K : Bool → Prop) : Prop :=
  (bif (decide ((d.sure.length : Int) > 70)) then (K true) else (bif (decide ((d.cache.length : Int) > 100)) then (K true) else (∃ n, loopB b0 n (fun x2 => (∃ n, loopB b2 n (fun x5 => (K false)) (fun r6 => (K r6.t2)) ⟨0, x2.m0, x2.m0_1, x2.m0_2, x2.m0_3⟩)) (fun r3 => (K r3.t2)) ⟨0, d.sure, d.cache, d.fuse, d.dead⟩)))
noncomputable def en : Entry := mkEntry [(.st 1)] (cTy .bool) fun x => F x.1
theorem eq (x : Dens [(.st 1)]) (K : Bool → Prop) : apure E tab lt 4 53 (encA [(.st 1)] x) (ansK ((cTy .bool)) K) = F x.1 K := by kernel_rfl
theorem l0_ok : LSound E tab (afun E tab 4) 44 lt 0 ((loopsIn E.P 53).getD 0 (0, .skip)).2 l0 := mkLoop_sound (by decide) (by decide) p0_ok (fun R Kx Kr x => by kernel_rfl)
theorem l2_ok : LSound E tab (afun E tab 4) 44 lt 2 ((loopsIn E.P 53).getD 1 (0, .skip)).2 l2 := mkLoop_sound (by decide) (by decide) p2_ok (fun R Kx Kr x => by kernel_rfl)
theorem loops : LoopsOk E tab lt 4 53 := loops_of (nt := 44) (ids := [0, 2]) (by kernel_rfl) (by kernel_rfl) (by
  intro k i hk l hl
  match k, hk with
  | 0, hk => cases hk; cases hl; exact l0_ok
  | 1, hk => cases hk; cases hl; exact l2_ok
  | _ + 2, hk => exact absurd hk (by simp))
theorem det (d : Disk) : Det (F d) := by
  unfold F
  repeat' first | with_reducible exact det_ret _ | with_reducible exact det_false | with_reducible refine det_cond _ ?_ ?_ | with_reducible refine det_oget _ (fun _ => ?_) | with_reducible refine det_loop (fun _ => ?_) (fun _ => ?_) (fun _ => ?_) _ | unfold b0 | unfold b2
theorem edet (args : List AV) : Det (en args) := mkEntry_det (ts := [(.st 1)]) (cod := (cTy .bool)) (F := fun x => F x.1) (fun x => det x.1) args
theorem ground : Ground E tab := ⟨num, mixed, (tab_nil _), clone, dtab_nil⟩
theorem has : ((E.P.funcs[53]?).bind (·.body)).isSome = true := by kernel_rfl
theorem sound : EntrySound E.P 53 en := mkSound (ts := [(.st 1)]) (cod := (cTy .bool)) (F := fun x => F x.1) ground loops has eq
end ref04_Great
namespace ref04_New
noncomputable def tab : Tab := []
def F (sectors : Int) (K : (Disk × Int) → Prop) : Prop :=
  (bif (decide (sectors < 1)) then (K ((⟨([] : List Str), ([] : List Write), 0, false⟩ : Disk), 1)) else (bif (decide (sectors > 64)) then (K ((⟨([] : List Str), ([] : List Write), 0, false⟩ : Disk), 1)) else (bif (sectors == sectors && (decide (0 ≤ sectors) && decide (sectors * (16 : Nat) ≤ (room : Int)))) then (K ((⟨(List.replicate (Int.toNat sectors) (([] : Str) : Str)), ([] : List Write), 0, false⟩ : Disk), 0)) else False)))
noncomputable def en : Entry := mkEntry [(.int .i64)] (cTwo (.st 1) (.int .i64)) fun x => F x.1
theorem eq (x : Dens [(.int .i64)]) (K : (Disk × Int) → Prop) : apure E tab (fun _ => none) 4 55 (encA [(.int .i64)] x) (ansK ((cTwo (.st 1) (.int .i64))) K) = F x.1 K := by kernel_rfl
theorem loops : LoopsOk E tab (fun _ => none) 4 55 := loops_none _ _ _ _
theorem det (sectors : Int) : Det (F sectors) := by
  unfold F
  repeat' first | with_reducible exact det_ret _ | with_reducible exact det_false | with_reducible refine det_cond _ ?_ ?_ | with_reducible refine det_oget _ (fun _ => ?_)
theorem edet (args : List AV) : Det (en args) := mkEntry_det (ts := [(.int .i64)]) (cod := (cTwo (.st 1) (.int .i64))) (F := fun x => F x.1) (fun x => det x.1) args
theorem ground : Ground E tab := ⟨num, mixed, (tab_nil _), clone, dtab_nil⟩
theorem has : ((E.P.funcs[55]?).bind (·.body)).isSome = true := by kernel_rfl
theorem sound : EntrySound E.P 55 en := mkSound (ts := [(.int .i64)]) (cod := (cTwo (.st 1) (.int .i64))) (F := fun x => F x.1) ground loops has eq
end ref04_New
namespace ref04_Same
noncomputable def tab : Tab := []
structure R where
  t4 : Bool
def cR (x : R) : St := { fr := lookL .top [(4, (.bool x.t4))], hs := { hp := lookL .dead [], hn := 2 } }
def kR : Keep := { ks := [(4, none)], bs := [], hn := 2 }
structure L0 where
  i : Int
  m0 : (List Str)
  m0_1 : (List Write)
  m0_2 : Int
  m0_3 : Bool
  m1 : (List Str)
  m1_1 : (List Write)
  m1_2 : Int
  m1_3 : Bool
def c0 (x : L0) : St := { fr := lookL .top [(2, (.ptr 0 0)), (3, (.ptr 1 0)), (5, (.int .i64 x.i))], hs := { hp := lookL .dead [(0, (.cells [(.sl .any .str x.m0), (.sl .any (.st 0) x.m0_1), (.int .i64 x.m0_2), (.bool x.m0_3)])), (1, (.cells [(.sl .any .str x.m1), (.sl .any (.st 0) x.m1_1), (.int .i64 x.m1_2), (.bool x.m1_3)]))], hn := 2 } }
def kp0 : Keep := { ks := [(2, none), (3, none), (5, none)], bs := [0, 1], hn := 2 }
def p0 (st : St) (K : L0 → Prop) : Prop := gPtr 0 0 (st.fr 2) <| gPtr 1 0 (st.fr 3) <| gInt .i64 (st.fr 5) fun a1 => gCells (st.hs.hp 0) fun c2 => gCons c2 fun c3 c4 => gSl .any .str c3 fun a5 => gCons c4 fun c6 c7 => gSl .any (.st 0) c6 fun a8 => gCons c7 fun c9 c10 => gInt .i64 c9 fun a11 => gCons c10 fun c12 c13 => gBool c12 fun a14 => gNil c13 <| gCells (st.hs.hp 1) fun c15 => gCons c15 fun c16 c17 => gSl .any .str c16 fun a18 => gCons c17 fun c19 c20 => gSl .any (.st 0) c19 fun a21 => gCons c20 fun c22 c23 => gInt .i64 c22 fun a24 => gCons c23 fun c25 c26 => gBool c25 fun a27 => gNil c26 <| K ⟨a1, a5, a8, a11, a14, a18, a21, a24, a27⟩
theorem p0_ok (st : St) (K : L0 → Prop) (h : p0 st K) : ∃ x, keepSt kp0 st = c0 x ∧ K x := by
  obtain ⟨h0, h⟩ := gPtr_elim h
  obtain ⟨h1, h⟩ := gPtr_elim h
  obtain ⟨a1, h2, h⟩ := gInt_elim h
  obtain ⟨c2, h3, h⟩ := gCells_elim h
  obtain ⟨c3, c4, h4, h⟩ := gCons_elim h
  obtain ⟨a5, h5, h⟩ := gSl_elim h
  obtain ⟨c6, c7, h6, h⟩ := gCons_elim h
  obtain ⟨a8, h7, h⟩ := gSl_elim h
  obtain ⟨c9, c10, h8, h⟩ := gCons_elim h
  obtain ⟨a11, h9, h⟩ := gInt_elim h
  obtain ⟨c12, c13, h10, h⟩ := gCons_elim h
  obtain ⟨a14, h11, h⟩ := gBool_elim h
  obtain ⟨h12, h⟩ := gNil_elim h
  obtain ⟨c15, h13, h⟩ := gCells_elim h
  obtain ⟨c16, c17, h14, h⟩ := gCons_elim h
  obtain ⟨a18, h15, h⟩ := gSl_elim h
  obtain ⟨c19, c20, h16, h⟩ := gCons_elim h
  obtain ⟨a21, h17, h⟩ := gSl_elim h
  obtain ⟨c22, c23, h18, h⟩ := gCons_elim h
  obtain ⟨a24, h19, h⟩ := gInt_elim h
  obtain ⟨c25, c26, h20, h⟩ := gCons_elim h
  obtain ⟨a27, h21, h⟩ := gBool_elim h
  obtain ⟨h22, h⟩ := gNil_elim h
  refine ⟨_, ?_, h⟩
  subst h4
  subst h5
  subst h6
  subst h7
  subst h8
  subst h9
  subst h10
  subst h11
  subst h12
  subst h14
  subst h15
  subst h16
  subst h17
  subst h18
  subst h19
  subst h20
  subst h21
  subst h22
  simp only [keepSt, kp0, List.map, h0, h1, h2, h3, h13]
  rfl
def b0 (rec kx : L0 → Prop) (kr : R → Prop) (x : L0) : Prop :=
  (bif (decide (x.i < (x.m0.length : Int))) then (oget (getI x.m0 x.i) fun v1 => (oget (getI x.m1 x.i) fun v2 => (bif (!(v1 == v2)) then (kr ⟨false⟩) else (rec ⟨(IntKind.i64.wrap (x.i + 1)), x.m0, x.m0_1, x.m0_2, x.m0_3, x.m1, x.m1_1, x.m1_2, x.m1_3⟩)))) else (kx ⟨x.i, x.m0, x.m0_1, x.m0_2, x.m0_3, x.m1, x.m1_1, x.m1_2, x.m1_3⟩))
def l0 : LSpec := mkLoop 0 kp0 kR p0 c0 cR b0
structure L2 where
  i : Int
  m0 : (List Str)
  m0_1 : (List Write)
  m0_2 : Int
  m0_3 : Bool
  m1 : (List Str)
  m1_1 : (List Write)
  m1_2 : Int
  m1_3 : Bool
def c2 (x : L2) : St := { fr := lookL .top [(2, (.ptr 0 0)), (3, (.ptr 1 0)), (6, (.int .i64 x.i))], hs := { hp := lookL .dead [(0, (.cells [(.sl .any .str x.m0), (.sl .any (.st 0) x.m0_1), (.int .i64 x.m0_2), (.bool x.m0_3)])), (1, (.cells [(.sl .any .str x.m1), (.sl .any (.st 0) x.m1_1), (.int .i64 x.m1_2), (.bool x.m1_3)]))], hn := 2 } }
def kp2 : Keep := { ks := [(2, none), (3, none), (6, none)], bs := [0, 1], hn := 2 }
def p2 (st : St) (K : L2 → Prop) : Prop := gPtr 0 0 (st.fr 2) <| gPtr 1 0 (st.fr 3) <| gInt .i64 (st.fr 6) fun a1 => gCells (st.hs.hp 0) fun c2 => gCons c2 fun c3 c4 => gSl .any .str c3 fun a5 => gCons c4 fun c6 c7 => gSl .any (.st 0) c6 fun a8 => gCons c7 fun c9 c10 => gInt .i64 c9 fun a11 => gCons c10 fun c12 c13 => gBool c12 fun a14 => gNil c13 <| gCells (st.hs.hp 1) fun c15 => gCons c15 fun c16 c17 => gSl .any .str c16 fun a18 => gCons c17 fun c19 c20 => gSl .any (.st 0) c19 fun a21 => gCons c20 fun c22 c23 => gInt .i64 c22 fun a24 => gCons c23 fun c25 c26 => gBool c25 fun a27 => gNil c26 <| K ⟨a1, a5, a8, a11, a14, a18, a21, a24, a27⟩
theorem p2_ok (st : St) (K : L2 → Prop) (h : p2 st K) : ∃ x, keepSt kp2 st = c2 x ∧ K x := by
  obtain ⟨h0, h⟩ := gPtr_elim h
  obtain ⟨h1, h⟩ := gPtr_elim h
  obtain ⟨a1, h2, h⟩ := gInt_elim h
  obtain ⟨c2, h3, h⟩ := gCells_elim h
  obtain ⟨c3, c4, h4, h⟩ := gCons_elim h
  obtain ⟨a5, h5, h⟩ := gSl_elim h
  obtain ⟨c6, c7, h6, h⟩ := gCons_elim h
  obtain ⟨a8, h7, h⟩ := gSl_elim h
  obtain ⟨c9, c10, h8, h⟩ := gCons_elim h
  obtain ⟨a11, h9, h⟩ := gInt_elim h
  obtain ⟨c12, c13, h10, h⟩ := gCons_elim h
  obtain ⟨a14, h11, h⟩ := gBool_elim h
  obtain ⟨h12, h⟩ := gNil_elim h
  obtain ⟨c15, h13, h⟩ := gCells_elim h
  obtain ⟨c16, c17, h14, h⟩ := gCons_elim h
  obtain ⟨a18, h15, h⟩ := gSl_elim h
  obtain ⟨c19, c20, h16, h⟩ := gCons_elim h
  obtain ⟨a21, h17, h⟩ := gSl_elim h
  obtain ⟨c22, c23, h18, h⟩ := gCons_elim h
  obtain ⟨a24, h19, h⟩ := gInt_elim h
  obtain ⟨c25, c26, h20, h⟩ := gCons_elim h
  obtain ⟨a27, h21, h⟩ := gBool_elim h
  obtain ⟨h22, h⟩ := gNil_elim h
  refine ⟨_, ?_, h⟩
  subst h4
  subst h5
  subst h6
  subst h7
  subst h8
  subst h9
  subst h10
  subst h11
  subst h12
  subst h14
  subst h15
  subst h16
  subst h17
  subst h18
  subst h19
  subst h20
  subst h21
  subst h22
  simp only [keepSt, kp2, List.map, h0, h1, h2, h3, h13]
  rfl
def b2 (rec kx : L2 → Prop) (kr : R → Prop) (x : L2) : Prop :=
  (bif (decide (x.i < (x.m0_1.length : Int))) then (oget (getI x.m0_1 x.i) fun v5 => (oget (getI x.m1_1 x.i) fun v6 => (bif (!((v5.sector == v6.sector) && ((v5.data == v6.data) && true))) then (kr ⟨false⟩) else (rec ⟨(IntKind.i64.wrap (x.i + 1)), x.m0, x.m0_1, x.m0_2, x.m0_3, x.m1, x.m1_1, x.m1_2, x.m1_3⟩)))) else (kx ⟨x.i, x.m0, x.m0_1, x.m0_2, x.m0_3, x.m1, x.m1_1, x.m1_2, x.m1_3⟩))
def l2 : LSpec := mkLoop 2 kp2 kR p2 c2 cR b2
def lt : Nat → Option LSpec
  | 0 => some l0
  | 2 => some l2
  | _ => none
def F (a : Disk) (b_1 : Disk) (K : Bool → Prop) : Prop :=
  (bif ((a.sure.length : Int) != (b_1.sure.length : Int)) then (K false) else (bif ((a.cache.length : Int) != (b_1.cache.length : Int)) then (K false) else (bif (a.fuse != b_1.fuse) then (K false) else (bif (!(a.dead == b_1.dead)) then (K false) else (∃ n, loopB b0 n (fun x3 => (∃ n, loopB b2 n (fun x7 => (K true)) (fun r8 => (K r8.t4)) ⟨0, x3.m0, x3.m0_1, x3.m0_2, x3.m0_3, x3.m1, x3.m1_1, x3.m1_2, x3.m1_3⟩)) (fun r4 => (K r4.t4)) ⟨0, a.sure, a.cache, a.fuse, a.dead, b_1.sure, b_1.cache, b_1.fuse, b_1.dead⟩)))))
noncomputable def en : Entry := mkEntry [(.st 1), (.st 1)] (cTy .bool) fun x => F x.1 x.2.1
theorem eq (x : Dens [(.st 1), (.st 1)]) (K : Bool → Prop) : apure E tab lt 4 56 (encA [(.st 1), (.st 1)] x) (ansK ((cTy .bool)) K) = F x.1 x.2.1 K := by kernel_rfl
theorem l0_ok : LSound E tab (afun E tab 4) 73 lt 0 ((loopsIn E.P 56).getD 0 (0, .skip)).2 l0 := mkLoop_sound (by decide) (by decide) p0_ok (fun R Kx Kr x => by kernel_rfl)
theorem l2_ok : LSound E tab (afun E tab 4) 73 lt 2 ((loopsIn E.P 56).getD 1 (0, .skip)).2 l2 := mkLoop_sound (by decide) (by decide) p2_ok (fun R Kx Kr x => by kernel_rfl)
theorem loops : LoopsOk E tab lt 4 56 := loops_of (nt := 73) (ids := [0, 2]) (by kernel_rfl) (by kernel_rfl) (by
  intro k i hk l hl
  match k, hk with
  | 0, hk => cases hk; cases hl; exact l0_ok
  | 1, hk => cases hk; cases hl; exact l2_ok
  | _ + 2, hk => exact absurd hk (by simp))
theorem det (a : Disk) (b_1 : Disk) : Det (F a b_1) := by
  unfold F
  repeat' first | with_reducible exact det_ret _ | with_reducible exact det_false | with_reducible refine det_cond _ ?_ ?_ | with_reducible refine det_oget _ (fun _ => ?_) | with_reducible refine det_loop (fun _ => ?_) (fun _ => ?_) (fun _ => ?_) _ | unfold b0 | unfold b2
theorem edet (args : List AV) : Det (en args) := mkEntry_det (ts := [(.st 1), (.st 1)]) (cod := (cTy .bool)) (F := fun x => F x.1 x.2.1) (fun x => det x.1 x.2.1) args
theorem ground : Ground E tab := ⟨num, mixed, (tab_nil _), clone, dtab_nil⟩
theorem has : ((E.P.funcs[56]?).bind (·.body)).isSome = true := by kernel_rfl
theorem sound : EntrySound E.P 56 en := mkSound (ts := [(.st 1), (.st 1)]) (cod := (cTy .bool)) (F := fun x => F x.1 x.2.1) ground loops has eq
end ref04_Same
namespace ref04_Right
noncomputable def tab : Tab := []
structure R where
  t2 : Bool
def cR (x : R) : St := { fr := lookL .top [(2, (.bool x.t2))], hs := { hp := lookL .dead [], hn := 1 } }
def kR : Keep := { ks := [(2, none)], bs := [], hn := 1 }
structure L0 where
  i : Int
  m0 : (List Str)
  m0_1 : (List Write)
  m0_2 : Int
  m0_3 : Bool
def c0 (x : L0) : St := { fr := lookL .top [(1, (.ptr 0 0)), (3, (.int .i64 x.i))], hs := { hp := lookL .dead [(0, (.cells [(.sl .any .str x.m0), (.sl .any (.st 0) x.m0_1), (.int .i64 x.m0_2), (.bool x.m0_3)]))], hn := 1 } }
def kp0 : Keep := { ks := [(1, none), (3, none)], bs := [0], hn := 1 }
def p0 (st : St) (K : L0 → Prop) : Prop := gPtr 0 0 (st.fr 1) <| gInt .i64 (st.fr 3) fun a1 => gCells (st.hs.hp 0) fun c2 => gCons c2 fun c3 c4 => gSl .any .str c3 fun a5 => gCons c4 fun c6 c7 => gSl .any (.st 0) c6 fun a8 => gCons c7 fun c9 c10 => gInt .i64 c9 fun a11 => gCons c10 fun c12 c13 => gBool c12 fun a14 => gNil c13 <| K ⟨a1, a5, a8, a11, a14⟩
theorem p0_ok (st : St) (K : L0 → Prop) (h : p0 st K) : ∃ x, keepSt kp0 st = c0 x ∧ K x := by
  obtain ⟨h0, h⟩ := gPtr_elim h
  obtain ⟨a1, h1, h⟩ := gInt_elim h
  obtain ⟨c2, h2, h⟩ := gCells_elim h
  obtain ⟨c3, c4, h3, h⟩ := gCons_elim h
  obtain ⟨a5, h4, h⟩ := gSl_elim h
  obtain ⟨c6, c7, h5, h⟩ := gCons_elim h
  obtain ⟨a8, h6, h⟩ := gSl_elim h
  obtain ⟨c9, c10, h7, h⟩ := gCons_elim h
  obtain ⟨a11, h8, h⟩ := gInt_elim h
  obtain ⟨c12, c13, h9, h⟩ := gCons_elim h
  obtain ⟨a14, h10, h⟩ := gBool_elim h
  obtain ⟨h11, h⟩ := gNil_elim h
  refine ⟨_, ?_, h⟩
  subst h3
  subst h4
  subst h5
  subst h6
  subst h7
  subst h8
  subst h9
  subst h10
  subst h11
  simp only [keepSt, kp0, List.map, h0, h1, h2]
  rfl
def b0 (rec kx : L0 → Prop) (kr : R → Prop) (x : L0) : Prop :=
  (bif (decide (x.i < (x.m0.length : Int))) then (oget (getI x.m0 x.i) fun v1 => (bif (decide ((v1.length : Int) > 64)) then (kr ⟨false⟩) else (rec ⟨(IntKind.i64.wrap (x.i + 1)), x.m0, x.m0_1, x.m0_2, x.m0_3⟩))) else (kx ⟨x.i, x.m0, x.m0_1, x.m0_2, x.m0_3⟩))
def l0 : LSpec := mkLoop 0 kp0 kR p0 c0 cR b0
structure L2 where
  i : Int
  m0 : (List Str)
  m0_1 : (List Write)
  m0_2 : Int
  m0_3 : Bool
def c2 (x : L2) : St := { fr := lookL .top [(1, (.ptr 0 0)), (4, (.int .i64 x.i))], hs := { hp := lookL .dead [(0, (.cells [(.sl .any .str x.m0), (.sl .any (.st 0) x.m0_1), (.int .i64 x.m0_2), (.bool x.m0_3)]))], hn := 1 } }
def kp2 : Keep := { ks := [(1, none), (4, none)], bs := [0], hn := 1 }
def p2 (st : St) (K : L2 → Prop) : Prop := gPtr 0 0 (st.fr 1) <| gInt .i64 (st.fr 4) fun a1 => gCells (st.hs.hp 0) fun c2 => gCons c2 fun c3 c4 => gSl .any .str c3 fun a5 => gCons c4 fun c6 c7 => gSl .any (.st 0) c6 fun a8 => gCons c7 fun c9 c10 => gInt .i64 c9 fun a11 => gCons c10 fun c12 c13 => gBool c12 fun a14 => gNil c13 <| K ⟨a1, a5, a8, a11, a14⟩
theorem p2_ok (st : St) (K : L2 → Prop) (h : p2 st K) : ∃ x, keepSt kp2 st = c2 x ∧ K x := by
  obtain ⟨h0, h⟩ := gPtr_elim h
  obtain ⟨a1, h1, h⟩ := gInt_elim h
  obtain ⟨c2, h2, h⟩ := gCells_elim h
  obtain ⟨c3, c4, h3, h⟩ := gCons_elim h
  obtain ⟨a5, h4, h⟩ := gSl_elim h
  obtain ⟨c6, c7, h5, h⟩ := gCons_elim h
  obtain ⟨a8, h6, h⟩ := gSl_elim h
  obtain ⟨c9, c10, h7, h⟩ := gCons_elim h
  obtain ⟨a11, h8, h⟩ := gInt_elim h
  obtain ⟨c12, c13, h9, h⟩ := gCons_elim h
  obtain ⟨a14, h10, h⟩ := gBool_elim h
  obtain ⟨h11, h⟩ := gNil_elim h
  refine ⟨_, ?_, h⟩
  subst h3
  subst h4
  subst h5
  subst h6
  subst h7
  subst h8
  subst h9
  subst h10
  subst h11
  simp only [keepSt, kp2, List.map, h0, h1, h2]
  rfl
def b2 (rec kx : L2 → Prop) (kr : R → Prop) (x : L2) : Prop :=
  (bif (decide (x.i < (x.m0_1.length : Int))) then (oget (getI x.m0_1 x.i) fun v4 => (bif (decide (v4.sector < 0)) then (kr ⟨false⟩) else (oget (getI x.m0_1 x.i) fun v5 => (bif (decide (v5.sector ≥ (x.m0.length : Int))) then (kr ⟨false⟩) else (oget (getI x.m0_1 x.i) fun v6 => (bif (decide ((v6.data.length : Int) > 64)) then (kr ⟨false⟩) else (rec ⟨(IntKind.i64.wrap (x.i + 1)), x.m0, x.m0_1, x.m0_2, x.m0_3⟩))))))) else (kx ⟨x.i, x.m0, x.m0_1, x.m0_2, x.m0_3⟩))
def l2 : LSpec := mkLoop 2 kp2 kR p2 c2 cR b2
def lt : Nat → Option LSpec
  | 0 => some l0
  | 2 => some l2
  | _ => none
def F (d : Disk) (K : Bool → Prop) : Prop :=
  (bif (decide ((d.sure.length : Int) < 1)) then (K false) else (bif (decide ((d.sure.length : Int) > 64)) then (K false) else (bif (decide (d.fuse < 0)) then (K false) else (∃ n, loopB b0 n (fun x2 => (∃ n, loopB b2 n (fun x7 => (K true)) (fun r8 => (K r8.t2)) ⟨0, x2.m0, x2.m0_1, x2.m0_2, x2.m0_3⟩)) (fun r3 => (K r3.t2)) ⟨0, d.sure, d.cache, d.fuse, d.dead⟩))))
noncomputable def en : Entry := mkEntry [(.st 1)] (cTy .bool) fun x => F x.1
theorem eq (x : Dens [(.st 1)]) (K : Bool → Prop) : apure E tab lt 4 58 (encA [(.st 1)] x) (ansK ((cTy .bool)) K) = F x.1 K := by kernel_rfl
theorem l0_ok : LSound E tab (afun E tab 4) 70 lt 0 ((loopsIn E.P 58).getD 0 (0, .skip)).2 l0 := mkLoop_sound (by decide) (by decide) p0_ok (fun R Kx Kr x => by kernel_rfl)
theorem l2_ok : LSound E tab (afun E tab 4) 70 lt 2 ((loopsIn E.P 58).getD 1 (0, .skip)).2 l2 := mkLoop_sound (by decide) (by decide) p2_ok (fun R Kx Kr x => by kernel_rfl)
theorem loops : LoopsOk E tab lt 4 58 := loops_of (nt := 70) (ids := [0, 2]) (by kernel_rfl) (by kernel_rfl) (by
  intro k i hk l hl
  match k, hk with
  | 0, hk => cases hk; cases hl; exact l0_ok
  | 1, hk => cases hk; cases hl; exact l2_ok
  | _ + 2, hk => exact absurd hk (by simp))
theorem det (d : Disk) : Det (F d) := by
  unfold F
  repeat' first | with_reducible exact det_ret _ | with_reducible exact det_false | with_reducible refine det_cond _ ?_ ?_ | with_reducible refine det_oget _ (fun _ => ?_) | with_reducible refine det_loop (fun _ => ?_) (fun _ => ?_) (fun _ => ?_) _ | unfold b0 | unfold b2
theorem edet (args : List AV) : Det (en args) := mkEntry_det (ts := [(.st 1)]) (cod := (cTy .bool)) (F := fun x => F x.1) (fun x => det x.1) args
theorem ground : Ground E tab := ⟨num, mixed, (tab_nil _), clone, dtab_nil⟩
theorem has : ((E.P.funcs[58]?).bind (·.body)).isSome = true := by kernel_rfl
theorem sound : EntrySound E.P 58 en := mkSound (ts := [(.st 1)]) (cod := (cTy .bool)) (F := fun x => F x.1) ground loops has eq
end ref04_Right
namespace law04_DiskNews
noncomputable def tab : Tab := [(52, law04_alive.en), (53, ref04_Great.en), (54, disk_New.en), (55, ref04_New.en), (56, ref04_Same.en), (57, disk_Right.en), (58, ref04_Right.en), (59, disk_Same.en)]
def F (n_0 : Int) (a : Disk) (b_2 : Disk) (K : Bool → Prop) : Prop :=
  (law04_alive.F fun r1 => (bif (!r1) then (K false) else (ref04_Great.F a fun r2 => (bif r2 then (K true) else (ref04_Great.F b_2 fun r3 => (bif r3 then (K true) else (disk_New.F n_0 fun r4 => (ref04_New.F n_0 fun r5 => (ref04_Same.F r4.1 r5.1 fun r6 => (bif r6 then (bif (r4.2 == r5.2) then (disk_Right.F a fun r7 => (ref04_Right.F a fun r8 => (bif (r7 == r8) then (disk_Same.F a b_2 fun r9 => (ref04_Same.F a b_2 fun r10 => (K (r9 == r10)))) else (K false)))) else (K false)) else (K false)))))))))))
noncomputable def en : Entry := mkEntry [(.int .i64), (.st 1), (.st 1)] (cTy .bool) fun x => F x.1 x.2.1 x.2.2.1
noncomputable def tabV (f0 : (Bool → Prop) → Prop) (f1 : Disk → (Bool → Prop) → Prop) (f2 : Int → ((Disk × Int) → Prop) → Prop) (f3 : Int → ((Disk × Int) → Prop) → Prop) (f4 : Disk → Disk → (Bool → Prop) → Prop) (f5 : Disk → (Bool → Prop) → Prop) (f6 : Disk → (Bool → Prop) → Prop) (f7 : Disk → Disk → (Bool → Prop) → Prop) : Tab := [(52, mkEntry [] (cTy .bool) fun _ => f0), (53, mkEntry [(.st 1)] (cTy .bool) fun x => f1 x.1), (54, mkEntry [(.int .i64)] (cTwo (.st 1) (.int .i64)) fun x => f2 x.1), (55, mkEntry [(.int .i64)] (cTwo (.st 1) (.int .i64)) fun x => f3 x.1), (56, mkEntry [(.st 1), (.st 1)] (cTy .bool) fun x => f4 x.1 x.2.1), (57, mkEntry [(.st 1)] (cTy .bool) fun x => f5 x.1), (58, mkEntry [(.st 1)] (cTy .bool) fun x => f6 x.1), (59, mkEntry [(.st 1), (.st 1)] (cTy .bool) fun x => f7 x.1 x.2.1)]
theorem tabE : tab = tabV law04_alive.F ref04_Great.F disk_New.F ref04_New.F ref04_Same.F disk_Right.F ref04_Right.F disk_Same.F := by kernel_rfl
theorem eqv (f0 : (Bool → Prop) → Prop) (f1 : Disk → (Bool → Prop) → Prop) (f2 : Int → ((Disk × Int) → Prop) → Prop) (f3 : Int → ((Disk × Int) → Prop) → Prop) (f4 : Disk → Disk → (Bool → Prop) → Prop) (f5 : Disk → (Bool → Prop) → Prop) (f6 : Disk → (Bool → Prop) → Prop) (f7 : Disk → Disk → (Bool → Prop) → Prop) (n_0 : Int) (a : Disk) (b_2 : Disk) (K : Bool → Prop) : apure E (tabV f0 f1 f2 f3 f4 f5 f6 f7) (fun _ => none) 4 12 [enc (.int .i64) n_0, enc (.st 1) a, enc (.st 1) b_2] (ansK ((cTy .bool)) K) =
  (f0 fun r1 => (bif (!r1) then (K false) else (f1 a fun r2 => (bif r2 then (K true) else (f1 b_2 fun r3 => (bif r3 then (K true) else (f2 n_0 fun r4 => (f3 n_0 fun r5 => (f4 r4.1 r5.1 fun r6 => (bif r6 then (bif (r4.2 == r5.2) then (f5 a fun r7 => (f6 a fun r8 => (bif (r7 == r8) then (f7 a b_2 fun r9 => (f4 a b_2 fun r10 => (K (r9 == r10)))) else (K false)))) else (K false)) else (K false))))))))))) := by kernel_rfl
theorem eq (x : Dens [(.int .i64), (.st 1), (.st 1)]) (K : Bool → Prop) : apure E tab (fun _ => none) 4 12 (encA [(.int .i64), (.st 1), (.st 1)] x) (ansK ((cTy .bool)) K) = F x.1 x.2.1 x.2.2.1 K := eqv law04_alive.F ref04_Great.F disk_New.F ref04_New.F ref04_Same.F disk_Right.F ref04_Right.F disk_Same.F x.1 x.2.1 x.2.2.1 K
theorem loops : LoopsOk E tab (fun _ => none) 4 12 := loops_none _ _ _ _
theorem det (n_0 : Int) (a : Disk) (b_2 : Disk) : Det (F n_0 a b_2) := by
  unfold F
  repeat' first | with_reducible exact det_ret _ | with_reducible exact det_false | with_reducible refine det_cond _ ?_ ?_ | with_reducible refine det_oget _ (fun _ => ?_) | with_reducible exact law04_alive.det | with_reducible refine det_bind (law04_alive.det) (fun _ => ?_) | with_reducible exact ref04_Great.det _ | with_reducible refine det_bind (ref04_Great.det _) (fun _ => ?_) | with_reducible exact disk_New.det _ | with_reducible refine det_bind (disk_New.det _) (fun _ => ?_) | with_reducible exact ref04_New.det _ | with_reducible refine det_bind (ref04_New.det _) (fun _ => ?_) | with_reducible exact ref04_Same.det _ _ | with_reducible refine det_bind (ref04_Same.det _ _) (fun _ => ?_) | with_reducible exact disk_Right.det _ | with_reducible refine det_bind (disk_Right.det _) (fun _ => ?_) | with_reducible exact ref04_Right.det _ | with_reducible refine det_bind (ref04_Right.det _) (fun _ => ?_) | with_reducible exact disk_Same.det _ _ | with_reducible refine det_bind (disk_Same.det _ _) (fun _ => ?_)
theorem edet (args : List AV) : Det (en args) := mkEntry_det (ts := [(.int .i64), (.st 1), (.st 1)]) (cod := (cTy .bool)) (F := fun x => F x.1 x.2.1 x.2.2.1) (fun x => det x.1 x.2.1 x.2.2.1) args
theorem ground : Ground E tab := ⟨num, mixed, (tab_cons law04_alive.sound (tab_cons ref04_Great.sound (tab_cons disk_New.sound (tab_cons ref04_New.sound (tab_cons ref04_Same.sound (tab_cons disk_Right.sound (tab_cons ref04_Right.sound (tab_cons disk_Same.sound (tab_nil _))))))))), clone, (dtab_cons law04_alive.edet (dtab_cons ref04_Great.edet (dtab_cons disk_New.edet (dtab_cons ref04_New.edet (dtab_cons ref04_Same.edet (dtab_cons disk_Right.edet (dtab_cons ref04_Right.edet (dtab_cons disk_Same.edet dtab_nil))))))))⟩
theorem has : ((E.P.funcs[12]?).bind (·.body)).isSome = true := by kernel_rfl
theorem sound : EntrySound E.P 12 en := mkSound (ts := [(.int .i64), (.st 1), (.st 1)]) (cod := (cTy .bool)) (F := fun x => F x.1 x.2.1 x.2.2.1) ground loops has eq
end law04_DiskNews
namespace ref04_Arm
noncomputable def tab : Tab := []
def F (d : Disk) (n_1 : Int) (K : Disk → Prop) : Prop :=
  (K (⟨d.sure, d.cache, (maxI2 n_1 0), d.dead⟩ : Disk))
noncomputable def en : Entry := mkEntry [(.st 1), (.int .i64)] (cTy (.st 1)) fun x => F x.1 x.2.1
theorem eq (x : Dens [(.st 1), (.int .i64)]) (K : Disk → Prop) : apure E tab (fun _ => none) 4 67 (encA [(.st 1), (.int .i64)] x) (ansK ((cTy (.st 1))) K) = F x.1 x.2.1 K := by kernel_rfl
theorem loops : LoopsOk E tab (fun _ => none) 4 67 := loops_none _ _ _ _
theorem det (d : Disk) (n_1 : Int) : Det (F d n_1) := by
  unfold F
  repeat' first | with_reducible exact det_ret _ | with_reducible exact det_false | with_reducible refine det_cond _ ?_ ?_ | with_reducible refine det_oget _ (fun _ => ?_)
theorem edet (args : List AV) : Det (en args) := mkEntry_det (ts := [(.st 1), (.int .i64)]) (cod := (cTy (.st 1))) (F := fun x => F x.1 x.2.1) (fun x => det x.1 x.2.1) args
theorem ground : Ground E tab := ⟨num, mixed, (tab_nil _), clone, dtab_nil⟩
theorem has : ((E.P.funcs[67]?).bind (·.body)).isSome = true := by kernel_rfl
theorem sound : EntrySound E.P 67 en := mkSound (ts := [(.st 1), (.int .i64)]) (cod := (cTy (.st 1))) (F := fun x => F x.1 x.2.1) ground loops has eq
end ref04_Arm
namespace ref04_Crash
noncomputable def tab : Tab := []
def F (d : Disk) (K : Disk → Prop) : Prop :=
  (K (⟨d.sure, d.cache, 0, true⟩ : Disk))
noncomputable def en : Entry := mkEntry [(.st 1)] (cTy (.st 1)) fun x => F x.1
theorem eq (x : Dens [(.st 1)]) (K : Disk → Prop) : apure E tab (fun _ => none) 4 69 (encA [(.st 1)] x) (ansK ((cTy (.st 1))) K) = F x.1 K := by kernel_rfl
theorem loops : LoopsOk E tab (fun _ => none) 4 69 := loops_none _ _ _ _
theorem det (d : Disk) : Det (F d) := by
  unfold F
  repeat' first | with_reducible exact det_ret _ | with_reducible exact det_false | with_reducible refine det_cond _ ?_ ?_ | with_reducible refine det_oget _ (fun _ => ?_)
theorem edet (args : List AV) : Det (en args) := mkEntry_det (ts := [(.st 1)]) (cod := (cTy (.st 1))) (F := fun x => F x.1) (fun x => det x.1) args
theorem ground : Ground E tab := ⟨num, mixed, (tab_nil _), clone, dtab_nil⟩
theorem has : ((E.P.funcs[69]?).bind (·.body)).isSome = true := by kernel_rfl
theorem sound : EntrySound E.P 69 en := mkSound (ts := [(.st 1)]) (cod := (cTy (.st 1))) (F := fun x => F x.1) ground loops has eq
end ref04_Crash
namespace ref04_Revive
noncomputable def tab : Tab := []
structure R where
def cR (_ : R) : St := { fr := fun _ => .top, hs := hs0 }
def kR : Keep := { ks := [], bs := [], hn := 0 }
structure L0 where
  keeps : (List Bool)
  sure : (List Str)
  i : Int
  m0 : (List Str)
  m0_1 : (List Write)
  m0_2 : Int
  m0_3 : Bool
  m1 : Int
  m1_1 : Bool
def c0 (x : L0) : St := { fr := lookL .top [(1, (.sl .any .bool x.keeps)), (2, (.ptr 0 0)), (4, (.ptr 1 0)), (5, (.slr 2)), (6, (.int .i64 x.i))], hs := { hp := lookL .dead [(2, (.row false .str x.sure)), (0, (.cells [(.sl .any .str x.m0), (.sl .any (.st 0) x.m0_1), (.int .i64 x.m0_2), (.bool x.m0_3)])), (1, (.cells [.snil, .snil, (.int .i64 x.m1), (.bool x.m1_1)]))], hn := 3 } }
def kp0 : Keep := { ks := [(1, none), (2, none), (4, none), (5, some 2), (6, none)], bs := [0, 1], hn := 3 }
def p0 (st : St) (K : L0 → Prop) : Prop := gHomes kp0 st <| gSl .any .bool (st.fr 1) fun a1 => gPtr 0 0 (st.fr 2) <| gPtr 1 0 (st.fr 4) <| gSlr (st.fr 5) fun c2 => gRow false .str (st.hs.hp c2) fun a3 => gInt .i64 (st.fr 6) fun a4 => gCells (st.hs.hp 0) fun c5 => gCons c5 fun c6 c7 => gSl .any .str c6 fun a8 => gCons c7 fun c9 c10 => gSl .any (.st 0) c9 fun a11 => gCons c10 fun c12 c13 => gInt .i64 c12 fun a14 => gCons c13 fun c15 c16 => gBool c15 fun a17 => gNil c16 <| gCells (st.hs.hp 1) fun c18 => gCons c18 fun c19 c20 => gSnil c19 <| gCons c20 fun c21 c22 => gSnil c21 <| gCons c22 fun c23 c24 => gInt .i64 c23 fun a25 => gCons c24 fun c26 c27 => gBool c26 fun a28 => gNil c27 <| K ⟨a1, a3, a4, a8, a11, a14, a17, a25, a28⟩
theorem p0_ok (st : St) (K : L0 → Prop) (h : p0 st K) : ∃ x, keepSt kp0 st = c0 x ∧ K x := by
  obtain ⟨h0, h⟩ := gHomes_elim h
  obtain ⟨a1, h1, h⟩ := gSl_elim h
  obtain ⟨h2, h⟩ := gPtr_elim h
  obtain ⟨h3, h⟩ := gPtr_elim h
  obtain ⟨c2, h4, h⟩ := gSlr_elim h
  obtain ⟨a3, h5, h⟩ := gRow_elim h
  obtain ⟨a4, h6, h⟩ := gInt_elim h
  obtain ⟨c5, h7, h⟩ := gCells_elim h
  obtain ⟨c6, c7, h8, h⟩ := gCons_elim h
  obtain ⟨a8, h9, h⟩ := gSl_elim h
  obtain ⟨c9, c10, h10, h⟩ := gCons_elim h
  obtain ⟨a11, h11, h⟩ := gSl_elim h
  obtain ⟨c12, c13, h12, h⟩ := gCons_elim h
  obtain ⟨a14, h13, h⟩ := gInt_elim h
  obtain ⟨c15, c16, h14, h⟩ := gCons_elim h
  obtain ⟨a17, h15, h⟩ := gBool_elim h
  obtain ⟨h16, h⟩ := gNil_elim h
  obtain ⟨c18, h17, h⟩ := gCells_elim h
  obtain ⟨c19, c20, h18, h⟩ := gCons_elim h
  obtain ⟨h19, h⟩ := gSnil_elim h
  obtain ⟨c21, c22, h20, h⟩ := gCons_elim h
  obtain ⟨h21, h⟩ := gSnil_elim h
  obtain ⟨c23, c24, h22, h⟩ := gCons_elim h
  obtain ⟨a25, h23, h⟩ := gInt_elim h
  obtain ⟨c26, c27, h24, h⟩ := gCons_elim h
  obtain ⟨a28, h25, h⟩ := gBool_elim h
  obtain ⟨h26, h⟩ := gNil_elim h
  refine ⟨_, ?_, h⟩
  subst h8
  subst h9
  subst h10
  subst h11
  subst h12
  subst h13
  subst h14
  subst h15
  subst h16
  subst h18
  subst h19
  subst h20
  subst h21
  subst h22
  subst h23
  subst h24
  subst h25
  subst h26
  simp only [keepSt, h0]
  simp only [kp0, List.map, List.filterMap, homeOf, h1, h2, h3, h4, h5, h6, h7, h17, hmOf, List.append_nil, cond_true]
  rfl
def b0 (rec kx : L0 → Prop) (kr : R → Prop) (x : L0) : Prop :=
  (bif (decide (x.i < (x.m0_1.length : Int))) then (bif (decide (x.i < (x.keeps.length : Int))) then (oget (getI x.keeps x.i) fun v1 => (bif v1 then (oget (getI x.m0_1 x.i) fun v2 => (oget (getI x.m0_1 x.i) fun v3 => (bif (decide (0 ≤ v2.sector) && decide (v2.sector < (x.sure.length : Int))) then (rec ⟨x.keeps, (x.sure.set (Int.toNat v2.sector) v3.data), (IntKind.i64.wrap (x.i + 1)), x.m0, x.m0_1, x.m0_2, x.m0_3, x.m1, x.m1_1⟩) else False))) else (rec ⟨x.keeps, x.sure, (IntKind.i64.wrap (x.i + 1)), x.m0, x.m0_1, x.m0_2, x.m0_3, x.m1, x.m1_1⟩))) else (kx ⟨x.keeps, x.sure, x.i, x.m0, x.m0_1, x.m0_2, x.m0_3, x.m1, x.m1_1⟩)) else (kx ⟨x.keeps, x.sure, x.i, x.m0, x.m0_1, x.m0_2, x.m0_3, x.m1, x.m1_1⟩))
def l0 : LSpec := mkLoop 0 kp0 kR p0 c0 cR b0
def lt : Nat → Option LSpec
  | 0 => some l0
  | _ => none
def F (d : Disk) (keeps : (List Bool)) (K : Disk → Prop) : Prop :=
  (bif (decide (d.sure.length * 16 ≤ room)) then (∃ n, loopB b0 n (fun x4 => (K (⟨x4.sure, ([] : List Write), 0, false⟩ : Disk))) (fun _ => False) ⟨keeps, d.sure, 0, d.sure, d.cache, d.fuse, d.dead, 0, false⟩) else False)
noncomputable def en : Entry := mkEntry [(.st 1), (.slice .bool)] (cTy (.st 1)) fun x => F x.1 x.2.1
theorem eq (x : Dens [(.st 1), (.slice .bool)]) (K : Disk → Prop) : apure E tab lt 4 71 (encA [(.st 1), (.slice .bool)] x) (ansK ((cTy (.st 1))) K) = F x.1 x.2.1 K := by kernel_rfl
theorem l0_ok : LSound E tab (afun E tab 4) 44 lt 0 ((loopsIn E.P 71).getD 0 (0, .skip)).2 l0 := mkLoop_sound (by decide) (by decide) p0_ok (fun R Kx Kr x => by kernel_rfl)
theorem loops : LoopsOk E tab lt 4 71 := loops_of (nt := 44) (ids := [0]) (by kernel_rfl) (by kernel_rfl) (by
  intro k i hk l hl
  match k, hk with
  | 0, hk => cases hk; cases hl; exact l0_ok
  | _ + 1, hk => exact absurd hk (by simp))
theorem det (d : Disk) (keeps : (List Bool)) : Det (F d keeps) := by
  unfold F
  repeat' first | with_reducible exact det_ret _ | with_reducible exact det_false | with_reducible refine det_cond _ ?_ ?_ | with_reducible refine det_oget _ (fun _ => ?_) | with_reducible refine det_loop (fun _ => ?_) (fun _ => ?_) (fun _ => ?_) _ | unfold b0
theorem edet (args : List AV) : Det (en args) := mkEntry_det (ts := [(.st 1), (.slice .bool)]) (cod := (cTy (.st 1))) (F := fun x => F x.1 x.2.1) (fun x => det x.1 x.2.1) args
theorem ground : Ground E tab := ⟨num, mixed, (tab_nil _), clone, dtab_nil⟩
theorem has : ((E.P.funcs[71]?).bind (·.body)).isSome = true := by kernel_rfl
theorem sound : EntrySound E.P 71 en := mkSound (ts := [(.st 1), (.slice .bool)]) (cod := (cTy (.st 1))) (F := fun x => F x.1 x.2.1) ground loops has eq
end ref04_Revive
namespace law04_DiskRevives
noncomputable def tab : Tab := [(52, law04_alive.en), (53, ref04_Great.en), (58, ref04_Right.en), (66, disk_Arm.en), (67, ref04_Arm.en), (56, ref04_Same.en), (68, disk_Crash.en), (69, ref04_Crash.en), (70, disk_Revive.en), (71, ref04_Revive.en)]
def F (d : Disk) (n_1 : Int) (keeps : (List Bool)) (K : Bool → Prop) : Prop :=
  (law04_alive.F fun r1 => (bif (!r1) then (K false) else (ref04_Great.F d fun r2 => (bif r2 then (K true) else (bif (decide ((keeps.length : Int) > 200)) then (K true) else (ref04_Right.F d fun r3 => (bif (!r3) then (K true) else (disk_Arm.F d n_1 fun r4 => (ref04_Arm.F d n_1 fun r5 => (ref04_Same.F r4 r5 fun r6 => (bif r6 then (disk_Crash.F d fun r7 => (ref04_Crash.F d fun r8 => (ref04_Same.F r7 r8 fun r9 => (bif r9 then (disk_Revive.F d keeps fun r10 => (ref04_Revive.F d keeps fun r11 => (ref04_Same.F r10 r11 fun r12 => (K r12)))) else (K false))))) else (K false))))))))))))
noncomputable def en : Entry := mkEntry [(.st 1), (.int .i64), (.slice .bool)] (cTy .bool) fun x => F x.1 x.2.1 x.2.2.1
noncomputable def tabV (f0 : (Bool → Prop) → Prop) (f1 : Disk → (Bool → Prop) → Prop) (f2 : Disk → (Bool → Prop) → Prop) (f3 : Disk → Int → (Disk → Prop) → Prop) (f4 : Disk → Int → (Disk → Prop) → Prop) (f5 : Disk → Disk → (Bool → Prop) → Prop) (f6 : Disk → (Disk → Prop) → Prop) (f7 : Disk → (Disk → Prop) → Prop) (f8 : Disk → (List Bool) → (Disk → Prop) → Prop) (f9 : Disk → (List Bool) → (Disk → Prop) → Prop) : Tab := [(52, mkEntry [] (cTy .bool) fun _ => f0), (53, mkEntry [(.st 1)] (cTy .bool) fun x => f1 x.1), (58, mkEntry [(.st 1)] (cTy .bool) fun x => f2 x.1), (66, mkEntry [(.st 1), (.int .i64)] (cTy (.st 1)) fun x => f3 x.1 x.2.1), (67, mkEntry [(.st 1), (.int .i64)] (cTy (.st 1)) fun x => f4 x.1 x.2.1), (56, mkEntry [(.st 1), (.st 1)] (cTy .bool) fun x => f5 x.1 x.2.1), (68, mkEntry [(.st 1)] (cTy (.st 1)) fun x => f6 x.1), (69, mkEntry [(.st 1)] (cTy (.st 1)) fun x => f7 x.1), (70, mkEntry [(.st 1), (.slice .bool)] (cTy (.st 1)) fun x => f8 x.1 x.2.1), (71, mkEntry [(.st 1), (.slice .bool)] (cTy (.st 1)) fun x => f9 x.1 x.2.1)]
theorem tabE : tab = tabV law04_alive.F ref04_Great.F ref04_Right.F disk_Arm.F ref04_Arm.F ref04_Same.F disk_Crash.F ref04_Crash.F disk_Revive.F ref04_Revive.F := by kernel_rfl
theorem eqv (f0 : (Bool → Prop) → Prop) (f1 : Disk → (Bool → Prop) → Prop) (f2 : Disk → (Bool → Prop) → Prop) (f3 : Disk → Int → (Disk → Prop) → Prop) (f4 : Disk → Int → (Disk → Prop) → Prop) (f5 : Disk → Disk → (Bool → Prop) → Prop) (f6 : Disk → (Disk → Prop) → Prop) (f7 : Disk → (Disk → Prop) → Prop) (f8 : Disk → (List Bool) → (Disk → Prop) → Prop) (f9 : Disk → (List Bool) → (Disk → Prop) → Prop) (d : Disk) (n_1 : Int) (keeps : (List Bool)) (K : Bool → Prop) : apure E (tabV f0 f1 f2 f3 f4 f5 f6 f7 f8 f9) (fun _ => none) 4 14 [enc (.st 1) d, enc (.int .i64) n_1, enc (.slice .bool) keeps] (ansK ((cTy .bool)) K) =
  (f0 fun r1 => (bif (!r1) then (K false) else (f1 d fun r2 => (bif r2 then (K true) else (bif (decide ((keeps.length : Int) > 200)) then (K true) else (f2 d fun r3 => (bif (!r3) then (K true) else (f3 d n_1 fun r4 => (f4 d n_1 fun r5 => (f5 r4 r5 fun r6 => (bif r6 then (f6 d fun r7 => (f7 d fun r8 => (f5 r7 r8 fun r9 => (bif r9 then (f8 d keeps fun r10 => (f9 d keeps fun r11 => (f5 r10 r11 fun r12 => (K r12)))) else (K false))))) else (K false)))))))))))) := by kernel_rfl
theorem eq (x : Dens [(.st 1), (.int .i64), (.slice .bool)]) (K : Bool → Prop) : apure E tab (fun _ => none) 4 14 (encA [(.st 1), (.int .i64), (.slice .bool)] x) (ansK ((cTy .bool)) K) = F x.1 x.2.1 x.2.2.1 K := eqv law04_alive.F ref04_Great.F ref04_Right.F disk_Arm.F ref04_Arm.F ref04_Same.F disk_Crash.F ref04_Crash.F disk_Revive.F ref04_Revive.F x.1 x.2.1 x.2.2.1 K
theorem loops : LoopsOk E tab (fun _ => none) 4 14 := loops_none _ _ _ _
theorem det (d : Disk) (n_1 : Int) (keeps : (List Bool)) : Det (F d n_1 keeps) := by
  unfold F
  repeat' first | with_reducible exact det_ret _ | with_reducible exact det_false | with_reducible refine det_cond _ ?_ ?_ | with_reducible refine det_oget _ (fun _ => ?_) | with_reducible exact law04_alive.det | with_reducible refine det_bind (law04_alive.det) (fun _ => ?_) | with_reducible exact ref04_Great.det _ | with_reducible refine det_bind (ref04_Great.det _) (fun _ => ?_) | with_reducible exact ref04_Right.det _ | with_reducible refine det_bind (ref04_Right.det _) (fun _ => ?_) | with_reducible exact disk_Arm.det _ _ | with_reducible refine det_bind (disk_Arm.det _ _) (fun _ => ?_) | with_reducible exact ref04_Arm.det _ _ | with_reducible refine det_bind (ref04_Arm.det _ _) (fun _ => ?_) | with_reducible exact ref04_Same.det _ _ | with_reducible refine det_bind (ref04_Same.det _ _) (fun _ => ?_) | with_reducible exact disk_Crash.det _ | with_reducible refine det_bind (disk_Crash.det _) (fun _ => ?_) | with_reducible exact ref04_Crash.det _ | with_reducible refine det_bind (ref04_Crash.det _) (fun _ => ?_) | with_reducible exact disk_Revive.det _ _ | with_reducible refine det_bind (disk_Revive.det _ _) (fun _ => ?_) | with_reducible exact ref04_Revive.det _ _ | with_reducible refine det_bind (ref04_Revive.det _ _) (fun _ => ?_)
theorem edet (args : List AV) : Det (en args) := mkEntry_det (ts := [(.st 1), (.int .i64), (.slice .bool)]) (cod := (cTy .bool)) (F := fun x => F x.1 x.2.1 x.2.2.1) (fun x => det x.1 x.2.1 x.2.2.1) args
theorem ground : Ground E tab := ⟨num, mixed, (tab_cons law04_alive.sound (tab_cons ref04_Great.sound (tab_cons ref04_Right.sound (tab_cons disk_Arm.sound (tab_cons ref04_Arm.sound (tab_cons ref04_Same.sound (tab_cons disk_Crash.sound (tab_cons ref04_Crash.sound (tab_cons disk_Revive.sound (tab_cons ref04_Revive.sound (tab_nil _))))))))))), clone, (dtab_cons law04_alive.edet (dtab_cons ref04_Great.edet (dtab_cons ref04_Right.edet (dtab_cons disk_Arm.edet (dtab_cons ref04_Arm.edet (dtab_cons ref04_Same.edet (dtab_cons disk_Crash.edet (dtab_cons ref04_Crash.edet (dtab_cons disk_Revive.edet (dtab_cons ref04_Revive.edet dtab_nil))))))))))⟩
theorem has : ((E.P.funcs[14]?).bind (·.body)).isSome = true := by kernel_rfl
theorem sound : EntrySound E.P 14 en := mkSound (ts := [(.st 1), (.int .i64), (.slice .bool)]) (cod := (cTy .bool)) (F := fun x => F x.1 x.2.1 x.2.2.1) ground loops has eq
end law04_DiskRevives
namespace law04_DiskAtomic
noncomputable def tab : Tab := [(52, law04_alive.en), (53, ref04_Great.en), (58, ref04_Right.en), (68, disk_Crash.en), (70, disk_Revive.en), (66, disk_Arm.en), (64, disk_Flush.en), (62, disk_Read.en)]
structure R where
  t4 : Bool
def cR (x : R) : St := { fr := lookL .top [(4, (.bool x.t4))], hs := { hp := lookL .dead [], hn := 2 } }
def kR : Keep := { ks := [(4, none)], bs := [], hn := 2 }
structure L2 where
  keeps : (List Bool)
  i : Int
  ok : Bool
  k : Int
  m0 : (List Str)
  m0_1 : (List Write)
  m0_2 : Int
  m0_3 : Bool
  m1 : (List Str)
  m1_1 : (List Write)
  m1_2 : Int
  m1_3 : Bool
def c2 (x : L2) : St := { fr := lookL .top [(1, (.sl .any .bool x.keeps)), (2, (.ptr 0 0)), (5, (.ptr 1 0)), (6, (.int .i64 x.i)), (7, (.bool x.ok)), (8, (.int .i64 x.k))], hs := { hp := lookL .dead [(0, (.cells [(.sl .any .str x.m0), (.sl .any (.st 0) x.m0_1), (.int .i64 x.m0_2), (.bool x.m0_3)])), (1, (.cells [(.sl .any .str x.m1), (.sl .any (.st 0) x.m1_1), (.int .i64 x.m1_2), (.bool x.m1_3)]))], hn := 2 } }
def kp2 : Keep := { ks := [(1, none), (2, none), (5, none), (6, none), (7, none), (8, none)], bs := [0, 1], hn := 2 }
def p2 (st : St) (K : L2 → Prop) : Prop := gSl .any .bool (st.fr 1) fun a1 => gPtr 0 0 (st.fr 2) <| gPtr 1 0 (st.fr 5) <| gInt .i64 (st.fr 6) fun a2 => gBool (st.fr 7) fun a3 => gInt .i64 (st.fr 8) fun a4 => gCells (st.hs.hp 0) fun c5 => gCons c5 fun c6 c7 => gSl .any .str c6 fun a8 => gCons c7 fun c9 c10 => gSl .any (.st 0) c9 fun a11 => gCons c10 fun c12 c13 => gInt .i64 c12 fun a14 => gCons c13 fun c15 c16 => gBool c15 fun a17 => gNil c16 <| gCells (st.hs.hp 1) fun c18 => gCons c18 fun c19 c20 => gSl .any .str c19 fun a21 => gCons c20 fun c22 c23 => gSl .any (.st 0) c22 fun a24 => gCons c23 fun c25 c26 => gInt .i64 c25 fun a27 => gCons c26 fun c28 c29 => gBool c28 fun a30 => gNil c29 <| K ⟨a1, a2, a3, a4, a8, a11, a14, a17, a21, a24, a27, a30⟩
theorem p2_ok (st : St) (K : L2 → Prop) (h : p2 st K) : ∃ x, keepSt kp2 st = c2 x ∧ K x := by
  obtain ⟨a1, h0, h⟩ := gSl_elim h
  obtain ⟨h1, h⟩ := gPtr_elim h
  obtain ⟨h2, h⟩ := gPtr_elim h
  obtain ⟨a2, h3, h⟩ := gInt_elim h
  obtain ⟨a3, h4, h⟩ := gBool_elim h
  obtain ⟨a4, h5, h⟩ := gInt_elim h
  obtain ⟨c5, h6, h⟩ := gCells_elim h
  obtain ⟨c6, c7, h7, h⟩ := gCons_elim h
  obtain ⟨a8, h8, h⟩ := gSl_elim h
  obtain ⟨c9, c10, h9, h⟩ := gCons_elim h
  obtain ⟨a11, h10, h⟩ := gSl_elim h
  obtain ⟨c12, c13, h11, h⟩ := gCons_elim h
  obtain ⟨a14, h12, h⟩ := gInt_elim h
  obtain ⟨c15, c16, h13, h⟩ := gCons_elim h
  obtain ⟨a17, h14, h⟩ := gBool_elim h
  obtain ⟨h15, h⟩ := gNil_elim h
  obtain ⟨c18, h16, h⟩ := gCells_elim h
  obtain ⟨c19, c20, h17, h⟩ := gCons_elim h
  obtain ⟨a21, h18, h⟩ := gSl_elim h
  obtain ⟨c22, c23, h19, h⟩ := gCons_elim h
  obtain ⟨a24, h20, h⟩ := gSl_elim h
  obtain ⟨c25, c26, h21, h⟩ := gCons_elim h
  obtain ⟨a27, h22, h⟩ := gInt_elim h
  obtain ⟨c28, c29, h23, h⟩ := gCons_elim h
  obtain ⟨a30, h24, h⟩ := gBool_elim h
  obtain ⟨h25, h⟩ := gNil_elim h
  refine ⟨_, ?_, h⟩
  subst h7
  subst h8
  subst h9
  subst h10
  subst h11
  subst h12
  subst h13
  subst h14
  subst h15
  subst h17
  subst h18
  subst h19
  subst h20
  subst h21
  subst h22
  subst h23
  subst h24
  subst h25
  simp only [keepSt, kp2, List.map, h0, h1, h2, h3, h4, h5, h6, h16]
  rfl
def b2 (rec kx : L2 → Prop) (kr : R → Prop) (x : L2) : Prop :=
  (bif (decide (x.k < (x.m0_1.length : Int))) then (bif x.ok then (rec ⟨x.keeps, x.i, true, (IntKind.i64.wrap (x.k + 1)), x.m0, x.m0_1, x.m0_2, x.m0_3, x.m1, x.m1_1, x.m1_2, x.m1_3⟩) else (oget (getI x.m0_1 x.k) fun v9 => (bif (v9.sector == x.i) then (oget (getI x.m0_1 x.k) fun v10 => (oget (getI x.m1 x.i) fun v11 => (rec ⟨x.keeps, x.i, (v10.data == v11), (IntKind.i64.wrap (x.k + 1)), x.m0, x.m0_1, x.m0_2, x.m0_3, x.m1, x.m1_1, x.m1_2, x.m1_3⟩))) else (rec ⟨x.keeps, x.i, false, (IntKind.i64.wrap (x.k + 1)), x.m0, x.m0_1, x.m0_2, x.m0_3, x.m1, x.m1_1, x.m1_2, x.m1_3⟩)))) else (kx ⟨x.keeps, x.i, x.ok, x.k, x.m0, x.m0_1, x.m0_2, x.m0_3, x.m1, x.m1_1, x.m1_2, x.m1_3⟩))
def l2 : LSpec := mkLoop 2 kp2 kR p2 c2 cR b2
structure L0 where
  keeps : (List Bool)
  i : Int
  m0 : (List Str)
  m0_1 : (List Write)
  m0_2 : Int
  m0_3 : Bool
  m1 : (List Str)
  m1_1 : (List Write)
  m1_2 : Int
  m1_3 : Bool
def c0 (x : L0) : St := { fr := lookL .top [(1, (.sl .any .bool x.keeps)), (2, (.ptr 0 0)), (5, (.ptr 1 0)), (6, (.int .i64 x.i))], hs := { hp := lookL .dead [(0, (.cells [(.sl .any .str x.m0), (.sl .any (.st 0) x.m0_1), (.int .i64 x.m0_2), (.bool x.m0_3)])), (1, (.cells [(.sl .any .str x.m1), (.sl .any (.st 0) x.m1_1), (.int .i64 x.m1_2), (.bool x.m1_3)]))], hn := 2 } }
def kp0 : Keep := { ks := [(1, none), (2, none), (5, none), (6, none)], bs := [0, 1], hn := 2 }
def p0 (st : St) (K : L0 → Prop) : Prop := gSl .any .bool (st.fr 1) fun a1 => gPtr 0 0 (st.fr 2) <| gPtr 1 0 (st.fr 5) <| gInt .i64 (st.fr 6) fun a2 => gCells (st.hs.hp 0) fun c3 => gCons c3 fun c4 c5 => gSl .any .str c4 fun a6 => gCons c5 fun c7 c8 => gSl .any (.st 0) c7 fun a9 => gCons c8 fun c10 c11 => gInt .i64 c10 fun a12 => gCons c11 fun c13 c14 => gBool c13 fun a15 => gNil c14 <| gCells (st.hs.hp 1) fun c16 => gCons c16 fun c17 c18 => gSl .any .str c17 fun a19 => gCons c18 fun c20 c21 => gSl .any (.st 0) c20 fun a22 => gCons c21 fun c23 c24 => gInt .i64 c23 fun a25 => gCons c24 fun c26 c27 => gBool c26 fun a28 => gNil c27 <| K ⟨a1, a2, a6, a9, a12, a15, a19, a22, a25, a28⟩
theorem p0_ok (st : St) (K : L0 → Prop) (h : p0 st K) : ∃ x, keepSt kp0 st = c0 x ∧ K x := by
  obtain ⟨a1, h0, h⟩ := gSl_elim h
  obtain ⟨h1, h⟩ := gPtr_elim h
  obtain ⟨h2, h⟩ := gPtr_elim h
  obtain ⟨a2, h3, h⟩ := gInt_elim h
  obtain ⟨c3, h4, h⟩ := gCells_elim h
  obtain ⟨c4, c5, h5, h⟩ := gCons_elim h
  obtain ⟨a6, h6, h⟩ := gSl_elim h
  obtain ⟨c7, c8, h7, h⟩ := gCons_elim h
  obtain ⟨a9, h8, h⟩ := gSl_elim h
  obtain ⟨c10, c11, h9, h⟩ := gCons_elim h
  obtain ⟨a12, h10, h⟩ := gInt_elim h
  obtain ⟨c13, c14, h11, h⟩ := gCons_elim h
  obtain ⟨a15, h12, h⟩ := gBool_elim h
  obtain ⟨h13, h⟩ := gNil_elim h
  obtain ⟨c16, h14, h⟩ := gCells_elim h
  obtain ⟨c17, c18, h15, h⟩ := gCons_elim h
  obtain ⟨a19, h16, h⟩ := gSl_elim h
  obtain ⟨c20, c21, h17, h⟩ := gCons_elim h
  obtain ⟨a22, h18, h⟩ := gSl_elim h
  obtain ⟨c23, c24, h19, h⟩ := gCons_elim h
  obtain ⟨a25, h20, h⟩ := gInt_elim h
  obtain ⟨c26, c27, h21, h⟩ := gCons_elim h
  obtain ⟨a28, h22, h⟩ := gBool_elim h
  obtain ⟨h23, h⟩ := gNil_elim h
  refine ⟨_, ?_, h⟩
  subst h5
  subst h6
  subst h7
  subst h8
  subst h9
  subst h10
  subst h11
  subst h12
  subst h13
  subst h15
  subst h16
  subst h17
  subst h18
  subst h19
  subst h20
  subst h21
  subst h22
  subst h23
  simp only [keepSt, kp0, List.map, h0, h1, h2, h3, h4, h14]
  rfl
def b0 (rec kx : L0 → Prop) (kr : R → Prop) (x : L0) : Prop :=
  (bif (decide (x.i < (x.m1.length : Int))) then (oget (getI x.m1 x.i) fun v7 => (oget (getI x.m0 x.i) fun v8 => (∃ n, loopB b2 n (fun x12 => (bif (!x12.ok) then (kr ⟨false⟩) else (rec ⟨x12.keeps, (IntKind.i64.wrap (x12.i + 1)), x12.m0, x12.m0_1, x12.m0_2, x12.m0_3, x12.m1, x12.m1_1, x12.m1_2, x12.m1_3⟩))) (fun r13 => (kr ⟨r13.t4⟩)) ⟨x.keeps, x.i, (v7 == v8), 0, x.m0, x.m0_1, x.m0_2, x.m0_3, x.m1, x.m1_1, x.m1_2, x.m1_3⟩))) else (kx ⟨x.keeps, x.i, x.m0, x.m0_1, x.m0_2, x.m0_3, x.m1, x.m1_1, x.m1_2, x.m1_3⟩))
def l0 : LSpec := mkLoop 0 kp0 kR p0 c0 cR b0
structure L4 where
  e : Int
  i : Int
  m0 : (List Str)
  m0_1 : (List Write)
  m0_2 : Int
  m0_3 : Bool
  m3 : (List Str)
  m3_1 : (List Write)
  m3_2 : Int
  m3_3 : Bool
def c4 (x : L4) : St := { fr := lookL .top [(2, (.ptr 0 0)), (10, (.int .i64 x.e)), (11, (.ptr 3 0)), (12, (.int .i64 x.i))], hs := { hp := lookL .dead [(0, (.cells [(.sl .any .str x.m0), (.sl .any (.st 0) x.m0_1), (.int .i64 x.m0_2), (.bool x.m0_3)])), (3, (.cells [(.sl .any .str x.m3), (.sl .any (.st 0) x.m3_1), (.int .i64 x.m3_2), (.bool x.m3_3)]))], hn := 4 } }
def kp4 : Keep := { ks := [(2, none), (10, none), (11, none), (12, none)], bs := [0, 3], hn := 4 }
def p4 (st : St) (K : L4 → Prop) : Prop := gPtr 0 0 (st.fr 2) <| gInt .i64 (st.fr 10) fun a1 => gPtr 3 0 (st.fr 11) <| gInt .i64 (st.fr 12) fun a2 => gCells (st.hs.hp 0) fun c3 => gCons c3 fun c4 c5 => gSl .any .str c4 fun a6 => gCons c5 fun c7 c8 => gSl .any (.st 0) c7 fun a9 => gCons c8 fun c10 c11 => gInt .i64 c10 fun a12 => gCons c11 fun c13 c14 => gBool c13 fun a15 => gNil c14 <| gCells (st.hs.hp 3) fun c16 => gCons c16 fun c17 c18 => gSl .any .str c17 fun a19 => gCons c18 fun c20 c21 => gSl .any (.st 0) c20 fun a22 => gCons c21 fun c23 c24 => gInt .i64 c23 fun a25 => gCons c24 fun c26 c27 => gBool c26 fun a28 => gNil c27 <| K ⟨a1, a2, a6, a9, a12, a15, a19, a22, a25, a28⟩
theorem p4_ok (st : St) (K : L4 → Prop) (h : p4 st K) : ∃ x, keepSt kp4 st = c4 x ∧ K x := by
  obtain ⟨h0, h⟩ := gPtr_elim h
  obtain ⟨a1, h1, h⟩ := gInt_elim h
  obtain ⟨h2, h⟩ := gPtr_elim h
  obtain ⟨a2, h3, h⟩ := gInt_elim h
  obtain ⟨c3, h4, h⟩ := gCells_elim h
  obtain ⟨c4, c5, h5, h⟩ := gCons_elim h
  obtain ⟨a6, h6, h⟩ := gSl_elim h
  obtain ⟨c7, c8, h7, h⟩ := gCons_elim h
  obtain ⟨a9, h8, h⟩ := gSl_elim h
  obtain ⟨c10, c11, h9, h⟩ := gCons_elim h
  obtain ⟨a12, h10, h⟩ := gInt_elim h
  obtain ⟨c13, c14, h11, h⟩ := gCons_elim h
  obtain ⟨a15, h12, h⟩ := gBool_elim h
  obtain ⟨h13, h⟩ := gNil_elim h
  obtain ⟨c16, h14, h⟩ := gCells_elim h
  obtain ⟨c17, c18, h15, h⟩ := gCons_elim h
  obtain ⟨a19, h16, h⟩ := gSl_elim h
  obtain ⟨c20, c21, h17, h⟩ := gCons_elim h
  obtain ⟨a22, h18, h⟩ := gSl_elim h
  obtain ⟨c23, c24, h19, h⟩ := gCons_elim h
  obtain ⟨a25, h20, h⟩ := gInt_elim h
  obtain ⟨c26, c27, h21, h⟩ := gCons_elim h
  obtain ⟨a28, h22, h⟩ := gBool_elim h
  obtain ⟨h23, h⟩ := gNil_elim h
  refine ⟨_, ?_, h⟩
  subst h5
  subst h6
  subst h7
  subst h8
  subst h9
  subst h10
  subst h11
  subst h12
  subst h13
  subst h15
  subst h16
  subst h17
  subst h18
  subst h19
  subst h20
  subst h21
  subst h22
  subst h23
  simp only [keepSt, kp4, List.map, h0, h1, h2, h3, h4, h14]
  rfl
def b4 (rec kx : L4 → Prop) (kr : R → Prop) (x : L4) : Prop :=
  (bif (decide (x.i < (x.m0.length : Int))) then (bif (x.e == 0) then (disk_Read.F (⟨x.m0, x.m0_1, x.m0_2, x.m0_3⟩ : Disk) x.i fun r20 => (disk_Read.F (⟨x.m3, x.m3_1, x.m3_2, x.m3_3⟩ : Disk) x.i fun r21 => (bif (!(r20.1 == r21.1)) then (kr ⟨false⟩) else (rec ⟨x.e, (IntKind.i64.wrap (x.i + 1)), x.m0, x.m0_1, x.m0_2, x.m0_3, x.m3, x.m3_1, x.m3_2, x.m3_3⟩)))) else (kx ⟨x.e, x.i, x.m0, x.m0_1, x.m0_2, x.m0_3, x.m3, x.m3_1, x.m3_2, x.m3_3⟩)) else (kx ⟨x.e, x.i, x.m0, x.m0_1, x.m0_2, x.m0_3, x.m3, x.m3_1, x.m3_2, x.m3_3⟩))
def l4 : LSpec := mkLoop 4 kp4 kR p4 c4 cR b4
def lt : Nat → Option LSpec
  | 2 => some l2
  | 0 => some l0
  | 4 => some l4
  | _ => none
def F (d : Disk) (keeps : (List Bool)) (K : Bool → Prop) : Prop :=
  (law04_alive.F fun r1 => (bif (!r1) then (K false) else (ref04_Great.F d fun r2 => (bif r2 then (K true) else (bif (decide ((keeps.length : Int) > 200)) then (K true) else (ref04_Right.F d fun r3 => (bif (!r3) then (K true) else (bif d.dead then (K true) else (disk_Crash.F d fun r4 => (disk_Revive.F r4 keeps fun r5 => (ref04_Right.F r5 fun r6 => (bif (!r6) then (K false) else (bif ((r5.sure.length : Int) != (d.sure.length : Int)) then (K false) else (bif (decide ((r5.cache.length : Int) > 0)) then (K false) else (bif r5.dead then (K false) else (∃ n, loopB b0 n (fun x14 => (disk_Arm.F (⟨x14.m0, x14.m0_1, x14.m0_2, x14.m0_3⟩ : Disk) 0 fun r16 => (disk_Flush.F r16 fun r17 => (disk_Crash.F r17.1 fun r18 => (disk_Revive.F r18 x14.keeps fun r19 => (∃ n, loopB b4 n (fun x22 => (K (x22.e == 0))) (fun r23 => (K r23.t4)) ⟨r17.2, 0, x14.m0, x14.m0_1, x14.m0_2, x14.m0_3, r19.sure, r19.cache, r19.fuse, r19.dead⟩)))))) (fun r15 => (K r15.t4)) ⟨keeps, 0, d.sure, d.cache, d.fuse, d.dead, r5.sure, r5.cache, r5.fuse, r5.dead⟩))))))))))))))))
noncomputable def en : Entry := mkEntry [(.st 1), (.slice .bool)] (cTy .bool) fun x => F x.1 x.2.1
noncomputable def tabV (f0 : (Bool → Prop) → Prop) (f1 : Disk → (Bool → Prop) → Prop) (f2 : Disk → (Bool → Prop) → Prop) (f3 : Disk → (Disk → Prop) → Prop) (f4 : Disk → (List Bool) → (Disk → Prop) → Prop) (f5 : Disk → Int → (Disk → Prop) → Prop) (f6 : Disk → ((Disk × Int) → Prop) → Prop) (f7 : Disk → Int → ((Str × Int) → Prop) → Prop) : Tab := [(52, mkEntry [] (cTy .bool) fun _ => f0), (53, mkEntry [(.st 1)] (cTy .bool) fun x => f1 x.1), (58, mkEntry [(.st 1)] (cTy .bool) fun x => f2 x.1), (68, mkEntry [(.st 1)] (cTy (.st 1)) fun x => f3 x.1), (70, mkEntry [(.st 1), (.slice .bool)] (cTy (.st 1)) fun x => f4 x.1 x.2.1), (66, mkEntry [(.st 1), (.int .i64)] (cTy (.st 1)) fun x => f5 x.1 x.2.1), (64, mkEntry [(.st 1)] (cTwo (.st 1) (.int .i64)) fun x => f6 x.1), (62, mkEntry [(.st 1), (.int .i64)] (cTwo .str (.int .i64)) fun x => f7 x.1 x.2.1)]
theorem tabE : tab = tabV law04_alive.F ref04_Great.F ref04_Right.F disk_Crash.F disk_Revive.F disk_Arm.F disk_Flush.F disk_Read.F := by kernel_rfl
def b2V (f0 : (Bool → Prop) → Prop) (f1 : Disk → (Bool → Prop) → Prop) (f2 : Disk → (Bool → Prop) → Prop) (f3 : Disk → (Disk → Prop) → Prop) (f4 : Disk → (List Bool) → (Disk → Prop) → Prop) (f5 : Disk → Int → (Disk → Prop) → Prop) (f6 : Disk → ((Disk × Int) → Prop) → Prop) (f7 : Disk → Int → ((Str × Int) → Prop) → Prop) (rec kx : L2 → Prop) (kr : R → Prop) (x : L2) : Prop :=
  (bif (decide (x.k < (x.m0_1.length : Int))) then (bif x.ok then (rec ⟨x.keeps, x.i, true, (IntKind.i64.wrap (x.k + 1)), x.m0, x.m0_1, x.m0_2, x.m0_3, x.m1, x.m1_1, x.m1_2, x.m1_3⟩) else (oget (getI x.m0_1 x.k) fun v9 => (bif (v9.sector == x.i) then (oget (getI x.m0_1 x.k) fun v10 => (oget (getI x.m1 x.i) fun v11 => (rec ⟨x.keeps, x.i, (v10.data == v11), (IntKind.i64.wrap (x.k + 1)), x.m0, x.m0_1, x.m0_2, x.m0_3, x.m1, x.m1_1, x.m1_2, x.m1_3⟩))) else (rec ⟨x.keeps, x.i, false, (IntKind.i64.wrap (x.k + 1)), x.m0, x.m0_1, x.m0_2, x.m0_3, x.m1, x.m1_1, x.m1_2, x.m1_3⟩)))) else (kx ⟨x.keeps, x.i, x.ok, x.k, x.m0, x.m0_1, x.m0_2, x.m0_3, x.m1, x.m1_1, x.m1_2, x.m1_3⟩))
def b0V (f0 : (Bool → Prop) → Prop) (f1 : Disk → (Bool → Prop) → Prop) (f2 : Disk → (Bool → Prop) → Prop) (f3 : Disk → (Disk → Prop) → Prop) (f4 : Disk → (List Bool) → (Disk → Prop) → Prop) (f5 : Disk → Int → (Disk → Prop) → Prop) (f6 : Disk → ((Disk × Int) → Prop) → Prop) (f7 : Disk → Int → ((Str × Int) → Prop) → Prop) (rec kx : L0 → Prop) (kr : R → Prop) (x : L0) : Prop :=
  (bif (decide (x.i < (x.m1.length : Int))) then (oget (getI x.m1 x.i) fun v7 => (oget (getI x.m0 x.i) fun v8 => (∃ n, loopB (b2V f0 f1 f2 f3 f4 f5 f6 f7) n (fun x12 => (bif (!x12.ok) then (kr ⟨false⟩) else (rec ⟨x12.keeps, (IntKind.i64.wrap (x12.i + 1)), x12.m0, x12.m0_1, x12.m0_2, x12.m0_3, x12.m1, x12.m1_1, x12.m1_2, x12.m1_3⟩))) (fun r13 => (kr ⟨r13.t4⟩)) ⟨x.keeps, x.i, (v7 == v8), 0, x.m0, x.m0_1, x.m0_2, x.m0_3, x.m1, x.m1_1, x.m1_2, x.m1_3⟩))) else (kx ⟨x.keeps, x.i, x.m0, x.m0_1, x.m0_2, x.m0_3, x.m1, x.m1_1, x.m1_2, x.m1_3⟩))
def b4V (f0 : (Bool → Prop) → Prop) (f1 : Disk → (Bool → Prop) → Prop) (f2 : Disk → (Bool → Prop) → Prop) (f3 : Disk → (Disk → Prop) → Prop) (f4 : Disk → (List Bool) → (Disk → Prop) → Prop) (f5 : Disk → Int → (Disk → Prop) → Prop) (f6 : Disk → ((Disk × Int) → Prop) → Prop) (f7 : Disk → Int → ((Str × Int) → Prop) → Prop) (rec kx : L4 → Prop) (kr : R → Prop) (x : L4) : Prop :=
  (bif (decide (x.i < (x.m0.length : Int))) then (bif (x.e == 0) then (f7 (⟨x.m0, x.m0_1, x.m0_2, x.m0_3⟩ : Disk) x.i fun r20 => (f7 (⟨x.m3, x.m3_1, x.m3_2, x.m3_3⟩ : Disk) x.i fun r21 => (bif (!(r20.1 == r21.1)) then (kr ⟨false⟩) else (rec ⟨x.e, (IntKind.i64.wrap (x.i + 1)), x.m0, x.m0_1, x.m0_2, x.m0_3, x.m3, x.m3_1, x.m3_2, x.m3_3⟩)))) else (kx ⟨x.e, x.i, x.m0, x.m0_1, x.m0_2, x.m0_3, x.m3, x.m3_1, x.m3_2, x.m3_3⟩)) else (kx ⟨x.e, x.i, x.m0, x.m0_1, x.m0_2, x.m0_3, x.m3, x.m3_1, x.m3_2, x.m3_3⟩))
def ltV (f0 : (Bool → Prop) → Prop) (f1 : Disk → (Bool → Prop) → Prop) (f2 : Disk → (Bool → Prop) → Prop) (f3 : Disk → (Disk → Prop) → Prop) (f4 : Disk → (List Bool) → (Disk → Prop) → Prop) (f5 : Disk → Int → (Disk → Prop) → Prop) (f6 : Disk → ((Disk × Int) → Prop) → Prop) (f7 : Disk → Int → ((Str × Int) → Prop) → Prop) : Nat → Option LSpec
  | 2 => some (mkLoop 2 kp2 kR p2 c2 cR (b2V f0 f1 f2 f3 f4 f5 f6 f7))
  | 0 => some (mkLoop 0 kp0 kR p0 c0 cR (b0V f0 f1 f2 f3 f4 f5 f6 f7))
  | 4 => some (mkLoop 4 kp4 kR p4 c4 cR (b4V f0 f1 f2 f3 f4 f5 f6 f7))
  | _ => none
theorem ltE : lt = ltV law04_alive.F ref04_Great.F ref04_Right.F disk_Crash.F disk_Revive.F disk_Arm.F disk_Flush.F disk_Read.F := by kernel_rfl
theorem eqv (f0 : (Bool → Prop) → Prop) (f1 : Disk → (Bool → Prop) → Prop) (f2 : Disk → (Bool → Prop) → Prop) (f3 : Disk → (Disk → Prop) → Prop) (f4 : Disk → (List Bool) → (Disk → Prop) → Prop) (f5 : Disk → Int → (Disk → Prop) → Prop) (f6 : Disk → ((Disk × Int) → Prop) → Prop) (f7 : Disk → Int → ((Str × Int) → Prop) → Prop) (d : Disk) (keeps : (List Bool)) (K : Bool → Prop) : apure E (tabV f0 f1 f2 f3 f4 f5 f6 f7) (ltV f0 f1 f2 f3 f4 f5 f6 f7) 4 15 [enc (.st 1) d, enc (.slice .bool) keeps] (ansK ((cTy .bool)) K) =
  (f0 fun r1 => (bif (!r1) then (K false) else (f1 d fun r2 => (bif r2 then (K true) else (bif (decide ((keeps.length : Int) > 200)) then (K true) else (f2 d fun r3 => (bif (!r3) then (K true) else (bif d.dead then (K true) else (f3 d fun r4 => (f4 r4 keeps fun r5 => (f2 r5 fun r6 => (bif (!r6) then (K false) else (bif ((r5.sure.length : Int) != (d.sure.length : Int)) then (K false) else (bif (decide ((r5.cache.length : Int) > 0)) then (K false) else (bif r5.dead then (K false) else (∃ n, loopB (b0V f0 f1 f2 f3 f4 f5 f6 f7) n (fun x14 => (f5 (⟨x14.m0, x14.m0_1, x14.m0_2, x14.m0_3⟩ : Disk) 0 fun r16 => (f6 r16 fun r17 => (f3 r17.1 fun r18 => (f4 r18 x14.keeps fun r19 => (∃ n, loopB (b4V f0 f1 f2 f3 f4 f5 f6 f7) n (fun x22 => (K (x22.e == 0))) (fun r23 => (K r23.t4)) ⟨r17.2, 0, x14.m0, x14.m0_1, x14.m0_2, x14.m0_3, r19.sure, r19.cache, r19.fuse, r19.dead⟩)))))) (fun r15 => (K r15.t4)) ⟨keeps, 0, d.sure, d.cache, d.fuse, d.dead, r5.sure, r5.cache, r5.fuse, r5.dead⟩)))))))))))))))) := by kernel_rfl
theorem eq (x : Dens [(.st 1), (.slice .bool)]) (K : Bool → Prop) : apure E tab lt 4 15 (encA [(.st 1), (.slice .bool)] x) (ansK ((cTy .bool)) K) = F x.1 x.2.1 K := by
  rw [tabE, ltE]
  exact eqv law04_alive.F ref04_Great.F ref04_Right.F disk_Crash.F disk_Revive.F disk_Arm.F disk_Flush.F disk_Read.F x.1 x.2.1 K
theorem l2v (f0 : (Bool → Prop) → Prop) (f1 : Disk → (Bool → Prop) → Prop) (f2 : Disk → (Bool → Prop) → Prop) (f3 : Disk → (Disk → Prop) → Prop) (f4 : Disk → (List Bool) → (Disk → Prop) → Prop) (f5 : Disk → Int → (Disk → Prop) → Prop) (f6 : Disk → ((Disk × Int) → Prop) → Prop) (f7 : Disk → Int → ((Str × Int) → Prop) → Prop) (R : St → Prop) (Kx : Nat → St → Prop) (Kr : St → Prop) (x : L2) : acode E (tabV f0 f1 f2 f3 f4 f5 f6 f7) (afun E (tabV f0 f1 f2 f3 f4 f5 f6 f7) 4) 151 (ltV f0 f1 f2 f3 f4 f5 f6 f7) ((loopsIn E.P 15).getD 1 (0, .skip)).2 2 (fun s => R (keepSt kp2 s)) (fun j s => Kx j (keepSt kp2 s)) (fun s => Kr (keepSt kR s)) (c2 x) =
    b2V f0 f1 f2 f3 f4 f5 f6 f7 (fun x => R (c2 x)) (fun x => Kx 2 (c2 x)) (fun r => Kr (cR r)) x := by kernel_rfl
theorem l2_ok : LSound E tab (afun E tab 4) 151 lt 2 ((loopsIn E.P 15).getD 1 (0, .skip)).2 l2 := mkLoop_sound (by decide) (by decide) p2_ok (fun R Kx Kr x => by
  rw [tabE, ltE]
  exact l2v law04_alive.F ref04_Great.F ref04_Right.F disk_Crash.F disk_Revive.F disk_Arm.F disk_Flush.F disk_Read.F R Kx Kr x)
theorem l0v (f0 : (Bool → Prop) → Prop) (f1 : Disk → (Bool → Prop) → Prop) (f2 : Disk → (Bool → Prop) → Prop) (f3 : Disk → (Disk → Prop) → Prop) (f4 : Disk → (List Bool) → (Disk → Prop) → Prop) (f5 : Disk → Int → (Disk → Prop) → Prop) (f6 : Disk → ((Disk × Int) → Prop) → Prop) (f7 : Disk → Int → ((Str × Int) → Prop) → Prop) (R : St → Prop) (Kx : Nat → St → Prop) (Kr : St → Prop) (x : L0) : acode E (tabV f0 f1 f2 f3 f4 f5 f6 f7) (afun E (tabV f0 f1 f2 f3 f4 f5 f6 f7) 4) 151 (ltV f0 f1 f2 f3 f4 f5 f6 f7) ((loopsIn E.P 15).getD 0 (0, .skip)).2 0 (fun s => R (keepSt kp0 s)) (fun j s => Kx j (keepSt kp0 s)) (fun s => Kr (keepSt kR s)) (c0 x) =
    b0V f0 f1 f2 f3 f4 f5 f6 f7 (fun x => R (c0 x)) (fun x => Kx 0 (c0 x)) (fun r => Kr (cR r)) x := by kernel_rfl
theorem l0_ok : LSound E tab (afun E tab 4) 151 lt 0 ((loopsIn E.P 15).getD 0 (0, .skip)).2 l0 := mkLoop_sound (by decide) (by decide) p0_ok (fun R Kx Kr x => by
  rw [tabE, ltE]
  exact l0v law04_alive.F ref04_Great.F ref04_Right.F disk_Crash.F disk_Revive.F disk_Arm.F disk_Flush.F disk_Read.F R Kx Kr x)
theorem l4v (f0 : (Bool → Prop) → Prop) (f1 : Disk → (Bool → Prop) → Prop) (f2 : Disk → (Bool → Prop) → Prop) (f3 : Disk → (Disk → Prop) → Prop) (f4 : Disk → (List Bool) → (Disk → Prop) → Prop) (f5 : Disk → Int → (Disk → Prop) → Prop) (f6 : Disk → ((Disk × Int) → Prop) → Prop) (f7 : Disk → Int → ((Str × Int) → Prop) → Prop) (R : St → Prop) (Kx : Nat → St → Prop) (Kr : St → Prop) (x : L4) : acode E (tabV f0 f1 f2 f3 f4 f5 f6 f7) (afun E (tabV f0 f1 f2 f3 f4 f5 f6 f7) 4) 151 (ltV f0 f1 f2 f3 f4 f5 f6 f7) ((loopsIn E.P 15).getD 2 (0, .skip)).2 4 (fun s => R (keepSt kp4 s)) (fun j s => Kx j (keepSt kp4 s)) (fun s => Kr (keepSt kR s)) (c4 x) =
    b4V f0 f1 f2 f3 f4 f5 f6 f7 (fun x => R (c4 x)) (fun x => Kx 4 (c4 x)) (fun r => Kr (cR r)) x := by kernel_rfl
theorem l4_ok : LSound E tab (afun E tab 4) 151 lt 4 ((loopsIn E.P 15).getD 2 (0, .skip)).2 l4 := mkLoop_sound (by decide) (by decide) p4_ok (fun R Kx Kr x => by
  rw [tabE, ltE]
  exact l4v law04_alive.F ref04_Great.F ref04_Right.F disk_Crash.F disk_Revive.F disk_Arm.F disk_Flush.F disk_Read.F R Kx Kr x)
theorem loops : LoopsOk E tab lt 4 15 := loops_of (nt := 151) (ids := [0, 2, 4]) (by kernel_rfl) (by kernel_rfl) (by
  intro k i hk l hl
  match k, hk with
  | 0, hk => cases hk; cases hl; exact l0_ok
  | 1, hk => cases hk; cases hl; exact l2_ok
  | 2, hk => cases hk; cases hl; exact l4_ok
  | _ + 3, hk => exact absurd hk (by simp))
theorem det (d : Disk) (keeps : (List Bool)) : Det (F d keeps) := by
  unfold F
  repeat' first | with_reducible exact det_ret _ | with_reducible exact det_false | with_reducible refine det_cond _ ?_ ?_ | with_reducible refine det_oget _ (fun _ => ?_) | with_reducible exact law04_alive.det | with_reducible refine det_bind (law04_alive.det) (fun _ => ?_) | with_reducible exact ref04_Great.det _ | with_reducible refine det_bind (ref04_Great.det _) (fun _ => ?_) | with_reducible exact ref04_Right.det _ | with_reducible refine det_bind (ref04_Right.det _) (fun _ => ?_) | with_reducible exact disk_Crash.det _ | with_reducible refine det_bind (disk_Crash.det _) (fun _ => ?_) | with_reducible exact disk_Revive.det _ _ | with_reducible refine det_bind (disk_Revive.det _ _) (fun _ => ?_) | with_reducible exact disk_Arm.det _ _ | with_reducible refine det_bind (disk_Arm.det _ _) (fun _ => ?_) | with_reducible exact disk_Flush.det _ | with_reducible refine det_bind (disk_Flush.det _) (fun _ => ?_) | with_reducible exact disk_Read.det _ _ | with_reducible refine det_bind (disk_Read.det _ _) (fun _ => ?_) | with_reducible refine det_loop (fun _ => ?_) (fun _ => ?_) (fun _ => ?_) _ | unfold b2 | unfold b0 | unfold b4
theorem edet (args : List AV) : Det (en args) := mkEntry_det (ts := [(.st 1), (.slice .bool)]) (cod := (cTy .bool)) (F := fun x => F x.1 x.2.1) (fun x => det x.1 x.2.1) args
theorem ground : Ground E tab := ⟨num, mixed, (tab_cons law04_alive.sound (tab_cons ref04_Great.sound (tab_cons ref04_Right.sound (tab_cons disk_Crash.sound (tab_cons disk_Revive.sound (tab_cons disk_Arm.sound (tab_cons disk_Flush.sound (tab_cons disk_Read.sound (tab_nil _))))))))), clone, (dtab_cons law04_alive.edet (dtab_cons ref04_Great.edet (dtab_cons ref04_Right.edet (dtab_cons disk_Crash.edet (dtab_cons disk_Revive.edet (dtab_cons disk_Arm.edet (dtab_cons disk_Flush.edet (dtab_cons disk_Read.edet dtab_nil))))))))⟩
theorem has : ((E.P.funcs[15]?).bind (·.body)).isSome = true := by kernel_rfl
theorem sound : EntrySound E.P 15 en := mkSound (ts := [(.st 1), (.slice .bool)]) (cod := (cTy .bool)) (F := fun x => F x.1 x.2.1) ground loops has eq
end law04_DiskAtomic
end Gm
