/- Printed by a program (gen.py): the functions' answers, and that they are so. -/
import Derived.Test.YtbhgalddlkebgaaGmE0
set_option linter.unusedVariables false
set_option maxRecDepth 100000
namespace Gm
open Go Go.Proofs
namespace check_Sum
noncomputable def tab : Tab := []
structure R where
def cR (_ : R) : St := { fr := fun _ => .top, hs := hs0 }
def kR : Keep := { ks := [], bs := [], hn := 0 }
structure L0 where
  s : Str
  n0 : Int
  t6 : Int
  t7 : Int
def c0 (x : L0) : St := { fr := lookL .top [(0, (.str x.s)), (3, (.int .u32 x.n0)), (6, (.int .i64 x.t6)), (7, (.int .i64 x.t7))], hs := { hp := lookL .dead [], hn := 0 } }
def kp0 : Keep := { ks := [(0, none), (3, none), (6, none), (7, none)], bs := [], hn := 0 }
def p0 (st : St) (K : L0 → Prop) : Prop := gStr (st.fr 0) fun a1 => gInt .u32 (st.fr 3) fun a2 => gInt .i64 (st.fr 6) fun a3 => gInt .i64 (st.fr 7) fun a4 => K ⟨a1, a2, a3, a4⟩
theorem p0_ok (st : St) (K : L0 → Prop) (h : p0 st K) : ∃ x, keepSt kp0 st = c0 x ∧ K x := by
  obtain ⟨a1, h0, h⟩ := gStr_elim h
  obtain ⟨a2, h1, h⟩ := gInt_elim h
  obtain ⟨a3, h2, h⟩ := gInt_elim h
  obtain ⟨a4, h3, h⟩ := gInt_elim h
  refine ⟨_, ?_, h⟩
  simp only [keepSt, kp0, List.map, h0, h1, h2, h3]
  rfl
def b0 (rec kx : L0 → Prop) (kr : R → Prop) (x : L0) : Prop :=
  (bif (decide (x.t7 < x.t6)) then (oget (getI x.s x.t7) fun v1 => (rec ⟨x.s, (IntKind.u32.wrap ((ixor .u32 x.n0 (IntKind.u32.wrap (v1.toNat : Int))) * 16777619)), x.t6, (IntKind.i64.wrap (x.t7 + 1))⟩)) else (kx ⟨x.s, x.n0, x.t6, x.t7⟩))
def l0 : LSpec := mkLoop 0 kp0 kR p0 c0 cR b0
def lt : Nat → Option LSpec
  | 0 => some l0
  | _ => none
def F (s : Str) (K : Int → Prop) : Prop :=
  (∃ n, loopB b0 n (fun x2 => (K x2.n0)) (fun _ => False) ⟨s, 2166136261, (s.length : Int), 0⟩)
noncomputable def en : Entry := mkEntry [.str] (cTy (.int .u32)) fun x => F x.1
theorem eq (x : Dens [.str]) (K : Int → Prop) : apure E tab lt 4 25 (encA [.str] x) (ansK ((cTy (.int .u32))) K) = F x.1 K := by kernel_rfl
theorem l0_ok : LSound E tab (afun E tab 4) 19 lt 0 ((loopsIn E.P 25).getD 0 (0, .skip)).2 l0 := mkLoop_sound (by decide) (by decide) p0_ok (fun R Kx Kr x => by kernel_rfl)
theorem loops : LoopsOk E tab lt 4 25 := loops_of (nt := 19) (ids := [0]) (by kernel_rfl) (by kernel_rfl) (by
  intro k i hk l hl
  match k, hk with
  | 0, hk => cases hk; cases hl; exact l0_ok
  | _ + 1, hk => exact absurd hk (by simp))
theorem det (s : Str) : Det (F s) := by
  unfold F
  repeat' first | with_reducible exact det_ret _ | with_reducible exact det_false | with_reducible refine det_cond _ ?_ ?_ | with_reducible refine det_oget _ (fun _ => ?_) | with_reducible refine det_loop (fun _ => ?_) (fun _ => ?_) (fun _ => ?_) _ | unfold b0
theorem edet (args : List AV) : Det (en args) := mkEntry_det (ts := [.str]) (cod := (cTy (.int .u32))) (F := fun x => F x.1) (fun x => det x.1) args
theorem ground : Ground E tab := ⟨num, mixed, (tab_nil _), clone, dtab_nil⟩
theorem has : ((E.P.funcs[25]?).bind (·.body)).isSome = true := by kernel_rfl
theorem sound : EntrySound E.P 25 en := mkSound (ts := [.str]) (cod := (cTy (.int .u32))) (F := fun x => F x.1) ground loops has eq
end check_Sum
namespace num_put
noncomputable def tab : Tab := []
structure R where
def cR (_ : R) : St := { fr := fun _ => .top, hs := hs0 }
def kR : Keep := { ks := [], bs := [], hn := 0 }
structure L0 where
  n0 : Int
  size : Int
  b0 : (List Int)
  t10 : Int
  t11 : Int
def c0 (x : L0) : St := { fr := lookL .top [(0, (.int .u64 x.n0)), (1, (.int .i64 x.size)), (5, (.slr 0)), (10, (.int .i64 x.t10)), (11, (.int .i64 x.t11))], hs := { hp := lookL .dead [(0, (.row false (.int .u8) x.b0))], hn := 1 } }
def kp0 : Keep := { ks := [(0, none), (1, none), (5, some 0), (10, none), (11, none)], bs := [], hn := 1 }
def p0 (st : St) (K : L0 → Prop) : Prop := gHomes kp0 st <| gInt .u64 (st.fr 0) fun a1 => gInt .i64 (st.fr 1) fun a2 => gSlr (st.fr 5) fun c3 => gRow false (.int .u8) (st.hs.hp c3) fun a4 => gInt .i64 (st.fr 10) fun a5 => gInt .i64 (st.fr 11) fun a6 => K ⟨a1, a2, a4, a5, a6⟩
theorem p0_ok (st : St) (K : L0 → Prop) (h : p0 st K) : ∃ x, keepSt kp0 st = c0 x ∧ K x := by
  obtain ⟨h0, h⟩ := gHomes_elim h
  obtain ⟨a1, h1, h⟩ := gInt_elim h
  obtain ⟨a2, h2, h⟩ := gInt_elim h
  obtain ⟨c3, h3, h⟩ := gSlr_elim h
  obtain ⟨a4, h4, h⟩ := gRow_elim h
  obtain ⟨a5, h5, h⟩ := gInt_elim h
  obtain ⟨a6, h6, h⟩ := gInt_elim h
  refine ⟨_, ?_, h⟩
  simp only [keepSt, h0]
  simp only [kp0, List.map, List.filterMap, homeOf, h1, h2, h3, h4, h5, h6, hmOf, List.append_nil, cond_true]
  rfl
def b0 (rec kx : L0 → Prop) (kr : R → Prop) (x : L0) : Prop :=
  (bif (decide (x.t11 < x.t10)) then (bif (decide (0 ≤ (IntKind.i64.wrap (8 * x.t11)))) then (bif (decide (0 ≤ (IntKind.i64.wrap ((IntKind.i64.wrap (x.size - 1)) - x.t11))) && decide ((IntKind.i64.wrap ((IntKind.i64.wrap (x.size - 1)) - x.t11)) < (x.b0.length : Int))) then (rec ⟨x.n0, x.size, (x.b0.set (Int.toNat (IntKind.i64.wrap ((IntKind.i64.wrap (x.size - 1)) - x.t11))) (IntKind.u8.wrap (ishr .u64 x.n0 (IntKind.i64.wrap (8 * x.t11))))), x.t10, (IntKind.i64.wrap (x.t11 + 1))⟩) else False) else False) else (kx ⟨x.n0, x.size, x.b0, x.t10, x.t11⟩))
def l0 : LSpec := mkLoop 0 kp0 kR p0 c0 cR b0
def lt : Nat → Option LSpec
  | 0 => some l0
  | _ => none
def F (n_0 : Int) (size : Int) (K : Str → Prop) : Prop :=
  (bif (size == size && (decide (0 ≤ size) && decide (size * (1 : Nat) ≤ (room : Int)))) then (∃ n, loopB b0 n (fun x1 => (K (bytesOfInts x1.b0))) (fun _ => False) ⟨n_0, size, (List.replicate (Int.toNat size) (0 : Int)), ((List.replicate (Int.toNat size) (0 : Int)).length : Int), 0⟩) else False)
noncomputable def en : Entry := mkEntry [(.int .u64), (.int .i64)] (cTy .str) fun x => F x.1 x.2.1
theorem eq (x : Dens [(.int .u64), (.int .i64)]) (K : Str → Prop) : apure E tab lt 4 91 (encA [(.int .u64), (.int .i64)] x) (ansK ((cTy .str)) K) = F x.1 x.2.1 K := by kernel_rfl
theorem l0_ok : LSound E tab (afun E tab 4) 28 lt 0 ((loopsIn E.P 91).getD 0 (0, .skip)).2 l0 := mkLoop_sound (by decide) (by decide) p0_ok (fun R Kx Kr x => by kernel_rfl)
theorem loops : LoopsOk E tab lt 4 91 := loops_of (nt := 28) (ids := [0]) (by kernel_rfl) (by kernel_rfl) (by
  intro k i hk l hl
  match k, hk with
  | 0, hk => cases hk; cases hl; exact l0_ok
  | _ + 1, hk => exact absurd hk (by simp))
theorem det (n_0 : Int) (size : Int) : Det (F n_0 size) := by
  unfold F
  repeat' first | with_reducible exact det_ret _ | with_reducible exact det_false | with_reducible refine det_cond _ ?_ ?_ | with_reducible refine det_oget _ (fun _ => ?_) | with_reducible refine det_loop (fun _ => ?_) (fun _ => ?_) (fun _ => ?_) _ | unfold b0
theorem edet (args : List AV) : Det (en args) := mkEntry_det (ts := [(.int .u64), (.int .i64)]) (cod := (cTy .str)) (F := fun x => F x.1 x.2.1) (fun x => det x.1 x.2.1) args
theorem ground : Ground E tab := ⟨num, mixed, (tab_nil _), clone, dtab_nil⟩
theorem has : ((E.P.funcs[91]?).bind (·.body)).isSome = true := by kernel_rfl
theorem sound : EntrySound E.P 91 en := mkSound (ts := [(.int .u64), (.int .i64)]) (cod := (cTy .str)) (F := fun x => F x.1 x.2.1) ground loops has eq
end num_put
namespace num_Put32
noncomputable def tab : Tab := [(91, num_put.en)]
def F (n_0 : Int) (K : Str → Prop) : Prop :=
  (num_put.F (IntKind.u64.wrap n_0) 4 fun r1 => (K r1))
noncomputable def en : Entry := mkEntry [(.int .u32)] (cTy .str) fun x => F x.1
noncomputable def tabV (f0 : Int → Int → (Str → Prop) → Prop) : Tab := [(91, mkEntry [(.int .u64), (.int .i64)] (cTy .str) fun x => f0 x.1 x.2.1)]
theorem tabE : tab = tabV num_put.F := by kernel_rfl
theorem eqv (f0 : Int → Int → (Str → Prop) → Prop) (n_0 : Int) (K : Str → Prop) : apure E (tabV f0) (fun _ => none) 4 34 [enc (.int .u32) n_0] (ansK ((cTy .str)) K) =
  (f0 (IntKind.u64.wrap n_0) 4 fun r1 => (K r1)) := by kernel_rfl
theorem eq (x : Dens [(.int .u32)]) (K : Str → Prop) : apure E tab (fun _ => none) 4 34 (encA [(.int .u32)] x) (ansK ((cTy .str)) K) = F x.1 K := eqv num_put.F x.1 K
theorem loops : LoopsOk E tab (fun _ => none) 4 34 := loops_none _ _ _ _
theorem det (n_0 : Int) : Det (F n_0) := by
  unfold F
  repeat' first | with_reducible exact det_ret _ | with_reducible exact det_false | with_reducible refine det_cond _ ?_ ?_ | with_reducible refine det_oget _ (fun _ => ?_) | with_reducible exact num_put.det _ _ | with_reducible refine det_bind (num_put.det _ _) (fun _ => ?_)
theorem edet (args : List AV) : Det (en args) := mkEntry_det (ts := [(.int .u32)]) (cod := (cTy .str)) (F := fun x => F x.1) (fun x => det x.1) args
theorem ground : Ground E tab := ⟨num, mixed, (tab_cons num_put.sound (tab_nil _)), clone, (dtab_cons num_put.edet dtab_nil)⟩
theorem has : ((E.P.funcs[34]?).bind (·.body)).isSome = true := by kernel_rfl
theorem sound : EntrySound E.P 34 en := mkSound (ts := [(.int .u32)]) (cod := (cTy .str)) (F := fun x => F x.1) ground loops has eq
end num_Put32
namespace check_Seal
noncomputable def tab : Tab := [(25, check_Sum.en), (34, num_Put32.en)]
def F (s : Str) (K : Str → Prop) : Prop :=
  (check_Sum.F s fun r1 => (num_Put32.F r1 fun r2 => (bif (fits (s.length + r2.length)) then (K (s ++ r2)) else False)))
noncomputable def en : Entry := mkEntry [.str] (cTy .str) fun x => F x.1
noncomputable def tabV (f0 : Str → (Int → Prop) → Prop) (f1 : Int → (Str → Prop) → Prop) : Tab := [(25, mkEntry [.str] (cTy (.int .u32)) fun x => f0 x.1), (34, mkEntry [(.int .u32)] (cTy .str) fun x => f1 x.1)]
theorem tabE : tab = tabV check_Sum.F num_Put32.F := by kernel_rfl
theorem eqv (f0 : Str → (Int → Prop) → Prop) (f1 : Int → (Str → Prop) → Prop) (s : Str) (K : Str → Prop) : apure E (tabV f0 f1) (fun _ => none) 4 27 [enc .str s] (ansK ((cTy .str)) K) =
  (f0 s fun r1 => (f1 r1 fun r2 => (bif (fits (s.length + r2.length)) then (K (s ++ r2)) else False))) := by kernel_rfl
theorem eq (x : Dens [.str]) (K : Str → Prop) : apure E tab (fun _ => none) 4 27 (encA [.str] x) (ansK ((cTy .str)) K) = F x.1 K := eqv check_Sum.F num_Put32.F x.1 K
theorem loops : LoopsOk E tab (fun _ => none) 4 27 := loops_none _ _ _ _
theorem det (s : Str) : Det (F s) := by
  unfold F
  repeat' first | with_reducible exact det_ret _ | with_reducible exact det_false | with_reducible refine det_cond _ ?_ ?_ | with_reducible refine det_oget _ (fun _ => ?_) | with_reducible exact check_Sum.det _ | with_reducible refine det_bind (check_Sum.det _) (fun _ => ?_) | with_reducible exact num_Put32.det _ | with_reducible refine det_bind (num_Put32.det _) (fun _ => ?_)
theorem edet (args : List AV) : Det (en args) := mkEntry_det (ts := [.str]) (cod := (cTy .str)) (F := fun x => F x.1) (fun x => det x.1) args
theorem ground : Ground E tab := ⟨num, mixed, (tab_cons check_Sum.sound (tab_cons num_Put32.sound (tab_nil _))), clone, (dtab_cons check_Sum.edet (dtab_cons num_Put32.edet dtab_nil))⟩
theorem has : ((E.P.funcs[27]?).bind (·.body)).isSome = true := by kernel_rfl
theorem sound : EntrySound E.P 27 en := mkSound (ts := [.str]) (cod := (cTy .str)) (F := fun x => F x.1) ground loops has eq
end check_Seal
namespace num_get
noncomputable def tab : Tab := []
structure R where
def cR (_ : R) : St := { fr := fun _ => .top, hs := hs0 }
def kR : Keep := { ks := [], bs := [], hn := 0 }
structure L0 where
  s : Str
  n0 : Int
  t5 : Int
  t6 : Int
def c0 (x : L0) : St := { fr := lookL .top [(0, (.str x.s)), (2, (.int .u64 x.n0)), (5, (.int .i64 x.t5)), (6, (.int .i64 x.t6))], hs := { hp := lookL .dead [], hn := 0 } }
def kp0 : Keep := { ks := [(0, none), (2, none), (5, none), (6, none)], bs := [], hn := 0 }
def p0 (st : St) (K : L0 → Prop) : Prop := gStr (st.fr 0) fun a1 => gInt .u64 (st.fr 2) fun a2 => gInt .i64 (st.fr 5) fun a3 => gInt .i64 (st.fr 6) fun a4 => K ⟨a1, a2, a3, a4⟩
theorem p0_ok (st : St) (K : L0 → Prop) (h : p0 st K) : ∃ x, keepSt kp0 st = c0 x ∧ K x := by
  obtain ⟨a1, h0, h⟩ := gStr_elim h
  obtain ⟨a2, h1, h⟩ := gInt_elim h
  obtain ⟨a3, h2, h⟩ := gInt_elim h
  obtain ⟨a4, h3, h⟩ := gInt_elim h
  refine ⟨_, ?_, h⟩
  simp only [keepSt, kp0, List.map, h0, h1, h2, h3]
  rfl
def b0 (rec kx : L0 → Prop) (kr : R → Prop) (x : L0) : Prop :=
  (bif (decide (x.t6 < x.t5)) then (oget (getI x.s x.t6) fun v1 => (rec ⟨x.s, (ior .u64 (ishl .u64 x.n0 8) (IntKind.u64.wrap (v1.toNat : Int))), x.t5, (IntKind.i64.wrap (x.t6 + 1))⟩)) else (kx ⟨x.s, x.n0, x.t5, x.t6⟩))
def l0 : LSpec := mkLoop 0 kp0 kR p0 c0 cR b0
def lt : Nat → Option LSpec
  | 0 => some l0
  | _ => none
def F (s : Str) (K : Int → Prop) : Prop :=
  (∃ n, loopB b0 n (fun x2 => (K x2.n0)) (fun _ => False) ⟨s, 0, (s.length : Int), 0⟩)
noncomputable def en : Entry := mkEntry [.str] (cTy (.int .u64)) fun x => F x.1
theorem eq (x : Dens [.str]) (K : Int → Prop) : apure E tab lt 4 89 (encA [.str] x) (ansK ((cTy (.int .u64))) K) = F x.1 K := by kernel_rfl
theorem l0_ok : LSound E tab (afun E tab 4) 18 lt 0 ((loopsIn E.P 89).getD 0 (0, .skip)).2 l0 := mkLoop_sound (by decide) (by decide) p0_ok (fun R Kx Kr x => by kernel_rfl)
theorem loops : LoopsOk E tab lt 4 89 := loops_of (nt := 18) (ids := [0]) (by kernel_rfl) (by kernel_rfl) (by
  intro k i hk l hl
  match k, hk with
  | 0, hk => cases hk; cases hl; exact l0_ok
  | _ + 1, hk => exact absurd hk (by simp))
theorem det (s : Str) : Det (F s) := by
  unfold F
  repeat' first | with_reducible exact det_ret _ | with_reducible exact det_false | with_reducible refine det_cond _ ?_ ?_ | with_reducible refine det_oget _ (fun _ => ?_) | with_reducible refine det_loop (fun _ => ?_) (fun _ => ?_) (fun _ => ?_) _ | unfold b0
theorem edet (args : List AV) : Det (en args) := mkEntry_det (ts := [.str]) (cod := (cTy (.int .u64))) (F := fun x => F x.1) (fun x => det x.1) args
theorem ground : Ground E tab := ⟨num, mixed, (tab_nil _), clone, dtab_nil⟩
theorem has : ((E.P.funcs[89]?).bind (·.body)).isSome = true := by kernel_rfl
theorem sound : EntrySound E.P 89 en := mkSound (ts := [.str]) (cod := (cTy (.int .u64))) (F := fun x => F x.1) ground loops has eq
end num_get
namespace num_Get32
noncomputable def tab : Tab := [(89, num_get.en)]
def F (s : Str) (K : (Int × Bool) → Prop) : Prop :=
  (bif ((s.length : Int) != 4) then (K (0, false)) else (num_get.F s fun r1 => (K ((IntKind.u32.wrap r1), true))))
noncomputable def en : Entry := mkEntry [.str] (cTwo (.int .u32) .bool) fun x => F x.1
noncomputable def tabV (f0 : Str → (Int → Prop) → Prop) : Tab := [(89, mkEntry [.str] (cTy (.int .u64)) fun x => f0 x.1)]
theorem tabE : tab = tabV num_get.F := by kernel_rfl
theorem eqv (f0 : Str → (Int → Prop) → Prop) (s : Str) (K : (Int × Bool) → Prop) : apure E (tabV f0) (fun _ => none) 4 30 [enc .str s] (ansK ((cTwo (.int .u32) .bool)) K) =
  (bif ((s.length : Int) != 4) then (K (0, false)) else (f0 s fun r1 => (K ((IntKind.u32.wrap r1), true)))) := by kernel_rfl
theorem eq (x : Dens [.str]) (K : (Int × Bool) → Prop) : apure E tab (fun _ => none) 4 30 (encA [.str] x) (ansK ((cTwo (.int .u32) .bool)) K) = F x.1 K := eqv num_get.F x.1 K
theorem loops : LoopsOk E tab (fun _ => none) 4 30 := loops_none _ _ _ _
theorem det (s : Str) : Det (F s) := by
  unfold F
  repeat' first | with_reducible exact det_ret _ | with_reducible exact det_false | with_reducible refine det_cond _ ?_ ?_ | with_reducible refine det_oget _ (fun _ => ?_) | with_reducible exact num_get.det _ | with_reducible refine det_bind (num_get.det _) (fun _ => ?_)
theorem edet (args : List AV) : Det (en args) := mkEntry_det (ts := [.str]) (cod := (cTwo (.int .u32) .bool)) (F := fun x => F x.1) (fun x => det x.1) args
theorem ground : Ground E tab := ⟨num, mixed, (tab_cons num_get.sound (tab_nil _)), clone, (dtab_cons num_get.edet dtab_nil)⟩
theorem has : ((E.P.funcs[30]?).bind (·.body)).isSome = true := by kernel_rfl
theorem sound : EntrySound E.P 30 en := mkSound (ts := [.str]) (cod := (cTwo (.int .u32) .bool)) (F := fun x => F x.1) ground loops has eq
end num_Get32
namespace check_Open
noncomputable def tab : Tab := [(30, num_Get32.en), (25, check_Sum.en)]
def F (s : Str) (K : (Str × Int) → Prop) : Prop :=
  (bif (decide ((IntKind.i64.wrap ((s.length : Int) - 4)) < 0)) then (K (([] : Str), 2)) else (bif (decide (0 ≤ (IntKind.i64.wrap ((s.length : Int) - 4))) && decide ((IntKind.i64.wrap ((s.length : Int) - 4)) ≤ (s.length : Int))) then (num_Get32.F (sub s (Int.toNat (IntKind.i64.wrap ((s.length : Int) - 4))) s.length) fun r1 => (bif (decide (0 ≤ (IntKind.i64.wrap ((s.length : Int) - 4))) && decide ((IntKind.i64.wrap ((s.length : Int) - 4)) ≤ (s.length : Int))) then (check_Sum.F (sub s 0 (Int.toNat (IntKind.i64.wrap ((s.length : Int) - 4)))) fun r2 => (bif (r1.1 != r2) then (K (([] : Str), 3)) else (bif (decide (0 ≤ (IntKind.i64.wrap ((s.length : Int) - 4))) && decide ((IntKind.i64.wrap ((s.length : Int) - 4)) ≤ (s.length : Int))) then (K ((sub s 0 (Int.toNat (IntKind.i64.wrap ((s.length : Int) - 4)))), 0)) else False))) else False)) else False))
noncomputable def en : Entry := mkEntry [.str] (cTwo .str (.int .i64)) fun x => F x.1
noncomputable def tabV (f0 : Str → ((Int × Bool) → Prop) → Prop) (f1 : Str → (Int → Prop) → Prop) : Tab := [(30, mkEntry [.str] (cTwo (.int .u32) .bool) fun x => f0 x.1), (25, mkEntry [.str] (cTy (.int .u32)) fun x => f1 x.1)]
theorem tabE : tab = tabV num_Get32.F check_Sum.F := by kernel_rfl
theorem eqv (f0 : Str → ((Int × Bool) → Prop) → Prop) (f1 : Str → (Int → Prop) → Prop) (s : Str) (K : (Str × Int) → Prop) : apure E (tabV f0 f1) (fun _ => none) 4 23 [enc .str s] (ansK ((cTwo .str (.int .i64))) K) =
  (bif (decide ((IntKind.i64.wrap ((s.length : Int) - 4)) < 0)) then (K (([] : Str), 2)) else (bif (decide (0 ≤ (IntKind.i64.wrap ((s.length : Int) - 4))) && decide ((IntKind.i64.wrap ((s.length : Int) - 4)) ≤ (s.length : Int))) then (f0 (sub s (Int.toNat (IntKind.i64.wrap ((s.length : Int) - 4))) s.length) fun r1 => (bif (decide (0 ≤ (IntKind.i64.wrap ((s.length : Int) - 4))) && decide ((IntKind.i64.wrap ((s.length : Int) - 4)) ≤ (s.length : Int))) then (f1 (sub s 0 (Int.toNat (IntKind.i64.wrap ((s.length : Int) - 4)))) fun r2 => (bif (r1.1 != r2) then (K (([] : Str), 3)) else (bif (decide (0 ≤ (IntKind.i64.wrap ((s.length : Int) - 4))) && decide ((IntKind.i64.wrap ((s.length : Int) - 4)) ≤ (s.length : Int))) then (K ((sub s 0 (Int.toNat (IntKind.i64.wrap ((s.length : Int) - 4)))), 0)) else False))) else False)) else False)) := by kernel_rfl
theorem eq (x : Dens [.str]) (K : (Str × Int) → Prop) : apure E tab (fun _ => none) 4 23 (encA [.str] x) (ansK ((cTwo .str (.int .i64))) K) = F x.1 K := eqv num_Get32.F check_Sum.F x.1 K
theorem loops : LoopsOk E tab (fun _ => none) 4 23 := loops_none _ _ _ _
theorem det (s : Str) : Det (F s) := by
  unfold F
  repeat' first | with_reducible exact det_ret _ | with_reducible exact det_false | with_reducible refine det_cond _ ?_ ?_ | with_reducible refine det_oget _ (fun _ => ?_) | with_reducible exact num_Get32.det _ | with_reducible refine det_bind (num_Get32.det _) (fun _ => ?_) | with_reducible exact check_Sum.det _ | with_reducible refine det_bind (check_Sum.det _) (fun _ => ?_)
theorem edet (args : List AV) : Det (en args) := mkEntry_det (ts := [.str]) (cod := (cTwo .str (.int .i64))) (F := fun x => F x.1) (fun x => det x.1) args
theorem ground : Ground E tab := ⟨num, mixed, (tab_cons num_Get32.sound (tab_cons check_Sum.sound (tab_nil _))), clone, (dtab_cons num_Get32.edet (dtab_cons check_Sum.edet dtab_nil))⟩
theorem has : ((E.P.funcs[23]?).bind (·.body)).isSome = true := by kernel_rfl
theorem sound : EntrySound E.P 23 en := mkSound (ts := [.str]) (cod := (cTwo .str (.int .i64))) (F := fun x => F x.1) ground loops has eq
end check_Open
namespace law02_alive
noncomputable def tab : Tab := [(27, check_Seal.en), (23, check_Open.en), (25, check_Sum.en)]
def F (K : Bool → Prop) : Prop :=
  (check_Seal.F ([97, 98] : Str) fun r1 => (check_Open.F r1 fun r2 => (bif (fits (r1.length + ([120] : Str).length)) then (check_Open.F (r1 ++ ([120] : Str)) fun r3 => (check_Open.F ([97, 98, 99] : Str) fun r4 => (check_Sum.F ([] : Str) fun r5 => (bif (r5 == 2166136261) then (check_Sum.F ([97] : Str) fun r6 => (bif (r6 == 3826002220) then (bif ((r1.length : Int) == 6) then (bif (r2.1 == ([97, 98] : Str)) then (bif (r2.2 == 0) then (bif (r3.2 == 3) then (K (r4.2 == 2)) else (K false)) else (K false)) else (K false)) else (K false)) else (K false))) else (K false))))) else False)))
noncomputable def en : Entry := mkEntry [] (cTy .bool) fun x => F 
noncomputable def tabV (f0 : Str → (Str → Prop) → Prop) (f1 : Str → ((Str × Int) → Prop) → Prop) (f2 : Str → (Int → Prop) → Prop) : Tab := [(27, mkEntry [.str] (cTy .str) fun x => f0 x.1), (23, mkEntry [.str] (cTwo .str (.int .i64)) fun x => f1 x.1), (25, mkEntry [.str] (cTy (.int .u32)) fun x => f2 x.1)]
theorem tabE : tab = tabV check_Seal.F check_Open.F check_Sum.F := by kernel_rfl
theorem eqv (f0 : Str → (Str → Prop) → Prop) (f1 : Str → ((Str × Int) → Prop) → Prop) (f2 : Str → (Int → Prop) → Prop) (K : Bool → Prop) : apure E (tabV f0 f1 f2) (fun _ => none) 4 22 [] (ansK ((cTy .bool)) K) =
  (f0 ([97, 98] : Str) fun r1 => (f1 r1 fun r2 => (bif (fits (r1.length + ([120] : Str).length)) then (f1 (r1 ++ ([120] : Str)) fun r3 => (f1 ([97, 98, 99] : Str) fun r4 => (f2 ([] : Str) fun r5 => (bif (r5 == 2166136261) then (f2 ([97] : Str) fun r6 => (bif (r6 == 3826002220) then (bif ((r1.length : Int) == 6) then (bif (r2.1 == ([97, 98] : Str)) then (bif (r2.2 == 0) then (bif (r3.2 == 3) then (K (r4.2 == 2)) else (K false)) else (K false)) else (K false)) else (K false)) else (K false))) else (K false))))) else False))) := by kernel_rfl
theorem eq (x : Dens []) (K : Bool → Prop) : apure E tab (fun _ => none) 4 22 (encA [] x) (ansK ((cTy .bool)) K) = F  K := eqv check_Seal.F check_Open.F check_Sum.F  K
theorem loops : LoopsOk E tab (fun _ => none) 4 22 := loops_none _ _ _ _
theorem det : Det (F) := by
  unfold F
  repeat' first | with_reducible exact det_ret _ | with_reducible exact det_false | with_reducible refine det_cond _ ?_ ?_ | with_reducible refine det_oget _ (fun _ => ?_) | with_reducible exact check_Seal.det _ | with_reducible refine det_bind (check_Seal.det _) (fun _ => ?_) | with_reducible exact check_Open.det _ | with_reducible refine det_bind (check_Open.det _) (fun _ => ?_) | with_reducible exact check_Sum.det _ | with_reducible refine det_bind (check_Sum.det _) (fun _ => ?_)
theorem edet (args : List AV) : Det (en args) := mkEntry_det (ts := []) (cod := (cTy .bool)) (F := fun _ => F) (fun _ => det ) args
theorem ground : Ground E tab := ⟨num, mixed, (tab_cons check_Seal.sound (tab_cons check_Open.sound (tab_cons check_Sum.sound (tab_nil _)))), clone, (dtab_cons check_Seal.edet (dtab_cons check_Open.edet (dtab_cons check_Sum.edet dtab_nil)))⟩
theorem has : ((E.P.funcs[22]?).bind (·.body)).isSome = true := by kernel_rfl
theorem sound : EntrySound E.P 22 en := mkSound (ts := []) (cod := (cTy .bool)) (F := fun _ => F) ground loops has eq
end law02_alive
namespace ref02_Sum
noncomputable def tab : Tab := []
structure R where
def cR (_ : R) : St := { fr := fun _ => .top, hs := hs0 }
def kR : Keep := { ks := [], bs := [], hn := 0 }
structure L0 where
  s : Str
  n0 : Int
  i : Int
def c0 (x : L0) : St := { fr := lookL .top [(0, (.str x.s)), (3, (.int .u64 x.n0)), (4, (.int .i64 x.i))], hs := { hp := lookL .dead [], hn := 0 } }
def kp0 : Keep := { ks := [(0, none), (3, none), (4, none)], bs := [], hn := 0 }
def p0 (st : St) (K : L0 → Prop) : Prop := gStr (st.fr 0) fun a1 => gInt .u64 (st.fr 3) fun a2 => gInt .i64 (st.fr 4) fun a3 => K ⟨a1, a2, a3⟩
theorem p0_ok (st : St) (K : L0 → Prop) (h : p0 st K) : ∃ x, keepSt kp0 st = c0 x ∧ K x := by
  obtain ⟨a1, h0, h⟩ := gStr_elim h
  obtain ⟨a2, h1, h⟩ := gInt_elim h
  obtain ⟨a3, h2, h⟩ := gInt_elim h
  refine ⟨_, ?_, h⟩
  simp only [keepSt, kp0, List.map, h0, h1, h2]
  rfl
def b0 (rec kx : L0 → Prop) (kr : R → Prop) (x : L0) : Prop :=
  (bif (decide (x.i < (x.s.length : Int))) then (oget (getI x.s x.i) fun v1 => (bif (4294967296 == 0) then False else (rec ⟨x.s, ((IntKind.u64.wrap ((ixor .u64 x.n0 (IntKind.u64.wrap (v1.toNat : Int))) * 16777619)).tmod 4294967296), (IntKind.i64.wrap (x.i + 1))⟩))) else (kx ⟨x.s, x.n0, x.i⟩))
def l0 : LSpec := mkLoop 0 kp0 kR p0 c0 cR b0
def lt : Nat → Option LSpec
  | 0 => some l0
  | _ => none
def F (s : Str) (K : Int → Prop) : Prop :=
  (∃ n, loopB b0 n (fun x2 => (K (IntKind.u32.wrap x2.n0))) (fun _ => False) ⟨s, 2166136261, 0⟩)
noncomputable def en : Entry := mkEntry [.str] (cTy (.int .u32)) fun x => F x.1
theorem eq (x : Dens [.str]) (K : Int → Prop) : apure E tab lt 4 26 (encA [.str] x) (ansK ((cTy (.int .u32))) K) = F x.1 K := by kernel_rfl
theorem l0_ok : LSound E tab (afun E tab 4) 21 lt 0 ((loopsIn E.P 26).getD 0 (0, .skip)).2 l0 := mkLoop_sound (by decide) (by decide) p0_ok (fun R Kx Kr x => by kernel_rfl)
theorem loops : LoopsOk E tab lt 4 26 := loops_of (nt := 21) (ids := [0]) (by kernel_rfl) (by kernel_rfl) (by
  intro k i hk l hl
  match k, hk with
  | 0, hk => cases hk; cases hl; exact l0_ok
  | _ + 1, hk => exact absurd hk (by simp))
theorem det (s : Str) : Det (F s) := by
  unfold F
  repeat' first | with_reducible exact det_ret _ | with_reducible exact det_false | with_reducible refine det_cond _ ?_ ?_ | with_reducible refine det_oget _ (fun _ => ?_) | with_reducible refine det_loop (fun _ => ?_) (fun _ => ?_) (fun _ => ?_) _ | unfold b0
theorem edet (args : List AV) : Det (en args) := mkEntry_det (ts := [.str]) (cod := (cTy (.int .u32))) (F := fun x => F x.1) (fun x => det x.1) args
theorem ground : Ground E tab := ⟨num, mixed, (tab_nil _), clone, dtab_nil⟩
theorem has : ((E.P.funcs[26]?).bind (·.body)).isSome = true := by kernel_rfl
theorem sound : EntrySound E.P 26 en := mkSound (ts := [.str]) (cod := (cTy (.int .u32))) (F := fun x => F x.1) ground loops has eq
end ref02_Sum
namespace ref01_put
noncomputable def tab : Tab := []
structure R where
def cR (_ : R) : St := { fr := fun _ => .top, hs := hs0 }
def kR : Keep := { ks := [], bs := [], hn := 0 }
structure L0 where
  n0 : Int
  size : Int
  s : Str
  i : Int
def c0 (x : L0) : St := { fr := lookL .top [(0, (.int .u64 x.n0)), (1, (.int .i64 x.size)), (5, (.str x.s)), (6, (.int .i64 x.i))], hs := { hp := lookL .dead [], hn := 0 } }
def kp0 : Keep := { ks := [(0, none), (1, none), (5, none), (6, none)], bs := [], hn := 0 }
def p0 (st : St) (K : L0 → Prop) : Prop := gInt .u64 (st.fr 0) fun a1 => gInt .i64 (st.fr 1) fun a2 => gStr (st.fr 5) fun a3 => gInt .i64 (st.fr 6) fun a4 => K ⟨a1, a2, a3, a4⟩
theorem p0_ok (st : St) (K : L0 → Prop) (h : p0 st K) : ∃ x, keepSt kp0 st = c0 x ∧ K x := by
  obtain ⟨a1, h0, h⟩ := gInt_elim h
  obtain ⟨a2, h1, h⟩ := gInt_elim h
  obtain ⟨a3, h2, h⟩ := gStr_elim h
  obtain ⟨a4, h3, h⟩ := gInt_elim h
  refine ⟨_, ?_, h⟩
  simp only [keepSt, kp0, List.map, h0, h1, h2, h3]
  rfl
def b0 (rec kx : L0 → Prop) (kr : R → Prop) (x : L0) : Prop :=
  (bif (decide (x.i < x.size)) then (bif (256 == 0) then False else (bif (fits ((bytesOfInts ([(IntKind.u8.wrap (x.n0.tmod 256))] : List Int)).length + x.s.length)) then (bif (256 == 0) then False else (rec ⟨(IntKind.u64.wrap (x.n0.tdiv 256)), x.size, ((bytesOfInts ([(IntKind.u8.wrap (x.n0.tmod 256))] : List Int)) ++ x.s), (IntKind.i64.wrap (x.i + 1))⟩)) else False)) else (kx ⟨x.n0, x.size, x.s, x.i⟩))
def l0 : LSpec := mkLoop 0 kp0 kR p0 c0 cR b0
def lt : Nat → Option LSpec
  | 0 => some l0
  | _ => none
def F (n_0 : Int) (size : Int) (K : Str → Prop) : Prop :=
  (∃ n, loopB b0 n (fun x1 => (K x1.s)) (fun _ => False) ⟨n_0, size, ([] : Str), 0⟩)
noncomputable def en : Entry := mkEntry [(.int .u64), (.int .i64)] (cTy .str) fun x => F x.1 x.2.1
theorem eq (x : Dens [(.int .u64), (.int .i64)]) (K : Str → Prop) : apure E tab lt 4 92 (encA [(.int .u64), (.int .i64)] x) (ansK ((cTy .str)) K) = F x.1 x.2.1 K := by kernel_rfl
theorem l0_ok : LSound E tab (afun E tab 4) 22 lt 0 ((loopsIn E.P 92).getD 0 (0, .skip)).2 l0 := mkLoop_sound (by decide) (by decide) p0_ok (fun R Kx Kr x => by kernel_rfl)
theorem loops : LoopsOk E tab lt 4 92 := loops_of (nt := 22) (ids := [0]) (by kernel_rfl) (by kernel_rfl) (by
  intro k i hk l hl
  match k, hk with
  | 0, hk => cases hk; cases hl; exact l0_ok
  | _ + 1, hk => exact absurd hk (by simp))
theorem det (n_0 : Int) (size : Int) : Det (F n_0 size) := by
  unfold F
  repeat' first | with_reducible exact det_ret _ | with_reducible exact det_false | with_reducible refine det_cond _ ?_ ?_ | with_reducible refine det_oget _ (fun _ => ?_) | with_reducible refine det_loop (fun _ => ?_) (fun _ => ?_) (fun _ => ?_) _ | unfold b0
theorem edet (args : List AV) : Det (en args) := mkEntry_det (ts := [(.int .u64), (.int .i64)]) (cod := (cTy .str)) (F := fun x => F x.1 x.2.1) (fun x => det x.1 x.2.1) args
theorem ground : Ground E tab := ⟨num, mixed, (tab_nil _), clone, dtab_nil⟩
theorem has : ((E.P.funcs[92]?).bind (·.body)).isSome = true := by kernel_rfl
theorem sound : EntrySound E.P 92 en := mkSound (ts := [(.int .u64), (.int .i64)]) (cod := (cTy .str)) (F := fun x => F x.1 x.2.1) ground loops has eq
end ref01_put
namespace ref01_Put32
noncomputable def tab : Tab := [(92, ref01_put.en)]
def F (n_0 : Int) (K : Str → Prop) : Prop :=
  (ref01_put.F (IntKind.u64.wrap n_0) 4 fun r1 => (K r1))
noncomputable def en : Entry := mkEntry [(.int .u32)] (cTy .str) fun x => F x.1
noncomputable def tabV (f0 : Int → Int → (Str → Prop) → Prop) : Tab := [(92, mkEntry [(.int .u64), (.int .i64)] (cTy .str) fun x => f0 x.1 x.2.1)]
theorem tabE : tab = tabV ref01_put.F := by kernel_rfl
theorem eqv (f0 : Int → Int → (Str → Prop) → Prop) (n_0 : Int) (K : Str → Prop) : apure E (tabV f0) (fun _ => none) 4 35 [enc (.int .u32) n_0] (ansK ((cTy .str)) K) =
  (f0 (IntKind.u64.wrap n_0) 4 fun r1 => (K r1)) := by kernel_rfl
theorem eq (x : Dens [(.int .u32)]) (K : Str → Prop) : apure E tab (fun _ => none) 4 35 (encA [(.int .u32)] x) (ansK ((cTy .str)) K) = F x.1 K := eqv ref01_put.F x.1 K
theorem loops : LoopsOk E tab (fun _ => none) 4 35 := loops_none _ _ _ _
theorem det (n_0 : Int) : Det (F n_0) := by
  unfold F
  repeat' first | with_reducible exact det_ret _ | with_reducible exact det_false | with_reducible refine det_cond _ ?_ ?_ | with_reducible refine det_oget _ (fun _ => ?_) | with_reducible exact ref01_put.det _ _ | with_reducible refine det_bind (ref01_put.det _ _) (fun _ => ?_)
theorem edet (args : List AV) : Det (en args) := mkEntry_det (ts := [(.int .u32)]) (cod := (cTy .str)) (F := fun x => F x.1) (fun x => det x.1) args
theorem ground : Ground E tab := ⟨num, mixed, (tab_cons ref01_put.sound (tab_nil _)), clone, (dtab_cons ref01_put.edet dtab_nil)⟩
theorem has : ((E.P.funcs[35]?).bind (·.body)).isSome = true := by kernel_rfl
theorem sound : EntrySound E.P 35 en := mkSound (ts := [(.int .u32)]) (cod := (cTy .str)) (F := fun x => F x.1) ground loops has eq
end ref01_Put32
namespace ref02_Seal
noncomputable def tab : Tab := [(26, ref02_Sum.en), (35, ref01_Put32.en)]
def F (s : Str) (K : Str → Prop) : Prop :=
  (ref02_Sum.F s fun r1 => (ref01_Put32.F r1 fun r2 => (bif (fits (s.length + r2.length)) then (K (s ++ r2)) else False)))
noncomputable def en : Entry := mkEntry [.str] (cTy .str) fun x => F x.1
noncomputable def tabV (f0 : Str → (Int → Prop) → Prop) (f1 : Int → (Str → Prop) → Prop) : Tab := [(26, mkEntry [.str] (cTy (.int .u32)) fun x => f0 x.1), (35, mkEntry [(.int .u32)] (cTy .str) fun x => f1 x.1)]
theorem tabE : tab = tabV ref02_Sum.F ref01_Put32.F := by kernel_rfl
theorem eqv (f0 : Str → (Int → Prop) → Prop) (f1 : Int → (Str → Prop) → Prop) (s : Str) (K : Str → Prop) : apure E (tabV f0 f1) (fun _ => none) 4 28 [enc .str s] (ansK ((cTy .str)) K) =
  (f0 s fun r1 => (f1 r1 fun r2 => (bif (fits (s.length + r2.length)) then (K (s ++ r2)) else False))) := by kernel_rfl
theorem eq (x : Dens [.str]) (K : Str → Prop) : apure E tab (fun _ => none) 4 28 (encA [.str] x) (ansK ((cTy .str)) K) = F x.1 K := eqv ref02_Sum.F ref01_Put32.F x.1 K
theorem loops : LoopsOk E tab (fun _ => none) 4 28 := loops_none _ _ _ _
theorem det (s : Str) : Det (F s) := by
  unfold F
  repeat' first | with_reducible exact det_ret _ | with_reducible exact det_false | with_reducible refine det_cond _ ?_ ?_ | with_reducible refine det_oget _ (fun _ => ?_) | with_reducible exact ref02_Sum.det _ | with_reducible refine det_bind (ref02_Sum.det _) (fun _ => ?_) | with_reducible exact ref01_Put32.det _ | with_reducible refine det_bind (ref01_Put32.det _) (fun _ => ?_)
theorem edet (args : List AV) : Det (en args) := mkEntry_det (ts := [.str]) (cod := (cTy .str)) (F := fun x => F x.1) (fun x => det x.1) args
theorem ground : Ground E tab := ⟨num, mixed, (tab_cons ref02_Sum.sound (tab_cons ref01_Put32.sound (tab_nil _))), clone, (dtab_cons ref02_Sum.edet (dtab_cons ref01_Put32.edet dtab_nil))⟩
theorem has : ((E.P.funcs[28]?).bind (·.body)).isSome = true := by kernel_rfl
theorem sound : EntrySound E.P 28 en := mkSound (ts := [.str]) (cod := (cTy .str)) (F := fun x => F x.1) ground loops has eq
end ref02_Seal
namespace ref02_Open
noncomputable def tab : Tab := [(28, ref02_Seal.en)]
def F (s : Str) (K : (Str × Int) → Prop) : Prop :=
  (bif (decide ((s.length : Int) < 4)) then (K (([] : Str), 2)) else (bif (decide (0 ≤ (IntKind.i64.wrap ((s.length : Int) - 4))) && decide ((IntKind.i64.wrap ((s.length : Int) - 4)) ≤ (s.length : Int))) then (ref02_Seal.F (sub s 0 (Int.toNat (IntKind.i64.wrap ((s.length : Int) - 4)))) fun r1 => (bif (!(r1 == s)) then (K (([] : Str), 3)) else (K ((sub s 0 (Int.toNat (IntKind.i64.wrap ((s.length : Int) - 4)))), 0)))) else False))
noncomputable def en : Entry := mkEntry [.str] (cTwo .str (.int .i64)) fun x => F x.1
noncomputable def tabV (f0 : Str → (Str → Prop) → Prop) : Tab := [(28, mkEntry [.str] (cTy .str) fun x => f0 x.1)]
theorem tabE : tab = tabV ref02_Seal.F := by kernel_rfl
theorem eqv (f0 : Str → (Str → Prop) → Prop) (s : Str) (K : (Str × Int) → Prop) : apure E (tabV f0) (fun _ => none) 4 24 [enc .str s] (ansK ((cTwo .str (.int .i64))) K) =
  (bif (decide ((s.length : Int) < 4)) then (K (([] : Str), 2)) else (bif (decide (0 ≤ (IntKind.i64.wrap ((s.length : Int) - 4))) && decide ((IntKind.i64.wrap ((s.length : Int) - 4)) ≤ (s.length : Int))) then (f0 (sub s 0 (Int.toNat (IntKind.i64.wrap ((s.length : Int) - 4)))) fun r1 => (bif (!(r1 == s)) then (K (([] : Str), 3)) else (K ((sub s 0 (Int.toNat (IntKind.i64.wrap ((s.length : Int) - 4)))), 0)))) else False)) := by kernel_rfl
theorem eq (x : Dens [.str]) (K : (Str × Int) → Prop) : apure E tab (fun _ => none) 4 24 (encA [.str] x) (ansK ((cTwo .str (.int .i64))) K) = F x.1 K := eqv ref02_Seal.F x.1 K
theorem loops : LoopsOk E tab (fun _ => none) 4 24 := loops_none _ _ _ _
theorem det (s : Str) : Det (F s) := by
  unfold F
  repeat' first | with_reducible exact det_ret _ | with_reducible exact det_false | with_reducible refine det_cond _ ?_ ?_ | with_reducible refine det_oget _ (fun _ => ?_) | with_reducible exact ref02_Seal.det _ | with_reducible refine det_bind (ref02_Seal.det _) (fun _ => ?_)
theorem edet (args : List AV) : Det (en args) := mkEntry_det (ts := [.str]) (cod := (cTwo .str (.int .i64))) (F := fun x => F x.1) (fun x => det x.1) args
theorem ground : Ground E tab := ⟨num, mixed, (tab_cons ref02_Seal.sound (tab_nil _)), clone, (dtab_cons ref02_Seal.edet dtab_nil)⟩
theorem has : ((E.P.funcs[24]?).bind (·.body)).isSome = true := by kernel_rfl
theorem sound : EntrySound E.P 24 en := mkSound (ts := [.str]) (cod := (cTwo .str (.int .i64))) (F := fun x => F x.1) ground loops has eq
end ref02_Open
namespace law02_CheckSums
noncomputable def tab : Tab := [(22, law02_alive.en), (23, check_Open.en), (24, ref02_Open.en), (25, check_Sum.en), (26, ref02_Sum.en), (27, check_Seal.en), (28, ref02_Seal.en)]
def F (s : Str) (K : Bool → Prop) : Prop :=
  (law02_alive.F fun r1 => (bif (!r1) then (K false) else (bif (decide ((s.length : Int) > 2000)) then (K true) else (check_Open.F s fun r2 => (ref02_Open.F s fun r3 => (check_Sum.F s fun r4 => (ref02_Sum.F s fun r5 => (bif (r4 == r5) then (check_Seal.F s fun r6 => (ref02_Seal.F s fun r7 => (bif (r6 == r7) then (bif (r2.1 == r3.1) then (K (r2.2 == r3.2)) else (K false)) else (K false)))) else (K false)))))))))
noncomputable def en : Entry := mkEntry [.str] (cTy .bool) fun x => F x.1
noncomputable def tabV (f0 : (Bool → Prop) → Prop) (f1 : Str → ((Str × Int) → Prop) → Prop) (f2 : Str → ((Str × Int) → Prop) → Prop) (f3 : Str → (Int → Prop) → Prop) (f4 : Str → (Int → Prop) → Prop) (f5 : Str → (Str → Prop) → Prop) (f6 : Str → (Str → Prop) → Prop) : Tab := [(22, mkEntry [] (cTy .bool) fun _ => f0), (23, mkEntry [.str] (cTwo .str (.int .i64)) fun x => f1 x.1), (24, mkEntry [.str] (cTwo .str (.int .i64)) fun x => f2 x.1), (25, mkEntry [.str] (cTy (.int .u32)) fun x => f3 x.1), (26, mkEntry [.str] (cTy (.int .u32)) fun x => f4 x.1), (27, mkEntry [.str] (cTy .str) fun x => f5 x.1), (28, mkEntry [.str] (cTy .str) fun x => f6 x.1)]
theorem tabE : tab = tabV law02_alive.F check_Open.F ref02_Open.F check_Sum.F ref02_Sum.F check_Seal.F ref02_Seal.F := by kernel_rfl
theorem eqv (f0 : (Bool → Prop) → Prop) (f1 : Str → ((Str × Int) → Prop) → Prop) (f2 : Str → ((Str × Int) → Prop) → Prop) (f3 : Str → (Int → Prop) → Prop) (f4 : Str → (Int → Prop) → Prop) (f5 : Str → (Str → Prop) → Prop) (f6 : Str → (Str → Prop) → Prop) (s : Str) (K : Bool → Prop) : apure E (tabV f0 f1 f2 f3 f4 f5 f6) (fun _ => none) 4 3 [enc .str s] (ansK ((cTy .bool)) K) =
  (f0 fun r1 => (bif (!r1) then (K false) else (bif (decide ((s.length : Int) > 2000)) then (K true) else (f1 s fun r2 => (f2 s fun r3 => (f3 s fun r4 => (f4 s fun r5 => (bif (r4 == r5) then (f5 s fun r6 => (f6 s fun r7 => (bif (r6 == r7) then (bif (r2.1 == r3.1) then (K (r2.2 == r3.2)) else (K false)) else (K false)))) else (K false))))))))) := by kernel_rfl
theorem eq (x : Dens [.str]) (K : Bool → Prop) : apure E tab (fun _ => none) 4 3 (encA [.str] x) (ansK ((cTy .bool)) K) = F x.1 K := eqv law02_alive.F check_Open.F ref02_Open.F check_Sum.F ref02_Sum.F check_Seal.F ref02_Seal.F x.1 K
theorem loops : LoopsOk E tab (fun _ => none) 4 3 := loops_none _ _ _ _
theorem det (s : Str) : Det (F s) := by
  unfold F
  repeat' first | with_reducible exact det_ret _ | with_reducible exact det_false | with_reducible refine det_cond _ ?_ ?_ | with_reducible refine det_oget _ (fun _ => ?_) | with_reducible exact law02_alive.det | with_reducible refine det_bind (law02_alive.det) (fun _ => ?_) | with_reducible exact check_Open.det _ | with_reducible refine det_bind (check_Open.det _) (fun _ => ?_) | with_reducible exact ref02_Open.det _ | with_reducible refine det_bind (ref02_Open.det _) (fun _ => ?_) | with_reducible exact check_Sum.det _ | with_reducible refine det_bind (check_Sum.det _) (fun _ => ?_) | with_reducible exact ref02_Sum.det _ | with_reducible refine det_bind (ref02_Sum.det _) (fun _ => ?_) | with_reducible exact check_Seal.det _ | with_reducible refine det_bind (check_Seal.det _) (fun _ => ?_) | with_reducible exact ref02_Seal.det _ | with_reducible refine det_bind (ref02_Seal.det _) (fun _ => ?_)
theorem edet (args : List AV) : Det (en args) := mkEntry_det (ts := [.str]) (cod := (cTy .bool)) (F := fun x => F x.1) (fun x => det x.1) args
theorem ground : Ground E tab := ⟨num, mixed, (tab_cons law02_alive.sound (tab_cons check_Open.sound (tab_cons ref02_Open.sound (tab_cons check_Sum.sound (tab_cons ref02_Sum.sound (tab_cons check_Seal.sound (tab_cons ref02_Seal.sound (tab_nil _)))))))), clone, (dtab_cons law02_alive.edet (dtab_cons check_Open.edet (dtab_cons ref02_Open.edet (dtab_cons check_Sum.edet (dtab_cons ref02_Sum.edet (dtab_cons check_Seal.edet (dtab_cons ref02_Seal.edet dtab_nil)))))))⟩
theorem has : ((E.P.funcs[3]?).bind (·.body)).isSome = true := by kernel_rfl
theorem sound : EntrySound E.P 3 en := mkSound (ts := [.str]) (cod := (cTy .bool)) (F := fun x => F x.1) ground loops has eq
end law02_CheckSums
namespace law02_CheckBack
noncomputable def tab : Tab := [(22, law02_alive.en), (27, check_Seal.en), (23, check_Open.en)]
def F (s : Str) (at_1 : Int) (c : Int) (K : Bool → Prop) : Prop :=
  (law02_alive.F fun r1 => (bif (!r1) then (K false) else (bif (decide ((s.length : Int) > 2000)) then (K true) else (check_Seal.F s fun r2 => (check_Open.F r2 fun r3 => (bif (!(r3.1 == s)) then (K false) else (bif (r3.2 != 0) then (K false) else (bif ((r2.length : Int) != (IntKind.i64.wrap ((s.length : Int) + 4))) then (K false) else (bif (((intsOfBytes r2).length : Int) == 0) then False else (bif (decide (0 ≤ ((IntKind.i64.wrap at_1).tmod ((intsOfBytes r2).length : Int))) && decide (((IntKind.i64.wrap at_1).tmod ((intsOfBytes r2).length : Int)) < ((intsOfBytes r2).length : Int))) then (oget (intsOfBytes r2)[(Int.toNat ((IntKind.i64.wrap at_1).tmod ((intsOfBytes r2).length : Int)))]? fun v4 => (bif (v4 == c) then (K true) else (bif (decide (0 ≤ ((IntKind.i64.wrap at_1).tmod ((intsOfBytes r2).length : Int))) && decide (((IntKind.i64.wrap at_1).tmod ((intsOfBytes r2).length : Int)) < ((intsOfBytes r2).length : Int))) then (check_Open.F (bytesOfInts ((intsOfBytes r2).set (Int.toNat ((IntKind.i64.wrap at_1).tmod ((intsOfBytes r2).length : Int))) c)) fun r5 => (K (r5.2 == 3))) else False))) else False))))))))))
noncomputable def en : Entry := mkEntry [.str, (.int .u16), (.int .u8)] (cTy .bool) fun x => F x.1 x.2.1 x.2.2.1
noncomputable def tabV (f0 : (Bool → Prop) → Prop) (f1 : Str → (Str → Prop) → Prop) (f2 : Str → ((Str × Int) → Prop) → Prop) : Tab := [(22, mkEntry [] (cTy .bool) fun _ => f0), (27, mkEntry [.str] (cTy .str) fun x => f1 x.1), (23, mkEntry [.str] (cTwo .str (.int .i64)) fun x => f2 x.1)]
theorem tabE : tab = tabV law02_alive.F check_Seal.F check_Open.F := by kernel_rfl
theorem eqv (f0 : (Bool → Prop) → Prop) (f1 : Str → (Str → Prop) → Prop) (f2 : Str → ((Str × Int) → Prop) → Prop) (s : Str) (at_1 : Int) (c : Int) (K : Bool → Prop) : apure E (tabV f0 f1 f2) (fun _ => none) 4 4 [enc .str s, enc (.int .u16) at_1, enc (.int .u8) c] (ansK ((cTy .bool)) K) =
  (f0 fun r1 => (bif (!r1) then (K false) else (bif (decide ((s.length : Int) > 2000)) then (K true) else (f1 s fun r2 => (f2 r2 fun r3 => (bif (!(r3.1 == s)) then (K false) else (bif (r3.2 != 0) then (K false) else (bif ((r2.length : Int) != (IntKind.i64.wrap ((s.length : Int) + 4))) then (K false) else (bif (((intsOfBytes r2).length : Int) == 0) then False else (bif (decide (0 ≤ ((IntKind.i64.wrap at_1).tmod ((intsOfBytes r2).length : Int))) && decide (((IntKind.i64.wrap at_1).tmod ((intsOfBytes r2).length : Int)) < ((intsOfBytes r2).length : Int))) then (oget (intsOfBytes r2)[(Int.toNat ((IntKind.i64.wrap at_1).tmod ((intsOfBytes r2).length : Int)))]? fun v4 => (bif (v4 == c) then (K true) else (bif (decide (0 ≤ ((IntKind.i64.wrap at_1).tmod ((intsOfBytes r2).length : Int))) && decide (((IntKind.i64.wrap at_1).tmod ((intsOfBytes r2).length : Int)) < ((intsOfBytes r2).length : Int))) then (f2 (bytesOfInts ((intsOfBytes r2).set (Int.toNat ((IntKind.i64.wrap at_1).tmod ((intsOfBytes r2).length : Int))) c)) fun r5 => (K (r5.2 == 3))) else False))) else False)))))))))) := by kernel_rfl
theorem eq (x : Dens [.str, (.int .u16), (.int .u8)]) (K : Bool → Prop) : apure E tab (fun _ => none) 4 4 (encA [.str, (.int .u16), (.int .u8)] x) (ansK ((cTy .bool)) K) = F x.1 x.2.1 x.2.2.1 K := eqv law02_alive.F check_Seal.F check_Open.F x.1 x.2.1 x.2.2.1 K
theorem loops : LoopsOk E tab (fun _ => none) 4 4 := loops_none _ _ _ _
theorem det (s : Str) (at_1 : Int) (c : Int) : Det (F s at_1 c) := by
  unfold F
  repeat' first | with_reducible exact det_ret _ | with_reducible exact det_false | with_reducible refine det_cond _ ?_ ?_ | with_reducible refine det_oget _ (fun _ => ?_) | with_reducible exact law02_alive.det | with_reducible refine det_bind (law02_alive.det) (fun _ => ?_) | with_reducible exact check_Seal.det _ | with_reducible refine det_bind (check_Seal.det _) (fun _ => ?_) | with_reducible exact check_Open.det _ | with_reducible refine det_bind (check_Open.det _) (fun _ => ?_)
theorem edet (args : List AV) : Det (en args) := mkEntry_det (ts := [.str, (.int .u16), (.int .u8)]) (cod := (cTy .bool)) (F := fun x => F x.1 x.2.1 x.2.2.1) (fun x => det x.1 x.2.1 x.2.2.1) args
theorem ground : Ground E tab := ⟨num, mixed, (tab_cons law02_alive.sound (tab_cons check_Seal.sound (tab_cons check_Open.sound (tab_nil _)))), clone, (dtab_cons law02_alive.edet (dtab_cons check_Seal.edet (dtab_cons check_Open.edet dtab_nil)))⟩
theorem has : ((E.P.funcs[4]?).bind (·.body)).isSome = true := by kernel_rfl
theorem sound : EntrySound E.P 4 en := mkSound (ts := [.str, (.int .u16), (.int .u8)]) (cod := (cTy .bool)) (F := fun x => F x.1 x.2.1 x.2.2.1) ground loops has eq
end law02_CheckBack
namespace law02_CheckGrows
noncomputable def tab : Tab := [(22, law02_alive.en), (25, check_Sum.en)]
def F (s : Str) (c : Int) (K : Bool → Prop) : Prop :=
  (law02_alive.F fun r1 => (bif (!r1) then (K false) else (bif (decide ((s.length : Int) > 2000)) then (K true) else (check_Sum.F s fun r2 => (bif (fits (s.length + (bytesOfInts ([c] : List Int)).length)) then (check_Sum.F (s ++ (bytesOfInts ([c] : List Int))) fun r3 => (bif (4294967296 == 0) then False else (K ((IntKind.u64.wrap r3) == ((IntKind.u64.wrap ((ixor .u64 (IntKind.u64.wrap r2) (IntKind.u64.wrap c)) * 16777619)).tmod 4294967296))))) else False)))))
noncomputable def en : Entry := mkEntry [.str, (.int .u8)] (cTy .bool) fun x => F x.1 x.2.1
noncomputable def tabV (f0 : (Bool → Prop) → Prop) (f1 : Str → (Int → Prop) → Prop) : Tab := [(22, mkEntry [] (cTy .bool) fun _ => f0), (25, mkEntry [.str] (cTy (.int .u32)) fun x => f1 x.1)]
theorem tabE : tab = tabV law02_alive.F check_Sum.F := by kernel_rfl
theorem eqv (f0 : (Bool → Prop) → Prop) (f1 : Str → (Int → Prop) → Prop) (s : Str) (c : Int) (K : Bool → Prop) : apure E (tabV f0 f1) (fun _ => none) 4 5 [enc .str s, enc (.int .u8) c] (ansK ((cTy .bool)) K) =
  (f0 fun r1 => (bif (!r1) then (K false) else (bif (decide ((s.length : Int) > 2000)) then (K true) else (f1 s fun r2 => (bif (fits (s.length + (bytesOfInts ([c] : List Int)).length)) then (f1 (s ++ (bytesOfInts ([c] : List Int))) fun r3 => (bif (4294967296 == 0) then False else (K ((IntKind.u64.wrap r3) == ((IntKind.u64.wrap ((ixor .u64 (IntKind.u64.wrap r2) (IntKind.u64.wrap c)) * 16777619)).tmod 4294967296))))) else False))))) := by kernel_rfl
theorem eq (x : Dens [.str, (.int .u8)]) (K : Bool → Prop) : apure E tab (fun _ => none) 4 5 (encA [.str, (.int .u8)] x) (ansK ((cTy .bool)) K) = F x.1 x.2.1 K := eqv law02_alive.F check_Sum.F x.1 x.2.1 K
theorem loops : LoopsOk E tab (fun _ => none) 4 5 := loops_none _ _ _ _
theorem det (s : Str) (c : Int) : Det (F s c) := by
  unfold F
  repeat' first | with_reducible exact det_ret _ | with_reducible exact det_false | with_reducible refine det_cond _ ?_ ?_ | with_reducible refine det_oget _ (fun _ => ?_) | with_reducible exact law02_alive.det | with_reducible refine det_bind (law02_alive.det) (fun _ => ?_) | with_reducible exact check_Sum.det _ | with_reducible refine det_bind (check_Sum.det _) (fun _ => ?_)
theorem edet (args : List AV) : Det (en args) := mkEntry_det (ts := [.str, (.int .u8)]) (cod := (cTy .bool)) (F := fun x => F x.1 x.2.1) (fun x => det x.1 x.2.1) args
theorem ground : Ground E tab := ⟨num, mixed, (tab_cons law02_alive.sound (tab_cons check_Sum.sound (tab_nil _))), clone, (dtab_cons law02_alive.edet (dtab_cons check_Sum.edet dtab_nil))⟩
theorem has : ((E.P.funcs[5]?).bind (·.body)).isSome = true := by kernel_rfl
theorem sound : EntrySound E.P 5 en := mkSound (ts := [.str, (.int .u8)]) (cod := (cTy .bool)) (F := fun x => F x.1 x.2.1) ground loops has eq
end law02_CheckGrows
namespace num_Get64
noncomputable def tab : Tab := [(89, num_get.en)]
def F (s : Str) (K : (Int × Bool) → Prop) : Prop :=
  (bif ((s.length : Int) != 8) then (K (0, false)) else (num_get.F s fun r1 => (K (r1, true))))
noncomputable def en : Entry := mkEntry [.str] (cTwo (.int .u64) .bool) fun x => F x.1
noncomputable def tabV (f0 : Str → (Int → Prop) → Prop) : Tab := [(89, mkEntry [.str] (cTy (.int .u64)) fun x => f0 x.1)]
theorem tabE : tab = tabV num_get.F := by kernel_rfl
theorem eqv (f0 : Str → (Int → Prop) → Prop) (s : Str) (K : (Int × Bool) → Prop) : apure E (tabV f0) (fun _ => none) 4 32 [enc .str s] (ansK ((cTwo (.int .u64) .bool)) K) =
  (bif ((s.length : Int) != 8) then (K (0, false)) else (f0 s fun r1 => (K (r1, true)))) := by kernel_rfl
theorem eq (x : Dens [.str]) (K : (Int × Bool) → Prop) : apure E tab (fun _ => none) 4 32 (encA [.str] x) (ansK ((cTwo (.int .u64) .bool)) K) = F x.1 K := eqv num_get.F x.1 K
theorem loops : LoopsOk E tab (fun _ => none) 4 32 := loops_none _ _ _ _
theorem det (s : Str) : Det (F s) := by
  unfold F
  repeat' first | with_reducible exact det_ret _ | with_reducible exact det_false | with_reducible refine det_cond _ ?_ ?_ | with_reducible refine det_oget _ (fun _ => ?_) | with_reducible exact num_get.det _ | with_reducible refine det_bind (num_get.det _) (fun _ => ?_)
theorem edet (args : List AV) : Det (en args) := mkEntry_det (ts := [.str]) (cod := (cTwo (.int .u64) .bool)) (F := fun x => F x.1) (fun x => det x.1) args
theorem ground : Ground E tab := ⟨num, mixed, (tab_cons num_get.sound (tab_nil _)), clone, (dtab_cons num_get.edet dtab_nil)⟩
theorem has : ((E.P.funcs[32]?).bind (·.body)).isSome = true := by kernel_rfl
theorem sound : EntrySound E.P 32 en := mkSound (ts := [.str]) (cod := (cTwo (.int .u64) .bool)) (F := fun x => F x.1) ground loops has eq
end num_Get64
namespace num_Unflag
noncomputable def tab : Tab := []
structure R where
def cR (_ : R) : St := { fr := fun _ => .top, hs := hs0 }
def kR : Keep := { ks := [], bs := [], hn := 0 }
structure L0 where
  b0 : Int
  l : (List Bool)
  t23 : Int
  t24 : Int
def c0 (x : L0) : St := { fr := lookL .top [(0, (.int .u8 x.b0)), (6, (.slr 1)), (23, (.int .i64 x.t23)), (24, (.int .i64 x.t24))], hs := { hp := lookL .dead [(1, (.row false .bool x.l))], hn := 2 } }
def kp0 : Keep := { ks := [(0, none), (6, some 1), (23, none), (24, none)], bs := [], hn := 2 }
def p0 (st : St) (K : L0 → Prop) : Prop := gHomes kp0 st <| gInt .u8 (st.fr 0) fun a1 => gSlr (st.fr 6) fun c2 => gRow false .bool (st.hs.hp c2) fun a3 => gInt .i64 (st.fr 23) fun a4 => gInt .i64 (st.fr 24) fun a5 => K ⟨a1, a3, a4, a5⟩
theorem p0_ok (st : St) (K : L0 → Prop) (h : p0 st K) : ∃ x, keepSt kp0 st = c0 x ∧ K x := by
  obtain ⟨h0, h⟩ := gHomes_elim h
  obtain ⟨a1, h1, h⟩ := gInt_elim h
  obtain ⟨c2, h2, h⟩ := gSlr_elim h
  obtain ⟨a3, h3, h⟩ := gRow_elim h
  obtain ⟨a4, h4, h⟩ := gInt_elim h
  obtain ⟨a5, h5, h⟩ := gInt_elim h
  refine ⟨_, ?_, h⟩
  simp only [keepSt, h0]
  simp only [kp0, List.map, List.filterMap, homeOf, h1, h2, h3, h4, h5, hmOf, List.append_nil, cond_true]
  rfl
def b0 (rec kx : L0 → Prop) (kr : R → Prop) (x : L0) : Prop :=
  (bif (decide (x.t24 < x.t23)) then (bif (decide (0 ≤ x.t24)) then (bif (decide (0 ≤ x.t24) && decide (x.t24 < (x.l.length : Int))) then (rec ⟨x.b0, (x.l.set (Int.toNat x.t24) ((iand .u8 (ishr .u8 x.b0 x.t24) 1) == 1)), x.t23, (IntKind.i64.wrap (x.t24 + 1))⟩) else False) else False) else (kx ⟨x.b0, x.l, x.t23, x.t24⟩))
def l0 : LSpec := mkLoop 0 kp0 kR p0 c0 cR b0
def lt : Nat → Option LSpec
  | 0 => some l0
  | _ => none
def F (b_0 : Int) (n_1 : Int) (K : ((List Bool) × Bool) → Prop) : Prop :=
  (bif (decide (n_1 < 0)) then (K (([] : List Bool), false)) else (bif (decide (n_1 > 8)) then (K (([] : List Bool), false)) else (bif (decide (0 ≤ n_1)) then (bif ((ishr .u8 b_0 n_1) != 0) then (K (([] : List Bool), false)) else (bif (n_1 == n_1 && (decide (0 ≤ n_1) && decide (n_1 * (1 : Nat) ≤ (room : Int)))) then (∃ n, loopB b0 n (fun x1 => (K (x1.l, true))) (fun _ => False) ⟨b_0, (List.replicate (Int.toNat n_1) (false : Bool)), ((List.replicate (Int.toNat n_1) (false : Bool)).length : Int), 0⟩) else False)) else False)))
noncomputable def en : Entry := mkEntry [(.int .u8), (.int .i64)] (cTwo (.slice .bool) .bool) fun x => F x.1 x.2.1
theorem eq (x : Dens [(.int .u8), (.int .i64)]) (K : ((List Bool) × Bool) → Prop) : apure E tab lt 4 38 (encA [(.int .u8), (.int .i64)] x) (ansK ((cTwo (.slice .bool) .bool)) K) = F x.1 x.2.1 K := by kernel_rfl
theorem l0_ok : LSound E tab (afun E tab 4) 37 lt 0 ((loopsIn E.P 38).getD 0 (0, .skip)).2 l0 := mkLoop_sound (by decide) (by decide) p0_ok (fun R Kx Kr x => by kernel_rfl)
theorem loops : LoopsOk E tab lt 4 38 := loops_of (nt := 37) (ids := [0]) (by kernel_rfl) (by kernel_rfl) (by
  intro k i hk l hl
  match k, hk with
  | 0, hk => cases hk; cases hl; exact l0_ok
  | _ + 1, hk => exact absurd hk (by simp))
theorem det (b_0 : Int) (n_1 : Int) : Det (F b_0 n_1) := by
  unfold F
  repeat' first | with_reducible exact det_ret _ | with_reducible exact det_false | with_reducible refine det_cond _ ?_ ?_ | with_reducible refine det_oget _ (fun _ => ?_) | with_reducible refine det_loop (fun _ => ?_) (fun _ => ?_) (fun _ => ?_) _ | unfold b0
theorem edet (args : List AV) : Det (en args) := mkEntry_det (ts := [(.int .u8), (.int .i64)]) (cod := (cTwo (.slice .bool) .bool)) (F := fun x => F x.1 x.2.1) (fun x => det x.1 x.2.1) args
theorem ground : Ground E tab := ⟨num, mixed, (tab_nil _), clone, dtab_nil⟩
theorem has : ((E.P.funcs[38]?).bind (·.body)).isSome = true := by kernel_rfl
theorem sound : EntrySound E.P 38 en := mkSound (ts := [(.int .u8), (.int .i64)]) (cod := (cTwo (.slice .bool) .bool)) (F := fun x => F x.1 x.2.1) ground loops has eq
end num_Unflag
namespace num_Put64
noncomputable def tab : Tab := [(91, num_put.en)]
def F (n_0 : Int) (K : Str → Prop) : Prop :=
  (num_put.F n_0 8 fun r1 => (K r1))
noncomputable def en : Entry := mkEntry [(.int .u64)] (cTy .str) fun x => F x.1
noncomputable def tabV (f0 : Int → Int → (Str → Prop) → Prop) : Tab := [(91, mkEntry [(.int .u64), (.int .i64)] (cTy .str) fun x => f0 x.1 x.2.1)]
theorem tabE : tab = tabV num_put.F := by kernel_rfl
theorem eqv (f0 : Int → Int → (Str → Prop) → Prop) (n_0 : Int) (K : Str → Prop) : apure E (tabV f0) (fun _ => none) 4 36 [enc (.int .u64) n_0] (ansK ((cTy .str)) K) =
  (f0 n_0 8 fun r1 => (K r1)) := by kernel_rfl
theorem eq (x : Dens [(.int .u64)]) (K : Str → Prop) : apure E tab (fun _ => none) 4 36 (encA [(.int .u64)] x) (ansK ((cTy .str)) K) = F x.1 K := eqv num_put.F x.1 K
theorem loops : LoopsOk E tab (fun _ => none) 4 36 := loops_none _ _ _ _
theorem det (n_0 : Int) : Det (F n_0) := by
  unfold F
  repeat' first | with_reducible exact det_ret _ | with_reducible exact det_false | with_reducible refine det_cond _ ?_ ?_ | with_reducible refine det_oget _ (fun _ => ?_) | with_reducible exact num_put.det _ _ | with_reducible refine det_bind (num_put.det _ _) (fun _ => ?_)
theorem edet (args : List AV) : Det (en args) := mkEntry_det (ts := [(.int .u64)]) (cod := (cTy .str)) (F := fun x => F x.1) (fun x => det x.1) args
theorem ground : Ground E tab := ⟨num, mixed, (tab_cons num_put.sound (tab_nil _)), clone, (dtab_cons num_put.edet dtab_nil)⟩
theorem has : ((E.P.funcs[36]?).bind (·.body)).isSome = true := by kernel_rfl
theorem sound : EntrySound E.P 36 en := mkSound (ts := [(.int .u64)]) (cod := (cTy .str)) (F := fun x => F x.1) ground loops has eq
end num_Put64
namespace num_Flags
noncomputable def tab : Tab := []
structure R where
def cR (_ : R) : St := { fr := fun _ => .top, hs := hs0 }
def kR : Keep := { ks := [], bs := [], hn := 0 }
structure L0 where
  b0 : Int
  t9 : (List Bool)
  t10 : Int
  t11 : Int
def c0 (x : L0) : St := { fr := lookL .top [(2, (.int .u8 x.b0)), (9, (.sl .any .bool x.t9)), (10, (.int .i64 x.t10)), (11, (.int .i64 x.t11))], hs := { hp := lookL .dead [], hn := 0 } }
def kp0 : Keep := { ks := [(2, none), (9, none), (10, none), (11, none)], bs := [], hn := 0 }
def p0 (st : St) (K : L0 → Prop) : Prop := gInt .u8 (st.fr 2) fun a1 => gSl .any .bool (st.fr 9) fun a2 => gInt .i64 (st.fr 10) fun a3 => gInt .i64 (st.fr 11) fun a4 => K ⟨a1, a2, a3, a4⟩
theorem p0_ok (st : St) (K : L0 → Prop) (h : p0 st K) : ∃ x, keepSt kp0 st = c0 x ∧ K x := by
  obtain ⟨a1, h0, h⟩ := gInt_elim h
  obtain ⟨a2, h1, h⟩ := gSl_elim h
  obtain ⟨a3, h2, h⟩ := gInt_elim h
  obtain ⟨a4, h3, h⟩ := gInt_elim h
  refine ⟨_, ?_, h⟩
  simp only [keepSt, kp0, List.map, h0, h1, h2, h3]
  rfl
def b0 (rec kx : L0 → Prop) (kr : R → Prop) (x : L0) : Prop :=
  (bif (decide (x.t11 < x.t10)) then (oget (getI x.t9 x.t11) fun v1 => (bif v1 then (bif (decide (0 ≤ x.t11)) then (rec ⟨(ior .u8 x.b0 (ishl .u8 1 x.t11)), x.t9, x.t10, (IntKind.i64.wrap (x.t11 + 1))⟩) else False) else (rec ⟨x.b0, x.t9, x.t10, (IntKind.i64.wrap (x.t11 + 1))⟩))) else (kx ⟨x.b0, x.t9, x.t10, x.t11⟩))
def l0 : LSpec := mkLoop 0 kp0 kR p0 c0 cR b0
def lt : Nat → Option LSpec
  | 0 => some l0
  | _ => none
def F (l : (List Bool)) (K : Int → Prop) : Prop :=
  (bif (decide (0 ≤ (minI (l.length : Int) 8)) && decide ((minI (l.length : Int) 8) ≤ (l.length : Int))) then (∃ n, loopB b0 n (fun x2 => (K x2.b0)) (fun _ => False) ⟨0, (sub l 0 (Int.toNat (minI (l.length : Int) 8))), ((sub l 0 (Int.toNat (minI (l.length : Int) 8))).length : Int), 0⟩) else False)
noncomputable def en : Entry := mkEntry [(.slice .bool)] (cTy (.int .u8)) fun x => F x.1
theorem eq (x : Dens [(.slice .bool)]) (K : Int → Prop) : apure E tab lt 4 40 (encA [(.slice .bool)] x) (ansK ((cTy (.int .u8))) K) = F x.1 K := by kernel_rfl
theorem l0_ok : LSound E tab (afun E tab 4) 23 lt 0 ((loopsIn E.P 40).getD 0 (0, .skip)).2 l0 := mkLoop_sound (by decide) (by decide) p0_ok (fun R Kx Kr x => by kernel_rfl)
theorem loops : LoopsOk E tab lt 4 40 := loops_of (nt := 23) (ids := [0]) (by kernel_rfl) (by kernel_rfl) (by
  intro k i hk l hl
  match k, hk with
  | 0, hk => cases hk; cases hl; exact l0_ok
  | _ + 1, hk => exact absurd hk (by simp))
theorem det (l : (List Bool)) : Det (F l) := by
  unfold F
  repeat' first | with_reducible exact det_ret _ | with_reducible exact det_false | with_reducible refine det_cond _ ?_ ?_ | with_reducible refine det_oget _ (fun _ => ?_) | with_reducible refine det_loop (fun _ => ?_) (fun _ => ?_) (fun _ => ?_) _ | unfold b0
theorem edet (args : List AV) : Det (en args) := mkEntry_det (ts := [(.slice .bool)]) (cod := (cTy (.int .u8))) (F := fun x => F x.1) (fun x => det x.1) args
theorem ground : Ground E tab := ⟨num, mixed, (tab_nil _), clone, dtab_nil⟩
theorem has : ((E.P.funcs[40]?).bind (·.body)).isSome = true := by kernel_rfl
theorem sound : EntrySound E.P 40 en := mkSound (ts := [(.slice .bool)]) (cod := (cTy (.int .u8))) (F := fun x => F x.1) ground loops has eq
end num_Flags
namespace ref01_Same
noncomputable def tab : Tab := []
structure R where
  t4 : Bool
def cR (x : R) : St := { fr := lookL .top [(4, (.bool x.t4))], hs := { hp := lookL .dead [], hn := 0 } }
def kR : Keep := { ks := [(4, none)], bs := [], hn := 0 }
structure L0 where
  a : (List Bool)
  b0 : (List Bool)
  i : Int
def c0 (x : L0) : St := { fr := lookL .top [(0, (.sl .any .bool x.a)), (1, (.sl .any .bool x.b0)), (5, (.int .i64 x.i))], hs := { hp := lookL .dead [], hn := 0 } }
def kp0 : Keep := { ks := [(0, none), (1, none), (5, none)], bs := [], hn := 0 }
def p0 (st : St) (K : L0 → Prop) : Prop := gSl .any .bool (st.fr 0) fun a1 => gSl .any .bool (st.fr 1) fun a2 => gInt .i64 (st.fr 5) fun a3 => K ⟨a1, a2, a3⟩
theorem p0_ok (st : St) (K : L0 → Prop) (h : p0 st K) : ∃ x, keepSt kp0 st = c0 x ∧ K x := by
  obtain ⟨a1, h0, h⟩ := gSl_elim h
  obtain ⟨a2, h1, h⟩ := gSl_elim h
  obtain ⟨a3, h2, h⟩ := gInt_elim h
  refine ⟨_, ?_, h⟩
  simp only [keepSt, kp0, List.map, h0, h1, h2]
  rfl
def b0 (rec kx : L0 → Prop) (kr : R → Prop) (x : L0) : Prop :=
  (bif (decide (x.i < (x.a.length : Int))) then (oget (getI x.a x.i) fun v1 => (oget (getI x.b0 x.i) fun v2 => (bif (!(v1 == v2)) then (kr ⟨false⟩) else (rec ⟨x.a, x.b0, (IntKind.i64.wrap (x.i + 1))⟩)))) else (kx ⟨x.a, x.b0, x.i⟩))
def l0 : LSpec := mkLoop 0 kp0 kR p0 c0 cR b0
def lt : Nat → Option LSpec
  | 0 => some l0
  | _ => none
def F (a : (List Bool)) (b_1 : (List Bool)) (K : Bool → Prop) : Prop :=
  (bif ((a.length : Int) != (b_1.length : Int)) then (K false) else (∃ n, loopB b0 n (fun x3 => (K true)) (fun r4 => (K r4.t4)) ⟨a, b_1, 0⟩))
noncomputable def en : Entry := mkEntry [(.slice .bool), (.slice .bool)] (cTy .bool) fun x => F x.1 x.2.1
theorem eq (x : Dens [(.slice .bool), (.slice .bool)]) (K : Bool → Prop) : apure E tab lt 4 42 (encA [(.slice .bool), (.slice .bool)] x) (ansK ((cTy .bool)) K) = F x.1 x.2.1 K := by kernel_rfl
theorem l0_ok : LSound E tab (afun E tab 4) 26 lt 0 ((loopsIn E.P 42).getD 0 (0, .skip)).2 l0 := mkLoop_sound (by decide) (by decide) p0_ok (fun R Kx Kr x => by kernel_rfl)
theorem loops : LoopsOk E tab lt 4 42 := loops_of (nt := 26) (ids := [0]) (by kernel_rfl) (by kernel_rfl) (by
  intro k i hk l hl
  match k, hk with
  | 0, hk => cases hk; cases hl; exact l0_ok
  | _ + 1, hk => exact absurd hk (by simp))
theorem det (a : (List Bool)) (b_1 : (List Bool)) : Det (F a b_1) := by
  unfold F
  repeat' first | with_reducible exact det_ret _ | with_reducible exact det_false | with_reducible refine det_cond _ ?_ ?_ | with_reducible refine det_oget _ (fun _ => ?_) | with_reducible refine det_loop (fun _ => ?_) (fun _ => ?_) (fun _ => ?_) _ | unfold b0
theorem edet (args : List AV) : Det (en args) := mkEntry_det (ts := [(.slice .bool), (.slice .bool)]) (cod := (cTy .bool)) (F := fun x => F x.1 x.2.1) (fun x => det x.1 x.2.1) args
theorem ground : Ground E tab := ⟨num, mixed, (tab_nil _), clone, dtab_nil⟩
theorem has : ((E.P.funcs[42]?).bind (·.body)).isSome = true := by kernel_rfl
theorem sound : EntrySound E.P 42 en := mkSound (ts := [(.slice .bool), (.slice .bool)]) (cod := (cTy .bool)) (F := fun x => F x.1 x.2.1) ground loops has eq
end ref01_Same
namespace law01_alive
noncomputable def tab : Tab := [(32, num_Get64.en), (30, num_Get32.en), (38, num_Unflag.en), (34, num_Put32.en), (36, num_Put64.en), (40, num_Flags.en), (42, ref01_Same.en)]
def F (K : Bool → Prop) : Prop :=
  (num_Get64.F ([0, 0, 0, 0, 0, 0, 1, 0] : Str) fun r1 => (num_Get32.F ([97, 98, 99] : Str) fun r2 => (num_Unflag.F 5 3 fun r3 => (num_Unflag.F 8 3 fun r4 => (num_Put32.F 258 fun r5 => (bif (r5 == ([0, 0, 1, 2] : Str)) then (num_Put64.F 1 fun r6 => (bif ((r6.length : Int) == 8) then (bif (r1.1 == 256) then (bif r1.2 then (bif (!r2.2) then (bif r3.2 then (bif (!r4.2) then (num_Flags.F ([true, false, true] : List Bool) fun r7 => (bif (r7 == 5) then (ref01_Same.F r3.1 ([true, false, true] : List Bool) fun r8 => (K r8)) else (K false))) else (K false)) else (K false)) else (K false)) else (K false)) else (K false)) else (K false))) else (K false)))))))
noncomputable def en : Entry := mkEntry [] (cTy .bool) fun x => F 
noncomputable def tabV (f0 : Str → ((Int × Bool) → Prop) → Prop) (f1 : Str → ((Int × Bool) → Prop) → Prop) (f2 : Int → Int → (((List Bool) × Bool) → Prop) → Prop) (f3 : Int → (Str → Prop) → Prop) (f4 : Int → (Str → Prop) → Prop) (f5 : (List Bool) → (Int → Prop) → Prop) (f6 : (List Bool) → (List Bool) → (Bool → Prop) → Prop) : Tab := [(32, mkEntry [.str] (cTwo (.int .u64) .bool) fun x => f0 x.1), (30, mkEntry [.str] (cTwo (.int .u32) .bool) fun x => f1 x.1), (38, mkEntry [(.int .u8), (.int .i64)] (cTwo (.slice .bool) .bool) fun x => f2 x.1 x.2.1), (34, mkEntry [(.int .u32)] (cTy .str) fun x => f3 x.1), (36, mkEntry [(.int .u64)] (cTy .str) fun x => f4 x.1), (40, mkEntry [(.slice .bool)] (cTy (.int .u8)) fun x => f5 x.1), (42, mkEntry [(.slice .bool), (.slice .bool)] (cTy .bool) fun x => f6 x.1 x.2.1)]
theorem tabE : tab = tabV num_Get64.F num_Get32.F num_Unflag.F num_Put32.F num_Put64.F num_Flags.F ref01_Same.F := by kernel_rfl
theorem eqv (f0 : Str → ((Int × Bool) → Prop) → Prop) (f1 : Str → ((Int × Bool) → Prop) → Prop) (f2 : Int → Int → (((List Bool) × Bool) → Prop) → Prop) (f3 : Int → (Str → Prop) → Prop) (f4 : Int → (Str → Prop) → Prop) (f5 : (List Bool) → (Int → Prop) → Prop) (f6 : (List Bool) → (List Bool) → (Bool → Prop) → Prop) (K : Bool → Prop) : apure E (tabV f0 f1 f2 f3 f4 f5 f6) (fun _ => none) 4 29 [] (ansK ((cTy .bool)) K) =
  (f0 ([0, 0, 0, 0, 0, 0, 1, 0] : Str) fun r1 => (f1 ([97, 98, 99] : Str) fun r2 => (f2 5 3 fun r3 => (f2 8 3 fun r4 => (f3 258 fun r5 => (bif (r5 == ([0, 0, 1, 2] : Str)) then (f4 1 fun r6 => (bif ((r6.length : Int) == 8) then (bif (r1.1 == 256) then (bif r1.2 then (bif (!r2.2) then (bif r3.2 then (bif (!r4.2) then (f5 ([true, false, true] : List Bool) fun r7 => (bif (r7 == 5) then (f6 r3.1 ([true, false, true] : List Bool) fun r8 => (K r8)) else (K false))) else (K false)) else (K false)) else (K false)) else (K false)) else (K false)) else (K false))) else (K false))))))) := by kernel_rfl
theorem eq (x : Dens []) (K : Bool → Prop) : apure E tab (fun _ => none) 4 29 (encA [] x) (ansK ((cTy .bool)) K) = F  K := eqv num_Get64.F num_Get32.F num_Unflag.F num_Put32.F num_Put64.F num_Flags.F ref01_Same.F  K
theorem loops : LoopsOk E tab (fun _ => none) 4 29 := loops_none _ _ _ _
theorem det : Det (F) := by
  unfold F
  repeat' first | with_reducible exact det_ret _ | with_reducible exact det_false | with_reducible refine det_cond _ ?_ ?_ | with_reducible refine det_oget _ (fun _ => ?_) | with_reducible exact num_Get64.det _ | with_reducible refine det_bind (num_Get64.det _) (fun _ => ?_) | with_reducible exact num_Get32.det _ | with_reducible refine det_bind (num_Get32.det _) (fun _ => ?_) | with_reducible exact num_Unflag.det _ _ | with_reducible refine det_bind (num_Unflag.det _ _) (fun _ => ?_) | with_reducible exact num_Put32.det _ | with_reducible refine det_bind (num_Put32.det _) (fun _ => ?_) | with_reducible exact num_Put64.det _ | with_reducible refine det_bind (num_Put64.det _) (fun _ => ?_) | with_reducible exact num_Flags.det _ | with_reducible refine det_bind (num_Flags.det _) (fun _ => ?_) | with_reducible exact ref01_Same.det _ _ | with_reducible refine det_bind (ref01_Same.det _ _) (fun _ => ?_)
theorem edet (args : List AV) : Det (en args) := mkEntry_det (ts := []) (cod := (cTy .bool)) (F := fun _ => F) (fun _ => det ) args
theorem ground : Ground E tab := ⟨num, mixed, (tab_cons num_Get64.sound (tab_cons num_Get32.sound (tab_cons num_Unflag.sound (tab_cons num_Put32.sound (tab_cons num_Put64.sound (tab_cons num_Flags.sound (tab_cons ref01_Same.sound (tab_nil _)))))))), clone, (dtab_cons num_Get64.edet (dtab_cons num_Get32.edet (dtab_cons num_Unflag.edet (dtab_cons num_Put32.edet (dtab_cons num_Put64.edet (dtab_cons num_Flags.edet (dtab_cons ref01_Same.edet dtab_nil)))))))⟩
theorem has : ((E.P.funcs[29]?).bind (·.body)).isSome = true := by kernel_rfl
theorem sound : EntrySound E.P 29 en := mkSound (ts := []) (cod := (cTy .bool)) (F := fun _ => F) ground loops has eq
end law01_alive
namespace ref01_get
noncomputable def tab : Tab := []
structure R where
def cR (_ : R) : St := { fr := fun _ => .top, hs := hs0 }
def kR : Keep := { ks := [], bs := [], hn := 0 }
structure L0 where
  s : Str
  size : Int
  n0 : Int
  i : Int
def c0 (x : L0) : St := { fr := lookL .top [(0, (.str x.s)), (1, (.int .i64 x.size)), (6, (.int .u64 x.n0)), (7, (.int .i64 x.i))], hs := { hp := lookL .dead [], hn := 0 } }
def kp0 : Keep := { ks := [(0, none), (1, none), (6, none), (7, none)], bs := [], hn := 0 }
def p0 (st : St) (K : L0 → Prop) : Prop := gStr (st.fr 0) fun a1 => gInt .i64 (st.fr 1) fun a2 => gInt .u64 (st.fr 6) fun a3 => gInt .i64 (st.fr 7) fun a4 => K ⟨a1, a2, a3, a4⟩
theorem p0_ok (st : St) (K : L0 → Prop) (h : p0 st K) : ∃ x, keepSt kp0 st = c0 x ∧ K x := by
  obtain ⟨a1, h0, h⟩ := gStr_elim h
  obtain ⟨a2, h1, h⟩ := gInt_elim h
  obtain ⟨a3, h2, h⟩ := gInt_elim h
  obtain ⟨a4, h3, h⟩ := gInt_elim h
  refine ⟨_, ?_, h⟩
  simp only [keepSt, kp0, List.map, h0, h1, h2, h3]
  rfl
def b0 (rec kx : L0 → Prop) (kr : R → Prop) (x : L0) : Prop :=
  (bif (decide (x.i < x.size)) then (oget (getI x.s x.i) fun v1 => (rec ⟨x.s, x.size, (IntKind.u64.wrap ((IntKind.u64.wrap (x.n0 * 256)) + (IntKind.u64.wrap (v1.toNat : Int)))), (IntKind.i64.wrap (x.i + 1))⟩)) else (kx ⟨x.s, x.size, x.n0, x.i⟩))
def l0 : LSpec := mkLoop 0 kp0 kR p0 c0 cR b0
def lt : Nat → Option LSpec
  | 0 => some l0
  | _ => none
def F (s : Str) (size : Int) (K : (Int × Bool) → Prop) : Prop :=
  (bif ((s.length : Int) != size) then (K (0, false)) else (∃ n, loopB b0 n (fun x2 => (K (x2.n0, true))) (fun _ => False) ⟨s, size, 0, 0⟩))
noncomputable def en : Entry := mkEntry [.str, (.int .i64)] (cTwo (.int .u64) .bool) fun x => F x.1 x.2.1
theorem eq (x : Dens [.str, (.int .i64)]) (K : (Int × Bool) → Prop) : apure E tab lt 4 90 (encA [.str, (.int .i64)] x) (ansK ((cTwo (.int .u64) .bool)) K) = F x.1 x.2.1 K := by kernel_rfl
theorem l0_ok : LSound E tab (afun E tab 4) 25 lt 0 ((loopsIn E.P 90).getD 0 (0, .skip)).2 l0 := mkLoop_sound (by decide) (by decide) p0_ok (fun R Kx Kr x => by kernel_rfl)
theorem loops : LoopsOk E tab lt 4 90 := loops_of (nt := 25) (ids := [0]) (by kernel_rfl) (by kernel_rfl) (by
  intro k i hk l hl
  match k, hk with
  | 0, hk => cases hk; cases hl; exact l0_ok
  | _ + 1, hk => exact absurd hk (by simp))
theorem det (s : Str) (size : Int) : Det (F s size) := by
  unfold F
  repeat' first | with_reducible exact det_ret _ | with_reducible exact det_false | with_reducible refine det_cond _ ?_ ?_ | with_reducible refine det_oget _ (fun _ => ?_) | with_reducible refine det_loop (fun _ => ?_) (fun _ => ?_) (fun _ => ?_) _ | unfold b0
theorem edet (args : List AV) : Det (en args) := mkEntry_det (ts := [.str, (.int .i64)]) (cod := (cTwo (.int .u64) .bool)) (F := fun x => F x.1 x.2.1) (fun x => det x.1 x.2.1) args
theorem ground : Ground E tab := ⟨num, mixed, (tab_nil _), clone, dtab_nil⟩
theorem has : ((E.P.funcs[90]?).bind (·.body)).isSome = true := by kernel_rfl
theorem sound : EntrySound E.P 90 en := mkSound (ts := [.str, (.int .i64)]) (cod := (cTwo (.int .u64) .bool)) (F := fun x => F x.1 x.2.1) ground loops has eq
end ref01_get
namespace ref01_Get32
noncomputable def tab : Tab := [(90, ref01_get.en)]
def F (s : Str) (K : (Int × Bool) → Prop) : Prop :=
  (ref01_get.F s 4 fun r1 => (K ((IntKind.u32.wrap r1.1), r1.2)))
noncomputable def en : Entry := mkEntry [.str] (cTwo (.int .u32) .bool) fun x => F x.1
noncomputable def tabV (f0 : Str → Int → ((Int × Bool) → Prop) → Prop) : Tab := [(90, mkEntry [.str, (.int .i64)] (cTwo (.int .u64) .bool) fun x => f0 x.1 x.2.1)]
theorem tabE : tab = tabV ref01_get.F := by kernel_rfl
theorem eqv (f0 : Str → Int → ((Int × Bool) → Prop) → Prop) (s : Str) (K : (Int × Bool) → Prop) : apure E (tabV f0) (fun _ => none) 4 31 [enc .str s] (ansK ((cTwo (.int .u32) .bool)) K) =
  (f0 s 4 fun r1 => (K ((IntKind.u32.wrap r1.1), r1.2))) := by kernel_rfl
theorem eq (x : Dens [.str]) (K : (Int × Bool) → Prop) : apure E tab (fun _ => none) 4 31 (encA [.str] x) (ansK ((cTwo (.int .u32) .bool)) K) = F x.1 K := eqv ref01_get.F x.1 K
theorem loops : LoopsOk E tab (fun _ => none) 4 31 := loops_none _ _ _ _
theorem det (s : Str) : Det (F s) := by
  unfold F
  repeat' first | with_reducible exact det_ret _ | with_reducible exact det_false | with_reducible refine det_cond _ ?_ ?_ | with_reducible refine det_oget _ (fun _ => ?_) | with_reducible exact ref01_get.det _ _ | with_reducible refine det_bind (ref01_get.det _ _) (fun _ => ?_)
theorem edet (args : List AV) : Det (en args) := mkEntry_det (ts := [.str]) (cod := (cTwo (.int .u32) .bool)) (F := fun x => F x.1) (fun x => det x.1) args
theorem ground : Ground E tab := ⟨num, mixed, (tab_cons ref01_get.sound (tab_nil _)), clone, (dtab_cons ref01_get.edet dtab_nil)⟩
theorem has : ((E.P.funcs[31]?).bind (·.body)).isSome = true := by kernel_rfl
theorem sound : EntrySound E.P 31 en := mkSound (ts := [.str]) (cod := (cTwo (.int .u32) .bool)) (F := fun x => F x.1) ground loops has eq
end ref01_Get32
namespace ref01_Get64
noncomputable def tab : Tab := [(90, ref01_get.en)]
def F (s : Str) (K : (Int × Bool) → Prop) : Prop :=
  (ref01_get.F s 8 fun r1 => (K (r1.1, r1.2)))
noncomputable def en : Entry := mkEntry [.str] (cTwo (.int .u64) .bool) fun x => F x.1
noncomputable def tabV (f0 : Str → Int → ((Int × Bool) → Prop) → Prop) : Tab := [(90, mkEntry [.str, (.int .i64)] (cTwo (.int .u64) .bool) fun x => f0 x.1 x.2.1)]
theorem tabE : tab = tabV ref01_get.F := by kernel_rfl
theorem eqv (f0 : Str → Int → ((Int × Bool) → Prop) → Prop) (s : Str) (K : (Int × Bool) → Prop) : apure E (tabV f0) (fun _ => none) 4 33 [enc .str s] (ansK ((cTwo (.int .u64) .bool)) K) =
  (f0 s 8 fun r1 => (K (r1.1, r1.2))) := by kernel_rfl
theorem eq (x : Dens [.str]) (K : (Int × Bool) → Prop) : apure E tab (fun _ => none) 4 33 (encA [.str] x) (ansK ((cTwo (.int .u64) .bool)) K) = F x.1 K := eqv ref01_get.F x.1 K
theorem loops : LoopsOk E tab (fun _ => none) 4 33 := loops_none _ _ _ _
theorem det (s : Str) : Det (F s) := by
  unfold F
  repeat' first | with_reducible exact det_ret _ | with_reducible exact det_false | with_reducible refine det_cond _ ?_ ?_ | with_reducible refine det_oget _ (fun _ => ?_) | with_reducible exact ref01_get.det _ _ | with_reducible refine det_bind (ref01_get.det _ _) (fun _ => ?_)
theorem edet (args : List AV) : Det (en args) := mkEntry_det (ts := [.str]) (cod := (cTwo (.int .u64) .bool)) (F := fun x => F x.1) (fun x => det x.1) args
theorem ground : Ground E tab := ⟨num, mixed, (tab_cons ref01_get.sound (tab_nil _)), clone, (dtab_cons ref01_get.edet dtab_nil)⟩
theorem has : ((E.P.funcs[33]?).bind (·.body)).isSome = true := by kernel_rfl
theorem sound : EntrySound E.P 33 en := mkSound (ts := [.str]) (cod := (cTwo (.int .u64) .bool)) (F := fun x => F x.1) ground loops has eq
end ref01_Get64
namespace ref01_Put64
noncomputable def tab : Tab := [(92, ref01_put.en)]
def F (n_0 : Int) (K : Str → Prop) : Prop :=
  (ref01_put.F n_0 8 fun r1 => (K r1))
noncomputable def en : Entry := mkEntry [(.int .u64)] (cTy .str) fun x => F x.1
noncomputable def tabV (f0 : Int → Int → (Str → Prop) → Prop) : Tab := [(92, mkEntry [(.int .u64), (.int .i64)] (cTy .str) fun x => f0 x.1 x.2.1)]
theorem tabE : tab = tabV ref01_put.F := by kernel_rfl
theorem eqv (f0 : Int → Int → (Str → Prop) → Prop) (n_0 : Int) (K : Str → Prop) : apure E (tabV f0) (fun _ => none) 4 37 [enc (.int .u64) n_0] (ansK ((cTy .str)) K) =
  (f0 n_0 8 fun r1 => (K r1)) := by kernel_rfl
theorem eq (x : Dens [(.int .u64)]) (K : Str → Prop) : apure E tab (fun _ => none) 4 37 (encA [(.int .u64)] x) (ansK ((cTy .str)) K) = F x.1 K := eqv ref01_put.F x.1 K
theorem loops : LoopsOk E tab (fun _ => none) 4 37 := loops_none _ _ _ _
theorem det (n_0 : Int) : Det (F n_0) := by
  unfold F
  repeat' first | with_reducible exact det_ret _ | with_reducible exact det_false | with_reducible refine det_cond _ ?_ ?_ | with_reducible refine det_oget _ (fun _ => ?_) | with_reducible exact ref01_put.det _ _ | with_reducible refine det_bind (ref01_put.det _ _) (fun _ => ?_)
theorem edet (args : List AV) : Det (en args) := mkEntry_det (ts := [(.int .u64)]) (cod := (cTy .str)) (F := fun x => F x.1) (fun x => det x.1) args
theorem ground : Ground E tab := ⟨num, mixed, (tab_cons ref01_put.sound (tab_nil _)), clone, (dtab_cons ref01_put.edet dtab_nil)⟩
theorem has : ((E.P.funcs[37]?).bind (·.body)).isSome = true := by kernel_rfl
theorem sound : EntrySound E.P 37 en := mkSound (ts := [(.int .u64)]) (cod := (cTy .str)) (F := fun x => F x.1) ground loops has eq
end ref01_Put64
namespace law01_NumPuts
noncomputable def tab : Tab := [(29, law01_alive.en), (30, num_Get32.en), (31, ref01_Get32.en), (32, num_Get64.en), (33, ref01_Get64.en), (34, num_Put32.en), (35, ref01_Put32.en), (36, num_Put64.en), (37, ref01_Put64.en)]
def F (n_0 : Int) (s : Str) (K : Bool → Prop) : Prop :=
  (law01_alive.F fun r1 => (bif (!r1) then (K false) else (bif (decide ((s.length : Int) > 100)) then (K true) else (bif (4294967296 == 0) then False else (num_Get32.F s fun r2 => (ref01_Get32.F s fun r3 => (num_Get64.F s fun r4 => (ref01_Get64.F s fun r5 => (num_Put32.F (IntKind.u32.wrap (n_0.tmod 4294967296)) fun r6 => (ref01_Put32.F (IntKind.u32.wrap (n_0.tmod 4294967296)) fun r7 => (bif (r6 == r7) then (num_Put64.F n_0 fun r8 => (ref01_Put64.F n_0 fun r9 => (bif (r8 == r9) then (bif (r2.1 == r3.1) then (bif (r2.2 == r3.2) then (bif (r4.1 == r5.1) then (K (r4.2 == r5.2)) else (K false)) else (K false)) else (K false)) else (K false)))) else (K false))))))))))))
noncomputable def en : Entry := mkEntry [(.int .u64), .str] (cTy .bool) fun x => F x.1 x.2.1
noncomputable def tabV (f0 : (Bool → Prop) → Prop) (f1 : Str → ((Int × Bool) → Prop) → Prop) (f2 : Str → ((Int × Bool) → Prop) → Prop) (f3 : Str → ((Int × Bool) → Prop) → Prop) (f4 : Str → ((Int × Bool) → Prop) → Prop) (f5 : Int → (Str → Prop) → Prop) (f6 : Int → (Str → Prop) → Prop) (f7 : Int → (Str → Prop) → Prop) (f8 : Int → (Str → Prop) → Prop) : Tab := [(29, mkEntry [] (cTy .bool) fun _ => f0), (30, mkEntry [.str] (cTwo (.int .u32) .bool) fun x => f1 x.1), (31, mkEntry [.str] (cTwo (.int .u32) .bool) fun x => f2 x.1), (32, mkEntry [.str] (cTwo (.int .u64) .bool) fun x => f3 x.1), (33, mkEntry [.str] (cTwo (.int .u64) .bool) fun x => f4 x.1), (34, mkEntry [(.int .u32)] (cTy .str) fun x => f5 x.1), (35, mkEntry [(.int .u32)] (cTy .str) fun x => f6 x.1), (36, mkEntry [(.int .u64)] (cTy .str) fun x => f7 x.1), (37, mkEntry [(.int .u64)] (cTy .str) fun x => f8 x.1)]
theorem tabE : tab = tabV law01_alive.F num_Get32.F ref01_Get32.F num_Get64.F ref01_Get64.F num_Put32.F ref01_Put32.F num_Put64.F ref01_Put64.F := by kernel_rfl
theorem eqv (f0 : (Bool → Prop) → Prop) (f1 : Str → ((Int × Bool) → Prop) → Prop) (f2 : Str → ((Int × Bool) → Prop) → Prop) (f3 : Str → ((Int × Bool) → Prop) → Prop) (f4 : Str → ((Int × Bool) → Prop) → Prop) (f5 : Int → (Str → Prop) → Prop) (f6 : Int → (Str → Prop) → Prop) (f7 : Int → (Str → Prop) → Prop) (f8 : Int → (Str → Prop) → Prop) (n_0 : Int) (s : Str) (K : Bool → Prop) : apure E (tabV f0 f1 f2 f3 f4 f5 f6 f7 f8) (fun _ => none) 4 6 [enc (.int .u64) n_0, enc .str s] (ansK ((cTy .bool)) K) =
  (f0 fun r1 => (bif (!r1) then (K false) else (bif (decide ((s.length : Int) > 100)) then (K true) else (bif (4294967296 == 0) then False else (f1 s fun r2 => (f2 s fun r3 => (f3 s fun r4 => (f4 s fun r5 => (f5 (IntKind.u32.wrap (n_0.tmod 4294967296)) fun r6 => (f6 (IntKind.u32.wrap (n_0.tmod 4294967296)) fun r7 => (bif (r6 == r7) then (f7 n_0 fun r8 => (f8 n_0 fun r9 => (bif (r8 == r9) then (bif (r2.1 == r3.1) then (bif (r2.2 == r3.2) then (bif (r4.1 == r5.1) then (K (r4.2 == r5.2)) else (K false)) else (K false)) else (K false)) else (K false)))) else (K false)))))))))))) := by kernel_rfl
theorem eq (x : Dens [(.int .u64), .str]) (K : Bool → Prop) : apure E tab (fun _ => none) 4 6 (encA [(.int .u64), .str] x) (ansK ((cTy .bool)) K) = F x.1 x.2.1 K := eqv law01_alive.F num_Get32.F ref01_Get32.F num_Get64.F ref01_Get64.F num_Put32.F ref01_Put32.F num_Put64.F ref01_Put64.F x.1 x.2.1 K
theorem loops : LoopsOk E tab (fun _ => none) 4 6 := loops_none _ _ _ _
theorem det (n_0 : Int) (s : Str) : Det (F n_0 s) := by
  unfold F
  repeat' first | with_reducible exact det_ret _ | with_reducible exact det_false | with_reducible refine det_cond _ ?_ ?_ | with_reducible refine det_oget _ (fun _ => ?_) | with_reducible exact law01_alive.det | with_reducible refine det_bind (law01_alive.det) (fun _ => ?_) | with_reducible exact num_Get32.det _ | with_reducible refine det_bind (num_Get32.det _) (fun _ => ?_) | with_reducible exact ref01_Get32.det _ | with_reducible refine det_bind (ref01_Get32.det _) (fun _ => ?_) | with_reducible exact num_Get64.det _ | with_reducible refine det_bind (num_Get64.det _) (fun _ => ?_) | with_reducible exact ref01_Get64.det _ | with_reducible refine det_bind (ref01_Get64.det _) (fun _ => ?_) | with_reducible exact num_Put32.det _ | with_reducible refine det_bind (num_Put32.det _) (fun _ => ?_) | with_reducible exact ref01_Put32.det _ | with_reducible refine det_bind (ref01_Put32.det _) (fun _ => ?_) | with_reducible exact num_Put64.det _ | with_reducible refine det_bind (num_Put64.det _) (fun _ => ?_) | with_reducible exact ref01_Put64.det _ | with_reducible refine det_bind (ref01_Put64.det _) (fun _ => ?_)
theorem edet (args : List AV) : Det (en args) := mkEntry_det (ts := [(.int .u64), .str]) (cod := (cTy .bool)) (F := fun x => F x.1 x.2.1) (fun x => det x.1 x.2.1) args
theorem ground : Ground E tab := ⟨num, mixed, (tab_cons law01_alive.sound (tab_cons num_Get32.sound (tab_cons ref01_Get32.sound (tab_cons num_Get64.sound (tab_cons ref01_Get64.sound (tab_cons num_Put32.sound (tab_cons ref01_Put32.sound (tab_cons num_Put64.sound (tab_cons ref01_Put64.sound (tab_nil _)))))))))), clone, (dtab_cons law01_alive.edet (dtab_cons num_Get32.edet (dtab_cons ref01_Get32.edet (dtab_cons num_Get64.edet (dtab_cons ref01_Get64.edet (dtab_cons num_Put32.edet (dtab_cons ref01_Put32.edet (dtab_cons num_Put64.edet (dtab_cons ref01_Put64.edet dtab_nil)))))))))⟩
theorem has : ((E.P.funcs[6]?).bind (·.body)).isSome = true := by kernel_rfl
theorem sound : EntrySound E.P 6 en := mkSound (ts := [(.int .u64), .str]) (cod := (cTy .bool)) (F := fun x => F x.1 x.2.1) ground loops has eq
end law01_NumPuts
namespace ref01_Unflag
noncomputable def tab : Tab := []
structure R where
def cR (_ : R) : St := { fr := fun _ => .top, hs := hs0 }
def kR : Keep := { ks := [], bs := [], hn := 0 }
structure L0 where
  b0 : Int
  n0 : Int
  out : (List Bool)
  i : Int
def c0 (x : L0) : St := { fr := lookL .top [(0, (.int .u8 x.b0)), (1, (.int .i64 x.n0)), (6, (.slr 1)), (7, (.int .i64 x.i))], hs := { hp := lookL .dead [(1, (.row false .bool x.out))], hn := 2 } }
def kp0 : Keep := { ks := [(0, none), (1, none), (6, some 1), (7, none)], bs := [], hn := 2 }
def p0 (st : St) (K : L0 → Prop) : Prop := gHomes kp0 st <| gInt .u8 (st.fr 0) fun a1 => gInt .i64 (st.fr 1) fun a2 => gSlr (st.fr 6) fun c3 => gRow false .bool (st.hs.hp c3) fun a4 => gInt .i64 (st.fr 7) fun a5 => K ⟨a1, a2, a4, a5⟩
theorem p0_ok (st : St) (K : L0 → Prop) (h : p0 st K) : ∃ x, keepSt kp0 st = c0 x ∧ K x := by
  obtain ⟨h0, h⟩ := gHomes_elim h
  obtain ⟨a1, h1, h⟩ := gInt_elim h
  obtain ⟨a2, h2, h⟩ := gInt_elim h
  obtain ⟨c3, h3, h⟩ := gSlr_elim h
  obtain ⟨a4, h4, h⟩ := gRow_elim h
  obtain ⟨a5, h5, h⟩ := gInt_elim h
  refine ⟨_, ?_, h⟩
  simp only [keepSt, h0]
  simp only [kp0, List.map, List.filterMap, homeOf, h1, h2, h3, h4, h5, hmOf, List.append_nil, cond_true]
  rfl
def b0 (rec kx : L0 → Prop) (kr : R → Prop) (x : L0) : Prop :=
  (bif (decide (x.i < x.n0)) then (bif (2 == 0) then False else (bif (decide ((x.out.length + ([((x.b0.tmod 2) == 1)] : List Bool).length) * 1 ≤ room)) then (bif (2 == 0) then False else (rec ⟨(IntKind.u8.wrap (x.b0.tdiv 2)), x.n0, (x.out ++ ([((x.b0.tmod 2) == 1)] : List Bool)), (IntKind.i64.wrap (x.i + 1))⟩)) else False)) else (kx ⟨x.b0, x.n0, x.out, x.i⟩))
def l0 : LSpec := mkLoop 0 kp0 kR p0 c0 cR b0
def lt : Nat → Option LSpec
  | 0 => some l0
  | _ => none
def F (b_0 : Int) (n_1 : Int) (K : ((List Bool) × Bool) → Prop) : Prop :=
  (bif (decide (n_1 < 0)) then (K (([] : List Bool), false)) else (bif (decide (n_1 > 8)) then (K (([] : List Bool), false)) else (∃ n, loopB b0 n (fun x1 => (bif (decide (x1.b0 > 0)) then (K (([] : List Bool), false)) else (K (x1.out, true)))) (fun _ => False) ⟨b_0, n_1, ([] : List Bool), 0⟩)))
noncomputable def en : Entry := mkEntry [(.int .u8), (.int .i64)] (cTwo (.slice .bool) .bool) fun x => F x.1 x.2.1
theorem eq (x : Dens [(.int .u8), (.int .i64)]) (K : ((List Bool) × Bool) → Prop) : apure E tab lt 4 39 (encA [(.int .u8), (.int .i64)] x) (ansK ((cTwo (.slice .bool) .bool)) K) = F x.1 x.2.1 K := by kernel_rfl
theorem l0_ok : LSound E tab (afun E tab 4) 30 lt 0 ((loopsIn E.P 39).getD 0 (0, .skip)).2 l0 := mkLoop_sound (by decide) (by decide) p0_ok (fun R Kx Kr x => by kernel_rfl)
theorem loops : LoopsOk E tab lt 4 39 := loops_of (nt := 30) (ids := [0]) (by kernel_rfl) (by kernel_rfl) (by
  intro k i hk l hl
  match k, hk with
  | 0, hk => cases hk; cases hl; exact l0_ok
  | _ + 1, hk => exact absurd hk (by simp))
theorem det (b_0 : Int) (n_1 : Int) : Det (F b_0 n_1) := by
  unfold F
  repeat' first | with_reducible exact det_ret _ | with_reducible exact det_false | with_reducible refine det_cond _ ?_ ?_ | with_reducible refine det_oget _ (fun _ => ?_) | with_reducible refine det_loop (fun _ => ?_) (fun _ => ?_) (fun _ => ?_) _ | unfold b0
theorem edet (args : List AV) : Det (en args) := mkEntry_det (ts := [(.int .u8), (.int .i64)]) (cod := (cTwo (.slice .bool) .bool)) (F := fun x => F x.1 x.2.1) (fun x => det x.1 x.2.1) args
theorem ground : Ground E tab := ⟨num, mixed, (tab_nil _), clone, dtab_nil⟩
theorem has : ((E.P.funcs[39]?).bind (·.body)).isSome = true := by kernel_rfl
theorem sound : EntrySound E.P 39 en := mkSound (ts := [(.int .u8), (.int .i64)]) (cod := (cTwo (.slice .bool) .bool)) (F := fun x => F x.1 x.2.1) ground loops has eq
end ref01_Unflag
namespace ref01_Flags
noncomputable def tab : Tab := []
structure R where
def cR (_ : R) : St := { fr := fun _ => .top, hs := hs0 }
def kR : Keep := { ks := [], bs := [], hn := 0 }
structure L0 where
  l : (List Bool)
  b0 : Int
  p : Int
  i : Int
def c0 (x : L0) : St := { fr := lookL .top [(0, (.sl .any .bool x.l)), (3, (.int .u8 x.b0)), (4, (.int .u8 x.p)), (5, (.int .i64 x.i))], hs := { hp := lookL .dead [], hn := 0 } }
def kp0 : Keep := { ks := [(0, none), (3, none), (4, none), (5, none)], bs := [], hn := 0 }
def p0 (st : St) (K : L0 → Prop) : Prop := gSl .any .bool (st.fr 0) fun a1 => gInt .u8 (st.fr 3) fun a2 => gInt .u8 (st.fr 4) fun a3 => gInt .i64 (st.fr 5) fun a4 => K ⟨a1, a2, a3, a4⟩
theorem p0_ok (st : St) (K : L0 → Prop) (h : p0 st K) : ∃ x, keepSt kp0 st = c0 x ∧ K x := by
  obtain ⟨a1, h0, h⟩ := gSl_elim h
  obtain ⟨a2, h1, h⟩ := gInt_elim h
  obtain ⟨a3, h2, h⟩ := gInt_elim h
  obtain ⟨a4, h3, h⟩ := gInt_elim h
  refine ⟨_, ?_, h⟩
  simp only [keepSt, kp0, List.map, h0, h1, h2, h3]
  rfl
def b0 (rec kx : L0 → Prop) (kr : R → Prop) (x : L0) : Prop :=
  (bif (decide (x.i < (x.l.length : Int))) then (bif (decide (x.i < 8)) then (oget (getI x.l x.i) fun v1 => (bif v1 then (rec ⟨x.l, (IntKind.u8.wrap (x.b0 + x.p)), (IntKind.u8.wrap (x.p * 2)), (IntKind.i64.wrap (x.i + 1))⟩) else (rec ⟨x.l, x.b0, (IntKind.u8.wrap (x.p * 2)), (IntKind.i64.wrap (x.i + 1))⟩))) else (kx ⟨x.l, x.b0, x.p, x.i⟩)) else (kx ⟨x.l, x.b0, x.p, x.i⟩))
def l0 : LSpec := mkLoop 0 kp0 kR p0 c0 cR b0
def lt : Nat → Option LSpec
  | 0 => some l0
  | _ => none
def F (l : (List Bool)) (K : Int → Prop) : Prop :=
  (∃ n, loopB b0 n (fun x2 => (K x2.b0)) (fun _ => False) ⟨l, 0, 1, 0⟩)
noncomputable def en : Entry := mkEntry [(.slice .bool)] (cTy (.int .u8)) fun x => F x.1
theorem eq (x : Dens [(.slice .bool)]) (K : Int → Prop) : apure E tab lt 4 41 (encA [(.slice .bool)] x) (ansK ((cTy (.int .u8))) K) = F x.1 K := by kernel_rfl
theorem l0_ok : LSound E tab (afun E tab 4) 26 lt 0 ((loopsIn E.P 41).getD 0 (0, .skip)).2 l0 := mkLoop_sound (by decide) (by decide) p0_ok (fun R Kx Kr x => by kernel_rfl)
theorem loops : LoopsOk E tab lt 4 41 := loops_of (nt := 26) (ids := [0]) (by kernel_rfl) (by kernel_rfl) (by
  intro k i hk l hl
  match k, hk with
  | 0, hk => cases hk; cases hl; exact l0_ok
  | _ + 1, hk => exact absurd hk (by simp))
theorem det (l : (List Bool)) : Det (F l) := by
  unfold F
  repeat' first | with_reducible exact det_ret _ | with_reducible exact det_false | with_reducible refine det_cond _ ?_ ?_ | with_reducible refine det_oget _ (fun _ => ?_) | with_reducible refine det_loop (fun _ => ?_) (fun _ => ?_) (fun _ => ?_) _ | unfold b0
theorem edet (args : List AV) : Det (en args) := mkEntry_det (ts := [(.slice .bool)]) (cod := (cTy (.int .u8))) (F := fun x => F x.1) (fun x => det x.1) args
theorem ground : Ground E tab := ⟨num, mixed, (tab_nil _), clone, dtab_nil⟩
theorem has : ((E.P.funcs[41]?).bind (·.body)).isSome = true := by kernel_rfl
theorem sound : EntrySound E.P 41 en := mkSound (ts := [(.slice .bool)]) (cod := (cTy (.int .u8))) (F := fun x => F x.1) ground loops has eq
end ref01_Flags
namespace law01_NumFlags
noncomputable def tab : Tab := [(29, law01_alive.en), (38, num_Unflag.en), (39, ref01_Unflag.en), (40, num_Flags.en), (41, ref01_Flags.en), (42, ref01_Same.en)]
def F (l : (List Bool)) (b_1 : Int) (n_2 : Int) (K : Bool → Prop) : Prop :=
  (law01_alive.F fun r1 => (bif (!r1) then (K false) else (bif (decide ((l.length : Int) > 100)) then (K true) else (num_Unflag.F b_1 n_2 fun r2 => (ref01_Unflag.F b_1 n_2 fun r3 => (num_Flags.F l fun r4 => (ref01_Flags.F l fun r5 => (bif (r4 == r5) then (ref01_Same.F r2.1 r3.1 fun r6 => (bif r6 then (K (r2.2 == r3.2)) else (K false))) else (K false)))))))))
noncomputable def en : Entry := mkEntry [(.slice .bool), (.int .u8), (.int .i64)] (cTy .bool) fun x => F x.1 x.2.1 x.2.2.1
noncomputable def tabV (f0 : (Bool → Prop) → Prop) (f1 : Int → Int → (((List Bool) × Bool) → Prop) → Prop) (f2 : Int → Int → (((List Bool) × Bool) → Prop) → Prop) (f3 : (List Bool) → (Int → Prop) → Prop) (f4 : (List Bool) → (Int → Prop) → Prop) (f5 : (List Bool) → (List Bool) → (Bool → Prop) → Prop) : Tab := [(29, mkEntry [] (cTy .bool) fun _ => f0), (38, mkEntry [(.int .u8), (.int .i64)] (cTwo (.slice .bool) .bool) fun x => f1 x.1 x.2.1), (39, mkEntry [(.int .u8), (.int .i64)] (cTwo (.slice .bool) .bool) fun x => f2 x.1 x.2.1), (40, mkEntry [(.slice .bool)] (cTy (.int .u8)) fun x => f3 x.1), (41, mkEntry [(.slice .bool)] (cTy (.int .u8)) fun x => f4 x.1), (42, mkEntry [(.slice .bool), (.slice .bool)] (cTy .bool) fun x => f5 x.1 x.2.1)]
theorem tabE : tab = tabV law01_alive.F num_Unflag.F ref01_Unflag.F num_Flags.F ref01_Flags.F ref01_Same.F := by kernel_rfl
theorem eqv (f0 : (Bool → Prop) → Prop) (f1 : Int → Int → (((List Bool) × Bool) → Prop) → Prop) (f2 : Int → Int → (((List Bool) × Bool) → Prop) → Prop) (f3 : (List Bool) → (Int → Prop) → Prop) (f4 : (List Bool) → (Int → Prop) → Prop) (f5 : (List Bool) → (List Bool) → (Bool → Prop) → Prop) (l : (List Bool)) (b_1 : Int) (n_2 : Int) (K : Bool → Prop) : apure E (tabV f0 f1 f2 f3 f4 f5) (fun _ => none) 4 7 [enc (.slice .bool) l, enc (.int .u8) b_1, enc (.int .i64) n_2] (ansK ((cTy .bool)) K) =
  (f0 fun r1 => (bif (!r1) then (K false) else (bif (decide ((l.length : Int) > 100)) then (K true) else (f1 b_1 n_2 fun r2 => (f2 b_1 n_2 fun r3 => (f3 l fun r4 => (f4 l fun r5 => (bif (r4 == r5) then (f5 r2.1 r3.1 fun r6 => (bif r6 then (K (r2.2 == r3.2)) else (K false))) else (K false))))))))) := by kernel_rfl
theorem eq (x : Dens [(.slice .bool), (.int .u8), (.int .i64)]) (K : Bool → Prop) : apure E tab (fun _ => none) 4 7 (encA [(.slice .bool), (.int .u8), (.int .i64)] x) (ansK ((cTy .bool)) K) = F x.1 x.2.1 x.2.2.1 K := eqv law01_alive.F num_Unflag.F ref01_Unflag.F num_Flags.F ref01_Flags.F ref01_Same.F x.1 x.2.1 x.2.2.1 K
theorem loops : LoopsOk E tab (fun _ => none) 4 7 := loops_none _ _ _ _
theorem det (l : (List Bool)) (b_1 : Int) (n_2 : Int) : Det (F l b_1 n_2) := by
  unfold F
  repeat' first | with_reducible exact det_ret _ | with_reducible exact det_false | with_reducible refine det_cond _ ?_ ?_ | with_reducible refine det_oget _ (fun _ => ?_) | with_reducible exact law01_alive.det | with_reducible refine det_bind (law01_alive.det) (fun _ => ?_) | with_reducible exact num_Unflag.det _ _ | with_reducible refine det_bind (num_Unflag.det _ _) (fun _ => ?_) | with_reducible exact ref01_Unflag.det _ _ | with_reducible refine det_bind (ref01_Unflag.det _ _) (fun _ => ?_) | with_reducible exact num_Flags.det _ | with_reducible refine det_bind (num_Flags.det _) (fun _ => ?_) | with_reducible exact ref01_Flags.det _ | with_reducible refine det_bind (ref01_Flags.det _) (fun _ => ?_) | with_reducible exact ref01_Same.det _ _ | with_reducible refine det_bind (ref01_Same.det _ _) (fun _ => ?_)
theorem edet (args : List AV) : Det (en args) := mkEntry_det (ts := [(.slice .bool), (.int .u8), (.int .i64)]) (cod := (cTy .bool)) (F := fun x => F x.1 x.2.1 x.2.2.1) (fun x => det x.1 x.2.1 x.2.2.1) args
theorem ground : Ground E tab := ⟨num, mixed, (tab_cons law01_alive.sound (tab_cons num_Unflag.sound (tab_cons ref01_Unflag.sound (tab_cons num_Flags.sound (tab_cons ref01_Flags.sound (tab_cons ref01_Same.sound (tab_nil _))))))), clone, (dtab_cons law01_alive.edet (dtab_cons num_Unflag.edet (dtab_cons ref01_Unflag.edet (dtab_cons num_Flags.edet (dtab_cons ref01_Flags.edet (dtab_cons ref01_Same.edet dtab_nil))))))⟩
theorem has : ((E.P.funcs[7]?).bind (·.body)).isSome = true := by kernel_rfl
theorem sound : EntrySound E.P 7 en := mkSound (ts := [(.slice .bool), (.int .u8), (.int .i64)]) (cod := (cTy .bool)) (F := fun x => F x.1 x.2.1 x.2.2.1) ground loops has eq
end law01_NumFlags
namespace law01_NumBack
noncomputable def tab : Tab := [(29, law01_alive.en), (36, num_Put64.en), (32, num_Get64.en), (34, num_Put32.en), (30, num_Get32.en), (40, num_Flags.en), (38, num_Unflag.en), (42, ref01_Same.en)]
def F (n_0 : Int) (s : Str) (l : (List Bool)) (K : Bool → Prop) : Prop :=
  (law01_alive.F fun r1 => (bif (!r1) then (K false) else (bif (decide ((s.length : Int) > 100)) then (K true) else (bif (decide ((l.length : Int) > 8)) then (K true) else (num_Put64.F n_0 fun r2 => (num_Get64.F r2 fun r3 => (bif (4294967296 == 0) then False else (num_Put32.F (IntKind.u32.wrap (n_0.tmod 4294967296)) fun r4 => (num_Get32.F r4 fun r5 => (num_Flags.F l fun r6 => (num_Unflag.F r6 (l.length : Int) fun r7 => (bif (!r3.2) then (K false) else (bif (!r5.2) then (K false) else (bif (!r7.2) then (K false) else (bif (r3.1 != n_0) then (K false) else (bif (4294967296 == 0) then False else (bif ((IntKind.u64.wrap r5.1) != (n_0.tmod 4294967296)) then (K false) else (ref01_Same.F r7.1 l fun r8 => (bif (!r8) then (K false) else (num_Get64.F s fun r9 => (num_Get32.F s fun r10 => (bif (!r9.2) then (bif (!r10.2) then (bif (r9.2 == ((s.length : Int) == 8)) then (K (r10.2 == ((s.length : Int) == 4))) else (K false)) else (num_Put32.F r10.1 fun r11 => (bif (r11 == s) then (bif (r9.2 == ((s.length : Int) == 8)) then (K (r10.2 == ((s.length : Int) == 4))) else (K false)) else (K false)))) else (num_Put64.F r9.1 fun r12 => (bif (r12 == s) then (bif (!r10.2) then (bif (r9.2 == ((s.length : Int) == 8)) then (K (r10.2 == ((s.length : Int) == 4))) else (K false)) else (num_Put32.F r10.1 fun r13 => (bif (r13 == s) then (bif (r9.2 == ((s.length : Int) == 8)) then (K (r10.2 == ((s.length : Int) == 4))) else (K false)) else (K false)))) else (K false)))))))))))))))))))))))))
noncomputable def en : Entry := mkEntry [(.int .u64), .str, (.slice .bool)] (cTy .bool) fun x => F x.1 x.2.1 x.2.2.1
noncomputable def tabV (f0 : (Bool → Prop) → Prop) (f1 : Int → (Str → Prop) → Prop) (f2 : Str → ((Int × Bool) → Prop) → Prop) (f3 : Int → (Str → Prop) → Prop) (f4 : Str → ((Int × Bool) → Prop) → Prop) (f5 : (List Bool) → (Int → Prop) → Prop) (f6 : Int → Int → (((List Bool) × Bool) → Prop) → Prop) (f7 : (List Bool) → (List Bool) → (Bool → Prop) → Prop) : Tab := [(29, mkEntry [] (cTy .bool) fun _ => f0), (36, mkEntry [(.int .u64)] (cTy .str) fun x => f1 x.1), (32, mkEntry [.str] (cTwo (.int .u64) .bool) fun x => f2 x.1), (34, mkEntry [(.int .u32)] (cTy .str) fun x => f3 x.1), (30, mkEntry [.str] (cTwo (.int .u32) .bool) fun x => f4 x.1), (40, mkEntry [(.slice .bool)] (cTy (.int .u8)) fun x => f5 x.1), (38, mkEntry [(.int .u8), (.int .i64)] (cTwo (.slice .bool) .bool) fun x => f6 x.1 x.2.1), (42, mkEntry [(.slice .bool), (.slice .bool)] (cTy .bool) fun x => f7 x.1 x.2.1)]
theorem tabE : tab = tabV law01_alive.F num_Put64.F num_Get64.F num_Put32.F num_Get32.F num_Flags.F num_Unflag.F ref01_Same.F := by kernel_rfl
theorem eqv (f0 : (Bool → Prop) → Prop) (f1 : Int → (Str → Prop) → Prop) (f2 : Str → ((Int × Bool) → Prop) → Prop) (f3 : Int → (Str → Prop) → Prop) (f4 : Str → ((Int × Bool) → Prop) → Prop) (f5 : (List Bool) → (Int → Prop) → Prop) (f6 : Int → Int → (((List Bool) × Bool) → Prop) → Prop) (f7 : (List Bool) → (List Bool) → (Bool → Prop) → Prop) (n_0 : Int) (s : Str) (l : (List Bool)) (K : Bool → Prop) : apure E (tabV f0 f1 f2 f3 f4 f5 f6 f7) (fun _ => none) 4 8 [enc (.int .u64) n_0, enc .str s, enc (.slice .bool) l] (ansK ((cTy .bool)) K) =
  (f0 fun r1 => (bif (!r1) then (K false) else (bif (decide ((s.length : Int) > 100)) then (K true) else (bif (decide ((l.length : Int) > 8)) then (K true) else (f1 n_0 fun r2 => (f2 r2 fun r3 => (bif (4294967296 == 0) then False else (f3 (IntKind.u32.wrap (n_0.tmod 4294967296)) fun r4 => (f4 r4 fun r5 => (f5 l fun r6 => (f6 r6 (l.length : Int) fun r7 => (bif (!r3.2) then (K false) else (bif (!r5.2) then (K false) else (bif (!r7.2) then (K false) else (bif (r3.1 != n_0) then (K false) else (bif (4294967296 == 0) then False else (bif ((IntKind.u64.wrap r5.1) != (n_0.tmod 4294967296)) then (K false) else (f7 r7.1 l fun r8 => (bif (!r8) then (K false) else (f2 s fun r9 => (f4 s fun r10 => (bif (!r9.2) then (bif (!r10.2) then (bif (r9.2 == ((s.length : Int) == 8)) then (K (r10.2 == ((s.length : Int) == 4))) else (K false)) else (f3 r10.1 fun r11 => (bif (r11 == s) then (bif (r9.2 == ((s.length : Int) == 8)) then (K (r10.2 == ((s.length : Int) == 4))) else (K false)) else (K false)))) else (f1 r9.1 fun r12 => (bif (r12 == s) then (bif (!r10.2) then (bif (r9.2 == ((s.length : Int) == 8)) then (K (r10.2 == ((s.length : Int) == 4))) else (K false)) else (f3 r10.1 fun r13 => (bif (r13 == s) then (bif (r9.2 == ((s.length : Int) == 8)) then (K (r10.2 == ((s.length : Int) == 4))) else (K false)) else (K false)))) else (K false))))))))))))))))))))))))) := by kernel_rfl
theorem eq (x : Dens [(.int .u64), .str, (.slice .bool)]) (K : Bool → Prop) : apure E tab (fun _ => none) 4 8 (encA [(.int .u64), .str, (.slice .bool)] x) (ansK ((cTy .bool)) K) = F x.1 x.2.1 x.2.2.1 K := eqv law01_alive.F num_Put64.F num_Get64.F num_Put32.F num_Get32.F num_Flags.F num_Unflag.F ref01_Same.F x.1 x.2.1 x.2.2.1 K
theorem loops : LoopsOk E tab (fun _ => none) 4 8 := loops_none _ _ _ _
theorem det (n_0 : Int) (s : Str) (l : (List Bool)) : Det (F n_0 s l) := by
  unfold F
  repeat' first | with_reducible exact det_ret _ | with_reducible exact det_false | with_reducible refine det_cond _ ?_ ?_ | with_reducible refine det_oget _ (fun _ => ?_) | with_reducible exact law01_alive.det | with_reducible refine det_bind (law01_alive.det) (fun _ => ?_) | with_reducible exact num_Put64.det _ | with_reducible refine det_bind (num_Put64.det _) (fun _ => ?_) | with_reducible exact num_Get64.det _ | with_reducible refine det_bind (num_Get64.det _) (fun _ => ?_) | with_reducible exact num_Put32.det _ | with_reducible refine det_bind (num_Put32.det _) (fun _ => ?_) | with_reducible exact num_Get32.det _ | with_reducible refine det_bind (num_Get32.det _) (fun _ => ?_) | with_reducible exact num_Flags.det _ | with_reducible refine det_bind (num_Flags.det _) (fun _ => ?_) | with_reducible exact num_Unflag.det _ _ | with_reducible refine det_bind (num_Unflag.det _ _) (fun _ => ?_) | with_reducible exact ref01_Same.det _ _ | with_reducible refine det_bind (ref01_Same.det _ _) (fun _ => ?_)
theorem edet (args : List AV) : Det (en args) := mkEntry_det (ts := [(.int .u64), .str, (.slice .bool)]) (cod := (cTy .bool)) (F := fun x => F x.1 x.2.1 x.2.2.1) (fun x => det x.1 x.2.1 x.2.2.1) args
theorem ground : Ground E tab := ⟨num, mixed, (tab_cons law01_alive.sound (tab_cons num_Put64.sound (tab_cons num_Get64.sound (tab_cons num_Put32.sound (tab_cons num_Get32.sound (tab_cons num_Flags.sound (tab_cons num_Unflag.sound (tab_cons ref01_Same.sound (tab_nil _))))))))), clone, (dtab_cons law01_alive.edet (dtab_cons num_Put64.edet (dtab_cons num_Get64.edet (dtab_cons num_Put32.edet (dtab_cons num_Get32.edet (dtab_cons num_Flags.edet (dtab_cons num_Unflag.edet (dtab_cons ref01_Same.edet dtab_nil))))))))⟩
theorem has : ((E.P.funcs[8]?).bind (·.body)).isSome = true := by kernel_rfl
theorem sound : EntrySound E.P 8 en := mkSound (ts := [(.int .u64), .str, (.slice .bool)]) (cod := (cTy .bool)) (F := fun x => F x.1 x.2.1 x.2.2.1) ground loops has eq
end law01_NumBack
end Gm
