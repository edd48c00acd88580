/- Printed by a program (gen.py): the functions' answers, and that they are so. -/
import Derived.Test.YtbhgalddlkebgaaDoorGmE0
set_option linter.unusedVariables false
set_option maxRecDepth 100000
namespace Gm
open Go Go.Proofs
namespace check_Sum
noncomputable def tab : Tab := []
structure R where
def cR (_ : R) : St := { fr := fun _ => .top, hs := hs0 }
def kR : Keep := { ks := [], bs := [], hn := 0 }
structure L0 where
  s : Str
  n0 : Int
  t6 : Int
  t7 : Int
def c0 (x : L0) : St := { fr := lookL .top [(0, (.str x.s)), (3, (.int .u32 x.n0)), (6, (.int .i64 x.t6)), (7, (.int .i64 x.t7))], hs := { hp := lookL .dead [], hn := 0 } }
def kp0 : Keep := { ks := [(0, none), (3, none), (6, none), (7, none)], bs := [], hn := 0 }
def p0 (st : St) (K : L0 → Prop) : Prop := gStr (st.fr 0) fun a1 => gInt .u32 (st.fr 3) fun a2 => gInt .i64 (st.fr 6) fun a3 => gInt .i64 (st.fr 7) fun a4 => K ⟨a1, a2, a3, a4⟩
theorem p0_ok (st : St) (K : L0 → Prop) (h : p0 st K) : ∃ x, keepSt kp0 st = c0 x ∧ K x := by
  obtain ⟨a1, h0, h⟩ := gStr_elim h
  obtain ⟨a2, h1, h⟩ := gInt_elim h
  obtain ⟨a3, h2, h⟩ := gInt_elim h
  obtain ⟨a4, h3, h⟩ := gInt_elim h
  refine ⟨_, ?_, h⟩
  simp only [keepSt, kp0, List.map, h0, h1, h2, h3]
  rfl
def b0 (rec kx : L0 → Prop) (kr : R → Prop) (x : L0) : Prop :=
  (bif (decide (x.t7 < x.t6)) then (oget (getI x.s x.t7) fun v1 => (rec ⟨x.s, (IntKind.u32.wrap ((ixor .u32 x.n0 (IntKind.u32.wrap (v1.toNat : Int))) * 16777619)), x.t6, (IntKind.i64.wrap (x.t7 + 1))⟩)) else (kx ⟨x.s, x.n0, x.t6, x.t7⟩))
def l0 : LSpec := mkLoop 0 kp0 kR p0 c0 cR b0
def lt : Nat → Option LSpec
  | 0 => some l0
  | _ => none
def F (s : Str) (K : Int → Prop) : Prop :=
  (∃ n, loopB b0 n (fun x2 => (K x2.n0)) (fun _ => False) ⟨s, 2166136261, (s.length : Int), 0⟩)
noncomputable def en : Entry := mkEntry [.str] (cTy (.int .u32)) fun x => F x.1
theorem eq (x : Dens [.str]) (K : Int → Prop) : apure E tab lt 4 37 (encA [.str] x) (ansK ((cTy (.int .u32))) K) = F x.1 K := by kernel_rfl
theorem l0_ok : LSound E tab (afun E tab 4) 19 lt 0 ((loopsIn E.P 37).getD 0 (0, .skip)).2 l0 := mkLoop_sound (by decide) (by decide) p0_ok (fun R Kx Kr x => by kernel_rfl)
theorem loops : LoopsOk E tab lt 4 37 := loops_of (nt := 19) (ids := [0]) (by kernel_rfl) (by kernel_rfl) (by
  intro k i hk l hl
  match k, hk with
  | 0, hk => cases hk; cases hl; exact l0_ok
  | _ + 1, hk => exact absurd hk (by simp))
theorem det (s : Str) : Det (F s) := by
  unfold F
  repeat' first | with_reducible exact det_ret _ | with_reducible exact det_false | with_reducible refine det_cond _ ?_ ?_ | with_reducible refine det_oget _ (fun _ => ?_) | with_reducible refine det_loop (fun _ => ?_) (fun _ => ?_) (fun _ => ?_) _ | unfold b0
theorem edet (args : List AV) : Det (en args) := mkEntry_det (ts := [.str]) (cod := (cTy (.int .u32))) (F := fun x => F x.1) (fun x => det x.1) args
theorem ground : Ground E tab := ⟨num, mixed, (tab_nil _), clone, dtab_nil, stab⟩
theorem has : ((E.P.funcs[37]?).bind (·.body)).isSome = true := by kernel_rfl
theorem sound : EntrySound E 37 en := mkSound (ts := [.str]) (cod := (cTy (.int .u32))) (F := fun x => F x.1) ground loops has eq
end check_Sum
namespace num_put
noncomputable def tab : Tab := []
structure R where
def cR (_ : R) : St := { fr := fun _ => .top, hs := hs0 }
def kR : Keep := { ks := [], bs := [], hn := 0 }
structure L0 where
  n0 : Int
  size : Int
  b0 : (List Int)
  t10 : Int
  t11 : Int
def c0 (x : L0) : St := { fr := lookL .top [(0, (.int .u64 x.n0)), (1, (.int .i64 x.size)), (5, (.slr 0)), (10, (.int .i64 x.t10)), (11, (.int .i64 x.t11))], hs := { hp := lookL .dead [(0, (.row false (.int .u8) x.b0))], hn := 1 } }
def kp0 : Keep := { ks := [(0, none), (1, none), (5, some 0), (10, none), (11, none)], bs := [], hn := 1 }
def p0 (st : St) (K : L0 → Prop) : Prop := gHomes kp0 st <| gInt .u64 (st.fr 0) fun a1 => gInt .i64 (st.fr 1) fun a2 => gSlr (st.fr 5) fun c3 => gRow false (.int .u8) (st.hs.hp c3) fun a4 => gInt .i64 (st.fr 10) fun a5 => gInt .i64 (st.fr 11) fun a6 => K ⟨a1, a2, a4, a5, a6⟩
theorem p0_ok (st : St) (K : L0 → Prop) (h : p0 st K) : ∃ x, keepSt kp0 st = c0 x ∧ K x := by
  obtain ⟨h0, h⟩ := gHomes_elim h
  obtain ⟨a1, h1, h⟩ := gInt_elim h
  obtain ⟨a2, h2, h⟩ := gInt_elim h
  obtain ⟨c3, h3, h⟩ := gSlr_elim h
  obtain ⟨a4, h4, h⟩ := gRow_elim h
  obtain ⟨a5, h5, h⟩ := gInt_elim h
  obtain ⟨a6, h6, h⟩ := gInt_elim h
  refine ⟨_, ?_, h⟩
  simp only [keepSt, h0]
  simp only [kp0, List.map, List.filterMap, homeOf, h1, h2, h3, h4, h5, h6, hmOf, List.append_nil, cond_true]
  rfl
def b0 (rec kx : L0 → Prop) (kr : R → Prop) (x : L0) : Prop :=
  (bif (decide (x.t11 < x.t10)) then (bif (decide (0 ≤ (IntKind.i64.wrap (8 * x.t11)))) then (bif (decide (0 ≤ (IntKind.i64.wrap ((IntKind.i64.wrap (x.size - 1)) - x.t11))) && decide ((IntKind.i64.wrap ((IntKind.i64.wrap (x.size - 1)) - x.t11)) < (x.b0.length : Int))) then (rec ⟨x.n0, x.size, (x.b0.set (Int.toNat (IntKind.i64.wrap ((IntKind.i64.wrap (x.size - 1)) - x.t11))) (IntKind.u8.wrap (ishr .u64 x.n0 (IntKind.i64.wrap (8 * x.t11))))), x.t10, (IntKind.i64.wrap (x.t11 + 1))⟩) else False) else False) else (kx ⟨x.n0, x.size, x.b0, x.t10, x.t11⟩))
def l0 : LSpec := mkLoop 0 kp0 kR p0 c0 cR b0
def lt : Nat → Option LSpec
  | 0 => some l0
  | _ => none
def F (n_0 : Int) (size : Int) (K : Str → Prop) : Prop :=
  (bif (size == size && (decide (0 ≤ size) && decide (size * (1 : Nat) ≤ (room : Int)))) then (∃ n, loopB b0 n (fun x1 => (K (bytesOfInts x1.b0))) (fun _ => False) ⟨n_0, size, (List.replicate (Int.toNat size) (0 : Int)), ((List.replicate (Int.toNat size) (0 : Int)).length : Int), 0⟩) else False)
noncomputable def en : Entry := mkEntry [(.int .u64), (.int .i64)] (cTy .str) fun x => F x.1 x.2.1
theorem eq (x : Dens [(.int .u64), (.int .i64)]) (K : Str → Prop) : apure E tab lt 4 34 (encA [(.int .u64), (.int .i64)] x) (ansK ((cTy .str)) K) = F x.1 x.2.1 K := by kernel_rfl
theorem l0_ok : LSound E tab (afun E tab 4) 28 lt 0 ((loopsIn E.P 34).getD 0 (0, .skip)).2 l0 := mkLoop_sound (by decide) (by decide) p0_ok (fun R Kx Kr x => by kernel_rfl)
theorem loops : LoopsOk E tab lt 4 34 := loops_of (nt := 28) (ids := [0]) (by kernel_rfl) (by kernel_rfl) (by
  intro k i hk l hl
  match k, hk with
  | 0, hk => cases hk; cases hl; exact l0_ok
  | _ + 1, hk => exact absurd hk (by simp))
theorem det (n_0 : Int) (size : Int) : Det (F n_0 size) := by
  unfold F
  repeat' first | with_reducible exact det_ret _ | with_reducible exact det_false | with_reducible refine det_cond _ ?_ ?_ | with_reducible refine det_oget _ (fun _ => ?_) | with_reducible refine det_loop (fun _ => ?_) (fun _ => ?_) (fun _ => ?_) _ | unfold b0
theorem edet (args : List AV) : Det (en args) := mkEntry_det (ts := [(.int .u64), (.int .i64)]) (cod := (cTy .str)) (F := fun x => F x.1 x.2.1) (fun x => det x.1 x.2.1) args
theorem ground : Ground E tab := ⟨num, mixed, (tab_nil _), clone, dtab_nil, stab⟩
theorem has : ((E.P.funcs[34]?).bind (·.body)).isSome = true := by kernel_rfl
theorem sound : EntrySound E 34 en := mkSound (ts := [(.int .u64), (.int .i64)]) (cod := (cTy .str)) (F := fun x => F x.1 x.2.1) ground loops has eq
end num_put
namespace num_Put32
noncomputable def tab : Tab := [(34, num_put.en)]
def F (n_0 : Int) (K : Str → Prop) : Prop :=
  (num_put.F (IntKind.u64.wrap n_0) 4 fun r1 => (K r1))
noncomputable def en : Entry := mkEntry [(.int .u32)] (cTy .str) fun x => F x.1
noncomputable def tabV (f0 : Int → Int → (Str → Prop) → Prop) : Tab := [(34, mkEntry [(.int .u64), (.int .i64)] (cTy .str) fun x => f0 x.1 x.2.1)]
theorem tabE : tab = tabV num_put.F := by kernel_rfl
theorem eqv (f0 : Int → Int → (Str → Prop) → Prop) (n_0 : Int) (K : Str → Prop) : apure E (tabV f0) (fun _ => none) 4 36 [enc (.int .u32) n_0] (ansK ((cTy .str)) K) =
  (f0 (IntKind.u64.wrap n_0) 4 fun r1 => (K r1)) := by kernel_rfl
theorem eq (x : Dens [(.int .u32)]) (K : Str → Prop) : apure E tab (fun _ => none) 4 36 (encA [(.int .u32)] x) (ansK ((cTy .str)) K) = F x.1 K := eqv num_put.F x.1 K
theorem loops : LoopsOk E tab (fun _ => none) 4 36 := loops_none _ _ _ _
theorem det (n_0 : Int) : Det (F n_0) := by
  unfold F
  repeat' first | with_reducible exact det_ret _ | with_reducible exact det_false | with_reducible refine det_cond _ ?_ ?_ | with_reducible refine det_oget _ (fun _ => ?_) | with_reducible exact num_put.det _ _ | with_reducible refine det_bind (num_put.det _ _) (fun _ => ?_)
theorem edet (args : List AV) : Det (en args) := mkEntry_det (ts := [(.int .u32)]) (cod := (cTy .str)) (F := fun x => F x.1) (fun x => det x.1) args
theorem ground : Ground E tab := ⟨num, mixed, (tab_cons num_put.sound (tab_nil _)), clone, (dtab_cons num_put.edet dtab_nil), stab⟩
theorem has : ((E.P.funcs[36]?).bind (·.body)).isSome = true := by kernel_rfl
theorem sound : EntrySound E 36 en := mkSound (ts := [(.int .u32)]) (cod := (cTy .str)) (F := fun x => F x.1) ground loops has eq
end num_Put32
namespace check_Seal
noncomputable def tab : Tab := [(37, check_Sum.en), (36, num_Put32.en)]
def F (s : Str) (K : Str → Prop) : Prop :=
  (check_Sum.F s fun r1 => (num_Put32.F r1 fun r2 => (bif (fits (s.length + r2.length)) then (K (s ++ r2)) else False)))
noncomputable def en : Entry := mkEntry [.str] (cTy .str) fun x => F x.1
noncomputable def tabV (f0 : Str → (Int → Prop) → Prop) (f1 : Int → (Str → Prop) → Prop) : Tab := [(37, mkEntry [.str] (cTy (.int .u32)) fun x => f0 x.1), (36, mkEntry [(.int .u32)] (cTy .str) fun x => f1 x.1)]
theorem tabE : tab = tabV check_Sum.F num_Put32.F := by kernel_rfl
theorem eqv (f0 : Str → (Int → Prop) → Prop) (f1 : Int → (Str → Prop) → Prop) (s : Str) (K : Str → Prop) : apure E (tabV f0 f1) (fun _ => none) 4 20 [enc .str s] (ansK ((cTy .str)) K) =
  (f0 s fun r1 => (f1 r1 fun r2 => (bif (fits (s.length + r2.length)) then (K (s ++ r2)) else False))) := by kernel_rfl
theorem eq (x : Dens [.str]) (K : Str → Prop) : apure E tab (fun _ => none) 4 20 (encA [.str] x) (ansK ((cTy .str)) K) = F x.1 K := eqv check_Sum.F num_Put32.F x.1 K
theorem loops : LoopsOk E tab (fun _ => none) 4 20 := loops_none _ _ _ _
theorem det (s : Str) : Det (F s) := by
  unfold F
  repeat' first | with_reducible exact det_ret _ | with_reducible exact det_false | with_reducible refine det_cond _ ?_ ?_ | with_reducible refine det_oget _ (fun _ => ?_) | with_reducible exact check_Sum.det _ | with_reducible refine det_bind (check_Sum.det _) (fun _ => ?_) | with_reducible exact num_Put32.det _ | with_reducible refine det_bind (num_Put32.det _) (fun _ => ?_)
theorem edet (args : List AV) : Det (en args) := mkEntry_det (ts := [.str]) (cod := (cTy .str)) (F := fun x => F x.1) (fun x => det x.1) args
theorem ground : Ground E tab := ⟨num, mixed, (tab_cons check_Sum.sound (tab_cons num_Put32.sound (tab_nil _))), clone, (dtab_cons check_Sum.edet (dtab_cons num_Put32.edet dtab_nil)), stab⟩
theorem has : ((E.P.funcs[20]?).bind (·.body)).isSome = true := by kernel_rfl
theorem sound : EntrySound E 20 en := mkSound (ts := [.str]) (cod := (cTy .str)) (F := fun x => F x.1) ground loops has eq
end check_Seal
namespace num_get
noncomputable def tab : Tab := []
structure R where
def cR (_ : R) : St := { fr := fun _ => .top, hs := hs0 }
def kR : Keep := { ks := [], bs := [], hn := 0 }
structure L0 where
  s : Str
  n0 : Int
  t5 : Int
  t6 : Int
def c0 (x : L0) : St := { fr := lookL .top [(0, (.str x.s)), (2, (.int .u64 x.n0)), (5, (.int .i64 x.t5)), (6, (.int .i64 x.t6))], hs := { hp := lookL .dead [], hn := 0 } }
def kp0 : Keep := { ks := [(0, none), (2, none), (5, none), (6, none)], bs := [], hn := 0 }
def p0 (st : St) (K : L0 → Prop) : Prop := gStr (st.fr 0) fun a1 => gInt .u64 (st.fr 2) fun a2 => gInt .i64 (st.fr 5) fun a3 => gInt .i64 (st.fr 6) fun a4 => K ⟨a1, a2, a3, a4⟩
theorem p0_ok (st : St) (K : L0 → Prop) (h : p0 st K) : ∃ x, keepSt kp0 st = c0 x ∧ K x := by
  obtain ⟨a1, h0, h⟩ := gStr_elim h
  obtain ⟨a2, h1, h⟩ := gInt_elim h
  obtain ⟨a3, h2, h⟩ := gInt_elim h
  obtain ⟨a4, h3, h⟩ := gInt_elim h
  refine ⟨_, ?_, h⟩
  simp only [keepSt, kp0, List.map, h0, h1, h2, h3]
  rfl
def b0 (rec kx : L0 → Prop) (kr : R → Prop) (x : L0) : Prop :=
  (bif (decide (x.t6 < x.t5)) then (oget (getI x.s x.t6) fun v1 => (rec ⟨x.s, (ior .u64 (ishl .u64 x.n0 8) (IntKind.u64.wrap (v1.toNat : Int))), x.t5, (IntKind.i64.wrap (x.t6 + 1))⟩)) else (kx ⟨x.s, x.n0, x.t5, x.t6⟩))
def l0 : LSpec := mkLoop 0 kp0 kR p0 c0 cR b0
def lt : Nat → Option LSpec
  | 0 => some l0
  | _ => none
def F (s : Str) (K : Int → Prop) : Prop :=
  (∃ n, loopB b0 n (fun x2 => (K x2.n0)) (fun _ => False) ⟨s, 0, (s.length : Int), 0⟩)
noncomputable def en : Entry := mkEntry [.str] (cTy (.int .u64)) fun x => F x.1
theorem eq (x : Dens [.str]) (K : Int → Prop) : apure E tab lt 4 58 (encA [.str] x) (ansK ((cTy (.int .u64))) K) = F x.1 K := by kernel_rfl
theorem l0_ok : LSound E tab (afun E tab 4) 18 lt 0 ((loopsIn E.P 58).getD 0 (0, .skip)).2 l0 := mkLoop_sound (by decide) (by decide) p0_ok (fun R Kx Kr x => by kernel_rfl)
theorem loops : LoopsOk E tab lt 4 58 := loops_of (nt := 18) (ids := [0]) (by kernel_rfl) (by kernel_rfl) (by
  intro k i hk l hl
  match k, hk with
  | 0, hk => cases hk; cases hl; exact l0_ok
  | _ + 1, hk => exact absurd hk (by simp))
theorem det (s : Str) : Det (F s) := by
  unfold F
  repeat' first | with_reducible exact det_ret _ | with_reducible exact det_false | with_reducible refine det_cond _ ?_ ?_ | with_reducible refine det_oget _ (fun _ => ?_) | with_reducible refine det_loop (fun _ => ?_) (fun _ => ?_) (fun _ => ?_) _ | unfold b0
theorem edet (args : List AV) : Det (en args) := mkEntry_det (ts := [.str]) (cod := (cTy (.int .u64))) (F := fun x => F x.1) (fun x => det x.1) args
theorem ground : Ground E tab := ⟨num, mixed, (tab_nil _), clone, dtab_nil, stab⟩
theorem has : ((E.P.funcs[58]?).bind (·.body)).isSome = true := by kernel_rfl
theorem sound : EntrySound E 58 en := mkSound (ts := [.str]) (cod := (cTy (.int .u64))) (F := fun x => F x.1) ground loops has eq
end num_get
namespace num_Get32
noncomputable def tab : Tab := [(58, num_get.en)]
def F (s : Str) (K : (Int × Bool) → Prop) : Prop :=
  (bif ((s.length : Int) != 4) then (K (0, false)) else (num_get.F s fun r1 => (K ((IntKind.u32.wrap r1), true))))
noncomputable def en : Entry := mkEntry [.str] (cTwo (.int .u32) .bool) fun x => F x.1
noncomputable def tabV (f0 : Str → (Int → Prop) → Prop) : Tab := [(58, mkEntry [.str] (cTy (.int .u64)) fun x => f0 x.1)]
theorem tabE : tab = tabV num_get.F := by kernel_rfl
theorem eqv (f0 : Str → (Int → Prop) → Prop) (s : Str) (K : (Int × Bool) → Prop) : apure E (tabV f0) (fun _ => none) 4 57 [enc .str s] (ansK ((cTwo (.int .u32) .bool)) K) =
  (bif ((s.length : Int) != 4) then (K (0, false)) else (f0 s fun r1 => (K ((IntKind.u32.wrap r1), true)))) := by kernel_rfl
theorem eq (x : Dens [.str]) (K : (Int × Bool) → Prop) : apure E tab (fun _ => none) 4 57 (encA [.str] x) (ansK ((cTwo (.int .u32) .bool)) K) = F x.1 K := eqv num_get.F x.1 K
theorem loops : LoopsOk E tab (fun _ => none) 4 57 := loops_none _ _ _ _
theorem det (s : Str) : Det (F s) := by
  unfold F
  repeat' first | with_reducible exact det_ret _ | with_reducible exact det_false | with_reducible refine det_cond _ ?_ ?_ | with_reducible refine det_oget _ (fun _ => ?_) | with_reducible exact num_get.det _ | with_reducible refine det_bind (num_get.det _) (fun _ => ?_)
theorem edet (args : List AV) : Det (en args) := mkEntry_det (ts := [.str]) (cod := (cTwo (.int .u32) .bool)) (F := fun x => F x.1) (fun x => det x.1) args
theorem ground : Ground E tab := ⟨num, mixed, (tab_cons num_get.sound (tab_nil _)), clone, (dtab_cons num_get.edet dtab_nil), stab⟩
theorem has : ((E.P.funcs[57]?).bind (·.body)).isSome = true := by kernel_rfl
theorem sound : EntrySound E 57 en := mkSound (ts := [.str]) (cod := (cTwo (.int .u32) .bool)) (F := fun x => F x.1) ground loops has eq
end num_Get32
namespace check_Open
noncomputable def tab : Tab := [(57, num_Get32.en), (37, check_Sum.en)]
def F (s : Str) (K : (Str × Int) → Prop) : Prop :=
  (bif (decide ((IntKind.i64.wrap ((s.length : Int) - 4)) < 0)) then (K (([] : Str), 2)) else (bif (decide (0 ≤ (IntKind.i64.wrap ((s.length : Int) - 4))) && decide ((IntKind.i64.wrap ((s.length : Int) - 4)) ≤ (s.length : Int))) then (num_Get32.F (sub s (Int.toNat (IntKind.i64.wrap ((s.length : Int) - 4))) s.length) fun r1 => (bif (decide (0 ≤ (IntKind.i64.wrap ((s.length : Int) - 4))) && decide ((IntKind.i64.wrap ((s.length : Int) - 4)) ≤ (s.length : Int))) then (check_Sum.F (sub s 0 (Int.toNat (IntKind.i64.wrap ((s.length : Int) - 4)))) fun r2 => (bif (r1.1 != r2) then (K (([] : Str), 3)) else (bif (decide (0 ≤ (IntKind.i64.wrap ((s.length : Int) - 4))) && decide ((IntKind.i64.wrap ((s.length : Int) - 4)) ≤ (s.length : Int))) then (K ((sub s 0 (Int.toNat (IntKind.i64.wrap ((s.length : Int) - 4)))), 0)) else False))) else False)) else False))
noncomputable def en : Entry := mkEntry [.str] (cTwo .str (.int .i64)) fun x => F x.1
noncomputable def tabV (f0 : Str → ((Int × Bool) → Prop) → Prop) (f1 : Str → (Int → Prop) → Prop) : Tab := [(57, mkEntry [.str] (cTwo (.int .u32) .bool) fun x => f0 x.1), (37, mkEntry [.str] (cTy (.int .u32)) fun x => f1 x.1)]
theorem tabE : tab = tabV num_Get32.F check_Sum.F := by kernel_rfl
theorem eqv (f0 : Str → ((Int × Bool) → Prop) → Prop) (f1 : Str → (Int → Prop) → Prop) (s : Str) (K : (Str × Int) → Prop) : apure E (tabV f0 f1) (fun _ => none) 4 45 [enc .str s] (ansK ((cTwo .str (.int .i64))) K) =
  (bif (decide ((IntKind.i64.wrap ((s.length : Int) - 4)) < 0)) then (K (([] : Str), 2)) else (bif (decide (0 ≤ (IntKind.i64.wrap ((s.length : Int) - 4))) && decide ((IntKind.i64.wrap ((s.length : Int) - 4)) ≤ (s.length : Int))) then (f0 (sub s (Int.toNat (IntKind.i64.wrap ((s.length : Int) - 4))) s.length) fun r1 => (bif (decide (0 ≤ (IntKind.i64.wrap ((s.length : Int) - 4))) && decide ((IntKind.i64.wrap ((s.length : Int) - 4)) ≤ (s.length : Int))) then (f1 (sub s 0 (Int.toNat (IntKind.i64.wrap ((s.length : Int) - 4)))) fun r2 => (bif (r1.1 != r2) then (K (([] : Str), 3)) else (bif (decide (0 ≤ (IntKind.i64.wrap ((s.length : Int) - 4))) && decide ((IntKind.i64.wrap ((s.length : Int) - 4)) ≤ (s.length : Int))) then (K ((sub s 0 (Int.toNat (IntKind.i64.wrap ((s.length : Int) - 4)))), 0)) else False))) else False)) else False)) := by kernel_rfl
theorem eq (x : Dens [.str]) (K : (Str × Int) → Prop) : apure E tab (fun _ => none) 4 45 (encA [.str] x) (ansK ((cTwo .str (.int .i64))) K) = F x.1 K := eqv num_Get32.F check_Sum.F x.1 K
theorem loops : LoopsOk E tab (fun _ => none) 4 45 := loops_none _ _ _ _
theorem det (s : Str) : Det (F s) := by
  unfold F
  repeat' first | with_reducible exact det_ret _ | with_reducible exact det_false | with_reducible refine det_cond _ ?_ ?_ | with_reducible refine det_oget _ (fun _ => ?_) | with_reducible exact num_Get32.det _ | with_reducible refine det_bind (num_Get32.det _) (fun _ => ?_) | with_reducible exact check_Sum.det _ | with_reducible refine det_bind (check_Sum.det _) (fun _ => ?_)
theorem edet (args : List AV) : Det (en args) := mkEntry_det (ts := [.str]) (cod := (cTwo .str (.int .i64))) (F := fun x => F x.1) (fun x => det x.1) args
theorem ground : Ground E tab := ⟨num, mixed, (tab_cons num_Get32.sound (tab_cons check_Sum.sound (tab_nil _))), clone, (dtab_cons num_Get32.edet (dtab_cons check_Sum.edet dtab_nil)), stab⟩
theorem has : ((E.P.funcs[45]?).bind (·.body)).isSome = true := by kernel_rfl
theorem sound : EntrySound E 45 en := mkSound (ts := [.str]) (cod := (cTwo .str (.int .i64))) (F := fun x => F x.1) ground loops has eq
end check_Open
namespace num_Put64
noncomputable def tab : Tab := [(34, num_put.en)]
def F (n_0 : Int) (K : Str → Prop) : Prop :=
  (num_put.F n_0 8 fun r1 => (K r1))
noncomputable def en : Entry := mkEntry [(.int .u64)] (cTy .str) fun x => F x.1
noncomputable def tabV (f0 : Int → Int → (Str → Prop) → Prop) : Tab := [(34, mkEntry [(.int .u64), (.int .i64)] (cTy .str) fun x => f0 x.1 x.2.1)]
theorem tabE : tab = tabV num_put.F := by kernel_rfl
theorem eqv (f0 : Int → Int → (Str → Prop) → Prop) (n_0 : Int) (K : Str → Prop) : apure E (tabV f0) (fun _ => none) 4 18 [enc (.int .u64) n_0] (ansK ((cTy .str)) K) =
  (f0 n_0 8 fun r1 => (K r1)) := by kernel_rfl
theorem eq (x : Dens [(.int .u64)]) (K : Str → Prop) : apure E tab (fun _ => none) 4 18 (encA [(.int .u64)] x) (ansK ((cTy .str)) K) = F x.1 K := eqv num_put.F x.1 K
theorem loops : LoopsOk E tab (fun _ => none) 4 18 := loops_none _ _ _ _
theorem det (n_0 : Int) : Det (F n_0) := by
  unfold F
  repeat' first | with_reducible exact det_ret _ | with_reducible exact det_false | with_reducible refine det_cond _ ?_ ?_ | with_reducible refine det_oget _ (fun _ => ?_) | with_reducible exact num_put.det _ _ | with_reducible refine det_bind (num_put.det _ _) (fun _ => ?_)
theorem edet (args : List AV) : Det (en args) := mkEntry_det (ts := [(.int .u64)]) (cod := (cTy .str)) (F := fun x => F x.1) (fun x => det x.1) args
theorem ground : Ground E tab := ⟨num, mixed, (tab_cons num_put.sound (tab_nil _)), clone, (dtab_cons num_put.edet dtab_nil), stab⟩
theorem has : ((E.P.funcs[18]?).bind (·.body)).isSome = true := by kernel_rfl
theorem sound : EntrySound E 18 en := mkSound (ts := [(.int .u64)]) (cod := (cTy .str)) (F := fun x => F x.1) ground loops has eq
end num_Put64
namespace num_Flags
noncomputable def tab : Tab := []
structure R where
def cR (_ : R) : St := { fr := fun _ => .top, hs := hs0 }
def kR : Keep := { ks := [], bs := [], hn := 0 }
structure L0 where
  b0 : Int
  t9 : (List Bool)
  t10 : Int
  t11 : Int
def c0 (x : L0) : St := { fr := lookL .top [(2, (.int .u8 x.b0)), (9, (.sl .any .bool x.t9)), (10, (.int .i64 x.t10)), (11, (.int .i64 x.t11))], hs := { hp := lookL .dead [], hn := 0 } }
def kp0 : Keep := { ks := [(2, none), (9, none), (10, none), (11, none)], bs := [], hn := 0 }
def p0 (st : St) (K : L0 → Prop) : Prop := gInt .u8 (st.fr 2) fun a1 => gSl .any .bool (st.fr 9) fun a2 => gInt .i64 (st.fr 10) fun a3 => gInt .i64 (st.fr 11) fun a4 => K ⟨a1, a2, a3, a4⟩
theorem p0_ok (st : St) (K : L0 → Prop) (h : p0 st K) : ∃ x, keepSt kp0 st = c0 x ∧ K x := by
  obtain ⟨a1, h0, h⟩ := gInt_elim h
  obtain ⟨a2, h1, h⟩ := gSl_elim h
  obtain ⟨a3, h2, h⟩ := gInt_elim h
  obtain ⟨a4, h3, h⟩ := gInt_elim h
  refine ⟨_, ?_, h⟩
  simp only [keepSt, kp0, List.map, h0, h1, h2, h3]
  rfl
def b0 (rec kx : L0 → Prop) (kr : R → Prop) (x : L0) : Prop :=
  (bif (decide (x.t11 < x.t10)) then (oget (getI x.t9 x.t11) fun v1 => (bif v1 then (bif (decide (0 ≤ x.t11)) then (rec ⟨(ior .u8 x.b0 (ishl .u8 1 x.t11)), x.t9, x.t10, (IntKind.i64.wrap (x.t11 + 1))⟩) else False) else (rec ⟨x.b0, x.t9, x.t10, (IntKind.i64.wrap (x.t11 + 1))⟩))) else (kx ⟨x.b0, x.t9, x.t10, x.t11⟩))
def l0 : LSpec := mkLoop 0 kp0 kR p0 c0 cR b0
def lt : Nat → Option LSpec
  | 0 => some l0
  | _ => none
def F (l : (List Bool)) (K : Int → Prop) : Prop :=
  (bif (decide (0 ≤ (minI (l.length : Int) 8)) && decide ((minI (l.length : Int) 8) ≤ (l.length : Int))) then (∃ n, loopB b0 n (fun x2 => (K x2.b0)) (fun _ => False) ⟨0, (sub l 0 (Int.toNat (minI (l.length : Int) 8))), ((sub l 0 (Int.toNat (minI (l.length : Int) 8))).length : Int), 0⟩) else False)
noncomputable def en : Entry := mkEntry [(.slice .bool)] (cTy (.int .u8)) fun x => F x.1
theorem eq (x : Dens [(.slice .bool)]) (K : Int → Prop) : apure E tab lt 4 35 (encA [(.slice .bool)] x) (ansK ((cTy (.int .u8))) K) = F x.1 K := by kernel_rfl
theorem l0_ok : LSound E tab (afun E tab 4) 23 lt 0 ((loopsIn E.P 35).getD 0 (0, .skip)).2 l0 := mkLoop_sound (by decide) (by decide) p0_ok (fun R Kx Kr x => by kernel_rfl)
theorem loops : LoopsOk E tab lt 4 35 := loops_of (nt := 23) (ids := [0]) (by kernel_rfl) (by kernel_rfl) (by
  intro k i hk l hl
  match k, hk with
  | 0, hk => cases hk; cases hl; exact l0_ok
  | _ + 1, hk => exact absurd hk (by simp))
theorem det (l : (List Bool)) : Det (F l) := by
  unfold F
  repeat' first | with_reducible exact det_ret _ | with_reducible exact det_false | with_reducible refine det_cond _ ?_ ?_ | with_reducible refine det_oget _ (fun _ => ?_) | with_reducible refine det_loop (fun _ => ?_) (fun _ => ?_) (fun _ => ?_) _ | unfold b0
theorem edet (args : List AV) : Det (en args) := mkEntry_det (ts := [(.slice .bool)]) (cod := (cTy (.int .u8))) (F := fun x => F x.1) (fun x => det x.1) args
theorem ground : Ground E tab := ⟨num, mixed, (tab_nil _), clone, dtab_nil, stab⟩
theorem has : ((E.P.funcs[35]?).bind (·.body)).isSome = true := by kernel_rfl
theorem sound : EntrySound E 35 en := mkSound (ts := [(.slice .bool)]) (cod := (cTy (.int .u8))) (F := fun x => F x.1) ground loops has eq
end num_Flags
namespace num_Get64
noncomputable def tab : Tab := [(58, num_get.en)]
def F (s : Str) (K : (Int × Bool) → Prop) : Prop :=
  (bif ((s.length : Int) != 8) then (K (0, false)) else (num_get.F s fun r1 => (K (r1, true))))
noncomputable def en : Entry := mkEntry [.str] (cTwo (.int .u64) .bool) fun x => F x.1
noncomputable def tabV (f0 : Str → (Int → Prop) → Prop) : Tab := [(58, mkEntry [.str] (cTy (.int .u64)) fun x => f0 x.1)]
theorem tabE : tab = tabV num_get.F := by kernel_rfl
theorem eqv (f0 : Str → (Int → Prop) → Prop) (s : Str) (K : (Int × Bool) → Prop) : apure E (tabV f0) (fun _ => none) 4 46 [enc .str s] (ansK ((cTwo (.int .u64) .bool)) K) =
  (bif ((s.length : Int) != 8) then (K (0, false)) else (f0 s fun r1 => (K (r1, true)))) := by kernel_rfl
theorem eq (x : Dens [.str]) (K : (Int × Bool) → Prop) : apure E tab (fun _ => none) 4 46 (encA [.str] x) (ansK ((cTwo (.int .u64) .bool)) K) = F x.1 K := eqv num_get.F x.1 K
theorem loops : LoopsOk E tab (fun _ => none) 4 46 := loops_none _ _ _ _
theorem det (s : Str) : Det (F s) := by
  unfold F
  repeat' first | with_reducible exact det_ret _ | with_reducible exact det_false | with_reducible refine det_cond _ ?_ ?_ | with_reducible refine det_oget _ (fun _ => ?_) | with_reducible exact num_get.det _ | with_reducible refine det_bind (num_get.det _) (fun _ => ?_)
theorem edet (args : List AV) : Det (en args) := mkEntry_det (ts := [.str]) (cod := (cTwo (.int .u64) .bool)) (F := fun x => F x.1) (fun x => det x.1) args
theorem ground : Ground E tab := ⟨num, mixed, (tab_cons num_get.sound (tab_nil _)), clone, (dtab_cons num_get.edet dtab_nil), stab⟩
theorem has : ((E.P.funcs[46]?).bind (·.body)).isSome = true := by kernel_rfl
theorem sound : EntrySound E 46 en := mkSound (ts := [.str]) (cod := (cTwo (.int .u64) .bool)) (F := fun x => F x.1) ground loops has eq
end num_Get64
namespace num_Unflag
noncomputable def tab : Tab := []
structure R where
def cR (_ : R) : St := { fr := fun _ => .top, hs := hs0 }
def kR : Keep := { ks := [], bs := [], hn := 0 }
structure L0 where
  b0 : Int
  l : (List Bool)
  t23 : Int
  t24 : Int
def c0 (x : L0) : St := { fr := lookL .top [(0, (.int .u8 x.b0)), (6, (.slr 1)), (23, (.int .i64 x.t23)), (24, (.int .i64 x.t24))], hs := { hp := lookL .dead [(1, (.row false .bool x.l))], hn := 2 } }
def kp0 : Keep := { ks := [(0, none), (6, some 1), (23, none), (24, none)], bs := [], hn := 2 }
def p0 (st : St) (K : L0 → Prop) : Prop := gHomes kp0 st <| gInt .u8 (st.fr 0) fun a1 => gSlr (st.fr 6) fun c2 => gRow false .bool (st.hs.hp c2) fun a3 => gInt .i64 (st.fr 23) fun a4 => gInt .i64 (st.fr 24) fun a5 => K ⟨a1, a3, a4, a5⟩
theorem p0_ok (st : St) (K : L0 → Prop) (h : p0 st K) : ∃ x, keepSt kp0 st = c0 x ∧ K x := by
  obtain ⟨h0, h⟩ := gHomes_elim h
  obtain ⟨a1, h1, h⟩ := gInt_elim h
  obtain ⟨c2, h2, h⟩ := gSlr_elim h
  obtain ⟨a3, h3, h⟩ := gRow_elim h
  obtain ⟨a4, h4, h⟩ := gInt_elim h
  obtain ⟨a5, h5, h⟩ := gInt_elim h
  refine ⟨_, ?_, h⟩
  simp only [keepSt, h0]
  simp only [kp0, List.map, List.filterMap, homeOf, h1, h2, h3, h4, h5, hmOf, List.append_nil, cond_true]
  rfl
def b0 (rec kx : L0 → Prop) (kr : R → Prop) (x : L0) : Prop :=
  (bif (decide (x.t24 < x.t23)) then (bif (decide (0 ≤ x.t24)) then (bif (decide (0 ≤ x.t24) && decide (x.t24 < (x.l.length : Int))) then (rec ⟨x.b0, (x.l.set (Int.toNat x.t24) ((iand .u8 (ishr .u8 x.b0 x.t24) 1) == 1)), x.t23, (IntKind.i64.wrap (x.t24 + 1))⟩) else False) else False) else (kx ⟨x.b0, x.l, x.t23, x.t24⟩))
def l0 : LSpec := mkLoop 0 kp0 kR p0 c0 cR b0
def lt : Nat → Option LSpec
  | 0 => some l0
  | _ => none
def F (b_0 : Int) (n_1 : Int) (K : ((List Bool) × Bool) → Prop) : Prop :=
  (bif (decide (n_1 < 0)) then (K (([] : List Bool), false)) else (bif (decide (n_1 > 8)) then (K (([] : List Bool), false)) else (bif (decide (0 ≤ n_1)) then (bif ((ishr .u8 b_0 n_1) != 0) then (K (([] : List Bool), false)) else (bif (n_1 == n_1 && (decide (0 ≤ n_1) && decide (n_1 * (1 : Nat) ≤ (room : Int)))) then (∃ n, loopB b0 n (fun x1 => (K (x1.l, true))) (fun _ => False) ⟨b_0, (List.replicate (Int.toNat n_1) (false : Bool)), ((List.replicate (Int.toNat n_1) (false : Bool)).length : Int), 0⟩) else False)) else False)))
noncomputable def en : Entry := mkEntry [(.int .u8), (.int .i64)] (cTwo (.slice .bool) .bool) fun x => F x.1 x.2.1
theorem eq (x : Dens [(.int .u8), (.int .i64)]) (K : ((List Bool) × Bool) → Prop) : apure E tab lt 4 65 (encA [(.int .u8), (.int .i64)] x) (ansK ((cTwo (.slice .bool) .bool)) K) = F x.1 x.2.1 K := by kernel_rfl
theorem l0_ok : LSound E tab (afun E tab 4) 37 lt 0 ((loopsIn E.P 65).getD 0 (0, .skip)).2 l0 := mkLoop_sound (by decide) (by decide) p0_ok (fun R Kx Kr x => by kernel_rfl)
theorem loops : LoopsOk E tab lt 4 65 := loops_of (nt := 37) (ids := [0]) (by kernel_rfl) (by kernel_rfl) (by
  intro k i hk l hl
  match k, hk with
  | 0, hk => cases hk; cases hl; exact l0_ok
  | _ + 1, hk => exact absurd hk (by simp))
theorem det (b_0 : Int) (n_1 : Int) : Det (F b_0 n_1) := by
  unfold F
  repeat' first | with_reducible exact det_ret _ | with_reducible exact det_false | with_reducible refine det_cond _ ?_ ?_ | with_reducible refine det_oget _ (fun _ => ?_) | with_reducible refine det_loop (fun _ => ?_) (fun _ => ?_) (fun _ => ?_) _ | unfold b0
theorem edet (args : List AV) : Det (en args) := mkEntry_det (ts := [(.int .u8), (.int .i64)]) (cod := (cTwo (.slice .bool) .bool)) (F := fun x => F x.1 x.2.1) (fun x => det x.1 x.2.1) args
theorem ground : Ground E tab := ⟨num, mixed, (tab_nil _), clone, dtab_nil, stab⟩
theorem has : ((E.P.funcs[65]?).bind (·.body)).isSome = true := by kernel_rfl
theorem sound : EntrySound E 65 en := mkSound (ts := [(.int .u8), (.int .i64)]) (cod := (cTwo (.slice .bool) .bool)) (F := fun x => F x.1 x.2.1) ground loops has eq
end num_Unflag
namespace ref01_put
noncomputable def tab : Tab := []
structure R where
def cR (_ : R) : St := { fr := fun _ => .top, hs := hs0 }
def kR : Keep := { ks := [], bs := [], hn := 0 }
structure L0 where
  n0 : Int
  size : Int
  s : Str
  i : Int
def c0 (x : L0) : St := { fr := lookL .top [(0, (.int .u64 x.n0)), (1, (.int .i64 x.size)), (5, (.str x.s)), (6, (.int .i64 x.i))], hs := { hp := lookL .dead [], hn := 0 } }
def kp0 : Keep := { ks := [(0, none), (1, none), (5, none), (6, none)], bs := [], hn := 0 }
def p0 (st : St) (K : L0 → Prop) : Prop := gInt .u64 (st.fr 0) fun a1 => gInt .i64 (st.fr 1) fun a2 => gStr (st.fr 5) fun a3 => gInt .i64 (st.fr 6) fun a4 => K ⟨a1, a2, a3, a4⟩
theorem p0_ok (st : St) (K : L0 → Prop) (h : p0 st K) : ∃ x, keepSt kp0 st = c0 x ∧ K x := by
  obtain ⟨a1, h0, h⟩ := gInt_elim h
  obtain ⟨a2, h1, h⟩ := gInt_elim h
  obtain ⟨a3, h2, h⟩ := gStr_elim h
  obtain ⟨a4, h3, h⟩ := gInt_elim h
  refine ⟨_, ?_, h⟩
  simp only [keepSt, kp0, List.map, h0, h1, h2, h3]
  rfl
def b0 (rec kx : L0 → Prop) (kr : R → Prop) (x : L0) : Prop :=
  (bif (decide (x.i < x.size)) then (bif (256 == 0) then False else (bif (fits ((bytesOfInts ([(IntKind.u8.wrap (x.n0.tmod 256))] : List Int)).length + x.s.length)) then (bif (256 == 0) then False else (rec ⟨(IntKind.u64.wrap (x.n0.tdiv 256)), x.size, ((bytesOfInts ([(IntKind.u8.wrap (x.n0.tmod 256))] : List Int)) ++ x.s), (IntKind.i64.wrap (x.i + 1))⟩)) else False)) else (kx ⟨x.n0, x.size, x.s, x.i⟩))
def l0 : LSpec := mkLoop 0 kp0 kR p0 c0 cR b0
def lt : Nat → Option LSpec
  | 0 => some l0
  | _ => none
def F (n_0 : Int) (size : Int) (K : Str → Prop) : Prop :=
  (∃ n, loopB b0 n (fun x1 => (K x1.s)) (fun _ => False) ⟨n_0, size, ([] : Str), 0⟩)
noncomputable def en : Entry := mkEntry [(.int .u64), (.int .i64)] (cTy .str) fun x => F x.1 x.2.1
theorem eq (x : Dens [(.int .u64), (.int .i64)]) (K : Str → Prop) : apure E tab lt 4 44 (encA [(.int .u64), (.int .i64)] x) (ansK ((cTy .str)) K) = F x.1 x.2.1 K := by kernel_rfl
theorem l0_ok : LSound E tab (afun E tab 4) 22 lt 0 ((loopsIn E.P 44).getD 0 (0, .skip)).2 l0 := mkLoop_sound (by decide) (by decide) p0_ok (fun R Kx Kr x => by kernel_rfl)
theorem loops : LoopsOk E tab lt 4 44 := loops_of (nt := 22) (ids := [0]) (by kernel_rfl) (by kernel_rfl) (by
  intro k i hk l hl
  match k, hk with
  | 0, hk => cases hk; cases hl; exact l0_ok
  | _ + 1, hk => exact absurd hk (by simp))
theorem det (n_0 : Int) (size : Int) : Det (F n_0 size) := by
  unfold F
  repeat' first | with_reducible exact det_ret _ | with_reducible exact det_false | with_reducible refine det_cond _ ?_ ?_ | with_reducible refine det_oget _ (fun _ => ?_) | with_reducible refine det_loop (fun _ => ?_) (fun _ => ?_) (fun _ => ?_) _ | unfold b0
theorem edet (args : List AV) : Det (en args) := mkEntry_det (ts := [(.int .u64), (.int .i64)]) (cod := (cTy .str)) (F := fun x => F x.1 x.2.1) (fun x => det x.1 x.2.1) args
theorem ground : Ground E tab := ⟨num, mixed, (tab_nil _), clone, dtab_nil, stab⟩
theorem has : ((E.P.funcs[44]?).bind (·.body)).isSome = true := by kernel_rfl
theorem sound : EntrySound E 44 en := mkSound (ts := [(.int .u64), (.int .i64)]) (cod := (cTy .str)) (F := fun x => F x.1 x.2.1) ground loops has eq
end ref01_put
namespace ref01_Put64
noncomputable def tab : Tab := [(44, ref01_put.en)]
def F (n_0 : Int) (K : Str → Prop) : Prop :=
  (ref01_put.F n_0 8 fun r1 => (K r1))
noncomputable def en : Entry := mkEntry [(.int .u64)] (cTy .str) fun x => F x.1
noncomputable def tabV (f0 : Int → Int → (Str → Prop) → Prop) : Tab := [(44, mkEntry [(.int .u64), (.int .i64)] (cTy .str) fun x => f0 x.1 x.2.1)]
theorem tabE : tab = tabV ref01_put.F := by kernel_rfl
theorem eqv (f0 : Int → Int → (Str → Prop) → Prop) (n_0 : Int) (K : Str → Prop) : apure E (tabV f0) (fun _ => none) 4 38 [enc (.int .u64) n_0] (ansK ((cTy .str)) K) =
  (f0 n_0 8 fun r1 => (K r1)) := by kernel_rfl
theorem eq (x : Dens [(.int .u64)]) (K : Str → Prop) : apure E tab (fun _ => none) 4 38 (encA [(.int .u64)] x) (ansK ((cTy .str)) K) = F x.1 K := eqv ref01_put.F x.1 K
theorem loops : LoopsOk E tab (fun _ => none) 4 38 := loops_none _ _ _ _
theorem det (n_0 : Int) : Det (F n_0) := by
  unfold F
  repeat' first | with_reducible exact det_ret _ | with_reducible exact det_false | with_reducible refine det_cond _ ?_ ?_ | with_reducible refine det_oget _ (fun _ => ?_) | with_reducible exact ref01_put.det _ _ | with_reducible refine det_bind (ref01_put.det _ _) (fun _ => ?_)
theorem edet (args : List AV) : Det (en args) := mkEntry_det (ts := [(.int .u64)]) (cod := (cTy .str)) (F := fun x => F x.1) (fun x => det x.1) args
theorem ground : Ground E tab := ⟨num, mixed, (tab_cons ref01_put.sound (tab_nil _)), clone, (dtab_cons ref01_put.edet dtab_nil), stab⟩
theorem has : ((E.P.funcs[38]?).bind (·.body)).isSome = true := by kernel_rfl
theorem sound : EntrySound E 38 en := mkSound (ts := [(.int .u64)]) (cod := (cTy .str)) (F := fun x => F x.1) ground loops has eq
end ref01_Put64
namespace ref01_Put32
noncomputable def tab : Tab := [(44, ref01_put.en)]
def F (n_0 : Int) (K : Str → Prop) : Prop :=
  (ref01_put.F (IntKind.u64.wrap n_0) 4 fun r1 => (K r1))
noncomputable def en : Entry := mkEntry [(.int .u32)] (cTy .str) fun x => F x.1
noncomputable def tabV (f0 : Int → Int → (Str → Prop) → Prop) : Tab := [(44, mkEntry [(.int .u64), (.int .i64)] (cTy .str) fun x => f0 x.1 x.2.1)]
theorem tabE : tab = tabV ref01_put.F := by kernel_rfl
theorem eqv (f0 : Int → Int → (Str → Prop) → Prop) (n_0 : Int) (K : Str → Prop) : apure E (tabV f0) (fun _ => none) 4 27 [enc (.int .u32) n_0] (ansK ((cTy .str)) K) =
  (f0 (IntKind.u64.wrap n_0) 4 fun r1 => (K r1)) := by kernel_rfl
theorem eq (x : Dens [(.int .u32)]) (K : Str → Prop) : apure E tab (fun _ => none) 4 27 (encA [(.int .u32)] x) (ansK ((cTy .str)) K) = F x.1 K := eqv ref01_put.F x.1 K
theorem loops : LoopsOk E tab (fun _ => none) 4 27 := loops_none _ _ _ _
theorem det (n_0 : Int) : Det (F n_0) := by
  unfold F
  repeat' first | with_reducible exact det_ret _ | with_reducible exact det_false | with_reducible refine det_cond _ ?_ ?_ | with_reducible refine det_oget _ (fun _ => ?_) | with_reducible exact ref01_put.det _ _ | with_reducible refine det_bind (ref01_put.det _ _) (fun _ => ?_)
theorem edet (args : List AV) : Det (en args) := mkEntry_det (ts := [(.int .u32)]) (cod := (cTy .str)) (F := fun x => F x.1) (fun x => det x.1) args
theorem ground : Ground E tab := ⟨num, mixed, (tab_cons ref01_put.sound (tab_nil _)), clone, (dtab_cons ref01_put.edet dtab_nil), stab⟩
theorem has : ((E.P.funcs[27]?).bind (·.body)).isSome = true := by kernel_rfl
theorem sound : EntrySound E 27 en := mkSound (ts := [(.int .u32)]) (cod := (cTy .str)) (F := fun x => F x.1) ground loops has eq
end ref01_Put32
namespace ref01_get
noncomputable def tab : Tab := []
structure R where
def cR (_ : R) : St := { fr := fun _ => .top, hs := hs0 }
def kR : Keep := { ks := [], bs := [], hn := 0 }
structure L0 where
  s : Str
  size : Int
  n0 : Int
  i : Int
def c0 (x : L0) : St := { fr := lookL .top [(0, (.str x.s)), (1, (.int .i64 x.size)), (6, (.int .u64 x.n0)), (7, (.int .i64 x.i))], hs := { hp := lookL .dead [], hn := 0 } }
def kp0 : Keep := { ks := [(0, none), (1, none), (6, none), (7, none)], bs := [], hn := 0 }
def p0 (st : St) (K : L0 → Prop) : Prop := gStr (st.fr 0) fun a1 => gInt .i64 (st.fr 1) fun a2 => gInt .u64 (st.fr 6) fun a3 => gInt .i64 (st.fr 7) fun a4 => K ⟨a1, a2, a3, a4⟩
theorem p0_ok (st : St) (K : L0 → Prop) (h : p0 st K) : ∃ x, keepSt kp0 st = c0 x ∧ K x := by
  obtain ⟨a1, h0, h⟩ := gStr_elim h
  obtain ⟨a2, h1, h⟩ := gInt_elim h
  obtain ⟨a3, h2, h⟩ := gInt_elim h
  obtain ⟨a4, h3, h⟩ := gInt_elim h
  refine ⟨_, ?_, h⟩
  simp only [keepSt, kp0, List.map, h0, h1, h2, h3]
  rfl
def b0 (rec kx : L0 → Prop) (kr : R → Prop) (x : L0) : Prop :=
  (bif (decide (x.i < x.size)) then (oget (getI x.s x.i) fun v1 => (rec ⟨x.s, x.size, (IntKind.u64.wrap ((IntKind.u64.wrap (x.n0 * 256)) + (IntKind.u64.wrap (v1.toNat : Int)))), (IntKind.i64.wrap (x.i + 1))⟩)) else (kx ⟨x.s, x.size, x.n0, x.i⟩))
def l0 : LSpec := mkLoop 0 kp0 kR p0 c0 cR b0
def lt : Nat → Option LSpec
  | 0 => some l0
  | _ => none
def F (s : Str) (size : Int) (K : (Int × Bool) → Prop) : Prop :=
  (bif ((s.length : Int) != size) then (K (0, false)) else (∃ n, loopB b0 n (fun x2 => (K (x2.n0, true))) (fun _ => False) ⟨s, size, 0, 0⟩))
noncomputable def en : Entry := mkEntry [.str, (.int .i64)] (cTwo (.int .u64) .bool) fun x => F x.1 x.2.1
theorem eq (x : Dens [.str, (.int .i64)]) (K : (Int × Bool) → Prop) : apure E tab lt 4 49 (encA [.str, (.int .i64)] x) (ansK ((cTwo (.int .u64) .bool)) K) = F x.1 x.2.1 K := by kernel_rfl
theorem l0_ok : LSound E tab (afun E tab 4) 25 lt 0 ((loopsIn E.P 49).getD 0 (0, .skip)).2 l0 := mkLoop_sound (by decide) (by decide) p0_ok (fun R Kx Kr x => by kernel_rfl)
theorem loops : LoopsOk E tab lt 4 49 := loops_of (nt := 25) (ids := [0]) (by kernel_rfl) (by kernel_rfl) (by
  intro k i hk l hl
  match k, hk with
  | 0, hk => cases hk; cases hl; exact l0_ok
  | _ + 1, hk => exact absurd hk (by simp))
theorem det (s : Str) (size : Int) : Det (F s size) := by
  unfold F
  repeat' first | with_reducible exact det_ret _ | with_reducible exact det_false | with_reducible refine det_cond _ ?_ ?_ | with_reducible refine det_oget _ (fun _ => ?_) | with_reducible refine det_loop (fun _ => ?_) (fun _ => ?_) (fun _ => ?_) _ | unfold b0
theorem edet (args : List AV) : Det (en args) := mkEntry_det (ts := [.str, (.int .i64)]) (cod := (cTwo (.int .u64) .bool)) (F := fun x => F x.1 x.2.1) (fun x => det x.1 x.2.1) args
theorem ground : Ground E tab := ⟨num, mixed, (tab_nil _), clone, dtab_nil, stab⟩
theorem has : ((E.P.funcs[49]?).bind (·.body)).isSome = true := by kernel_rfl
theorem sound : EntrySound E 49 en := mkSound (ts := [.str, (.int .i64)]) (cod := (cTwo (.int .u64) .bool)) (F := fun x => F x.1 x.2.1) ground loops has eq
end ref01_get
namespace ref01_Get64
noncomputable def tab : Tab := [(49, ref01_get.en)]
def F (s : Str) (K : (Int × Bool) → Prop) : Prop :=
  (ref01_get.F s 8 fun r1 => (K (r1.1, r1.2)))
noncomputable def en : Entry := mkEntry [.str] (cTwo (.int .u64) .bool) fun x => F x.1
noncomputable def tabV (f0 : Str → Int → ((Int × Bool) → Prop) → Prop) : Tab := [(49, mkEntry [.str, (.int .i64)] (cTwo (.int .u64) .bool) fun x => f0 x.1 x.2.1)]
theorem tabE : tab = tabV ref01_get.F := by kernel_rfl
theorem eqv (f0 : Str → Int → ((Int × Bool) → Prop) → Prop) (s : Str) (K : (Int × Bool) → Prop) : apure E (tabV f0) (fun _ => none) 4 32 [enc .str s] (ansK ((cTwo (.int .u64) .bool)) K) =
  (f0 s 8 fun r1 => (K (r1.1, r1.2))) := by kernel_rfl
theorem eq (x : Dens [.str]) (K : (Int × Bool) → Prop) : apure E tab (fun _ => none) 4 32 (encA [.str] x) (ansK ((cTwo (.int .u64) .bool)) K) = F x.1 K := eqv ref01_get.F x.1 K
theorem loops : LoopsOk E tab (fun _ => none) 4 32 := loops_none _ _ _ _
theorem det (s : Str) : Det (F s) := by
  unfold F
  repeat' first | with_reducible exact det_ret _ | with_reducible exact det_false | with_reducible refine det_cond _ ?_ ?_ | with_reducible refine det_oget _ (fun _ => ?_) | with_reducible exact ref01_get.det _ _ | with_reducible refine det_bind (ref01_get.det _ _) (fun _ => ?_)
theorem edet (args : List AV) : Det (en args) := mkEntry_det (ts := [.str]) (cod := (cTwo (.int .u64) .bool)) (F := fun x => F x.1) (fun x => det x.1) args
theorem ground : Ground E tab := ⟨num, mixed, (tab_cons ref01_get.sound (tab_nil _)), clone, (dtab_cons ref01_get.edet dtab_nil), stab⟩
theorem has : ((E.P.funcs[32]?).bind (·.body)).isSome = true := by kernel_rfl
theorem sound : EntrySound E 32 en := mkSound (ts := [.str]) (cod := (cTwo (.int .u64) .bool)) (F := fun x => F x.1) ground loops has eq
end ref01_Get64
namespace ref01_Get32
noncomputable def tab : Tab := [(49, ref01_get.en)]
def F (s : Str) (K : (Int × Bool) → Prop) : Prop :=
  (ref01_get.F s 4 fun r1 => (K ((IntKind.u32.wrap r1.1), r1.2)))
noncomputable def en : Entry := mkEntry [.str] (cTwo (.int .u32) .bool) fun x => F x.1
noncomputable def tabV (f0 : Str → Int → ((Int × Bool) → Prop) → Prop) : Tab := [(49, mkEntry [.str, (.int .i64)] (cTwo (.int .u64) .bool) fun x => f0 x.1 x.2.1)]
theorem tabE : tab = tabV ref01_get.F := by kernel_rfl
theorem eqv (f0 : Str → Int → ((Int × Bool) → Prop) → Prop) (s : Str) (K : (Int × Bool) → Prop) : apure E (tabV f0) (fun _ => none) 4 51 [enc .str s] (ansK ((cTwo (.int .u32) .bool)) K) =
  (f0 s 4 fun r1 => (K ((IntKind.u32.wrap r1.1), r1.2))) := by kernel_rfl
theorem eq (x : Dens [.str]) (K : (Int × Bool) → Prop) : apure E tab (fun _ => none) 4 51 (encA [.str] x) (ansK ((cTwo (.int .u32) .bool)) K) = F x.1 K := eqv ref01_get.F x.1 K
theorem loops : LoopsOk E tab (fun _ => none) 4 51 := loops_none _ _ _ _
theorem det (s : Str) : Det (F s) := by
  unfold F
  repeat' first | with_reducible exact det_ret _ | with_reducible exact det_false | with_reducible refine det_cond _ ?_ ?_ | with_reducible refine det_oget _ (fun _ => ?_) | with_reducible exact ref01_get.det _ _ | with_reducible refine det_bind (ref01_get.det _ _) (fun _ => ?_)
theorem edet (args : List AV) : Det (en args) := mkEntry_det (ts := [.str]) (cod := (cTwo (.int .u32) .bool)) (F := fun x => F x.1) (fun x => det x.1) args
theorem ground : Ground E tab := ⟨num, mixed, (tab_cons ref01_get.sound (tab_nil _)), clone, (dtab_cons ref01_get.edet dtab_nil), stab⟩
theorem has : ((E.P.funcs[51]?).bind (·.body)).isSome = true := by kernel_rfl
theorem sound : EntrySound E 51 en := mkSound (ts := [.str]) (cod := (cTwo (.int .u32) .bool)) (F := fun x => F x.1) ground loops has eq
end ref01_Get32
namespace ref01_Flags
noncomputable def tab : Tab := []
structure R where
def cR (_ : R) : St := { fr := fun _ => .top, hs := hs0 }
def kR : Keep := { ks := [], bs := [], hn := 0 }
structure L0 where
  l : (List Bool)
  b0 : Int
  p : Int
  i : Int
def c0 (x : L0) : St := { fr := lookL .top [(0, (.sl .any .bool x.l)), (3, (.int .u8 x.b0)), (4, (.int .u8 x.p)), (5, (.int .i64 x.i))], hs := { hp := lookL .dead [], hn := 0 } }
def kp0 : Keep := { ks := [(0, none), (3, none), (4, none), (5, none)], bs := [], hn := 0 }
def p0 (st : St) (K : L0 → Prop) : Prop := gSl .any .bool (st.fr 0) fun a1 => gInt .u8 (st.fr 3) fun a2 => gInt .u8 (st.fr 4) fun a3 => gInt .i64 (st.fr 5) fun a4 => K ⟨a1, a2, a3, a4⟩
theorem p0_ok (st : St) (K : L0 → Prop) (h : p0 st K) : ∃ x, keepSt kp0 st = c0 x ∧ K x := by
  obtain ⟨a1, h0, h⟩ := gSl_elim h
  obtain ⟨a2, h1, h⟩ := gInt_elim h
  obtain ⟨a3, h2, h⟩ := gInt_elim h
  obtain ⟨a4, h3, h⟩ := gInt_elim h
  refine ⟨_, ?_, h⟩
  simp only [keepSt, kp0, List.map, h0, h1, h2, h3]
  rfl
def b0 (rec kx : L0 → Prop) (kr : R → Prop) (x : L0) : Prop :=
  (bif (decide (x.i < (x.l.length : Int))) then (bif (decide (x.i < 8)) then (oget (getI x.l x.i) fun v1 => (bif v1 then (rec ⟨x.l, (IntKind.u8.wrap (x.b0 + x.p)), (IntKind.u8.wrap (x.p * 2)), (IntKind.i64.wrap (x.i + 1))⟩) else (rec ⟨x.l, x.b0, (IntKind.u8.wrap (x.p * 2)), (IntKind.i64.wrap (x.i + 1))⟩))) else (kx ⟨x.l, x.b0, x.p, x.i⟩)) else (kx ⟨x.l, x.b0, x.p, x.i⟩))
def l0 : LSpec := mkLoop 0 kp0 kR p0 c0 cR b0
def lt : Nat → Option LSpec
  | 0 => some l0
  | _ => none
def F (l : (List Bool)) (K : Int → Prop) : Prop :=
  (∃ n, loopB b0 n (fun x2 => (K x2.b0)) (fun _ => False) ⟨l, 0, 1, 0⟩)
noncomputable def en : Entry := mkEntry [(.slice .bool)] (cTy (.int .u8)) fun x => F x.1
theorem eq (x : Dens [(.slice .bool)]) (K : Int → Prop) : apure E tab lt 4 53 (encA [(.slice .bool)] x) (ansK ((cTy (.int .u8))) K) = F x.1 K := by kernel_rfl
theorem l0_ok : LSound E tab (afun E tab 4) 26 lt 0 ((loopsIn E.P 53).getD 0 (0, .skip)).2 l0 := mkLoop_sound (by decide) (by decide) p0_ok (fun R Kx Kr x => by kernel_rfl)
theorem loops : LoopsOk E tab lt 4 53 := loops_of (nt := 26) (ids := [0]) (by kernel_rfl) (by kernel_rfl) (by
  intro k i hk l hl
  match k, hk with
  | 0, hk => cases hk; cases hl; exact l0_ok
  | _ + 1, hk => exact absurd hk (by simp))
theorem det (l : (List Bool)) : Det (F l) := by
  unfold F
  repeat' first | with_reducible exact det_ret _ | with_reducible exact det_false | with_reducible refine det_cond _ ?_ ?_ | with_reducible refine det_oget _ (fun _ => ?_) | with_reducible refine det_loop (fun _ => ?_) (fun _ => ?_) (fun _ => ?_) _ | unfold b0
theorem edet (args : List AV) : Det (en args) := mkEntry_det (ts := [(.slice .bool)]) (cod := (cTy (.int .u8))) (F := fun x => F x.1) (fun x => det x.1) args
theorem ground : Ground E tab := ⟨num, mixed, (tab_nil _), clone, dtab_nil, stab⟩
theorem has : ((E.P.funcs[53]?).bind (·.body)).isSome = true := by kernel_rfl
theorem sound : EntrySound E 53 en := mkSound (ts := [(.slice .bool)]) (cod := (cTy (.int .u8))) (F := fun x => F x.1) ground loops has eq
end ref01_Flags
namespace ref01_Unflag
noncomputable def tab : Tab := []
structure R where
def cR (_ : R) : St := { fr := fun _ => .top, hs := hs0 }
def kR : Keep := { ks := [], bs := [], hn := 0 }
structure L0 where
  b0 : Int
  n0 : Int
  out : (List Bool)
  i : Int
def c0 (x : L0) : St := { fr := lookL .top [(0, (.int .u8 x.b0)), (1, (.int .i64 x.n0)), (6, (.slr 1)), (7, (.int .i64 x.i))], hs := { hp := lookL .dead [(1, (.row false .bool x.out))], hn := 2 } }
def kp0 : Keep := { ks := [(0, none), (1, none), (6, some 1), (7, none)], bs := [], hn := 2 }
def p0 (st : St) (K : L0 → Prop) : Prop := gHomes kp0 st <| gInt .u8 (st.fr 0) fun a1 => gInt .i64 (st.fr 1) fun a2 => gSlr (st.fr 6) fun c3 => gRow false .bool (st.hs.hp c3) fun a4 => gInt .i64 (st.fr 7) fun a5 => K ⟨a1, a2, a4, a5⟩
theorem p0_ok (st : St) (K : L0 → Prop) (h : p0 st K) : ∃ x, keepSt kp0 st = c0 x ∧ K x := by
  obtain ⟨h0, h⟩ := gHomes_elim h
  obtain ⟨a1, h1, h⟩ := gInt_elim h
  obtain ⟨a2, h2, h⟩ := gInt_elim h
  obtain ⟨c3, h3, h⟩ := gSlr_elim h
  obtain ⟨a4, h4, h⟩ := gRow_elim h
  obtain ⟨a5, h5, h⟩ := gInt_elim h
  refine ⟨_, ?_, h⟩
  simp only [keepSt, h0]
  simp only [kp0, List.map, List.filterMap, homeOf, h1, h2, h3, h4, h5, hmOf, List.append_nil, cond_true]
  rfl
def b0 (rec kx : L0 → Prop) (kr : R → Prop) (x : L0) : Prop :=
  (bif (decide (x.i < x.n0)) then (bif (2 == 0) then False else (bif (decide ((x.out.length + ([((x.b0.tmod 2) == 1)] : List Bool).length) * 1 ≤ room)) then (bif (2 == 0) then False else (rec ⟨(IntKind.u8.wrap (x.b0.tdiv 2)), x.n0, (x.out ++ ([((x.b0.tmod 2) == 1)] : List Bool)), (IntKind.i64.wrap (x.i + 1))⟩)) else False)) else (kx ⟨x.b0, x.n0, x.out, x.i⟩))
def l0 : LSpec := mkLoop 0 kp0 kR p0 c0 cR b0
def lt : Nat → Option LSpec
  | 0 => some l0
  | _ => none
def F (b_0 : Int) (n_1 : Int) (K : ((List Bool) × Bool) → Prop) : Prop :=
  (bif (decide (n_1 < 0)) then (K (([] : List Bool), false)) else (bif (decide (n_1 > 8)) then (K (([] : List Bool), false)) else (∃ n, loopB b0 n (fun x1 => (bif (decide (x1.b0 > 0)) then (K (([] : List Bool), false)) else (K (x1.out, true)))) (fun _ => False) ⟨b_0, n_1, ([] : List Bool), 0⟩)))
noncomputable def en : Entry := mkEntry [(.int .u8), (.int .i64)] (cTwo (.slice .bool) .bool) fun x => F x.1 x.2.1
theorem eq (x : Dens [(.int .u8), (.int .i64)]) (K : ((List Bool) × Bool) → Prop) : apure E tab lt 4 50 (encA [(.int .u8), (.int .i64)] x) (ansK ((cTwo (.slice .bool) .bool)) K) = F x.1 x.2.1 K := by kernel_rfl
theorem l0_ok : LSound E tab (afun E tab 4) 30 lt 0 ((loopsIn E.P 50).getD 0 (0, .skip)).2 l0 := mkLoop_sound (by decide) (by decide) p0_ok (fun R Kx Kr x => by kernel_rfl)
theorem loops : LoopsOk E tab lt 4 50 := loops_of (nt := 30) (ids := [0]) (by kernel_rfl) (by kernel_rfl) (by
  intro k i hk l hl
  match k, hk with
  | 0, hk => cases hk; cases hl; exact l0_ok
  | _ + 1, hk => exact absurd hk (by simp))
theorem det (b_0 : Int) (n_1 : Int) : Det (F b_0 n_1) := by
  unfold F
  repeat' first | with_reducible exact det_ret _ | with_reducible exact det_false | with_reducible refine det_cond _ ?_ ?_ | with_reducible refine det_oget _ (fun _ => ?_) | with_reducible refine det_loop (fun _ => ?_) (fun _ => ?_) (fun _ => ?_) _ | unfold b0
theorem edet (args : List AV) : Det (en args) := mkEntry_det (ts := [(.int .u8), (.int .i64)]) (cod := (cTwo (.slice .bool) .bool)) (F := fun x => F x.1 x.2.1) (fun x => det x.1 x.2.1) args
theorem ground : Ground E tab := ⟨num, mixed, (tab_nil _), clone, dtab_nil, stab⟩
theorem has : ((E.P.funcs[50]?).bind (·.body)).isSome = true := by kernel_rfl
theorem sound : EntrySound E 50 en := mkSound (ts := [(.int .u8), (.int .i64)]) (cod := (cTwo (.slice .bool) .bool)) (F := fun x => F x.1 x.2.1) ground loops has eq
end ref01_Unflag
namespace ref02_Sum
noncomputable def tab : Tab := []
structure R where
def cR (_ : R) : St := { fr := fun _ => .top, hs := hs0 }
def kR : Keep := { ks := [], bs := [], hn := 0 }
structure L0 where
  s : Str
  n0 : Int
  i : Int
def c0 (x : L0) : St := { fr := lookL .top [(0, (.str x.s)), (3, (.int .u64 x.n0)), (4, (.int .i64 x.i))], hs := { hp := lookL .dead [], hn := 0 } }
def kp0 : Keep := { ks := [(0, none), (3, none), (4, none)], bs := [], hn := 0 }
def p0 (st : St) (K : L0 → Prop) : Prop := gStr (st.fr 0) fun a1 => gInt .u64 (st.fr 3) fun a2 => gInt .i64 (st.fr 4) fun a3 => K ⟨a1, a2, a3⟩
theorem p0_ok (st : St) (K : L0 → Prop) (h : p0 st K) : ∃ x, keepSt kp0 st = c0 x ∧ K x := by
  obtain ⟨a1, h0, h⟩ := gStr_elim h
  obtain ⟨a2, h1, h⟩ := gInt_elim h
  obtain ⟨a3, h2, h⟩ := gInt_elim h
  refine ⟨_, ?_, h⟩
  simp only [keepSt, kp0, List.map, h0, h1, h2]
  rfl
def b0 (rec kx : L0 → Prop) (kr : R → Prop) (x : L0) : Prop :=
  (bif (decide (x.i < (x.s.length : Int))) then (oget (getI x.s x.i) fun v1 => (bif (4294967296 == 0) then False else (rec ⟨x.s, ((IntKind.u64.wrap ((ixor .u64 x.n0 (IntKind.u64.wrap (v1.toNat : Int))) * 16777619)).tmod 4294967296), (IntKind.i64.wrap (x.i + 1))⟩))) else (kx ⟨x.s, x.n0, x.i⟩))
def l0 : LSpec := mkLoop 0 kp0 kR p0 c0 cR b0
def lt : Nat → Option LSpec
  | 0 => some l0
  | _ => none
def F (s : Str) (K : Int → Prop) : Prop :=
  (∃ n, loopB b0 n (fun x2 => (K (IntKind.u32.wrap x2.n0))) (fun _ => False) ⟨s, 2166136261, 0⟩)
noncomputable def en : Entry := mkEntry [.str] (cTy (.int .u32)) fun x => F x.1
theorem eq (x : Dens [.str]) (K : Int → Prop) : apure E tab lt 4 28 (encA [.str] x) (ansK ((cTy (.int .u32))) K) = F x.1 K := by kernel_rfl
theorem l0_ok : LSound E tab (afun E tab 4) 21 lt 0 ((loopsIn E.P 28).getD 0 (0, .skip)).2 l0 := mkLoop_sound (by decide) (by decide) p0_ok (fun R Kx Kr x => by kernel_rfl)
theorem loops : LoopsOk E tab lt 4 28 := loops_of (nt := 21) (ids := [0]) (by kernel_rfl) (by kernel_rfl) (by
  intro k i hk l hl
  match k, hk with
  | 0, hk => cases hk; cases hl; exact l0_ok
  | _ + 1, hk => exact absurd hk (by simp))
theorem det (s : Str) : Det (F s) := by
  unfold F
  repeat' first | with_reducible exact det_ret _ | with_reducible exact det_false | with_reducible refine det_cond _ ?_ ?_ | with_reducible refine det_oget _ (fun _ => ?_) | with_reducible refine det_loop (fun _ => ?_) (fun _ => ?_) (fun _ => ?_) _ | unfold b0
theorem edet (args : List AV) : Det (en args) := mkEntry_det (ts := [.str]) (cod := (cTy (.int .u32))) (F := fun x => F x.1) (fun x => det x.1) args
theorem ground : Ground E tab := ⟨num, mixed, (tab_nil _), clone, dtab_nil, stab⟩
theorem has : ((E.P.funcs[28]?).bind (·.body)).isSome = true := by kernel_rfl
theorem sound : EntrySound E 28 en := mkSound (ts := [.str]) (cod := (cTy (.int .u32))) (F := fun x => F x.1) ground loops has eq
end ref02_Sum
namespace ref02_Seal
noncomputable def tab : Tab := [(28, ref02_Sum.en), (27, ref01_Put32.en)]
def F (s : Str) (K : Str → Prop) : Prop :=
  (ref02_Sum.F s fun r1 => (ref01_Put32.F r1 fun r2 => (bif (fits (s.length + r2.length)) then (K (s ++ r2)) else False)))
noncomputable def en : Entry := mkEntry [.str] (cTy .str) fun x => F x.1
noncomputable def tabV (f0 : Str → (Int → Prop) → Prop) (f1 : Int → (Str → Prop) → Prop) : Tab := [(28, mkEntry [.str] (cTy (.int .u32)) fun x => f0 x.1), (27, mkEntry [(.int .u32)] (cTy .str) fun x => f1 x.1)]
theorem tabE : tab = tabV ref02_Sum.F ref01_Put32.F := by kernel_rfl
theorem eqv (f0 : Str → (Int → Prop) → Prop) (f1 : Int → (Str → Prop) → Prop) (s : Str) (K : Str → Prop) : apure E (tabV f0 f1) (fun _ => none) 4 12 [enc .str s] (ansK ((cTy .str)) K) =
  (f0 s fun r1 => (f1 r1 fun r2 => (bif (fits (s.length + r2.length)) then (K (s ++ r2)) else False))) := by kernel_rfl
theorem eq (x : Dens [.str]) (K : Str → Prop) : apure E tab (fun _ => none) 4 12 (encA [.str] x) (ansK ((cTy .str)) K) = F x.1 K := eqv ref02_Sum.F ref01_Put32.F x.1 K
theorem loops : LoopsOk E tab (fun _ => none) 4 12 := loops_none _ _ _ _
theorem det (s : Str) : Det (F s) := by
  unfold F
  repeat' first | with_reducible exact det_ret _ | with_reducible exact det_false | with_reducible refine det_cond _ ?_ ?_ | with_reducible refine det_oget _ (fun _ => ?_) | with_reducible exact ref02_Sum.det _ | with_reducible refine det_bind (ref02_Sum.det _) (fun _ => ?_) | with_reducible exact ref01_Put32.det _ | with_reducible refine det_bind (ref01_Put32.det _) (fun _ => ?_)
theorem edet (args : List AV) : Det (en args) := mkEntry_det (ts := [.str]) (cod := (cTy .str)) (F := fun x => F x.1) (fun x => det x.1) args
theorem ground : Ground E tab := ⟨num, mixed, (tab_cons ref02_Sum.sound (tab_cons ref01_Put32.sound (tab_nil _))), clone, (dtab_cons ref02_Sum.edet (dtab_cons ref01_Put32.edet dtab_nil)), stab⟩
theorem has : ((E.P.funcs[12]?).bind (·.body)).isSome = true := by kernel_rfl
theorem sound : EntrySound E 12 en := mkSound (ts := [.str]) (cod := (cTy .str)) (F := fun x => F x.1) ground loops has eq
end ref02_Seal
namespace ref02_Open
noncomputable def tab : Tab := [(12, ref02_Seal.en)]
def F (s : Str) (K : (Str × Int) → Prop) : Prop :=
  (bif (decide ((s.length : Int) < 4)) then (K (([] : Str), 2)) else (bif (decide (0 ≤ (IntKind.i64.wrap ((s.length : Int) - 4))) && decide ((IntKind.i64.wrap ((s.length : Int) - 4)) ≤ (s.length : Int))) then (ref02_Seal.F (sub s 0 (Int.toNat (IntKind.i64.wrap ((s.length : Int) - 4)))) fun r1 => (bif (!(r1 == s)) then (K (([] : Str), 3)) else (K ((sub s 0 (Int.toNat (IntKind.i64.wrap ((s.length : Int) - 4)))), 0)))) else False))
noncomputable def en : Entry := mkEntry [.str] (cTwo .str (.int .i64)) fun x => F x.1
noncomputable def tabV (f0 : Str → (Str → Prop) → Prop) : Tab := [(12, mkEntry [.str] (cTy .str) fun x => f0 x.1)]
theorem tabE : tab = tabV ref02_Seal.F := by kernel_rfl
theorem eqv (f0 : Str → (Str → Prop) → Prop) (s : Str) (K : (Str × Int) → Prop) : apure E (tabV f0) (fun _ => none) 4 31 [enc .str s] (ansK ((cTwo .str (.int .i64))) K) =
  (bif (decide ((s.length : Int) < 4)) then (K (([] : Str), 2)) else (bif (decide (0 ≤ (IntKind.i64.wrap ((s.length : Int) - 4))) && decide ((IntKind.i64.wrap ((s.length : Int) - 4)) ≤ (s.length : Int))) then (f0 (sub s 0 (Int.toNat (IntKind.i64.wrap ((s.length : Int) - 4)))) fun r1 => (bif (!(r1 == s)) then (K (([] : Str), 3)) else (K ((sub s 0 (Int.toNat (IntKind.i64.wrap ((s.length : Int) - 4)))), 0)))) else False)) := by kernel_rfl
theorem eq (x : Dens [.str]) (K : (Str × Int) → Prop) : apure E tab (fun _ => none) 4 31 (encA [.str] x) (ansK ((cTwo .str (.int .i64))) K) = F x.1 K := eqv ref02_Seal.F x.1 K
theorem loops : LoopsOk E tab (fun _ => none) 4 31 := loops_none _ _ _ _
theorem det (s : Str) : Det (F s) := by
  unfold F
  repeat' first | with_reducible exact det_ret _ | with_reducible exact det_false | with_reducible refine det_cond _ ?_ ?_ | with_reducible refine det_oget _ (fun _ => ?_) | with_reducible exact ref02_Seal.det _ | with_reducible refine det_bind (ref02_Seal.det _) (fun _ => ?_)
theorem edet (args : List AV) : Det (en args) := mkEntry_det (ts := [.str]) (cod := (cTwo .str (.int .i64))) (F := fun x => F x.1) (fun x => det x.1) args
theorem ground : Ground E tab := ⟨num, mixed, (tab_cons ref02_Seal.sound (tab_nil _)), clone, (dtab_cons ref02_Seal.edet dtab_nil), stab⟩
theorem has : ((E.P.funcs[31]?).bind (·.body)).isSome = true := by kernel_rfl
theorem sound : EntrySound E 31 en := mkSound (ts := [.str]) (cod := (cTwo .str (.int .i64))) (F := fun x => F x.1) ground loops has eq
end ref02_Open
end Gm
