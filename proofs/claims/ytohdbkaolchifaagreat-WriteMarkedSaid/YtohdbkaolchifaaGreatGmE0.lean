/- The program as the machine sees it. -/
import Derived.Test.YtohdbkaolchifaaGreatProg
import Derived.KernelRfl
import Derived.Test.YtohdbkaolchifaaGreatGmCl
set_option maxRecDepth 100000
namespace Gm
open Go Go.Proofs
def tyT (t : Nat) : Option Ty := lookL none [(22, some (.slice (.st 12))), (28, some (.slice .str)), (29, some (.slice (.st 0))), (45, some (.slice (.int .u64))), (46, some (.slice (.st 10))), (54, some (.slice (.st 11))), (61, some (.slice .bool)), (142, some (.slice (.int .u8))), (169, some (.slice (.int .i64))), (223, some (.slice (.int .u32)))] t
noncomputable def E0 : Env := { P := Tryz.prog, ty := tyT, clone := fun _ => none }
theorem clone0 : CloneSound E0 := fun _ _ _ h => by cases h
theorem mixed0 : E0.P.follows .mixedOrders = true := by kernel_rfl
theorem num0 : NoNum E0.P := nonum_of (by kernel_rfl)
theorem c50_1 (xs : List ((.int .u64) : Ty).den) (K : AV → HS → Prop) : afun E0 [] 1 50 [.sl .nn (.int .u64) xs] hs0 K = (bif decide (xs.length * 8 ≤ room) then K (.slr 1) (hsC (.int .u64) xs) else False) := by kernel_rfl
theorem c50_2 (K : AV → HS → Prop) : afun E0 [] 1 50 [.snil] hs0 K = (bif decide (([] : List ((.int .u64) : Ty).den).length * 8 ≤ room) then K (.slr 1) (hsC (.int .u64) []) else False) := by kernel_rfl
theorem c53_1 (xs : List ((.st 10) : Ty).den) (K : AV → HS → Prop) : afun E0 [] 1 53 [.sl .nn (.st 10) xs] hs0 K = (bif decide (xs.length * 24 ≤ room) then K (.slr 1) (hsC (.st 10) xs) else False) := by kernel_rfl
theorem c53_2 (K : AV → HS → Prop) : afun E0 [] 1 53 [.snil] hs0 K = (bif decide (([] : List ((.st 10) : Ty).den).length * 24 ≤ room) then K (.slr 1) (hsC (.st 10) []) else False) := by kernel_rfl
theorem c140_1 (xs : List ((.st 0) : Ty).den) (K : AV → HS → Prop) : afun E0 [] 1 140 [.sl .nn (.st 0) xs] hs0 K = (bif decide (xs.length * 24 ≤ room) then K (.slr 1) (hsC (.st 0) xs) else False) := by kernel_rfl
theorem c140_2 (K : AV → HS → Prop) : afun E0 [] 1 140 [.snil] hs0 K = (bif decide (([] : List ((.st 0) : Ty).den).length * 24 ≤ room) then K (.slr 1) (hsC (.st 0) []) else False) := by kernel_rfl
theorem c163_1 (xs : List (.str : Ty).den) (K : AV → HS → Prop) : afun E0 [] 1 163 [.sl .nn .str xs] hs0 K = (bif decide (xs.length * 16 ≤ room) then K (.slr 1) (hsC .str xs) else False) := by kernel_rfl
theorem c163_2 (K : AV → HS → Prop) : afun E0 [] 1 163 [.snil] hs0 K = (bif decide (([] : List (.str : Ty).den).length * 16 ≤ room) then K (.slr 1) (hsC .str []) else False) := by kernel_rfl
def cloneT (f : Nat) : Option (Ty × Nat) := lookL none [(50, some ((.int .u64), 8)), (53, some ((.st 10), 24)), (140, some ((.st 0), 24)), (163, some (.str, 16))] f
def cpT (d : Option Nat) (t : Nat) : Bool := match d with
  | some d => (Nat.beq d 25 && Nat.beq t 28)
  | none => false
noncomputable def E : Env := { P := Tryz.prog, ty := tyT, clone := cloneT, cp := cpT }
theorem stab : Stable E.V := fun _ _ _ _ => trivial
theorem clone : CloneSound E := by
  intro f t w h
  change cloneT f = some (t, w) at h
  unfold cloneT lookL at h
  cases hb50 : Nat.beq f 50 with
  | true =>
    rw [hb50] at h
    cases Nat.eq_of_beq_eq_true hb50
    simp only [cond_true, Option.some.injEq, Prod.mk.injEq] at h
    obtain ⟨rfl, rfl⟩ := h
    exact clone_of (E0 := E0) (flat_int .u64) clone0 num0 mixed0 c50_1 c50_2
  | false =>
    rw [hb50] at h
    simp only [cond_false, lookL] at h
    cases hb53 : Nat.beq f 53 with
    | true =>
      rw [hb53] at h
      cases Nat.eq_of_beq_eq_true hb53
      simp only [cond_true, Option.some.injEq, Prod.mk.injEq] at h
      obtain ⟨rfl, rfl⟩ := h
      exact clone_of (E0 := E0) (flat_st rfl) clone0 num0 mixed0 c53_1 c53_2
    | false =>
      rw [hb53] at h
      simp only [cond_false, lookL] at h
      cases hb140 : Nat.beq f 140 with
      | true =>
        rw [hb140] at h
        cases Nat.eq_of_beq_eq_true hb140
        simp only [cond_true, Option.some.injEq, Prod.mk.injEq] at h
        obtain ⟨rfl, rfl⟩ := h
        exact clone_of (E0 := E0) flat_write clone0 num0 mixed0 c140_1 c140_2
      | false =>
        rw [hb140] at h
        simp only [cond_false, lookL] at h
        cases hb163 : Nat.beq f 163 with
        | true =>
          rw [hb163] at h
          cases Nat.eq_of_beq_eq_true hb163
          simp only [cond_true, Option.some.injEq, Prod.mk.injEq] at h
          obtain ⟨rfl, rfl⟩ := h
          exact clone_of (E0 := E0) flat_str clone0 num0 mixed0 c163_1 c163_2
        | false =>
          rw [hb163] at h
          simp only [cond_false] at h
          cases h
theorem mixed : E.P.follows .mixedOrders = true := mixed0
theorem num : NoNum E.P := num0
end Gm
