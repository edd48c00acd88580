/- The program as the machine sees it. -/
import Derived.Test.YtbhgalddlkebgaaGmCl
import Derived.Test.YtbhgalddlkebgaaProg
import Derived.KernelRfl
set_option maxRecDepth 100000
namespace Gm
open Go Go.Proofs
def tyT (t : Nat) : Option Ty := lookL none [(31, some (.slice (.int .u8))), (42, some (.slice .bool)), (64, some (.slice .str)), (65, some (.slice (.st 0))), (103, some (.slice (.int .u64)))] t
noncomputable def E0 : Env := { P := Try.prog, ty := tyT, clone := fun _ => none }
theorem clone0 : CloneSound E0 := fun _ _ _ h => by cases h
theorem mixed0 : E0.P.follows .mixedOrders = true := by kernel_rfl
theorem num0 : NoNum E0.P := nonum_of (by kernel_rfl)
theorem c106_1 (xs : List ((.st 0) : Ty).den) (K : AV → HS → Prop) : afun E0 [] 1 106 [.sl .nn (.st 0) xs] hs0 K = (bif decide (xs.length * 24 ≤ room) then K (.slr 1) (hsC (.st 0) xs) else False) := by kernel_rfl
theorem c106_2 (K : AV → HS → Prop) : afun E0 [] 1 106 [.snil] hs0 K = (bif decide (([] : List ((.st 0) : Ty).den).length * 24 ≤ room) then K (.slr 1) (hsC (.st 0) []) else False) := by kernel_rfl
theorem c125_1 (xs : List (.str : Ty).den) (K : AV → HS → Prop) : afun E0 [] 1 125 [.sl .nn .str xs] hs0 K = (bif decide (xs.length * 16 ≤ room) then K (.slr 1) (hsC .str xs) else False) := by kernel_rfl
theorem c125_2 (K : AV → HS → Prop) : afun E0 [] 1 125 [.snil] hs0 K = (bif decide (([] : List (.str : Ty).den).length * 16 ≤ room) then K (.slr 1) (hsC .str []) else False) := by kernel_rfl
def cloneT (f : Nat) : Option (Ty × Nat) := lookL none [(106, some ((.st 0), 24)), (125, some (.str, 16))] f
/-- Copies that nobody writes. -/
def cpT (d : Option Nat) (t : Nat) : Bool := match d with
  | some d => (Nat.beq d 37 && Nat.beq t 64) || (Nat.beq d 41 && Nat.beq t 65) || (Nat.beq d 25 && Nat.beq t 64)
  | none => false
noncomputable def E : Env := { P := Try.prog, ty := tyT, clone := cloneT, cp := cpT }
theorem clone : CloneSound E := by
  intro f t w h
  change cloneT f = some (t, w) at h
  unfold cloneT lookL at h
  cases hb106 : Nat.beq f 106 with
  | true =>
    rw [hb106] at h
    cases Nat.eq_of_beq_eq_true hb106
    simp only [cond_true, Option.some.injEq, Prod.mk.injEq] at h
    obtain ⟨rfl, rfl⟩ := h
    exact clone_of (E0 := E0) flat_write clone0 num0 mixed0 c106_1 c106_2
  | false =>
    rw [hb106] at h
    simp only [cond_false, lookL] at h
    cases hb125 : Nat.beq f 125 with
    | true =>
      rw [hb125] at h
      cases Nat.eq_of_beq_eq_true hb125
      simp only [cond_true, Option.some.injEq, Prod.mk.injEq] at h
      obtain ⟨rfl, rfl⟩ := h
      exact clone_of (E0 := E0) flat_str clone0 num0 mixed0 c125_1 c125_2
    | false =>
      rw [hb125] at h
      simp only [cond_false] at h
      cases h
theorem mixed : E.P.follows .mixedOrders = true := mixed0
theorem num : NoNum E.P := num0
end Gm
