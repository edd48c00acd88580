/- The program as the machine sees it. -/
import Derived.Test.YtohdbkaolchifaaGreatDoorProg
import Derived.KernelRfl
import Derived.Shelf.Spec.TrailingZeros
import Derived.Test.YtohdbkaolchifaaGreatDoorGmCl
set_option maxRecDepth 100000
namespace Gm
open Go Go.Proofs
def tyT (t : Nat) : Option Ty := lookL none [(22, some (.slice (.st 12))), (27, some (.slice .str)), (28, some (.slice (.st 0))), (44, some (.slice (.int .u64))), (45, some (.slice (.st 10))), (49, some (.slice (.st 11))), (59, some (.slice (.int .i64))), (66, some (.slice .bool)), (215, some (.slice (.st 13))), (218, some (.slice (.slice .str))), (225, some (.slice (.int .u8))), (244, some (.slice (.int .u32)))] t
noncomputable def E0 : Env := { P := Tryz.prog, ty := tyT, clone := fun _ => none }
theorem clone0 : CloneSound E0 := fun _ _ _ h => by cases h
theorem mixed0 : E0.P.follows .mixedOrders = true := by kernel_rfl
theorem num0 : NoNum E0.P := nonum_of (by kernel_rfl)
theorem c267_1 (xs : List ((.st 0) : Ty).den) (K : AV → HS → Prop) : afun E0 [] 1 267 [.sl .nn (.st 0) xs] hs0 K = (bif decide (xs.length * 24 ≤ room) then K (.slr 1) (hsC (.st 0) xs) else False) := by kernel_rfl
theorem c267_2 (K : AV → HS → Prop) : afun E0 [] 1 267 [.snil] hs0 K = (bif decide (([] : List ((.st 0) : Ty).den).length * 24 ≤ room) then K (.slr 1) (hsC (.st 0) []) else False) := by kernel_rfl
theorem c315_1 (xs : List ((.int .u64) : Ty).den) (K : AV → HS → Prop) : afun E0 [] 1 315 [.sl .nn (.int .u64) xs] hs0 K = (bif decide (xs.length * 8 ≤ room) then K (.slr 1) (hsC (.int .u64) xs) else False) := by kernel_rfl
theorem c315_2 (K : AV → HS → Prop) : afun E0 [] 1 315 [.snil] hs0 K = (bif decide (([] : List ((.int .u64) : Ty).den).length * 8 ≤ room) then K (.slr 1) (hsC (.int .u64) []) else False) := by kernel_rfl
theorem c317_1 (xs : List (.str : Ty).den) (K : AV → HS → Prop) : afun E0 [] 1 317 [.sl .nn .str xs] hs0 K = (bif decide (xs.length * 16 ≤ room) then K (.slr 1) (hsC .str xs) else False) := by kernel_rfl
theorem c317_2 (K : AV → HS → Prop) : afun E0 [] 1 317 [.snil] hs0 K = (bif decide (([] : List (.str : Ty).den).length * 16 ≤ room) then K (.slr 1) (hsC .str []) else False) := by kernel_rfl
theorem c370_1 (xs : List ((.st 10) : Ty).den) (K : AV → HS → Prop) : afun E0 [] 1 370 [.sl .nn (.st 10) xs] hs0 K = (bif decide (xs.length * 24 ≤ room) then K (.slr 1) (hsC (.st 10) xs) else False) := by kernel_rfl
theorem c370_2 (K : AV → HS → Prop) : afun E0 [] 1 370 [.snil] hs0 K = (bif decide (([] : List ((.st 10) : Ty).den).length * 24 ≤ room) then K (.slr 1) (hsC (.st 10) []) else False) := by kernel_rfl
def cloneT (f : Nat) : Option (Ty × Nat) := lookL none [(267, some ((.st 0), 24)), (315, some ((.int .u64), 8)), (317, some (.str, 16)), (370, some ((.st 10), 24))] f
def cpT (d : Option Nat) (t : Nat) : Bool := match d with
  | some d => (Nat.beq d 25 && Nat.beq t 27)
  | none => false
def hasTab (w : World) : Prop := Go.Proofs.TabAt 0 Lib.deBruijn32tab w
noncomputable def E : Env := { P := Tryz.prog, ty := tyT, clone := cloneT, cp := cpT, V := fun w => hasTab w }
theorem cell_stays {w w' : World} {g j : Nat} {v : Value} (hb : ∀ B, B < w.heap.size → w'.heap[B]? = w.heap[B]?) (h : w.cell? ⟨g, j, none⟩ = some v) : w'.cell? ⟨g, j, none⟩ = some v := by
  have hlt : g < w.heap.size := by
    rcases Nat.lt_or_ge g w.heap.size with h0 | h0
    · exact h0
    · simp [World.cell?, Array.getElem?_eq_none h0] at h
  rw [← h]
  simp only [World.cell?, hb g hlt]
theorem stab : Stable E.V := fun _ _ h hb => fun j hj => cell_stays hb (h j hj)
theorem clone : CloneSound E := by
  intro f t w h
  change cloneT f = some (t, w) at h
  unfold cloneT lookL at h
  cases hb267 : Nat.beq f 267 with
  | true =>
    rw [hb267] at h
    cases Nat.eq_of_beq_eq_true hb267
    simp only [cond_true, Option.some.injEq, Prod.mk.injEq] at h
    obtain ⟨rfl, rfl⟩ := h
    exact clone_of (E0 := E0) flat_write clone0 num0 mixed0 c267_1 c267_2
  | false =>
    rw [hb267] at h
    simp only [cond_false, lookL] at h
    cases hb315 : Nat.beq f 315 with
    | true =>
      rw [hb315] at h
      cases Nat.eq_of_beq_eq_true hb315
      simp only [cond_true, Option.some.injEq, Prod.mk.injEq] at h
      obtain ⟨rfl, rfl⟩ := h
      exact clone_of (E0 := E0) (flat_int .u64) clone0 num0 mixed0 c315_1 c315_2
    | false =>
      rw [hb315] at h
      simp only [cond_false] at h
      cases hb317 : Nat.beq f 317 with
      | true =>
        rw [hb317] at h
        cases Nat.eq_of_beq_eq_true hb317
        simp only [cond_true, Option.some.injEq, Prod.mk.injEq] at h
        obtain ⟨rfl, rfl⟩ := h
        exact clone_of (E0 := E0) flat_str clone0 num0 mixed0 c317_1 c317_2
      | false =>
        rw [hb317] at h
        simp only [cond_false] at h
        cases hb370 : Nat.beq f 370 with
        | true =>
          rw [hb370] at h
          cases Nat.eq_of_beq_eq_true hb370
          simp only [cond_true, Option.some.injEq, Prod.mk.injEq] at h
          obtain ⟨rfl, rfl⟩ := h
          exact clone_of (E0 := E0) (flat_st rfl) clone0 num0 mixed0 c370_1 c370_2
        | false =>
          rw [hb370] at h
          simp only [cond_false] at h
          cases h
theorem mixed : E.P.follows .mixedOrders = true := mixed0
theorem num : NoNum E.P := num0
end Gm
