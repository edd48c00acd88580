/- The program as the machine sees it. -/
import Derived.Test.YtfjhdboapcckpaaGreatDoorProg
import Derived.KernelRfl
import Derived.Test.YtfjhdboapcckpaaGreatDoorGmCl
set_option maxRecDepth 100000
namespace Gm
open Go Go.Proofs
def tyT (t : Nat) : Option Ty := lookL none [(22, some (.slice (.st 12))), (27, some (.slice .str)), (28, some (.slice (.st 0))), (44, some (.slice (.int .u64))), (45, some (.slice (.st 10))), (49, some (.slice (.st 11))), (66, some (.slice (.int .i64))), (92, some (.slice .bool)), (165, some (.slice (.int .u32))), (172, some (.slice (.int .u8)))] t
noncomputable def E0 : Env := { P := Tryz.prog, ty := tyT, clone := fun _ => none }
theorem clone0 : CloneSound E0 := fun _ _ _ h => by cases h
theorem mixed0 : E0.P.follows .mixedOrders = true := by kernel_rfl
theorem num0 : NoNum E0.P := nonum_of (by kernel_rfl)
theorem c135_1 (xs : List (.str : Ty).den) (K : AV → HS → Prop) : afun E0 [] 1 true 135 [.sl .nn .str xs] hs0 K = (bif decide (xs.length * 16 ≤ room) then K (.slr 1) (hsC .str xs) else False) := by kernel_rfl
theorem c135_2 (K : AV → HS → Prop) : afun E0 [] 1 true 135 [.snil] hs0 K = (bif decide (([] : List (.str : Ty).den).length * 16 ≤ room) then K (.slr 1) (hsC .str []) else False) := by kernel_rfl
theorem c152_1 (xs : List ((.st 0) : Ty).den) (K : AV → HS → Prop) : afun E0 [] 1 true 152 [.sl .nn (.st 0) xs] hs0 K = (bif decide (xs.length * 24 ≤ room) then K (.slr 1) (hsC (.st 0) xs) else False) := by kernel_rfl
theorem c152_2 (K : AV → HS → Prop) : afun E0 [] 1 true 152 [.snil] hs0 K = (bif decide (([] : List ((.st 0) : Ty).den).length * 24 ≤ room) then K (.slr 1) (hsC (.st 0) []) else False) := by kernel_rfl
def cloneT (f : Nat) : Option (Ty × Nat) := lookL none [(135, some (.str, 16)), (152, some ((.st 0), 24))] f
def cpT (d : Option Nat) (t : Nat) : Bool := match d with
  | some d => (Nat.beq d 25 && Nat.beq t 27)
  | none => false
def hasVar (w : World) : Prop := w.cell? ⟨0, 0, none⟩ = some (.iface 265 (.agg #[.pointer (some ⟨1, 194, none⟩)]))
noncomputable def E : Env := { P := Tryz.prog, ty := tyT, clone := cloneT, cp := cpT, V := fun w => hasVar w, ro := fun f => Nat.beq f 59, nd := fun f => Nat.beq f 3 || Nat.beq f 4 || Nat.beq f 5 || Nat.beq f 6 || Nat.beq f 7 || Nat.beq f 8 || Nat.beq f 9 || Nat.beq f 24 || Nat.beq f 25 || Nat.beq f 29 || Nat.beq f 76 || Nat.beq f 112 || Nat.beq f 156, dm := fun i n => (Nat.beq i 7 && Nat.beq n 5) }
theorem cell_stays {w w' : World} {g j : Nat} {v : Value} (hb : ∀ B, B < w.heap.size → w'.heap[B]? = w.heap[B]?) (h : w.cell? ⟨g, j, none⟩ = some v) : w'.cell? ⟨g, j, none⟩ = some v := by
  have hlt : g < w.heap.size := by
    rcases Nat.lt_or_ge g w.heap.size with h0 | h0
    · exact h0
    · simp [World.cell?, Array.getElem?_eq_none h0] at h
  rw [← h]
  simp only [World.cell?, hb g hlt]
theorem stab : Stable E.V := fun _ w' h hb => show hasVar w' from cell_stays hb h
theorem clone : CloneSound E := by
  intro f t w h
  change cloneT f = some (t, w) at h
  unfold cloneT lookL at h
  cases hb135 : Nat.beq f 135 with
  | true =>
    rw [hb135] at h
    cases Nat.eq_of_beq_eq_true hb135
    simp only [cond_true, Option.some.injEq, Prod.mk.injEq] at h
    obtain ⟨rfl, rfl⟩ := h
    exact clone_of (E0 := E0) flat_str clone0 num0 mixed0 c135_1 c135_2
  | false =>
    rw [hb135] at h
    simp only [cond_false, lookL] at h
    cases hb152 : Nat.beq f 152 with
    | true =>
      rw [hb152] at h
      cases Nat.eq_of_beq_eq_true hb152
      simp only [cond_true, Option.some.injEq, Prod.mk.injEq] at h
      obtain ⟨rfl, rfl⟩ := h
      exact clone_of (E0 := E0) flat_write clone0 num0 mixed0 c152_1 c152_2
    | false =>
      rw [hb152] at h
      simp only [cond_false] at h
      cases h
theorem mixed : E.P.follows .mixedOrders = true := mixed0
theorem num : NoNum E.P := num0
end Gm
