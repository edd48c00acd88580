/- The program as the machine sees it. -/
import Derived.Test.YtbhgalddlkebgaaDoorGmCl
import Derived.Test.YtbhgalddlkebgaaDoorProg
import Derived.KernelRfl
set_option maxRecDepth 100000
namespace Gm
open Go Go.Proofs
def tyT (t : Nat) : Option Ty := lookL none [(46, some (.slice (.int .u8))), (67, some (.slice (.int .u64))), (70, some (.slice (.int .i64))), (80, some (.slice .bool))] t
noncomputable def E0 : Env := { P := Tryd.prog, ty := tyT, clone := fun _ => none }
theorem clone0 : CloneSound E0 := fun _ _ _ h => by cases h
theorem mixed0 : E0.P.follows .mixedOrders = true := by kernel_rfl
theorem num0 : NoNum E0.P := nonum_of (by kernel_rfl)
def cloneT (f : Nat) : Option (Ty × Nat) := lookL none [] f
/-- Copies that nobody writes. -/
def cpT (d : Option Nat) (t : Nat) : Bool := match d with
  | some d => false
  | none => false
/-- What the variable errors.errorType holds. -/
def hasVar (w : World) : Prop := w.cell? ⟨0, 0, none⟩ = some (.iface 105 (.agg #[.pointer (some ⟨1, 56, none⟩)]))
noncomputable def E : Env := { P := Tryd.prog, ty := tyT, clone := cloneT, cp := cpT, V := hasVar }
theorem stab : Stable E.V := by
  intro w w' h hb
  have h : w.cell? ⟨0, 0, none⟩ = _ := h
  have hlt : 0 < w.heap.size := by
    rcases Nat.lt_or_ge 0 w.heap.size with h0 | h0
    · exact h0
    · simp [World.cell?, Array.getElem?_eq_none h0] at h
  show w'.cell? ⟨0, 0, none⟩ = _
  rw [← h]
  simp only [World.cell?, hb 0 hlt]
theorem clone : CloneSound E := by
  intro f t w h
  change cloneT f = some (t, w) at h
  unfold cloneT lookL at h
  cases h
theorem mixed : E.P.follows .mixedOrders = true := mixed0
theorem num : NoNum E.P := num0
end Gm
