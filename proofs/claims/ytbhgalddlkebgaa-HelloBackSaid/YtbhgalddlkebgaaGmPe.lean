/- The laws of layer 10 are true. -/
import Derived.Test.YtbhgalddlkebgaaGmPd
set_option maxRecDepth 100000
namespace Gm
open Go

def hEq (a b : Hello) : Bool := (a.blocks == b.blocks) && (((a.vector.current == b.vector.current) && ((a.vector.bitmap == b.vector.bitmap) && (((a.vector.old0 == b.vector.old0) && ((a.vector.old1 == b.vector.old1) && true)) && true))) && ((a.inc == b.inc) && ((a.was == b.was) && ((a.dis == b.dis) && ((a.pri == b.pri) && ((a.mask == b.mask) && true))))))
theorem hEq_refl (a : Hello) : hEq a a = true := by simp [hEq]

def hA : Hello := ⟨3, ⟨7, 0, 0, 0⟩, false, true, false, false, 5⟩
def hB : Hello := ⟨3, ⟨7, 0, 0, 0⟩, false, false, false, false, 8⟩
theorem wA : wHello hA := by
  refine ⟨?_, ⟨?_, ?_, ?_, ?_⟩, ?_⟩ <;> exact ⟨by decide, by decide⟩
theorem wB : wHello hB := by
  refine ⟨?_, ⟨?_, ?_, ?_, ?_⟩, ?_⟩ <;> exact ⟨by decide, by decide⟩
theorem wZ : wHello zeroH := by
  refine ⟨?_, ⟨?_, ?_, ?_, ?_⟩, ?_⟩ <;> exact ⟨by decide, by decide⟩
theorem rA : hRight hA = true := by decide
theorem rB : hRight hB = false := by decide
theorem rZ : hRight zeroH = false := by decide

theorem law10_alive_ok {K : Bool → Prop} (k : K true) : law10_alive.F K := by
  unfold law10_alive.F
  refine hello_Of_ok ?_
  show hello_Encode.F hA _
  refine hello_Encode_ok wA (hello_Decode_ok (hello_Encode_ok (h := zeroH) wZ (hello_Decode_ok ?_)))
  have e1 : encV hA = (hBytes hA, 0) := by unfold encV; rw [rA]; rfl
  have e2 : encV zeroH = ([], 1) := by unfold encV; rw [rZ]; rfl
  have e3 : decV [97, 98, 99] = (zeroH, 2) := by unfold decV; rw [if_neg (by simp)]
  rw [e1, e2, e3, decV_encV wA rA]
  refine cond_t (by decide) (cond_t rfl (cond_t rfl (cond_t rfl (cond_t rfl (cond_t ?_ (cond_t (hEq_refl hA) (gd_ok ?_ (cond_t ?_ (gd_ok ?_ (cond_t ?_ (hello_Right_ok wA (cond_t rA (hello_Right_ok (h := hB) wB ?_)))))))))))))
  · simp [hBytes_length]
  · simp [hBytes_length]
  · decide
  · simp [hBytes_length]
  · decide
  · rw [rB]; exact k

theorem law10_HelloMakes_true {s : Super} {p : Bool} {m : Int} (hb : inK .i64 s.blocks) (hv : wVec s.vector) (hm : inK .u32 m) : law10_HelloMakes.F s p m (fun r => r = true) := by
  unfold law10_HelloMakes.F
  have hw : wHello (hOf s p m) := ⟨hb, hv, hm⟩
  refine law10_alive_ok (cond_f rfl (hello_Of_ok (ref10_Of_ok (cond_t (hEq_refl _) (hello_Right_ok hw (ref10_Right_ok hw (by simp)))))))

theorem law10_HelloBytes_true {h : Hello} {b : Str} (hw : wHello h) : law10_HelloBytes.F h b (fun r => r = true) := by
  unfold law10_HelloBytes.F
  refine law10_alive_ok (cond_f rfl (cond_ok (fun _ => rfl) fun _ => ?_))
  exact hello_Encode_ok hw (ref10_Encode_ok hw (hello_Decode_ok (ref10_Decode_ok (cond_t (by simp) (cond_t (by simp) (cond_t (hEq_refl _) (cond_t (by simp) (hello_Right_ok hw (ref10_Right_ok hw (by simp))))))))))

theorem law10_HelloBack_true {h : Hello} {b : Str} (hw : wHello h) : law10_HelloBack.F h b (fun r => r = true) := by
  unfold law10_HelloBack.F
  refine law10_alive_ok (cond_f rfl (cond_ok (fun _ => rfl) fun _ => ?_))
  have back : hello_Decode.F b fun r4 => (bif (r4.2 != 0) then (hEq r4.1 zeroH = true) else (hello_Encode.F r4.1 fun r5 => (bif (r5.2 == 0) then ((r5.1 == b) = true) else (false = true)))) := by
    refine hello_Decode_ok ?_
    unfold decV
    by_cases h1 : b.length = 38 ∧ (b.getD 1 0).toNat < 16 ∧ hRight (hOfBytes b) = true
    · rw [if_pos h1]
      obtain ⟨h2, h3, h4⟩ := h1
      refine cond_f rfl (hello_Encode_ok (wH_of h2) ?_)
      unfold encV
      rw [h4, if_pos rfl]
      refine cond_t rfl ?_
      dsimp only
      rw [hBytes_of h2 h3]
      simp
    · rw [if_neg h1]
      exact cond_t rfl (hEq_refl _)
  refine hello_Encode_ok hw ?_
  unfold encV
  by_cases hr : hRight h = true
  · rw [hr, if_pos rfl]
    refine cond_t rfl (hello_Decode_ok ?_)
    dsimp only
    rw [decV_encV hw hr]
    refine cond_f rfl (cond_f ?_ back)
    show (!(hEq h h)) = false
    rw [hEq_refl]; rfl
  · have hr : hRight h = false := by simpa using hr
    rw [hr]
    exact cond_f rfl back
end Gm
