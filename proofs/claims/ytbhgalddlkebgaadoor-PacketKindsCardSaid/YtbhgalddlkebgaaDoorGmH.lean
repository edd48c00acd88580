/- Operations that hang on their operands alone: fourth part, binary operations. -/
import Derived.Test.YtbhgalddlkebgaaDoorGmG
namespace Gm
open Go

section
variable {E : Env} {S : Sit} {K : AV → Prop}

theorem guard_ok {op : BinOp} {t : TypeId} {x y : Operand} {a b : AV} {v u : Value} {r : Bool} (w : World) (hg : noGuard E t a = true) (h : aeq E 12 t a b = some r)
    (hv : Rv S a v) (hu : Rv S b u) : (eqGuard op t x y v u).run E.P w = Result.ok () w := by
  have main : ∀ op : BinOp, op = .eql ∨ op = .neq → (eqGuard op t x y v u).run E.P w = Result.ok () w := by
    intro op hop
    unfold aeq at h
    split at h <;> first
      | (cases h; done)
      | (cases hv; cases hu; rcases hop with rfl | rfl <;> rfl; done)
      | (cases hu; cases hv; rcases hop with rfl | rfl <;> rfl; done)
      | skip
    · cases hu
      cases hv with
      | slN _ _ e => exact absurd rfl e
      | slE => rcases hop with rfl | rfl <;> rfl
      | sl => rcases hop with rfl | rfl <;> rfl
    · rename_i fields xs ys ht
      obtain ⟨vs, rfl, c1, c2⟩ := hv.agg_inv
      obtain ⟨us, rfl, c3, c4⟩ := hu.agg_inv
      simp [noGuard] at hg
      rcases hop with rfl | rfl <;> simp [eqGuard, hg]
    · rename_i len e xs ys ht
      obtain ⟨vs, rfl, c1, c2⟩ := hv.agg_inv
      obtain ⟨us, rfl, c3, c4⟩ := hu.agg_inv
      simp [noGuard] at hg
      rcases hop with rfl | rfl <;> simp [eqGuard, hg]
  cases op <;> first
    | exact main _ (.inl rfl)
    | exact main _ (.inr rfl)
    | rfl

theorem eql_ok {t : TypeId} {a b : AV} {v u : Value} {r : Bool} (w : World) (h : aeq E 12 t a b = some r) (hv : Rv S a v) (hu : Rv S b u) :
    (binOp .eql t v u).run E.P w = Result.ok (.bool r) w ∧ (binOp .neq t v u).run E.P w = Result.ok (.bool (!r)) w := by
  have key := aeq_ok (E := E) (S := S) 12 t a b v u r Op.maxDepth w (by unfold Op.maxDepth; omega) h hv hu
  have e1 : (Op.equal t v u).run E.P w = Result.ok r w := key
  unfold aeq at h
  split at h
  · cases hv; cases hu
    simp [binOp, e1]
  · rename_i k0 k p k' q ht
    cases hv; cases hu
    split at h
    · rename_i hk
      cases h
      subst hk
      simp [binOp, Op.intCmp, bne]
    · cases h
  · rename_i p q ht
    cases h
    obtain ⟨x, rfl, hx⟩ := hv.str_inv
    obtain ⟨y, rfl, hy⟩ := hu.str_inv
    simp only [binOp, Op.stringOp, ByteArray.toList_eq, hx, hy]
    exact ⟨rfl, rfl⟩
  · cases hv; cases hu
    simp [binOp, e1]
  · cases hv; cases hu
    simp [binOp, e1]
  · cases hv; cases hu
    simp [binOp, e1]
  · cases hu; cases hv
    simp [binOp, e1]
  · cases hu; cases hv <;> simp [binOp, e1]
  · obtain ⟨vs, rfl, c1, c2⟩ := hv.agg_inv
    obtain ⟨us, rfl, c3, c4⟩ := hu.agg_inv
    simp [binOp, e1]
  · obtain ⟨vs, rfl, c1, c2⟩ := hv.agg_inv
    obtain ⟨us, rfl, c3, c4⟩ := hu.agg_inv
    simp [binOp, e1]
  · cases h

theorem bin_ok {op : BinOp} {t : TypeId} {x y : Operand} {a b : AV} {v u : Value} (h : abin E op t a b K) (hv : Rv S a v) (hu : Rv S b u) :
    Ans E.P S (do eqGuard op t x y v u; binOp op t v u) K := by
  have noG : ∀ k p k' q w, (eqGuard op t x y (.int k p) (.int k' q)).run E.P w = Result.ok () w := by
    intro k p k' q w
    cases op <;> rfl
  have noS : ∀ p q w, (eqGuard op t x y (.string p) (.string q)).run E.P w = Result.ok () w := by
    intro p q w
    cases op <;> rfl
  unfold abin at h
  split at h
  · cases hv; cases hu
    rename_i p k' q
    cases hc : decide (0 ≤ q) with
    | false => rw [hc] at h; exact h.elim
    | true =>
      rw [hc] at h
      have : ¬ q < 0 := by simpa using hc
      exact Ans.here (by simp [noG, binOp, Op.shift, this, ishl]) (.int _ _) h
  · cases hv; cases hu
    rename_i p k' q
    cases hc : decide (0 ≤ q) with
    | false => rw [hc] at h; exact h.elim
    | true =>
      rw [hc] at h
      have : ¬ q < 0 := by simpa using hc
      exact Ans.here (by simp [noG, binOp, Op.shift, this, ishr]) (.int _ _) h
  · cases hv; cases hu
    split at h
    · rename_i hk; subst hk
      exact Ans.here (by simp [noG, binOp, Op.intArith]) (.int _ _) h
    · exact h.elim
  · cases hv; cases hu
    split at h
    · rename_i hk; subst hk
      exact Ans.here (by simp [noG, binOp, Op.intArith]) (.int _ _) h
    · exact h.elim
  · cases hv; cases hu
    split at h
    · rename_i hk; subst hk
      exact Ans.here (by simp [noG, binOp, Op.intArith]) (.int _ _) h
    · exact h.elim
  · cases hv; cases hu
    split at h
    · rename_i k p k' q hk; subst hk
      cases hc : q == 0 with
      | true => rw [hc] at h; exact h.elim
      | false =>
        rw [hc] at h
        have : ¬ q = 0 := by simpa using hc
        exact Ans.here (by simp [noG, binOp, Op.intDiv, this]) (.int _ _) h
    · exact h.elim
  · cases hv; cases hu
    split at h
    · rename_i k p k' q hk; subst hk
      cases hc : q == 0 with
      | true => rw [hc] at h; exact h.elim
      | false =>
        rw [hc] at h
        have : ¬ q = 0 := by simpa using hc
        exact Ans.here (by simp [noG, binOp, Op.intDiv, this]) (.int _ _) h
    · exact h.elim
  · cases hv; cases hu
    split at h
    · rename_i hk; subst hk
      exact Ans.here (by simp [noG, binOp, Op.intBits, iand]) (.int _ _) h
    · exact h.elim
  · cases hv; cases hu
    split at h
    · rename_i hk; subst hk
      exact Ans.here (by simp [noG, binOp, Op.intBits, ior]) (.int _ _) h
    · exact h.elim
  · cases hv; cases hu
    split at h
    · rename_i hk; subst hk
      exact Ans.here (by simp [noG, binOp, Op.intBits, ixor]) (.int _ _) h
    · exact h.elim
  · cases hv; cases hu
    split at h
    · rename_i hk; subst hk
      exact Ans.here (by simp [noG, binOp, Op.intBits, iandn]) (.int _ _) h
    · exact h.elim
  · cases hv; cases hu
    split at h
    · rename_i hk; subst hk
      exact Ans.here (by simp [noG, binOp, Op.intCmp]) (.bool _) h
    · exact h.elim
  · cases hv; cases hu
    split at h
    · rename_i hk; subst hk
      exact Ans.here (by simp [noG, binOp, Op.intCmp]) (.bool _) h
    · exact h.elim
  · cases hv; cases hu
    split at h
    · rename_i hk; subst hk
      exact Ans.here (by simp [noG, binOp, Op.intCmp]) (.bool _) h
    · exact h.elim
  · cases hv; cases hu
    split at h
    · rename_i hk; subst hk
      exact Ans.here (by simp [noG, binOp, Op.intCmp]) (.bool _) h
    · exact h.elim
  · cases hv; cases hu
    split at h
    · rename_i hk; subst hk
      exact Ans.here (by simp [noG, binOp, Op.intCmp]) (.bool _) h
    · exact h.elim
  · cases hv; cases hu
    split at h
    · rename_i hk; subst hk
      exact Ans.here (by simp [noG, binOp, Op.intCmp]) (.bool _) h
    · exact h.elim
  · rename_i s r
    obtain ⟨x, rfl, hx⟩ := hv.str_inv
    obtain ⟨y, rfl, hy⟩ := hu.str_inv
    have e1 : x.size = s.length := by rw [← hx]; simp
    have e2 : y.size = r.length := by rw [← hy]; simp
    cases hc : fits (s.length + r.length) with
    | false => rw [hc] at h; exact h.elim
    | true =>
      rw [hc] at h
      have hle : (s.length + r.length : Int) ≤ maxI := by
        have h0 := Nat.le_of_ble_eq_true hc
        unfold maxI
        omega
      have hn : ¬ (((x.size + y.size : Nat) : Int) > IntKind.i64.max) := by
        have : IntKind.i64.max = maxI := by decide
        rw [this, e1, e2]
        omega
      refine Ans.here (v := .string (x ++ y)) ?_ (.str _ _ ?_) h
      · simp only [Sem.run_bind, noS, Result.andThen_ok, binOp, Op.stringOp]
        rw [if_neg hn]
        rfl
      · rw [ByteArray.data_append]; simp [hx, hy]
  · rename_i s r
    obtain ⟨x, rfl, hx⟩ := hv.str_inv
    obtain ⟨y, rfl, hy⟩ := hu.str_inv
    refine Ans.here (v := .bool (s == r)) ?_ (.bool _) h
    simp only [Sem.run_bind, noS, Result.andThen_ok, binOp, Op.stringOp, ByteArray.toList_eq, hx, hy]
    rfl
  · rename_i s r
    obtain ⟨x, rfl, hx⟩ := hv.str_inv
    obtain ⟨y, rfl, hy⟩ := hu.str_inv
    refine Ans.here (v := .bool (!(s == r))) ?_ (.bool _) h
    simp only [Sem.run_bind, noS, Result.andThen_ok, binOp, Op.stringOp, ByteArray.toList_eq, hx, hy]
    rfl
  · split at h
    · rename_i hg
      split at h
      · rename_i r hr
        have e1 := guard_ok (op := .eql) (x := x) (y := y) S.w hg hr hv hu
        have e2 := (eql_ok S.w hr hv hu).1
        exact Ans.here (by simp only [Sem.run_bind, e1, e2, Result.andThen_ok]) (.bool _) h
      · exact h.elim
    · exact h.elim
  · split at h
    · rename_i hg
      split at h
      · rename_i r hr
        have e1 := guard_ok (op := .neq) (x := x) (y := y) S.w hg hr hv hu
        have e2 := (eql_ok S.w hr hv hu).2
        exact Ans.here (by simp only [Sem.run_bind, e1, e2, Result.andThen_ok]) (.bool _) h
      · exact h.elim
    · exact h.elim
  · exact h.elim

end
end Gm
