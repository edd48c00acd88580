/- Operations have one answer. -/
import Derived.Test.YtbhgalddlkebgaaDoorGmB
namespace Gm
open Go

def Det {α : Type} (T : (α → Prop) → Prop) : Prop := ∀ K, T K → ∃ v, K v ∧ ∀ K' : α → Prop, K' v → T K'
def DetH (T : (AV → HS → Prop) → Prop) : Prop := ∀ K, T K → ∃ v h, K v h ∧ ∀ K' : AV → HS → Prop, K' v h → T K'
def CalDet (cal : Callee) : Prop := ∀ f args hs, DetH (cal f args hs)
def TabDet (tab : Tab) : Prop := ∀ f en, tabGet tab f = some en → ∀ args, Det (en args)

theorem det_ret {α : Type} (v : α) : Det (fun K => K v) := fun _ h => ⟨v, h, fun _ h => h⟩
theorem det_false {α : Type} : Det (fun _ : α → Prop => False) := fun _ h => h.elim
theorem det_cond {α : Type} (b : Bool) {T U : (α → Prop) → Prop} (hT : Det T) (hU : Det U) : Det (fun K => bif b then T K else U K) := by
  cases b
  · exact hU
  · exact hT
theorem det_ite {α : Type} (c : Prop) [Decidable c] {T U : (α → Prop) → Prop} (hT : Det T) (hU : Det U) : Det (fun K => if c then T K else U K) := by
  by_cases h : c
  · simp only [h, if_true]; exact hT
  · simp only [h, if_false]; exact hU
theorem det_opt {α β : Type} (x : Option β) {T : β → (α → Prop) → Prop} (hT : ∀ v, Det (T v)) : Det (fun K => match x with | some v => T v K | none => False) := by
  cases x
  · exact det_false
  · exact hT _
theorem det_bind {α β : Type} {T : (α → Prop) → Prop} {U : α → (β → Prop) → Prop} (hT : Det T) (hU : ∀ v, Det (U v)) : Det (fun K => T fun v => U v K) := by
  intro K h
  obtain ⟨v, h1, h2⟩ := hT _ h
  obtain ⟨u, h3, h4⟩ := hU v K h1
  exact ⟨u, h3, fun K' hk => h2 _ (h4 K' hk)⟩

variable {E : Env} {tab : Tab}

theorem abin_det (op : BinOp) (t : TypeId) (x y : AV) : Det (abin E op t x y) := by
  intro K h
  unfold abin at h
  split at h
  · rename_i k a k' b
    cases hc : decide (0 ≤ b) with
    | false => rw [hc] at h; exact h.elim
    | true => rw [hc] at h; exact ⟨_, h, fun K' hk => by simp only [abin, hc]; exact hk⟩
  · rename_i k a k' b
    cases hc : decide (0 ≤ b) with
    | false => rw [hc] at h; exact h.elim
    | true => rw [hc] at h; exact ⟨_, h, fun K' hk => by simp only [abin, hc]; exact hk⟩
  · split at h
    · rename_i hk; exact ⟨_, h, fun K' hk' => by simp only [abin, hk, if_true]; first | exact hk' | (subst hk; exact hk')⟩
    · exact h.elim
  · split at h
    · rename_i hk; exact ⟨_, h, fun K' hk' => by simp only [abin, hk, if_true]; first | exact hk' | (subst hk; exact hk')⟩
    · exact h.elim
  · split at h
    · rename_i hk; exact ⟨_, h, fun K' hk' => by simp only [abin, hk, if_true]; first | exact hk' | (subst hk; exact hk')⟩
    · exact h.elim
  · rename_i k a k' b
    split at h
    · rename_i hk
      cases hc : b == 0 with
      | true => rw [hc] at h; exact h.elim
      | false => rw [hc] at h; exact ⟨_, h, fun K' hk' => by simp only [abin, hk, if_true, hc]; first | exact hk' | (subst hk; exact hk')⟩
    · exact h.elim
  · rename_i k a k' b
    split at h
    · rename_i hk
      cases hc : b == 0 with
      | true => rw [hc] at h; exact h.elim
      | false => rw [hc] at h; exact ⟨_, h, fun K' hk' => by simp only [abin, hk, if_true, hc]; first | exact hk' | (subst hk; exact hk')⟩
    · exact h.elim
  iterate 10
    · split at h
      · rename_i hk; exact ⟨_, h, fun K' hk' => by simp only [abin, hk, if_true]; first | exact hk' | (subst hk; exact hk')⟩
      · exact h.elim
  · rename_i a b
    cases hc : fits (a.length + b.length) with
    | false => rw [hc] at h; exact h.elim
    | true => rw [hc] at h; exact ⟨_, h, fun K' hk => by simp only [abin, hc]; exact hk⟩
  · exact ⟨_, h, fun K' hk => hk⟩
  · exact ⟨_, h, fun K' hk => hk⟩
  · rename_i n1 n2
    split at h
    · rename_i hg
      split at h
      · rename_i r hr
        refine ⟨_, h, fun K' hk => ?_⟩
        unfold abin
        split <;> first
          | (exfalso; exact n1 _ _ _ _ rfl rfl)
          | (exfalso; exact n2 _ _ rfl rfl)
          | (simp_all; done)
      · exact h.elim
    · exact h.elim
  · rename_i n1 n2
    split at h
    · rename_i hg
      split at h
      · rename_i r hr
        refine ⟨_, h, fun K' hk => ?_⟩
        unfold abin
        split <;> first
          | (exfalso; exact n1 _ _ _ _ rfl rfl)
          | (exfalso; exact n2 _ _ rfl rfl)
          | (simp_all; done)
      · exact h.elim
    · exact h.elim
  · exact h.elim

theorem sliceB_det {α : Type} (n : Nat) (l h m : Option AV) {T : Nat → Nat → Bool → (α → Prop) → Prop} (hT : ∀ a b c, Det (T a b c)) : Det (fun K => sliceB n l h m fun a b c => T a b c K) := by
  unfold sliceB
  intro K hh
  split at hh
  · exact hT _ _ _ K hh
  · rename_i k a
    exact det_cond (decide (0 ≤ a) && decide (a ≤ (n : Int))) (hT _ _ _) det_false K hh
  · rename_i k b
    exact det_cond (decide (0 ≤ b) && decide (b ≤ (n : Int))) (hT _ _ _) det_false K hh
  · rename_i k a k' b
    exact det_cond (decide (0 ≤ a) && decide (a ≤ b) && decide (b ≤ (n : Int))) (hT _ _ _) det_false K hh
  · rename_i k b k' c
    exact det_cond (decide (0 ≤ b) && decide (b ≤ (n : Int)) && b == c) (hT _ _ _) det_false K hh
  · exact hh.elim

theorem aslice_det (t : TypeId) (x : AV) (l h m : Option AV) : Det (aslice E t x l h m) := by
  intro K hh
  unfold aslice at hh
  split at hh
  · rename_i s hu
    split at hh
    · obtain ⟨v, h1, h2⟩ := sliceB_det s.length l h none (T := fun a b _ K => K (.str (sub s a b))) (fun a b c => det_ret _) K hh
      exact ⟨v, h1, fun K' hk => by simp only [aslice, hu]; exact h2 K' hk⟩
    · exact hh.elim
  · rename_i e f t' xs hu
    split at hh
    · rename_i hs
      obtain ⟨v, h1, h2⟩ := sliceB_det xs.length l h m (T := fun a b c K => K (.sl (bif c then .full else .any) t' (sub xs a b))) (fun a b c => det_ret _) K hh
      exact ⟨v, h1, fun K' hk => by simp only [aslice, hu, hs, if_true]; exact h2 K' hk⟩
    · exact hh.elim
  · rename_i e hu
    split at hh
    · rename_i z hs
      obtain ⟨v, h1, h2⟩ := sliceB_det 0 l h m (T := fun _ _ _ K => K AV.snil) (fun a b c => det_ret _) K hh
      exact ⟨v, h1, fun K' hk => by simp only [aslice, hu, hs]; exact h2 K' hk⟩
    · exact hh.elim
  · exact hh.elim

theorem caseN_det {α : Type} (i : Int) {T : Nat → (α → Prop) → Prop} (hT : ∀ j, Det (T j)) : ∀ (n j : Nat), Det (fun K => caseN i (fun j => T j K) j n)
  | 0, _ => det_false
  | n + 1, j => by
    intro K h
    exact det_cond (i == (j : Int)) (hT j) (caseN_det i hT n (j + 1)) K h

end Gm
