/- Operations that hang on their operands alone: sixth part, slices. -/
import Derived.Test.YtbhgalddlkebgaaDoorGmI
namespace Gm
open Go

theorem add_at (B o n : Nat) : (at_ B o).add n = at_ B (o + n) := by
  unfold Addr.add at_
  split
  · subst_vars; simp
  · rfl

theorem sub_get {α : Type} (xs : List α) (a b i : Nat) : (sub xs a b)[i]? = if a + i < b then xs[a + i]? else none := by
  unfold sub
  rw [List.getElem?_drop, List.getElem?_take]

theorem sub_length {α : Type} (xs : List α) (a b : Nat) (hb : b ≤ xs.length) : (sub xs a b).length = b - a := by
  unfold sub
  simp; omega

section
variable {E : Env} {S : Sit} {K : AV → Prop}

inductive ORv (S : Sit) : Option AV → Option Value → Prop
  | none : ORv S none none
  | some (a v) : Rv S a v → ORv S (some a) (some v)

theorem sliceB_ok {n cap : Nat} {l h m : Option AV} {lv hv mv : Option Value} {K : Nat → Nat → Bool → Prop} (P : Program) (w : World) (isSlice : Bool) (hcap : n ≤ cap)
    (hK : sliceB n l h m K) (rl : ORv S l lv) (rh : ORv S h hv) (rm : ORv S m mv) :
    ∃ a b c, K a b c ∧ a ≤ b ∧ b ≤ n ∧ (Instr.sliceBounds isSlice n cap lv hv mv).run P w = Result.ok (a, b, if c = true then b else cap) w := by
  have bnd : ∀ (k : IntKind) (i : Int) (y : Nat) (code : BoundsCode), 0 ≤ i → i ≤ y → (Instr.sliceBound (.int k i) y code).run P w = Result.ok i.toNat w := by
    intro k i y code h1 h2
    simp [Instr.sliceBound, asIntOf, h1, h2]
  unfold sliceB at hK
  split at hK
  · cases rl; cases rh; cases rm
    refine ⟨0, n, false, hK, by omega, by omega, ?_⟩
    simp [Instr.sliceBounds]
  · rename_i k a
    cases rh; cases rm
    cases rl with
    | some _ v r =>
      cases r
      cases hc : (decide (0 ≤ a) && decide (a ≤ (n : Int))) with
      | false => rw [hc] at hK; exact hK.elim
      | true =>
        rw [hc] at hK
        simp only [Bool.and_eq_true, decide_eq_true_eq] at hc
        refine ⟨a.toNat, n, false, hK, by omega, by omega, ?_⟩
        simp [Instr.sliceBounds, bnd k a n _ hc.1 hc.2]
  · rename_i k b
    cases rl; cases rm
    cases rh with
    | some _ v r =>
      cases r
      cases hc : (decide (0 ≤ b) && decide (b ≤ (n : Int))) with
      | false => rw [hc] at hK; exact hK.elim
      | true =>
        rw [hc] at hK
        simp only [Bool.and_eq_true, decide_eq_true_eq] at hc
        refine ⟨0, b.toNat, false, hK, by omega, by omega, ?_⟩
        simp [Instr.sliceBounds, bnd k b cap _ hc.1 (by omega)]
  · rename_i k a k' b
    cases rm
    cases rl with
    | some _ v r =>
      cases r
      cases rh with
      | some _ v r =>
        cases r
        cases hc : (decide (0 ≤ a) && decide (a ≤ b) && decide (b ≤ (n : Int))) with
        | false => rw [hc] at hK; exact hK.elim
        | true =>
          rw [hc] at hK
          simp only [Bool.and_eq_true, decide_eq_true_eq] at hc
          refine ⟨a.toNat, b.toNat, false, hK, by omega, by omega, ?_⟩
          simp [Instr.sliceBounds, bnd k' b cap _ (by omega) (by omega), bnd k a b.toNat _ (by omega) (by omega)]
  · rename_i k b k' c
    cases rl
    cases rh with
    | some _ v r =>
      cases r
      cases rm with
      | some _ v r =>
        cases r
        cases hc : (decide (0 ≤ b) && decide (b ≤ (n : Int)) && b == c) with
        | false => rw [hc] at hK; exact hK.elim
        | true =>
          rw [hc] at hK
          simp only [Bool.and_eq_true, decide_eq_true_eq, beq_iff_eq] at hc
          obtain ⟨⟨h1, h2⟩, rfl⟩ := hc
          refine ⟨0, b.toNat, true, hK, by omega, by omega, ?_⟩
          simp [Instr.sliceBounds, bnd k' b cap _ (by omega) (by omega), bnd k b b.toNat _ (by omega) (by omega)]
  · exact hK.elim

theorem sliceAt_slice {t : TypeId} {x : Value} {lv hv mv : Option Value} (w : World) (h : E.P.underlying t = some .string ∨ ∃ e, E.P.underlying t = some (.slice e)) :
    (Instr.sliceAt t x lv hv mv).run E.P w = (Instr.slice t x lv hv mv).run E.P w := by
  unfold Instr.sliceAt
  rcases h with h | ⟨e, h⟩ <;> simp only [Sem.run_bind, run_undT h, Result.andThen_ok]

theorem slice_ok {t : TypeId} {x : AV} {v : Value} {l h m : Option AV} {lv hv mv : Option Value} (hK : aslice E t x l h m K) (rx : Rv S x v) (rl : ORv S l lv) (rh : ORv S h hv) (rm : ORv S m mv) :
    Ans E.P S (Instr.sliceAt t v lv hv mv) K := by
  unfold aslice at hK
  split at hK
  · rename_i s hu
    obtain ⟨b, rfl, hb⟩ := rx.str_inv
    split at hK
    · cases rm
      have hn : b.size = s.length := by rw [← hb]; simp
      obtain ⟨p, q, c, hK', h1, h2, h3⟩ := sliceB_ok (S := S) E.P S.w false (n := s.length) (cap := s.length) (Nat.le_refl _) hK rl rh .none
      refine Ans.here (v := .string (b.extract p q)) ?_ (.str _ _ ?_) hK'
      · rw [sliceAt_slice S.w (.inl hu)]
        unfold Instr.slice
        simp only [Sem.run_bind, run_undT hu, Result.andThen_ok, Option.isSome_none, Bool.false_eq_true, if_false]
        rw [hn, h3]
        rfl
      · rw [ByteArray.data_extract]
        unfold sub
        rw [Array.toList_extract, hb, List.extract_eq_take_drop]
        rw [List.drop_take]
    · exact hK.elim
  · rename_i e f t' xs hu
    split at hK
    · rename_i hs
      rw [show (Instr.sliceAt t v lv hv mv) = Instr.sliceAt t v lv hv mv from rfl]
      have go : ∀ (a : Option Addr) (cap : Nat), xs.length ≤ cap → ∃ p q c, K (.sl (bif c then .full else .any) t' (sub xs p q)) ∧ p ≤ q ∧ q ≤ xs.length ∧
          (Instr.sliceAt t (.slice a xs.length cap) lv hv mv).run E.P S.w = Result.ok (.slice (if (if c = true then q else cap) = p then a else a.map (·.add (p * t'.sz))) (q - p) ((if c = true then q else cap) - p)) S.w := by
        intro a cap hcap
        obtain ⟨p, q, c, hK', h1, h2, h3⟩ := sliceB_ok (S := S) E.P S.w true (n := xs.length) (cap := cap) hcap hK rl rh rm
        refine ⟨p, q, c, hK', h1, h2, ?_⟩
        rw [sliceAt_slice S.w (.inr ⟨e, hu⟩)]
        unfold Instr.slice
        simp only [Sem.run_bind, run_undT hu, Result.andThen_ok, h3, run_sizeT hs, Sem.run_pure]
      have nn : ∀ c : Bool, (bif c then SF.full else SF.any) ≠ .nn := by intro c; cases c <;> simp
      cases rx with
      | slN _ _ _ =>
        obtain ⟨p, q, c, hK', h1, h2, h3⟩ := go none 0 (by simp)
        simp only [List.length_nil] at h2 h3
        obtain rfl : q = 0 := by omega
        obtain rfl : p = 0 := by omega
        refine Ans.here h3 ?_ hK'
        have : (if c = true then 0 else 0) = 0 := by split <;> rfl
        simp only [this, Nat.sub_zero, if_true]
        exact .slN _ _ (nn c)
      | slE _ _ a cap hf =>
        obtain ⟨p, q, c, hK', h1, h2, h3⟩ := go (some a) cap (by simp)
        simp only [List.length_nil] at h2 h3
        obtain rfl : q = 0 := by omega
        obtain rfl : p = 0 := by omega
        refine Ans.here h3 ?_ hK'
        have e : sub ([] : List t'.den) 0 0 = [] := rfl
        rw [e]
        have e2 : (if (if c = true then 0 else cap) = 0 then some a else Option.map (fun x => x.add (0 * t'.sz)) (some a)) = some a := by
          split
          · rfl
          · simp [Addr.add]
        rw [e2]
        refine .slE _ _ _ _ ?_
        cases c <;> simp
      | sl _ _ _ B off cap val c1 c2 hF hc hr =>
        obtain ⟨p, q, c, hK', h1, h2, h3⟩ := go (some (at_ B off)) cap c1
        refine Ans.here h3 ?_ hK'
        have hM : q ≤ (if c = true then q else cap) := by split <;> omega
        generalize hM0 : (if c = true then q else cap) = M at hM ⊢
        have hfull : (bif c then SF.full else SF.any) = SF.full → M = q := by
          intro hh
          cases c with
          | false => simp at hh
          | true => simp at hM0; omega
        by_cases e : M = p
        · obtain rfl : q = p := by omega
          have e1 : sub xs q q = [] := by
            apply List.eq_nil_of_length_eq_zero
            rw [sub_length xs q q h2]; omega
          rw [e1]
          subst e
          simp only [if_true, Nat.sub_self]
          exact .slE _ _ _ _ (fun _ => rfl)
        · rw [if_neg e]
          simp only [Option.map_some, add_at]
          have hl : (sub xs p q).length = q - p := sub_length xs p q h2
          rw [← hl]
          refine .sl _ _ _ _ _ _ (fun k => val (p * t'.sz + k)) (by omega) (fun hh => by have := hfull hh; omega) ?_ ?_ ?_
          · intro k hk
            rw [Nat.add_assoc]
            refine hF _ ?_
            have : p * t'.sz + (q - p) * t'.sz ≤ xs.length * t'.sz := by
              rw [← Nat.add_mul]; exact Nat.mul_le_mul_right _ (by omega)
            rw [hl] at hk
            omega
          · intro k hk
            rw [Nat.add_assoc]
            refine hc _ ?_
            have : p * t'.sz + (q - p) * t'.sz ≤ xs.length * t'.sz := by
              rw [← Nat.add_mul]; exact Nat.mul_le_mul_right _ (by omega)
            rw [hl] at hk
            omega
          · intro i x j cc hx hcc
            rw [sub_get] at hx
            split at hx
            · have := hr (p + i) x j cc hx hcc
              have e3 : (p + i) * t'.sz + j = p * t'.sz + (i * t'.sz + j) := by rw [Nat.add_mul]; omega
              rw [e3] at this
              exact this
            · cases hx
    · exact hK.elim
  · rename_i e hu
    cases rx
    split at hK
    · rename_i sz hs
      obtain ⟨p, q, c, hK', h1, h2, h3⟩ := sliceB_ok (S := S) E.P S.w true (n := 0) (cap := 0) (Nat.le_refl _) hK rl rh rm
      obtain rfl : q = 0 := by omega
      obtain rfl : p = 0 := by omega
      refine Ans.here (v := .slice none 0 0) ?_ .snil hK'
      rw [sliceAt_slice S.w (.inr ⟨e, hu⟩)]
      unfold Instr.slice
      simp only [Sem.run_bind, run_undT hu, Result.andThen_ok, h3, run_sizeT hs, Sem.run_pure]
      cases c <;> rfl
    · exact hK.elim
  · exact hK.elim

end
end Gm
