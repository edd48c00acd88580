/- Operations have one answer: all of them. -/
import Derived.Test.YtbhgalddlkebgaaGmW0
namespace Gm
open Go

variable {E : Env} {tab : Tab}

theorem abuiltin_det (b : Builtin) (ts : List TypeId) (vs : List AV) : Det (abuiltin E b ts vs) := by
  intro K h
  unfold abuiltin at h
  split at h
  · split at h
    all_goals first
      | (rename_i hu; exact ⟨_, h, fun K' hk => by simp only [abuiltin, hu]; exact hk⟩)
      | (exact h.elim)
      | skip
  · exact ⟨_, h, fun K' hk => hk⟩
  · exact ⟨_, h, fun K' hk => hk⟩
  · exact h.elim

theorem a0_det (hT : TabDet tab) (o : Oper) (vs : List AV) : Det (a0 E tab o vs) := by
  obtain ⟨dst, op, type, pos, after, guard⟩ := o
  intro K h
  unfold a0 at h
  dsimp only at h
  split at h
  · exact ⟨_, h, fun K' hk => hk⟩
  · exact ⟨_, h, fun K' hk => hk⟩
  · rename_i c a b
    cases c
    · exact ⟨_, h, fun K' hk => hk⟩
    · exact ⟨_, h, fun K' hk => hk⟩
  · split at h
    · rename_i v hv
      exact ⟨_, h, fun K' hk => by simp only [a0, hv]; exact hk⟩
    · exact h.elim
  · split at h
    · rename_i e he
      split at h
      · rename_i z l hz hl
        split at h
        · rename_i zc hzc
          split at h
          · rename_i hc
            exact ⟨_, h, fun K' hk => by simp only [a0, he, hz, hl, hzc, hc, if_true]; exact hk⟩
          · exact h.elim
        · exact h.elim
      · exact h.elim
    · exact h.elim
  · split at h
    · rename_i v hv
      exact ⟨_, h, fun K' hk => by simp only [a0, hv]; exact hk⟩
    · exact h.elim
  · split at h
    · rename_i hn
      exact ⟨_, h, fun K' hk => by simp only [a0, hn, if_true]; exact hk⟩
    · exact h.elim
  · exact abin_det _ _ _ _ K h
  · split at h
    · rename_i v hv
      exact ⟨_, h, fun K' hk => by simp only [a0, hv]; exact hk⟩
    · exact h.elim
  · split at h
    · rename_i v hv
      exact ⟨_, h, fun K' hk => by simp only [a0, hv]; exact hk⟩
    · exact h.elim
  · split at h
    · exact h.elim
    · rename_i d hni hd
      split at h
      · rename_i hs
        refine ⟨_, h, fun K' hk => ?_⟩
        cases d <;> first | exact (hni _ hd).elim | exact (hni _ rfl).elim | (simp only [a0, hd, hs, if_true]; exact hk)
      · exact h.elim
    · exact h.elim
  · exact ⟨_, h, fun K' hk => hk⟩
  · exact aslice_det _ _ _ _ _ K h
  · split at h
    · rename_i fields hu
      split at h
      · rename_i fd hf
        split at h
        · rename_i n hz
          split at h
          all_goals first
            | (exact ⟨_, h, fun K' hk => by simp only [a0, hu, hf, hz]; exact hk⟩)
            | (exact h.elim)
        · exact h.elim
      · exact h.elim
    · exact h.elim
  · split at h
    · rename_i fields hu
      split at h
      · rename_i fd hf
        split at h
        · rename_i v hv
          exact ⟨_, h, fun K' hk => by simp only [a0, hu, hf, hv]; exact hk⟩
        · exact h.elim
      · exact h.elim
    · exact h.elim
  · split at h
    · rename_i e f t' xs hu
      split at h
      · rename_i hs
        split at h
        · rename_i x hx
          exact ⟨_, h, fun K' hk => by simp only [a0, hu, hs, hx, if_true]; exact hk⟩
        · exact h.elim
      · exact h.elim
    · rename_i e l hu
      split at h
      · rename_i z hz
        split at h
        · rename_i hall
          obtain ⟨v, h1, h2⟩ := caseN_det _ (T := fun j K => match l[j]? with | some v => K (AV.fptr v.cells 0) | none => False) (fun j K h => by
            split at h
            · rename_i v hv; exact ⟨_, h, fun K' hk => by simp only; exact hk⟩
            · exact h.elim) l.length 0 K h
          exact ⟨v, h1, fun K' hk => by simp only [a0, hu, hz, hall, if_true]; exact h2 K' hk⟩
        · exact h.elim
      · exact h.elim
    · rename_i n e b o hu
      split at h
      · rename_i z hz
        obtain ⟨v, h1, h2⟩ := caseN_det _ (T := fun j K => K (AV.ptr b (o + j * z))) (fun j => det_ret _) n 0 K h
        exact ⟨v, h1, fun K' hk => by simp only [a0, hu, hz]; exact h2 K' hk⟩
      · exact h.elim
    · rename_i n e cs o hu
      split at h
      · rename_i z hz
        obtain ⟨v, h1, h2⟩ := caseN_det _ (T := fun j K => K (AV.fptr cs (o + j * z))) (fun j => det_ret _) n 0 K h
        exact ⟨v, h1, fun K' hk => by simp only [a0, hu, hz]; exact h2 K' hk⟩
      · exact h.elim
    · exact h.elim
  · split at h
    · rename_i s hu
      split at h
      · rename_i b hb
        exact ⟨_, h, fun K' hk => by simp only [a0, hu, hb]; exact hk⟩
      · exact h.elim
    · rename_i n e cs hu
      split at h
      · rename_i z hz
        obtain ⟨v, h1, h2⟩ := caseN_det _ (T := fun j K => match partC E e cs (j * z) with | some v => K v | none => False) (fun j K h => by
          split at h
          · rename_i v hv; exact ⟨_, h, fun K' hk => by simp only; exact hk⟩
          · exact h.elim) n 0 K h
        exact ⟨v, h1, fun K' hk => by simp only [a0, hu, hz]; exact h2 K' hk⟩
      · exact h.elim
    · exact h.elim
  · split at h
    · rename_i v hv
      exact ⟨_, h, fun K' hk => by simp only [a0, hv]; exact hk⟩
    · exact h.elim
  · split at h
    · rename_i b vs' hc
      obtain ⟨v, h1, h2⟩ := abuiltin_det _ _ _ K h
      exact ⟨v, h1, fun K' hk => by simp only [a0, hc]; exact h2 K' hk⟩
    · rename_i x f a b args hc
      split at h
      · rename_i en hen
        obtain ⟨v, h1, h2⟩ := hT f en hen _ K h
        exact ⟨v, h1, fun K' hk => by simp only [a0, hc, hen]; exact h2 K' hk⟩
      · exact h.elim
    · exact h.elim
  · exact h.elim

theorem a1_det (o : Oper) (vs : List AV) (hs : HS) : Det (a1 E o vs hs) := by
  obtain ⟨dst, op, type, pos, after, guard⟩ := o
  intro K h
  unfold a1 at h
  dsimp only at h
  split at h
  · split at h
    · rename_i cs hb
      split at h
      · rename_i v hv
        exact ⟨_, h, fun K' hk => by simp only [a1, hb, hv]; exact hk⟩
      · exact h.elim
    · exact h.elim
  · split at h
    · rename_i ro t' xs hb
      split at h
      · rename_i x hx
        split at h
        · rename_i v hv
          exact ⟨_, h, fun K' hk => by simp only [a1, hb, hx, hv]; exact hk⟩
        · exact h.elim
      · exact h.elim
    · exact h.elim
  · split at h
    · rename_i e ro t' xs hu hb
      split at h
      · rename_i hz
        rw [cond_eq_ite] at h
        split at h
        · rename_i hc
          exact ⟨_, h, fun K' hk => by simp only [a1, hu, hb, hz, if_true, hc]; exact hk⟩
        · exact h.elim
      · exact h.elim
    · exact h.elim
  · split at h
    · rename_i e ro xs hs1 hd hb
      split at h
      · rename_i he
        exact ⟨_, h, fun K' hk => by simp only [a1, hs1, hd, hb, he]; exact hk⟩
      · exact h.elim
    · exact h.elim
  · split at h
    · rename_i t _ ro t' xs hc ht hb
      split at h
      · rename_i e hu
        exact ⟨_, h, fun K' hk => by simp only [a1, hc, ht, hb, hu]; exact hk⟩
      · exact h.elim
    · exact h.elim
  · exact h.elim

theorem acp_det (o : Oper) (vs : List AV) : Det (acp E o vs) := by
  obtain ⟨dst, op, type, pos, after, guard⟩ := o
  intro K h
  unfold acp at h
  dsimp only at h
  split at h
  · split at h
    · rename_i s x hc ht
      split at h
      · rename_i e e' he he'
        split at h
        · rename_i z w zc hz hw hzc
          split at h
          · rename_i hcond
            rw [cond_eq_ite] at h
            split at h
            · rename_i hr
              exact ⟨_, h, fun K' hk => by simp only [acp, hc, ht, he, he', hz, hw, hzc, if_pos hcond, hr, cond_true]; exact hk⟩
            · exact h.elim
          · exact h.elim
        · exact h.elim
      · exact h.elim
    · exact h.elim
  · exact h.elim

end Gm

/- Operations have one answer: those that change the heap. -/
namespace Gm
open Go

variable {E : Env} {tab : Tab}

theorem aapp_det (t : Ty) (w : Nat) (base src : AV) (hs : HS) : DetH (aapp t w base src hs) := by
  intro K h
  unfold aapp at h
  split at h
  · exact h.elim
  · rename_i ys hys
    split at h
    · rw [cond_eq_ite] at h
      split at h
      · rename_i hc
        exact ⟨_, _, h, fun K' hk => by simp only [aapp, hys, hc]; exact hk⟩
      · exact h.elim
    · rw [cond_eq_ite] at h
      split at h
      · rename_i hc
        exact ⟨_, _, h, fun K' hk => by simp only [aapp, hys, hc]; exact hk⟩
      · exact h.elim
    · split at h
      · rename_i ht
        subst ht
        split at h
        · rw [cond_eq_ite] at h
          split at h
          · rename_i hc
            refine ⟨_, _, h, fun K' hk => ?_⟩
            simp only [aapp, hys, dif_pos, hc]
            exact hk
          · exact h.elim
        · exact h.elim
      · exact h.elim
    · split at h
      · rename_i ro t' xs hb
        split at h
        · rename_i ht
          subst ht
          split at h
          · rename_i b'
            rw [cond_eq_ite] at h
            split at h
            · exact h.elim
            · rename_i hbb
              rw [cond_eq_ite] at h
              split at h
              · rename_i hc
                refine ⟨_, _, h, fun K' hk => ?_⟩
                simp only [aapp, hys, hb, dif_pos, hc, hbb]
                exact hk
              · exact h.elim
          · rename_i hn
            rw [cond_eq_ite] at h
            split at h
            · rename_i hc
              refine ⟨_, _, h, fun K' hk => ?_⟩
              cases src <;> first
                | (exact (hn _ rfl).elim)
                | (simp only [aapp, hys, hb, dif_pos, hc]; exact hk)
            · exact h.elim
        · exact h.elim
      · exact h.elim
    · exact h.elim

theorem a2_det (hT : TabDet tab) (o : Oper) (vs : List AV) (hs : HS) : DetH (a2 E tab noCal o vs hs) := by
  obtain ⟨dst, op, type, pos, after, guard⟩ := o
  intro K h
  unfold a2 at h
  dsimp only at h
  split at h
  · split at h
    · rename_i z hz
      split at h
      · rename_i hs1
        exact ⟨_, _, h, fun K' hk => by simp only [a2, hz, hs1, if_true]; exact hk⟩
      · exact h.elim
    · exact h.elim
  · split at h
    · rename_i hs1
      exact ⟨_, _, h, fun K' hk => by simp only [a2, hs1, if_true]; exact hk⟩
    · exact h.elim
  · split at h
    · rename_i t ht
      exact ⟨_, _, h, fun K' hk => by simp only [a2, ht]; exact hk⟩
    · exact h.elim
  · split at h
    · rename_i e t' he hty
      split at h
      · rename_i z l zc hz hl hzc
        split at h
        · rename_i hc
          split at h
          · rename_i xs hd
            exact ⟨_, _, h, fun K' hk => by simp only [a2, he, hty, hz, hl, hzc, hd]; rw [if_pos hc]; exact hk⟩
          · exact h.elim
        · exact h.elim
      · exact h.elim
    · exact h.elim
  · split at h
    · rename_i cs z hb hz
      split at h
      · rename_i hc
        exact ⟨_, _, h, fun K' hk => by simp only [a2, hb, hz, hc, if_true]; exact hk⟩
      · exact h.elim
    · exact h.elim
  · split at h
    · rename_i t' xs z hb hz
      split at h
      · rename_i y hy
        split at h
        · rename_i hzt
          exact ⟨_, _, h, fun K' hk => by simp only [a2, hb, hz, hy, hzt, if_true]; exact hk⟩
        · exact h.elim
      · exact h.elim
    · exact h.elim
  · split at h
    · rename_i e t' he hty
      split at h
      · rename_i z s w hz hsz hw
        split at h
        · rename_i y hy
          split at h
          · rename_i hst
            rw [cond_eq_ite] at h
            split at h
            · rename_i hc
              exact ⟨_, _, h, fun K' hk => by simp only [a2, he, hty, hz, hsz, hw, hy, hst, if_true, hc]; exact hk⟩
            · exact h.elim
          · exact h.elim
        · exact h.elim
      · exact h.elim
    · exact h.elim
  · split at h
    · rename_i e hs1 hd
      split at h
      · rename_i he
        exact ⟨_, _, h, fun K' hk => by simp only [a2, hs1, hd, he]; exact hk⟩
      · exact h.elim
    · exact h.elim
  · split at h
    · rename_i ro t' xs hb
      obtain ⟨v, h1, h2⟩ := det_bind (aslice_det _ _ _ _ _) (fun v => (det_ret v : Det fun K : AV → Prop => K v)) (fun v => K v _) h
      exact ⟨v, _, h1, fun K' hk => by simp only [a2, hb]; exact h2 (fun v => K' v _) hk⟩
    · exact h.elim
  · split at h
    · rename_i base src hc
      split at h
      · rename_i s x hts
        split at h
        · rename_i e e' t' he he' hty
          split at h
          · rename_i z w hz hw
            split at h
            · rename_i zc hzc
              split at h
              · rename_i hcond
                obtain ⟨v, hh, h1, h2⟩ := aapp_det _ _ _ _ _ K h
                exact ⟨v, hh, h1, fun K' hk => by simp only [a2, hc, hts, he, he', hty, hz, hw, hzc]; rw [if_pos hcond]; exact h2 K' hk⟩
              · exact h.elim
            · exact h.elim
          · exact h.elim
        · exact h.elim
      · exact h.elim
    · rename_i x f a b args hc
      split at h
      · rename_i en hen
        obtain ⟨v, h1, h2⟩ := hT _ en hen _ _ h
        exact ⟨v, _, h1, fun K' hk => by simp only [a2, hc, hen]; exact h2 (fun v => K' v _) hk⟩
      · rename_i hen
        split at h
        · rename_i t w hcl
          split at h
          · rename_i hall
            exact ⟨_, _, h, fun K' hk => by simp only [a2, hc, hen, hcl, hall]; exact hk⟩
          · rename_i f' t' xs hall
            split at h
            · rename_i ht
              subst ht
              rw [cond_eq_ite] at h
              split at h
              · rename_i hc2
                refine ⟨_, _, h, fun K' hk => ?_⟩
                simp only [a2, hc, hen, hcl, hall, dif_pos, hc2]
                exact hk
              · exact h.elim
            · exact h.elim
          · exact h.elim
        · exact h.elim
    · exact h.elim
  · exact h.elim

theorem aop_det (hT : TabDet tab) (o : Oper) (vs : List AV) (hs : HS) : DetH (aop E tab noCal o vs hs) := by
  intro K h
  unfold aop at h
  split at h
  · rename_i ht
    cases hb : isCp E o vs with
    | false =>
      rw [hb] at h
      obtain ⟨v, h1, h2⟩ := a0_det hT o vs _ h
      exact ⟨v, hs, h1, fun K' hk => by simp only [aop, ht, hb, cond_false]; exact h2 (fun v => K' v hs) hk⟩
    | true =>
      rw [hb] at h
      obtain ⟨v, h1, h2⟩ := acp_det (E := E) o vs (fun v => K v hs) h
      exact ⟨v, hs, h1, fun K' hk => by simp only [aop, ht, hb, cond_true]; exact h2 (fun v => K' v hs) hk⟩
  · rename_i ht
    cases hb : Nat.blt (blk1 vs) hs.hn with
    | false => rw [hb] at h; exact h.elim
    | true =>
      rw [hb] at h
      obtain ⟨v, h1, h2⟩ := a1_det o vs hs _ h
      exact ⟨v, hs, h1, fun K' hk => by simp only [aop, ht, hb, cond_true]; exact h2 (fun v => K' v hs) hk⟩
  · rename_i h0 h1
    obtain ⟨v, hh, h2, h3⟩ := a2_det hT o vs hs _ h
    refine ⟨v, hh, h2, fun K' hk => ?_⟩
    unfold aop
    split
    · rename_i hx; exact (h0 hx).elim
    · rename_i hx; exact (h1 hx).elim
    · exact h3 K' hk

end Gm
