/- Operations have one answer: all of them. -/
import Derived.Test.YtbhgalddlkebgaaDoorGmW0
namespace Gm
open Go

variable {E : Env} {tab : Tab}

theorem abuiltin_det (b : Builtin) (ts : List TypeId) (vs : List AV) : Det (abuiltin E b ts vs) := by
  intro K h
  unfold abuiltin at h
  split at h
  · split at h
    all_goals first
      | (rename_i hu; exact ⟨_, h, fun K' hk => by simp only [abuiltin, hu]; exact hk⟩)
      | (exact h.elim)
      | skip
  · exact ⟨_, h, fun K' hk => hk⟩
  · exact ⟨_, h, fun K' hk => hk⟩
  · exact h.elim

theorem a0_det (hT : TabDet tab) (o : Oper) (vs : List AV) : Det (a0 E tab o vs) := by
  obtain ⟨dst, op, type, pos, after, guard⟩ := o
  intro K h
  unfold a0 at h
  dsimp only at h
  split at h
  · exact ⟨_, h, fun K' hk => hk⟩
  · exact ⟨_, h, fun K' hk => hk⟩
  · rename_i c a b
    cases c
    · exact ⟨_, h, fun K' hk => hk⟩
    · exact ⟨_, h, fun K' hk => hk⟩
  · split at h
    · rename_i v hv
      exact ⟨_, h, fun K' hk => by simp only [a0, hv]; exact hk⟩
    · exact h.elim
  · split at h
    · rename_i e he
      split at h
      · rename_i z l hz hl
        split at h
        · rename_i zc hzc
          split at h
          · rename_i hc
            exact ⟨_, h, fun K' hk => by simp only [a0, he, hz, hl, hzc, hc, if_true]; exact hk⟩
          · exact h.elim
        · exact h.elim
      · exact h.elim
    · exact h.elim
  · split at h
    · rename_i v hv
      exact ⟨_, h, fun K' hk => by simp only [a0, hv]; exact hk⟩
    · exact h.elim
  · split at h
    · rename_i hn
      exact ⟨_, h, fun K' hk => by simp only [a0, hn, if_true]; exact hk⟩
    · exact h.elim
  · rename_i op t x y u a b
    cases hb : (nil2 a b && (isK x || isK y)) with
    | false =>
      rw [hb] at h
      obtain ⟨v, h1, h2⟩ := abin_det _ _ _ _ K h
      exact ⟨v, h1, fun K' hk => by simp only [a0, hb]; exact h2 K' hk⟩
    | true =>
      rw [hb] at h
      rw [cond_true] at h
      unfold anil at h
      split at h
      · rename_i hu
        exact ⟨_, h, fun K' hk => by simp only [a0, hb, cond_true, anil, hu]; exact hk⟩
      · rename_i hu
        exact ⟨_, h, fun K' hk => by simp only [a0, hb, cond_true, anil, hu]; exact hk⟩
      · exact h.elim
  · split at h
    · rename_i v hv
      exact ⟨_, h, fun K' hk => by simp only [a0, hv]; exact hk⟩
    · exact h.elim
  · split at h
    · rename_i v hv
      exact ⟨_, h, fun K' hk => by simp only [a0, hv]; exact hk⟩
    · exact h.elim
  · split at h
    · exact h.elim
    · rename_i d hni hd
      split at h
      · rename_i hs
        refine ⟨_, h, fun K' hk => ?_⟩
        cases d <;> first | exact (hni _ hd).elim | exact (hni _ rfl).elim | (simp only [a0, hd, hs, if_true]; exact hk)
      · exact h.elim
    · exact h.elim
  · exact ⟨_, h, fun K' hk => hk⟩
  · exact aslice_det _ _ _ _ _ K h
  · split at h
    · rename_i fields hu
      split at h
      · rename_i fd hf
        split at h
        · rename_i n hz
          split at h
          all_goals first
            | (exact ⟨_, h, fun K' hk => by simp only [a0, hu, hf, hz]; exact hk⟩)
            | (exact h.elim)
        · exact h.elim
      · exact h.elim
    · exact h.elim
  · split at h
    · rename_i fields hu
      split at h
      · rename_i fd hf
        split at h
        · rename_i v hv
          exact ⟨_, h, fun K' hk => by simp only [a0, hu, hf, hv]; exact hk⟩
        · exact h.elim
      · exact h.elim
    · exact h.elim
  · split at h
    · rename_i e f t' xs hu
      split at h
      · rename_i hs
        split at h
        · rename_i x hx
          exact ⟨_, h, fun K' hk => by simp only [a0, hu, hs, hx, if_true]; exact hk⟩
        · exact h.elim
      · exact h.elim
    · rename_i e l hu
      split at h
      · rename_i z hz
        split at h
        · rename_i hall
          obtain ⟨v, h1, h2⟩ := caseN_det _ (T := fun j K => match l[j]? with | some v => K (AV.fptr v.cells 0) | none => False) (fun j K h => by
            split at h
            · rename_i v hv; exact ⟨_, h, fun K' hk => by simp only; exact hk⟩
            · exact h.elim) l.length 0 K h
          exact ⟨v, h1, fun K' hk => by simp only [a0, hu, hz, hall, if_true]; exact h2 K' hk⟩
        · exact h.elim
      · exact h.elim
    · rename_i n e b o hu
      split at h
      · rename_i z hz
        obtain ⟨v, h1, h2⟩ := caseN_det _ (T := fun j K => K (AV.ptr b (o + j * z))) (fun j => det_ret _) n 0 K h
        exact ⟨v, h1, fun K' hk => by simp only [a0, hu, hz]; exact h2 K' hk⟩
      · exact h.elim
    · rename_i n e cs o hu
      split at h
      · rename_i z hz
        obtain ⟨v, h1, h2⟩ := caseN_det _ (T := fun j K => K (AV.fptr cs (o + j * z))) (fun j => det_ret _) n 0 K h
        exact ⟨v, h1, fun K' hk => by simp only [a0, hu, hz]; exact h2 K' hk⟩
      · exact h.elim
    · exact h.elim
  · split at h
    · rename_i s hu
      split at h
      · rename_i b hb
        exact ⟨_, h, fun K' hk => by simp only [a0, hu, hb]; exact hk⟩
      · exact h.elim
    · rename_i n e cs hu
      split at h
      · rename_i z hz
        obtain ⟨v, h1, h2⟩ := caseN_det _ (T := fun j K => match partC E e cs (j * z) with | some v => K v | none => False) (fun j K h => by
          split at h
          · rename_i v hv; exact ⟨_, h, fun K' hk => by simp only; exact hk⟩
          · exact h.elim) n 0 K h
        exact ⟨v, h1, fun K' hk => by simp only [a0, hu, hz]; exact h2 K' hk⟩
      · exact h.elim
    · exact h.elim
  · split at h
    · rename_i v hv
      exact ⟨_, h, fun K' hk => by simp only [a0, hv]; exact hk⟩
    · exact h.elim
  · split at h
    · rename_i b vs' hc
      obtain ⟨v, h1, h2⟩ := abuiltin_det _ _ _ K h
      exact ⟨v, h1, fun K' hk => by simp only [a0, hc]; exact h2 K' hk⟩
    · rename_i x f a b args hc
      split at h
      · rename_i en hen
        obtain ⟨v, h1, h2⟩ := hT f en hen _ K h
        exact ⟨v, h1, fun K' hk => by simp only [a0, hc, hen]; exact h2 K' hk⟩
      · exact h.elim
    · exact h.elim
  · exact h.elim

theorem a1_det (o : Oper) (vs : List AV) (hs : HS) : Det (a1 E o vs hs) := by
  obtain ⟨dst, op, type, pos, after, guard⟩ := o
  intro K h
  unfold a1 at h
  dsimp only at h
  split at h
  · split at h
    · rename_i cs hb
      split at h
      · rename_i v hv
        exact ⟨_, h, fun K' hk => by simp only [a1, hb, hv]; exact hk⟩
      · exact h.elim
    · exact h.elim
  · split at h
    · rename_i ro t' xs hb
      split at h
      · rename_i x hx
        split at h
        · rename_i v hv
          exact ⟨_, h, fun K' hk => by simp only [a1, hb, hx, hv]; exact hk⟩
        · exact h.elim
      · exact h.elim
    · exact h.elim
  · split at h
    · rename_i e ro t' xs hu hb
      split at h
      · rename_i hz
        rw [cond_eq_ite] at h
        split at h
        · rename_i hc
          exact ⟨_, h, fun K' hk => by simp only [a1, hu, hb, hz, if_true, hc]; exact hk⟩
        · exact h.elim
      · exact h.elim
    · exact h.elim
  · split at h
    · rename_i e ro xs hs1 hd hb
      split at h
      · rename_i he
        exact ⟨_, h, fun K' hk => by simp only [a1, hs1, hd, hb, he]; exact hk⟩
      · exact h.elim
    · exact h.elim
  · split at h
    · rename_i t _ ro t' xs hc ht hb
      split at h
      · rename_i e hu
        exact ⟨_, h, fun K' hk => by simp only [a1, hc, ht, hb, hu]; exact hk⟩
      · exact h.elim
    · exact h.elim
  · exact h.elim

theorem acp_det (o : Oper) (vs : List AV) : Det (acp E o vs) := by
  obtain ⟨dst, op, type, pos, after, guard⟩ := o
  intro K h
  unfold acp at h
  dsimp only at h
  split at h
  · split at h
    · rename_i s x hc ht
      split at h
      · rename_i e e' he he'
        split at h
        · rename_i z w zc hz hw hzc
          split at h
          · rename_i hcond
            rw [cond_eq_ite] at h
            split at h
            · rename_i hr
              exact ⟨_, h, fun K' hk => by simp only [acp, hc, ht, he, he', hz, hw, hzc, if_pos hcond, hr, cond_true]; exact hk⟩
            · exact h.elim
          · exact h.elim
        · exact h.elim
      · exact h.elim
    · exact h.elim
  · exact h.elim

end Gm

/- Operations have one answer: those that change the heap. -/
namespace Gm
open Go

variable {E : Env} {tab : Tab}

theorem aapp_det (t : Ty) (w : Nat) (base src : AV) (hs : HS) : DetH (aapp t w base src hs) := by
  intro K h
  unfold aapp at h
  split at h
  · exact h.elim
  · rename_i ys hys
    split at h
    · rw [cond_eq_ite] at h
      split at h
      · rename_i hc
        exact ⟨_, _, h, fun K' hk => by simp only [aapp, hys, hc]; exact hk⟩
      · exact h.elim
    · rw [cond_eq_ite] at h
      split at h
      · rename_i hc
        exact ⟨_, _, h, fun K' hk => by simp only [aapp, hys, hc]; exact hk⟩
      · exact h.elim
    · split at h
      · rename_i ht
        subst ht
        split at h
        · rw [cond_eq_ite] at h
          split at h
          · rename_i hc
            refine ⟨_, _, h, fun K' hk => ?_⟩
            simp only [aapp, hys, dif_pos, hc]
            exact hk
          · exact h.elim
        · exact h.elim
      · exact h.elim
    · split at h
      · rename_i ro t' xs hb
        split at h
        · rename_i ht
          subst ht
          split at h
          · rename_i b'
            rw [cond_eq_ite] at h
            split at h
            · exact h.elim
            · rename_i hbb
              rw [cond_eq_ite] at h
              split at h
              · rename_i hc
                refine ⟨_, _, h, fun K' hk => ?_⟩
                simp only [aapp, hys, hb, dif_pos, hc, hbb]
                exact hk
              · exact h.elim
          · rename_i hn
            rw [cond_eq_ite] at h
            split at h
            · rename_i hc
              refine ⟨_, _, h, fun K' hk => ?_⟩
              cases src <;> first
                | (exact (hn _ rfl).elim)
                | (simp only [aapp, hys, hb, dif_pos, hc]; exact hk)
            · exact h.elim
        · exact h.elim
      · exact h.elim
    · exact h.elim

theorem a2_det {cal : Callee} (hT : TabDet tab) (hC : CalDet cal) (o : Oper) (vs : List AV) (hs : HS) : DetH (a2 E tab cal o vs hs) := by
  obtain ⟨dst, op, type, pos, after, guard⟩ := o
  intro K h
  unfold a2 at h
  dsimp only at h
  split at h
  · split at h
    · rename_i z hz
      split at h
      · rename_i hs1
        exact ⟨_, _, h, fun K' hk => by simp only [a2, hz, hs1, if_true]; exact hk⟩
      · exact h.elim
    · exact h.elim
  · split at h
    · rename_i hs1
      exact ⟨_, _, h, fun K' hk => by simp only [a2, hs1, if_true]; exact hk⟩
    · exact h.elim
  · split at h
    · rename_i t ht
      exact ⟨_, _, h, fun K' hk => by simp only [a2, ht]; exact hk⟩
    · exact h.elim
  · split at h
    · rename_i e t' he hty
      split at h
      · rename_i z l zc hz hl hzc
        split at h
        · rename_i hc
          split at h
          · rename_i xs hd
            exact ⟨_, _, h, fun K' hk => by simp only [a2, he, hty, hz, hl, hzc, hd]; rw [if_pos hc]; exact hk⟩
          · exact h.elim
        · exact h.elim
      · exact h.elim
    · exact h.elim
  · split at h
    · rename_i cs z hb hz
      split at h
      · rename_i hc
        exact ⟨_, _, h, fun K' hk => by simp only [a2, hb, hz, hc, if_true]; exact hk⟩
      · exact h.elim
    · exact h.elim
  · split at h
    · rename_i t' xs z hb hz
      split at h
      · rename_i y hy
        split at h
        · rename_i hzt
          exact ⟨_, _, h, fun K' hk => by simp only [a2, hb, hz, hy, hzt, if_true]; exact hk⟩
        · exact h.elim
      · exact h.elim
    · exact h.elim
  · split at h
    · rename_i e t' he hty
      split at h
      · rename_i z s w hz hsz hw
        split at h
        · rename_i y hy
          split at h
          · rename_i hst
            rw [cond_eq_ite] at h
            split at h
            · rename_i hc
              exact ⟨_, _, h, fun K' hk => by simp only [a2, he, hty, hz, hsz, hw, hy, hst, if_true, hc]; exact hk⟩
            · exact h.elim
          · exact h.elim
        · exact h.elim
      · exact h.elim
    · exact h.elim
  · split at h
    · rename_i e hs1 hd
      split at h
      · rename_i he
        exact ⟨_, _, h, fun K' hk => by simp only [a2, hs1, hd, he]; exact hk⟩
      · exact h.elim
    · exact h.elim
  · split at h
    · rename_i ro t' xs hb
      obtain ⟨v, h1, h2⟩ := det_bind (aslice_det _ _ _ _ _) (fun v => (det_ret v : Det fun K : AV → Prop => K v)) (fun v => K v _) h
      exact ⟨v, _, h1, fun K' hk => by simp only [a2, hb]; exact h2 (fun v => K' v _) hk⟩
    · exact h.elim
  · split at h
    · rename_i base src hc
      split at h
      · rename_i s x hts
        split at h
        · rename_i e e' t' he he' hty
          split at h
          · rename_i z w hz hw
            split at h
            · rename_i zc hzc
              split at h
              · rename_i hcond
                obtain ⟨v, hh, h1, h2⟩ := aapp_det _ _ _ _ _ K h
                exact ⟨v, hh, h1, fun K' hk => by simp only [a2, hc, hts, he, he', hty, hz, hw, hzc]; rw [if_pos hcond]; exact h2 K' hk⟩
              · exact h.elim
            · exact h.elim
          · exact h.elim
        · exact h.elim
      · exact h.elim
    · rename_i x f a b args hc
      split at h
      · rename_i en hen
        obtain ⟨v, h1, h2⟩ := hT _ en hen _ _ h
        exact ⟨v, _, h1, fun K' hk => by simp only [a2, hc, hen]; exact h2 (fun v => K' v _) hk⟩
      · rename_i hen
        split at h
        · rename_i t w hcl
          split at h
          · rename_i hall
            exact ⟨_, _, h, fun K' hk => by simp only [a2, hc, hen, hcl, hall]; exact hk⟩
          · rename_i f' t' xs hall
            split at h
            · rename_i ht
              subst ht
              rw [cond_eq_ite] at h
              split at h
              · rename_i hc2
                refine ⟨_, _, h, fun K' hk => ?_⟩
                simp only [a2, hc, hen, hcl, hall, dif_pos, hc2]
                exact hk
              · exact h.elim
            · exact h.elim
          · exact h.elim
        · rename_i hcl
          obtain ⟨v, hh, h1, h2⟩ := hC f _ hs K h
          exact ⟨v, hh, h1, fun K' hk => by simp only [a2, hc, hen, hcl]; exact h2 K' hk⟩
    · exact h.elim
  · exact h.elim

theorem aop_det {cal : Callee} (hT : TabDet tab) (hC : CalDet cal) (o : Oper) (vs : List AV) (hs : HS) : DetH (aop E tab cal o vs hs) := by
  intro K h
  unfold aop at h
  split at h
  · rename_i ht
    cases hb : isCp E o vs with
    | false =>
      rw [hb] at h
      obtain ⟨v, h1, h2⟩ := a0_det hT o vs _ h
      exact ⟨v, hs, h1, fun K' hk => by simp only [aop, ht, hb, cond_false]; exact h2 (fun v => K' v hs) hk⟩
    | true =>
      rw [hb] at h
      obtain ⟨v, h1, h2⟩ := acp_det (E := E) o vs (fun v => K v hs) h
      exact ⟨v, hs, h1, fun K' hk => by simp only [aop, ht, hb, cond_true]; exact h2 (fun v => K' v hs) hk⟩
  · rename_i ht
    cases hb : Nat.blt (blk1 vs) hs.hn with
    | false => rw [hb] at h; exact h.elim
    | true =>
      rw [hb] at h
      obtain ⟨v, h1, h2⟩ := a1_det o vs hs _ h
      exact ⟨v, hs, h1, fun K' hk => by simp only [aop, ht, hb, cond_true]; exact h2 (fun v => K' v hs) hk⟩
  · rename_i h0 h1
    obtain ⟨v, hh, h2, h3⟩ := a2_det hT hC o vs hs _ h
    refine ⟨v, hh, h2, fun K' hk => ?_⟩
    unfold aop
    split
    · rename_i hx; exact (h0 hx).elim
    · rename_i hx; exact (h1 hx).elim
    · exact h3 K' hk

end Gm

/- Operations have one answer: code, and calls in place. -/
namespace Gm
open Go

variable {E : Env} {tab : Tab} {cal : Callee} {nt : Nat}

theorem det_ofH {α : Type} {T : (AV → HS → Prop) → Prop} (h : DetH T) (g : AV → HS → α) : Det (fun K : α → Prop => T fun v h => K (g v h)) := by
  intro K hk
  obtain ⟨v, hs, h1, h2⟩ := h _ hk
  exact ⟨g v hs, h1, fun K' hk' => h2 _ hk'⟩

theorem aop1_det (hT : TabDet tab) (hC : CalDet cal) (ops : List Oper) (o : Oper) (st : St) : Det (fun K : Nat × St → Prop => aop1 E tab cal nt ops o st fun c s => K (c, s)) := by
  unfold aop1
  refine det_cond _ ?_ det_false
  cases guardOf ops o st.fr with
  | stuck => exact det_false
  | skip => exact det_ret _
  | run => exact det_ofH (aop_det hT hC o _ _) (fun v hs => (tier E tab o (valsOf o st.fr), st.put o.dst v hs))
  | test d b want =>
    cases want
    · cases b
      · exact det_ofH (aop_det hT hC o _ _) (fun v hs => (tier E tab o (valsOf o (upd st.fr d (.bool false))), ({ st with fr := upd st.fr d (.bool false) } : St).put o.dst v hs))
      · exact det_ret ((0 : Nat), ({ st with fr := upd st.fr d (.bool true) } : St).put o.dst (.tup []) st.hs)
    · cases b
      · exact det_ret ((0 : Nat), ({ st with fr := upd st.fr d (.bool false) } : St).put o.dst (.tup []) st.hs)
      · exact det_ofH (aop_det hT hC o _ _) (fun v hs => (tier E tab o (valsOf o (upd st.fr d (.bool true))), ({ st with fr := upd st.fr d (.bool true) } : St).put o.dst v hs))

theorem aseq_det (hT : TabDet tab) (hC : CalDet cal) (ops : List Oper) : ∀ (r : List Oper) (st : St), Det (aseq E tab cal nt ops r st)
  | [], st => det_ret st
  | o :: r, st => det_bind (U := fun (p : Nat × St) K => aseq E tab cal nt ops r p.2 K) (aop1_det hT hC ops o st) (fun p => aseq_det hT hC ops r p.2)

theorem adraw_det (hT : TabDet tab) (hC : CalDet cal) (ops : List Oper) : ∀ (r : List Oper) (log : List Nat) (st : St), Det (fun K : List Nat × St → Prop => adraw E tab cal nt ops r log st fun l s => K (l, s))
  | [], log, st => det_ret (log, st)
  | o :: r, log, st => det_bind (U := fun (p : Nat × St) (K : List Nat × St → Prop) => adraw E tab cal nt ops r (log ++ [p.1]) p.2 fun l s => K (l, s)) (aop1_det hT hC ops o st) (fun p => adraw_det hT hC ops r (log ++ [p.1]) p.2)

abbrev Out := St ⊕ ((Nat × St) ⊕ St)

/-- What is done behind code, by its end. -/
def outK (Kn : St → Prop) (Kx : Nat → St → Prop) (Kr : St → Prop) : Out → Prop
  | .inl s => Kn s
  | .inr (.inl (j, s)) => Kx j s
  | .inr (.inr s) => Kr s

theorem acode_det (hT : TabDet tab) (hC : CalDet cal) : ∀ (c : Code) (i : Nat) (st : St),
    Det (fun K : Out → Prop => acode E tab cal nt (fun _ => none) c i (fun s => K (.inl s)) (fun j s => K (.inr (.inl (j, s)))) (fun s => K (.inr (.inr s))) st) := by
  intro c
  induction c with
  | skip => intro i st; exact det_ret (Sum.inl st)
  | region id ops draw =>
    intro i st
    cases draw with
    | false => exact det_bind (U := fun (s : St) (K : Out → Prop) => K (.inl s)) (aseq_det hT hC _ _ st) (fun s => det_ret _)
    | true =>
      exact det_bind (U := fun (p : List Nat × St) (K : Out → Prop) => bif drawOk ops.toList p.1 then K (.inl p.2) else False) (adraw_det hT hC _ _ [] st) (fun p => det_cond _ (det_ret _) det_false)
  | seq a b iha ihb =>
    intro i st
    exact det_bind (U := fun (o : Out) (K : Out → Prop) => outK (fun s => acode E tab cal nt (fun _ => none) b i (fun s => K (.inl s)) (fun j s => K (.inr (.inl (j, s)))) (fun s => K (.inr (.inr s))) s) (fun j s => K (.inr (.inl (j, s)))) (fun s => K (.inr (.inr s))) o)
      (iha i st) (fun o => match o with
        | .inl s => ihb i s
        | .inr (.inl (j, s)) => det_ret _
        | .inr (.inr s) => det_ret _)
  | cond x a b iha ihb =>
    intro i st
    cases x with
    | tmp t =>
      unfold acode
      cases st.fr t <;> first | exact det_false | skip
      exact det_cond _ (iha i _) (ihb i _)
    | _ => exact det_false
  | block id b ihb =>
    intro i st
    exact det_bind (U := fun (o : Out) (K : Out → Prop) => outK (fun s => K (.inl s)) (fun j s => bif Nat.beq j id then K (.inl s) else K (.inr (.inl (j, s)))) (fun s => K (.inr (.inr s))) o)
      (ihb id st) (fun o => match o with
        | .inl s => det_ret _
        | .inr (.inl (j, s)) => det_cond _ (det_ret _) (det_ret _)
        | .inr (.inr s) => det_ret _)
  | loop b ihb =>
    intro i st
    have key : ∀ (n : Nat) (st : St), Det (fun K : Out → Prop => loopN n (fun rec s => acode E tab cal nt (fun _ => none) b i rec (fun j s => K (.inr (.inl (j, s)))) (fun s => K (.inr (.inr s))) s) st) := by
      intro n
      induction n with
      | zero => intro st; exact det_false
      | succ n ih =>
        intro st
        exact det_bind (U := fun (o : Out) (K : Out → Prop) => outK (fun s => loopN n (fun rec s => acode E tab cal nt (fun _ => none) b i rec (fun j s => K (.inr (.inl (j, s)))) (fun s => K (.inr (.inr s))) s) s) (fun j s => K (.inr (.inl (j, s)))) (fun s => K (.inr (.inr s))) o)
          (ihb i st) (fun o => match o with
            | .inl s => ih s
            | .inr (.inl (j, s)) => det_ret _
            | .inr (.inr s) => det_ret _)
    exact key 12 st
  | exit id => intro i st; exact det_ret (Sum.inr (Sum.inl (id, st)))
  | ret => intro i st; exact det_ret (Sum.inr (Sum.inr st))
  | _ => intro i st; exact det_false

theorem afun_det (hT : TabDet tab) : ∀ d, CalDet (afun E tab d)
  | 0 => fun _ _ _ _ h => h.elim
  | d + 1 => by
    intro f args hs K h
    unfold afun at h
    split at h
    · rename_i fn hf
      split at h
      · rename_i c hb
        cases hn : Nat.ble args.length fn.ntmps with
        | false => rw [hn] at h; exact h.elim
        | true =>
          rw [hn] at h
          obtain ⟨o, h1, h2⟩ := acode_det (E := E) (nt := fn.ntmps) hT (afun_det hT d) c 0 { fr := lget args, hs } (outK (fun _ => False) (fun _ _ => False) (afin E fn K)) h
          match o, h1, h2 with
          | .inl s, h1, _ => exact h1.elim
          | .inr (.inl (j, s)), h1, _ => exact h1.elim
          | .inr (.inr s), h1, h2 =>
            have h1 : afin E fn K s := h1
            unfold afin at h1
            split at h1
            · rename_i vs hvs
              refine ⟨tupOf vs, s.hs, h1, fun K' hk => ?_⟩
              unfold afun
              simp only [hf, hb, hn, cond_true]
              refine h2 (outK (fun _ => False) (fun _ _ => False) (afin E fn K')) ?_
              show afin E fn K' s
              unfold afin
              rw [hvs]
              exact hk
            · exact h1.elim
      · exact h.elim
    · exact h.elim

end Gm
