/- Regions whose order is open. -/
import Derived.Test.YtbhgalddlkebgaaDoorGmX
namespace Gm
open Go

section
variable {E : Env} {tab : Tab} {cal : Callee} {nt : Nat}

inductive Run (E : Env) (tab : Tab) (cal : Callee) (nt : Nat) (L : List Oper) : List Oper → St → List (Nat × AV × HS) → Prop
  | nil (st) : Run E tab cal nt L [] st []
  | cons (o r st c v h tr) : Act1 E tab cal nt L o st.fr st.hs c (fun v' h' => v' = v ∧ h' = h) → Run E tab cal nt L r (st.put o.dst v h) tr → Run E tab cal nt L (o :: r) st ((c, v, h) :: tr)

def lastSt : List Oper → St → List (Nat × AV × HS) → St
  | o :: r, st, x :: tr => lastSt r (st.put o.dst x.2.1 x.2.2) tr
  | _, st, _ => st

theorem act_det (hD : TabDet tab) (hCD : CalDet cal) {L : List Oper} {o : Oper} {fr : Nat → AV} {hs : HS} {c : Nat} {K : AV → HS → Prop} (h : Act1 E tab cal nt L o fr hs c K) :
    ∃ v h', K v h' ∧ Act1 E tab cal nt L o fr hs c (fun v' h'' => v' = v ∧ h'' = h') := by
  obtain ⟨hd, h⟩ := h
  rcases h with ⟨hg, hc, hK⟩ | ⟨hg, hc, hK⟩
  · exact ⟨_, _, hK, hd, .inl ⟨hg, hc, rfl, rfl⟩⟩
  · obtain ⟨v, h', h1, h2⟩ := aop_det hD hCD o _ hs K hK
    exact ⟨v, h', h1, hd, .inr ⟨hg, hc, h2 _ ⟨rfl, rfl⟩⟩⟩

theorem adraw_run (hD : TabDet tab) (hCD : CalDet cal) (L : List Oper) : ∀ (r : List Oper) (log : List Nat) (st : St) (K : List Nat → St → Prop), adraw E tab cal nt L r log st K →
    ∃ tr, Run E tab cal nt L r st tr ∧ K (log ++ tr.map (·.1)) (lastSt r st tr)
  | [], log, st, K, h => ⟨[], .nil st, by
    have h : K log st := h
    simpa [lastSt] using h⟩
  | o :: r, log, st, K, h => by
    obtain ⟨c, hact⟩ := aop1_act h
    obtain ⟨v, h', h1, h2⟩ := act_det hD hCD hact
    obtain ⟨tr, h3, h4⟩ := adraw_run hD hCD L r (log ++ [c]) _ K h1
    refine ⟨(c, v, h') :: tr, .cons _ _ _ _ _ _ _ h2 h3, ?_⟩
    simpa [lastSt] using h4

def cAt (tr : List (Nat × AV × HS)) (i : Nat) : Nat := ((tr[i]?).map (·.1)).getD 2
def vAt (tr : List (Nat × AV × HS)) (i : Nat) : AV := ((tr[i]?).map (·.2.1)).getD .top
def hAt (tr : List (Nat × AV × HS)) (i : Nat) : HS := ((tr[i]?).map (·.2.2)).getD hs0

def stAt (L : List Oper) (st : St) (tr : List (Nat × AV × HS)) : Nat → St
  | 0 => st
  | i + 1 => match L[i]? with
    | some o => (stAt L st tr i).put o.dst (vAt tr i) (hAt tr i)
    | none => stAt L st tr i

theorem run_length {L : List Oper} : ∀ {r : List Oper} {st : St} {tr : List (Nat × AV × HS)}, Run E tab cal nt L r st tr → tr.length = r.length
  | _, _, _, .nil _ => rfl
  | _, _, _, .cons _ _ _ _ _ _ _ _ h => by simp [run_length h]

theorem run_at {L : List Oper} {st : St} {tr : List (Nat × AV × HS)} (h : Run E tab cal nt L L st tr) : ∀ i, i ≤ L.length → Run E tab cal nt L (L.drop i) (stAt L st tr i) (tr.drop i) ∧ lastSt (L.drop i) (stAt L st tr i) (tr.drop i) = lastSt L st tr
  | 0, _ => ⟨by simpa [stAt] using h, by simp [stAt]⟩
  | i + 1, hi => by
    obtain ⟨h1, h2⟩ := run_at h i (by omega)
    have hl := run_length h
    have e1 : L.drop i = L[i] :: L.drop (i + 1) := (List.drop_eq_getElem_cons (by omega))
    have e2 : tr.drop i = tr[i] :: tr.drop (i + 1) := (List.drop_eq_getElem_cons (by omega))
    have e3 : stAt L st tr (i + 1) = (stAt L st tr i).put L[i].dst tr[i].2.1 tr[i].2.2 := by
      have : L[i]? = some L[i] := List.getElem?_eq_getElem (by omega)
      have e : tr[i]? = some tr[i] := List.getElem?_eq_getElem (by omega)
      simp [stAt, this, vAt, hAt, e]
    rw [e1, e2] at h1 h2
    rw [e3]
    generalize tr[i] = x at h1 h2 ⊢
    cases h1 with
    | cons _ _ _ c v h' _ ha hr => exact ⟨hr, h2⟩

theorem run_act {L : List Oper} {st : St} {tr : List (Nat × AV × HS)} (h : Run E tab cal nt L L st tr) {i : Nat} {o : Oper} (hi : L[i]? = some o) :
    Act1 E tab cal nt L o (stAt L st tr i).fr (stAt L st tr i).hs (cAt tr i) (fun v' h' => v' = vAt tr i ∧ h' = hAt tr i) := by
  have hlt := (List.getElem?_eq_some_iff.1 hi).1
  have hl := run_length h
  obtain ⟨h1, _⟩ := run_at h i (by omega)
  have e1 : L.drop i = o :: L.drop (i + 1) := by
    rw [List.drop_eq_getElem_cons hlt]
    rw [List.getElem?_eq_getElem hlt] at hi
    cases hi; rfl
  have e2 : tr.drop i = tr[i] :: tr.drop (i + 1) := (List.drop_eq_getElem_cons (by omega))
  rw [e1, e2] at h1
  have e : tr[i]? = some tr[i] := List.getElem?_eq_getElem (by omega)
  generalize tr[i] = x at h1 e
  cases h1 with
  | cons _ _ _ c v h' _ ha hr => simpa [cAt, vAt, hAt, e] using ha

theorem tier_le (o : Oper) (vs : List AV) : tier E tab o vs ≤ 2 := by
  unfold tier
  repeat' split
  all_goals first | omega | (rw [cond_eq_ite]; split <;> omega) | (cases nilConst _ <;> simp <;> (repeat' split) <;> omega)

/-- New blocks alone have come. -/
def Grow (h h2 : HS) : Prop := h.hn ≤ h2.hn ∧ ∀ b, b < h.hn → h2.hp b = h.hp b

theorem Grow.refl (h : HS) : Grow h h := ⟨Nat.le_refl _, fun _ _ => rfl⟩
theorem Grow.trans {a b c : HS} (h : Grow a b) (h2 : Grow b c) : Grow a c := ⟨Nat.le_trans h.1 h2.1, fun x hx => by rw [h2.2 x (by have := h.1; omega), h.2 x hx]⟩
theorem Grow.push (h : HS) (k : Blk) : Grow h (h.push k) := ⟨Nat.le_succ _, fun b hb => upd_ne _ _ (by omega)⟩

theorem a1_same {o : Oper} {vs : List AV} {hs hs2 : HS} {K : AV → Prop} (e : hs2.hp (blk1 vs) = hs.hp (blk1 vs)) (h : a1 E o vs hs K) : a1 E o vs hs2 K := by
  obtain ⟨dst, op, type, pos, after, guard⟩ := o
  unfold a1 at h
  dsimp only at h
  split at h
  · simp only [blk1] at e
    simp only [a1, e]; exact h
  · simp only [blk1] at e
    simp only [a1, e]; exact h
  · simp only [blk1] at e
    simp only [a1, e]; exact h
  · simp only [blk1] at e
    simp only [a1, e]; exact h
  · simp only [blk1] at e
    simp only [a1, e]; exact h
  · exact h.elim

/-- In another place the operation does the same, if it finds there what it looks at. -/
theorem act_congr (hD : TabDet tab) (_ : CalDet cal) {L : List Oper} {o : Oper} {fr fr' : Nat → AV} {hs hs2 h' : HS} {c : Nat} {v : AV} (h : Act1 E tab cal nt L o fr hs c (fun v' h'' => v' = v ∧ h'' = h'))
    (hf : ∀ t, t ∈ looks L o → fr' t = fr t) (hh : 1 ≤ c → Grow hs hs2 ∧ (c = 2 → hs2 = hs)) : Act1 E tab cal nt L o fr' hs2 c (fun v' h'' => v' = v ∧ h'' = if c = 2 then h' else hs2) := by
  obtain ⟨hd, h⟩ := h
  have hv : valsOf o fr' = valsOf o fr := by
    unfold valsOf
    apply List.map_congr_left
    intro x hx
    cases x with
    | tmp t =>
      refine hf t ?_
      unfold looks
      refine List.mem_append_left _ (List.mem_filterMap.2 ⟨.tmp t, hx, rfl⟩)
    | _ => rfl
  have hg : gval L o fr' = gval L o fr := by
    unfold gval
    cases hgo : o.guard with
    | none => rfl
    | some jw =>
      obtain ⟨j, want⟩ := jw
      simp only
      cases hdst : (L[j]?).bind (·.dst) with
      | none => rfl
      | some d =>
        simp only
        rw [hf d (by unfold looks; rw [hgo]; simp only [hdst]; simp)]
  refine ⟨hd, ?_⟩
  rw [hg, hv]
  rcases h with ⟨h1, rfl, rfl, _⟩ | ⟨h1, hc, h2⟩
  · exact .inl ⟨h1, rfl, rfl, by simp⟩
  · refine .inr ⟨h1, hc, ?_⟩
    have hle := tier_le (E := E) (tab := tab) o (valsOf o fr)
    unfold aop at h2 ⊢
    rw [← hc] at h2 ⊢
    split at h2
    · cases hb : isCp E o (valsOf o fr) with
      | false =>
        rw [hb] at h2
        obtain ⟨v1, ⟨rfl, _⟩, h4⟩ := a0_det hD o (valsOf o fr) _ h2
        exact h4 _ ⟨rfl, by simp⟩
      | true =>
        rw [hb] at h2
        obtain ⟨v1, ⟨rfl, _⟩, h4⟩ := acp_det (E := E) o (valsOf o fr) (fun v1 => v1 = v ∧ hs = h') h2
        rw [cond_true]
        exact h4 _ ⟨rfl, by simp⟩
    · obtain ⟨e, _⟩ := hh (by omega)
      cases hb : Nat.blt (blk1 (valsOf o fr)) hs.hn with
      | false => rw [hb] at h2; exact h2.elim
      | true =>
        rw [hb] at h2
        have hlt : blk1 (valsOf o fr) < hs.hn := by simpa [Nat.blt_eq] using hb
        have hb2 : Nat.blt (blk1 (valsOf o fr)) hs2.hn = true := by rw [Nat.blt_eq]; exact Nat.lt_of_lt_of_le hlt e.1
        rw [hb2]
        obtain ⟨v1, ⟨rfl, _⟩, h4⟩ := a1_det o (valsOf o fr) _ _ h2
        exact a1_same (e.2 _ hlt) (h4 _ ⟨rfl, by simp⟩)
    · rename_i n0 n1
      have hc2 : c = 2 := by
        have : c ≠ 0 := fun e => n0 e
        have : c ≠ 1 := fun e => n1 e
        omega
      have e := (hh (by omega)).2 hc2
      subst e
      subst hc2
      simpa using h2

theorem act_low (hD : TabDet tab) (_ : CalDet cal) {L : List Oper} {o : Oper} {fr : Nat → AV} {hs h' : HS} {c : Nat} {v : AV} (h : Act1 E tab cal nt L o fr hs c (fun v' h'' => v' = v ∧ h'' = h')) (hc : c ≠ 2) : h' = hs := by
  obtain ⟨_, h⟩ := h
  rcases h with ⟨_, _, _, h⟩ | ⟨_, hc', h2⟩
  · exact h.symm
  · have hle := tier_le (E := E) (tab := tab) o (valsOf o fr)
    unfold aop at h2
    rw [← hc'] at h2
    split at h2
    · cases hb : isCp E o (valsOf o fr) with
      | false =>
        rw [hb] at h2
        obtain ⟨v1, ⟨_, h3⟩, _⟩ := a0_det hD o (valsOf o fr) _ h2
        exact h3.symm
      | true =>
        rw [hb] at h2
        obtain ⟨v1, ⟨_, h3⟩, _⟩ := acp_det (E := E) o (valsOf o fr) (fun v1 => v1 = v ∧ hs = h') h2
        exact h3.symm
    · cases hb : Nat.blt (blk1 (valsOf o fr)) hs.hn with
      | false => rw [hb] at h2; exact h2.elim
      | true =>
        rw [hb] at h2
        obtain ⟨v1, ⟨_, h3⟩, _⟩ := a1_det o (valsOf o fr) _ _ h2
        exact h3.symm
    · rename_i n0 n1
      have : c ≠ 0 := fun e => n0 e
      have : c ≠ 1 := fun e => n1 e
      omega

theorem act_new {L : List Oper} {o : Oper} {fr : Nat → AV} {hs h' : HS} {c : Nat} {v : AV} (h : Act1 E tab cal nt L o fr hs c (fun v' h'' => v' = v ∧ h'' = h')) (hc : c = 2) (hn : isNew o = true) : Grow hs h' := by
  obtain ⟨_, h⟩ := h
  rcases h with ⟨_, h, _⟩ | ⟨_, hc', h2⟩
  · omega
  · unfold aop at h2
    rw [← hc', hc] at h2
    simp only at h2
    obtain ⟨dst, op, type, pos, after, guard⟩ := o
    cases op <;> first | (simp [isNew] at hn; done) | skip
    · generalize valsOf _ fr = vs at h2
      unfold a2 at h2
      dsimp only at h2
      split at h2
      · split at h2
        · obtain ⟨_, rfl⟩ := h2; exact Grow.push _ _
        · exact h2.elim
      · exact h2.elim
    · generalize valsOf _ fr = vs at h2
      unfold a2 at h2
      dsimp only at h2
      rcases vs with _ | ⟨x, _ | ⟨y, vs⟩⟩
      · exact h2.elim
      · simp only at h2
        split at h2
        · obtain ⟨_, rfl⟩ := h2; exact Grow.push _ _
        · exact h2.elim
      · exact h2.elim

/-- The frame behind those operations that are done. -/
def frOf (L : List Oper) (st : St) (tr : List (Nat × AV × HS)) (l : Nat → Bool) : Nat → (Nat → AV)
  | 0 => st.fr
  | k + 1 => match (L[k]?).bind (·.dst) with
    | some d => bif l k then upd (frOf L st tr l k) d (vAt tr k) else frOf L st tr l k
    | none => frOf L st tr l k
def hsOf (L : List Oper) (st : St) (tr : List (Nat × AV × HS)) (l : Nat → Bool) : Nat → HS
  | 0 => st.hs
  | k + 1 => bif l k && Nat.beq (cAt tr k) 2 then hAt tr k else hsOf L st tr l k

section
variable {L : List Oper} {st : St} {tr : List (Nat × AV × HS)} {l l' : Nat → Bool}

theorem frOf_all : ∀ k, k ≤ L.length → frOf L st tr (fun _ => true) k = (stAt L st tr k).fr
  | 0, _ => rfl
  | k + 1, hk => by
    have hi : L[k]? = some L[k] := List.getElem?_eq_getElem (by omega)
    simp only [frOf, stAt, hi, Option.bind_some, cond_true]
    cases hd : L[k].dst with
    | none => simp only [St.put]; exact frOf_all k (by omega)
    | some d => simp only [St.put]; rw [frOf_all k (by omega)]

theorem hsOf_all (hD : TabDet tab) (hCD : CalDet cal) (h : Run E tab cal nt L L st tr) : ∀ k, k ≤ L.length → hsOf L st tr (fun _ => true) k = (stAt L st tr k).hs
  | 0, _ => rfl
  | k + 1, hk => by
    have hi : L[k]? = some L[k] := List.getElem?_eq_getElem (by omega)
    have ha := run_act h hi
    simp only [hsOf, stAt, hi, Bool.true_and]
    have e : ((stAt L st tr k).put L[k].dst (vAt tr k) (hAt tr k)).hs = hAt tr k := by
      cases L[k].dst <;> rfl
    rw [e]
    cases hc : Nat.beq (cAt tr k) 2 with
    | true => rfl
    | false =>
      have hne : cAt tr k ≠ 2 := by intro e; rw [e] at hc; cases hc
      simp only [cond_false]
      rw [hsOf_all hD hCD h k (by omega), act_low hD hCD ha hne]

theorem frOf_agree (t : Nat) : ∀ j, (∀ k d, k < j → (L[k]?).bind (·.dst) = some d → d = t → l k = l' k) → frOf L st tr l j t = frOf L st tr l' j t
  | 0, _ => rfl
  | j + 1, h => by
    have ih := frOf_agree t j (fun k d hk => h k d (by omega))
    simp only [frOf]
    cases hd : (L[j]?).bind (·.dst) with
    | none => exact ih
    | some d =>
      simp only
      by_cases e : d = t
      · have := h j d (by omega) hd e
        rw [this]
        cases l' j
        · exact ih
        · simp only [cond_true]; subst e; rw [upd_self, upd_self]
      · have hne : t ≠ d := fun x => e x.symm
        cases l j <;> cases l' j <;> simp only [cond_true, cond_false] <;> (try rw [upd_ne _ _ hne]) <;> (try rw [upd_ne _ _ hne]) <;> exact ih

theorem frOf_stop (t : Nat) (j : Nat) : ∀ m, j ≤ m → (∀ k d, j ≤ k → k < m → (L[k]?).bind (·.dst) = some d → d = t → l k = false) → frOf L st tr l m t = frOf L st tr l j t
  | 0, hj, _ => by have : j = 0 := by omega
                   subst this; rfl
  | m + 1, hj, h => by
    by_cases e : j = m + 1
    · subst e; rfl
    · have ih := frOf_stop t j m (by omega) (fun k d h1 h2 => h k d h1 (by omega))
      simp only [frOf]
      cases hd : (L[m]?).bind (·.dst) with
      | none => exact ih
      | some d =>
        simp only
        by_cases e2 : d = t
        · rw [h m d (by omega) (by omega) hd e2]; exact ih
        · have hne : t ≠ d := fun x => e2 x.symm
          cases l m
          · exact ih
          · simp only [cond_true]; rw [upd_ne _ _ hne]; exact ih

theorem hsOf_agree : ∀ j, (∀ k, k < j → cAt tr k = 2 → l k = l' k) → hsOf L st tr l j = hsOf L st tr l' j
  | 0, _ => rfl
  | j + 1, h => by
    have ih := hsOf_agree j (fun k hk => h k (by omega))
    simp only [hsOf]
    cases hc : Nat.beq (cAt tr j) 2 with
    | false => simp only [Bool.and_false, cond_false]; exact ih
    | true =>
      rw [h j (by omega) (Nat.eq_of_beq_eq_true hc), ih]

theorem hsOf_stop (j : Nat) : ∀ m, j ≤ m → (∀ k, j ≤ k → k < m → cAt tr k = 2 → l k = false) → hsOf L st tr l m = hsOf L st tr l j
  | 0, hj, _ => by have : j = 0 := by omega
                   subst this; rfl
  | m + 1, hj, h => by
    by_cases e : j = m + 1
    · subst e; rfl
    · have ih := hsOf_stop j m (by omega) (fun k h1 h2 => h k h1 (by omega))
      simp only [hsOf]
      cases hc : Nat.beq (cAt tr m) 2 with
      | false => simp only [Bool.and_false, cond_false]; exact ih
      | true => rw [h m (by omega) (by omega) (Nat.eq_of_beq_eq_true hc)]; exact ih

end

end
end Gm
