/- A region in any order. -/
import Derived.Test.YtbhgalddlkebgaaDoorGmY
import Derived.Orders
namespace Gm
open Go

/-- What is done is closed under the edges. -/
def Shut (L : List Oper) (l : Nat → Bool) : Prop := ∀ j o, L[j]? = some o → l j = true → ∀ e ∈ o.after, Region.binds .any e = true → l e.on = true

theorem befMask_bit (acc : List Nat) (o : Oper) (i : Nat) (h : (befMask acc o).testBit i = true) : ∃ e, e ∈ o.after ∧ Region.binds .any e = true ∧ (i = e.on ∨ (acc.getD e.on 0).testBit i = true) := by
  unfold befMask at h
  have key : ∀ (es : List Edge) (s : Nat), (es.foldl (fun s e => bif Region.binds .any e then s ||| (1 <<< e.on) ||| acc.getD e.on 0 else s) s).testBit i = true →
      s.testBit i = true ∨ ∃ e, e ∈ es ∧ Region.binds .any e = true ∧ (i = e.on ∨ (acc.getD e.on 0).testBit i = true) := by
    intro es
    induction es with
    | nil => intro s h; exact .inl h
    | cons e r ih =>
      intro s h
      rw [List.foldl_cons] at h
      rcases ih _ h with h1 | ⟨e', h1, h2⟩
      · cases hb : Region.binds .any e with
        | false => rw [hb] at h1; exact .inl h1
        | true =>
          rw [hb] at h1
          simp only [cond_true, Nat.testBit_or, Bool.or_eq_true] at h1
          rcases h1 with (h1 | h1) | h1
          · exact .inl h1
          · refine .inr ⟨e, by simp, hb, .inl ?_⟩
            rw [Nat.one_shiftLeft, Nat.testBit_two_pow] at h1
            exact (of_decide_eq_true h1).symm
          · exact .inr ⟨e, by simp, hb, .inr h1⟩
      · exact .inr ⟨e', by simp [h1], h2⟩
  rcases key _ _ h with h1 | ⟨e, h1, h2⟩
  · simp at h1
  · exact ⟨e, by simpa using h1, h2⟩

theorem befores_shut {L : List Oper} {l : Nat → Bool} (hl : Shut L l) {j i : Nat} (h : ((befores L).getD j 0).testBit i = true) (hj : l j = true) : l i = true := by
  have key : ∀ (r : List Oper) (acc : List Nat), L.drop acc.length = r → (∀ j i, (acc.getD j 0).testBit i = true → l j = true → l i = true) →
      ∀ j i, ((r.foldl (fun acc o => acc ++ [befMask acc o]) acc).getD j 0).testBit i = true → l j = true → l i = true := by
    intro r
    induction r with
    | nil => intro acc _ h; exact h
    | cons o r ih =>
      intro acc hr hacc
      rw [List.foldl_cons]
      have ho : L[acc.length]? = some o := by
        have : (L.drop acc.length)[0]? = some o := by rw [hr]; rfl
        rw [List.getElem?_drop] at this
        simpa using this
      refine ih (acc ++ [befMask acc o]) ?_ ?_
      · rw [List.length_append, List.length_singleton, ← List.drop_drop, hr]; rfl
      · intro j i hb hj
        rcases Nat.lt_trichotomy j acc.length with h1 | h1 | h1
        · refine hacc j i ?_ hj
          rw [List.getD_eq_getElem?_getD] at hb ⊢
          rw [List.getElem?_append_left h1] at hb
          exact hb
        · subst h1
          rw [List.getD_eq_getElem?_getD, List.getElem?_append_right (Nat.le_refl _)] at hb
          simp at hb
          obtain ⟨e, h1, h2, h3⟩ := befMask_bit acc o i hb
          have h4 := hl _ o ho hj e h1 h2
          rcases h3 with rfl | h3
          · exact h4
          · exact hacc _ _ h3 h4
        · rw [List.getD_eq_getElem?_getD, List.getElem?_eq_none (by simp; omega)] at hb
          simp at hb
  exact key L [] (by simp) (by intro j i h; simp at h) j i h hj

theorem memB_iff (n : Nat) : ∀ l : List Nat, memB n l = true ↔ n ∈ l
  | [] => by simp [memB]
  | a :: r => by
    rw [memB, Bool.or_eq_true, memB_iff n r, List.mem_cons]
    constructor
    · rintro (h | h)
      · exact .inl (Nat.eq_of_beq_eq_true h)
      · exact .inr h
    · rintro (h | h)
      · exact .inl (by subst h; exact Nat.beq_refl n)
      · exact .inr h

section
variable {E : Env} {w0 : World} {A : Ow} {tab : Tab} {cal : Callee} {nt : Nat} {L : List Oper} {st : St} {tr : List (Nat × AV × HS)}

theorem cAt_eq (tr : List (Nat × AV × HS)) (i : Nat) : (tr.map (·.1)).getD i 2 = cAt tr i := by
  rw [List.getD_eq_getElem?_getD, List.getElem?_map]; rfl

theorem draw_back (h : drawOk L (tr.map (·.1)) = true) {j : Nat} {o : Oper} (hj : L[j]? = some o) : ∀ e ∈ o.after, Region.binds .any e = true → e.on < j := by
  unfold drawOk at h
  rw [Bool.and_eq_true] at h
  have h1 := List.all_eq_true.1 h.1 j (List.mem_range.2 (List.getElem?_eq_some_iff.1 hj).1)
  rw [hj] at h1
  intro e he hb
  have h2 := List.all_eq_true.1 h1 e (by simpa using he)
  rw [hb] at h2
  simpa [Nat.blt_eq] using h2

theorem draw_conf (h : drawOk L (tr.map (·.1)) = true) {i j : Nat} {a b : Oper} (hij : i < j) (hi : L[i]? = some a) (hj : L[j]? = some b) (hc : conf L a b (cAt tr i) (cAt tr j) = true) :
    ((befores L).getD j 0).testBit i = true := by
  unfold drawOk at h
  rw [Bool.and_eq_true] at h
  have h1 := List.all_eq_true.1 h.2 j (List.mem_range.2 (List.getElem?_eq_some_iff.1 hj).1)
  have h2 := List.all_eq_true.1 h1 i (List.mem_range.2 hij)
  rw [hi, hj] at h2
  simp only [cAt_eq, hc, Bool.not_true, Bool.false_or] at h2
  exact h2

variable {l : Nat → Bool}

/-- Who must come before, has come. -/
theorem ord_before (h : drawOk L (tr.map (·.1)) = true) (hs : Shut L l) {i j : Nat} {a b : Oper} (hij : i < j) (hi : L[i]? = some a) (hj : L[j]? = some b)
    (hc : conf L a b (cAt tr i) (cAt tr j) = true) (hl : l j = true) : l i = true := befores_shut hs (draw_conf h hij hi hj hc) hl

theorem shut_set (hs : Shut L l) {i : Nat} {o : Oper} (hi : L[i]? = some o) (hr : ∀ e ∈ o.after, Region.binds .any e = true → l e.on = true) : Shut L (fun k => l k || Nat.beq k i) := by
  intro j oj hj hl e he hb
  show (l e.on || Nat.beq e.on i) = true
  rw [Bool.or_eq_true] at hl ⊢
  rcases hl with hl | hl
  · exact .inl (hs j oj hj hl e he hb)
  · have := Nat.eq_of_beq_eq_true hl
    subst this
    rw [hi] at hj
    cases hj
    exact .inl (hr e he hb)

theorem conf_heap {a b : Oper} {ca cb : Nat} (h : 3 ≤ ca + cb) (hn : ca = 1 → isNew b = false) : conf L a b ca cb = true := by
  unfold conf
  have : Nat.ble 3 (ca + cb) = true := by rw [Nat.ble_eq]; exact h
  rw [this]
  cases hb : Nat.beq ca 1 with
  | false => rfl
  | true => rw [hn (Nat.eq_of_beq_eq_true hb)]; rfl

theorem conf_rw {a b : Oper} {ca cb d : Nat} (hd : a.dst = some d) (h : d ∈ looks L b) : conf L a b ca cb = true := by
  unfold conf
  rw [hd]
  simp only [(memB_iff d _).2 h, Bool.true_or, Bool.or_true]

theorem conf_ww {a b : Oper} {ca cb d : Nat} (hd : a.dst = some d) (h : b.dst = some d) : conf L a b ca cb = true := by
  unfold conf
  rw [hd, h]
  simp only [Nat.beq_refl, Bool.or_true, Bool.true_or]

theorem conf_wr {a b : Oper} {ca cb d : Nat} (hd : b.dst = some d) (h : d ∈ looks L a) : conf L a b ca cb = true := by
  unfold conf
  rw [hd]
  simp only [(memB_iff d _).2 h, Bool.or_true]

theorem draw_step (hD : TabDet tab) (hCD : CalDet cal) (hrun : Run E tab cal nt L L st tr) (hok : drawOk L (tr.map (·.1)) = true) (hs : Shut L l) {i : Nat} {o : Oper} (hi : L[i]? = some o)
    (hr : ∀ e ∈ o.after, Region.binds .any e = true → l e.on = true) (hun : l i = false) :
    Act1 E tab cal nt L o (frOf L st tr l L.length) (hsOf L st tr l L.length) (cAt tr i) (fun v h => (⟨frOf L st tr l L.length, hsOf L st tr l L.length⟩ : St).put o.dst v h =
      ⟨frOf L st tr (fun k => l k || Nat.beq k i) L.length, hsOf L st tr (fun k => l k || Nat.beq k i) L.length⟩) := by
  have hlt := (List.getElem?_eq_some_iff.1 hi).1
  have hs' := shut_set hs hi hr
  have hli : (fun k => l k || Nat.beq k i) i = true := by show (l i || Nat.beq i i) = true; rw [Nat.beq_refl, Bool.or_true]
  have dstAt : ∀ (k d : Nat), (L[k]?).bind (fun x : Oper => x.dst) = some d → ∃ a : Oper, L[k]? = some a ∧ a.dst = some d := by
    intro k d h
    cases hk : L[k]? with
    | none => rw [hk] at h; cases h
    | some a => rw [hk] at h; exact ⟨a, rfl, h⟩
  have beq_ne : ∀ k, k ≠ i → Nat.beq k i = false := fun k hk => by
    cases hb : Nat.beq k i with
    | false => rfl
    | true => exact absurd (Nat.eq_of_beq_eq_true hb) hk
  -- what it looks at
  have look : ∀ t, t ∈ looks L o → frOf L st tr l L.length t = (stAt L st tr i).fr t := by
    intro t ht
    rw [frOf_stop t i L.length (by omega), ← frOf_all i (by omega)]
    · refine frOf_agree t i ?_
      intro k d hk hd hdt
      obtain ⟨a, ha, had⟩ := dstAt k d hd
      subst hdt
      have := ord_before hok hs' hk ha hi (conf_rw had ht) hli
      simp only [beq_ne k (by omega), Bool.or_false] at this
      exact this
    · intro k d hk hk2 hd hdt
      obtain ⟨a, ha, had⟩ := dstAt k d hd
      subst hdt
      by_cases e : k = i
      · subst e; exact hun
      · cases hlk : l k with
        | false => rfl
        | true =>
          have := ord_before hok hs (by omega : i < k) hi ha (conf_wr had ht) hlk
          rw [hun] at this; cases this
  have low : 1 ≤ cAt tr i → hsOf L st tr l i = (stAt L st tr i).hs := by
    intro hc
    rw [← hsOf_all hD hCD hrun i (by omega)]
    refine hsOf_agree i ?_
    intro k hk hc2
    have ha : L[k]? = some L[k] := List.getElem?_eq_getElem (by omega)
    have := ord_before hok hs' hk ha hi (conf_heap (by omega) (by omega)) hli
    simp only [beq_ne k (by omega), Bool.or_false] at this
    exact this
  have heap2 : cAt tr i = 2 → hsOf L st tr l L.length = (stAt L st tr i).hs := by
    intro hc
    rw [hsOf_stop i L.length (by omega), low (by omega)]
    intro k hk hk2 hc2
    by_cases e : k = i
    · subst e; exact hun
    · have ha : L[k]? = some L[k] := List.getElem?_eq_getElem (by omega)
      cases hlk : l k with
      | false => rfl
      | true =>
        have := ord_before hok hs (by omega : i < k) hi ha (conf_heap (by omega) (by omega)) hlk
        rw [hun] at this; cases this
  -- what has come since is new
  have news : cAt tr i = 1 → ∀ k, i ≤ k → k < L.length → cAt tr k = 2 → l k = true → ∀ a, L[k]? = some a → isNew a = true := by
    intro hc k hk hk2 hc2 hlk a ha
    cases hn : isNew a with
    | true => rfl
    | false =>
      have hki : k ≠ i := fun e => by subst e; omega
      have := ord_before hok hs (by omega : i < k) hi ha (conf_heap (by omega) (fun _ => hn)) hlk
      rw [hun] at this; cases this
  have grow : cAt tr i = 1 → ∀ k, i ≤ k → k < L.length → cAt tr k = 2 → l k = true → ∀ m, i ≤ m → m ≤ k → Grow (stAt L st tr i).hs (stAt L st tr m).hs := by
    intro hc k hk hk2 hc2 hlk m
    induction m with
    | zero => intro h1 _; have : i = 0 := by omega
              subst this; exact Grow.refl _
    | succ m ih =>
      intro h1 h2
      by_cases e : i = m + 1
      · subst e; exact Grow.refl _
      · have ih := ih (by omega) (by omega)
        have hm : L[m]? = some L[m] := List.getElem?_eq_getElem (by omega)
        have ha := run_act hrun hm
        have e3 : (stAt L st tr (m + 1)).hs = hAt tr m := by
          simp only [stAt, hm]
          cases L[m].dst <;> rfl
        rw [e3]
        by_cases h4 : cAt tr m = 2
        · have hmk : l m = true := by
            have hka : L[k]? = some L[k] := List.getElem?_eq_getElem hk2
            exact ord_before hok hs (by omega : m < k) hm hka (conf_heap (by omega) (by omega)) hlk
          exact ih.trans (act_new ha h4 (news hc m (by omega) (by omega) h4 hmk _ hm))
        · rw [act_low hD hCD ha h4]; exact ih
  have heap1 : cAt tr i = 1 → Grow (stAt L st tr i).hs (hsOf L st tr l L.length) := by
    intro hc
    have key : ∀ m, i ≤ m → m ≤ L.length → Grow (stAt L st tr i).hs (hsOf L st tr l m) := by
      intro m
      induction m with
      | zero => intro h1 _; have : i = 0 := by omega
                subst this; rw [low (by omega)]; exact Grow.refl _
      | succ m ih =>
        intro h1 h2
        by_cases e : i = m + 1
        · subst e; rw [low (by omega)]; exact Grow.refl _
        · have ih := ih (by omega) (by omega)
          have hm : L[m]? = some L[m] := List.getElem?_eq_getElem (by omega)
          simp only [hsOf]
          cases hx : (l m && Nat.beq (cAt tr m) 2) with
          | false => exact ih
          | true =>
            rw [Bool.and_eq_true] at hx
            have h4 := Nat.eq_of_beq_eq_true hx.2
            exact (grow hc m (by omega) (by omega) h4 hx.1 m (by omega) (Nat.le_refl _)).trans (act_new (run_act hrun hm) h4 (news hc m (by omega) (by omega) h4 hx.1 _ hm))
    exact key L.length (by omega) (Nat.le_refl _)
  have cle : cAt tr i ≤ 2 := by
    have := (run_act hrun hi).2
    rcases this with ⟨_, h, _⟩ | ⟨_, h, _⟩
    · omega
    · rw [h]; exact tier_le _ _
  have heap : 1 ≤ cAt tr i → Grow (stAt L st tr i).hs (hsOf L st tr l L.length) ∧ (cAt tr i = 2 → hsOf L st tr l L.length = (stAt L st tr i).hs) := by
    intro hc
    refine ⟨?_, heap2⟩
    by_cases e : cAt tr i = 2
    · rw [heap2 e]; exact Grow.refl _
    · exact heap1 (by omega)
  have hact := act_congr hD hCD (run_act hrun hi) look heap
  obtain ⟨hd, hact⟩ := hact
  have fin : ∀ v h, (v = vAt tr i ∧ h = if cAt tr i = 2 then hAt tr i else hsOf L st tr l L.length) → (⟨frOf L st tr l L.length, hsOf L st tr l L.length⟩ : St).put o.dst v h =
      ⟨frOf L st tr (fun k => l k || Nat.beq k i) L.length, hsOf L st tr (fun k => l k || Nat.beq k i) L.length⟩ := by
    rintro v h ⟨rfl, rfl⟩
    have e1 : hsOf L st tr (fun k => l k || Nat.beq k i) L.length = if cAt tr i = 2 then hAt tr i else hsOf L st tr l L.length := by
      split
      · rename_i hc
        rw [hsOf_stop (i + 1) L.length (by omega)]
        · show (bif (l i || Nat.beq i i) && Nat.beq (cAt tr i) 2 then hAt tr i else _) = _
          rw [hc, Nat.beq_refl, Bool.or_true]; rfl
        · intro k hk hk2 hc2
          show (l k || Nat.beq k i) = false
          rw [beq_ne k (by omega), Bool.or_false]
          have ha : L[k]? = some L[k] := List.getElem?_eq_getElem (by omega)
          cases hlk : l k with
          | false => rfl
          | true =>
            have := ord_before hok hs (by omega : i < k) hi ha (conf_heap (by omega) (by omega)) hlk
            rw [hun] at this; cases this
      · rename_i hc
        refine hsOf_agree L.length ?_
        intro k hk hc2
        show (l k || Nat.beq k i) = l k
        rw [beq_ne k (fun e => by subst e; exact hc hc2), Bool.or_false]
    have e2 : frOf L st tr (fun k => l k || Nat.beq k i) L.length = match o.dst with | some d => upd (frOf L st tr l L.length) d (vAt tr i) | none => frOf L st tr l L.length := by
      funext t
      cases hod : o.dst with
      | none =>
        refine frOf_agree t L.length ?_
        intro k d hk hd hdt
        show (l k || Nat.beq k i) = l k
        rw [beq_ne k (fun e => by subst e; rw [hi] at hd; simp [hod] at hd), Bool.or_false]
      | some d0 =>
        simp only
        by_cases e : t = d0
        · subst e
          rw [upd_self, frOf_stop t (i + 1) L.length (by omega)]
          · have hb : (L[i]?).bind (·.dst) = some t := by rw [hi]; exact hod
            show (match (L[i]?).bind (·.dst) with | some d => bif (l i || Nat.beq i i) then upd (frOf L st tr (fun k => l k || Nat.beq k i) i) d (vAt tr i) else _ | none => _) t = _
            rw [hb]
            simp only [Nat.beq_refl, Bool.or_true, cond_true]
            rw [upd_self]
          · intro k d hk hk2 hd hdt
            show (l k || Nat.beq k i) = false
            rw [beq_ne k (by omega), Bool.or_false]
            obtain ⟨a, ha, had⟩ := dstAt k d hd
            subst hdt
            cases hlk : l k with
            | false => rfl
            | true =>
              have := ord_before hok hs (by omega : i < k) hi ha (conf_ww hod had) hlk
              rw [hun] at this; cases this
        · rw [upd_ne _ _ e]
          refine frOf_agree t L.length ?_
          intro k d hk hd hdt
          show (l k || Nat.beq k i) = l k
          rw [beq_ne k (fun x => by subst x; rw [hi] at hd; simp [hod] at hd; exact e (hd.symm ▸ hdt.symm)), Bool.or_false]
    rw [e1, e2]
    cases o.dst <;> rfl
  refine ⟨hd, ?_⟩
  rcases hact with ⟨h1, h2, h3⟩ | ⟨h1, h2, h3⟩
  · exact .inl ⟨h1, h2, fin _ _ h3⟩
  · obtain ⟨v, h', h4, h5⟩ := aop_det hD hCD o _ _ _ h3
    exact .inr ⟨h1, h2, h5 _ (fin _ _ h4)⟩

end
end Gm
