/- A region in any order: the machine's side. -/
import Derived.Test.YtfjhdboapcckpaaGreatDoorGmZ
import Derived.Tactics
namespace Gm
open Go
section
variable {E : Env} {w0 : World} {A : Ow} {tab : Tab} {cal : Callee} {nt : Nat} {st : St} {tr : List (Nat × AV × HS)} {opsA : Array Oper} {lt : Nat → Option LSpec} {i0 : Nat} {Kx : Nat → St → Prop} {Kr : St → Prop}
theorem hsOf_ge {rs : Option Nat} {L : List Oper} {l : Nat → Bool} (hrun : Run E tab cal nt rs L 0 L st tr) : ∀ m, m ≤ L.length → st.hs.hn ≤ (hsOf L st tr l m).hn := by
  have mono0 : ∀ m, m ≤ L.length → st.hs.hn ≤ (stAt L st tr m).hs.hn := by
    intro m
    induction m with
    | zero => intro _; exact Nat.le_refl _
    | succ m ih =>
      intro h2
      have h1 := ih (by omega)
      have h3 := run_hn hrun (i := m) (by omega)
      rw [stAt_hs (by omega)]
      omega
  intro m
  induction m with
  | zero => intro _; exact Nat.le_refl _
  | succ m ih =>
    intro hm
    simp only [hsOf]
    cases hb : (l m && Nat.beq (cAt tr m % 3) 2) with
    | false => exact ih (by omega)
    | true =>
      have := mono0 (m + 1) hm
      rw [stAt_hs (by omega)] at this
      exact this
theorem lastSt_eq {rs : Option Nat} {L : List Oper} (hrun : Run E tab cal nt rs L 0 L st tr) : lastSt L st tr = stAt L st tr L.length := by
  obtain ⟨_, h⟩ := run_at hrun L.length (Nat.le_refl _)
  rw [← h]
  simp [lastSt]
def lf (listed : Array Bool) (k : Nat) : Bool := listed.getD k false
theorem ready_some {listed : Array Bool} (hsz : listed.size = opsA.size) (hb : ∀ (j : Nat) o, opsA[j]? = some o → ∀ e ∈ o.after, Region.binds .any e = true → e.on < j)
    (hr : Region.ready .any opsA listed = []) : ∀ k, k < opsA.size → lf listed k = true := by
  intro k
  induction k using Nat.strongRecOn with
  | _ k ih =>
    intro hk
    cases hl : lf listed k with
    | true => rfl
    | false =>
      have ho : opsA[k]? = some opsA[k] := Array.getElem?_eq_getElem hk
      have : k ∈ Region.ready .any opsA listed := by
        rw [mem_ready]
        refine ⟨?_, _, ho, fun e he hbd => ih e.on (hb k _ ho e he hbd) (Nat.lt_trans (hb k _ ho e he hbd) hk)⟩
        unfold lf at hl
        rw [Array.getD_eq_getD_getElem?] at hl ⊢
        rw [Array.getElem?_eq_getElem (by omega)] at hl ⊢
        exact hl
      rw [hr] at this
      cases this
structure ResOk (E : Env) (S0 : Sit) (rs : Option Nat) (L : List Oper) (hs : HS) : Prop where
  lo : ∀ (i : Nat) o b, L[i]? = some o → nmOf rs L i o = some b → S0.N ≤ b ∧ b < hs.hn
  hp : ∀ (i : Nat) o b t z, L[i]? = some o → nmOf rs L i o = some b → o.op = .alloc t → zeroC E t = some z → hs.hp b = .cells z.cells
  inj : ∀ (i j : Nat) o o' b, L[i]? = some o → L[j]? = some o' → nmOf rs L i o = some b → nmOf rs L j o' = some b → i = j
theorem resOk_none (E : Env) (S0 : Sit) (L : List Oper) (hs : HS) : ResOk E S0 none L hs :=
  ⟨fun _ _ _ _ h => (by cases h), fun _ _ _ _ _ _ h => (by cases h), fun _ _ _ _ _ _ _ h => (by cases h)⟩
theorem alCount_lt : ∀ {L : List Oper} {i j : Nat} {o : Oper}, L[i]? = some o → isAl o = true → i < j → alCount L i < alCount L j
  | [], i, j, o, h, _, _ => by simp at h
  | a :: r, 0, j + 1, o, h, ha, _ => by
    have : a = o := by simpa using h
    subst this
    simp only [alCount, ha, cond_true]; omega
  | a :: r, i + 1, j + 1, o, h, ha, hij => by
    have := alCount_lt (L := r) (i := i) (j := j) (by simpa using h) ha (by omega)
    simp only [alCount]
    cases isAl a <;> simp only [cond_true, cond_false] <;> omega
  | a :: r, i, 0, o, _, _, hij => by omega
theorem resvH_ok {E : Env} : ∀ (L : List Oper) (hs : HS), hs.hn ≤ (resvH E L hs).hn ∧ (∀ b, b < hs.hn → (resvH E L hs).hp b = hs.hp b) ∧
    (∀ (i : Nat) o, L[i]? = some o → isAl o = true → hs.hn + alCount L i < (resvH E L hs).hn) ∧
    (∀ (i : Nat) o t z, L[i]? = some o → o.op = .alloc t → zeroC E t = some z → (resvH E L hs).hp (hs.hn + alCount L i) = .cells z.cells) ∧
    ((∀ b, hs.hn ≤ b → hs.hp b = .dead) → (∀ b, (resvH E L hs).hn ≤ b → (resvH E L hs).hp b = .dead) ∧ (∀ b, hs.hn ≤ b → (resvH E L hs).hp b = .dead ∨ ∃ cs, (resvH E L hs).hp b = .cells cs))
  | [], hs => ⟨Nat.le_refl _, fun _ _ => rfl, fun i o h => by simp at h, fun i o t z h => by simp at h, fun h => ⟨h, fun b hb => .inl (h b hb)⟩⟩
  | o :: r, hs => by
    cases ha : isAl o with
    | false =>
      have e : resvH E (o :: r) hs = resvH E r hs := by
        rw [resvH]
        unfold isAl at ha
        split
        · rename_i t ht; rw [ht] at ha; cases ha
        · rfl
      rw [e]
      obtain ⟨h1, h2, h3, h4, h5⟩ := resvH_ok (E := E) r hs
      have ec : ∀ i, alCount (o :: r) (i + 1) = alCount r i := fun i => by simp only [alCount, ha, cond_false]
      refine ⟨h1, h2, ?_, ?_, h5⟩
      · intro i o' hi hal
        cases i with
        | zero => have : o = o' := by simpa using hi
                  subst this; rw [ha] at hal; cases hal
        | succ i => rw [ec]; exact h3 i o' (by simpa using hi) hal
      · intro i o' t z hi ht hz
        cases i with
        | zero => have : o = o' := by simpa using hi
                  subst this
                  unfold isAl at ha; rw [ht] at ha; cases ha
        | succ i => rw [ec]; exact h4 i o' t z (by simpa using hi) ht hz
    | true =>
      obtain ⟨t0, ht0⟩ : ∃ t, o.op = .alloc t := by
        unfold isAl at ha
        split at ha
        · rename_i t ht; exact ⟨t, ht⟩
        · cases ha
      have e : ∃ k, resvH E (o :: r) hs = resvH E r (hs.push k) ∧ (k = .dead ∨ ∃ cs, k = .cells cs) ∧ ∀ z, zeroC E t0 = some z → k = .cells z.cells := by
        rw [resvH, ht0]
        simp only
        cases hz : zeroC E t0 with
        | none => exact ⟨.dead, rfl, .inl rfl, fun z h => by cases h⟩
        | some z => exact ⟨.cells z.cells, rfl, .inr ⟨_, rfl⟩, fun z' h => by cases h; rfl⟩
      obtain ⟨k, e, hk1, hk2⟩ := e
      rw [e]
      obtain ⟨h1, h2, h3, h4, h5⟩ := resvH_ok (E := E) r (hs.push k)
      have en : (hs.push k).hn = hs.hn + 1 := rfl
      have ec : ∀ i, alCount (o :: r) (i + 1) = alCount r i + 1 := fun i => by simp only [alCount, ha, cond_true]
      have e0 : (hs.push k).hp hs.hn = k := upd_self _ _ _
      refine ⟨by omega, ?_, ?_, ?_, ?_⟩
      · intro b hb
        rw [h2 b (by omega)]
        exact upd_ne _ _ (by omega)
      · intro i o' hi hal
        cases i with
        | zero => show hs.hn + 0 < _; omega
        | succ i =>
          have := h3 i o' (by simpa using hi) hal
          rw [ec]; omega
      · intro i o' t z hi ht hz
        cases i with
        | zero =>
          have : o = o' := by simpa using hi
          subst this
          rw [ht0] at ht
          cases ht
          show (resvH E r (hs.push k)).hp (hs.hn + 0) = _
          rw [Nat.add_zero, h2 _ (by omega), e0, hk2 z hz]
        | succ i =>
          have := h4 i o' t z (by simpa using hi) ht hz
          rw [ec]
          rw [en] at this
          rw [show hs.hn + (alCount r i + 1) = hs.hn + 1 + alCount r i by omega]
          exact this
      · intro hd
        obtain ⟨h6, h7⟩ := h5 (fun b hb => by
          show upd hs.hp hs.hn k b = .dead
          rw [upd_ne _ _ (by omega)]
          exact hd b (by omega))
        refine ⟨h6, ?_⟩
        intro b hb
        by_cases hbe : b = hs.hn
        · subst hbe
          rw [h2 _ (by omega), e0]
          exact hk1
        · exact h7 b (by omega)
theorem resOk_some {E : Env} {S0 : Sit} {L : List Oper} {hs : HS} (hN : S0.N = hs.hn) : ResOk E S0 (some hs.hn) L (resvH E L hs) := by
  obtain ⟨h1, h2, h3, h4, _⟩ := resvH_ok (E := E) L hs
  have key : ∀ (i : Nat) o b, nmOf (some hs.hn) L i o = some b → isAl o = true ∧ b = hs.hn + alCount L i := by
    intro i o b h
    unfold nmOf at h
    simp only at h
    cases ha : isAl o with
    | false => rw [ha] at h; cases h
    | true => rw [ha] at h; cases h; exact ⟨rfl, rfl⟩
  refine ⟨?_, ?_, ?_⟩
  · intro i o b hi hn
    obtain ⟨ha, rfl⟩ := key i o b hn
    exact ⟨by omega, h3 i o hi ha⟩
  · intro i o b t z hi hn ht hz
    obtain ⟨ha, rfl⟩ := key i o b hn
    exact h4 i o t z hi ht hz
  · intro i j o o' b hi hj hn hn'
    obtain ⟨ha, e1⟩ := key i o b hn
    obtain ⟨ha', e2⟩ := key j o' b hn'
    rcases Nat.lt_trichotomy i j with h | h | h
    · have := alCount_lt hi ha h; omega
    · exact h
    · have := alCount_lt hj ha' h; omega
def Sit.keepFree (S : Sit) (n : Nat) : Sit := { S with G := fun b => bif Nat.blt b S.N then S.G b else resv, N := n }
theorem keepFree_lt (S : Sit) (n : Nat) {b : Nat} (h : b < S.N) : (S.keepFree n).G b = S.G b := by
  have : Nat.blt b S.N = true := by rw [Nat.blt_eq]; exact h
  show (bif Nat.blt b S.N then S.G b else resv) = _
  rw [this]; rfl
theorem keepFree_ge (S : Sit) (n : Nat) {b : Nat} (h : S.N ≤ b) : (S.keepFree n).G b = resv := by
  have : Nat.blt b S.N = false := by rw [Bool.eq_false_iff]; simp [Nat.blt_eq]; exact h
  show (bif Nat.blt b S.N then S.G b else resv) = _
  rw [this]; rfl
theorem Le.keepFree (S : Sit) {n : Nat} (h : S.N ≤ n) : Le S (S.keepFree n) := ⟨fun _ _ h => h, fun _ _ _ _ h => h, fun _ hb => keepFree_lt S n hb, h⟩
theorem RH.keepFree {E : Env} {S : Sit} {hs : HS} {L : List Oper} (r : RH w0 A S hs) : RH w0 A (S.keepFree (resvH E L hs).hn) (resvH E L hs) := by
  obtain ⟨h1, h2, _, _, h5⟩ := resvH_ok (E := E) L hs
  obtain ⟨h6, h7⟩ := h5 r.dead
  have hN := r.N
  have old : ∀ b B, (resvH E L hs).hp b ≠ .dead → ((S.keepFree (resvH E L hs).hn).G b).blk = some B → b < S.N ∧ hs.hp b ≠ .dead ∧ (S.G b).blk = some B := by
    intro b B hb hB
    by_cases e : b < S.N
    · rw [keepFree_lt S _ e] at hB
      rw [h2 b (by omega)] at hb
      exact ⟨e, hb, hB⟩
    · rw [keepFree_ge S _ (by omega)] at hB; cases hB
  refine ⟨rfl, h6, ?_, ?_, r.F, r.os, r.tape, r.output, r.size, r.old, ?_, r.fo⟩
  · intro b
    by_cases e : b < S.N
    · rw [h2 b (by omega)]
      exact RB.keep (Le.keepFree S (by omega)) (keepFree_lt S _ e) (fun _ _ _ => rfl) (fun _ _ _ _ h => h) (r.blks b)
    · rcases h7 b (by omega) with h | ⟨cs, h⟩
      · rw [h]; trivial
      · rw [h]; exact .inl (keepFree_ge S _ (by omega))
  · intro b c B hne hb hc hB hC
    obtain ⟨_, q1, q2⟩ := old b B hb hB
    obtain ⟨_, q3, q4⟩ := old c B hc hC
    exact r.inj b c B hne q1 q3 q2 q4
  · intro b B hb hB
    obtain ⟨_, q1, q2⟩ := old b B hb hB
    exact r.own b B q1 q2
theorem draw_wp {S0 : Sit} {rs : Option Nat} {Q : Exit → Act → World → Prop} (hT : TabAt E.P w0 A tab) (hC : CalSound E.P w0 A cal) (hcl : CloneSound E) (hD : TabDet tab) (hCD : CalGood E cal) (hrun : Run E tab cal nt rs opsA.toList 0 opsA.toList st tr)
    (hres : ResOk E S0 rs opsA.toList st.hs) (hok : drawOk st.hs.hn opsA.toList (tr.map (·.1)) = true) (hQ : ∀ T a', Le S0 T → RS w0 A T nt (lastSt opsA.toList st tr) a' → Q .normal a' T.w) :
    ∀ (fuel : Nat) (listed : Array Bool) (S : Sit) (a : Act), Le S0 S → listed.size = opsA.size → listed.toList.count false ≤ fuel → Shut opsA.toList (lf listed) →
      (∀ (i : Nat) o b, opsA.toList[i]? = some o → nmOf rs opsA.toList i o = some b → lf listed i = false → S.G b = resv) →
      RS w0 A S nt ⟨frOf opsA.toList st tr (lf listed) opsA.size, hsOf opsA.toList st tr (lf listed) opsA.size⟩ a → wpAny E.P .any opsA Q fuel listed a S.w := by
  have hb : ∀ (j : Nat) o, opsA[j]? = some o → ∀ e ∈ o.after, Region.binds .any e = true → e.on < j := fun j o ho => draw_back hok (by rw [Array.getElem?_toList]; exact ho)
  have hlen : opsA.toList.length = opsA.size := by simp
  have done : ∀ (listed : Array Bool) (S : Sit) (a : Act), Le S0 S → listed.size = opsA.size →
      RS w0 A S nt ⟨frOf opsA.toList st tr (lf listed) opsA.size, hsOf opsA.toList st tr (lf listed) opsA.size⟩ a → Region.ready .any opsA listed = [] → Q .normal a S.w := by
    intro listed S a hle hsz hrs hr
    have hall := ready_some hsz hb hr
    refine hQ S a hle ?_
    have e1 : frOf opsA.toList st tr (lf listed) opsA.size = (stAt opsA.toList st tr opsA.size).fr := by
      rw [← frOf_all opsA.size (by omega)]
      funext t
      exact frOf_agree t _ (fun k d hk _ _ => hall k hk)
    have e2 : hsOf opsA.toList st tr (lf listed) opsA.size = (stAt opsA.toList st tr opsA.size).hs := by
      rw [← hsOf_all hD hCD.det hrun opsA.size (by omega)]
      exact hsOf_agree _ (fun k hk _ => hall k hk)
    rw [lastSt_eq hrun, hlen]
    rw [e1, e2] at hrs
    exact hrs
  intro fuel
  induction fuel with
  | zero =>
    intro listed S a hle hsz hc hs hfree hrs
    have hr : Region.ready .any opsA listed = [] := by
      cases h : Region.ready .any opsA listed with
      | nil => rfl
      | cons j r =>
        have hj : j ∈ Region.ready .any opsA listed := by rw [h]; simp
        obtain ⟨h1, o, ho, _⟩ := mem_ready.1 hj
        have hjl : j < opsA.size := (Array.getElem?_eq_some_iff.1 ho).1
        rw [Array.getD_eq_getD_getElem?, Array.getElem?_eq_getElem (by omega)] at h1
        have hm : false ∈ listed.toList := by
          have h1 : listed[j] = false := h1
          rw [← h1]
          exact Array.mem_toList_iff.2 (Array.getElem_mem _)
        have := List.count_pos_iff.2 hm
        omega
    exact ⟨hr, done listed S a hle hsz hrs hr⟩
  | succ fuel ih =>
    intro listed S a hle hsz hc hs hfree hrs
    refine ⟨fun hr => done listed S a hle hsz hrs hr, ?_⟩
    intro i hi
    obtain ⟨h1, o, ho, hr⟩ := mem_ready.1 hi
    have hil : i < opsA.size := (Array.getElem?_eq_some_iff.1 ho).1
    have hoL : opsA.toList[i]? = some o := by rw [Array.getElem?_toList]; exact ho
    have h2 : listed[i]'(by omega) = false := by
      rw [Array.getD_eq_getD_getElem?, Array.getElem?_eq_getElem (by omega)] at h1
      exact h1
    have hun : lf listed i = false := by
      unfold lf
      rw [Array.getD_eq_getD_getElem?, Array.getElem?_eq_getElem (by omega)]
      exact h2
    have hset : lf (listed.setIfInBounds i true) = fun k => lf listed k || Nat.beq k i := by
      funext k
      unfold lf
      by_cases e : k = i
      · subst e
        rw [Nat.beq_refl, Bool.or_true]
        simp [Array.getD_eq_getD_getElem?, hsz, hil]
      · have : Nat.beq k i = false := by
          cases hb : Nat.beq k i with
          | false => rfl
          | true => exact absurd (Nat.eq_of_beq_eq_true hb) e
        rw [this, Bool.or_false, Array.getD_eq_getD_getElem?, Array.getD_eq_getD_getElem?, Array.getElem?_setIfInBounds_ne (fun h => e h.symm)]
    have hstep := draw_step hD hCD hrun hok hs hoL hr hun
    rw [hlen] at hstep
    have hmono : ∀ b, b < st.hs.hn → b < S.N := by
      intro b hb
      have hN := hrs.h.N
      have hge : st.hs.hn ≤ (hsOf opsA.toList st tr (lf listed) opsA.size).hn := hsOf_ge hrun opsA.size (by omega)
      have hN : S.N = (hsOf opsA.toList st tr (lf listed) opsA.size).hn := hN
      omega
    refine act_wp hT hC hcl hrs ho hstep ?_ ?_
    · intro b hb
      refine ⟨hfree i o b hoL hb hun, hmono b (hres.lo i o b hoL hb).2, ?_⟩
      intro t z ht hz hcode
      have := (resv_hp hD hCD hrun hok hs hoL hcode (hres.lo i o b hoL hb).2 hun opsA.size (by omega)).1
      show (hsOf opsA.toList st tr (lf listed) opsA.size).hp b = _
      rw [this]
      exact hres.hp i o b t z hoL hb ht hz
    intro T v hs' u h3 h4 h5 hK hd
    refine ih _ T _ (h3.le hle (fun b hb => (hres.lo i o b hoL hb).1)) (by simp [hsz]) ?_ ?_ ?_ ?_
    · rw [Array.toList_setIfInBounds]
      rw [List.count_set (by simpa using (by omega : i < listed.size))]
      have : listed.toList[i]'(by simpa using (by omega : i < listed.size)) = false := by simpa using h2
      rw [this]
      have hpos : 0 < listed.toList.count false := List.count_pos_iff.2 (by rw [← this]; exact List.getElem_mem _)
      rw [if_pos (show (false == false) = true from rfl), if_neg (show ¬ (true == false) = true by decide)]
      omega
    · rw [hset]
      exact shut_set hs hoL hr
    · intro j o' b hj hb hlj
      rw [hset] at hlj
      have hlj : (lf listed j || Nat.beq j i) = false := hlj
      rw [Bool.or_eq_false_iff] at hlj
      have hne : nmOf rs opsA.toList i o ≠ some b := by
        intro e
        have := hres.inj i j o o' b hoL hj e hb
        subst this
        rw [Nat.beq_refl] at hlj
        cases hlj.2
      rw [h3.G b (hmono b (hres.lo j o' b hj hb).2) hne]
      exact hfree j o' b hj hb hlj.1
    · rw [hset]
      have h6 := hrs.putW (h3.w (fun b hb => hfree i o b hoL hb hun)) h4 h5 hd
      have hK : (⟨frOf opsA.toList st tr (lf listed) opsA.size, hsOf opsA.toList st tr (lf listed) opsA.size⟩ : St).put o.dst v hs' = _ := hK
      rw [hK] at h6
      exact h6
theorem region_draw_wp {id : Nat} {S : Sit} {a : Act} {K : St → Prop} {Q : Exit → Act → World → Prop} (hm : E.P.follows .mixedOrders = true) (hT : TabAt E.P w0 A tab) (hC : CalSound E.P w0 A cal) (hcl : CloneSound E) (hD : TabDet tab) (hCD : CalGood E cal)
    (rs : RS w0 A S nt st a) (h : bif needR opsA.toList then adraw E tab cal nt (some st.hs.hn) opsA.toList opsA.toList [] { st with hs := resvH E opsA.toList st.hs } fun log st' => bif drawOk (resvH E opsA.toList st.hs).hn opsA.toList log then K st' else False
      else adraw E tab cal nt none opsA.toList opsA.toList [] st fun log st' => bif drawOk st.hs.hn opsA.toList log then K st' else False)
    (hQ : ∀ T st' a', Le S T → RS w0 A T nt st' a' → K st' → Q .normal a' T.w) : (Code.region id opsA true).wp E.P Q a S.w := by
  have hE := Ext.drawn S (S.w.drawn + 1)
  have main : ∀ (rsv : Option Nat) (st1 : St) (S1 : Sit), S1.w = S.w → Le S S1 → st1.fr = st.fr → RS w0 A S1 nt st1 a → ResOk E S rsv opsA.toList st1.hs → (∀ (i : Nat) o b, opsA.toList[i]? = some o → nmOf rsv opsA.toList i o = some b → S1.G b = resv) →
      adraw E tab cal nt rsv opsA.toList opsA.toList [] st1 (fun log st' => bif drawOk st1.hs.hn opsA.toList log then K st' else False) → (Code.region id opsA true).wp E.P Q a S.w := by
    intro rsv st1 S1 hw hle1 hfr rs1 hres hfree h
    obtain ⟨tr, hrun, h⟩ := adraw_run hD hCD.det rsv opsA.toList opsA.toList [] st1 _ h
    rw [List.nil_append] at h
    cases hok : drawOk st1.hs.hn opsA.toList (tr.map (·.1)) with
    | false => rw [hok] at h; exact h.elim
    | true =>
      rw [hok] at h
      have hE := Ext.drawn S1 (S1.w.drawn + 1)
      refine wp_region_any hm ?_
      rw [← hw]
      refine draw_wp (S0 := S) hT hC hcl hD hCD hrun hres hok (fun T a' hle hrs => hQ T _ a' hle hrs h) opsA.size _ { S1 with w := { S1.w with drawn := S1.w.drawn + 1 } } a (hle1.trans hE.le) (by simp) ?_ ?_ ?_ ?_
      · simp
      · intro j o _ hl
        unfold lf at hl
        rw [Array.getD_eq_getD_getElem?, Array.getElem?_replicate] at hl
        split at hl <;> cases hl
      · intro i o b hi hb _
        exact hfree i o b hi hb
      · have hl : ∀ k, lf (Array.replicate opsA.size false) k = false := by
          intro k
          unfold lf
          rw [Array.getD_eq_getD_getElem?, Array.getElem?_replicate]
          split <;> rfl
        have e1 : frOf opsA.toList st1 tr (lf (Array.replicate opsA.size false)) opsA.size = st1.fr := by
          funext t
          exact frOf_stop t 0 opsA.size (by omega) (fun k d _ _ _ _ => hl k)
        have e2 : hsOf opsA.toList st1 tr (lf (Array.replicate opsA.size false)) opsA.size = st1.hs := hsOf_stop 0 opsA.size (by omega) (fun k _ _ _ => hl k)
        rw [e1, e2]
        exact ⟨rs1.h.ext hE, rs1.size, rs1.defers, fun t => (rs1.fr t).mono hE.le⟩
  cases hn : needR opsA.toList with
  | false =>
    rw [hn] at h
    exact main none st S rfl (.refl S) rfl rs (resOk_none E S _ _) (fun _ _ _ _ h => (by cases h)) h
  | true =>
    rw [hn] at h
    have hge := (resvH_ok (E := E) opsA.toList st.hs).1
    have hle : Le S (S.keepFree (resvH E opsA.toList st.hs).hn) := Le.keepFree S (by rw [rs.h.N]; exact hge)
    refine main (some st.hs.hn) { st with hs := resvH E opsA.toList st.hs } (S.keepFree (resvH E opsA.toList st.hs).hn) rfl hle rfl ⟨rs.h.keepFree, rs.size, rs.defers, fun t => (rs.fr t).mono hle⟩ (resOk_some rs.h.N) ?_ h
    intro i o b hi hb
    refine keepFree_ge S _ ?_
    exact ((resOk_some (E := E) (L := opsA.toList) rs.h.N).lo i o b hi hb).1
theorem all_wp {S0 : Sit} {K : St → Prop} {Q : Exit → Act → World → Prop} (hT : TabAt E.P w0 A tab) (hC : CalSound E.P w0 A cal) (hcl : CloneSound E) (hQ : ∀ T st' a', Le S0 T → RS w0 A T nt st' a' → K st' → Q .normal a' T.w) :
    ∀ (fuel : Nat) (listed : Array Bool) (S : Sit) (st : St) (a : Act), Le S0 S → RS w0 A S nt st a → aall E tab cal nt opsA K fuel listed st → wpAny E.P .any opsA Q fuel listed a S.w := by
  intro fuel
  induction fuel with
  | zero =>
    intro listed S st a hle rs h
    unfold aall at h
    cases hr : Region.ready .any opsA listed with
    | nil => rw [hr] at h; exact ⟨hr, hQ S st a hle rs h⟩
    | cons i r => rw [hr] at h; exact h.elim
  | succ fuel ih =>
    intro listed S st a hle rs h
    unfold aall at h
    cases hr : Region.ready .any opsA listed with
    | nil =>
      rw [hr] at h
      exact ⟨fun _ => hQ S st a hle rs h, fun i hi => by rw [hr] at hi; cases hi⟩
    | cons i0 r =>
      rw [hr] at h
      have hall : ∀ (l : List Nat) (p : Nat → Prop), allL p l → ∀ i ∈ l, p i := by
        intro l p
        induction l with
        | nil => intro _ i hi; cases hi
        | cons x l ih2 =>
          rintro ⟨h1, h2⟩ i hi
          rcases List.mem_cons.1 hi with rfl | hi
          · exact h1
          · exact ih2 h2 i hi
      refine ⟨fun e => (by rw [hr] at e; cases e), fun i hi => ?_⟩
      have hi' := hi
      rw [hr] at hi'
      have hp := hall _ _ h i hi'
      obtain ⟨_, o, ho, _⟩ := mem_ready.1 hi
      rw [ho] at hp
      obtain ⟨c, hact⟩ := aop1_act hp
      refine act_wp hT hC hcl rs ho hact (fun b hb => by cases hb) ?_
      intro T v hs' u h3 h4 h5 hK hd
      exact ih _ T _ _ (h3.le hle (fun b hb => by cases hb)) (rs.putW (h3.w (fun b hb => by cases hb)) h4 h5 hd) hK
theorem region_all_wp {id : Nat} {S : Sit} {a : Act} {K : St → Prop} {Q : Exit → Act → World → Prop} (hm : E.P.follows .mixedOrders = true) (hT : TabAt E.P w0 A tab) (hC : CalSound E.P w0 A cal) (hcl : CloneSound E)
    (rs : RS w0 A S nt st a) (h : aall E tab cal nt opsA K opsA.size (Array.replicate opsA.size false) st)
    (hQ : ∀ T st' a', Le S T → RS w0 A T nt st' a' → K st' → Q .normal a' T.w) : (Code.region id opsA true).wp E.P Q a S.w := by
  have hE := Ext.drawn S (S.w.drawn + 1)
  refine wp_region_any hm ?_
  exact all_wp (S0 := S) hT hC hcl hQ opsA.size _ { S with w := { S.w with drawn := S.w.drawn + 1 } } st a hE.le ⟨rs.h.ext hE, rs.size, rs.defers, fun t => (rs.fr t).mono hE.le⟩ h
end
end Gm

namespace Gm
open Go
inductive Closed : AV → Prop
  | int (k n) : Closed (.int k n)
  | bool (b) : Closed (.bool b)
  | str (s) : Closed (.str s)
  | agg (cs) : (∀ c ∈ cs, Closed c) → Closed (.agg cs)
  | tup (cs) : (∀ c ∈ cs, Closed c) → Closed (.tup cs)
  | nilp : Closed .nilp
  | fptr (cs o) : (∀ c ∈ cs, Closed c) → Closed (.fptr cs o)
  | snil : Closed .snil
  | sl (f t xs) : Closed (.sl f t xs)
  | vl (vs) : (∀ v ∈ vs, ∀ c ∈ v.cells, Closed c) → Closed (.vl vs)
  | func (f p q) : (∀ c ∈ p, Closed c) → (∀ c ∈ q, Closed c) → Closed (.func f p q)
  | nilf : Closed .nilf
  | iface (t v) : Closed v → Closed (.iface t v)
  | nili : Closed .nili
theorem enc_closed (t : Ty) (x : t.den) : ∀ c ∈ (enc t x).cells, Closed c := by
  cases t with
  | int k => intro c h; simp [enc, AV.cells] at h; subst h; exact .int _ _
  | bool => intro c h; simp [enc, AV.cells] at h; subst h; exact .bool _
  | str => intro c h; simp [enc, AV.cells] at h; subst h; exact .str _
  | slice t => intro c h; simp [enc, AV.cells] at h; subst h; exact .sl _ _ _
  | st n =>
    intro c h
    have h : c ∈ encS n x := h
    unfold encS at h
    obtain ⟨t, y, _, rfl⟩ := encL_mem h
    cases t with
    | int k => exact .int _ _
    | bool => exact .bool _
    | str => exact .str _
    | slice t => exact .sl _ _ _
    | st m => exact .snil
theorem enc_closed' (t : Ty) (x : t.den) : Closed (enc t x) := by
  have := enc_closed t x
  cases t with
  | st n => exact .agg _ this
  | _ => exact this _ (by simp [enc, AV.cells])
structure LeF (S T : Sit) : Prop where
  F : ∀ B o, S.F B o → T.F B o
  cell : ∀ B o v, S.F B o → S.w.cell? (at_ B o) = some v → T.w.cell? (at_ B o) = some v
theorem Rv.closed {S T : Sit} (h : LeF S T) {a : AV} {v : Value} (r : Rv S a v) (hc : Closed a) : Rv T a v := by
  induction r with
  | int k n => exact .int k n
  | bool b => exact .bool b
  | str s b e => exact .str s b e
  | agg cs vs e _ ih =>
    cases hc with
    | agg _ hc => exact .agg cs vs e (fun i c v h1 h2 => ih i c v h1 h2 (hc c (List.mem_of_getElem? h1)))
  | tup cs vs e _ ih =>
    cases hc with
    | tup _ hc => exact .tup cs vs e (fun i c v h1 h2 => ih i c v h1 h2 (hc c (List.mem_of_getElem? h1)))
  | nilp => exact .nilp
  | ptr b o B hb hB => cases hc
  | fptr cs o B f val hF hcell _ ih =>
    cases hc with
    | fptr _ _ hc => exact .fptr cs o B f val (fun i hi => h.F _ _ (hF i hi)) (fun i hi => h.cell _ _ _ (hF i hi) (hcell i hi)) (fun i c h1 => ih i c h1 (hc c (List.mem_of_getElem? h1)))
  | elt b i o B hb hi hB => cases hc
  | snil => exact .snil
  | slN f t e => exact .slN f t e
  | slE f t a cap e => exact .slE f t a cap e
  | sl f t xs B off cap val h1 h2 hF hcell _ ih =>
    exact .sl f t xs B off cap val h1 h2 (fun i hi => h.F _ _ (hF i hi)) (fun i hi => h.cell _ _ _ (hF i hi) (hcell i hi))
      (fun i x j c h1 h2 => ih i x j c h1 h2 (enc_closed t x c (List.mem_of_getElem? h2)))
  | vl vs z B off val h1 h1' hF hcell _ ih =>
    cases hc with
    | vl _ hc =>
      refine .vl vs z B off val h1 h1' (fun i hi => h.F _ _ (hF i hi)) (fun i hi => h.cell _ _ _ (hF i hi) (hcell i hi)) ?_
      exact fun i v j c h1 h2 => ih i v j c h1 h2 (hc v (List.mem_of_getElem? h1) c (List.mem_of_getElem? h2))
  | slr b B hb hB => cases hc
  | slrN b a hb hB hl hc' => cases hc
  | func f p q ps qs e1 e2 _ _ ih1 ih2 =>
    cases hc with
    | func _ _ _ c1 c2 => exact .func f p q ps qs e1 e2 (fun i c v h1 h2 => ih1 i c v h1 h2 (c1 c (List.mem_of_getElem? h1))) (fun i c v h1 h2 => ih2 i c v h1 h2 (c2 c (List.mem_of_getElem? h1)))
  | nilf => exact .nilf
  | iface t v v' _ ih =>
    cases hc with
    | iface _ _ hc => exact .iface t v v' (ih hc)
  | nili => exact .nili
  | top v => exact .top v
theorem cl0_closed {a : AV} (h : cl0 a = true) : Closed a := by
  cases a <;> simp [cl0] at h
  · exact .int _ _
  · exact .bool _
  · exact .str _
  · exact .nilp
  · exact .snil
  · exact .sl _ _ _
  · exact .nilf
  · exact .nili
theorem cl1_closed {a : AV} (h : cl1 a = true) : Closed a := by
  cases a
  case agg cs => exact .agg _ (fun c hc => cl0_closed (List.all_eq_true.1 (show cs.all cl0 = true from h) c hc))
  all_goals exact cl0_closed h
theorem cells_closed {a : AV} (h : Closed a) : ∀ c ∈ a.cells, Closed c := by
  cases a
  case agg cs => cases h with | agg _ h => exact h
  all_goals (intro c hc; simp only [AV.cells, List.mem_singleton] at hc; subst hc; exact h)
theorem cl2_closed {a : AV} (h : cl2 a = true) : Closed a := by
  cases a
  case tup cs => exact .tup _ (fun c hc => cl1_closed (List.all_eq_true.1 (show cs.all cl1 = true from h) c hc))
  case iface t v => exact .iface _ _ (cl1_closed h)
  case vl vs => exact .vl _ (fun v hv => cells_closed (cl1_closed (List.all_eq_true.1 (show vs.all cl1 = true from h) v hv)))
  case func f p q =>
    have h : (p.all cl1 && q.all cl1) = true := h
    rw [Bool.and_eq_true] at h
    exact .func _ _ _ (fun c hc => cl1_closed (List.all_eq_true.1 h.1 c hc)) (fun c hc => cl1_closed (List.all_eq_true.1 h.2 c hc))
  case fptr cs o => exact .fptr _ _ (fun c hc => cl0_closed (List.all_eq_true.1 (show cs.all cl0 = true from h) c hc))
  all_goals exact cl1_closed h
structure Rn (bs : List Nat) (S T : Sit) : Prop where
  f : LeF S T
  b : ∀ b ∈ bs, T.G b = S.G b ∧ b < T.N
theorem Rn.slr {bs : List Nat} {S T : Sit} (h : Rn bs S T) {b : Nat} {v : Value} (hb : memB b bs = true) (r : Rv S (.slr b) v) : Rv T (.slr b) v := by
  obtain ⟨hG, hN⟩ := h.b b ((memB_iff _ _).1 hb)
  cases r with
  | slr _ B h1 h2 => rw [← hG]; exact .slr b B hN (by rw [hG]; exact h2)
  | slrN _ a h1 h2 h3 h4 => exact .slrN b a hN (by rw [hG]; exact h2) (by rw [hG]; exact h3) (by rw [hG]; exact h4)
theorem Rn.ptr {bs : List Nat} {S T : Sit} (h : Rn bs S T) {b o : Nat} {v : Value} (hb : memB b bs = true) (r : Rv S (.ptr b o) v) : Rv T (.ptr b o) v := by
  obtain ⟨hG, hN⟩ := h.b b ((memB_iff _ _).1 hb)
  cases r with
  | ptr _ _ B h1 h2 => exact .ptr b o B hN (by rw [hG]; exact h2)
theorem Rn.keptV {bs : List Nat} {S T : Sit} (h : Rn bs S T) {a : AV} {v : Value} (r : Rv S a v) : Rv T (keptV bs a) v := by
  unfold Gm.keptV
  cases hk : keptRef bs a with
  | false => exact .top _
  | true =>
    show Rv T a v
    cases a
    case ptr b o => exact h.ptr hk r
    case slr b => exact h.slr hk r
    case agg cs =>
      cases r with
      | agg _ vs e hr =>
        refine .agg cs vs e ?_
        intro i c v h1 h2
        have hc := List.all_eq_true.1 (show (cs.all fun c => match c with | .ptr b _ => memB b bs | .slr b => memB b bs | c => cl0 c) = true from hk) c (List.mem_of_getElem? h1)
        have hr' := hr i c v h1 h2
        cases c
        case ptr b o => exact h.ptr hc hr'
        case slr b => exact h.slr hc hr'
        all_goals exact hr'.closed h.f (cl0_closed hc)
    case func f p q =>
      have one : ∀ c v, (match c with | .ptr b _ => memB b bs | .slr b => memB b bs | c => cl1 c) = true → Rv S c v → Rv T c v := by
        intro c v hc hr'
        cases c
        case ptr b o => exact h.ptr hc hr'
        case slr b => exact h.slr hc hr'
        all_goals exact hr'.closed h.f (cl1_closed hc)
      have hk : ((p ++ q).all fun c => match c with | .ptr b _ => memB b bs | .slr b => memB b bs | c => cl1 c) = true := hk
      cases r with
      | func _ _ _ ps qs e1 e2 h1 h2 =>
        exact .func f p q ps qs e1 e2 (fun i c v h3 h4 => one c v (List.all_eq_true.1 hk c (List.mem_append_left _ (List.mem_of_getElem? h3))) (h1 i c v h3 h4))
          (fun i c v h3 h4 => one c v (List.all_eq_true.1 hk c (List.mem_append_right _ (List.mem_of_getElem? h3))) (h2 i c v h3 h4))
    all_goals exact r.closed h.f (cl2_closed hk)
theorem lookL_mem {α : Type} (d : α) (P : α → Prop) (hd : P d) : ∀ (l : List (Nat × α)) (n : Nat), (∀ p ∈ l, p.1 = n → P p.2) → P (lookL d l n)
  | [], n, _ => hd
  | (k, v) :: r, n, h => by
    unfold lookL
    cases e : Nat.beq n k with
    | true => exact h (k, v) (by simp) (Nat.eq_of_beq_eq_true e).symm
    | false => exact lookL_mem d P hd r n (fun p hp => h p (by simp [hp]))
theorem nodupB_nodup : ∀ {l : List Nat}, nodupB l = true → l.Nodup
  | [], _ => List.nodup_nil
  | a :: r, h => by
    unfold nodupB at h
    rw [Bool.and_eq_true] at h
    refine List.nodup_cons.2 ⟨fun hm => ?_, nodupB_nodup h.2⟩
    rw [(memB_iff a r).2 hm] at h
    exact absurd h.1 (by decide)
def homes (kp : Keep) (st : St) : List (Nat × Nat) := bif homesOk kp (hmOf kp st) then hmOf kp st else []
def orig (hm : List (Nat × Nat)) (b : Nat) : Nat := lookL b hm b
theorem orig_home {hm : List (Nat × Nat)} (hn : (hm.map (·.1)).Nodup) {b x : Nat} (h : (b, x) ∈ hm) : orig hm b = x := by
  unfold orig
  have key : ∀ (d : Nat) (l : List (Nat × Nat)), (l.map (·.1)).Nodup → (b, x) ∈ l → lookL d l b = x := by
    intro d l
    induction l with
    | nil => intro _ h; cases h
    | cons p r ih =>
      intro hn h
      obtain ⟨k, v⟩ := p
      rw [List.map_cons, List.nodup_cons] at hn
      unfold lookL
      rcases List.mem_cons.1 h with h' | h'
      · cases h'; rw [Nat.beq_refl]; rfl
      · have : b ≠ k := by
          intro e
          exact hn.1 (List.mem_map.2 ⟨_, h', e⟩)
        have : Nat.beq b k = false := by
          cases e : Nat.beq b k with
          | false => rfl
          | true => exact absurd (Nat.eq_of_beq_eq_true e) this
        rw [this]
        exact ih hn.2 h'
  exact key b hm hn h
theorem orig_other {hm : List (Nat × Nat)} {b : Nat} (h : ∀ p ∈ hm, p.1 ≠ b) : orig hm b = b := by
  unfold orig
  exact lookL_mem b (fun v => v = b) rfl hm b (fun p hp e => absurd e (h p hp))
theorem homes_ok (kp : Keep) (st : St) : ((homes kp st).map (·.1)).Nodup ∧ ((homes kp st).map (·.2)).Nodup ∧ ∀ p ∈ homes kp st, p.1 ∉ kp.bs ∧ p.2 ∉ kp.bs := by
  unfold homes
  cases h : homesOk kp (hmOf kp st) with
  | false => simp
  | true =>
    unfold homesOk at h
    simp only [Bool.and_eq_true] at h
    obtain ⟨⟨h1, h2⟩, h3⟩ := h
    refine ⟨nodupB_nodup h2, nodupB_nodup h1, ?_⟩
    intro p hp
    have := List.all_eq_true.1 h3 p hp
    simp only [Bool.and_eq_true, Bool.not_eq_true'] at this
    refine ⟨fun hm => ?_, fun hm => ?_⟩
    · rw [(memB_iff _ _).2 hm] at this; exact absurd this.1 (by decide)
    · rw [(memB_iff _ _).2 hm] at this; exact absurd this.2 (by decide)
theorem homes_of {kp : Keep} {st : St} {p : Nat × Nat} (h : p ∈ homes kp st) : (∃ k, (k, some p.1) ∈ kp.ks) ∨ (∃ b i, (b, i, p.1) ∈ kp.cs) := by
  unfold homes at h
  cases e : homesOk kp (hmOf kp st) with
  | false => rw [e] at h; cases h
  | true =>
    rw [e] at h
    rcases List.mem_append.1 (show p ∈ hmOf kp st from h) with h | h
    · obtain ⟨⟨k, ob⟩, h1, h2⟩ := List.mem_filterMap.1 h
      cases ob with
      | none => cases h2
      | some b =>
        unfold homeOf at h2
        simp only at h2
        split at h2
        · cases h2
          exact .inl ⟨k, h1⟩
        · cases h2
    · obtain ⟨⟨b, i, q⟩, h1, h2⟩ := List.mem_filterMap.1 h
      unfold cellHome at h2
      simp only at h2
      split at h2
      · split at h2
        · cases h2
          exact .inr ⟨b, i, h1⟩
        · cases h2
      · cases h2
theorem homeIn_mem {b i h : Nat} : ∀ {l : List (Nat × Nat × Nat)}, homeIn l b i = some h → (b, i, h) ∈ l
  | [], e => by cases e
  | (c, j, g) :: r, e => by
    unfold homeIn at e
    cases hb : (Nat.beq c b && Nat.beq j i) with
    | true =>
      rw [hb] at e
      cases e
      rw [Bool.and_eq_true] at hb
      cases Nat.eq_of_beq_eq_true hb.1
      cases Nat.eq_of_beq_eq_true hb.2
      exact List.mem_cons_self
    | false =>
      rw [hb] at e
      exact List.mem_cons_of_mem _ (homeIn_mem e)
theorem keptC_get {kp : Keep} {ok : Bool} {b : Nat} : ∀ (cs : List AV) (k i : Nat), (keptC kp ok b k cs)[i]? = (cs[i]?).map (keptC1 kp ok b (k + i))
  | [], _, _ => by simp [keptC]
  | c :: r, k, 0 => by simp [keptC]
  | c :: r, k, i + 1 => by
    simp only [keptC, List.getElem?_cons_succ]
    rw [keptC_get r (k + 1) i]
    congr 2
    omega
theorem keptC_length {kp : Keep} {ok : Bool} {b : Nat} : ∀ (cs : List AV) (k : Nat), (keptC kp ok b k cs).length = cs.length
  | [], _ => rfl
  | c :: r, k => by simp [keptC, keptC_length r (k + 1)]
theorem lget_get (cs : List AV) : ∀ (i : Nat) (c : AV), cs[i]? = some c → lget cs i = c := by
  induction cs with
  | nil => intro i c h; simp at h
  | cons a r ih =>
    intro i c h
    cases i with
    | zero => simp at h; exact h
    | succ i => exact ih i c (by simpa using h)
def keepSit (kp : Keep) (st : St) (S : Sit) : Sit := { w := S.w, F := S.F, G := fun b => S.G (orig (homes kp st) b), N := kp.hn }
theorem keep_rn {kp : Keep} {st : St} {S : Sit} (hk : keepOk kp = true) : Rn kp.bs S (keepSit kp st S) where
  f := ⟨fun _ _ h => h, fun _ _ _ _ h => h⟩
  b := by
    intro b hb
    unfold keepOk at hk
    rw [Bool.and_eq_true] at hk
    refine ⟨?_, show b < kp.hn by simpa [Nat.blt_eq] using List.all_eq_true.1 hk.1 b hb⟩
    show S.G (orig (homes kp st) b) = S.G b
    rw [orig_other]
    intro p hp e
    exact ((homes_ok kp st).2.2 p hp).1 (e ▸ hb)
theorem keep_hp (kp : Keep) (st : St) (b : Nat) : (keepSt kp st).hs.hp b = .dead ∨
    (∃ x, (b, x) ∈ homes kp st ∧ (keepSt kp st).hs.hp b = match st.hs.hp x with | .row ro t xs => .row ro t xs | _ => .dead) ∨
    (b ∈ kp.bs ∧ (keepSt kp st).hs.hp b = keptB kp (homesOk kp (hmOf kp st)) b (st.hs.hp b)) := by
  unfold keepSt
  simp only
  have key : ∀ (l : List (Nat × Blk)), (∀ p ∈ l, (∃ x, (p.1, x) ∈ homes kp st ∧ p.2 = match st.hs.hp x with | .row ro t xs => .row ro t xs | _ => .dead) ∨
      (p.1 ∈ kp.bs ∧ p.2 = keptB kp (homesOk kp (hmOf kp st)) p.1 (st.hs.hp p.1))) → lookL .dead l b = .dead ∨ (∃ x, (b, x) ∈ homes kp st ∧ lookL .dead l b = match st.hs.hp x with | .row ro t xs => .row ro t xs | _ => .dead) ∨
      (b ∈ kp.bs ∧ lookL .dead l b = keptB kp (homesOk kp (hmOf kp st)) b (st.hs.hp b)) := by
    intro l hl
    refine lookL_mem (d := Blk.dead) (fun v => v = .dead ∨ (∃ x, (b, x) ∈ homes kp st ∧ v = match st.hs.hp x with | .row ro t xs => .row ro t xs | _ => .dead) ∨
      (b ∈ kp.bs ∧ v = keptB kp (homesOk kp (hmOf kp st)) b (st.hs.hp b))) (.inl rfl) l b ?_
    intro p hp e
    subst e
    exact .inr (hl p hp)
  refine key _ ?_
  intro p hp
  rcases List.mem_append.1 hp with hp | hp
  · left
    unfold homes
    cases e : homesOk kp (hmOf kp st) with
    | false => rw [e] at hp; cases hp
    | true =>
      rw [e] at hp
      obtain ⟨q, h1, rfl⟩ := List.mem_map.1 hp
      exact ⟨q.2, h1, rfl⟩
  · right
    obtain ⟨q, h1, rfl⟩ := List.mem_map.1 hp
    exact ⟨h1, rfl⟩
theorem rn_closed {S T : Sit} (hf : LeF S T) {t : Ty} {x : t.den} {j : Nat} {c : AV} {v : Value} (hc : (enc t x).cells[j]? = some c) (r : Rv S c v) : Rv T c v :=
  r.closed hf (enc_closed t x c (List.mem_of_getElem? hc))
theorem keep_ok {kp : Keep} {w0 : World} {A : Ow} {S : Sit} {nt : Nat} {st : St} {a : Act} (hk : keepOk kp = true) (rs : RS w0 A S nt st a) :
    RS w0 A (keepSit kp st S) nt (keepSt kp st) a := by
  have hrn := keep_rn (st := st) (S := S) hk
  have hk' := hk
  unfold keepOk at hk'
  rw [Bool.and_eq_true] at hk'
  have hbs : ∀ b ∈ kp.bs, b < kp.hn := fun b hb => by simpa [Nat.blt_eq] using List.all_eq_true.1 hk'.1 b hb
  obtain ⟨n1, n2, n3⟩ := homes_ok kp st
  have hhn : ∀ p ∈ homes kp st, p.1 < kp.hn := by
    intro p hp
    have hk2 := hk'.2
    rw [Bool.and_eq_true] at hk2
    rcases homes_of hp with ⟨k, h1⟩ | ⟨b, i, h1⟩
    · simpa [Nat.blt_eq] using List.all_eq_true.1 hk2.1 _ h1
    · simpa [Nat.blt_eq] using List.all_eq_true.1 hk2.2 _ h1
  have ohome : ∀ b x, (b, x) ∈ homes kp st → orig (homes kp st) b = x := fun b x h => orig_home n1 h
  have obs : ∀ b, b ∈ kp.bs → orig (homes kp st) b = b := fun b hb => orig_other (fun p hp e => (n3 p hp).1 (e ▸ hb))
  -- a block that is kept was there
  have back : ∀ b, (keepSt kp st).hs.hp b ≠ .dead → st.hs.hp (orig (homes kp st) b) ≠ .dead ∧ ((b, orig (homes kp st) b) ∈ homes kp st ∨ (b ∈ kp.bs ∧ orig (homes kp st) b = b)) := by
    intro b hb
    rcases keep_hp kp st b with h | ⟨x, h1, h2⟩ | ⟨h1, h2⟩
    · exact absurd h hb
    · rw [ohome b x h1]
      refine ⟨fun h => hb (by rw [h2, h]), .inl h1⟩
    · rw [obs b h1]
      refine ⟨fun h => hb (by rw [h2, h]; rfl), .inr ⟨h1, rfl⟩⟩
  have rehome : ∀ (b x : Nat) (u : Value), (b, x) ∈ homes kp st → Rv S (.slr x) u → Rv (keepSit kp st S) (.slr b) u := by
    intro b x u hm hr
    have hG : (keepSit kp st S).G b = S.G x := by show S.G (orig _ b) = _; rw [ohome b x hm]
    have hN : b < (keepSit kp st S).N := hhn _ hm
    cases hr with
    | slr _ B h1 h2 => rw [← hG]; exact .slr b B hN (by rw [hG]; exact h2)
    | slrN _ a h1 h2 h3 h4 => exact .slrN b a hN (by rw [hG]; exact h2) (by rw [hG]; exact h3) (by rw [hG]; exact h4)
  refine ⟨⟨rfl, ?_, ?_, ?_, rs.h.F, rs.h.os, rs.h.tape, rs.h.output, rs.h.size, rs.h.old, ?_, rs.h.fo⟩, rs.size, rs.defers, ?_⟩
  · intro b hb
    rcases keep_hp kp st b with h | ⟨x, h1, _⟩ | ⟨h1, _⟩
    · exact h
    · have := hhn _ h1
      have hb : kp.hn ≤ b := hb
      exact absurd this (by simp; omega)
    · have := hbs _ h1
      have hb : kp.hn ≤ b := hb
      omega
  · intro b
    rcases keep_hp kp st b with h | ⟨x, h1, h2⟩ | ⟨h1, h2⟩
    · rw [h]; trivial
    · rw [h2]
      have hG : (keepSit kp st S).G b = S.G x := by show S.G (orig _ b) = _; rw [ohome b x h1]
      have hb := rs.h.blks x
      cases hx : st.hs.hp x with
      | dead => trivial
      | cells cs => trivial
      | row ro t xs =>
        rw [hx] at hb
        obtain ⟨e1, e2, e3⟩ := hb
        refine ⟨by rw [hG]; exact e1, by rw [hG]; exact e2, ?_⟩
        rw [hG]
        rcases e3 with e3 | ⟨B, c, e, fz, q1, q2, q3, q4, q5, q6, q7⟩
        · exact .inl e3
        · exact .inr ⟨B, c, e, fz, q1, q2, q3, q4, q5, fun i x j a v h3 h4 h5 => rn_closed hrn.f h4 (q6 i x j a v h3 h4 h5), q7⟩
    · rw [h2]
      have hG := (hrn.b b h1).1
      have hb := rs.h.blks b
      cases hx : st.hs.hp b with
      | dead => exact True.intro
      | cells cs =>
        rw [hx] at hb
        show RB _ b (match lookL none (kp.ts.map fun p => (p.1, some p.2)) b with | some n => normC n cs | none => .cells (keptC kp (homesOk kp (hmOf kp st)) b 0 cs))
        cases lookL none (kp.ts.map fun p => (p.1, some p.2)) b with
        | some n =>
          show RB _ b (normC n cs)
          unfold normC
          cases hd : decL decSl0 (leafs n) cs with
          | none => exact True.intro
          | some d =>
            obtain ⟨w1, w2⟩ := decL_weak (fun _ _ _ => decSl0_weak) hd
            rcases hb with hb | ⟨B, c, e, fz, q1, q2, q3, q4, q5, q6⟩
            · exact .inl (by rw [hG]; exact hb)
            refine .inr ⟨B, c, e, fz, by rw [hG]; exact q1, q2, by rw [← w1]; exact q3, by rw [← w1]; exact q4, ?_, q6⟩
            intro i a v ha hv
            have hi := (List.getElem?_eq_some_iff.1 ha).1
            have hi' : i < cs.length := by omega
            have hr := q5 i cs[i] v (List.getElem?_eq_getElem hi') hv
            have hr2 := hr.weak (w2 i hi' hi)
            rw [(List.getElem?_eq_some_iff.1 ha).2] at hr2
            refine hr2.closed hrn.f ?_
            obtain ⟨t, y, _, rfl⟩ := encL_mem (List.mem_of_getElem? ha)
            cases t with
            | int k => exact .int _ _
            | bool => exact .bool _
            | str => exact .str _
            | slice t => exact .sl _ _ _
            | st m => exact .snil
        | none =>
        show RB _ b (.cells (keptC kp (homesOk kp (hmOf kp st)) b 0 cs))
        rcases hb with hb | ⟨B, c, e, fz, q1, q2, q3, q4, q5, q6⟩
        · exact .inl (by rw [hG]; exact hb)
        refine .inr ⟨B, c, e, fz, by rw [hG]; exact q1, q2, by simpa [keptC_length] using q3, by simpa [keptC_length] using q4, ?_, q6⟩
        intro i a v ha hv
        rw [keptC_get, Nat.zero_add] at ha
        cases hi : cs[i]? with
        | none => rw [hi] at ha; cases ha
        | some a0 =>
          rw [hi] at ha
          cases ha
          have hr := q5 i a0 v hi hv
          unfold keptC1
          cases hh : homeIn kp.cs b i with
          | none => exact hrn.keptV hr
          | some h =>
            cases a0
            case slr x =>
              cases ho : homesOk kp (hmOf kp st) with
              | false => exact .top _
              | true =>
                refine rehome h x v ?_ hr
                unfold homes
                rw [ho]
                refine List.mem_append_right _ (List.mem_filterMap.2 ⟨(b, i, h), homeIn_mem hh, ?_⟩)
                unfold cellHome
                simp only [hx, lget_get _ _ _ hi]
            all_goals exact hrn.keptV hr
      | row ro t xs =>
        rw [hx] at hb
        obtain ⟨e1, e2, e3⟩ := hb
        show RB _ b (.row ro t xs)
        refine ⟨by rw [hG]; exact e1, by rw [hG]; exact e2, ?_⟩
        rw [hG]
        rcases e3 with e3 | ⟨B, c, e, fz, q1, q2, q3, q4, q5, q6, q7⟩
        · exact .inl e3
        · exact .inr ⟨B, c, e, fz, q1, q2, q3, q4, q5, fun i x j a v h3 h4 h5 => rn_closed hrn.f h4 (q6 i x j a v h3 h4 h5), q7⟩
  · intro b c B hbc hb hc hB
    obtain ⟨h1, h2⟩ := back b hb
    obtain ⟨h3, h4⟩ := back c hc
    refine rs.h.inj _ _ B ?_ h1 h3 hB
    intro e
    rcases h2 with h2 | ⟨h2, h2'⟩ <;> rcases h4 with h4 | ⟨h4, h4'⟩
    · rw [← e] at h4
      have key : ∀ (l : List (Nat × Nat)), (l.map (·.2)).Nodup → ∀ x b c, (b, x) ∈ l → (c, x) ∈ l → b = c := by
        intro l
        induction l with
        | nil => intro _ x b c h; cases h
        | cons p r ih =>
          intro hn x b c hb hc
          rw [List.map_cons, List.nodup_cons] at hn
          rcases List.mem_cons.1 hb with hb | hb <;> rcases List.mem_cons.1 hc with hc | hc
          · rw [← hb] at hc; cases hc; rfl
          · exact absurd (List.mem_map.2 ⟨(c, x), hc, by rw [← hb]⟩) hn.1
          · exact absurd (List.mem_map.2 ⟨(b, x), hb, by rw [← hc]⟩) hn.1
          · exact ih hn.2 x b c hb hc
      exact hbc (key _ n2 _ _ _ h2 h4)
    · rw [e, h4'] at h2
      exact (n3 _ h2).2 h4
    · rw [← e, h2'] at h4
      exact (n3 _ h4).2 h2
    · exact hbc (by rw [← h2', ← h4', e])
  · intro b B hb hB
    obtain ⟨h1, _⟩ := back b hb
    exact rs.h.own _ B h1 hB
  · intro t
    show Rv (keepSit kp st S) ((keepSt kp st).fr t) _
    unfold keepSt
    simp only
    refine lookL_mem AV.top (fun v => Rv (keepSit kp st S) v (a.tmps.getD t undef)) (.top _) _ t ?_
    intro p hp e
    obtain ⟨q, h1, rfl⟩ := List.mem_map.1 hp
    simp only at e ⊢
    have hr := rs.fr t
    subst e
    obtain ⟨k, ob⟩ := q
    simp only at hr ⊢
    generalize a.tmps.getD k undef = u at hr ⊢
    cases ob with
    | none => exact hrn.keptV hr
    | some b =>
      simp only
      cases hx : st.fr k
      case slr x =>
        simp only
        cases ho : homesOk kp (hmOf kp st) with
        | false => exact .top _
        | true =>
          rw [hx] at hr
          refine rehome b x u ?_ hr
          unfold homes
          rw [ho]
          refine List.mem_append_left _ (List.mem_filterMap.2 ⟨(k, some b), h1, ?_⟩)
          unfold homeOf
          simp only [hx]
      all_goals (rw [hx] at hr; exact hrn.keptV hr)
end Gm

namespace Gm
open Go
theorem wp_loop_n {P : Program} {Q : Exit → Act → World → Prop} {c : Code} (J : Nat → Act → World → Prop) (h0 : ∀ a w, ¬ J 0 a w)
    (round : ∀ n a w, J (n + 1) a w → c.wp P (Exit.then (J n) Q) a w) : ∀ n a w, J n a w → (Code.loop c).wp P Q a w := by
  have key : ∀ n a w, J n a w → ∀ (b : Frame) (k : List Item) (cs : List Frame), ∃ e a' w', Q e a' w' ∧ Arrives P (lone (b.at a (.code c :: .inLoop c :: k)) cs w) b k cs e a' w' := by
    intro n
    induction n with
    | zero => intro a w h; exact absurd h (h0 a w)
    | succ n ih =>
      intro a w h b k cs
      obtain ⟨e, a₁, w₁, hq, harr⟩ := round n a w h b (.inLoop c :: k) cs
      cases e with
      | normal =>
        obtain ⟨e₂, a₂, w₂, hq₂, harr₂⟩ := ih a₁ w₁ hq b k cs
        exact ⟨e₂, a₂, w₂, hq₂, .of_steps (Steps.trans harr (.one step_inLoop)) harr₂⟩
      | exit id => exact ⟨_, a₁, w₁, hq, .pass (x := .inLoop c) rfl (fun _ _ => .inl (by simp)) harr⟩
      | goto l => exact ⟨_, a₁, w₁, hq, .pass (x := .inLoop c) rfl (fun _ _ => .inl (by simp)) harr⟩
      | ret => exact ⟨_, a₁, w₁, hq, .pass (x := .inLoop c) rfl (fun _ _ => .inl (by simp)) harr⟩
      | panic ch => exact ⟨_, a₁, w₁, hq, .pass (x := .inLoop c) rfl (fun _ _ => .inl (by simp)) harr⟩
      | outgrown => exact ⟨_, a₁, w₁, hq, .pass (x := .inLoop c) rfl (fun _ _ => .inl (by simp)) harr⟩
  intro n a w h b k cs
  obtain ⟨e, a', w', hq, harr⟩ := key n a w h b k cs
  exact ⟨e, a', w', hq, .of_steps (.one step_loop) harr⟩
def QN (S0 : Sit) (w0 : World) (A : Ow) (nt : Nat) (Kn : St → Prop) (Kx : Nat → St → Prop) (Kr : St → Prop) : Exit → Act → World → Prop
  | .normal, a, w => ∃ T st, T.w = w ∧ Le S0 T ∧ RS w0 A T nt st a ∧ Kn st
  | .exit i, a, w => ∃ T st, T.w = w ∧ Le S0 T ∧ RS w0 A T nt st a ∧ Kx i st
  | .ret, a, w => ∃ T st, T.w = w ∧ Le S0 T ∧ RS w0 A T nt st a ∧ Kr st
  | _, _, _ => False
structure LSound (E : Env) (tab : Tab) (cal : Bool → Callee) (nt : Nat) (lt : Nat → Option LSpec) (i : Nat) (b : Code) (l : LSpec) : Prop where
  ok : keepOk l.kp = true
  okr : keepOk l.kr = true
  le : ∀ Kx Kr st, l.le Kx Kr st → ∃ n, loopSem E tab cal nt lt n l.kp l.kr b i Kx Kr st
section
variable {E : Env} {w0 : World} {A : Ow} {tab : Tab} {cal : Callee} {nt : Nat} {lt : Nat → Option LSpec} {S0 : Sit}
theorem qn_next {Kn : St → Prop} {Kx : Nat → St → Prop} {Kr : St → Prop} {next : Act → World → Prop} {K' : St → Prop} {Q : Exit → Act → World → Prop}
    (hn : ∀ T st a, Le S0 T → RS w0 A T nt st a → K' st → next a T.w) (hx : ∀ i a w, QN S0 w0 A nt Kn Kx Kr (.exit i) a w → Q (.exit i) a w)
    (hr : ∀ a w, QN S0 w0 A nt Kn Kx Kr .ret a w → Q .ret a w) : ∀ e a w, QN S0 w0 A nt K' Kx Kr e a w → Exit.then next Q e a w := by
  intro e a w h
  cases e with
  | normal => obtain ⟨T, st, rfl, h1, h2, h3⟩ := h; exact hn T st a h1 h2 h3
  | exit i => exact hx i a w h
  | ret => exact hr a w h
  | goto l => exact h.elim
  | panic c => exact h.elim
  | outgrown => exact h.elim
theorem tabGet_detT {f : Nat} {en : Entry} : ∀ {tab : Tab}, tabGet (detT E tab) f = some en → tabGet tab f = some en := by
  intro tab
  induction tab with
  | nil => intro h; exact h
  | cons p r ih =>
    intro h
    obtain ⟨k, e⟩ := p
    unfold detT at h ih
    cases hn : E.nd k with
    | true =>
      rw [List.filter_cons_of_neg (by simp [hn])] at h
      have := ih h
      unfold tabGet
      cases hk : Nat.beq k f with
      | true =>
        exfalso
        have e := Nat.eq_of_beq_eq_true hk
        subst e
        clear ih this
        induction r with
        | nil => cases h
        | cons q r ih2 =>
          obtain ⟨k2, e2⟩ := q
          cases hn2 : E.nd k2 with
          | true => rw [List.filter_cons_of_neg (by simp [hn2])] at h; exact ih2 h
          | false =>
            rw [List.filter_cons_of_pos (by simp [hn2])] at h
            unfold tabGet at h
            cases hk2 : Nat.beq k2 k with
            | true => rw [Nat.eq_of_beq_eq_true hk2, hn] at hn2; cases hn2
            | false => rw [hk2] at h; exact ih2 h
      | false => exact this
    | false =>
      rw [List.filter_cons_of_pos (by simp [hn])] at h
      unfold tabGet at h ⊢
      cases hk : Nat.beq k f with
      | true => rw [hk] at h; exact h
      | false => rw [hk] at h; exact ih h
theorem TabAt.det (hT : TabAt E.P w0 A tab) : TabAt E.P w0 A (detT E tab) := fun f en h => hT f en (tabGet_detT h)
theorem TabAt.of (hT : TabAt E.P w0 A tab) (m : Bool) : TabAt E.P w0 A (tabM E tab m) := by
  cases m
  · exact hT.det
  · exact hT
theorem code_wp {cal : Bool → Callee} (hm : E.P.follows .mixedOrders = true) (hT : TabAt E.P w0 A tab) (hC : ∀ m, CalSound E.P w0 A (cal m)) (hcl : CloneSound E) (hD : TabDet (detT E tab)) (hCD : CalGood E (cal false)) (hlt : S0.N = 0 ∨ ∀ i, lt i = none) (m : Bool) (hml : m = true ∨ ∀ i, lt i = none) :
    ∀ (c : Code) (i : Nat) (Kn : St → Prop) (Kx : Nat → St → Prop) (Kr : St → Prop) (S : Sit) (st : St) (a : Act), (∀ p ∈ loopsOf c i, ∀ l, lt p.1 = some l → LSound E tab cal nt lt p.1 p.2 l) →
      Le S0 S → RS w0 A S nt st a → acodeM E tab cal nt lt m c i Kn Kx Kr st → c.wp E.P (QN S0 w0 A nt Kn Kx Kr) a S.w := by
  intro c
  induction c with
  | skip => intro i Kn Kx Kr S st a _ hle rs h; exact wp_skip ⟨S, st, rfl, hle, rs, h⟩
  | region id ops draw =>
    intro i Kn Kx Kr S st a _ hle rs h
    cases draw with
    | false =>
      refine wp_region ?_
      have := aseq_wp (hT.of m) (hC m) hcl ops.toList 0 S st a Kn (by simp) rs h (Q := QN S0 w0 A nt Kn Kx Kr) (fun T st' a' h1 h2 h3 => ⟨T, st', rfl, hle.trans h1, h2, h3⟩)
      rw [List.range_eq_range']
      simpa using this
    | true =>
      unfold acodeM at h
      cases hdm : (m && E.dm id ops.size) with
      | true =>
        rw [hdm] at h
        exact region_all_wp hm hT (hC true) hcl rs h (fun T st' a' h1 h2 h3 => ⟨T, st', rfl, hle.trans h1, h2, h3⟩)
      | false =>
        rw [hdm] at h
        exact region_draw_wp hm hT.det (hC false) hcl hD hCD rs h (fun T st' a' h1 h2 h3 => ⟨T, st', rfl, hle.trans h1, h2, h3⟩)
  | seq x y ihx ihy =>
    intro i Kn Kx Kr S st a hl hle rs h
    refine wp_seq (wp_mono (ihx i _ Kx Kr S st a (fun p hp => hl p (List.mem_append_left _ hp)) hle rs h) ?_)
    exact qn_next (fun T st' a' h1 h2 h3 => ihy i Kn Kx Kr T st' a' (fun p hp => hl p (List.mem_append_right _ hp)) h1 h2 h3) (fun _ _ _ h => h) (fun _ _ h => h)
  | cond o x y ihx ihy =>
    intro i Kn Kx Kr S st a hl hle rs h
    cases o with
    | tmp t =>
      have h : (match st.fr t with | .bool c => bif c then acodeM E tab cal nt lt m x i Kn Kx Kr { st with fr := upd st.fr t (.bool true) } else acodeM E tab cal nt lt m y i Kn Kx Kr { st with fr := upd st.fr t (.bool false) } | _ => False) := h
      have hr := rs.fr t
      cases hf : st.fr t <;> rw [hf] at h <;> first | exact h.elim | skip
      rename_i b
      rw [hf] at hr
      have hv : a.eval (.tmp t) = .bool b := hr.bool_inv
      refine wp_cond hv ?_
      cases b
      · have h : acodeM E tab cal nt lt m y i Kn Kx Kr { st with fr := upd st.fr t (.bool false) } := h
        rw [upd_eq_self hf] at h
        exact ihy i Kn Kx Kr S st a (fun p hp => hl p (List.mem_append_right _ hp)) hle rs h
      · have h : acodeM E tab cal nt lt m x i Kn Kx Kr { st with fr := upd st.fr t (.bool true) } := h
        rw [upd_eq_self hf] at h
        exact ihx i Kn Kx Kr S st a (fun p hp => hl p (List.mem_append_left _ hp)) hle rs h
    | const v => exact h.elim
    | global g => exact h.elim
    | func f => exact h.elim
  | block id b ih =>
    intro i Kn Kx Kr S st a hl hle rs h
    refine wp_block (wp_mono (ih id Kn (fun i s => bif Nat.beq i id then Kn s else Kx i s) Kr S st a hl hle rs h) ?_)
    intro e a' w' he
    cases e with
    | normal => exact he
    | ret => exact he
    | exit j =>
      obtain ⟨T, st', rfl, h1, h2, h3⟩ := he
      show if j = id then QN S0 w0 A nt Kn Kx Kr .normal a' T.w else QN S0 w0 A nt Kn Kx Kr (.exit j) a' T.w
      cases hb : Nat.beq j id with
      | true =>
        rw [hb] at h3
        rw [if_pos (Nat.eq_of_beq_eq_true hb)]
        exact ⟨T, st', rfl, h1, h2, h3⟩
      | false =>
        rw [hb] at h3
        rw [if_neg (fun e => by subst e; rw [Nat.beq_refl] at hb; cases hb)]
        exact ⟨T, st', rfl, h1, h2, h3⟩
    | goto l => exact he.elim
    | panic c => exact he.elim
    | outgrown => exact he.elim
  | loop b ih =>
    intro i Kn Kx Kr S st a hl hle rs h
    have h : (match lt i with | some l => l.le Kx Kr st | none => loopN 12 (fun rec s => acodeM E tab cal nt lt m b i rec Kx Kr s) st) := h
    cases hi : lt i with
    | none =>
      rw [hi] at h
      refine wp_loop_n (fun n a w => ∃ T st, T.w = w ∧ Le S0 T ∧ RS w0 A T nt st a ∧ loopN n (fun rec s => acodeM E tab cal nt lt m b i rec Kx Kr s) st) ?_ ?_ 12 a S.w ⟨S, st, rfl, hle, rs, h⟩
      · rintro a w ⟨_, _, _, _, _, h⟩; exact h
      · rintro n a w ⟨T, st', rfl, h1, h2, h3⟩
        refine wp_mono (ih i _ Kx Kr T st' a (fun p hp => hl p (List.mem_cons_of_mem _ hp)) h1 h2 h3) ?_
        exact qn_next (fun T st' a' h1 h2 h3 => ⟨T, st', rfl, h1, h2, h3⟩) (fun _ _ _ h => h) (fun _ _ h => h)
    | some l =>
      rw [hi] at h
      have em : m = true := hml.resolve_right (fun e => by rw [e i] at hi; cases hi)
      subst em
      have hz : S0.N = 0 := hlt.resolve_right (fun e => by rw [e i] at hi; cases hi)
      obtain ⟨hok, hokr, hL⟩ := hl (i, b) (List.mem_cons_self) l hi
      obtain ⟨n, hn⟩ := hL Kx Kr st h
      have hle' : ∀ (kp : Keep) (T : Sit) (st : St), Le S0 T → Le S0 (keepSit kp st T) := fun kp T st h => ⟨h.F, h.cell, (fun b hb => absurd hb (by rw [hz]; exact Nat.not_lt_zero b)), (by rw [hz]; exact Nat.zero_le _)⟩
      refine wp_loop_n (fun n a w => ∃ T st, T.w = w ∧ Le S0 T ∧ RS w0 A T nt st a ∧
        loopN n (fun rec s => acodeM E tab cal nt lt true b i (fun s' => rec (keepSt l.kp s')) (fun j s' => Kx j (keepSt l.kp s')) (fun s' => Kr (keepSt l.kr s')) s) st) ?_ ?_ n a S.w ⟨keepSit l.kp st S, _, rfl, hle' _ S st hle, keep_ok hok rs, hn⟩
      · rintro a w ⟨_, _, _, _, _, h⟩; exact h
      · rintro n a w ⟨T, st', rfl, h1, h2, h3⟩
        refine wp_mono (ih i _ _ _ T st' a (fun p hp => hl p (List.mem_cons_of_mem _ hp)) h1 h2 h3) ?_
        intro e a' w' he
        cases e with
        | normal => obtain ⟨T, st', rfl, h1, h2, h3⟩ := he; exact ⟨keepSit l.kp st' T, _, rfl, hle' _ T st' h1, keep_ok hok h2, h3⟩
        | exit j => obtain ⟨T, st', rfl, h1, h2, h3⟩ := he; exact ⟨keepSit l.kp st' T, _, rfl, hle' _ T st' h1, keep_ok hok h2, h3⟩
        | ret => obtain ⟨T, st', rfl, h1, h2, h3⟩ := he; exact ⟨keepSit l.kr st' T, _, rfl, hle' _ T st' h1, keep_ok hokr h2, h3⟩
        | goto l => exact he.elim
        | panic c => exact he.elim
        | outgrown => exact he.elim
  | exit id => intro i Kn Kx Kr S st a _ hle rs h; exact wp_exit ⟨S, st, rfl, hle, rs, h⟩
  | ret => intro i Kn Kx Kr S st a _ hle rs h; exact wp_ret ⟨S, st, rfl, hle, rs, h⟩
  | rangeFunc f ps x y _ _ => intro i Kn Kx Kr S st a _ hle rs h; exact h.elim
  | scope b _ => intro i Kn Kx Kr S st a _ hle rs h; exact h.elim
  | label l => intro i Kn Kx Kr S st a _ hle rs h; exact h.elim
  | goto l => intro i Kn Kx Kr S st a _ hle rs h; exact h.elim
  | refuse w => intro i Kn Kx Kr S st a _ hle rs h; exact h.elim
end
end Gm

namespace Gm
open Go
def NoNum (P : Program) : Prop := ∀ (f : Nat) (fn : Func), P.funcs[f]? = some fn → (fn.name == "runtime.NumGoroutine") = false
theorem callable {P : Program} (hn : NoNum P) {f : FuncId} {fn : Func} {c : Code} (hf : P.funcs[f]? = some fn) (hb : fn.body = some c) : Callable P f := by
  intro args w
  have := hn f fn hf
  simp [callFunc, go_sem, hf, hb]
  simpa using this
section
variable {E : Env} {w0 : World} {A : Ow} {tab : Tab} {nt : Nat} {S : Sit} {st : St} {a : Act}
def resV (tmps : Array Value) : ResultVar → Sem Value
  | .tmp t => pure (tmps.getD t undef)
  | .cell a t => do loadVar t (← asAddr (tmps.getD a undef))
theorem results_eq (fn : Func) (tmps : Array Value) : results fn tmps = (do let vs ← fn.results.mapM (resV tmps); pure (if h : vs.size = 1 then vs[0] else .tuple vs)) := by
  unfold results resV
  rfl
theorem ares_ok (rs : RS w0 A S nt st a) : ∀ (l : List ResultVar) (vs : List AV), ares E st l = some vs →
    ∃ us : List Value, (l.mapM (resV a.tmps)).run E.P S.w = Result.ok us S.w ∧ vs.length = us.length ∧ ∀ (i : Nat) v u, vs[i]? = some v → us[i]? = some u → Rv S v u
  | [], vs, h => by
    cases h
    exact ⟨[], by simp, rfl, fun i v u h => by simp at h⟩
  | .tmp t :: r, vs, h => by
    unfold ares at h
    cases hr : ares E st r with
    | none => rw [hr] at h; cases h
    | some vs' =>
      rw [hr] at h
      cases h
      obtain ⟨us, h1, h2, h3⟩ := ares_ok rs r vs' hr
      refine ⟨a.tmps.getD t undef :: us, ?_, by simp [h2], ?_⟩
      · simp only [List.mapM_cons, resV, Sem.run_bind, Sem.run_pure, Result.andThen_ok, h1]
      · intro i v u hv hu
        cases i with
        | zero => simp at hv hu; subst hv; subst hu; have := rs.fr t; simpa using this
        | succ i => exact h3 i v u (by simpa using hv) (by simpa using hu)
  | .cell p t :: r, vs, h => by
    unfold ares at h
    split at h
    · rename_i b i hp
      split at h
      · rename_i cs hb
        split at h
        · rename_i v vs' h1 h2
          cases h
          obtain ⟨us, h3, h4, h5⟩ := ares_ok rs r vs' h2
          have hrp := rs.fr p
          rw [hp] at hrp
          rcases rs.h.block hb with hz | ⟨B, c, e, fz, hB, hh, q1, q2, q3, q4⟩
          · generalize a.tmps.getD p undef = u at hrp
            cases hrp with
            | ptr _ _ B' _ hB' => rw [hz] at hB'; cases hB'
          generalize hu : a.tmps.getD p undef = u at hrp
          cases hrp with
          | ptr _ _ B' _ hB' =>
            rw [hB] at hB'
            cases hB'
            obtain ⟨u, h6, h7⟩ := load_ok (S := S) (B := B) (f := 0) (fun k => c.getD k undef) h1 (fun i hi => by
              rw [Nat.zero_add, cell_at, hh]
              simp [Array.getD, show i < c.size by omega]) (fun i a' ha => by
                have hi : i < cs.length := (List.getElem?_eq_some_iff.1 ha).1
                have hc : c[i]? = some c[i] := Array.getElem?_eq_getElem (by omega)
                have := q3 i a' c[i] ha hc
                simpa [Array.getD, show i < c.size by omega] using this)
            rw [Nat.zero_add] at h6
            refine ⟨u :: us, ?_, by simp [h4], ?_⟩
            · simp only [List.mapM_cons, resV, Sem.run_bind, Sem.run_pure, hu, asAddr, Result.andThen_ok, h6, h3]
            · intro i v u hv hu
              cases i with
              | zero => simp at hv hu; subst hv; subst hu; exact h7
              | succ i => exact h5 i v u (by simpa using hv) (by simpa using hu)
        · cases h
      · cases h
    · cases h
theorem results_ok {fn : Func} {vs : List AV} (rs : RS w0 A S nt st a) (h : ares E st fn.results.toList = some vs) :
    ∃ u, (results fn a.tmps).run E.P S.w = Result.ok u S.w ∧ Rv S (tupOf vs) u := by
  obtain ⟨us, h1, h2, h3⟩ := ares_ok rs _ _ h
  have h4 : (fn.results.mapM (resV a.tmps)).run E.P S.w = Result.ok us.toArray S.w := by
    rw [Array.mapM_eq_mapM_toList]
    simp only [Sem.run_map, h1]
    rfl
  refine ⟨if h : us.toArray.size = 1 then us.toArray[0] else .tuple us.toArray, ?_, ?_⟩
  · rw [results_eq, Sem.run_bind, h4, Result.andThen_ok, Sem.run_pure]
  · match vs, us, h2, h3 with
    | [v], [u], _, h3 => exact h3 0 v u rfl rfl
    | [], [], _, h3 => exact .tup [] #[] rfl (fun i c v h => by simp at h)
    | v :: v' :: vs, u :: u' :: us, h2, h3 =>
      have : ¬ (u :: u' :: us).toArray.size = 1 := by simp
      rw [dif_neg this]
      exact .tup _ _ (by simpa using h2) (fun i c v hc hv => h3 i c v hc (by simpa using hv))
theorem start_rs {hs : HS} {args : List AV} {vs : Array Value} (r : RH w0 A S hs) (hc : Cs S args vs) :
    RS w0 A S nt { fr := lget args, hs } { tmps := vs ++ Array.replicate (nt - vs.size) undef, defers := [] } where
  h := r
  size := by simp; omega
  defers := rfl
  fr := by
    intro t
    have hl : lget args t = (args[t]?).getD .top := by
      clear hc r
      induction args generalizing t with
      | nil => rfl
      | cons x r ih =>
        cases t with
        | zero => rfl
        | succ t => exact ih t
    show Rv S (lget args t) _
    rw [hl]
    cases hx : args[t]? with
    | none => exact .top _
    | some x =>
      have ht : t < args.length := (List.getElem?_eq_some_iff.1 hx).1
      have hsz := hc.1
      have : (vs ++ Array.replicate (nt - vs.size) undef).getD t undef = vs[t]'(by omega) := by
        rw [Array.getD_eq_getD_getElem?, Array.getElem?_append_left (by omega), Array.getElem?_eq_getElem (by omega)]
        rfl
      rw [this]
      exact hc.2 t x _ hx (Array.getElem?_eq_getElem (by omega))
theorem calls_code {lt : Nat → Option LSpec} {cal : Bool → Callee} {f : FuncId} {fn : Func} {c : Code} {hs : HS} {args : List AV} {vs : Array Value} {K : AV → HS → Prop}
    (hm : E.P.follows .mixedOrders = true) (hT : TabAt E.P w0 A tab) (hC : ∀ m, CalSound E.P w0 A (cal m)) (hcl : CloneSound E) (hD : TabDet (detT E tab)) (hCD : CalGood E (cal false)) (hlt : S.N = 0 ∨ ∀ i, lt i = none) (m : Bool) (hml : m = true ∨ ∀ i, lt i = none)
    (hl : ∀ p ∈ loopsOf c 0, ∀ l, lt p.1 = some l → LSound E tab cal fn.ntmps lt p.1 p.2 l)
    (hf : E.P.funcs[f]? = some fn) (hb : fn.body = some c) (r : RH w0 A S hs) (hc : Cs S args vs)
    (h : acodeM E tab cal fn.ntmps lt m c 0 (afin E fn K) (fun _ _ => False) (afin E fn K) { fr := lget args, hs }) :
    Calls E.P f vs S.w (fun e w' => ∃ v a T hs', e = .returned v ∧ T.w = w' ∧ Le S T ∧ RH w0 A T hs' ∧ Rv T a v ∧ K a hs') := by
  refine calls_of_wp hf hb (wp_mono (code_wp hm hT hC hcl hD hCD hlt m hml c 0 _ _ _ S _ _ hl (.refl S) (start_rs r hc) h) ?_)
  intro e a w he
  cases e with
  | normal =>
    obtain ⟨T, st, rfl, h1, h2, h3⟩ := he
    unfold afin at h3
    split at h3
    · rename_i vs hvs
      obtain ⟨u, h4, h5⟩ := results_ok h2 hvs
      exact ⟨h2.defers, u, h4, u, _, T, st.hs, rfl, rfl, h1, h2.h, h5, h3⟩
    · exact h3.elim
  | exit i => obtain ⟨_, _, _, _, _, h⟩ := he; exact h.elim
  | ret =>
    obtain ⟨T, st, rfl, h1, h2, h3⟩ := he
    unfold afin at h3
    split at h3
    · rename_i vs hvs
      obtain ⟨u, h4, h5⟩ := results_ok h2 hvs
      exact ⟨h2.defers, u, h4, u, _, T, st.hs, rfl, rfl, h1, h2.h, h5, h3⟩
    · exact h3.elim
  | goto l => exact he.elim
  | panic ch => exact he.elim
  | outgrown => exact he.elim
theorem afun_sound (hnn : NoNum E.P) (hm : E.P.follows .mixedOrders = true) (hT : TabAt E.P w0 A tab) (hcl : CloneSound E) (hD : TabDet (detT E tab)) : ∀ d m, CalSound E.P w0 A (afun E tab d m)
  | 0, _ => fun _ _ _ _ h => h.elim
  | d + 1, m => by
    intro f args hs K h
    unfold afun at h
    split at h
    · rename_i fn hf
      split at h
      · rename_i c hb
        cases hn : Nat.ble args.length fn.ntmps with
        | false => rw [hn] at h; exact h.elim
        | true =>
          rw [hn] at h
          refine ⟨callable hnn hf hb, fun S vs r hc => ?_⟩
          cases hr : E.ro f with
          | false =>
            rw [hr] at h
            exact calls_code hm hT (afun_sound hnn hm hT hcl hD d) hcl hD (afun_good hD d) (.inr fun _ => rfl) m (.inr fun _ => rfl) (fun _ _ _ h => by cases h) hf hb r hc h
          | true =>
            rw [hr] at h
            exact calls_code hm hT (afun_sound hnn hm hT hcl hD d) hcl hD (afun_good hD d) (.inr fun _ => rfl) false (.inr fun _ => rfl) (fun _ _ _ h => by cases h) hf hb r hc (acodeR_acode hD (afun_det hD d) hs.hn c 0 _ _ _ _ h)
      · exact h.elim
    · exact h.elim
end
end Gm

namespace Gm
open Go
structure Cod (α : Type) where
  dec : AV → Option α
  enc : α → (AV → Prop) → Prop
  ok : ∀ a x, dec a = some x → ∀ K, enc x K → ∃ b, K b ∧ Closed b ∧ ∀ S v, Rv S a v → Rv S b v
  det : ∀ x, Det (enc x)
def cTy (t : Ty) : Cod t.den where
  dec := dec t
  enc x K := K (enc t x)
  ok _ x h _ k := ⟨_, k, enc_closed' t x, fun _ _ r => r.dec h⟩
  det _ := det_ret _
def cTwo (s t : Ty) : Cod (s.den × t.den) where
  dec
    | .tup [a, b] => match dec s a, dec t b with
      | some x, some y => some (x, y)
      | _, _ => none
    | _ => none
  enc x K := K (.tup [enc s x.1, enc t x.2])
  ok a x h K k := by
    split at h
    · rename_i a b
      split at h
      · rename_i x y hx hy
        cases h
        refine ⟨_, k, .tup _ (fun c hc => ?_), fun S v r => ?_⟩
        · rcases List.mem_cons.1 hc with rfl | hc
          · exact enc_closed' _ _
          · rcases List.mem_cons.1 hc with rfl | hc
            · exact enc_closed' _ _
            · cases hc
        · cases r with
          | tup _ vs e hr =>
            refine .tup _ vs e ?_
            intro i c v hc hv
            match i with
            | 0 => cases hc; exact (hr 0 a v rfl hv).dec hx
            | 1 => cases hc; exact (hr 1 b v rfl hv).dec hy
      · cases h
    · cases h
  det x := det_ret _
def encA : (ts : List Ty) → Dens ts → List AV
  | [], _ => []
  | t :: r, x => enc t x.1 :: encA r x.2
def decA : (ts : List Ty) → List AV → Option (Dens ts)
  | [], [] => some ()
  | t :: r, a :: as => match dec t a, decA r as with
    | some x, some y => some (x, y)
    | _, _ => none
  | _, _ => none
theorem decA_ok : ∀ {ts : List Ty} {as : List AV} {x : Dens ts}, decA ts as = some x → (encA ts x).length = as.length ∧ ∀ (i : Nat) a, as[i]? = some a → ∃ b, (encA ts x)[i]? = some b ∧ Closed b ∧ ∀ S v, Rv S a v → Rv S b v
  | [], [], _, _ => ⟨rfl, fun i a h => by simp at h⟩
  | t :: r, a :: as, x, h => by
    unfold decA at h
    split at h
    · rename_i y z hy hz
      cases h
      obtain ⟨h1, h2⟩ := decA_ok hz
      refine ⟨by simp [encA, h1], ?_⟩
      intro i b hb
      cases i with
      | zero => simp at hb; subst hb; exact ⟨_, rfl, enc_closed' _ _, fun _ _ r => r.dec hy⟩
      | succ i => exact h2 i b (by simpa using hb)
    · cases h
  | [], _ :: _, _, h => by cases h
  | _ :: _, [], _, h => by cases h
def mkEntry {β : Type} (ts : List Ty) (cod : Cod β) (F : Dens ts → (β → Prop) → Prop) : Entry := fun args K => match decA ts args with
  | some x => F x fun r => cod.enc r K
  | none => False
theorem mkEntry_det {β : Type} {ts : List Ty} {cod : Cod β} {F : Dens ts → (β → Prop) → Prop} (h : ∀ x, Det (F x)) (args : List AV) : Det (mkEntry ts cod F args) := by
  unfold mkEntry
  cases decA ts args with
  | none => exact det_false
  | some x => exact det_bind (h x) (fun r => cod.det r)
def LoopsOk (E : Env) (tab : Tab) (lt : Nat → Option LSpec) (d : Nat) (f : FuncId) : Prop :=
  ∀ (fn : Func) (c : Code), E.P.funcs[f]? = some fn → fn.body = some c → ∀ p ∈ loopsOf c 0, ∀ l, lt p.1 = some l → LSound E tab (afun E tab d) fn.ntmps lt p.1 p.2 l
theorem loops_none (E : Env) (tab : Tab) (d : Nat) (f : FuncId) : LoopsOk E tab (fun _ => none) d f := fun _ _ _ _ _ _ _ h => by cases h
def Stable (V : World → Prop) : Prop := ∀ w w', V w → (∀ B, B < w.heap.size → w'.heap[B]? = w.heap[B]?) → V w'
theorem TabSound.here {E : Env} {tab : Tab} (h : TabSound E tab) (st : Stable E.V) {w0 : World} {F : Nat → Nat → Prop} (hv : E.V w0) : TabAt E.P w0 ⟨fun _ => False, F⟩ tab :=
  fun f en he => ⟨(h f en he).1, fun args K hK S vs hr hc => by
    obtain ⟨hs, r⟩ := hr
    exact (h f en he).2 args K hK S vs r.F (st w0 S.w hv (fun B hB => r.old B hB (fun h => h))) hc⟩
structure Ground (E : Env) (tab : Tab) : Prop where
  num : NoNum E.P
  mixed : E.P.follows .mixedOrders = true
  sound : TabSound E tab
  clone : CloneSound E
  det : TabDet (detT E tab)
  stab : Stable E.V
def fresh (S : Sit) : Sit := { w := S.w, F := S.F, G := fun _ => ⟨none, 0, 0, 0⟩, N := 0 }
theorem fresh_rh {S : Sit} (hF : ∀ B o, S.F B o → B < S.w.heap.size) : RH S.w ⟨fun _ => False, S.F⟩ (fresh S) hs0 where
  N := rfl
  dead := fun _ _ => rfl
  blks := fun _ => trivial
  inj := fun _ _ _ _ h => absurd rfl h
  F := hF
  os := rfl
  tape := rfl
  output := rfl
  size := Nat.le_refl _
  old := fun _ _ _ => rfl
  own := fun _ _ h => absurd rfl h
  fo := fun _ _ h _ _ => h
theorem apure_calls {E : Env} {tab : Tab} {lt : Nat → Option LSpec} {d : Nat} {f : FuncId} {args : List AV} {K : AV → Prop} (g : Ground E tab) (hl : LoopsOk E tab lt d f)
    (h : apure E tab lt d f args K) : Callable E.P f ∧ ∀ (S : Sit) (vs : Array Value), (∀ B o, S.F B o → B < S.w.heap.size) → E.V S.w → Cs (fresh S) args vs →
      Calls E.P f vs S.w (fun e w' => ∃ v a T, e = .returned v ∧ T.w = w' ∧ Rv T a v ∧ K a ∧ ∀ b, Closed b → (∀ S v, Rv S a v → Rv S b v) → ∃ U, U.w = w' ∧ Ext S U ∧ Rv U b v) := by
  unfold apure at h
  split at h
  · rename_i fn hf
    split at h
    · rename_i c hb
      cases hn : Nat.ble args.length fn.ntmps with
      | false => rw [hn] at h; exact h.elim
      | true =>
        rw [hn] at h
        refine ⟨callable g.num hf hb, fun S vs hF hv hc => ?_⟩
        have r0 := fresh_rh hF
        have hT := g.sound.here g.stab (F := S.F) hv
        refine (calls_code g.mixed hT (afun_sound g.num g.mixed hT g.clone g.det d) g.clone g.det (afun_good g.det d) (.inl rfl) true (.inl rfl) (hl fn c hf hb) hf hb r0 hc h).mono ?_
        rintro e w' ⟨v, a, T, hs', rfl, rfl, h1, h2, h3, h4⟩
        obtain ⟨U, u1, u2, u3, u4⟩ := roAll_ok (slrs a) T hs' h2
        have h5 : Rv U (Gm.frz hs'.hp a) v := frz_ok u1 u4 (fun _ h => h) h3
        refine ⟨v, _, U, rfl, u2, h5, h4, ?_⟩
        intro b hcb hw
        have h6 := hw U v h5
        have hX : Ext S { w := T.w, F := U.F, G := S.G, N := S.N } := {
          le := ⟨fun B o h => u1.F B o (h1.F B o h), fun B o v hF hc => by
            have := u1.cell B o v (h1.F B o hF) (h1.cell B o v hF hc)
            rw [u2] at this
            exact this, fun _ _ => rfl, Nat.le_refl _⟩
          G := rfl
          N := rfl
          os := h2.os
          tape := h2.tape
          output := h2.output
          size := h2.size
          old := fun B hB => h2.old B hB (fun h => h)
          F := fun B o h => by
            have h7 := u3.F B o h
            rw [u2] at h7
            by_cases hB : B < S.w.heap.size
            · exact .inl (u3.fo B o h hB (fun h => h))
            · exact .inr ⟨by omega, h7⟩ }
        exact ⟨{ w := T.w, F := U.F, G := S.G, N := S.N }, rfl, hX, Rv.closed (S := U) (T := { w := T.w, F := U.F, G := S.G, N := S.N }) ⟨fun _ _ h => h, fun B o v _ hc => by rw [u2] at hc; exact hc⟩ h6 hcb⟩
    · exact h.elim
  · exact h.elim
theorem mkEntry_sound {E : Env} {tab : Tab} {lt : Nat → Option LSpec} {d : Nat} {f : FuncId} {β : Type} {ts : List Ty} {cod : Cod β} {F : Dens ts → (β → Prop) → Prop} (g : Ground E tab) (hl : LoopsOk E tab lt d f)
    (hcall : Callable E.P f) (h : ∀ x K, F x K → apure E tab lt d f (encA ts x) (fun v => match cod.dec v with | some r => K r | none => False)) : EntrySound E f (mkEntry ts cod F) := by
  refine ⟨hcall, ?_⟩
  intro args K hK S vs hF hv hc
  unfold mkEntry at hK
  split at hK
  · rename_i x hx
    obtain ⟨h1, h2⟩ := decA_ok hx
    have hc' : Cs (fresh S) (encA ts x) vs := by
      refine ⟨h1.trans hc.1, ?_⟩
      intro i b v hb hv
      have hi : i < vs.size := (Array.getElem?_eq_some_iff.1 hv).1
      have ha : args[i]? = some (args[i]'(by have := hc.1; omega)) := List.getElem?_eq_getElem _
      obtain ⟨b', hb', hcl, hw⟩ := h2 i _ ha
      rw [hb] at hb'
      cases hb'
      exact Rv.closed (S := S) (T := fresh S) ⟨fun _ _ h => h, fun _ _ _ _ h => h⟩ (hw S v (hc.2 i _ v ha hv)) hcl
    refine ((apure_calls g hl (h x _ hK)).2 S vs hF hv hc').mono ?_
    rintro e w' ⟨v, a, T, rfl, hw, hr, hk, hb⟩
    split at hk
    · rename_i r hdec
      obtain ⟨b, k1, k2, k3⟩ := cod.ok a r hdec K hk
      obtain ⟨U, u1, u2, u3⟩ := hb b k2 k3
      exact ⟨v, b, U, rfl, u1, u2, u3, k1⟩
    · exact hk.elim
  · exact hK.elim
def loopB {α β : Type} (B : (α → Prop) → (α → Prop) → (β → Prop) → α → Prop) : Nat → (α → Prop) → (β → Prop) → α → Prop
  | 0, _, _, _ => False
  | n + 1, kx, kr, x => B (loopB B n kx kr) kx kr x
def mkLoop {α β : Type} (i : Nat) (kp kr : Keep) (pick : St → (α → Prop) → Prop) (canon : α → St) (canonR : β → St) (B : (α → Prop) → (α → Prop) → (β → Prop) → α → Prop) : LSpec :=
  ⟨kp, kr, fun Kx Kr st => pick st fun x => ∃ n, loopB B n (fun x => Kx i (canon x)) (fun r => Kr (canonR r)) x⟩
theorem mkLoop_sound {E : Env} {tab : Tab} {cal : Bool → Callee} {nt : Nat} {lt : Nat → Option LSpec} {i : Nat} {b : Code} {α β : Type} {kp kr : Keep} {pick : St → (α → Prop) → Prop} {canon : α → St} {canonR : β → St}
    {B : (α → Prop) → (α → Prop) → (β → Prop) → α → Prop} (ok : keepOk kp = true) (okr : keepOk kr = true) (hp : ∀ st K, pick st K → ∃ x, keepSt kp st = canon x ∧ K x)
    (hstep : ∀ (R : St → Prop) (Kx : Nat → St → Prop) (Kr : St → Prop) (x : α), acode E tab cal nt lt b i (fun s => R (keepSt kp s)) (fun j s => Kx j (keepSt kp s)) (fun s => Kr (keepSt kr s)) (canon x) =
      B (fun x => R (canon x)) (fun x => Kx i (canon x)) (fun r => Kr (canonR r)) x) :
    LSound E tab cal nt lt i b (mkLoop i kp kr pick canon canonR B) := by
  refine ⟨ok, okr, ?_⟩
  intro Kx Kr st h
  obtain ⟨x, h1, n, h2⟩ := hp st _ h
  refine ⟨n, ?_⟩
  unfold loopSem
  rw [show keepSt (mkLoop i kp kr pick canon canonR B).kp st = canon x from h1]
  have key : ∀ n, loopB B n (fun x => Kx i (canon x)) (fun r => Kr (canonR r)) = fun x => loopN n (fun rec s => acode E tab cal nt lt b i (fun s' => rec (keepSt kp s')) (fun j s' => Kx j (keepSt kp s')) (fun s' => Kr (keepSt kr s')) s) (canon x) := by
    intro n
    induction n with
    | zero => rfl
    | succ n ih =>
      funext x
      show B (loopB B n _ _) _ _ x = acode E tab cal nt lt b i (fun s => loopN n _ (keepSt kp s)) (fun j s => Kx j (keepSt kp s)) (fun s => Kr (keepSt kr s)) (canon x)
      rw [hstep, ih]
  have h3 := congrFun (key n) x
  rw [h3] at h2
  exact h2
end Gm

namespace Gm
open Go
def oget {α : Type} (x : Option α) (K : α → Prop) : Prop := match x with
  | some v => K v
  | none => False
def gInt (k : IntKind) (v : AV) (K : Int → Prop) : Prop := match v with
  | .int k' n => if k' = k then K n else False
  | _ => False
def gBool (v : AV) (K : Bool → Prop) : Prop := match v with
  | .bool b => K b
  | _ => False
def gStr (v : AV) (K : Str → Prop) : Prop := match v with
  | .str b => K b
  | _ => False
def gSl (f : SF) (t : Ty) (v : AV) (K : List t.den → Prop) : Prop := match f, v with
  | .any, .sl .any t' xs => if h : t' = t then K (h ▸ xs) else False
  | .full, .sl .full t' xs => if h : t' = t then K (h ▸ xs) else False
  | .nn, .sl .nn t' xs => if h : t' = t then K (h ▸ xs) else False
  | _, _ => False
def gAgg (v : AV) (K : List AV → Prop) : Prop := match v with
  | .agg cs => K cs
  | _ => False
def gPtr (b o : Nat) (v : AV) (K : Prop) : Prop := match v with
  | .ptr b' o' => bif Nat.beq b' b && Nat.beq o' o then K else False
  | _ => False
def gSnil (v : AV) (K : Prop) : Prop := match v with
  | .snil => K
  | _ => False
def gSlr (v : AV) (K : Nat → Prop) : Prop := match v with
  | .slr b => K b
  | _ => False
def gRow (ro : Bool) (t : Ty) (k : Blk) (K : List t.den → Prop) : Prop := match k with
  | .row ro' t' xs => bif ro' == ro then (if h : t' = t then K (h ▸ xs) else False) else False
  | _ => False
def gCells (k : Blk) (K : List AV → Prop) : Prop := match k with
  | .cells cs => K cs
  | _ => False
def gBlkS (n : Nat) (k : Blk) (K : denS n → Prop) : Prop := match k with
  | .cells cs => match decSG decSl0 n cs with
    | some x => K x
    | none => False
  | _ => False
def gCons (l : List AV) (K : AV → List AV → Prop) : Prop := match l with
  | a :: r => K a r
  | [] => False
def gNil (l : List AV) (K : Prop) : Prop := match l with
  | [] => K
  | _ :: _ => False
def gHomes (kp : Keep) (st : St) (K : Prop) : Prop := bif homesOk kp (hmOf kp st) then K else False
theorem gInt_elim {k : IntKind} {v : AV} {K : Int → Prop} (h : gInt k v K) : ∃ n, v = .int k n ∧ K n := by
  cases v <;> first | exact h.elim | skip
  rename_i k' n
  change (if k' = k then K n else False) at h
  split at h
  · rename_i e; subst e; exact ⟨_, rfl, h⟩
  · exact h.elim
theorem gBool_elim {v : AV} {K : Bool → Prop} (h : gBool v K) : ∃ n, v = .bool n ∧ K n := by
  cases v <;> first | exact h.elim | exact ⟨_, rfl, h⟩
theorem gStr_elim {v : AV} {K : Str → Prop} (h : gStr v K) : ∃ n, v = .str n ∧ K n := by
  cases v <;> first | exact h.elim | exact ⟨_, rfl, h⟩
theorem gSl_elim {f : SF} {t : Ty} {v : AV} {K : List t.den → Prop} (h : gSl f t v K) : ∃ xs, v = .sl f t xs ∧ K xs := by
  cases f <;> cases v <;> first | exact h.elim | skip
  all_goals (rename_i g t' xs; cases g <;> first | exact h.elim | skip)
  all_goals
    change (if h : t' = t then K (h ▸ xs) else False) at h
    split at h
    · rename_i e; subst e; exact ⟨_, rfl, h⟩
    · exact h.elim
theorem gAgg_elim {v : AV} {K : List AV → Prop} (h : gAgg v K) : ∃ n, v = .agg n ∧ K n := by
  cases v <;> first | exact h.elim | exact ⟨_, rfl, h⟩
theorem gPtr_elim {b o : Nat} {v : AV} {K : Prop} (h : gPtr b o v K) : v = .ptr b o ∧ K := by
  cases v <;> first | exact h.elim | skip
  rename_i b' o'
  change (bif Nat.beq b' b && Nat.beq o' o then K else False) at h
  cases e : Nat.beq b' b with
  | false => rw [e] at h; exact h.elim
  | true =>
    cases e2 : Nat.beq o' o with
    | false => rw [e, e2] at h; exact h.elim
    | true => rw [e, e2] at h; cases Nat.eq_of_beq_eq_true e; cases Nat.eq_of_beq_eq_true e2; exact ⟨rfl, h⟩
theorem gSnil_elim {v : AV} {K : Prop} (h : gSnil v K) : v = .snil ∧ K := by
  cases v <;> first | exact h.elim | exact ⟨rfl, h⟩
theorem gSlr_elim {v : AV} {K : Nat → Prop} (h : gSlr v K) : ∃ b, v = .slr b ∧ K b := by
  cases v <;> first | exact h.elim | exact ⟨_, rfl, h⟩
theorem gRow_elim {ro : Bool} {t : Ty} {k : Blk} {K : List t.den → Prop} (h : gRow ro t k K) : ∃ xs, k = .row ro t xs ∧ K xs := by
  cases k <;> first | exact h.elim | skip
  rename_i ro' t' xs
  change (bif ro' == ro then (if h : t' = t then K (h ▸ xs) else False) else False) at h
  cases e : ro' == ro with
  | false => rw [e] at h; exact h.elim
  | true =>
    rw [e] at h
    have e2 : ro' = ro := by simpa using e
    subst e2
    simp only [cond_true] at h
    split at h
    · rename_i e3; subst e3; exact ⟨_, rfl, h⟩
    · exact h.elim
theorem gBlkS_elim {n : Nat} {k : Blk} {K : denS n → Prop} (h : gBlkS n k K) : ∃ cs x, k = .cells cs ∧ normC n cs = .cells (encS n x) ∧ K x := by
  unfold gBlkS at h
  split at h
  · rename_i cs
    split at h
    · rename_i x hx
      refine ⟨cs, x, rfl, ?_, h⟩
      unfold decSG at hx
      unfold normC
      split at hx
      · rename_i d hd
        cases hx
        try rw [hd]
        unfold encS
        rw [unS_mkS]
      · cases hx
    · exact h.elim
  · exact h.elim
theorem gCells_elim {k : Blk} {K : List AV → Prop} (h : gCells k K) : ∃ cs, k = .cells cs ∧ K cs := by
  cases k <;> first | exact h.elim | exact ⟨_, rfl, h⟩
theorem gCons_elim {l : List AV} {K : AV → List AV → Prop} (h : gCons l K) : ∃ a r, l = a :: r ∧ K a r := by
  cases l <;> first | exact h.elim | exact ⟨_, _, rfl, h⟩
theorem gNil_elim {l : List AV} {K : Prop} (h : gNil l K) : l = [] ∧ K := by
  cases l <;> first | exact h.elim | exact ⟨rfl, h⟩
theorem gHomes_elim {kp : Keep} {st : St} {K : Prop} (h : gHomes kp st K) : homesOk kp (hmOf kp st) = true ∧ K := by
  unfold gHomes at h
  cases e : homesOk kp (hmOf kp st) with
  | false => rw [e] at h; exact h.elim
  | true => rw [e] at h; exact ⟨rfl, h⟩
theorem loops_of {E : Env} {tab : Tab} {lt : Nat → Option LSpec} {d f nt : Nat} {ids : List Nat} (hn : (E.P.funcs[f]?).map (·.ntmps) = some nt) (hids : (loopsIn E.P f).map (·.1) = ids)
    (h : ∀ k i, ids[k]? = some i → ∀ l, lt i = some l → LSound E tab (afun E tab d) nt lt i ((loopsIn E.P f).getD k (0, .skip)).2 l) : LoopsOk E tab lt d f := by
  intro fn c hf hb p hp l hl
  have e1 : fn.ntmps = nt := by rw [hf] at hn; simpa using hn
  have e2 : loopsIn E.P f = loopsOf c 0 := by unfold loopsIn; rw [hf]; simp only; rw [hb]
  obtain ⟨k, hk, he⟩ := List.mem_iff_getElem.1 hp
  have h1 : ids[k]? = some p.1 := by rw [← hids, e2, List.getElem?_map, List.getElem?_eq_getElem hk, he]; rfl
  have h2 := h k p.1 h1 l hl
  rw [e2, List.getD_eq_getElem?_getD, List.getElem?_eq_getElem hk] at h2
  simp only [Option.getD_some, he] at h2
  rw [e1]
  exact h2
theorem nonum_of {P : Program} (h : (P.funcs.toList.all fun fn => !(fn.name == "runtime.NumGoroutine")) = true) : NoNum P := by
  intro f fn hf
  have hm : fn ∈ P.funcs.toList := Array.mem_toList_iff.2 (Array.mem_of_getElem? hf)
  have := List.all_eq_true.1 h fn hm
  simpa using this
theorem tab_nil (E : Env) : TabSound E [] := fun _ _ h => by cases h
theorem tab_cons {E : Env} {f : Nat} {en : Entry} {r : Tab} (h : EntrySound E f en) (hr : TabSound E r) : TabSound E ((f, en) :: r) := by
  intro g e he
  unfold tabGet at he
  cases hb : Nat.beq f g with
  | true => rw [hb] at he; cases he; cases Nat.eq_of_beq_eq_true hb; exact h
  | false => rw [hb] at he; exact hr g e he
theorem dtab_nil {E : Env} : TabDet (detT E []) := fun _ _ h => by cases h
theorem dtab_cons {E : Env} {f : Nat} {en : Entry} {r : Tab} (h : ∀ args, Det (en args)) (hr : TabDet (detT E r)) : TabDet (detT E ((f, en) :: r)) := by
  intro g e he
  unfold detT at he hr
  cases hn : E.nd f with
  | true => rw [List.filter_cons_of_neg (by simp [hn])] at he; exact hr g e he
  | false =>
    rw [List.filter_cons_of_pos (by simp [hn])] at he
    unfold tabGet at he
    cases hb : Nat.beq f g with
    | true => rw [hb] at he; cases he; exact h
    | false => rw [hb] at he; exact hr g e he
theorem dtab_nd {E : Env} {f : Nat} {en : Entry} {r : Tab} (h : E.nd f = true) (hr : TabDet (detT E r)) : TabDet (detT E ((f, en) :: r)) := by
  intro g e he
  unfold detT at he hr
  rw [List.filter_cons_of_neg (by simp [h])] at he
  exact hr g e he
theorem det_oget {α β : Type} (x : Option α) {T : α → (β → Prop) → Prop} (hT : ∀ v, Det (T v)) : Det (fun K => oget x fun v => T v K) := by
  cases x
  · exact det_false
  · exact hT _
theorem det_loop {α β γ : Type} {B : (α → Prop) → (α → Prop) → (β → Prop) → α → Prop} {X : α → (γ → Prop) → Prop} {R : β → (γ → Prop) → Prop}
    (hB : ∀ x, Det (fun K : α ⊕ α ⊕ β → Prop => B (fun y => K (.inl y)) (fun y => K (.inr (.inl y))) (fun r => K (.inr (.inr r))) x))
    (hX : ∀ x, Det (X x)) (hR : ∀ r, Det (R r)) (x0 : α) : Det (fun K => ∃ n, loopB B n (fun x => X x K) (fun r => R r K) x0) := by
  have key : ∀ n x K, loopB B n (fun x => X x K) (fun r => R r K) x → ∃ v, K v ∧ ∀ K', K' v → loopB B n (fun x => X x K') (fun r => R r K') x := by
    intro n
    induction n with
    | zero => intro x K h; exact h.elim
    | succ n ih =>
      intro x K h
      obtain ⟨o, h1, h2⟩ := hB x (fun o => match o with
        | .inl y => loopB B n (fun x => X x K) (fun r => R r K) y
        | .inr (.inl y) => X y K
        | .inr (.inr r) => R r K) h
      match o, h1, h2 with
      | .inl y, h1, h2 =>
        obtain ⟨v, h3, h4⟩ := ih y K h1
        exact ⟨v, h3, fun K' hk => h2 (fun o => match o with
          | .inl y => loopB B n (fun x => X x K') (fun r => R r K') y
          | .inr (.inl y) => X y K'
          | .inr (.inr r) => R r K') (h4 K' hk)⟩
      | .inr (.inl y), h1, h2 =>
        obtain ⟨v, h3, h4⟩ := hX y K h1
        exact ⟨v, h3, fun K' hk => h2 (fun o => match o with
          | .inl y => loopB B n (fun x => X x K') (fun r => R r K') y
          | .inr (.inl y) => X y K'
          | .inr (.inr r) => R r K') (h4 K' hk)⟩
      | .inr (.inr r), h1, h2 =>
        obtain ⟨v, h3, h4⟩ := hR r K h1
        exact ⟨v, h3, fun K' hk => h2 (fun o => match o with
          | .inl y => loopB B n (fun x => X x K') (fun r => R r K') y
          | .inr (.inl y) => X y K'
          | .inr (.inr r) => R r K') (h4 K' hk)⟩
  intro K h
  obtain ⟨n, h⟩ := h
  obtain ⟨v, h1, h2⟩ := key n x0 K h
  exact ⟨v, h1, fun K' hk => ⟨n, h2 K' hk⟩⟩
end Gm
