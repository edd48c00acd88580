/- Masks: what the functions answer. -/
import Derived.Test.YtfjhdboapcckpaaGreatDoorGdC
import Derived.Test.YtfjhdboapcckpaaGreatDoorGdT3
set_option maxRecDepth 100000
namespace Gm
open Go
theorem use_eq {α : Type} {K : α → Prop} {a b : α} (h : K a) (e : a = b) : K b := e ▸ h
theorem round1 {α β : Type} {B : (α → Prop) → (α → Prop) → (β → Prop) → α → Prop} {n : Nat} {kx : α → Prop} {kr : β → Prop} {x : α}
    (h : B (loopB B n kx kr) kx kr x) : loopB B (n + 1) kx kr x := h
theorem or_new {m i : Nat} (h : m.testBit i = false) : m ||| 2 ^ i = m + 2 ^ i := by
  have hp : 0 < 2 ^ i := Nat.two_pow_pos i
  have hb : m / 2 ^ i % 2 = 0 := by
    rw [Nat.testBit_eq_decide_div_mod_eq] at h
    have := of_decide_eq_false h
    omega
  have hr : m % 2 ^ (i + 1) < 2 ^ i := by
    rw [Nat.pow_succ, Nat.mod_mul, hb]
    have := Nat.mod_lt m hp
    omega
  have e := Nat.div_add_mod m (2 ^ (i + 1))
  generalize hq : m / 2 ^ (i + 1) = q at e
  generalize hm : m % 2 ^ (i + 1) = r at e hr
  have e1 : 2 ^ (i + 1) * q + r = 2 ^ (i + 1) * q ||| r := Nat.two_pow_add_eq_or_of_lt (by rw [Nat.pow_succ]; omega) q
  have e2 : 2 ^ i * 1 + r = 2 ^ i * 1 ||| r := Nat.two_pow_add_eq_or_of_lt hr 1
  have e3 : 2 ^ (i + 1) * q + (2 ^ i + r) = 2 ^ (i + 1) * q ||| (2 ^ i + r) := Nat.two_pow_add_eq_or_of_lt (by rw [Nat.pow_succ]; omega) q
  rw [Nat.mul_one] at e2
  rw [← e, e1, Nat.or_assoc, Nat.or_comm r, ← e2, ← e3, ← e1]
  omega
theorem or_old {m i : Nat} (h : m.testBit i = true) : m ||| 2 ^ i = m := by
  apply Nat.eq_of_testBit_eq
  intro j
  rw [Nat.testBit_or, Nat.testBit_two_pow]
  by_cases e : i = j
  · subst e; rw [h]; simp
  · simp [e]
theorem sub_bit {m i : Nat} (h : m.testBit i = true) : 2 ^ i ≤ m ∧ (m - 2 ^ i).testBit i = false ∧ m = (m - 2 ^ i) ||| 2 ^ i := by
  have h1 := Nat.ge_two_pow_of_testBit h
  have h2 : (m - 2 ^ i).testBit i = false := by
    rw [Nat.testBit_eq_decide_div_mod_eq] at h ⊢
    have h := of_decide_eq_true h
    have hp : 0 < 2 ^ i := Nat.two_pow_pos i
    have : (m - 2 ^ i) / 2 ^ i = m / 2 ^ i - 1 := by
      have := Nat.sub_mul_div m (2 ^ i) 1
      rw [Nat.mul_one] at this
      exact this
    rw [this]
    exact decide_eq_false (by omega)
  exact ⟨h1, h2, by rw [or_new h2]; omega⟩
theorem andn_bit {m i : Nat} (hm : m < 4294967296) (hi : i < 32) : m &&& (4294967296 - 1 - 2 ^ i) = if m.testBit i = true then m - 2 ^ i else m := by
  have hx : ∀ j, (4294967296 - 1 - 2 ^ i).testBit j = (decide (j < 32) && !(decide (i = j))) := by
    intro j
    have h1 : 4294967296 - 1 - 2 ^ i = 2 ^ 32 - (2 ^ i + 1) := by omega
    rw [h1, Nat.testBit_two_pow_sub_succ (by simpa using pow_lt32 hi), Nat.testBit_two_pow]
  apply Nat.eq_of_testBit_eq
  intro j
  rw [Nat.testBit_and, hx]
  have hj : m.testBit j = true → j < 32 := by
    intro h
    refine Nat.lt_of_not_le fun hge => ?_
    have h1 := Nat.ge_two_pow_of_testBit h
    have : 2 ^ 32 ≤ 2 ^ j := Nat.pow_le_pow_right (by decide) hge
    omega
  by_cases hb : m.testBit i = true
  · rw [if_pos hb]
    obtain ⟨_, h2, h3⟩ := sub_bit hb
    generalize m - 2 ^ i = w at h2 h3
    by_cases e : i = j
    · subst e; rw [h2]; simp
    · have : m.testBit j = w.testBit j := by
        rw [h3, Nat.testBit_or, Nat.testBit_two_pow]; simp [e]
      rw [← this]
      cases hc : m.testBit j with
      | false => rfl
      | true => simp [hj hc, e]
  · rw [if_neg hb]
    cases hc : m.testBit j with
    | false => rfl
    | true =>
      have : i ≠ j := fun e => by subst e; exact hb hc
      simp [hj hc, this]
theorem iandn_nat {x y : Nat} (hx : x < 4294967296) (hy : y < 4294967296) : iandn .u32 (x : Int) (y : Int) = ((x &&& (4294967296 - 1 - y) : Nat) : Int) := by
  unfold iandn
  rw [ofInt_nat, ofInt_nat, wrap_nat rfl]
  show (((BitVec.ofNat 32 x &&& ~~~BitVec.ofNat 32 y).toNat % 2 ^ 32 : Nat) : Int) = _
  rw [BitVec.toNat_and, BitVec.toNat_not, BitVec.toNat_ofNat, BitVec.toNat_ofNat, Nat.mod_eq_of_lt (a := x) (by simpa using hx), Nat.mod_eq_of_lt (a := y) (by simpa using hy)]
  congr 1
  exact Nat.mod_eq_of_lt (Nat.lt_of_le_of_lt Nat.and_le_left (by simpa using hx))
theorem has_ok {m i : Int} (hm : inK .u32 m) {K : Bool → Prop} (h : K (hasM m i)) : q47.F m i K := by
  obtain ⟨h1, h2⟩ := u32_toNat hm
  by_cases hi : 0 ≤ i ∧ i < 32
  · have e : ((i.toNat : Nat) : Int) = i := by omega
    have e2 : hasM m i = m.toNat.testBit i.toNat := by unfold hasM; simp [hi]
    rw [e2] at h
    have := ref03_Has_ok (m := m.toNat) (i := i.toNat) (by simpa using h1) (by omega) h
    rw [h2, e] at this
    exact this
  · have e2 : hasM m i = false := by unfold hasM; simp [hi]
    rw [e2] at h
    unfold q47.F q47.FV
    refine cond_ok (fun h3 => cond_ok (fun h4 => ?_) (fun _ => h)) (fun _ => h)
    have h3 : i ≥ 0 := of_decide_eq_true h3
    have h4 : i < 32 := of_decide_eq_true h4
    exact absurd ⟨h3, h4⟩ hi
def setL (m : Int) (l : List Int) : Int := l.foldl setM m
theorem setL_u32 : ∀ (l : List Int) (m : Int), inK .u32 m → inK .u32 (setL m l)
  | [], _, h => h
  | i :: l, m, h => setL_u32 l (setM m i) (set_u32 h)
theorem set_new {m i : Int} (hm : inK .u32 m) (hi : 0 ≤ i ∧ i < 32) (h : hasM m i = false) : IntKind.u32.wrap (m + ((2 ^ i.toNat : Nat) : Int)) = setM m i := by
  obtain ⟨h1, h2⟩ := u32_toNat hm
  have hb : m.toNat.testBit i.toNat = false := by unfold hasM at h; simpa [hi] using h
  have e : setM m i = ((m.toNat + 2 ^ i.toNat : Nat) : Int) := by unfold setM; rw [if_pos hi, or_new hb]
  have hs := set_u32 (i := i) hm
  rw [e] at hs ⊢
  have hs : (0 : Int) ≤ ((m.toNat + 2 ^ i.toNat : Nat) : Int) ∧ ((m.toNat + 2 ^ i.toNat : Nat) : Int) ≤ 4294967295 := hs
  rw [show m + ((2 ^ i.toNat : Nat) : Int) = ((m.toNat + 2 ^ i.toNat : Nat) : Int) by omega, wrap_u32]
  omega
theorem set_old {m i : Int} (hm : inK .u32 m) (hi : 0 ≤ i ∧ i < 32) (h : hasM m i = true) : m = setM m i := by
  obtain ⟨h1, h2⟩ := u32_toNat hm
  have hb : m.toNat.testBit i.toNat = true := by unfold hasM at h; simpa [hi] using h
  unfold setM
  rw [if_pos hi, or_old hb]
  exact h2.symm
theorem ref03_Set_ok {m : Int} {l : List Int} (hl : l.length ≤ 1000) (hm : inK .u32 m) {K : Int → Prop} (h : K (setL m l)) : q101.F m l K := by
  unfold q101.F q101.FV
  refine loop_ok (I := fun x : q101.L0 => ∃ k : Nat, k ≤ l.length ∧ x = ⟨setL m (l.take k), l, k⟩) (m := fun x : q101.L0 => l.length - x.k.toNat) ?_ ⟨0, by omega, rfl⟩
  rintro _ ⟨k, hk, rfl⟩ rec hrec
  unfold q101.b0V
  dsimp only
  refine cond_ok (fun h1 => ?_) (fun h1 => ?_)
  · have hlt := lt_of_dec h1
    have hu := setL_u32 (l.take k) m hm
    have hstep : setL m (l.take (k + 1)) = setM (setL m (l.take k)) l[k] := by
      unfold setL
      rw [take_succ hlt, List.foldl_append]
      rfl
    have next : ∀ v, v = setL m (l.take (k + 1)) → rec ⟨v, l, IntKind.i64.wrap ((k : Int) + 1)⟩ := by
      intro v hv
      rw [wrap_lt hlt (by unfold big; omega)]
      exact hrec _ ⟨k + 1, hlt, by rw [hv]⟩ (by show l.length - ((k + 1 : Nat) : Int).toNat < l.length - ((k : Nat) : Int).toNat; omega)
    refine oget_ok (getI_ok hlt) (cond_ok (fun h2 => ?_) (fun h2 => ?_))
    · have h2 : l[k] ≥ 0 := of_decide_eq_true h2
      refine oget_ok (getI_ok hlt) (cond_ok (fun h3 => ?_) (fun h3 => ?_))
      · have h3 : l[k] < 32 := of_decide_eq_true h3
        refine oget_ok (getI_ok hlt) (has_ok hu (cond_ok (fun h4 => ?_) (fun h4 => ?_)))
        · refine oget_ok (getI_ok hlt) ?_
          have e : ((l[k].toNat : Nat) : Int) = l[k] := by omega
          have key : ∀ v : Int, v = l[k] → q46.F v fun r6 => rec ⟨IntKind.u32.wrap (setL m (l.take k) + r6), l, IntKind.i64.wrap ((k : Int) + 1)⟩ := by
            intro v hv
            rw [hv, ← e]
            refine ref03_pow_ok (by omega) (next _ ?_)
            rw [hstep]
            have := set_new hu ⟨h2, h3⟩ (not_t h4)
            simpa using this
          exact key _ rfl
        · exact next _ (by rw [hstep]; exact set_old hu ⟨h2, h3⟩ (not_f h4))
      · refine next _ ?_
        rw [hstep]
        have h3 : ¬ l[k] < 32 := of_decide_eq_false h3
        unfold setM
        rw [if_neg (by omega)]
    · refine next _ ?_
      rw [hstep]
      have h2 : ¬ l[k] ≥ 0 := of_decide_eq_false h2
      unfold setM
      rw [if_neg (by omega)]
  · have e := le_of_dec h1 hk
    subst e
    rw [List.take_length]
    exact h
theorem ref03_Clear_ok {m i : Int} (hm : inK .u32 m) {K : Int → Prop} (h : K (clrM m i)) : q109.F m [i] K := by
  unfold q109.F q109.FV
  have step : ∀ (n : Nat) (v : Int), v = clrM m i → loopB (q109.b0V q47.F q46.F) (n + 1) (fun x5 : q109.L0 => K x5.m) (fun _ => False) ⟨v, [i], IntKind.i64.wrap ((0 : Int) + 1)⟩ := by
    intro n v hv
    refine round1 ?_
    unfold q109.b0V
    refine cond_f (by rfl) ?_
    rw [hv]; exact h
  refine ⟨2, round1 ?_⟩
  unfold q109.b0V
  refine cond_t (by rfl) (oget_ok (v := i) rfl (has_ok hm (cond_ok (fun h1 => ?_) (fun h1 => ?_))))
  · refine oget_ok (v := i) rfl ?_
    have h1' := h1
    unfold hasM at h1'
    rw [Bool.and_eq_true] at h1'
    have hi := of_decide_eq_true h1'.1
    have e : ((i.toNat : Nat) : Int) = i := by omega
    have key : ∀ v : Int, v = i → q46.F v fun r4 => loopB (q109.b0V q47.F q46.F) 1 (fun x5 : q109.L0 => K x5.m) (fun _ => False) ⟨IntKind.u32.wrap (m - r4), [i], IntKind.i64.wrap ((0 : Int) + 1)⟩ := by
      intro v hv
      rw [hv, ← e]
      refine ref03_pow_ok (by omega) (step 0 _ ?_)
      have hc := clr_u32 (i := i) hm
      have e2 : clrM m i = m - ((2 ^ i.toNat : Nat) : Int) := by unfold clrM; rw [if_pos h1]
      rw [e2] at hc ⊢
      have hc : (0 : Int) ≤ m - ((2 ^ i.toNat : Nat) : Int) ∧ m - ((2 ^ i.toNat : Nat) : Int) ≤ 4294967295 := hc
      rw [wrap_u32]
      omega
    exact key _ rfl
  · refine step 0 _ ?_
    unfold clrM
    rw [if_neg (by rw [h1]; simp)]
def bitsI (m : Int) (k : Nat) : List Int := ((List.range k).filter fun (i : Nat) => m.toNat.testBit i).map fun (i : Nat) => (i : Int)
theorem bitsI_len (m : Int) (k : Nat) : (bitsI m k).length ≤ k := by
  unfold bitsI
  rw [List.length_map]
  have := List.length_filter_le (fun i => m.toNat.testBit i) (List.range k)
  simpa using this
theorem has_nat {m : Int} {k : Nat} (hk : k < 32) : hasM m (k : Int) = m.toNat.testBit k := by unfold hasM; simp; omega
theorem ref03_List_ok {m : Int} (hm : inK .u32 m) {K : List Int → Prop} (h : K (bitsI m 32)) : q111.F m K := by
  unfold q111.F q111.FV
  refine loop_ok (I := fun x : q111.L0 => ∃ k : Nat, k ≤ 32 ∧ x = ⟨m, bitsI m k, k⟩) (m := fun x : q111.L0 => 32 - x.i.toNat) ?_ ⟨0, by omega, rfl⟩
  rintro _ ⟨k, hk, rfl⟩ rec hrec
  unfold q111.b0V
  dsimp only
  refine cond_ok (fun h1 => ?_) (fun h1 => ?_)
  · have hlt : (k : Int) < 32 := of_decide_eq_true h1
    have hw : IntKind.i64.wrap ((k : Int) + 1) = ((k + 1 : Nat) : Int) := wrap_lt (m := 32) (by omega) (by unfold big; omega)
    have hs : bitsI m (k + 1) = if m.toNat.testBit k = true then bitsI m k ++ [(k : Int)] else bitsI m k := by
      unfold bitsI
      rw [List.range_succ, List.filter_append, List.map_append]
      by_cases hb : m.toNat.testBit k = true
      · rw [if_pos hb]; simp [hb]
      · rw [if_neg hb]; simp [hb]
    have hl := bitsI_len m k
    refine has_ok hm ?_
    rw [has_nat (by omega)]
    refine cond_ok (fun h2 => ?_) (fun h2 => ?_)
    · refine gd_ok (fit_ok (by simp; omega)) ?_
      rw [hw]
      refine hrec _ ⟨k + 1, by omega, ?_⟩ (by show 32 - ((k + 1 : Nat) : Int).toNat < 32 - ((k : Nat) : Int).toNat; omega)
      rw [hs, if_pos h2]
    · rw [hw]
      refine hrec _ ⟨k + 1, by omega, ?_⟩ (by show 32 - ((k + 1 : Nat) : Int).toNat < 32 - ((k : Nat) : Int).toNat; omega)
      rw [hs, if_neg (by rw [h2]; simp)]
  · have hlt : ¬ (k : Int) < 32 := of_decide_eq_false h1
    have : k = 32 := by omega
    subst this
    exact h
theorem setL_bit (l : List Nat) : ∀ (m : Int), inK .u32 m → (∀ i ∈ l, i < 32) → ∀ j, (setL m (l.map fun (i : Nat) => (i : Int))).toNat.testBit j = (m.toNat.testBit j || decide (j ∈ l)) := by
  induction l with
  | nil => intro m _ _ j; simp [setL]
  | cons i l ih =>
    intro m hm hl j
    have hi := hl i (by simp)
    have e : setM m (i : Int) = ((m.toNat ||| 2 ^ i : Nat) : Int) := by unfold setM; rw [if_pos (by omega)]; simp
    show (setL (setM m (i : Int)) (l.map fun (i : Nat) => (i : Int))).toNat.testBit j = _
    rw [ih _ (set_u32 hm) (fun x hx => hl x (by simp [hx])), e]
    simp only [Int.toNat_natCast, Nat.testBit_or, Nat.testBit_two_pow, List.mem_cons]
    by_cases h1 : i = j
    · subst h1; simp
    · have : ¬ j = i := fun x => h1 x.symm
      simp [h1, this]
theorem bits_of {m : Int} (hm : inK .u32 m) (j : Nat) : decide (j ∈ (List.range 32).filter fun i => m.toNat.testBit i) = m.toNat.testBit j := by
  have hj : m.toNat.testBit j = true → j < 32 := by
    intro h
    refine Nat.lt_of_not_le fun hge => ?_
    have h1 := Nat.ge_two_pow_of_testBit h
    have h2 := (u32_toNat hm).1
    have : 2 ^ 32 ≤ 2 ^ j := Nat.pow_le_pow_right (by decide) hge
    omega
  rw [Bool.eq_iff_iff, decide_eq_true_eq, List.mem_filter, List.mem_range]
  exact ⟨fun h => h.2, fun h => ⟨hj h, h⟩⟩
theorem setL_or {a b : Int} (ha : inK .u32 a) (hb : inK .u32 b) : setL a (bitsI b 32) = orM a b := by
  have hu := setL_u32 (bitsI b 32) a ha
  have e : (setL a (bitsI b 32)).toNat = a.toNat ||| b.toNat := by
    apply Nat.eq_of_testBit_eq
    intro j
    unfold bitsI
    rw [setL_bit _ a ha (fun i hi => List.mem_range.1 (List.mem_filter.1 hi).1), bits_of hb, Nat.testBit_or]
  unfold orM
  rw [← e]
  exact (u32_toNat hu).2.symm
theorem u32_zero : inK .u32 0 := inK_u32 (n := 0) (by decide)
theorem or_zero {b : Int} (hb : inK .u32 b) : orM 0 b = b := by
  unfold orM
  rw [show (0 : Int).toNat = 0 from rfl, Nat.zero_or]
  exact (u32_toNat hb).2
theorem ref03_Union_ok {a b : Int} (ha : inK .u32 a) (hb : inK .u32 b) {K : Int → Prop} (h : K (orM a b)) : q112.F [a, b] K := by
  unfold q112.F q112.FV
  refine ⟨3, round1 ?_⟩
  unfold q112.b0V
  have l1 := bitsI_len a 32
  have l2 := bitsI_len b 32
  refine cond_t (by rfl) (oget_ok (v := a) rfl (ref03_List_ok ha (ref03_Set_ok (by omega) u32_zero (round1 ?_))))
  rw [setL_or u32_zero ha, or_zero ha]
  refine cond_t (by rfl) (oget_ok (v := b) rfl (ref03_List_ok hb (ref03_Set_ok (by omega) ha (round1 ?_))))
  rw [setL_or ha hb]
  exact cond_f (by rfl) h
theorem mask_of_ok {i : Int} {K : Int → Prop} (h : K (if 0 ≤ i ∧ i < 32 then ((2 ^ i.toNat : Nat) : Int) else 0)) : q65.F [i] K := by
  unfold q65.F q65.FV
  refine ⟨2, round1 ?_⟩
  unfold q65.b0V
  have fin : ∀ v, v = (if 0 ≤ i ∧ i < 32 then ((2 ^ i.toNat : Nat) : Int) else 0) → loopB (q65.b0V q19.F) 1 (fun x3 : q65.L0 => K x3.m) (fun _ => False) ⟨v, [i], (([i] : List Int).length : Int), IntKind.i64.wrap ((0 : Int) + 1)⟩ := by
    intro v hv
    refine round1 ?_
    unfold q65.b0V
    refine cond_f (by rfl) ?_
    rw [hv]; exact h
  refine cond_t (by rfl) (oget_ok (v := i) rfl (mask_there_ok (cond_ok (fun h1 => ?_) (fun h1 => ?_))))
  · have h1 := of_decide_eq_true h1
    refine cond_t (decide_eq_true h1.1) (fin _ ?_)
    rw [if_pos h1]
    obtain ⟨i, rfl⟩ : ∃ n : Nat, i = n := ⟨i.toNat, by omega⟩
    have hp := pow_lt32 (i := i) (by omega)
    rw [show (1 : Int) = ((1 : Nat) : Int) from rfl, ishl_nat rfl 1 (by show i ≤ 32; omega), Nat.one_mul]
    rw [show (0 : Int) = ((0 : Nat) : Int) from rfl]
    rw [Nat.mod_eq_of_lt (by show _ < 2 ^ 32; exact hp), ior_nat rfl (by decide) (by show _ < 2 ^ 32; exact hp), Nat.zero_or]
    simp
  · have h1 := of_decide_eq_false h1
    exact fin _ (by rw [if_neg h1])
theorem maskSet_ok {m i : Int} (hm : inK .u32 m) {K : Int → Prop} (h : K (setM m i)) : q66.F m [i] K := by
  unfold q66.F q66.FV
  refine mask_of_ok ?_
  obtain ⟨h1, h2⟩ := u32_toNat hm
  refine use_eq h ?_
  unfold setM
  by_cases hi : 0 ≤ i ∧ i < 32
  · rw [if_pos hi, if_pos hi]
    have hp := pow_lt32 (i := i.toNat) (by omega)
    have := ior_nat (k := .u32) rfl (x := m.toNat) (y := 2 ^ i.toNat) (by show _ < 2 ^ 32; exact h1) (by show _ < 2 ^ 32; exact hp)
    rw [h2] at this
    exact this.symm
  · rw [if_neg hi, if_neg hi]
    have := ior_nat (k := .u32) rfl (x := m.toNat) (y := 0) (by show _ < 2 ^ 32; exact h1) (by decide)
    rw [h2, Nat.or_zero] at this
    rw [show (0 : Int) = ((0 : Nat) : Int) from rfl, this]
    exact h2.symm
theorem maskClear_ok {m i : Int} (hm : inK .u32 m) {K : Int → Prop} (h : K (clrM m i)) : q84.F m [i] K := by
  unfold q84.F q84.FV
  refine mask_of_ok ?_
  obtain ⟨h1, h2⟩ := u32_toNat hm
  refine use_eq h ?_
  unfold clrM hasM
  by_cases hi : 0 ≤ i ∧ i < 32
  · rw [if_pos hi]
    have hp := pow_lt32 (i := i.toNat) (by omega)
    have := iandn_nat h1 hp
    rw [h2] at this
    rw [this, andn_bit h1 (by omega)]
    have hd : decide (0 ≤ i ∧ i < 32) = true := decide_eq_true hi
    rw [hd, Bool.true_and]
    split
    · rename_i hb
      have := (sub_bit hb).1
      omega
    · exact h2.symm
  · rw [if_neg hi]
    have hd : decide (0 ≤ i ∧ i < 32) = false := decide_eq_false hi
    rw [hd, Bool.false_and, if_neg (by simp)]
    have := iandn_nat h1 (y := 0) (by decide)
    rw [h2] at this
    rw [show (0 : Int) = ((0 : Nat) : Int) from rfl, this]
    have : m.toNat &&& (4294967296 - 1 - 0) = m.toNat := by
      have := Nat.and_two_pow_sub_one_of_lt_two_pow (n := 32) (x := m.toNat) (by show _ < 2 ^ 32; exact h1)
      simpa using this
    rw [this]
    exact h2.symm
end Gm

set_option maxRecDepth 100000
namespace Gm
open Go
theorem u64_nat {g : Int} (h : inK .u64 g) : ((g.toNat : Nat) : Int) = g ∧ g.toNat < 2 ^ 64 := by
  have h : 0 ≤ g ∧ g ≤ 18446744073709551615 := h
  constructor
  · omega
  · show g.toNat < 18446744073709551616; omega
theorem ref01_put64 {g : Int} (h : inK .u64 g) {K : Str → Prop} (k : K (be g.toNat 8)) : q27.F g K := by
  have := ref01_Put64_ok (u64_nat h).2 k
  rwa [(u64_nat h).1] at this
theorem num_put64 {g : Int} (h : inK .u64 g) {K : Str → Prop} (k : K (be g.toNat 8)) : q87.F g K := by
  have := num_Put64_ok (n := g.toNat) k
  rwa [(u64_nat h).1] at this
theorem be8 (n : Nat) : (be n 8).length = 8 := be_length 8 n
theorem supR_iff {s : Super} : supR s = true ↔ (1 ≤ s.blocks ∧ s.blocks ≤ 32) ∧ s.vector.current ≠ 0 := by
  unfold supR
  simp
theorem supRight_ok {s : Super} {K : Bool → Prop} (k : K (supR s)) : q24.F s K := by
  unfold q24.F
  refine cond_ok (fun h1 => cond_ok (fun h2 => ?_) (fun h2 => ?_)) (fun h1 => ?_)
  · have h1 : s.blocks ≥ 1 := of_decide_eq_true h1
    have h2 : s.blocks ≤ 32 := of_decide_eq_true h2
    refine use_eq k ?_
    unfold supR
    rw [decide_eq_true (show 1 ≤ s.blocks ∧ s.blocks ≤ 32 from ⟨h1, h2⟩)]
    rfl
  · have h2 : ¬ s.blocks ≤ 32 := of_decide_eq_false h2
    refine use_eq k ?_
    unfold supR
    rw [decide_eq_false (by omega)]
    rfl
  · have h1 : ¬ s.blocks ≥ 1 := of_decide_eq_false h1
    refine use_eq k ?_
    unfold supR
    rw [decide_eq_false (by omega)]
    rfl
theorem maskAll_ok {b : Int} (hb : inK .i64 b) {K : Int → Prop} (h : K (allM b)) : q20.F b K := by
  by_cases hr : 1 ≤ b ∧ b ≤ 32
  · obtain ⟨b, rfl⟩ : ∃ n : Nat, b = n := ⟨b.toNat, by omega⟩
    unfold allM at h
    rw [if_pos hr] at h
    exact mask_All_ok (by omega) (by omega) (by simpa using h)
  · unfold allM at h
    rw [if_neg hr] at h
    unfold q20.F q20.FV
    have hb : -9223372036854775808 ≤ b ∧ b ≤ 9223372036854775807 := hb
    refine mask_there_ok (cond_t ?_ h)
    rw [decide_eq_false]
    · rfl
    · by_cases e : b = -9223372036854775808
      · subst e; decide
      · rw [wrap_i64 (by omega)]; omega
theorem superRight_ok {s : Super} (hb : inK .i64 s.blocks) {K : Bool → Prop} (k : K (supR s)) : q22.F s K := by
  unfold q22.F q22.FV
  refine maskAll_ok hb ?_
  unfold allM
  by_cases hr : 1 ≤ s.blocks ∧ s.blocks ≤ 32
  · rw [if_pos hr]
    have hp : 2 ^ 1 ≤ 2 ^ s.blocks.toNat := Nat.pow_le_pow_right (by decide) (by omega)
    refine cond_t ?_ ?_
    · simp only [bne_iff_ne, ne_eq]
      omega
    · unfold q21.F
      refine use_eq k ?_
      unfold supR
      rw [decide_eq_true hr]
      rfl
  · rw [if_neg hr]
    refine cond_f rfl (use_eq k ?_)
    unfold supR
    rw [decide_eq_false hr]
    rfl
theorem head_bytes {s : Super} (hr : supR s = true) : bytesOfInts [IntKind.u8.wrap s.blocks, ((fv ([s.inc, s.pri, s.dis].take 8) : Nat) : Int)] = [UInt8.ofNat s.blocks.toNat, UInt8.ofNat (fv [s.inc, s.pri, s.dis])] := by
  have h := (supR_iff.1 hr).1
  have := u8s (b := s.blocks.toNat) (by omega) (fv [s.inc, s.pri, s.dis])
  rw [show ((s.blocks.toNat : Nat) : Int) = s.blocks by omega] at this
  exact this
theorem sBytes_len (s : Super) : (sBytes s).length = 37 := by simp [sBytes, be_length]
theorem supBytes_ok {s : Super} (w : wSup s) (hr : supR s = true) {K : Str → Prop} (k : K (sBytes s)) : q28.F s K := by
  obtain ⟨_, w1, w2, w3, w4⟩ := w
  unfold q28.F q28.FV
  refine ref01_Flags_ok ?_
  rw [head_bytes hr]
  refine gd_ok (fits_small (by simp)) (ref01_put64 w1 (gd_ok (fits_small (by simp [be8])) (ref01_put64 w2 (gd_ok (fits_small (by simp [be8])) (ref01_put64 w3 (gd_ok (fits_small (by simp [be8])) (ref01_put64 w4 (gd_ok (fits_small (by simp [be8])) ?_))))))))
  exact k
theorem supEncode_ok {s : Super} (w : wSup s) {K : (Str × Int) → Prop} (k : K (encS6 s)) : q32.F s K := by
  unfold q32.F q32.FV
  unfold encS6 at k
  refine supRight_ok (cond_ok (fun h1 => ?_) (fun h1 => ?_))
  · rw [if_neg (by rw [not_t h1]; simp)] at k; exact k
  · have hr := not_f h1
    rw [if_pos hr] at k
    exact supBytes_ok w hr (ref02_Seal_ok (wStr_of (by rw [sBytes_len]; decide)) k)
theorem superEncode_ok {s : Super} (w : wSup s) {K : (Str × Int) → Prop} (k : K (encS6 s)) : q88.F s K := by
  unfold q88.F q88.FV
  unfold encS6 at k
  refine superRight_ok w.1 (cond_ok (fun h1 => ?_) (fun h1 => ?_))
  · rw [if_neg (by rw [not_t h1]; simp)] at k; exact k
  have hr := not_f h1
  rw [if_pos hr] at k
  obtain ⟨_, w1, w2, w3, w4⟩ := w
  refine num_Flags_ok (gd_ok (fits_small (by simp [bytesOfInts])) ⟨5, ?_⟩)
  rw [head_bytes hr]
  refine round1 ?_
  unfold q88.b0V
  dsimp only
  refine cond_t rfl (cond_t rfl (num_put64 w1 (gd_ok (fits_small (by simp [be8])) (round1 ?_))))
  refine cond_t rfl (cond_f rfl (cond_t rfl (num_put64 w2 (gd_ok (fits_small (by simp [be8])) (round1 ?_)))))
  refine cond_t rfl (cond_f rfl (cond_f rfl (cond_t rfl (num_put64 w3 (gd_ok (fits_small (by simp [be8])) (round1 ?_))))))
  refine cond_t rfl (cond_f rfl (cond_f rfl (cond_f rfl (cond_t rfl (num_put64 w4 (gd_ok (fits_small (by simp [be8])) (round1 ?_)))))))
  exact cond_f rfl (check_Seal_ok (wStr_of (by simp [be8])) k)
theorem supNumber_ok {b : Str} {i : Nat} (h : i + 8 ≤ b.length) (h2 : i ≤ 1000) {K : Int → Prop} (k : K (numAt b i)) : q41.F b i K := number_ok h h2 rfl k
theorem supDecode_ok {b : Str} (hb : b.length ≤ 1000000) {K : (Super × Int) → Prop} (k : K (decS6 b)) : q42.F b K := by
  unfold q42.F q42.FV
  unfold decS6 at k
  refine ref02_Open_ok (wStr_of hb) (cond_ok (fun h1 => ?_) (fun h1 => ?_))
  · rw [if_pos (by simpa using h1)] at k; exact k
  rw [if_neg (by simpa using h1)] at k
  have w := decS6_w b
  unfold decS6 at w
  rw [if_neg (by simpa using h1)] at w
  generalize (openV b).1 = t at k w ⊢
  refine cond_ok (fun h2 => ?_) (fun h2 => ?_)
  · have h2 : t.length ≠ 37 := bne_nat (b := 37) h2
    rw [if_neg (fun h => h2 h.1)] at k; exact k
  have hl : t.length = 37 := bne_nat' (b := 37) h2
  refine oget_ok (getI_lit 0 (i := 4) (by omega)) (cond_ok (fun h3 => ?_) (fun h3 => ?_))
  · have h3 : ((t.getD 4 0).toNat : Int) > 7 := of_decide_eq_true h3
    rw [if_neg (fun h => by have := h.2.1; omega)] at k; exact k
  have h3 : ¬ ((t.getD 4 0).toNat : Int) > 7 := of_decide_eq_false h3
  have h7 : (t.getD 4 0).toNat ≤ 7 := by omega
  have hu : unflag (t.getD 4 0).toNat 3 = ([bit (t.getD 4 0) 0, bit (t.getD 4 0) 1, bit (t.getD 4 0) 2], true) := by
    unfold unflag
    rw [if_pos ⟨by decide, by decide, by show _ / 2 ^ 3 = 0; omega⟩]
    rfl
  refine oget_ok (getI_lit 0 (i := 4) (by omega)) (ref01_Unflag_ok (u8_lt _) ?_)
  rw [hu]
  refine oget_ok (getI_lit 0 (i := 3) (by omega)) ?_
  refine supNumber_ok (i := 5) (by omega) (by decide) (supNumber_ok (i := 13) (by omega) (by decide) (supNumber_ok (i := 21) (by omega) (by decide) (supNumber_ok (i := 29) (by omega) (by decide) ?_)))
  refine oget_ok rfl (oget_ok rfl (oget_ok rfl ?_))
  have e0 : IntKind.i64.wrap ((t.getD 3 0).toNat : Int) = ((t.getD 3 0).toNat : Int) := by
    have := u8_lt (t.getD 3 0)
    rw [wrap_i64 (by omega)]
  rw [e0]
  refine supRight_ok (cond_ok (fun h4 => ?_) (fun h4 => ?_))
  · have h4 : supR (sOfBytes t) = false := not_t h4
    rw [if_neg (fun h => by rw [h4] at h; exact absurd h.2.2.1 (by simp))] at k; exact k
  have h4 : supR (sOfBytes t) = true := not_f h4
  have wb : wSup (sOfBytes t) := by
    have h3' := u8_lt (t.getD 3 0)
    exact ⟨i64_of (x := ((t.getD 3 0).toNat : Int)) (by omega), unbe_w _ _ (by omega), unbe_w _ _ (by omega), unbe_w _ _ (by omega), unbe_w _ _ (by omega)⟩
  refine supBytes_ok wb h4 (cond_ok (fun h5 => ?_) (fun h5 => ?_))
  · have h5 : ¬ sBytes (sOfBytes t) = t := by
      have := not_t h5
      simpa using this
    rw [if_neg (fun h => h5 h.2.2.2)] at k; exact k
  · have h5 : sBytes (sOfBytes t) = t := by
      have := not_f h5
      simpa using this
    rw [if_pos ⟨hl, h7, h4, h5⟩] at k; exact k
theorem fits7_ok {d : Disk} {s : Super} (hs : d.sure.length ≤ 1000000) {K : Bool → Prop} (k : K (fitsS d s)) : q43.F d s K := by
  unfold q43.F
  rw [sub2 hs]
  refine use_eq k ?_
  unfold fitsS
  rw [Bool.eq_iff_iff, beq_iff_eq, beq_iff_eq]
  exact ⟨fun h => h.symm, fun h => h.symm⟩
theorem fitsM_ok {d : Disk} {s : Super} (hs : d.sure.length ≤ 1000000) {K : Bool → Prop} (k : K (fitsS d s)) : q55.F d s K := by
  unfold q55.F
  rw [sub2 hs]
  exact k
theorem ref07_Load_ok {N : Nat} {d : Disk} (hN : N ≤ 100000) (o : OkD N d) {K : (Super × Int) → Prop} (k : K (loadS d)) : q44.F d K := by
  unfold q44.F q44.FV
  unfold loadS at k
  have hs := o.s
  have hc := o.c
  have hr := read_le o 0
  refine ref04_Read_ok (by omega) (cond_ok (fun h1 => ?_) (fun h1 => ?_))
  · rw [if_pos (by simpa using h1)] at k; exact k
  rw [if_neg (by simpa using h1)] at k
  refine supDecode_ok (by omega) (cond_ok (fun h2 => ?_) (fun h2 => ?_))
  · rw [if_pos (by simpa using h2)] at k; exact k
  rw [if_neg (by simpa using h2)] at k
  refine fits7_ok (by omega) (cond_ok (fun h3 => ?_) (fun h3 => ?_))
  · rw [if_neg (by rw [not_t h3]; simp)] at k; exact k
  · rw [if_pos (not_f h3)] at k; exact k
theorem ref07_Commit_ok {N : Nat} {d : Disk} {s : Super} (hN : N ≤ 10000) (h64 : 64 ≤ N) (o : OkD N d) (w : wSup s) {K : (Disk × Int) → Prop} (k : K (commitD d s)) : q116.F d s K := by
  unfold q116.F q116.FV
  unfold commitD at k
  have hs := o.s
  refine supEncode_ok w ?_
  unfold encS6
  by_cases hr : supR s = true
  · rw [if_pos hr]
    refine cond_f rfl (fits7_ok (by omega) (cond_ok (fun h2 => ?_) (fun h2 => ?_)))
    · rw [if_neg (fun h => by rw [not_t h2] at h; exact absurd h.2 (by simp))] at k; exact k
    rw [if_pos ⟨hr, not_f h2⟩] at k
    refine ref04_Write_ok (by omega) o (cond_ok (fun h3 => ?_) (fun h3 => ?_))
    · rw [if_pos (by simpa using h3)] at k; exact k
    · rw [if_neg (by simpa using h3)] at k
      exact ref04_Flush_ok (N := N + 1) (by omega) (write_ok o h64) k
  · rw [if_neg hr]
    rw [if_neg (fun h => hr h.1)] at k
    exact cond_t rfl k
theorem metaCommit_ok {N : Nat} {d : Disk} {s : Super} (hN : N ≤ 10000) (h64 : 64 ≤ N) (o : OkD N d) (w : wSup s) {K : (Disk × Int) → Prop} (k : K (commitD d s)) : q89.F d s K := by
  unfold q89.F q89.FV
  unfold commitD at k
  have hs := o.s
  have hc := o.c
  refine superEncode_ok w ?_
  unfold encS6
  by_cases hr : supR s = true
  · rw [if_pos hr]
    refine cond_f rfl (fitsM_ok (by omega) (cond_ok (fun h2 => ?_) (fun h2 => ?_)))
    · rw [if_neg (fun h => by rw [not_t h2] at h; exact absurd h.2 (by simp))] at k; exact k
    rw [if_pos ⟨hr, not_f h2⟩] at k
    refine disk_Write_ok (by omega) o.f o.p (cond_ok (fun h3 => ?_) (fun h3 => ?_))
    · rw [if_pos (by simpa using h3)] at k; exact k
    · rw [if_neg (by simpa using h3)] at k
      have o2 := write_ok (i := 0) (data := sealV (sBytes s)) o h64
      exact disk_Flush_ok (by have := o2.s; omega) (by have := o2.c; omega) o2.r o2.f o2.p k
  · rw [if_neg hr]
    rw [if_neg (fun h => hr h.1)] at k
    exact cond_t rfl k
def supEq (a b : Super) : Bool := ((a.blocks == b.blocks) && (((a.vector.current == b.vector.current) && ((a.vector.bitmap == b.vector.bitmap) && (((a.vector.old0 == b.vector.old0) && ((a.vector.old1 == b.vector.old1) && true)) && true))) && ((a.inc == b.inc) && ((a.pri == b.pri) && ((a.dis == b.dis) && true)))))
theorem supEq_iff {a b : Super} : supEq a b = true ↔ a = b := by
  obtain ⟨b0, ⟨c, bm, o0, o1⟩, i, p, d⟩ := a
  obtain ⟨b0', ⟨c', bm', o0', o1'⟩, i', p', d'⟩ := b
  unfold supEq
  simp [and_assoc]
theorem ref15_Attach_ok {N : Nat} {d : Disk} (hN : N ≤ 10000) (o : OkD N d) {K : (Store × Int) → Prop} (k : K (stAttach d)) : q53.F d K := by
  unfold q53.F q53.FV
  unfold stAttach at k
  refine ref07_Load_ok (by omega) o (cond_ok (fun h1 => ?_) (fun h1 => ?_))
  · rw [if_pos (by simpa using h1)] at k; exact k
  rw [if_neg (by simpa using h1)] at k
  refine ref08_Load_ok (by omega) o (cond_ok (fun h2 => ?_) (fun h2 => ?_))
  · rw [if_pos (by simpa using h2)] at k; exact k
  rw [if_neg (by simpa using h2)] at k
  refine ref09_All_ok hN o (cond_ok (fun h3 => ?_) (fun h3 => ?_))
  · rw [if_pos (by simpa using h3)] at k; exact k
  · rw [if_neg (by simpa using h3)] at k; exact k
section
variable {N : Nat} {s : Store} (hN : N ≤ 10000) (h64 : 64 ≤ N) (o : OkS N s)
include hN h64 o
theorem ref15_Commit_ok {b : Super} (w : wSup b) {K : (Store × Int) → Prop} (k : K (stCommit s b)) : q117.F s b K := by
  unfold q117.F q117.FV
  unfold stCommit at k
  refine cond_ok (fun h1 => ?_) (fun h1 => ?_)
  · rw [if_pos (supEq_iff.1 h1)] at k; exact k
  rw [if_neg (fun e => by have h1 : supEq b s.sup = false := h1; rw [supEq_iff.2 e] at h1; cases h1)] at k
  refine ref07_Commit_ok hN h64 o.d w (cond_ok (fun h2 => ?_) (fun h2 => ?_))
  · rw [if_pos (by simpa using h2)] at k; exact k
  · rw [if_neg (by simpa using h2)] at k; exact k
theorem storeCommit_ok {b : Super} (w : wSup b) {K : (Store × Int) → Prop} (k : K (stCommit s b)) : q90.F s b K := by
  unfold q90.F q90.FV
  unfold stCommit at k
  refine cond_ok (fun h1 => ?_) (fun h1 => ?_)
  · rw [if_pos (supEq_iff.1 h1)] at k; exact k
  rw [if_neg (fun e => by have h1 : supEq b s.sup = false := h1; rw [supEq_iff.2 e] at h1; cases h1)] at k
  refine metaCommit_ok hN h64 o.d w (cond_ok (fun h2 => ?_) (fun h2 => ?_))
  · rw [if_pos (by simpa using h2)] at k; exact k
  · rw [if_neg (by simpa using h2)] at k; exact k
theorem ref15_save_ok {m : Int} (hm : inK .u32 m) {K : (Store × Int) → Prop} (k : K (stSave s m)) : q107.F s m K := by
  unfold q107.F q107.FV
  unfold stSave at k
  refine cond_ok (fun h1 => ?_) (fun h1 => ?_)
  · rw [if_pos (by simpa using h1)] at k; exact k
  rw [if_neg (by simpa using h1)] at k
  have := ref08_Save_ok (d := s.disk) (m := m.toNat) (K := fun r1 => bif r1.2 == 0 then K (⟨r1.1, s.sup, m⟩, r1.2) else K (⟨r1.1, s.sup, s.mask⟩, r1.2)) (u32_toNat hm).1 hN h64 o.d (cond_ok (fun h2 => by
    rw [if_pos (by simpa using h2)] at k; exact k) (fun h2 => by
    rw [if_neg (by simpa using h2)] at k; exact k))
  rwa [(u32_toNat hm).2] at this
theorem ref15_Mark_ok {i : Int} {K : (Store × Int) → Prop} (k : K (stMark s i)) : q108.F s i K := by
  unfold q108.F q108.FV
  unfold stMark at k
  refine cond_ok (fun h1 => ?_) (fun h1 => cond_ok (fun h2 => ?_) (fun h2 => ?_))
  · have h1 : i < 0 := of_decide_eq_true h1
    rw [if_neg (by omega)] at k; exact k
  · have h2 : i ≥ s.sup.blocks := of_decide_eq_true h2
    rw [if_neg (by omega)] at k; exact k
  · have h1 : ¬ i < 0 := of_decide_eq_false h1
    have h2 : ¬ i ≥ s.sup.blocks := of_decide_eq_false h2
    rw [if_pos (by omega)] at k
    exact ref03_Set_ok (by simp) o.m (ref15_save_ok hN h64 o (setL_u32 _ _ o.m) k)
theorem ref15_Wipe_ok {i : Int} {K : (Store × Int) → Prop} (k : K (stWipe s i)) : q110.F s i K := by
  unfold q110.F q110.FV
  unfold stWipe at k
  refine cond_ok (fun h1 => ?_) (fun h1 => cond_ok (fun h2 => ?_) (fun h2 => ?_))
  · have h1 : i < 0 := of_decide_eq_true h1
    rw [if_neg (by omega)] at k; exact k
  · have h2 : i ≥ s.sup.blocks := of_decide_eq_true h2
    rw [if_neg (by omega)] at k; exact k
  have h1 : ¬ i < 0 := of_decide_eq_false h1
  have h2 : ¬ i ≥ s.sup.blocks := of_decide_eq_false h2
  rw [if_pos (by omega)] at k
  unfold stNote at k
  refine ref03_Clear_ok o.m (cond_ok (fun h3 => ?_) (fun h3 => ?_))
  · rw [if_pos (by simpa using h3)] at k; exact k
  rw [if_neg (by simpa using h3)] at k
  have hm := clr_u32 (i := i) o.m
  have := ref08_Note_ok (d := s.disk) (m := (clrM s.mask i).toNat) (K := fun r2 => bif r2.2 == 0 then K (⟨r2.1, s.sup, clrM s.mask i⟩, r2.2) else K (⟨r2.1, s.sup, s.mask⟩, r2.2)) (u32_toNat hm).1 (by omega) o.d (cond_ok (fun h2 => by
    rw [if_pos (by simpa using h2)] at k; exact k) (fun h2 => by
    rw [if_neg (by simpa using h2)] at k; exact k))
  rwa [(u32_toNat hm).2] at this
theorem ref15_Join_ok {m : Int} (hm : inK .u32 m) {K : (Store × Int) → Prop} (k : K (stJoin s m)) : q113.F s m K := by
  unfold q113.F q113.FV
  exact ref03_Union_ok o.m hm (ref15_save_ok hN h64 o (or_u32 o.m hm) k)
theorem ref15_Put_ok {i : Int} {data : Str} {K : (Store × Int) → Prop} (k : K (stPut s i data)) : q115.F s i data K := by
  unfold q115.F q115.FV
  exact ref09_Put_ok hN h64 o.d k
omit h64 in
theorem ref15_Read_ok {i : Int} {K : (Str × Int) → Prop} (k : K (stRead s i)) : q118.F s i K := by
  unfold q118.F q118.FV
  exact ref09_Read_ok (by omega) o.d k
omit hN h64 o in
theorem storeThere_ok {i : Int} {K : Bool → Prop} (k : K (decide (0 ≤ i ∧ i < s.sup.blocks))) : q64.F s i K := by
  unfold q64.F
  refine cond_ok (fun h1 => ?_) (fun h1 => ?_)
  · have h1 : i ≥ 0 := of_decide_eq_true h1
    refine use_eq k ?_
    rw [Bool.eq_iff_iff, decide_eq_true_eq, decide_eq_true_eq]
    omega
  · have h1 : ¬ i ≥ 0 := of_decide_eq_false h1
    exact use_eq k (decide_eq_false (by omega))
theorem storeMark_ok {i : Int} {K : (Store × Int) → Prop} (k : K (stMark s i)) : q78.F s i K := by
  unfold q78.F q78.FV
  unfold stMark at k
  refine storeThere_ok (cond_ok (fun h1 => ?_) (fun h1 => ?_))
  · rw [if_neg (of_decide_eq_false (not_t h1))] at k; exact k
  rw [if_pos (of_decide_eq_true (not_f h1))] at k
  unfold stSave at k
  refine maskSet_ok o.m (cond_ok (fun h3 => ?_) (fun h3 => ?_))
  · rw [if_pos (by simpa using h3)] at k; exact k
  rw [if_neg (by simpa using h3)] at k
  have hm := set_u32 (i := i) o.m
  have := bits_Save_ok (d := s.disk) (m := (setM s.mask i).toNat) (K := fun r2 => bif r2.2 == 0 then K (⟨r2.1, s.sup, setM s.mask i⟩, r2.2) else K (⟨r2.1, s.sup, s.mask⟩, r2.2)) (u32_toNat hm).1 hN h64 o.d (cond_ok (fun h2 => by
    rw [if_pos (by simpa using h2)] at k; exact k) (fun h2 => by
    rw [if_neg (by simpa using h2)] at k; exact k))
  rwa [(u32_toNat hm).2] at this
theorem storeWipe_ok {i : Int} {K : (Store × Int) → Prop} (k : K (stWipe s i)) : q85.F s i K := by
  unfold q85.F q85.FV
  unfold stWipe at k
  refine storeThere_ok (cond_ok (fun h1 => ?_) (fun h1 => ?_))
  · rw [if_neg (of_decide_eq_false (not_t h1))] at k; exact k
  rw [if_pos (of_decide_eq_true (not_f h1))] at k
  unfold stNote at k
  refine maskClear_ok o.m (cond_ok (fun h3 => ?_) (fun h3 => ?_))
  · rw [if_pos (by simpa using h3)] at k; exact k
  rw [if_neg (by simpa using h3)] at k
  have hm := clr_u32 (i := i) o.m
  have := bits_Note_ok (d := s.disk) (m := (clrM s.mask i).toNat) (K := fun r2 => bif r2.2 == 0 then K (⟨r2.1, s.sup, clrM s.mask i⟩, r2.2) else K (⟨r2.1, s.sup, s.mask⟩, r2.2)) (u32_toNat hm).1 (by omega) o.d (cond_ok (fun h2 => by
    rw [if_pos (by simpa using h2)] at k; exact k) (fun h2 => by
    rw [if_neg (by simpa using h2)] at k; exact k))
  rwa [(u32_toNat hm).2] at this
theorem storePut_ok {i : Int} {data : Str} {K : (Store × Int) → Prop} (k : K (stPut s i data)) : q80.F s i data K := by
  unfold q80.F q80.FV
  exact area_Put_ok hN h64 o.d k
end
end Gm

set_option maxRecDepth 100000
namespace Gm
open Go
theorem eq_t {a b : Int} (h : (a == b) = true) : a = b := eq_of_beq h
theorem eq_f {a b : Int} (h : (a == b) = false) : a ≠ b := by simpa using h
theorem ne_t {a b : Int} (h : (a != b) = true) : a ≠ b := by simpa using h
theorem ne_f {a b : Int} (h : (a != b) = false) : a = b := by simpa using h
theorem nt {b : Bool} (h : b = false) : ¬ b = true := by rw [h]; simp
section
variable {N : Nat} {n : Node} (hN : N ≤ 9000) (h64 : 64 ≤ N) (o : OkN N n)
include hN h64 o
end
section
variable {N : Nat} {n : Node} (hN : N ≤ 8000) (h64 : 64 ≤ N) (o : OkN N n)
include hN h64 o
end
end Gm

set_option maxRecDepth 100000
namespace Gm
open Go
section
variable {N : Nat} {n : Node} (hN : N ≤ 8000) (h64 : 64 ≤ N) (o : OkN N n)
include hN h64 o
end
section
variable {N : Nat} {n : Node} (hN : N ≤ 7000) (h64 : 64 ≤ N) (o : OkN N n)
include hN h64 o
end
section
variable {N : Nat} {n : Node} (hN : N ≤ 6000) (h64 : 64 ≤ N) (o : OkN N n)
include hN h64 o
end
end Gm

set_option maxRecDepth 100000
namespace Gm
open Go
def bI (i : Bool) : Int := if i = true then 1 else 0
section
variable {N : Nat} (hN : N ≤ 6000) (h64 : 64 ≤ N)
include hN h64
end
def fin (c1 : Cluster) (i : Bool) (up closes : Bool) (out : List Outp) : CO :=
  if (if up = false then setW c1 i false else c1).link.up = false ∨ (up = true ∧ closes = false) then (if up = false then setW c1 i false else c1, out)
  else endC (if closes = true then { (if up = false then setW c1 i false else c1) with w0 := false, w1 := false } else (if up = false then setW c1 i false else c1)) out
section
variable {N : Nat} (hN : N ≤ 6000) (h64 : 64 ≤ N)
include hN h64
end
end Gm

set_option maxRecDepth 100000
namespace Gm
open Go
section
variable {N : Nat} (hN : N ≤ 5900) (h64 : 64 ≤ N)
include hN h64
end
end Gm

set_option maxRecDepth 100000
namespace Gm
open Go
theorem fmt_okD {b : Int} {g : Nat} : OkD 64 (fmtV b g).1 := by
  unfold fmtV
  split
  · rename_i h
    refine bare_okD ?_ ?_
    · unfold fmtS
      simp only [List.length_cons, List.length_replicate]
      omega
    · intro x hx
      unfold fmtS at hx
      rcases List.mem_cons.1 hx with rfl | hx
      · rw [sealV_length, sB_length]; decide
      rcases List.mem_cons.1 hx with rfl | hx
      · rw [sealV_length, be_length]; decide
      · rw [(List.mem_replicate.1 hx).2]; decide
  · exact bare_okD (s := []) (by decide) (fun x h => by cases h)
end Gm

set_option maxRecDepth 100000
namespace Gm
open Go
section
variable {N : Nat} {n : Node} (hN : N ≤ 7000) (h64 : 64 ≤ N) (o : OkN N n)
include hN h64 o
end
end Gm

set_option maxRecDepth 100000
namespace Gm
open Go
section
variable {N : Nat} {n : Node} (hN : N ≤ 6900) (h64 : 64 ≤ N) (o : OkN N n)
include hN h64 o
end
end Gm

set_option maxRecDepth 100000
namespace Gm
open Go
def zO : Outp := ⟨0, 0, 0, 0, []⟩
def h0 (l : List Outp) : Outp := (getI l 0).getD zO
end Gm

set_option maxRecDepth 100000
namespace Gm
open Go
end Gm

set_option maxRecDepth 100000
namespace Gm
open Go
theorem sBytes_length (s : Super) : (sBytes s).length = 37 := by
  unfold sBytes
  simp [be_length]
theorem sOf_sBytes0 {s : Super} (hw : wSup s) (hr : 1 ≤ s.blocks ∧ s.blocks ≤ 32) : sOfBytes (sBytes s) = s ∧ ((sBytes s).getD 4 0).toNat ≤ 7 := by
  obtain ⟨blocks, ⟨c, b, o0, o1⟩, inc, pri, dis⟩ := s
  obtain ⟨hb, hc, h0, h1, h2⟩ := hw
  have hc : 0 ≤ c ∧ c ≤ 18446744073709551615 := hc
  have h0 : 0 ≤ b ∧ b ≤ 18446744073709551615 := h0
  have h1 : 0 ≤ o0 ∧ o0 ≤ 18446744073709551615 := h1
  have h2 : 0 ≤ o1 ∧ o1 ≤ 18446744073709551615 := h2
  dsimp only at hr
  have p8 : (256 : Nat) ^ 8 = 18446744073709551616 := by decide
  have key : ∀ (x : Int) (k : Nat), 0 ≤ x → x.toNat < 256 ^ k → ((unbe (be x.toNat k) : Nat) : Int) = x := by
    intro x k h1 h2
    rw [unbe_be, Nat.mod_eq_of_lt h2]; omega
  have hfv : fv [inc, pri, dis] < 8 := fv_lt [inc, pri, dis]
  unfold sBytes
  dsimp only
  generalize e1 : be c.toNat 8 = s1
  generalize e2 : be b.toNat 8 = s2
  generalize e3 : be o0.toNat 8 = s3
  generalize e4 : be o1.toNat 8 = s4
  have l1 : s1.length = 8 := by rw [← e1, be_length]
  have l2 : s2.length = 8 := by rw [← e2, be_length]
  have l3 : s3.length = 8 := by rw [← e3, be_length]
  have l4 : s4.length = 8 := by rw [← e4, be_length]
  have pick : ∀ (p q r : Str) (i j : Nat), p.length = i → q.length = j - i → i ≤ j → sub (p ++ q ++ r) i j = q := by
    intro p q r i j h1 h2 h3
    subst h1
    unfold sub
    rw [List.take_append_of_le_length (by simp; omega), List.take_of_length_le (by simp; omega)]
    simp
  generalize e0 : [71, 77, 1] ++ [UInt8.ofNat blocks.toNat, UInt8.ofNat (fv [inc, pri, dis])] = hd
  have l0 : hd.length = 5 := by rw [← e0]; rfl
  have q1 : sub (hd ++ s1 ++ s2 ++ s3 ++ s4) 5 13 = s1 := by
    have := pick hd s1 (s2 ++ s3 ++ s4) 5 13 l0 l1 (by decide)
    simpa [List.append_assoc] using this
  have q2 : sub (hd ++ s1 ++ s2 ++ s3 ++ s4) 13 21 = s2 := by
    have := pick (hd ++ s1) s2 (s3 ++ s4) 13 21 (by simp [l0, l1]) l2 (by decide)
    simpa [List.append_assoc] using this
  have q3 : sub (hd ++ s1 ++ s2 ++ s3 ++ s4) 21 29 = s3 := by
    have := pick (hd ++ s1 ++ s2) s3 s4 21 29 (by simp [l0, l1, l2]) l3 (by decide)
    simpa [List.append_assoc] using this
  have q4 : sub (hd ++ s1 ++ s2 ++ s3 ++ s4) 29 37 = s4 := by
    have := pick (hd ++ s1 ++ s2 ++ s3) s4 [] 29 37 (by simp [l0, l1, l2, l3]) l4 (by decide)
    simpa [List.append_assoc] using this
  have q6 : (hd ++ s1 ++ s2 ++ s3 ++ s4).getD 3 0 = UInt8.ofNat blocks.toNat := by rw [← e0]; rfl
  have q7 : (hd ++ s1 ++ s2 ++ s3 ++ s4).getD 4 0 = UInt8.ofNat (fv [inc, pri, dis]) := by rw [← e0]; rfl
  have q8 : (UInt8.ofNat (fv [inc, pri, dis])).toNat = fv [inc, pri, dis] := by rw [toNat_ofNat]; omega
  refine ⟨?_, by rw [q7, q8]; omega⟩
  unfold sOfBytes numAt
  rw [q1, q2, q3, q4, q6, q7, ← e1, ← e2, ← e3, ← e4, key c 8 hc.1 (by omega), key b 8 h0.1 (by omega), key o0 8 h1.1 (by omega), key o1 8 h2.1 (by omega)]
  have eb : ((UInt8.ofNat blocks.toNat).toNat : Int) = blocks := by rw [toNat_ofNat]; omega
  rw [eb]
  unfold bit
  rw [q8]
  cases inc <;> cases pri <;> cases dis <;> rfl
theorem sOf_sBytes {s : Super} (hw : wSup s) (hr : supR s = true) : sOfBytes (sBytes s) = s ∧ ((sBytes s).getD 4 0).toNat ≤ 7 := by
  unfold supR at hr
  exact sOf_sBytes0 hw (of_decide_eq_true (Bool.and_eq_true_iff.1 hr).1)
theorem decS6_seal {s : Super} (hw : wSup s) (hr : supR s = true) : decS6 (sealV (sBytes s)) = (s, 0) := by
  obtain ⟨h1, h2⟩ := sOf_sBytes hw hr
  unfold decS6
  rw [openV_seal]
  dsimp only
  rw [if_neg (by simp), h1, if_pos ⟨sBytes_length s, h2, hr, rfl⟩]
def Val (d : Disk) (x : Nat) (P : Str → Prop) : Prop := (∀ y, d.sure[x]? = some y → P y) ∧ ∀ w ∈ d.cache, w.sector = (x : Int) → P w.data
theorem Val.imp {d : Disk} {x : Nat} {P Q : Str → Prop} (h : Val d x P) (f : ∀ y, P y → Q y) : Val d x Q := ⟨fun y e => f y (h.1 y e), fun w m e => f _ (h.2 w m e)⟩
theorem val_settle {x : Nat} {P : Str → Prop} : ∀ (ws : List Write) (s : List Str), (∀ y, s[x]? = some y → P y) → (∀ w ∈ ws, 0 ≤ w.sector ∧ (w.sector = (x : Int) → P w.data)) → ∀ y, (settleV s ws)[x]? = some y → P y
  | [], _, h, _ => h
  | w :: ws, s, h, hw => by
    unfold settleV
    rw [List.foldl_cons]
    refine val_settle ws _ ?_ (fun v m => hw v (List.mem_cons_of_mem _ m))
    intro y hy
    rw [List.getElem?_set] at hy
    have h2 := hw w (by simp)
    by_cases e : w.sector.toNat = x
    · rw [if_pos e] at hy
      split at hy
      · cases hy
        exact h2.2 (by omega)
      · cases hy
    · rw [if_neg e] at hy
      exact h y hy
def Sec (d : Disk) : Prop := ∀ w ∈ d.cache, 0 ≤ w.sector ∧ w.sector < (d.sure.length : Int)
theorem val_flushed {d : Disk} {x : Nat} {P : Str → Prop} (hs : Sec d) (h : Val d x P) {f : Int} {b : Bool} : Val ⟨settleV d.sure d.cache, [], f, b⟩ x P :=
  ⟨val_settle d.cache d.sure h.1 (fun w m => ⟨(hs w m).1, h.2 w m⟩), fun w m => by cases m⟩
theorem sec_flushed {d : Disk} {f : Int} {b : Bool} : Sec ⟨settleV d.sure d.cache, [], f, b⟩ := fun w m => by cases m
theorem val_write {d : Disk} {i : Int} {data : Str} {x : Nat} {P : Str → Prop} (h : Val d x P) (hp : i = (x : Int) → P data) : Val (writeV d i data).1 x P := by
  have app : ∀ (f : Int) (b : Bool), Val ⟨d.sure, d.cache ++ [⟨i, data⟩], f, b⟩ x P := by
    intro f b
    refine ⟨h.1, fun w m e => ?_⟩
    rcases List.mem_append.1 m with m | m
    · exact h.2 w m e
    · cases List.mem_singleton.1 m
      exact hp e
  unfold writeV
  repeat' split
  all_goals first
    | exact h
    | exact app _ _
theorem sec_write {d : Disk} {i : Int} {data : Str} (h : Sec d) : Sec (writeV d i data).1 := by
  have app : ∀ (f : Int) (b : Bool), (0 ≤ i ∧ i < d.sure.length) → Sec ⟨d.sure, d.cache ++ [⟨i, data⟩], f, b⟩ := by
    intro f b hi w m
    rcases List.mem_append.1 m with m | m
    · exact h w m
    · cases List.mem_singleton.1 m
      exact hi
  unfold writeV
  split
  · exact h
  split
  · exact h
  rename_i hi
  have hi := Decidable.not_not.1 hi
  repeat' split
  all_goals first
    | exact h
    | exact app _ _ hi
theorem val_flush {d : Disk} {x : Nat} {P : Str → Prop} (hs : Sec d) (h : Val d x P) : Val (flushV d).1 x P := by
  unfold flushV
  repeat' split
  all_goals first
    | exact h
    | exact val_flushed hs h
theorem sec_flush {d : Disk} (hs : Sec d) : Sec (flushV d).1 := by
  unfold flushV
  repeat' split
  all_goals first
    | exact hs
    | exact sec_flushed
theorem val_revive {d : Disk} {x : Nat} {P : Str → Prop} (hs : Sec d) (h : Val d x P) (keeps : List Bool) : Val (reviveV d keeps) x P :=
  ⟨val_settle _ d.sure h.1 (fun w m => have q := kept_sub d.cache keeps w m; ⟨(hs w q).1, h.2 w q⟩), fun w m => by cases m⟩
theorem len_write {d : Disk} {i : Int} {data : Str} : (writeV d i data).1.sure.length = d.sure.length := by
  unfold writeV
  repeat' split
  all_goals rfl
theorem len_flush {d : Disk} : (flushV d).1.sure.length = d.sure.length := by
  unfold flushV
  repeat' split
  all_goals first
    | rfl
    | exact settleV_length _ _
def SGood (B : Int) (x : Nat) (data : Str) : Prop :=
  (x = 0 → ∃ s : Super, data = sealV (sBytes s) ∧ s.blocks = B ∧ supR s = true ∧ wSup s) ∧ (x = 1 → ∃ m : Nat, data = sealV (be m 4) ∧ maskR m B = true) ∧ (2 ≤ x → data.length = 8)
structure DW (B : Int) (d : Disk) : Prop where
  len : (d.sure.length : Int) = B + 2
  one : 1 ≤ B ∧ B ≤ 32
  sec : Sec d
  val : ∀ x, Val d x (SGood B x)
theorem dw_crash {B : Int} {d : Disk} (h : DW B d) : DW B (crashV d) := ⟨h.len, h.one, h.sec, h.val⟩
theorem dw_flush {B : Int} {d : Disk} (h : DW B d) : DW B (flushV d).1 := ⟨by rw [len_flush]; exact h.len, h.one, sec_flush h.sec, fun x => val_flush h.sec (h.val x)⟩
theorem dw_write {B : Int} {d : Disk} {i : Nat} {data : Str} (h : DW B d) (g : SGood B i data) : DW B (writeV d i data).1 :=
  ⟨by rw [len_write]; exact h.len, h.one, sec_write h.sec, fun x => val_write (h.val x) (fun e => by
    have : i = x := by omega
    subst this
    exact g)⟩
theorem dw_revive {B : Int} {d : Disk} (h : DW B d) (keeps : List Bool) : DW B (reviveV d keeps) :=
  ⟨by show ((settleV _ _).length : Int) = _; rw [settleV_length]; exact h.len, h.one, fun w m => (by cases m), fun x => val_revive h.sec (h.val x) keeps⟩
theorem read_sec {d : Disk} {x : Nat} (hd : d.dead = false) (hx : x < d.sure.length) (hc : ∀ w ∈ d.cache, w.sector ≠ (x : Int)) : readV d x = (d.sure[x], 0) := by
  unfold readV
  rw [if_neg (by rw [hd]; simp), if_pos ⟨by omega, by omega⟩, holds_none hc, Int.toNat_natCast, List.getD_eq_getElem?_getD, List.getElem?_eq_getElem hx]
  rfl
end Gm

set_option maxRecDepth 100000
namespace Gm
open Go
def MOk (m : Nat) (data : Str) : Prop := ∃ m' : Nat, data = sealV (be m' 4) ∧ m' < 2 ^ 32 ∧ ∀ k, m.testBit k = true → m'.testBit k = true
structure UpS (B : Int) (s : Store) : Prop where
  dw : DW B s.disk
  dead : s.disk.dead = false
  bl : s.sup.blocks = B
  one : ∀ w ∈ s.disk.cache, w.sector = 1
  mv : Val s.disk 1 (MOk s.mask.toNat)
  sb : Val s.disk 0 (fun y => y = sealV (sBytes s.sup))
  mb : maskR s.mask.toNat B = true
def SR (B : Int) (r : Store × Int) : Prop := DW B r.1.disk ∧ (r.2 = 0 → UpS B r.1)
theorem write_okv {d : Disk} {i : Int} {data : Str} (h : (writeV d i data).2 = 0) : ∃ f, (writeV d i data).1 = ⟨d.sure, d.cache ++ [⟨i, data⟩], f, false⟩ := by
  unfold writeV at h ⊢
  split
  · rename_i c; rw [if_pos c] at h; cases h
  rename_i c; rw [if_neg c] at h
  split
  · rename_i c; rw [if_pos c] at h; cases h
  rename_i c; rw [if_neg c] at h
  split
  · rename_i c; rw [if_pos c] at h; cases h
  rename_i c; rw [if_neg c] at h
  split
  · exact ⟨0, rfl⟩
  rename_i c; rw [if_neg c] at h
  split
  · rename_i c; rw [if_pos c] at h; cases h
  · exact ⟨_, rfl⟩
theorem flush_okv {d : Disk} (h : (flushV d).2 = 0) : ∃ f, (flushV d).1 = ⟨settleV d.sure d.cache, [], f, false⟩ := by
  unfold flushV at h ⊢
  split
  · rename_i c; rw [if_pos c] at h; cases h
  rename_i c; rw [if_neg c] at h
  split
  · exact ⟨0, rfl⟩
  rename_i c; rw [if_neg c] at h
  split
  · rename_i c; rw [if_pos c] at h; cases h
  · exact ⟨_, rfl⟩
theorem good_mask {B : Int} {m : Nat} (h : maskR m B = true) : SGood B 1 (sealV (be m 4)) := ⟨fun h => (by cases h), fun _ => ⟨m, rfl, h⟩, fun h => (by omega)⟩
theorem good_data {B : Int} {x : Nat} {data : Str} (hx : 2 ≤ x) (h : data.length = 8) : SGood B x data := ⟨fun h => (by omega), fun h => (by omega), fun _ => h⟩
theorem settle_snoc (s : List Str) (ws : List Write) (w : Write) : settleV s (ws ++ [w]) = (settleV s ws).set w.sector.toNat w.data := by
  unfold settleV
  rw [List.foldl_append]
  rfl
theorem val_last {d : Disk} {x : Nat} {data : Str} {f : Int} {b : Bool} : Val ⟨settleV d.sure (d.cache ++ [⟨(x : Int), data⟩]), [], f, b⟩ x (fun y => y = data) := by
  refine ⟨fun y hy => ?_, fun w m => by cases m⟩
  have hy : (settleV d.sure (d.cache ++ [⟨(x : Int), data⟩]))[x]? = some y := hy
  rw [settle_snoc, List.getElem?_set] at hy
  dsimp only at hy
  rw [Int.toNat_natCast, if_pos rfl] at hy
  split at hy
  · cases hy; rfl
  · cases hy
theorem note_dw {B : Int} {d : Disk} {m : Nat} (h : DW B d) : DW B (noteV d m).1 := by
  unfold noteV
  split
  · rename_i c
    have e : (d.sure.length : Int) - 2 = B := by have := h.len; omega
    rw [e] at c
    exact dw_write (i := 1) h (good_mask c)
  · exact h
theorem note_right {d : Disk} {m : Nat} (h : (noteV d m).2 = 0) : maskR m ((d.sure.length : Int) - 2) = true := by
  unfold noteV at h
  split at h
  · rename_i c; exact c
  · cases h
theorem note_okv {d : Disk} {m : Nat} (h : (noteV d m).2 = 0) : ∃ f, (noteV d m).1 = ⟨d.sure, d.cache ++ [⟨1, sealV (be m 4)⟩], f, false⟩ := by
  unfold noteV at h ⊢
  split
  · rename_i c; rw [if_pos c] at h; exact write_okv h
  · rename_i c; rw [if_neg c] at h; cases h
theorem save_dw {B : Int} {d : Disk} {m : Nat} (h : DW B d) : DW B (saveV d m).1 := by
  unfold saveV
  split
  · exact note_dw h
  · exact dw_flush (note_dw h)
theorem save_note {d : Disk} {m : Nat} (h : (saveV d m).2 = 0) : (noteV d m).2 = 0 := by
  unfold saveV at h
  split at h
  · rename_i c; exact (c h).elim
  · rename_i c; exact Decidable.not_not.1 c
theorem DW.two {B : Int} {d : Disk} (h : DW B d) : (d.sure.length : Int) - 2 = B := by have := h.len; omega
theorem save_okv {d : Disk} {m : Nat} (h : (saveV d m).2 = 0) : ∃ f, (saveV d m).1 = ⟨settleV d.sure (d.cache ++ [⟨1, sealV (be m 4)⟩]), [], f, false⟩ := by
  unfold saveV at h ⊢
  split
  · rename_i c; rw [if_pos c] at h; exact (c h).elim
  · rename_i c
    rw [if_neg c] at h
    obtain ⟨f1, h1⟩ := note_okv (Decidable.not_not.1 c)
    obtain ⟨f2, h2⟩ := flush_okv h
    rw [h1] at h2
    exact ⟨f2, by rw [h1]; exact h2⟩
theorem mok_self {m : Int} (h : inK .u32 m) : MOk m.toNat (sealV (be m.toNat 4)) := ⟨m.toNat, rfl, (u32_toNat h).1, fun _ h => h⟩
theorem sr_save {B : Int} {s : Store} {m : Int} (h : UpS B s) (hm : inK .u32 m) : SR B (stSave s m) := by
  unfold stSave
  split
  · exact ⟨h.dw, fun _ => h⟩
  refine ⟨save_dw h.dw, fun e => ?_⟩
  have e : (saveV s.disk m.toNat).2 = 0 := e
  obtain ⟨f, hd⟩ := save_okv e
  have hr := note_right (save_note e)
  rw [h.dw.two] at hr
  refine ⟨save_dw h.dw, by show (saveV s.disk m.toNat).1.dead = false; rw [hd], h.bl, ?_, ?_, ?_, by show maskR (if (saveV s.disk m.toNat).2 = 0 then m else s.mask).toNat B = true; rw [if_pos e]; exact hr⟩
  · show ∀ w ∈ (saveV s.disk m.toNat).1.cache, w.sector = 1
    rw [hd]
    intro w m; cases m
  · show Val (saveV s.disk m.toNat).1 1 (MOk (if (saveV s.disk m.toNat).2 = 0 then m else s.mask).toNat)
    rw [if_pos e, hd]
    exact (val_last (d := s.disk) (x := 1)).imp (fun y e => by rw [e]; exact mok_self hm)
  · show Val (saveV s.disk m.toNat).1 0 (fun y => y = sealV (sBytes s.sup))
    rw [hd]
    refine val_flushed (d := ⟨s.disk.sure, s.disk.cache ++ [⟨1, sealV (be m.toNat 4)⟩], f, false⟩) ?_ ⟨h.sb.1, fun w m e => ?_⟩
    · intro w m
      have := h.dw.len
      have := h.dw.one
      rcases List.mem_append.1 m with m | m
      · exact h.dw.sec w m
      · cases List.mem_singleton.1 m
        exact ⟨by show (0 : Int) ≤ 1; omega, by show (1 : Int) < (s.disk.sure.length : Int); omega⟩
    rcases List.mem_append.1 m with m | m
    · exact h.sb.2 w m e
    · cases List.mem_singleton.1 m
      cases e
theorem sr_mark {B : Int} {s : Store} {i : Int} (h : UpS B s) (hm : inK .u32 s.mask) : SR B (stMark s i) := by
  unfold stMark
  split
  · exact sr_save h (set_u32 hm)
  · exact ⟨h.dw, fun e => by cases e⟩
theorem put_dw {B : Int} {d : Disk} {i : Int} {data : Str} (h : DW B d) : DW B (putV d i data).1 := by
  unfold putV
  split
  · rename_i hb
    split
    · rename_i hl
      have hb : 0 ≤ i ∧ i < (d.sure.length : Int) - 2 := hb
      have e : i + 2 = ((i.toNat + 2 : Nat) : Int) := by omega
      rw [e]
      have dw := dw_write (i := i.toNat + 2) h (good_data (by omega) hl)
      split
      · exact dw
      · exact dw_flush dw
    · exact h
  · exact h
theorem put_okv {d : Disk} {i : Int} {data : Str} (h : (putV d i data).2 = 0) : bd d i ∧ data.length = 8 ∧ ∃ f, (putV d i data).1 = ⟨settleV d.sure (d.cache ++ [⟨i + 2, data⟩]), [], f, false⟩ := by
  unfold putV at h ⊢
  split
  case isFalse c => rw [if_neg c] at h; cases h
  rename_i c; rw [if_pos c] at h
  split
  case isFalse c => rw [if_neg c] at h; cases h
  rename_i hl; rw [if_pos hl] at h
  refine ⟨c, hl, ?_⟩
  split
  · rename_i c; rw [if_pos c] at h; exact (c h).elim
  · rename_i c
    rw [if_neg c] at h
    obtain ⟨f1, h1⟩ := write_okv (Decidable.not_not.1 c)
    obtain ⟨f2, h2⟩ := flush_okv h
    rw [h1] at h2
    exact ⟨f2, by rw [h1]; exact h2⟩
theorem sr_put {B : Int} {s : Store} {i : Int} {data : Str} (h : UpS B s) : SR B (stPut s i data) := by
  unfold stPut
  refine ⟨put_dw h.dw, fun e => ?_⟩
  have e : (putV s.disk i data).2 = 0 := e
  obtain ⟨hb, hl, f, hd⟩ := put_okv e
  have hb : 0 ≤ i ∧ i < (s.disk.sure.length : Int) - 2 := hb
  have sec2 : Sec ⟨s.disk.sure, s.disk.cache ++ [⟨i + 2, data⟩], f, false⟩ := by
    intro w m
    rcases List.mem_append.1 m with m | m
    · exact h.dw.sec w m
    · cases List.mem_singleton.1 m
      exact ⟨by dsimp only; omega, by dsimp only; omega⟩
  refine ⟨put_dw h.dw, by show (putV s.disk i data).1.dead = false; rw [hd], h.bl, ?_, ?_, ?_, h.mb⟩
  · show ∀ w ∈ (putV s.disk i data).1.cache, w.sector = 1
    rw [hd]
    intro w m; cases m
  · show Val (putV s.disk i data).1 1 (MOk s.mask.toNat)
    rw [hd]
    refine val_flushed sec2 ⟨h.mv.1, fun w m e => ?_⟩
    rcases List.mem_append.1 m with m | m
    · exact h.mv.2 w m e
    · cases List.mem_singleton.1 m
      have e : i + 2 = 1 := e
      omega
  · show Val (putV s.disk i data).1 0 (fun y => y = sealV (sBytes s.sup))
    rw [hd]
    refine val_flushed sec2 ⟨h.sb.1, fun w m e => ?_⟩
    rcases List.mem_append.1 m with m | m
    · exact h.sb.2 w m e
    · cases List.mem_singleton.1 m
      have e : i + 2 = 0 := e
      omega
end Gm

set_option maxRecDepth 100000
namespace Gm
open Go
def NW (B : Int) (n : Node) : Prop := DW B n.store.disk ∧ (n.up = true → UpS B n.store)
section
variable {B : Int} {N : Nat} {n : Node} (o : OkN N n) (h : UpS B n.store)
include o h
end
section
variable {B : Int} {N : Nat} {n : Node} (h64 : 64 ≤ N) (o : OkN N n) (h : UpS B n.store)
include h64 o h
end
theorem attach_dw {B : Int} {d : Disk} (h : DW B d) (hd : d.dead = false) (hc : d.cache = []) : ∃ (s : Super) (m : Nat), stAttach d = (⟨d, s, (m : Int)⟩, 0) ∧ s.blocks = B ∧ m < 2 ^ 32 ∧ d.sure[1]? = some (sealV (be m 4)) ∧ d.sure[0]? = some (sealV (sBytes s)) ∧ maskR m B = true := by
  have hl := h.len
  have h1 := h.one
  have nc : ∀ (x : Nat), ∀ w ∈ d.cache, w.sector ≠ (x : Int) := fun x w m => by rw [hc] at m; cases m
  have rd : ∀ (x : Nat) (hx : x < d.sure.length), readV d x = (d.sure[x], 0) := fun x hx => read_sec hd hx (nc x)
  have gv : ∀ (x : Nat) (hx : x < d.sure.length), SGood B x d.sure[x] := fun x hx => (h.val x).1 _ (List.getElem?_eq_getElem hx)
  obtain ⟨s, e0, hsb, hsr, hsw⟩ := (gv 0 (by omega)).1 rfl
  obtain ⟨m, e1, hm⟩ := (gv 1 (by omega)).2.1 rfl
  have hm32 : m < 2 ^ 32 := by
    have hm := hm
    unfold maskR at hm
    have hm := (of_decide_eq_true hm).2.2
    have : (2 : Int) ^ B.toNat ≤ 2 ^ 32 := by
      have : (2 : Nat) ^ B.toNat ≤ 2 ^ 32 := Nat.pow_le_pow_right (by decide) (by omega)
      exact_mod_cast this
    have h3 : (2 : Int) ^ 32 = 4294967296 := by decide
    have h4 : (2 : Nat) ^ 32 = 4294967296 := by decide
    omega
  have lS : loadS d = (s, 0) := by
    unfold loadS
    have r0 : readV d 0 = (sealV (sBytes s), 0) := by rw [← e0]; exact rd 0 (by omega)
    rw [r0]
    dsimp only
    rw [decS6_seal hsw hsr, if_neg (by simp), if_neg (by simp), if_pos ?_]
    unfold fitsS
    rw [beq_iff_eq]
    show s.blocks = (d.sure.length : Int) - 2
    omega
  have lV : loadV d = ((m : Int), 0) := by
    unfold loadV
    have r1 : readV d 1 = (sealV (be m 4), 0) := by rw [← e1]; exact rd 1 (by omega)
    have hu : unbe (be m 4) = m := by
      rw [unbe_be]
      exact Nat.mod_eq_of_lt (by simpa using hm32)
    rw [r1]
    dsimp only
    rw [openV_seal, if_neg (by simp), if_neg (by simp), hu, if_pos ⟨be_length _ _, by rw [show (d.sure.length : Int) - 2 = B by omega]; exact hm⟩]
  have aR : ∀ k : Nat, (k : Int) < B → (aReadV d k).2 = 0 := by
    intro k hk
    unfold aReadV
    have r : readV d ((k : Int) + 2) = (d.sure[k + 2]'(by omega), 0) := rd (k + 2) (by omega)
    rw [if_pos (show bd d k from ⟨by omega, by omega⟩), r, if_neg (by simp), if_pos ((gv (k + 2) (by omega)).2.2 (by omega))]
  have aN : ∀ k : Nat, (k : Int) ≤ B → (allN d k).2 = 0 := by
    intro k
    induction k with
    | zero => intro _; rfl
    | succ k ih =>
      intro hk
      unfold allN
      rw [if_neg (fun e => e (ih (by omega))), if_neg (fun e => e (aR k (by omega)))]
  have aV : (allV d).2 = 0 := aN _ (by omega)
  refine ⟨s, m, ?_, hsb, hm32, by rw [List.getElem?_eq_getElem (by omega), e1], by rw [List.getElem?_eq_getElem (by omega), e0], hm⟩
  unfold stAttach
  rw [lS, lV, if_neg (by simp), if_neg (by simp), if_neg (fun e => e aV)]
theorem up_attach {B : Int} {d : Disk} (h : DW B d) (hd : d.dead = false) (hc : d.cache = []) : (stAttach d).2 = 0 ∧ UpS B (stAttach d).1 := by
  obtain ⟨s, m, e, hs, hm, h1, h0, hr⟩ := attach_dw h hd hc
  rw [e]
  have nc : ∀ w ∈ d.cache, False := fun w m => by rw [hc] at m; cases m
  refine ⟨rfl, h, hd, hs, fun w m => (nc w m).elim, ⟨fun y hy => ?_, fun w m => (nc w m).elim⟩, ⟨fun y hy => ?_, fun w m => (nc w m).elim⟩, ?_⟩
  · have hy : d.sure[1]? = some y := hy
    rw [h1] at hy
    cases hy
    exact ⟨m, rfl, hm, fun k hk => hk⟩
  · have hy : d.sure[0]? = some y := hy
    rw [h0] at hy
    cases hy
    rfl
  · exact hr
end Gm

set_option maxRecDepth 100000
namespace Gm
open Go
def CW (B : Int) (c : Cluster) : Prop := NW B c.n0 ∧ NW B c.n1
theorem CW.node {B : Int} {c : Cluster} (h : CW B c) (i : Bool) : NW B (nodeC c i) := by cases i; exact h.1; exact h.2
end Gm

set_option maxRecDepth 100000
namespace Gm
open Go
structure NI (B : Int) (n : Node) : Prop where
  dn : n.up = false → n.state = 0
  w0 : ¬ (n.state = 4 ∧ n.store.sup.inc = true) → n.wanted = 0
  w4 : n.state = 4 → n.store.sup.inc = true → 1 ≤ n.wanted ∧ n.wanted ≤ B
theorem NI.same {B : Int} {n m : Node} (h : NI B n) (h1 : m.up = n.up) (h2 : m.state = n.state) (h3 : m.store.sup.inc = n.store.sup.inc) (h4 : m.wanted = n.wanted) : NI B m :=
  ⟨fun e => h2.trans (h.dn (h1.symm.trans e)), fun c => h4.trans (h.w0 (fun c2 => c ⟨h2.trans c2.1, h3.trans c2.2⟩)), fun c1 c2 => by rw [h4]; exact h.w4 (h2.symm.trans c1) (h3.symm.trans c2)⟩
section
variable {B : Int} {n : Node} (h : NI B n)
include h
end
end Gm

set_option maxRecDepth 100000
namespace Gm
open Go
end Gm

set_option maxRecDepth 100000
namespace Gm
open Go
section
variable {B : Int} {n : Node} (hu : n.up = true) (h : NI B n)
include hu h
end
end Gm

set_option maxRecDepth 100000
namespace Gm
open Go
end Gm

set_option maxRecDepth 100000
namespace Gm
open Go
structure CI (B : Int) (c : Cluster) : Prop where
  a : NI B c.n0
  b : NI B c.n1
  dl : c.link.up = false → c.n0.state = 0 ∧ c.n1.state = 0
theorem CI.node {B : Int} {c : Cluster} (h : CI B c) (i : Bool) : NI B (nodeC c i) := by cases i; exact h.a; exact h.b
theorem CI.zero {B : Int} {c : Cluster} (h : CI B c) (i : Bool) (e : c.link.up = false) : (nodeC c i).state = 0 := by cases i; exact (h.dl e).1; exact (h.dl e).2
end Gm

set_option maxRecDepth 100000
namespace Gm
open Go
section
variable {n : Node} (s : n.state = 0)
include s
end
end Gm

set_option maxRecDepth 100000
namespace Gm
open Go
theorem dw_fmt {b : Int} {g : Nat} (hb : 1 ≤ b ∧ b ≤ 32) (hg : g ≠ 0) (h64 : g < 18446744073709551616) : DW b (fmtV b g).1 := by
  unfold fmtV
  rw [if_pos ⟨hb.1, hb.2, hg⟩]
  have w : wSup (supN b g) := ⟨⟨by show (-9223372036854775808 : Int) ≤ b; omega, by show b ≤ (9223372036854775807 : Int); omega⟩, ⟨by show (0 : Int) ≤ (g : Int); omega, by show (g : Int) ≤ (18446744073709551615 : Int); omega⟩, u64_0, u64_0, u64_0⟩
  have r : supR (supN b g) = true := by
    unfold supR supN
    rw [Bool.and_eq_true]
    refine ⟨decide_eq_true hb, ?_⟩
    have : ((g : Int) == 0) = false := beq_eq_false_iff_ne.2 (by omega)
    rw [this]; rfl
  refine ⟨?_, hb, fun w m => (by cases m), fun x => ⟨fun y hy => ?_, fun w m => (by cases m)⟩⟩
  · show ((fmtS b.toNat g).length : Int) = b + 2
    unfold fmtS
    simp only [List.length_cons, List.length_replicate]
    omega
  · have hy : (fmtS b.toNat g)[x]? = some y := hy
    unfold fmtS at hy
    match x, hy with
    | 0, hy =>
      cases hy
      refine ⟨fun _ => ⟨supN b g, ?_, rfl, r, w⟩, fun h => (by cases h), fun h => (by omega)⟩
      rfl
    | 1, hy =>
      cases hy
      refine ⟨fun h => (by cases h), fun _ => ⟨0, rfl, ?_⟩, fun h => (by omega)⟩
      unfold maskR
      refine decide_eq_true ⟨hb.1, hb.2, ?_⟩
      have := Nat.two_pow_pos b.toNat
      have h2 : (2 : Int) ^ b.toNat = ((2 ^ b.toNat : Nat) : Int) := by simp
      rw [h2]
      omega
    | x + 2, hy =>
      simp only [List.getElem?_cons_succ, List.getElem?_replicate] at hy
      split at hy
      · cases hy
        exact good_data (by omega) rfl
      · cases hy
end Gm

set_option maxRecDepth 100000
namespace Gm
open Go
end Gm

set_option maxRecDepth 100000
namespace Gm
open Go
def IdC (c : Cluster) : Prop := c.n0.id = 0 ∧ c.n1.id = 1
theorem IdC.node {c : Cluster} (h : IdC c) (i : Bool) : (nodeC c i).id = bI i := by cases i; exact h.1; exact h.2
end Gm

set_option maxRecDepth 100000
namespace Gm
open Go
structure PI (n : Node) : Prop where
  p1 : n.primary = true → n.store.sup.inc = false
  p2 : n.asking = true → n.state = 2 ∨ n.state = 3
  p3 : n.state = 2 ∨ n.state = 3 → n.store.sup.inc = false
theorem PI.same {n m : Node} (h : PI n) (h1 : m.primary = n.primary) (h2 : m.asking = n.asking) (h3 : m.state = n.state) (h4 : m.store.sup.inc = n.store.sup.inc) : PI m :=
  ⟨fun e => h4.trans (h.p1 (h1.symm.trans e)), fun e => by rw [h3]; exact h.p2 (h2.symm.trans e), fun e => h4.trans (h.p3 (by rw [← h3]; exact e))⟩
section
variable {n : Node} (h : PI n)
include h
end
end Gm

set_option maxRecDepth 100000
namespace Gm
open Go
def PC (c : Cluster) : Prop := PI c.n0 ∧ PI c.n1
theorem PC.node {c : Cluster} (h : PC c) (i : Bool) : PI (nodeC c i) := by cases i; exact h.1; exact h.2
theorem IdC.two {c : Cluster} (h : IdC c) (i : Bool) : (nodeC c i).id = 0 ∨ (nodeC c i).id = 1 := by cases i; exact .inl h.1; exact .inr h.2
end Gm

set_option maxRecDepth 100000
namespace Gm
open Go
end Gm

set_option maxRecDepth 100000
namespace Gm
open Go
theorem diskSame_ok {d : Disk} (h1 : d.sure.length ≤ 1000000) (h2 : d.cache.length ≤ 1000000) {K : Bool → Prop} (k : K true) : q120.F d d K := by
  unfold q120.F
  refine cond_f (by simp) (cond_f (by simp) (cond_f (by simp) (cond_f (by simp) ?_)))
  refine loop_ok (I := fun x : q120.L0 => ∃ j : Nat, j ≤ d.sure.length ∧ x = ⟨j, d, d⟩) (m := fun x : q120.L0 => d.sure.length - x.i.toNat) ?_ ⟨0, by omega, rfl⟩
  rintro _ ⟨j, hj, rfl⟩ rec hrec
  unfold q120.b0
  dsimp only
  refine cond_ok (fun h => ?_) (fun _ => ?_)
  · have hlt := lt_of_dec h
    rw [wrap_lt hlt (by unfold big; omega)]
    exact oget_ok (getI_ok hlt) (oget_ok (getI_ok hlt) (cond_f (by simp) (hrec _ ⟨j + 1, hlt, rfl⟩ (by dsimp only; omega))))
  · refine loop_ok (I := fun x : q120.L2 => ∃ j : Nat, j ≤ d.cache.length ∧ x = ⟨j, d, d⟩) (m := fun x : q120.L2 => d.cache.length - x.i.toNat) ?_ ⟨0, by omega, rfl⟩
    rintro _ ⟨j, hj, rfl⟩ rec hrec
    unfold q120.b2
    dsimp only
    refine cond_ok (fun h => ?_) (fun _ => k)
    have hlt := lt_of_dec h
    rw [wrap_lt hlt (by unfold big; omega)]
    exact oget_ok (getI_ok hlt) (oget_ok (getI_ok hlt) (cond_f (by simp) (hrec _ ⟨j + 1, hlt, rfl⟩ (by dsimp only; omega))))
theorem storeSame_ok {s : Store} (h1 : s.disk.sure.length ≤ 1000000) (h2 : s.disk.cache.length ≤ 1000000) {K : Bool → Prop} (k : K true) : q121.F s s K := by
  unfold q121.F q121.FV
  refine diskSame_ok h1 h2 (cond_t rfl (cond_t (by simp) ?_))
  rw [beq_self_eq_true]
  exact k
end Gm

set_option maxRecDepth 100000
namespace Gm
open Go
theorem diskRead_ok {N : Nat} {d : Disk} {i : Int} (hN : N ≤ 100000) (o : OkD N d) {K : (Str × Int) → Prop} (k : K (readV d i)) : disk_Read.F d i K := by
  have h1 := o.s
  have h2 := o.c
  unfold disk_Read.F
  refine cond_t ?_ k
  rw [Bool.and_eq_true]
  exact ⟨Nat.ble_eq_true_of_le (by omega), Nat.ble_eq_true_of_le (by omega)⟩
theorem areaRead_ok {N : Nat} {d : Disk} {i : Int} (hN : N ≤ 100000) (o : OkD N d) {K : (Str × Int) → Prop} (k : K (aReadV d i)) : q61.F d i K := by
  have hs := o.s
  unfold q61.F q61.FV
  unfold aReadV at k
  refine area_there_ok (by omega) (cond_ok (fun h => ?_) (fun h => ?_))
  · rw [if_neg (of_decide_eq_false (not_t h))] at k; exact k
  have hb := of_decide_eq_true (not_f h)
  rw [if_pos hb] at k
  rw [add2 (by omega) hb]
  refine diskRead_ok hN o (cond_ok (fun h => ?_) (fun h => ?_))
  · rw [if_pos (ne_t h)] at k; exact k
  rw [if_neg (fun e => e (ne_f h))] at k
  refine cond_ok (fun h => ?_) (fun h => ?_)
  · rw [if_neg (bne_nat (b := 8) h)] at k; exact k
  · rw [if_pos (bne_nat' (b := 8) h)] at k; exact k
section
variable {N : Nat} {n : Node} (hN : N ≤ 6900) (h64 : 64 ≤ N) (o : OkN N n)
include hN h64 o
end
end Gm

set_option maxRecDepth 100000
namespace Gm
open Go
end Gm

set_option maxRecDepth 100000
namespace Gm
open Go
theorem ior_orM {a b : Int} (ha : inK .u32 a) (hb : inK .u32 b) : ior .u32 a b = orM a b := by
  obtain ⟨a1, a2⟩ := u32_toNat ha
  obtain ⟨b1, b2⟩ := u32_toNat hb
  have := ior_nat (k := .u32) rfl (x := a.toNat) (y := b.toNat) (by exact a1) (by exact b1)
  rw [a2, b2] at this
  exact this
theorem orM_zero {a : Int} (ha : inK .u32 a) : orM 0 a = a := by
  unfold orM
  rw [show (0 : Int).toNat = 0 from rfl, Nat.zero_or]
  exact (u32_toNat ha).2
section
variable {N : Nat} {n : Node} (hN : N ≤ 6800) (h64 : 64 ≤ N) (o : OkN N n)
include o
include hN h64
end
end Gm



set_option maxRecDepth 100000
namespace Gm
open Go
section
variable {N : Nat} {n : Node} (hN : N ≤ 6800) (h64 : 64 ≤ N) (o : OkN N n)
include hN h64 o
end
end Gm

set_option maxRecDepth 100000
namespace Gm
open Go
theorem eqStr_ok {l : List Str} (h : l.length ≤ 1000000) {K : Bool → Prop} (k : K true) : q93.F l l K := by
  unfold q93.F
  refine cond_f (by simp) ?_
  refine loop_ok (I := fun x : q93.L0 => ∃ j : Nat, j ≤ l.length ∧ x = ⟨l, l, l.length, j⟩) (m := fun x : q93.L0 => l.length - x.t13.toNat) ?_ ⟨0, by omega, rfl⟩
  rintro _ ⟨j, hj, rfl⟩ rec hrec
  unfold q93.b0
  dsimp only
  refine cond_ok (fun h => ?_) (fun _ => k)
  have hlt := lt_of_dec h
  rw [wrap_lt hlt (by unfold big; omega)]
  exact oget_ok (getI_ok hlt) (oget_ok (getI_ok hlt) (cond_f (by simp) (hrec _ ⟨j + 1, hlt, rfl⟩ (by dsimp only; omega))))
theorem eqWrite_ok {l : List Write} (h : l.length ≤ 1000000) {K : Bool → Prop} (k : K true) : q94.F l l K := by
  unfold q94.F
  refine cond_f (by simp) ?_
  refine loop_ok (I := fun x : q94.L0 => ∃ j : Nat, j ≤ l.length ∧ x = ⟨l, l, l.length, j⟩) (m := fun x : q94.L0 => l.length - x.t13.toNat) ?_ ⟨0, by omega, rfl⟩
  rintro _ ⟨j, hj, rfl⟩ rec hrec
  unfold q94.b0
  dsimp only
  refine cond_ok (fun h => ?_) (fun _ => k)
  have hlt := lt_of_dec h
  rw [wrap_lt hlt (by unfold big; omega)]
  exact oget_ok (getI_ok hlt) (oget_ok (getI_ok hlt) (cond_f (by simp) (hrec _ ⟨j + 1, hlt, rfl⟩ (by dsimp only; omega))))
theorem storeSameP_ok {s : Store} (h1 : s.disk.sure.length ≤ 1000000) (h2 : s.disk.cache.length ≤ 1000000) {K : Bool → Prop} (k : K true) : q96.F s s K := by
  unfold q96.F q96.FV q95.F q95.FV
  refine eqStr_ok h1 (cond_t rfl (eqWrite_ok h2 (cond_t rfl (cond_t (by simp) ?_))))
  refine cond_t (by simp) (cond_t (by simp) (use_eq k ?_))
  simp
end Gm

set_option maxRecDepth 100000
namespace Gm
open Go
theorem num_get_ok {s : Str} (hs : s.length ≤ 8) {K : Int → Prop} (h : K (unbe s)) : q9.F s K := by
  unfold q9.F
  refine loop_ok (I := fun x : q9.L0 => ∃ i : Nat, i ≤ s.length ∧ x = ⟨s, unbe (s.take i), s.length, i⟩) (m := fun x : q9.L0 => s.length - x.t6.toNat) ?_ ⟨0, by simp, rfl⟩
  rintro _ ⟨i, hi, rfl⟩ rec hrec
  unfold q9.b0
  dsimp only
  refine cond_ok (fun h1 => ?_) (fun h1 => ?_)
  · have hlt : i < s.length := by simpa using h1
    refine oget_ok (getI_ok hlt) ?_
    rw [wrap_i64 (x := (i : Int) + 1) (by omega)]
    refine hrec _ ⟨i + 1, hlt, ?_⟩ (by simp; omega)
    congr 1
    have h2 := unbe_lt i (s.take i) (by simp; omega)
    have h3 := pow256 (i := i) (by omega)
    have h4 := u8_lt s[i]
    rw [unbe_take hlt]
    generalize unbe (s.take i) = y at *
    generalize s[i].toNat = z at *
    have e1 := ishl_nat (k := .u64) rfl y (y := 8) (by decide)
    rw [show ((8 : Nat) : Int) = 8 from rfl] at e1
    rw [e1, show IntKind.u64.wrap (z : Int) = (z : Int) by rw [wrap_u64]; omega]
    have e2 : y * 2 ^ 8 % 2 ^ IntKind.u64.bits = 2 ^ 8 * y := by
      show y * 256 % 18446744073709551616 = 256 * y
      omega
    rw [e2, ior_nat (k := .u64) rfl (by show 2 ^ 8 * y < 2 ^ 64; omega) (by show z < 2 ^ 64; omega), ← Nat.two_pow_add_eq_or_of_lt (by omega)]
    omega
  · have hlt : i = s.length := by have : ¬ i < s.length := by simpa using h1
                                  omega
    subst hlt
    simpa using h
theorem num_Unflag_ok {b : Nat} (hb : b < 256) {n : Int} {K : (List Bool × Bool) → Prop} (h : K (unflag b n)) : q17.F b n K := by
  unfold q17.F
  unfold unflag at h
  refine cond_ok (fun h1 => ?_) (fun h1 => ?_)
  · have h1 : n < 0 := of_decide_eq_true h1
    rw [if_neg (by omega)] at h
    exact h
  have h1 : ¬ n < 0 := of_decide_eq_false h1
  refine cond_ok (fun h2 => ?_) (fun h2 => ?_)
  · have h2 : n > 8 := of_decide_eq_true h2
    rw [if_neg (by omega)] at h
    exact h
  have h2 : ¬ n > 8 := of_decide_eq_false h2
  obtain ⟨k, rfl⟩ : ∃ k : Nat, n = k := ⟨n.toNat, by omega⟩
  simp only [Int.toNat_natCast] at h ⊢
  refine gd_ok (by simp) ?_
  have e0 := ishr_nat (k := .u8) b (y := k) (by show k ≤ 8; omega)
  rw [e0]
  refine cond_ok (fun h3 => ?_) (fun h3 => ?_)
  · have h3 : ¬ b / 2 ^ k = 0 := by
      intro e; rw [e] at h3; simp at h3
    rw [if_neg (by simp [h3])] at h
    exact h
  · have h3 : b / 2 ^ k = 0 := by
      have : ((b / 2 ^ k : Nat) : Int) = 0 := by
        rcases Bool.eq_false_or_eq_true (((b / 2 ^ k : Nat) : Int) == 0) with h4 | h4
        · exact eq_of_beq h4
        · rw [bne, h4] at h3; cases h3
      omega
    rw [if_pos ⟨by omega, by omega, h3⟩] at h
    refine gd_ok (by simp [room]; omega) ?_
    refine loop_ok (I := fun x : q17.L0 => ∃ i : Nat, i ≤ k ∧ x = ⟨b, unf b i ++ List.replicate (k - i) false, k, i⟩) (m := fun x : q17.L0 => k - x.t24.toNat) ?_ ⟨0, by simp, by simp [unf]⟩
    rintro _ ⟨i, hi, rfl⟩ rec hrec
    unfold q17.b0
    dsimp only
    refine cond_ok (fun h4 => ?_) (fun h4 => ?_)
    · have hlt : i < k := by simpa using h4
      refine gd_ok (by simp) ?_
      refine gd_ok (by simp [unf]; omega) ?_
      rw [wrap_i64 (x := (i : Int) + 1) (by omega)]
      refine hrec _ ⟨i + 1, hlt, ?_⟩ (by simp; omega)
      congr 1
      have e1 := ishr_nat (k := .u8) b (y := i) (by show i ≤ 8; omega)
      have hq : b / 2 ^ i < 256 := Nat.lt_of_le_of_lt (Nat.div_le_self _ _) hb
      have e2 := iand_nat (k := .u8) rfl (x := b / 2 ^ i) (y := 1) hq (by decide)
      rw [e1, show (1 : Int) = ((1 : Nat) : Int) from rfl, e2, Nat.and_one_is_mod, unf_take b i]
      rw [show k - i = k - (i + 1) + 1 by omega, List.replicate_succ]
      have e3 := set_mid (unf b i) false ((((b / 2 ^ i % 2 : Nat) : Int)) == ((1 : Nat) : Int)) (List.replicate (k - (i + 1)) false)
      rw [unf_length] at e3
      rw [Int.toNat_natCast, e3, List.append_assoc]
      congr 2
      rcases Nat.mod_two_eq_zero_or_one (b / 2 ^ i) with h5 | h5 <;> rw [h5] <;> rfl
    · have hlt : i = k := by have : ¬ i < k := by simpa using h4
                             omega
      subst hlt
      simpa using h
theorem num_Get32_ok {s : Str} {K : (Int × Bool) → Prop} (h : K (getN s 4)) : q10.F s K := by
  unfold q10.F q10.FV
  unfold getN at h
  refine cond_ok (fun h1 => ?_) (fun h1 => ?_)
  · rw [if_neg (bne_nat (b := 4) h1)] at h; exact h
  · have h2 := bne_nat' (b := 4) h1
    rw [if_pos h2] at h
    refine num_get_ok (by omega) ?_
    have := unbe_lt 4 s h2
    rw [show IntKind.u32.wrap (unbe s : Int) = (unbe s : Int) by rw [wrap_u32]; omega]
    exact h
theorem num_Get64_ok {s : Str} {K : (Int × Bool) → Prop} (h : K (getN s 8)) : q18.F s K := by
  unfold q18.F q18.FV
  unfold getN at h
  refine cond_ok (fun h1 => ?_) (fun h1 => ?_)
  · rw [if_neg (bne_nat (b := 8) h1)] at h; exact h
  · have h2 := bne_nat' (b := 8) h1
    rw [if_pos h2] at h
    exact num_get_ok (by omega) h
theorem check_Open_ok {s : Str} (hs : wStr s) {K : (Str × Int) → Prop} (h : K (openV s)) : q13.F s K := by
  unfold q13.F q13.FV
  have hb : s.length ≤ 140737488351232 := hs
  rw [wrap_i64 (x := (s.length : Int) - 4) (by omega)]
  unfold openV at h
  refine cond_ok (fun h1 => ?_) (fun h1 => ?_)
  · have h1 : (s.length : Int) - 4 < 0 := of_decide_eq_true h1
    rw [if_pos (by omega)] at h
    exact h
  · have h1 : ¬ (s.length : Int) - 4 < 0 := of_decide_eq_false h1
    rw [if_neg (by omega)] at h
    have g1 : (decide (0 ≤ (s.length : Int) - 4) && decide ((s.length : Int) - 4 ≤ (s.length : Int))) = true := by
      simp; omega
    have e1 : ((s.length : Int) - 4).toNat = s.length - 4 := by omega
    rw [e1, sub_take, sub_drop]
    refine gd_ok g1 (num_Get32_ok (gd_ok g1 (check_Sum_ok ?_ ?_)))
    · unfold wStr; simp; omega
    · have hd : (s.drop (s.length - 4)).length = 4 := by simp; omega
      have hu : (getN (s.drop (s.length - 4)) 4).1 = (unbe (s.drop (s.length - 4)) : Int) := by
        unfold getN; rw [if_pos hd]
      rw [hu]
      have hsplit : s.take (s.length - 4) ++ s.drop (s.length - 4) = s := List.take_append_drop _ _
      refine cond_ok (fun h2 => ?_) (fun h2 => ?_)
      · have h2 := bne_nat h2
        rw [if_neg ?_] at h
        · exact h
        · intro he
          apply h2
          unfold sealV at he
          have h3 : be (fnv (s.take (s.length - 4))) 4 = s.drop (s.length - 4) := by
            have := he.trans hsplit.symm
            exact List.append_cancel_left this
          rw [← h3, unbe_be]
          have := fnv_lt (s.take (s.length - 4))
          omega
      · have h2 := bne_nat' h2
        rw [if_pos ?_] at h
        · exact gd_ok g1 h
        · unfold sealV
          rw [← h2, be_unbe 4 _ hd, hsplit]
end Gm

set_option maxRecDepth 100000
namespace Gm
open Go
def zv (s : Super) : Super := ⟨s.blocks, zV, s.inc, s.pri, s.dis⟩
def un (t : Str) (i : Nat) : Int := (unbe (sub t i (i + 8)) : Int)
theorem sub_in {t : Str} {i j : Nat} : sub (sub t 2 t.length) i j = sub t (2 + i) (2 + j) := by
  unfold sub
  rw [List.take_length, List.take_drop, List.drop_drop]
theorem hasPre_ok {p t : Str} {K : Bool → Prop} (k : K true) : q14.F (p ++ t) p K := by
  unfold q14.F
  have : (p ++ t).length = p.length + t.length := by simp
  refine cond_t (decide_eq_true (by omega)) (gd_ok (by simp; omega) ?_)
  refine use_eq k ?_
  rw [Int.toNat_natCast, sub_take, List.take_left, beq_self_eq_true]
theorem cutPre_ok {p t : Str} {K : (Str × Bool) → Prop} (k : K (t, true)) : q16.F (p ++ t) p K := by
  unfold q16.F q16.FV q15.F q15.FV
  have : (p ++ t).length = p.length + t.length := by simp
  refine hasPre_ok (cond_f rfl (gd_ok (by simp; omega) ?_))
  refine use_eq k ?_
  rw [Int.toNat_natCast, sub_drop, List.drop_left]
theorem sup_at {t : Str} : sOfBytes ([71, 77, 1] ++ t) = ⟨((t.getD 0 0).toNat : Int), ⟨un t 2, un t 10, un t 18, un t 26⟩, bit (t.getD 1 0) 0, bit (t.getD 1 0) 1, bit (t.getD 1 0) 2⟩ := rfl
theorem get64_in {t : Str} (hl : t.length = 34) {i : Nat} (hi : 2 + i + 8 ≤ 34) {K : (Int × Bool) → Prop} (k : K (un t (2 + i), true)) : q18.F (sub (sub t 2 t.length) i (i + 8)) K := by
  refine num_Get64_ok ?_
  rw [sub_in]
  unfold getN
  rw [if_pos (by rw [sub_len (by omega)]; omega)]
  exact k
theorem parts_ok {t : Str} (hl : t.length = 34) {b : Int} {i p d : Bool} (hb : inK .i64 b) (hs : supR ⟨b, ⟨un t 2, un t 10, un t 18, un t 26⟩, i, p, d⟩ = true)
    {X : Prop} {Y : (Int × Bool) → (Int × Bool) → (Int × Bool) → (Int × Bool) → Bool → Prop} (k : Y (un t 2, true) (un t 10, true) (un t 18, true) (un t 26, true) true) :
    (bif (((sub t (Int.toNat 2) t.length).length : Int) != 32) then X else (bif (decide (0 ≤ 0) && decide (0 ≤ 8) && decide (8 ≤ ((sub t (Int.toNat 2) t.length).length : Int))) then (q18.F (sub (sub t (Int.toNat 2) t.length) (Int.toNat 0) (Int.toNat 8)) fun r19 => (bif (decide (0 ≤ 8) && decide (8 ≤ 16) && decide (16 ≤ ((sub t (Int.toNat 2) t.length).length : Int))) then (q18.F (sub (sub t (Int.toNat 2) t.length) (Int.toNat 8) (Int.toNat 16)) fun r20 => (bif (decide (0 ≤ 16) && decide (16 ≤ 24) && decide (24 ≤ ((sub t (Int.toNat 2) t.length).length : Int))) then (q18.F (sub (sub t (Int.toNat 2) t.length) (Int.toNat 16) (Int.toNat 24)) fun r21 => (bif (decide (0 ≤ 24) && decide (24 ≤ 32) && decide (32 ≤ ((sub t (Int.toNat 2) t.length).length : Int))) then (q18.F (sub (sub t (Int.toNat 2) t.length) (Int.toNat 24) (Int.toNat 32)) fun r22 => (q22.F (⟨b, (⟨r19.1, r20.1, r21.1, r22.1⟩ : Vec), i, p, d⟩ : Super) fun r23 => Y r19 r20 r21 r22 r23)) else False)) else False)) else False)) else False)) := by
  have e2 : Int.toNat 2 = 2 := rfl
  have hl2 : (sub t 2 t.length).length = 32 := by rw [sub_len (Nat.le_refl _)]; omega
  rw [e2, hl2]
  refine cond_f rfl (gd_ok rfl (get64_in hl (i := 0) (by decide) (gd_ok rfl (get64_in hl (i := 8) (by decide) (gd_ok rfl (get64_in hl (i := 16) (by decide) (gd_ok rfl (get64_in hl (i := 24) (by decide) ?_))))))))
  refine superRight_ok hb ?_
  exact use_eq k hs.symm
theorem superDecode_ok {s : Super} {b : Str} (eb : b = sealV (sBytes s)) (hw : wSup s) (hr : supR s = true) {K : (Super × Int) → Prop} (k : K (s, 0)) (kz : K (zv s, 0)) : q23.F b K := by
  unfold q23.F q23.FV
  have hl := sBytes_length s
  have hb : b.length = 41 := by rw [eb, sealV_length, hl]
  have ho : openV b = (sBytes s, 0) := by rw [eb, openV_seal]
  refine check_Open_ok (wStr_of (by omega)) ?_
  rw [ho]
  refine cond_f rfl ?_
  obtain ⟨hs, h7⟩ := sOf_sBytes hw hr
  have ht : sBytes s = [71, 77, 1] ++ (sBytes s).drop 3 := rfl
  have htl : ((sBytes s).drop 3).length = 34 := by simp [hl]
  rw [ht] at hs h7 ⊢
  generalize (sBytes s).drop 3 = t at hs h7 htl ⊢
  have h7 : (t.getD 1 0).toNat ≤ 7 := h7
  rw [sup_at] at hs
  refine cutPre_ok (cond_f rfl (cond_f (decide_eq_false (by dsimp only; omega)) ?_))
  have hu : unflag (t.getD 1 0).toNat 3 = ([bit (t.getD 1 0) 0, bit (t.getD 1 0) 1, bit (t.getD 1 0) 2], true) := by
    unfold unflag
    rw [if_pos ⟨by decide, by decide, by show _ / 2 ^ 3 = 0; omega⟩]
    rfl
  refine oget_ok (getI_lit 0 (i := 1) (by dsimp only; omega)) (num_Unflag_ok (u8_lt _) ?_)
  rw [hu]
  refine cond_f rfl (oget_ok (getI_lit 0 (i := 0) (by dsimp only; omega)) (oget_ok rfl (oget_ok rfl (oget_ok rfl (gd_ok (by simp [htl]) ?_)))))
  have e0 : IntKind.i64.wrap ((t.getD 0 0).toNat : Int) = ((t.getD 0 0).toNat : Int) := by
    have := u8_lt (t.getD 0 0)
    rw [wrap_i64 (by omega)]
  have hb : inK .i64 ((t.getD 0 0).toNat : Int) := i64_of (by have := u8_lt (t.getD 0 0); omega)
  rw [← hs] at hr k kz
  dsimp only at *
  rw [e0]
  refine ⟨⟨⟨parts_ok htl hb hr (cond_f rfl ⟨⟨kz, trivial⟩, trivial⟩), trivial⟩, trivial⟩, ⟨⟨⟨parts_ok htl hb hr (cond_f rfl ⟨⟨kz, trivial⟩, trivial⟩), trivial⟩, ⟨parts_ok htl hb hr (cond_f rfl ⟨⟨⟨k, trivial⟩, trivial⟩, trivial⟩), trivial⟩⟩, trivial⟩⟩
end Gm

set_option maxRecDepth 100000
namespace Gm
open Go
theorem superDec_long {b : Str} (h : 4 ≤ b.length) {K : (Super × Int) → Prop} (k : q23.F b K) : super_Dec.F b K := by
  unfold super_Dec.F
  have : Nat.blt b.length 4 = false := by
    cases e : Nat.blt b.length 4 with
    | false => rfl
    | true => have : b.length + 1 ≤ 4 := Nat.le_of_ble_eq_true e; omega
  exact cond_f this k
theorem superDec_nil {K : (Super × Int) → Prop} (k : K (super_Dec.zs, 2)) : super_Dec.F [] K := k
theorem metaLoad_by {N : Nat} {d : Disk} {s : Super} {b : Str} (hN : N ≤ 100000) (o : OkD N d) (hd : readV d 0 = (b, 0)) (hb : ∀ K : (Super × Int) → Prop, K (s, 0) → K (zv s, 0) → super_Dec.F b K) (hf : fitsS d s = true) {K : (Super × Int) → Prop} (k : K (s, 0)) (kz : K (zv s, 0)) : q56.F d K := by
  unfold q56.F q56.FV
  have hs := o.s
  refine diskRead_ok hN o ?_
  have hz : fitsS d (zv s) = true := hf
  rw [hd]
  refine cond_f rfl (hb _ (cond_t rfl (fitsM_ok (by omega) ?_)) (cond_t rfl (fitsM_ok (by omega) ?_)))
  · rw [hf]
    exact cond_f rfl k
  · rw [hz]
    exact cond_f rfl kz
theorem metaLoad_ok {N : Nat} {d : Disk} {s : Super} {b : Str} (hN : N ≤ 100000) (o : OkD N d) (hd : readV d 0 = (b, 0)) (eb : b = sealV (sBytes s)) (hw : wSup s) (hr : supR s = true) (hf : fitsS d s = true) {K : (Super × Int) → Prop} (k : K (s, 0)) (kz : K (zv s, 0)) : q56.F d K := by
  have hb : ∀ K : (Super × Int) → Prop, K (s, 0) → K (zv s, 0) → super_Dec.F b K := fun _ a z => superDec_long (by rw [eb, sealV_length, sBytes_length]; decide) (superDecode_ok eb hw hr a z)
  exact metaLoad_by hN o hd hb hf k kz
theorem bitsLoad_ok {N : Nat} {d : Disk} (hN : N ≤ 100000) (o : OkD N d) {K : (Int × Int) → Prop} (h : K (loadV d)) : q59.F d K := by
  unfold q59.F q59.FV q58.F q58.FV
  have hs := o.s
  have hc := o.c
  have hl := read_le o 1
  refine diskRead_ok hN o ?_
  unfold loadV at h
  refine cond_ok (fun h1 => ?_) (fun h1 => ?_)
  · have h1 : (readV d 1).2 ≠ 0 := by simpa using h1
    rw [if_pos h1] at h; exact h
  have h1 : (readV d 1).2 = 0 := by simpa using h1
  rw [if_neg (by simp [h1])] at h
  refine check_Open_ok (wStr_of (by omega)) (cond_ok (fun h2 => ?_) (fun h2 => ?_))
  · have h2 : (openV (readV d 1).1).2 ≠ 0 := by simpa using h2
    rw [if_pos h2] at h; exact h
  have h2 : (openV (readV d 1).1).2 = 0 := by simpa using h2
  rw [if_neg (by simp [h2])] at h
  refine num_Get32_ok ?_
  unfold getN
  by_cases h3 : (openV (readV d 1).1).1.length = 4
  · rw [if_pos h3]
    refine cond_f rfl ?_
    have hlt := unbe_lt 4 _ h3
    rw [sub2 (by omega)]
    refine mask_Right_ok (inK32 (by omega)) (in_sub2 (by omega)) (cond_ok (fun h4 => ?_) (fun h4 => ?_))
    · rw [if_neg (by rintro ⟨_, h5⟩; rw [h5] at h4; cases h4)] at h; exact h
    · rw [if_pos ⟨h3, by simpa using h4⟩] at h; exact h
  · rw [if_neg h3]
    rw [if_neg (by rintro ⟨h5, _⟩; exact h3 h5)] at h
    exact cond_t rfl h
theorem areaAll_ok {N : Nat} {d : Disk} (hN : N ≤ 10000) (o : OkD N d) (h2 : 2 ≤ d.sure.length) {K : (List Str × Int) → Prop} (h : K (allV d)) : q62.F d K := by
  have hs := o.s
  unfold q62.F q62.FV
  have em : maxI2 (IntKind.i64.wrap ((d.sure.length : Int) - 2)) 0 = ((d.sure.length - 2 : Nat) : Int) := by
    rw [sub2 (by omega)]
    unfold maxI2
    split <;> omega
  rw [em]
  refine loop_ok (I := fun x : q62.L0 => ∃ k : Nat, k ≤ d.sure.length - 2 ∧ (allN d k).2 = 0 ∧ x = ⟨(allN d k).1, ((d.sure.length - 2 : Nat) : Int), k, d⟩) (m := fun x : q62.L0 => d.sure.length - x.t13.toNat) ?_ ⟨0, by omega, rfl, rfl⟩
  rintro _ ⟨k, hk, he, rfl⟩ rec hrec
  unfold q62.b0V
  dsimp only
  refine cond_ok (fun h1 => ?_) (fun h1 => ?_)
  · have h1 : (k : Int) < ((d.sure.length - 2 : Nat) : Int) := of_decide_eq_true h1
    have h1 : k < d.sure.length - 2 := by omega
    refine areaRead_ok (N := N) (by omega) o (cond_ok (fun h2 => ?_) (fun h2 => ?_))
    · have h2 : (aReadV d k).2 ≠ 0 := by simpa using h2
      have e1 : allN d (k + 1) = ([], (aReadV d k).2) := by
        show (if (allN d k).2 ≠ 0 then _ else _) = _
        rw [if_neg (by simp [he]), if_pos h2]
      have e2 := allN_bad (n := k + 1) (by rw [e1]; exact h2) (d.sure.length - 2) (by omega)
      unfold allV at h
      rw [e2, e1] at h
      exact h
    · have h2 : (aReadV d k).2 = 0 := by simpa using h2
      have e1 : allN d (k + 1) = ((allN d k).1 ++ [(aReadV d k).1], 0) := by
        show (if (allN d k).2 ≠ 0 then _ else _) = _
        rw [if_neg (by simp [he]), if_neg (by simp [h2])]
      have hl := allN_len he
      refine gd_ok (fit_ok (by simp; omega)) (hrec _ ⟨k + 1, by omega, by rw [e1], ?_⟩ ?_)
      · rw [wrap_succ (by unfold big; omega), e1]
      · rw [wrap_succ (by unfold big; omega)]
        dsimp only
        omega
  · have h1 : ¬ (k : Int) < ((d.sure.length - 2 : Nat) : Int) := of_decide_eq_false h1
    have : k = d.sure.length - 2 := by omega
    subst this
    unfold allV at h
    rw [← he]
    exact h
end Gm
