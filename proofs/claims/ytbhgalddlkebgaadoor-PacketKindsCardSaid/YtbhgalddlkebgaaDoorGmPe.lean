/- Plain laws: hellos. -/
import Derived.Test.YtbhgalddlkebgaaDoorGmPc
import Derived.Test.YtbhgalddlkebgaaDoorGmT2
set_option maxRecDepth 100000
namespace Gm
open Go

/-! ### Masks -/
/-- May the mask be, of so many blocks? -/
def maskR (m blocks : Int) : Bool := decide (1 ≤ blocks ∧ blocks ≤ 32 ∧ m < 2 ^ blocks.toNat)

theorem iandn_zero {m b : Nat} (hm : m < 2 ^ 32) : (iandn .u32 (m : Int) ((2 ^ b - 1 : Nat) : Int) == 0) = decide (m < 2 ^ b) := by
  unfold iandn
  rw [ofInt_nat, ofInt_nat, wrap_nat rfl]
  show ((((BitVec.ofNat 32 m &&& ~~~BitVec.ofNat 32 (2 ^ b - 1)).toNat % 2 ^ 32 : Nat) : Int) == 0) = _
  rw [Nat.mod_eq_of_lt (BitVec.isLt _)]
  have bit : ∀ i, (BitVec.ofNat 32 m &&& ~~~BitVec.ofNat 32 (2 ^ b - 1)).toNat.testBit i = (m.testBit i && (decide (i < 32) && !decide (i < b))) := by
    intro i
    rw [BitVec.testBit_toNat, BitVec.getLsbD_and, BitVec.getLsbD_not, BitVec.getLsbD_ofNat, BitVec.getLsbD_ofNat, Nat.testBit_two_pow_sub_one]
    by_cases hi : i < 32 <;> simp [hi]
  rw [Bool.eq_iff_iff]
  simp only [beq_iff_eq, decide_eq_true_eq]
  constructor
  · intro h
    have h0 : (BitVec.ofNat 32 m &&& ~~~BitVec.ofNat 32 (2 ^ b - 1)).toNat = 0 := by omega
    apply Nat.lt_pow_two_of_testBit
    intro i hi
    have := bit i
    rw [h0, Nat.zero_testBit] at this
    by_cases h32 : i < 32
    · simpa [h32, show ¬ i < b by omega] using this.symm
    · exact Nat.testBit_lt_two_pow (Nat.lt_of_lt_of_le hm (Nat.pow_le_pow_right (by decide) (by omega)))
  · intro h
    have h0 : (BitVec.ofNat 32 m &&& ~~~BitVec.ofNat 32 (2 ^ b - 1)).toNat = 0 := by
      apply Nat.eq_of_testBit_eq
      intro i
      rw [bit, Nat.zero_testBit]
      by_cases hb : i < b
      · simp [hb]
      · rw [Nat.testBit_lt_two_pow (Nat.lt_of_lt_of_le h (Nat.pow_le_pow_right (by decide) (by omega)))]
        simp
    omega

theorem mask_there_ok {i : Int} {K : Bool → Prop} (h : K (decide (0 ≤ i ∧ i < 32))) : mask_there.F i K := by
  unfold mask_there.F
  refine cond_ok (fun h1 => ?_) (fun h1 => ?_)
  · have h1 : i ≥ 0 := of_decide_eq_true h1
    rw [show decide (0 ≤ i ∧ i < 32) = decide (i < 32) by simp; omega] at h
    exact h
  · have h1 : ¬ i ≥ 0 := of_decide_eq_false h1
    rw [show decide (0 ≤ i ∧ i < 32) = false by simp; omega] at h
    exact h

theorem mask_All_ok {b : Nat} (h1 : 1 ≤ b) (h2 : b ≤ 32) {K : Int → Prop} (h : K ((2 ^ b - 1 : Nat) : Int)) : mask_All.F b K := by
  unfold mask_All.F
  rw [wrap_i64 (x := (b : Int) - 1) (by omega)]
  refine mask_there_ok ?_
  rw [show decide (0 ≤ (b : Int) - 1 ∧ (b : Int) - 1 < 32) = true by simp; omega]
  refine cond_f rfl (gd_ok (by simp) ?_)
  have e := ishl_nat (k := .u32) rfl 1 (y := b) h2
  rw [show ((1 : Nat) : Int) = 1 from rfl, Nat.one_mul] at e
  rw [e]
  have e2 : IntKind.u32.wrap (((2 ^ b % 2 ^ IntKind.u32.bits : Nat) : Int) - 1) = ((2 ^ b - 1 : Nat) : Int) := by
    show IntKind.u32.wrap (((2 ^ b % 4294967296 : Nat) : Int) - 1) = _
    have hp : 1 ≤ 2 ^ b := Nat.one_le_two_pow
    rw [wrap_u32]
    by_cases hb : b = 32
    · subst hb; rfl
    · have : 2 ^ b ≤ 2 ^ 31 := Nat.pow_le_pow_right (by decide) (by omega)
      omega
  rw [e2]
  exact h

theorem mask_Right_ok {m blocks : Int} (hm : inK .u32 m) (hb : inK .i64 blocks) {K : Bool → Prop} (h : K (maskR m blocks)) : mask_Right.F m blocks K := by
  unfold mask_Right.F
  have hm : 0 ≤ m ∧ m ≤ 4294967295 := hm
  have hb : -9223372036854775808 ≤ blocks ∧ blocks ≤ 9223372036854775807 := hb
  obtain ⟨m, rfl⟩ : ∃ n : Nat, m = n := ⟨m.toNat, by omega⟩
  refine mask_there_ok ?_
  by_cases h1 : 1 ≤ blocks ∧ blocks ≤ 32
  · obtain ⟨b, rfl⟩ : ∃ n : Nat, blocks = n := ⟨blocks.toNat, by omega⟩
    rw [wrap_i64 (x := (b : Int) - 1) (by omega), show decide (0 ≤ (b : Int) - 1 ∧ (b : Int) - 1 < 32) = true by simp; omega]
    refine cond_t rfl (mask_All_ok (by omega) (by omega) ?_)
    rw [iandn_zero (by omega)]
    have : maskR m b = decide (m < 2 ^ b) := by
      unfold maskR
      rw [Int.toNat_natCast]
      have e : ((2 : Int) ^ b) = ((2 ^ b : Nat) : Int) := by simp
      rw [e]
      simp only [decide_eq_decide]
      omega
    rw [this] at h
    exact h
  · have e : decide (0 ≤ IntKind.i64.wrap (blocks - 1) ∧ IntKind.i64.wrap (blocks - 1) < 32) = false := by
      simp only [decide_eq_false_iff_not]
      by_cases h2 : blocks = -9223372036854775808
      · subst h2; decide
      · rw [wrap_i64 (by omega)]; omega
    rw [e]
    have : maskR m blocks = false := by unfold maskR; simp only [decide_eq_false_iff_not]; omega
    rw [this] at h
    exact cond_f rfl h

theorem ref03_pow_ok {i : Nat} (hi : i ≤ 31) {K : Int → Prop} (h : K ((2 ^ i : Nat) : Int)) : ref03_pow.F i K := by
  unfold ref03_pow.F
  refine loop_ok (I := fun x : ref03_pow.L0 => ∃ j : Nat, j ≤ i ∧ x = ⟨i, ((2 ^ j : Nat) : Int), j⟩) (m := fun x : ref03_pow.L0 => i - x.i.toNat) ?_ ⟨0, by simp, rfl⟩
  rintro _ ⟨j, hj, rfl⟩ rec hrec
  unfold ref03_pow.b0
  dsimp only
  refine cond_ok (fun h1 => ?_) (fun h1 => ?_)
  · have hlt : j < i := by simpa using h1
    rw [wrap_i64 (x := (j : Int) + 1) (by omega)]
    refine hrec _ ⟨j + 1, hlt, ?_⟩ (by simp; omega)
    congr 1
    have : 2 ^ j ≤ 2 ^ 30 := Nat.pow_le_pow_right (by decide) (by omega)
    rw [wrap_u32, Nat.pow_succ]
    omega
  · have hlt : j = i := by have : ¬ j < i := by simpa using h1
                           omega
    subst hlt
    exact h

theorem ref03_Has_ok {m i : Nat} (hm : m < 2 ^ 32) (hi : i ≤ 31) {K : Bool → Prop} (h : K (m.testBit i)) : ref03_Has.F m i K := by
  unfold ref03_Has.F
  refine cond_t (by simp) (cond_t (by simp; omega) (ref03_pow_ok hi (cond_f ?_ (cond_f rfl ?_))))
  · have := Nat.two_pow_pos i
    have h1 : (((2 ^ i : Nat) : Int) == 0) = false := by
      rw [beq_eq_false_iff_ne]
      generalize 2 ^ i = y at *
      omega
    exact h1
  · have hq : m / 2 ^ i < 2 ^ 32 := Nat.lt_of_le_of_lt (Nat.div_le_self _ _) hm
    have e1 : IntKind.u32.wrap ((m : Int).tdiv ((2 ^ i : Nat) : Int)) = ((m / 2 ^ i : Nat) : Int) := by
      rw [Int.tdiv_eq_ediv_of_nonneg (by omega), wrap_u32, show (m : Int) / ((2 ^ i : Nat) : Int) = ((m / 2 ^ i : Nat) : Int) by norm_cast]
      generalize m / 2 ^ i = y at *
      omega
    rw [e1]
    have e2 : m.testBit i = ((((m / 2 ^ i : Nat) : Int).tmod 2) == 1) := by
      rw [Nat.testBit_eq_decide_div_mod_eq]
      generalize m / 2 ^ i = y
      rw [Int.tmod_eq_emod_of_nonneg (by omega), Bool.eq_iff_iff]
      simp only [decide_eq_true_eq, beq_iff_eq]
      omega
    rw [e2] at h
    exact h

theorem ref03_Right_ok {m blocks : Int} (hm : inK .u32 m) {K : Bool → Prop} (h : K (maskR m blocks)) : ref03_Right.F m blocks K := by
  unfold ref03_Right.F
  have hm : 0 ≤ m ∧ m ≤ 4294967295 := hm
  obtain ⟨m, rfl⟩ : ∃ n : Nat, m = n := ⟨m.toNat, by omega⟩
  have no : ¬ (1 ≤ blocks ∧ blocks ≤ 32) → K false := by
    intro h1
    have : maskR m blocks = false := by unfold maskR; simp only [decide_eq_false_iff_not]; omega
    rw [this] at h
    exact h
  refine cond_ok (fun h1 => ?_) (fun h1 => ?_)
  · have h1 : blocks < 1 := of_decide_eq_true h1
    exact no (by omega)
  have h1 : ¬ blocks < 1 := of_decide_eq_false h1
  refine cond_ok (fun h2 => ?_) (fun h2 => ?_)
  · have h2 : blocks > 32 := of_decide_eq_true h2
    exact no (by omega)
  have h2 : ¬ blocks > 32 := of_decide_eq_false h2
  obtain ⟨b, rfl⟩ : ∃ n : Nat, blocks = n := ⟨blocks.toNat, by omega⟩
  have em : maskR m b = decide (m < 2 ^ b) := by
    unfold maskR
    rw [Int.toNat_natCast]
    have e : ((2 : Int) ^ b) = ((2 ^ b : Nat) : Int) := by simp
    rw [e]
    simp only [decide_eq_decide]
    omega
  rw [em] at h
  refine loop_ok (I := fun x : ref03_Right.L0 => ∃ i : Nat, b ≤ i ∧ i ≤ 32 ∧ (∀ j, b ≤ j → j < i → m.testBit j = false) ∧ x = ⟨m, i⟩) (m := fun x : ref03_Right.L0 => 32 - x.i.toNat) ?_ ⟨b, by omega, by omega, fun j h1 h2 => by omega, rfl⟩
  rintro _ ⟨i, hi, hi2, hj, rfl⟩ rec hrec
  unfold ref03_Right.b0
  dsimp only
  refine cond_ok (fun h3 => ?_) (fun h3 => ?_)
  · have h3 : (i : Int) < 32 := of_decide_eq_true h3
    refine ref03_Has_ok (by omega) (by omega) (cond_ok (fun h4 => ?_) (fun h4 => ?_))
    · have : ¬ m < 2 ^ b := by
        intro h5
        rw [Nat.testBit_lt_two_pow (Nat.lt_of_lt_of_le h5 (Nat.pow_le_pow_right (by decide) hi))] at h4
        cases h4
      rw [show decide (m < 2 ^ b) = false by simpa using this] at h
      exact h
    · rw [wrap_i64 (x := (i : Int) + 1) (by omega)]
      refine hrec _ ⟨i + 1, by omega, by omega, ?_, by simp⟩ (by simp; omega)
      intro j h5 h6
      by_cases h7 : j = i
      · subst h7; exact h4
      · exact hj j h5 (by omega)
  · have h3 : ¬ (i : Int) < 32 := of_decide_eq_false h3
    have : m < 2 ^ b := by
      apply Nat.lt_pow_two_of_testBit
      intro j h5
      by_cases h6 : j < i
      · exact hj j h5 h6
      · exact Nat.testBit_lt_two_pow (Nat.lt_of_lt_of_le (show m < 2 ^ 32 by omega) (Nat.pow_le_pow_right (by decide) (by omega)))
    rw [show decide (m < 2 ^ b) = true by simpa using this] at h
    exact h

/-! ### Hellos -/
def hRight (h : Hello) : Bool := (h.vector.current != 0) && (maskR h.mask h.blocks && (!h.pri || (!h.was && !h.inc)))

theorem hello_Right_ok {h : Hello} (hw : wHello h) {K : Bool → Prop} (k : K (hRight h)) : hello_Right.F h K := by
  obtain ⟨hb, _, hm⟩ := hw
  unfold hello_Right.F vector_Right.F
  unfold hRight at k
  refine cond_ok (fun h1 => ?_) (fun h1 => ?_)
  · rw [h1] at k
    refine mask_Right_ok hm hb (cond_ok (fun h2 => ?_) (fun h2 => ?_))
    · rw [h2] at k
      cases hp : h.pri <;> cases hwas : h.was <;> cases hi : h.inc <;> rw [hp, hwas, hi] at k <;> exact k
    · rw [h2] at k; exact k
  · rw [h1] at k; exact k

theorem ref10_Right_ok {h : Hello} (hw : wHello h) {K : Bool → Prop} (k : K (hRight h)) : ref10_Right.F h K := by
  obtain ⟨hb, _, hm⟩ := hw
  unfold ref10_Right.F
  unfold hRight at k
  have no : maskR h.mask h.blocks = false → K false := by
    intro e; rw [e] at k; simpa using k
  refine cond_ok (fun h1 => ?_) (fun h1 => ?_)
  · refine cond_ok (fun h2 => ?_) (fun h2 => ?_)
    · refine cond_ok (fun h3 => ?_) (fun h3 => ?_)
      · rw [h3] at k
        refine ref03_Right_ok hm (cond_ok (fun h4 => ?_) (fun h4 => ?_))
        · rw [h4] at k
          cases hp : h.pri <;> cases hwas : h.was <;> cases hi : h.inc <;> rw [hp, hwas, hi] at k <;> exact k
        · rw [h4] at k; exact k
      · rw [h3] at k; exact k
    · have h2 : ¬ h.blocks ≤ 32 := of_decide_eq_false h2
      exact no (by unfold maskR; simp only [decide_eq_false_iff_not]; omega)
  · have h1 : ¬ h.blocks ≥ 1 := of_decide_eq_false h1
    exact no (by unfold maskR; simp only [decide_eq_false_iff_not]; omega)

def hOf (s : Super) (primary : Bool) (m : Int) : Hello := ⟨s.blocks, s.vector, s.inc, s.pri && !primary, s.dis, primary, m⟩
/-- The bytes of a hello. -/
def hBytes (h : Hello) : Str :=
  [UInt8.ofNat h.blocks.toNat, UInt8.ofNat (fv [h.inc, h.was, h.dis, h.pri])] ++ be h.vector.current.toNat 8 ++ be h.vector.bitmap.toNat 8 ++ be h.vector.old0.toNat 8 ++ be h.vector.old1.toNat 8 ++ be h.mask.toNat 4
def encV (h : Hello) : Str × Int := if hRight h then (hBytes h, 0) else ([], 1)

theorem maskR_bounds {m b : Int} (h : maskR m b = true) : 1 ≤ b ∧ b ≤ 32 := by
  unfold maskR at h
  have := of_decide_eq_true h
  exact ⟨this.1, this.2.1⟩
theorem hRight_mask {h : Hello} (k : hRight h = true) : maskR h.mask h.blocks = true := by
  unfold hRight at k
  simp only [Bool.and_eq_true] at k
  exact k.2.1

theorem fits_small {n : Nat} (h : n ≤ 1000000) : fits n = true := fits_ok (by unfold big; omega)

theorem hello_Encode_ok {h : Hello} (hw : wHello h) {K : (Str × Int) → Prop} (k : K (encV h)) : hello_Encode.F h K := by
  unfold hello_Encode.F
  refine hello_Right_ok hw (cond_ok (fun h1 => ?_) (fun h1 => ?_))
  · have h1 : hRight h = false := by simpa using h1
    unfold encV at k
    rw [h1] at k
    exact k
  have h1 : hRight h = true := by simpa using h1
  unfold encV at k
  rw [h1, if_pos rfl] at k
  have hm := maskR_bounds (hRight_mask h1)
  obtain ⟨blocks, ⟨c, b, o0, o1⟩, inc, was, dis, pri, mask⟩ := h
  obtain ⟨-, ⟨hc, hb, h0, h1'⟩, hmk⟩ := hw
  have hc : 0 ≤ c ∧ c ≤ 18446744073709551615 := hc
  have hb : 0 ≤ b ∧ b ≤ 18446744073709551615 := hb
  have h0 : 0 ≤ o0 ∧ o0 ≤ 18446744073709551615 := h0
  have h1' : 0 ≤ o1 ∧ o1 ≤ 18446744073709551615 := h1'
  have hmk : 0 ≤ mask ∧ mask ≤ 4294967295 := hmk
  obtain ⟨c, rfl⟩ : ∃ n : Nat, c = n := ⟨c.toNat, by omega⟩
  obtain ⟨b, rfl⟩ : ∃ n : Nat, b = n := ⟨b.toNat, by omega⟩
  obtain ⟨o0, rfl⟩ : ∃ n : Nat, o0 = n := ⟨o0.toNat, by omega⟩
  obtain ⟨o1, rfl⟩ : ∃ n : Nat, o1 = n := ⟨o1.toNat, by omega⟩
  obtain ⟨mask, rfl⟩ : ∃ n : Nat, mask = n := ⟨mask.toNat, by omega⟩
  dsimp only at hm
  obtain ⟨blocks, rfl⟩ : ∃ n : Nat, blocks = n := ⟨blocks.toNat, by omega⟩
  have e : ∀ x : Nat, bytesOfInts [IntKind.u8.wrap (blocks : Int), (x : Int)] = [UInt8.ofNat blocks, UInt8.ofNat x] := by
    intro x
    simp only [bytesOfInts, List.map_cons, List.map_nil, Int.toNat_natCast]
    rw [wrap_u8, show (blocks : Int) % 256 = (blocks : Int) by omega]
    rfl
  refine num_Flags_ok (num_Put64_ok (gd_ok (fits_small (by simp [bytesOfInts, be_length])) (num_Put64_ok (gd_ok (fits_small (by simp [bytesOfInts, be_length])) (num_Put64_ok (gd_ok (fits_small (by simp [bytesOfInts, be_length])) (num_Put64_ok (gd_ok (fits_small (by simp [bytesOfInts, be_length])) (num_Put32_ok (by omega) (gd_ok (fits_small (by simp [bytesOfInts, be_length])) ?_))))))))))
  rw [e]
  exact k

theorem ref10_Encode_ok {h : Hello} (hw : wHello h) {K : (Str × Int) → Prop} (k : K (encV h)) : ref10_Encode.F h K := by
  unfold ref10_Encode.F
  refine ref10_Right_ok hw (cond_ok (fun h1 => ?_) (fun h1 => ?_))
  · have h1 : hRight h = false := by simpa using h1
    unfold encV at k
    rw [h1] at k
    exact k
  have h1 : hRight h = true := by simpa using h1
  unfold encV at k
  rw [h1, if_pos rfl] at k
  have hm := maskR_bounds (hRight_mask h1)
  obtain ⟨blocks, ⟨c, b, o0, o1⟩, inc, was, dis, pri, mask⟩ := h
  obtain ⟨-, ⟨hc, hb, h0, h1'⟩, hmk⟩ := hw
  have hc : 0 ≤ c ∧ c ≤ 18446744073709551615 := hc
  have hb : 0 ≤ b ∧ b ≤ 18446744073709551615 := hb
  have h0 : 0 ≤ o0 ∧ o0 ≤ 18446744073709551615 := h0
  have h1' : 0 ≤ o1 ∧ o1 ≤ 18446744073709551615 := h1'
  have hmk : 0 ≤ mask ∧ mask ≤ 4294967295 := hmk
  obtain ⟨c, rfl⟩ : ∃ n : Nat, c = n := ⟨c.toNat, by omega⟩
  obtain ⟨b, rfl⟩ : ∃ n : Nat, b = n := ⟨b.toNat, by omega⟩
  obtain ⟨o0, rfl⟩ : ∃ n : Nat, o0 = n := ⟨o0.toNat, by omega⟩
  obtain ⟨o1, rfl⟩ : ∃ n : Nat, o1 = n := ⟨o1.toNat, by omega⟩
  obtain ⟨mask, rfl⟩ : ∃ n : Nat, mask = n := ⟨mask.toNat, by omega⟩
  dsimp only at hm
  obtain ⟨blocks, rfl⟩ : ∃ n : Nat, blocks = n := ⟨blocks.toNat, by omega⟩
  have e : ∀ x : Nat, bytesOfInts [IntKind.u8.wrap (blocks : Int), (x : Int)] = [UInt8.ofNat blocks, UInt8.ofNat x] := by
    intro x
    simp only [bytesOfInts, List.map_cons, List.map_nil, Int.toNat_natCast]
    rw [wrap_u8, show (blocks : Int) % 256 = (blocks : Int) by omega]
    rfl
  refine ref01_Flags_ok (ref01_Put64_ok (by omega) (gd_ok (fits_small (by simp [bytesOfInts, be_length])) (ref01_Put64_ok (by omega) (gd_ok (fits_small (by simp [bytesOfInts, be_length])) (ref01_Put64_ok (by omega) (gd_ok (fits_small (by simp [bytesOfInts, be_length])) (ref01_Put64_ok (by omega) (gd_ok (fits_small (by simp [bytesOfInts, be_length])) (ref01_Put32_ok (by omega) (gd_ok (fits_small (by simp [bytesOfInts, be_length])) ?_))))))))))
  rw [e]
  exact k

def zeroH : Hello := ⟨0, ⟨0, 0, 0, 0⟩, false, false, false, false, 0⟩
def bit (b : UInt8) (i : Nat) : Bool := b.toNat / 2 ^ i % 2 == 1
/-- The hello of 38 bytes. -/
def hOfBytes (b : Str) : Hello :=
  ⟨((b.getD 0 0).toNat : Int), ⟨(unbe (sub b 2 10) : Int), (unbe (sub b 10 18) : Int), (unbe (sub b 18 26) : Int), (unbe (sub b 26 34) : Int)⟩, bit (b.getD 1 0) 0, bit (b.getD 1 0) 1, bit (b.getD 1 0) 2, bit (b.getD 1 0) 3, (unbe (b.drop 34) : Int)⟩
def decV (b : Str) : Hello × Int := if b.length = 38 ∧ (b.getD 1 0).toNat < 16 ∧ hRight (hOfBytes b) = true then (hOfBytes b, 0) else (zeroH, 2)

theorem sub_len {α : Type} {b : List α} {i j : Nat} (h : j ≤ b.length) : (sub b i j).length = j - i := by simp [sub]; omega
theorem getN_of {s : Str} {k : Nat} (h : s.length = k) : getN s k = ((unbe s : Int), true) := by unfold getN; rw [if_pos h]

theorem wH_of {b : Str} (h : b.length = 38) : wHello (hOfBytes b) := by
  have u8 : ∀ s : Str, s.length = 8 → inK .u64 (unbe s : Int) := by
    intro s hs
    have h1 := unbe_lt 8 s hs
    have h2 : (256 : Nat) ^ 8 = 18446744073709551616 := by decide
    show (0 : Int) ≤ unbe s ∧ (unbe s : Int) ≤ 18446744073709551615
    omega
  have h4 := unbe_lt 4 (b.drop 34) (by simp; omega)
  have h5 := u8_lt (b.getD 0 0)
  refine ⟨?_, ⟨u8 _ (sub_len (by omega)), u8 _ (sub_len (by omega)), u8 _ (sub_len (by omega)), u8 _ (sub_len (by omega))⟩, ?_⟩
  · show (-9223372036854775808 : Int) ≤ ((b.getD 0 0).toNat : Int) ∧ ((b.getD 0 0).toNat : Int) ≤ 9223372036854775807
    omega
  · show (0 : Int) ≤ (unbe (b.drop 34) : Int) ∧ (unbe (b.drop 34) : Int) ≤ 4294967295
    omega

theorem getI_lit {α : Type} {xs : List α} (d : α) {i : Nat} (h : i < xs.length) : getI xs (i : Int) = some (xs.getD i d) := by
  rw [getI_ok h]; simp [h]

theorem hello_Decode_ok {b : Str} {K : (Hello × Int) → Prop} (k : K (decV b)) : hello_Decode.F b K := by
  unfold hello_Decode.F
  refine cond_ok (fun h1 => ?_) (fun h1 => ?_)
  · have h1 : b.length ≠ 38 := bne_nat (b := 38) h1
    unfold decV at k
    rw [if_neg (by simp [h1])] at k
    exact k
  have hl : b.length = 38 := bne_nat' (b := 38) h1
  refine oget_ok (getI_lit 0 (i := 1) (by omega)) ?_
  refine num_Unflag_ok (u8_lt _) ?_
  have hu : unflag (b.getD 1 0).toNat 4 = if (b.getD 1 0).toNat < 16 then ([bit (b.getD 1 0) 0, bit (b.getD 1 0) 1, bit (b.getD 1 0) 2, bit (b.getD 1 0) 3], true) else ([], false) := by
    unfold unflag
    by_cases h2 : (b.getD 1 0).toNat < 16
    · rw [if_pos h2, if_pos ⟨by decide, by decide, by show _ / 2 ^ 4 = 0; omega⟩]
      rfl
    · rw [if_neg h2, if_neg]
      rintro ⟨-, -, h3⟩
      have h3 : (b.getD 1 0).toNat / 2 ^ 4 = 0 := h3
      omega
  by_cases h2 : (b.getD 1 0).toNat < 16
  · rw [hu, if_pos h2]
    refine cond_f rfl (oget_ok (getI_lit 0 (i := 0) (by omega)) (oget_ok rfl (oget_ok rfl (oget_ok rfl (oget_ok rfl ?_)))))
    refine gd_ok (by simp [hl]) (num_Get64_ok (gd_ok (by simp [hl]) (num_Get64_ok (gd_ok (by simp [hl]) (num_Get64_ok (gd_ok (by simp [hl]) (num_Get64_ok (gd_ok (by simp [hl]) (num_Get32_ok ?_)))))))))
    rw [sub_drop]
    simp only [show Int.toNat 2 = 2 from rfl, show Int.toNat 10 = 10 from rfl, show Int.toNat 18 = 18 from rfl, show Int.toNat 26 = 26 from rfl, show Int.toNat 34 = 34 from rfl]
    rw [getN_of (sub_len (by omega)), getN_of (sub_len (by omega)), getN_of (sub_len (by omega)), getN_of (sub_len (by omega)), getN_of (s := b.drop 34) (by simp; omega)]
    have e0 : IntKind.i64.wrap ((b.getD 0 0).toNat : Int) = ((b.getD 0 0).toNat : Int) := by
      have := u8_lt (b.getD 0 0)
      rw [wrap_i64 (by omega)]
    rw [e0]
    refine hello_Right_ok (wH_of hl) (cond_ok (fun h3 => ?_) (fun h3 => ?_))
    · have h3 : hRight (hOfBytes b) = false := by simpa using h3
      unfold decV at k
      rw [if_neg (by simp [h3])] at k
      exact k
    · have h3 : hRight (hOfBytes b) = true := by simpa using h3
      unfold decV at k
      rw [if_pos ⟨hl, h2, h3⟩] at k
      exact k
  · rw [hu, if_neg h2]
    unfold decV at k
    rw [if_neg (by simp only [not_and]; intro _ h3; exact absurd h3 h2)] at k
    exact cond_t rfl k

theorem ref10_number_ok {b : Str} {i : Nat} (h : i + 8 ≤ b.length) (h2 : i ≤ 1000) {K : Int → Prop} (k : K (unbe (sub b i (i + 8)) : Int)) : ref10_number.F b i K := by
  unfold ref10_number.F
  rw [wrap_i64 (x := (i : Int) + 8) (by omega)]
  refine gd_ok (by simp; omega) ?_
  rw [show Int.toNat ((i : Int) + 8) = i + 8 by omega, show Int.toNat (i : Int) = i by omega]
  refine ref01_Get64_ok ?_
  rw [getN_of (by rw [sub_len h]; omega)]
  exact k

theorem ref10_Decode_ok {b : Str} {K : (Hello × Int) → Prop} (k : K (decV b)) : ref10_Decode.F b K := by
  unfold ref10_Decode.F
  refine cond_ok (fun h1 => ?_) (fun h1 => ?_)
  · have h1 : b.length ≠ 38 := bne_nat (b := 38) h1
    unfold decV at k
    rw [if_neg (by simp [h1])] at k
    exact k
  have hl : b.length = 38 := bne_nat' (b := 38) h1
  refine oget_ok (getI_lit 0 (i := 1) (by omega)) ?_
  refine cond_ok (fun h2 => ?_) (fun h2 => ?_)
  · have h2 : ((b.getD 1 0).toNat : Int) > 15 := of_decide_eq_true h2
    unfold decV at k
    rw [if_neg (by simp only [not_and]; intro _ h3; omega)] at k
    exact k
  have h2' : ¬ ((b.getD 1 0).toNat : Int) > 15 := of_decide_eq_false h2
  have h2 : (b.getD 1 0).toNat < 16 := by omega
  have hu : unflag (b.getD 1 0).toNat 4 = ([bit (b.getD 1 0) 0, bit (b.getD 1 0) 1, bit (b.getD 1 0) 2, bit (b.getD 1 0) 3], true) := by
    unfold unflag
    rw [if_pos ⟨by decide, by decide, by show _ / 2 ^ 4 = 0; omega⟩]
    rfl
  refine oget_ok (getI_lit 0 (i := 1) (by omega)) (ref01_Unflag_ok (u8_lt _) ?_)
  rw [hu]
  refine gd_ok (by simp [hl]) (ref01_Get32_ok ?_)
  rw [sub_drop]
  simp only [show Int.toNat 34 = 34 from rfl]
  rw [getN_of (s := b.drop 34) (by simp; omega)]
  refine oget_ok (getI_lit 0 (i := 0) (by omega)) (oget_ok rfl (oget_ok rfl (oget_ok rfl (oget_ok rfl ?_))))
  refine ref10_number_ok (i := 2) (by omega) (by decide) (ref10_number_ok (i := 10) (by omega) (by decide) (ref10_number_ok (i := 18) (by omega) (by decide) (ref10_number_ok (i := 26) (by omega) (by decide) ?_)))
  have e0 : IntKind.i64.wrap ((b.getD 0 0).toNat : Int) = ((b.getD 0 0).toNat : Int) := by
    have := u8_lt (b.getD 0 0)
    rw [wrap_i64 (by omega)]
  rw [e0]
  refine ref10_Right_ok (wH_of hl) (cond_ok (fun h3 => ?_) (fun h3 => ?_))
  · have h3 : hRight (hOfBytes b) = false := by simpa using h3
    unfold decV at k
    rw [if_neg (by simp [h3])] at k
    exact k
  · have h3 : hRight (hOfBytes b) = true := by simpa using h3
    unfold decV at k
    rw [if_pos ⟨hl, h2, h3⟩] at k
    exact k

/-! ### There and back -/
theorem app_cancel {α : Type} {a b : List α} {n : Nat} (h : a.length = n) : (a ++ b).drop n = b ∧ (a ++ b).take n = a := by
  subst h; simp

theorem hBytes_length (h : Hello) : (hBytes h).length = 38 := by simp [hBytes, be_length]

theorem hOf_hBytes {h : Hello} (hw : wHello h) (hr : hRight h = true) : hOfBytes (hBytes h) = h ∧ ((hBytes h).getD 1 0).toNat < 16 := by
  have hm := maskR_bounds (hRight_mask hr)
  obtain ⟨blocks, ⟨c, b, o0, o1⟩, inc, was, dis, pri, mask⟩ := h
  obtain ⟨-, ⟨hc, hb, h0, h1'⟩, hmk⟩ := hw
  have hc : 0 ≤ c ∧ c ≤ 18446744073709551615 := hc
  have hb : 0 ≤ b ∧ b ≤ 18446744073709551615 := hb
  have h0 : 0 ≤ o0 ∧ o0 ≤ 18446744073709551615 := h0
  have h1' : 0 ≤ o1 ∧ o1 ≤ 18446744073709551615 := h1'
  have hmk : 0 ≤ mask ∧ mask ≤ 4294967295 := hmk
  dsimp only at hm
  have p8 : (256 : Nat) ^ 8 = 18446744073709551616 := by decide
  have p4 : (256 : Nat) ^ 4 = 4294967296 := by decide
  have key : ∀ (x : Int) (k : Nat), 0 ≤ x → x.toNat < 256 ^ k → ((unbe (be x.toNat k) : Nat) : Int) = x := by
    intro x k h1 h2
    rw [unbe_be, Nat.mod_eq_of_lt h2]; omega
  have hfv : fv [inc, was, dis, pri] < 16 := fv_lt [inc, was, dis, pri]
  unfold hBytes
  dsimp only
  generalize e1 : be c.toNat 8 = s1
  generalize e2 : be b.toNat 8 = s2
  generalize e3 : be o0.toNat 8 = s3
  generalize e4 : be o1.toNat 8 = s4
  generalize e5 : be mask.toNat 4 = s5
  have l1 : s1.length = 8 := by rw [← e1, be_length]
  have l2 : s2.length = 8 := by rw [← e2, be_length]
  have l3 : s3.length = 8 := by rw [← e3, be_length]
  have l4 : s4.length = 8 := by rw [← e4, be_length]
  have l5 : s5.length = 4 := by rw [← e5, be_length]
  have pick : ∀ (p q r : Str) (i j : Nat), p.length = i → q.length = j - i → i ≤ j → sub (p ++ q ++ r) i j = q := by
    intro p q r i j h1 h2 h3
    subst h1
    unfold sub
    rw [List.take_append_of_le_length (by simp; omega), List.take_of_length_le (by simp; omega)]
    simp
  have q1 : sub ([UInt8.ofNat blocks.toNat, UInt8.ofNat (fv [inc, was, dis, pri])] ++ s1 ++ s2 ++ s3 ++ s4 ++ s5) 2 10 = s1 := by
    have := pick [UInt8.ofNat blocks.toNat, UInt8.ofNat (fv [inc, was, dis, pri])] s1 (s2 ++ s3 ++ s4 ++ s5) 2 10 rfl l1 (by decide)
    simpa [List.append_assoc] using this
  have q2 : sub ([UInt8.ofNat blocks.toNat, UInt8.ofNat (fv [inc, was, dis, pri])] ++ s1 ++ s2 ++ s3 ++ s4 ++ s5) 10 18 = s2 := by
    have := pick ([UInt8.ofNat blocks.toNat, UInt8.ofNat (fv [inc, was, dis, pri])] ++ s1) s2 (s3 ++ s4 ++ s5) 10 18 (by simp [l1]) l2 (by decide)
    simpa [List.append_assoc] using this
  have q3 : sub ([UInt8.ofNat blocks.toNat, UInt8.ofNat (fv [inc, was, dis, pri])] ++ s1 ++ s2 ++ s3 ++ s4 ++ s5) 18 26 = s3 := by
    have := pick ([UInt8.ofNat blocks.toNat, UInt8.ofNat (fv [inc, was, dis, pri])] ++ s1 ++ s2) s3 (s4 ++ s5) 18 26 (by simp [l1, l2]) l3 (by decide)
    simpa [List.append_assoc] using this
  have q4 : sub ([UInt8.ofNat blocks.toNat, UInt8.ofNat (fv [inc, was, dis, pri])] ++ s1 ++ s2 ++ s3 ++ s4 ++ s5) 26 34 = s4 := by
    have := pick ([UInt8.ofNat blocks.toNat, UInt8.ofNat (fv [inc, was, dis, pri])] ++ s1 ++ s2 ++ s3) s4 s5 26 34 (by simp [l1, l2, l3]) l4 (by decide)
    simpa [List.append_assoc] using this
  have q5 : ([UInt8.ofNat blocks.toNat, UInt8.ofNat (fv [inc, was, dis, pri])] ++ s1 ++ s2 ++ s3 ++ s4 ++ s5).drop 34 = s5 :=
    (app_cancel (by simp [l1, l2, l3, l4])).1
  have q6 : ([UInt8.ofNat blocks.toNat, UInt8.ofNat (fv [inc, was, dis, pri])] ++ s1 ++ s2 ++ s3 ++ s4 ++ s5).getD 0 0 = UInt8.ofNat blocks.toNat := rfl
  have q7 : ([UInt8.ofNat blocks.toNat, UInt8.ofNat (fv [inc, was, dis, pri])] ++ s1 ++ s2 ++ s3 ++ s4 ++ s5).getD 1 0 = UInt8.ofNat (fv [inc, was, dis, pri]) := rfl
  have q8 : (UInt8.ofNat (fv [inc, was, dis, pri])).toNat = fv [inc, was, dis, pri] := by rw [toNat_ofNat]; omega
  refine ⟨?_, by rw [q7, q8]; exact hfv⟩
  unfold hOfBytes
  rw [q1, q2, q3, q4, q5, q6, q7, ← e1, ← e2, ← e3, ← e4, ← e5, key c 8 hc.1 (by omega), key b 8 hb.1 (by omega), key o0 8 h0.1 (by omega), key o1 8 h1'.1 (by omega), key mask 4 hmk.1 (by omega)]
  have eb : ((UInt8.ofNat blocks.toNat).toNat : Int) = blocks := by rw [toNat_ofNat]; omega
  rw [eb]
  unfold bit
  rw [q8]
  cases inc <;> cases was <;> cases dis <;> cases pri <;> rfl

theorem decV_encV {h : Hello} (hw : wHello h) (hr : hRight h = true) : decV (hBytes h) = (h, 0) := by
  obtain ⟨h1, h2⟩ := hOf_hBytes hw hr
  unfold decV
  rw [h1, if_pos ⟨hBytes_length h, h2, hr⟩]

theorem hBytes_of {b : Str} (hl : b.length = 38) (h16 : (b.getD 1 0).toNat < 16) : hBytes (hOfBytes b) = b := by
  have u : ∀ (s : Str) (k : Nat), s.length = k → be ((unbe s : Nat) : Int).toNat k = s := by
    intro s k h
    rw [Int.toNat_natCast, be_unbe k s h]
  unfold hBytes hOfBytes
  dsimp only
  rw [u _ 8 (sub_len (by omega)), u _ 8 (sub_len (by omega)), u _ 8 (sub_len (by omega)), u _ 8 (sub_len (by omega)), u _ 4 (by simp; omega)]
  have ef : fv [bit (b.getD 1 0) 0, bit (b.getD 1 0) 1, bit (b.getD 1 0) 2, bit (b.getD 1 0) 3] = (b.getD 1 0).toNat := fv_unf 4 _ h16
  have e8 : ∀ x : UInt8, UInt8.ofNat x.toNat = x := by intro x; apply UInt8.toNat_inj.1; rw [toNat_ofNat]; have := u8_lt x; omega
  rw [ef, Int.toNat_natCast, e8, e8]
  have join : ∀ i j, i ≤ j → j ≤ b.length → sub b i j ++ b.drop j = b.drop i := by
    intro i j h1 h2
    unfold sub
    have := List.take_append_drop j b
    conv => rhs; rw [← this]
    rw [List.drop_append_of_le_length (by simp; omega)]
  have e0 : [b.getD 0 0, b.getD 1 0] ++ b.drop 2 = b := by
    match b, hl with
    | x :: y :: r, _ => rfl
  rw [List.append_assoc, List.append_assoc, List.append_assoc, List.append_assoc, join 26 34 (by decide) (by omega), join 18 26 (by decide) (by omega), join 10 18 (by decide) (by omega), join 2 10 (by decide) (by omega)]
  exact e0
end Gm


/- The laws of layer 10 are true. -/
set_option maxRecDepth 100000
namespace Gm
open Go

def hEq (a b : Hello) : Bool := (a.blocks == b.blocks) && (((a.vector.current == b.vector.current) && ((a.vector.bitmap == b.vector.bitmap) && (((a.vector.old0 == b.vector.old0) && ((a.vector.old1 == b.vector.old1) && true)) && true))) && ((a.inc == b.inc) && ((a.was == b.was) && ((a.dis == b.dis) && ((a.pri == b.pri) && ((a.mask == b.mask) && true))))))
theorem hEq_refl (a : Hello) : hEq a a = true := by simp [hEq]

def hA : Hello := ⟨3, ⟨7, 0, 0, 0⟩, false, true, false, false, 5⟩
def hB : Hello := ⟨3, ⟨7, 0, 0, 0⟩, false, false, false, false, 8⟩
theorem wA : wHello hA := by
  refine ⟨?_, ⟨?_, ?_, ?_, ?_⟩, ?_⟩ <;> exact ⟨by decide, by decide⟩
theorem wB : wHello hB := by
  refine ⟨?_, ⟨?_, ?_, ?_, ?_⟩, ?_⟩ <;> exact ⟨by decide, by decide⟩
theorem wZ : wHello zeroH := by
  refine ⟨?_, ⟨?_, ?_, ?_, ?_⟩, ?_⟩ <;> exact ⟨by decide, by decide⟩
theorem rA : hRight hA = true := by decide
theorem rB : hRight hB = false := by decide
theorem rZ : hRight zeroH = false := by decide

end Gm
