/- The laws of the layers 1 and 2 are true. -/
import Derived.Test.YtbhgalddlkebgaaGmPb
import Derived.KernelRfl
set_option maxRecDepth 100000
namespace Gm
open Go

theorem wStr_of {s : Str} (h : s.length ≤ 1000000) : wStr s := by unfold wStr big; omega

theorem law02_alive_ok {K : Bool → Prop} (h : K true) : law02_alive.F K := by
  unfold law02_alive.F
  refine check_Seal_ok (wStr_of (by decide)) (check_Open_ok (wStr_of (by rw [sealV_length]; decide)) (gd_ok (by rw [sealV_length]; decide) (check_Open_ok (wStr_of (by rw [List.length_append, sealV_length]; decide)) (check_Open_ok (wStr_of (by decide)) (check_Sum_ok (wStr_of (by decide)) (cond_t (by kernel_rfl) (check_Sum_ok (wStr_of (by decide)) (cond_t (by kernel_rfl) (cond_t (by rw [sealV_length]; decide) ?_)))))))))
  rw [openV_seal]
  refine cond_t (by kernel_rfl) (cond_t (by kernel_rfl) (cond_t (by kernel_rfl) ?_))
  rw [show ((openV [97, 98, 99]).2 == 2) = true by kernel_rfl]
  exact h

theorem law02_CheckSums_true {s : Str} (hs : wStr s) : law02_CheckSums.F s (fun r => r = true) := by
  unfold law02_CheckSums.F
  refine law02_alive_ok (cond_f rfl (cond_ok (fun _ => rfl) fun _ => ?_))
  exact check_Open_ok hs (ref02_Open_ok hs (check_Sum_ok hs (ref02_Sum_ok hs (cond_t (by simp) (check_Seal_ok hs (ref02_Seal_ok hs (cond_t (by simp) (cond_t (by simp) (by simp)))))))))

/-! ### One byte changed -/
theorem mul_back {x : Nat} (h : x < 4294967296) : x * 16777619 % 4294967296 * 899433627 % 4294967296 = x := by omega
theorem xor_cancel_r {n m b : Nat} (h : n ^^^ b = m ^^^ b) : n = m := by
  have := congrArg (· ^^^ b) h
  simpa [Nat.xor_assoc] using this
theorem xor_cancel_l {n b c : Nat} (h : n ^^^ b = n ^^^ c) : b = c := by
  rw [Nat.xor_comm n b, Nat.xor_comm n c] at h
  exact xor_cancel_r h
theorem fnvStep_inj_n {n m : Nat} {b : UInt8} (hn : n < 4294967296) (hm : m < 4294967296) (h : fnvStep n b = fnvStep m b) : n = m := by
  unfold fnvStep at h
  have hb := u8_lt b
  have h1 := mul_back (x := n ^^^ b.toNat) (Nat.xor_lt_two_pow (n := 32) hn (by omega))
  have h2 := mul_back (x := m ^^^ b.toNat) (Nat.xor_lt_two_pow (n := 32) hm (by omega))
  rw [h, h2] at h1
  exact (xor_cancel_r h1).symm
theorem fnvStep_inj_b {n : Nat} {b c : UInt8} (hn : n < 4294967296) (h : fnvStep n b = fnvStep n c) : b = c := by
  unfold fnvStep at h
  have hb := u8_lt b
  have hc := u8_lt c
  have h1 := mul_back (x := n ^^^ b.toNat) (Nat.xor_lt_two_pow (n := 32) hn (by omega))
  have h2 := mul_back (x := n ^^^ c.toNat) (Nat.xor_lt_two_pow (n := 32) hn (by omega))
  rw [h, h2] at h1
  exact (UInt8.toNat_inj.1 (xor_cancel_l h1)).symm
theorem fnvStep_lt (n : Nat) (b : UInt8) : fnvStep n b < 4294967296 := by unfold fnvStep; exact Nat.mod_lt _ (by decide)
theorem foldl_inj : ∀ (t : Str) {n m : Nat}, n < 4294967296 → m < 4294967296 → t.foldl fnvStep n = t.foldl fnvStep m → n = m
  | [], _, _, _, _, h => h
  | _ :: t, _, _, hn, hm, h => fnvStep_inj_n hn hm (foldl_inj t (fnvStep_lt _ _) (fnvStep_lt _ _) h)
theorem fnv_one {a t : Str} {b c : UInt8} (h : fnv (a ++ b :: t) = fnv (a ++ c :: t)) : b = c := by
  unfold fnv at h
  rw [List.foldl_append, List.foldl_append, List.foldl_cons, List.foldl_cons] at h
  have ha : a.foldl fnvStep 2166136261 < 4294967296 := fnv_lt a
  exact fnvStep_inj_b ha (foldl_inj t (fnvStep_lt _ _) (fnvStep_lt _ _) h)

theorem set_split {α : Type} {l : List α} {i : Nat} {v : α} (h : i < l.length) : l.set i v = l.take i ++ v :: l.drop (i + 1) := by
  have e : l = l.take i ++ l[i] :: l.drop (i + 1) := by simp
  have h2 := set_mid (l.take i) l[i] v (l.drop (i + 1))
  rw [List.length_take_of_le (by omega)] at h2
  rw [← h2, ← e]

theorem open_changed {s : Str} {i : Nat} {v : UInt8} (hi : i < (sealV s).length) (hv : (sealV s)[i] ≠ v) : openV ((sealV s).set i v) = ([], 3) := by
  unfold openV
  rw [List.length_set, sealV_length, if_neg (by omega), show s.length + 4 - 4 = s.length by omega, if_neg ?_]
  intro h
  by_cases h1 : i < s.length
  · have e1 : (sealV s).set i v = s.set i v ++ be (fnv s) 4 := by unfold sealV; rw [List.set_append_left _ _ h1]
    have e2 : ((sealV s).set i v).take s.length = s.set i v := by
      rw [e1, List.take_append_of_le_length (by simp)]
      exact List.take_of_length_le (by simp)
    rw [e2, e1] at h
    unfold sealV at h
    have h2 := be_inj (fnv_lt _) (fnv_lt _) (List.append_cancel_left h)
    have h3 : fnv (s.take i ++ v :: s.drop (i + 1)) = fnv (s.take i ++ s[i] :: s.drop (i + 1)) := by
      rw [← set_split h1, h2]
      congr 1
      simp
    apply hv
    have h4 := fnv_one h3
    rw [h4]
    simp [sealV, h1]
  · have e1 : ((sealV s).set i v).take s.length = s := by
      unfold sealV
      rw [List.set_append_right _ _ (by omega)]
      simp
    rw [e1] at h
    apply hv
    have h2 : ((sealV s).set i v)[i]? = some v := by rw [List.getElem?_set_self hi]
    rw [← h, List.getElem?_eq_getElem hi] at h2
    exact Option.some.inj h2

theorem bytes_set {l : Str} {i : Nat} {c : Nat} : bytesOfInts ((intsOfBytes l).set i (c : Int)) = l.set i (UInt8.ofNat c) := by
  unfold bytesOfInts
  rw [List.map_set]
  have := ints_bytes l
  unfold bytesOfInts at this
  rw [this]
  simp

theorem law02_CheckBack_true {s : Str} {a c : Int} (hs : wStr s) (ha : inK .u16 a) (hc : inK .u8 c) : law02_CheckBack.F s a c (fun r => r = true) := by
  unfold law02_CheckBack.F
  refine law02_alive_ok (cond_f rfl (cond_ok (fun _ => rfl) fun h1 => ?_))
  have hl : s.length ≤ 2000 := by
    have h1 : ¬ (s.length : Int) > 2000 := of_decide_eq_false h1
    omega
  have ha1 : 0 ≤ a ∧ a ≤ 65535 := ha
  have hc1 : 0 ≤ c ∧ c ≤ 255 := hc
  obtain ⟨a, rfl⟩ : ∃ n : Nat, a = n := ⟨a.toNat, by omega⟩
  obtain ⟨c, rfl⟩ : ∃ n : Nat, c = n := ⟨c.toNat, by omega⟩
  refine check_Seal_ok hs (check_Open_ok (wStr_of (by rw [sealV_length]; omega)) ?_)
  rw [openV_seal]
  refine cond_f (by simp) (cond_f (by simp) (cond_f ?_ ?_))
  · rw [wrap_i64 (by omega), sealV_length]
    simp
  have el : (intsOfBytes (sealV s)).length = s.length + 4 := by simp [intsOfBytes, sealV_length]
  rw [el, wrap_i64 (x := (a : Int)) (by omega), Int.tmod_eq_emod_of_nonneg (by omega)]
  have em : ((a : Int) % ((s.length + 4 : Nat) : Int)) = ((a % (s.length + 4) : Nat) : Int) := by omega
  rw [em]
  have hi : a % (s.length + 4) < s.length + 4 := Nat.mod_lt _ (by omega)
  generalize a % (s.length + 4) = i at *
  refine cond_f (by simp; omega) ?_
  refine gd_ok (by simp; omega) ?_
  rw [Int.toNat_natCast]
  have hi2 : i < (sealV s).length := by rw [sealV_length]; exact hi
  refine oget_ok (v := ((sealV s)[i].toNat : Int)) (by simp [intsOfBytes, hi2]) ?_
  refine cond_ok (fun _ => rfl) fun h2 => ?_
  refine gd_ok (by simp; omega) ?_
  rw [bytes_set]
  refine check_Open_ok (wStr_of (by simp [sealV_length]; omega)) ?_
  rw [open_changed hi2]
  · rfl
  · intro h3
    rw [h3] at h2
    simp at h2
    omega

theorem law02_CheckGrows_true {s : Str} {c : Int} (hs : wStr s) (hc : inK .u8 c) : law02_CheckGrows.F s c (fun r => r = true) := by
  unfold law02_CheckGrows.F
  refine law02_alive_ok (cond_f rfl (cond_ok (fun _ => rfl) fun h1 => ?_))
  have hl : s.length ≤ 2000 := by
    have h1 : ¬ (s.length : Int) > 2000 := of_decide_eq_false h1
    omega
  have hc1 : 0 ≤ c ∧ c ≤ 255 := hc
  obtain ⟨c, rfl⟩ : ∃ n : Nat, c = n := ⟨c.toNat, by omega⟩
  have eb : bytesOfInts [(c : Int)] = [UInt8.ofNat c] := rfl
  rw [eb]
  refine check_Sum_ok hs (gd_ok (fits_ok (by simp; omega)) (check_Sum_ok (wStr_of (by simp; omega)) (cond_f rfl ?_)))
  have h2 := fnv_lt s
  have h3 := fnv_lt (s ++ [UInt8.ofNat c])
  rw [show IntKind.u64.wrap (fnv s : Int) = (fnv s : Int) by rw [wrap_u64]; omega, show IntKind.u64.wrap (c : Int) = (c : Int) by rw [wrap_u64]; omega]
  rw [show IntKind.u64.wrap (fnv (s ++ [UInt8.ofNat c]) : Int) = (fnv (s ++ [UInt8.ofNat c]) : Int) by rw [wrap_u64]; omega]
  rw [ixor_nat (k := .u64) rfl (Nat.lt_trans h2 (by decide)) (by show c < 2 ^ 64; omega)]
  rw [fnv_snoc]
  unfold fnvStep
  have e1 : (UInt8.ofNat c).toNat = c := by rw [toNat_ofNat]; omega
  rw [e1]
  have hx : fnv s ^^^ c < 2 ^ 32 := Nat.xor_lt_two_pow h2 (by omega)
  generalize fnv s ^^^ c = y at *
  rw [wrap_u64, Int.tmod_eq_emod_of_nonneg (by omega)]
  apply beq_iff_eq.2
  omega

/-! ### Numbers -/
theorem law01_alive_ok {K : Bool → Prop} (h : K true) : law01_alive.F K := by
  unfold law01_alive.F
  refine num_Get64_ok (num_Get32_ok (num_Unflag_ok (b := 5) (by decide) (num_Unflag_ok (b := 8) (by decide) (num_Put32_ok (n := 258) (by decide) (cond_t (by kernel_rfl) (num_Put64_ok (n := 1) (cond_t (by kernel_rfl) (cond_t (by kernel_rfl) (cond_t (by kernel_rfl) (cond_t (by kernel_rfl) (cond_t (by kernel_rfl) (cond_t (by kernel_rfl) (num_Flags_ok (cond_t (by kernel_rfl) (ref01_Same_ok (by decide) ?_)))))))))))))))
  exact h

theorem law01_NumPuts_true {n : Int} {s : Str} (hn : inK .u64 n) : law01_NumPuts.F n s (fun r => r = true) := by
  unfold law01_NumPuts.F
  have hn1 : 0 ≤ n ∧ n ≤ 18446744073709551615 := hn
  obtain ⟨n, rfl⟩ : ∃ m : Nat, n = m := ⟨n.toNat, by omega⟩
  refine law01_alive_ok (cond_f rfl (cond_ok (fun _ => rfl) fun _ => cond_f rfl ?_))
  have e1 : IntKind.u32.wrap ((n : Int).tmod 4294967296) = ((n % 4294967296 : Nat) : Int) := by
    rw [wrap_u32, Int.tmod_eq_emod_of_nonneg (by omega)]; omega
  rw [e1]
  have h2 : n % 4294967296 < 2 ^ 32 := Nat.mod_lt _ (by decide)
  have h3 : n < 2 ^ 64 := by omega
  exact num_Get32_ok (ref01_Get32_ok (num_Get64_ok (ref01_Get64_ok (num_Put32_ok h2 (ref01_Put32_ok h2 (cond_t (by simp) (num_Put64_ok (ref01_Put64_ok h3 (cond_t (by simp) (cond_t (by simp) (cond_t (by simp) (cond_t (by simp) (by simp)))))))))))))

theorem unflag_le (b : Nat) (n : Int) : (unflag b n).1.length ≤ big := by
  unfold unflag
  split
  · simp only [unf_length]; unfold big; omega
  · simp

theorem law01_NumFlags_true {l : List Bool} {b n : Int} (hb : inK .u8 b) : law01_NumFlags.F l b n (fun r => r = true) := by
  unfold law01_NumFlags.F
  have hb1 : 0 ≤ b ∧ b ≤ 255 := hb
  obtain ⟨b, rfl⟩ : ∃ m : Nat, b = m := ⟨b.toNat, by omega⟩
  refine law01_alive_ok (cond_f rfl (cond_ok (fun _ => rfl) fun _ => ?_))
  exact num_Unflag_ok (by omega) (ref01_Unflag_ok (by omega) (num_Flags_ok (ref01_Flags_ok (cond_t (by simp) (ref01_Same_ok (unflag_le _ _) (cond_t (by simp) (by simp)))))))

theorem law01_NumBack_true {n : Int} {s : Str} {l : List Bool} (hn : inK .u64 n) : law01_NumBack.F n s l (fun r => r = true) := by
  unfold law01_NumBack.F
  have hn1 : 0 ≤ n ∧ n ≤ 18446744073709551615 := hn
  obtain ⟨n, rfl⟩ : ∃ m : Nat, n = m := ⟨n.toNat, by omega⟩
  refine law01_alive_ok (cond_f rfl (cond_ok (fun _ => rfl) fun _ => (cond_ok (fun _ => rfl) fun hl => ?_)))
  have hl : l.length ≤ 8 := by
    have h1 : ¬ (l.length : Int) > 8 := of_decide_eq_false hl
    omega
  have e1 : IntKind.u32.wrap ((n : Int).tmod 4294967296) = ((n % 4294967296 : Nat) : Int) := by
    rw [wrap_u32, Int.tmod_eq_emod_of_nonneg (by omega)]; omega
  rw [e1]
  have h2 : n % 4294967296 < 2 ^ 32 := Nat.mod_lt _ (by decide)
  have h3 : n < 2 ^ 64 := by omega
  have hfv : fv (l.take 8) < 2 ^ l.length := by rw [List.take_of_length_le hl]; exact fv_lt l
  have hp : 2 ^ l.length ≤ 256 := by
    have : 2 ^ l.length ≤ 2 ^ 8 := Nat.pow_le_pow_right (by decide) hl
    simpa using this
  have eu : unflag (fv (l.take 8)) (l.length : Int) = (l, true) := by
    unfold unflag
    rw [if_pos ⟨by omega, by omega, by rw [Int.toNat_natCast]; exact Nat.div_eq_of_lt hfv⟩, Int.toNat_natCast, List.take_of_length_le hl, unf_fv]
  have g64 : getN (be n 8) 8 = ((n : Int), true) := by
    unfold getN
    rw [if_pos (be_length _ _), unbe_be, Nat.mod_eq_of_lt (by omega)]
  have g32 : getN (be (n % 4294967296) 4) 4 = (((n % 4294967296 : Nat) : Int), true) := by
    unfold getN
    rw [if_pos (be_length _ _), unbe_be, Nat.mod_eq_of_lt (by omega)]
  refine num_Put64_ok (num_Get64_ok (cond_f rfl (num_Put32_ok h2 (num_Get32_ok (num_Flags_ok (num_Unflag_ok (by omega) ?_))))))
  rw [eu, g64, g32]
  refine cond_f rfl (cond_f rfl (cond_f rfl (cond_f (by simp) (cond_f rfl (cond_f ?_ (ref01_Same_ok (by show l.length ≤ big; unfold big; omega) (cond_f (by simp) (num_Get64_ok (num_Get32_ok ?_)))))))))
  · rw [wrap_u64, Int.tmod_eq_emod_of_nonneg (by omega)]
    simp
    omega
  · have put : ∀ k, k ≤ 8 → s.length = k → be (unbe s) k = s := fun k _ h => be_unbe k s h
    by_cases h8 : s.length = 8
    · have e8 : getN s 8 = ((unbe s : Int), true) := by unfold getN; rw [if_pos h8]
      have e4 : getN s 4 = (0, false) := by unfold getN; rw [if_neg (by omega)]
      rw [e8, e4]
      refine cond_f rfl (num_Put64_ok (cond_t (by simp [put 8 (by decide) h8]) (cond_t rfl (cond_t (by simp [h8]) (by simp [h8])))))
    · have e8 : getN s 8 = (0, false) := by unfold getN; rw [if_neg h8]
      rw [e8]
      refine cond_t rfl ?_
      by_cases h4 : s.length = 4
      · have e4 : getN s 4 = ((unbe s : Int), true) := by unfold getN; rw [if_pos h4]
        rw [e4]
        have hlt := unbe_lt 4 s h4
        refine cond_f rfl (num_Put32_ok (by omega) (cond_t (by simp [put 4 (by decide) h4]) (cond_t (by simp [h4]) (by simp [h4]))))
      · have e4 : getN s 4 = (0, false) := by unfold getN; rw [if_neg h4]
        rw [e4]
        have n8 : ((s.length : Int) == 8) = false := by simp; omega
        have n4 : ((s.length : Int) == 4) = false := by simp; omega
        rw [n8, n4]
        exact cond_t rfl (cond_t rfl rfl)
end Gm
