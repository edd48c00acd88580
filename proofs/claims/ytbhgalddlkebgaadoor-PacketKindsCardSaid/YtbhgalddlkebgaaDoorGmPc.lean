/- Plain laws: what the functions of the layers 1 and 2 answer. -/
import Derived.Test.YtbhgalddlkebgaaDoorGmPa
import Derived.Test.YtbhgalddlkebgaaDoorGmT1
import Derived.KernelRfl
set_option maxRecDepth 100000
namespace Gm
open Go

theorem wStr_i64 {n : Nat} (h : n ≤ big) : IntKind.i64.wrap ((n : Int) + 1) = ((n + 1 : Nat) : Int) := by
  rw [wrap_i64 (by unfold big at h; omega)]; omega
theorem wrap_succ {n : Nat} (h : n ≤ big) : IntKind.i64.wrap ((n : Int) + 1) = ((n + 1 : Nat) : Int) := wStr_i64 h
theorem getI_ok {α : Type} {xs : List α} {i : Nat} (h : i < xs.length) : getI xs (i : Int) = some xs[i] := by
  unfold getI
  rw [if_pos (by omega)]
  simp [h]
theorem take_succ {α : Type} {xs : List α} {i : Nat} (h : i < xs.length) : xs.take (i + 1) = xs.take i ++ [xs[i]] := by
  simp

/-! ### check: sums -/
def fnvStep (n : Nat) (b : UInt8) : Nat := ((n ^^^ b.toNat) * 16777619) % 4294967296
def fnv (s : Str) : Nat := s.foldl fnvStep 2166136261
theorem foldl_snoc {α β : Type} (f : α → β → α) (a : α) (s : List β) (b : β) : (s ++ [b]).foldl f a = f (s.foldl f a) b := by simp
theorem fnv_snoc (s : Str) (b : UInt8) : fnv (s ++ [b]) = fnvStep (fnv s) b := foldl_snoc fnvStep _ s b
theorem fnv_lt (s : Str) : fnv s < 4294967296 := by
  rcases snoc_cases s with rfl | ⟨t, b, rfl⟩
  · simp [fnv]
  · rw [fnv_snoc]; unfold fnvStep; exact Nat.mod_lt _ (by decide)
theorem u8_lt (b : UInt8) : b.toNat < 256 := b.toNat_lt

theorem check_Sum_ok {s : Str} (hs : wStr s) {K : Int → Prop} (h : K (fnv s)) : check_Sum.F s K := by
  unfold check_Sum.F
  refine loop_ok (I := fun x : check_Sum.L0 => ∃ i : Nat, i ≤ s.length ∧ x = ⟨s, fnv (s.take i), s.length, i⟩) (m := fun x : check_Sum.L0 => s.length - x.t7.toNat) ?_ ⟨0, by simp, rfl⟩
  rintro _ ⟨i, hi, rfl⟩ rec hrec
  unfold check_Sum.b0
  dsimp only
  refine cond_ok (fun h1 => ?_) (fun h1 => ?_)
  · have hlt : i < s.length := by simpa using h1
    refine oget_ok (getI_ok hlt) ?_
    have e2 : IntKind.u32.wrap ((s[i].toNat : Nat) : Int) = ((s[i].toNat : Nat) : Int) := by
      have := u8_lt s[i]
      rw [wrap_u32]; omega
    rw [e2, ixor_nat (k := .u32) rfl (fnv_lt _) (Nat.lt_of_lt_of_le (u8_lt _) (by decide)), wrap_succ (by unfold wStr at hs; omega)]
    have e3 : IntKind.u32.wrap (((fnv (s.take i) ^^^ s[i].toNat : Nat) : Int) * 16777619) = (fnv (s.take (i + 1)) : Int) := by
      rw [take_succ hlt, fnv_snoc]
      unfold fnvStep
      rw [wrap_u32]
      omega
    rw [e3]
    exact hrec _ ⟨i + 1, hlt, rfl⟩ (by simp; omega)
  · have hlt : i = s.length := by have : ¬ i < s.length := by simpa using h1
                                  omega
    subst hlt
    simpa using h

theorem ref02_Sum_ok {s : Str} (hs : wStr s) {K : Int → Prop} (h : K (fnv s)) : ref02_Sum.F s K := by
  unfold ref02_Sum.F
  refine loop_ok (I := fun x : ref02_Sum.L0 => ∃ i : Nat, i ≤ s.length ∧ x = ⟨s, fnv (s.take i), i⟩) (m := fun x : ref02_Sum.L0 => s.length - x.i.toNat) ?_ ⟨0, by simp, rfl⟩
  rintro _ ⟨i, hi, rfl⟩ rec hrec
  unfold ref02_Sum.b0
  dsimp only
  refine cond_ok (fun h1 => ?_) (fun h1 => ?_)
  · have hlt : i < s.length := by simpa using h1
    refine oget_ok (getI_ok hlt) ?_
    refine cond_f rfl ?_
    have e2 : IntKind.u64.wrap ((s[i].toNat : Nat) : Int) = ((s[i].toNat : Nat) : Int) := by
      have := u8_lt s[i]
      rw [wrap_u64]; omega
    rw [e2, ixor_nat (k := .u64) rfl (Nat.lt_trans (fnv_lt _) (by decide)) (Nat.lt_of_lt_of_le (u8_lt _) (by decide)), wrap_succ (by unfold wStr at hs; omega)]
    have e3 : (IntKind.u64.wrap (((fnv (s.take i) ^^^ s[i].toNat : Nat) : Int) * 16777619)).tmod 4294967296 = (fnv (s.take (i + 1)) : Int) := by
     rw [take_succ hlt, fnv_snoc]
     unfold fnvStep
     have hx : fnv (s.take i) ^^^ s[i].toNat < 2 ^ 32 := Nat.xor_lt_two_pow (fnv_lt _) (Nat.lt_of_lt_of_le (u8_lt _) (by decide))
     generalize fnv (s.take i) ^^^ s[i].toNat = y at *
     rw [wrap_u64, Int.tmod_eq_emod_of_nonneg (by omega)]
     omega
    rw [e3]
    exact hrec _ ⟨i + 1, hlt, rfl⟩ (by simp; omega)
  · have hlt : i = s.length := by have : ¬ i < s.length := by simpa using h1
                                  omega
    subst hlt
    have := fnv_lt s
    have e : IntKind.u32.wrap (fnv (s.take s.length) : Int) = (fnv s : Int) := by
      rw [List.take_length, wrap_u32]; omega
    rw [e]
    exact h

/-! ### num: bytes -/
theorem ints_bytes (s : Str) : bytesOfInts (intsOfBytes s) = s := by
  induction s with
  | nil => rfl
  | cons b s ih =>
    have : UInt8.ofNat ((b.toNat : Nat) : Int).toNat = b := by
      apply UInt8.toNat_inj.1; simp
    simp only [bytesOfInts, intsOfBytes, List.map_cons, List.map_map] at ih ⊢
    rw [ih, this]
theorem set_mid {α : Type} (a : List α) (x v : α) (t : List α) : (a ++ x :: t).set a.length v = a ++ v :: t := by
  rw [List.set_append_right _ _ (Nat.le_refl _)]
  simp

theorem num_put_ok {n k : Nat} (hk : k ≤ 8) {K : Str → Prop} (h : K (be n k)) : num_put.F n k K := by
  unfold num_put.F
  refine gd_ok (by simp [room]; omega) ?_
  refine loop_ok (I := fun x : num_put.L0 => ∃ i : Nat, i ≤ k ∧ x = ⟨n, k, List.replicate (k - i) 0 ++ intsOfBytes (be n i), k, i⟩) (m := fun x : num_put.L0 => k - x.t11.toNat) ?_ ⟨0, by simp, by simp [be, intsOfBytes]⟩
  rintro _ ⟨i, hi, rfl⟩ rec hrec
  unfold num_put.b0
  dsimp only
  refine cond_ok (fun h1 => ?_) (fun h1 => ?_)
  · have hlt : i < k := by simpa using h1
    have e1 : IntKind.i64.wrap (8 * (i : Int)) = ((8 * i : Nat) : Int) := by rw [wrap_i64 (by omega)]; omega
    have e2 : IntKind.i64.wrap (IntKind.i64.wrap ((k : Int) - 1) - i) = ((k - 1 - i : Nat) : Int) := by
      rw [wrap_i64 (x := (k : Int) - 1) (by omega), wrap_i64 (by omega)]; omega
    rw [e1, e2]
    refine gd_ok (by simp; omega) ?_
    refine gd_ok (by simp [intsOfBytes, be_length]; omega) ?_
    rw [wrap_i64 (x := (i : Int) + 1) (by omega)]
    refine hrec _ ⟨i + 1, hlt, ?_⟩ (by simp; omega)
    congr 1
    rw [ishr_nat (k := .u64) n (y := 8 * i) (by show 8 * i ≤ 64; omega)]
    have e3 : List.replicate (k - i) (0 : Int) ++ intsOfBytes (be n i) = List.replicate (k - (i + 1)) 0 ++ (0 : Int) :: intsOfBytes (be n i) := by
      rw [show k - i = k - (i + 1) + 1 by omega, List.replicate_succ', List.append_assoc]
      rfl
    have e4 := set_mid (List.replicate (k - (i + 1)) (0 : Int)) 0 (IntKind.u8.wrap ((n / 2 ^ (8 * i) : Nat) : Int)) (intsOfBytes (be n i))
    rw [List.length_replicate] at e4
    simp only [Int.toNat_natCast]
    rw [e3, show k - 1 - i = k - (i + 1) by omega, e4, be_cons]
    congr 1
    rw [show (intsOfBytes (UInt8.ofNat (n / 256 ^ i) :: be n i)) = ((UInt8.ofNat (n / 256 ^ i)).toNat : Int) :: intsOfBytes (be n i) from rfl]
    congr 1
    rw [wrap_u8, toNat_ofNat, show (256 : Nat) ^ i = 2 ^ (8 * i) by rw [Nat.pow_mul]]
    omega
  · have hlt : i = k := by have : ¬ i < k := by simpa using h1
                           omega
    subst hlt
    rw [Nat.sub_self]
    rw [show List.replicate 0 (0 : Int) ++ intsOfBytes (be n i) = intsOfBytes (be n i) from rfl, ints_bytes]
    exact h

theorem ref01_put_ok {n k : Nat} (hn : n < 2 ^ 64) (hk : k ≤ 8) {K : Str → Prop} (h : K (be n k)) : ref01_put.F n k K := by
  unfold ref01_put.F
  refine loop_ok (I := fun x : ref01_put.L0 => ∃ i : Nat, i ≤ k ∧ x = ⟨((n / 256 ^ i : Nat) : Int), k, be n i, i⟩) (m := fun x : ref01_put.L0 => k - x.i.toNat) ?_ ⟨0, by simp, by simp [be]⟩
  rintro _ ⟨i, hi, rfl⟩ rec hrec
  unfold ref01_put.b0
  dsimp only
  refine cond_ok (fun h1 => ?_) (fun h1 => ?_)
  · have hlt : i < k := by simpa using h1
    refine cond_f rfl ?_
    refine gd_ok (by simp [bytesOfInts, be_length, fits]; omega) ?_
    refine cond_f rfl ?_
    rw [wrap_i64 (x := (i : Int) + 1) (by omega)]
    refine hrec _ ⟨i + 1, hlt, ?_⟩ (by simp; omega)
    congr 1
    · have : n / 256 ^ i < 2 ^ 64 := Nat.lt_of_le_of_lt (Nat.div_le_self _ _) hn
      rw [Nat.pow_succ, ← Nat.div_div_eq_div_mul]
      generalize n / 256 ^ i = y at *
      rw [wrap_u64, Int.tdiv_eq_ediv_of_nonneg (by omega)]
      omega
    · rw [be_cons]
      generalize n / 256 ^ i = y at *
      have : bytesOfInts [IntKind.u8.wrap ((y : Int).tmod 256)] = [UInt8.ofNat y] := by
        simp only [bytesOfInts, List.map_cons, List.map_nil]
        congr 1
        apply UInt8.toNat_inj.1
        rw [toNat_ofNat, toNat_ofNat, wrap_u8, Int.tmod_eq_emod_of_nonneg (by omega)]
        omega
      rw [this]
      rfl
  · have hlt : i = k := by have : ¬ i < k := by simpa using h1
                           omega
    subst hlt
    exact h

theorem unbe_take {s : Str} {i : Nat} (h : i < s.length) : unbe (s.take (i + 1)) = unbe (s.take i) * 256 + s[i].toNat := by
  rw [take_succ h, unbe_snoc]

theorem pow256 {i : Nat} (h : i ≤ 7) : 256 ^ i ≤ 72057594037927936 := by
  have : 256 ^ i ≤ 256 ^ 7 := Nat.pow_le_pow_right (by decide) h
  simpa using this

theorem num_get_ok {s : Str} (hs : s.length ≤ 8) {K : Int → Prop} (h : K (unbe s)) : num_get.F s K := by
  unfold num_get.F
  refine loop_ok (I := fun x : num_get.L0 => ∃ i : Nat, i ≤ s.length ∧ x = ⟨s, unbe (s.take i), s.length, i⟩) (m := fun x : num_get.L0 => s.length - x.t6.toNat) ?_ ⟨0, by simp, rfl⟩
  rintro _ ⟨i, hi, rfl⟩ rec hrec
  unfold num_get.b0
  dsimp only
  refine cond_ok (fun h1 => ?_) (fun h1 => ?_)
  · have hlt : i < s.length := by simpa using h1
    refine oget_ok (getI_ok hlt) ?_
    rw [wrap_i64 (x := (i : Int) + 1) (by omega)]
    refine hrec _ ⟨i + 1, hlt, ?_⟩ (by simp; omega)
    congr 1
    have h2 := unbe_lt i (s.take i) (by simp; omega)
    have h3 := pow256 (i := i) (by omega)
    have h4 := u8_lt s[i]
    rw [unbe_take hlt]
    generalize unbe (s.take i) = y at *
    generalize s[i].toNat = z at *
    have e1 := ishl_nat (k := .u64) rfl y (y := 8) (by decide)
    rw [show ((8 : Nat) : Int) = 8 from rfl] at e1
    rw [e1, show IntKind.u64.wrap (z : Int) = (z : Int) by rw [wrap_u64]; omega]
    have e2 : y * 2 ^ 8 % 2 ^ IntKind.u64.bits = 2 ^ 8 * y := by
      show y * 256 % 18446744073709551616 = 256 * y
      omega
    rw [e2, ior_nat (k := .u64) rfl (by show 2 ^ 8 * y < 2 ^ 64; omega) (by show z < 2 ^ 64; omega), ← Nat.two_pow_add_eq_or_of_lt (by omega)]
    omega
  · have hlt : i = s.length := by have : ¬ i < s.length := by simpa using h1
                                  omega
    subst hlt
    simpa using h

theorem ref01_get_ok {s : Str} {k : Nat} (hk : k ≤ 8) {K : (Int × Bool) → Prop} (h : K (if s.length = k then (unbe s, true) else (0, false))) : ref01_get.F s k K := by
  unfold ref01_get.F
  refine cond_ok (fun h1 => ?_) (fun h1 => ?_)
  · have hl : ¬ s.length = k := by
      rintro rfl
      simp at h1
    rw [if_neg hl] at h
    exact h
  · have hl : s.length = k := by
      have h2 : (s.length : Int) = k := by
        rcases Bool.eq_false_or_eq_true ((s.length : Int) == k) with h4 | h4
        · exact eq_of_beq h4
        · rw [bne, h4] at h1; cases h1
      omega
    rw [if_pos hl] at h
    subst hl
    refine loop_ok (I := fun x : ref01_get.L0 => ∃ i : Nat, i ≤ s.length ∧ x = ⟨s, s.length, unbe (s.take i), i⟩) (m := fun x : ref01_get.L0 => s.length - x.i.toNat) ?_ ⟨0, by simp, rfl⟩
    rintro _ ⟨i, hi, rfl⟩ rec hrec
    unfold ref01_get.b0
    dsimp only
    refine cond_ok (fun h1 => ?_) (fun h1 => ?_)
    · have hlt : i < s.length := by simpa using h1
      refine oget_ok (getI_ok hlt) ?_
      rw [wrap_i64 (x := (i : Int) + 1) (by omega)]
      refine hrec _ ⟨i + 1, hlt, ?_⟩ (by simp; omega)
      congr 1
      have h2 := unbe_lt i (s.take i) (by simp; omega)
      have h3 := pow256 (i := i) (by omega)
      have h4 := u8_lt s[i]
      rw [unbe_take hlt]
      generalize unbe (s.take i) = y at *
      generalize s[i].toNat = z at *
      simp only [wrap_u64]
      omega
    · have hlt : i = s.length := by have : ¬ i < s.length := by simpa using h1
                                    omega
      subst hlt
      simpa using h

/-! ### num: flags -/
def fv : List Bool → Nat
  | [] => 0
  | b :: r => b.toNat + 2 * fv r
def unf (b n : Nat) : List Bool := (List.range n).map fun i => b / 2 ^ i % 2 == 1

theorem fv_snoc (l : List Bool) (b : Bool) : fv (l ++ [b]) = fv l + 2 ^ l.length * b.toNat := by
  induction l with
  | nil => simp [fv]
  | cons a l ih =>
    simp only [List.cons_append, fv, ih, List.length_cons, Nat.pow_succ]
    rw [Nat.mul_add, ← Nat.mul_assoc, Nat.mul_comm 2 (2 ^ l.length)]
    omega
theorem fv_lt (l : List Bool) : fv l < 2 ^ l.length := by
  induction l with
  | nil => simp [fv]
  | cons a l ih =>
    simp only [fv, List.length_cons, Nat.pow_succ]
    cases a <;> simp <;> omega
theorem unf_fv (l : List Bool) : unf (fv l) l.length = l := by
  induction l with
  | nil => rfl
  | cons a l ih =>
    unfold unf at ih ⊢
    rw [List.length_cons, List.range_succ_eq_map, List.map_cons, List.map_map]
    congr 1
    · simp only [fv]; cases a <;> simp <;> omega
    · have : (fun i => (fv (a :: l) / 2 ^ i % 2 == 1)) ∘ Nat.succ = fun i => (fv l / 2 ^ i % 2 == 1) := by
        funext i
        simp only [Function.comp, fv]
        rw [Nat.succ_eq_add_one, Nat.pow_succ, Nat.mul_comm (2 ^ i) 2, ← Nat.div_div_eq_div_mul]
        congr 2
        congr 1
        cases a <;> simp <;> omega
      rw [this]; exact ih
theorem unf_length (b n : Nat) : (unf b n).length = n := by simp [unf]
theorem fv_unf : ∀ (n b : Nat), b < 2 ^ n → fv (unf b n) = b
  | 0, b, h => by simp at h; subst h; rfl
  | n + 1, b, h => by
    have ih := fv_unf n (b / 2) (by rw [Nat.pow_succ] at h; omega)
    have e : unf b (n + 1) = (b % 2 == 1) :: unf (b / 2) n := by
      unfold unf
      rw [List.range_succ_eq_map, List.map_cons, List.map_map]
      congr 1
      · simp
      · congr 1
        funext i
        simp only [Function.comp]
        rw [Nat.succ_eq_add_one, Nat.pow_succ, Nat.mul_comm (2 ^ i) 2, ← Nat.div_div_eq_div_mul]
    rw [e, fv, ih]
    rcases Nat.mod_two_eq_zero_or_one b with h2 | h2 <;> rw [h2] <;> simp <;> omega

theorem pow2_le {i : Nat} (h : i ≤ 7) : 2 ^ i ≤ 128 := by
  have : 2 ^ i ≤ 2 ^ 7 := Nat.pow_le_pow_right (by decide) h
  simpa using this

theorem num_Flags_ok {l : List Bool} {K : Int → Prop} (h : K (fv (l.take 8))) : num_Flags.F l K := by
  unfold num_Flags.F
  have em : minI (l.length : Int) 8 = ((min l.length 8 : Nat) : Int) := by
    unfold minI; split <;> omega
  rw [em]
  refine gd_ok (by simp; omega) ?_
  have es : sub l 0 (Int.toNat ((min l.length 8 : Nat) : Int)) = l.take 8 := by
    simp only [sub, List.drop_zero, Int.toNat_natCast]
    rw [Nat.min_comm]
    simp
  rw [es]
  have hl8 : (l.take 8).length ≤ 8 := by simp; omega
  generalize l.take 8 = l at *
  refine loop_ok (I := fun x : num_Flags.L0 => ∃ i : Nat, i ≤ l.length ∧ x = ⟨fv (l.take i), l, l.length, i⟩) (m := fun x : num_Flags.L0 => l.length - x.t11.toNat) ?_ ⟨0, by simp, rfl⟩
  rintro _ ⟨i, hi, rfl⟩ rec hrec
  unfold num_Flags.b0
  dsimp only
  refine cond_ok (fun h1 => ?_) (fun h1 => ?_)
  · have hlt : i < l.length := by simpa using h1
    refine oget_ok (getI_ok hlt) ?_
    have h2 := fv_lt (l.take i)
    rw [show (l.take i).length = i by simp; omega] at h2
    have h3 := pow2_le (i := i) (by omega)
    have e0 : fv (l.take (i + 1)) = fv (l.take i) + 2 ^ i * (l[i]).toNat := by
      rw [take_succ hlt, fv_snoc, show (l.take i).length = i by simp; omega]
    refine cond_ok (fun h4 => ?_) (fun h4 => ?_)
    · refine gd_ok (by simp) ?_
      rw [wrap_i64 (x := (i : Int) + 1) (by omega)]
      refine hrec _ ⟨i + 1, hlt, ?_⟩ (by simp; omega)
      congr 1
      have e1 := ishl_nat (k := .u8) rfl 1 (y := i) (by show i ≤ 8; omega)
      rw [show ((1 : Nat) : Int) = 1 from rfl, Nat.one_mul] at e1
      rw [e1, e0, h4]
      have e2 : 2 ^ i % 2 ^ IntKind.u8.bits = 2 ^ i := Nat.mod_eq_of_lt (by show 2 ^ i < 256; omega)
      rw [e2, ior_nat (k := .u8) rfl (by show _ < 256; omega) (by show _ < 256; omega), Nat.or_comm]
      have e3 := Nat.two_pow_add_eq_or_of_lt h2 1
      rw [Nat.mul_one] at e3
      rw [← e3]
      simp; omega
    · rw [wrap_i64 (x := (i : Int) + 1) (by omega)]
      refine hrec _ ⟨i + 1, hlt, ?_⟩ (by simp; omega)
      congr 1
      rw [e0, h4]; simp
  · have hlt : i = l.length := by have : ¬ i < l.length := by simpa using h1
                                  omega
    subst hlt
    simpa using h

theorem ref01_Flags_ok {l : List Bool} {K : Int → Prop} (h : K (fv (l.take 8))) : ref01_Flags.F l K := by
  unfold ref01_Flags.F
  refine loop_ok (I := fun x : ref01_Flags.L0 => ∃ i : Nat, i ≤ l.length ∧ i ≤ 8 ∧ x = ⟨l, fv (l.take i), ((2 ^ i % 256 : Nat) : Int), i⟩) (m := fun x : ref01_Flags.L0 => l.length - x.i.toNat) ?_ ⟨0, by simp, by simp, rfl⟩
  rintro _ ⟨i, hi, hi8, rfl⟩ rec hrec
  unfold ref01_Flags.b0
  dsimp only
  have fin : (i = l.length ∨ i = 8) → K (fv (l.take i)) := by
    intro h2
    have : l.take i = l.take 8 := by
      rcases h2 with h2 | h2
      · subst h2; rw [List.take_length, List.take_of_length_le hi8]
      · rw [h2]
    rw [this]; exact h
  refine cond_ok (fun h1 => ?_) (fun h1 => ?_)
  · have hlt : i < l.length := by simpa using h1
    refine cond_ok (fun h0 => ?_) (fun h0 => ?_)
    · have h8 : i < 8 := by
        have : (i : Int) < 8 := of_decide_eq_true h0
        omega
      refine oget_ok (getI_ok hlt) ?_
      have h2 := fv_lt (l.take i)
      rw [show (l.take i).length = i by simp; omega] at h2
      have h3 := pow2_le (i := i) (by omega)
      have e0 : fv (l.take (i + 1)) = fv (l.take i) + 2 ^ i * (l[i]).toNat := by
        rw [take_succ hlt, fv_snoc, show (l.take i).length = i by simp; omega]
      have ep : IntKind.u8.wrap (((2 ^ i % 256 : Nat) : Int) * 2) = ((2 ^ (i + 1) % 256 : Nat) : Int) := by
        rw [wrap_u8, Nat.pow_succ]; omega
      have ew : IntKind.i64.wrap ((i : Int) + 1) = ((i + 1 : Nat) : Int) := by rw [wrap_i64 (by omega)]; omega
      rw [ep, ew]
      refine cond_ok (fun h4 => ?_) (fun h4 => ?_)
      · refine hrec _ ⟨i + 1, hlt, h8, ?_⟩ (by simp; omega)
        congr 1
        rw [e0, h4, wrap_u8]
        have h5 : fv (l.take i) + 2 ^ i < 256 := by omega
        have h6 : 2 ^ i % 256 = 2 ^ i := Nat.mod_eq_of_lt (by omega)
        rw [h6]
        simp only [Bool.toNat_true, Nat.mul_one]
        clear e0 ep ew h fin hrec
        generalize 2 ^ i = y at *
        omega
      · refine hrec _ ⟨i + 1, hlt, h8, ?_⟩ (by simp; omega)
        congr 1
        rw [e0, h4]; simp
    · have : ¬ ((i : Int) < 8) := of_decide_eq_false h0
      exact fin (.inr (by omega))
  · have hlt : i = l.length := by have : ¬ i < l.length := by simpa using h1
                                  omega
    exact fin (.inl hlt)

theorem unf_take (b i : Nat) : unf b (i + 1) = unf b i ++ [b / 2 ^ i % 2 == 1] := by
  unfold unf
  rw [List.range_succ, List.map_append]
  rfl

/-- What Unflag answers. -/
def unflag (b : Nat) (n : Int) : List Bool × Bool := if 0 ≤ n ∧ n ≤ 8 ∧ b / 2 ^ n.toNat = 0 then (unf b n.toNat, true) else ([], false)

theorem num_Unflag_ok {b : Nat} (hb : b < 256) {n : Int} {K : (List Bool × Bool) → Prop} (h : K (unflag b n)) : num_Unflag.F b n K := by
  unfold num_Unflag.F
  unfold unflag at h
  refine cond_ok (fun h1 => ?_) (fun h1 => ?_)
  · have h1 : n < 0 := of_decide_eq_true h1
    rw [if_neg (by omega)] at h
    exact h
  have h1 : ¬ n < 0 := of_decide_eq_false h1
  refine cond_ok (fun h2 => ?_) (fun h2 => ?_)
  · have h2 : n > 8 := of_decide_eq_true h2
    rw [if_neg (by omega)] at h
    exact h
  have h2 : ¬ n > 8 := of_decide_eq_false h2
  obtain ⟨k, rfl⟩ : ∃ k : Nat, n = k := ⟨n.toNat, by omega⟩
  simp only [Int.toNat_natCast] at h ⊢
  refine gd_ok (by simp) ?_
  have e0 := ishr_nat (k := .u8) b (y := k) (by show k ≤ 8; omega)
  rw [e0]
  refine cond_ok (fun h3 => ?_) (fun h3 => ?_)
  · have h3 : ¬ b / 2 ^ k = 0 := by
      intro e; rw [e] at h3; simp at h3
    rw [if_neg (by simp [h3])] at h
    exact h
  · have h3 : b / 2 ^ k = 0 := by
      have : ((b / 2 ^ k : Nat) : Int) = 0 := by
        rcases Bool.eq_false_or_eq_true (((b / 2 ^ k : Nat) : Int) == 0) with h4 | h4
        · exact eq_of_beq h4
        · rw [bne, h4] at h3; cases h3
      omega
    rw [if_pos ⟨by omega, by omega, h3⟩] at h
    refine gd_ok (by simp [room]; omega) ?_
    refine loop_ok (I := fun x : num_Unflag.L0 => ∃ i : Nat, i ≤ k ∧ x = ⟨b, unf b i ++ List.replicate (k - i) false, k, i⟩) (m := fun x : num_Unflag.L0 => k - x.t24.toNat) ?_ ⟨0, by simp, by simp [unf]⟩
    rintro _ ⟨i, hi, rfl⟩ rec hrec
    unfold num_Unflag.b0
    dsimp only
    refine cond_ok (fun h4 => ?_) (fun h4 => ?_)
    · have hlt : i < k := by simpa using h4
      refine gd_ok (by simp) ?_
      refine gd_ok (by simp [unf]; omega) ?_
      rw [wrap_i64 (x := (i : Int) + 1) (by omega)]
      refine hrec _ ⟨i + 1, hlt, ?_⟩ (by simp; omega)
      congr 1
      have e1 := ishr_nat (k := .u8) b (y := i) (by show i ≤ 8; omega)
      have hq : b / 2 ^ i < 256 := Nat.lt_of_le_of_lt (Nat.div_le_self _ _) hb
      have e2 := iand_nat (k := .u8) rfl (x := b / 2 ^ i) (y := 1) hq (by decide)
      rw [e1, show (1 : Int) = ((1 : Nat) : Int) from rfl, e2, Nat.and_one_is_mod, unf_take b i]
      rw [show k - i = k - (i + 1) + 1 by omega, List.replicate_succ]
      have e3 := set_mid (unf b i) false ((((b / 2 ^ i % 2 : Nat) : Int)) == ((1 : Nat) : Int)) (List.replicate (k - (i + 1)) false)
      rw [unf_length] at e3
      rw [Int.toNat_natCast, e3, List.append_assoc]
      congr 2
      rcases Nat.mod_two_eq_zero_or_one (b / 2 ^ i) with h5 | h5 <;> rw [h5] <;> rfl
    · have hlt : i = k := by have : ¬ i < k := by simpa using h4
                             omega
      subst hlt
      simpa using h

theorem ref01_Unflag_ok {b : Nat} (hb : b < 256) {n : Int} {K : (List Bool × Bool) → Prop} (h : K (unflag b n)) : ref01_Unflag.F b n K := by
  unfold ref01_Unflag.F
  unfold unflag at h
  refine cond_ok (fun h1 => ?_) (fun h1 => ?_)
  · have h1 : n < 0 := of_decide_eq_true h1
    rw [if_neg (by omega)] at h
    exact h
  have h1 : ¬ n < 0 := of_decide_eq_false h1
  refine cond_ok (fun h2 => ?_) (fun h2 => ?_)
  · have h2 : n > 8 := of_decide_eq_true h2
    rw [if_neg (by omega)] at h
    exact h
  have h2 : ¬ n > 8 := of_decide_eq_false h2
  obtain ⟨k, rfl⟩ : ∃ k : Nat, n = k := ⟨n.toNat, by omega⟩
  simp only [Int.toNat_natCast] at h ⊢
  refine loop_ok (I := fun x : ref01_Unflag.L0 => ∃ i : Nat, i ≤ k ∧ x = ⟨((b / 2 ^ i : Nat) : Int), k, unf b i, i⟩) (m := fun x : ref01_Unflag.L0 => k - x.i.toNat) ?_ ⟨0, by simp, by simp [unf]⟩
  rintro _ ⟨i, hi, rfl⟩ rec hrec
  unfold ref01_Unflag.b0
  dsimp only
  refine cond_ok (fun h4 => ?_) (fun h4 => ?_)
  · have hlt : i < k := by simpa using h4
    refine cond_f rfl ?_
    refine gd_ok (by simp [unf, room]; omega) ?_
    refine cond_f rfl ?_
    rw [wrap_i64 (x := (i : Int) + 1) (by omega)]
    have hq : b / 2 ^ i < 256 := Nat.lt_of_le_of_lt (Nat.div_le_self _ _) hb
    refine hrec _ ⟨i + 1, hlt, ?_⟩ (by simp; omega)
    congr 1
    · rw [Nat.pow_succ, ← Nat.div_div_eq_div_mul]
      clear hrec
      generalize b / 2 ^ i = y at *
      rw [wrap_u8, Int.tdiv_eq_ediv_of_nonneg (by omega)]
      omega
    · rw [unf_take b i]
      clear hrec
      generalize b / 2 ^ i = y at *
      rw [Int.tmod_eq_emod_of_nonneg (by omega)]
      congr 2
      rcases Nat.mod_two_eq_zero_or_one y with h5 | h5 <;> rw [h5]
      · rw [show (y : Int) % 2 = 0 by omega]; rfl
      · rw [show (y : Int) % 2 = 1 by omega]; rfl
  · have hlt : i = k := by have : ¬ i < k := by simpa using h4
                           omega
    subst hlt
    refine cond_ok (fun h5 => ?_) (fun h5 => ?_)
    · have h5 : ((b / 2 ^ i : Nat) : Int) > 0 := of_decide_eq_true h5
      rw [if_neg (by omega)] at h
      exact h
    · have h5 : ¬ ((b / 2 ^ i : Nat) : Int) > 0 := of_decide_eq_false h5
      have h6 : b / 2 ^ i = 0 := by
        revert h5
        generalize b / 2 ^ i = y
        intro h5
        omega
      rw [if_pos ⟨by omega, by omega, h6⟩] at h
      exact h

end Gm

namespace Gm
open Go
/-! ### What is put of these -/
theorem num_Put32_ok {n : Nat} (hn : n < 2 ^ 32) {K : Str → Prop} (h : K (be n 4)) : num_Put32.F n K := by
  unfold num_Put32.F
  rw [show IntKind.u64.wrap (n : Int) = (n : Int) by rw [wrap_u64]; omega]
  exact num_put_ok (k := 4) (by decide) h
theorem ref01_Put32_ok {n : Nat} (hn : n < 2 ^ 32) {K : Str → Prop} (h : K (be n 4)) : ref01_Put32.F n K := by
  unfold ref01_Put32.F
  rw [show IntKind.u64.wrap (n : Int) = (n : Int) by rw [wrap_u64]; omega]
  exact ref01_put_ok (k := 4) (by omega) (by decide) h
theorem num_Put64_ok {n : Nat} {K : Str → Prop} (h : K (be n 8)) : num_Put64.F n K := num_put_ok (k := 8) (by decide) h
theorem ref01_Put64_ok {n : Nat} (hn : n < 2 ^ 64) {K : Str → Prop} (h : K (be n 8)) : ref01_Put64.F n K := ref01_put_ok (k := 8) hn (by decide) h

/-- What Get32 and Get64 answer. -/
def getN (s : Str) (k : Nat) : Int × Bool := if s.length = k then ((unbe s : Int), true) else (0, false)

theorem bne_nat {a b : Nat} (h : ((a : Int) != (b : Int)) = true) : a ≠ b := by
  rintro rfl; simp at h
theorem bne_nat' {a b : Nat} (h : ((a : Int) != (b : Int)) = false) : a = b := by
  rcases Bool.eq_false_or_eq_true ((a : Int) == b) with h4 | h4
  · have := eq_of_beq h4; omega
  · rw [bne, h4] at h; cases h
theorem num_Get32_ok {s : Str} {K : (Int × Bool) → Prop} (h : K (getN s 4)) : num_Get32.F s K := by
  unfold num_Get32.F
  unfold getN at h
  refine cond_ok (fun h1 => ?_) (fun h1 => ?_)
  · rw [if_neg (bne_nat (b := 4) h1)] at h; exact h
  · have h2 := bne_nat' (b := 4) h1
    rw [if_pos h2] at h
    refine num_get_ok (by omega) ?_
    have := unbe_lt 4 s h2
    rw [show IntKind.u32.wrap (unbe s : Int) = (unbe s : Int) by rw [wrap_u32]; omega]
    exact h
theorem num_Get64_ok {s : Str} {K : (Int × Bool) → Prop} (h : K (getN s 8)) : num_Get64.F s K := by
  unfold num_Get64.F
  unfold getN at h
  refine cond_ok (fun h1 => ?_) (fun h1 => ?_)
  · rw [if_neg (bne_nat (b := 8) h1)] at h; exact h
  · have h2 := bne_nat' (b := 8) h1
    rw [if_pos h2] at h
    exact num_get_ok (by omega) h
theorem ref01_Get32_ok {s : Str} {K : (Int × Bool) → Prop} (h : K (getN s 4)) : ref01_Get32.F s K := by
  unfold ref01_Get32.F
  refine ref01_get_ok (k := 4) (by decide) ?_
  unfold getN at h
  by_cases h2 : s.length = 4
  · rw [if_pos h2] at h ⊢
    have := unbe_lt 4 s h2
    dsimp only
    rw [show IntKind.u32.wrap (unbe s : Int) = (unbe s : Int) by rw [wrap_u32]; omega]
    exact h
  · rw [if_neg h2] at h ⊢; exact h
theorem ref01_Get64_ok {s : Str} {K : (Int × Bool) → Prop} (h : K (getN s 8)) : ref01_Get64.F s K := by
  unfold ref01_Get64.F
  refine ref01_get_ok (k := 8) (by decide) ?_
  unfold getN at h
  exact h

theorem fits_ok {n : Nat} (h : n ≤ big + 1000) : fits n = true := by
  unfold fits
  have : n ≤ 9223372036854775807 := by unfold big at h; omega
  exact Nat.ble_eq_true_of_le this

def sealV (s : Str) : Str := s ++ be (fnv s) 4
theorem check_Seal_ok {s : Str} (hs : wStr s) {K : Str → Prop} (h : K (sealV s)) : check_Seal.F s K := by
  unfold check_Seal.F
  refine check_Sum_ok hs (num_Put32_ok (fnv_lt s) (gd_ok (fits_ok ?_) h))
  rw [be_length]; unfold wStr at hs; omega
theorem ref02_Seal_ok {s : Str} (hs : wStr s) {K : Str → Prop} (h : K (sealV s)) : ref02_Seal.F s K := by
  unfold ref02_Seal.F
  refine ref02_Sum_ok hs (ref01_Put32_ok (fnv_lt s) (gd_ok (fits_ok ?_) h))
  rw [be_length]; unfold wStr at hs; omega

theorem sealV_length (s : Str) : (sealV s).length = s.length + 4 := by simp [sealV, be_length]
theorem be_inj {a b : Nat} (ha : a < 4294967296) (hb : b < 4294967296) (h : be a 4 = be b 4) : a = b := by
  have h1 := unbe_be 4 a
  have h2 := unbe_be 4 b
  rw [h, h2] at h1
  omega

/-- What Open answers. -/
def openV (s : Str) : Str × Int :=
  if s.length < 4 then ([], 2)
  else if sealV (s.take (s.length - 4)) = s then (s.take (s.length - 4), 0) else ([], 3)

theorem sub_take {s : Str} {n : Nat} : sub s 0 n = s.take n := by simp [sub]
theorem sub_drop {s : Str} {n : Nat} : sub s n s.length = s.drop n := by simp [sub]

theorem check_Open_ok {s : Str} (hs : wStr s) {K : (Str × Int) → Prop} (h : K (openV s)) : check_Open.F s K := by
  unfold check_Open.F
  have hb : s.length ≤ 140737488351232 := hs
  rw [wrap_i64 (x := (s.length : Int) - 4) (by omega)]
  unfold openV at h
  refine cond_ok (fun h1 => ?_) (fun h1 => ?_)
  · have h1 : (s.length : Int) - 4 < 0 := of_decide_eq_true h1
    rw [if_pos (by omega)] at h
    exact h
  · have h1 : ¬ (s.length : Int) - 4 < 0 := of_decide_eq_false h1
    rw [if_neg (by omega)] at h
    have g1 : (decide (0 ≤ (s.length : Int) - 4) && decide ((s.length : Int) - 4 ≤ (s.length : Int))) = true := by
      simp; omega
    have e1 : ((s.length : Int) - 4).toNat = s.length - 4 := by omega
    rw [e1, sub_take, sub_drop]
    refine gd_ok g1 (num_Get32_ok (gd_ok g1 (check_Sum_ok ?_ ?_)))
    · unfold wStr; simp; omega
    · have hd : (s.drop (s.length - 4)).length = 4 := by simp; omega
      have hu : (getN (s.drop (s.length - 4)) 4).1 = (unbe (s.drop (s.length - 4)) : Int) := by
        unfold getN; rw [if_pos hd]
      rw [hu]
      have hsplit : s.take (s.length - 4) ++ s.drop (s.length - 4) = s := List.take_append_drop _ _
      refine cond_ok (fun h2 => ?_) (fun h2 => ?_)
      · have h2 := bne_nat h2
        rw [if_neg ?_] at h
        · exact h
        · intro he
          apply h2
          unfold sealV at he
          have h3 : be (fnv (s.take (s.length - 4))) 4 = s.drop (s.length - 4) := by
            have := he.trans hsplit.symm
            exact List.append_cancel_left this
          rw [← h3, unbe_be]
          have := fnv_lt (s.take (s.length - 4))
          omega
      · have h2 := bne_nat' h2
        rw [if_pos ?_] at h
        · exact gd_ok g1 h
        · unfold sealV
          rw [← h2, be_unbe 4 _ hd, hsplit]

theorem ref02_Open_ok {s : Str} (hs : wStr s) {K : (Str × Int) → Prop} (h : K (openV s)) : ref02_Open.F s K := by
  unfold ref02_Open.F
  have hb : s.length ≤ 140737488351232 := hs
  rw [wrap_i64 (x := (s.length : Int) - 4) (by omega)]
  unfold openV at h
  refine cond_ok (fun h1 => ?_) (fun h1 => ?_)
  · have h1 : (s.length : Int) < 4 := of_decide_eq_true h1
    rw [if_pos (by omega)] at h
    exact h
  · have h1 : ¬ (s.length : Int) < 4 := of_decide_eq_false h1
    rw [if_neg (by omega)] at h
    have g1 : (decide (0 ≤ (s.length : Int) - 4) && decide ((s.length : Int) - 4 ≤ (s.length : Int))) = true := by
      simp; omega
    have e1 : ((s.length : Int) - 4).toNat = s.length - 4 := by omega
    rw [e1, sub_take]
    refine gd_ok g1 (ref02_Seal_ok ?_ ?_)
    · unfold wStr; simp; omega
    · refine cond_ok (fun h2 => ?_) (fun h2 => ?_)
      · rw [if_neg (by simpa using h2)] at h; exact h
      · rw [if_pos (by simpa using h2)] at h; exact h

theorem openV_seal (s : Str) : openV (sealV s) = (s, 0) := by
  unfold openV
  rw [sealV_length, if_neg (by omega)]
  have : (sealV s).take (s.length + 4 - 4) = s := by simp [sealV]
  rw [this, if_pos rfl]
end Gm


/- The laws of the layers 1 and 2 are true. -/
set_option maxRecDepth 100000
namespace Gm
open Go

theorem wStr_of {s : Str} (h : s.length ≤ 1000000) : wStr s := by unfold wStr big; omega

/-! ### One byte changed -/
theorem mul_back {x : Nat} (h : x < 4294967296) : x * 16777619 % 4294967296 * 899433627 % 4294967296 = x := by omega
theorem xor_cancel_r {n m b : Nat} (h : n ^^^ b = m ^^^ b) : n = m := by
  have := congrArg (· ^^^ b) h
  simpa [Nat.xor_assoc] using this
theorem xor_cancel_l {n b c : Nat} (h : n ^^^ b = n ^^^ c) : b = c := by
  rw [Nat.xor_comm n b, Nat.xor_comm n c] at h
  exact xor_cancel_r h
theorem fnvStep_inj_n {n m : Nat} {b : UInt8} (hn : n < 4294967296) (hm : m < 4294967296) (h : fnvStep n b = fnvStep m b) : n = m := by
  unfold fnvStep at h
  have hb := u8_lt b
  have h1 := mul_back (x := n ^^^ b.toNat) (Nat.xor_lt_two_pow (n := 32) hn (by omega))
  have h2 := mul_back (x := m ^^^ b.toNat) (Nat.xor_lt_two_pow (n := 32) hm (by omega))
  rw [h, h2] at h1
  exact (xor_cancel_r h1).symm
theorem fnvStep_inj_b {n : Nat} {b c : UInt8} (hn : n < 4294967296) (h : fnvStep n b = fnvStep n c) : b = c := by
  unfold fnvStep at h
  have hb := u8_lt b
  have hc := u8_lt c
  have h1 := mul_back (x := n ^^^ b.toNat) (Nat.xor_lt_two_pow (n := 32) hn (by omega))
  have h2 := mul_back (x := n ^^^ c.toNat) (Nat.xor_lt_two_pow (n := 32) hn (by omega))
  rw [h, h2] at h1
  exact (UInt8.toNat_inj.1 (xor_cancel_l h1)).symm
theorem fnvStep_lt (n : Nat) (b : UInt8) : fnvStep n b < 4294967296 := by unfold fnvStep; exact Nat.mod_lt _ (by decide)
theorem foldl_inj : ∀ (t : Str) {n m : Nat}, n < 4294967296 → m < 4294967296 → t.foldl fnvStep n = t.foldl fnvStep m → n = m
  | [], _, _, _, _, h => h
  | _ :: t, _, _, hn, hm, h => fnvStep_inj_n hn hm (foldl_inj t (fnvStep_lt _ _) (fnvStep_lt _ _) h)
theorem fnv_one {a t : Str} {b c : UInt8} (h : fnv (a ++ b :: t) = fnv (a ++ c :: t)) : b = c := by
  unfold fnv at h
  rw [List.foldl_append, List.foldl_append, List.foldl_cons, List.foldl_cons] at h
  have ha : a.foldl fnvStep 2166136261 < 4294967296 := fnv_lt a
  exact fnvStep_inj_b ha (foldl_inj t (fnvStep_lt _ _) (fnvStep_lt _ _) h)

theorem set_split {α : Type} {l : List α} {i : Nat} {v : α} (h : i < l.length) : l.set i v = l.take i ++ v :: l.drop (i + 1) := by
  have e : l = l.take i ++ l[i] :: l.drop (i + 1) := by simp
  have h2 := set_mid (l.take i) l[i] v (l.drop (i + 1))
  rw [List.length_take_of_le (by omega)] at h2
  rw [← h2, ← e]

theorem open_changed {s : Str} {i : Nat} {v : UInt8} (hi : i < (sealV s).length) (hv : (sealV s)[i] ≠ v) : openV ((sealV s).set i v) = ([], 3) := by
  unfold openV
  rw [List.length_set, sealV_length, if_neg (by omega), show s.length + 4 - 4 = s.length by omega, if_neg ?_]
  intro h
  by_cases h1 : i < s.length
  · have e1 : (sealV s).set i v = s.set i v ++ be (fnv s) 4 := by unfold sealV; rw [List.set_append_left _ _ h1]
    have e2 : ((sealV s).set i v).take s.length = s.set i v := by
      rw [e1, List.take_append_of_le_length (by simp)]
      exact List.take_of_length_le (by simp)
    rw [e2, e1] at h
    unfold sealV at h
    have h2 := be_inj (fnv_lt _) (fnv_lt _) (List.append_cancel_left h)
    have h3 : fnv (s.take i ++ v :: s.drop (i + 1)) = fnv (s.take i ++ s[i] :: s.drop (i + 1)) := by
      rw [← set_split h1, h2]
      congr 1
      simp
    apply hv
    have h4 := fnv_one h3
    rw [h4]
    simp [sealV, h1]
  · have e1 : ((sealV s).set i v).take s.length = s := by
      unfold sealV
      rw [List.set_append_right _ _ (by omega)]
      simp
    rw [e1] at h
    apply hv
    have h2 : ((sealV s).set i v)[i]? = some v := by rw [List.getElem?_set_self hi]
    rw [← h, List.getElem?_eq_getElem hi] at h2
    exact Option.some.inj h2

theorem bytes_set {l : Str} {i : Nat} {c : Nat} : bytesOfInts ((intsOfBytes l).set i (c : Int)) = l.set i (UInt8.ofNat c) := by
  unfold bytesOfInts
  rw [List.map_set]
  have := ints_bytes l
  unfold bytesOfInts at this
  rw [this]
  simp

/-! ### Numbers -/
theorem unflag_le (b : Nat) (n : Int) : (unflag b n).1.length ≤ big := by
  unfold unflag
  split
  · simp only [unf_length]; unfold big; omega
  · simp

end Gm
