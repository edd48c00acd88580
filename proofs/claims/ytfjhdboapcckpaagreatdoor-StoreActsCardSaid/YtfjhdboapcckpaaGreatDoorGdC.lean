/- Plain laws: what the functions of the layers 1 and 2 answer. -/
import Derived.Test.YtfjhdboapcckpaaGreatDoorGdNv
import Derived.Test.YtfjhdboapcckpaaGreatDoorGdT3
import Derived.KernelRfl
set_option maxRecDepth 100000
namespace Gm
open Go
theorem wStr_i64 {n : Nat} (h : n ≤ big) : IntKind.i64.wrap ((n : Int) + 1) = ((n + 1 : Nat) : Int) := by
  rw [wrap_i64 (by unfold big at h; omega)]; omega
theorem wrap_succ {n : Nat} (h : n ≤ big) : IntKind.i64.wrap ((n : Int) + 1) = ((n + 1 : Nat) : Int) := wStr_i64 h
theorem getI_ok {α : Type} {xs : List α} {i : Nat} (h : i < xs.length) : getI xs (i : Int) = some xs[i] := by
  unfold getI
  rw [if_pos (by omega)]
  simp [h]
theorem take_succ {α : Type} {xs : List α} {i : Nat} (h : i < xs.length) : xs.take (i + 1) = xs.take i ++ [xs[i]] := by
  simp
def fnvStep (n : Nat) (b : UInt8) : Nat := ((n ^^^ b.toNat) * 16777619) % 4294967296
def fnv (s : Str) : Nat := s.foldl fnvStep 2166136261
theorem foldl_snoc {α β : Type} (f : α → β → α) (a : α) (s : List β) (b : β) : (s ++ [b]).foldl f a = f (s.foldl f a) b := by simp
theorem fnv_snoc (s : Str) (b : UInt8) : fnv (s ++ [b]) = fnvStep (fnv s) b := foldl_snoc fnvStep _ s b
theorem fnv_lt (s : Str) : fnv s < 4294967296 := by
  rcases snoc_cases s with rfl | ⟨t, b, rfl⟩
  · simp [fnv]
  · rw [fnv_snoc]; unfold fnvStep; exact Nat.mod_lt _ (by decide)
theorem u8_lt (b : UInt8) : b.toNat < 256 := b.toNat_lt
theorem check_Sum_ok {s : Str} (hs : wStr s) {K : Int → Prop} (h : K (fnv s)) : q11.F s K := by
  unfold q11.F
  refine loop_ok (I := fun x : q11.L0 => ∃ i : Nat, i ≤ s.length ∧ x = ⟨s, fnv (s.take i), s.length, i⟩) (m := fun x : q11.L0 => s.length - x.t7.toNat) ?_ ⟨0, by simp, rfl⟩
  rintro _ ⟨i, hi, rfl⟩ rec hrec
  unfold q11.b0
  dsimp only
  refine cond_ok (fun h1 => ?_) (fun h1 => ?_)
  · have hlt : i < s.length := by simpa using h1
    refine oget_ok (getI_ok hlt) ?_
    have e2 : IntKind.u32.wrap ((s[i].toNat : Nat) : Int) = ((s[i].toNat : Nat) : Int) := by
      have := u8_lt s[i]
      rw [wrap_u32]; omega
    rw [e2, ixor_nat (k := .u32) rfl (fnv_lt _) (Nat.lt_of_lt_of_le (u8_lt _) (by decide)), wrap_succ (by unfold wStr at hs; omega)]
    have e3 : IntKind.u32.wrap (((fnv (s.take i) ^^^ s[i].toNat : Nat) : Int) * 16777619) = (fnv (s.take (i + 1)) : Int) := by
      rw [take_succ hlt, fnv_snoc]
      unfold fnvStep
      rw [wrap_u32]
      omega
    rw [e3]
    exact hrec _ ⟨i + 1, hlt, rfl⟩ (by simp; omega)
  · have hlt : i = s.length := by have : ¬ i < s.length := by simpa using h1
                                  omega
    subst hlt
    simpa using h
theorem ref02_Sum_ok {s : Str} (hs : wStr s) {K : Int → Prop} (h : K (fnv s)) : q29.F s K := by
  unfold q29.F
  refine loop_ok (I := fun x : q29.L0 => ∃ i : Nat, i ≤ s.length ∧ x = ⟨s, fnv (s.take i), i⟩) (m := fun x : q29.L0 => s.length - x.i.toNat) ?_ ⟨0, by simp, rfl⟩
  rintro _ ⟨i, hi, rfl⟩ rec hrec
  unfold q29.b0
  dsimp only
  refine cond_ok (fun h1 => ?_) (fun h1 => ?_)
  · have hlt : i < s.length := by simpa using h1
    refine oget_ok (getI_ok hlt) ?_
    refine cond_f rfl ?_
    have e2 : IntKind.u64.wrap ((s[i].toNat : Nat) : Int) = ((s[i].toNat : Nat) : Int) := by
      have := u8_lt s[i]
      rw [wrap_u64]; omega
    rw [e2, ixor_nat (k := .u64) rfl (Nat.lt_trans (fnv_lt _) (by decide)) (Nat.lt_of_lt_of_le (u8_lt _) (by decide)), wrap_succ (by unfold wStr at hs; omega)]
    have e3 : (IntKind.u64.wrap (((fnv (s.take i) ^^^ s[i].toNat : Nat) : Int) * 16777619)).tmod 4294967296 = (fnv (s.take (i + 1)) : Int) := by
     rw [take_succ hlt, fnv_snoc]
     unfold fnvStep
     have hx : fnv (s.take i) ^^^ s[i].toNat < 2 ^ 32 := Nat.xor_lt_two_pow (fnv_lt _) (Nat.lt_of_lt_of_le (u8_lt _) (by decide))
     generalize fnv (s.take i) ^^^ s[i].toNat = y at *
     rw [wrap_u64, Int.tmod_eq_emod_of_nonneg (by omega)]
     omega
    rw [e3]
    exact hrec _ ⟨i + 1, hlt, rfl⟩ (by simp; omega)
  · have hlt : i = s.length := by have : ¬ i < s.length := by simpa using h1
                                  omega
    subst hlt
    have := fnv_lt s
    have e : IntKind.u32.wrap (fnv (s.take s.length) : Int) = (fnv s : Int) := by
      rw [List.take_length, wrap_u32]; omega
    rw [e]
    exact h
theorem ints_bytes (s : Str) : bytesOfInts (intsOfBytes s) = s := by
  induction s with
  | nil => rfl
  | cons b s ih =>
    have : UInt8.ofNat ((b.toNat : Nat) : Int).toNat = b := by
      apply UInt8.toNat_inj.1; simp
    simp only [bytesOfInts, intsOfBytes, List.map_cons, List.map_map] at ih ⊢
    rw [ih, this]
theorem set_mid {α : Type} (a : List α) (x v : α) (t : List α) : (a ++ x :: t).set a.length v = a ++ v :: t := by
  rw [List.set_append_right _ _ (Nat.le_refl _)]
  simp
theorem num_put_ok {n k : Nat} (hk : k ≤ 8) {K : Str → Prop} (h : K (be n k)) : q67.F n k K := by
  unfold q67.F
  refine gd_ok (by simp [room]; omega) ?_
  refine loop_ok (I := fun x : q67.L0 => ∃ i : Nat, i ≤ k ∧ x = ⟨n, k, List.replicate (k - i) 0 ++ intsOfBytes (be n i), k, i⟩) (m := fun x : q67.L0 => k - x.t11.toNat) ?_ ⟨0, by simp, by simp [be, intsOfBytes]⟩
  rintro _ ⟨i, hi, rfl⟩ rec hrec
  unfold q67.b0
  dsimp only
  refine cond_ok (fun h1 => ?_) (fun h1 => ?_)
  · have hlt : i < k := by simpa using h1
    have e1 : IntKind.i64.wrap (8 * (i : Int)) = ((8 * i : Nat) : Int) := by rw [wrap_i64 (by omega)]; omega
    have e2 : IntKind.i64.wrap (IntKind.i64.wrap ((k : Int) - 1) - i) = ((k - 1 - i : Nat) : Int) := by
      rw [wrap_i64 (x := (k : Int) - 1) (by omega), wrap_i64 (by omega)]; omega
    rw [e1, e2]
    refine gd_ok (by simp; omega) ?_
    refine gd_ok (by simp [intsOfBytes, be_length]; omega) ?_
    rw [wrap_i64 (x := (i : Int) + 1) (by omega)]
    refine hrec _ ⟨i + 1, hlt, ?_⟩ (by simp; omega)
    congr 1
    rw [ishr_nat (k := .u64) n (y := 8 * i) (by show 8 * i ≤ 64; omega)]
    have e3 : List.replicate (k - i) (0 : Int) ++ intsOfBytes (be n i) = List.replicate (k - (i + 1)) 0 ++ (0 : Int) :: intsOfBytes (be n i) := by
      rw [show k - i = k - (i + 1) + 1 by omega, List.replicate_succ', List.append_assoc]
      rfl
    have e4 := set_mid (List.replicate (k - (i + 1)) (0 : Int)) 0 (IntKind.u8.wrap ((n / 2 ^ (8 * i) : Nat) : Int)) (intsOfBytes (be n i))
    rw [List.length_replicate] at e4
    simp only [Int.toNat_natCast]
    rw [e3, show k - 1 - i = k - (i + 1) by omega, e4, be_cons]
    congr 1
    rw [show (intsOfBytes (UInt8.ofNat (n / 256 ^ i) :: be n i)) = ((UInt8.ofNat (n / 256 ^ i)).toNat : Int) :: intsOfBytes (be n i) from rfl]
    congr 1
    rw [wrap_u8, toNat_ofNat, show (256 : Nat) ^ i = 2 ^ (8 * i) by rw [Nat.pow_mul]]
    omega
  · have hlt : i = k := by have : ¬ i < k := by simpa using h1
                           omega
    subst hlt
    rw [Nat.sub_self]
    rw [show List.replicate 0 (0 : Int) ++ intsOfBytes (be n i) = intsOfBytes (be n i) from rfl, ints_bytes]
    exact h
theorem ref01_put_ok {n k : Nat} (hn : n < 2 ^ 64) (hk : k ≤ 8) {K : Str → Prop} (h : K (be n k)) : q26.F n k K := by
  unfold q26.F
  refine loop_ok (I := fun x : q26.L0 => ∃ i : Nat, i ≤ k ∧ x = ⟨((n / 256 ^ i : Nat) : Int), k, be n i, i⟩) (m := fun x : q26.L0 => k - x.i.toNat) ?_ ⟨0, by simp, by simp [be]⟩
  rintro _ ⟨i, hi, rfl⟩ rec hrec
  unfold q26.b0
  dsimp only
  refine cond_ok (fun h1 => ?_) (fun h1 => ?_)
  · have hlt : i < k := by simpa using h1
    refine cond_f rfl ?_
    refine gd_ok (by simp [bytesOfInts, be_length, fits]; omega) ?_
    refine cond_f rfl ?_
    rw [wrap_i64 (x := (i : Int) + 1) (by omega)]
    refine hrec _ ⟨i + 1, hlt, ?_⟩ (by simp; omega)
    congr 1
    · have : n / 256 ^ i < 2 ^ 64 := Nat.lt_of_le_of_lt (Nat.div_le_self _ _) hn
      rw [Nat.pow_succ, ← Nat.div_div_eq_div_mul]
      generalize n / 256 ^ i = y at *
      rw [wrap_u64, Int.tdiv_eq_ediv_of_nonneg (by omega)]
      omega
    · rw [be_cons]
      generalize n / 256 ^ i = y at *
      have : bytesOfInts [IntKind.u8.wrap ((y : Int).tmod 256)] = [UInt8.ofNat y] := by
        simp only [bytesOfInts, List.map_cons, List.map_nil]
        congr 1
        apply UInt8.toNat_inj.1
        rw [toNat_ofNat, toNat_ofNat, wrap_u8, Int.tmod_eq_emod_of_nonneg (by omega)]
        omega
      rw [this]
      rfl
  · have hlt : i = k := by have : ¬ i < k := by simpa using h1
                           omega
    subst hlt
    exact h
theorem unbe_take {s : Str} {i : Nat} (h : i < s.length) : unbe (s.take (i + 1)) = unbe (s.take i) * 256 + s[i].toNat := by
  rw [take_succ h, unbe_snoc]
theorem pow256 {i : Nat} (h : i ≤ 7) : 256 ^ i ≤ 72057594037927936 := by
  have : 256 ^ i ≤ 256 ^ 7 := Nat.pow_le_pow_right (by decide) h
  simpa using this
theorem ref01_get_ok {s : Str} {k : Nat} (hk : k ≤ 8) {K : (Int × Bool) → Prop} (h : K (if s.length = k then (unbe s, true) else (0, false))) : q39.F s k K := by
  unfold q39.F
  refine cond_ok (fun h1 => ?_) (fun h1 => ?_)
  · have hl : ¬ s.length = k := by
      rintro rfl
      simp at h1
    rw [if_neg hl] at h
    exact h
  · have hl : s.length = k := by
      have h2 : (s.length : Int) = k := by
        rcases Bool.eq_false_or_eq_true ((s.length : Int) == k) with h4 | h4
        · exact eq_of_beq h4
        · rw [bne, h4] at h1; cases h1
      omega
    rw [if_pos hl] at h
    subst hl
    refine loop_ok (I := fun x : q39.L0 => ∃ i : Nat, i ≤ s.length ∧ x = ⟨s, s.length, unbe (s.take i), i⟩) (m := fun x : q39.L0 => s.length - x.i.toNat) ?_ ⟨0, by simp, rfl⟩
    rintro _ ⟨i, hi, rfl⟩ rec hrec
    unfold q39.b0
    dsimp only
    refine cond_ok (fun h1 => ?_) (fun h1 => ?_)
    · have hlt : i < s.length := by simpa using h1
      refine oget_ok (getI_ok hlt) ?_
      rw [wrap_i64 (x := (i : Int) + 1) (by omega)]
      refine hrec _ ⟨i + 1, hlt, ?_⟩ (by simp; omega)
      congr 1
      have h2 := unbe_lt i (s.take i) (by simp; omega)
      have h3 := pow256 (i := i) (by omega)
      have h4 := u8_lt s[i]
      rw [unbe_take hlt]
      generalize unbe (s.take i) = y at *
      generalize s[i].toNat = z at *
      simp only [wrap_u64]
      omega
    · have hlt : i = s.length := by have : ¬ i < s.length := by simpa using h1
                                    omega
      subst hlt
      simpa using h
def fv : List Bool → Nat
  | [] => 0
  | b :: r => b.toNat + 2 * fv r
def unf (b n : Nat) : List Bool := (List.range n).map fun i => b / 2 ^ i % 2 == 1
theorem fv_snoc (l : List Bool) (b : Bool) : fv (l ++ [b]) = fv l + 2 ^ l.length * b.toNat := by
  induction l with
  | nil => simp [fv]
  | cons a l ih =>
    simp only [List.cons_append, fv, ih, List.length_cons, Nat.pow_succ]
    rw [Nat.mul_add, ← Nat.mul_assoc, Nat.mul_comm 2 (2 ^ l.length)]
    omega
theorem fv_lt (l : List Bool) : fv l < 2 ^ l.length := by
  induction l with
  | nil => simp [fv]
  | cons a l ih =>
    simp only [fv, List.length_cons, Nat.pow_succ]
    cases a <;> simp <;> omega
theorem unf_length (b n : Nat) : (unf b n).length = n := by simp [unf]
theorem pow2_le {i : Nat} (h : i ≤ 7) : 2 ^ i ≤ 128 := by
  have : 2 ^ i ≤ 2 ^ 7 := Nat.pow_le_pow_right (by decide) h
  simpa using this
theorem num_Flags_ok {l : List Bool} {K : Int → Prop} (h : K (fv (l.take 8))) : q86.F l K := by
  unfold q86.F
  have em : minI (l.length : Int) 8 = ((min l.length 8 : Nat) : Int) := by
    unfold minI; split <;> omega
  rw [em]
  refine gd_ok (by simp; omega) ?_
  have es : sub l 0 (Int.toNat ((min l.length 8 : Nat) : Int)) = l.take 8 := by
    simp only [sub, List.drop_zero, Int.toNat_natCast]
    rw [Nat.min_comm]
    simp
  rw [es]
  have hl8 : (l.take 8).length ≤ 8 := by simp; omega
  generalize l.take 8 = l at *
  refine loop_ok (I := fun x : q86.L0 => ∃ i : Nat, i ≤ l.length ∧ x = ⟨fv (l.take i), l, l.length, i⟩) (m := fun x : q86.L0 => l.length - x.t11.toNat) ?_ ⟨0, by simp, rfl⟩
  rintro _ ⟨i, hi, rfl⟩ rec hrec
  unfold q86.b0
  dsimp only
  refine cond_ok (fun h1 => ?_) (fun h1 => ?_)
  · have hlt : i < l.length := by simpa using h1
    refine oget_ok (getI_ok hlt) ?_
    have h2 := fv_lt (l.take i)
    rw [show (l.take i).length = i by simp; omega] at h2
    have h3 := pow2_le (i := i) (by omega)
    have e0 : fv (l.take (i + 1)) = fv (l.take i) + 2 ^ i * (l[i]).toNat := by
      rw [take_succ hlt, fv_snoc, show (l.take i).length = i by simp; omega]
    refine cond_ok (fun h4 => ?_) (fun h4 => ?_)
    · refine gd_ok (by simp) ?_
      rw [wrap_i64 (x := (i : Int) + 1) (by omega)]
      refine hrec _ ⟨i + 1, hlt, ?_⟩ (by simp; omega)
      congr 1
      have e1 := ishl_nat (k := .u8) rfl 1 (y := i) (by show i ≤ 8; omega)
      rw [show ((1 : Nat) : Int) = 1 from rfl, Nat.one_mul] at e1
      rw [e1, e0, h4]
      have e2 : 2 ^ i % 2 ^ IntKind.u8.bits = 2 ^ i := Nat.mod_eq_of_lt (by show 2 ^ i < 256; omega)
      rw [e2, ior_nat (k := .u8) rfl (by show _ < 256; omega) (by show _ < 256; omega), Nat.or_comm]
      have e3 := Nat.two_pow_add_eq_or_of_lt h2 1
      rw [Nat.mul_one] at e3
      rw [← e3]
      simp; omega
    · rw [wrap_i64 (x := (i : Int) + 1) (by omega)]
      refine hrec _ ⟨i + 1, hlt, ?_⟩ (by simp; omega)
      congr 1
      rw [e0, h4]; simp
  · have hlt : i = l.length := by have : ¬ i < l.length := by simpa using h1
                                  omega
    subst hlt
    simpa using h
theorem ref01_Flags_ok {l : List Bool} {K : Int → Prop} (h : K (fv (l.take 8))) : q25.F l K := by
  unfold q25.F
  refine loop_ok (I := fun x : q25.L0 => ∃ i : Nat, i ≤ l.length ∧ i ≤ 8 ∧ x = ⟨l, fv (l.take i), ((2 ^ i % 256 : Nat) : Int), i⟩) (m := fun x : q25.L0 => l.length - x.i.toNat) ?_ ⟨0, by simp, by simp, rfl⟩
  rintro _ ⟨i, hi, hi8, rfl⟩ rec hrec
  unfold q25.b0
  dsimp only
  have fin : (i = l.length ∨ i = 8) → K (fv (l.take i)) := by
    intro h2
    have : l.take i = l.take 8 := by
      rcases h2 with h2 | h2
      · subst h2; rw [List.take_length, List.take_of_length_le hi8]
      · rw [h2]
    rw [this]; exact h
  refine cond_ok (fun h1 => ?_) (fun h1 => ?_)
  · have hlt : i < l.length := by simpa using h1
    refine cond_ok (fun h0 => ?_) (fun h0 => ?_)
    · have h8 : i < 8 := by
        have : (i : Int) < 8 := of_decide_eq_true h0
        omega
      refine oget_ok (getI_ok hlt) ?_
      have h2 := fv_lt (l.take i)
      rw [show (l.take i).length = i by simp; omega] at h2
      have h3 := pow2_le (i := i) (by omega)
      have e0 : fv (l.take (i + 1)) = fv (l.take i) + 2 ^ i * (l[i]).toNat := by
        rw [take_succ hlt, fv_snoc, show (l.take i).length = i by simp; omega]
      have ep : IntKind.u8.wrap (((2 ^ i % 256 : Nat) : Int) * 2) = ((2 ^ (i + 1) % 256 : Nat) : Int) := by
        rw [wrap_u8, Nat.pow_succ]; omega
      have ew : IntKind.i64.wrap ((i : Int) + 1) = ((i + 1 : Nat) : Int) := by rw [wrap_i64 (by omega)]; omega
      rw [ep, ew]
      refine cond_ok (fun h4 => ?_) (fun h4 => ?_)
      · refine hrec _ ⟨i + 1, hlt, h8, ?_⟩ (by simp; omega)
        congr 1
        rw [e0, h4, wrap_u8]
        have h5 : fv (l.take i) + 2 ^ i < 256 := by omega
        have h6 : 2 ^ i % 256 = 2 ^ i := Nat.mod_eq_of_lt (by omega)
        rw [h6]
        simp only [Bool.toNat_true, Nat.mul_one]
        clear e0 ep ew h fin hrec
        generalize 2 ^ i = y at *
        omega
      · refine hrec _ ⟨i + 1, hlt, h8, ?_⟩ (by simp; omega)
        congr 1
        rw [e0, h4]; simp
    · have : ¬ ((i : Int) < 8) := of_decide_eq_false h0
      exact fin (.inr (by omega))
  · have hlt : i = l.length := by have : ¬ i < l.length := by simpa using h1
                                  omega
    exact fin (.inl hlt)
theorem unf_take (b i : Nat) : unf b (i + 1) = unf b i ++ [b / 2 ^ i % 2 == 1] := by
  unfold unf
  rw [List.range_succ, List.map_append]
  rfl
def unflag (b : Nat) (n : Int) : List Bool × Bool := if 0 ≤ n ∧ n ≤ 8 ∧ b / 2 ^ n.toNat = 0 then (unf b n.toNat, true) else ([], false)
theorem ref01_Unflag_ok {b : Nat} (hb : b < 256) {n : Int} {K : (List Bool × Bool) → Prop} (h : K (unflag b n)) : q38.F b n K := by
  unfold q38.F
  unfold unflag at h
  refine cond_ok (fun h1 => ?_) (fun h1 => ?_)
  · have h1 : n < 0 := of_decide_eq_true h1
    rw [if_neg (by omega)] at h
    exact h
  have h1 : ¬ n < 0 := of_decide_eq_false h1
  refine cond_ok (fun h2 => ?_) (fun h2 => ?_)
  · have h2 : n > 8 := of_decide_eq_true h2
    rw [if_neg (by omega)] at h
    exact h
  have h2 : ¬ n > 8 := of_decide_eq_false h2
  obtain ⟨k, rfl⟩ : ∃ k : Nat, n = k := ⟨n.toNat, by omega⟩
  simp only [Int.toNat_natCast] at h ⊢
  refine loop_ok (I := fun x : q38.L0 => ∃ i : Nat, i ≤ k ∧ x = ⟨((b / 2 ^ i : Nat) : Int), k, unf b i, i⟩) (m := fun x : q38.L0 => k - x.i.toNat) ?_ ⟨0, by simp, by simp [unf]⟩
  rintro _ ⟨i, hi, rfl⟩ rec hrec
  unfold q38.b0
  dsimp only
  refine cond_ok (fun h4 => ?_) (fun h4 => ?_)
  · have hlt : i < k := by simpa using h4
    refine cond_f rfl ?_
    refine gd_ok (by simp [unf, room]; omega) ?_
    refine cond_f rfl ?_
    rw [wrap_i64 (x := (i : Int) + 1) (by omega)]
    have hq : b / 2 ^ i < 256 := Nat.lt_of_le_of_lt (Nat.div_le_self _ _) hb
    refine hrec _ ⟨i + 1, hlt, ?_⟩ (by simp; omega)
    congr 1
    · rw [Nat.pow_succ, ← Nat.div_div_eq_div_mul]
      clear hrec
      generalize b / 2 ^ i = y at *
      rw [wrap_u8, Int.tdiv_eq_ediv_of_nonneg (by omega)]
      omega
    · rw [unf_take b i]
      clear hrec
      generalize b / 2 ^ i = y at *
      rw [Int.tmod_eq_emod_of_nonneg (by omega)]
      congr 2
      rcases Nat.mod_two_eq_zero_or_one y with h5 | h5 <;> rw [h5]
      · rw [show (y : Int) % 2 = 0 by omega]; rfl
      · rw [show (y : Int) % 2 = 1 by omega]; rfl
  · have hlt : i = k := by have : ¬ i < k := by simpa using h4
                           omega
    subst hlt
    refine cond_ok (fun h5 => ?_) (fun h5 => ?_)
    · have h5 : ((b / 2 ^ i : Nat) : Int) > 0 := of_decide_eq_true h5
      rw [if_neg (by omega)] at h
      exact h
    · have h5 : ¬ ((b / 2 ^ i : Nat) : Int) > 0 := of_decide_eq_false h5
      have h6 : b / 2 ^ i = 0 := by
        revert h5
        generalize b / 2 ^ i = y
        intro h5
        omega
      rw [if_pos ⟨by omega, by omega, h6⟩] at h
      exact h
end Gm
namespace Gm
open Go
theorem num_Put32_ok {n : Nat} (hn : n < 2 ^ 32) {K : Str → Prop} (h : K (be n 4)) : q68.F n K := by
  unfold q68.F q68.FV
  rw [show IntKind.u64.wrap (n : Int) = (n : Int) by rw [wrap_u64]; omega]
  exact num_put_ok (k := 4) (by decide) h
theorem ref01_Put32_ok {n : Nat} (hn : n < 2 ^ 32) {K : Str → Prop} (h : K (be n 4)) : q30.F n K := by
  unfold q30.F q30.FV
  rw [show IntKind.u64.wrap (n : Int) = (n : Int) by rw [wrap_u64]; omega]
  exact ref01_put_ok (k := 4) (by omega) (by decide) h
theorem num_Put64_ok {n : Nat} {K : Str → Prop} (h : K (be n 8)) : q87.F n K := num_put_ok (k := 8) (by decide) h
theorem ref01_Put64_ok {n : Nat} (hn : n < 2 ^ 64) {K : Str → Prop} (h : K (be n 8)) : q27.F n K := ref01_put_ok (k := 8) hn (by decide) h
def getN (s : Str) (k : Nat) : Int × Bool := if s.length = k then ((unbe s : Int), true) else (0, false)
theorem bne_nat {a b : Nat} (h : ((a : Int) != (b : Int)) = true) : a ≠ b := by
  rintro rfl; simp at h
theorem bne_nat' {a b : Nat} (h : ((a : Int) != (b : Int)) = false) : a = b := by
  rcases Bool.eq_false_or_eq_true ((a : Int) == b) with h4 | h4
  · have := eq_of_beq h4; omega
  · rw [bne, h4] at h; cases h
theorem ref01_Get32_ok {s : Str} {K : (Int × Bool) → Prop} (h : K (getN s 4)) : q45.F s K := by
  unfold q45.F q45.FV
  refine ref01_get_ok (k := 4) (by decide) ?_
  unfold getN at h
  by_cases h2 : s.length = 4
  · rw [if_pos h2] at h ⊢
    have := unbe_lt 4 s h2
    dsimp only
    rw [show IntKind.u32.wrap (unbe s : Int) = (unbe s : Int) by rw [wrap_u32]; omega]
    exact h
  · rw [if_neg h2] at h ⊢; exact h
theorem ref01_Get64_ok {s : Str} {K : (Int × Bool) → Prop} (h : K (getN s 8)) : q40.F s K := by
  unfold q40.F q40.FV
  refine ref01_get_ok (k := 8) (by decide) ?_
  unfold getN at h
  exact h
theorem fits_ok {n : Nat} (h : n ≤ big + 1000) : fits n = true := by
  unfold fits
  have : n ≤ 9223372036854775807 := by unfold big at h; omega
  exact Nat.ble_eq_true_of_le this
def sealV (s : Str) : Str := s ++ be (fnv s) 4
theorem check_Seal_ok {s : Str} (hs : wStr s) {K : Str → Prop} (h : K (sealV s)) : q69.F s K := by
  unfold q69.F q69.FV
  refine check_Sum_ok hs (num_Put32_ok (fnv_lt s) (gd_ok (fits_ok ?_) h))
  rw [be_length]; unfold wStr at hs; omega
theorem ref02_Seal_ok {s : Str} (hs : wStr s) {K : Str → Prop} (h : K (sealV s)) : q31.F s K := by
  unfold q31.F q31.FV
  refine ref02_Sum_ok hs (ref01_Put32_ok (fnv_lt s) (gd_ok (fits_ok ?_) h))
  rw [be_length]; unfold wStr at hs; omega
theorem sealV_length (s : Str) : (sealV s).length = s.length + 4 := by simp [sealV, be_length]
def openV (s : Str) : Str × Int :=
  if s.length < 4 then ([], 2)
  else if sealV (s.take (s.length - 4)) = s then (s.take (s.length - 4), 0) else ([], 3)
theorem sub_take {s : Str} {n : Nat} : sub s 0 n = s.take n := by simp [sub]
theorem sub_drop {s : Str} {n : Nat} : sub s n s.length = s.drop n := by simp [sub]
theorem ref02_Open_ok {s : Str} (hs : wStr s) {K : (Str × Int) → Prop} (h : K (openV s)) : q37.F s K := by
  unfold q37.F q37.FV
  have hb : s.length ≤ 140737488351232 := hs
  rw [wrap_i64 (x := (s.length : Int) - 4) (by omega)]
  unfold openV at h
  refine cond_ok (fun h1 => ?_) (fun h1 => ?_)
  · have h1 : (s.length : Int) < 4 := of_decide_eq_true h1
    rw [if_pos (by omega)] at h
    exact h
  · have h1 : ¬ (s.length : Int) < 4 := of_decide_eq_false h1
    rw [if_neg (by omega)] at h
    have g1 : (decide (0 ≤ (s.length : Int) - 4) && decide ((s.length : Int) - 4 ≤ (s.length : Int))) = true := by
      simp; omega
    have e1 : ((s.length : Int) - 4).toNat = s.length - 4 := by omega
    rw [e1, sub_take]
    refine gd_ok g1 (ref02_Seal_ok ?_ ?_)
    · unfold wStr; simp; omega
    · refine cond_ok (fun h2 => ?_) (fun h2 => ?_)
      · rw [if_neg (by simpa using h2)] at h; exact h
      · rw [if_pos (by simpa using h2)] at h; exact h
theorem openV_seal (s : Str) : openV (sealV s) = (s, 0) := by
  unfold openV
  rw [sealV_length, if_neg (by omega)]
  have : (sealV s).take (s.length + 4 - 4) = s := by simp [sealV]
  rw [this, if_pos rfl]
end Gm

set_option maxRecDepth 100000
namespace Gm
open Go
theorem wStr_of {s : Str} (h : s.length ≤ 1000000) : wStr s := by unfold wStr big; omega
end Gm

namespace Gm
open Go
end Gm

set_option maxRecDepth 100000
namespace Gm
open Go
theorem wrap_lt {n m : Nat} (h : n < m) (hm : m ≤ big) : IntKind.i64.wrap ((n : Int) + 1) = ((n + 1 : Nat) : Int) := wrap_succ (by omega)
theorem lt_of_dec {a b : Nat} (h : decide ((a : Int) < (b : Int)) = true) : a < b := by simpa using h
theorem le_of_dec {a b : Nat} (h : decide ((a : Int) < (b : Int)) = false) (hab : a ≤ b) : a = b := by
  have : ¬ a < b := by simpa using h
  omega
end Gm

set_option maxRecDepth 100000
namespace Gm
open Go
theorem fit_ok {n : Nat} (h : n ≤ 70368744177664) : decide (n ≤ room) = true := decide_eq_true h
def armV (d : Disk) (n : Int) : Disk := ⟨d.sure, d.cache, maxI2 n 0, d.dead⟩
def crashV (d : Disk) : Disk := ⟨d.sure, d.cache, 0, true⟩
def settleV (sure : List Str) (ws : List Write) : List Str := ws.foldl (fun s w => s.set w.sector.toNat w.data) sure
def keptW : List Write → List Bool → List Write
  | w :: ws, k :: ks => if k = true then w :: keptW ws ks else keptW ws ks
  | _, _ => []
def reviveV (d : Disk) (keeps : List Bool) : Disk := ⟨settleV d.sure (keptW d.cache keeps), [], 0, false⟩
def InR (n : Nat) (ws : List Write) : Prop := ∀ w ∈ ws, 0 ≤ w.sector ∧ w.sector < n
theorem settleV_length : ∀ (ws : List Write) (s : List Str), (settleV s ws).length = s.length
  | [], _ => rfl
  | w :: ws, s => by
    unfold settleV
    rw [List.foldl_cons]
    have := settleV_length ws (s.set w.sector.toNat w.data)
    unfold settleV at this
    rw [this]; simp
theorem kept_sub : ∀ (ws : List Write) (ks : List Bool), ∀ w ∈ keptW ws ks, w ∈ ws
  | [], _, w, h => by simp [keptW] at h
  | a :: ws, [], w, h => by simp [keptW] at h
  | a :: ws, k :: ks, w, h => by
    unfold keptW at h
    split at h
    · rcases List.mem_cons.1 h with rfl | h
      · simp
      · exact List.mem_cons_of_mem _ (kept_sub ws ks w h)
    · exact List.mem_cons_of_mem _ (kept_sub ws ks w h)
theorem drop_cons {α : Type} {xs : List α} {i : Nat} (h : i < xs.length) : xs.drop i = xs[i] :: xs.drop (i + 1) := by simp
theorem disk_settle_ok {sure : List Str} {ws : List Write} (h1 : sure.length ≤ 1000000) (h2 : ws.length ≤ 1000000) (hr : InR sure.length ws) {K : List Str → Prop} (h : K (settleV sure ws)) : q75.F sure ws K := by
  unfold q75.F
  refine gd_ok (fit_ok (by omega)) ?_
  refine loop_ok (I := fun x : q75.L0 => ∃ (i : Nat) (s : List Str), i ≤ ws.length ∧ s.length = sure.length ∧ settleV s (ws.drop i) = settleV sure ws ∧ x = ⟨s, ws, ws.length, i⟩) (m := fun x : q75.L0 => ws.length - x.t11.toNat) ?_ ⟨0, sure, by simp, rfl, by simp, rfl⟩
  rintro _ ⟨i, s, hi, hs, he, rfl⟩ rec hrec
  unfold q75.b0
  dsimp only
  refine cond_ok (fun h4 => ?_) (fun h4 => ?_)
  · have hlt := lt_of_dec h4
    have hw := hr _ (List.getElem_mem hlt)
    refine oget_ok (getI_ok hlt) (gd_ok (by simp; omega) ?_)
    rw [wrap_succ (by unfold big; omega)]
    refine hrec _ ⟨i + 1, _, hlt, by simp [hs], ?_, rfl⟩ (by simp; omega)
    rw [← he, drop_cons hlt]
    rfl
  · have e := le_of_dec h4 hi
    subst e
    rw [List.drop_length] at he
    rw [← he] at h
    exact h
theorem ref04_Revive_ok {d : Disk} {keeps : List Bool} (h1 : d.sure.length ≤ 1000000) (h2 : d.cache.length ≤ 1000000) (hr : InR d.sure.length d.cache) {K : Disk → Prop} (h : K (reviveV d keeps)) : q82.F d keeps K := by
  unfold q82.F
  refine gd_ok (fit_ok (by omega)) ?_
  refine loop_ok (I := fun x : q82.L0 => ∃ (i : Nat) (s : List Str), i ≤ d.cache.length ∧ i ≤ keeps.length ∧ s.length = d.sure.length ∧ settleV s (keptW (d.cache.drop i) (keeps.drop i)) = settleV d.sure (keptW d.cache keeps) ∧ x = ⟨keeps, s, i, d, ⟨[], [], 0, false⟩⟩) (m := fun x : q82.L0 => d.cache.length - x.i.toNat) ?_ ⟨0, d.sure, by simp, by simp, rfl, by simp, rfl⟩
  rintro _ ⟨i, s, hi, hk, hs, he, rfl⟩ rec hrec
  unfold q82.b0
  dsimp only
  have fin : keptW (d.cache.drop i) (keeps.drop i) = [] → K ⟨s, [], 0, false⟩ := by
    intro e
    rw [e] at he
    unfold reviveV at h
    rw [← he] at h
    exact h
  refine cond_ok (fun h4 => ?_) (fun h4 => ?_)
  · have hlt := lt_of_dec h4
    refine cond_ok (fun h5 => ?_) (fun h5 => ?_)
    · have hlk := lt_of_dec h5
      have hw := hr _ (List.getElem_mem hlt)
      rw [wrap_succ (by unfold big; omega)]
      refine oget_ok (getI_ok hlk) (cond_ok (fun h6 => ?_) (fun h6 => ?_))
      · refine oget_ok (getI_ok hlt) (oget_ok (getI_ok hlt) (gd_ok (by simp; omega) ?_))
        refine hrec _ ⟨i + 1, _, hlt, hlk, by simp [hs], ?_, rfl⟩ (by simp; omega)
        rw [← he, drop_cons hlt, drop_cons hlk, keptW, if_pos h6]
        rfl
      · refine hrec _ ⟨i + 1, _, hlt, hlk, hs, ?_, rfl⟩ (by simp; omega)
        rw [← he, drop_cons hlt, drop_cons hlk, keptW, if_neg (by simp [h6])]
    · have e := le_of_dec h5 hk
      subst e
      refine fin ?_
      rw [List.drop_length]
      cases d.cache.drop keeps.length <;> rfl
  · have e := le_of_dec h4 hi
    refine fin ?_
    rw [e, List.drop_length]
    rfl
def writeV (d : Disk) (i : Int) (data : Str) : Disk × Int :=
  if d.dead = true then (d, 6) else if ¬ (0 ≤ i ∧ i < d.sure.length) then (d, 4) else if data.length > 64 then (d, 5)
  else if d.fuse = 0 then (⟨d.sure, d.cache ++ [⟨i, data⟩], 0, false⟩, 0) else if d.fuse = 1 then (crashV d, 6) else (⟨d.sure, d.cache ++ [⟨i, data⟩], d.fuse - 1, false⟩, 0)
def flushV (d : Disk) : Disk × Int :=
  if d.dead = true then (d, 6) else if d.fuse = 0 then (⟨settleV d.sure d.cache, [], 0, false⟩, 0) else if d.fuse = 1 then (crashV d, 6) else (⟨settleV d.sure d.cache, [], d.fuse - 1, false⟩, 0)
theorem fuse_wrap {n : Int} (h : inK .i64 n) (h0 : 0 ≤ n) : IntKind.i64.wrap (n - 1) = n - 1 := by
  have h : -9223372036854775808 ≤ n ∧ n ≤ 9223372036854775807 := h
  exact wrap_i64 (by omega)
theorem disk_there_ok {d : Disk} {i : Int} {K : Bool → Prop} (h : K (decide (0 ≤ i ∧ i < d.sure.length))) : q70.F d i K := by
  unfold q70.F
  refine cond_ok (fun h1 => ?_) (fun h1 => ?_)
  · have h1 : i ≥ 0 := of_decide_eq_true h1
    rw [show decide (0 ≤ i ∧ i < (d.sure.length : Int)) = decide (i < (d.sure.length : Int)) by simp; omega] at h
    exact h
  · have h1 : ¬ i ≥ 0 := of_decide_eq_false h1
    rw [show decide (0 ≤ i ∧ i < (d.sure.length : Int)) = false by simp; omega] at h
    exact h
theorem disk_Write_ok {d : Disk} {i : Int} {data : Str} (hc : d.cache.length ≤ 1000000) (hf : inK .i64 d.fuse) (h0 : 0 ≤ d.fuse) {K : (Disk × Int) → Prop} (h : K (writeV d i data)) : q73.F d i data K := by
  unfold q73.F q73.FV
  unfold writeV at h
  refine cond_ok (fun h1 => ?_) (fun h1 => ?_)
  · rw [if_pos h1] at h; exact h
  rw [if_neg (by simp [h1])] at h
  refine disk_there_ok (cond_ok (fun h2 => ?_) (fun h2 => ?_))
  · have h2 : ¬ (0 ≤ i ∧ i < (d.sure.length : Int)) := by
      intro hh
      rw [decide_eq_true hh] at h2
      cases h2
    rw [if_pos h2] at h; exact h
  have h2 : 0 ≤ i ∧ i < (d.sure.length : Int) := by simpa using h2
  rw [if_neg (fun hn => hn h2)] at h
  unfold q71.F
  refine cond_ok (fun h3 => ?_) (fun h3 => ?_)
  · have h3 : (data.length : Int) > 64 := of_decide_eq_true h3
    rw [if_pos (by omega)] at h; exact h
  have h3 : ¬ (data.length : Int) > 64 := of_decide_eq_false h3
  rw [if_neg (by omega)] at h
  have es : sub d.cache 0 (Int.toNat (d.cache.length : Int)) = d.cache := by simp [sub]
  refine cond_ok (fun h4 => ?_) (fun h4 => ?_)
  · have h4 : d.fuse = 0 := by simpa using h4
    rw [if_pos h4] at h
    refine gd_ok (fit_ok (by omega)) (gd_ok (by simp) (gd_ok (fit_ok (by rw [es]; simp; omega)) ?_))
    rw [es, h4, h1]
    exact h
  have h4 : d.fuse ≠ 0 := by simpa using h4
  rw [if_neg h4] at h
  refine cond_ok (fun h5 => ?_) (fun h5 => ?_)
  · have h5 : d.fuse = 1 := by simpa using h5
    rw [if_pos h5] at h
    exact h
  have h5 : d.fuse ≠ 1 := by simpa using h5
  rw [if_neg h5] at h
  refine gd_ok (fit_ok (by omega)) (gd_ok (by simp) (gd_ok (fit_ok (by rw [es]; simp; omega)) ?_))
  rw [es, fuse_wrap hf h0, h1]
  exact h
theorem disk_Flush_ok {d : Disk} (h1 : d.sure.length ≤ 1000000) (hc : d.cache.length ≤ 1000000) (hr : InR d.sure.length d.cache) (hf : inK .i64 d.fuse) (h0 : 0 ≤ d.fuse) {K : (Disk × Int) → Prop} (h : K (flushV d)) : q76.F d K := by
  unfold q76.F q76.FV
  unfold flushV at h
  refine cond_ok (fun h2 => ?_) (fun h2 => ?_)
  · rw [if_pos h2] at h; exact h
  rw [if_neg (by simp [h2])] at h
  refine cond_ok (fun h4 => ?_) (fun h4 => ?_)
  · have h4 : d.fuse = 0 := by simpa using h4
    rw [if_pos h4] at h
    refine disk_settle_ok h1 hc hr ?_
    rw [h4, h2]
    exact h
  have h4 : d.fuse ≠ 0 := by simpa using h4
  rw [if_neg h4] at h
  refine cond_ok (fun h5 => ?_) (fun h5 => ?_)
  · have h5 : d.fuse = 1 := by simpa using h5
    rw [if_pos h5] at h
    exact h
  have h5 : d.fuse ≠ 1 := by simpa using h5
  rw [if_neg h5] at h
  refine disk_settle_ok h1 hc hr ?_
  rw [fuse_wrap hf h0, h2]
  exact h
end Gm

set_option maxRecDepth 100000
namespace Gm
open Go
theorem in0 : inK .i64 0 := ⟨by decide, by decide⟩
theorem ref04_Crash_ok {d : Disk} {K : Disk → Prop} (h : K (crashV d)) : q81.F d K := h
theorem ref04_Arm_ok {d : Disk} {n : Int} {K : Disk → Prop} (h : K (armV d n)) : q99.F d n K := h
theorem settle_get : ∀ (ws : List Write) (s : List Str) (i : Nat) (v : Str), (settleV s ws)[i]? = some v → s[i]? = some v ∨ ∃ w ∈ ws, w.sector.toNat = i ∧ w.data = v
  | [], s, i, v, h => .inl h
  | w :: ws, s, i, v, h => by
    have h : (settleV (s.set w.sector.toNat w.data) ws)[i]? = some v := h
    rcases settle_get ws _ i v h with h | ⟨w', hw, h1, h2⟩
    · by_cases e : w.sector.toNat = i
      · by_cases hl : i < s.length
        · rw [e, List.getElem?_set_self hl] at h
          exact .inr ⟨w, by simp, e, Option.some.inj h⟩
        · rw [List.getElem?_eq_none (by simp; omega)] at h
          cases h
      · rw [List.getElem?_set_ne e] at h
        exact .inl h
    · exact .inr ⟨w', List.mem_cons_of_mem _ hw, h1, h2⟩
theorem settle_holds : ∀ (ws : List Write) (s : List Str) (i : Nat) (hi : i < s.length), InR s.length ws → (settleV s ws)[i]? = some (holds s[i] ws i)
  | [], s, i, hi, _ => by simp [settleV, holds, hi]
  | w :: ws, s, i, hi, hr => by
    have hw := hr w (by simp)
    have ih := settle_holds ws (s.set w.sector.toNat w.data) i (by simpa using hi) (fun w' h => by
      have := hr w' (List.mem_cons_of_mem _ h)
      simpa using this)
    have e : settleV s (w :: ws) = settleV (s.set w.sector.toNat w.data) ws := rfl
    rw [e, ih]
    unfold holds
    rw [List.foldl_cons]
    congr 2
    rw [List.getElem_set]
    by_cases h : w.sector = (i : Int)
    · rw [if_pos h, if_pos (by omega)]
    · rw [if_neg h, if_neg (by omega)]
end Gm

set_option maxRecDepth 100000
namespace Gm
open Go
def maskR (m blocks : Int) : Bool := decide (1 ≤ blocks ∧ blocks ≤ 32 ∧ m < 2 ^ blocks.toNat)
theorem iandn_zero {m b : Nat} (hm : m < 2 ^ 32) : (iandn .u32 (m : Int) ((2 ^ b - 1 : Nat) : Int) == 0) = decide (m < 2 ^ b) := by
  unfold iandn
  rw [ofInt_nat, ofInt_nat, wrap_nat rfl]
  show ((((BitVec.ofNat 32 m &&& ~~~BitVec.ofNat 32 (2 ^ b - 1)).toNat % 2 ^ 32 : Nat) : Int) == 0) = _
  rw [Nat.mod_eq_of_lt (BitVec.isLt _)]
  have bit : ∀ i, (BitVec.ofNat 32 m &&& ~~~BitVec.ofNat 32 (2 ^ b - 1)).toNat.testBit i = (m.testBit i && (decide (i < 32) && !decide (i < b))) := by
    intro i
    rw [BitVec.testBit_toNat, BitVec.getLsbD_and, BitVec.getLsbD_not, BitVec.getLsbD_ofNat, BitVec.getLsbD_ofNat, Nat.testBit_two_pow_sub_one]
    by_cases hi : i < 32 <;> simp [hi]
  rw [Bool.eq_iff_iff]
  simp only [beq_iff_eq, decide_eq_true_eq]
  constructor
  · intro h
    have h0 : (BitVec.ofNat 32 m &&& ~~~BitVec.ofNat 32 (2 ^ b - 1)).toNat = 0 := by omega
    apply Nat.lt_pow_two_of_testBit
    intro i hi
    have := bit i
    rw [h0, Nat.zero_testBit] at this
    by_cases h32 : i < 32
    · simpa [h32, show ¬ i < b by omega] using this.symm
    · exact Nat.testBit_lt_two_pow (Nat.lt_of_lt_of_le hm (Nat.pow_le_pow_right (by decide) (by omega)))
  · intro h
    have h0 : (BitVec.ofNat 32 m &&& ~~~BitVec.ofNat 32 (2 ^ b - 1)).toNat = 0 := by
      apply Nat.eq_of_testBit_eq
      intro i
      rw [bit, Nat.zero_testBit]
      by_cases hb : i < b
      · simp [hb]
      · rw [Nat.testBit_lt_two_pow (Nat.lt_of_lt_of_le h (Nat.pow_le_pow_right (by decide) (by omega)))]
        simp
    omega
theorem mask_there_ok {i : Int} {K : Bool → Prop} (h : K (decide (0 ≤ i ∧ i < 32))) : q19.F i K := by
  unfold q19.F
  refine cond_ok (fun h1 => ?_) (fun h1 => ?_)
  · have h1 : i ≥ 0 := of_decide_eq_true h1
    rw [show decide (0 ≤ i ∧ i < 32) = decide (i < 32) by simp; omega] at h
    exact h
  · have h1 : ¬ i ≥ 0 := of_decide_eq_false h1
    rw [show decide (0 ≤ i ∧ i < 32) = false by simp; omega] at h
    exact h
theorem mask_All_ok {b : Nat} (h1 : 1 ≤ b) (h2 : b ≤ 32) {K : Int → Prop} (h : K ((2 ^ b - 1 : Nat) : Int)) : q20.F b K := by
  unfold q20.F q20.FV
  rw [wrap_i64 (x := (b : Int) - 1) (by omega)]
  refine mask_there_ok ?_
  rw [show decide (0 ≤ (b : Int) - 1 ∧ (b : Int) - 1 < 32) = true by simp; omega]
  refine cond_f rfl (gd_ok (by simp) ?_)
  have e := ishl_nat (k := .u32) rfl 1 (y := b) h2
  rw [show ((1 : Nat) : Int) = 1 from rfl, Nat.one_mul] at e
  rw [e]
  have e2 : IntKind.u32.wrap (((2 ^ b % 2 ^ IntKind.u32.bits : Nat) : Int) - 1) = ((2 ^ b - 1 : Nat) : Int) := by
    show IntKind.u32.wrap (((2 ^ b % 4294967296 : Nat) : Int) - 1) = _
    have hp : 1 ≤ 2 ^ b := Nat.one_le_two_pow
    rw [wrap_u32]
    by_cases hb : b = 32
    · subst hb; rfl
    · have : 2 ^ b ≤ 2 ^ 31 := Nat.pow_le_pow_right (by decide) (by omega)
      omega
  rw [e2]
  exact h
theorem mask_Right_ok {m blocks : Int} (hm : inK .u32 m) (hb : inK .i64 blocks) {K : Bool → Prop} (h : K (maskR m blocks)) : q57.F m blocks K := by
  unfold q57.F q57.FV
  have hm : 0 ≤ m ∧ m ≤ 4294967295 := hm
  have hb : -9223372036854775808 ≤ blocks ∧ blocks ≤ 9223372036854775807 := hb
  obtain ⟨m, rfl⟩ : ∃ n : Nat, m = n := ⟨m.toNat, by omega⟩
  refine mask_there_ok ?_
  by_cases h1 : 1 ≤ blocks ∧ blocks ≤ 32
  · obtain ⟨b, rfl⟩ : ∃ n : Nat, blocks = n := ⟨blocks.toNat, by omega⟩
    rw [wrap_i64 (x := (b : Int) - 1) (by omega), show decide (0 ≤ (b : Int) - 1 ∧ (b : Int) - 1 < 32) = true by simp; omega]
    refine cond_t rfl (mask_All_ok (by omega) (by omega) ?_)
    rw [iandn_zero (by omega)]
    have : maskR m b = decide (m < 2 ^ b) := by
      unfold maskR
      rw [Int.toNat_natCast]
      have e : ((2 : Int) ^ b) = ((2 ^ b : Nat) : Int) := by simp
      rw [e]
      simp only [decide_eq_decide]
      omega
    rw [this] at h
    exact h
  · have e : decide (0 ≤ IntKind.i64.wrap (blocks - 1) ∧ IntKind.i64.wrap (blocks - 1) < 32) = false := by
      simp only [decide_eq_false_iff_not]
      by_cases h2 : blocks = -9223372036854775808
      · subst h2; decide
      · rw [wrap_i64 (by omega)]; omega
    rw [e]
    have : maskR m blocks = false := by unfold maskR; simp only [decide_eq_false_iff_not]; omega
    rw [this] at h
    exact cond_f rfl h
theorem ref03_pow_ok {i : Nat} (hi : i ≤ 31) {K : Int → Prop} (h : K ((2 ^ i : Nat) : Int)) : q46.F i K := by
  unfold q46.F
  refine loop_ok (I := fun x : q46.L0 => ∃ j : Nat, j ≤ i ∧ x = ⟨i, ((2 ^ j : Nat) : Int), j⟩) (m := fun x : q46.L0 => i - x.i.toNat) ?_ ⟨0, by simp, rfl⟩
  rintro _ ⟨j, hj, rfl⟩ rec hrec
  unfold q46.b0
  dsimp only
  refine cond_ok (fun h1 => ?_) (fun h1 => ?_)
  · have hlt : j < i := by simpa using h1
    rw [wrap_i64 (x := (j : Int) + 1) (by omega)]
    refine hrec _ ⟨j + 1, hlt, ?_⟩ (by simp; omega)
    congr 1
    have : 2 ^ j ≤ 2 ^ 30 := Nat.pow_le_pow_right (by decide) (by omega)
    rw [wrap_u32, Nat.pow_succ]
    omega
  · have hlt : j = i := by have : ¬ j < i := by simpa using h1
                           omega
    subst hlt
    exact h
theorem ref03_Has_ok {m i : Nat} (hm : m < 2 ^ 32) (hi : i ≤ 31) {K : Bool → Prop} (h : K (m.testBit i)) : q47.F m i K := by
  unfold q47.F q47.FV
  refine cond_t (by simp) (cond_t (by simp; omega) (ref03_pow_ok hi (cond_f ?_ (cond_f rfl ?_))))
  · have := Nat.two_pow_pos i
    have h1 : (((2 ^ i : Nat) : Int) == 0) = false := by
      rw [beq_eq_false_iff_ne]
      generalize 2 ^ i = y at *
      omega
    exact h1
  · have hq : m / 2 ^ i < 2 ^ 32 := Nat.lt_of_le_of_lt (Nat.div_le_self _ _) hm
    have e1 : IntKind.u32.wrap ((m : Int).tdiv ((2 ^ i : Nat) : Int)) = ((m / 2 ^ i : Nat) : Int) := by
      rw [Int.tdiv_eq_ediv_of_nonneg (by omega), wrap_u32, show (m : Int) / ((2 ^ i : Nat) : Int) = ((m / 2 ^ i : Nat) : Int) by norm_cast]
      generalize m / 2 ^ i = y at *
      omega
    rw [e1]
    have e2 : m.testBit i = ((((m / 2 ^ i : Nat) : Int).tmod 2) == 1) := by
      rw [Nat.testBit_eq_decide_div_mod_eq]
      generalize m / 2 ^ i = y
      rw [Int.tmod_eq_emod_of_nonneg (by omega), Bool.eq_iff_iff]
      simp only [decide_eq_true_eq, beq_iff_eq]
      omega
    rw [e2] at h
    exact h
theorem ref03_Right_ok {m blocks : Int} (hm : inK .u32 m) {K : Bool → Prop} (h : K (maskR m blocks)) : q48.F m blocks K := by
  unfold q48.F q48.FV
  have hm : 0 ≤ m ∧ m ≤ 4294967295 := hm
  obtain ⟨m, rfl⟩ : ∃ n : Nat, m = n := ⟨m.toNat, by omega⟩
  have no : ¬ (1 ≤ blocks ∧ blocks ≤ 32) → K false := by
    intro h1
    have : maskR m blocks = false := by unfold maskR; simp only [decide_eq_false_iff_not]; omega
    rw [this] at h
    exact h
  refine cond_ok (fun h1 => ?_) (fun h1 => ?_)
  · have h1 : blocks < 1 := of_decide_eq_true h1
    exact no (by omega)
  have h1 : ¬ blocks < 1 := of_decide_eq_false h1
  refine cond_ok (fun h2 => ?_) (fun h2 => ?_)
  · have h2 : blocks > 32 := of_decide_eq_true h2
    exact no (by omega)
  have h2 : ¬ blocks > 32 := of_decide_eq_false h2
  obtain ⟨b, rfl⟩ : ∃ n : Nat, blocks = n := ⟨blocks.toNat, by omega⟩
  have em : maskR m b = decide (m < 2 ^ b) := by
    unfold maskR
    rw [Int.toNat_natCast]
    have e : ((2 : Int) ^ b) = ((2 ^ b : Nat) : Int) := by simp
    rw [e]
    simp only [decide_eq_decide]
    omega
  rw [em] at h
  refine loop_ok (I := fun x : q48.L0 => ∃ i : Nat, b ≤ i ∧ i ≤ 32 ∧ (∀ j, b ≤ j → j < i → m.testBit j = false) ∧ x = ⟨m, i⟩) (m := fun x : q48.L0 => 32 - x.i.toNat) ?_ ⟨b, by omega, by omega, fun j h1 h2 => by omega, rfl⟩
  rintro _ ⟨i, hi, hi2, hj, rfl⟩ rec hrec
  unfold q48.b0V
  dsimp only
  refine cond_ok (fun h3 => ?_) (fun h3 => ?_)
  · have h3 : (i : Int) < 32 := of_decide_eq_true h3
    refine ref03_Has_ok (by omega) (by omega) (cond_ok (fun h4 => ?_) (fun h4 => ?_))
    · have : ¬ m < 2 ^ b := by
        intro h5
        rw [Nat.testBit_lt_two_pow (Nat.lt_of_lt_of_le h5 (Nat.pow_le_pow_right (by decide) hi))] at h4
        cases h4
      rw [show decide (m < 2 ^ b) = false by simpa using this] at h
      exact h
    · rw [wrap_i64 (x := (i : Int) + 1) (by omega)]
      refine hrec _ ⟨i + 1, by omega, by omega, ?_, by simp⟩ (by simp; omega)
      intro j h5 h6
      by_cases h7 : j = i
      · subst h7; exact h4
      · exact hj j h5 (by omega)
  · have h3 : ¬ (i : Int) < 32 := of_decide_eq_false h3
    have : m < 2 ^ b := by
      apply Nat.lt_pow_two_of_testBit
      intro j h5
      by_cases h6 : j < i
      · exact hj j h5 h6
      · exact Nat.testBit_lt_two_pow (Nat.lt_of_lt_of_le (show m < 2 ^ 32 by omega) (Nat.pow_le_pow_right (by decide) (by omega)))
    rw [show decide (m < 2 ^ b) = true by simpa using this] at h
    exact h
def hRight (h : Hello) : Bool := (h.vector.current != 0) && (maskR h.mask h.blocks && (!h.pri || (!h.was && !h.inc)))
theorem fits_small {n : Nat} (h : n ≤ 1000000) : fits n = true := fits_ok (by unfold big; omega)
def zeroH : Hello := ⟨0, ⟨0, 0, 0, 0⟩, false, false, false, false, 0⟩
def bit (b : UInt8) (i : Nat) : Bool := b.toNat / 2 ^ i % 2 == 1
theorem sub_len {α : Type} {b : List α} {i j : Nat} (h : j ≤ b.length) : (sub b i j).length = j - i := by simp [sub]; omega
theorem getN_of {s : Str} {k : Nat} (h : s.length = k) : getN s k = ((unbe s : Int), true) := by unfold getN; rw [if_pos h]
theorem getI_lit {α : Type} {xs : List α} (d : α) {i : Nat} (h : i < xs.length) : getI xs (i : Int) = some (xs.getD i d) := by
  rw [getI_ok h]; simp [h]
end Gm

set_option maxRecDepth 100000
namespace Gm
open Go
def hA : Hello := ⟨3, ⟨7, 0, 0, 0⟩, false, true, false, false, 5⟩
def hB : Hello := ⟨3, ⟨7, 0, 0, 0⟩, false, false, false, false, 8⟩
theorem rB : hRight hB = false := by decide
end Gm

set_option maxRecDepth 100000
namespace Gm
open Go
structure OkD (N : Nat) (d : Disk) : Prop where
  s : d.sure.length ≤ N
  c : d.cache.length ≤ N
  r : InR d.sure.length d.cache
  f : inK .i64 d.fuse
  p : 0 ≤ d.fuse
  ds : ∀ s ∈ d.sure, s.length ≤ N
  dc : ∀ w ∈ d.cache, w.data.length ≤ N
theorem ref04_holds_ok {d : Disk} {i : Nat} (hi : i < d.sure.length) (hc : d.cache.length ≤ 1000000) {K : Str → Prop} (h : K (holds d.sure[i] d.cache i)) : q35.F d i K := by
  unfold q35.F
  refine oget_ok (getI_ok hi) ?_
  refine loop_ok (I := fun x : q35.L0 => ∃ (k : Nat) (s : Str), k ≤ d.cache.length ∧ holds s (d.cache.drop k) i = holds d.sure[i] d.cache i ∧ x = ⟨i, s, k, d⟩) (m := fun x : q35.L0 => d.cache.length - x.k.toNat) ?_ ⟨0, _, by simp, by simp, rfl⟩
  rintro _ ⟨k, s, hk, he, rfl⟩ rec hrec
  unfold q35.b0
  dsimp only
  refine cond_ok (fun h4 => ?_) (fun h4 => ?_)
  · have hlt := lt_of_dec h4
    rw [wrap_succ (by unfold big; omega)]
    refine oget_ok (getI_ok hlt) (cond_ok (fun h5 => oget_ok (getI_ok hlt) ?_) (fun h5 => ?_))
    · have h5 : (d.cache[k]).sector = (i : Int) := by simpa using h5
      refine hrec _ ⟨k + 1, _, hlt, ?_, rfl⟩ (by simp; omega)
      rw [← he, drop_cons hlt]
      unfold holds
      rw [List.foldl_cons, if_pos h5]
    · have h5 : (d.cache[k]).sector ≠ (i : Int) := by simpa using h5
      refine hrec _ ⟨k + 1, _, hlt, ?_, rfl⟩ (by simp; omega)
      rw [← he, drop_cons hlt]
      unfold holds
      rw [List.foldl_cons, if_neg h5]
  · have e := le_of_dec h4 hk
    subst e
    rw [List.drop_length] at he
    rw [← he] at h
    exact h
theorem ref04_Read_ok {d : Disk} {i : Int} (hc : d.cache.length ≤ 1000000) {K : (Str × Int) → Prop} (h : K (readV d i)) : q36.F d i K := by
  unfold q36.F q36.FV
  unfold readV at h
  refine cond_ok (fun h1 => ?_) (fun h1 => ?_)
  · rw [if_pos h1] at h; exact h
  rw [if_neg (by simp [h1])] at h
  refine cond_ok (fun h2 => ?_) (fun h2 => ?_)
  · have h2 : i < 0 := of_decide_eq_true h2
    rw [if_neg (by omega)] at h; exact h
  have h2 : ¬ i < 0 := of_decide_eq_false h2
  refine cond_ok (fun h3 => ?_) (fun h3 => ?_)
  · have h3 : i ≥ (d.sure.length : Int) := of_decide_eq_true h3
    rw [if_neg (by omega)] at h; exact h
  have h3 : ¬ i ≥ (d.sure.length : Int) := of_decide_eq_false h3
  rw [if_pos (by omega)] at h
  obtain ⟨k, rfl⟩ : ∃ k : Nat, i = k := ⟨i.toNat, by omega⟩
  have hk : k < d.sure.length := by omega
  refine ref04_holds_ok hk hc ?_
  have e : d.sure.getD (k : Int).toNat [] = d.sure[k] := by simp [hk]
  rw [e] at h
  exact h
def burnV (d : Disk) : Disk := if d.fuse = 0 then d else if d.fuse = 1 then ⟨d.sure, d.cache, 0, true⟩ else ⟨d.sure, d.cache, d.fuse - 1, d.dead⟩
theorem ref04_burn_ok {d : Disk} (hf : inK .i64 d.fuse) (h0 : 0 ≤ d.fuse) {K : Disk → Prop} (h : K (burnV d)) : q102.F d K := by
  unfold q102.F
  unfold burnV at h
  rw [fuse_wrap hf h0]
  refine cond_ok (fun h1 => ?_) (fun h1 => ?_)
  · have h1 : d.fuse = 1 := by simpa using h1
    rw [if_neg (by omega), if_pos h1] at h
    refine cond_t (by simp [h1]) ?_
    rw [h1]; exact h
  · have h1 : d.fuse ≠ 1 := by simpa using h1
    refine cond_ok (fun h2 => ?_) (fun h2 => ?_)
    · have h2 : d.fuse > 0 := of_decide_eq_true h2
      rw [if_neg (by omega), if_neg h1] at h
      exact h
    · have h2 : ¬ d.fuse > 0 := of_decide_eq_false h2
      rw [if_pos (by omega)] at h
      exact h
theorem ref04_Write_ok {N : Nat} {d : Disk} {i : Int} {data : Str} (hN : N ≤ 100000) (o : OkD N d) {K : (Disk × Int) → Prop} (h : K (writeV d i data)) : q103.F d i data K := by
  unfold q103.F q103.FV
  unfold writeV at h
  refine cond_ok (fun h1 => ?_) (fun h1 => ?_)
  · rw [if_pos h1] at h; exact h
  rw [if_neg (by simp [h1])] at h
  refine cond_ok (fun h2 => ?_) (fun h2 => ?_)
  · have h2 : i < 0 := of_decide_eq_true h2
    rw [if_pos (by omega)] at h; exact h
  have h2 : ¬ i < 0 := of_decide_eq_false h2
  refine cond_ok (fun h3 => ?_) (fun h3 => ?_)
  · have h3 : i ≥ (d.sure.length : Int) := of_decide_eq_true h3
    rw [if_pos (by omega)] at h; exact h
  have h3 : ¬ i ≥ (d.sure.length : Int) := of_decide_eq_false h3
  rw [if_neg (fun hn => hn ⟨by omega, by omega⟩)] at h
  refine cond_ok (fun h4 => ?_) (fun h4 => ?_)
  · have h4 : (data.length : Int) > 64 := of_decide_eq_true h4
    rw [if_pos (by omega)] at h; exact h
  have h4 : ¬ (data.length : Int) > 64 := of_decide_eq_false h4
  rw [if_neg (by omega)] at h
  have hc := o.c
  refine ref04_burn_ok o.f o.p ?_
  unfold burnV
  by_cases h5 : d.fuse = 0
  · rw [if_pos h5] at h ⊢
    refine cond_f h1 (gd_ok (fit_ok (by omega)) (gd_ok (fit_ok (by simp; omega)) ?_))
    rw [h5, h1]; exact h
  · rw [if_neg h5] at h ⊢
    by_cases h6 : d.fuse = 1
    · rw [if_pos h6] at h ⊢
      exact cond_t rfl h
    · rw [if_neg h6] at h ⊢
      refine cond_f h1 (gd_ok (fit_ok (by show d.cache.length * 24 ≤ _; omega)) (gd_ok (fit_ok (by simp; omega)) ?_))
      dsimp only
      rw [h1]; exact h
theorem ref04_Flush_ok {N : Nat} {d : Disk} (hN : N ≤ 100000) (o : OkD N d) {K : (Disk × Int) → Prop} (h : K (flushV d)) : q105.F d K := by
  unfold q105.F q105.FV
  unfold flushV at h
  have hs := o.s
  have hc := o.c
  refine cond_ok (fun h1 => ?_) (fun h1 => ?_)
  · rw [if_pos h1] at h; exact h
  rw [if_neg (by simp [h1])] at h
  refine ref04_burn_ok o.f o.p ?_
  have main : ∀ (r : Disk), r.sure = d.sure → r.cache = d.cache → r.dead = false → K (⟨settleV d.sure d.cache, [], r.fuse, false⟩, 0) →
      ∃ n, loopB (q105.b0V q102.F q35.F) n (fun x3 : q105.L0 => (K ((⟨x3.sure, ([] : List Write), x3.m0.fuse, x3.m0.dead⟩ : Disk), 0))) (fun _ => False) ⟨([] : List Str), 0, r, ⟨[], [], 0, false⟩⟩ := by
    intro r e1 e2 e3 hk
    refine loop_ok (I := fun x : q105.L0 => ∃ i : Nat, i ≤ d.sure.length ∧ x = ⟨(settleV d.sure d.cache).take i, i, r, ⟨[], [], 0, false⟩⟩) (m := fun x : q105.L0 => d.sure.length - x.i.toNat) ?_ ⟨0, by simp, by simp⟩
    rintro _ ⟨i, hi, rfl⟩ rec hrec
    unfold q105.b0V
    dsimp only
    have hl := settleV_length d.cache d.sure
    rw [e1]
    refine cond_ok (fun h4 => ?_) (fun h4 => ?_)
    · have hlt := lt_of_dec h4
      refine ref04_holds_ok (d := r) (by rw [e1]; exact hlt) (by rw [e2]; omega) (gd_ok (fit_ok (by simp; omega)) ?_)
      rw [wrap_succ (by unfold big; omega)]
      refine hrec _ ⟨i + 1, hlt, ?_⟩ (by simp; omega)
      have := settle_holds d.cache d.sure i hlt o.r
      rw [take_succ (by omega)]
      rw [List.getElem?_eq_getElem (by omega)] at this
      rw [Option.some.inj this]
      simp only [e1, e2]
    · have e := le_of_dec h4 hi
      rw [List.take_of_length_le (by omega), e3]
      exact hk
  unfold burnV
  by_cases h5 : d.fuse = 0
  · rw [if_pos h5] at h ⊢
    exact cond_f h1 (main d rfl rfl h1 (by rw [h5]; exact h))
  · rw [if_neg h5] at h ⊢
    by_cases h6 : d.fuse = 1
    · rw [if_pos h6] at h ⊢
      exact cond_t rfl h
    · rw [if_neg h6] at h ⊢
      exact cond_f h1 (main ⟨d.sure, d.cache, d.fuse - 1, d.dead⟩ rfl rfl h1 h)
def loadV (d : Disk) : Int × Int :=
  if (readV d 1).2 ≠ 0 then (0, (readV d 1).2)
  else if (openV (readV d 1).1).2 ≠ 0 then (0, (openV (readV d 1).1).2)
  else if (openV (readV d 1).1).1.length = 4 ∧ maskR (unbe (openV (readV d 1).1).1) ((d.sure.length : Int) - 2) = true then ((unbe (openV (readV d 1).1).1 : Int), 0) else (0, 2)
def noteV (d : Disk) (m : Nat) : Disk × Int := if maskR m ((d.sure.length : Int) - 2) = true then writeV d 1 (sealV (be m 4)) else (d, 1)
def saveV (d : Disk) (m : Nat) : Disk × Int := if (noteV d m).2 ≠ 0 then noteV d m else flushV (noteV d m).1
theorem holds_le {N : Nat} : ∀ (ws : List Write) (s : Str) (i : Int), s.length ≤ N → (∀ w ∈ ws, w.data.length ≤ N) → (holds s ws i).length ≤ N
  | [], s, _, h, _ => h
  | w :: ws, s, i, h, hw => by
    unfold holds
    rw [List.foldl_cons]
    refine holds_le ws _ i ?_ (fun w' h' => hw w' (List.mem_cons_of_mem _ h'))
    split
    · exact hw w (by simp)
    · exact h
theorem read_le {N : Nat} {d : Disk} (o : OkD N d) (i : Int) : (readV d i).1.length ≤ N := by
  unfold readV
  split
  · simp
  · split
    · rename_i h1 h2
      refine holds_le _ _ _ ?_ o.dc
      have hi : i.toNat < d.sure.length := by omega
      have e : d.sure.getD i.toNat [] = d.sure[i.toNat] := by simp [hi]
      rw [e]
      exact o.ds _ (List.getElem_mem hi)
    · simp
theorem sub2 {n : Nat} (h : n ≤ 1000000) : IntKind.i64.wrap ((n : Int) - 2) = (n : Int) - 2 := wrap_i64 (by omega)
theorem in_sub2 {n : Nat} (h : n ≤ 1000000) : inK .i64 ((n : Int) - 2) := ⟨by show (-9223372036854775808 : Int) ≤ _; omega, by show _ ≤ (9223372036854775807 : Int); omega⟩
theorem inK32 {n : Nat} (h : n < 2 ^ 32) : inK .u32 (n : Int) := ⟨by show (0 : Int) ≤ _; omega, by show _ ≤ (4294967295 : Int); omega⟩
theorem ref08_Load_ok {N : Nat} {d : Disk} (hN : N ≤ 100000) (o : OkD N d) {K : (Int × Int) → Prop} (h : K (loadV d)) : q49.F d K := by
  unfold q49.F q49.FV
  have hs := o.s
  have hc := o.c
  have hl := read_le o 1
  refine ref04_Read_ok (by omega) ?_
  unfold loadV at h
  refine cond_ok (fun h1 => ?_) (fun h1 => ?_)
  · have h1 : (readV d 1).2 ≠ 0 := by simpa using h1
    rw [if_pos h1] at h; exact h
  have h1 : (readV d 1).2 = 0 := by simpa using h1
  rw [if_neg (by simp [h1])] at h
  refine ref02_Open_ok (wStr_of (by omega)) (cond_ok (fun h2 => ?_) (fun h2 => ?_))
  · have h2 : (openV (readV d 1).1).2 ≠ 0 := by simpa using h2
    rw [if_pos h2] at h; exact h
  have h2 : (openV (readV d 1).1).2 = 0 := by simpa using h2
  rw [if_neg (by simp [h2])] at h
  refine ref01_Get32_ok ?_
  unfold getN
  by_cases h3 : (openV (readV d 1).1).1.length = 4
  · rw [if_pos h3]
    refine cond_f rfl ?_
    have hlt := unbe_lt 4 _ h3
    rw [sub2 (by omega)]
    refine ref03_Right_ok (inK32 (by omega)) (cond_ok (fun h4 => ?_) (fun h4 => ?_))
    · rw [if_neg (by rintro ⟨_, h5⟩; rw [h5] at h4; cases h4)] at h; exact h
    · rw [if_pos ⟨h3, by simpa using h4⟩] at h; exact h
  · rw [if_neg h3]
    rw [if_neg (by rintro ⟨h5, _⟩; exact h3 h5)] at h
    exact cond_t rfl h
theorem bits_Note_ok {N : Nat} {d : Disk} {m : Nat} (hm : m < 2 ^ 32) (hN : N ≤ 100000) (o : OkD N d) {K : (Disk × Int) → Prop} (h : K (noteV d m)) : q74.F d m K := by
  unfold q74.F q74.FV q58.F q58.FV
  have hs := o.s
  have hc := o.c
  rw [sub2 (by omega)]
  unfold noteV at h
  refine mask_Right_ok (inK32 hm) (in_sub2 (by omega)) (cond_ok (fun h4 => ?_) (fun h4 => ?_))
  · rw [if_neg (by intro h5; rw [h5] at h4; cases h4)] at h; exact h
  · rw [if_pos (by simpa using h4)] at h
    exact num_Put32_ok hm (check_Seal_ok (wStr_of (by rw [be_length]; decide)) (disk_Write_ok (by omega) o.f o.p h))
theorem ref08_Note_ok {N : Nat} {d : Disk} {m : Nat} (hm : m < 2 ^ 32) (hN : N ≤ 100000) (o : OkD N d) {K : (Disk × Int) → Prop} (h : K (noteV d m)) : q104.F d m K := by
  unfold q104.F q104.FV
  have hs := o.s
  have hc := o.c
  rw [sub2 (by omega)]
  unfold noteV at h
  refine ref03_Right_ok (inK32 hm) (cond_ok (fun h4 => ?_) (fun h4 => ?_))
  · rw [if_neg (by intro h5; rw [h5] at h4; cases h4)] at h; exact h
  · rw [if_pos (by simpa using h4)] at h
    exact ref01_Put32_ok hm (ref02_Seal_ok (wStr_of (by rw [be_length]; decide)) (ref04_Write_ok hN o h))
theorem write_ok {N : Nat} {d : Disk} {i : Int} {data : Str} (o : OkD N d) (h64 : 64 ≤ N) : OkD (N + 1) (writeV d i data).1 := by
  have base : OkD (N + 1) d := ⟨Nat.le_succ_of_le o.s, Nat.le_succ_of_le o.c, o.r, o.f, o.p, fun s hs => Nat.le_succ_of_le (o.ds s hs), fun w hw => Nat.le_succ_of_le (o.dc w hw)⟩
  have hf : -9223372036854775808 ≤ d.fuse ∧ d.fuse ≤ 9223372036854775807 := o.f
  have hp := o.p
  unfold writeV
  split
  · exact base
  split
  · exact base
  split
  · exact base
  rename_i h1 h2 h3
  have h2 : 0 ≤ i ∧ i < (d.sure.length : Int) := Classical.not_not.1 h2
  have grow : ∀ f : Int, inK .i64 f → 0 ≤ f → OkD (N + 1) ⟨d.sure, d.cache ++ [⟨i, data⟩], f, false⟩ := by
    intro f hf0 hp0
    refine ⟨base.s, ?_, ?_, hf0, hp0, base.ds, ?_⟩
    · show (d.cache ++ [_]).length ≤ N + 1
      have := o.c
      simp; omega
    · intro w hw
      rcases List.mem_append.1 hw with h | h
      · exact o.r w h
      · simp at h; subst h; exact h2
    · intro w hw
      rcases List.mem_append.1 hw with h | h
      · exact base.dc w h
      · simp at h; subst h; show data.length ≤ N + 1; omega
  split
  · exact grow 0 in0 (by decide)
  split
  · exact ⟨base.s, base.c, base.r, in0, by show (0 : Int) ≤ 0; omega, base.ds, base.dc⟩
  · rename_i h4 h5
    exact grow _ ⟨by show (-9223372036854775808 : Int) ≤ _; omega, by show _ ≤ (9223372036854775807 : Int); omega⟩ (by omega)
theorem note_ok {N : Nat} {d : Disk} {m : Nat} (o : OkD N d) (h64 : 64 ≤ N) : OkD (N + 1) (noteV d m).1 := by
  unfold noteV
  split
  · exact write_ok o h64
  · exact ⟨Nat.le_succ_of_le o.s, Nat.le_succ_of_le o.c, o.r, o.f, o.p, fun s hs => Nat.le_succ_of_le (o.ds s hs), fun w hw => Nat.le_succ_of_le (o.dc w hw)⟩
theorem bits_Save_ok {N : Nat} {d : Disk} {m : Nat} (hm : m < 2 ^ 32) (hN : N ≤ 10000) (h64 : 64 ≤ N) (o : OkD N d) {K : (Disk × Int) → Prop} (h : K (saveV d m)) : q77.F d m K := by
  unfold q77.F q77.FV
  have o2 := note_ok (m := m) o h64
  have hs := o2.s
  have hc := o2.c
  refine bits_Note_ok hm (by omega) o ?_
  unfold saveV at h
  refine cond_ok (fun h1 => ?_) (fun h1 => ?_)
  · rw [if_pos (by simpa using h1)] at h; exact h
  · rw [if_neg (by simpa using h1)] at h
    exact disk_Flush_ok (by omega) (by omega) o2.r o2.f o2.p h
theorem ref08_Save_ok {N : Nat} {d : Disk} {m : Nat} (hm : m < 2 ^ 32) (hN : N ≤ 10000) (h64 : 64 ≤ N) (o : OkD N d) {K : (Disk × Int) → Prop} (h : K (saveV d m)) : q106.F d m K := by
  unfold q106.F q106.FV
  have o2 := note_ok (m := m) o h64
  refine ref08_Note_ok hm (by omega) o ?_
  unfold saveV at h
  refine cond_ok (fun h1 => ?_) (fun h1 => ?_)
  · rw [if_pos (by simpa using h1)] at h; exact h
  · rw [if_neg (by simpa using h1)] at h
    exact ref04_Flush_ok (by omega) o2 h
end Gm

set_option maxRecDepth 100000
namespace Gm
open Go
theorem settle_ok {N : Nat} {d : Disk} (o : OkD N d) {ws : List Write} (hw : ∀ w ∈ ws, w ∈ d.cache) : ∀ s ∈ settleV d.sure ws, s.length ≤ N := by
  intro s hs
  obtain ⟨i, hi, e⟩ := List.mem_iff_getElem.1 hs
  rcases settle_get _ _ i s (by rw [List.getElem?_eq_getElem hi, e]) with h | ⟨w, h, h1, h2⟩
  · exact o.ds s (List.mem_of_getElem? h)
  · rw [← h2]; exact o.dc w (hw w h)
theorem bare_ok {N : Nat} {d : Disk} (o : OkD N d) {ws : List Write} (hw : ∀ w ∈ ws, w ∈ d.cache) : OkD N ⟨settleV d.sure ws, [], 0, false⟩ :=
  ⟨(by show (settleV _ _).length ≤ N; rw [settleV_length]; exact o.s), Nat.zero_le _, (fun w h => by cases h), in0, (by show (0 : Int) ≤ 0; omega), settle_ok o hw, (fun w h => by cases h)⟩
theorem revive_ok {N : Nat} {d : Disk} (o : OkD N d) (keeps : List Bool) : OkD N (reviveV d keeps) := bare_ok o (kept_sub _ _)
theorem crash_ok {N : Nat} {d : Disk} (o : OkD N d) : OkD N (crashV d) := ⟨o.s, o.c, o.r, in0, by show (0 : Int) ≤ 0; omega, o.ds, o.dc⟩
end Gm

set_option maxRecDepth 100000
namespace Gm
open Go
def bd (d : Disk) (i : Int) : Prop := 0 ≤ i ∧ i < (d.sure.length : Int) - 2
instance (d : Disk) (i : Int) : Decidable (bd d i) := by unfold bd; infer_instance
theorem area_there_ok {d : Disk} {i : Int} (hs : d.sure.length ≤ 1000000) {K : Bool → Prop} (h : K (decide (bd d i))) : q60.F d i K := by
  unfold q60.F
  rw [sub2 hs]
  refine cond_ok (fun h1 => ?_) (fun h1 => ?_)
  · have h1 : i ≥ 0 := of_decide_eq_true h1
    rw [show decide (bd d i) = decide (i < (d.sure.length : Int) - 2) by rw [Bool.eq_iff_iff, decide_eq_true_eq, decide_eq_true_eq]; unfold bd; omega] at h
    exact h
  · have h1 : ¬ i ≥ 0 := of_decide_eq_false h1
    rw [show decide (bd d i) = false from decide_eq_false (by unfold bd; omega)] at h
    exact h
theorem ref09_there_ok {d : Disk} {i : Int} (hs : d.sure.length ≤ 1000000) {K : Bool → Prop} (h : K (decide (bd d i))) : q50.F d i K := by
  unfold q50.F
  rw [sub2 hs]
  refine cond_ok (fun h1 => ?_) (fun h1 => ?_)
  · have h1 : i ≥ 0 := of_decide_eq_true h1
    rw [show decide (bd d i) = decide (i < (d.sure.length : Int) - 2) by rw [Bool.eq_iff_iff, decide_eq_true_eq, decide_eq_true_eq]; unfold bd; omega] at h
    exact h
  · have h1 : ¬ i ≥ 0 := of_decide_eq_false h1
    rw [show decide (bd d i) = false from decide_eq_false (by unfold bd; omega)] at h
    exact h
def aReadV (d : Disk) (i : Int) : Str × Int :=
  if bd d i then (if (readV d (i + 2)).2 ≠ 0 then ([], (readV d (i + 2)).2) else if (readV d (i + 2)).1.length = 8 then ((readV d (i + 2)).1, 0) else ([], 2)) else ([], 4)
theorem add2 {d : Disk} {i : Int} (hs : d.sure.length ≤ 1000000) (h : bd d i) : IntKind.i64.wrap (i + 2) = i + 2 := by
  obtain ⟨h1, h2⟩ := h
  exact wrap_i64 (by omega)
theorem ref09_Read_ok {N : Nat} {d : Disk} {i : Int} (hN : N ≤ 100000) (o : OkD N d) {K : (Str × Int) → Prop} (h : K (aReadV d i)) : q51.F d i K := by
  have hs := o.s
  have hc := o.c
  unfold q51.F q51.FV
  unfold aReadV at h
  refine ref09_there_ok (by omega) (cond_ok (fun h1 => ?_) (fun h1 => ?_))
  · rw [if_neg (by simpa using h1)] at h; exact h
  have h1 : bd d i := by simpa using h1
  rw [if_pos h1] at h
  rw [add2 (by omega) h1]
  refine ref04_Read_ok (by omega) (cond_ok (fun h2 => ?_) (fun h2 => ?_))
  · rw [if_pos (by simpa using h2)] at h; exact h
  rw [if_neg (by simpa using h2)] at h
  refine cond_ok (fun h3 => ?_) (fun h3 => ?_)
  · rw [if_neg (bne_nat (b := 8) h3)] at h; exact h
  · rw [if_pos (bne_nat' (b := 8) h3)] at h; exact h
def putV (d : Disk) (i : Int) (data : Str) : Disk × Int :=
  if bd d i then (if data.length = 8 then (if (writeV d (i + 2) data).2 ≠ 0 then writeV d (i + 2) data else flushV (writeV d (i + 2) data).1) else (d, 5)) else (d, 4)
theorem area_Put_ok {N : Nat} {d : Disk} {i : Int} {data : Str} (hN : N ≤ 10000) (h64 : 64 ≤ N) (o : OkD N d) {K : (Disk × Int) → Prop} (h : K (putV d i data)) : q79.F d i data K := by
  have hs := o.s
  have hc := o.c
  unfold q79.F q79.FV
  unfold putV at h
  refine area_there_ok (by omega) (cond_ok (fun h1 => ?_) (fun h1 => ?_))
  · rw [if_neg (by simpa using h1)] at h; exact h
  have h1 : bd d i := by simpa using h1
  rw [if_pos h1] at h
  rw [add2 (by omega) h1]
  refine cond_ok (fun h3 => ?_) (fun h3 => ?_)
  · rw [if_neg (bne_nat (b := 8) h3)] at h; exact h
  rw [if_pos (bne_nat' (b := 8) h3)] at h
  refine disk_Write_ok (by omega) o.f o.p (cond_ok (fun h2 => ?_) (fun h2 => ?_))
  · rw [if_pos (by simpa using h2)] at h; exact h
  rw [if_neg (by simpa using h2)] at h
  have o2 := write_ok (i := i + 2) (data := data) o h64
  exact disk_Flush_ok (by have := o2.s; omega) (by have := o2.c; omega) o2.r o2.f o2.p h
theorem ref09_Put_ok {N : Nat} {d : Disk} {i : Int} {data : Str} (hN : N ≤ 10000) (h64 : 64 ≤ N) (o : OkD N d) {K : (Disk × Int) → Prop} (h : K (putV d i data)) : q114.F d i data K := by
  have hs := o.s
  have hc := o.c
  unfold q114.F q114.FV
  unfold putV at h
  refine ref09_there_ok (by omega) (cond_ok (fun h1 => ?_) (fun h1 => ?_))
  · rw [if_neg (by simpa using h1)] at h; exact h
  have h1 : bd d i := by simpa using h1
  rw [if_pos h1] at h
  rw [add2 (by omega) h1]
  refine cond_ok (fun h3 => ?_) (fun h3 => ?_)
  · rw [if_neg (bne_nat (b := 8) h3)] at h; exact h
  rw [if_pos (bne_nat' (b := 8) h3)] at h
  refine ref04_Write_ok (by omega) o (cond_ok (fun h2 => ?_) (fun h2 => ?_))
  · rw [if_pos (by simpa using h2)] at h; exact h
  rw [if_neg (by simpa using h2)] at h
  have o2 := write_ok (i := i + 2) (data := data) o h64
  exact ref04_Flush_ok (N := N + 1) (by omega) o2 h
def allN (d : Disk) : Nat → List Str × Int
  | 0 => ([], 0)
  | n + 1 => if (allN d n).2 ≠ 0 then allN d n else if (aReadV d n).2 ≠ 0 then ([], (aReadV d n).2) else ((allN d n).1 ++ [(aReadV d n).1], 0)
def allV (d : Disk) : List Str × Int := allN d (d.sure.length - 2)
theorem allN_len {d : Disk} : ∀ {n : Nat}, (allN d n).2 = 0 → (allN d n).1.length = n
  | 0, _ => rfl
  | n + 1, h => by
    unfold allN at h ⊢
    split at h
    · rename_i h1; exact absurd h h1
    · rename_i h1
      rw [if_neg h1]
      split at h
      · rename_i h2; exact absurd h h2
      · rename_i h2
        rw [if_neg h2]
        simp [allN_len (n := n) (Classical.not_not.1 h1)]
theorem allN_bad {d : Disk} {n : Nat} (h : (allN d n).2 ≠ 0) : ∀ m, n ≤ m → allN d m = allN d n := by
  intro m hm
  induction m with
  | zero => have : n = 0 := by omega
            subst this; rfl
  | succ m ih =>
    by_cases e : n = m + 1
    · subst e; rfl
    · have := ih (by omega)
      show (if (allN d m).2 ≠ 0 then _ else _) = _
      rw [this, if_pos h]
theorem ref09_All_ok {N : Nat} {d : Disk} (hN : N ≤ 10000) (o : OkD N d) {K : (List Str × Int) → Prop} (h : K (allV d)) : q52.F d K := by
  have hs := o.s
  unfold q52.F q52.FV
  refine loop_ok (I := fun x : q52.L0 => ∃ k : Nat, k ≤ d.sure.length - 2 ∧ (allN d k).2 = 0 ∧ x = ⟨(allN d k).1, k, d⟩) (m := fun x : q52.L0 => d.sure.length - x.i.toNat) ?_ ⟨0, by omega, rfl, rfl⟩
  rintro _ ⟨k, hk, he, rfl⟩ rec hrec
  unfold q52.b0V
  dsimp only
  rw [sub2 (by omega)]
  refine cond_ok (fun h1 => ?_) (fun h1 => ?_)
  · have h1 : (k : Int) < (d.sure.length : Int) - 2 := of_decide_eq_true h1
    have h1 : k < d.sure.length - 2 := by omega
    refine ref09_Read_ok (N := N) (by omega) o (cond_ok (fun h2 => ?_) (fun h2 => ?_))
    · have h2 : (aReadV d k).2 ≠ 0 := by simpa using h2
      have e1 : allN d (k + 1) = ([], (aReadV d k).2) := by
        show (if (allN d k).2 ≠ 0 then _ else _) = _
        rw [if_neg (by simp [he]), if_pos h2]
      have e2 := allN_bad (n := k + 1) (by rw [e1]; exact h2) (d.sure.length - 2) (by omega)
      unfold allV at h
      rw [e2, e1] at h
      exact h
    · have h2 : (aReadV d k).2 = 0 := by simpa using h2
      have e1 : allN d (k + 1) = ((allN d k).1 ++ [(aReadV d k).1], 0) := by
        show (if (allN d k).2 ≠ 0 then _ else _) = _
        rw [if_neg (by simp [he]), if_neg (by simp [h2])]
      have hl := allN_len he
      refine gd_ok (fit_ok (by simp; omega)) (hrec _ ⟨k + 1, by omega, by rw [e1], ?_⟩ ?_)
      · rw [wrap_lt h1 (by unfold big; omega), e1]
      · rw [wrap_lt h1 (by unfold big; omega)]
        dsimp only
        omega
  · have h1 : ¬ (k : Int) < (d.sure.length : Int) - 2 := of_decide_eq_false h1
    have e : k = d.sure.length - 2 := by omega
    unfold allV at h
    rw [← e] at h
    rw [show allN d k = ((allN d k).1, (allN d k).2) from rfl, he] at h
    exact h
end Gm

set_option maxRecDepth 100000
namespace Gm
open Go
def supN (b g : Int) : Super := ⟨b, ⟨g, 0, 0, 0⟩, false, false, false⟩
def sB (b g : Nat) : Str := [71, 77, 1] ++ [UInt8.ofNat b, 0] ++ be g 8 ++ be 0 8 ++ be 0 8 ++ be 0 8
theorem sB_length (b g : Nat) : (sB b g).length = 37 := by simp [sB, be_length]
theorem u8s {b : Nat} (h : b ≤ 32) (x : Nat) : bytesOfInts [IntKind.u8.wrap (b : Int), (x : Int)] = [UInt8.ofNat b, UInt8.ofNat x] := by
  simp only [bytesOfInts, List.map_cons, List.map_nil, Int.toNat_natCast]
  rw [wrap_u8, show (b : Int) % 256 = (b : Int) by omega]
  rfl
theorem ref06_Right_ok {b : Int} {g : Nat} {K : Bool → Prop} (k : K (decide (1 ≤ b ∧ b ≤ 32 ∧ g ≠ 0))) : q24.F (supN b g) K := by
  unfold q24.F supN
  refine cond_ok (fun h1 => ?_) (fun h1 => ?_)
  · have h1 : b ≥ 1 := of_decide_eq_true h1
    refine cond_ok (fun h2 => ?_) (fun h2 => ?_)
    · have h2 : b ≤ 32 := of_decide_eq_true h2
      by_cases hg : g = 0
      · subst hg
        rw [decide_eq_false (by simp)] at k; exact k
      · rw [decide_eq_true ⟨h1, h2, hg⟩] at k
        rw [show ((g : Int) != 0) = true by simp; omega]
        exact k
    · have h2 : ¬ b ≤ 32 := of_decide_eq_false h2
      rw [decide_eq_false (by omega)] at k; exact k
  · have h1 : ¬ b ≥ 1 := of_decide_eq_false h1
    rw [decide_eq_false (by omega)] at k; exact k
theorem ref06_bytes_ok {b g : Nat} (h2 : b ≤ 32) (hg : g < 18446744073709551616) {K : Str → Prop} (k : K (sB b g)) : q28.F (supN b g) K := by
  unfold q28.F q28.FV
  dsimp only [supN]
  refine ref01_Flags_ok (ref01_Put64_ok (by omega) (gd_ok (fits_small (by simp [bytesOfInts, be_length])) ?_))
  refine ref01_Put64_ok (n := 0) (by omega) (gd_ok (fits_small (by simp [bytesOfInts, be_length])) ?_)
  refine ref01_Put64_ok (n := 0) (by omega) (gd_ok (fits_small (by simp [bytesOfInts, be_length])) ?_)
  refine ref01_Put64_ok (n := 0) (by omega) (gd_ok (fits_small (by simp [bytesOfInts, be_length])) ?_)
  rw [u8s (by omega)]
  exact k
theorem ref06_Encode_ok {b : Int} {g : Nat} (hg : g < 18446744073709551616) {K : (Str × Int) → Prop} (k : K (if 1 ≤ b ∧ b ≤ 32 ∧ g ≠ 0 then (sealV (sB b.toNat g), 0) else ([], 1))) : q32.F (supN b g) K := by
  unfold q32.F q32.FV
  refine ref06_Right_ok (cond_ok (fun h3 => ?_) (fun h3 => ?_))
  · rw [if_neg (by intro hh; rw [decide_eq_true hh] at h3; cases h3)] at k; exact k
  have h3 : 1 ≤ b ∧ b ≤ 32 ∧ g ≠ 0 := by
    cases hd : decide (1 ≤ b ∧ b ≤ 32 ∧ g ≠ 0) with
    | true => exact of_decide_eq_true hd
    | false => rw [hd] at h3; cases h3
  rw [if_pos h3] at k
  obtain ⟨b, rfl⟩ : ∃ n : Nat, b = n := ⟨b.toNat, by omega⟩
  exact ref06_bytes_ok (by omega) hg (ref02_Seal_ok (wStr_of (by rw [sB_length]; decide)) k)
def bare (s : List Str) : Disk := ⟨s, [], 0, false⟩
theorem bare_okD {N : Nat} {s : List Str} (h : s.length ≤ N) (h2 : ∀ x ∈ s, x.length ≤ N) : OkD N (bare s) :=
  ⟨h, Nat.zero_le _, (fun w h => by cases h), in0, (by show (0 : Int) ≤ 0; omega), h2, (fun w h => by cases h)⟩
def nought : Str := [0, 0, 0, 0, 0, 0, 0, 0]
def fmtS (b g : Nat) : List Str := sealV (sB b g) :: sealV (be 0 4) :: List.replicate b nought
def noD : Disk := ⟨[], [], 0, false⟩
def fmtV (b : Int) (g : Nat) : Disk × Int := if 1 ≤ b ∧ b ≤ 32 ∧ g ≠ 0 then (bare (fmtS b.toNat g), 0) else (noD, 1)
theorem ref09_Format_ok {b : Int} {g : Nat} (hg : g < 18446744073709551616) {K : (Disk × Int) → Prop} (k : K (fmtV b g)) : q34.F b g K := by
  unfold q34.F q34.FV
  unfold fmtV at k
  refine ref06_Encode_ok hg ?_
  by_cases h : 1 ≤ b ∧ b ≤ 32 ∧ g ≠ 0
  case neg =>
    rw [if_neg h] at k ⊢
    exact cond_t rfl k
  rw [if_pos h] at k ⊢
  obtain ⟨b, rfl⟩ : ∃ n : Nat, b = n := ⟨b.toNat, by omega⟩
  rw [Int.toNat_natCast] at k ⊢
  refine cond_f (by simp) (ref01_Put32_ok (n := 0) (by decide) (ref02_Seal_ok (wStr_of (by simp [be_length])) ?_))
  refine loop_ok (I := fun x : q34.L0 => ∃ (j : Nat), j ≤ b ∧ x = ⟨b, j, ⟨[], [], 0, false⟩, sealV (sB b g) :: sealV (be 0 4) :: List.replicate j nought, 0, false⟩) (m := fun x : q34.L0 => b - x.i.toNat) ?_ ⟨0, by omega, rfl⟩
  rintro _ ⟨j, hj, rfl⟩ rec hrec
  unfold q34.b0V
  dsimp only
  refine cond_ok (fun h3 => ?_) (fun h3 => ?_)
  · have h3 := lt_of_dec h3
    unfold q33.F
    refine gd_ok (fit_ok (by simp; omega)) (hrec _ ⟨j + 1, by omega, ?_⟩ ?_)
    · rw [wrap_lt h3 (by unfold big; omega), List.replicate_succ']
      rfl
    · rw [wrap_lt h3 (by unfold big; omega)]
      dsimp only
      omega
  · have e := le_of_dec h3 hj
    subst e
    exact k
end Gm

set_option maxRecDepth 100000
namespace Gm
open Go
theorem flush_okD {N : Nat} {d : Disk} (o : OkD N d) : OkD N (flushV d).1 := by
  have hf : -9223372036854775808 ≤ d.fuse ∧ d.fuse ≤ 9223372036854775807 := o.f
  have hp := o.p
  have b0 := bare_ok o (ws := d.cache) (fun w h => h)
  unfold flushV
  split
  · exact o
  split
  · exact b0
  split
  · exact crash_ok o
  · exact ⟨b0.s, b0.c, b0.r, ⟨by show (-9223372036854775808 : Int) ≤ d.fuse - 1; omega, by show d.fuse - 1 ≤ (9223372036854775807 : Int); omega⟩, by show (0 : Int) ≤ d.fuse - 1; omega, b0.ds, b0.dc⟩
theorem more_okD {N : Nat} {d : Disk} (o : OkD N d) : OkD (N + 1) d :=
  ⟨Nat.le_succ_of_le o.s, Nat.le_succ_of_le o.c, o.r, o.f, o.p, fun s hs => Nat.le_succ_of_le (o.ds s hs), fun w hw => Nat.le_succ_of_le (o.dc w hw)⟩
theorem put_okD {N : Nat} {d : Disk} {i : Int} {data : Str} (o : OkD N d) (h64 : 64 ≤ N) : OkD (N + 1) (putV d i data).1 := by
  unfold putV
  split
  · split
    · split
      · exact write_ok o h64
      · exact flush_okD (write_ok o h64)
    · exact more_okD o
  · exact more_okD o
theorem number_ok {b : Str} {i n : Nat} (h : i + 8 ≤ b.length) (h2 : i ≤ 1000) (e : unbe (sub b i (i + 8)) = n) {K : Int → Prop} (k : K (n : Int)) : q41.F b i K := by
  unfold q41.F q41.FV
  rw [wrap_i64 (x := (i : Int) + 8) (by omega)]
  refine gd_ok (by simp; omega) ?_
  rw [show Int.toNat ((i : Int) + 8) = i + 8 by omega, show Int.toNat (i : Int) = i by omega]
  refine ref01_Get64_ok ?_
  rw [getN_of (by rw [sub_len h]; omega), e]
  exact k
end Gm

set_option maxRecDepth 100000
namespace Gm
open Go
def blk (k : Int) : Bool := decide (2 ≤ k ∧ k ≤ 7)
def dat (k : Int) : Bool := decide (k = 2 ∨ k = 6)
theorem not_t {b : Bool} (h : (!b) = true) : b = false := by cases b with | false => rfl | true => cases h
theorem not_f {b : Bool} (h : (!b) = false) : b = true := by cases b with | true => rfl | false => cases h
end Gm

set_option maxRecDepth 100000
namespace Gm
open Go
end Gm

set_option maxRecDepth 100000
namespace Gm
open Go
end Gm

set_option maxRecDepth 100000
namespace Gm
open Go
def hasM (m i : Int) : Bool := decide (0 ≤ i ∧ i < 32) && m.toNat.testBit i.toNat
def setM (m i : Int) : Int := if 0 ≤ i ∧ i < 32 then ((m.toNat ||| 2 ^ i.toNat : Nat) : Int) else m
def clrM (m i : Int) : Int := if hasM m i = true then m - ((2 ^ i.toNat : Nat) : Int) else m
def orM (a b : Int) : Int := ((a.toNat ||| b.toNat : Nat) : Int)
def allM (b : Int) : Int := if 1 ≤ b ∧ b ≤ 32 then ((2 ^ b.toNat - 1 : Nat) : Int) else 0
def mintVec (v : Vec) (g : Int) : Vec := if v.bitmap = 0 then ⟨g, v.current, v.old0, v.old1⟩ else ⟨g, v.bitmap, v.current, v.old0⟩
def place (v : Vec) (g : Int) : Int :=
  if g = 0 then -1 else if v.current = g then 0 else if v.bitmap = g then 1 else if v.old0 = g then 2 else if v.old1 = g then 3 else -1
def zV : Vec := ⟨0, 0, 0, 0⟩
def zS : Super := ⟨0, zV, false, false, false⟩
def supR (s : Super) : Bool := decide (1 ≤ s.blocks ∧ s.blocks ≤ 32) && !(s.vector.current == 0)
def sBytes (s : Super) : Str :=
  [71, 77, 1] ++ [UInt8.ofNat s.blocks.toNat, UInt8.ofNat (fv [s.inc, s.pri, s.dis])] ++ be s.vector.current.toNat 8 ++ be s.vector.bitmap.toNat 8 ++ be s.vector.old0.toNat 8 ++ be s.vector.old1.toNat 8
def encS6 (s : Super) : Str × Int := if supR s = true then (sealV (sBytes s), 0) else ([], 1)
def numAt (t : Str) (i : Nat) : Int := (unbe (sub t i (i + 8)) : Int)
def sOfBytes (t : Str) : Super :=
  ⟨((t.getD 3 0).toNat : Int), ⟨numAt t 5, numAt t 13, numAt t 21, numAt t 29⟩, bit (t.getD 4 0) 0, bit (t.getD 4 0) 1, bit (t.getD 4 0) 2⟩
def decS6 (b : Str) : Super × Int :=
  if (openV b).2 ≠ 0 then (zS, (openV b).2)
  else if (openV b).1.length = 37 ∧ ((openV b).1.getD 4 0).toNat ≤ 7 ∧ supR (sOfBytes (openV b).1) = true ∧ sBytes (sOfBytes (openV b).1) = (openV b).1 then (sOfBytes (openV b).1, 0) else (zS, 2)
def fitsS (d : Disk) (s : Super) : Bool := s.blocks == (d.sure.length : Int) - 2
def loadS (d : Disk) : Super × Int :=
  if (readV d 0).2 ≠ 0 then (zS, (readV d 0).2)
  else if (decS6 (readV d 0).1).2 ≠ 0 then (zS, (decS6 (readV d 0).1).2)
  else if fitsS d (decS6 (readV d 0).1).1 = true then ((decS6 (readV d 0).1).1, 0) else (zS, 2)
def commitD (d : Disk) (s : Super) : Disk × Int :=
  if supR s = true ∧ fitsS d s = true then (if (writeV d 0 (sealV (sBytes s))).2 ≠ 0 then writeV d 0 (sealV (sBytes s)) else flushV (writeV d 0 (sealV (sBytes s))).1) else (d, 1)
def zSt : Store := ⟨noD, zS, 0⟩
def stAttach (d : Disk) : Store × Int :=
  if (loadS d).2 ≠ 0 then (zSt, (loadS d).2) else if (loadV d).2 ≠ 0 then (zSt, (loadV d).2) else if (allV d).2 ≠ 0 then (zSt, (allV d).2)
  else (⟨d, (loadS d).1, (loadV d).1⟩, 0)
def stCommit (s : Store) (b : Super) : Store × Int :=
  if b = s.sup then (s, 0) else (⟨(commitD s.disk b).1, if (commitD s.disk b).2 = 0 then b else s.sup, s.mask⟩, (commitD s.disk b).2)
def stSave (s : Store) (m : Int) : Store × Int :=
  if m = s.mask then (s, 0) else (⟨(saveV s.disk m.toNat).1, s.sup, if (saveV s.disk m.toNat).2 = 0 then m else s.mask⟩, (saveV s.disk m.toNat).2)
def stNote (s : Store) (m : Int) : Store × Int :=
  if m = s.mask then (s, 0) else (⟨(noteV s.disk m.toNat).1, s.sup, if (noteV s.disk m.toNat).2 = 0 then m else s.mask⟩, (noteV s.disk m.toNat).2)
def stMark (s : Store) (i : Int) : Store × Int := if 0 ≤ i ∧ i < s.sup.blocks then stSave s (setM s.mask i) else (s, 4)
def stWipe (s : Store) (i : Int) : Store × Int := if 0 ≤ i ∧ i < s.sup.blocks then stNote s (clrM s.mask i) else (s, 4)
def stJoin (s : Store) (m : Int) : Store × Int := stSave s (orM s.mask m)
def stPut (s : Store) (i : Int) (data : Str) : Store × Int := (⟨(putV s.disk i data).1, s.sup, s.mask⟩, (putV s.disk i data).2)
def stRead (s : Store) (i : Int) : Str × Int := aReadV s.disk i
def zR : Req := ⟨false, 0, 0, []⟩
def bareN (n : Node) (up : Bool) (s : Store) (pri : Bool) : Node := ⟨n.id, up, s, pri, 0, 0, zeroH, false, zR, false, 0, 0, false, n.draws, n.mints⟩
def downN (n : Node) : Node := bareN n false ⟨crashV n.store.disk, zS, 0⟩ false
def setSt (n : Node) (s : Store) : Node := { n with store := s }
def replyO (n : Node) (id e : Int) (data : Str) : Outp := ⟨2, n.id, id, e, data⟩
def keepN (n : Node) (r : Store × Int) : Node × Bool := if r.2 = 0 then (setSt n r.1, true) else (downN (setSt n r.1), false)
def commitN (n : Node) (b : Super) : Node × Bool := keepN n (stCommit n.store b)
abbrev NO := Node × List Outp
def mintN (n : Node) : Node × Int :=
  match n.draws with
  | [] => (n, 14)
  | g :: r =>
    if g = 0 then ({ n with draws := r }, 14)
    else
      let m : Node := { n with draws := r, mints := n.mints ++ [⟨g, n.store.sup.vector.current, n.id⟩] }
      let c := commitN m { n.store.sup with vector := mintVec n.store.sup.vector g }
      if c.2 = true then ({ c.1 with minted := true }, 0) else (c.1, 6)
def loseN (n : Node) : NO :=
  if n.state = 0 then (n, [])
  else
    let out : List Outp := if n.asking = true then [replyO n n.askId 13 []] else []
    let b := bareN n n.up n.store n.primary
    if n.req.on = false then (b, out)
    else if (mintN b).2 = 6 then ((mintN b).1, out) else ((mintN b).1, out ++ [replyO (mintN b).1 n.req.id (mintN b).2 []])
def nodeC (c : Cluster) (i : Bool) : Node := if i = true then c.n1 else c.n0
def setN (c : Cluster) (i : Bool) (n : Node) : Cluster := if i = true then { c with n1 := n } else { c with n0 := n }
def setW (c : Cluster) (i : Bool) (w : Bool) : Cluster := if i = true then { c with w1 := w } else { c with w0 := w }
def closeL (l : Link) : Link := ⟨false, l.session, [], []⟩
abbrev CO := Cluster × List Outp
def loseC (c : CO) (i : Bool) : CO :=
  if (nodeC c.1 i).up = false then c
  else
    let r := loseN (nodeC c.1 i)
    let d := setN c.1 i r.1
    (if r.1.up = false then setW d i false else d, c.2 ++ r.2)
def endC (c : Cluster) (out : List Outp) : CO := loseC (loseC ({ c with link := closeL c.link }, out) false) true
end Gm

set_option maxRecDepth 100000
namespace Gm
open Go
theorem inK_u32 {n : Nat} (h : n < 4294967296) : inK .u32 (n : Int) := ⟨by show (0 : Int) ≤ _; omega, by show _ ≤ (4294967295 : Int); omega⟩
theorem u32_toNat {m : Int} (h : inK .u32 m) : m.toNat < 4294967296 ∧ (m.toNat : Int) = m := by
  have h : 0 ≤ m ∧ m ≤ 4294967295 := h
  omega
theorem pow_lt32 {i : Nat} (h : i < 32) : 2 ^ i < 4294967296 := by
  have : 2 ^ i < 2 ^ 32 := Nat.pow_lt_pow_right (by decide) h
  simpa using this
theorem set_u32 {m i : Int} (h : inK .u32 m) : inK .u32 (setM m i) := by
  unfold setM
  split
  · rename_i hi
    refine inK_u32 ?_
    have h1 := (u32_toNat h).1
    have h2 := pow_lt32 (i := i.toNat) (by omega)
    exact Nat.or_lt_two_pow (n := 32) h1 h2
  · exact h
theorem clr_u32 {m i : Int} (h : inK .u32 m) : inK .u32 (clrM m i) := by
  unfold clrM
  split
  · rename_i hi
    unfold hasM at hi
    rw [Bool.and_eq_true] at hi
    have h1 := Nat.ge_two_pow_of_testBit hi.2
    have h2 := u32_toNat h
    have h : 0 ≤ m ∧ m ≤ 4294967295 := h
    generalize 2 ^ i.toNat = p at h1 ⊢
    exact ⟨by show (0 : Int) ≤ _; omega, by show _ ≤ (4294967295 : Int); omega⟩
  · exact h
theorem or_u32 {a b : Int} (ha : inK .u32 a) (hb : inK .u32 b) : inK .u32 (orM a b) := by
  unfold orM
  exact inK_u32 (Nat.or_lt_two_pow (n := 32) (u32_toNat ha).1 (u32_toNat hb).1)
structure OkS (N : Nat) (s : Store) : Prop where
  d : OkD N s.disk
  b : inK .i64 s.sup.blocks
  v : wVec s.sup.vector
  m : inK .u32 s.mask
theorem OkD.up {N M : Nat} {d : Disk} (o : OkD N d) (h : N ≤ M) : OkD M d :=
  ⟨Nat.le_trans o.s h, Nat.le_trans o.c h, o.r, o.f, o.p, fun s hs => Nat.le_trans (o.ds s hs) h, fun w hw => Nat.le_trans (o.dc w hw) h⟩
theorem OkS.up {N M : Nat} {s : Store} (o : OkS N s) (h : N ≤ M) : OkS M s := ⟨o.d.up h, o.b, o.v, o.m⟩
def wSup (b : Super) : Prop := inK .i64 b.blocks ∧ wVec b.vector
theorem commit_okD {N : Nat} {d : Disk} {s : Super} (o : OkD N d) (h64 : 64 ≤ N) : OkD (N + 1) (commitD d s).1 := by
  unfold commitD
  split
  · split
    · exact write_ok o h64
    · exact flush_okD (write_ok o h64)
  · exact more_okD o
theorem save_okD {N : Nat} {d : Disk} {m : Nat} (o : OkD N d) (h64 : 64 ≤ N) : OkD (N + 1) (saveV d m).1 := by
  unfold saveV
  split
  · exact note_ok o h64
  · exact flush_okD (note_ok o h64)
theorem okS_commit {N : Nat} {s : Store} {b : Super} (o : OkS N s) (h64 : 64 ≤ N) (hb : wSup b) : OkS (N + 1) (stCommit s b).1 := by
  unfold stCommit
  split
  · exact o.up (by omega)
  · refine ⟨commit_okD o.d h64, ?_, ?_, o.m⟩
    · dsimp only; split
      · exact hb.1
      · exact o.b
    · dsimp only; split
      · exact hb.2
      · exact o.v
theorem okS_save {N : Nat} {s : Store} {m : Int} (o : OkS N s) (h64 : 64 ≤ N) (hm : inK .u32 m) : OkS (N + 1) (stSave s m).1 := by
  unfold stSave
  split
  · exact o.up (by omega)
  · refine ⟨save_okD o.d h64, o.b, o.v, ?_⟩
    dsimp only; split
    · exact hm
    · exact o.m
theorem okS_note {N : Nat} {s : Store} {m : Int} (o : OkS N s) (h64 : 64 ≤ N) (hm : inK .u32 m) : OkS (N + 1) (stNote s m).1 := by
  unfold stNote
  split
  · exact o.up (by omega)
  · refine ⟨note_ok o.d h64, o.b, o.v, ?_⟩
    dsimp only; split
    · exact hm
    · exact o.m
theorem okS_mark {N : Nat} {s : Store} {i : Int} (o : OkS N s) (h64 : 64 ≤ N) : OkS (N + 1) (stMark s i).1 := by
  unfold stMark
  split
  · exact okS_save o h64 (set_u32 o.m)
  · exact o.up (by omega)
theorem okS_wipe {N : Nat} {s : Store} {i : Int} (o : OkS N s) (h64 : 64 ≤ N) : OkS (N + 1) (stWipe s i).1 := by
  unfold stWipe
  split
  · exact okS_note o h64 (clr_u32 o.m)
  · exact o.up (by omega)
theorem okS_join {N : Nat} {s : Store} {m : Int} (o : OkS N s) (h64 : 64 ≤ N) (hm : inK .u32 m) : OkS (N + 1) (stJoin s m).1 :=
  okS_save o h64 (or_u32 o.m hm)
theorem okS_put {N : Nat} {s : Store} {i : Int} {data : Str} (o : OkS N s) (h64 : 64 ≤ N) : OkS (N + 1) (stPut s i data).1 :=
  ⟨put_okD o.d h64, o.b, o.v, o.m⟩
structure OkN (N : Nat) (n : Node) : Prop where
  st : OkS N n.store
  se : inK .u64 n.session
  pe : wHello n.peer
  rq : n.req.data.length ≤ 8
  dl : n.draws.length ≤ N
  dg : ∀ g ∈ n.draws, inK .u64 g
  ml : n.mints.length ≤ N
  wa : inK .i64 n.wanted
theorem OkN.up {N M : Nat} {n : Node} (o : OkN N n) (h : N ≤ M) : OkN M n :=
  ⟨o.st.up h, o.se, o.pe, o.rq, Nat.le_trans o.dl h, o.dg, Nat.le_trans o.ml h, o.wa⟩
theorem u64_0 : inK .u64 0 := ⟨by decide, by decide⟩
theorem i64_0 : inK .i64 0 := ⟨by decide, by decide⟩
theorem wZV : wVec zV := ⟨u64_0, u64_0, u64_0, u64_0⟩
theorem OkN.sup {N : Nat} {n : Node} (o : OkN N n) : wSup n.store.sup := ⟨o.st.b, o.st.v⟩
theorem i64_of {x : Int} (h : -9223372036854775808 ≤ x ∧ x ≤ 9223372036854775807) : inK .i64 x := h
end Gm

set_option maxRecDepth 100000
namespace Gm
open Go
theorem u0 : inK .u64 0 := ⟨by decide, by decide⟩
end Gm

set_option maxRecDepth 100000
namespace Gm
open Go
def Good (o : Outp) : Prop := o.kind = 1 → o.data.length ≤ 200
def OkO (k : Nat) (l : List Outp) : Prop := l.length ≤ k ∧ ∀ o ∈ l, Good o
theorem OkO.up {k m : Nat} {l : List Outp} (h : OkO k l) (hm : k ≤ m) : OkO m l := ⟨Nat.le_trans h.1 hm, h.2⟩
structure OkL (N : Nat) (l : Link) : Prop where
  s : inK .u64 l.session
  a : l.to0.length ≤ N
  b : l.to1.length ≤ N
  p : ∀ x ∈ l.to0, x.length ≤ 200
  q : ∀ x ∈ l.to1, x.length ≤ 200
structure OkC (N : Nat) (c : Cluster) : Prop where
  a : OkN N c.n0
  b : OkN N c.n1
  l : OkL N c.link
theorem OkL.up {N M : Nat} {l : Link} (o : OkL N l) (h : N ≤ M) : OkL M l := ⟨o.s, Nat.le_trans o.a h, Nat.le_trans o.b h, o.p, o.q⟩
theorem OkC.up {N M : Nat} {c : Cluster} (o : OkC N c) (h : N ≤ M) : OkC M c := ⟨o.a.up h, o.b.up h, o.l.up h⟩
theorem OkC.node {N : Nat} {c : Cluster} (o : OkC N c) (i : Bool) : OkN N (nodeC c i) := by cases i; exact o.a; exact o.b
theorem unbe_w (t : Str) (i : Nat) (h : i + 8 ≤ t.length) : inK .u64 (numAt t i) := by
  have := unbe_lt 8 (sub t i (i + 8)) (by rw [sub_len h]; omega)
  have : unbe (sub t i (i + 8)) < 18446744073709551616 := by simpa using this
  exact ⟨by show (0 : Int) ≤ ((unbe _ : Nat) : Int); omega, by show ((unbe _ : Nat) : Int) ≤ (18446744073709551615 : Int); omega⟩
theorem decS6_w (b : Str) : wSup (decS6 b).1 := by
  unfold decS6
  split
  · exact ⟨i64_0, wZV⟩
  split
  · rename_i h
    have hl := h.1
    have h3 := u8_lt ((openV b).1.getD 3 0)
    refine ⟨⟨by show (-9223372036854775808 : Int) ≤ ((_ : Nat) : Int); omega, by show ((_ : Nat) : Int) ≤ (9223372036854775807 : Int); omega⟩, unbe_w _ _ (by omega), unbe_w _ _ (by omega), unbe_w _ _ (by omega), unbe_w _ _ (by omega)⟩
  · exact ⟨i64_0, wZV⟩
theorem loadS_w (d : Disk) : wSup (loadS d).1 := by
  unfold loadS
  repeat' split
  all_goals first
    | exact ⟨i64_0, wZV⟩
    | exact decS6_w _
theorem loadV_w (d : Disk) : inK .u32 (loadV d).1 := by
  unfold loadV
  repeat' split
  all_goals first
    | exact inK_u32 (by decide)
    | skip
  all_goals
    rename_i h
    have h1 := unbe_lt 4 (openV (readV d 1).1).1 h.1
    exact inK_u32 (by simpa using h1)
theorem okS_zero (N : Nat) : OkS N zSt :=
  ⟨⟨Nat.zero_le _, Nat.zero_le _, fun w h => (by cases h), i64_0, by show (0 : Int) ≤ 0; omega, fun s h => (by cases h), fun w h => (by cases h)⟩, i64_0, wZV, inK_u32 (by decide)⟩
theorem okS_attach {N : Nat} {d : Disk} (o : OkD N d) : OkS N (stAttach d).1 := by
  unfold stAttach
  repeat' split
  all_goals first
    | exact okS_zero N
    | exact ⟨o, (loadS_w d).1, (loadS_w d).2, loadV_w d⟩
end Gm
