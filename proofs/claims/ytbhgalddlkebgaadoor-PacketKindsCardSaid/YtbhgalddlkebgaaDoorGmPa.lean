/- Plain laws: bytes of numbers. -/
import Derived.Test.YtbhgalddlkebgaaDoorGmRb
namespace Gm
open Go

/-- A number's last bytes, the great ones first. -/
def be (n : Nat) : Nat → Str
  | 0 => []
  | k + 1 => be (n / 256) k ++ [UInt8.ofNat n]
def unbe (s : Str) : Nat := s.foldl (fun n b => n * 256 + b.toNat) 0

theorem be_length (k : Nat) : ∀ n, (be n k).length = k := by
  induction k with
  | zero => intro n; rfl
  | succ k ih => intro n; simp [be, ih]

theorem be_cons (k : Nat) : ∀ n, be n (k + 1) = UInt8.ofNat (n / 256 ^ k) :: be n k := by
  induction k with
  | zero => intro n; simp [be]
  | succ k ih =>
    intro n
    rw [be, ih (n / 256)]
    rw [Nat.div_div_eq_div_mul, Nat.pow_succ, Nat.mul_comm (256 ^ k)]
    rfl

theorem unbe_snoc (s : Str) (b : UInt8) : unbe (s ++ [b]) = unbe s * 256 + b.toNat := by simp [unbe]

theorem toNat_ofNat (n : Nat) : (UInt8.ofNat n).toNat = n % 256 := by simp

theorem unbe_be (k : Nat) : ∀ n, unbe (be n k) = n % 256 ^ k := by
  induction k with
  | zero => intro n; simp [be, unbe, Nat.mod_one]
  | succ k ih =>
    intro n
    rw [be, unbe_snoc, ih, toNat_ofNat, Nat.pow_succ, Nat.mul_comm (256 ^ k), Nat.mod_mul]
    omega

theorem snoc_cases (s : Str) : s = [] ∨ ∃ t b, s = t ++ [b] := by
  rcases List.eq_nil_or_concat s with h | ⟨t, b, h⟩
  · exact .inl h
  · exact .inr ⟨t, b, by simpa using h⟩

theorem unbe_lt : ∀ (k : Nat) (s : Str), s.length = k → unbe s < 256 ^ k
  | 0, s, h => by
    cases List.length_eq_zero_iff.1 h
    simp [unbe]
  | k + 1, s, h => by
    rcases snoc_cases s with rfl | ⟨t, b, rfl⟩
    · simp at h
    · have := unbe_lt k t (by simpa using h)
      have hb := b.toNat_lt
      rw [unbe_snoc, Nat.pow_succ]
      omega

theorem be_unbe : ∀ (k : Nat) (s : Str), s.length = k → be (unbe s) k = s
  | 0, s, h => by cases List.length_eq_zero_iff.1 h; rfl
  | k + 1, s, h => by
    rcases snoc_cases s with rfl | ⟨t, b, rfl⟩
    · simp at h
    · have hb := b.toNat_lt
      rw [be, unbe_snoc]
      rw [show (unbe t * 256 + b.toNat) / 256 = unbe t by omega, be_unbe k t (by simpa using h)]
      congr 1
      have : UInt8.ofNat (unbe t * 256 + b.toNat) = b := by
        apply UInt8.toNat_inj.1
        rw [toNat_ofNat]
        omega
      rw [this]

theorem be_mod (k : Nat) : ∀ n, be (n % 256 ^ k) k = be n k := by
  intro n
  have h := be_unbe k (be n k) (be_length k n)
  rwa [unbe_be] at h

/-! ### Whole numbers of a kind -/

theorem wrap_u64 (x : Int) : IntKind.u64.wrap x = x % 18446744073709551616 := rfl
theorem wrap_u32 (x : Int) : IntKind.u32.wrap x = x % 4294967296 := rfl
theorem wrap_u8 (x : Int) : IntKind.u8.wrap x = x % 256 := rfl
theorem wrap_u16 (x : Int) : IntKind.u16.wrap x = x % 65536 := rfl
theorem wrap_i64 {x : Int} (h : -9223372036854775808 ≤ x ∧ x ≤ 9223372036854775807) : IntKind.i64.wrap x = x := by
  simp [IntKind.wrap, IntKind.bits, IntKind.signed]
  split <;> omega

theorem ofInt_nat (w n : Nat) : BitVec.ofInt w (n : Int) = BitVec.ofNat w n := by
  apply BitVec.eq_of_toNat_eq
  simp

theorem wrap_nat {k : IntKind} (hk : k.signed = false) (n : Nat) : k.wrap (n : Int) = ((n % 2 ^ k.bits : Nat) : Int) := by
  unfold IntKind.wrap
  simp [hk]

theorem ixor_nat {k : IntKind} (hk : k.signed = false) {x y : Nat} (hx : x < 2 ^ k.bits) (hy : y < 2 ^ k.bits) : ixor k x y = ((x ^^^ y : Nat) : Int) := by
  unfold ixor
  rw [ofInt_nat, ofInt_nat, wrap_nat hk, BitVec.toNat_xor, BitVec.toNat_ofNat, BitVec.toNat_ofNat, Nat.mod_eq_of_lt hx, Nat.mod_eq_of_lt hy, Nat.mod_eq_of_lt (Nat.xor_lt_two_pow hx hy)]
theorem ior_nat {k : IntKind} (hk : k.signed = false) {x y : Nat} (hx : x < 2 ^ k.bits) (hy : y < 2 ^ k.bits) : ior k x y = ((x ||| y : Nat) : Int) := by
  unfold ior
  rw [ofInt_nat, ofInt_nat, wrap_nat hk, BitVec.toNat_or, BitVec.toNat_ofNat, BitVec.toNat_ofNat, Nat.mod_eq_of_lt hx, Nat.mod_eq_of_lt hy, Nat.mod_eq_of_lt (Nat.or_lt_two_pow hx hy)]
theorem iand_nat {k : IntKind} (hk : k.signed = false) {x y : Nat} (hx : x < 2 ^ k.bits) (hy : y < 2 ^ k.bits) : iand k x y = ((x &&& y : Nat) : Int) := by
  unfold iand
  rw [ofInt_nat, ofInt_nat, wrap_nat hk, BitVec.toNat_and, BitVec.toNat_ofNat, BitVec.toNat_ofNat, Nat.mod_eq_of_lt hx, Nat.mod_eq_of_lt hy, Nat.mod_eq_of_lt (Nat.lt_of_le_of_lt Nat.and_le_left hx)]
theorem ishr_nat {k : IntKind} (x : Nat) {y : Nat} (hy : y ≤ k.bits) : ishr k x y = ((x / 2 ^ y : Nat) : Int) := by
  unfold ishr
  have e : min (y : Int).toNat k.bits = y := by simp; omega
  rw [e, show ((2 : Int) ^ y) = ((2 ^ y : Nat) : Int) by simp, show ((x : Int).fdiv ((2 ^ y : Nat) : Int)) = ((x / 2 ^ y : Nat) : Int) by rw [Int.fdiv_eq_ediv_of_nonneg _ (Int.natCast_nonneg _)]; norm_cast]
theorem ishl_nat {k : IntKind} (hk : k.signed = false) (x : Nat) {y : Nat} (hy : y ≤ k.bits) : ishl k x y = ((x * 2 ^ y % 2 ^ k.bits : Nat) : Int) := by
  unfold ishl
  have e : min (y : Int).toNat k.bits = y := by simp; omega
  rw [e, show ((x : Int) * (2 : Int) ^ y) = ((x * 2 ^ y : Nat) : Int) by simp, wrap_nat hk]

/-! ### Steps of a run -/

theorem gd_ok {c : Bool} {p : Prop} (h : c = true) (hp : p) : bif c then p else False := by rw [h]; exact hp
theorem cond_ok {c : Bool} {p q : Prop} (ht : c = true → p) (hf : c = false → q) : bif c then p else q := by
  cases c
  · exact hf rfl
  · exact ht rfl
theorem cond_t {c : Bool} {p q : Prop} (h : c = true) (hp : p) : bif c then p else q := by rw [h]; exact hp
theorem cond_f {c : Bool} {p q : Prop} (h : c = false) (hq : q) : bif c then p else q := by rw [h]; exact hq
theorem oget_ok {α : Type} {x : Option α} {K : α → Prop} {v : α} (h : x = some v) (hk : K v) : oget x K := by rw [h]; exact hk

/-- A loop ends: each round makes the measure less. -/
theorem loop_ok {α β : Type} {B : (α → Prop) → (α → Prop) → (β → Prop) → α → Prop} {kx : α → Prop} {kr : β → Prop} (I : α → Prop) (m : α → Nat)
    (h : ∀ x, I x → ∀ rec : α → Prop, (∀ y, I y → m y < m x → rec y) → B rec kx kr x) {x0 : α} (h0 : I x0) : ∃ n, loopB B n kx kr x0 := by
  have key : ∀ n x, I x → m x < n → loopB B n kx kr x := by
    intro n
    induction n with
    | zero => intro x _ h; omega
    | succ n ih => intro x hx hm; exact h x hx _ (fun y hy hlt => ih y hy (by omega))
  exact ⟨m x0 + 1, key _ x0 h0 (by omega)⟩

end Gm
