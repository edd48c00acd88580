/- Plain laws: what blocks on disks hold, and are put. -/
import Derived.Test.YtbhgalddlkebgaaGmPj
import Derived.Test.YtbhgalddlkebgaaGmT8
set_option maxRecDepth 100000
namespace Gm
open Go

def bd (d : Disk) (i : Int) : Prop := 0 ≤ i ∧ i < (d.sure.length : Int) - 2
instance (d : Disk) (i : Int) : Decidable (bd d i) := by unfold bd; infer_instance

theorem area_there_ok {d : Disk} {i : Int} (hs : d.sure.length ≤ 1000000) {K : Bool → Prop} (h : K (decide (bd d i))) : area_there.F d i K := by
  unfold area_there.F
  rw [sub2 hs]
  refine cond_ok (fun h1 => ?_) (fun h1 => ?_)
  · have h1 : i ≥ 0 := of_decide_eq_true h1
    rw [show decide (bd d i) = decide (i < (d.sure.length : Int) - 2) by rw [Bool.eq_iff_iff, decide_eq_true_eq, decide_eq_true_eq]; unfold bd; omega] at h
    exact h
  · have h1 : ¬ i ≥ 0 := of_decide_eq_false h1
    rw [show decide (bd d i) = false from decide_eq_false (by unfold bd; omega)] at h
    exact h
theorem ref09_there_ok {d : Disk} {i : Int} (hs : d.sure.length ≤ 1000000) {K : Bool → Prop} (h : K (decide (bd d i))) : ref09_there.F d i K := by
  unfold ref09_there.F
  rw [sub2 hs]
  refine cond_ok (fun h1 => ?_) (fun h1 => ?_)
  · have h1 : i ≥ 0 := of_decide_eq_true h1
    rw [show decide (bd d i) = decide (i < (d.sure.length : Int) - 2) by rw [Bool.eq_iff_iff, decide_eq_true_eq, decide_eq_true_eq]; unfold bd; omega] at h
    exact h
  · have h1 : ¬ i ≥ 0 := of_decide_eq_false h1
    rw [show decide (bd d i) = false from decide_eq_false (by unfold bd; omega)] at h
    exact h

/-- What a block's reading answers. -/
def aReadV (d : Disk) (i : Int) : Str × Int :=
  if bd d i then (if (readV d (i + 2)).2 ≠ 0 then ([], (readV d (i + 2)).2) else if (readV d (i + 2)).1.length = 8 then ((readV d (i + 2)).1, 0) else ([], 2)) else ([], 4)

theorem add2 {d : Disk} {i : Int} (hs : d.sure.length ≤ 1000000) (h : bd d i) : IntKind.i64.wrap (i + 2) = i + 2 := by
  obtain ⟨h1, h2⟩ := h
  exact wrap_i64 (by omega)

theorem area_Read_ok {N : Nat} {d : Disk} {i : Int} (hN : N ≤ 100000) (o : OkD N d) {K : (Str × Int) → Prop} (h : K (aReadV d i)) : area_Read.F d i K := by
  have hs := o.s
  have hc := o.c
  unfold area_Read.F
  unfold aReadV at h
  refine area_there_ok (by omega) (cond_ok (fun h1 => ?_) (fun h1 => ?_))
  · rw [if_neg (by simpa using h1)] at h; exact h
  have h1 : bd d i := by simpa using h1
  rw [if_pos h1] at h
  rw [add2 (by omega) h1]
  refine disk_Read_ok (by omega) (by omega) (cond_ok (fun h2 => ?_) (fun h2 => ?_))
  · rw [if_pos (by simpa using h2)] at h; exact h
  rw [if_neg (by simpa using h2)] at h
  refine cond_ok (fun h3 => ?_) (fun h3 => ?_)
  · rw [if_neg (bne_nat (b := 8) h3)] at h; exact h
  · rw [if_pos (bne_nat' (b := 8) h3)] at h; exact h
theorem ref09_Read_ok {N : Nat} {d : Disk} {i : Int} (hN : N ≤ 100000) (o : OkD N d) {K : (Str × Int) → Prop} (h : K (aReadV d i)) : ref09_Read.F d i K := by
  have hs := o.s
  have hc := o.c
  unfold ref09_Read.F
  unfold aReadV at h
  refine ref09_there_ok (by omega) (cond_ok (fun h1 => ?_) (fun h1 => ?_))
  · rw [if_neg (by simpa using h1)] at h; exact h
  have h1 : bd d i := by simpa using h1
  rw [if_pos h1] at h
  rw [add2 (by omega) h1]
  refine ref04_Read_ok (by omega) (cond_ok (fun h2 => ?_) (fun h2 => ?_))
  · rw [if_pos (by simpa using h2)] at h; exact h
  rw [if_neg (by simpa using h2)] at h
  refine cond_ok (fun h3 => ?_) (fun h3 => ?_)
  · rw [if_neg (bne_nat (b := 8) h3)] at h; exact h
  · rw [if_pos (bne_nat' (b := 8) h3)] at h; exact h

/-- What a block's putting makes. -/
def putV (d : Disk) (i : Int) (data : Str) : Disk × Int :=
  if bd d i then (if data.length = 8 then (if (writeV d (i + 2) data).2 ≠ 0 then writeV d (i + 2) data else flushV (writeV d (i + 2) data).1) else (d, 5)) else (d, 4)

theorem area_Put_ok {N : Nat} {d : Disk} {i : Int} {data : Str} (hN : N ≤ 10000) (h64 : 64 ≤ N) (o : OkD N d) {K : (Disk × Int) → Prop} (h : K (putV d i data)) : area_Put.F d i data K := by
  have hs := o.s
  have hc := o.c
  unfold area_Put.F
  unfold putV at h
  refine area_there_ok (by omega) (cond_ok (fun h1 => ?_) (fun h1 => ?_))
  · rw [if_neg (by simpa using h1)] at h; exact h
  have h1 : bd d i := by simpa using h1
  rw [if_pos h1] at h
  rw [add2 (by omega) h1]
  refine cond_ok (fun h3 => ?_) (fun h3 => ?_)
  · rw [if_neg (bne_nat (b := 8) h3)] at h; exact h
  rw [if_pos (bne_nat' (b := 8) h3)] at h
  refine disk_Write_ok (by omega) o.f o.p (cond_ok (fun h2 => ?_) (fun h2 => ?_))
  · rw [if_pos (by simpa using h2)] at h; exact h
  rw [if_neg (by simpa using h2)] at h
  have o2 := write_ok (i := i + 2) (data := data) o h64
  exact disk_Flush_ok (by have := o2.s; omega) (by have := o2.c; omega) o2.r o2.f o2.p h
theorem ref09_Put_ok {N : Nat} {d : Disk} {i : Int} {data : Str} (hN : N ≤ 10000) (h64 : 64 ≤ N) (o : OkD N d) {K : (Disk × Int) → Prop} (h : K (putV d i data)) : ref09_Put.F d i data K := by
  have hs := o.s
  have hc := o.c
  unfold ref09_Put.F
  unfold putV at h
  refine ref09_there_ok (by omega) (cond_ok (fun h1 => ?_) (fun h1 => ?_))
  · rw [if_neg (by simpa using h1)] at h; exact h
  have h1 : bd d i := by simpa using h1
  rw [if_pos h1] at h
  rw [add2 (by omega) h1]
  refine cond_ok (fun h3 => ?_) (fun h3 => ?_)
  · rw [if_neg (bne_nat (b := 8) h3)] at h; exact h
  rw [if_pos (bne_nat' (b := 8) h3)] at h
  refine ref04_Write_ok (by omega) o (cond_ok (fun h2 => ?_) (fun h2 => ?_))
  · rw [if_pos (by simpa using h2)] at h; exact h
  rw [if_neg (by simpa using h2)] at h
  have o2 := write_ok (i := i + 2) (data := data) o h64
  exact ref04_Flush_ok (N := N + 1) (by omega) o2 h

/-- The first blocks. -/
def allN (d : Disk) : Nat → List Str × Int
  | 0 => ([], 0)
  | n + 1 => if (allN d n).2 ≠ 0 then allN d n else if (aReadV d n).2 ≠ 0 then ([], (aReadV d n).2) else ((allN d n).1 ++ [(aReadV d n).1], 0)
def allV (d : Disk) : List Str × Int := allN d (d.sure.length - 2)

theorem allN_len {d : Disk} : ∀ {n : Nat}, (allN d n).2 = 0 → (allN d n).1.length = n
  | 0, _ => rfl
  | n + 1, h => by
    unfold allN at h ⊢
    split at h
    · rename_i h1; exact absurd h h1
    · rename_i h1
      rw [if_neg h1]
      split at h
      · rename_i h2; exact absurd h h2
      · rename_i h2
        rw [if_neg h2]
        simp [allN_len (n := n) (Classical.not_not.1 h1)]
theorem allN_bad {d : Disk} {n : Nat} (h : (allN d n).2 ≠ 0) : ∀ m, n ≤ m → allN d m = allN d n := by
  intro m hm
  induction m with
  | zero => have : n = 0 := by omega
            subst this; rfl
  | succ m ih =>
    by_cases e : n = m + 1
    · subst e; rfl
    · have := ih (by omega)
      show (if (allN d m).2 ≠ 0 then _ else _) = _
      rw [this, if_pos h]

theorem area_All_ok {N : Nat} {d : Disk} (hN : N ≤ 10000) (o : OkD N d) {K : (List Str × Int) → Prop} (h : K (allV d)) : area_All.F d K := by
  have hs := o.s
  unfold area_All.F
  have e0 : maxI2 (IntKind.i64.wrap ((d.sure.length : Int) - 2)) 0 = ((d.sure.length - 2 : Nat) : Int) := by
    rw [sub2 (by omega)]
    unfold maxI2
    split <;> omega
  rw [e0]
  refine loop_ok (I := fun x : area_All.L0 => ∃ k : Nat, k ≤ d.sure.length - 2 ∧ (allN d k).2 = 0 ∧ x = ⟨(allN d k).1, ((d.sure.length - 2 : Nat) : Int), k, d.sure, d.cache, d.fuse, d.dead⟩) (m := fun x : area_All.L0 => d.sure.length - x.t13.toNat) ?_ ⟨0, by omega, rfl, rfl⟩
  rintro _ ⟨k, hk, he, rfl⟩ rec hrec
  unfold area_All.b0
  dsimp only
  refine cond_ok (fun h1 => ?_) (fun h1 => ?_)
  · have h1 := lt_of_dec h1
    refine area_Read_ok (N := N) (by omega) o (cond_ok (fun h2 => ?_) (fun h2 => ?_))
    · have h2 : (aReadV d k).2 ≠ 0 := by simpa using h2
      have e1 : allN d (k + 1) = ([], (aReadV d k).2) := by
        show (if (allN d k).2 ≠ 0 then _ else _) = _
        rw [if_neg (by simp [he]), if_pos h2]
      have e2 := allN_bad (n := k + 1) (by rw [e1]; exact h2) (d.sure.length - 2) (by omega)
      unfold allV at h
      rw [e2, e1] at h
      exact h
    · have h2 : (aReadV d k).2 = 0 := by simpa using h2
      have e1 : allN d (k + 1) = ((allN d k).1 ++ [(aReadV d k).1], 0) := by
        show (if (allN d k).2 ≠ 0 then _ else _) = _
        rw [if_neg (by simp [he]), if_neg (by simp [h2])]
      have hl := allN_len he
      refine gd_ok (fit_ok (by simp; omega)) (hrec _ ⟨k + 1, by omega, by rw [e1], ?_⟩ ?_)
      · rw [wrap_lt h1 (by unfold big; omega), e1]
      · rw [wrap_lt h1 (by unfold big; omega)]
        dsimp only
        omega
  · have e := le_of_dec h1 hk
    unfold allV at h
    rw [← e] at h
    rw [show allN d k = ((allN d k).1, (allN d k).2) from rfl, he] at h
    exact h

theorem ref09_All_ok {N : Nat} {d : Disk} (hN : N ≤ 10000) (o : OkD N d) {K : (List Str × Int) → Prop} (h : K (allV d)) : ref09_All.F d K := by
  have hs := o.s
  unfold ref09_All.F
  refine loop_ok (I := fun x : ref09_All.L0 => ∃ k : Nat, k ≤ d.sure.length - 2 ∧ (allN d k).2 = 0 ∧ x = ⟨(allN d k).1, k, d.sure, d.cache, d.fuse, d.dead⟩) (m := fun x : ref09_All.L0 => d.sure.length - x.i.toNat) ?_ ⟨0, by omega, rfl, rfl⟩
  rintro _ ⟨k, hk, he, rfl⟩ rec hrec
  unfold ref09_All.b0
  dsimp only
  rw [sub2 (by omega)]
  refine cond_ok (fun h1 => ?_) (fun h1 => ?_)
  · have h1 : (k : Int) < (d.sure.length : Int) - 2 := of_decide_eq_true h1
    have h1 : k < d.sure.length - 2 := by omega
    refine ref09_Read_ok (N := N) (by omega) o (cond_ok (fun h2 => ?_) (fun h2 => ?_))
    · have h2 : (aReadV d k).2 ≠ 0 := by simpa using h2
      have e1 : allN d (k + 1) = ([], (aReadV d k).2) := by
        show (if (allN d k).2 ≠ 0 then _ else _) = _
        rw [if_neg (by simp [he]), if_pos h2]
      have e2 := allN_bad (n := k + 1) (by rw [e1]; exact h2) (d.sure.length - 2) (by omega)
      unfold allV at h
      rw [e2, e1] at h
      exact h
    · have h2 : (aReadV d k).2 = 0 := by simpa using h2
      have e1 : allN d (k + 1) = ((allN d k).1 ++ [(aReadV d k).1], 0) := by
        show (if (allN d k).2 ≠ 0 then _ else _) = _
        rw [if_neg (by simp [he]), if_neg (by simp [h2])]
      have hl := allN_len he
      refine gd_ok (fit_ok (by simp; omega)) (hrec _ ⟨k + 1, by omega, by rw [e1], ?_⟩ ?_)
      · rw [wrap_lt h1 (by unfold big; omega), e1]
      · rw [wrap_lt h1 (by unfold big; omega)]
        dsimp only
        omega
  · have h1 : ¬ (k : Int) < (d.sure.length : Int) - 2 := of_decide_eq_false h1
    have e : k = d.sure.length - 2 := by omega
    unfold allV at h
    rw [← e] at h
    rw [show allN d k = ((allN d k).1, (allN d k).2) from rfl, he] at h
    exact h

theorem ref09_Texts_ok {a b : List Str} (ha : a.length ≤ 1000000) {K : Bool → Prop} (h : K (decide (a = b))) : ref09_Texts.F a b K := by
  unfold ref09_Texts.F
  refine cond_ok (fun h1 => ?_) (fun h1 => ?_)
  · have h1 := bne_nat h1
    rw [show decide (a = b) = false by simp; rintro rfl; exact h1 rfl] at h
    exact h
  have hl := bne_nat' h1
  refine loop_ok (I := fun x : ref09_Texts.L0 => ∃ k : Nat, k ≤ a.length ∧ a.take k = b.take k ∧ x = ⟨a, b, k⟩) (m := fun x : ref09_Texts.L0 => a.length - x.i.toNat) ?_ ⟨0, by omega, rfl, rfl⟩
  rintro _ ⟨k, hk, he, rfl⟩ rec hrec
  unfold ref09_Texts.b0
  dsimp only
  refine cond_ok (fun h2 => ?_) (fun h2 => ?_)
  · have h2 := lt_of_dec h2
    refine oget_ok (getI_ok h2) (oget_ok (getI_ok (xs := b) (by omega)) (cond_ok (fun h3 => ?_) (fun h3 => ?_)))
    · have h3 : a[k] ≠ b[k] := by simpa using h3
      rw [show decide (a = b) = false by simp; rintro rfl; exact h3 rfl] at h
      exact h
    · have h3 : a[k] = b[k] := by simpa using h3
      refine hrec _ ⟨k + 1, by omega, ?_, ?_⟩ ?_
      · rw [take_succ h2, take_succ (xs := b) (by omega), he, h3]
      · rw [wrap_lt h2 (by unfold big; omega)]
      · rw [wrap_lt h2 (by unfold big; omega)]
        dsimp only
        omega
  · have e := le_of_dec h2 hk
    subst e
    rw [List.take_length, hl, List.take_length] at he
    rw [show decide (a = b) = true by simpa using he] at h
    exact h
end Gm

/- Plain laws: a formatted disk. -/
set_option maxRecDepth 100000
namespace Gm
open Go

def supN (b g : Int) : Super := ⟨b, ⟨g, 0, 0, 0⟩, false, false, false⟩
/-- A superblock's bytes, without the seal. -/
def sB (b g : Nat) : Str := [71, 77, 1] ++ [UInt8.ofNat b, 0] ++ be g 8 ++ be 0 8 ++ be 0 8 ++ be 0 8
theorem sB_length (b g : Nat) : (sB b g).length = 37 := by simp [sB, be_length]

theorem u8s {b : Nat} (h : b ≤ 32) (x : Nat) : bytesOfInts [IntKind.u8.wrap (b : Int), (x : Int)] = [UInt8.ofNat b, UInt8.ofNat x] := by
  simp only [bytesOfInts, List.map_cons, List.map_nil, Int.toNat_natCast]
  rw [wrap_u8, show (b : Int) % 256 = (b : Int) by omega]
  rfl

theorem super_Right_ok {b g : Nat} (h1 : 1 ≤ b) (h2 : b ≤ 32) {K : Bool → Prop} (k : K ((g : Int) != 0)) : super_Right.F (supN b g) K := by
  unfold super_Right.F supN
  refine mask_All_ok h1 h2 (cond_t ?_ k)
  have : 2 ≤ 2 ^ b := Nat.pow_le_pow_right (n := 2) (by decide) h1
  simp
  omega

theorem loop_round {α β : Type} {B : (α → Prop) → (α → Prop) → (β → Prop) → α → Prop} {n : Nat} {kx : α → Prop} {kr : β → Prop} {x : α}
    (h : ∀ rec : α → Prop, rec = loopB B n kx kr → B rec kx kr x) : loopB B (n + 1) kx kr x := h _ rfl

theorem super_Encode_ok {b g : Nat} (h1 : 1 ≤ b) (h2 : b ≤ 32) {K : (Str × Int) → Prop} (k : K (if g = 0 then ([], 1) else (sealV (sB b g), 0))) : super_Encode.F (supN b g) K := by
  unfold super_Encode.F
  refine super_Right_ok h1 h2 (cond_ok (fun h3 => ?_) (fun h3 => ?_))
  · rw [if_pos (by simp at h3; omega)] at k; exact k
  rw [if_neg (by simp at h3; omega)] at k
  refine num_Flags_ok (gd_ok (fits_small (by simp [bytesOfInts])) ⟨5, ?_⟩)
  dsimp only [supN]
  rw [u8s h2]
  refine loop_round fun rec hrec4 => ?_
  unfold super_Encode.b0
  dsimp only
  refine cond_t (decide_eq_true (by decide)) (cond_t (by decide) (num_Put64_ok (n := g) (gd_ok (fits_small (by simp [be_length])) ?_)))
  rw [hrec4]
  refine loop_round fun rec hrec3 => ?_
  unfold super_Encode.b0
  dsimp only
  refine cond_t (decide_eq_true (by decide)) (cond_f (by decide) (cond_t (by decide) (num_Put64_ok (n := 0) (gd_ok (fits_small (by simp [be_length])) ?_))))
  rw [hrec3]
  refine loop_round fun rec hrec2 => ?_
  unfold super_Encode.b0
  dsimp only
  refine cond_t (decide_eq_true (by decide)) (cond_f (by decide) (cond_f (by decide) (cond_t (by decide) (num_Put64_ok (n := 0) (gd_ok (fits_small (by simp [be_length])) ?_)))))
  rw [hrec2]
  refine loop_round fun rec hrec1 => ?_
  unfold super_Encode.b0
  dsimp only
  refine cond_t (decide_eq_true (by decide)) (cond_f (by decide) (cond_f (by decide) (cond_f (by decide) (cond_t (by decide) (num_Put64_ok (n := 0) (gd_ok (fits_small (by simp [be_length])) ?_))))))
  rw [hrec1]
  refine loop_round fun rec hrec0 => ?_
  unfold super_Encode.b0
  dsimp only
  refine cond_f (decide_eq_false (by decide)) (check_Seal_ok (wStr_of (by simp [be_length])) ?_)
  exact k

theorem ref06_Right_ok {b : Int} {g : Nat} {K : Bool → Prop} (k : K (decide (1 ≤ b ∧ b ≤ 32 ∧ g ≠ 0))) : ref06_Right.F (supN b g) K := by
  unfold ref06_Right.F supN
  refine cond_ok (fun h1 => ?_) (fun h1 => ?_)
  · have h1 : b ≥ 1 := of_decide_eq_true h1
    refine cond_ok (fun h2 => ?_) (fun h2 => ?_)
    · have h2 : b ≤ 32 := of_decide_eq_true h2
      by_cases hg : g = 0
      · subst hg
        rw [decide_eq_false (by simp)] at k; exact k
      · rw [decide_eq_true ⟨h1, h2, hg⟩] at k
        rw [show ((g : Int) != 0) = true by simp; omega]
        exact k
    · have h2 : ¬ b ≤ 32 := of_decide_eq_false h2
      rw [decide_eq_false (by omega)] at k; exact k
  · have h1 : ¬ b ≥ 1 := of_decide_eq_false h1
    rw [decide_eq_false (by omega)] at k; exact k

theorem ref06_bytes_ok {b g : Nat} (h2 : b ≤ 32) (hg : g < 18446744073709551616) {K : Str → Prop} (k : K (sB b g)) : ref06_bytes.F (supN b g) K := by
  unfold ref06_bytes.F
  dsimp only [supN]
  refine ref01_Flags_ok (ref01_Put64_ok (by omega) (gd_ok (fits_small (by simp [bytesOfInts, be_length])) ?_))
  refine ref01_Put64_ok (n := 0) (by omega) (gd_ok (fits_small (by simp [bytesOfInts, be_length])) ?_)
  refine ref01_Put64_ok (n := 0) (by omega) (gd_ok (fits_small (by simp [bytesOfInts, be_length])) ?_)
  refine ref01_Put64_ok (n := 0) (by omega) (gd_ok (fits_small (by simp [bytesOfInts, be_length])) ?_)
  rw [u8s (by omega)]
  exact k

theorem ref06_Encode_ok {b : Int} {g : Nat} (hg : g < 18446744073709551616) {K : (Str × Int) → Prop} (k : K (if 1 ≤ b ∧ b ≤ 32 ∧ g ≠ 0 then (sealV (sB b.toNat g), 0) else ([], 1))) : ref06_Encode.F (supN b g) K := by
  unfold ref06_Encode.F
  refine ref06_Right_ok (cond_ok (fun h3 => ?_) (fun h3 => ?_))
  · rw [if_neg (by intro hh; rw [decide_eq_true hh] at h3; cases h3)] at k; exact k
  have h3 : 1 ≤ b ∧ b ≤ 32 ∧ g ≠ 0 := by
    cases hd : decide (1 ≤ b ∧ b ≤ 32 ∧ g ≠ 0) with
    | true => exact of_decide_eq_true hd
    | false => rw [hd] at h3; cases h3
  rw [if_pos h3] at k
  obtain ⟨b, rfl⟩ : ∃ n : Nat, b = n := ⟨b.toNat, by omega⟩
  exact ref06_bytes_ok (by omega) hg (ref02_Seal_ok (wStr_of (by rw [sB_length]; decide)) k)

/-- A disk without a fuse, with nothing in its cache. -/
def bare (s : List Str) : Disk := ⟨s, [], 0, false⟩
theorem bare_okD {N : Nat} {s : List Str} (h : s.length ≤ N) (h2 : ∀ x ∈ s, x.length ≤ N) : OkD N (bare s) :=
  ⟨h, Nat.zero_le _, (fun w h => by cases h), in0, (by show (0 : Int) ≤ 0; omega), h2, (fun w h => by cases h)⟩

theorem write_bare {s : List Str} {i : Nat} {data : Str} (hi : i < s.length) (hd : data.length ≤ 64) : writeV (bare s) i data = (⟨s, [⟨i, data⟩], 0, false⟩, 0) := by
  unfold writeV bare
  rw [if_neg (by simp), if_neg (fun h => h ⟨by omega, by dsimp only; omega⟩), if_neg (by omega), if_pos rfl]
  rfl
theorem flush_one {s : List Str} {i : Nat} {data : Str} : flushV ⟨s, [⟨i, data⟩], 0, false⟩ = (bare (s.set i data), 0) := by
  unfold flushV bare settleV
  simp
theorem put_bare {s : List Str} {i : Nat} {data : Str} (hi : i + 2 < s.length) (hd : data.length = 8) : putV (bare s) i data = (bare (s.set (i + 2) data), 0) := by
  have e : writeV (bare s) ((i : Int) + 2) data = (⟨s, [⟨((i + 2 : Nat) : Int), data⟩], 0, false⟩, 0) := by
    rw [show (i : Int) + 2 = ((i + 2 : Nat) : Int) by omega]
    exact write_bare hi (by omega)
  unfold putV
  rw [if_pos ⟨by omega, by show (i : Int) < (s.length : Int) - 2; omega⟩, if_pos hd, e, if_neg (by simp)]
  exact flush_one

theorem meta_Commit_ok {b g : Nat} {s : List Str} (h1 : 1 ≤ b) (h2 : b ≤ 32) (hs : s.length = b + 2) (h3 : ∀ x ∈ s, x.length ≤ 64) {K : (Disk × Int) → Prop}
    (k : K (if g = 0 then (bare s, 1) else (bare (s.set 0 (sealV (sB b g))), 0))) : meta_Commit.F (bare s) (supN b g) K := by
  unfold meta_Commit.F
  refine super_Encode_ok h1 h2 ?_
  by_cases hg : g = 0
  · rw [if_pos hg] at k ⊢
    exact cond_t rfl k
  rw [if_neg hg] at k ⊢
  refine cond_f (by simp) ?_
  unfold meta_Fits.F
  have e : ((supN b g).blocks == IntKind.i64.wrap (((bare s).sure.length : Int) - 2)) = true := by
    show ((b : Int) == IntKind.i64.wrap ((s.length : Int) - 2)) = true
    rw [sub2 (by omega)]
    simp
    omega
  rw [e]
  refine cond_f rfl ?_
  have e2 : writeV (bare s) 0 (sealV (sB b g)) = (⟨s, [⟨((0 : Nat) : Int), sealV (sB b g)⟩], 0, false⟩, 0) := write_bare (i := 0) (by omega) (by rw [sealV_length, sB_length]; decide)
  refine disk_Write_ok (Nat.zero_le _) in0 (show (0 : Int) ≤ 0 by decide) ?_
  rw [e2]
  refine cond_f (by simp) ?_
  have o : OkD 64 (⟨s, [⟨((0 : Nat) : Int), sealV (sB b g)⟩], 0, false⟩ : Disk) := by
    refine ⟨by show s.length ≤ 64; omega, by show (1 : Nat) ≤ 64; decide, ?_, in0, by show (0 : Int) ≤ 0; omega, h3, ?_⟩
    · intro w hw
      simp at hw
      subst hw
      exact ⟨by simp, by show ((0 : Nat) : Int) < (s.length : Nat); omega⟩
    · intro w hw
      simp at hw
      subst hw
      show (sealV (sB b g)).length ≤ 64
      rw [sealV_length, sB_length]
      decide
  refine disk_Flush_ok (by have := o.s; omega) (by have := o.c; omega) o.r o.f o.p ?_
  rw [flush_one]
  exact k

def nought : Str := [0, 0, 0, 0, 0, 0, 0, 0]
/-- A formatted disk's sectors. -/
def fmtS (b g : Nat) : List Str := sealV (sB b g) :: sealV (be 0 4) :: List.replicate b nought
def noD : Disk := ⟨[], [], 0, false⟩
def fmtV (b : Int) (g : Nat) : Disk × Int := if 1 ≤ b ∧ b ≤ 32 ∧ g ≠ 0 then (bare (fmtS b.toNat g), 0) else (noD, 1)

theorem area_Format_ok {b : Int} {g : Nat} {K : (Disk × Int) → Prop} (k : K (fmtV b g)) : area_Format.F b g K := by
  unfold area_Format.F
  unfold fmtV at k
  refine cond_ok (fun h1 => ?_) (fun h1 => ?_)
  · have h1 : b < 1 := of_decide_eq_true h1
    rw [if_neg (by omega)] at k; exact k
  have h1 : ¬ b < 1 := of_decide_eq_false h1
  refine cond_ok (fun h2 => ?_) (fun h2 => ?_)
  · have h2 : b > 32 := of_decide_eq_true h2
    rw [if_neg (by omega)] at k; exact k
  have h2 : ¬ b > 32 := of_decide_eq_false h2
  obtain ⟨b, rfl⟩ : ∃ n : Nat, b = n := ⟨b.toNat, by omega⟩
  have h1 : 1 ≤ b := by omega
  have h2 : b ≤ 32 := by omega
  rw [wrap_i64 (x := (b : Int) + 2) (by omega)]
  have eN : newV ((b : Int) + 2) = (bare (List.replicate (b + 2) []), 0) := by
    unfold newV bare
    rw [if_pos (by omega), show ((b : Int) + 2).toNat = b + 2 by omega]
  refine disk_New_ok ?_
  rw [eN]
  refine cond_f (by simp) ?_
  refine meta_Commit_ok (g := g) h1 h2 (by simp) (fun x hx => by simp at hx; simp [hx]) ?_
  by_cases hg : g = 0
  · rw [if_neg (by omega)] at k
    rw [if_pos hg]
    exact cond_t rfl k
  rw [if_pos (by omega)] at k
  rw [if_neg hg]
  refine cond_f (by simp) ?_
  have hrep : (List.replicate (b + 2) ([] : Str)).set 0 (sealV (sB b g)) = sealV (sB b g) :: [] :: List.replicate b [] := rfl
  rw [hrep]
  have hq : (sealV (sB b g)).length ≤ 64 := by rw [sealV_length, sB_length]; decide
  have hz : (sealV (be 0 4)).length ≤ 64 := by rw [sealV_length, be_length]; decide
  refine bits_Save_ok (m := 0) (N := 64) (by decide) (by decide) (by decide) (bare_okD (by simp; omega) (fun x hx => ?_)) ?_
  · simp at hx
    rcases hx with rfl | rfl | ⟨_, rfl⟩
    · exact hq
    · simp
    · simp
  have hm : maskR (0 : Nat) (((bare (sealV (sB b g) :: [] :: List.replicate b [])).sure.length : Int) - 2) = true := by
    unfold maskR
    refine decide_eq_true ⟨?_, ?_, ?_⟩
    · show (1 : Int) ≤ _; simp [bare]; omega
    · show _ ≤ (32 : Int); simp [bare]; omega
    · exact Int.pow_pos (by decide)
  rw [save_plain ⟨rfl, rfl, by simp [bare]⟩ hm]
  have e2 : (⟨settleV (bare (sealV (sB b g) :: [] :: List.replicate b [])).sure ((bare (sealV (sB b g) :: [] :: List.replicate b [])).cache ++ [⟨1, sealV (be 0 4)⟩]), [], 0, false⟩ : Disk) = bare (sealV (sB b g) :: sealV (be 0 4) :: List.replicate b []) := by
    unfold settleV bare
    simp
  rw [e2]
  refine cond_f (by simp) ?_
  unfold strings_Repeat.F
  refine gd_ok (by decide) ?_
  have e3 : Lib.repeatL ([0] : Str) (Int.toNat 8) = nought := by decide
  rw [e3]
  refine loop_ok (I := fun x : area_Format.L0 => ∃ (j : Nat), j ≤ b ∧ x = ⟨nought, b, j, 0, false, sealV (sB b g) :: sealV (be 0 4) :: (List.replicate j nought ++ List.replicate (b - j) []), [], 0, false⟩) (m := fun x : area_Format.L0 => b - x.t51.toNat) ?_ ⟨0, by omega, rfl⟩
  rintro _ ⟨j, hj, rfl⟩ rec hrec
  unfold area_Format.b0
  dsimp only
  refine cond_ok (fun h3 => ?_) (fun h3 => ?_)
  · have h3 := lt_of_dec h3
    have hlen : (sealV (sB b g) :: sealV (be 0 4) :: (List.replicate j nought ++ List.replicate (b - j) ([] : Str))).length = b + 2 := by simp; omega
    refine area_Put_ok (N := 64) (d := bare (sealV (sB b g) :: sealV (be 0 4) :: (List.replicate j nought ++ List.replicate (b - j) []))) (by decide) (by decide) (bare_okD (by rw [hlen]; omega) (fun x hx => ?_)) ?_
    · simp at hx
      rcases hx with rfl | rfl | ⟨_, rfl⟩ | ⟨_, rfl⟩
      · exact hq
      · exact hz
      · decide
      · simp
    rw [put_bare (by rw [hlen]; omega) (by decide)]
    refine cond_f (by simp) (hrec _ ⟨j + 1, by omega, ?_⟩ ?_)
    · rw [wrap_lt h3 (by unfold big; omega)]
      have e4 : (List.replicate j nought ++ List.replicate (b - j) ([] : Str)).set j nought = List.replicate (j + 1) nought ++ List.replicate (b - (j + 1)) [] := by
        rw [List.set_append_right _ _ (by simp)]
        simp only [List.length_replicate, Nat.sub_self]
        rw [show b - j = (b - (j + 1)) + 1 by omega, List.replicate_succ, List.set_cons_zero, List.replicate_succ', List.append_assoc]
        rfl
      show (⟨_, _, _, _, _, sealV (sB b g) :: sealV (be 0 4) :: (List.replicate j nought ++ List.replicate (b - j) ([] : Str)).set j nought, _, _, _⟩ : area_Format.L0) = _
      rw [e4]
      rfl
    · rw [wrap_lt h3 (by unfold big; omega)]
      dsimp only
      omega
  · have e := le_of_dec h3 hj
    subst e
    rw [Nat.sub_self, List.replicate_zero, List.append_nil]
    exact k

theorem ref09_Format_ok {b : Int} {g : Nat} (hg : g < 18446744073709551616) {K : (Disk × Int) → Prop} (k : K (fmtV b g)) : ref09_Format.F b g K := by
  unfold ref09_Format.F
  unfold fmtV at k
  refine ref06_Encode_ok hg ?_
  by_cases h : 1 ≤ b ∧ b ≤ 32 ∧ g ≠ 0
  case neg =>
    rw [if_neg h] at k ⊢
    exact cond_t rfl k
  rw [if_pos h] at k ⊢
  obtain ⟨b, rfl⟩ : ∃ n : Nat, b = n := ⟨b.toNat, by omega⟩
  rw [Int.toNat_natCast] at k ⊢
  refine cond_f (by simp) (ref01_Put32_ok (n := 0) (by decide) (ref02_Seal_ok (wStr_of (by simp [be_length])) ?_))
  refine loop_ok (I := fun x : ref09_Format.L0 => ∃ (j : Nat), j ≤ b ∧ x = ⟨b, j, 0, false, sealV (sB b g) :: sealV (be 0 4) :: List.replicate j nought, 0, false⟩) (m := fun x : ref09_Format.L0 => b - x.i.toNat) ?_ ⟨0, by omega, rfl⟩
  rintro _ ⟨j, hj, rfl⟩ rec hrec
  unfold ref09_Format.b0
  dsimp only
  refine cond_ok (fun h3 => ?_) (fun h3 => ?_)
  · have h3 := lt_of_dec h3
    unfold ref09_Nought.F
    refine gd_ok (fit_ok (by simp; omega)) (hrec _ ⟨j + 1, by omega, ?_⟩ ?_)
    · rw [wrap_lt h3 (by unfold big; omega), List.replicate_succ']
      rfl
    · rw [wrap_lt h3 (by unfold big; omega)]
      dsimp only
      omega
  · have e := le_of_dec h3 hj
    subst e
    exact k
end Gm

/- The laws of layer 9 are true. -/
set_option maxRecDepth 100000
namespace Gm
open Go

theorem read_bare {s : List Str} {i : Nat} (h : i < s.length) : readV (bare s) i = (s[i], 0) := by
  unfold readV bare
  rw [if_neg (by simp), if_pos ⟨by omega, by dsimp only; omega⟩]
  dsimp only [holds, List.foldl_nil]
  rw [Int.toNat_natCast, List.getD_eq_getElem?_getD, List.getElem?_eq_getElem h]
  rfl
theorem aRead_bare {s : List Str} {i : Nat} (h : i + 2 < s.length) (h8 : s[i + 2].length = 8) : aReadV (bare s) i = (s[i + 2], 0) := by
  unfold aReadV
  rw [if_pos ⟨by omega, by show (i : Int) < (s.length : Int) - 2; omega⟩, show (i : Int) + 2 = ((i + 2 : Nat) : Int) by omega, read_bare h, if_neg (by simp), if_pos h8]
/-- Each block has eight bytes. -/
def Eights (s : List Str) : Prop := ∀ x ∈ s.drop 2, x.length = 8
theorem allN_bare {s : List Str} (h8 : Eights s) : ∀ n, n + 2 ≤ s.length → allN (bare s) n = ((s.drop 2).take n, 0) := by
  intro n
  induction n with
  | zero => intro _; rfl
  | succ n ih =>
    intro hn
    have hl : n < (s.drop 2).length := by simp; omega
    have hg : (s.drop 2)[n] = s[n + 2] := by simp; congr 1; omega
    have e := aRead_bare (s := s) (i := n) (by omega) (by rw [← hg]; exact h8 _ (List.getElem_mem _))
    show (if (allN (bare s) n).2 ≠ 0 then _ else _) = _
    rw [ih (by omega), if_neg (by simp), e, if_neg (by simp), take_succ hl, hg]
theorem all_bare {s : List Str} (h8 : Eights s) (h2 : 2 ≤ s.length) : allV (bare s) = (s.drop 2, 0) := by
  unfold allV
  rw [allN_bare h8 _ (by show s.length - 2 + 2 ≤ s.length; omega)]
  rw [List.take_of_length_le (by show (s.drop 2).length ≤ s.length - 2; simp)]

theorem flush_okD {N : Nat} {d : Disk} (o : OkD N d) : OkD N (flushV d).1 := by
  have hf : -9223372036854775808 ≤ d.fuse ∧ d.fuse ≤ 9223372036854775807 := o.f
  have hp := o.p
  have b0 := bare_ok o (ws := d.cache) (fun w h => h)
  unfold flushV
  split
  · exact o
  split
  · exact b0
  split
  · exact crash_ok o
  · exact ⟨b0.s, b0.c, b0.r, ⟨by show (-9223372036854775808 : Int) ≤ d.fuse - 1; omega, by show d.fuse - 1 ≤ (9223372036854775807 : Int); omega⟩, by show (0 : Int) ≤ d.fuse - 1; omega, b0.ds, b0.dc⟩
theorem more_okD {N : Nat} {d : Disk} (o : OkD N d) : OkD (N + 1) d :=
  ⟨Nat.le_succ_of_le o.s, Nat.le_succ_of_le o.c, o.r, o.f, o.p, fun s hs => Nat.le_succ_of_le (o.ds s hs), fun w hw => Nat.le_succ_of_le (o.dc w hw)⟩
theorem put_okD {N : Nat} {d : Disk} {i : Int} {data : Str} (o : OkD N d) (h64 : 64 ≤ N) : OkD (N + 1) (putV d i data).1 := by
  unfold putV
  split
  · split
    · split
      · exact write_ok o h64
      · exact flush_okD (write_ok o h64)
    · exact more_okD o
  · exact more_okD o

theorem fmtS_length (b g : Nat) : (fmtS b g).length = b + 2 := by simp [fmtS]
theorem fmtS_small (b g : Nat) : ∀ x ∈ fmtS b g, x.length ≤ 64 := by
  intro x hx
  unfold fmtS at hx
  rcases List.mem_cons.1 hx with rfl | hx
  · rw [sealV_length, sB_length]; decide
  rcases List.mem_cons.1 hx with rfl | hx
  · rw [sealV_length, be_length]; decide
  · rw [(List.mem_replicate.1 hx).2]; decide
theorem fmtS_drop (b g : Nat) : (fmtS b g).drop 2 = List.replicate b nought := rfl
theorem fmtS_eights (b g : Nat) : Eights (fmtS b g) := by
  intro x hx
  rw [fmtS_drop] at hx
  rw [(List.mem_replicate.1 hx).2]; rfl

theorem number_ok {b : Str} {i n : Nat} (h : i + 8 ≤ b.length) (h2 : i ≤ 1000) (e : unbe (sub b i (i + 8)) = n) {K : Int → Prop} (k : K (n : Int)) : ref06_number.F b i K := by
  unfold ref06_number.F
  rw [wrap_i64 (x := (i : Int) + 8) (by omega)]
  refine gd_ok (by simp; omega) ?_
  rw [show Int.toNat ((i : Int) + 8) = i + 8 by omega, show Int.toNat (i : Int) = i by omega]
  refine ref01_Get64_ok ?_
  rw [getN_of (by rw [sub_len h]; omega), e]
  exact k

theorem dec_alive {K : (Super × Int) → Prop} (k : K (supN 2 7, 0)) : ref06_Decode.F (sealV (sB 2 7)) K := by
  unfold ref06_Decode.F
  refine ref02_Open_ok (wStr_of (by rw [sealV_length, sB_length]; decide)) ?_
  rw [openV_seal]
  refine cond_f rfl (cond_f (by rw [sB_length]; rfl) ?_)
  refine oget_ok (v := 0) rfl (cond_f (by decide) (oget_ok (v := 0) rfl (ref01_Unflag_ok (b := 0) (by decide) ?_)))
  rw [show unflag 0 3 = ([false, false, false], true) by decide]
  refine oget_ok (v := 2) rfl ?_
  refine number_ok (i := 5) (n := 7) (by rw [sB_length]; decide) (by decide) (by decide) ?_
  refine number_ok (i := 13) (n := 0) (by rw [sB_length]; decide) (by decide) (by decide) ?_
  refine number_ok (i := 21) (n := 0) (by rw [sB_length]; decide) (by decide) (by decide) ?_
  refine number_ok (i := 29) (n := 0) (by rw [sB_length]; decide) (by decide) (by decide) ?_
  refine oget_ok (v := false) rfl (oget_ok (v := false) rfl (oget_ok (v := false) rfl ?_))
  have e : (⟨IntKind.i64.wrap (((2 : UInt8).toNat : Nat) : Int), ⟨((7 : Nat) : Int), ((0 : Nat) : Int), ((0 : Nat) : Int), ((0 : Nat) : Int)⟩, false, false, false⟩ : Super) = supN 2 7 := by
    unfold supN
    congr 1
  rw [e]
  refine ref06_Right_ok (g := 7) (cond_f (by decide) (ref06_bytes_ok (b := 2) (g := 7) (by decide) (by decide) (cond_f ?_ k)))
  simp

def abc : Str := [97, 98, 99, 100, 101, 102, 103, 104]
theorem law09_alive_ok {K : Bool → Prop} (k : K true) : law09_alive.F K := by
  unfold law09_alive.F
  have e1 : fmtV 2 7 = (bare (fmtS 2 7), 0) := by unfold fmtV; rw [if_pos (by decide)]; rfl
  have hl : (fmtS 2 7).length = 4 := rfl
  have o1 : OkD 64 (bare (fmtS 2 7)) := bare_okD (by rw [hl]; decide) (fmtS_small 2 7)
  have e2 : putV (bare (fmtS 2 7)) 1 abc = (bare ((fmtS 2 7).set 3 abc), 0) := put_bare (i := 1) (by rw [hl]; decide) rfl
  have es : (fmtS 2 7).set 3 abc = [sealV (sB 2 7), sealV (be 0 4), nought, abc] := rfl
  have o2 : OkD 64 (bare [sealV (sB 2 7), sealV (be 0 4), nought, abc]) := by
    refine bare_okD (by decide) ?_
    intro x hx
    simp only [List.mem_cons, List.not_mem_nil, or_false] at hx
    rcases hx with rfl | rfl | rfl | rfl
    · rw [sealV_length, sB_length]; decide
    · rw [sealV_length, be_length]; decide
    · decide
    · decide
  have h8 : Eights [sealV (sB 2 7), sealV (be 0 4), nought, abc] := by
    intro x hx
    have hx : x ∈ [nought, abc] := hx
    simp only [List.mem_cons, List.not_mem_nil, or_false] at hx
    rcases hx with rfl | rfl <;> rfl
  refine area_Format_ok (g := 7) ?_
  rw [e1]
  refine area_Put_ok (N := 64) (by decide) (by decide) o1 ?_
  change (fun r2 : Disk × Int => _) (putV (bare (fmtS 2 7)) 1 abc)
  rw [e2, es]
  have e3 : aReadV (bare [sealV (sB 2 7), sealV (be 0 4), nought, abc]) 1 = (abc, 0) := aRead_bare (i := 1) (by decide) rfl
  have e4 : allV (bare [sealV (sB 2 7), sealV (be 0 4), nought, abc]) = ([nought, abc], 0) := all_bare h8 (by decide)
  have e5 : aReadV (bare [sealV (sB 2 7), sealV (be 0 4), nought, abc]) 2 = ([], 4) := by
    unfold aReadV
    rw [if_neg (by unfold bd bare; simp)]
  have e6 : putV (bare [sealV (sB 2 7), sealV (be 0 4), nought, abc]) 0 [97, 98, 99] = (bare [sealV (sB 2 7), sealV (be 0 4), nought, abc], 5) := by
    unfold putV
    rw [if_pos (by unfold bd bare; simp), if_neg (by decide)]
  have e7 : fmtV 0 7 = (noD, 1) := by unfold fmtV; rw [if_neg (by decide)]
  have e9 : loadV (bare (fmtS 2 7)) = (((0 : Nat) : Int), 0) := by
    refine load_of (m := 0) rfl (by rw [show (bare (fmtS 2 7)).sure.length = 4 from rfl]; decide) (by decide) (by decide) rfl
  refine area_Read_ok (N := 64) (by decide) o2 ?_
  rw [e3]
  refine area_All_ok (N := 64) (by decide) o2 ?_
  rw [e4]
  refine area_Read_ok (N := 64) (by decide) o2 ?_
  rw [e5]
  refine area_Put_ok (N := 64) (by decide) (by decide) o2 ?_
  rw [e6]
  refine area_Format_ok (g := 7) ?_
  rw [e7]
  have hload : ∀ {K : (Super × Int) → Prop}, K (supN 2 7, 0) → ref07_Load.F (bare (fmtS 2 7)) K := by
    intro K k
    unfold ref07_Load.F
    refine ref04_Read_ok (Nat.zero_le _) ?_
    rw [show readV (bare (fmtS 2 7)) 0 = (sealV (sB 2 7), 0) from read_bare (i := 0) (by decide)]
    refine cond_f rfl (dec_alive (cond_f rfl ?_))
    unfold ref07_Fits.F
    exact cond_f (by rfl) k
  refine hload (ref08_Load_ok (N := 64) (by decide) o1 ?_)
  rw [e9]
  refine cond_t rfl (cond_t rfl (cond_t rfl (cond_t rfl (cond_t rfl (cond_t rfl (cond_t rfl (cond_t rfl (cond_t rfl (cond_t rfl (cond_t rfl ?_))))))))))
  unfold ref09_Nought.F
  refine ref09_Texts_ok (by decide) ?_
  exact cond_t (decide_eq_true rfl) (cond_t rfl k)

theorem law09_AreaTells_true {d : Disk} {i : Int} {data : Str} (hf : inK .i64 d.fuse) : law09_AreaTells.F d i data (fun r => r = true) := by
  unfold law09_AreaTells.F
  refine law09_alive_ok (cond_f rfl (ref04_Great_ok (fun _ => cond_t rfl rfl) (fun hg => cond_f rfl ?_)))
  obtain ⟨s1, s2⟩ := small_of hg
  refine ref04_Right_ok (by omega) (cond_ok (fun _ => rfl) (fun hr => ?_))
  have hr : rightV d = true := by simpa using hr
  have o := okD_of hg hr hf
  refine cond_ok (fun _ => rfl) (fun _ => ?_)
  have o2 := put_okD (i := i) (data := data) o (by decide)
  refine area_Read_ok (N := 100) (by decide) o (ref09_Read_ok (N := 100) (by decide) o (area_Put_ok (N := 100) (by decide) (by decide) o (ref09_Put_ok (N := 100) (by decide) (by decide) o (area_All_ok (N := 100) (by decide) o (ref09_All_ok (N := 100) (by decide) o ?_)))))
  refine cond_t (by simp) (cond_t (by simp) (ref04_Same_ok (by have := o2.s; unfold big; omega) (by have := o2.c; unfold big; omega) (cond_t (by simp [sameV]) (cond_t (by simp) ?_))))
  have hla : (allV d).1.length ≤ 1000000 := by
    by_cases he : (allV d).2 = 0
    · have := allN_len he
      unfold allV
      rw [this]
      omega
    · have key : ∀ n, (allN d n).2 ≠ 0 → (allN d n).1 = [] := by
        intro n
        induction n with
        | zero => intro h; exact absurd rfl h
        | succ n ih =>
          intro h
          unfold allN at h ⊢
          split
          · rename_i h1; exact ih h1
          · rename_i h1
            split
            · rfl
            · rename_i h2
              rw [if_neg h1, if_neg h2] at h
              exact absurd rfl h
      have := key _ he
      unfold allV
      rw [this]
      simp
  exact ref09_Texts_ok hla (cond_t (by simp) (by simp))

theorem law09_AreaFormats_true {b g : Int} (hg : inK .u64 g) : law09_AreaFormats.F b g (fun r => r = true) := by
  have hg : 0 ≤ g ∧ g ≤ 18446744073709551615 := hg
  obtain ⟨g, rfl⟩ : ∃ n : Nat, g = n := ⟨g.toNat, by omega⟩
  unfold law09_AreaFormats.F
  refine law09_alive_ok (cond_f rfl (area_Format_ok (ref09_Format_ok (by omega) ?_)))
  by_cases h : 1 ≤ b ∧ b ≤ 32 ∧ g ≠ 0
  · have e : fmtV b g = (bare (fmtS b.toNat g), 0) := by unfold fmtV; rw [if_pos h]
    have hl := fmtS_length b.toNat g
    rw [e]
    refine ref04_Same_ok (by show (fmtS b.toNat g).length ≤ big; unfold big; omega) (Nat.zero_le _) (cond_f (by simp [sameV]) (cond_f (by simp) (cond_f (by simp) ?_)))
    refine area_All_ok (N := 64) (by decide) (bare_okD (by omega) (fmtS_small _ _)) ?_
    rw [all_bare (fmtS_eights _ _) (by omega), fmtS_drop]
    refine cond_t rfl (cond_t (by simp; omega) (ref04_Right_ok (Nat.zero_le _) ?_))
    exact right_true ⟨by show 1 ≤ (fmtS b.toNat g).length; omega, by show (fmtS b.toNat g).length ≤ 64; omega, by show (0 : Int) ≤ 0; omega, fmtS_small _ _, fun w hw => by cases hw⟩
  · have e : fmtV b g = (noD, 1) := by unfold fmtV; rw [if_neg h]
    rw [e]
    exact ref04_Same_ok (Nat.zero_le _) (Nat.zero_le _) (cond_f (by simp [sameV]) (cond_f (by simp) (cond_t (by simp) rfl)))

/-- What a put that dies behind its write leaves. -/
theorem torn {s : List Str} {i : Int} {data : Str} {keeps : List Bool} : reviveV (crashV (putV (armV (bare s) 2) i data).1) keeps = bare s ∨
    (bd (bare s) i ∧ data.length = 8 ∧ reviveV (crashV (putV (armV (bare s) 2) i data).1) keeps = bare (s.set (i + 2).toNat data)) := by
  have ea : armV (bare s) 2 = ⟨s, [], 2, false⟩ := rfl
  rw [ea]
  unfold putV
  by_cases h1 : bd (⟨s, [], 2, false⟩ : Disk) i
  case neg => rw [if_neg h1]; exact .inl rfl
  rw [if_pos h1]
  by_cases h2 : data.length = 8
  case neg => rw [if_neg h2]; exact .inl rfl
  rw [if_pos h2]
  have hb : 0 ≤ i ∧ i < (s.length : Int) - 2 := h1
  have ew : writeV (⟨s, [], 2, false⟩ : Disk) (i + 2) data = (⟨s, [⟨i + 2, data⟩], 1, false⟩, 0) := by
    unfold writeV
    rw [if_neg (by simp), if_neg (fun h => h ⟨by omega, by dsimp only; omega⟩), if_neg (by omega), if_neg (show ¬ (2 : Int) = 0 by decide), if_neg (show ¬ (2 : Int) = 1 by decide)]
    rfl
  rw [ew, if_neg (by simp)]
  have ef : flushV (⟨s, [⟨i + 2, data⟩], 1, false⟩ : Disk) = (⟨s, [⟨i + 2, data⟩], 0, true⟩, 6) := rfl
  rw [ef]
  have ec : crashV (⟨s, [⟨i + 2, data⟩], 0, true⟩ : Disk) = ⟨s, [⟨i + 2, data⟩], 0, true⟩ := rfl
  rw [ec]
  cases keeps with
  | nil => exact .inl rfl
  | cons k ks =>
    cases k with
    | false => exact .inl (by simp [reviveV, keptW, settleV, bare])
    | true => exact .inr ⟨h1, h2, by simp [reviveV, keptW, settleV, bare]⟩

theorem put_cases {s : List Str} {i : Int} {data : Str} : (putV (bare s) i data = (bare s, 4)) ∨ (putV (bare s) i data = (bare s, 5)) ∨
    (bd (bare s) i ∧ data.length = 8 ∧ putV (bare s) i data = (bare (s.set (i + 2).toNat data), 0)) := by
  by_cases h1 : bd (bare s) i
  · by_cases h2 : data.length = 8
    · have hb : 0 ≤ i ∧ i < (s.length : Int) - 2 := h1
      obtain ⟨n, rfl⟩ : ∃ n : Nat, i = n := ⟨i.toNat, by omega⟩
      refine .inr (.inr ⟨h1, h2, ?_⟩)
      rw [put_bare (by omega) h2, show ((n : Int) + 2).toNat = n + 2 by omega]
    · unfold putV
      rw [if_pos h1, if_neg h2]
      exact .inr (.inl rfl)
  · unfold putV
    rw [if_neg h1]
    exact .inl rfl

theorem set_eights {s : List Str} {j : Nat} {data : Str} (h8 : Eights s) (hd : data.length = 8) : Eights (s.set (j + 2) data) := by
  intro x hx
  rw [List.drop_set, if_neg (by omega)] at hx
  rcases List.mem_or_eq_of_mem_set hx with h | h
  · exact h8 x h
  · rw [h]; exact hd
theorem set_small {s : List Str} {j : Nat} {data : Str} (h8 : ∀ x ∈ s, x.length ≤ 64) (hd : data.length = 8) : ∀ x ∈ s.set j data, x.length ≤ 64 := by
  intro x hx
  rcases List.mem_or_eq_of_mem_set hx with h | h
  · exact h8 x h
  · rw [h, hd]; decide
theorem set_get {s : List Str} {j k : Nat} {data : Str} (hk : k < (s.drop 2).length) : ((s.set (j + 2) data).drop 2)[k]'(by simpa using hk) = if j = k then data else (s.drop 2)[k] := by
  simp only [List.getElem_drop]
  rw [List.getElem_set]
  by_cases h : j = k
  · subst h; rw [if_pos (by omega), if_pos rfl]
  · rw [if_neg (by omega), if_neg h]

theorem law09_AreaOne_true {n : Int} {writes : List Write} {keeps : List Bool} (hn : inK .u8 n) : law09_AreaOne.F n writes keeps (fun r => r = true) := by
  have hn : 0 ≤ n ∧ n ≤ 255 := hn
  unfold law09_AreaOne.F
  refine law09_alive_ok (cond_f rfl (cond_ok (fun _ => rfl) (fun hw => cond_ok (fun _ => rfl) (fun hk => cond_f (by decide) ?_))))
  have hw : ¬ (writes.length : Int) > 20 := of_decide_eq_false hw
  have hwl : writes.length ≤ 20 := by omega
  obtain ⟨n, rfl⟩ : ∃ m : Nat, n = m := ⟨n.toNat, by omega⟩
  have e1 : IntKind.i64.wrap (1 + IntKind.i64.wrap ((n : Int).tmod 32)) = ((1 + n % 32 : Nat) : Int) := by
    rw [show (n : Int).tmod 32 = ((n % 32 : Nat) : Int) from rfl, wrap_i64 (x := ((n % 32 : Nat) : Int)) (by omega), wrap_i64 (by omega)]
    omega
  rw [e1]
  refine area_Format_ok (g := 7) ?_
  have e2 : fmtV ((1 + n % 32 : Nat) : Int) 7 = (bare (fmtS (1 + n % 32) 7), 0) := by
    unfold fmtV
    rw [if_pos ⟨by omega, by omega, by decide⟩, Int.toNat_natCast]
  rw [e2]
  have hl := fmtS_length (1 + n % 32) 7
  refine area_All_ok (N := 64) (by decide) (bare_okD (by omega) (fmtS_small _ _)) ?_
  rw [all_bare (fmtS_eights _ _) (by omega)]
  generalize hb : 1 + n % 32 = b at hl e2 ⊢
  have hb32 : b ≤ 32 := by omega
  refine loop_ok (I := fun x : law09_AreaOne.L0 => ∃ (i : Nat) (s : List Str), i ≤ writes.length ∧ s.length = b + 2 ∧ (∀ x ∈ s, x.length ≤ 64) ∧ Eights s ∧ x = ⟨writes, keeps, s.drop 2, i, s, [], 0, false⟩)
    (m := fun x : law09_AreaOne.L0 => writes.length - x.i.toNat) ?_ ⟨0, fmtS b 7, by omega, hl, fmtS_small _ _, fmtS_eights _ _, rfl⟩
  rintro _ ⟨i, s, hi, hs, h64, h8, rfl⟩ rec hrec
  unfold law09_AreaOne.b0
  dsimp only
  refine cond_ok (fun h1 => ?_) (fun _ => rfl)
  have h1 := lt_of_dec h1
  refine oget_ok (getI_ok h1) ?_
  generalize writes[i] = w
  obtain ⟨sector, data⟩ := w
  dsimp only
  refine ref04_Arm_ok ?_
  have oA : OkD 64 (armV (bare s) 2) := ⟨by show s.length ≤ 64; omega, Nat.zero_le _, (fun w h => by cases h), ⟨show IntKind.i64.min ≤ 2 by decide, show (2 : Int) ≤ IntKind.i64.max by decide⟩, show (0 : Int) ≤ 2 by decide, h64, (fun w h => by cases h)⟩
  have oB : OkD 64 (bare s) := bare_okD (by omega) h64
  refine area_Put_ok (N := 64) (by decide) (by decide) oA (ref04_Crash_ok ?_)
  have oC := crash_ok (put_okD (i := sector) (data := data) oA (by decide))
  refine ref04_Revive_ok (by have := oC.s; omega) (by have := oC.c; omega) oC.r ?_
  -- what is there behind the crash
  obtain ⟨s1, e3, hs1, h641, h81, hat⟩ : ∃ s1, reviveV (crashV (putV (armV (bare s) 2) sector data).1) keeps = bare s1 ∧ s1.length = b + 2 ∧ (∀ x ∈ s1, x.length ≤ 64) ∧ Eights s1 ∧
      ∀ (k : Nat) (h : k < (s.drop 2).length) (h' : k < (s1.drop 2).length), (s1.drop 2)[k] = (s.drop 2)[k] ∨ ((k : Int) = sector ∧ (s1.drop 2)[k] = data) := by
    rcases torn (s := s) (i := sector) (data := data) (keeps := keeps) with h | ⟨hb1, hd, h⟩
    · exact ⟨s, h, hs, h64, h8, fun k _ _ => .inl rfl⟩
    · have hb2 : 0 ≤ sector ∧ sector < (s.length : Int) - 2 := hb1
      obtain ⟨j, rfl⟩ : ∃ j : Nat, sector = j := ⟨sector.toNat, by omega⟩
      rw [show ((j : Int) + 2).toNat = j + 2 by omega] at h
      refine ⟨_, h, by simpa using hs, set_small h64 hd, set_eights h8 hd, ?_⟩
      intro k hk hk'
      rw [set_get hk]
      by_cases e : j = k
      · subst e; rw [if_pos rfl]; exact .inr ⟨rfl, rfl⟩
      · rw [if_neg e]; exact .inl rfl
  rw [e3]
  refine area_All_ok (N := 64) (by decide) (bare_okD (by omega) h641) ?_
  rw [all_bare h81 (by omega)]
  refine area_Put_ok (N := 64) (d := bare s) (by decide) (by decide) oB ?_
  refine cond_f rfl (cond_f (by simp [hs, hs1]) ?_)
  refine loop_ok (I := fun x : law09_AreaOne.L2 => ∃ k : Nat, k ≤ (s.drop 2).length ∧ x = ⟨writes, keeps, s.drop 2, i, s1.drop 2, (putV (bare s) sector data).2, k, s, [], 0, false, sector, data, (putV (bare s) sector data).1.sure, (putV (bare s) sector data).1.cache, (putV (bare s) sector data).1.fuse, (putV (bare s) sector data).1.dead⟩)
    (m := fun x : law09_AreaOne.L2 => (s.drop 2).length - x.k.toNat) ?_ ⟨0, by omega, rfl⟩
  rintro _ ⟨k, hk, rfl⟩ rec2 hrec2
  unfold law09_AreaOne.b2
  dsimp only
  refine cond_ok (fun h2 => ?_) (fun h2 => ?_)
  · have h2 := lt_of_dec h2
    have h2' : k < (s1.drop 2).length := by simp at h2 ⊢; omega
    have next : rec2 ⟨writes, keeps, s.drop 2, i, s1.drop 2, (putV (bare s) sector data).2, IntKind.i64.wrap ((k : Int) + 1), s, [], 0, false, sector, data, (putV (bare s) sector data).1.sure, (putV (bare s) sector data).1.cache, (putV (bare s) sector data).1.fuse, (putV (bare s) sector data).1.dead⟩ := by
      have hbig : (s.drop 2).length ≤ big := by simp; unfold big; omega
      refine hrec2 _ ⟨k + 1, by omega, by rw [wrap_lt h2 hbig]⟩ ?_
      rw [wrap_lt h2 hbig]
      dsimp only
      omega
    refine oget_ok (getI_ok h2') (oget_ok (getI_ok h2) ?_)
    rcases hat k h2 h2' with e | ⟨e, e'⟩
    · exact cond_f (by simp [e]) next
    · refine cond_ok (fun _ => ?_) (fun _ => next)
      exact cond_f (by simp [e]) (oget_ok (getI_ok h2') (cond_f (by simp [e']) next))
  · -- the put itself
    have nextI : ∀ s2 : List Str, s2.length = b + 2 → (∀ x ∈ s2, x.length ≤ 64) → Eights s2 → rec ⟨writes, keeps, s2.drop 2, IntKind.i64.wrap ((i : Int) + 1), s2, [], 0, false⟩ := by
      intro s2 g1 g2 g3
      refine hrec _ ⟨i + 1, s2, by omega, g1, g2, g3, ?_⟩ ?_
      · rw [wrap_lt h1 (by unfold big; omega)]
      · rw [wrap_lt h1 (by unfold big; omega)]
        dsimp only
        omega
    have same : ∀ c : Int, putV (bare s) sector data = (bare s, c) → c ≠ 0 → (bif (putV (bare s) sector data).2 != 0 then (ref04_Same.F (⟨(putV (bare s) sector data).1.sure, (putV (bare s) sector data).1.cache, (putV (bare s) sector data).1.fuse, (putV (bare s) sector data).1.dead⟩ : Disk) (⟨s, [], 0, false⟩ : Disk) fun r16 =>
        (bif (!r16) then (false = true) else (rec ⟨writes, keeps, s.drop 2, (IntKind.i64.wrap ((i : Int) + 1)), s, [], 0, false⟩))) else True) := by
      intro c e hc
      rw [e]
      refine cond_t (by simpa using hc) (ref04_Same_ok (by show s.length ≤ big; unfold big; omega) (Nat.zero_le _) (cond_f ?_ (nextI s hs h64 h8)))
      have : sameV (⟨(bare s).sure, (bare s).cache, (bare s).fuse, (bare s).dead⟩ : Disk) ⟨s, [], 0, false⟩ = true := decide_eq_true rfl
      rw [this]
      rfl
    have close : ∀ {q : Bool} {A B : Prop}, q = true → (bif q then A else True) → bif q then A else B := by
      intro q A B hq h
      rw [hq] at h ⊢
      exact h
    rcases put_cases (s := s) (i := sector) (data := data) with e | e | ⟨hb1, hd, e⟩
    · exact close (by rw [e]; rfl) (same 4 e (by decide))
    · exact close (by rw [e]; rfl) (same 5 e (by decide))
    · rw [e]
      have hb2 : 0 ≤ sector ∧ sector < (s.length : Int) - 2 := hb1
      obtain ⟨j, rfl⟩ : ∃ j : Nat, sector = j := ⟨sector.toNat, by omega⟩
      rw [show ((j : Int) + 2).toNat = j + 2 by omega]
      refine cond_f rfl ?_
      have hs2 : (s.set (j + 2) data).length = b + 2 := by simpa using hs
      have h642 := set_small (j := j + 2) h64 hd
      have h82 := set_eights (j := j) h8 hd
      refine area_All_ok (N := 64) (d := bare (s.set (j + 2) data)) (by decide) (bare_okD (by omega) h642) ?_
      rw [all_bare h82 (by omega)]
      refine cond_f rfl (cond_f (by simp) ?_)
      refine loop_ok (I := fun x : law09_AreaOne.L4 => ∃ k : Nat, k ≤ (s.drop 2).length ∧ x = ⟨writes, keeps, s.drop 2, i, (s.set (j + 2) data).drop 2, k, s, [], 0, false, j, data, s.set (j + 2) data, [], 0, false⟩)
        (m := fun x : law09_AreaOne.L4 => (s.drop 2).length - x.k.toNat) ?_ ⟨0, by omega, rfl⟩
      rintro _ ⟨k, hk, rfl⟩ rec3 hrec3
      unfold law09_AreaOne.b4
      dsimp only
      refine cond_ok (fun h3 => ?_) (fun h3 => nextI _ hs2 h642 h82)
      have h3 := lt_of_dec h3
      have h3' : k < ((s.set (j + 2) data).drop 2).length := by simpa using h3
      have next : rec3 ⟨writes, keeps, s.drop 2, i, (s.set (j + 2) data).drop 2, IntKind.i64.wrap ((k : Int) + 1), s, [], 0, false, j, data, s.set (j + 2) data, [], 0, false⟩ := by
        have hbig : (s.drop 2).length ≤ big := by simp; unfold big; omega
        refine hrec3 _ ⟨k + 1, by omega, by rw [wrap_lt h3 hbig]⟩ ?_
        rw [wrap_lt h3 hbig]
        dsimp only
        omega
      have hg := set_get (s := s) (j := j) (data := data) h3
      by_cases ek : j = k
      · rw [if_pos ek] at hg
        refine cond_t (by simp [ek]) (oget_ok (getI_ok h3') (cond_f (by rw [hg]; simp) (cond_f (by simp [ek]) next)))
      · rw [if_neg ek] at hg
        refine cond_f (by simp; omega) (cond_t (by simp; omega) (oget_ok (getI_ok h3') (oget_ok (getI_ok h3) (cond_f (by rw [hg]; simp) next))))
end Gm
