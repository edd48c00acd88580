/- Plain laws: disks. -/
import Derived.Test.YtbhgalddlkebgaaGmPc
import Derived.Test.YtbhgalddlkebgaaGmT3
import Derived.KernelRfl
set_option maxRecDepth 100000
namespace Gm
open Go

theorem wrap_lt {n m : Nat} (h : n < m) (hm : m ≤ big) : IntKind.i64.wrap ((n : Int) + 1) = ((n + 1 : Nat) : Int) := wrap_succ (by omega)
theorem lt_of_dec {a b : Nat} (h : decide ((a : Int) < (b : Int)) = true) : a < b := by simpa using h
theorem le_of_dec {a b : Nat} (h : decide ((a : Int) < (b : Int)) = false) (hab : a ≤ b) : a = b := by
  have : ¬ a < b := by simpa using h
  omega

/-- More than is looked at. -/
def GreatP (d : Disk) : Prop := d.sure.length > 70 ∨ d.cache.length > 100 ∨ (∃ s ∈ d.sure, s.length > 100) ∨ ∃ w ∈ d.cache, w.data.length > 100

theorem ref04_Great_ok {d : Disk} {K : Bool → Prop} (ht : GreatP d → K true) (hf : ¬ GreatP d → K false) : ref04_Great.F d K := by
  unfold ref04_Great.F
  refine cond_ok (fun h1 => ?_) (fun h1 => ?_)
  · have h1 : (d.sure.length : Int) > 70 := of_decide_eq_true h1
    exact ht (.inl (by omega))
  have h1 : ¬ (d.sure.length : Int) > 70 := of_decide_eq_false h1
  refine cond_ok (fun h2 => ?_) (fun h2 => ?_)
  · have h2 : (d.cache.length : Int) > 100 := of_decide_eq_true h2
    exact ht (.inr (.inl (by omega)))
  have h2 : ¬ (d.cache.length : Int) > 100 := of_decide_eq_false h2
  refine loop_ok (I := fun x : ref04_Great.L0 => ∃ i : Nat, i ≤ d.sure.length ∧ (∀ s ∈ d.sure.take i, ¬ s.length > 100) ∧ x = ⟨i, d.sure, d.cache, d.fuse, d.dead⟩) (m := fun x : ref04_Great.L0 => d.sure.length - x.i.toNat) ?_ ⟨0, by simp, by simp, rfl⟩
  rintro _ ⟨i, hi, hs, rfl⟩ rec hrec
  unfold ref04_Great.b0
  dsimp only
  refine cond_ok (fun h3 => ?_) (fun h3 => ?_)
  · have hlt := lt_of_dec h3
    refine oget_ok (getI_ok hlt) (cond_ok (fun h4 => ?_) (fun h4 => ?_))
    · have h4 : ((d.sure[i]).length : Int) > 100 := of_decide_eq_true h4
      exact ht (.inr (.inr (.inl ⟨_, List.getElem_mem hlt, by omega⟩)))
    · have h4 : ¬ ((d.sure[i]).length : Int) > 100 := of_decide_eq_false h4
      rw [wrap_succ (by unfold big; omega)]
      refine hrec _ ⟨i + 1, hlt, ?_, rfl⟩ (by simp; omega)
      rw [take_succ hlt]
      intro s hs'
      rcases List.mem_append.1 hs' with h | h
      · exact hs s h
      · simp at h; subst h; omega
  · have e := le_of_dec h3 hi
    subst e
    rw [List.take_length] at hs
    refine loop_ok (I := fun x : ref04_Great.L2 => ∃ i : Nat, i ≤ d.cache.length ∧ (∀ w ∈ d.cache.take i, ¬ w.data.length > 100) ∧ x = ⟨i, d.sure, d.cache, d.fuse, d.dead⟩) (m := fun x : ref04_Great.L2 => d.cache.length - x.i.toNat) ?_ ⟨0, by simp, by simp, rfl⟩
    rintro _ ⟨i, hi, hw, rfl⟩ rec hrec
    unfold ref04_Great.b2
    dsimp only
    refine cond_ok (fun h3 => ?_) (fun h3 => ?_)
    · have hlt := lt_of_dec h3
      refine oget_ok (getI_ok hlt) (cond_ok (fun h4 => ?_) (fun h4 => ?_))
      · have h4 : ((d.cache[i]).data.length : Int) > 100 := of_decide_eq_true h4
        exact ht (.inr (.inr (.inr ⟨_, List.getElem_mem hlt, by omega⟩)))
      · have h4 : ¬ ((d.cache[i]).data.length : Int) > 100 := of_decide_eq_false h4
        rw [wrap_succ (by unfold big; omega)]
        refine hrec _ ⟨i + 1, hlt, ?_, rfl⟩ (by simp; omega)
        rw [take_succ hlt]
        intro w hw'
        rcases List.mem_append.1 hw' with h | h
        · exact hw w h
        · simp at h; subst h; omega
    · have e := le_of_dec h3 hi
      subst e
      rw [List.take_length] at hw
      refine hf ?_
      rintro (h | h | ⟨s, h, h'⟩ | ⟨w, h, h'⟩)
      · omega
      · omega
      · exact hs s h h'
      · exact hw w h h'

theorem small_of {d : Disk} (h : ¬ GreatP d) : d.sure.length ≤ 70 ∧ d.cache.length ≤ 100 := by
  unfold GreatP at h
  constructor
  · exact Nat.not_lt.1 fun h1 => h (.inl h1)
  · exact Nat.not_lt.1 fun h1 => h (.inr (.inl h1))

/-! ### New, Right, Same -/
def newV (n : Int) : Disk × Int := if 1 ≤ n ∧ n ≤ 64 then (⟨List.replicate n.toNat [], [], 0, false⟩, 0) else (⟨[], [], 0, false⟩, 1)
theorem disk_New_ok {n : Int} {K : (Disk × Int) → Prop} (h : K (newV n)) : disk_New.F n K := by
  unfold disk_New.F
  unfold newV at h
  refine cond_ok (fun h1 => ?_) (fun h1 => ?_)
  · have h1 : n < 1 := of_decide_eq_true h1
    rw [if_neg (by omega)] at h; exact h
  have h1 : ¬ n < 1 := of_decide_eq_false h1
  refine cond_ok (fun h2 => ?_) (fun h2 => ?_)
  · have h2 : n > 64 := of_decide_eq_true h2
    rw [if_neg (by omega)] at h; exact h
  have h2 : ¬ n > 64 := of_decide_eq_false h2
  rw [if_pos (by omega)] at h
  have g : (n == n && (decide (0 ≤ n) && decide (n * (16 : Nat) ≤ (room : Int)))) = true := by
    have e1 : n * ((16 : Nat) : Int) ≤ (room : Int) := by unfold room; omega
    have e2 : 0 ≤ n := by omega
    rw [decide_eq_true e1, decide_eq_true e2]; simp
  exact gd_ok g h
theorem ref04_New_ok {n : Int} {K : (Disk × Int) → Prop} (h : K (newV n)) : ref04_New.F n K := disk_New_ok h

theorem disk_Right_ok {d : Disk} (h1 : d.sure.length ≤ 1000000) (h2 : d.cache.length ≤ 1000000) {K : Bool → Prop} (h : K (rightV d)) : disk_Right.F d K := by
  unfold disk_Right.F
  refine gd_ok ?_ h
  rw [Bool.and_eq_true]
  exact ⟨Nat.ble_eq_true_of_le (by omega), Nat.ble_eq_true_of_le (by omega)⟩
theorem disk_Read_ok {d : Disk} {i : Int} (h1 : d.sure.length ≤ 1000000) (h2 : d.cache.length ≤ 1000000) {K : (Str × Int) → Prop} (h : K (readV d i)) : disk_Read.F d i K := by
  unfold disk_Read.F
  refine gd_ok ?_ h
  rw [Bool.and_eq_true]
  exact ⟨Nat.ble_eq_true_of_le (by omega), Nat.ble_eq_true_of_le (by omega)⟩

theorem right_false {d : Disk} (h : ¬ (1 ≤ d.sure.length ∧ d.sure.length ≤ 64 ∧ 0 ≤ d.fuse ∧ (∀ s ∈ d.sure, s.length ≤ 64) ∧ ∀ w ∈ d.cache, 0 ≤ w.sector ∧ w.sector < d.sure.length ∧ w.data.length ≤ 64)) : rightV d = false := by
  rw [Bool.eq_false_iff]
  intro he
  apply h
  unfold rightV wRight at he
  simpa only [Bool.and_eq_true, decide_eq_true_eq, List.all_eq_true] using he
theorem right_true {d : Disk} (h : 1 ≤ d.sure.length ∧ d.sure.length ≤ 64 ∧ 0 ≤ d.fuse ∧ (∀ s ∈ d.sure, s.length ≤ 64) ∧ ∀ w ∈ d.cache, 0 ≤ w.sector ∧ w.sector < d.sure.length ∧ w.data.length ≤ 64) : rightV d = true := by
  unfold rightV wRight
  simpa only [Bool.and_eq_true, decide_eq_true_eq, List.all_eq_true] using h
theorem right_iff {d : Disk} (h : rightV d = true) : 1 ≤ d.sure.length ∧ d.sure.length ≤ 64 ∧ 0 ≤ d.fuse ∧ (∀ s ∈ d.sure, s.length ≤ 64) ∧ ∀ w ∈ d.cache, 0 ≤ w.sector ∧ w.sector < d.sure.length ∧ w.data.length ≤ 64 := by
  refine Classical.byContradiction fun hn => ?_
  rw [right_false hn] at h
  cases h

theorem ref04_Right_ok {d : Disk} (hc : d.cache.length ≤ 1000000) {K : Bool → Prop} (h : K (rightV d)) : ref04_Right.F d K := by
  unfold ref04_Right.F
  have no : ¬ (1 ≤ d.sure.length ∧ d.sure.length ≤ 64 ∧ 0 ≤ d.fuse ∧ (∀ s ∈ d.sure, s.length ≤ 64) ∧ ∀ w ∈ d.cache, 0 ≤ w.sector ∧ w.sector < d.sure.length ∧ w.data.length ≤ 64) → K false := by
    intro hn; rw [right_false hn] at h; exact h
  refine cond_ok (fun h1 => ?_) (fun h1 => ?_)
  · have h1 : (d.sure.length : Int) < 1 := of_decide_eq_true h1
    exact no (fun hh => by omega)
  have h1 : ¬ (d.sure.length : Int) < 1 := of_decide_eq_false h1
  refine cond_ok (fun h2 => ?_) (fun h2 => ?_)
  · have h2 : (d.sure.length : Int) > 64 := of_decide_eq_true h2
    exact no (fun hh => by omega)
  have h2 : ¬ (d.sure.length : Int) > 64 := of_decide_eq_false h2
  refine cond_ok (fun h3 => ?_) (fun h3 => ?_)
  · have h3 : d.fuse < 0 := of_decide_eq_true h3
    exact no (fun hh => by omega)
  have h3 : ¬ d.fuse < 0 := of_decide_eq_false h3
  refine loop_ok (I := fun x : ref04_Right.L0 => ∃ i : Nat, i ≤ d.sure.length ∧ (∀ s ∈ d.sure.take i, s.length ≤ 64) ∧ x = ⟨i, d.sure, d.cache, d.fuse, d.dead⟩) (m := fun x : ref04_Right.L0 => d.sure.length - x.i.toNat) ?_ ⟨0, by simp, by simp, rfl⟩
  rintro _ ⟨i, hi, hs, rfl⟩ rec hrec
  unfold ref04_Right.b0
  dsimp only
  refine cond_ok (fun h4 => ?_) (fun h4 => ?_)
  · have hlt := lt_of_dec h4
    refine oget_ok (getI_ok hlt) (cond_ok (fun h5 => ?_) (fun h5 => ?_))
    · have h5 : ((d.sure[i]).length : Int) > 64 := of_decide_eq_true h5
      exact no (fun hh => by have := hh.2.2.2.1 _ (List.getElem_mem hlt); omega)
    · have h5 : ¬ ((d.sure[i]).length : Int) > 64 := of_decide_eq_false h5
      rw [wrap_succ (by unfold big; omega)]
      refine hrec _ ⟨i + 1, hlt, ?_, rfl⟩ (by simp; omega)
      rw [take_succ hlt]
      intro s hs'
      rcases List.mem_append.1 hs' with h | h
      · exact hs s h
      · simp at h; subst h; omega
  · have e := le_of_dec h4 hi
    subst e
    rw [List.take_length] at hs
    refine loop_ok (I := fun x : ref04_Right.L2 => ∃ i : Nat, i ≤ d.cache.length ∧ (∀ w ∈ d.cache.take i, 0 ≤ w.sector ∧ w.sector < d.sure.length ∧ w.data.length ≤ 64) ∧ x = ⟨i, d.sure, d.cache, d.fuse, d.dead⟩) (m := fun x : ref04_Right.L2 => d.cache.length - x.i.toNat) ?_ ⟨0, by simp, by simp, rfl⟩
    rintro _ ⟨i, hi, hw, rfl⟩ rec hrec
    unfold ref04_Right.b2
    dsimp only
    refine cond_ok (fun h4 => ?_) (fun h4 => ?_)
    · have hlt := lt_of_dec h4
      have bad : ¬ (0 ≤ (d.cache[i]).sector ∧ (d.cache[i]).sector < d.sure.length ∧ (d.cache[i]).data.length ≤ 64) → K false := fun hn => no (fun hh => hn (hh.2.2.2.2 _ (List.getElem_mem hlt)))
      refine oget_ok (getI_ok hlt) (cond_ok (fun h5 => ?_) (fun h5 => oget_ok (getI_ok hlt) (cond_ok (fun h6 => ?_) (fun h6 => oget_ok (getI_ok hlt) (cond_ok (fun h7 => ?_) (fun h7 => ?_))))))
      · have h5 : (d.cache[i]).sector < 0 := of_decide_eq_true h5
        exact bad (fun hh => by omega)
      · have h6 : (d.cache[i]).sector ≥ (d.sure.length : Int) := of_decide_eq_true h6
        exact bad (fun hh => by omega)
      · have h7 : ((d.cache[i]).data.length : Int) > 64 := of_decide_eq_true h7
        exact bad (fun hh => by omega)
      · have h5 : ¬ (d.cache[i]).sector < 0 := of_decide_eq_false h5
        have h6 : ¬ (d.cache[i]).sector ≥ (d.sure.length : Int) := of_decide_eq_false h6
        have h7 : ¬ ((d.cache[i]).data.length : Int) > 64 := of_decide_eq_false h7
        rw [wrap_succ (by unfold big; omega)]
        refine hrec _ ⟨i + 1, hlt, ?_, rfl⟩ (by simp; omega)
        rw [take_succ hlt]
        intro w hw'
        rcases List.mem_append.1 hw' with h | h
        · exact hw w h
        · simp at h; subst h; omega
    · have e := le_of_dec h4 hi
      subst e
      rw [List.take_length] at hw
      rw [right_true ⟨by omega, by omega, by omega, hs, hw⟩] at h
      exact h

def sameV (a b : Disk) : Bool := decide (a = b)

theorem slices_Equal_string_ok {a b : List Str} (ha : a.length ≤ big) {K : Bool → Prop} (h : K (decide (a = b))) : slices_Equal_string.F a b K := by
  unfold slices_Equal_string.F
  refine cond_ok (fun h1 => ?_) (fun h1 => ?_)
  · have hne : a ≠ b := by rintro rfl; simp at h1
    rw [show decide (a = b) = false by simpa using hne] at h
    exact h
  · have hl := bne_nat' h1
    refine loop_ok (I := fun x : slices_Equal_string.L0 => ∃ i : Nat, i ≤ a.length ∧ a.take i = b.take i ∧ x = ⟨a, b, a.length, i⟩) (m := fun x : slices_Equal_string.L0 => a.length - x.t13.toNat) ?_ ⟨0, by simp, rfl, rfl⟩
    rintro _ ⟨i, hi, heq, rfl⟩ rec hrec
    unfold slices_Equal_string.b0
    dsimp only
    refine cond_ok (fun h4 => ?_) (fun h4 => ?_)
    · have hlt := lt_of_dec h4
      refine oget_ok (getI_ok hlt) (oget_ok (getI_ok (hl ▸ hlt)) (cond_ok (fun h5 => ?_) (fun h5 => ?_)))
      · have hne : a ≠ b := by rintro rfl; simp at h5
        rw [show decide (a = b) = false by simpa using hne] at h
        exact h
      · have e : a[i] = b[i]'(hl ▸ hlt) := by simpa using h5
        rw [wrap_succ (by omega)]
        refine hrec _ ⟨i + 1, hlt, ?_, rfl⟩ (by simp; omega)
        rw [take_succ hlt, take_succ (hl ▸ hlt), heq, e]
    · have e := le_of_dec h4 hi
      subst e
      have e : a = b := by
        rw [List.take_length, hl, List.take_length] at heq
        exact heq
      subst e
      simpa using h

theorem write_eq {v w : Write} : ((v.sector == w.sector) && ((v.data == w.data) && true)) = decide (v = w) := by
  rw [Bool.eq_iff_iff]
  obtain ⟨a, b⟩ := v
  obtain ⟨c, d⟩ := w
  simp

theorem slices_Equal_Write_ok {a b : List Write} (ha : a.length ≤ big) {K : Bool → Prop} (h : K (decide (a = b))) : slices_Equal_Write.F a b K := by
  unfold slices_Equal_Write.F
  refine cond_ok (fun h1 => ?_) (fun h1 => ?_)
  · have hne : a ≠ b := by rintro rfl; simp at h1
    rw [show decide (a = b) = false by simpa using hne] at h
    exact h
  · have hl := bne_nat' h1
    refine loop_ok (I := fun x : slices_Equal_Write.L0 => ∃ i : Nat, i ≤ a.length ∧ a.take i = b.take i ∧ x = ⟨a, b, a.length, i⟩) (m := fun x : slices_Equal_Write.L0 => a.length - x.t13.toNat) ?_ ⟨0, by simp, rfl, rfl⟩
    rintro _ ⟨i, hi, heq, rfl⟩ rec hrec
    unfold slices_Equal_Write.b0
    dsimp only
    refine cond_ok (fun h4 => ?_) (fun h4 => ?_)
    · have hlt := lt_of_dec h4
      refine oget_ok (getI_ok hlt) (oget_ok (getI_ok (hl ▸ hlt)) ?_)
      rw [write_eq]
      refine cond_ok (fun h5 => ?_) (fun h5 => ?_)
      · have hne : a ≠ b := by rintro rfl; simp at h5
        rw [show decide (a = b) = false by simpa using hne] at h
        exact h
      · have e : a[i] = b[i]'(hl ▸ hlt) := by simpa using h5
        rw [wrap_succ (by omega)]
        refine hrec _ ⟨i + 1, hlt, ?_, rfl⟩ (by simp; omega)
        rw [take_succ hlt, take_succ (hl ▸ hlt), heq, e]
    · have e := le_of_dec h4 hi
      subst e
      have e : a = b := by
        rw [List.take_length, hl, List.take_length] at heq
        exact heq
      subst e
      simpa using h

theorem disk_Same_ok {a b : Disk} (h1 : a.sure.length ≤ big) (h2 : a.cache.length ≤ big) {K : Bool → Prop} (h : K (sameV a b)) : disk_Same.F a b K := by
  unfold disk_Same.F
  have no : a ≠ b → K false := by
    intro hne
    unfold sameV at h
    rw [show decide (a = b) = false by simpa using hne] at h
    exact h
  refine slices_Equal_string_ok h1 (cond_ok (fun h3 => ?_) (fun h3 => no (by rintro rfl; simp at h3)))
  refine slices_Equal_Write_ok h2 (cond_ok (fun h4 => ?_) (fun h4 => no (by rintro rfl; simp at h4)))
  refine cond_ok (fun h5 => ?_) (fun h5 => no (by rintro rfl; simp at h5))
  have e3 : a.sure = b.sure := of_decide_eq_true h3
  have e4 : a.cache = b.cache := of_decide_eq_true h4
  have e5 : a.fuse = b.fuse := by simpa using h5
  clear h3 h4 h5 h1 h2
  obtain ⟨s, c, f, dd⟩ := a
  obtain ⟨s', c', f', dd'⟩ := b
  dsimp only at e3 e4 e5
  subst e3; subst e4; subst e5
  unfold sameV at h
  have : decide ((⟨s, c, f, dd⟩ : Disk) = ⟨s, c, f, dd'⟩) = (dd == dd') := by
    rw [Bool.eq_iff_iff]; simp
  rw [this] at h
  exact h

theorem ref04_Same_ok {a b : Disk} (h1 : a.sure.length ≤ big) (h2 : a.cache.length ≤ big) {K : Bool → Prop} (h : K (sameV a b)) : ref04_Same.F a b K := by
  unfold ref04_Same.F
  have no : a ≠ b → K false := by
    intro hne
    unfold sameV at h
    rw [show decide (a = b) = false by simpa using hne] at h
    exact h
  refine cond_ok (fun h3 => no (by rintro rfl; simp at h3)) (fun h3 => ?_)
  refine cond_ok (fun h4 => no (by rintro rfl; simp at h4)) (fun h4 => ?_)
  refine cond_ok (fun h5 => no (by rintro rfl; simp at h5)) (fun h5 => ?_)
  refine cond_ok (fun h6 => no (by rintro rfl; simp at h6)) (fun h6 => ?_)
  have l1 := bne_nat' h3
  have l2 := bne_nat' h4
  refine loop_ok (I := fun x : ref04_Same.L0 => ∃ i : Nat, i ≤ a.sure.length ∧ a.sure.take i = b.sure.take i ∧ x = ⟨i, a.sure, a.cache, a.fuse, a.dead, b.sure, b.cache, b.fuse, b.dead⟩) (m := fun x : ref04_Same.L0 => a.sure.length - x.i.toNat) ?_ ⟨0, by simp, rfl, rfl⟩
  rintro _ ⟨i, hi, heq, rfl⟩ rec hrec
  unfold ref04_Same.b0
  dsimp only
  refine cond_ok (fun h7 => ?_) (fun h7 => ?_)
  · have hlt := lt_of_dec h7
    refine oget_ok (getI_ok hlt) (oget_ok (getI_ok (l1 ▸ hlt)) (cond_ok (fun h8 => no (by rintro rfl; simp at h8)) (fun h8 => ?_)))
    have e : a.sure[i] = b.sure[i]'(l1 ▸ hlt) := by simpa using h8
    rw [wrap_succ (by omega)]
    refine hrec _ ⟨i + 1, hlt, ?_, rfl⟩ (by simp; omega)
    rw [take_succ hlt, take_succ (l1 ▸ hlt), heq, e]
  · have e := le_of_dec h7 hi
    subst e
    have es : a.sure = b.sure := by
      rw [List.take_length, l1, List.take_length] at heq
      exact heq
    refine loop_ok (I := fun x : ref04_Same.L2 => ∃ i : Nat, i ≤ a.cache.length ∧ a.cache.take i = b.cache.take i ∧ x = ⟨i, a.sure, a.cache, a.fuse, a.dead, b.sure, b.cache, b.fuse, b.dead⟩) (m := fun x : ref04_Same.L2 => a.cache.length - x.i.toNat) ?_ ⟨0, by simp, rfl, rfl⟩
    rintro _ ⟨i, hi, heq, rfl⟩ rec hrec
    unfold ref04_Same.b2
    dsimp only
    refine cond_ok (fun h7 => ?_) (fun h7 => ?_)
    · have hlt := lt_of_dec h7
      refine oget_ok (getI_ok hlt) (oget_ok (getI_ok (l2 ▸ hlt)) ?_)
      rw [write_eq]
      refine cond_ok (fun h8 => no (by rintro rfl; simp at h8)) (fun h8 => ?_)
      have e : a.cache[i] = b.cache[i]'(l2 ▸ hlt) := by simpa using h8
      rw [wrap_succ (by omega)]
      refine hrec _ ⟨i + 1, hlt, ?_, rfl⟩ (by simp; omega)
      rw [take_succ hlt, take_succ (l2 ▸ hlt), heq, e]
    · have e := le_of_dec h7 hi
      subst e
      have ec : a.cache = b.cache := by
        rw [List.take_length, l2, List.take_length] at heq
        exact heq
      have ef : a.fuse = b.fuse := by simpa using h5
      have ed : a.dead = b.dead := by simpa using h6
      have : a = b := by
        obtain ⟨s, c, f, dd⟩ := a
        obtain ⟨s', c', f', dd'⟩ := b
        dsimp only at es ec ef ed
        subst es; subst ec; subst ef; subst ed
        rfl
      unfold sameV at h
      rw [show decide (a = b) = true by simpa using this] at h
      exact h
end Gm

/- Plain laws: what becomes of disks. -/
set_option maxRecDepth 100000
namespace Gm
open Go

theorem fit_ok {n : Nat} (h : n ≤ 70368744177664) : decide (n ≤ room) = true := decide_eq_true h

def armV (d : Disk) (n : Int) : Disk := ⟨d.sure, d.cache, maxI2 n 0, d.dead⟩
def crashV (d : Disk) : Disk := ⟨d.sure, d.cache, 0, true⟩
def settleV (sure : List Str) (ws : List Write) : List Str := ws.foldl (fun s w => s.set w.sector.toNat w.data) sure
def keptW : List Write → List Bool → List Write
  | w :: ws, k :: ks => if k = true then w :: keptW ws ks else keptW ws ks
  | _, _ => []
def reviveV (d : Disk) (keeps : List Bool) : Disk := ⟨settleV d.sure (keptW d.cache keeps), [], 0, false⟩
def InR (n : Nat) (ws : List Write) : Prop := ∀ w ∈ ws, 0 ≤ w.sector ∧ w.sector < n

theorem settleV_length : ∀ (ws : List Write) (s : List Str), (settleV s ws).length = s.length
  | [], _ => rfl
  | w :: ws, s => by
    unfold settleV
    rw [List.foldl_cons]
    have := settleV_length ws (s.set w.sector.toNat w.data)
    unfold settleV at this
    rw [this]; simp
theorem kept_sub : ∀ (ws : List Write) (ks : List Bool), ∀ w ∈ keptW ws ks, w ∈ ws
  | [], _, w, h => by simp [keptW] at h
  | a :: ws, [], w, h => by simp [keptW] at h
  | a :: ws, k :: ks, w, h => by
    unfold keptW at h
    split at h
    · rcases List.mem_cons.1 h with rfl | h
      · simp
      · exact List.mem_cons_of_mem _ (kept_sub ws ks w h)
    · exact List.mem_cons_of_mem _ (kept_sub ws ks w h)
theorem kept_length : ∀ (ws : List Write) (ks : List Bool), (keptW ws ks).length ≤ ws.length
  | [], _ => by simp [keptW]
  | a :: ws, [] => by simp [keptW]
  | a :: ws, k :: ks => by
    have := kept_length ws ks
    unfold keptW
    split <;> simp <;> omega
theorem drop_cons {α : Type} {xs : List α} {i : Nat} (h : i < xs.length) : xs.drop i = xs[i] :: xs.drop (i + 1) := by simp

theorem disk_settle_ok {sure : List Str} {ws : List Write} (h1 : sure.length ≤ 1000000) (h2 : ws.length ≤ 1000000) (hr : InR sure.length ws) {K : List Str → Prop} (h : K (settleV sure ws)) : disk_settle.F sure ws K := by
  unfold disk_settle.F
  refine gd_ok (fit_ok (by omega)) ?_
  refine loop_ok (I := fun x : disk_settle.L0 => ∃ (i : Nat) (s : List Str), i ≤ ws.length ∧ s.length = sure.length ∧ settleV s (ws.drop i) = settleV sure ws ∧ x = ⟨s, ws, ws.length, i⟩) (m := fun x : disk_settle.L0 => ws.length - x.t11.toNat) ?_ ⟨0, sure, by simp, rfl, by simp, rfl⟩
  rintro _ ⟨i, s, hi, hs, he, rfl⟩ rec hrec
  unfold disk_settle.b0
  dsimp only
  refine cond_ok (fun h4 => ?_) (fun h4 => ?_)
  · have hlt := lt_of_dec h4
    have hw := hr _ (List.getElem_mem hlt)
    refine oget_ok (getI_ok hlt) (gd_ok (by simp; omega) ?_)
    rw [wrap_succ (by unfold big; omega)]
    refine hrec _ ⟨i + 1, _, hlt, by simp [hs], ?_, rfl⟩ (by simp; omega)
    rw [← he, drop_cons hlt]
    rfl
  · have e := le_of_dec h4 hi
    subst e
    rw [List.drop_length] at he
    rw [← he] at h
    exact h

theorem disk_Revive_ok {d : Disk} {keeps : List Bool} (h1 : d.sure.length ≤ 1000000) (h2 : d.cache.length ≤ 1000000) (hr : InR d.sure.length d.cache) {K : Disk → Prop} (h : K (reviveV d keeps)) : disk_Revive.F d keeps K := by
  unfold disk_Revive.F
  refine loop_ok (I := fun x : disk_Revive.L0 => ∃ (i : Nat) (kept : List Write), i ≤ d.cache.length ∧ kept.length ≤ i ∧ kept ++ keptW (d.cache.drop i) (keeps.drop i) = keptW d.cache keeps ∧ x = ⟨keeps, kept, d.cache, d.cache.length, i, d.sure, d.cache, d.fuse, d.dead, 0, false⟩) (m := fun x : disk_Revive.L0 => d.cache.length - x.t11.toNat) ?_ ⟨0, [], by simp, by simp, by simp, rfl⟩
  rintro _ ⟨i, kept, hi, hk, he, rfl⟩ rec hrec
  unfold disk_Revive.b0
  dsimp only
  refine cond_ok (fun h4 => ?_) (fun h4 => ?_)
  · have hlt := lt_of_dec h4
    refine oget_ok (getI_ok hlt) ?_
    rw [wrap_succ (by unfold big; omega)]
    refine cond_ok (fun h5 => ?_) (fun h5 => ?_)
    · have hlk := lt_of_dec h5
      refine oget_ok (getI_ok hlk) (cond_ok (fun h6 => ?_) (fun h6 => ?_))
      · refine gd_ok (fit_ok (by simp; omega)) ?_
        refine hrec _ ⟨i + 1, _, hlt, by simp; omega, ?_, rfl⟩ (by simp; omega)
        rw [← he, drop_cons hlt, drop_cons hlk, keptW, if_pos h6, List.append_assoc]
        rfl
      · refine hrec _ ⟨i + 1, _, hlt, by omega, ?_, rfl⟩ (by simp; omega)
        rw [← he, drop_cons hlt, drop_cons hlk, keptW, if_neg (by simp [h6])]
    · have hlk : ¬ i < keeps.length := by simpa using h5
      refine hrec _ ⟨i + 1, _, hlt, by omega, ?_, rfl⟩ (by simp; omega)
      rw [← he, show keeps.drop i = [] from List.drop_eq_nil_iff.2 (by omega), show keeps.drop (i + 1) = [] from List.drop_eq_nil_iff.2 (by omega)]
      cases d.cache.drop i <;> cases d.cache.drop (i + 1) <;> rfl
  · have e := le_of_dec h4 hi
    subst e
    rw [List.drop_length] at he
    have he : kept = keptW d.cache keeps := by simpa [keptW] using he
    subst he
    refine disk_settle_ok h1 (by omega) (fun w hw => hr w (kept_sub _ _ w hw)) ?_
    exact h

theorem ref04_Revive_ok {d : Disk} {keeps : List Bool} (h1 : d.sure.length ≤ 1000000) (h2 : d.cache.length ≤ 1000000) (hr : InR d.sure.length d.cache) {K : Disk → Prop} (h : K (reviveV d keeps)) : ref04_Revive.F d keeps K := by
  unfold ref04_Revive.F
  refine gd_ok (fit_ok (by omega)) ?_
  refine loop_ok (I := fun x : ref04_Revive.L0 => ∃ (i : Nat) (s : List Str), i ≤ d.cache.length ∧ i ≤ keeps.length ∧ s.length = d.sure.length ∧ settleV s (keptW (d.cache.drop i) (keeps.drop i)) = settleV d.sure (keptW d.cache keeps) ∧ x = ⟨keeps, s, i, d.sure, d.cache, d.fuse, d.dead, 0, false⟩) (m := fun x : ref04_Revive.L0 => d.cache.length - x.i.toNat) ?_ ⟨0, d.sure, by simp, by simp, rfl, by simp, rfl⟩
  rintro _ ⟨i, s, hi, hk, hs, he, rfl⟩ rec hrec
  unfold ref04_Revive.b0
  dsimp only
  have fin : keptW (d.cache.drop i) (keeps.drop i) = [] → K ⟨s, [], 0, false⟩ := by
    intro e
    rw [e] at he
    unfold reviveV at h
    rw [← he] at h
    exact h
  refine cond_ok (fun h4 => ?_) (fun h4 => ?_)
  · have hlt := lt_of_dec h4
    refine cond_ok (fun h5 => ?_) (fun h5 => ?_)
    · have hlk := lt_of_dec h5
      have hw := hr _ (List.getElem_mem hlt)
      rw [wrap_succ (by unfold big; omega)]
      refine oget_ok (getI_ok hlk) (cond_ok (fun h6 => ?_) (fun h6 => ?_))
      · refine oget_ok (getI_ok hlt) (oget_ok (getI_ok hlt) (gd_ok (by simp; omega) ?_))
        refine hrec _ ⟨i + 1, _, hlt, hlk, by simp [hs], ?_, rfl⟩ (by simp; omega)
        rw [← he, drop_cons hlt, drop_cons hlk, keptW, if_pos h6]
        rfl
      · refine hrec _ ⟨i + 1, _, hlt, hlk, hs, ?_, rfl⟩ (by simp; omega)
        rw [← he, drop_cons hlt, drop_cons hlk, keptW, if_neg (by simp [h6])]
    · have e := le_of_dec h5 hk
      subst e
      refine fin ?_
      rw [List.drop_length]
      cases d.cache.drop keeps.length <;> rfl
  · have e := le_of_dec h4 hi
    refine fin ?_
    rw [e, List.drop_length]
    rfl

/-- What a write makes of a disk. -/
def writeV (d : Disk) (i : Int) (data : Str) : Disk × Int :=
  if d.dead = true then (d, 6) else if ¬ (0 ≤ i ∧ i < d.sure.length) then (d, 4) else if data.length > 64 then (d, 5)
  else if d.fuse = 0 then (⟨d.sure, d.cache ++ [⟨i, data⟩], 0, false⟩, 0) else if d.fuse = 1 then (crashV d, 6) else (⟨d.sure, d.cache ++ [⟨i, data⟩], d.fuse - 1, false⟩, 0)
def flushV (d : Disk) : Disk × Int :=
  if d.dead = true then (d, 6) else if d.fuse = 0 then (⟨settleV d.sure d.cache, [], 0, false⟩, 0) else if d.fuse = 1 then (crashV d, 6) else (⟨settleV d.sure d.cache, [], d.fuse - 1, false⟩, 0)

theorem fuse_wrap {n : Int} (h : inK .i64 n) (h0 : 0 ≤ n) : IntKind.i64.wrap (n - 1) = n - 1 := by
  have h : -9223372036854775808 ≤ n ∧ n ≤ 9223372036854775807 := h
  exact wrap_i64 (by omega)

theorem disk_there_ok {d : Disk} {i : Int} {K : Bool → Prop} (h : K (decide (0 ≤ i ∧ i < d.sure.length))) : disk_there.F d i K := by
  unfold disk_there.F
  refine cond_ok (fun h1 => ?_) (fun h1 => ?_)
  · have h1 : i ≥ 0 := of_decide_eq_true h1
    rw [show decide (0 ≤ i ∧ i < (d.sure.length : Int)) = decide (i < (d.sure.length : Int)) by simp; omega] at h
    exact h
  · have h1 : ¬ i ≥ 0 := of_decide_eq_false h1
    rw [show decide (0 ≤ i ∧ i < (d.sure.length : Int)) = false by simp; omega] at h
    exact h

theorem disk_Write_ok {d : Disk} {i : Int} {data : Str} (hc : d.cache.length ≤ 1000000) (hf : inK .i64 d.fuse) (h0 : 0 ≤ d.fuse) {K : (Disk × Int) → Prop} (h : K (writeV d i data)) : disk_Write.F d i data K := by
  unfold disk_Write.F
  unfold writeV at h
  refine cond_ok (fun h1 => ?_) (fun h1 => ?_)
  · rw [if_pos h1] at h; exact h
  rw [if_neg (by simp [h1])] at h
  refine disk_there_ok (cond_ok (fun h2 => ?_) (fun h2 => ?_))
  · have h2 : ¬ (0 ≤ i ∧ i < (d.sure.length : Int)) := by
      intro hh
      rw [decide_eq_true hh] at h2
      cases h2
    rw [if_pos h2] at h; exact h
  have h2 : 0 ≤ i ∧ i < (d.sure.length : Int) := by simpa using h2
  rw [if_neg (fun hn => hn h2)] at h
  unfold disk_long.F
  refine cond_ok (fun h3 => ?_) (fun h3 => ?_)
  · have h3 : (data.length : Int) > 64 := of_decide_eq_true h3
    rw [if_pos (by omega)] at h; exact h
  have h3 : ¬ (data.length : Int) > 64 := of_decide_eq_false h3
  rw [if_neg (by omega)] at h
  have es : sub d.cache 0 (Int.toNat (d.cache.length : Int)) = d.cache := by simp [sub]
  refine cond_ok (fun h4 => ?_) (fun h4 => ?_)
  · have h4 : d.fuse = 0 := by simpa using h4
    rw [if_pos h4] at h
    refine gd_ok (fit_ok (by omega)) (gd_ok (by simp) (gd_ok (fit_ok (by rw [es]; simp; omega)) ?_))
    rw [es, h4, h1]
    exact h
  have h4 : d.fuse ≠ 0 := by simpa using h4
  rw [if_neg h4] at h
  refine cond_ok (fun h5 => ?_) (fun h5 => ?_)
  · have h5 : d.fuse = 1 := by simpa using h5
    rw [if_pos h5] at h
    exact h
  have h5 : d.fuse ≠ 1 := by simpa using h5
  rw [if_neg h5] at h
  refine gd_ok (fit_ok (by omega)) (gd_ok (by simp) (gd_ok (fit_ok (by rw [es]; simp; omega)) ?_))
  rw [es, fuse_wrap hf h0, h1]
  exact h

theorem disk_Flush_ok {d : Disk} (h1 : d.sure.length ≤ 1000000) (hc : d.cache.length ≤ 1000000) (hr : InR d.sure.length d.cache) (hf : inK .i64 d.fuse) (h0 : 0 ≤ d.fuse) {K : (Disk × Int) → Prop} (h : K (flushV d)) : disk_Flush.F d K := by
  unfold disk_Flush.F
  unfold flushV at h
  refine cond_ok (fun h2 => ?_) (fun h2 => ?_)
  · rw [if_pos h2] at h; exact h
  rw [if_neg (by simp [h2])] at h
  refine cond_ok (fun h4 => ?_) (fun h4 => ?_)
  · have h4 : d.fuse = 0 := by simpa using h4
    rw [if_pos h4] at h
    refine disk_settle_ok h1 hc hr ?_
    rw [h4, h2]
    exact h
  have h4 : d.fuse ≠ 0 := by simpa using h4
  rw [if_neg h4] at h
  refine cond_ok (fun h5 => ?_) (fun h5 => ?_)
  · have h5 : d.fuse = 1 := by simpa using h5
    rw [if_pos h5] at h
    exact h
  have h5 : d.fuse ≠ 1 := by simpa using h5
  rw [if_neg h5] at h
  refine disk_settle_ok h1 hc hr ?_
  rw [fuse_wrap hf h0, h2]
  exact h
end Gm

/- The laws of layer 4 are true. -/
set_option maxRecDepth 100000
namespace Gm
open Go

def dA : Disk := ⟨[[], []], [], 0, false⟩
def dB : Disk := ⟨[[], []], [⟨1, [97]⟩], 0, false⟩
def dC : Disk := ⟨[[], [97]], [], 0, false⟩

theorem inr_B : InR 2 [⟨1, [97]⟩] := by
  intro w hw
  simp at hw
  subst hw
  exact ⟨by decide, by decide⟩
theorem in0 : inK .i64 0 := ⟨by decide, by decide⟩
theorem in1 : inK .i64 1 := ⟨by decide, by decide⟩

theorem disk_Crash_ok {d : Disk} {K : Disk → Prop} (h : K (crashV d)) : disk_Crash.F d K := h
theorem ref04_Crash_ok {d : Disk} {K : Disk → Prop} (h : K (crashV d)) : ref04_Crash.F d K := h
theorem disk_Arm_ok {d : Disk} {n : Int} {K : Disk → Prop} (h : K (armV d n)) : disk_Arm.F d n K := h
theorem ref04_Arm_ok {d : Disk} {n : Int} {K : Disk → Prop} (h : K (armV d n)) : ref04_Arm.F d n K := h

theorem law04_alive_ok {K : Bool → Prop} (k : K true) : law04_alive.F K := by
  unfold law04_alive.F
  refine disk_New_ok ?_
  rw [show newV 2 = (dA, 0) by decide]
  refine disk_Write_ok (d := dA) (by decide) in0 (by decide) ?_
  rw [show writeV dA 1 [97] = (dB, 0) by decide]
  refine disk_Read_ok (d := dB) (by decide) (by decide) ?_
  rw [show readV dB 1 = ([97], 0) by decide]
  refine disk_Crash_ok ?_
  refine disk_Revive_ok (d := crashV dB) (by decide) (by decide) inr_B ?_
  rw [show reviveV (crashV dB) [] = dA by decide]
  refine disk_Read_ok (d := dA) (by decide) (by decide) ?_
  rw [show readV dA 1 = ([], 0) by decide]
  refine disk_Crash_ok ?_
  refine disk_Revive_ok (d := crashV dB) (by decide) (by decide) inr_B ?_
  rw [show reviveV (crashV dB) [true] = dC by decide]
  refine disk_Read_ok (d := dC) (by decide) (by decide) ?_
  rw [show readV dC 1 = ([97], 0) by decide]
  refine disk_Crash_ok ?_
  refine disk_Read_ok (d := crashV dB) (by decide) (by decide) ?_
  rw [show readV (crashV dB) 1 = ([], 6) by decide]
  refine disk_Flush_ok (d := dB) (by decide) (by decide) inr_B in0 (by decide) ?_
  rw [show flushV dB = (dC, 0) by decide]
  refine disk_Arm_ok ?_
  refine disk_Write_ok (d := armV dC 1) (by decide) in1 (by decide) ?_
  rw [show writeV (armV dC 1) 1 [98] = (⟨[[], [97]], [], 0, true⟩, 6) by decide]
  refine disk_Write_ok (d := dA) (by decide) in0 (by decide) ?_
  rw [show writeV dA 2 [98] = (dA, 4) by decide]
  refine cond_t rfl (cond_t rfl (cond_t rfl (cond_t rfl (cond_t rfl (cond_t rfl (cond_t rfl (cond_t rfl (cond_t rfl (cond_t rfl (cond_t rfl (cond_t rfl (cond_t rfl (cond_t rfl (oget_ok (v := [97]) rfl (cond_t rfl (cond_t rfl ?_))))))))))))))))
  refine disk_Right_ok (d := dA) (by decide) (by decide) (cond_t (by decide) (disk_Right_ok (by decide) (by decide) (cond_t (by decide) ?_)))
  refine disk_Same_ok (by decide) (by decide) (cond_t (by decide) (disk_Same_ok (by decide) (by decide) ?_))
  rw [show (!(sameV dA dB)) = true by decide]
  exact k

theorem newV_small (n : Int) : (newV n).1.sure.length ≤ big ∧ (newV n).1.cache.length ≤ big := by
  unfold newV big
  split
  · simp; omega
  · simp

theorem law04_DiskNews_true {n : Int} {a b : Disk} : law04_DiskNews.F n a b (fun r => r = true) := by
  unfold law04_DiskNews.F
  refine law04_alive_ok (cond_f rfl (ref04_Great_ok (fun _ => rfl) fun ha => cond_f rfl (ref04_Great_ok (fun _ => rfl) fun hb => cond_f rfl ?_)))
  obtain ⟨a1, a2⟩ := small_of ha
  obtain ⟨n1, n2⟩ := newV_small n
  refine disk_New_ok (ref04_New_ok (ref04_Same_ok n1 n2 (cond_t (by simp [sameV]) (cond_t (by simp) (disk_Right_ok (by omega) (by omega) (ref04_Right_ok (by omega) (cond_t (by simp) (disk_Same_ok (by unfold big; omega) (by unfold big; omega) (ref04_Same_ok (by unfold big; omega) (by unfold big; omega) (by simp))))))))))

theorem inR_of {d : Disk} (h : rightV d = true) : InR d.sure.length d.cache := by
  have := (right_iff h).2.2.2.2
  intro w hw
  exact ⟨(this w hw).1, (this w hw).2.1⟩

theorem law04_DiskRevives_true {d : Disk} {n : Int} {keeps : List Bool} : law04_DiskRevives.F d n keeps (fun r => r = true) := by
  unfold law04_DiskRevives.F
  refine law04_alive_ok (cond_f rfl (ref04_Great_ok (fun _ => rfl) fun hd => cond_f rfl (cond_ok (fun _ => rfl) fun _ => ?_)))
  obtain ⟨a1, a2⟩ := small_of hd
  refine ref04_Right_ok (by omega) (cond_ok (fun _ => rfl) fun hr => ?_)
  have hr : rightV d = true := by simpa using hr
  have l1 : d.sure.length ≤ big := by unfold big; omega
  have l2 : d.cache.length ≤ big := by unfold big; omega
  refine disk_Arm_ok (ref04_Arm_ok ?_)
  refine ref04_Same_ok (a := armV d n) (b := armV d n) l1 l2 (cond_t (by simp [sameV]) ?_)
  refine disk_Crash_ok (ref04_Crash_ok ?_)
  refine ref04_Same_ok (a := crashV d) (b := crashV d) l1 l2 (cond_t (by simp [sameV]) ?_)
  refine disk_Revive_ok (by omega) (by omega) (inR_of hr) (ref04_Revive_ok (by omega) (by omega) (inR_of hr) ?_)
  refine ref04_Same_ok ?_ (by show ([] : List Write).length ≤ big; simp) (by simp [sameV])
  show (settleV _ _).length ≤ big
  rw [settleV_length]; exact l1

/-! ### A crash -/
theorem settle_get : ∀ (ws : List Write) (s : List Str) (i : Nat) (v : Str), (settleV s ws)[i]? = some v → s[i]? = some v ∨ ∃ w ∈ ws, w.sector.toNat = i ∧ w.data = v
  | [], s, i, v, h => .inl h
  | w :: ws, s, i, v, h => by
    have h : (settleV (s.set w.sector.toNat w.data) ws)[i]? = some v := h
    rcases settle_get ws _ i v h with h | ⟨w', hw, h1, h2⟩
    · by_cases e : w.sector.toNat = i
      · by_cases hl : i < s.length
        · rw [e, List.getElem?_set_self hl] at h
          exact .inr ⟨w, by simp, e, Option.some.inj h⟩
        · rw [List.getElem?_eq_none (by simp; omega)] at h
          cases h
      · rw [List.getElem?_set_ne e] at h
        exact .inl h
    · exact .inr ⟨w', List.mem_cons_of_mem _ hw, h1, h2⟩

theorem settle_holds : ∀ (ws : List Write) (s : List Str) (i : Nat) (hi : i < s.length), InR s.length ws → (settleV s ws)[i]? = some (holds s[i] ws i)
  | [], s, i, hi, _ => by simp [settleV, holds, hi]
  | w :: ws, s, i, hi, hr => by
    have hw := hr w (by simp)
    have ih := settle_holds ws (s.set w.sector.toNat w.data) i (by simpa using hi) (fun w' h => by
      have := hr w' (List.mem_cons_of_mem _ h)
      simpa using this)
    have e : settleV s (w :: ws) = settleV (s.set w.sector.toNat w.data) ws := rfl
    rw [e, ih]
    unfold holds
    rw [List.foldl_cons]
    congr 2
    rw [List.getElem_set]
    by_cases h : w.sector = (i : Int)
    · rw [if_pos h, if_pos (by omega)]
    · rw [if_neg h, if_neg (by omega)]

theorem law04_DiskAtomic_true {d : Disk} {keeps : List Bool} : law04_DiskAtomic.F d keeps (fun r => r = true) := by
  unfold law04_DiskAtomic.F
  refine law04_alive_ok (cond_f rfl (ref04_Great_ok (fun _ => rfl) fun hd => cond_f rfl (cond_ok (fun _ => rfl) fun _ => ?_)))
  obtain ⟨a1, a2⟩ := small_of hd
  refine ref04_Right_ok (by omega) (cond_ok (fun _ => rfl) fun hr => (cond_ok (fun _ => rfl) fun hdead => ?_))
  have hr : rightV d = true := by simpa using hr
  have hR := right_iff hr
  have hI := inR_of hr
  refine disk_Crash_ok ?_
  refine disk_Revive_ok (d := crashV d) (by show d.sure.length ≤ _; omega) (by show d.cache.length ≤ _; omega) hI ?_
  have hx : reviveV (crashV d) keeps = ⟨settleV d.sure (keptW d.cache keeps), [], 0, false⟩ := rfl
  rw [hx]
  have hlen := settleV_length (keptW d.cache keeps) d.sure
  have hsm : ∀ s ∈ settleV d.sure (keptW d.cache keeps), s.length ≤ 64 := by
    intro s hs
    obtain ⟨i, hi, e⟩ := List.mem_iff_getElem.1 hs
    rcases settle_get _ _ i s (by rw [List.getElem?_eq_getElem hi, e]) with h | ⟨w, hw, h1, h2⟩
    · exact hR.2.2.2.1 s (List.mem_of_getElem? h)
    · rw [← h2]; exact (hR.2.2.2.2 w (kept_sub _ _ w hw)).2.2
  refine ref04_Right_ok (by simp) (cond_f ?_ (cond_f ?_ (cond_f (by simp) (cond_f rfl ?_))))
  · rw [right_true ⟨by show 1 ≤ (settleV _ _).length; omega, by show (settleV _ _).length ≤ 64; omega, by show (0 : Int) ≤ 0; omega, hsm, fun w hw => by cases hw⟩]
    rfl
  · show (((settleV d.sure (keptW d.cache keeps)).length : Int) != (d.sure.length : Int)) = false
    rw [hlen]; simp
  dsimp only
  generalize hxs : settleV d.sure (keptW d.cache keeps) = xs at *
  refine loop_ok (I := fun x : law04_DiskAtomic.L0 => ∃ i : Nat, i ≤ xs.length ∧ x = ⟨keeps, i, d.sure, d.cache, d.fuse, d.dead, xs, [], 0, false⟩) (m := fun x : law04_DiskAtomic.L0 => xs.length - x.i.toNat) ?_ ⟨0, by simp, rfl⟩
  rintro _ ⟨i, hi, rfl⟩ rec hrec
  unfold law04_DiskAtomic.b0
  dsimp only
  refine cond_ok (fun h4 => ?_) (fun h4 => ?_)
  · have hlt := lt_of_dec h4
    have hlt2 : i < d.sure.length := by omega
    refine oget_ok (getI_ok hlt) (oget_ok (getI_ok hlt2) ?_)
    have hor : xs[i] = d.sure[i] ∨ ∃ k, ∃ hk : k < d.cache.length, (d.cache[k]).sector = (i : Int) ∧ (d.cache[k]).data = xs[i] := by
      rcases settle_get (keptW d.cache keeps) d.sure i xs[i] (by rw [hxs, List.getElem?_eq_getElem hlt]) with h | ⟨w, hw, h1, h2⟩
      · rw [List.getElem?_eq_getElem hlt2] at h
        exact .inl (Option.some.inj h).symm
      · have hw' := kept_sub _ _ w hw
        obtain ⟨k, hk, e⟩ := List.mem_iff_getElem.1 hw'
        have := hI w hw'
        exact .inr ⟨k, hk, by rw [e]; omega, by rw [e]; exact h2⟩
    refine loop_ok (I := fun x : law04_DiskAtomic.L2 => ∃ (k : Nat) (ok : Bool), k ≤ d.cache.length ∧ (ok = true ∨ ∃ j, ∃ hj : j < d.cache.length, k ≤ j ∧ (d.cache[j]).sector = (i : Int) ∧ (d.cache[j]).data = xs[i]) ∧
      x = ⟨keeps, i, ok, k, d.sure, d.cache, d.fuse, d.dead, xs, [], 0, false⟩) (m := fun x : law04_DiskAtomic.L2 => d.cache.length - x.k.toNat) ?_ ?_
    · rintro _ ⟨k, ok, hk, hok, rfl⟩ rec2 hrec2
      unfold law04_DiskAtomic.b2
      dsimp only
      refine cond_ok (fun h5 => ?_) (fun h5 => ?_)
      · have hkt := lt_of_dec h5
        rw [wrap_succ (by unfold big; omega)]
        refine cond_ok (fun h6 => ?_) (fun h6 => ?_)
        · exact hrec2 _ ⟨k + 1, true, hkt, .inl rfl, rfl⟩ (by simp; omega)
        · have hex : ∃ j, ∃ hj : j < d.cache.length, k ≤ j ∧ (d.cache[j]).sector = (i : Int) ∧ (d.cache[j]).data = xs[i] := by
            rcases hok with h | h
            · rw [h] at h6; cases h6
            · exact h
          obtain ⟨j, hj, hkj, hj1, hj2⟩ := hex
          refine oget_ok (getI_ok hkt) (cond_ok (fun h7 => ?_) (fun h7 => ?_))
          · refine oget_ok (getI_ok hkt) (oget_ok (getI_ok hlt) ?_)
            refine hrec2 _ ⟨k + 1, _, hkt, ?_, rfl⟩ (by simp; omega)
            by_cases e : j = k
            · subst e; exact .inl (by simp [hj2])
            · exact .inr ⟨j, hj, by omega, hj1, hj2⟩
          · have h7 : (d.cache[k]).sector ≠ (i : Int) := by simpa using h7
            refine hrec2 _ ⟨k + 1, _, hkt, .inr ⟨j, hj, ?_, hj1, hj2⟩, rfl⟩ (by simp; omega)
            by_cases e : j = k
            · subst e; exact absurd hj1 h7
            · omega
      · have e := le_of_dec h5 hk
        have hok : ok = true := by
          rcases hok with h | ⟨j, hj, hkj, _⟩
          · exact h
          · omega
        subst hok
        refine cond_f rfl ?_
        rw [wrap_succ (by unfold big; omega)]
        exact hrec _ ⟨i + 1, hlt, rfl⟩ (by simp; omega)
    · refine ⟨0, _, by simp, ?_, rfl⟩
      rcases hor with h | ⟨k, hk, h1, h2⟩
      · exact .inl (by simp [h])
      · exact .inr ⟨k, hk, by omega, h1, h2⟩
  · -- what was flushed
    refine disk_Arm_ok ?_
    have hd0 : d.dead = false := hdead
    refine disk_Flush_ok (d := armV d 0) (by show d.sure.length ≤ _; omega) (by show d.cache.length ≤ _; omega) hI in0 (by show (0 : Int) ≤ 0; omega) ?_
    have hfl : flushV (armV d 0) = (⟨settleV d.sure d.cache, [], 0, false⟩, 0) := by
      unfold flushV armV
      rw [if_neg (by simp [hd0])]
      rfl
    rw [hfl]
    refine disk_Crash_ok ?_
    have hl2 := settleV_length d.cache d.sure
    refine disk_Revive_ok (d := crashV ⟨settleV d.sure d.cache, [], 0, false⟩) (by show (settleV _ _).length ≤ _; omega) (by show ([] : List Write).length ≤ _; simp) (fun w hw => by cases hw) ?_
    have hy : reviveV (crashV ⟨settleV d.sure d.cache, [], 0, false⟩) keeps = ⟨settleV d.sure d.cache, [], 0, false⟩ := by
      unfold reviveV crashV
      cases keeps <;> rfl
    rw [hy]
    dsimp only
    refine loop_ok (I := fun x : law04_DiskAtomic.L4 => ∃ i : Nat, i ≤ d.sure.length ∧ x = ⟨0, i, d.sure, d.cache, d.fuse, d.dead, settleV d.sure d.cache, [], 0, false⟩) (m := fun x : law04_DiskAtomic.L4 => d.sure.length - x.i.toNat) ?_ ⟨0, by simp, rfl⟩
    rintro _ ⟨i, hi, rfl⟩ rec3 hrec3
    unfold law04_DiskAtomic.b4
    dsimp only
    refine cond_ok (fun h5 => ?_) (fun h5 => rfl)
    have hlt := lt_of_dec h5
    refine cond_t rfl ?_
    refine disk_Read_ok (by show d.sure.length ≤ _; omega) (by show d.cache.length ≤ _; omega) (disk_Read_ok (by show (settleV _ _).length ≤ _; omega) (by show ([] : List Write).length ≤ _; simp) ?_)
    have e1 : readV ⟨d.sure, d.cache, d.fuse, d.dead⟩ (i : Int) = (holds d.sure[i] d.cache i, 0) := by
      unfold readV
      rw [if_neg (by simp [hd0]), if_pos ⟨by omega, by show (i : Int) < (d.sure.length : Int); omega⟩]
      simp [hlt]
    have e2 : readV ⟨settleV d.sure d.cache, [], 0, false⟩ (i : Int) = (holds d.sure[i] d.cache i, 0) := by
      unfold readV
      rw [if_neg (by simp), if_pos ⟨by omega, by show (i : Int) < ((settleV d.sure d.cache).length : Int); omega⟩]
      have := settle_holds d.cache d.sure i hlt hI
      simp only [Int.toNat_natCast, List.getD_eq_getElem?_getD, this]
      rfl
    rw [e1, e2]
    refine cond_f (by simp) ?_
    rw [wrap_succ (by unfold big; omega)]
    exact hrec3 _ ⟨i + 1, hlt, rfl⟩ (by simp; omega)
end Gm
