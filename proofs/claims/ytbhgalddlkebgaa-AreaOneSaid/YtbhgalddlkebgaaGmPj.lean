/- Plain laws: masks on disks. -/
import Derived.Test.YtbhgalddlkebgaaGmPh
import Derived.Test.YtbhgalddlkebgaaGmPe
import Derived.Test.YtbhgalddlkebgaaGmT5
set_option maxRecDepth 100000
namespace Gm
open Go

/-- A disk of a modest size, that may be read and written. -/
structure OkD (N : Nat) (d : Disk) : Prop where
  s : d.sure.length ≤ N
  c : d.cache.length ≤ N
  r : InR d.sure.length d.cache
  f : inK .i64 d.fuse
  p : 0 ≤ d.fuse
  ds : ∀ s ∈ d.sure, s.length ≤ N
  dc : ∀ w ∈ d.cache, w.data.length ≤ N

theorem okD_of {d : Disk} (hg : ¬ GreatP d) (hr : rightV d = true) (hf : inK .i64 d.fuse) : OkD 100 d := by
  obtain ⟨a1, a2⟩ := small_of hg
  have hR := right_iff hr
  exact ⟨by omega, a2, inR_of hr, hf, hR.2.2.1, fun s hs => by have := hR.2.2.2.1 s hs; omega, fun w hw => by have := (hR.2.2.2.2 w hw).2.2; omega⟩

theorem ref04_holds_ok {d : Disk} {i : Nat} (hi : i < d.sure.length) (hc : d.cache.length ≤ 1000000) {K : Str → Prop} (h : K (holds d.sure[i] d.cache i)) : ref04_holds.F d i K := by
  unfold ref04_holds.F
  refine oget_ok (getI_ok hi) ?_
  refine loop_ok (I := fun x : ref04_holds.L0 => ∃ (k : Nat) (s : Str), k ≤ d.cache.length ∧ holds s (d.cache.drop k) i = holds d.sure[i] d.cache i ∧ x = ⟨i, s, k, d.sure, d.cache, d.fuse, d.dead⟩) (m := fun x : ref04_holds.L0 => d.cache.length - x.k.toNat) ?_ ⟨0, _, by simp, by simp, rfl⟩
  rintro _ ⟨k, s, hk, he, rfl⟩ rec hrec
  unfold ref04_holds.b0
  dsimp only
  refine cond_ok (fun h4 => ?_) (fun h4 => ?_)
  · have hlt := lt_of_dec h4
    rw [wrap_succ (by unfold big; omega)]
    refine oget_ok (getI_ok hlt) (cond_ok (fun h5 => oget_ok (getI_ok hlt) ?_) (fun h5 => ?_))
    · have h5 : (d.cache[k]).sector = (i : Int) := by simpa using h5
      refine hrec _ ⟨k + 1, _, hlt, ?_, rfl⟩ (by simp; omega)
      rw [← he, drop_cons hlt]
      unfold holds
      rw [List.foldl_cons, if_pos h5]
    · have h5 : (d.cache[k]).sector ≠ (i : Int) := by simpa using h5
      refine hrec _ ⟨k + 1, _, hlt, ?_, rfl⟩ (by simp; omega)
      rw [← he, drop_cons hlt]
      unfold holds
      rw [List.foldl_cons, if_neg h5]
  · have e := le_of_dec h4 hk
    subst e
    rw [List.drop_length] at he
    rw [← he] at h
    exact h

theorem ref04_Read_ok {d : Disk} {i : Int} (hc : d.cache.length ≤ 1000000) {K : (Str × Int) → Prop} (h : K (readV d i)) : ref04_Read.F d i K := by
  unfold ref04_Read.F
  unfold readV at h
  refine cond_ok (fun h1 => ?_) (fun h1 => ?_)
  · rw [if_pos h1] at h; exact h
  rw [if_neg (by simp [h1])] at h
  refine cond_ok (fun h2 => ?_) (fun h2 => ?_)
  · have h2 : i < 0 := of_decide_eq_true h2
    rw [if_neg (by omega)] at h; exact h
  have h2 : ¬ i < 0 := of_decide_eq_false h2
  refine cond_ok (fun h3 => ?_) (fun h3 => ?_)
  · have h3 : i ≥ (d.sure.length : Int) := of_decide_eq_true h3
    rw [if_neg (by omega)] at h; exact h
  have h3 : ¬ i ≥ (d.sure.length : Int) := of_decide_eq_false h3
  rw [if_pos (by omega)] at h
  obtain ⟨k, rfl⟩ : ∃ k : Nat, i = k := ⟨i.toNat, by omega⟩
  have hk : k < d.sure.length := by omega
  refine ref04_holds_ok hk hc ?_
  have e : d.sure.getD (k : Int).toNat [] = d.sure[k] := by simp [hk]
  rw [e] at h
  exact h

def burnV (d : Disk) : Disk := if d.fuse = 0 then d else if d.fuse = 1 then ⟨d.sure, d.cache, 0, true⟩ else ⟨d.sure, d.cache, d.fuse - 1, d.dead⟩
theorem ref04_burn_ok {d : Disk} (hf : inK .i64 d.fuse) (h0 : 0 ≤ d.fuse) {K : Disk → Prop} (h : K (burnV d)) : ref04_burn.F d K := by
  unfold ref04_burn.F
  unfold burnV at h
  rw [fuse_wrap hf h0]
  refine cond_ok (fun h1 => ?_) (fun h1 => ?_)
  · have h1 : d.fuse = 1 := by simpa using h1
    rw [if_neg (by omega), if_pos h1] at h
    refine cond_t (by simp [h1]) ?_
    rw [h1]; exact h
  · have h1 : d.fuse ≠ 1 := by simpa using h1
    refine cond_ok (fun h2 => ?_) (fun h2 => ?_)
    · have h2 : d.fuse > 0 := of_decide_eq_true h2
      rw [if_neg (by omega), if_neg h1] at h
      exact h
    · have h2 : ¬ d.fuse > 0 := of_decide_eq_false h2
      rw [if_pos (by omega)] at h
      exact h

theorem ref04_Write_ok {N : Nat} {d : Disk} {i : Int} {data : Str} (hN : N ≤ 100000) (o : OkD N d) {K : (Disk × Int) → Prop} (h : K (writeV d i data)) : ref04_Write.F d i data K := by
  unfold ref04_Write.F
  unfold writeV at h
  refine cond_ok (fun h1 => ?_) (fun h1 => ?_)
  · rw [if_pos h1] at h; exact h
  rw [if_neg (by simp [h1])] at h
  refine cond_ok (fun h2 => ?_) (fun h2 => ?_)
  · have h2 : i < 0 := of_decide_eq_true h2
    rw [if_pos (by omega)] at h; exact h
  have h2 : ¬ i < 0 := of_decide_eq_false h2
  refine cond_ok (fun h3 => ?_) (fun h3 => ?_)
  · have h3 : i ≥ (d.sure.length : Int) := of_decide_eq_true h3
    rw [if_pos (by omega)] at h; exact h
  have h3 : ¬ i ≥ (d.sure.length : Int) := of_decide_eq_false h3
  rw [if_neg (fun hn => hn ⟨by omega, by omega⟩)] at h
  refine cond_ok (fun h4 => ?_) (fun h4 => ?_)
  · have h4 : (data.length : Int) > 64 := of_decide_eq_true h4
    rw [if_pos (by omega)] at h; exact h
  have h4 : ¬ (data.length : Int) > 64 := of_decide_eq_false h4
  rw [if_neg (by omega)] at h
  have hc := o.c
  refine ref04_burn_ok o.f o.p ?_
  unfold burnV
  by_cases h5 : d.fuse = 0
  · rw [if_pos h5] at h ⊢
    refine cond_f h1 (gd_ok (fit_ok (by omega)) (gd_ok (fit_ok (by simp; omega)) ?_))
    rw [h5, h1]; exact h
  · rw [if_neg h5] at h ⊢
    by_cases h6 : d.fuse = 1
    · rw [if_pos h6] at h ⊢
      exact cond_t rfl h
    · rw [if_neg h6] at h ⊢
      refine cond_f h1 (gd_ok (fit_ok (by show d.cache.length * 24 ≤ _; omega)) (gd_ok (fit_ok (by simp; omega)) ?_))
      dsimp only
      rw [h1]; exact h

theorem ref04_Flush_ok {N : Nat} {d : Disk} (hN : N ≤ 100000) (o : OkD N d) {K : (Disk × Int) → Prop} (h : K (flushV d)) : ref04_Flush.F d K := by
  unfold ref04_Flush.F
  unfold flushV at h
  have hs := o.s
  have hc := o.c
  refine cond_ok (fun h1 => ?_) (fun h1 => ?_)
  · rw [if_pos h1] at h; exact h
  rw [if_neg (by simp [h1])] at h
  refine ref04_burn_ok o.f o.p ?_
  have main : ∀ (fu : Int), K (⟨settleV d.sure d.cache, [], fu, false⟩, 0) → ∃ n, loopB ref04_Flush.b0 n (fun x3 => (K ((⟨x3.sure, ([] : List Write), x3.m0_2, x3.m0_3⟩ : Disk), 0))) (fun _ => False) ⟨([] : List Str), 0, d.sure, d.cache, fu, false, 0, false⟩ := by
    intro fu hk
    refine loop_ok (I := fun x : ref04_Flush.L0 => ∃ i : Nat, i ≤ d.sure.length ∧ x = ⟨(settleV d.sure d.cache).take i, i, d.sure, d.cache, fu, false, 0, false⟩) (m := fun x : ref04_Flush.L0 => d.sure.length - x.i.toNat) ?_ ⟨0, by simp, by simp⟩
    rintro _ ⟨i, hi, rfl⟩ rec hrec
    unfold ref04_Flush.b0
    dsimp only
    have hl := settleV_length d.cache d.sure
    refine cond_ok (fun h4 => ?_) (fun h4 => ?_)
    · have hlt := lt_of_dec h4
      refine ref04_holds_ok (d := ⟨d.sure, d.cache, fu, false⟩) hlt (by show d.cache.length ≤ _; omega) (gd_ok (fit_ok (by simp; omega)) ?_)
      rw [wrap_succ (by unfold big; omega)]
      refine hrec _ ⟨i + 1, hlt, ?_⟩ (by simp; omega)
      have := settle_holds d.cache d.sure i hlt o.r
      rw [take_succ (by omega)]
      rw [List.getElem?_eq_getElem (by omega)] at this
      rw [Option.some.inj this]
    · have e := le_of_dec h4 hi
      rw [List.take_of_length_le (by omega)]
      exact hk
  unfold burnV
  by_cases h5 : d.fuse = 0
  · rw [if_pos h5] at h ⊢
    refine cond_f h1 ?_
    rw [h1]
    exact main d.fuse (by rw [h5]; exact h)
  · rw [if_neg h5] at h ⊢
    by_cases h6 : d.fuse = 1
    · rw [if_pos h6] at h ⊢
      exact cond_t rfl h
    · rw [if_neg h6] at h ⊢
      refine cond_f h1 ?_
      have := main (d.fuse - 1) h
      dsimp only
      rw [h1]
      exact this

/-! ### Load, Note, Save -/
def loadV (d : Disk) : Int × Int :=
  if (readV d 1).2 ≠ 0 then (0, (readV d 1).2)
  else if (openV (readV d 1).1).2 ≠ 0 then (0, (openV (readV d 1).1).2)
  else if (openV (readV d 1).1).1.length = 4 ∧ maskR (unbe (openV (readV d 1).1).1) ((d.sure.length : Int) - 2) = true then ((unbe (openV (readV d 1).1).1 : Int), 0) else (0, 2)
def noteV (d : Disk) (m : Nat) : Disk × Int := if maskR m ((d.sure.length : Int) - 2) = true then writeV d 1 (sealV (be m 4)) else (d, 1)
def saveV (d : Disk) (m : Nat) : Disk × Int := if (noteV d m).2 ≠ 0 then noteV d m else flushV (noteV d m).1

theorem holds_le {N : Nat} : ∀ (ws : List Write) (s : Str) (i : Int), s.length ≤ N → (∀ w ∈ ws, w.data.length ≤ N) → (holds s ws i).length ≤ N
  | [], s, _, h, _ => h
  | w :: ws, s, i, h, hw => by
    unfold holds
    rw [List.foldl_cons]
    refine holds_le ws _ i ?_ (fun w' h' => hw w' (List.mem_cons_of_mem _ h'))
    split
    · exact hw w (by simp)
    · exact h
theorem read_le {N : Nat} {d : Disk} (o : OkD N d) (i : Int) : (readV d i).1.length ≤ N := by
  unfold readV
  split
  · simp
  · split
    · rename_i h1 h2
      refine holds_le _ _ _ ?_ o.dc
      have hi : i.toNat < d.sure.length := by omega
      have e : d.sure.getD i.toNat [] = d.sure[i.toNat] := by simp [hi]
      rw [e]
      exact o.ds _ (List.getElem_mem hi)
    · simp
theorem openV_le (s : Str) : (openV s).1.length ≤ s.length := by
  unfold openV
  split
  · simp
  · split
    · simp
    · simp

theorem sub2 {n : Nat} (h : n ≤ 1000000) : IntKind.i64.wrap ((n : Int) - 2) = (n : Int) - 2 := wrap_i64 (by omega)
theorem in_sub2 {n : Nat} (h : n ≤ 1000000) : inK .i64 ((n : Int) - 2) := ⟨by show (-9223372036854775808 : Int) ≤ _; omega, by show _ ≤ (9223372036854775807 : Int); omega⟩
theorem inK32 {n : Nat} (h : n < 2 ^ 32) : inK .u32 (n : Int) := ⟨by show (0 : Int) ≤ _; omega, by show _ ≤ (4294967295 : Int); omega⟩

theorem bits_Load_ok {N : Nat} {d : Disk} (hN : N ≤ 100000) (o : OkD N d) {K : (Int × Int) → Prop} (h : K (loadV d)) : bits_Load.F d K := by
  unfold bits_Load.F
  have hs := o.s
  have hc := o.c
  have hl := read_le o 1
  refine disk_Read_ok (by omega) (by omega) ?_
  unfold loadV at h
  refine cond_ok (fun h1 => ?_) (fun h1 => ?_)
  · have h1 : (readV d 1).2 ≠ 0 := by simpa using h1
    rw [if_pos h1] at h; exact h
  have h1 : (readV d 1).2 = 0 := by simpa using h1
  rw [if_neg (by simp [h1])] at h
  refine check_Open_ok (wStr_of (by omega)) (cond_ok (fun h2 => ?_) (fun h2 => ?_))
  · have h2 : (openV (readV d 1).1).2 ≠ 0 := by simpa using h2
    rw [if_pos h2] at h; exact h
  have h2 : (openV (readV d 1).1).2 = 0 := by simpa using h2
  rw [if_neg (by simp [h2])] at h
  refine num_Get32_ok ?_
  unfold getN
  by_cases h3 : (openV (readV d 1).1).1.length = 4
  · rw [if_pos h3]
    refine cond_f rfl ?_
    have hlt := unbe_lt 4 _ h3
    unfold bits_right.F
    rw [sub2 (by omega)]
    refine mask_Right_ok (inK32 (by omega)) (in_sub2 (by omega)) (cond_ok (fun h4 => ?_) (fun h4 => ?_))
    · rw [if_neg (by rintro ⟨_, h5⟩; rw [h5] at h4; cases h4)] at h; exact h
    · rw [if_pos ⟨h3, by simpa using h4⟩] at h; exact h
  · rw [if_neg h3]
    rw [if_neg (by rintro ⟨h5, _⟩; exact h3 h5)] at h
    exact cond_t rfl h

theorem ref08_Load_ok {N : Nat} {d : Disk} (hN : N ≤ 100000) (o : OkD N d) {K : (Int × Int) → Prop} (h : K (loadV d)) : ref08_Load.F d K := by
  unfold ref08_Load.F
  have hs := o.s
  have hc := o.c
  have hl := read_le o 1
  refine ref04_Read_ok (by omega) ?_
  unfold loadV at h
  refine cond_ok (fun h1 => ?_) (fun h1 => ?_)
  · have h1 : (readV d 1).2 ≠ 0 := by simpa using h1
    rw [if_pos h1] at h; exact h
  have h1 : (readV d 1).2 = 0 := by simpa using h1
  rw [if_neg (by simp [h1])] at h
  refine ref02_Open_ok (wStr_of (by omega)) (cond_ok (fun h2 => ?_) (fun h2 => ?_))
  · have h2 : (openV (readV d 1).1).2 ≠ 0 := by simpa using h2
    rw [if_pos h2] at h; exact h
  have h2 : (openV (readV d 1).1).2 = 0 := by simpa using h2
  rw [if_neg (by simp [h2])] at h
  refine ref01_Get32_ok ?_
  unfold getN
  by_cases h3 : (openV (readV d 1).1).1.length = 4
  · rw [if_pos h3]
    refine cond_f rfl ?_
    have hlt := unbe_lt 4 _ h3
    rw [sub2 (by omega)]
    refine ref03_Right_ok (inK32 (by omega)) (cond_ok (fun h4 => ?_) (fun h4 => ?_))
    · rw [if_neg (by rintro ⟨_, h5⟩; rw [h5] at h4; cases h4)] at h; exact h
    · rw [if_pos ⟨h3, by simpa using h4⟩] at h; exact h
  · rw [if_neg h3]
    rw [if_neg (by rintro ⟨h5, _⟩; exact h3 h5)] at h
    exact cond_t rfl h

theorem bits_Note_ok {N : Nat} {d : Disk} {m : Nat} (hm : m < 2 ^ 32) (hN : N ≤ 100000) (o : OkD N d) {K : (Disk × Int) → Prop} (h : K (noteV d m)) : bits_Note.F d m K := by
  unfold bits_Note.F bits_right.F
  have hs := o.s
  have hc := o.c
  rw [sub2 (by omega)]
  unfold noteV at h
  refine mask_Right_ok (inK32 hm) (in_sub2 (by omega)) (cond_ok (fun h4 => ?_) (fun h4 => ?_))
  · rw [if_neg (by intro h5; rw [h5] at h4; cases h4)] at h; exact h
  · rw [if_pos (by simpa using h4)] at h
    exact num_Put32_ok hm (check_Seal_ok (wStr_of (by rw [be_length]; decide)) (disk_Write_ok (by omega) o.f o.p h))
theorem ref08_Note_ok {N : Nat} {d : Disk} {m : Nat} (hm : m < 2 ^ 32) (hN : N ≤ 100000) (o : OkD N d) {K : (Disk × Int) → Prop} (h : K (noteV d m)) : ref08_Note.F d m K := by
  unfold ref08_Note.F
  have hs := o.s
  have hc := o.c
  rw [sub2 (by omega)]
  unfold noteV at h
  refine ref03_Right_ok (inK32 hm) (cond_ok (fun h4 => ?_) (fun h4 => ?_))
  · rw [if_neg (by intro h5; rw [h5] at h4; cases h4)] at h; exact h
  · rw [if_pos (by simpa using h4)] at h
    exact ref01_Put32_ok hm (ref02_Seal_ok (wStr_of (by rw [be_length]; decide)) (ref04_Write_ok hN o h))

theorem write_ok {N : Nat} {d : Disk} {i : Int} {data : Str} (o : OkD N d) (h64 : 64 ≤ N) : OkD (N + 1) (writeV d i data).1 := by
  have base : OkD (N + 1) d := ⟨Nat.le_succ_of_le o.s, Nat.le_succ_of_le o.c, o.r, o.f, o.p, fun s hs => Nat.le_succ_of_le (o.ds s hs), fun w hw => Nat.le_succ_of_le (o.dc w hw)⟩
  have hf : -9223372036854775808 ≤ d.fuse ∧ d.fuse ≤ 9223372036854775807 := o.f
  have hp := o.p
  unfold writeV
  split
  · exact base
  split
  · exact base
  split
  · exact base
  rename_i h1 h2 h3
  have h2 : 0 ≤ i ∧ i < (d.sure.length : Int) := Classical.not_not.1 h2
  have grow : ∀ f : Int, inK .i64 f → 0 ≤ f → OkD (N + 1) ⟨d.sure, d.cache ++ [⟨i, data⟩], f, false⟩ := by
    intro f hf0 hp0
    refine ⟨base.s, ?_, ?_, hf0, hp0, base.ds, ?_⟩
    · show (d.cache ++ [_]).length ≤ N + 1
      have := o.c
      simp; omega
    · intro w hw
      rcases List.mem_append.1 hw with h | h
      · exact o.r w h
      · simp at h; subst h; exact h2
    · intro w hw
      rcases List.mem_append.1 hw with h | h
      · exact base.dc w h
      · simp at h; subst h; show data.length ≤ N + 1; omega
  split
  · exact grow 0 in0 (by decide)
  split
  · exact ⟨base.s, base.c, base.r, in0, by show (0 : Int) ≤ 0; omega, base.ds, base.dc⟩
  · rename_i h4 h5
    exact grow _ ⟨by show (-9223372036854775808 : Int) ≤ _; omega, by show _ ≤ (9223372036854775807 : Int); omega⟩ (by omega)

theorem note_ok {N : Nat} {d : Disk} {m : Nat} (o : OkD N d) (h64 : 64 ≤ N) : OkD (N + 1) (noteV d m).1 := by
  unfold noteV
  split
  · exact write_ok o h64
  · exact ⟨Nat.le_succ_of_le o.s, Nat.le_succ_of_le o.c, o.r, o.f, o.p, fun s hs => Nat.le_succ_of_le (o.ds s hs), fun w hw => Nat.le_succ_of_le (o.dc w hw)⟩

theorem bits_Save_ok {N : Nat} {d : Disk} {m : Nat} (hm : m < 2 ^ 32) (hN : N ≤ 10000) (h64 : 64 ≤ N) (o : OkD N d) {K : (Disk × Int) → Prop} (h : K (saveV d m)) : bits_Save.F d m K := by
  unfold bits_Save.F
  have o2 := note_ok (m := m) o h64
  have hs := o2.s
  have hc := o2.c
  refine bits_Note_ok hm (by omega) o ?_
  unfold saveV at h
  refine cond_ok (fun h1 => ?_) (fun h1 => ?_)
  · rw [if_pos (by simpa using h1)] at h; exact h
  · rw [if_neg (by simpa using h1)] at h
    exact disk_Flush_ok (by omega) (by omega) o2.r o2.f o2.p h
theorem ref08_Save_ok {N : Nat} {d : Disk} {m : Nat} (hm : m < 2 ^ 32) (hN : N ≤ 10000) (h64 : 64 ≤ N) (o : OkD N d) {K : (Disk × Int) → Prop} (h : K (saveV d m)) : ref08_Save.F d m K := by
  unfold ref08_Save.F
  have o2 := note_ok (m := m) o h64
  refine ref08_Note_ok hm (by omega) o ?_
  unfold saveV at h
  refine cond_ok (fun h1 => ?_) (fun h1 => ?_)
  · rw [if_pos (by simpa using h1)] at h; exact h
  · rw [if_neg (by simpa using h1)] at h
    exact ref04_Flush_ok (by omega) o2 h
end Gm

/- The laws of layer 8 are true. -/
set_option maxRecDepth 100000
namespace Gm
open Go

theorem settle_ok {N : Nat} {d : Disk} (o : OkD N d) {ws : List Write} (hw : ∀ w ∈ ws, w ∈ d.cache) : ∀ s ∈ settleV d.sure ws, s.length ≤ N := by
  intro s hs
  obtain ⟨i, hi, e⟩ := List.mem_iff_getElem.1 hs
  rcases settle_get _ _ i s (by rw [List.getElem?_eq_getElem hi, e]) with h | ⟨w, h, h1, h2⟩
  · exact o.ds s (List.mem_of_getElem? h)
  · rw [← h2]; exact o.dc w (hw w h)
theorem bare_ok {N : Nat} {d : Disk} (o : OkD N d) {ws : List Write} (hw : ∀ w ∈ ws, w ∈ d.cache) : OkD N ⟨settleV d.sure ws, [], 0, false⟩ :=
  ⟨(by show (settleV _ _).length ≤ N; rw [settleV_length]; exact o.s), Nat.zero_le _, (fun w h => by cases h), in0, (by show (0 : Int) ≤ 0; omega), settle_ok o hw, (fun w h => by cases h)⟩
theorem revive_ok {N : Nat} {d : Disk} (o : OkD N d) (keeps : List Bool) : OkD N (reviveV d keeps) := bare_ok o (kept_sub _ _)
theorem crash_ok {N : Nat} {d : Disk} (o : OkD N d) : OkD N (crashV d) := ⟨o.s, o.c, o.r, in0, by show (0 : Int) ≤ 0; omega, o.ds, o.dc⟩

/-- A disk that has no fuse, and is alive. -/
structure Plain (d : Disk) : Prop where
  dead : d.dead = false
  fuse : d.fuse = 0
  two : 1 < d.sure.length

theorem note_plain {d : Disk} (p : Plain d) {m : Nat} (hm : maskR m ((d.sure.length : Int) - 2) = true) : noteV d m = (⟨d.sure, d.cache ++ [⟨1, sealV (be m 4)⟩], 0, false⟩, 0) := by
  have ht := p.two
  unfold noteV writeV
  rw [if_pos hm, if_neg (by simp [p.dead]), if_neg (fun hn => hn ⟨by decide, by omega⟩), if_neg (by rw [sealV_length, be_length]; decide), if_pos p.fuse]
theorem note_bad {d : Disk} {m : Nat} (hm : maskR m ((d.sure.length : Int) - 2) = false) : noteV d m = (d, 1) := by
  unfold noteV
  rw [if_neg (by simp [hm])]
theorem save_plain {d : Disk} (p : Plain d) {m : Nat} (hm : maskR m ((d.sure.length : Int) - 2) = true) : saveV d m = (⟨settleV d.sure (d.cache ++ [⟨1, sealV (be m 4)⟩]), [], 0, false⟩, 0) := by
  unfold saveV
  rw [note_plain p hm, if_neg (by simp)]
  rfl
theorem save_bad {d : Disk} {m : Nat} (hm : maskR m ((d.sure.length : Int) - 2) = false) : saveV d m = (d, 1) := by
  unfold saveV
  rw [note_bad hm, if_pos (by show (1 : Int) ≠ 0; decide)]

theorem load_of {d : Disk} (hd : d.dead = false) (ht : 1 < d.sure.length) {m : Nat} (hlt : m < 2 ^ 32) (hm : maskR m ((d.sure.length : Int) - 2) = true) (hh : holds d.sure[1] d.cache 1 = sealV (be m 4)) : loadV d = ((m : Int), 0) := by
  have hr : readV d 1 = (sealV (be m 4), 0) := by
    unfold readV
    rw [if_neg (by simp [hd]), if_pos ⟨by decide, by omega⟩]
    have e : d.sure.getD (1 : Int).toNat [] = d.sure[1] := by simp [ht]
    rw [e, hh]
  unfold loadV
  rw [hr, if_neg (by simp), openV_seal, if_neg (by simp)]
  have hu : unbe (be m 4) = m := by rw [unbe_be]; exact Nat.mod_eq_of_lt (by omega)
  rw [hu, if_pos ⟨be_length _ _, hm⟩]

theorem settle_last {sure : List Str} {c : List Write} {v : Str} (ht : 1 < sure.length) : (settleV sure (c ++ [⟨1, v⟩]))[1]? = some v := by
  unfold settleV
  rw [List.foldl_append, List.foldl_cons, List.foldl_nil]
  have := settleV_length c sure
  unfold settleV at this
  exact List.getElem?_set_self (by show 1 < _; omega)

theorem holds_last {s0 : Str} {c : List Write} {v : Str} : holds s0 (c ++ [⟨1, v⟩]) 1 = v := by
  unfold holds
  rw [List.foldl_append, List.foldl_cons, List.foldl_nil, if_pos rfl]

theorem newV_plain {k : Int} (h1 : 2 ≤ k) (h2 : k ≤ 64) : (newV k).1.dead = false ∧ (newV k).1.fuse = 0 ∧ (newV k).1.sure = List.replicate k.toNat [] ∧ (newV k).1.cache = [] := by
  unfold newV
  rw [if_pos ⟨by omega, h2⟩]
  exact ⟨rfl, rfl, rfl, rfl⟩
theorem newV_ok {k : Int} (h1 : 2 ≤ k) (h2 : k ≤ 64) : OkD 64 (newV k).1 := by
  obtain ⟨a, b, c, d⟩ := newV_plain h1 h2
  refine ⟨(by rw [c]; simp; omega), (by rw [d]; simp), (by rw [d]; intro w h; cases h), (by rw [b]; exact in0), (by rw [b]; omega), ?_, (by rw [d]; intro w h; cases h)⟩
  rw [c]
  intro s hs
  have := List.eq_of_mem_replicate hs
  subst this
  simp

/-- A disk is made, a mask is saved, another one is noted. -/
theorem story {k : Int} (h1 : 3 ≤ k) (h2 : k ≤ 64) {m0 m1 : Nat} (hm0 : m0 < 2 ^ 32) (hm1 : m1 < 2 ^ 32) (r0 : maskR m0 (k - 2) = true) (r1 : maskR m1 (k - 2) = true) :
    ∃ x y : Disk, saveV (newV k).1 m0 = (x, 0) ∧ noteV x m1 = (y, 0) ∧ OkD 65 x ∧ OkD 66 y ∧ x.sure.length = k.toNat ∧ Plain x ∧ loadV y = ((m1 : Int), 0) ∧ loadV (reviveV (crashV y) []) = ((m0 : Int), 0) ∧ loadV (reviveV (crashV y) [true]) = ((m1 : Int), 0) ∧ ∀ keeps, reviveV (crashV y) keeps = reviveV (crashV y) [] ∨ reviveV (crashV y) keeps = reviveV (crashV y) [true] := by
  obtain ⟨a, b, c, d⟩ := newV_plain (k := k) (by omega) h2
  have hl : (newV k).1.sure.length = k.toNat := by rw [c]; simp
  have p0 : Plain (newV k).1 := ⟨a, b, by rw [hl]; omega⟩
  have hk : ((k.toNat : Nat) : Int) = k := by omega
  have r0' : maskR m0 (((newV k).1.sure.length : Int) - 2) = true := by rw [hl, hk]; exact r0
  have o0 := newV_ok (k := k) (by omega) h2
  have es := save_plain p0 r0'
  have en0 := note_plain p0 r0'
  have o1 : OkD 65 (noteV (newV k).1 m0).1 := note_ok o0 (by decide)
  rw [en0] at o1
  have ox : OkD 65 ⟨settleV (newV k).1.sure ((newV k).1.cache ++ [⟨1, sealV (be m0 4)⟩]), [], 0, false⟩ := bare_ok o1 (fun w h => h)
  have hx1 : (settleV (newV k).1.sure ((newV k).1.cache ++ [⟨1, sealV (be m0 4)⟩]))[1]? = some (sealV (be m0 4)) := settle_last p0.two
  have hxl : (settleV (newV k).1.sure ((newV k).1.cache ++ [⟨1, sealV (be m0 4)⟩])).length = k.toNat := by rw [settleV_length, hl]
  generalize settleV (newV k).1.sure ((newV k).1.cache ++ [⟨1, sealV (be m0 4)⟩]) = xs at es ox hx1 hxl
  have px : Plain ⟨xs, [], 0, false⟩ := ⟨rfl, rfl, by show 1 < xs.length; omega⟩
  have r1' : maskR m1 (((⟨xs, [], 0, false⟩ : Disk).sure.length : Int) - 2) = true := by show maskR m1 ((xs.length : Int) - 2) = true; rw [hxl, hk]; exact r1
  have ey := note_plain px r1'
  have oy : OkD 66 (noteV ⟨xs, [], 0, false⟩ m1).1 := note_ok ox (by decide)
  rw [ey] at oy
  have ht : 1 < xs.length := by omega
  refine ⟨_, _, es, ey, ox, oy, hxl, px, load_of rfl ht hm1 r1' holds_last, ?_, ?_, ?_⟩
  · show loadV ⟨xs, [], 0, false⟩ = _
    refine load_of rfl ht hm0 (by show maskR m0 ((xs.length : Int) - 2) = true; rw [hxl, hk]; exact r0) ?_
    show xs[1] = _
    rw [List.getElem?_eq_getElem ht] at hx1
    exact Option.some.inj hx1
  · show loadV ⟨settleV xs ([] ++ [⟨1, sealV (be m1 4)⟩]), [], 0, false⟩ = _
    have hl2 := settleV_length ([] ++ [(⟨1, sealV (be m1 4)⟩ : Write)]) xs
    refine load_of rfl (by show 1 < (settleV _ _).length; omega) hm1 (by show maskR m1 (((settleV xs ([] ++ [⟨1, sealV (be m1 4)⟩])).length : Int) - 2) = true; rw [hl2, hxl, hk]; exact r1) ?_
    show (settleV xs ([] ++ [⟨1, sealV (be m1 4)⟩]))[1] = _
    have := settle_last (sure := xs) (c := []) (v := sealV (be m1 4)) ht
    rw [List.getElem?_eq_getElem (by omega)] at this
    exact Option.some.inj this
  · intro ks
    match ks with
    | [] => exact .inl rfl
    | true :: ks => right; cases ks <;> rfl
    | false :: ks => left; cases ks <;> rfl

theorem load_fresh {k : Int} (h1 : 3 ≤ k) (h2 : k ≤ 64) : loadV (newV k).1 = (0, 2) := by
  obtain ⟨a, b, c, d⟩ := newV_plain (k := k) (by omega) h2
  have hr : readV (newV k).1 1 = ([], 0) := by
    unfold readV
    rw [if_neg (by simp [a]), if_pos ⟨by decide, by rw [c]; simp; omega⟩, c, d]
    have : (List.replicate k.toNat ([] : Str)).getD (1 : Int).toNat [] = [] := by
      rw [List.getD_eq_getElem?_getD, List.getElem?_replicate]
      split <;> rfl
    rw [this]; rfl
  unfold loadV
  rw [hr]
  rfl

theorem law08_alive_ok {K : Bool → Prop} (k : K true) : law08_alive.F K := by
  unfold law08_alive.F
  have o0 := newV_ok (k := 5) (by decide) (by decide)
  have hl : (newV 5).1.sure.length = 5 := by decide
  obtain ⟨x, y, e1, e2, ox, oy, hxl, px, l1, l2, l3, _⟩ := story (k := 5) (by decide) (by decide) (m0 := 5) (m1 := 4) (by decide) (by decide) (by decide) (by decide)
  have oc := crash_ok oy
  have hs := oc.s
  have hc := oc.c
  refine ref04_New_ok (bits_Save_ok (m := 5) (by decide) (by decide) (by decide) o0 ?_)
  rw [e1]
  refine bits_Note_ok (m := 4) (by decide) (by decide) ox ?_
  rw [e2]
  refine bits_Load_ok (by decide) oy ?_
  rw [l1]
  refine ref04_Crash_ok (ref04_Revive_ok (d := crashV y) (by omega) (by omega) oc.r (bits_Load_ok (by decide) (revive_ok oc []) ?_))
  rw [l2]
  refine ref04_Crash_ok (ref04_Revive_ok (d := crashV y) (by omega) (by omega) oc.r (bits_Load_ok (by decide) (revive_ok oc [true]) ?_))
  rw [l3]
  refine bits_Save_ok (m := 8) (by decide) (by decide) (by decide) o0 ?_
  rw [save_bad (m := 8) (by rw [hl]; decide)]
  refine bits_Load_ok (by decide) o0 ?_
  rw [load_fresh (by decide) (by decide)]
  exact k

theorem law08_BitsTells_true {d : Disk} {m : Int} (hf : inK .i64 d.fuse) (hm : inK .u32 m) : law08_BitsTells.F d m (fun r => r = true) := by
  unfold law08_BitsTells.F
  have hm1 : 0 ≤ m ∧ m ≤ 4294967295 := hm
  obtain ⟨m, rfl⟩ : ∃ n : Nat, m = n := ⟨m.toNat, by omega⟩
  have hm2 : m < 2 ^ 32 := by omega
  refine law08_alive_ok (cond_f rfl (ref04_Great_ok (fun _ => rfl) fun hg => cond_f rfl ?_))
  obtain ⟨a1, a2⟩ := small_of hg
  refine ref04_Right_ok (by omega) (cond_ok (fun _ => rfl) fun hr => ?_)
  have hr : rightV d = true := by simpa using hr
  have o := okD_of hg hr hf
  have on := note_ok (m := m) o (by decide)
  have hn1 := on.s
  have hn2 := on.c
  have hsv : (saveV d m).1.sure.length ≤ 101 ∧ (saveV d m).1.cache.length ≤ 101 := by
    unfold saveV
    split
    · exact ⟨on.s, on.c⟩
    · unfold flushV
      split
      · exact ⟨on.s, on.c⟩
      split
      · exact ⟨by show (settleV _ _).length ≤ 101; rw [settleV_length]; exact on.s, by simp⟩
      split
      · exact ⟨on.s, on.c⟩
      · exact ⟨by show (settleV _ _).length ≤ 101; rw [settleV_length]; exact on.s, by simp⟩
  refine bits_Load_ok (by decide) o (ref08_Load_ok (by decide) o (bits_Save_ok hm2 (by decide) (by decide) o (ref08_Save_ok hm2 (by decide) (by decide) o (bits_Note_ok hm2 (by decide) o (ref08_Note_ok hm2 (by decide) o ?_)))))
  refine cond_t (by simp) (cond_t (by simp) (ref04_Same_ok (by unfold big; omega) (by unfold big; omega) (cond_t (by simp [sameV]) (cond_t (by simp) (ref04_Same_ok (by unfold big; omega) (by unfold big; omega) (cond_t (by simp [sameV]) (by simp)))))))

theorem law08_BitsSure_true {n : Int} {m : Two} {keeps : List Bool} (hn : inK .u8 n) (ha : inK .u32 m.a) (hb : inK .u32 m.b) : law08_BitsSure.F n m keeps (fun r => r = true) := by
  unfold law08_BitsSure.F
  obtain ⟨a, b⟩ := m
  have hn : 0 ≤ n ∧ n ≤ 255 := hn
  have ha : 0 ≤ a ∧ a ≤ 4294967295 := ha
  have hb : 0 ≤ b ∧ b ≤ 4294967295 := hb
  obtain ⟨a, rfl⟩ : ∃ k : Nat, a = k := ⟨a.toNat, by omega⟩
  obtain ⟨b, rfl⟩ : ∃ k : Nat, b = k := ⟨b.toNat, by omega⟩
  have ha2 : a < 2 ^ 32 := by omega
  have hb2 : b < 2 ^ 32 := by omega
  refine law08_alive_ok (cond_f rfl (cond_ok (fun _ => rfl) fun _ => cond_f rfl ?_))
  have hk : IntKind.i64.wrap (3 + IntKind.i64.wrap (n.tmod 32)) = 3 + n % 32 := by
    rw [Int.tmod_eq_emod_of_nonneg hn.1, wrap_i64 (x := n % 32) (by omega), wrap_i64 (by omega)]
  rw [hk]
  have k1 : 3 ≤ 3 + n % 32 := by omega
  have k2 : 3 + n % 32 ≤ 64 := by omega
  generalize 3 + n % 32 = k at *
  have o0 := newV_ok (k := k) (by omega) k2
  obtain ⟨q1, q2, q3, q4⟩ := newV_plain (k := k) (by omega) k2
  have hl : (newV k).1.sure.length = k.toNat := by rw [q3]; simp
  have hkk : ((k.toNat : Nat) : Int) = k := by omega
  dsimp only
  refine ref04_New_ok (bits_Save_ok ha2 (by decide) (by decide) o0 ?_)
  cases r0 : maskR a (k - 2) with
  | false =>
    rw [save_bad (by rw [hl, hkk]; exact r0)]
    refine cond_t rfl (cond_t rfl (ref04_Same_ok (Nat.le_trans o0.s (by decide)) (Nat.le_trans o0.c (by decide)) (by simp [sameV])))
  | true =>
    cases r1 : maskR b (k - 2) with
    | false =>
      obtain ⟨x, y, e1, e2, ox, oy, hxl, px, l1, l2, l3, l4⟩ := story k1 k2 ha2 ha2 r0 r0
      rw [e1]
      refine cond_f rfl (bits_Note_ok hb2 (by decide) ox ?_)
      rw [note_bad (by rw [hxl, hkk]; exact r1)]
      refine cond_t rfl (cond_t rfl (ref04_Same_ok (Nat.le_trans ox.s (by decide)) (Nat.le_trans ox.c (by decide)) (by simp [sameV])))
    | true =>
      obtain ⟨x, y, e1, e2, ox, oy, hxl, px, l1, l2, l3, l4⟩ := story k1 k2 ha2 hb2 r0 r1
      have oc := crash_ok oy
      have hs := oc.s
      have hc := oc.c
      rw [e1]
      refine cond_f rfl (bits_Note_ok hb2 (by decide) ox ?_)
      rw [e2]
      refine cond_f rfl (bits_Load_ok (by decide) oy ?_)
      rw [l1]
      refine ref04_Crash_ok (ref04_Revive_ok (d := crashV y) (by omega) (by omega) oc.r (bits_Load_ok (by decide) (revive_ok oc keeps) ?_))
      rcases l4 keeps with h | h
      · rw [h, l2]
        exact cond_t rfl (cond_t rfl (cond_t (by simp) (cond_t (by simp) rfl)))
      · rw [h, l3]
        exact cond_t rfl (cond_t rfl (cond_t (by simp) (cond_ok (fun _ => rfl) (fun _ => by simp))))
end Gm
