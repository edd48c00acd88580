/- The program's node comes up. -/
import Derived.Test.YtfjhdboapcckpaaGreatDoorGdN4
set_option maxRecDepth 100000
namespace Gm
open Go
def stZ (r : Store × Int) : Store × Int := if r.2 = 0 then (⟨r.1.disk, zv r.1.sup, r.1.mask⟩, 0) else r
theorem loadS_dw {B : Int} {d : Disk} (h : DW B d) (hd : d.dead = false) (hc : d.cache = []) : ∃ (s : Super) (b : Str), readV d 0 = (b, 0) ∧ b = sealV (sBytes s) ∧ wSup s ∧ supR s = true ∧ fitsS d s = true ∧ loadS d = (s, 0) := by
  have hl := h.len
  have h1 := h.one
  have hx : 0 < d.sure.length := by omega
  have hr := read_sec (d := d) (x := 0) hd hx (fun w m => by rw [hc] at m; cases m)
  obtain ⟨s, eb, es, hs, hw⟩ := ((h.val 0).1 d.sure[0] (List.getElem?_eq_getElem hx)).1 rfl
  have hf : fitsS d s = true := beq_iff_eq.2 (by omega)
  have e : decS6 d.sure[0] = (s, 0) := (congrArg decS6 eb).trans (decS6_seal hw hs)
  have hr : readV d 0 = (d.sure[0], 0) := hr
  refine ⟨s, d.sure[0], hr, eb, hw, hs, hf, ?_⟩
  generalize d.sure[0] = b at hr e
  unfold loadS
  rw [hr]
  dsimp only
  rw [if_neg (by simp), e]
  dsimp only
  rw [if_neg (by simp), if_pos hf]
theorem storeAttachP_ok {N : Nat} {d : Disk} {B : Int} (hN : N ≤ 8000) (o : OkD N d) (h : DW B d) (hd : d.dead = false) (hc : d.cache = []) {K : (Store × Int) → Prop} (k : K (stAttach d)) (kz : K (stZ (stAttach d))) : q63.F d K := by
  unfold q63.F q63.FV
  obtain ⟨s, b, h1, eb, hw, hr, hf, hl⟩ := loadS_dw h hd hc
  have hlen := h.len
  have hone := h.one
  have e : stAttach d = if (loadV d).2 ≠ 0 then (zSt, (loadV d).2) else if (allV d).2 ≠ 0 then (zSt, (allV d).2) else (⟨d, s, (loadV d).1⟩, 0) := by
    unfold stAttach
    rw [hl, if_neg (by simp)]
  rw [e] at k
  refine metaLoad_ok (by omega) o h1 eb hw hr hf (cond_f rfl (bitsLoad_ok (by omega) o (cond_ok (fun h2 => ?_) (fun h2 => ?_)))) (cond_f rfl (bitsLoad_ok (by omega) o (cond_ok (fun h2 => ?_) (fun h2 => ?_))))
  · rw [if_pos (ne_t h2)] at k; exact k
  · rw [if_neg (fun e => e (ne_f h2))] at k
    refine areaAll_ok (by omega) o (by omega) (cond_ok (fun h3 => ?_) (fun h3 => ?_))
    · rw [if_pos (ne_t h3)] at k; exact k
    · rw [if_neg (fun e => e (ne_f h3))] at k; exact k
  · rw [if_pos (ne_t h2)] at e
    rw [e] at kz
    unfold stZ at kz
    rw [if_neg (ne_t h2)] at kz; exact kz
  · rw [if_neg (fun e => e (ne_f h2))] at e
    refine areaAll_ok (by omega) o (by omega) (cond_ok (fun h3 => ?_) (fun h3 => ?_))
    · rw [if_pos (ne_t h3)] at e
      rw [e] at kz
      unfold stZ at kz
      rw [if_neg (ne_t h3)] at kz; exact kz
    · rw [if_neg (fun e => e (ne_f h3))] at e
      rw [e] at kz
      unfold stZ at kz
      rw [if_pos rfl] at kz; exact kz
end Gm

set_option maxRecDepth 100000
namespace Gm
open Go
theorem Union_ok {a b : Int} (ha : inK .u32 a) (hb : inK .u32 b) {K : Int → Prop} (h : K (orM a b)) : q91.F [a, b] K := by
  unfold q91.F
  refine ⟨3, round1 ?_⟩
  unfold q91.b0
  refine cond_t rfl (oget_ok (v := a) rfl (round1 ?_))
  dsimp only
  rw [ior_orM u32_zero ha, orM_zero ha]
  refine cond_t rfl (oget_ok (v := b) rfl (round1 ?_))
  dsimp only
  rw [ior_orM ha hb]
  exact cond_f rfl h
theorem storeJoin_ok {N : Nat} {s : Store} (hN : N ≤ 10000) (h64 : 64 ≤ N) (o : OkS N s) {m : Int} (hm : inK .u32 m) {K : (Store × Int) → Prop} (k : K (stJoin s m)) : q92.F s m K := by
  unfold q92.F q92.FV
  unfold stJoin stSave at k
  refine Union_ok o.m hm (cond_ok (fun h1 => ?_) (fun h1 => ?_))
  · rw [if_pos (eq_t h1)] at k; exact k
  rw [if_neg (eq_f h1)] at k
  have hu := or_u32 o.m hm
  have := bits_Save_ok (d := s.disk) (m := (orM s.mask m).toNat) (K := fun r2 => bif r2.2 == 0 then K (⟨r2.1, s.sup, orM s.mask m⟩, r2.2) else K (⟨r2.1, s.sup, s.mask⟩, r2.2)) (u32_toNat hu).1 (by omega) h64 o.d (cond_ok (fun h2 => by
    rw [if_pos (eq_t h2)] at k; exact k) (fun h2 => by
    rw [if_neg (eq_f h2)] at k; exact k))
  rwa [(u32_toNat hu).2] at this
theorem storeRead_ok {N : Nat} {s : Store} (hN : N ≤ 10000) (o : OkS N s) {i : Int} {K : (Str × Int) → Prop} (k : K (stRead s i)) : q83.F s i K := by
  unfold q83.F q83.FV
  exact areaRead_ok (N := N) (by omega) o.d k
theorem eqStr_val {l m : List Str} (h : l.length ≤ 1000000) {K : Bool → Prop} (k : K (decide (l = m))) : q93.F l m K := by
  unfold q93.F
  refine cond_ok (fun h1 => ?_) (fun h1 => ?_)
  · refine use_eq k (decide_eq_false ?_)
    rintro rfl
    simp at h1
  have hl : l.length = m.length := by have := ne_f h1; omega
  refine loop_ok (I := fun x : q93.L0 => ∃ j : Nat, j ≤ l.length ∧ l.take j = m.take j ∧ x = ⟨l, m, l.length, j⟩) (m := fun x : q93.L0 => l.length - x.t13.toNat) ?_ ⟨0, by omega, rfl, rfl⟩
  rintro _ ⟨j, hj, ht, rfl⟩ rec hrec
  unfold q93.b0
  dsimp only
  refine cond_ok (fun h => ?_) (fun h => ?_)
  · have hlt := lt_of_dec h
    rw [wrap_lt hlt (by unfold big; omega)]
    refine oget_ok (getI_ok hlt) (oget_ok (getI_ok (by omega)) (cond_ok (fun h2 => ?_) (fun h2 => ?_)))
    · refine use_eq k (decide_eq_false ?_)
      rintro rfl
      simp at h2
    · have h2 : l[j] = m[j] := eq_of_beq (not_f h2)
      refine hrec _ ⟨j + 1, hlt, ?_, rfl⟩ (by dsimp only; omega)
      rw [List.take_succ_eq_append_getElem hlt, List.take_succ_eq_append_getElem (by omega), ht, h2]
  · have e := le_of_dec h hj
    subst e
    rw [List.take_length, hl, List.take_length] at ht
    exact use_eq k (decide_eq_true ht)
theorem storeOther_ok {a b : Store} (h : a.disk.sure.length ≤ 1000000) (hd : decide (a.disk.sure = b.disk.sure) = false) {K : Bool → Prop} (k : K false) : q96.F a b K := by
  unfold q96.F q96.FV q95.F q95.FV
  exact eqStr_val h (cond_f hd (cond_f rfl k))
theorem okD_three : OkD 64 ⟨[[], [], []], [], 0, false⟩ := bare_okD (by decide) (fun x m => by
  simp only [List.mem_cons, List.not_mem_nil, or_false, or_self] at m
  rw [m]; decide)
theorem storeBad_ok {K : (Store × Int) → Prop} (k : K (zSt, 2)) : q63.F ⟨[[], [], []], [], 0, false⟩ K := by
  unfold q63.F q63.FV q56.F q56.FV
  refine diskRead_ok (N := 64) (by decide) okD_three ?_
  exact cond_f rfl (superDec_nil (cond_f rfl (cond_t rfl k)))
def newSt (b : Int) : Store := (stAttach (fmtV b 7).1).1
theorem new15_ok {b : Int} {K : Store → Prop} (k : K (newSt b)) : q54.F b K := by
  unfold q54.F q54.FV
  refine ref09_Format_ok (g := 7) (by decide) ?_
  exact ref15_Attach_ok (N := 64) (by decide) fmt_okD k
theorem okS_new {b : Int} : OkS 64 (newSt b) := okS_attach fmt_okD
theorem up_new {b : Int} (hb : 1 ≤ b ∧ b ≤ 32) : UpS b (newSt b) := by
  refine (up_attach (dw_fmt hb (by decide) (by decide)) ?_ ?_).2
  · unfold fmtV; rw [if_pos ⟨hb.1, hb.2, by decide⟩]; rfl
  · unfold fmtV; rw [if_pos ⟨hb.1, hb.2, by decide⟩]; rfl
def doS (s : Store) (a : SAct) : Store × Str × Int :=
  if a.kind = 0 then ((stMark s a.block).1, [], (stMark s a.block).2)
  else if a.kind = 1 then ((stWipe s a.block).1, [], (stWipe s a.block).2)
  else if a.kind = 2 then ((stJoin s a.mask).1, [], (stJoin s a.mask).2)
  else if a.kind = 3 then ((stPut s a.block a.data).1, [], (stPut s a.block a.data).2)
  else if a.kind = 4 then ((stCommit s a.sup).1, [], (stCommit s a.sup).2)
  else (s, (stRead s a.block).1, (stRead s a.block).2)
section
variable {N : Nat} {s : Store} {a : SAct} (hN : N ≤ 10000) (h64 : 64 ≤ N) (o : OkS N s) (hm : inK .u32 a.mask) (hs : wSup a.sup)
include hN h64 o hm hs
theorem do15_ok {K : (Store × Str × Int) → Prop} (k : K (doS s a)) : q100.F s a K := by
  unfold q100.F q100.FV
  unfold doS at k
  refine cond_ok (fun h => ?_) (fun h => ?_)
  · rw [if_pos (eq_t h)] at k; exact storeMark_ok hN h64 o k
  rw [if_neg (eq_f h)] at k
  refine cond_ok (fun h => ?_) (fun h => ?_)
  · rw [if_pos (eq_t h)] at k; exact storeWipe_ok hN h64 o k
  rw [if_neg (eq_f h)] at k
  refine cond_ok (fun h => ?_) (fun h => ?_)
  · rw [if_pos (eq_t h)] at k; exact storeJoin_ok hN h64 o hm k
  rw [if_neg (eq_f h)] at k
  refine cond_ok (fun h => ?_) (fun h => ?_)
  · rw [if_pos (eq_t h)] at k; exact storePut_ok hN h64 o k
  rw [if_neg (eq_f h)] at k
  refine cond_ok (fun h => ?_) (fun h => ?_)
  · rw [if_pos (eq_t h)] at k; exact storeCommit_ok hN h64 o hs k
  rw [if_neg (eq_f h)] at k
  exact storeRead_ok hN o k
theorem plain15_ok {K : (Store × Str × Int) → Prop} (k : K (doS s a)) : q119.F s a K := by
  unfold q119.F q119.FV
  unfold doS at k
  refine cond_ok (fun h => ?_) (fun h => ?_)
  · rw [if_pos (eq_t h)] at k; exact ref15_Mark_ok hN h64 o k
  rw [if_neg (eq_f h)] at k
  refine cond_ok (fun h => ?_) (fun h => ?_)
  · rw [if_pos (eq_t h)] at k; exact ref15_Wipe_ok hN h64 o k
  rw [if_neg (eq_f h)] at k
  refine cond_ok (fun h => ?_) (fun h => ?_)
  · rw [if_pos (eq_t h)] at k; exact ref15_Join_ok hN h64 o hm k
  rw [if_neg (eq_f h)] at k
  refine cond_ok (fun h => ?_) (fun h => ?_)
  · rw [if_pos (eq_t h)] at k; exact ref15_Put_ok hN h64 o k
  rw [if_neg (eq_f h)] at k
  refine cond_ok (fun h => ?_) (fun h => ?_)
  · rw [if_pos (eq_t h)] at k; exact ref15_Commit_ok hN h64 o hs k
  rw [if_neg (eq_f h)] at k
  exact ref15_Read_ok hN o k
omit hN in
theorem okS_do : OkS (N + 1) (doS s a).1 := by
  unfold doS
  repeat' split
  · exact okS_mark o h64
  · exact okS_wipe o h64
  · exact okS_join o h64 hm
  · exact okS_put o h64
  · exact okS_commit o h64 hs
  · exact o.up (by omega)
end
def D6 (d : Disk) (r : Disk × Int) : Prop := d.dead = false → r.1.dead = true → r.2 = 6
theorem d6_write {d : Disk} {i : Int} {data : Str} : D6 d (writeV d i data) := by
  unfold writeV
  intro h0 h1
  repeat' split at h1
  all_goals first
    | (repeat' split) <;> first | rfl | (rename_i h; rw [h0] at h; cases h) | (rw [h0] at h1; cases h1) | cases h1
theorem d6_flush {d : Disk} : D6 d (flushV d) := by
  unfold flushV
  intro h0 h1
  repeat' split at h1
  all_goals first
    | (repeat' split) <;> first | rfl | (rename_i h; rw [h0] at h; cases h) | (rw [h0] at h1; cases h1) | cases h1
end Gm

set_option maxRecDepth 100000
namespace Gm
open Go
theorem d6_note {d : Disk} {m : Nat} : D6 d (noteV d m) := by
  unfold noteV
  split
  · exact d6_write
  · intro h0 h1; rw [h0] at h1; cases h1
theorem d6_save {d : Disk} {m : Nat} : D6 d (saveV d m) := by
  unfold saveV
  split
  · exact d6_note
  · rename_i h
    obtain ⟨f, e⟩ := note_okv (Decidable.not_not.1 h)
    rw [e]
    exact fun _ => d6_flush rfl
theorem d6_put {d : Disk} {i : Int} {data : Str} : D6 d (putV d i data) := by
  unfold putV
  repeat' split
  · exact d6_write
  · rename_i h
    obtain ⟨f, e⟩ := write_okv (Decidable.not_not.1 h)
    rw [e]
    exact fun _ => d6_flush rfl
  all_goals (intro h0 h1; rw [h0] at h1; cases h1)
theorem d6_commit {d : Disk} {b : Super} : D6 d (commitD d b) := by
  unfold commitD
  repeat' split
  · exact d6_write
  · rename_i h
    obtain ⟨f, e⟩ := write_okv (Decidable.not_not.1 h)
    rw [e]
    exact fun _ => d6_flush rfl
  all_goals (intro h0 h1; rw [h0] at h1; cases h1)
theorem d6_do {s : Store} {a : SAct} (h0 : s.disk.dead = false) (h1 : (doS s a).1.disk.dead = true) : (doS s a).2.2 = 6 := by
  have no : ∀ {p : Prop}, s.disk.dead = true → p := fun h => by rw [h0] at h; cases h
  unfold doS at *
  split at h1
  · rename_i k; rw [if_pos k]; unfold stMark stSave at *
    split at h1
    · rename_i k; rw [if_pos k]
      split at h1
      · exact no h1
      · rename_i k; rw [if_neg k]; exact d6_save h0 h1
    · exact no h1
  rename_i k; rw [if_neg k]
  split at h1
  · rename_i k; rw [if_pos k]; unfold stWipe stNote at *
    split at h1
    · rename_i k; rw [if_pos k]
      split at h1
      · exact no h1
      · rename_i k; rw [if_neg k]; exact d6_note h0 h1
    · exact no h1
  rename_i k; rw [if_neg k]
  split at h1
  · rename_i k; rw [if_pos k]; unfold stJoin stSave at *
    split at h1
    · exact no h1
    · rename_i k; rw [if_neg k]; exact d6_save h0 h1
  rename_i k; rw [if_neg k]
  split at h1
  · rename_i k; rw [if_pos k]; exact d6_put h0 h1
  rename_i k; rw [if_neg k]
  split at h1
  · rename_i k; rw [if_pos k]; unfold stCommit at *
    split at h1
    · exact no h1
    · rename_i k; rw [if_neg k]; exact d6_commit h0 h1
  exact no h1
def d15 : Disk := (newSt 3).disk
def s15 (z : Bool) : Store × Int := bif z then stZ (stAttach d15) else stAttach d15
def m15 (z : Bool) : Store × Int := stMark (s15 z).1 2
def p15 (z : Bool) : Store × Int := stPut (m15 z).1 2 [97, 98, 99, 100, 101, 102, 103, 104]
def r15 (z : Bool) : Disk := reviveV (crashV (p15 z).1.disk) []
def x15 (z y : Bool) : Store × Int := bif y then stZ (stAttach (r15 z)) else stAttach (r15 z)
def t15 (z y : Bool) : Str × Int := stRead (x15 z y).1 2
def w15 (z : Bool) : Store × Int := stWipe (p15 z).1 2
def c15 (z : Bool) : Store × Int := stCommit (w15 z).1 ⟨3, ⟨8, 0, 0, 0⟩, false, false, false⟩
def n15 (z : Bool) : Store × Int := stMark (s15 z).1 3
def u15 (z : Bool) : Store × Int := stJoin (c15 z).1 5
theorem dw_d15 : DW 3 d15 := (up_new (by decide)).dw
theorem okS_z {N : Nat} {r : Store × Int} (o : OkS N r.1) : OkS N (stZ r).1 := by
  unfold stZ
  split
  · exact ⟨o.d, o.b, wZV, o.m⟩
  · exact o
theorem attach15_ok {N : Nat} {d : Disk} {B : Int} (hN : N ≤ 8000) (o : OkD N d) (h : DW B d) (hd : d.dead = false) (hc : d.cache = []) {K : (Store × Int) → Prop} (k : ∀ z, K (bif z then stZ (stAttach d) else stAttach d)) : q63.F d K :=
  storeAttachP_ok hN o h hd hc (k false) (k true)
theorem o_d15 : OkD 64 d15 := okS_new.d
theorem o_s15 (z : Bool) : OkS 64 (s15 z).1 := by
  cases z
  · exact okS_attach o_d15
  · exact okS_z (okS_attach o_d15)
theorem o_m15 (z : Bool) : OkS 65 (m15 z).1 := okS_mark (o_s15 z) (by decide)
theorem o_p15 (z : Bool) : OkS 66 (p15 z).1 := okS_put (o_m15 z) (by decide)
theorem o_r15 (z : Bool) : OkD 66 (r15 z) := revive_ok (crash_ok (o_p15 z).d) []
theorem o_x15 (z y : Bool) : OkS 66 (x15 z y).1 := by
  cases y
  · exact okS_attach (o_r15 z)
  · exact okS_z (okS_attach (o_r15 z))
theorem o_w15 (z : Bool) : OkS 67 (w15 z).1 := okS_wipe (o_p15 z) (by decide)
theorem w8 : wSup ⟨3, ⟨8, 0, 0, 0⟩, false, false, false⟩ := ⟨i64_of (by decide), by decide, by decide, by decide, by decide⟩
theorem o_c15 (z : Bool) : OkS 68 (c15 z).1 := okS_commit (o_w15 z) (by decide) w8
theorem m0_15 : (m15 false).2 = 0 := by kernel_rfl
theorem r15_same : r15 true = r15 false := by kernel_rfl
theorem dw_r15 (z : Bool) : DW 3 (r15 z) := by
  have u0 : UpS 3 (s15 false).1 := (up_attach dw_d15 (by kernel_rfl) (by kernel_rfl)).2
  have u1 : UpS 3 (m15 false).1 := (sr_mark u0 (o_s15 false).m).2 m0_15
  have u2 : DW 3 (p15 false).1.disk := (sr_put u1).1
  have h : DW 3 (r15 false) := dw_revive (dw_crash u2) []
  cases z
  · exact h
  · rw [r15_same]; exact h
theorem alive15_ok {K : Bool → Prop} (k : K true) : q97.F K := by
  unfold q97.F q97.FV
  refine new15_ok (b := 3) (attach15_ok (N := 64) (B := 3) (d := d15) (by decide) o_d15 dw_d15 (by kernel_rfl) (by kernel_rfl) (fun z => ?_))
  refine storeMark_ok (N := 64) (s := (s15 z).1) (by decide) (by decide) (o_s15 z) (storePut_ok (N := 65) (s := (m15 z).1) (by decide) (by decide) (o_m15 z) ?_)
  refine ref04_Crash_ok (d := (p15 z).1.disk) (ref04_Revive_ok (d := crashV (p15 z).1.disk) (by have := (o_p15 z).d.s; show (p15 z).1.disk.sure.length ≤ _; omega) (by have := (o_p15 z).d.c; show (p15 z).1.disk.cache.length ≤ _; omega) (crash_ok (o_p15 z).d).r ?_)
  refine attach15_ok (N := 66) (B := 3) (d := r15 z) (by decide) (o_r15 z) (dw_r15 z) rfl rfl (fun y => ?_)
  refine storeRead_ok (N := 66) (s := (x15 z y).1) (by decide) (o_x15 z y) (storeWipe_ok (N := 66) (s := (p15 z).1) (by decide) (by decide) (o_p15 z) ?_)
  refine storeCommit_ok (N := 67) (s := (w15 z).1) (by decide) (by decide) (o_w15 z) w8 (storeBad_ok (storeMark_ok (N := 64) (s := (s15 z).1) (by decide) (by decide) (o_s15 z) ?_))
  refine storeJoin_ok (N := 68) (s := (c15 z).1) (by decide) (by decide) (o_c15 z) (m := 5) (inK_u32 (n := 5) (by decide)) ?_
  refine cond_t (show ((s15 z).2 == 0) = true by cases z <;> kernel_rfl) (cond_t (show ((m15 z).2 == 0) = true by cases z <;> kernel_rfl) (cond_t (show ((p15 z).2 == 0) = true by cases z <;> kernel_rfl) ?_))
  refine cond_t (show ((x15 z y).2 == 0) = true by cases z <;> cases y <;> kernel_rfl) (cond_t (show ((t15 z y).2 == 0) = true by cases z <;> cases y <;> kernel_rfl) ?_)
  refine cond_t (show ((w15 z).2 == 0) = true by cases z <;> kernel_rfl) (cond_t (show ((c15 z).2 == 0) = true by cases z <;> kernel_rfl) (cond_t rfl ?_))
  refine cond_t (show ((n15 z).2 == 4) = true by cases z <;> kernel_rfl) (cond_t (show ((u15 z).2 == 0) = true by cases z <;> kernel_rfl) ?_)
  refine cond_t (show ((x15 z y).1.mask == 4) = true by cases z <;> cases y <;> kernel_rfl) (cond_t (show ((t15 z y).1 == [97, 98, 99, 100, 101, 102, 103, 104]) = true by cases z <;> cases y <;> kernel_rfl) ?_)
  refine cond_t (show ((w15 z).1.mask == 0) = true by cases z <;> kernel_rfl) (cond_t (show (((w15 z).1.disk.cache.length : Int) == 1) = true by cases z <;> kernel_rfl) ?_)
  refine cond_t (show ((c15 z).1.sup.vector.current == 8) = true by cases z <;> kernel_rfl) (cond_t (show (((c15 z).1.disk.cache.length : Int) == 0) = true by cases z <;> kernel_rfl) ?_)
  refine cond_t (show ((u15 z).1.mask == 5) = true by cases z <;> kernel_rfl) ?_
  have hs := (o_s15 z).d.s
  have hc := (o_s15 z).d.c
  refine storeSameP_ok (s := (s15 z).1) (by omega) (by omega) (cond_t rfl ?_)
  exact storeOther_ok (a := (s15 z).1) (b := (m15 z).1) (by omega) (by cases z <;> kernel_rfl) k
theorem great15_ok {l : List SAct} {K : Bool → Prop} (kt : K true) (kf : l.length ≤ 40 → K false) : q98.F l K := by
  unfold q98.F
  refine cond_ok (fun _ => kt) (fun h => ?_)
  have hl : l.length ≤ 40 := by have := of_decide_eq_false h; omega
  refine loop_ok (I := fun x : q98.L0 => ∃ j : Nat, j ≤ l.length ∧ x = ⟨l, j⟩) (m := fun x : q98.L0 => l.length - x.i.toNat) ?_ ⟨0, by omega, rfl⟩
  rintro _ ⟨j, hj, rfl⟩ rec hrec
  unfold q98.b0
  dsimp only
  refine cond_ok (fun h => ?_) (fun _ => kf hl)
  have hlt := lt_of_dec h
  rw [wrap_lt hlt (by unfold big; omega)]
  refine oget_ok (getI_ok hlt) (cond_ok (fun _ => kt) (fun _ => ?_))
  exact hrec _ ⟨j + 1, hlt, rfl⟩ (by dsimp only; omega)
theorem n15_eq {n : Int} (h : 0 ≤ n ∧ n ≤ 255) : IntKind.i64.wrap (1 + IntKind.i64.wrap (n.tmod 32)) = 1 + n % 32 := by
  rw [Int.tmod_eq_emod_of_nonneg h.1, wrap_i64 (x := n % 32) (by omega), wrap_i64 (by omega)]
theorem StoreActs_ok {n : Int} {l : List SAct} {fuse : Int} (hn : inK .u8 n) (hf : inK .u8 fuse) (hl : ∀ a ∈ l, inK .u32 a.mask ∧ wSup a.sup) {K : Bool → Prop} (k : K true) : q122.F n l fuse K := by
  unfold q122.F q122.FV
  have hn : 0 ≤ n ∧ n ≤ 255 := hn
  have hf : 0 ≤ fuse ∧ fuse ≤ 255 := hf
  refine alive15_ok (cond_f rfl (great15_ok (cond_t rfl k) (fun h40 => cond_f rfl (cond_f rfl ?_))))
  rw [n15_eq hn, wrap_i64 (by omega)]
  refine new15_ok (ref04_Arm_ok ?_)
  have o0 : OkS 64 ⟨armV (newSt (1 + n % 32)).disk fuse, (newSt (1 + n % 32)).sup, (newSt (1 + n % 32)).mask⟩ := by
    have o : OkS 64 (newSt (1 + n % 32)) := okS_new
    refine ⟨⟨o.d.s, o.d.c, o.d.r, ?_, ?_, o.d.ds, o.d.dc⟩, o.b, o.v, o.m⟩
    · show inK .i64 (maxI2 fuse 0)
      exact i64_of (by unfold maxI2; split <;> omega)
    · show 0 ≤ maxI2 fuse 0
      unfold maxI2; split <;> omega
  have d0 : (⟨armV (newSt (1 + n % 32)).disk fuse, (newSt (1 + n % 32)).sup, (newSt (1 + n % 32)).mask⟩ : Store).disk.dead = false := (up_new (b := 1 + n % 32) (by omega)).dead
  generalize (⟨armV (newSt (1 + n % 32)).disk fuse, (newSt (1 + n % 32)).sup, (newSt (1 + n % 32)).mask⟩ : Store) = s at o0 d0
  refine loop_ok (I := fun x : q122.L0 => ∃ (j : Nat) (s : Store), j ≤ l.length ∧ OkS (64 + j) s ∧ s.disk.dead = false ∧ x = ⟨l, j, s⟩) (m := fun x : q122.L0 => l.length - x.i.toNat) ?_ ⟨0, s, by omega, o0, d0, rfl⟩
  rintro _ ⟨j, s, hj, o, hd, rfl⟩ rec hrec
  unfold q122.b0V
  dsimp only
  refine cond_ok (fun h => ?_) (fun _ => k)
  have hlt := lt_of_dec h
  obtain ⟨hm, hs⟩ := hl _ (List.getElem_mem hlt)
  rw [wrap_lt hlt (by unfold big; omega)]
  refine oget_ok (getI_ok hlt) (do15_ok (N := 64 + j) (by omega) (by omega) o hm hs (oget_ok (getI_ok hlt) (plain15_ok (N := 64 + j) (by omega) (by omega) o hm hs ?_)))
  have o2 := okS_do (N := 64 + j) (s := s) (a := l[j]) (by omega) o hm hs
  have h1 := o2.d.s
  have h2 := o2.d.c
  refine storeSame_ok (by omega) (by omega) (cond_f rfl (cond_f (by simp) (cond_f (by simp) (cond_ok (fun h3 => ?_) (fun h3 => ?_)))))
  · exact use_eq k (beq_iff_eq.2 (d6_do hd h3)).symm
  · exact hrec _ ⟨j + 1, _, hlt, o2, h3, rfl⟩ (by dsimp only; omega)
end Gm
