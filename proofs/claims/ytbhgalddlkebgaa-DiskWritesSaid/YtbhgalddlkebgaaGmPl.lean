/- The law of reads and writes is true. -/
import Derived.Test.YtbhgalddlkebgaaGmPj
import Derived.Test.YtbhgalddlkebgaaGmT7
namespace Gm
open Go

theorem law04_DiskWrites_true {d : Disk} {i : Int} {data : Str} (hf : inK .i64 d.fuse) : law04_DiskWrites.F d i data (fun r => r = true) := by
  unfold law04_DiskWrites.F
  refine law04_alive_ok (cond_f rfl (ref04_Great_ok (fun _ => rfl) fun hg => cond_f rfl (cond_ok (fun _ => rfl) fun _ => ?_)))
  obtain ⟨a1, a2⟩ := small_of hg
  refine ref04_Right_ok (by omega) (cond_ok (fun _ => rfl) fun hr => ?_)
  have hr : rightV d = true := by simpa using hr
  have o := okD_of hg hr hf
  have ow := write_ok (i := i) (data := data) o (by decide)
  have hn1 := ow.s
  have hn2 := ow.c
  have hs : (flushV d).1.sure.length ≤ 100 ∧ (flushV d).1.cache.length ≤ 100 := by
    unfold flushV
    split
    · exact ⟨o.s, o.c⟩
    split
    · exact ⟨by show (settleV _ _).length ≤ 100; rw [settleV_length]; exact o.s, by simp⟩
    split
    · exact ⟨o.s, o.c⟩
    · exact ⟨by show (settleV _ _).length ≤ 100; rw [settleV_length]; exact o.s, by simp⟩
  obtain ⟨hs1, hs2⟩ := hs
  refine cond_t (fit_ok (by omega)) (cond_t (fit_ok (by omega)) ?_)
  refine disk_Write_ok (by omega) hf o.p (ref04_Write_ok (by decide) o ?_)
  refine disk_Read_ok (by omega) (by omega) (ref04_Read_ok (by omega) ?_)
  refine disk_Flush_ok (by omega) (by omega) o.r hf o.p (ref04_Flush_ok (by decide) o ?_)
  refine ref04_Same_ok (by unfold big; omega) (by unfold big; omega) (cond_t (by simp [sameV]) (cond_t (by simp) (cond_t (by simp) (cond_t (by simp) ?_))))
  exact ref04_Same_ok (by unfold big; omega) (by unfold big; omega) (cond_t (by simp [sameV]) (cond_t (by simp) (ref04_Same_ok (by unfold big; omega) (by unfold big; omega) (by simp [sameV]))))

end Gm
