/- The law of fuses is true. -/
import Derived.Test.YtbhgalddlkebgaaGmPh
import Derived.Test.YtbhgalddlkebgaaGmT6
namespace Gm
open Go

/-- What a fuse leaves. -/
def FuseInv (d : Disk) (n : Int) (done : Nat) (x : Disk) : Prop :=
  x.cache.length = d.cache.length + done ∧ (done : Int) < n ∧ (x.dead = true ∨ x.dead = false ∧ x.fuse = n - done)

theorem fuse_step {d x : Disk} {n : Int} {done : Nat} (i : Int) (data : Str) (h : FuseInv d n done x) :
    ((writeV x i data).2 = 0 ∧ (writeV x i data).1.dead = false ∧ FuseInv d n (done + 1) (writeV x i data).1) ∨
    ((writeV x i data).2 ≠ 0 ∧ (((writeV x i data).2 == 6) == (writeV x i data).1.dead) = true ∧ (writeV x i data).1.cache.length = x.cache.length ∧ FuseInv d n done (writeV x i data).1) := by
  obtain ⟨h1, h2, h3⟩ := h
  unfold writeV
  by_cases hd : x.dead = true
  · rw [if_pos hd]
    exact .inr ⟨by dsimp only; omega, by simp [hd], rfl, h1, h2, .inl hd⟩
  · rw [if_neg hd]
    have hd' : x.dead = false := by simpa using hd
    have hf : x.fuse = n - done := by
      rcases h3 with h | ⟨_, h⟩
      · exact absurd h hd
      · exact h
    split
    · exact .inr ⟨by dsimp only; omega, by simp [hd'], rfl, h1, h2, h3⟩
    · split
      · exact .inr ⟨by dsimp only; omega, by simp [hd'], rfl, h1, h2, h3⟩
      · rw [if_neg (by omega)]
        split
        · exact .inr ⟨by dsimp only; omega, by simp [crashV], rfl, h1, h2, .inl rfl⟩
        · refine .inl ⟨rfl, rfl, by simp; omega, by omega, .inr ⟨rfl, ?_⟩⟩
          show x.fuse - 1 = n - ((done + 1 : Nat) : Int)
          omega

theorem law04_DiskFuses_true {d : Disk} {n : Int} {writes : List Write} (hn : inK .u8 n) : law04_DiskFuses.F d n writes (fun r => r = true) := by
  have hn : 0 ≤ n ∧ n ≤ 255 := hn
  unfold law04_DiskFuses.F
  refine law04_alive_ok (cond_f rfl (ref04_Great_ok (fun _ => rfl) fun hd => cond_f rfl ?_))
  obtain ⟨a1, a2⟩ := small_of hd
  refine ref04_Right_ok (by omega) (cond_ok (fun _ => rfl) fun hr => (cond_ok (fun _ => rfl) fun hdead => (cond_ok (fun _ => rfl) fun hw => (cond_ok (fun _ => rfl) fun h0 => ?_))))
  have hw : writes.length ≤ 50 := by
    have := of_decide_eq_false hw
    omega
  have h0 : n ≠ 0 := by simpa using h0
  have hwr : IntKind.i64.wrap n = n := wrap_i64 (by omega)
  rw [hwr]
  refine disk_Arm_ok ?_
  refine loop_ok (I := fun x : law04_DiskFuses.L0 => ∃ (i done : Nat) (y : Disk), i ≤ writes.length ∧ done ≤ i ∧ FuseInv d n done y ∧
    x = ⟨n, writes, done, i, d.sure, d.cache, d.fuse, d.dead, y.sure, y.cache, y.fuse, y.dead⟩) (m := fun x : law04_DiskFuses.L0 => writes.length - x.i.toNat) ?_
    ⟨0, 0, armV d n, by omega, by omega, ⟨by simp [armV], by show (0 : Int) < n; omega, .inr ⟨hdead, ?_⟩⟩, rfl⟩
  · rintro _ ⟨i, done, y, hi, hdi, hF, rfl⟩ rec hrec
    unfold law04_DiskFuses.b0
    dsimp only
    refine cond_ok (fun h4 => ?_) (fun h4 => ?_)
    · have hlt := lt_of_dec h4
      refine oget_ok (getI_ok hlt) (oget_ok (getI_ok hlt) ?_)
      have hyc : y.cache.length ≤ 1000000 := by rw [hF.1]; omega
      have hwi : IntKind.i64.wrap ((i : Int) + 1) = ((i + 1 : Nat) : Int) := wrap_lt hlt (by unfold big; omega)
      have hwd : IntKind.i64.wrap ((done : Int) + 1) = ((done + 1 : Nat) : Int) := wrap_lt (m := writes.length) (by omega) (by unfold big; omega)
      have hwrite : ∀ {K : (Disk × Int) → Prop}, K (writeV y (writes[i]).sector (writes[i]).data) → disk_Write.F y (writes[i]).sector (writes[i]).data K := by
        intro K hK
        by_cases hyd : y.dead = true
        · unfold disk_Write.F
          have : writeV y (writes[i]).sector (writes[i]).data = (y, 6) := by unfold writeV; rw [if_pos hyd]
          rw [this] at hK
          exact cond_t hyd hK
        · have hf : y.fuse = n - done := by
            rcases hF.2.2 with h | ⟨_, h⟩
            · exact absurd h hyd
            · exact h
          have := hF.2.1
          exact disk_Write_ok hyc (by show -9223372036854775808 ≤ y.fuse ∧ y.fuse ≤ 9223372036854775807; omega) (by omega) hK
      refine hwrite ?_
      have hstep := fuse_step (writes[i]).sector (writes[i]).data hF
      generalize writeV y (writes[i]).sector (writes[i]).data = r at hstep
      rw [hwi, hwd]
      rcases hstep with ⟨e1, e2, e3⟩ | ⟨e1, e2, e3, e4⟩
      · refine cond_t (by rw [e1]; rfl) (cond_f (by rw [e1, e2]; rfl) (cond_f (by rw [e1]; rfl) ?_))
        exact hrec _ ⟨i + 1, done + 1, r.1, by omega, by omega, e3, rfl⟩ (by show writes.length - ((i + 1 : Nat) : Int).toNat < writes.length - ((i : Nat) : Int).toNat; omega)
      · refine cond_f (by simpa using e1) (cond_f (by rw [e2]; rfl) (cond_t (by simpa using e1) (cond_f (by rw [e3]; simp) ?_)))
        exact hrec _ ⟨i + 1, done, r.1, by omega, by omega, e4, rfl⟩ (by show writes.length - ((i + 1 : Nat) : Int).toNat < writes.length - ((i : Nat) : Int).toNat; omega)
    · obtain ⟨g1, g2, g3⟩ := hF
      rw [hwr]
      have w1 : IntKind.i64.wrap ((d.cache.length : Int) + done) = (d.cache.length : Int) + done := wrap_i64 (by omega)
      have w2 : IntKind.i64.wrap (n - done) = n - done := wrap_i64 (by omega)
      rw [w1, w2]
      refine cond_t (decide_eq_true g2) (cond_t (by rw [g1]; simp) (cond_ok (fun _ => rfl) fun hyd => ?_))
      rcases g3 with g | ⟨_, g⟩
      · rw [hyd] at g; cases g
      · simp [g]
  · show maxI2 n 0 = n - ((0 : Nat) : Int)
    unfold maxI2
    split <;> omega

end Gm
