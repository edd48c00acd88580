/- Operations that hang on their operands alone: second part. -/
import Derived.Test.YtbhgalddlkebgaaDoorGmE
namespace Gm
open Go

section
variable {E : Env} {S : Sit} {K : AV → Prop}

theorem zero_ok {t : TypeId} {z : AV} (h : zeroC E t = some z) : ∃ v, (∀ w, (zeroValue t).run E.P w = Result.ok v w) ∧ z = vAV v := by
  unfold zeroC at h
  cases hi : E.P.info? t with
  | none => rw [hi] at h; cases h
  | some i =>
    rw [hi] at h
    simp only [Option.bind_some, Option.map_eq_some_iff] at h
    obtain ⟨v, hv, rfl⟩ := h
    exact ⟨v, fun w => by simp [zeroValue, typeInfo, hi, hv], rfl⟩

theorem places_ok (w : World) : ∀ (fs : List Field) (ps : List (Nat × Nat)), placesS E fs = some ps →
    (fs.mapM (m := Sem) fun f => do pure (f.offset, ← Go.sizeOf f.type)).run E.P w = Result.ok ps w
  | [], ps, h => by
    simp [placesS] at h
    subst h
    rfl
  | f :: fs, ps, h => by
    unfold placesS at h
    simp only [List.mapM_cons, Option.bind_eq_bind] at h
    cases hs : szT E f.type with
    | none => rw [hs] at h; cases h
    | some n =>
      rw [hs] at h
      simp only [Option.map_some, Option.bind_some] at h
      cases hr : (List.mapM (fun f => Option.map (fun n => (f.offset, n)) (szT E f.type)) fs) with
      | none => rw [hr] at h; cases h
      | some qs =>
        rw [hr] at h
        cases h
        have ih := places_ok w fs qs hr
        simp only [List.mapM_cons, Sem.run_bind, run_sizeT hs, Result.andThen_ok, Sem.run_pure, ih]

theorem build_ok {t : TypeId} {ps : List (Nat × AV)} {qs : List (Nat × Value)} {a : AV} (h : buildC E t ps = some a) (hl : ps.length = qs.length)
    (hp : ∀ (i : Nat) (p : Nat × AV) (q : Nat × Value), ps[i]? = some p → qs[i]? = some q → p.1 = q.1 ∧ Rv S p.2 q.2) :
    ∃ v, (∀ w, (Instr.build t qs.toArray).run E.P w = Result.ok v w) ∧ Rv S a v := by
  unfold buildC at h
  split at h
  · rename_i z fields hz hu
    obtain ⟨zv, hz1, hz2⟩ := zero_ok hz
    have hzr : Rv S (.agg z) zv := by rw [hz2]; exact vAV_ok _
    obtain ⟨vs, rfl, c1, c2⟩ := hzr.agg_inv
    split at h
    · rename_i pl hpl
      simp only [Option.map_eq_some_iff] at h
      obtain ⟨r, hr, rfl⟩ := h
      obtain ⟨us, h1, h2⟩ := fill_ok _ ps qs z vs r ⟨c1, c2⟩ hl hp hr
      refine ⟨.agg us, fun w => ?_, .agg _ _ h2.1 h2.2⟩
      unfold Instr.build
      have hm := places_ok w fields.toList pl hpl
      have hm' : (fields.mapM (m := Sem) fun f => do pure (f.offset, ← Go.sizeOf f.type)).run E.P w = Result.ok pl.toArray w := by
        rw [Array.mapM_eq_mapM_toList]
        simp only [Sem.run_map, hm, Result.andThen_ok]
      simp only [Sem.run_bind, hz1, Result.andThen_ok, run_undT hu, hm', Value.cells]
      have e : (fun (x : Nat) => pl.toArray[x]?) = fun i => pl[i]? := by funext i; simp
      rw [e, h1]
      rfl
    · cases h
  · rename_i z n e hz hu
    obtain ⟨zv, hz1, hz2⟩ := zero_ok hz
    have hzr : Rv S (.agg z) zv := by rw [hz2]; exact vAV_ok _
    obtain ⟨vs, rfl, c1, c2⟩ := hzr.agg_inv
    split at h
    · rename_i sz hsz
      simp only [Option.map_eq_some_iff] at h
      obtain ⟨r, hr, rfl⟩ := h
      obtain ⟨us, h1, h2⟩ := fill_ok _ ps qs z vs r ⟨c1, c2⟩ hl hp hr
      refine ⟨.agg us, fun w => ?_, .agg _ _ h2.1 h2.2⟩
      unfold Instr.build
      simp only [Sem.run_bind, hz1, Result.andThen_ok, run_undT hu, run_sizeT hsz, Value.cells]
      rw [h1]
      rfl
    · cases h
  · cases h


end
end Gm
