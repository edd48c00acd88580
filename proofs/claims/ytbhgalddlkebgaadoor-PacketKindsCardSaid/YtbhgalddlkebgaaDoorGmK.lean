/- Operations that hang on their operands alone: seventh part. -/
import Derived.Test.YtbhgalddlkebgaaDoorGmJ
namespace Gm
open Go

theorem getI_some {α : Type} {xs : List α} {i : Int} {x : α} (h : getI xs i = some x) : 0 ≤ i ∧ i.toNat < xs.length ∧ xs[i.toNat]? = some x := by
  unfold getI at h
  split at h
  · rename_i h0
    exact ⟨h0, (List.getElem?_eq_some_iff.1 h).1, h⟩
  · cases h

theorem caseN_some {i : Int} {K : Nat → Prop} : ∀ {n j : Nat}, caseN i K j n → ∃ m, j ≤ m ∧ m < j + n ∧ i = (m : Int) ∧ K m
  | 0, _, h => h.elim
  | n + 1, j, h => by
    unfold caseN at h
    cases hc : i == (j : Int) with
    | true =>
      rw [hc] at h
      exact ⟨j, by omega, by omega, by simpa using hc, h⟩
    | false =>
      rw [hc] at h
      obtain ⟨m, h1, h2, h3, h4⟩ := caseN_some (n := n) (j := j + 1) h
      exact ⟨m, by omega, by omega, h3, h4⟩

def enumF (k : Nat) : List AV → List (Nat × AV)
  | [] => []
  | v :: r => (k, v) :: enumF (k + 1) r

theorem litC_spec : ∀ {k : Nat} {ps : List (Nat × AV)} {l : List AV}, litC k ps = some l → ps = enumF k l ∧ ∀ v ∈ l, v.solid = true
  | _, [], l, h => by cases h; exact ⟨rfl, by simp⟩
  | k, (j, v) :: ps, l, h => by
    unfold litC at h
    split at h
    · rename_i hc
      simp only [Bool.and_eq_true, Nat.beq_eq] at hc
      obtain ⟨rfl, hs⟩ := hc
      simp only [Option.map_eq_some_iff] at h
      obtain ⟨r, hr, rfl⟩ := h
      obtain ⟨h1, h2⟩ := litC_spec hr
      refine ⟨by rw [h1]; rfl, ?_⟩
      intro u hu
      rcases List.mem_cons.1 hu with rfl | hu
      · exact hs
      · exact h2 u hu
    · cases h

theorem enumF_get : ∀ (l : List AV) (k i : Nat), (enumF k l)[i]? = (l[i]?).map fun v => (k + i, v)
  | [], k, i => by simp [enumF]
  | v :: r, k, i => by
    cases i with
    | zero => simp [enumF]
    | succ i =>
      simp only [enumF, List.getElem?_cons_succ, enumF_get r (k + 1) i]
      congr 1
      funext u
      simp; omega

theorem enumF_length : ∀ (l : List AV) (k : Nat), (enumF k l).length = l.length
  | [], _ => rfl
  | _ :: r, k => by simp [enumF, enumF_length r]

theorem fillC_lit (z : Nat) : ∀ (l : List AV) (k : Nat) (cs : List AV), (∀ v ∈ l, v.solid = true) → (∀ v ∈ l, v.cells.length = z) → (k + l.length) * z ≤ cs.length →
    fillC (fun i => some (i * z, z)) cs (enumF k l) = some (cs.take (k * z) ++ (l.flatMap AV.cells ++ cs.drop ((k + l.length) * z)))
  | [], k, cs, _, _, _ => by simp [enumF, fillC]
  | v :: r, k, cs, hs, hz, hb => by
    have hv := hz v (by simp)
    have hb' : (k + 1 + r.length) * z ≤ cs.length := by simpa [Nat.add_assoc, Nat.add_comm 1] using hb
    have h1 : k * z + z ≤ cs.length := by
      have : (k + 1) * z ≤ (k + 1 + r.length) * z := Nat.mul_le_mul_right _ (by omega)
      rw [Nat.add_mul, Nat.one_mul] at this
      omega
    have hl : (spliceC cs (k * z) v.cells).length = cs.length := by simp [spliceC]; omega
    unfold enumF fillC
    simp only
    rw [if_pos (by simp [hs v (by simp), hv, h1])]
    rw [fillC_lit z r (k + 1) _ (fun u hu => hs u (by simp [hu])) (fun u hu => hz u (by simp [hu])) (by rw [hl]; exact hb')]
    congr 1
    have e1 : (spliceC cs (k * z) v.cells).take ((k + 1) * z) = cs.take (k * z) ++ v.cells := by
      unfold spliceC
      rw [Nat.add_mul, Nat.one_mul]
      have : (List.take (k * z) cs).length = k * z := by simp; omega
      rw [List.take_append, this, List.take_of_length_le (by omega)]
      congr 1
      rw [show k * z + z - k * z = z by omega, List.take_append_of_le_length (by omega), List.take_of_length_le (by omega)]
    have e2 : (spliceC cs (k * z) v.cells).drop ((k + 1 + r.length) * z) = cs.drop ((k + (v :: r).length) * z) := by
      unfold spliceC
      have h2 : k * z + z ≤ (k + 1 + r.length) * z := by
        have : (k + 1) * z ≤ (k + 1 + r.length) * z := Nat.mul_le_mul_right _ (by omega)
        rw [Nat.add_mul, Nat.one_mul] at this
        exact this
      have h3 : (List.take (k * z) cs).length = k * z := by simp; omega
      rw [List.drop_append, h3, List.drop_eq_nil_of_le (by omega), List.nil_append, List.drop_append, List.drop_eq_nil_of_le (by omega), List.nil_append, List.drop_drop]
      congr 1
      rw [hv]
      have e : (k + (v :: r).length) * z = (k + 1 + r.length) * z := by congr 1; simp; omega
      rw [e]
      omega
    rw [e1, e2]
    simp [List.flatMap_cons]

theorem flatMap_get (z : Nat) : ∀ (l : List AV) (i j : Nat) (v : AV), (∀ v ∈ l, v.cells.length = z) → l[i]? = some v → j < z → (l.flatMap AV.cells)[i * z + j]? = v.cells[j]?
  | [], i, j, v, _, h, _ => by simp at h
  | u :: r, 0, j, v, hz, h, hj => by
    simp at h
    subst h
    have := hz u (by simp)
    simp only [List.flatMap_cons, Nat.zero_mul, Nat.zero_add]
    rw [List.getElem?_append_left (by omega)]
  | u :: r, i + 1, j, v, hz, h, hj => by
    have := hz u (by simp)
    simp only [List.flatMap_cons]
    rw [List.getElem?_append_right (by rw [Nat.add_mul]; omega)]
    have e : (i + 1) * z + j - u.cells.length = i * z + j := by rw [Nat.add_mul]; omega
    rw [e]
    exact flatMap_get z r i j v (fun v hv => hz v (by simp [hv])) h hj

theorem flatMap_length (z : Nat) : ∀ (l : List AV), (∀ v ∈ l, v.cells.length = z) → (l.flatMap AV.cells).length = l.length * z
  | [], _ => by simp
  | u :: r, hz => by
    simp only [List.flatMap_cons, List.length_append, List.length_cons]
    rw [flatMap_length z r (fun v hv => hz v (by simp [hv])), hz u (by simp), Nat.add_mul]
    omega

section
variable {E : Env} {S : Sit} {K : AV → Prop}

theorem cell_new (S : Sit) (c : Array Value) (e : TypeId) (fz : Nat × Nat) (k : Nat) : (S.new (.cells c e fz)).w.cell? (at_ S.w.heap.size k) = c[k]? := by
  rw [cell_at]
  show (match (S.w.heap.push (.cells c e fz))[S.w.heap.size]? with | some (.cells c _ _) => c[k]? | _ => none) = _
  rw [Array.getElem?_push, if_pos rfl]

theorem lit_run {t e : TypeId} {z n : Nat} {l : List AV} {qs : List (Nat × Value)} {zc : AV} (hu : E.P.underlying t = some (.slice e)) (hz : szT E e = some z) (hzc : zeroC E e = some zc)
    (hn : l.length = n) (hb : n * z ≤ 16777216) (hc : ∀ v ∈ l, v.cells.length = z) (hs : ∀ v ∈ l, v.solid = true) (hl : (enumF 0 l).length = qs.length)
    (hp : ∀ (i : Nat) (p : Nat × AV) (q : Nat × Value), (enumF 0 l)[i]? = some p → qs[i]? = some q → p.1 = q.1 ∧ Rv S p.2 q.2) :
    ∃ us, (Instr.buildSlice t n qs.toArray).run E.P S.w = Result.ok (.slice (some (at_ S.w.heap.size 0)) n n) (S.new (.cells us e)).w ∧ Cs S (l.flatMap AV.cells) us := by
  obtain ⟨zv, hz1, hz2⟩ := zero_ok hzc
  have hinit : ∀ (init : Array Value), init.size = n * z → ∃ us, Instr.fill (fun i => some (i * z, z)) init qs = some us ∧ Cs S (l.flatMap AV.cells) us := by
    intro init hi
    have h0 : Cs S (List.replicate (n * z) AV.top) init := by
      refine ⟨by simp [hi], ?_⟩
      intro i c v h1 h2
      have : c = AV.top := by
        have := List.mem_of_getElem? h1
        simp at this
        exact this.2
      subst this
      exact .top _
    have hf := fillC_lit z l 0 (List.replicate (n * z) AV.top) hs hc (by simp [hn])
    obtain ⟨us, h1, h2⟩ := fill_ok _ (enumF 0 l) qs _ init _ h0 hl hp hf
    refine ⟨us, h1, ?_⟩
    simpa [hn] using h2
  unfold Instr.buildSlice
  simp only [Sem.run_bind, run_undT hu, Result.andThen_ok, run_sizeT hz]
  rw [if_neg (by simpa using hb)]
  by_cases h0 : n * z = 0
  · obtain ⟨us, h1, h2⟩ := hinit ((Array.range (n * z)).map fun x => (#[] : Array Value)[x % (#[] : Array Value).size]!) (by simp)
    refine ⟨us, ?_, h2⟩
    rw [if_pos h0]
    simp only [Sem.run_bind, Sem.run_pure, Result.andThen_ok]
    rw [h1]
    rfl
  · obtain ⟨us, h1, h2⟩ := hinit ((Array.range (n * z)).map fun x => zv.cells[x % zv.cells.size]!) (by simp)
    refine ⟨us, ?_, h2⟩
    rw [if_neg h0]
    simp only [Sem.run_bind, Sem.run_pure, Result.andThen_ok, hz1]
    rw [h1]
    rfl

theorem lit_ok {t e : TypeId} {z n : Nat} {l : List AV} {qs : List (Nat × Value)} {zc : AV} (hu : E.P.underlying t = some (.slice e)) (hz : szT E e = some z) (hzc : zeroC E e = some zc)
    (hn : l.length = n) (hb : n * z ≤ 16777216) (hc : ∀ v ∈ l, v.cells.length = z) (hs : ∀ v ∈ l, v.solid = true) (hl : (enumF 0 l).length = qs.length)
    (hp : ∀ (i : Nat) (p : Nat × AV) (q : Nat × Value), (enumF 0 l)[i]? = some p → qs[i]? = some q → p.1 = q.1 ∧ Rv S p.2 q.2) :
    Ans E.P S (Instr.buildSlice t n qs.toArray) (fun a => a = .vl l) := by
  obtain ⟨us, hrun, h2⟩ := lit_run (S := S) hu hz hzc hn hb hc hs hl hp
  refine ⟨.slice (some (at_ S.w.heap.size 0)) n n, .vl l, S.new (.cells us e), hrun, .new _ _, ?_, rfl⟩
  · have hsz : us.size = n * z := by rw [← h2.1, flatMap_length z l hc, hn]
    subst hn
    refine .vl l z _ 0 (fun k => us.getD k undef) hc hs ?_ ?_ ?_
    · intro k hk
      exact .inr rfl
    · intro k hk
      rw [Nat.zero_add, cell_new, Array.getElem?_eq_getElem (by omega)]
      simp [Array.getD, show k < us.size by omega]
    · intro i v j c hv hcc
      have hj : j < z := by
        have h3 := hc v (List.mem_of_getElem? hv)
        have h4 := (List.getElem?_eq_some_iff.1 hcc).1
        omega
      have hi : i < l.length := (List.getElem?_eq_some_iff.1 hv).1
      have hk : i * z + j < us.size := by
        rw [hsz]
        calc i * z + j < i * z + z := by omega
          _ = (i + 1) * z := by rw [Nat.add_mul]; omega
          _ ≤ l.length * z := Nat.mul_le_mul_right _ (by omega)
      have h5 : (l.flatMap AV.cells)[i * z + j]? = some c := by rw [flatMap_get z l i j v hc hv hj]; exact hcc
      have h6 := h2.2 (i * z + j) c us[i * z + j] h5 (Array.getElem?_eq_getElem hk)
      simp only [Array.getD, hk, dif_pos]
      exact h6.mono (Ext.new S _).le

end
end Gm
