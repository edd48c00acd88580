/- Operations that hang on their operands alone answer as the abstract machine says: first part. -/
import Derived.Test.YtbhgalddlkebgaaDoorGmD
namespace Gm
open Go

section
variable {S : Sit}
theorem Rv.bool_inv {b : Bool} {v : Value} (r : Rv S (.bool b) v) : v = .bool b := by cases r; rfl
theorem Rv.int_inv {k : IntKind} {n : Int} {v : Value} (r : Rv S (.int k n) v) : v = .int k n := by cases r; rfl
theorem Rv.str_inv {s : Str} {v : Value} (r : Rv S (.str s) v) : ∃ b : ByteArray, v = .string b ∧ b.data.toList = s := by
  cases r with | str _ b e => exact ⟨b, rfl, e⟩
theorem Rv.agg_inv {cs : List AV} {v : Value} (r : Rv S (.agg cs) v) : ∃ vs : Array Value, v = .agg vs ∧ cs.length = vs.size ∧ ∀ (i : Nat) c u, cs[i]? = some c → vs[i]? = some u → Rv S c u := by
  cases r with | agg _ vs e h => exact ⟨vs, rfl, e, h⟩
theorem Rv.tup_inv {cs : List AV} {v : Value} (r : Rv S (.tup cs) v) : ∃ vs : Array Value, v = .tuple vs ∧ cs.length = vs.size ∧ ∀ (i : Nat) c u, cs[i]? = some c → vs[i]? = some u → Rv S c u := by
  cases r with | tup _ vs e h => exact ⟨vs, rfl, e, h⟩

/-- Storing a run of cells into a row. -/
theorem foldl_set_get (f : Nat → Value) : ∀ (l : List Value) (k off : Nat) (cs : Array Value),
    ((l.zipIdx k).foldl (fun (cs : Array Value) (p : Value × Nat) => cs.setIfInBounds (off + p.2) p.1) cs).size = cs.size ∧
    ∀ i : Nat, i < cs.size → ((l.zipIdx k).foldl (fun (cs : Array Value) (p : Value × Nat) => cs.setIfInBounds (off + p.2) p.1) cs)[i]? =
      if off + k ≤ i ∧ i < off + k + l.length then l[i - (off + k)]? else cs[i]?
  | [], k, off, cs => by
    refine ⟨rfl, fun i hi => ?_⟩
    rw [if_neg (by simp <;> omega)]
    rfl
  | v :: l, k, off, cs => by
    simp only [List.zipIdx_cons, List.foldl_cons]
    obtain ⟨h1, h2⟩ := foldl_set_get f l (k + 1) off (cs.setIfInBounds (off + k) v)
    refine ⟨by rw [h1]; simp, fun i hi => ?_⟩
    rw [h2 i (by simpa using hi)]
    by_cases e : i = off + k
    · subst e
      rw [if_neg (by omega), if_pos (by simp)]
      simp [hi]
    · by_cases h : off + k ≤ i ∧ i < off + k + (v :: l).length
      · rw [if_pos h, if_pos (by simp at h; omega)]
        have : i - (off + k) = (i - (off + (k + 1))) + 1 := by omega
        rw [this]
        rfl
      · rw [if_neg h, if_neg (by simp at h ⊢; omega)]
        rw [Array.getElem?_setIfInBounds_ne (by omega)]

/-- Pointwise: these cells are those. -/
def Cs (S : Sit) (cs : List AV) (vs : Array Value) : Prop := cs.length = vs.size ∧ ∀ (i : Nat) c v, cs[i]? = some c → vs[i]? = some v → Rv S c v

theorem Cs.splice {cs : List AV} {vs : Array Value} (h : Cs S cs vs) {a : AV} {v : Value} (r : Rv S a v) (hs : a.solid = true) (off : Nat)
    (hb : off + a.cells.length ≤ cs.length) :
    Cs S (spliceC cs off a.cells) (v.cells.zipIdx.foldl (fun cs (c, j) => cs.setIfInBounds (off + j) c) vs) := by
  obtain ⟨h1, h2⟩ := h
  obtain ⟨c1, c2⟩ := r.cells hs
  have key := foldl_set_get (fun _ => undef) v.cells.toList 0 off vs
  have e : v.cells.zipIdx.foldl (fun cs (c, j) => cs.setIfInBounds (off + j) c) vs = (v.cells.toList.zipIdx 0).foldl (fun (cs : Array Value) (p : Value × Nat) => cs.setIfInBounds (off + p.2) p.1) vs := by
    rw [← Array.foldl_toList]
    simp [Array.toList_zipIdx]
  rw [e]
  have hl : (spliceC cs off a.cells).length = cs.length := by simp [spliceC]; omega
  refine ⟨by rw [hl, key.1]; exact h1, ?_⟩
  intro i c u hc hu
  have hi : i < cs.length := by rw [← hl]; exact (List.getElem?_eq_some_iff.1 hc).1
  rw [key.2 i (by omega)] at hu
  simp only [Nat.add_zero, Array.length_toList, Array.getElem?_toList] at hu
  unfold spliceC at hc
  by_cases h3 : i < off
  · rw [List.getElem?_append_left (by simp; omega), List.getElem?_take_of_lt h3] at hc
    rw [if_neg (by omega)] at hu
    exact h2 i c u hc hu
  · rw [List.getElem?_append_right (by simp; omega)] at hc
    have e1 : (List.take off cs).length = off := by simp; omega
    rw [e1] at hc
    by_cases h4 : i < off + a.cells.length
    · rw [List.getElem?_append_left (by omega)] at hc
      rw [if_pos (by omega)] at hu
      exact c2 _ c u hc hu
    · rw [List.getElem?_append_right (by omega), List.getElem?_drop] at hc
      rw [if_neg (by omega)] at hu
      have e2 : off + a.cells.length + (i - off - a.cells.length) = i := by omega
      rw [e2] at hc
      exact h2 i c u hc hu

/-- The parts of a value that is built. -/
theorem fill_ok (place : Nat → Option (Nat × Nat)) : ∀ (ps : List (Nat × AV)) (qs : List (Nat × Value)) (cs : List AV) (vs : Array Value) (r : List AV), Cs S cs vs →
    ps.length = qs.length → (∀ (i : Nat) (p : Nat × AV) (q : Nat × Value), ps[i]? = some p → qs[i]? = some q → p.1 = q.1 ∧ Rv S p.2 q.2) → fillC place cs ps = some r → ∃ us, Instr.fill place vs qs = some us ∧ Cs S r us
  | [], [], cs, vs, r, hc, _, _, h => by
    cases h
    exact ⟨vs, rfl, hc⟩
  | [], _ :: _, _, _, _, _, hl, _, _ => by simp at hl
  | _ :: _, [], _, _, _, _, hl, _, _ => by simp at hl
  | (i, a) :: ps, (j, v) :: qs, cs, vs, r, hc, hl, hp, h => by
    obtain ⟨e, hv⟩ := hp 0 (i, a) (j, v) rfl rfl
    simp only at e hv
    subst e
    unfold fillC at h
    split at h
    · cases h
    · rename_i off size hpl
      split at h
      · rename_i hb
        simp only [Bool.and_eq_true, Nat.beq_eq, Nat.ble_eq] at hb
        obtain ⟨⟨h1, h2⟩, h3⟩ := hb
        have hcs := (hv.cells h1).1
        have hc' := hc.splice hv h1 off (by omega)
        obtain ⟨us, h4, h5⟩ := fill_ok place ps qs _ _ r hc' (by simpa using hl) (fun i p q h4 h5 => hp (i + 1) p q h4 h5) h
        refine ⟨us, ?_, h5⟩
        unfold Instr.fill
        rw [hpl]
        simp only
        rw [if_neg]
        · exact h4
        · have := hc.1
          simp; omega
      · cases h

end
end Gm
