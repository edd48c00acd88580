/- The heap's relation; answers of operations that hang on their operands alone. -/
import Derived.Test.YtbhgalddlkebgaaDoorGmC
import Derived.Laws.Cells
namespace Gm
open Go

theorem cell_at (w : World) (B o : Nat) : w.cell? (at_ B o) = match w.heap[B]? with | some (.cells c _ _) => c[o]? | _ => none := by
  unfold World.cell? at_
  dsimp only
  split <;> simp_all

def RB (S : Sit) (b : Nat) : Blk → Prop
  | .dead => True
  | .cells cs => ∃ B c e fz, (S.G b).blk = some B ∧ S.w.heap[B]? = some (.cells c e fz) ∧ c.size = cs.length ∧ (∀ o, o < cs.length → ¬ (fz.1 ≤ o ∧ o < fz.2)) ∧
      (∀ (i : Nat) a v, cs[i]? = some a → c[i]? = some v → Rv S a v) ∧ (∀ o, ¬ S.F B o)
  | .row ro t xs => (S.G b).len = xs.length ∧ (S.G b).esz = t.sz ∧ (((S.G b).blk = none ∧ xs = [] ∧ (S.G b).cap = 0) ∨
      ∃ B c e fz, (S.G b).blk = some B ∧ S.w.heap[B]? = some (.cells c e fz) ∧ xs.length ≤ (S.G b).cap ∧ (S.G b).cap * t.sz ≤ c.size ∧
        (∀ o, o < (S.G b).cap * t.sz → ¬ (fz.1 ≤ o ∧ o < fz.2)) ∧
        (∀ (i : Nat) x (j : Nat) a v, xs[i]? = some x → (enc t x).cells[j]? = some a → c[i * t.sz + j]? = some v → Rv S a v) ∧
        (∀ o, S.F B o → ro = true ∧ o < xs.length * t.sz))

/-- The old blocks that are held, and what was frozen at first. -/
structure Ow where
  own : Nat → Prop
  fz : Nat → Nat → Prop

structure RH (w0 : World) (A : Ow) (S : Sit) (hs : HS) : Prop where
  N : S.N = hs.hn
  dead : ∀ b, hs.hn ≤ b → hs.hp b = .dead
  blks : ∀ b, RB S b (hs.hp b)
  inj : ∀ b c B, b ≠ c → hs.hp b ≠ .dead → hs.hp c ≠ .dead → (S.G b).blk = some B → (S.G c).blk ≠ some B
  F : ∀ B o, S.F B o → B < S.w.heap.size
  os : S.w.os = w0.os
  tape : S.w.tape = w0.tape
  output : S.w.output = w0.output
  size : w0.heap.size ≤ S.w.heap.size
  old : ∀ B, B < w0.heap.size → ¬ A.own B → S.w.heap[B]? = w0.heap[B]?
  own : ∀ b B, hs.hp b ≠ .dead → (S.G b).blk = some B → A.own B ∨ w0.heap.size ≤ B
  fo : ∀ B o, S.F B o → B < w0.heap.size → ¬ A.own B → A.fz B o

/-- New blocks at most. -/
structure Ext (S T : Sit) : Prop where
  le : Le S T
  G : T.G = S.G
  N : T.N = S.N
  os : T.w.os = S.w.os
  tape : T.w.tape = S.w.tape
  output : T.w.output = S.w.output
  size : S.w.heap.size ≤ T.w.heap.size
  old : ∀ B, B < S.w.heap.size → T.w.heap[B]? = S.w.heap[B]?
  F : ∀ B o, T.F B o → S.F B o ∨ (S.w.heap.size ≤ B ∧ B < T.w.heap.size)

theorem Ext.refl (S : Sit) : Ext S S := ⟨.refl _, rfl, rfl, rfl, rfl, rfl, Nat.le_refl _, fun _ _ => rfl, fun _ _ h => .inl h⟩

theorem Ext.trans {S T U : Sit} (h : Ext S T) (k : Ext T U) : Ext S U where
  le := h.le.trans k.le
  G := k.G.trans h.G
  N := k.N.trans h.N
  os := k.os.trans h.os
  tape := k.tape.trans h.tape
  output := k.output.trans h.output
  size := Nat.le_trans h.size k.size
  old := fun B hB => (k.old B (Nat.lt_of_lt_of_le hB h.size)).trans (h.old B hB)
  F := fun B o hF => by
    rcases k.F B o hF with h1 | ⟨h1, h2⟩
    · rcases h.F B o h1 with h3 | ⟨h3, h4⟩
      · exact .inl h3
      · exact .inr ⟨h3, Nat.lt_of_lt_of_le h4 k.size⟩
    · exact .inr ⟨Nat.le_trans h.size h1, h2⟩

theorem heap_lt {w : World} {B : Nat} {o : Obj} (h : w.heap[B]? = some o) : B < w.heap.size := (Array.getElem?_eq_some_iff.1 h).1

theorem RB.ext {S T : Sit} (h : Ext S T) {b : Nat} {k : Blk} (r : RB S b k) : RB T b k := by
  cases k with
  | dead => trivial
  | cells cs =>
    obtain ⟨B, c, e, fz, hB, hh, h1, h2, h3, h4⟩ := r
    refine ⟨B, c, e, fz, by rw [h.G]; exact hB, by rw [h.old B (heap_lt hh)]; exact hh, h1, h2, fun i a v ha hv => (h3 i a v ha hv).mono h.le, ?_⟩
    intro o hF
    rcases h.F B o hF with h5 | ⟨h5, _⟩
    · exact h4 o h5
    · have := heap_lt hh; omega
  | row ro t xs =>
    obtain ⟨h1, h2, h3⟩ := r
    refine ⟨by rw [h.G]; exact h1, by rw [h.G]; exact h2, ?_⟩
    rw [h.G]
    rcases h3 with h3 | ⟨B, c, e, fz, hB, hh, h4, h5, h6, h7, h8⟩
    · exact .inl h3
    · refine .inr ⟨B, c, e, fz, hB, by rw [h.old B (heap_lt hh)]; exact hh, h4, h5, h6, fun i x j a v hx ha hv => (h7 i x j a v hx ha hv).mono h.le, ?_⟩
      intro o hF
      rcases h.F B o hF with h9 | ⟨h9, _⟩
      · exact h8 o h9
      · have := heap_lt hh; omega

theorem RH.ext {w0 : World} {A : Ow} {S T : Sit} {hs : HS} (h : Ext S T) (r : RH w0 A S hs) : RH w0 A T hs where
  N := h.N.trans r.N
  dead := r.dead
  blks := fun b => (r.blks b).ext h
  inj := by rw [h.G]; exact r.inj
  F := fun B o hF => by
    rcases h.F B o hF with h1 | ⟨_, h1⟩
    · exact Nat.lt_of_lt_of_le (r.F B o h1) h.size
    · exact h1
  os := h.os.trans r.os
  tape := h.tape.trans r.tape
  output := h.output.trans r.output
  size := Nat.le_trans r.size h.size
  old := fun B hB hA => (h.old B (Nat.lt_of_lt_of_le hB r.size)).trans (r.old B hB hA)
  own := by rw [h.G]; exact r.own
  fo := fun B o hF hB hA => by
    rcases h.F B o hF with h1 | ⟨h1, _⟩
    · exact r.fo B o h1 hB hA
    · exact absurd r.size (by omega)

/-- One draw more. -/
theorem Ext.drawn (S : Sit) (n : Nat) : Ext S { S with w := { S.w with drawn := n } } :=
  ⟨⟨fun _ _ h => h, fun _ _ _ _ h => h, fun _ _ => rfl, Nat.le_refl _⟩, rfl, rfl, rfl, rfl, rfl, Nat.le_refl _, fun _ _ => rfl, fun _ _ h => .inl h⟩

/-- A new block, all of it frozen. -/
def Sit.new (S : Sit) (o : Obj) : Sit := { S with w := { S.w with heap := S.w.heap.push o }, F := fun B k => S.F B k ∨ B = S.w.heap.size }

theorem Ext.new (S : Sit) (o : Obj) : Ext S (S.new o) where
  le := ⟨fun _ _ h => .inl h, fun B k v hF hc => by
      rw [cell_at] at hc ⊢
      have hB : B < S.w.heap.size := by
        cases hh : S.w.heap[B]? with
        | none => rw [hh] at hc; cases hc
        | some _ => exact heap_lt hh
      show (match (S.w.heap.push o)[B]? with | some (.cells c _ _) => c[k]? | _ => none) = some v
      rw [Array.getElem?_push, if_neg (by omega)]
      exact hc, fun _ _ => rfl, Nat.le_refl _⟩
  G := rfl
  N := rfl
  os := rfl
  tape := rfl
  output := rfl
  size := by simp [Sit.new]
  old := fun B hB => by
    show (S.w.heap.push o)[B]? = _
    rw [Array.getElem?_push, if_neg (by omega)]
  F := fun B k h => by
    rcases h with h | h
    · exact .inl h
    · subst h
      exact .inr ⟨Nat.le_refl _, by simp [Sit.new]⟩

/-- An operation's answer. -/
def Ans (P : Program) (S : Sit) (s : Sem Value) (K : AV → Prop) : Prop := ∃ v a T, s.run P S.w = .ok v T.w ∧ Ext S T ∧ Rv T a v ∧ K a

theorem Ans.here {P : Program} {S : Sit} {s : Sem Value} {K : AV → Prop} {v : Value} {a : AV} (h : s.run P S.w = .ok v S.w) (r : Rv S a v) (k : K a) : Ans P S s K :=
  ⟨v, a, S, h, .refl S, r, k⟩

section
variable {E : Env} {S : Sit}

theorem info_of {t : TypeId} {n : Nat} (h : szT E t = some n) : ∃ i, E.P.info? t = some i ∧ i.size = n := by
  unfold szT at h
  cases hi : E.P.info? t with
  | none => rw [hi] at h; cases h
  | some i => rw [hi] at h; exact ⟨i, rfl, by simpa using h⟩

theorem run_sizeT {t : TypeId} {n : Nat} (h : szT E t = some n) (w : World) : (Go.sizeOf t).run E.P w = Result.ok n w := by
  obtain ⟨i, hi, rfl⟩ := info_of h
  simp [Go.sizeOf, typeInfo, hi]

theorem run_undT {t : TypeId} {d : TypeDesc} (h : E.P.underlying t = some d) (w : World) : (underlying t).run E.P w = Result.ok d w := by
  simp [underlying, h]

theorem run_aggT {t : TypeId} {d : TypeDesc} (h : E.P.underlying t = some d) (w : World) : (isAgg t).run E.P w = Result.ok (aggD d) w := by
  unfold isAgg aggD
  simp only [Sem.run_bind, run_undT h, Result.andThen_ok]
  cases d <;> rfl

/-- A part of an aggregate. -/
theorem part_ok {t : TypeId} {cs : List AV} {vs : Array Value} {off : Nat} {a : AV} (h : partC E t cs off = some a)
    (hl : cs.length ≤ vs.size) (hr : ∀ (i : Nat) c v, cs[i]? = some c → vs[i]? = some v → Rv S c v) : ∃ v, (∀ w, (part t vs off).run E.P w = Result.ok v w) ∧ Rv S a v := by
  unfold partC at h
  split at h
  · rename_i n d hn hu
    split at h
    · rename_i hg
      split at h
      · rename_i hb
        cases h
        refine ⟨.agg (vs.extract off (off + n)), fun w => ?_, .agg _ _ ?_ ?_⟩
        · unfold part
          simp [run_aggT hu, hg, run_sizeT hn]
        · simp; omega
        · intro i c v hc hv
          simp only [List.getElem?_take, List.getElem?_drop] at hc
          rw [Array.getElem?_extract] at hv
          split at hc
          · split at hv
            · exact hr _ c v hc hv
            · cases hv
          · cases hc
      · cases h
    · rename_i hg
      have h1 : off < cs.length := (List.getElem?_eq_some_iff.1 h).1
      have h2 : vs[off]? = some vs[off] := Array.getElem?_eq_getElem (by omega)
      refine ⟨vs[off], fun w => ?_, hr off a _ h h2⟩
      unfold part
      simp [run_aggT hu, hg, h2]
  · cases h

/-- What is loaded of an address whose cells are known. -/
theorem load_ok {t : TypeId} {cs : List AV} {off B f : Nat} {a : AV} (val : Nat → Value) (h : partC E t cs off = some a)
    (hc : ∀ i, i < cs.length → S.w.cell? (at_ B (f + i)) = some (val i)) (hr : ∀ (i : Nat) c, cs[i]? = some c → Rv S c (val i)) :
    ∃ v, (loadVar t (at_ B (f + off))).run E.P S.w = Result.ok v S.w ∧ Rv S a v := by
  unfold partC at h
  split at h
  · rename_i n d hn hu
    split at h
    · rename_i hg
      split at h
      · rename_i hb
        cases h
        refine ⟨.agg ((List.range n).map fun j => val (off + j)).toArray, ?_, .agg _ _ ?_ ?_⟩
        · unfold loadVar
          simp only [Sem.run_bind, run_aggT hu, Result.andThen_ok, hg, if_true, run_sizeT hn]
          rw [run_loadCells S.w (at_ B (f + off)) n (fun j => val (off + j))]
          · rfl
          · intro j hj
            have e : (at_ B (f + off)).add j = at_ B (f + (off + j)) := by
              unfold Addr.add at_
              split
              · subst_vars; simp
              · simp; omega
            rw [e]
            exact hc _ (by omega)
        · simp; omega
        · intro i c v hc' hv
          simp only [List.getElem?_take, List.getElem?_drop] at hc'
          split at hc'
          · rename_i hi
            simp [List.getElem?_range hi] at hv
            subst hv
            exact hr _ c hc'
          · cases hc'
      · cases h
    · rename_i hg
      have h1 : off < cs.length := (List.getElem?_eq_some_iff.1 h).1
      refine ⟨val off, ?_, hr off a h⟩
      unfold loadVar
      simp only [Sem.run_bind, run_aggT hu, Result.andThen_ok, hg]
      simp [hc off h1]
  · cases h

end
end Gm
