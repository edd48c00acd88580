/- Operations that look at the heap, or change it: first part. -/
import Derived.Test.YtbhgalddlkebgaaDoorGmM
namespace Gm
open Go

theorem oneC_ok {S : Sit} {a : AV} {v : Value} (h : oneC a = true) (r : Rv S a v) : v.oneCell' = true := by
  cases r <;> first | rfl | (simp [oneC] at h)

def World.put (w : World) (B : Nat) (o : Obj) : World := { w with heap := w.heap.setIfInBounds B o }

theorem put_get (w : World) (B C : Nat) (o : Obj) (h : B < w.heap.size) : (World.put w B o).heap[C]? = if C = B then some o else w.heap[C]? := by
  unfold World.put
  simp only [Array.getElem?_setIfInBounds]
  by_cases e : C = B
  · subst e; simp [h]
  · rw [if_neg (fun x => e x.symm), if_neg e]

theorem put_size (w : World) (B : Nat) (o : Obj) : (World.put w B o).heap.size = w.heap.size := by simp [World.put]

theorem setCell_put {w : World} {B k : Nat} {c : Array Value} {e : TypeId} {fz : Nat × Nat} (v : Value) (h : w.heap[B]? = some (.cells c e fz)) :
    w.setCell (at_ B k) v = World.put w B (.cells (c.setIfInBounds k v) e fz) := by
  have hB := heap_lt h
  have e2 : (w.setCell (at_ B k) v).heap = (World.put w B (.cells (c.setIfInBounds k v) e fz)).heap := by
    apply Array.ext
    · simp [World.setCell, World.put]
    · intro i h1 h2
      have h3 : (w.setCell (at_ B k) v).heap[i]? = (World.put w B (.cells (c.setIfInBounds k v) e fz)).heap[i]? := by
        rw [put_get w B i _ hB]
        simp only [World.setCell, Array.getElem?_modify, at_]
        by_cases e : B = i
        · subst e; simp [h]
        · rw [if_neg e, if_neg (fun x => e x.symm)]
      rw [Array.getElem?_eq_getElem h1, Array.getElem?_eq_getElem h2] at h3
      exact Option.some.inj h3
  unfold World.put at e2 ⊢
  unfold World.setCell at e2 ⊢
  simp only at e2 ⊢
  rw [e2]

theorem put_put (w : World) (B : Nat) (o o' : Obj) : World.put (World.put w B o) B o' = World.put w B o' := by
  simp [World.put, Array.setIfInBounds_setIfInBounds]

theorem put_self {w : World} {B : Nat} {o : Obj} (h : w.heap[B]? = some o) : World.put w B o = w := by
  have hB := heap_lt h
  have : w.heap.setIfInBounds B o = w.heap := by
    apply Array.ext
    · simp
    · intro i h1 h2
      have h3 : (w.heap.setIfInBounds B o)[i]? = w.heap[i]? := by
        simp only [Array.getElem?_setIfInBounds]
        by_cases e : B = i
        · subst e; simp only [hB, if_true]; exact h.symm
        · rw [if_neg e]
      rw [Array.getElem?_eq_getElem h1, Array.getElem?_eq_getElem h2] at h3
      exact Option.some.inj h3
  unfold World.put
  rw [this]

theorem run_storeC (P : Program) (B o : Nat) (e : TypeId) (fz : Nat × Nat) : ∀ (vs : List Value) (i : Nat) (cur : Array Value) (w : World), w.heap[B]? = some (.cells cur e fz) →
    (∀ j, o + i ≤ j → j < o + i + vs.length → ¬ (fz.1 ≤ j ∧ j < fz.2)) → o + i + vs.length ≤ cur.size → (∀ v ∈ vs, v.oneCell' = true) →
    ∃ cur' : Array Value, (storeCells (at_ B o) vs i).run P w = Result.ok () (World.put w B (.cells cur' e fz)) ∧ cur'.size = cur.size ∧
      ∀ k : Nat, cur'[k]? = if o + i ≤ k ∧ k < o + i + vs.length then vs[k - (o + i)]? else cur[k]?
  | [], i, cur, w, h, _, _, _ => by
    refine ⟨cur, ?_, rfl, fun k => ?_⟩
    · rw [put_self h]; rfl
    · rw [if_neg (by simp <;> omega)]
  | v :: vs, i, cur, w, h, hf, hl, h1 => by
    have hi : o + i < cur.size := by simp at hl; omega
    have hB := heap_lt h
    have hc : w.cell? (at_ B (o + i)) = some cur[o + i] := by rw [cell_at, h]; simp [hi]
    have hfr : w.frozen? (at_ B (o + i)) = false := by
      have := hf (o + i) (Nat.le_refl _) (by simp)
      obtain ⟨lo, hi'⟩ := fz
      simp only [World.frozen?, at_, h]
      simp only at this
      rw [Bool.eq_false_iff]
      intro hh
      rw [Bool.and_eq_true] at hh
      exact this ⟨of_decide_eq_true hh.1, of_decide_eq_true hh.2⟩
    have hst : (store ((at_ B o).add i) v).run P w = Result.ok () (World.put w B (.cells (cur.setIfInBounds (o + i) v) e fz)) := by
      rw [add_at, run_store P w _ v _ (h1 v (by simp)), hc]
      simp [hfr, setCell_put v h]
    obtain ⟨cur', h2, h3, h4⟩ := run_storeC P B o e fz vs (i + 1) (cur.setIfInBounds (o + i) v) (World.put w B (.cells (cur.setIfInBounds (o + i) v) e fz))
      (by rw [put_get _ _ _ _ hB, if_pos rfl]) (fun j hj1 hj2 => hf j (by omega) (by simp at hj2 ⊢; omega)) (by simp at hl ⊢; omega) (fun x hx => h1 x (by simp [hx]))
    refine ⟨cur', ?_, by simpa using h3, fun k => ?_⟩
    · simp only [storeCells, Sem.run_bind, hst, Result.andThen_ok, h2, put_put]
    · rw [h4 k]
      by_cases e1 : k = o + i
      · subst e1
        rw [if_neg (by omega), if_pos (by simp)]
        simp [hi]
      · by_cases e2 : o + i ≤ k ∧ k < o + i + (v :: vs).length
        · rw [if_pos e2, if_pos (by simp at e2; omega)]
          have : k - (o + i) = (k - (o + (i + 1))) + 1 := by omega
          rw [this]; rfl
        · rw [if_neg e2, if_neg (by simp at e2 ⊢; omega)]
          rw [Array.getElem?_setIfInBounds_ne (by omega)]

/-- A block of which nothing turned. -/
theorem RB.keep {S T : Sit} (h : Le S T) {b : Nat} {k : Blk} (hG : T.G b = S.G b) (hh : ∀ B, k ≠ .dead → (S.G b).blk = some B → T.w.heap[B]? = S.w.heap[B]?)
    (hF : ∀ B o, k ≠ .dead → (S.G b).blk = some B → T.F B o → S.F B o) (r : RB S b k) : RB T b k := by
  cases k with
  | dead => trivial
  | cells cs =>
    obtain ⟨B, c, e, fz, hB, hp, h1, h2, h3, h4⟩ := r
    refine ⟨B, c, e, fz, by rw [hG]; exact hB, by rw [hh B (by simp) hB]; exact hp, h1, h2, fun i a v ha hv => (h3 i a v ha hv).mono h, ?_⟩
    exact fun o hf => h4 o (hF B o (by simp) hB hf)
  | row ro t xs =>
    obtain ⟨h1, h2, h3⟩ := r
    refine ⟨by rw [hG]; exact h1, by rw [hG]; exact h2, ?_⟩
    rw [hG]
    rcases h3 with h3 | ⟨B, c, e, fz, hB, hp, h4, h5, h6, h7, h8⟩
    · exact .inl h3
    · exact .inr ⟨B, c, e, fz, hB, by rw [hh B (by simp) hB]; exact hp, h4, h5, h6, fun i x j a v hx ha hv => (h7 i x j a v hx ha hv).mono h, fun o hf => h8 o (hF B o (by simp) hB hf)⟩

section
variable {E : Env} {S : Sit} {K : AV → Prop} {w0 : World} {A : Ow} {hs : HS}

theorem RH.block {b : Nat} {k : Blk} (r : RH w0 A S hs) (h : hs.hp b = k) : RB S b k := h ▸ r.blks b

theorem load_ptr {t : TypeId} {b i : Nat} {cs : List AV} {a : AV} {v : Value} (r : RH w0 A S hs) (hb : hs.hp b = .cells cs) (hp : partC E t cs i = some a) (rv : Rv S (.ptr b i) v) :
    Ans E.P S (Instr.loadAt t v) (fun x => x = a) := by
  obtain ⟨B, c, e, fz, hB, hh, h1, h2, h3, h4⟩ := r.block hb
  cases rv with
  | ptr _ _ B' _ hB' =>
    rw [hB] at hB'
    cases hB'
    obtain ⟨v, h5, h6⟩ := load_ok (S := S) (B := B) (f := 0) (fun k => c.getD k undef) hp (fun i hi => by
      rw [Nat.zero_add, cell_at, hh]
      simp [Array.getD, show i < c.size by omega]) (fun i a' ha => by
        have hi : i < cs.length := (List.getElem?_eq_some_iff.1 ha).1
        have hc : c[i]? = some c[i] := Array.getElem?_eq_getElem (by omega)
        have := h3 i a' c[i] ha hc
        simpa [Array.getD, show i < c.size by omega] using this)
    rw [Nat.zero_add] at h5
    exact Ans.here (by simp [Instr.loadAt, Instr.sureAddr, h5]) h6 rfl

theorem load_elt {t : TypeId} {b j i : Nat} {ro : Bool} {t' : Ty} {xs : List t'.den} {x : t'.den} {a : AV} {v : Value} (r : RH w0 A S hs) (hb : hs.hp b = .row ro t' xs) (hx : xs[j]? = some x)
    (hp : partC E t (enc t' x).cells i = some a) (rv : Rv S (.elt b j i) v) : Ans E.P S (Instr.loadAt t v) (fun y => y = a) := by
  obtain ⟨h1, h2, h3⟩ := r.block hb
  cases rv with
  | elt _ _ _ B' _ _ hB' =>
    rcases h3 with ⟨h3, _⟩ | ⟨B, c, e, fz, hB, hh, h4, h5, h6, h7, h8⟩
    · rw [h3] at hB'; cases hB'
    · rw [hB] at hB'
      cases hB'
      have hj : j < xs.length := (List.getElem?_eq_some_iff.1 hx).1
      have hsz : j * t'.sz + t'.sz ≤ c.size := by
        have : (j + 1) * t'.sz ≤ (S.G b).cap * t'.sz := Nat.mul_le_mul_right _ (by omega)
        rw [Nat.add_mul, Nat.one_mul] at this
        omega
      have hl := enc_cells_length t' x
      obtain ⟨v, h9, h10⟩ := load_ok (S := S) (B := B') (f := j * t'.sz) (fun k => c.getD (j * t'.sz + k) undef) hp (fun i hi => by
        rw [cell_at, hh]
        simp [Array.getD, show j * t'.sz + i < c.size by omega]) (fun i a' ha => by
          have hi : i < (enc t' x).cells.length := (List.getElem?_eq_some_iff.1 ha).1
          have hc : c[j * t'.sz + i]? = some c[j * t'.sz + i] := Array.getElem?_eq_getElem (by omega)
          have := h7 j x i a' _ hx ha hc
          simpa [Array.getD, show j * t'.sz + i < c.size by omega] using this)
      rw [h2]
      exact Ans.here (by simp [Instr.loadAt, Instr.sureAddr, h9]) h10 rfl

/-- A row, as the machine has it. -/
theorem slr_val {b : Nat} {ro : Bool} {t' : Ty} {xs : List t'.den} {v : Value} (r : RH w0 A S hs) (hb : hs.hp b = .row ro t' xs) (rv : Rv S (.slr b) v) :
    (∃ a, v = .slice a 0 0 ∧ xs = [] ∧ (S.G b).blk = none) ∨ ∃ B c e fz, v = .slice (some (at_ B 0)) xs.length (S.G b).cap ∧ b < S.N ∧ (S.G b).blk = some B ∧ S.w.heap[B]? = some (.cells c e fz) ∧ xs.length ≤ (S.G b).cap ∧ (S.G b).cap * t'.sz ≤ c.size ∧
        (∀ o, o < (S.G b).cap * t'.sz → ¬ (fz.1 ≤ o ∧ o < fz.2)) ∧
        (∀ (i : Nat) x (j : Nat) a v, xs[i]? = some x → (enc t' x).cells[j]? = some a → c[i * t'.sz + j]? = some v → Rv S a v) ∧
        (∀ o, S.F B o → ro = true ∧ o < xs.length * t'.sz) := by
  obtain ⟨h1, h2, h3⟩ := r.block hb
  cases rv with
  | slr _ B' hN hB' =>
    rcases h3 with ⟨h3, _⟩ | ⟨B, c, e, fz, hB, hh, h4, h5, h6, h7, h8⟩
    · rw [h3] at hB'; cases hB'
    · rw [hB] at hB'
      cases hB'
      rw [h1]
      exact .inr ⟨_, c, e, fz, rfl, hN, hB, hh, h4, h5, h6, h7, h8⟩
  | slrN _ a hN hn hl hc =>
    rcases h3 with ⟨h3, h4, h5⟩ | ⟨B, c, e, fz, hB, _⟩
    · exact .inl ⟨a, rfl, h4, h3⟩
    · rw [hn] at hB; cases hB

end
end Gm
