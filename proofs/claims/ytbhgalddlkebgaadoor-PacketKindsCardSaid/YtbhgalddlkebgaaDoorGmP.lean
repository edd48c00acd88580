/- Operations that look at the heap, or change it: third part, stores. -/
import Derived.Test.YtbhgalddlkebgaaDoorGmO
namespace Gm
open Go

section
variable {E : Env} {S : Sit} {w0 : World} {A : Ow} {hs : HS}

/-- One block turned. -/
theorem RH.set (r : RH w0 A S hs) {b B : Nat} {o : Obj} {k : Blk} (hd : hs.hp b ≠ .dead) (hB : (S.G b).blk = some B) (hle : Le S { S with w := World.put S.w B o })
    (hk : RB { S with w := World.put S.w B o } b k) : RH w0 A { S with w := World.put S.w B o } { hs with hp := upd hs.hp b k } := by
  have hlt := r.alive_lt hd hB
  have hbn : b < hs.hn := Nat.lt_of_not_le fun h => hd (r.dead b h)
  have live : ∀ x, upd hs.hp b k x ≠ .dead → hs.hp x ≠ .dead := by
    intro x hx
    by_cases e : x = b
    · rw [e]; exact hd
    · rwa [upd_ne _ _ e] at hx
  exact {
    N := r.N
    dead := fun x (hx : hs.hn ≤ x) => by
      show upd hs.hp b k x = .dead
      rw [upd_ne _ _ (by omega)]
      exact r.dead x hx
    blks := fun x => by
      show RB _ x (upd hs.hp b k x)
      by_cases e : x = b
      · subst e; rw [upd_self]; exact hk
      · rw [upd_ne _ _ e]
        refine RB.keep hle rfl ?_ (fun B o _ _ h => h) (r.blks x)
        intro C hx hC
        show (World.put S.w B o).heap[C]? = _
        rw [put_get _ _ _ _ hlt, if_neg]
        rintro rfl
        exact r.inj x b C e hx hd hC hB
    inj := fun x y C hne hx hy hC => r.inj x y C hne (live x hx) (live y hy) hC
    F := fun C o h => by
      show C < (World.put S.w B _).heap.size
      rw [put_size]
      exact r.F C o h
    os := r.os
    tape := r.tape
    output := r.output
    size := by
      show _ ≤ (World.put S.w B _).heap.size
      rw [put_size]
      exact r.size
    old := fun C hC hA => by
      show (World.put S.w B _).heap[C]? = _
      rw [put_get _ _ _ _ hlt, if_neg]
      · exact r.old C hC hA
      · rintro rfl
        rcases r.own b C hd hB with h | h
        · exact hA h
        · omega
    own := fun x C hx hC => r.own x C (live x hx) hC
    fo := r.fo }

/-- A store that hits no frozen cell. -/
theorem Le.put {B : Nat} {c c' : Array Value} {e : TypeId} {fz : Nat × Nat} (hh : S.w.heap[B]? = some (.cells c e fz)) (h : ∀ o, S.F B o → c'[o]? = c[o]?) :
    Le S { S with w := World.put S.w B (.cells c' e fz) } where
  F := fun _ _ h => h
  cell := fun C o v hF hc => by
    rw [cell_at] at hc ⊢
    show (match (World.put S.w B _).heap[C]? with | some (.cells c _ _) => c[o]? | _ => none) = some v
    rw [put_get _ _ _ _ (heap_lt hh)]
    by_cases e : C = B
    · subst e
      rw [hh] at hc
      rw [if_pos rfl]
      show c'[o]? = some v
      rw [h o hF]
      exact hc
    · rw [if_neg e]
      exact hc
  G := fun _ _ => rfl
  N := Nat.le_refl _

theorem cells_list {a : AV} {v : Value} (hv : Rv S a v) (hs1 : a.solid = true) (h1 : a.cells.all oneC = true) : ∀ u ∈ v.cells.toList, u.oneCell' = true := by
  intro u hu
  obtain ⟨i, hi, rfl⟩ := List.getElem_of_mem hu
  have hc := hv.cells hs1
  have hi' : i < a.cells.length := by simp at hi; omega
  have h2 := hc.2 i a.cells[i] v.cells.toList[i] (List.getElem?_eq_getElem hi') (by rw [← Array.getElem?_toList]; exact List.getElem?_eq_getElem hi)
  exact oneC_ok (List.all_eq_true.1 h1 _ (List.getElem_mem hi')) h2

theorem store_ptr {t : TypeId} {b i z : Nat} {cs : List AV} {a : AV} {p v : Value} (r : RH w0 A S hs) (hb : hs.hp b = .cells cs) (hz : szT E t = some z) (hs1 : a.solid = true) (h1 : a.cells.all oneC = true)
    (hlen : a.cells.length = z) (hi : i + z ≤ cs.length) (rp : Rv S (.ptr b i) p) (rv : Rv S a v) :
    ∃ T, (Instr.storeAt t p v).run E.P S.w = Result.ok () T.w ∧ Le S T ∧ RH w0 A T { hs with hp := upd hs.hp b (.cells (spliceC cs i a.cells)) } := by
  obtain ⟨B, c, e, fz, hB, hh, c1, c2, c3, c4⟩ := r.block hb
  have hc := rv.cells hs1
  cases rp with
  | ptr _ _ B' _ hB' =>
    rw [hB] at hB'
    cases hB'
    obtain ⟨c', h2, h3, h4⟩ := run_storeC E.P B i e fz v.cells.toList 0 c S.w hh (fun j _ hj => c2 j (by simp at hj; omega)) (by simp; omega) (cells_list rv hs1 h1)
    have hle : Le S { S with w := World.put S.w B (.cells c' e fz) } := Le.put hh (fun o hF => (c4 o hF).elim)
    refine ⟨{ S with w := World.put S.w B (.cells c' e fz) }, ?_, hle, ?_⟩
    · unfold Instr.storeAt storeVar
      simp only [Instr.sureAddr, Sem.run_bind, Sem.run_pure, Result.andThen_ok, run_sizeT hz]
      rw [if_neg (by simp; omega)]
      exact h2
    · refine r.set (by rw [hb]; simp) hB hle ?_
      have hl : (spliceC cs i a.cells).length = cs.length := by simp [spliceC]; omega
      have hBlt := heap_lt hh
      refine ⟨B, c', e, fz, hB, by show (World.put S.w B _).heap[B]? = _; rw [put_get _ _ _ _ hBlt, if_pos rfl], by rw [h3, c1, hl], fun o ho => c2 o (by rw [hl] at ho; exact ho), ?_, c4⟩
      intro k x u hx hu
      have hk : k < cs.length := by rw [← hl]; exact (List.getElem?_eq_some_iff.1 hx).1
      rw [h4 k] at hu
      simp only [Nat.add_zero, Array.length_toList, Array.getElem?_toList] at hu
      refine Rv.mono hle ?_
      unfold spliceC at hx
      by_cases k1 : k < i
      · rw [List.getElem?_append_left (by simp; omega), List.getElem?_take_of_lt k1] at hx
        rw [if_neg (by omega)] at hu
        exact c3 k x u hx hu
      · rw [List.getElem?_append_right (by simp; omega)] at hx
        have e1 : (List.take i cs).length = i := by simp; omega
        rw [e1] at hx
        by_cases k2 : k < i + a.cells.length
        · rw [List.getElem?_append_left (by omega)] at hx
          rw [if_pos (by omega)] at hu
          exact hc.2 _ x u hx hu
        · rw [List.getElem?_append_right (by omega), List.getElem?_drop] at hx
          rw [if_neg (by omega)] at hu
          have e2 : i + a.cells.length + (k - i - a.cells.length) = k := by omega
          rw [e2] at hx
          exact c3 k x u hx hu

theorem enc_solid (t : Ty) (x : t.den) : (enc t x).solid = true := by cases t <;> rfl

theorem encS_one : ∀ (n : Nat) (x : denS n), (encS n x).all oneC = true
  | 0, _ | 1, _ | 2, _ | 3, _ | 4, _ | 5, _ | 6, _ | 7, _ => rfl
  | _ + 8, _ => rfl

theorem enc_one (t : Ty) (x : t.den) : (enc t x).cells.all oneC = true := by
  cases t with
  | st n => exact encS_one n x
  | _ => rfl

theorem store_elt {t : TypeId} {b j z : Nat} {t' : Ty} {xs : List t'.den} {y : t'.den} {a : AV} {p v : Value} (r : RH w0 A S hs) (hb : hs.hp b = .row false t' xs) (hz : szT E t = some z) (hzt : z = t'.sz)
    (hd : dec t' a = some y) (rp : Rv S (.elt b j 0) p) (rv : Rv S a v) :
    ∃ T, (Instr.storeAt t p v).run E.P S.w = Result.ok () T.w ∧ Le S T ∧ RH w0 A T { hs with hp := upd hs.hp b (.row false t' (xs.set j y)) } := by
  obtain ⟨g1, g2, g3⟩ := r.block hb
  have ry := rv.dec hd
  have hc := ry.cells (enc_solid t' y)
  have hyl := enc_cells_length t' y
  cases rp with
  | elt _ _ _ B' _ hj0 hB' =>
    have hj : j < xs.length := by rw [← g1]; exact hj0
    rcases g3 with ⟨g3, _⟩ | ⟨B, c, e, fz, hB, hh, g4, g5, g6, g7, g8⟩
    · rw [g3] at hB'; cases hB'
    · rw [hB] at hB'
      cases hB'
      rw [g2]
      have hjz : j * t'.sz + t'.sz ≤ (S.G b).cap * t'.sz := by
        have : (j + 1) * t'.sz ≤ (S.G b).cap * t'.sz := Nat.mul_le_mul_right _ (by omega)
        rw [Nat.add_mul, Nat.one_mul] at this
        exact this
      obtain ⟨c', h2, h3, h4⟩ := run_storeC E.P B' (j * t'.sz + 0) e fz v.cells.toList 0 c S.w hh (fun k _ hk => g6 k (by simp at hk; omega)) (by simp; omega) (cells_list ry (enc_solid t' y) (enc_one t' y))
      have hle : Le S { S with w := World.put S.w B' (.cells c' e fz) } := Le.put hh (fun o hF => by have := (g8 o hF).1; simp at this)
      refine ⟨{ S with w := World.put S.w B' (.cells c' e fz) }, ?_, hle, ?_⟩
      · unfold Instr.storeAt storeVar
        simp only [Instr.sureAddr, Sem.run_bind, Sem.run_pure, Result.andThen_ok, run_sizeT hz]
        rw [if_neg (by simp; omega)]
        exact h2
      · refine r.set (by rw [hb]; simp) hB hle ?_
        have hBlt := heap_lt hh
        refine ⟨by simpa using g1, g2, .inr ⟨B', c', e, fz, hB, by show (World.put S.w B' _).heap[B']? = _; rw [put_get _ _ _ _ hBlt, if_pos rfl], by simpa using g4, by rw [h3]; exact g5, g6, ?_, ?_⟩⟩
        · intro i x k q u hx hq hu
          have hk : k < t'.sz := by
            have := (List.getElem?_eq_some_iff.1 hq).1
            rw [enc_cells_length] at this
            exact this
          rw [h4] at hu
          simp only [Nat.add_zero, Array.length_toList, Array.getElem?_toList] at hu
          refine Rv.mono hle ?_
          rw [List.getElem?_set] at hx
          by_cases e1 : j = i
          · subst e1
            rw [if_pos rfl, if_pos hj] at hx
            cases hx
            rw [if_pos (by omega)] at hu
            have e2 : j * t'.sz + k - j * t'.sz = k := by omega
            rw [e2] at hu
            exact hc.2 k q u hq hu
          · rw [if_neg e1] at hx
            rw [if_neg] at hu
            · exact g7 i x k q u hx hq hu
            · intro hcon
              rcases Nat.lt_or_gt_of_ne e1 with h | h
              · have : (j + 1) * t'.sz ≤ i * t'.sz := Nat.mul_le_mul_right _ h
                rw [Nat.add_mul, Nat.one_mul] at this
                omega
              · have : (i + 1) * t'.sz ≤ j * t'.sz := Nat.mul_le_mul_right _ h
                rw [Nat.add_mul, Nat.one_mul] at this
                omega
        · intro o hF
          have := (g8 o hF).1
          simp at this

/-- A row's cells come to be frozen. -/
def Sit.frz (S : Sit) (b n : Nat) : Sit := { S with F := fun B o => S.F B o ∨ ((S.G b).blk = some B ∧ o < n) }

theorem Le.frz (S : Sit) (b n : Nat) : Le S (S.frz b n) := ⟨fun _ _ h => .inl h, fun _ _ _ _ h => h, fun _ _ => rfl, Nat.le_refl _⟩

theorem Le.frz_cell (S : Sit) (b n : Nat) : ∀ B o v, S.w.cell? (at_ B o) = some v → (S.frz b n).w.cell? (at_ B o) = some v := fun _ _ _ h => h

theorem RH.frz (r : RH w0 A S hs) {b : Nat} {ro : Bool} {t : Ty} {xs : List t.den} (hb : hs.hp b = .row ro t xs) :
    RH w0 A (S.frz b (xs.length * t.sz)) { hs with hp := upd hs.hp b (.row true t xs) } := by
  have hd : hs.hp b ≠ .dead := by rw [hb]; simp
  have hbn : b < hs.hn := Nat.lt_of_not_le fun h => hd (r.dead b h)
  have live : ∀ x, upd hs.hp b (.row true t xs) x ≠ .dead → hs.hp x ≠ .dead := by
    intro x hx
    by_cases e : x = b
    · rw [e]; exact hd
    · rwa [upd_ne _ _ e] at hx
  exact {
    N := r.N
    dead := fun x (hx : hs.hn ≤ x) => by
      show upd hs.hp b _ x = .dead
      rw [upd_ne _ _ (by omega)]
      exact r.dead x hx
    blks := fun x => by
      show RB _ x (upd hs.hp b _ x)
      by_cases e : x = b
      · subst e
        rw [upd_self]
        obtain ⟨g1, g2, g3⟩ := r.block hb
        refine ⟨g1, g2, ?_⟩
        rcases g3 with g3 | ⟨B, c, e, fz, hB, hh, g4, g5, g6, g7, g8⟩
        · exact .inl g3
        · refine .inr ⟨B, c, e, fz, hB, hh, g4, g5, g6, fun i x j a v hx ha hv => (g7 i x j a v hx ha hv).mono (Le.frz S _ _), ?_⟩
          intro o hF
          rcases hF with hF | ⟨_, hF⟩
          · exact ⟨rfl, (g8 o hF).2⟩
          · exact ⟨rfl, hF⟩
      · rw [upd_ne _ _ e]
        refine RB.keep (Le.frz S _ _) rfl (fun _ _ _ => rfl) ?_ (r.blks x)
        intro C o hx hC hF
        rcases hF with hF | ⟨hF, _⟩
        · exact hF
        · exact absurd hF (r.inj x b C e hx hd hC)
    inj := fun x y C hne hx hy hC => r.inj x y C hne (live x hx) (live y hy) hC
    F := fun C o h => by
      rcases h with h | ⟨h, _⟩
      · exact r.F C o h
      · exact r.alive_lt hd h
    os := r.os
    tape := r.tape
    output := r.output
    size := r.size
    old := r.old
    own := fun x C hx hC => r.own x C (live x hx) hC
    fo := fun C o hF hC hA => by
      rcases hF with hF | ⟨hF, _⟩
      · exact r.fo C o hF hC hA
      · rcases r.own b C hd hF with h | h
        · exact absurd h hA
        · omega }

/-- What a frozen row reads as. -/
theorem frz_val (r : RH w0 A S hs) {b : Nat} {ro : Bool} {t : Ty} {xs : List t.den} {v : Value} (hb : hs.hp b = .row ro t xs) (rv : Rv S (.slr b) v) : Rv (S.frz b (xs.length * t.sz)) (.sl .any t xs) v := by
  rcases slr_val r hb rv with ⟨a, rfl, rfl, _⟩ | ⟨B, c, e, fz, rfl, _, hB, hh, g4, g5, g6, g7, g8⟩
  · cases a with
    | none => exact .slN _ _ (by simp)
    | some a => exact .slE _ _ _ _ (by simp)
  · have hle : xs.length * t.sz ≤ c.size := Nat.le_trans (Nat.mul_le_mul_right _ g4) g5
    refine .sl _ _ xs B 0 _ (fun k => c.getD k undef) g4 (by simp) (fun k hk => .inr ⟨hB, by omega⟩) ?_ ?_
    · intro k hk
      show S.w.cell? _ = _
      rw [Nat.zero_add, cell_at, hh]
      simp [Array.getD, show k < c.size by omega]
    · intro i x j q hx hq
      have hi : i < xs.length := (List.getElem?_eq_some_iff.1 hx).1
      have hj : j < t.sz := by
        have := (List.getElem?_eq_some_iff.1 hq).1
        rw [enc_cells_length] at this
        exact this
      have hk : i * t.sz + j < c.size := by
        have : (i + 1) * t.sz ≤ xs.length * t.sz := Nat.mul_le_mul_right _ (by omega)
        rw [Nat.add_mul, Nat.one_mul] at this
        omega
      have := g7 i x j q c[i * t.sz + j] hx hq (Array.getElem?_eq_getElem hk)
      simp only [Array.getD, hk, dif_pos]
      exact this.mono (Le.frz S _ _)

end
end Gm
