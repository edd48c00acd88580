/- Operations that look at the heap, or change it: sixth part, append. -/
import Derived.Test.YtbhgalddlkebgaaDoorGmR
namespace Gm
open Go

section
variable {E : Env} {S : Sit} {w0 : World} {A : Ow} {hs : HS}

/-- There is room. -/
theorem room_ok {t : Ty} {s x ty e : TypeId} {b B : Nat} {ro : Bool} {xs ys : List t.den} {c : Array Value} {e0 : TypeId} {fz : Nat × Nat} {news : List Value} {sv : Value} {K : AV → HS → Prop} (r : RH w0 A S hs)
    (hu : E.P.underlying s = some (.slice e)) (hz : szT E e = some t.sz) (hb : hs.hp b = .row ro t xs) (hB : (S.G b).blk = some B) (hh : S.w.heap[B]? = some (.cells c e0 fz))
    (g5 : (S.G b).cap * t.sz ≤ c.size) (g6 : ∀ o, o < (S.G b).cap * t.sz → ¬ (fz.1 ≤ o ∧ o < fz.2))
    (g7 : ∀ (i : Nat) x (j : Nat) a v, xs[i]? = some x → (enc t x).cells[j]? = some a → c[i * t.sz + j]? = some v → Rv S a v)
    (g8 : ∀ o, S.F B o → ro = true ∧ o < xs.length * t.sz)
    (hsrc : Src E.P t.sz x sv ys.length news S.w) (hR2 : Rows S t ys news) (hg : xs.length + ys.length ≤ (S.G b).cap)
    (hK : K (.slr hs.hn) ({ hs with hp := upd hs.hp b .dead }.push (.row ro t (xs ++ ys)))) :
    AnsV E.P w0 A S (Builtin.append_ #[s, x] ty #[.slice (some (at_ B 0)) xs.length (S.G b).cap, sv]) K := by
  obtain ⟨i, hi, hsz⟩ := info_of hz
  have hd : hs.hp b ≠ .dead := by rw [hb]; simp
  have hbN : b < S.N := by rw [r.N]; exact Nat.lt_of_not_le fun h => hd (r.dead b h)
  have hlt := heap_lt hh
  have hmul : xs.length * t.sz + ys.length * t.sz ≤ (S.G b).cap * t.sz := by rw [← Nat.add_mul]; exact Nat.mul_le_mul_right _ hg
  have hnl := hR2.1
  obtain ⟨c', h2, h3, h4⟩ := run_storeC E.P B (xs.length * t.sz) e0 fz news 0 c S.w hh (fun j _ hj => g6 j (by omega)) (by omega) hR2.one
  have hrun : (Builtin.append_ #[s, x] ty #[.slice (some (at_ B 0)) xs.length (S.G b).cap, sv]).run E.P S.w = Result.ok (.slice (some (at_ B 0)) (xs.length + ys.length) (S.G b).cap) (World.put S.w B (.cells c' e0 fz)) := by
    have e1 : (at_ B 0).add (xs.length * t.sz) = at_ B (xs.length * t.sz) := by rw [add_at, Nat.zero_add]
    rcases hsrc.kind with ⟨e', hk⟩ | hk <;>
      simp [Builtin.append_, run_undT hu, run_undT hk, Go.sizeOf, typeInfo, hi, hsz, hsrc.len, hg, hsrc.cells, e1, h2]
  have r' := r.kill b
  have hle : Le S (S.adopt B (.cells c' e0 fz) (xs ++ ys).length (S.G b).cap t.sz) := by
    have h5 : Le S { S with w := World.put S.w B (.cells c' e0 fz) } := Le.put hh (fun o hF => by
      have := (g8 o hF).2
      rw [h4 o, if_neg (by omega)])
    exact ⟨fun _ _ h => h, fun B o v hF hc => h5.cell B o v hF hc, fun x hx => upd_ne _ _ (by omega), by simp [Sit.adopt]⟩
  have e1 : (S.adopt B (.cells c' e0 fz) (xs ++ ys).length (S.G b).cap t.sz).G S.N = ⟨some B, (xs ++ ys).length, (S.G b).cap, t.sz⟩ := upd_self _ _ _
  have hk : RB (S.adopt B (.cells c' e0 fz) (xs ++ ys).length (S.G b).cap t.sz) S.N (.row ro t (xs ++ ys)) := by
    refine ⟨by rw [e1], by rw [e1], .inr ⟨B, c', e0, fz, by rw [e1], by show (World.put S.w B _).heap[B]? = _; rw [put_get _ _ _ _ hlt, if_pos rfl], by rw [e1]; simpa using hg, by rw [e1, h3]; exact g5, by rw [e1]; exact g6, ?_, ?_⟩⟩
    · intro k y j a v hy ha hv
      refine Rv.mono hle ?_
      have hj : j < t.sz := by
        have := (List.getElem?_eq_some_iff.1 ha).1
        rw [enc_cells_length] at this
        exact this
      rw [h4] at hv
      simp only [Nat.add_zero] at hv
      by_cases hkx : k < xs.length
      · rw [List.getElem?_append_left hkx] at hy
        have : (k + 1) * t.sz ≤ xs.length * t.sz := Nat.mul_le_mul_right _ hkx
        rw [Nat.add_mul, Nat.one_mul] at this
        rw [if_neg (by omega)] at hv
        exact g7 k y j a v hy ha hv
      · rw [List.getElem?_append_right (by omega)] at hy
        have hky : k - xs.length < ys.length := (List.getElem?_eq_some_iff.1 hy).1
        have h6 : xs.length * t.sz ≤ k * t.sz := Nat.mul_le_mul_right _ (by omega)
        have h7 : (k - xs.length) * t.sz = k * t.sz - xs.length * t.sz := Nat.sub_mul _ _ _
        have h8 : (k - xs.length + 1) * t.sz ≤ ys.length * t.sz := Nat.mul_le_mul_right _ hky
        rw [Nat.add_mul, Nat.one_mul] at h8
        rw [if_pos (by omega)] at hv
        refine hR2.2 (k - xs.length) y j a v hy ha ?_
        rw [h7]
        have e2 : k * t.sz + j - xs.length * t.sz = k * t.sz - xs.length * t.sz + j := by omega
        rw [← e2]
        exact hv
    · intro o hF
      have := g8 o hF
      refine ⟨this.1, ?_⟩
      simp only [List.length_append, Nat.add_mul]
      omega
  refine ⟨.slice (some (at_ B 0)) (xs ++ ys).length (S.G b).cap, .slr S.N, S.adopt B (.cells c' e0 fz) (xs ++ ys).length (S.G b).cap t.sz, _, ?_, hle, r'.adopt hlt ?_ (r.own b B hd hB) hle hk, ?_, ?_⟩
  · rw [hrun, List.length_append]
    rfl
  · intro y hy hyB
    by_cases e : y = b
    · subst e
      apply hy
      show upd hs.hp y .dead y = .dead
      rw [upd_self]
    · refine r.inj b y B (fun h => e h.symm) hd ?_ hB hyB
      intro h
      apply hy
      show upd hs.hp b .dead y = .dead
      rw [upd_ne _ _ e]
      exact h
  · have h := Rv.slr (S := S.adopt B (.cells c' e0 fz) (xs ++ ys).length (S.G b).cap t.sz) S.N B (by simp [Sit.adopt]) (by rw [e1])
    rw [e1] at h
    exact h
  · rw [r.N]
    exact hK

theorem app_ok {t : Ty} {s x ty e e' : TypeId} {w : Nat} {base src : AV} {bv sv : Value} {K : AV → HS → Prop} (r : RH w0 A S hs)
    (hu : E.P.underlying s = some (.slice e)) (hx : E.P.underlying x = some (.slice e')) (hz : szT E e = some t.sz) (hw : (E.P.info? e).map (·.bytes) = some (w + 1))
    (hzc : ∃ z, zeroC E e = some z ∧ z.cells.length = t.sz ∧ z.solid = true)
    (h : aapp t (w + 1) base src hs K) (rb : Rv S base bv) (rs : Rv S src sv) : AnsV E.P w0 A S (Builtin.append_ #[s, x] ty #[bv, sv]) K := by
  obtain ⟨i, hi, hsz⟩ := info_of hz
  unfold aapp at h
  split at h
  · exact h.elim
  · rename_i ys hys
    obtain ⟨news, hsrc, hR2⟩ := src_ok r hx hys rs
    have nilR : Rows S t [] [] := ⟨by simp, fun i x j a v h => by simp at h⟩
    -- a base without room, and with nothing in it
    have bare : ∀ (a : Option Addr) (hs : HS) (ro : Bool), RH w0 A S hs → ys.length * (w + 1) ≤ room → K (.slr hs.hn) (hs.push (.row ro t ys)) → AnsV E.P w0 A S (Builtin.append_ #[s, x] ty #[.slice a 0 0, sv]) K := by
      intro a hs ro r hroom hK
      by_cases h0 : ys.length = 0
      · have hy : ys = [] := List.eq_nil_of_length_eq_zero h0
        subst hy
        have hn : news = [] := List.eq_nil_of_length_eq_zero (by have := hR2.1; simpa using this)
        subst hn
        refine ⟨.slice a 0 0, .slr S.N, S.bare t.sz, hs.push (.row ro t []), ?_, Le.bare S _, r.bare ro t, bare_slr S _ a, by rw [r.N]; exact hK⟩
        exact run_append_nothing S.w s x ty e i hu hi a 0 0 (Nat.le_refl _) sv (by rw [hsz]; exact hsrc)
      · refine grow_ok (xs := []) (base := a) (cap := 0) (olds := []) ro r hu hz hw hzc ?_ nilR hsrc hR2 (by simp; omega) (by simpa using hroom) (by simpa using hK)
        cases a with
        | none => exact run_firstCells_none S.w.drew _ 0 0 0
        | some a => simp [Builtin.firstCells, loadCells, loadCellsFrom]
    split at h
    · cases rb
      cases hc : decide (ys.length * (w + 1) ≤ room) with
      | false => rw [hc] at h; exact h.elim
      | true => rw [hc] at h; exact bare none hs false r (of_decide_eq_true hc) h
    · cases rb with
      | vl _ z B off val _ _ _ _ _ =>
        cases hc : decide (ys.length * (w + 1) ≤ room) with
        | false => rw [hc] at h; exact h.elim
        | true => rw [hc] at h; exact bare _ hs false r (of_decide_eq_true hc) h
    · rename_i t' xs
      split at h
      · rename_i ht
        subst ht
        split at h
        · rename_i v vs
          have hpos : 0 < ys.length := by
            unfold srcL at hys
            have := (decs_spec hys).1
            simp at this
            omega
          cases hc : decide ((xs.length + ys.length) * (w + 1) ≤ room) with
          | false => rw [hc] at h; exact h.elim
          | true =>
            rw [hc] at h
            have hroom := of_decide_eq_true hc
            cases rb with
            | slN => exact grow_ok (xs := []) (base := none) (cap := 0) (olds := []) false r hu hz hw hzc (run_firstCells_none S.w.drew _ 0 0 0) nilR hsrc hR2 (by simpa using hpos) hroom h
            | slE _ _ a cap hf =>
              have := hf rfl
              subst this
              exact grow_ok (xs := []) (base := some a) (cap := 0) (olds := []) false r hu hz hw hzc (by simp [Builtin.firstCells, loadCells, loadCellsFrom]) nilR hsrc hR2 (by simpa using hpos) hroom h
            | sl _ _ _ B off cap val c1 c2 hF hcell hr =>
              have := c2 rfl
              subst this
              have hR : Rows S t' xs ((List.range (xs.length * t'.sz)).map val) := by
                refine ⟨by simp, ?_⟩
                intro i y j a v hy ha hv
                have hi : i < xs.length := (List.getElem?_eq_some_iff.1 hy).1
                have hj : j < (enc t' y).cells.length := (List.getElem?_eq_some_iff.1 ha).1
                have hk : i * t'.sz + j < xs.length * t'.sz := by
                  rw [enc_cells_length] at hj
                  have : (i + 1) * t'.sz ≤ xs.length * t'.sz := Nat.mul_le_mul_right _ hi
                  rw [Nat.add_mul, Nat.one_mul] at this
                  omega
                simp [List.getElem?_range hk] at hv
                subst hv
                exact hr i y j a hy ha
              refine grow_ok (xs := xs) (base := some (at_ B off)) (cap := xs.length) (olds := (List.range (xs.length * t'.sz)).map val) false r hu hz hw hzc ?_ hR hsrc hR2 (by omega) hroom h
              refine run_firstCells_some S.w.drew t'.sz xs.length (at_ B off) xs.length xs.length _ (by simp) ?_
              intro j u hu
              simp only [List.getElem?_map, Option.map_eq_some_iff] at hu
              obtain ⟨k, hk, rfl⟩ := hu
              have hk1 := (List.getElem?_eq_some_iff.1 hk).1
              simp at hk1
              rw [List.getElem?_range hk1] at hk
              cases hk
              rw [add_at]
              exact hcell j (by omega)
        · exact h.elim
      · exact h.elim
    · rename_i b
      split at h
      · rename_i ro t' xs hb
        split at h
        · rename_i ht
          subst ht
          have key : (xs.length + ys.length) * (w + 1) ≤ room → K (.slr hs.hn) ({ hs with hp := upd hs.hp b .dead }.push (.row ro t' (xs ++ ys))) → AnsV E.P w0 A S (Builtin.append_ #[s, x] ty #[bv, sv]) K := by
            intro hroom hK
            rcases slr_val r hb rb with ⟨a, rfl, rfl, _⟩ | ⟨B, c, e0, fz, rfl, _, hB, hh, g4, g5, g6, g7, g8⟩
            · exact bare a _ ro (r.kill b) (by simpa using hroom) (by simpa using hK)
            · by_cases hg : xs.length + ys.length ≤ (S.G b).cap
              · exact room_ok r hu hz hb hB hh g5 g6 g7 g8 hsrc hR2 hg hK
              · have hle : xs.length * t'.sz ≤ c.size := Nat.le_trans (Nat.mul_le_mul_right _ g4) g5
                have hR : Rows S t' xs (c.toList.take (xs.length * t'.sz)) := by
                  refine ⟨by simp; omega, ?_⟩
                  intro i y j a v hy ha hv
                  rw [List.getElem?_take] at hv
                  split at hv
                  · rw [Array.getElem?_toList] at hv
                    exact g7 i y j a v hy ha hv
                  · cases hv
                refine grow_ok (xs := xs) (base := some (at_ B 0)) (cap := (S.G b).cap) (olds := c.toList.take (xs.length * t'.sz)) ro (r.kill b) hu hz hw hzc ?_ hR hsrc hR2 (by omega) hroom hK
                refine run_firstCells_some S.w.drew t'.sz xs.length (at_ B 0) xs.length _ _ (by simp; omega) ?_
                intro j u hu
                rw [List.getElem?_take] at hu
                split at hu
                · rw [add_at, Nat.zero_add]
                  show S.w.cell? _ = _
                  rw [cell_at, hh]
                  rw [Array.getElem?_toList] at hu
                  exact hu
                · cases hu
          split at h
          · cases hbb : Nat.beq b _ with
            | true => rw [hbb] at h; exact h.elim
            | false =>
              rw [hbb] at h
              cases hc : decide ((xs.length + ys.length) * (w + 1) ≤ room) with
              | false => rw [hc] at h; exact h.elim
              | true => rw [hc] at h; exact key (of_decide_eq_true hc) h
          · cases hc : decide ((xs.length + ys.length) * (w + 1) ≤ room) with
            | false => rw [hc] at h; exact h.elim
            | true => rw [hc] at h; exact key (of_decide_eq_true hc) h
        · exact h.elim
      · exact h.elim
    · exact h.elim

/-- A copy that stays as it is. -/
theorem cp_ok {f : SF} {t : Ty} {s x ty e e' : TypeId} {w : Nat} {ys : List t.den} {bv sv : Value} {K : AV → Prop} (r : RH w0 A S hs)
    (hu : E.P.underlying s = some (.slice e)) (hx : E.P.underlying x = some (.slice e')) (hz : szT E e = some t.sz) (hw : (E.P.info? e).map (·.bytes) = some (w + 1))
    (hzc : ∃ z, zeroC E e = some z ∧ z.cells.length = t.sz ∧ z.solid = true) (hroom : ys.length * (w + 1) ≤ room) (hK : K (.sl .any t ys))
    (rb : Rv S (.vl []) bv) (rs : Rv S (.sl f t ys) sv) : Ans E.P S (Builtin.append_ #[s, x] ty #[bv, sv]) K := by
  obtain ⟨i, hi, hsz⟩ := info_of hz
  obtain ⟨news, hsrc, hR2⟩ := src_ok (src := .sl f t ys) (ys := ys) r hx (by simp [srcL]) rs
  cases rb with
  | vl _ z0 B off val _ _ _ _ _ =>
    by_cases h0 : ys.length = 0
    · have hy : ys = [] := List.eq_nil_of_length_eq_zero h0
      subst hy
      have hn : news = [] := List.eq_nil_of_length_eq_zero (by have := hR2.1; simpa using this)
      subst hn
      exact Ans.here (run_append_nothing S.w s x ty e i hu hi (some (at_ B off)) 0 0 (Nat.le_refl _) sv (by rw [hsz]; exact hsrc)) (.slE _ _ _ _ (by simp)) hK
    · obtain ⟨z, hz1, hz2, hz3⟩ := hzc
      have hib : i.bytes = w + 1 := by rw [hi] at hw; simpa using hw
      have hzv : ∃ zv, i.zero = some zv ∧ zv.cells.size = t.sz := by
        unfold zeroC at hz1
        rw [hi] at hz1
        simp only [Option.bind_some, Option.map_eq_some_iff] at hz1
        obtain ⟨zv, h1, h2⟩ := hz1
        refine ⟨zv, h1, ?_⟩
        have := ((vAV_ok (S := S) zv).cells (by rw [h2]; exact hz3)).1
        rw [h2, hz2] at this
        exact this.symm
      obtain ⟨zv, hzv1, hzv2⟩ := hzv
      have hneed : ys.length ≤ room := by
        have : ys.length * 1 ≤ ys.length * (w + 1) := Nat.mul_le_mul_left _ (by omega)
        omega
      have hold : (Builtin.firstCells t.sz 0 (.slice (some (at_ B off)) 0 0)).run E.P S.w.drew = Result.ok #[] S.w.drew := by simp [Builtin.firstCells, loadCells, loadCellsFrom]
      have hrun := run_append_grow_src (P := E.P) S.w s x ty e i zv hu hi hzv1 (some (at_ B off)) 0 0 [] (by rw [hsz]; exact hold) sv ys.length news (by rw [hsz]; exact hsrc) (by omega)
        (by unfold room at hneed; omega) (by
          have h1 := next_le (0 + ys.length) 0 (by omega)
          rw [hib]
          have h2 : Builtin.nextslicecap (0 + ys.length) 0 * (w + 1) ≤ 2 * (0 + ys.length) * (w + 1) := Nat.mul_le_mul_right _ h1
          have h3 : 2 * (0 + ys.length) * (w + 1) = 2 * (ys.length * (w + 1)) := by rw [Nat.zero_add, Nat.mul_assoc]
          unfold room at hroom
          omega)
      rw [Nat.zero_add] at hrun
      let cells := (([] : List Value) ++ news).toArray ++ Builtin.zeroCells zv.cells (grownCap S.w ys.length 0 e - ys.length)
      let T : Sit := ({ S with w := { S.w with drawn := S.w.drawn + 1 } } : Sit).new (.cells cells e)
      have hE : Ext S T := (Ext.drawn S (S.w.drawn + 1)).trans (Ext.new _ _)
      have hcap : ys.length ≤ grownCap S.w ys.length 0 e := by
        unfold grownCap
        exact Nat.le_add_right _ _
      have hcell : ∀ k, k < ys.length * t.sz → T.w.cell? (at_ S.w.heap.size (0 + k)) = some (news.getD k undef) := by
        intro k hk
        have hk2 : k < news.length := by rw [hR2.1]; exact hk
        rw [cell_at]
        show (match (S.w.heap.push (.cells cells e))[S.w.heap.size]? with | some (.cells c _ _) => c[0 + k]? | _ => none) = _
        rw [Array.getElem?_push, if_pos rfl]
        show cells[0 + k]? = _
        rw [Nat.zero_add]
        simp only [cells, List.nil_append]
        rw [Array.getElem?_append_left (by simpa using hk2)]
        simp [hk2]
      refine ⟨.slice (some (at_ S.w.heap.size 0)) ys.length (grownCap S.w ys.length 0 e), .sl .any t ys, T, ?_, hE, ?_, hK⟩
      · exact hrun
      · refine Rv.sl .any t ys S.w.heap.size 0 _ (fun k => news.getD k undef) (by omega) (by simp) (fun k _ => .inr rfl) hcell ?_
        intro k y j c hy hc
        have hk : k < ys.length := (List.getElem?_eq_some_iff.1 hy).1
        have hj : j < t.sz := by
          have := (List.getElem?_eq_some_iff.1 hc).1
          rw [enc_cells_length] at this
          exact this
        have hlt : k * t.sz + j < news.length := by
          rw [hR2.1]
          have : (k + 1) * t.sz ≤ ys.length * t.sz := Nat.mul_le_mul_right _ hk
          rw [Nat.add_mul, Nat.one_mul] at this
          omega
        refine (hR2.2 k y j c _ hy hc ?_).mono hE.le
        rw [List.getD_eq_getElem?_getD, List.getElem?_eq_getElem hlt]
        rfl

end
end Gm
