/- Operations that look at the heap, or change it: fifth part, append. -/
import Derived.Test.YtbhgalddlkebgaaDoorGmQ
namespace Gm
open Go

theorem weak_length {a b : AV} (h : Weak a b) : a.cells.length = b.cells.length := by
  cases h <;> first | rfl | assumption

theorem weak_cells {a b : AV} (h : Weak a b) (j : Nat) (c d : AV) (hc : a.cells[j]? = some c) (hd : b.cells[j]? = some d) : Weak c d := by
  have one : ∀ {x y : AV}, Weak x y → x.cells = [x] → y.cells = [y] → x.cells[j]? = some c → y.cells[j]? = some d → Weak c d := by
    intro x y hw hx hy h1 h2
    rw [hx] at h1
    rw [hy] at h2
    cases j with
    | zero => simp at h1 h2; subst h1; subst h2; exact hw
    | succ j => simp at h1
  cases h with
  | refl => rw [hc] at hd; cases hd; exact .refl _
  | own o t xs => exact one (.own o t xs) rfl rfl hc hd
  | nil t => exact one (.nil t) rfl rfl hc hd
  | vl t xs => exact one (.vl t xs) rfl rfl hc hd
  | agg cs ds e h =>
    have h1 : j < cs.length := (List.getElem?_eq_some_iff.1 hc).1
    have h2 : j < ds.length := (List.getElem?_eq_some_iff.1 hd).1
    have h3 := h j h1 h2
    have e1 : cs[j] = c := (List.getElem?_eq_some_iff.1 hc).2
    have e2 : ds[j] = d := (List.getElem?_eq_some_iff.1 hd).2
    rw [e1, e2] at h3
    exact h3

section
variable {E : Env} {S : Sit} {w0 : World} {A : Ow} {hs : HS}

/-- The cells of a list's elements. -/
def Rows (S : Sit) (t : Ty) (xs : List t.den) (cs : List Value) : Prop :=
  cs.length = xs.length * t.sz ∧ ∀ (i : Nat) x (j : Nat) a v, xs[i]? = some x → (enc t x).cells[j]? = some a → cs[i * t.sz + j]? = some v → Rv S a v

theorem Rows.one {t : Ty} {xs : List t.den} {cs : List Value} (h : Rows S t xs cs) : ∀ u ∈ cs, u.oneCell' = true := by
  intro u hu
  obtain ⟨k, hk, rfl⟩ := List.getElem_of_mem hu
  have h0 : 0 < t.sz := by
    rcases Nat.eq_zero_or_pos t.sz with e | e
    · have := h.1; rw [e] at this; simp at this; subst this; simp at hk
    · exact e
  have h1 : k / t.sz < xs.length := by
    rw [h.1] at hk
    exact Nat.div_lt_of_lt_mul (by rw [Nat.mul_comm]; exact hk)
  have h2 : k % t.sz < t.sz := Nat.mod_lt _ h0
  have h3 : k / t.sz * t.sz + k % t.sz = k := by rw [Nat.mul_comm]; exact Nat.div_add_mod k t.sz
  have hl := enc_cells_length t xs[k / t.sz]
  have h4 := h.2 (k / t.sz) xs[k / t.sz] (k % t.sz) (enc t xs[k / t.sz]).cells[k % t.sz] cs[k] (List.getElem?_eq_getElem h1) (List.getElem?_eq_getElem (by omega)) (by rw [h3]; exact List.getElem?_eq_getElem hk)
  exact oneC_ok (List.all_eq_true.1 (enc_one t _) _ (List.getElem_mem _)) h4

theorem src_ok {t : Ty} {src : AV} {sv : Value} {ys : List t.den} {x e' : TypeId} (r : RH w0 A S hs) (hx : E.P.underlying x = some (.slice e')) (h : srcL t hs.hp src = some ys) (rv : Rv S src sv) :
    ∃ news, Src E.P t.sz x sv ys.length news S.w ∧ Rows S t ys news := by
  have nil : ∀ a c, Src E.P t.sz x (.slice a 0 c) 0 [] S.w := by
    intro a c
    cases a with
    | none => exact Src.ofNil S.w hx c
    | some a => exact Src.ofSlice S.w hx a 0 c [] (by simp) (fun j u h => by simp at h) (fun u h => by cases h)
  have nilR : Rows S t [] [] := ⟨by simp, fun i x j a v h => by simp at h⟩
  unfold srcL at h
  split at h
  · cases h; cases rv
    exact ⟨[], nil _ _, nilR⟩
  · rename_i vs
    cases rv with
    | vl _ z B off val hz hz' hF hc hr =>
      obtain ⟨h1, h2⟩ := decs_spec h
      have hzt : ∀ i (hi : i < vs.length), z = t.sz := by
        intro i hi
        have hd := h2 i vs[i] (ys[i]'(by omega)) (List.getElem?_eq_getElem hi) (List.getElem?_eq_getElem (by omega))
        have h3 := weak_length (dec_weak hd)
        rw [enc_cells_length, hz vs[i] (List.getElem_mem hi)] at h3
        exact h3
      have hlen : vs.length * z = ys.length * t.sz := by
        cases vs with
        | nil => simp at h1; simp [← h1]
        | cons v vs => rw [hzt 0 (by simp), h1]
      have hR : Rows S t ys ((List.range (ys.length * t.sz)).map val) := by
        refine ⟨by simp, ?_⟩
        intro i y j a v hy ha hv
        have hi : i < ys.length := (List.getElem?_eq_some_iff.1 hy).1
        have hiv : i < vs.length := by omega
        have hd := h2 i vs[i] y (List.getElem?_eq_getElem hiv) hy
        have hw := dec_weak hd
        have hj : j < (enc t y).cells.length := (List.getElem?_eq_some_iff.1 ha).1
        have hj' : j < vs[i].cells.length := by rw [weak_length hw]; exact hj
        have hcw := weak_cells hw j vs[i].cells[j] a (List.getElem?_eq_getElem hj') ha
        have hk : i * t.sz + j < ys.length * t.sz := by
          rw [enc_cells_length] at hj
          have : (i + 1) * t.sz ≤ ys.length * t.sz := Nat.mul_le_mul_right _ hi
          rw [Nat.add_mul, Nat.one_mul] at this
          omega
        simp [List.getElem?_range hk] at hv
        subst hv
        have h5 := hr i vs[i] j vs[i].cells[j] (List.getElem?_eq_getElem hiv) (List.getElem?_eq_getElem hj')
        rw [hzt i hiv] at h5
        exact h5.weak hcw
      refine ⟨_, ?_, hR⟩
      rw [h1]
      refine Src.ofSlice S.w hx (at_ B off) ys.length ys.length _ (by simp) ?_ hR.one
      intro j u hu
      simp only [List.getElem?_map, Option.map_eq_some_iff] at hu
      obtain ⟨k, hk, rfl⟩ := hu
      have hk1 := (List.getElem?_eq_some_iff.1 hk).1
      simp at hk1
      rw [List.getElem?_range hk1] at hk
      cases hk
      rw [add_at]
      exact hc j (by omega)
  · rename_i f t' ys'
    split at h
    · rename_i e
      subst e
      cases h
      cases rv with
      | slN => exact ⟨[], nil _ _, nilR⟩
      | slE => exact ⟨[], nil _ _, nilR⟩
      | sl _ _ _ B off cap val c1 c2 hF hc hr =>
        have hR : Rows S t' ys' ((List.range (ys'.length * t'.sz)).map val) := by
          refine ⟨by simp, ?_⟩
          intro i y j a v hy ha hv
          have hi : i < ys'.length := (List.getElem?_eq_some_iff.1 hy).1
          have hj : j < (enc t' y).cells.length := (List.getElem?_eq_some_iff.1 ha).1
          have hk : i * t'.sz + j < ys'.length * t'.sz := by
            rw [enc_cells_length] at hj
            have : (i + 1) * t'.sz ≤ ys'.length * t'.sz := Nat.mul_le_mul_right _ hi
            rw [Nat.add_mul, Nat.one_mul] at this
            omega
          simp [List.getElem?_range hk] at hv
          subst hv
          exact hr i y j a hy ha
        refine ⟨_, ?_, hR⟩
        refine Src.ofSlice S.w hx (at_ B off) ys'.length cap _ (by simp) ?_ hR.one
        intro j u hu
        simp only [List.getElem?_map, Option.map_eq_some_iff] at hu
        obtain ⟨k, hk, rfl⟩ := hu
        have hk1 := (List.getElem?_eq_some_iff.1 hk).1
        simp at hk1
        rw [List.getElem?_range hk1] at hk
        cases hk
        rw [add_at]
        exact hc j (by omega)
    · cases h
  · rename_i b
    split at h
    · rename_i ro t' ys' hb
      split at h
      · rename_i e
        subst e
        cases h
        rcases slr_val r hb rv with ⟨a, rfl, rfl, _⟩ | ⟨B, c, e, fz, rfl, _, hB, hh, g4, g5, g6, g7, g8⟩
        · exact ⟨[], nil _ _, nilR⟩
        · have hle : ys'.length * t'.sz ≤ c.size := Nat.le_trans (Nat.mul_le_mul_right _ g4) g5
          have hR : Rows S t' ys' (c.toList.take (ys'.length * t'.sz)) := by
            refine ⟨by simp; omega, ?_⟩
            intro i y j a v hy ha hv
            rw [List.getElem?_take] at hv
            split at hv
            · rw [Array.getElem?_toList] at hv
              exact g7 i y j a v hy ha hv
            · cases hv
          refine ⟨_, ?_, hR⟩
          refine Src.ofSlice S.w hx (at_ B 0) ys'.length _ _ (by simp; omega) ?_ hR.one
          intro j u hu
          rw [List.getElem?_take] at hu
          split at hu
          · rw [add_at, Nat.zero_add, cell_at, hh]
            rw [Array.getElem?_toList] at hu
            exact hu
          · cases hu
      · cases h
    · cases h
  · cases h

theorem growBy_le (n : Nat) : ∀ (r c : Nat), 256 ≤ c → c ≤ 2 * n → Builtin.growBy n r c ≤ 2 * n
  | 0, c, _, h => h
  | r + 1, c, h1, h2 => by
    unfold Builtin.growBy
    split
    · exact h2
    · exact growBy_le n r _ (by omega) (by omega)

theorem next_le (n c : Nat) (h : c < n) : Builtin.nextslicecap n c ≤ 2 * n := by
  unfold Builtin.nextslicecap
  split
  · omega
  · split
    · omega
    · exact growBy_le n 4 c (by omega) (by omega)

theorem Rows.append {t : Ty} {xs ys : List t.den} {cs ds : List Value} (h : Rows S t xs cs) (k : Rows S t ys ds) : Rows S t (xs ++ ys) (cs ++ ds) := by
  refine ⟨by simp [h.1, k.1, Nat.add_mul], ?_⟩
  intro i x j a v hx ha hv
  have hj : j < t.sz := by
    have := (List.getElem?_eq_some_iff.1 ha).1
    rw [enc_cells_length] at this
    exact this
  by_cases hi : i < xs.length
  · rw [List.getElem?_append_left hi] at hx
    have hk : i * t.sz + j < cs.length := by
      rw [h.1]
      have : (i + 1) * t.sz ≤ xs.length * t.sz := Nat.mul_le_mul_right _ hi
      rw [Nat.add_mul, Nat.one_mul] at this
      omega
    rw [List.getElem?_append_left hk] at hv
    exact h.2 i x j a v hx ha hv
  · rw [List.getElem?_append_right (by omega)] at hx
    have hk : cs.length ≤ i * t.sz + j := by
      rw [h.1]
      have : xs.length * t.sz ≤ i * t.sz := Nat.mul_le_mul_right _ (by omega)
      omega
    rw [List.getElem?_append_right hk] at hv
    have e : i * t.sz + j - cs.length = (i - xs.length) * t.sz + j := by
      rw [h.1, Nat.sub_mul]
      have : xs.length * t.sz ≤ i * t.sz := Nat.mul_le_mul_right _ (by omega)
      omega
    rw [e] at hv
    exact k.2 (i - xs.length) x j a v hx ha hv

theorem RB.ro {T : Sit} {b : Nat} {t : Ty} {xs : List t.den} (ro : Bool) (h : RB T b (.row false t xs)) : RB T b (.row ro t xs) := by
  obtain ⟨g1, g2, g3⟩ := h
  refine ⟨g1, g2, ?_⟩
  rcases g3 with g3 | ⟨B, c, e, fz, hB, hh, g4, g5, g6, g7, g8⟩
  · exact .inl g3
  · exact .inr ⟨B, c, e, fz, hB, hh, g4, g5, g6, g7, fun o hF => by have := (g8 o hF).1; simp at this⟩

/-- No room: a new row. -/
theorem grow_ok {t : Ty} {s x ty e : TypeId} {w : Nat} {base : Option Addr} {cap : Nat} {xs ys : List t.den} {olds news : List Value} {sv : Value} {K : AV → HS → Prop} (ro : Bool) (r : RH w0 A S hs)
    (hu : E.P.underlying s = some (.slice e)) (hz : szT E e = some t.sz) (hw : (E.P.info? e).map (·.bytes) = some (w + 1)) (hzc : ∃ z, zeroC E e = some z ∧ z.cells.length = t.sz ∧ z.solid = true) (hold : (Builtin.firstCells t.sz xs.length (.slice base xs.length cap)).run E.P S.w.drew = Result.ok olds.toArray S.w.drew)
    (hR : Rows S t xs olds) (hsrc : Src E.P t.sz x sv ys.length news S.w) (hR2 : Rows S t ys news) (hg : cap < xs.length + ys.length) (hroom : (xs.length + ys.length) * (w + 1) ≤ room)
    (hK : K (.slr hs.hn) (hs.push (.row ro t (xs ++ ys)))) :
    AnsV E.P w0 A S (Builtin.append_ #[s, x] ty #[.slice base xs.length cap, sv]) K := by
  obtain ⟨i, hi, hsz⟩ := info_of hz
  obtain ⟨z, hz1, hz2, hz3⟩ := hzc
  have hib : i.bytes = w + 1 := by rw [hi] at hw; simpa using hw
  have hzv : ∃ zv, i.zero = some zv ∧ zv.cells.size = t.sz := by
    unfold zeroC at hz1
    rw [hi] at hz1
    simp only [Option.bind_some, Option.map_eq_some_iff] at hz1
    obtain ⟨zv, h1, h2⟩ := hz1
    refine ⟨zv, h1, ?_⟩
    have := ((vAV_ok (S := S) zv).cells (by rw [h2]; exact hz3)).1
    rw [h2, hz2] at this
    exact this.symm
  obtain ⟨zv, hzv1, hzv2⟩ := hzv
  have hneed : xs.length + ys.length ≤ room := by
    have : (xs.length + ys.length) * 1 ≤ (xs.length + ys.length) * (w + 1) := Nat.mul_le_mul_left _ (by omega)
    omega
  have hrun := run_append_grow_src (P := E.P) S.w s x ty e i zv hu hi hzv1 base xs.length cap olds (by rw [hsz]; exact hold) sv ys.length news (by rw [hsz]; exact hsrc) hg
    (by unfold room at hneed; omega) (by
      have h1 := next_le (xs.length + ys.length) cap hg
      rw [hib]
      have h2 : Builtin.nextslicecap (xs.length + ys.length) cap * (w + 1) ≤ 2 * (xs.length + ys.length) * (w + 1) := Nat.mul_le_mul_right _ h1
      have h3 : 2 * (xs.length + ys.length) * (w + 1) = 2 * ((xs.length + ys.length) * (w + 1)) := by rw [Nat.mul_assoc]
      unfold room at hroom
      omega)
  have hR3 := hR.append hR2
  let cells := (olds ++ news).toArray ++ Builtin.zeroCells zv.cells (grownCap S.w (xs.length + ys.length) cap e - (xs.length + ys.length))
  have hcap : xs.length + ys.length ≤ grownCap S.w (xs.length + ys.length) cap e := by
    unfold grownCap
    exact Nat.le_add_right _ _
  have hsize : cells.size = grownCap S.w (xs.length + ys.length) cap e * t.sz := by
    have h1 := hR3.1
    simp only [List.length_append] at h1
    simp only [cells, Array.size_append, List.size_toArray, List.length_append, Builtin.zeroCells, Array.size_map, Array.size_range, hzv2]
    rw [h1, ← Nat.add_mul]
    congr 1
    omega
  refine ⟨.slice (some (at_ S.w.heap.size 0)) (xs ++ ys).length (grownCap S.w (xs.length + ys.length) cap e), .slr S.N, S.name (.cells cells e) (S.w.drawn + 1) (xs ++ ys).length (grownCap S.w (xs.length + ys.length) cap e) t.sz, hs.push (.row ro t (xs ++ ys)), ?_, Le.name _ _ _ _ _ _ r.F, r.name _ _ _ _ _ _ (RB.ro ro (row_new r (by simp; exact hcap) (by rw [hsize]; exact Nat.le_refl _) (fun o _ => by simp) ?_)), ?_, by rw [r.N]; exact hK⟩
  · rw [hrun]
    simp only [List.length_append]
    rfl
  · intro i x j a v hx ha hv
    refine hR3.2 i x j a v hx ha ?_
    have hlt : i * t.sz + j < (olds ++ news).length := by
      rw [hR3.1]
      have hi : i < (xs ++ ys).length := (List.getElem?_eq_some_iff.1 hx).1
      have hj := (List.getElem?_eq_some_iff.1 ha).1
      rw [enc_cells_length] at hj
      have : (i + 1) * t.sz ≤ (xs ++ ys).length * t.sz := Nat.mul_le_mul_right _ hi
      rw [Nat.add_mul, Nat.one_mul] at this
      omega
    simp only [cells] at hv
    rw [Array.getElem?_append_left (by simpa using hlt)] at hv
    simpa using hv
  · exact name_slr _ _ _ _ _ _

/-- A literal, as a row. -/
theorem litrow_ok {t : Ty} {ty e : TypeId} {n : Nat} {l : List AV} {xs : List t.den} {qs : List (Nat × Value)} {zc : AV} {K : AV → HS → Prop} (r : RH w0 A S hs)
    (hu : E.P.underlying ty = some (.slice e)) (hz : szT E e = some t.sz) (hzc : zeroC E e = some zc)
    (hn : l.length = n) (hb : n * t.sz ≤ 16777216) (hc : ∀ v ∈ l, v.cells.length = t.sz) (hs1 : ∀ v ∈ l, v.solid = true) (hl : (enumF 0 l).length = qs.length)
    (hp : ∀ (i : Nat) (p : Nat × AV) (q : Nat × Value), (enumF 0 l)[i]? = some p → qs[i]? = some q → p.1 = q.1 ∧ Rv S p.2 q.2) (hd : decs t l = some xs)
    (hK : K (.slr hs.hn) (hs.push (.row false t xs))) : AnsV E.P w0 A S (Instr.buildSlice ty n qs.toArray) K := by
  obtain ⟨us, hrun, h2⟩ := lit_run (S := S) hu hz hzc hn hb hc hs1 hl hp
  obtain ⟨d1, d2⟩ := decs_spec hd
  have hx : xs.length = n := by omega
  have hsz : us.size = n * t.sz := by rw [← h2.1, flatMap_length t.sz l hc, hn]
  subst hx
  refine ⟨.slice (some (at_ S.w.heap.size 0)) xs.length xs.length, .slr S.N, S.name (.cells us e) S.w.drawn xs.length xs.length t.sz, hs.push (.row false t xs), hrun, Le.name _ _ _ _ _ _ r.F, r.name _ _ _ _ _ _ (row_new r (Nat.le_refl _) (by rw [hsz]; exact Nat.le_refl _) (fun o _ => by simp) ?_), name_slr _ _ _ _ _ _, by rw [r.N]; exact hK⟩
  intro i y j a v hy ha hv
  have hi : i < xs.length := (List.getElem?_eq_some_iff.1 hy).1
  have hil : i < l.length := by omega
  have hw := dec_weak (d2 i l[i] y (List.getElem?_eq_getElem hil) hy)
  have hj : j < (enc t y).cells.length := (List.getElem?_eq_some_iff.1 ha).1
  have hj' : j < l[i].cells.length := by rw [weak_length hw]; exact hj
  have hcw := weak_cells hw j l[i].cells[j] a (List.getElem?_eq_getElem hj') ha
  rw [enc_cells_length] at hj
  have h5 : (l.flatMap AV.cells)[i * t.sz + j]? = some l[i].cells[j] := by
    rw [flatMap_get t.sz l i j l[i] hc (List.getElem?_eq_getElem hil) hj]
    exact List.getElem?_eq_getElem hj'
  exact (h2.2 _ _ v h5 hv).weak hcw

end
end Gm
