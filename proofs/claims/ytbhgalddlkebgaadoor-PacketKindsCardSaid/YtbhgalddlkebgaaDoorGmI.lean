/- Operations that hang on their operands alone: fifth part. -/
import Derived.Test.YtbhgalddlkebgaaDoorGmH
import Derived.Laws.BytesArg
namespace Gm
open Go

section
variable {E : Env} {S : Sit} {K : AV → Prop}

theorem un_ok {op : UnOp} {a r : AV} {v : Value} (h : aun op a = some r) (hv : Rv S a v) : Ans E.P S (Op.unary op v) (fun x => x = r) := by
  unfold aun at h
  split at h
  · cases h; cases hv
    exact Ans.here (by simp [Op.unary, Op.intArith]) (.int _ _) rfl
  · cases h; cases hv
    exact Ans.here (by simp [Op.unary, Op.intBits, ixor]) (.int _ _) rfl
  · cases h; cases hv
    exact Ans.here (by simp [Op.unary]) (.bool _) rfl
  · cases h

/-- The bytes of a frozen slice. -/
theorem sl_bytes {xs : List Int} {B off : Nat} {val : Nat → Value} (hc : ∀ k, k < xs.length * (Ty.int .u8).sz → S.w.cell? (at_ B (off + k)) = some (val k))
    (hr : ∀ (i : Nat) x (j : Nat) c, xs[i]? = some x → (enc (.int .u8) x).cells[j]? = some c → Rv S c (val (i * (Ty.int .u8).sz + j))) :
    ∀ i, i < xs.length → S.w.cell? ⟨B, off + i, none⟩ = some (.int .u8 (xs.getD i 0)) := by
  intro i hi
  have h1 := hc i (by simp [Ty.sz]; exact hi)
  have h2 := hr i xs[i] 0 (.int .u8 xs[i]) (List.getElem?_eq_getElem hi) rfl
  simp only [Ty.sz, Nat.mul_one, Nat.add_zero] at h2
  have h3 := h2.int_inv
  rw [h3] at h1
  rw [List.getD_eq_getElem?_getD, List.getElem?_eq_getElem hi]
  exact h1

theorem dec_int {k : IntKind} {v : AV} {x : Int} (h : dec (.int k) v = some x) : v = .int k x := by
  cases v <;> simp [dec] at h
  obtain ⟨rfl, rfl⟩ := h
  rfl

theorem decs_spec {t : Ty} : ∀ {vs : List AV} {xs : List t.den}, decs t vs = some xs → vs.length = xs.length ∧ ∀ (i : Nat) v x, vs[i]? = some v → xs[i]? = some x → dec t v = some x
  | [], xs, h => by cases h; exact ⟨rfl, fun i v x h => by simp at h⟩
  | v :: vs, xs, h => by
    unfold decs at h
    split at h
    · rename_i x ys hx hy
      cases h
      obtain ⟨h1, h2⟩ := decs_spec hy
      refine ⟨by simp [h1], ?_⟩
      intro i u z hu hz
      cases i with
      | zero => simp at hu hz; subst hu; subst hz; exact hx
      | succ i => exact h2 i u z hu hz
    · cases h

theorem conv_ok {s d : TypeId} {a r : AV} {v : Value} (h : aconv E s d a = some r) (hv : Rv S a v) : Ans E.P S (convert s d v) (fun x => x = r) := by
  unfold aconv at h
  split at h
  · rename_i k0 k k' n hs hd
    cases h; cases hv
    exact Ans.here (by simp [convert, run_undT hs, run_undT hd, Conv.intToInt]) (.int _ _) rfl
  · rename_i a hs hd
    cases h
    obtain ⟨x, rfl, hx⟩ := hv.str_inv
    exact Ans.here (by simp [convert, run_undT hs, run_undT hd]) (.str _ _ hx) rfl
  · rename_i e f xs hs hd
    split at h
    · rename_i he
      cases h
      cases hv with
      | slN _ _ _ => exact Ans.here (run_convert_bytes_nil S.w s e hs he 0 0 d hd) (.str _ _ rfl) rfl
      | slE _ _ a cap _ =>
        refine Ans.here (v := .string (strOfNums [])) ?_ (.str _ _ rfl) rfl
        rw [run_convert_bytes_string S.w s d e (some a) 0 cap hs he hd, run_bytesToString S.w a 0 cap [] (by simp [loadCells, loadCellsFrom])]
        rfl
      | sl _ _ _ B off cap val h1 h2 hF hc hr =>
        exact Ans.here (run_convert_bytes_arg S.w s e hs he B off xs.length cap xs rfl (sl_bytes hc hr) d hd) (.str _ _ (strOfNums_data xs)) rfl
    · cases h
  · rename_i e vs hs hd
    split at h
    · rename_i xs he hxs
      cases h
      cases hv with
      | vl _ z B off val hz hz' hF hc hr =>
        obtain ⟨h1, h2⟩ := decs_spec hxs
        have hcell : ∀ i, i < xs.length → S.w.cell? ⟨B, off + i, none⟩ = some (.int .u8 (xs.getD i 0)) := by
          intro i hi
          have hi' : i < vs.length := by omega
          have hd := h2 i vs[i] xs[i] (List.getElem?_eq_getElem hi') (List.getElem?_eq_getElem hi)
          have hcells : vs[i].cells = [vs[i]] := by rw [dec_int hd]; rfl
          have hz1 : z = 1 := by
            have := hz vs[i] (List.getElem_mem hi')
            rw [hcells] at this
            exact this.symm
          subst hz1
          have h3 := hc i (by omega)
          have h4 := hr i vs[i] 0 vs[i] (List.getElem?_eq_getElem hi') (by rw [hcells]; rfl)
          simp only [Nat.mul_one, Nat.add_zero] at h4
          have h5 := (h4.dec hd).int_inv
          rw [h5] at h3
          rw [List.getD_eq_getElem?_getD, List.getElem?_eq_getElem hi]
          exact h3
        refine Ans.here ?_ (.str _ _ (strOfNums_data xs)) rfl
        rw [h1]
        exact run_convert_bytes_arg S.w s e hs he B off xs.length xs.length xs rfl hcell d hd
    · cases h
  · cases h

end
end Gm
