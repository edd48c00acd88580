/- Operations that look at the heap, or change it: all of them. -/
import Derived.Test.YtbhgalddlkebgaaDoorGmS
namespace Gm
open Go

section
variable {E : Env} {S : Sit} {w0 : World} {A : Ow} {hs : HS}

theorem wrap_small (n : Int) (h0 : 0 ≤ n) (h1 : n ≤ (room : Int)) : IntKind.i64.wrap n = n := by
  unfold room at h1
  simp [IntKind.wrap, IntKind.bits, IntKind.signed]
  omega

theorem make_ok {t e : TypeId} {n : Int} {k k' : IntKind} {t' : Ty} {z : AV} {y : t'.den} {w : Nat} {K : AV → HS → Prop} (r : RH w0 A S hs) (hu : E.P.underlying t = some (.slice e)) (hz : zeroC E e = some z) (hsz : szT E e = some t'.sz)
    (hw : (E.P.info? e).map (·.bytes) = some (w + 1)) (hd : dec t' z = some y) (h0 : 0 ≤ n) (h1 : n * (w + 1 : Nat) ≤ (room : Int)) (hK : K (.slr hs.hn) (hs.push (.row false t' (List.replicate n.toNat y)))) :
    AnsV E.P w0 A S (Instr.makeSlice t (.int k n) (.int k' n)) K := by
  obtain ⟨i, hi, hsz'⟩ := info_of hsz
  have hib : i.bytes = w + 1 := by rw [hi] at hw; simpa using hw
  obtain ⟨zv, hz1, hz2⟩ := zero_ok hz
  have hr : Rv S (enc t' y) zv := Rv.dec hd (by rw [hz2]; exact vAV_ok _)
  have hc := hr.cells (enc_solid _ _)
  have hcs : zv.cells.size = t'.sz := by rw [← hc.1, enc_cells_length]
  have hn1 : n ≤ (room : Int) := by
    have : n * 1 ≤ n * ((w + 1 : Nat) : Int) := Int.mul_le_mul_of_nonneg_left (by omega) h0
    omega
  have hwr := wrap_small n h0 hn1
  have h48 : ¬ (((w + 1 : Nat) : Int) * n > 2 ^ 48) := by
    rw [Int.mul_comm]
    unfold room at h1
    omega
  let init : Array Value := (Array.range (n.toNat * t'.sz)).map fun x => zv.cells[x % zv.cells.size]!
  have hrun : (Instr.makeSlice t (.int k n) (.int k' n)).run E.P S.w = Result.ok (.slice (some (at_ S.w.heap.size 0)) n.toNat n.toNat) { S.w with heap := S.w.heap.push (.cells init e) } := by
    unfold Instr.makeSlice
    simp only [Sem.run_bind, run_undT hu, Result.andThen_ok, asInt, asIntOf, Sem.run_pure, typeInfo, run_program, hi, hwr, hib]
    have hcond : ¬ ((decide (n < 0) || decide (((w + 1 : Nat) : Int) * n > 2 ^ 48)) = true ∨ decide (n < 0) = true ∨ decide (n > n) = true) := by
      simp only [Bool.or_eq_true, decide_eq_true_eq]
      omega
    rw [if_neg (by
      simp only [Bool.or_eq_true, decide_eq_true_eq]
      omega)]
    simp only [Sem.run_bind, run_askRoom, Result.andThen_ok, run_sizeT hsz]
    by_cases hz0 : n.toNat * t'.sz = 0
    · have e1 : init = #[] := by simp [init, hz0]
      rw [if_pos hz0]
      have e2 : (Array.range (n.toNat * t'.sz)).map (fun x => (#[] : Array Value)[x % (#[] : Array Value).size]!) = init := by rw [e1, hz0]; simp
      simp only [Sem.run_bind, Sem.run_pure, Result.andThen_ok, e2, newRow, run_newObj]
      rfl
    · rw [if_neg hz0]
      simp only [Sem.run_bind, hz1, Result.andThen_ok, Sem.run_pure]
      simp [newRow, init, at_]
  refine ⟨.slice (some (at_ S.w.heap.size 0)) n.toNat n.toNat, .slr S.N, S.name (.cells init e) S.w.drawn (List.replicate n.toNat y).length n.toNat t'.sz, _, hrun, Le.name _ _ _ _ _ _ r.F, r.name _ _ _ _ _ _ (row_new r (by simp) (by simp [init]) (fun o _ => by simp) ?_), ?_, by rw [r.N]; exact hK⟩
  · intro i x j a v hx ha hv
    have hi : i < n.toNat := by have := (List.getElem?_eq_some_iff.1 hx).1; simpa using this
    have hx' : x = y := by
      have := List.mem_of_getElem? hx
      simp at this
      exact this.2
    subst hx'
    have hj : j < t'.sz := by
      have := (List.getElem?_eq_some_iff.1 ha).1
      rw [enc_cells_length] at this
      exact this
    have hk : i * t'.sz + j < n.toNat * t'.sz := by
      have : (i + 1) * t'.sz ≤ n.toNat * t'.sz := Nat.mul_le_mul_right _ hi
      rw [Nat.add_mul, Nat.one_mul] at this
      omega
    have hm : (i * t'.sz + j) % t'.sz = j := by
      rw [Nat.mul_comm, Nat.mul_add_mod]
      exact Nat.mod_eq_of_lt hj
    simp only [init, Array.getElem?_map] at hv
    rw [Array.getElem?_range, if_pos hk] at hv
    simp only [Option.map_some, Option.some.injEq, hcs, hm] at hv
    have hjz : j < zv.cells.size := by omega
    rw [getElem!_pos zv.cells j hjz] at hv
    subst hv
    exact hc.2 j a _ ha (Array.getElem?_eq_getElem hjz)
  · have := name_slr S (.cells init e) S.w.drawn (List.replicate n.toNat y).length n.toNat t'.sz
    simpa using this

theorem bytesWorld_eq (w : World) (e : TypeId) (s : ByteArray) :
    Lib.bytesWorld w e s = { w with heap := w.heap.push (.cells (Lib.bytesCells w e s) e ((Lib.bytesCells w e s).size, (Lib.bytesCells w e s).size + 1)), drawn := w.drawn + 1 } := by
  have h1 : (Lib.bytesWorld w e s).heap = w.heap.push (.cells (Lib.bytesCells w e s) e ((Lib.bytesCells w e s).size, (Lib.bytesCells w e s).size + 1)) := by
    apply Array.ext
    · rw [Lib.bytesWorld_size]; simp
    · intro i h1 h2
      have h3 : (Lib.bytesWorld w e s).heap[i]? = (w.heap.push (.cells (Lib.bytesCells w e s) e ((Lib.bytesCells w e s).size, (Lib.bytesCells w e s).size + 1)))[i]? := by
        rw [Array.getElem?_push]
        by_cases e1 : i = w.heap.size
        · subst e1; rw [if_pos rfl, Lib.bytesWorld_at_new]
        · have : i < w.heap.size := by simp at h2; omega
          rw [if_neg e1, Lib.bytesWorld_at_old _ _ _ _ this]
      rw [Array.getElem?_eq_getElem h1, Array.getElem?_eq_getElem h2] at h3
      exact Option.some.inj h3
  have h2 : Lib.bytesWorld w e s = { Lib.bytesWorld w e s with heap := (Lib.bytesWorld w e s).heap } := rfl
  rw [h2, h1]
  rfl

theorem bytes_ok {s d e : TypeId} {a : Str} {v : Value} {K : AV → HS → Prop} (r : RH w0 A S hs) (hs1 : E.P.underlying s = some .string) (hd : E.P.underlying d = some (.slice e)) (he : E.P.underlying e = some (.int .u8))
    (rv : Rv S (.str a) v) (hK : K (.slr hs.hn) (hs.push (.row false (.int .u8) (intsOfBytes a)))) : AnsV E.P w0 A S (convert s d v) K := by
  obtain ⟨b, rfl, hb⟩ := rv.str_inv
  have hsize : b.size = a.length := by rw [← hb]; simp
  have hlen : (intsOfBytes a).length = a.length := by simp [intsOfBytes]
  have hrun := Lib.run_convert_string_bytes (P := E.P) S.w s d e b hs1 hd he
  have hcap : b.size ≤ grownCap S.w b.size 0 e := by unfold grownCap; exact Nat.le_add_right _ _
  have hcells : (Lib.bytesCells S.w e b).size = grownCap S.w b.size 0 e := by
    have : b.data.size = b.size := rfl
    simp [Lib.bytesCells]
    omega
  rw [bytesWorld_eq] at hrun
  refine ⟨_, .slr S.N, S.name (.cells (Lib.bytesCells S.w e b) e ((Lib.bytesCells S.w e b).size, (Lib.bytesCells S.w e b).size + 1)) (S.w.drawn + 1) (intsOfBytes a).length (grownCap S.w b.size 0 e) (Ty.int .u8).sz, _, hrun,
    Le.name _ _ _ _ _ _ r.F, r.name _ _ _ _ _ _ (row_new (t := .int .u8) r (by omega) (by rw [hcells]; simp [Ty.sz]) (fun o ho => by rw [hcells]; simp [Ty.sz] at ho ⊢; omega) ?_), ?_, by rw [r.N]; exact hK⟩
  · intro i x j c u hx hc hu
    have hj : j = 0 := by
      have := (List.getElem?_eq_some_iff.1 hc).1
      rw [enc_cells_length] at this
      simp [Ty.sz] at this
      exact this
    subst hj
    simp only [enc, AV.cells, List.getElem?_cons_zero, Option.some.injEq] at hc
    subst hc
    have hi : i < b.size := by have := (List.getElem?_eq_some_iff.1 hx).1; omega
    simp only [Ty.sz, Nat.mul_one, Nat.add_zero] at hu
    have hi2 : i < b.data.size := hi
    simp only [Lib.bytesCells] at hu
    rw [Array.getElem?_append_left (by simpa using hi2)] at hu
    rw [Array.getElem?_map, Array.getElem?_eq_getElem hi2] at hu
    simp only [Option.map_some, Option.some.injEq] at hu
    simp only [intsOfBytes, List.getElem?_map, Option.map_eq_some_iff] at hx
    obtain ⟨q, hq, rfl⟩ := hx
    have hq2 : b.data[i] = q := by
      rw [← hb, Array.getElem?_toList] at hq
      exact (Array.getElem?_eq_some_iff.1 hq).2
    subst hq2
    subst hu
    exact .int _ _
  · have := name_slr S (.cells (Lib.bytesCells S.w e b) e ((Lib.bytesCells S.w e b).size, (Lib.bytesCells S.w e b).size + 1)) (S.w.drawn + 1) (intsOfBytes a).length (grownCap S.w b.size 0 e) (Ty.int .u8).sz
    rw [hlen, ← hsize] at this ⊢
    exact this

end
end Gm
