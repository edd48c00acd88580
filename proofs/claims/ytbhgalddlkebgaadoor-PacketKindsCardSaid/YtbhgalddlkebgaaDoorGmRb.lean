/- A row's arguments, read as typed values. -/
import Derived.Test.YtbhgalddlkebgaaDoorGmZ6
import Derived.ProofKit
import Derived.Carry
import Derived.JoinedOf
import Derived.SizedLaws
import Derived.OpenShut
import Derived.WideShapes
namespace Gm
open Go Go.WideShapes

def leafs : Nat → List Ty
  | 0 => [.int .i64, .str]
  | 1 => [.slice .str, .slice (.st 0), .int .i64, .bool]
  | 2 => [.int .u64, .int .u64, .int .u64, .int .u64]
  | 3 => [.int .i64, .int .u64, .int .u64, .int .u64, .int .u64, .bool, .bool, .bool]
  | 4 => [.int .i64, .int .u64, .int .u64, .int .u64, .int .u64, .bool, .bool, .bool, .bool, .int .u32]
  | 5 => [.int .i64, .int .u64, .int .i64, .int .u64, .int .u64, .int .u64, .int .u64, .bool, .bool, .bool, .bool, .int .u32, .int .i64, .str]
  | 6 => [.bool, .bool, .bool]
  | 7 => [.int .u32, .int .u32]
  | _ => []

def leafsOf : Ty → List Ty
  | .st n => leafs n
  | t => [t]

/-- How many bytes a value takes in a row. -/
def Ty.by : Ty → Nat
  | .int k => k.bits / 8
  | .bool => 1
  | .str => 16
  | .slice _ => 24
  | .st 0 => 24
  | .st 1 => 64
  | .st 2 => 32
  | .st 3 => 48
  | .st 4 => 48
  | .st 5 => 88
  | .st 6 => 3
  | .st 7 => 8
  | .st _ => 0

abbrev big : Nat := 0x7ffffffff000
abbrev inK (k : IntKind) (n : Int) : Prop := k.min ≤ n ∧ n ≤ k.max
abbrev wStr (s : Str) : Prop := s.length ≤ big
def wWrite (x : Write) : Prop := inK .i64 x.sector ∧ wStr x.data
def wDisk (d : Disk) : Prop := (d.sure.length * 16 ≤ big ∧ ∀ s ∈ d.sure, wStr s) ∧ (d.cache.length * 24 ≤ big ∧ ∀ x ∈ d.cache, wWrite x) ∧ inK .i64 d.fuse
def wVec (v : Vec) : Prop := inK .u64 v.current ∧ inK .u64 v.bitmap ∧ inK .u64 v.old0 ∧ inK .u64 v.old1
def wHello (h : Hello) : Prop := inK .i64 h.blocks ∧ wVec h.vector ∧ inK .u32 h.mask
def wfS : (n : Nat) → denS n → Prop
  | 0, x => wWrite x
  | 1, d => wDisk d
  | 2, v => wVec v
  | 3, s => inK .i64 s.blocks ∧ wVec s.vector
  | 4, h => wHello h
  | 5, p => inK .i64 p.kind ∧ inK .u64 p.session ∧ wHello p.hello ∧ inK .i64 p.block ∧ wStr p.data
  | 6, _ => True
  | 7, s => inK .u32 s.a ∧ inK .u32 s.b
  | _, _ => True
/-- A value is in its type's range, and no larger than memory. -/
def Wf : (t : Ty) → t.den → Prop
  | .int k, n => inK k n
  | .bool, _ => True
  | .str, s => wStr s
  | .slice t, xs => xs.length * t.by ≤ big ∧ ∀ x ∈ xs, Wf t x
  | .st n, x => wfS n x
def WfAll : (ts : List Ty) → Dens ts → Prop
  | [], _ => True
  | t :: r, x => Wf t x.1 ∧ WfAll r x.2

inductive Leafs : List Ty → List AV → Prop
  | nil : Leafs [] []
  | cons {t : Ty} (x : t.den) {ts as} : Wf t x → Leafs ts as → Leafs (t :: ts) (enc t x :: as)

theorem Leafs.length {ts : List Ty} {as : List AV} (h : Leafs ts as) : as.length = ts.length := by
  induction h with
  | nil => rfl
  | cons _ _ _ ih => simp [ih]

theorem Leafs.append {ts : List Ty} {as : List AV} (h : Leafs ts as) : ∀ {us : List Ty} {bs : List AV}, Leafs us bs → Leafs (ts ++ us) (as ++ bs) := by
  induction h with
  | nil => exact fun h => h
  | cons x h1 _ ih => exact fun k => .cons x h1 (ih k)

theorem Leafs.inv {t : Ty} {ts : List Ty} {as : List AV} (h : Leafs (t :: ts) as) : ∃ (x : t.den) (bs : List AV), as = enc t x :: bs ∧ Wf t x ∧ Leafs ts bs := by
  cases h with
  | cons x h1 h2 => exact ⟨x, _, rfl, h1, h2⟩
theorem Leafs.inv0 {as : List AV} (h : Leafs [] as) : as = [] := by cases h; rfl

theorem Leafs.st : ∀ {n : Nat} {as : List AV}, n < 8 → Leafs (leafs n) as → ∃ x : denS n, as = encS n x ∧ wfS n x
  | 0, as, _, h => by
    obtain ⟨a, _, rfl, ha, h⟩ := h.inv
    obtain ⟨b, _, rfl, hb, h⟩ := h.inv
    cases h.inv0
    exact ⟨⟨a, b⟩, rfl, ha, hb⟩
  | 1, as, _, h => by
    obtain ⟨a, _, rfl, ha, h⟩ := h.inv
    obtain ⟨b, _, rfl, hb, h⟩ := h.inv
    obtain ⟨c, _, rfl, hc, h⟩ := h.inv
    obtain ⟨d, _, rfl, hd, h⟩ := h.inv
    cases h.inv0
    exact ⟨⟨a, b, c, d⟩, rfl, ha, hb, hc⟩
  | 2, as, _, h => by
    obtain ⟨a, _, rfl, ha, h⟩ := h.inv
    obtain ⟨b, _, rfl, hb, h⟩ := h.inv
    obtain ⟨c, _, rfl, hc, h⟩ := h.inv
    obtain ⟨d, _, rfl, hd, h⟩ := h.inv
    cases h.inv0
    exact ⟨⟨a, b, c, d⟩, rfl, ha, hb, hc, hd⟩
  | 3, as, _, h => by
    obtain ⟨n, _, rfl, hn, h⟩ := h.inv
    obtain ⟨a, _, rfl, ha, h⟩ := h.inv
    obtain ⟨b, _, rfl, hb, h⟩ := h.inv
    obtain ⟨c, _, rfl, hc, h⟩ := h.inv
    obtain ⟨d, _, rfl, hd, h⟩ := h.inv
    obtain ⟨i, _, rfl, hi, h⟩ := h.inv
    obtain ⟨p, _, rfl, hp, h⟩ := h.inv
    obtain ⟨s, _, rfl, hs, h⟩ := h.inv
    cases h.inv0
    exact ⟨⟨n, ⟨a, b, c, d⟩, i, p, s⟩, rfl, hn, ha, hb, hc, hd⟩
  | 4, as, _, h => by
    obtain ⟨n, _, rfl, hn, h⟩ := h.inv
    obtain ⟨a, _, rfl, ha, h⟩ := h.inv
    obtain ⟨b, _, rfl, hb, h⟩ := h.inv
    obtain ⟨c, _, rfl, hc, h⟩ := h.inv
    obtain ⟨d, _, rfl, hd, h⟩ := h.inv
    obtain ⟨i, _, rfl, hi, h⟩ := h.inv
    obtain ⟨p, _, rfl, hp, h⟩ := h.inv
    obtain ⟨s, _, rfl, hs, h⟩ := h.inv
    obtain ⟨q, _, rfl, hq, h⟩ := h.inv
    obtain ⟨m, _, rfl, hm, h⟩ := h.inv
    cases h.inv0
    exact ⟨⟨n, ⟨a, b, c, d⟩, i, p, s, q, m⟩, rfl, hn, ⟨ha, hb, hc, hd⟩, hm⟩
  | 5, as, _, h => by
    obtain ⟨k, _, rfl, hk, h⟩ := h.inv
    obtain ⟨e, _, rfl, he, h⟩ := h.inv
    obtain ⟨n, _, rfl, hn, h⟩ := h.inv
    obtain ⟨a, _, rfl, ha, h⟩ := h.inv
    obtain ⟨b, _, rfl, hb, h⟩ := h.inv
    obtain ⟨c, _, rfl, hc, h⟩ := h.inv
    obtain ⟨d, _, rfl, hd, h⟩ := h.inv
    obtain ⟨i, _, rfl, hi, h⟩ := h.inv
    obtain ⟨p, _, rfl, hp, h⟩ := h.inv
    obtain ⟨s, _, rfl, hs, h⟩ := h.inv
    obtain ⟨q, _, rfl, hq, h⟩ := h.inv
    obtain ⟨m, _, rfl, hm, h⟩ := h.inv
    obtain ⟨f, _, rfl, hf, h⟩ := h.inv
    obtain ⟨g, _, rfl, hg, h⟩ := h.inv
    cases h.inv0
    exact ⟨⟨k, e, ⟨n, ⟨a, b, c, d⟩, i, p, s, q, m⟩, f, g⟩, rfl, hk, he, ⟨hn, ⟨ha, hb, hc, hd⟩, hm⟩, hf, hg⟩
  | 6, as, _, h => by
    obtain ⟨a, _, rfl, ha, h⟩ := h.inv
    obtain ⟨b, _, rfl, hb, h⟩ := h.inv
    obtain ⟨c, _, rfl, hc, h⟩ := h.inv
    cases h.inv0
    exact ⟨⟨a, b, c⟩, rfl, trivial⟩
  | 7, as, _, h => by
    obtain ⟨a, _, rfl, ha, h⟩ := h.inv
    obtain ⟨b, _, rfl, hb, h⟩ := h.inv
    cases h.inv0
    exact ⟨⟨a, b⟩, rfl, ha, hb⟩
  | _ + 8, _, h, _ => by omega

def Ty.real : Ty → Bool
  | .st n => Nat.blt n 8
  | _ => true

theorem Leafs.of {t : Ty} (hr : t.real = true) {as : List AV} (h : Leafs (leafsOf t) as) : ∃ x : t.den, as = (enc t x).cells ∧ Wf t x := by
  cases t with
  | st n =>
    obtain ⟨x, e, hx⟩ := Leafs.st (n := n) (by simpa [Ty.real] using hr) h
    exact ⟨x, e, hx⟩
  | int k => obtain ⟨x, bs, rfl, hx, h⟩ := h.inv; cases h.inv0; exact ⟨x, rfl, hx⟩
  | bool => obtain ⟨x, bs, rfl, hx, h⟩ := h.inv; cases h.inv0; exact ⟨x, rfl, hx⟩
  | str => obtain ⟨x, bs, rfl, hx, h⟩ := h.inv; cases h.inv0; exact ⟨x, rfl, hx⟩
  | slice t => obtain ⟨x, bs, rfl, hx, h⟩ := h.inv; cases h.inv0; exact ⟨x, rfl, hx⟩

/-! ### A type of the program is a Ty -/

def flatP (P : Program) (go : List Ty → TypeId → Bool) {α : Type} (off : α → Nat) (ty : α → TypeId) : List α → Nat → List Ty → Bool
  | [], _, ts => ts.isEmpty
  | x :: r, o, ts => Nat.beq (off x) o && (Nat.ble (P.cellsOf (ty x)) ts.length && (go (ts.take (P.cellsOf (ty x))) (ty x) && flatP P go off ty r (o + P.cellsOf (ty x)) (ts.drop (P.cellsOf (ty x)))))

def flatIs (P : Program) : Nat → List Ty → TypeId → Bool
  | 0, _, _ => false
  | k + 1, ts, t => match P.underlying t, ts with
    | some (.struct fs), ts => Nat.beq (P.cellsOf t) ts.length && flatP P (flatIs P k) (·.offset) (·.type) fs.toList 0 ts
    | some (.array n e), ts => Nat.beq (P.cellsOf t) ts.length && flatP P (flatIs P k) (fun i => i * P.cellsOf e) (fun _ => e) (List.range n) 0 ts
    | some .bool, [.bool] => true
    | some (.int q), [.int q'] => decide (q = q')
    | some .string, [.str] => true
    | some (.slice e), [.slice u] => u.real && (Nat.blt 0 u.sz && (Nat.beq (P.cellsOf e) u.sz && (Nat.beq (P.bytesOf e) u.by && flatIs P k (leafsOf u) e)))
    | _, _ => false

section
variable {H : Type} {encH : TypeId × Value → H} {P : Program} {S : Sit}

def small (ns : List Nat) : Prop := ∀ n ∈ ns, n ≤ big

theorem flatP_ok {go : List Ty → TypeId → Bool} {α : Type} {off : α → Nat} {ty : α → TypeId} {cs : List Value} :
    ∀ (l : List α) (o : Nat) (ts : List Ty), flatP P go off ty l o ts = true →
    (∀ x ∈ l, ∀ us, go us (ty x) = true → ∃ as, Leafs us as ∧ ∀ (i : Nat) a v, as[i]? = some a → ((cs.drop (off x)).take (P.cellsOf (ty x)))[i]? = some v → Rv S a v) →
    ∃ as, Leafs ts as ∧ ∀ (i : Nat) a v, as[i]? = some a → cs[o + i]? = some v → Rv S a v
  | [], o, ts, h, _ => by
    cases ts with
    | nil => exact ⟨[], .nil, fun i a v h => by simp at h⟩
    | cons => cases h
  | x :: l, o, ts, h, hs => by
    simp only [flatP, Bool.and_eq_true] at h
    obtain ⟨h1, h2, h3, h4⟩ := h
    have h1 := Nat.eq_of_beq_eq_true h1
    have h2 := Nat.le_of_ble_eq_true h2
    obtain ⟨as, ha, hav⟩ := hs x (by simp) _ h3
    obtain ⟨bs, hb, hbv⟩ := flatP_ok l _ _ h4 (fun y hy us hg => hs y (by simp [hy]) us hg)
    have hlen : (ts.take (P.cellsOf (ty x))).length = P.cellsOf (ty x) := by simp; omega
    have hal := ha.length
    refine ⟨as ++ bs, by simpa using ha.append hb, ?_⟩
    intro i a v hi hv
    rw [List.getElem?_append] at hi
    split at hi
    · rename_i hlt
      refine hav i a v hi ?_
      rw [List.getElem?_take, if_pos (by omega), List.getElem?_drop, h1]
      exact hv
    · rename_i hlt
      refine hbv (i - as.length) a v hi ?_
      rw [show o + P.cellsOf (ty x) + (i - as.length) = o + i by omega]
      exact hv

theorem weightsAll_mem {e : TypeId} : ∀ {ds : List (DataW H)} {d : DataW H}, d ∈ ds → ∀ n ∈ d.weights P e, n ∈ DataW.weightsAll P e ds
  | [], _, h, _, _ => by cases h
  | d0 :: ds, d, h, n, hn => by
    simp only [DataW.weightsAll, List.mem_append]
    rcases List.mem_cons.1 h with rfl | h
    · exact .inl hn
    · exact .inr (weightsAll_mem h n hn)

/-- A list of witnesses. -/
theorem pick_list {α β : Type} {R : Nat → α → β → Prop} : ∀ (l : List α) (k : Nat), (∀ (i : Nat) x, l[i]? = some x → ∃ y, R (k + i) x y) → ∃ ys : List β, ys.length = l.length ∧ ∀ (i : Nat) x y, l[i]? = some x → ys[i]? = some y → R (k + i) x y
  | [], _, _ => ⟨[], rfl, fun i x y h => by simp at h⟩
  | x :: l, k, h => by
    obtain ⟨y, hy⟩ := h 0 x rfl
    obtain ⟨ys, h1, h2⟩ := pick_list (R := R) l (k + 1) (fun i x hx => by
      have := h (i + 1) x (by simpa using hx)
      rwa [show k + (i + 1) = k + 1 + i by omega] at this)
    refine ⟨y :: ys, by simp [h1], ?_⟩
    intro i x' y' hx hy'
    cases i with
    | zero => simp at hx hy'; subst hx; subst hy'; exact hy
    | succ i =>
      have := h2 i x' y' (by simpa using hx) (by simpa using hy')
      rwa [show k + 1 + i = k + (i + 1) by omega] at this

theorem cells_some {w : World} {base : Nat} {a : Addr} {n : Nat} {cs : List Value} (h : w.cells? base a n = some cs) : cs.length = n ∧ ∀ i, i < n → w.cell? (a.add i) = cs[i]? := by
  unfold World.cells? at h
  split at h
  · refine ⟨by simpa using mapM_some_length h, ?_⟩
    intro i hi
    exact mapM_some_get h i i (by simp [hi])
  · cases h

theorem spot_none {w : World} {a : Addr} {v : Value} (h : w.cell? a = some v) : a = at_ a.block a.off ∧ a.block < w.heap.size := by
  unfold World.cell? at h
  split at h
  · rename_i hh
    split at h
    · cases h
    · rename_i hs
      refine ⟨?_, (Array.getElem?_eq_some_iff.1 hh).1⟩
      obtain ⟨b, o, s⟩ := a
      cases s with
      | none => rfl
      | some s => simp at hs
  · cases h

theorem add_at0 (B o n : Nat) : (at_ B o).add n = at_ B (o + n) := by
  unfold Addr.add at_
  split
  · rename_i h; subst h; rfl
  · rfl

theorem open_trod (hF : ∀ B o, B < S.w.heap.size → S.F B o) : ∀ (k fuel : Nat) (ts : List Ty) (t : TypeId) (cs : List Value) (x : DataW H × List MemPlace), flatIs P k ts t = true →
    DataW.trod encH P S.w 0 (fun _ => true) true fuel t cs = some x → small (x.1.weights P t) →
    cs.length = ts.length ∧ ∃ as, Leafs ts as ∧ ∀ (i : Nat) a v, as[i]? = some a → cs[i]? = some v → Rv S a v
  | 0, _, _, _, _, _, h, _, _ => by cases h
  | k + 1, fuel, ts, t, cs, x, hf, h, hw => by
    have IH := open_trod hF k
    have one : ∀ {u : Ty} (x : u.den) (v : Value), Wf u x → Rv S (enc u x) v → ts = [u] → cs = [v] → cs.length = ts.length ∧ ∃ as, Leafs ts as ∧ ∀ (i : Nat) a v, as[i]? = some a → cs[i]? = some v → Rv S a v := by
      intro u x v hx hr e1 e2
      subst e1; subst e2
      refine ⟨rfl, _, .cons x hx .nil, ?_⟩
      intro i a w hi hv
      cases i with
      | zero => simp at hi hv; subst hi; subst hv; exact hr
      | succ i => simp at hi
    unfold flatIs at hf
    split at hf
    · -- a struct
      rename_i fs hu
      simp only [Bool.and_eq_true] at hf
      obtain ⟨hf1, hf2⟩ := hf
      have hf1 := Nat.eq_of_beq_eq_true hf1
      obtain ⟨xs, n, rfl, rfl, hl, hxl, hx⟩ := DataW.trod_struct hu h
      refine ⟨hl.trans hf1, ?_⟩
      have hw' : ∀ n ∈ DataW.weightsEach P (fs.toList.map (·.type)) (xs.map (·.1)), n ≤ big := by
        intro n hn
        refine hw n ?_
        simp only [DataW.weights, hu]
        exact hn
      obtain ⟨as, ha, hav⟩ := flatP_ok (S := S) (cs := cs) fs.toList 0 _ hf2 (by
        intro f hf us hg
        obtain ⟨i, hi, hid⟩ := List.mem_iff_getElem.1 hf
        have hfi : fs[i]? = some f := by
          rw [← Array.getElem?_toList, List.getElem?_eq_getElem hi, hid]
        have hget := hx i f hfi
        have hi' : i < xs.length := by rw [hxl]; simpa using hi
        have hxi : xs[i]? = some xs[i] := List.getElem?_eq_getElem hi'
        rw [hxi] at hget
        have hws : small (xs[i].1.weights P f.type) := fun n hn => hw' n (DataW.weights_mem_each (j := i) (t := f.type) (d := xs[i].1) (by rw [List.getElem?_map, List.getElem?_eq_getElem hi, hid]; rfl) (by rw [List.getElem?_map, hxi]; rfl) n hn)
        exact (IH n us f.type _ _ hg hget hws).2)
      exact ⟨as, ha, fun i a v hi hv => hav i a v hi (by simpa using hv)⟩
    · -- an array
      rename_i n e hu
      simp only [Bool.and_eq_true] at hf
      obtain ⟨hf1, hf2⟩ := hf
      have hf1 := Nat.eq_of_beq_eq_true hf1
      obtain ⟨xs, m, rfl, rfl, hl, hxl, hx⟩ := DataW.trod_array hu h
      refine ⟨hl.trans hf1, ?_⟩
      have hw' : ∀ n ∈ DataW.weightsAll P e (xs.map (·.1)), n ≤ big := by
        intro n hn
        refine hw n ?_
        simp only [DataW.weights, hu]
        exact hn
      obtain ⟨as, ha, hav⟩ := flatP_ok (S := S) (cs := cs) (List.range n) 0 _ hf2 (by
        intro i hi us hg
        have hi : i < n := by simpa using hi
        have hget := hx i hi
        have hi' : i < xs.length := by omega
        have hxi : xs[i]? = some xs[i] := List.getElem?_eq_getElem hi'
        rw [hxi] at hget
        have hws : small (xs[i].1.weights P e) := fun n hn => hw' n (weightsAll_mem (d := xs[i].1) (List.mem_map.2 ⟨_, List.getElem_mem hi', rfl⟩) n hn)
        exact (IH m us e _ _ hg hget hws).2)
      exact ⟨as, ha, fun i a v hi hv => hav i a v hi (by simpa using hv)⟩
    · -- bool
      rename_i hu
      obtain ⟨b, rfl, rfl⟩ := DataW.trod_bool hu h
      exact one (u := .bool) b (.bool b) trivial (.bool b) rfl rfl
    · -- int
      rename_i q q' hu
      have e : q = q' := by simpa using hf
      subst e
      obtain ⟨n, rfl, rfl, hn⟩ := DataW.trod_int hu h
      simp only [Lit.wf, Bool.and_eq_true, decide_eq_true_eq] at hn
      exact one (u := .int q) n (.int q n) hn (.int q n) rfl rfl
    · -- string
      rename_i hu
      obtain ⟨s, rfl, rfl, hs⟩ := DataW.trod_string hu h
      exact one (u := .str) s.data.toList (.string s) (hw _ (by simp [DataW.weights])) (.str _ _ rfl) rfl rfl
    · -- a slice
      rename_i e u hu
      simp only [Bool.and_eq_true] at hf
      obtain ⟨hr, hz, hc, hb, hg⟩ := hf
      have hz : 0 < u.sz := Nat.le_of_ble_eq_true hz
      have hc := Nat.eq_of_beq_eq_true hc
      have hb := Nat.eq_of_beq_eq_true hb
      rcases DataW.trod_slice hu h with ⟨rfl, rfl⟩ | ⟨a, len, cap, elems, rest, n, rfl, rfl, rfl, _, hl, hm, hlen, hel, _, _⟩
      · exact one (u := .slice u) ([] : List u.den) (.slice none 0 0) ⟨by simp, fun x h => by cases h⟩ (.slN _ _ (by simp)) rfl rfl
      · have hw1 : (elems.length + rest.length) * P.bytesOf e ≤ big := hw _ (by simp [DataW.weights, hu])
        have hw2 : ∀ y ∈ elems, small (y.1.weights P e) := fun y hy n hn => hw n (by
          simp only [DataW.weights, hu, List.mem_cons, List.mem_append]
          exact .inr (.inl (weightsAll_mem (List.mem_map.2 ⟨y, hy, rfl⟩) n hn)))
        obtain ⟨xs, hxl, hxs⟩ := pick_list (R := fun i (_ : DataW H × List MemPlace) (x : u.den) => Wf u x ∧ ∃ cs, S.w.cells? 0 (a.add (i * u.sz)) u.sz = some cs ∧ ∀ (j : Nat) c v, (enc u x).cells[j]? = some c → cs[j]? = some v → Rv S c v) elems 0 (by
          intro i y hy
          have hi : i < len := by rw [← hlen]; exact (List.getElem?_eq_some_iff.1 hy).1
          have h1 := hel i hi
          rw [hy, hc, Option.bind_eq_some_iff] at h1
          obtain ⟨cs, h1, h2⟩ := h1
          obtain ⟨_, as, ha, hav⟩ := IH n (leafsOf u) e cs y hg h2 (hw2 y (List.mem_of_getElem? hy))
          obtain ⟨x, hx, hwx⟩ := Leafs.of hr ha
          subst hx
          exact ⟨x, hwx, cs, by simpa using h1, hav⟩)
        have hxw : ∀ x ∈ xs, Wf u x := by
          intro x hx
          obtain ⟨i, hi, e⟩ := List.mem_iff_getElem.1 hx
          have hi' : i < elems.length := by omega
          exact (hxs i elems[i] x (List.getElem?_eq_getElem hi') (by rw [List.getElem?_eq_getElem hi, e])).1
        have hxc : ∀ (i : Nat) x, xs[i]? = some x → ∃ cs, S.w.cells? 0 (a.add (i * u.sz)) u.sz = some cs ∧ ∀ (j : Nat) c v, (enc u x).cells[j]? = some c → cs[j]? = some v → Rv S c v := by
          intro i x hx
          have hi : i < xs.length := (List.getElem?_eq_some_iff.1 hx).1
          have hi' : i < elems.length := by omega
          have := (hxs i elems[i] x (List.getElem?_eq_getElem hi') hx).2
          simpa using this
        have hlx : xs.length = len := hxl.trans hlen
        have hwf : Wf (.slice u) xs := by
          refine ⟨?_, hxw⟩
          rw [← hb, hxl]
          exact Nat.le_trans (Nat.mul_le_mul_right _ (by omega)) hw1
        refine one (u := .slice u) xs _ hwf ?_ rfl rfl
        show Rv S (.sl .any u xs) _
        cases xs with
        | nil =>
          simp at hlx
          subst hlx
          exact .slE _ _ _ _ (by simp)
        | cons x0 xr =>
          -- its first cell is there
          obtain ⟨cs0, h0, _⟩ := hxc 0 x0 rfl
          have h00 := (cells_some h0).2 0 hz
          have hcl := (cells_some h0).1
          have ha0 : a.add (0 * u.sz) = a := by simp [Addr.add]
          rw [ha0] at h00
          have haa : a.add 0 = a := by simp [Addr.add]
          rw [haa, List.getElem?_eq_getElem (by omega)] at h00
          obtain ⟨e1, e2⟩ := spot_none h00
          rw [e1] at hxc ⊢
          generalize a.block = B at *
          generalize a.off = off at *
          rw [← hlx]
          have cellv : ∀ i j, i < (x0 :: xr).length → j < u.sz → ∃ v, S.w.cell? (at_ B (off + (i * u.sz + j))) = some v ∧ ∀ x c, (x0 :: xr)[i]? = some x → (enc u x).cells[j]? = some c → Rv S c v := by
            intro i j hi hj
            obtain ⟨cs, h1, h2⟩ := hxc i _ (List.getElem?_eq_getElem hi)
            obtain ⟨h3, h4⟩ := cells_some h1
            have h5 := h4 j hj
            rw [add_at0, add_at0, List.getElem?_eq_getElem (by omega), Nat.add_assoc] at h5
            refine ⟨_, h5, ?_⟩
            intro x c hx hc
            rw [List.getElem?_eq_getElem hi] at hx
            cases hx
            exact h2 j c _ hc (List.getElem?_eq_getElem (by omega))
          refine .sl _ _ _ _ _ _ (fun k => (S.w.cell? (at_ B (off + k))).getD (.bool false)) (by omega) (by simp) (fun k _ => hF _ _ e2) ?_ ?_
          · intro k hk
            have hk1 : k / u.sz < (x0 :: xr).length := by rw [Nat.div_lt_iff_lt_mul hz]; exact hk
            obtain ⟨v, h1, _⟩ := cellv (k / u.sz) (k % u.sz) hk1 (Nat.mod_lt _ hz)
            rw [Nat.mul_comm, Nat.div_add_mod] at h1
            rw [h1]; rfl
          · intro i x j c hx hc
            have hi : i < (x0 :: xr).length := (List.getElem?_eq_some_iff.1 hx).1
            have hj : j < u.sz := by
              have := (List.getElem?_eq_some_iff.1 hc).1
              rwa [enc_cells_length] at this
            obtain ⟨v, h1, h2⟩ := cellv i j hi hj
            rw [h1]
            exact h2 x c hx hc
    · cases hf

/-- The type's outer form. -/
def headIs (P : Program) (u : Ty) (t : TypeId) : Bool := match u, P.underlying t with
  | .st _, some (.struct _) => true
  | .st _, some (.array _ _) => true
  | .int _, some (.int _) => true
  | .bool, some .bool => true
  | .str, some .string => true
  | .slice _, some (.slice _) => true
  | _, _ => false

theorem head_ok {u : Ty} {t : TypeId} {v : Value} {x : u.den} {b0 : Nat} (h : headIs P u t = true) (hok : Value.okWide P S.w .any b0 t v) (hlen : v.cells.toList.length = (enc u x).cells.length)
    (hav : ∀ (i : Nat) a w, (enc u x).cells[i]? = some a → v.cells.toList[i]? = some w → Rv S a w) : Rv S (enc u x) v := by
  have one : (enc u x).cells = [enc u x] → v.cells = #[v] → Rv S (enc u x) v := fun h1 h2 => hav 0 _ v (by rw [h1]; rfl) (by rw [h2]; rfl)
  have agg : ∀ n (y : denS n), enc u x = .agg (encS n y) → (∃ cs, v = .agg cs) → Rv S (enc u x) v := by
    intro n y h1 h2
    obtain ⟨cs, rfl⟩ := h2
    rw [h1] at hav hlen ⊢
    refine .agg _ _ (by simpa [Value.cells, AV.cells] using hlen.symm) ?_
    intro i c w hc hw
    exact hav i c w hc (by simpa [Value.cells] using hw)
  unfold headIs at h
  split at h
  · rename_i n fs hu
    simp only [Value.okWide, hu] at hok
    obtain ⟨cs, rfl, _⟩ := hok
    exact agg _ _ rfl ⟨_, rfl⟩
  · rename_i n fs e hu
    simp only [Value.okWide, hu] at hok
    obtain ⟨cs, rfl, _⟩ := hok
    exact agg _ _ rfl ⟨_, rfl⟩
  · rename_i q q' hu
    obtain ⟨n, rfl⟩ := okWide_int hu hok
    exact one rfl rfl
  · rename_i hu
    obtain ⟨n, rfl⟩ := okWide_bool hu hok
    exact one rfl rfl
  · rename_i hu
    obtain ⟨n, rfl⟩ := okWide_string hu hok
    exact one rfl rfl
  · rename_i q e hu
    obtain ⟨a, l, c, rfl⟩ := okWide_slice hu hok
    exact one rfl rfl
  · cases h

/-- The program's types are these. -/
def tysIs (P : Program) : List Ty → List TypeId → Bool
  | [], [] => true
  | u :: us, t :: ts => u.real && (flatIs P 8 (leafsOf u) t && (headIs P u t && tysIs P us ts))
  | _, _ => false

theorem open_all {b0 : Nat} (hF : ∀ B o, B < S.w.heap.size → S.F B o) : ∀ (us : List Ty) (ts : List TypeId) (vs : List Value) (ds : List (DataW H)) (ps : List MemPlace), tysIs P us ts = true →
    DataW.TrodAll encH P S.w 0 (fun _ => true) true ts vs ds ps → small (DataW.weightsEach P ts ds) → (∀ (j : Nat) t v, ts[j]? = some t → vs[j]? = some v → Value.okWide P S.w .any b0 t v) →
    ∃ x : Dens us, WfAll us x ∧ (encA us x).length = vs.length ∧ ∀ (i : Nat) a v, (encA us x)[i]? = some a → vs[i]? = some v → Rv S a v
  | [], [], vs, ds, ps, _, h, _, _ => by
    obtain ⟨rfl, rfl, rfl⟩ := ChangeShapes.trodAll_nil h
    exact ⟨(), trivial, rfl, fun i a v h => by simp [encA] at h⟩
  | u :: us, t :: ts, vs, ds, ps, hf, h, hw, hok => by
    obtain ⟨v, vs, d, ds, p, q, rfl, rfl, rfl, h1, h2⟩ := ChangeShapes.trodAll_cons h
    simp only [tysIs, Bool.and_eq_true] at hf
    obtain ⟨hr, hf1, hf2, hf3⟩ := hf
    obtain ⟨fuel, h1⟩ := h1
    simp only [DataW.weightsEach] at hw
    obtain ⟨e1, as, ha, hav⟩ := open_trod hF 8 fuel (leafsOf u) t _ _ hf1 h1 (fun n hn => hw n (List.mem_append.2 (.inl hn)))
    have hal := ha.length
    obtain ⟨x, hx, hwx⟩ := Leafs.of hr ha
    subst hx
    obtain ⟨y, hy, hyl, hyv⟩ := open_all hF us ts vs ds q hf3 h2 (fun n hn => hw n (List.mem_append.2 (.inr hn))) (fun j t v ht hv => hok (j + 1) t v (by simpa using ht) (by simpa using hv))
    refine ⟨(x, y), ⟨hwx, hy⟩, by simp [encA, hyl], ?_⟩
    have hv : Rv S (enc u x) v := head_ok hf2 (hok 0 t v rfl rfl) (by omega) hav
    intro i a w hi hv'
    cases i with
    | zero => simp [encA] at hi hv'; subst hi; subst hv'; exact hv
    | succ i => exact hyv i a w (by simpa [encA] using hi) (by simpa using hv')
  | [], _ :: _, _, _, _, h, _, _, _ => by cases h
  | _ :: _, [], _, _, _, h, _, _, _ => by cases h
end
end Gm

/- From a law's equation to its row. -/
namespace Gm
open Go Go.RowKit

theorem callable_of {P : Program} {f : FuncId} (hn : NoNum P) (h : ((P.funcs[f]?).bind (·.body)).isSome = true) : Callable P f := by
  cases hf : P.funcs[f]? with
  | none => rw [hf] at h; cases h
  | some fn =>
    rw [hf] at h
    cases hb : fn.body with
    | none => simp [hb] at h
    | some c => exact callable hn hf hb

/-- What is done with an answer. -/
def ansK {β : Type} (cod : Cod β) (K : β → Prop) (v : AV) : Prop := match cod.dec v with
  | some r => K r
  | none => False

theorem mkSound {E : Env} {tab : Tab} {lt : Nat → Option LSpec} {d : Nat} {f : FuncId} {β : Type} {ts : List Ty} {cod : Cod β} {F : Dens ts → (β → Prop) → Prop} (g : Ground E tab) (hl : LoopsOk E tab lt d f)
    (hcall : ((E.P.funcs[f]?).bind (·.body)).isSome = true) (h : ∀ x K, apure E tab lt d f (encA ts x) (ansK cod K) = F x K) : EntrySound E f (mkEntry ts cod F) :=
  mkEntry_sound g hl (callable_of g.num hcall) (fun x K k => by have e := h x K; rw [← e] at k; exact k)

section
variable {H : Type} {encH : TypeId × Value → H} {P : Program}

theorem trodAll_below {W W' : World} (hl : laidOutB P = true) (hb : Below W.heap.size W W') : ∀ (ts : List TypeId) (vs : List Value) (ds : List (DataW H)) (ps : List MemPlace), (ts.all fun t => P.readableRec t && decide (t < P.types.size)) = true →
    DataW.TrodAll encH P W 0 (fun _ => true) true ts vs ds ps → (∀ x ∈ ps, x.block < W.heap.size) →
    DataW.TrodAll encH P W' 0 (fun b => decide (b < W.heap.size)) true ts vs ds ps ∧ ds.length = ts.length
  | [], vs, ds, ps, _, h, _ => by
    obtain ⟨rfl, rfl, rfl⟩ := ChangeShapes.trodAll_nil h
    exact ⟨rfl, rfl⟩
  | t :: ts, vs, ds, ps, hr, h, hlt => by
    obtain ⟨v, vs, d, ds, p, q, rfl, rfl, rfl, h1, h2⟩ := ChangeShapes.trodAll_cons h
    simp only [List.all_cons, Bool.and_eq_true, decide_eq_true_eq] at hr
    obtain ⟨⟨r1, r2⟩, r3⟩ := hr
    obtain ⟨h3, h4⟩ := trodAll_below hl hb ts vs ds q (by simpa using r3) h2 (fun x hx => hlt x (by simp [hx]))
    exact ⟨⟨p, q, Below.trod hl r1 r2 h1 hb (fun x hx => hlt x (by simp [hx])), h3, rfl⟩, by simp [h4]⟩
end

/-- A law that answers true at every typed argument. -/
theorem law_calls {E : Env} {tab : Tab} {lt : Nat → Option LSpec} {d : Nat} {f : FuncId} {us : List Ty} {F : Dens us → (Bool → Prop) → Prop} (g : Ground E tab) (hl : LoopsOk E tab lt d f)
    (heq : ∀ (x : Dens us) (K : Bool → Prop), apure E tab lt d f (encA us x) (ansK (cTy .bool) K) = F x K)
    {W : World} {args : Array Value} {x : Dens us} (hv : E.V W) (hx : F x fun r => r = true) (hlen : (encA us x).length = args.size)
    (hr : ∀ (i : Nat) a v, (encA us x)[i]? = some a → args[i]? = some v → Rv (fresh { w := W, F := fun B _ => B < W.heap.size, G := fun _ => ⟨none, 0, 0, 0⟩, N := 0 }) a v) :
    Calls E.P f args W fun e W' => e = .returned (.bool true) ∧ Below W.heap.size W W' := by
  have h := heq x fun r => r = true
  rw [← h] at hx
  refine ((apure_calls g hl hx).2 { w := W, F := fun B _ => B < W.heap.size, G := fun _ => ⟨none, 0, 0, 0⟩, N := 0 } args (fun B o h => h) hv ⟨hlen, hr⟩).mono ?_
  rintro e w' ⟨v, a, T, rfl, rfl, h1, h2, h3⟩
  have ha : a = .bool true := by
    unfold ansK at h2
    split at h2
    · rename_i r hd
      subst h2
      cases a <;> first | (cases hd; rfl) | cases hd
    · exact h2.elim
  subst ha
  obtain ⟨U, hU, hX, _⟩ := h3 (.bool true) (.bool _) (fun _ _ h => h)
  have hv : v = .bool true := by cases h1; rfl
  subst hv
  refine ⟨rfl, ?_⟩
  rw [← hU]
  exact ⟨hX.os, hX.tape, hX.output, hX.size, fun k hk => hX.old k hk⟩

theorem law_contract {E : Env} {P : Program} {tab : Tab} {lt : Nat → Option LSpec} {d : Nat} {f : FuncId} {fn : Func} {us : List Ty} {F : Dens us → (Bool → Prop) → Prop} {s : ChangeSpec} {tb : TypeId} {apart fresh handsOn : Bool} (hP : E.P = P) (g : Ground E tab) (hl : LoopsOk E tab lt d f)
    (heq : ∀ (x : Dens us) (K : Bool → Prop), apure E tab lt d f (encA us x) (ansK (cTy .bool) K) = F x K)
    (hF : ∀ x, WfAll us x → F x fun r => r = true)
    (laid : laidOutB P = true) (hread : (fn.params.toList.all fun t => P.readableRec t && decide (t < P.types.size)) = true) (hty : tysIs P us fn.params.toList = true)
    (hvars : s.vars = []) (hres : fn.resultTypes = #[tb]) (hb : P.underlying tb = some .bool)
    (hs : ∀ (H : Type) (ds : List (DataW H)), ds.length = us.length → s.fn H ds = ⟨[.lit (.bool true)], ds, []⟩)
    {H : Type} {encH : TypeId × Value → H} (W : World) (hv : E.V W) (base : Nat) (args : Array Value) (ds gs : List (DataW H)) (before : List MemPlace)
    (hok : ∀ (j : Nat) t v, fn.params[j]? = some t → args[j]? = some v → Value.okWide P W .any base t v)
    (hW : DataW.Whole encH P fn.params.toList s.vars apart W args.toList ds gs before)
    (hw : (DataW.weightsEach P (fn.params.toList ++ s.plain.varTypes P) (ds ++ gs)).all (· ≤ reachBytes) = true) :
    Calls P f args W fun e W' => ∃ v, e = .returned v ∧ s.post encH P fn apart fresh handsOn false W args v W' := by
  subst hP
  have hW0 := hW
  obtain ⟨p, q, hA, hV, rfl, hfz, hap⟩ := hW
  rw [hvars] at hV
  obtain ⟨rfl, rfl⟩ := ChangeShapes.trodVars_none hV
  have hlt : ∀ x ∈ p, x.block < W.heap.size := fun x hx => hW0.lt x (by simp [hx])
  have hvt : s.plain.varTypes E.P = [] := by
    simp [ChangeSpec.plain, DataSpec.varTypes, hvars]
  rw [hvt, List.append_nil, List.append_nil] at hw
  obtain ⟨x, hx, hlen, hr⟩ := open_all (S := Gm.fresh { w := W, F := fun B _ => B < W.heap.size, G := fun _ => ⟨none, 0, 0, 0⟩, N := 0 }) (fun B o h => h) us fn.params.toList args.toList ds p hty hA
    (fun n hn => of_decide_eq_true (List.all_eq_true.1 hw n hn)) (b0 := base) (fun j t v ht hv => hok j t v (by simpa using ht) (by simpa using hv))
  have hul : us.length = fn.params.toList.length := by
    clear hread hA hok hw hr hlen
    revert hty
    generalize fn.params.toList = ts
    clear hx x hW0 hF heq hs hl hlt hfz hap F
    induction us generalizing ts with
    | nil => intro h; cases ts with
      | nil => rfl
      | cons => cases h
    | cons u us ih => intro h; cases ts with
      | nil => cases h
      | cons t ts =>
        simp only [tysIs, Bool.and_eq_true] at h
        simp [ih ts h.2.2.2]
  refine (law_calls g hl heq hv (hF x hx) (by simpa using hlen) (fun i a v ha hv => hr i a v ha (by simpa using hv))).mono ?_
  rintro e W' ⟨rfl, hbel⟩
  obtain ⟨h1, h2⟩ := trodAll_below laid hbel fn.params.toList args.toList ds p hread hA hlt
  refine ⟨_, rfl, ds, [], _, [], p, [], hW0, ?_, ?_, ?_, hbel.frame _, fun h => by cases h⟩
  · rw [List.append_nil, hs H ds (by omega), hres]
    exact ChangeShapes.trodAll_mk1 (shut_bool hb true)
  · rw [List.append_nil, hs H ds (by omega)]
    exact h1
  · rw [List.append_nil, hs H ds (by omega), hvars]
    rfl
end Gm
