/- Operations that look at the heap, or change it: second part. -/
import Derived.Test.YtbhgalddlkebgaaDoorGmN
import Derived.Deep.AppendSrc
import Derived.Lib.ConvBytes
namespace Gm
open Go

/-- What an operation that may change the heap comes to. -/
def AnsH (P : Program) (w0 : World) (A : Ow) (S : Sit) (s : Sem Next) (K : AV → HS → Prop) : Prop :=
  (∃ v a T hs', (s.run P S.w = Result.ok (.value v) T.w ∨ (s.run P S.w = Result.ok .skip T.w ∧ v = undef)) ∧ Le S T ∧ RH w0 A T hs' ∧ Rv T a v ∧ K a hs') ∨
  (∃ f args, s.run P S.w = Result.ok (.enter f args) S.w ∧
    Calls P f args S.w (fun e w' => ∃ v a T hs', e = .returned v ∧ T.w = w' ∧ Le S T ∧ RH w0 A T hs' ∧ Rv T a v ∧ K a hs'))

/-- The same of a value. -/
def AnsV (P : Program) (w0 : World) (A : Ow) (S : Sit) (s : Sem Value) (K : AV → HS → Prop) : Prop :=
  ∃ v a T hs', s.run P S.w = Result.ok v T.w ∧ Le S T ∧ RH w0 A T hs' ∧ Rv T a v ∧ K a hs'

/-- A table's entries, wherever a run may be. -/
def TabAt (P : Program) (w0 : World) (A : Ow) (tab : Tab) : Prop := TabQ P (fun S => ∃ hs, RH w0 A S hs) tab

def CalSound (P : Program) (w0 : World) (A : Ow) (cal : Callee) : Prop := ∀ f args hs K, cal f args hs K → Callable P f ∧ ∀ (S : Sit) (vs : Array Value), RH w0 A S hs → Cs S args vs →
  Calls P f vs S.w (fun e w' => ∃ v a T hs', e = .returned v ∧ T.w = w' ∧ Le S T ∧ RH w0 A T hs' ∧ Rv T a v ∧ K a hs')

def CloneSound (E : Env) : Prop := ∀ f t w, E.clone f = some (t, w) → Callable E.P f ∧ ∀ (w0 : World) (A : Ow) (S : Sit) (hs : HS) (v : Value) (xs : List t.den), RH w0 A S hs → Rv S (.sl .any t xs) v →
  xs.length * w ≤ room → Calls E.P f #[v] S.w (fun e w' => ∃ v a T, e = .returned v ∧ a = .slr hs.hn ∧ T.w = w' ∧ Le S T ∧ RH w0 A T (hs.push (.row false t xs)) ∧ Rv T a v)

section
variable {E : Env} {S : Sit} {w0 : World} {A : Ow} {hs : HS}

theorem AnsH.of_ansV {P : Program} {s : Sem Value} {K : AV → HS → Prop} (h : AnsV P w0 A S s K) : AnsH P w0 A S (do pure (.value (← s))) K := by
  obtain ⟨v, a, T, hs', h1, h2, h3, h4, h5⟩ := h
  exact .inl ⟨v, a, T, hs', .inl (by simp [h1]), h2, h3, h4, h5⟩

theorem AnsH.of_ansN {P : Program} {s : Sem Next} {K : AV → HS → Prop} (r : RH w0 A S hs) (h : AnsN P S s (fun v => K v hs)) : AnsH P w0 A S s K := by
  rcases h with ⟨v, a, T, h1, h2, h3, h4⟩ | ⟨f, args, h1, h2⟩
  · exact .inl ⟨v, a, T, hs, .inl h1, h2.le, r.ext h2, h3, h4⟩
  · refine .inr ⟨f, args, h1, h2.mono ?_⟩
    rintro e w' ⟨v, a, T, rfl, rfl, h5, h6, h7⟩
    exact ⟨v, a, T, hs, rfl, rfl, h5.le, r.ext h5, h6, h7⟩

theorem RH.alive_lt (r : RH w0 A S hs) {b B : Nat} (h : hs.hp b ≠ .dead) (hB : (S.G b).blk = some B) : B < S.w.heap.size := by
  have hb := r.blks b
  cases hk : hs.hp b with
  | dead => exact absurd hk h
  | cells cs =>
    rw [hk] at hb
    obtain ⟨B', c, e, fz, h1, h2, _⟩ := hb
    rw [hB] at h1; cases h1
    exact heap_lt h2
  | row ro t xs =>
    rw [hk] at hb
    obtain ⟨_, _, h3⟩ := hb
    rcases h3 with ⟨h3, _⟩ | ⟨B', c, e, fz, h1, h2, _⟩
    · rw [hB] at h3; cases h3
    · rw [hB] at h1; cases h1
      exact heap_lt h2

/-- A new block with a name of its own. -/
def Sit.name (S : Sit) (o : Obj) (n : Nat) (len cap esz : Nat) : Sit :=
  { w := { S.w with heap := S.w.heap.push o, drawn := n }, F := S.F, G := upd S.G S.N ⟨some S.w.heap.size, len, cap, esz⟩, N := S.N + 1 }

theorem upd_self {α : Type} (f : Nat → α) (k : Nat) (v : α) : upd f k v k = v := by simp [upd]
theorem upd_ne {α : Type} (f : Nat → α) {k n : Nat} (v : α) (h : n ≠ k) : upd f k v n = f n := by
  have : Nat.beq n k = false := by rw [Bool.eq_false_iff]; simpa using h
  simp [upd, this]

theorem name_heap (S : Sit) (o : Obj) (n len cap esz : Nat) (B : Nat) (h : B ≠ S.w.heap.size) : (S.name o n len cap esz).w.heap[B]? = S.w.heap[B]? := by
  show (S.w.heap.push o)[B]? = _
  rw [Array.getElem?_push, if_neg h]

theorem name_heap_self (S : Sit) (o : Obj) (n len cap esz : Nat) : (S.name o n len cap esz).w.heap[S.w.heap.size]? = some o := by
  show (S.w.heap.push o)[S.w.heap.size]? = _
  rw [Array.getElem?_push, if_pos rfl]

theorem Le.name (S : Sit) (o : Obj) (n len cap esz : Nat) (hF : ∀ B o, S.F B o → B < S.w.heap.size) : Le S (S.name o n len cap esz) where
  F := fun _ _ h => h
  cell := fun B k v h hc => by
    have := hF B k h
    rw [cell_at, name_heap _ _ _ _ _ _ _ (by omega), ← cell_at]
    exact hc
  G := fun b hb => upd_ne _ _ (by omega)
  N := by simp [Sit.name]

theorem RH.name (r : RH w0 A S hs) (o : Obj) (n len cap esz : Nat) (k : Blk) (hk : RB (S.name o n len cap esz) S.N k) : RH w0 A (S.name o n len cap esz) (hs.push k) where
  N := by simp [Sit.name, HS.push, r.N]
  dead := fun b hb => by
    simp only [HS.push] at hb ⊢
    rw [upd_ne _ _ (by omega)]
    exact r.dead b (by omega)
  blks := fun b => by
    simp only [HS.push]
    by_cases e : b = hs.hn
    · subst e
      rw [upd_self]
      rw [← r.N]
      exact hk
    · rw [upd_ne _ _ e]
      refine RB.keep (Le.name S o n len cap esz r.F) (upd_ne _ _ (by rw [r.N]; exact e)) ?_ (fun B o _ _ h => h) (r.blks b)
      intro B hd hB
      have := r.alive_lt hd hB
      exact name_heap _ _ _ _ _ _ _ (by omega)
  inj := fun b c B hne hb hc hB hC => by
    simp only [HS.push] at hb hc
    have e1 : ∀ x, hs.hp x ≠ .dead → ((S.name o n len cap esz).G x).blk = some B → x ≠ S.N → B < S.w.heap.size := by
      intro x hx hxB hxn
      have : ((S.name o n len cap esz).G x) = S.G x := upd_ne _ _ hxn
      rw [this] at hxB
      exact r.alive_lt hx hxB
    have e2 : ((S.name o n len cap esz).G S.N).blk = some S.w.heap.size := by
      show (upd S.G S.N _ S.N).blk = _
      rw [upd_self]
    by_cases hbn : b = S.N
    · have hcn : c ≠ S.N := fun h => hne (hbn.trans h.symm)
      rw [upd_ne _ _ (by rw [← r.N]; exact hcn)] at hc
      have := e1 c hc hC hcn
      subst hbn
      rw [e2] at hB
      cases hB
      omega
    · rw [upd_ne _ _ (by rw [← r.N]; exact hbn)] at hb
      have h1 := e1 b hb hB hbn
      by_cases hcn : c = S.N
      · subst hcn
        rw [e2] at hC
        cases hC
        omega
      · rw [upd_ne _ _ (by rw [← r.N]; exact hcn)] at hc
        have g1 : ((S.name o n len cap esz).G b) = S.G b := upd_ne _ _ hbn
        have g2 : ((S.name o n len cap esz).G c) = S.G c := upd_ne _ _ hcn
        rw [g1] at hB
        rw [g2] at hC
        exact r.inj b c B hne hb hc hB hC
  F := fun B o h => by
    have := r.F B o h
    show B < (S.w.heap.push _).size
    simp; omega
  os := r.os
  tape := r.tape
  output := r.output
  size := by
    have := r.size
    show _ ≤ (S.w.heap.push o).size
    simp; omega
  old := fun B hB hA => by
    rw [name_heap _ _ _ _ _ _ _ (by have := r.size; omega)]
    exact r.old B hB hA
  own := fun b B hb hB => by
    simp only [HS.push] at hb
    by_cases hbn : b = S.N
    · subst hbn
      have e2 : ((S.name o n len cap esz).G S.N).blk = some S.w.heap.size := by
        show (upd S.G S.N _ S.N).blk = _
        rw [upd_self]
      rw [e2] at hB
      cases hB
      exact .inr r.size
    · rw [upd_ne _ _ (by rw [← r.N]; exact hbn)] at hb
      have g1 : ((S.name o n len cap esz).G b) = S.G b := upd_ne _ _ hbn
      rw [g1] at hB
      exact r.own b B hb hB
  fo := r.fo

theorem name_ptr (S : Sit) (o : Obj) (n len cap esz : Nat) : Rv (S.name o n len cap esz) (.ptr S.N 0) (.pointer (some (at_ S.w.heap.size 0))) :=
  .ptr _ _ _ (by simp [Sit.name]) (by show (upd S.G S.N _ S.N).blk = _; rw [upd_self])

/-- A new block of cells. -/
theorem RB_name_cells {cs : List AV} {c : Array Value} {e : TypeId} {n : Nat} (r : RH w0 A S hs) (h : Cs S cs c) : RB (S.name (.cells c e) n 0 0 0) S.N (.cells cs) := by
  refine ⟨S.w.heap.size, c, e, (0, 0), by show (upd S.G S.N _ S.N).blk = _; rw [upd_self], name_heap_self _ _ _ _ _ _, h.1.symm, fun o ho => by simp, ?_, ?_⟩
  · intro i a v ha hv
    exact (h.2 i a v ha hv).mono (Le.name S _ _ _ _ _ r.F)
  · intro o hF
    have := r.F _ o hF
    omega

theorem alloc_ok {t : TypeId} {z : AV} {K : AV → HS → Prop} (r : RH w0 A S hs) (hz : zeroC E t = some z) (hs1 : z.solid = true) (hK : K (.ptr hs.hn 0) (hs.push (.cells z.cells))) :
    AnsV E.P w0 A S (Instr.alloc t true (.tuple #[])) K := by
  obtain ⟨zv, h1, h2⟩ := zero_ok hz
  have hr : Rv S z zv := by rw [h2]; exact vAV_ok _
  have hc := hr.cells hs1
  refine ⟨.pointer (some (at_ S.w.heap.size 0)), .ptr S.N 0, S.name (.cells zv.cells t) S.w.drawn 0 0 0, hs.push (.cells z.cells), ?_, Le.name _ _ _ _ _ _ r.F, r.name _ _ _ _ _ _ (RB_name_cells r hc), name_ptr _ _ _ _ _ _, by rw [r.N]; exact hK⟩
  simp [Instr.alloc, h1, newVar, newRow]
  exact ⟨rfl, rfl⟩

theorem box_ok {t : TypeId} {a : AV} {v : Value} {K : AV → HS → Prop} (r : RH w0 A S hs) (hs1 : a.solid = true) (hv : Rv S a v) (hK : K (.ptr hs.hn 0) (hs.push (.cells a.cells))) :
    AnsV E.P w0 A S (Instr.box t v) K := by
  have hc := hv.cells hs1
  refine ⟨.pointer (some (at_ S.w.heap.size 0)), .ptr S.N 0, S.name (.cells v.cells t) S.w.drawn 0 0 0, hs.push (.cells a.cells), ?_, Le.name _ _ _ _ _ _ r.F, r.name _ _ _ _ _ _ (RB_name_cells r hc), name_ptr _ _ _ _ _ _, by rw [r.N]; exact hK⟩
  simp [Instr.box, newVar, newRow]
  exact ⟨rfl, rfl⟩

/-- A new row, behind its name. -/
theorem row_new {t : Ty} {xs : List t.den} {c : Array Value} {e : TypeId} {fz : Nat × Nat} {n cap : Nat} (r : RH w0 A S hs) (h1 : xs.length ≤ cap) (h2 : cap * t.sz ≤ c.size)
    (h3 : ∀ o, o < cap * t.sz → ¬ (fz.1 ≤ o ∧ o < fz.2))
    (h4 : ∀ (i : Nat) x (j : Nat) a v, xs[i]? = some x → (enc t x).cells[j]? = some a → c[i * t.sz + j]? = some v → Rv S a v) :
    RB (S.name (.cells c e fz) n xs.length cap t.sz) S.N (.row false t xs) := by
  have e1 : (S.name (.cells c e fz) n xs.length cap t.sz).G S.N = ⟨some S.w.heap.size, xs.length, cap, t.sz⟩ := upd_self _ _ _
  refine ⟨by rw [e1], by rw [e1], .inr ⟨S.w.heap.size, c, e, fz, by rw [e1], name_heap_self _ _ _ _ _ _, by rw [e1]; exact h1, by rw [e1]; exact h2, by rw [e1]; exact h3, ?_, ?_⟩⟩
  · intro i x j a v hx ha hv
    exact (h4 i x j a v hx ha hv).mono (Le.name S _ _ _ _ _ r.F)
  · intro o hF
    have := r.F _ o hF
    omega

theorem name_slr (S : Sit) (o : Obj) (n len cap esz : Nat) : Rv (S.name o n len cap esz) (.slr S.N) (.slice (some (at_ S.w.heap.size 0)) len cap) := by
  have e1 : (S.name o n len cap esz).G S.N = ⟨some S.w.heap.size, len, cap, esz⟩ := upd_self _ _ _
  have h := Rv.slr (S := S.name o n len cap esz) S.N S.w.heap.size (by simp [Sit.name]) (by rw [e1])
  rw [e1] at h
  exact h

end
end Gm
