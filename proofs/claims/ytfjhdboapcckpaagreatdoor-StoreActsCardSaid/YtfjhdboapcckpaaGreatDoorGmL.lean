/- The relation between the abstract machine's values and the machine's own. -/
import Derived.Test.YtfjhdboapcckpaaGreatDoorGmB
import Derived.Laws.Cells
import Derived.Laws.Strings
import Derived.Laws.BytesArg
namespace Gm
open Go
structure Gh where
  blk : Option Nat
  len : Nat
  cap : Nat
  esz : Nat
def resv : Gh := ⟨none, 1, 0, 0⟩
structure Sit where
  w : World
  F : Nat → Nat → Prop
  G : Nat → Gh
  N : Nat
def at_ (B o : Nat) : Addr := ⟨B, o, none⟩
inductive Rv (S : Sit) : AV → Value → Prop
  | int (k n) : Rv S (.int k n) (.int k n)
  | bool (b) : Rv S (.bool b) (.bool b)
  | str (s : Str) (b : ByteArray) : b.data.toList = s → Rv S (.str s) (.string b)
  | agg (cs : List AV) (vs : Array Value) : cs.length = vs.size → (∀ (i : Nat) c v, cs[i]? = some c → vs[i]? = some v → Rv S c v) → Rv S (.agg cs) (.agg vs)
  | tup (cs : List AV) (vs : Array Value) : cs.length = vs.size → (∀ (i : Nat) c v, cs[i]? = some c → vs[i]? = some v → Rv S c v) → Rv S (.tup cs) (.tuple vs)
  | nilp : Rv S .nilp (.pointer none)
  | ptr (b o B) : b < S.N → (S.G b).blk = some B → Rv S (.ptr b o) (.pointer (some (at_ B o)))
  | fptr (cs : List AV) (o B f : Nat) (val : Nat → Value) : (∀ i, i < cs.length → S.F B (f + i)) →
      (∀ i, i < cs.length → S.w.cell? (at_ B (f + i)) = some (val i)) → (∀ (i : Nat) c, cs[i]? = some c → Rv S c (val i)) → Rv S (.fptr cs o) (.pointer (some (at_ B (f + o))))
  | elt (b i o B) : b < S.N → i < (S.G b).len → (S.G b).blk = some B → Rv S (.elt b i o) (.pointer (some (at_ B (i * (S.G b).esz + o))))
  | snil : Rv S .snil (.slice none 0 0)
  | slN (f t) : f ≠ .nn → Rv S (.sl f t []) (.slice none 0 0)
  | slE (f t) (a : Addr) (cap : Nat) : (f = .full → cap = 0) → Rv S (.sl f t []) (.slice (some a) 0 cap)
  | sl (f t) (xs : List t.den) (B off cap : Nat) (val : Nat → Value) : xs.length ≤ cap → (f = .full → cap = xs.length) →
      (∀ k, k < xs.length * t.sz → S.F B (off + k)) → (∀ k, k < xs.length * t.sz → S.w.cell? (at_ B (off + k)) = some (val k)) →
      (∀ (i : Nat) x (j : Nat) c, xs[i]? = some x → (enc t x).cells[j]? = some c → Rv S c (val (i * t.sz + j))) → Rv S (.sl f t xs) (.slice (some (at_ B off)) xs.length cap)
  | vl (vs : List AV) (z B off : Nat) (val : Nat → Value) : (∀ v, v ∈ vs → v.cells.length = z) → (∀ v, v ∈ vs → v.solid = true) →
      (∀ k, k < vs.length * z → S.F B (off + k)) → (∀ k, k < vs.length * z → S.w.cell? (at_ B (off + k)) = some (val k)) →
      (∀ (i : Nat) v (j : Nat) c, vs[i]? = some v → v.cells[j]? = some c → Rv S c (val (i * z + j))) → Rv S (.vl vs) (.slice (some (at_ B off)) vs.length vs.length)
  | slr (b B) : b < S.N → (S.G b).blk = some B → Rv S (.slr b) (.slice (some (at_ B 0)) (S.G b).len (S.G b).cap)
  | slrN (b) (a : Option Addr) : b < S.N → (S.G b).blk = none → (S.G b).len = 0 → (S.G b).cap = 0 → Rv S (.slr b) (.slice a 0 0)
  | func (f : FuncId) (p q : List AV) (ps qs : Array Value) : p.length = ps.size → q.length = qs.size → (∀ (i : Nat) c v, p[i]? = some c → ps[i]? = some v → Rv S c v) →
      (∀ (i : Nat) c v, q[i]? = some c → qs[i]? = some v → Rv S c v) → Rv S (.func f p q) (.func (.func f) ps qs)
  | nilf : Rv S .nilf .nilFunc
  | iface (t v v') : Rv S v v' → Rv S (.iface t v) (.iface t v')
  | nili : Rv S .nili .nilIface
  | top (v) : Rv S .top v
structure Le (S T : Sit) : Prop where
  F : ∀ B o, S.F B o → T.F B o
  cell : ∀ B o v, S.F B o → S.w.cell? (at_ B o) = some v → T.w.cell? (at_ B o) = some v
  G : ∀ b, b < S.N → T.G b = S.G b
  N : S.N ≤ T.N
theorem Le.refl (S : Sit) : Le S S := ⟨fun _ _ h => h, fun _ _ _ _ h => h, fun _ _ => rfl, Nat.le_refl _⟩
theorem Le.trans {S T U : Sit} (h : Le S T) (k : Le T U) : Le S U :=
  ⟨fun B o x => k.F B o (h.F B o x), fun B o v x y => k.cell B o v (h.F B o x) (h.cell B o v x y), fun b hb => (k.G b (Nat.lt_of_lt_of_le hb h.N)).trans (h.G b hb), Nat.le_trans h.N k.N⟩
structure LeW (S T : Sit) : Prop where
  F : ∀ B o, S.F B o → T.F B o
  cell : ∀ B o v, S.F B o → S.w.cell? (at_ B o) = some v → T.w.cell? (at_ B o) = some v
  G : ∀ b, b < S.N → T.G b = S.G b ∨ S.G b = resv
  N : S.N ≤ T.N
theorem Le.w {S T : Sit} (h : Le S T) : LeW S T := ⟨h.F, h.cell, fun b hb => .inl (h.G b hb), h.N⟩
structure LeN (nm : Option Nat) (S T : Sit) : Prop where
  F : ∀ B o, S.F B o → T.F B o
  cell : ∀ B o v, S.F B o → S.w.cell? (at_ B o) = some v → T.w.cell? (at_ B o) = some v
  G : ∀ b, b < S.N → nm ≠ some b → T.G b = S.G b
  N : S.N ≤ T.N
theorem Le.n {S T : Sit} (nm : Option Nat) (h : Le S T) : LeN nm S T := ⟨h.F, h.cell, fun b hb _ => h.G b hb, h.N⟩
theorem LeN.w {S T : Sit} {nm : Option Nat} (h : LeN nm S T) (hr : ∀ b, nm = some b → S.G b = resv) : LeW S T :=
  ⟨h.F, h.cell, fun b hb => by
    by_cases e : nm = some b
    · exact .inr (hr b e)
    · exact .inl (h.G b hb e), h.N⟩
theorem LeN.le {S0 S T : Sit} {nm : Option Nat} (h0 : Le S0 S) (h : LeN nm S T) (hr : ∀ b, nm = some b → S0.N ≤ b) : Le S0 T :=
  ⟨fun B o x => h.F B o (h0.F B o x), fun B o v x y => h.cell B o v (h0.F B o x) (h0.cell B o v x y),
   fun b hb => (h.G b (Nat.lt_of_lt_of_le hb h0.N) (fun e => absurd (hr b e) (Nat.not_le_of_lt hb))).trans (h0.G b hb), Nat.le_trans h0.N h.N⟩
theorem LeN.le' {S T : Sit} (h : LeN none S T) : Le S T := ⟨h.F, h.cell, fun b hb => h.G b hb (by simp), h.N⟩
theorem Rv.monoW {S T : Sit} (h : LeW S T) {a : AV} {v : Value} (r : Rv S a v) : Rv T a v := by
  induction r with
  | int k n => exact .int k n
  | bool b => exact .bool b
  | str s b e => exact .str s b e
  | agg cs vs e _ ih => exact .agg cs vs e ih
  | tup cs vs e _ ih => exact .tup cs vs e ih
  | nilp => exact .nilp
  | ptr b o B hb hB =>
    rcases h.G b hb with e | e
    · exact .ptr b o B (Nat.lt_of_lt_of_le hb h.N) (by rw [e]; exact hB)
    · rw [e] at hB; cases hB
  | fptr cs o B f val hF hc _ ih => exact .fptr cs o B f val (fun i hi => h.F _ _ (hF i hi)) (fun i hi => h.cell _ _ _ (hF i hi) (hc i hi)) ih
  | elt b i o B hb hi hB =>
    rcases h.G b hb with e | e
    · rw [← e]
      exact .elt b i o B (Nat.lt_of_lt_of_le hb h.N) (by rw [e]; exact hi) (by rw [e]; exact hB)
    · rw [e] at hB; cases hB
  | snil => exact .snil
  | slN f t e => exact .slN f t e
  | slE f t a cap e => exact .slE f t a cap e
  | sl f t xs B off cap val h1 h2 hF hc _ ih => exact .sl f t xs B off cap val h1 h2 (fun i hi => h.F _ _ (hF i hi)) (fun i hi => h.cell _ _ _ (hF i hi) (hc i hi)) ih
  | vl vs z B off val h1 h1' hF hc _ ih => exact .vl vs z B off val h1 h1' (fun i hi => h.F _ _ (hF i hi)) (fun i hi => h.cell _ _ _ (hF i hi) (hc i hi)) ih
  | slr b B hb hB =>
    rcases h.G b hb with e | e
    · rw [← e]
      exact .slr b B (Nat.lt_of_lt_of_le hb h.N) (by rw [e]; exact hB)
    · rw [e] at hB; cases hB
  | slrN b a hb hB hl hc =>
    rcases h.G b hb with e | e
    · exact .slrN b a (Nat.lt_of_lt_of_le hb h.N) (by rw [e]; exact hB) (by rw [e]; exact hl) (by rw [e]; exact hc)
    · rw [e] at hl; cases hl
  | func f p q ps qs e1 e2 _ _ ih1 ih2 => exact .func f p q ps qs e1 e2 ih1 ih2
  | nilf => exact .nilf
  | iface t v v' _ ih => exact .iface t v v' ih
  | nili => exact .nili
  | top v => exact .top v
theorem Rv.mono {S T : Sit} (h : Le S T) {a : AV} {v : Value} (r : Rv S a v) : Rv T a v := r.monoW h.w
theorem Rv.weak {S : Sit} {a b : AV} (h : Weak a b) : ∀ {v : Value}, Rv S a v → Rv S b v := by
  induction h with
  | refl => exact fun r => r
  | own o t xs =>
    intro v r
    cases r with
    | slN f t e => exact .slN _ _ (by simp)
    | slE f t a cap e => exact .slE _ _ _ _ (by simp)
    | sl f t xs B off cap val h1 h2 hF hc h3 => exact .sl _ _ _ _ _ _ val h1 (by simp) hF hc h3
  | nil t =>
    intro v r
    cases r
    exact .slN _ _ (by simp)
  | vl t ws xs hlen hw ih =>
    intro v r
    cases r with
    | vl _ z B off val h1 h1' hF hc h3 =>
      have hzt : ∀ i (hi : i < ws.length), z = t.sz := by
        intro i hi
        have h2 := weak_length (hw i hi (by omega))
        rw [enc_cells_length, h1 ws[i] (List.getElem_mem hi)] at h2
        exact h2
      have key : ∀ k, k < xs.length * t.sz → k < ws.length * z := by
        intro k hk
        cases ws with
        | nil => simp at hlen; rw [← hlen] at hk; simp at hk
        | cons w r =>
          rw [hzt 0 (by simp), hlen]
          exact hk
      rw [hlen]
      refine .sl _ t xs B off xs.length val (Nat.le_refl _) (by simp) (fun k hk => hF k (key k hk)) (fun k hk => hc k (key k hk)) ?_
      intro i x j c hx hcell
      obtain ⟨hi', rfl⟩ := List.getElem?_eq_some_iff.1 hx
      have hi : i < ws.length := by omega
      have hz := hzt i hi
      have hwi := hw i hi hi'
      have hih := @ih i hi hi'
      have hj : j < t.sz := by
        have := (List.getElem?_eq_some_iff.1 hcell).1
        rwa [enc_cells_length] at this
      have hlist : ∀ (e : (enc t xs[i]).cells = [enc t xs[i]]) (e2 : (ws[i]).cells = [ws[i]]), Rv S c (val (i * t.sz + j)) := by
        intro e e2
        have h4 : t.sz = 1 := by rw [← enc_cells_length t xs[i], e]; rfl
        have hj0 : j = 0 := by omega
        subst hj0
        rw [e] at hcell
        have hc0 : enc t xs[i] = c := by simpa using hcell
        rw [← hc0]
        have := h3 i ws[i] 0 ws[i] (List.getElem?_eq_getElem hi) (by rw [e2]; rfl)
        rw [hz] at this
        exact hih this
      cases t with
      | st n =>
        obtain ⟨cs, ecs⟩ := weak_agg hwi
        have hcs : cs.length = (Ty.st n).sz := by
          have := weak_length hwi
          rw [ecs, enc_cells_length] at this
          exact this
        have r1 : Rv S ws[i] (.agg (Array.ofFn (n := cs.length) fun k => val (i * z + k))) := by
          rw [ecs]
          refine .agg _ _ (by simp) ?_
          intro k a w ha hwv
          have hk : k < cs.length := (List.getElem?_eq_some_iff.1 ha).1
          have e1 : w = val (i * z + k) := by
            rw [Array.getElem?_eq_getElem (by simpa using hk)] at hwv
            simpa using hwv.symm
          rw [e1]
          exact h3 i ws[i] k a (List.getElem?_eq_getElem hi) (by rw [ecs]; exact ha)
        have r2 := hih r1
        cases r2 with
        | agg _ _ e hr =>
          have hju : j < (Array.ofFn (n := cs.length) fun k => val (i * z + k)).size := by simp; omega
          have := hr j c _ hcell (Array.getElem?_eq_getElem hju)
          simpa [hz] using this
      | int k => exact hlist rfl (weak_one hwi (fun ds h => by cases h))
      | bool => exact hlist rfl (weak_one hwi (fun ds h => by cases h))
      | str => exact hlist rfl (weak_one hwi (fun ds h => by cases h))
      | slice u => exact hlist rfl (weak_one hwi (fun ds h => by cases h))
  | agg cs ds e _ ih =>
    intro v r
    cases r with
    | agg _ vs e' hr =>
      refine .agg _ _ (by omega) ?_
      intro i c v hc hv
      obtain ⟨h1, rfl⟩ := List.getElem?_eq_some_iff.1 hc
      have h0 : i < cs.length := by omega
      exact ih i h0 h1 (hr i cs[i] v (List.getElem?_eq_getElem h0) hv)
theorem Rv.dec {S : Sit} {t : Ty} {a : AV} {x : t.den} {v : Value} (h : Gm.dec t a = some x) (r : Rv S a v) : Rv S (enc t x) v := r.weak (dec_weak h)
theorem Rv.cells {S : Sit} {a : AV} {v : Value} (r : Rv S a v) (hs : a.solid = true) : a.cells.length = v.cells.size ∧ ∀ (i : Nat) c u, a.cells[i]? = some c → v.cells[i]? = some u → Rv S c u := by
  have one : ∀ (a : AV) (v : Value), a.cells = [a] → v.cells = #[v] → Rv S a v → a.cells.length = v.cells.size ∧ ∀ (i : Nat) c u, a.cells[i]? = some c → v.cells[i]? = some u → Rv S c u := by
    intro a v ha hv r
    rw [ha, hv]
    refine ⟨rfl, ?_⟩
    intro i c u h1 h2
    cases i with
    | zero => simp at h1 h2; subst h1; subst h2; exact r
    | succ i => simp at h1
  cases r with
  | agg cs vs e h => exact ⟨e, h⟩
  | tup => simp [AV.solid] at hs
  | top => simp [AV.solid] at hs
  | int => exact one _ _ rfl rfl (.int _ _)
  | bool => exact one _ _ rfl rfl (.bool _)
  | str s b e => exact one _ _ rfl rfl (.str s b e)
  | nilp => exact one _ _ rfl rfl .nilp
  | ptr b o B h1 h2 => exact one _ _ rfl rfl (.ptr b o B h1 h2)
  | fptr cs o B f val h1 h2 h3 => exact one _ _ rfl rfl (.fptr cs o B f val h1 h2 h3)
  | elt b i o B h1 h2 h3 => exact one _ _ rfl rfl (.elt b i o B h1 h2 h3)
  | snil => exact one _ _ rfl rfl .snil
  | slN f t e => exact one _ _ rfl rfl (.slN f t e)
  | slE f t a cap e => exact one _ _ rfl rfl (.slE f t a cap e)
  | sl f t xs B off cap val h1 h2 h3 h4 h5 => exact one _ _ rfl rfl (.sl f t xs B off cap val h1 h2 h3 h4 h5)
  | vl vs z B off val h1 h1' h3 h4 h5 => exact one _ _ rfl rfl (.vl vs z B off val h1 h1' h3 h4 h5)
  | slr b B h1 h2 => exact one _ _ rfl rfl (.slr b B h1 h2)
  | slrN b a h1 h2 h3 h4 => exact one _ _ rfl rfl (.slrN b a h1 h2 h3 h4)
  | func f p q ps qs e1 e2 h1 h2 => exact one _ _ rfl rfl (.func f p q ps qs e1 e2 h1 h2)
  | nilf => exact one _ _ rfl rfl .nilf
  | iface t v v' h => exact one _ _ rfl rfl (.iface t v v' h)
  | nili => exact one _ _ rfl rfl .nili
theorem vAV0_ok {S : Sit} (v : Value) : Rv S (vAV0 v) v := by
  unfold vAV0
  split <;> first | exact .bool _ | exact .int _ _ | exact .str _ _ rfl | exact .nilp | exact .snil | exact .nilf | exact .nili | exact .top _
theorem vAV1_ok {S : Sit} (v : Value) : Rv S (vAV1 v) v := by
  unfold vAV1
  split
  · rename_i cs
    refine .agg _ _ (by simp) ?_
    intro i c u h1 h2
    simp at h1 h2
    rw [h2] at h1
    simp at h1
    subst h1
    exact vAV0_ok _
  · exact vAV0_ok _
theorem vAV_ok {S : Sit} (v : Value) : Rv S (vAV v) v := by
  unfold vAV
  split
  · exact .iface _ _ _ (vAV1_ok _)
  · exact vAV1_ok _
end Gm

namespace Gm
open Go
theorem cell_at (w : World) (B o : Nat) : w.cell? (at_ B o) = match w.heap[B]? with | some (.cells c _ _) => c[o]? | _ => none := by
  unfold World.cell? at_
  dsimp only
  split <;> simp_all
def RB (S : Sit) (b : Nat) : Blk → Prop
  | .dead => True
  | .cells cs => S.G b = resv ∨ ∃ B c e fz, (S.G b).blk = some B ∧ S.w.heap[B]? = some (.cells c e fz) ∧ c.size = cs.length ∧ (∀ o, o < cs.length → ¬ (fz.1 ≤ o ∧ o < fz.2)) ∧
      (∀ (i : Nat) a v, cs[i]? = some a → c[i]? = some v → Rv S a v) ∧ (∀ o, ¬ S.F B o)
  | .row ro t xs => (S.G b).len = xs.length ∧ (S.G b).esz = t.sz ∧ (((S.G b).blk = none ∧ xs = [] ∧ (S.G b).cap = 0) ∨
      ∃ B c e fz, (S.G b).blk = some B ∧ S.w.heap[B]? = some (.cells c e fz) ∧ xs.length ≤ (S.G b).cap ∧ (S.G b).cap * t.sz ≤ c.size ∧
        (∀ o, o < (S.G b).cap * t.sz → ¬ (fz.1 ≤ o ∧ o < fz.2)) ∧
        (∀ (i : Nat) x (j : Nat) a v, xs[i]? = some x → (enc t x).cells[j]? = some a → c[i * t.sz + j]? = some v → Rv S a v) ∧
        (∀ o, S.F B o → ro = true ∧ o < xs.length * t.sz))
structure Ow where
  own : Nat → Prop
  fz : Nat → Nat → Prop
structure RH (w0 : World) (A : Ow) (S : Sit) (hs : HS) : Prop where
  N : S.N = hs.hn
  dead : ∀ b, hs.hn ≤ b → hs.hp b = .dead
  blks : ∀ b, RB S b (hs.hp b)
  inj : ∀ b c B, b ≠ c → hs.hp b ≠ .dead → hs.hp c ≠ .dead → (S.G b).blk = some B → (S.G c).blk ≠ some B
  F : ∀ B o, S.F B o → B < S.w.heap.size
  os : S.w.os = w0.os
  tape : S.w.tape = w0.tape
  output : S.w.output = w0.output
  size : w0.heap.size ≤ S.w.heap.size
  old : ∀ B, B < w0.heap.size → ¬ A.own B → S.w.heap[B]? = w0.heap[B]?
  own : ∀ b B, hs.hp b ≠ .dead → (S.G b).blk = some B → A.own B ∨ w0.heap.size ≤ B
  fo : ∀ B o, S.F B o → B < w0.heap.size → ¬ A.own B → A.fz B o
structure Ext (S T : Sit) : Prop where
  le : Le S T
  G : T.G = S.G
  N : T.N = S.N
  os : T.w.os = S.w.os
  tape : T.w.tape = S.w.tape
  output : T.w.output = S.w.output
  size : S.w.heap.size ≤ T.w.heap.size
  old : ∀ B, B < S.w.heap.size → T.w.heap[B]? = S.w.heap[B]?
  F : ∀ B o, T.F B o → S.F B o ∨ (S.w.heap.size ≤ B ∧ B < T.w.heap.size)
theorem Ext.refl (S : Sit) : Ext S S := ⟨.refl _, rfl, rfl, rfl, rfl, rfl, Nat.le_refl _, fun _ _ => rfl, fun _ _ h => .inl h⟩
theorem Ext.trans {S T U : Sit} (h : Ext S T) (k : Ext T U) : Ext S U where
  le := h.le.trans k.le
  G := k.G.trans h.G
  N := k.N.trans h.N
  os := k.os.trans h.os
  tape := k.tape.trans h.tape
  output := k.output.trans h.output
  size := Nat.le_trans h.size k.size
  old := fun B hB => (k.old B (Nat.lt_of_lt_of_le hB h.size)).trans (h.old B hB)
  F := fun B o hF => by
    rcases k.F B o hF with h1 | ⟨h1, h2⟩
    · rcases h.F B o h1 with h3 | ⟨h3, h4⟩
      · exact .inl h3
      · exact .inr ⟨h3, Nat.lt_of_lt_of_le h4 k.size⟩
    · exact .inr ⟨Nat.le_trans h.size h1, h2⟩
theorem heap_lt {w : World} {B : Nat} {o : Obj} (h : w.heap[B]? = some o) : B < w.heap.size := (Array.getElem?_eq_some_iff.1 h).1
theorem RB.ext {S T : Sit} (h : Ext S T) {b : Nat} {k : Blk} (r : RB S b k) : RB T b k := by
  cases k with
  | dead => trivial
  | cells cs =>
    rcases r with r | ⟨B, c, e, fz, hB, hh, h1, h2, h3, h4⟩
    · exact .inl (by rw [h.G]; exact r)
    refine .inr ⟨B, c, e, fz, by rw [h.G]; exact hB, by rw [h.old B (heap_lt hh)]; exact hh, h1, h2, fun i a v ha hv => (h3 i a v ha hv).mono h.le, ?_⟩
    intro o hF
    rcases h.F B o hF with h5 | ⟨h5, _⟩
    · exact h4 o h5
    · have := heap_lt hh; omega
  | row ro t xs =>
    obtain ⟨h1, h2, h3⟩ := r
    refine ⟨by rw [h.G]; exact h1, by rw [h.G]; exact h2, ?_⟩
    rw [h.G]
    rcases h3 with h3 | ⟨B, c, e, fz, hB, hh, h4, h5, h6, h7, h8⟩
    · exact .inl h3
    · refine .inr ⟨B, c, e, fz, hB, by rw [h.old B (heap_lt hh)]; exact hh, h4, h5, h6, fun i x j a v hx ha hv => (h7 i x j a v hx ha hv).mono h.le, ?_⟩
      intro o hF
      rcases h.F B o hF with h9 | ⟨h9, _⟩
      · exact h8 o h9
      · have := heap_lt hh; omega
theorem RH.ext {w0 : World} {A : Ow} {S T : Sit} {hs : HS} (h : Ext S T) (r : RH w0 A S hs) : RH w0 A T hs where
  N := h.N.trans r.N
  dead := r.dead
  blks := fun b => (r.blks b).ext h
  inj := by rw [h.G]; exact r.inj
  F := fun B o hF => by
    rcases h.F B o hF with h1 | ⟨_, h1⟩
    · exact Nat.lt_of_lt_of_le (r.F B o h1) h.size
    · exact h1
  os := h.os.trans r.os
  tape := h.tape.trans r.tape
  output := h.output.trans r.output
  size := Nat.le_trans r.size h.size
  old := fun B hB hA => (h.old B (Nat.lt_of_lt_of_le hB r.size)).trans (r.old B hB hA)
  own := by rw [h.G]; exact r.own
  fo := fun B o hF hB hA => by
    rcases h.F B o hF with h1 | ⟨h1, _⟩
    · exact r.fo B o h1 hB hA
    · exact absurd r.size (by omega)
theorem Ext.drawn (S : Sit) (n : Nat) : Ext S { S with w := { S.w with drawn := n } } :=
  ⟨⟨fun _ _ h => h, fun _ _ _ _ h => h, fun _ _ => rfl, Nat.le_refl _⟩, rfl, rfl, rfl, rfl, rfl, Nat.le_refl _, fun _ _ => rfl, fun _ _ h => .inl h⟩
def Sit.new (S : Sit) (o : Obj) : Sit := { S with w := { S.w with heap := S.w.heap.push o }, F := fun B k => S.F B k ∨ B = S.w.heap.size }
theorem Ext.new (S : Sit) (o : Obj) : Ext S (S.new o) where
  le := ⟨fun _ _ h => .inl h, fun B k v hF hc => by
      rw [cell_at] at hc ⊢
      have hB : B < S.w.heap.size := by
        cases hh : S.w.heap[B]? with
        | none => rw [hh] at hc; cases hc
        | some _ => exact heap_lt hh
      show (match (S.w.heap.push o)[B]? with | some (.cells c _ _) => c[k]? | _ => none) = some v
      rw [Array.getElem?_push, if_neg (by omega)]
      exact hc, fun _ _ => rfl, Nat.le_refl _⟩
  G := rfl
  N := rfl
  os := rfl
  tape := rfl
  output := rfl
  size := by simp [Sit.new]
  old := fun B hB => by
    show (S.w.heap.push o)[B]? = _
    rw [Array.getElem?_push, if_neg (by omega)]
  F := fun B k h => by
    rcases h with h | h
    · exact .inl h
    · subst h
      exact .inr ⟨Nat.le_refl _, by simp [Sit.new]⟩
def Ans (P : Program) (S : Sit) (s : Sem Value) (K : AV → Prop) : Prop := ∃ v a T, s.run P S.w = .ok v T.w ∧ Ext S T ∧ Rv T a v ∧ K a
theorem Ans.here {P : Program} {S : Sit} {s : Sem Value} {K : AV → Prop} {v : Value} {a : AV} (h : s.run P S.w = .ok v S.w) (r : Rv S a v) (k : K a) : Ans P S s K :=
  ⟨v, a, S, h, .refl S, r, k⟩
section
variable {E : Env} {S : Sit}
theorem info_of {t : TypeId} {n : Nat} (h : szT E t = some n) : ∃ i, E.P.info? t = some i ∧ i.size = n := by
  unfold szT at h
  cases hi : E.P.info? t with
  | none => rw [hi] at h; cases h
  | some i => rw [hi] at h; exact ⟨i, rfl, by simpa using h⟩
theorem run_sizeT {t : TypeId} {n : Nat} (h : szT E t = some n) (w : World) : (Go.sizeOf t).run E.P w = Result.ok n w := by
  obtain ⟨i, hi, rfl⟩ := info_of h
  simp [Go.sizeOf, typeInfo, hi]
theorem run_undT {t : TypeId} {d : TypeDesc} (h : E.P.underlying t = some d) (w : World) : (underlying t).run E.P w = Result.ok d w := by
  simp [underlying, h]
theorem run_aggT {t : TypeId} {d : TypeDesc} (h : E.P.underlying t = some d) (w : World) : (isAgg t).run E.P w = Result.ok (aggD d) w := by
  unfold isAgg aggD
  simp only [Sem.run_bind, run_undT h, Result.andThen_ok]
  cases d <;> rfl
theorem part_ok {t : TypeId} {cs : List AV} {vs : Array Value} {off : Nat} {a : AV} (h : partC E t cs off = some a)
    (hl : cs.length ≤ vs.size) (hr : ∀ (i : Nat) c v, cs[i]? = some c → vs[i]? = some v → Rv S c v) : ∃ v, (∀ w, (part t vs off).run E.P w = Result.ok v w) ∧ Rv S a v := by
  unfold partC at h
  split at h
  · rename_i n d hn hu
    split at h
    · rename_i hg
      split at h
      · rename_i hb
        cases h
        refine ⟨.agg (vs.extract off (off + n)), fun w => ?_, .agg _ _ ?_ ?_⟩
        · unfold part
          simp [run_aggT hu, hg, run_sizeT hn]
        · simp; omega
        · intro i c v hc hv
          simp only [List.getElem?_take, List.getElem?_drop] at hc
          rw [Array.getElem?_extract] at hv
          split at hc
          · split at hv
            · exact hr _ c v hc hv
            · cases hv
          · cases hc
      · cases h
    · rename_i hg
      have h1 : off < cs.length := (List.getElem?_eq_some_iff.1 h).1
      have h2 : vs[off]? = some vs[off] := Array.getElem?_eq_getElem (by omega)
      refine ⟨vs[off], fun w => ?_, hr off a _ h h2⟩
      unfold part
      simp [run_aggT hu, hg, h2]
  · cases h
theorem load_ok {t : TypeId} {cs : List AV} {off B f : Nat} {a : AV} (val : Nat → Value) (h : partC E t cs off = some a)
    (hc : ∀ i, i < cs.length → S.w.cell? (at_ B (f + i)) = some (val i)) (hr : ∀ (i : Nat) c, cs[i]? = some c → Rv S c (val i)) :
    ∃ v, (loadVar t (at_ B (f + off))).run E.P S.w = Result.ok v S.w ∧ Rv S a v := by
  unfold partC at h
  split at h
  · rename_i n d hn hu
    split at h
    · rename_i hg
      split at h
      · rename_i hb
        cases h
        refine ⟨.agg ((List.range n).map fun j => val (off + j)).toArray, ?_, .agg _ _ ?_ ?_⟩
        · unfold loadVar
          simp only [Sem.run_bind, run_aggT hu, Result.andThen_ok, hg, if_true, run_sizeT hn]
          rw [run_loadCells S.w (at_ B (f + off)) n (fun j => val (off + j))]
          · rfl
          · intro j hj
            have e : (at_ B (f + off)).add j = at_ B (f + (off + j)) := by
              unfold Addr.add at_
              split
              · subst_vars; simp
              · simp; omega
            rw [e]
            exact hc _ (by omega)
        · simp; omega
        · intro i c v hc' hv
          simp only [List.getElem?_take, List.getElem?_drop] at hc'
          split at hc'
          · rename_i hi
            simp [List.getElem?_range hi] at hv
            subst hv
            exact hr _ c hc'
          · cases hc'
      · cases h
    · rename_i hg
      have h1 : off < cs.length := (List.getElem?_eq_some_iff.1 h).1
      refine ⟨val off, ?_, hr off a h⟩
      unfold loadVar
      simp only [Sem.run_bind, run_aggT hu, Result.andThen_ok, hg]
      simp [hc off h1]
  · cases h
end
end Gm

namespace Gm
open Go
section
variable {S : Sit}
theorem Rv.bool_inv {b : Bool} {v : Value} (r : Rv S (.bool b) v) : v = .bool b := by cases r; rfl
theorem Rv.int_inv {k : IntKind} {n : Int} {v : Value} (r : Rv S (.int k n) v) : v = .int k n := by cases r; rfl
theorem Rv.str_inv {s : Str} {v : Value} (r : Rv S (.str s) v) : ∃ b : ByteArray, v = .string b ∧ b.data.toList = s := by
  cases r with | str _ b e => exact ⟨b, rfl, e⟩
theorem Rv.agg_inv {cs : List AV} {v : Value} (r : Rv S (.agg cs) v) : ∃ vs : Array Value, v = .agg vs ∧ cs.length = vs.size ∧ ∀ (i : Nat) c u, cs[i]? = some c → vs[i]? = some u → Rv S c u := by
  cases r with | agg _ vs e h => exact ⟨vs, rfl, e, h⟩
theorem Rv.tup_inv {cs : List AV} {v : Value} (r : Rv S (.tup cs) v) : ∃ vs : Array Value, v = .tuple vs ∧ cs.length = vs.size ∧ ∀ (i : Nat) c u, cs[i]? = some c → vs[i]? = some u → Rv S c u := by
  cases r with | tup _ vs e h => exact ⟨vs, rfl, e, h⟩
theorem foldl_set_get (f : Nat → Value) : ∀ (l : List Value) (k off : Nat) (cs : Array Value),
    ((l.zipIdx k).foldl (fun (cs : Array Value) (p : Value × Nat) => cs.setIfInBounds (off + p.2) p.1) cs).size = cs.size ∧
    ∀ i : Nat, i < cs.size → ((l.zipIdx k).foldl (fun (cs : Array Value) (p : Value × Nat) => cs.setIfInBounds (off + p.2) p.1) cs)[i]? =
      if off + k ≤ i ∧ i < off + k + l.length then l[i - (off + k)]? else cs[i]?
  | [], k, off, cs => by
    refine ⟨rfl, fun i hi => ?_⟩
    rw [if_neg (by simp <;> omega)]
    rfl
  | v :: l, k, off, cs => by
    simp only [List.zipIdx_cons, List.foldl_cons]
    obtain ⟨h1, h2⟩ := foldl_set_get f l (k + 1) off (cs.setIfInBounds (off + k) v)
    refine ⟨by rw [h1]; simp, fun i hi => ?_⟩
    rw [h2 i (by simpa using hi)]
    by_cases e : i = off + k
    · subst e
      rw [if_neg (by omega), if_pos (by simp)]
      simp [hi]
    · by_cases h : off + k ≤ i ∧ i < off + k + (v :: l).length
      · rw [if_pos h, if_pos (by simp at h; omega)]
        have : i - (off + k) = (i - (off + (k + 1))) + 1 := by omega
        rw [this]
        rfl
      · rw [if_neg h, if_neg (by simp at h ⊢; omega)]
        rw [Array.getElem?_setIfInBounds_ne (by omega)]
def Cs (S : Sit) (cs : List AV) (vs : Array Value) : Prop := cs.length = vs.size ∧ ∀ (i : Nat) c v, cs[i]? = some c → vs[i]? = some v → Rv S c v
theorem Cs.splice {cs : List AV} {vs : Array Value} (h : Cs S cs vs) {a : AV} {v : Value} (r : Rv S a v) (hs : a.solid = true) (off : Nat)
    (hb : off + a.cells.length ≤ cs.length) :
    Cs S (spliceC cs off a.cells) (v.cells.zipIdx.foldl (fun cs (c, j) => cs.setIfInBounds (off + j) c) vs) := by
  obtain ⟨h1, h2⟩ := h
  obtain ⟨c1, c2⟩ := r.cells hs
  have key := foldl_set_get (fun _ => undef) v.cells.toList 0 off vs
  have e : v.cells.zipIdx.foldl (fun cs (c, j) => cs.setIfInBounds (off + j) c) vs = (v.cells.toList.zipIdx 0).foldl (fun (cs : Array Value) (p : Value × Nat) => cs.setIfInBounds (off + p.2) p.1) vs := by
    rw [← Array.foldl_toList]
    simp [Array.toList_zipIdx]
  rw [e]
  have hl : (spliceC cs off a.cells).length = cs.length := by simp [spliceC]; omega
  refine ⟨by rw [hl, key.1]; exact h1, ?_⟩
  intro i c u hc hu
  have hi : i < cs.length := by rw [← hl]; exact (List.getElem?_eq_some_iff.1 hc).1
  rw [key.2 i (by omega)] at hu
  simp only [Nat.add_zero, Array.length_toList, Array.getElem?_toList] at hu
  unfold spliceC at hc
  by_cases h3 : i < off
  · rw [List.getElem?_append_left (by simp; omega), List.getElem?_take_of_lt h3] at hc
    rw [if_neg (by omega)] at hu
    exact h2 i c u hc hu
  · rw [List.getElem?_append_right (by simp; omega)] at hc
    have e1 : (List.take off cs).length = off := by simp; omega
    rw [e1] at hc
    by_cases h4 : i < off + a.cells.length
    · rw [List.getElem?_append_left (by omega)] at hc
      rw [if_pos (by omega)] at hu
      exact c2 _ c u hc hu
    · rw [List.getElem?_append_right (by omega), List.getElem?_drop] at hc
      rw [if_neg (by omega)] at hu
      have e2 : off + a.cells.length + (i - off - a.cells.length) = i := by omega
      rw [e2] at hc
      exact h2 i c u hc hu
theorem fill_ok (place : Nat → Option (Nat × Nat)) : ∀ (ps : List (Nat × AV)) (qs : List (Nat × Value)) (cs : List AV) (vs : Array Value) (r : List AV), Cs S cs vs →
    ps.length = qs.length → (∀ (i : Nat) (p : Nat × AV) (q : Nat × Value), ps[i]? = some p → qs[i]? = some q → p.1 = q.1 ∧ Rv S p.2 q.2) → fillC place cs ps = some r → ∃ us, Instr.fill place vs qs = some us ∧ Cs S r us
  | [], [], cs, vs, r, hc, _, _, h => by
    cases h
    exact ⟨vs, rfl, hc⟩
  | [], _ :: _, _, _, _, _, hl, _, _ => by simp at hl
  | _ :: _, [], _, _, _, _, hl, _, _ => by simp at hl
  | (i, a) :: ps, (j, v) :: qs, cs, vs, r, hc, hl, hp, h => by
    obtain ⟨e, hv⟩ := hp 0 (i, a) (j, v) rfl rfl
    simp only at e hv
    subst e
    unfold fillC at h
    split at h
    · cases h
    · rename_i off size hpl
      split at h
      · rename_i hb
        simp only [Bool.and_eq_true, Nat.beq_eq, Nat.ble_eq] at hb
        obtain ⟨⟨h1, h2⟩, h3⟩ := hb
        have hcs := (hv.cells h1).1
        have hc' := hc.splice hv h1 off (by omega)
        obtain ⟨us, h4, h5⟩ := fill_ok place ps qs _ _ r hc' (by simpa using hl) (fun i p q h4 h5 => hp (i + 1) p q h4 h5) h
        refine ⟨us, ?_, h5⟩
        unfold Instr.fill
        rw [hpl]
        simp only
        rw [if_neg]
        · exact h4
        · have := hc.1
          simp; omega
      · cases h
end
end Gm

namespace Gm
open Go
section
variable {E : Env} {S : Sit} {K : AV → Prop}
theorem zero_ok {t : TypeId} {z : AV} (h : zeroC E t = some z) : ∃ v, (∀ w, (zeroValue t).run E.P w = Result.ok v w) ∧ z = vAV v := by
  unfold zeroC at h
  cases hi : E.P.info? t with
  | none => rw [hi] at h; cases h
  | some i =>
    rw [hi] at h
    simp only [Option.bind_some, Option.map_eq_some_iff] at h
    obtain ⟨v, hv, rfl⟩ := h
    exact ⟨v, fun w => by simp [zeroValue, typeInfo, hi, hv], rfl⟩
theorem places_ok (w : World) : ∀ (fs : List Field) (ps : List (Nat × Nat)), placesS E fs = some ps →
    (fs.mapM (m := Sem) fun f => do pure (f.offset, ← Go.sizeOf f.type)).run E.P w = Result.ok ps w
  | [], ps, h => by
    simp [placesS] at h
    subst h
    rfl
  | f :: fs, ps, h => by
    unfold placesS at h
    simp only [List.mapM_cons, Option.bind_eq_bind] at h
    cases hs : szT E f.type with
    | none => rw [hs] at h; cases h
    | some n =>
      rw [hs] at h
      simp only [Option.map_some, Option.bind_some] at h
      cases hr : (List.mapM (fun f => Option.map (fun n => (f.offset, n)) (szT E f.type)) fs) with
      | none => rw [hr] at h; cases h
      | some qs =>
        rw [hr] at h
        cases h
        have ih := places_ok w fs qs hr
        simp only [List.mapM_cons, Sem.run_bind, run_sizeT hs, Result.andThen_ok, Sem.run_pure, ih]
theorem build_ok {t : TypeId} {ps : List (Nat × AV)} {qs : List (Nat × Value)} {a : AV} (h : buildC E t ps = some a) (hl : ps.length = qs.length)
    (hp : ∀ (i : Nat) (p : Nat × AV) (q : Nat × Value), ps[i]? = some p → qs[i]? = some q → p.1 = q.1 ∧ Rv S p.2 q.2) :
    ∃ v, (∀ w, (Instr.build t qs.toArray).run E.P w = Result.ok v w) ∧ Rv S a v := by
  unfold buildC at h
  split at h
  · rename_i z fields hz hu
    obtain ⟨zv, hz1, hz2⟩ := zero_ok hz
    have hzr : Rv S (.agg z) zv := by rw [hz2]; exact vAV_ok _
    obtain ⟨vs, rfl, c1, c2⟩ := hzr.agg_inv
    split at h
    · rename_i pl hpl
      simp only [Option.map_eq_some_iff] at h
      obtain ⟨r, hr, rfl⟩ := h
      obtain ⟨us, h1, h2⟩ := fill_ok _ ps qs z vs r ⟨c1, c2⟩ hl hp hr
      refine ⟨.agg us, fun w => ?_, .agg _ _ h2.1 h2.2⟩
      unfold Instr.build
      have hm := places_ok w fields.toList pl hpl
      have hm' : (fields.mapM (m := Sem) fun f => do pure (f.offset, ← Go.sizeOf f.type)).run E.P w = Result.ok pl.toArray w := by
        rw [Array.mapM_eq_mapM_toList]
        simp only [Sem.run_map, hm, Result.andThen_ok]
      simp only [Sem.run_bind, hz1, Result.andThen_ok, run_undT hu, hm', Value.cells]
      have e : (fun (x : Nat) => pl.toArray[x]?) = fun i => pl[i]? := by funext i; simp
      rw [e, h1]
      rfl
    · cases h
  · rename_i z n e hz hu
    obtain ⟨zv, hz1, hz2⟩ := zero_ok hz
    have hzr : Rv S (.agg z) zv := by rw [hz2]; exact vAV_ok _
    obtain ⟨vs, rfl, c1, c2⟩ := hzr.agg_inv
    split at h
    · rename_i sz hsz
      simp only [Option.map_eq_some_iff] at h
      obtain ⟨r, hr, rfl⟩ := h
      obtain ⟨us, h1, h2⟩ := fill_ok _ ps qs z vs r ⟨c1, c2⟩ hl hp hr
      refine ⟨.agg us, fun w => ?_, .agg _ _ h2.1 h2.2⟩
      unfold Instr.build
      simp only [Sem.run_bind, hz1, Result.andThen_ok, run_undT hu, run_sizeT hsz, Value.cells]
      rw [h1]
      rfl
    · cases h
  · cases h
end
end Gm

namespace Gm
open Go
section
variable {E : Env} {S : Sit} {K : AV → Prop}
theorem struct_loop (E : Env) (S : Sit) (d : Nat) (xs ys : List AV) (vs us : Array Value) (hx : Cs S xs vs) (hy : Cs S ys us) (n : Nat)
    (ih : ∀ (t : TypeId) (a b : AV) (v u : Value) (r : Bool) (w : World), aeq E d t a b = some r → Rv S a v → Rv S b u → (Op.equalIn n t v u).run E.P w = Result.ok r w) (w : World) :
    ∀ (fs : List Field) (r : Bool),
    fs.foldr (fun f acc =>
        if f.name = "_" then none else
        match acc, partC E f.type xs f.offset, partC E f.type ys f.offset with
        | some r, some a, some b => (aeq E d f.type a b).map fun q => q && r
        | _, _, _ => none) (some true) = some r →
    (forIn (m := Sem) fs ((none, ()) : Option Bool × Unit) fun f __s =>
              if f.name ≠ "_" then do
                let __do_lift ← part f.type vs f.offset
                let __do_lift_1 ← part f.type us f.offset
                let __do_lift ← Op.equalIn n f.type __do_lift __do_lift_1
                if (!__do_lift) = true then pure (ForInStep.done (some false, ()))
                  else pure (ForInStep.yield (none, ()))
              else pure (ForInStep.yield (none, ()))).run E.P w = Result.ok (if r then (none, ()) else (some false, ())) w
  | [], r, h => by
    simp at h
    subst h
    rfl
  | f :: fs, r, h => by
    simp only [List.foldr_cons] at h
    split at h
    · cases h
    · rename_i hn
      split at h
      · rename_i r' a b hr ha hb
        simp only [Option.map_eq_some_iff] at h
        obtain ⟨q, hq, rfl⟩ := h
        obtain ⟨v, hv1, hv2⟩ := part_ok ha (by have := hx.1; omega) hx.2
        obtain ⟨u, hu1, hu2⟩ := part_ok hb (by have := hy.1; omega) hy.2
        have h2 := struct_loop E S d xs ys vs us hx hy n ih w fs r' hr
        have h3 := ih f.type a b v u q w hq hv2 hu2
        rw [List.forIn_cons]
        simp only [ne_eq, hn, not_false_eq_true, if_true, Sem.run_bind, hv1, hu1, Result.andThen_ok, h3]
        cases q with
        | true => simp only [Bool.not_true, Bool.false_eq_true, if_false, Sem.run_pure, Result.andThen_ok, Bool.true_and]; exact h2
        | false => simp
      · cases h
theorem array_loop (E : Env) (S : Sit) (d : Nat) (xs ys : List AV) (vs us : Array Value) (hx : Cs S xs vs) (hy : Cs S ys us) (n : Nat) (e : TypeId) (m : Nat)
    (ih : ∀ (t : TypeId) (a b : AV) (v u : Value) (r : Bool) (w : World), aeq E d t a b = some r → Rv S a v → Rv S b u → (Op.equalIn n t v u).run E.P w = Result.ok r w) (w : World) :
    ∀ (is : List Nat) (r : Bool),
    is.foldr (fun i acc =>
        match acc, partC E e xs (i * m), partC E e ys (i * m) with
        | some r, some a, some b => (aeq E d e a b).map fun q => q && r
        | _, _, _ => none) (some true) = some r →
    (forIn (m := Sem) is ((none, ()) : Option Bool × Unit) fun i __s => do
            let __do_lift ← part e vs (i * m)
            let __do_lift_1 ← part e us (i * m)
            let __do_lift ← Op.equalIn n e __do_lift __do_lift_1
            if (!__do_lift) = true then pure (ForInStep.done (some false, ())) else pure (ForInStep.yield (none, ()))).run E.P w = Result.ok (if r then (none, ()) else (some false, ())) w
  | [], r, h => by
    simp at h
    subst h
    rfl
  | i :: is, r, h => by
    simp only [List.foldr_cons] at h
    split at h
    · rename_i r' a b hr ha hb
      simp only [Option.map_eq_some_iff] at h
      obtain ⟨q, hq, rfl⟩ := h
      obtain ⟨v, hv1, hv2⟩ := part_ok ha (by have := hx.1; omega) hx.2
      obtain ⟨u, hu1, hu2⟩ := part_ok hb (by have := hy.1; omega) hy.2
      have h2 := array_loop E S d xs ys vs us hx hy n e m ih w is r' hr
      have h3 := ih e a b v u q w hq hv2 hu2
      rw [List.forIn_cons]
      simp only [Sem.run_bind, hv1, hu1, Result.andThen_ok, h3]
      cases q with
      | true => simp only [Bool.not_true, Bool.false_eq_true, if_false, Sem.run_pure, Result.andThen_ok, Bool.true_and]; exact h2
      | false => simp
    · cases h
theorem str_beq {s t : Str} {a b : ByteArray} (ha : a.data.toList = s) (hb : b.data.toList = t) : (a == b) = (s == t) := by
  subst ha; subst hb
  cases a; cases b
  rename_i x y
  show (x == y) = (x.toList == y.toList)
  rw [Bool.eq_iff_iff]
  simp
theorem aeq_ok : ∀ (d : Nat) (t : TypeId) (a b : AV) (v u : Value) (r : Bool) (n : Nat) (w : World), d ≤ n → aeq E d t a b = some r → Rv S a v → Rv S b u →
    (Op.equalIn n t v u).run E.P w = Result.ok r w
  | 0, _, _, _, _, _, _, _, _, _, h, _, _ => by simp [aeq] at h
  | d + 1, t, a, b, v, u, r, n, w, hd, h, hv, hu => by
    obtain ⟨n, rfl⟩ : ∃ m, n = m + 1 := ⟨n - 1, by omega⟩
    unfold aeq at h
    split at h
    · rename_i p q ht
      cases h
      cases hv; cases hu
      simp [Op.equalIn, run_undT ht]
    · rename_i k0 k p k' q ht
      cases hv; cases hu
      split at h
      · rename_i hk
        cases h
        subst hk
        simp [Op.equalIn, run_undT ht]
      · cases h
    · rename_i p q ht
      cases h
      obtain ⟨x, rfl, hx⟩ := hv.str_inv
      obtain ⟨y, rfl, hy⟩ := hu.str_inv
      simp only [Op.equalIn, Sem.run_bind, run_undT ht, Result.andThen_ok, Sem.run_pure, str_beq hx hy]
    · rename_i ht
      cases h
      cases hv; cases hu
      simp [Op.equalIn, run_undT ht]
    · rename_i ht
      cases h
      cases hv; cases hu
      simp [Op.equalIn, run_undT ht]
    · rename_i ht
      cases h
      cases hv; cases hu
      simp [Op.equalIn, run_undT ht]
    · rename_i ht
      cases h
      cases hu
      cases hv
      simp [Op.equalIn, run_undT ht]
    · rename_i ht
      cases h
      cases hu
      cases hv with
      | slN _ _ e => exact absurd rfl e
      | slE => simp [Op.equalIn, run_undT ht]
      | sl => simp [Op.equalIn, run_undT ht]
    · rename_i fields xs ys ht
      split at h
      · cases h
      · rename_i hst
        obtain ⟨vs, rfl, c1, c2⟩ := hv.agg_inv
        obtain ⟨us, rfl, c3, c4⟩ := hu.agg_inv
        have key := struct_loop E S d xs ys vs us ⟨c1, c2⟩ ⟨c3, c4⟩ n (fun t a b v u r w h1 h2 h3 => aeq_ok d t a b v u r n w (by omega) h1 h2 h3) w fields.toList r h
        simp only [Op.equalIn, Sem.run_bind, run_undT ht, Result.andThen_ok, run_program, hst, if_false, Bool.false_eq_true]
        rw [← Array.forIn_toList, key]
        cases r <;> rfl
    · rename_i len e xs ys ht
      split at h
      · cases h
      · rename_i m hm
        obtain ⟨vs, rfl, c1, c2⟩ := hv.agg_inv
        obtain ⟨us, rfl, c3, c4⟩ := hu.agg_inv
        have key := array_loop E S d xs ys vs us ⟨c1, c2⟩ ⟨c3, c4⟩ n e m (fun t a b v u r w h1 h2 h3 => aeq_ok d t a b v u r n w (by omega) h1 h2 h3) w (List.range len) r h
        simp only [Op.equalIn, Sem.run_bind, run_undT ht, Result.andThen_ok, run_sizeT hm]
        simp only [Std.Legacy.Range.forIn_eq_forIn_range', Std.Legacy.Range.size, Nat.sub_zero, Nat.add_sub_cancel, Nat.div_one]
        rw [List.range_eq_range'] at key
        rw [key]
        cases r <;> rfl
    · cases h
end
end Gm

namespace Gm
open Go
section
variable {E : Env} {S : Sit} {K : AV → Prop}
theorem guard_ok {op : BinOp} {t : TypeId} {x y : Operand} {a b : AV} {v u : Value} {r : Bool} (w : World) (hg : noGuard E t a = true) (h : aeq E 12 t a b = some r)
    (hv : Rv S a v) (hu : Rv S b u) : (eqGuard op t x y v u).run E.P w = Result.ok () w := by
  have main : ∀ op : BinOp, op = .eql ∨ op = .neq → (eqGuard op t x y v u).run E.P w = Result.ok () w := by
    intro op hop
    unfold aeq at h
    split at h <;> first
      | (cases h; done)
      | (cases hv; cases hu; rcases hop with rfl | rfl <;> rfl; done)
      | (cases hu; cases hv; rcases hop with rfl | rfl <;> rfl; done)
      | skip
    · cases hu
      cases hv with
      | slN _ _ e => exact absurd rfl e
      | slE => rcases hop with rfl | rfl <;> rfl
      | sl => rcases hop with rfl | rfl <;> rfl
    · rename_i fields xs ys ht
      obtain ⟨vs, rfl, c1, c2⟩ := hv.agg_inv
      obtain ⟨us, rfl, c3, c4⟩ := hu.agg_inv
      simp [noGuard] at hg
      rcases hop with rfl | rfl <;> simp [eqGuard, hg]
    · rename_i len e xs ys ht
      obtain ⟨vs, rfl, c1, c2⟩ := hv.agg_inv
      obtain ⟨us, rfl, c3, c4⟩ := hu.agg_inv
      simp [noGuard] at hg
      rcases hop with rfl | rfl <;> simp [eqGuard, hg]
  cases op <;> first
    | exact main _ (.inl rfl)
    | exact main _ (.inr rfl)
    | rfl
theorem eql_ok {t : TypeId} {a b : AV} {v u : Value} {r : Bool} (w : World) (h : aeq E 12 t a b = some r) (hv : Rv S a v) (hu : Rv S b u) :
    (binOp .eql t v u).run E.P w = Result.ok (.bool r) w ∧ (binOp .neq t v u).run E.P w = Result.ok (.bool (!r)) w := by
  have key := aeq_ok (E := E) (S := S) 12 t a b v u r Op.maxDepth w (by unfold Op.maxDepth; omega) h hv hu
  have e1 : (Op.equal t v u).run E.P w = Result.ok r w := key
  unfold aeq at h
  split at h
  · cases hv; cases hu
    simp [binOp, e1]
  · rename_i k0 k p k' q ht
    cases hv; cases hu
    split at h
    · rename_i hk
      cases h
      subst hk
      simp [binOp, Op.intCmp, bne]
    · cases h
  · rename_i p q ht
    cases h
    obtain ⟨x, rfl, hx⟩ := hv.str_inv
    obtain ⟨y, rfl, hy⟩ := hu.str_inv
    simp only [binOp, Op.stringOp, ByteArray.toList_eq, hx, hy]
    exact ⟨rfl, rfl⟩
  · cases hv; cases hu
    simp [binOp, e1]
  · cases hv; cases hu
    simp [binOp, e1]
  · cases hv; cases hu
    simp [binOp, e1]
  · cases hu; cases hv
    simp [binOp, e1]
  · cases hu; cases hv <;> simp [binOp, e1]
  · obtain ⟨vs, rfl, c1, c2⟩ := hv.agg_inv
    obtain ⟨us, rfl, c3, c4⟩ := hu.agg_inv
    simp [binOp, e1]
  · obtain ⟨vs, rfl, c1, c2⟩ := hv.agg_inv
    obtain ⟨us, rfl, c3, c4⟩ := hu.agg_inv
    simp [binOp, e1]
  · cases h
theorem bin_ok {op : BinOp} {t : TypeId} {x y : Operand} {a b : AV} {v u : Value} (h : abin E op t a b K) (hv : Rv S a v) (hu : Rv S b u) :
    Ans E.P S (do eqGuard op t x y v u; binOp op t v u) K := by
  have noG : ∀ k p k' q w, (eqGuard op t x y (.int k p) (.int k' q)).run E.P w = Result.ok () w := by
    intro k p k' q w
    cases op <;> rfl
  have noS : ∀ p q w, (eqGuard op t x y (.string p) (.string q)).run E.P w = Result.ok () w := by
    intro p q w
    cases op <;> rfl
  unfold abin at h
  split at h
  · cases hv; cases hu
    rename_i p k' q
    cases hc : decide (0 ≤ q) with
    | false => rw [hc] at h; exact h.elim
    | true =>
      rw [hc] at h
      have : ¬ q < 0 := by simpa using hc
      exact Ans.here (by simp [noG, binOp, Op.shift, this, ishl]) (.int _ _) h
  · cases hv; cases hu
    rename_i p k' q
    cases hc : decide (0 ≤ q) with
    | false => rw [hc] at h; exact h.elim
    | true =>
      rw [hc] at h
      have : ¬ q < 0 := by simpa using hc
      exact Ans.here (by simp [noG, binOp, Op.shift, this, ishr]) (.int _ _) h
  · cases hv; cases hu
    split at h
    · rename_i hk; subst hk
      exact Ans.here (by simp [noG, binOp, Op.intArith]) (.int _ _) h
    · exact h.elim
  · cases hv; cases hu
    split at h
    · rename_i hk; subst hk
      exact Ans.here (by simp [noG, binOp, Op.intArith]) (.int _ _) h
    · exact h.elim
  · cases hv; cases hu
    split at h
    · rename_i hk; subst hk
      exact Ans.here (by simp [noG, binOp, Op.intArith]) (.int _ _) h
    · exact h.elim
  · cases hv; cases hu
    split at h
    · rename_i k p k' q hk; subst hk
      cases hc : q == 0 with
      | true => rw [hc] at h; exact h.elim
      | false =>
        rw [hc] at h
        have : ¬ q = 0 := by simpa using hc
        exact Ans.here (by simp [noG, binOp, Op.intDiv, this]) (.int _ _) h
    · exact h.elim
  · cases hv; cases hu
    split at h
    · rename_i k p k' q hk; subst hk
      cases hc : q == 0 with
      | true => rw [hc] at h; exact h.elim
      | false =>
        rw [hc] at h
        have : ¬ q = 0 := by simpa using hc
        exact Ans.here (by simp [noG, binOp, Op.intDiv, this]) (.int _ _) h
    · exact h.elim
  · cases hv; cases hu
    split at h
    · rename_i hk; subst hk
      exact Ans.here (by simp [noG, binOp, Op.intBits, iand]) (.int _ _) h
    · exact h.elim
  · cases hv; cases hu
    split at h
    · rename_i hk; subst hk
      exact Ans.here (by simp [noG, binOp, Op.intBits, ior]) (.int _ _) h
    · exact h.elim
  · cases hv; cases hu
    split at h
    · rename_i hk; subst hk
      exact Ans.here (by simp [noG, binOp, Op.intBits, ixor]) (.int _ _) h
    · exact h.elim
  · cases hv; cases hu
    split at h
    · rename_i hk; subst hk
      exact Ans.here (by simp [noG, binOp, Op.intBits, iandn]) (.int _ _) h
    · exact h.elim
  · cases hv; cases hu
    split at h
    · rename_i hk; subst hk
      exact Ans.here (by simp [noG, binOp, Op.intCmp]) (.bool _) h
    · exact h.elim
  · cases hv; cases hu
    split at h
    · rename_i hk; subst hk
      exact Ans.here (by simp [noG, binOp, Op.intCmp]) (.bool _) h
    · exact h.elim
  · cases hv; cases hu
    split at h
    · rename_i hk; subst hk
      exact Ans.here (by simp [noG, binOp, Op.intCmp]) (.bool _) h
    · exact h.elim
  · cases hv; cases hu
    split at h
    · rename_i hk; subst hk
      exact Ans.here (by simp [noG, binOp, Op.intCmp]) (.bool _) h
    · exact h.elim
  · cases hv; cases hu
    split at h
    · rename_i hk; subst hk
      exact Ans.here (by simp [noG, binOp, Op.intCmp]) (.bool _) h
    · exact h.elim
  · cases hv; cases hu
    split at h
    · rename_i hk; subst hk
      exact Ans.here (by simp [noG, binOp, Op.intCmp]) (.bool _) h
    · exact h.elim
  · rename_i s r
    obtain ⟨x, rfl, hx⟩ := hv.str_inv
    obtain ⟨y, rfl, hy⟩ := hu.str_inv
    have e1 : x.size = s.length := by rw [← hx]; simp
    have e2 : y.size = r.length := by rw [← hy]; simp
    cases hc : fits (s.length + r.length) with
    | false => rw [hc] at h; exact h.elim
    | true =>
      rw [hc] at h
      have hle : (s.length + r.length : Int) ≤ maxI := by
        have h0 := Nat.le_of_ble_eq_true hc
        unfold maxI
        omega
      have hn : ¬ (((x.size + y.size : Nat) : Int) > IntKind.i64.max) := by
        have : IntKind.i64.max = maxI := by decide
        rw [this, e1, e2]
        omega
      refine Ans.here (v := .string (x ++ y)) ?_ (.str _ _ ?_) h
      · simp only [Sem.run_bind, noS, Result.andThen_ok, binOp, Op.stringOp]
        rw [if_neg hn]
        rfl
      · rw [ByteArray.data_append]; simp [hx, hy]
  · rename_i s r
    obtain ⟨x, rfl, hx⟩ := hv.str_inv
    obtain ⟨y, rfl, hy⟩ := hu.str_inv
    refine Ans.here (v := .bool (s == r)) ?_ (.bool _) h
    simp only [Sem.run_bind, noS, Result.andThen_ok, binOp, Op.stringOp, ByteArray.toList_eq, hx, hy]
    rfl
  · rename_i s r
    obtain ⟨x, rfl, hx⟩ := hv.str_inv
    obtain ⟨y, rfl, hy⟩ := hu.str_inv
    refine Ans.here (v := .bool (!(s == r))) ?_ (.bool _) h
    simp only [Sem.run_bind, noS, Result.andThen_ok, binOp, Op.stringOp, ByteArray.toList_eq, hx, hy]
    rfl
  · split at h
    · rename_i hg
      split at h
      · rename_i r hr
        have e1 := guard_ok (op := .eql) (x := x) (y := y) S.w hg hr hv hu
        have e2 := (eql_ok S.w hr hv hu).1
        exact Ans.here (by simp only [Sem.run_bind, e1, e2, Result.andThen_ok]) (.bool _) h
      · exact h.elim
    · exact h.elim
  · split at h
    · rename_i hg
      split at h
      · rename_i r hr
        have e1 := guard_ok (op := .neq) (x := x) (y := y) S.w hg hr hv hu
        have e2 := (eql_ok S.w hr hv hu).2
        exact Ans.here (by simp only [Sem.run_bind, e1, e2, Result.andThen_ok]) (.bool _) h
      · exact h.elim
    · exact h.elim
  · exact h.elim
end
end Gm

namespace Gm
open Go
section
variable {E : Env} {S : Sit} {K : AV → Prop}
theorem un_ok {op : UnOp} {a r : AV} {v : Value} (h : aun op a = some r) (hv : Rv S a v) : Ans E.P S (Op.unary op v) (fun x => x = r) := by
  unfold aun at h
  split at h
  · cases h; cases hv
    exact Ans.here (by simp [Op.unary, Op.intArith]) (.int _ _) rfl
  · cases h; cases hv
    exact Ans.here (by simp [Op.unary, Op.intBits, ixor]) (.int _ _) rfl
  · cases h; cases hv
    exact Ans.here (by simp [Op.unary]) (.bool _) rfl
  · cases h
theorem sl_bytes {xs : List Int} {B off : Nat} {val : Nat → Value} (hc : ∀ k, k < xs.length * (Ty.int .u8).sz → S.w.cell? (at_ B (off + k)) = some (val k))
    (hr : ∀ (i : Nat) x (j : Nat) c, xs[i]? = some x → (enc (.int .u8) x).cells[j]? = some c → Rv S c (val (i * (Ty.int .u8).sz + j))) :
    ∀ i, i < xs.length → S.w.cell? ⟨B, off + i, none⟩ = some (.int .u8 (xs.getD i 0)) := by
  intro i hi
  have h1 := hc i (by simp [Ty.sz]; exact hi)
  have h2 := hr i xs[i] 0 (.int .u8 xs[i]) (List.getElem?_eq_getElem hi) rfl
  simp only [Ty.sz, Nat.mul_one, Nat.add_zero] at h2
  have h3 := h2.int_inv
  rw [h3] at h1
  rw [List.getD_eq_getElem?_getD, List.getElem?_eq_getElem hi]
  exact h1
theorem dec_int {k : IntKind} {v : AV} {x : Int} (h : dec (.int k) v = some x) : v = .int k x := by
  cases v <;> simp [dec] at h
  obtain ⟨rfl, rfl⟩ := h
  rfl
theorem decs_spec {t : Ty} : ∀ {vs : List AV} {xs : List t.den}, decs t vs = some xs → vs.length = xs.length ∧ ∀ (i : Nat) v x, vs[i]? = some v → xs[i]? = some x → dec t v = some x
  | [], xs, h => by cases h; exact ⟨rfl, fun i v x h => by simp at h⟩
  | v :: vs, xs, h => by
    unfold decs at h
    split at h
    · rename_i x ys hx hy
      cases h
      obtain ⟨h1, h2⟩ := decs_spec hy
      refine ⟨by simp [h1], ?_⟩
      intro i u z hu hz
      cases i with
      | zero => simp at hu hz; subst hu; subst hz; exact hx
      | succ i => exact h2 i u z hu hz
    · cases h
theorem conv_ok {s d : TypeId} {a r : AV} {v : Value} (h : aconv E s d a = some r) (hv : Rv S a v) : Ans E.P S (convert s d v) (fun x => x = r) := by
  unfold aconv at h
  split at h
  · rename_i k0 k k' n hs hd
    cases h; cases hv
    exact Ans.here (by simp [convert, run_undT hs, run_undT hd, Conv.intToInt]) (.int _ _) rfl
  · rename_i a hs hd
    cases h
    obtain ⟨x, rfl, hx⟩ := hv.str_inv
    exact Ans.here (by simp [convert, run_undT hs, run_undT hd]) (.str _ _ hx) rfl
  · rename_i e f xs hs hd
    split at h
    · rename_i he
      cases h
      cases hv with
      | slN _ _ _ => exact Ans.here (run_convert_bytes_nil S.w s e hs he 0 0 d hd) (.str _ _ rfl) rfl
      | slE _ _ a cap _ =>
        refine Ans.here (v := .string (strOfNums [])) ?_ (.str _ _ rfl) rfl
        rw [run_convert_bytes_string S.w s d e (some a) 0 cap hs he hd, run_bytesToString S.w a 0 cap [] (by simp [loadCells, loadCellsFrom])]
        rfl
      | sl _ _ _ B off cap val h1 h2 hF hc hr =>
        exact Ans.here (run_convert_bytes_arg S.w s e hs he B off xs.length cap xs rfl (sl_bytes hc hr) d hd) (.str _ _ (strOfNums_data xs)) rfl
    · cases h
  · rename_i e vs hs hd
    split at h
    · rename_i xs he hxs
      cases h
      cases hv with
      | vl _ z B off val hz hz' hF hc hr =>
        obtain ⟨h1, h2⟩ := decs_spec hxs
        have hcell : ∀ i, i < xs.length → S.w.cell? ⟨B, off + i, none⟩ = some (.int .u8 (xs.getD i 0)) := by
          intro i hi
          have hi' : i < vs.length := by omega
          have hd := h2 i vs[i] xs[i] (List.getElem?_eq_getElem hi') (List.getElem?_eq_getElem hi)
          have hcells : vs[i].cells = [vs[i]] := by rw [dec_int hd]; rfl
          have hz1 : z = 1 := by
            have := hz vs[i] (List.getElem_mem hi')
            rw [hcells] at this
            exact this.symm
          subst hz1
          have h3 := hc i (by omega)
          have h4 := hr i vs[i] 0 vs[i] (List.getElem?_eq_getElem hi') (by rw [hcells]; rfl)
          simp only [Nat.mul_one, Nat.add_zero] at h4
          have h5 := (h4.dec hd).int_inv
          rw [h5] at h3
          rw [List.getD_eq_getElem?_getD, List.getElem?_eq_getElem hi]
          exact h3
        refine Ans.here ?_ (.str _ _ (strOfNums_data xs)) rfl
        rw [h1]
        exact run_convert_bytes_arg S.w s e hs he B off xs.length xs.length xs rfl hcell d hd
    · cases h
  · cases h
end
end Gm

namespace Gm
open Go
theorem add_at (B o n : Nat) : (at_ B o).add n = at_ B (o + n) := by
  unfold Addr.add at_
  split
  · subst_vars; simp
  · rfl
theorem sub_get {α : Type} (xs : List α) (a b i : Nat) : (sub xs a b)[i]? = if a + i < b then xs[a + i]? else none := by
  unfold sub
  rw [List.getElem?_drop, List.getElem?_take]
theorem sub_length {α : Type} (xs : List α) (a b : Nat) (hb : b ≤ xs.length) : (sub xs a b).length = b - a := by
  unfold sub
  simp; omega
section
variable {E : Env} {S : Sit} {K : AV → Prop}
inductive ORv (S : Sit) : Option AV → Option Value → Prop
  | none : ORv S none none
  | some (a v) : Rv S a v → ORv S (some a) (some v)
theorem sliceB_ok {n cap : Nat} {l h m : Option AV} {lv hv mv : Option Value} {K : Nat → Nat → Bool → Prop} (P : Program) (w : World) (isSlice : Bool) (hcap : n ≤ cap)
    (hK : sliceB n l h m K) (rl : ORv S l lv) (rh : ORv S h hv) (rm : ORv S m mv) :
    ∃ a b c, K a b c ∧ a ≤ b ∧ b ≤ n ∧ (Instr.sliceBounds isSlice n cap lv hv mv).run P w = Result.ok (a, b, if c = true then b else cap) w := by
  have bnd : ∀ (k : IntKind) (i : Int) (y : Nat) (code : BoundsCode), 0 ≤ i → i ≤ y → (Instr.sliceBound (.int k i) y code).run P w = Result.ok i.toNat w := by
    intro k i y code h1 h2
    simp [Instr.sliceBound, asIntOf, h1, h2]
  unfold sliceB at hK
  split at hK
  · cases rl; cases rh; cases rm
    refine ⟨0, n, false, hK, by omega, by omega, ?_⟩
    simp [Instr.sliceBounds]
  · rename_i k a
    cases rh; cases rm
    cases rl with
    | some _ v r =>
      cases r
      cases hc : (decide (0 ≤ a) && decide (a ≤ (n : Int))) with
      | false => rw [hc] at hK; exact hK.elim
      | true =>
        rw [hc] at hK
        simp only [Bool.and_eq_true, decide_eq_true_eq] at hc
        refine ⟨a.toNat, n, false, hK, by omega, by omega, ?_⟩
        simp [Instr.sliceBounds, bnd k a n _ hc.1 hc.2]
  · rename_i k b
    cases rl; cases rm
    cases rh with
    | some _ v r =>
      cases r
      cases hc : (decide (0 ≤ b) && decide (b ≤ (n : Int))) with
      | false => rw [hc] at hK; exact hK.elim
      | true =>
        rw [hc] at hK
        simp only [Bool.and_eq_true, decide_eq_true_eq] at hc
        refine ⟨0, b.toNat, false, hK, by omega, by omega, ?_⟩
        simp [Instr.sliceBounds, bnd k b cap _ hc.1 (by omega)]
  · rename_i k a k' b
    cases rm
    cases rl with
    | some _ v r =>
      cases r
      cases rh with
      | some _ v r =>
        cases r
        cases hc : (decide (0 ≤ a) && decide (a ≤ b) && decide (b ≤ (n : Int))) with
        | false => rw [hc] at hK; exact hK.elim
        | true =>
          rw [hc] at hK
          simp only [Bool.and_eq_true, decide_eq_true_eq] at hc
          refine ⟨a.toNat, b.toNat, false, hK, by omega, by omega, ?_⟩
          simp [Instr.sliceBounds, bnd k' b cap _ (by omega) (by omega), bnd k a b.toNat _ (by omega) (by omega)]
  · rename_i k b k' c
    cases rl
    cases rh with
    | some _ v r =>
      cases r
      cases rm with
      | some _ v r =>
        cases r
        cases hc : (decide (0 ≤ b) && decide (b ≤ (n : Int)) && b == c) with
        | false => rw [hc] at hK; exact hK.elim
        | true =>
          rw [hc] at hK
          simp only [Bool.and_eq_true, decide_eq_true_eq, beq_iff_eq] at hc
          obtain ⟨⟨h1, h2⟩, rfl⟩ := hc
          refine ⟨0, b.toNat, true, hK, by omega, by omega, ?_⟩
          simp [Instr.sliceBounds, bnd k' b cap _ (by omega) (by omega), bnd k b b.toNat _ (by omega) (by omega)]
  · exact hK.elim
theorem sliceAt_slice {t : TypeId} {x : Value} {lv hv mv : Option Value} (w : World) (h : E.P.underlying t = some .string ∨ ∃ e, E.P.underlying t = some (.slice e)) :
    (Instr.sliceAt t x lv hv mv).run E.P w = (Instr.slice t x lv hv mv).run E.P w := by
  unfold Instr.sliceAt
  rcases h with h | ⟨e, h⟩ <;> simp only [Sem.run_bind, run_undT h, Result.andThen_ok]
theorem slice_ok {t : TypeId} {x : AV} {v : Value} {l h m : Option AV} {lv hv mv : Option Value} (hK : aslice E t x l h m K) (rx : Rv S x v) (rl : ORv S l lv) (rh : ORv S h hv) (rm : ORv S m mv) :
    Ans E.P S (Instr.sliceAt t v lv hv mv) K := by
  unfold aslice at hK
  split at hK
  · rename_i s hu
    obtain ⟨b, rfl, hb⟩ := rx.str_inv
    split at hK
    · cases rm
      have hn : b.size = s.length := by rw [← hb]; simp
      obtain ⟨p, q, c, hK', h1, h2, h3⟩ := sliceB_ok (S := S) E.P S.w false (n := s.length) (cap := s.length) (Nat.le_refl _) hK rl rh .none
      refine Ans.here (v := .string (b.extract p q)) ?_ (.str _ _ ?_) hK'
      · rw [sliceAt_slice S.w (.inl hu)]
        unfold Instr.slice
        simp only [Sem.run_bind, run_undT hu, Result.andThen_ok, Option.isSome_none, Bool.false_eq_true, if_false]
        rw [hn, h3]
        rfl
      · rw [ByteArray.data_extract]
        unfold sub
        rw [Array.toList_extract, hb, List.extract_eq_take_drop]
        rw [List.drop_take]
    · exact hK.elim
  · rename_i e f t' xs hu
    split at hK
    · rename_i hs
      rw [show (Instr.sliceAt t v lv hv mv) = Instr.sliceAt t v lv hv mv from rfl]
      have go : ∀ (a : Option Addr) (cap : Nat), xs.length ≤ cap → ∃ p q c, K (.sl (bif c then .full else .any) t' (sub xs p q)) ∧ p ≤ q ∧ q ≤ xs.length ∧
          (Instr.sliceAt t (.slice a xs.length cap) lv hv mv).run E.P S.w = Result.ok (.slice (if (if c = true then q else cap) = p then a else a.map (·.add (p * t'.sz))) (q - p) ((if c = true then q else cap) - p)) S.w := by
        intro a cap hcap
        obtain ⟨p, q, c, hK', h1, h2, h3⟩ := sliceB_ok (S := S) E.P S.w true (n := xs.length) (cap := cap) hcap hK rl rh rm
        refine ⟨p, q, c, hK', h1, h2, ?_⟩
        rw [sliceAt_slice S.w (.inr ⟨e, hu⟩)]
        unfold Instr.slice
        simp only [Sem.run_bind, run_undT hu, Result.andThen_ok, h3, run_sizeT hs, Sem.run_pure]
      have nn : ∀ c : Bool, (bif c then SF.full else SF.any) ≠ .nn := by intro c; cases c <;> simp
      cases rx with
      | slN _ _ _ =>
        obtain ⟨p, q, c, hK', h1, h2, h3⟩ := go none 0 (by simp)
        simp only [List.length_nil] at h2 h3
        obtain rfl : q = 0 := by omega
        obtain rfl : p = 0 := by omega
        refine Ans.here h3 ?_ hK'
        have : (if c = true then 0 else 0) = 0 := by split <;> rfl
        simp only [this, Nat.sub_zero, if_true]
        exact .slN _ _ (nn c)
      | slE _ _ a cap hf =>
        obtain ⟨p, q, c, hK', h1, h2, h3⟩ := go (some a) cap (by simp)
        simp only [List.length_nil] at h2 h3
        obtain rfl : q = 0 := by omega
        obtain rfl : p = 0 := by omega
        refine Ans.here h3 ?_ hK'
        have e : sub ([] : List t'.den) 0 0 = [] := rfl
        rw [e]
        have e2 : (if (if c = true then 0 else cap) = 0 then some a else Option.map (fun x => x.add (0 * t'.sz)) (some a)) = some a := by
          split
          · rfl
          · simp [Addr.add]
        rw [e2]
        refine .slE _ _ _ _ ?_
        cases c <;> simp
      | sl _ _ _ B off cap val c1 c2 hF hc hr =>
        obtain ⟨p, q, c, hK', h1, h2, h3⟩ := go (some (at_ B off)) cap c1
        refine Ans.here h3 ?_ hK'
        have hM : q ≤ (if c = true then q else cap) := by split <;> omega
        generalize hM0 : (if c = true then q else cap) = M at hM ⊢
        have hfull : (bif c then SF.full else SF.any) = SF.full → M = q := by
          intro hh
          cases c with
          | false => simp at hh
          | true => simp at hM0; omega
        by_cases e : M = p
        · obtain rfl : q = p := by omega
          have e1 : sub xs q q = [] := by
            apply List.eq_nil_of_length_eq_zero
            rw [sub_length xs q q h2]; omega
          rw [e1]
          subst e
          simp only [if_true, Nat.sub_self]
          exact .slE _ _ _ _ (fun _ => rfl)
        · rw [if_neg e]
          simp only [Option.map_some, add_at]
          have hl : (sub xs p q).length = q - p := sub_length xs p q h2
          rw [← hl]
          refine .sl _ _ _ _ _ _ (fun k => val (p * t'.sz + k)) (by omega) (fun hh => by have := hfull hh; omega) ?_ ?_ ?_
          · intro k hk
            rw [Nat.add_assoc]
            refine hF _ ?_
            have : p * t'.sz + (q - p) * t'.sz ≤ xs.length * t'.sz := by
              rw [← Nat.add_mul]; exact Nat.mul_le_mul_right _ (by omega)
            rw [hl] at hk
            omega
          · intro k hk
            rw [Nat.add_assoc]
            refine hc _ ?_
            have : p * t'.sz + (q - p) * t'.sz ≤ xs.length * t'.sz := by
              rw [← Nat.add_mul]; exact Nat.mul_le_mul_right _ (by omega)
            rw [hl] at hk
            omega
          · intro i x j cc hx hcc
            rw [sub_get] at hx
            split at hx
            · have := hr (p + i) x j cc hx hcc
              have e3 : (p + i) * t'.sz + j = p * t'.sz + (i * t'.sz + j) := by rw [Nat.add_mul]; omega
              rw [e3] at this
              exact this
            · cases hx
    · exact hK.elim
  · rename_i e hu
    cases rx
    split at hK
    · rename_i sz hs
      obtain ⟨p, q, c, hK', h1, h2, h3⟩ := sliceB_ok (S := S) E.P S.w true (n := 0) (cap := 0) (Nat.le_refl _) hK rl rh rm
      obtain rfl : q = 0 := by omega
      obtain rfl : p = 0 := by omega
      refine Ans.here (v := .slice none 0 0) ?_ .snil hK'
      rw [sliceAt_slice S.w (.inr ⟨e, hu⟩)]
      unfold Instr.slice
      simp only [Sem.run_bind, run_undT hu, Result.andThen_ok, h3, run_sizeT hs, Sem.run_pure]
      cases c <;> rfl
    · exact hK.elim
  · exact hK.elim
end
end Gm

namespace Gm
open Go
theorem getI_some {α : Type} {xs : List α} {i : Int} {x : α} (h : getI xs i = some x) : 0 ≤ i ∧ i.toNat < xs.length ∧ xs[i.toNat]? = some x := by
  unfold getI at h
  split at h
  · rename_i h0
    exact ⟨h0, (List.getElem?_eq_some_iff.1 h).1, h⟩
  · cases h
theorem caseN_some {i : Int} {K : Nat → Prop} : ∀ {n j : Nat}, caseN i K j n → ∃ m, j ≤ m ∧ m < j + n ∧ i = (m : Int) ∧ K m
  | 0, _, h => h.elim
  | n + 1, j, h => by
    unfold caseN at h
    cases hc : i == (j : Int) with
    | true =>
      rw [hc] at h
      exact ⟨j, by omega, by omega, by simpa using hc, h⟩
    | false =>
      rw [hc] at h
      obtain ⟨m, h1, h2, h3, h4⟩ := caseN_some (n := n) (j := j + 1) h
      exact ⟨m, by omega, by omega, h3, h4⟩
def enumF (k : Nat) : List AV → List (Nat × AV)
  | [] => []
  | v :: r => (k, v) :: enumF (k + 1) r
theorem litC_spec : ∀ {k : Nat} {ps : List (Nat × AV)} {l : List AV}, litC k ps = some l → ps = enumF k l ∧ ∀ v ∈ l, v.solid = true
  | _, [], l, h => by cases h; exact ⟨rfl, by simp⟩
  | k, (j, v) :: ps, l, h => by
    unfold litC at h
    split at h
    · rename_i hc
      simp only [Bool.and_eq_true, Nat.beq_eq] at hc
      obtain ⟨rfl, hs⟩ := hc
      simp only [Option.map_eq_some_iff] at h
      obtain ⟨r, hr, rfl⟩ := h
      obtain ⟨h1, h2⟩ := litC_spec hr
      refine ⟨by rw [h1]; rfl, ?_⟩
      intro u hu
      rcases List.mem_cons.1 hu with rfl | hu
      · exact hs
      · exact h2 u hu
    · cases h
theorem fillC_lit (z : Nat) : ∀ (l : List AV) (k : Nat) (cs : List AV), (∀ v ∈ l, v.solid = true) → (∀ v ∈ l, v.cells.length = z) → (k + l.length) * z ≤ cs.length →
    fillC (fun i => some (i * z, z)) cs (enumF k l) = some (cs.take (k * z) ++ (l.flatMap AV.cells ++ cs.drop ((k + l.length) * z)))
  | [], k, cs, _, _, _ => by simp [enumF, fillC]
  | v :: r, k, cs, hs, hz, hb => by
    have hv := hz v (by simp)
    have hb' : (k + 1 + r.length) * z ≤ cs.length := by simpa [Nat.add_assoc, Nat.add_comm 1] using hb
    have h1 : k * z + z ≤ cs.length := by
      have : (k + 1) * z ≤ (k + 1 + r.length) * z := Nat.mul_le_mul_right _ (by omega)
      rw [Nat.add_mul, Nat.one_mul] at this
      omega
    have hl : (spliceC cs (k * z) v.cells).length = cs.length := by simp [spliceC]; omega
    unfold enumF fillC
    simp only
    rw [if_pos (by simp [hs v (by simp), hv, h1])]
    rw [fillC_lit z r (k + 1) _ (fun u hu => hs u (by simp [hu])) (fun u hu => hz u (by simp [hu])) (by rw [hl]; exact hb')]
    congr 1
    have e1 : (spliceC cs (k * z) v.cells).take ((k + 1) * z) = cs.take (k * z) ++ v.cells := by
      unfold spliceC
      rw [Nat.add_mul, Nat.one_mul]
      have : (List.take (k * z) cs).length = k * z := by simp; omega
      rw [List.take_append, this, List.take_of_length_le (by omega)]
      congr 1
      rw [show k * z + z - k * z = z by omega, List.take_append_of_le_length (by omega), List.take_of_length_le (by omega)]
    have e2 : (spliceC cs (k * z) v.cells).drop ((k + 1 + r.length) * z) = cs.drop ((k + (v :: r).length) * z) := by
      unfold spliceC
      have h2 : k * z + z ≤ (k + 1 + r.length) * z := by
        have : (k + 1) * z ≤ (k + 1 + r.length) * z := Nat.mul_le_mul_right _ (by omega)
        rw [Nat.add_mul, Nat.one_mul] at this
        exact this
      have h3 : (List.take (k * z) cs).length = k * z := by simp; omega
      rw [List.drop_append, h3, List.drop_eq_nil_of_le (by omega), List.nil_append, List.drop_append, List.drop_eq_nil_of_le (by omega), List.nil_append, List.drop_drop]
      congr 1
      rw [hv]
      have e : (k + (v :: r).length) * z = (k + 1 + r.length) * z := by congr 1; simp; omega
      rw [e]
      omega
    rw [e1, e2]
    simp [List.flatMap_cons]
theorem flatMap_get (z : Nat) : ∀ (l : List AV) (i j : Nat) (v : AV), (∀ v ∈ l, v.cells.length = z) → l[i]? = some v → j < z → (l.flatMap AV.cells)[i * z + j]? = v.cells[j]?
  | [], i, j, v, _, h, _ => by simp at h
  | u :: r, 0, j, v, hz, h, hj => by
    simp at h
    subst h
    have := hz u (by simp)
    simp only [List.flatMap_cons, Nat.zero_mul, Nat.zero_add]
    rw [List.getElem?_append_left (by omega)]
  | u :: r, i + 1, j, v, hz, h, hj => by
    have := hz u (by simp)
    simp only [List.flatMap_cons]
    rw [List.getElem?_append_right (by rw [Nat.add_mul]; omega)]
    have e : (i + 1) * z + j - u.cells.length = i * z + j := by rw [Nat.add_mul]; omega
    rw [e]
    exact flatMap_get z r i j v (fun v hv => hz v (by simp [hv])) h hj
theorem flatMap_length (z : Nat) : ∀ (l : List AV), (∀ v ∈ l, v.cells.length = z) → (l.flatMap AV.cells).length = l.length * z
  | [], _ => by simp
  | u :: r, hz => by
    simp only [List.flatMap_cons, List.length_append, List.length_cons]
    rw [flatMap_length z r (fun v hv => hz v (by simp [hv])), hz u (by simp), Nat.add_mul]
    omega
section
variable {E : Env} {S : Sit} {K : AV → Prop}
theorem cell_new (S : Sit) (c : Array Value) (e : TypeId) (fz : Nat × Nat) (k : Nat) : (S.new (.cells c e fz)).w.cell? (at_ S.w.heap.size k) = c[k]? := by
  rw [cell_at]
  show (match (S.w.heap.push (.cells c e fz))[S.w.heap.size]? with | some (.cells c _ _) => c[k]? | _ => none) = _
  rw [Array.getElem?_push, if_pos rfl]
theorem lit_run {t e : TypeId} {z n : Nat} {l : List AV} {qs : List (Nat × Value)} {zc : AV} (hu : E.P.underlying t = some (.slice e)) (hz : szT E e = some z) (hzc : zeroC E e = some zc)
    (hn : l.length = n) (hb : n * z ≤ 16777216) (hc : ∀ v ∈ l, v.cells.length = z) (hs : ∀ v ∈ l, v.solid = true) (hl : (enumF 0 l).length = qs.length)
    (hp : ∀ (i : Nat) (p : Nat × AV) (q : Nat × Value), (enumF 0 l)[i]? = some p → qs[i]? = some q → p.1 = q.1 ∧ Rv S p.2 q.2) :
    ∃ us, (Instr.buildSlice t n qs.toArray).run E.P S.w = Result.ok (.slice (some (at_ S.w.heap.size 0)) n n) (S.new (.cells us e)).w ∧ Cs S (l.flatMap AV.cells) us := by
  obtain ⟨zv, hz1, hz2⟩ := zero_ok hzc
  have hinit : ∀ (init : Array Value), init.size = n * z → ∃ us, Instr.fill (fun i => some (i * z, z)) init qs = some us ∧ Cs S (l.flatMap AV.cells) us := by
    intro init hi
    have h0 : Cs S (List.replicate (n * z) AV.top) init := by
      refine ⟨by simp [hi], ?_⟩
      intro i c v h1 h2
      have : c = AV.top := by
        have := List.mem_of_getElem? h1
        simp at this
        exact this.2
      subst this
      exact .top _
    have hf := fillC_lit z l 0 (List.replicate (n * z) AV.top) hs hc (by simp [hn])
    obtain ⟨us, h1, h2⟩ := fill_ok _ (enumF 0 l) qs _ init _ h0 hl hp hf
    refine ⟨us, h1, ?_⟩
    simpa [hn] using h2
  unfold Instr.buildSlice
  simp only [Sem.run_bind, run_undT hu, Result.andThen_ok, run_sizeT hz]
  rw [if_neg (by simpa using hb)]
  by_cases h0 : n * z = 0
  · obtain ⟨us, h1, h2⟩ := hinit ((Array.range (n * z)).map fun x => (#[] : Array Value)[x % (#[] : Array Value).size]!) (by simp)
    refine ⟨us, ?_, h2⟩
    rw [if_pos h0]
    simp only [Sem.run_bind, Sem.run_pure, Result.andThen_ok]
    rw [h1]
    rfl
  · obtain ⟨us, h1, h2⟩ := hinit ((Array.range (n * z)).map fun x => zv.cells[x % zv.cells.size]!) (by simp)
    refine ⟨us, ?_, h2⟩
    rw [if_neg h0]
    simp only [Sem.run_bind, Sem.run_pure, Result.andThen_ok, hz1]
    rw [h1]
    rfl
theorem lit_ok {t e : TypeId} {z n : Nat} {l : List AV} {qs : List (Nat × Value)} {zc : AV} (hu : E.P.underlying t = some (.slice e)) (hz : szT E e = some z) (hzc : zeroC E e = some zc)
    (hn : l.length = n) (hb : n * z ≤ 16777216) (hc : ∀ v ∈ l, v.cells.length = z) (hs : ∀ v ∈ l, v.solid = true) (hl : (enumF 0 l).length = qs.length)
    (hp : ∀ (i : Nat) (p : Nat × AV) (q : Nat × Value), (enumF 0 l)[i]? = some p → qs[i]? = some q → p.1 = q.1 ∧ Rv S p.2 q.2) :
    Ans E.P S (Instr.buildSlice t n qs.toArray) (fun a => a = .vl l) := by
  obtain ⟨us, hrun, h2⟩ := lit_run (S := S) hu hz hzc hn hb hc hs hl hp
  refine ⟨.slice (some (at_ S.w.heap.size 0)) n n, .vl l, S.new (.cells us e), hrun, .new _ _, ?_, rfl⟩
  · have hsz : us.size = n * z := by rw [← h2.1, flatMap_length z l hc, hn]
    subst hn
    refine .vl l z _ 0 (fun k => us.getD k undef) hc hs ?_ ?_ ?_
    · intro k hk
      exact .inr rfl
    · intro k hk
      rw [Nat.zero_add, cell_new, Array.getElem?_eq_getElem (by omega)]
      simp [Array.getD, show k < us.size by omega]
    · intro i v j c hv hcc
      have hj : j < z := by
        have h3 := hc v (List.mem_of_getElem? hv)
        have h4 := (List.getElem?_eq_some_iff.1 hcc).1
        omega
      have hi : i < l.length := (List.getElem?_eq_some_iff.1 hv).1
      have hk : i * z + j < us.size := by
        rw [hsz]
        calc i * z + j < i * z + z := by omega
          _ = (i + 1) * z := by rw [Nat.add_mul]; omega
          _ ≤ l.length * z := Nat.mul_le_mul_right _ (by omega)
      have h5 : (l.flatMap AV.cells)[i * z + j]? = some c := by rw [flatMap_get z l i j v hc hv hj]; exact hcc
      have h6 := h2.2 (i * z + j) c us[i * z + j] h5 (Array.getElem?_eq_getElem hk)
      simp only [Array.getD, hk, dif_pos]
      exact h6.mono (Ext.new S _).le
end
end Gm

namespace Gm
open Go
def AnsN (P : Program) (S : Sit) (s : Sem Next) (K : AV → Prop) : Prop :=
  (∃ v a T, s.run P S.w = Result.ok (.value v) T.w ∧ Ext S T ∧ Rv T a v ∧ K a) ∨
  (∃ f args, s.run P S.w = Result.ok (.enter f args) S.w ∧ Calls P f args S.w (fun e w' => ∃ v a T, e = .returned v ∧ T.w = w' ∧ Ext S T ∧ Rv T a v ∧ K a))
def Callable (P : Program) (f : FuncId) : Prop := ∀ args w, (callFunc f args).run P w = Result.ok (.enter f args) w
def EntrySound (E : Env) (f : FuncId) (en : Entry) : Prop :=
  Callable E.P f ∧ ∀ (args : List AV) (K : AV → Prop), en args K → ∀ (S : Sit) (vs : Array Value), (∀ B o, S.F B o → B < S.w.heap.size) → E.V S.w → Cs S args vs →
    Calls E.P f vs S.w (fun e w' => ∃ v a T, e = .returned v ∧ T.w = w' ∧ Ext S T ∧ Rv T a v ∧ K a)
def TabSound (E : Env) (tab : Tab) : Prop := ∀ f en, tabGet tab f = some en → EntrySound E f en
def TabQ (P : Program) (Q : Sit → Prop) (tab : Tab) : Prop := ∀ f en, tabGet tab f = some en → Callable P f ∧ ∀ (args : List AV) (K : AV → Prop), en args K → ∀ (S : Sit) (vs : Array Value), Q S → Cs S args vs →
  Calls P f vs S.w (fun e w' => ∃ v a T, e = .returned v ∧ T.w = w' ∧ Ext S T ∧ Rv T a v ∧ K a)
section
variable {E : Env} {S : Sit} {K : AV → Prop} {tab : Tab}
theorem AnsN.of_ans {P : Program} {s : Sem Value} (h : Ans P S s K) : AnsN P S (do pure (.value (← s))) K := by
  obtain ⟨v, a, T, h1, h2, h3, h4⟩ := h
  exact .inl ⟨v, a, T, by simp [h1], h2, h3, h4⟩
theorem Ans.imp {P : Program} {s : Sem Value} {K' : AV → Prop} (h : Ans P S s K) (hk : ∀ a, K a → K' a) : Ans P S s K' := by
  obtain ⟨v, a, T, h1, h2, h3, h4⟩ := h
  exact ⟨v, a, T, h1, h2, h3, hk a h4⟩
theorem Cs.nil (S : Sit) : Cs S [] #[] := ⟨rfl, fun i c v h => by simp at h⟩
theorem Cs.append {a b : List AV} {u v : Array Value} (h : Cs S a u) (k : Cs S b v) : Cs S (a ++ b) (u ++ v) := by
  refine ⟨by simp [h.1, k.1], ?_⟩
  intro i c x hc hx
  rw [Array.getElem?_append] at hx
  by_cases hi : i < a.length
  · rw [List.getElem?_append_left hi] at hc
    rw [if_pos (by have := h.1; omega)] at hx
    exact h.2 i c x hc hx
  · rw [List.getElem?_append_right (by omega)] at hc
    rw [if_neg (by have := h.1; omega)] at hx
    rw [← h.1] at hx
    exact k.2 _ c x hc hx
theorem Cs.map {fr : Nat → AV} {ρ : Operand → Value} (hρ : ∀ x, Rv S (oval fr x) (ρ x)) (xs : Array Operand) : Cs S (xs.toList.map (oval fr)) (xs.map ρ) := by
  refine ⟨by simp, ?_⟩
  intro i c v hc hv
  simp at hc hv
  obtain ⟨x, hx, rfl⟩ := hc
  obtain ⟨y, hy, rfl⟩ := hv
  rw [hx] at hy
  cases hy
  exact hρ x
theorem callArgs {fr : Nat → AV} {ρ : Operand → Value} (hρ : ∀ x, Rv S (oval fr x) (ρ x)) {x : Operand} {xs : Array Operand} {f : FuncId} {a b : List AV} (hf : oval fr x = .func f a b) :
    ∃ ps qs, ρ x = .func (.func f) ps qs ∧ Cs S (a ++ (xs.toList.map (oval fr) ++ b)) (ps ++ xs.map ρ ++ qs) := by
  have r := hρ x
  rw [hf] at r
  generalize ρ x = v at r
  cases r with
  | func _ _ _ ps qs e1 e2 h1 h2 =>
    refine ⟨ps, qs, rfl, ?_⟩
    rw [Array.append_assoc]
    exact Cs.append ⟨e1, h1⟩ (Cs.append (Cs.map hρ xs) ⟨e2, h2⟩)
theorem run_callValue {P : Program} {ρ : Operand → Value} {c : Call} {x : Operand} {ty : TypeId} {f : FuncId} {ps qs : Array Value} (w : World) (hc : c.callee = .value x) (hx : ρ x = .func (.func f) ps qs) :
    (do let d ← resolve ρ c ty; invoke d.target d.args : Sem Next).run P w = (callFunc f (ps ++ c.args.map ρ ++ qs)).run P w := by
  simp only [resolve, hc, Deferred.ofValue, hx, Sem.run_bind, Sem.run_pure, Result.andThen_ok, invoke]
theorem run_callBuiltin {P : Program} {ρ : Operand → Value} {c : Call} {b : Builtin} {ty : TypeId} (w : World) (hc : c.callee = .builtin b) :
    (do let d ← resolve ρ c ty; invoke d.target d.args : Sem Next).run P w = (builtin b c.argTypes ty (c.args.map fun | .const _ => true | _ => false) (c.args.map ρ)).run P w := by
  simp only [resolve, hc, Sem.run_bind, Sem.run_pure, Result.andThen_ok, invoke]
  rfl
theorem builtin_ok {b : Builtin} {ts : List TypeId} {argTypes : Array TypeId} {ty : TypeId} {consts : Array Bool} {vs : List AV} {us : Array Value} (ht : argTypes.toList = ts) (h : abuiltin E b ts vs K) (hv : Cs S vs us) :
    AnsN E.P S (builtin b argTypes ty consts us) K := by
  have one : ∀ {v : AV}, vs = [v] → ∃ u, us = #[u] ∧ Rv S v u := by
    intro v e
    subst e
    have hs : us.size = 1 := by have := hv.1; simpa using this.symm
    refine ⟨us[0], ?_, hv.2 0 v us[0] rfl (Array.getElem?_eq_getElem (by omega))⟩
    apply Array.ext
    · simp [hs]
    · intro i h1 h2
      have : i = 0 := by omega
      subst this
      rfl
  have two : ∀ {v v' : AV}, vs = [v, v'] → ∃ u u', us = #[u, u'] ∧ Rv S v u ∧ Rv S v' u' := by
    intro v v' e
    subst e
    have hs : us.size = 2 := by have := hv.1; simpa using this.symm
    refine ⟨us[0], us[1], ?_, hv.2 0 v us[0] rfl (Array.getElem?_eq_getElem (by omega)), hv.2 1 v' us[1] rfl (Array.getElem?_eq_getElem (by omega))⟩
    apply Array.ext
    · simp [hs]
    · intro i h1 h2
      have : i = 0 ∨ i = 1 := by omega
      rcases this with rfl | rfl <;> rfl
  unfold abuiltin at h
  split at h
  · rename_i t _ v
    obtain ⟨u, rfl, r⟩ := one rfl
    have ht0 : argTypes[0]? = some t := by rw [← Array.getElem?_toList, ht]; rfl
    refine AnsN.of_ans (s := Builtin.len_ argTypes ty #[u]) ?_
    split at h
    · rename_i s hu
      obtain ⟨b, rfl, hb⟩ := r.str_inv
      have e : b.size = s.length := by rw [← hb]; simp
      exact Ans.here (v := .int .i64 s.length) (by simp [Builtin.len_, ht0, run_undT hu, goInt, e]) (.int _ _) h
    · rename_i e f t' xs hu
      cases r with
      | slN => exact Ans.here (v := .int .i64 0) (by simp [Builtin.len_, ht0, run_undT hu, goInt]) (.int _ _) h
      | slE => exact Ans.here (v := .int .i64 0) (by simp [Builtin.len_, ht0, run_undT hu, goInt]) (.int _ _) h
      | sl => exact Ans.here (v := .int .i64 xs.length) (by simp [Builtin.len_, ht0, run_undT hu, goInt]) (.int _ _) h
    · rename_i e l hu
      cases r with
      | vl => exact Ans.here (v := .int .i64 l.length) (by simp [Builtin.len_, ht0, run_undT hu, goInt]) (.int _ _) h
    · rename_i e hu
      cases r
      exact Ans.here (v := .int .i64 0) (by simp [Builtin.len_, ht0, run_undT hu, goInt]) (.int _ _) h
    · rename_i n e hu
      exact Ans.here (v := .int .i64 n) (by simp [Builtin.len_, ht0, run_undT hu, goInt]) (.int _ _) h
    · exact h.elim
  · obtain ⟨u, u', rfl, r, r'⟩ := two rfl
    cases r; cases r'
    exact AnsN.of_ans (Ans.here (by simp [Builtin.min_, Builtin.min2, minI]) (.int _ _) h)
  · obtain ⟨u, u', rfl, r, r'⟩ := two rfl
    cases r; cases r'
    exact AnsN.of_ans (Ans.here (by simp [Builtin.max_, Builtin.max2, maxI2]) (.int _ _) h)
  · exact h.elim
theorem fptr_of_sl {f : SF} {t : Ty} {xs : List t.den} {v : Value} {i : Int} {x : t.den} (r : Rv S (.sl f t xs) v) (h : getI xs i = some x) :
    ∃ B off cap, v = .slice (some (at_ B off)) xs.length cap ∧ Rv S (.fptr (enc t x).cells 0) (.pointer (some (at_ B (off + i.toNat * t.sz)))) := by
  obtain ⟨h0, h1, h2⟩ := getI_some h
  cases r with
  | slN => simp at h1
  | slE => simp at h1
  | sl _ _ _ B off cap val c1 c2 hF hc hr =>
    refine ⟨B, off, cap, rfl, ?_⟩
    have hl := enc_cells_length t x
    have hb : i.toNat * t.sz + t.sz ≤ xs.length * t.sz := by
      have : (i.toNat + 1) * t.sz ≤ xs.length * t.sz := Nat.mul_le_mul_right _ (by omega)
      rw [Nat.add_mul, Nat.one_mul] at this
      exact this
    exact .fptr _ 0 B (off + i.toNat * t.sz) (fun j => val (i.toNat * t.sz + j)) (fun j hj => by rw [Nat.add_assoc]; exact hF _ (by omega)) (fun j hj => by rw [Nat.add_assoc]; exact hc _ (by omega))
      (fun j c hcc => hr i.toNat x j c h2 hcc)
theorem run_indexSlice {t e : TypeId} {z n cap : Nat} {a : Addr} {k : IntKind} {i : Int} (w : World) (hu : E.P.underlying t = some (.slice e)) (hz : szT E e = some z) (h0 : 0 ≤ i) (h1 : i < n) :
    (Instr.indexAt t (.slice (some a) n cap) (.int k i)).run E.P w = Result.ok (.pointer (some (a.add (i.toNat * z)))) w := by
  simp [Instr.indexAt, asIntOf, run_undT hu, h0, h1, run_sizeT hz]
theorem index_ok {t : TypeId} {x : AV} {v : Value} {k : IntKind} {i : Int} {o : Oper} {a b : Operand} (ho : o.op = .indexAddr t a b) (h : a0 E tab o [x, .int k i] K) (r : Rv S x v) : Ans E.P S (Instr.indexAt t v (.int k i)) K := by
  unfold a0 at h
  rw [ho] at h
  simp only at h
  split at h
  · rename_i e f t' xs hu
    split at h
    · rename_i hs
      split at h
      · rename_i x hx
        obtain ⟨B, off, cap, rfl, hp⟩ := fptr_of_sl r hx
        obtain ⟨h0, h1, h2⟩ := getI_some hx
        refine Ans.here ?_ hp h
        rw [run_indexSlice S.w hu hs h0 (by omega), add_at]
      · exact h.elim
    · exact h.elim
  · rename_i e l hu
    split at h
    · rename_i z hz
      split at h
      · rename_i hall
        obtain ⟨m, h1, h2, rfl, h3⟩ := caseN_some h
        split at h3
        · rename_i v hv
          cases r with
          | vl _ z' B off val c1 c1' hF hc hr =>
            have hvm := List.mem_of_getElem? hv
            have hz1 : v.cells.length = z := by
              have := List.all_eq_true.1 hall v hvm
              simpa using this
            have hz2 : z' = z := by rw [← hz1]; exact (c1 v hvm).symm
            subst hz2
            have hb : m * z' + z' ≤ l.length * z' := by
              have : (m + 1) * z' ≤ l.length * z' := Nat.mul_le_mul_right _ (by omega)
              rw [Nat.add_mul, Nat.one_mul] at this
              exact this
            refine Ans.here (v := .pointer (some (at_ B (off + m * z')))) ?_ ?_ h3
            · rw [run_indexSlice S.w hu hz (by omega) (by omega), add_at]
              simp
            · exact .fptr _ 0 B (off + m * z') (fun j => val (m * z' + j)) (fun j hj => by rw [Nat.add_assoc]; exact hF _ (by omega)) (fun j hj => by rw [Nat.add_assoc]; exact hc _ (by omega))
                (fun j c hcc => hr m v j c hv hcc)
        · exact h3.elim
      · exact h.elim
    · exact h.elim
  · rename_i n e b o hu
    split at h
    · rename_i z hz
      obtain ⟨m, h1, h2, rfl, h3⟩ := caseN_some h
      cases r with
      | ptr _ _ B hb hB =>
        refine Ans.here (v := .pointer (some (at_ B (o + m * z)))) ?_ (.ptr _ _ B hb hB) h3
        simp [Instr.indexAt, asIntOf, run_undT hu, Instr.sureAddr, run_sizeT hz, add_at]
        omega
    · exact h.elim
  · rename_i n e cs o hu
    split at h
    · rename_i z hz
      obtain ⟨m, h1, h2, rfl, h3⟩ := caseN_some h
      cases r with
      | fptr _ _ B f val hF hc hr =>
        have e1 : f + o + m * z = f + (o + m * z) := by omega
        refine Ans.here (v := .pointer (some (at_ B (f + (o + m * z))))) ?_ (.fptr cs (o + m * z) B f val hF hc hr) h3
        simp [Instr.indexAt, asIntOf, run_undT hu, Instr.sureAddr, run_sizeT hz, add_at, e1]
        omega
    · exact h.elim
  · exact h.elim
end
end Gm
