/- The relation between the abstract machine's values and the machine's own. -/
import Derived.Test.YtbhgalddlkebgaaDoorGmB
namespace Gm
open Go

structure Gh where
  blk : Option Nat
  len : Nat
  cap : Nat
  esz : Nat

/-- Where we are: the world, which cells are never written again, what the names stand for, how many names there are. -/
structure Sit where
  w : World
  F : Nat → Nat → Prop
  G : Nat → Gh
  N : Nat

def at_ (B o : Nat) : Addr := ⟨B, o, none⟩

inductive Rv (S : Sit) : AV → Value → Prop
  | int (k n) : Rv S (.int k n) (.int k n)
  | bool (b) : Rv S (.bool b) (.bool b)
  | str (s : Str) (b : ByteArray) : b.data.toList = s → Rv S (.str s) (.string b)
  | agg (cs : List AV) (vs : Array Value) : cs.length = vs.size → (∀ (i : Nat) c v, cs[i]? = some c → vs[i]? = some v → Rv S c v) → Rv S (.agg cs) (.agg vs)
  | tup (cs : List AV) (vs : Array Value) : cs.length = vs.size → (∀ (i : Nat) c v, cs[i]? = some c → vs[i]? = some v → Rv S c v) → Rv S (.tup cs) (.tuple vs)
  | nilp : Rv S .nilp (.pointer none)
  | ptr (b o B) : b < S.N → (S.G b).blk = some B → Rv S (.ptr b o) (.pointer (some (at_ B o)))
  | fptr (cs : List AV) (o B f : Nat) (val : Nat → Value) : (∀ i, i < cs.length → S.F B (f + i)) →
      (∀ i, i < cs.length → S.w.cell? (at_ B (f + i)) = some (val i)) → (∀ (i : Nat) c, cs[i]? = some c → Rv S c (val i)) → Rv S (.fptr cs o) (.pointer (some (at_ B (f + o))))
  | elt (b i o B) : b < S.N → i < (S.G b).len → (S.G b).blk = some B → Rv S (.elt b i o) (.pointer (some (at_ B (i * (S.G b).esz + o))))
  | snil : Rv S .snil (.slice none 0 0)
  | slN (f t) : f ≠ .nn → Rv S (.sl f t []) (.slice none 0 0)
  | slE (f t) (a : Addr) (cap : Nat) : (f = .full → cap = 0) → Rv S (.sl f t []) (.slice (some a) 0 cap)
  | sl (f t) (xs : List t.den) (B off cap : Nat) (val : Nat → Value) : xs.length ≤ cap → (f = .full → cap = xs.length) →
      (∀ k, k < xs.length * t.sz → S.F B (off + k)) → (∀ k, k < xs.length * t.sz → S.w.cell? (at_ B (off + k)) = some (val k)) →
      (∀ (i : Nat) x (j : Nat) c, xs[i]? = some x → (enc t x).cells[j]? = some c → Rv S c (val (i * t.sz + j))) → Rv S (.sl f t xs) (.slice (some (at_ B off)) xs.length cap)
  | vl (vs : List AV) (z B off : Nat) (val : Nat → Value) : (∀ v, v ∈ vs → v.cells.length = z) → (∀ v, v ∈ vs → v.solid = true) →
      (∀ k, k < vs.length * z → S.F B (off + k)) → (∀ k, k < vs.length * z → S.w.cell? (at_ B (off + k)) = some (val k)) →
      (∀ (i : Nat) v (j : Nat) c, vs[i]? = some v → v.cells[j]? = some c → Rv S c (val (i * z + j))) → Rv S (.vl vs) (.slice (some (at_ B off)) vs.length vs.length)
  | slr (b B) : b < S.N → (S.G b).blk = some B → Rv S (.slr b) (.slice (some (at_ B 0)) (S.G b).len (S.G b).cap)
  | slrN (b) (a : Option Addr) : b < S.N → (S.G b).blk = none → (S.G b).len = 0 → (S.G b).cap = 0 → Rv S (.slr b) (.slice a 0 0)
  | func (f : FuncId) (p q : List AV) (ps qs : Array Value) : p.length = ps.size → q.length = qs.size → (∀ (i : Nat) c v, p[i]? = some c → ps[i]? = some v → Rv S c v) →
      (∀ (i : Nat) c v, q[i]? = some c → qs[i]? = some v → Rv S c v) → Rv S (.func f p q) (.func (.func f) ps qs)
  | nilf : Rv S .nilf .nilFunc
  | iface (t v v') : Rv S v v' → Rv S (.iface t v) (.iface t v')
  | nili : Rv S .nili .nilIface
  | top (v) : Rv S .top v

/-- What was known goes on being so. -/
structure Le (S T : Sit) : Prop where
  F : ∀ B o, S.F B o → T.F B o
  cell : ∀ B o v, S.F B o → S.w.cell? (at_ B o) = some v → T.w.cell? (at_ B o) = some v
  G : ∀ b, b < S.N → T.G b = S.G b
  N : S.N ≤ T.N

theorem Le.refl (S : Sit) : Le S S := ⟨fun _ _ h => h, fun _ _ _ _ h => h, fun _ _ => rfl, Nat.le_refl _⟩
theorem Le.trans {S T U : Sit} (h : Le S T) (k : Le T U) : Le S U :=
  ⟨fun B o x => k.F B o (h.F B o x), fun B o v x y => k.cell B o v (h.F B o x) (h.cell B o v x y), fun b hb => (k.G b (Nat.lt_of_lt_of_le hb h.N)).trans (h.G b hb), Nat.le_trans h.N k.N⟩

theorem Rv.mono {S T : Sit} (h : Le S T) {a : AV} {v : Value} (r : Rv S a v) : Rv T a v := by
  induction r with
  | int k n => exact .int k n
  | bool b => exact .bool b
  | str s b e => exact .str s b e
  | agg cs vs e _ ih => exact .agg cs vs e ih
  | tup cs vs e _ ih => exact .tup cs vs e ih
  | nilp => exact .nilp
  | ptr b o B hb hB => exact .ptr b o B (Nat.lt_of_lt_of_le hb h.N) (by rw [h.G b hb]; exact hB)
  | fptr cs o B f val hF hc _ ih => exact .fptr cs o B f val (fun i hi => h.F _ _ (hF i hi)) (fun i hi => h.cell _ _ _ (hF i hi) (hc i hi)) ih
  | elt b i o B hb hi hB =>
    have e := h.G b hb
    rw [← e]
    exact .elt b i o B (Nat.lt_of_lt_of_le hb h.N) (by rw [e]; exact hi) (by rw [e]; exact hB)
  | snil => exact .snil
  | slN f t e => exact .slN f t e
  | slE f t a cap e => exact .slE f t a cap e
  | sl f t xs B off cap val h1 h2 hF hc _ ih => exact .sl f t xs B off cap val h1 h2 (fun i hi => h.F _ _ (hF i hi)) (fun i hi => h.cell _ _ _ (hF i hi) (hc i hi)) ih
  | vl vs z B off val h1 h1' hF hc _ ih => exact .vl vs z B off val h1 h1' (fun i hi => h.F _ _ (hF i hi)) (fun i hi => h.cell _ _ _ (hF i hi) (hc i hi)) ih
  | slr b B hb hB =>
    have e := h.G b hb
    rw [← e]
    exact .slr b B (Nat.lt_of_lt_of_le hb h.N) (by rw [e]; exact hB)
  | slrN b a hb hB hl hc =>
    have e := h.G b hb
    exact .slrN b a (Nat.lt_of_lt_of_le hb h.N) (by rw [e]; exact hB) (by rw [e]; exact hl) (by rw [e]; exact hc)
  | func f p q ps qs e1 e2 _ _ ih1 ih2 => exact .func f p q ps qs e1 e2 ih1 ih2
  | nilf => exact .nilf
  | iface t v v' _ ih => exact .iface t v v' ih
  | nili => exact .nili
  | top v => exact .top v

theorem Rv.weak {S : Sit} {a b : AV} (h : Weak a b) : ∀ {v : Value}, Rv S a v → Rv S b v := by
  induction h with
  | refl => exact fun r => r
  | own o t xs =>
    intro v r
    cases r with
    | slN f t e => exact .slN _ _ (by simp)
    | slE f t a cap e => exact .slE _ _ _ _ (by simp)
    | sl f t xs B off cap val h1 h2 hF hc h3 => exact .sl _ _ _ _ _ _ val h1 (by simp) hF hc h3
  | nil t =>
    intro v r
    cases r
    exact .slN _ _ (by simp)
  | vl t xs =>
    intro v r
    cases r with
    | vl _ z B off val h1 h1' hF hc h3 =>
      have key : ∀ k, k < xs.length * t.sz → k < (xs.map (enc t)).length * z ∧ z = t.sz := by
        intro k hk
        cases xs with
        | nil => simp at hk
        | cons x r =>
          have hz : z = t.sz := by rw [← h1 (enc t x) (by simp), enc_cells_length]
          subst hz
          refine ⟨by simpa using hk, rfl⟩
      rw [List.length_map]
      refine .sl _ t xs B off xs.length val (Nat.le_refl _) (by simp) (fun k hk => hF k (key k hk).1) (fun k hk => hc k (key k hk).1) ?_
      intro i x j c hx hcell
      have hi : i < xs.length := (List.getElem?_eq_some_iff.1 hx).1
      have hj : j < t.sz := by
        have := (List.getElem?_eq_some_iff.1 hcell).1
        rwa [enc_cells_length] at this
      have hz : z = t.sz := (key (i * t.sz) (Nat.mul_lt_mul_of_pos_right hi (by omega))).2
      subst hz
      exact h3 i (enc t x) j c (by rw [List.getElem?_map, hx]; rfl) hcell
  | agg cs ds e _ ih =>
    intro v r
    cases r with
    | agg _ vs e' hr =>
      refine .agg _ _ (by omega) ?_
      intro i c v hc hv
      obtain ⟨h1, rfl⟩ := List.getElem?_eq_some_iff.1 hc
      have h0 : i < cs.length := by omega
      exact ih i h0 h1 (hr i cs[i] v (List.getElem?_eq_getElem h0) hv)

theorem Rv.dec {S : Sit} {t : Ty} {a : AV} {x : t.den} {v : Value} (h : Gm.dec t a = some x) (r : Rv S a v) : Rv S (enc t x) v := r.weak (dec_weak h)

/-- A value's cells. -/
theorem Rv.cells {S : Sit} {a : AV} {v : Value} (r : Rv S a v) (hs : a.solid = true) : a.cells.length = v.cells.size ∧ ∀ (i : Nat) c u, a.cells[i]? = some c → v.cells[i]? = some u → Rv S c u := by
  have one : ∀ (a : AV) (v : Value), a.cells = [a] → v.cells = #[v] → Rv S a v → a.cells.length = v.cells.size ∧ ∀ (i : Nat) c u, a.cells[i]? = some c → v.cells[i]? = some u → Rv S c u := by
    intro a v ha hv r
    rw [ha, hv]
    refine ⟨rfl, ?_⟩
    intro i c u h1 h2
    cases i with
    | zero => simp at h1 h2; subst h1; subst h2; exact r
    | succ i => simp at h1
  cases r with
  | agg cs vs e h => exact ⟨e, h⟩
  | tup => simp [AV.solid] at hs
  | top => simp [AV.solid] at hs
  | int => exact one _ _ rfl rfl (.int _ _)
  | bool => exact one _ _ rfl rfl (.bool _)
  | str s b e => exact one _ _ rfl rfl (.str s b e)
  | nilp => exact one _ _ rfl rfl .nilp
  | ptr b o B h1 h2 => exact one _ _ rfl rfl (.ptr b o B h1 h2)
  | fptr cs o B f val h1 h2 h3 => exact one _ _ rfl rfl (.fptr cs o B f val h1 h2 h3)
  | elt b i o B h1 h2 h3 => exact one _ _ rfl rfl (.elt b i o B h1 h2 h3)
  | snil => exact one _ _ rfl rfl .snil
  | slN f t e => exact one _ _ rfl rfl (.slN f t e)
  | slE f t a cap e => exact one _ _ rfl rfl (.slE f t a cap e)
  | sl f t xs B off cap val h1 h2 h3 h4 h5 => exact one _ _ rfl rfl (.sl f t xs B off cap val h1 h2 h3 h4 h5)
  | vl vs z B off val h1 h1' h3 h4 h5 => exact one _ _ rfl rfl (.vl vs z B off val h1 h1' h3 h4 h5)
  | slr b B h1 h2 => exact one _ _ rfl rfl (.slr b B h1 h2)
  | slrN b a h1 h2 h3 h4 => exact one _ _ rfl rfl (.slrN b a h1 h2 h3 h4)
  | func f p q ps qs e1 e2 h1 h2 => exact one _ _ rfl rfl (.func f p q ps qs e1 e2 h1 h2)
  | nilf => exact one _ _ rfl rfl .nilf
  | iface t v v' h => exact one _ _ rfl rfl (.iface t v v' h)
  | nili => exact one _ _ rfl rfl .nili

theorem vAV0_ok {S : Sit} (v : Value) : Rv S (vAV0 v) v := by
  unfold vAV0
  split <;> first | exact .bool _ | exact .int _ _ | exact .str _ _ rfl | exact .nilp | exact .snil | exact .nilf | exact .nili | exact .top _

theorem vAV1_ok {S : Sit} (v : Value) : Rv S (vAV1 v) v := by
  unfold vAV1
  split
  · rename_i cs
    refine .agg _ _ (by simp) ?_
    intro i c u h1 h2
    simp at h1 h2
    rw [h2] at h1
    simp at h1
    subst h1
    exact vAV0_ok _
  · exact vAV0_ok _

theorem vAV_ok {S : Sit} (v : Value) : Rv S (vAV v) v := by
  unfold vAV
  split
  · exact .iface _ _ _ (vAV1_ok _)
  · exact vAV1_ok _

end Gm
