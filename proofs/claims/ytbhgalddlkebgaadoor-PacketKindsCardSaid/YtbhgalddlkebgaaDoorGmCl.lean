/- A copy of a slice: what slices.Clone makes, as an operation of the machine. -/
import Derived.Test.YtbhgalddlkebgaaDoorGmRb
namespace Gm
open Go

def hsC (t : Ty) (xs : List t.den) : HS := (hs0.push (.row false t [])).push (.row false t xs)

/-- A value that is one and the same in every world. -/
def Flat (t : Ty) : Prop := ∀ (x : t.den) (c : AV), c ∈ (enc t x).cells → ∀ (S T : Sit) (u : Value), Rv S c u → Rv T c u
theorem flat_str : Flat .str := by
  intro x c hc S T u h
  simp [enc, AV.cells] at hc
  subst hc
  cases h with
  | str _ b e => exact .str _ b e
theorem flat_write : Flat (.st 0) := by
  intro x c hc S T u h
  simp [enc, encS, AV.cells] at hc
  rcases hc with rfl | rfl
  · cases h; exact .int _ _
  · cases h with
    | str _ b e => exact .str _ b e

theorem clone_of {E0 : Env} {f : FuncId} {t : Ty} {w : Nat} (hflat : Flat t) (hcl : CloneSound E0) (hn : NoNum E0.P) (hm : E0.P.follows .mixedOrders = true)
    (h1 : ∀ (xs : List t.den) (K : AV → HS → Prop), afun E0 [] 1 f [.sl .nn t xs] hs0 K = (bif decide (xs.length * w ≤ room) then K (.slr 1) (hsC t xs) else False))
    (h2 : ∀ (K : AV → HS → Prop), afun E0 [] 1 f [.snil] hs0 K = (bif decide (([] : List t.den).length * w ≤ room) then K (.slr 1) (hsC t []) else False)) :
    Callable E0.P f ∧ ∀ (w0 : World) (A : Ow) (S : Sit) (hs : HS) (v : Value) (xs : List t.den), RH w0 A S hs → Rv S (.sl .any t xs) v →
      xs.length * w ≤ room → Calls E0.P f #[v] S.w (fun e w' => ∃ v a T, e = .returned v ∧ a = .slr hs.hn ∧ T.w = w' ∧ Le S T ∧ RH w0 A T (hs.push (.row false t xs)) ∧ Rv T a v) := by
  have go : ∀ (xs : List t.den) (arg : AV), xs.length * w ≤ room → (∀ K : AV → HS → Prop, afun E0 [] 1 f [arg] hs0 K = (bif decide (xs.length * w ≤ room) then K (.slr 1) (hsC t xs) else False)) →
      Callable E0.P f ∧ ∀ (w0 : World) (A : Ow) (S : Sit) (hs : HS) (v : Value), RH w0 A S hs → Rv (fresh S) arg v →
      Calls E0.P f #[v] S.w (fun e w' => ∃ v a T, e = .returned v ∧ a = .slr hs.hn ∧ T.w = w' ∧ Le S T ∧ RH w0 A T (hs.push (.row false t xs)) ∧ Rv T a v) := by
    intro xs arg hx he
    have hrun := fun (w0 : World) (A : Ow) => afun_sound (w0 := w0) (A := A) hn hm (fun _ _ h => by cases h) hcl dtab_nil 1 f [arg] hs0 (fun a hs' => a = .slr 1 ∧ hs'.hp 1 = .row false t xs) (by
      rw [he]
      have hd : decide (xs.length * w ≤ room) = true := by simpa using hx
      rw [hd]
      exact ⟨rfl, rfl⟩)
    refine ⟨(hrun default ⟨fun _ => False, fun _ _ => False⟩).1, ?_⟩
    intro w0 A S hs v r hv
    have hc : Cs (fresh S) [arg] #[v] := by
      refine ⟨rfl, ?_⟩
      intro i c u h1 h2
      match i with
      | 0 => simp at h1 h2; subst h1; subst h2; exact hv
      | i + 1 => simp at h1
    refine ((hrun S.w ⟨fun _ => False, S.F⟩).2 (fresh S) #[v] (fresh_rh r.F) hc).mono ?_
    rintro e w' ⟨v', a, T, hs', rfl, rfl, hle, hrh, hrv, rfl, hrow⟩
    have hX : Ext S { w := T.w, F := S.F, G := S.G, N := S.N } := {
      le := ⟨fun B o h => h, fun B o u h hc => hle.cell B o u h hc, fun _ _ => rfl, Nat.le_refl _⟩
      G := rfl
      N := rfl
      os := hrh.os
      tape := hrh.tape
      output := hrh.output
      size := hrh.size
      old := fun B hB => hrh.old B hB (fun h => h)
      F := fun B o h => .inl h }
    have r1 := r.ext hX
    have hb := hrh.blks 1
    rw [hrow] at hb
    obtain ⟨l1, l2, l3⟩ := hb
    rcases l3 with ⟨b1, b2, b3⟩ | ⟨B, c, el, fz, b1, b2, b3, b4, b5, b6, b7⟩
    · -- there is no row
      subst b2
      refine ⟨v', .slr hs.hn, Sit.bare { w := T.w, F := S.F, G := S.G, N := S.N } t.sz, rfl, rfl, rfl, hX.le.trans (Le.bare _ _), r1.bare false t, ?_⟩
      have hg : (Sit.bare { w := T.w, F := S.F, G := S.G, N := S.N } t.sz).G hs.hn = ⟨none, 0, 0, t.sz⟩ := by
        rw [← r.N]; exact upd_self _ _ _
      have hN : hs.hn < (Sit.bare { w := T.w, F := S.F, G := S.G, N := S.N } t.sz).N := by
        show hs.hn < S.N + 1
        rw [r.N]; omega
      have hv' : ∃ a, v' = .slice a 0 0 := by
        generalize e1 : (AV.slr 1) = a at hrv
        cases hrv with
        | slr b B hb hB => cases e1; rw [b1] at hB; cases hB
        | slrN b a hb hB hl hc => exact ⟨_, rfl⟩
        | _ => cases e1
      obtain ⟨a, rfl⟩ := hv'
      exact .slrN _ _ hN (by rw [hg]) (by rw [hg]) (by rw [hg])
    · have hlt : B < T.w.heap.size := heap_lt b2
      have hnew : S.w.heap.size ≤ B := by
        rcases hrh.own 1 B (by rw [hrow]; intro h; cases h) b1 with h | h
        · exact h.elim
        · exact h
      have hv' : v' = .slice (some (at_ B 0)) (T.G 1).len (T.G 1).cap := by
        generalize e1 : (AV.slr 1) = a at hrv
        cases hrv with
        | slr b B' hb hB => cases e1; rw [b1] at hB; cases hB; rfl
        | slrN b a hb hB hl hc => cases e1; rw [b1] at hB; cases hB
        | _ => cases e1
      subst hv'
      have hput : World.put T.w B (.cells c el fz) = T.w := put_self b2
      have hG : (Sit.adopt { w := T.w, F := S.F, G := S.G, N := S.N } B (.cells c el fz) (T.G 1).len (T.G 1).cap t.sz).G S.N = ⟨some B, (T.G 1).len, (T.G 1).cap, t.sz⟩ := upd_self _ _ _
      have hL : Le { w := T.w, F := S.F, G := S.G, N := S.N } (Sit.adopt { w := T.w, F := S.F, G := S.G, N := S.N } B (.cells c el fz) (T.G 1).len (T.G 1).cap t.sz) :=
        ⟨fun _ _ h => h, fun B' o u _ h => by show (World.put T.w B _).cell? _ = _; rw [hput]; exact h, fun b hb => upd_ne _ _ (by show b ≠ S.N; have hb : b < S.N := hb; omega), Nat.le_succ _⟩
      have hF2 : ∀ o, ¬ S.F B o := fun o h => by have := r.F B o h; omega
      refine ⟨_, .slr hs.hn, Sit.adopt { w := T.w, F := S.F, G := S.G, N := S.N } B (.cells c el fz) (T.G 1).len (T.G 1).cap t.sz, rfl, rfl, hput, hX.le.trans hL, ?_, ?_⟩
      · refine r1.adopt hlt ?_ ?_ hL ?_
        · intro x hx hB
          have := r.alive_lt hx hB
          omega
        · exact .inr (Nat.le_trans r.size hnew)
        · refine ⟨by rw [hG]; exact l1, by rw [hG], .inr ⟨B, c, el, fz, by rw [hG], ?_, by rw [hG]; exact b3, by rw [hG]; exact b4, by rw [hG]; exact b5, ?_, fun o h => absurd h (hF2 o)⟩⟩
          · show (World.put T.w B _).heap[B]? = _
            rw [hput]; exact b2
          · intro i x j a u hx ha hu
            exact hflat x a (List.mem_of_getElem? ha) T _ u (b6 i x j a u hx ha hu)
      · have : Rv (Sit.adopt { w := T.w, F := S.F, G := S.G, N := S.N } B (.cells c el fz) (T.G 1).len (T.G 1).cap t.sz) (.slr S.N) (.slice (some (at_ B 0)) (((Sit.adopt { w := T.w, F := S.F, G := S.G, N := S.N } B (.cells c el fz) (T.G 1).len (T.G 1).cap t.sz).G S.N).len) (((Sit.adopt { w := T.w, F := S.F, G := S.G, N := S.N } B (.cells c el fz) (T.G 1).len (T.G 1).cap t.sz).G S.N).cap)) :=
          .slr S.N B (Nat.lt_succ_self _) (by rw [hG])
        rw [hG] at this
        rw [← r.N]
        exact this
  refine ⟨(go [] .snil (by simp) h2).1, ?_⟩
  intro w0 A S hs v xs r hv hx
  have le : LeF S (fresh S) := ⟨fun _ _ h => h, fun _ _ _ _ h => h⟩
  have nn : Rv S (.sl .nn t xs) v ∨ (v = .slice none 0 0 ∧ xs = []) := by
    cases hv with
    | slN => exact .inr ⟨rfl, rfl⟩
    | slE _ _ a cap h => exact .inl (.slE _ _ _ _ (fun h => by cases h))
    | sl _ _ _ B off cap val h1 h2 h3 h4 h5 => exact .inl (.sl _ _ _ _ _ _ val h1 (fun h => by cases h) h3 h4 h5)
  rcases nn with h | ⟨rfl, rfl⟩
  · exact (go xs (.sl .nn t xs) hx (h1 xs)).2 w0 A S hs v r (h.closed le (.sl _ _ _))
  · exact (go [] .snil (by simp) h2).2 w0 A S hs _ r .snil
end Gm
