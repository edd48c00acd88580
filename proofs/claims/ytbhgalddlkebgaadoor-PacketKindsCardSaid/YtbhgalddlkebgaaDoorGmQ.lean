/- Operations that look at the heap, or change it: fourth part, rows. -/
import Derived.Test.YtbhgalddlkebgaaDoorGmP
import Derived.Deep.Upon
namespace Gm
open Go

section
variable {E : Env} {S : Sit} {w0 : World} {A : Ow} {hs : HS}

theorem RH.kill (r : RH w0 A S hs) (b : Nat) : RH w0 A S { hs with hp := upd hs.hp b .dead } := by
  have live : ∀ x, upd hs.hp b .dead x ≠ .dead → hs.hp x ≠ .dead := by
    intro x hx
    by_cases e : x = b
    · rw [e, upd_self] at hx; exact absurd rfl hx
    · rwa [upd_ne _ _ e] at hx
  exact {
    N := r.N
    dead := fun x (hx : hs.hn ≤ x) => by
      show upd hs.hp b .dead x = .dead
      by_cases e : x = b
      · rw [e, upd_self]
      · rw [upd_ne _ _ e]; exact r.dead x hx
    blks := fun x => by
      show RB _ x (upd hs.hp b .dead x)
      by_cases e : x = b
      · rw [e, upd_self]; trivial
      · rw [upd_ne _ _ e]; exact r.blks x
    inj := fun x y C hne hx hy hC => r.inj x y C hne (live x hx) (live y hy) hC
    F := r.F, os := r.os, tape := r.tape, output := r.output, size := r.size, old := r.old
    own := fun x C hx hC => r.own x C (live x hx) hC
    fo := r.fo }

/-- A name for a block that nobody holds, as it is turned to. -/
def Sit.adopt (S : Sit) (B : Nat) (o : Obj) (len cap esz : Nat) : Sit :=
  { w := World.put S.w B o, F := S.F, G := upd S.G S.N ⟨some B, len, cap, esz⟩, N := S.N + 1 }

theorem RH.adopt (r : RH w0 A S hs) {B : Nat} {o : Obj} {len cap esz : Nat} {k : Blk} (hlt : B < S.w.heap.size) (hfree : ∀ x, hs.hp x ≠ .dead → (S.G x).blk ≠ some B) (hown : A.own B ∨ w0.heap.size ≤ B)
    (hle : Le S (S.adopt B o len cap esz)) (hk : RB (S.adopt B o len cap esz) S.N k) : RH w0 A (S.adopt B o len cap esz) (hs.push k) := by
  have g0 : ((S.adopt B o len cap esz).G S.N).blk = some B := by show (upd S.G S.N _ S.N).blk = _; rw [upd_self]
  have g1 : ∀ x, x ≠ S.N → (S.adopt B o len cap esz).G x = S.G x := fun x hx => upd_ne _ _ hx
  have live : ∀ x, x ≠ S.N → upd hs.hp hs.hn k x ≠ .dead → hs.hp x ≠ .dead := by
    intro x hx h
    rwa [upd_ne _ _ (by rw [← r.N]; exact hx)] at h
  exact {
    N := by simp [Sit.adopt, HS.push, r.N]
    dead := fun b hb => by
      simp only [HS.push] at hb ⊢
      rw [upd_ne _ _ (by omega)]
      exact r.dead b (by omega)
    blks := fun b => by
      simp only [HS.push]
      by_cases e : b = S.N
      · subst e
        rw [r.N, upd_self, ← r.N]
        exact hk
      · rw [upd_ne _ _ (by rw [← r.N]; exact e)]
        refine RB.keep hle (g1 b e) ?_ (fun B o _ _ h => h) (r.blks b)
        intro C hd hC
        show (World.put S.w B o).heap[C]? = _
        rw [put_get _ _ _ _ hlt, if_neg]
        rintro rfl
        exact hfree b hd hC
    inj := fun b c C hne hb hc hB hC => by
      simp only [HS.push] at hb hc
      by_cases hbn : b = S.N
      · have hcn : c ≠ S.N := fun h => hne (hbn.trans h.symm)
        subst hbn
        rw [g0] at hB
        cases hB
        rw [g1 c hcn] at hC
        exact hfree c (live c hcn hc) hC
      · have hb' := live b hbn hb
        rw [g1 b hbn] at hB
        by_cases hcn : c = S.N
        · subst hcn
          rw [g0] at hC
          cases hC
          exact hfree b hb' hB
        · rw [g1 c hcn] at hC
          exact r.inj b c C hne hb' (live c hcn hc) hB hC
    F := fun C o h => by
      show C < (World.put S.w B _).heap.size
      rw [put_size]
      exact r.F C o h
    os := r.os
    tape := r.tape
    output := r.output
    size := by
      show _ ≤ (World.put S.w B _).heap.size
      rw [put_size]
      exact r.size
    old := fun C hC hA => by
      show (World.put S.w B _).heap[C]? = _
      rw [put_get _ _ _ _ hlt, if_neg]
      · exact r.old C hC hA
      · rintro rfl
        rcases hown with h | h
        · exact hA h
        · omega
    own := fun b C hb hB => by
      simp only [HS.push] at hb
      by_cases hbn : b = S.N
      · subst hbn
        rw [g0] at hB
        cases hB
        exact hown
      · rw [g1 b hbn] at hB
        exact r.own b C (live b hbn hb) hB
    fo := r.fo }

/-- A name for a row that has no room yet. -/
def Sit.bare (S : Sit) (esz : Nat) : Sit := { S with G := upd S.G S.N ⟨none, 0, 0, esz⟩, N := S.N + 1 }

theorem Le.bare (S : Sit) (esz : Nat) : Le S (S.bare esz) := ⟨fun _ _ h => h, fun _ _ _ _ h => h, fun _ hb => upd_ne _ _ (by omega), by simp [Sit.bare]⟩

theorem RH.bare (r : RH w0 A S hs) (ro : Bool) (t : Ty) : RH w0 A (S.bare t.sz) (hs.push (.row ro t [])) := by
  have g0 : (S.bare t.sz).G S.N = ⟨none, 0, 0, t.sz⟩ := upd_self _ _ _
  have g1 : ∀ x, x ≠ S.N → (S.bare t.sz).G x = S.G x := fun x hx => upd_ne _ _ hx
  have live : ∀ x, x ≠ S.N → upd hs.hp hs.hn (.row ro t []) x ≠ .dead → hs.hp x ≠ .dead := by
    intro x hx h
    rwa [upd_ne _ _ (by rw [← r.N]; exact hx)] at h
  exact {
    N := by simp [Sit.bare, HS.push, r.N]
    dead := fun b hb => by
      simp only [HS.push] at hb ⊢
      rw [upd_ne _ _ (by omega)]
      exact r.dead b (by omega)
    blks := fun b => by
      simp only [HS.push]
      by_cases e : b = S.N
      · subst e
        rw [r.N, upd_self, ← r.N]
        exact ⟨by rw [g0]; rfl, by rw [g0], .inl ⟨by rw [g0], rfl, by rw [g0]⟩⟩
      · rw [upd_ne _ _ (by rw [← r.N]; exact e)]
        exact RB.keep (Le.bare S t.sz) (g1 b e) (fun _ _ _ => rfl) (fun B o _ _ h => h) (r.blks b)
    inj := fun b c C hne hb hc hB hC => by
      simp only [HS.push] at hb hc
      have hbn : b ≠ S.N := by rintro rfl; rw [g0] at hB; cases hB
      have hcn : c ≠ S.N := by rintro rfl; rw [g0] at hC; cases hC
      rw [g1 b hbn] at hB
      rw [g1 c hcn] at hC
      exact r.inj b c C hne (live b hbn hb) (live c hcn hc) hB hC
    F := r.F
    os := r.os
    tape := r.tape
    output := r.output
    size := r.size
    old := r.old
    own := fun b C hb hB => by
      simp only [HS.push] at hb
      have hbn : b ≠ S.N := by rintro rfl; rw [g0] at hB; cases hB
      rw [g1 b hbn] at hB
      exact r.own b C (live b hbn hb) hB
    fo := r.fo }

theorem bare_slr (S : Sit) (esz : Nat) (a : Option Addr) : Rv (S.bare esz) (.slr S.N) (.slice a 0 0) := by
  have g0 : (S.bare esz).G S.N = ⟨none, 0, 0, esz⟩ := upd_self _ _ _
  exact .slrN _ _ (by simp [Sit.bare]) (by rw [g0]) (by rw [g0]) (by rw [g0])

theorem upd_same {α : Type} (f : Nat → α) (k : Nat) : upd f k (f k) = f := by
  funext n
  by_cases e : n = k
  · subst e; rw [upd_self]
  · rw [upd_ne _ _ e]

theorem roAll_ok : ∀ (bs : List Nat) (S : Sit) (hs : HS), RH w0 A S hs → ∃ T, Le S T ∧ T.w = S.w ∧ RH w0 A T { hs with hp := roAll bs hs.hp } ∧
    ∀ b, b ∈ bs → ∀ (ro : Bool) (t : Ty) (xs : List t.den) (v : Value), hs.hp b = .row ro t xs → Rv S (.slr b) v → Rv T (.sl .any t xs) v
  | [], S, hs, r => ⟨S, .refl S, rfl, r, fun b hb => by cases hb⟩
  | b :: bs, S, hs, r => by
    cases hb : hs.hp b with
    | row ro t xs =>
      have r1 := r.frz hb
      obtain ⟨T, h1, h2, h3, h4⟩ := roAll_ok bs _ _ r1
      refine ⟨T, (Le.frz S _ _).trans h1, h2, ?_, ?_⟩
      · simp only [roAll, hb, roB]
        exact h3
      · intro b' hb' ro' t' xs' v hr hv
        by_cases e : b' = b
        · subst e
          rw [hb] at hr
          cases hr
          exact (frz_val r hb hv).mono h1
        · rcases List.mem_cons.1 hb' with e' | hm
          · exact absurd e' e
          · refine h4 b' hm ro' t' xs' v ?_ (hv.mono (Le.frz S _ _))
            show upd hs.hp b _ b' = _
            rw [upd_ne _ _ e]
            exact hr
    | cells cs =>
      obtain ⟨T, h1, h2, h3, h4⟩ := roAll_ok bs S hs r
      refine ⟨T, h1, h2, ?_, ?_⟩
      · simp only [roAll, hb, roB]
        rw [← hb, upd_same]
        exact h3
      · intro b' hb' ro' t' xs' v hr hv
        rcases List.mem_cons.1 hb' with e' | hm
        · subst e'; rw [hb] at hr; cases hr
        · exact h4 b' hm ro' t' xs' v hr hv
    | dead =>
      obtain ⟨T, h1, h2, h3, h4⟩ := roAll_ok bs S hs r
      refine ⟨T, h1, h2, ?_, ?_⟩
      · simp only [roAll, hb, roB]
        rw [← hb, upd_same]
        exact h3
      · intro b' hb' ro' t' xs' v hr hv
        rcases List.mem_cons.1 hb' with e' | hm
        · subst e'; rw [hb] at hr; cases hr
        · exact h4 b' hm ro' t' xs' v hr hv

theorem frz0_ok {T : Sit} {bs : List Nat} (hle : Le S T) (h : ∀ b, b ∈ bs → ∀ (ro : Bool) (t : Ty) (xs : List t.den) (v : Value), hs.hp b = .row ro t xs → Rv S (.slr b) v → Rv T (.sl .any t xs) v)
    {a : AV} {v : Value} (hb : ∀ b, b ∈ slrs0 a → b ∈ bs) (hv : Rv S a v) : Rv T (frz0 hs.hp a) v := by
  unfold frz0
  split
  · rename_i b
    split
    · rename_i ro t xs hr
      exact h b (hb b (by simp [slrs0])) ro t xs v hr hv
    · exact .top _
  · exact hv.mono hle

theorem frz1_ok {T : Sit} {bs : List Nat} (hle : Le S T) (h : ∀ b, b ∈ bs → ∀ (ro : Bool) (t : Ty) (xs : List t.den) (v : Value), hs.hp b = .row ro t xs → Rv S (.slr b) v → Rv T (.sl .any t xs) v)
    {a : AV} {v : Value} (hb : ∀ b, b ∈ slrs1 a → b ∈ bs) (hv : Rv S a v) : Rv T (frz1 hs.hp a) v := by
  unfold frz1
  split
  · rename_i cs
    obtain ⟨vs, rfl, c1, c2⟩ := hv.agg_inv
    refine .agg _ _ (by simp [c1]) ?_
    intro i c u hc hu
    simp at hc
    obtain ⟨c', hc', rfl⟩ := hc
    refine frz0_ok hle h (fun b hb' => hb b ?_) (c2 i c' u hc' hu)
    simp only [slrs1, List.mem_flatMap]
    exact ⟨c', List.mem_of_getElem? hc', hb'⟩
  · rename_i hn
    refine frz0_ok hle h (fun b hb' => hb b ?_) hv
    unfold slrs1
    split
    · exact (hn _ rfl).elim
    · exact hb'

theorem frz_ok {T : Sit} {bs : List Nat} (hle : Le S T) (h : ∀ b, b ∈ bs → ∀ (ro : Bool) (t : Ty) (xs : List t.den) (v : Value), hs.hp b = .row ro t xs → Rv S (.slr b) v → Rv T (.sl .any t xs) v)
    {a : AV} {v : Value} (hb : ∀ b, b ∈ slrs a → b ∈ bs) (hv : Rv S a v) : Rv T (frz hs.hp a) v := by
  unfold frz
  split
  · rename_i cs
    obtain ⟨vs, rfl, c1, c2⟩ := hv.tup_inv
    refine .tup _ _ (by simp [c1]) ?_
    intro i c u hc hu
    simp at hc
    obtain ⟨c', hc', rfl⟩ := hc
    refine frz1_ok hle h (fun b hb' => hb b ?_) (c2 i c' u hc' hu)
    simp only [slrs, List.mem_flatMap]
    exact ⟨c', List.mem_of_getElem? hc', hb'⟩
  · rename_i hn
    refine frz1_ok hle h (fun b hb' => hb b ?_) hv
    unfold slrs
    split
    · exact (hn _ rfl).elim
    · exact hb'

theorem frz_list {T : Sit} {vs : List AV} {us : Array Value} (hle : Le S T) (h : ∀ b, b ∈ vs.flatMap slrs → ∀ (ro : Bool) (t : Ty) (xs : List t.den) (v : Value), hs.hp b = .row ro t xs → Rv S (.slr b) v → Rv T (.sl .any t xs) v)
    (hv : Cs S vs us) : Cs T (vs.map (frz hs.hp)) us := by
  refine ⟨by simp [hv.1], ?_⟩
  intro i c u hc hu
  simp at hc
  obtain ⟨c', hc', rfl⟩ := hc
  refine frz_ok hle h (fun b hb => ?_) (hv.2 i c' u hc' hu)
  rw [List.mem_flatMap]
  exact ⟨c', List.mem_of_getElem? hc', hb⟩

end
end Gm
