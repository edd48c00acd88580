/- What a loop keeps. -/
import Derived.Test.YtbhgalddlkebgaaDoorGmZ1
namespace Gm
open Go

/-- A value that names nothing. -/
inductive Closed : AV → Prop
  | int (k n) : Closed (.int k n)
  | bool (b) : Closed (.bool b)
  | str (s) : Closed (.str s)
  | agg (cs) : (∀ c ∈ cs, Closed c) → Closed (.agg cs)
  | tup (cs) : (∀ c ∈ cs, Closed c) → Closed (.tup cs)
  | nilp : Closed .nilp
  | fptr (cs o) : (∀ c ∈ cs, Closed c) → Closed (.fptr cs o)
  | snil : Closed .snil
  | sl (f t xs) : Closed (.sl f t xs)
  | vl (vs) : (∀ v ∈ vs, ∀ c ∈ v.cells, Closed c) → Closed (.vl vs)
  | func (f p q) : (∀ c ∈ p, Closed c) → (∀ c ∈ q, Closed c) → Closed (.func f p q)
  | nilf : Closed .nilf
  | iface (t v) : Closed v → Closed (.iface t v)
  | nili : Closed .nili

theorem enc_closed (t : Ty) (x : t.den) : ∀ c ∈ (enc t x).cells, Closed c := by
  cases t with
  | int k => intro c h; simp [enc, AV.cells] at h; subst h; exact .int _ _
  | bool => intro c h; simp [enc, AV.cells] at h; subst h; exact .bool _
  | str => intro c h; simp [enc, AV.cells] at h; subst h; exact .str _
  | slice t => intro c h; simp [enc, AV.cells] at h; subst h; exact .sl _ _ _
  | st n =>
    intro c h
    have h : c ∈ encS n x := h
    unfold encS at h
    split at h <;> simp only [List.mem_cons, List.not_mem_nil, or_false] at h <;> (try exact h.elim) <;> rcases h with h | h
    all_goals first | (subst h; first | exact .int _ _ | exact .bool _ | exact .str _ | exact .sl _ _ _) | skip
    all_goals repeat (first | (subst h; first | exact .int _ _ | exact .bool _ | exact .str _ | exact .sl _ _ _) | rcases h with h | h)

theorem enc_closed' (t : Ty) (x : t.den) : Closed (enc t x) := by
  have := enc_closed t x
  cases t with
  | st n => exact .agg _ this
  | _ => exact this _ (by simp [enc, AV.cells])

/-- What was known of cells goes on being so. -/
structure LeF (S T : Sit) : Prop where
  F : ∀ B o, S.F B o → T.F B o
  cell : ∀ B o v, S.F B o → S.w.cell? (at_ B o) = some v → T.w.cell? (at_ B o) = some v

theorem Rv.closed {S T : Sit} (h : LeF S T) {a : AV} {v : Value} (r : Rv S a v) (hc : Closed a) : Rv T a v := by
  induction r with
  | int k n => exact .int k n
  | bool b => exact .bool b
  | str s b e => exact .str s b e
  | agg cs vs e _ ih =>
    cases hc with
    | agg _ hc => exact .agg cs vs e (fun i c v h1 h2 => ih i c v h1 h2 (hc c (List.mem_of_getElem? h1)))
  | tup cs vs e _ ih =>
    cases hc with
    | tup _ hc => exact .tup cs vs e (fun i c v h1 h2 => ih i c v h1 h2 (hc c (List.mem_of_getElem? h1)))
  | nilp => exact .nilp
  | ptr b o B hb hB => cases hc
  | fptr cs o B f val hF hcell _ ih =>
    cases hc with
    | fptr _ _ hc => exact .fptr cs o B f val (fun i hi => h.F _ _ (hF i hi)) (fun i hi => h.cell _ _ _ (hF i hi) (hcell i hi)) (fun i c h1 => ih i c h1 (hc c (List.mem_of_getElem? h1)))
  | elt b i o B hb hi hB => cases hc
  | snil => exact .snil
  | slN f t e => exact .slN f t e
  | slE f t a cap e => exact .slE f t a cap e
  | sl f t xs B off cap val h1 h2 hF hcell _ ih =>
    exact .sl f t xs B off cap val h1 h2 (fun i hi => h.F _ _ (hF i hi)) (fun i hi => h.cell _ _ _ (hF i hi) (hcell i hi))
      (fun i x j c h1 h2 => ih i x j c h1 h2 (enc_closed t x c (List.mem_of_getElem? h2)))
  | vl vs z B off val h1 h1' hF hcell _ ih =>
    cases hc with
    | vl _ hc =>
      refine .vl vs z B off val h1 h1' (fun i hi => h.F _ _ (hF i hi)) (fun i hi => h.cell _ _ _ (hF i hi) (hcell i hi)) ?_
      exact fun i v j c h1 h2 => ih i v j c h1 h2 (hc v (List.mem_of_getElem? h1) c (List.mem_of_getElem? h2))
  | slr b B hb hB => cases hc
  | slrN b a hb hB hl hc' => cases hc
  | func f p q ps qs e1 e2 _ _ ih1 ih2 =>
    cases hc with
    | func _ _ _ c1 c2 => exact .func f p q ps qs e1 e2 (fun i c v h1 h2 => ih1 i c v h1 h2 (c1 c (List.mem_of_getElem? h1))) (fun i c v h1 h2 => ih2 i c v h1 h2 (c2 c (List.mem_of_getElem? h1)))
  | nilf => exact .nilf
  | iface t v v' _ ih =>
    cases hc with
    | iface _ _ hc => exact .iface t v v' (ih hc)
  | nili => exact .nili
  | top v => exact .top v

theorem cl0_closed {a : AV} (h : cl0 a = true) : Closed a := by
  cases a <;> simp [cl0] at h
  · exact .int _ _
  · exact .bool _
  · exact .str _
  · exact .nilp
  · exact .snil
  · exact .sl _ _ _
  · exact .nilf
  · exact .nili

theorem cl1_closed {a : AV} (h : cl1 a = true) : Closed a := by
  cases a
  case agg cs => exact .agg _ (fun c hc => cl0_closed (List.all_eq_true.1 (show cs.all cl0 = true from h) c hc))
  all_goals exact cl0_closed h

theorem cells_closed {a : AV} (h : Closed a) : ∀ c ∈ a.cells, Closed c := by
  cases a
  case agg cs => cases h with | agg _ h => exact h
  all_goals (intro c hc; simp only [AV.cells, List.mem_singleton] at hc; subst hc; exact h)

theorem cl2_closed {a : AV} (h : cl2 a = true) : Closed a := by
  cases a
  case tup cs => exact .tup _ (fun c hc => cl1_closed (List.all_eq_true.1 (show cs.all cl1 = true from h) c hc))
  case iface t v => exact .iface _ _ (cl1_closed h)
  case vl vs => exact .vl _ (fun v hv => cells_closed (cl1_closed (List.all_eq_true.1 (show vs.all cl1 = true from h) v hv)))
  case func f p q =>
    have h : (p.all cl1 && q.all cl1) = true := h
    rw [Bool.and_eq_true] at h
    exact .func _ _ _ (fun c hc => cl1_closed (List.all_eq_true.1 h.1 c hc)) (fun c hc => cl1_closed (List.all_eq_true.1 h.2 c hc))
  case fptr cs o => exact .fptr _ _ (fun c hc => cl0_closed (List.all_eq_true.1 (show cs.all cl0 = true from h) c hc))
  all_goals exact cl1_closed h

/-- From one set of names to another: those of the list mean the same. -/
structure Rn (bs : List Nat) (S T : Sit) : Prop where
  f : LeF S T
  b : ∀ b ∈ bs, T.G b = S.G b ∧ b < T.N

theorem Rn.slr {bs : List Nat} {S T : Sit} (h : Rn bs S T) {b : Nat} {v : Value} (hb : memB b bs = true) (r : Rv S (.slr b) v) : Rv T (.slr b) v := by
  obtain ⟨hG, hN⟩ := h.b b ((memB_iff _ _).1 hb)
  cases r with
  | slr _ B h1 h2 => rw [← hG]; exact .slr b B hN (by rw [hG]; exact h2)
  | slrN _ a h1 h2 h3 h4 => exact .slrN b a hN (by rw [hG]; exact h2) (by rw [hG]; exact h3) (by rw [hG]; exact h4)

theorem Rn.ptr {bs : List Nat} {S T : Sit} (h : Rn bs S T) {b o : Nat} {v : Value} (hb : memB b bs = true) (r : Rv S (.ptr b o) v) : Rv T (.ptr b o) v := by
  obtain ⟨hG, hN⟩ := h.b b ((memB_iff _ _).1 hb)
  cases r with
  | ptr _ _ B h1 h2 => exact .ptr b o B hN (by rw [hG]; exact h2)

theorem Rn.keptV {bs : List Nat} {S T : Sit} (h : Rn bs S T) {a : AV} {v : Value} (r : Rv S a v) : Rv T (keptV bs a) v := by
  unfold Gm.keptV
  cases hk : keptRef bs a with
  | false => exact .top _
  | true =>
    show Rv T a v
    cases a
    case ptr b o => exact h.ptr hk r
    case slr b => exact h.slr hk r
    case agg cs =>
      cases r with
      | agg _ vs e hr =>
        refine .agg cs vs e ?_
        intro i c v h1 h2
        have hc := List.all_eq_true.1 (show (cs.all fun c => match c with | .ptr b _ => memB b bs | .slr b => memB b bs | c => cl0 c) = true from hk) c (List.mem_of_getElem? h1)
        have hr' := hr i c v h1 h2
        cases c
        case ptr b o => exact h.ptr hc hr'
        case slr b => exact h.slr hc hr'
        all_goals exact hr'.closed h.f (cl0_closed hc)
    case func f p q =>
      have one : ∀ c v, (match c with | .ptr b _ => memB b bs | .slr b => memB b bs | c => cl1 c) = true → Rv S c v → Rv T c v := by
        intro c v hc hr'
        cases c
        case ptr b o => exact h.ptr hc hr'
        case slr b => exact h.slr hc hr'
        all_goals exact hr'.closed h.f (cl1_closed hc)
      have hk : ((p ++ q).all fun c => match c with | .ptr b _ => memB b bs | .slr b => memB b bs | c => cl1 c) = true := hk
      cases r with
      | func _ _ _ ps qs e1 e2 h1 h2 =>
        exact .func f p q ps qs e1 e2 (fun i c v h3 h4 => one c v (List.all_eq_true.1 hk c (List.mem_append_left _ (List.mem_of_getElem? h3))) (h1 i c v h3 h4))
          (fun i c v h3 h4 => one c v (List.all_eq_true.1 hk c (List.mem_append_right _ (List.mem_of_getElem? h3))) (h2 i c v h3 h4))
    all_goals exact r.closed h.f (cl2_closed hk)

theorem lookL_mem {α : Type} (d : α) (P : α → Prop) (hd : P d) : ∀ (l : List (Nat × α)) (n : Nat), (∀ p ∈ l, p.1 = n → P p.2) → P (lookL d l n)
  | [], n, _ => hd
  | (k, v) :: r, n, h => by
    unfold lookL
    cases e : Nat.beq n k with
    | true => exact h (k, v) (by simp) (Nat.eq_of_beq_eq_true e).symm
    | false => exact lookL_mem d P hd r n (fun p hp => h p (by simp [hp]))

theorem nodupB_nodup : ∀ {l : List Nat}, nodupB l = true → l.Nodup
  | [], _ => List.nodup_nil
  | a :: r, h => by
    unfold nodupB at h
    rw [Bool.and_eq_true] at h
    refine List.nodup_cons.2 ⟨fun hm => ?_, nodupB_nodup h.2⟩
    rw [(memB_iff a r).2 hm] at h
    exact absurd h.1 (by decide)

def homes (kp : Keep) (st : St) : List (Nat × Nat) := bif homesOk kp (hmOf kp st) then hmOf kp st else []

/-- The name a kept one had. -/
def orig (hm : List (Nat × Nat)) (b : Nat) : Nat := lookL b hm b

theorem orig_home {hm : List (Nat × Nat)} (hn : (hm.map (·.1)).Nodup) {b x : Nat} (h : (b, x) ∈ hm) : orig hm b = x := by
  unfold orig
  have key : ∀ (d : Nat) (l : List (Nat × Nat)), (l.map (·.1)).Nodup → (b, x) ∈ l → lookL d l b = x := by
    intro d l
    induction l with
    | nil => intro _ h; cases h
    | cons p r ih =>
      intro hn h
      obtain ⟨k, v⟩ := p
      rw [List.map_cons, List.nodup_cons] at hn
      unfold lookL
      rcases List.mem_cons.1 h with h' | h'
      · cases h'; rw [Nat.beq_refl]; rfl
      · have : b ≠ k := by
          intro e
          exact hn.1 (List.mem_map.2 ⟨_, h', e⟩)
        have : Nat.beq b k = false := by
          cases e : Nat.beq b k with
          | false => rfl
          | true => exact absurd (Nat.eq_of_beq_eq_true e) this
        rw [this]
        exact ih hn.2 h'
  exact key b hm hn h

theorem orig_other {hm : List (Nat × Nat)} {b : Nat} (h : ∀ p ∈ hm, p.1 ≠ b) : orig hm b = b := by
  unfold orig
  exact lookL_mem b (fun v => v = b) rfl hm b (fun p hp e => absurd e (h p hp))

theorem homes_ok (kp : Keep) (st : St) : ((homes kp st).map (·.1)).Nodup ∧ ((homes kp st).map (·.2)).Nodup ∧ ∀ p ∈ homes kp st, p.1 ∉ kp.bs ∧ p.2 ∉ kp.bs := by
  unfold homes
  cases h : homesOk kp (hmOf kp st) with
  | false => simp
  | true =>
    unfold homesOk at h
    simp only [Bool.and_eq_true] at h
    obtain ⟨⟨h1, h2⟩, h3⟩ := h
    refine ⟨nodupB_nodup h2, nodupB_nodup h1, ?_⟩
    intro p hp
    have := List.all_eq_true.1 h3 p hp
    simp only [Bool.and_eq_true, Bool.not_eq_true'] at this
    refine ⟨fun hm => ?_, fun hm => ?_⟩
    · rw [(memB_iff _ _).2 hm] at this; exact absurd this.1 (by decide)
    · rw [(memB_iff _ _).2 hm] at this; exact absurd this.2 (by decide)

theorem homes_of {kp : Keep} {st : St} {p : Nat × Nat} (h : p ∈ homes kp st) : (∃ k, (k, some p.1) ∈ kp.ks) ∨ (∃ b i, (b, i, p.1) ∈ kp.cs) := by
  unfold homes at h
  cases e : homesOk kp (hmOf kp st) with
  | false => rw [e] at h; cases h
  | true =>
    rw [e] at h
    rcases List.mem_append.1 (show p ∈ hmOf kp st from h) with h | h
    · obtain ⟨⟨k, ob⟩, h1, h2⟩ := List.mem_filterMap.1 h
      cases ob with
      | none => cases h2
      | some b =>
        unfold homeOf at h2
        simp only at h2
        split at h2
        · cases h2
          exact .inl ⟨k, h1⟩
        · cases h2
    · obtain ⟨⟨b, i, q⟩, h1, h2⟩ := List.mem_filterMap.1 h
      unfold cellHome at h2
      simp only at h2
      split at h2
      · split at h2
        · cases h2
          exact .inr ⟨b, i, h1⟩
        · cases h2
      · cases h2

theorem homeIn_mem {b i h : Nat} : ∀ {l : List (Nat × Nat × Nat)}, homeIn l b i = some h → (b, i, h) ∈ l
  | [], e => by cases e
  | (c, j, g) :: r, e => by
    unfold homeIn at e
    cases hb : (Nat.beq c b && Nat.beq j i) with
    | true =>
      rw [hb] at e
      cases e
      rw [Bool.and_eq_true] at hb
      cases Nat.eq_of_beq_eq_true hb.1
      cases Nat.eq_of_beq_eq_true hb.2
      exact List.mem_cons_self
    | false =>
      rw [hb] at e
      exact List.mem_cons_of_mem _ (homeIn_mem e)

theorem keptC_get {kp : Keep} {ok : Bool} {b : Nat} : ∀ (cs : List AV) (k i : Nat), (keptC kp ok b k cs)[i]? = (cs[i]?).map (keptC1 kp ok b (k + i))
  | [], _, _ => by simp [keptC]
  | c :: r, k, 0 => by simp [keptC]
  | c :: r, k, i + 1 => by
    simp only [keptC, List.getElem?_cons_succ]
    rw [keptC_get r (k + 1) i]
    congr 2
    omega

theorem keptC_length {kp : Keep} {ok : Bool} {b : Nat} : ∀ (cs : List AV) (k : Nat), (keptC kp ok b k cs).length = cs.length
  | [], _ => rfl
  | c :: r, k => by simp [keptC, keptC_length r (k + 1)]

theorem lget_get (cs : List AV) : ∀ (i : Nat) (c : AV), cs[i]? = some c → lget cs i = c := by
  induction cs with
  | nil => intro i c h; simp at h
  | cons a r ih =>
    intro i c h
    cases i with
    | zero => simp at h; exact h
    | succ i => exact ih i c (by simpa using h)

def keepSit (kp : Keep) (st : St) (S : Sit) : Sit := { w := S.w, F := S.F, G := fun b => S.G (orig (homes kp st) b), N := kp.hn }

theorem keep_rn {kp : Keep} {st : St} {S : Sit} (hk : keepOk kp = true) : Rn kp.bs S (keepSit kp st S) where
  f := ⟨fun _ _ h => h, fun _ _ _ _ h => h⟩
  b := by
    intro b hb
    unfold keepOk at hk
    rw [Bool.and_eq_true] at hk
    refine ⟨?_, show b < kp.hn by simpa [Nat.blt_eq] using List.all_eq_true.1 hk.1 b hb⟩
    show S.G (orig (homes kp st) b) = S.G b
    rw [orig_other]
    intro p hp e
    exact ((homes_ok kp st).2.2 p hp).1 (e ▸ hb)

/-- The blocks of a kept state. -/
theorem keep_hp (kp : Keep) (st : St) (b : Nat) : (keepSt kp st).hs.hp b = .dead ∨
    (∃ x, (b, x) ∈ homes kp st ∧ (keepSt kp st).hs.hp b = match st.hs.hp x with | .row ro t xs => .row ro t xs | _ => .dead) ∨
    (b ∈ kp.bs ∧ (keepSt kp st).hs.hp b = match st.hs.hp b with | .cells cs => .cells (keptC kp (homesOk kp (hmOf kp st)) b 0 cs) | x => x) := by
  unfold keepSt
  simp only
  have key : ∀ (l : List (Nat × Blk)), (∀ p ∈ l, (∃ x, (p.1, x) ∈ homes kp st ∧ p.2 = match st.hs.hp x with | .row ro t xs => .row ro t xs | _ => .dead) ∨
      (p.1 ∈ kp.bs ∧ p.2 = match st.hs.hp p.1 with | .cells cs => .cells (keptC kp (homesOk kp (hmOf kp st)) p.1 0 cs) | x => x)) → lookL .dead l b = .dead ∨ (∃ x, (b, x) ∈ homes kp st ∧ lookL .dead l b = match st.hs.hp x with | .row ro t xs => .row ro t xs | _ => .dead) ∨
      (b ∈ kp.bs ∧ lookL .dead l b = match st.hs.hp b with | .cells cs => .cells (keptC kp (homesOk kp (hmOf kp st)) b 0 cs) | x => x) := by
    intro l hl
    refine lookL_mem (d := Blk.dead) (fun v => v = .dead ∨ (∃ x, (b, x) ∈ homes kp st ∧ v = match st.hs.hp x with | .row ro t xs => .row ro t xs | _ => .dead) ∨
      (b ∈ kp.bs ∧ v = match st.hs.hp b with | .cells cs => .cells (keptC kp (homesOk kp (hmOf kp st)) b 0 cs) | x => x)) (.inl rfl) l b ?_
    intro p hp e
    subst e
    exact .inr (hl p hp)
  refine key _ ?_
  intro p hp
  rcases List.mem_append.1 hp with hp | hp
  · left
    unfold homes
    cases e : homesOk kp (hmOf kp st) with
    | false => rw [e] at hp; cases hp
    | true =>
      rw [e] at hp
      obtain ⟨q, h1, rfl⟩ := List.mem_map.1 hp
      exact ⟨q.2, h1, rfl⟩
  · right
    obtain ⟨q, h1, rfl⟩ := List.mem_map.1 hp
    exact ⟨h1, rfl⟩

theorem rn_closed {S T : Sit} (hf : LeF S T) {t : Ty} {x : t.den} {j : Nat} {c : AV} {v : Value} (hc : (enc t x).cells[j]? = some c) (r : Rv S c v) : Rv T c v :=
  r.closed hf (enc_closed t x c (List.mem_of_getElem? hc))

theorem keep_ok {kp : Keep} {w0 : World} {A : Ow} {S : Sit} {nt : Nat} {st : St} {a : Act} (hk : keepOk kp = true) (rs : RS w0 A S nt st a) :
    RS w0 A (keepSit kp st S) nt (keepSt kp st) a := by
  have hrn := keep_rn (st := st) (S := S) hk
  have hk' := hk
  unfold keepOk at hk'
  rw [Bool.and_eq_true] at hk'
  have hbs : ∀ b ∈ kp.bs, b < kp.hn := fun b hb => by simpa [Nat.blt_eq] using List.all_eq_true.1 hk'.1 b hb
  obtain ⟨n1, n2, n3⟩ := homes_ok kp st
  have hhn : ∀ p ∈ homes kp st, p.1 < kp.hn := by
    intro p hp
    have hk2 := hk'.2
    rw [Bool.and_eq_true] at hk2
    rcases homes_of hp with ⟨k, h1⟩ | ⟨b, i, h1⟩
    · simpa [Nat.blt_eq] using List.all_eq_true.1 hk2.1 _ h1
    · simpa [Nat.blt_eq] using List.all_eq_true.1 hk2.2 _ h1
  have ohome : ∀ b x, (b, x) ∈ homes kp st → orig (homes kp st) b = x := fun b x h => orig_home n1 h
  have obs : ∀ b, b ∈ kp.bs → orig (homes kp st) b = b := fun b hb => orig_other (fun p hp e => (n3 p hp).1 (e ▸ hb))
  -- a block that is kept was there
  have back : ∀ b, (keepSt kp st).hs.hp b ≠ .dead → st.hs.hp (orig (homes kp st) b) ≠ .dead ∧ ((b, orig (homes kp st) b) ∈ homes kp st ∨ (b ∈ kp.bs ∧ orig (homes kp st) b = b)) := by
    intro b hb
    rcases keep_hp kp st b with h | ⟨x, h1, h2⟩ | ⟨h1, h2⟩
    · exact absurd h hb
    · rw [ohome b x h1]
      refine ⟨fun h => hb (by rw [h2, h]), .inl h1⟩
    · rw [obs b h1]
      refine ⟨fun h => hb (by rw [h2, h]), .inr ⟨h1, rfl⟩⟩
  have rehome : ∀ (b x : Nat) (u : Value), (b, x) ∈ homes kp st → Rv S (.slr x) u → Rv (keepSit kp st S) (.slr b) u := by
    intro b x u hm hr
    have hG : (keepSit kp st S).G b = S.G x := by show S.G (orig _ b) = _; rw [ohome b x hm]
    have hN : b < (keepSit kp st S).N := hhn _ hm
    cases hr with
    | slr _ B h1 h2 => rw [← hG]; exact .slr b B hN (by rw [hG]; exact h2)
    | slrN _ a h1 h2 h3 h4 => exact .slrN b a hN (by rw [hG]; exact h2) (by rw [hG]; exact h3) (by rw [hG]; exact h4)
  refine ⟨⟨rfl, ?_, ?_, ?_, rs.h.F, rs.h.os, rs.h.tape, rs.h.output, rs.h.size, rs.h.old, ?_, rs.h.fo⟩, rs.size, rs.defers, ?_⟩
  · intro b hb
    rcases keep_hp kp st b with h | ⟨x, h1, _⟩ | ⟨h1, _⟩
    · exact h
    · have := hhn _ h1
      have hb : kp.hn ≤ b := hb
      exact absurd this (by simp; omega)
    · have := hbs _ h1
      have hb : kp.hn ≤ b := hb
      omega
  · intro b
    rcases keep_hp kp st b with h | ⟨x, h1, h2⟩ | ⟨h1, h2⟩
    · rw [h]; trivial
    · rw [h2]
      have hG : (keepSit kp st S).G b = S.G x := by show S.G (orig _ b) = _; rw [ohome b x h1]
      have hb := rs.h.blks x
      cases hx : st.hs.hp x with
      | dead => trivial
      | cells cs => trivial
      | row ro t xs =>
        rw [hx] at hb
        obtain ⟨e1, e2, e3⟩ := hb
        refine ⟨by rw [hG]; exact e1, by rw [hG]; exact e2, ?_⟩
        rw [hG]
        rcases e3 with e3 | ⟨B, c, e, fz, q1, q2, q3, q4, q5, q6, q7⟩
        · exact .inl e3
        · exact .inr ⟨B, c, e, fz, q1, q2, q3, q4, q5, fun i x j a v h3 h4 h5 => rn_closed hrn.f h4 (q6 i x j a v h3 h4 h5), q7⟩
    · rw [h2]
      have hG := (hrn.b b h1).1
      have hb := rs.h.blks b
      cases hx : st.hs.hp b with
      | dead => trivial
      | cells cs =>
        rw [hx] at hb
        obtain ⟨B, c, e, fz, q1, q2, q3, q4, q5, q6⟩ := hb
        refine ⟨B, c, e, fz, by rw [hG]; exact q1, q2, by simpa [keptC_length] using q3, by simpa [keptC_length] using q4, ?_, q6⟩
        intro i a v ha hv
        rw [keptC_get, Nat.zero_add] at ha
        cases hi : cs[i]? with
        | none => rw [hi] at ha; cases ha
        | some a0 =>
          rw [hi] at ha
          cases ha
          have hr := q5 i a0 v hi hv
          unfold keptC1
          cases hh : homeIn kp.cs b i with
          | none => exact hrn.keptV hr
          | some h =>
            cases a0
            case slr x =>
              cases ho : homesOk kp (hmOf kp st) with
              | false => exact .top _
              | true =>
                refine rehome h x v ?_ hr
                unfold homes
                rw [ho]
                refine List.mem_append_right _ (List.mem_filterMap.2 ⟨(b, i, h), homeIn_mem hh, ?_⟩)
                unfold cellHome
                simp only [hx, lget_get _ _ _ hi]
            all_goals exact hrn.keptV hr
      | row ro t xs =>
        rw [hx] at hb
        obtain ⟨e1, e2, e3⟩ := hb
        refine ⟨by rw [hG]; exact e1, by rw [hG]; exact e2, ?_⟩
        rw [hG]
        rcases e3 with e3 | ⟨B, c, e, fz, q1, q2, q3, q4, q5, q6, q7⟩
        · exact .inl e3
        · exact .inr ⟨B, c, e, fz, q1, q2, q3, q4, q5, fun i x j a v h3 h4 h5 => rn_closed hrn.f h4 (q6 i x j a v h3 h4 h5), q7⟩
  · intro b c B hbc hb hc hB
    obtain ⟨h1, h2⟩ := back b hb
    obtain ⟨h3, h4⟩ := back c hc
    refine rs.h.inj _ _ B ?_ h1 h3 hB
    intro e
    rcases h2 with h2 | ⟨h2, h2'⟩ <;> rcases h4 with h4 | ⟨h4, h4'⟩
    · rw [← e] at h4
      have key : ∀ (l : List (Nat × Nat)), (l.map (·.2)).Nodup → ∀ x b c, (b, x) ∈ l → (c, x) ∈ l → b = c := by
        intro l
        induction l with
        | nil => intro _ x b c h; cases h
        | cons p r ih =>
          intro hn x b c hb hc
          rw [List.map_cons, List.nodup_cons] at hn
          rcases List.mem_cons.1 hb with hb | hb <;> rcases List.mem_cons.1 hc with hc | hc
          · rw [← hb] at hc; cases hc; rfl
          · exact absurd (List.mem_map.2 ⟨(c, x), hc, by rw [← hb]⟩) hn.1
          · exact absurd (List.mem_map.2 ⟨(b, x), hb, by rw [← hc]⟩) hn.1
          · exact ih hn.2 x b c hb hc
      exact hbc (key _ n2 _ _ _ h2 h4)
    · rw [e, h4'] at h2
      exact (n3 _ h2).2 h4
    · rw [← e, h2'] at h4
      exact (n3 _ h4).2 h2
    · exact hbc (by rw [← h2', ← h4', e])
  · intro b B hb hB
    obtain ⟨h1, _⟩ := back b hb
    exact rs.h.own _ B h1 hB
  · intro t
    show Rv (keepSit kp st S) ((keepSt kp st).fr t) _
    unfold keepSt
    simp only
    refine lookL_mem AV.top (fun v => Rv (keepSit kp st S) v (a.tmps.getD t undef)) (.top _) _ t ?_
    intro p hp e
    obtain ⟨q, h1, rfl⟩ := List.mem_map.1 hp
    simp only at e ⊢
    have hr := rs.fr t
    subst e
    obtain ⟨k, ob⟩ := q
    simp only at hr ⊢
    generalize a.tmps.getD k undef = u at hr ⊢
    cases ob with
    | none => exact hrn.keptV hr
    | some b =>
      simp only
      cases hx : st.fr k
      case slr x =>
        simp only
        cases ho : homesOk kp (hmOf kp st) with
        | false => exact .top _
        | true =>
          rw [hx] at hr
          refine rehome b x u ?_ hr
          unfold homes
          rw [ho]
          refine List.mem_append_left _ (List.mem_filterMap.2 ⟨(k, some b), h1, ?_⟩)
          unfold homeOf
          simp only [hx]
      all_goals (rw [hx] at hr; exact hrn.keptV hr)

end Gm
