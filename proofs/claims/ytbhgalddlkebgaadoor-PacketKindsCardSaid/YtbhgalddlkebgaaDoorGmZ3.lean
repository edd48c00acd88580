/- Code. -/
import Derived.Test.YtbhgalddlkebgaaDoorGmZ2
namespace Gm
open Go

/-- A loop that ends after a number of rounds. -/
theorem wp_loop_n {P : Program} {Q : Exit → Act → World → Prop} {c : Code} (J : Nat → Act → World → Prop) (h0 : ∀ a w, ¬ J 0 a w)
    (round : ∀ n a w, J (n + 1) a w → c.wp P (Exit.then (J n) Q) a w) : ∀ n a w, J n a w → (Code.loop c).wp P Q a w := by
  have key : ∀ n a w, J n a w → ∀ (b : Frame) (k : List Item) (cs : List Frame), ∃ e a' w', Q e a' w' ∧ Arrives P (lone (b.at a (.code c :: .inLoop c :: k)) cs w) b k cs e a' w' := by
    intro n
    induction n with
    | zero => intro a w h; exact absurd h (h0 a w)
    | succ n ih =>
      intro a w h b k cs
      obtain ⟨e, a₁, w₁, hq, harr⟩ := round n a w h b (.inLoop c :: k) cs
      cases e with
      | normal =>
        obtain ⟨e₂, a₂, w₂, hq₂, harr₂⟩ := ih a₁ w₁ hq b k cs
        exact ⟨e₂, a₂, w₂, hq₂, .of_steps (Steps.trans harr (.one step_inLoop)) harr₂⟩
      | exit id => exact ⟨_, a₁, w₁, hq, .pass (x := .inLoop c) rfl (fun _ _ => .inl (by simp)) harr⟩
      | goto l => exact ⟨_, a₁, w₁, hq, .pass (x := .inLoop c) rfl (fun _ _ => .inl (by simp)) harr⟩
      | ret => exact ⟨_, a₁, w₁, hq, .pass (x := .inLoop c) rfl (fun _ _ => .inl (by simp)) harr⟩
      | panic ch => exact ⟨_, a₁, w₁, hq, .pass (x := .inLoop c) rfl (fun _ _ => .inl (by simp)) harr⟩
      | outgrown => exact ⟨_, a₁, w₁, hq, .pass (x := .inLoop c) rfl (fun _ _ => .inl (by simp)) harr⟩
  intro n a w h b k cs
  obtain ⟨e, a', w', hq, harr⟩ := key n a w h b k cs
  exact ⟨e, a', w', hq, .of_steps (.one step_loop) harr⟩

/-- What a piece of code comes to. -/
def QN (S0 : Sit) (w0 : World) (A : Ow) (nt : Nat) (Kn : St → Prop) (Kx : Nat → St → Prop) (Kr : St → Prop) : Exit → Act → World → Prop
  | .normal, a, w => ∃ T st, T.w = w ∧ Le S0 T ∧ RS w0 A T nt st a ∧ Kn st
  | .exit i, a, w => ∃ T st, T.w = w ∧ Le S0 T ∧ RS w0 A T nt st a ∧ Kx i st
  | .ret, a, w => ∃ T st, T.w = w ∧ Le S0 T ∧ RS w0 A T nt st a ∧ Kr st
  | _, _, _ => False

/-- A loop of the table does what it stands for. -/
structure LSound (E : Env) (tab : Tab) (cal : Callee) (nt : Nat) (lt : Nat → Option LSpec) (i : Nat) (b : Code) (l : LSpec) : Prop where
  ok : keepOk l.kp = true
  okr : keepOk l.kr = true
  le : ∀ Kx Kr st, l.le Kx Kr st → ∃ n, loopSem E tab cal nt lt n l.kp l.kr b i Kx Kr st

section
variable {E : Env} {w0 : World} {A : Ow} {tab : Tab} {cal : Callee} {nt : Nat} {lt : Nat → Option LSpec} {S0 : Sit}

theorem qn_next {Kn : St → Prop} {Kx : Nat → St → Prop} {Kr : St → Prop} {next : Act → World → Prop} {K' : St → Prop} {Q : Exit → Act → World → Prop}
    (hn : ∀ T st a, Le S0 T → RS w0 A T nt st a → K' st → next a T.w) (hx : ∀ i a w, QN S0 w0 A nt Kn Kx Kr (.exit i) a w → Q (.exit i) a w)
    (hr : ∀ a w, QN S0 w0 A nt Kn Kx Kr .ret a w → Q .ret a w) : ∀ e a w, QN S0 w0 A nt K' Kx Kr e a w → Exit.then next Q e a w := by
  intro e a w h
  cases e with
  | normal => obtain ⟨T, st, rfl, h1, h2, h3⟩ := h; exact hn T st a h1 h2 h3
  | exit i => exact hx i a w h
  | ret => exact hr a w h
  | goto l => exact h.elim
  | panic c => exact h.elim
  | outgrown => exact h.elim

theorem code_wp (hm : E.P.follows .mixedOrders = true) (hT : TabAt E.P w0 A tab) (hC : CalSound E.P w0 A cal) (hcl : CloneSound E) (hD : TabDet tab) (hCD : CalDet cal) (hlt : S0.N = 0 ∨ ∀ i, lt i = none) :
    ∀ (c : Code) (i : Nat) (Kn : St → Prop) (Kx : Nat → St → Prop) (Kr : St → Prop) (S : Sit) (st : St) (a : Act), (∀ p ∈ loopsOf c i, ∀ l, lt p.1 = some l → LSound E tab cal nt lt p.1 p.2 l) →
      Le S0 S → RS w0 A S nt st a → acode E tab cal nt lt c i Kn Kx Kr st → c.wp E.P (QN S0 w0 A nt Kn Kx Kr) a S.w := by
  intro c
  induction c with
  | skip => intro i Kn Kx Kr S st a _ hle rs h; exact wp_skip ⟨S, st, rfl, hle, rs, h⟩
  | region id ops draw =>
    intro i Kn Kx Kr S st a _ hle rs h
    cases draw with
    | false =>
      refine wp_region ?_
      have := aseq_wp hT hC hcl ops.toList 0 S st a Kn (by simp) rs h (Q := QN S0 w0 A nt Kn Kx Kr) (fun T st' a' h1 h2 h3 => ⟨T, st', rfl, hle.trans h1, h2, h3⟩)
      rw [List.range_eq_range']
      simpa using this
    | true => exact region_draw_wp hm hT hC hcl hD hCD rs h (fun T st' a' h1 h2 h3 => ⟨T, st', rfl, hle.trans h1, h2, h3⟩)
  | seq x y ihx ihy =>
    intro i Kn Kx Kr S st a hl hle rs h
    refine wp_seq (wp_mono (ihx i _ Kx Kr S st a (fun p hp => hl p (List.mem_append_left _ hp)) hle rs h) ?_)
    exact qn_next (fun T st' a' h1 h2 h3 => ihy i Kn Kx Kr T st' a' (fun p hp => hl p (List.mem_append_right _ hp)) h1 h2 h3) (fun _ _ _ h => h) (fun _ _ h => h)
  | cond o x y ihx ihy =>
    intro i Kn Kx Kr S st a hl hle rs h
    cases o with
    | tmp t =>
      have h : (match st.fr t with | .bool c => bif c then acode E tab cal nt lt x i Kn Kx Kr { st with fr := upd st.fr t (.bool true) } else acode E tab cal nt lt y i Kn Kx Kr { st with fr := upd st.fr t (.bool false) } | _ => False) := h
      have hr := rs.fr t
      cases hf : st.fr t <;> rw [hf] at h <;> first | exact h.elim | skip
      rename_i b
      rw [hf] at hr
      have hv : a.eval (.tmp t) = .bool b := hr.bool_inv
      refine wp_cond hv ?_
      cases b
      · have h : acode E tab cal nt lt y i Kn Kx Kr { st with fr := upd st.fr t (.bool false) } := h
        rw [upd_eq_self hf] at h
        exact ihy i Kn Kx Kr S st a (fun p hp => hl p (List.mem_append_right _ hp)) hle rs h
      · have h : acode E tab cal nt lt x i Kn Kx Kr { st with fr := upd st.fr t (.bool true) } := h
        rw [upd_eq_self hf] at h
        exact ihx i Kn Kx Kr S st a (fun p hp => hl p (List.mem_append_left _ hp)) hle rs h
    | const v => exact h.elim
    | global g => exact h.elim
    | func f => exact h.elim
  | block id b ih =>
    intro i Kn Kx Kr S st a hl hle rs h
    refine wp_block (wp_mono (ih id Kn (fun i s => bif Nat.beq i id then Kn s else Kx i s) Kr S st a hl hle rs h) ?_)
    intro e a' w' he
    cases e with
    | normal => exact he
    | ret => exact he
    | exit j =>
      obtain ⟨T, st', rfl, h1, h2, h3⟩ := he
      show if j = id then QN S0 w0 A nt Kn Kx Kr .normal a' T.w else QN S0 w0 A nt Kn Kx Kr (.exit j) a' T.w
      cases hb : Nat.beq j id with
      | true =>
        rw [hb] at h3
        rw [if_pos (Nat.eq_of_beq_eq_true hb)]
        exact ⟨T, st', rfl, h1, h2, h3⟩
      | false =>
        rw [hb] at h3
        rw [if_neg (fun e => by subst e; rw [Nat.beq_refl] at hb; cases hb)]
        exact ⟨T, st', rfl, h1, h2, h3⟩
    | goto l => exact he.elim
    | panic c => exact he.elim
    | outgrown => exact he.elim
  | loop b ih =>
    intro i Kn Kx Kr S st a hl hle rs h
    have h : (match lt i with | some l => l.le Kx Kr st | none => loopN 12 (fun rec s => acode E tab cal nt lt b i rec Kx Kr s) st) := h
    cases hi : lt i with
    | none =>
      rw [hi] at h
      refine wp_loop_n (fun n a w => ∃ T st, T.w = w ∧ Le S0 T ∧ RS w0 A T nt st a ∧ loopN n (fun rec s => acode E tab cal nt lt b i rec Kx Kr s) st) ?_ ?_ 12 a S.w ⟨S, st, rfl, hle, rs, h⟩
      · rintro a w ⟨_, _, _, _, _, h⟩; exact h
      · rintro n a w ⟨T, st', rfl, h1, h2, h3⟩
        refine wp_mono (ih i _ Kx Kr T st' a (fun p hp => hl p (List.mem_cons_of_mem _ hp)) h1 h2 h3) ?_
        exact qn_next (fun T st' a' h1 h2 h3 => ⟨T, st', rfl, h1, h2, h3⟩) (fun _ _ _ h => h) (fun _ _ h => h)
    | some l =>
      rw [hi] at h
      have hz : S0.N = 0 := hlt.resolve_right (fun e => by rw [e i] at hi; cases hi)
      obtain ⟨hok, hokr, hL⟩ := hl (i, b) (List.mem_cons_self) l hi
      obtain ⟨n, hn⟩ := hL Kx Kr st h
      have hle' : ∀ (kp : Keep) (T : Sit) (st : St), Le S0 T → Le S0 (keepSit kp st T) := fun kp T st h => ⟨h.F, h.cell, (fun b hb => absurd hb (by rw [hz]; exact Nat.not_lt_zero b)), (by rw [hz]; exact Nat.zero_le _)⟩
      refine wp_loop_n (fun n a w => ∃ T st, T.w = w ∧ Le S0 T ∧ RS w0 A T nt st a ∧
        loopN n (fun rec s => acode E tab cal nt lt b i (fun s' => rec (keepSt l.kp s')) (fun j s' => Kx j (keepSt l.kp s')) (fun s' => Kr (keepSt l.kr s')) s) st) ?_ ?_ n a S.w ⟨keepSit l.kp st S, _, rfl, hle' _ S st hle, keep_ok hok rs, hn⟩
      · rintro a w ⟨_, _, _, _, _, h⟩; exact h
      · rintro n a w ⟨T, st', rfl, h1, h2, h3⟩
        refine wp_mono (ih i _ _ _ T st' a (fun p hp => hl p (List.mem_cons_of_mem _ hp)) h1 h2 h3) ?_
        intro e a' w' he
        cases e with
        | normal => obtain ⟨T, st', rfl, h1, h2, h3⟩ := he; exact ⟨keepSit l.kp st' T, _, rfl, hle' _ T st' h1, keep_ok hok h2, h3⟩
        | exit j => obtain ⟨T, st', rfl, h1, h2, h3⟩ := he; exact ⟨keepSit l.kp st' T, _, rfl, hle' _ T st' h1, keep_ok hok h2, h3⟩
        | ret => obtain ⟨T, st', rfl, h1, h2, h3⟩ := he; exact ⟨keepSit l.kr st' T, _, rfl, hle' _ T st' h1, keep_ok hokr h2, h3⟩
        | goto l => exact he.elim
        | panic c => exact he.elim
        | outgrown => exact he.elim
  | exit id => intro i Kn Kx Kr S st a _ hle rs h; exact wp_exit ⟨S, st, rfl, hle, rs, h⟩
  | ret => intro i Kn Kx Kr S st a _ hle rs h; exact wp_ret ⟨S, st, rfl, hle, rs, h⟩
  | rangeFunc f ps x y _ _ => intro i Kn Kx Kr S st a _ hle rs h; exact h.elim
  | scope b _ => intro i Kn Kx Kr S st a _ hle rs h; exact h.elim
  | label l => intro i Kn Kx Kr S st a _ hle rs h; exact h.elim
  | goto l => intro i Kn Kx Kr S st a _ hle rs h; exact h.elim
  | refuse w => intro i Kn Kx Kr S st a _ hle rs h; exact h.elim

end
end Gm
