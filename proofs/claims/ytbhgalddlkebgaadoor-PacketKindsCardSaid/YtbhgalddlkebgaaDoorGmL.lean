/- Operations that hang on their operands alone: all of them. -/
import Derived.Test.YtbhgalddlkebgaaDoorGmK
namespace Gm
open Go

/-- What an operation of a region comes to. -/
def AnsN (P : Program) (S : Sit) (s : Sem Next) (K : AV → Prop) : Prop :=
  (∃ v a T, s.run P S.w = Result.ok (.value v) T.w ∧ Ext S T ∧ Rv T a v ∧ K a) ∨
  (∃ f args, s.run P S.w = Result.ok (.enter f args) S.w ∧ Calls P f args S.w (fun e w' => ∃ v a T, e = .returned v ∧ T.w = w' ∧ Ext S T ∧ Rv T a v ∧ K a))

def Callable (P : Program) (f : FuncId) : Prop := ∀ args w, (callFunc f args).run P w = Result.ok (.enter f args) w

def EntrySound (E : Env) (f : FuncId) (en : Entry) : Prop :=
  Callable E.P f ∧ ∀ (args : List AV) (K : AV → Prop), en args K → ∀ (S : Sit) (vs : Array Value), (∀ B o, S.F B o → B < S.w.heap.size) → E.V S.w → Cs S args vs →
    Calls E.P f vs S.w (fun e w' => ∃ v a T, e = .returned v ∧ T.w = w' ∧ Ext S T ∧ Rv T a v ∧ K a)

def TabSound (E : Env) (tab : Tab) : Prop := ∀ f en, tabGet tab f = some en → EntrySound E f en

/-- The same, wherever Q is so. -/
def TabQ (P : Program) (Q : Sit → Prop) (tab : Tab) : Prop := ∀ f en, tabGet tab f = some en → Callable P f ∧ ∀ (args : List AV) (K : AV → Prop), en args K → ∀ (S : Sit) (vs : Array Value), Q S → Cs S args vs →
  Calls P f vs S.w (fun e w' => ∃ v a T, e = .returned v ∧ T.w = w' ∧ Ext S T ∧ Rv T a v ∧ K a)

section
variable {E : Env} {S : Sit} {K : AV → Prop} {tab : Tab}

theorem AnsN.of_ans {P : Program} {s : Sem Value} (h : Ans P S s K) : AnsN P S (do pure (.value (← s))) K := by
  obtain ⟨v, a, T, h1, h2, h3, h4⟩ := h
  exact .inl ⟨v, a, T, by simp [h1], h2, h3, h4⟩

theorem Ans.imp {P : Program} {s : Sem Value} {K' : AV → Prop} (h : Ans P S s K) (hk : ∀ a, K a → K' a) : Ans P S s K' := by
  obtain ⟨v, a, T, h1, h2, h3, h4⟩ := h
  exact ⟨v, a, T, h1, h2, h3, hk a h4⟩

theorem Cs.nil (S : Sit) : Cs S [] #[] := ⟨rfl, fun i c v h => by simp at h⟩

theorem Cs.append {a b : List AV} {u v : Array Value} (h : Cs S a u) (k : Cs S b v) : Cs S (a ++ b) (u ++ v) := by
  refine ⟨by simp [h.1, k.1], ?_⟩
  intro i c x hc hx
  rw [Array.getElem?_append] at hx
  by_cases hi : i < a.length
  · rw [List.getElem?_append_left hi] at hc
    rw [if_pos (by have := h.1; omega)] at hx
    exact h.2 i c x hc hx
  · rw [List.getElem?_append_right (by omega)] at hc
    rw [if_neg (by have := h.1; omega)] at hx
    rw [← h.1] at hx
    exact k.2 _ c x hc hx

theorem Cs.map {fr : Nat → AV} {ρ : Operand → Value} (hρ : ∀ x, Rv S (oval fr x) (ρ x)) (xs : Array Operand) : Cs S (xs.toList.map (oval fr)) (xs.map ρ) := by
  refine ⟨by simp, ?_⟩
  intro i c v hc hv
  simp at hc hv
  obtain ⟨x, hx, rfl⟩ := hc
  obtain ⟨y, hy, rfl⟩ := hv
  rw [hx] at hy
  cases hy
  exact hρ x

theorem callArgs {fr : Nat → AV} {ρ : Operand → Value} (hρ : ∀ x, Rv S (oval fr x) (ρ x)) {x : Operand} {xs : Array Operand} {f : FuncId} {a b : List AV} (hf : oval fr x = .func f a b) :
    ∃ ps qs, ρ x = .func (.func f) ps qs ∧ Cs S (a ++ (xs.toList.map (oval fr) ++ b)) (ps ++ xs.map ρ ++ qs) := by
  have r := hρ x
  rw [hf] at r
  generalize ρ x = v at r
  cases r with
  | func _ _ _ ps qs e1 e2 h1 h2 =>
    refine ⟨ps, qs, rfl, ?_⟩
    rw [Array.append_assoc]
    exact Cs.append ⟨e1, h1⟩ (Cs.append (Cs.map hρ xs) ⟨e2, h2⟩)

theorem run_callValue {P : Program} {ρ : Operand → Value} {c : Call} {x : Operand} {ty : TypeId} {f : FuncId} {ps qs : Array Value} (w : World) (hc : c.callee = .value x) (hx : ρ x = .func (.func f) ps qs) :
    (do let d ← resolve ρ c ty; invoke d.target d.args : Sem Next).run P w = (callFunc f (ps ++ c.args.map ρ ++ qs)).run P w := by
  simp only [resolve, hc, Deferred.ofValue, hx, Sem.run_bind, Sem.run_pure, Result.andThen_ok, invoke]

theorem run_callBuiltin {P : Program} {ρ : Operand → Value} {c : Call} {b : Builtin} {ty : TypeId} (w : World) (hc : c.callee = .builtin b) :
    (do let d ← resolve ρ c ty; invoke d.target d.args : Sem Next).run P w = (builtin b c.argTypes ty (c.args.map fun | .const _ => true | _ => false) (c.args.map ρ)).run P w := by
  simp only [resolve, hc, Sem.run_bind, Sem.run_pure, Result.andThen_ok, invoke]
  rfl

theorem builtin_ok {b : Builtin} {ts : List TypeId} {argTypes : Array TypeId} {ty : TypeId} {consts : Array Bool} {vs : List AV} {us : Array Value} (ht : argTypes.toList = ts) (h : abuiltin E b ts vs K) (hv : Cs S vs us) :
    AnsN E.P S (builtin b argTypes ty consts us) K := by
  have one : ∀ {v : AV}, vs = [v] → ∃ u, us = #[u] ∧ Rv S v u := by
    intro v e
    subst e
    have hs : us.size = 1 := by have := hv.1; simpa using this.symm
    refine ⟨us[0], ?_, hv.2 0 v us[0] rfl (Array.getElem?_eq_getElem (by omega))⟩
    apply Array.ext
    · simp [hs]
    · intro i h1 h2
      have : i = 0 := by omega
      subst this
      rfl
  have two : ∀ {v v' : AV}, vs = [v, v'] → ∃ u u', us = #[u, u'] ∧ Rv S v u ∧ Rv S v' u' := by
    intro v v' e
    subst e
    have hs : us.size = 2 := by have := hv.1; simpa using this.symm
    refine ⟨us[0], us[1], ?_, hv.2 0 v us[0] rfl (Array.getElem?_eq_getElem (by omega)), hv.2 1 v' us[1] rfl (Array.getElem?_eq_getElem (by omega))⟩
    apply Array.ext
    · simp [hs]
    · intro i h1 h2
      have : i = 0 ∨ i = 1 := by omega
      rcases this with rfl | rfl <;> rfl
  unfold abuiltin at h
  split at h
  · rename_i t _ v
    obtain ⟨u, rfl, r⟩ := one rfl
    have ht0 : argTypes[0]? = some t := by rw [← Array.getElem?_toList, ht]; rfl
    refine AnsN.of_ans (s := Builtin.len_ argTypes ty #[u]) ?_
    split at h
    · rename_i s hu
      obtain ⟨b, rfl, hb⟩ := r.str_inv
      have e : b.size = s.length := by rw [← hb]; simp
      exact Ans.here (v := .int .i64 s.length) (by simp [Builtin.len_, ht0, run_undT hu, goInt, e]) (.int _ _) h
    · rename_i e f t' xs hu
      cases r with
      | slN => exact Ans.here (v := .int .i64 0) (by simp [Builtin.len_, ht0, run_undT hu, goInt]) (.int _ _) h
      | slE => exact Ans.here (v := .int .i64 0) (by simp [Builtin.len_, ht0, run_undT hu, goInt]) (.int _ _) h
      | sl => exact Ans.here (v := .int .i64 xs.length) (by simp [Builtin.len_, ht0, run_undT hu, goInt]) (.int _ _) h
    · rename_i e l hu
      cases r with
      | vl => exact Ans.here (v := .int .i64 l.length) (by simp [Builtin.len_, ht0, run_undT hu, goInt]) (.int _ _) h
    · rename_i e hu
      cases r
      exact Ans.here (v := .int .i64 0) (by simp [Builtin.len_, ht0, run_undT hu, goInt]) (.int _ _) h
    · rename_i n e hu
      exact Ans.here (v := .int .i64 n) (by simp [Builtin.len_, ht0, run_undT hu, goInt]) (.int _ _) h
    · exact h.elim
  · obtain ⟨u, u', rfl, r, r'⟩ := two rfl
    cases r; cases r'
    exact AnsN.of_ans (Ans.here (by simp [Builtin.min_, Builtin.min2, minI]) (.int _ _) h)
  · obtain ⟨u, u', rfl, r, r'⟩ := two rfl
    cases r; cases r'
    exact AnsN.of_ans (Ans.here (by simp [Builtin.max_, Builtin.max2, maxI2]) (.int _ _) h)
  · exact h.elim

theorem fptr_of_sl {f : SF} {t : Ty} {xs : List t.den} {v : Value} {i : Int} {x : t.den} (r : Rv S (.sl f t xs) v) (h : getI xs i = some x) :
    ∃ B off cap, v = .slice (some (at_ B off)) xs.length cap ∧ Rv S (.fptr (enc t x).cells 0) (.pointer (some (at_ B (off + i.toNat * t.sz)))) := by
  obtain ⟨h0, h1, h2⟩ := getI_some h
  cases r with
  | slN => simp at h1
  | slE => simp at h1
  | sl _ _ _ B off cap val c1 c2 hF hc hr =>
    refine ⟨B, off, cap, rfl, ?_⟩
    have hl := enc_cells_length t x
    have hb : i.toNat * t.sz + t.sz ≤ xs.length * t.sz := by
      have : (i.toNat + 1) * t.sz ≤ xs.length * t.sz := Nat.mul_le_mul_right _ (by omega)
      rw [Nat.add_mul, Nat.one_mul] at this
      exact this
    exact .fptr _ 0 B (off + i.toNat * t.sz) (fun j => val (i.toNat * t.sz + j)) (fun j hj => by rw [Nat.add_assoc]; exact hF _ (by omega)) (fun j hj => by rw [Nat.add_assoc]; exact hc _ (by omega))
      (fun j c hcc => hr i.toNat x j c h2 hcc)

theorem run_indexSlice {t e : TypeId} {z n cap : Nat} {a : Addr} {k : IntKind} {i : Int} (w : World) (hu : E.P.underlying t = some (.slice e)) (hz : szT E e = some z) (h0 : 0 ≤ i) (h1 : i < n) :
    (Instr.indexAt t (.slice (some a) n cap) (.int k i)).run E.P w = Result.ok (.pointer (some (a.add (i.toNat * z)))) w := by
  simp [Instr.indexAt, asIntOf, run_undT hu, h0, h1, run_sizeT hz]

theorem index_ok {t : TypeId} {x : AV} {v : Value} {k : IntKind} {i : Int} {o : Oper} {a b : Operand} (ho : o.op = .indexAddr t a b) (h : a0 E tab o [x, .int k i] K) (r : Rv S x v) : Ans E.P S (Instr.indexAt t v (.int k i)) K := by
  unfold a0 at h
  rw [ho] at h
  simp only at h
  split at h
  · rename_i e f t' xs hu
    split at h
    · rename_i hs
      split at h
      · rename_i x hx
        obtain ⟨B, off, cap, rfl, hp⟩ := fptr_of_sl r hx
        obtain ⟨h0, h1, h2⟩ := getI_some hx
        refine Ans.here ?_ hp h
        rw [run_indexSlice S.w hu hs h0 (by omega), add_at]
      · exact h.elim
    · exact h.elim
  · rename_i e l hu
    split at h
    · rename_i z hz
      split at h
      · rename_i hall
        obtain ⟨m, h1, h2, rfl, h3⟩ := caseN_some h
        split at h3
        · rename_i v hv
          cases r with
          | vl _ z' B off val c1 c1' hF hc hr =>
            have hvm := List.mem_of_getElem? hv
            have hz1 : v.cells.length = z := by
              have := List.all_eq_true.1 hall v hvm
              simpa using this
            have hz2 : z' = z := by rw [← hz1]; exact (c1 v hvm).symm
            subst hz2
            have hb : m * z' + z' ≤ l.length * z' := by
              have : (m + 1) * z' ≤ l.length * z' := Nat.mul_le_mul_right _ (by omega)
              rw [Nat.add_mul, Nat.one_mul] at this
              exact this
            refine Ans.here (v := .pointer (some (at_ B (off + m * z')))) ?_ ?_ h3
            · rw [run_indexSlice S.w hu hz (by omega) (by omega), add_at]
              simp
            · exact .fptr _ 0 B (off + m * z') (fun j => val (m * z' + j)) (fun j hj => by rw [Nat.add_assoc]; exact hF _ (by omega)) (fun j hj => by rw [Nat.add_assoc]; exact hc _ (by omega))
                (fun j c hcc => hr m v j c hv hcc)
        · exact h3.elim
      · exact h.elim
    · exact h.elim
  · rename_i n e b o hu
    split at h
    · rename_i z hz
      obtain ⟨m, h1, h2, rfl, h3⟩ := caseN_some h
      cases r with
      | ptr _ _ B hb hB =>
        refine Ans.here (v := .pointer (some (at_ B (o + m * z)))) ?_ (.ptr _ _ B hb hB) h3
        simp [Instr.indexAt, asIntOf, run_undT hu, Instr.sureAddr, run_sizeT hz, add_at]
        omega
    · exact h.elim
  · rename_i n e cs o hu
    split at h
    · rename_i z hz
      obtain ⟨m, h1, h2, rfl, h3⟩ := caseN_some h
      cases r with
      | fptr _ _ B f val hF hc hr =>
        have e1 : f + o + m * z = f + (o + m * z) := by omega
        refine Ans.here (v := .pointer (some (at_ B (f + (o + m * z))))) ?_ (.fptr cs (o + m * z) B f val hF hc hr) h3
        simp [Instr.indexAt, asIntOf, run_undT hu, Instr.sureAddr, run_sizeT hz, add_at, e1]
        omega
    · exact h.elim
  · exact h.elim

end
end Gm
