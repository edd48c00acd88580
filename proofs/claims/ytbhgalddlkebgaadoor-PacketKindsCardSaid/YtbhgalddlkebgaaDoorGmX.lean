/- Regions. -/
import Derived.Test.YtbhgalddlkebgaaDoorGmV
import Derived.Test.YtbhgalddlkebgaaDoorGmW3
namespace Gm
open Go

structure RS (w0 : World) (A : Ow) (S : Sit) (nt : Nat) (st : St) (a : Act) : Prop where
  h : RH w0 A S st.hs
  size : nt ≤ a.tmps.size
  defers : a.defers = []
  fr : ∀ t, Rv S (st.fr t) (a.tmps.getD t undef)

section
variable {E : Env} {w0 : World} {A : Ow} {S : Sit} {tab : Tab} {cal : Callee} {nt : Nat} {st : St} {a : Act}

theorem RS.val (r : RS w0 A S nt st a) (x : Operand) : Rv S (oval st.fr x) (a.eval x) := by
  cases x with
  | tmp t => exact r.fr t
  | const v => exact vAV_ok v
  | global g => exact .top _
  | func f => exact .func f [] [] #[] #[] rfl rfl (fun i c v h => by simp at h) (fun i c v h => by simp at h)

theorem RS.put {T : Sit} {hs' : HS} {dst : Option Nat} {av : AV} {v : Value} (r : RS w0 A S nt st a) (hle : Le S T) (hh : RH w0 A T hs') (hv : Rv T av v) (hd : dstOk nt dst = true) :
    RS w0 A T nt (st.put dst av hs') (a.put dst v) := by
  cases dst with
  | none => exact ⟨hh, r.size, r.defers, fun t => (r.fr t).mono hle⟩
  | some d =>
    refine ⟨hh, by simp [Act.put]; exact r.size, r.defers, fun t => ?_⟩
    have hd' : d < a.tmps.size := Nat.lt_of_lt_of_le (by simpa [dstOk, Nat.blt_eq] using hd) r.size
    show Rv T (upd st.fr d av t) ((a.tmps.setIfInBounds d v).getD t undef)
    by_cases e : t = d
    · subst e
      rw [upd_self]
      simp [Array.getD, hd', hv]
    · rw [upd_ne _ _ e]
      have := (r.fr t).mono hle
      simp only [Array.getD_eq_getD_getElem?] at this ⊢
      rw [Array.getElem?_setIfInBounds_ne (fun h => e h.symm)]
      exact this

/-- What an operation of a region does, its order aside: run or left out. -/
def gval (ops : List Oper) (o : Oper) (fr : Nat → AV) : Option Bool :=
  match o.guard with
  | none => some true
  | some (j, want) => match (ops[j]?).bind (·.dst) with
    | some d => match fr d with
      | .bool b => some (b == want)
      | .tup [] => some false
      | _ => none
    | none => none

def Act1 (E : Env) (tab : Tab) (cal : Callee) (nt : Nat) (ops : List Oper) (o : Oper) (fr : Nat → AV) (hs : HS) (c : Nat) (K : AV → HS → Prop) : Prop :=
  dstOk nt o.dst = true ∧ ((gval ops o fr = some false ∧ c = 0 ∧ K (.tup []) hs) ∨ (gval ops o fr = some true ∧ c = tier E tab o (valsOf o fr) ∧ aop E tab cal o (valsOf o fr) hs K))

theorem upd_eq_self {α : Type} {f : Nat → α} {k : Nat} {v : α} (h : f k = v) : upd f k v = f := by rw [← h]; exact upd_same f k

theorem aop1_act {ops : List Oper} {o : Oper} {K : Nat → St → Prop} (h : aop1 E tab cal nt ops o st K) :
    ∃ c, Act1 E tab cal nt ops o st.fr st.hs c (fun v hs => K c (st.put o.dst v hs)) := by
  unfold aop1 at h
  rw [cond_eq_ite] at h
  split at h
  · rename_i hd
    unfold guardOf at h
    unfold Act1 gval
    cases hg : o.guard with
    | none =>
      rw [hg] at h
      exact ⟨_, hd, .inr ⟨rfl, rfl, h⟩⟩
    | some jw =>
      obtain ⟨j, want⟩ := jw
      rw [hg] at h
      simp only at h ⊢
      cases hdst : (ops[j]?).bind (·.dst) with
      | none => rw [hdst] at h; exact h.elim
      | some d =>
        rw [hdst] at h
        simp only at h ⊢
        generalize hf : st.fr d = x at h
        cases x <;> first | exact h.elim | skip
        · rename_i b
          cases want <;> cases b
          · have h : aop E tab cal o (valsOf o (upd st.fr d (.bool false))) st.hs fun v hs => K (tier E tab o (valsOf o (upd st.fr d (.bool false)))) ({ st with fr := upd st.fr d (.bool false) }.put o.dst v hs) := h
            rw [upd_eq_self hf] at h
            exact ⟨_, hd, .inr ⟨rfl, rfl, h⟩⟩
          · have h : K 0 ({ st with fr := upd st.fr d (.bool true) }.put o.dst (.tup []) st.hs) := h
            rw [upd_eq_self hf] at h
            exact ⟨0, hd, .inl ⟨rfl, rfl, h⟩⟩
          · have h : K 0 ({ st with fr := upd st.fr d (.bool false) }.put o.dst (.tup []) st.hs) := h
            rw [upd_eq_self hf] at h
            exact ⟨0, hd, .inl ⟨rfl, rfl, h⟩⟩
          · have h : aop E tab cal o (valsOf o (upd st.fr d (.bool true))) st.hs fun v hs => K (tier E tab o (valsOf o (upd st.fr d (.bool true)))) ({ st with fr := upd st.fr d (.bool true) }.put o.dst v hs) := h
            rw [upd_eq_self hf] at h
            exact ⟨_, hd, .inr ⟨rfl, rfl, h⟩⟩
        · rename_i cs
          cases cs with
          | nil => exact ⟨0, hd, .inl ⟨rfl, rfl, h⟩⟩
          | cons _ _ => exact h.elim
  · exact h.elim

/-- An operation, in whatever place. -/
theorem act_wp {opsA : Array Oper} {o : Oper} {i c : Nat} {K : AV → HS → Prop} {Q : Exit → Act → World → Prop} {next : Act → World → Prop} (hT : TabAt E.P w0 A tab) (hC : CalSound E.P w0 A cal) (hcl : CloneSound E)
    (r : RS w0 A S nt st a) (hi : opsA[i]? = some o) (h : Act1 E tab cal nt opsA.toList o st.fr st.hs c K)
    (hn : ∀ T v hs' u, Le S T → RH w0 A T hs' → Rv T v u → K v hs' → dstOk nt o.dst = true → next (a.put o.dst u) T.w) : wpOp E.P opsA Q i next a S.w := by
  obtain ⟨hd, h⟩ := h
  unfold wpOp
  rw [hi]
  simp only
  have hy : ∀ j d, (opsA[j]?).bind (·.dst) = some d → (∀ b, st.fr d = .bool b → yielded opsA a.tmps j = some b) ∧ (st.fr d = .tup [] → yielded opsA a.tmps j = none) := by
    intro j d hjd
    have hr := r.fr d
    unfold yielded
    rw [hjd]
    simp only [Option.bind_some]
    constructor
    · intro b hb
      rw [hb] at hr
      have hv := hr.bool_inv
      rw [Array.getD_eq_getD_getElem?] at hv
      cases hx : a.tmps[d]? with
      | none => rw [hx] at hv; cases hv
      | some v => rw [hx] at hv; simp at hv; subst hv; rfl
    · intro hb
      rw [hb] at hr
      rw [Array.getD_eq_getD_getElem?] at hr
      cases hx : a.tmps[d]? with
      | none => rfl
      | some v =>
        rw [hx] at hr
        simp at hr
        obtain ⟨vs, rfl, _⟩ := hr.tup_inv
        rfl
  have hw : ∀ b, gval opsA.toList o st.fr = some b → Region.wanted o (yielded opsA a.tmps) = b := by
    intro b hb
    unfold gval at hb
    unfold Region.wanted
    cases hg : o.guard with
    | none => rw [hg] at hb; simpa using hb
    | some jw =>
      obtain ⟨j, want⟩ := jw
      rw [hg] at hb
      simp only at hb ⊢
      cases hdst : (opsA.toList[j]?).bind (·.dst) with
      | none => rw [hdst] at hb; cases hb
      | some d =>
        rw [hdst] at hb
        simp only at hb
        have hdst' : (opsA[j]?).bind (·.dst) = some d := by rw [← Array.getElem?_toList]; exact hdst
        generalize hf : st.fr d = x at hb
        cases x <;> first | (cases hb; done) | skip
        · rename_i q
          rw [(hy j d hdst').1 q hf]
          simp only [Option.some.injEq] at hb
          rw [← hb]
          cases q <;> cases want <;> rfl
        · rename_i cs
          cases cs with
          | nil =>
            rw [(hy j d hdst').2 hf]
            simp only [Option.some.injEq] at hb
            rw [← hb]
            rfl
          | cons _ _ => cases hb
  rcases h with ⟨hg, rfl, hK⟩ | ⟨hg, rfl, hK⟩
  · rw [hw false hg]
    simp only [Bool.false_eq_true, if_false]
    exact hn S (.tup []) st.hs undef (.refl S) r.h (.tup [] #[] rfl (fun i c v h => by simp at h)) hK hd
  · rw [hw true hg]
    simp only [if_true]
    left
    have key := aop_sound r.h hT hC hcl r.val hK
    unfold Oper.wp
    rcases key with ⟨v, av, T, hs', h1, h2, h3, h4, h5⟩ | ⟨f, args, h1, h2⟩
    · rcases h1 with h1 | ⟨h1, rfl⟩
      · rw [h1, Oper.upon_value]
        exact hn T av hs' v h2 h3 h4 h5 hd
      · rw [h1, Oper.upon_skip]
        exact hn T av hs' undef h2 h3 h4 h5 hd
    · rw [h1, Oper.upon_enter]
      refine h2.mono ?_
      rintro e w' ⟨v, av, T, hs', rfl, rfl, h3, h4, h5, h6⟩
      exact hn T av hs' v h3 h4 h5 h6 hd

theorem aseq_wp {opsA : Array Oper} {Q : Exit → Act → World → Prop} (hT : TabAt E.P w0 A tab) (hC : CalSound E.P w0 A cal) (hcl : CloneSound E) : ∀ (r : List Oper) (i : Nat) (S : Sit) (st : St) (a : Act) (K : St → Prop),
    opsA.toList.drop i = r → RS w0 A S nt st a → aseq E tab cal nt opsA.toList r st K → (∀ T st' a', Le S T → RS w0 A T nt st' a' → K st' → Q .normal a' T.w) →
    wpOps E.P opsA Q (List.range' i r.length) a S.w
  | [], i, S, st, a, K, _, rs, h, hQ => by
    simp only [List.length_nil, List.range'_zero, wpOps]
    exact hQ S st a (.refl S) rs h
  | o :: r, i, S, st, a, K, hr, rs, h, hQ => by
    have hi : opsA[i]? = some o := by
      have : (opsA.toList.drop i)[0]? = some o := by rw [hr]; rfl
      rw [List.getElem?_drop] at this
      simpa using this
    have hr' : opsA.toList.drop (i + 1) = r := by
      rw [show i + 1 = i + 1 from rfl, ← List.drop_drop, hr]; rfl
    simp only [List.length_cons, List.range'_succ]
    rw [wpOps_cons]
    obtain ⟨c, hact⟩ := aop1_act h
    refine act_wp hT hC hcl rs hi hact ?_
    intro T v hs' u h1 h2 h3 hK hd
    exact aseq_wp hT hC hcl r (i + 1) T _ _ K hr' (rs.put h1 h2 h3 hd) hK (fun U st' a' h4 h5 h6 => hQ U st' a' (h1.trans h4) h5 h6)

end
end Gm
