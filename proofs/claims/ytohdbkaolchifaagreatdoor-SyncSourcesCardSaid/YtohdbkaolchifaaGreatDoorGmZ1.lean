/- Regions. -/
import Derived.Test.YtohdbkaolchifaaGreatDoorGmW3
import Derived.Orders
namespace Gm
open Go
structure RS (w0 : World) (A : Ow) (S : Sit) (nt : Nat) (st : St) (a : Act) : Prop where
  h : RH w0 A S st.hs
  size : nt ≤ a.tmps.size
  defers : a.defers = []
  fr : ∀ t, Rv S (st.fr t) (a.tmps.getD t undef)
section
variable {E : Env} {w0 : World} {A : Ow} {S : Sit} {tab : Tab} {cal : Callee} {nt : Nat} {st : St} {a : Act}
theorem RS.val (r : RS w0 A S nt st a) (x : Operand) : Rv S (oval st.fr x) (a.eval x) := by
  cases x with
  | tmp t => exact r.fr t
  | const v => exact vAV_ok v
  | global g => exact .top _
  | func f => exact .func f [] [] #[] #[] rfl rfl (fun i c v h => by simp at h) (fun i c v h => by simp at h)
theorem RS.putW {T : Sit} {hs' : HS} {dst : Option Nat} {av : AV} {v : Value} (r : RS w0 A S nt st a) (hle : LeW S T) (hh : RH w0 A T hs') (hv : Rv T av v) (hd : dstOk nt dst = true) :
    RS w0 A T nt (st.put dst av hs') (a.put dst v) := by
  cases dst with
  | none => exact ⟨hh, r.size, r.defers, fun t => (r.fr t).monoW hle⟩
  | some d =>
    refine ⟨hh, by simp [Act.put]; exact r.size, r.defers, fun t => ?_⟩
    have hd' : d < a.tmps.size := Nat.lt_of_lt_of_le (by simpa [dstOk, Nat.blt_eq] using hd) r.size
    show Rv T (upd st.fr d av t) ((a.tmps.setIfInBounds d v).getD t undef)
    by_cases e : t = d
    · subst e
      rw [upd_self]
      simp [Array.getD, hd', hv]
    · rw [upd_ne _ _ e]
      have := (r.fr t).monoW hle
      simp only [Array.getD_eq_getD_getElem?] at this ⊢
      rw [Array.getElem?_setIfInBounds_ne (fun h => e h.symm)]
      exact this
theorem RS.put {T : Sit} {hs' : HS} {dst : Option Nat} {av : AV} {v : Value} (r : RS w0 A S nt st a) (hle : Le S T) (hh : RH w0 A T hs') (hv : Rv T av v) (hd : dstOk nt dst = true) :
    RS w0 A T nt (st.put dst av hs') (a.put dst v) := r.putW hle.w hh hv hd
def Sit.fill (S : Sit) (b : Nat) (o : Obj) : Sit := { w := { S.w with heap := S.w.heap.push o }, F := S.F, G := upd S.G b ⟨some S.w.heap.size, 0, 0, 0⟩, N := S.N }
theorem fill_heap (S : Sit) (b : Nat) (o : Obj) (B : Nat) (h : B ≠ S.w.heap.size) : (S.fill b o).w.heap[B]? = S.w.heap[B]? := by
  show (S.w.heap.push o)[B]? = _
  rw [Array.getElem?_push, if_neg h]
theorem fill_heap_self (S : Sit) (b : Nat) (o : Obj) : (S.fill b o).w.heap[S.w.heap.size]? = some o := by
  show (S.w.heap.push o)[S.w.heap.size]? = _
  rw [Array.getElem?_push, if_pos rfl]
theorem LeN.fill (S : Sit) (b : Nat) (o : Obj) (hF : ∀ B o, S.F B o → B < S.w.heap.size) : LeN (some b) S (S.fill b o) where
  F := fun _ _ h => h
  cell := fun B k v h hc => by
    have := hF B k h
    rw [cell_at, fill_heap _ _ _ _ (by omega), ← cell_at]
    exact hc
  G := fun x _ hx => upd_ne _ _ (fun e => hx (by rw [e]))
  N := Nat.le_refl _
theorem RH.fill {hs : HS} {b : Nat} {o : Obj} (r : RH w0 A S hs) (hG : S.G b = resv) (hk : RB (S.fill b o) b (hs.hp b)) : RH w0 A (S.fill b o) hs where
  N := r.N
  dead := r.dead
  blks := fun x => by
    by_cases e : x = b
    · subst e; exact hk
    · refine RB.keepW ((LeN.fill S b o r.F).w (fun b' h => by cases h; exact hG)) (upd_ne _ _ e) ?_ (fun B o _ _ h => h) (r.blks x)
      intro B hd hB
      have := r.alive_lt hd hB
      exact fill_heap _ _ _ _ (by omega)
  inj := fun x c B hne hb hc hB hC => by
    have e1 : ∀ x, hs.hp x ≠ .dead → ((S.fill b o).G x).blk = some B → x ≠ b → B < S.w.heap.size := by
      intro x hx hxB hxn
      have : ((S.fill b o).G x) = S.G x := upd_ne _ _ hxn
      rw [this] at hxB
      exact r.alive_lt hx hxB
    have e2 : ((S.fill b o).G b).blk = some S.w.heap.size := by
      show (upd S.G b _ b).blk = _
      rw [upd_self]
    by_cases hbn : x = b
    · have hcn : c ≠ b := fun h => hne (hbn.trans h.symm)
      have := e1 c hc hC hcn
      subst hbn
      rw [e2] at hB
      cases hB
      omega
    · have h1 := e1 x hb hB hbn
      by_cases hcn : c = b
      · subst hcn
        rw [e2] at hC
        cases hC
        omega
      · have g1 : ((S.fill b o).G x) = S.G x := upd_ne _ _ hbn
        have g2 : ((S.fill b o).G c) = S.G c := upd_ne _ _ hcn
        rw [g1] at hB
        rw [g2] at hC
        exact r.inj x c B hne hb hc hB hC
  F := fun B k h => by
    have := r.F B k h
    show B < (S.w.heap.push _).size
    simp; omega
  os := r.os
  tape := r.tape
  output := r.output
  size := by
    have := r.size
    show _ ≤ (S.w.heap.push o).size
    simp; omega
  old := fun B hB hA => by
    rw [fill_heap _ _ _ _ (by have := r.size; omega)]
    exact r.old B hB hA
  own := fun x B hb hB => by
    by_cases hbn : x = b
    · subst hbn
      have e2 : ((S.fill x o).G x).blk = some S.w.heap.size := by
        show (upd S.G x _ x).blk = _
        rw [upd_self]
      rw [e2] at hB
      cases hB
      exact .inr r.size
    · have g1 : ((S.fill b o).G x) = S.G x := upd_ne _ _ hbn
      rw [g1] at hB
      exact r.own x B hb hB
  fo := r.fo
theorem fillS_ok {t : TypeId} {z : AV} {b : Nat} {hs : HS} (r : RH w0 A S hs) (hz : zeroC E t = some z) (hs1 : z.solid = true) (hb : hs.hp b = .cells z.cells) (hG : S.G b = resv) (hN : b < S.N) :
    ∃ v T, (Instr.alloc t true (.tuple #[])).run E.P S.w = Result.ok v T.w ∧ LeN (some b) S T ∧ RH w0 A T hs ∧ Rv T (.ptr b 0) v := by
  obtain ⟨zv, h1, h2⟩ := zero_ok hz
  have hr : Rv S z zv := by rw [h2]; exact vAV_ok _
  have hc := hr.cells hs1
  have hle := LeN.fill S b (.cells zv.cells t) r.F
  have hw := hle.w (fun b' h => by cases h; exact hG)
  refine ⟨.pointer (some (at_ S.w.heap.size 0)), S.fill b (.cells zv.cells t), ?_, hle, r.fill hG ?_, .ptr _ _ _ hN (by show (upd S.G b _ b).blk = _; rw [upd_self])⟩
  · simp [Instr.alloc, h1, newVar, newRow]
    exact ⟨rfl, rfl⟩
  · rw [hb]
    refine .inr ⟨S.w.heap.size, zv.cells, t, (0, 0), by show (upd S.G b _ b).blk = _; rw [upd_self], fill_heap_self _ _ _, hc.1.symm, fun o ho => by simp, ?_, ?_⟩
    · intro i a v ha hv
      exact (hc.2 i a v ha hv).monoW hw
    · intro o hF
      have := r.F _ o hF
      omega
def gval (ops : List Oper) (o : Oper) (fr : Nat → AV) : Option Bool :=
  match o.guard with
  | none => some true
  | some (j, want) => match (ops[j]?).bind (·.dst) with
    | some d => match fr d with
      | .bool b => some (b == want)
      | .tup [] => some false
      | _ => none
    | none => none
def Act1 (E : Env) (tab : Tab) (cal : Callee) (nt : Nat) (nm : Option Nat) (ops : List Oper) (o : Oper) (fr : Nat → AV) (hs : HS) (c : Nat) (K : AV → HS → Prop) : Prop :=
  dstOk nt o.dst = true ∧ ((gval ops o fr = some false ∧ c = 0 ∧ K (.tup []) hs) ∨ (gval ops o fr = some true ∧ c = codeN E tab nm o (valsOf o fr) hs ∧ aopN E tab cal nm o (valsOf o fr) hs K))
theorem upd_eq_self {α : Type} {f : Nat → α} {k : Nat} {v : α} (h : f k = v) : upd f k v = f := by rw [← h]; exact upd_same f k
theorem aop1_act {nm : Option Nat} {ops : List Oper} {o : Oper} {K : Nat → St → Prop} (h : aop1 E tab cal nt nm ops o st K) :
    ∃ c, Act1 E tab cal nt nm ops o st.fr st.hs c (fun v hs => K c (st.put o.dst v hs)) := by
  unfold aop1 at h
  rw [cond_eq_ite] at h
  split at h
  · rename_i hd
    unfold guardOf at h
    unfold Act1 gval
    cases hg : o.guard with
    | none =>
      rw [hg] at h
      exact ⟨_, hd, .inr ⟨rfl, rfl, h⟩⟩
    | some jw =>
      obtain ⟨j, want⟩ := jw
      rw [hg] at h
      simp only at h ⊢
      cases hdst : (ops[j]?).bind (·.dst) with
      | none => rw [hdst] at h; exact h.elim
      | some d =>
        rw [hdst] at h
        simp only at h ⊢
        generalize hf : st.fr d = x at h
        cases x <;> first | exact h.elim | skip
        · rename_i b
          cases want <;> cases b
          · have h : aopN E tab cal nm o (valsOf o (upd st.fr d (.bool false))) st.hs fun v hs => K (codeN E tab nm o (valsOf o (upd st.fr d (.bool false))) st.hs) ({ st with fr := upd st.fr d (.bool false) }.put o.dst v hs) := h
            rw [upd_eq_self hf] at h
            exact ⟨_, hd, .inr ⟨rfl, rfl, h⟩⟩
          · have h : K 0 ({ st with fr := upd st.fr d (.bool true) }.put o.dst (.tup []) st.hs) := h
            rw [upd_eq_self hf] at h
            exact ⟨0, hd, .inl ⟨rfl, rfl, h⟩⟩
          · have h : K 0 ({ st with fr := upd st.fr d (.bool false) }.put o.dst (.tup []) st.hs) := h
            rw [upd_eq_self hf] at h
            exact ⟨0, hd, .inl ⟨rfl, rfl, h⟩⟩
          · have h : aopN E tab cal nm o (valsOf o (upd st.fr d (.bool true))) st.hs fun v hs => K (codeN E tab nm o (valsOf o (upd st.fr d (.bool true))) st.hs) ({ st with fr := upd st.fr d (.bool true) }.put o.dst v hs) := h
            rw [upd_eq_self hf] at h
            exact ⟨_, hd, .inr ⟨rfl, rfl, h⟩⟩
        · rename_i cs
          cases cs with
          | nil => exact ⟨0, hd, .inl ⟨rfl, rfl, h⟩⟩
          | cons _ _ => exact h.elim
  · exact h.elim
theorem act_wp {nm : Option Nat} {opsA : Array Oper} {o : Oper} {i c : Nat} {K : AV → HS → Prop} {Q : Exit → Act → World → Prop} {next : Act → World → Prop} (hT : TabAt E.P w0 A tab) (hC : CalSound E.P w0 A cal) (hcl : CloneSound E)
    (r : RS w0 A S nt st a) (hi : opsA[i]? = some o) (h : Act1 E tab cal nt nm opsA.toList o st.fr st.hs c K)
    (hres : ∀ b, nm = some b → S.G b = resv ∧ b < S.N ∧ ∀ t z, o.op = .alloc t → zeroC E t = some z → c = 3 * (b + 1) → st.hs.hp b = .cells z.cells)
    (hn : ∀ T v hs' u, LeN nm S T → RH w0 A T hs' → Rv T v u → K v hs' → dstOk nt o.dst = true → next (a.put o.dst u) T.w) : wpOp E.P opsA Q i next a S.w := by
  obtain ⟨hd, h⟩ := h
  unfold wpOp
  rw [hi]
  simp only
  have hy : ∀ j d, (opsA[j]?).bind (·.dst) = some d → (∀ b, st.fr d = .bool b → yielded opsA a.tmps j = some b) ∧ (st.fr d = .tup [] → yielded opsA a.tmps j = none) := by
    intro j d hjd
    have hr := r.fr d
    unfold yielded
    rw [hjd]
    simp only [Option.bind_some]
    constructor
    · intro b hb
      rw [hb] at hr
      have hv := hr.bool_inv
      rw [Array.getD_eq_getD_getElem?] at hv
      cases hx : a.tmps[d]? with
      | none => rw [hx] at hv; cases hv
      | some v => rw [hx] at hv; simp at hv; subst hv; rfl
    · intro hb
      rw [hb] at hr
      rw [Array.getD_eq_getD_getElem?] at hr
      cases hx : a.tmps[d]? with
      | none => rfl
      | some v =>
        rw [hx] at hr
        simp at hr
        obtain ⟨vs, rfl, _⟩ := hr.tup_inv
        rfl
  have hw : ∀ b, gval opsA.toList o st.fr = some b → Region.wanted o (yielded opsA a.tmps) = b := by
    intro b hb
    unfold gval at hb
    unfold Region.wanted
    cases hg : o.guard with
    | none => rw [hg] at hb; simpa using hb
    | some jw =>
      obtain ⟨j, want⟩ := jw
      rw [hg] at hb
      simp only at hb ⊢
      cases hdst : (opsA.toList[j]?).bind (·.dst) with
      | none => rw [hdst] at hb; cases hb
      | some d =>
        rw [hdst] at hb
        simp only at hb
        have hdst' : (opsA[j]?).bind (·.dst) = some d := by rw [← Array.getElem?_toList]; exact hdst
        generalize hf : st.fr d = x at hb
        cases x <;> first | (cases hb; done) | skip
        · rename_i q
          rw [(hy j d hdst').1 q hf]
          simp only [Option.some.injEq] at hb
          rw [← hb]
          cases q <;> cases want <;> rfl
        · rename_i cs
          cases cs with
          | nil =>
            rw [(hy j d hdst').2 hf]
            simp only [Option.some.injEq] at hb
            rw [← hb]
            rfl
          | cons _ _ => cases hb
  rcases h with ⟨hg, rfl, hK⟩ | ⟨hg, rfl, hK⟩
  · rw [hw false hg]
    simp only [Bool.false_eq_true, if_false]
    exact hn S (.tup []) st.hs undef ((Le.refl S).n nm) r.h (.tup [] #[] rfl (fun i c v h => by simp at h)) hK hd
  · rw [hw true hg]
    simp only [if_true]
    left
    cases nm with
    | some b =>
      obtain ⟨hG, hN, hb⟩ := hres b rfl
      obtain ⟨dst, op, type, pos, after, guard⟩ := o
      unfold aopN at hK
      dsimp only at hK
      split at hK
      · rename_i t
        split at hK
        · rename_i z hz
          split at hK
          · rename_i hs1
            obtain ⟨v, T, h1, h2, h3, h4⟩ := fillS_ok (E := E) r.h hz hs1 (hb t z rfl hz rfl) hG hN
            unfold Oper.wp
            have h5 : ((execOp a.eval ⟨dst, .alloc t, type, pos, after, guard⟩).run E.P S.w) = Result.ok (.value v) T.w := by
              show (do pure (Next.value (← Instr.alloc t true (.tuple #[])))).run E.P S.w = _
              simp [h1]
            rw [h5, Oper.upon_value]
            exact hn T _ _ v h2 h3 h4 hK hd
          · exact hK.elim
        · exact hK.elim
      · exact hK.elim
    | none =>
    have hK : aop E tab cal o (valsOf o st.fr) st.hs K := hK
    have key := aop_sound r.h hT hC hcl r.val hK
    unfold Oper.wp
    rcases key with ⟨v, av, T, hs', h1, h2, h3, h4, h5⟩ | ⟨f, args, h1, h2⟩
    · rcases h1 with h1 | ⟨h1, rfl⟩
      · rw [h1, Oper.upon_value]
        exact hn T av hs' v (h2.n none) h3 h4 h5 hd
      · rw [h1, Oper.upon_skip]
        exact hn T av hs' undef (h2.n none) h3 h4 h5 hd
    · rw [h1, Oper.upon_enter]
      refine h2.mono ?_
      rintro e w' ⟨v, av, T, hs', rfl, rfl, h3, h4, h5, h6⟩
      exact hn T av hs' v (h3.n none) h4 h5 h6 hd
theorem aseq_wp {opsA : Array Oper} {Q : Exit → Act → World → Prop} (hT : TabAt E.P w0 A tab) (hC : CalSound E.P w0 A cal) (hcl : CloneSound E) : ∀ (r : List Oper) (i : Nat) (S : Sit) (st : St) (a : Act) (K : St → Prop),
    opsA.toList.drop i = r → RS w0 A S nt st a → aseq E tab cal nt opsA.toList r st K → (∀ T st' a', Le S T → RS w0 A T nt st' a' → K st' → Q .normal a' T.w) →
    wpOps E.P opsA Q (List.range' i r.length) a S.w
  | [], i, S, st, a, K, _, rs, h, hQ => by
    simp only [List.length_nil, List.range'_zero, wpOps]
    exact hQ S st a (.refl S) rs h
  | o :: r, i, S, st, a, K, hr, rs, h, hQ => by
    have hi : opsA[i]? = some o := by
      have : (opsA.toList.drop i)[0]? = some o := by rw [hr]; rfl
      rw [List.getElem?_drop] at this
      simpa using this
    have hr' : opsA.toList.drop (i + 1) = r := by
      rw [show i + 1 = i + 1 from rfl, ← List.drop_drop, hr]; rfl
    simp only [List.length_cons, List.range'_succ]
    rw [wpOps_cons]
    obtain ⟨c, hact⟩ := aop1_act h
    refine act_wp hT hC hcl rs hi hact (fun b h => by cases h) ?_
    intro T v hs' u h1 h2 h3 hK hd
    have h1 := h1.le'
    exact aseq_wp hT hC hcl r (i + 1) T _ _ K hr' (rs.put h1 h2 h3 hd) hK (fun U st' a' h4 h5 h6 => hQ U st' a' (h1.trans h4) h5 h6)
end
end Gm

namespace Gm
open Go
section
variable {E : Env} {tab : Tab} {cal : Callee} {nt : Nat}
inductive Run (E : Env) (tab : Tab) (cal : Callee) (nt : Nat) (rs : Option Nat) (L : List Oper) : Nat → List Oper → St → List (Nat × AV × HS) → Prop
  | nil (i st) : Run E tab cal nt rs L i [] st []
  | cons (i o r st c v h tr) : Act1 E tab cal nt (nmOf rs L i o) L o st.fr st.hs c (fun v' h' => v' = v ∧ h' = h) → st.hs.hn ≤ h.hn → Run E tab cal nt rs L (i + 1) r (st.put o.dst v h) tr → Run E tab cal nt rs L i (o :: r) st ((c, v, h) :: tr)
def lastSt : List Oper → St → List (Nat × AV × HS) → St
  | o :: r, st, x :: tr => lastSt r (st.put o.dst x.2.1 x.2.2) tr
  | _, st, _ => st
theorem act_det (hD : TabDet tab) (hCD : CalDet cal) {nm : Option Nat} {L : List Oper} {o : Oper} {fr : Nat → AV} {hs : HS} {c : Nat} {K : AV → HS → Prop} (h : Act1 E tab cal nt nm L o fr hs c K) :
    ∃ v h', K v h' ∧ Act1 E tab cal nt nm L o fr hs c (fun v' h'' => v' = v ∧ h'' = h') := by
  obtain ⟨hd, h⟩ := h
  rcases h with ⟨hg, hc, hK⟩ | ⟨hg, hc, hK⟩
  · exact ⟨_, _, hK, hd, .inl ⟨hg, hc, rfl, rfl⟩⟩
  · obtain ⟨v, h', h1, h2⟩ := aopN_det hD hCD nm o _ hs K hK
    exact ⟨v, h', h1, hd, .inr ⟨hg, hc, h2 _ ⟨rfl, rfl⟩⟩⟩
theorem adraw_run (hD : TabDet tab) (hCD : CalDet cal) (rs : Option Nat) (L : List Oper) : ∀ (r : List Oper) (log : List Nat) (st : St) (K : List Nat → St → Prop), adraw E tab cal nt rs L r log st K →
    ∃ tr, Run E tab cal nt rs L log.length r st tr ∧ K (log ++ tr.map (·.1)) (lastSt r st tr)
  | [], log, st, K, h => ⟨[], .nil _ st, by
    have h : K log st := h
    simpa [lastSt] using h⟩
  | o :: r, log, st, K, h => by
    obtain ⟨c, hact⟩ := aop1_act h
    obtain ⟨v, h', h1, h2⟩ := act_det hD hCD hact
    have ep : ∀ d, (St.put st d v h').hs = h' := fun d => by cases d <;> rfl
    rw [ep] at h1
    cases hb : Nat.ble st.hs.hn h'.hn with
    | false => rw [hb] at h1; exact h1.elim
    | true =>
      rw [hb] at h1
      obtain ⟨tr, h3, h4⟩ := adraw_run hD hCD rs L r (log ++ [c]) _ K h1
      rw [List.length_append, List.length_singleton] at h3
      refine ⟨(c, v, h') :: tr, .cons _ _ _ _ _ _ _ _ h2 (Nat.le_of_ble_eq_true hb) h3, ?_⟩
      simpa [lastSt] using h4
def cAt (tr : List (Nat × AV × HS)) (i : Nat) : Nat := ((tr[i]?).map (·.1)).getD 2
def vAt (tr : List (Nat × AV × HS)) (i : Nat) : AV := ((tr[i]?).map (·.2.1)).getD .top
def hAt (tr : List (Nat × AV × HS)) (i : Nat) : HS := ((tr[i]?).map (·.2.2)).getD hs0
def stAt (L : List Oper) (st : St) (tr : List (Nat × AV × HS)) : Nat → St
  | 0 => st
  | i + 1 => match L[i]? with
    | some o => (stAt L st tr i).put o.dst (vAt tr i) (hAt tr i)
    | none => stAt L st tr i
theorem run_length {rs : Option Nat} {L : List Oper} : ∀ {i : Nat} {r : List Oper} {st : St} {tr : List (Nat × AV × HS)}, Run E tab cal nt rs L i r st tr → tr.length = r.length
  | _, _, _, _, .nil _ _ => rfl
  | _, _, _, _, .cons _ _ _ _ _ _ _ _ _ _ h => by simp [run_length h]
theorem run_at {rs : Option Nat} {L : List Oper} {st : St} {tr : List (Nat × AV × HS)} (h : Run E tab cal nt rs L 0 L st tr) : ∀ i, i ≤ L.length → Run E tab cal nt rs L i (L.drop i) (stAt L st tr i) (tr.drop i) ∧ lastSt (L.drop i) (stAt L st tr i) (tr.drop i) = lastSt L st tr
  | 0, _ => ⟨by simpa [stAt] using h, by simp [stAt]⟩
  | i + 1, hi => by
    obtain ⟨h1, h2⟩ := run_at h i (by omega)
    have hl := run_length h
    have e1 : L.drop i = L[i] :: L.drop (i + 1) := (List.drop_eq_getElem_cons (by omega))
    have e2 : tr.drop i = tr[i] :: tr.drop (i + 1) := (List.drop_eq_getElem_cons (by omega))
    have e3 : stAt L st tr (i + 1) = (stAt L st tr i).put L[i].dst tr[i].2.1 tr[i].2.2 := by
      have : L[i]? = some L[i] := List.getElem?_eq_getElem (by omega)
      have e : tr[i]? = some tr[i] := List.getElem?_eq_getElem (by omega)
      simp [stAt, this, vAt, hAt, e]
    rw [e1, e2] at h1 h2
    rw [e3]
    generalize tr[i] = x at h1 h2 ⊢
    cases h1 with
    | cons _ _ _ _ c v h' _ ha hn hr => exact ⟨hr, h2⟩
theorem run_act {rs : Option Nat} {L : List Oper} {st : St} {tr : List (Nat × AV × HS)} (h : Run E tab cal nt rs L 0 L st tr) {i : Nat} {o : Oper} (hi : L[i]? = some o) :
    Act1 E tab cal nt (nmOf rs L i o) L o (stAt L st tr i).fr (stAt L st tr i).hs (cAt tr i) (fun v' h' => v' = vAt tr i ∧ h' = hAt tr i) := by
  have hlt := (List.getElem?_eq_some_iff.1 hi).1
  have hl := run_length h
  obtain ⟨h1, _⟩ := run_at h i (by omega)
  have e1 : L.drop i = o :: L.drop (i + 1) := by
    rw [List.drop_eq_getElem_cons hlt]
    rw [List.getElem?_eq_getElem hlt] at hi
    cases hi; rfl
  have e2 : tr.drop i = tr[i] :: tr.drop (i + 1) := (List.drop_eq_getElem_cons (by omega))
  rw [e1, e2] at h1
  have e : tr[i]? = some tr[i] := List.getElem?_eq_getElem (by omega)
  generalize tr[i] = x at h1 e
  cases h1 with
  | cons _ _ _ _ c v h' _ ha hn hr => simpa [cAt, vAt, hAt, e] using ha
theorem run_hn {rs : Option Nat} {L : List Oper} {st : St} {tr : List (Nat × AV × HS)} (h : Run E tab cal nt rs L 0 L st tr) {i : Nat} (hi : i < L.length) : (stAt L st tr i).hs.hn ≤ (hAt tr i).hn := by
  have hl := run_length h
  obtain ⟨h1, _⟩ := run_at h i (by omega)
  have e1 : L.drop i = L[i] :: L.drop (i + 1) := List.drop_eq_getElem_cons hi
  have e2 : tr.drop i = tr[i] :: tr.drop (i + 1) := (List.drop_eq_getElem_cons (by omega))
  rw [e1, e2] at h1
  have e : tr[i]? = some tr[i] := List.getElem?_eq_getElem (by omega)
  generalize tr[i] = x at h1 e
  cases h1 with
  | cons _ _ _ _ c v h' _ ha hn hr => simpa [hAt, e] using hn
theorem stAt_hs {L : List Oper} {st : St} {tr : List (Nat × AV × HS)} {i : Nat} (hi : i < L.length) : (stAt L st tr (i + 1)).hs = hAt tr i := by
  have e : L[i]? = some L[i] := List.getElem?_eq_getElem hi
  simp only [stAt, e]
  cases L[i].dst <;> rfl
theorem tier_le (o : Oper) (vs : List AV) : tier E tab o vs ≤ 2 := by
  unfold tier
  repeat' split
  all_goals first | omega | (rw [cond_eq_ite]; split <;> omega) | (cases nilConst _ <;> simp <;> (repeat' split) <;> omega)
def Grow (h h2 : HS) : Prop := h.hn ≤ h2.hn ∧ ∀ b, b < h.hn → h2.hp b = h.hp b
theorem Grow.refl (h : HS) : Grow h h := ⟨Nat.le_refl _, fun _ _ => rfl⟩
theorem Grow.trans {a b c : HS} (h : Grow a b) (h2 : Grow b c) : Grow a c := ⟨Nat.le_trans h.1 h2.1, fun x hx => by rw [h2.2 x (by have := h.1; omega), h.2 x hx]⟩
theorem Grow.push (h : HS) (k : Blk) : Grow h (h.push k) := ⟨Nat.le_succ _, fun b hb => upd_ne _ _ (by omega)⟩
theorem a1_same {o : Oper} {vs : List AV} {hs hs2 : HS} {K : AV → Prop} (e : hs2.hp (blk1 vs) = hs.hp (blk1 vs)) (h : a1 E o vs hs K) : a1 E o vs hs2 K := by
  obtain ⟨dst, op, type, pos, after, guard⟩ := o
  unfold a1 at h
  dsimp only at h
  split at h
  · simp only [blk1] at e
    simp only [a1, e]; exact h
  · simp only [blk1] at e
    simp only [a1, e]; exact h
  · simp only [blk1] at e
    simp only [a1, e]; exact h
  · simp only [blk1] at e
    simp only [a1, e]; exact h
  · simp only [blk1] at e
    simp only [a1, e]; exact h
  · exact h.elim
theorem code0 {o : Oper} {vs : List AV} {hs : HS} (h : tier E tab o vs = 0) : code E tab o vs hs = 0 := by unfold code; simp only [h]
theorem code1 {o : Oper} {vs : List AV} {hs : HS} (h : tier E tab o vs = 1) : code E tab o vs hs = 1 + 3 * blk1 vs := by unfold code; simp only [h]
theorem code2 {o : Oper} {vs : List AV} {hs : HS} (h : tier E tab o vs = 2) : code E tab o vs hs = 2 + 3 * tch E tab o vs hs := by unfold code; simp only [h]
theorem aop_t0 {o : Oper} {vs : List AV} {hs : HS} {K : AV → HS → Prop} (h : tier E tab o vs = 0) : aop E tab cal o vs hs K = bif isCp E o vs then acp E o vs fun v => K v hs else a0 E tab o vs fun v => K v hs := by unfold aop; simp only [h]
theorem aop_t1 {o : Oper} {vs : List AV} {hs : HS} {K : AV → HS → Prop} (h : tier E tab o vs = 1) : aop E tab cal o vs hs K = bif Nat.blt (blk1 vs) hs.hn then a1 E o vs hs fun v => K v hs else False := by unfold aop; simp only [h]
theorem aop_t2 {o : Oper} {vs : List AV} {hs : HS} {K : AV → HS → Prop} (h : tier E tab o vs = 2) : aop E tab cal o vs hs K = a2 E tab cal o vs hs K := by unfold aop; simp only [h]
theorem tier_cases (o : Oper) (vs : List AV) : tier E tab o vs = 0 ∨ tier E tab o vs = 1 ∨ tier E tab o vs = 2 := by
  have := tier_le (E := E) (tab := tab) o vs
  omega
theorem code_mod (o : Oper) (vs : List AV) (hs : HS) : code E tab o vs hs % 3 = tier E tab o vs := by
  rcases tier_cases (E := E) (tab := tab) o vs with e | e | e
  · rw [code0 e, e]
  · rw [code1 e, e]; omega
  · rw [code2 e, e]; omega
theorem aopR_any {b : Nat} {o : Oper} {vs : List AV} {hs : HS} {K : AV → HS → Prop} (h : aopN E tab cal (some b) o vs hs K) :
    ∃ v h', K v h' ∧ v = .ptr b 0 ∧ h' = hs ∧ ∀ (hs2 : HS) (K' : AV → HS → Prop), K' v hs2 → aopN E tab cal (some b) o vs hs2 K' := by
  unfold aopN at h ⊢
  dsimp only at h ⊢
  split at h
  · split at h
    · split at h
      · rename_i t z hz hs1
        exact ⟨_, _, h, rfl, rfl, fun hs2 K' hk => by simp only [hs1, if_true]; exact hk⟩
      · exact h.elim
    · exact h.elim
  · exact h.elim
theorem act_congr (hD : TabDet tab) (_ : CalDet cal) {nm : Option Nat} {L : List Oper} {o : Oper} {fr fr' : Nat → AV} {hs hs2 h' : HS} {c : Nat} {v : AV} (h : Act1 E tab cal nt nm L o fr hs c (fun v' h'' => v' = v ∧ h'' = h'))
    (hf : ∀ t, t ∈ looks L o → fr' t = fr t) (hh1 : c % 3 = 1 → c / 3 < hs.hn → hs2.hp (c / 3) = hs.hp (c / 3) ∧ c / 3 < hs2.hn) (hh2 : c % 3 = 2 → hs2 = hs) : Act1 E tab cal nt nm L o fr' hs2 c (fun v' h'' => v' = v ∧ h'' = if c % 3 = 2 then h' else hs2) := by
  obtain ⟨hd, h⟩ := h
  have hv : valsOf o fr' = valsOf o fr := by
    unfold valsOf
    apply List.map_congr_left
    intro x hx
    cases x with
    | tmp t =>
      refine hf t ?_
      unfold looks
      refine List.mem_append_left _ (List.mem_filterMap.2 ⟨.tmp t, hx, rfl⟩)
    | _ => rfl
  have hg : gval L o fr' = gval L o fr := by
    unfold gval
    cases hgo : o.guard with
    | none => rfl
    | some jw =>
      obtain ⟨j, want⟩ := jw
      simp only
      cases hdst : (L[j]?).bind (·.dst) with
      | none => rfl
      | some d =>
        simp only
        rw [hf d (by unfold looks; rw [hgo]; simp only [hdst]; simp)]
  refine ⟨hd, ?_⟩
  rw [hg, hv]
  rcases h with ⟨h1, rfl, rfl, _⟩ | ⟨h1, hc, h2⟩
  · exact .inl ⟨h1, rfl, rfl, by simp⟩
  · cases nm with
    | some b =>
      obtain ⟨v1, h3, ⟨rfl, _⟩, _, _, h5⟩ := aopR_any h2
      have hc : c = 3 * (b + 1) := hc
      exact .inr ⟨h1, hc, h5 _ _ ⟨rfl, by rw [if_neg (by omega)]⟩⟩
    | none =>
    have hc : c = code E tab o (valsOf o fr) hs := hc
    have h2 : aop E tab cal o (valsOf o fr) hs (fun v' h'' => v' = v ∧ h'' = h') := h2
    suffices key : gval L o fr = some true ∧ c = code E tab o (valsOf o fr) hs2 ∧ aop E tab cal o (valsOf o fr) hs2 (fun v' h'' => v' = v ∧ h'' = if c % 3 = 2 then h' else hs2) from .inr key
    have ht := code_mod (E := E) (tab := tab) o (valsOf o fr) hs
    rw [← hc] at ht
    rcases tier_cases (E := E) (tab := tab) o (valsOf o fr) with e0 | e0 | e0
    · have hc0 : c = 0 := by rw [hc, code0 e0]
      subst hc0
      rw [aop_t0 e0] at h2
      refine ⟨h1, (code0 e0).symm, ?_⟩
      rw [aop_t0 e0]
      cases hb : isCp E o (valsOf o fr) with
      | false =>
        rw [hb] at h2
        obtain ⟨v1, ⟨rfl, _⟩, h4⟩ := a0_det hD o (valsOf o fr) _ h2
        exact h4 _ ⟨rfl, by simp⟩
      | true =>
        rw [hb] at h2
        obtain ⟨v1, ⟨rfl, _⟩, h4⟩ := acp_det (E := E) o (valsOf o fr) (fun v1 => v1 = v ∧ hs = h') h2
        simp only [cond_true]
        exact h4 _ ⟨rfl, by simp⟩
    · have hc1 : c = 1 + 3 * blk1 (valsOf o fr) := by rw [hc, code1 e0]
      have hx : c / 3 = blk1 (valsOf o fr) := by omega
      have hm : c % 3 = 1 := by omega
      rw [aop_t1 e0] at h2
      refine ⟨h1, by rw [code1 e0]; exact hc1, ?_⟩
      rw [aop_t1 e0]
      cases hb : Nat.blt (blk1 (valsOf o fr)) hs.hn with
      | false => rw [hb] at h2; exact h2.elim
      | true =>
        rw [hb] at h2
        have hlt : blk1 (valsOf o fr) < hs.hn := by simpa [Nat.blt_eq] using hb
        obtain ⟨e2, e3⟩ := hh1 hm (by rw [hx]; exact hlt)
        rw [hx] at e2 e3
        have hb2 : Nat.blt (blk1 (valsOf o fr)) hs2.hn = true := by rw [Nat.blt_eq]; exact e3
        rw [hb2]
        obtain ⟨v1, ⟨rfl, _⟩, h4⟩ := a1_det o (valsOf o fr) _ _ h2
        exact a1_same e2 (h4 _ ⟨rfl, by simp [hm]⟩)
    · have hc2 : c % 3 = 2 := by omega
      have e := hh2 hc2
      subst e
      refine ⟨h1, hc, ?_⟩
      simp only [hc2, if_true]; exact h2
theorem act_low (hD : TabDet tab) (_ : CalDet cal) {nm : Option Nat} {L : List Oper} {o : Oper} {fr : Nat → AV} {hs h' : HS} {c : Nat} {v : AV} (h : Act1 E tab cal nt nm L o fr hs c (fun v' h'' => v' = v ∧ h'' = h')) (hc : c % 3 ≠ 2) : h' = hs := by
  obtain ⟨_, h⟩ := h
  rcases h with ⟨_, _, _, h⟩ | ⟨_, hc', h2⟩
  · exact h.symm
  · cases nm with
    | some b =>
      obtain ⟨v1, h3, ⟨_, rfl⟩, _, e, _⟩ := aopR_any h2
      exact e
    | none =>
    have hc' : c = code E tab o (valsOf o fr) hs := hc'
    have h2 : aop E tab cal o (valsOf o fr) hs (fun v' h'' => v' = v ∧ h'' = h') := h2
    have ht := code_mod (E := E) (tab := tab) o (valsOf o fr) hs
    rw [← hc'] at ht
    rcases tier_cases (E := E) (tab := tab) o (valsOf o fr) with e0 | e0 | e0
    · rw [aop_t0 e0] at h2
      cases hb : isCp E o (valsOf o fr) with
      | false =>
        rw [hb] at h2
        obtain ⟨v1, ⟨_, h3⟩, _⟩ := a0_det hD o (valsOf o fr) _ h2
        exact h3.symm
      | true =>
        rw [hb] at h2
        obtain ⟨v1, ⟨_, h3⟩, _⟩ := acp_det (E := E) o (valsOf o fr) (fun v1 => v1 = v ∧ hs = h') h2
        exact h3.symm
    · rw [aop_t1 e0] at h2
      cases hb : Nat.blt (blk1 (valsOf o fr)) hs.hn with
      | false => rw [hb] at h2; exact h2.elim
      | true =>
        rw [hb] at h2
        obtain ⟨v1, ⟨_, h3⟩, _⟩ := a1_det o (valsOf o fr) _ _ h2
        exact h3.symm
    · omega
def Keeps (x : Nat) (h h2 : HS) : Prop := h.hn ≤ h2.hn ∧ ∀ b, b < h.hn → b + 1 ≠ x → h2.hp b = h.hp b
theorem Keeps.push (x : Nat) (h : HS) (k : Blk) : Keeps x h (h.push k) := ⟨Nat.le_succ _, fun b hb _ => upd_ne _ _ (by omega)⟩
theorem Keeps.set (h : HS) (b : Nat) (k : Blk) : Keeps (b + 1) h { h with hp := upd h.hp b k } := ⟨Nat.le_refl _, fun y _ hn => upd_ne _ _ (by omega)⟩
theorem Keeps.setPush (h : HS) (b : Nat) (k k2 : Blk) : Keeps (b + 1) h ({ h with hp := upd h.hp b k }.push k2) :=
  ⟨Nat.le_succ _, fun y hy hn => by
    show upd (upd h.hp b k) h.hn k2 y = h.hp y
    rw [upd_ne _ _ (by omega), upd_ne _ _ (by omega)]⟩
theorem aapp_keeps {t : Ty} {w : Nat} {base src : AV} {hs h' : HS} {v : AV} (h : aapp t w base src hs (fun v' h'' => v' = v ∧ h'' = h')) : Keeps (match base with | .slr b => b + 1 | _ => hs.hn + 1) hs h' := by
  unfold aapp at h
  split at h
  · exact h.elim
  · rename_i ys hys
    split at h
    · rw [cond_eq_ite] at h
      split at h
      · obtain ⟨_, rfl⟩ := h; exact Keeps.push _ _ _
      · exact h.elim
    · rw [cond_eq_ite] at h
      split at h
      · obtain ⟨_, rfl⟩ := h; exact Keeps.push _ _ _
      · exact h.elim
    · split at h
      · rw [cond_eq_ite] at h
        split at h
        · obtain ⟨_, rfl⟩ := h; exact ⟨Nat.le_refl _, fun _ _ _ => rfl⟩
        · rw [cond_eq_ite] at h
          split at h
          · obtain ⟨_, rfl⟩ := h; exact Keeps.push _ _ _
          · exact h.elim
      · exact h.elim
    · split at h
      · split at h
        · rw [cond_eq_ite] at h
          split at h
          · obtain ⟨_, rfl⟩ := h; exact Keeps.push _ _ _
          · exact h.elim
        · exact h.elim
      · exact h.elim
    · split at h
      · split at h
        · split at h
          · rw [cond_eq_ite] at h
            split at h
            · exact h.elim
            · rw [cond_eq_ite] at h
              split at h
              · obtain ⟨_, rfl⟩ := h; exact Keeps.setPush _ _ _ _
              · exact h.elim
          · rw [cond_eq_ite] at h
            split at h
            · obtain ⟨_, rfl⟩ := h; exact Keeps.setPush _ _ _ _
            · exact h.elim
        · exact h.elim
      · exact h.elim
    · exact h.elim
theorem sliceB_some {n : Nat} {l h m : Option AV} {K : Nat → Nat → Bool → Prop} (hk : sliceB n l h m K) : ∃ a b c, K a b c := by
  unfold sliceB at hk
  repeat' split at hk
  all_goals first
    | exact hk.elim
    | exact ⟨_, _, _, hk⟩
    | (rw [cond_eq_ite] at hk; split at hk <;> first | exact hk.elim | exact ⟨_, _, _, hk⟩)
theorem aslice_keeps {E : Env} {t : TypeId} {x : AV} {l h m : Option AV} {K : AV → Prop} (hk : aslice E t x l h m K) : ∃ v, K v := by
  unfold aslice at hk
  repeat' split at hk
  all_goals first
    | exact hk.elim
    | (obtain ⟨_, _, _, hk⟩ := sliceB_some hk; exact ⟨_, hk⟩)
theorem a2_keeps (hD : TabDet tab) {o : Oper} {vs : List AV} {hs h' : HS} {v : AV} (h : a2 E tab cal o vs hs (fun v' h'' => v' = v ∧ h'' = h')) (h0 : tch E tab o vs hs ≠ 0) : Keeps (tch E tab o vs hs) hs h' := by
  obtain ⟨dst, op, type, pos, after, guard⟩ := o
  unfold a2 at h
  dsimp only at h
  split at h
  · split at h
    · split at h
      · obtain ⟨_, rfl⟩ := h; exact Keeps.push _ _ _
      · exact h.elim
    · exact h.elim
  · split at h
    · obtain ⟨_, rfl⟩ := h; exact Keeps.push _ _ _
    · exact h.elim
  · exact absurd rfl h0
  · exact absurd rfl h0
  · split at h
    · split at h
      · obtain ⟨_, rfl⟩ := h; exact Keeps.set _ _ _
      · exact h.elim
    · exact h.elim
  · split at h
    · split at h
      · split at h
        · obtain ⟨_, rfl⟩ := h; exact Keeps.set _ _ _
        · exact h.elim
      · exact h.elim
    · exact h.elim
  · exact absurd rfl h0
  · exact absurd rfl h0
  · split at h
    · obtain ⟨v1, _, rfl⟩ := aslice_keeps h
      exact Keeps.set _ _ _
    · exact h.elim
  · rename_i c vs
    split at h
    · rename_i base src hc
      split at h
      · split at h
        · split at h
          · split at h
            · split at h
              · have := aapp_keeps h
                unfold tch
                simp only [hc]
                cases base <;> exact this
              · exact h.elim
            · exact h.elim
          · exact h.elim
        · exact h.elim
      · exact h.elim
    · rename_i f p q args hc
      have et : tch E tab ⟨dst, .call vs, type, pos, after, guard⟩ (.func f p q :: args) hs = match tabGet tab f with
          | some _ => (match (p ++ (args ++ q)).flatMap slrs with | [b] => b + 1 | _ => 0)
          | none => (match E.clone f with | some _ => hs.hn + 1 | none => 0) := by
        unfold tch
        simp only [hc]
        rfl
      rw [et] at h0 ⊢
      cases hf : tabGet tab f with
      | some en =>
        rw [hf] at h h0
        simp only at h h0 ⊢
        obtain ⟨v1, ⟨_, e⟩, _⟩ := hD f en hf _ _ h
        rw [← e]
        split
        · rename_i b hb
          refine ⟨Nat.le_refl _, fun y _ hy => ?_⟩
          show roAll ((p ++ (args ++ q)).flatMap slrs) hs.hp y = hs.hp y
          rw [hb]
          show upd hs.hp b (roB (hs.hp b)) y = hs.hp y
          exact upd_ne _ _ (by omega)
        · rename_i hne
          exact absurd (by split; · rename_i b hb; exact absurd hb (hne b)
                           · rfl) h0
      | none =>
        rw [hf] at h h0
        simp only at h h0 ⊢
        cases hcl : E.clone f with
        | none => rw [hcl] at h0; exact absurd rfl h0
        | some tw =>
          obtain ⟨t, w⟩ := tw
          rw [hcl] at h
          simp only at h ⊢
          split at h
          · obtain ⟨_, rfl⟩ := h; exact Keeps.push _ _ _
          · split at h
            · rw [cond_eq_ite] at h
              split at h
              · obtain ⟨_, rfl⟩ := h; exact Keeps.push _ _ _
              · exact h.elim
            · exact h.elim
          · exact h.elim
    · exact h.elim
  · exact h.elim
theorem act_keeps (hD : TabDet tab) {nm : Option Nat} {L : List Oper} {o : Oper} {fr : Nat → AV} {hs h' : HS} {c : Nat} {v : AV} (h : Act1 E tab cal nt nm L o fr hs c (fun v' h'' => v' = v ∧ h'' = h')) (hc : c % 3 = 2) (h0 : c / 3 ≠ 0) : Keeps (c / 3) hs h' := by
  obtain ⟨_, h⟩ := h
  rcases h with ⟨_, h, _⟩ | ⟨_, hc', h2⟩
  · omega
  · cases nm with
    | some b =>
      have hc' : c = 3 * (b + 1) := hc'
      omega
    | none =>
    have hc' : c = code E tab o (valsOf o fr) hs := hc'
    have h2 : aop E tab cal o (valsOf o fr) hs (fun v' h'' => v' = v ∧ h'' = h') := h2
    have ht := code_mod (E := E) (tab := tab) o (valsOf o fr) hs
    rw [← hc', hc] at ht
    have e0 : tier E tab o (valsOf o fr) = 2 := by omega
    have hx : c / 3 = tch E tab o (valsOf o fr) hs := by
      have := code2 (hs := hs) e0
      omega
    rw [hx] at h0 ⊢
    rw [aop_t2 e0] at h2
    exact a2_keeps hD h2 h0
def frOf (L : List Oper) (st : St) (tr : List (Nat × AV × HS)) (l : Nat → Bool) : Nat → (Nat → AV)
  | 0 => st.fr
  | k + 1 => match (L[k]?).bind (·.dst) with
    | some d => bif l k then upd (frOf L st tr l k) d (vAt tr k) else frOf L st tr l k
    | none => frOf L st tr l k
def hsOf (L : List Oper) (st : St) (tr : List (Nat × AV × HS)) (l : Nat → Bool) : Nat → HS
  | 0 => st.hs
  | k + 1 => bif l k && Nat.beq (cAt tr k % 3) 2 then hAt tr k else hsOf L st tr l k
section
variable {L : List Oper} {st : St} {tr : List (Nat × AV × HS)} {l l' : Nat → Bool}
theorem frOf_all : ∀ k, k ≤ L.length → frOf L st tr (fun _ => true) k = (stAt L st tr k).fr
  | 0, _ => rfl
  | k + 1, hk => by
    have hi : L[k]? = some L[k] := List.getElem?_eq_getElem (by omega)
    simp only [frOf, stAt, hi, Option.bind_some, cond_true]
    cases hd : L[k].dst with
    | none => simp only [St.put]; exact frOf_all k (by omega)
    | some d => simp only [St.put]; rw [frOf_all k (by omega)]
theorem hsOf_all (hD : TabDet tab) (hCD : CalDet cal) {rs : Option Nat} (h : Run E tab cal nt rs L 0 L st tr) : ∀ k, k ≤ L.length → hsOf L st tr (fun _ => true) k = (stAt L st tr k).hs
  | 0, _ => rfl
  | k + 1, hk => by
    have hi : L[k]? = some L[k] := List.getElem?_eq_getElem (by omega)
    have ha := run_act h hi
    simp only [hsOf, stAt, hi, Bool.true_and]
    have e : ((stAt L st tr k).put L[k].dst (vAt tr k) (hAt tr k)).hs = hAt tr k := by
      cases L[k].dst <;> rfl
    rw [e]
    cases hc : Nat.beq (cAt tr k % 3) 2 with
    | true => rfl
    | false =>
      have hne : cAt tr k % 3 ≠ 2 := by intro e; rw [e] at hc; cases hc
      simp only [cond_false]
      rw [hsOf_all hD hCD h k (by omega), act_low hD hCD ha hne]
theorem frOf_agree (t : Nat) : ∀ j, (∀ k d, k < j → (L[k]?).bind (·.dst) = some d → d = t → l k = l' k) → frOf L st tr l j t = frOf L st tr l' j t
  | 0, _ => rfl
  | j + 1, h => by
    have ih := frOf_agree t j (fun k d hk => h k d (by omega))
    simp only [frOf]
    cases hd : (L[j]?).bind (·.dst) with
    | none => exact ih
    | some d =>
      simp only
      by_cases e : d = t
      · have := h j d (by omega) hd e
        rw [this]
        cases l' j
        · exact ih
        · simp only [cond_true]; subst e; rw [upd_self, upd_self]
      · have hne : t ≠ d := fun x => e x.symm
        cases l j <;> cases l' j <;> simp only [cond_true, cond_false] <;> (try rw [upd_ne _ _ hne]) <;> (try rw [upd_ne _ _ hne]) <;> exact ih
theorem frOf_stop (t : Nat) (j : Nat) : ∀ m, j ≤ m → (∀ k d, j ≤ k → k < m → (L[k]?).bind (·.dst) = some d → d = t → l k = false) → frOf L st tr l m t = frOf L st tr l j t
  | 0, hj, _ => by have : j = 0 := by omega
                   subst this; rfl
  | m + 1, hj, h => by
    by_cases e : j = m + 1
    · subst e; rfl
    · have ih := frOf_stop t j m (by omega) (fun k d h1 h2 => h k d h1 (by omega))
      simp only [frOf]
      cases hd : (L[m]?).bind (·.dst) with
      | none => exact ih
      | some d =>
        simp only
        by_cases e2 : d = t
        · rw [h m d (by omega) (by omega) hd e2]; exact ih
        · have hne : t ≠ d := fun x => e2 x.symm
          cases l m
          · exact ih
          · simp only [cond_true]; rw [upd_ne _ _ hne]; exact ih
theorem hsOf_agree : ∀ j, (∀ k, k < j → cAt tr k % 3 = 2 → l k = l' k) → hsOf L st tr l j = hsOf L st tr l' j
  | 0, _ => rfl
  | j + 1, h => by
    have ih := hsOf_agree j (fun k hk => h k (by omega))
    simp only [hsOf]
    cases hc : Nat.beq (cAt tr j % 3) 2 with
    | false => simp only [Bool.and_false, cond_false]; exact ih
    | true =>
      rw [h j (by omega) (Nat.eq_of_beq_eq_true hc), ih]
theorem hsOf_stop (j : Nat) : ∀ m, j ≤ m → (∀ k, j ≤ k → k < m → cAt tr k % 3 = 2 → l k = false) → hsOf L st tr l m = hsOf L st tr l j
  | 0, hj, _ => by have : j = 0 := by omega
                   subst this; rfl
  | m + 1, hj, h => by
    by_cases e : j = m + 1
    · subst e; rfl
    · have ih := hsOf_stop j m (by omega) (fun k h1 h2 => h k h1 (by omega))
      simp only [hsOf]
      cases hc : Nat.beq (cAt tr m % 3) 2 with
      | false => simp only [Bool.and_false, cond_false]; exact ih
      | true => rw [h m (by omega) (by omega) (Nat.eq_of_beq_eq_true hc)]; exact ih
end
end
end Gm

namespace Gm
open Go
def Shut (L : List Oper) (l : Nat → Bool) : Prop := ∀ j o, L[j]? = some o → l j = true → ∀ e ∈ o.after, Region.binds .any e = true → l e.on = true
theorem befMask_bit (acc : List Nat) (o : Oper) (i : Nat) (h : (befMask acc o).testBit i = true) : ∃ e, e ∈ o.after ∧ Region.binds .any e = true ∧ (i = e.on ∨ (acc.getD e.on 0).testBit i = true) := by
  unfold befMask at h
  have key : ∀ (es : List Edge) (s : Nat), (es.foldl (fun s e => bif Region.binds .any e then s ||| (1 <<< e.on) ||| acc.getD e.on 0 else s) s).testBit i = true →
      s.testBit i = true ∨ ∃ e, e ∈ es ∧ Region.binds .any e = true ∧ (i = e.on ∨ (acc.getD e.on 0).testBit i = true) := by
    intro es
    induction es with
    | nil => intro s h; exact .inl h
    | cons e r ih =>
      intro s h
      rw [List.foldl_cons] at h
      rcases ih _ h with h1 | ⟨e', h1, h2⟩
      · cases hb : Region.binds .any e with
        | false => rw [hb] at h1; exact .inl h1
        | true =>
          rw [hb] at h1
          simp only [cond_true, Nat.testBit_or, Bool.or_eq_true] at h1
          rcases h1 with (h1 | h1) | h1
          · exact .inl h1
          · refine .inr ⟨e, by simp, hb, .inl ?_⟩
            rw [Nat.one_shiftLeft, Nat.testBit_two_pow] at h1
            exact (of_decide_eq_true h1).symm
          · exact .inr ⟨e, by simp, hb, .inr h1⟩
      · exact .inr ⟨e', by simp [h1], h2⟩
  rcases key _ _ h with h1 | ⟨e, h1, h2⟩
  · simp at h1
  · exact ⟨e, by simpa using h1, h2⟩
theorem befores_shut {L : List Oper} {l : Nat → Bool} (hl : Shut L l) {j i : Nat} (h : ((befores L).getD j 0).testBit i = true) (hj : l j = true) : l i = true := by
  have key : ∀ (r : List Oper) (acc : List Nat), L.drop acc.length = r → (∀ j i, (acc.getD j 0).testBit i = true → l j = true → l i = true) →
      ∀ j i, ((r.foldl (fun acc o => acc ++ [befMask acc o]) acc).getD j 0).testBit i = true → l j = true → l i = true := by
    intro r
    induction r with
    | nil => intro acc _ h; exact h
    | cons o r ih =>
      intro acc hr hacc
      rw [List.foldl_cons]
      have ho : L[acc.length]? = some o := by
        have : (L.drop acc.length)[0]? = some o := by rw [hr]; rfl
        rw [List.getElem?_drop] at this
        simpa using this
      refine ih (acc ++ [befMask acc o]) ?_ ?_
      · rw [List.length_append, List.length_singleton, ← List.drop_drop, hr]; rfl
      · intro j i hb hj
        rcases Nat.lt_trichotomy j acc.length with h1 | h1 | h1
        · refine hacc j i ?_ hj
          rw [List.getD_eq_getElem?_getD] at hb ⊢
          rw [List.getElem?_append_left h1] at hb
          exact hb
        · subst h1
          rw [List.getD_eq_getElem?_getD, List.getElem?_append_right (Nat.le_refl _)] at hb
          simp at hb
          obtain ⟨e, h1, h2, h3⟩ := befMask_bit acc o i hb
          have h4 := hl _ o ho hj e h1 h2
          rcases h3 with rfl | h3
          · exact h4
          · exact hacc _ _ h3 h4
        · rw [List.getD_eq_getElem?_getD, List.getElem?_eq_none (by simp; omega)] at hb
          simp at hb
  exact key L [] (by simp) (by intro j i h; simp at h) j i h hj
theorem memB_iff (n : Nat) : ∀ l : List Nat, memB n l = true ↔ n ∈ l
  | [] => by simp [memB]
  | a :: r => by
    rw [memB, Bool.or_eq_true, memB_iff n r, List.mem_cons]
    constructor
    · rintro (h | h)
      · exact .inl (Nat.eq_of_beq_eq_true h)
      · exact .inr h
    · rintro (h | h)
      · exact .inl (by subst h; exact Nat.beq_refl n)
      · exact .inr h
section
variable {E : Env} {w0 : World} {A : Ow} {tab : Tab} {cal : Callee} {nt : Nat} {L : List Oper} {st : St} {tr : List (Nat × AV × HS)}
theorem cAt_eq (tr : List (Nat × AV × HS)) (i : Nat) : (tr.map (·.1)).getD i 2 = cAt tr i := by
  rw [List.getD_eq_getElem?_getD, List.getElem?_map]; rfl
theorem draw_back {hn : Nat} (h : drawOk hn L (tr.map (·.1)) = true) {j : Nat} {o : Oper} (hj : L[j]? = some o) : ∀ e ∈ o.after, Region.binds .any e = true → e.on < j := by
  unfold drawOk at h
  rw [Bool.and_eq_true] at h
  have h1 := List.all_eq_true.1 h.1 j (List.mem_range.2 (List.getElem?_eq_some_iff.1 hj).1)
  rw [hj] at h1
  intro e he hb
  have h2 := List.all_eq_true.1 h1 e (by simpa using he)
  rw [hb] at h2
  simpa [Nat.blt_eq] using h2
theorem draw_conf {hn : Nat} (h : drawOk hn L (tr.map (·.1)) = true) {i j : Nat} {a b : Oper} (hij : i < j) (hi : L[i]? = some a) (hj : L[j]? = some b) (hc : conf hn L a b (cAt tr i) (cAt tr j) = true) :
    ((befores L).getD j 0).testBit i = true := by
  unfold drawOk at h
  rw [Bool.and_eq_true] at h
  have h1 := List.all_eq_true.1 h.2 j (List.mem_range.2 (List.getElem?_eq_some_iff.1 hj).1)
  have h2 := List.all_eq_true.1 h1 i (List.mem_range.2 hij)
  rw [hi, hj] at h2
  simp only [cAt_eq, hc, Bool.not_true, Bool.false_or] at h2
  rw [Bool.and_eq_true] at h2
  exact h2.1
theorem draw_late {hn : Nat} (h : drawOk hn L (tr.map (·.1)) = true) {i j : Nat} {a b : Oper} (hij : i < j) (hi : L[i]? = some a) (hj : L[j]? = some b) : late (cAt tr i) (cAt tr j) = false := by
  unfold drawOk at h
  rw [Bool.and_eq_true] at h
  have h1 := List.all_eq_true.1 h.2 j (List.mem_range.2 (List.getElem?_eq_some_iff.1 hj).1)
  have h2 := List.all_eq_true.1 h1 i (List.mem_range.2 hij)
  rw [hi, hj] at h2
  simp only [cAt_eq] at h2
  rw [Bool.and_eq_true] at h2
  simpa using h2.2
variable {l : Nat → Bool}
theorem ord_before {hn : Nat} (h : drawOk hn L (tr.map (·.1)) = true) (hs : Shut L l) {i j : Nat} {a b : Oper} (hij : i < j) (hi : L[i]? = some a) (hj : L[j]? = some b)
    (hc : conf hn L a b (cAt tr i) (cAt tr j) = true) (hl : l j = true) : l i = true := befores_shut hs (draw_conf h hij hi hj hc) hl
theorem shut_set (hs : Shut L l) {i : Nat} {o : Oper} (hi : L[i]? = some o) (hr : ∀ e ∈ o.after, Region.binds .any e = true → l e.on = true) : Shut L (fun k => l k || Nat.beq k i) := by
  intro j oj hj hl e he hb
  show (l e.on || Nat.beq e.on i) = true
  rw [Bool.or_eq_true] at hl ⊢
  rcases hl with hl | hl
  · exact .inl (hs j oj hj hl e he hb)
  · have := Nat.eq_of_beq_eq_true hl
    subst this
    rw [hi] at hj
    cases hj
    exact .inl (hr e he hb)
theorem conf_22 {hn : Nat} {a b : Oper} {ca cb : Nat} (h1 : ca % 3 = 2) (h2 : cb % 3 = 2) : conf hn L a b ca cb = true := by
  unfold conf meets
  rw [h1, h2]
  rfl
theorem conf_12 {hn : Nat} {a b : Oper} {ca cb : Nat} (h1 : ca % 3 = 1) (h2 : cb % 3 = 2) (h : cb / 3 = 0 ∨ cb / 3 = ca / 3 + 1) : conf hn L a b ca cb = true := by
  unfold conf meets
  rw [h1, h2]
  rcases h with h | h <;> rw [h] <;> simp
theorem conf_21 {hn : Nat} {a b : Oper} {ca cb : Nat} (h1 : ca % 3 = 2) (h2 : cb % 3 = 1) (h : ca / 3 = 0 ∨ ca / 3 = cb / 3 + 1 ∨ hn ≤ cb / 3) : conf hn L a b ca cb = true := by
  unfold conf meets
  rw [h1, h2]
  rcases h with h | h | h
  · rw [h]; simp
  · rw [h]; simp
  · have : Nat.ble hn (cb / 3) = true := by rw [Nat.ble_eq]; exact h
    rw [this]; simp
theorem conf_02 {hn : Nat} {a b : Oper} {ca cb : Nat} (h1 : ca % 3 = 0) (h0 : 0 < ca) (h2 : cb % 3 = 2) (h : cb / 3 = 0 ∨ cb / 3 = ca / 3) : conf hn L a b ca cb = true := by
  have h0' : Nat.blt 0 ca = true := by rw [Nat.blt_eq]; exact h0
  unfold conf meets
  rw [h1, h2, h0']
  rcases h with h | h <;> rw [h] <;> simp
theorem conf_rw {hn : Nat} {a b : Oper} {ca cb d : Nat} (hd : a.dst = some d) (h : d ∈ looks L b) : conf hn L a b ca cb = true := by
  unfold conf
  rw [hd]
  simp only [(memB_iff d _).2 h, Bool.true_or, Bool.or_true]
theorem conf_ww {hn : Nat} {a b : Oper} {ca cb d : Nat} (hd : a.dst = some d) (h : b.dst = some d) : conf hn L a b ca cb = true := by
  unfold conf
  rw [hd, h]
  simp only [Nat.beq_refl, Bool.or_true, Bool.true_or]
theorem conf_wr {hn : Nat} {a b : Oper} {ca cb d : Nat} (hd : b.dst = some d) (h : d ∈ looks L a) : conf hn L a b ca cb = true := by
  unfold conf
  rw [hd]
  simp only [(memB_iff d _).2 h, Bool.or_true]
theorem draw_step (hD : TabDet tab) (hCD : CalDet cal) {rs : Option Nat} (hrun : Run E tab cal nt rs L 0 L st tr) (hok : drawOk st.hs.hn L (tr.map (·.1)) = true) (hs : Shut L l) {i : Nat} {o : Oper} (hi : L[i]? = some o)
    (hr : ∀ e ∈ o.after, Region.binds .any e = true → l e.on = true) (hun : l i = false) :
    Act1 E tab cal nt (nmOf rs L i o) L o (frOf L st tr l L.length) (hsOf L st tr l L.length) (cAt tr i) (fun v h => (⟨frOf L st tr l L.length, hsOf L st tr l L.length⟩ : St).put o.dst v h =
      ⟨frOf L st tr (fun k => l k || Nat.beq k i) L.length, hsOf L st tr (fun k => l k || Nat.beq k i) L.length⟩) := by
  have hlt := (List.getElem?_eq_some_iff.1 hi).1
  have hs' := shut_set hs hi hr
  have hli : (fun k => l k || Nat.beq k i) i = true := by show (l i || Nat.beq i i) = true; rw [Nat.beq_refl, Bool.or_true]
  have dstAt : ∀ (k d : Nat), (L[k]?).bind (fun x : Oper => x.dst) = some d → ∃ a : Oper, L[k]? = some a ∧ a.dst = some d := by
    intro k d h
    cases hk : L[k]? with
    | none => rw [hk] at h; cases h
    | some a => rw [hk] at h; exact ⟨a, rfl, h⟩
  have beq_ne : ∀ k, k ≠ i → Nat.beq k i = false := fun k hk => by
    cases hb : Nat.beq k i with
    | false => rfl
    | true => exact absurd (Nat.eq_of_beq_eq_true hb) hk
  -- what it looks at
  have look : ∀ t, t ∈ looks L o → frOf L st tr l L.length t = (stAt L st tr i).fr t := by
    intro t ht
    rw [frOf_stop t i L.length (by omega), ← frOf_all i (by omega)]
    · refine frOf_agree t i ?_
      intro k d hk hd hdt
      obtain ⟨a, ha, had⟩ := dstAt k d hd
      subst hdt
      have := ord_before hok hs' hk ha hi (conf_rw had ht) hli
      simp only [beq_ne k (by omega), Bool.or_false] at this
      exact this
    · intro k d hk hk2 hd hdt
      obtain ⟨a, ha, had⟩ := dstAt k d hd
      subst hdt
      by_cases e : k = i
      · subst e; exact hun
      · cases hlk : l k with
        | false => rfl
        | true =>
          have := ord_before hok hs (by omega : i < k) hi ha (conf_wr had ht) hlk
          rw [hun] at this; cases this
  have heap2 : cAt tr i % 3 = 2 → hsOf L st tr l L.length = (stAt L st tr i).hs := by
    intro hc
    rw [hsOf_stop i L.length (by omega)]
    · rw [← hsOf_all hD hCD hrun i (by omega)]
      refine hsOf_agree i ?_
      intro k hk hc2
      have ha : L[k]? = some L[k] := List.getElem?_eq_getElem (by omega)
      have := ord_before hok hs' hk ha hi (conf_22 hc2 hc) hli
      simp only [beq_ne k (by omega), Bool.or_false] at this
      exact this
    · intro k hk hk2 hc2
      by_cases e : k = i
      · subst e; exact hun
      · have ha : L[k]? = some L[k] := List.getElem?_eq_getElem (by omega)
        cases hlk : l k with
        | false => rfl
        | true =>
          have := ord_before hok hs (by omega : i < k) hi ha (conf_22 hc hc2) hlk
          rw [hun] at this; cases this
  have mono : ∀ j m, j ≤ m → m ≤ L.length → (stAt L st tr j).hs.hn ≤ (stAt L st tr m).hs.hn := by
    intro j m
    induction m with
    | zero => intro h _; have : j = 0 := by omega
              subst this; exact Nat.le_refl _
    | succ m ih =>
      intro h h2
      by_cases e : j = m + 1
      · subst e; exact Nat.le_refl _
      · have h1 := ih (by omega) (by omega)
        have h3 := run_hn hrun (i := m) (by omega)
        rw [stAt_hs (by omega)]
        omega
  have mono0 : ∀ m, m ≤ L.length → st.hs.hn ≤ (stAt L st tr m).hs.hn := fun m hm => mono 0 m (by omega) hm
  -- a block that is looked at
  have heap1 : cAt tr i % 3 = 1 → cAt tr i / 3 < (stAt L st tr i).hs.hn → (hsOf L st tr l L.length).hp (cAt tr i / 3) = (stAt L st tr i).hs.hp (cAt tr i / 3) ∧ cAt tr i / 3 < (hsOf L st tr l L.length).hn := by
    intro hc hxi
    have first : (hsOf L st tr l i).hp (cAt tr i / 3) = (stAt L st tr i).hs.hp (cAt tr i / 3) ∧ cAt tr i / 3 < (hsOf L st tr l i).hn := by
      by_cases hx : cAt tr i / 3 < st.hs.hn
      · have key : ∀ j, j ≤ i → (hsOf L st tr l j).hp (cAt tr i / 3) = (stAt L st tr j).hs.hp (cAt tr i / 3) ∧ cAt tr i / 3 < (hsOf L st tr l j).hn := by
          intro j
          induction j with
          | zero => intro _; exact ⟨rfl, hx⟩
          | succ j ih =>
            intro hj
            obtain ⟨ih1, ih2⟩ := ih (by omega)
            have hjl : j < L.length := by omega
            have haj : L[j]? = some L[j] := List.getElem?_eq_getElem hjl
            have hact := run_act hrun haj
            rw [stAt_hs hjl]
            simp only [hsOf]
            cases hb : (l j && Nat.beq (cAt tr j % 3) 2) with
            | true =>
              have := mono0 (j + 1) (by omega)
              rw [stAt_hs hjl] at this
              exact ⟨rfl, by simp only [cond_true]; omega⟩
            | false =>
              simp only [cond_false]
              refine ⟨?_, ih2⟩
              rw [ih1]
              by_cases h2 : cAt tr j % 3 = 2
              · have hlj : l j = false := by
                  rw [h2] at hb
                  simpa using hb
                have hno : ¬ (cAt tr j / 3 = 0 ∨ cAt tr j / 3 = cAt tr i / 3 + 1 ∨ st.hs.hn ≤ cAt tr i / 3) := by
                  intro h
                  have := ord_before hok hs' (by omega : j < i) haj hi (conf_21 h2 hc h) hli
                  simp only [beq_ne j (by omega), Bool.or_false] at this
                  rw [hlj] at this; cases this
                have hk := act_keeps hD hact h2 (fun h => hno (.inl h))
                have h5 := mono0 j (by omega)
                exact (hk.2 _ (by omega) (fun h => hno (.inr (.inl h.symm)))).symm
              · rw [act_low hD hCD hact h2]
        exact key i (Nat.le_refl _)
      · have e : hsOf L st tr l i = (stAt L st tr i).hs := by
          rw [← hsOf_all hD hCD hrun i (by omega)]
          refine hsOf_agree i ?_
          intro k hk hc2
          have ha : L[k]? = some L[k] := List.getElem?_eq_getElem (by omega)
          have := ord_before hok hs' hk ha hi (conf_21 hc2 hc (.inr (.inr (by omega)))) hli
          simp only [beq_ne k (by omega), Bool.or_false] at this
          exact this
        rw [e]
        exact ⟨rfl, hxi⟩
    have second : ∀ m, i ≤ m → m ≤ L.length → (hsOf L st tr l m).hp (cAt tr i / 3) = (stAt L st tr i).hs.hp (cAt tr i / 3) ∧ cAt tr i / 3 < (hsOf L st tr l m).hn := by
      intro m
      induction m with
      | zero => intro h _; have : i = 0 := by omega
                subst this; exact first
      | succ m ih =>
        intro h1 h2
        by_cases e : i = m + 1
        · subst e; exact first
        · have ih := ih (by omega) (by omega)
          have hml : m < L.length := by omega
          have ham : L[m]? = some L[m] := List.getElem?_eq_getElem hml
          simp only [hsOf]
          cases hb : (l m && Nat.beq (cAt tr m % 3) 2) with
          | false => exact ih
          | true =>
            rw [Bool.and_eq_true] at hb
            have hm2 := Nat.eq_of_beq_eq_true hb.2
            have chain : ∀ k, i ≤ k → k ≤ m + 1 → (stAt L st tr k).hs.hp (cAt tr i / 3) = (stAt L st tr i).hs.hp (cAt tr i / 3) := by
              intro k
              induction k with
              | zero => intro h3 _; have : i = 0 := by omega
                        subst this; rfl
              | succ k ihk =>
                intro h3 h4
                by_cases e2 : i = k + 1
                · subst e2; rfl
                · have ihk := ihk (by omega) (by omega)
                  have hkl : k < L.length := by omega
                  have hak : L[k]? = some L[k] := List.getElem?_eq_getElem hkl
                  have hact := run_act hrun hak
                  rw [stAt_hs hkl]
                  by_cases h5 : cAt tr k % 3 = 2
                  · have hlk : l k = true := by
                      by_cases e3 : k = m
                      · subst e3; exact hb.1
                      · exact ord_before hok hs (by omega : k < m) hak ham (conf_22 h5 hm2) hb.1
                    have hki : k ≠ i := fun e4 => by subst e4; rw [hun] at hlk; cases hlk
                    have hno : ¬ (cAt tr k / 3 = 0 ∨ cAt tr k / 3 = cAt tr i / 3 + 1) := by
                      intro h
                      have := ord_before hok hs (by omega : i < k) hi hak (conf_12 hc h5 h) hlk
                      rw [hun] at this; cases this
                    have hk := act_keeps hD hact h5 (fun h => hno (.inl h))
                    have h6 := mono i k (by omega) (by omega)
                    rw [hk.2 _ (by omega) (fun h => hno (.inr h.symm)), ihk]
                  · rw [act_low hD hCD hact h5, ihk]
            have h7 := chain (m + 1) (by omega) (Nat.le_refl _)
            rw [stAt_hs hml] at h7
            have h8 := mono i (m + 1) (by omega) (by omega)
            rw [stAt_hs hml] at h8
            exact ⟨h7, by simp only [cond_true]; omega⟩
    exact second L.length (by omega) (Nat.le_refl _)
  have hact := act_congr hD hCD (run_act hrun hi) look heap1 heap2
  obtain ⟨hd, hact⟩ := hact
  have fin : ∀ v h, (v = vAt tr i ∧ h = if cAt tr i % 3 = 2 then hAt tr i else hsOf L st tr l L.length) → (⟨frOf L st tr l L.length, hsOf L st tr l L.length⟩ : St).put o.dst v h =
      ⟨frOf L st tr (fun k => l k || Nat.beq k i) L.length, hsOf L st tr (fun k => l k || Nat.beq k i) L.length⟩ := by
    rintro v h ⟨rfl, rfl⟩
    have e1 : hsOf L st tr (fun k => l k || Nat.beq k i) L.length = if cAt tr i % 3 = 2 then hAt tr i else hsOf L st tr l L.length := by
      split
      · rename_i hc
        rw [hsOf_stop (i + 1) L.length (by omega)]
        · show (bif (l i || Nat.beq i i) && Nat.beq (cAt tr i % 3) 2 then hAt tr i else _) = _
          rw [hc, Nat.beq_refl, Bool.or_true]; rfl
        · intro k hk hk2 hc2
          show (l k || Nat.beq k i) = false
          rw [beq_ne k (by omega), Bool.or_false]
          have ha : L[k]? = some L[k] := List.getElem?_eq_getElem (by omega)
          cases hlk : l k with
          | false => rfl
          | true =>
            have := ord_before hok hs (by omega : i < k) hi ha (conf_22 hc hc2) hlk
            rw [hun] at this; cases this
      · rename_i hc
        refine hsOf_agree L.length ?_
        intro k hk hc2
        show (l k || Nat.beq k i) = l k
        rw [beq_ne k (fun e => by subst e; exact hc hc2), Bool.or_false]
    have e2 : frOf L st tr (fun k => l k || Nat.beq k i) L.length = match o.dst with | some d => upd (frOf L st tr l L.length) d (vAt tr i) | none => frOf L st tr l L.length := by
      funext t
      cases hod : o.dst with
      | none =>
        refine frOf_agree t L.length ?_
        intro k d hk hd hdt
        show (l k || Nat.beq k i) = l k
        rw [beq_ne k (fun e => by subst e; rw [hi] at hd; simp [hod] at hd), Bool.or_false]
      | some d0 =>
        simp only
        by_cases e : t = d0
        · subst e
          rw [upd_self, frOf_stop t (i + 1) L.length (by omega)]
          · have hb : (L[i]?).bind (·.dst) = some t := by rw [hi]; exact hod
            show (match (L[i]?).bind (·.dst) with | some d => bif (l i || Nat.beq i i) then upd (frOf L st tr (fun k => l k || Nat.beq k i) i) d (vAt tr i) else _ | none => _) t = _
            rw [hb]
            simp only [Nat.beq_refl, Bool.or_true, cond_true]
            rw [upd_self]
          · intro k d hk hk2 hd hdt
            show (l k || Nat.beq k i) = false
            rw [beq_ne k (by omega), Bool.or_false]
            obtain ⟨a, ha, had⟩ := dstAt k d hd
            subst hdt
            cases hlk : l k with
            | false => rfl
            | true =>
              have := ord_before hok hs (by omega : i < k) hi ha (conf_ww hod had) hlk
              rw [hun] at this; cases this
        · rw [upd_ne _ _ e]
          refine frOf_agree t L.length ?_
          intro k d hk hd hdt
          show (l k || Nat.beq k i) = l k
          rw [beq_ne k (fun x => by subst x; rw [hi] at hd; simp [hod] at hd; exact e (hd.symm ▸ hdt.symm)), Bool.or_false]
    rw [e1, e2]
    cases o.dst <;> rfl
  refine ⟨hd, ?_⟩
  rcases hact with ⟨h1, h2, h3⟩ | ⟨h1, h2, h3⟩
  · exact .inl ⟨h1, h2, fin _ _ h3⟩
  · obtain ⟨v, h', h4, h5⟩ := aopN_det hD hCD _ o _ _ _ h3
    exact .inr ⟨h1, h2, h5 _ (fin _ _ h4)⟩
theorem resv_hp (hD : TabDet tab) (hCD : CalDet cal) {rs : Option Nat} (hrun : Run E tab cal nt rs L 0 L st tr) (hok : drawOk st.hs.hn L (tr.map (·.1)) = true) (hs : Shut L l) {i b : Nat} {o : Oper} (hi : L[i]? = some o)
    (hc : cAt tr i = 3 * (b + 1)) (hb : b < st.hs.hn) (hun : l i = false) : ∀ m, m ≤ L.length → (hsOf L st tr l m).hp b = st.hs.hp b ∧ st.hs.hn ≤ (hsOf L st tr l m).hn := by
  have hilt := (List.getElem?_eq_some_iff.1 hi).1
  have mono0 : ∀ m, m ≤ L.length → st.hs.hn ≤ (stAt L st tr m).hs.hn := by
    intro m
    induction m with
    | zero => intro _; exact Nat.le_refl _
    | succ m ih =>
      intro h2
      have h1 := ih (by omega)
      have h3 := run_hn hrun (i := m) (by omega)
      rw [stAt_hs (by omega)]
      omega
  intro m
  induction m with
  | zero => intro _; exact ⟨rfl, Nat.le_refl _⟩
  | succ m ih =>
    intro hm
    have hml : m < L.length := by omega
    have ham : L[m]? = some L[m] := List.getElem?_eq_getElem hml
    simp only [hsOf]
    cases hlm : (l m && Nat.beq (cAt tr m % 3) 2) with
    | false => exact ih (by omega)
    | true =>
      rw [Bool.and_eq_true] at hlm
      have hm2 := Nat.eq_of_beq_eq_true hlm.2
      have chain : ∀ k, k ≤ m + 1 → (stAt L st tr k).hs.hp b = st.hs.hp b := by
        intro k
        induction k with
        | zero => intro _; rfl
        | succ k ihk =>
          intro hk
          have ihk := ihk (by omega)
          have hkl : k < L.length := by omega
          have hak : L[k]? = some L[k] := List.getElem?_eq_getElem hkl
          have hact := run_act hrun hak
          rw [stAt_hs hkl]
          by_cases h5 : cAt tr k % 3 = 2
          · have hlk : l k = true := by
              by_cases e3 : k = m
              · subst e3; exact hlm.1
              · exact ord_before hok hs (by omega : k < m) hak ham (conf_22 h5 hm2) hlm.1
            have hki : k ≠ i := fun e4 => by subst e4; rw [hun] at hlk; cases hlk
            have hno : ¬ (cAt tr k / 3 = 0 ∨ cAt tr k / 3 = b + 1) := by
              intro h
              have hq : cAt tr i / 3 = b + 1 := by omega
              by_cases e5 : i < k
              · have := ord_before hok hs e5 hi hak (conf_02 (by omega) (by omega) h5 (by rw [hq]; exact h)) hlk
                rw [hun] at this; cases this
              · have h6 := draw_late hok (by omega : k < i) hak hi
                unfold late at h6
                have z0 : Nat.beq (cAt tr i % 3) 0 = true := by rw [show cAt tr i % 3 = 0 by omega]; rfl
                have z1 : Nat.blt 0 (cAt tr i) = true := by rw [Nat.blt_eq]; omega
                rw [z0, z1, h5, hq] at h6
                rcases h with h | h <;> rw [h] at h6 <;> simp at h6
            have hk := act_keeps hD hact h5 (fun h => hno (.inl h))
            have h6 := mono0 k (by omega)
            rw [hk.2 _ (by omega) (fun h => hno (.inr h.symm)), ihk]
          · rw [act_low hD hCD hact h5, ihk]
      have h7 := chain (m + 1) (Nat.le_refl _)
      rw [stAt_hs hml] at h7
      have h8 := mono0 (m + 1) (by omega)
      rw [stAt_hs hml] at h8
      exact ⟨h7, h8⟩
end
end Gm

namespace Gm
open Go
section
variable {E : Env} {w0 : World} {A : Ow} {tab : Tab} {cal : Callee} {nt : Nat} {st : St} {tr : List (Nat × AV × HS)} {opsA : Array Oper} {lt : Nat → Option LSpec} {i0 : Nat} {Kx : Nat → St → Prop} {Kr : St → Prop}
theorem hsOf_ge {rs : Option Nat} {L : List Oper} {l : Nat → Bool} (hrun : Run E tab cal nt rs L 0 L st tr) : ∀ m, m ≤ L.length → st.hs.hn ≤ (hsOf L st tr l m).hn := by
  have mono0 : ∀ m, m ≤ L.length → st.hs.hn ≤ (stAt L st tr m).hs.hn := by
    intro m
    induction m with
    | zero => intro _; exact Nat.le_refl _
    | succ m ih =>
      intro h2
      have h1 := ih (by omega)
      have h3 := run_hn hrun (i := m) (by omega)
      rw [stAt_hs (by omega)]
      omega
  intro m
  induction m with
  | zero => intro _; exact Nat.le_refl _
  | succ m ih =>
    intro hm
    simp only [hsOf]
    cases hb : (l m && Nat.beq (cAt tr m % 3) 2) with
    | false => exact ih (by omega)
    | true =>
      have := mono0 (m + 1) hm
      rw [stAt_hs (by omega)] at this
      exact this
theorem lastSt_eq {rs : Option Nat} {L : List Oper} (hrun : Run E tab cal nt rs L 0 L st tr) : lastSt L st tr = stAt L st tr L.length := by
  obtain ⟨_, h⟩ := run_at hrun L.length (Nat.le_refl _)
  rw [← h]
  simp [lastSt]
def lf (listed : Array Bool) (k : Nat) : Bool := listed.getD k false
theorem ready_some {listed : Array Bool} (hsz : listed.size = opsA.size) (hb : ∀ (j : Nat) o, opsA[j]? = some o → ∀ e ∈ o.after, Region.binds .any e = true → e.on < j)
    (hr : Region.ready .any opsA listed = []) : ∀ k, k < opsA.size → lf listed k = true := by
  intro k
  induction k using Nat.strongRecOn with
  | _ k ih =>
    intro hk
    cases hl : lf listed k with
    | true => rfl
    | false =>
      have ho : opsA[k]? = some opsA[k] := Array.getElem?_eq_getElem hk
      have : k ∈ Region.ready .any opsA listed := by
        rw [mem_ready]
        refine ⟨?_, _, ho, fun e he hbd => ih e.on (hb k _ ho e he hbd) (Nat.lt_trans (hb k _ ho e he hbd) hk)⟩
        unfold lf at hl
        rw [Array.getD_eq_getD_getElem?] at hl ⊢
        rw [Array.getElem?_eq_getElem (by omega)] at hl ⊢
        exact hl
      rw [hr] at this
      cases this
structure ResOk (E : Env) (S0 : Sit) (rs : Option Nat) (L : List Oper) (hs : HS) : Prop where
  lo : ∀ (i : Nat) o b, L[i]? = some o → nmOf rs L i o = some b → S0.N ≤ b ∧ b < hs.hn
  hp : ∀ (i : Nat) o b t z, L[i]? = some o → nmOf rs L i o = some b → o.op = .alloc t → zeroC E t = some z → hs.hp b = .cells z.cells
  inj : ∀ (i j : Nat) o o' b, L[i]? = some o → L[j]? = some o' → nmOf rs L i o = some b → nmOf rs L j o' = some b → i = j
theorem resOk_none (E : Env) (S0 : Sit) (L : List Oper) (hs : HS) : ResOk E S0 none L hs :=
  ⟨fun _ _ _ _ h => (by cases h), fun _ _ _ _ _ _ h => (by cases h), fun _ _ _ _ _ _ _ h => (by cases h)⟩
theorem alCount_lt : ∀ {L : List Oper} {i j : Nat} {o : Oper}, L[i]? = some o → isAl o = true → i < j → alCount L i < alCount L j
  | [], i, j, o, h, _, _ => by simp at h
  | a :: r, 0, j + 1, o, h, ha, _ => by
    have : a = o := by simpa using h
    subst this
    simp only [alCount, ha, cond_true]; omega
  | a :: r, i + 1, j + 1, o, h, ha, hij => by
    have := alCount_lt (L := r) (i := i) (j := j) (by simpa using h) ha (by omega)
    simp only [alCount]
    cases isAl a <;> simp only [cond_true, cond_false] <;> omega
  | a :: r, i, 0, o, _, _, hij => by omega
theorem resvH_ok {E : Env} : ∀ (L : List Oper) (hs : HS), hs.hn ≤ (resvH E L hs).hn ∧ (∀ b, b < hs.hn → (resvH E L hs).hp b = hs.hp b) ∧
    (∀ (i : Nat) o, L[i]? = some o → isAl o = true → hs.hn + alCount L i < (resvH E L hs).hn) ∧
    (∀ (i : Nat) o t z, L[i]? = some o → o.op = .alloc t → zeroC E t = some z → (resvH E L hs).hp (hs.hn + alCount L i) = .cells z.cells) ∧
    ((∀ b, hs.hn ≤ b → hs.hp b = .dead) → (∀ b, (resvH E L hs).hn ≤ b → (resvH E L hs).hp b = .dead) ∧ (∀ b, hs.hn ≤ b → (resvH E L hs).hp b = .dead ∨ ∃ cs, (resvH E L hs).hp b = .cells cs))
  | [], hs => ⟨Nat.le_refl _, fun _ _ => rfl, fun i o h => by simp at h, fun i o t z h => by simp at h, fun h => ⟨h, fun b hb => .inl (h b hb)⟩⟩
  | o :: r, hs => by
    cases ha : isAl o with
    | false =>
      have e : resvH E (o :: r) hs = resvH E r hs := by
        rw [resvH]
        unfold isAl at ha
        split
        · rename_i t ht; rw [ht] at ha; cases ha
        · rfl
      rw [e]
      obtain ⟨h1, h2, h3, h4, h5⟩ := resvH_ok (E := E) r hs
      have ec : ∀ i, alCount (o :: r) (i + 1) = alCount r i := fun i => by simp only [alCount, ha, cond_false]
      refine ⟨h1, h2, ?_, ?_, h5⟩
      · intro i o' hi hal
        cases i with
        | zero => have : o = o' := by simpa using hi
                  subst this; rw [ha] at hal; cases hal
        | succ i => rw [ec]; exact h3 i o' (by simpa using hi) hal
      · intro i o' t z hi ht hz
        cases i with
        | zero => have : o = o' := by simpa using hi
                  subst this
                  unfold isAl at ha; rw [ht] at ha; cases ha
        | succ i => rw [ec]; exact h4 i o' t z (by simpa using hi) ht hz
    | true =>
      obtain ⟨t0, ht0⟩ : ∃ t, o.op = .alloc t := by
        unfold isAl at ha
        split at ha
        · rename_i t ht; exact ⟨t, ht⟩
        · cases ha
      have e : ∃ k, resvH E (o :: r) hs = resvH E r (hs.push k) ∧ (k = .dead ∨ ∃ cs, k = .cells cs) ∧ ∀ z, zeroC E t0 = some z → k = .cells z.cells := by
        rw [resvH, ht0]
        simp only
        cases hz : zeroC E t0 with
        | none => exact ⟨.dead, rfl, .inl rfl, fun z h => by cases h⟩
        | some z => exact ⟨.cells z.cells, rfl, .inr ⟨_, rfl⟩, fun z' h => by cases h; rfl⟩
      obtain ⟨k, e, hk1, hk2⟩ := e
      rw [e]
      obtain ⟨h1, h2, h3, h4, h5⟩ := resvH_ok (E := E) r (hs.push k)
      have en : (hs.push k).hn = hs.hn + 1 := rfl
      have ec : ∀ i, alCount (o :: r) (i + 1) = alCount r i + 1 := fun i => by simp only [alCount, ha, cond_true]
      have e0 : (hs.push k).hp hs.hn = k := upd_self _ _ _
      refine ⟨by omega, ?_, ?_, ?_, ?_⟩
      · intro b hb
        rw [h2 b (by omega)]
        exact upd_ne _ _ (by omega)
      · intro i o' hi hal
        cases i with
        | zero => show hs.hn + 0 < _; omega
        | succ i =>
          have := h3 i o' (by simpa using hi) hal
          rw [ec]; omega
      · intro i o' t z hi ht hz
        cases i with
        | zero =>
          have : o = o' := by simpa using hi
          subst this
          rw [ht0] at ht
          cases ht
          show (resvH E r (hs.push k)).hp (hs.hn + 0) = _
          rw [Nat.add_zero, h2 _ (by omega), e0, hk2 z hz]
        | succ i =>
          have := h4 i o' t z (by simpa using hi) ht hz
          rw [ec]
          rw [en] at this
          rw [show hs.hn + (alCount r i + 1) = hs.hn + 1 + alCount r i by omega]
          exact this
      · intro hd
        obtain ⟨h6, h7⟩ := h5 (fun b hb => by
          show upd hs.hp hs.hn k b = .dead
          rw [upd_ne _ _ (by omega)]
          exact hd b (by omega))
        refine ⟨h6, ?_⟩
        intro b hb
        by_cases hbe : b = hs.hn
        · subst hbe
          rw [h2 _ (by omega), e0]
          exact hk1
        · exact h7 b (by omega)
theorem resOk_some {E : Env} {S0 : Sit} {L : List Oper} {hs : HS} (hN : S0.N = hs.hn) : ResOk E S0 (some hs.hn) L (resvH E L hs) := by
  obtain ⟨h1, h2, h3, h4, _⟩ := resvH_ok (E := E) L hs
  have key : ∀ (i : Nat) o b, nmOf (some hs.hn) L i o = some b → isAl o = true ∧ b = hs.hn + alCount L i := by
    intro i o b h
    unfold nmOf at h
    simp only at h
    cases ha : isAl o with
    | false => rw [ha] at h; cases h
    | true => rw [ha] at h; cases h; exact ⟨rfl, rfl⟩
  refine ⟨?_, ?_, ?_⟩
  · intro i o b hi hn
    obtain ⟨ha, rfl⟩ := key i o b hn
    exact ⟨by omega, h3 i o hi ha⟩
  · intro i o b t z hi hn ht hz
    obtain ⟨ha, rfl⟩ := key i o b hn
    exact h4 i o t z hi ht hz
  · intro i j o o' b hi hj hn hn'
    obtain ⟨ha, e1⟩ := key i o b hn
    obtain ⟨ha', e2⟩ := key j o' b hn'
    rcases Nat.lt_trichotomy i j with h | h | h
    · have := alCount_lt hi ha h; omega
    · exact h
    · have := alCount_lt hj ha' h; omega
def Sit.keepFree (S : Sit) (n : Nat) : Sit := { S with G := fun b => bif Nat.blt b S.N then S.G b else resv, N := n }
theorem keepFree_lt (S : Sit) (n : Nat) {b : Nat} (h : b < S.N) : (S.keepFree n).G b = S.G b := by
  have : Nat.blt b S.N = true := by rw [Nat.blt_eq]; exact h
  show (bif Nat.blt b S.N then S.G b else resv) = _
  rw [this]; rfl
theorem keepFree_ge (S : Sit) (n : Nat) {b : Nat} (h : S.N ≤ b) : (S.keepFree n).G b = resv := by
  have : Nat.blt b S.N = false := by rw [Bool.eq_false_iff]; simp [Nat.blt_eq]; exact h
  show (bif Nat.blt b S.N then S.G b else resv) = _
  rw [this]; rfl
theorem Le.keepFree (S : Sit) {n : Nat} (h : S.N ≤ n) : Le S (S.keepFree n) := ⟨fun _ _ h => h, fun _ _ _ _ h => h, fun _ hb => keepFree_lt S n hb, h⟩
theorem RH.keepFree {E : Env} {S : Sit} {hs : HS} {L : List Oper} (r : RH w0 A S hs) : RH w0 A (S.keepFree (resvH E L hs).hn) (resvH E L hs) := by
  obtain ⟨h1, h2, _, _, h5⟩ := resvH_ok (E := E) L hs
  obtain ⟨h6, h7⟩ := h5 r.dead
  have hN := r.N
  have old : ∀ b B, (resvH E L hs).hp b ≠ .dead → ((S.keepFree (resvH E L hs).hn).G b).blk = some B → b < S.N ∧ hs.hp b ≠ .dead ∧ (S.G b).blk = some B := by
    intro b B hb hB
    by_cases e : b < S.N
    · rw [keepFree_lt S _ e] at hB
      rw [h2 b (by omega)] at hb
      exact ⟨e, hb, hB⟩
    · rw [keepFree_ge S _ (by omega)] at hB; cases hB
  refine ⟨rfl, h6, ?_, ?_, r.F, r.os, r.tape, r.output, r.size, r.old, ?_, r.fo⟩
  · intro b
    by_cases e : b < S.N
    · rw [h2 b (by omega)]
      exact RB.keep (Le.keepFree S (by omega)) (keepFree_lt S _ e) (fun _ _ _ => rfl) (fun _ _ _ _ h => h) (r.blks b)
    · rcases h7 b (by omega) with h | ⟨cs, h⟩
      · rw [h]; trivial
      · rw [h]; exact .inl (keepFree_ge S _ (by omega))
  · intro b c B hne hb hc hB hC
    obtain ⟨_, q1, q2⟩ := old b B hb hB
    obtain ⟨_, q3, q4⟩ := old c B hc hC
    exact r.inj b c B hne q1 q3 q2 q4
  · intro b B hb hB
    obtain ⟨_, q1, q2⟩ := old b B hb hB
    exact r.own b B q1 q2
theorem draw_wp {S0 : Sit} {rs : Option Nat} {Q : Exit → Act → World → Prop} (hT : TabAt E.P w0 A tab) (hC : CalSound E.P w0 A cal) (hcl : CloneSound E) (hD : TabDet tab) (hCD : CalDet cal) (hrun : Run E tab cal nt rs opsA.toList 0 opsA.toList st tr)
    (hres : ResOk E S0 rs opsA.toList st.hs) (hok : drawOk st.hs.hn opsA.toList (tr.map (·.1)) = true) (hQ : ∀ T a', Le S0 T → RS w0 A T nt (lastSt opsA.toList st tr) a' → Q .normal a' T.w) :
    ∀ (fuel : Nat) (listed : Array Bool) (S : Sit) (a : Act), Le S0 S → listed.size = opsA.size → listed.toList.count false ≤ fuel → Shut opsA.toList (lf listed) →
      (∀ (i : Nat) o b, opsA.toList[i]? = some o → nmOf rs opsA.toList i o = some b → lf listed i = false → S.G b = resv) →
      RS w0 A S nt ⟨frOf opsA.toList st tr (lf listed) opsA.size, hsOf opsA.toList st tr (lf listed) opsA.size⟩ a → wpAny E.P .any opsA Q fuel listed a S.w := by
  have hb : ∀ (j : Nat) o, opsA[j]? = some o → ∀ e ∈ o.after, Region.binds .any e = true → e.on < j := fun j o ho => draw_back hok (by rw [Array.getElem?_toList]; exact ho)
  have hlen : opsA.toList.length = opsA.size := by simp
  have done : ∀ (listed : Array Bool) (S : Sit) (a : Act), Le S0 S → listed.size = opsA.size →
      RS w0 A S nt ⟨frOf opsA.toList st tr (lf listed) opsA.size, hsOf opsA.toList st tr (lf listed) opsA.size⟩ a → Region.ready .any opsA listed = [] → Q .normal a S.w := by
    intro listed S a hle hsz hrs hr
    have hall := ready_some hsz hb hr
    refine hQ S a hle ?_
    have e1 : frOf opsA.toList st tr (lf listed) opsA.size = (stAt opsA.toList st tr opsA.size).fr := by
      rw [← frOf_all opsA.size (by omega)]
      funext t
      exact frOf_agree t _ (fun k d hk _ _ => hall k hk)
    have e2 : hsOf opsA.toList st tr (lf listed) opsA.size = (stAt opsA.toList st tr opsA.size).hs := by
      rw [← hsOf_all hD hCD hrun opsA.size (by omega)]
      exact hsOf_agree _ (fun k hk _ => hall k hk)
    rw [lastSt_eq hrun, hlen]
    rw [e1, e2] at hrs
    exact hrs
  intro fuel
  induction fuel with
  | zero =>
    intro listed S a hle hsz hc hs hfree hrs
    have hr : Region.ready .any opsA listed = [] := by
      cases h : Region.ready .any opsA listed with
      | nil => rfl
      | cons j r =>
        have hj : j ∈ Region.ready .any opsA listed := by rw [h]; simp
        obtain ⟨h1, o, ho, _⟩ := mem_ready.1 hj
        have hjl : j < opsA.size := (Array.getElem?_eq_some_iff.1 ho).1
        rw [Array.getD_eq_getD_getElem?, Array.getElem?_eq_getElem (by omega)] at h1
        have hm : false ∈ listed.toList := by
          have h1 : listed[j] = false := h1
          rw [← h1]
          exact Array.mem_toList_iff.2 (Array.getElem_mem _)
        have := List.count_pos_iff.2 hm
        omega
    exact ⟨hr, done listed S a hle hsz hrs hr⟩
  | succ fuel ih =>
    intro listed S a hle hsz hc hs hfree hrs
    refine ⟨fun hr => done listed S a hle hsz hrs hr, ?_⟩
    intro i hi
    obtain ⟨h1, o, ho, hr⟩ := mem_ready.1 hi
    have hil : i < opsA.size := (Array.getElem?_eq_some_iff.1 ho).1
    have hoL : opsA.toList[i]? = some o := by rw [Array.getElem?_toList]; exact ho
    have h2 : listed[i]'(by omega) = false := by
      rw [Array.getD_eq_getD_getElem?, Array.getElem?_eq_getElem (by omega)] at h1
      exact h1
    have hun : lf listed i = false := by
      unfold lf
      rw [Array.getD_eq_getD_getElem?, Array.getElem?_eq_getElem (by omega)]
      exact h2
    have hset : lf (listed.setIfInBounds i true) = fun k => lf listed k || Nat.beq k i := by
      funext k
      unfold lf
      by_cases e : k = i
      · subst e
        rw [Nat.beq_refl, Bool.or_true]
        simp [Array.getD_eq_getD_getElem?, hsz, hil]
      · have : Nat.beq k i = false := by
          cases hb : Nat.beq k i with
          | false => rfl
          | true => exact absurd (Nat.eq_of_beq_eq_true hb) e
        rw [this, Bool.or_false, Array.getD_eq_getD_getElem?, Array.getD_eq_getD_getElem?, Array.getElem?_setIfInBounds_ne (fun h => e h.symm)]
    have hstep := draw_step hD hCD hrun hok hs hoL hr hun
    rw [hlen] at hstep
    have hmono : ∀ b, b < st.hs.hn → b < S.N := by
      intro b hb
      have hN := hrs.h.N
      have hge : st.hs.hn ≤ (hsOf opsA.toList st tr (lf listed) opsA.size).hn := hsOf_ge hrun opsA.size (by omega)
      have hN : S.N = (hsOf opsA.toList st tr (lf listed) opsA.size).hn := hN
      omega
    refine act_wp hT hC hcl hrs ho hstep ?_ ?_
    · intro b hb
      refine ⟨hfree i o b hoL hb hun, hmono b (hres.lo i o b hoL hb).2, ?_⟩
      intro t z ht hz hcode
      have := (resv_hp hD hCD hrun hok hs hoL hcode (hres.lo i o b hoL hb).2 hun opsA.size (by omega)).1
      show (hsOf opsA.toList st tr (lf listed) opsA.size).hp b = _
      rw [this]
      exact hres.hp i o b t z hoL hb ht hz
    intro T v hs' u h3 h4 h5 hK hd
    refine ih _ T _ (h3.le hle (fun b hb => (hres.lo i o b hoL hb).1)) (by simp [hsz]) ?_ ?_ ?_ ?_
    · rw [Array.toList_setIfInBounds]
      rw [List.count_set (by simpa using (by omega : i < listed.size))]
      have : listed.toList[i]'(by simpa using (by omega : i < listed.size)) = false := by simpa using h2
      rw [this]
      have hpos : 0 < listed.toList.count false := List.count_pos_iff.2 (by rw [← this]; exact List.getElem_mem _)
      rw [if_pos (show (false == false) = true from rfl), if_neg (show ¬ (true == false) = true by decide)]
      omega
    · rw [hset]
      exact shut_set hs hoL hr
    · intro j o' b hj hb hlj
      rw [hset] at hlj
      have hlj : (lf listed j || Nat.beq j i) = false := hlj
      rw [Bool.or_eq_false_iff] at hlj
      have hne : nmOf rs opsA.toList i o ≠ some b := by
        intro e
        have := hres.inj i j o o' b hoL hj e hb
        subst this
        rw [Nat.beq_refl] at hlj
        cases hlj.2
      rw [h3.G b (hmono b (hres.lo j o' b hj hb).2) hne]
      exact hfree j o' b hj hb hlj.1
    · rw [hset]
      have h6 := hrs.putW (h3.w (fun b hb => hfree i o b hoL hb hun)) h4 h5 hd
      have hK : (⟨frOf opsA.toList st tr (lf listed) opsA.size, hsOf opsA.toList st tr (lf listed) opsA.size⟩ : St).put o.dst v hs' = _ := hK
      rw [hK] at h6
      exact h6
theorem region_draw_wp {id : Nat} {S : Sit} {a : Act} {K : St → Prop} {Q : Exit → Act → World → Prop} (hm : E.P.follows .mixedOrders = true) (hT : TabAt E.P w0 A tab) (hC : CalSound E.P w0 A cal) (hcl : CloneSound E) (hD : TabDet tab) (hCD : CalDet cal)
    (rs : RS w0 A S nt st a) (h : acode E tab cal nt lt (.region id opsA true) i0 K Kx Kr st)
    (hQ : ∀ T st' a', Le S T → RS w0 A T nt st' a' → K st' → Q .normal a' T.w) : (Code.region id opsA true).wp E.P Q a S.w := by
  have hE := Ext.drawn S (S.w.drawn + 1)
  have main : ∀ (rsv : Option Nat) (st1 : St) (S1 : Sit), S1.w = S.w → Le S S1 → st1.fr = st.fr → RS w0 A S1 nt st1 a → ResOk E S rsv opsA.toList st1.hs → (∀ (i : Nat) o b, opsA.toList[i]? = some o → nmOf rsv opsA.toList i o = some b → S1.G b = resv) →
      adraw E tab cal nt rsv opsA.toList opsA.toList [] st1 (fun log st' => bif drawOk st1.hs.hn opsA.toList log then K st' else False) → (Code.region id opsA true).wp E.P Q a S.w := by
    intro rsv st1 S1 hw hle1 hfr rs1 hres hfree h
    obtain ⟨tr, hrun, h⟩ := adraw_run hD hCD rsv opsA.toList opsA.toList [] st1 _ h
    rw [List.nil_append] at h
    cases hok : drawOk st1.hs.hn opsA.toList (tr.map (·.1)) with
    | false => rw [hok] at h; exact h.elim
    | true =>
      rw [hok] at h
      have hE := Ext.drawn S1 (S1.w.drawn + 1)
      refine wp_region_any hm ?_
      rw [← hw]
      refine draw_wp (S0 := S) hT hC hcl hD hCD hrun hres hok (fun T a' hle hrs => hQ T _ a' hle hrs h) opsA.size _ { S1 with w := { S1.w with drawn := S1.w.drawn + 1 } } a (hle1.trans hE.le) (by simp) ?_ ?_ ?_ ?_
      · simp
      · intro j o _ hl
        unfold lf at hl
        rw [Array.getD_eq_getD_getElem?, Array.getElem?_replicate] at hl
        split at hl <;> cases hl
      · intro i o b hi hb _
        exact hfree i o b hi hb
      · have hl : ∀ k, lf (Array.replicate opsA.size false) k = false := by
          intro k
          unfold lf
          rw [Array.getD_eq_getD_getElem?, Array.getElem?_replicate]
          split <;> rfl
        have e1 : frOf opsA.toList st1 tr (lf (Array.replicate opsA.size false)) opsA.size = st1.fr := by
          funext t
          exact frOf_stop t 0 opsA.size (by omega) (fun k d _ _ _ _ => hl k)
        have e2 : hsOf opsA.toList st1 tr (lf (Array.replicate opsA.size false)) opsA.size = st1.hs := hsOf_stop 0 opsA.size (by omega) (fun k _ _ _ => hl k)
        rw [e1, e2]
        exact ⟨rs1.h.ext hE, rs1.size, rs1.defers, fun t => (rs1.fr t).mono hE.le⟩
  unfold acode at h
  cases hn : needR opsA.toList with
  | false =>
    rw [hn] at h
    exact main none st S rfl (.refl S) rfl rs (resOk_none E S _ _) (fun _ _ _ _ h => (by cases h)) h
  | true =>
    rw [hn] at h
    have hge := (resvH_ok (E := E) opsA.toList st.hs).1
    have hle : Le S (S.keepFree (resvH E opsA.toList st.hs).hn) := Le.keepFree S (by rw [rs.h.N]; exact hge)
    refine main (some st.hs.hn) { st with hs := resvH E opsA.toList st.hs } (S.keepFree (resvH E opsA.toList st.hs).hn) rfl hle rfl ⟨rs.h.keepFree, rs.size, rs.defers, fun t => (rs.fr t).mono hle⟩ (resOk_some rs.h.N) ?_ h
    intro i o b hi hb
    refine keepFree_ge S _ ?_
    exact ((resOk_some (E := E) (L := opsA.toList) rs.h.N).lo i o b hi hb).1
end
end Gm
