/- Regions. -/
import Derived.Test.YtfjhdboapcckpaaGreatDoorGmW3
import Derived.Orders
namespace Gm
open Go
structure RS (w0 : World) (A : Ow) (S : Sit) (nt : Nat) (st : St) (a : Act) : Prop where
  h : RH w0 A S st.hs
  size : nt ≤ a.tmps.size
  defers : a.defers = []
  fr : ∀ t, Rv S (st.fr t) (a.tmps.getD t undef)
section
variable {E : Env} {w0 : World} {A : Ow} {S : Sit} {tab : Tab} {cal : Callee} {nt : Nat} {st : St} {a : Act}
theorem RS.val (r : RS w0 A S nt st a) (x : Operand) : Rv S (oval st.fr x) (a.eval x) := by
  cases x with
  | tmp t => exact r.fr t
  | const v => exact vAV_ok v
  | global g => exact .top _
  | func f => exact .func f [] [] #[] #[] rfl rfl (fun i c v h => by simp at h) (fun i c v h => by simp at h)
theorem RS.putW {T : Sit} {hs' : HS} {dst : Option Nat} {av : AV} {v : Value} (r : RS w0 A S nt st a) (hle : LeW S T) (hh : RH w0 A T hs') (hv : Rv T av v) (hd : dstOk nt dst = true) :
    RS w0 A T nt (st.put dst av hs') (a.put dst v) := by
  cases dst with
  | none => exact ⟨hh, r.size, r.defers, fun t => (r.fr t).monoW hle⟩
  | some d =>
    refine ⟨hh, by simp [Act.put]; exact r.size, r.defers, fun t => ?_⟩
    have hd' : d < a.tmps.size := Nat.lt_of_lt_of_le (by simpa [dstOk, Nat.blt_eq] using hd) r.size
    show Rv T (upd st.fr d av t) ((a.tmps.setIfInBounds d v).getD t undef)
    by_cases e : t = d
    · subst e
      rw [upd_self]
      simp [Array.getD, hd', hv]
    · rw [upd_ne _ _ e]
      have := (r.fr t).monoW hle
      simp only [Array.getD_eq_getD_getElem?] at this ⊢
      rw [Array.getElem?_setIfInBounds_ne (fun h => e h.symm)]
      exact this
theorem RS.put {T : Sit} {hs' : HS} {dst : Option Nat} {av : AV} {v : Value} (r : RS w0 A S nt st a) (hle : Le S T) (hh : RH w0 A T hs') (hv : Rv T av v) (hd : dstOk nt dst = true) :
    RS w0 A T nt (st.put dst av hs') (a.put dst v) := r.putW hle.w hh hv hd
def Sit.fill (S : Sit) (b : Nat) (o : Obj) : Sit := { w := { S.w with heap := S.w.heap.push o }, F := S.F, G := upd S.G b ⟨some S.w.heap.size, 0, 0, 0⟩, N := S.N }
theorem fill_heap (S : Sit) (b : Nat) (o : Obj) (B : Nat) (h : B ≠ S.w.heap.size) : (S.fill b o).w.heap[B]? = S.w.heap[B]? := by
  show (S.w.heap.push o)[B]? = _
  rw [Array.getElem?_push, if_neg h]
theorem fill_heap_self (S : Sit) (b : Nat) (o : Obj) : (S.fill b o).w.heap[S.w.heap.size]? = some o := by
  show (S.w.heap.push o)[S.w.heap.size]? = _
  rw [Array.getElem?_push, if_pos rfl]
theorem LeN.fill (S : Sit) (b : Nat) (o : Obj) (hF : ∀ B o, S.F B o → B < S.w.heap.size) : LeN (some b) S (S.fill b o) where
  F := fun _ _ h => h
  cell := fun B k v h hc => by
    have := hF B k h
    rw [cell_at, fill_heap _ _ _ _ (by omega), ← cell_at]
    exact hc
  G := fun x _ hx => upd_ne _ _ (fun e => hx (by rw [e]))
  N := Nat.le_refl _
theorem RH.fill {hs : HS} {b : Nat} {o : Obj} (r : RH w0 A S hs) (hG : S.G b = resv) (hk : RB (S.fill b o) b (hs.hp b)) : RH w0 A (S.fill b o) hs where
  N := r.N
  dead := r.dead
  blks := fun x => by
    by_cases e : x = b
    · subst e; exact hk
    · refine RB.keepW ((LeN.fill S b o r.F).w (fun b' h => by cases h; exact hG)) (upd_ne _ _ e) ?_ (fun B o _ _ h => h) (r.blks x)
      intro B hd hB
      have := r.alive_lt hd hB
      exact fill_heap _ _ _ _ (by omega)
  inj := fun x c B hne hb hc hB hC => by
    have e1 : ∀ x, hs.hp x ≠ .dead → ((S.fill b o).G x).blk = some B → x ≠ b → B < S.w.heap.size := by
      intro x hx hxB hxn
      have : ((S.fill b o).G x) = S.G x := upd_ne _ _ hxn
      rw [this] at hxB
      exact r.alive_lt hx hxB
    have e2 : ((S.fill b o).G b).blk = some S.w.heap.size := by
      show (upd S.G b _ b).blk = _
      rw [upd_self]
    by_cases hbn : x = b
    · have hcn : c ≠ b := fun h => hne (hbn.trans h.symm)
      have := e1 c hc hC hcn
      subst hbn
      rw [e2] at hB
      cases hB
      omega
    · have h1 := e1 x hb hB hbn
      by_cases hcn : c = b
      · subst hcn
        rw [e2] at hC
        cases hC
        omega
      · have g1 : ((S.fill b o).G x) = S.G x := upd_ne _ _ hbn
        have g2 : ((S.fill b o).G c) = S.G c := upd_ne _ _ hcn
        rw [g1] at hB
        rw [g2] at hC
        exact r.inj x c B hne hb hc hB hC
  F := fun B k h => by
    have := r.F B k h
    show B < (S.w.heap.push _).size
    simp; omega
  os := r.os
  tape := r.tape
  output := r.output
  size := by
    have := r.size
    show _ ≤ (S.w.heap.push o).size
    simp; omega
  old := fun B hB hA => by
    rw [fill_heap _ _ _ _ (by have := r.size; omega)]
    exact r.old B hB hA
  own := fun x B hb hB => by
    by_cases hbn : x = b
    · subst hbn
      have e2 : ((S.fill x o).G x).blk = some S.w.heap.size := by
        show (upd S.G x _ x).blk = _
        rw [upd_self]
      rw [e2] at hB
      cases hB
      exact .inr r.size
    · have g1 : ((S.fill b o).G x) = S.G x := upd_ne _ _ hbn
      rw [g1] at hB
      exact r.own x B hb hB
  fo := r.fo
theorem fillS_ok {t : TypeId} {z : AV} {b : Nat} {hs : HS} (r : RH w0 A S hs) (hz : zeroC E t = some z) (hs1 : z.solid = true) (hb : hs.hp b = .cells z.cells) (hG : S.G b = resv) (hN : b < S.N) :
    ∃ v T, (Instr.alloc t true (.tuple #[])).run E.P S.w = Result.ok v T.w ∧ LeN (some b) S T ∧ RH w0 A T hs ∧ Rv T (.ptr b 0) v := by
  obtain ⟨zv, h1, h2⟩ := zero_ok hz
  have hr : Rv S z zv := by rw [h2]; exact vAV_ok _
  have hc := hr.cells hs1
  have hle := LeN.fill S b (.cells zv.cells t) r.F
  have hw := hle.w (fun b' h => by cases h; exact hG)
  refine ⟨.pointer (some (at_ S.w.heap.size 0)), S.fill b (.cells zv.cells t), ?_, hle, r.fill hG ?_, .ptr _ _ _ hN (by show (upd S.G b _ b).blk = _; rw [upd_self])⟩
  · simp [Instr.alloc, h1, newVar, newRow]
    exact ⟨rfl, rfl⟩
  · rw [hb]
    refine .inr ⟨S.w.heap.size, zv.cells, t, (0, 0), by show (upd S.G b _ b).blk = _; rw [upd_self], fill_heap_self _ _ _, hc.1.symm, fun o ho => by simp, ?_, ?_⟩
    · intro i a v ha hv
      exact (hc.2 i a v ha hv).monoW hw
    · intro o hF
      have := r.F _ o hF
      omega
def gval (ops : List Oper) (o : Oper) (fr : Nat → AV) : Option Bool :=
  match o.guard with
  | none => some true
  | some (j, want) => match (ops[j]?).bind (·.dst) with
    | some d => match fr d with
      | .bool b => some (b == want)
      | .tup [] => some false
      | _ => none
    | none => none
def Act1 (E : Env) (tab : Tab) (cal : Callee) (nt : Nat) (nm : Option Nat) (ops : List Oper) (o : Oper) (fr : Nat → AV) (hs : HS) (c : Nat) (K : AV → HS → Prop) : Prop :=
  dstOk nt o.dst = true ∧ ((gval ops o fr = some false ∧ c = 0 ∧ K (.tup []) hs) ∨ (gval ops o fr = some true ∧ c = codeN E tab nm o (valsOf o fr) hs ∧ aopN E tab cal nm o (valsOf o fr) hs K))
theorem upd_eq_self {α : Type} {f : Nat → α} {k : Nat} {v : α} (h : f k = v) : upd f k v = f := by rw [← h]; exact upd_same f k
theorem aop1_act {nm : Option Nat} {ops : List Oper} {o : Oper} {K : Nat → St → Prop} (h : aop1 E tab cal nt nm ops o st K) :
    ∃ c, Act1 E tab cal nt nm ops o st.fr st.hs c (fun v hs => K c (st.put o.dst v hs)) := by
  unfold aop1 at h
  rw [cond_eq_ite] at h
  split at h
  · rename_i hd
    unfold guardOf at h
    unfold Act1 gval
    cases hg : o.guard with
    | none =>
      rw [hg] at h
      exact ⟨_, hd, .inr ⟨rfl, rfl, h⟩⟩
    | some jw =>
      obtain ⟨j, want⟩ := jw
      rw [hg] at h
      simp only at h ⊢
      cases hdst : (ops[j]?).bind (·.dst) with
      | none => rw [hdst] at h; exact h.elim
      | some d =>
        rw [hdst] at h
        simp only at h ⊢
        generalize hf : st.fr d = x at h
        cases x <;> first | exact h.elim | skip
        · rename_i b
          cases want <;> cases b
          · have h : aopN E tab cal nm o (valsOf o (upd st.fr d (.bool false))) st.hs fun v hs => K (codeN E tab nm o (valsOf o (upd st.fr d (.bool false))) st.hs) ({ st with fr := upd st.fr d (.bool false) }.put o.dst v hs) := h
            rw [upd_eq_self hf] at h
            exact ⟨_, hd, .inr ⟨rfl, rfl, h⟩⟩
          · have h : K 0 ({ st with fr := upd st.fr d (.bool true) }.put o.dst (.tup []) st.hs) := h
            rw [upd_eq_self hf] at h
            exact ⟨0, hd, .inl ⟨rfl, rfl, h⟩⟩
          · have h : K 0 ({ st with fr := upd st.fr d (.bool false) }.put o.dst (.tup []) st.hs) := h
            rw [upd_eq_self hf] at h
            exact ⟨0, hd, .inl ⟨rfl, rfl, h⟩⟩
          · have h : aopN E tab cal nm o (valsOf o (upd st.fr d (.bool true))) st.hs fun v hs => K (codeN E tab nm o (valsOf o (upd st.fr d (.bool true))) st.hs) ({ st with fr := upd st.fr d (.bool true) }.put o.dst v hs) := h
            rw [upd_eq_self hf] at h
            exact ⟨_, hd, .inr ⟨rfl, rfl, h⟩⟩
        · rename_i cs
          cases cs with
          | nil => exact ⟨0, hd, .inl ⟨rfl, rfl, h⟩⟩
          | cons _ _ => exact h.elim
  · exact h.elim
theorem act_wp {nm : Option Nat} {opsA : Array Oper} {o : Oper} {i c : Nat} {K : AV → HS → Prop} {Q : Exit → Act → World → Prop} {next : Act → World → Prop} (hT : TabAt E.P w0 A tab) (hC : CalSound E.P w0 A cal) (hcl : CloneSound E)
    (r : RS w0 A S nt st a) (hi : opsA[i]? = some o) (h : Act1 E tab cal nt nm opsA.toList o st.fr st.hs c K)
    (hres : ∀ b, nm = some b → S.G b = resv ∧ b < S.N ∧ ∀ t z, o.op = .alloc t → zeroC E t = some z → c = 3 * (b + 1) → st.hs.hp b = .cells z.cells)
    (hn : ∀ T v hs' u, LeN nm S T → RH w0 A T hs' → Rv T v u → K v hs' → dstOk nt o.dst = true → next (a.put o.dst u) T.w) : wpOp E.P opsA Q i next a S.w := by
  obtain ⟨hd, h⟩ := h
  unfold wpOp
  rw [hi]
  simp only
  have hy : ∀ j d, (opsA[j]?).bind (·.dst) = some d → (∀ b, st.fr d = .bool b → yielded opsA a.tmps j = some b) ∧ (st.fr d = .tup [] → yielded opsA a.tmps j = none) := by
    intro j d hjd
    have hr := r.fr d
    unfold yielded
    rw [hjd]
    simp only [Option.bind_some]
    constructor
    · intro b hb
      rw [hb] at hr
      have hv := hr.bool_inv
      rw [Array.getD_eq_getD_getElem?] at hv
      cases hx : a.tmps[d]? with
      | none => rw [hx] at hv; cases hv
      | some v => rw [hx] at hv; simp at hv; subst hv; rfl
    · intro hb
      rw [hb] at hr
      rw [Array.getD_eq_getD_getElem?] at hr
      cases hx : a.tmps[d]? with
      | none => rfl
      | some v =>
        rw [hx] at hr
        simp at hr
        obtain ⟨vs, rfl, _⟩ := hr.tup_inv
        rfl
  have hw : ∀ b, gval opsA.toList o st.fr = some b → Region.wanted o (yielded opsA a.tmps) = b := by
    intro b hb
    unfold gval at hb
    unfold Region.wanted
    cases hg : o.guard with
    | none => rw [hg] at hb; simpa using hb
    | some jw =>
      obtain ⟨j, want⟩ := jw
      rw [hg] at hb
      simp only at hb ⊢
      cases hdst : (opsA.toList[j]?).bind (·.dst) with
      | none => rw [hdst] at hb; cases hb
      | some d =>
        rw [hdst] at hb
        simp only at hb
        have hdst' : (opsA[j]?).bind (·.dst) = some d := by rw [← Array.getElem?_toList]; exact hdst
        generalize hf : st.fr d = x at hb
        cases x <;> first | (cases hb; done) | skip
        · rename_i q
          rw [(hy j d hdst').1 q hf]
          simp only [Option.some.injEq] at hb
          rw [← hb]
          cases q <;> cases want <;> rfl
        · rename_i cs
          cases cs with
          | nil =>
            rw [(hy j d hdst').2 hf]
            simp only [Option.some.injEq] at hb
            rw [← hb]
            rfl
          | cons _ _ => cases hb
  rcases h with ⟨hg, rfl, hK⟩ | ⟨hg, rfl, hK⟩
  · rw [hw false hg]
    simp only [Bool.false_eq_true, if_false]
    exact hn S (.tup []) st.hs undef ((Le.refl S).n nm) r.h (.tup [] #[] rfl (fun i c v h => by simp at h)) hK hd
  · rw [hw true hg]
    simp only [if_true]
    left
    cases nm with
    | some b =>
      obtain ⟨hG, hN, hb⟩ := hres b rfl
      obtain ⟨dst, op, type, pos, after, guard⟩ := o
      unfold aopN at hK
      dsimp only at hK
      split at hK
      · rename_i t
        split at hK
        · rename_i z hz
          split at hK
          · rename_i hs1
            obtain ⟨v, T, h1, h2, h3, h4⟩ := fillS_ok (E := E) r.h hz hs1 (hb t z rfl hz rfl) hG hN
            unfold Oper.wp
            have h5 : ((execOp a.eval ⟨dst, .alloc t, type, pos, after, guard⟩).run E.P S.w) = Result.ok (.value v) T.w := by
              show (do pure (Next.value (← Instr.alloc t true (.tuple #[])))).run E.P S.w = _
              simp [h1]
            rw [h5, Oper.upon_value]
            exact hn T _ _ v h2 h3 h4 hK hd
          · exact hK.elim
        · exact hK.elim
      · exact hK.elim
    | none =>
    have hK : aop E tab cal o (valsOf o st.fr) st.hs K := hK
    have key := aop_sound r.h hT hC hcl r.val hK
    unfold Oper.wp
    rcases key with ⟨v, av, T, hs', h1, h2, h3, h4, h5⟩ | ⟨f, args, h1, h2⟩
    · rcases h1 with h1 | ⟨h1, rfl⟩
      · rw [h1, Oper.upon_value]
        exact hn T av hs' v (h2.n none) h3 h4 h5 hd
      · rw [h1, Oper.upon_skip]
        exact hn T av hs' undef (h2.n none) h3 h4 h5 hd
    · rw [h1, Oper.upon_enter]
      refine h2.mono ?_
      rintro e w' ⟨v, av, T, hs', rfl, rfl, h3, h4, h5, h6⟩
      exact hn T av hs' v (h3.n none) h4 h5 h6 hd
theorem aseq_wp {opsA : Array Oper} {Q : Exit → Act → World → Prop} (hT : TabAt E.P w0 A tab) (hC : CalSound E.P w0 A cal) (hcl : CloneSound E) : ∀ (r : List Oper) (i : Nat) (S : Sit) (st : St) (a : Act) (K : St → Prop),
    opsA.toList.drop i = r → RS w0 A S nt st a → aseq E tab cal nt opsA.toList r st K → (∀ T st' a', Le S T → RS w0 A T nt st' a' → K st' → Q .normal a' T.w) →
    wpOps E.P opsA Q (List.range' i r.length) a S.w
  | [], i, S, st, a, K, _, rs, h, hQ => by
    simp only [List.length_nil, List.range'_zero, wpOps]
    exact hQ S st a (.refl S) rs h
  | o :: r, i, S, st, a, K, hr, rs, h, hQ => by
    have hi : opsA[i]? = some o := by
      have : (opsA.toList.drop i)[0]? = some o := by rw [hr]; rfl
      rw [List.getElem?_drop] at this
      simpa using this
    have hr' : opsA.toList.drop (i + 1) = r := by
      rw [show i + 1 = i + 1 from rfl, ← List.drop_drop, hr]; rfl
    simp only [List.length_cons, List.range'_succ]
    rw [wpOps_cons]
    obtain ⟨c, hact⟩ := aop1_act h
    refine act_wp hT hC hcl rs hi hact (fun b h => by cases h) ?_
    intro T v hs' u h1 h2 h3 hK hd
    have h1 := h1.le'
    exact aseq_wp hT hC hcl r (i + 1) T _ _ K hr' (rs.put h1 h2 h3 hd) hK (fun U st' a' h4 h5 h6 => hQ U st' a' (h1.trans h4) h5 h6)
end
end Gm

namespace Gm
open Go
section
variable {E : Env} {tab : Tab} {cal : Callee} {nt : Nat}
inductive Run (E : Env) (tab : Tab) (cal : Callee) (nt : Nat) (rs : Option Nat) (L : List Oper) : Nat → List Oper → St → List (Nat × AV × HS) → Prop
  | nil (i st) : Run E tab cal nt rs L i [] st []
  | cons (i o r st c v h tr) : Act1 E tab cal nt (nmOf rs L i o) L o st.fr st.hs c (fun v' h' => v' = v ∧ h' = h) → st.hs.hn ≤ h.hn → Run E tab cal nt rs L (i + 1) r (st.put o.dst v h) tr → Run E tab cal nt rs L i (o :: r) st ((c, v, h) :: tr)
def lastSt : List Oper → St → List (Nat × AV × HS) → St
  | o :: r, st, x :: tr => lastSt r (st.put o.dst x.2.1 x.2.2) tr
  | _, st, _ => st
theorem act_det (hD : TabDet tab) (hCD : CalDet cal) {nm : Option Nat} {L : List Oper} {o : Oper} {fr : Nat → AV} {hs : HS} {c : Nat} {K : AV → HS → Prop} (h : Act1 E tab cal nt nm L o fr hs c K) :
    ∃ v h', K v h' ∧ Act1 E tab cal nt nm L o fr hs c (fun v' h'' => v' = v ∧ h'' = h') := by
  obtain ⟨hd, h⟩ := h
  rcases h with ⟨hg, hc, hK⟩ | ⟨hg, hc, hK⟩
  · exact ⟨_, _, hK, hd, .inl ⟨hg, hc, rfl, rfl⟩⟩
  · obtain ⟨v, h', h1, h2⟩ := aopN_det hD hCD nm o _ hs K hK
    exact ⟨v, h', h1, hd, .inr ⟨hg, hc, h2 _ ⟨rfl, rfl⟩⟩⟩
theorem adraw_run (hD : TabDet tab) (hCD : CalDet cal) (rs : Option Nat) (L : List Oper) : ∀ (r : List Oper) (log : List Nat) (st : St) (K : List Nat → St → Prop), adraw E tab cal nt rs L r log st K →
    ∃ tr, Run E tab cal nt rs L log.length r st tr ∧ K (log ++ tr.map (·.1)) (lastSt r st tr)
  | [], log, st, K, h => ⟨[], .nil _ st, by
    have h : K log st := h
    simpa [lastSt] using h⟩
  | o :: r, log, st, K, h => by
    obtain ⟨c, hact⟩ := aop1_act h
    obtain ⟨v, h', h1, h2⟩ := act_det hD hCD hact
    have ep : ∀ d, (St.put st d v h').hs = h' := fun d => by cases d <;> rfl
    rw [ep] at h1
    cases hb : Nat.ble st.hs.hn h'.hn with
    | false => rw [hb] at h1; exact h1.elim
    | true =>
      rw [hb] at h1
      obtain ⟨tr, h3, h4⟩ := adraw_run hD hCD rs L r (log ++ [c]) _ K h1
      rw [List.length_append, List.length_singleton] at h3
      refine ⟨(c, v, h') :: tr, .cons _ _ _ _ _ _ _ _ h2 (Nat.le_of_ble_eq_true hb) h3, ?_⟩
      simpa [lastSt] using h4
def cAt (tr : List (Nat × AV × HS)) (i : Nat) : Nat := ((tr[i]?).map (·.1)).getD 2
def vAt (tr : List (Nat × AV × HS)) (i : Nat) : AV := ((tr[i]?).map (·.2.1)).getD .top
def hAt (tr : List (Nat × AV × HS)) (i : Nat) : HS := ((tr[i]?).map (·.2.2)).getD hs0
def stAt (L : List Oper) (st : St) (tr : List (Nat × AV × HS)) : Nat → St
  | 0 => st
  | i + 1 => match L[i]? with
    | some o => (stAt L st tr i).put o.dst (vAt tr i) (hAt tr i)
    | none => stAt L st tr i
theorem run_length {rs : Option Nat} {L : List Oper} : ∀ {i : Nat} {r : List Oper} {st : St} {tr : List (Nat × AV × HS)}, Run E tab cal nt rs L i r st tr → tr.length = r.length
  | _, _, _, _, .nil _ _ => rfl
  | _, _, _, _, .cons _ _ _ _ _ _ _ _ _ _ h => by simp [run_length h]
theorem run_at {rs : Option Nat} {L : List Oper} {st : St} {tr : List (Nat × AV × HS)} (h : Run E tab cal nt rs L 0 L st tr) : ∀ i, i ≤ L.length → Run E tab cal nt rs L i (L.drop i) (stAt L st tr i) (tr.drop i) ∧ lastSt (L.drop i) (stAt L st tr i) (tr.drop i) = lastSt L st tr
  | 0, _ => ⟨by simpa [stAt] using h, by simp [stAt]⟩
  | i + 1, hi => by
    obtain ⟨h1, h2⟩ := run_at h i (by omega)
    have hl := run_length h
    have e1 : L.drop i = L[i] :: L.drop (i + 1) := (List.drop_eq_getElem_cons (by omega))
    have e2 : tr.drop i = tr[i] :: tr.drop (i + 1) := (List.drop_eq_getElem_cons (by omega))
    have e3 : stAt L st tr (i + 1) = (stAt L st tr i).put L[i].dst tr[i].2.1 tr[i].2.2 := by
      have : L[i]? = some L[i] := List.getElem?_eq_getElem (by omega)
      have e : tr[i]? = some tr[i] := List.getElem?_eq_getElem (by omega)
      simp [stAt, this, vAt, hAt, e]
    rw [e1, e2] at h1 h2
    rw [e3]
    generalize tr[i] = x at h1 h2 ⊢
    cases h1 with
    | cons _ _ _ _ c v h' _ ha hn hr => exact ⟨hr, h2⟩
theorem run_act {rs : Option Nat} {L : List Oper} {st : St} {tr : List (Nat × AV × HS)} (h : Run E tab cal nt rs L 0 L st tr) {i : Nat} {o : Oper} (hi : L[i]? = some o) :
    Act1 E tab cal nt (nmOf rs L i o) L o (stAt L st tr i).fr (stAt L st tr i).hs (cAt tr i) (fun v' h' => v' = vAt tr i ∧ h' = hAt tr i) := by
  have hlt := (List.getElem?_eq_some_iff.1 hi).1
  have hl := run_length h
  obtain ⟨h1, _⟩ := run_at h i (by omega)
  have e1 : L.drop i = o :: L.drop (i + 1) := by
    rw [List.drop_eq_getElem_cons hlt]
    rw [List.getElem?_eq_getElem hlt] at hi
    cases hi; rfl
  have e2 : tr.drop i = tr[i] :: tr.drop (i + 1) := (List.drop_eq_getElem_cons (by omega))
  rw [e1, e2] at h1
  have e : tr[i]? = some tr[i] := List.getElem?_eq_getElem (by omega)
  generalize tr[i] = x at h1 e
  cases h1 with
  | cons _ _ _ _ c v h' _ ha hn hr => simpa [cAt, vAt, hAt, e] using ha
theorem run_hn {rs : Option Nat} {L : List Oper} {st : St} {tr : List (Nat × AV × HS)} (h : Run E tab cal nt rs L 0 L st tr) {i : Nat} (hi : i < L.length) : (stAt L st tr i).hs.hn ≤ (hAt tr i).hn := by
  have hl := run_length h
  obtain ⟨h1, _⟩ := run_at h i (by omega)
  have e1 : L.drop i = L[i] :: L.drop (i + 1) := List.drop_eq_getElem_cons hi
  have e2 : tr.drop i = tr[i] :: tr.drop (i + 1) := (List.drop_eq_getElem_cons (by omega))
  rw [e1, e2] at h1
  have e : tr[i]? = some tr[i] := List.getElem?_eq_getElem (by omega)
  generalize tr[i] = x at h1 e
  cases h1 with
  | cons _ _ _ _ c v h' _ ha hn hr => simpa [hAt, e] using hn
theorem stAt_hs {L : List Oper} {st : St} {tr : List (Nat × AV × HS)} {i : Nat} (hi : i < L.length) : (stAt L st tr (i + 1)).hs = hAt tr i := by
  have e : L[i]? = some L[i] := List.getElem?_eq_getElem hi
  simp only [stAt, e]
  cases L[i].dst <;> rfl
theorem tier_le (o : Oper) (vs : List AV) : tier E tab o vs ≤ 2 := by
  unfold tier
  repeat' split
  all_goals first | omega | (rw [cond_eq_ite]; split <;> omega) | (cases nilConst _ <;> simp <;> (repeat' split) <;> omega)
def Grow (h h2 : HS) : Prop := h.hn ≤ h2.hn ∧ ∀ b, b < h.hn → h2.hp b = h.hp b
theorem Grow.refl (h : HS) : Grow h h := ⟨Nat.le_refl _, fun _ _ => rfl⟩
theorem Grow.trans {a b c : HS} (h : Grow a b) (h2 : Grow b c) : Grow a c := ⟨Nat.le_trans h.1 h2.1, fun x hx => by rw [h2.2 x (by have := h.1; omega), h.2 x hx]⟩
theorem Grow.push (h : HS) (k : Blk) : Grow h (h.push k) := ⟨Nat.le_succ _, fun b hb => upd_ne _ _ (by omega)⟩
theorem a1_same {o : Oper} {vs : List AV} {hs hs2 : HS} {K : AV → Prop} (e : hs2.hp (blk1 vs) = hs.hp (blk1 vs)) (h : a1 E o vs hs K) : a1 E o vs hs2 K := by
  obtain ⟨dst, op, type, pos, after, guard⟩ := o
  unfold a1 at h
  dsimp only at h
  split at h
  · simp only [blk1] at e
    simp only [a1, e]; exact h
  · simp only [blk1] at e
    simp only [a1, e]; exact h
  · simp only [blk1] at e
    simp only [a1, e]; exact h
  · simp only [blk1] at e
    simp only [a1, e]; exact h
  · simp only [blk1] at e
    simp only [a1, e]; exact h
  · exact h.elim
theorem code0 {o : Oper} {vs : List AV} {hs : HS} (h : tier E tab o vs = 0) : code E tab o vs hs = 0 := by unfold code; simp only [h]
theorem code1 {o : Oper} {vs : List AV} {hs : HS} (h : tier E tab o vs = 1) : code E tab o vs hs = 1 + 3 * blk1 vs := by unfold code; simp only [h]
theorem code2 {o : Oper} {vs : List AV} {hs : HS} (h : tier E tab o vs = 2) : code E tab o vs hs = 2 + 3 * tch E tab o vs hs := by unfold code; simp only [h]
theorem aop_t0 {o : Oper} {vs : List AV} {hs : HS} {K : AV → HS → Prop} (h : tier E tab o vs = 0) : aop E tab cal o vs hs K = bif isCp E o vs then acp E o vs fun v => K v hs else a0 E tab o vs fun v => K v hs := by unfold aop; simp only [h]
theorem aop_t1 {o : Oper} {vs : List AV} {hs : HS} {K : AV → HS → Prop} (h : tier E tab o vs = 1) : aop E tab cal o vs hs K = bif Nat.blt (blk1 vs) hs.hn then a1 E o vs hs fun v => K v hs else False := by unfold aop; simp only [h]
theorem aop_t2 {o : Oper} {vs : List AV} {hs : HS} {K : AV → HS → Prop} (h : tier E tab o vs = 2) : aop E tab cal o vs hs K = a2 E tab cal o vs hs K := by unfold aop; simp only [h]
theorem tier_cases (o : Oper) (vs : List AV) : tier E tab o vs = 0 ∨ tier E tab o vs = 1 ∨ tier E tab o vs = 2 := by
  have := tier_le (E := E) (tab := tab) o vs
  omega
theorem code_mod (o : Oper) (vs : List AV) (hs : HS) : code E tab o vs hs % 3 = tier E tab o vs := by
  rcases tier_cases (E := E) (tab := tab) o vs with e | e | e
  · rw [code0 e, e]
  · rw [code1 e, e]; omega
  · rw [code2 e, e]; omega
theorem aopR_any {b : Nat} {o : Oper} {vs : List AV} {hs : HS} {K : AV → HS → Prop} (h : aopN E tab cal (some b) o vs hs K) :
    ∃ v h', K v h' ∧ v = .ptr b 0 ∧ h' = hs ∧ ∀ (hs2 : HS) (K' : AV → HS → Prop), K' v hs2 → aopN E tab cal (some b) o vs hs2 K' := by
  unfold aopN at h ⊢
  dsimp only at h ⊢
  split at h
  · split at h
    · split at h
      · rename_i t z hz hs1
        exact ⟨_, _, h, rfl, rfl, fun hs2 K' hk => by simp only [hs1, if_true]; exact hk⟩
      · exact h.elim
    · exact h.elim
  · exact h.elim
theorem act_congr (hD : TabDet tab) (_ : CalDet cal) {nm : Option Nat} {L : List Oper} {o : Oper} {fr fr' : Nat → AV} {hs hs2 h' : HS} {c : Nat} {v : AV} (h : Act1 E tab cal nt nm L o fr hs c (fun v' h'' => v' = v ∧ h'' = h'))
    (hf : ∀ t, t ∈ looks L o → fr' t = fr t) (hh1 : c % 3 = 1 → c / 3 < hs.hn → hs2.hp (c / 3) = hs.hp (c / 3) ∧ c / 3 < hs2.hn) (hh2 : c % 3 = 2 → hs2 = hs) : Act1 E tab cal nt nm L o fr' hs2 c (fun v' h'' => v' = v ∧ h'' = if c % 3 = 2 then h' else hs2) := by
  obtain ⟨hd, h⟩ := h
  have hv : valsOf o fr' = valsOf o fr := by
    unfold valsOf
    apply List.map_congr_left
    intro x hx
    cases x with
    | tmp t =>
      refine hf t ?_
      unfold looks
      refine List.mem_append_left _ (List.mem_filterMap.2 ⟨.tmp t, hx, rfl⟩)
    | _ => rfl
  have hg : gval L o fr' = gval L o fr := by
    unfold gval
    cases hgo : o.guard with
    | none => rfl
    | some jw =>
      obtain ⟨j, want⟩ := jw
      simp only
      cases hdst : (L[j]?).bind (·.dst) with
      | none => rfl
      | some d =>
        simp only
        rw [hf d (by unfold looks; rw [hgo]; simp only [hdst]; simp)]
  refine ⟨hd, ?_⟩
  rw [hg, hv]
  rcases h with ⟨h1, rfl, rfl, _⟩ | ⟨h1, hc, h2⟩
  · exact .inl ⟨h1, rfl, rfl, by simp⟩
  · cases nm with
    | some b =>
      obtain ⟨v1, h3, ⟨rfl, _⟩, _, _, h5⟩ := aopR_any h2
      have hc : c = 3 * (b + 1) := hc
      exact .inr ⟨h1, hc, h5 _ _ ⟨rfl, by rw [if_neg (by omega)]⟩⟩
    | none =>
    have hc : c = code E tab o (valsOf o fr) hs := hc
    have h2 : aop E tab cal o (valsOf o fr) hs (fun v' h'' => v' = v ∧ h'' = h') := h2
    suffices key : gval L o fr = some true ∧ c = code E tab o (valsOf o fr) hs2 ∧ aop E tab cal o (valsOf o fr) hs2 (fun v' h'' => v' = v ∧ h'' = if c % 3 = 2 then h' else hs2) from .inr key
    have ht := code_mod (E := E) (tab := tab) o (valsOf o fr) hs
    rw [← hc] at ht
    rcases tier_cases (E := E) (tab := tab) o (valsOf o fr) with e0 | e0 | e0
    · have hc0 : c = 0 := by rw [hc, code0 e0]
      subst hc0
      rw [aop_t0 e0] at h2
      refine ⟨h1, (code0 e0).symm, ?_⟩
      rw [aop_t0 e0]
      cases hb : isCp E o (valsOf o fr) with
      | false =>
        rw [hb] at h2
        obtain ⟨v1, ⟨rfl, _⟩, h4⟩ := a0_det hD o (valsOf o fr) _ h2
        exact h4 _ ⟨rfl, by simp⟩
      | true =>
        rw [hb] at h2
        obtain ⟨v1, ⟨rfl, _⟩, h4⟩ := acp_det (E := E) o (valsOf o fr) (fun v1 => v1 = v ∧ hs = h') h2
        simp only [cond_true]
        exact h4 _ ⟨rfl, by simp⟩
    · have hc1 : c = 1 + 3 * blk1 (valsOf o fr) := by rw [hc, code1 e0]
      have hx : c / 3 = blk1 (valsOf o fr) := by omega
      have hm : c % 3 = 1 := by omega
      rw [aop_t1 e0] at h2
      refine ⟨h1, by rw [code1 e0]; exact hc1, ?_⟩
      rw [aop_t1 e0]
      cases hb : Nat.blt (blk1 (valsOf o fr)) hs.hn with
      | false => rw [hb] at h2; exact h2.elim
      | true =>
        rw [hb] at h2
        have hlt : blk1 (valsOf o fr) < hs.hn := by simpa [Nat.blt_eq] using hb
        obtain ⟨e2, e3⟩ := hh1 hm (by rw [hx]; exact hlt)
        rw [hx] at e2 e3
        have hb2 : Nat.blt (blk1 (valsOf o fr)) hs2.hn = true := by rw [Nat.blt_eq]; exact e3
        rw [hb2]
        obtain ⟨v1, ⟨rfl, _⟩, h4⟩ := a1_det o (valsOf o fr) _ _ h2
        exact a1_same e2 (h4 _ ⟨rfl, by simp [hm]⟩)
    · have hc2 : c % 3 = 2 := by omega
      have e := hh2 hc2
      subst e
      refine ⟨h1, hc, ?_⟩
      simp only [hc2, if_true]; exact h2
theorem act_low (hD : TabDet tab) (_ : CalDet cal) {nm : Option Nat} {L : List Oper} {o : Oper} {fr : Nat → AV} {hs h' : HS} {c : Nat} {v : AV} (h : Act1 E tab cal nt nm L o fr hs c (fun v' h'' => v' = v ∧ h'' = h')) (hc : c % 3 ≠ 2) : h' = hs := by
  obtain ⟨_, h⟩ := h
  rcases h with ⟨_, _, _, h⟩ | ⟨_, hc', h2⟩
  · exact h.symm
  · cases nm with
    | some b =>
      obtain ⟨v1, h3, ⟨_, rfl⟩, _, e, _⟩ := aopR_any h2
      exact e
    | none =>
    have hc' : c = code E tab o (valsOf o fr) hs := hc'
    have h2 : aop E tab cal o (valsOf o fr) hs (fun v' h'' => v' = v ∧ h'' = h') := h2
    have ht := code_mod (E := E) (tab := tab) o (valsOf o fr) hs
    rw [← hc'] at ht
    rcases tier_cases (E := E) (tab := tab) o (valsOf o fr) with e0 | e0 | e0
    · rw [aop_t0 e0] at h2
      cases hb : isCp E o (valsOf o fr) with
      | false =>
        rw [hb] at h2
        obtain ⟨v1, ⟨_, h3⟩, _⟩ := a0_det hD o (valsOf o fr) _ h2
        exact h3.symm
      | true =>
        rw [hb] at h2
        obtain ⟨v1, ⟨_, h3⟩, _⟩ := acp_det (E := E) o (valsOf o fr) (fun v1 => v1 = v ∧ hs = h') h2
        exact h3.symm
    · rw [aop_t1 e0] at h2
      cases hb : Nat.blt (blk1 (valsOf o fr)) hs.hn with
      | false => rw [hb] at h2; exact h2.elim
      | true =>
        rw [hb] at h2
        obtain ⟨v1, ⟨_, h3⟩, _⟩ := a1_det o (valsOf o fr) _ _ h2
        exact h3.symm
    · omega
structure CalGood (E : Env) (cal : Callee) : Prop where
  det : CalDet cal
  keep : ∀ f, E.ro f = true → ∀ args hs v h', cal f args hs (fun v' h'' => v' = v ∧ h'' = h') → Grow hs h'
def Keeps (x : Nat) (h h2 : HS) : Prop := h.hn ≤ h2.hn ∧ ∀ b, b < h.hn → b + 1 ≠ x → h2.hp b = h.hp b
theorem Keeps.push (x : Nat) (h : HS) (k : Blk) : Keeps x h (h.push k) := ⟨Nat.le_succ _, fun b hb _ => upd_ne _ _ (by omega)⟩
theorem Keeps.set (h : HS) (b : Nat) (k : Blk) : Keeps (b + 1) h { h with hp := upd h.hp b k } := ⟨Nat.le_refl _, fun y _ hn => upd_ne _ _ (by omega)⟩
theorem Keeps.setPush (h : HS) (b : Nat) (k k2 : Blk) : Keeps (b + 1) h ({ h with hp := upd h.hp b k }.push k2) :=
  ⟨Nat.le_succ _, fun y hy hn => by
    show upd (upd h.hp b k) h.hn k2 y = h.hp y
    rw [upd_ne _ _ (by omega), upd_ne _ _ (by omega)]⟩
theorem aapp_keeps {t : Ty} {w : Nat} {base src : AV} {hs h' : HS} {v : AV} (h : aapp t w base src hs (fun v' h'' => v' = v ∧ h'' = h')) : Keeps (match base with | .slr b => b + 1 | _ => hs.hn + 1) hs h' := by
  unfold aapp at h
  split at h
  · exact h.elim
  · rename_i ys hys
    split at h
    · rw [cond_eq_ite] at h
      split at h
      · obtain ⟨_, rfl⟩ := h; exact Keeps.push _ _ _
      · exact h.elim
    · rw [cond_eq_ite] at h
      split at h
      · obtain ⟨_, rfl⟩ := h; exact Keeps.push _ _ _
      · exact h.elim
    · split at h
      · rw [cond_eq_ite] at h
        split at h
        · obtain ⟨_, rfl⟩ := h; exact ⟨Nat.le_refl _, fun _ _ _ => rfl⟩
        · rw [cond_eq_ite] at h
          split at h
          · obtain ⟨_, rfl⟩ := h; exact Keeps.push _ _ _
          · exact h.elim
      · exact h.elim
    · split at h
      · split at h
        · rw [cond_eq_ite] at h
          split at h
          · obtain ⟨_, rfl⟩ := h; exact Keeps.push _ _ _
          · exact h.elim
        · exact h.elim
      · exact h.elim
    · split at h
      · split at h
        · split at h
          · rw [cond_eq_ite] at h
            split at h
            · exact h.elim
            · rw [cond_eq_ite] at h
              split at h
              · obtain ⟨_, rfl⟩ := h; exact Keeps.setPush _ _ _ _
              · exact h.elim
          · rw [cond_eq_ite] at h
            split at h
            · obtain ⟨_, rfl⟩ := h; exact Keeps.setPush _ _ _ _
            · exact h.elim
        · exact h.elim
      · exact h.elim
    · exact h.elim
theorem sliceB_some {n : Nat} {l h m : Option AV} {K : Nat → Nat → Bool → Prop} (hk : sliceB n l h m K) : ∃ a b c, K a b c := by
  unfold sliceB at hk
  repeat' split at hk
  all_goals first
    | exact hk.elim
    | exact ⟨_, _, _, hk⟩
    | (rw [cond_eq_ite] at hk; split at hk <;> first | exact hk.elim | exact ⟨_, _, _, hk⟩)
theorem aslice_keeps {E : Env} {t : TypeId} {x : AV} {l h m : Option AV} {K : AV → Prop} (hk : aslice E t x l h m K) : ∃ v, K v := by
  unfold aslice at hk
  repeat' split at hk
  all_goals first
    | exact hk.elim
    | (obtain ⟨_, _, _, hk⟩ := sliceB_some hk; exact ⟨_, hk⟩)
theorem a2_keeps (hD : TabDet tab) (hG : CalGood E cal) {o : Oper} {vs : List AV} {hs h' : HS} {v : AV} (h : a2 E tab cal o vs hs (fun v' h'' => v' = v ∧ h'' = h')) (h0 : tch E tab o vs hs ≠ 0) : Keeps (tch E tab o vs hs) hs h' := by
  obtain ⟨dst, op, type, pos, after, guard⟩ := o
  unfold a2 at h
  dsimp only at h
  split at h
  · split at h
    · split at h
      · obtain ⟨_, rfl⟩ := h; exact Keeps.push _ _ _
      · exact h.elim
    · exact h.elim
  · split at h
    · obtain ⟨_, rfl⟩ := h; exact Keeps.push _ _ _
    · exact h.elim
  · exact absurd rfl h0
  · exact absurd rfl h0
  · split at h
    · split at h
      · obtain ⟨_, rfl⟩ := h; exact Keeps.set _ _ _
      · exact h.elim
    · exact h.elim
  · split at h
    · split at h
      · split at h
        · obtain ⟨_, rfl⟩ := h; exact Keeps.set _ _ _
        · exact h.elim
      · exact h.elim
    · exact h.elim
  · exact absurd rfl h0
  · exact absurd rfl h0
  · split at h
    · obtain ⟨v1, _, rfl⟩ := aslice_keeps h
      exact Keeps.set _ _ _
    · exact h.elim
  · rename_i c vs
    split at h
    · rename_i base src hc
      split at h
      · split at h
        · split at h
          · split at h
            · split at h
              · have := aapp_keeps h
                unfold tch
                simp only [hc]
                cases base <;> exact this
              · exact h.elim
            · exact h.elim
          · exact h.elim
        · exact h.elim
      · exact h.elim
    · rename_i f p q args hc
      have et : tch E tab ⟨dst, .call vs, type, pos, after, guard⟩ (.func f p q :: args) hs = match tabGet tab f with
          | some _ => (match (p ++ (args ++ q)).flatMap slrs with | [b] => b + 1 | _ => 0)
          | none => (match E.clone f with | some _ => hs.hn + 1 | none => bif E.ro f then hs.hn + 1 else 0) := by
        unfold tch
        simp only [hc]
        rfl
      rw [et] at h0 ⊢
      cases hf : tabGet tab f with
      | some en =>
        rw [hf] at h h0
        simp only at h h0 ⊢
        obtain ⟨v1, ⟨_, e⟩, _⟩ := hD f en hf _ _ h
        rw [← e]
        split
        · rename_i b hb
          refine ⟨Nat.le_refl _, fun y _ hy => ?_⟩
          show roAll ((p ++ (args ++ q)).flatMap slrs) hs.hp y = hs.hp y
          rw [hb]
          show upd hs.hp b (roB (hs.hp b)) y = hs.hp y
          exact upd_ne _ _ (by omega)
        · rename_i hne
          exact absurd (by split; · rename_i b hb; exact absurd hb (hne b)
                           · rfl) h0
      | none =>
        rw [hf] at h h0
        simp only at h h0 ⊢
        cases hcl : E.clone f with
        | none =>
          rw [hcl] at h h0
          simp only at h h0 ⊢
          cases hro : E.ro f with
          | false => rw [hro] at h0; exact absurd rfl h0
          | true =>
            have e := hG.keep f hro _ _ _ _ h
            exact ⟨e.1, fun b hb _ => e.2 b hb⟩
        | some tw =>
          obtain ⟨t, w⟩ := tw
          rw [hcl] at h
          simp only at h ⊢
          split at h
          · obtain ⟨_, rfl⟩ := h; exact Keeps.push _ _ _
          · split at h
            · rw [cond_eq_ite] at h
              split at h
              · obtain ⟨_, rfl⟩ := h; exact Keeps.push _ _ _
              · exact h.elim
            · exact h.elim
          · exact h.elim
    · exact h.elim
  · exact h.elim
theorem act_keeps (hD : TabDet tab) (hG : CalGood E cal) {nm : Option Nat} {L : List Oper} {o : Oper} {fr : Nat → AV} {hs h' : HS} {c : Nat} {v : AV} (h : Act1 E tab cal nt nm L o fr hs c (fun v' h'' => v' = v ∧ h'' = h')) (hc : c % 3 = 2) (h0 : c / 3 ≠ 0) : Keeps (c / 3) hs h' := by
  obtain ⟨_, h⟩ := h
  rcases h with ⟨_, h, _⟩ | ⟨_, hc', h2⟩
  · omega
  · cases nm with
    | some b =>
      have hc' : c = 3 * (b + 1) := hc'
      omega
    | none =>
    have hc' : c = code E tab o (valsOf o fr) hs := hc'
    have h2 : aop E tab cal o (valsOf o fr) hs (fun v' h'' => v' = v ∧ h'' = h') := h2
    have ht := code_mod (E := E) (tab := tab) o (valsOf o fr) hs
    rw [← hc', hc] at ht
    have e0 : tier E tab o (valsOf o fr) = 2 := by omega
    have hx : c / 3 = tch E tab o (valsOf o fr) hs := by
      have := code2 (hs := hs) e0
      omega
    rw [hx] at h0 ⊢
    rw [aop_t2 e0] at h2
    exact a2_keeps hD hG h2 h0
def Low (n : Nat) (h h2 : HS) : Prop := h.hn ≤ h2.hn ∧ ∀ b, b < n → h2.hp b = h.hp b
theorem Low.refl (n : Nat) (h : HS) : Low n h h := ⟨Nat.le_refl _, fun _ _ => rfl⟩
theorem Low.trans {n : Nat} {a b c : HS} (h : Low n a b) (h2 : Low n b c) : Low n a c := ⟨Nat.le_trans h.1 h2.1, fun x hx => by rw [h2.2 x hx, h.2 x hx]⟩
theorem aop1_low (hD : TabDet tab) (hG : CalGood E cal) {n : Nat} {nm : Option Nat} {ops : List Oper} {o : Oper} {st : St} {p : Nat × St} (hn : n ≤ st.hs.hn) (h : aop1 E tab cal nt nm ops o st (fun c s => (c, s) = p)) (hc : okR n p.1 = true) : Low n st.hs p.2.hs := by
  obtain ⟨c, hact⟩ := aop1_act h
  obtain ⟨v, h', h1, h2⟩ := act_det hD hG.det hact
  subst h1
  have e : (st.put o.dst v h').hs = h' := by cases o.dst <;> rfl
  show Low n st.hs (st.put o.dst v h').hs
  rw [e]
  by_cases hm : c % 3 = 2
  · unfold okR at hc
    have hc : Nat.blt n (c / 3) = true := by
      have hc : (!Nat.beq (c % 3) 2 || Nat.blt n (c / 3)) = true := hc
      rw [hm] at hc
      exact hc
    have hlt : n < c / 3 := by rwa [Nat.blt_eq] at hc
    have hk := act_keeps hD hG h2 hm (by omega)
    exact ⟨hk.1, fun b hb => hk.2 b (by omega) (by omega)⟩
  · rw [act_low hD hG.det h2 hm]
    exact .refl n _
theorem aseqR_low (hD : TabDet tab) (hG : CalGood E cal) (n : Nat) (ops : List Oper) : ∀ (r : List Oper) (st s : St), n ≤ st.hs.hn → aseqR E tab cal nt n ops r st (fun s' => s' = s) → Low n st.hs s.hs
  | [], st, s, _, h => by
    have h : st = s := h
    rw [h]
    exact .refl n _
  | o :: r, st, s, hn, h => by
    obtain ⟨p, h1, h2⟩ := aop1_det (E := E) (nt := nt) hD hG.det none ops o st (fun p => bif okR n p.1 then aseqR E tab cal nt n ops r p.2 (fun s' => s' = s) else False) h
    cases hb : okR n p.1 with
    | false => rw [hb] at h1; exact h1.elim
    | true =>
      rw [hb] at h1
      have hl := aop1_low hD hG hn (h2 (fun q => q = p) rfl) hb
      exact hl.trans (aseqR_low hD hG n ops r p.2 s (Nat.le_trans hn hl.1) h1)
theorem adraw_low (hD : TabDet tab) (hG : CalGood E cal) (n : Nat) (ops : List Oper) : ∀ (r : List Oper) (log : List Nat) (st : St) (p : List Nat × St), n ≤ st.hs.hn → adraw E tab cal nt none ops r log st (fun l s => (l, s) = p) → ∃ l', p.1 = log ++ l' ∧ (l'.all (okR n) = true → Low n st.hs p.2.hs)
  | [], log, st, p, _, h => by
    have h : (log, st) = p := h
    subst h
    exact ⟨[], by simp, fun _ => .refl n _⟩
  | o :: r, log, st, p, hn, h => by
    obtain ⟨q, h1, h2⟩ := aop1_det (E := E) (nt := nt) hD hG.det (nmOf none ops log.length o) ops o st (fun q => bif Nat.ble st.hs.hn q.2.hs.hn then adraw E tab cal nt none ops r (log ++ [q.1]) q.2 (fun l s => (l, s) = p) else False) h
    cases hb : Nat.ble st.hs.hn q.2.hs.hn with
    | false => rw [hb] at h1; exact h1.elim
    | true =>
      rw [hb] at h1
      have hle := Nat.le_of_ble_eq_true hb
      obtain ⟨l', e1, e2⟩ := adraw_low hD hG n ops r (log ++ [q.1]) q.2 p (Nat.le_trans hn hle) h1
      refine ⟨q.1 :: l', by rw [e1]; simp, fun ha => ?_⟩
      rw [List.all_cons, Bool.and_eq_true] at ha
      exact (aop1_low hD hG hn (h2 (fun q' => q' = q) rfl) ha.1).trans (e2 ha.2)
def stO : St ⊕ St → St
  | .inl s => s
  | .inr s => s
theorem acodeR_low (hD : TabDet tab) (hG : CalGood E cal) (n : Nat) : ∀ (c : Code) (st : St) (o : St ⊕ St), n ≤ st.hs.hn → acodeR E tab cal nt n c (fun s => (.inl s : St ⊕ St) = o) (fun s => (.inr s : St ⊕ St) = o) st → Low n st.hs (stO o).hs := by
  intro c
  induction c with
  | skip => intro st o _ h; subst h; exact .refl n _
  | region id ops draw =>
    intro st o hn h
    cases draw with
    | false =>
      obtain ⟨s, h1, h2⟩ := aseqR_det (E := E) (nt := nt) hD hG.det n ops.toList ops.toList st (fun s => (.inl s : St ⊕ St) = o) h
      subst h1
      exact aseqR_low hD hG n _ _ _ _ hn (h2 (fun s' => s' = s) rfl)
    | true =>
      unfold acodeR at h
      cases hr : needR ops.toList with
      | true => rw [hr] at h; exact h.elim
      | false =>
        rw [hr] at h
        have h : adraw E tab cal nt none ops.toList ops.toList [] st fun log st' => bif drawOk st.hs.hn ops.toList log && log.all (okR n) then (.inl st' : St ⊕ St) = o else False := h
        obtain ⟨p, h1, h2⟩ := adraw_det (E := E) (nt := nt) hD hG.det none ops.toList ops.toList [] st (fun p => bif drawOk st.hs.hn ops.toList p.1 && p.1.all (okR n) then (.inl p.2 : St ⊕ St) = o else False) h
        obtain ⟨l', e1, e2⟩ := adraw_low hD hG n _ _ _ _ _ hn (h2 (fun q => q = p) rfl)
        cases hd : drawOk st.hs.hn ops.toList p.1 && p.1.all (okR n) with
        | false => rw [hd] at h1; exact h1.elim
        | true =>
          rw [hd] at h1
          have h1 : (.inl p.2 : St ⊕ St) = o := h1
          subst h1
          rw [Bool.and_eq_true] at hd
          refine e2 ?_
          have := hd.2
          rwa [e1, List.nil_append] at this
  | seq a b iha ihb =>
    intro st o hn h
    obtain ⟨q, h1, h2⟩ := acodeR_det (E := E) (nt := nt) hD hG.det n a st (fun q => match q with | .inl s => acodeR E tab cal nt n b (fun s => (.inl s : St ⊕ St) = o) (fun s => (.inr s : St ⊕ St) = o) s | .inr s => (.inr s : St ⊕ St) = o) h
    have ha := iha st q hn (h2 (fun q' => q' = q) rfl)
    match q, h1, ha with
    | .inl s, h1, ha => exact ha.trans (ihb s o (Nat.le_trans hn ha.1) h1)
    | .inr s, h1, ha => subst h1; exact ha
  | ret => intro st o _ h; subst h; exact .refl n _
  | _ => intro st o _ h; exact h.elim
theorem afun_good (hD : TabDet (detT E tab)) : ∀ d, CalGood E (afun E tab d false)
  | 0 => ⟨afun_det hD 0, fun _ _ _ _ _ _ h => h.elim⟩
  | d + 1 => ⟨afun_det hD (d + 1), by
    intro f hr args hs v h' h
    unfold afun at h
    split at h
    · rename_i fn hf
      split at h
      · rename_i c hb
        cases hn : Nat.ble args.length fn.ntmps with
        | false => rw [hn] at h; exact h.elim
        | true =>
          rw [hn, hr] at h
          obtain ⟨o, h1, h2⟩ := acodeR_det (E := E) (nt := fn.ntmps) hD (afun_det hD d) hs.hn c { fr := lget args, hs } (fun o => match o with | .inl s => afin E fn (fun v' h'' => v' = v ∧ h'' = h') s | .inr s => afin E fn (fun v' h'' => v' = v ∧ h'' = h') s) h
          have hl := acodeR_low hD (afun_good hD d) hs.hn c { fr := lget args, hs } o (Nat.le_refl _) (h2 (fun q => q = o) rfl)
          have fin : ∀ s : St, afin E fn (fun v' h'' => v' = v ∧ h'' = h') s → h' = s.hs := by
            intro s hs
            unfold afin at hs
            split at hs
            · exact hs.2.symm
            · exact hs.elim
          match o, h1, hl with
          | .inl s, h1, hl => rw [fin s h1]; exact hl
          | .inr s, h1, hl => rw [fin s h1]; exact hl
      · exact h.elim
    · exact h.elim⟩
def frOf (L : List Oper) (st : St) (tr : List (Nat × AV × HS)) (l : Nat → Bool) : Nat → (Nat → AV)
  | 0 => st.fr
  | k + 1 => match (L[k]?).bind (·.dst) with
    | some d => bif l k then upd (frOf L st tr l k) d (vAt tr k) else frOf L st tr l k
    | none => frOf L st tr l k
def hsOf (L : List Oper) (st : St) (tr : List (Nat × AV × HS)) (l : Nat → Bool) : Nat → HS
  | 0 => st.hs
  | k + 1 => bif l k && Nat.beq (cAt tr k % 3) 2 then hAt tr k else hsOf L st tr l k
section
variable {L : List Oper} {st : St} {tr : List (Nat × AV × HS)} {l l' : Nat → Bool}
theorem frOf_all : ∀ k, k ≤ L.length → frOf L st tr (fun _ => true) k = (stAt L st tr k).fr
  | 0, _ => rfl
  | k + 1, hk => by
    have hi : L[k]? = some L[k] := List.getElem?_eq_getElem (by omega)
    simp only [frOf, stAt, hi, Option.bind_some, cond_true]
    cases hd : L[k].dst with
    | none => simp only [St.put]; exact frOf_all k (by omega)
    | some d => simp only [St.put]; rw [frOf_all k (by omega)]
theorem hsOf_all (hD : TabDet tab) (hCD : CalDet cal) {rs : Option Nat} (h : Run E tab cal nt rs L 0 L st tr) : ∀ k, k ≤ L.length → hsOf L st tr (fun _ => true) k = (stAt L st tr k).hs
  | 0, _ => rfl
  | k + 1, hk => by
    have hi : L[k]? = some L[k] := List.getElem?_eq_getElem (by omega)
    have ha := run_act h hi
    simp only [hsOf, stAt, hi, Bool.true_and]
    have e : ((stAt L st tr k).put L[k].dst (vAt tr k) (hAt tr k)).hs = hAt tr k := by
      cases L[k].dst <;> rfl
    rw [e]
    cases hc : Nat.beq (cAt tr k % 3) 2 with
    | true => rfl
    | false =>
      have hne : cAt tr k % 3 ≠ 2 := by intro e; rw [e] at hc; cases hc
      simp only [cond_false]
      rw [hsOf_all hD hCD h k (by omega), act_low hD hCD ha hne]
theorem frOf_agree (t : Nat) : ∀ j, (∀ k d, k < j → (L[k]?).bind (·.dst) = some d → d = t → l k = l' k) → frOf L st tr l j t = frOf L st tr l' j t
  | 0, _ => rfl
  | j + 1, h => by
    have ih := frOf_agree t j (fun k d hk => h k d (by omega))
    simp only [frOf]
    cases hd : (L[j]?).bind (·.dst) with
    | none => exact ih
    | some d =>
      simp only
      by_cases e : d = t
      · have := h j d (by omega) hd e
        rw [this]
        cases l' j
        · exact ih
        · simp only [cond_true]; subst e; rw [upd_self, upd_self]
      · have hne : t ≠ d := fun x => e x.symm
        cases l j <;> cases l' j <;> simp only [cond_true, cond_false] <;> (try rw [upd_ne _ _ hne]) <;> (try rw [upd_ne _ _ hne]) <;> exact ih
theorem frOf_stop (t : Nat) (j : Nat) : ∀ m, j ≤ m → (∀ k d, j ≤ k → k < m → (L[k]?).bind (·.dst) = some d → d = t → l k = false) → frOf L st tr l m t = frOf L st tr l j t
  | 0, hj, _ => by have : j = 0 := by omega
                   subst this; rfl
  | m + 1, hj, h => by
    by_cases e : j = m + 1
    · subst e; rfl
    · have ih := frOf_stop t j m (by omega) (fun k d h1 h2 => h k d h1 (by omega))
      simp only [frOf]
      cases hd : (L[m]?).bind (·.dst) with
      | none => exact ih
      | some d =>
        simp only
        by_cases e2 : d = t
        · rw [h m d (by omega) (by omega) hd e2]; exact ih
        · have hne : t ≠ d := fun x => e2 x.symm
          cases l m
          · exact ih
          · simp only [cond_true]; rw [upd_ne _ _ hne]; exact ih
theorem hsOf_agree : ∀ j, (∀ k, k < j → cAt tr k % 3 = 2 → l k = l' k) → hsOf L st tr l j = hsOf L st tr l' j
  | 0, _ => rfl
  | j + 1, h => by
    have ih := hsOf_agree j (fun k hk => h k (by omega))
    simp only [hsOf]
    cases hc : Nat.beq (cAt tr j % 3) 2 with
    | false => simp only [Bool.and_false, cond_false]; exact ih
    | true =>
      rw [h j (by omega) (Nat.eq_of_beq_eq_true hc), ih]
theorem hsOf_stop (j : Nat) : ∀ m, j ≤ m → (∀ k, j ≤ k → k < m → cAt tr k % 3 = 2 → l k = false) → hsOf L st tr l m = hsOf L st tr l j
  | 0, hj, _ => by have : j = 0 := by omega
                   subst this; rfl
  | m + 1, hj, h => by
    by_cases e : j = m + 1
    · subst e; rfl
    · have ih := hsOf_stop j m (by omega) (fun k h1 h2 => h k h1 (by omega))
      simp only [hsOf]
      cases hc : Nat.beq (cAt tr m % 3) 2 with
      | false => simp only [Bool.and_false, cond_false]; exact ih
      | true => rw [h m (by omega) (by omega) (Nat.eq_of_beq_eq_true hc)]; exact ih
end
end
end Gm

namespace Gm
open Go
def Shut (L : List Oper) (l : Nat → Bool) : Prop := ∀ j o, L[j]? = some o → l j = true → ∀ e ∈ o.after, Region.binds .any e = true → l e.on = true
theorem befMask_bit (acc : List Nat) (o : Oper) (i : Nat) (h : (befMask acc o).testBit i = true) : ∃ e, e ∈ o.after ∧ Region.binds .any e = true ∧ (i = e.on ∨ (acc.getD e.on 0).testBit i = true) := by
  unfold befMask at h
  have key : ∀ (es : List Edge) (s : Nat), (es.foldl (fun s e => bif Region.binds .any e then s ||| (1 <<< e.on) ||| acc.getD e.on 0 else s) s).testBit i = true →
      s.testBit i = true ∨ ∃ e, e ∈ es ∧ Region.binds .any e = true ∧ (i = e.on ∨ (acc.getD e.on 0).testBit i = true) := by
    intro es
    induction es with
    | nil => intro s h; exact .inl h
    | cons e r ih =>
      intro s h
      rw [List.foldl_cons] at h
      rcases ih _ h with h1 | ⟨e', h1, h2⟩
      · cases hb : Region.binds .any e with
        | false => rw [hb] at h1; exact .inl h1
        | true =>
          rw [hb] at h1
          simp only [cond_true, Nat.testBit_or, Bool.or_eq_true] at h1
          rcases h1 with (h1 | h1) | h1
          · exact .inl h1
          · refine .inr ⟨e, by simp, hb, .inl ?_⟩
            rw [Nat.one_shiftLeft, Nat.testBit_two_pow] at h1
            exact (of_decide_eq_true h1).symm
          · exact .inr ⟨e, by simp, hb, .inr h1⟩
      · exact .inr ⟨e', by simp [h1], h2⟩
  rcases key _ _ h with h1 | ⟨e, h1, h2⟩
  · simp at h1
  · exact ⟨e, by simpa using h1, h2⟩
theorem befores_shut {L : List Oper} {l : Nat → Bool} (hl : Shut L l) {j i : Nat} (h : ((befores L).getD j 0).testBit i = true) (hj : l j = true) : l i = true := by
  have key : ∀ (r : List Oper) (acc : List Nat), L.drop acc.length = r → (∀ j i, (acc.getD j 0).testBit i = true → l j = true → l i = true) →
      ∀ j i, ((r.foldl (fun acc o => acc ++ [befMask acc o]) acc).getD j 0).testBit i = true → l j = true → l i = true := by
    intro r
    induction r with
    | nil => intro acc _ h; exact h
    | cons o r ih =>
      intro acc hr hacc
      rw [List.foldl_cons]
      have ho : L[acc.length]? = some o := by
        have : (L.drop acc.length)[0]? = some o := by rw [hr]; rfl
        rw [List.getElem?_drop] at this
        simpa using this
      refine ih (acc ++ [befMask acc o]) ?_ ?_
      · rw [List.length_append, List.length_singleton, ← List.drop_drop, hr]; rfl
      · intro j i hb hj
        rcases Nat.lt_trichotomy j acc.length with h1 | h1 | h1
        · refine hacc j i ?_ hj
          rw [List.getD_eq_getElem?_getD] at hb ⊢
          rw [List.getElem?_append_left h1] at hb
          exact hb
        · subst h1
          rw [List.getD_eq_getElem?_getD, List.getElem?_append_right (Nat.le_refl _)] at hb
          simp at hb
          obtain ⟨e, h1, h2, h3⟩ := befMask_bit acc o i hb
          have h4 := hl _ o ho hj e h1 h2
          rcases h3 with rfl | h3
          · exact h4
          · exact hacc _ _ h3 h4
        · rw [List.getD_eq_getElem?_getD, List.getElem?_eq_none (by simp; omega)] at hb
          simp at hb
  exact key L [] (by simp) (by intro j i h; simp at h) j i h hj
theorem memB_iff (n : Nat) : ∀ l : List Nat, memB n l = true ↔ n ∈ l
  | [] => by simp [memB]
  | a :: r => by
    rw [memB, Bool.or_eq_true, memB_iff n r, List.mem_cons]
    constructor
    · rintro (h | h)
      · exact .inl (Nat.eq_of_beq_eq_true h)
      · exact .inr h
    · rintro (h | h)
      · exact .inl (by subst h; exact Nat.beq_refl n)
      · exact .inr h
section
variable {E : Env} {w0 : World} {A : Ow} {tab : Tab} {cal : Callee} {nt : Nat} {L : List Oper} {st : St} {tr : List (Nat × AV × HS)}
theorem cAt_eq (tr : List (Nat × AV × HS)) (i : Nat) : (tr.map (·.1)).getD i 2 = cAt tr i := by
  rw [List.getD_eq_getElem?_getD, List.getElem?_map]; rfl
theorem draw_back {hn : Nat} (h : drawOk hn L (tr.map (·.1)) = true) {j : Nat} {o : Oper} (hj : L[j]? = some o) : ∀ e ∈ o.after, Region.binds .any e = true → e.on < j := by
  unfold drawOk at h
  rw [Bool.and_eq_true] at h
  have h1 := List.all_eq_true.1 h.1 j (List.mem_range.2 (List.getElem?_eq_some_iff.1 hj).1)
  rw [hj] at h1
  intro e he hb
  have h2 := List.all_eq_true.1 h1 e (by simpa using he)
  rw [hb] at h2
  simpa [Nat.blt_eq] using h2
theorem draw_conf {hn : Nat} (h : drawOk hn L (tr.map (·.1)) = true) {i j : Nat} {a b : Oper} (hij : i < j) (hi : L[i]? = some a) (hj : L[j]? = some b) (hc : conf hn L a b (cAt tr i) (cAt tr j) = true) :
    ((befores L).getD j 0).testBit i = true := by
  unfold drawOk at h
  rw [Bool.and_eq_true] at h
  have h1 := List.all_eq_true.1 h.2 j (List.mem_range.2 (List.getElem?_eq_some_iff.1 hj).1)
  have h2 := List.all_eq_true.1 h1 i (List.mem_range.2 hij)
  rw [hi, hj] at h2
  simp only [cAt_eq, hc, Bool.not_true, Bool.false_or] at h2
  rw [Bool.and_eq_true] at h2
  exact h2.1
theorem draw_late {hn : Nat} (h : drawOk hn L (tr.map (·.1)) = true) {i j : Nat} {a b : Oper} (hij : i < j) (hi : L[i]? = some a) (hj : L[j]? = some b) : late (cAt tr i) (cAt tr j) = false := by
  unfold drawOk at h
  rw [Bool.and_eq_true] at h
  have h1 := List.all_eq_true.1 h.2 j (List.mem_range.2 (List.getElem?_eq_some_iff.1 hj).1)
  have h2 := List.all_eq_true.1 h1 i (List.mem_range.2 hij)
  rw [hi, hj] at h2
  simp only [cAt_eq] at h2
  rw [Bool.and_eq_true] at h2
  simpa using h2.2
variable {l : Nat → Bool}
theorem ord_before {hn : Nat} (h : drawOk hn L (tr.map (·.1)) = true) (hs : Shut L l) {i j : Nat} {a b : Oper} (hij : i < j) (hi : L[i]? = some a) (hj : L[j]? = some b)
    (hc : conf hn L a b (cAt tr i) (cAt tr j) = true) (hl : l j = true) : l i = true := befores_shut hs (draw_conf h hij hi hj hc) hl
theorem shut_set (hs : Shut L l) {i : Nat} {o : Oper} (hi : L[i]? = some o) (hr : ∀ e ∈ o.after, Region.binds .any e = true → l e.on = true) : Shut L (fun k => l k || Nat.beq k i) := by
  intro j oj hj hl e he hb
  show (l e.on || Nat.beq e.on i) = true
  rw [Bool.or_eq_true] at hl ⊢
  rcases hl with hl | hl
  · exact .inl (hs j oj hj hl e he hb)
  · have := Nat.eq_of_beq_eq_true hl
    subst this
    rw [hi] at hj
    cases hj
    exact .inl (hr e he hb)
theorem conf_22 {hn : Nat} {a b : Oper} {ca cb : Nat} (h1 : ca % 3 = 2) (h2 : cb % 3 = 2) : conf hn L a b ca cb = true := by
  unfold conf meets
  rw [h1, h2]
  rfl
theorem conf_12 {hn : Nat} {a b : Oper} {ca cb : Nat} (h1 : ca % 3 = 1) (h2 : cb % 3 = 2) (h : cb / 3 = 0 ∨ cb / 3 = ca / 3 + 1) : conf hn L a b ca cb = true := by
  unfold conf meets
  rw [h1, h2]
  rcases h with h | h <;> rw [h] <;> simp
theorem conf_21 {hn : Nat} {a b : Oper} {ca cb : Nat} (h1 : ca % 3 = 2) (h2 : cb % 3 = 1) (h : ca / 3 = 0 ∨ ca / 3 = cb / 3 + 1 ∨ hn ≤ cb / 3) : conf hn L a b ca cb = true := by
  unfold conf meets
  rw [h1, h2]
  rcases h with h | h | h
  · rw [h]; simp
  · rw [h]; simp
  · have : Nat.ble hn (cb / 3) = true := by rw [Nat.ble_eq]; exact h
    rw [this]; simp
theorem conf_02 {hn : Nat} {a b : Oper} {ca cb : Nat} (h1 : ca % 3 = 0) (h0 : 0 < ca) (h2 : cb % 3 = 2) (h : cb / 3 = 0 ∨ cb / 3 = ca / 3) : conf hn L a b ca cb = true := by
  have h0' : Nat.blt 0 ca = true := by rw [Nat.blt_eq]; exact h0
  unfold conf meets
  rw [h1, h2, h0']
  rcases h with h | h <;> rw [h] <;> simp
theorem conf_rw {hn : Nat} {a b : Oper} {ca cb d : Nat} (hd : a.dst = some d) (h : d ∈ looks L b) : conf hn L a b ca cb = true := by
  unfold conf
  rw [hd]
  simp only [(memB_iff d _).2 h, Bool.true_or, Bool.or_true]
theorem conf_ww {hn : Nat} {a b : Oper} {ca cb d : Nat} (hd : a.dst = some d) (h : b.dst = some d) : conf hn L a b ca cb = true := by
  unfold conf
  rw [hd, h]
  simp only [Nat.beq_refl, Bool.or_true, Bool.true_or]
theorem conf_wr {hn : Nat} {a b : Oper} {ca cb d : Nat} (hd : b.dst = some d) (h : d ∈ looks L a) : conf hn L a b ca cb = true := by
  unfold conf
  rw [hd]
  simp only [(memB_iff d _).2 h, Bool.or_true]
theorem draw_step (hD : TabDet tab) (hG : CalGood E cal) {rs : Option Nat} (hrun : Run E tab cal nt rs L 0 L st tr) (hok : drawOk st.hs.hn L (tr.map (·.1)) = true) (hs : Shut L l) {i : Nat} {o : Oper} (hi : L[i]? = some o)
    (hr : ∀ e ∈ o.after, Region.binds .any e = true → l e.on = true) (hun : l i = false) :
    Act1 E tab cal nt (nmOf rs L i o) L o (frOf L st tr l L.length) (hsOf L st tr l L.length) (cAt tr i) (fun v h => (⟨frOf L st tr l L.length, hsOf L st tr l L.length⟩ : St).put o.dst v h =
      ⟨frOf L st tr (fun k => l k || Nat.beq k i) L.length, hsOf L st tr (fun k => l k || Nat.beq k i) L.length⟩) := by
  have hlt := (List.getElem?_eq_some_iff.1 hi).1
  have hs' := shut_set hs hi hr
  have hli : (fun k => l k || Nat.beq k i) i = true := by show (l i || Nat.beq i i) = true; rw [Nat.beq_refl, Bool.or_true]
  have dstAt : ∀ (k d : Nat), (L[k]?).bind (fun x : Oper => x.dst) = some d → ∃ a : Oper, L[k]? = some a ∧ a.dst = some d := by
    intro k d h
    cases hk : L[k]? with
    | none => rw [hk] at h; cases h
    | some a => rw [hk] at h; exact ⟨a, rfl, h⟩
  have beq_ne : ∀ k, k ≠ i → Nat.beq k i = false := fun k hk => by
    cases hb : Nat.beq k i with
    | false => rfl
    | true => exact absurd (Nat.eq_of_beq_eq_true hb) hk
  -- what it looks at
  have look : ∀ t, t ∈ looks L o → frOf L st tr l L.length t = (stAt L st tr i).fr t := by
    intro t ht
    rw [frOf_stop t i L.length (by omega), ← frOf_all i (by omega)]
    · refine frOf_agree t i ?_
      intro k d hk hd hdt
      obtain ⟨a, ha, had⟩ := dstAt k d hd
      subst hdt
      have := ord_before hok hs' hk ha hi (conf_rw had ht) hli
      simp only [beq_ne k (by omega), Bool.or_false] at this
      exact this
    · intro k d hk hk2 hd hdt
      obtain ⟨a, ha, had⟩ := dstAt k d hd
      subst hdt
      by_cases e : k = i
      · subst e; exact hun
      · cases hlk : l k with
        | false => rfl
        | true =>
          have := ord_before hok hs (by omega : i < k) hi ha (conf_wr had ht) hlk
          rw [hun] at this; cases this
  have heap2 : cAt tr i % 3 = 2 → hsOf L st tr l L.length = (stAt L st tr i).hs := by
    intro hc
    rw [hsOf_stop i L.length (by omega)]
    · rw [← hsOf_all hD hG.det hrun i (by omega)]
      refine hsOf_agree i ?_
      intro k hk hc2
      have ha : L[k]? = some L[k] := List.getElem?_eq_getElem (by omega)
      have := ord_before hok hs' hk ha hi (conf_22 hc2 hc) hli
      simp only [beq_ne k (by omega), Bool.or_false] at this
      exact this
    · intro k hk hk2 hc2
      by_cases e : k = i
      · subst e; exact hun
      · have ha : L[k]? = some L[k] := List.getElem?_eq_getElem (by omega)
        cases hlk : l k with
        | false => rfl
        | true =>
          have := ord_before hok hs (by omega : i < k) hi ha (conf_22 hc hc2) hlk
          rw [hun] at this; cases this
  have mono : ∀ j m, j ≤ m → m ≤ L.length → (stAt L st tr j).hs.hn ≤ (stAt L st tr m).hs.hn := by
    intro j m
    induction m with
    | zero => intro h _; have : j = 0 := by omega
              subst this; exact Nat.le_refl _
    | succ m ih =>
      intro h h2
      by_cases e : j = m + 1
      · subst e; exact Nat.le_refl _
      · have h1 := ih (by omega) (by omega)
        have h3 := run_hn hrun (i := m) (by omega)
        rw [stAt_hs (by omega)]
        omega
  have mono0 : ∀ m, m ≤ L.length → st.hs.hn ≤ (stAt L st tr m).hs.hn := fun m hm => mono 0 m (by omega) hm
  -- a block that is looked at
  have heap1 : cAt tr i % 3 = 1 → cAt tr i / 3 < (stAt L st tr i).hs.hn → (hsOf L st tr l L.length).hp (cAt tr i / 3) = (stAt L st tr i).hs.hp (cAt tr i / 3) ∧ cAt tr i / 3 < (hsOf L st tr l L.length).hn := by
    intro hc hxi
    have first : (hsOf L st tr l i).hp (cAt tr i / 3) = (stAt L st tr i).hs.hp (cAt tr i / 3) ∧ cAt tr i / 3 < (hsOf L st tr l i).hn := by
      by_cases hx : cAt tr i / 3 < st.hs.hn
      · have key : ∀ j, j ≤ i → (hsOf L st tr l j).hp (cAt tr i / 3) = (stAt L st tr j).hs.hp (cAt tr i / 3) ∧ cAt tr i / 3 < (hsOf L st tr l j).hn := by
          intro j
          induction j with
          | zero => intro _; exact ⟨rfl, hx⟩
          | succ j ih =>
            intro hj
            obtain ⟨ih1, ih2⟩ := ih (by omega)
            have hjl : j < L.length := by omega
            have haj : L[j]? = some L[j] := List.getElem?_eq_getElem hjl
            have hact := run_act hrun haj
            rw [stAt_hs hjl]
            simp only [hsOf]
            cases hb : (l j && Nat.beq (cAt tr j % 3) 2) with
            | true =>
              have := mono0 (j + 1) (by omega)
              rw [stAt_hs hjl] at this
              exact ⟨rfl, by simp only [cond_true]; omega⟩
            | false =>
              simp only [cond_false]
              refine ⟨?_, ih2⟩
              rw [ih1]
              by_cases h2 : cAt tr j % 3 = 2
              · have hlj : l j = false := by
                  rw [h2] at hb
                  simpa using hb
                have hno : ¬ (cAt tr j / 3 = 0 ∨ cAt tr j / 3 = cAt tr i / 3 + 1 ∨ st.hs.hn ≤ cAt tr i / 3) := by
                  intro h
                  have := ord_before hok hs' (by omega : j < i) haj hi (conf_21 h2 hc h) hli
                  simp only [beq_ne j (by omega), Bool.or_false] at this
                  rw [hlj] at this; cases this
                have hk := act_keeps hD hG hact h2 (fun h => hno (.inl h))
                have h5 := mono0 j (by omega)
                exact (hk.2 _ (by omega) (fun h => hno (.inr (.inl h.symm)))).symm
              · rw [act_low hD hG.det hact h2]
        exact key i (Nat.le_refl _)
      · have e : hsOf L st tr l i = (stAt L st tr i).hs := by
          rw [← hsOf_all hD hG.det hrun i (by omega)]
          refine hsOf_agree i ?_
          intro k hk hc2
          have ha : L[k]? = some L[k] := List.getElem?_eq_getElem (by omega)
          have := ord_before hok hs' hk ha hi (conf_21 hc2 hc (.inr (.inr (by omega)))) hli
          simp only [beq_ne k (by omega), Bool.or_false] at this
          exact this
        rw [e]
        exact ⟨rfl, hxi⟩
    have second : ∀ m, i ≤ m → m ≤ L.length → (hsOf L st tr l m).hp (cAt tr i / 3) = (stAt L st tr i).hs.hp (cAt tr i / 3) ∧ cAt tr i / 3 < (hsOf L st tr l m).hn := by
      intro m
      induction m with
      | zero => intro h _; have : i = 0 := by omega
                subst this; exact first
      | succ m ih =>
        intro h1 h2
        by_cases e : i = m + 1
        · subst e; exact first
        · have ih := ih (by omega) (by omega)
          have hml : m < L.length := by omega
          have ham : L[m]? = some L[m] := List.getElem?_eq_getElem hml
          simp only [hsOf]
          cases hb : (l m && Nat.beq (cAt tr m % 3) 2) with
          | false => exact ih
          | true =>
            rw [Bool.and_eq_true] at hb
            have hm2 := Nat.eq_of_beq_eq_true hb.2
            have chain : ∀ k, i ≤ k → k ≤ m + 1 → (stAt L st tr k).hs.hp (cAt tr i / 3) = (stAt L st tr i).hs.hp (cAt tr i / 3) := by
              intro k
              induction k with
              | zero => intro h3 _; have : i = 0 := by omega
                        subst this; rfl
              | succ k ihk =>
                intro h3 h4
                by_cases e2 : i = k + 1
                · subst e2; rfl
                · have ihk := ihk (by omega) (by omega)
                  have hkl : k < L.length := by omega
                  have hak : L[k]? = some L[k] := List.getElem?_eq_getElem hkl
                  have hact := run_act hrun hak
                  rw [stAt_hs hkl]
                  by_cases h5 : cAt tr k % 3 = 2
                  · have hlk : l k = true := by
                      by_cases e3 : k = m
                      · subst e3; exact hb.1
                      · exact ord_before hok hs (by omega : k < m) hak ham (conf_22 h5 hm2) hb.1
                    have hki : k ≠ i := fun e4 => by subst e4; rw [hun] at hlk; cases hlk
                    have hno : ¬ (cAt tr k / 3 = 0 ∨ cAt tr k / 3 = cAt tr i / 3 + 1) := by
                      intro h
                      have := ord_before hok hs (by omega : i < k) hi hak (conf_12 hc h5 h) hlk
                      rw [hun] at this; cases this
                    have hk := act_keeps hD hG hact h5 (fun h => hno (.inl h))
                    have h6 := mono i k (by omega) (by omega)
                    rw [hk.2 _ (by omega) (fun h => hno (.inr h.symm)), ihk]
                  · rw [act_low hD hG.det hact h5, ihk]
            have h7 := chain (m + 1) (by omega) (Nat.le_refl _)
            rw [stAt_hs hml] at h7
            have h8 := mono i (m + 1) (by omega) (by omega)
            rw [stAt_hs hml] at h8
            exact ⟨h7, by simp only [cond_true]; omega⟩
    exact second L.length (by omega) (Nat.le_refl _)
  have hact := act_congr hD hG.det (run_act hrun hi) look heap1 heap2
  obtain ⟨hd, hact⟩ := hact
  have fin : ∀ v h, (v = vAt tr i ∧ h = if cAt tr i % 3 = 2 then hAt tr i else hsOf L st tr l L.length) → (⟨frOf L st tr l L.length, hsOf L st tr l L.length⟩ : St).put o.dst v h =
      ⟨frOf L st tr (fun k => l k || Nat.beq k i) L.length, hsOf L st tr (fun k => l k || Nat.beq k i) L.length⟩ := by
    rintro v h ⟨rfl, rfl⟩
    have e1 : hsOf L st tr (fun k => l k || Nat.beq k i) L.length = if cAt tr i % 3 = 2 then hAt tr i else hsOf L st tr l L.length := by
      split
      · rename_i hc
        rw [hsOf_stop (i + 1) L.length (by omega)]
        · show (bif (l i || Nat.beq i i) && Nat.beq (cAt tr i % 3) 2 then hAt tr i else _) = _
          rw [hc, Nat.beq_refl, Bool.or_true]; rfl
        · intro k hk hk2 hc2
          show (l k || Nat.beq k i) = false
          rw [beq_ne k (by omega), Bool.or_false]
          have ha : L[k]? = some L[k] := List.getElem?_eq_getElem (by omega)
          cases hlk : l k with
          | false => rfl
          | true =>
            have := ord_before hok hs (by omega : i < k) hi ha (conf_22 hc hc2) hlk
            rw [hun] at this; cases this
      · rename_i hc
        refine hsOf_agree L.length ?_
        intro k hk hc2
        show (l k || Nat.beq k i) = l k
        rw [beq_ne k (fun e => by subst e; exact hc hc2), Bool.or_false]
    have e2 : frOf L st tr (fun k => l k || Nat.beq k i) L.length = match o.dst with | some d => upd (frOf L st tr l L.length) d (vAt tr i) | none => frOf L st tr l L.length := by
      funext t
      cases hod : o.dst with
      | none =>
        refine frOf_agree t L.length ?_
        intro k d hk hd hdt
        show (l k || Nat.beq k i) = l k
        rw [beq_ne k (fun e => by subst e; rw [hi] at hd; simp [hod] at hd), Bool.or_false]
      | some d0 =>
        simp only
        by_cases e : t = d0
        · subst e
          rw [upd_self, frOf_stop t (i + 1) L.length (by omega)]
          · have hb : (L[i]?).bind (·.dst) = some t := by rw [hi]; exact hod
            show (match (L[i]?).bind (·.dst) with | some d => bif (l i || Nat.beq i i) then upd (frOf L st tr (fun k => l k || Nat.beq k i) i) d (vAt tr i) else _ | none => _) t = _
            rw [hb]
            simp only [Nat.beq_refl, Bool.or_true, cond_true]
            rw [upd_self]
          · intro k d hk hk2 hd hdt
            show (l k || Nat.beq k i) = false
            rw [beq_ne k (by omega), Bool.or_false]
            obtain ⟨a, ha, had⟩ := dstAt k d hd
            subst hdt
            cases hlk : l k with
            | false => rfl
            | true =>
              have := ord_before hok hs (by omega : i < k) hi ha (conf_ww hod had) hlk
              rw [hun] at this; cases this
        · rw [upd_ne _ _ e]
          refine frOf_agree t L.length ?_
          intro k d hk hd hdt
          show (l k || Nat.beq k i) = l k
          rw [beq_ne k (fun x => by subst x; rw [hi] at hd; simp [hod] at hd; exact e (hd.symm ▸ hdt.symm)), Bool.or_false]
    rw [e1, e2]
    cases o.dst <;> rfl
  refine ⟨hd, ?_⟩
  rcases hact with ⟨h1, h2, h3⟩ | ⟨h1, h2, h3⟩
  · exact .inl ⟨h1, h2, fin _ _ h3⟩
  · obtain ⟨v, h', h4, h5⟩ := aopN_det hD hG.det _ o _ _ _ h3
    exact .inr ⟨h1, h2, h5 _ (fin _ _ h4)⟩
theorem resv_hp (hD : TabDet tab) (hG : CalGood E cal) {rs : Option Nat} (hrun : Run E tab cal nt rs L 0 L st tr) (hok : drawOk st.hs.hn L (tr.map (·.1)) = true) (hs : Shut L l) {i b : Nat} {o : Oper} (hi : L[i]? = some o)
    (hc : cAt tr i = 3 * (b + 1)) (hb : b < st.hs.hn) (hun : l i = false) : ∀ m, m ≤ L.length → (hsOf L st tr l m).hp b = st.hs.hp b ∧ st.hs.hn ≤ (hsOf L st tr l m).hn := by
  have hilt := (List.getElem?_eq_some_iff.1 hi).1
  have mono0 : ∀ m, m ≤ L.length → st.hs.hn ≤ (stAt L st tr m).hs.hn := by
    intro m
    induction m with
    | zero => intro _; exact Nat.le_refl _
    | succ m ih =>
      intro h2
      have h1 := ih (by omega)
      have h3 := run_hn hrun (i := m) (by omega)
      rw [stAt_hs (by omega)]
      omega
  intro m
  induction m with
  | zero => intro _; exact ⟨rfl, Nat.le_refl _⟩
  | succ m ih =>
    intro hm
    have hml : m < L.length := by omega
    have ham : L[m]? = some L[m] := List.getElem?_eq_getElem hml
    simp only [hsOf]
    cases hlm : (l m && Nat.beq (cAt tr m % 3) 2) with
    | false => exact ih (by omega)
    | true =>
      rw [Bool.and_eq_true] at hlm
      have hm2 := Nat.eq_of_beq_eq_true hlm.2
      have chain : ∀ k, k ≤ m + 1 → (stAt L st tr k).hs.hp b = st.hs.hp b := by
        intro k
        induction k with
        | zero => intro _; rfl
        | succ k ihk =>
          intro hk
          have ihk := ihk (by omega)
          have hkl : k < L.length := by omega
          have hak : L[k]? = some L[k] := List.getElem?_eq_getElem hkl
          have hact := run_act hrun hak
          rw [stAt_hs hkl]
          by_cases h5 : cAt tr k % 3 = 2
          · have hlk : l k = true := by
              by_cases e3 : k = m
              · subst e3; exact hlm.1
              · exact ord_before hok hs (by omega : k < m) hak ham (conf_22 h5 hm2) hlm.1
            have hki : k ≠ i := fun e4 => by subst e4; rw [hun] at hlk; cases hlk
            have hno : ¬ (cAt tr k / 3 = 0 ∨ cAt tr k / 3 = b + 1) := by
              intro h
              have hq : cAt tr i / 3 = b + 1 := by omega
              by_cases e5 : i < k
              · have := ord_before hok hs e5 hi hak (conf_02 (by omega) (by omega) h5 (by rw [hq]; exact h)) hlk
                rw [hun] at this; cases this
              · have h6 := draw_late hok (by omega : k < i) hak hi
                unfold late at h6
                have z0 : Nat.beq (cAt tr i % 3) 0 = true := by rw [show cAt tr i % 3 = 0 by omega]; rfl
                have z1 : Nat.blt 0 (cAt tr i) = true := by rw [Nat.blt_eq]; omega
                rw [z0, z1, h5, hq] at h6
                rcases h with h | h <;> rw [h] at h6 <;> simp at h6
            have hk := act_keeps hD hG hact h5 (fun h => hno (.inl h))
            have h6 := mono0 k (by omega)
            rw [hk.2 _ (by omega) (fun h => hno (.inr h.symm)), ihk]
          · rw [act_low hD hG.det hact h5, ihk]
      have h7 := chain (m + 1) (Nat.le_refl _)
      rw [stAt_hs hml] at h7
      have h8 := mono0 (m + 1) (by omega)
      rw [stAt_hs hml] at h8
      exact ⟨h7, h8⟩
end
end Gm
