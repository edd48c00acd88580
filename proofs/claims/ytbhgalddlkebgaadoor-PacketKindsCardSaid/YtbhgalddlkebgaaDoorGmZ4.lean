/- Functions. -/
import Derived.Test.YtbhgalddlkebgaaDoorGmZ3
import Derived.Tactics
namespace Gm
open Go

def NoNum (P : Program) : Prop := ∀ (f : Nat) (fn : Func), P.funcs[f]? = some fn → (fn.name == "runtime.NumGoroutine") = false

theorem callable {P : Program} (hn : NoNum P) {f : FuncId} {fn : Func} {c : Code} (hf : P.funcs[f]? = some fn) (hb : fn.body = some c) : Callable P f := by
  intro args w
  have := hn f fn hf
  simp [callFunc, go_sem, hf, hb]
  simpa using this

section
variable {E : Env} {w0 : World} {A : Ow} {tab : Tab} {nt : Nat} {S : Sit} {st : St} {a : Act}

def resV (tmps : Array Value) : ResultVar → Sem Value
  | .tmp t => pure (tmps.getD t undef)
  | .cell a t => do loadVar t (← asAddr (tmps.getD a undef))

theorem results_eq (fn : Func) (tmps : Array Value) : results fn tmps = (do let vs ← fn.results.mapM (resV tmps); pure (if h : vs.size = 1 then vs[0] else .tuple vs)) := by
  unfold results resV
  rfl

theorem ares_ok (rs : RS w0 A S nt st a) : ∀ (l : List ResultVar) (vs : List AV), ares E st l = some vs →
    ∃ us : List Value, (l.mapM (resV a.tmps)).run E.P S.w = Result.ok us S.w ∧ vs.length = us.length ∧ ∀ (i : Nat) v u, vs[i]? = some v → us[i]? = some u → Rv S v u
  | [], vs, h => by
    cases h
    exact ⟨[], by simp, rfl, fun i v u h => by simp at h⟩
  | .tmp t :: r, vs, h => by
    unfold ares at h
    cases hr : ares E st r with
    | none => rw [hr] at h; cases h
    | some vs' =>
      rw [hr] at h
      cases h
      obtain ⟨us, h1, h2, h3⟩ := ares_ok rs r vs' hr
      refine ⟨a.tmps.getD t undef :: us, ?_, by simp [h2], ?_⟩
      · simp only [List.mapM_cons, resV, Sem.run_bind, Sem.run_pure, Result.andThen_ok, h1]
      · intro i v u hv hu
        cases i with
        | zero => simp at hv hu; subst hv; subst hu; have := rs.fr t; simpa using this
        | succ i => exact h3 i v u (by simpa using hv) (by simpa using hu)
  | .cell p t :: r, vs, h => by
    unfold ares at h
    split at h
    · rename_i b i hp
      split at h
      · rename_i cs hb
        split at h
        · rename_i v vs' h1 h2
          cases h
          obtain ⟨us, h3, h4, h5⟩ := ares_ok rs r vs' h2
          have hrp := rs.fr p
          rw [hp] at hrp
          obtain ⟨B, c, e, fz, hB, hh, q1, q2, q3, q4⟩ := rs.h.block hb
          generalize hu : a.tmps.getD p undef = u at hrp
          cases hrp with
          | ptr _ _ B' _ hB' =>
            rw [hB] at hB'
            cases hB'
            obtain ⟨u, h6, h7⟩ := load_ok (S := S) (B := B) (f := 0) (fun k => c.getD k undef) h1 (fun i hi => by
              rw [Nat.zero_add, cell_at, hh]
              simp [Array.getD, show i < c.size by omega]) (fun i a' ha => by
                have hi : i < cs.length := (List.getElem?_eq_some_iff.1 ha).1
                have hc : c[i]? = some c[i] := Array.getElem?_eq_getElem (by omega)
                have := q3 i a' c[i] ha hc
                simpa [Array.getD, show i < c.size by omega] using this)
            rw [Nat.zero_add] at h6
            refine ⟨u :: us, ?_, by simp [h4], ?_⟩
            · simp only [List.mapM_cons, resV, Sem.run_bind, Sem.run_pure, hu, asAddr, Result.andThen_ok, h6, h3]
            · intro i v u hv hu
              cases i with
              | zero => simp at hv hu; subst hv; subst hu; exact h7
              | succ i => exact h5 i v u (by simpa using hv) (by simpa using hu)
        · cases h
      · cases h
    · cases h

theorem results_ok {fn : Func} {vs : List AV} (rs : RS w0 A S nt st a) (h : ares E st fn.results.toList = some vs) :
    ∃ u, (results fn a.tmps).run E.P S.w = Result.ok u S.w ∧ Rv S (tupOf vs) u := by
  obtain ⟨us, h1, h2, h3⟩ := ares_ok rs _ _ h
  have h4 : (fn.results.mapM (resV a.tmps)).run E.P S.w = Result.ok us.toArray S.w := by
    rw [Array.mapM_eq_mapM_toList]
    simp only [Sem.run_map, h1]
    rfl
  refine ⟨if h : us.toArray.size = 1 then us.toArray[0] else .tuple us.toArray, ?_, ?_⟩
  · rw [results_eq, Sem.run_bind, h4, Result.andThen_ok, Sem.run_pure]
  · match vs, us, h2, h3 with
    | [v], [u], _, h3 => exact h3 0 v u rfl rfl
    | [], [], _, h3 => exact .tup [] #[] rfl (fun i c v h => by simp at h)
    | v :: v' :: vs, u :: u' :: us, h2, h3 =>
      have : ¬ (u :: u' :: us).toArray.size = 1 := by simp
      rw [dif_neg this]
      exact .tup _ _ (by simpa using h2) (fun i c v hc hv => h3 i c v hc (by simpa using hv))

/-- A call begins. -/
theorem start_rs {hs : HS} {args : List AV} {vs : Array Value} (r : RH w0 A S hs) (hc : Cs S args vs) :
    RS w0 A S nt { fr := lget args, hs } { tmps := vs ++ Array.replicate (nt - vs.size) undef, defers := [] } where
  h := r
  size := by simp; omega
  defers := rfl
  fr := by
    intro t
    have hl : lget args t = (args[t]?).getD .top := by
      clear hc r
      induction args generalizing t with
      | nil => rfl
      | cons x r ih =>
        cases t with
        | zero => rfl
        | succ t => exact ih t
    show Rv S (lget args t) _
    rw [hl]
    cases hx : args[t]? with
    | none => exact .top _
    | some x =>
      have ht : t < args.length := (List.getElem?_eq_some_iff.1 hx).1
      have hsz := hc.1
      have : (vs ++ Array.replicate (nt - vs.size) undef).getD t undef = vs[t]'(by omega) := by
        rw [Array.getD_eq_getD_getElem?, Array.getElem?_append_left (by omega), Array.getElem?_eq_getElem (by omega)]
        rfl
      rw [this]
      exact hc.2 t x _ hx (Array.getElem?_eq_getElem (by omega))

theorem calls_code {lt : Nat → Option LSpec} {cal : Callee} {f : FuncId} {fn : Func} {c : Code} {hs : HS} {args : List AV} {vs : Array Value} {K : AV → HS → Prop}
    (hm : E.P.follows .mixedOrders = true) (hT : TabAt E.P w0 A tab) (hC : CalSound E.P w0 A cal) (hcl : CloneSound E) (hD : TabDet tab) (hCD : CalDet cal) (hlt : S.N = 0 ∨ ∀ i, lt i = none)
    (hl : ∀ p ∈ loopsOf c 0, ∀ l, lt p.1 = some l → LSound E tab cal fn.ntmps lt p.1 p.2 l)
    (hf : E.P.funcs[f]? = some fn) (hb : fn.body = some c) (r : RH w0 A S hs) (hc : Cs S args vs)
    (h : acode E tab cal fn.ntmps lt c 0 (fun _ => False) (fun _ _ => False) (afin E fn K) { fr := lget args, hs }) :
    Calls E.P f vs S.w (fun e w' => ∃ v a T hs', e = .returned v ∧ T.w = w' ∧ Le S T ∧ RH w0 A T hs' ∧ Rv T a v ∧ K a hs') := by
  refine calls_of_wp hf hb (wp_mono (code_wp hm hT hC hcl hD hCD hlt c 0 _ _ _ S _ _ hl (.refl S) (start_rs r hc) h) ?_)
  intro e a w he
  cases e with
  | normal => obtain ⟨_, _, _, _, _, h⟩ := he; exact h.elim
  | exit i => obtain ⟨_, _, _, _, _, h⟩ := he; exact h.elim
  | ret =>
    obtain ⟨T, st, rfl, h1, h2, h3⟩ := he
    unfold afin at h3
    split at h3
    · rename_i vs hvs
      obtain ⟨u, h4, h5⟩ := results_ok h2 hvs
      exact ⟨h2.defers, u, h4, u, _, T, st.hs, rfl, rfl, h1, h2.h, h5, h3⟩
    · exact h3.elim
  | goto l => exact he.elim
  | panic ch => exact he.elim
  | outgrown => exact he.elim

theorem afun_sound (hnn : NoNum E.P) (hm : E.P.follows .mixedOrders = true) (hT : TabAt E.P w0 A tab) (hcl : CloneSound E) (hD : TabDet tab) : ∀ d, CalSound E.P w0 A (afun E tab d)
  | 0 => fun _ _ _ _ h => h.elim
  | d + 1 => by
    intro f args hs K h
    unfold afun at h
    split at h
    · rename_i fn hf
      split at h
      · rename_i c hb
        cases hn : Nat.ble args.length fn.ntmps with
        | false => rw [hn] at h; exact h.elim
        | true =>
          rw [hn] at h
          refine ⟨callable hnn hf hb, fun S vs r hc => ?_⟩
          exact calls_code hm hT (afun_sound hnn hm hT hcl hD d) hcl hD (afun_det hD d) (.inr fun _ => rfl) (fun _ _ _ h => by cases h) hf hb r hc h
      · exact h.elim
    · exact h.elim

end
end Gm
